/- Part 34 of the proof: Lh, AeNh. -/
import Derived.Test.YtfmnflhggplkmaaGreatDoorU32
set_option linter.all false
section
namespace Go.Known
open Go Go.AE Go.Proofs
def ag85:AFn:=⟨41,[(2,none)],(sr [mnZ 2]
 (sr [mv 7 0,nc 8 7,fa 9 0 8,fa 10 1 9,lo 11 10,le 12 11,oZ 13 (.makeSl 1 1 [(.bool false)] (tZ 12) (tZ 12)),mv 3 13]
 (sr [mfZ 4]
 (.seq (sr [mv 14 0,nc 15 14,fa 16 0 15,fa 17 1 16,lo 18 17,le 19 18,mk 20 0]
 (.block 0 (.loop (sr [cL 21 20 19]
 (.seq (.cond (tZ 21) .skip
 (.exit 0))
 (.seq (.block 1 (sr [mv 22 20,ix 23 6 18 20,lw 24 6 23,oZ 6 (.alloc [(.int .i64 0),(.int .i64 0),(.int .i64 0),(.int .i64 0),(.int .i64 0),(.bool false)]),mv 5 22,so 6 6 24]
 (.seq (sr [fa 25 0 6,lo 26 25,cEk 27 26 1]
 (.cond (tZ 27) (rf [mv 28 0,nc 29 28,fa 30 2 29,lo 31 30,mv 32 5,ix 33 1 31 32,lo 34 33,mv 4 34])
 .skip))
 (rf [mv 35 3,mv 36 5,mv 37 4,ix 38 1 35 36,so 1 38 37]))))
 (rf [aDk 39 20 1,mv 20 39])))))))
 (sr [mv 40 3,mv 2 40]
 .ret)))))⟩
theorem ch85:cFn Tryz.prog Tryz.f106=some ag85:=by kernel_rfl
def ag86:AFn:=⟨93,[(8,(some (some 5)))],(sr [oZ 8 (.alloc [(.bool false),.nilSl,.nilSl,.nilSl,(.bool false)])]
 (.scope (.seq (.region true [mv 16 0,nc 17 16,fa 18 0 17,fa 19 1 18,lo 20 19,le 21 20,mv 22 0,nc 23 22,fa 24 3 23,lo 25 24,le 26 25,mv 9 21,mv 10 26])
 (sr [mv 27 3,mv 28 1,aQk 29 28 2,ix 30 1 27 29,lo 31 30,no 32 31,oZ 33 (.build [(.bool false),.nilSl,.nilSl,.nilSl,(.bool false)] [(0,1,tZ 32)]),oZ 11 (.alloc [(.bool false),.nilSl,.nilSl,.nilSl,(.bool false)]),so 5 11 33]
 (.seq .skip
 (.seq (sr [mv 34 1,mv 12 34]
 (.block 0 (.loop (.seq (.block 1 (.seq (sr [mv 38 12,mv 39 9,oZ 40 (.bin .mul .num (kZ 2) (tZ 39)),cL 41 38 40]
 (.cond (tZ 41) (.seq (sr [mv 42 2,mv 43 12,ix 44 1 42 43,lo 45 44]
 (.cond (tZ 45) (.exit 0)
 .skip))
 (sr [mv 46 2,mv 47 12,ix 48 1 46 47,pZ (.store 1 (tZ 48) (bZ true))]
 (sr [fa 49 1 11,lo 50 49,mv 51 12,oZ 52 (.mkSl 1 1 [(.int .i64 0)] [(0,tZ 51)]),oZ 53 (.append 1 8 [(.int .i64 0)] (tZ 50) (tZ 52)),fa 54 1 11,so 1 54 53]
 (.exit 1))))
 .skip))
 (sr [mv 55 12,mv 56 9,oZ 57 (.bin .mul .num (kZ 2) (tZ 56)),aS 58 55 57,aQk 59 58 2,mv 13 59]
 (sr [mv 61 0,mv 62 13,ca2 63 132 61 62,mv 60 63,ex 64 60 0,ex 65 60 1,mv 14 64,mv 15 65]
 (.seq (sr [mv 66 12,aRk 67 66 2,cEk 68 67 1]
 (.cond (tZ 68) (sr [mv 69 14,ca1 70 133 69]
 (rf [mv 71 15,ca1 72 134 71]))
 .skip))
 (.seq (.region true [fa 73 2 11,lo 74 73,mv 75 14,oZ 76 (.append 2 16 [(.int .i64 0),(.int .i64 0)] (tZ 74) (tZ 75)),fa 77 3 11,⟨(some 78),.load none (tZ 77),none,[3]⟩,mv 79 15,oZ 80 (.append 1 8 [(.int .i64 0)] (tZ 78) (tZ 79)),fa 81 2 11,so 1 81 76,fa 82 3 11,so 1 82 80])
 (rf [fa 83 4 11,lo 84 83,mv 85 84,gfm 86 85 13,gfm 87 85 10,gZ 88 85 false (.bin .sub .num (tZ 87) (kZ 1)),gZ 89 85 false (.bin .eql .num (tZ 86) (tZ 88)),pk1 90 85 89,fa 91 4 11,so 1 91 90])))))))
 (rf [mv 35 0,mv 36 12,ca2 37 121 35 36,mv 12 37])))))
 (sr [lw 92 5 11,so 5 8 92]
 .ret)))))))⟩
theorem ch86:cFn Tryz.prog Tryz.f107=some ag86:=by kernel_rfl
def ag143:AFn:=⟨98,[(4,none),(5,none)],(sr [mnZ 4,mnZ 5]
 (sr [mv 14 0,nc 15 14,fa 16 3 15,lo 17 16,le 18 17,mv 6 18]
 (.seq (.region true [mv 19 0,nc 20 19,fa 21 0 20,fa 22 1 21,lo 23 22,mv 24 0,nc 25 24,fa 26 3 25,lo 27 26,mv 28 1,ix 29 1 27 28,lo 30 29,ix 31 6 23 30,lw 32 6 31,mv 33 0,nc 34 33,fa 35 0 34,fa 36 1 35,lo 37 36,mv 38 0,nc 39 38,fa 40 3 39,lo 41 40,mv 42 1,aDk 43 42 1,mv 44 6,aR 45 43 44,ix 46 1 41 45,lo 47 46,ix 48 6 37 47,lw 49 6 48,⟨(some 7),.alloc [(.int .i64 0),(.int .i64 0),(.int .i64 0),(.int .i64 0),(.int .i64 0),(.bool false)],none,[4,8,10,11,12,13,18,22,27,28,29,30]⟩,⟨(some 8),.alloc [(.int .i64 0),(.int .i64 0),(.int .i64 0),(.int .i64 0),(.int .i64 0),(.bool false)],none,[4,8,10,11,12,13,18,22,27,28,29,30,31]⟩,⟨none,.store 6 (tZ 7) (tZ 32),none,[18,22,27,28,29,30]⟩,so 6 8 49])
 (sr [fa 50 1 7,lo 51 50,fa 52 2 7,lo 53 52,oZ 54 (.build [(.int .i64 0),(.int .i64 0)] [(0,1,tZ 51),(1,1,tZ 53)]),oZ 9 (.alloc [(.int .i64 0),(.int .i64 0)]),so 2 9 54]
 (sr [fa 55 1 8,lo 56 55,fa 57 2 8,lo 58 57,aSk 59 58 1,oZ 60 (.build [(.int .i64 0),(.int .i64 0)] [(0,1,tZ 56),(1,1,tZ 59)]),oZ 10 (.alloc [(.int .i64 0),(.int .i64 0)]),so 2 10 60]
 (.seq (sr [mv 61 1,mv 62 6,aSk 63 62 1,cL 64 61 63]
 (.cond (tZ 64) (sr [lw 65 2 9,lw 66 2 10,oZ 67 (.call (.fn 144) [tZ 65,tZ 66,(.const .nilSl),(.const .nilSl)]),ex 68 67 0,ex 69 67 1,mv 4 68,mv 5 69]
 .ret)
 .skip))
 (sr [mv 70 0,nc 71 70,fa 72 0 71,fa 73 0 72,lo 74 73,oZ 75 (.build [(.int .i64 0),(.int .i64 0)] [(0,1,tZ 74)]),oZ 11 (.alloc [(.int .i64 0),(.int .i64 0)]),so 2 11 75]
 (.seq (.seq (.region true [fa 76 1 7,lo 77 76,mv 78 0,nc 79 78,fa 80 0 79,fa 81 0 80,lo 82 81,cE 83 77 82])
 (.cond (tZ 83) (rf [lw 84 2 9,so 2 11 84])
 .skip))
 (sr [lw 86 2 9,lw 87 2 11,oZ 88 (.call (.fn 144) [tZ 86,tZ 87,(.const .nilSl),(.const .nilSl)]),mv 85 88,ex 89 85 0,ex 90 85 1,mv 12 89,mv 13 90]
 (sr [oZ 91 (.build [(.int .i64 0),(.int .i64 0)] []),lw 92 2 10,mv 93 12,mv 94 13,oZ 95 (.call (.fn 144) [tZ 91,tZ 92,tZ 93,tZ 94]),ex 96 95 0,ex 97 95 1,mv 4 96,mv 5 97]
 .ret))))))))))⟩
theorem ch143:cFn Tryz.prog Tryz.f132=some ag143:=by kernel_rfl
def ag179:AFn:=⟨33,[(8,none),(9,none)],(sr [bo 4 0,bo 5 1,mnZ 8,mnZ 9]
 (.seq (.block 0 (.loop (.seq (sr [fa 10 0 4,lo 11 10,fa 12 0 5,lo 13 12,cL 14 11 13]
 (.cond (tZ 14) .skip
 (.exit 0)))
 (.block 1 (sr [mv 15 2,lw 16 2 4,oZ 17 (.mkSl 2 1 [(.int .i64 0),(.int .i64 0)] [(0,tZ 16)]),oZ 18 (.append 2 16 [(.int .i64 0),(.int .i64 0)] (tZ 15) (tZ 17)),mv 2 18]
 (sr [fa 19 0 4,lo 20 19,aDk 21 20 1,oZ 22 (.build [(.int .i64 0),(.int .i64 0)] [(0,1,tZ 21)]),so 2 4 22]
 (rf [mv 23 3,fa 24 0 4,lo 25 24,oZ 26 (.mkSl 1 1 [(.int .i64 0)] [(0,tZ 25)]),oZ 27 (.append 1 8 [(.int .i64 0)] (tZ 23) (tZ 26)),mv 3 27])))))))
 (sr [mv 28 2,lw 29 2 5,oZ 30 (.mkSl 2 1 [(.int .i64 0),(.int .i64 0)] [(0,tZ 29)]),oZ 31 (.append 2 16 [(.int .i64 0),(.int .i64 0)] (tZ 28) (tZ 30)),mv 32 3,mv 8 31,mv 9 32]
 .ret)))⟩
theorem ch179:cFn Tryz.prog Tryz.f144=some ag179:=by kernel_rfl
def ag144:AFn:=⟨28,[],(sr [mv 4 0,le 5 4,aSk 6 5 1,mk 2 0,mv 3 6]
 (.block 0 (.loop (.seq (sr [mv 7 2,mv 8 3,cL 9 7 8]
 (.cond (tZ 9) .skip
 (.exit 0)))
 (.seq (.block 1 (.region true [mv 14 0,mv 15 2,mv 16 0,mv 17 3,mv 18 0,mv 19 3,ix 20 2 18 19,lw 21 2 20,mv 22 0,mv 23 2,ix 24 2 22 23,lw 25 2 24,ix 26 2 14 15,so 2 26 21,ix 27 2 16 17,so 2 27 25]))
 (rf [mv 10 2,aDk 11 10 1,mv 12 3,aSk 13 12 1,mv 2 11,mv 3 13]))))))⟩
theorem ch144:cFn Tryz.prog Tryz.f133=some ag144:=by kernel_rfl
def ag145:AFn:=⟨28,[],(sr [mv 4 0,le 5 4,aSk 6 5 1,mk 2 0,mv 3 6]
 (.block 0 (.loop (.seq (sr [mv 7 2,mv 8 3,cL 9 7 8]
 (.cond (tZ 9) .skip
 (.exit 0)))
 (.seq (.block 1 (.region true [mv 14 0,mv 15 2,mv 16 0,mv 17 3,mv 18 0,mv 19 3,ix 20 1 18 19,lo 21 20,mv 22 0,mv 23 2,ix 24 1 22 23,lo 25 24,ix 26 1 14 15,so 1 26 21,ix 27 1 16 17,so 1 27 25]))
 (rf [mv 10 2,aDk 11 10 1,mv 12 3,aSk 13 12 1,mv 2 11,mv 3 13]))))))⟩
theorem ch145:cFn Tryz.prog Tryz.f134=some ag145:=by kernel_rfl
end Go.Known
end
section
namespace Go.AE
open Go.RowKit
def onlyG (get:Nat→Option ABlk) (S:List Nat) (b:Nat):Option ABlk:=bif memN b S then get b else none
def fzV (get:Nat→Option ABlk) (S:List Nat) (x:AVal):AVal:=
 match freezeV (onlyG get S) 5 x with
 | some y=>y
 | none=>x
def fzLL (get:Nat→Option ABlk) (S:List Nat) (els:List (List AVal)):List (List AVal):=els.map (List.map (fzV get S))
theorem BR.fz {Φ Φs:Pers} {ρ:Rho} {get:Nat→Option ABlk} {S:List Nat} (hf:∀ x v,R Φ ρ x v→R Φs ρ (fzV get S x) v) {k:Nat} {els:List (List AVal)} {l:Loc} {o:Obj} (h:BR Φ ρ (.cells k els) l o):BR Φs ρ (.cells k (fzLL get S els)) l o:=by
 cases h with
 | cells _ _ _ c e hk hn hl hr h1=>
  have hget:∀ (i:Nat) (row:List AVal),(fzLL get S els)[i]? = some row → ∃ row0,els[i]? = some row0∧row=row0.map (fzV get S):=by
   intro i row hi
   rw[fzLL,List.getElem?_map]at hi
   grind
  refine .cells k _ l c e hk hn (by rw[fzLL,List.length_map]; exact hl) ⟨fun i row hi=>?_,fun i row j x hi hj=>?_⟩ h1
  ·obtain⟨r0,g1,rfl⟩:=hget i row hi
   rw[List.length_map]; exact hr.1 i r0 g1
  ·obtain⟨r0,g1,rfl⟩:=hget i row hi
   rw[List.getElem?_map]at hj
   cases h0:r0[j]? with
   | none=>grind
   | some x0=>
    rw[h0]at hj; injection hj with hj; subst hj
    obtain⟨v,k1,k2,k3⟩:=hr.2 i r0 j x0 g1 h0
    grind
def SubFB (q:Nat→Nat) (S:List Nat):List (Nat×ABlk)→SMem→Prop
 | [],_=>True
 | (b,x) :: r,m=>(memN (q b) S=false∧(m.get (q b)=some (x.ren q) ∨ ∃ k els,m.get (q b)=some (.cells k els)∧x.ren q=.cells k (fzLL m.get S els)))∧SubFB q S r m
theorem SubFB.get {q:Nat→Nat} {S:List Nat}:∀ {l:List (Nat×ABlk)} {m:SMem},SubFB q S l m → ∀ b x,lookB l b=some x→memN (q b) S=false ∧ ∃ y,m.get (q b)=some y∧(x.ren q=y ∨ ∃ k els,y=.cells k els∧x.ren q=.cells k (fzLL m.get S els))
 | [],m,_,b,x,h=>by simp[lookB]at h
 | (c,y) :: r,m,hs,b,x,h=>by
  simp only[lookB]at h
  split at h
  ·rename_i hb; subst hb; injection h with h; subst h
   refine⟨hs.1.1,?_⟩
   rcases hs.1.2 with h1|⟨k,els,h1,h2⟩
   ·exact⟨_,h1,.inl rfl⟩
   grind
  ·exact hs.2.get b x h
theorem freezeV_closed {get:Nat→Option ABlk}:∀ (n:Nat) (x y:AVal),x.closed=true→freezeV get n x=some y→y=x:=by
 intro n
 induction n with
 | zero=>intro x y _ h; simp[freezeV]at h
 | succ n ih=>
  have hL:∀ (l:List AVal) (ds:List AVal),closedL l=true→mapO (freezeV get n) l=some ds→ds=l:=by
   intro l
   induction l with
   | nil=>intro ds _ h; simp only[mapO,Option.some.injEq]at h; exact h.symm
   | cons a r ihr=>
    intro ds hc h
    simp only[closedL,Bool.and_eq_true]at hc
    simp only[mapO]at h
    grind
  have hLL:∀ (l ds:List (List AVal)),closedLL l=true→mapO (mapO (freezeV get n)) l=some ds→ds=l:=by
   intro l
   induction l with
   | nil=>intro ds _ h; simp only[mapO,Option.some.injEq]at h; exact h.symm
   | cons a r ihr=>
    intro ds hc h
    simp only[closedLL,Bool.and_eq_true]at hc
    simp only[mapO]at h
    grind
  intro x y hc h
  cases x<;>simp only[freezeV]at h<;>first|(simp only[Option.some.injEq]at h; exact h.symm)|(cases h; done)|(cases hc; done)|skip
  ·rename_i els
   cases hm:mapO (mapO (freezeV get n)) els with
   | none=>simp[hm]at h
   | some ds=>simp only[hm,Option.some.injEq]at h; subst h; rw[hLL els ds hc hm]
  ·rename_i cs
   cases hm:mapO (freezeV get n) cs with
   | none=>simp[hm]at h
   | some ds=>simp only[hm,Option.some.injEq]at h; subst h; rw[hL cs ds hc hm]
  ·rename_i cs
   cases hm:mapO (freezeV get n) cs with
   | none=>simp[hm]at h
   | some ds=>simp only[hm,Option.some.injEq]at h; subst h; rw[hL cs ds hc hm]
theorem fzV_closed {get:Nat→Option ABlk} {S:List Nat} {x:AVal} (h:x.closed=true):fzV get S x=x:=by
 unfold fzV
 cases hz:freezeV (onlyG get S) 5 x with
 | none=>rfl
 | some y=>exact freezeV_closed 5 x y h hz
theorem fzL_closed {get:Nat→Option ABlk} {S:List Nat}:∀ {l:List AVal},closedL l=true→l.map (fzV get S)=l
 | [],_=>rfl
 | x :: r,h=>by
  simp only[closedL,Bool.and_eq_true]at h
  rw[List.map_cons,fzV_closed h.1,fzL_closed h.2]
theorem fzLL_closed {get:Nat→Option ABlk} {S:List Nat}:∀ {l:List (List AVal)},closedLL l=true→fzLL get S l=l
 | [],_=>rfl
 | x :: r,h=>by
  simp only[closedLL,Bool.and_eq_true]at h
  have:=fzLL_closed (get:=get) (S:=S) h.2
  unfold fzLL at this ⊢
  rw[List.map_cons,fzL_closed h.1,this]
theorem fzLL_append {get:Nat→Option ABlk} {S:List Nat} (a b:List (List AVal)):fzLL get S (a++b)=fzLL get S a++fzLL get S b:=by simp[fzLL]
theorem mapO_closed {get:Nat→Option ABlk} {n:Nat}:∀ {l:List (List AVal)},(∀ row,row∈l → ∀ x,x∈row→freezeV get n x=some x)→mapO (mapO (freezeV get n)) l=some l
 | [],_=>rfl
 | a :: r,h=>by
  have h1:mapO (freezeV get n) a=some a:=by
   have ha:=h a (List.mem_cons_self ..)
   clear h
   induction a with
   | nil=>rfl
   | cons x t ih=>
    simp only[mapO]
    grind
  simp only[mapO]
  rw[h1,mapO_closed fun row hr=>h row (List.mem_cons_of_mem _ hr)]
theorem fzV_sl {get:Nat→Option ABlk} {S:List Nat} {b k len:Nat} {els:List (List AVal)} (hb:memN b S=true) (hg:get b=some (.cells k els)) (hl:els.length=len) (hs:∀ row,row∈els → ∀ x,x∈row→freezeV (onlyG get S) 4 x=some x):fzV get S (.sl b 0 len)=.imm els:=by
 have h:onlyG get S b=some (.cells k els):=by unfold onlyG; rw[hb]; exact hg
 subst hl
 have h1:Nat.ble (0+els.length) els.length=true:=by simp
 unfold fzV
 rw[freezeV]
 simp only[h,h1,cond_true,List.drop_zero,List.take_length,mapO_closed hs]
end Go.AE
end
