/- Part 34 of the proof: Pt, Sf, Lm, AeWv. -/
import Derived.Test.YtfmnflhggplkmaaGreatDoorO9
import Derived.Test.YtfmnflhggplkmaaGreatDoorO23
import Derived.Test.YtfmnflhggplkmaaGreatDoorO25
import Derived.Test.YtfmnflhggplkmaaGreatDoorO26
import Derived.Test.YtfmnflhggplkmaaGreatDoorO33
set_option linter.all false
section
namespace Go.Known
open Go.Plain
def bkC (ls:List Lt) (i:Nat):Bool:=isP (at' ls.reverse i) && !down ls (ls.length - 1 - i)
def backN (ls:List Lt):List Lt:=match (List.range ls.length).find? (bkC ls)with
 | some i=>rotL i ls.reverse
 | none=>ls.reverse
end Go.Known
end
section
namespace Go.Known
open Go Go.AE Go.Proofs
open Go.Plain
theorem same_rowL (a b:Lt):sameCells [.int,.int,.int,.int,.int,.bool] (rowL a) (rowL b)=some (decide (a=b)):=by
 obtain⟨a1,a2,a3,a4,a5,a6⟩:=a
 obtain⟨b1,b2,b3,b4,b5,b6⟩:=b
 simp only[rowL,sameCells,keyEq,if_true,Lt.mk.injEq]
 grind
theorem ne_rowL (a b:Lt):binA .neq (.flat [.int,.int,.int,.int,.int,.bool]) (.agg (rowL a)) (.agg (rowL b))=some (.bool (!decide (a=b))):=by
 simp only[binA,eqA,same_rowL]
theorem get_row (ls:List Lt) {i:Nat} (h:i<ls.length):(ls.map rowL)[i]? = some (rowL (at' ls i)):=by
 rw[List.getElem?_map,List.getElem?_eq_getElem h,at',List.getD,List.getElem?_eq_getElem h]
 rfl
theorem drop_same {a b:List Lt} {i:Nat} (ha:i<a.length) (hb:i<b.length) (h:at' a i=at' b i):(a.drop i=b.drop i)=(a.drop (i+1)=b.drop (i+1)):=by
 rw[List.drop_eq_getElem_cons ha,List.drop_eq_getElem_cons hb]
 have e:a[i]=b[i]:=by simpa[at',List.getD,ha,hb]using h
 grind
end Go.Known
end
section
namespace Go.Known
open Go Go.AE Go.Proofs
def ajRValid:AFn:=⟨67,[(2,none)],(sr [bo 1 0,mfZ 2]
 (.seq (sr [fa 5 0 1,lo 6 5,le 7 6,cGk 8 7 40,mv 9 8,gff 10 9 1 1,gfl 11 9 10,gZ 12 9 false (.bin .lss .num (tZ 11) (kZ 0)),pk1 13 9 12,mv 14 13,gff 15 14 1 1,gfl 16 14 15,gZ 17 14 false (.bin .gtr .num (tZ 16) (kZ 40)),pk1 18 14 17,mv 19 18,gff 20 19 2 1,gfl 21 19 20,gZ 22 19 false (.bin .lss .num (tZ 21) (kZ 1)),pk1 23 19 22,mv 24 23,gff 25 24 2 1,gfl 26 24 25,gZ 27 24 false (.bin .gtr .num (tZ 26) (kZ 20)),pk1 28 24 27]
 (.cond (tZ 28) (sr [mfZ 2]
 .ret)
 .skip))
 (.seq (sr [mk 3 0]
 (.block 0 (.loop (.seq (sr [mv 29 3,fa 30 0 1,lo 31 30,le 32 31,cL 33 29 32]
 (.cond (tZ 33) .skip
 (.exit 0)))
 (.seq (.block 1 (sr [fa 36 0 1,lo 37 36,mv 38 3,ix 39 3 37 38,lw 40 3 39,oZ 4 (.alloc [(.int .i64 0),(.bool false),(.int .i64 0)]),so 3 4 40]
 (sr [fa 41 0 4,lo 42 41,cLk 43 42 1,mv 44 43,gff 45 44 0 4,gfl 46 44 45,gZ 47 44 false (.bin .gtr .num (tZ 46) (kZ 9)),pk1 48 44 47,mv 49 48,gff 50 49 2 4,gfl 51 49 50,gZ 52 49 false (.bin .lss .num (tZ 51) (kZ 0)),pk1 53 49 52,mv 54 53,gff 55 54 2 4,gfl 56 54 55,gZ 57 54 false (.bin .gtr .num (tZ 56) (kZ 6)),pk1 58 54 57,mv 59 58,gZ 60 59 false (.load (some 3) (tZ 1)),gZ 61 59 false (.load (some 3) (tZ 4)),gZ 62 59 false (.call (.fn 13) [tZ 60,tZ 61]),gfm 63 59 3,gZ 64 59 false (.bin .add .num (tZ 63) (kZ 1)),gZ 65 59 false (.bin .neq .num (tZ 62) (tZ 64)),pk1 66 59 65]
 (.cond (tZ 66) (sr [mfZ 2]
 .ret)
 .skip))))
 (rf [mv 34 3,aDk 35 34 1,mv 3 35]))))))
 (sr [mtZ 2]
 .ret))))⟩
theorem cjRValid:cFn Tryz.prog Tryz.f11=some ajRValid:=by kernel_rfl
def ajRIndex:AFn:=⟨22,[(4,none)],(sr [bo 2 0,bo 3 1,mk 4 0]
 (.seq (sr [mk 5 0]
 (.block 0 (.loop (.seq (sr [mv 6 5,fa 7 0 2,lo 8 7,le 9 8,cL 10 6 9]
 (.cond (tZ 10) .skip
 (.exit 0)))
 (.seq (.block 1 (.seq (.region true [fa 13 0 2,lo 14 13,mv 15 5,ix 16 3 14 15,lw 17 3 16,lw 18 3 3,oZ 19 (.bin .eql (.flat [.int,.bool,.int]) (tZ 17) (tZ 18))])
 (.cond (tZ 19) (sr [mv 20 5,aDk 21 20 1,mv 4 21]
 .ret)
 .skip)))
 (rf [mv 11 5,aDk 12 11 1,mv 5 12]))))))
 (sr [mk 4 0]
 .ret)))⟩
theorem cjRIndex:cFn Tryz.prog Tryz.f13=some ajRIndex:=by kernel_rfl
end Go.Known
end
section
namespace Go.AE
open Go.RowKit
def slArrV (n k:Nat) (get:Nat→Option ABlk) (v:AVal) (lh:Option (Nat×Nat)):Option (AVal×Nat):=
 match k,v,lh with
 | 1,.ptr b i j,some (l,h)=>match get b with
  | some (.cells _ els)=>match fzV get [b] (.sl b i 1)with
   | .imm [row]=>if i<els.length∧j+n≤row.length∧h≤n∧l≤h then some (.imm (((row.drop (j+l)).take (h - l)).map fun y=>[y]),b)else none
   | _=>none
  | _=>none
 | _,_,_=>none
section
variable {P:Program} {W:Base} {Φ:Pers} {ρ:Rho} {w:World} {m:Mem} {a:Act} {t:List AVal}
theorem slArr_of {o:Oper} {n k:Nat} {x:AOpd} {lo hi:Option AOpd} (ho:cOp' P o=.slArr n k x lo hi):∃ ty e x0 lo0 hi0,o.op=.slice ty x0 lo0 hi0 none∧P.underlying ty=some (.array n e)∧cSize P e=some k∧cOpd x0=some x∧cOpt lo0=some lo∧cOpt hi0=some hi:=by
 unfold cOp' at ho
 cases hc:cOp P o with
 | none=>simp[hc]at ho
 | some op=>
  simp only[hc,Option.getD_some]at ho
  subst ho
  unfold cOp at hc
  split at hc<;>first|(cases hc; done)|skip
  all_goals first
   | (simp only[Option.map_eq_some_iff]at hc; obtain⟨_,_,hc⟩:=hc; cases hc; done)
   | (split at hc<;>first|(cases hc; done)|skip
      all_goals (split at hc<;>first|(cases hc; done)|skip)
      rename_i ty x0 lo0 hi0 mx0 h0 _ _ _ _ _ n0 e0 x1 l1 h1 hu hx hl hh hm _ k0 hk
      cases hc
      have hmx:mx0=none:=by
       cases mx0 with
       | none=>rfl
       | some z=>simp only[cOpt]at hm; cases hz:cOpd z<;>simp[hz]at hm
      subst hmx
      exact⟨ty,_,x0,lo0,hi0,h0,hu,hk,hx,hl,hh⟩)
   | skip
  all_goals (try unfold cCall at hc)
  all_goals (repeat' (split at hc<;>first|(cases hc; done)|(simp only[Option.map_eq_some_iff]at hc; obtain⟨_,_,hc⟩:=hc; cases hc; done)|skip))
  all_goals (first|(cases hc; done)|skip)
theorem op_slArr {K:Act→World→Prop} {Q:Exit→Act→World→Prop} (ht:RL Φ ρ t a.tmps) (hr:Rel W Φ ρ m w) (o:Oper) {n k:Nat} {x:AOpd} {lo hi:Option AOpd} (ho:cOp' P o=.slArr n k x lo hi) {v:AVal} {b:Nat}
 (h:slArrV n k m.get (ev t x) (slBounds t n n lo hi)=some (v,b))
 (hK:∀ Φ' u,Ext Φ ρ Φ' ρ→Rel W Φ' ρ (m.del b) w→R Φ' ρ v u→K (a.put o.dst u) w):o.wp P a w K Q:=by
 obtain⟨ty,e,x0,lo0,hi0,hop,hu,hk,hx,hl,hh⟩:=slArr_of ho
 have hv:=ev_R ht hx
 have hlo:=cOpt_R ht hl
 have hhi:=cOpt_R ht hh
 obtain⟨inf,hinf,hsz⟩:=cSize_spec hk
 unfold slArrV at h
 split at h
 ·rename_i b0 i j l hi' hev hbd
  split at h<;>first|(cases h; done)|skip
  rename_i kk els hgb
  split at h<;>first|(cases h; done)|skip
  rename_i row hfz
  split at h<;>first|(cases h; done)|skip
  rename_i hc
  obtain⟨hc0,hc1,hc2,hc3⟩:=hc
  injection h with h
  injection h with h1 h2
  subst h1
  subst h2
  obtain⟨Φs,hE,f1,f2,f3,f4⟩:=freezeS [b0] hr
  have hb:=(ok_bounds (P:=P) (w:=w) (cap:=n) (b:=false) hlo hhi hbd (Nat.le_refl _)).1
  rw[hev]at hv
  obtain⟨lc,ob,q1,q2,q3,q4,q5⟩:=hr.live b0 _ hgb
  have hbn:lc.sh+els.length≤lc.n:=by
   cases q5 with
   | cells _ _ _ c e hk hn hl hr h1=>exact hl
  have hR:=f4 _ _ (R.sl (Φ:=Φ) (ρ:=ρ) b0 i 1 (some ⟨lc.blk,(lc.sh+i)*lc.k,none⟩) (lc.n - (lc.sh+i)) lc q1 (by omega) (by omega) (fun _=>rfl) rfl)
  rw[hfz]at hR
  generalize hvv:a.eval x0=vv at hv
  cases hv with
  | ptr _ _ _ l2 hl2=>
  rw[q1]at hl2
  injection hl2 with hl2
  subst hl2
  cases hR with
  | imm _ B o' k cap c f hne hcap hB hk' hcc hrr=>
   have hrow:[row][0]? = some row:=rfl
   have hrun:(Instr.sliceAt ty (.pointer (some ⟨lc.blk,(lc.sh+i)*lc.k+j,none⟩)) (lo0.map a.eval) (hi0.map a.eval) none).run P w=.ok (.slice (some (if n=l then ⟨lc.blk,(lc.sh+i)*lc.k+j,none⟩ else (⟨lc.blk,(lc.sh+i)*lc.k+j,none⟩:Addr).add (l*1))) (hi' - l) (n - l)) w:=by
    simp only[Instr.sliceAt,Instr.sureAddr,Sem.run_bind,r_und hu,Result.andThen_ok,Sem.run_pure,hb,r_size hinf,hsz]
   have e0:execOp a.eval o=(do pure (Next.value (← Instr.sliceAt ty (a.eval x0) (lo0.map a.eval) (hi0.map a.eval) none))):=by unfold execOp; rw[hop]; rfl
   have hrun2:(execOp a.eval o).run P w=.ok (Next.value (.slice (some (if n=l then ⟨lc.blk,(lc.sh+i)*lc.k+j,none⟩ else (⟨lc.blk,(lc.sh+i)*lc.k+j,none⟩:Addr).add (l*1))) (hi' - l) (n - l))) w:=by
    rw[e0,hvv]
    simp only[Sem.run_bind,hrun,Result.andThen_ok,Sem.run_pure]
   unfold Oper.wp
   rw[hrun2]
   have hrl:row.length=k:=hk' _ _ hrow
   have hlen:(((row.drop (j+l)).take (hi' - l)).map fun y=>[y]).length=hi' - l:=by simp; omega
   refine hK Φs _ hE ⟨hr.base,f1,fun c x hx=>?_,fun c c' x x' l l' g1 g2=>?_,hr.fresh,f2⟩ ?_
   ·simp only[Mem.get_del]at hx
    split at hx
    ·cases hx
    ·rename_i hne
     obtain⟨l,o,g1,g2,g3,g4,g5⟩:=hr.live c x hx
     exact⟨l,o,g1,g2,f3 c x l hx g1 (by simp[memN,hne]),g4,g5.ext hE⟩
   ·simp only[Mem.get_del]at g1 g2
    split at g1<;>first|(cases g1; done)|skip
    split at g2<;>first|(cases g2; done)|skip
    exact hr.inj _ _ _ _ _ _ g1 g2
   ·by_cases hz:hi'=l
    ·have e1:(((row.drop (j+l)).take (hi' - l)).map fun y=>[y])=[]:=List.eq_nil_of_length_eq_zero (by rw[hlen]; omega)
     rw[e1,show hi' - l=0 by omega]
     refine .imm0 _ _ fun _=>?_
     split
     ·exact⟨_,_,rfl⟩
     ·exact⟨lc.blk,_,by rw[Addr.add_none]⟩
    ·rw[if_neg (by omega),Addr.add_none]
     have hget:∀ (p:Nat) (r:List AVal),(((row.drop (j+l)).take (hi' - l)).map fun y=>[y])[p]? = some r → ∃ y,row[j+l+p]? = some y∧r=[y]:=fun p r hp=>by
      rw[List.getElem?_map]at hp
      cases hq:((row.drop (j+l)).take (hi' - l))[p]? with
      | none=>rw[hq]at hp; cases hp
      | some y=>
       rw[hq]at hp
       injection hp with hp
       rw[List.getElem?_take]at hq
       split at hq
       ·rw[List.getElem?_drop]at hq
        exact⟨y,hq,hp.symm⟩
       ·cases hq
     suffices key:R Φs ρ (.imm (((row.drop (j+l)).take (hi' - l)).map fun y=>[y])) (.slice (some ⟨lc.blk,(lc.sh+i)*lc.k+j+l*1,none⟩) (((row.drop (j+l)).take (hi' - l)).map fun y=>[y]).length (n - l)) by
      rw[hlen]at key
      exact key
     refine .imm _ lc.blk ((lc.sh+i)*lc.k+j+l*1) 1 (n - l) c (fun p q=>f 0 (j+l+p)) (fun e=>by have:=congrArg List.length e; rw[hlen]at this; simp at this; omega) (by rw[hlen]; omega) hB (fun p r hp=>?_) (fun p r q y hp hq=>?_) (fun p r q y hp hq=>?_)
     ·obtain⟨y,_,rfl⟩:=hget p r hp
      rfl
     ·obtain⟨y',h3,rfl⟩:=hget p r hp
      cases q with
      | succ q=>simp at hq
      | zero=>
       obtain⟨k1,k2⟩:=hcc 0 row (j+l+p) y' hrow h3
       refine⟨?_,k2⟩
       rw[← k1]
       congr 1
       omega
     ·obtain⟨y',h3,rfl⟩:=hget p r hp
      cases q with
      | succ q=>simp at hq
      | zero=>
       simp only[List.getElem?_cons_zero,Option.some.injEq]at hq
       subst hq
       exact hrr 0 row (j+l+p) y' hrow h3
 ·cases h
def wopsV (P:Program) (base:Nat):List AOper→Nat→(ASt→Prop)→List AVal→Mem→Prop
 | [],_,K,t,m=>K ⟨t,m⟩
 | o :: r,i,K,t,m=>
  match wantedA t o.guard with
  | some false=>wopsV P base r (i+1) K (put t o.dst aundef) m
  | some true=>
   match o.op with
   | .call f xs=>match callee t f xs with
    | some (g,args)=>ACalls P g args m [base+i] fun v m'=>wopsV P base r (i+1) K (put t o.dst v) m'
    | none=>False
   | .slArr n k x lo hi=>match slArrV n k m.get (ev t x) (slBounds t n n lo hi)with
    | some (v,b)=>wopsV P base r (i+1) K (put t o.dst v) (m.del b)
    | none=>False
   | op=>match stepA (base+i) t m op with
    | some (v,m')=>wopsV P base r (i+1) K (put t o.dst v) m'
    | none=>False
  | none=>False
theorem wopsV_cons {base i:Nat} {b:AOper} {rest:List AOper} {K:ASt→Prop} {t:List AVal} {m:Mem} (h:wopsV P base (b :: rest) i K t m) :
 (wantedA t b.guard=some false∧wopsV P base rest (i+1) K (put t b.dst aundef) m) ∨
 (wantedA t b.guard=some true∧((∃ f xs g args,b.op=.call f xs∧callee t f xs=some (g,args)∧ACalls P g args m [base+i] fun v m'=>wopsV P base rest (i+1) K (put t b.dst v) m') ∨
   (∃ n k x lo hi v c,b.op=.slArr n k x lo hi∧slArrV n k m.get (ev t x) (slBounds t n n lo hi)=some (v,c)∧wopsV P base rest (i+1) K (put t b.dst v) (m.del c)) ∨
   (∃ v m',stepA (base+i) t m b.op=some (v,m')∧wopsV P base rest (i+1) K (put t b.dst v) m'))):=by
 simp only[wopsV]at h
 cases hw:wantedA t b.guard with
 | none=>simp[hw]at h
 | some q=>
  cases q with
  | false=>simp only[hw]at h; exact .inl ⟨rfl,h⟩
  | true=>
   simp only[hw]at h
   refine .inr ⟨rfl,?_⟩
   have other:∀ op,b.op=op→(match stepA (base+i) t m op with|some (v,m')=>wopsV P base rest (i+1) K (put t b.dst v) m'|none=>False) →
    ∃ v m',stepA (base+i) t m op=some (v,m')∧wopsV P base rest (i+1) K (put t b.dst v) m':=by
    intro op _ hh
    cases hs:stepA (base+i) t m op with
    | none=>simp[hs]at hh
    | some r=>obtain ⟨v,m'⟩:=r; simp only[hs]at hh; exact⟨v,m',rfl,hh⟩
   cases hop:b.op with
   | call f xs=>
    simp only[hop]at h
    cases hc:callee t f xs with
    | none=>simp[hc]at h
    | some r=>
     obtain⟨g,args⟩:=r
     simp only[hc]at h
     exact .inl ⟨f,xs,g,args,rfl,hc,h⟩
   | slArr n k x lo hi=>
    simp only[hop]at h
    cases hc:slArrV n k m.get (ev t x) (slBounds t n n lo hi)with
    | none=>simp[hc]at h
    | some r=>
     obtain⟨v,c⟩:=r
     simp only[hc]at h
     exact .inr (.inl ⟨n,k,x,lo,hi,v,c,rfl,hc,h⟩)
   | _=>rw[hop]at h; exact .inr (.inr (other _ hop h))
theorem plain_soundV (W:Base) (base:Nat) (n0:Nat) (ops:Array Oper) (Q:Exit→ASt→Prop) (Φ0:Pers) (ρ0:Rho) (hb:n0≤base) :
 ∀(l:List Oper) (asz:List AOper) (i:Nat) (t:List AVal) (m:Mem) (Φ:Pers) (ρ:Rho) (a:Act) (w:World),
  asz.length=l.length→(∀(j:Nat) (o:Oper) (b:AOper),l[j]? = some o→asz[j]? = some b→b.dst=o.dst∧b.op=cOp' P o∧cGuard ops o.guard=some b.guard) →
  wopsV P base asz i (Q .normal) t m→Rel W Φ ρ m w→RL Φ ρ t a.tmps→a.defers=[]→Ext Φ0 ρ0 Φ ρ→KeepN n0 ρ0 ρ→(∀ j,i≤j→j<i+asz.length→ρ (base+j)=none)→base+i+asz.length≤m.next→n0≤m.next →
  wpList P ops (lift W Φ0 ρ0 n0 Q) l a w
 | [],[],i,t,m,Φ,ρ,a,w,_,_,h,hr,ht,hd,he,hk,_,_,hn=>⟨⟨t,m⟩,Φ,ρ,he,hk,hn,hr,ht,hd,h⟩
 | [],_ :: _,_,_,_,_,_,_,_,hl,_,_,_,_,_,_,_,_,_,_=>by simp at hl
 | _ :: _,[],_,_,_,_,_,_,_,hl,_,_,_,_,_,_,_,_,_,_=>by simp at hl
 | o :: l,b :: asz,i,t,m,Φ,ρ,a,w,hl,hg,h,hr,ht,hd,he,hk,hfree,hnx,hn=>by
  obtain⟨e1,e2,e3⟩:=hg 0 o b rfl rfl
  have hg':∀ (j:Nat) (o:Oper) (b:AOper),l[j]? = some o→asz[j]? = some b→b.dst=o.dst∧b.op=cOp' P o∧cGuard ops o.guard=some b.guard:=fun j o b ho hb=>hg (j+1) o b (by simpa using ho) (by simpa using hb)
  have hl':asz.length=l.length:=by simpa using hl
  simp only[List.length_cons]at hnx hfree
  have hlt:base+i<m.next:=by omega
  have hni:ρ (base+i)=none:=hfree i (Nat.le_refl _) (by omega)
  unfold wpList
  rcases wopsV_cons h with⟨hw,h'⟩|⟨hw,h'⟩
  ·rw[wanted_ok ht e3 hw,if_neg (by simp)]
   rw[← e1]
   exact plain_soundV W base n0 ops Q Φ0 ρ0 hb l asz (i+1) _ m Φ ρ _ w hl' hg' h' hr (ht.put b.dst (R_undef Φ ρ)) (by rw[put_defers]; exact hd) he hk (fun j h1 h2=>hfree j (by omega) (by omega)) (by omega) hn
  ·rw[wanted_ok ht e3 hw,if_pos rfl]
   refine .inl ?_
   rcases h' with⟨f,xs,g,args,hop,hcal,hA⟩|⟨n,k,x,lo,hi,v,c,hop,hs,h'⟩|⟨v,m',hs,h'⟩
   ·refine op_call ht hr hni hlt o (by rw[← e2]; exact hop) hcal hA fun Φ' ρ' x m' u w' hE hfr hr' hx hnx' hW=>?_
    rw[← e1]
    exact plain_soundV W base n0 ops Q Φ0 ρ0 hb l asz (i+1) _ m' Φ' ρ' _ w' hl' hg' hW hr' ((ht.ext hE).put b.dst hx) (by rw[put_defers]; exact hd) (he.trans hE) (fun c hc h0=>hfr c (by omega) (by omega) (hk c hc h0))
     (fun j h1 h2=>hfr _ (by omega) (by omega) (hfree j (by omega) (by omega))) (by omega) (by omega)
   ·refine op_slArr ht hr o (by rw[← e2]; exact hop) hs fun Φ' u hE hr' hx=>?_
    rw[← e1]
    exact plain_soundV W base n0 ops Q Φ0 ρ0 hb l asz (i+1) _ _ Φ' ρ _ w hl' hg' h' hr' ((ht.ext hE).put b.dst hx) (by rw[put_defers]; exact hd) (he.trans hE) hk
     (fun j h1 h2=>hfree j (by omega) (by omega)) (by rw[Mem.next_del]; omega) (by rw[Mem.next_del]; exact hn)
   ·have hnx':=stepA_next hs
    rw[e2]at hs
    refine op_step ht hr hni hlt o hs fun Φ' ρ' u w' hE hfr hr' hx=>?_
    rw[← e1]
    exact plain_soundV W base n0 ops Q Φ0 ρ0 hb l asz (i+1) _ m' Φ' ρ' _ w' hl' hg' h' hr' ((ht.ext hE).put b.dst hx) (by rw[put_defers]; exact hd) (he.trans hE) (fun c hc h0=>hfr c (by omega) (hk c hc h0))
     (fun j h1 h2=>hfr _ (by omega) (hfree j (by omega) (by omega))) (by rw[hnx']; omega) (by rw[hnx']; exact hn)
theorem region_plainV {id:Nat} {ops:Array Oper} {os:List AOper} {Q:Exit→ASt→Prop} {σ:ASt} (hc:cOpers P ops ops.toList=some os) (h:wopsV P σ.m.next os 0 (Q .normal) σ.t (σ.m.at (σ.m.next+os.length))):AWp P (.region id ops false) Q σ:=by
 intro W Φ ρ a w hr ht hd
 obtain⟨h1,h2⟩:=cOpers_get P ops _ _ hc
 refine wp_region_list (plain_soundV W σ.m.next σ.m.next ops Q Φ ρ (Nat.le_refl _) ops.toList os 0 σ.t _ Φ ρ a w h1 h2 h (hr.at_ (by omega)) ht hd (.refl _ _) (.refl _ _) ?_ (by simp) (by simp))
 intro j _ _
 cases hq:ρ (σ.m.next+j)with
 | none=>rfl
 | some l=>have:=hr.fresh _ _ hq; omega
def slArrD (n k:Nat) (get:Nat→Option ABlk) (v:AVal) (lh:Option (Nat×Nat)):Option (AVal×List (Nat×Option ABlk)):=
 match slArrV n k get v lh with
 | some (v,b)=>some (v,[(b,none)])
 | none=>none
def vops (P:Program) (n base:Nat):List AOper→Nat→(Env→SMem→Prop)→Env→SMem→Prop
 | [],_,K,e,m=>K e m
 | o :: r,i,K,e,m=>gdK (wantedE n e o.guard)
  (match o.op with
  | .call f xs=>clK (calleeE n e f xs) fun g args=>SC P g args m (base+i) fun v m'=>vops P n base r (i+1) K (putE e o.dst v) m'
  | .slArr nn k x lo hi=>stK (slArrD nn k m.get (evE n e x) (slBoundsD (evE n e) nn nn lo hi)) fun v d=>vops P n base r (i+1) K (putE e o.dst v) (m.app d)
  | op=>stK (stepD (base+i) (evE n e) m.get op) fun v d=>vops P n base r (i+1) K (putE e o.dst v) (m.app d))
  (vops P n base r (i+1) K (putE e o.dst aundef) m)
theorem vops_wopsV {n base:Nat} {K:Env→SMem→Prop} {K':ASt→Prop} (hk:∀ e m,K e m→K' ⟨toE n e,m.mem⟩):∀ (ops:List AOper) (i:Nat) (e:Env) (m:SMem),vops P n base ops i K e m→wopsV P base ops i K' (toE n e) m.mem
 | [],_,_,_,h=>hk _ _ h
 | o :: r,i,e,m,h=>by
  simp only[vops]at h
  simp only[wopsV,wantedE_eq]
  cases hw:wantedE n e o.guard with
  | none=>rw[hw]at h; exact h
  | some q=>
   rw[hw]at h
   cases q with
   | false=>
    simp only[toE_put]
    exact vops_wopsV hk r _ _ _ h
   | true=>
    simp only[gdK]at h
    simp only
    have other:∀ op,stK (stepD (base+i) (evE n e) m.get op) (fun v d=>vops P n base r (i+1) K (putE e o.dst v) (m.app d)) →
     (match stepA (base+i) (toE n e) m.mem op with|some (v,m')=>wopsV P base r (i+1) K' (put (toE n e) o.dst v) m'|none=>False):=by
     intro op hh
     cases hs:stepD (base+i) (evE n e) m.get op with
     | none=>rw[hs]at hh; exact hh.elim
     | some vd=>
      obtain⟨v,d⟩:=vd
      rw[hs]at hh
      have:=stepD_ok (m:=m.mem) (t:=toE n e) (id:=base+i) (op:=op) (v:=v) (d:=d) (by rw[ev_toE]; exact hs)
      rw[this]
      simp only[toE_put]
      rw[← SMem.app_mem]
      exact vops_wopsV hk r _ _ _ hh
    cases hop:o.op with
    | call f xs=>
     simp only[hop]at h
     simp only[calleeE_eq]
     cases hc:calleeE n e f xs with
     | none=>rw[hc]at h; exact h
     | some ga=>
      obtain⟨g,args⟩:=ga
      rw[hc]at h
      simp only[clK]at h
      simp only[toE_put]
      refine ACalls.mono h fun v m'' hh=>?_
      obtain⟨sm,rfl,hh⟩:=hh
      exact vops_wopsV hk r _ _ _ hh
    | slArr nn k x lo hi=>
     simp only[hop]at h
     simp only[ev_toE,toE_put]
     have e1:slBoundsD (evE n e) nn nn lo hi=slBounds (toE n e) nn nn lo hi:=by rw[slBoundsD_eq,ev_toE]
     rw[e1]at h
     unfold slArrD at h
     have e2:m.mem.get=m.get:=rfl
     rw[e2]
     cases hs:slArrV nn k m.get (evE n e x) (slBounds (toE n e) nn nn lo hi)with
     | none=>rw[hs]at h; exact h.elim
     | some vd=>
      obtain⟨v,b⟩:=vd
      rw[hs]at h
      have h':=vops_wopsV hk r _ _ _ h
      rw[SMem.app_mem]at h'
      exact h'
    | _=>rw[hop]at h; exact other _ h
def isVo:AOp→Bool
 | .slArr ..=>true
 | _=>false
def isV:AOper→Bool
 | ⟨_,op,_,_⟩=>isVo op
variable {n n0:Nat}
theorem regionV {id:Nat} {ops:Array Oper} {os:List AOper} {Q:Exit→Env→SMem→Prop} {e:Env} {m:SMem} (hc:cOpers P ops ops.toList=some os)
 (h0:vops P n m.next os 0 (Q .normal) e (m.at (m.next+os.length))):AWpT P n n0 (.region id ops false) Q e m:=by
 have h1:wopsV P m.next os 0 (liftS n Q .normal) (toE n e) (m.at (m.next+os.length)).mem:=vops_wopsV (fun e m hk=>⟨e,m,rfl,hk⟩) os 0 e _ h0
 intro W Φ ρ a w hn hr ht hd
 have h2:AWp P (.region id ops false) (liftS n Q) ⟨toE n e,m.mem⟩:=region_plainV hc h1
 refine wp_mono (h2 W Φ ρ a w hr ht hd) fun x a' w' hl=>?_
 obtain⟨σ,Φ',ρ',g1,g2,g3,g4,g5,g6,g7⟩:=hl
 have hfix:∀ b,b<n0→ρ' b=ρ b:=fun b hb=>by
  cases hq:ρ b with
  | none=>exact g2 b (Nat.lt_of_lt_of_le hb hn) hq
  | some l=>exact g1.rho b l hq
 have hnx:m.next≤σ.m.next:=g3
 cases x<;>simp only[liftS]at g7<;>first
  | exact g7.elim
  | (obtain ⟨e',m',rfl,hq⟩:=g7
     exact⟨e',m',Φ',ρ',g1.pers,hfix,Nat.le_trans hn hnx,g4,g5,g6,fun l hl=>(by cases hl),hq⟩)
variable {e:Env} {m:SMem} {base:Nat} {K:Env→SMem→Prop}
theorem vops_nil {i:Nat}:vops P n base [] i K e m=K e m:=propext Iff.rfl
theorem vops_one {i:Nat} (d:Option Nat) (op:AOp) (un:List Nat) (r:List AOper):vops P n base (⟨d,op,none,un⟩ :: r) i K e m=match op with
 | .call f xs=>clK (calleeE n e f xs) fun g args=>SC P g args m (base+i) fun v m'=>vops P n base r (i+1) K (putE e d v) m'
 | .slArr nn k x lo hi=>stK (slArrD nn k m.get (evE n e x) (slBoundsD (evE n e) nn nn lo hi)) fun v d'=>vops P n base r (i+1) K (putE e d v) (m.app d')
 | op=>stK (stepD (base+i) (evE n e) m.get op) fun v d'=>vops P n base r (i+1) K (putE e d v) (m.app d'):=by
 cases op<;>rfl
end
end Go.AE
end
