/- Part 42 of the proof: Tm, To, AeTh. -/
import Derived.Test.YtipeejpafgnjdaaGreatDoorE33
import Derived.Test.YtipeejpafgnjdaaGreatDoorE41
set_option linter.all false
section
namespace Go.Known
open Go Go.AE Go.Proofs
open Go.Plain
@[simp] theorem sd_clear (id : Nat) (f : AOpd → AVal) (get : Nat → Option ABlk) (k : Nat) (zero : List AVal) (x : AOpd) : stepD id f get (.clear k zero x) = match f x with
 | .sl b off len=>match get b with
  | some (.cells k' els)=>if k'=k∧off+len≤els.length then
   some (aundef,[(b,some (.cells k (els.take off++List.replicate len zero++els.drop (off+len))))])
   else none
  | _=>none
 | .nilSl=>some (aundef,[])
 | .emp=>some (aundef,[])
 | _=>none:=rfl
@[simp] theorem sd_minmax2 (id : Nat) (f : AOpd → AVal) (get : Nat → Option ABlk) (mx : Bool) (x y : AOpd) : stepD id f get (.minmax mx [x, y]) = match Zht mx (f x) [f y] with
  | some v=>some (v,[])
  | none=>none:=rfl
@[simp] theorem mm_int (mx : Bool) (k k' : IntKind) (a b : Int) : Zht mx (.int k a) [.int k' b] = some (.int k (if mx then (if b > a then b else a) else (if b < a then b else a))) := rfl
theorem c88s (rows:List (List AVal)) (hn:rows≠[]) (hl:rows.length≤1000) (h6:(rows.all fun x=>x.length == 3)=true) (hc:Zap rows=true) :
 Ctr Tryz.prog 115 [.imm rows] ⟨[],1⟩ fun v m=>v=.sl 1 0 rows.length∧m=⟨[(1,.cells 3 rows)],2⟩:=by
 refine Zhq hm Tryz.func115 cf88 rfl rfl fun K hK=>?_
 have hr:∀ q,Zam q rows=rows:=fun q=>Zaa q _ hc
 have hK':=hK _ _ ⟨rfl,rfl⟩
 clear hK
 have hb:rows.length≤1048576:=by omega
 have he:binA .eql .slice (.imm rows) .nilSl=some (.bool false):=by
  have:rows.isEmpty=false:=by cases rows with
   | nil=>exact absurd rfl hn
   | cons=>rfl
  simp [binA,eqA,Zj4,Ze2,this]
 simp [he,Zk8,h6,hn,hb,Zan,AVal.cells]
 exact endK hK' [(1,6)] (by simp [hr])
theorem c88e:PCall Tryz.prog 115 [.imm []] (.imm []):=by
 refine Zrp (v1:=.nilSl) ?_ Zyv ?_
 · refine Zcx hm 4 Tryz.func115 cf88 rfl rfl (by simp [Zae,AVal.closed]) rfl fun K hK=>?_
   have hK':=hK .nilSl ⟨[],1⟩ rfl
   clear hK
   simp [binA,eqA,Zj4,Ze2]
   exact endK hK' [] (by simp)
 · refine Zhq hm Tryz.func115 cf88 rfl rfl fun K hK=>?_
   have hK':=hK (.sl 2 0 0) ⟨[(2,.cells 3 [])],3⟩ (E0_sl 2 0)
   clear hK
   simp [binA,eqA,Zj4,Ze2,Zsu,Zan]
   exact endK hK' [(2,5)] (by simp)
end Go.Known
end
section
namespace Go.Known
open Go Go.AE Go.Proofs
open Go.Plain
def mxg (ls:List Lt) (i:Nat):Int:=if (at' ls i).g<(nxL ls i).g then (nxL ls i).g else (at' ls i).g
def isLp (ls:List Lt) (f:Int) (i:Nat):Bool:=decide ((at' ls i).k=1)&&down ls i&&decide (mxg ls i=f)
def lpA (ls:List Lt) (f:Int) (i:Nat):Nat×Nat:=if (at' ls i).g=f then ((i+1) % ls.length,i) else (i,(i+1) % ls.length)
def lpL (ls:List Lt) (f:Int) (n:Nat):List (Nat×Nat):=((List.range n).filter (isLp ls f)).map (lpA ls f)
def lrow (p:Nat×Nat):List AVal:=[.int .i64 p.1,.int .i64 p.2]
def cnL (ls:List Lt) (f:Int):Nat:=(lpL ls f ls.length).length
def cnLs (ls:List Lt) (F:Nat):List Nat:=(List.range F).map fun i:Nat=>cnL ls ((i:Int)+1)
section
variable {ls:List Lt} {f:Int} {n:Nat}
theorem Zuq:lpL ls f 0=[]:=rfl
theorem Zuf:lpL ls f (n+1)=if isLp ls f n=true then lpL ls f n++[lpA ls f n] else lpL ls f n:=by
 unfold lpL
 rw [List.range_succ,List.filter_append,List.map_append]
 by_cases h:isLp ls f n=true
 · simp [h]
 · simp [h]
theorem Z3a {p:Nat×Nat} (h:p∈lpL ls f n):∃ i,i<n∧isLp ls f i=true∧p=lpA ls f i:=by
 obtain⟨i,hi,rfl⟩:=List.mem_map.1 h
 rw [List.mem_filter,List.mem_range] at hi
 exact⟨i,hi.1,hi.2,rfl⟩
theorem Zyr:(lpL ls f n).length≤n:=by
 have:=List.length_filter_le (isLp ls f) (List.range n)
 simpa [lpL] using this
theorem Zrw:cnL ls f≤ls.length:=Zyr
theorem Z27 (hP:PosP ls) {p:Nat×Nat} (h:p∈lpL ls f ls.length):(p.1<ls.length∧(at' ls p.1).k=1)∧p.2<ls.length∧(at' ls p.2).k=1:=by
 obtain⟨i,hi,h1,rfl⟩:=Z3a h
 unfold isLp at h1
 simp only [Bool.and_eq_true,decide_eq_true_eq] at h1
 obtain⟨⟨h1,h2⟩,_⟩:=h1
 have h3:=(hP i hi h1 h2).1
 have h4:(i+1) % ls.length<ls.length:=Nat.mod_lt _ (by omega)
 unfold lpA
 split
 · exact⟨⟨h4,h3⟩,hi,h1⟩
 · exact⟨⟨hi,h1⟩,h4,h3⟩
theorem Zjy:∀ (ps:List (Nat×Nat)),Zap (ps.map lrow)=true
 | []=>rfl
 | p :: r=>by
  have:=Zjy r
  simp only [List.map_cons,Zap,lrow,Zae,AVal.closed,Bool.and_true,Bool.true_and] at this ⊢
  exact this
theorem Zp8 {F i:Nat} (h:i<F):(cnLs ls F)[i]? = some (cnL ls ((i:Int)+1)):=by
 unfold cnLs
 rw [List.getElem?_map,List.getElem?_range h]
 rfl
theorem Zyx (F:Nat):cnLs ls (F+1)=cnLs ls F++[cnL ls ((F:Int)+1)]:=by simp [cnLs,List.range_succ]
theorem Zd9 (F:Nat):(cnLs ls F).length=F:=by simp [cnLs]
end
end Go.Known
end
section
namespace Go.AE
open Go.RowKit
variable {P:Program}
theorem Z4o {Φ:Pers} {ρ:Rho} {W:Base} {w:World} {b k n:Nat} {rows:List (List AVal)} {m:Mem} {v:Value} (hr:Rel W Φ ρ m w) (hb:m.get b=some (.cells k rows)) (hn:rows.length=n) (h:R Φ ρ (.sl b 0 n) v) :
 ∃ B c e,w.heap[B]? = some (.cells c e (0,0))∧Φ B=none ∧ ∀ Φ1:Pers,(∀ B c,Φ B=some c→Φ1 B=some c)→Φ1 B=some c→R Φ1 ρ (.imm rows) v:=by
 obtain⟨l,o,g1,g2,g3,g4,g5⟩:=hr.live b _ hb
 cases h with
 | sl _ _ _ a cap l' hl hle hln hc ha=>
  rw [g1] at hl
  injection hl with hl
  subst hl
  cases g5 with
  | cells _ _ _ c e q1 q2 q3 q4 q5=>
   refine⟨l.blk,c,e,g4,g3,fun Φ1 hΦ h1=>?_⟩
   by_cases h0:rows=[]
   · subst h0
     simp only [List.length_nil] at hn
     subst hn
     exact .imm0 a cap fun hp=>⟨_,_,hc hp⟩
   · have hpos:0<rows.length:=List.length_pos_iff.2 h0
     have hcap:=hc (by omega)
     subst hcap
     have hg:∀ i row j x,rows[i]? = some row→row[j]? = some x → ∃ v,c[(l.sh+i)*k+j]? = some v∧v.oneCell'=true∧R Φ ρ x v:=q4.2
     have hidx:∀ i j,(l.sh+0)*l.k+i*k+j=(l.sh+i)*k+j:=fun i j=>by rw [q1,Nat.add_zero,Nat.add_mul]
     have:=R.imm (Φ:=Φ1) (ρ:=ρ) rows l.blk ((l.sh+0)*l.k) k cap c (fun i j=>(c[(l.sh+i)*k+j]?).getD (.bool false)) h0 (by omega) h1 q4.1 (fun i row j x hi hj=>by
      obtain⟨v,p1,p2,_⟩:=hg i row j x hi hj
      rw [hidx,p1]
      exact⟨rfl,p2⟩) (fun i row j x hi hj=>by
      obtain⟨v,p1,p2,p3⟩:=hg i row j x hi hj
      rw [p1]
      exact p3.ext ⟨hΦ,fun _ _ h=>h⟩)
     rw [hn] at this
     exact this
theorem Zs4 {g:FuncId} {k n:Nat} {rows:List (List AVal)} {vs rest:List AVal} {q:Bool} (h:PCall P g (.agg (.imm rows :: vs) :: rest) (.bool q)) (hn:rows.length=n) :
 Ctr P g (.agg (.sl 1 0 n :: vs) :: rest) ⟨[(1,.cells k rows)],2⟩ fun r m=>r=.bool q∧m=⟨[(1,.cells k rows)],2⟩:=by
 have hP:=h (SMem.mem ⟨[],2⟩) []
 refine⟨hP.1,fun W Φ ρ us w hr ha hav=>?_⟩
 have hkey:∃ B c e,w.heap[B]? = some (.cells c e (0,0))∧Φ B=none ∧ ∀ Φ1:Pers,(∀ B c,Φ B=some c→Φ1 B=some c)→Φ1 B=some c→RL Φ1 ρ (.agg (.imm rows :: vs) :: rest) us:=by
  obtain⟨u0,hu0⟩:∃ u,us[0]? = some u:=⟨us[0]'(by rw [ha.1]; simp),Array.getElem?_eq_getElem _⟩
  have h0:=ha.2 0 _ u0 rfl hu0
  cases h0 with
  | agg _ ws hs hall=>
   obtain⟨z,hz⟩:∃ z,ws[0]? = some z:=⟨ws[0]'(by rw [hs]; simp),Array.getElem?_eq_getElem _⟩
   obtain⟨B,c,e,k1,k3,k2⟩:=Z4o hr (b:=1) (k:=k) rfl hn (hall 0 _ z rfl hz)
   refine⟨B,c,e,k1,k3,fun Φ1 hΦ h1=>⟨by rw [ha.1]; rfl,fun i x v hx hv=>?_⟩⟩
   have hext:Ext Φ ρ Φ1 ρ:=⟨hΦ,fun _ _ h=>h⟩
   match i,hx with
   | 0,hx=>
    cases hx
    rw [hu0] at hv
    cases hv
    refine .agg _ ws (by rw [hs]; rfl) fun j y v hy hv=>?_
    match j,hy with
    | 0,hy=>
     cases hy
     rw [hz] at hv
     cases hv
     exact k2 Φ1 hΦ h1
    | j+1,hy=>exact (hall (j+1) y v hy hv).ext hext
   | i+1,hx=>exact (ha.2 (i+1) x v hx hv).ext hext
 obtain⟨B,c,e,k1,k3,k2⟩:=hkey
 obtain⟨Φ1,hΦ1⟩:∃ Φ1:Pers,Φ1=fun B'=>if B'=B then some c else Φ B':=⟨_,rfl⟩
 have hB:Φ1 B=some c:=by rw [hΦ1]; simp
 have hold:∀ B' c',Φ B'=some c'→Φ1 B'=some c':=fun B' c' h=>by
  rw [hΦ1]
  by_cases hq:B'=B
  · subst hq; rw [k3] at h; cases h
  · simp only; rw [if_neg hq]; exact h
 refine(hP.2 ⟨w,fun _=>none,Φ1⟩ Φ1 ρ us w ⟨⟨Below.refl _ _,fun B o hB=>(by cases hB)⟩,fun B' c' h'=>?_,fun b y hy=>(by cases hy),fun b b' y y' l l' h1=>(by cases h1),fun b l hl=>hr.fresh b l hl,fun B c hB=>.inl hB⟩ (k2 Φ1 hold hB) (fun b hb=>by simp at hb)).mono fun e w' he=>?_
 · rw [hΦ1] at h'
   simp only at h'
   split at h'
   · rename_i hq
     subst hq
     cases h'
     exact⟨_,_,k1⟩
   · exact hr.pers B' c' h'
 · obtain⟨u,r,m',Φ',ρ',rfl,hE,hk,hr',hR,hn',rfl,rfl⟩:=he
   cases hR
   exact⟨_,_,_,Φ,ρ,rfl,Ext.refl _ _,fun b _ _ h=>h,hr.below hr'.base.below,.bool q,Nat.le_refl _,_,rfl,rfl,rfl⟩
end Go.AE
end
