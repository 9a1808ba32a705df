/- Part 40 of the proof: Tl, Tm, Tn, To, AeTh. -/
import Derived.Test.YtipeejpafgnjdaaGreatDoorF31
import Derived.Test.YtipeejpafgnjdaaGreatDoorF39
set_option linter.all false
section
namespace Go.Known
open Go Go.AE Go.Proofs
open Go.Plain
theorem ne_rowG (a b:Fg):binA .neq (.flat [.int,.bool,.int]) (.agg (rowG a)) (.agg (rowG b))=some (.bool (!decide (a=b))):=by
 simp only [binA,eqA,same_rowG]
set_option maxRecDepth 100000 in
set_option maxHeartbeats 4000000 in
theorem cSameFrame (fs:List Fg) (re lo:Int) (h:fs.length≤1000):PCall Tryz.prog 26 [frV fs re lo,frV fs re lo] (.bool true):=by
 refine PCall_1 hm Tryz.func26 cjSameFrame rfl rfl (by simp [closedL,AVal.closed,closed_rowG,frV]) trivial fun K hK=>?_
 have hrr:∀ q,renLL q (fs.map rowG)=fs.map rowG:=fun q=>renLL_closed q _ (closed_rowG fs)
 have hlen:(fs.map rowG).length=fs.length:=List.length_map ..
 have hg:=fun i hi=>get_rowG fs (i:=i) hi
 have hq:=fun y=>ne_rowG y y
 unfold frV
 generalize fs.map rowG=rows at *
 unfold rowG at *
 simp [hlen]
 refine wZ_loop (α:=Nat) (fun i=>[(5,.int .i64 i),(2,.ptr 1 0 0),(3,.ptr 2 0 0)]) (fun _=>⟨[(2,.cells 3 [[.imm rows,.int .i64 re,.int .i64 lo]]),(1,.cells 3 [[.imm rows,.int .i64 re,.int .i64 lo]])],3⟩) (fun i=>fs.length - i) (fun i=>i≤fs.length) 0 [] (by simp [hrr]) (by simp) ?_
 intro i hi N hN
 try simp only at hi hN ⊢
 by_cases hlt:i<fs.length
 · have hgi:=hg i hlt
   obtain⟨hgl,hg2⟩:=getE hgi
   have hw:IntKind.i64.wrap ((i:Int)+1)=(i:Int)+1:=wrap64 (by omega) (by omega)
   have he:=hq (fgAt fs i)
   simp at he
   simp [hlen,hlt,hgi,hg2,hw,he]
   exact hN (i+1) [] _ _ (by omega) (by omega) (by simp [hrr])
 · have hie:i=fs.length:=by omega
   simp [hlen,hlt]
   exact endK hK [] (by simp)
end Go.Known
end
section
namespace Go.Known
open Go Go.AE Go.Proofs
open Go.Plain
def slXz (nl mx l h:Option Nat):Option (AVal×List (Nat×Option ABlk)):=match nl,mx,l,h with
 | some n,some mx,some l,some h=>if l≤h∧h≤mx∧mx≤n then (if mx=0 then some (.emp,[]) else some (.bot,[])) else none
 | _,_,_,_=>none
@[simp] theorem slXz_some (n mx l h : Nat) : slXz (some n) (some mx) (some l) (some h) = if l ≤ h ∧ h ≤ mx ∧ mx ≤ n then (if mx = 0 then some (.emp, []) else some (.bot, [])) else none := rfl
@[simp] theorem sd_slSlx (id : Nat) (f : AOpd → AVal) (get : Nat → Option ABlk) (k : Nat) (x l h z : AOpd) : stepD id f get (.slSl k x (some l) (some h) (some z)) = slXz (sliceLen (f x)) (asNat (f z)) (asNat (f l)) (asNat (f h)) := by
 simp only [stepD,optNatD,slXz]
 cases sliceLen (f x)<;>cases asNat (f z)<;>cases asNat (f l)<;>cases hh:asNat (f h)<;>simp [hh]
@[simp] theorem sd_clear (id : Nat) (f : AOpd → AVal) (get : Nat → Option ABlk) (k : Nat) (zero : List AVal) (x : AOpd) : stepD id f get (.clear k zero x) = match f x with
  | .sl b off len=>match get b with
   | some (.cells k' els)=>if k'=k∧off+len≤els.length then
    some (aundef,[(b,some (.cells k (els.take off++List.replicate len zero++els.drop (off+len))))])
    else none
   | _=>none
  | .nilSl=>some (aundef,[])
  | .emp=>some (aundef,[])
  | _=>none:=rfl
@[simp] theorem sd_minmax2 (id : Nat) (f : AOpd → AVal) (get : Nat → Option ABlk) (mx : Bool) (x y : AOpd) : stepD id f get (.minmax mx [x, y]) = match minmaxA mx (f x) [f y] with
   | some v=>some (v,[])
   | none=>none:=rfl
@[simp] theorem mm_int (mx : Bool) (k k' : IntKind) (a b : Int) : minmaxA mx (.int k a) [.int k' b] = some (.int k (if mx then (if b > a then b else a) else (if b < a then b else a))) := rfl
theorem c88s (rows:List (List AVal)) (hn:rows≠[]) (hl:rows.length≤1000) (h6:(rows.all fun x=>x.length == 3)=true) (hc:closedLL rows=true) :
 Ctr Tryz.prog 115 [.imm rows] ⟨[],1⟩ fun v m=>v=.sl 1 0 rows.length∧m=⟨[(1,.cells 3 rows)],2⟩:=by
 refine ctr_P hm Tryz.func115 cf88 rfl rfl fun K hK=>?_
 have hr:∀ q,renLL q rows=rows:=fun q=>renLL_closed q _ hc
 have hK':=hK _ _ ⟨rfl,rfl⟩
 clear hK
 have hb:rows.length≤1048576:=by omega
 have he:binA .eql .slice (.imm rows) .nilSl=some (.bool false):=by
  have:rows.isEmpty=false:=by cases rows with
   | nil=>exact absurd rfl hn
   | cons=>rfl
  simp [binA,eqA,eqNil,isNil,this]
 simp [he,sr_imm,h6,hn,hb,appendRowsD,AVal.cells]
 exact endK hK' [(1,6)] (by simp [hr])
theorem c88e:PCall Tryz.prog 115 [.imm []] (.imm []):=by
 refine PCall_emp (v1:=.nilSl) ?_ E0_nil ?_
 · refine PCall_F hm 4 Tryz.func115 cf88 rfl rfl (by simp [closedL,AVal.closed]) rfl fun K hK=>?_
   have hK':=hK .nilSl ⟨[],1⟩ rfl
   clear hK
   simp [binA,eqA,eqNil,isNil]
   exact endK hK' [] (by simp)
 · refine ctr_P hm Tryz.func115 cf88 rfl rfl fun K hK=>?_
   have hK':=hK (.sl 2 0 0) ⟨[(2,.cells 3 [])],3⟩ (E0_sl 2 0)
   clear hK
   simp [binA,eqA,eqNil,isNil,sr_slO,appendRowsD]
   exact endK hK' [(2,5)] (by simp)
theorem cDelF (rows rest:List (List AVal)) (i:Nat) (hi:i<rows.length) (hl:rows.length≤1000) (hc:closedLL rows=true) (hcr:closedLL rest=true) :
 Ctr Tryz.prog 114 [.sl 1 0 rows.length,.int .i64 i,.int .i64 ((i:Int)+1)] ⟨[(1,.cells 3 (rows++rest))],2⟩ fun v m=>
  v=.sl 1 0 (rows.length - 1)∧m=⟨[(1,.cells 3 ((rows.take i++rows.drop (i+1))++([.int .i64 0,.bool false,.int .i64 0] :: rest)))],2⟩:=by
 refine ctr_P hm Tryz.func114 cjDelF rfl rfl fun K hK=>?_
 have hK':=hK _ _ ⟨rfl,rfl⟩
 clear hK
 have hr:∀ q,renLL q rows=rows:=fun q=>renLL_closed q _ hc
 have hrr:∀ q,renLL q rest=rest:=fun q=>renLL_closed q _ hcr
 have h1:i≤i+1:=by omega
 have h2:i+1≤rows.length:=by omega
 have h3:¬(i:Int)=(i:Int)+1:=by omega
 have h4:¬rows.length=0:=by omega
 have h5:i≤rows.length+rest.length:=by omega
 have h6:(0:Int)≤(i:Int)+1:=by omega
 have h7:i≤rows.length:=by omega
 have h8:i+(rows.length - (i+1))≤rows.length+rest.length:=by omega
 have h9:¬rows=[]:=fun e=>h4 (by rw [e]; rfl)
 have ha:i+1+(rows.length - (i+1))≤rows.length+rest.length:=by omega
 have hb:min (rows.length - (i+1)) (rows.length+rest.length - (i+1))=rows.length - (i+1):=by omega
 have hd:i+(rows.length - (i+1))=rows.length - 1:=by omega
 have he:rows.length - 1≤rows.length+rest.length:=by omega
 have hf:rows.length - 1≤rows.length:=by omega
 have hg:(rows.take i++rows.drop (i+1)).length=rows.length - 1:=by simp; omega
 have hk:rows.length - (rows.length - 1)=1:=by omega
 have hl1:(rows++rest).take i=rows.take i:=by rw [List.take_append_of_le_length (by omega)]
 have hl2:((rows++rest).drop (i+1)).take (rows.length - (i+1))=rows.drop (i+1):=by
  rw [List.drop_append_of_le_length (by omega),List.take_append_of_le_length (by simp),List.take_of_length_le (by simp)]
 simp [hb,hd,he,hf,hk,hl1,hl2,sr_slO,h1,h2,h3,h4,h5,h6,h7,h8,h9,ha,appendRowsD]
 have hm1:rows.length≤i+(rows.length - (i+1)+(rows.length+rest.length - (rows.length - 1))):=by omega
 have hm2:rows.length≤i+(rows.length - (i+1)+(rows.length+rest.length - (rows.length - 1)))+1:=by omega
 have hA:(rows.take i++(rows.drop (i+1)++(rows++rest).drop (rows.length - 1)))=(rows.take i++rows.drop (i+1))++(rows++rest).drop (rows.length - 1):=by rw [List.append_assoc]
 have hF1:(rows.take i++(rows.drop (i+1)++(rows++rest).drop (rows.length - 1))).take (rows.length - 1)=rows.take i++rows.drop (i+1):=by
  rw [hA,List.take_append_of_le_length (by omega),List.take_of_length_le (by omega)]
 have hF2:(rows.take i++(rows.drop (i+1)++(rows++rest).drop (rows.length - 1))).drop rows.length=rest:=by
  rw [hA,List.drop_append,hg,List.drop_eq_nil_of_le (by omega),List.nil_append,List.drop_drop,hk]
  have:rows.length - 1+1=rows.length:=by omega
  rw [this,List.drop_append_of_le_length (Nat.le_refl _),List.drop_length,List.nil_append]
 have hn1:rows.length - 1+1=rows.length:=by omega
 generalize hFF:(rows.take i++(rows.drop (i+1)++(rows++rest).drop (rows.length - 1)))=F at *
 have hFl:F.length=i+(rows.length - (i+1)+(rows.length+rest.length - (rows.length - 1))):=by
  rw [← hFF]; simp; omega
 have hm3:rows.length≤F.length:=by omega
 simp [hm1,hm2,hm3,hk,hF1,hF2,hn1]
 have hr1:∀ q,renLL q (rows.take i)=rows.take i:=fun q=>by rw [renLL_map,List.map_take,← renLL_map,hr]
 have hr2:∀ q,renLL q (rows.drop (i+1))=rows.drop (i+1):=fun q=>by rw [renLL_map,List.map_drop,← renLL_map,hr]
 exact endK hK' [] (by simp [hr1,hr2,hrr])
end Go.Known
end
section
namespace Go.Known
open Go Go.AE Go.Proofs
open Go.Plain
attribute [local simp] w00
theorem cForget0 (f n:Int) (he:errC f []=0) (h1:1≤n) (h2:n≤f):PCall Tryz.prog 113 [cV f [],.int .i64 n] (.tuple [cV (f - 1) [],.int .i64 0]):=by
 refine PCall_F hm 4 Tryz.func113 cjForget rfl rfl (by simp [closedL,AVal.closed,closedLL]) (by simp [AVal.closed,closedL,closedLL]) fun K hK=>?_
 have h59:=c59 f [] (by simp)
 have h31:=c31e
 have hKv:=hK (.tuple [cV (f - 1) [],.int .i64 0]) ⟨[],1⟩ (fz_code (f - 1) [])
 clear hK
 unfold cV dM1 dV0 at *
 simp
 refine SC_ctr h59 [] (by simp) (by simp) (by simp) ?_
 rintro r sm (⟨h1,_⟩ | ⟨_,_,q1,q2,rfl,rfl⟩ | ⟨_,h1,_⟩)
 · exact absurd he h1
 · have wf:IntKind.i64.wrap (f - 1)=f - 1:=wrap64 (by omega) (by omega)
   have hn1:¬n<1:=by omega
   have hn2:¬f<n:=by omega
   simp [hn1,hn2]
   refine SC_pure h31 ?_
   simp
   refine wZ_loop (α:=Unit) (fun _=>[(37,.int .i64 0),(36,.int .i64 0),(8,.imm []),(4,.ptr 2 0 0),(2,.ptr 1 0 0)])
    (fun _=>⟨[(2,.cells 2 [[.int .i64 0,.nilSl]]),(1,.cells 2 [[.int .i64 f,.imm []]])],3⟩) (fun _=>0) (fun _=>True) () [] (by simp) trivial ?_
   intro _ _ N hN
   simp [wf]
   exact endK hKv [] (by simp)
 · exact absurd rfl h1
end Go.Known
end
section
namespace Go.Known
open Go Go.AE Go.Proofs
open Go.Plain
def mxg (ls:List Lt) (i:Nat):Int:=if (at' ls i).g<(nxL ls i).g then (nxL ls i).g else (at' ls i).g
def isLp (ls:List Lt) (f:Int) (i:Nat):Bool:=decide ((at' ls i).k=1)&&down ls i&&decide (mxg ls i=f)
def lpA (ls:List Lt) (f:Int) (i:Nat):Nat×Nat:=if (at' ls i).g=f then ((i+1) % ls.length,i) else (i,(i+1) % ls.length)
def lpL (ls:List Lt) (f:Int) (n:Nat):List (Nat×Nat):=((List.range n).filter (isLp ls f)).map (lpA ls f)
def lrow (p:Nat×Nat):List AVal:=[.int .i64 p.1,.int .i64 p.2]
def cnL (ls:List Lt) (f:Int):Nat:=(lpL ls f ls.length).length
def cnLs (ls:List Lt) (F:Nat):List Nat:=(List.range F).map fun i:Nat=>cnL ls ((i:Int)+1)
section
variable {ls:List Lt} {f:Int} {n:Nat}
theorem lpL_zero:lpL ls f 0=[]:=rfl
theorem lpL_succ:lpL ls f (n+1)=if isLp ls f n=true then lpL ls f n++[lpA ls f n] else lpL ls f n:=by
 unfold lpL
 rw [List.range_succ,List.filter_append,List.map_append]
 by_cases h:isLp ls f n=true
 · simp [h]
 · simp [h]
theorem lpL_mem {p:Nat×Nat} (h:p∈lpL ls f n):∃ i,i<n∧isLp ls f i=true∧p=lpA ls f i:=by
 obtain⟨i,hi,rfl⟩:=List.mem_map.1 h
 rw [List.mem_filter,List.mem_range] at hi
 exact⟨i,hi.1,hi.2,rfl⟩
theorem lpL_le:(lpL ls f n).length≤n:=by
 have:=List.length_filter_le (isLp ls f) (List.range n)
 simpa [lpL] using this
theorem cnL_le:cnL ls f≤ls.length:=lpL_le
theorem lp_pass (hP:PosP ls) {p:Nat×Nat} (h:p∈lpL ls f ls.length):(p.1<ls.length∧(at' ls p.1).k=1)∧p.2<ls.length∧(at' ls p.2).k=1:=by
 obtain⟨i,hi,h1,rfl⟩:=lpL_mem h
 unfold isLp at h1
 simp only [Bool.and_eq_true,decide_eq_true_eq] at h1
 obtain⟨⟨h1,h2⟩,_⟩:=h1
 have h3:=(hP i hi h1 h2).1
 have h4:(i+1) % ls.length<ls.length:=Nat.mod_lt _ (by omega)
 unfold lpA
 split
 · exact⟨⟨h4,h3⟩,hi,h1⟩
 · exact⟨⟨hi,h1⟩,h4,h3⟩
theorem closed_lrow:∀ (ps:List (Nat×Nat)),closedLL (ps.map lrow)=true
 | []=>rfl
 | p :: r=>by
  have:=closed_lrow r
  simp only [List.map_cons,closedLL,lrow,closedL,AVal.closed,Bool.and_true,Bool.true_and] at this ⊢
  exact this
theorem cnLs_get {F i:Nat} (h:i<F):(cnLs ls F)[i]? = some (cnL ls ((i:Int)+1)):=by
 unfold cnLs
 rw [List.getElem?_map,List.getElem?_range h]
 rfl
theorem cnLs_succ (F:Nat):cnLs ls (F+1)=cnLs ls F++[cnL ls ((F:Int)+1)]:=by simp [cnLs,List.range_succ]
theorem cnLs_length (F:Nat):(cnLs ls F).length=F:=by simp [cnLs]
end
end Go.Known
end
section
namespace Go.AE
open Go.RowKit
variable {P:Program}
theorem slO_imm {Φ:Pers} {ρ:Rho} {W:Base} {w:World} {b k n:Nat} {rows:List (List AVal)} {m:Mem} {v:Value} (hr:Rel W Φ ρ m w) (hb:m.get b=some (.cells k rows)) (hn:rows.length=n) (h:R Φ ρ (.sl b 0 n) v) :
 ∃ B c e,w.heap[B]? = some (.cells c e (0,0))∧Φ B=none ∧ ∀ Φ1:Pers,(∀ B c,Φ B=some c→Φ1 B=some c)→Φ1 B=some c→R Φ1 ρ (.imm rows) v:=by
 obtain⟨l,o,g1,g2,g3,g4,g5⟩:=hr.live b _ hb
 cases h with
 | sl _ _ _ a cap l' hl hle hln hc ha=>
  rw [g1] at hl
  injection hl with hl
  subst hl
  cases g5 with
  | cells _ _ _ c e q1 q2 q3 q4 q5=>
   refine⟨l.blk,c,e,g4,g3,fun Φ1 hΦ h1=>?_⟩
   by_cases h0:rows=[]
   · subst h0
     simp only [List.length_nil] at hn
     subst hn
     exact .imm0 a cap fun hp=>⟨_,_,hc hp⟩
   · have hpos:0<rows.length:=List.length_pos_iff.2 h0
     have hcap:=hc (by omega)
     subst hcap
     have hg:∀ i row j x,rows[i]? = some row→row[j]? = some x → ∃ v,c[(l.sh+i)*k+j]? = some v∧v.oneCell'=true∧R Φ ρ x v:=q4.2
     have hidx:∀ i j,(l.sh+0)*l.k+i*k+j=(l.sh+i)*k+j:=fun i j=>by rw [q1,Nat.add_zero,Nat.add_mul]
     have:=R.imm (Φ:=Φ1) (ρ:=ρ) rows l.blk ((l.sh+0)*l.k) k cap c (fun i j=>(c[(l.sh+i)*k+j]?).getD (.bool false)) h0 (by omega) h1 q4.1 (fun i row j x hi hj=>by
      obtain⟨v,p1,p2,_⟩:=hg i row j x hi hj
      rw [hidx,p1]
      exact⟨rfl,p2⟩) (fun i row j x hi hj=>by
      obtain⟨v,p1,p2,p3⟩:=hg i row j x hi hj
      rw [p1]
      exact p3.ext ⟨hΦ,fun _ _ h=>h⟩)
     rw [hn] at this
     exact this
theorem Ctr_own {g:FuncId} {k n:Nat} {rows:List (List AVal)} {vs rest:List AVal} {q:Bool} (h:PCall P g (.agg (.imm rows :: vs) :: rest) (.bool q)) (hn:rows.length=n) :
 Ctr P g (.agg (.sl 1 0 n :: vs) :: rest) ⟨[(1,.cells k rows)],2⟩ fun r m=>r=.bool q∧m=⟨[(1,.cells k rows)],2⟩:=by
 have hP:=h (SMem.mem ⟨[],2⟩) []
 refine⟨hP.1,fun W Φ ρ us w hr ha hav=>?_⟩
 have hkey:∃ B c e,w.heap[B]? = some (.cells c e (0,0))∧Φ B=none ∧ ∀ Φ1:Pers,(∀ B c,Φ B=some c→Φ1 B=some c)→Φ1 B=some c→RL Φ1 ρ (.agg (.imm rows :: vs) :: rest) us:=by
  obtain⟨u0,hu0⟩:∃ u,us[0]? = some u:=⟨us[0]'(by rw [ha.1]; simp),Array.getElem?_eq_getElem _⟩
  have h0:=ha.2 0 _ u0 rfl hu0
  cases h0 with
  | agg _ ws hs hall=>
   obtain⟨z,hz⟩:∃ z,ws[0]? = some z:=⟨ws[0]'(by rw [hs]; simp),Array.getElem?_eq_getElem _⟩
   obtain⟨B,c,e,k1,k3,k2⟩:=slO_imm hr (b:=1) (k:=k) rfl hn (hall 0 _ z rfl hz)
   refine⟨B,c,e,k1,k3,fun Φ1 hΦ h1=>⟨by rw [ha.1]; rfl,fun i x v hx hv=>?_⟩⟩
   have hext:Ext Φ ρ Φ1 ρ:=⟨hΦ,fun _ _ h=>h⟩
   match i,hx with
   | 0,hx=>
    cases hx
    rw [hu0] at hv
    cases hv
    refine .agg _ ws (by rw [hs]; rfl) fun j y v hy hv=>?_
    match j,hy with
    | 0,hy=>
     cases hy
     rw [hz] at hv
     cases hv
     exact k2 Φ1 hΦ h1
    | j+1,hy=>exact (hall (j+1) y v hy hv).ext hext
   | i+1,hx=>exact (ha.2 (i+1) x v hx hv).ext hext
 obtain⟨B,c,e,k1,k3,k2⟩:=hkey
 obtain⟨Φ1,hΦ1⟩:∃ Φ1:Pers,Φ1=fun B'=>if B'=B then some c else Φ B':=⟨_,rfl⟩
 have hB:Φ1 B=some c:=by rw [hΦ1]; simp
 have hold:∀ B' c',Φ B'=some c'→Φ1 B'=some c':=fun B' c' h=>by
  rw [hΦ1]
  by_cases hq:B'=B
  · subst hq; rw [k3] at h; cases h
  · simp only; rw [if_neg hq]; exact h
 refine(hP.2 ⟨w,fun _=>none,Φ1⟩ Φ1 ρ us w ⟨⟨Below.refl _ _,fun B o hB=>(by cases hB)⟩,fun B' c' h'=>?_,fun b y hy=>(by cases hy),fun b b' y y' l l' h1=>(by cases h1),fun b l hl=>hr.fresh b l hl,fun B c hB=>.inl hB⟩ (k2 Φ1 hold hB) (fun b hb=>by simp at hb)).mono fun e w' he=>?_
 · rw [hΦ1] at h'
   simp only at h'
   split at h'
   · rename_i hq
     subst hq
     cases h'
     exact⟨_,_,k1⟩
   · exact hr.pers B' c' h'
 · obtain⟨u,r,m',Φ',ρ',rfl,hE,hk,hr',hR,hn',rfl,rfl⟩:=he
   cases hR
   exact⟨_,_,_,Φ,ρ,rfl,Ext.refl _ _,fun b _ _ h=>h,hr.below hr'.base.below,.bool q,Nat.le_refl _,_,rfl,rfl,rfl⟩
end Go.AE
end
