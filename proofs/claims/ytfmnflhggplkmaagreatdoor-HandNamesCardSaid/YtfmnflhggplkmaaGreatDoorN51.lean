/- Part 51 of the proof: Ih. -/
import Derived.Test.YtfmnflhggplkmaaGreatDoorN43
import Derived.Test.YtfmnflhggplkmaaGreatDoorN50
set_option linter.all false
namespace Go.Known
open Go Go.AE Go.Proofs
open Go.Plain
open Go.ChangeShapes Go.WideShapes Go.RowKit Go.Deep
variable {H:Type} {enc:TypeId×Value→H} {w:World} {base:Nat} {spare:Nat→Bool} {held:Bool}
theorem wf_int {n:Int} (h:(Lit.int .i64 n).wf=true) : -9223372036854775808≤n∧n≤9223372036854775807:=by
 simp only[Lit.wf,Bool.and_eq_true,decide_eq_true_eq]at h
 exact⟨h.1,h.2⟩
set_option maxRecDepth 100000 in
theorem finger_open64 {n:Nat} {cs:List Value} {x:DataW H×List MemPlace} (h:DataW.trod enc Tryz.prog w base spare held n 26 cs=some x) :
 ∃ l:Fg,cs=rowGV l∧Fg64 l:=by
 obtain⟨xs,m,_,_,hl,hlen,hf⟩:=DataW.trod_struct Tryz.underlying26 h
 have hc:Tryz.prog.cellsOf 26=3:=by kernel_rfl
 have h3:Tryz.prog.cellsOf 3=1:=by kernel_rfl
 have h4:Tryz.prog.cellsOf 4=1:=by kernel_rfl
 rw[hc]at hl
 match cs,hl with
 | [a0,a1,a2],_=>
  match xs,hlen with
  | [x0,x1,x2],_=>
   have e0:DataW.trod enc Tryz.prog w base spare held m 3 (([a0,a1,a2].drop 0).take (Tryz.prog.cellsOf 3))=some x0:=hf 0 _ rfl
   rw[h3]at e0
   have e1:DataW.trod enc Tryz.prog w base spare held m 4 (([a0,a1,a2].drop 1).take (Tryz.prog.cellsOf 4))=some x1:=hf 1 _ rfl
   rw[h4]at e1
   have e2:DataW.trod enc Tryz.prog w base spare held m 3 (([a0,a1,a2].drop 2).take (Tryz.prog.cellsOf 3))=some x2:=hf 2 _ rfl
   rw[h3]at e2
   obtain⟨n0,q0,_,g0⟩:=DataW.trod_int (t:=3) (k:=.i64) Tryz.underlying3 e0
   obtain⟨b1,q1,_⟩:=DataW.trod_bool (t:=4) Tryz.underlying4 e1
   obtain⟨n2,q2,_,g2⟩:=DataW.trod_int (t:=3) (k:=.i64) Tryz.underlying3 e2
   have r0:a0=.int .i64 n0:=by simpa using q0
   have r1:a1=.bool b1:=by simpa using q1
   have r2:a2=.int .i64 n2:=by simpa using q2
   subst r0 r1 r2
   exact⟨⟨n0,b1,n2⟩,rfl,(wf_int g0).1,(wf_int g0).2,(wf_int g2).1,(wf_int g2).2⟩
set_option maxRecDepth 100000 in
theorem finger_R64 {v:Value} {d:DataW H} {p:List MemPlace} {b:Nat} (hok:Value.okWide Tryz.prog w .any b 26 v) (h:DataW.Trod enc Tryz.prog w 0 (fun _=>true) held 26 v d p):∃ l:Fg,Fg64 l ∧ ∀(Φ:Pers) ρ,R Φ ρ (.agg (rowG l)) v:=by
 unfold Value.okWide at hok
 rw[Tryz.underlying26]at hok
 obtain⟨cs,rfl,hsz,_⟩:=hok
 obtain⟨fuel,h⟩:=h
 obtain⟨l,hl,h64⟩:=finger_open64 (base:=0) (spare:=fun _=>true) h
 have hl':cs.toList=rowGV l:=hl
 refine⟨l,h64,fun Φ ρ=>.agg _ _ (by rw[← Array.length_toList,hl']; rfl) fun i x v hx hv=>?_⟩
 obtain⟨u,g1,_,g3⟩:=rowG_R Φ ρ l i x hx
 rw[← Array.getElem?_toList,hl',g1]at hv
 cases hv
 exact g3
theorem law_callsN {v0:Value} (ht:T0 w) {x:Fg} (hx:Fg64 x) (s:ByteArray) (hR:∀ (Φ:Pers) ρ,R Φ ρ (.agg (rowG x)) v0) :
 Calls Tryz.prog 4 #[v0,.string s] w fun e w'=>e=.returned (.bool true)∧Below w.heap.size w w':=by
 obtain⟨⟨l⟩⟩:=s
 have hc:=cNames6 x hx l ⟨fun _=>none,1⟩ []
 refine(hc.2 ⟨w,fun _=>none,allP w,ht⟩ (allP w) (fun _=>none) #[v0,.string ⟨⟨l⟩⟩] w ⟨⟨Below.refl _ _,fun B o hB=>(by cases hB)⟩,fun B c hB=>allP_of hB,fun b x hx=>(by cases hx),fun b b' x x' l l' h1=>(by cases h1),fun b l hb=>(by cases hb),fun B c hB=>.inl hB⟩
  ⟨rfl,fun i x u hx hu=>?_⟩ (fun b hb=>by simp at hb)).mono fun e w' he=>?_
 ·match i,hx,hu with
  | 0,hx,hu=>cases hx; cases hu; exact hR _ _
  | 1,hx,hu=>cases hx; cases hu; exact .str _
  | i+2,hx,hu=>simp at hx
 ·obtain⟨u,r,m',Φ',ρ',rfl,_,_,hr,hRr,_,rfl,_⟩:=he
  refine⟨?_,hr.base.below⟩
  cases hRr
  rfl
end Go.Known
