/- Part 51 of the proof: Hc. -/
import Derived.Test.YtfmnflhggplkmaaGreatDoorU50
set_option linter.all false
namespace Go.Known
open Go Go.AE Go.Proofs
open Go.Plain
open Go.ChangeShapes Go.WideShapes Go.RowKit Go.Deep
variable {H:Type} {enc:TypeId×Value→H} {w:World} {held:Bool}
set_option maxRecDepth 100000 in
theorem finger_R {v:Value} {d:DataW H} {p:List MemPlace} {b:Nat} (hok:Value.okWide Tryz.prog w .any b 26 v) (h:DataW.Trod enc Tryz.prog w 0 (fun _=>true) held 26 v d p):∃ l:Fg,∀(Φ:Pers) ρ,R Φ ρ (.agg (rowG l)) v:=by
 unfold Value.okWide at hok
 rw[Tryz.underlying26]at hok
 obtain⟨cs,rfl,hsz,_⟩:=hok
 obtain⟨fuel,h⟩:=h
 obtain⟨l,hl⟩:=finger_open (base:=0) (spare:=fun _=>true) h
 have hl':cs.toList=rowGV l:=hl
 refine⟨l,fun Φ ρ=>.agg _ _ (by rw[← Array.length_toList,hl']; rfl) fun i x v hx hv=>?_⟩
 obtain⟨u,g1,_,g3⟩:=rowG_R Φ ρ l i x hx
 rw[← Array.getElem?_toList,hl',g1]at hv
 cases hv
 exact g3
theorem law_callsF {v0 v1:Value} {fs:List Fg} {re lo:Int} {x:Fg} (k:Int) (h0:∀ ρ,R (allP w) ρ (frV fs re lo) v0) (hR:∀ (Φ:Pers) ρ,R Φ ρ (.agg (rowG x)) v1) :
 Calls Tryz.prog 3 #[v0,v1,.int .i64 k] w fun e w'=>e=.returned (.bool true)∧Below w.heap.size w w':=by
 have hc:=cFrames6 fs re lo x k ⟨fun _=>none,1⟩ []
 refine(hc.2 ⟨w,fun _=>none,allP w⟩ (allP w) (fun _=>none) #[v0,v1,.int .i64 k] w ⟨⟨Below.refl _ _,fun B o hB=>(by cases hB)⟩,fun B c hB=>allP_of hB,fun b x hx=>(by cases hx),fun b b' x x' l l' h1=>(by cases h1),fun b l hb=>(by cases hb),fun B c hB=>.inl hB⟩
  ⟨rfl,fun i x u hx hu=>?_⟩ (fun b hb=>by simp at hb)).mono fun e w' he=>?_
 ·match i,hx,hu with
  | 0,hx,hu=>cases hx; cases hu; exact h0 _
  | 1,hx,hu=>cases hx; cases hu; exact hR _ _
  | 2,hx,hu=>cases hx; cases hu; exact .int _ _
  | i+3,hx,hu=>simp at hx
 ·obtain⟨u,r,m',Φ',ρ',rfl,_,_,hr,hRr,_,rfl,_⟩:=he
  refine⟨?_,hr.base.below⟩
  cases hRr
  rfl
end Go.Known
