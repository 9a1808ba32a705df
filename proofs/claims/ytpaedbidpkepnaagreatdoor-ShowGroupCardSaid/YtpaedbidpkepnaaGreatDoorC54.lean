/-
  ShowGroup: the symmetries that a valid code of at most 40 letters has are a group, their number divides eight, a code and its image have the same ones, and the chapter's examples hold. Conditions: none beyond the row's own (the listed variables start as the program's text lays them).
-/
import Derived.Test.YtpaedbidpkepnaaGreatDoorC27
import Derived.Test.YtpaedbidpkepnaaGreatDoorC53
import Derived.Test.YtpaedbidpkepnaaGreatDoorRows
import Derived.Test.YtpaedbidpkepnaaGreatDoorCards
import Derived.Test.YtpaedbidpkepnaaGreatDoorTie
import Derived.ProofKit
import Derived.LaidMore
import Derived.OpenShut
import Derived.Stop.Joined
import Derived.SevenTiedAt
set_option linter.all false
section
namespace Go.Known
open Go Go.AE Go.Proofs
open Go.Plain
open Go.ChangeShapes Go.WideShapes Go.RowKit Go.Deep
variable {H:Type} {enc:TypeId×Value→H} {w:World} {base:Nat} {spare:Nat→Bool} {held:Bool}
theorem law_calls {v:Value} {f:Int} {ls:List Lt} (k:Int) (hR:∀ ρ,R (allP w) ρ (cV f ls) v):Calls Tryz.prog 3 #[v,.int .i64 k] w fun e w'=>e=.returned (.bool true)∧Below w.heap.size w w':=by
 have hc:=cGrp f ls k ⟨fun _=>none,1⟩ []
 refine(hc.2 ⟨w,fun _=>none,allP w⟩ (allP w) (fun _=>none) #[v,.int .i64 k] w ⟨⟨Below.refl _ _,fun B o hB=>(by cases hB)⟩,fun B c hB=>allP_of hB,fun b x hx=>(by cases hx),fun b b' x x' l l' h1=>(by cases h1),fun b l hb=>(by cases hb),fun B c hB=>.inl hB⟩
  ⟨rfl,fun i x u hx hu=>?_⟩ (fun b hb=>by simp at hb)).mono fun e w' he=>?_
 · match i,hx,hu with
   | 0,hx,hu=>cases hx; cases hu; exact hR _
   | 1,hx,hu=>cases hx; cases hu; exact .int _ _
   | i+2,hx,hu=>simp at hx
 · obtain⟨u,r,m',Φ',ρ',rfl,_,_,hr,hRr,_,rfl,_⟩:=he
   refine⟨?_,hr.base.below⟩
   cases hRr
   rfl
end Go.Known
end
section
namespace Go.Proofs.YtpaedbidpkepnaaGreatDoor
open Go.ChangeShapes Go.WideShapes Go.ChangeAt Go.WideMaps Go.WideElems Go.RowKit
open Go.Known
theorem own:ownKnob Tryz.prog.godebug=none:=by kernel_rfl
theorem laidOut:laidOutB Tryz.prog=true:=by kernel_rfl
abbrev laid3:List (String×DataW Unit):=Rows.showGroupRow.laid
theorem door_met (os:Os) (args:Array Value):laidMetH Tryz.prog laid3 ((World.doorLaid Tryz.prog 400 os).forCall (fun _ _=>0) ⟨#[],args,[]⟩).memory:=
 laidMetH_of_parts3 (fuel:=8) (laidMet_of_run' 8 (by kernel_rfl) (by kernel_rfl)) (by kernel_rfl) (by kernel_rfl)
set_option maxRecDepth 100000 in
theorem lifted (os:Os) (started:os.Started) (H:Type) (enc:TypeId×Value→H) :
 ReturnsInHanded {} Tryz.checked os 3 .any (fun w args=>(Rows.showGroupSpec.pre enc Tryz.prog Tryz.f3 [] false w args∧laidMetH Tryz.prog laid3 w)∧sizedMet enc Tryz.prog Tryz.f3 (OpenSpec.ofChange Rows.showGroupSpec) false w args)
  (Rows.showGroupSpec.post enc Tryz.prog Tryz.f3 false true false false):=by
 refine returnsInHanded_of_change_and (C:=Tryz.checked) (X:=fun w _=>laidMetH Tryz.prog laid3 w) (fun _ _ _ hh h=>h.of_heap hh) own started (by kernel_rfl) Tryz.func3
  (ChangeSpec.witness_shaped (enc:=enc) (C:=Tryz.checked) (os:=os) (X:=fun w _=>laidMetH Tryz.prog laid3 w) false (World.doorLaid Tryz.prog 400 os) #[.agg #[.int .i64 0,.slice none 0 0],.int .i64 0] 8 rfl (World.shaped_of_RefB (by kernel_rfl) (by kernel_rfl)) (by kernel_rfl) (by kernel_rfl) (by kernel_rfl) (door_met os _)) ?_
 intro W base args ds gs before hval0 hW _ _ _ _
 have hval:∀ (j:Nat) t v,Tryz.f3.params[j]? = some t→args[j]? = some v→Value.okWide Tryz.prog W .any base t v:=hval0
 have hW':=hW
 obtain⟨p,q,hA0,hV,rfl,hfz,hnd⟩:=hW
 have hA:DataW.TrodAll enc Tryz.prog W 0 (fun _=>true) true Tryz.f3.params.toList args.toList ds p:=hA0
 rw [Tryz.params3] at hA hval
 obtain⟨v0,v1,d0,d1,p0,p1,rfl,rfl,rfl,h0,h1⟩:=trodAll_two hA
 obtain⟨rfl,rfl⟩:=trodVars_none hV
 obtain⟨f,ls,hR⟩:=code_R (hval 0 24 v0 rfl rfl) h0
 obtain⟨k,rfl,rfl,rfl,hwf⟩:=open_int (t:=3) (k:=.i64) Tryz.underlying3 (hval 1 3 v1 rfl rfl) h1
 clear hA0 hval0
 simp only [List.append_nil] at hW' hfz ⊢
 have hlt:∀ x∈p0,x.block<W.heap.size:=fun x hx=>by simpa using hW'.lt x (by simpa using hx)
 refine(law_calls k hR).mono fun e W' ⟨he,hb⟩=>?_
 subst he
 have hargs:∀ sp:Nat→Bool,(∀ x∈p0,sp x.block=true)→DataW.TrodAll enc Tryz.prog W' 0 sp true [24,3] [v0,.int .i64 k] [d0,.lit (.int .i64 k)] p0:=fun sp hsp=>by
  have:=trodAll_mk2 (Trod_stays (sp':=sp) laidOut (by kernel_rfl) (of_decide_eq_true (by kernel_rfl)) h0 (fun x hx=>hb.same (hlt x hx)) hsp) (shut_int (enc:=enc) (P:=Tryz.prog) (w:=W') (base:=0) (spare:=sp) (held:=true) (t:=3) Tryz.underlying3 hwf)
  simpa using this
 have hres:∀ (b:Nat) (sp:Nat→Bool) (hd:Bool),DataW.TrodAll enc Tryz.prog W' b sp hd [4] [.bool true] [.lit (.bool true)] []:=fun _ _ _=>trodAll_mk1 (shut_bool Tryz.underlying4 _)
 have hp:Tryz.f3.params.toList=[24,3]:=by rw [Tryz.params3]
 refine⟨_,rfl,[d0,.lit (.int .i64 k)],[],p0,[],p0,[],by simpa using hW',hres _ _ _,?_,rfl,World.keptBut_mono (fun x hx=>⟨hx,?_⟩) (hb.frame (· ∈ p0)),fun hg=>(by cases hg)⟩
 · show DataW.TrodAll enc Tryz.prog W' 0 _ true Tryz.f3.params.toList [v0,.int .i64 k] [d0,.lit (.int .i64 k)] p0
   rw [hp]
   exact hargs _ fun x hx=>by simpa using hlt x hx
 · exact .inr (.inl (by simpa using hx))
theorem showGroup_holds:Rows.ShowGroupSaid:=
 OpenClaim.holds_of_wide 3 Tryz.f3 rfl rfl rfl rfl rfl rfl rfl ⟨rfl,rfl,rfl,rfl,rfl⟩ rfl rfl rfl rfl rfl (by kernel_rfl) Tryz.func3 (by kernel_rfl)
  (of_decide_eq_true (by kernel_rfl)) (by unfold Func.isWrapper; first | (rw [if_pos (by decide +kernel)]; kernel_rfl) | (rw [if_neg (by decide +kernel)]; exact⟨rfl,rfl⟩))
  (fun os started H enc _=>lifted os started H enc)
theorem showGroup_card:Rows.ShowGroupCardSaid:=
 Claim7.holds_tied_plain_at .later [] [.data,.data,.data] true (true,"7a251db666f547116da8e35752549d9e4dadafe9cd13d69a9a28dd8ef8eae710") false
  showGroup_holds (fun _ h=>by cases h) (by kernel_rfl) (fun _ h=>by cases h) showGroup_row_tie rfl ⟨rfl,rfl⟩ (by kernel_rfl) rfl
  (fun f fn hf hfn=>by
    obtain rfl:f=3:=Option.some.inj ((show Tryz.prog.funcNamed Rows.showGroupRow.func=some 3 by kernel_rfl).symm.trans hf) |>.symm
    obtain rfl:fn=Tryz.f3:=(Option.some.inj (Tryz.func3.symm.trans hfn)).symm
    exact⟨by kernel_rfl,fun j t ht=>by
     rw [Tryz.params3] at ht
     have hm:t∈[24,3]:=by simpa using Array.mem_of_getElem? ht
     have hall:([24,3].all fun u=>!Tryz.prog.wantsStandIn u)=true:=by kernel_rfl
     exact(show Tryz.prog.wantsStandIn t=false by simpa using List.all_eq_true.1 hall t hm)⟩)
  (by kernel_rfl)
#print axioms showGroup_card
end Go.Proofs.YtpaedbidpkepnaaGreatDoor
end
