/-
  HandHangs: how the string hangs on fingers is that of the definition, and each of these fingers has one loop, of every frame of at most 60 fingers and every list of at most 60 fingers, and the chapter's examples hold. Conditions: none beyond the row's own (the listed variables start as the program's text lays them).
-/
import Derived.Test.YtfmnflhggplkmaaGreatDoorV51
import Derived.Test.YtfmnflhggplkmaaGreatDoorRows
import Derived.Test.YtfmnflhggplkmaaGreatDoorCards
import Derived.Test.YtfmnflhggplkmaaGreatDoorTie
import Derived.ProofKit
import Derived.LaidMore
import Derived.OpenShut
import Derived.Stop.Joined
import Derived.SevenTiedAt
set_option linter.all false
namespace Go.Proofs.YtfmnflhggplkmaaGreatDoor
open Go.ChangeShapes Go.WideShapes Go.ChangeAt Go.WideMaps Go.WideElems Go.RowKit
open Go.Known
theorem own:ownKnob Tryz.prog.godebug=none:=by kernel_rfl
theorem laidOut:laidOutB Tryz.prog=true:=by kernel_rfl
abbrev laid3:List (String×DataW Unit):=Rows.handHangsRow.laid
theorem door_met (os:Os) (args:Array Value):laidMetH Tryz.prog laid3 ((World.doorLaid Tryz.prog 400 os).forCall (fun _ _=>0) ⟨#[],args,[]⟩).memory:=
 laidMetH_of_parts3 (fuel:=8) (laidMet_of_run' 8 (by kernel_rfl) (by kernel_rfl)) (by kernel_rfl) (by kernel_rfl)
set_option maxRecDepth 100000 in
theorem lifted (os:Os) (started:os.Started) (H:Type) (enc:TypeId×Value→H) :
 ReturnsInHanded {} Tryz.checked os 5 .any (fun w args=>(Rows.handHangsSpec.pre enc Tryz.prog Tryz.f5 [] false w args∧laidMetH Tryz.prog laid3 w)∧sizedMet enc Tryz.prog Tryz.f5 (OpenSpec.ofChange Rows.handHangsSpec) false w args)
  (Rows.handHangsSpec.post enc Tryz.prog Tryz.f5 false true false false):=by
 refine returnsInHanded_of_change_and (C:=Tryz.checked) (X:=fun w _=>laidMetH Tryz.prog laid3 w) (fun _ _ _ hh h=>h.of_heap hh) own started (by kernel_rfl) Tryz.func5
  (ChangeSpec.witness_shaped (enc:=enc) (C:=Tryz.checked) (os:=os) (X:=fun w _=>laidMetH Tryz.prog laid3 w) false (World.doorLaid Tryz.prog 400 os) #[.agg #[.slice none 0 0,.int .i64 0,.int .i64 0],.slice none 0 0] 8 rfl (World.shaped_of_RefB (by kernel_rfl) (by kernel_rfl)) (by kernel_rfl) (by kernel_rfl) (by kernel_rfl) (door_met os _)) ?_
 intro W base args ds gs before hval0 hW _ _ _ _
 have hval:∀ (j:Nat) t v,Tryz.f5.params[j]? = some t→args[j]? = some v→Value.okWide Tryz.prog W .any base t v:=hval0
 have hW':=hW
 obtain⟨p,q,hA0,hV,rfl,hfz,hnd⟩:=hW
 have hA:DataW.TrodAll enc Tryz.prog W 0 (fun _=>true) true Tryz.f5.params.toList args.toList ds p:=hA0
 rw[Tryz.params5]at hA hval
 obtain⟨v0,v1,d0,d1,p0,p1,rfl,rfl,rfl,h0,h1⟩:=trodAll_two hA
 obtain⟨rfl,rfl⟩:=trodVars_none hV
 obtain⟨fs,re,lo,hF⟩:=frame_R (hval 0 24 v0 rfl rfl) h0
 obtain⟨xs,hR⟩:=ints_R (hval 1 41 v1 rfl rfl) h1
 clear hA0 hval0
 simp only[List.append_nil]at hW' hfz ⊢
 have hlt:∀ x∈p0++p1,x.block<W.heap.size:=fun x hx=>by simpa using hW'.lt x (by simpa using hx)
 refine(law_callsH hF hR).mono fun e W' ⟨he,hb⟩=>?_
 subst he
 have hargs:∀ sp:Nat→Bool,(∀ x∈p0++p1,sp x.block=true)→DataW.TrodAll enc Tryz.prog W' 0 sp true [24,41] [v0,v1] [d0,d1] (p0++p1):=fun sp hsp=>by
  have:=trodAll_mk2 (Trod_stays (sp':=sp) laidOut (by kernel_rfl) (of_decide_eq_true (by kernel_rfl)) h0 (fun x hx=>hb.same (hlt x (List.mem_append_left _ hx))) fun x hx=>hsp x (List.mem_append_left _ hx)) (Trod_stays (sp':=sp) laidOut (by kernel_rfl) (of_decide_eq_true (by kernel_rfl)) h1 (fun x hx=>hb.same (hlt x (List.mem_append_right _ hx))) fun x hx=>hsp x (List.mem_append_right _ hx))
  simpa using this
 have hres:∀ (b:Nat) (sp:Nat→Bool) (hd:Bool),DataW.TrodAll enc Tryz.prog W' b sp hd [4] [.bool true] [.lit (.bool true)] []:=fun _ _ _=>trodAll_mk1 (shut_bool Tryz.underlying4 _)
 have hp:Tryz.f5.params.toList=[24,41]:=by rw[Tryz.params5]
 refine⟨_,rfl,[d0,d1],[],p0++p1,[],p0++p1,[],by simpa using hW',hres _ _ _,?_,rfl,World.keptBut_mono (fun x hx=>⟨hx,?_⟩) (hb.frame (· ∈ p0++p1)),fun hg=>(by cases hg)⟩
 ·show DataW.TrodAll enc Tryz.prog W' 0 _ true Tryz.f5.params.toList [v0,v1] [d0,d1] (p0++p1)
  rw[hp]
  exact hargs _ fun x hx=>by simpa using hlt x hx
 ·exact .inr (.inl (by simpa using hx))
theorem facts1:(Rows.handHangsRow.inPlace == Tryz.pinned.checked.prog.inPlace 5)=true:=by kernel_rfl
theorem facts2:(Rows.handHangsRow.unfollowed == Tryz.pinned.checked.prog.unfollowed 5)=true:=by kernel_rfl
theorem facts3:(Rows.handHangsRow.recurses == Tryz.pinned.checked.prog.recurses 5)=true:=by kernel_rfl
theorem facts4:(Rows.handHangsRow.named == Tryz.pinned.checked.prog.varsNamed 5)=true:=by kernel_rfl
theorem facts5:joinedFacts Tryz.pinned.checked.prog 5 Tryz.f5 Rows.handHangsSpec Rows.handHangsRow=true:=by
 unfold joinedFacts
 rw[facts1,facts2,facts3,facts4]
 kernel_rfl
theorem handHangs_holds:Rows.HandHangsSaid:=
 OpenClaim.holds_of_wide 5 Tryz.f5 rfl rfl rfl rfl rfl rfl rfl ⟨rfl,rfl,rfl,rfl,rfl⟩ rfl rfl rfl rfl rfl (by kernel_rfl) Tryz.func5 facts5
  (of_decide_eq_true (by kernel_rfl)) (by unfold Func.isWrapper; first|(rw[if_pos (by decide +kernel)]; kernel_rfl)|(rw[if_neg (by decide +kernel)]; exact⟨rfl,rfl⟩))
  (fun os started H enc _=>lifted os started H enc)
theorem handHangs_card:Rows.HandHangsCardSaid:=
 Claim7.holds_tied_plain_at .later [] [.data,.data,.data] true (true,"d567b9e93ac92427478133e4d1d0afabaddde720bef912196bbc5eb42db61796") false
  handHangs_holds (fun _ h=>by cases h) (by kernel_rfl) (fun _ h=>by cases h) handHangs_row_tie rfl ⟨rfl,rfl⟩ (by kernel_rfl) rfl
  (fun f fn hf hfn=>by
    obtain rfl:f=5:=Option.some.inj ((show Tryz.prog.funcNamed Rows.handHangsRow.func=some 5 by kernel_rfl).symm.trans hf) |>.symm
    obtain rfl:fn=Tryz.f5:=(Option.some.inj (Tryz.func5.symm.trans hfn)).symm
    exact⟨by kernel_rfl,fun j t ht=>by
     rw[Tryz.params5]at ht
     have hm:t∈[24,41]:=by simpa using Array.mem_of_getElem? ht
     have hall:([24,41].all fun u=>!Tryz.prog.wantsStandIn u)=true:=by kernel_rfl
     exact(show Tryz.prog.wantsStandIn t=false by simpa using List.all_eq_true.1 hall t hm)⟩)
  (by kernel_rfl)
#print axioms handHangs_card
end Go.Proofs.YtfmnflhggplkmaaGreatDoor
