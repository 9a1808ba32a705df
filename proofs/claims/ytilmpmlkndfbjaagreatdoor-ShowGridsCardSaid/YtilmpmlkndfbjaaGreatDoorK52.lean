/-
  ShowGrids: of every picture of at most 60 gates and 60 rows on a side, the lines that the program makes are those of the definition, or both refuse the picture with the same error; and the chapter's examples hold. Conditions: none beyond the row's own (the listed variables start as the program's text lays them).
-/
import Derived.Test.YtilmpmlkndfbjaaGreatDoorK51
import Derived.Test.YtilmpmlkndfbjaaGreatDoorRows
import Derived.Test.YtilmpmlkndfbjaaGreatDoorCards
import Derived.Test.YtilmpmlkndfbjaaGreatDoorTie
import Derived.ProofKit
import Derived.LaidMore
import Derived.OpenShut
import Derived.Stop.Joined
import Derived.SevenTiedAt
set_option linter.all false
namespace Go.Proofs.YtilmpmlkndfbjaaGreatDoor
open Go.ChangeShapes Go.WideShapes Go.ChangeAt Go.WideMaps Go.WideElems Go.RowKit
open Go.Ab
theorem own:ownKnob Tryz.prog.godebug=none:=by kernel_rfl
theorem sy:laidOutB Tryz.prog=true:=by kernel_rfl
abbrev VJ:List (String×DataW Unit):=Rows.showGridsRow.laid
theorem Z5c(os:Os)(args:Array Value):laidMetH Tryz.prog VJ ((World.doorLaid Tryz.prog 400 os).forCall (fun _ _=>0) ⟨#[],args,[]⟩).memory:=
 laidMetH_of_parts3 (fuel:=8) (laidMet_of_run' 8 (by kernel_rfl) (by kernel_rfl)) (by kernel_rfl) (by kernel_rfl)
set_option maxRecDepth 100000 in
theorem Z5r(os:Os)(started:os.Started)(H:Type)(enc:TypeId×Value→H) :
 ReturnsInHanded {} Tryz.checked os 6 .any (fun w args=>(Rows.showGridsSpec.pre enc Tryz.prog Tryz.f6 [] false w args∧laidMetH Tryz.prog VJ w)∧sizedMet enc Tryz.prog Tryz.f6 (OpenSpec.ofChange Rows.showGridsSpec) false w args)
  (Rows.showGridsSpec.post enc Tryz.prog Tryz.f6 false true false false):=by
 refine returnsInHanded_of_change_and (C:=Tryz.checked) (X:=fun w _=>laidMetH Tryz.prog VJ w) (fun _ _ _ hh h=>h.of_heap hh) own started (by kernel_rfl) Tryz.func6
  (ChangeSpec.witness_shaped (enc:=enc) (C:=Tryz.checked) (os:=os) (X:=fun w _=>laidMetH Tryz.prog VJ w) false (World.doorLaid Tryz.prog 400 os) #[.agg #[.int .i64 0,.slice none 0 0,.slice none 0 0,.slice none 0 0]] 8 rfl (World.shaped_of_RefB (by kernel_rfl) (by kernel_rfl)) (by kernel_rfl) (by kernel_rfl) (by kernel_rfl) (Z5c os _)) ?_
 intro W base args ds gs before hval0 hW _ _ _ _;have hval:∀ (j:Nat) t v,Tryz.f6.params[j]? = some t→args[j]? = some v→Value.okWide Tryz.prog W .any base t v:=hval0
 have hW':=hW;obtain⟨p,q,hA0,hV,rfl,hfz,Ob⟩:=hW;have hA:DataW.TrodAll enc Tryz.prog W 0 (fun _=>true) true Tryz.f6.params.toList args.toList ds p:=hA0
 rw[Tryz.params6]at hA hval;obtain⟨v0,d0,rfl,rfl,h0⟩:=trodAll_one hA;obtain⟨rfl,rfl⟩:=trodVars_none hV;obtain⟨F,G,A,B,hR⟩:=Z7p (hval 0 25 v0 rfl rfl) h0;clear hA0 hval0;simp only[List.append_nil]at hW';have hlt:∀ x∈p,x.block<W.heap.size:=fun x hx=>by simpa using hW'.lt x hx
 refine(uf hR).mono fun e W' ⟨he,hb⟩=>?_
 subst he;have hargs:∀ sp:Nat→Bool,(∀ x∈p,sp x.block=true)→DataW.TrodAll enc Tryz.prog W' 0 sp true [25] [v0] [d0] p:=fun sp hsp=>
  trodAll_mk1 (Trod_stays sy (by kernel_rfl) (of_decide_eq_true (by kernel_rfl)) h0 (fun x hx=>hb.same (hlt x hx)) hsp)
 have hres:∀ (b:Nat) (sp:Nat→Bool) (hd:Bool),DataW.TrodAll enc Tryz.prog W' b sp hd [4] [.bool true] [.lit (.bool true)] []:=fun _ _ _=>trodAll_mk1 (shut_bool Tryz.underlying4 _)
 have hp:Tryz.f6.params.toList=[25]:=by rw[Tryz.params6]
 refine⟨_,rfl,[d0],[],p,[],p,[],hW',hres _ _ _,?_,rfl,World.keptBut_mono (fun x hx=>⟨hx,?_⟩) (hb.frame (· ∈ p)),fun hg=>(by cases hg)⟩
 ·show DataW.TrodAll enc Tryz.prog W' 0 _ true Tryz.f6.params.toList [v0] [d0] p;rw[hp];exact hargs _ fun x hx=>by simpa using hlt x hx
 ·exact .inr (.inl hx)
theorem Z8n:(Rows.showGridsRow.inPlace == Tryz.pinned.checked.prog.inPlace 6)=true:=by kernel_rfl
theorem Z7f:(Rows.showGridsRow.unfollowed == Tryz.pinned.checked.prog.unfollowed 6)=true:=by kernel_rfl
theorem wz:(Rows.showGridsRow.recurses == Tryz.pinned.checked.prog.recurses 6)=true:=by kernel_rfl
theorem yM:(Rows.showGridsRow.named == Tryz.pinned.checked.prog.varsNamed 6)=true:=by kernel_rfl
theorem vj:joinedFacts Tryz.pinned.checked.prog 6 Tryz.f6 Rows.showGridsSpec Rows.showGridsRow=true:=by
 unfold joinedFacts;rw[Z8n,Z7f,wz,yM];kernel_rfl
theorem Z86:Rows.ShowGridsSaid:=
 OpenClaim.holds_of_wide 6 Tryz.f6 rfl rfl rfl rfl rfl rfl rfl ⟨rfl,rfl,rfl,rfl,rfl⟩ rfl rfl rfl rfl rfl (by kernel_rfl) Tryz.func6 vj
  (of_decide_eq_true (by kernel_rfl)) (by unfold Func.isWrapper; first|(rw[iP (by decide +kernel)]; kernel_rfl)|(rw[iN (by decide +kernel)]; exact⟨rfl,rfl⟩))
  (fun os started H enc _=>Z5r os started H enc)
theorem showGrids_card:Rows.ShowGridsCardSaid:=
 Claim7.holds_tied_plain_at .later [] [.data,.data,.data] true (true,"71353fbaef47a002fd54a3e6607677225d59a1762755378bbcf7d1d59d783aa2") false
  Z86 (fun _ h=>by cases h) (by kernel_rfl) (fun _ h=>by cases h) showGrids_row_tie rfl ⟨rfl,rfl⟩ (by kernel_rfl) rfl
  (fun f fn hf hfn=>by
    obtain rfl:f=6:=Option.some.inj ((show Tryz.prog.funcNamed Rows.showGridsRow.func=some 6 by kernel_rfl).symm.trans hf) |>.symm
    obtain rfl:fn=Tryz.f6:=(Option.some.inj (Tryz.func6.symm.trans hfn)).symm;exact⟨by kernel_rfl,fun j t ht=>by
     rw[Tryz.params6]at ht;have hm:t∈[25]:=by simpa using Array.mem_of_getElem? ht
     have hall:([25].all fun u=>!Tryz.prog.wantsStandIn u)=true:=by kernel_rfl
     exact(show Tryz.prog.wantsStandIn t=false by simpa using List.all_eq_true.1 hall t hm)⟩)
  (by kernel_rfl)
#print axioms showGrids_card
end Go.Proofs.YtilmpmlkndfbjaaGreatDoor
