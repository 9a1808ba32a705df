/-
  ShowDraws: the picture that the program draws of a valid code of at most 40 letters is the one of the definition, and no error is told; and the chapter's examples hold. Conditions: none beyond the row's own (the listed variables start as the program's text lays them).
-/
import Derived.Test.YtipeejpafgnjdaaGreatDoorG52
import Derived.Test.YtipeejpafgnjdaaGreatDoorRows
import Derived.Test.YtipeejpafgnjdaaGreatDoorCards
import Derived.Test.YtipeejpafgnjdaaGreatDoorTie
import Derived.ProofKit
import Derived.LaidMore
import Derived.OpenShut
import Derived.Stop.Joined
import Derived.SevenTiedAt
set_option linter.all false
namespace Go.Proofs.YtipeejpafgnjdaaGreatDoor
open Go.ChangeShapes Go.WideShapes Go.ChangeAt Go.WideMaps Go.WideElems Go.RowKit
open Go.Known
theorem own:ownKnob Tryz.prog.godebug=none:=by kernel_rfl
theorem Z87:laidOutB Tryz.prog=true:=by kernel_rfl
abbrev Z31:List (String×DataW Unit):=Rows.showDrawsRow.laid
theorem Z4i (os:Os) (args:Array Value):laidMetH Tryz.prog Z31 ((World.doorLaid Tryz.prog 400 os).forCall (fun _ _=>0) ⟨#[],args,[]⟩).memory:=
 laidMetH_of_parts3 (fuel:=8) (laidMet_of_run' 8 (by kernel_rfl) (by kernel_rfl)) (by kernel_rfl) (by kernel_rfl)
set_option maxRecDepth 100000 in
theorem lifted (os:Os) (started:os.Started) (H:Type) (enc:TypeId×Value→H) :
 ReturnsInHanded {} Tryz.checked os 3 .any (fun w args=>(Rows.showDrawsSpec.pre enc Tryz.prog Tryz.f3 [] false w args∧laidMetH Tryz.prog Z31 w)∧sizedMet enc Tryz.prog Tryz.f3 (OpenSpec.ofChange Rows.showDrawsSpec) false w args)
  (Rows.showDrawsSpec.post enc Tryz.prog Tryz.f3 false true false false):=by
 refine returnsInHanded_of_change_and (C:=Tryz.checked) (X:=fun w _=>laidMetH Tryz.prog Z31 w) (fun _ _ _ hh h=>h.of_heap hh) own started (by kernel_rfl) Tryz.func3
  (ChangeSpec.witness_shaped (enc:=enc) (C:=Tryz.checked) (os:=os) (X:=fun w _=>laidMetH Tryz.prog Z31 w) false (World.doorLaid Tryz.prog 400 os) #[.agg #[.int .i64 0,.slice none 0 0]] 8 rfl (World.shaped_of_RefB (by kernel_rfl) (by kernel_rfl)) (by kernel_rfl) (by kernel_rfl) (by kernel_rfl) (Z4i os _)) ?_
 intro W base args ds gs before hval0 hW _ _ _ _
 have hval:∀ (j:Nat) t v,Tryz.f3.params[j]? = some t→args[j]? = some v→Value.okWide Tryz.prog W .any base t v:=hval0
 have hW':=hW
 obtain⟨p,q,hA0,hV,rfl,hfz,hnd⟩:=hW
 have hA:DataW.TrodAll enc Tryz.prog W 0 (fun _=>true) true Tryz.f3.params.toList args.toList ds p:=hA0
 rw[Tryz.params3]at hA hval
 obtain⟨v0,d0,rfl,rfl,h0⟩:=trodAll_one hA
 obtain⟨rfl,rfl⟩:=trodVars_none hV
 obtain⟨f,ls,hR⟩:=code_R (hval 0 24 v0 rfl rfl) h0
 clear hA0 hval0
 simp only[List.append_nil]at hW'
 have hlt:∀ x∈p,x.block<W.heap.size:=fun x hx=>by simpa using hW'.lt x hx
 refine(Zzd hR).mono fun e W' ⟨he,hb⟩=>?_
 subst he
 have hargs:∀ sp:Nat→Bool,(∀ x∈p,sp x.block=true)→DataW.TrodAll enc Tryz.prog W' 0 sp true [24] [v0] [d0] p:=fun sp hsp=>
  trodAll_mk1 (Trod_stays Z87 (by kernel_rfl) (of_decide_eq_true (by kernel_rfl)) h0 (fun x hx=>hb.same (hlt x hx)) hsp)
 have hres:∀ (b:Nat) (sp:Nat→Bool) (hd:Bool),DataW.TrodAll enc Tryz.prog W' b sp hd [4] [.bool true] [.lit (.bool true)] []:=fun _ _ _=>trodAll_mk1 (shut_bool Tryz.underlying4 _)
 have hp:Tryz.f3.params.toList=[24]:=by rw[Tryz.params3]
 refine⟨_,rfl,[d0],[],p,[],p,[],hW',hres _ _ _,?_,rfl,World.keptBut_mono (fun x hx=>⟨hx,?_⟩) (hb.frame (· ∈ p)),fun hg=>(by cases hg)⟩
 ·show DataW.TrodAll enc Tryz.prog W' 0 _ true Tryz.f3.params.toList [v0] [d0] p
  rw[hp]
  exact hargs _ fun x hx=>by simpa using hlt x hx
 ·exact .inr (.inl hx)
theorem facts1:(Rows.showDrawsRow.inPlace == Tryz.pinned.checked.prog.inPlace 3)=true:=by kernel_rfl
theorem facts2:(Rows.showDrawsRow.unfollowed == Tryz.pinned.checked.prog.unfollowed 3)=true:=by kernel_rfl
theorem facts3:(Rows.showDrawsRow.recurses == Tryz.pinned.checked.prog.recurses 3)=true:=by kernel_rfl
theorem facts4:(Rows.showDrawsRow.named == Tryz.pinned.checked.prog.varsNamed 3)=true:=by kernel_rfl
theorem facts5:joinedFacts Tryz.pinned.checked.prog 3 Tryz.f3 Rows.showDrawsSpec Rows.showDrawsRow=true:=by
 unfold joinedFacts
 rw[facts1,facts2,facts3,facts4]
 kernel_rfl
theorem Zog:Rows.ShowDrawsSaid:=
 OpenClaim.holds_of_wide 3 Tryz.f3 rfl rfl rfl rfl rfl rfl rfl ⟨rfl,rfl,rfl,rfl,rfl⟩ rfl rfl rfl rfl rfl (by kernel_rfl) Tryz.func3 facts5
  (of_decide_eq_true (by kernel_rfl)) (by unfold Func.isWrapper; first|(rw[if_pos (by decide +kernel)]; kernel_rfl)|(rw[if_neg (by decide +kernel)]; exact⟨rfl,rfl⟩))
  (fun os started H enc _=>lifted os started H enc)
theorem showDraws_card:Rows.ShowDrawsCardSaid:=
 Claim7.holds_tied_plain_at .later [] [.data,.data,.data] true (true,"e4bac6958e260c6b529418d771dc9f186dfe6975e37d3254e27cf43ce8eb6df4") false
  Zog (fun _ h=>by cases h) (by kernel_rfl) (fun _ h=>by cases h) showDraws_row_tie rfl ⟨rfl,rfl⟩ (by kernel_rfl) rfl
  (fun f fn hf hfn=>by
    obtain rfl:f=3:=Option.some.inj ((show Tryz.prog.funcNamed Rows.showDrawsRow.func=some 3 by kernel_rfl).symm.trans hf) |>.symm
    obtain rfl:fn=Tryz.f3:=(Option.some.inj (Tryz.func3.symm.trans hfn)).symm
    exact⟨by kernel_rfl,fun j t ht=>by
     rw[Tryz.params3]at ht
     have hm:t∈[24]:=by simpa using Array.mem_of_getElem? ht
     have hall:([24].all fun u=>!Tryz.prog.wantsStandIn u)=true:=by kernel_rfl
     exact(show Tryz.prog.wantsStandIn t=false by simpa using List.all_eq_true.1 hall t hm)⟩)
  (by kernel_rfl)
#print axioms showDraws_card
end Go.Proofs.YtipeejpafgnjdaaGreatDoor
