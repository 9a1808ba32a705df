/-
  HandForgets: a finger that lets a loop go changes nothing for those who forget it: the word of the string without this finger stays what it was, of every frame of at most 60 fingers, every code of at most 40 letters and every finger, and the chapter's examples hold. Conditions: none beyond the row's own (the listed variables start as the program's text lays them).
-/
import Derived.Test.YtggclbeocekgkaaGreatDoorP51
import Derived.Test.YtggclbeocekgkaaGreatDoorP52
import Derived.Test.YtggclbeocekgkaaGreatDoorP53
import Derived.Test.YtggclbeocekgkaaGreatDoorRows
import Derived.Test.YtggclbeocekgkaaGreatDoorCards
import Derived.Test.YtggclbeocekgkaaGreatDoorTie
import Derived.ProofKit
import Derived.LaidMore
import Derived.OpenShut
import Derived.Stop.Joined
import Derived.SevenTiedAt
set_option linter.all false
section
namespace Go.Proofs.YtggclbeocekgkaaGreatDoor
open Go.ChangeShapes Go.WideShapes Go.ChangeAt Go.WideMaps Go.WideElems Go.RowKit
open Go.Ac
theorem own:ownKnob Tryz.prog.godebug=none:=by kernel_rfl
theorem mN:laidOutB Tryz.prog=true:=by kernel_rfl
abbrev WA:List (String×DataW Unit):=Rows.handForgetsRow.laid
theorem Z77(os:Os)(args:Array Value):laidMetH Tryz.prog WA ((World.doorLaid Tryz.prog 400 os).forCall (fun _ _=>0) ⟨#[],args,[]⟩).memory:=
 laidMetH_of_parts3 (fuel:=8) (laidMet_of_run' 8 (by kernel_rfl) (by kernel_rfl)) (by kernel_rfl) (by kernel_rfl)
set_option maxRecDepth 100000 in
theorem y7(os:Os)(started:os.Started)(H:Type)(enc:TypeId×Value→H) :
 ReturnsInHanded {} Tryz.checked os 7 .any (fun w args=>(Rows.handForgetsSpec.pre enc Tryz.prog Tryz.f7 [] false w args∧laidMetH Tryz.prog WA w)∧sizedMet enc Tryz.prog Tryz.f7 (OpenSpec.ofChange Rows.handForgetsSpec) false w args)
  (Rows.handForgetsSpec.post enc Tryz.prog Tryz.f7 false true false false):=by
 refine returnsInHanded_of_change_and (C:=Tryz.checked) (X:=fun w _=>laidMetH Tryz.prog WA w) (fun _ _ _ hh h=>h.of_heap hh) own started (by kernel_rfl) Tryz.func7
  (ChangeSpec.witness_shaped (enc:=enc) (C:=Tryz.checked) (os:=os) (X:=fun w _=>laidMetH Tryz.prog WA w) false (World.doorLaid Tryz.prog 400 os) #[.agg #[.slice none 0 0,.int .i64 0,.int .i64 0],.agg #[.int .i64 0,.slice none 0 0],.int .i64 0] 8 rfl (World.shaped_of_RefB (by kernel_rfl) (by kernel_rfl)) (by kernel_rfl) (by kernel_rfl) (by kernel_rfl) (Z77 os _)) ?_
 intro W base args ds gs before hval0 hW _ _ _ _;have hval:∀ (j:Nat) t v,Tryz.f7.params[j]? = some t→args[j]? = some v→Value.okWide Tryz.prog W .any base t v:=hval0
 have hW':=hW;obtain⟨p,q,hA0,hV,rfl,hfz,Dy⟩:=hW;have hA:DataW.TrodAll enc Tryz.prog W 0 (fun _=>true) true Tryz.f7.params.toList args.toList ds p:=hA0
 rw[Tryz.params7]at hA hval;obtain⟨v0,v1,v2,d0,d1,d2,p0,p1,p2,rfl,rfl,rfl,h0,h1,h2⟩:=trodAll_three hA;obtain⟨rfl,rfl⟩:=trodVars_none hV;obtain⟨fs,re,lo,hF⟩:=Z21 (hval 0 24 v0 rfl rfl) h0;obtain⟨f,ls,hR⟩:=Z8f (hval 1 27 v1 rfl rfl) h1;obtain⟨k,rfl,rfl,rfl,hwf⟩:=open_int (t:=3) (k:=.i64) Tryz.underlying3 (hval 2 3 v2 rfl rfl) h2;clear hA0 hval0;simp only[List.append_nil]at hW' hfz ⊢
 have hlt:∀ x∈p0++p1,x.block<W.heap.size:=fun x hx=>by simpa using hW'.lt x (by simpa using hx)
 refine(Z2e k hF hR).mono fun e W' ⟨he,hb⟩=>?_
 subst he;have hargs:∀ sp:Nat→Bool,(∀ x∈p0++p1,sp x.block=true)→DataW.TrodAll enc Tryz.prog W' 0 sp true [24,27,3] [v0,v1,.int .i64 k] [d0,d1,.lit (.int .i64 k)] (p0++p1):=fun sp hsp=>by
  have:=trodAll_mk3 (Trod_stays (sp':=sp) mN (by kernel_rfl) (of_decide_eq_true (by kernel_rfl)) h0 (fun x hx=>hb.same (hlt x (List.mem_append_left _ hx))) fun x hx=>hsp x (List.mem_append_left _ hx)) (Trod_stays (sp':=sp) mN (by kernel_rfl) (of_decide_eq_true (by kernel_rfl)) h1 (fun x hx=>hb.same (hlt x (List.mem_append_right _ hx))) fun x hx=>hsp x (List.mem_append_right _ hx)) (shut_int (enc:=enc) (P:=Tryz.prog) (w:=W') (base:=0) (spare:=sp) (held:=true) (t:=3) Tryz.underlying3 hwf)
  simpa using this
 have hres:∀ (b:Nat) (sp:Nat→Bool) (hd:Bool),DataW.TrodAll enc Tryz.prog W' b sp hd [4] [.bool true] [.lit (.bool true)] []:=fun _ _ _=>trodAll_mk1 (shut_bool Tryz.underlying4 _)
 have hp:Tryz.f7.params.toList=[24,27,3]:=by rw[Tryz.params7]
 refine⟨_,rfl,[d0,d1,.lit (.int .i64 k)],[],p0++p1,[],p0++p1,[],by simpa using hW',hres _ _ _,?_,rfl,World.keptBut_mono (fun x hx=>⟨hx,?_⟩) (hb.frame (· ∈ p0++p1)),fun hg=>(by cases hg)⟩
 ·show DataW.TrodAll enc Tryz.prog W' 0 _ true Tryz.f7.params.toList [v0,v1,.int .i64 k] [d0,d1,.lit (.int .i64 k)] (p0++p1);rw[hp];exact hargs _ fun x hx=>by simpa using hlt x hx
 ·exact .inr (.inl (by simpa using hx))
end Go.Proofs.YtggclbeocekgkaaGreatDoor
end
section
namespace Go.Proofs.YtggclbeocekgkaaGreatDoor
open Go.ChangeShapes Go.WideShapes Go.ChangeAt Go.WideMaps Go.WideElems Go.RowKit
open Go.Ac
theorem Z3x:Rows.HandForgetsSaid:=
 OpenClaim.holds_of_wide 7 Tryz.f7 rfl rfl rfl rfl rfl rfl rfl ⟨rfl,rfl,rfl,rfl,rfl⟩ rfl rfl rfl rfl rfl (by kernel_rfl) Tryz.func7 Z00
  (of_decide_eq_true (by kernel_rfl)) (by unfold Func.isWrapper; first|(rw[iP (by decide +kernel)]; kernel_rfl)|(rw[iN (by decide +kernel)]; exact⟨rfl,rfl⟩))
  (fun os started H enc _=>y7 os started H enc)
theorem handForgets_card:Rows.HandForgetsCardSaid:=
 Claim7.holds_tied_plain_at .later [] [.data,.data,.data] true (true,"d7a27623024a423f37956a56a9e54ee3e4e425006dc287a49cbbf4971a56402d") false
  Z3x (fun _ h=>by cases h) (by kernel_rfl) (fun _ h=>by cases h) handForgets_row_tie rfl ⟨rfl,rfl⟩ (by kernel_rfl) rfl
  (fun f fn hf hfn=>by
    obtain rfl:f=7:=Option.some.inj ((show Tryz.prog.funcNamed Rows.handForgetsRow.func=some 7 by kernel_rfl).symm.trans hf) |>.symm
    obtain rfl:fn=Tryz.f7:=(Option.some.inj (Tryz.func7.symm.trans hfn)).symm;exact⟨by kernel_rfl,fun j t ht=>by
     rw[Tryz.params7]at ht;have hm:t∈[24,27,3]:=by simpa using Array.mem_of_getElem? ht
     have hall:([24,27,3].all fun u=>!Tryz.prog.wantsStandIn u)=true:=by kernel_rfl
     exact(show Tryz.prog.wantsStandIn t=false by simpa using List.all_eq_true.1 hall t hm)⟩)
  Z0d
#print axioms handForgets_card
end Go.Proofs.YtggclbeocekgkaaGreatDoor
end
