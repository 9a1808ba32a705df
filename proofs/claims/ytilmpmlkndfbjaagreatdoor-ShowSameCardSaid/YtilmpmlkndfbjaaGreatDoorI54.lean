/-
  ShowSame: two valid codes of at most 40 letters are the same, as the program's Same tells, just when the pictures that the program draws of them are equal, no error is told; and the chapter's examples hold. Conditions: none beyond the row's own (the listed variables start as the program's text lays them).
-/
import Derived.Test.YtilmpmlkndfbjaaGreatDoorI53
import Derived.Test.YtilmpmlkndfbjaaGreatDoorRows
import Derived.Test.YtilmpmlkndfbjaaGreatDoorCards
import Derived.Test.YtilmpmlkndfbjaaGreatDoorTie
import Derived.ProofKit
import Derived.LaidMore
import Derived.OpenShut
import Derived.Stop.Joined
import Derived.SevenTiedAt
set_option linter.all false
namespace Go.Proofs.YtilmpmlkndfbjaaGreatDoor
open Go.ChangeShapes Go.WideShapes Go.ChangeAt Go.WideMaps Go.WideElems Go.RowKit
open Go.Known
theorem own:ownKnob Tryz.prog.godebug=none:=by kernel_rfl
theorem Zu3:laidOutB Tryz.prog=true:=by kernel_rfl
abbrev Zmg:List (String×DataW Unit):=Rows.showSameRow.laid
theorem Yd7(os:Os)(args:Array Value):laidMetH Tryz.prog Zmg ((World.doorLaid Tryz.prog 400 os).forCall (fun _ _=>0) ⟨#[],args,[]⟩).memory:=
 laidMetH_of_parts3 (fuel:=8) (laidMet_of_run' 8 (by kernel_rfl) (by kernel_rfl)) (by kernel_rfl) (by kernel_rfl)
set_option maxRecDepth 100000 in
theorem Z6f(os:Os)(i:os.Started)(H:Type)(enc:TypeId×Value→H) :
 ReturnsInHanded {} Tryz.checked os 5 .any (fun w args=>(Rows.showSameSpec.pre enc Tryz.prog Tryz.f5 [] false w args∧laidMetH Tryz.prog Zmg w)∧sizedMet enc Tryz.prog Tryz.f5 (OpenSpec.ofChange Rows.showSameSpec) false w args)
  (Rows.showSameSpec.post enc Tryz.prog Tryz.f5 false true false false):=by
 refine returnsInHanded_of_change_and (C:=Tryz.checked) (X:=fun w _=>laidMetH Tryz.prog Zmg w) (fun _ _ _ U h=>h.of_heap U) own i (by kernel_rfl) Tryz.func5
  (ChangeSpec.witness_shaped (enc:=enc) (C:=Tryz.checked) (os:=os) (X:=fun w _=>laidMetH Tryz.prog Zmg w) false (World.doorLaid Tryz.prog 400 os) #[.agg #[.int .i64 0,.slice none 0 0],.agg #[.int .i64 0,.slice none 0 0]] 8 rfl (World.shaped_of_RefB (by kernel_rfl) (by kernel_rfl)) (by kernel_rfl) (by kernel_rfl) (by kernel_rfl) (Yd7 os _)) ?_
 intro W base args M Z u d J _ _ _ _;have c:∀ (j:Nat) t v,Tryz.f5.params[j]? = some t→args[j]? = some v→Value.okWide Tryz.prog W .any base t v:=d
 have k:=J;obtain⟨p,q,o,O,rfl,E,V⟩:=J;have I:DataW.TrodAll enc Tryz.prog W 0 (fun _=>true) true Tryz.f5.params.toList args.toList M p:=o
 rw[Tryz.params5]at I c;obtain⟨v0,v1,z,A,p0,p1,rfl,rfl,rfl,F,G⟩:=trodAll_two I;obtain⟨rfl,rfl⟩:=trodVars_none O;obtain⟨f,ls,N⟩:=Zui (c 0 30 v0 rfl rfl) F;obtain⟨g,ks,B⟩:=Zui (c 1 30 v1 rfl rfl) G;clear o d;simp only[List.append_nil]at k E ⊢;have m:∀ x∈p0++p1,x.block<W.heap.size:=fun x a=>by simpa using k.lt x (by simpa using a)
 refine(Ya9 N B).mono fun e y ⟨Q,D⟩=>?_
 subst Q;have l:∀ n:Nat→Bool,(∀ x∈p0++p1,n x.block=true)→DataW.TrodAll enc Tryz.prog y 0 n true [30,30] [v0,v1] [z,A] (p0++p1):=fun n s=>by
  have K:∀ x,x∈p0→x∈p0++p1:=fun x a=>List.mem_append_left _ a
  have L:∀ x,x∈p1→x∈p0++p1:=fun x a=>List.mem_append_right _ a
  exact trodAll_mk2 (Trod_stays (sp':=n) Zu3 (by kernel_rfl) (of_decide_eq_true (by kernel_rfl)) F (fun x a=>D.same (m x (K x a))) fun x a=>s x (K x a))
   (Trod_stays (sp':=n) Zu3 (by kernel_rfl) (of_decide_eq_true (by kernel_rfl)) G (fun x a=>D.same (m x (L x a))) fun x a=>s x (L x a))
 have r:∀ (b:Nat) (n:Nat→Bool) (P:Bool),DataW.TrodAll enc Tryz.prog y b n P [4] [.bool true] [.lit (.bool true)] []:=fun _ _ _=>trodAll_mk1 (shut_bool Tryz.underlying4 _)
 have Y:Tryz.f5.params.toList=[30,30]:=by rw[Tryz.params5]
 refine⟨_,rfl,[z,A],[],p0++p1,[],p0++p1,[],by simpa using k,r _ _ _,?_,rfl,World.keptBut_mono (fun x a=>⟨a,?_⟩) (D.frame (· ∈ p0++p1)),fun S=>(by cases S)⟩
 ·show DataW.TrodAll enc Tryz.prog y 0 _ true Tryz.f5.params.toList [v0,v1] [z,A] (p0++p1);rw[Y];exact l _ fun x a=>by simpa using m x a
 ·exact .inr (.inl (by simpa using a))
theorem Yaw:(Rows.showSameRow.inPlace == Tryz.pinned.checked.prog.inPlace 5)=true:=by kernel_rfl
theorem Z8j:(Rows.showSameRow.unfollowed == Tryz.pinned.checked.prog.unfollowed 5)=true:=by kernel_rfl
theorem Yfq:(Rows.showSameRow.recurses == Tryz.pinned.checked.prog.recurses 5)=true:=by kernel_rfl
theorem Ygf:(Rows.showSameRow.named == Tryz.pinned.checked.prog.varsNamed 5)=true:=by kernel_rfl
theorem Z50:joinedFacts Tryz.pinned.checked.prog 5 Tryz.f5 Rows.showSameSpec Rows.showSameRow=true:=by
 unfold joinedFacts;rw[Yaw,Z8j,Yfq,Ygf];kernel_rfl
theorem Yaa:Rows.ShowSameSaid:=
 OpenClaim.holds_of_wide 5 Tryz.f5 rfl rfl rfl rfl rfl rfl rfl ⟨rfl,rfl,rfl,rfl,rfl⟩ rfl rfl rfl rfl rfl (by kernel_rfl) Tryz.func5 Z50
  (of_decide_eq_true (by kernel_rfl)) (by unfold Func.isWrapper; first|(rw[if_pos (by decide +kernel)]; kernel_rfl)|(rw[if_neg (by decide +kernel)]; exact⟨rfl,rfl⟩))
  (fun os a H enc _=>Z6f os a H enc)
theorem showSame_card:Rows.ShowSameCardSaid:=
 Claim7.holds_tied_plain_at .later [] [.data,.data,.data] true (true,"71353fbaef47a002fd54a3e6607677225d59a1762755378bbcf7d1d59d783aa2") false
  Yaa (fun _ h=>by cases h) (by kernel_rfl) (fun _ h=>by cases h) showSame_row_tie rfl ⟨rfl,rfl⟩ (by kernel_rfl) rfl
  (fun f fn d b=>by
    obtain rfl:f=5:=Option.some.inj ((show Tryz.prog.funcNamed Rows.showSameRow.func=some 5 by kernel_rfl).symm.trans d) |>.symm
    obtain rfl:fn=Tryz.f5:=(Option.some.inj (Tryz.func5.symm.trans b)).symm;exact⟨by kernel_rfl,fun j t c=>by
     rw[Tryz.params5]at c;have hm:t∈[30,30]:=by simpa using Array.mem_of_getElem? c
     have a:([30,30].all fun u=>!Tryz.prog.wantsStandIn u)=true:=by kernel_rfl
     exact(show Tryz.prog.wantsStandIn t=false by simpa using List.all_eq_true.1 a t hm)⟩)
  (by kernel_rfl)
#print axioms showSame_card
end Go.Proofs.YtilmpmlkndfbjaaGreatDoor
