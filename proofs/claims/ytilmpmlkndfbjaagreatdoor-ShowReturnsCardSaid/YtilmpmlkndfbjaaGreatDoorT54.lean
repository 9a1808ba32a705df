/-
  ShowReturns: the picture that the program draws of a valid code of at most 40 letters can be read, the code that is read is the same, as the program's Same tells, and drawn again it is the same picture, no error is told; and the chapter's examples hold. Conditions: none beyond the row's own (the listed variables start as the program's text lays them).
-/
import Derived.Test.YtilmpmlkndfbjaaGreatDoorT53
import Derived.Test.YtilmpmlkndfbjaaGreatDoorRows
import Derived.Test.YtilmpmlkndfbjaaGreatDoorCards
import Derived.Test.YtilmpmlkndfbjaaGreatDoorTie
import Derived.ProofKit
import Derived.LaidMore
import Derived.OpenShut
import Derived.Stop.Joined
import Derived.SevenTiedAt
set_option linter.all false
set_option maxRecDepth 100000
set_option maxHeartbeats 16000000
open Go.Proofs.Tryz (prog checked)
namespace Go.Proofs.YtilmpmlkndfbjaaGreatDoor
open Go.ChangeShapes Go.WideShapes Go.ChangeAt Go.WideMaps Go.WideElems Go.RowKit
open Go.Ad
theorem own:ownKnob Tryz.prog.godebug=none:=by kernel_rfl
theorem Yho:laidOutB prog=true:=by kernel_rfl
abbrev eX:List (String×DataW Unit):=Rows.showReturnsRow.laid
theorem Yju(os:Os)(args:Array Value):laidMetH prog eX ((World.doorLaid prog 400 os).forCall (λ_ _=>0) ⟨#[],args,[]⟩).memory:=
 laidMetH_of_parts3 (fuel:=8) (laidMet_of_run' 8 (by kernel_rfl) (by kernel_rfl)) (by kernel_rfl) (by kernel_rfl)
theorem Z73(os:Os)(c:os.Started)(H:Type)(enc:TypeId×Value->H) :
 ReturnsInHanded {} checked os 4 .any (λw args=>(Rows.showReturnsSpec.pre enc prog Tryz.f4 [] false w args/\laidMetH prog eX w)/\sizedMet enc prog Tryz.f4 (OpenSpec.ofChange Rows.showReturnsSpec) false w args)
  (Rows.showReturnsSpec.post enc prog Tryz.f4 false true false false):=by
 refine returnsInHanded_of_change_and (C:=checked) (X:=λw _=>laidMetH prog eX w) (λ_ _ _ M h=>h.of_heap M) own c (by kernel_rfl) Tryz.func4
  (ChangeSpec.witness_shaped (enc:=enc) (C:=checked) (os:=os) (X:=λw _=>laidMetH prog eX w) false (World.doorLaid prog 400 os) #[.agg #[.int .i64 0,.slice none 0 0]] 8 rfl (World.shaped_of_RefB (by kernel_rfl) (by kernel_rfl)) (by kernel_rfl) (by kernel_rfl) (by kernel_rfl) (Yju os _)) ?_
 intro W base args E gs r a B _ _ _ _;have d:∀(j:Nat) t v,Tryz.f4.params[j]?=some t->args[j]?=some v->Value.okWide prog W .any base t v:=a;have i:=B;obtain⟨p,q,l,G,rfl,K,O⟩:=B;have A:DataW.TrodAll enc prog W 0 (λ_=>true) true Tryz.f4.params.toList args.toList E p:=l;rw[Tryz.params4]at A d;obtain⟨v0,u,rfl,rfl,z⟩:=trodAll_one A;obtain⟨rfl,rfl⟩:=trodVars_none G;obtain⟨f,ls,F⟩:=Ycp (d 0 30 v0 rfl rfl) z;clear l a;simp only[List.append_nil]at i;have m:∀x∈p,x.block<W.heap.size:=λx g=>by simpa using i.lt x g
 refine(Ycj F).mono λe s ⟨J,D⟩=>?_;subst J;have k:∀o:Nat->Bool,(∀x∈p,o x.block=true)->DataW.TrodAll enc prog s 0 o true [30] [v0] [u] p:=λo y=>
  trodAll_mk1 (Trod_stays Yho (by kernel_rfl) (of_decide_eq_true (by kernel_rfl)) z (λx g=>D.same (m x g)) y)
 have n:∀(b:Nat) (o:Nat->Bool) (I:Bool),DataW.TrodAll enc prog s b o I [4] [.bool true] [.lit (.bool true)] []:=λ_ _ _=>trodAll_mk1 (shut_bool Tryz.underlying4 _);have N:Tryz.f4.params.toList=[30]:=by rw[Tryz.params4]
 refine⟨_,rfl,[u],[],p,[],p,[],i,n _ _ _,?_,rfl,World.keptBut_mono (λx g=>⟨g,?_⟩) (D.frame (· ∈ p)),λL=>(by cases L)⟩
 ·show DataW.TrodAll enc prog s 0 _ true Tryz.f4.params.toList [v0] [u] p;rw[N];exact k _ λx g=>by simpa using m x g
 exact .inr (.inl g)
theorem Yec:(Rows.showReturnsRow.inPlace == Tryz.pinned.checked.prog.inPlace 4)=true:=by kernel_rfl
theorem Yhj:(Rows.showReturnsRow.unfollowed == Tryz.pinned.checked.prog.unfollowed 4)=true:=by kernel_rfl
theorem Ybl:(Rows.showReturnsRow.recurses == Tryz.pinned.checked.prog.recurses 4)=true:=by kernel_rfl
theorem Z92:(Rows.showReturnsRow.named == Tryz.pinned.checked.prog.varsNamed 4)=true:=by kernel_rfl
theorem Yi6:joinedFacts Tryz.pinned.checked.prog 4 Tryz.f4 Rows.showReturnsSpec Rows.showReturnsRow=true:=by
 unfold joinedFacts;rw[Yec,Yhj,Ybl,Z92];kernel_rfl
theorem Ydy:Rows.ShowReturnsSaid:=
 OpenClaim.holds_of_wide 4 Tryz.f4 rfl rfl rfl rfl rfl rfl rfl ⟨rfl,rfl,rfl,rfl,rfl⟩ rfl rfl rfl rfl rfl (by kernel_rfl) Tryz.func4 Yi6
  (of_decide_eq_true (by kernel_rfl)) (by unfold Func.isWrapper;first|(rw[iP (by decide +kernel)];kernel_rfl)|(rw[iN (by decide +kernel)];exact⟨rfl,rfl⟩))
  (λos a H enc _=>Z73 os a H enc)
theorem showReturns_card:Rows.ShowReturnsCardSaid:=
 Claim7.holds_tied_plain_at .later [] [.data,.data,.data] true (true,"71353fbaef47a002fd54a3e6607677225d59a1762755378bbcf7d1d59d783aa2") false
  Ydy (λ_ h=>by cases h) (by kernel_rfl) (λ_ h=>by cases h) showReturns_row_tie rfl ⟨rfl,rfl⟩ (by kernel_rfl) rfl
  (λf fn d b=>by
    obtain rfl:f=4:=Option.some.inj ((show Tryz.prog.funcNamed Rows.showReturnsRow.func=some 4 by kernel_rfl).symm.trans d) |>.symm;obtain rfl:fn=Tryz.f4:=(Option.some.inj (Tryz.func4.symm.trans b)).symm;exact⟨by kernel_rfl,λj t c=>by
     rw[Tryz.params4]at c;have hm:t∈[30]:=by simpa using Array.mem_of_getElem? c
     have a:([30].all λu=>!Tryz.prog.wantsStandIn u)=true:=by kernel_rfl
     exact(show Tryz.prog.wantsStandIn t=false by simpa using List.all_eq_true.1 a t hm)⟩)
  (by kernel_rfl)
#print axioms showReturns_card
end Go.Proofs.YtilmpmlkndfbjaaGreatDoor
