/-
  ShowReads: of every picture of at most 60 gates and 60 rows on a side, the program's reading and the definition's agree: both fail with the same error or both give the same code; and the chapter's examples hold. Conditions: none beyond the row's own (the listed variables start as the program's text lays them).
-/
import Derived.Test.YtilmpmlkndfbjaaGreatDoorR53
import Derived.Test.YtilmpmlkndfbjaaGreatDoorRows
import Derived.Test.YtilmpmlkndfbjaaGreatDoorCards
import Derived.Test.YtilmpmlkndfbjaaGreatDoorTie
import Derived.ProofKit
import Derived.LaidMore
import Derived.OpenShut
import Derived.Stop.Joined
import Derived.SevenTiedAt
set_option linter.all false
namespace Go.Proofs.YtilmpmlkndfbjaaGreatDoor
open Go.ChangeShapes Go.WideShapes Go.ChangeAt Go.WideMaps Go.WideElems Go.RowKit
open Go.Known
theorem own:ownKnob Tryz.prog.godebug=none:=by kernel_rfl
theorem Z43:laidOutB Tryz.prog=true:=by kernel_rfl
abbrev Zmg:List (String×DataW Unit):=Rows.showReadsRow.laid
theorem Z1q(os:Os)(args:Array Value):laidMetH Tryz.prog Zmg ((World.doorLaid Tryz.prog 400 os).forCall (fun _ _=>0) ⟨#[],args,[]⟩).memory:=
 laidMetH_of_parts3 (fuel:=8) (laidMet_of_run' 8 (by kernel_rfl) (by kernel_rfl)) (by kernel_rfl) (by kernel_rfl)
set_option maxRecDepth 100000 in
theorem Z4w(os:Os)(c:os.Started)(H:Type)(enc:TypeId×Value→H) :
 ReturnsInHanded {} Tryz.checked os 3 .any (fun w args=>(Rows.showReadsSpec.pre enc Tryz.prog Tryz.f3 [] false w args∧laidMetH Tryz.prog Zmg w)∧sizedMet enc Tryz.prog Tryz.f3 (OpenSpec.ofChange Rows.showReadsSpec) false w args)
  (Rows.showReadsSpec.post enc Tryz.prog Tryz.f3 false true false false):=by
 refine returnsInHanded_of_change_and (C:=Tryz.checked) (X:=fun w _=>laidMetH Tryz.prog Zmg w) (fun _ _ _ Q h=>h.of_heap Q) own c (by kernel_rfl) Tryz.func3
  (ChangeSpec.witness_shaped (enc:=enc) (C:=Tryz.checked) (os:=os) (X:=fun w _=>laidMetH Tryz.prog Zmg w) false (World.doorLaid Tryz.prog 400 os) #[.agg #[.int .i64 0,.slice none 0 0,.slice none 0 0,.slice none 0 0]] 8 rfl (World.shaped_of_RefB (by kernel_rfl) (by kernel_rfl)) (by kernel_rfl) (by kernel_rfl) (by kernel_rfl) (Z1q os _)) ?_
 intro W base args J gs r a E _ _ _ _;have d:∀ (j:Nat) t v,Tryz.f3.params[j]? = some t→args[j]? = some v→Value.okWide Tryz.prog W .any base t v:=a
 have i:=E;obtain⟨p,q,l,L,rfl,O,S⟩:=E;have D:DataW.TrodAll enc Tryz.prog W 0 (fun _=>true) true Tryz.f3.params.toList args.toList J p:=l
 rw[Tryz.params3]at D d;obtain⟨v0,u,rfl,rfl,z⟩:=trodAll_one D;obtain⟨rfl,rfl⟩:=trodVars_none L;obtain⟨F,G,A,B,K⟩:=Z58 (d 0 25 v0 rfl rfl) z;clear l a;simp only[List.append_nil]at i;have m:∀ x∈p,x.block<W.heap.size:=fun x g=>by simpa using i.lt x g
 refine(Zzy K).mono fun e s ⟨N,I⟩=>?_
 subst N;have k:∀ o:Nat→Bool,(∀ x∈p,o x.block=true)→DataW.TrodAll enc Tryz.prog s 0 o true [25] [v0] [u] p:=fun o y=>
  trodAll_mk1 (Trod_stays Z43 (by kernel_rfl) (of_decide_eq_true (by kernel_rfl)) z (fun x g=>I.same (m x g)) y)
 have n:∀ (b:Nat) (o:Nat→Bool) (M:Bool),DataW.TrodAll enc Tryz.prog s b o M [4] [.bool true] [.lit (.bool true)] []:=fun _ _ _=>trodAll_mk1 (shut_bool Tryz.underlying4 _)
 have U:Tryz.f3.params.toList=[25]:=by rw[Tryz.params3]
 refine⟨_,rfl,[u],[],p,[],p,[],i,n _ _ _,?_,rfl,World.keptBut_mono (fun x g=>⟨g,?_⟩) (I.frame (· ∈ p)),fun P=>(by cases P)⟩
 ·show DataW.TrodAll enc Tryz.prog s 0 _ true Tryz.f3.params.toList [v0] [u] p;rw[U];exact k _ fun x g=>by simpa using m x g
 ·exact .inr (.inl g)
theorem Z0e:(Rows.showReadsRow.inPlace == Tryz.pinned.checked.prog.inPlace 3)=true:=by kernel_rfl
theorem Yb7:(Rows.showReadsRow.unfollowed == Tryz.pinned.checked.prog.unfollowed 3)=true:=by kernel_rfl
theorem Yax:(Rows.showReadsRow.recurses == Tryz.pinned.checked.prog.recurses 3)=true:=by kernel_rfl
theorem Z27:(Rows.showReadsRow.named == Tryz.pinned.checked.prog.varsNamed 3)=true:=by kernel_rfl
theorem Z8a:joinedFacts Tryz.pinned.checked.prog 3 Tryz.f3 Rows.showReadsSpec Rows.showReadsRow=true:=by
 unfold joinedFacts;rw[Z0e,Yb7,Yax,Z27];kernel_rfl
theorem Ych:Rows.ShowReadsSaid:=
 OpenClaim.holds_of_wide 3 Tryz.f3 rfl rfl rfl rfl rfl rfl rfl ⟨rfl,rfl,rfl,rfl,rfl⟩ rfl rfl rfl rfl rfl (by kernel_rfl) Tryz.func3 Z8a
  (of_decide_eq_true (by kernel_rfl)) (by unfold Func.isWrapper; first|(rw[if_pos (by decide +kernel)]; kernel_rfl)|(rw[if_neg (by decide +kernel)]; exact⟨rfl,rfl⟩))
  (fun os a H enc _=>Z4w os a H enc)
theorem showReads_card:Rows.ShowReadsCardSaid:=
 Claim7.holds_tied_plain_at .later [] [.data,.data,.data] true (true,"71353fbaef47a002fd54a3e6607677225d59a1762755378bbcf7d1d59d783aa2") false
  Ych (fun _ h=>by cases h) (by kernel_rfl) (fun _ h=>by cases h) showReads_row_tie rfl ⟨rfl,rfl⟩ (by kernel_rfl) rfl
  (fun f fn d b=>by
    obtain rfl:f=3:=Option.some.inj ((show Tryz.prog.funcNamed Rows.showReadsRow.func=some 3 by kernel_rfl).symm.trans d) |>.symm
    obtain rfl:fn=Tryz.f3:=(Option.some.inj (Tryz.func3.symm.trans b)).symm;exact⟨by kernel_rfl,fun j t c=>by
     rw[Tryz.params3]at c;have hm:t∈[25]:=by simpa using Array.mem_of_getElem? c
     have a:([25].all fun u=>!Tryz.prog.wantsStandIn u)=true:=by kernel_rfl
     exact(show Tryz.prog.wantsStandIn t=false by simpa using List.all_eq_true.1 a t hm)⟩)
  (by kernel_rfl)
#print axioms showReads_card
end Go.Proofs.YtilmpmlkndfbjaaGreatDoor
