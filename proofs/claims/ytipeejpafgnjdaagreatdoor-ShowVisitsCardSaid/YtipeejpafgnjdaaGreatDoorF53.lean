/-
  ShowVisits: fingers of a new person that have entered can leave again, which leads back to the same frame and code, and they hold nothing in between, for every frame of at most 45 fingers, every code of at most 40 letters, every list of at most 45 fingers and every place; and the chapter's examples hold. Conditions: none beyond the row's own (the listed variables start as the program's text lays them).
-/
import Derived.Test.YtipeejpafgnjdaaGreatDoorF52
import Derived.Test.YtipeejpafgnjdaaGreatDoorRows
import Derived.Test.YtipeejpafgnjdaaGreatDoorCards
import Derived.Test.YtipeejpafgnjdaaGreatDoorTie
import Derived.ProofKit
import Derived.LaidMore
import Derived.OpenShut
import Derived.Carry
import Derived.Stop.Joined
import Derived.SevenTiedAt
set_option linter.all false
namespace Go.Proofs.YtipeejpafgnjdaaGreatDoor
open Go.ChangeShapes Go.WideShapes Go.ChangeAt Go.WideMaps Go.WideElems Go.RowKit
open Go.Known
theorem own:ownKnob Tryz.prog.godebug=none:=by kernel_rfl
theorem laidOut:laidOutB Tryz.prog=true:=by kernel_rfl
abbrev laid3:List (String×DataW Unit):=Rows.showVisitsRow.laid
theorem door_met (os:Os) (args:Array Value):laidMetH Tryz.prog laid3 ((World.doorLaid Tryz.prog 400 os).forCall (fun _ _=>0) ⟨#[],args,[]⟩).memory:=
 laidMetH_of_parts3 (fuel:=8) (laidMet_of_run' 8 (by kernel_rfl) (by kernel_rfl)) (by kernel_rfl) (by kernel_rfl)
set_option maxRecDepth 100000 in
theorem lifted (os:Os) (started:os.Started) (H:Type) (enc:TypeId×Value→H) :
 ReturnsInHanded {} Tryz.checked os 8 .any (fun w args=>(Rows.showVisitsSpec.pre enc Tryz.prog Tryz.f8 [] false w args∧laidMetH Tryz.prog laid3 w)∧sizedMet enc Tryz.prog Tryz.f8 (OpenSpec.ofChange Rows.showVisitsSpec) false w args)
  (Rows.showVisitsSpec.post enc Tryz.prog Tryz.f8 false true false false):=by
 refine returnsInHanded_of_change_and (C:=Tryz.checked) (X:=fun w _=>laidMetH Tryz.prog laid3 w) (fun _ _ _ hh h=>h.of_heap hh) own started (by kernel_rfl) Tryz.func8
  (ChangeSpec.witness_shaped (enc:=enc) (C:=Tryz.checked) (os:=os) (X:=fun w _=>laidMetH Tryz.prog laid3 w) false (World.doorLaid Tryz.prog 400 os) #[.agg #[.slice none 0 0,.int .i64 0,.int .i64 0],.agg #[.int .i64 0,.slice none 0 0],.slice none 0 0,.agg #[.int .i64 0,.int .i64 0]] 8 rfl (World.shaped_of_RefB (by kernel_rfl) (by kernel_rfl)) (by kernel_rfl) (by kernel_rfl) (by kernel_rfl) (door_met os _)) ?_
 intro W base args ds gs before hval0 hW _ _ _ _
 have hval:∀ (j:Nat) t v,Tryz.f8.params[j]? = some t→args[j]? = some v→Value.okWide Tryz.prog W .any base t v:=hval0
 have hW':=hW
 obtain⟨p,q,hA0,hV,rfl,hfz,hnd⟩:=hW
 have hA:DataW.TrodAll enc Tryz.prog W 0 (fun _=>true) true Tryz.f8.params.toList args.toList ds p:=hA0
 rw [Tryz.params8] at hA hval
 obtain⟨v0,v1,v2,v3,d0,d1,d2,d3,p0,p1,p2,p3,rfl,rfl,rfl,h0,h1,h2,h3⟩:=trodAll_four hA
 obtain⟨rfl,rfl⟩:=trodVars_none hV
 obtain⟨fs,re,lo,hF⟩:=frame_R (hval 0 50 v0 rfl rfl) h0
 obtain⟨f,ls,hR⟩:=code_R (hval 1 24 v1 rfl rfl) h1
 obtain⟨gs,hGs⟩:=fingers_R (hval 2 48 v2 rfl rfl) h2
 obtain⟨g,a,hPl⟩:=place_R (hval 3 59 v3 rfl rfl) h3
 clear hA0 hval0
 simp only [List.append_nil,List.append_assoc] at hW' hfz ⊢
 have hlt:∀ x∈p0++(p1++(p2++p3)),x.block<W.heap.size:=fun x hx=>by simpa using hW'.lt x (by simpa using hx)
 refine(law_callsV hF hR hGs hPl).mono fun e W' ⟨he,hb⟩=>?_
 subst he
 have hargs:∀ sp:Nat→Bool,(∀ x∈p0++(p1++(p2++p3)),sp x.block=true)→DataW.TrodAll enc Tryz.prog W' 0 sp true [50,24,48,59] [v0,v1,v2,v3] [d0,d1,d2,d3] (p0++(p1++(p2++p3))):=fun sp hsp=>by
  have i0:∀ x,x∈p0→x∈p0++(p1++(p2++p3)):=fun x hx=>List.mem_append_left _ hx
  have i1:∀ x,x∈p1→x∈p0++(p1++(p2++p3)):=fun x hx=>List.mem_append_right _ (List.mem_append_left _ hx)
  have i2:∀ x,x∈p2→x∈p0++(p1++(p2++p3)):=fun x hx=>List.mem_append_right _ (List.mem_append_right _ (List.mem_append_left _ hx))
  have i3:∀ x,x∈p3→x∈p0++(p1++(p2++p3)):=fun x hx=>List.mem_append_right _ (List.mem_append_right _ (List.mem_append_right _ hx))
  exact trodAll_mk4 (Trod_stays (sp':=sp) laidOut (by kernel_rfl) (of_decide_eq_true (by kernel_rfl)) h0 (fun x hx=>hb.same (hlt x (i0 x hx))) fun x hx=>hsp x (i0 x hx))
   (Trod_stays (sp':=sp) laidOut (by kernel_rfl) (of_decide_eq_true (by kernel_rfl)) h1 (fun x hx=>hb.same (hlt x (i1 x hx))) fun x hx=>hsp x (i1 x hx))
   (Trod_stays (sp':=sp) laidOut (by kernel_rfl) (of_decide_eq_true (by kernel_rfl)) h2 (fun x hx=>hb.same (hlt x (i2 x hx))) fun x hx=>hsp x (i2 x hx))
   (Trod_stays (sp':=sp) laidOut (by kernel_rfl) (of_decide_eq_true (by kernel_rfl)) h3 (fun x hx=>hb.same (hlt x (i3 x hx))) fun x hx=>hsp x (i3 x hx))
 have hres:∀ (b:Nat) (sp:Nat→Bool) (hd:Bool),DataW.TrodAll enc Tryz.prog W' b sp hd [4] [.bool true] [.lit (.bool true)] []:=fun _ _ _=>trodAll_mk1 (shut_bool Tryz.underlying4 _)
 have hp:Tryz.f8.params.toList=[50,24,48,59]:=by rw [Tryz.params8]
 refine⟨_,rfl,[d0,d1,d2,d3],[],p0++(p1++(p2++p3)),[],p0++(p1++(p2++p3)),[],by simpa using hW',hres _ _ _,?_,rfl,World.keptBut_mono (fun x hx=>⟨hx,?_⟩) (hb.frame (· ∈ p0++(p1++(p2++p3)))),fun hg=>(by cases hg)⟩
 · show DataW.TrodAll enc Tryz.prog W' 0 _ true Tryz.f8.params.toList [v0,v1,v2,v3] [d0,d1,d2,d3] (p0++(p1++(p2++p3)))
   rw [hp]
   exact hargs _ fun x hx=>by simpa using hlt x hx
 · exact .inr (.inl (by simpa using hx))
theorem facts1:(Rows.showVisitsRow.inPlace == Tryz.pinned.checked.prog.inPlace 8)=true:=by kernel_rfl
theorem facts2:(Rows.showVisitsRow.unfollowed == Tryz.pinned.checked.prog.unfollowed 8)=true:=by kernel_rfl
theorem facts3:(Rows.showVisitsRow.recurses == Tryz.pinned.checked.prog.recurses 8)=true:=by kernel_rfl
theorem facts4:(Rows.showVisitsRow.named == Tryz.pinned.checked.prog.varsNamed 8)=true:=by kernel_rfl
theorem facts5:joinedFacts Tryz.pinned.checked.prog 8 Tryz.f8 Rows.showVisitsSpec Rows.showVisitsRow=true:=by
 unfold joinedFacts
 rw [facts1,facts2,facts3,facts4]
 kernel_rfl
theorem showVisits_holds:Rows.ShowVisitsSaid:=
 OpenClaim.holds_of_wide 8 Tryz.f8 rfl rfl rfl rfl rfl rfl rfl ⟨rfl,rfl,rfl,rfl,rfl⟩ rfl rfl rfl rfl rfl (by kernel_rfl) Tryz.func8 facts5
  (of_decide_eq_true (by kernel_rfl)) (by unfold Func.isWrapper; first | (rw [if_pos (by decide +kernel)]; kernel_rfl) | (rw [if_neg (by decide +kernel)]; exact⟨rfl,rfl⟩))
  (fun os started H enc _=>lifted os started H enc)
theorem showVisits_card:Rows.ShowVisitsCardSaid:=
 Claim7.holds_tied_plain_at .later [] [.data,.data,.data] true (true,"e4bac6958e260c6b529418d771dc9f186dfe6975e37d3254e27cf43ce8eb6df4") false
  showVisits_holds (fun _ h=>by cases h) (by kernel_rfl) (fun _ h=>by cases h) showVisits_row_tie rfl ⟨rfl,rfl⟩ (by kernel_rfl) rfl
  (fun f fn hf hfn=>by
    obtain rfl:f=8:=Option.some.inj ((show Tryz.prog.funcNamed Rows.showVisitsRow.func=some 8 by kernel_rfl).symm.trans hf) |>.symm
    obtain rfl:fn=Tryz.f8:=(Option.some.inj (Tryz.func8.symm.trans hfn)).symm
    exact⟨by kernel_rfl,fun j t ht=>by
     rw [Tryz.params8] at ht
     have hm:t∈[50,24,48,59]:=by simpa using Array.mem_of_getElem? ht
     have hall:([50,24,48,59].all fun u=>!Tryz.prog.wantsStandIn u)=true:=by kernel_rfl
     exact(show Tryz.prog.wantsStandIn t=false by simpa using List.all_eq_true.1 hall t hm)⟩)
  (by kernel_rfl)
#print axioms showVisits_card
end Go.Proofs.YtipeejpafgnjdaaGreatDoor
