/-
  HandNames: the name of any finger is that of the definition, so are the strings that are names, and a name is read back, of every finger and every string of at most 1000 bytes, and the chapter's examples hold. Conditions: none beyond the row's own (the listed variables start as the program's text lays them).
-/
import Derived.Test.YtfmnflhggplkmaaGreatDoorN51
import Derived.Lib.LaidTab
import Derived.Test.YtfmnflhggplkmaaGreatDoorRows
import Derived.Test.YtfmnflhggplkmaaGreatDoorCards
import Derived.Test.YtfmnflhggplkmaaGreatDoorTie
import Derived.ProofKit
import Derived.LaidMore
import Derived.OpenShut
import Derived.Stop.Joined
import Derived.ChangeMaps5
import Derived.SevenTiedAt
set_option linter.all false
namespace Go.Proofs.YtfmnflhggplkmaaGreatDoor
open Go.ChangeShapes Go.WideShapes Go.ChangeAt Go.WideMaps Go.WideElems Go.RowKit Go.ChangeMaps
open Go.Known
theorem own:ownKnob Tryz.prog.godebug=none:=by kernel_rfl
theorem laidOut:laidOutB Tryz.prog=true:=by kernel_rfl
abbrev laid3:List (String×DataW Unit):=Rows.handNamesRow.laid
theorem tab_of {W:World} (h:laidMetH Tryz.prog laid3 W):Go.AE.T0 W:=by
 have h':laidMet Tryz.prog laid3 W:=h
 obtain⟨ps,⟨_,_,_,_,_,_,_,_,_,_,⟨_,_,_,_,_,_,_,_,_,_,⟨g,t,cs,fuel,p,q,hg,hty,hvar,hd,_,_⟩,_⟩,_⟩,_⟩:=h'
 have hg0:g=0:=by
  have:=hg.symm.trans Tryz.laysM171.m17
  exact Option.some.inj this
 subst hg0
 obtain rfl:181=t:=Option.some.inj ((show (Tryz.prog.globals[0]?).map (·.type)=some 181 by kernel_rfl).symm.trans hty)
 have hcs:=Lib.cells_of_tab (k:=.u64) (zs:=Lib.pow10Tab) (n:=20) (e:=161) Tryz.underlying181 Tryz.underlying161 (by kernel_rfl) (by kernel_rfl) hd
 unfold World.var? at hvar
 rw[hg]at hvar
 simp only[Option.bind_some]at hvar
 split at hvar
 ·rename_i c e fz hh
  injection hvar with hvar
  subst hvar
  refine⟨e,fz,?_⟩
  rw[hh]
  have:c=Go.AE.tab0:=by
   apply Array.toList_inj.1
   rw[hcs]
   rfl
  rw[this]
 ·cases hvar
theorem door_met (os:Os) (args:Array Value):laidMetH Tryz.prog laid3 ((World.doorLaid Tryz.prog 400 os).forCall (fun _ _=>0) ⟨#[],args,[]⟩).memory:=
 laidMetH_of_parts3 (fuel:=8) (laidMet_of_run' 8 (by kernel_rfl) (by kernel_rfl)) (by kernel_rfl) (by kernel_rfl)
set_option maxRecDepth 100000 in
theorem lifted (os:Os) (started:os.Started) (H:Type) (enc:TypeId×Value→H) :
 ReturnsInHanded {} Tryz.checked os 4 .any (fun w args=>(Rows.handNamesSpec.pre enc Tryz.prog Tryz.f4 [] false w args∧laidMetH Tryz.prog laid3 w)∧sizedMet enc Tryz.prog Tryz.f4 (OpenSpec.ofChange Rows.handNamesSpec) false w args)
  (Rows.handNamesSpec.post enc Tryz.prog Tryz.f4 false true false false):=by
 refine returnsInHanded_of_change_and (C:=Tryz.checked) (X:=fun w _=>laidMetH Tryz.prog laid3 w) (fun _ _ _ hh h=>h.of_heap hh) own started (by kernel_rfl) Tryz.func4
  (ChangeSpec.witness_shaped (enc:=enc) (C:=Tryz.checked) (os:=os) (X:=fun w _=>laidMetH Tryz.prog laid3 w) false (World.doorLaid Tryz.prog 400 os) #[.agg #[.int .i64 0,.bool false,.int .i64 0],.string ⟨#[]⟩] 8 rfl (World.shaped_of_RefB (by kernel_rfl) (by kernel_rfl)) (by kernel_rfl) (by kernel_rfl) (by kernel_rfl) (door_met os _)) ?_
 intro W base args ds gs before hval0 hW _ _ hX _
 have hval:∀ (j:Nat) t v,Tryz.f4.params[j]? = some t→args[j]? = some v→Value.okWide Tryz.prog W .any base t v:=hval0
 have hW':=hW
 obtain⟨p,q,hA0,hV,rfl,hfz,hnd⟩:=hW
 have hA:DataW.TrodAll enc Tryz.prog W 0 (fun _=>true) true Tryz.f4.params.toList args.toList ds p:=hA0
 rw[Tryz.params4]at hA hval
 obtain⟨v0,v1,d0,d1,p0,p1,rfl,rfl,rfl,h0,h1⟩:=trodAll_two hA
 obtain⟨rfl,rfl⟩:=trodVars_none hV
 obtain⟨x,hx64,hR⟩:=finger_R64 (hval 0 26 v0 rfl rfl) h0
 obtain⟨s,rfl,rfl,rfl,hlen⟩:=open_string (t:=9) Tryz.underlying9 (hval 1 9 v1 rfl rfl) h1
 clear hA0 hval0
 simp only[List.append_nil]at hW' hfz ⊢
 have hlt:∀ x∈p0,x.block<W.heap.size:=fun x hx=>by simpa using hW'.lt x (by simpa using hx)
 refine(law_callsN (tab_of hX) hx64 s hR).mono fun e W' ⟨he,hb⟩=>?_
 subst he
 have hargs:∀ sp:Nat→Bool,(∀ x∈p0,sp x.block=true)→DataW.TrodAll enc Tryz.prog W' 0 sp true [26,9] [v0,.string s] [d0,.lit (.string s.data.toList)] p0:=fun sp hsp=>by
  have:=trodAll_mk2 (Trod_stays (sp':=sp) laidOut (by kernel_rfl) (of_decide_eq_true (by kernel_rfl)) h0 (fun x hx=>hb.same (hlt x hx)) hsp) (shut_string (t:=9) (s:=s) Tryz.underlying9 hlen)
  simpa using this
 have hres:∀ (b:Nat) (sp:Nat→Bool) (hd:Bool),DataW.TrodAll enc Tryz.prog W' b sp hd [4] [.bool true] [.lit (.bool true)] []:=fun _ _ _=>trodAll_mk1 (shut_bool Tryz.underlying4 _)
 have hp:Tryz.f4.params.toList=[26,9]:=by rw[Tryz.params4]
 refine⟨_,rfl,[d0,.lit (.string s.data.toList)],[],p0,[],p0,[],by simpa using hW',hres _ _ _,?_,rfl,World.keptBut_mono (fun x hx=>⟨hx,?_⟩) (hb.frame (· ∈ p0)),fun hg=>(by cases hg)⟩
 ·show DataW.TrodAll enc Tryz.prog W' 0 _ true Tryz.f4.params.toList [v0,.string s] [d0,.lit (.string s.data.toList)] p0
  rw[hp]
  exact hargs _ fun x hx=>by simpa using hlt x hx
 ·exact .inr (.inl (by simpa using hx))
theorem facts1:(Rows.handNamesRow.inPlace == Tryz.pinned.checked.prog.inPlace 4)=true:=by kernel_rfl
theorem facts2:(Rows.handNamesRow.unfollowed == Tryz.pinned.checked.prog.unfollowed 4)=true:=by kernel_rfl
theorem facts3:(Rows.handNamesRow.recurses == Tryz.pinned.checked.prog.recurses 4)=true:=by kernel_rfl
theorem facts4:(Rows.handNamesRow.named == Tryz.pinned.checked.prog.varsNamed 4)=true:=by kernel_rfl
theorem facts5:joinedFacts Tryz.pinned.checked.prog 4 Tryz.f4 Rows.handNamesSpec Rows.handNamesRow=true:=by
 unfold joinedFacts
 rw[facts1,facts2,facts3,facts4]
 kernel_rfl
theorem handNames_holds:Rows.HandNamesSaid:=
 OpenClaim.holds_of_wide 4 Tryz.f4 rfl rfl rfl rfl rfl rfl rfl ⟨rfl,rfl,rfl,rfl,rfl⟩ rfl rfl rfl rfl rfl (by kernel_rfl) Tryz.func4 facts5
  (of_decide_eq_true (by kernel_rfl)) (by unfold Func.isWrapper; first|(rw[if_pos (by decide +kernel)]; kernel_rfl)|(rw[if_neg (by decide +kernel)]; exact⟨rfl,rfl⟩))
  (fun os started H enc _=>lifted os started H enc)
theorem handNames_card:Rows.HandNamesCardSaid:=
 Claim7.holds_tied_plain_at .later [] [.data,.data,.data] true (true,"d567b9e93ac92427478133e4d1d0afabaddde720bef912196bbc5eb42db61796") false
  handNames_holds (fun _ h=>by cases h) (by kernel_rfl) (fun _ h=>by cases h) handNames_row_tie rfl ⟨rfl,rfl⟩ (by kernel_rfl) rfl
  (fun f fn hf hfn=>by
    obtain rfl:f=4:=Option.some.inj ((show Tryz.prog.funcNamed Rows.handNamesRow.func=some 4 by kernel_rfl).symm.trans hf) |>.symm
    obtain rfl:fn=Tryz.f4:=(Option.some.inj (Tryz.func4.symm.trans hfn)).symm
    exact⟨by kernel_rfl,fun j t ht=>by
     rw[Tryz.params4]at ht
     have hm:t∈[26,9]:=by simpa using Array.mem_of_getElem? ht
     have hall:([26,9].all fun u=>!Tryz.prog.wantsStandIn u)=true:=by kernel_rfl
     exact(show Tryz.prog.wantsStandIn t=false by simpa using List.all_eq_true.1 hall t hm)⟩)
  (by kernel_rfl)
#print axioms handNames_card
end Go.Proofs.YtfmnflhggplkmaaGreatDoor
