/-
  HandOpens: the openings of any frame of at most 60 fingers, of any kind, are those of the definition, on standard frames they can be done, and the chapter's examples hold. Conditions: none beyond the row's own (the listed variables start as the program's text lays them).
-/
import Derived.Test.YtfmnflhggplkmaaGreatDoorO53
import Derived.Lib.LaidTab
import Derived.Test.YtfmnflhggplkmaaGreatDoorRows
import Derived.Test.YtfmnflhggplkmaaGreatDoorCards
import Derived.Test.YtfmnflhggplkmaaGreatDoorTie
import Derived.ProofKit
import Derived.LaidMore
import Derived.OpenShut
import Derived.Stop.Joined
import Derived.ChangeMaps5
import Derived.SevenTiedAt
set_option linter.all false
namespace Go.Proofs.YtfmnflhggplkmaaGreatDoor
open Go.ChangeShapes Go.WideShapes Go.ChangeAt Go.WideMaps Go.WideElems Go.RowKit Go.ChangeMaps
open Go.Known
theorem own:ownKnob Tryz.prog.godebug=none:=by kernel_rfl
theorem laidOut:laidOutB Tryz.prog=true:=by kernel_rfl
abbrev laid3:List (String×DataW Unit):=Rows.handOpensRow.laid
theorem tab_of {W:World} (h:laidMetH Tryz.prog laid3 W):Go.AE.T0 W:=by
 have h':laidMet Tryz.prog laid3 W:=h
 obtain⟨ps,⟨_,_,_,_,_,_,_,_,_,_,⟨_,_,_,_,_,_,_,_,_,_,⟨g,t,cs,fuel,p,q,hg,hty,hvar,hd,_,_⟩,_⟩,_⟩,_⟩:=h'
 have hg0:g=0:=by
  have:some g=some 0:=hg.symm.trans (by kernel_rfl)
  exact Option.some.inj this
 subst hg0
 obtain rfl:181=t:=Option.some.inj ((show (Tryz.prog.globals[0]?).map (·.type)=some 181 by kernel_rfl).symm.trans hty)
 have hcs:=Lib.cells_of_tab (k:=.u64) (zs:=Lib.pow10Tab) (n:=20) (e:=161) Tryz.underlying181 Tryz.underlying161 (by kernel_rfl) (by kernel_rfl) hd
 unfold World.var? at hvar
 rw[hg]at hvar
 simp only[Option.bind_some]at hvar
 split at hvar
 ·rename_i c e fz hh
  injection hvar with hvar
  subst hvar
  refine⟨e,fz,?_⟩
  rw[hh]
  have:c=Go.AE.tab0:=by
   apply Array.toList_inj.1
   rw[hcs]
   rfl
  rw[this]
 ·cases hvar
theorem door_met (os:Os) (args:Array Value):laidMetH Tryz.prog laid3 ((World.doorLaid Tryz.prog 400 os).forCall (fun _ _=>0) ⟨#[],args,[]⟩).memory:=
 laidMetH_of_parts3 (fuel:=8) (laidMet_of_run' 8 (by kernel_rfl) (by kernel_rfl)) (by kernel_rfl) (by kernel_rfl)
set_option maxRecDepth 100000 in
theorem lifted (os:Os) (started:os.Started) (H:Type) (enc:TypeId×Value→H) :
 ReturnsInHanded {} Tryz.checked os 6 .any (fun w args=>(Rows.handOpensSpec.pre enc Tryz.prog Tryz.f6 [] false w args∧laidMetH Tryz.prog laid3 w)∧sizedMet enc Tryz.prog Tryz.f6 (OpenSpec.ofChange Rows.handOpensSpec) false w args)
  (Rows.handOpensSpec.post enc Tryz.prog Tryz.f6 false true false false):=by
 refine returnsInHanded_of_change_and (C:=Tryz.checked) (X:=fun w _=>laidMetH Tryz.prog laid3 w) (fun _ _ _ hh h=>h.of_heap hh) own started (by kernel_rfl) Tryz.func6
  (ChangeSpec.witness_shaped (enc:=enc) (C:=Tryz.checked) (os:=os) (X:=fun w _=>laidMetH Tryz.prog laid3 w) false (World.doorLaid Tryz.prog 400 os) #[.agg #[.slice none 0 0,.int .i64 0,.int .i64 0],.int .i64 0,.int .i64 0] 8 rfl (World.shaped_of_RefB (by kernel_rfl) (by kernel_rfl)) (by kernel_rfl) (by kernel_rfl) (by kernel_rfl) (door_met os _)) ?_
 intro W base args ds gs before hval0 hW _ _ hX _
 have hval:∀ (j:Nat) t v,Tryz.f6.params[j]? = some t→args[j]? = some v→Value.okWide Tryz.prog W .any base t v:=hval0
 have hW':=hW
 obtain⟨p,q,hA0,hV,rfl,hfz,hnd⟩:=hW
 have hA:DataW.TrodAll enc Tryz.prog W 0 (fun _=>true) true Tryz.f6.params.toList args.toList ds p:=hA0
 rw[Tryz.params6]at hA hval
 obtain⟨v0,v1,v2,d0,d1,d2,p0,p1,p2,rfl,rfl,rfl,h0,h1,h2⟩:=trodAll_three hA
 obtain⟨rfl,rfl⟩:=trodVars_none hV
 obtain⟨fs,re,lo,hF⟩:=frame_R (hval 0 24 v0 rfl rfl) h0
 obtain⟨m,rfl,rfl,rfl,hwf1⟩:=open_int (t:=3) (k:=.i64) Tryz.underlying3 (hval 1 3 v1 rfl rfl) h1
 obtain⟨k,rfl,rfl,rfl,hwf⟩:=open_int (t:=3) (k:=.i64) Tryz.underlying3 (hval 2 3 v2 rfl rfl) h2
 clear hA0 hval0
 simp only[List.append_nil]at hW' hfz ⊢
 have hlt:∀ x∈p0,x.block<W.heap.size:=fun x hx=>by simpa using hW'.lt x (by simpa using hx)
 refine(law_callsO (tab_of hX) m k hF).mono fun e W' ⟨he,hb⟩=>?_
 subst he
 have hargs:∀ sp:Nat→Bool,(∀ x∈p0,sp x.block=true)→DataW.TrodAll enc Tryz.prog W' 0 sp true [24,3,3] [v0,.int .i64 m,.int .i64 k] [d0,.lit (.int .i64 m),.lit (.int .i64 k)] (p0):=fun sp hsp=>by
  have:=trodAll_mk3 (Trod_stays (sp':=sp) laidOut (by kernel_rfl) (of_decide_eq_true (by kernel_rfl)) h0 (fun x hx=>hb.same (hlt x hx)) hsp) (shut_int (enc:=enc) (P:=Tryz.prog) (w:=W') (base:=0) (spare:=sp) (held:=true) (t:=3) Tryz.underlying3 hwf1) (shut_int (enc:=enc) (P:=Tryz.prog) (w:=W') (base:=0) (spare:=sp) (held:=true) (t:=3) Tryz.underlying3 hwf)
  simpa using this
 have hres:∀ (b:Nat) (sp:Nat→Bool) (hd:Bool),DataW.TrodAll enc Tryz.prog W' b sp hd [4] [.bool true] [.lit (.bool true)] []:=fun _ _ _=>trodAll_mk1 (shut_bool Tryz.underlying4 _)
 have hp:Tryz.f6.params.toList=[24,3,3]:=by rw[Tryz.params6]
 refine⟨_,rfl,[d0,.lit (.int .i64 m),.lit (.int .i64 k)],[],p0,[],p0,[],by simpa using hW',hres _ _ _,?_,rfl,World.keptBut_mono (fun x hx=>⟨hx,?_⟩) (hb.frame (· ∈ p0)),fun hg=>(by cases hg)⟩
 ·show DataW.TrodAll enc Tryz.prog W' 0 _ true Tryz.f6.params.toList [v0,.int .i64 m,.int .i64 k] [d0,.lit (.int .i64 m),.lit (.int .i64 k)] (p0)
  rw[hp]
  exact hargs _ fun x hx=>by simpa using hlt x hx
 ·exact .inr (.inl (by simpa using hx))
theorem facts1:(Rows.handOpensRow.inPlace == Tryz.pinned.checked.prog.inPlace 6)=true:=by kernel_rfl
theorem facts2:(Rows.handOpensRow.unfollowed == Tryz.pinned.checked.prog.unfollowed 6)=true:=by kernel_rfl
theorem facts3:(Rows.handOpensRow.recurses == Tryz.pinned.checked.prog.recurses 6)=true:=by kernel_rfl
theorem facts4:(Rows.handOpensRow.named == Tryz.pinned.checked.prog.varsNamed 6)=true:=by kernel_rfl
theorem facts5:joinedFacts Tryz.pinned.checked.prog 6 Tryz.f6 Rows.handOpensSpec Rows.handOpensRow=true:=by
 unfold joinedFacts
 rw[facts1,facts2,facts3,facts4]
 kernel_rfl
theorem handOpens_holds:Rows.HandOpensSaid:=
 OpenClaim.holds_of_wide 6 Tryz.f6 rfl rfl rfl rfl rfl rfl rfl ⟨rfl,rfl,rfl,rfl,rfl⟩ rfl rfl rfl rfl rfl (by kernel_rfl) Tryz.func6 facts5
  (of_decide_eq_true (by kernel_rfl)) (by unfold Func.isWrapper; first|(rw[if_pos (by decide +kernel)]; kernel_rfl)|(rw[if_neg (by decide +kernel)]; exact⟨rfl,rfl⟩))
  (fun os started H enc _=>lifted os started H enc)
theorem handOpens_card:Rows.HandOpensCardSaid:=
 Claim7.holds_tied_plain_at .later [] [.data,.data,.data] true (true,"d567b9e93ac92427478133e4d1d0afabaddde720bef912196bbc5eb42db61796") false
  handOpens_holds (fun _ h=>by cases h) (by kernel_rfl) (fun _ h=>by cases h) handOpens_row_tie rfl ⟨rfl,rfl⟩ (by kernel_rfl) rfl
  (fun f fn hf hfn=>by
    obtain rfl:f=6:=Option.some.inj ((show Tryz.prog.funcNamed Rows.handOpensRow.func=some 6 by kernel_rfl).symm.trans hf) |>.symm
    obtain rfl:fn=Tryz.f6:=(Option.some.inj (Tryz.func6.symm.trans hfn)).symm
    exact⟨by kernel_rfl,fun j t ht=>by
     rw[Tryz.params6]at ht
     have hm:t∈[24,3,3]:=by simpa using Array.mem_of_getElem? ht
     have hall:([24,3,3].all fun u=>!Tryz.prog.wantsStandIn u)=true:=by kernel_rfl
     exact(show Tryz.prog.wantsStandIn t=false by simpa using List.all_eq_true.1 hall t hm)⟩)
  (by kernel_rfl)
#print axioms handOpens_card
end Go.Proofs.YtfmnflhggplkmaaGreatDoor
