/- Part 41 of the proof: Rx, Ry, Sa, Rz. -/
import Derived.Test.YtpaedbidpkepnaaGreatDoorC16
import Derived.Test.YtpaedbidpkepnaaGreatDoorC36
import Derived.Test.YtpaedbidpkepnaaGreatDoorC39
import Derived.Test.YtpaedbidpkepnaaGreatDoorC40
set_option linter.all false
section
namespace Go.Known
open Go Go.AE Go.Proofs
open Go.Plain
theorem scal_rows {get:Nat→Option ABlk} {n:Nat} (l:List Lt):∀ row,row∈l.map rowL → ∀ x,x∈row→freezeV get (n+1) x=some x:=by
 intro row hr x hx
 obtain⟨i,_,rfl⟩:=List.mem_map.1 hr
 simp only [rowL,List.mem_cons,List.not_mem_nil,or_false] at hx
 rcases hx with rfl | rfl | rfl | rfl | rfl | rfl<;>rfl
theorem c62f (F:Nat) (ls:List Lt) (E:List Ent) (h:ls.length≤1000) (h0:ls≠[]) (hs:∀ l,l∈ls→l.k=2→l.s=1∨l.s = -1) :
 Ctr Tryz.prog 50 [.ptr 1 0 0] (dF F ls (ls.map rowL) E) fun v m=>v=.imm ((swN ls).map rowL)∧m=⟨(dF F ls (ls.map rowL) E).bl,8⟩:=by
 refine(c62 F ls E h h0 hs).freeze fun r sm=>?_
 rintro⟨rfl,rfl⟩
 refine⟨[7],?_,?_⟩
 · exact fzV_sl (k:=6) rfl (by simp [dF,dM,dV2]) (by simp [swN]) (scal_rows _)
 · simp [dF,dM,dV2]
theorem c63f (F:Nat) (ls:List Lt) (E:List Ent) (h:ls.length≤1000) (h0:ls≠[]) (hF:F≤40) (hs:∀ l,l∈ls → ¬l.k=1→l.s=1∨l.s = -1) (hq:∀ l,l∈ls→l.k=1→0≤l.g∧l.g≤F∧1≤l.r∧l.r≤inG l.g ls) :
 Ctr Tryz.prog 51 [.ptr 1 0 0] (dF F ls (ls.map rowL) E) fun v m=>v=.imm ((miN F ls).map rowL)∧m=⟨(dF F ls (ls.map rowL) E).bl,8⟩:=by
 refine(c63 F ls E h h0 hF hs hq).freeze fun r sm=>?_
 rintro⟨rfl,rfl⟩
 refine⟨[7],?_,?_⟩
 · exact fzV_sl (k:=6) rfl (by simp [dF,dM,dV2]) (by simp [miN]) (scal_rows _)
 · simp [dF,dM,dV2]
theorem c55f (F:Nat) (ls:List Lt) (E:List Ent) (h:ls.length≤1000) (h0:ls≠[]) (hkd:∀ l,l∈ls→l.k=1∨l.k=2) (hf0:0<frm ls ls.length) (hf1:frm ls ls.length<ls.length) :
 Ctr Tryz.prog 52 [.ptr 1 0 0] (dF F ls (ls.map rowL) E) fun v m=>v=.imm ((tuN ls).map rowL)∧m=⟨(dF F ls (ls.map rowL) E).bl,9⟩:=by
 refine(c55 F ls E h h0 hkd hf0 hf1).freeze fun r sm=>?_
 rintro⟨rfl,rfl⟩
 refine⟨[8],?_,?_⟩
 · exact fzV_sl (k:=6) rfl (by simp [dF,dM,dV2]) (by rw [List.length_map,tu_len]) (scal_rows _)
 · simp [dF,dM,dV2]
theorem ValR.cross_s {f:Int} {ls:List Lt} (h:ValR f ls):∀ l,l∈ls→l.k=2→l.s=1∨l.s = -1:=fun l hl hk=>((okR_cross hk).1 (h.okr l hl)).2.2.1
theorem ValR.other_s {f:Int} {ls:List Lt} (h:ValR f ls):∀ l,l∈ls → ¬l.k=1→l.s=1∨l.s = -1:=fun l hl hk=>h.cross_s l hl ((okR_kind (h.okr l hl)).resolve_left hk)
theorem ValR.pass_q {F:Nat} {ls:List Lt} (h:ValR F ls):∀ l,l∈ls→l.k=1→0≤l.g∧l.g≤F∧1≤l.r∧l.r≤inG l.g ls:=fun l hl hk=>by
 obtain⟨_,_,_,a,b,c,d,_⟩:=(okR_pass hk).1 (h.okr l hl)
 exact⟨a,b,c,d⟩
theorem ValR.frm_lt {f:Int} {ls:List Lt} (h:ValR f ls) (h0:ls≠[]):0<frm ls ls.length∧frm ls ls.length<ls.length:=by
 have hw:=h.wv h0
 obtain⟨i,i1,i2,i3⟩:=up_ex hw.pas h.evn
 obtain⟨ha,hap,had⟩:=frm_spec ls.length (Nat.le_refl _) ⟨i,by omega,i1,i2,i3⟩
 refine⟨?_,ha⟩
 rcases Nat.eq_zero_or_pos (frm ls ls.length) with e | e
 · rw [e] at had
   simp [down,passes,cntP] at had
 · exact e
end Go.Known
end
section
namespace Go.Known
open Go Go.AE Go.Proofs
open Go.Plain
set_option maxRecDepth 100000 in
set_option maxHeartbeats 4000000 in
theorem c54v (g:FuncId) (f:Int) (ls L:List Lt) (nx:Nat) (h:ls.length≤1000) (he:errC f ls=0) (h0:ls≠[]) (hnx:7≤nx)
 (hg:∀ F:Nat,(F:Int)=f→Ctr Tryz.prog g [.ptr 1 0 0] (dF F ls (ls.map rowL) (crE ls ls.length)) fun v m=>v=.imm (L.map rowL)∧m=⟨(dF F ls (ls.map rowL) (crE ls ls.length)).bl,nx⟩) :
 PCall Tryz.prog 49 [cV f ls,.func (.func g) [] []] (.tuple [cV f L,.int .i64 0]):=by
 refine PCall_F hm 4 Tryz.func49 cf54 rfl rfl (by simp [closedL,AVal.closed,closed_rows]) (by simp [AVal.closed,closedL,closed_rows]) fun K hK=>?_
 have h59:=c59 f ls h
 have hrr:∀ q,renLL q (ls.map rowL)=ls.map rowL:=fun q=>renLL_closed q _ (closed_rows ls)
 have hLr:∀ q,renLL q (L.map rowL)=L.map rowL:=fun q=>renLL_closed q _ (closed_rows L)
 have hKv:=hK (.tuple [cV f L,.int .i64 0]) ⟨[],1⟩ (by
  unfold cV
  rw [freezeV]
  simp only [mapO]
  rw [freezeV]
  simp only [mapO]
  rw [freeze_imm (scal_rows L)]
  rfl)
 clear hK
 unfold cV dF dM dV2 at *
 generalize ls.map rowL=rows at *
 generalize L.map rowL=LR at *
 generalize hBe:bls (fillN ls.length ls.length (downV ls) false)=B at *
 generalize hCe:nums (fillN ls.length ls.length (placeV ls) 0)=C at *
 generalize hAe:nums (axis ls)=A at *
 have hrA:∀ q,renLL q A=A:=fun q=>by rw [← hAe]; exact ren_nums q _
 have hrB:∀ q,renLL q B=B:=fun q=>by rw [← hBe]; exact ren_bls q _
 have hrC:∀ q,renLL q C=C:=fun q=>by rw [← hCe]; exact ren_nums q _
 clear hBe hCe hAe
 generalize (axis ls).length=m at *
 generalize crE ls ls.length=E at *
 simp
 refine SC_ctr h59 [] (by simp [hrr]) (by simp) (by simp) ?_
 rintro r sm (⟨h1,_⟩ | ⟨_,h1,_⟩ | ⟨_,_,hf0,hf1,_,rfl,rfl⟩)
 · exact absurd he h1
 · exact absurd h1 h0
 obtain⟨F,hF⟩:∃ F:Nat,f=(F:Int):=⟨f.toNat,by omega⟩
 subst hF
 have hg':=hg F rfl
 simp [hrr,hrA,hrB,hrC,ren_mkE,ren_nums]
 refine DC_ctr hg' hnx [(1,11),(2,12),(3,13),(4,14),(5,15),(6,16)] (by simp) (by simp [EqRB,hrr,hrA,hrB,hrC,ren_mkE,ren_nums]) (by simp) (fun s=>by simp [hLr]) (by simp) ?_
 simp [hrr,hrA,hrB,hrC,ren_mkE,ren_nums,hLr]
 exact endK hKv [] (by simp [hLr])
theorem fz_code {get:Nat→Option ABlk} (f:Int) (L:List Lt):freezeV get 4 (.tuple [cV f L,.int .i64 0])=some (.tuple [cV f L,.int .i64 0]):=by
 unfold cV
 rw [freezeV]
 simp only [mapO]
 rw [freezeV]
 simp only [mapO]
 rw [freeze_imm (scal_rows L)]
 rfl
theorem c32v (f:Int) (ls:List Lt) (hv:ValR f ls) (h0:ls≠[]):PCall Tryz.prog 23 [cV f ls] (.tuple [cV f (swN ls),.int .i64 0]):=by
 refine PCall_F hm 4 Tryz.func23 cf32 rfl rfl (by simp [closedL,AVal.closed,closed_rows]) (by simp [AVal.closed,closedL,closed_rows]) fun K hK=>?_
 have hl:ls.length≤1000:=by have:=hv.len; omega
 have hF:((f.toNat:Nat):Int)=f:=by have:=hv.lo; omega
 have h54:=c54v 50 f ls (swN ls) 8 hl hv.to h0 (by omega) fun F e=>by
  subst e
  exact c62f F ls _ hl h0 hv.cross_s
 have hrr:∀ q,renLL q (ls.map rowL)=ls.map rowL:=fun q=>renLL_closed q _ (closed_rows ls)
 have hLr:∀ q,renLL q ((swN ls).map rowL)=(swN ls).map rowL:=fun q=>renLL_closed q _ (closed_rows _)
 have hKv:=hK (.tuple [cV f (swN ls),.int .i64 0]) ⟨[],1⟩ (fz_code f _)
 clear hK
 unfold cV at *
 generalize ls.map rowL=rows at *
 generalize (swN ls).map rowL=LR at *
 simp
 refine SC_pure h54 ?_
 simp
 exact endK hKv [] (by simp [hLr])
theorem c33v (f:Int) (ls:List Lt) (hv:ValR f ls) (h0:ls≠[]):PCall Tryz.prog 24 [cV f ls] (.tuple [cV f (miN f ls),.int .i64 0]):=by
 refine PCall_F hm 4 Tryz.func24 cf33 rfl rfl (by simp [closedL,AVal.closed,closed_rows]) (by simp [AVal.closed,closedL,closed_rows]) fun K hK=>?_
 have hl:ls.length≤1000:=by have:=hv.len; omega
 have hF:((f.toNat:Nat):Int)=f:=by have:=hv.lo; omega
 have h54:=c54v 51 f ls (miN f ls) 8 hl hv.to h0 (by omega) fun F e=>by
  subst e
  exact c63f F ls _ hl h0 (by have:=hv.hi; omega) hv.other_s hv.pass_q
 have hrr:∀ q,renLL q (ls.map rowL)=ls.map rowL:=fun q=>renLL_closed q _ (closed_rows ls)
 have hLr:∀ q,renLL q ((miN f ls).map rowL)=(miN f ls).map rowL:=fun q=>renLL_closed q _ (closed_rows _)
 have hKv:=hK (.tuple [cV f (miN f ls),.int .i64 0]) ⟨[],1⟩ (fz_code f _)
 clear hK
 unfold cV at *
 generalize ls.map rowL=rows at *
 generalize (miN f ls).map rowL=LR at *
 simp
 refine SC_pure h54 ?_
 simp
 exact endK hKv [] (by simp [hLr])
theorem c27v (f:Int) (ls:List Lt) (hv:ValR f ls) (h0:ls≠[]):PCall Tryz.prog 25 [cV f ls] (.tuple [cV f (tuN ls),.int .i64 0]):=by
 refine PCall_F hm 4 Tryz.func25 cf27 rfl rfl (by simp [closedL,AVal.closed,closed_rows]) (by simp [AVal.closed,closedL,closed_rows]) fun K hK=>?_
 have hl:ls.length≤1000:=by have:=hv.len; omega
 have hF:((f.toNat:Nat):Int)=f:=by have:=hv.lo; omega
 have h54:=c54v 52 f ls (tuN ls) 9 hl hv.to h0 (by omega) fun F e=>by
  subst e
  exact c55f F ls _ hl h0 (fun l hm=>okR_kind (hv.okr l hm)) (hv.frm_lt h0).1 (hv.frm_lt h0).2
 have hrr:∀ q,renLL q (ls.map rowL)=ls.map rowL:=fun q=>renLL_closed q _ (closed_rows ls)
 have hLr:∀ q,renLL q ((tuN ls).map rowL)=(tuN ls).map rowL:=fun q=>renLL_closed q _ (closed_rows _)
 have hKv:=hK (.tuple [cV f (tuN ls),.int .i64 0]) ⟨[],1⟩ (fz_code f _)
 clear hK
 unfold cV at *
 generalize ls.map rowL=rows at *
 generalize (tuN ls).map rowL=LR at *
 simp
 refine SC_pure h54 ?_
 simp
 exact endK hKv [] (by simp [hLr])
end Go.Known
end
section
namespace Go.Known
open Go Go.AE Go.Proofs
open Go.Plain
theorem c31p (L:List Lt) (hn:L≠[]) (hl:L.length≤1000):PCall Tryz.prog 22 [.imm (L.map rowL)] (.imm (L.map rowL)):=by
 refine PCall_ctr (k:=2) (by simp [closedL,AVal.closed,closed_rows]) (by simp [AVal.closed,closed_rows]) ((c31s (L.map rowL) (by simpa using hn) (by simpa using hl) (rows6 L) (closed_rows L)).mono fun r sm=>?_)
 rintro⟨rfl,rfl⟩
 exact freeze_rows (k:=6) (by simp) (scal_rows L)
def img1 (a:Bool) (ls:List Lt):List Lt:=if a then swN ls else ls
def img2 (f:Int) (b:Bool) (ls:List Lt):List Lt:=if b then miN f ls else ls
def img3 (c:Bool) (ls:List Lt):List Lt:=if c then tuN ls else ls
section
variable {f:Int} {ls:List Lt}
theorem img1_ok (a:Bool) (h:ValR f ls) (h0:ls≠[]):ValR f (img1 a ls)∧img1 a ls≠[]∧patP (polys (img1 a ls))=patP (polys ls):=by
 cases a with
 | false=>exact ⟨h,h0,rfl⟩
 | true=>exact ⟨(h.swap h0).1,by intro e; apply h0; simpa [img1,swN] using e,(h.swap h0).2⟩
theorem img2_ok (b:Bool) (h:ValR f ls) (h0:ls≠[]):ValR f (img2 f b ls)∧img2 f b ls≠[]∧patP (polys (img2 f b ls))=patP (polys ls):=by
 cases b with
 | false=>exact ⟨h,h0,rfl⟩
 | true=>exact ⟨(h.mirror h0).1,by intro e; apply h0; simpa [img2,miN] using e,(h.mirror h0).2⟩
theorem img3_ok (c:Bool) (h:ValR f ls) (h0:ls≠[]):ValR f (img3 c ls)∧img3 c ls≠[]∧patP (polys (img3 c ls))=patP (polys ls):=by
 cases c with
 | false=>exact ⟨h,h0,rfl⟩
 | true=>
  refine⟨(h.turn h0).1,fun e=>h0 ?_,(h.turn h0).2⟩
  have e':tuN ls=[]:=e
  have:(tuN ls).length=0:=by rw [e']; rfl
  rw [tu_len] at this
  exact List.length_eq_zero_iff.1 this
theorem img_all (a b c:Bool) (h:ValR f ls) (h0:ls≠[]):ValR f (img3 c (img2 f b (img1 a ls)))∧img3 c (img2 f b (img1 a ls))≠[]∧patP (polys (img3 c (img2 f b (img1 a ls))))=patP (polys ls):=by
 obtain⟨a1,a2,a3⟩:=img1_ok a h h0
 obtain⟨b1,b2,b3⟩:=img2_ok b a1 a2
 obtain⟨c1,c2,c3⟩:=img3_ok c b1 b2
 exact⟨c1,c2,c3.trans (b3.trans a3)⟩
end
end Go.Known
end
section
namespace Go.Known
open Go Go.AE Go.Proofs
open Go.Plain
def symR (i:Nat):List AVal:=[.bool (decide (4≤i)),.bool (decide (2≤i % 4)),.bool (decide (i % 2=1))]
def symRs (k:Nat):List (List AVal):=(List.range k).map symR
theorem symRs_succ (k:Nat):symRs (k+1)=symRs k++[symR k]:=by simp [symRs,List.range_succ]
@[simp] theorem symRs_length (k : Nat) : (symRs k).length = k := by simp [symRs]
@[simp] theorem symRs_zero : symRs 0 = [] := rfl
theorem closed_symRs (k:Nat):∀ q,renLL q (symRs k)=symRs k:=fun q=>by
 rw [renLL_map]
 unfold symRs
 rw [List.map_map]
 rfl
theorem c23:PCall Tryz.prog 8 [] (.imm (symRs 8)):=by
 refine PCall_F hm 2 Tryz.func8 ch23 rfl rfl rfl rfl fun K hK=>?_
 have hKv:=hK (.sl 1 0 8) ⟨[(1,.cells 3 (symRs 8))],2⟩ (by
  have:=freeze_rows (n:=1) (get:=SMem.get ⟨[(1,.cells 3 (symRs 8))],2⟩) (b:=1) (k:=3) (rows:=symRs 8) (by simp) (fun row hr x hx=>by
   obtain⟨i,_,rfl⟩:=List.mem_map.1 hr
   simp only [symR,List.mem_cons,List.not_mem_nil,or_false] at hx
   rcases hx with rfl | rfl | rfl<;>rfl)
  simpa using this)
 clear hK
 simp
 refine wZ_loop (α:=Nat) (fun i=>[(2,.int .i64 i),(1,slV 1 (symRs i))]) (fun i=>⟨blV 1 3 (symRs i) [],2⟩) (fun i=>8 - i) (fun i=>i≤8) 0 [] (by simp) (by simp) ?_
 intro i hi N hN
 try simp only at hi hN ⊢
 by_cases hlt:i<8
 · have hw:IntKind.i64.wrap ((i:Int)+1)=(i:Int)+1:=wrap64 (by omega) (by omega)
   have hr:=symRs_succ i
   have hc:=closed_symRs i
   have hl:(symRs i).length≤1048575:=by rw [symRs_length]; omega
   have t4:((i:Int)).tmod 4=((i % 4:Nat):Int):=rfl
   have t2:((i:Int)).tmod 2=((i % 2:Nat):Int):=rfl
   have b1:decide ((4:Int)≤(i:Int))=decide (4≤i):=decide_eq_decide.2 (by omega)
   have b2:decide ((2:Int)≤((i % 4:Nat):Int))=decide (2≤i % 4):=decide_eq_decide.2 (by omega)
   have b3:decide (((i % 2:Nat):Int)=1)=decide (i % 2=1):=decide_eq_decide.2 (by omega)
   have hd:decide ((i:Int)<8)=true:=decide_eq_true (by omega)
   have hN':=hN (i+1)
   rw [hr] at hN'
   unfold symR at hN'
   generalize symRs i=S at *
   simp [-Int.natCast_emod,hd,hl,t4,t2,b1,b2,b3,hw]
   exact hN' [(1,15)] _ _ (by omega) (by omega) (by simp [hc])
 · have hie:i=8:=by omega
   subst hie
   have hne:¬symRs 8=[]:=by intro e; have:=congrArg List.length e; simp at this
   simp
   exact endK hKv [] (by simp [slV_ne,blV_ne,hne,closed_symRs 8])
end Go.Known
end
