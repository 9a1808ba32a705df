/- Part 37 of the proof: Rl, Rm, Rg. -/
import Derived.Test.YtfmnflhggplkmaaGreatDoorV27
import Derived.Test.YtfmnflhggplkmaaGreatDoorV35
import Derived.Test.YtfmnflhggplkmaaGreatDoorV36
set_option linter.all false
section
namespace Go.Known
open Go Go.AE Go.Proofs
open Go.Plain
def prow (l:List (Int×Int)):List (List AVal):=l.map fun p=>[.int .i64 p.1,.int .i64 p.2]
def irow (l:List Int):List (List AVal):=l.map fun x=>[.int .i64 x]
@[simp] theorem prow_length (l : List (Int × Int)) : (prow l).length = l.length := by simp [prow]
@[simp] theorem irow_length (l : List Int) : (irow l).length = l.length := by simp [irow]
@[simp] theorem prow_nil0 : prow [] = [] := rfl
@[simp] theorem irow_nil0 : irow [] = [] := rfl
@[simp] theorem prow_nil {l : List (Int × Int)} : prow l = [] ↔ l = [] := by simp [prow]
@[simp] theorem irow_nil {l : List Int} : irow l = [] ↔ l = [] := by simp [irow]
@[simp] theorem take_prow (l : List (Int × Int)) : (prow l).take l.length = prow l := List.take_of_length_le (by simp)
@[simp] theorem take_irow (l : List Int) : (irow l).take l.length = irow l := List.take_of_length_le (by simp)
theorem closed_prow:∀ (l:List (Int×Int)),closedLL (prow l)=true
 | []=>rfl
 | p :: r=>by
  have:=closed_prow r
  simp only[prow,List.map_cons,closedLL,closedL,AVal.closed,Bool.and_true,Bool.true_and]at this ⊢
  exact this
theorem closed_irow:∀ (l:List Int),closedLL (irow l)=true
 | []=>rfl
 | p :: r=>by
  have:=closed_irow r
  simp only[irow,List.map_cons,closedLL,closedL,AVal.closed,Bool.and_true,Bool.true_and]at this ⊢
  exact this
@[simp] theorem ren_prow (q : Nat → Nat) (l : List (Int × Int)) : renLL q (prow l) = prow l := renLL_closed q _ (closed_prow l)
@[simp] theorem ren_irow (q : Nat → Nat) (l : List Int) : renLL q (irow l) = irow l := renLL_closed q _ (closed_irow l)
@[simp] theorem all_prow (l : List (Int × Int)) : ((prow l).all fun x => x.length == 2) = true := by simp [prow]
@[simp] theorem all_irow (l : List Int) : ((irow l).all fun x => x.length == 1) = true := by simp [irow]
theorem closed_imV {rows:List (List AVal)} (h:closedLL rows=true):(imV rows).closed=true:=by unfold imV; split<;>first|rfl|exact h
@[simp] theorem imV_nil : imV [] = .nilSl := rfl
@[simp] theorem ren_imVi (q : Nat → Nat) (l : List Int) : (imV (irow l)).ren q = imV (irow l) := AVal.ren_closed q _ (closed_imV (closed_irow l))
@[simp] theorem ren_imVp (q : Nat → Nat) (l : List (Int × Int)) : (imV (prow l)).ren q = imV (prow l) := AVal.ren_closed q _ (closed_imV (closed_prow l))
@[simp] theorem ren_imVn (q : Nat → Nat) (l : List Nat) : (imV (nums l)).ren q = imV (nums l) := AVal.ren_closed q _ (closed_imV (closed_nums l))
@[simp] theorem sl_imV (rows : List (List AVal)) : sliceLen (imV rows) = some rows.length := by
 unfold imV
 split
 ·rename_i h; subst h; rfl
 ·rfl
end Go.Known
end
section
namespace Go.Known
open Go Go.AE Go.Proofs
open Go.Plain
theorem frz_slV {get:Nat→Option ABlk} {b k n:Nat} {rows:List (List AVal)} (hg:get b=if rows=[]then none else some (.cells k rows)) (hs:∀ row,row∈rows → ∀ x,x∈row→freezeV get (n+1) x=some x):freezeV get (n+2) (slV b rows)=some (imV rows):=by
 unfold slV imV
 by_cases h:rows=[]
 ·rw[if_pos h,if_pos h]; rfl
 ·rw[if_neg h,if_neg h]
  exact freeze_rows (by rw[hg,if_neg h]) hs
def FRow (w:List Nat×Bool) (row:List AVal):Prop:=∃ (ab o:Bool) (P:List (Int×Int)) (G:List Int),row=[.bool ab,imV (nums w.1),imV (prow P),imV (irow G),.bool o]∧(w.2=true↔P≠[])
theorem FRow.closed {w:List Nat×Bool} {row:List AVal} (h:FRow w row):closedL row=true:=by
 obtain⟨ab,o,P,G,rfl,_⟩:=h
 simp only[closedL,AVal.closed,closed_imV (closed_nums _),closed_imV (closed_prow _),closed_imV (closed_irow _),Bool.and_true]
def RowsF (l:List (List Nat×Bool)) (rows:List (List AVal)):Prop:=rows.length=l.length ∧ ∀(i:Nat) (w:List Nat×Bool),l[i]? = some w → ∃ row,rows[i]? = some row∧FRow w row
theorem RowsF.row {l:List (List Nat×Bool)} {rows:List (List AVal)} (h:RowsF l rows):∀ row,row∈rows → ∃ w,FRow w row:=by
 intro row hr
 obtain⟨i,hi⟩:=List.getElem?_of_mem hr
 have hil:i<l.length:=by rw[← h.1]; exact(List.getElem?_eq_some_iff.1 hi).1
 obtain⟨r2,h1,h2⟩:=h.2 i _ (List.getElem?_eq_getElem hil)
 rw[hi]at h1
 injection h1 with h1
 subst h1
 exact⟨_,h2⟩
theorem RowsF.closed {l:List (List Nat×Bool)} {rows:List (List AVal)} (h:RowsF l rows):closedLL rows=true:=by
 have:∀ rs:List (List AVal),(∀ row,row∈rs→closedL row=true)→closedLL rs=true:=by
  intro rs
  induction rs with
  | nil=>intro _; rfl
  | cons a r ih=>intro hh; simp only[closedLL,Bool.and_eq_true]; exact⟨hh a (List.mem_cons_self ..),ih fun b hb=>hh b (List.mem_cons_of_mem _ hb)⟩
 exact this rows fun row hr=>(h.row row hr).elim fun _ hw=>hw.closed
theorem RowsF.nil:RowsF [] []:=⟨rfl,fun i w h=>by simp at h⟩
theorem tr_length (T:Nat→Nat):∀ (k:Nat) (seen:List Bool) (x:Nat),(tr T k seen x).length≤k
 | 0,_,_=>Nat.le_refl _
 | k+1,seen,x=>by
  simp only[tr]
  split
  ·simp
  ·have:=tr_length T k (seen.set x true) (T x)
   simp; omega
end Go.Known
end
section
namespace Go.Known
open Go Go.AE Go.Proofs
open Go.Plain
attribute [local simp] wZ_skip wZ_region wZ_dregion wZ_seq wZ_condM wZ_block wZ_scope wZ_exit wZ_ret thenS_normal thenS_ret thenS_exit blockS_normal blockS_ret blockS_exit zops_nil' zops_one zops_gd pt_some pt_none ev_tmp ev_const ev_fn wt_some wt_bool wt_undef vo_some wo_some sd_mov sd_pick pk_true pk_false sd_box bx_some sd_alloc sd_build ag_some sd_mkSl mk_some sd_load sd_store sd_nilChk nl_ptr nl_iptr sd_bin sd_un sd_mkFunc sd_mkMap sd_fieldA ad_ptr ad_iptr sd_field fl_agg sd_ext ex_tuple sd_lenSl ln_some sl_nil sl_emp sl_sl sl_imm sd_idxA sd_makeSl sd_append sd_lenMap sd_lookup sd_mapUpd ix_sl ix_imm an_int Env.get argE SMem.at SMem.app SMem.get lookB eraseB AVal.cells AVal.one loadD rowAtD bn_add bn_sub bn_mul bn_quo bn_rem bn_eql bn_neq bn_lss bn_leq bn_gtr bn_geq bb_eql bb_neq unA storeD setRow fillA fillS calleeE aundef xdops_nil' xdops_one xdops_gd kp_nil kp_cons recF memN indF lookF retN oneK yieldE quietO SubR SubRE SubRB InjK InjA qOf lookN AVal.ren renL renLL ABlk.ren renB lessB qKeys
def OkV (f:Int) (ls:List Lt):Prop:=ls=[]∨OkAll f.toNat ls
open Classical in
noncomputable def errC (f:Int) (ls:List Lt):Int:=
 if 400<ls.length∨200<visits ls then 7 else if f<0∨40<f then 2 else if OkV f ls then 0 else 3
set_option maxRecDepth 100000 in
set_option maxHeartbeats 4000000 in
theorem c59 (f:Int) (ls:List Lt) (h:ls.length≤1000) :
 Ctr Tryz.prog 55 [cV f ls] ⟨[],1⟩ fun r m=>(errC f ls≠0∧r=.tuple [.nilPtr,.int .i64 (errC f ls)]∧m=⟨[],1⟩) ∨
  (errC f ls=0∧ls=[]∧0≤f∧f≤40∧r=.tuple [.ptr 1 0 0,.int .i64 0]∧m=dM1 f (ls.map rowL)) ∨
  (errC f ls=0∧ls≠[]∧0≤f∧f≤40∧OkAll f.toNat ls∧r=.tuple [.ptr 1 0 0,.int .i64 0]∧m=dF f.toNat ls (ls.map rowL) (crE ls ls.length)):=by
 refine ctr_P hm Tryz.func55 cf59 rfl rfl fun K hK=>?_
 have hR:=rows_of ls
 have hrr:∀ q,renLL q (ls.map rowL)=ls.map rowL:=fun q=>renLL_closed q _ (closed_rows ls)
 have h103:=c103 f ls h
 have h104:=fun F hF=>c104 F ls h hF
 have hE:∀ e:Int,errC f ls=e→e≠0 → ∀ m,SubR 1 [] [(0,.tuple [.nilPtr,.int .i64 e])] ⟨[],1⟩ [(0,.tuple [.nilPtr,.int .i64 e])] m→EndK 1 K (.tuple [.nilPtr,.int .i64 e]) m:=
  fun e he hne m hs=>by subst he; exact endK (hK _ _ (.inl ⟨hne,rfl,rfl⟩)) [] hs
 unfold cV at *
 generalize ls.map rowL=rows at *
 have hlen:=hR.len
 have hv:cntP isX ls=visits ls:=rfl
 by_cases hl:400<ls.length
 ·have hl':(400:Int)<(ls.length:Int):=by omega
  simp[hlen,hl']
  exact hE 7 (by unfold errC; rw[if_pos (.inl hl)]) (by omega) _ (by simp)
 have hl':¬(400:Int)<(ls.length:Int):=by omega
 simp[hlen,hl']
 refine SC_pure h103 ?_
 rw[hv]
 by_cases hx:200<visits ls
 ·have hx':(200:Int)<(visits ls:Int):=by omega
  simp[hx']
  exact hE 7 (by unfold errC; rw[if_pos (.inr hx)]) (by omega) _ (by simp)
 have hx':¬(200:Int)<(visits ls:Int):=by omega
 have h7:¬(400<ls.length∨200<visits ls):=by omega
 by_cases hf1:f<0
 ·simp[hx',hf1]
  exact hE 2 (by unfold errC; rw[if_neg h7,if_pos (.inl hf1)]) (by omega) _ (by simp)
 by_cases hf2:40<f
 ·simp[hx',hf1,hf2]
  exact hE 2 (by unfold errC; rw[if_neg h7,if_pos (.inr hf2)]) (by omega) _ (by simp)
 have h2:¬(f<0∨40<f):=by omega
 obtain⟨F,hF⟩:∃ F:Nat,f=(F:Int):=⟨f.toNat,by omega⟩
 subst hF
 simp[hx',hf1,hf2]
 refine SC_ctr (h104 F (by omega)) [(1,23)] (by simp) (by simp[hrr,ren_mkE,ren_nums,ren_bls]) (by simp) ?_
 rintro r sm (⟨h0,rfl,rfl⟩|⟨h0,hok,rfl,rfl⟩|⟨h0,hok,rfl,rfl⟩)
 ·have he:errC F ls=0:=by unfold errC; rw[if_neg h7,if_neg h2,if_pos (.inl h0)]
  simp[hrr,ren_mkE,ren_nums,ren_bls]
  exact endK (hK _ _ (.inr (.inl ⟨he,h0,by omega,by omega,rfl,rfl⟩))) [(1,23)] (by simp[hrr,ren_mkE,ren_nums,ren_bls])
 ·have he:errC F ls=0:=by unfold errC; rw[if_neg h7,if_neg h2,if_pos (.inr hok)]
  simp[hrr,ren_mkE,ren_nums,ren_bls]
  exact endK (hK _ _ (.inr (.inr ⟨he,h0,by omega,by omega,hok,rfl,rfl⟩))) [(1,23),(2,28),(3,29),(4,30),(5,31),(6,32)] (by simp[hrr,ren_mkE,ren_nums,ren_bls])
 ·simp[hrr,ren_mkE,ren_nums,ren_bls]
  exact hE 3 (by unfold errC; rw[if_neg h7,if_neg h2,if_neg (fun hh=>hh.elim h0 hok)]) (by omega) _ (by simp)
theorem c30 (f:Int) (ls:List Lt) (h:ls.length≤1000):PCall Tryz.prog 39 [cV f ls] (.int .i64 (errC f ls)):=by
 refine PCall_1 hm Tryz.func39 cf30 rfl rfl (by simp[closedL,closed_cV]) trivial fun K hK=>?_
 have h59:=c59 f ls h
 have hrr:∀ q,renLL q (ls.map rowL)=ls.map rowL:=fun q=>renLL_closed q _ (closed_rows ls)
 unfold cV at *
 generalize ls.map rowL=rows at *
 simp
 refine SC_ctr h59 [] (by simp[hrr]) (by simp) (by simp) ?_
 rintro r sm (⟨he,rfl,rfl⟩|⟨he,h0,_,_,rfl,rfl⟩|⟨he,h0,_,_,hok,rfl,rfl⟩)
 ·simp
  exact endK hK [] (by simp)
 ·simp
  rw[he]at hK
  exact endK hK [] (by simp)
 ·simp
  rw[he]at hK
  exact endK hK [] (by simp)
end Go.Known
end
