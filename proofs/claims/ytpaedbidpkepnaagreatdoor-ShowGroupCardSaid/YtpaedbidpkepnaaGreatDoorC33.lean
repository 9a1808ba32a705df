/- Part 33 of the proof: Rg. -/
import Derived.Test.YtpaedbidpkepnaaGreatDoorC26
set_option linter.all false
namespace Go.Known
open Go Go.AE Go.Proofs
open Go.Plain
attribute [local simp] wZ_skip wZ_region wZ_dregion wZ_seq wZ_condM wZ_block wZ_scope wZ_exit wZ_ret thenS_normal thenS_ret thenS_exit blockS_normal blockS_ret blockS_exit zops_nil' zops_one zops_gd pt_some pt_none ev_tmp ev_const ev_fn wt_some wt_bool wt_undef vo_some wo_some sd_mov sd_pick pk_true pk_false sd_box bx_some sd_alloc sd_build ag_some sd_mkSl mk_some sd_load sd_store sd_nilChk nl_ptr nl_iptr sd_bin sd_un sd_mkFunc sd_mkMap sd_fieldA ad_ptr ad_iptr sd_field fl_agg sd_ext ex_tuple sd_lenSl ln_some sl_nil sl_emp sl_sl sl_imm sd_idxA sd_makeSl sd_append sd_lenMap sd_lookup sd_mapUpd ix_sl ix_imm an_int Env.get argE SMem.at SMem.app SMem.get lookB eraseB AVal.cells AVal.one loadD rowAtD bn_add bn_sub bn_mul bn_quo bn_rem bn_eql bn_neq bn_lss bn_leq bn_gtr bn_geq bb_eql bb_neq unA storeD setRow fillA fillS calleeE aundef xdops_nil' xdops_one xdops_gd kp_nil kp_cons recF memN indF lookF retN oneK yieldE quietO SubR SubRE SubRB InjK InjA qOf lookN AVal.ren renL renLL ABlk.ren renB lessB qKeys
def OkV (f:Int) (ls:List Lt):Prop:=ls=[]∨OkAll f.toNat ls
open Classical in
noncomputable def errC (f:Int) (ls:List Lt):Int:=
 if 400<ls.length∨200<visits ls then 7 else if f<0∨40<f then 2 else if OkV f ls then 0 else 3
set_option maxRecDepth 100000 in
set_option maxHeartbeats 4000000 in
theorem c59 (f:Int) (ls:List Lt) (h:ls.length≤1000) :
 Ctr Tryz.prog 46 [cV f ls] ⟨[],1⟩ fun r m=>(errC f ls≠0∧r=.tuple [.nilPtr,.int .i64 (errC f ls)]∧m=⟨[],1⟩) ∨
  (errC f ls=0∧ls=[]∧0≤f∧f≤40∧r=.tuple [.ptr 1 0 0,.int .i64 0]∧m=dM1 f (ls.map rowL)) ∨
  (errC f ls=0∧ls≠[]∧0≤f∧f≤40∧OkAll f.toNat ls∧r=.tuple [.ptr 1 0 0,.int .i64 0]∧m=dF f.toNat ls (ls.map rowL) (crE ls ls.length)):=by
 refine ctr_P hm Tryz.func46 cf59 rfl rfl fun K hK=>?_
 have hR:=rows_of ls
 have hrr:∀ q,renLL q (ls.map rowL)=ls.map rowL:=fun q=>renLL_closed q _ (closed_rows ls)
 have h103:=c103 f ls h
 have h104:=fun F hF=>c104 F ls h hF
 have hE:∀ e:Int,errC f ls=e→e≠0 → ∀ m,SubR 1 [] [(0,.tuple [.nilPtr,.int .i64 e])] ⟨[],1⟩ [(0,.tuple [.nilPtr,.int .i64 e])] m→EndK 1 K (.tuple [.nilPtr,.int .i64 e]) m:=
  fun e he hne m hs=>by subst he; exact endK (hK _ _ (.inl ⟨hne,rfl,rfl⟩)) [] hs
 unfold cV at *
 generalize ls.map rowL=rows at *
 have hlen:=hR.len
 have hv:cntP isX ls=visits ls:=rfl
 by_cases hl:400<ls.length
 · have hl':(400:Int)<(ls.length:Int):=by omega
   simp [hlen,hl,hl']
   exact hE 7 (by unfold errC; rw [if_pos (.inl hl)]) (by omega) _ (by simp)
 have hl':¬(400:Int)<(ls.length:Int):=by omega
 simp [hlen,hl,hl']
 refine SC_pure h103 ?_
 rw [hv]
 by_cases hx:200<visits ls
 · have hx':(200:Int)<(visits ls:Int):=by omega
   simp [hx,hx']
   exact hE 7 (by unfold errC; rw [if_pos (.inr hx)]) (by omega) _ (by simp)
 have hx':¬(200:Int)<(visits ls:Int):=by omega
 have h7:¬(400<ls.length∨200<visits ls):=by omega
 by_cases hf1:f<0
 · simp [hx,hx',hf1]
   exact hE 2 (by unfold errC; rw [if_neg h7,if_pos (.inl hf1)]) (by omega) _ (by simp)
 by_cases hf2:40<f
 · simp [hx,hx',hf1,hf2]
   exact hE 2 (by unfold errC; rw [if_neg h7,if_pos (.inr hf2)]) (by omega) _ (by simp)
 have h2:¬(f<0∨40<f):=by omega
 obtain⟨F,hF⟩:∃ F:Nat,f=(F:Int):=⟨f.toNat,by omega⟩
 subst hF
 simp [hx,hx',hf1,hf2]
 refine SC_ctr (h104 F (by omega)) [(1,23)] (by simp) (by simp [hrr,ren_mkE,ren_nums,ren_bls]) (by simp) ?_
 rintro r sm (⟨h0,rfl,rfl⟩ | ⟨h0,hok,rfl,rfl⟩ | ⟨h0,hok,rfl,rfl⟩)
 · have he:errC F ls=0:=by unfold errC; rw [if_neg h7,if_neg h2,if_pos (.inl h0)]
   simp [hrr,ren_mkE,ren_nums,ren_bls]
   exact endK (hK _ _ (.inr (.inl ⟨he,h0,by omega,by omega,rfl,rfl⟩))) [(1,23)] (by simp [hrr,ren_mkE,ren_nums,ren_bls])
 · have he:errC F ls=0:=by unfold errC; rw [if_neg h7,if_neg h2,if_pos (.inr hok)]
   simp [hrr,ren_mkE,ren_nums,ren_bls]
   exact endK (hK _ _ (.inr (.inr ⟨he,h0,by omega,by omega,hok,rfl,rfl⟩))) [(1,23),(2,28),(3,29),(4,30),(5,31),(6,32)] (by simp [hrr,ren_mkE,ren_nums,ren_bls])
 · simp [hrr,ren_mkE,ren_nums,ren_bls]
   exact hE 3 (by unfold errC; rw [if_neg h7,if_neg h2,if_neg (fun hh=>hh.elim h0 hok)]) (by omega) _ (by simp)
theorem c30 (f:Int) (ls:List Lt) (h:ls.length≤1000):PCall Tryz.prog 20 [cV f ls] (.int .i64 (errC f ls)):=by
 refine PCall_1 hm Tryz.func20 cf30 rfl rfl (by simp [closedL,closed_cV]) trivial fun K hK=>?_
 have h59:=c59 f ls h
 have hrr:∀ q,renLL q (ls.map rowL)=ls.map rowL:=fun q=>renLL_closed q _ (closed_rows ls)
 unfold cV at *
 generalize ls.map rowL=rows at *
 simp
 refine SC_ctr h59 [] (by simp [hrr]) (by simp) (by simp) ?_
 rintro r sm (⟨he,rfl,rfl⟩ | ⟨he,h0,_,_,rfl,rfl⟩ | ⟨he,h0,_,_,hok,rfl,rfl⟩)
 · simp
   exact endK hK [] (by simp)
 · simp
   rw [he] at hK
   exact endK hK [] (by simp)
 · simp
   rw [he] at hK
   exact endK hK [] (by simp)
end Go.Known
