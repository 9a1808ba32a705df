/-
  Part 50 of the proof: Rj.
-/
import Derived.Test.YtainmiigjiahfaaGreatDoorA45
import Derived.Test.YtainmiigjiahfaaGreatDoorA46
import Derived.Test.YtainmiigjiahfaaGreatDoorA49
set_option linter.all false
set_option linter.unusedSimpArgs false
set_option linter.unusedVariables false

/- Rj: What the program's functions of layer 9 yield for a code that is not valid; and the law. -/
section
namespace Go.Known
open Go Go.AE Go.Proofs
open Go.Plain
attribute [local simp] wZ_skip wZ_region wZ_dregion wZ_seq wZ_condM wZ_block wZ_scope wZ_exit wZ_ret thenS_normal thenS_ret thenS_exit blockS_normal blockS_ret blockS_exit zops_nil' zops_one zops_gd pt_some pt_none ev_tmp ev_const ev_fn wt_some wt_bool wt_undef vo_some wo_some sd_mov sd_pick pk_true pk_false sd_box bx_some sd_alloc sd_build ag_some sd_mkSl mk_some sd_load sd_store sd_nilChk nl_ptr nl_iptr sd_bin sd_un sd_mkFunc sd_mkMap sd_fieldA ad_ptr ad_iptr sd_field fl_agg sd_ext ex_tuple sd_lenSl ln_some sl_nil sl_emp sl_sl sl_imm sd_idxA sd_makeSl sd_append sd_lenMap sd_lookup sd_mapUpd ix_sl ix_imm an_int Env.get argE SMem.at SMem.app SMem.get lookB eraseB AVal.cells AVal.one loadD rowAtD bn_add bn_sub bn_mul bn_quo bn_rem bn_eql bn_neq bn_lss bn_leq bn_gtr bn_geq bb_eql bb_neq unA storeD setRow fillA fillS calleeE aundef xdops_nil' xdops_one xdops_gd kp_nil kp_cons recF memN indF lookF retN oneK yieldE quietO SubR SubRE SubRB InjK InjA qOf lookN AVal.ren renL renLL ABlk.ren renB lessB qKeys wr_eq

abbrev zCode : AVal := .agg [.int .i64 0, .nilSl]
abbrev zPic : AVal := .agg [.int .i64 0, .nilSl, .nilSl, .nilSl]

set_option maxRecDepth 100000 in
theorem c29e (f : Int) (ls : List Lt) (h : ls.length ≤ 1000) (he : ¬ errC f ls = 0) : PCall Tryz.prog 29 [cV f ls] (.tuple [.nilSl, .int .i64 (errC f ls)]) := by
  refine PCall_F hm 3 Tryz.func29 cf29 rfl rfl (by simp [closedL, closed_cV]) rfl fun K hK => ?_
  have h59 := c59 f ls h
  have hrr : ∀ q, renLL q (ls.map rowL) = ls.map rowL := fun q => renLL_closed q _ (closed_rows ls)
  have hKv := hK (.tuple [.nilSl, .int .i64 (errC f ls)]) ⟨[], 1⟩ rfl
  clear hK
  unfold cV at *
  generalize ls.map rowL = rows at *
  generalize errC f ls = e at *
  simp
  refine SC_ctr h59 [] (by simp [hrr]) (by simp) (by simp) ?_
  rintro r sm (⟨_, rfl, rfl⟩ | ⟨h0, _⟩ | ⟨h0, _⟩)
  · simp [he]
    exact endK hKv [] (by simp)
  · exact absurd h0 he
  · exact absurd h0 he

set_option maxRecDepth 100000 in
theorem c7e (f : Int) (ls : List Lt) (h : ls.length ≤ 1000) (he : ¬ errC f ls = 0) : PCall Tryz.prog 7 [cV f ls] (.tuple [.nilSl, .int .i64 (errC f ls)]) := by
  refine PCall_F hm 3 Tryz.func7 cf7 rfl rfl (by simp [closedL, closed_cV]) rfl fun K hK => ?_
  have h29 := c29e f ls h he
  have hKv := hK (.tuple [.nilSl, .int .i64 (errC f ls)]) ⟨[], 1⟩ rfl
  clear hK
  unfold cV at *
  generalize ls.map rowL = rows at *
  generalize errC f ls = e at *
  simp
  refine SC_pure h29 ?_
  simp [he]
  exact endK hKv [] (by simp)

set_option maxRecDepth 100000 in
theorem c8e (f : Int) (ls : List Lt) (h : ls.length ≤ 1000) (he : ¬ errC f ls = 0) : PCall Tryz.prog 8 [cV f ls] (.tuple [.nilSl, .int .i64 (errC f ls)]) := by
  refine PCall_F hm 3 Tryz.func8 cf8 rfl rfl (by simp [closedL, closed_cV]) rfl fun K hK => ?_
  have h7 := c7e f ls h he
  have hKv := hK (.tuple [.nilSl, .int .i64 (errC f ls)]) ⟨[], 1⟩ rfl
  clear hK
  unfold cV at *
  generalize ls.map rowL = rows at *
  generalize errC f ls = e at *
  simp
  refine SC_pure h7 ?_
  simp [he]
  exact endK hKv [] (by simp)

set_option maxRecDepth 100000 in
theorem c10e (f : Int) (ls : List Lt) (h : ls.length ≤ 1000) (he : ¬ errC f ls = 0) : PCall Tryz.prog 10 [cV f ls] (.tuple [.nilSl, .int .i64 (errC f ls)]) := by
  refine PCall_F hm 3 Tryz.func10 cf10 rfl rfl (by simp [closedL, closed_cV]) rfl fun K hK => ?_
  have h30 := c30 f ls h
  have hKv := hK (.tuple [.nilSl, .int .i64 (errC f ls)]) ⟨[], 1⟩ rfl
  clear hK
  unfold cV at *
  generalize ls.map rowL = rows at *
  generalize errC f ls = e at *
  simp
  refine SC_pure h30 ?_
  simp [he]
  exact endK hKv [] (by simp)

set_option maxRecDepth 100000 in
theorem c9e (f : Int) (ls : List Lt) (h : ls.length ≤ 1000) (he : ¬ errC f ls = 0) : PCall Tryz.prog 9 [cV f ls, .agg [.bool false, .bool false, .bool false]] (.tuple [zCode, .int .i64 (errC f ls)]) := by
  refine PCall_F hm 4 Tryz.func9 cf9 rfl rfl (by simp [closedL, closed_cV, AVal.closed, closed_rows]) rfl fun K hK => ?_
  have h30 := c30 f ls h
  have hKv := hK (.tuple [zCode, .int .i64 (errC f ls)]) ⟨[], 1⟩ rfl
  clear hK
  unfold cV at *
  generalize ls.map rowL = rows at *
  generalize errC f ls = e at *
  simp
  refine SC_pure h30 ?_
  simp [he]
  exact endK hKv [] (by simp)

set_option maxRecDepth 100000 in
theorem c54e (f : Int) (ls : List Lt) (h : ls.length ≤ 1000) (he : ¬ errC f ls = 0) : PCall Tryz.prog 54 [cV f ls, .func (.func 55) [] []] (.tuple [zCode, .int .i64 (errC f ls)]) := by
  refine PCall_F hm 4 Tryz.func54 cf54 rfl rfl (by simp [closedL, closed_cV, AVal.closed, closed_rows]) rfl fun K hK => ?_
  have h59 := c59 f ls h
  have hrr : ∀ q, renLL q (ls.map rowL) = ls.map rowL := fun q => renLL_closed q _ (closed_rows ls)
  have hKv := hK (.tuple [zCode, .int .i64 (errC f ls)]) ⟨[], 1⟩ rfl
  clear hK
  unfold cV at *
  generalize ls.map rowL = rows at *
  generalize errC f ls = e at *
  simp
  refine SC_ctr h59 [] (by simp [hrr]) (by simp) (by simp) ?_
  rintro r sm (⟨_, rfl, rfl⟩ | ⟨h0, _⟩ | ⟨h0, _⟩)
  · simp [he]
    exact endK hKv [] (by simp)
  · exact absurd h0 he
  · exact absurd h0 he

set_option maxRecDepth 100000 in
theorem c27e (f : Int) (ls : List Lt) (h : ls.length ≤ 1000) (he : ¬ errC f ls = 0) : PCall Tryz.prog 27 [cV f ls] (.tuple [zCode, .int .i64 (errC f ls)]) := by
  refine PCall_F hm 4 Tryz.func27 cf27 rfl rfl (by simp [closedL, closed_cV]) rfl fun K hK => ?_
  have h54 := c54e f ls h he
  have hKv := hK (.tuple [zCode, .int .i64 (errC f ls)]) ⟨[], 1⟩ rfl
  clear hK
  unfold cV at *
  generalize ls.map rowL = rows at *
  generalize errC f ls = e at *
  simp
  refine SC_pure h54 ?_
  simp [he]
  exact endK hKv [] (by simp)

set_option maxRecDepth 100000 in
theorem c6e (f : Int) (ls : List Lt) (h : ls.length ≤ 1000) (he : ¬ errC f ls = 0) : PCall Tryz.prog 6 [cV f ls] (.tuple [zPic, .int .i64 (errC f ls)]) := by
  refine PCall_F hm 4 Tryz.func6 cf6 rfl rfl (by simp [closedL, closed_cV]) rfl fun K hK => ?_
  have h27 := c27e f ls h he
  have hKv := hK (.tuple [zPic, .int .i64 (errC f ls)]) ⟨[], 1⟩ rfl
  clear hK
  unfold cV at *
  generalize ls.map rowL = rows at *
  generalize errC f ls = e at *
  simp
  refine SC_pure h27 ?_
  simp [he]
  exact endK hKv [] (by simp)

theorem c35z : PCall Tryz.prog 35 [.nilSl, .nilSl] (.bool true) := by
  refine PCall_1 hm Tryz.func35 cf35 rfl rfl rfl trivial fun K hK => ?_
  simp
  refine wZ_loop (α := Unit) (fun _ => [(5, .int .i64 0), (0, .nilSl)]) (fun _ => ⟨[], 1⟩) (fun _ => 0) (fun _ => True) () [] (by simp) trivial ?_
  intro _ _ N hN
  simp
  exact endK hK [] (by simp)

theorem c36z : PCall Tryz.prog 36 [.nilSl, .nilSl] (.bool true) := by
  refine PCall_1 hm Tryz.func36 cf36 rfl rfl rfl trivial fun K hK => ?_
  simp
  refine wZ_loop (α := Unit) (fun _ => [(5, .int .i64 0), (0, .nilSl)]) (fun _ => ⟨[], 1⟩) (fun _ => 0) (fun _ => True) () [] (by simp) trivial ?_
  intro _ _ N hN
  simp
  exact endK hK [] (by simp)

theorem c11z : PCall Tryz.prog 11 [zPic, zPic] (.bool true) := by
  refine PCall_1 hm Tryz.func11 cf11 rfl rfl rfl trivial fun K hK => ?_
  simp
  refine SC_pure c35z ?_
  simp
  refine SC_pure c36z ?_
  simp
  refine SC_pure c36z ?_
  simp
  exact endK hK [] (by simp)

theorem c12z : PCall Tryz.prog 12 [zCode, zCode] (.bool true) := by
  refine PCall_1 hm Tryz.func12 cf12 rfl rfl rfl trivial fun K hK => ?_
  simp
  refine wZ_loop (α := Unit) (fun _ => [(5, .int .i64 0), (2, .ptr 1 0 0)]) (fun _ => ⟨[(1, .cells 2 [[.int .i64 0, .nilSl]])], 2⟩) (fun _ => 0) (fun _ => True) () [] (by simp) trivial ?_
  intro _ _ N hN
  simp
  exact endK hK [] (by simp)

theorem known9 : PCall Tryz.prog 5 [] (.bool true) := mo33

set_option maxRecDepth 100000 in
set_option maxHeartbeats 4000000 in
/-- **The law.** -/
theorem c3 (f : Int) (ls : List Lt) : PCall Tryz.prog 3 [cV f ls] (.bool true) := by
  refine PCall_1 hm Tryz.func3 cf3 rfl rfl (by simp [closedL, closed_cV]) trivial fun K hK => ?_
  have hR := rows_of ls
  have h4 := fun h => c4 f ls h
  have h6 := fun h he => c6e f ls h he
  have h7 := fun h he => c7e f ls h he
  have h8 := fun h he => c8e f ls h he
  have h9 := fun h he => c9e f ls h he
  have h10 := fun h he => c10e f ls h he
  unfold cV at *
  generalize ls.map rowL = rows at *
  have hlen := hR.len
  generalize errC f ls = e at *
  by_cases hl : 40 < ls.length
  · have hl' : (40 : Int) < (ls.length : Int) := by omega
    simp [hlen, hl, hl']
    refine SC_pure known9 ?_
    simp
    exact endK hK [] (by simp)
  have hl' : ¬ (40 : Int) < (ls.length : Int) := by omega
  have hs : ls.length ≤ 1000 := by omega
  simp [hlen, hl, hl']
  refine SC_pure (h4 hs) ?_
  by_cases he : e = 0
  · simp [he]
    refine SC_pure known9 ?_
    simp
    exact endK hK [] (by simp)
  simp [he]
  refine SC_pure (h4 hs) ?_
  simp [he]
  refine SC_pure (h6 hs he) ?_
  simp [he]
  refine SC_pure (h7 hs he) ?_
  simp [he]
  refine SC_pure (h8 hs he) ?_
  simp [he]
  refine SC_pure (h9 hs he) ?_
  simp [he]
  refine SC_pure (h10 hs he) ?_
  have w0 : IntKind.i64.wrap 0 = 0 := by decide
  simp [he]
  refine SC_pure c11z ?_
  simp [he, w0]
  refine SC_pure c12z ?_
  simp [he, w0]
  refine SC_pure known9 ?_
  simp [he, w0]
  exact endK hK [] (by simp)

end Go.Known
end


