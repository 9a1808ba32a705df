/-
  Part 45 of the proof: Ri.
-/
import Derived.Test.YtainmiigjiahfaaGreatDoorA43
import Derived.Test.YtainmiigjiahfaaGreatDoorA44
set_option linter.all false
set_option linter.unusedSimpArgs false
set_option linter.unusedVariables false

/- Ri: The specification's Check: it is the program's. -/
section
namespace Go.Known
open Go Go.AE Go.Proofs
open Go.Plain
attribute [local simp] wZ_skip wZ_region wZ_dregion wZ_seq wZ_condM wZ_block wZ_scope wZ_exit wZ_ret thenS_normal thenS_ret thenS_exit blockS_normal blockS_ret blockS_exit zops_nil' zops_one zops_gd pt_some pt_none ev_tmp ev_const ev_fn wt_some wt_bool wt_undef vo_some wo_some sd_mov sd_pick pk_true pk_false sd_box bx_some sd_alloc sd_build ag_some sd_mkSl mk_some sd_load sd_store sd_nilChk nl_ptr nl_iptr sd_bin sd_un sd_mkFunc sd_mkMap sd_fieldA ad_ptr ad_iptr sd_field fl_agg sd_ext ex_tuple sd_lenSl ln_some sl_nil sl_emp sl_sl sl_imm sd_idxA sd_makeSl sd_append sd_lenMap sd_lookup sd_mapUpd ix_sl ix_imm an_int Env.get argE SMem.at SMem.app SMem.get lookB eraseB AVal.cells AVal.one loadD rowAtD bn_add bn_sub bn_mul bn_quo bn_rem bn_eql bn_neq bn_lss bn_leq bn_gtr bn_geq bb_eql bb_neq unA storeD setRow fillA fillS calleeE aundef xdops_nil' xdops_one xdops_gd kp_nil kp_cons recF memN indF lookF retN oneK yieldE quietO SubR SubRE SubRB InjK InjA qOf lookN AVal.ren renL renLL ABlk.ren footWD footRD blkOf FT.indep apartL apart1 belowL subL in1 sd_idxAA wr_eq

set_option maxRecDepth 100000 in
set_option maxHeartbeats 4000000 in
theorem c4 (f : Int) (ls : List Lt) (h : ls.length ≤ 1000) : PCall Tryz.prog 4 [cV f ls] (.int .i64 (errC f ls)) := by
  refine PCall_1 hm Tryz.func4 cf4 rfl rfl (by simp [closedL, closed_cV]) trivial fun K hK => ?_
  have hR := rows_of ls
  have h13 := c13 f ls h
  have h14 := c14 f ls h
  have h15 := c15 f ls h
  have h16 := c16' f ls h
  have h17 := c17 f ls h
  unfold cV at *
  generalize ls.map rowL = rows at *
  have hlen := hR.len
  have fin : ∀ e : Int, errC f ls = e → ∀ m, SubR 1 [] [(0, .int .i64 e)] ⟨[], 1⟩ [(0, .int .i64 e)] m → EndK 1 K (.int .i64 e) m := fun e he m hs => by rw [he] at hK; exact endK hK [] hs
  clear hK
  have hv : cntP isX ls = visits ls := rfl
  have hp : cntP isP ls = passes ls := rfl
  have hpl : passes ls ≤ ls.length := cntP_le_one
  by_cases hl : 400 < ls.length
  · have hl' : (400 : Int) < (ls.length : Int) := by omega
    simp [hlen, hl, hl']
    exact fin 7 (by unfold errC; rw [if_pos (.inl hl)]) _ (by simp)
  have hl' : ¬ (400 : Int) < (ls.length : Int) := by omega
  simp [hlen, hl, hl']
  refine SC_pure h13 ?_
  rw [hv]
  by_cases hx : 200 < visits ls
  · have hx' : (200 : Int) < (visits ls : Int) := by omega
    simp [hx, hx']
    exact fin 7 (by unfold errC; rw [if_pos (.inr hx)]) _ (by simp)
  have hx' : ¬ (200 : Int) < (visits ls : Int) := by omega
  have h7 : ¬ (400 < ls.length ∨ 200 < visits ls) := by omega
  by_cases hf1 : f < 0
  · simp [hx, hx', hf1]
    exact fin 2 (by unfold errC; rw [if_neg h7, if_pos (.inl hf1)]) _ (by simp)
  by_cases hf2 : 40 < f
  · simp [hx, hx', hf1, hf2]
    exact fin 2 (by unfold errC; rw [if_neg h7, if_pos (.inr hf2)]) _ (by simp)
  have h2 : ¬ (f < 0 ∨ 40 < f) := by omega
  have hF : ((f.toNat : Nat) : Int) = f := by omega
  by_cases h0 : ls = []
  · have hr0 : rows = [] := List.length_eq_zero_iff.1 (by rw [hlen, h0]; rfl)
    subst hr0
    simp [hx, hx', hf1, hf2, hlen, h0]
    exact fin 0 (by unfold errC; rw [if_neg h7, if_neg h2, if_pos (.inl h0)]) _ (by simp)
  have hpos : 0 < ls.length := List.length_pos_iff.2 h0
  have hn0 : ¬ rows = [] := fun e => by rw [e] at hlen; simp at hlen; omega
  have hrow := hR.row 0 hpos
  obtain ⟨_, hrow2⟩ := getE hrow
  have bad : ¬ OkAll f.toNat ls → errC f ls = 3 := fun hb => by unfold errC; rw [if_neg h7, if_neg h2, if_neg (fun hh => hh.elim h0 hb)]
  simp [hx, hx', hf1, hf2, hlen, h0, hn0]
  refine SC_pure h14 ?_
  rw [hp]
  by_cases g1 : ¬ (at' ls 0).k = 1
  · simp [hlen, hpos, hrow, hrow2, rowL, g1]
    exact fin 3 (bad fun hh => g1 hh.2.1) _ (by simp)
  have g1 := Classical.not_not.1 g1
  have htm : (passes ls : Int).tmod 2 = ((passes ls % 2 : Nat) : Int) := rfl
  by_cases g2 : passes ls % 2 = 0
  rotate_left
  · have g2' : passes ls % 2 = 1 := by omega
    simp [-Int.natCast_emod, hlen, hpos, hrow, hrow2, rowL, g1, htm, g2']
    exact fin 3 (bad fun hh => g2 hh.2.2.1) _ (by simp)
  simp [-Int.natCast_emod, hlen, hpos, hrow, hrow2, rowL, g1, htm, g2]
  refine DC_pure h15 ?_
  cases g3 : ls.all (okR f ls) with
  | false =>
    simp
    exact fin 3 (bad fun hh => by
      have := letters_back hh.1 hh.2.2.2.1 hh.2.2.2.2.1
      rw [hF, g3] at this; cases this) _ (by simp)
  | true =>
    have g3F : ls.all (okR (f.toNat : Nat) ls) = true := by rw [hF]; exact g3
    obtain ⟨q1, q2, q3⟩ := letters_to g3F
    have hpp : 0 < passes ls := by
      rw [← axis_length]
      exact List.length_pos_of_mem (mem_axis.2 ⟨hpos, by simp [isP, g1]⟩)
    have hkk : ∀ v, v < ls.length → (at' ls v).k ≠ 2 → (at' ls v).k = 1 := fun v hv h3 => (okC_kind (List.all_eq_true.1 q1 _ (at'_mem hv))).resolve_right h3
    have h16' := h16 hpp hkk
    obtain ⟨cy, hcy⟩ : ∃ cy, cycles (turnN ls (axis ls)) (2 * ls.length + 2 * passes ls) = cy := ⟨_, rfl⟩
    rw [hcy] at h16'
    have hvl : visits ls ≤ ls.length := cntP_le_one
    have hw1 : IntKind.i64.wrap ((passes ls : Int) + (visits ls : Int) / 2) = (passes ls : Int) + (visits ls : Int) / 2 := wrap64 (by omega) (by omega)
    have hw2 : IntKind.i64.wrap ((passes ls : Int) + (visits ls : Int) / 2 + 2) = (passes ls : Int) + (visits ls : Int) / 2 + 2 := wrap64 (by omega) (by omega)
    simp
    refine DC_pure h16' ?_
    simp
    refine DC_pure h17 ?_
    have hiff : cycles (turnN ls (axis ls)) (2 * ls.length + 2 * (axis ls).length) = (axis ls).length + (crE ls ls.length).length + 2 ↔ (cy : Int) = (passes ls : Int) + (visits ls : Int) / 2 + 2 := by
      rw [axis_length, hcy, q3.2.2]
      omega
    by_cases g4 : (cy : Int) = (passes ls : Int) + (visits ls : Int) / 2 + 2
    · simp [hw1, hw2, g4]
      exact fin 0 (by unfold errC; rw [if_neg h7, if_neg h2, if_pos (.inr ⟨q1, g1, g2, q2, q3, hiff.2 g4⟩)]) _ (by simp)
    · simp [hw1, hw2, g4]
      exact fin 3 (bad fun hh => g4 (hiff.1 hh.2.2.2.2.2)) _ (by simp)

end Go.Known
end


