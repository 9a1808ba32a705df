/-
  Part 43 of the proof: Rh.
-/
import Derived.Test.YtainmiigjiahfaaGreatDoorA37
import Derived.Test.YtainmiigjiahfaaGreatDoorA39
import Derived.Test.YtainmiigjiahfaaGreatDoorA42
set_option linter.all false
set_option linter.unusedSimpArgs false
set_option linter.unusedVariables false

/- Rh: The letters of the specification. -/
section
namespace Go.Known
open Go Go.AE Go.Proofs
open Go.Plain
attribute [local simp] wZ_skip wZ_region wZ_dregion wZ_seq wZ_condM wZ_block wZ_scope wZ_exit wZ_ret thenS_normal thenS_ret thenS_exit blockS_normal blockS_ret blockS_exit zops_nil' zops_one zops_gd pt_some pt_none ev_tmp ev_const ev_fn wt_some wt_bool wt_undef vo_some wo_some sd_mov sd_pick pk_true pk_false sd_box bx_some sd_alloc sd_build ag_some sd_mkSl mk_some sd_load sd_store sd_nilChk nl_ptr nl_iptr sd_bin sd_un sd_mkFunc sd_mkMap sd_fieldA ad_ptr ad_iptr sd_field fl_agg sd_ext ex_tuple sd_lenSl ln_some sl_nil sl_emp sl_sl sl_imm sd_idxA sd_makeSl sd_append sd_lenMap sd_lookup sd_mapUpd ix_sl ix_imm an_int Env.get argE SMem.at SMem.app SMem.get lookB eraseB AVal.cells AVal.one loadD rowAtD bn_add bn_sub bn_mul bn_quo bn_rem bn_eql bn_neq bn_lss bn_leq bn_gtr bn_geq bb_eql bb_neq unA storeD setRow fillA fillS calleeE aundef xdops_nil' xdops_one xdops_gd kp_nil kp_cons recF memN indF lookF retN oneK yieldE quietO SubR SubRE SubRB InjK InjA qOf lookN AVal.ren renL renLL ABlk.ren footWD footRD blkOf FT.indep apartL apart1 belowL subL in1 sd_idxAA

/-- The walks of a code whose letters have kinds. -/
theorem c16' (f : Int) (ls : List Lt) (h : ls.length ≤ 1000) (h0 : 0 < passes ls) (hk : ∀ v, v < ls.length → (at' ls v).k ≠ 2 → (at' ls v).k = 1) :
    PCall Tryz.prog 16 [cV f ls] (.imm (List.replicate (cycles (turnN ls (axis ls)) (2 * ls.length + 2 * passes ls)) [AVal.bot])) := by
  have hal := axis_length ls
  have hax : ∀ v, v ∈ axis ls → v < ls.length := fun v hv => (mem_axis.1 hv).1
  have hmm : ∀ v, v < ls.length → (at' ls v).k ≠ 2 → v ∈ axis ls := fun v hv h2 => mem_axis.2 ⟨hv, by simp [isP, hk v hv h2]⟩
  have hpl : passes ls ≤ ls.length := cntP_le_one
  refine c16 f ls _ _ h h0 hal (by omega) (fun d hd => ?_) (fun d hd => ?_)
  · rw [← hal] at hd ⊢
    exact turnN_lt' hax hmm (by omega) hd
  · by_cases hd1 : 2 * ls.length ≤ d
    · exact c40a f ls _ d h (by omega) hd1 (by omega) hax
    · exact c40b f ls _ d h (by omega) hd1 hmm (by omega)

set_option maxRecDepth 100000 in
set_option maxHeartbeats 8000000 in
theorem c15 (f : Int) (ls : List Lt) (h : ls.length ≤ 1000) : PCall Tryz.prog 15 [cV f ls] (.bool (ls.all (okR f ls))) := by
  refine PCall_1 hm Tryz.func15 cf15 rfl rfl (by simp [closedL, closed_cV]) trivial fun K hK => ?_
  have hR := rows_of ls
  have hrr : ∀ q, renLL q (ls.map rowL) = ls.map rowL := fun q => renLL_closed q _ (closed_rows ls)
  have h37 := fun x => c37 f ls x h
  have h38 := fun x => c38 f ls x h
  have h13 := c13 f ls h
  unfold cV at *
  generalize ls.map rowL = rows at *
  have hlen := hR.len
  have hyes : ls.all (okR f ls) = true → ∀ m, SubR 1 [] [(0, .bool true)] ⟨[], 1⟩ [(0, .bool true)] m → EndK 1 K (.bool true) m := fun he m hs => by rw [he] at hK; exact endK hK [] hs
  have hnoA : ls.all (okR f ls) = false → ∀ m, SubR 1 [] [(0, .bool false)] ⟨[], 1⟩ [(0, .bool false)] m → EndK 1 K (.bool false) m := fun he m hs => by rw [he] at hK; exact endK hK [] hs
  clear hK
  simp
  refine wZ_loop (α := Nat) (fun i => [(3, .int .i64 i), (1, .ptr 1 0 0)]) (fun i => ⟨[(1, .cells 2 [[.int .i64 f, .imm rows]])], 2⟩)
    (fun i => ls.length - i) (fun i => i ≤ ls.length ∧ (ls.take i).all (okR f ls) = true) 0 [] (by simp [hrr]) (by simp) ?_
  rintro i ⟨hi, hall⟩ N hN
  try simp only at hi hall hN ⊢
  by_cases hlt : i < ls.length
  · have hrow := hR.row i hlt
    obtain ⟨_, hrow2⟩ := getE hrow
    have hw1 : IntKind.i64.wrap ((i : Int) + 1) = (i : Int) + 1 := wrap64 (by omega) (by omega)
    have hin : at' ls i ∈ ls := at'_mem hlt
    have hnext : ls.take (i + 1) = ls.take i ++ [at' ls i] := by
      rw [List.take_add_one, at', List.getD, List.getElem?_eq_getElem hlt]
      rfl
    generalize at' ls i = l at *
    have hno : okR f ls l = false → ∀ m, SubR 1 [] [(0, .bool false)] ⟨[], 1⟩ [(0, .bool false)] m → EndK 1 K (.bool false) m := fun e => hnoA (by
      rw [List.all_eq_false]
      exact ⟨l, hin, by simp [e]⟩)
    have hok : okR f ls l = true → (ls.take (i + 1)).all (okR f ls) = true := fun e => by
      rw [hnext, List.all_append, hall]; simp [e]
    clear hnoA hnext hyes
    rcases l with ⟨lk, lg, lr, li, lsn, lo⟩
    simp [hlen, hlt, hrow, hrow2, rowL]
    refine wZ_loop (α := Nat) (fun j => [(7, .int .i64 j), (6, .int .i64 (cntP (fun o => o.k == lk && o.i == li && o.s == lsn && o.o != lo) (ls.take j) : Nat)), (5, .int .i64 (cntP (fun o => o.k == lk && o.g == lg && o.r == lr) (ls.take j) : Nat)), (4, .ptr 2 0 0), (3, .int .i64 i), (1, .ptr 1 0 0)])
      (fun j => ⟨[(1, .cells 2 [[.int .i64 f, .imm rows]]), (2, .cells 6 [[.int .i64 lk, .int .i64 lg, .int .i64 lr, .int .i64 li, .int .i64 lsn, .bool lo]])], 3⟩)
      (fun j => ls.length - j) (fun j => j ≤ ls.length) 0 [(2, 12)] (by simp [hrr, cntP]) (by simp) ?_
    intro j hj N2 hN2
    try simp only at hj hN2 ⊢
    by_cases hjl : j < ls.length
    · have hrowj := hR.row j hjl
      obtain ⟨_, hrowj2⟩ := getE hrowj
      have hwj : IntKind.i64.wrap ((j : Int) + 1) = (j : Int) + 1 := wrap64 (by omega) (by omega)
      have hc1 := cntP_take (p := fun o => o.k == lk && o.g == lg && o.r == lr) hjl
      have hc2 := cntP_take (p := fun o => o.k == lk && o.i == li && o.s == lsn && o.o != lo) hjl
      have hl1 := cntP_le (p := fun o => o.k == lk && o.g == lg && o.r == lr) (ls := ls) j
      have hl2 := cntP_le (p := fun o => o.k == lk && o.i == li && o.s == lsn && o.o != lo) (ls := ls) j
      clear hno hok hN
      generalize cntP (fun o => o.k == lk && o.g == lg && o.r == lr) (ls.take j) = c1 at hc1 hl1 ⊢
      generalize cntP (fun o => o.k == lk && o.i == li && o.s == lsn && o.o != lo) (ls.take j) = c2 at hc2 hl2 ⊢
      have hw5 : IntKind.i64.wrap ((c1 : Int) + 1) = (c1 : Int) + 1 := wrap64 (by omega) (by omega)
      have hw6 : IntKind.i64.wrap ((c2 : Int) + 1) = (c2 : Int) + 1 := wrap64 (by omega) (by omega)
      generalize at' ls j = o at *
      rcases o with ⟨ok, og, or, oi, osn, oo⟩
      simp only at hc1 hc2
      by_cases hk : ok = lk
      · by_cases hg : og = lg
        · by_cases hr : or = lr
          · by_cases hii : oi = li
            · by_cases hss : osn = lsn
              · cases oo with
                | true =>
                  cases lo with
                  | true =>
                    simp [hk, hg, hr, hii, hss] at hc1 hc2
                    simp [hlen, hjl, hrowj, hrowj2, rowL, hwj, hw5, hw6, hk, hg, hr, hii, hss]
                    exact hN2 (j + 1) [] _ _ (by omega) (by omega) (by simp [hrr, hc1, hc2])
                  | false =>
                    simp [hk, hg, hr, hii, hss] at hc1 hc2
                    simp [hlen, hjl, hrowj, hrowj2, rowL, hwj, hw5, hw6, hk, hg, hr, hii, hss]
                    exact hN2 (j + 1) [] _ _ (by omega) (by omega) (by simp [hrr, hc1, hc2])
                | false =>
                  cases lo with
                  | true =>
                    simp [hk, hg, hr, hii, hss] at hc1 hc2
                    simp [hlen, hjl, hrowj, hrowj2, rowL, hwj, hw5, hw6, hk, hg, hr, hii, hss]
                    exact hN2 (j + 1) [] _ _ (by omega) (by omega) (by simp [hrr, hc1, hc2])
                  | false =>
                    simp [hk, hg, hr, hii, hss] at hc1 hc2
                    simp [hlen, hjl, hrowj, hrowj2, rowL, hwj, hw5, hw6, hk, hg, hr, hii, hss]
                    exact hN2 (j + 1) [] _ _ (by omega) (by omega) (by simp [hrr, hc1, hc2])
              · simp [hk, hg, hr, hii, hss] at hc1 hc2
                simp [hlen, hjl, hrowj, hrowj2, rowL, hwj, hw5, hw6, hk, hg, hr, hii, hss]
                exact hN2 (j + 1) [] _ _ (by omega) (by omega) (by simp [hrr, hc1, hc2])
            · simp [hk, hg, hr, hii] at hc1 hc2
              simp [hlen, hjl, hrowj, hrowj2, rowL, hwj, hw5, hw6, hk, hg, hr, hii]
              exact hN2 (j + 1) [] _ _ (by omega) (by omega) (by simp [hrr, hc1, hc2])
          · by_cases hii : oi = li
            · by_cases hss : osn = lsn
              · cases oo with
                | true =>
                  cases lo with
                  | true =>
                    simp [hk, hg, hr, hii, hss] at hc1 hc2
                    simp [hlen, hjl, hrowj, hrowj2, rowL, hwj, hw5, hw6, hk, hg, hr, hii, hss]
                    exact hN2 (j + 1) [] _ _ (by omega) (by omega) (by simp [hrr, hc1, hc2])
                  | false =>
                    simp [hk, hg, hr, hii, hss] at hc1 hc2
                    simp [hlen, hjl, hrowj, hrowj2, rowL, hwj, hw5, hw6, hk, hg, hr, hii, hss]
                    exact hN2 (j + 1) [] _ _ (by omega) (by omega) (by simp [hrr, hc1, hc2])
                | false =>
                  cases lo with
                  | true =>
                    simp [hk, hg, hr, hii, hss] at hc1 hc2
                    simp [hlen, hjl, hrowj, hrowj2, rowL, hwj, hw5, hw6, hk, hg, hr, hii, hss]
                    exact hN2 (j + 1) [] _ _ (by omega) (by omega) (by simp [hrr, hc1, hc2])
                  | false =>
                    simp [hk, hg, hr, hii, hss] at hc1 hc2
                    simp [hlen, hjl, hrowj, hrowj2, rowL, hwj, hw5, hw6, hk, hg, hr, hii, hss]
                    exact hN2 (j + 1) [] _ _ (by omega) (by omega) (by simp [hrr, hc1, hc2])
              · simp [hk, hg, hr, hii, hss] at hc1 hc2
                simp [hlen, hjl, hrowj, hrowj2, rowL, hwj, hw5, hw6, hk, hg, hr, hii, hss]
                exact hN2 (j + 1) [] _ _ (by omega) (by omega) (by simp [hrr, hc1, hc2])
            · simp [hk, hg, hr, hii] at hc1 hc2
              simp [hlen, hjl, hrowj, hrowj2, rowL, hwj, hw5, hw6, hk, hg, hr, hii]
              exact hN2 (j + 1) [] _ _ (by omega) (by omega) (by simp [hrr, hc1, hc2])
        · by_cases hii : oi = li
          · by_cases hss : osn = lsn
            · cases oo with
              | true =>
                cases lo with
                | true =>
                  simp [hk, hg, hii, hss] at hc1 hc2
                  simp [hlen, hjl, hrowj, hrowj2, rowL, hwj, hw5, hw6, hk, hg, hii, hss]
                  exact hN2 (j + 1) [] _ _ (by omega) (by omega) (by simp [hrr, hc1, hc2])
                | false =>
                  simp [hk, hg, hii, hss] at hc1 hc2
                  simp [hlen, hjl, hrowj, hrowj2, rowL, hwj, hw5, hw6, hk, hg, hii, hss]
                  exact hN2 (j + 1) [] _ _ (by omega) (by omega) (by simp [hrr, hc1, hc2])
              | false =>
                cases lo with
                | true =>
                  simp [hk, hg, hii, hss] at hc1 hc2
                  simp [hlen, hjl, hrowj, hrowj2, rowL, hwj, hw5, hw6, hk, hg, hii, hss]
                  exact hN2 (j + 1) [] _ _ (by omega) (by omega) (by simp [hrr, hc1, hc2])
                | false =>
                  simp [hk, hg, hii, hss] at hc1 hc2
                  simp [hlen, hjl, hrowj, hrowj2, rowL, hwj, hw5, hw6, hk, hg, hii, hss]
                  exact hN2 (j + 1) [] _ _ (by omega) (by omega) (by simp [hrr, hc1, hc2])
            · simp [hk, hg, hii, hss] at hc1 hc2
              simp [hlen, hjl, hrowj, hrowj2, rowL, hwj, hw5, hw6, hk, hg, hii, hss]
              exact hN2 (j + 1) [] _ _ (by omega) (by omega) (by simp [hrr, hc1, hc2])
          · simp [hk, hg, hii] at hc1 hc2
            simp [hlen, hjl, hrowj, hrowj2, rowL, hwj, hw5, hw6, hk, hg, hii]
            exact hN2 (j + 1) [] _ _ (by omega) (by omega) (by simp [hrr, hc1, hc2])
      · simp [hk] at hc1 hc2
        simp [hlen, hjl, hrowj, hrowj2, rowL, hwj, hw5, hw6, hk]
        exact hN2 (j + 1) [] _ _ (by omega) (by omega) (by simp [hrr, hc1, hc2])
    have he : j = ls.length := by omega
    subst he
    clear hN2
    rw [List.take_length]
    have hC1 : cntP (fun o => o.k == lk && o.g == lg && o.r == lr) ls = same ⟨lk, lg, lr, li, lsn, lo⟩ ls := rfl
    have hC2 : cntP (fun o => o.k == lk && o.i == li && o.s == lsn && o.o != lo) ls = pairs ⟨lk, lg, lr, li, lsn, lo⟩ ls := rfl
    rw [hC1, hC2]
    clear hC1 hC2
    by_cases hk1 : lk = 1
    · subst hk1
      by_cases g1 : ¬ li = 0
      · simp [hlen, g1]; exact hno (by simp [okR, g1]) _ (by simp)
      have g1 := Classical.not_not.1 g1
      subst g1
      by_cases g2 : ¬ lsn = 0
      · simp [hlen, g2]; exact hno (by simp [okR, g2]) _ (by simp)
      have g2 := Classical.not_not.1 g2
      subst g2
      cases lo with
      | true => simp [hlen]; exact hno (by simp [okR]) _ (by simp)
      | false =>
        by_cases g4 : lg < 0
        · have g4' : ¬ 0 ≤ lg := by omega
          simp [hlen, g4, g4']; exact hno (by simp [okR, g4, g4']) _ (by simp)
        have g4' : 0 ≤ lg := by omega
        by_cases g5 : f < lg
        · have g5' : ¬ lg ≤ f := by omega
          simp [hlen, g4, g4', g5, g5']; exact hno (by simp [okR, g4, g4', g5, g5']) _ (by simp)
        have g5' : lg ≤ f := by omega
        by_cases g6 : lr < 1
        · have g6' : ¬ 1 ≤ lr := by omega
          simp [hlen, g4, g4', g5, g5', g6, g6']; exact hno (by simp [okR, g4, g4', g5, g5', g6, g6']) _ (by simp)
        have g6' : 1 ≤ lr := by omega
        simp [hlen, g4, g5, g6]
        refine DC_pure (h37 lg) ?_
        have hIn : cntP (fun l => isP l && l.g == lg) ls = inG lg ls := rfl
        rw [hIn]
        by_cases g7 : ((inG lg ls : Nat) : Int) < lr
        · have g7' : ¬ lr ≤ ((inG lg ls : Nat) : Int) := by omega
          simp [hlen, g4, g4', g5, g5', g6, g6', g7, g7']; exact hno (by simp [okR, g4, g4', g5, g5', g6, g6', g7, g7']) _ (by simp)
        have g7' : lr ≤ ((inG lg ls : Nat) : Int) := by omega
        generalize hsm : same ⟨1, lg, lr, 0, 0, false⟩ ls = sm at *
        by_cases g8 : sm = 1
        · have g8' : (sm : Int) = 1 := by omega
          simp [hlen, g4, g5, g6, g7, g8, g8', hw1]
          exact hN (i + 1) [] _ _ (by omega) ⟨by omega, hok (by simp [okR, g4', g5', g6', g7', hsm, g8])⟩ (by simp [hrr])
        · have g8' : ¬ (sm : Int) = 1 := by omega
          simp [hlen, g4, g5, g6, g7, g8, g8']
          exact hno (by simp [okR, g4', g5', g6', g7', hsm, g8]) _ (by simp)
    by_cases hk2 : lk = 2
    · subst hk2
      by_cases g1 : ¬ lg = 0
      · simp [hlen, g1]; exact hno (by simp [okR, g1]) _ (by simp)
      have g1 := Classical.not_not.1 g1
      subst g1
      by_cases g2 : ¬ lr = 0
      · simp [hlen, g2]; exact hno (by simp [okR, g2]) _ (by simp)
      have g2 := Classical.not_not.1 g2
      subst g2
      by_cases g3 : ¬ lsn = 1 ∧ ¬ lsn = -1
      · obtain ⟨g3a, g3b⟩ := g3
        simp [hlen, g3a, g3b]; exact hno (by simp [okR, g3a, g3b]) _ (by simp)
      have g3' : lsn = 1 ∨ lsn = -1 := by omega
      have hvl : visits ls ≤ ls.length := cntP_le_one
      have hwq : IntKind.i64.wrap ((visits ls : Int) / 2) = (visits ls : Int) / 2 := wrap64 (by omega) (by omega)
      have hve : cntP isX ls = visits ls := rfl
      have hte : cntP (fun l => isX l && l.i == li) ls = times li ls := rfl
      rcases g3' with g3' | g3'
      · subst g3'
        by_cases g4 : li < 1
        · have g4' : ¬ 1 ≤ li := by omega
          simp [hlen, g4, g4']; exact hno (by simp [okR, g4, g4']) _ (by simp)
        have g4' : 1 ≤ li := by omega
        simp [hlen, g4]
        refine DC_pure h13 ?_
        rw [hve]
        by_cases g5 : (visits ls : Int) / 2 < li
        · have g5' : ¬ li ≤ (visits ls : Int) / 2 := by omega
          simp [hlen, g4, hwq, g5]
          exact hno (by simp [okR, g4', g5']) _ (by simp)
        have g5' : li ≤ (visits ls : Int) / 2 := by omega
        generalize hpr : pairs ⟨2, 0, 0, li, 1, lo⟩ ls = pr at *
        by_cases g6 : pr = 1
        rotate_left
        · have g6' : ¬ (pr : Int) = 1 := by omega
          simp [hlen, g4, hwq, g5, g6, g6']
          exact hno (by simp [okR, hpr, g4', g5', g6]) _ (by simp)
        have g6' : (pr : Int) = 1 := by omega
        simp [hlen, g4, hwq, g5, g6, g6']
        refine DC_pure (h38 li) ?_
        rw [hte]
        by_cases g7 : times li ls = 2
        · have g7' : ((times li ls : Nat) : Int) = 2 := by omega
          simp [hlen, g4, hwq, g5, g6, g6', g7, g7', hw1]
          exact hN (i + 1) [] _ _ (by omega) ⟨by omega, hok (by simp [okR, hpr, g4', g5', g6, g7])⟩ (by simp [hrr])
        · have g7' : ¬ ((times li ls : Nat) : Int) = 2 := by omega
          simp [hlen, g4, hwq, g5, g6, g6', g7, g7']
          exact hno (by simp [okR, hpr, g4', g5', g6, g7]) _ (by simp)
      · subst g3'
        by_cases g4 : li < 1
        · have g4' : ¬ 1 ≤ li := by omega
          simp [hlen, g4, g4']; exact hno (by simp [okR, g4, g4']) _ (by simp)
        have g4' : 1 ≤ li := by omega
        simp [hlen, g4]
        refine DC_pure h13 ?_
        rw [hve]
        by_cases g5 : (visits ls : Int) / 2 < li
        · have g5' : ¬ li ≤ (visits ls : Int) / 2 := by omega
          simp [hlen, g4, hwq, g5]
          exact hno (by simp [okR, g4', g5']) _ (by simp)
        have g5' : li ≤ (visits ls : Int) / 2 := by omega
        generalize hpr : pairs ⟨2, 0, 0, li, -1, lo⟩ ls = pr at *
        by_cases g6 : pr = 1
        rotate_left
        · have g6' : ¬ (pr : Int) = 1 := by omega
          simp [hlen, g4, hwq, g5, g6, g6']
          exact hno (by simp [okR, hpr, g4', g5', g6]) _ (by simp)
        have g6' : (pr : Int) = 1 := by omega
        simp [hlen, g4, hwq, g5, g6, g6']
        refine DC_pure (h38 li) ?_
        rw [hte]
        by_cases g7 : times li ls = 2
        · have g7' : ((times li ls : Nat) : Int) = 2 := by omega
          simp [hlen, g4, hwq, g5, g6, g6', g7, g7', hw1]
          exact hN (i + 1) [] _ _ (by omega) ⟨by omega, hok (by simp [okR, hpr, g4', g5', g6, g7])⟩ (by simp [hrr])
        · have g7' : ¬ ((times li ls : Nat) : Int) = 2 := by omega
          simp [hlen, g4, hwq, g5, g6, g6', g7, g7']
          exact hno (by simp [okR, hpr, g4', g5', g6, g7]) _ (by simp)
    · simp [hlen, hk1, hk2]; exact hno (by simp [okR, hk1, hk2]) _ (by simp)
  have he : i = ls.length := by omega
  subst he
  rw [List.take_length] at hall
  simp [hlen]
  exact hyes hall _ (by simp)

end Go.Known
end


