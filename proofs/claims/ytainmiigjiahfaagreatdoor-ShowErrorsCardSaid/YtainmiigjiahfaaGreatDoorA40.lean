/-
  Part 40 of the proof: Re.
-/
import Derived.Test.YtainmiigjiahfaaGreatDoorA34
import Derived.Test.YtainmiigjiahfaaGreatDoorA39
set_option linter.all false
set_option linter.unusedSimpArgs false
set_option linter.unusedVariables false

/- Re: The program's reading of a code: its faces; and when it is valid. -/
section
namespace Go.Known
open Go Go.AE Go.Proofs
open Go.Plain
attribute [local simp] wZ_skip wZ_region wZ_dregion wZ_seq wZ_condM wZ_block wZ_scope wZ_exit wZ_ret thenS_normal thenS_ret thenS_exit blockS_normal blockS_ret blockS_exit zops_nil' zops_one zops_gd pt_some pt_none ev_tmp ev_const ev_fn wt_some wt_bool wt_undef vo_some wo_some sd_mov sd_pick pk_true pk_false sd_box bx_some sd_alloc sd_build ag_some sd_mkSl mk_some sd_load sd_store sd_nilChk nl_ptr nl_iptr sd_bin sd_un sd_mkFunc sd_mkMap sd_fieldA ad_ptr ad_iptr sd_field fl_agg sd_ext ex_tuple sd_lenSl ln_some sl_nil sl_emp sl_sl sl_imm sd_idxA sd_makeSl sd_append sd_lenMap sd_lookup sd_mapUpd ix_sl ix_imm an_int Env.get argE SMem.at SMem.app SMem.get lookB eraseB AVal.cells AVal.one loadD rowAtD bn_add bn_sub bn_mul bn_quo bn_rem bn_eql bn_neq bn_lss bn_leq bn_gtr bn_geq bb_eql bb_neq unA storeD setRow fillA fillS calleeE aundef xdops_nil' xdops_one xdops_gd kp_nil kp_cons recF memN indF lookF retN oneK yieldE quietO SubR SubRE SubRB InjK InjA qOf lookN AVal.ren renL renLL ABlk.ren renB lessB qKeys

theorem cyc_bound (T : Nat → Nat) (N : Nat) : ∀ (k : Nat) (seen : List Bool), cyc T N k seen ≤ k
  | 0, _ => Nat.le_refl _
  | k + 1, seen => by
    simp only [cyc]
    split
    · have := cyc_bound T N k seen; omega
    · have := cyc_bound T N k (Plain.mark T (N + 1) seen (N - (k + 1))); omega

set_option maxRecDepth 100000 in
set_option maxHeartbeats 4000000 in
/-- As many faces as in the plane. -/
theorem c135 (F : Nat) (ls : List Lt) (E : List Ent) (hg : Filled ls E) (hT : ∀ d, d < 2 * ls.length + 2 * (axis ls).length → turnN ls (axis ls) d < 2 * ls.length + 2 * (axis ls).length) (hE : E.length ≤ 1000) :
    Ctr Tryz.prog 135 [.ptr 1 0 0] (dF F ls (ls.map rowL) E) fun r m => r = .bool (decide (cycles (turnN ls (axis ls)) (2 * ls.length + 2 * (axis ls).length) = (axis ls).length + E.length + 2)) ∧ m = dF F ls (ls.map rowL) E := by
  refine ctr_1 hm Tryz.func135 cf135 rfl rfl fun K hK => ?_
  have hR := rows_of ls
  have h := hg.small
  have h105 := fun d hd => c105 F ls E hg d hd
  unfold dF dM dV2 at *
  have hrr : ∀ q, renLL q (ls.map rowL) = ls.map rowL := fun q => renLL_closed q _ (closed_rows ls)
  generalize ls.map rowL = rows at *
  have hlen := hR.len
  have hm0 := hg.some
  have hml : (axis ls).length ≤ ls.length := by rw [axis_length]; exact cntP_le_one
  generalize hBe : bls (fillN ls.length ls.length (downV ls) false) = B at *
  generalize hCe : nums (fillN ls.length ls.length (placeV ls) 0) = C at *
  generalize hAe : nums (axis ls) = A at *
  have hrA : ∀ q, renLL q A = A := fun q => by rw [← hAe]; exact ren_nums q _
  have hrB : ∀ q, renLL q B = B := fun q => by rw [← hBe]; exact ren_bls q _
  have hrC : ∀ q, renLL q C = C := fun q => by rw [← hCe]; exact ren_nums q _
  generalize (axis ls).length = m at *
  generalize turnN ls (axis ls) = T at *
  obtain ⟨N0, hN0⟩ : ∃ N0, 2 * ls.length + 2 * m = N0 := ⟨_, rfl⟩
  have hw1 : IntKind.i64.wrap (2 * (ls.length : Int)) = 2 * (ls.length : Int) := wrap64 (by omega) (by omega)
  have hw2 : IntKind.i64.wrap (2 * (m : Int)) = 2 * (m : Int) := wrap64 (by omega) (by omega)
  have hw3 : IntKind.i64.wrap (2 * (ls.length : Int) + 2 * (m : Int)) = (N0 : Int) := by rw [wrap64 (by omega) (by omega)]; omega
  have hN1 : N0 ≤ 1048576 := by omega
  have hNr : N0 ≤ 4000 := by omega
  rw [hN0] at hT h105
  simp only [hN0] at hK
  obtain ⟨S0, hS0⟩ : ∃ S0, List.replicate N0 false = S0 := ⟨_, rfl⟩
  have e1 : List.replicate N0 [AVal.bool false] = bls S0 := by rw [← hS0, bls_rep]
  have hS0l : S0.length = N0 := by rw [← hS0]; simp
  simp [room, hlen, hw1, hw2, hw3, hN1, e1]
  -- the darts one after the other
  refine wZ_loop (α := Nat × Nat × List Bool) (fun a => [(25, .int .i64 a.1), (24, .int .i64 N0), (5, .int .i64 a.2.1), (4, .sl 7 0 N0), (0, .ptr 1 0 0)])
    (fun a => ⟨[(1, .cells 7 [[.int .i64 (F : Int), .imm rows, .sl 3 0 ls.length, .sl 5 0 m, .sl 4 0 ls.length, .map 6, .sl 2 0 (F + 1)]]), (2, .cells 1 (nums (cnts F ls))), (3, .cells 1 B), (4, .cells 1 C), (5, .cells 1 A), (6, .map (mkE 0 E) E.length), (7, .cells 1 (bls a.2.2))], 8⟩)
    (fun a => N0 - a.1) (fun a => a.1 ≤ N0 ∧ a.2.2.length = N0 ∧ a.2.1 + cyc T N0 (N0 - a.1) a.2.2 = cycles T N0) (0, 0, S0) [(7, 24)] (by simp [hrr, hrA, hrB, hrC, ren_mkE, ren_nums, ren_bls]) ⟨by simp, hS0l, by simp [cycles, hS0]⟩ ?_
  rintro ⟨d, c, seen⟩ ⟨hd, hs, hcyc⟩ N hN
  simp only at hd hs hcyc hN ⊢
  have hcl : c ≤ N0 := by
    have := cyc_bound T N0 N0 (List.replicate N0 false)
    unfold cycles at hcyc
    omega
  by_cases hlt : d < N0
  · have hwd : IntKind.i64.wrap ((d : Int) + 1) = (d : Int) + 1 := wrap64 (by omega) (by omega)
    have hwc : IntKind.i64.wrap ((c : Int) + 1) = (c : Int) + 1 := wrap64 (by omega) (by omega)
    obtain ⟨b, hb⟩ : ∃ b, seen[d]? = some b := ⟨_, List.getElem?_eq_getElem (by omega)⟩
    have hbg := bls_get hb
    have hbl : (bls seen).length = N0 := by rw [bls, List.length_map, hs]
    cases b with
    | true =>
      rw [cyc_seen hlt hb] at hcyc
      generalize hSe : bls seen = S at *
      obtain ⟨_, hbg2⟩ := getE hbg
      simp [hlt, hbg, hbg2, hbl, hwd]
      exact hN (d + 1, c, seen) [] _ _ (by simp; omega) ⟨by simp; omega, hs, hcyc⟩ (by simp [hrr, hrA, hrB, hrC, ren_mkE, ren_nums, ren_bls, hSe.symm])
    | false =>
      rw [cyc_new hlt hb] at hcyc
      have hbg' := hbg
      generalize hSe : bls seen = S at *
      obtain ⟨_, hbg2⟩ := getE hbg
      simp [hlt, hbg, hbg2, hbl, hwc]
      subst hSe
      -- the walk
      refine wZ_loop (α := Nat × List Bool × Nat) (fun a => [(7, .int .i64 a.1), (5, .int .i64 ((c : Int) + 1)), (25, .int .i64 d), (24, .int .i64 N0), (4, .sl 7 0 N0), (0, .ptr 1 0 0)])
        (fun a => ⟨[(1, .cells 7 [[.int .i64 (F : Int), .imm rows, .sl 3 0 ls.length, .sl 5 0 m, .sl 4 0 ls.length, .map 6, .sl 2 0 (F + 1)]]), (2, .cells 1 (nums (cnts F ls))), (3, .cells 1 B), (4, .cells 1 C), (5, .cells 1 A), (6, .map (mkE 0 E) E.length), (7, .cells 1 (bls a.2.1))], 8⟩)
        (fun a => unseen a.2.1) (fun a => a.1 < N0 ∧ a.2.1.length = N0 ∧ unseen a.2.1 ≤ a.2.2 ∧ Plain.mark T (N0 + 1) seen d = Plain.mark T (a.2.2 + 1) a.2.1 a.1) (d, seen, N0) [] (by simp [hrr, hrA, hrB, hrC, ren_mkE, ren_nums, ren_bls]) ⟨hlt, hs, by have := unseen_le (l := seen); simp; omega, rfl⟩ ?_
      rintro ⟨x, sn, fu⟩ ⟨hx, hsn, hfu, hmark⟩ N2 hN2
      simp only at hx hsn hfu hmark hN2 ⊢
      obtain ⟨b2, hb2⟩ : ∃ b2, sn[x]? = some b2 := ⟨_, List.getElem?_eq_getElem (by omega)⟩
      have hb2g := bls_get hb2
      have hb2l : (bls sn).length = N0 := by rw [bls, List.length_map, hsn]
      cases b2 with
      | true =>
        rw [mark_seen hb2] at hmark
        generalize hSe : bls sn = S at *
        obtain ⟨_, hb2g2⟩ := getE hb2g
        simp [hx, hb2g, hb2g2, hb2l, hwd]
        subst hSe
        refine hN (d + 1, c + 1, sn) [] _ _ (by simp; omega) ⟨by simp; omega, hsn, ?_⟩ (by simp [hrr, hrA, hrB, hrC, ren_mkE, ren_nums, ren_bls])
        simp only
        rw [hmark] at hcyc
        rw [← hcyc, Nat.add_assoc]
      | false =>
        rw [mark_new hb2] at hmark
        have hun := unseen_set hb2
        have hset := bls_set sn x true
        have hTx := hT x hx
        have hsn1 : (sn.set x true).length = N0 := by simpa using hsn
        generalize sn.set x true = sn1 at *
        generalize hSe : bls sn = S at *
        obtain ⟨_, hb2g2⟩ := getE hb2g
        simp [hx, hb2g, hb2g2, hb2l, hset]
        refine SC_ctr (h105 x hx) [] (by simp) (by simp [hrr, hrA, hrB, hrC, ren_mkE, ren_nums, ren_bls]) (by simp) ?_
        rintro r sm ⟨rfl, rfl⟩
        simp [hrr, hrA, hrB, hrC, ren_mkE, ren_nums, ren_bls]
        obtain ⟨fu', hfe⟩ : ∃ fu', fu = fu' + 1 := ⟨fu - 1, by omega⟩
        subst hfe
        exact hN2 (T x, sn1, fu') [] _ _ (by simp; omega) ⟨hTx, hsn1, by simp; omega, hmark⟩ (by simp [hrr, hrA, hrB, hrC, ren_mkE, ren_nums, ren_bls])
  have he : d = N0 := by omega
  subst he
  rw [Nat.sub_self] at hcyc
  simp only [cyc, Nat.add_zero] at hcyc
  have hw4 : IntKind.i64.wrap ((m : Int) + (E.length : Int)) = (m : Int) + (E.length : Int) := wrap64 (by omega) (by omega)
  have hw5 : IntKind.i64.wrap ((m : Int) + (E.length : Int) + 2) = (m : Int) + (E.length : Int) + 2 := wrap64 (by omega) (by omega)
  by_cases hc : c = m + E.length + 2
  · have hc' : (c : Int) = (m : Int) + (E.length : Int) + 2 := by omega
    simp [mkE_length, hw4, hw5, hc']
    refine endK hK [] ?_
    rw [← hcyc]
    simp [hrr, hrA, hrB, hrC, ren_mkE, ren_nums, ren_bls, hc]
  · have hc' : ¬ (c : Int) = (m : Int) + (E.length : Int) + 2 := by omega
    simp [mkE_length, hw4, hw5, hc']
    refine endK hK [] ?_
    rw [← hcyc]
    simp [hrr, hrA, hrB, hrC, ren_mkE, ren_nums, ren_bls, hc]

end Go.Known
end


