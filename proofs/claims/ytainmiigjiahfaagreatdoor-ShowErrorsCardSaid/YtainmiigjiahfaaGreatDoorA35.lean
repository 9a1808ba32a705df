/-
  Part 35 of the proof: Pf.
-/
import Derived.Test.YtainmiigjiahfaaGreatDoorA34
set_option linter.all false
set_option linter.unusedSimpArgs false
set_option linter.unusedVariables false

/- Pf: Plain laws, part f: the diagram of a code whose ranks and crossings are in order. -/
section
namespace Go.Known
open Go.Plain

theorem alongN_lt' {n i : Nat} {fw : Bool} (h : i < n) : alongN n i fw < 2 * n := by
  unfold alongN
  have := Nat.mod_lt (i + n - 1) (show 0 < n by omega)
  split <;> omega

theorem otherN_lt' {ls : List Lt} {v : Nat} (hv : v < ls.length) : ∀ k j, j + k ≤ ls.length → otherN ls v k j < ls.length
  | 0, j, _ => hv
  | k + 1, j, hj => by
    simp only [otherN]
    split
    · omega
    · exact otherN_lt' hv k (j + 1) (by omega)

theorem idxN_lt' {x : Nat} {l : List Nat} (h : x ∈ l) : idxN x l < l.length := (List.getElem?_eq_some_iff.1 (idxN_spec h).1).1

theorem turnN_lt' {ls : List Lt} {ax : List Nat} {d : Nat} (hax : ∀ v, v ∈ ax → v < ls.length) (hm : ∀ v, v < ls.length → (at' ls v).k ≠ 2 → v ∈ ax) (h0 : 0 < ax.length) (hd : d < 2 * ls.length + 2 * ax.length) :
    turnN ls ax d < 2 * ls.length + 2 * ax.length := by
  have hget : ∀ j, j < ax.length → ax.getD j 0 < ls.length := fun j hj => by
    rw [List.getD, List.getElem?_eq_getElem hj]
    exact hax _ (List.getElem_mem hj)
  have hmod := fun x => Nat.mod_lt x h0
  unfold turnN
  split
  · split
    · exact Nat.lt_of_lt_of_le (alongN_lt' (hget _ (hmod _))) (by omega)
    · exact Nat.lt_of_lt_of_le (alongN_lt' (hget _ (by omega))) (by omega)
  · rename_i hlt
    have hv : (if d % 2 = 0 then (d / 2 + 1) % ls.length else d / 2) < ls.length := by
      split
      · exact Nat.mod_lt _ (by omega)
      · omega
    simp only
    generalize (if d % 2 = 0 then (d / 2 + 1) % ls.length else d / 2) = v at hv
    split
    · exact Nat.lt_of_lt_of_le (alongN_lt' (otherN_lt' hv ls.length 0 (by omega))) (by omega)
    · rename_i hk
      have h1 := idxN_lt' (hm v hv hk)
      split
      · omega
      · have := hmod (idxN v ax + ax.length - 1)
        omega

theorem okC_kind {f : Int} {l : Lt} (h : okC f l = true) : l.k = 1 ∨ l.k = 2 := by
  unfold okC at h
  split at h
  · exact .inl ‹_›
  · split at h
    · exact .inr ‹_›
    · cases h

theorem gated_of {F : Nat} {ls : List Lt} (h : ls.all (okC F) = true) : Gated F ls := by
  intro l hl hp
  have := List.all_eq_true.1 h l hl
  simp only [isP, beq_iff_eq] at hp
  unfold okC at this
  rw [if_pos hp] at this
  simp at this
  omega

/-! The passes. -/

theorem takenF_spec {ls : List Lt} {m : Nat} : ∀ (i p : Nat), p < m → ∃ b, (takenF ls m i)[p]? = some b ∧ (b = true ↔ ∃ j, j < i ∧ isP (at' ls j) = true ∧ pos ls (at' ls j) = p)
  | 0, p, hp => ⟨false, by simp [takenF, List.getElem?_replicate, hp], by simp⟩
  | i + 1, p, hp => by
    obtain ⟨b, hb, hiff⟩ := takenF_spec (ls := ls) (m := m) i p hp
    simp only [takenF]
    by_cases hpi : isP (at' ls i) = true
    · rw [if_pos hpi, List.getElem?_set, takenF_length]
      by_cases hq : pos ls (at' ls i) = p
      · exact ⟨true, by rw [if_pos hq, if_pos (by omega)], by simp only [true_iff]; exact ⟨i, by omega, hpi, hq⟩⟩
      · refine ⟨b, by rw [if_neg hq]; exact hb, hiff.trans ⟨fun ⟨j, h1, h2, h3⟩ => ⟨j, by omega, h2, h3⟩, fun ⟨j, h1, h2, h3⟩ => ?_⟩⟩
        rcases Nat.lt_or_ge j i with h4 | h4
        · exact ⟨j, h4, h2, h3⟩
        · have : j = i := by omega
          subst this
          exact absurd h3 hq
    · rw [if_neg hpi]
      refine ⟨b, hb, hiff.trans ⟨fun ⟨j, h1, h2, h3⟩ => ⟨j, by omega, h2, h3⟩, fun ⟨j, h1, h2, h3⟩ => ?_⟩⟩
      rcases Nat.lt_or_ge j i with h4 | h4
      · exact ⟨j, h4, h2, h3⟩
      · have : j = i := by omega
        subst this
        exact absurd h2 hpi

theorem rkF_spec {F : Nat} {ls : List Lt} (hG : Gated F ls) : ∀ i, i ≤ ls.length → rkF ls (passes ls) i = true →
    (∀ j, j < i → isP (at' ls j) = true → 1 ≤ (at' ls j).r ∧ (at' ls j).r ≤ (inG (at' ls j).g ls : Nat)) ∧
    (∀ j k, j < k → k < i → isP (at' ls j) = true → isP (at' ls k) = true → pos ls (at' ls j) ≠ pos ls (at' ls k))
  | 0, _, _ => ⟨fun j hj => by omega, fun j k _ hk => by omega⟩
  | i + 1, hi, h => by
    simp only [rkF, Bool.and_eq_true, Bool.or_eq_true, Bool.not_eq_true', decide_eq_true_eq] at h
    obtain ⟨h1, h2⟩ := h
    obtain ⟨a1, a2⟩ := rkF_spec hG i (by omega) h1
    refine ⟨fun j hj hp => ?_, fun j k hjk hk hpj hpk => ?_⟩
    · rcases Nat.lt_or_ge j i with h4 | h4
      · exact a1 j h4 hp
      · have : j = i := by omega
        subst this
        rcases h2 with h2 | h2
        · rw [hp] at h2; cases h2
        · exact h2.1
    · rcases Nat.lt_or_ge k i with h4 | h4
      · exact a2 j k hjk h4 hpj hpk
      · have : k = i := by omega
        subst this
        rcases h2 with h2 | h2
        · rw [hpk] at h2; cases h2
        · have hpos := pos_lt hG (at'_mem (by omega)) hpk h2.1.1 h2.1.2
          obtain ⟨b, hb, hiff⟩ := takenF_spec (ls := ls) (m := passes ls) k (pos ls (at' ls k)) hpos
          have hbf : b = false := by
            have := h2.2
            rw [List.getD, hb] at this
            exact this
          subst hbf
          intro he
          have := hiff.2 ⟨j, hjk, hpj, he⟩
          cases this

theorem ranked_of {F : Nat} {ls : List Lt} (hG : Gated F ls) (h : rkF ls (passes ls) ls.length = true) : Ranked ls ∧ Apart ls := by
  obtain ⟨a1, a2⟩ := rkF_spec hG ls.length (Nat.le_refl _) h
  refine ⟨fun l hl hp => ?_, fun i j hi hj hpi hpj hg hr => ?_⟩
  · obtain ⟨j, hj, he⟩ := List.getElem_of_mem hl
    have : at' ls j = l := by rw [at', List.getD, List.getElem?_eq_getElem hj, he]; rfl
    subst this
    exact a1 j hj hp
  · have hpe : pos ls (at' ls i) = pos ls (at' ls j) := by unfold pos; rw [hg, hr]
    rcases Nat.lt_trichotomy i j with h1 | h1 | h1
    · exact absurd hpe (a2 i j h1 hj hpi hpj)
    · exact h1
    · exact absurd hpe.symm (a2 j i h1 hi hpj hpi)

theorem axis_nodup (ls : List Lt) : (axis ls).Nodup := by
  rw [axis, (axisN_perm ls ls.length).nodup_iff]
  exact List.nodup_range.filter _

theorem nodup_idx {l : List Nat} (h : l.Nodup) {i j x : Nat} (hi : l[i]? = some x) (hj : l[j]? = some x) : i = j := by
  obtain ⟨h1, h2⟩ := List.getElem?_eq_some_iff.1 hi
  obtain ⟨h3, h4⟩ := List.getElem?_eq_some_iff.1 hj
  exact (List.getElem_inj h).1 (h2.trans h4.symm)

theorem axisF_at {F : Nat} {ls : List Lt} (hG : Gated F ls) (h : rkF ls (passes ls) ls.length = true) : ∀ i, i ≤ ls.length → ∀ j, j < i → isP (at' ls j) = true → (axisF ls (passes ls) i)[pos ls (at' ls j)]? = some j
  | 0, _, j, hj, _ => by omega
  | i + 1, hi, j, hj, hp => by
    obtain ⟨a1, a2⟩ := rkF_spec hG ls.length (Nat.le_refl _) h
    simp only [axisF]
    by_cases hpi : isP (at' ls i) = true
    · rw [if_pos hpi, List.getElem?_set, axisF_length]
      obtain ⟨r1, r2⟩ := a1 i (by omega) hpi
      have hpos := pos_lt hG (at'_mem (show i < ls.length by omega)) hpi r1 r2
      rcases Nat.lt_or_ge j i with h4 | h4
      · rw [if_neg (fun e => a2 j i h4 (by omega) hp hpi e.symm)]
        exact axisF_at hG h i (by omega) j h4 hp
      · have : j = i := by omega
        subst this
        rw [if_pos rfl, if_pos hpos]
    · rw [if_neg hpi]
      rcases Nat.lt_or_ge j i with h4 | h4
      · exact axisF_at hG h i (by omega) j h4 hp
      · have : j = i := by omega
        subst this
        exact absurd hp hpi

theorem axisF_eq {F : Nat} {ls : List Lt} (hG : Gated F ls) (h : rkF ls (passes ls) ls.length = true) : axisF ls (passes ls) ls.length = axis ls := by
  obtain ⟨hr, ha⟩ := ranked_of hG h
  apply List.ext_getElem?
  intro p
  rcases Nat.lt_or_ge p (passes ls) with hp | hp
  · obtain ⟨j, hj⟩ : ∃ j, (axis ls)[p]? = some j := ⟨_, List.getElem?_eq_getElem (by rw [axis_length]; exact hp)⟩
    obtain ⟨h1, h2⟩ := mem_axis.1 (List.mem_of_getElem? hj)
    have h3 := axis_at ha hr h1 h2
    have h4 := nodup_idx (axis_nodup ls) hj h3
    subst h4
    rw [hj]
    exact axisF_at hG h _ (Nat.le_refl _) j h1 h2
  · rw [List.getElem?_eq_none (by rw [axisF_length]; exact hp), List.getElem?_eq_none (by rw [axis_length]; exact hp)]

theorem placeV_eq {F : Nat} {ls : List Lt} (hG : Gated F ls) (h : rkF ls (passes ls) ls.length = true) {v : Nat} (hv : v < ls.length) (hk : (at' ls v).k = 1) : placeV ls v = idxN v (axis ls) ∧ idxN v (axis ls) < (axis ls).length := by
  obtain ⟨hr, ha⟩ := ranked_of hG h
  have hp : isP (at' ls v) = true := by simp [isP, hk]
  have h1 := axis_at ha hr hv hp
  have hm : v ∈ axis ls := mem_axis.2 ⟨hv, hp⟩
  refine ⟨?_, idxN_lt' hm⟩
  unfold placeV
  rw [if_pos hp]
  exact nodup_idx (axis_nodup ls) h1 (idxN_spec hm).1

end Go.Known
end


