/-
  Part 36 of the proof: Pg.
-/
import Derived.Test.YtainmiigjiahfaaGreatDoorA31
import Derived.Test.YtainmiigjiahfaaGreatDoorA35
set_option linter.all false
set_option linter.unusedSimpArgs false
set_option linter.unusedVariables false

/- Pg: Plain laws, part g: crossings that are in order. -/
section
namespace Go.Known
open Go.Plain

theorem fnd_set {id id' : Int} {w : Int × Int} : ∀ {E : List Ent} {p : Nat} {v : Int × Int}, fnd id E = some (p, v) → fnd id' (E.set p (id, w)) = if id' = id then some (p, w) else fnd id' E
  | [], p, v, h => by cases h
  | (k, u) :: r, p, v, h => by
    simp only [fnd] at h
    by_cases hk : id = k
    · rw [if_pos hk] at h
      cases h
      subst hk
      simp only [List.set_cons_zero, fnd]
      split <;> rfl
    · rw [if_neg hk] at h
      cases hr : fnd id r with
      | none => rw [hr] at h; cases h
      | some pu =>
        obtain ⟨q, u'⟩ := pu
        rw [hr] at h
        cases h
        simp only [List.set_cons_succ, fnd]
        rw [fnd_set hr]
        by_cases h1 : id' = k
        · rw [if_pos h1, if_neg (fun e => hk (e.symm.trans h1))]
          simp [h1]
        · rw [if_neg h1]
          by_cases h2 : id' = id
          · rw [if_pos h2, if_pos h2]
          · rw [if_neg h2, if_neg h2, if_neg h1]

theorem fnd_snoc {id id' : Int} {w : Int × Int} : ∀ {E : List Ent}, fnd id E = none → fnd id' (E ++ [(id, w)]) = if id' = id then some (E.length, w) else fnd id' E
  | [], _ => by simp only [List.nil_append, fnd, List.length_nil]
  | (k, u) :: r, h => by
    simp only [fnd] at h
    by_cases hk : id = k
    · rw [if_pos hk] at h; cases h
    · rw [if_neg hk] at h
      have hr : fnd id r = none := by
        cases hr : fnd id r with
        | none => rfl
        | some pu => rw [hr] at h; cases h
      simp only [List.cons_append, fnd]
      rw [fnd_snoc hr]
      by_cases h1 : id' = k
      · rw [if_pos h1, if_neg (fun e => hk (e.symm.trans h1))]
        simp [h1]
      · rw [if_neg h1]
        by_cases h2 : id' = id
        · rw [if_pos h2, if_pos h2]; rfl
        · rw [if_neg h2, if_neg h2, if_neg h1]

def fil (v : Int × Int) : Nat := (if 0 ≤ v.1 then 1 else 0) + (if 0 ≤ v.2 then 1 else 0)
def sumF : List Ent → Nat
  | [] => 0
  | e :: r => fil e.2 + sumF r

theorem fil_le (v : Int × Int) : fil v ≤ 2 := by unfold fil; split <;> split <;> omega

theorem sumF_le : ∀ (E : List Ent), sumF E ≤ 2 * E.length
  | [] => Nat.le_refl _
  | e :: r => by have := sumF_le r; have := fil_le e.2; simp only [sumF, List.length_cons]; omega

theorem sumF_full : ∀ {E : List Ent}, sumF E = 2 * E.length → ∀ e, e ∈ E → fil e.2 = 2
  | [], _, e, h => by simp at h
  | x :: r, hs, e, h => by
    have h1 := sumF_le r
    have h2 := fil_le x.2
    simp only [sumF, List.length_cons] at hs
    rcases List.mem_cons.1 h with rfl | h
    · omega
    · exact sumF_full (by omega) e h

theorem sumF_snoc (x : Ent) : ∀ (E : List Ent), sumF (E ++ [x]) = sumF E + fil x.2
  | [] => by simp [sumF]
  | e :: r => by simp only [List.cons_append, sumF, sumF_snoc x r]; omega

theorem sumF_set {x y : Ent} : ∀ {E : List Ent} {p : Nat}, E[p]? = some x → sumF (E.set p y) + fil x.2 = sumF E + fil y.2
  | [], p, h => by simp at h
  | e :: r, 0, h => by
    simp only [List.getElem?_cons_zero, Option.some.injEq] at h
    subst h
    simp only [List.set_cons_zero, sumF]; omega
  | e :: r, p + 1, h => by
    simp only [List.getElem?_cons_succ] at h
    have := sumF_set (y := y) h
    simp only [List.set_cons_succ, sumF]; omega

theorem slot_put (o o' : Bool) (i : Int) (v : Int × Int) : slotV o' (putV o i v) = if o' = o then i else slotV o' v := by
  cases o <;> cases o' <;> rfl

theorem fil_put {o : Bool} {i : Int} {v : Int × Int} (hi : 0 ≤ i) (hs : slotV o v < 0) : fil (putV o i v) = fil v + 1 := by
  cases o <;> simp only [slotV, Bool.false_eq_true, if_true, if_false] at hs <;> unfold fil putV <;> simp only [Bool.false_eq_true, if_true, if_false]
  · rw [if_pos hi, if_neg (show ¬ 0 ≤ v.1 by omega)]; try omega
  · rw [if_pos hi, if_neg (show ¬ 0 ≤ v.2 by omega)]; try omega

/-- What is known of the crossings of the first letters. -/
structure CrInv (ls : List Lt) (i : Nat) : Prop where
  slot : ∀ id p w, fnd id (crE ls i) = some (p, w) → ∀ o, 0 ≤ slotV o w → ∃ j : Nat, j < i ∧ slotV o w = j ∧ isX (at' ls j) = true ∧ (at' ls j).i = id ∧ (at' ls j).o = o
  visit : ∀ j, j < i → isX (at' ls j) = true → ∃ p w, fnd (at' ls j).i (crE ls i) = some (p, w) ∧ slotV (at' ls j).o w = j
  sign : ∀ id p w, fnd id (crE ls i) = some (p, w) → 0 ≤ w.1 → 0 ≤ w.2 → (at' ls w.1.toNat).s = (at' ls w.2.toNat).s
  sum : sumF (crE ls i) = cntP isX (ls.take i)

theorem crInv {ls : List Lt} {n : Nat} : ∀ i, i ≤ ls.length → crF ls n i = true → CrInv ls i
  | 0, _, _ => ⟨fun id p w h => (by cases h), fun j hj => (by omega), fun id p w h => (by cases h), rfl⟩
  | i + 1, hi, h => by
    simp only [crF, Bool.and_eq_true, Bool.or_eq_true, Bool.not_eq_true', decide_eq_true_eq] at h
    obtain ⟨h1, h2⟩ := h
    obtain ⟨b, c, d, e⟩ := crInv i (by omega) h1
    have htk := cntP_take (p := isX) (ls := ls) (i := i) (by omega)
    by_cases hx : isX (at' ls i) = true
    · have hfit : fitE ls (crE ls i) (at' ls i) = true := by
        rcases h2 with h2 | h2
        · rw [hx] at h2; cases h2
        · exact h2.2
      have hE : crE ls (i + 1) = updE (crE ls i) (at' ls i).i (at' ls i).o i := by simp only [crE, if_pos hx]
      rw [if_pos hx] at htk
      -- what is found behind
      obtain ⟨q, v, hfE, hneg, hsum, hold⟩ : ∃ (q : Nat) (v : Int × Int), (∀ id', fnd id' (crE ls (i + 1)) = if id' = (at' ls i).i then some (q, putV (at' ls i).o i v) else fnd id' (crE ls i)) ∧
          slotV (at' ls i).o v < 0 ∧ sumF (crE ls (i + 1)) = sumF (crE ls i) + 1 ∧
          ((fnd (at' ls i).i (crE ls i) = some (q, v) ∧ (at' ls (slotV (!(at' ls i).o) v).toNat).s = (at' ls i).s) ∨ (fnd (at' ls i).i (crE ls i) = none ∧ v = (-1, -1))) := by
        unfold fitE at hfit
        cases hf : fnd (at' ls i).i (crE ls i) with
        | none =>
          have hE2 : crE ls (i + 1) = crE ls i ++ [((at' ls i).i, putV (at' ls i).o i (-1, -1))] := by rw [hE]; unfold updE; rw [hf]
          refine ⟨(crE ls i).length, (-1, -1), fun id' => by rw [hE2, fnd_snoc hf], by cases (at' ls i).o <;> decide, ?_, .inr ⟨rfl, rfl⟩⟩
          rw [hE2, sumF_snoc, fil_put (by omega) (by cases (at' ls i).o <;> decide)]
          rfl
        | some pv =>
          obtain ⟨q, v⟩ := pv
          rw [hf] at hfit
          simp only [Bool.and_eq_true, decide_eq_true_eq] at hfit
          have hE2 : crE ls (i + 1) = (crE ls i).set q ((at' ls i).i, putV (at' ls i).o i v) := by rw [hE]; unfold updE; rw [hf]
          refine ⟨q, v, fun id' => by rw [hE2, fnd_set hf], hfit.1, ?_, .inl ⟨rfl, hfit.2⟩⟩
          have := sumF_set (y := ((at' ls i).i, putV (at' ls i).o i v)) (fnd_mem hf)
          simp only at this
          rw [fil_put (by omega) hfit.1] at this
          rw [hE2]; omega
      refine ⟨fun id p w hf o ho => ?_, fun j hj hxj => ?_, fun id p w hf hw1 hw2 => ?_, by rw [hsum, e, htk]⟩
      · rw [hfE] at hf
        split at hf
        · rename_i hid
          cases hf
          rw [slot_put] at ho ⊢
          split at ho
          · rename_i heq
            subst heq
            rw [if_pos rfl]
            exact ⟨i, by omega, rfl, hx, hid.symm, rfl⟩
          · rename_i hne
            rw [if_neg hne]
            rcases hold with ⟨hf, _⟩ | ⟨hf, hv⟩
            · obtain ⟨j, j1, j2, j3, j4, j5⟩ := b _ _ _ hf o ho
              exact ⟨j, by omega, j2, j3, j4.trans hid.symm, j5⟩
            · subst hv
              cases o <;> simp [slotV] at ho
        · obtain ⟨j, j1, j2⟩ := b _ _ _ hf o ho
          exact ⟨j, by omega, j2⟩
      · rcases Nat.lt_or_ge j i with h4 | h4
        · obtain ⟨p, w, g1, g2⟩ := c j h4 hxj
          rw [hfE]
          split
          · rename_i hid
            refine ⟨_, _, rfl, ?_⟩
            rcases hold with ⟨hf, _⟩ | ⟨hf, hv⟩
            · rw [hid] at g1
              rw [g1] at hf
              cases hf
              rw [slot_put]
              split
              · rename_i heq
                rw [heq] at g2
                omega
              · exact g2
            · rw [hid, hf] at g1; cases g1
          · exact ⟨p, w, g1, g2⟩
        · have : j = i := by omega
          subst this
          rw [hfE, if_pos rfl]
          exact ⟨_, _, rfl, by rw [slot_put, if_pos rfl]⟩
      · rw [hfE] at hf
        split at hf
        · cases hf
          rcases hold with ⟨hf, hs⟩ | ⟨hf, hv⟩
          · cases ho : (at' ls i).o with
            | true =>
              simp only [ho, putV, slotV, if_true, Bool.not_true, Bool.false_eq_true, if_false] at hs ⊢
              rw [hs, Int.toNat_natCast]
            | false =>
              simp only [ho, putV, slotV, if_true, Bool.not_false, Bool.false_eq_true, if_false] at hs ⊢
              rw [hs, Int.toNat_natCast]
          · subst hv
            cases ho : (at' ls i).o <;> simp [ho, putV] at hw1 hw2
        · exact d _ _ _ hf hw1 hw2
    · have hE : crE ls (i + 1) = crE ls i := by simp only [crE, if_neg hx]
      rw [if_neg hx] at htk
      rw [← hE] at b c d e
      refine ⟨fun id p w hf o ho => ?_, fun j hj hxj => ?_, d, by rw [e, htk]; rfl⟩
      · obtain ⟨j, j1, j2⟩ := b id p w hf o ho
        exact ⟨j, by omega, j2⟩
      · rcases Nat.lt_or_ge j i with h4 | h4
        · exact c j h4 hxj
        · have : j = i := by omega
          subst this
          exact absurd hxj hx

/-- The crossings are in order. -/
def CrOk (ls : List Lt) : Prop := visits ls % 2 = 0 ∧ crF ls (visits ls) ls.length = true ∧ (crE ls ls.length).length = visits ls / 2

theorem otherN_eq {ls : List Lt} {v j : Nat} (h : (j != v && isX (at' ls j) && (at' ls j).i == (at' ls v).i) = true) (hu : ∀ x, (x != v && isX (at' ls x) && (at' ls x).i == (at' ls v).i) = true → x < ls.length → x = j) :
    ∀ k s, s ≤ j → j < s + k → s + k ≤ ls.length → otherN ls v k s = j
  | 0, s, h1, h2, _ => by omega
  | k + 1, s, h1, h2, h3 => by
    simp only [otherN]
    split
    · rename_i hc
      exact hu s hc (by omega)
    · rename_i hc
      have : s ≠ j := fun e => hc (by rw [e]; exact h)
      exact otherN_eq h hu k (s + 1) (by omega) (by omega) (by omega)

/-- The other visit of each crossing. -/
theorem cross_other {ls : List Lt} (h : CrOk ls) {v : Nat} (hv : v < ls.length) (hx : isX (at' ls v) = true) :
    ∃ p w j, fnd (at' ls v).i (crE ls ls.length) = some (p, w) ∧ slotV (at' ls v).o w = v ∧ slotV (!(at' ls v).o) w = (j : Nat) ∧ j < ls.length ∧ j ≠ v ∧ isX (at' ls j) = true ∧ (at' ls j).i = (at' ls v).i ∧ (at' ls j).o = (!(at' ls v).o) ∧ (at' ls j).s = (at' ls v).s ∧
      (∀ x, x < ls.length → isX (at' ls x) = true → (at' ls x).i = (at' ls v).i → x = v ∨ x = j) ∧ otherN ls v ls.length 0 = j := by
  obtain ⟨h1, h2, h3⟩ := h
  obtain ⟨b, c, d, e⟩ := crInv ls.length (Nat.le_refl _) h2
  rw [List.take_length] at e
  have hs : sumF (crE ls ls.length) = 2 * (crE ls ls.length).length := by
    rw [e, h3]
    have : visits ls = cntP isX ls := rfl
    omega
  obtain ⟨p, w, g1, g2⟩ := c v hv hx
  have hf := sumF_full hs _ (List.mem_of_getElem? (fnd_mem g1))
  simp only at hf
  have hw : 0 ≤ w.1 ∧ 0 ≤ w.2 := by
    unfold fil at hf
    split at hf <;> split at hf <;> omega
  have hso : 0 ≤ slotV (!(at' ls v).o) w := by cases (at' ls v).o <;> simp only [slotV, Bool.not_true, Bool.not_false, Bool.false_eq_true, if_true, if_false] <;> omega
  obtain ⟨j, j1, j2, j3, j4, j5⟩ := b _ _ _ g1 _ hso
  have hjv : j ≠ v := by
    intro e1
    subst e1
    cases ho : (at' ls j).o <;> rw [ho] at j5 <;> cases j5
  have huniq : ∀ x, x < ls.length → isX (at' ls x) = true → (at' ls x).i = (at' ls v).i → x = v ∨ x = j := by
    intro x hxl hxx hxi
    obtain ⟨p', w', k1, k2⟩ := c x hxl hxx
    rw [hxi, g1] at k1
    cases k1
    by_cases ho : (at' ls x).o = (at' ls v).o
    · rw [ho, g2] at k2
      exact .inl (by omega)
    · have : (at' ls x).o = !(at' ls v).o := by cases h7 : (at' ls x).o <;> cases h8 : (at' ls v).o <;> rw [h7, h8] at ho <;> simp at ho ⊢
      rw [this, j2] at k2
      exact .inr (by omega)
  have hsg := d _ _ _ g1 hw.1 hw.2
  refine ⟨p, w, j, g1, g2, j2, j1, hjv, j3, j4, j5, ?_, huniq, ?_⟩
  · cases ho : (at' ls v).o <;> rw [ho] at g2 j2 <;> simp only [slotV, Bool.not_true, Bool.not_false, Bool.false_eq_true, if_true, if_false] at g2 j2 <;> rw [g2, j2] at hsg <;> simp only [Int.toNat_natCast] at hsg
    · exact hsg.symm
    · exact hsg
  · refine otherN_eq ?_ ?_ ls.length 0 (Nat.zero_le _) (by omega) (by omega)
    · simp [hjv, j3, j4]
    · intro x hc hxl
      simp only [Bool.and_eq_true, bne_iff_ne, ne_eq, beq_iff_eq] at hc
      exact (huniq x hxl hc.1.2 hc.2).resolve_left hc.1.1

/-- The diagram is filled in. -/
theorem filled_of {F : Nat} {ls : List Lt} (hl : ls.length ≤ 1000) (hL : ls.all (okC F) = true) (h0 : 0 < ls.length) (hp0 : (at' ls 0).k = 1) (hr : rkF ls (passes ls) ls.length = true) (hc : CrOk ls) : Filled ls (crE ls ls.length) := by
  have hG := gated_of hL
  refine ⟨hl, ?_, fun v hv => ?_, fun v hv hk => placeV_eq hG hr hv hk, fun v hv hk => ?_⟩
  · have : 0 ∈ axis ls := mem_axis.2 ⟨h0, by simp [isP, hp0]⟩
    exact List.length_pos_of_mem this
  · exact okC_kind (List.all_eq_true.1 hL _ (at'_mem hv))
  · obtain ⟨p, w, j, g1, g2, g3, g4, _, _, _, _, _, _, g5⟩ := cross_other hc hv (by simp [isX, hk])
    exact ⟨p, w, g1, by rw [g5]; exact g3, by rw [g5]; exact g4⟩

end Go.Known
end


