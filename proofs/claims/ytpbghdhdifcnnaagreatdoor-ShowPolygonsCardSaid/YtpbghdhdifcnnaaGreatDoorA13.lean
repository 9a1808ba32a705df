/- Part 13 of the proof: AeNa. -/
import Derived.Test.YtpbghdhdifcnnaaGreatDoorA12
set_option linter.all false
namespace Go.AE
open Go.RowKit
mutual
def AVal.ren (p : Nat → Nat) : AVal → AVal
  | .ptr b i j => .ptr (p b) i j
  | .iptr els i j => .iptr (renLL p els) i j
  | .sl b off len => .sl (p b) off len
  | .imm els => .imm (renLL p els)
  | .map b => .map (p b)
  | .func fn f c => .func fn (renL p f) (renL p c)
  | .yld b => .yld (p b)
  | .iface t v => .iface t (v.ren p)
  | .agg cs => .agg (renL p cs)
  | .tuple cs => .tuple (renL p cs)
  | .bool b => .bool b
  | .int k n => .int k n
  | .str s => .str s
  | .nilPtr => .nilPtr
  | .nilSl => .nilSl
  | .emp => .emp
  | .nilMap => .nilMap
  | .nilFunc => .nilFunc
  | .atLeast n => .atLeast n
  | .nilIface => .nilIface
  | .bot => .bot
def renL (p : Nat → Nat) : List AVal → List AVal
  | [] => []
  | x :: r => x.ren p :: renL p r
def renLL (p : Nat → Nat) : List (List AVal) → List (List AVal)
  | [] => []
  | x :: r => renL p x :: renLL p r
end
theorem renL_map (p : Nat → Nat) : ∀ (l : List AVal), renL p l = l.map (·.ren p)
  | [] => rfl
  | x :: r => by simp only [renL, List.map_cons, renL_map p r]
theorem renLL_map (p : Nat → Nat) : ∀ (l : List (List AVal)), renLL p l = l.map (renL p)
  | [] => rfl
  | x :: r => by simp only [renLL, List.map_cons, renLL_map p r]
theorem renL_length (p : Nat → Nat) (l : List AVal) : (renL p l).length = l.length := by rw [renL_map, List.length_map]
theorem renLL_length (p : Nat → Nat) (l : List (List AVal)) : (renLL p l).length = l.length := by rw [renLL_map, List.length_map]
theorem renL_get {p : Nat → Nat} {l : List AVal} {i : Nat} {y : AVal} : (renL p l)[i]? = some y ↔ ∃ x, l[i]? = some x ∧ y = x.ren p := by
  rw [renL_map, List.getElem?_map]
  cases l[i]? with
  | none => simp
  | some x => simp [eq_comm]
theorem renLL_get {p : Nat → Nat} {l : List (List AVal)} {i : Nat} {y : List AVal} : (renLL p l)[i]? = some y ↔ ∃ x, l[i]? = some x ∧ y = renL p x := by
  rw [renLL_map, List.getElem?_map]
  cases l[i]? with
  | none => simp
  | some x => simp [eq_comm]
mutual
theorem AVal.ren_closed (p : Nat → Nat) : ∀ (x : AVal), x.closed = true → x.ren p = x
  | .bool _, _ | .int _ _, _ | .str _, _ | .nilPtr, _ | .nilSl, _ | .emp, _ | .nilMap, _ | .nilFunc, _ | .nilIface, _ | .bot, _ => rfl
  | .imm els, h => by rw [AVal.ren, renLL_closed p els h]
  | .agg cs, h => by rw [AVal.ren, renL_closed p cs h]
  | .tuple cs, h => by rw [AVal.ren, renL_closed p cs h]
  | .func _ a b, h => by
    simp only [AVal.closed, Bool.and_eq_true] at h
    rw [AVal.ren, renL_closed p a h.1, renL_closed p b h.2]
  | .iptr els _ _, h => by rw [AVal.ren, renLL_closed p els h]
  | .ptr .., h | .sl .., h | .map .., h | .yld .., h | .atLeast .., h | .iface .., h => by cases h
theorem renL_closed (p : Nat → Nat) : ∀ (l : List AVal), closedL l = true → renL p l = l
  | [], _ => rfl
  | x :: r, h => by
    simp only [closedL, Bool.and_eq_true] at h
    rw [renL, AVal.ren_closed p x h.1, renL_closed p r h.2]
theorem renLL_closed (p : Nat → Nat) : ∀ (l : List (List AVal)), closedLL l = true → renLL p l = l
  | [], _ => rfl
  | x :: r, h => by
    simp only [closedLL, Bool.and_eq_true] at h
    rw [renLL, renL_closed p x h.1, renLL_closed p r h.2]
end
theorem R.ren {Φ : Pers} {ρ ρ' : Rho} {p : Nat → Nat} (hp : ∀ b l, ρ b = some l → ρ' (p b) = some l) {x : AVal} {v : Value} (h : R Φ ρ x v) : R Φ ρ' (x.ren p) v := by
  induction h with
  | bool b => exact .bool b
  | int k n => exact .int k n
  | str s => exact .str s
  | ptr b i j l h => exact .ptr _ i j l (hp _ _ h)
  | iptr els i j B o k c f hB hk hc _ ih =>
    refine .iptr _ i j B o k c f hB (fun i row hi => ?_) (fun i row j x hi hj => ?_) (fun i row j x hi hj => ?_)
    · obtain ⟨r0, h1, rfl⟩ := renLL_get.1 hi
      rw [renL_length]; exact hk i r0 h1
    · obtain ⟨r0, h1, rfl⟩ := renLL_get.1 hi
      obtain ⟨x0, h2, rfl⟩ := renL_get.1 hj
      exact hc i r0 j x0 h1 h2
    · obtain ⟨r0, h1, rfl⟩ := renLL_get.1 hi
      obtain ⟨x0, h2, rfl⟩ := renL_get.1 hj
      exact ih i r0 j x0 h1 h2
  | nilPtr => exact .nilPtr
  | nilSl => exact .nilSl
  | emp a => exact .emp a
  | sl b off len a cap l h hl hn hc ha => exact .sl _ off len a cap l (hp _ _ h) hl hn hc ha
  | imm0 a cap => exact .imm0 a cap
  | imm els B o k cap c f hne hcap hB hk hc _ ih =>
    have e := renLL_length p els
    rw [← e]
    refine .imm _ B o k cap c f (fun h0 => hne ?_) (by rw [e]; exact hcap) hB (fun i row hi => ?_) (fun i row j x hi hj => ?_) (fun i row j x hi hj => ?_)
    · rw [h0] at e
      exact List.length_eq_zero_iff.1 e.symm
    · obtain ⟨r0, h1, rfl⟩ := renLL_get.1 hi
      rw [renL_length]; exact hk i r0 h1
    · obtain ⟨r0, h1, rfl⟩ := renLL_get.1 hi
      obtain ⟨x0, h2, rfl⟩ := renL_get.1 hj
      exact hc i r0 j x0 h1 h2
    · obtain ⟨r0, h1, rfl⟩ := renLL_get.1 hi
      obtain ⟨x0, h2, rfl⟩ := renL_get.1 hj
      exact ih i r0 j x0 h1 h2
  | map b l h => exact .map _ l (hp _ _ h)
  | nilMap => exact .nilMap
  | func fn fs cs vf vc hf hc _ _ ih1 ih2 =>
    refine .func fn _ _ vf vc (by rw [renL_length]; exact hf) (by rw [renL_length]; exact hc) (fun i x v hx hv => ?_) (fun i x v hx hv => ?_)
    · obtain ⟨x0, h2, rfl⟩ := renL_get.1 hx
      exact ih1 i x0 v h2 hv
    · obtain ⟨x0, h2, rfl⟩ := renL_get.1 hx
      exact ih2 i x0 v h2 hv
  | nilFunc => exact .nilFunc
  | yld b l h => exact .yld _ l (hp _ _ h)
  | atLeast n c h => exact .atLeast n c h
  | iface t x v _ ih => exact .iface t _ v ih
  | nilIface => exact .nilIface
  | agg cs vs hs _ ih =>
    refine .agg _ vs (by rw [renL_length]; exact hs) (fun i x v hx hv => ?_)
    obtain ⟨x0, h2, rfl⟩ := renL_get.1 hx
    exact ih i x0 v h2 hv
  | tuple cs vs hs _ ih =>
    refine .tuple _ vs (by rw [renL_length]; exact hs) (fun i x v hx hv => ?_)
    obtain ⟨x0, h2, rfl⟩ := renL_get.1 hx
    exact ih i x0 v h2 hv
  | bot v => exact .bot v
theorem R.unren {Φ : Pers} {ρ ρ' : Rho} {q : Nat → Nat} (hq : ∀ b l, ρ (q b) = some l → ρ' b = some l) {y : AVal} {v : Value} (h : R Φ ρ y v) : ∀ x : AVal, y = x.ren q → R Φ ρ' x v := by
  induction h with
  | bool b => intro x hx; cases x <;> simp only [AVal.ren, reduceCtorEq, AVal.bool.injEq] at hx; subst hx; exact .bool _
  | int k n => intro x hx; cases x <;> simp only [AVal.ren, reduceCtorEq, AVal.int.injEq] at hx; obtain ⟨rfl, rfl⟩ := hx; exact .int _ _
  | str s => intro x hx; cases x <;> simp only [AVal.ren, reduceCtorEq, AVal.str.injEq] at hx; subst hx; exact .str _
  | ptr b i j l h => intro x hx; cases x <;> simp only [AVal.ren, reduceCtorEq, AVal.ptr.injEq] at hx; obtain ⟨rfl, rfl, rfl⟩ := hx; exact .ptr _ _ _ l (hq _ _ h)
  | iptr els i j B o k c f hB hk hc _ ih =>
    intro x hx; cases x <;> simp only [AVal.ren, reduceCtorEq, AVal.iptr.injEq] at hx; obtain ⟨rfl, rfl, rfl⟩ := hx
    exact .iptr _ _ _ B o k c f hB (fun i row hi => by have := hk i _ (renLL_get.2 ⟨row, hi, rfl⟩); rwa [renL_length] at this) (fun i row j x hi hj => hc i _ j _ (renLL_get.2 ⟨row, hi, rfl⟩) (renL_get.2 ⟨x, hj, rfl⟩))
      (fun i row j x hi hj => ih i _ j _ (renLL_get.2 ⟨row, hi, rfl⟩) (renL_get.2 ⟨x, hj, rfl⟩) x rfl)
  | nilPtr => intro x hx; cases x <;> simp only [AVal.ren, reduceCtorEq] at hx; exact .nilPtr
  | nilSl => intro x hx; cases x <;> simp only [AVal.ren, reduceCtorEq] at hx; exact .nilSl
  | emp a => intro x hx; cases x <;> simp only [AVal.ren, reduceCtorEq] at hx; exact .emp a
  | sl b off len a cap l h hl hn hc ha => intro x hx; cases x <;> simp only [AVal.ren, reduceCtorEq, AVal.sl.injEq] at hx; obtain ⟨rfl, rfl, rfl⟩ := hx; exact .sl _ _ _ a cap l (hq _ _ h) hl hn hc ha
  | imm0 a cap =>
    intro x hx; cases x <;> simp only [AVal.ren, reduceCtorEq, AVal.imm.injEq] at hx
    rename_i els
    have e := renLL_length q els
    rw [← hx] at e
    have : els = [] := List.length_eq_zero_iff.1 e.symm
    subst this
    exact .imm0 a cap
  | imm els B o k cap c f hne hcap hB hk hc _ ih =>
    intro x hx; cases x <;> simp only [AVal.ren, reduceCtorEq, AVal.imm.injEq] at hx
    rename_i els0
    subst hx
    rw [renLL_length] at hcap ⊢
    exact .imm _ B o k cap c f (fun h0 => hne (by rw [h0]; rfl)) hcap hB (fun i row hi => by have := hk i _ (renLL_get.2 ⟨row, hi, rfl⟩); rwa [renL_length] at this) (fun i row j x hi hj => hc i _ j _ (renLL_get.2 ⟨row, hi, rfl⟩) (renL_get.2 ⟨x, hj, rfl⟩))
      (fun i row j x hi hj => ih i _ j _ (renLL_get.2 ⟨row, hi, rfl⟩) (renL_get.2 ⟨x, hj, rfl⟩) x rfl)
  | map b l h => intro x hx; cases x <;> simp only [AVal.ren, reduceCtorEq, AVal.map.injEq] at hx; subst hx; exact .map _ l (hq _ _ h)
  | nilMap => intro x hx; cases x <;> simp only [AVal.ren, reduceCtorEq] at hx; exact .nilMap
  | func fn fs cs vf vc hf hc _ _ ih1 ih2 =>
    intro x hx; cases x <;> simp only [AVal.ren, reduceCtorEq, AVal.func.injEq] at hx; obtain ⟨rfl, rfl, rfl⟩ := hx
    rw [renL_length] at hf hc
    exact .func _ _ _ vf vc hf hc (fun i x v hx hv => ih1 i _ v (renL_get.2 ⟨x, hx, rfl⟩) hv x rfl) (fun i x v hx hv => ih2 i _ v (renL_get.2 ⟨x, hx, rfl⟩) hv x rfl)
  | nilFunc => intro x hx; cases x <;> simp only [AVal.ren, reduceCtorEq] at hx; exact .nilFunc
  | yld b l h => intro x hx; cases x <;> simp only [AVal.ren, reduceCtorEq, AVal.yld.injEq] at hx; subst hx; exact .yld _ l (hq _ _ h)
  | atLeast n c h => intro x hx; cases x <;> simp only [AVal.ren, reduceCtorEq, AVal.atLeast.injEq] at hx; subst hx; exact .atLeast _ c h
  | iface t x v _ ih => intro x hx; cases x <;> simp only [AVal.ren, reduceCtorEq, AVal.iface.injEq] at hx; obtain ⟨rfl, rfl⟩ := hx; exact .iface _ _ v (ih _ rfl)
  | nilIface => intro x hx; cases x <;> simp only [AVal.ren, reduceCtorEq] at hx; exact .nilIface
  | agg cs vs hs _ ih =>
    intro x hx; cases x <;> simp only [AVal.ren, reduceCtorEq, AVal.agg.injEq] at hx; subst hx
    rw [renL_length] at hs
    exact .agg _ vs hs (fun i x v hx hv => ih i _ v (renL_get.2 ⟨x, hx, rfl⟩) hv x rfl)
  | tuple cs vs hs _ ih =>
    intro x hx; cases x <;> simp only [AVal.ren, reduceCtorEq, AVal.tuple.injEq] at hx; subst hx
    rw [renL_length] at hs
    exact .tuple _ vs hs (fun i x v hx hv => ih i _ v (renL_get.2 ⟨x, hx, rfl⟩) hv x rfl)
  | bot v => intro x hx; cases x <;> simp only [AVal.ren, reduceCtorEq] at hx; exact .bot v
def renM (p : Nat → Nat) (es : List (AVal × AVal × Nat)) : List (AVal × AVal × Nat) := es.map fun x => (x.1.ren p, x.2.1.ren p, x.2.2)
def ABlk.ren (p : Nat → Nat) : ABlk → ABlk
  | .cells k els => .cells k (renLL p els)
  | .map es clock => .map (renM p es) clock
  | .siter s pos => .siter s pos
  | .miter m since seen stepped => .miter (m.map p) since seen stepped
theorem RowsIn.ren {Φ : Pers} {ρ ρ' : Rho} {p : Nat → Nat} (hp : ∀ b l, ρ b = some l → ρ' (p b) = some l) {els : List (List AVal)} {sh k : Nat} {c : Array Value} (h : RowsIn Φ ρ els sh k c) : RowsIn Φ ρ' (renLL p els) sh k c := by
  refine ⟨fun i row hi => ?_, fun i row j x hi hj => ?_⟩
  · obtain ⟨r0, h1, rfl⟩ := renLL_get.1 hi
    rw [renL_length]; exact h.1 i r0 h1
  · obtain ⟨r0, h1, rfl⟩ := renLL_get.1 hi
    obtain ⟨x0, h2, rfl⟩ := renL_get.1 hj
    obtain ⟨v, g1, g2, g3⟩ := h.2 i r0 j x0 h1 h2
    exact ⟨v, g1, g2, g3.ren hp⟩
theorem BR.ren {Φ : Pers} {ρ ρ' : Rho} {p : Nat → Nat} (hp : ∀ b l, ρ b = some l → ρ' (p b) = some l) {x : ABlk} {l : Loc} {o : Obj} (h : BR Φ ρ x l o) : BR Φ ρ' (x.ren p) l o := by
  cases h with
  | cells k els l c e hk hn hl hr h1 => exact .cells k _ l c e hk hn (by rw [renLL_length]; exact hl) (hr.ren hp) h1
  | map es clock l en hs hr =>
    refine .map _ clock l en (by rw [renM, List.length_map]; exact hs) fun i x hx => ?_
    rw [renM, List.getElem?_map] at hx
    cases h0 : es[i]? with
    | none => rw [h0] at hx; cases hx
    | some z =>
      rw [h0] at hx
      injection hx with hx
      subst hx
      obtain ⟨y, g1, g2, g3, g4⟩ := hr i z h0
      exact ⟨y, g1, g2.ren hp, g3.ren hp, g4⟩
  | siter s pos l => exact .siter s pos l
  | miter0 a b c l => exact .miter0 a b c l
  | miter m lm a b c l h => exact .miter _ lm a b c l (hp _ _ h)
theorem RowsIn.unren {Φ : Pers} {ρ ρ' : Rho} {q : Nat → Nat} (hq : ∀ b l, ρ (q b) = some l → ρ' b = some l) {els : List (List AVal)} {sh k : Nat} {c : Array Value} (h : RowsIn Φ ρ (renLL q els) sh k c) : RowsIn Φ ρ' els sh k c := by
  refine ⟨fun i row hi => by have := h.1 i _ (renLL_get.2 ⟨row, hi, rfl⟩); rwa [renL_length] at this, fun i row j x hi hj => ?_⟩
  obtain ⟨v, g1, g2, g3⟩ := h.2 i _ j _ (renLL_get.2 ⟨row, hi, rfl⟩) (renL_get.2 ⟨x, hj, rfl⟩)
  exact ⟨v, g1, g2, g3.unren hq x rfl⟩
theorem BR.unren {Φ : Pers} {ρ ρ' : Rho} {q : Nat → Nat} (hq : ∀ b l, ρ (q b) = some l → ρ' b = some l) {x : ABlk} {l : Loc} {o : Obj} (h : BR Φ ρ (x.ren q) l o) : BR Φ ρ' x l o := by
  cases x with
  | cells k els =>
    simp only [ABlk.ren] at h
    cases h with
    | cells _ _ _ c e hk hn hl hr h1 => exact .cells k _ l c e hk hn (by rwa [renLL_length] at hl) (hr.unren hq) h1
  | map es clock =>
    simp only [ABlk.ren] at h
    cases h with
    | map _ _ _ en hs hr =>
      refine .map _ clock l en (by rwa [renM, List.length_map] at hs) fun i x hx => ?_
      obtain ⟨y, g1, g2, g3, g4⟩ := hr i (x.1.ren q, x.2.1.ren q, x.2.2) (by rw [renM, List.getElem?_map, hx]; rfl)
      exact ⟨y, g1, g2.unren hq x.1 rfl, g3.unren hq x.2.1 rfl, g4⟩
  | siter s pos =>
    simp only [ABlk.ren] at h
    cases h with
    | siter _ _ _ => exact .siter s pos l
  | miter m since seen stepped =>
    simp only [ABlk.ren] at h
    cases m with
    | none => cases h with | miter0 _ _ _ _ => exact .miter0 _ _ _ l
    | some b => cases h with | miter _ lm _ _ _ _ h => exact .miter b lm _ _ _ l (hq _ _ h)
end Go.AE
