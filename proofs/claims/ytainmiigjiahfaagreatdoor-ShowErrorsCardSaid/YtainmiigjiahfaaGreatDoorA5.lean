/-
  Part 5 of the proof: AeHa.
-/
import Derived.Test.YtainmiigjiahfaaGreatDoorA4
import Derived.Lib.Overlaps
set_option linter.all false
set_option linter.unusedSimpArgs false
set_option linter.unusedVariables false

/- AeHa: AE, part H1: capacities: operations on a block of which it is known how much room it has. -/
section
namespace Go.AE
open Go.RowKit

section
variable {F : Fence} {n : Nat} {P : Program} {W : Base} {Φ : Pers} {ρ : Rho} {id : Nat} {w : World} {m m' : Mem} {x : AVal} {a : Act} {t : List AVal}

/-- An operation that is a call of a built-in function. -/
theorem call_of {o : Oper} {op : AOp} (ho : cOp' P o = op) (hop : (match op with | .capSl _ | .append _ _ _ _ _ | .appendZ _ _ _ _ _ => True | _ => False)) : ∃ c, o.op = .call c ∧ cCall P c = some op := by
  unfold cOp' at ho
  cases hc : cOp P o with
  | none => rw [hc] at ho; simp only [Option.getD_none] at ho; subst ho; exact hop.elim
  | some op' =>
    rw [hc] at ho
    simp only [Option.getD_some] at ho
    subst ho
    unfold cOp at hc
    split at hc <;> first | (cases hc; done) | skip
    case h_26 c hoc => exact ⟨c, hoc, hc⟩
    all_goals (try simp only [Option.map_eq_some_iff] at hc)
    all_goals (repeat' (split at hc <;> first | (cases hc; done) | skip))
    all_goals (first | (obtain ⟨_, _, hc⟩ := hc; subst hc; exact hop.elim) | (injection hc with hc; subst hc; exact hop.elim) | skip)

theorem wpIn_of_done (hF : Open F) {o : Oper} (hnd : ∀ c, o.op ≠ .defer c) {K : Act → World → Prop} {Q : Exit → Act → World → Prop} (h : Done P (execOp a.eval o) W Φ ρ id w x m')
    (hK : ∀ Φ' ρ' u w', Ext Φ ρ Φ' ρ' → (∀ b, b ≠ id → ρ b = none → ρ' b = none) → Rel W Φ' ρ' m' w' → R Φ' ρ' x u → K (a.put o.dst u) w') : o.wpIn F n P a w K Q := by
  refine oper_in hF hnd ?_
  obtain ⟨v, w', Φ', ρ', hrun, he, hk, hr', hx⟩ := h
  unfold Oper.wp
  rcases hrun with hrun | ⟨hrun, rfl⟩
  · rw [hrun]
    exact hK _ _ _ _ he hk hr' hx
  · rw [hrun]
    exact hK _ _ _ _ he hk hr' hx

/-- The capacity of a slice. -/
theorem cap_run {o : Oper} {y : AOpd} (ht : RL Φ ρ t a.tmps) (ho : cOp' P o = .capSl y) {b off len : Nat} (hy : ev t y = .sl b off len) :
    (∀ c, o.op ≠ .defer c) ∧ ∃ l cap, ρ b = some l ∧ l.sh + off + cap = l.n ∧ (execOp a.eval o).run P w = .ok (.value (.int .i64 (cap : Nat))) w := by
  obtain ⟨c, hop, hc⟩ := call_of ho trivial
  refine ⟨(fun c' h' => by rw [hop] at h'; cases h'), ?_⟩
  unfold cCall at hc
  split at hc <;> first | (cases hc; done) | skip
  all_goals (repeat' (split at hc <;> first | (cases hc; done) | skip))
  all_goals (try (injection hc with hc; cases hc; done))
  rename_i hcal _ _ xx tt hargs htys _ _ e y' hu hy'
  injection hc with hc
  injection hc with hc
  subst hc
  have hR := ev_R ht hy'
  rw [hy] at hR
  generalize hvv : a.eval xx = vv at hR
  cases hR with
  | sl _ _ _ ad cap l hl hle hn hcap hav =>
    refine ⟨l, cap, hl, hn, ?_⟩
    have htys' : c.argTypes = #[tt] := by rw [← Array.toList_inj]; exact htys
    have h1 : (Builtin.cap_ c.argTypes o.type (c.args.map a.eval)).run P w = .ok (.int .i64 (cap : Nat)) w := by
      rw [args_one hargs, htys', hvv]
      unfold Builtin.cap_
      simp only [Sem.run_bind, List.getElem?_toArray, List.getElem?_cons_zero, r_und hu, Result.andThen_ok]
      rfl
    exact builtin_v hop hcal (fun cs => rfl) _ _ h1

/-- What append of zeros does where there is no room. -/
theorem appendZ_grow {t e u ty : TypeId} {i : TypeInfo} {kk : IntKind} {z : Value} {base : Option Addr} {len cap n : Nat} {kx : IntKind} {old : Array Value} (ht : P.underlying t = some (.slice e)) (hi : P.info? e = some i) (hz : i.zero = some z) (hu : P.underlying u = some (.int kk))
    (hzs : z.cells.size = i.size) (hk0 : 0 < i.size)
    (ho : (Builtin.firstCells i.size len (.slice base len cap)).run P w.drew = .ok old w.drew) (hlt : cap < len + n) (hroom : len + n ≤ room) (hb : i.bytes ≤ room) :
    ∃ nc, len + n ≤ nc ∧ (Builtin.append_ #[t, u] ty #[.slice base len cap, .int kx (n : Nat)]).run P w =
      .ok (.slice (some ⟨w.drew.heap.size, 0, none⟩) (len + n) nc) (w.drew.alloc (.cells (old ++ Builtin.zeroCells z.cells n ++ Builtin.zeroCells z.cells (nc - (len + n))) e)) := by
  have hq : (Question.appendCap (len + n) cap e).forced = false := rfl
  refine ⟨(Question.appendCap (len + n) cap e).cut (w.tape w.drawn (.appendCap (len + n) cap e)), by simp only [Question.cut]; omega, ?_⟩
  generalize hnc : (Question.appendCap (len + n) cap e).cut (w.tape w.drawn (.appendCap (len + n) cap e)) = nc
  unfold room at hroom hb
  have hcap := nextcap_le hlt
  have hmul : Builtin.nextslicecap (len + n) cap * i.bytes ≤ (2 * 1048576 + 768) * 1048576 := Nat.mul_le_mul (by omega) hb
  have hmax : IntKind.i64.max = 9223372036854775807 := by decide
  have hwrap : IntKind.i64.wrap (n : Int) = n := by
    have hm := IntKind.i64
    rw [show IntKind.i64.wrap (n : Int) = (n : Int) from ?_]
    simp only [IntKind.wrap, IntKind.bits, IntKind.signed]
    first | omega | (simp; omega)
  have hnb : (n : Int) * (i.bytes : Int) ≤ 2 ^ 48 := by
    have h1 : n * i.bytes ≤ 1048576 * 1048576 := Nat.mul_le_mul (by omega) hb
    have h2 : ((n * i.bytes : Nat) : Int) ≤ ((1048576 * 1048576 : Nat) : Int) := Int.ofNat_le.2 h1
    rw [Int.natCast_mul] at h2
    omega
  have happ : ∀ w', (if n * i.size = 0 then (pure #[] : Sem (Array Value)) else do pure (Builtin.zeroCells (← zeroValue e).cells n)).run P w' = .ok (Builtin.zeroCells z.cells n) w' := by
    intro w'
    split
    · rename_i h0
      have hn0 : n = 0 := by
        rcases Nat.mul_eq_zero.1 h0 with h | h
        · exact h
        · omega
      subst hn0
      simp [Builtin.zeroCells]
    · simp only [Sem.run_bind, r_zero hi hz, Result.andThen_ok, Sem.run_pure]
  have e1 : (Builtin.append_ #[t, u] ty #[.slice base len cap, .int kx (n : Nat)]).run P w = ((do
      let newCap ← choose (.appendCap (len + n) cap e)
      askRoom (newCap * i.bytes)
      let old ← Builtin.firstCells i.size len (.slice base len cap)
      let new ← (if n * i.size = 0 then pure #[] else do pure (Builtin.zeroCells (← zeroValue e).cells n) : Sem (Array Value))
      let rest := Builtin.zeroCells (← zeroValue e).cells (newCap - (len + n))
      pure (Value.slice (some (← newRow e (old ++ new ++ rest))) (len + n) newCap) : Sem Value)).run P w := by
    unfold Builtin.append_
    simp only [Sem.run_bind, List.getElem?_toArray, List.getElem?_cons_zero, List.getElem?_cons_succ, r_und ht, Result.andThen_ok, r_size hi, r_und hu]
    simp only [Sem.run_bind, Sem.run_pure, Result.andThen_ok, if_true, asInt, asIntOf, hwrap]
    rw [if_neg (by omega)]
    simp only [Sem.run_bind, r_info hi, Result.andThen_ok]
    rw [if_neg (by omega)]
    simp only [Sem.run_bind, Sem.run_pure, Result.andThen_ok, Int.toNat_natCast]
    rw [if_neg (by omega)]
    simp only [Sem.run_bind, r_info hi, Result.andThen_ok, hmax]
    rw [if_neg (by omega)]
    simp only [Sem.run_bind, r_info hi, Result.andThen_ok]
    rw [if_neg (by omega)]
    simp only [Sem.run_bind, r_info hi, Result.andThen_ok, Bool.not_true, Bool.false_eq_true, if_false]
    rfl
  rw [e1]
  simp only [Sem.run_bind, run_choose, hq, Bool.false_eq_true, if_false, Result.andThen_ok, run_askRoom, hnc]
  have hw : ({ w with drawn := w.drawn + 1 } : World) = w.drew := rfl
  rw [hw]
  simp only [ho, happ, Result.andThen_ok, r_zero hi hz, newRow, Sem.run_bind, run_newObj, Sem.run_pure]
  rfl

end
end Go.AE
end


