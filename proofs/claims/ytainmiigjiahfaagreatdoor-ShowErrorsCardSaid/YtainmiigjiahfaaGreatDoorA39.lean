/-
  Part 39 of the proof: Ld.
-/
import Derived.Test.YtainmiigjiahfaaGreatDoorA38
set_option linter.all false
set_option linter.unusedSimpArgs false
set_option linter.unusedVariables false

/- Ld: The walks of the specification. -/
section
namespace Go.Known
open Go Go.AE Go.Proofs
open Go.Plain
attribute [local simp] wS_skip wS_region wS_dregion wS_seq wS_cond wS_block wS_exit wS_ret thenS_normal thenS_ret thenS_exit blockS_normal blockS_ret blockS_exit sops_nil sops_cons wantedE evE Env.get putE argE stepD SMem.at SMem.app SMem.get lookB AVal.cells AVal.one addA loadD rowAtD sliceLen asNat binA binInt unA eqA storeD setRow retS calleeE aundef SubS SubE SubB slBoundsD optNatD srcRowsD rowsOfD appendRowsD fillS eraseB room

abbrev bools (l : List Bool) : List (List AVal) := l.map fun b => [AVal.bool b]

theorem bools_get {l : List Bool} {x : Nat} {b : Bool} (h : l[x]? = some b) : (bools l)[x]? = some [AVal.bool b] := by
  rw [bools, List.getElem?_map, h]; rfl

theorem getD_eq {l : List Bool} {x : Nat} {b : Bool} (h : l[x]? = some b) : l.getD x true = b := by rw [List.getD, h]; rfl

theorem unseen_set {l : List Bool} {x : Nat} (h : l[x]? = some false) : unseen (l.set x true) + 1 = unseen l := by
  induction l generalizing x with
  | nil => simp at h
  | cons a r ih =>
    cases x with
    | zero =>
      simp only [List.getElem?_cons_zero, Option.some.injEq] at h
      subst h
      simp [unseen]
    | succ x =>
      simp only [List.getElem?_cons_succ] at h
      have := ih h
      simp only [unseen, List.set_cons_succ, List.filter_cons] at this ⊢
      cases a <;> simp <;> omega

theorem unseen_le {l : List Bool} : unseen l ≤ l.length := List.length_filter_le _ _

theorem cyc_seen {T : Nat → Nat} {N d : Nat} {seen : List Bool} (hd : d < N) (h : seen[d]? = some true) : cyc T N (N - d) seen = cyc T N (N - (d + 1)) seen := by
  obtain ⟨k, hk⟩ : ∃ k, N - d = k + 1 := ⟨N - d - 1, by omega⟩
  have hk2 : N - (d + 1) = k := by omega
  have hk3 : N - (k + 1) = d := by omega
  rw [hk, hk2, cyc, hk3, getD_eq h, if_pos rfl]

theorem cyc_new {T : Nat → Nat} {N d : Nat} {seen : List Bool} (hd : d < N) (h : seen[d]? = some false) : cyc T N (N - d) seen = 1 + cyc T N (N - (d + 1)) (Plain.mark T (N + 1) seen d) := by
  obtain ⟨k, hk⟩ : ∃ k, N - d = k + 1 := ⟨N - d - 1, by omega⟩
  have hk2 : N - (d + 1) = k := by omega
  have hk3 : N - (k + 1) = d := by omega
  rw [hk, hk2, cyc, hk3, getD_eq h, if_neg (by simp)]

theorem mark_seen {T : Nat → Nat} {k x : Nat} {seen : List Bool} (h : seen[x]? = some true) : Plain.mark T k seen x = seen := by
  cases k with
  | zero => rfl
  | succ k => rw [Plain.mark, getD_eq h, if_pos rfl]

theorem mark_new {T : Nat → Nat} {k x : Nat} {seen : List Bool} (h : seen[x]? = some false) : Plain.mark T (k + 1) seen x = Plain.mark T k (seen.set x true) (T x) := by
  rw [Plain.mark, getD_eq h, if_neg (by simp)]

theorem cycles_pos {T : Nat → Nat} {N : Nat} (h : 0 < N) : 0 < cycles T N := by
  have := cyc_new (T := T) (N := N) (d := 0) (seen := List.replicate N false) h (by simp [h])
  rw [Nat.sub_zero] at this
  unfold cycles
  omega

theorem bsub_bots (n : Nat) (x : AVal) : BSub (.cells 1 (List.replicate (n + 1) [AVal.bot])) (.cells 1 (List.replicate n [AVal.bot] ++ [[x]])) := by
  refine ⟨rfl, by simp, fun i row row' h1 h2 => ?_⟩
  rw [List.getElem?_replicate] at h1
  split at h1 <;> simp at h1
  subst h1
  have : row'.length = 1 := by
    have hm := List.mem_of_getElem? h2
    simp only [List.mem_append, List.mem_replicate, List.mem_singleton] at hm
    rcases hm with ⟨_, rfl⟩ | rfl <;> rfl
  refine ⟨by rw [this]; rfl, fun j y hy => .inl ?_⟩
  cases j with
  | zero => simpa using hy.symm
  | succ j => simp at hy

theorem freeze_bots {get : Nat → Option ABlk} {b n c : Nat} (h : get b = some (.cells 1 (List.replicate c [AVal.bot]))) : freezeV get (n + 2) (.sl b 0 c) = some (.imm (List.replicate c [AVal.bot])) := by
  have e : ((List.replicate c [AVal.bot]).drop 0).take c = List.replicate c [AVal.bot] := by rw [List.drop_zero, List.take_of_length_le (by simp)]
  rw [freezeV]
  simp only [h, e]
  rw [mapO_id (l := List.replicate c [AVal.bot])]
  · simp
    rw [Nat.ble_eq_true_of_le (Nat.le_refl _)]
    rfl
  · intro row hrow
    simp only [List.mem_replicate] at hrow
    rw [hrow.2]
    rfl

def OutAt (lo : Nat) (ob : Option Nat) (q n : Nat) : Prop :=
  match ob with
  | none => n = 0
  | some b => b < q ∧ lo < b

theorem bools_set (l : List Bool) (x : Nat) (b : Bool) : (bools l).set x [AVal.bool b] = bools (l.set x b) := by rw [bools, bools, List.map_set]

theorem bools_rep (n : Nat) (b : Bool) : bools (List.replicate n b) = List.replicate n [AVal.bool b] := by simp [bools]

set_option maxRecDepth 100000 in
set_option maxHeartbeats 4000000 in
theorem c16 (f : Int) (ls : List Lt) (T : Nat → Nat) (m : Nat) (h : ls.length ≤ 1000) (h0 : 0 < passes ls) (hm' : (axis ls).length = m) (hml : m ≤ 1000)
    (hT : ∀ d, d < 2 * ls.length + 2 * m → T d < 2 * ls.length + 2 * m) (hC : ∀ d, d < 2 * ls.length + 2 * m → PCall Tryz.prog 40 [cV f ls, .imm (nums (axis ls)), .int .i64 d] (.int .i64 (T d : Nat))) :
    PCall Tryz.prog 16 [cV f ls] (.imm (List.replicate (cycles T (2 * ls.length + 2 * m)) [AVal.bot])) := by
  refine PCall_frozen (n := 2) (by simp [closedL, closed_cV]) (by
    simp only [AVal.closed]
    generalize cycles T (2 * ls.length + 2 * m) = c
    induction c with
    | zero => rfl
    | succ c ih => rw [List.replicate_succ]; simp only [closedLL, ih]; rfl) (acalls_S hm Tryz.func16 cf16 (Nat.le_of_ble_eq_true rfl) ?_)
  have hR := rows_of ls
  have h39 := c39 f ls h h0
  have hal : (nums (axis ls)).length = m := by rw [nums_len]; exact hm'
  unfold cV at *
  generalize ls.map rowL = rows at *
  generalize nums (axis ls) = axr at *
  have hlen := hR.len
  generalize hN : 2 * ls.length + 2 * m = N at *
  have hw1 : IntKind.i64.wrap (2 * (ls.length : Int)) = 2 * (ls.length : Int) := wrap64 (by omega) (by omega)
  have hw2 : IntKind.i64.wrap (2 * (m : Int)) = 2 * (m : Int) := wrap64 (by omega) (by omega)
  have hw3 : IntKind.i64.wrap (2 * (ls.length : Int) + 2 * (m : Int)) = (N : Int) := by rw [wrap64 (by omega) (by omega)]; omega
  have hNr : N ≤ 1048576 := by omega
  simp [af16]
  refine SC_pure h39 ?_
  simp [hlen, hal, hw1, hw2, hw3, hNr]
  refine wS_loopN (α := Nat × List Bool × Nat × Nat × Option Nat) (fun a => [(6, .int .i64 a.1), (5, .sl 15 0 N), (4, .imm axr), (3, outV a.2.2.2.2 a.2.2.1), (1, .ptr 1 0 0)])
    (fun a => ⟨(1, .cells 2 [[.int .i64 f, .imm rows]]) :: (15, .cells 1 (bools a.2.1)) :: outB a.2.2.2.2 1 (List.replicate a.2.2.1 [AVal.bot]), a.2.2.2.1⟩)
    (fun a => N - a.1) (fun a => a.1 ≤ N ∧ a.2.1.length = N ∧ OutAt 15 a.2.2.2.2 a.2.2.2.1 a.2.2.1 ∧ 15 < a.2.2.2.1 ∧ a.2.2.1 ≤ a.1 ∧ cycles T N = a.2.2.1 + cyc T N (N - a.1) a.2.1)
    (0, List.replicate N false, 0, 18, none) (by simp [outV, outB, bools_rep]) (by simp [OutAt, cycles]) ?_
  rintro ⟨d, seen, cnt, q, ob⟩ ⟨hd, hsl, hob, hq, hcn, hcy⟩
  simp only at hd hsl hob hq hcn hcy ⊢
  by_cases hlt : d < N
  · have hwd : IntKind.i64.wrap ((d : Int) + 1) = (d : Int) + 1 := wrap64 (by omega) (by omega)
    have hsd : seen[d]? = some seen[d] := List.getElem?_eq_getElem (by omega)
    generalize seen[d] = sd at hsd
    have hrd := bools_get hsd
    obtain ⟨hild, hrd2⟩ := List.getElem?_eq_some_iff.1 hrd
    cases sd with
    | true =>
      rw [cyc_seen hlt hsd] at hcy
      cases ob with
      | none =>
        simp [outV, outB, hlt, hrd, hrd2, hwd]
        exact ⟨(d + 1, seen, cnt, q + 100, none), by simp <;> omega, ⟨by simp <;> omega, hsl, hob, by simp <;> omega, by simp <;> omega, hcy⟩, by simp [outV, outB] <;> omega⟩
      | some b =>
        simp only [OutAt] at hob
        have hb1 : ¬ b = 1 := by omega
        have hb2 : ¬ b = 15 := by omega
        simp [outV, outB, hlt, hrd, hrd2, hwd]
        exact ⟨(d + 1, seen, cnt, q + 100, some b), by simp <;> omega, ⟨by simp <;> omega, hsl, by simp [OutAt] <;> omega, by simp <;> omega, by simp <;> omega, hcy⟩, by simp [outV, outB, hb1, hb2] <;> omega⟩
    | false =>
      rw [cyc_new hlt hsd] at hcy
      have key : ∀ (oB : List (Nat × ABlk)) (oV : AVal) (q : Nat), 15 < q → (∀ b x, lookB oB b = some x → 15 < b ∧ b < q) → True := fun _ _ _ _ _ => trivial
      cases ob with
      | none =>
        simp only [OutAt] at hob
        subst hob
        simp [outV, outB, hlt, hrd, hrd2]
        refine wS_loopN (α := Nat × List Bool × Nat × Nat × Option Nat) (fun a => [(8, .int .i64 a.1), (7, outV a.2.2.2.2 a.2.2.1), (6, .int .i64 d), (5, .sl 15 0 N), (4, .imm axr), (3, .nilSl), (1, .ptr 1 0 0)])
          (fun a => ⟨(1, .cells 2 [[.int .i64 f, .imm rows]]) :: (15, .cells 1 (bools a.2.1)) :: outB a.2.2.2.2 1 (List.replicate a.2.2.1 [AVal.bot]), a.2.2.2.1⟩)
          (fun a => unseen a.2.1) (fun a => a.1 < N ∧ a.2.1.length = N ∧ OutAt 15 a.2.2.2.2 a.2.2.2.1 a.2.2.1 ∧ 15 < a.2.2.2.1 ∧ a.2.2.1 + unseen a.2.1 ≤ N ∧ ∃ fuel, unseen a.2.1 < fuel ∧ Plain.mark T (N + 1) seen d = Plain.mark T fuel a.2.1 a.1)
          (d, seen, 0, q + 11, none) (by simp [outV, outB, ] <;> omega) ⟨hlt, hsl, rfl, by simp <;> omega, by have := unseen_le (l := seen); simp <;> omega, N + 1, by have := unseen_le (l := seen); simp <;> omega, rfl⟩ ?_
        rintro ⟨x, sn, wc, q2, wb⟩ ⟨hx, hsnl, hwb, hq2, hwu, fuel, hfu, hmk⟩
        simp only at hx hsnl hwb hq2 hwu hfu hmk ⊢
        have hsx : sn[x]? = some sn[x] := List.getElem?_eq_getElem (by omega)
        generalize sn[x] = sx at hsx
        have hrx := bools_get hsx
        obtain ⟨hilx, hrx2⟩ := List.getElem?_eq_some_iff.1 hrx
        have hq1 : ∀ i, ¬ 1 = q2 + 5 + i := fun i => by omega
        have hq15 : ∀ i, ¬ 15 = q2 + 5 + i := fun i => by omega
        have hq1' : ∀ i, ¬ q2 + 5 + i = 1 := fun i => by omega
        have hq15' : ∀ i, ¬ q2 + 5 + i = 15 := fun i => by omega
        have hr1 : ∀ i, ¬ 1 = q2 + 5 + 4 + i := fun i => by omega
        have hr15 : ∀ i, ¬ 15 = q2 + 5 + 4 + i := fun i => by omega
        have hr1' : ∀ i, ¬ q2 + 5 + 4 + i = 1 := fun i => by omega
        have hr15' : ∀ i, ¬ q2 + 5 + 4 + i = 15 := fun i => by omega
        cases sx with
        | true =>
          rw [mark_seen hsx] at hmk
          rw [hmk] at hcy
          cases wb with
          | none =>
            simp [outV, outB, hq1, hq15, hq1', hq15', hr1, hr15, hr1', hr15', hx, hrx, hrx2, hwd]
            exact ⟨(d + 1, sn, 0 + 1, q2 + 100, some (q2 + 5 + 3)), by simp <;> omega, ⟨by simp <;> omega, hsnl, by simp [OutAt] <;> omega, by simp <;> omega, by simp <;> omega, by simp only; omega⟩, ⟨by simp [SubE, Env.get, outV], ⟨.inl (by simp [SMem.get, lookB, hq1, hq15, hq1', hq15', hr1, hr15, hr1', hr15', ]), .inl (by simp [SMem.get, lookB, hq1, hq15, hq1', hq15', hr1, hr15, hr1', hr15', ]), .inr ⟨.cells 1 (List.replicate 0 [AVal.bot] ++ [[.nilSl]]), by simp [SMem.get, lookB, hq1, hq15, hq1', hq15', hr1, hr15, hr1', hr15', ], bsub_bots 0 _⟩, trivial⟩, by simp <;> omega⟩⟩
          | some w =>
            simp only [OutAt] at hwb
            have hw1' : ¬ w = 1 := by omega
            have hw15 : ¬ w = 15 := by omega
            have hw1'' : ¬ 1 = w := by omega
            have hw15' : ¬ 15 = w := by omega
            have hwq : ∀ i, ¬ w = q2 + 5 + i := fun i => by omega
            have hwq' : ∀ i, ¬ q2 + 5 + i = w := fun i => by omega
            have hwr : ∀ i, ¬ w = q2 + 5 + 4 + i := fun i => by omega
            have hwr' : ∀ i, ¬ q2 + 5 + 4 + i = w := fun i => by omega
            simp [outV, outB, hq1, hq15, hq1', hq15', hr1, hr15, hr1', hr15', hw1', hw15, hw1'', hw15', hwq, hwq', hwr, hwr', hx, hrx, hrx2, hwd]
            exact ⟨(d + 1, sn, 0 + 1, q2 + 100, some (q2 + 5 + 3)), by simp <;> omega, ⟨by simp <;> omega, hsnl, by simp [OutAt] <;> omega, by simp <;> omega, by simp <;> omega, by simp only; omega⟩, ⟨by simp [SubE, Env.get, outV], ⟨.inl (by simp [SMem.get, lookB, hq1, hq15, hq1', hq15', hr1, hr15, hr1', hr15', hw1', hw15, hw1'', hw15', hwq, hwq', hwr, hwr', ]), .inl (by simp [SMem.get, lookB, hq1, hq15, hq1', hq15', hr1, hr15, hr1', hr15', hw1', hw15, hw1'', hw15', hwq, hwq', hwr, hwr', ]), .inr ⟨.cells 1 (List.replicate 0 [AVal.bot] ++ [[.sl w 0 wc]]), by simp [SMem.get, lookB, hq1, hq15, hq1', hq15', hr1, hr15, hr1', hr15', hw1', hw15, hw1'', hw15', hwq, hwq', hwr, hwr', ], bsub_bots 0 _⟩, trivial⟩, by simp <;> omega⟩⟩
        | false =>
          have hun := unseen_set hsx
          obtain ⟨fu, hfu'⟩ : ∃ fu, fuel = fu + 1 := ⟨fuel - 1, by omega⟩
          subst hfu'
          rw [mark_new hsx] at hmk
          have hcx := hC x hx
          have hTx := hT x hx
          have hwr0 : wc + 1 ≤ 1048576 := by omega
          have hwc : ¬ (wc + 1 ≤ wc) := by omega
          cases wb with
          | none =>
            simp only [OutAt] at hwb
            subst hwb
            simp [outV, outB, hq1, hq15, hq1', hq15', hr1, hr15, hr1', hr15', hx, hrx, hrx2, hwr0, hwc]
            refine SC_pure hcx ?_
            try simp [hq1, hq15, hq1', hq15', hr1, hr15, hr1', hr15', ]
            exact ⟨(T x, sn.set x true, 0 + 1, q2 + 100, some (q2 + 5 + 4 + 3)), by simp only; omega, ⟨hTx, by simp [hsnl], by simp [OutAt] <;> omega, by simp <;> omega, by simp only; omega, fu, by simp only; omega, hmk⟩, ⟨by simp [SubE, Env.get, outV], ⟨.inl (by simp [SMem.get, lookB, hq1, hq15, hq1', hq15', hr1, hr15, hr1', hr15', ]), .inl (by simp [SMem.get, lookB, hq1, hq15, hq1', hq15', hr1, hr15, hr1', hr15', ]), .inr ⟨.cells 1 (List.replicate 0 [AVal.bot] ++ [[.int .i64 x]]), by simp [SMem.get, lookB, hq1, hq15, hq1', hq15', hr1, hr15, hr1', hr15', ], bsub_bots 0 _⟩, trivial⟩, by simp <;> omega⟩⟩
          | some w =>
            simp only [OutAt] at hwb
            have hw1' : ¬ w = 1 := by omega
            have hw15 : ¬ w = 15 := by omega
            have hw1'' : ¬ 1 = w := by omega
            have hw15' : ¬ 15 = w := by omega
            have hwq : ∀ i, ¬ w = q2 + 5 + i := fun i => by omega
            have hwq' : ∀ i, ¬ q2 + 5 + i = w := fun i => by omega
            have hwr : ∀ i, ¬ w = q2 + 5 + 4 + i := fun i => by omega
            have hwr' : ∀ i, ¬ q2 + 5 + 4 + i = w := fun i => by omega
            simp [outV, outB, hq1, hq15, hq1', hq15', hr1, hr15, hr1', hr15', hw1', hw15, hw1'', hw15', hwq, hwq', hwr, hwr', hx, hrx, hrx2, hwr0, hwc]
            refine SC_pure hcx ?_
            try simp [hq1, hq15, hq1', hq15', hr1, hr15, hr1', hr15', hw1', hw15, hw1'', hw15', hwq, hwq', hwr, hwr', ]
            exact ⟨(T x, sn.set x true, wc + 1, q2 + 100, some (q2 + 5 + 4 + 3)), by simp only; omega, ⟨hTx, by simp [hsnl], by simp [OutAt] <;> omega, by simp <;> omega, by simp only; omega, fu, by simp only; omega, hmk⟩, ⟨by simp [SubE, Env.get, outV], ⟨.inl (by simp [SMem.get, lookB, hq1, hq15, hq1', hq15', hr1, hr15, hr1', hr15', hw1', hw15, hw1'', hw15', hwq, hwq', hwr, hwr', ]), .inl (by simp [SMem.get, lookB, hq1, hq15, hq1', hq15', hr1, hr15, hr1', hr15', hw1', hw15, hw1'', hw15', hwq, hwq', hwr, hwr', ]), .inr ⟨.cells 1 (List.replicate wc [AVal.bot] ++ [[.int .i64 x]]), by simp [SMem.get, lookB, hq1, hq15, hq1', hq15', hr1, hr15, hr1', hr15', hw1', hw15, hw1'', hw15', hwq, hwq', hwr, hwr', ], bsub_bots wc _⟩, trivial⟩, by simp <;> omega⟩⟩
      | some b =>
        simp only [OutAt] at hob
        have hb1 : ¬ b = 1 := by omega
        have hb2 : ¬ b = 15 := by omega
        have hb3 : ¬ 1 = b := by omega
        have hb4 : ¬ 15 = b := by omega
        have hcr : cnt + 1 ≤ 1048576 := by omega
        have hcc : ¬ (cnt + 1 ≤ cnt) := by omega
        simp [outV, outB, hb1, hb2, hb3, hb4, hcr, hcc, hlt, hrd, hrd2]
        refine wS_loopN (α := Nat × List Bool × Nat × Nat × Option Nat) (fun a => [(8, .int .i64 a.1), (7, outV a.2.2.2.2 a.2.2.1), (6, .int .i64 d), (5, .sl 15 0 N), (4, .imm axr), (3, .sl b 0 cnt), (1, .ptr 1 0 0)])
          (fun a => ⟨(1, .cells 2 [[.int .i64 f, .imm rows]]) :: (15, .cells 1 (bools a.2.1)) :: (b, .cells 1 (List.replicate cnt [AVal.bot])) :: outB a.2.2.2.2 1 (List.replicate a.2.2.1 [AVal.bot]), a.2.2.2.1⟩)
          (fun a => unseen a.2.1) (fun a => a.1 < N ∧ a.2.1.length = N ∧ OutAt b a.2.2.2.2 a.2.2.2.1 a.2.2.1 ∧ b < a.2.2.2.1 ∧ a.2.2.1 + unseen a.2.1 ≤ N ∧ ∃ fuel, unseen a.2.1 < fuel ∧ Plain.mark T (N + 1) seen d = Plain.mark T fuel a.2.1 a.1)
          (d, seen, 0, q + 11, none) (by simp [outV, outB, hb1, hb2, hb3, hb4, hcr, hcc, ] <;> omega) ⟨hlt, hsl, rfl, by simp <;> omega, by have := unseen_le (l := seen); simp <;> omega, N + 1, by have := unseen_le (l := seen); simp <;> omega, rfl⟩ ?_
        rintro ⟨x, sn, wc, q2, wb⟩ ⟨hx, hsnl, hwb, hq2, hwu, fuel, hfu, hmk⟩
        simp only at hx hsnl hwb hq2 hwu hfu hmk ⊢
        have hsx : sn[x]? = some sn[x] := List.getElem?_eq_getElem (by omega)
        generalize sn[x] = sx at hsx
        have hrx := bools_get hsx
        obtain ⟨hilx, hrx2⟩ := List.getElem?_eq_some_iff.1 hrx
        have hq1 : ∀ i, ¬ 1 = q2 + 5 + i := fun i => by omega
        have hq15 : ∀ i, ¬ 15 = q2 + 5 + i := fun i => by omega
        have hq1' : ∀ i, ¬ q2 + 5 + i = 1 := fun i => by omega
        have hq15' : ∀ i, ¬ q2 + 5 + i = 15 := fun i => by omega
        have hr1 : ∀ i, ¬ 1 = q2 + 5 + 4 + i := fun i => by omega
        have hr15 : ∀ i, ¬ 15 = q2 + 5 + 4 + i := fun i => by omega
        have hr1' : ∀ i, ¬ q2 + 5 + 4 + i = 1 := fun i => by omega
        have hr15' : ∀ i, ¬ q2 + 5 + 4 + i = 15 := fun i => by omega
        have hqb : ∀ i, ¬ b = q2 + 5 + i := fun i => by omega
        have hqb' : ∀ i, ¬ q2 + 5 + i = b := fun i => by omega
        have hrb : ∀ i, ¬ b = q2 + 5 + 4 + i := fun i => by omega
        have hrb' : ∀ i, ¬ q2 + 5 + 4 + i = b := fun i => by omega
        cases sx with
        | true =>
          rw [mark_seen hsx] at hmk
          rw [hmk] at hcy
          cases wb with
          | none =>
            simp [outV, outB, hb1, hb2, hb3, hb4, hcr, hcc, hq1, hq15, hq1', hq15', hr1, hr15, hr1', hr15', hqb, hqb', hrb, hrb', hx, hrx, hrx2, hwd]
            exact ⟨(d + 1, sn, cnt + 1, q2 + 100, some (q2 + 5 + 3)), by simp <;> omega, ⟨by simp <;> omega, hsnl, by simp [OutAt] <;> omega, by simp <;> omega, by simp <;> omega, by simp only; omega⟩, ⟨by simp [SubE, Env.get, outV], ⟨.inl (by simp [SMem.get, lookB, hb1, hb2, hb3, hb4, hcr, hcc, hq1, hq15, hq1', hq15', hr1, hr15, hr1', hr15', hqb, hqb', hrb, hrb', ]), .inl (by simp [SMem.get, lookB, hb1, hb2, hb3, hb4, hcr, hcc, hq1, hq15, hq1', hq15', hr1, hr15, hr1', hr15', hqb, hqb', hrb, hrb', ]), .inr ⟨.cells 1 (List.replicate cnt [AVal.bot] ++ [[.nilSl]]), by simp [SMem.get, lookB, hb1, hb2, hb3, hb4, hcr, hcc, hq1, hq15, hq1', hq15', hr1, hr15, hr1', hr15', hqb, hqb', hrb, hrb', ], bsub_bots cnt _⟩, trivial⟩, by simp <;> omega⟩⟩
          | some w =>
            simp only [OutAt] at hwb
            have hw1' : ¬ w = 1 := by omega
            have hw15 : ¬ w = 15 := by omega
            have hw1'' : ¬ 1 = w := by omega
            have hw15' : ¬ 15 = w := by omega
            have hwq : ∀ i, ¬ w = q2 + 5 + i := fun i => by omega
            have hwq' : ∀ i, ¬ q2 + 5 + i = w := fun i => by omega
            have hwr : ∀ i, ¬ w = q2 + 5 + 4 + i := fun i => by omega
            have hwr' : ∀ i, ¬ q2 + 5 + 4 + i = w := fun i => by omega
            have hwb1 : ¬ w = b := by omega
            have hwb2 : ¬ b = w := by omega
            simp [outV, outB, hb1, hb2, hb3, hb4, hcr, hcc, hq1, hq15, hq1', hq15', hr1, hr15, hr1', hr15', hqb, hqb', hrb, hrb', hw1', hw15, hw1'', hw15', hwq, hwq', hwr, hwr', hwb1, hwb2, hx, hrx, hrx2, hwd]
            exact ⟨(d + 1, sn, cnt + 1, q2 + 100, some (q2 + 5 + 3)), by simp <;> omega, ⟨by simp <;> omega, hsnl, by simp [OutAt] <;> omega, by simp <;> omega, by simp <;> omega, by simp only; omega⟩, ⟨by simp [SubE, Env.get, outV], ⟨.inl (by simp [SMem.get, lookB, hb1, hb2, hb3, hb4, hcr, hcc, hq1, hq15, hq1', hq15', hr1, hr15, hr1', hr15', hqb, hqb', hrb, hrb', hw1', hw15, hw1'', hw15', hwq, hwq', hwr, hwr', hwb1, hwb2, ]), .inl (by simp [SMem.get, lookB, hb1, hb2, hb3, hb4, hcr, hcc, hq1, hq15, hq1', hq15', hr1, hr15, hr1', hr15', hqb, hqb', hrb, hrb', hw1', hw15, hw1'', hw15', hwq, hwq', hwr, hwr', hwb1, hwb2, ]), .inr ⟨.cells 1 (List.replicate cnt [AVal.bot] ++ [[.sl w 0 wc]]), by simp [SMem.get, lookB, hb1, hb2, hb3, hb4, hcr, hcc, hq1, hq15, hq1', hq15', hr1, hr15, hr1', hr15', hqb, hqb', hrb, hrb', hw1', hw15, hw1'', hw15', hwq, hwq', hwr, hwr', hwb1, hwb2, ], bsub_bots cnt _⟩, trivial⟩, by simp <;> omega⟩⟩
        | false =>
          have hun := unseen_set hsx
          obtain ⟨fu, hfu'⟩ : ∃ fu, fuel = fu + 1 := ⟨fuel - 1, by omega⟩
          subst hfu'
          rw [mark_new hsx] at hmk
          have hcx := hC x hx
          have hTx := hT x hx
          have hwr0 : wc + 1 ≤ 1048576 := by omega
          have hwc : ¬ (wc + 1 ≤ wc) := by omega
          cases wb with
          | none =>
            simp only [OutAt] at hwb
            subst hwb
            simp [outV, outB, hb1, hb2, hb3, hb4, hcr, hcc, hq1, hq15, hq1', hq15', hr1, hr15, hr1', hr15', hqb, hqb', hrb, hrb', hx, hrx, hrx2, hwr0, hwc]
            refine SC_pure hcx ?_
            try simp [hb1, hb2, hb3, hb4, hcr, hcc, hq1, hq15, hq1', hq15', hr1, hr15, hr1', hr15', hqb, hqb', hrb, hrb', ]
            exact ⟨(T x, sn.set x true, 0 + 1, q2 + 100, some (q2 + 5 + 4 + 3)), by simp only; omega, ⟨hTx, by simp [hsnl], by simp [OutAt] <;> omega, by simp <;> omega, by simp only; omega, fu, by simp only; omega, hmk⟩, ⟨by simp [SubE, Env.get, outV], ⟨.inl (by simp [SMem.get, lookB, hb1, hb2, hb3, hb4, hcr, hcc, hq1, hq15, hq1', hq15', hr1, hr15, hr1', hr15', hqb, hqb', hrb, hrb', ]), .inl (by simp [SMem.get, lookB, hb1, hb2, hb3, hb4, hcr, hcc, hq1, hq15, hq1', hq15', hr1, hr15, hr1', hr15', hqb, hqb', hrb, hrb', ]), .inl (by simp [SMem.get, lookB, hb1, hb2, hb3, hb4, hcr, hcc, hq1, hq15, hq1', hq15', hr1, hr15, hr1', hr15', hqb, hqb', hrb, hrb', ]), .inr ⟨.cells 1 (List.replicate 0 [AVal.bot] ++ [[.int .i64 x]]), by simp [SMem.get, lookB, hb1, hb2, hb3, hb4, hcr, hcc, hq1, hq15, hq1', hq15', hr1, hr15, hr1', hr15', hqb, hqb', hrb, hrb', ], bsub_bots 0 _⟩, trivial⟩, by simp <;> omega⟩⟩
          | some w =>
            simp only [OutAt] at hwb
            have hw1' : ¬ w = 1 := by omega
            have hw15 : ¬ w = 15 := by omega
            have hw1'' : ¬ 1 = w := by omega
            have hw15' : ¬ 15 = w := by omega
            have hwq : ∀ i, ¬ w = q2 + 5 + i := fun i => by omega
            have hwq' : ∀ i, ¬ q2 + 5 + i = w := fun i => by omega
            have hwr : ∀ i, ¬ w = q2 + 5 + 4 + i := fun i => by omega
            have hwr' : ∀ i, ¬ q2 + 5 + 4 + i = w := fun i => by omega
            have hwb1 : ¬ w = b := by omega
            have hwb2 : ¬ b = w := by omega
            simp [outV, outB, hb1, hb2, hb3, hb4, hcr, hcc, hq1, hq15, hq1', hq15', hr1, hr15, hr1', hr15', hqb, hqb', hrb, hrb', hw1', hw15, hw1'', hw15', hwq, hwq', hwr, hwr', hwb1, hwb2, hx, hrx, hrx2, hwr0, hwc]
            refine SC_pure hcx ?_
            try simp [hb1, hb2, hb3, hb4, hcr, hcc, hq1, hq15, hq1', hq15', hr1, hr15, hr1', hr15', hqb, hqb', hrb, hrb', hw1', hw15, hw1'', hw15', hwq, hwq', hwr, hwr', hwb1, hwb2, ]
            exact ⟨(T x, sn.set x true, wc + 1, q2 + 100, some (q2 + 5 + 4 + 3)), by simp only; omega, ⟨hTx, by simp [hsnl], by simp [OutAt] <;> omega, by simp <;> omega, by simp only; omega, fu, by simp only; omega, hmk⟩, ⟨by simp [SubE, Env.get, outV], ⟨.inl (by simp [SMem.get, lookB, hb1, hb2, hb3, hb4, hcr, hcc, hq1, hq15, hq1', hq15', hr1, hr15, hr1', hr15', hqb, hqb', hrb, hrb', hw1', hw15, hw1'', hw15', hwq, hwq', hwr, hwr', hwb1, hwb2, ]), .inl (by simp [SMem.get, lookB, hb1, hb2, hb3, hb4, hcr, hcc, hq1, hq15, hq1', hq15', hr1, hr15, hr1', hr15', hqb, hqb', hrb, hrb', hw1', hw15, hw1'', hw15', hwq, hwq', hwr, hwr', hwb1, hwb2, ]), .inl (by simp [SMem.get, lookB, hb1, hb2, hb3, hb4, hcr, hcc, hq1, hq15, hq1', hq15', hr1, hr15, hr1', hr15', hqb, hqb', hrb, hrb', hw1', hw15, hw1'', hw15', hwq, hwq', hwr, hwr', hwb1, hwb2, ]), .inr ⟨.cells 1 (List.replicate wc [AVal.bot] ++ [[.int .i64 x]]), by simp [SMem.get, lookB, hb1, hb2, hb3, hb4, hcr, hcc, hq1, hq15, hq1', hq15', hr1, hr15, hr1', hr15', hqb, hqb', hrb, hrb', hw1', hw15, hw1'', hw15', hwq, hwq', hwr, hwr', hwb1, hwb2, ], bsub_bots wc _⟩, trivial⟩, by simp <;> omega⟩⟩
  · have he : d = N := by omega
    subst he
    rw [Nat.sub_self] at hcy
    simp only [cyc, Nat.add_zero] at hcy
    have hcp := cycles_pos (T := T) (N := d) (by have := axis_length ls; omega)
    cases ob with
    | none => simp only [OutAt] at hob; omega
    | some b =>
      simp only [OutAt] at hob
      have hb1 : ¬ b = 1 := by omega
      have hb2 : ¬ b = 15 := by omega
      simp [outV, outB]
      rw [hcy]
      have hgb : (SMem.mem ⟨[(1, .cells 2 [[.int .i64 f, .imm rows]]), (15, .cells 1 (bools seen)), (b, .cells 1 (List.replicate cnt [AVal.bot]))], 0⟩).get b = some (.cells 1 (List.replicate cnt [AVal.bot])) := by simp [SMem.mem, SMem.get, lookB, hb1, hb2]
      exact freeze_bots hgb

end Go.Known
end


