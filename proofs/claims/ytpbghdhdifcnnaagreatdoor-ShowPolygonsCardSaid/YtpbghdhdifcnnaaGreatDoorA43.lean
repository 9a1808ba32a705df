/- Part 43 of the proof: Rm. -/
import Derived.Test.YtpbghdhdifcnnaaGreatDoorA42
set_option linter.all false
namespace Go.Known
open Go Go.AE Go.Proofs
open Go.Plain
theorem frz_slV {get : Nat → Option ABlk} {b k n : Nat} {rows : List (List AVal)} (hg : get b = if rows = [] then none else some (.cells k rows)) (hs : ∀ row, row ∈ rows → ∀ x, x ∈ row → freezeV get (n + 1) x = some x) : freezeV get (n + 2) (slV b rows) = some (imV rows) := by
  unfold slV imV
  by_cases h : rows = []
  · rw [if_pos h, if_pos h]; rfl
  · rw [if_neg h, if_neg h]
    exact freeze_rows (by rw [hg, if_neg h]) hs
theorem frz_imV {get : Nat → Option ABlk} {n : Nat} {rows : List (List AVal)} (hs : ∀ row, row ∈ rows → ∀ x, x ∈ row → freezeV get (n + 1) x = some x) : freezeV get (n + 2) (imV rows) = some (imV rows) := by
  unfold imV
  by_cases h : rows = []
  · rw [if_pos h]; rfl
  · rw [if_neg h]
    exact freeze_imm hs
theorem fz_tuple2 {get : Nat → Option ABlk} {S : List Nat} {a b a' b' : AVal} (h1 : freezeV (onlyG get S) 4 a = some a') (h2 : freezeV (onlyG get S) 4 b = some b') : fzV get S (.tuple [a, b]) = .tuple [a', b'] := by
  unfold fzV
  rw [freezeV]
  simp only [mapO, h1, h2]
theorem c92f (f : Int) (ls : List Lt) (ax : List Nat) (j : Nat) (h : ls.length ≤ 1000) (hf : f ≤ 40) (hax : ∀ v, v ∈ ax → v < ls.length ∧ 0 ≤ (at' ls v).g ∧ (at' ls v).g ≤ 40) (hj : j < ax.length) (hal : ax.length ≤ 1000) :
    Ctr Tryz.prog 92 [cV f ls, .imm (nums ax), .int .i64 j] ⟨[], 1⟩ fun v m => ∃ P G, P ≠ [] ∧ P.length ≤ 100 ∧ G.length ≤ 100 ∧ v = .tuple [.imm (prow P), imV (irow G)] ∧ m = ⟨[], 3⟩ := by
  refine (c92 f ls ax j h hf hax hj hal).freeze fun r sm => ?_
  rintro ⟨P, G, h1, h2, h3, rfl, rfl⟩
  refine ⟨[1, 2], P, G, h1, h2, h3, ?_, by simp⟩
  rw [fz_tuple2 (a' := imV (prow P)) (b' := imV (irow G)) (frz_slV (k := 2) (by simp [onlyG]) (scal_prow P)) (frz_slV (k := 1) (by simp [onlyG]) (scal_irow G)), imV, if_neg (by simpa using h1)]
theorem c94' (l : List Int) (hl : l.length ≤ 1000) : PCall Tryz.prog 94 [imV (irow l)] (imV (irow l.reverse)) := by
  by_cases h0 : l = []
  · subst h0
    refine PCall_F hm 1 Tryz.func94 ch94 rfl rfl rfl rfl fun K hK => ?_
    have hw1 : IntKind.i64.wrap (-1) = -1 := by decide
    simp [imV]
    refine wZ_loop (α := Unit) (fun _ => [(4, .int .i64 (-1)), (3, .nilSl)]) (fun _ => ⟨[], 1⟩) (fun _ => 0) (fun _ => True) () [] (by simp [hw1]) trivial ?_
    intro _ _ N hN
    simp
    exact endK (hK .nilSl ⟨[], 1⟩ rfl) [] (by simp)
  · have := c94 l hl h0
    simpa [imV, h0] using this
def FRow (w : List Nat × Bool) (row : List AVal) : Prop := ∃ (ab o : Bool) (P : List (Int × Int)) (G : List Int), row = [.bool ab, imV (nums w.1), imV (prow P), imV (irow G), .bool o] ∧ (w.2 = true ↔ P ≠ [])
theorem FRow.closed {w : List Nat × Bool} {row : List AVal} (h : FRow w row) : closedL row = true := by
  obtain ⟨ab, o, P, G, rfl, _⟩ := h
  simp only [closedL, AVal.closed, closed_imV (closed_nums _), closed_imV (closed_prow _), closed_imV (closed_irow _), Bool.and_true]
theorem FRow.scal {get : Nat → Option ABlk} {n : Nat} {w : List Nat × Bool} {row : List AVal} (h : FRow w row) : ∀ x, x ∈ row → freezeV get (n + 2) x = some x := by
  obtain ⟨ab, o, P, G, rfl, _⟩ := h
  intro x hx
  simp only [List.mem_cons, List.not_mem_nil, or_false] at hx
  rcases hx with rfl | rfl | rfl | rfl | rfl
  · rfl
  · exact frz_imV (scal_nums _)
  · exact frz_imV (scal_prow _)
  · exact frz_imV (scal_irow _)
  · rfl
def RowsF (l : List (List Nat × Bool)) (rows : List (List AVal)) : Prop := rows.length = l.length ∧ ∀ (i : Nat) (w : List Nat × Bool), l[i]? = some w → ∃ row, rows[i]? = some row ∧ FRow w row
theorem RowsF.row {l : List (List Nat × Bool)} {rows : List (List AVal)} (h : RowsF l rows) : ∀ row, row ∈ rows → ∃ w, FRow w row := by
  intro row hr
  obtain ⟨i, hi⟩ := List.getElem?_of_mem hr
  have hil : i < l.length := by rw [← h.1]; exact (List.getElem?_eq_some_iff.1 hi).1
  obtain ⟨r2, h1, h2⟩ := h.2 i _ (List.getElem?_eq_getElem hil)
  rw [hi] at h1
  injection h1 with h1
  subst h1
  exact ⟨_, h2⟩
theorem RowsF.closed {l : List (List Nat × Bool)} {rows : List (List AVal)} (h : RowsF l rows) : closedLL rows = true := by
  have : ∀ rs : List (List AVal), (∀ row, row ∈ rs → closedL row = true) → closedLL rs = true := by
    intro rs
    induction rs with
    | nil => intro _; rfl
    | cons a r ih => intro hh; simp only [closedLL, Bool.and_eq_true]; exact ⟨hh a (List.mem_cons_self ..), ih fun b hb => hh b (List.mem_cons_of_mem _ hb)⟩
  exact this rows fun row hr => (h.row row hr).elim fun _ hw => hw.closed
theorem RowsF.scal {get : Nat → Option ABlk} {n : Nat} {l : List (List Nat × Bool)} {rows : List (List AVal)} (h : RowsF l rows) : ∀ row, row ∈ rows → ∀ x, x ∈ row → freezeV get (n + 2) x = some x := fun row hr => (h.row row hr).elim fun _ hw => hw.scal
theorem RowsF.nil : RowsF [] [] := ⟨rfl, fun i w h => by simp at h⟩
theorem RowsF.snoc {l : List (List Nat × Bool)} {rows : List (List AVal)} (h : RowsF l rows) {w : List Nat × Bool} {row : List AVal} (hr : FRow w row) : RowsF (l ++ [w]) (rows ++ [row]) := by
  refine ⟨by simp [h.1], fun i u hu => ?_⟩
  rcases Nat.lt_or_ge i l.length with h1 | h1
  · rw [List.getElem?_append_left h1] at hu
    rw [List.getElem?_append_left (by rw [h.1]; exact h1)]
    exact h.2 i u hu
  · rw [List.getElem?_append_right h1] at hu
    rw [List.getElem?_append_right (by rw [h.1]; exact h1), h.1]
    cases hz : i - l.length with
    | zero => rw [hz] at hu; simp at hu; subst hu; exact ⟨row, rfl, hr⟩
    | succ z => rw [hz] at hu; simp at hu
theorem tr_length (T : Nat → Nat) : ∀ (k : Nat) (seen : List Bool) (x : Nat), (tr T k seen x).length ≤ k
  | 0, _, _ => Nat.le_refl _
  | k + 1, seen, x => by
    simp only [tr]
    split
    · simp
    · have := tr_length T k (seen.set x true) (T x)
      simp; omega
theorem strOf_take {n : Nat} {w : List Nat} {k x : Nat} (h : w[k]? = some x) : strOf n (w.take (k + 1)) = if x < n then ((strOf n (w.take k)).1 ++ [x], (strOf n (w.take k)).2) else ((strOf n (w.take k)).1, true) := by
  have e : w.take (k + 1) = w.take k ++ [x] := by rw [List.take_add_one, h]; rfl
  rw [e]
  unfold strOf
  by_cases hx : x < n
  · have : ¬ n ≤ x := by omega
    simp [hx, this]
  · have : n ≤ x := by omega
    simp [hx, this]
set_option maxRecDepth 100000 in
set_option maxHeartbeats 8000000 in
theorem c52 (f : Int) (ls : List Lt) (W : List (List Nat)) (h : ls.length ≤ 1000) (hf : f ≤ 40) (h0 : 0 < passes ls) (hax : ∀ v, v ∈ axis ls → v < ls.length ∧ 0 ≤ (at' ls v).g ∧ (at' ls v).g ≤ 40)
    (hW : PCall Tryz.prog 34 [cV f ls] (.imm (wrows W))) (hWl : W.length ≤ 10000) (hW0 : W ≠ []) (hWw : ∀ w, w ∈ W → ∃ d r, w = d :: r ∧ d < 2 * ls.length ∧ w.length ≤ 5000 ∧ ∀ x, x ∈ w → x < 2 * ls.length + 2 * passes ls) :
    Ctr Tryz.prog 52 [cV f ls] ⟨[], 1⟩ fun v m => ∃ rows, RowsF (W.map (strOf (2 * ls.length))) rows ∧ v = .sl 1 0 rows.length ∧ m = ⟨[(1, .cells 5 rows)], 2⟩ := by
  refine ctr_P hm Tryz.func52 ch52 rfl rfl fun K hK => ?_
  have hR := rows_of ls
  have h39 := c39 f ls h h0
  have hal : (axis ls).length = passes ls := axis_length ls
  have hal' : (nums (axis ls)).length = passes ls := by rw [len_nums, hal]
  have hpl : passes ls ≤ ls.length := cntP_le_one
  have h91 := fun e he => c91 f ls e h he
  have h92 := fun j hj => c92f f ls (axis ls) j h hf hax hj (by omega)
  have hrr : ∀ q, renLL q (ls.map rowL) = ls.map rowL := fun q => renLL_closed q _ (closed_rows ls)
  have hra : ∀ q, renLL q (nums (axis ls)) = nums (axis ls) := fun q => ren_nums q _
  rw [hal] at h92
  unfold cV at *
  generalize ls.map rowL = rows at *
  generalize nums (axis ls) = axr at *
  have hlen := hR.len
  have hWL : (wrows W).length = W.length := wrows_length W
  have hWg : ∀ (i : Nat) (w : List Nat), W[i]? = some w → (wrows W)[i]? = some [.imm (nums w)] := fun i w hw => by rw [wrows, List.getElem?_map, hw]; rfl
  have hrW : ∀ q, renLL q (wrows W) = wrows W := fun q => ren_wrows q W
  generalize wrows W = WR at *
  obtain ⟨n2, hn2⟩ : ∃ n2, 2 * ls.length = n2 := ⟨_, rfl⟩
  have hw1 : IntKind.i64.wrap (2 * (ls.length : Int)) = (n2 : Int) := by rw [wrap64 (by omega) (by omega)]; omega
  rw [hn2] at hK hWw
  simp
  refine SC_pure h39 ?_
  simp
  refine SC_pure hW ?_
  simp [hlen]
  refine wZ_loopW (α := Nat × List (List AVal)) (fun a => [(7, .int .i64 a.1), (6, .int .i64 ls.length), (5, .imm WR), (4, .imm axr), (3, slV 2 a.2), (1, .ptr 1 0 0)])
    (fun a => ⟨(1, .cells 2 [[.int .i64 f, .imm rows]]) :: blV 2 5 a.2 [], 3⟩) (fun a => W.length - a.1) (fun a => a.1 ≤ W.length ∧ RowsF ((W.take a.1).map (strOf n2)) a.2) (0, []) (SubR.wk (l := []) (by simp [hrr, hra, hrW])) ⟨by simp, by simpa using RowsF.nil⟩ ?_
  rintro ⟨i, O⟩ ⟨hi, hO⟩ N1 hN1
  simp only at hi hO hN1 ⊢
  have hOl : O.length = i := by rw [hO.1]; simp; omega
  have hOc : ∀ q, renLL q O = O := fun q => renLL_closed q _ hO.closed
  by_cases hlt : i < W.length
  · obtain ⟨w, hw⟩ : ∃ w, W[i]? = some w := ⟨_, List.getElem?_eq_getElem hlt⟩
    have hg := hWg i w hw
    obtain ⟨_, hg2⟩ := getE hg
    obtain ⟨d, r, hwe, hd, hwl, hwx⟩ := hWw w (List.mem_of_getElem? hw)
    have hwi : IntKind.i64.wrap ((i : Int) + 1) = (i : Int) + 1 := wrap64 (by omega) (by omega)
    obtain ⟨e, he⟩ : ∃ e, d / 2 = e := ⟨_, rfl⟩
    have h91' := h91 e (by omega)
    have hwd : IntKind.i64.wrap ((d : Int) / 2) = (e : Int) := by rw [wrap64 (by omega) (by omega)]; omega
    have hd0 : (nums w)[0]? = some [.int .i64 (d : Int)] := by rw [hwe]; rfl
    obtain ⟨hd1, hd2⟩ := getE hd0
    have hwn : w ≠ [] := by rw [hwe]; simp
    have hwl0 : 0 < w.length := by rw [hwe]; simp
    have hOb : O.length ≤ 1048575 := by omega
    have hwL : (nums w).length = w.length := len_nums w
    have hwG : ∀ (k x : Nat), w[k]? = some x → (nums w)[k]? = some [.int .i64 (x : Int)] := fun k x => nums_get
    have hrw : ∀ q, renLL q (nums w) = nums w := fun q => ren_nums q w
    generalize nums w = wr at *
    generalize down ls (e + 1) = ab at *
    simp [hlt, hWL, hg, hg2, hd0, hd2, hwd, hwl0, hwn]
    refine DC_pure h91' ?_
    simp
    refine wZ_loop (α := Nat × List Nat × List (Int × Int) × List Int × Bool) (fun a => [(10, .int .i64 a.1), (9, .ptr 3 0 0), (8, .imm wr), (7, .int .i64 i), (6, .int .i64 ls.length), (5, .imm WR), (4, .imm axr), (3, slV 2 O), (1, .ptr 1 0 0)])
      (fun a => ⟨(1, .cells 2 [[.int .i64 f, .imm rows]]) :: (3, .cells 5 [[.bool ab, slV 5 (nums a.2.1), slV 6 (prow a.2.2.1), slV 7 (irow a.2.2.2.1), .bool a.2.2.2.2]]) :: blV 2 5 O (blV 5 1 (nums a.2.1) (blV 6 2 (prow a.2.2.1) (blV 7 1 (irow a.2.2.2.1) []))), 8⟩)
      (fun a => w.length - a.1) (fun a => a.1 ≤ w.length ∧ a.2.1 = (strOf n2 (w.take a.1)).1 ∧ a.2.1.length ≤ a.1 ∧ ((strOf n2 (w.take a.1)).2 = true ↔ a.2.2.1 ≠ []) ∧ a.2.2.1.length ≤ 100 * a.1 ∧ a.2.2.2.1.length ≤ 100 * a.1)
      (0, [], [], [], false) [(3, 20)] (by simp +contextual [hrr, hra, hrW, hrw, hOc]) ⟨by simp, by simp [strOf], by simp, by simp [strOf], by simp, by simp⟩ ?_
    rintro ⟨k, D, P, G, o⟩ ⟨hk, hD, hDl, hP, hPl, hGl⟩ N2 hN2
    simp only at hk hD hDl hP hPl hGl hN2 ⊢
    by_cases hklt : k < w.length
    · obtain ⟨x, hx⟩ : ∃ x, w[k]? = some x := ⟨_, List.getElem?_eq_getElem hklt⟩
      have hxg := hwG k x hx
      obtain ⟨hxl, hxg2⟩ := getE hxg
      have hxN := hwx x (List.mem_of_getElem? hx)
      have hst := strOf_take (n := n2) hx
      have hwk : IntKind.i64.wrap ((k : Int) + 1) = (k : Int) + 1 := wrap64 (by omega) (by omega)
      by_cases hxs : x < n2
      · have hDb : D.length ≤ 1048575 := by omega
        rw [if_pos hxs] at hst
        simp [hklt, hwL, hxg, hxg2, hw1, hxs, hDb, hwk]
        exact hN2 (k + 1, D ++ [x], P, G, o) [(5, 26)] _ _ (by simp; omega) ⟨by simp; omega, by simp only [hst, hD], by simp; omega, by simp only [hst]; exact hP, by simp; omega, by simp; omega⟩ (by simp +contextual [hrr, hra, hrW, hrw, hOc, ren_nums])
      · rw [if_neg hxs] at hst
        obtain ⟨z, hz⟩ : ∃ z, x - n2 = z := ⟨_, rfl⟩
        obtain ⟨j, hj⟩ : ∃ j, z / 2 = j := ⟨_, rfl⟩
        have hwz : IntKind.i64.wrap ((x : Int) - (n2 : Int)) = (z : Int) := by rw [wrap64 (by omega) (by omega)]; omega
        have hwj : IntKind.i64.wrap ((z : Int) / 2) = (j : Int) := by rw [wrap64 (by omega) (by omega)]; omega
        simp [hklt, hwL, hxg, hxg2, hw1, hxs, hwz, hwj]
        refine SC_ctr (h92 j (by omega)) [] (by simp [hrr, hra]) (by simp) (by simp) ?_
        rintro r sm ⟨P2, G2, hP2, hPl2, hGl2, rfl, rfl⟩
        have htm : (x : Int).tmod 2 = ((x % 2 : Nat) : Int) := rfl
        have hb1 : P.length + P2.length ≤ 1048576 := by omega
        have hb2 : G.length + G2.length ≤ 1048576 := by omega
        have fin : ∀ (Q : List (Int × Int)) (H : List Int) (b : Bool) (l : List (Nat × Nat)) (e : Env) (m : SMem), Q ≠ [] → Q.length ≤ 100 → H.length ≤ 100 →
            SubR 1 l [(10, .int .i64 ((k : Int) + 1)), (9, .ptr 3 0 0), (8, .imm wr), (7, .int .i64 i), (6, .int .i64 ls.length), (5, .imm WR), (4, .imm axr), (3, slV 2 O), (1, .ptr 1 0 0)]
              ⟨(1, .cells 2 [[.int .i64 f, .imm rows]]) :: (3, .cells 5 [[.bool ab, slV 5 (nums D), slV 6 (prow P ++ prow Q), slV 7 (irow G ++ irow H), .bool b]]) :: blV 2 5 O (blV 5 1 (nums D) (blV 6 2 (prow P ++ prow Q) (blV 7 1 (irow G ++ irow H) []))), 8⟩ e m → N2 e m := by
          intro Q H b l e m q1 q2 q3 hs
          refine hN2 (k + 1, D, P ++ Q, G ++ H, b) l _ _ (by simp; omega) ⟨by simp; omega, by simp only [hst, hD], by simp; omega, by simp [hst, q1], by simp; omega, by simp; omega⟩ ?_
          simp only [prow_app, irow_app] at hs
          exact hs
        clear hN2
        obtain ⟨lb, hlb⟩ : ∃ lb, decide ((j : Int) = IntKind.i64.wrap ((passes ls : Int) - 1)) = lb := ⟨_, rfl⟩
        by_cases hpar : x % 2 = 0
        · cases o <;> by_cases hG2 : G2 = [] <;> simp [hklt, hwL, hxg, hxg2, htm, hpar, hb1, hb2, hP2, hG2, sr_imV, hwk, hal', hlb]
          · exact fin P2 [] lb [(6, 48)] _ _ hP2 hPl2 (by simp) (by simp +contextual [hrr, hra, hrW, hrw, hOc, ren_nums, slV_ne, blV_ne, hP2])
          · exact fin P2 G2 lb [(6, 48), (7, 54)] _ _ hP2 hPl2 hGl2 (by simp +contextual [hrr, hra, hrW, hrw, hOc, ren_nums, slV_ne, blV_ne, hP2, hG2])
          · exact fin P2 [] true [(6, 48)] _ _ hP2 hPl2 (by simp) (by simp +contextual [hrr, hra, hrW, hrw, hOc, ren_nums, slV_ne, blV_ne, hP2])
          · exact fin P2 G2 true [(6, 48), (7, 54)] _ _ hP2 hPl2 hGl2 (by simp +contextual [hrr, hra, hrW, hrw, hOc, ren_nums, slV_ne, blV_ne, hP2, hG2])
        · generalize x % 2 = y at *
          have h93 := c93 P2 (by omega) hP2
          have h94 := c94' G2 (by omega)
          simp [hklt, hwL, hxg, hxg2, htm, hpar]
          refine SC_pure h93 ?_
          simp
          refine SC_pure h94 ?_
          have hP2r : P2.reverse ≠ [] := by simpa using hP2
          cases o <;> by_cases hG2 : G2 = [] <;> simp [hklt, hwL, hb1, hb2, hP2, hG2, sr_imV, hwk, hal', hlb]
          · exact fin P2.reverse [] lb [(6, 54)] _ _ hP2r (by simpa using hPl2) (by simp) (by simp +contextual [hrr, hra, hrW, hrw, hOc, ren_nums, slV_ne, blV_ne, hP2])
          · exact fin P2.reverse G2.reverse lb [(6, 54), (7, 60)] _ _ hP2r (by simpa using hPl2) (by simpa using hGl2) (by simp +contextual [hrr, hra, hrW, hrw, hOc, ren_nums, slV_ne, blV_ne, hP2, hG2])
          · exact fin P2.reverse [] true [(6, 54)] _ _ hP2r (by simpa using hPl2) (by simp) (by simp +contextual [hrr, hra, hrW, hrw, hOc, ren_nums, slV_ne, blV_ne, hP2])
          · exact fin P2.reverse G2.reverse true [(6, 54), (7, 60)] _ _ hP2r (by simpa using hPl2) (by simpa using hGl2) (by simp +contextual [hrr, hra, hrW, hrw, hOc, ren_nums, slV_ne, blV_ne, hP2, hG2])
    · have hke : k = w.length := by omega
      subst hke
      rw [List.take_length] at hD hP
      have hFR : FRow (strOf n2 w) [.bool ab, imV (nums D), imV (prow P), imV (irow G), .bool o] := ⟨ab, o, P, G, by rw [hD], hP⟩
      have hOw := hO.snoc hFR
      have htk : (W.take (i + 1)).map (strOf n2) = (W.take i).map (strOf n2) ++ [strOf n2 w] := by rw [List.take_add_one, hw]; simp
      simp [hwL, hOb, hwi]
      refine hN1 (i + 1, O ++ [[.bool ab, imV (nums D), imV (prow P), imV (irow G), .bool o]]) _ _ (by simp; omega) ⟨by simp; omega, by rw [htk]; exact hOw⟩ (SubF.wk (l := [(2, 15)]) (S := [5, 6, 7]) ⟨by simp, by simp, by simp [hrr, hra, hrW], ?_, by simp⟩)
      simp [SubFB, hrr]
      refine .inr ⟨5, _, ⟨rfl, rfl⟩, rfl, ?_⟩
      rw [hOc, fzLL_snoc hO.closed]
      simp [fz_nums, fz_prow, fz_irow, fz_bool]
  · have hie : i = W.length := by omega
    subst hie
    rw [List.take_length] at hO
    have hOn : O ≠ [] := by
      intro e
      subst e
      exact hW0 (List.length_eq_zero_iff.1 hOl.symm)
    simp [hWL]
    exact endK (hK (.sl 1 0 O.length) ⟨[(1, .cells 5 O)], 2⟩ ⟨O, hO, rfl, rfl⟩) [(1, 2)] (by simp [slV_ne, blV_ne, hOn, hOc])
end Go.Known
