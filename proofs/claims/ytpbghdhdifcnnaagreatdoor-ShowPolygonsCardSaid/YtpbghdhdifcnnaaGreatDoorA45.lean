/- Part 45 of the proof: Rn. -/
import Derived.Test.YtpbghdhdifcnnaaGreatDoorA43
import Derived.Test.YtpbghdhdifcnnaaGreatDoorA44
set_option linter.all false
namespace Go.Known
open Go Go.AE Go.Proofs
open Go.Plain
def prowP (l : List Pol) : List (List AVal) := l.map fun p => [.int .i64 (p.1 : Nat), .int .i64 (p.2.1 : Nat), .bool p.2.2]
@[simp] theorem prowP_length (l : List Pol) : (prowP l).length = l.length := by simp [prowP]
@[simp] theorem prowP_nil {l : List Pol} : prowP l = [] ↔ l = [] := by simp [prowP]
@[simp] theorem prowP_nil0 : prowP [] = [] := rfl
theorem prowP_snoc (l : List Pol) (p : Pol) : prowP (l ++ [p]) = prowP l ++ [[.int .i64 (p.1 : Nat), .int .i64 (p.2.1 : Nat), .bool p.2.2]] := by simp [prowP]
theorem closed_prowP : ∀ (l : List Pol), closedLL (prowP l) = true
  | [] => rfl
  | p :: r => by
    have := closed_prowP r
    simp only [prowP, List.map_cons, closedLL, closedL, AVal.closed, Bool.and_true, Bool.true_and] at this ⊢
    exact this
@[simp] theorem ren_prowP (q : Nat → Nat) (l : List Pol) : renLL q (prowP l) = prowP l := renLL_closed q _ (closed_prowP l)
theorem prowP_get {l : List Pol} {i : Nat} {p : Pol} (h : l[i]? = some p) : (prowP l)[i]? = some [.int .i64 (p.1 : Nat), .int .i64 (p.2.1 : Nat), .bool p.2.2] := by rw [prowP, List.getElem?_map, h]; rfl
theorem scal_prowP {get : Nat → Option ABlk} {n : Nat} (l : List Pol) : ∀ row, row ∈ prowP l → ∀ x, x ∈ row → freezeV get (n + 1) x = some x := by
  intro row hr x hx
  obtain ⟨i, _, rfl⟩ := List.mem_map.1 hr
  simp only [List.mem_cons, List.not_mem_nil, or_false] at hx
  rcases hx with rfl | rfl | rfl <;> rfl
theorem imV_ne {rows : List (List AVal)} (h : ¬ rows = []) : imV rows = .imm rows := by simp [imV, h]
theorem cornN_take {ls : List Lt} {w : List Nat} {k x : Nat} (h : w[k]? = some x) : cornN ls (w.take (k + 1)) = cornN ls (w.take k) + if isC ls x then 1 else 0 := by
  have e : w.take (k + 1) = w.take k ++ [x] := by rw [List.take_add_one, h]; rfl
  rw [e, cornN_snoc]
set_option maxRecDepth 100000 in
set_option maxHeartbeats 8000000 in
theorem c19 (f : Int) (ls : List Lt) (L : List (List Nat × Bool)) (h : ls.length ≤ 1000) (h0 : ls ≠ []) (hF : Ctr Tryz.prog 52 [cV f ls] ⟨[], 1⟩ fun v m => ∃ rows, RowsF L rows ∧ v = .imm rows ∧ m = ⟨[], 2⟩)
    (hL0 : L ≠ []) (hLl : L.length ≤ 10000) (hLw : ∀ w, w ∈ L → w.1 ≠ [] ∧ w.1.length ≤ 5000 ∧ ∀ x, x ∈ w.1 → x < 2 * ls.length) :
    PCall Tryz.prog 19 [cV f ls] (.imm (prowP (L.map (polN ls)))) := by
  refine PCall_F hm 3 Tryz.func19 ch19 rfl rfl (by simp [closedL, AVal.closed, closed_rows]) (by simp [AVal.closed, closed_prowP]) fun K hK => ?_
  have hR := rows_of ls
  have hrr : ∀ q, renLL q (ls.map rowL) = ls.map rowL := fun q => renLL_closed q _ (closed_rows ls)
  have h53 := fun d hd => c53 f ls d h hd
  unfold cV at *
  generalize ls.map rowL = rows at *
  have hlen := hR.len
  have hlp : 0 < ls.length := List.length_pos_iff.2 h0
  simp [hlen, h0]
  refine SC_ctr hF [] (by simp [hrr]) (by simp) (by simp) ?_
  rintro r sm ⟨FR, hFR, rfl, rfl⟩
  have hFl : FR.length = L.length := hFR.1
  have hFc : ∀ q, renLL q FR = FR := fun q => renLL_closed q _ hFR.closed
  simp [hFc]
  refine wZ_loop (α := Nat × List Pol) (fun a => [(5, .int .i64 a.1), (4, .imm FR), (3, slV 2 (prowP a.2)), (1, .ptr 1 0 0)]) (fun a => ⟨(1, .cells 2 [[.int .i64 f, .imm rows]]) :: blV 2 3 (prowP a.2) [], 3⟩)
    (fun a => L.length - a.1) (fun a => a.1 ≤ L.length ∧ a.2 = (L.take a.1).map (polN ls)) (0, []) [] (by simp [hrr, hFc]) (by simp) ?_
  rintro ⟨i, R⟩ ⟨hi, hRp⟩ N1 hN1
  simp only at hi hRp hN1 ⊢
  have hRl : R.length = i := by rw [hRp]; simp; omega
  by_cases hlt : i < L.length
  · obtain ⟨w, hw⟩ : ∃ w, L[i]? = some w := ⟨_, List.getElem?_eq_getElem hlt⟩
    obtain ⟨row, hg, ab, o, P, G, rfl, hP⟩ := hFR.2 i w hw
    obtain ⟨_, hg2⟩ := getE hg
    obtain ⟨hwn, hwl, hwx⟩ := hLw w (List.mem_of_getElem? hw)
    have hwi : IntKind.i64.wrap ((i : Int) + 1) = (i : Int) + 1 := wrap64 (by omega) (by omega)
    have htk : (L.take (i + 1)).map (polN ls) = R ++ [polN ls w] := by rw [List.take_add_one, hw, hRp]; simp
    have hin : decide (P = []) = !w.2 := by
      cases hw2 : w.2 with
      | true => simpa using hP.1 hw2
      | false =>
        have : ¬ P ≠ [] := fun e => by have := hP.2 e; rw [hw2] at this; cases this
        simpa using this
    have hRb : R.length ≤ 1048575 := by omega
    have hwL : (nums w.1).length = w.1.length := len_nums _
    have hwG : ∀ (k x : Nat), w.1[k]? = some x → (nums w.1)[k]? = some [.int .i64 (x : Int)] := fun k x => nums_get
    rw [imV_ne (rows := nums w.1) (by simpa using hwn)] at hg hg2
    generalize nums w.1 = wr at *
    simp [hlt, hFl, hg, hg2, hin, hwL]
    refine wZ_loop (α := Nat) (fun k => [(7, .int .i64 k), (6, .ptr 3 0 0), (5, .int .i64 i), (4, .imm FR), (3, slV 2 (prowP R)), (1, .ptr 1 0 0)])
      (fun k => ⟨(1, .cells 2 [[.int .i64 f, .imm rows]]) :: (3, .cells 3 [[.int .i64 (cornN ls (w.1.take k) : Nat), .int .i64 w.1.length, .bool (!w.2)]]) :: blV 2 3 (prowP R) [], 4⟩)
      (fun k => w.1.length - k) (fun k => k ≤ w.1.length) 0 [(3, 21)] (by simp +contextual [hrr, hFc, cornN]) (by simp) ?_
    intro k hk N2 hN2
    try simp only at hk hN2 ⊢
    by_cases hklt : k < w.1.length
    · obtain ⟨x, hx⟩ : ∃ x, w.1[k]? = some x := ⟨_, List.getElem?_eq_getElem hklt⟩
      have hxg := hwG k x hx
      obtain ⟨hxl, hxg2⟩ := getE hxg
      have hxn := hwx x (List.mem_of_getElem? hx)
      have hwk : IntKind.i64.wrap ((k : Int) + 1) = (k : Int) + 1 := wrap64 (by omega) (by omega)
      have hct := cornN_take (ls := ls) hx
      have hcl := cornN_le ls (w.1.take k)
      rw [List.length_take] at hcl
      have h53' := h53 x hxn
      have hhl := head_lt hxn
      unfold isC at hct
      generalize headN ls.length x = u at *
      have hrow := hR.row u hhl
      obtain ⟨_, hrow2⟩ := getE hrow
      generalize cornN ls (w.1.take k) = c at *
      have hwc : IntKind.i64.wrap ((c : Int) + 1) = (c : Int) + 1 := wrap64 (by omega) (by omega)
      simp [hlt, hFl, hg, hg2, hwL, hklt, hxg, hxg2]
      refine DC_pure h53' ?_
      by_cases hk2 : (at' ls u).k = 2
      · simp [hlen, hhl, hrow, hrow2, rowL, hk2, hwc, hwk]
        exact hN2 (k + 1) [] _ _ (by omega) (by omega) (by simp +contextual [hrr, hFc, hct, hk2])
      · simp [hlen, hhl, hrow, hrow2, rowL, hk2, hwc, hwk]
        exact hN2 (k + 1) [] _ _ (by omega) (by omega) (by simp +contextual [hrr, hFc, hct, hk2])
    · have hke : k = w.1.length := by omega
      subst hke
      rw [List.take_length]
      simp [hlt, hFl, hg, hg2, hwL, hRb, hwi]
      refine hN1 (i + 1, R ++ [polN ls w]) [(2, 15)] _ _ (by simp; omega) ⟨by simp; omega, htk.symm⟩ (by simp [hrr, hFc, prowP_snoc, polN])
  · have hie : i = L.length := by omega
    subst hie
    rw [List.take_length] at hRp
    subst hRp
    have hRn : prowP (L.map (polN ls)) ≠ [] := by simpa using hL0
    simp [hFl]
    refine endK (hK (slV 2 (prowP (L.map (polN ls)))) ⟨blV 2 3 (prowP (L.map (polN ls))) [], 3⟩ ?_) [] (by simp +contextual)
    rw [slV_ne hRn]
    exact freeze_rows (k := 3) (by simp [blV_ne, hRn]) (scal_prowP _)
theorem sd_minmax (id : Nat) (fe : AOpd → AVal) (get : Nat → Option ABlk) (mx : Bool) (x : AOpd) (r : List AOpd) : stepD id fe get (.minmax mx (x :: r)) = vo (minmaxA mx (fe x) (r.map fe)) := by simp only [stepD]; unfold vo; rfl
set_option maxHeartbeats 8000000 in
theorem c21 (ps : List Pol) (hl : ps.length ≤ 10000) (hc : ∀ p, p ∈ ps → p.1 < 6000) : PCall Tryz.prog 21 [imV (prowP ps)] (.imm (nums (patR ps))) := by
  refine PCall_F hm 2 Tryz.func21 ch21 rfl rfl (by simp [closedL, closed_imV, closed_prowP]) (by simp [AVal.closed, closed_nums]) fun K hK => ?_
  have hpl : (prowP ps).length = ps.length := prowP_length ps
  have hpg : ∀ (i : Nat) (p : Pol), ps[i]? = some p → (prowP ps)[i]? = some [.int .i64 (p.1 : Nat), .int .i64 (p.2.1 : Nat), .bool p.2.2] := fun i p => prowP_get
  have hpn : 0 < ps.length → imV (prowP ps) = .imm (prowP ps) := fun h => imV_ne (by intro e; rw [prowP_nil] at e; subst e; simp at h)
  have hpr : ∀ q, (imV (prowP ps)).ren q = imV (prowP ps) := fun q => AVal.ren_closed q _ (closed_imV (closed_prowP ps))
  simp
  refine wZ_loop (α := Nat) (fun i => [(4, .int .i64 i), (3, .int .i64 ((mxP (ps.take i) : Int) - 1)), (0, imV (prowP ps))]) (fun i => ⟨[], 1⟩) (fun i => ps.length - i) (fun i => i ≤ ps.length) 0 [] (by simp [hpr, mxP]) (by simp) ?_
  intro i hi N1 hN1
  try simp only at hi hN1 ⊢
  by_cases hlt : i < ps.length
  · obtain ⟨p, hp⟩ : ∃ p, ps[i]? = some p := ⟨_, List.getElem?_eq_getElem hlt⟩
    have hg := hpg i p hp
    obtain ⟨_, hg2⟩ := getE hg
    have hwi : IntKind.i64.wrap ((i : Int) + 1) = (i : Int) + 1 := wrap64 (by omega) (by omega)
    have hmx : mxP (ps.take (i + 1)) = mxS (mxP (ps.take i)) p := foldl_take mxS 0 hp
    have hpn' := hpn (by omega)
    obtain ⟨pc, psd, pin⟩ := p
    have hN := hN1 (i + 1) []
    rw [hpn'] at hN hpr ⊢
    cases pin with
    | true =>
      have hmx' : mxP (ps.take (i + 1)) = max (mxP (ps.take i)) (pc + 1) := by rw [hmx]; simp [mxS]
      have hmm : (if (pc : Int) > ((mxP (ps.take i) : Nat) : Int) - 1 then (pc : Int) else ((mxP (ps.take i) : Nat) : Int) - 1) = ((mxP (ps.take (i + 1)) : Nat) : Int) - 1 := by
        rw [hmx']
        split <;> omega
      generalize mxP (ps.take i) = M at *
      generalize mxP (ps.take (i + 1)) = M1 at *
      simp [hlt, hpl, hg, hg2, hwi, sd_minmax, minmaxA, hmm]
      exact hN _ _ (by omega) (by omega) (by simpa using hpr)
    | false =>
      have hmx' : mxP (ps.take (i + 1)) = mxP (ps.take i) := by rw [hmx]; simp [mxS]
      rw [hmx'] at hN
      simp [hlt, hpl, hg, hg2, hwi]
      exact hN _ _ (by omega) (by omega) (by simpa using hpr)
  · have hie : i = ps.length := by omega
    subst hie
    rw [List.take_length]
    obtain ⟨M, hM⟩ : ∃ M, mxP ps = M := ⟨_, rfl⟩
    have hMb : M ≤ 6000 := by rw [← hM]; exact mx_le (by omega) hc
    have hMm : ∀ p, p ∈ ps → p.2.2 = true → p.1 < M := fun p hp h2 => by rw [← hM]; exact mem_mx hp h2
    have hpR : patR ps = ps.foldl patT (List.replicate M 0) := by rw [← hM]; rfl
    rw [hpR] at hK
    have hwM : IntKind.i64.wrap (M : Int) = (M : Int) := wrap64 (by omega) (by omega)
    have hMr : M ≤ 1048576 := by omega
    have e0 : List.replicate M [AVal.int .i64 0] = nums (List.replicate M 0) := by simp [nums]
    clear hN1
    rw [hM]
    obtain ⟨Z0, hZ0⟩ : ∃ Z0, List.replicate M 0 = Z0 := ⟨_, rfl⟩
    rw [hZ0] at hK e0
    have hZl : Z0.length = M := by rw [← hZ0]; simp
    simp [hpl, hwM, hMr, e0]
    refine wZ_loop (α := Nat) (fun i => [(6, .int .i64 i), (5, .sl 1 0 M), (0, imV (prowP ps))]) (fun i => ⟨[(1, .cells 1 (nums ((ps.take i).foldl patT Z0)))], 2⟩) (fun i => ps.length - i)
      (fun i => i ≤ ps.length ∧ ((ps.take i).foldl patT Z0).length = M ∧ ∀ x, x ∈ (ps.take i).foldl patT Z0 → x ≤ i) 0 [(1, 7)] (by simp [hpr, ren_nums]) ⟨by simp, hZl, by simp [← hZ0]⟩ ?_
    rintro i ⟨hi, hol, hob⟩ N2 hN2
    try simp only at hi hol hob hN2 ⊢
    by_cases hlt : i < ps.length
    · obtain ⟨p, hp⟩ : ∃ p, ps[i]? = some p := ⟨_, List.getElem?_eq_getElem hlt⟩
      have hg := hpg i p hp
      obtain ⟨_, hg2⟩ := getE hg
      have hwi : IntKind.i64.wrap ((i : Int) + 1) = (i : Int) + 1 := wrap64 (by omega) (by omega)
      have hft : (ps.take (i + 1)).foldl patT Z0 = patT ((ps.take i).foldl patT Z0) p := foldl_take patT Z0 hp
      have hpn' := hpn (by omega)
      have hMp := hMm p (List.mem_of_getElem? hp)
      have hN := hN2 (i + 1) []
      rw [hft] at hN
      rw [hpn'] at hN hpr ⊢
      generalize (ps.take i).foldl patT Z0 = out at *
      have hnb : ∀ x, x ∈ patT out p → x ≤ i + 1 := patT_le hob
      have hnl : (patT out p).length = M := by rw [patT_length]; exact hol
      obtain ⟨pc, psd, pin⟩ := p
      cases pin with
      | true =>
        have hpc : pc < M := hMp rfl
        obtain ⟨y, hy⟩ : ∃ y, out[pc]? = some y := ⟨_, List.getElem?_eq_getElem (by omega)⟩
        have hyg := nums_get hy
        have hyb := hob y (List.mem_of_getElem? hy)
        have hyl : (nums out).length = M := by rw [len_nums, hol]
        obtain ⟨_, hyg2⟩ := getE hyg
        have hwy : IntKind.i64.wrap ((y : Int) + 1) = ((y + 1 : Nat) : Int) := by rw [wrap64 (by omega) (by omega)]; omega
        have hset : (nums out).set pc [AVal.int .i64 ((y + 1 : Nat) : Int)] = nums (patT out (pc, psd, true)) := by
          rw [nums_set]
          simp [patT, addP, List.getD_eq_getElem?_getD, hy]
        generalize patT out (pc, psd, true) = out2 at *
        generalize nums out = O at *
        simp [hlt, hpl, hg, hg2, hwi, hpc, hyg, hyg2, hyl, hwy, hset, -Int.natCast_add]
        exact hN _ _ (by omega) ⟨by omega, hnl, hnb⟩ (by simpa [ren_nums] using hpr)
      | false =>
        have he : patT out (pc, psd, false) = out := by simp [patT]
        rw [he] at hN hnb hnl
        simp [hlt, hpl, hg, hg2, hwi]
        exact hN _ _ (by omega) ⟨by omega, hnl, hnb⟩ (by simpa [ren_nums] using hpr)
    · have hie : i = ps.length := by omega
      subst hie
      rw [List.take_length] at hol ⊢
      simp [hpl]
      refine endK (hK (.sl 1 0 M) ⟨[(1, .cells 1 (nums (ps.foldl patT Z0)))], 2⟩ ?_) [] (by simp [ren_nums])
      rw [← hol, ← len_nums (ps.foldl patT Z0)]
      exact freeze_rows (k := 1) (by simp) (scal_nums _)
end Go.Known
