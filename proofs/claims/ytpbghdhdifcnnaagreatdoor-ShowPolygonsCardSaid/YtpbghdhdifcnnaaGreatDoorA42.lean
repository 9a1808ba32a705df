/- Part 42 of the proof: Rk, Rl. -/
import Derived.Test.YtpbghdhdifcnnaaGreatDoorA20
import Derived.Test.YtpbghdhdifcnnaaGreatDoorA40
import Derived.Test.YtpbghdhdifcnnaaGreatDoorA41
set_option linter.all false
section
namespace Go.Known
open Go Go.AE Go.Proofs
open Go.Plain
theorem wks_seen {T : Nat → Nat} {N d : Nat} {seen : List Bool} (hd : d < N) (h : seen[d]? = some true) : wks T N (N - d) seen = wks T N (N - (d + 1)) seen := by
  obtain ⟨k, hk⟩ : ∃ k, N - d = k + 1 := ⟨N - d - 1, by omega⟩
  rw [hk, wks, show N - (k + 1) = d by omega, getD_eq h, if_pos rfl]
  congr 1; omega
theorem wks_new {T : Nat → Nat} {N d : Nat} {seen : List Bool} (hd : d < N) (h : seen[d]? = some false) : wks T N (N - d) seen = tr T (N + 1) seen d :: wks T N (N - (d + 1)) (Plain.mark T (N + 1) seen d) := by
  obtain ⟨k, hk⟩ : ∃ k, N - d = k + 1 := ⟨N - d - 1, by omega⟩
  rw [hk, wks, show N - (k + 1) = d by omega, getD_eq h, if_neg (by simp)]
  congr 2; omega
theorem tr_seen {T : Nat → Nat} {k x : Nat} {seen : List Bool} (h : seen[x]? = some true) : tr T k seen x = [] := by
  cases k with
  | zero => rfl
  | succ k => rw [tr, getD_eq h, if_pos rfl]
theorem tr_new {T : Nat → Nat} {k x : Nat} {seen : List Bool} (h : seen[x]? = some false) : tr T (k + 1) seen x = x :: tr T k (seen.set x true) (T x) := by
  rw [tr, getD_eq h, if_neg (by simp)]
set_option maxRecDepth 100000 in
set_option maxHeartbeats 4000000 in
theorem c16 (f : Int) (ls : List Lt) (T : Nat → Nat) (m : Nat) (h : ls.length ≤ 1000) (h0 : 0 < passes ls) (hm' : (axis ls).length = m) (hml : m ≤ 1000)
    (hT : ∀ d, d < 2 * ls.length + 2 * m → T d < 2 * ls.length + 2 * m) (hC : ∀ d, d < 2 * ls.length + 2 * m → PCall Tryz.prog 68 [cV f ls, .imm (nums (axis ls)), .int .i64 d] (.int .i64 (T d : Nat))) :
    PCall Tryz.prog 34 [cV f ls] (.imm (wrows (walks T (2 * ls.length + 2 * m)))) := by
  refine PCall_F hm 3 Tryz.func34 cf16 rfl rfl (by simp [closedL, closed_cV]) (by simp [AVal.closed, closed_wrows]) fun K hK => ?_
  have hR := rows_of ls
  have h39 := c39 f ls h h0
  have hal : (nums (axis ls)).length = m := by rw [nums_len]; exact hm'
  have hrr : ∀ q, renLL q (ls.map rowL) = ls.map rowL := fun q => renLL_closed q _ (closed_rows ls)
  have hra : ∀ q, renLL q (nums (axis ls)) = nums (axis ls) := fun q => ren_nums q _
  unfold cV at *
  generalize ls.map rowL = rows at *
  generalize nums (axis ls) = axr at *
  have hlen := hR.len
  generalize hN : 2 * ls.length + 2 * m = N at *
  have hw1 : IntKind.i64.wrap (2 * (ls.length : Int)) = 2 * (ls.length : Int) := wrap64 (by omega) (by omega)
  have hw2 : IntKind.i64.wrap (2 * (m : Int)) = 2 * (m : Int) := wrap64 (by omega) (by omega)
  have hw3 : IntKind.i64.wrap (2 * (ls.length : Int) + 2 * (m : Int)) = (N : Int) := by rw [wrap64 (by omega) (by omega)]; omega
  have hNr : N ≤ 1048576 := by omega
  simp
  refine SC_pure h39 ?_
  obtain ⟨S0, hS0⟩ : ∃ S0, List.replicate N false = S0 := ⟨_, rfl⟩
  have e1 : List.replicate N [AVal.bool false] = bls S0 := by rw [← hS0, bls_rep]
  have hS0l : S0.length = N := by rw [← hS0]; simp
  simp [hlen, hal, hw1, hw2, hw3, hNr, e1]
  refine wZ_loopW (α := Nat × List Bool × List (List Nat)) (fun a => [(6, .int .i64 a.1), (5, .sl 2 0 N), (4, .imm axr), (3, slV 3 (wrows a.2.2)), (1, .ptr 1 0 0)])
    (fun a => ⟨(1, .cells 2 [[.int .i64 f, .imm rows]]) :: (2, .cells 1 (bls a.2.1)) :: blV 3 1 (wrows a.2.2) [], 4⟩)
    (fun a => N - a.1) (fun a => a.1 ≤ N ∧ a.2.1.length = N ∧ a.2.2.length ≤ a.1 ∧ a.2.2 ++ wks T N (N - a.1) a.2.1 = walks T N) (0, S0, []) (SubR.wk (l := [(2, 15)]) (by simp [hrr, hra, ren_bls, wrows])) ⟨by simp, hS0l, by simp, by simp [walks, hS0]⟩ ?_
  rintro ⟨d, seen, out⟩ ⟨hd, hsl, hol, hout⟩ N1 hN1
  simp only at hd hsl hol hout hN1 ⊢
  by_cases hlt : d < N
  · have hwd : IntKind.i64.wrap ((d : Int) + 1) = (d : Int) + 1 := wrap64 (by omega) (by omega)
    obtain ⟨b, hb⟩ : ∃ b, seen[d]? = some b := ⟨_, List.getElem?_eq_getElem (by omega)⟩
    have hbg := bls_get hb
    have hbl : (bls seen).length = N := by rw [bls, List.length_map, hsl]
    obtain ⟨_, hbg2⟩ := getE hbg
    cases b with
    | true =>
      rw [wks_seen hlt hb] at hout
      generalize hSe : bls seen = S at *
      simp [hlt, hbg, hbg2, hbl, hwd]
      exact hN1 (d + 1, seen, out) _ _ (by simp; omega) ⟨by simp; omega, hsl, by simp; omega, hout⟩ (SubR.wk (l := []) (by simp +contextual [hrr, hra, ← hSe, ren_bls, ren_wrows]))
    | false =>
      rw [wks_new hlt hb] at hout
      generalize hSe : bls seen = S at *
      simp [hlt, hbg, hbg2, hbl]
      subst hSe
      refine wZ_loop (α := Nat × List Bool × List Nat × Nat) (fun a => [(8, .int .i64 a.1), (7, slV 4 (nums a.2.2.1)), (6, .int .i64 d), (5, .sl 2 0 N), (4, .imm axr), (3, slV 3 (wrows out)), (1, .ptr 1 0 0)])
        (fun a => ⟨(1, .cells 2 [[.int .i64 f, .imm rows]]) :: (2, .cells 1 (bls a.2.1)) :: blV 3 1 (wrows out) (blV 4 1 (nums a.2.2.1) []), 5⟩)
        (fun a => unseen a.2.1) (fun a => a.1 < N ∧ a.2.1.length = N ∧ unseen a.2.1 < a.2.2.2 ∧ a.2.2.1.length + unseen a.2.1 ≤ N ∧ Plain.mark T (N + 1) seen d = Plain.mark T a.2.2.2 a.2.1 a.1 ∧ tr T (N + 1) seen d = a.2.2.1 ++ tr T a.2.2.2 a.2.1 a.1) (d, seen, [], N + 1) [] (by simp +contextual [hrr, hra, ren_bls, ren_wrows]) ⟨hlt, hsl, by have := unseen_le (l := seen); simp; omega, by have := unseen_le (l := seen); simp; omega, rfl, rfl⟩ ?_
      rintro ⟨x, sn, w, fu⟩ ⟨hx, hsn, hfu, hwl, hmk, htr⟩ N2 hN2
      simp only at hx hsn hfu hwl hmk htr hN2 ⊢
      obtain ⟨b2, hb2⟩ : ∃ b2, sn[x]? = some b2 := ⟨_, List.getElem?_eq_getElem (by omega)⟩
      have hb2g := bls_get hb2
      have hb2l : (bls sn).length = N := by rw [bls, List.length_map, hsn]
      obtain ⟨_, hb2g2⟩ := getE hb2g
      cases b2 with
      | true =>
        rw [mark_seen hb2] at hmk
        rw [tr_seen hb2, List.append_nil] at htr
        rw [hmk, htr] at hout
        have hwn : w ≠ [] := by
          rw [← htr, tr_new hb]; simp
        generalize hSe : bls sn = S at *
        have hlo : (wrows out).length ≤ 1048575 := by rw [wrows_length]; omega
        simp [hx, hb2g, hb2g2, hb2l, hwd, hlo]
        refine hN1 (d + 1, sn, out ++ [w]) _ _ (by simp; omega) ⟨by simp; omega, hsn, by simp; omega, by simp [← hout]⟩ (SubF.wk (l := [(3, 13)]) (S := [4]) ⟨by simp, by simp, by simp [wrows_snoc, hrr, hra], ?_, by simp [wrows_snoc]⟩)
        have hnw : nums w ≠ [] := by simpa using hwn
        simp [SubFB, wrows_snoc, hrr, ren_wrows, ren_bls, ← hSe]
        refine .inr ⟨1, _, ⟨rfl, rfl⟩, rfl, ?_⟩
        rw [ren_nums, fzLL_snoc (closed_wrows _)]
        simp [fz_nums, imV, hwn]
      | false =>
        have hun := unseen_set hb2
        have hset := bls_set sn x true
        obtain ⟨fu', rfl⟩ : ∃ fu', fu = fu' + 1 := ⟨fu - 1, by omega⟩
        rw [mark_new hb2] at hmk
        rw [tr_new hb2] at htr
        have hcx := hC x hx
        have hTx := hT x hx
        have hlo : w.length ≤ 1048575 := by omega
        have hsn1 : (sn.set x true).length = N := by simpa using hsn
        generalize sn.set x true = sn1 at *
        generalize hSe : bls sn = S at *
        simp [hx, hb2g, hb2g2, hb2l, hset, hlo]
        refine SC_pure hcx ?_
        simp
        exact hN2 (T x, sn1, w ++ [x], fu') [(4, 17)] _ _ (by simp; omega) ⟨hTx, hsn1, by simp; omega, by simp; omega, hmk, by simp [htr]⟩ (by simp +contextual [hrr, hra, ren_bls, ren_wrows, ren_nums, ← hSe])
  · have he : d = N := by omega
    subst he
    rw [Nat.sub_self] at hout
    simp only [wks, List.append_nil] at hout
    subst hout
    have hwn : wrows (walks T d) ≠ [] := by
      have hcp := cycles_pos (T := T) (N := d) (by have := axis_length ls; omega)
      have hl := wks_length T d d (List.replicate d false)
      intro e
      have := wrows_length (walks T d)
      rw [e] at this
      unfold walks at this
      unfold cycles at hcp
      simp at this
      omega
    simp
    refine endK (hK (slV 3 (wrows (walks T d))) ⟨blV 3 1 (wrows (walks T d)) [], 4⟩ ?_) [] (by simp +contextual [ren_wrows])
    simp only [slV, if_neg hwn]
    exact freeze_rows (k := 1) (by simp [hwn]) (scal_wrows _)
theorem c16' (f : Int) (ls : List Lt) (h : ls.length ≤ 1000) (h0 : 0 < passes ls) (hk : ∀ v, v < ls.length → (at' ls v).k ≠ 2 → (at' ls v).k = 1) :
    PCall Tryz.prog 34 [cV f ls] (.imm (wrows (walks (turnN ls (axis ls)) (2 * ls.length + 2 * passes ls)))) := by
  have hal := axis_length ls
  have hax : ∀ v, v ∈ axis ls → v < ls.length := fun v hv => (mem_axis.1 hv).1
  have hmm : ∀ v, v < ls.length → (at' ls v).k ≠ 2 → v ∈ axis ls := fun v hv h2 => mem_axis.2 ⟨hv, by simp [isP, hk v hv h2]⟩
  have hpl : passes ls ≤ ls.length := cntP_le_one
  refine c16 f ls _ _ h h0 hal (by omega) (fun d hd => ?_) (fun d hd => ?_)
  · rw [← hal] at hd ⊢
    exact turnN_lt' hax hmm (by omega) hd
  · by_cases hd1 : 2 * ls.length ≤ d
    · exact c40a f ls _ d h (by omega) hd1 (by omega) hax
    · exact c40b f ls _ d h (by omega) hd1 hmm (by omega)
end Go.Known
end
section
namespace Go.Known
open Go Go.AE Go.Proofs
open Go.Plain
def prow (l : List (Int × Int)) : List (List AVal) := l.map fun p => [.int .i64 p.1, .int .i64 p.2]
def irow (l : List Int) : List (List AVal) := l.map fun x => [.int .i64 x]
@[simp] theorem prow_length (l : List (Int × Int)) : (prow l).length = l.length := by simp [prow]
@[simp] theorem irow_length (l : List Int) : (irow l).length = l.length := by simp [irow]
@[simp] theorem prow_nil0 : prow [] = [] := rfl
@[simp] theorem irow_nil0 : irow [] = [] := rfl
@[simp] theorem prow_nil {l : List (Int × Int)} : prow l = [] ↔ l = [] := by simp [prow]
@[simp] theorem irow_nil {l : List Int} : irow l = [] ↔ l = [] := by simp [irow]
@[simp] theorem take_prow (l : List (Int × Int)) : (prow l).take l.length = prow l := List.take_of_length_le (by simp)
@[simp] theorem take_irow (l : List Int) : (irow l).take l.length = irow l := List.take_of_length_le (by simp)
theorem prow_snoc (l : List (Int × Int)) (a b : Int) : prow l ++ [[.int .i64 a, .int .i64 b]] = prow (l ++ [(a, b)]) := by simp [prow]
theorem irow_snoc (l : List Int) (a : Int) : irow l ++ [[.int .i64 a]] = irow (l ++ [a]) := by simp [irow]
theorem prow_snoc' (l : List (Int × Int)) (p : Int × Int) : prow (l ++ [p]) = prow l ++ [[.int .i64 p.1, .int .i64 p.2]] := by simp [prow]
theorem irow_snoc' (l : List Int) (a : Int) : irow (l ++ [a]) = irow l ++ [[.int .i64 a]] := by simp [irow]
theorem prow_app (l m : List (Int × Int)) : prow l ++ prow m = prow (l ++ m) := by simp [prow]
theorem irow_app (l m : List Int) : irow l ++ irow m = irow (l ++ m) := by simp [irow]
theorem closed_prow : ∀ (l : List (Int × Int)), closedLL (prow l) = true
  | [] => rfl
  | p :: r => by
    have := closed_prow r
    simp only [prow, List.map_cons, closedLL, closedL, AVal.closed, Bool.and_true, Bool.true_and] at this ⊢
    exact this
theorem closed_irow : ∀ (l : List Int), closedLL (irow l) = true
  | [] => rfl
  | p :: r => by
    have := closed_irow r
    simp only [irow, List.map_cons, closedLL, closedL, AVal.closed, Bool.and_true, Bool.true_and] at this ⊢
    exact this
@[simp] theorem ren_prow (q : Nat → Nat) (l : List (Int × Int)) : renLL q (prow l) = prow l := renLL_closed q _ (closed_prow l)
@[simp] theorem ren_irow (q : Nat → Nat) (l : List Int) : renLL q (irow l) = irow l := renLL_closed q _ (closed_irow l)
theorem prow_get {l : List (Int × Int)} {i : Nat} {p : Int × Int} (h : l[i]? = some p) : (prow l)[i]? = some [.int .i64 p.1, .int .i64 p.2] := by rw [prow, List.getElem?_map, h]; rfl
theorem irow_get {l : List Int} {i : Nat} {p : Int} (h : l[i]? = some p) : (irow l)[i]? = some [.int .i64 p] := by rw [irow, List.getElem?_map, h]; rfl
theorem scal_prow {get : Nat → Option ABlk} {n : Nat} (l : List (Int × Int)) : ∀ row, row ∈ prow l → ∀ x, x ∈ row → freezeV get (n + 1) x = some x := by
  intro row hr x hx
  obtain ⟨i, _, rfl⟩ := List.mem_map.1 hr
  simp only [List.mem_cons, List.not_mem_nil, or_false] at hx
  rcases hx with rfl | rfl <;> rfl
theorem scal_irow {get : Nat → Option ABlk} {n : Nat} (l : List Int) : ∀ row, row ∈ irow l → ∀ x, x ∈ row → freezeV get (n + 1) x = some x := by
  intro row hr x hx
  obtain ⟨i, _, rfl⟩ := List.mem_map.1 hr
  rw [List.mem_singleton] at hx
  subst hx
  rfl
@[simp] theorem all_prow (l : List (Int × Int)) : ((prow l).all fun x => x.length == 2) = true := by simp [prow]
@[simp] theorem all_irow (l : List Int) : ((irow l).all fun x => x.length == 1) = true := by simp [irow]
theorem closed_imV {rows : List (List AVal)} (h : closedLL rows = true) : (imV rows).closed = true := by unfold imV; split <;> first | rfl | exact h
@[simp] theorem imV_nil : imV [] = .nilSl := rfl
@[simp] theorem ren_imVi (q : Nat → Nat) (l : List Int) : (imV (irow l)).ren q = imV (irow l) := AVal.ren_closed q _ (closed_imV (closed_irow l))
@[simp] theorem ren_imVp (q : Nat → Nat) (l : List (Int × Int)) : (imV (prow l)).ren q = imV (prow l) := AVal.ren_closed q _ (closed_imV (closed_prow l))
@[simp] theorem ren_imVn (q : Nat → Nat) (l : List Nat) : (imV (nums l)).ren q = imV (nums l) := AVal.ren_closed q _ (closed_imV (closed_nums l))
theorem fz_prow {get : Nat → Option ABlk} {S : List Nat} {b : Nat} {l : List (Int × Int)} (hb : memN b S = true) (hg : get b = if prow l = [] then none else some (.cells 2 (prow l))) : fzV get S (slV b (prow l)) = imV (prow l) := fz_slV hb hg (scal_prow l)
theorem fz_irow {get : Nat → Option ABlk} {S : List Nat} {b : Nat} {l : List Int} (hb : memN b S = true) (hg : get b = if irow l = [] then none else some (.cells 1 (irow l))) : fzV get S (slV b (irow l)) = imV (irow l) := fz_slV hb hg (scal_irow l)
theorem fz_bool {get : Nat → Option ABlk} {S : List Nat} (b : Bool) : fzV get S (.bool b) = .bool b := fzV_closed rfl
@[simp] theorem sl_imV (rows : List (List AVal)) : sliceLen (imV rows) = some rows.length := by
  unfold imV
  split
  · rename_i h; subst h; rfl
  · rfl
theorem sr_imV {get : Nat → Option ABlk} {k : Nat} {rows : List (List AVal)} (h : (rows.all fun x => x.length == k) = true) : srcRowsD get k (imV rows) = some rows := by
  unfold imV
  split
  · rename_i h; subst h; rfl
  · rw [sr_imm, if_pos h]
theorem c91 (f : Int) (ls : List Lt) (e : Nat) (h : ls.length ≤ 1000) (he : e < ls.length) : PCall Tryz.prog 91 [cV f ls, .int .i64 e] (.bool (!down ls (e + 1))) := by
  refine PCall_1 hm Tryz.func91 ch91 rfl rfl (by simp [closedL, AVal.closed, closed_rows]) trivial fun K hK => ?_
  have h68 := c68 f ls (e + 1) h he
  have hrr : ∀ q, renLL q (ls.map rowL) = ls.map rowL := fun q => renLL_closed q _ (closed_rows ls)
  unfold cV at *
  generalize ls.map rowL = rows at *
  have hw1 : IntKind.i64.wrap ((e : Int) + 1) = ((e + 1 : Nat) : Int) := by rw [wrap64 (by omega) (by omega)]; omega
  simp [hw1]
  refine SC_pure h68 ?_
  simp
  exact endK hK [] (by simp)
theorem c53 (f : Int) (ls : List Lt) (d : Nat) (h : ls.length ≤ 1000) (hd : d < 2 * ls.length) : PCall Tryz.prog 53 [cV f ls, .int .i64 d] (.int .i64 (headN ls.length d : Nat)) := by
  refine PCall_1 hm Tryz.func53 ch53 rfl rfl (by simp [closedL, AVal.closed, closed_rows]) trivial fun K hK => ?_
  have hR := rows_of ls
  unfold cV at *
  generalize ls.map rowL = rows at *
  have hlen := hR.len
  have hn0 : ¬ ((ls.length : Int) = 0) := by omega
  have hne : ls ≠ [] := by intro e; subst e; simp at hd
  have htm : (d : Int).tmod 2 = ((d % 2 : Nat) : Int) := rfl
  have htd : (d : Int).tdiv 2 = ((d / 2 : Nat) : Int) := rfl
  have hwd : IntKind.i64.wrap ((d / 2 : Nat) : Int) = ((d / 2 : Nat) : Int) := wrap64 (by omega) (by omega)
  have hwe : IntKind.i64.wrap (((d / 2 : Nat) : Int) + 1) = ((d / 2 + 1 : Nat) : Int) := by rw [wrap64 (by omega) (by omega)]; omega
  have hm2 : ((d / 2 + 1 : Nat) : Int).tmod (ls.length : Int) = (((d / 2 + 1) % ls.length : Nat) : Int) := rfl
  unfold headN at hK
  by_cases hp : d % 2 = 0
  · rw [if_pos hp] at hK
    generalize d / 2 = g at *
    simp [htm, htd, hp, hwd, hwe, hm2, hlen, hn0, hne, -Int.natCast_add, -Int.natCast_emod]
    exact endK hK [] (by simp)
  · rw [if_neg hp] at hK
    generalize d / 2 = g at *
    generalize d % 2 = z at *
    simp [htm, htd, hp, hwd]
    exact endK hK [] (by simp)
set_option maxHeartbeats 1000000 in
theorem c147 (g r to : Int) (hg : 0 ≤ g) (hg2 : g ≤ 45) (ht : to ≤ 45) :
    Ctr Tryz.prog 147 [.int .i64 g, .int .i64 r, .int .i64 to] ⟨[], 1⟩ fun v m => ∃ P G, P ≠ [] ∧ P.length ≤ 47 ∧ G.length ≤ 46 ∧ v = .tuple [slV 1 (prow P), slV 2 (irow G)] ∧ m = ⟨blV 1 2 (prow P) (blV 2 1 (irow G) []), 3⟩ := by
  refine ctr_P hm Tryz.func147 ch147 rfl rfl fun K hK => ?_
  have hw1 : IntKind.i64.wrap (g + 1) = g + 1 := wrap64 (by omega) (by omega)
  simp [hw1]
  refine wZ_loop (α := Int × List (Int × Int) × List Int) (fun a => [(10, .int .i64 a.1), (9, slV 2 (irow a.2.2)), (8, slV 1 (prow a.2.1)), (2, .int .i64 to)])
    (fun a => ⟨blV 1 2 (prow a.2.1) (blV 2 1 (irow a.2.2) []), 3⟩) (fun a => (46 - a.1).toNat) (fun a => 1 ≤ a.1 ∧ a.1 ≤ 46 ∧ a.2.1 ≠ [] ∧ a.2.1.length ≤ a.1 ∧ a.2.2.length ≤ a.1) (g + 1, [(g, r)], []) [(1, 6)]
    (by simp [slV, blV, prow]) (by simp; omega) ?_
  rintro ⟨x, P, G⟩ ⟨hx, hx2, hP, hPl, hGl⟩ N hN
  simp only at hx hx2 hP hPl hGl hN ⊢
  by_cases hlt : x ≤ to
  · have hw2 : IntKind.i64.wrap (x + 1) = x + 1 := wrap64 (by omega) (by omega)
    have h1 : P.length ≤ 1048575 := by omega
    have h2 : G.length ≤ 1048575 := by omega
    simp [hlt, hw2, hP, h1, h2]
    exact hN (x + 1, P ++ [(x, 0)], G ++ [x]) [(1, 10), (2, 15)] _ _ (by simp; omega) ⟨by simp; omega, by simp; omega, by simp, by simp; omega, by simp; omega⟩ (by simp [← prow_snoc, ← irow_snoc])
  · simp [hlt]
    exact endK (hK _ _ ⟨P, G, hP, by omega, by omega, rfl, rfl⟩) [] (by simp +contextual)
set_option maxRecDepth 100000 in
set_option maxHeartbeats 4000000 in
theorem c92 (f : Int) (ls : List Lt) (ax : List Nat) (j : Nat) (h : ls.length ≤ 1000) (hf : f ≤ 40) (hax : ∀ v, v ∈ ax → v < ls.length ∧ 0 ≤ (at' ls v).g ∧ (at' ls v).g ≤ 40) (hj : j < ax.length) (hal : ax.length ≤ 1000) :
    Ctr Tryz.prog 92 [cV f ls, .imm (nums ax), .int .i64 j] ⟨[], 1⟩ fun v m => ∃ P G, P ≠ [] ∧ P.length ≤ 100 ∧ G.length ≤ 100 ∧ v = .tuple [slV 1 (prow P), slV 2 (irow G)] ∧ m = ⟨blV 1 2 (prow P) (blV 2 1 (irow G) []), 3⟩ := by
  refine ctr_P hm Tryz.func92 ch92 rfl rfl fun K hK => ?_
  have hR := rows_of ls
  have hrr : ∀ q, renLL q (ls.map rowL) = ls.map rowL := fun q => renLL_closed q _ (closed_rows ls)
  have hA : ∀ i, i < ax.length → ∃ v : Nat, (nums ax)[i]? = some [.int .i64 (v : Int)] ∧ v < ls.length ∧ 0 ≤ (at' ls v).g ∧ (at' ls v).g ≤ 40 := fun i hi => ⟨ax[i], nums_get (List.getElem?_eq_getElem hi), hax _ (List.getElem_mem hi)⟩
  have hAl : (nums ax).length = ax.length := len_nums _
  unfold cV at *
  generalize ls.map rowL = rows at *
  generalize nums ax = A at *
  have hlen := hR.len
  obtain ⟨y, hy⟩ : ∃ y, (j + 1) % ax.length = y := ⟨_, rfl⟩
  have hym : y < ax.length := by rw [← hy]; exact Nat.mod_lt _ (by omega)
  have hy3 : ((j : Int) + 1).tmod (ax.length : Int) = (y : Int) := by rw [← hy]; rfl
  have hw1 : IntKind.i64.wrap ((j : Int) + 1) = (j : Int) + 1 := wrap64 (by omega) (by omega)
  have hw2 : IntKind.i64.wrap ((ax.length : Int) - 1) = (ax.length : Int) - 1 := wrap64 (by omega) (by omega)
  have hm0 : ¬ ((ax.length : Int) = 0) := by omega
  have hm1 : ax ≠ [] := by intro e; subst e; simp at hj
  obtain ⟨v, hAv, hv, hv1, hv2⟩ := hA j hj
  obtain ⟨u, hAu, hu, hu1, hu2⟩ := hA y hym
  obtain ⟨_, hAv2⟩ := getE hAv
  obtain ⟨_, hAu2⟩ := getE hAu
  have hrv := hR.row v hv
  have hru := hR.row u hu
  obtain ⟨_, hrv2⟩ := getE hrv
  obtain ⟨_, hru2⟩ := getE hru
  generalize at' ls v = a at *
  generalize at' ls u = b at *
  by_cases hlt : j < ax.length - 1
  · have hlt' : (j : Int) < (ax.length : Int) - 1 := by omega
    simp [hlen, hAl, hw1, hw2, hm0, hm1, hy3, hj, hym, hAv, hAv2, hAu, hAu2, hv, hu, hrv, hrv2, hru, hru2, rowL, hlt']
    refine SC_ctr (c147 a.g a.r b.g hv1 (by omega) (by omega)) [] rfl (by simp) (by simp) ?_
    rintro r sm ⟨P, G, hP, hPl, hGl, rfl, rfl⟩
    simp
    exact endK (hK _ _ ⟨P, G, hP, by omega, by omega, rfl, rfl⟩) [(1, 44), (2, 45)] (by simp +contextual)
  · have hlt' : ¬ (j : Int) < (ax.length : Int) - 1 := by omega
    simp [hlen, hAl, hw1, hw2, hm0, hm1, hy3, hj, hym, hAv, hAv2, hAu, hAu2, hv, hu, hrv, hrv2, hru, hru2, rowL, hlt']
    refine SC_ctr (c147 a.g a.r f hv1 (by omega) (by omega)) [] rfl (by simp) (by simp) ?_
    rintro r sm ⟨P, G, hP, hPl, hGl, rfl, rfl⟩
    simp
    refine SC_ctr (c147 0 0 b.g (by omega) (by omega) (by omega)) [] rfl (by simp) (by simp) ?_
    rintro r sm ⟨P2, G2, hP2, hPl2, hGl2, rfl, rfl⟩
    have l1 : P.length + P2.length ≤ 1048576 := by omega
    have l2 : G.length + G2.length ≤ 1048576 := by omega
    have hpp : P ++ P2 ≠ [] := by simp [hP]
    by_cases hG2 : G2 = []
    · subst hG2
      simp [l1, hP2]
      exact endK (hK _ _ ⟨P ++ P2, G, hpp, by simp; omega, by omega, rfl, rfl⟩) [(1, 59), (2, 46)] (by simp +contextual [← prow_app, ← irow_app, slV_ne, hP, hP2])
    · simp [l1, l2, hP2, hG2]
      exact endK (hK _ _ ⟨P ++ P2, G ++ G2, hpp, by simp; omega, by simp; omega, rfl, rfl⟩) [(1, 59), (2, 62)] (by simp +contextual [← prow_app, ← irow_app, slV_ne, hP, hP2, hG2])
theorem c93 (l : List (Int × Int)) (hl : l.length ≤ 1000) (h0 : l ≠ []) : PCall Tryz.prog 93 [.imm (prow l)] (.imm (prow l.reverse)) := by
  refine PCall_F hm 3 Tryz.func93 ch93 rfl rfl (by simp [closedL, AVal.closed, closed_prow]) (by simp [AVal.closed, closed_prow]) fun K hK => ?_
  have hw1 : IntKind.i64.wrap ((l.length : Int) - 1) = (l.length : Int) - 1 := wrap64 (by omega) (by omega)
  simp [hw1]
  refine wZ_loop (α := Nat) (fun i => [(4, .int .i64 ((i : Int) - 1)), (3, slV 1 (prow (l.drop i).reverse)), (0, .imm (prow l))]) (fun i => ⟨blV 1 2 (prow (l.drop i).reverse) [], 2⟩)
    (fun i => i) (fun i => i ≤ l.length) l.length [] (by simp) (by simp) ?_
  intro i hi N hN
  try simp only at hi hN ⊢
  by_cases h1 : i = 0
  · subst h1
    simp
    refine endK (hK (slV 1 (prow l.reverse)) ⟨blV 1 2 (prow l.reverse) [], 2⟩ ?_) [] (by simp +contextual)
    rw [slV_ne (by simpa using h0)]
    exact freeze_rows (k := 2) (by simp [blV_ne, h0]) (scal_prow _)
  · have h1' : 0 ≤ (i : Int) - 1 := by omega
    have h2 : ((i : Int) - 1).toNat = i - 1 := by omega
    obtain ⟨p, hp⟩ : ∃ p, l[i - 1]? = some p := ⟨_, List.getElem?_eq_getElem (by omega)⟩
    have hg := prow_get hp
    obtain ⟨hpl, hg2⟩ := getE hg
    have hw2 : IntKind.i64.wrap ((i : Int) - 1 - 1) = ((i - 1 : Nat) : Int) - 1 := by rw [wrap64 (by omega) (by omega)]; omega
    have hn : (l.drop (i - 1)).reverse = (l.drop i).reverse ++ [p] := by
      have hil : i - 1 < l.length := by omega
      rw [List.drop_eq_getElem_cons hil, show i - 1 + 1 = i by omega, List.reverse_cons, show l[i - 1] = p from (getE hp).2]
    have hb : l.length - i ≤ 1048575 := by omega
    have hlt : i - 1 < l.length := by omega
    have h3 : 1 ≤ (i : Int) := by omega
    simp [h1', h2, h3, hg, hg2, hw2, hb, hlt]
    exact hN (i - 1) [(1, 10)] _ _ (by omega) (by omega) (by simp [hn, prow_snoc'])
theorem c94 (l : List Int) (hl : l.length ≤ 1000) (h0 : l ≠ []) : PCall Tryz.prog 94 [.imm (irow l)] (.imm (irow l.reverse)) := by
  refine PCall_F hm 3 Tryz.func94 ch94 rfl rfl (by simp [closedL, AVal.closed, closed_irow]) (by simp [AVal.closed, closed_irow]) fun K hK => ?_
  have hw1 : IntKind.i64.wrap ((l.length : Int) - 1) = (l.length : Int) - 1 := wrap64 (by omega) (by omega)
  simp [hw1]
  refine wZ_loop (α := Nat) (fun i => [(4, .int .i64 ((i : Int) - 1)), (3, slV 1 (irow (l.drop i).reverse)), (0, .imm (irow l))]) (fun i => ⟨blV 1 1 (irow (l.drop i).reverse) [], 2⟩)
    (fun i => i) (fun i => i ≤ l.length) l.length [] (by simp) (by simp) ?_
  intro i hi N hN
  try simp only at hi hN ⊢
  by_cases h1 : i = 0
  · subst h1
    simp
    refine endK (hK (slV 1 (irow l.reverse)) ⟨blV 1 1 (irow l.reverse) [], 2⟩ ?_) [] (by simp +contextual)
    rw [slV_ne (by simpa using h0)]
    exact freeze_rows (k := 1) (by simp [blV_ne, h0]) (scal_irow _)
  · have h1' : 0 ≤ (i : Int) - 1 := by omega
    have h2 : ((i : Int) - 1).toNat = i - 1 := by omega
    obtain ⟨p, hp⟩ : ∃ p, l[i - 1]? = some p := ⟨_, List.getElem?_eq_getElem (by omega)⟩
    have hg := irow_get hp
    obtain ⟨hpl, hg2⟩ := getE hg
    have hw2 : IntKind.i64.wrap ((i : Int) - 1 - 1) = ((i - 1 : Nat) : Int) - 1 := by rw [wrap64 (by omega) (by omega)]; omega
    have hn : (l.drop (i - 1)).reverse = (l.drop i).reverse ++ [p] := by
      have hil : i - 1 < l.length := by omega
      rw [List.drop_eq_getElem_cons hil, show i - 1 + 1 = i by omega, List.reverse_cons, show l[i - 1] = p from (getE hp).2]
    have hb : l.length - i ≤ 1048575 := by omega
    have hlt : i - 1 < l.length := by omega
    have h3 : 1 ≤ (i : Int) := by omega
    simp [h1', h2, h3, hg, hg2, hw2, hb, hlt]
    exact hN (i - 1) [(1, 10)] _ _ (by omega) (by omega) (by simp [hn, irow_snoc'])
end Go.Known
end
