/- Part 51 of the proof: Ru, Ua. -/
import Derived.Test.YtpbghdhdifcnnaaGreatDoorA20
import Derived.Test.YtpbghdhdifcnnaaGreatDoorA37
import Derived.Test.YtpbghdhdifcnnaaGreatDoorA49
import Derived.Test.YtpbghdhdifcnnaaGreatDoorA50
set_option linter.all false
section
namespace Go.Known
open Go Go.AE Go.Proofs
open Go.Plain
theorem known9 : PCall Tryz.prog 10 [] (.bool true) := mo33
theorem bf_pol (a b : Nat) (c : Bool) : binA .neq (.flat [.int, .int, .bool]) (.agg [.int .i64 a, .int .i64 b, .bool c]) (.agg [.int .i64 a, .int .i64 b, .bool c]) = some (.bool false) := by
  simp [binA, eqA, sameCells, keyEq]
set_option maxRecDepth 100000 in
set_option maxHeartbeats 8000000 in
theorem c3 (f : Int) (ls : List Lt) : PCall Tryz.prog 4 [cV f ls] (.bool true) := by
  refine PCall_1 hm Tryz.func4 ch4 rfl rfl (by simp [closedL, AVal.closed, closed_rows]) trivial fun K hK => ?_
  have hrr : ∀ q, renLL q (ls.map rowL) = ls.map rowL := fun q => renLL_closed q _ (closed_rows ls)
  have h18 := c18 f ls
  have h7 := fun h he => c7v f ls h he
  have h8 := fun h he => c8v f ls h he
  have h19 := fun h he => c19v f ls h he
  have hpl := fun h he => polys_le (f := f) (ls := ls) h he
  unfold cV at *
  generalize ls.map rowL = rows at *
  by_cases hs : ls.length ≤ 40 ∧ errC f ls = 0
  rotate_left
  · have hb : (decide (ls.length ≤ 40) && decide (errC f ls = 0)) = false := by simpa using hs
    rw [hb] at h18
    simp
    refine SC_pure h18 ?_
    simp
    refine SC_pure known9 ?_
    simp
    exact endK hK [] (by simp)
  obtain ⟨hl, he⟩ := hs
  have hb : (decide (ls.length ≤ 40) && decide (errC f ls = 0)) = true := by simp [hl, he]
  rw [hb] at h18
  have h7 := h7 (by omega) he
  have h8 := h8 (by omega) he
  have h19 := h19 (by omega) he
  obtain ⟨p1, p2⟩ := hpl (by omega) he
  have h21 := c21 (polys ls) (by omega) p2
  have h35 := c35e (patP (polys ls)) (Nat.le_trans (patP_le (b := 6000) (polys ls) [] (by simp) p2) (by omega))
  rw [pat_eq] at h21
  have hpl : (prowP (polys ls)).length = (polys ls).length := prowP_length _
  have hpg : ∀ (i : Nat) (p : Pol), (polys ls)[i]? = some p → (prowP (polys ls))[i]? = some [.int .i64 (p.1 : Nat), .int .i64 (p.2.1 : Nat), .bool p.2.2] := fun i p => prowP_get
  have hpr : ∀ q, renLL q (prowP (polys ls)) = prowP (polys ls) := fun q => ren_prowP q _
  have hpc := closed_imV (closed_prowP (polys ls))
  generalize polys ls = ps at *
  generalize prowP ps = P at *
  have hpn : 0 < ps.length → imV P = .imm P := fun h => imV_ne (by intro e; rw [e] at hpl; simp at hpl; omega)
  generalize imV (nums (patP ps)) = A at *
  generalize AVal.imm (nums (patP ps)) = B at *
  have hpr' : ∀ q, (imV P).ren q = imV P := fun q => AVal.ren_closed q _ hpc
  simp
  refine SC_pure h18 ?_
  simp
  refine SC_pure h7 ?_
  simp
  refine SC_pure h8 ?_
  simp
  refine SC_pure h19 ?_
  simp
  refine SC_pure h21 ?_
  simp
  refine SC_pure h35 ?_
  simp
  refine wZ_loop (α := Nat) (fun i => [(8, .int .i64 i), (7, imV P), (3, imV P)]) (fun _ => ⟨[], 1⟩) (fun i => ps.length - i) (fun i => i ≤ ps.length) 0 [] (by simp [hpr']) (by simp) ?_
  intro i hi N hN
  try simp only at hi hN ⊢
  by_cases hlt : i < ps.length
  · obtain ⟨p, hp⟩ : ∃ p, ps[i]? = some p := ⟨_, List.getElem?_eq_getElem hlt⟩
    have hg := hpg i p hp
    obtain ⟨_, hg2⟩ := getE hg
    have hw : IntKind.i64.wrap ((i : Int) + 1) = (i : Int) + 1 := wrap64 (by omega) (by omega)
    have hb := bf_pol p.1 p.2.1 p.2.2
    have hN' := hN (i + 1) []
    rw [hpn (by omega)] at hN' hpr' ⊢
    simp [hlt, hpl, hg, hg2, hb, hw]
    exact hN' _ _ (by omega) (by omega) (by simp [hpr])
  · simp [hlt, hpl]
    refine SC_pure known9 ?_
    simp
    exact endK hK [] (by simp)
end Go.Known
end
section
namespace Go.Known
open Go Go.AE Go.Proofs
open Go.Plain
open Go.ChangeShapes Go.WideShapes Go.RowKit Go.Deep
variable {H : Type} {enc : TypeId × Value → H} {w : World} {base : Nat} {spare : Nat → Bool} {held : Bool}
theorem law_calls {v : Value} {f : Int} {ls : List Lt} (hR : ∀ ρ, R (allP w) ρ (cV f ls) v) : Calls Tryz.prog 4 #[v] w fun e w' => e = .returned (.bool true) ∧ Below w.heap.size w w' := by
  have hc := c3 f ls ⟨fun _ => none, 1⟩ []
  refine (hc.2 ⟨w, fun _ => none, allP w⟩ (allP w) (fun _ => none) #[v] w ⟨⟨Below.refl _ _, fun B o hB => (by cases hB)⟩, fun B c hB => allP_of hB, fun b x hx => (by cases hx), fun b b' x x' l l' h1 => (by cases h1), fun b l hb => (by cases hb), fun B c hB => .inl hB⟩
    ⟨rfl, fun i x u hx hu => ?_⟩ (fun b hb => by simp at hb)).mono fun e w' he => ?_
  · match i, hx, hu with
    | 0, hx, hu => cases hx; cases hu; exact hR _
    | i + 1, hx, hu => simp at hx
  · obtain ⟨u, r, m', Φ', ρ', rfl, _, _, hr, hRr, _, rfl, _⟩ := he
    refine ⟨?_, hr.base.below⟩
    cases hRr
    rfl
end Go.Known
end
