/- Part 15 of the proof: AeNc. -/
import Derived.Test.YtpbghdhdifcnnaaGreatDoorA14
set_option linter.all false
namespace Go.AE
open Go.RowKit
variable {P : Program}
theorem call_ren {f : FuncId} {args0 : List AVal} {m0 : Mem} {K0 : AVal → Mem → Prop} (h : ACalls P f args0 m0 [] K0) {m : Mem} {q : Nat → Nat} {K : AVal → Mem → Prop}
    (hlive : ∀ c x, m0.get c = some x → ∃ y, m.get (q c) = some y ∧ (y = x.ren q ∨ BSub (x.ren q) y))
    (hinj : ∀ c c' x x', m0.get c = some x → m0.get c' = some x' → q c = q c' → c = c')
    (hq : ∀ c, m0.next ≤ c → q c = c - m0.next + m.next)
    (hK : ∀ r0 m1, K0 r0 m1 → ∃ m' : Mem, m'.next = m1.next - m0.next + m.next ∧
      (∀ b x, m'.get b = some x → (∃ c y, m1.get c = some y ∧ b = q c ∧ x = y.ren q) ∨ (m.get b = some x ∧ ∀ c y, m0.get c = some y → q c ≠ b)) ∧ K (r0.ren q) m')
    (av : List Nat) : ACalls P f (renL q args0) m av K := by
  refine ⟨h.1, fun W Φ ρ vs w hr ha hav => ?_⟩
  have hqlt : ∀ b, q b < m.next → b < m0.next := fun b hb => by
    rcases Nat.lt_or_ge b m0.next with h1 | h1
    · exact h1
    · rw [hq b h1] at hb; omega
  have hfr : ∀ B, (∃ c l y, m.get c = some y ∧ (∀ d z, m0.get d = some z → q d ≠ c) ∧ ρ c = some l ∧ l.blk = B) ∨ ¬ (∃ c l y, m.get c = some y ∧ (∀ d z, m0.get d = some z → q d ≠ c) ∧ ρ c = some l ∧ l.blk = B) := fun B => Classical.em _
  obtain ⟨g, hg⟩ : ∃ g : Nat → Option Obj, ∀ B, ((∃ c l y, m.get c = some y ∧ (∀ d z, m0.get d = some z → q d ≠ c) ∧ ρ c = some l ∧ l.blk = B) → g B = w.heap[B]?) ∧
      (¬ (∃ c l y, m.get c = some y ∧ (∀ d z, m0.get d = some z → q d ≠ c) ∧ ρ c = some l ∧ l.blk = B) → g B = W.g B) := by
    refine ⟨fun B => @ite _ (∃ c l y, m.get c = some y ∧ (∀ d z, m0.get d = some z → q d ≠ c) ∧ ρ c = some l ∧ l.blk = B) (Classical.propDecidable _) (w.heap[B]?) (W.g B), fun B => ⟨fun h => ?_, fun h => ?_⟩⟩
    · simp only [h, if_true]
    · simp only [h, if_false]
  let W' : Base := ⟨W.w, g, Φ⟩
  have hfree2 : ∀ B, W'.Free B → W.Free B := by
    intro B hB
    refine ⟨hB.1, ?_⟩
    rcases hfr B with h1 | h1
    · obtain ⟨c, l, y, hy, _, hl, hlB⟩ := h1
      obtain ⟨l', o, g1, g2, _⟩ := hr.live c y hy
      rw [hl] at g1; injection g1 with g1; subst g1
      rw [← hlB]; exact g2.2
    · have h2 : g B = none := hB.2
      rw [(hg B).2 h1] at h2; exact h2
  have hprot : ∀ B o, g B = some o → w.heap[B]? = some o := by
    intro B o hB
    rcases hfr B with h1 | h1
    · rw [(hg B).1 h1] at hB; exact hB
    · rw [(hg B).2 h1] at hB; exact hr.base.prot B o hB
  have hr0 : Rel W Φ (fun b => ρ (q b)) m0 w := hr.unren hlive hinj hqlt
  have hr1 : Rel W' Φ (fun b => ρ (q b)) m0 w := by
    refine ⟨⟨hr.base.below, hprot⟩, hr.pers, fun b x hx => ?_, hr0.inj, hr0.fresh, fun B c hB => .inl hB⟩
    obtain ⟨l, o, g1, g2, g3, g4, g5⟩ := hr0.live b x hx
    refine ⟨l, o, g1, ⟨g2.1, ?_⟩, g3, g4, g5⟩
    rcases hfr l.blk with h1 | h1
    · obtain ⟨c, l', y', hy', hc, hl, hlB⟩ := h1
      obtain ⟨y, hy, _⟩ := hlive b x hx
      exact absurd (hr.inj _ _ y y' l l' hy hy' g1 hl hlB.symm) (hc b x hx)
    · show g l.blk = none
      rw [(hg _).2 h1]; exact g2.2
  have ha0 : RL Φ (fun b => ρ (q b)) args0 vs := by
    refine ⟨by rw [ha.1, renL_length], fun i x v hx hv => ?_⟩
    exact (ha.2 i (x.ren q) v (renL_get.2 ⟨x, hx, rfl⟩) hv).unren (q := q) (fun _ _ hb => hb) x rfl
  refine (h.2 W' Φ (fun b => ρ (q b)) vs w hr1 ha0 (fun b hb => by simp at hb)).mono fun e w' he => ?_
  obtain ⟨u, r, m1, Φ', ρ1, e1, hE, hk, hr', hR, hn', hK0⟩ := he
  obtain ⟨m', hm'n, hm'g, hK'⟩ := hK r m1 hK0
  obtain ⟨ρ', hρ'⟩ : ∃ ρ' : Rho, ∀ b, ρ' b = if b < m.next then ρ b else ρ1 (b - m.next + m0.next) := ⟨_, fun _ => rfl⟩
  have hp : ∀ b l, ρ1 b = some l → ρ' (q b) = some l := by
    intro b l hb
    rw [hρ']
    rcases Nat.lt_or_ge b m0.next with h1 | h1
    · cases hz : ρ (q b) with
      | none => rw [hk b h1 (by simp) hz] at hb; cases hb
      | some l' =>
        have h2 := hE.rho b l' hz
        rw [hb] at h2; injection h2 with h2; subst h2
        rw [if_pos (hr.fresh _ _ hz)]
    · rw [hq b h1, if_neg (by omega)]
      have : b - m0.next + m.next - m.next + m0.next = b := by omega
      rw [this]; exact hb
  have hfix : ∀ b, b < m.next → ρ' b = ρ b := fun b hb => by rw [hρ', if_pos hb]
  have hframed : ∀ c y, m.get c = some y → (∀ d z, m0.get d = some z → q d ≠ c) → ∃ l o, ρ' c = some l ∧ ρ c = some l ∧ W.Free l.blk ∧ g l.blk = some o ∧ Φ' l.blk = none ∧ w'.heap[l.blk]? = some o ∧ BR Φ' ρ' y l o := by
    intro c y hy hc
    obtain ⟨l, o, g1, g2, g3, g4, g5⟩ := hr.live c y hy
    have hgl : g l.blk = some o := by rw [(hg _).1 ⟨c, l, y, hy, hc, g1, rfl⟩]; exact g4
    refine ⟨l, o, (hfix c (hr.fresh _ _ g1)).trans g1, g1, g2, hgl, ?_, hr'.base.prot _ _ hgl, g5.ext ⟨hE.pers, fun b l hb => (hfix b (hr.fresh _ _ hb)).trans hb⟩⟩
    cases hpz : Φ' l.blk with
    | none => rfl
    | some cc =>
      rcases hr'.newp _ _ hpz with h1 | h1
      · have h1' : Φ l.blk = some cc := h1
        rw [g3] at h1'; cases h1'
      · have : g l.blk = none := h1.2
        rw [hgl] at this; cases this
  have hseen : ∀ c y, m1.get c = some y → ∃ l o, ρ' (q c) = some l ∧ ρ1 c = some l ∧ W'.Free l.blk ∧ Φ' l.blk = none ∧ w'.heap[l.blk]? = some o ∧ BR Φ' ρ' (y.ren q) l o := by
    intro c y hy
    obtain ⟨l, o, g1, g2, g3, g4, g5⟩ := hr'.live c y hy
    exact ⟨l, o, hp _ _ g1, g1, g2, g3, g4, g5.ren hp⟩
  refine ⟨u, r.ren q, m', Φ', ρ', e1, ⟨hE.pers, fun b l hb => (hfix b (hr.fresh _ _ hb)).trans hb⟩, fun b hb _ h0 => (hfix b hb).trans h0, ?_, hR.ren hp, by rw [hm'n]; omega, hK'⟩
  refine ⟨⟨hr'.base.below, fun B o hB => hr'.base.prot B o ?_⟩, hr'.pers, fun b y hy => ?_, fun b b' y y' l l' h1 h2 k1 k2 he => ?_, fun b l hb => ?_, fun B c hB => ?_⟩
  · rcases hfr B with h1 | h1
    · show g B = some o
      rw [(hg B).1 h1]; exact hr.base.prot B o hB
    · show g B = some o
      rw [(hg B).2 h1]; exact hB
  · rcases hm'g b y hy with ⟨c, z, hz, rfl, rfl⟩ | ⟨hb, hc⟩
    · obtain ⟨l, o, q1, _, q3, q5, q6, q7⟩ := hseen c z hz
      exact ⟨l, o, q1, hfree2 _ q3, q5, q6, q7⟩
    · obtain ⟨l, o, q1, _, q3, _, q5, q6, q7⟩ := hframed b y hb hc
      exact ⟨l, o, q1, q3, q5, q6, q7⟩
  · rcases hm'g b y h1 with ⟨c, z, hz, rfl, rfl⟩ | ⟨hb, hc⟩
    · obtain ⟨l1, o1, q1, q2, q3, _, _, _⟩ := hseen c z hz
      rw [k1] at q1; injection q1 with q1; subst q1
      rcases hm'g b' y' h2 with ⟨c', z', hz', rfl, rfl⟩ | ⟨hb', hc'⟩
      · obtain ⟨l2, o2, p1, p2, _, _, _, _⟩ := hseen c' z' hz'
        rw [k2] at p1; injection p1 with p1; subst p1
        rw [hr'.inj c c' z z' l l' hz hz' q2 p2 he]
      · obtain ⟨l2, o2, p1, _, _, p4, _⟩ := hframed b' y' hb' hc'
        rw [k2] at p1; injection p1 with p1; subst p1
        have : g l.blk = none := q3.2
        rw [he, p4] at this; cases this
    · obtain ⟨l1, o1, q1, q2, _, q4, _⟩ := hframed b y hb hc
      rw [k1] at q1; injection q1 with q1; subst q1
      rcases hm'g b' y' h2 with ⟨c', z', hz', rfl, rfl⟩ | ⟨hb', hc'⟩
      · obtain ⟨l2, o2, p1, p2, p3, _, _, _⟩ := hseen c' z' hz'
        rw [k2] at p1; injection p1 with p1; subst p1
        have : g l'.blk = none := p3.2
        rw [← he, q4] at this; cases this
      · obtain ⟨l2, o2, p1, p2, _, p4, _⟩ := hframed b' y' hb' hc'
        rw [k2] at p1; injection p1 with p1; subst p1
        exact hr.inj b b' y y' l l' hb hb' q2 p2 he
  · rw [hρ'] at hb
    rw [hm'n]
    split at hb
    · rename_i h1; omega
    · have := hr'.fresh _ _ hb
      omega
  · rcases hr'.newp B c hB with h1 | h1
    · exact hr.newp B c h1
    · exact .inr (hfree2 B h1)
def memN (b : Nat) : List Nat → Bool
  | [] => false
  | c :: r => if b = c then true else memN b r
def qKeys (q : Nat → Nat) : List (Nat × ABlk) → List Nat
  | [] => []
  | (b, _) :: r => q b :: qKeys q r
def renB (q : Nat → Nat) : List (Nat × ABlk) → List (Nat × ABlk) → List (Nat × ABlk)
  | [], t => t
  | (b, x) :: r, t => (q b, x.ren q) :: renB q r t
def lessB (ks : List Nat) : List (Nat × ABlk) → List (Nat × ABlk)
  | [] => []
  | (b, x) :: r => bif memN b ks then lessB ks r else (b, x) :: lessB ks r
theorem memN_iff {b : Nat} : ∀ {l : List Nat}, memN b l = true ↔ b ∈ l
  | [] => by simp [memN]
  | c :: r => by
    simp only [memN, List.mem_cons]
    by_cases h : b = c
    · simp [h]
    · simp [h, memN_iff (l := r)]
theorem mem_qKeys {q : Nat → Nat} {l : List (Nat × ABlk)} {c : Nat} {x : ABlk} (h : lookB l c = some x) : q c ∈ qKeys q l := by
  induction l with
  | nil => simp [lookB] at h
  | cons a r ih =>
    obtain ⟨d, y⟩ := a
    simp only [lookB] at h
    split at h
    · rename_i e; subst e; exact List.mem_cons_self ..
    · exact List.mem_cons_of_mem _ (ih h)
theorem lookB_less {ks : List Nat} {b : Nat} {x : ABlk} : ∀ {l : List (Nat × ABlk)}, lookB (lessB ks l) b = some x → lookB l b = some x ∧ b ∉ ks
  | [], h => by simp [lessB, lookB] at h
  | (c, y) :: r, h => by
    simp only [lessB] at h
    cases hm : memN c ks with
    | true =>
      rw [hm] at h
      simp only [cond_true] at h
      have := lookB_less h
      refine ⟨?_, this.2⟩
      simp only [lookB]
      rw [if_neg (fun e : b = c => this.2 (by rw [e]; exact memN_iff.1 hm))]
      exact this.1
    | false =>
      rw [hm] at h
      simp only [cond_false, lookB] at h ⊢
      split at h
      · rename_i e
        refine ⟨by rw [if_pos e]; exact h, fun hin => ?_⟩
        subst e
        rw [memN_iff.2 hin] at hm; cases hm
      · rename_i e
        have := lookB_less h
        exact ⟨by rw [if_neg e]; exact this.1, this.2⟩
theorem lookB_ren {q : Nat → Nat} {b : Nat} {x : ABlk} {t : List (Nat × ABlk)} : ∀ {l : List (Nat × ABlk)}, lookB (renB q l t) b = some x → (∃ c y, lookB l c = some y ∧ b = q c ∧ x = y.ren q) ∨ lookB t b = some x
  | [], h => .inr h
  | (c, y) :: r, h => by
    simp only [renB, lookB] at h
    split at h
    · rename_i e
      injection h with h
      exact .inl ⟨c, y, by simp [lookB], e, h.symm⟩
    · rename_i e
      rcases lookB_ren h with ⟨d, z, h1, h2, h3⟩ | h1
      · refine .inl ⟨d, z, ?_, h2, h3⟩
        simp only [lookB]
        rw [if_neg (fun e2 => e (by rw [h2, e2]))]
        exact h1
      · exact .inr h1
theorem SC_ctr {g : FuncId} {args0 args : List AVal} {m0 m : SMem} {K0 K : AVal → SMem → Prop} {id : Nat} (h : Ctr P g args0 m0 K0) (l : List (Nat × Nat)) (ha : renL (qOf l 0 m0.next m.next) args0 = args)
    (hs : SubRB (qOf l 0 m0.next m.next) m0.bl m) (hi : InjK (qOf l 0 m0.next m.next) m0.bl)
    (hK : ∀ r0 sm, K0 r0 sm → K (r0.ren (qOf l 0 m0.next m.next)) ⟨renB (qOf l 0 m0.next m.next) sm.bl (lessB (qKeys (qOf l 0 m0.next m.next) m0.bl) m.bl), sm.next - m0.next + m.next⟩) :
    SC P g args m id K := by
  subst ha
  refine call_ren h (m := m.mem) (fun c x hx => hs.get c x hx) (fun c c' x x' hx hx' => hi.get c c' x x' hx hx') (fun c hc => ?_) (fun r0 m1 hh => ?_) [id]
  · have hc' : m0.next ≤ c := hc
    simp only [qOf, Nat.not_lt_zero, if_false]
    rw [if_neg (by omega)]
    rfl
  · obtain ⟨sm, rfl, hk⟩ := hh
    refine ⟨_, rfl, fun b x hx => ?_, ⟨⟨renB (qOf l 0 m0.next m.next) sm.bl (lessB (qKeys (qOf l 0 m0.next m.next) m0.bl) m.bl), sm.next - m0.next + m.next⟩, rfl, hK r0 sm hk⟩⟩
    rcases lookB_ren hx with ⟨c, y, h1, h2, h3⟩ | h1
    · exact .inl ⟨c, y, h1, h2, h3⟩
    · have := lookB_less h1
      exact .inr ⟨this.1, fun c y hc e => this.2 (e ▸ mem_qKeys hc)⟩
theorem PCall_ctr {g : FuncId} {args : List AVal} {v : AVal} (hca : closedL args = true) (hcv : v.closed = true) {k : Nat} (h : Ctr P g args ⟨[], 1⟩ fun r m' => freezeV m'.get k r = some v) : PCall P g args v := by
  intro m av
  have h' : ACalls P g args (SMem.mem ⟨[], 1⟩) [0] fun r m' => ∃ sm : SMem, m' = sm.mem ∧ freezeV sm.get k r = some v := by
    refine ⟨h.1, fun W Φ ρ vs w hr ha _ => (h.2 W Φ ρ vs w hr ha (fun b hb => by simp at hb)).mono fun e w' he => ?_⟩
    obtain ⟨u, r, m1, Φ', ρ', e1, hE, hk, hr', hR, hn, hKr⟩ := he
    exact ⟨u, r, m1, Φ', ρ', e1, hE, fun b hb _ h0 => hk b hb (by simp) h0, hr', hR, hn, hKr⟩
  exact pure_frozen hca hcv (fun c => rfl) (Nat.lt_succ_self 0) h' (fun r m' hr => by obtain ⟨sm, rfl, h⟩ := hr; exact ⟨k, h⟩) m av
theorem Ctr.mono {g : FuncId} {args : List AVal} {m : SMem} {K K' : AVal → SMem → Prop} (h : Ctr P g args m K) (hk : ∀ r m', K r m' → K' r m') : Ctr P g args m K' :=
  ACalls.mono h fun r m' hh => by obtain ⟨sm, e, h1⟩ := hh; exact ⟨sm, e, hk r sm h1⟩
def condK (v : AVal) (A B : Prop) : Prop :=
  match v with
  | .bool true => A
  | .bool false => B
  | _ => False
@[congr] theorem condK_congr {v v' : AVal} {A B : Prop} (h : v = v') : condK v A B = condK v' A B := by rw [h]
end Go.AE
