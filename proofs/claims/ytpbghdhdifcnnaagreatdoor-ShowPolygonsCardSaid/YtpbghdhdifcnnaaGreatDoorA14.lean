/- Part 14 of the proof: AeNb. -/
import Derived.Test.YtpbghdhdifcnnaaGreatDoorA13
set_option linter.all false
namespace Go.AE
open Go.RowKit
def lookN : List (Nat × Nat) → Nat → Nat → Nat
  | [], _, b => b
  | (c, o) :: r, d, b => if b = c then o else lookN r d b
def qOf (l : List (Nat × Nat)) (n0 k n b : Nat) : Nat := if b < n0 then b else if b < k then lookN l n b else b - k + n
theorem qOf_lt {l : List (Nat × Nat)} {n0 k n b : Nat} (h : qOf l n0 k n b < n) (h0 : n0 ≤ k) : b < k := by
  unfold qOf at h
  split at h
  · omega
  · split at h <;> omega
def SubRE (q : Nat → Nat) : Env → Env → Prop
  | [], _ => True
  | (i, v) :: r, e => e.get i = v.ren q ∧ SubRE q r e
def SubRB (q : Nat → Nat) : List (Nat × ABlk) → SMem → Prop
  | [], _ => True
  | (b, x) :: r, m => (m.get (q b) = some (x.ren q) ∨ ∃ y, m.get (q b) = some y ∧ BSub (x.ren q) y) ∧ SubRB q r m
def InjA (q : Nat → Nat) (b : Nat) : List (Nat × ABlk) → Prop
  | [] => True
  | (c, _) :: r => (q b = q c → b = c) ∧ InjA q b r
def InjK (q : Nat → Nat) : List (Nat × ABlk) → Prop
  | [] => True
  | (b, _) :: r => InjA q b r ∧ InjK q r
theorem InjA.get {q : Nat → Nat} {b : Nat} : ∀ {l : List (Nat × ABlk)}, InjA q b l → ∀ c x, lookB l c = some x → q b = q c → b = c
  | [], _, c, x, h, _ => by simp [lookB] at h
  | (d, y) :: r, hi, c, x, h, hq => by
    simp only [lookB] at h
    split at h
    · rename_i e; subst e; exact hi.1 hq
    · exact hi.2.get c x h hq
theorem InjK.get {q : Nat → Nat} : ∀ {l : List (Nat × ABlk)}, InjK q l → ∀ b c x y, lookB l b = some x → lookB l c = some y → q b = q c → b = c
  | [], _, b, c, x, y, h, _, _ => by simp [lookB] at h
  | (d, z) :: r, hi, b, c, x, y, hb, hc, hq => by
    simp only [lookB] at hb hc
    split at hb
    · rename_i e; subst e
      split at hc
      · rename_i e2; exact e2.symm
      · exact hi.1.get c y hc hq
    · split at hc
      · rename_i e2; subst e2
        exact (hi.1.get b x hb hq.symm).symm
      · exact hi.2.get b c x y hb hc hq
theorem SubRE.get {q : Nat → Nat} : ∀ {e0 e : Env}, SubRE q e0 e → ∀ i, e0.get i = .bot ∨ e.get i = (e0.get i).ren q
  | [], _, _, i => .inl rfl
  | (j, v) :: r, e, h, i => by
    simp only [Env.get]
    by_cases hij : i = j
    · subst hij; rw [if_pos rfl]; exact .inr h.1
    · rw [if_neg hij]; exact h.2.get i
theorem SubRB.get {q : Nat → Nat} : ∀ {l : List (Nat × ABlk)} {m : SMem}, SubRB q l m → ∀ b x, lookB l b = some x → ∃ y, m.get (q b) = some y ∧ (y = x.ren q ∨ BSub (x.ren q) y)
  | [], m, _, b, x, h => by simp [lookB] at h
  | (c, y) :: r, m, hs, b, x, h => by
    simp only [lookB] at h
    split at h
    · rename_i hb; subst hb; injection h with h; subst h
      rcases hs.1 with h1 | ⟨y', h1, h2⟩
      · exact ⟨_, h1, .inl rfl⟩
      · exact ⟨_, h1, .inr h2⟩
    · exact hs.2.get b x h
def SubR (n0 : Nat) (l : List (Nat × Nat)) (e0 : Env) (m0 : SMem) (e : Env) (m : SMem) : Prop :=
  n0 ≤ m0.next ∧ n0 ≤ m.next ∧ SubRE (qOf l n0 m0.next m.next) e0 e ∧ SubRB (qOf l n0 m0.next m.next) m0.bl m ∧ InjK (qOf l n0 m0.next m.next) m0.bl
theorem BR.of_sub {Φ : Pers} {ρ : Rho} {x y : ABlk} {l : Loc} {o : Obj} (hs : y = x ∨ BSub x y) (h : BR Φ ρ y l o) : BR Φ ρ x l o := by
  rcases hs with rfl | hs
  · exact h
  · exact h.bsub hs
theorem Rel.unren {W : Base} {Φ : Pers} {ρ : Rho} {m m0 : Mem} {w : World} {q : Nat → Nat} (h : Rel W Φ ρ m w) (hg : ∀ b x, m0.get b = some x → ∃ y, m.get (q b) = some y ∧ (y = x.ren q ∨ BSub (x.ren q) y))
    (hi : ∀ b c x y, m0.get b = some x → m0.get c = some y → q b = q c → b = c) (hq : ∀ b, q b < m.next → b < m0.next) : Rel W Φ (fun b => ρ (q b)) m0 w := by
  refine ⟨h.base, h.pers, fun b x hx => ?_, fun b b' x x' l l' h1 h2 h3 h4 h5 => ?_, fun b l hb => hq b (h.fresh _ _ hb), h.newp⟩
  · obtain ⟨y, hy, hs⟩ := hg b x hx
    obtain ⟨l, o, g1, g2, g3, g4, g5⟩ := h.live _ y hy
    exact ⟨l, o, g1, g2, g3, g4, (g5.of_sub hs).unren (q := q) (fun _ _ hb => hb)⟩
  · obtain ⟨y, hy, _⟩ := hg b x h1
    obtain ⟨y', hy', _⟩ := hg b' x' h2
    exact hi b b' x x' h1 h2 (h.inj _ _ y y' l l' hy hy' h3 h4 h5)
theorem SubR.rel {n0 n : Nat} {l : List (Nat × Nat)} {e0 e : Env} {m0 m : SMem} (h : SubR n0 l e0 m0 e m) {W : Base} {Φ : Pers} {ρ : Rho} {vs : Array Value} {w : World} (hr : Rel W Φ ρ m.mem w) (ht : RL Φ ρ (toE n e) vs) :
    ∃ ρ', (∀ b, b < n0 → ρ' b = ρ b) ∧ Rel W Φ ρ' m0.mem w ∧ RL Φ ρ' (toE n e0) vs := by
  obtain ⟨hn0, hn, he, hm, hi⟩ := h
  refine ⟨fun b => ρ (qOf l n0 m0.next m.next b), fun b hb => by simp only [qOf, if_pos hb], hr.unren (fun b x hx => hm.get b x hx) (fun b c x y hb hc => hi.get b c x y hb hc) (fun b hb => qOf_lt hb hn0), ?_⟩
  refine ⟨by rw [ht.1, toE_length, toE_length], fun i x v hx hv => ?_⟩
  have hin : i < n := by
    have := (List.getElem?_eq_some_iff.1 hx).1
    rwa [toE_length] at this
  rw [toE_get hin] at hx
  injection hx with hx
  subst hx
  rcases he.get i with h1 | h1
  · rw [h1]; exact .bot v
  · have hR := ht.2 i (e.get i) v (toE_get hin) hv
    rw [h1] at hR
    exact hR.unren (q := qOf l n0 m0.next m.next) (fun _ _ hb => hb) _ rfl
def WkR (n n0 : Nat) (e0 : Env) (m0 : SMem) (e : Env) (m : SMem) : Prop := n0 ≤ m0.next ∧ ∀ (W : Base) (Φ : Pers) (ρ : Rho) (vs : Array Value) (w : World), Rel W Φ ρ m.mem w → RL Φ ρ (toE n e) vs →
  ∃ Φ' ρ', (∀ B c, Φ B = some c → Φ' B = some c) ∧ (∀ b, b < n0 → ρ' b = ρ b) ∧ Rel W Φ' ρ' m0.mem w ∧ RL Φ' ρ' (toE n e0) vs
theorem SubR.wk {n0 n : Nat} {l : List (Nat × Nat)} {e0 e : Env} {m0 m : SMem} (h : SubR n0 l e0 m0 e m) : WkR n n0 e0 m0 e m :=
  ⟨h.1, fun W Φ ρ vs w hr ht => let ⟨ρ', h1, h2, h3⟩ := h.rel hr ht; ⟨Φ, ρ', fun _ _ h => h, h1, h2, h3⟩⟩
def wpT (P : Program) (n n0 : Nat) : ACode → (Exit → Env → SMem → Prop) → Env → SMem → Prop
  | .skip, Q, e, m => Q .normal e m
  | .region false ops, Q, e, m => sops P n m.next ops 0 (Q .normal) e (m.at (m.next + ops.length))
  | .region true ops, Q, e, m => sdops P n m.next ops [] (Q .normal) e (m.at (m.next + ops.length))
  | .seq a b, Q, e, m => wpT P n n0 a (thenS (wpT P n n0 b Q) Q) e m
  | .cond c a b, Q, e, m => match evE n e c with
    | .bool true => wpT P n n0 a Q e m
    | .bool false => wpT P n n0 b Q e m
    | _ => False
  | .block id c, Q, e, m => wpT P n n0 c (blockS id Q) e m
  | .loop c, Q, e, m => ∃ (I : Nat → Env → SMem → Prop), (∃ k e0 m0, WkR n n0 e0 m0 e m ∧ I k e0 m0) ∧ ∀ k e1 m1, I k e1 m1 → wpT P n n0 c (thenS (fun e' m' => ∃ j e0 m0, j < k ∧ WkR n n0 e0 m0 e' m' ∧ I j e0 m0) Q) e1 m1
  | .exit id, Q, e, m => Q (.exit id) e m
  | .scope c, Q, e, m => wpT P n n0 c Q e m
  | .label _, Q, e, m => Q .normal e m
  | .ret, Q, e, m => Q .ret e m
  | .bad, _, _, _ => False
def liftT (W : Base) (Φ : Pers) (ρ : Rho) (n n0 : Nat) (Q : Exit → Env → SMem → Prop) (x : Exit) (a : Act) (w : World) : Prop :=
  ∃ e m Φ' ρ', (∀ B c, Φ B = some c → Φ' B = some c) ∧ (∀ b, b < n0 → ρ' b = ρ b) ∧ n0 ≤ m.next ∧ Rel W Φ' ρ' m.mem w ∧ RL Φ' ρ' (toE n e) a.tmps ∧ a.defers = [] ∧ (∀ l, x ≠ .goto l) ∧ Q x e m
theorem liftT_trans {W : Base} {Φ Φ' : Pers} {ρ ρ' : Rho} {n n0 : Nat} {Q Q' : Exit → Env → SMem → Prop} {x : Exit} {a : Act} {w : World} (hp : ∀ B c, Φ B = some c → Φ' B = some c) (hk : ∀ b, b < n0 → ρ' b = ρ b)
    (h : liftT W Φ' ρ' n n0 Q x a w) (hq : ∀ e m, Q x e m → Q' x e m) : liftT W Φ ρ n n0 Q' x a w := by
  obtain ⟨e, m, Φ2, ρ2, h1, h2, h3, h4, h5, h6, h7, h8⟩ := h
  exact ⟨e, m, Φ2, ρ2, fun B c hB => h1 B c (hp B c hB), fun b hb => (h2 b hb).trans (hk b hb), h3, h4, h5, h6, h7, hq _ _ h8⟩
section
variable {P : Program} {n n0 : Nat}
def AWpT (P : Program) (n n0 : Nat) (c : Code) (Q : Exit → Env → SMem → Prop) (e : Env) (m : SMem) : Prop :=
  ∀ (W : Base) (Φ : Pers) (ρ : Rho) (a : Act) (w : World), n0 ≤ m.next → Rel W Φ ρ m.mem w → RL Φ ρ (toE n e) a.tmps → a.defers = [] → c.wp P (liftT W Φ ρ n n0 Q) a w
theorem regionT (hm : P.follows .mixedOrders = true) {id : Nat} {ops : Array Oper} {draw : Bool} {Q : Exit → Env → SMem → Prop} {e : Env} {m : SMem} (h : wpS P n (cCode P (.region id ops draw)) Q e m) : AWpT P n n0 (.region id ops draw) Q e m := by
  intro W Φ ρ a w hn hr ht hd
  have h1 := wpS_sound h
  have h2 : AWp P (.region id ops draw) (liftS n Q) ⟨toE n e, m.mem⟩ := by
    cases draw with
    | false => exact region_plain h1
    | true => exact region_draw hm h1
  refine wp_mono (h2 W Φ ρ a w hr ht hd) fun x a' w' hl => ?_
  obtain ⟨σ, Φ', ρ', g1, g2, g3, g4, g5, g6, g7⟩ := hl
  have hfix : ∀ b, b < n0 → ρ' b = ρ b := fun b hb => by
    cases hq : ρ b with
    | none => exact g2 b (Nat.lt_of_lt_of_le hb hn) hq
    | some l => exact g1.rho b l hq
  have hnx : m.next ≤ σ.m.next := g3
  cases x <;> simp only [liftS] at g7 <;> first
    | exact g7.elim
    | (obtain ⟨e', m', rfl, hq⟩ := g7
       exact ⟨e', m', Φ', ρ', g1.pers, hfix, Nat.le_trans hn hnx, g4, g5, g6, fun l hl => (by cases hl), hq⟩)
theorem soundT (hm : P.follows .mixedOrders = true) : ∀ (c : Code) (Q : Exit → Env → SMem → Prop) (e : Env) (m : SMem), wpT P n n0 (cCode P c) Q e m → AWpT P n n0 c Q e m := by
  intro c
  induction c with
  | skip => exact fun Q e m h W Φ ρ a w hn hr ht hd => wp_skip ⟨e, m, Φ, ρ, fun _ _ h => h, fun _ _ => rfl, hn, hr, ht, hd, fun l hl => (by cases hl), h⟩
  | region id ops draw =>
    intro Q e m h
    refine regionT hm ?_
    have hw : ∀ A : ACode, (∀ d os, A = .region d os ∨ A = .bad ∨ True) → (match A with | .region _ _ => True | .bad => True | _ => False) → wpT P n n0 A Q e m → wpS P n A Q e m := by
      intro A _ hA h
      cases A with
      | region d os => cases d <;> exact h
      | bad => exact h
      | _ => exact hA.elim
    refine hw _ (fun _ _ => .inr (.inr trivial)) ?_ h
    cases draw with
    | false =>
      simp only [cCode]
      cases cOpers P ops ops.toList <;> trivial
    | true =>
      simp only [cCode]
      cases cOpers P ops ops.toList with
      | none => trivial
      | some as =>
        simp only
        cases cDrawOk ops as (cPreds ops.toList) <;> trivial
  | seq x y ihx ihy =>
    intro Q e m h W Φ ρ a w hn hr ht hd
    simp only [cCode, wpT] at h
    refine wp_seq (wp_mono (ihx _ _ _ h W Φ ρ a w hn hr ht hd) ?_)
    intro x' a' w' hl
    have key : ∀ e', x' = e' → e' ≠ .normal → liftT W Φ ρ n n0 Q x' a' w' := by
      intro e' he hne
      refine liftT_trans (fun _ _ h => h) (fun _ _ => rfl) hl fun e m hq => ?_
      subst he
      cases x' <;> first | exact absurd rfl hne | exact hq
    cases x' with
    | normal =>
      obtain ⟨e', m', Φ', ρ', h1, h2, h3, h4, h5, h6, h7, h8⟩ := hl
      exact wp_mono (ihy _ _ _ h8 W Φ' ρ' a' w' h3 h4 h5 h6) fun x a w hl' => liftT_trans h1 h2 hl' fun _ _ h => h
    | exit i => exact key _ rfl (by simp)
    | goto l => exact key _ rfl (by simp)
    | ret => exact key _ rfl (by simp)
    | panic ch => exact key _ rfl (by simp)
    | outgrown => exact key _ rfl (by simp)
  | cond c x y ihx ihy =>
    intro Q e m h W Φ ρ a w hn hr ht hd
    simp only [cCode] at h
    cases hc : cOpd c with
    | none => simp [hc, wpT] at h
    | some c' =>
      simp only [hc, wpT] at h
      have hv := ev_R ht hc
      rw [ev_toE] at hv
      generalize evE n e c' = z at h hv
      split at h
      · generalize hz : a.eval c = v at hv
        cases hv
        exact wp_cond_true hz (ihx _ _ _ h W Φ ρ a w hn hr ht hd)
      · generalize hz : a.eval c = v at hv
        cases hv
        exact wp_cond_false hz (ihy _ _ _ h W Φ ρ a w hn hr ht hd)
      · exact h.elim
  | block id c ih =>
    intro Q e m h W Φ ρ a w hn hr ht hd
    simp only [cCode, wpT] at h
    refine wp_block (wp_mono (ih _ _ _ h W Φ ρ a w hn hr ht hd) ?_)
    intro x a' w' hl
    cases x with
    | exit i =>
      simp only [Exit.inBlock]
      obtain ⟨e', m', Φ', ρ', h1, h2, h3, h4, h5, h6, h7, h8⟩ := hl
      simp only [blockS] at h8
      split
      · rename_i hi
        rw [if_pos hi] at h8
        exact ⟨e', m', Φ', ρ', h1, h2, h3, h4, h5, h6, fun l hl => (by cases hl), h8⟩
      · rename_i hi
        rw [if_neg hi] at h8
        exact ⟨e', m', Φ', ρ', h1, h2, h3, h4, h5, h6, fun l hl => (by cases hl), h8⟩
    | normal => exact hl
    | goto l => exact hl
    | ret => exact hl
    | panic ch => exact hl
    | outgrown => exact hl
  | loop c ih =>
    intro Q e m h W Φ ρ a w hn hr ht hd
    simp only [cCode, wpT] at h
    obtain ⟨I, ⟨k0, e0, m0, hs0, h0⟩, hround⟩ := h
    obtain ⟨Φ1, ρ1, hp1, hk1, hr1, ht1⟩ := hs0.2 W Φ ρ _ w hr ht
    refine wp_loop_ghost (fun k a' w' => ∃ e' m' Φ' ρ', (∀ B c, Φ B = some c → Φ' B = some c) ∧ (∀ b, b < n0 → ρ' b = ρ b) ∧ n0 ≤ m'.next ∧ Rel W Φ' ρ' m'.mem w' ∧ RL Φ' ρ' (toE n e') a'.tmps ∧ a'.defers = [] ∧ I k e' m') k0
      ⟨e0, m0, Φ1, ρ1, hp1, hk1, hs0.1, hr1, ht1, hd, h0⟩ ?_
    rintro k a' w' ⟨e', m', Φ', ρ', h1, h2, h3, h4, h5, h6, h7⟩
    refine wp_mono (ih _ _ _ (hround k e' m' h7) W Φ' ρ' a' w' h3 h4 h5 h6) ?_
    intro x a'' w'' hl
    have key : ∀ e', x = e' → e' ≠ .normal → liftT W Φ ρ n n0 Q x a'' w'' := by
      intro e' he hne
      refine liftT_trans h1 h2 hl fun e m hq => ?_
      subst he
      cases x <;> first | exact absurd rfl hne | exact hq
    cases x with
    | normal =>
      obtain ⟨e2, m2, Φ2, ρ2, g1, g2, g3, g4, g5, g6, _, j, e3, m3, g7, g8, g9⟩ := hl
      obtain ⟨Φ3, ρ3, hp3, hk3, hr3, ht3⟩ := g8.2 W Φ2 ρ2 _ _ g4 g5
      exact ⟨j, g7, e3, m3, Φ3, ρ3, fun B c hB => hp3 B c (g1 B c (h1 B c hB)), fun b hb => (hk3 b hb).trans ((g2 b hb).trans (h2 b hb)), g8.1, hr3, ht3, g6, g9⟩
    | exit i => exact key _ rfl (by simp)
    | goto l => exact key _ rfl (by simp)
    | ret => exact key _ rfl (by simp)
    | panic ch => exact key _ rfl (by simp)
    | outgrown => exact key _ rfl (by simp)
  | exit id => exact fun Q e m h W Φ ρ a w hn hr ht hd => wp_exit ⟨e, m, Φ, ρ, fun _ _ h => h, fun _ _ => rfl, hn, hr, ht, hd, fun l hl => (by cases hl), h⟩
  | scope c ih =>
    intro Q e m h W Φ ρ a w hn hr ht hd
    simp only [cCode, wpT] at h
    refine wp_scope_straight (wp_mono (ih _ _ _ h W Φ ρ a w hn hr ht hd) ?_)
    intro x a' w' hl
    cases x with
    | goto l =>
      obtain ⟨_, _, _, _, _, _, _, _, _, _, h7, _⟩ := hl
      exact absurd rfl (h7 l)
    | normal => exact hl
    | exit i => exact hl
    | ret => exact hl
    | panic ch => exact hl
    | outgrown => exact hl
  | label l => exact fun Q e m h W Φ ρ a w hn hr ht hd => wp_label ⟨e, m, Φ, ρ, fun _ _ h => h, fun _ _ => rfl, hn, hr, ht, hd, fun l hl => (by cases hl), h⟩
  | ret => exact fun Q e m h W Φ ρ a w hn hr ht hd => wp_ret ⟨e, m, Φ, ρ, fun _ _ h => h, fun _ _ => rfl, hn, hr, ht, hd, fun l hl => (by cases hl), h⟩
  | rangeFunc f ps x y _ _ => exact fun Q e m h => by simp [cCode, wpT] at h
  | goto l => exact fun Q e m h => by simp [cCode, wpT] at h
  | refuse s => exact fun Q e m h => by simp [cCode, wpT] at h
def yieldE (n : Nat) (e : Env) (m : SMem) : List (Nat × Option (Option Nat)) → Option (List AVal)
  | [] => some []
  | (i, none) :: r => match yieldE n e m r with
    | some l => some (evE n e (.tmp i) :: l)
    | none => none
  | (i, some k) :: r => match loadD m.get k (evE n e (.tmp i)) with
    | some v => (match yieldE n e m r with
      | some l => some (v :: l)
      | none => none)
    | none => none
def oneK (K : AVal → SMem → Prop) (m : SMem) : Option (List AVal) → Prop
  | some [x] => K x m
  | some l => K (.tuple l) m
  | none => False
def retN (n : Nat) (rs : List (Nat × Option (Option Nat))) (K : AVal → SMem → Prop) : Exit → Env → SMem → Prop
  | .normal, e, m => oneK K m (yieldE n e m rs)
  | .ret, e, m => oneK K m (yieldE n e m rs)
  | _, _, _ => False
theorem yieldE_one {e : Env} {m : SMem} {x : Nat × Option (Option Nat)} {v : AVal} {r : List (Nat × Option (Option Nat))} {l : List AVal} (h : yieldE n e m (x :: r) = some (v :: l)) : resOne (toE n e) m.mem x = some v ∧ yieldE n e m r = some l := by
  obtain ⟨i, o⟩ := x
  have hev : (toE n e).getD i aundef = evE n e (.tmp i) := congrFun (ev_toE n e) (.tmp i)
  cases o with
  | none =>
    simp only [yieldE] at h
    cases hr : yieldE n e m r with
    | none => simp [hr] at h
    | some l' =>
      simp only [hr, Option.some.injEq, List.cons.injEq] at h
      obtain ⟨rfl, rfl⟩ := h
      exact ⟨by simp only [resOne, hev], rfl⟩
  | some k =>
    simp only [yieldE] at h
    cases hl : loadD m.get k (evE n e (.tmp i)) with
    | none => simp [hl] at h
    | some w =>
      cases hr : yieldE n e m r with
      | none => simp [hl, hr] at h
      | some l' =>
        simp only [hl, hr, Option.some.injEq, List.cons.injEq] at h
        obtain ⟨rfl, rfl⟩ := h
        refine ⟨?_, rfl⟩
        simp only [resOne, hev, loadD_eq]
        exact hl
theorem yieldE_len {e : Env} {m : SMem} : ∀ {rs : List (Nat × Option (Option Nat))} {l : List AVal}, yieldE n e m rs = some l → (rs = [] ∧ l = []) ∨ ∃ x r v t, rs = x :: r ∧ l = v :: t
  | [], l, h => by simp only [yieldE, Option.some.injEq] at h; exact .inl ⟨rfl, h.symm⟩
  | (i, none) :: r, l, h => by
    simp only [yieldE] at h
    cases hr : yieldE n e m r with
    | none => simp [hr] at h
    | some l' => simp only [hr, Option.some.injEq] at h; exact .inr ⟨_, _, _, _, rfl, h.symm⟩
  | (i, some k) :: r, l, h => by
    simp only [yieldE] at h
    cases hl : loadD m.get k (evE n e (.tmp i)) with
    | none => simp [hl] at h
    | some w =>
      cases hr : yieldE n e m r with
      | none => simp [hl, hr] at h
      | some l' => simp only [hl, hr, Option.some.injEq] at h; exact .inr ⟨_, _, _, _, rfl, h.symm⟩
theorem yieldE_resAll {e : Env} {m : SMem} : ∀ {rs : List (Nat × Option (Option Nat))} {l : List AVal}, yieldE n e m rs = some l → resAll (toE n e) m.mem rs = some l
  | [], l, h => h
  | x :: r, l, h => by
    rcases yieldE_len h with ⟨h1, _⟩ | ⟨y, r', v, t, h1, rfl⟩
    · cases h1
    · cases h1
      obtain ⟨h2, h3⟩ := yieldE_one h
      simp only [resAll, h2, yieldE_resAll h3]
theorem oneK_retA {e : Env} {m : SMem} {rs : List (Nat × Option (Option Nat))} {K : AVal → SMem → Prop} (h : oneK K m (yieldE n e m rs)) : ∃ v, retA (toE n e) m.mem rs = some v ∧ K v m := by
  cases hy : yieldE n e m rs with
  | none => rw [hy] at h; exact h.elim
  | some l =>
    rw [hy] at h
    have h1 := yieldE_resAll hy
    rcases yieldE_len hy with ⟨rfl, rfl⟩ | ⟨x, r, v, t, rfl, rfl⟩
    · exact ⟨_, rfl, h⟩
    · obtain ⟨h2, h3⟩ := yieldE_one hy
      rcases yieldE_len h3 with ⟨rfl, rfl⟩ | ⟨x', r', v', t', rfl, rfl⟩
      · exact ⟨v, by simp only [retA, h2], h⟩
      · exact ⟨.tuple (v :: v' :: t'), by simp only [retA, h1], h⟩
def Ctr (P : Program) (f : FuncId) (args : List AVal) (m : SMem) (K : AVal → SMem → Prop) : Prop := ACalls P f args m.mem [] fun r m' => ∃ sm : SMem, m' = sm.mem ∧ K r sm
def EndK (n0 : Nat) (K : AVal → SMem → Prop) (v : AVal) (m : SMem) : Prop := ∃ v0 m0 l, SubR n0 l [(0, v0)] m0 [(0, v)] m ∧ K v0 m0
theorem ctr_T (hm : P.follows .mixedOrders = true) {f : FuncId} {fn : Func} {af : AFn} {args : List AVal} {m : SMem} {K : AVal → SMem → Prop} (hf : P.funcs[f]? = some fn) (hc : cFn P fn = some af) (hl : Nat.ble args.length af.ntmps = true)
    (h : wpT P af.ntmps m.next af.body (retN af.ntmps af.results (EndK m.next K)) (argE 0 args []) m) : Ctr P f args m K := by
  obtain ⟨c, hb, hbody, hrs, hnt, hname⟩ := cFn_spec hc
  have hl' : args.length ≤ af.ntmps := Nat.le_of_ble_eq_true hl
  rw [hbody] at h
  refine ⟨⟨fn, hf, hname, by rw [hb]; rfl⟩, fun W Φ ρ vs w hr ha hav => ?_⟩
  have ht0 := args_RL (k := fn.ntmps) ha
  have ht1 : RL Φ ρ (toE af.ntmps (argE 0 args [])) (vs ++ Array.replicate (fn.ntmps - vs.size) undef) := by
    refine ht0.sub (by rw [toE_length]; simp; omega) fun i x hx => ?_
    have hi : i < af.ntmps := by
      have := (List.getElem?_eq_some_iff.1 hx).1
      rwa [toE_length] at this
    rw [toE_get hi, argE_get] at hx
    injection hx with hx
    by_cases h2 : 0 ≤ i ∧ i < 0 + args.length
    · rw [if_pos h2] at hx
      rw [List.getElem?_append, if_pos (by omega)]
      refine .inr ?_
      rw [← hx, Nat.sub_zero, List.getD, List.getElem?_eq_getElem (by omega)]
      rfl
    · rw [if_neg h2] at hx
      exact .inl hx.symm
  have hs := soundT (n0 := m.next) hm c _ _ _ h W Φ ρ { tmps := vs ++ Array.replicate (fn.ntmps - vs.size) undef, defers := [] } w (Nat.le_refl _) hr ht1 rfl
  refine calls_of_wp hf hb (wp_mono hs fun x a w' hl => ?_)
  obtain ⟨e, m', Φ', ρ', h1, h2, h3, h4, h5, h6, h7, h8⟩ := hl
  have fin : oneK (EndK m.next K) m' (yieldE af.ntmps e m' af.results) → a.defers = [] ∧ ∃ v, (results fn a.tmps).run P w' = .ok v w' ∧
      ∃ v' r m' Φ' ρ', Ending.returned v = .returned v' ∧ Ext Φ ρ Φ' ρ' ∧ (∀ b, b < m.mem.next → b ∉ ([] : List Nat) → ρ b = none → ρ' b = none) ∧ Rel W Φ' ρ' m' w' ∧ R Φ' ρ' r v' ∧ m.mem.next ≤ m'.next ∧ ∃ sm : SMem, m' = sm.mem ∧ K r sm := by
    intro hh
    obtain ⟨v, g1, v0, m0, l, g2, g3⟩ := oneK_retA hh
    obtain ⟨u, k1, k2⟩ := retA_run h4 h5 hrs g1
    obtain ⟨ρ2, j1, j2, j3⟩ := g2.rel (n := 1) (vs := #[u]) h4 ⟨rfl, fun i x y hx hy => by
      cases i with
      | zero =>
        rw [toE_get (by omega)] at hx
        simp only [Env.get, if_true, Option.some.injEq] at hx
        have : u = y := by simpa using hy
        subst hx; subst this; exact k2
      | succ i => simp at hy⟩
    have k3 : R Φ' ρ2 v0 u := j3.2 0 v0 u (by rw [toE_get (by omega)]; rfl) rfl
    have hfix : ∀ b, b < m.next → ρ2 b = ρ b := fun b hb => (j1 b hb).trans (h2 b hb)
    refine ⟨h6, u, k1, u, v0, m0.mem, Φ', ρ2, rfl, ⟨h1, fun b l hb => ?_⟩, fun b hb _ h0 => (hfix b hb).trans h0, j2, k3, g2.1, m0, rfl, g3⟩
    exact (hfix b (hr.fresh b l hb)).trans hb
  cases x with
  | normal => exact fin h8
  | ret => exact fin h8
  | exit i => exact h8.elim
  | goto l => exact h8.elim
  | panic ch => exact h8.elim
  | outgrown => exact h8.elim
end
end Go.AE
