/- Part 3 of the proof: AeGe. -/
import Derived.Test.YtpbghdhdifcnnaaGreatDoorA2
set_option linter.all false
namespace Go.AE
open Go.RowKit
variable {P : Program}
abbrev FCaller := Fn → List AVal → TM → Option (AVal × TM × List Nat)
def FCallerOk (cw : CallW) (fc : FCaller) : Prop :=
  ∀ fn args m v m' wl, fc fn args m = some (v, m', wl) → m.next ≤ m'.next ∧ (∀ c, c < m.next → c ∉ wl → m'.mem.get c = m.mem.get c) ∧ ∀ id (K : AVal → Mem → Prop), K v m'.mem → cw fn args m.mem id K
def calleeFT (t : Tr AVal) (f : AOpd) (xs : List AOpd) : Option (Fn × List AVal) :=
  match evT t f with
  | .func (.func g) first cap => some (.func g, first ++ xs.map (evT t) ++ cap)
  | .yld b => some (.yield b, xs.map (evT t))
  | _ => none
theorem calleeFT_eq {n : Nat} {t : Tr AVal} (ht : TOk n t) (f : AOpd) (xs : List AOpd) : calleeF (toL n t) f xs = calleeFT t f xs := by
  simp only [calleeF, calleeFT, ev_toL ht]
  rfl
abbrev StepD := Nat → (AOpd → AVal) → (Nat → Option ABlk) → AOp → Option (AVal × List (Nat × Option ABlk))
def StDOk (st : StepA) (sd : StepD) : Prop :=
  ∀ (n id : Nat) (t : Tr AVal) (m : TM) (op : AOp) (v : AVal) (d : List (Nat × Option ABlk)), TOk n t → sd id (evT t) m.tr.get op = some (v, d) → okD d = true → st id (toL n t) m.mem op = some (v, (m.apply d).mem)
theorem stepD_std : StDOk stepA stepD := fun _ _ _ _ _ _ _ ht h hd => stepT_ok ht h hd
def runPG (sd : StepD) (fc : FCaller) (lim base : Nat) : List AOper → Nat → RS → Option RS
  | [], _, s => some s
  | o :: r, i, s =>
    match wantedT s.t o.guard with
    | some false => runPG sd fc lim base r (i + 1) { s with t := putT s.t o.dst aundef }
    | some true =>
      match o.op with
      | .call f xs => match calleeFT s.t f xs with
        | some (g, args) => match fc g args s.m with
          | some (v, m', wl) => runPG sd fc lim base r (i + 1) ⟨putT s.t o.dst v, m', addL lim s.wl wl⟩
          | none => none
        | none => none
      | op => match sd (base + i) (evT s.t) s.m.tr.get op with
        | some (v, []) => runPG sd fc lim base r (i + 1) ⟨putT s.t o.dst v, s.m, s.wl⟩
        | some (v, d) => bif okD d then runPG sd fc lim base r (i + 1) ⟨putT s.t o.dst v, s.m.apply d, addW lim s.wl d⟩ else none
        | none => none
    | none => none
def runCG (sd : StepD) (fc : FCaller) (call : Caller) (dr sc : Bool) (lim : Nat) : Nat → ACode → RS → Option (REnd × RS)
  | 0, _, _ => none
  | f + 1, c, s =>
    match c with
    | .skip | .label _ => some (.normal, s)
    | .region false ops =>
      bif Nat.ble (s.m.next + ops.length) bound then match runPG sd fc lim s.m.next ops 0 ⟨s.t, ⟨s.m.tr, s.m.next + ops.length⟩, s.wl⟩ with
        | some s' => some (.normal, s')
        | none => none
      else none
    | .region true ops =>
      bif dr then bif Nat.ble (s.m.next + ops.length) bound then match runD call lim s.m.next ops [] ⟨s.t, ⟨s.m.tr, s.m.next + ops.length⟩, s.wl⟩ with
        | some s' => some (.normal, s')
        | none => none
      else none else none
    | .seq a b => match runCG sd fc call dr sc lim f a s with
      | some (.normal, s') => runCG sd fc call dr sc lim f b s'
      | r => r
    | .cond c a b => match evT s.t c with
      | .bool true => runCG sd fc call dr sc lim f a s
      | .bool false => runCG sd fc call dr sc lim f b s
      | _ => none
    | .block id c => match runCG sd fc call dr sc lim f c s with
      | some (.exit n, s') => bif Nat.beq n id then some (.normal, s') else some (.exit n, s')
      | r => r
    | .loop c => match runCG sd fc call dr sc lim f c s with
      | some (.normal, s') => runCG sd fc call dr sc lim f (.loop c) s'
      | r => r
    | .exit n => some (.exit n, s)
    | .scope c => bif sc then runCG sd fc call dr sc lim f c s else none
    | .ret => some (.ret, s)
    | .bad => none
theorem runPG_ok {st : StepA} {sd : StepD} (hsd : StDOk st sd) {cw : CallW} {fc : FCaller} (hcall : FCallerOk cw fc) {n lim base : Nat} (hn : n ≤ bound) : ∀ (ops : List AOper) (i : Nat) (s s' : RS), TOk n s.t → lim ≤ s.m.next →
    (ops.all fun o => match o.dst with | some d => decide (d < n) | none => true) = true → runPG sd fc lim base ops i s = some s' →
    RunOk n lim s s' ∧ ∀ K : ASt → Prop, K (s'.st n) → wopsG st cw base ops i K (toL n s.t) s.m.mem
  | [], i, s, s', ht, _, _, h => by
    simp only [runPG, Option.some.injEq] at h
    subst h
    exact ⟨⟨ht, Nat.le_refl _, fun c _ hw => ⟨hw, rfl⟩⟩, fun K hK => hK⟩
  | o :: r, i, s, s', ht, hlim, hd, h => by
    simp only [List.all_cons, Bool.and_eq_true] at hd
    obtain ⟨hd1, hd2⟩ := hd
    have hdst := dst_of hd1
    simp only [runPG] at h
    cases hw : wantedT s.t o.guard with
    | none => simp [hw] at h
    | some q =>
      have hwA : wantedA (toL n s.t) o.guard = some q := by rw [wantedT_eq ht]; exact hw
      cases q with
      | false =>
        simp only [hw] at h
        obtain ⟨p1, p2⟩ := putT_ok (v := aundef) hn ht hdst
        obtain ⟨h1, h2⟩ := runPG_ok hsd hcall hn r (i + 1) ⟨putT s.t o.dst aundef, s.m, s.wl⟩ s' p1 hlim hd2 h
        refine ⟨⟨h1.t, h1.next, h1.keep⟩, fun K hK => ?_⟩
        simp only [wopsG, hwA]
        rw [← p2]
        exact h2 K hK
      | true =>
        simp only [hw] at h
        have other : (∀ f xs, o.op ≠ .call f xs) → (match sd (base + i) (evT s.t) s.m.tr.get o.op with
            | some (v, []) => runPG sd fc lim base r (i + 1) ⟨putT s.t o.dst v, s.m, s.wl⟩
            | some (v, d) => bif okD d then runPG sd fc lim base r (i + 1) ⟨putT s.t o.dst v, s.m.apply d, addW lim s.wl d⟩ else none
            | none => none) = some s' → RunOk n lim s s' ∧ ∀ K : ASt → Prop, K (s'.st n) → ∃ v m', st (base + i) (toL n s.t) s.m.mem o.op = some (v, m') ∧ wopsG st cw base r (i + 1) K (put (toL n s.t) o.dst v) m' := by
          intro hne hh
          cases hs : sd (base + i) (evT s.t) s.m.tr.get o.op with
          | none => simp [hs] at hh
          | some vd =>
            obtain ⟨v, d⟩ := vd
            obtain ⟨p1, p2⟩ := putT_ok (v := v) hn ht hdst
            cases d with
            | nil =>
              simp only [hs] at hh
              obtain ⟨h1, h2⟩ := runPG_ok hsd hcall hn r (i + 1) ⟨putT s.t o.dst v, s.m, s.wl⟩ s' p1 hlim hd2 hh
              exact ⟨⟨h1.t, h1.next, h1.keep⟩, fun K hK => ⟨v, s.m.mem, hsd _ _ _ _ _ _ _ ht hs rfl, by rw [← p2]; exact h2 K hK⟩⟩
            | cons e d =>
              simp only [hs] at hh
              cases ho : okD (e :: d) with
              | false => rw [ho] at hh; cases hh
              | true =>
                rw [ho] at hh
                simp only [cond_true] at hh
                obtain ⟨h1, h2⟩ := runPG_ok hsd hcall hn r (i + 1) _ s' p1 (by rw [TM.apply_next]; exact hlim) hd2 hh
                refine ⟨⟨h1.t, by have := h1.next; rw [TM.apply_next] at this; exact this, fun c hc hw' => ?_⟩, fun K hK => ⟨v, _, hsd _ _ _ _ _ _ _ ht hs ho, by rw [← p2]; exact h2 K hK⟩⟩
                obtain ⟨k1, k2⟩ := h1.keep c hc hw'
                obtain ⟨k3, k4⟩ := addW_spec (e :: d) s.wl s.m.mem c hc k1
                exact ⟨k3, by rw [k2, TM.apply_mem _ _ ho]; exact k4⟩
        by_cases hcl : ∃ f xs, o.op = .call f xs
        · obtain ⟨f, xs, hop⟩ := hcl
          simp only [hop] at h
          cases hc : calleeFT s.t f xs with
          | none => simp [hc] at h
          | some ga =>
            obtain ⟨g, args⟩ := ga
            simp only [hc] at h
            cases hcc : fc g args s.m with
            | none => simp [hcc] at h
            | some vmw =>
              obtain ⟨v, m', wl⟩ := vmw
              simp only [hcc] at h
              obtain ⟨q1, q2, q3⟩ := hcall g args s.m v m' wl hcc
              obtain ⟨p1, p2⟩ := putT_ok (v := v) hn ht hdst
              obtain ⟨h1, h2⟩ := runPG_ok hsd hcall hn r (i + 1) _ s' p1 (Nat.le_trans hlim q1) hd2 h
              refine ⟨⟨h1.t, Nat.le_trans q1 h1.next, fun c hc' hw' => ?_⟩, fun K hK => ?_⟩
              · obtain ⟨k1, k2⟩ := h1.keep c hc' hw'
                obtain ⟨k3, k4⟩ := addL_spec wl s.wl c hc' k1
                exact ⟨k3, by rw [k2]; exact q2 c (by omega) k4⟩
              · have hcA : calleeF (toL n s.t) f xs = some (g, args) := by rw [calleeFT_eq ht]; exact hc
                simp only [wopsG, hwA, hop, hcA]
                refine q3 (base + i) _ ?_
                rw [← p2]
                exact h2 K hK
        · have hne : ∀ f xs, o.op ≠ .call f xs := fun f xs he => hcl ⟨f, xs, he⟩
          have h' : (match sd (base + i) (evT s.t) s.m.tr.get o.op with
            | some (v, []) => runPG sd fc lim base r (i + 1) ⟨putT s.t o.dst v, s.m, s.wl⟩
            | some (v, d) => bif okD d then runPG sd fc lim base r (i + 1) ⟨putT s.t o.dst v, s.m.apply d, addW lim s.wl d⟩ else none
            | none => none) = some s' := by
            cases hop : o.op <;> rw [hop] at h <;> first | (exact absurd hop (hne _ _)) | exact h
          obtain ⟨h1, h2⟩ := other hne h'
          refine ⟨h1, fun K hK => ?_⟩
          obtain ⟨v, m', h3, h4⟩ := h2 K hK
          simp only [wopsG, hwA]
          cases hop : o.op <;> rw [hop] at h3 <;> first | (exact absurd hop (hne _ _)) | (simp only [h3]; exact h4)
theorem runCG_ok {st : StepA} {sd : StepD} (hsd : StDOk st sd) {cw : CallW} {fc : FCaller} (hfc : FCallerOk cw fc) {call : Caller} (hcall : CallerOk P call) {dr sc : Bool} {n lim : Nat} (hn : n ≤ bound) : ∀ (f : Nat) (c : ACode) (s s' : RS) (e : REnd), TOk n s.t → lim ≤ s.m.next → dstOk n c = true → runCG sd fc call dr sc lim f c s = some (e, s') →
    RunOk n lim s s' ∧ ∀ Q : Exit → ASt → Prop, Q e.exit' (s'.st n) → wpcG (wrG P dr st cw) sc c Q (s.st n) := by
  intro f
  induction f using Nat.strongRecOn with
  | ind f ih =>
    intro c s s' e ht hlim hd h
    cases f with
    | zero => simp [runCG] at h
    | succ f =>
      have same : RunOk n lim s s := ⟨ht, Nat.le_refl _, fun c _ hw => ⟨hw, rfl⟩⟩
      cases c with
      | skip =>
        simp only [runCG, Option.some.injEq, Prod.mk.injEq] at h
        obtain ⟨rfl, rfl⟩ := h
        exact ⟨same, fun Q hQ => hQ⟩
      | label l =>
        simp only [runCG, Option.some.injEq, Prod.mk.injEq] at h
        obtain ⟨rfl, rfl⟩ := h
        exact ⟨same, fun Q hQ => hQ⟩
      | exit i =>
        simp only [runCG, Option.some.injEq, Prod.mk.injEq] at h
        obtain ⟨rfl, rfl⟩ := h
        exact ⟨same, fun Q hQ => hQ⟩
      | ret =>
        simp only [runCG, Option.some.injEq, Prod.mk.injEq] at h
        obtain ⟨rfl, rfl⟩ := h
        exact ⟨same, fun Q hQ => hQ⟩
      | bad => simp [runCG] at h
      | region draw ops =>
        cases draw with
        | false =>
          simp only [runCG] at h
          cases hb : Nat.ble (s.m.next + ops.length) bound with
          | false => rw [hb] at h; cases h
          | true =>
            rw [hb] at h
            simp only [cond_true] at h
            cases hr : runPG sd fc lim s.m.next ops 0 ⟨s.t, ⟨s.m.tr, s.m.next + ops.length⟩, s.wl⟩ with
            | none => simp [hr] at h
            | some s2 =>
              simp only [hr, Option.some.injEq, Prod.mk.injEq] at h
              obtain ⟨rfl, rfl⟩ := h
              obtain ⟨h1, h2⟩ := runPG_ok hsd hfc hn ops 0 ⟨s.t, ⟨s.m.tr, s.m.next + ops.length⟩, s.wl⟩ s2 ht (by show lim ≤ s.m.next + ops.length; omega) hd hr
              refine ⟨⟨h1.t, Nat.le_trans (Nat.le_add_right _ _) h1.next, h1.keep⟩, fun Q hQ => ?_⟩
              exact h2 (Q .normal) hQ
        | true =>
          simp only [runCG] at h
          cases hdr : dr with
          | false => rw [hdr] at h; cases h
          | true =>
          rw [hdr] at h
          simp only [cond_true] at h
          cases hb : Nat.ble (s.m.next + ops.length) bound with
          | false => rw [hb] at h; cases h
          | true =>
            rw [hb] at h
            simp only [cond_true] at h
            cases hr : runD call lim s.m.next ops [] ⟨s.t, ⟨s.m.tr, s.m.next + ops.length⟩, s.wl⟩ with
            | none => simp [hr] at h
            | some s2 =>
              simp only [hr, Option.some.injEq, Prod.mk.injEq] at h
              obtain ⟨rfl, rfl⟩ := h
              obtain ⟨h1, h2⟩ := runD_ok hcall hn ops [] ⟨s.t, ⟨s.m.tr, s.m.next + ops.length⟩, s.wl⟩ s2 ht (by show lim ≤ s.m.next + ops.length; omega) hd hr
              refine ⟨⟨h1.t, Nat.le_trans (Nat.le_add_right _ _) h1.next, h1.keep⟩, fun Q hQ => ?_⟩
              exact ⟨rfl, h2 (Q .normal) hQ⟩
      | seq a b =>
        simp only [dstOk, Bool.and_eq_true] at hd
        simp only [runCG] at h
        cases hr : runCG sd fc call dr sc lim f a s with
        | none => simp [hr] at h
        | some es =>
          obtain ⟨e2, s2⟩ := es
          obtain ⟨h1, h2⟩ := ih f (Nat.lt_succ_self f) a s s2 e2 ht hlim hd.1 hr
          cases e2 with
          | normal =>
            simp only [hr] at h
            obtain ⟨h3, h4⟩ := ih f (Nat.lt_succ_self f) b s2 s' e h1.t (Nat.le_trans hlim h1.next) hd.2 h
            exact ⟨h1.trans h3, fun Q hQ => h2 _ (h4 Q hQ)⟩
          | exit i =>
            simp only [hr, Option.some.injEq, Prod.mk.injEq] at h
            obtain ⟨rfl, rfl⟩ := h
            exact ⟨h1, fun Q hQ => h2 _ hQ⟩
          | ret =>
            simp only [hr, Option.some.injEq, Prod.mk.injEq] at h
            obtain ⟨rfl, rfl⟩ := h
            exact ⟨h1, fun Q hQ => h2 _ hQ⟩
      | cond x a b =>
        simp only [dstOk, Bool.and_eq_true] at hd
        simp only [runCG] at h
        have hx : ev (toL n s.t) x = evT s.t x := congrFun (ev_toL ht) x
        split at h
        · rename_i hb
          obtain ⟨h1, h2⟩ := ih f (Nat.lt_succ_self f) a s s' e ht hlim hd.1 h
          refine ⟨h1, fun Q hQ => ?_⟩
          simp only [wpcG, RS.st, hx, hb]
          exact h2 Q hQ
        · rename_i hb
          obtain ⟨h1, h2⟩ := ih f (Nat.lt_succ_self f) b s s' e ht hlim hd.2 h
          refine ⟨h1, fun Q hQ => ?_⟩
          simp only [wpcG, RS.st, hx, hb]
          exact h2 Q hQ
        · cases h
      | block i c =>
        simp only [dstOk] at hd
        simp only [runCG] at h
        cases hr : runCG sd fc call dr sc lim f c s with
        | none => simp [hr] at h
        | some es =>
          obtain ⟨e2, s2⟩ := es
          obtain ⟨h1, h2⟩ := ih f (Nat.lt_succ_self f) c s s2 e2 ht hlim hd hr
          cases e2 with
          | normal =>
            simp only [hr, Option.some.injEq, Prod.mk.injEq] at h
            obtain ⟨rfl, rfl⟩ := h
            exact ⟨h1, fun Q hQ => h2 _ hQ⟩
          | ret =>
            simp only [hr, Option.some.injEq, Prod.mk.injEq] at h
            obtain ⟨rfl, rfl⟩ := h
            exact ⟨h1, fun Q hQ => h2 _ hQ⟩
          | exit k =>
            simp only [hr] at h
            cases hb : Nat.beq k i with
            | true =>
              rw [hb] at h
              simp only [cond_true, Option.some.injEq, Prod.mk.injEq] at h
              obtain ⟨rfl, rfl⟩ := h
              have := Nat.eq_of_beq_eq_true hb
              subst this
              exact ⟨h1, fun Q hQ => h2 _ (by simp only [REnd.exit', blockA, if_true]; exact hQ)⟩
            | false =>
              rw [hb] at h
              simp only [cond_false, Option.some.injEq, Prod.mk.injEq] at h
              obtain ⟨rfl, rfl⟩ := h
              have hne : k ≠ i := fun e => by subst e; rw [Nat.beq_refl] at hb; cases hb
              exact ⟨h1, fun Q hQ => h2 _ (by simp only [REnd.exit', blockA, if_neg hne]; exact hQ)⟩
      | scope c =>
        simp only [dstOk] at hd
        simp only [runCG] at h
        cases hsc : sc with
        | false => rw [hsc] at h; cases h
        | true =>
          rw [hsc] at h
          simp only [cond_true] at h
          have h' : runCG sd fc call dr sc lim f c s = some (e, s') := by rw [hsc]; exact h
          obtain ⟨h1, h2⟩ := ih f (Nat.lt_succ_self f) c s s' e ht hlim hd h'
          rw [hsc] at h2
          refine ⟨h1, fun Q hQ => ⟨rfl, h2 _ ?_⟩⟩
          cases e <;> exact hQ
      | loop c =>
        have hdl := hd
        simp only [dstOk] at hd
        have hfin : RunOk n lim s s' := by
          simp only [runCG] at h
          cases hr : runCG sd fc call dr sc lim f c s with
          | none => simp [hr] at h
          | some es =>
            obtain ⟨e2, s2⟩ := es
            obtain ⟨h1, _⟩ := ih f (Nat.lt_succ_self f) c s s2 e2 ht hlim hd hr
            cases e2 with
            | normal =>
              simp only [hr] at h
              exact h1.trans (ih f (Nat.lt_succ_self f) (.loop c) s2 s' e h1.t (Nat.le_trans hlim h1.next) hdl h).1
            | exit i =>
              simp only [hr, Option.some.injEq, Prod.mk.injEq] at h
              obtain ⟨rfl, rfl⟩ := h
              exact h1
            | ret =>
              simp only [hr, Option.some.injEq, Prod.mk.injEq] at h
              obtain ⟨rfl, rfl⟩ := h
              exact h1
        refine ⟨hfin, fun Q hQ => ?_⟩
        refine ⟨fun k σ => k ≤ f ∧ ∃ s1, σ = s1.st n ∧ TOk n s1.t ∧ lim ≤ s1.m.next ∧ runCG sd fc call dr sc lim (k + 1) (.loop c) s1 = some (e, s'), ⟨f, _, .refl _, Nat.le_refl _, s, rfl, ht, hlim, h⟩, ?_⟩
        rintro k σ ⟨hkf, s1, rfl, ht1, hl1, hr1⟩
        simp only [runCG] at hr1
        cases hr : runCG sd fc call dr sc lim k c s1 with
        | none => simp [hr] at hr1
        | some es =>
          obtain ⟨e2, s2⟩ := es
          obtain ⟨h1, h2⟩ := ih k (by omega) c s1 s2 e2 ht1 hl1 hd hr
          refine h2 _ ?_
          cases e2 with
          | normal =>
            simp only [hr] at hr1
            cases k with
            | zero => simp [runCG] at hr1
            | succ k => exact ⟨k, s2.st n, Nat.lt_succ_self k, .refl _, by omega, s2, rfl, h1.t, Nat.le_trans hl1 h1.next, hr1⟩
          | exit i =>
            simp only [hr, Option.some.injEq, Prod.mk.injEq] at hr1
            obtain ⟨rfl, rfl⟩ := hr1
            exact hQ
          | ret =>
            simp only [hr, Option.some.injEq, Prod.mk.injEq] at hr1
            obtain ⟨rfl, rfl⟩ := hr1
            exact hQ
end Go.AE
