/- Part 4 of the proof: AeGf. -/
import Derived.Test.YtpbghdhdifcnnaaGreatDoorA3
set_option linter.all false
namespace Go.AE
open Go.RowKit
variable {P : Program}
def fcFn (call : Caller) : FCaller := fun fn args m =>
  match fn with
  | .func g => call g args m
  | _ => none
theorem fcFn_ok {call : Caller} (hcall : CallerOk P call) : FCallerOk (cwFn P) (fcFn call) := by
  intro fn args m v m' wl h
  cases fn <;> simp only [fcFn] at h <;> first | (cases h; done) | skip
  rename_i g
  obtain ⟨h1, h2, h3⟩ := hcall g args m v m' wl h
  refine ⟨h1, h2, fun id K hK => ⟨g, rfl, (h3 id).mono fun r m'' hr => ?_⟩⟩
  obtain ⟨rfl, rfl⟩ := hr
  exact hK
def setPsT (t : Tr AVal) : List (Nat × AVal) → Tr AVal
  | [] => t
  | (i, x) :: r => setPsT (putT t (some i) x) r
theorem setPsT_ok {n : Nat} (hn : n ≤ bound) : ∀ (l : List (Nat × AVal)) (t : Tr AVal), TOk n t → (∀ p, p ∈ l → p.1 < n) → TOk n (setPsT t l) ∧ toL n (setPsT t l) = setPs (toL n t) l
  | [], t, ht, _ => ⟨ht, rfl⟩
  | (i, x) :: r, t, ht, hl => by
    obtain ⟨p1, p2⟩ := putT_ok (v := x) (d := some i) hn ht (fun k hk => by injection hk with hk; subst hk; exact hl _ (List.mem_cons_self ..))
    obtain ⟨q1, q2⟩ := setPsT_ok hn r _ p1 (fun p hp => hl p (List.mem_cons_of_mem _ hp))
    refine ⟨q1, ?_⟩
    simp only [setPsT, setPs]
    rw [q2, p2]
    rfl
def fcY (call : Caller) (b0 : Nat) (ps : List Nat) (tR : Tr AVal) (A B : ACode) : FCaller := fun fn args m =>
  match fn with
  | .func g => call g args m
  | .yield b => bif Nat.beq b b0 then bif Nat.beq args.length ps.length then
      match runCG stepD (fcFn call) call false false m.next 1000 A ⟨setPsT tR (ps.zip args), m, []⟩ with
      | some (.normal, s1) => match runCG stepD (fcFn call) call false false m.next 1000 B s1 with
        | some (.normal, s2) => some (.bool true, s2.m, s2.wl)
        | _ => none
      | _ => none
      else none else none
  | _ => none
theorem fcY_ok {call : Caller} (hcall : CallerOk P call) {b0 n : Nat} {ps : List Nat} {tR : Tr AVal} {A B : ACode} (hn : n ≤ bound) (ht : TOk n tR) (hps : (ps.all fun p => decide (p < n)) = true) (hA : dstOk n A = true) (hB : dstOk n B = true) :
    FCallerOk (cwY P b0 ps (toL n tR) A B) (fcY call b0 ps tR A B) := by
  intro fn args m v m' wl h
  cases fn <;> simp only [fcY] at h <;> first | (cases h; done) | skip
  case func g =>
    obtain ⟨h1, h2, h3⟩ := fcFn_ok hcall (.func g) args m v m' wl h
    exact ⟨h1, h2, fun id K hK => .inl (h3 id K hK)⟩
  case yield b =>
    cases hb : Nat.beq b b0 with
    | false => rw [hb] at h; cases h
    | true =>
      rw [hb] at h
      simp only [cond_true] at h
      have hbe := Nat.eq_of_beq_eq_true hb
      subst hbe
      cases hl : Nat.beq args.length ps.length with
      | false => rw [hl] at h; cases h
      | true =>
        rw [hl] at h
        simp only [cond_true] at h
        have hle := Nat.eq_of_beq_eq_true hl
        obtain ⟨p1, p2⟩ := setPsT_ok hn (ps.zip args) tR ht (fun p hp => by
          have := List.of_mem_zip hp
          simpa using List.all_eq_true.1 hps _ this.1)
        cases hr1 : runCG stepD (fcFn call) call false false m.next 1000 A ⟨setPsT tR (ps.zip args), m, []⟩ with
        | none => simp [hr1] at h
        | some es =>
          obtain ⟨e1, s1⟩ := es
          obtain ⟨g1, g2⟩ := runCG_ok stepD_std (fcFn_ok hcall) hcall hn 1000 A ⟨setPsT tR (ps.zip args), m, []⟩ s1 e1 p1 (Nat.le_refl _) hA hr1
          cases e1 with
          | exit i => simp [hr1] at h
          | ret => simp [hr1] at h
          | normal =>
            simp only [hr1] at h
            cases hr2 : runCG stepD (fcFn call) call false false m.next 1000 B s1 with
            | none => simp [hr2] at h
            | some es =>
              obtain ⟨e2, s2⟩ := es
              obtain ⟨g3, g4⟩ := runCG_ok stepD_std (fcFn_ok hcall) hcall hn 1000 B s1 s2 e2 g1.t g1.next hB hr2
              cases e2 with
              | exit i => simp [hr2] at h
              | ret => simp [hr2] at h
              | normal =>
                simp only [hr2, Option.some.injEq, Prod.mk.injEq] at h
                obtain ⟨rfl, rfl, rfl⟩ := h
                have g5 := g1.trans g3
                refine ⟨g5.next, fun c hc hw => (g5.keep c hc hw).2, fun id K hK => .inr ⟨rfl, hle, ?_⟩⟩
                rw [← p2]
                exact g2 _ (g4 _ hK)
def partsOf : Code → Option (List Code × Code × Nat × Operand × Array Tmp × Code × Code × Code)
  | .seq (.seq x (.block b (.rangeFunc g ps asn bd))) y => some ([], x, b, g, ps, asn, bd, y)
  | .seq a r => match partsOf r with
    | some p => some (a :: p.1, p.2)
    | none => none
  | _ => none
def seqs : List Code → Code → Code
  | [], c => c
  | a :: r, c => .seq a (seqs r c)
theorem partsOf_spec : ∀ (c : Code) (p : List Code × Code × Nat × Operand × Array Tmp × Code × Code × Code), partsOf c = some p →
    c = seqs p.1 (.seq (.seq p.2.1 (.block p.2.2.1 (.rangeFunc p.2.2.2.1 p.2.2.2.2.1 p.2.2.2.2.2.1 p.2.2.2.2.2.2.1))) p.2.2.2.2.2.2.2) := by
  intro c
  induction c with
  | seq a r _ ih =>
    intro p h
    unfold partsOf at h
    split at h
    · rename_i x b g ps asn bd y heq
      injection heq with h1 h2
      subst h1; subst h2
      injection h with h
      subst h
      rfl
    · rename_i a' r' _ heq
      injection heq with h1 h2
      subst h1; subst h2
      cases hp : partsOf r with
      | none => simp [hp] at h
      | some q =>
        simp only [hp, Option.some.injEq] at h
        subst h
        simp only [seqs]
        rw [← ih q hp]
    · cases h
  | _ => intro p h; simp [partsOf] at h
structure AParts where
  ntmps : Nat
  results : List (Nat × Option (Option Nat))
  pre : List ACode
  x : ACode
  g : AOpd
  ps : List Nat
  asn : ACode
  bd : ACode
  y : ACode
def cRange (P : Program) (fn : Func) : Option AParts :=
  match fn.body with
  | some c => match partsOf c with
    | some (pre, x, _, g, ps, asn, bd, y) => match cOpd g, cResults P fn.results.toList with
      | some g', some rs => if fn.name == "runtime.NumGoroutine" then none else some ⟨fn.ntmps, rs, pre.map (cCode P), cCode P x, g', ps.toList, cCode P asn, cCode P bd, cCode P y⟩
      | _, _ => none
    | none => none
  | none => none
def runPre (call : Caller) (lim : Nat) : List ACode → RS → Option (REnd × RS)
  | [], s => some (.normal, s)
  | a :: r, s => match runC call lim 1000 a s with
    | some (.normal, s') => runPre call lim r s'
    | some (.ret, s') => some (.ret, s')
    | _ => none
def runR (tab : Nat → Option AFn) (call : Caller) (p : AParts) (args : List AVal) (m : TM) : Option (AVal × TM × List Nat) :=
  bif Nat.ble args.length p.ntmps then
  match runPre call m.next p.pre ⟨argsT .nil 0 args, m, []⟩ with
  | some (.ret, s) => match retT s.t s.m p.results with
    | some v => some (v, s.m, s.wl)
    | none => none
  | some (.normal, s) => match runC call m.next 1000 p.x s with
    | some (.normal, s1) => match evT s1.t p.g with
      | .func (.func gf) first cap => match tab gf with
        | some af => bif Nat.ble (first ++ [AVal.yld s1.m.next] ++ cap).length af.ntmps then
          match runCG stepD (fcY call s1.m.next p.ps s1.t p.asn p.bd) call true true m.next 1000 af.body ⟨argsT .nil 0 (first ++ [.yld s1.m.next] ++ cap), ⟨s1.m.tr, s1.m.next + 1⟩, s1.wl⟩ with
          | some (.exit _, _) => none
          | some (_, s2) => match retT s2.t s2.m af.results with
            | some _ => match runCG stepD (fcFn call) call false false m.next 1000 p.y ⟨s1.t, s2.m, s2.wl⟩ with
              | some (.exit _, _) => none
              | some (_, s3) => match retT s3.t s3.m p.results with
                | some v => some (v, s3.m, s3.wl)
                | none => none
              | none => none
            | none => none
          | none => none
          else none
        | none => none
      | _ => none
    | _ => none
  | _ => none
  else none
def AParts.ok (p : AParts) : Bool :=
  p.pre.all (dstOk p.ntmps) && dstOk p.ntmps p.x && (p.ps.all fun q => decide (q < p.ntmps)) && dstOk p.ntmps p.asn && dstOk p.ntmps p.bd && dstOk p.ntmps p.y && decide (p.ntmps ≤ bound)
theorem pre_ok (hm : P.follows .mixedOrders = true) {call : Caller} (hcall : CallerOk P call) {n lim : Nat} (hn : n ≤ bound) : ∀ (xs : List Code) (s s' : RS) (e : REnd), TOk n s.t → lim ≤ s.m.next → (xs.map (cCode P)).all (dstOk n) = true → runPre call lim (xs.map (cCode P)) s = some (e, s') →
    RunOk n lim s s' ∧ (e = .normal ∨ e = .ret) ∧ ∀ (c : Code) (K : ASt → Prop), (e = .ret → K (s'.st n)) → (e = .normal → AR P c K (s'.st n)) → AR P (seqs xs c) K (s.st n)
  | [], s, s', e, ht, _, _, h => by
    simp only [List.map_nil, runPre, Option.some.injEq, Prod.mk.injEq] at h
    obtain ⟨rfl, rfl⟩ := h
    exact ⟨⟨ht, Nat.le_refl _, fun c _ hw => ⟨hw, rfl⟩⟩, .inl rfl, fun c K _ h2 => h2 rfl⟩
  | x :: xs, s, s', e, ht, hlim, hd, h => by
    simp only [List.map_cons, List.all_cons, Bool.and_eq_true] at hd
    simp only [List.map_cons, runPre] at h
    cases hr : runC call lim 1000 (cCode P x) s with
    | none => simp [hr] at h
    | some es =>
      obtain ⟨e1, s1⟩ := es
      obtain ⟨h1, h2⟩ := runC_ok hcall hn 1000 (cCode P x) s s1 e1 ht hlim hd.1 hr
      cases e1 with
      | exit i => simp [hr] at h
      | ret =>
        simp only [hr, Option.some.injEq, Prod.mk.injEq] at h
        obtain ⟨rfl, rfl⟩ := h
        exact ⟨h1, .inr rfl, fun c K h3 _ => AR_seq (sound hm x _ _ (h2 (seqQ K (AR P (seqs xs c) K)) (h3 rfl)))⟩
      | normal =>
        simp only [hr] at h
        obtain ⟨g1, g2, g3⟩ := pre_ok hm hcall hn xs s1 s' e h1.t (Nat.le_trans hlim h1.next) hd.2 h
        exact ⟨h1.trans g1, g2, fun c K h3 h4 => AR_seq (sound hm x _ _ (h2 (seqQ K (AR P (seqs xs c) K)) (g3 c K h3 h4)))⟩
theorem cRange_spec {fn : Func} {p : AParts} (h : cRange P fn = some p) : ∃ c pre x b g ps asn bd y, fn.body = some c ∧ c = seqs pre (.seq (.seq x (.block b (.rangeFunc g ps asn bd))) y) ∧ cOpd g = some p.g ∧ cResults P fn.results.toList = some p.results ∧
    (fn.name == "runtime.NumGoroutine") = false ∧ p.ntmps = fn.ntmps ∧ p.pre = pre.map (cCode P) ∧ p.x = cCode P x ∧ p.ps = ps.toList ∧ p.asn = cCode P asn ∧ p.bd = cCode P bd ∧ p.y = cCode P y := by
  unfold cRange at h
  cases hb : fn.body with
  | none => simp [hb] at h
  | some c =>
    simp only [hb] at h
    cases hp : partsOf c with
    | none => simp [hp] at h
    | some q =>
      obtain ⟨pre, x, b, g, ps, asn, bd, y⟩ := q
      simp only [hp] at h
      split at h <;> first | (cases h; done) | skip
      rename_i g' rs hg hrs
      split at h <;> first | (cases h; done) | skip
      rename_i hname
      injection h with h
      subst h
      exact ⟨c, pre, x, b, g, ps, asn, bd, y, rfl, partsOf_spec c _ hp, hg, hrs, by simpa using hname, rfl, rfl, rfl, rfl, rfl, rfl, rfl⟩
theorem runR_ok (hm : P.follows .mixedOrders = true) {tab : Nat → Option AFn} (htab : TabOk P tab) {call : Caller} (hcall : CallerOk P call) {f : FuncId} {fn : Func} {p : AParts} (hf : P.funcs[f]? = some fn) (hp : cRange P fn = some p) (hok : p.ok = true)
    {args : List AVal} {m m' : TM} {v : AVal} {wl : List Nat} (h : runR tab call p args m = some (v, m', wl)) :
    m.next ≤ m'.next ∧ (∀ c, c < m.next → c ∉ wl → m'.mem.get c = m.mem.get c) ∧ ∀ av, ACalls P f args m.mem av fun r m'' => r = v ∧ m'' = m'.mem := by
  obtain ⟨c, pre, x, b, g, ps, asn, bd, y, hb, hc, hg, hrs, hname, hnt, epre, ex, eps, easn, ebd, ey⟩ := cRange_spec hp
  unfold AParts.ok at hok
  simp only [Bool.and_eq_true, decide_eq_true_eq] at hok
  obtain ⟨⟨⟨⟨⟨⟨o1, o2⟩, o3⟩, o4⟩, o5⟩, o6⟩, o7⟩ := hok
  unfold runR at h
  cases hl : Nat.ble args.length p.ntmps with
  | false => rw [hl] at h; cases h
  | true =>
  rw [hl] at h
  simp only [cond_true] at h
  obtain ⟨a1, a2⟩ := argsT_ok o7 (ble_true hl)
  rw [epre] at h o1
  have fin : ∀ s : RS, RunOk p.ntmps m.next ⟨argsT .nil 0 args, m, []⟩ s → retT s.t s.m p.results = some v → m' = s.m → wl = s.wl →
      ((∀ K : ASt → Prop, K (s.st p.ntmps) → AR P c K ((⟨argsT .nil 0 args, m, []⟩ : RS).st p.ntmps)) →
      m.next ≤ m'.next ∧ (∀ c, c < m.next → c ∉ wl → m'.mem.get c = m.mem.get c) ∧ ∀ av, ACalls P f args m.mem av fun r m'' => r = v ∧ m'' = m'.mem) := by
    intro s hs hret e1 e2 hA
    subst e1; subst e2
    refine ⟨hs.next, fun c hc hw => (hs.keep c hc hw).2, fun av => acalls_ofR hf hb hname hrs ?_⟩
    rw [← hnt, ← a2]
    refine hA _ ?_
    have : retA (toL p.ntmps s.t) s.m.mem p.results = some v := by rw [retT_eq hs.t]; exact hret
    simp only [RS.st, this]
    exact ⟨trivial, trivial⟩
  cases hpre : runPre call m.next (pre.map (cCode P)) ⟨argsT .nil 0 args, m, []⟩ with
  | none => simp [hpre] at h
  | some es =>
    obtain ⟨e, s⟩ := es
    obtain ⟨g1, g2, g3⟩ := pre_ok hm hcall o7 (lim := m.next) pre ⟨argsT .nil 0 args, m, []⟩ s e a1 (Nat.le_refl _) o1 hpre
    simp only [hpre] at h
    cases e with
    | exit i => simp at h
    | ret =>
      simp only at h
      cases hr : retT s.t s.m p.results with
      | none => simp [hr] at h
      | some r =>
        simp only [hr, Option.some.injEq, Prod.mk.injEq] at h
        obtain ⟨rfl, rfl, rfl⟩ := h
        refine fin s g1 hr rfl rfl fun K hK => ?_
        rw [hc]
        exact g3 _ K (fun _ => hK) (fun he => by cases he)
    | normal =>
      simp only at h
      rw [ex] at h o2
      cases hx : runC call m.next 1000 (cCode P x) s with
      | none => simp [hx] at h
      | some es =>
        obtain ⟨e1, s1⟩ := es
        simp only [hx] at h
        obtain ⟨k1, k2⟩ := runC_ok hcall o7 1000 (cCode P x) s s1 e1 g1.t g1.next o2 hx
        cases e1 with
        | exit i => simp at h
        | ret => simp at h
        | normal =>
          simp only at h
          split at h <;> first | (cases h; done) | skip
          rename_i gf first cap hev
          cases ht : tab gf with
          | none => simp [ht] at h
          | some af =>
            simp only [ht] at h
            obtain ⟨⟨fni, hfi, hci⟩, hdi, hbi⟩ := htab gf af ht
            cases hli : Nat.ble (first ++ [AVal.yld s1.m.next] ++ cap).length af.ntmps with
            | false => rw [hli] at h; cases h
            | true =>
              rw [hli] at h
              simp only [cond_true] at h
              obtain ⟨b1, b2⟩ := argsT_ok hbi (ble_true hli)
              have gk := g1.trans k1
              have hfc := fcY_ok (P := P) hcall (b0 := s1.m.next) (ps := p.ps) (A := p.asn) (B := p.bd) o7 k1.t o3 o4 o5
              split at h <;> first | (cases h; done) | skip
              rename_i e2 s2 hne hit
              obtain ⟨j1, j2⟩ := runCG_ok stepD_std hfc hcall hbi 1000 af.body ⟨argsT .nil 0 (first ++ [.yld s1.m.next] ++ cap), ⟨s1.m.tr, s1.m.next + 1⟩, s1.wl⟩ s2 e2 b1 (by have h1 : m.next ≤ s1.m.next := gk.next; show m.next ≤ s1.m.next + 1; omega) hdi hit
              cases hri : retT s2.t s2.m af.results with
              | none => simp [hri] at h
              | some ri =>
                simp only [hri] at h
                rw [ey] at h o6
                split at h <;> first | (cases h; done) | skip
                rename_i e3 s3 hne3 hy
                obtain ⟨l1, l2⟩ := runCG_ok (dr := false) (sc := false) stepD_std (fcFn_ok hcall) hcall o7 1000 (cCode P y) ⟨s1.t, s2.m, s2.wl⟩ s3 e3 k1.t (by
                  have h1 : m.next ≤ s1.m.next := gk.next
                  have h2 : s1.m.next + 1 ≤ s2.m.next := j1.next
                  show m.next ≤ s2.m.next
                  omega) o6 hy
                cases hr3 : retT s3.t s3.m p.results with
                | none => simp [hr3] at h
                | some r =>
                  simp only [hr3, Option.some.injEq, Prod.mk.injEq] at h
                  obtain ⟨rfl, rfl, rfl⟩ := h
                  have hall : RunOk p.ntmps m.next ⟨argsT .nil 0 args, m, []⟩ s3 := by
                    refine ⟨l1.t, ?_, fun c hc hw => ?_⟩
                    · have h1 : m.next ≤ s1.m.next := gk.next
                      have h2 : s1.m.next + 1 ≤ s2.m.next := j1.next
                      have h3 : s2.m.next ≤ s3.m.next := l1.next
                      show m.next ≤ s3.m.next
                      omega
                    · obtain ⟨q1, q2⟩ := l1.keep c hc hw
                      obtain ⟨q3, q4⟩ := j1.keep c hc q1
                      obtain ⟨q5, q6⟩ := gk.keep c hc q3
                      exact ⟨q5, q2.trans (q4.trans q6)⟩
                  refine fin s3 hall hr3 rfl rfl fun K hK => ?_
                  rw [hc]
                  refine g3 _ K (fun he => by cases he) fun _ => AR_range hg (sound hm x _ _ (k2 _ ?_))
                  refine ⟨gf, first, cap, by rw [← hev]; exact congrFun (ev_toL k1.t) p.g, fun l r hs1 hs2 hs3 hs4 hs5 => ?_⟩
                  have hcw := cwY_ok (P := P) (n := 0) (b := s1.m.next) (l := l) (tR := toL p.ntmps s1.t) hs1 hs2
                  rw [hs3, hs4, hs5, ← eps, ← easn, ← ebd] at hcw
                  refine acallsH_of hm HLoop.mono (stepA_st Open.wide) hcw hfi hci ?_
                  show wpcG _ true af.body _ ⟨first ++ [AVal.yld s1.m.next] ++ cap ++ List.replicate (af.ntmps - (first ++ [AVal.yld s1.m.next] ++ cap).length) aundef, s1.m.mem.at (s1.m.next + 1)⟩
                  rw [← b2]
                  refine j2 _ ?_
                  have hri' : retA (toL af.ntmps s2.t) s2.m.mem af.results = some ri := by rw [retT_eq j1.t]; exact hri
                  have hend : wpcG (wrG P false stepA (cwFn P)) false (cCode P y) (seqQ K K) ⟨toL p.ntmps s1.t, s2.m.mem⟩ := by
                    refine l2 _ ?_
                    cases e3 with
                    | normal => exact hK
                    | ret => exact hK
                    | exit i => exact absurd rfl (hne3 i)
                  cases e2 with
                  | normal => simp only [REnd.exit', retK, RS.st, hri']; exact hend
                  | ret => simp only [REnd.exit', retK, RS.st, hri']; exact hend
                  | exit i => exact absurd rfl (hne i)
end Go.AE
