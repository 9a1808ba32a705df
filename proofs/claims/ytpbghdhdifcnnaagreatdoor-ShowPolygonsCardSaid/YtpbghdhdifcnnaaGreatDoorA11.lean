/- Part 11 of the proof: AeSa. -/
import Derived.Test.YtpbghdhdifcnnaaGreatDoorA10
set_option linter.all false
namespace Go.AE
open Go.RowKit
abbrev Env := List (Nat × AVal)
def Env.get : Env → Nat → AVal
  | [], _ => .bot
  | (j, v) :: r, i => if i = j then v else Env.get r i
def evE (n : Nat) (e : Env) : AOpd → AVal
  | .tmp i => if i < n then e.get i else aundef
  | .const v => v
  | .fn f => .func (.func f) [] []
def putE (e : Env) (d : Option Nat) (v : AVal) : Env :=
  match d with
  | some d => (d, v) :: e
  | none => e
structure SMem where
  bl : List (Nat × ABlk)
  next : Nat
def lookB : List (Nat × ABlk) → Nat → Option ABlk
  | [], _ => none
  | (c, x) :: r, b => if b = c then some x else lookB r b
def eraseB : List (Nat × ABlk) → Nat → List (Nat × ABlk)
  | [], _ => []
  | (c, x) :: r, b => if b = c then eraseB r b else (c, x) :: eraseB r b
def SMem.get (m : SMem) (b : Nat) : Option ABlk := lookB m.bl b
def SMem.mem (m : SMem) : Mem := ⟨m.get, m.next⟩
def SMem.at (m : SMem) (n : Nat) : SMem := ⟨m.bl, n⟩
def SMem.app (m : SMem) : List (Nat × Option ABlk) → SMem
  | [] => m
  | (b, some x) :: r => SMem.app ⟨(b, x) :: m.bl, m.next⟩ r
  | (b, none) :: r => SMem.app ⟨eraseB m.bl b, m.next⟩ r
theorem lookB_erase (b c : Nat) : ∀ (l : List (Nat × ABlk)), lookB (eraseB l b) c = if c = b then none else lookB l c
  | [] => by simp [eraseB, lookB]
  | (d, x) :: r => by
    simp only [eraseB]
    by_cases h : b = d
    · rw [if_pos h, lookB_erase b c r]
      simp only [lookB]
      by_cases h2 : c = b
      · simp [h2]
      · rw [if_neg h2, if_neg h2, if_neg (by omega)]
    · rw [if_neg h]
      simp only [lookB]
      by_cases h2 : c = d
      · rw [if_pos h2, if_pos h2, if_neg (by omega)]
      · rw [if_neg h2, if_neg h2, lookB_erase b c r]
theorem SMem.app_mem : ∀ (d : List (Nat × Option ABlk)) (m : SMem), (m.app d).mem = m.mem.apply d
  | [], _ => rfl
  | (b, some x) :: r, m => by
    simp only [SMem.app, Mem.apply]
    rw [SMem.app_mem r]
    congr 1
  | (b, none) :: r, m => by
    simp only [SMem.app, Mem.apply]
    rw [SMem.app_mem r]
    congr 1
    exact Mem.ext' (fun c => by simp only [SMem.mem, SMem.get, Mem.get_del]; exact lookB_erase b c m.bl) rfl
def toE (n : Nat) (e : Env) : List AVal := (List.range n).map e.get
theorem toE_length (n : Nat) (e : Env) : (toE n e).length = n := by simp [toE]
theorem toE_get {n : Nat} {e : Env} {i : Nat} (h : i < n) : (toE n e)[i]? = some (e.get i) := by simp [toE, h]
theorem ev_toE (n : Nat) (e : Env) : ev (toE n e) = evE n e := by
  funext x
  cases x with
  | tmp i =>
    simp only [ev, evE]
    by_cases h : i < n
    · rw [if_pos h, List.getD, toE_get h]; rfl
    · rw [if_neg h, List.getD, List.getElem?_eq_none (by rw [toE_length]; omega)]; rfl
  | const v => rfl
  | fn f => rfl
theorem toE_put (n : Nat) (e : Env) (d : Option Nat) (v : AVal) : put (toE n e) d v = toE n (putE e d v) := by
  cases d with
  | none => rfl
  | some d =>
    simp only [put, putE]
    apply List.ext_getElem?
    intro i
    rw [List.getElem?_set]
    by_cases hi : i < n
    · rw [toE_get hi, toE_get hi]
      simp only [Env.get]
      by_cases h : d = i
      · rw [if_pos h, if_pos (by rw [toE_length]; omega), if_pos h.symm]
      · rw [if_neg h, if_neg (fun e => h e.symm)]
    · rw [List.getElem?_eq_none (by rw [toE_length]; omega), List.getElem?_eq_none (by rw [toE_length]; omega)]
      by_cases h : d = i
      · rw [if_pos h, if_neg (by rw [toE_length]; omega)]
      · rw [if_neg h]
def wantedE (n : Nat) (e : Env) : Option (Nat × Bool) → Option Bool
  | none => some true
  | some (d, w) => match evE n e (.tmp d) with
    | .bool b => some (b == w)
    | .tuple [] => some false
    | _ => none
theorem wantedE_eq (n : Nat) (e : Env) (g : Option (Nat × Bool)) : wantedA (toE n e) g = wantedE n e g := by
  cases g with
  | none => rfl
  | some p =>
    obtain ⟨d, w⟩ := p
    have h : (toE n e).getD d aundef = evE n e (.tmp d) := congrFun (ev_toE n e) (.tmp d)
    simp only [wantedA, wantedE, h]
    rfl
def calleeE (n : Nat) (e : Env) (f : AOpd) (xs : List AOpd) : Option (FuncId × List AVal) :=
  match evE n e f with
  | .func (.func g) first cap => some (g, first ++ xs.map (evE n e) ++ cap)
  | _ => none
theorem calleeE_eq (n : Nat) (e : Env) (f : AOpd) (xs : List AOpd) : callee (toE n e) f xs = calleeE n e f xs := by
  simp only [callee, calleeE, ev_toE]
  rfl
def SC (P : Program) (g : FuncId) (args : List AVal) (m : SMem) (id : Nat) (K : AVal → SMem → Prop) : Prop :=
  ACalls P g args m.mem [id] fun v m'' => ∃ m', m'' = m'.mem ∧ K v m'
def PCall (P : Program) (g : FuncId) (args : List AVal) (v : AVal) : Prop := ∀ (m : Mem) (av : List Nat), ACalls P g args m av fun r m' => r = v ∧ m' = m
theorem SC_pure {P : Program} {g : FuncId} {args : List AVal} {m : SMem} {id : Nat} {v : AVal} {K : AVal → SMem → Prop} (h : PCall P g args v) (hK : K v m) : SC P g args m id K :=
  (h m.mem [id]).mono fun r m' hr => by obtain ⟨rfl, rfl⟩ := hr; exact ⟨m, rfl, hK⟩
def sops (P : Program) (n base : Nat) : List AOper → Nat → (Env → SMem → Prop) → Env → SMem → Prop
  | [], _, K, e, m => K e m
  | o :: r, i, K, e, m =>
    match wantedE n e o.guard with
    | some false => sops P n base r (i + 1) K (putE e o.dst aundef) m
    | some true =>
      match o.op with
      | .call f xs => match calleeE n e f xs with
        | some (g, args) => SC P g args m (base + i) fun v m' => sops P n base r (i + 1) K (putE e o.dst v) m'
        | none => False
      | op => match stepD (base + i) (evE n e) m.get op with
        | some (v, d) => sops P n base r (i + 1) K (putE e o.dst v) (m.app d)
        | none => False
    | none => False
def upX : Nat → Nat → List Nat
  | 0, _ => []
  | k + 1, s => s :: upX k (s + 1)
def xOf (base i n : Nat) : List Nat := upX i base ++ upX n (base + i + 1)
theorem mem_upX : ∀ {k s c : Nat}, c ∈ upX k s → s ≤ c ∧ c < s + k
  | 0, _, _, h => by simp [upX] at h
  | k + 1, s, c, h => by
    simp only [upX, List.mem_cons] at h
    rcases h with rfl | h
    · omega
    · have := mem_upX h; omega
theorem own_xOf (base i n : Nat) : base + i ∉ xOf base i n := by
  intro h
  rcases List.mem_append.1 h with h | h
  · have := mem_upX h; omega
  · have := mem_upX h; omega
def sdops (P : Program) (n base : Nat) : List AOper → List FT → (Env → SMem → Prop) → Env → SMem → Prop
  | [], _, K, e, m => K e m
  | o :: r, fs, K, e, m =>
    match wantedE n e o.guard with
    | some false => sdops P n base r (fs ++ [.ops [] []]) K (putE e o.dst aundef) m
    | some true =>
      match o.op with
      | .call f xs => match calleeE n e f xs with
        | some (g, args) => ∃ v, PCall P g args v ∧ indepL fs (.call [] (xOf base fs.length r.length) m.next) o.un ∧ sdops P n base r (fs ++ [.call [] (xOf base fs.length r.length) m.next]) K (putE e o.dst v) m
        | none => False
      | op => match stepD (base + fs.length) (evE n e) m.get op with
        | some (v, d) => indepL fs (.ops (footWD (base + fs.length) (evE n e) op) (footRD (evE n e) op)) o.un ∧ sdops P n base r (fs ++ [.ops (footWD (base + fs.length) (evE n e) op) (footRD (evE n e) op)]) K (putE e o.dst v) (m.app d)
        | none => False
    | none => False
def SubE : Env → Env → Prop
  | [], _ => True
  | (i, v) :: r, e => e.get i = v ∧ SubE r e
def BSub : ABlk → ABlk → Prop
  | .cells k els, .cells k' els' => k = k' ∧ els.length = els'.length ∧ ∀ (i : Nat) (row row' : List AVal), els[i]? = some row → els'[i]? = some row' → row.length = row'.length ∧ ∀ (j : Nat) (x : AVal), row[j]? = some x → x = AVal.bot ∨ row'[j]? = some x
  | x, y => x = y
theorem BR.bsub {Φ : Pers} {ρ : Rho} {x y : ABlk} {l : Loc} {o : Obj} (hs : BSub x y) (h : BR Φ ρ y l o) : BR Φ ρ x l o := by
  cases x with
  | cells k els =>
    cases y with
    | cells k' els' =>
      obtain ⟨rfl, hl, hrow⟩ := hs
      cases h with
      | cells k els' l c e hk hn hll hr h1 =>
        have hget : ∀ (i : Nat) (row : List AVal), els[i]? = some row → ∃ row', els'[i]? = some row' ∧ row.length = row'.length ∧ ∀ (j : Nat) (x : AVal), row[j]? = some x → x = AVal.bot ∨ row'[j]? = some x := by
          intro i row hi
          have hi' : i < els'.length := by rw [← hl]; exact (List.getElem?_eq_some_iff.1 hi).1
          exact ⟨els'[i], List.getElem?_eq_getElem hi', hrow i row _ hi (List.getElem?_eq_getElem hi')⟩
        refine .cells k els l c e hk hn (by omega) ⟨fun i row hi => ?_, fun i row j x hi hj => ?_⟩ h1
        · obtain ⟨row', g1, g2, g3⟩ := hget i row hi
          rw [g2]; exact hr.1 i row' g1
        · obtain ⟨row', g1, g2, g3⟩ := hget i row hi
          have hj' : j < row'.length := by rw [← g2]; exact (List.getElem?_eq_some_iff.1 hj).1
          obtain ⟨v, k1, k2, k3⟩ := hr.2 i row' j _ g1 (List.getElem?_eq_getElem hj')
          refine ⟨v, k1, k2, ?_⟩
          rcases g3 j x hj with rfl | g
          · exact .bot v
          · rw [List.getElem?_eq_getElem hj'] at g
            injection g with g
            rw [← g]; exact k3
    | _ => cases hs
  | _ => cases y <;> first | (cases hs; done) | (cases hs; exact h)
theorem Rel.bsub {W : Base} {Φ : Pers} {ρ : Rho} {m m' : Mem} {w : World} (h : Rel W Φ ρ m w) (hn : m.next ≤ m'.next) (hg : ∀ b x, m'.get b = some x → m.get b = some x ∨ ∃ y, m.get b = some y ∧ BSub x y) : Rel W Φ ρ m' w := by
  have hex : ∀ b x, m'.get b = some x → ∃ y, m.get b = some y := fun b x hx => (hg b x hx).elim (fun g => ⟨_, g⟩) fun ⟨y, g, _⟩ => ⟨y, g⟩
  refine ⟨h.base, h.pers, fun b x hx => ?_, fun b b' x x' l l' h1 h2 => ?_, fun b l hb => Nat.lt_of_lt_of_le (h.fresh b l hb) hn, h.newp⟩
  · rcases hg b x hx with g | ⟨y, g, hs⟩
    · exact h.live b x g
    · obtain ⟨l, o, g1, g2, g3, g4, g5⟩ := h.live b y g
      exact ⟨l, o, g1, g2, g3, g4, g5.bsub hs⟩
  · obtain ⟨y, hy⟩ := hex b x h1
    obtain ⟨y', hy'⟩ := hex b' x' h2
    exact h.inj b b' y y' l l' hy hy'
def SubB : List (Nat × ABlk) → SMem → Prop
  | [], _ => True
  | (b, x) :: r, m => (m.get b = some x ∨ ∃ y, m.get b = some y ∧ BSub x y) ∧ SubB r m
def SubS (e0 : Env) (m0 : SMem) (e : Env) (m : SMem) : Prop := SubE e0 e ∧ SubB m0.bl m ∧ m.next ≤ m0.next
theorem SubE.get : ∀ {e0 e : Env}, SubE e0 e → ∀ i, e0.get i = .bot ∨ e0.get i = e.get i
  | [], _, _, i => .inl rfl
  | (j, v) :: r, e, h, i => by
    simp only [Env.get]
    by_cases hij : i = j
    · subst hij; rw [if_pos rfl]; exact .inr h.1.symm
    · rw [if_neg hij]; exact h.2.get i
theorem SubB.get : ∀ {l : List (Nat × ABlk)} {m : SMem}, SubB l m → ∀ b x, lookB l b = some x → m.get b = some x ∨ ∃ y, m.get b = some y ∧ BSub x y
  | [], _, _, b, x, h => by simp [lookB] at h
  | (c, y) :: r, m, hs, b, x, h => by
    simp only [lookB] at h
    split at h
    · rename_i hb; subst hb; injection h with h; subst h; exact hs.1
    · exact hs.2.get b x h
theorem SubS.weak {n : Nat} {e0 e : Env} {m0 m : SMem} (h : SubS e0 m0 e m) : ASt.Weak ⟨toE n e0, m0.mem⟩ ⟨toE n e, m.mem⟩ := by
  refine ⟨h.2.2, fun W Φ ρ vs w hr ht => ⟨Φ, .refl _ _, hr.bsub h.2.2 (fun b x hx => h.2.1.get b x hx), ht.sub (by rw [toE_length, toE_length]) (fun i x hx => ?_)⟩⟩
  have hi : i < n := by
    have := (List.getElem?_eq_some_iff.1 hx).1
    rw [toE_length] at this; exact this
  simp only at hx ⊢
  rw [toE_get hi] at hx ⊢
  injection hx with hx
  rcases h.1.get i with h1 | h1
  · exact .inl (hx.symm.trans h1)
  · exact .inr (by rw [← h1, hx])
def thenS (next : Env → SMem → Prop) (Q : Exit → Env → SMem → Prop) : Exit → Env → SMem → Prop
  | .normal, e, m => next e m
  | x, e, m => Q x e m
def blockS (id : Nat) (Q : Exit → Env → SMem → Prop) : Exit → Env → SMem → Prop
  | .exit id', e, m => if id' = id then Q .normal e m else Q (.exit id') e m
  | x, e, m => Q x e m
def wpS (P : Program) (n : Nat) : ACode → (Exit → Env → SMem → Prop) → Env → SMem → Prop
  | .skip, Q, e, m => Q .normal e m
  | .region false ops, Q, e, m => sops P n m.next ops 0 (Q .normal) e (m.at (m.next + ops.length))
  | .region true ops, Q, e, m => sdops P n m.next ops [] (Q .normal) e (m.at (m.next + ops.length))
  | .seq a b, Q, e, m => wpS P n a (thenS (wpS P n b Q) Q) e m
  | .cond c a b, Q, e, m => match evE n e c with
    | .bool true => wpS P n a Q e m
    | .bool false => wpS P n b Q e m
    | _ => False
  | .block id c, Q, e, m => wpS P n c (blockS id Q) e m
  | .loop c, Q, e, m => ∃ (I : Nat → Env → SMem → Prop), (∃ k e0 m0, SubS e0 m0 e m ∧ I k e0 m0) ∧ ∀ k e1 m1, I k e1 m1 → wpS P n c (thenS (fun e' m' => ∃ j e0 m0, j < k ∧ SubS e0 m0 e' m' ∧ I j e0 m0) Q) e1 m1
  | .exit id, Q, e, m => Q (.exit id) e m
  | .scope c, Q, e, m => wpS P n c Q e m
  | .label _, Q, e, m => Q .normal e m
  | .ret, Q, e, m => Q .ret e m
  | .bad, _, _, _ => False
def liftS (n : Nat) (Q : Exit → Env → SMem → Prop) : Exit → ASt → Prop
  | .goto _, _ => False
  | x, σ => ∃ e m, σ = ⟨toE n e, m.mem⟩ ∧ Q x e m
section
variable {P : Program} {n : Nat}
theorem sops_sound {base : Nat} {K : Env → SMem → Prop} : ∀ (ops : List AOper) (i : Nat) (e : Env) (m : SMem), sops P n base ops i K e m → wops P base ops i (fun σ => ∃ e m, σ = ⟨toE n e, m.mem⟩ ∧ K e m) (toE n e) m.mem
  | [], _, e, m, h => ⟨e, m, rfl, h⟩
  | o :: r, i, e, m, h => by
    simp only [sops] at h
    simp only [wops, wantedE_eq]
    cases hw : wantedE n e o.guard with
    | none => simp [hw] at h
    | some q =>
      cases q with
      | false =>
        simp only [hw] at h
        simp only [toE_put]
        exact sops_sound r (i + 1) _ m h
      | true =>
        simp only [hw] at h
        simp only
        have other : ∀ op, o.op = op → (match stepD (base + i) (evE n e) m.get op with | some (v, d) => sops P n base r (i + 1) K (putE e o.dst v) (m.app d) | none => False) →
            (match stepA (base + i) (toE n e) m.mem op with | some (v, m') => wops P base r (i + 1) (fun σ => ∃ e m, σ = ⟨toE n e, m.mem⟩ ∧ K e m) (put (toE n e) o.dst v) m' | none => False) := by
          intro op _ hh
          cases hs : stepD (base + i) (evE n e) m.get op with
          | none => simp [hs] at hh
          | some vd =>
            obtain ⟨v, d⟩ := vd
            simp only [hs] at hh
            have := stepD_ok (m := m.mem) (t := toE n e) (id := base + i) (op := op) (v := v) (d := d) (by rw [ev_toE]; exact hs)
            rw [this]
            simp only [toE_put]
            rw [← SMem.app_mem]
            exact sops_sound r (i + 1) _ _ hh
        cases hop : o.op with
        | call f xs =>
          simp only [hop] at h
          simp only [calleeE_eq]
          cases hc : calleeE n e f xs with
          | none => simp [hc] at h
          | some ga =>
            obtain ⟨g, args⟩ := ga
            simp only [hc] at h
            simp only
            refine h.mono fun v m'' hh => ?_
            obtain ⟨m', rfl, hk⟩ := hh
            simp only [toE_put]
            exact sops_sound r (i + 1) _ m' hk
        | _ => rw [hop] at h; exact other _ hop h
theorem callAt_pure {g : FuncId} {args : List AVal} {v : AVal} (h : PCall P g args v) (id : Nat) (x : List Nat) (hx : id ∉ x) (m : Mem) : CallAt P g args id x m v m [] := by
  refine ⟨m.less x, hx, fun c hc => by simp [Mem.less, hc], Nat.le_refl _, rfl, fun c => ?_, fun c _ _ hc => by simp [Mem.less, hc], h (m.less x) [id]⟩
  by_cases hc : c ∈ x
  · rw [if_pos hc]
  · rw [if_neg hc]; simp [Mem.less, hc]
theorem sdops_sound {base : Nat} {K : Env → SMem → Prop} : ∀ (ops : List AOper) (fs : List FT) (e : Env) (m : SMem), sdops P n base ops fs K e m → dops P base ops fs (fun σ => ∃ e m, σ = ⟨toE n e, m.mem⟩ ∧ K e m) (toE n e) m.mem
  | [], _, e, m, h => ⟨e, m, rfl, h⟩
  | o :: r, fs, e, m, h => by
    simp only [sdops] at h
    simp only [dops, wantedE_eq]
    cases hw : wantedE n e o.guard with
    | none => simp [hw] at h
    | some q =>
      cases q with
      | false =>
        simp only [hw] at h
        simp only [toE_put]
        exact sdops_sound r _ _ m h
      | true =>
        simp only [hw] at h
        simp only
        have other : ∀ op, o.op = op → (match stepD (base + fs.length) (evE n e) m.get op with | some (v, d) => indepL fs (.ops (footWD (base + fs.length) (evE n e) op) (footRD (evE n e) op)) o.un ∧ sdops P n base r (fs ++ [.ops (footWD (base + fs.length) (evE n e) op) (footRD (evE n e) op)]) K (putE e o.dst v) (m.app d) | none => False) →
            (match stepA (base + fs.length) (toE n e) m.mem op with | some (v, m') => indepL fs (.ops (footW (base + fs.length) (toE n e) op) (footR (toE n e) op)) o.un ∧ dops P base r (fs ++ [.ops (footW (base + fs.length) (toE n e) op) (footR (toE n e) op)]) (fun σ => ∃ e m, σ = ⟨toE n e, m.mem⟩ ∧ K e m) (put (toE n e) o.dst v) m' | none => False) := by
          intro op _ hh
          cases hs : stepD (base + fs.length) (evE n e) m.get op with
          | none => simp [hs] at hh
          | some vd =>
            obtain ⟨v, d⟩ := vd
            simp only [hs] at hh
            have := stepD_ok (m := m.mem) (t := toE n e) (id := base + fs.length) (op := op) (v := v) (d := d) (by rw [ev_toE]; exact hs)
            rw [this]
            simp only [toE_put, footWD_eq, footRD_eq, ev_toE]
            rw [← SMem.app_mem]
            exact ⟨hh.1, sdops_sound r _ _ _ hh.2⟩
        cases hop : o.op with
        | call f xs =>
          simp only [hop] at h
          simp only [calleeE_eq]
          cases hc : calleeE n e f xs with
          | none => simp [hc] at h
          | some ga =>
            obtain ⟨g, args⟩ := ga
            simp only [hc] at h
            obtain ⟨v, hp, hi, hk⟩ := h
            simp only
            refine ⟨[], xOf base fs.length r.length, v, m.mem, callAt_pure hp _ _ (own_xOf _ _ _) _, hi, ?_⟩
            simp only [toE_put]
            exact sdops_sound r _ _ m hk
        | _ => rw [hop] at h; exact other _ hop h
theorem wpc_mono {c : ACode} : ∀ {Q Q' : Exit → ASt → Prop} {σ : ASt}, wpc P c Q σ → (∀ x σ, Q x σ → Q' x σ) → wpc P c Q' σ := by
  induction c with
  | skip => exact fun h hq => hq _ _ h
  | region draw ops =>
    intro Q Q' σ h hq
    cases draw with
    | false =>
      simp only [wpc] at h ⊢
      have : ∀ (ops : List AOper) (base i : Nat) (t : List AVal) (m : Mem), wops P base ops i (Q .normal) t m → wops P base ops i (Q' .normal) t m := by
        intro ops
        induction ops with
        | nil => exact fun base i t m h => hq _ _ h
        | cons o r ih =>
          intro base i t m h
          rcases wops_cons h with ⟨h1, h2⟩ | ⟨h1, ⟨f, xs, g, args, h2, h3, h4⟩ | ⟨v, m', h2, h3⟩⟩
          · simp only [wops, h1]; exact ih _ _ _ _ h2
          · simp only [wops, h1, h2, h3]; exact h4.mono fun v m' hh => ih _ _ _ _ hh
          · simp only [wops, h1]
            cases hop : o.op <;> rw [hop] at h2 <;> first | (simp only [h2]; exact ih _ _ _ _ h3) | (simp [stepA] at h2)
      exact this _ _ _ _ _ h
    | true =>
      simp only [wpc] at h ⊢
      have : ∀ (ops : List AOper) (base : Nat) (fs : List FT) (t : List AVal) (m : Mem), dops P base ops fs (Q .normal) t m → dops P base ops fs (Q' .normal) t m := by
        intro ops
        induction ops with
        | nil => exact fun base i t m h => hq _ _ h
        | cons o r ih =>
          intro base fs t m h
          simp only [dops] at h ⊢
          split at h
          · exact ih _ _ _ _ h
          · split at h
            · split at h
              · obtain ⟨wl, x, v, m', h1, h2, h3⟩ := h
                exact ⟨wl, x, v, m', h1, h2, ih _ _ _ _ h3⟩
              · exact h
            · split at h
              · exact ⟨h.1, ih _ _ _ _ h.2⟩
              · exact h
          · exact h
      exact this _ _ _ _ _ h
  | seq a b iha ihb =>
    intro Q Q' σ h hq
    refine iha h fun x σ hx => ?_
    cases x <;> first | exact ihb hx hq | exact hq _ _ hx
  | cond c a b iha ihb =>
    intro Q Q' σ h hq
    simp only [wpc] at h ⊢
    split at h
    · exact iha h hq
    · exact ihb h hq
    · exact h
  | block id c ih =>
    intro Q Q' σ h hq
    refine ih h fun x σ hx => ?_
    cases x <;> simp only [blockA] at hx ⊢ <;> first | exact hq _ _ hx | skip
    split at hx
    · rename_i h1; rw [if_pos h1]; exact hq _ _ hx
    · rename_i h1; rw [if_neg h1]; exact hq _ _ hx
  | loop c ih =>
    intro Q Q' σ h hq
    obtain ⟨I, h1, h2⟩ := h
    refine ⟨I, h1, fun k σ1 hI => ih (h2 k σ1 hI) fun x σ hx => ?_⟩
    cases x <;> first | exact hx | exact hq _ _ hx
  | exit id => exact fun h hq => hq _ _ h
  | scope c ih =>
    intro Q Q' σ h hq
    refine ih h fun x σ hx => ?_
    cases x <;> first | exact hx | exact hq _ _ hx
  | label l => exact fun h hq => hq _ _ h
  | ret => exact fun h hq => hq _ _ h
  | bad => exact fun h _ => h
theorem wpS_sound {c : ACode} : ∀ {Q : Exit → Env → SMem → Prop} {e : Env} {m : SMem}, wpS P n c Q e m → wpc P c (liftS n Q) ⟨toE n e, m.mem⟩ := by
  induction c with
  | skip => exact fun h => ⟨_, _, rfl, h⟩
  | region draw ops =>
    intro Q e m h
    cases draw with
    | false => exact sops_sound ops 0 e _ h
    | true => exact sdops_sound ops [] e _ h
  | seq a b iha ihb =>
    intro Q e m h
    show wpc P a (thenA (wpc P b (liftS n Q)) (liftS n Q)) _
    refine wpc_mono (iha h) fun x σ hx => ?_
    cases x <;> simp only [liftS] at hx <;> first | exact hx.elim | skip
    all_goals
      obtain ⟨e1, m1, rfl, hx⟩ := hx
      first | exact ihb hx | exact ⟨e1, m1, rfl, hx⟩
  | cond c a b iha ihb =>
    intro Q e m h
    simp only [wpS] at h
    simp only [wpc, ev_toE]
    split at h
    · rename_i hc; rw [hc]; exact iha h
    · rename_i hc; rw [hc]; exact ihb h
    · exact h.elim
  | block id c ih =>
    intro Q e m h
    show wpc P c (blockA id (liftS n Q)) _
    refine wpc_mono (ih h) fun x σ hx => ?_
    cases x <;> simp only [liftS, blockS] at hx <;> first | exact hx.elim | skip
    case exit i =>
      obtain ⟨e1, m1, rfl, hx⟩ := hx
      simp only [blockA]
      split at hx
      · rename_i h1; rw [if_pos h1]; exact ⟨e1, m1, rfl, hx⟩
      · rename_i h1; rw [if_neg h1]; exact ⟨e1, m1, rfl, hx⟩
    all_goals exact hx
  | loop c ih =>
    intro Q e m h
    obtain ⟨I, ⟨k, e0, m0, h1, h2⟩, h3⟩ := h
    refine ⟨fun k σ => ∃ e m, σ = ⟨toE n e, m.mem⟩ ∧ I k e m, ⟨k, _, h1.weak, e0, m0, rfl, h2⟩, ?_⟩
    rintro k σ1 ⟨e1, m1, rfl, hI⟩
    refine wpc_mono (ih (h3 k e1 m1 hI)) fun x σ hx => ?_
    cases x <;> simp only [liftS] at hx <;> first | exact hx.elim | skip
    all_goals obtain ⟨e2, m2, rfl, hx⟩ := hx
    · obtain ⟨j, e0, m0, hj, hs, hI'⟩ := hx
      exact ⟨j, _, hj, hs.weak, e0, m0, rfl, hI'⟩
    all_goals exact ⟨e2, m2, rfl, hx⟩
  | exit id => exact fun h => ⟨_, _, rfl, h⟩
  | scope c ih =>
    intro Q e m h
    show wpc P c (noGotoA (liftS n Q)) _
    refine wpc_mono (ih h) fun x σ hx => ?_
    cases x <;> first | exact hx.elim | exact hx
  | label l => exact fun h => ⟨_, _, rfl, h⟩
  | ret => exact fun h => ⟨_, _, rfl, h⟩
  | bad => exact fun h => h
def argE (k : Nat) : List AVal → Env → Env
  | [], e => e
  | x :: r, e => (k, x) :: argE (k + 1) r e
theorem argE_get : ∀ (args : List AVal) (k i : Nat) (e : Env), (argE k args e).get i = if k ≤ i ∧ i < k + args.length then args.getD (i - k) .bot else e.get i
  | [], k, i, e => by
    have : ¬ (k ≤ i ∧ i < k + ([] : List AVal).length) := by simp
    rw [if_neg this]; rfl
  | x :: r, k, i, e => by
    simp only [argE, Env.get]
    by_cases h : i = k
    · subst h
      rw [if_pos rfl, if_pos (by simp), Nat.sub_self]
      rfl
    · rw [if_neg h, argE_get r (k + 1) i e]
      by_cases h2 : k + 1 ≤ i ∧ i < k + 1 + r.length
      · rw [if_pos h2, if_pos (by simp; omega)]
        have : i - k = (i - (k + 1)) + 1 := by omega
        rw [this]
        rfl
      · rw [if_neg h2, if_neg (by simp; omega)]
def retS (n : Nat) (rs : List (Nat × Option (Option Nat))) (K : AVal → SMem → Prop) : Exit → Env → SMem → Prop
  | .normal, e, m => match rs with
    | [(i, none)] => K (evE n e (.tmp i)) m
    | [(i, none), (j, none)] => K (.tuple [evE n e (.tmp i), evE n e (.tmp j)]) m
    | [] => K (.tuple []) m
    | _ => False
  | .ret, e, m => match rs with
    | [(i, none)] => K (evE n e (.tmp i)) m
    | [(i, none), (j, none)] => K (.tuple [evE n e (.tmp i), evE n e (.tmp j)]) m
    | [] => K (.tuple []) m
    | _ => False
  | _, _, _ => False
theorem acalls_ofW (hm : P.follows .mixedOrders = true) {f : FuncId} {fn : Func} {af : AFn} {args : List AVal} {m : Mem} {av : List Nat} {K : AVal → Mem → Prop} (hf : P.funcs[f]? = some fn) (hc : cFn P fn = some af) {σ0 : ASt}
    (hw : ASt.Weak σ0 ⟨args ++ List.replicate (af.ntmps - args.length) aundef, m⟩) (h : wpc P af.body (retK af.results K) σ0) : ACalls P f args m av K := by
  obtain ⟨c, hb, hbody, hrs, hnt, hname⟩ := cFn_spec hc
  rw [hbody] at h
  refine ⟨⟨fn, hf, hname, by rw [hb]; rfl⟩, fun W Φ ρ vs w hr ha hav => ?_⟩
  have ht0 := args_RL (k := fn.ntmps) ha
  rw [hnt] at hw
  obtain ⟨Φ0, hE0, hr0, ht1⟩ := hw.rel W Φ ρ _ w hr ht0
  have hs := sound hm c _ _ h W Φ0 ρ { tmps := vs ++ Array.replicate (fn.ntmps - vs.size) undef, defers := [] } w hr0 ht1 rfl
  refine calls_of_wp hf hb (wp_mono hs fun e a w' hl => ?_)
  obtain ⟨σ, Φ', ρ', h1, h2, h3, h4, h5, h6, h7⟩ := hl
  have hn0 : m.next ≤ σ0.m.next := hw.next
  have fin : (match retA σ.t σ.m af.results with | some r => K r σ.m | none => False) → a.defers = [] ∧ ∃ v, (results fn a.tmps).run P w' = .ok v w' ∧
      ∃ v' r m' Φ' ρ', Ending.returned v = .returned v' ∧ Ext Φ ρ Φ' ρ' ∧ (∀ b, b < m.next → b ∉ av → ρ b = none → ρ' b = none) ∧ Rel W Φ' ρ' m' w' ∧ R Φ' ρ' r v' ∧ m.next ≤ m'.next ∧ K r m' := by
    intro hh
    cases hz : retA σ.t σ.m af.results with
    | none => simp [hz] at hh
    | some r =>
      simp only [hz] at hh
      obtain ⟨u, g1, g2⟩ := retA_run h4 h5 hrs hz
      exact ⟨h6, u, g1, u, r, σ.m, Φ', ρ', rfl, hE0.trans h1, fun b hb _ h0 => h2 b (Nat.lt_of_lt_of_le hb hn0) h0, h4, g2, Nat.le_trans hn0 h3, hh⟩
  cases e with
  | normal => exact fin h7
  | ret => exact fin h7
  | exit i => exact h7.elim
  | goto l => exact h7.elim
  | panic ch => exact h7.elim
  | outgrown => exact h7.elim
theorem acalls_S (hm : P.follows .mixedOrders = true) {f : FuncId} {fn : Func} {af : AFn} {args : List AVal} {m : SMem} {av : List Nat} {K : AVal → Mem → Prop} (hf : P.funcs[f]? = some fn) (hc : cFn P fn = some af) (hl : args.length ≤ af.ntmps)
    (h : wpS P af.ntmps af.body (retS af.ntmps af.results fun v m' => K v m'.mem) (argE 0 args []) m) : ACalls P f args m.mem av K := by
  have hw : ASt.Weak ⟨toE af.ntmps (argE 0 args []), m.mem⟩ ⟨args ++ List.replicate (af.ntmps - args.length) aundef, m.mem⟩ := by
    refine ASt.Weak.of_sub (by simp [toE_length]; omega) (fun i x hx => ?_) (Mem.Sub.refl _)
    have hi : i < af.ntmps := by
      have := (List.getElem?_eq_some_iff.1 hx).1
      rw [toE_length] at this; exact this
    simp only at hx ⊢
    rw [toE_get hi, argE_get] at hx
    injection hx with hx
    by_cases h2 : 0 ≤ i ∧ i < 0 + args.length
    · rw [if_pos h2] at hx
      rw [List.getElem?_append, if_pos (by omega)]
      refine .inr ?_
      rw [← hx, Nat.sub_zero, List.getD, List.getElem?_eq_getElem (by omega)]
      rfl
    · rw [if_neg h2] at hx
      exact .inl hx.symm
  have h1 : wpc P af.body (retK af.results K) ⟨toE af.ntmps (argE 0 args []), m.mem⟩ := by
    refine wpc_mono (wpS_sound h) fun x σ hx => ?_
    have fin : ∀ e m', (match af.results with
        | [(i, none)] => K (evE af.ntmps e (.tmp i)) m'.mem
        | [(i, none), (j, none)] => K (.tuple [evE af.ntmps e (.tmp i), evE af.ntmps e (.tmp j)]) m'.mem
        | [] => K (.tuple []) m'.mem
        | _ => False) → (match retA (toE af.ntmps e) (SMem.mem m') af.results with | some r => K r m'.mem | none => False) := by
      intro e m' hh
      have hev : ∀ i, (toE af.ntmps e).getD i aundef = evE af.ntmps e (.tmp i) := fun i => congrFun (ev_toE af.ntmps e) (.tmp i)
      split at hh
      · rename_i i hr
        rw [hr]
        simp only [retA, resOne, hev]
        exact hh
      · rename_i i j hr
        rw [hr]
        simp only [retA, resAll, resOne, hev]
        exact hh
      · rename_i hr
        rw [hr]
        exact hh
      · exact hh.elim
    cases x <;> simp only [liftS, retS] at hx <;> first | exact hx.elim | skip
    · obtain ⟨e1, m1, rfl, hx⟩ := hx; exact fin e1 m1 hx
    · obtain ⟨_, _, _, hx⟩ := hx; exact hx.elim
    · obtain ⟨e1, m1, rfl, hx⟩ := hx; exact fin e1 m1 hx
    · obtain ⟨_, _, _, hx⟩ := hx; exact hx.elim
    · obtain ⟨_, _, _, hx⟩ := hx; exact hx.elim
  exact acalls_ofW hm hf hc hw h1
end
end Go.AE
