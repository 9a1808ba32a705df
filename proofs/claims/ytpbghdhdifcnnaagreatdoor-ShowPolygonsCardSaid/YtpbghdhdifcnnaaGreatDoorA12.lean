/- Part 12 of the proof: AeSb. -/
import Derived.Test.YtpbghdhdifcnnaaGreatDoorA11
set_option linter.all false
namespace Go.AE
open Go.RowKit
variable {P : Program}
theorem scalar_freeze (get : Nat → Option ABlk) : ∀ (n : Nat) (v : AVal), (match v with | .int _ _ | .bool _ | .str _ => True | _ => False) → freezeV get (n + 1) v = some v := by
  intro n v h
  cases v <;> first | exact h.elim | rfl
theorem PCall_scalar {g : FuncId} {args : List AVal} {v : AVal} (hca : closedL args = true) (hv : match v with | .int _ _ | .bool _ | .str _ => True | _ => False)
    (h : ACalls P g args (SMem.mem ⟨[], 1⟩) [0] fun r _ => r = v) : PCall P g args v := by
  intro m av
  refine pure_frozen hca (by cases v <;> first | exact hv.elim | rfl) (fun c => rfl) (Nat.lt_succ_self 0) h (fun r m' hr => ⟨1, ?_⟩) m av
  subst hr
  exact scalar_freeze _ 0 _ hv
theorem PCall_frozen {g : FuncId} {args : List AVal} {v : AVal} (hca : closedL args = true) (hcv : v.closed = true) {n : Nat}
    (h : ACalls P g args (SMem.mem ⟨[], 1⟩) [0] fun r m' => freezeV m'.get n r = some v) : PCall P g args v := by
  intro m av
  exact pure_frozen hca hcv (fun c => rfl) (Nat.lt_succ_self 0) h (fun r m' hr => ⟨n, hr⟩) m av
section
variable {n : Nat} {Q : Exit → Env → SMem → Prop} {e : Env} {m : SMem}
theorem wS_skip : wpS P n .skip Q e m = Q .normal e m := propext Iff.rfl
theorem wS_region (ops : List AOper) : wpS P n (.region false ops) Q e m = sops P n m.next ops 0 (Q .normal) e (m.at (m.next + ops.length)) := propext Iff.rfl
theorem wS_dregion (ops : List AOper) : wpS P n (.region true ops) Q e m = sdops P n m.next ops [] (Q .normal) e (m.at (m.next + ops.length)) := propext Iff.rfl
theorem wS_seq (a b : ACode) : wpS P n (.seq a b) Q e m = wpS P n a (thenS (wpS P n b Q) Q) e m := propext Iff.rfl
theorem wS_cond (c : AOpd) (a b : ACode) : wpS P n (.cond c a b) Q e m = match evE n e c with
    | .bool true => wpS P n a Q e m
    | .bool false => wpS P n b Q e m
    | _ => False := propext Iff.rfl
theorem wS_block (i : Nat) (c : ACode) : wpS P n (.block i c) Q e m = wpS P n c (blockS i Q) e m := propext Iff.rfl
theorem wS_exit (i : Nat) : wpS P n (.exit i) Q e m = Q (.exit i) e m := propext Iff.rfl
theorem wS_ret : wpS P n .ret Q e m = Q .ret e m := propext Iff.rfl
theorem thenS_normal (N : Env → SMem → Prop) : thenS N Q .normal e m = N e m := propext Iff.rfl
theorem thenS_ret (N : Env → SMem → Prop) : thenS N Q .ret e m = Q .ret e m := propext Iff.rfl
theorem thenS_exit (N : Env → SMem → Prop) (i : Nat) : thenS N Q (.exit i) e m = Q (.exit i) e m := propext Iff.rfl
theorem blockS_normal (i : Nat) : blockS i Q .normal e m = Q .normal e m := propext Iff.rfl
theorem blockS_ret (i : Nat) : blockS i Q .ret e m = Q .ret e m := propext Iff.rfl
theorem blockS_exit (i j : Nat) : blockS i Q (.exit j) e m = if j = i then Q .normal e m else Q (.exit j) e m := propext Iff.rfl
theorem sops_nil {base i : Nat} {K : Env → SMem → Prop} : sops P n base [] i K e m = K e m := propext Iff.rfl
theorem sops_cons {base i : Nat} {K : Env → SMem → Prop} (o : AOper) (r : List AOper) : sops P n base (o :: r) i K e m =
    match wantedE n e o.guard with
    | some false => sops P n base r (i + 1) K (putE e o.dst aundef) m
    | some true =>
      match o.op with
      | .call f xs => match calleeE n e f xs with
        | some (g, args) => SC P g args m (base + i) fun v m' => sops P n base r (i + 1) K (putE e o.dst v) m'
        | none => False
      | op => match stepD (base + i) (evE n e) m.get op with
        | some (v, d) => sops P n base r (i + 1) K (putE e o.dst v) (m.app d)
        | none => False
    | none => False := propext Iff.rfl
theorem sdops_nil {base : Nat} {fs : List FT} {K : Env → SMem → Prop} : sdops P n base [] fs K e m = K e m := propext Iff.rfl
theorem sdops_cons {base : Nat} {fs : List FT} {K : Env → SMem → Prop} (o : AOper) (r : List AOper) : sdops P n base (o :: r) fs K e m =
    match wantedE n e o.guard with
    | some false => sdops P n base r (fs ++ [.ops [] []]) K (putE e o.dst aundef) m
    | some true =>
      match o.op with
      | .call f xs => match calleeE n e f xs with
        | some (g, args) => ∃ v, PCall P g args v ∧ indepL fs (.call [] (xOf base fs.length r.length) m.next) o.un ∧ sdops P n base r (fs ++ [.call [] (xOf base fs.length r.length) m.next]) K (putE e o.dst v) m
        | none => False
      | op => match stepD (base + fs.length) (evE n e) m.get op with
        | some (v, d) => indepL fs (.ops (footWD (base + fs.length) (evE n e) op) (footRD (evE n e) op)) o.un ∧ sdops P n base r (fs ++ [.ops (footWD (base + fs.length) (evE n e) op) (footRD (evE n e) op)]) K (putE e o.dst v) (m.app d)
        | none => False
    | none => False := propext Iff.rfl
def Next {α : Type} (E : α → Env) (M : α → SMem) (μ : α → Nat) (Inv : α → Prop) (a : α) (e' : Env) (m' : SMem) : Prop := ∃ a', μ a' < μ a ∧ Inv a' ∧ SubS (E a') (M a') e' m'
theorem wS_loopN {α : Type} {c : ACode} (E : α → Env) (M : α → SMem) (μ : α → Nat) (Inv : α → Prop) (a0 : α) (hs : SubS (E a0) (M a0) e m) (h0 : Inv a0)
    (h : ∀ a, Inv a → wpS P n c (thenS (Next E M μ Inv a) Q) (E a) (M a)) : wpS P n (.loop c) Q e m := by
  refine ⟨fun k e m => ∃ a, k = μ a ∧ Inv a ∧ e = E a ∧ m = M a, ⟨μ a0, _, _, hs, a0, rfl, h0, rfl, rfl⟩, ?_⟩
  rintro k e1 m1 ⟨a, rfl, ha, rfl, rfl⟩
  have key : (thenS (Next E M μ Inv a) Q) = (thenS (fun e' m' => ∃ j e0 m0, j < μ a ∧ SubS e0 m0 e' m' ∧ (∃ a, j = μ a ∧ Inv a ∧ e0 = E a ∧ m0 = M a)) Q) := by
    funext x e' m'
    cases x <;> try rfl
    simp only [thenS]
    apply propext
    constructor
    · rintro ⟨a', h1, h2, h3⟩
      exact ⟨μ a', _, _, h1, h3, a', rfl, h2, rfl, rfl⟩
    · rintro ⟨j, e0, m0, h1, h3, a', rfl, h2, rfl, rfl⟩
      exact ⟨a', h1, h2, h3⟩
  rw [← key]
  exact h a ha
end
@[congr] theorem SC_congr {g : FuncId} {args args' : List AVal} {m : SMem} {id : Nat} {K : AVal → SMem → Prop} (h : args = args') : SC P g args m id K = SC P g args' m id K := by rw [h]
@[congr] theorem Next_congr {α : Type} {E : α → Env} {M : α → SMem} {μ : α → Nat} {Inv : α → Prop} {a : α} {e e' : Env} {m m' : SMem} (h : e = e') (h' : m = m') : Next E M μ Inv a e m = Next E M μ Inv a e' m' := by rw [h, h']
@[congr] theorem thenS_congr {N : Env → SMem → Prop} {Q : Exit → Env → SMem → Prop} {x x' : Exit} {e e' : Env} {m m' : SMem} (hx : x = x') (h : e = e') (h' : m = m') : thenS N Q x e m = thenS N Q x' e' m' := by rw [hx, h, h']
@[congr] theorem blockS_congr {i : Nat} {Q : Exit → Env → SMem → Prop} {x x' : Exit} {e e' : Env} {m m' : SMem} (hx : x = x') (h : e = e') (h' : m = m') : blockS i Q x e m = blockS i Q x' e' m' := by rw [hx, h, h']
@[congr] theorem wpS_congr {n : Nat} {c : ACode} {Q : Exit → Env → SMem → Prop} {e e' : Env} {m m' : SMem} (h : e = e') (h' : m = m') : wpS P n c Q e m = wpS P n c Q e' m' := by rw [h, h']
@[congr] theorem sops_congr {n base base' i i' : Nat} {ops : List AOper} {K : Env → SMem → Prop} {e e' : Env} {m m' : SMem} (hb : base = base') (hi : i = i') (h : e = e') (h' : m = m') : sops P n base ops i K e m = sops P n base' ops i' K e' m' := by rw [hb, hi, h, h']
@[congr] theorem sdops_congr {n base base' : Nat} {fs fs' : List FT} {ops : List AOper} {K : Env → SMem → Prop} {e e' : Env} {m m' : SMem} (hb : base = base') (hi : fs = fs') (h : e = e') (h' : m = m') : sdops P n base ops fs K e m = sdops P n base' ops fs' K e' m' := by rw [hb, hi, h, h']
end Go.AE
