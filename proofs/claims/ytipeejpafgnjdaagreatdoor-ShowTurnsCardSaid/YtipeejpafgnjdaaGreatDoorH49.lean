/- Part 49 of the proof: Yl, AeYe, Wr. -/
import Derived.Test.YtipeejpafgnjdaaGreatDoorH23
import Derived.Test.YtipeejpafgnjdaaGreatDoorH31
import Derived.Test.YtipeejpafgnjdaaGreatDoorH40
import Derived.Test.YtipeejpafgnjdaaGreatDoorH43
import Derived.Test.YtipeejpafgnjdaaGreatDoorH44
import Derived.Test.YtipeejpafgnjdaaGreatDoorH45
import Derived.Test.YtipeejpafgnjdaaGreatDoorH48
set_option linter.all false
section
namespace Go.Known
open Go Go.AE Go.Proofs
open Go.Plain
theorem Z9e(f:Int)(ls:List Lt)(hv:ValR f ls)(h0:ls≠[]) :
 Ctr Tryz.prog 97 [cV f ls] ⟨[],1⟩ fun r m=>r=.ptr 1 0 0∧m=⟨[(1,wvB ls (T8 ls ls.length) (.sl 2 0 (T2 ls).length)),(2,.cells 1 (Z0 (T2 ls)))],4⟩:=by
 refine(Z1g f ls hv h0).freezeB fun r sm=>?_
 rintro⟨rfl,rfl⟩;refine⟨[3],rfl,?_⟩;have e1:fzV (SMem.get ⟨[(1,.cells 3 [[.imm (ls.map rowL),.sl 3 0 ls.length,.sl 2 0 (T2 ls).length]]),(2,.cells 1 (Z0 (T2 ls))),(3,.cells 1 (Z0 (T8 ls ls.length)))],4⟩) [3] (.sl 3 0 ls.length)=.imm (Z0 (T8 ls ls.length)):=
  Zjj (k:=1) rfl rfl (by rw[M0,Zif]) (Zlr _)
 have e2:∀ get:Nat→Option ABlk,fzV get [3] (.sl 2 0 (T2 ls).length)=.sl 2 0 (T2 ls).length:=fun get=>rfl
 have e3:∀ get:Nat→Option ABlk,fzV get [3] (.imm (ls.map rowL))=.imm (ls.map rowL):=fun get=>Zr8 (by simp[AVal.closed,Z9])
 have e4:∀ get:Nat→Option ABlk,D3 get [3] (Z0 (T2 ls))=Z0 (T2 ls):=fun get=>Zo4 (G0 _)
 have e5:∀ x y z:ABlk,S8 [3] [(1,x),(2,y),(3,z)]=[(1,x),(2,y)]:=fun x y z=>by simp[S8,V3]
 simp only[e5,fzBl,fzBk,e4];simp only[D3,List.map_cons,List.map_nil,e1,e2,e3]
theorem Z90(b:Nat)(hb:b=1):Ctr Tryz.prog 98 [.ptr b 0 0] ⟨[],2⟩ fun r m=>r=.func (.func 150) [] [.ptr 2 0 0]∧m=⟨[(2,.cells 1 [[.ptr b 0 0]])],3⟩:=by
 subst hb;refine A3 hm Tryz.func98 cf58 rfl rfl fun K hK=>?_
 simp;exact Y1 hK [] (by simp)
end Go.Known
end
section
namespace Go.AE
open Go.RowKit
section
variable {P:Program} {n:Nat}
theorem Zx7{c:ACode}:∀ {Q Q':Exit→Env→SMem→Prop} {e:Env} {m:SMem},wpR P n c Q e m→(∀ x e m,Q x e m→Q' x e m)→wpS P n c Q' e m:=by
 induction c with
 | skip=>exact fun h hq=>hq _ _ _ h
 | region draw ops=>
  intro Q Q' e m h hq;cases draw with
  | false=>exact Zii (hq .normal) ops 0 e _ (Zik ops 0 e _ h)
  | true=>exact h.elim
 | seq x y ihx ihy=>
  intro Q Q' e m h hq;refine ihx h fun x e m hx=>?_
  cases x<;>first|exact ihy hx hq|exact hq _ _ _ hx
 | cond c x y ihx ihy=>
  intro Q Q' e m h hq;simp only[wpR]at h;simp only[wpS];generalize evE n e c=v at h;cases v<;>first|exact h.elim|skip
  rename_i q;cases q
  ·exact ihy h hq
  ·exact ihx h hq
 | block id c ih=>
  intro Q Q' e m h hq;refine ih h fun x e m hx=>?_
  cases x<;>simp only[K8]at hx ⊢ <;> first|exact hq _ _ _ hx|skip
  split at hx
  ·rename_i h1; rw[if_pos h1]; exact hq _ _ _ hx
  ·rename_i h1; rw[if_neg h1]; exact hq _ _ _ hx
 | ret=>exact fun h hq=>hq _ _ _ h
 | _=>intro Q Q' e m h; exact h.elim
def preK(A:Env→SMem→Prop)(Q:Exit→Env→SMem→Prop):Exit→Env→SMem→Prop
 | .normal,e,m=>A e m
 | .ret,e,m=>Q .ret e m
 | _,_,_=>False
theorem Zn5{A:Env→SMem→Prop}{Q:Exit→Env→SMem→Prop}{e:Env}{m:SMem}:preK A Q .normal e m=A e m:=rfl
theorem Zok{A:Env→SMem→Prop}{Q:Exit→Env→SMem→Prop}{e:Env}{m:SMem}:preK A Q .ret e m=Q .ret e m:=rfl
def Zhq(P:Program)(n:Nat):List ACode→(Exit→Env→SMem→Prop)→(Env→SMem→Prop)→Env→SMem→Prop
 | [],_,N,e,m=>N e m
 | a :: r,Q,N,e,m=>wpR P n a (preK (Zhq P n r Q N) Q) e m
theorem Zwt{Q:Exit→Env→SMem→Prop}{N N':Env→SMem→Prop}(hN:∀ e m,N e m→N' e m):∀ (l:List ACode) (e:Env) (m:SMem),Zhq P n l Q N e m→Zji P n l Q N' e m
 | [],e,m,h=>hN e m h
 | a :: r,e,m,h=>Zx7 h fun x e m hx=>by
  cases x<;>first|exact hx.elim|exact Zwt hN r e m hx|exact hx
def rngK(P:Program)(nt:Nat)(g:AOpd)(ps:List Nat)(asn bd y:ACode)(Q:Exit→Env→SMem→Prop)(e:Env)(m:SMem):Prop:=
 ∃ gf cap,evE nt e g=.func (.func gf) [] cap∧CtrY P ⟨m.next,nt,ps,e,asn,bd,[]⟩ gf (.yld m.next :: cap) (m.at (m.next+1)) fun _ m2=>wpR P nt y Q e m2
theorem Zsu(hm:P.follows .mixedOrders=true){f:FuncId}{fn:Func}{p:AParts}{args:List AVal}{m:SMem}{Post:AVal→SMem→Prop}(hf:P.funcs[f]? = some fn)(hp:Zgd P fn=some p)
 {nt:Nat} {rs:List (Nat×Option (Option Nat))} {pre:List ACode} {x:ACode} {g:AOpd} {ps:List Nat} {asn bd y:ACode} (hd:p=⟨nt,rs,pre,x,g,ps,asn,bd,y⟩) (hl:Nat.ble args.length nt=true)
 (h:∀ K:AVal→SMem→Prop,(∀ r sm,Post r sm→K r sm)→Zhq P nt pre (N9 nt rs (S4 m.next K)) (wpR P nt x (preK (rngK P nt g ps asn bd y (N9 nt rs (S4 m.next K))) (N9 nt rs (S4 m.next K)))) (W9 0 args []) m):Ctr P f args m Post:=by
 refine Ycf hm hf hp hd hl fun K hK=>Zwt (fun e m hx=>Zx7 hx fun z e m hz=>?_) _ _ _ (h K hK)
 cases z<;>first|exact hz.elim|exact hz
variable {Q:Exit→Env→SMem→Prop} {e:Env} {m:SMem}
theorem Zop:wpR P n .skip Q e m=Q .normal e m:=propext Iff.rfl
theorem Zod(ops:List AOper):wpR P n (.region false ops) Q e m=V6 P false n m.next ops 0 (Q .normal) e (m.at (m.next+ops.length)):=propext Iff.rfl
theorem Zor(x y:ACode):wpR P n (.seq x y) Q e m=wpR P n x (P2 (wpR P n y Q) Q) e m:=propext Iff.rfl
theorem Zoi(c:AOpd)(x y:ACode):wpR P n (.cond c x y) Q e m=match evE n e c with
 | .bool true=>wpR P n x Q e m
 | .bool false=>wpR P n y Q e m
 | _=>False:=by
 simp only[wpR];unfold Zas;rfl
theorem Zrv(i:Nat)(c:ACode):wpR P n (.block i c) Q e m=wpR P n c (K8 i Q) e m:=propext Iff.rfl
theorem Zqt:wpR P n .ret Q e m=Q .ret e m:=propext Iff.rfl
theorem Z2o{y:Yd}{n0:Nat}(c:AOpd)(a b:ACode):wpH P y n n0 (.cond c a b) Q e m=match evE n e c with
 | .bool true=>wpH P y n n0 a Q e m
 | .bool false=>wpH P y n n0 b Q e m
 | _=>False:=by
 rw[Z8k];unfold Zas;rfl
theorem preN{A:Env→SMem→Prop}:Zhq P n [] Q A e m=A e m:=propext Iff.rfl
theorem preC{A:Env→SMem→Prop}(a:ACode)(r:List ACode):Zhq P n (a :: r) Q A e m=wpR P n a (preK (Zhq P n r Q A) Q) e m:=propext Iff.rfl
@[congr] theorem Yfy{c : ACode}{e e' : Env}{m m' : SMem}(h : e = e')(h' : m = m') : wpR P n c Q e m = wpR P n c Q e' m' := by rw [h, h']
@[congr] theorem Ygx{A : Env → SMem → Prop}{x x' : Exit}{e e' : Env}{m m' : SMem}(hx : x = x')(h : e = e')(h' : m = m') : preK A Q x e m = preK A Q x' e' m' := by rw [hx, h, h']
@[congr] theorem Ygo{g : AOpd}{ps : List Nat}{a b y : ACode}{e e' : Env}{m m' : SMem}(h : e = e')(h' : m = m') : rngK P n g ps a b y Q e m = rngK P n g ps a b y Q e' m' := by rw [h, h']
end
end Go.AE
end
section
namespace Go.Known
open Go Go.AE Go.Proofs
open Go.Plain
set_option maxHeartbeats 4000000 in
theorem c35w(l:List Nat)(hl:l.length≤10000):PCall Tryz.prog 34 [imV (Z0 l),imV (Z0 l)] (.bool true):=by
 by_cases h0:l=[]
 ·subst h0;show PCall Tryz.prog 34 [.nilSl,.nilSl] (.bool true);refine Zbb hm Tryz.func34 cf35 rfl rfl rfl trivial fun K hK=>?_
  simp;refine T1 (α:=Unit) (fun _=>[(5,.int .i64 0),(0,.nilSl)]) (fun _=>⟨[],1⟩) (fun _=>0) (fun _=>True) () [] (by simp) trivial ?_
  intro _ _ N hN;simp;exact Y1 hK [] (by simp)
 ·have:=c35e l hl;rw[Zex (rows:=Z0 l) (by simpa[Z0]using h0)]at this ⊢
  exact this
end Go.Known
end
