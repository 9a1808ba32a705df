/- Part 26 -/
import Derived.Test.YtilmpmlkndfbjaaGreatDoorT25
set_option linter.all false
namespace Go.AE
open Go.RowKit
section
variable {P:Program} {n:Nat}
theorem uf{c:An}:∀{Q Q':Exit->Env->Ac->Prop}{e:Env}{m:Ac},Ew P n c Q e m->(∀x e m,Q x e m->Q' x e m)->wpS P n c Q' e m:=by
 induction c with
 |skip=>exact λh a=>a _ _ _ h
 |region g i=>
  intro Q Q' e m h a;cases g with
  |false=>exact VK (a .normal) i 0 e _ (WV i 0 e _ h)
  |true=>exact h.elim
 |seq x y d f=>
  intro Q Q' e m h a;refine d h λx e m b=>?_;cases x<;>first|exact f b a|exact a _ _ _ b
 |cond c x y d f=>
  intro Q Q' e m h a;simp only[Ew]at h;simp only[wpS];generalize AG n e c=v at h;cases v<;>first|exact h.elim|skip
  rename_i q;cases q
  ·exact f h a
  exact d h a
 |block id c k=>
  intro Q Q' e m h a;refine k h λx e m b=>?_;cases x<;>simp only[I2]at b ⊢ <;> first|exact a _ _ _ b|skip
  split at b
  ·rename_i j;rw[iP j];exact a _ _ _ b
  rename_i j;rw[iN j];exact a _ _ _ b
 |ret=>exact λh a=>a _ _ _ h
 |_=>intro Q Q' e m h;exact h.elim
def II(A:Env→Ac→Prop)(Q:Exit→Env→Ac→Prop):Exit→Env→Ac→Prop
 | .normal,e,m=>A e m
 | .ret,e,m=>Q .ret e m
 | _,_,_=>False
theorem kS{A:Env->Ac->Prop}{Q:Exit->Env->Ac->Prop}{e:Env}{m:Ac}:II A Q .normal e m=A e m:=rfl
theorem jF{A:Env->Ac->Prop}{Q:Exit->Env->Ac->Prop}{e:Env}{m:Ac}:II A Q .ret e m=Q .ret e m:=rfl
def Vb(P:Program)(n:Nat):List An→(Exit→Env→Ac→Prop)→(Env→Ac→Prop)→Env→Ac→Prop
 | [],_,N,e,m=>N e m
 | a :: r,Q,N,e,m=>Ew P n a (II (Vb P n r Q N) Q) e m
theorem Zyr{Q:Exit->Env->Ac->Prop}{N c:Env->Ac->Prop}(d:∀e m,N e m->c e m):∀(l:List An) (e:Env) (m:Ac),Vb P n l Q N e m->XG P n l Q c e m
 |[],e,m,h=>d e m h
 |a::r,e,m,h=>uf h λx e m b=>by
  cases x<;>first|exact b.elim|exact Zyr d r e m b|exact b
def Uc(P:Program)(nt:Nat)(g:Ah)(ps:List Nat)(Ed bd y:An)(Q:Exit→Env→Ac→Prop)(e:Env)(m:Ac):Prop:=
 ∃ gf cap,AG nt e g=.func (.func gf) [] cap∧Jv P ⟨m.next,nt,ps,e,Ed,bd,[]⟩ gf (.Dt m.next :: cap) (m.at (m.next+1)) fun _ m2=>Ew P nt y Q e m2
theorem Zx0(hm:P.follows .mixedOrders=true){f:FuncId}{fn:Func}{p:Ct}{args:List Aa}{m:Ac}{a:Aa->Ac->Prop}(l:P.funcs[f]?=some fn)(o:RZ P fn=some p)
 {b:Nat}{c:List (Nat×Option (Option Nat))}{pre:List An}{x:An}{g:Ah}{ps:List Nat}{Ed bd y:An}(k:p=⟨b,c,pre,x,g,ps,Ed,bd,y⟩) (n:Nat.ble args.length b=true)
 (h:∀K:Aa->Ac->Prop,(∀r i,a r i->K r i)->Vb P b pre (L3 b c (R9 m.next K)) (Ew P b x (II (Uc P b g ps Ed bd y (L3 b c (R9 m.next K))) (L3 b c (R9 m.next K)))) (R4 0 args []) m):Bo P f args m a:=by
 refine Z86 hm l o k n λK j=>Zyr (λe m q=>uf q λz e m d=>?_) _ _ _ (h K j);cases z<;>first|exact d.elim|exact d
variable {Q:Exit→Env→Ac→Prop} {e:Env} {m:Ac}
theorem pR:Ew P n .skip Q e m=Q .normal e m:=propext Iff.rfl
theorem qB(a:List Ag):Ew P n (.region false a) Q e m=V7 P false n m.next a 0 (Q .normal) e (m.at (m.next+a.length)):=propext Iff.rfl
theorem iL(x y:An):Ew P n (.seq x y) Q e m=Ew P n x (O0 (Ew P n y Q) Q) e m:=propext Iff.rfl
theorem oP(c:Ah)(x y:An):Ew P n (.cond c x y) Q e m=match AG n e c with
 |.bool true=>Ew P n x Q e m
 |.bool false=>Ew P n y Q e m
 |_=>False:=by
 simp only[Ew];unfold Ic;rfl
theorem kV(i:Nat)(c:An):Ew P n (.block i c) Q e m=Ew P n c (I2 i Q) e m:=propext Iff.rfl
theorem nW:Ew P n .ret Q e m=Q .ret e m:=propext Iff.rfl
theorem Ybu{y:Yd}{n0:Nat}(c:Ah)(a b:An):CT P y n n0 (.cond c a b) Q e m=match AG n e c with
 |.bool true=>CT P y n n0 a Q e m
 |.bool false=>CT P y n n0 b Q e m
 |_=>False:=by
 rw[Yi9];unfold Ic;rfl
theorem Ub{A:Env->Ac->Prop}:Vb P n [] Q A e m=A e m:=propext Iff.rfl
theorem Ua{A:Env->Ac->Prop}(a:An)(r:List An):Vb P n (a::r) Q A e m=Ew P n a (II (Vb P n r Q A) Q) e m:=propext Iff.rfl
@[congr] theorem Ymo{c:An}{e e':Env}{m a:Ac}(h:e=e')(b:m=a):Ew P n c Q e m=Ew P n c Q e' a:=by rw [h, b]
@[congr] theorem Ynr{A:Env -> Ac -> Prop}{x b:Exit}{e e':Env}{m a:Ac}(d:x=b)(h:e=e')(c:m=a):II A Q x e m=II A Q b e' a:=by rw [d, h, c]
@[congr] theorem Ynm{g:Ah}{ps:List Nat}{a b y:An}{e e':Env}{m c:Ac}(h:e=e')(d:m=c):Uc P n g ps a b y Q e m=Uc P n g ps a b y Q e' c:=by rw [h, d]
end
end Go.AE
