/- Part 47 of the proof: Yl, AeYe. -/
import Derived.Test.YtilmpmlkndfbjaaGreatDoorI40
import Derived.Test.YtilmpmlkndfbjaaGreatDoorI46
set_option linter.all false
section
namespace Go.Known
open Go Go.AE Go.Proofs
open Go.Plain
theorem Z7t(f:Int)(ls:List Lt)(h:ValR f ls)(g:ls≠[]) :
 Ctr Tryz.prog 69 [cV f ls] ⟨[],1⟩ fun r m=>r=.ptr 1 0 0∧m=⟨[(1,wvB ls (S7 ls ls.length) (.sl 2 0 (Y2 ls).length)),(2,.cells 1 (Z2 (Y2 ls)))],4⟩:=by
 refine(Z4s f ls h g).freezeB fun r i=>?_
 rintro⟨rfl,rfl⟩;refine⟨[3],rfl,?_⟩;have a:fzV (SMem.get ⟨[(1,.cells 3 [[.imm (ls.map rowL),.sl 3 0 ls.length,.sl 2 0 (Y2 ls).length]]),(2,.cells 1 (Z2 (Y2 ls))),(3,.cells 1 (Z2 (S7 ls ls.length)))],4⟩) [3] (.sl 3 0 ls.length)=.imm (Z2 (S7 ls ls.length)):=
  Zly (k:=1) rfl rfl (by rw[L6,Zkh]) (Zrm _)
 have b:∀ get:Nat→Option ABlk,fzV get [3] (.sl 2 0 (Y2 ls).length)=.sl 2 0 (Y2 ls).length:=fun get=>rfl
 have c:∀ get:Nat→Option ABlk,fzV get [3] (.imm (ls.map rowL))=.imm (ls.map rowL):=fun get=>Zw7 (by simp[AVal.closed,Y5])
 have d:∀ get:Nat→Option ABlk,C8 get [3] (Z2 (Y2 ls))=Z2 (Y2 ls):=fun get=>Zpt (D5 _)
 have e:∀ x y z:ABlk,R0 [3] [(1,x),(2,y),(3,z)]=[(1,x),(2,y)]:=fun x y z=>by simp[R0,V8]
 simp only[e,fzBl,fzBk,d];simp only[C8,List.map_cons,List.map_nil,a,b,c]
theorem Z8t(b:Nat)(c:b=1):Ctr Tryz.prog 70 [.ptr b 0 0] ⟨[],2⟩ fun r m=>r=.func (.func 103) [] [.ptr 2 0 0]∧m=⟨[(2,.cells 1 [[.ptr b 0 0]])],3⟩:=by
 subst c;refine A8 hm Tryz.func70 cf58 rfl rfl fun K a=>?_
 simp;exact Y1 a [] (by simp)
end Go.Known
end
section
namespace Go.AE
open Go.RowKit
section
variable {P:Program} {n:Nat}
theorem Zw9{c:ACode}:∀ {Q Q':Exit→Env→SMem→Prop} {e:Env} {m:SMem},wpR P n c Q e m→(∀ x e m,Q x e m→Q' x e m)→wpS P n c Q' e m:=by
 induction c with
 | skip=>exact fun h a=>a _ _ _ h
 | region g i=>
  intro Q Q' e m h a;cases g with
  | false=>exact Zjy (a .normal) i 0 e _ (Zjr i 0 e _ h)
  | true=>exact h.elim
 | seq x y d f=>
  intro Q Q' e m h a;refine d h fun x e m b=>?_
  cases x<;>first|exact f b a|exact a _ _ _ b
 | cond c x y d f=>
  intro Q Q' e m h a;simp only[wpR]at h;simp only[wpS];generalize evE n e c=v at h;cases v<;>first|exact h.elim|skip
  rename_i q;cases q
  ·exact f h a
  ·exact d h a
 | block id c k=>
  intro Q Q' e m h a;refine k h fun x e m b=>?_
  cases x<;>simp only[J5]at b ⊢ <;> first|exact a _ _ _ b|skip
  split at b
  ·rename_i j; rw[if_pos j]; exact a _ _ _ b
  ·rename_i j; rw[if_neg j]; exact a _ _ _ b
 | ret=>exact fun h a=>a _ _ _ h
 | _=>intro Q Q' e m h; exact h.elim
def preK(A:Env→SMem→Prop)(Q:Exit→Env→SMem→Prop):Exit→Env→SMem→Prop
 | .normal,e,m=>A e m
 | .ret,e,m=>Q .ret e m
 | _,_,_=>False
theorem Zp7{A:Env→SMem→Prop}{Q:Exit→Env→SMem→Prop}{e:Env}{m:SMem}:preK A Q .normal e m=A e m:=rfl
theorem Zph{A:Env→SMem→Prop}{Q:Exit→Env→SMem→Prop}{e:Env}{m:SMem}:preK A Q .ret e m=Q .ret e m:=rfl
def Zhn(P:Program)(n:Nat):List ACode→(Exit→Env→SMem→Prop)→(Env→SMem→Prop)→Env→SMem→Prop
 | [],_,N,e,m=>N e m
 | a :: r,Q,N,e,m=>wpR P n a (preK (Zhn P n r Q N) Q) e m
theorem Zy8{Q:Exit→Env→SMem→Prop}{N c:Env→SMem→Prop}(d:∀ e m,N e m→c e m):∀ (l:List ACode) (e:Env) (m:SMem),Zhn P n l Q N e m→Zkf P n l Q c e m
 | [],e,m,h=>d e m h
 | a :: r,e,m,h=>Zw9 h fun x e m b=>by
  cases x<;>first|exact b.elim|exact Zy8 d r e m b|exact b
def rngK(P:Program)(nt:Nat)(g:AOpd)(ps:List Nat)(asn bd y:ACode)(Q:Exit→Env→SMem→Prop)(e:Env)(m:SMem):Prop:=
 ∃ gf cap,evE nt e g=.func (.func gf) [] cap∧CtrY P ⟨m.next,nt,ps,e,asn,bd,[]⟩ gf (.yld m.next :: cap) (m.at (m.next+1)) fun _ m2=>wpR P nt y Q e m2
theorem Z0b(hm:P.follows .mixedOrders=true){f:FuncId}{fn:Func}{p:AParts}{args:List AVal}{m:SMem}{a:AVal→SMem→Prop}(l:P.funcs[f]? = some fn)(o:Zg1 P fn=some p)
 {b:Nat} {c:List (Nat×Option (Option Nat))} {pre:List ACode} {x:ACode} {g:AOpd} {ps:List Nat} {asn bd y:ACode} (k:p=⟨b,c,pre,x,g,ps,asn,bd,y⟩) (n:Nat.ble args.length b=true)
 (h:∀ K:AVal→SMem→Prop,(∀ r i,a r i→K r i)→Zhn P b pre (M8 b c (S4 m.next K)) (wpR P b x (preK (rngK P b g ps asn bd y (M8 b c (S4 m.next K))) (M8 b c (S4 m.next K)))) (V2 0 args []) m):Ctr P f args m a:=by
 refine Yfd hm l o k n fun K j=>Zy8 (fun e m q=>Zw9 q fun z e m d=>?_) _ _ _ (h K j)
 cases z<;>first|exact d.elim|exact d
variable {Q:Exit→Env→SMem→Prop} {e:Env} {m:SMem}
theorem Zrn:wpR P n .skip Q e m=Q .normal e m:=propext Iff.rfl
theorem Zst(a:List AOper):wpR P n (.region false a) Q e m=V7 P false n m.next a 0 (Q .normal) e (m.at (m.next+a.length)):=propext Iff.rfl
theorem Zqn(x y:ACode):wpR P n (.seq x y) Q e m=wpR P n x (O1 (wpR P n y Q) Q) e m:=propext Iff.rfl
theorem Zsg(c:AOpd)(x y:ACode):wpR P n (.cond c x y) Q e m=match evE n e c with
 | .bool true=>wpR P n x Q e m
 | .bool false=>wpR P n y Q e m
 | _=>False:=by
 simp only[wpR];unfold Zay;rfl
theorem Zsf(i:Nat)(c:ACode):wpR P n (.block i c) Q e m=wpR P n c (J5 i Q) e m:=propext Iff.rfl
theorem Zpv:wpR P n .ret Q e m=Q .ret e m:=propext Iff.rfl
theorem Z7n{y:Yd}{n0:Nat}(c:AOpd)(a b:ACode):wpH P y n n0 (.cond c a b) Q e m=match evE n e c with
 | .bool true=>wpH P y n n0 a Q e m
 | .bool false=>wpH P y n n0 b Q e m
 | _=>False:=by
 rw[Ygv];unfold Zay;rfl
theorem preN{A:Env→SMem→Prop}:Zhn P n [] Q A e m=A e m:=propext Iff.rfl
theorem preC{A:Env→SMem→Prop}(a:ACode)(r:List ACode):Zhn P n (a :: r) Q A e m=wpR P n a (preK (Zhn P n r Q A) Q) e m:=propext Iff.rfl
@[congr] theorem Yhk{c : ACode}{e e' : Env}{m a : SMem}(h : e = e')(b : m = a) : wpR P n c Q e m = wpR P n c Q e' a := by rw [h, b]
@[congr] theorem Yhh{A : Env → SMem → Prop}{x b : Exit}{e e' : Env}{m a : SMem}(d : x = b)(h : e = e')(c : m = a) : preK A Q x e m = preK A Q b e' a := by rw [d, h, c]
@[congr] theorem Yio{g : AOpd}{ps : List Nat}{a b y : ACode}{e e' : Env}{m c : SMem}(h : e = e')(d : m = c) : rngK P n g ps a b y Q e m = rngK P n g ps a b y Q e' c := by rw [h, d]
end
end Go.AE
end
