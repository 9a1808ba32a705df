/- Part 10 -/
import Derived.Test.YtilmpmlkndfbjaaGreatDoorT9
import Derived.Test.YtilmpmlkndfbjaaGreatDoorProg
import Derived.Shelf.Strings.Builder1
import Derived.Shelf.Strings.Builder2
import Derived.Shelf.Strings.OnBuilder
set_option linter.all false
open Go.Proofs.Tryz (prog)
namespace Go.AE
open Go.RowKit
section
variable {q:Fv} {k:IntKind} {a b:Int} {x y:Bool}
theorem MR:W5 .add q (.int k a) (.int k b)=some (.int k (k.wrap (a+b))):=by simp[W5,S5]
theorem NW:W5 .sub q (.int k a) (.int k b)=some (.int k (k.wrap (a-b))):=by simp[W5,S5]
theorem NN:W5 .mul q (.int k a) (.int k b)=some (.int k (k.wrap (a*b))):=by simp[W5,S5]
theorem Ou:W5 .quo q (.int k a) (.int k b)=if b=0 then none else some (.int k (k.wrap (a.tdiv b))):=by simp[W5,S5]
theorem NM:W5 .rem q (.int k a) (.int k b)=if b=0 then none else some (.int k (a.tmod b)):=by simp[W5,S5]
theorem Og:W5 .eql q (.int k a) (.int k b)=some (.bool (decide (a=b))):=by simp[W5,S5]
theorem MO:W5 .neq q (.int k a) (.int k b)=some (.bool (!decide (a=b))):=by simp[W5,S5]
theorem NS:W5 .lss q (.int k a) (.int k b)=some (.bool (decide (a<b))):=by simp[W5,S5]
theorem Nl:W5 .leq q (.int k a) (.int k b)=some (.bool (decide (a<=b))):=by simp[W5,S5]
theorem MB:W5 .gtr q (.int k a) (.int k b)=some (.bool (decide (b<a))):=by simp[W5,S5]
theorem MU:W5 .geq q (.int k a) (.int k b)=some (.bool (decide (b<=a))):=by simp[W5,S5]
theorem Om:W5 .eql .bool (.bool x) (.bool y)=some (.bool (x == y)):=by simp[W5,Ez]
theorem Nh:W5 .neq .bool (.bool x) (.bool y)=some (.bool (!(x == y))):=by simp[W5,Ez]
end
section
variable {n base i:Nat} {P:Program} {K:Env→Ac→Prop} {e:Env} {m:Ac}
def HO(w:Option Bool)(A B:Prop):Prop:=
 match w with
 | some true=>A
 | some false=>B
 | none=>False
@[congr] theorem Yng{w w':Option Bool}{A B:Prop}(h:w=w'):HO w A B=HO w' A B:=by rw [h]
def He(r:Option (Aa×List (Nat×Option Af)))(K:Aa→List (Nat×Option Af)→Prop):Prop:=
 match r with
 | some (v,d)=>K v d
 | none=>False
theorem Sh{v:Aa}{d:List (Nat×Option Af)}{K:Aa->List (Nat×Option Af)->Prop}:He (some (v,d)) K=K v d:=propext Iff.rfl
@[congr] theorem Yni{r a:Option (Aa × List (Nat × Option Af))}{K:Aa -> List (Nat × Option Af) -> Prop}(h:r=a):He r K=He a K:=by rw [h]
def PC(c:Option (FuncId×List Aa))(K:FuncId→List Aa→Prop):Prop:=
 match c with
 | some (g,args)=>K g args
 | none=>False
@[congr] theorem Ym4{c c':Option (FuncId × List Aa)}{K:FuncId -> List Aa -> Prop}(h:c=c'):PC c K=PC c' K:=by rw [h]
def DC(P:Program)(g:FuncId)(args:List Aa)(n:Nat)(x:List Nat)(m:Ac)(K:Aa→Option Af→Prop):Prop:=∃ v d,jR P g args v d n x m.mem∧K v d
theorem JQ{g:FuncId}{args:List Aa}{v:Aa}{n:Nat}{x:List Nat}{m:Ac}{K:Aa->Option Af->Prop}(h:Au P g args v)(a:K v none):DC P g args n x m K:=⟨v,none,h.x _ _ _,a⟩
@[congr] theorem Ymm{g:FuncId}{args args':List Aa}{n b:Nat}{x:List Nat}{m a:Ac}{K:Aa -> Option Af -> Prop}(h:id args=args')(c:n=b)(hm:m=a):DC P g args n x m K=DC P g args' b x a K:=by cases h;cases c;cases hm;rfl
def V7(P:Program)(dc:Bool)(n base:Nat):List Ag→Nat→(Env→Ac→Prop)→Env→Ac→Prop
 | [],_,K,e,m=>K e m
 | o :: r,i,K,e,m=>HO (S2 n e o.guard)
  (match o.op with
  | .call f xs=>PC (U9 n e f xs) fun g args=>match dc with
   | false=>SC P g args m (base+i) fun v m'=>V7 P dc n base r (i+1) K (Y8 e o.dst v) m'
   | true=>DC P g args (base+i) (DX base i r.length) m fun v d=>V7 P dc n base r (i+1) K (Y8 e o.dst v) (m.app (LV (base+i) d))
  | op=>He (Ak (base+i) (AG n e) m.get op) fun v d=>V7 P dc n base r (i+1) K (Y8 e o.dst v) (m.app d))
  (V7 P dc n base r (i+1) K (Y8 e o.dst Ai) m)
@[congr] theorem Ymg{c:Bool}{n base a i d:Nat}{b:List Ag}{K:Env -> Ac -> Prop}{e e':Env}{m f:Ac}(j:base=a)(hi:i=d)(h:e=e')(g:m=f):V7 P c n base b i K e m=V7 P c n a b d K e' f:=by rw [j, hi, h, g]
theorem WV:∀(k:List Ag) (i:Nat) (e:Env) (m:Ac),V7 P false n base k i K e m->F4 P n base k i K e m
 |[],_,_,_,h=>h
 |o::r,i,e,m,h=>by
  simp only[V7]at h;simp only[F4];cases q:S2 n e o.guard with
  |none=>rw[q]at h;exact h
  |some b=>
   rw[q]at h;cases b with
   |false=>exact WV r _ _ _ h
   |true=>
    simp only[HO]at h;simp only;have a:∀op,He (Ak (base+i) (AG n e) m.get op) (λv d=>V7 P false n base r (i+1) K (Y8 e o.dst v) (m.app d)) ->
     (match Ak (base+i) (AG n e) m.get op with|some (v,d)=>F4 P n base r (i+1) K (Y8 e o.dst v) (m.app d)|none=>False):=by
     intro op c;cases p:Ak (base+i) (AG n e) m.get op with
     |none=>rw[p]at c;exact c
     |some y=>obtain ⟨v,d⟩:=y;rw[p]at c;exact WV r _ _ _ c
    cases j:o.op with
    |call f xs=>
     simp only[j]at h;simp only;cases l:U9 n e f xs with
     |none=>rw[l]at h;exact h
     |some s=>
      obtain⟨g,args⟩:=s;rw[l]at h;simp only[PC]at h;exact h.mono λv w c=>by obtain⟨u,e',t⟩:=c;exact⟨u,e',WV r _ _ _ t⟩
    |_=>rw[j]at h;exact a _ h
theorem UT:∀(c:List Ag) (a:List FT) (e:Env) (m:Ac),c.all (λo=>o.un.isEmpty)=true->V7 P true n base c a.length K e m->HF P n base c a K e m
 |[],_,_,_,_,h=>h
 |o::r,a,e,m,k,h=>by
  simp only[List.all_cons,bA,List.isEmpty_iff]at k;have p:∀f:FT,(a++[f]).length=a.length+1:=λf=>by simp
  simp only[V7]at h;simp only[HF];cases t:S2 n e o.guard with
  |none=>rw[t]at h;exact h
  |some b=>
   rw[t]at h;cases b with
   |false=>exact UT r _ _ _ k.2 (by rw[p];exact h)
   |true=>
    simp only[HO]at h;simp only[k.1,M7];have i:∀op,He (Ak (base+a.length) (AG n e) m.get op) (λv d=>V7 P true n base r (a.length+1) K (Y8 e o.dst v) (m.app d)) ->
     (match Ak (base+a.length) (AG n e) m.get op with|some (v,d)=>True/\HF P n base r (a++[.ops (S9 (base+a.length) (AG n e) op) (S8 (AG n e) op)]) K (Y8 e o.dst v) (m.app d)|none=>False):=by
     intro op l;cases s:Ak (base+a.length) (AG n e) m.get op with
     |none=>rw[s]at l;exact l
     |some z=>obtain ⟨v,d⟩:=z;rw[s]at l;exact⟨trivial,UT r _ _ _ k.2 (by rw[p];exact l)⟩
    cases j:o.op with
    |call f xs=>
     simp only[j]at h;simp only;cases q:U9 n e f xs with
     |none=>rw[q]at h;exact h
     |some u=>
      obtain⟨g,args⟩:=u;rw[q]at h;simp only[PC]at h;obtain⟨v,d,w,y⟩:=h;exact⟨v,d,w,trivial,UT r _ _ _ k.2 (by rw[p];exact y)⟩
    |_=>rw[j]at h;exact i _ h
end
def I8:List (Nat×FT)→Nat→Option FT
 | [],_=>none
 | (j,f) :: r,i=>if i=j then some f else I8 r i
def H8(fs:List (Nat×FT))(ft:FT):List Nat→Prop
 | []=>True
 | i :: r=>(match I8 fs i with
  | some f=>FT.indep f ft
  | none=>False)∧H8 fs ft r
def IY:List Ag→List Nat
 | []=>[]
 | ⟨_,_,_,un⟩ :: r=>un++IY r
def L8(keep:List Nat)(i:Nat)(f:FT)(fs:List (Nat×FT)):List (Nat×FT):=bif V1 i keep then (i,f) :: fs else fs
def H4(P:Program)(keep:List Nat)(n base:Nat):List Ag→Nat→List (Nat×FT)→(Env→Ac→Prop)→Env→Ac→Prop
 | [],_,_,K,e,m=>K e m
 | o :: r,i,fs,K,e,m=>match S2 n e o.guard with
  | some true=>(match o.op with
   | .call f xs=>(match U9 n e f xs with
    | some (g,args)=>DC P g args (base+i) (DX base i r.length) m fun v d=>H8 fs (.call (KQ (base+i) d) (DX base i r.length) m.next) o.un∧H4 P keep n base r (i+1) (L8 keep i (.call (KQ (base+i) d) (DX base i r.length) m.next) fs) K (Y8 e o.dst v) (m.app (LV (base+i) d))
    | none=>False)
   | op=>(match Ak (base+i) (AG n e) m.get op with
    | some (v,d)=>H8 fs (.ops (S9 (base+i) (AG n e) op) (S8 (AG n e) op)) o.un∧H4 P keep n base r (i+1) (L8 keep i (.ops (S9 (base+i) (AG n e) op) (S8 (AG n e) op)) fs) K (Y8 e o.dst v) (m.app d)
    | none=>False))
  | some false=>H4 P keep n base r (i+1) (L8 keep i (.ops [] []) fs) K (Y8 e o.dst Ai) m
  | none=>False
theorem VX{b:List (Nat×FT)}{gs:List FT}{d:FT}(e:∀j f,I8 b j=some f->gs.getD j (.ops [] [])=f):∀{un:List Nat},H8 b d un->M7 gs d un
 |[],_=>trivial
 |i::r,h=>by
  refine⟨?_,VX e h.2⟩;have a:=h.1;cases c:I8 b i with
  |none=>rw[c]at a;exact a.elim
  |some f=>rw[c]at a;rw[e i f c];exact a
theorem fB{P:Program}{keep:List Nat}{n base:Nat}{K:Env->Ac->Prop}:∀(s:List Ag) (k:List (Nat×FT)) (gs:List FT) (e:Env) (m:Ac),
 (∀j f,I8 k j=some f->gs.getD j (.ops [] [])=f/\j<gs.length)->H4 P keep n base s gs.length k K e m->HF P n base s gs K e m
 |[],_,_,_,_,_,h=>h
 |o::r,k,gs,e,m,w,h=>by
  have p:∀f:FT,(gs++[f]).length=gs.length+1:=λf=>by simp
  have c:∀f,∀j g,I8 (L8 keep gs.length f k) j=some g->(gs++[f]).getD j (.ops [] [])=g/\j<(gs++[f]).length:=by
   intro f j g a;have old:∀j g,I8 k j=some g->(gs++[f]).getD j (.ops [] [])=g/\j<(gs++[f]).length:=λj g t=>by
    obtain⟨u,E⟩:=w j g t;refine⟨?_,by rw[p];omega⟩;rw[List.getD_eq_getElem?_getD,List.getElem?_append_left E,<-List.getD_eq_getElem?_getD];exact u
   unfold L8 at a;cases hm:V1 gs.length keep with
   |false=>rw[hm]at a;exact old j g a
   |true=>
    rw[hm]at a;simp only[cond_true,I8]at a;split at a
    ·rename_i B;injection a with a
     subst a;subst B;refine⟨?_,by rw[p];omega⟩;rw[List.getD_eq_getElem?_getD,List.getElem?_append_right (lR _)];simp
    exact old j g a
  simp only[H4]at h;simp only[HF];cases A:S2 n e o.guard with
  |none=>rw[A]at h;exact h
  |some b=>
   rw[A]at h;cases b with
   |false=>exact fB r _ _ _ _ (c _) (by rw[p];exact h)
   |true=>
    simp only at h ⊢;have l:∀op,(match Ak (base+gs.length) (AG n e) m.get op with
     |some (v,d)=>H8 k (.ops (S9 (base+gs.length) (AG n e) op) (S8 (AG n e) op)) o.un/\H4 P keep n base r (gs.length+1) (L8 keep gs.length (.ops (S9 (base+gs.length) (AG n e) op) (S8 (AG n e) op)) k) K (Y8 e o.dst v) (m.app d)
     |none=>False) ->
     (match Ak (base+gs.length) (AG n e) m.get op with|some (v,d)=>M7 gs (.ops (S9 (base+gs.length) (AG n e) op) (S8 (AG n e) op)) o.un/\HF P n base r (gs++[.ops (S9 (base+gs.length) (AG n e) op) (S8 (AG n e) op)]) K (Y8 e o.dst v) (m.app d)|none=>False):=by
     intro op i;cases z:Ak (base+gs.length) (AG n e) m.get op with
     |none=>rw[z]at i;exact i
     |some F=>
      obtain⟨v,d⟩:=F;rw[z]at i;exact⟨VX (λj f a=>(w j f a).1) i.1,fB r _ _ _ _ (c _) (by rw[p];exact i.2)⟩
    cases q:o.op with
    |call f xs=>
     simp only[q]at h;simp only;cases y:U9 n e f xs with
     |none=>rw[y]at h;exact h
     |some C=>
      obtain⟨g,args⟩:=C;rw[y]at h;obtain⟨v,d,t,D,u⟩:=h;exact⟨v,d,t,VX (λj f a=>(w j f a).1) D,fB r _ _ _ _ (c _) (by rw[p];exact u)⟩
    |_=>(have i:=l o.op;rw[q]at h i;exact i h)
def G9:Ag→Bool
 | ⟨_,op,_,un⟩=>un.isEmpty&&match op with
  | .call _ _=>false
  | _=>true
def Dl(P:Program)(n n0:Nat):An→(Exit→Env→Ac→Prop)→Env→Ac→Prop
 | .skip,Q,e,m=>Q .normal e m
 | .region false ops,Q,e,m=>V7 P false n m.next ops 0 (Q .normal) e (m.at (m.next+ops.length))
 | .region true ops,Q,e,m=>if ops.all G9=true then V7 P false n m.next ops 0 (Q .normal) e (m.at (m.next+ops.length))
  else if ops.all (fun o=>o.un.isEmpty)=true then V7 P true n m.next ops 0 (Q .normal) e (m.at (m.next+ops.length))
  else H4 P (IY ops) n m.next ops 0 [] (Q .normal) e (m.at (m.next+ops.length))
 | .seq a b,Q,e,m=>Dl P n n0 a (O0 (Dl P n n0 b Q) Q) e m
 | .cond c a b,Q,e,m=>Ic (AG n e c) (Dl P n n0 a Q e m) (Dl P n n0 b Q e m)
 | .block id c,Q,e,m=>Dl P n n0 c (I2 id Q) e m
 | .loop c,Q,e,m=>∃ (I:Nat→Env→Ac→Prop),(∃ k e0 m0,Di n n0 e0 m0 e m∧I k e0 m0) ∧ ∀ k e1 m1,I k e1 m1→Dl P n n0 c (O0 (fun e' m'=>∃ j e0 m0,j<k∧Di n n0 e0 m0 e' m'∧I j e0 m0) Q) e1 m1
 | .exit id,Q,e,m=>Q (.exit id) e m
 | .scope c,Q,e,m=>Dl P n n0 c Q e m
 | .label _,Q,e,m=>Q .normal e m
 | .ret,Q,e,m=>Q .ret e m
 | .bad,_,_,_=>False
section
variable {P:Program} {n n0:Nat}
theorem VK{base:Nat}{K K':Env->Ac->Prop}(b:∀e m,K e m->K' e m):∀(a:List Ag) (i:Nat) (e:Env) (m:Ac),F4 P n base a i K e m->F4 P n base a i K' e m
 |[],_,_,_,h=>b _ _ h
 |o::r,i,e,m,h=>by
  simp only[F4]at h ⊢;split at h
  ·exact VK b r _ _ _ h
  ·split at h
   ·split at h
    ·exact h.mono λv f c=>by obtain⟨d,e',c⟩:=c;exact⟨d,e',VK b r _ _ _ c⟩
    exact h
   split at h
   ·exact VK b r _ _ _ h
   exact h
  exact h
theorem fH{base:Nat}{K K':Env->Ac->Prop}(b:∀e m,K e m->K' e m):∀(a:List Ag) (c:List FT) (e:Env) (m:Ac),HF P n base a c K e m->HF P n base a c K' e m
 |[],_,_,_,h=>b _ _ h
 |o::r,c,e,m,h=>by
  simp only[HF]at h ⊢;split at h
  ·exact fH b r _ _ _ h
  ·split at h
   ·split at h
    ·obtain⟨v,d,f,g,i⟩:=h;exact⟨v,d,f,g,fH b r _ _ _ i⟩
    exact h
   split at h
   ·exact⟨h.1,fH b r _ _ _ h.2⟩
   exact h
  exact h
theorem Yhp{c:An}:∀{Q Q':Exit->Env->Ac->Prop}{e:Env}{m:Ac},FC P n n0 c Q e m->(∀x e m,Q x e m->Q' x e m)->FC P n n0 c Q' e m:=by
 induction c with
 |skip=>exact λh d=>d _ _ _ h
 |region j q=>
  intro Q Q' e m h d;cases j with
  |false=>exact VK (d .normal) q 0 e _ h
  |true=>exact fH (d .normal) q [] e _ h
 |seq a b g i=>
  intro Q Q' e m h d;refine g h λx e m f=>?_;cases x<;>first|exact i f d|exact d _ _ _ f
 |cond c a b g i=>
  intro Q Q' e m h d;simp only[FC]at h ⊢;split at h
  ·exact g h d
  ·exact i h d
  exact h
 |block id c p=>
  intro Q Q' e m h d;refine p h λx e m f=>?_;cases x<;>simp only[I2]at f ⊢ <;> first|exact d _ _ _ f|skip
  split at f
  ·rename_i o;rw[iP o];exact d _ _ _ f
  rename_i o;rw[iN o];exact d _ _ _ f
 |loop c p=>
  intro Q Q' e m h d;obtain⟨I,o,s⟩:=h;refine⟨I,o,λk r u t=>p (s k r u t) λx e m f=>?_⟩;cases x<;>first|exact f|exact d _ _ _ f
 |exit id=>exact λh d=>d _ _ _ h
 |scope c p=>exact λh d=>p h d
 |label l=>exact λh d=>d _ _ _ h
 |ret=>exact λh d=>d _ _ _ h
 |bad=>exact λh _=>h
variable {Q:Exit→Env→Ac→Prop} {e:Env} {m:Ac}
theorem NV:Dl P n n0 .skip Q e m=Q .normal e m:=propext Iff.rfl
theorem Ni(a:List Ag):Dl P n n0 (.region false a) Q e m=V7 P false n m.next a 0 (Q .normal) e (m.at (m.next+a.length)):=propext Iff.rfl
theorem NU(a b:An):Dl P n n0 (.seq a b) Q e m=Dl P n n0 a (O0 (Dl P n n0 b Q) Q) e m:=propext Iff.rfl
theorem Yg2(c:Ah)(a b:An):Dl P n n0 (.cond c a b) Q e m=Ic (AG n e c) (Dl P n n0 a Q e m) (Dl P n n0 b Q e m):=propext Iff.rfl
theorem NI(i:Nat)(c:An):Dl P n n0 (.block i c) Q e m=Dl P n n0 c (I2 i Q) e m:=propext Iff.rfl
theorem Np(c:An):Dl P n n0 (.scope c) Q e m=Dl P n n0 c Q e m:=propext Iff.rfl
theorem Mn(i:Nat):Dl P n n0 (.exit i) Q e m=Q (.exit i) e m:=propext Iff.rfl
theorem Nr:Dl P n n0 .ret Q e m=Q .ret e m:=propext Iff.rfl
theorem NF(a:List Ag):Dl P n n0 (.region true a) Q e m=if a.all G9=true then V7 P false n m.next a 0 (Q .normal) e (m.at (m.next+a.length))
 else if a.all (λo=>o.un.isEmpty)=true then V7 P true n m.next a 0 (Q .normal) e (m.at (m.next+a.length))
 else H4 P (IY a) n m.next a 0 [] (Q .normal) e (m.at (m.next+a.length)):=propext Iff.rfl
theorem aR{base:Nat}{K:Env->Ac->Prop}:∀(a:List Ag) (i:Nat) (e:Env) (m:Ac),a.all G9=true->V7 P false n base a i K e m->V7 P true n base a i K e m
 |[],_,_,_,_,h=>h
 | ⟨dst,op,guard,un⟩ :: r,i,e,m,j,h=>by
  simp only[List.all_cons,bA]at j;simp only[V7]at h ⊢;cases l:S2 n e guard with
  |none=>rw[l]at h;exact h
  |some b=>
   rw[l]at h;cases b with
   |false=>exact aR r _ _ _ j.2 h
   |true=>
    simp only[HO]at h ⊢;have c:∀op,He (Ak (base+i) (AG n e) m.get op) (λv d=>V7 P false n base r (i+1) K (Y8 e dst v) (m.app d))->He (Ak (base+i) (AG n e) m.get op) (λv d=>V7 P true n base r (i+1) K (Y8 e dst v) (m.app d)):=by
     intro op g;cases k:Ak (base+i) (AG n e) m.get op with
     |none=>rw[k]at g;exact g
     |some o=>obtain ⟨v,d⟩:=o;rw[k]at g;exact aR r _ _ _ j.2 g
    cases op with
    |call f xs=>simp[G9]at j
    |_=>exact c _ h
theorem yS{a:List Ag}(h:a.all G9=true):a.all (λo=>o.un.isEmpty)=true:=by
 rw[List.all_eq_true]at h ⊢;intro o b;have:=h o b;obtain⟨dst,op,guard,un⟩:=o;simp only[G9,bA]at this;exact this.1
theorem qL{c:An}:∀{Q Q':Exit->Env->Ac->Prop}{e:Env}{m:Ac},Dl P n n0 c Q e m->(∀x e m,Q x e m->Q' x e m)->FC P n n0 c Q' e m:=by
 induction c with
 |skip=>exact λh d=>d _ _ _ h
 |region q i=>
  intro Q Q' e m h d;refine Yhp ?_ d;cases q with
  |false=>exact WV i 0 e _ h
  |true=>
   simp only[Dl]at h;split at h
   ·rename_i t;exact UT i [] e _ (yS t) (aR i 0 _ _ t h)
   split at h
   ·rename_i t;exact UT i [] e _ t h
   exact fB i [] [] e _ (λj f z=>by simp[I8]at z) h
 |seq a b o p=>
  intro Q Q' e m h d;refine o h λx e m g=>?_;cases x<;>first|exact p g d|exact d _ _ _ g
 |cond c a b o p=>
  intro Q Q' e m h d;simp only[Dl]at h;simp only[FC];generalize AG n e c=v at h;cases v<;>first|exact h.elim|skip
  rename_i b;cases b
  ·exact p h d
  exact o h d
 |block id c s=>
  intro Q Q' e m h d;refine s h λx e m g=>?_;cases x<;>simp only[I2]at g ⊢ <;> first|exact d _ _ _ g|skip
  split at g
  ·rename_i r;rw[iP r];exact d _ _ _ g
  rename_i r;rw[iN r];exact d _ _ _ g
 |loop c s=>
  intro Q Q' e m h d;obtain⟨I,r,w⟩:=h;refine⟨I,r,λk u A y=>s (w k u A y) λx e m g=>?_⟩;cases x<;>first|exact g|exact d _ _ _ g
 |exit id=>exact λh d=>d _ _ _ h
 |scope c s=>exact λh d=>s h d
 |label l=>exact λh d=>d _ _ _ h
 |ret=>exact λh d=>d _ _ _ h
 |bad=>exact λh _=>h
theorem Zzt(hm:P.follows .mixedOrders=true){f:FuncId}{fn:Func}{a:AD}{args:List Aa}{m:Ac}{K:Aa->Ac->Prop}(c:P.funcs[f]?=some fn)(b:Bk P fn=some a)(d:Nat.ble args.length a.ntmps=true)
 (h:Dl P a.ntmps m.next a.body (L3 a.ntmps a.results (R9 m.next K)) (R4 0 args []) m):Bo P f args m K:=
 Ylt hm c b d (qL h λ_ _ _ h=>h)
theorem Zz4{α:Type}{c:An}(E:α->Env)(M:α->Ac)(g:α->Nat)(b:α->Prop)(f:α)(q:Di n n0 (E f) (M f) e m)(i:b f)
 (h:∀a,b a -> ∀N:Env->Ac->Prop,(∀d e m,g d<g a->b d->Di n n0 (E d) (M d) e m->N e m)->Dl P n n0 c (O0 N Q) (E a) (M a)):Dl P n n0 (.loop c) Q e m:=by
 refine⟨λk e m=>∃a,k=g a/\b a/\e=E a/\m=M a,⟨g f,_,_,q,f,rfl,i,rfl,rfl⟩,?_⟩;rintro k r s ⟨a,rfl,p,rfl,rfl⟩;exact h a p _ λd e m j l o=>⟨g d,E d,M d,j,o,d,rfl,l,rfl,rfl⟩
theorem M4{α:Type}{c:An}(E:α->Env)(M:α->Ac)(g:α->Nat)(b:α->Prop)(f:α)(l:List (Nat×Nat))(r:Bm n0 l (E f) (M f) e m)(i:b f)
 (h:∀a,b a -> ∀N:Env->Ac->Prop,(∀d l e m,g d<g a->b d->Bm n0 l (E d) (M d) e m->N e m)->Dl P n n0 c (O0 N Q) (E a) (M a)):Dl P n n0 (.loop c) Q e m:=
 Zz4 E M g b f r.wk i λa q N p=>h a q N λd l e m j k o=>p d e m j k o.wk
@[congr] theorem Ymr{n n0:Nat}{c:An}{Q:Exit -> Env -> Ac -> Prop}{e e':Env}{m a:Ac}(h:e=e')(b:m=a):Dl P n n0 c Q e m=Dl P n n0 c Q e' a:=by rw [h, b]
end
end Go.AE
namespace Go.Ad
open Go Go.AE Go.Proofs
abbrev GD(n:Nat)(a:AD):Prop:=Go.AE.Good prog (n,a)
theorem gG{n:Nat}{f:Func}{a:AD}(h:Tryz.prog.funcs[n]?=some f)(c:Bk prog f=some a)(b:(I0 a.ntmps a.body&&(Nat.ble a.ntmps bound&&Nat.ble (n+1) bound))=true):GD n a:=by
 simp only[bA]at b;exact⟨⟨_,h,c⟩,b.1,b.2.1,b.2.2⟩
abbrev oZ(d:Nat)(x:Ba):Ag:=⟨some d,x,none,[]⟩
abbrev pZ(x:Ba):Ag:=⟨none,x,none,[]⟩
abbrev gZ(d g:Nat)(b:Bool)(x:Ba):Ag:=⟨some d,x,some (g,b),[]⟩
abbrev tZ(i:Nat):Ah:=.tmp i
abbrev kZ(n:Int):Ah:=.const (.int .i64 n)
abbrev bZ(b:Bool):Ah:=.const (.bool b)
abbrev mv(d s:Nat):Ag:=⟨some d,.Gl (.tmp s),none,[]⟩
abbrev mk(d:Nat)(n:Int):Ag:=⟨some d,.Gl (.const (.int .i64 n)),none,[]⟩
abbrev xT(d:Nat):Ag:=⟨some d,.Gl (.const (.bool true)),none,[]⟩
abbrev Gw(d:Nat):Ag:=⟨some d,.Gl (.const (.bool false)),none,[]⟩
abbrev lo(d s:Nat):Ag:=⟨some d,.load none (.tmp s),none,[]⟩
abbrev lw(d n s:Nat):Ag:=⟨some d,.load (some n) (.tmp s),none,[]⟩
abbrev fa(d o s:Nat):Ag:=⟨some d,.Cg o (.tmp s),none,[]⟩
abbrev so(n a x:Nat):Ag:=⟨none,.store n (.tmp a) (.tmp x),none,[]⟩
abbrev ix(d k a i:Nat):Ag:=⟨some d,.Dk k (.tmp a) (.tmp i),none,[]⟩
abbrev le(d s:Nat):Ag:=⟨some d,.BW (.tmp s),none,[]⟩
abbrev nc(d s:Nat):Ag:=⟨some d,.CJ (.tmp s),none,[]⟩
abbrev ex(d s i:Nat):Ag:=⟨some d,.ext (.tmp s) i,none,[]⟩
abbrev bo(d s:Nat):Ag:=⟨some d,.box (.tmp s),none,[]⟩
abbrev no(d s:Nat):Ag:=⟨some d,.un .not (.tmp s),none,[]⟩
abbrev Qb(d c s:Nat):Ag:=⟨some d,.pick (.tmp c) (.const (.bool true)) (.tmp s),none,[]⟩
abbrev gR(d c s:Nat):Ag:=⟨some d,.pick (.tmp c) (.tmp s) (.const (.bool false)),none,[]⟩
abbrev Td(d:Nat)(f:FuncId)(x:Nat):Ag:=⟨some d,.call (.fn f) [.tmp x],none,[]⟩
abbrev ca2(d:Nat)(f:FuncId)(x y:Nat):Ag:=⟨some d,.call (.fn f) [.tmp x,.tmp y],none,[]⟩
abbrev aD(d x y:Nat):Ag:=⟨some d,.bin .add .num (.tmp x) (.tmp y),none,[]⟩
abbrev Iq(d x:Nat)(n:Int):Ag:=⟨some d,.bin .add .num (.tmp x) (.const (.int .i64 n)),none,[]⟩
abbrev aS(d x y:Nat):Ag:=⟨some d,.bin .sub .num (.tmp x) (.tmp y),none,[]⟩
abbrev aSk(d x:Nat)(n:Int):Ag:=⟨some d,.bin .sub .num (.tmp x) (.const (.int .i64 n)),none,[]⟩
abbrev aQk(d x:Nat)(n:Int):Ag:=⟨some d,.bin .quo .num (.tmp x) (.const (.int .i64 n)),none,[]⟩
abbrev Vo(d x:Nat)(n:Int):Ag:=⟨some d,.bin .rem .num (.tmp x) (.const (.int .i64 n)),none,[]⟩
abbrev cE(d x y:Nat):Ag:=⟨some d,.bin .eql .num (.tmp x) (.tmp y),none,[]⟩
abbrev PA(d x:Nat)(n:Int):Ag:=⟨some d,.bin .eql .num (.tmp x) (.const (.int .i64 n)),none,[]⟩
abbrev cN(d x y:Nat):Ag:=⟨some d,.bin .neq .num (.tmp x) (.tmp y),none,[]⟩
abbrev sG(d x:Nat)(n:Int):Ag:=⟨some d,.bin .neq .num (.tmp x) (.const (.int .i64 n)),none,[]⟩
abbrev cL(d x y:Nat):Ag:=⟨some d,.bin .lss .num (.tmp x) (.tmp y),none,[]⟩
abbrev cLk(d x:Nat)(n:Int):Ag:=⟨some d,.bin .lss .num (.tmp x) (.const (.int .i64 n)),none,[]⟩
abbrev wG(d g s:Nat):Ag:=⟨some d,.Gl (.tmp s),some (g,true),[]⟩
abbrev Vq(d g s:Nat):Ag:=⟨some d,.load none (.tmp s),some (g,false),[]⟩
abbrev Vp(d g o s:Nat):Ag:=⟨some d,.Cg o (.tmp s),some (g,false),[]⟩
abbrev wF(d g s:Nat):Ag:=⟨some d,.Gl (.tmp s),some (g,false),[]⟩
abbrev rf(l:List Ag):An:=.region false l
abbrev sr(l:List Ag)(c:An):An:=.seq (.region false l) c
theorem rQ(f:Func):Bk prog f=Bk prog f:=rfl
def oR{a b:Option AD}(_:a=b):AD:=match b with
 | some f=>f
 | none=>⟨0,[],.skip⟩
abbrev iV(n:Int):Aa:=.int .i64 n
abbrev bV(b:Bool):Aa:=.bool b
end Go.Ad
namespace Go.Proofs
open Go.Shelf
def Tryz.Fk:Go.Shelf.Ren:=⟨fun|156=>43 | 165=>75 | 166=>76 | 169=>77 | 240=>117 | 241=>118 | 276=>153 | 277=>154 | n=>n,fun|31=>42 | 9=>9 | 3=>3 | 4=>4 | 0=>0 | 20=>20 | 72=>142 | 76=>146 | 70=>139 | 37=>140 | 75=>145 | 127=>186 | 164=>215 | 5=>5 | 80=>148 | n=>n,fun|n=>n⟩
theorem Tryz.PN:Go.Proofs.Lays.n156 prog Tryz.Fk:={
 mixed:=by kernel_rfl
 f156:=Tryz.func43.trans (congrArg some (by kernel_rfl))
 f165:=Tryz.func75.trans (congrArg some (by kernel_rfl))
 f166:=Tryz.func76.trans (congrArg some (by kernel_rfl))
 f169:=Tryz.func77.trans (congrArg some (by kernel_rfl))
 f240:=Tryz.func117.trans (congrArg some (by kernel_rfl))
 f241:=Tryz.func118.trans (congrArg some (by kernel_rfl))
 f276:=Tryz.func153.trans (congrArg some (by kernel_rfl))
 f277:=Tryz.func154.trans (congrArg some (by kernel_rfl))
 t0:=Tryz.underlying0
 a0:=Tryz.isAgg0
 z0:=Tryz.sizeOf0
 v0:=Tryz.zeroValue0
 t3:=Tryz.underlying3
 a3:=Tryz.isAgg3
 z3:=Tryz.sizeOf3
 v3:=Tryz.zeroValue3
 t4:=Tryz.underlying4
 a4:=Tryz.isAgg4
 z4:=Tryz.sizeOf4
 v4:=Tryz.zeroValue4
 t9:=Tryz.underlying9
 a9:=Tryz.isAgg9
 z9:=Tryz.sizeOf9
 v9:=Tryz.zeroValue9
 t20:=Tryz.underlying20
 a20:=Tryz.isAgg20
 z20:=Tryz.sizeOf20
 v20:=Tryz.zeroValue20
 t31:=Tryz.underlying42
 a31:=Tryz.isAgg42
 z31:=Tryz.sizeOf42
 v31:=Tryz.zeroValue42
 t37:=Tryz.underlying140
 a37:=Tryz.isAgg140
 z37:=Tryz.sizeOf140
 v37:=Tryz.zeroValue140
 t70:=Tryz.underlying139
 a70:=Tryz.isAgg139
 z70:=Tryz.sizeOf139
 v70:=Tryz.zeroValue139
 t72:=Tryz.underlying142
 a72:=Tryz.isAgg142
 z72:=Tryz.sizeOf142
 v72:=Tryz.zeroValue142
 t75:=Tryz.underlying145
 a75:=Tryz.isAgg145
 z75:=Tryz.sizeOf145
 v75:=Tryz.zeroValue145
 t76:=Tryz.underlying146
 a76:=Tryz.isAgg146
 z76:=Tryz.sizeOf146
 v76:=Tryz.zeroValue146
 t127:=Tryz.underlying186
 a127:=Tryz.isAgg186
 z127:=Tryz.sizeOf186
 v127:=Tryz.zeroValue186
 t164:=Tryz.underlying215
 a164:=Tryz.isAgg215
 z164:=Tryz.sizeOf215
 v164:=Tryz.zeroValue215 }
theorem Tryz.Ex:Builder.Extra prog Tryz.Fk:={
 sizeBuilder:=by kernel_rfl
 liesBuilder:=by kernel_rfl
 t5:=Tryz.underlying5
 a5:=Tryz.isAgg5
 z5:=Tryz.sizeOf5
 v5:=Tryz.zeroValue5
 infoByte:=by kernel_rfl
 cellsByte:=by kernel_rfl
 sizeByte:=by kernel_rfl
 neB5:=by decide }
open Go.RowKit in
theorem Tryz.strings_Join(bk o c:Nat)(xs:List ByteArray)(b:ByteArray)(w:World)(a:∀(j:Nat) x,xs[j]?=some x->w.cell? ⟨bk,o+j,none⟩=some (.string x))(h:bk<w.heap.size)(i:xs.length<=140737488355328)(d:xs.length<=c)(g:(Lib.join (xs.map (·.data.toList)) b.data.toList).length<=140737488355328) :
 Calls prog 43 #[.slice (some ⟨bk,o,none⟩) xs.length c,.string b] w λe w'=>e=.returned (.string ⟨(Lib.join (xs.map (·.data.toList)) b.data.toList).toArray⟩)/\Below w.heap.size w w':=Any.strings_Join Tryz.PN Tryz.Ex bk o c xs b w a h i d g
end Go.Proofs
