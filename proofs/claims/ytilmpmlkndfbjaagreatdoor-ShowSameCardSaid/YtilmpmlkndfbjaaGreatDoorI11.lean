/- Part 11 of the proof: AeNd, Ka, Shelf. -/
import Derived.Test.YtilmpmlkndfbjaaGreatDoorI10
import Derived.Test.YtilmpmlkndfbjaaGreatDoorProg
import Derived.Shelf.Strings.Builder1
import Derived.Shelf.Strings.Builder2
import Derived.Shelf.Strings.OnBuilder
set_option linter.all false
section
namespace Go.AE
open Go.RowKit
section
variable {q:EqT} {k:IntKind} {a b:Int} {x y:Bool}
theorem Zd5:X7 .add q (.int k a) (.int k b)=some (.int k (k.wrap (a+b))):=by simp[X7,V9]
theorem Zda:X7 .sub q (.int k a) (.int k b)=some (.int k (k.wrap (a - b))):=by simp[X7,V9]
theorem Zei:X7 .mul q (.int k a) (.int k b)=some (.int k (k.wrap (a*b))):=by simp[X7,V9]
theorem Zcq:X7 .quo q (.int k a) (.int k b)=if b=0 then none else some (.int k (k.wrap (a.tdiv b))):=by simp[X7,V9]
theorem Zdk:X7 .rem q (.int k a) (.int k b)=if b=0 then none else some (.int k (a.tmod b)):=by simp[X7,V9]
theorem Zd7:X7 .eql q (.int k a) (.int k b)=some (.bool (decide (a=b))):=by simp[X7,V9]
theorem Zcf:X7 .neq q (.int k a) (.int k b)=some (.bool (!decide (a=b))):=by simp[X7,V9]
theorem Zb2:X7 .lss q (.int k a) (.int k b)=some (.bool (decide (a<b))):=by simp[X7,V9]
theorem Zdl:X7 .leq q (.int k a) (.int k b)=some (.bool (decide (a≤b))):=by simp[X7,V9]
theorem Zbq:X7 .gtr q (.int k a) (.int k b)=some (.bool (decide (b<a))):=by simp[X7,V9]
theorem Zcp:X7 .geq q (.int k a) (.int k b)=some (.bool (decide (b≤a))):=by simp[X7,V9]
theorem Zdm:X7 .eql .bool (.bool x) (.bool y)=some (.bool (x == y)):=by simp[X7,eqA]
theorem Zde:X7 .neq .bool (.bool x) (.bool y)=some (.bool (!(x == y))):=by simp[X7,eqA]
end
section
variable {n base i:Nat} {P:Program} {K:Env→SMem→Prop} {e:Env} {m:SMem}
def gdK(w:Option Bool)(A B:Prop):Prop:=
 match w with
 | some true=>A
 | some false=>B
 | none=>False
@[congr] theorem Yh4{w w' : Option Bool}{A B : Prop}(h : w = w') : gdK w A B = gdK w' A B := by rw [h]
def stK(r:Option (AVal×List (Nat×Option ABlk)))(K:AVal→List (Nat×Option ABlk)→Prop):Prop:=
 match r with
 | some (v,d)=>K v d
 | none=>False
theorem Yai{v:AVal}{d:List (Nat×Option ABlk)}{K:AVal→List (Nat×Option ABlk)→Prop}:stK (some (v,d)) K=K v d:=propext Iff.rfl
@[congr] theorem Yij{r a : Option (AVal × List (Nat × Option ABlk))}{K : AVal → List (Nat × Option ABlk) → Prop}(h : r = a) : stK r K = stK a K := by rw [h]
def clK(c:Option (FuncId×List AVal))(K:FuncId→List AVal→Prop):Prop:=
 match c with
 | some (g,args)=>K g args
 | none=>False
@[congr] theorem Yhv{c a : Option (FuncId × List AVal)}{K : FuncId → List AVal → Prop}(h : c = a) : clK c K = clK a K := by rw [h]
def DC(P:Program)(g:FuncId)(args:List AVal)(n:Nat)(x:List Nat)(m:SMem)(K:AVal→Option ABlk→Prop):Prop:=∃ v d,Zre P g args v d n x m.mem∧K v d
theorem Zal{g:FuncId}{args:List AVal}{v:AVal}{n:Nat}{x:List Nat}{m:SMem}{K:AVal→Option ABlk→Prop}(h:PCall P g args v)(a:K v none):DC P g args n x m K:=⟨v,none,h.x _ _ _,a⟩
@[congr] theorem Yii{g : FuncId}{args a : List AVal}{n c : Nat}{x : List Nat}{m b : SMem}{K : AVal → Option ABlk → Prop}(h : id args = a)(d : n = c)(hm : m = b) : DC P g args n x m K = DC P g a c x b K := by cases h; cases d; cases hm; rfl
def V7(P:Program)(dc:Bool)(n base:Nat):List AOper→Nat→(Env→SMem→Prop)→Env→SMem→Prop
 | [],_,K,e,m=>K e m
 | o :: r,i,K,e,m=>gdK (V4 n e o.guard)
  (match o.op with
  | .call f xs=>clK (W4 n e f xs) fun g args=>match dc with
   | false=>SC P g args m (base+i) fun v m'=>V7 P dc n base r (i+1) K (Y6 e o.dst v) m'
   | true=>DC P g args (base+i) (xOf base i r.length) m fun v d=>V7 P dc n base r (i+1) K (Y6 e o.dst v) (m.app (apD (base+i) d))
  | op=>stK (stepD (base+i) (evE n e) m.get op) fun v d=>V7 P dc n base r (i+1) K (Y6 e o.dst v) (m.app d))
  (V7 P dc n base r (i+1) K (Y6 e o.dst aundef) m)
@[congr] theorem Yi0{c : Bool}{n base a i d : Nat}{b : List AOper}{K : Env → SMem → Prop}{e e' : Env}{m f : SMem}(j : base = a)(hi : i = d)(h : e = e')(g : m = f) : V7 P c n base b i K e m = V7 P c n a b d K e' f := by rw [j, hi, h, g]
theorem Zjr:∀ (k:List AOper) (i:Nat) (e:Env) (m:SMem),V7 P false n base k i K e m→K6 P n base k i K e m
 | [],_,_,_,h=>h
 | o :: r,i,e,m,h=>by
  simp only[V7]at h;simp only[K6];cases q:V4 n e o.guard with
  | none=>rw[q]at h; exact h
  | some b=>
   rw[q]at h;cases b with
   | false=>exact Zjr r _ _ _ h
   | true=>
    simp only[gdK]at h;simp only;have a:∀ op,stK (stepD (base+i) (evE n e) m.get op) (fun v d=>V7 P false n base r (i+1) K (Y6 e o.dst v) (m.app d)) →
     (match stepD (base+i) (evE n e) m.get op with|some (v,d)=>K6 P n base r (i+1) K (Y6 e o.dst v) (m.app d)|none=>False):=by
     intro op c;cases p:stepD (base+i) (evE n e) m.get op with
     | none=>rw[p]at c; exact c
     | some y=>obtain ⟨v,d⟩:=y; rw[p]at c; exact Zjr r _ _ _ c
    cases j:o.op with
    | call f xs=>
     simp only[j]at h;simp only;cases l:W4 n e f xs with
     | none=>rw[l]at h; exact h
     | some s=>
      obtain⟨g,args⟩:=s;rw[l]at h;simp only[clK]at h;exact h.mono fun v w c=>by obtain⟨u,e',t⟩:=c; exact⟨u,e',Zjr r _ _ _ t⟩
    | _=>rw[j]at h; exact a _ h
theorem Zhs:∀ (c:List AOper) (a:List FT) (e:Env) (m:SMem),c.all (fun o=>o.un.isEmpty)=true→V7 P true n base c a.length K e m→C7 P n base c a K e m
 | [],_,_,_,_,h=>h
 | o :: r,a,e,m,k,h=>by
  simp only[List.all_cons,bA,List.isEmpty_iff]at k;have p:∀ f:FT,(a++[f]).length=a.length+1:=fun f=>by simp
  simp only[V7]at h;simp only[C7];cases t:V4 n e o.guard with
  | none=>rw[t]at h; exact h
  | some b=>
   rw[t]at h;cases b with
   | false=>exact Zhs r _ _ _ k.2 (by rw[p]; exact h)
   | true=>
    simp only[gdK]at h;simp only[k.1,S6];have i:∀ op,stK (stepD (base+a.length) (evE n e) m.get op) (fun v d=>V7 P true n base r (a.length+1) K (Y6 e o.dst v) (m.app d)) →
     (match stepD (base+a.length) (evE n e) m.get op with|some (v,d)=>True∧C7 P n base r (a++[.ops (U4 (base+a.length) (evE n e) op) (U3 (evE n e) op)]) K (Y6 e o.dst v) (m.app d)|none=>False):=by
     intro op l;cases s:stepD (base+a.length) (evE n e) m.get op with
     | none=>rw[s]at l; exact l
     | some z=>obtain ⟨v,d⟩:=z; rw[s]at l; exact⟨trivial,Zhs r _ _ _ k.2 (by rw[p]; exact l)⟩
    cases j:o.op with
    | call f xs=>
     simp only[j]at h;simp only;cases q:W4 n e f xs with
     | none=>rw[q]at h; exact h
     | some u=>
      obtain⟨g,args⟩:=u;rw[q]at h;simp only[clK]at h;obtain⟨v,d,w,y⟩:=h;exact⟨v,d,w,trivial,Zhs r _ _ _ k.2 (by rw[p]; exact y)⟩
    | _=>rw[j]at h; exact i _ h
end
def L1:List (Nat×FT)→Nat→Option FT
 | [],_=>none
 | (j,f) :: r,i=>if i=j then some f else L1 r i
def L5(fs:List (Nat×FT))(ft:FT):List Nat→Prop
 | []=>True
 | i :: r=>(match L1 fs i with
  | some f=>FT.indep f ft
  | none=>False)∧L5 fs ft r
def Zca:List AOper→List Nat
 | []=>[]
 | ⟨_,_,_,un⟩ :: r=>un++Zca r
def P3(keep:List Nat)(i:Nat)(f:FT)(fs:List (Nat×FT)):List (Nat×FT):=bif V8 i keep then (i,f) :: fs else fs
def J1(P:Program)(keep:List Nat)(n base:Nat):List AOper→Nat→List (Nat×FT)→(Env→SMem→Prop)→Env→SMem→Prop
 | [],_,_,K,e,m=>K e m
 | o :: r,i,fs,K,e,m=>match V4 n e o.guard with
  | some true=>(match o.op with
   | .call f xs=>(match W4 n e f xs with
    | some (g,args)=>DC P g args (base+i) (xOf base i r.length) m fun v d=>L5 fs (.call (ftW (base+i) d) (xOf base i r.length) m.next) o.un∧J1 P keep n base r (i+1) (P3 keep i (.call (ftW (base+i) d) (xOf base i r.length) m.next) fs) K (Y6 e o.dst v) (m.app (apD (base+i) d))
    | none=>False)
   | op=>(match stepD (base+i) (evE n e) m.get op with
    | some (v,d)=>L5 fs (.ops (U4 (base+i) (evE n e) op) (U3 (evE n e) op)) o.un∧J1 P keep n base r (i+1) (P3 keep i (.ops (U4 (base+i) (evE n e) op) (U3 (evE n e) op)) fs) K (Y6 e o.dst v) (m.app d)
    | none=>False))
  | some false=>J1 P keep n base r (i+1) (P3 keep i (.ops [] []) fs) K (Y6 e o.dst aundef) m
  | none=>False
theorem Zjx{b:List (Nat×FT)}{e:List FT}{d:FT}(g:∀ j f,L1 b j=some f→e.getD j (.ops [] [])=f):∀ {un:List Nat},L5 b d un→S6 e d un
 | [],_=>trivial
 | i :: r,h=>by
  refine⟨?_,Zjx g h.2⟩;have a:=h.1;cases c:L1 b i with
  | none=>rw[c]at a; exact a.elim
  | some f=>rw[c]at a; rw[g i f c]; exact a
theorem Znr{P:Program}{keep:List Nat}{n base:Nat}{K:Env→SMem→Prop}:∀ (t:List AOper) (l:List (Nat×FT)) (a:List FT) (e:Env) (m:SMem),
 (∀ j f,L1 l j=some f→a.getD j (.ops [] [])=f∧j<a.length)→J1 P keep n base t a.length l K e m→C7 P n base t a K e m
 | [],_,_,_,_,_,h=>h
 | o :: r,l,a,e,m,y,h=>by
  have q:∀ f:FT,(a++[f]).length=a.length+1:=fun f=>by simp
  have i:∀ f,∀ j g,L1 (P3 keep a.length f l) j=some g→(a++[f]).getD j (.ops [] [])=g∧j<(a++[f]).length:=by
   intro f j g c;have old:∀ j g,L1 l j=some g→(a++[f]).getD j (.ops [] [])=g∧j<(a++[f]).length:=fun j g u=>by
    obtain⟨w,F⟩:=y j g u;refine⟨?_,by rw[q]; omega⟩
    rw[List.getD_eq_getElem?_getD,List.getElem?_append_left F,← List.getD_eq_getElem?_getD];exact w
   unfold P3 at c;cases hm:V8 a.length keep with
   | false=>rw[hm]at c; exact old j g c
   | true=>
    rw[hm]at c;simp only[cond_true,L1]at c;split at c
    ·rename_i C;injection c with c
     subst c; subst C;refine⟨?_,by rw[q]; omega⟩
     rw[List.getD_eq_getElem?_getD,List.getElem?_append_right (Nat.le_refl _)];simp
    ·exact old j g c
  simp only[J1]at h;simp only[C7];cases B:V4 n e o.guard with
  | none=>rw[B]at h; exact h
  | some b=>
   rw[B]at h;cases b with
   | false=>exact Znr r _ _ _ _ (i _) (by rw[q]; exact h)
   | true=>
    simp only at h ⊢;have p:∀ op,(match stepD (base+a.length) (evE n e) m.get op with
     | some (v,d)=>L5 l (.ops (U4 (base+a.length) (evE n e) op) (U3 (evE n e) op)) o.un∧J1 P keep n base r (a.length+1) (P3 keep a.length (.ops (U4 (base+a.length) (evE n e) op) (U3 (evE n e) op)) l) K (Y6 e o.dst v) (m.app d)
     | none=>False) →
     (match stepD (base+a.length) (evE n e) m.get op with|some (v,d)=>S6 a (.ops (U4 (base+a.length) (evE n e) op) (U3 (evE n e) op)) o.un∧C7 P n base r (a++[.ops (U4 (base+a.length) (evE n e) op) (U3 (evE n e) op)]) K (Y6 e o.dst v) (m.app d)|none=>False):=by
     intro op k;cases A:stepD (base+a.length) (evE n e) m.get op with
     | none=>rw[A]at k; exact k
     | some G=>
      obtain⟨v,d⟩:=G;rw[A]at k;exact⟨Zjx (fun j f c=>(y j f c).1) k.1,Znr r _ _ _ _ (i _) (by rw[q]; exact k.2)⟩
    cases s:o.op with
    | call f xs=>
     simp only[s]at h;simp only;cases z:W4 n e f xs with
     | none=>rw[z]at h; exact h
     | some D=>
      obtain⟨g,args⟩:=D;rw[z]at h;obtain⟨v,d,u,E,w⟩:=h;exact⟨v,d,u,Zjx (fun j f c=>(y j f c).1) E,Znr r _ _ _ _ (i _) (by rw[q]; exact w)⟩
    | _=>(have k:=p o.op; rw[s]at h k; exact k h)
def H7:AOper→Bool
 | ⟨_,op,_,un⟩=>un.isEmpty&&match op with
  | .call _ _=>false
  | _=>true
def wpZ(P:Program)(n n0:Nat):ACode→(Exit→Env→SMem→Prop)→Env→SMem→Prop
 | .skip,Q,e,m=>Q .normal e m
 | .region false ops,Q,e,m=>V7 P false n m.next ops 0 (Q .normal) e (m.at (m.next+ops.length))
 | .region true ops,Q,e,m=>if ops.all H7=true then V7 P false n m.next ops 0 (Q .normal) e (m.at (m.next+ops.length))
  else if ops.all (fun o=>o.un.isEmpty)=true then V7 P true n m.next ops 0 (Q .normal) e (m.at (m.next+ops.length))
  else J1 P (Zca ops) n m.next ops 0 [] (Q .normal) e (m.at (m.next+ops.length))
 | .seq a b,Q,e,m=>wpZ P n n0 a (O1 (wpZ P n n0 b Q) Q) e m
 | .cond c a b,Q,e,m=>Zay (evE n e c) (wpZ P n n0 a Q e m) (wpZ P n n0 b Q e m)
 | .block id c,Q,e,m=>wpZ P n n0 c (J5 id Q) e m
 | .loop c,Q,e,m=>∃ (I:Nat→Env→SMem→Prop),(∃ k e0 m0,WkR n n0 e0 m0 e m∧I k e0 m0) ∧ ∀ k e1 m1,I k e1 m1→wpZ P n n0 c (O1 (fun e' m'=>∃ j e0 m0,j<k∧WkR n n0 e0 m0 e' m'∧I j e0 m0) Q) e1 m1
 | .exit id,Q,e,m=>Q (.exit id) e m
 | .scope c,Q,e,m=>wpZ P n n0 c Q e m
 | .label _,Q,e,m=>Q .normal e m
 | .ret,Q,e,m=>Q .ret e m
 | .bad,_,_,_=>False
section
variable {P:Program} {n n0:Nat}
theorem Zjy{base:Nat}{K K':Env→SMem→Prop}(b:∀ e m,K e m→K' e m):∀ (a:List AOper) (i:Nat) (e:Env) (m:SMem),K6 P n base a i K e m→K6 P n base a i K' e m
 | [],_,_,_,h=>b _ _ h
 | o :: r,i,e,m,h=>by
  simp only[K6]at h ⊢;split at h
  ·exact Zjy b r _ _ _ h
  ·split at h
   ·split at h
    ·exact h.mono fun v f c=>by obtain⟨d,e',c⟩:=c; exact⟨d,e',Zjy b r _ _ _ c⟩
    ·exact h
   ·split at h
    ·exact Zjy b r _ _ _ h
    ·exact h
  ·exact h
theorem Zl8{base:Nat}{K K':Env→SMem→Prop}(b:∀ e m,K e m→K' e m):∀ (a:List AOper) (c:List FT) (e:Env) (m:SMem),C7 P n base a c K e m→C7 P n base a c K' e m
 | [],_,_,_,h=>b _ _ h
 | o :: r,c,e,m,h=>by
  simp only[C7]at h ⊢;split at h
  ·exact Zl8 b r _ _ _ h
  ·split at h
   ·split at h
    ·obtain⟨v,d,f,g,i⟩:=h;exact⟨v,d,f,g,Zl8 b r _ _ _ i⟩
    ·exact h
   ·split at h
    ·exact⟨h.1,Zl8 b r _ _ _ h.2⟩
    ·exact h
  ·exact h
theorem Z65{c:ACode}:∀ {Q Q':Exit→Env→SMem→Prop} {e:Env} {m:SMem},wpT P n n0 c Q e m→(∀ x e m,Q x e m→Q' x e m)→wpT P n n0 c Q' e m:=by
 induction c with
 | skip=>exact fun h d=>d _ _ _ h
 | region j q=>
  intro Q Q' e m h d;cases j with
  | false=>exact Zjy (d .normal) q 0 e _ h
  | true=>exact Zl8 (d .normal) q [] e _ h
 | seq a b g i=>
  intro Q Q' e m h d;refine g h fun x e m f=>?_
  cases x<;>first|exact i f d|exact d _ _ _ f
 | cond c a b g i=>
  intro Q Q' e m h d;simp only[wpT]at h ⊢;split at h
  ·exact g h d
  ·exact i h d
  ·exact h
 | block id c p=>
  intro Q Q' e m h d;refine p h fun x e m f=>?_
  cases x<;>simp only[J5]at f ⊢ <;> first|exact d _ _ _ f|skip
  split at f
  ·rename_i o; rw[if_pos o]; exact d _ _ _ f
  ·rename_i o; rw[if_neg o]; exact d _ _ _ f
 | loop c p=>
  intro Q Q' e m h d;obtain⟨I,o,s⟩:=h;refine⟨I,o,fun k r u t=>p (s k r u t) fun x e m f=>?_⟩
  cases x<;>first|exact f|exact d _ _ _ f
 | exit id=>exact fun h d=>d _ _ _ h
 | scope c p=>exact fun h d=>p h d
 | label l=>exact fun h d=>d _ _ _ h
 | ret=>exact fun h d=>d _ _ _ h
 | bad=>exact fun h _=>h
variable {Q:Exit→Env→SMem→Prop} {e:Env} {m:SMem}
theorem Zb1:wpZ P n n0 .skip Q e m=Q .normal e m:=propext Iff.rfl
theorem Zcg(a:List AOper):wpZ P n n0 (.region false a) Q e m=V7 P false n m.next a 0 (Q .normal) e (m.at (m.next+a.length)):=propext Iff.rfl
theorem Zc7(a b:ACode):wpZ P n n0 (.seq a b) Q e m=wpZ P n n0 a (O1 (wpZ P n n0 b Q) Q) e m:=propext Iff.rfl
theorem Z3v(c:AOpd)(a b:ACode):wpZ P n n0 (.cond c a b) Q e m=Zay (evE n e c) (wpZ P n n0 a Q e m) (wpZ P n n0 b Q e m):=propext Iff.rfl
theorem Zd8(i:Nat)(c:ACode):wpZ P n n0 (.block i c) Q e m=wpZ P n n0 c (J5 i Q) e m:=propext Iff.rfl
theorem Zen(c:ACode):wpZ P n n0 (.scope c) Q e m=wpZ P n n0 c Q e m:=propext Iff.rfl
theorem Zbx(i:Nat):wpZ P n n0 (.exit i) Q e m=Q (.exit i) e m:=propext Iff.rfl
theorem Zcz:wpZ P n n0 .ret Q e m=Q .ret e m:=propext Iff.rfl
theorem Zb5(a:List AOper):wpZ P n n0 (.region true a) Q e m=if a.all H7=true then V7 P false n m.next a 0 (Q .normal) e (m.at (m.next+a.length))
 else if a.all (fun o=>o.un.isEmpty)=true then V7 P true n m.next a 0 (Q .normal) e (m.at (m.next+a.length))
 else J1 P (Zca a) n m.next a 0 [] (Q .normal) e (m.at (m.next+a.length)):=propext Iff.rfl
theorem Zk7{base:Nat}{K:Env→SMem→Prop}:∀ (a:List AOper) (i:Nat) (e:Env) (m:SMem),a.all H7=true→V7 P false n base a i K e m→V7 P true n base a i K e m
 | [],_,_,_,_,h=>h
 | ⟨dst,op,guard,un⟩ :: r,i,e,m,j,h=>by
  simp only[List.all_cons,bA]at j;simp only[V7]at h ⊢;cases l:V4 n e guard with
  | none=>rw[l]at h; exact h
  | some b=>
   rw[l]at h;cases b with
   | false=>exact Zk7 r _ _ _ j.2 h
   | true=>
    simp only[gdK]at h ⊢;have c:∀ op,stK (stepD (base+i) (evE n e) m.get op) (fun v d=>V7 P false n base r (i+1) K (Y6 e dst v) (m.app d))→stK (stepD (base+i) (evE n e) m.get op) (fun v d=>V7 P true n base r (i+1) K (Y6 e dst v) (m.app d)):=by
     intro op g;cases k:stepD (base+i) (evE n e) m.get op with
     | none=>rw[k]at g; exact g
     | some o=>obtain ⟨v,d⟩:=o; rw[k]at g; exact Zk7 r _ _ _ j.2 g
    cases op with
    | call f xs=>simp[H7]at j
    | _=>exact c _ h
theorem Zy4{a:List AOper}(h:a.all H7=true):a.all (fun o=>o.un.isEmpty)=true:=by
 rw[List.all_eq_true]at h ⊢;intro o b;have:=h o b;obtain⟨dst,op,guard,un⟩:=o;simp only[H7,bA]at this;exact this.1
theorem Zxt{c:ACode}:∀ {Q Q':Exit→Env→SMem→Prop} {e:Env} {m:SMem},wpZ P n n0 c Q e m→(∀ x e m,Q x e m→Q' x e m)→wpT P n n0 c Q' e m:=by
 induction c with
 | skip=>exact fun h d=>d _ _ _ h
 | region q i=>
  intro Q Q' e m h d;refine Z65 ?_ d;cases q with
  | false=>exact Zjr i 0 e _ h
  | true=>
   simp only[wpZ]at h;split at h
   ·rename_i t;exact Zhs i [] e _ (Zy4 t) (Zk7 i 0 _ _ t h)
   ·split at h
    ·rename_i t;exact Zhs i [] e _ t h
    ·exact Znr i [] [] e _ (fun j f z=>by simp[L1]at z) h
 | seq a b o p=>
  intro Q Q' e m h d;refine o h fun x e m g=>?_
  cases x<;>first|exact p g d|exact d _ _ _ g
 | cond c a b o p=>
  intro Q Q' e m h d;simp only[wpZ]at h;simp only[wpT];generalize evE n e c=v at h;cases v<;>first|exact h.elim|skip
  rename_i b;cases b
  ·exact p h d
  ·exact o h d
 | block id c s=>
  intro Q Q' e m h d;refine s h fun x e m g=>?_
  cases x<;>simp only[J5]at g ⊢ <;> first|exact d _ _ _ g|skip
  split at g
  ·rename_i r; rw[if_pos r]; exact d _ _ _ g
  ·rename_i r; rw[if_neg r]; exact d _ _ _ g
 | loop c s=>
  intro Q Q' e m h d;obtain⟨I,r,w⟩:=h;refine⟨I,r,fun k u A y=>s (w k u A y) fun x e m g=>?_⟩
  cases x<;>first|exact g|exact d _ _ _ g
 | exit id=>exact fun h d=>d _ _ _ h
 | scope c s=>exact fun h d=>s h d
 | label l=>exact fun h d=>d _ _ _ h
 | ret=>exact fun h d=>d _ _ _ h
 | bad=>exact fun h _=>h
theorem Zt0(hm:P.follows .mixedOrders=true){f:FuncId}{fn:Func}{a:AFn}{args:List AVal}{m:SMem}{K:AVal→SMem→Prop}(c:P.funcs[f]? = some fn)(b:cFn P fn=some a)(d:Nat.ble args.length a.ntmps=true)
 (h:wpZ P a.ntmps m.next a.body (M8 a.ntmps a.results (S4 m.next K)) (V2 0 args []) m):Ctr P f args m K:=
 Z2f hm c b d (Zxt h fun _ _ _ h=>h)
theorem Zuz{α:Type}{c:ACode}(E:α→Env)(M:α→SMem)(g:α→Nat)(b:α→Prop)(f:α)(q:WkR n n0 (E f) (M f) e m)(i:b f)
 (h:∀ a,b a → ∀ N:Env→SMem→Prop,(∀ d e m,g d<g a→b d→WkR n n0 (E d) (M d) e m→N e m)→wpZ P n n0 c (O1 N Q) (E a) (M a)):wpZ P n n0 (.loop c) Q e m:=by
 refine⟨fun k e m=>∃ a,k=g a∧b a∧e=E a∧m=M a,⟨g f,_,_,q,f,rfl,i,rfl,rfl⟩,?_⟩
 rintro k r s ⟨a,rfl,p,rfl,rfl⟩;exact h a p _ fun d e m j l o=>⟨g d,E d,M d,j,o,d,rfl,l,rfl,rfl⟩
theorem Q7{α:Type}{c:ACode}(E:α→Env)(M:α→SMem)(g:α→Nat)(b:α→Prop)(f:α)(l:List (Nat×Nat))(r:SubR n0 l (E f) (M f) e m)(i:b f)
 (h:∀ a,b a → ∀ N:Env→SMem→Prop,(∀ d l e m,g d<g a→b d→SubR n0 l (E d) (M d) e m→N e m)→wpZ P n n0 c (O1 N Q) (E a) (M a)):wpZ P n n0 (.loop c) Q e m:=
 Zuz E M g b f r.wk i fun a q N p=>h a q N fun d l e m j k o=>p d e m j k o.wk
@[congr] theorem Yic{n n0 : Nat}{c : ACode}{Q : Exit → Env → SMem → Prop}{e e' : Env}{m a : SMem}(h : e = e')(b : m = a) : wpZ P n n0 c Q e m = wpZ P n n0 c Q e' a := by rw [h, b]
end
end Go.AE
end
section
namespace Go.Known
open Go Go.AE Go.Proofs
abbrev GD(n:Nat)(a:AFn):Prop:=Go.AE.Good Tryz.prog (n,a)
theorem gG{n:Nat}{f:Func}{a:AFn}(h:Tryz.prog.funcs[n]? = some f)(c:cFn Tryz.prog f=some a)(b:(M0 a.ntmps a.body&&(Nat.ble a.ntmps bound&&Nat.ble (n+1) bound))=true):GD n a:=by
 simp only[bA]at b;exact⟨⟨_,h,c⟩,b.1,b.2.1,b.2.2⟩
abbrev oZ(d:Nat)(x:AOp):AOper:=⟨some d,x,none,[]⟩
abbrev pZ(x:AOp):AOper:=⟨none,x,none,[]⟩
abbrev gZ(d g:Nat)(b:Bool)(x:AOp):AOper:=⟨some d,x,some (g,b),[]⟩
abbrev tZ(i:Nat):AOpd:=.tmp i
abbrev kZ(n:Int):AOpd:=.const (.int .i64 n)
abbrev bZ(b:Bool):AOpd:=.const (.bool b)
abbrev mv(d s:Nat):AOper:=⟨some d,.mov (.tmp s),none,[]⟩
abbrev mk(d:Nat)(n:Int):AOper:=⟨some d,.mov (.const (.int .i64 n)),none,[]⟩
abbrev mtZ(d:Nat):AOper:=⟨some d,.mov (.const (.bool true)),none,[]⟩
abbrev mfZ(d:Nat):AOper:=⟨some d,.mov (.const (.bool false)),none,[]⟩
abbrev mnZ(d:Nat):AOper:=⟨some d,.mov (.const .nilSl),none,[]⟩
abbrev lo(d s:Nat):AOper:=⟨some d,.load none (.tmp s),none,[]⟩
abbrev lw(d n s:Nat):AOper:=⟨some d,.load (some n) (.tmp s),none,[]⟩
abbrev fa(d o s:Nat):AOper:=⟨some d,.fieldA o (.tmp s),none,[]⟩
abbrev so(n a x:Nat):AOper:=⟨none,.store n (.tmp a) (.tmp x),none,[]⟩
abbrev ix(d k a i:Nat):AOper:=⟨some d,.idxA k (.tmp a) (.tmp i),none,[]⟩
abbrev le(d s:Nat):AOper:=⟨some d,.lenSl (.tmp s),none,[]⟩
abbrev nc(d s:Nat):AOper:=⟨some d,.nilChk (.tmp s),none,[]⟩
abbrev ex(d s i:Nat):AOper:=⟨some d,.ext (.tmp s) i,none,[]⟩
abbrev bo(d s:Nat):AOper:=⟨some d,.box (.tmp s),none,[]⟩
abbrev no(d s:Nat):AOper:=⟨some d,.un .not (.tmp s),none,[]⟩
abbrev pk1(d c s:Nat):AOper:=⟨some d,.pick (.tmp c) (.const (.bool true)) (.tmp s),none,[]⟩
abbrev pk0(d c s:Nat):AOper:=⟨some d,.pick (.tmp c) (.tmp s) (.const (.bool false)),none,[]⟩
abbrev ca1(d:Nat)(f:FuncId)(x:Nat):AOper:=⟨some d,.call (.fn f) [.tmp x],none,[]⟩
abbrev ca2(d:Nat)(f:FuncId)(x y:Nat):AOper:=⟨some d,.call (.fn f) [.tmp x,.tmp y],none,[]⟩
abbrev ca3(d:Nat)(f:FuncId)(x y z:Nat):AOper:=⟨some d,.call (.fn f) [.tmp x,.tmp y,.tmp z],none,[]⟩
abbrev aD(d x y:Nat):AOper:=⟨some d,.bin .add .num (.tmp x) (.tmp y),none,[]⟩
abbrev aDk(d x:Nat)(n:Int):AOper:=⟨some d,.bin .add .num (.tmp x) (.const (.int .i64 n)),none,[]⟩
abbrev aS(d x y:Nat):AOper:=⟨some d,.bin .sub .num (.tmp x) (.tmp y),none,[]⟩
abbrev aSk(d x:Nat)(n:Int):AOper:=⟨some d,.bin .sub .num (.tmp x) (.const (.int .i64 n)),none,[]⟩
abbrev aM(d x y:Nat):AOper:=⟨some d,.bin .mul .num (.tmp x) (.tmp y),none,[]⟩
abbrev aMk(d x:Nat)(n:Int):AOper:=⟨some d,.bin .mul .num (.tmp x) (.const (.int .i64 n)),none,[]⟩
abbrev aQk(d x:Nat)(n:Int):AOper:=⟨some d,.bin .quo .num (.tmp x) (.const (.int .i64 n)),none,[]⟩
abbrev aR(d x y:Nat):AOper:=⟨some d,.bin .rem .num (.tmp x) (.tmp y),none,[]⟩
abbrev aRk(d x:Nat)(n:Int):AOper:=⟨some d,.bin .rem .num (.tmp x) (.const (.int .i64 n)),none,[]⟩
abbrev cE(d x y:Nat):AOper:=⟨some d,.bin .eql .num (.tmp x) (.tmp y),none,[]⟩
abbrev cEk(d x:Nat)(n:Int):AOper:=⟨some d,.bin .eql .num (.tmp x) (.const (.int .i64 n)),none,[]⟩
abbrev cN(d x y:Nat):AOper:=⟨some d,.bin .neq .num (.tmp x) (.tmp y),none,[]⟩
abbrev cNk(d x:Nat)(n:Int):AOper:=⟨some d,.bin .neq .num (.tmp x) (.const (.int .i64 n)),none,[]⟩
abbrev cL(d x y:Nat):AOper:=⟨some d,.bin .lss .num (.tmp x) (.tmp y),none,[]⟩
abbrev cLk(d x:Nat)(n:Int):AOper:=⟨some d,.bin .lss .num (.tmp x) (.const (.int .i64 n)),none,[]⟩
abbrev cK(d x y:Nat):AOper:=⟨some d,.bin .leq .num (.tmp x) (.tmp y),none,[]⟩
abbrev cKk(d x:Nat)(n:Int):AOper:=⟨some d,.bin .leq .num (.tmp x) (.const (.int .i64 n)),none,[]⟩
abbrev cG(d x y:Nat):AOper:=⟨some d,.bin .gtr .num (.tmp x) (.tmp y),none,[]⟩
abbrev cGk(d x:Nat)(n:Int):AOper:=⟨some d,.bin .gtr .num (.tmp x) (.const (.int .i64 n)),none,[]⟩
abbrev cH(d x y:Nat):AOper:=⟨some d,.bin .geq .num (.tmp x) (.tmp y),none,[]⟩
abbrev cHk(d x:Nat)(n:Int):AOper:=⟨some d,.bin .geq .num (.tmp x) (.const (.int .i64 n)),none,[]⟩
abbrev gtl(d g s:Nat):AOper:=⟨some d,.load none (.tmp s),some (g,true),[]⟩
abbrev gtf(d g o s:Nat):AOper:=⟨some d,.fieldA o (.tmp s),some (g,true),[]⟩
abbrev gtm(d g s:Nat):AOper:=⟨some d,.mov (.tmp s),some (g,true),[]⟩
abbrev gfl(d g s:Nat):AOper:=⟨some d,.load none (.tmp s),some (g,false),[]⟩
abbrev gff(d g o s:Nat):AOper:=⟨some d,.fieldA o (.tmp s),some (g,false),[]⟩
abbrev gfm(d g s:Nat):AOper:=⟨some d,.mov (.tmp s),some (g,false),[]⟩
abbrev rf(l:List AOper):ACode:=.region false l
abbrev sr(l:List AOper)(c:ACode):ACode:=.seq (.region false l) c
theorem rQ(f:Func):cFn Tryz.prog f=cFn Tryz.prog f:=rfl
def oR{a b:Option AFn}(_:a=b):AFn:=match b with
 | some f=>f
 | none=>⟨0,[],.skip⟩
abbrev iV(n:Int):AVal:=.int .i64 n
abbrev bV(b:Bool):AVal:=.bool b
end Go.Known
end
section
namespace Go.Proofs
open Go.Shelf
def Tryz.lays156_ren:Go.Shelf.Ren:=⟨fun|156=>43 | 165=>75 | 166=>76 | 169=>77 | 240=>117 | 241=>118 | 276=>153 | 277=>154 | n=>n,fun|31=>42 | 9=>9 | 3=>3 | 4=>4 | 0=>0 | 20=>20 | 72=>142 | 76=>146 | 70=>139 | 37=>140 | 75=>145 | 127=>186 | 164=>215 | 5=>5 | 80=>148 | n=>n,fun|n=>n⟩
theorem Tryz.lays156:Go.Proofs.Lays.n156 Tryz.prog Tryz.lays156_ren:={
 mixed:=by kernel_rfl
 f156:=Tryz.func43.trans (congrArg some (by kernel_rfl))
 f165:=Tryz.func75.trans (congrArg some (by kernel_rfl))
 f166:=Tryz.func76.trans (congrArg some (by kernel_rfl))
 f169:=Tryz.func77.trans (congrArg some (by kernel_rfl))
 f240:=Tryz.func117.trans (congrArg some (by kernel_rfl))
 f241:=Tryz.func118.trans (congrArg some (by kernel_rfl))
 f276:=Tryz.func153.trans (congrArg some (by kernel_rfl))
 f277:=Tryz.func154.trans (congrArg some (by kernel_rfl))
 t0:=Tryz.underlying0
 a0:=Tryz.isAgg0
 z0:=Tryz.sizeOf0
 v0:=Tryz.zeroValue0
 t3:=Tryz.underlying3
 a3:=Tryz.isAgg3
 z3:=Tryz.sizeOf3
 v3:=Tryz.zeroValue3
 t4:=Tryz.underlying4
 a4:=Tryz.isAgg4
 z4:=Tryz.sizeOf4
 v4:=Tryz.zeroValue4
 t9:=Tryz.underlying9
 a9:=Tryz.isAgg9
 z9:=Tryz.sizeOf9
 v9:=Tryz.zeroValue9
 t20:=Tryz.underlying20
 a20:=Tryz.isAgg20
 z20:=Tryz.sizeOf20
 v20:=Tryz.zeroValue20
 t31:=Tryz.underlying42
 a31:=Tryz.isAgg42
 z31:=Tryz.sizeOf42
 v31:=Tryz.zeroValue42
 t37:=Tryz.underlying140
 a37:=Tryz.isAgg140
 z37:=Tryz.sizeOf140
 v37:=Tryz.zeroValue140
 t70:=Tryz.underlying139
 a70:=Tryz.isAgg139
 z70:=Tryz.sizeOf139
 v70:=Tryz.zeroValue139
 t72:=Tryz.underlying142
 a72:=Tryz.isAgg142
 z72:=Tryz.sizeOf142
 v72:=Tryz.zeroValue142
 t75:=Tryz.underlying145
 a75:=Tryz.isAgg145
 z75:=Tryz.sizeOf145
 v75:=Tryz.zeroValue145
 t76:=Tryz.underlying146
 a76:=Tryz.isAgg146
 z76:=Tryz.sizeOf146
 v76:=Tryz.zeroValue146
 t127:=Tryz.underlying186
 a127:=Tryz.isAgg186
 z127:=Tryz.sizeOf186
 v127:=Tryz.zeroValue186
 t164:=Tryz.underlying215
 a164:=Tryz.isAgg215
 z164:=Tryz.sizeOf215
 v164:=Tryz.zeroValue215 }
theorem Tryz.Builder_Extra_156:Builder.Extra Tryz.prog Tryz.lays156_ren:={
 sizeBuilder:=by kernel_rfl
 liesBuilder:=by kernel_rfl
 t5:=Tryz.underlying5
 a5:=Tryz.isAgg5
 z5:=Tryz.sizeOf5
 v5:=Tryz.zeroValue5
 infoByte:=by kernel_rfl
 cellsByte:=by kernel_rfl
 sizeByte:=by kernel_rfl
 neB5:=by decide }
open Go.RowKit in
theorem Tryz.strings_Join(bk o c:Nat)(xs:List ByteArray)(b:ByteArray)(w:World)(a:∀ (j:Nat) x,xs[j]? = some x→w.cell? ⟨bk,o+j,none⟩=some (.string x))(h:bk<w.heap.size)(i:xs.length≤140737488355328)(d:xs.length≤c)(g:(Lib.join (xs.map (·.data.toList)) b.data.toList).length≤140737488355328) :
 Calls Tryz.prog 43 #[.slice (some ⟨bk,o,none⟩) xs.length c,.string b] w fun e w'=>e=.returned (.string ⟨(Lib.join (xs.map (·.data.toList)) b.data.toList).toArray⟩)∧Below w.heap.size w w':=Any.strings_Join Tryz.lays156 Tryz.Builder_Extra_156 bk o c xs b w a h i d g
end Go.Proofs
end
