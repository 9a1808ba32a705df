/- Part 10 of the proof: AeNd, Ka, Shelf. -/
import Derived.Test.YtilmpmlkndfbjaaGreatDoorR9
import Derived.Test.YtilmpmlkndfbjaaGreatDoorProg
import Derived.Shelf.Strings.Builder1
import Derived.Shelf.Strings.Builder2
import Derived.Shelf.Strings.OnBuilder
set_option linter.all false
section
namespace Go.AE
open Go.RowKit
section
variable {q:EqT} {k:IntKind} {a b:Int} {x y:Bool}
theorem Zc6:W7 .add q (.int k a) (.int k b)=some (.int k (k.wrap (a+b))):=by simp[W7,V6]
theorem Zbi:W7 .sub q (.int k a) (.int k b)=some (.int k (k.wrap (a - b))):=by simp[W7,V6]
theorem Zbo:W7 .mul q (.int k a) (.int k b)=some (.int k (k.wrap (a*b))):=by simp[W7,V6]
theorem Zbc:W7 .quo q (.int k a) (.int k b)=if b=0 then none else some (.int k (k.wrap (a.tdiv b))):=by simp[W7,V6]
theorem Zda:W7 .rem q (.int k a) (.int k b)=if b=0 then none else some (.int k (a.tmod b)):=by simp[W7,V6]
theorem Zcx:W7 .eql q (.int k a) (.int k b)=some (.bool (decide (a=b))):=by simp[W7,V6]
theorem Zdp:W7 .neq q (.int k a) (.int k b)=some (.bool (!decide (a=b))):=by simp[W7,V6]
theorem Zcz:W7 .lss q (.int k a) (.int k b)=some (.bool (decide (a<b))):=by simp[W7,V6]
theorem Zbw:W7 .leq q (.int k a) (.int k b)=some (.bool (decide (a≤b))):=by simp[W7,V6]
theorem Zc3:W7 .gtr q (.int k a) (.int k b)=some (.bool (decide (b<a))):=by simp[W7,V6]
theorem Zdm:W7 .geq q (.int k a) (.int k b)=some (.bool (decide (b≤a))):=by simp[W7,V6]
theorem Zc9:W7 .eql .bool (.bool x) (.bool y)=some (.bool (x == y)):=by simp[W7,eqA]
theorem Zdv:W7 .neq .bool (.bool x) (.bool y)=some (.bool (!(x == y))):=by simp[W7,eqA]
end
section
variable {n base i:Nat} {P:Program} {K:Env→SMem→Prop} {e:Env} {m:SMem}
def gdK(w:Option Bool)(A B:Prop):Prop:=
 match w with
 | some true=>A
 | some false=>B
 | none=>False
@[congr] theorem Yd6{w w' : Option Bool}{A B : Prop}(h : w = w') : gdK w A B = gdK w' A B := by rw [h]
def stK(r:Option (AVal×List (Nat×Option ABlk)))(K:AVal→List (Nat×Option ABlk)→Prop):Prop:=
 match r with
 | some (v,d)=>K v d
 | none=>False
theorem Zeu{v:AVal}{d:List (Nat×Option ABlk)}{K:AVal→List (Nat×Option ABlk)→Prop}:stK (some (v,d)) K=K v d:=propext Iff.rfl
@[congr] theorem Yem{r a : Option (AVal × List (Nat × Option ABlk))}{K : AVal → List (Nat × Option ABlk) → Prop}(h : r = a) : stK r K = stK a K := by rw [h]
def clK(c:Option (FuncId×List AVal))(K:FuncId→List AVal→Prop):Prop:=
 match c with
 | some (g,args)=>K g args
 | none=>False
@[congr] theorem Yee{c c' : Option (FuncId × List AVal)}{K : FuncId → List AVal → Prop}(h : c = c') : clK c K = clK c' K := by rw [h]
def DC(P:Program)(g:FuncId)(args:List AVal)(n:Nat)(x:List Nat)(m:SMem)(K:AVal→Option ABlk→Prop):Prop:=∃ v d,Zp7 P g args v d n x m.mem∧K v d
theorem A6{g:FuncId}{args:List AVal}{v:AVal}{n:Nat}{x:List Nat}{m:SMem}{K:AVal→Option ABlk→Prop}(h:PCall P g args v)(a:K v none):DC P g args n x m K:=⟨v,none,h.x _ _ _,a⟩
@[congr] theorem Yev{g : FuncId}{args args' : List AVal}{n b : Nat}{x : List Nat}{m a : SMem}{K : AVal → Option ABlk → Prop}(h : id args = args')(c : n = b)(hm : m = a) : DC P g args n x m K = DC P g args' b x a K := by cases h; cases c; cases hm; rfl
def U3(P:Program)(dc:Bool)(n base:Nat):List AOper→Nat→(Env→SMem→Prop)→Env→SMem→Prop
 | [],_,K,e,m=>K e m
 | o :: r,i,K,e,m=>gdK (U0 n e o.guard)
  (match o.op with
  | .call f xs=>clK (W8 n e f xs) fun g args=>match dc with
   | false=>SC P g args m (base+i) fun v m'=>U3 P dc n base r (i+1) K (Y3 e o.dst v) m'
   | true=>DC P g args (base+i) (xOf base i r.length) m fun v d=>U3 P dc n base r (i+1) K (Y3 e o.dst v) (m.app (apD (base+i) d))
  | op=>stK (stepD (base+i) (evE n e) m.get op) fun v d=>U3 P dc n base r (i+1) K (Y3 e o.dst v) (m.app d))
  (U3 P dc n base r (i+1) K (Y3 e o.dst aundef) m)
@[congr] theorem Yd8{c : Bool}{n base a i d : Nat}{b : List AOper}{K : Env → SMem → Prop}{e e' : Env}{m f : SMem}(j : base = a)(hi : i = d)(h : e = e')(g : m = f) : U3 P c n base b i K e m = U3 P c n a b d K e' f := by rw [j, hi, h, g]
theorem Znj:∀ (k:List AOper) (i:Nat) (e:Env) (m:SMem),U3 P false n base k i K e m→J4 P n base k i K e m
 | [],_,_,_,h=>h
 | o :: r,i,e,m,h=>by
  simp only[U3]at h;simp only[J4];cases q:U0 n e o.guard with
  | none=>rw[q]at h; exact h
  | some b=>
   rw[q]at h;cases b with
   | false=>exact Znj r _ _ _ h
   | true=>
    simp only[gdK]at h;simp only;have a:∀ op,stK (stepD (base+i) (evE n e) m.get op) (fun v d=>U3 P false n base r (i+1) K (Y3 e o.dst v) (m.app d)) →
     (match stepD (base+i) (evE n e) m.get op with|some (v,d)=>J4 P n base r (i+1) K (Y3 e o.dst v) (m.app d)|none=>False):=by
     intro op c;cases p:stepD (base+i) (evE n e) m.get op with
     | none=>rw[p]at c; exact c
     | some y=>obtain ⟨v,d⟩:=y; rw[p]at c; exact Znj r _ _ _ c
    cases j:o.op with
    | call f z=>
     simp only[j]at h;simp only;cases l:W8 n e f z with
     | none=>rw[l]at h; exact h
     | some s=>
      obtain⟨g,args⟩:=s;rw[l]at h;simp only[clK]at h;exact h.mono fun v w c=>by obtain⟨u,e',t⟩:=c; exact⟨u,e',Znj r _ _ _ t⟩
    | _=>rw[j]at h; exact a _ h
theorem Zja:∀ (c:List AOper) (a:List FT) (e:Env) (m:SMem),c.all (fun o=>o.un.isEmpty)=true→U3 P true n base c a.length K e m→C5 P n base c a K e m
 | [],_,_,_,_,h=>h
 | o :: r,a,e,m,k,h=>by
  simp only[List.all_cons,bA,List.isEmpty_iff]at k;have p:∀ f:FT,(a++[f]).length=a.length+1:=fun f=>by simp
  simp only[U3]at h;simp only[C5];cases t:U0 n e o.guard with
  | none=>rw[t]at h; exact h
  | some b=>
   rw[t]at h;cases b with
   | false=>exact Zja r _ _ _ k.2 (by rw[p]; exact h)
   | true=>
    simp only[gdK]at h;simp only[k.1,S7];have i:∀ op,stK (stepD (base+a.length) (evE n e) m.get op) (fun v d=>U3 P true n base r (a.length+1) K (Y3 e o.dst v) (m.app d)) →
     (match stepD (base+a.length) (evE n e) m.get op with|some (v,d)=>True∧C5 P n base r (a++[.ops (V7 (base+a.length) (evE n e) op) (V8 (evE n e) op)]) K (Y3 e o.dst v) (m.app d)|none=>False):=by
     intro op l;cases s:stepD (base+a.length) (evE n e) m.get op with
     | none=>rw[s]at l; exact l
     | some z=>obtain ⟨v,d⟩:=z; rw[s]at l; exact⟨trivial,Zja r _ _ _ k.2 (by rw[p]; exact l)⟩
    cases j:o.op with
    | call f A=>
     simp only[j]at h;simp only;cases q:W8 n e f A with
     | none=>rw[q]at h; exact h
     | some u=>
      obtain⟨g,args⟩:=u;rw[q]at h;simp only[clK]at h;obtain⟨v,d,w,y⟩:=h;exact⟨v,d,w,trivial,Zja r _ _ _ k.2 (by rw[p]; exact y)⟩
    | _=>rw[j]at h; exact i _ h
end
def L3:List (Nat×FT)→Nat→Option FT
 | [],_=>none
 | (j,f) :: r,i=>if i=j then some f else L3 r i
def L8(fs:List (Nat×FT))(ft:FT):List Nat→Prop
 | []=>True
 | i :: r=>(match L3 fs i with
  | some f=>FT.indep f ft
  | none=>False)∧L8 fs ft r
def Zdl:List AOper→List Nat
 | []=>[]
 | ⟨_,_,_,un⟩ :: r=>un++Zdl r
def P5(keep:List Nat)(i:Nat)(f:FT)(fs:List (Nat×FT)):List (Nat×FT):=bif Y8 i keep then (i,f) :: fs else fs
def J9(P:Program)(keep:List Nat)(n base:Nat):List AOper→Nat→List (Nat×FT)→(Env→SMem→Prop)→Env→SMem→Prop
 | [],_,_,K,e,m=>K e m
 | o :: r,i,fs,K,e,m=>match U0 n e o.guard with
  | some true=>(match o.op with
   | .call f xs=>(match W8 n e f xs with
    | some (g,args)=>DC P g args (base+i) (xOf base i r.length) m fun v d=>L8 fs (.call (ftW (base+i) d) (xOf base i r.length) m.next) o.un∧J9 P keep n base r (i+1) (P5 keep i (.call (ftW (base+i) d) (xOf base i r.length) m.next) fs) K (Y3 e o.dst v) (m.app (apD (base+i) d))
    | none=>False)
   | op=>(match stepD (base+i) (evE n e) m.get op with
    | some (v,d)=>L8 fs (.ops (V7 (base+i) (evE n e) op) (V8 (evE n e) op)) o.un∧J9 P keep n base r (i+1) (P5 keep i (.ops (V7 (base+i) (evE n e) op) (V8 (evE n e) op)) fs) K (Y3 e o.dst v) (m.app d)
    | none=>False))
  | some false=>J9 P keep n base r (i+1) (P5 keep i (.ops [] []) fs) K (Y3 e o.dst aundef) m
  | none=>False
theorem Zkg{b:List (Nat×FT)}{gs:List FT}{d:FT}(e:∀ j f,L3 b j=some f→gs.getD j (.ops [] [])=f):∀ {un:List Nat},L8 b d un→S7 gs d un
 | [],_=>trivial
 | i :: r,h=>by
  refine⟨?_,Zkg e h.2⟩;have a:=h.1;cases c:L3 b i with
  | none=>rw[c]at a; exact a.elim
  | some f=>rw[c]at a; rw[e i f c]; exact a
theorem Zni{P:Program}{keep:List Nat}{n base:Nat}{K:Env→SMem→Prop}:∀ (s:List AOper) (k:List (Nat×FT)) (gs:List FT) (e:Env) (m:SMem),
 (∀ j f,L3 k j=some f→gs.getD j (.ops [] [])=f∧j<gs.length)→J9 P keep n base s gs.length k K e m→C5 P n base s gs K e m
 | [],_,_,_,_,_,h=>h
 | o :: r,k,gs,e,m,w,h=>by
  have p:∀ f:FT,(gs++[f]).length=gs.length+1:=fun f=>by simp
  have c:∀ f,∀ j g,L3 (P5 keep gs.length f k) j=some g→(gs++[f]).getD j (.ops [] [])=g∧j<(gs++[f]).length:=by
   intro f j g a;have old:∀ j g,L3 k j=some g→(gs++[f]).getD j (.ops [] [])=g∧j<(gs++[f]).length:=fun j g t=>by
    obtain⟨u,E⟩:=w j g t;refine⟨?_,by rw[p]; omega⟩
    rw[List.getD_eq_getElem?_getD,List.getElem?_append_left E,← List.getD_eq_getElem?_getD];exact u
   unfold P5 at a;cases hm:Y8 gs.length keep with
   | false=>rw[hm]at a; exact old j g a
   | true=>
    rw[hm]at a;simp only[cond_true,L3]at a;split at a
    ·rename_i B;injection a with a
     subst a; subst B;refine⟨?_,by rw[p]; omega⟩
     rw[List.getD_eq_getElem?_getD,List.getElem?_append_right (Nat.le_refl _)];simp
    ·exact old j g a
  simp only[J9]at h;simp only[C5];cases A:U0 n e o.guard with
  | none=>rw[A]at h; exact h
  | some b=>
   rw[A]at h;cases b with
   | false=>exact Zni r _ _ _ _ (c _) (by rw[p]; exact h)
   | true=>
    simp only at h ⊢;have l:∀ op,(match stepD (base+gs.length) (evE n e) m.get op with
     | some (v,d)=>L8 k (.ops (V7 (base+gs.length) (evE n e) op) (V8 (evE n e) op)) o.un∧J9 P keep n base r (gs.length+1) (P5 keep gs.length (.ops (V7 (base+gs.length) (evE n e) op) (V8 (evE n e) op)) k) K (Y3 e o.dst v) (m.app d)
     | none=>False) →
     (match stepD (base+gs.length) (evE n e) m.get op with|some (v,d)=>S7 gs (.ops (V7 (base+gs.length) (evE n e) op) (V8 (evE n e) op)) o.un∧C5 P n base r (gs++[.ops (V7 (base+gs.length) (evE n e) op) (V8 (evE n e) op)]) K (Y3 e o.dst v) (m.app d)|none=>False):=by
     intro op i;cases z:stepD (base+gs.length) (evE n e) m.get op with
     | none=>rw[z]at i; exact i
     | some F=>
      obtain⟨v,d⟩:=F;rw[z]at i;exact⟨Zkg (fun j f a=>(w j f a).1) i.1,Zni r _ _ _ _ (c _) (by rw[p]; exact i.2)⟩
    cases q:o.op with
    | call f G=>
     simp only[q]at h;simp only;cases y:W8 n e f G with
     | none=>rw[y]at h; exact h
     | some C=>
      obtain⟨g,args⟩:=C;rw[y]at h;obtain⟨v,d,t,D,u⟩:=h;exact⟨v,d,t,Zkg (fun j f a=>(w j f a).1) D,Zni r _ _ _ _ (c _) (by rw[p]; exact u)⟩
    | _=>(have i:=l o.op; rw[q]at h i; exact i h)
def F4:AOper→Bool
 | ⟨_,op,_,un⟩=>un.isEmpty&&match op with
  | .call _ _=>false
  | _=>true
def wpZ(P:Program)(n n0:Nat):ACode→(Exit→Env→SMem→Prop)→Env→SMem→Prop
 | .skip,Q,e,m=>Q .normal e m
 | .region false ops,Q,e,m=>U3 P false n m.next ops 0 (Q .normal) e (m.at (m.next+ops.length))
 | .region true ops,Q,e,m=>if ops.all F4=true then U3 P false n m.next ops 0 (Q .normal) e (m.at (m.next+ops.length))
  else if ops.all (fun o=>o.un.isEmpty)=true then U3 P true n m.next ops 0 (Q .normal) e (m.at (m.next+ops.length))
  else J9 P (Zdl ops) n m.next ops 0 [] (Q .normal) e (m.at (m.next+ops.length))
 | .seq a b,Q,e,m=>wpZ P n n0 a (M2 (wpZ P n n0 b Q) Q) e m
 | .cond c a b,Q,e,m=>Zew (evE n e c) (wpZ P n n0 a Q e m) (wpZ P n n0 b Q e m)
 | .block id c,Q,e,m=>wpZ P n n0 c (G3 id Q) e m
 | .loop c,Q,e,m=>∃ (I:Nat→Env→SMem→Prop),(∃ k e0 m0,WkR n n0 e0 m0 e m∧I k e0 m0) ∧ ∀ k e1 m1,I k e1 m1→wpZ P n n0 c (M2 (fun e' m'=>∃ j e0 m0,j<k∧WkR n n0 e0 m0 e' m'∧I j e0 m0) Q) e1 m1
 | .exit id,Q,e,m=>Q (.exit id) e m
 | .scope c,Q,e,m=>wpZ P n n0 c Q e m
 | .label _,Q,e,m=>Q .normal e m
 | .ret,Q,e,m=>Q .ret e m
 | .bad,_,_,_=>False
section
variable {P:Program} {n n0:Nat}
theorem Zk2{base:Nat}{K d:Env→SMem→Prop}(b:∀ e m,K e m→d e m):∀ (a:List AOper) (i:Nat) (e:Env) (m:SMem),J4 P n base a i K e m→J4 P n base a i d e m
 | [],_,_,_,h=>b _ _ h
 | o :: r,i,e,m,h=>by
  simp only[J4]at h ⊢;split at h
  ·exact Zk2 b r _ _ _ h
  ·split at h
   ·split at h
    ·exact h.mono fun v g c=>by obtain⟨f,e',c⟩:=c; exact⟨f,e',Zk2 b r _ _ _ c⟩
    ·exact h
   ·split at h
    ·exact Zk2 b r _ _ _ h
    ·exact h
  ·exact h
theorem Zl0{base:Nat}{K f:Env→SMem→Prop}(b:∀ e m,K e m→f e m):∀ (a:List AOper) (c:List FT) (e:Env) (m:SMem),C5 P n base a c K e m→C5 P n base a c f e m
 | [],_,_,_,h=>b _ _ h
 | o :: r,c,e,m,h=>by
  simp only[C5]at h ⊢;split at h
  ·exact Zl0 b r _ _ _ h
  ·split at h
   ·split at h
    ·obtain⟨v,d,g,i,j⟩:=h;exact⟨v,d,g,i,Zl0 b r _ _ _ j⟩
    ·exact h
   ·split at h
    ·exact⟨h.1,Zl0 b r _ _ _ h.2⟩
    ·exact h
  ·exact h
theorem Ybz{c:ACode}:∀ {Q g:Exit→Env→SMem→Prop} {e:Env} {m:SMem},wpT P n n0 c Q e m→(∀ x e m,Q x e m→g x e m)→wpT P n n0 c g e m:=by
 induction c with
 | skip=>exact fun h d=>d _ _ _ h
 | region o r=>
  intro Q g e m h d;cases o with
  | false=>exact Zk2 (d .normal) r 0 e _ h
  | true=>exact Zl0 (d .normal) r [] e _ h
 | seq a b i j=>
  intro Q g e m h d;refine i h fun x e m f=>?_
  cases x<;>first|exact j f d|exact d _ _ _ f
 | cond c a b i j=>
  intro Q g e m h d;simp only[wpT]at h ⊢;split at h
  ·exact i h d
  ·exact j h d
  ·exact h
 | block id c q=>
  intro Q g e m h d;refine q h fun x e m f=>?_
  cases x<;>simp only[G3]at f ⊢ <;> first|exact d _ _ _ f|skip
  split at f
  ·rename_i p; rw[if_pos p]; exact d _ _ _ f
  ·rename_i p; rw[if_neg p]; exact d _ _ _ f
 | loop c q=>
  intro Q g e m h d;obtain⟨I,p,t⟩:=h;refine⟨I,p,fun k s v u=>q (t k s v u) fun x e m f=>?_⟩
  cases x<;>first|exact f|exact d _ _ _ f
 | exit id=>exact fun h d=>d _ _ _ h
 | scope c q=>exact fun h d=>q h d
 | label l=>exact fun h d=>d _ _ _ h
 | ret=>exact fun h d=>d _ _ _ h
 | bad=>exact fun h _=>h
variable {Q:Exit→Env→SMem→Prop} {e:Env} {m:SMem}
theorem Zdk:wpZ P n n0 .skip Q e m=Q .normal e m:=propext Iff.rfl
theorem Zcv(a:List AOper):wpZ P n n0 (.region false a) Q e m=U3 P false n m.next a 0 (Q .normal) e (m.at (m.next+a.length)):=propext Iff.rfl
theorem Zdb(a b:ACode):wpZ P n n0 (.seq a b) Q e m=wpZ P n n0 a (M2 (wpZ P n n0 b Q) Q) e m:=propext Iff.rfl
theorem Zzr(c:AOpd)(a b:ACode):wpZ P n n0 (.cond c a b) Q e m=Zew (evE n e c) (wpZ P n n0 a Q e m) (wpZ P n n0 b Q e m):=propext Iff.rfl
theorem Zdz(i:Nat)(c:ACode):wpZ P n n0 (.block i c) Q e m=wpZ P n n0 c (G3 i Q) e m:=propext Iff.rfl
theorem Zcb(c:ACode):wpZ P n n0 (.scope c) Q e m=wpZ P n n0 c Q e m:=propext Iff.rfl
theorem Zcm(i:Nat):wpZ P n n0 (.exit i) Q e m=Q (.exit i) e m:=propext Iff.rfl
theorem Zc7:wpZ P n n0 .ret Q e m=Q .ret e m:=propext Iff.rfl
theorem Zbn(a:List AOper):wpZ P n n0 (.region true a) Q e m=if a.all F4=true then U3 P false n m.next a 0 (Q .normal) e (m.at (m.next+a.length))
 else if a.all (fun o=>o.un.isEmpty)=true then U3 P true n m.next a 0 (Q .normal) e (m.at (m.next+a.length))
 else J9 P (Zdl a) n m.next a 0 [] (Q .normal) e (m.at (m.next+a.length)):=propext Iff.rfl
theorem Zrh{base:Nat}{K:Env→SMem→Prop}:∀ (a:List AOper) (i:Nat) (e:Env) (m:SMem),a.all F4=true→U3 P false n base a i K e m→U3 P true n base a i K e m
 | [],_,_,_,_,h=>h
 | ⟨dst,op,guard,un⟩ :: r,i,e,m,j,h=>by
  simp only[List.all_cons,bA]at j;simp only[U3]at h ⊢;cases l:U0 n e guard with
  | none=>rw[l]at h; exact h
  | some b=>
   rw[l]at h;cases b with
   | false=>exact Zrh r _ _ _ j.2 h
   | true=>
    simp only[gdK]at h ⊢;have c:∀ op,stK (stepD (base+i) (evE n e) m.get op) (fun v d=>U3 P false n base r (i+1) K (Y3 e dst v) (m.app d))→stK (stepD (base+i) (evE n e) m.get op) (fun v d=>U3 P true n base r (i+1) K (Y3 e dst v) (m.app d)):=by
     intro op g;cases k:stepD (base+i) (evE n e) m.get op with
     | none=>rw[k]at g; exact g
     | some o=>obtain ⟨v,d⟩:=o; rw[k]at g; exact Zrh r _ _ _ j.2 g
    cases op with
    | call f p=>simp[F4]at j
    | _=>exact c _ h
theorem Z11{a:List AOper}(h:a.all F4=true):a.all (fun o=>o.un.isEmpty)=true:=by
 rw[List.all_eq_true]at h ⊢;intro o b;have:=h o b;obtain⟨dst,op,guard,un⟩:=o;simp only[F4,bA]at this;exact this.1
theorem Zy4{c:ACode}:∀ {Q o:Exit→Env→SMem→Prop} {e:Env} {m:SMem},wpZ P n n0 c Q e m→(∀ x e m,Q x e m→o x e m)→wpT P n n0 c o e m:=by
 induction c with
 | skip=>exact fun h d=>d _ _ _ h
 | region r i=>
  intro Q o e m h d;refine Ybz ?_ d;cases r with
  | false=>exact Znj i 0 e _ h
  | true=>
   simp only[wpZ]at h;split at h
   ·rename_i u;exact Zja i [] e _ (Z11 u) (Zrh i 0 _ _ u h)
   ·split at h
    ·rename_i u;exact Zja i [] e _ u h
    ·exact Zni i [] [] e _ (fun j f A=>by simp[L3]at A) h
 | seq a b p q=>
  intro Q o e m h d;refine p h fun x e m g=>?_
  cases x<;>first|exact q g d|exact d _ _ _ g
 | cond c a b p q=>
  intro Q o e m h d;simp only[wpZ]at h;simp only[wpT];generalize evE n e c=v at h;cases v<;>first|exact h.elim|skip
  rename_i b;cases b
  ·exact q h d
  ·exact p h d
 | block id c t=>
  intro Q o e m h d;refine t h fun x e m g=>?_
  cases x<;>simp only[G3]at g ⊢ <;> first|exact d _ _ _ g|skip
  split at g
  ·rename_i s; rw[if_pos s]; exact d _ _ _ g
  ·rename_i s; rw[if_neg s]; exact d _ _ _ g
 | loop c t=>
  intro Q o e m h d;obtain⟨I,s,y⟩:=h;refine⟨I,s,fun k w B z=>t (y k w B z) fun x e m g=>?_⟩
  cases x<;>first|exact g|exact d _ _ _ g
 | exit id=>exact fun h d=>d _ _ _ h
 | scope c t=>exact fun h d=>t h d
 | label l=>exact fun h d=>d _ _ _ h
 | ret=>exact fun h d=>d _ _ _ h
 | bad=>exact fun h _=>h
theorem Zsf(hm:P.follows .mixedOrders=true){f:FuncId}{fn:Func}{a:AFn}{args:List AVal}{m:SMem}{K:AVal→SMem→Prop}(c:P.funcs[f]? = some fn)(b:cFn P fn=some a)(d:Nat.ble args.length a.ntmps=true)
 (h:wpZ P a.ntmps m.next a.body (H3 a.ntmps a.results (O9 m.next K)) (U1 0 args []) m):Ctr P f args m K:=
 Z3a hm c b d (Zy4 h fun _ _ _ h=>h)
theorem Zvh{α:Type}{c:ACode}(E:α→Env)(M:α→SMem)(g:α→Nat)(b:α→Prop)(f:α)(q:WkR n n0 (E f) (M f) e m)(i:b f)
 (h:∀ a,b a → ∀ N:Env→SMem→Prop,(∀ d e m,g d<g a→b d→WkR n n0 (E d) (M d) e m→N e m)→wpZ P n n0 c (M2 N Q) (E a) (M a)):wpZ P n n0 (.loop c) Q e m:=by
 refine⟨fun k e m=>∃ a,k=g a∧b a∧e=E a∧m=M a,⟨g f,_,_,q,f,rfl,i,rfl,rfl⟩,?_⟩
 rintro k r s ⟨a,rfl,p,rfl,rfl⟩;exact h a p _ fun d e m j l o=>⟨g d,E d,M d,j,o,d,rfl,l,rfl,rfl⟩
theorem B0{α:Type}{c:ACode}(E:α→Env)(M:α→SMem)(g:α→Nat)(b:α→Prop)(f:α)(l:List (Nat×Nat))(r:SubR n0 l (E f) (M f) e m)(i:b f)
 (h:∀ a,b a → ∀ N:Env→SMem→Prop,(∀ d l e m,g d<g a→b d→SubR n0 l (E d) (M d) e m→N e m)→wpZ P n n0 c (M2 N Q) (E a) (M a)):wpZ P n n0 (.loop c) Q e m:=
 Zvh E M g b f r.wk i fun a q N p=>h a q N fun d l e m j k o=>p d e m j k o.wk
@[congr] theorem Yej{n n0 : Nat}{c : ACode}{Q : Exit → Env → SMem → Prop}{e e' : Env}{m a : SMem}(h : e = e')(b : m = a) : wpZ P n n0 c Q e m = wpZ P n n0 c Q e' a := by rw [h, b]
end
end Go.AE
end
section
namespace Go.Known
open Go Go.AE Go.Proofs
abbrev GD(n:Nat)(a:AFn):Prop:=Go.AE.Good Tryz.prog (n,a)
theorem gG{n:Nat}{f:Func}{a:AFn}(h:Tryz.prog.funcs[n]? = some f)(c:cFn Tryz.prog f=some a)(b:(N8 a.ntmps a.body&&(Nat.ble a.ntmps bound&&Nat.ble (n+1) bound))=true):GD n a:=by
 simp only[bA]at b;exact⟨⟨_,h,c⟩,b.1,b.2.1,b.2.2⟩
abbrev oZ(d:Nat)(x:AOp):AOper:=⟨some d,x,none,[]⟩
abbrev pZ(x:AOp):AOper:=⟨none,x,none,[]⟩
abbrev gZ(d g:Nat)(b:Bool)(x:AOp):AOper:=⟨some d,x,some (g,b),[]⟩
abbrev tZ(i:Nat):AOpd:=.tmp i
abbrev kZ(n:Int):AOpd:=.const (.int .i64 n)
abbrev bZ(b:Bool):AOpd:=.const (.bool b)
abbrev mv(d s:Nat):AOper:=⟨some d,.mov (.tmp s),none,[]⟩
abbrev mk(d:Nat)(n:Int):AOper:=⟨some d,.mov (.const (.int .i64 n)),none,[]⟩
abbrev mtZ(d:Nat):AOper:=⟨some d,.mov (.const (.bool true)),none,[]⟩
abbrev mfZ(d:Nat):AOper:=⟨some d,.mov (.const (.bool false)),none,[]⟩
abbrev mnZ(d:Nat):AOper:=⟨some d,.mov (.const .nilSl),none,[]⟩
abbrev lo(d s:Nat):AOper:=⟨some d,.load none (.tmp s),none,[]⟩
abbrev lw(d n s:Nat):AOper:=⟨some d,.load (some n) (.tmp s),none,[]⟩
abbrev fa(d o s:Nat):AOper:=⟨some d,.fieldA o (.tmp s),none,[]⟩
abbrev so(n a x:Nat):AOper:=⟨none,.store n (.tmp a) (.tmp x),none,[]⟩
abbrev ix(d k a i:Nat):AOper:=⟨some d,.idxA k (.tmp a) (.tmp i),none,[]⟩
abbrev le(d s:Nat):AOper:=⟨some d,.lenSl (.tmp s),none,[]⟩
abbrev nc(d s:Nat):AOper:=⟨some d,.nilChk (.tmp s),none,[]⟩
abbrev ex(d s i:Nat):AOper:=⟨some d,.ext (.tmp s) i,none,[]⟩
abbrev bo(d s:Nat):AOper:=⟨some d,.box (.tmp s),none,[]⟩
abbrev no(d s:Nat):AOper:=⟨some d,.un .not (.tmp s),none,[]⟩
abbrev pk1(d c s:Nat):AOper:=⟨some d,.pick (.tmp c) (.const (.bool true)) (.tmp s),none,[]⟩
abbrev pk0(d c s:Nat):AOper:=⟨some d,.pick (.tmp c) (.tmp s) (.const (.bool false)),none,[]⟩
abbrev ca1(d:Nat)(f:FuncId)(x:Nat):AOper:=⟨some d,.call (.fn f) [.tmp x],none,[]⟩
abbrev ca2(d:Nat)(f:FuncId)(x y:Nat):AOper:=⟨some d,.call (.fn f) [.tmp x,.tmp y],none,[]⟩
abbrev ca3(d:Nat)(f:FuncId)(x y z:Nat):AOper:=⟨some d,.call (.fn f) [.tmp x,.tmp y,.tmp z],none,[]⟩
abbrev aD(d x y:Nat):AOper:=⟨some d,.bin .add .num (.tmp x) (.tmp y),none,[]⟩
abbrev aDk(d x:Nat)(n:Int):AOper:=⟨some d,.bin .add .num (.tmp x) (.const (.int .i64 n)),none,[]⟩
abbrev aS(d x y:Nat):AOper:=⟨some d,.bin .sub .num (.tmp x) (.tmp y),none,[]⟩
abbrev aSk(d x:Nat)(n:Int):AOper:=⟨some d,.bin .sub .num (.tmp x) (.const (.int .i64 n)),none,[]⟩
abbrev aM(d x y:Nat):AOper:=⟨some d,.bin .mul .num (.tmp x) (.tmp y),none,[]⟩
abbrev aMk(d x:Nat)(n:Int):AOper:=⟨some d,.bin .mul .num (.tmp x) (.const (.int .i64 n)),none,[]⟩
abbrev aQk(d x:Nat)(n:Int):AOper:=⟨some d,.bin .quo .num (.tmp x) (.const (.int .i64 n)),none,[]⟩
abbrev aR(d x y:Nat):AOper:=⟨some d,.bin .rem .num (.tmp x) (.tmp y),none,[]⟩
abbrev aRk(d x:Nat)(n:Int):AOper:=⟨some d,.bin .rem .num (.tmp x) (.const (.int .i64 n)),none,[]⟩
abbrev cE(d x y:Nat):AOper:=⟨some d,.bin .eql .num (.tmp x) (.tmp y),none,[]⟩
abbrev cEk(d x:Nat)(n:Int):AOper:=⟨some d,.bin .eql .num (.tmp x) (.const (.int .i64 n)),none,[]⟩
abbrev cN(d x y:Nat):AOper:=⟨some d,.bin .neq .num (.tmp x) (.tmp y),none,[]⟩
abbrev cNk(d x:Nat)(n:Int):AOper:=⟨some d,.bin .neq .num (.tmp x) (.const (.int .i64 n)),none,[]⟩
abbrev cL(d x y:Nat):AOper:=⟨some d,.bin .lss .num (.tmp x) (.tmp y),none,[]⟩
abbrev cLk(d x:Nat)(n:Int):AOper:=⟨some d,.bin .lss .num (.tmp x) (.const (.int .i64 n)),none,[]⟩
abbrev cK(d x y:Nat):AOper:=⟨some d,.bin .leq .num (.tmp x) (.tmp y),none,[]⟩
abbrev cKk(d x:Nat)(n:Int):AOper:=⟨some d,.bin .leq .num (.tmp x) (.const (.int .i64 n)),none,[]⟩
abbrev cG(d x y:Nat):AOper:=⟨some d,.bin .gtr .num (.tmp x) (.tmp y),none,[]⟩
abbrev cGk(d x:Nat)(n:Int):AOper:=⟨some d,.bin .gtr .num (.tmp x) (.const (.int .i64 n)),none,[]⟩
abbrev cH(d x y:Nat):AOper:=⟨some d,.bin .geq .num (.tmp x) (.tmp y),none,[]⟩
abbrev cHk(d x:Nat)(n:Int):AOper:=⟨some d,.bin .geq .num (.tmp x) (.const (.int .i64 n)),none,[]⟩
abbrev gtl(d g s:Nat):AOper:=⟨some d,.load none (.tmp s),some (g,true),[]⟩
abbrev gtf(d g o s:Nat):AOper:=⟨some d,.fieldA o (.tmp s),some (g,true),[]⟩
abbrev gtm(d g s:Nat):AOper:=⟨some d,.mov (.tmp s),some (g,true),[]⟩
abbrev gfl(d g s:Nat):AOper:=⟨some d,.load none (.tmp s),some (g,false),[]⟩
abbrev gff(d g o s:Nat):AOper:=⟨some d,.fieldA o (.tmp s),some (g,false),[]⟩
abbrev gfm(d g s:Nat):AOper:=⟨some d,.mov (.tmp s),some (g,false),[]⟩
abbrev rf(l:List AOper):ACode:=.region false l
abbrev sr(l:List AOper)(c:ACode):ACode:=.seq (.region false l) c
theorem rQ(f:Func):cFn Tryz.prog f=cFn Tryz.prog f:=rfl
def oR{a b:Option AFn}(_:a=b):AFn:=match b with
 | some f=>f
 | none=>⟨0,[],.skip⟩
abbrev iV(n:Int):AVal:=.int .i64 n
abbrev bV(b:Bool):AVal:=.bool b
end Go.Known
end
section
namespace Go.Proofs
open Go.Shelf
def Tryz.lays156_ren:Go.Shelf.Ren:=⟨fun|156=>43 | 165=>75 | 166=>76 | 169=>77 | 240=>117 | 241=>118 | 276=>153 | 277=>154 | n=>n,fun|31=>42 | 9=>9 | 3=>3 | 4=>4 | 0=>0 | 20=>20 | 72=>142 | 76=>146 | 70=>139 | 37=>140 | 75=>145 | 127=>186 | 164=>215 | 5=>5 | 80=>148 | n=>n,fun|n=>n⟩
theorem Tryz.lays156:Go.Proofs.Lays.n156 Tryz.prog Tryz.lays156_ren:={
 mixed:=by kernel_rfl
 f156:=Tryz.func43.trans (congrArg some (by kernel_rfl))
 f165:=Tryz.func75.trans (congrArg some (by kernel_rfl))
 f166:=Tryz.func76.trans (congrArg some (by kernel_rfl))
 f169:=Tryz.func77.trans (congrArg some (by kernel_rfl))
 f240:=Tryz.func117.trans (congrArg some (by kernel_rfl))
 f241:=Tryz.func118.trans (congrArg some (by kernel_rfl))
 f276:=Tryz.func153.trans (congrArg some (by kernel_rfl))
 f277:=Tryz.func154.trans (congrArg some (by kernel_rfl))
 t0:=Tryz.underlying0
 a0:=Tryz.isAgg0
 z0:=Tryz.sizeOf0
 v0:=Tryz.zeroValue0
 t3:=Tryz.underlying3
 a3:=Tryz.isAgg3
 z3:=Tryz.sizeOf3
 v3:=Tryz.zeroValue3
 t4:=Tryz.underlying4
 a4:=Tryz.isAgg4
 z4:=Tryz.sizeOf4
 v4:=Tryz.zeroValue4
 t9:=Tryz.underlying9
 a9:=Tryz.isAgg9
 z9:=Tryz.sizeOf9
 v9:=Tryz.zeroValue9
 t20:=Tryz.underlying20
 a20:=Tryz.isAgg20
 z20:=Tryz.sizeOf20
 v20:=Tryz.zeroValue20
 t31:=Tryz.underlying42
 a31:=Tryz.isAgg42
 z31:=Tryz.sizeOf42
 v31:=Tryz.zeroValue42
 t37:=Tryz.underlying140
 a37:=Tryz.isAgg140
 z37:=Tryz.sizeOf140
 v37:=Tryz.zeroValue140
 t70:=Tryz.underlying139
 a70:=Tryz.isAgg139
 z70:=Tryz.sizeOf139
 v70:=Tryz.zeroValue139
 t72:=Tryz.underlying142
 a72:=Tryz.isAgg142
 z72:=Tryz.sizeOf142
 v72:=Tryz.zeroValue142
 t75:=Tryz.underlying145
 a75:=Tryz.isAgg145
 z75:=Tryz.sizeOf145
 v75:=Tryz.zeroValue145
 t76:=Tryz.underlying146
 a76:=Tryz.isAgg146
 z76:=Tryz.sizeOf146
 v76:=Tryz.zeroValue146
 t127:=Tryz.underlying186
 a127:=Tryz.isAgg186
 z127:=Tryz.sizeOf186
 v127:=Tryz.zeroValue186
 t164:=Tryz.underlying215
 a164:=Tryz.isAgg215
 z164:=Tryz.sizeOf215
 v164:=Tryz.zeroValue215 }
theorem Tryz.Builder_Extra_156:Builder.Extra Tryz.prog Tryz.lays156_ren:={
 sizeBuilder:=by kernel_rfl
 liesBuilder:=by kernel_rfl
 t5:=Tryz.underlying5
 a5:=Tryz.isAgg5
 z5:=Tryz.sizeOf5
 v5:=Tryz.zeroValue5
 infoByte:=by kernel_rfl
 cellsByte:=by kernel_rfl
 sizeByte:=by kernel_rfl
 neB5:=by decide }
open Go.RowKit in
theorem Tryz.strings_Join(bk o c:Nat)(d:List ByteArray)(b:ByteArray)(w:World)(a:∀ (j:Nat) x,d[j]? = some x→w.cell? ⟨bk,o+j,none⟩=some (.string x))(i:bk<w.heap.size)(k:d.length≤140737488355328)(g:d.length≤c)(h:(Lib.join (d.map (·.data.toList)) b.data.toList).length≤140737488355328) :
 Calls Tryz.prog 43 #[.slice (some ⟨bk,o,none⟩) d.length c,.string b] w fun e w'=>e=.returned (.string ⟨(Lib.join (d.map (·.data.toList)) b.data.toList).toArray⟩)∧Below w.heap.size w w':=Any.strings_Join Tryz.lays156 Tryz.Builder_Extra_156 bk o c d b w a i k g h
end Go.Proofs
end
