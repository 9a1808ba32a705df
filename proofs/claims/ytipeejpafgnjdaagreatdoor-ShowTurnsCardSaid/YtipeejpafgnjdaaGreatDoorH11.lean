/- Part 11 of the proof: AeNd, Ka, Shelf. -/
import Derived.Test.YtipeejpafgnjdaaGreatDoorH10
import Derived.Test.YtipeejpafgnjdaaGreatDoorProg
import Derived.Shelf.Strings.Builder1
import Derived.Shelf.Strings.Builder2
import Derived.Shelf.Strings.OnBuilder
set_option linter.all false
section
namespace Go.AE
open Go.RowKit
section
variable {q:EqT} {k:IntKind} {a b:Int} {x y:Bool}
theorem Zds:X6 .add q (.int k a) (.int k b)=some (.int k (k.wrap (a+b))):=by simp[X6,V4]
theorem Zb7:X6 .sub q (.int k a) (.int k b)=some (.int k (k.wrap (a - b))):=by simp[X6,V4]
theorem Zbw:X6 .mul q (.int k a) (.int k b)=some (.int k (k.wrap (a*b))):=by simp[X6,V4]
theorem Zb9:X6 .quo q (.int k a) (.int k b)=if b=0 then none else some (.int k (k.wrap (a.tdiv b))):=by simp[X6,V4]
theorem Zbm:X6 .rem q (.int k a) (.int k b)=if b=0 then none else some (.int k (a.tmod b)):=by simp[X6,V4]
theorem Zbg:X6 .eql q (.int k a) (.int k b)=some (.bool (decide (a=b))):=by simp[X6,V4]
theorem Zcx:X6 .neq q (.int k a) (.int k b)=some (.bool (!decide (a=b))):=by simp[X6,V4]
theorem Zbs:X6 .lss q (.int k a) (.int k b)=some (.bool (decide (a<b))):=by simp[X6,V4]
theorem Zcr:X6 .leq q (.int k a) (.int k b)=some (.bool (decide (a≤b))):=by simp[X6,V4]
theorem Zdn:X6 .gtr q (.int k a) (.int k b)=some (.bool (decide (b<a))):=by simp[X6,V4]
theorem Zdh:X6 .geq q (.int k a) (.int k b)=some (.bool (decide (b≤a))):=by simp[X6,V4]
theorem Zct:X6 .eql .bool (.bool x) (.bool y)=some (.bool (x == y)):=by simp[X6,eqA]
theorem Zdr:X6 .neq .bool (.bool x) (.bool y)=some (.bool (!(x == y))):=by simp[X6,eqA]
end
section
variable {n base i:Nat} {P:Program} {K:Env→SMem→Prop} {e:Env} {m:SMem}
def gdK(w:Option Bool)(A B:Prop):Prop:=
 match w with
 | some true=>A
 | some false=>B
 | none=>False
@[congr] theorem Ygr{w w' : Option Bool}{A B : Prop}(h : w = w') : gdK w A B = gdK w' A B := by rw [h]
def stK(r:Option (AVal×List (Nat×Option ABlk)))(K:AVal→List (Nat×Option ABlk)→Prop):Prop:=
 match r with
 | some (v,d)=>K v d
 | none=>False
theorem Z7u{v:AVal}{d:List (Nat×Option ABlk)}{K:AVal→List (Nat×Option ABlk)→Prop}:stK (some (v,d)) K=K v d:=propext Iff.rfl
@[congr] theorem Yfj{r r' : Option (AVal × List (Nat × Option ABlk))}{K : AVal → List (Nat × Option ABlk) → Prop}(h : r = r') : stK r K = stK r' K := by rw [h]
def clK(c:Option (FuncId×List AVal))(K:FuncId→List AVal→Prop):Prop:=
 match c with
 | some (g,args)=>K g args
 | none=>False
@[congr] theorem Ygf{c c' : Option (FuncId × List AVal)}{K : FuncId → List AVal → Prop}(h : c = c') : clK c K = clK c' K := by rw [h]
def DC(P:Program)(g:FuncId)(args:List AVal)(n:Nat)(x:List Nat)(m:SMem)(K:AVal→Option ABlk→Prop):Prop:=∃ v d,Zn9 P g args v d n x m.mem∧K v d
theorem B8{g:FuncId}{args:List AVal}{v:AVal}{n:Nat}{x:List Nat}{m:SMem}{K:AVal→Option ABlk→Prop}(h:PCall P g args v)(hK:K v none):DC P g args n x m K:=⟨v,none,h.x _ _ _,hK⟩
@[congr] theorem Yfw{g : FuncId}{args args' : List AVal}{n n' : Nat}{x : List Nat}{m m' : SMem}{K : AVal → Option ABlk → Prop}(h : id args = args')(hn : n = n')(hm : m = m') : DC P g args n x m K = DC P g args' n' x m' K := by cases h; cases hn; cases hm; rfl
def V6(P:Program)(dc:Bool)(n base:Nat):List AOper→Nat→(Env→SMem→Prop)→Env→SMem→Prop
 | [],_,K,e,m=>K e m
 | o :: r,i,K,e,m=>gdK (V2 n e o.guard)
  (match o.op with
  | .call f xs=>clK (X9 n e f xs) fun g args=>match dc with
   | false=>SC P g args m (base+i) fun v m'=>V6 P dc n base r (i+1) K (Y4 e o.dst v) m'
   | true=>DC P g args (base+i) (xOf base i r.length) m fun v d=>V6 P dc n base r (i+1) K (Y4 e o.dst v) (m.app (apD (base+i) d))
  | op=>stK (stepD (base+i) (evE n e) m.get op) fun v d=>V6 P dc n base r (i+1) K (Y4 e o.dst v) (m.app d))
  (V6 P dc n base r (i+1) K (Y4 e o.dst aundef) m)
@[congr] theorem Yfn{dc : Bool}{n base base' i i' : Nat}{ops : List AOper}{K : Env → SMem → Prop}{e e' : Env}{m m' : SMem}(hb : base = base')(hi : i = i')(h : e = e')(h' : m = m') : V6 P dc n base ops i K e m = V6 P dc n base' ops i' K e' m' := by rw [hb, hi, h, h']
theorem Zik:∀ (ops:List AOper) (i:Nat) (e:Env) (m:SMem),V6 P false n base ops i K e m→L8 P n base ops i K e m
 | [],_,_,_,h=>h
 | o :: r,i,e,m,h=>by
  simp only[V6]at h;simp only[L8];cases hw:V2 n e o.guard with
  | none=>rw[hw]at h; exact h
  | some b=>
   rw[hw]at h;cases b with
   | false=>exact Zik r _ _ _ h
   | true=>
    simp only[gdK]at h;simp only;have other:∀ op,stK (stepD (base+i) (evE n e) m.get op) (fun v d=>V6 P false n base r (i+1) K (Y4 e o.dst v) (m.app d)) →
     (match stepD (base+i) (evE n e) m.get op with|some (v,d)=>L8 P n base r (i+1) K (Y4 e o.dst v) (m.app d)|none=>False):=by
     intro op hh;cases hs:stepD (base+i) (evE n e) m.get op with
     | none=>rw[hs]at hh; exact hh
     | some vd=>obtain ⟨v,d⟩:=vd; rw[hs]at hh; exact Zik r _ _ _ hh
    cases hop:o.op with
    | call f xs=>
     simp only[hop]at h;simp only;cases hc:X9 n e f xs with
     | none=>rw[hc]at h; exact h
     | some ga=>
      obtain⟨g,args⟩:=ga;rw[hc]at h;simp only[clK]at h;exact h.mono fun v m'' hh=>by obtain⟨m',e',hk⟩:=hh; exact⟨m',e',Zik r _ _ _ hk⟩
    | _=>rw[hop]at h; exact other _ h
theorem Zhc:∀ (ops:List AOper) (fs:List FT) (e:Env) (m:SMem),ops.all (fun o=>o.un.isEmpty)=true→V6 P true n base ops fs.length K e m→D7 P n base ops fs K e m
 | [],_,_,_,_,h=>h
 | o :: r,fs,e,m,hu,h=>by
  simp only[List.all_cons,bA,List.isEmpty_iff]at hu;have hl:∀ f:FT,(fs++[f]).length=fs.length+1:=fun f=>by simp
  simp only[V6]at h;simp only[D7];cases hw:V2 n e o.guard with
  | none=>rw[hw]at h; exact h
  | some b=>
   rw[hw]at h;cases b with
   | false=>exact Zhc r _ _ _ hu.2 (by rw[hl]; exact h)
   | true=>
    simp only[gdK]at h;simp only[hu.1,S3];have other:∀ op,stK (stepD (base+fs.length) (evE n e) m.get op) (fun v d=>V6 P true n base r (fs.length+1) K (Y4 e o.dst v) (m.app d)) →
     (match stepD (base+fs.length) (evE n e) m.get op with|some (v,d)=>True∧D7 P n base r (fs++[.ops (V9 (base+fs.length) (evE n e) op) (V8 (evE n e) op)]) K (Y4 e o.dst v) (m.app d)|none=>False):=by
     intro op hh;cases hs:stepD (base+fs.length) (evE n e) m.get op with
     | none=>rw[hs]at hh; exact hh
     | some vd=>obtain ⟨v,d⟩:=vd; rw[hs]at hh; exact⟨trivial,Zhc r _ _ _ hu.2 (by rw[hl]; exact hh)⟩
    cases hop:o.op with
    | call f xs=>
     simp only[hop]at h;simp only;cases hc:X9 n e f xs with
     | none=>rw[hc]at h; exact h
     | some ga=>
      obtain⟨g,args⟩:=ga;rw[hc]at h;simp only[clK]at h;obtain⟨v,d,h1,h2⟩:=h;exact⟨v,d,h1,trivial,Zhc r _ _ _ hu.2 (by rw[hl]; exact h2)⟩
    | _=>rw[hop]at h; exact other _ h
end
def M5:List (Nat×FT)→Nat→Option FT
 | [],_=>none
 | (j,f) :: r,i=>if i=j then some f else M5 r i
def M6(fs:List (Nat×FT))(ft:FT):List Nat→Prop
 | []=>True
 | i :: r=>(match M5 fs i with
  | some f=>FT.indep f ft
  | none=>False)∧M6 fs ft r
def Zcc:List AOper→List Nat
 | []=>[]
 | ⟨_,_,_,un⟩ :: r=>un++Zcc r
def Q3(keep:List Nat)(i:Nat)(f:FT)(fs:List (Nat×FT)):List (Nat×FT):=bif V3 i keep then (i,f) :: fs else fs
def K2(P:Program)(keep:List Nat)(n base:Nat):List AOper→Nat→List (Nat×FT)→(Env→SMem→Prop)→Env→SMem→Prop
 | [],_,_,K,e,m=>K e m
 | o :: r,i,fs,K,e,m=>match V2 n e o.guard with
  | some true=>(match o.op with
   | .call f xs=>(match X9 n e f xs with
    | some (g,args)=>DC P g args (base+i) (xOf base i r.length) m fun v d=>M6 fs (.call (ftW (base+i) d) (xOf base i r.length) m.next) o.un∧K2 P keep n base r (i+1) (Q3 keep i (.call (ftW (base+i) d) (xOf base i r.length) m.next) fs) K (Y4 e o.dst v) (m.app (apD (base+i) d))
    | none=>False)
   | op=>(match stepD (base+i) (evE n e) m.get op with
    | some (v,d)=>M6 fs (.ops (V9 (base+i) (evE n e) op) (V8 (evE n e) op)) o.un∧K2 P keep n base r (i+1) (Q3 keep i (.ops (V9 (base+i) (evE n e) op) (V8 (evE n e) op)) fs) K (Y4 e o.dst v) (m.app d)
    | none=>False))
  | some false=>K2 P keep n base r (i+1) (Q3 keep i (.ops [] []) fs) K (Y4 e o.dst aundef) m
  | none=>False
theorem Zit{fs:List (Nat×FT)}{gs:List FT}{ft:FT}(hr:∀ j f,M5 fs j=some f→gs.getD j (.ops [] [])=f):∀ {un:List Nat},M6 fs ft un→S3 gs ft un
 | [],_=>trivial
 | i :: r,h=>by
  refine⟨?_,Zit hr h.2⟩;have h1:=h.1;cases hl:M5 fs i with
  | none=>rw[hl]at h1; exact h1.elim
  | some f=>rw[hl]at h1; rw[hr i f hl]; exact h1
theorem Znh{P:Program}{keep:List Nat}{n base:Nat}{K:Env→SMem→Prop}:∀ (ops:List AOper) (fs:List (Nat×FT)) (gs:List FT) (e:Env) (m:SMem),
 (∀ j f,M5 fs j=some f→gs.getD j (.ops [] [])=f∧j<gs.length)→K2 P keep n base ops gs.length fs K e m→D7 P n base ops gs K e m
 | [],_,_,_,_,_,h=>h
 | o :: r,fs,gs,e,m,hr,h=>by
  have hl:∀ f:FT,(gs++[f]).length=gs.length+1:=fun f=>by simp
  have hrec:∀ f,∀ j g,M5 (Q3 keep gs.length f fs) j=some g→(gs++[f]).getD j (.ops [] [])=g∧j<(gs++[f]).length:=by
   intro f j g hj;have old:∀ j g,M5 fs j=some g→(gs++[f]).getD j (.ops [] [])=g∧j<(gs++[f]).length:=fun j g h1=>by
    obtain⟨h2,h3⟩:=hr j g h1;refine⟨?_,by rw[hl]; omega⟩
    rw[List.getD_eq_getElem?_getD,List.getElem?_append_left h3,← List.getD_eq_getElem?_getD];exact h2
   unfold Q3 at hj;cases hm:V3 gs.length keep with
   | false=>rw[hm]at hj; exact old j g hj
   | true=>
    rw[hm]at hj;simp only[cond_true,M5]at hj;split at hj
    ·rename_i e1;injection hj with hj
     subst hj; subst e1;refine⟨?_,by rw[hl]; omega⟩
     rw[List.getD_eq_getElem?_getD,List.getElem?_append_right (Nat.le_refl _)];simp
    ·exact old j g hj
  simp only[K2]at h;simp only[D7];cases hw:V2 n e o.guard with
  | none=>rw[hw]at h; exact h
  | some b=>
   rw[hw]at h;cases b with
   | false=>exact Znh r _ _ _ _ (hrec _) (by rw[hl]; exact h)
   | true=>
    simp only at h ⊢;have other:∀ op,(match stepD (base+gs.length) (evE n e) m.get op with
     | some (v,d)=>M6 fs (.ops (V9 (base+gs.length) (evE n e) op) (V8 (evE n e) op)) o.un∧K2 P keep n base r (gs.length+1) (Q3 keep gs.length (.ops (V9 (base+gs.length) (evE n e) op) (V8 (evE n e) op)) fs) K (Y4 e o.dst v) (m.app d)
     | none=>False) →
     (match stepD (base+gs.length) (evE n e) m.get op with|some (v,d)=>S3 gs (.ops (V9 (base+gs.length) (evE n e) op) (V8 (evE n e) op)) o.un∧D7 P n base r (gs++[.ops (V9 (base+gs.length) (evE n e) op) (V8 (evE n e) op)]) K (Y4 e o.dst v) (m.app d)|none=>False):=by
     intro op hh;cases hs:stepD (base+gs.length) (evE n e) m.get op with
     | none=>rw[hs]at hh; exact hh
     | some vd=>
      obtain⟨v,d⟩:=vd;rw[hs]at hh;exact⟨Zit (fun j f hj=>(hr j f hj).1) hh.1,Znh r _ _ _ _ (hrec _) (by rw[hl]; exact hh.2)⟩
    cases hop:o.op with
    | call f xs=>
     simp only[hop]at h;simp only;cases hc:X9 n e f xs with
     | none=>rw[hc]at h; exact h
     | some ga=>
      obtain⟨g,args⟩:=ga;rw[hc]at h;obtain⟨v,d,h1,h0,h2⟩:=h;exact⟨v,d,h1,Zit (fun j f hj=>(hr j f hj).1) h0,Znh r _ _ _ _ (hrec _) (by rw[hl]; exact h2)⟩
    | _=>(have hh:=other o.op; rw[hop]at h hh; exact hh h)
def J3:AOper→Bool
 | ⟨_,op,_,un⟩=>un.isEmpty&&match op with
  | .call _ _=>false
  | _=>true
def wpZ(P:Program)(n n0:Nat):ACode→(Exit→Env→SMem→Prop)→Env→SMem→Prop
 | .skip,Q,e,m=>Q .normal e m
 | .region false ops,Q,e,m=>V6 P false n m.next ops 0 (Q .normal) e (m.at (m.next+ops.length))
 | .region true ops,Q,e,m=>if ops.all J3=true then V6 P false n m.next ops 0 (Q .normal) e (m.at (m.next+ops.length))
  else if ops.all (fun o=>o.un.isEmpty)=true then V6 P true n m.next ops 0 (Q .normal) e (m.at (m.next+ops.length))
  else K2 P (Zcc ops) n m.next ops 0 [] (Q .normal) e (m.at (m.next+ops.length))
 | .seq a b,Q,e,m=>wpZ P n n0 a (P2 (wpZ P n n0 b Q) Q) e m
 | .cond c a b,Q,e,m=>Zas (evE n e c) (wpZ P n n0 a Q e m) (wpZ P n n0 b Q e m)
 | .block id c,Q,e,m=>wpZ P n n0 c (K8 id Q) e m
 | .loop c,Q,e,m=>∃ (I:Nat→Env→SMem→Prop),(∃ k e0 m0,WkR n n0 e0 m0 e m∧I k e0 m0) ∧ ∀ k e1 m1,I k e1 m1→wpZ P n n0 c (P2 (fun e' m'=>∃ j e0 m0,j<k∧WkR n n0 e0 m0 e' m'∧I j e0 m0) Q) e1 m1
 | .exit id,Q,e,m=>Q (.exit id) e m
 | .scope c,Q,e,m=>wpZ P n n0 c Q e m
 | .label _,Q,e,m=>Q .normal e m
 | .ret,Q,e,m=>Q .ret e m
 | .bad,_,_,_=>False
section
variable {P:Program} {n n0:Nat}
theorem Zii{base:Nat}{K K':Env→SMem→Prop}(hk:∀ e m,K e m→K' e m):∀ (ops:List AOper) (i:Nat) (e:Env) (m:SMem),L8 P n base ops i K e m→L8 P n base ops i K' e m
 | [],_,_,_,h=>hk _ _ h
 | o :: r,i,e,m,h=>by
  simp only[L8]at h ⊢;split at h
  ·exact Zii hk r _ _ _ h
  ·split at h
   ·split at h
    ·exact h.mono fun v m'' hh=>by obtain⟨m',e',hh⟩:=hh; exact⟨m',e',Zii hk r _ _ _ hh⟩
    ·exact h
   ·split at h
    ·exact Zii hk r _ _ _ h
    ·exact h
  ·exact h
theorem Zkv{base:Nat}{K K':Env→SMem→Prop}(hk:∀ e m,K e m→K' e m):∀ (ops:List AOper) (fs:List FT) (e:Env) (m:SMem),D7 P n base ops fs K e m→D7 P n base ops fs K' e m
 | [],_,_,_,h=>hk _ _ h
 | o :: r,fs,e,m,h=>by
  simp only[D7]at h ⊢;split at h
  ·exact Zkv hk r _ _ _ h
  ·split at h
   ·split at h
    ·obtain⟨v,d,h1,h2,h3⟩:=h;exact⟨v,d,h1,h2,Zkv hk r _ _ _ h3⟩
    ·exact h
   ·split at h
    ·exact⟨h.1,Zkv hk r _ _ _ h.2⟩
    ·exact h
  ·exact h
theorem Ybd{c:ACode}:∀ {Q Q':Exit→Env→SMem→Prop} {e:Env} {m:SMem},wpT P n n0 c Q e m→(∀ x e m,Q x e m→Q' x e m)→wpT P n n0 c Q' e m:=by
 induction c with
 | skip=>exact fun h hq=>hq _ _ _ h
 | region draw ops=>
  intro Q Q' e m h hq;cases draw with
  | false=>exact Zii (hq .normal) ops 0 e _ h
  | true=>exact Zkv (hq .normal) ops [] e _ h
 | seq a b iha ihb=>
  intro Q Q' e m h hq;refine iha h fun x e m hx=>?_
  cases x<;>first|exact ihb hx hq|exact hq _ _ _ hx
 | cond c a b iha ihb=>
  intro Q Q' e m h hq;simp only[wpT]at h ⊢;split at h
  ·exact iha h hq
  ·exact ihb h hq
  ·exact h
 | block id c ih=>
  intro Q Q' e m h hq;refine ih h fun x e m hx=>?_
  cases x<;>simp only[K8]at hx ⊢ <;> first|exact hq _ _ _ hx|skip
  split at hx
  ·rename_i h1; rw[if_pos h1]; exact hq _ _ _ hx
  ·rename_i h1; rw[if_neg h1]; exact hq _ _ _ hx
 | loop c ih=>
  intro Q Q' e m h hq;obtain⟨I,h1,h2⟩:=h;refine⟨I,h1,fun k e1 m1 hI=>ih (h2 k e1 m1 hI) fun x e m hx=>?_⟩
  cases x<;>first|exact hx|exact hq _ _ _ hx
 | exit id=>exact fun h hq=>hq _ _ _ h
 | scope c ih=>exact fun h hq=>ih h hq
 | label l=>exact fun h hq=>hq _ _ _ h
 | ret=>exact fun h hq=>hq _ _ _ h
 | bad=>exact fun h _=>h
variable {Q:Exit→Env→SMem→Prop} {e:Env} {m:SMem}
theorem Zbv:wpZ P n n0 .skip Q e m=Q .normal e m:=propext Iff.rfl
theorem Zdd(ops:List AOper):wpZ P n n0 (.region false ops) Q e m=V6 P false n m.next ops 0 (Q .normal) e (m.at (m.next+ops.length)):=propext Iff.rfl
theorem Zcs(a b:ACode):wpZ P n n0 (.seq a b) Q e m=wpZ P n n0 a (P2 (wpZ P n n0 b Q) Q) e m:=propext Iff.rfl
theorem Yak(c:AOpd)(a b:ACode):wpZ P n n0 (.cond c a b) Q e m=Zas (evE n e c) (wpZ P n n0 a Q e m) (wpZ P n n0 b Q e m):=propext Iff.rfl
theorem Zcw(i:Nat)(c:ACode):wpZ P n n0 (.block i c) Q e m=wpZ P n n0 c (K8 i Q) e m:=propext Iff.rfl
theorem Zby(c:ACode):wpZ P n n0 (.scope c) Q e m=wpZ P n n0 c Q e m:=propext Iff.rfl
theorem Zcv(i:Nat):wpZ P n n0 (.exit i) Q e m=Q (.exit i) e m:=propext Iff.rfl
theorem Zbp:wpZ P n n0 .ret Q e m=Q .ret e m:=propext Iff.rfl
theorem Zcl(ops:List AOper):wpZ P n n0 (.region true ops) Q e m=if ops.all J3=true then V6 P false n m.next ops 0 (Q .normal) e (m.at (m.next+ops.length))
 else if ops.all (fun o=>o.un.isEmpty)=true then V6 P true n m.next ops 0 (Q .normal) e (m.at (m.next+ops.length))
 else K2 P (Zcc ops) n m.next ops 0 [] (Q .normal) e (m.at (m.next+ops.length)):=propext Iff.rfl
theorem Zlg{base:Nat}{K:Env→SMem→Prop}:∀ (ops:List AOper) (i:Nat) (e:Env) (m:SMem),ops.all J3=true→V6 P false n base ops i K e m→V6 P true n base ops i K e m
 | [],_,_,_,_,h=>h
 | ⟨dst,op,guard,un⟩ :: r,i,e,m,hu,h=>by
  simp only[List.all_cons,bA]at hu;simp only[V6]at h ⊢;cases hw:V2 n e guard with
  | none=>rw[hw]at h; exact h
  | some b=>
   rw[hw]at h;cases b with
   | false=>exact Zlg r _ _ _ hu.2 h
   | true=>
    simp only[gdK]at h ⊢;have other:∀ op,stK (stepD (base+i) (evE n e) m.get op) (fun v d=>V6 P false n base r (i+1) K (Y4 e dst v) (m.app d))→stK (stepD (base+i) (evE n e) m.get op) (fun v d=>V6 P true n base r (i+1) K (Y4 e dst v) (m.app d)):=by
     intro op hh;cases hs:stepD (base+i) (evE n e) m.get op with
     | none=>rw[hs]at hh; exact hh
     | some vd=>obtain ⟨v,d⟩:=vd; rw[hs]at hh; exact Zlg r _ _ _ hu.2 hh
    cases op with
    | call f xs=>simp[J3]at hu
    | _=>exact other _ h
theorem Zz3{ops:List AOper}(h:ops.all J3=true):ops.all (fun o=>o.un.isEmpty)=true:=by
 rw[List.all_eq_true]at h ⊢;intro o ho;have:=h o ho;obtain⟨dst,op,guard,un⟩:=o;simp only[J3,bA]at this;exact this.1
theorem Zv7{c:ACode}:∀ {Q Q':Exit→Env→SMem→Prop} {e:Env} {m:SMem},wpZ P n n0 c Q e m→(∀ x e m,Q x e m→Q' x e m)→wpT P n n0 c Q' e m:=by
 induction c with
 | skip=>exact fun h hq=>hq _ _ _ h
 | region draw ops=>
  intro Q Q' e m h hq;refine Ybd ?_ hq;cases draw with
  | false=>exact Zik ops 0 e _ h
  | true=>
   simp only[wpZ]at h;split at h
   ·rename_i hb;exact Zhc ops [] e _ (Zz3 hb) (Zlg ops 0 _ _ hb h)
   ·split at h
    ·rename_i hb;exact Zhc ops [] e _ hb h
    ·exact Znh ops [] [] e _ (fun j f hj=>by simp[M5]at hj) h
 | seq a b iha ihb=>
  intro Q Q' e m h hq;refine iha h fun x e m hx=>?_
  cases x<;>first|exact ihb hx hq|exact hq _ _ _ hx
 | cond c a b iha ihb=>
  intro Q Q' e m h hq;simp only[wpZ]at h;simp only[wpT];generalize evE n e c=v at h;cases v<;>first|exact h.elim|skip
  rename_i b;cases b
  ·exact ihb h hq
  ·exact iha h hq
 | block id c ih=>
  intro Q Q' e m h hq;refine ih h fun x e m hx=>?_
  cases x<;>simp only[K8]at hx ⊢ <;> first|exact hq _ _ _ hx|skip
  split at hx
  ·rename_i h1; rw[if_pos h1]; exact hq _ _ _ hx
  ·rename_i h1; rw[if_neg h1]; exact hq _ _ _ hx
 | loop c ih=>
  intro Q Q' e m h hq;obtain⟨I,h1,h2⟩:=h;refine⟨I,h1,fun k e1 m1 hI=>ih (h2 k e1 m1 hI) fun x e m hx=>?_⟩
  cases x<;>first|exact hx|exact hq _ _ _ hx
 | exit id=>exact fun h hq=>hq _ _ _ h
 | scope c ih=>exact fun h hq=>ih h hq
 | label l=>exact fun h hq=>hq _ _ _ h
 | ret=>exact fun h hq=>hq _ _ _ h
 | bad=>exact fun h _=>h
theorem Zyz(hm:P.follows .mixedOrders=true){f:FuncId}{fn:Func}{af:AFn}{args:List AVal}{m:SMem}{K:AVal→SMem→Prop}(hf:P.funcs[f]? = some fn)(hc:cFn P fn=some af)(hl:Nat.ble args.length af.ntmps=true)
 (h:wpZ P af.ntmps m.next af.body (N9 af.ntmps af.results (S4 m.next K)) (W9 0 args []) m):Ctr P f args m K:=
 Z64 hm hf hc hl (Zv7 h fun _ _ _ h=>h)
theorem Zwy{α:Type}{c:ACode}(E:α→Env)(M:α→SMem)(μ:α→Nat)(Inv:α→Prop)(a0:α)(hs:WkR n n0 (E a0) (M a0) e m)(h0:Inv a0)
 (h:∀ a,Inv a → ∀ N:Env→SMem→Prop,(∀ a' e m,μ a'<μ a→Inv a'→WkR n n0 (E a') (M a') e m→N e m)→wpZ P n n0 c (P2 N Q) (E a) (M a)):wpZ P n n0 (.loop c) Q e m:=by
 refine⟨fun k e m=>∃ a,k=μ a∧Inv a∧e=E a∧m=M a,⟨μ a0,_,_,hs,a0,rfl,h0,rfl,rfl⟩,?_⟩
 rintro k e1 m1 ⟨a,rfl,ha,rfl,rfl⟩;exact h a ha _ fun a' e m h1 h2 h3=>⟨μ a',E a',M a',h1,h3,a',rfl,h2,rfl,rfl⟩
theorem T1{α:Type}{c:ACode}(E:α→Env)(M:α→SMem)(μ:α→Nat)(Inv:α→Prop)(a0:α)(l:List (Nat×Nat))(hs:SubR n0 l (E a0) (M a0) e m)(h0:Inv a0)
 (h:∀ a,Inv a → ∀ N:Env→SMem→Prop,(∀ a' l e m,μ a'<μ a→Inv a'→SubR n0 l (E a') (M a') e m→N e m)→wpZ P n n0 c (P2 N Q) (E a) (M a)):wpZ P n n0 (.loop c) Q e m:=
 Zwy E M μ Inv a0 hs.wk h0 fun a ha N hN=>h a ha N fun a' l e m h1 h2 h3=>hN a' e m h1 h2 h3.wk
@[congr] theorem Yfv{n n0 : Nat}{c : ACode}{Q : Exit → Env → SMem → Prop}{e e' : Env}{m m' : SMem}(h : e = e')(h' : m = m') : wpZ P n n0 c Q e m = wpZ P n n0 c Q e' m' := by rw [h, h']
end
end Go.AE
end
section
namespace Go.Known
open Go Go.AE Go.Proofs
abbrev GD(n:Nat)(a:AFn):Prop:=Go.AE.Good Tryz.prog (n,a)
theorem gG{n:Nat}{f:Func}{a:AFn}(h:Tryz.prog.funcs[n]? = some f)(hc:cFn Tryz.prog f=some a)(hk:(O9 a.ntmps a.body&&(Nat.ble a.ntmps bound&&Nat.ble (n+1) bound))=true):GD n a:=by
 simp only[bA]at hk;exact⟨⟨_,h,hc⟩,hk.1,hk.2.1,hk.2.2⟩
abbrev oZ(d:Nat)(x:AOp):AOper:=⟨some d,x,none,[]⟩
abbrev pZ(x:AOp):AOper:=⟨none,x,none,[]⟩
abbrev gZ(d g:Nat)(b:Bool)(x:AOp):AOper:=⟨some d,x,some (g,b),[]⟩
abbrev tZ(i:Nat):AOpd:=.tmp i
abbrev kZ(n:Int):AOpd:=.const (.int .i64 n)
abbrev bZ(b:Bool):AOpd:=.const (.bool b)
abbrev mv(d s:Nat):AOper:=⟨some d,.mov (.tmp s),none,[]⟩
abbrev mk(d:Nat)(n:Int):AOper:=⟨some d,.mov (.const (.int .i64 n)),none,[]⟩
abbrev mtZ(d:Nat):AOper:=⟨some d,.mov (.const (.bool true)),none,[]⟩
abbrev mfZ(d:Nat):AOper:=⟨some d,.mov (.const (.bool false)),none,[]⟩
abbrev mnZ(d:Nat):AOper:=⟨some d,.mov (.const .nilSl),none,[]⟩
abbrev lo(d s:Nat):AOper:=⟨some d,.load none (.tmp s),none,[]⟩
abbrev lw(d n s:Nat):AOper:=⟨some d,.load (some n) (.tmp s),none,[]⟩
abbrev fa(d o s:Nat):AOper:=⟨some d,.fieldA o (.tmp s),none,[]⟩
abbrev so(n a x:Nat):AOper:=⟨none,.store n (.tmp a) (.tmp x),none,[]⟩
abbrev ix(d k a i:Nat):AOper:=⟨some d,.idxA k (.tmp a) (.tmp i),none,[]⟩
abbrev le(d s:Nat):AOper:=⟨some d,.lenSl (.tmp s),none,[]⟩
abbrev nc(d s:Nat):AOper:=⟨some d,.nilChk (.tmp s),none,[]⟩
abbrev ex(d s i:Nat):AOper:=⟨some d,.ext (.tmp s) i,none,[]⟩
abbrev bo(d s:Nat):AOper:=⟨some d,.box (.tmp s),none,[]⟩
abbrev no(d s:Nat):AOper:=⟨some d,.un .not (.tmp s),none,[]⟩
abbrev pk1(d c s:Nat):AOper:=⟨some d,.pick (.tmp c) (.const (.bool true)) (.tmp s),none,[]⟩
abbrev pk0(d c s:Nat):AOper:=⟨some d,.pick (.tmp c) (.tmp s) (.const (.bool false)),none,[]⟩
abbrev ca1(d:Nat)(f:FuncId)(x:Nat):AOper:=⟨some d,.call (.fn f) [.tmp x],none,[]⟩
abbrev ca2(d:Nat)(f:FuncId)(x y:Nat):AOper:=⟨some d,.call (.fn f) [.tmp x,.tmp y],none,[]⟩
abbrev ca3(d:Nat)(f:FuncId)(x y z:Nat):AOper:=⟨some d,.call (.fn f) [.tmp x,.tmp y,.tmp z],none,[]⟩
abbrev aD(d x y:Nat):AOper:=⟨some d,.bin .add .num (.tmp x) (.tmp y),none,[]⟩
abbrev aDk(d x:Nat)(n:Int):AOper:=⟨some d,.bin .add .num (.tmp x) (.const (.int .i64 n)),none,[]⟩
abbrev aS(d x y:Nat):AOper:=⟨some d,.bin .sub .num (.tmp x) (.tmp y),none,[]⟩
abbrev aSk(d x:Nat)(n:Int):AOper:=⟨some d,.bin .sub .num (.tmp x) (.const (.int .i64 n)),none,[]⟩
abbrev aM(d x y:Nat):AOper:=⟨some d,.bin .mul .num (.tmp x) (.tmp y),none,[]⟩
abbrev aMk(d x:Nat)(n:Int):AOper:=⟨some d,.bin .mul .num (.tmp x) (.const (.int .i64 n)),none,[]⟩
abbrev aQk(d x:Nat)(n:Int):AOper:=⟨some d,.bin .quo .num (.tmp x) (.const (.int .i64 n)),none,[]⟩
abbrev aR(d x y:Nat):AOper:=⟨some d,.bin .rem .num (.tmp x) (.tmp y),none,[]⟩
abbrev aRk(d x:Nat)(n:Int):AOper:=⟨some d,.bin .rem .num (.tmp x) (.const (.int .i64 n)),none,[]⟩
abbrev cE(d x y:Nat):AOper:=⟨some d,.bin .eql .num (.tmp x) (.tmp y),none,[]⟩
abbrev cEk(d x:Nat)(n:Int):AOper:=⟨some d,.bin .eql .num (.tmp x) (.const (.int .i64 n)),none,[]⟩
abbrev cN(d x y:Nat):AOper:=⟨some d,.bin .neq .num (.tmp x) (.tmp y),none,[]⟩
abbrev cNk(d x:Nat)(n:Int):AOper:=⟨some d,.bin .neq .num (.tmp x) (.const (.int .i64 n)),none,[]⟩
abbrev cL(d x y:Nat):AOper:=⟨some d,.bin .lss .num (.tmp x) (.tmp y),none,[]⟩
abbrev cLk(d x:Nat)(n:Int):AOper:=⟨some d,.bin .lss .num (.tmp x) (.const (.int .i64 n)),none,[]⟩
abbrev cK(d x y:Nat):AOper:=⟨some d,.bin .leq .num (.tmp x) (.tmp y),none,[]⟩
abbrev cKk(d x:Nat)(n:Int):AOper:=⟨some d,.bin .leq .num (.tmp x) (.const (.int .i64 n)),none,[]⟩
abbrev cG(d x y:Nat):AOper:=⟨some d,.bin .gtr .num (.tmp x) (.tmp y),none,[]⟩
abbrev cGk(d x:Nat)(n:Int):AOper:=⟨some d,.bin .gtr .num (.tmp x) (.const (.int .i64 n)),none,[]⟩
abbrev cH(d x y:Nat):AOper:=⟨some d,.bin .geq .num (.tmp x) (.tmp y),none,[]⟩
abbrev cHk(d x:Nat)(n:Int):AOper:=⟨some d,.bin .geq .num (.tmp x) (.const (.int .i64 n)),none,[]⟩
abbrev gtl(d g s:Nat):AOper:=⟨some d,.load none (.tmp s),some (g,true),[]⟩
abbrev gtf(d g o s:Nat):AOper:=⟨some d,.fieldA o (.tmp s),some (g,true),[]⟩
abbrev gtm(d g s:Nat):AOper:=⟨some d,.mov (.tmp s),some (g,true),[]⟩
abbrev gfl(d g s:Nat):AOper:=⟨some d,.load none (.tmp s),some (g,false),[]⟩
abbrev gff(d g o s:Nat):AOper:=⟨some d,.fieldA o (.tmp s),some (g,false),[]⟩
abbrev gfm(d g s:Nat):AOper:=⟨some d,.mov (.tmp s),some (g,false),[]⟩
abbrev rf(l:List AOper):ACode:=.region false l
abbrev sr(l:List AOper)(c:ACode):ACode:=.seq (.region false l) c
theorem rQ(f:Func):cFn Tryz.prog f=cFn Tryz.prog f:=rfl
def oR{a b:Option AFn}(_:a=b):AFn:=match b with
 | some f=>f
 | none=>⟨0,[],.skip⟩
abbrev iV(n:Int):AVal:=.int .i64 n
abbrev bV(b:Bool):AVal:=.bool b
end Go.Known
end
section
namespace Go.Proofs
open Go.Shelf
def Tryz.lays156_ren:Go.Shelf.Ren:=⟨fun|156=>91 | 165=>138 | 166=>139 | 169=>140 | 240=>185 | 241=>186 | 276=>213 | 277=>214 | n=>n,fun|31=>81 | 9=>9 | 3=>3 | 4=>4 | 0=>0 | 20=>20 | 72=>186 | 76=>190 | 70=>183 | 37=>184 | 75=>189 | 127=>235 | 164=>264 | 5=>5 | 80=>192 | n=>n,fun|n=>n⟩
theorem Tryz.lays156:Go.Proofs.Lays.n156 Tryz.prog Tryz.lays156_ren:={
 mixed:=by kernel_rfl
 f156:=Tryz.func91.trans (congrArg some (by kernel_rfl))
 f165:=Tryz.func138.trans (congrArg some (by kernel_rfl))
 f166:=Tryz.func139.trans (congrArg some (by kernel_rfl))
 f169:=Tryz.func140.trans (congrArg some (by kernel_rfl))
 f240:=Tryz.func185.trans (congrArg some (by kernel_rfl))
 f241:=Tryz.func186.trans (congrArg some (by kernel_rfl))
 f276:=Tryz.func213.trans (congrArg some (by kernel_rfl))
 f277:=Tryz.func214.trans (congrArg some (by kernel_rfl))
 t0:=Tryz.underlying0
 a0:=Tryz.isAgg0
 z0:=Tryz.sizeOf0
 v0:=Tryz.zeroValue0
 t3:=Tryz.underlying3
 a3:=Tryz.isAgg3
 z3:=Tryz.sizeOf3
 v3:=Tryz.zeroValue3
 t4:=Tryz.underlying4
 a4:=Tryz.isAgg4
 z4:=Tryz.sizeOf4
 v4:=Tryz.zeroValue4
 t9:=Tryz.underlying9
 a9:=Tryz.isAgg9
 z9:=Tryz.sizeOf9
 v9:=Tryz.zeroValue9
 t20:=Tryz.underlying20
 a20:=Tryz.isAgg20
 z20:=Tryz.sizeOf20
 v20:=Tryz.zeroValue20
 t31:=Tryz.underlying81
 a31:=Tryz.isAgg81
 z31:=Tryz.sizeOf81
 v31:=Tryz.zeroValue81
 t37:=Tryz.underlying184
 a37:=Tryz.isAgg184
 z37:=Tryz.sizeOf184
 v37:=Tryz.zeroValue184
 t70:=Tryz.underlying183
 a70:=Tryz.isAgg183
 z70:=Tryz.sizeOf183
 v70:=Tryz.zeroValue183
 t72:=Tryz.underlying186
 a72:=Tryz.isAgg186
 z72:=Tryz.sizeOf186
 v72:=Tryz.zeroValue186
 t75:=Tryz.underlying189
 a75:=Tryz.isAgg189
 z75:=Tryz.sizeOf189
 v75:=Tryz.zeroValue189
 t76:=Tryz.underlying190
 a76:=Tryz.isAgg190
 z76:=Tryz.sizeOf190
 v76:=Tryz.zeroValue190
 t127:=Tryz.underlying235
 a127:=Tryz.isAgg235
 z127:=Tryz.sizeOf235
 v127:=Tryz.zeroValue235
 t164:=Tryz.underlying264
 a164:=Tryz.isAgg264
 z164:=Tryz.sizeOf264
 v164:=Tryz.zeroValue264 }
theorem Tryz.Builder_Extra_156:Builder.Extra Tryz.prog Tryz.lays156_ren:={
 sizeBuilder:=by kernel_rfl
 liesBuilder:=by kernel_rfl
 t5:=Tryz.underlying5
 a5:=Tryz.isAgg5
 z5:=Tryz.sizeOf5
 v5:=Tryz.zeroValue5
 infoByte:=by kernel_rfl
 cellsByte:=by kernel_rfl
 sizeByte:=by kernel_rfl
 neB5:=by decide }
open Go.RowKit in
theorem Tryz.strings_Join(bk o c:Nat)(xs:List ByteArray)(sep:ByteArray)(w:World)(hcells:∀ (j:Nat) x,xs[j]? = some x→w.cell? ⟨bk,o+j,none⟩=some (.string x))(hbk:bk<w.heap.size)(hN:xs.length≤140737488355328)(hcap:xs.length≤c)(hlen:(Lib.join (xs.map (·.data.toList)) sep.data.toList).length≤140737488355328) :
 Calls Tryz.prog 91 #[.slice (some ⟨bk,o,none⟩) xs.length c,.string sep] w fun e w'=>e=.returned (.string ⟨(Lib.join (xs.map (·.data.toList)) sep.data.toList).toArray⟩)∧Below w.heap.size w w':=Any.strings_Join Tryz.lays156 Tryz.Builder_Extra_156 bk o c xs sep w hcells hbk hN hcap hlen
end Go.Proofs
end
