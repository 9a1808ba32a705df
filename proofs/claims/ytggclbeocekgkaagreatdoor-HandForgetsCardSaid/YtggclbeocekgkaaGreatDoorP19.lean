/- Part 19 of the proof: AeNd, Ka. -/
import Derived.Test.YtggclbeocekgkaaGreatDoorP18
import Derived.Test.YtggclbeocekgkaaGreatDoorProg
set_option linter.all false
section
namespace Go.AE
open Go.RowKit
section
variable {q:Fp} {k:IntKind} {a b:Int} {x y:Bool}
theorem Kt:U6 .add q (.int k a) (.int k b)=some (.int k (k.wrap (a+b))):=by simp[U6,R8]
theorem KI:U6 .sub q (.int k a) (.int k b)=some (.int k (k.wrap (a - b))):=by simp[U6,R8]
theorem Ks:U6 .mul q (.int k a) (.int k b)=some (.int k (k.wrap (a*b))):=by simp[U6,R8]
theorem Kj:U6 .quo q (.int k a) (.int k b)=if b=0 then none else some (.int k (k.wrap (a.tdiv b))):=by simp[U6,R8]
theorem KD:U6 .rem q (.int k a) (.int k b)=if b=0 then none else some (.int k (a.tmod b)):=by simp[U6,R8]
theorem JX:U6 .eql q (.int k a) (.int k b)=some (.bool (decide (a=b))):=by simp[U6,R8]
theorem KE:U6 .neq q (.int k a) (.int k b)=some (.bool (!decide (a=b))):=by simp[U6,R8]
theorem JZ:U6 .lss q (.int k a) (.int k b)=some (.bool (decide (a<b))):=by simp[U6,R8]
theorem JV:U6 .leq q (.int k a) (.int k b)=some (.bool (decide (a≤b))):=by simp[U6,R8]
theorem KO:U6 .gtr q (.int k a) (.int k b)=some (.bool (decide (b<a))):=by simp[U6,R8]
theorem Kh:U6 .geq q (.int k a) (.int k b)=some (.bool (decide (b≤a))):=by simp[U6,R8]
theorem JC:U6 .eql .bool (.bool x) (.bool y)=some (.bool (x == y)):=by simp[U6,EJ]
theorem Kk:U6 .neq .bool (.bool x) (.bool y)=some (.bool (!(x == y))):=by simp[U6,EJ]
end
section
variable {n base i:Nat} {P:Program} {K:Env→Ad→Prop} {e:Env} {m:Ad}
def GS(w:Option Bool)(A B:Prop):Prop:=
 match w with
 | some true=>A
 | some false=>B
 | none=>False
@[congr] theorem Ydz{w w' : Option Bool}{A B : Prop}(h : w = w') : GS w A B = GS w' A B := by rw [h]
def GC(r:Option (Aa×List (Nat×Option Ai)))(K:Aa→List (Nat×Option Ai)→Prop):Prop:=
 match r with
 | some (v,d)=>K v d
 | none=>False
theorem rJ{v:Aa}{d:List (Nat×Option Ai)}{K:Aa→List (Nat×Option Ai)→Prop}:GC (some (v,d)) K=K v d:=propext Iff.rfl
@[congr] theorem Ydy{r r' : Option (Aa × List (Nat × Option Ai))}{K : Aa → List (Nat × Option Ai) → Prop}(h : r = r') : GC r K = GC r' K := by rw [h]
def Pa(c:Option (FuncId×List Aa))(K:FuncId→List Aa→Prop):Prop:=
 match c with
 | some (g,args)=>K g args
 | none=>False
@[congr] theorem Yez{c c' : Option (FuncId × List Aa)}{K : FuncId → List Aa → Prop}(h : c = c') : Pa c K = Pa c' K := by rw [h]
def DC(P:Program)(g:FuncId)(args:List Aa)(n:Nat)(x:List Nat)(m:Ad)(K:Aa→Option Ai→Prop):Prop:=∃ v d,Yj P g args v d n x m.mem∧K v d
theorem Ow{g:FuncId}{args:List Aa}{v:Aa}{n:Nat}{x:List Nat}{m:Ad}{K:Aa→Option Ai→Prop}(h:Al P g args v)(hK:K v none):DC P g args n x m K:=⟨v,none,h.x _ _ _,hK⟩
@[congr] theorem Yd6{g : FuncId}{args args' : List Aa}{n n' : Nat}{x : List Nat}{m m' : Ad}{K : Aa → Option Ai → Prop}(h : id args = args')(hn : n = n')(hm : m = m') : DC P g args n x m K = DC P g args' n' x m' K := by cases h; cases hn; cases hm; rfl
def V7(P:Program)(dc:Bool)(n base:Nat):List Af→Nat→(Env→Ad→Prop)→Env→Ad→Prop
 | [],_,K,e,m=>K e m
 | o :: r,i,K,e,m=>GS (Q7 n e o.guard)
  (match o.op with
  | .call f xs=>Pa (T4 n e f xs) fun g args=>match dc with
   | false=>SC P g args m (base+i) fun v m'=>V7 P dc n base r (i+1) K (W3 e o.dst v) m'
   | true=>DC P g args (base+i) (Ez base i r.length) m fun v d=>V7 P dc n base r (i+1) K (W3 e o.dst v) (m.app (Lh (base+i) d))
  | op=>GC (Y6 (base+i) (AG n e) m.get op) fun v d=>V7 P dc n base r (i+1) K (W3 e o.dst v) (m.app d))
  (V7 P dc n base r (i+1) K (W3 e o.dst Ag) m)
@[congr] theorem Yd1{dc : Bool}{n base base' i i' : Nat}{ops : List Af}{K : Env → Ad → Prop}{e e' : Env}{m m' : Ad}(hb : base = base')(hi : i = i')(h : e = e')(h' : m = m') : V7 P dc n base ops i K e m = V7 P dc n base' ops i' K e' m' := by rw [hb, hi, h, h']
theorem WT:∀ (ops:List Af) (i:Nat) (e:Env) (m:Ad),V7 P false n base ops i K e m→K1 P n base ops i K e m
 | [],_,_,_,h=>h
 | o :: r,i,e,m,h=>by
  simp only[V7]at h;simp only[K1];cases hw:Q7 n e o.guard with
  | none=>rw[hw]at h; exact h
  | some b=>
   rw[hw]at h;cases b with
   | false=>exact WT r _ _ _ h
   | true=>
    simp only[GS]at h;simp only;have other:∀ op,GC (Y6 (base+i) (AG n e) m.get op) (fun v d=>V7 P false n base r (i+1) K (W3 e o.dst v) (m.app d)) →
     (match Y6 (base+i) (AG n e) m.get op with|some (v,d)=>K1 P n base r (i+1) K (W3 e o.dst v) (m.app d)|none=>False):=by
     intro op hh;cases hs:Y6 (base+i) (AG n e) m.get op with
     | none=>rw[hs]at hh; exact hh
     | some vd=>obtain ⟨v,d⟩:=vd; rw[hs]at hh; exact WT r _ _ _ hh
    cases hop:o.op with
    | call f xs=>
     simp only[hop]at h;simp only;cases hc:T4 n e f xs with
     | none=>rw[hc]at h; exact h
     | some ga=>
      obtain⟨g,args⟩:=ga;rw[hc]at h;simp only[Pa]at h;exact h.mono fun v m'' hh=>by obtain⟨m',e',hk⟩:=hh; exact⟨m',e',WT r _ _ _ hk⟩
    | _=>rw[hop]at h; exact other _ h
theorem SK:∀ (ops:List Af) (fs:List FT) (e:Env) (m:Ad),ops.all (fun o=>o.un.isEmpty)=true→V7 P true n base ops fs.length K e m→F6 P n base ops fs K e m
 | [],_,_,_,_,h=>h
 | o :: r,fs,e,m,hu,h=>by
  simp only[List.all_cons,bA,List.isEmpty_iff]at hu;have hl:∀ f:FT,(fs++[f]).length=fs.length+1:=fun f=>by simp
  simp only[V7]at h;simp only[F6];cases hw:Q7 n e o.guard with
  | none=>rw[hw]at h; exact h
  | some b=>
   rw[hw]at h;cases b with
   | false=>exact SK r _ _ _ hu.2 (by rw[hl]; exact h)
   | true=>
    simp only[GS]at h;simp only[hu.1,O6];have other:∀ op,GC (Y6 (base+fs.length) (AG n e) m.get op) (fun v d=>V7 P true n base r (fs.length+1) K (W3 e o.dst v) (m.app d)) →
     (match Y6 (base+fs.length) (AG n e) m.get op with|some (v,d)=>True∧F6 P n base r (fs++[.ops (T3 (base+fs.length) (AG n e) op) (T2 (AG n e) op)]) K (W3 e o.dst v) (m.app d)|none=>False):=by
     intro op hh;cases hs:Y6 (base+fs.length) (AG n e) m.get op with
     | none=>rw[hs]at hh; exact hh
     | some vd=>obtain ⟨v,d⟩:=vd; rw[hs]at hh; exact⟨trivial,SK r _ _ _ hu.2 (by rw[hl]; exact hh)⟩
    cases hop:o.op with
    | call f xs=>
     simp only[hop]at h;simp only;cases hc:T4 n e f xs with
     | none=>rw[hc]at h; exact h
     | some ga=>
      obtain⟨g,args⟩:=ga;rw[hc]at h;simp only[Pa]at h;obtain⟨v,d,h1,h2⟩:=h;exact⟨v,d,h1,trivial,SK r _ _ _ hu.2 (by rw[hl]; exact h2)⟩
    | _=>rw[hop]at h; exact other _ h
end
def M5:List (Nat×FT)→Nat→Option FT
 | [],_=>none
 | (j,f) :: r,i=>if i=j then some f else M5 r i
def K3(fs:List (Nat×FT))(ft:FT):List Nat→Prop
 | []=>True
 | i :: r=>(match M5 fs i with
  | some f=>FT.indep f ft
  | none=>False)∧K3 fs ft r
def Kn:List Af→List Nat
 | []=>[]
 | ⟨_,_,_,un⟩ :: r=>un++Kn r
def N3(keep:List Nat)(i:Nat)(f:FT)(fs:List (Nat×FT)):List (Nat×FT):=bif U8 i keep then (i,f) :: fs else fs
def G9(P:Program)(keep:List Nat)(n base:Nat):List Af→Nat→List (Nat×FT)→(Env→Ad→Prop)→Env→Ad→Prop
 | [],_,_,K,e,m=>K e m
 | o :: r,i,fs,K,e,m=>match Q7 n e o.guard with
  | some true=>(match o.op with
   | .call f xs=>(match T4 n e f xs with
    | some (g,args)=>DC P g args (base+i) (Ez base i r.length) m fun v d=>K3 fs (.call (Li (base+i) d) (Ez base i r.length) m.next) o.un∧G9 P keep n base r (i+1) (N3 keep i (.call (Li (base+i) d) (Ez base i r.length) m.next) fs) K (W3 e o.dst v) (m.app (Lh (base+i) d))
    | none=>False)
   | op=>(match Y6 (base+i) (AG n e) m.get op with
    | some (v,d)=>K3 fs (.ops (T3 (base+i) (AG n e) op) (T2 (AG n e) op)) o.un∧G9 P keep n base r (i+1) (N3 keep i (.ops (T3 (base+i) (AG n e) op) (T2 (AG n e) op)) fs) K (W3 e o.dst v) (m.app d)
    | none=>False))
  | some false=>G9 P keep n base r (i+1) (N3 keep i (.ops [] []) fs) K (W3 e o.dst Ag) m
  | none=>False
theorem Sq{fs:List (Nat×FT)}{gs:List FT}{ft:FT}(hr:∀ j f,M5 fs j=some f→gs.getD j (.ops [] [])=f):∀ {un:List Nat},K3 fs ft un→O6 gs ft un
 | [],_=>trivial
 | i :: r,h=>by
  refine⟨?_,Sq hr h.2⟩;have h1:=h.1;cases hl:M5 fs i with
  | none=>rw[hl]at h1; exact h1.elim
  | some f=>rw[hl]at h1; rw[hr i f hl]; exact h1
theorem WY{P:Program}{keep:List Nat}{n base:Nat}{K:Env→Ad→Prop}:∀ (ops:List Af) (fs:List (Nat×FT)) (gs:List FT) (e:Env) (m:Ad),
 (∀ j f,M5 fs j=some f→gs.getD j (.ops [] [])=f∧j<gs.length)→G9 P keep n base ops gs.length fs K e m→F6 P n base ops gs K e m
 | [],_,_,_,_,_,h=>h
 | o :: r,fs,gs,e,m,hr,h=>by
  have hl:∀ f:FT,(gs++[f]).length=gs.length+1:=fun f=>by simp
  have hrec:∀ f,∀ j g,M5 (N3 keep gs.length f fs) j=some g→(gs++[f]).getD j (.ops [] [])=g∧j<(gs++[f]).length:=by
   intro f j g hj;have old:∀ j g,M5 fs j=some g→(gs++[f]).getD j (.ops [] [])=g∧j<(gs++[f]).length:=fun j g h1=>by
    obtain⟨h2,h3⟩:=hr j g h1;refine⟨?_,by rw[hl]; omega⟩
    rw[List.getD_eq_getElem?_getD,List.getElem?_append_left h3,← List.getD_eq_getElem?_getD];exact h2
   unfold N3 at hj;cases hm:U8 gs.length keep with
   | false=>rw[hm]at hj; exact old j g hj
   | true=>
    rw[hm]at hj;simp only[cond_true,M5]at hj;split at hj
    ·rename_i e1;injection hj with hj
     subst hj; subst e1;refine⟨?_,by rw[hl]; omega⟩
     rw[List.getD_eq_getElem?_getD,List.getElem?_append_right (lR _)];simp
    ·exact old j g hj
  simp only[G9]at h;simp only[F6];cases hw:Q7 n e o.guard with
  | none=>rw[hw]at h; exact h
  | some b=>
   rw[hw]at h;cases b with
   | false=>exact WY r _ _ _ _ (hrec _) (by rw[hl]; exact h)
   | true=>
    simp only at h ⊢;have other:∀ op,(match Y6 (base+gs.length) (AG n e) m.get op with
     | some (v,d)=>K3 fs (.ops (T3 (base+gs.length) (AG n e) op) (T2 (AG n e) op)) o.un∧G9 P keep n base r (gs.length+1) (N3 keep gs.length (.ops (T3 (base+gs.length) (AG n e) op) (T2 (AG n e) op)) fs) K (W3 e o.dst v) (m.app d)
     | none=>False) →
     (match Y6 (base+gs.length) (AG n e) m.get op with|some (v,d)=>O6 gs (.ops (T3 (base+gs.length) (AG n e) op) (T2 (AG n e) op)) o.un∧F6 P n base r (gs++[.ops (T3 (base+gs.length) (AG n e) op) (T2 (AG n e) op)]) K (W3 e o.dst v) (m.app d)|none=>False):=by
     intro op hh;cases hs:Y6 (base+gs.length) (AG n e) m.get op with
     | none=>rw[hs]at hh; exact hh
     | some vd=>
      obtain⟨v,d⟩:=vd;rw[hs]at hh;exact⟨Sq (fun j f hj=>(hr j f hj).1) hh.1,WY r _ _ _ _ (hrec _) (by rw[hl]; exact hh.2)⟩
    cases hop:o.op with
    | call f xs=>
     simp only[hop]at h;simp only;cases hc:T4 n e f xs with
     | none=>rw[hc]at h; exact h
     | some ga=>
      obtain⟨g,args⟩:=ga;rw[hc]at h;obtain⟨v,d,h1,h0,h2⟩:=h;exact⟨v,d,h1,Sq (fun j f hj=>(hr j f hj).1) h0,WY r _ _ _ _ (hrec _) (by rw[hl]; exact h2)⟩
    | _=>(have hh:=other o.op; rw[hop]at h hh; exact hh h)
def H2:Af→Bool
 | ⟨_,op,_,un⟩=>un.isEmpty&&match op with
  | .call _ _=>false
  | _=>true
def Cy(P:Program)(n n0:Nat):An→(Exit→Env→Ad→Prop)→Env→Ad→Prop
 | .skip,Q,e,m=>Q .normal e m
 | .region false ops,Q,e,m=>V7 P false n m.next ops 0 (Q .normal) e (m.at (m.next+ops.length))
 | .region true ops,Q,e,m=>if ops.all H2=true then V7 P false n m.next ops 0 (Q .normal) e (m.at (m.next+ops.length))
  else if ops.all (fun o=>o.un.isEmpty)=true then V7 P true n m.next ops 0 (Q .normal) e (m.at (m.next+ops.length))
  else G9 P (Kn ops) n m.next ops 0 [] (Q .normal) e (m.at (m.next+ops.length))
 | .seq a b,Q,e,m=>Cy P n n0 a (M8 (Cy P n n0 b Q) Q) e m
 | .cond c a b,Q,e,m=>Ly (AG n e c) (Cy P n n0 a Q e m) (Cy P n n0 b Q e m)
 | .block id c,Q,e,m=>Cy P n n0 c (G3 id Q) e m
 | .loop c,Q,e,m=>∃ (I:Nat→Env→Ad→Prop),(∃ k e0 m0,Lr n n0 e0 m0 e m∧I k e0 m0) ∧ ∀ k e1 m1,I k e1 m1→Cy P n n0 c (M8 (fun e' m'=>∃ j e0 m0,j<k∧Lr n n0 e0 m0 e' m'∧I j e0 m0) Q) e1 m1
 | .exit id,Q,e,m=>Q (.exit id) e m
 | .scope c,Q,e,m=>Cy P n n0 c Q e m
 | .label _,Q,e,m=>Q .normal e m
 | .ret,Q,e,m=>Q .ret e m
 | .bad,_,_,_=>False
section
variable {P:Program} {n n0:Nat}
theorem Xc{base:Nat}{K K':Env→Ad→Prop}(hk:∀ e m,K e m→K' e m):∀ (ops:List Af) (i:Nat) (e:Env) (m:Ad),K1 P n base ops i K e m→K1 P n base ops i K' e m
 | [],_,_,_,h=>hk _ _ h
 | o :: r,i,e,m,h=>by
  simp only[K1]at h ⊢;split at h
  ·exact Xc hk r _ _ _ h
  ·split at h
   ·split at h
    ·exact h.mono fun v m'' hh=>by obtain⟨m',e',hh⟩:=hh; exact⟨m',e',Xc hk r _ _ _ hh⟩
    ·exact h
   ·split at h
    ·exact Xc hk r _ _ _ h
    ·exact h
  ·exact h
theorem VI{base:Nat}{K K':Env→Ad→Prop}(hk:∀ e m,K e m→K' e m):∀ (ops:List Af) (fs:List FT) (e:Env) (m:Ad),F6 P n base ops fs K e m→F6 P n base ops fs K' e m
 | [],_,_,_,h=>hk _ _ h
 | o :: r,fs,e,m,h=>by
  simp only[F6]at h ⊢;split at h
  ·exact VI hk r _ _ _ h
  ·split at h
   ·split at h
    ·obtain⟨v,d,h1,h2,h3⟩:=h;exact⟨v,d,h1,h2,VI hk r _ _ _ h3⟩
    ·exact h
   ·split at h
    ·exact⟨h.1,VI hk r _ _ _ h.2⟩
    ·exact h
  ·exact h
theorem yw{c:An}:∀ {Q Q':Exit→Env→Ad→Prop} {e:Env} {m:Ad},Ei P n n0 c Q e m→(∀ x e m,Q x e m→Q' x e m)→Ei P n n0 c Q' e m:=by
 induction c with
 | skip=>exact fun h hq=>hq _ _ _ h
 | region draw ops=>
  intro Q Q' e m h hq;cases draw with
  | false=>exact Xc (hq .normal) ops 0 e _ h
  | true=>exact VI (hq .normal) ops [] e _ h
 | seq a b iha ihb=>
  intro Q Q' e m h hq;refine iha h fun x e m hx=>?_
  cases x<;>first|exact ihb hx hq|exact hq _ _ _ hx
 | cond c a b iha ihb=>
  intro Q Q' e m h hq;simp only[Ei]at h ⊢;split at h
  ·exact iha h hq
  ·exact ihb h hq
  ·exact h
 | block id c ih=>
  intro Q Q' e m h hq;refine ih h fun x e m hx=>?_
  cases x<;>simp only[G3]at hx ⊢ <;> first|exact hq _ _ _ hx|skip
  split at hx
  ·rename_i h1; rw[iP h1]; exact hq _ _ _ hx
  ·rename_i h1; rw[iN h1]; exact hq _ _ _ hx
 | loop c ih=>
  intro Q Q' e m h hq;obtain⟨I,h1,h2⟩:=h;refine⟨I,h1,fun k e1 m1 hI=>ih (h2 k e1 m1 hI) fun x e m hx=>?_⟩
  cases x<;>first|exact hx|exact hq _ _ _ hx
 | exit id=>exact fun h hq=>hq _ _ _ h
 | scope c ih=>exact fun h hq=>ih h hq
 | label l=>exact fun h hq=>hq _ _ _ h
 | ret=>exact fun h hq=>hq _ _ _ h
 | bad=>exact fun h _=>h
variable {Q:Exit→Env→Ad→Prop} {e:Env} {m:Ad}
theorem Jx:Cy P n n0 .skip Q e m=Q .normal e m:=propext Iff.rfl
theorem JO(ops:List Af):Cy P n n0 (.region false ops) Q e m=V7 P false n m.next ops 0 (Q .normal) e (m.at (m.next+ops.length)):=propext Iff.rfl
theorem KB(a b:An):Cy P n n0 (.seq a b) Q e m=Cy P n n0 a (M8 (Cy P n n0 b Q) Q) e m:=propext Iff.rfl
theorem Z0m(c:Ah)(a b:An):Cy P n n0 (.cond c a b) Q e m=Ly (AG n e c) (Cy P n n0 a Q e m) (Cy P n n0 b Q e m):=propext Iff.rfl
theorem JF(i:Nat)(c:An):Cy P n n0 (.block i c) Q e m=Cy P n n0 c (G3 i Q) e m:=propext Iff.rfl
theorem KN(c:An):Cy P n n0 (.scope c) Q e m=Cy P n n0 c Q e m:=propext Iff.rfl
theorem Lg(i:Nat):Cy P n n0 (.exit i) Q e m=Q (.exit i) e m:=propext Iff.rfl
theorem JA:Cy P n n0 .ret Q e m=Q .ret e m:=propext Iff.rfl
theorem Js(ops:List Af):Cy P n n0 (.region true ops) Q e m=if ops.all H2=true then V7 P false n m.next ops 0 (Q .normal) e (m.at (m.next+ops.length))
 else if ops.all (fun o=>o.un.isEmpty)=true then V7 P true n m.next ops 0 (Q .normal) e (m.at (m.next+ops.length))
 else G9 P (Kn ops) n m.next ops 0 [] (Q .normal) e (m.at (m.next+ops.length)):=propext Iff.rfl
theorem XS{base:Nat}{K:Env→Ad→Prop}:∀ (ops:List Af) (i:Nat) (e:Env) (m:Ad),ops.all H2=true→V7 P false n base ops i K e m→V7 P true n base ops i K e m
 | [],_,_,_,_,h=>h
 | ⟨dst,op,guard,un⟩ :: r,i,e,m,hu,h=>by
  simp only[List.all_cons,bA]at hu;simp only[V7]at h ⊢;cases hw:Q7 n e guard with
  | none=>rw[hw]at h; exact h
  | some b=>
   rw[hw]at h;cases b with
   | false=>exact XS r _ _ _ hu.2 h
   | true=>
    simp only[GS]at h ⊢;have other:∀ op,GC (Y6 (base+i) (AG n e) m.get op) (fun v d=>V7 P false n base r (i+1) K (W3 e dst v) (m.app d))→GC (Y6 (base+i) (AG n e) m.get op) (fun v d=>V7 P true n base r (i+1) K (W3 e dst v) (m.app d)):=by
     intro op hh;cases hs:Y6 (base+i) (AG n e) m.get op with
     | none=>rw[hs]at hh; exact hh
     | some vd=>obtain ⟨v,d⟩:=vd; rw[hs]at hh; exact XS r _ _ _ hu.2 hh
    cases op with
    | call f xs=>simp[H2]at hu
    | _=>exact other _ h
theorem Z3g{ops:List Af}(h:ops.all H2=true):ops.all (fun o=>o.un.isEmpty)=true:=by
 rw[List.all_eq_true]at h ⊢;intro o ho;have:=h o ho;obtain⟨dst,op,guard,un⟩:=o;simp only[H2,bA]at this;exact this.1
theorem tD{c:An}:∀ {Q Q':Exit→Env→Ad→Prop} {e:Env} {m:Ad},Cy P n n0 c Q e m→(∀ x e m,Q x e m→Q' x e m)→Ei P n n0 c Q' e m:=by
 induction c with
 | skip=>exact fun h hq=>hq _ _ _ h
 | region draw ops=>
  intro Q Q' e m h hq;refine yw ?_ hq;cases draw with
  | false=>exact WT ops 0 e _ h
  | true=>
   simp only[Cy]at h;split at h
   ·rename_i hb;exact SK ops [] e _ (Z3g hb) (XS ops 0 _ _ hb h)
   ·split at h
    ·rename_i hb;exact SK ops [] e _ hb h
    ·exact WY ops [] [] e _ (fun j f hj=>by simp[M5]at hj) h
 | seq a b iha ihb=>
  intro Q Q' e m h hq;refine iha h fun x e m hx=>?_
  cases x<;>first|exact ihb hx hq|exact hq _ _ _ hx
 | cond c a b iha ihb=>
  intro Q Q' e m h hq;simp only[Cy]at h;simp only[Ei];generalize AG n e c=v at h;cases v<;>first|exact h.elim|skip
  rename_i b;cases b
  ·exact ihb h hq
  ·exact iha h hq
 | block id c ih=>
  intro Q Q' e m h hq;refine ih h fun x e m hx=>?_
  cases x<;>simp only[G3]at hx ⊢ <;> first|exact hq _ _ _ hx|skip
  split at hx
  ·rename_i h1; rw[iP h1]; exact hq _ _ _ hx
  ·rename_i h1; rw[iN h1]; exact hq _ _ _ hx
 | loop c ih=>
  intro Q Q' e m h hq;obtain⟨I,h1,h2⟩:=h;refine⟨I,h1,fun k e1 m1 hI=>ih (h2 k e1 m1 hI) fun x e m hx=>?_⟩
  cases x<;>first|exact hx|exact hq _ _ _ hx
 | exit id=>exact fun h hq=>hq _ _ _ h
 | scope c ih=>exact fun h hq=>ih h hq
 | label l=>exact fun h hq=>hq _ _ _ h
 | ret=>exact fun h hq=>hq _ _ _ h
 | bad=>exact fun h _=>h
theorem sW(hm:P.follows .mixedOrders=true){f:FuncId}{fn:Func}{af:As}{args:List Aa}{m:Ad}{K:Aa→Ad→Prop}(hf:P.funcs[f]? = some fn)(hc:AS P fn=some af)(hl:Nat.ble args.length af.ntmps=true)
 (h:Cy P af.ntmps m.next af.body (G4 af.ntmps af.results (L8 m.next K)) (Q9 0 args []) m):AV P f args m K:=
 Z9z hm hf hc hl (tD h fun _ _ _ h=>h)
theorem Z8d{α:Type}{c:An}(E:α→Env)(M:α→Ad)(μ:α→Nat)(Inv:α→Prop)(a0:α)(hs:Lr n n0 (E a0) (M a0) e m)(h0:Inv a0)
 (h:∀ a,Inv a → ∀ N:Env→Ad→Prop,(∀ a' e m,μ a'<μ a→Inv a'→Lr n n0 (E a') (M a') e m→N e m)→Cy P n n0 c (M8 N Q) (E a) (M a)):Cy P n n0 (.loop c) Q e m:=by
 refine⟨fun k e m=>∃ a,k=μ a∧Inv a∧e=E a∧m=M a,⟨μ a0,_,_,hs,a0,rfl,h0,rfl,rfl⟩,?_⟩
 rintro k e1 m1 ⟨a,rfl,ha,rfl,rfl⟩;exact h a ha _ fun a' e m h1 h2 h3=>⟨μ a',E a',M a',h1,h3,a',rfl,h2,rfl,rfl⟩
theorem W5{α:Type}{c:An}(E:α→Env)(M:α→Ad)(μ:α→Nat)(Inv:α→Prop)(a0:α)(l:List (Nat×Nat))(hs:Bs n0 l (E a0) (M a0) e m)(h0:Inv a0)
 (h:∀ a,Inv a → ∀ N:Env→Ad→Prop,(∀ a' l e m,μ a'<μ a→Inv a'→Bs n0 l (E a') (M a') e m→N e m)→Cy P n n0 c (M8 N Q) (E a) (M a)):Cy P n n0 (.loop c) Q e m:=
 Z8d E M μ Inv a0 hs.wk h0 fun a ha N hN=>h a ha N fun a' l e m h1 h2 h3=>hN a' e m h1 h2 h3.wk
@[congr] theorem Ye1{n n0 : Nat}{c : An}{Q : Exit → Env → Ad → Prop}{e e' : Env}{m m' : Ad}(h : e = e')(h' : m = m') : Cy P n n0 c Q e m = Cy P n n0 c Q e' m' := by rw [h, h']
end
end Go.AE
end
section
namespace Go.Ac
open Go Go.AE Go.Proofs
abbrev GD(n:Nat)(a:As):Prop:=Go.AE.Good Tryz.prog (n,a)
theorem gG{n:Nat}{f:Func}{a:As}(h:Tryz.prog.funcs[n]? = some f)(hc:AS Tryz.prog f=some a)(hk:(U9 a.ntmps a.body&&(Nat.ble a.ntmps bound&&Nat.ble (n+1) bound))=true):GD n a:=by
 simp only[bA]at hk;exact⟨⟨_,h,hc⟩,hk.1,hk.2.1,hk.2.2⟩
abbrev oZ(d:Nat)(x:AU):Af:=⟨some d,x,none,[]⟩
abbrev pZ(x:AU):Af:=⟨none,x,none,[]⟩
abbrev gZ(d g:Nat)(b:Bool)(x:AU):Af:=⟨some d,x,some (g,b),[]⟩
abbrev tZ(i:Nat):Ah:=.tmp i
abbrev kZ(n:Int):Ah:=.const (.int .i64 n)
abbrev bZ(b:Bool):Ah:=.const (.bool b)
abbrev mv(d s:Nat):Af:=⟨some d,.Fz (.tmp s),none,[]⟩
abbrev mk(d:Nat)(n:Int):Af:=⟨some d,.Fz (.const (.int .i64 n)),none,[]⟩
abbrev XH(d:Nat):Af:=⟨some d,.Fz (.const (.bool true)),none,[]⟩
abbrev IU(d:Nat):Af:=⟨some d,.Fz (.const (.bool false)),none,[]⟩
abbrev UN(d:Nat):Af:=⟨some d,.Fz (.const .Ae),none,[]⟩
abbrev lo(d s:Nat):Af:=⟨some d,.load none (.tmp s),none,[]⟩
abbrev lw(d n s:Nat):Af:=⟨some d,.load (some n) (.tmp s),none,[]⟩
abbrev fa(d o s:Nat):Af:=⟨some d,.Bw o (.tmp s),none,[]⟩
abbrev so(n a x:Nat):Af:=⟨none,.store n (.tmp a) (.tmp x),none,[]⟩
abbrev ix(d k a i:Nat):Af:=⟨some d,.BZ k (.tmp a) (.tmp i),none,[]⟩
abbrev le(d s:Nat):Af:=⟨some d,.Ca (.tmp s),none,[]⟩
abbrev nc(d s:Nat):Af:=⟨some d,.Cd (.tmp s),none,[]⟩
abbrev ex(d s i:Nat):Af:=⟨some d,.ext (.tmp s) i,none,[]⟩
abbrev bo(d s:Nat):Af:=⟨some d,.box (.tmp s),none,[]⟩
abbrev no(d s:Nat):Af:=⟨some d,.un .not (.tmp s),none,[]⟩
abbrev CP(d c s:Nat):Af:=⟨some d,.pick (.tmp c) (.const (.bool true)) (.tmp s),none,[]⟩
abbrev Gz(d c s:Nat):Af:=⟨some d,.pick (.tmp c) (.tmp s) (.const (.bool false)),none,[]⟩
abbrev Xu(d:Nat)(f:FuncId)(x:Nat):Af:=⟨some d,.call (.fn f) [.tmp x],none,[]⟩
abbrev Ue(d:Nat)(f:FuncId)(x y:Nat):Af:=⟨some d,.call (.fn f) [.tmp x,.tmp y],none,[]⟩
abbrev P9(d:Nat)(f:FuncId)(x y z:Nat):Af:=⟨some d,.call (.fn f) [.tmp x,.tmp y,.tmp z],none,[]⟩
abbrev aD(d x y:Nat):Af:=⟨some d,.bin .add .num (.tmp x) (.tmp y),none,[]⟩
abbrev DM(d x:Nat)(n:Int):Af:=⟨some d,.bin .add .num (.tmp x) (.const (.int .i64 n)),none,[]⟩
abbrev aS(d x y:Nat):Af:=⟨some d,.bin .sub .num (.tmp x) (.tmp y),none,[]⟩
abbrev zX(d x:Nat)(n:Int):Af:=⟨some d,.bin .sub .num (.tmp x) (.const (.int .i64 n)),none,[]⟩
abbrev aM(d x y:Nat):Af:=⟨some d,.bin .mul .num (.tmp x) (.tmp y),none,[]⟩
abbrev bR(d x:Nat)(n:Int):Af:=⟨some d,.bin .quo .num (.tmp x) (.const (.int .i64 n)),none,[]⟩
abbrev aR(d x y:Nat):Af:=⟨some d,.bin .rem .num (.tmp x) (.tmp y),none,[]⟩
abbrev bS(d x:Nat)(n:Int):Af:=⟨some d,.bin .rem .num (.tmp x) (.const (.int .i64 n)),none,[]⟩
abbrev cE(d x y:Nat):Af:=⟨some d,.bin .eql .num (.tmp x) (.tmp y),none,[]⟩
abbrev Ev(d x:Nat)(n:Int):Af:=⟨some d,.bin .eql .num (.tmp x) (.const (.int .i64 n)),none,[]⟩
abbrev cN(d x y:Nat):Af:=⟨some d,.bin .neq .num (.tmp x) (.tmp y),none,[]⟩
abbrev Sa(d x:Nat)(n:Int):Af:=⟨some d,.bin .neq .num (.tmp x) (.const (.int .i64 n)),none,[]⟩
abbrev cL(d x y:Nat):Af:=⟨some d,.bin .lss .num (.tmp x) (.tmp y),none,[]⟩
abbrev qb(d x:Nat)(n:Int):Af:=⟨some d,.bin .lss .num (.tmp x) (.const (.int .i64 n)),none,[]⟩
abbrev Xs(d x:Nat)(n:Int):Af:=⟨some d,.bin .gtr .num (.tmp x) (.const (.int .i64 n)),none,[]⟩
abbrev cH(d x y:Nat):Af:=⟨some d,.bin .geq .num (.tmp x) (.tmp y),none,[]⟩
abbrev DV(d g s:Nat):Af:=⟨some d,.load none (.tmp s),some (g,true),[]⟩
abbrev Ea(d g o s:Nat):Af:=⟨some d,.Bw o (.tmp s),some (g,true),[]⟩
abbrev GV(d g s:Nat):Af:=⟨some d,.Fz (.tmp s),some (g,true),[]⟩
abbrev Ex(d g s:Nat):Af:=⟨some d,.load none (.tmp s),some (g,false),[]⟩
abbrev Du(d g o s:Nat):Af:=⟨some d,.Bw o (.tmp s),some (g,false),[]⟩
abbrev GU(d g s:Nat):Af:=⟨some d,.Fz (.tmp s),some (g,false),[]⟩
abbrev rf(l:List Af):An:=.region false l
abbrev sr(l:List Af)(c:An):An:=.seq (.region false l) c
theorem rQ(f:Func):AS Tryz.prog f=AS Tryz.prog f:=rfl
def oR{a b:Option As}(_:a=b):As:=match b with
 | some f=>f
 | none=>⟨0,[],.skip⟩
abbrev iV(n:Int):Aa:=.int .i64 n
abbrev bV(b:Bool):Aa:=.bool b
end Go.Ac
end
