/- Part 10 of the proof: AeNd, Ka, Shelf. -/
import Derived.Test.YtilmpmlkndfbjaaGreatDoorK9
import Derived.Test.YtilmpmlkndfbjaaGreatDoorProg
import Derived.Shelf.Strings.Builder1
import Derived.Shelf.Strings.Builder2
import Derived.Shelf.Strings.OnBuilder
set_option linter.all false
section
namespace Go.AE
open Go.RowKit
section
variable {q:Fi} {k:IntKind} {a b:Int} {x y:Bool}
theorem Ke:X4 .add q (.int k a) (.int k b)=some (.int k (k.wrap (a+b))):=by simp[X4,S7]
theorem KQ:X4 .sub q (.int k a) (.int k b)=some (.int k (k.wrap (a - b))):=by simp[X4,S7]
theorem K9:X4 .mul q (.int k a) (.int k b)=some (.int k (k.wrap (a*b))):=by simp[X4,S7]
theorem K5:X4 .quo q (.int k a) (.int k b)=if b=0 then none else some (.int k (k.wrap (a.tdiv b))):=by simp[X4,S7]
theorem JQ:X4 .rem q (.int k a) (.int k b)=if b=0 then none else some (.int k (a.tmod b)):=by simp[X4,S7]
theorem KL:X4 .eql q (.int k a) (.int k b)=some (.bool (decide (a=b))):=by simp[X4,S7]
theorem Jq:X4 .neq q (.int k a) (.int k b)=some (.bool (!decide (a=b))):=by simp[X4,S7]
theorem JL:X4 .lss q (.int k a) (.int k b)=some (.bool (decide (a<b))):=by simp[X4,S7]
theorem KJ:X4 .leq q (.int k a) (.int k b)=some (.bool (decide (a≤b))):=by simp[X4,S7]
theorem Ka:X4 .gtr q (.int k a) (.int k b)=some (.bool (decide (b<a))):=by simp[X4,S7]
theorem Jt:X4 .geq q (.int k a) (.int k b)=some (.bool (decide (b≤a))):=by simp[X4,S7]
theorem KH:X4 .eql .bool (.bool x) (.bool y)=some (.bool (x == y)):=by simp[X4,FG]
theorem KC:X4 .neq .bool (.bool x) (.bool y)=some (.bool (!(x == y))):=by simp[X4,FG]
end
section
variable {n base i:Nat} {P:Program} {K:Env→Ac→Prop} {e:Env} {m:Ac}
def HS(w:Option Bool)(A B:Prop):Prop:=
 match w with
 | some true=>A
 | some false=>B
 | none=>False
@[congr] theorem Yel{w w' : Option Bool}{A B : Prop}(h : w = w') : HS w A B = HS w' A B := by rw [h]
def Gy(r:Option (Aa×List (Nat×Option Ag)))(K:Aa→List (Nat×Option Ag)→Prop):Prop:=
 match r with
 | some (v,d)=>K v d
 | none=>False
theorem C2{v:Aa}{d:List (Nat×Option Ag)}{K:Aa→List (Nat×Option Ag)→Prop}:Gy (some (v,d)) K=K v d:=propext Iff.rfl
@[congr] theorem Ydi{r r' : Option (Aa × List (Nat × Option Ag))}{K : Aa → List (Nat × Option Ag) → Prop}(h : r = r') : Gy r K = Gy r' K := by rw [h]
def Mi(c:Option (FuncId×List Aa))(K:FuncId→List Aa→Prop):Prop:=
 match c with
 | some (g,args)=>K g args
 | none=>False
@[congr] theorem Yd4{c c' : Option (FuncId × List Aa)}{K : FuncId → List Aa → Prop}(h : c = c') : Mi c K = Mi c' K := by rw [h]
def DC(P:Program)(g:FuncId)(args:List Aa)(n:Nat)(x:List Nat)(m:Ac)(K:Aa→Option Ag→Prop):Prop:=∃ v d,ZG P g args v d n x m.mem∧K v d
theorem QY{g:FuncId}{args:List Aa}{v:Aa}{n:Nat}{x:List Nat}{m:Ac}{K:Aa→Option Ag→Prop}(h:AS P g args v)(hK:K v none):DC P g args n x m K:=⟨v,none,h.x _ _ _,hK⟩
@[congr] theorem Ydh{g : FuncId}{args args' : List Aa}{n n' : Nat}{x : List Nat}{m m' : Ac}{K : Aa → Option Ag → Prop}(h : id args = args')(hn : n = n')(hm : m = m') : DC P g args n x m K = DC P g args' n' x m' K := by cases h; cases hn; cases hm; rfl
def V5(P:Program)(dc:Bool)(n base:Nat):List Af→Nat→(Env→Ac→Prop)→Env→Ac→Prop
 | [],_,K,e,m=>K e m
 | o :: r,i,K,e,m=>HS (Q4 n e o.guard)
  (match o.op with
  | .call f xs=>Mi (U5 n e f xs) fun g args=>match dc with
   | false=>SC P g args m (base+i) fun v m'=>V5 P dc n base r (i+1) K (X6 e o.dst v) m'
   | true=>DC P g args (base+i) (DT base i r.length) m fun v d=>V5 P dc n base r (i+1) K (X6 e o.dst v) (m.app (Lg (base+i) d))
  | op=>Gy (Ak (base+i) (AI n e) m.get op) fun v d=>V5 P dc n base r (i+1) K (X6 e o.dst v) (m.app d))
  (V5 P dc n base r (i+1) K (X6 e o.dst Aj) m)
@[congr] theorem Yec{dc : Bool}{n base base' i i' : Nat}{ops : List Af}{K : Env → Ac → Prop}{e e' : Env}{m m' : Ac}(hb : base = base')(hi : i = i')(h : e = e')(h' : m = m') : V5 P dc n base ops i K e m = V5 P dc n base' ops i' K e' m' := by rw [hb, hi, h, h']
theorem We:∀ (ops:List Af) (i:Nat) (e:Env) (m:Ac),V5 P false n base ops i K e m→L6 P n base ops i K e m
 | [],_,_,_,h=>h
 | o :: r,i,e,m,h=>by
  simp only[V5]at h;simp only[L6];cases hw:Q4 n e o.guard with
  | none=>rw[hw]at h; exact h
  | some b=>
   rw[hw]at h;cases b with
   | false=>exact We r _ _ _ h
   | true=>
    simp only[HS]at h;simp only;have other:∀ op,Gy (Ak (base+i) (AI n e) m.get op) (fun v d=>V5 P false n base r (i+1) K (X6 e o.dst v) (m.app d)) →
     (match Ak (base+i) (AI n e) m.get op with|some (v,d)=>L6 P n base r (i+1) K (X6 e o.dst v) (m.app d)|none=>False):=by
     intro op hh;cases hs:Ak (base+i) (AI n e) m.get op with
     | none=>rw[hs]at hh; exact hh
     | some vd=>obtain ⟨v,d⟩:=vd; rw[hs]at hh; exact We r _ _ _ hh
    cases hop:o.op with
    | call f xs=>
     simp only[hop]at h;simp only;cases hc:U5 n e f xs with
     | none=>rw[hc]at h; exact h
     | some ga=>
      obtain⟨g,args⟩:=ga;rw[hc]at h;simp only[Mi]at h;exact h.mono fun v m'' hh=>by obtain⟨m',e',hk⟩:=hh; exact⟨m',e',We r _ _ _ hk⟩
    | _=>rw[hop]at h; exact other _ h
theorem RV:∀ (ops:List Af) (fs:List FT) (e:Env) (m:Ac),ops.all (fun o=>o.un.isEmpty)=true→V5 P true n base ops fs.length K e m→E2 P n base ops fs K e m
 | [],_,_,_,_,h=>h
 | o :: r,fs,e,m,hu,h=>by
  simp only[List.all_cons,bA,List.isEmpty_iff]at hu;have hl:∀ f:FT,(fs++[f]).length=fs.length+1:=fun f=>by simp
  simp only[V5]at h;simp only[E2];cases hw:Q4 n e o.guard with
  | none=>rw[hw]at h; exact h
  | some b=>
   rw[hw]at h;cases b with
   | false=>exact RV r _ _ _ hu.2 (by rw[hl]; exact h)
   | true=>
    simp only[HS]at h;simp only[hu.1,O0];have other:∀ op,Gy (Ak (base+fs.length) (AI n e) m.get op) (fun v d=>V5 P true n base r (fs.length+1) K (X6 e o.dst v) (m.app d)) →
     (match Ak (base+fs.length) (AI n e) m.get op with|some (v,d)=>True∧E2 P n base r (fs++[.ops (U9 (base+fs.length) (AI n e) op) (T2 (AI n e) op)]) K (X6 e o.dst v) (m.app d)|none=>False):=by
     intro op hh;cases hs:Ak (base+fs.length) (AI n e) m.get op with
     | none=>rw[hs]at hh; exact hh
     | some vd=>obtain ⟨v,d⟩:=vd; rw[hs]at hh; exact⟨trivial,RV r _ _ _ hu.2 (by rw[hl]; exact hh)⟩
    cases hop:o.op with
    | call f xs=>
     simp only[hop]at h;simp only;cases hc:U5 n e f xs with
     | none=>rw[hc]at h; exact h
     | some ga=>
      obtain⟨g,args⟩:=ga;rw[hc]at h;simp only[Mi]at h;obtain⟨v,d,h1,h2⟩:=h;exact⟨v,d,h1,trivial,RV r _ _ _ hu.2 (by rw[hl]; exact h2)⟩
    | _=>rw[hop]at h; exact other _ h
end
def M0:List (Nat×FT)→Nat→Option FT
 | [],_=>none
 | (j,f) :: r,i=>if i=j then some f else M0 r i
def J0(fs:List (Nat×FT))(ft:FT):List Nat→Prop
 | []=>True
 | i :: r=>(match M0 fs i with
  | some f=>FT.indep f ft
  | none=>False)∧J0 fs ft r
def Lb:List Af→List Nat
 | []=>[]
 | ⟨_,_,_,un⟩ :: r=>un++Lb r
def O3(keep:List Nat)(i:Nat)(f:FT)(fs:List (Nat×FT)):List (Nat×FT):=bif X3 i keep then (i,f) :: fs else fs
def F8(P:Program)(keep:List Nat)(n base:Nat):List Af→Nat→List (Nat×FT)→(Env→Ac→Prop)→Env→Ac→Prop
 | [],_,_,K,e,m=>K e m
 | o :: r,i,fs,K,e,m=>match Q4 n e o.guard with
  | some true=>(match o.op with
   | .call f xs=>(match U5 n e f xs with
    | some (g,args)=>DC P g args (base+i) (DT base i r.length) m fun v d=>J0 fs (.call (Li (base+i) d) (DT base i r.length) m.next) o.un∧F8 P keep n base r (i+1) (O3 keep i (.call (Li (base+i) d) (DT base i r.length) m.next) fs) K (X6 e o.dst v) (m.app (Lg (base+i) d))
    | none=>False)
   | op=>(match Ak (base+i) (AI n e) m.get op with
    | some (v,d)=>J0 fs (.ops (U9 (base+i) (AI n e) op) (T2 (AI n e) op)) o.un∧F8 P keep n base r (i+1) (O3 keep i (.ops (U9 (base+i) (AI n e) op) (T2 (AI n e) op)) fs) K (X6 e o.dst v) (m.app d)
    | none=>False))
  | some false=>F8 P keep n base r (i+1) (O3 keep i (.ops [] []) fs) K (X6 e o.dst Aj) m
  | none=>False
theorem RT{fs:List (Nat×FT)}{gs:List FT}{ft:FT}(hr:∀ j f,M0 fs j=some f→gs.getD j (.ops [] [])=f):∀ {un:List Nat},J0 fs ft un→O0 gs ft un
 | [],_=>trivial
 | i :: r,h=>by
  refine⟨?_,RT hr h.2⟩;have h1:=h.1;cases hl:M0 fs i with
  | none=>rw[hl]at h1; exact h1.elim
  | some f=>rw[hl]at h1; rw[hr i f hl]; exact h1
theorem Wy{P:Program}{keep:List Nat}{n base:Nat}{K:Env→Ac→Prop}:∀ (ops:List Af) (fs:List (Nat×FT)) (gs:List FT) (e:Env) (m:Ac),
 (∀ j f,M0 fs j=some f→gs.getD j (.ops [] [])=f∧j<gs.length)→F8 P keep n base ops gs.length fs K e m→E2 P n base ops gs K e m
 | [],_,_,_,_,_,h=>h
 | o :: r,fs,gs,e,m,hr,h=>by
  have hl:∀ f:FT,(gs++[f]).length=gs.length+1:=fun f=>by simp
  have hrec:∀ f,∀ j g,M0 (O3 keep gs.length f fs) j=some g→(gs++[f]).getD j (.ops [] [])=g∧j<(gs++[f]).length:=by
   intro f j g hj;have old:∀ j g,M0 fs j=some g→(gs++[f]).getD j (.ops [] [])=g∧j<(gs++[f]).length:=fun j g h1=>by
    obtain⟨h2,h3⟩:=hr j g h1;refine⟨?_,by rw[hl]; omega⟩
    rw[List.getD_eq_getElem?_getD,List.getElem?_append_left h3,← List.getD_eq_getElem?_getD];exact h2
   unfold O3 at hj;cases hm:X3 gs.length keep with
   | false=>rw[hm]at hj; exact old j g hj
   | true=>
    rw[hm]at hj;simp only[cond_true,M0]at hj;split at hj
    ·rename_i e1;injection hj with hj
     subst hj; subst e1;refine⟨?_,by rw[hl]; omega⟩
     rw[List.getD_eq_getElem?_getD,List.getElem?_append_right (lR _)];simp
    ·exact old j g hj
  simp only[F8]at h;simp only[E2];cases hw:Q4 n e o.guard with
  | none=>rw[hw]at h; exact h
  | some b=>
   rw[hw]at h;cases b with
   | false=>exact Wy r _ _ _ _ (hrec _) (by rw[hl]; exact h)
   | true=>
    simp only at h ⊢;have other:∀ op,(match Ak (base+gs.length) (AI n e) m.get op with
     | some (v,d)=>J0 fs (.ops (U9 (base+gs.length) (AI n e) op) (T2 (AI n e) op)) o.un∧F8 P keep n base r (gs.length+1) (O3 keep gs.length (.ops (U9 (base+gs.length) (AI n e) op) (T2 (AI n e) op)) fs) K (X6 e o.dst v) (m.app d)
     | none=>False) →
     (match Ak (base+gs.length) (AI n e) m.get op with|some (v,d)=>O0 gs (.ops (U9 (base+gs.length) (AI n e) op) (T2 (AI n e) op)) o.un∧E2 P n base r (gs++[.ops (U9 (base+gs.length) (AI n e) op) (T2 (AI n e) op)]) K (X6 e o.dst v) (m.app d)|none=>False):=by
     intro op hh;cases hs:Ak (base+gs.length) (AI n e) m.get op with
     | none=>rw[hs]at hh; exact hh
     | some vd=>
      obtain⟨v,d⟩:=vd;rw[hs]at hh;exact⟨RT (fun j f hj=>(hr j f hj).1) hh.1,Wy r _ _ _ _ (hrec _) (by rw[hl]; exact hh.2)⟩
    cases hop:o.op with
    | call f xs=>
     simp only[hop]at h;simp only;cases hc:U5 n e f xs with
     | none=>rw[hc]at h; exact h
     | some ga=>
      obtain⟨g,args⟩:=ga;rw[hc]at h;obtain⟨v,d,h1,h0,h2⟩:=h;exact⟨v,d,h1,RT (fun j f hj=>(hr j f hj).1) h0,Wy r _ _ _ _ (hrec _) (by rw[hl]; exact h2)⟩
    | _=>(have hh:=other o.op; rw[hop]at h hh; exact hh h)
def I0:Af→Bool
 | ⟨_,op,_,un⟩=>un.isEmpty&&match op with
  | .call _ _=>false
  | _=>true
def CT(P:Program)(n n0:Nat):Aq→(Exit→Env→Ac→Prop)→Env→Ac→Prop
 | .skip,Q,e,m=>Q .normal e m
 | .region false ops,Q,e,m=>V5 P false n m.next ops 0 (Q .normal) e (m.at (m.next+ops.length))
 | .region true ops,Q,e,m=>if ops.all I0=true then V5 P false n m.next ops 0 (Q .normal) e (m.at (m.next+ops.length))
  else if ops.all (fun o=>o.un.isEmpty)=true then V5 P true n m.next ops 0 (Q .normal) e (m.at (m.next+ops.length))
  else F8 P (Lb ops) n m.next ops 0 [] (Q .normal) e (m.at (m.next+ops.length))
 | .seq a b,Q,e,m=>CT P n n0 a (P5 (CT P n n0 b Q) Q) e m
 | .cond c a b,Q,e,m=>Kj (AI n e c) (CT P n n0 a Q e m) (CT P n n0 b Q e m)
 | .block id c,Q,e,m=>CT P n n0 c (H6 id Q) e m
 | .loop c,Q,e,m=>∃ (I:Nat→Env→Ac→Prop),(∃ k e0 m0,Dk n n0 e0 m0 e m∧I k e0 m0) ∧ ∀ k e1 m1,I k e1 m1→CT P n n0 c (P5 (fun e' m'=>∃ j e0 m0,j<k∧Dk n n0 e0 m0 e' m'∧I j e0 m0) Q) e1 m1
 | .exit id,Q,e,m=>Q (.exit id) e m
 | .scope c,Q,e,m=>CT P n n0 c Q e m
 | .label _,Q,e,m=>Q .normal e m
 | .ret,Q,e,m=>Q .ret e m
 | .bad,_,_,_=>False
section
variable {P:Program} {n n0:Nat}
theorem VR{base:Nat}{K K':Env→Ac→Prop}(hk:∀ e m,K e m→K' e m):∀ (ops:List Af) (i:Nat) (e:Env) (m:Ac),L6 P n base ops i K e m→L6 P n base ops i K' e m
 | [],_,_,_,h=>hk _ _ h
 | o :: r,i,e,m,h=>by
  simp only[L6]at h ⊢;split at h
  ·exact VR hk r _ _ _ h
  ·split at h
   ·split at h
    ·exact h.mono fun v m'' hh=>by obtain⟨m',e',hh⟩:=hh; exact⟨m',e',VR hk r _ _ _ hh⟩
    ·exact h
   ·split at h
    ·exact VR hk r _ _ _ h
    ·exact h
  ·exact h
theorem Wz{base:Nat}{K K':Env→Ac→Prop}(hk:∀ e m,K e m→K' e m):∀ (ops:List Af) (fs:List FT) (e:Env) (m:Ac),E2 P n base ops fs K e m→E2 P n base ops fs K' e m
 | [],_,_,_,h=>hk _ _ h
 | o :: r,fs,e,m,h=>by
  simp only[E2]at h ⊢;split at h
  ·exact Wz hk r _ _ _ h
  ·split at h
   ·split at h
    ·obtain⟨v,d,h1,h2,h3⟩:=h;exact⟨v,d,h1,h2,Wz hk r _ _ _ h3⟩
    ·exact h
   ·split at h
    ·exact⟨h.1,Wz hk r _ _ _ h.2⟩
    ·exact h
  ·exact h
theorem zH{c:Aq}:∀ {Q Q':Exit→Env→Ac→Prop} {e:Env} {m:Ac},EL P n n0 c Q e m→(∀ x e m,Q x e m→Q' x e m)→EL P n n0 c Q' e m:=by
 induction c with
 | skip=>exact fun h hq=>hq _ _ _ h
 | region draw ops=>
  intro Q Q' e m h hq;cases draw with
  | false=>exact VR (hq .normal) ops 0 e _ h
  | true=>exact Wz (hq .normal) ops [] e _ h
 | seq a b iha ihb=>
  intro Q Q' e m h hq;refine iha h fun x e m hx=>?_
  cases x<;>first|exact ihb hx hq|exact hq _ _ _ hx
 | cond c a b iha ihb=>
  intro Q Q' e m h hq;simp only[EL]at h ⊢;split at h
  ·exact iha h hq
  ·exact ihb h hq
  ·exact h
 | block id c ih=>
  intro Q Q' e m h hq;refine ih h fun x e m hx=>?_
  cases x<;>simp only[H6]at hx ⊢ <;> first|exact hq _ _ _ hx|skip
  split at hx
  ·rename_i h1; rw[iP h1]; exact hq _ _ _ hx
  ·rename_i h1; rw[iN h1]; exact hq _ _ _ hx
 | loop c ih=>
  intro Q Q' e m h hq;obtain⟨I,h1,h2⟩:=h;refine⟨I,h1,fun k e1 m1 hI=>ih (h2 k e1 m1 hI) fun x e m hx=>?_⟩
  cases x<;>first|exact hx|exact hq _ _ _ hx
 | exit id=>exact fun h hq=>hq _ _ _ h
 | scope c ih=>exact fun h hq=>ih h hq
 | label l=>exact fun h hq=>hq _ _ _ h
 | ret=>exact fun h hq=>hq _ _ _ h
 | bad=>exact fun h _=>h
variable {Q:Exit→Env→Ac→Prop} {e:Env} {m:Ac}
theorem KV:CT P n n0 .skip Q e m=Q .normal e m:=propext Iff.rfl
theorem KF(ops:List Af):CT P n n0 (.region false ops) Q e m=V5 P false n m.next ops 0 (Q .normal) e (m.at (m.next+ops.length)):=propext Iff.rfl
theorem KM(a b:Aq):CT P n n0 (.seq a b) Q e m=CT P n n0 a (P5 (CT P n n0 b Q) Q) e m:=propext Iff.rfl
theorem zO(c:Ah)(a b:Aq):CT P n n0 (.cond c a b) Q e m=Kj (AI n e c) (CT P n n0 a Q e m) (CT P n n0 b Q e m):=propext Iff.rfl
theorem KI(i:Nat)(c:Aq):CT P n n0 (.block i c) Q e m=CT P n n0 c (H6 i Q) e m:=propext Iff.rfl
theorem K2(c:Aq):CT P n n0 (.scope c) Q e m=CT P n n0 c Q e m:=propext Iff.rfl
theorem Ku(i:Nat):CT P n n0 (.exit i) Q e m=Q (.exit i) e m:=propext Iff.rfl
theorem KT:CT P n n0 .ret Q e m=Q .ret e m:=propext Iff.rfl
theorem Kv(ops:List Af):CT P n n0 (.region true ops) Q e m=if ops.all I0=true then V5 P false n m.next ops 0 (Q .normal) e (m.at (m.next+ops.length))
 else if ops.all (fun o=>o.un.isEmpty)=true then V5 P true n m.next ops 0 (Q .normal) e (m.at (m.next+ops.length))
 else F8 P (Lb ops) n m.next ops 0 [] (Q .normal) e (m.at (m.next+ops.length)):=propext Iff.rfl
theorem Za{base:Nat}{K:Env→Ac→Prop}:∀ (ops:List Af) (i:Nat) (e:Env) (m:Ac),ops.all I0=true→V5 P false n base ops i K e m→V5 P true n base ops i K e m
 | [],_,_,_,_,h=>h
 | ⟨dst,op,guard,un⟩ :: r,i,e,m,hu,h=>by
  simp only[List.all_cons,bA]at hu;simp only[V5]at h ⊢;cases hw:Q4 n e guard with
  | none=>rw[hw]at h; exact h
  | some b=>
   rw[hw]at h;cases b with
   | false=>exact Za r _ _ _ hu.2 h
   | true=>
    simp only[HS]at h ⊢;have other:∀ op,Gy (Ak (base+i) (AI n e) m.get op) (fun v d=>V5 P false n base r (i+1) K (X6 e dst v) (m.app d))→Gy (Ak (base+i) (AI n e) m.get op) (fun v d=>V5 P true n base r (i+1) K (X6 e dst v) (m.app d)):=by
     intro op hh;cases hs:Ak (base+i) (AI n e) m.get op with
     | none=>rw[hs]at hh; exact hh
     | some vd=>obtain ⟨v,d⟩:=vd; rw[hs]at hh; exact Za r _ _ _ hu.2 hh
    cases op with
    | call f xs=>simp[I0]at hu
    | _=>exact other _ h
theorem Zz5{ops:List Af}(h:ops.all I0=true):ops.all (fun o=>o.un.isEmpty)=true:=by
 rw[List.all_eq_true]at h ⊢;intro o ho;have:=h o ho;obtain⟨dst,op,guard,un⟩:=o;simp only[I0,bA]at this;exact this.1
theorem nC{c:Aq}:∀ {Q Q':Exit→Env→Ac→Prop} {e:Env} {m:Ac},CT P n n0 c Q e m→(∀ x e m,Q x e m→Q' x e m)→EL P n n0 c Q' e m:=by
 induction c with
 | skip=>exact fun h hq=>hq _ _ _ h
 | region draw ops=>
  intro Q Q' e m h hq;refine zH ?_ hq;cases draw with
  | false=>exact We ops 0 e _ h
  | true=>
   simp only[CT]at h;split at h
   ·rename_i hb;exact RV ops [] e _ (Zz5 hb) (Za ops 0 _ _ hb h)
   ·split at h
    ·rename_i hb;exact RV ops [] e _ hb h
    ·exact Wy ops [] [] e _ (fun j f hj=>by simp[M0]at hj) h
 | seq a b iha ihb=>
  intro Q Q' e m h hq;refine iha h fun x e m hx=>?_
  cases x<;>first|exact ihb hx hq|exact hq _ _ _ hx
 | cond c a b iha ihb=>
  intro Q Q' e m h hq;simp only[CT]at h;simp only[EL];generalize AI n e c=v at h;cases v<;>first|exact h.elim|skip
  rename_i b;cases b
  ·exact ihb h hq
  ·exact iha h hq
 | block id c ih=>
  intro Q Q' e m h hq;refine ih h fun x e m hx=>?_
  cases x<;>simp only[H6]at hx ⊢ <;> first|exact hq _ _ _ hx|skip
  split at hx
  ·rename_i h1; rw[iP h1]; exact hq _ _ _ hx
  ·rename_i h1; rw[iN h1]; exact hq _ _ _ hx
 | loop c ih=>
  intro Q Q' e m h hq;obtain⟨I,h1,h2⟩:=h;refine⟨I,h1,fun k e1 m1 hI=>ih (h2 k e1 m1 hI) fun x e m hx=>?_⟩
  cases x<;>first|exact hx|exact hq _ _ _ hx
 | exit id=>exact fun h hq=>hq _ _ _ h
 | scope c ih=>exact fun h hq=>ih h hq
 | label l=>exact fun h hq=>hq _ _ _ h
 | ret=>exact fun h hq=>hq _ _ _ h
 | bad=>exact fun h _=>h
theorem tD(hm:P.follows .mixedOrders=true){f:FuncId}{fn:Func}{af:Av}{args:List Aa}{m:Ac}{K:Aa→Ac→Prop}(hf:P.funcs[f]? = some fn)(hc:Bt P fn=some af)(hl:Nat.ble args.length af.ntmps=true)
 (h:CT P af.ntmps m.next af.body (I6 af.ntmps af.results (M4 m.next K)) (P3 0 args []) m):Cc P f args m K:=
 Z9n hm hf hc hl (nC h fun _ _ _ h=>h)
theorem Z8c{α:Type}{c:Aq}(E:α→Env)(M:α→Ac)(μ:α→Nat)(Inv:α→Prop)(a0:α)(hs:Dk n n0 (E a0) (M a0) e m)(h0:Inv a0)
 (h:∀ a,Inv a → ∀ N:Env→Ac→Prop,(∀ a' e m,μ a'<μ a→Inv a'→Dk n n0 (E a') (M a') e m→N e m)→CT P n n0 c (P5 N Q) (E a) (M a)):CT P n n0 (.loop c) Q e m:=by
 refine⟨fun k e m=>∃ a,k=μ a∧Inv a∧e=E a∧m=M a,⟨μ a0,_,_,hs,a0,rfl,h0,rfl,rfl⟩,?_⟩
 rintro k e1 m1 ⟨a,rfl,ha,rfl,rfl⟩;exact h a ha _ fun a' e m h1 h2 h3=>⟨μ a',E a',M a',h1,h3,a',rfl,h2,rfl,rfl⟩
theorem C5{α:Type}{c:Aq}(E:α→Env)(M:α→Ac)(μ:α→Nat)(Inv:α→Prop)(a0:α)(l:List (Nat×Nat))(hs:Bq n0 l (E a0) (M a0) e m)(h0:Inv a0)
 (h:∀ a,Inv a → ∀ N:Env→Ac→Prop,(∀ a' l e m,μ a'<μ a→Inv a'→Bq n0 l (E a') (M a') e m→N e m)→CT P n n0 c (P5 N Q) (E a) (M a)):CT P n n0 (.loop c) Q e m:=
 Z8c E M μ Inv a0 hs.wk h0 fun a ha N hN=>h a ha N fun a' l e m h1 h2 h3=>hN a' e m h1 h2 h3.wk
@[congr] theorem Ydn{n n0 : Nat}{c : Aq}{Q : Exit → Env → Ac → Prop}{e e' : Env}{m m' : Ac}(h : e = e')(h' : m = m') : CT P n n0 c Q e m = CT P n n0 c Q e' m' := by rw [h, h']
end
end Go.AE
end
section
namespace Go.Ab
open Go Go.AE Go.Proofs
abbrev GD(n:Nat)(a:Av):Prop:=Go.AE.Good Tryz.prog (n,a)
theorem gG{n:Nat}{f:Func}{a:Av}(h:Tryz.prog.funcs[n]? = some f)(hc:Bt Tryz.prog f=some a)(hk:(O2 a.ntmps a.body&&(Nat.ble a.ntmps bound&&Nat.ble (n+1) bound))=true):GD n a:=by
 simp only[bA]at hk;exact⟨⟨_,h,hc⟩,hk.1,hk.2.1,hk.2.2⟩
abbrev oZ(d:Nat)(x:AQ):Af:=⟨some d,x,none,[]⟩
abbrev pZ(x:AQ):Af:=⟨none,x,none,[]⟩
abbrev gZ(d g:Nat)(b:Bool)(x:AQ):Af:=⟨some d,x,some (g,b),[]⟩
abbrev tZ(i:Nat):Ah:=.tmp i
abbrev kZ(n:Int):Ah:=.const (.int .i64 n)
abbrev bZ(b:Bool):Ah:=.const (.bool b)
abbrev mv(d s:Nat):Af:=⟨some d,.Fp (.tmp s),none,[]⟩
abbrev mk(d:Nat)(n:Int):Af:=⟨some d,.Fp (.const (.int .i64 n)),none,[]⟩
abbrev kG(d:Nat):Af:=⟨some d,.Fp (.const (.bool true)),none,[]⟩
abbrev Fo(d:Nat):Af:=⟨some d,.Fp (.const (.bool false)),none,[]⟩
abbrev Vk(d:Nat):Af:=⟨some d,.Fp (.const .Ai),none,[]⟩
abbrev lo(d s:Nat):Af:=⟨some d,.load none (.tmp s),none,[]⟩
abbrev lw(d n s:Nat):Af:=⟨some d,.load (some n) (.tmp s),none,[]⟩
abbrev fa(d o s:Nat):Af:=⟨some d,.BH o (.tmp s),none,[]⟩
abbrev so(n a x:Nat):Af:=⟨none,.store n (.tmp a) (.tmp x),none,[]⟩
abbrev ix(d k a i:Nat):Af:=⟨some d,.BI k (.tmp a) (.tmp i),none,[]⟩
abbrev le(d s:Nat):Af:=⟨some d,.BC (.tmp s),none,[]⟩
abbrev nc(d s:Nat):Af:=⟨some d,.Ct (.tmp s),none,[]⟩
abbrev ex(d s i:Nat):Af:=⟨some d,.ext (.tmp s) i,none,[]⟩
abbrev bo(d s:Nat):Af:=⟨some d,.box (.tmp s),none,[]⟩
abbrev no(d s:Nat):Af:=⟨some d,.un .not (.tmp s),none,[]⟩
abbrev Ef(d c s:Nat):Af:=⟨some d,.pick (.tmp c) (.const (.bool true)) (.tmp s),none,[]⟩
abbrev Ho(d c s:Nat):Af:=⟨some d,.pick (.tmp c) (.tmp s) (.const (.bool false)),none,[]⟩
abbrev Lh(d:Nat)(f:FuncId)(x:Nat):Af:=⟨some d,.call (.fn f) [.tmp x],none,[]⟩
abbrev XF(d:Nat)(f:FuncId)(x y:Nat):Af:=⟨some d,.call (.fn f) [.tmp x,.tmp y],none,[]⟩
abbrev XG(d:Nat)(f:FuncId)(x y z:Nat):Af:=⟨some d,.call (.fn f) [.tmp x,.tmp y,.tmp z],none,[]⟩
abbrev aD(d x y:Nat):Af:=⟨some d,.bin .add .num (.tmp x) (.tmp y),none,[]⟩
abbrev Dw(d x:Nat)(n:Int):Af:=⟨some d,.bin .add .num (.tmp x) (.const (.int .i64 n)),none,[]⟩
abbrev aS(d x y:Nat):Af:=⟨some d,.bin .sub .num (.tmp x) (.tmp y),none,[]⟩
abbrev dG(d x:Nat)(n:Int):Af:=⟨some d,.bin .sub .num (.tmp x) (.const (.int .i64 n)),none,[]⟩
abbrev TD(d x:Nat)(n:Int):Af:=⟨some d,.bin .quo .num (.tmp x) (.const (.int .i64 n)),none,[]⟩
abbrev aR(d x y:Nat):Af:=⟨some d,.bin .rem .num (.tmp x) (.tmp y),none,[]⟩
abbrev Np(d x:Nat)(n:Int):Af:=⟨some d,.bin .rem .num (.tmp x) (.const (.int .i64 n)),none,[]⟩
abbrev cE(d x y:Nat):Af:=⟨some d,.bin .eql .num (.tmp x) (.tmp y),none,[]⟩
abbrev FD(d x:Nat)(n:Int):Af:=⟨some d,.bin .eql .num (.tmp x) (.const (.int .i64 n)),none,[]⟩
abbrev cN(d x y:Nat):Af:=⟨some d,.bin .neq .num (.tmp x) (.tmp y),none,[]⟩
abbrev Po(d x:Nat)(n:Int):Af:=⟨some d,.bin .neq .num (.tmp x) (.const (.int .i64 n)),none,[]⟩
abbrev cL(d x y:Nat):Af:=⟨some d,.bin .lss .num (.tmp x) (.tmp y),none,[]⟩
abbrev eB(d x:Nat)(n:Int):Af:=⟨some d,.bin .lss .num (.tmp x) (.const (.int .i64 n)),none,[]⟩
abbrev cGk(d x:Nat)(n:Int):Af:=⟨some d,.bin .gtr .num (.tmp x) (.const (.int .i64 n)),none,[]⟩
abbrev cH(d x y:Nat):Af:=⟨some d,.bin .geq .num (.tmp x) (.tmp y),none,[]⟩
abbrev Ep(d g s:Nat):Af:=⟨some d,.load none (.tmp s),some (g,true),[]⟩
abbrev Ey(d g o s:Nat):Af:=⟨some d,.BH o (.tmp s),some (g,true),[]⟩
abbrev HT(d g s:Nat):Af:=⟨some d,.Fp (.tmp s),some (g,true),[]⟩
abbrev Fl(d g s:Nat):Af:=⟨some d,.load none (.tmp s),some (g,false),[]⟩
abbrev Fk(d g o s:Nat):Af:=⟨some d,.BH o (.tmp s),some (g,false),[]⟩
abbrev Mn(d g s:Nat):Af:=⟨some d,.Fp (.tmp s),some (g,false),[]⟩
abbrev rf(l:List Af):Aq:=.region false l
abbrev sr(l:List Af)(c:Aq):Aq:=.seq (.region false l) c
theorem rQ(f:Func):Bt Tryz.prog f=Bt Tryz.prog f:=rfl
def oR{a b:Option Av}(_:a=b):Av:=match b with
 | some f=>f
 | none=>⟨0,[],.skip⟩
abbrev iV(n:Int):Aa:=.int .i64 n
abbrev bV(b:Bool):Aa:=.bool b
end Go.Ab
end
section
namespace Go.Proofs
open Go.Shelf
def Tryz.Et:Go.Shelf.Ren:=⟨fun|156=>43 | 165=>75 | 166=>76 | 169=>77 | 240=>117 | 241=>118 | 276=>153 | 277=>154 | n=>n,fun|31=>42 | 9=>9 | 3=>3 | 4=>4 | 0=>0 | 20=>20 | 72=>142 | 76=>146 | 70=>139 | 37=>140 | 75=>145 | 127=>186 | 164=>215 | 5=>5 | 80=>148 | n=>n,fun|n=>n⟩
theorem Tryz.Hg:Go.Proofs.Lays.n156 Tryz.prog Tryz.Et:={
 mixed:=by kernel_rfl
 f156:=Tryz.func43.trans (congrArg some (by kernel_rfl))
 f165:=Tryz.func75.trans (congrArg some (by kernel_rfl))
 f166:=Tryz.func76.trans (congrArg some (by kernel_rfl))
 f169:=Tryz.func77.trans (congrArg some (by kernel_rfl))
 f240:=Tryz.func117.trans (congrArg some (by kernel_rfl))
 f241:=Tryz.func118.trans (congrArg some (by kernel_rfl))
 f276:=Tryz.func153.trans (congrArg some (by kernel_rfl))
 f277:=Tryz.func154.trans (congrArg some (by kernel_rfl))
 t0:=Tryz.underlying0
 a0:=Tryz.isAgg0
 z0:=Tryz.sizeOf0
 v0:=Tryz.zeroValue0
 t3:=Tryz.underlying3
 a3:=Tryz.isAgg3
 z3:=Tryz.sizeOf3
 v3:=Tryz.zeroValue3
 t4:=Tryz.underlying4
 a4:=Tryz.isAgg4
 z4:=Tryz.sizeOf4
 v4:=Tryz.zeroValue4
 t9:=Tryz.underlying9
 a9:=Tryz.isAgg9
 z9:=Tryz.sizeOf9
 v9:=Tryz.zeroValue9
 t20:=Tryz.underlying20
 a20:=Tryz.isAgg20
 z20:=Tryz.sizeOf20
 v20:=Tryz.zeroValue20
 t31:=Tryz.underlying42
 a31:=Tryz.isAgg42
 z31:=Tryz.sizeOf42
 v31:=Tryz.zeroValue42
 t37:=Tryz.underlying140
 a37:=Tryz.isAgg140
 z37:=Tryz.sizeOf140
 v37:=Tryz.zeroValue140
 t70:=Tryz.underlying139
 a70:=Tryz.isAgg139
 z70:=Tryz.sizeOf139
 v70:=Tryz.zeroValue139
 t72:=Tryz.underlying142
 a72:=Tryz.isAgg142
 z72:=Tryz.sizeOf142
 v72:=Tryz.zeroValue142
 t75:=Tryz.underlying145
 a75:=Tryz.isAgg145
 z75:=Tryz.sizeOf145
 v75:=Tryz.zeroValue145
 t76:=Tryz.underlying146
 a76:=Tryz.isAgg146
 z76:=Tryz.sizeOf146
 v76:=Tryz.zeroValue146
 t127:=Tryz.underlying186
 a127:=Tryz.isAgg186
 z127:=Tryz.sizeOf186
 v127:=Tryz.zeroValue186
 t164:=Tryz.underlying215
 a164:=Tryz.isAgg215
 z164:=Tryz.sizeOf215
 v164:=Tryz.zeroValue215 }
theorem Tryz.CD:Builder.Extra Tryz.prog Tryz.Et:={
 sizeBuilder:=by kernel_rfl
 liesBuilder:=by kernel_rfl
 t5:=Tryz.underlying5
 a5:=Tryz.isAgg5
 z5:=Tryz.sizeOf5
 v5:=Tryz.zeroValue5
 infoByte:=by kernel_rfl
 cellsByte:=by kernel_rfl
 sizeByte:=by kernel_rfl
 neB5:=by decide }
open Go.RowKit in
theorem Tryz.strings_Join_none(a:Option Addr)(c:Nat)(sep:ByteArray)(w:World) :
 Calls Tryz.prog 43 #[.slice a 0 c,.string sep] w fun e w'=>e=.returned (.string ⟨#[]⟩)∧w'=w:=Any.strings_Join_none Tryz.Hg Tryz.CD a c sep w
open Go.RowKit in
theorem Tryz.strings_Join(bk o c:Nat)(xs:List ByteArray)(sep:ByteArray)(w:World)(hcells:∀ (j:Nat) x,xs[j]? = some x→w.cell? ⟨bk,o+j,none⟩=some (.string x))(hbk:bk<w.heap.size)(hN:xs.length≤140737488355328)(hcap:xs.length≤c)(hlen:(Lib.join (xs.map (·.data.toList)) sep.data.toList).length≤140737488355328) :
 Calls Tryz.prog 43 #[.slice (some ⟨bk,o,none⟩) xs.length c,.string sep] w fun e w'=>e=.returned (.string ⟨(Lib.join (xs.map (·.data.toList)) sep.data.toList).toArray⟩)∧Below w.heap.size w w':=Any.strings_Join Tryz.Hg Tryz.CD bk o c xs sep w hcells hbk hN hcap hlen
end Go.Proofs
end
