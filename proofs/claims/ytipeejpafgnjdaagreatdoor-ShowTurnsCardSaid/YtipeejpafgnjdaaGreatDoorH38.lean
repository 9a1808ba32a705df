/- Part 38 of the proof: Pw. -/
import Derived.Test.YtipeejpafgnjdaaGreatDoorH36
import Derived.Test.YtipeejpafgnjdaaGreatDoorH37
set_option linter.all false
namespace Go.Known
open Go.Plain
theorem Zqf{φ:Int→Int}{x:Int}:∀ {met:List Int},(∀ z,z∈met→φ x=φ z→x=z)→W5 (φ x) (met.map φ)=W5 x met
 | [],_=>rfl
 | z :: r,h=>by
  have ih:=Zqf (φ:=φ) (x:=x) (met:=r) fun w hw=>h w (List.mem_cons_of_mem _ hw)
  simp only[List.map_cons,W5,ih];by_cases hx:x=z
  ·rw[if_pos hx,if_pos (by rw[hx])]
  ·rw[if_neg hx,if_neg (fun e=>hx (h z (List.mem_cons_self ..) e))]
theorem Znf{met:List Int}{l:Lt}{x:Int}(h:x∈Q6 met l):x∈met∨(l.k=2∧l.i=x):=by
 unfold Q6 at h;split at h
 ·rename_i hc;rcases List.mem_append.1 h with h1|h1
  ·exact .inl h1
  ·exact .inr ⟨hc.1,(List.mem_singleton.1 h1).symm⟩
 ·exact .inl h
theorem Zug{φ:Int→Int}:∀ (v:List Lt) (met:List Int),(∀ x y,(x∈met ∨ ∃ a,a∈v∧a.k=2∧a.i=x)→(y∈met ∨ ∃ a,a∈v∧a.k=2∧a.i=y)→φ x=φ y→x=y)→renG (met.map φ) (v.map (ap φ))=renG met v
 | [],_,_=>rfl
 | l :: r,met,h=>by
  have hS:Q6 (met.map φ) (ap φ l)=(Q6 met l).map φ:=by
   unfold Q6;rw[ap_k];by_cases hk:l.k=2
   ·have hi:W5 (φ l.i) (met.map φ)=W5 l.i met:=Zqf fun z hz e=>h _ _ (.inr ⟨l,List.mem_cons_self ..,hk,rfl⟩) (.inl hz) e
    rw[N5 hk];simp only[hi,hk,true_and];split<;>simp
   ·simp[hk]
  have hR:renS (met.map φ) (ap φ l)=renS met l:=by
   unfold renS;rw[ap_k,hS];by_cases hk:l.k=2
   ·have hi:W5 (φ l.i) ((Q6 met l).map φ)=W5 l.i (Q6 met l):=Zqf fun z hz e=>by
     refine h _ _ (.inr ⟨l,List.mem_cons_self ..,hk,rfl⟩) ?_ e;rcases Znf hz with h1|⟨h1,h2⟩
     ·exact .inl h1
     ·exact .inr ⟨l,List.mem_cons_self ..,h1,h2⟩
    rw[if_pos hk,if_pos hk,N5 hk];simp only[hi]
   ·rw[if_neg hk,if_neg hk,C2 hk]
  simp only[List.map_cons,renG,hR,hS]
  congr 1
  refine Zug r (Q6 met l) fun x y hx hy=>h x y ?_ ?_
  ·rcases hx with h1|⟨a,h1,h2⟩
   ·rcases Znf h1 with h3|⟨h3,h4⟩
    ·exact .inl h3
    ·exact .inr ⟨l,List.mem_cons_self ..,h3,h4⟩
   ·exact .inr ⟨a,List.mem_cons_of_mem _ h1,h2⟩
  ·rcases hy with h1|⟨a,h1,h2⟩
   ·rcases Znf h1 with h3|⟨h3,h4⟩
    ·exact .inl h3
    ·exact .inr ⟨l,List.mem_cons_self ..,h3,h4⟩
   ·exact .inr ⟨a,List.mem_cons_of_mem _ h1,h2⟩
theorem Yda{φ:Int→Int}{v:List Lt}(h:InjI φ v):O0 (v.map (ap φ))=O0 v:=by
 refine Zug v [] fun x y hx hy hxy=>?_
 rcases hx with h1|⟨a,a1,a2,rfl⟩
 ·cases h1
 ·rcases hy with h1|⟨b,b1,b2,rfl⟩
  ·cases h1
  ·exact h a a1 b b1 a2 b2 hxy
theorem Zf5{y:List Lt}{s p:Nat}(hs:s<y.length)(hp:p<y.length):at' (V5 s y) p=at' y (mvt y.length true s p):=by
 have hv:=O1 (e:=true) hs hp;have hr:rho y.length s (mvt y.length true s p)=p:=by
  rw[Zg9 hs hv];unfold mvt;simp only[if_true];split<;>split<;>omega
 have h1:=Zqp hs hv;rw[hr]at h1;exact h1
theorem Z4q(u:List Lt):O0 (O0 u)=O0 u:=by
 conv=>lhs; rw[Zjm u]
 exact Yda (Zxz u)
theorem Z4i{y w:List Lt}(h:Ev y)(hw:Cn y w):isP (at' w 0)=true∧O0 w=w:=by
 have key:∀ (l:List Lt) (i:Nat),i<l.length→isP (at' l i)=true→isP (at' (Q4 l i) 0)=true∧O0 (Q4 l i)=Q4 l i:=fun l i hi hp=>by
  refine⟨?_,Z4q _⟩;unfold Q4;rw[Zjm,atm (by rw[B1]; omega),Ziv,Zf5 hi (by omega),Zub hi]
  exact hp
 rcases hw with⟨i,h1,h2,rfl⟩|⟨i,h1,h2,rfl⟩
 ·simp only[bA]at h2;exact key _ _ h1 h2.1
 ·simp only[bA]at h2;exact key _ _ (by rw[Zhe]; exact h1) h2.1
theorem Zvt:∀ {a b c:List Int},ltI a b=true→ltI b c=true→ltI a c=true
 | [],_,_,h,_=>by simp[ltI]at h
 | _ :: _,[],_,h,_=>by simp[ltI]at h
 | _ :: _,_ :: _,[],_,h=>by simp[ltI]at h
 | x :: r,y :: s,z :: t,h1,h2=>by
  simp only[ltI]at h1 h2 ⊢;by_cases hxy:x=y
  ·rw[if_pos hxy]at h1;by_cases hyz:y=z
   ·rw[if_pos hyz]at h2;rw[if_pos (hxy.trans hyz)];exact Zvt h1 h2
   ·rw[if_neg hyz]at h2;rw[if_neg (by rw[hxy]; exact hyz),hxy]
    exact h2
  ·rw[if_neg hxy]at h1;by_cases hyz:y=z
   ·rw[← hyz,if_neg hxy];exact h1
   ·rw[if_neg hyz]at h2;simp only[decide_eq_true_eq]at h1 h2;rw[if_neg (by omega)]
    simp only[decide_eq_true_eq];omega
theorem Zw6:∀ {p q r s:List Int},p.length=q.length→ltI (p++r) (q++s)=if p=q then ltI r s else ltI p q
 | [],[],_,_,_=>by simp
 | [],_ :: _,_,_,h=>by simp at h
 | _ :: _,[],_,_,h=>by simp at h
 | x :: p,y :: q,r,s,h=>by
  have ih:=Zw6 (p:=p) (q:=q) (r:=r) (s:=s) (by simpa using h)
  simp only[List.cons_append,ltI,List.cons.injEq];by_cases hxy:x=y
  ·rw[if_pos hxy,if_pos hxy,ih];simp[hxy]
  ·simp[hxy]
theorem Z7l{a b:Lt}(h:numL a=numL b):a=b:=by
 unfold numL at h;simp only[List.cons.injEq,and_true]at h;obtain⟨h1,h2,h3,h4,h5,h6⟩:=h;have h7:a.o=b.o:=by cases ha:a.o<;>cases hb:b.o<;>rw[ha,hb]at h5<;>simp at h5 ⊢
 obtain⟨a1,a2,a3,a4,a5,a6⟩:=a;obtain⟨b1,b2,b3,b4,b5,b6⟩:=b;simp only at h1 h2 h3 h4 h6 h7;subst h1; subst h2; subst h3; subst h4; subst h6; subst h7;rfl
def keyN(w:List Lt):List Int:=w.flatMap numL
theorem Zkd:∀ {a b:List Lt},a.length=b.length→J4 a b=ltI (keyN a) (keyN b)
 | [],[],_=>rfl
 | [],_ :: _,h=>by simp at h
 | _ :: _,[],h=>by simp at h
 | x :: r,y :: s,h=>by
  have ih:=Zkd (a:=r) (b:=s) (by simpa using h)
  unfold keyN at ih ⊢;rw[List.flatMap_cons,List.flatMap_cons,Zw6 (by simp[numL]),Yd0,← ih]
  simp only[J4];by_cases hxy:x=y
  ·rw[if_pos hxy,if_pos (by rw[hxy])]
  ·rw[if_neg hxy,if_neg (fun e=>hxy (Z7l e))]
def Bst(z:Option (List Lt))(n:Nat)(S:List Lt→Prop):Prop:=
 match z with
 | none=>∀ u,¬S u
 | some w=>S w ∧ ∀ u,S u→u.length=n∧J4 u w=false
theorem Bst.congr{z:Option (List Lt)}{n:Nat}{S T:List Lt→Prop}(h:Bst z n S)(hs:∀ u,S u↔T u):Bst z n T:=by
 cases z with
 | none=>exact fun u hu=>h u ((hs u).2 hu)
 | some w=>exact ⟨(hs w).1 h.1,fun u hu=>h.2 u ((hs u).2 hu)⟩
theorem Yaf{l:List Lt}{i n:Nat}{z:Option (List Lt)}{S:List Lt→Prop}(hl:l.length=n)(h:Bst z n S):Bst (Zcj l i z) n (fun u=>S u∨((isP (at' l i)&&down l i)=true∧u=Q4 l i)):=by
 have hc:(Q4 l i).length=n:=by rw[Zna,hl]
 unfold Zcj;by_cases hp:(isP (at' l i)&&down l i)=true
 ·rw[if_pos hp];cases z with
  | none=>
   refine⟨.inr ⟨hp,rfl⟩,fun u hu=>?_⟩
   rcases hu with h1|⟨_,rfl⟩
   ·exact absurd h1 (h u)
   ·exact⟨hc,Zpy _⟩
  | some w=>
   obtain⟨hw,hm⟩:=h;have hwl:=(hm w hw).1;simp only;by_cases hlt:J4 (Q4 l i) w=true
   ·rw[if_pos hlt];refine⟨.inr ⟨hp,rfl⟩,fun u hu=>?_⟩
    rcases hu with h1|⟨_,rfl⟩
    ·obtain⟨q1,q2⟩:=hm u h1;refine⟨q1,?_⟩;cases hx:J4 u (Q4 l i)with
     | false=>rfl
     | true=>
      rw[Zkd (by rw[q1,hc])]at hx
      rw[Zkd (by rw[hc,hwl])]at hlt
      have:=Zvt hx hlt;rw[← Zkd (by rw[q1,hwl]),q2]at this
      cases this
    ·exact⟨hc,Zpy _⟩
   ·have hlt':J4 (Q4 l i) w=false:=by simpa using hlt
    rw[if_neg hlt];refine⟨.inl hw,fun u hu=>?_⟩
    rcases hu with h1|⟨_,rfl⟩
    ·exact hm u h1
    ·exact⟨hc,hlt'⟩
 ·rw[if_neg hp];exact h.congr fun u=>⟨.inl,fun h1=>h1.elim id fun h2=>absurd h2.1 hp⟩
theorem Zrp{l:List Lt}{n:Nat}{z:Option (List Lt)}{S:List Lt→Prop}(hl:l.length=n)(h:Bst z n S):∀ k,Bst (I1 l z k) n (fun u=>S u ∨ ∃ i,i<k∧(isP (at' l i)&&down l i)=true∧u=Q4 l i)
 | 0=>h.congr fun u=>⟨.inl,fun h1=>h1.elim id fun⟨i,h2,_⟩=>by omega⟩
 | k+1=>by
  refine(Yaf hl (Zrp hl h k)).congr fun u=>⟨fun h1=>?_,fun h1=>?_⟩
  ·rcases h1 with(h2|⟨i,h2,h3⟩)|⟨h2,h3⟩
   ·exact .inl h2
   ·exact .inr ⟨i,by omega,h3⟩
   ·exact .inr ⟨k,by omega,h2,h3⟩
  ·rcases h1 with h2|⟨i,h2,h3⟩
   ·exact .inl (.inl h2)
   ·rcases Nat.lt_succ_iff_lt_or_eq.1 h2 with h4|h4
    ·exact .inl (.inr ⟨i,h4,h3⟩)
    ·subst h4; exact .inr h3
theorem Yeb(y:List Lt):Bst (Za9 y) y.length (Cn y):=by
 have h0:Bst none y.length (fun _=>False):=fun _ h=>h
 have h1:=Zrp (l:=y) rfl h0 y.length;have h2:=Zrp (l:=U4 y) (Zhe y) h1 y.length;refine h2.congr fun u=>⟨fun h=>?_,fun h=>?_⟩
 ·rcases h with(h|h)|h
  ·exact h.elim
  ·exact .inl h
  ·exact .inr h
 ·rcases h with h|h
  ·exact .inl (.inr h)
  ·exact .inr h
theorem Zy9{y:List Lt}(h0:y≠[])(hf:isP (at' y 0)=true):Cn y (I9 y):=by
 have h:=Yeb y;rw[Zvu h0 hf]at h;exact h.1
end Go.Known
