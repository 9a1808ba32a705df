/- Part 44 of the proof: Pw. -/
import Derived.Test.YtilmpmlkndfbjaaGreatDoorI38
import Derived.Test.YtilmpmlkndfbjaaGreatDoorI43
set_option linter.all false
namespace Go.Known
open Go.Plain
theorem Zoe{φ:Int→Int}{x:Int}:∀ {met:List Int},(∀ z,z∈met→φ x=φ z→x=z)→W5 (φ x) (met.map φ)=W5 x met
 | [],_=>rfl
 | z :: r,h=>by
  have c:=Zoe (φ:=φ) (x:=x) (met:=r) fun w b=>h w (List.mem_cons_of_mem _ b)
  simp only[List.map_cons,W5,c];by_cases a:x=z
  ·rw[if_pos a,if_pos (by rw[a])]
  ·rw[if_neg a,if_neg (fun e=>a (h z (List.mem_cons_self ..) e))]
theorem Zn9{met:List Int}{l:Lt}{x:Int}(h:x∈P2 met l):x∈met∨(l.k=2∧l.i=x):=by
 unfold P2 at h;split at h
 ·rename_i b;rcases List.mem_append.1 h with a|a
  ·exact .inl a
  ·exact .inr ⟨b.1,(List.mem_singleton.1 a).symm⟩
 ·exact .inl h
theorem Zt6{φ:Int→Int}:∀ (v:List Lt) (met:List Int),(∀ x y,(x∈met ∨ ∃ a,a∈v∧a.k=2∧a.i=x)→(y∈met ∨ ∃ a,a∈v∧a.k=2∧a.i=y)→φ x=φ y→x=y)→renG (met.map φ) (v.map (ap φ))=renG met v
 | [],_,_=>rfl
 | l :: r,met,h=>by
  have m:P2 (met.map φ) (ap φ l)=(P2 met l).map φ:=by
   unfold P2;rw[ap_k];by_cases b:l.k=2
   ·have hi:W5 (φ l.i) (met.map φ)=W5 l.i met:=Zoe fun z j e=>h _ _ (.inr ⟨l,List.mem_cons_self ..,b,rfl⟩) (.inl j) e
    rw[O8 b];simp only[hi,b,true_and];split<;>simp
   ·simp[b]
  have n:renS (met.map φ) (ap φ l)=renS met l:=by
   unfold renS;rw[ap_k,m];by_cases b:l.k=2
   ·have hi:W5 (φ l.i) ((P2 met l).map φ)=W5 l.i (P2 met l):=Zoe fun z j e=>by
     refine h _ _ (.inr ⟨l,List.mem_cons_self ..,b,rfl⟩) ?_ e;rcases Zn9 j with c|⟨c,f⟩
     ·exact .inl c
     ·exact .inr ⟨l,List.mem_cons_self ..,c,f⟩
    rw[if_pos b,if_pos b,O8 b];simp only[hi]
   ·rw[if_neg b,if_neg b,D3 b]
  simp only[List.map_cons,renG,n,m]
  congr 1
  refine Zt6 r (P2 met l) fun x y o p=>h x y ?_ ?_
  ·rcases o with c|⟨a,c,f⟩
   ·rcases Zn9 c with d|⟨d,g⟩
    ·exact .inl d
    ·exact .inr ⟨l,List.mem_cons_self ..,d,g⟩
   ·exact .inr ⟨a,List.mem_cons_of_mem _ c,f⟩
  ·rcases p with c|⟨a,c,f⟩
   ·rcases Zn9 c with d|⟨d,g⟩
    ·exact .inl d
    ·exact .inr ⟨l,List.mem_cons_self ..,d,g⟩
   ·exact .inr ⟨a,List.mem_cons_of_mem _ c,f⟩
theorem Zuy{φ:Int→Int}{v:List Lt}(h:InjI φ v):P1 (v.map (ap φ))=P1 v:=by
 refine Zt6 v [] fun x y j k d=>?_
 rcases j with c|⟨a,e,f,rfl⟩
 ·cases c
 ·rcases k with c|⟨b,g,i,rfl⟩
  ·cases c
  ·exact h a e b g f i d
theorem Zbl{y:List Lt}{s p:Nat}(a:s<y.length)(d:p<y.length):at' (W6 s y) p=at' y (mvt y.length true s p):=by
 have c:=M3 (e:=true) a d;have f:rho y.length s (mvt y.length true s p)=p:=by
  rw[Zgh a c];unfold mvt;simp only[if_true];split<;>split<;>omega
 have b:=Zov a c;rw[f]at b;exact b
theorem Zzy{y u:List Lt}(h:De true y u)(g:isP (at' u 0)=true):∃ i,i<y.length∧(isP (at' y i)&&down y i)=true∧P1 u=Q0 y i:=by
 obtain⟨m,s,φ,j,hi,c⟩:=h;obtain⟨n,o⟩:=c 0 (by omega)
 rw[Zjb j]at n o;have r:isP (at' y s)=true:=by rw[n,Zia]at g; exact g
 have t:down y s=true:=by
  have e:=o g;have q:down u 0=true:=rfl;rw[q]at e;cases f:down y s with
  | true=>rfl
  | false=>rw[f]at e; cases e
 refine⟨s,j,by rw[r,t]; rfl,?_⟩
 have v:u=(W6 s y).map (ap φ):=by
  refine Zgn (by rw[List.length_map,D1,m]) fun p d=>?_
  rw[m]at d;rw[(c p d).1,atm (by rw[D1]; exact d),Zbl j d]
 rw[v];unfold Q0;refine Zuy fun a k b l=>hi a ?_ b ?_
 ·unfold W6 at k;rcases List.mem_append.1 k with c|c
  ·exact List.mem_of_mem_drop c
  ·exact List.mem_of_mem_take c
 ·unfold W6 at l;rcases List.mem_append.1 l with c|c
  ·exact List.mem_of_mem_drop c
  ·exact List.mem_of_mem_take c
theorem Yex{y u:List Lt}{e:Bool}(f:Ev y)(h:De e y u)(b:isP (at' u 0)=true):Cn y (P1 u):=by
 cases e with
 | true=>exact .inl (Zzy h b)
 | false=>
  obtain⟨i,a,c,d⟩:=Zzy ((Zji f).symm.trans h) b;rw[Zfq]at a;exact .inr ⟨i,a,c,d⟩
theorem Ych(u:List Lt):P1 (P1 u)=P1 u:=by
 conv=>lhs; rw[Zjl u]
 exact Zuy (Zu2 u)
theorem Z09{y w:List Lt}(h:Ev y)(d:Cn y w):isP (at' w 0)=true∧P1 w=w:=by
 have key:∀ (l:List Lt) (i:Nat),i<l.length→isP (at' l i)=true→isP (at' (Q0 l i) 0)=true∧P1 (Q0 l i)=Q0 l i:=fun l i hi c=>by
  refine⟨?_,Ych _⟩;unfold Q0;rw[Zjl,atm (by rw[D1]; omega),Zia,Zbl hi (by omega),Zjb hi]
  exact c
 rcases d with⟨i,b,a,rfl⟩|⟨i,b,a,rfl⟩
 ·simp only[bA]at a;exact key _ _ b a.1
 ·simp only[bA]at a;exact key _ _ (by rw[Zfq]; exact b) a.1
theorem Z1e{y x:List Lt}{e:Bool}(b:Ev y)(g:Ev x)(h:De e y x)(w:List Lt):Cn y w→Cn x w:=fun a=>by
 obtain⟨i,c⟩:=Zmx b a;obtain⟨d,f⟩:=Z09 b a;have:=Yex g (h.symm.trans c) d;rw[f]at this;exact this
theorem Zuc:∀ {a b c:List Int},ltI a b=true→ltI b c=true→ltI a c=true
 | [],_,_,h,_=>by simp[ltI]at h
 | _ :: _,[],_,h,_=>by simp[ltI]at h
 | _ :: _,_ :: _,[],_,h=>by simp[ltI]at h
 | x :: r,y :: s,z :: t,g,f=>by
  simp only[ltI]at g f ⊢;by_cases e:x=y
  ·rw[if_pos e]at g;by_cases d:y=z
   ·rw[if_pos d]at f;rw[if_pos (e.trans d)];exact Zuc g f
   ·rw[if_neg d]at f;rw[if_neg (by rw[e]; exact d),e]
    exact f
  ·rw[if_neg e]at g;by_cases d:y=z
   ·rw[← d,if_neg e];exact g
   ·rw[if_neg d]at f;simp only[decide_eq_true_eq]at g f;rw[if_neg (by omega)]
    simp only[decide_eq_true_eq];omega
theorem Z0w:∀ {a b:List Int},a.length=b.length→ltI a b=false→ltI b a=false→a=b
 | [],[],_,_,_=>rfl
 | [],_ :: _,h,_,_=>by simp at h
 | _ :: _,[],h,_,_=>by simp at h
 | x :: r,y :: s,h,d,f=>by
  simp only[ltI]at d f;by_cases c:x=y
  ·rw[if_pos c]at d;rw[if_pos c.symm]at f;rw[c,Z0w (by simpa using h) d f]
  ·rw[if_neg c]at d;rw[if_neg (fun e=>c e.symm)]at f
   simp only[decide_eq_false_iff_not]at d f;omega
theorem Zuw:∀ {p q r s:List Int},p.length=q.length→ltI (p++r) (q++s)=if p=q then ltI r s else ltI p q
 | [],[],_,_,_=>by simp
 | [],_ :: _,_,_,h=>by simp at h
 | _ :: _,[],_,_,h=>by simp at h
 | x :: p,y :: q,r,s,h=>by
  have b:=Zuw (p:=p) (q:=q) (r:=r) (s:=s) (by simpa using h)
  simp only[List.cons_append,ltI,List.cons.injEq];by_cases a:x=y
  ·rw[if_pos a,if_pos a,b];simp[a]
  ·simp[a]
theorem Zx7{a b:Lt}(h:numL a=numL b):a=b:=by
 unfold numL at h;simp only[List.cons.injEq,and_true]at h;obtain⟨c,d,e,f,g,i⟩:=h;have j:a.o=b.o:=by cases k:a.o<;>cases l:b.o<;>rw[k,l]at g<;>simp at g ⊢
 obtain⟨m,n,p,q,r,s⟩:=a;obtain⟨t,u,v,w,y,z⟩:=b;simp only at c d e f i j;subst c; subst d; subst e; subst f; subst i; subst j;rfl
def keyN(w:List Lt):List Int:=w.flatMap numL
theorem Zrb:∀ w:List Lt,(keyN w).length=6*w.length
 | []=>rfl
 | a :: r=>by
  have:=Zrb r;unfold keyN at this ⊢;rw[List.flatMap_cons,List.length_append,this];simp[numL];omega
theorem Zhq:∀ {a b:List Lt},a.length=b.length→H5 a b=ltI (keyN a) (keyN b)
 | [],[],_=>rfl
 | [],_ :: _,h=>by simp at h
 | _ :: _,[],h=>by simp at h
 | x :: r,y :: s,h=>by
  have d:=Zhq (a:=r) (b:=s) (by simpa using h)
  unfold keyN at d ⊢;rw[List.flatMap_cons,List.flatMap_cons,Zuw (by simp[numL]),Yg3,← d]
  simp only[H5];by_cases c:x=y
  ·rw[if_pos c,if_pos (by rw[c])]
  ·rw[if_neg c,if_neg (fun e=>c (Zx7 e))]
theorem Z19:∀ {a b:List Lt},a.length=b.length→keyN a=keyN b→a=b
 | [],[],_,_=>rfl
 | [],_ :: _,h,_=>by simp at h
 | _ :: _,[],h,_=>by simp at h
 | x :: r,y :: s,h,e=>by
  unfold keyN at e;rw[List.flatMap_cons,List.flatMap_cons]at e;obtain⟨c,d⟩:=List.append_inj e (by simp[numL])
  rw[Zx7 c,Z19 (by simpa using h) d]
def Bst(z:Option (List Lt))(n:Nat)(S:List Lt→Prop):Prop:=
 match z with
 | none=>∀ u,¬S u
 | some w=>S w ∧ ∀ u,S u→u.length=n∧H5 u w=false
theorem Bst.congr{z:Option (List Lt)}{n:Nat}{S T:List Lt→Prop}(h:Bst z n S)(a:∀ u,S u↔T u):Bst z n T:=by
 cases z with
 | none=>exact fun u b=>h u ((a u).2 b)
 | some w=>exact ⟨(a w).1 h.1,fun u b=>h.2 u ((a u).2 b)⟩
theorem Z4z{l:List Lt}{i n:Nat}{z:Option (List Lt)}{S:List Lt→Prop}(p:l.length=n)(h:Bst z n S):Bst (Zd6 l i z) n (fun u=>S u∨((isP (at' l i)&&down l i)=true∧u=Q0 l i)):=by
 have c:(Q0 l i).length=n:=by rw[Znp,p]
 unfold Zd6;by_cases e:(isP (at' l i)&&down l i)=true
 ·rw[if_pos e];cases z with
  | none=>
   refine⟨.inr ⟨e,rfl⟩,fun u f=>?_⟩
   rcases f with b|⟨_,rfl⟩
   ·exact absurd b (h u)
   ·exact⟨c,Zpo _⟩
  | some w=>
   obtain⟨k,hm⟩:=h;have g:=(hm w k).1;simp only;by_cases a:H5 (Q0 l i) w=true
   ·rw[if_pos a];refine⟨.inr ⟨e,rfl⟩,fun u f=>?_⟩
    rcases f with b|⟨_,rfl⟩
    ·obtain⟨j,q⟩:=hm u b;refine⟨j,?_⟩;cases m:H5 u (Q0 l i)with
     | false=>rfl
     | true=>
      rw[Zhq (by rw[j,c])]at m
      rw[Zhq (by rw[c,g])]at a
      have:=Zuc m a;rw[← Zhq (by rw[j,g]),q]at this
      cases this
    ·exact⟨c,Zpo _⟩
   ·have d:H5 (Q0 l i) w=false:=by simpa using a
    rw[if_neg a];refine⟨.inl k,fun u f=>?_⟩
    rcases f with b|⟨_,rfl⟩
    ·exact hm u b
    ·exact⟨c,d⟩
 ·rw[if_neg e];exact h.congr fun u=>⟨.inl,fun b=>b.elim id fun o=>absurd o.1 e⟩
theorem Zp5{l:List Lt}{n:Nat}{z:Option (List Lt)}{S:List Lt→Prop}(e:l.length=n)(h:Bst z n S):∀ k,Bst (H1 l z k) n (fun u=>S u ∨ ∃ i,i<k∧(isP (at' l i)&&down l i)=true∧u=Q0 l i)
 | 0=>h.congr fun u=>⟨.inl,fun c=>c.elim id fun⟨i,a,_⟩=>by omega⟩
 | k+1=>by
  refine(Z4z e (Zp5 e h k)).congr fun u=>⟨fun c=>?_,fun c=>?_⟩
  ·rcases c with(a|⟨i,a,b⟩)|⟨a,b⟩
   ·exact .inl a
   ·exact .inr ⟨i,by omega,b⟩
   ·exact .inr ⟨k,by omega,a,b⟩
  ·rcases c with a|⟨i,a,b⟩
   ·exact .inl (.inl a)
   ·rcases Nat.lt_succ_iff_lt_or_eq.1 a with d|d
    ·exact .inl (.inr ⟨i,d,b⟩)
    ·subst d; exact .inr b
theorem Zrg(y:List Lt):Bst (A1 y) y.length (Cn y):=by
 have a:Bst none y.length (fun _=>False):=fun _ h=>h
 have b:=Zp5 (l:=y) rfl a y.length;have c:=Zp5 (l:=T5 y) (Zfq y) b y.length;refine c.congr fun u=>⟨fun h=>?_,fun h=>?_⟩
 ·rcases h with(h|h)|h
  ·exact h.elim
  ·exact .inl h
  ·exact .inr h
 ·rcases h with h|h
  ·exact .inl (.inr h)
  ·exact .inr h
theorem Z3o{y x:List Lt}(k:x.length=y.length)(h:∀ w,Cn y w↔Cn x w):T1 y=T1 x:=by
 have c:=Zrg y;have b:=Zrg x;unfold T1;cases g:A1 y with
 | none=>
  rw[g]at c;cases d:A1 x with
  | none=>rfl
  | some v=>rw[d]at b; exact absurd ((h v).2 b.1) (c v)
 | some w=>
  rw[g]at c;cases d:A1 x with
  | none=>rw[d]at b; exact absurd ((h w).1 c.1) (b w)
  | some v=>
   rw[d]at b;obtain⟨i,e⟩:=c.2 v ((h v).2 b.1);obtain⟨j,f⟩:=b.2 w ((h w).1 c.1);have a:v.length=w.length:=by rw[i,j,k]
   rw[Zhq a]at e;rw[Zhq a.symm]at f;exact(Z19 a (Z0w (by rw[Zrb,Zrb,a]) e f)).symm
theorem Z8x{y x:List Lt}{e:Bool}(b:Ev y)(a:Ev x)(h:De e y x):T1 y=T1 x:=
 Z3o h.1 fun w=>⟨Z1e b a h w,Z1e a b h.symm w⟩
theorem Zk8{y:List Lt}(a:y≠[])(b:isP (at' y 0)=true):Cn y (T1 y):=by
 have h:=Zrg y;rw[Z0d a b]at h;exact h.1
theorem Ygb{y x:List Lt}(c:Ev y)(b:Ev x)(f:isP (at' y 0)=true)(d:isP (at' x 0)=true)(h:T1 y=T1 x):∃ e,De e y x:=by
 obtain⟨i,a⟩:=Zmx c (Zk8 c.ne f);obtain⟨j,g⟩:=Zmx b (Zk8 b.ne d);rw[h]at a;exact⟨_,a.trans g.symm⟩
end Go.Known
