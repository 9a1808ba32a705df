/- Part 32 of the proof: Pu, Pv. -/
import Derived.Test.YtilmpmlkndfbjaaGreatDoorR30
set_option linter.all false
section
namespace Go.Known
open Go.Plain
def mvt(n:Nat)(e:Bool)(s p:Nat):Nat:=if e then (if s+p<n then s+p else s+p - n)else (if p≤s then s - p else s+n - p)
theorem G4{n s p:Nat}{e:Bool}(b:s<n)(a:p<n):mvt n e s p<n:=by
 unfold mvt;cases e<;>simp only[bF,if_false,if_true]<;>split<;>omega
theorem Z88{n c d p:Nat}{a b:Bool}(e:c<n)(f:d<n)(g:p<n):mvt n a c (mvt n b d p)=mvt n (a == b) (mvt n a c d) p:=by
 unfold mvt;cases a<;>cases b<;>simp only[show (false == false)=true from rfl,show (true == true)=true from rfl,show (true == false)=false from rfl,show (false == true)=false from rfl,bF,if_false,if_true]<;>(repeat' split)<;>omega
def ivt(n:Nat)(e:Bool)(s:Nat):Nat:=if e then (if s=0 then 0 else n - s)else s
theorem Zgt{n s:Nat}{e:Bool}(a:s<n):ivt n e s<n:=by
 unfold ivt;cases e<;>simp only[bF,if_false,if_true]<;>(try split)<;>omega
theorem Zmb{n s p:Nat}{e:Bool}(b:s<n)(a:p<n):mvt n e s (mvt n e (ivt n e s) p)=p:=by
 unfold mvt ivt;cases e<;>simp only[bF,if_false,if_true]<;>(repeat' split)<;>omega
theorem Zpx{n s p:Nat}{e:Bool}(b:s<n)(a:p<n):mvt n e (ivt n e s) (mvt n e s p)=p:=by
 unfold mvt ivt;cases e<;>simp only[bF,if_false,if_true]<;>(repeat' split)<;>omega
def ap(φ:Int→Int)(l:Lt):Lt:=if l.k=2 then { l with i:=φ l.i } else l
theorem ap_k(φ:Int→Int)(l:Lt):(ap φ l).k=l.k:=by unfold ap; split<;>rfl
theorem Zli(φ:Int→Int)(l:Lt):isP (ap φ l)=isP l:=by unfold isP; rw[ap_k]
theorem I8{φ:Int→Int}{l:Lt}(h:l.k=2):ap φ l={ l with i:=φ l.i }:=by unfold ap; rw[if_pos h]
theorem Zam{φ:Int→Int}{l:Lt}(h:¬l.k=2):ap φ l=l:=by unfold ap; rw[if_neg h]
theorem Z9s(l:Lt):ap id l=l:=by unfold ap; split<;>rfl
theorem Z0j(φ ψ:Int→Int)(l:Lt):ap ψ (ap φ l)=ap (ψ∘φ) l:=by
 by_cases h:l.k=2
 ·rw[I8 h,I8 (l:={ l with i:=φ l.i }) h,I8 h]; rfl
 ·rw[Zam h,Zam h,Zam h]
def InjI(φ:Int→Int)(y:List Lt):Prop:=∀ a,a∈y → ∀ b,b∈y→a.k=2→b.k=2→φ a.i=φ b.i→a.i=b.i
def De(e:Bool)(y x:List Lt):Prop:=x.length=y.length ∧ ∃ s φ,s<y.length∧InjI φ y ∧ ∀ p,p<y.length→at' x p=ap φ (at' y (mvt y.length e s p))∧(isP (at' x p)=true→down x p=(down y (mvt y.length e s p) == e))
theorem Zfs{y:List Lt}{a:Lt}(h:a∈y):∃ p,p<y.length∧at' y p=a:=by
 obtain⟨p,b,e⟩:=List.getElem_of_mem h;exact⟨p,b,by simp[at',List.getD,b,e]⟩
theorem De.trans{f l:Bool}{y x z:List Lt}(E:De f y x)(F:De l x z):De (f == l) y z:=by
 obtain⟨m,O,k,c,H,p1⟩:=E;obtain⟨J,P,r,d,I,A⟩:=F;rw[m]at d A;refine⟨J.trans m,mvt y.length f O P,r∘k,G4 c d,fun a v b w g h n=>?_,fun p o=>?_⟩
 ·obtain⟨M,i,rfl⟩:=Zfs v;obtain⟨N,j,rfl⟩:=Zfs w;have B:=(p1 _ (G4 (e:=f) (Zgt (e:=f) c) i)).1;have C:=(p1 _ (G4 (e:=f) (Zgt (e:=f) c) j)).1;rw[Zmb c i]at B;rw[Zmb c j]at C;have K:ap k (at' y M)∈x:=by rw[← B]; exact K2 (by rw[m]; exact G4 (Zgt c) i)
  have L:ap k (at' y N)∈x:=by rw[← C]; exact K2 (by rw[m]; exact G4 (Zgt c) j)
  refine H _ v _ w g h ?_;have:=I _ K _ L (by rw[ap_k]; exact g) (by rw[ap_k]; exact h)
  rw[I8 g,I8 h]at this;exact this n
 ·have G:=G4 (e:=l) d o;obtain⟨s,D⟩:=A p o;obtain⟨t,u⟩:=p1 _ G;rw[Z88 c d o]at t u;refine⟨by rw[s,t,Z0j],fun q=>?_⟩
  rw[D q,u (by rw[s,Zli]at q; exact q)]
  cases f<;>cases l<;>cases down y _<;>rfl
theorem De.symm{e:Bool}{y x:List Lt}(h:De e y x):De e x y:=by
 obtain⟨u,s,φ,r,K,p1⟩:=h;obtain⟨ψ,m⟩:∃ ψ:Int→Int,∀ a,a∈y→a.k=2→ψ (φ a.i)=a.i:=by
  have H:∀ j:Int,∃ i:Int,∀ a,a∈y→a.k=2→φ a.i=j→i=a.i:=fun j=>by
   by_cases B:∃ a,a∈y∧a.k=2∧φ a.i=j
   ·obtain⟨a,E,F,G⟩:=B;exact⟨a.i,fun b q c z=>K a E b q F c (by rw[G,z])⟩
   ·exact⟨0,fun b q c z=>absurd ⟨b,q,c,z⟩ B⟩
  obtain⟨ψ,h⟩:=Classical.axiomOfChoice H;exact⟨ψ,fun a w c=>h _ a w c rfl⟩
 refine⟨u.symm,ivt y.length e s,ψ,by rw[u]; exact Zgt r,fun a w b q f g d=>?_,fun p t=>?_⟩
 ·obtain⟨L,n,rfl⟩:=Zfs w;obtain⟨M,o,rfl⟩:=Zfs q;rw[u]at n o;have C:=(p1 L n).1;have D:=(p1 M o).1;rw[C,ap_k]at f;rw[D,ap_k]at g;rw[C,D,I8 f,I8 g]at d ⊢;simp only at d ⊢;rw[m _ (K2 (G4 r n)) f,m _ (K2 (G4 r o)) g]at d;rw[d]
 ·rw[u]at t ⊢;have I:=G4 (e:=e) (Zgt (e:=e) r) t;obtain⟨v,A⟩:=p1 _ I;rw[Zmb r t]at v A;have hm:=K2 t;refine⟨?_,fun J=>?_⟩
  ·rw[v];by_cases c:(at' y p).k=2
   ·rw[I8 c,I8 (l:={ at' y p with i:=φ (at' y p).i }) c]
    simp only[m _ hm c]
   ·rw[Zam c,Zam c]
  ·rw[A (by rw[v,Zli]; exact J)]
   cases e<;>cases down y p<;>rfl
end Go.Known
end
section
namespace Go.Known
open Go.Plain
theorem atm{g:Lt→Lt}{l:List Lt}{p:Nat}(h:p<l.length):at' (l.map g) p=g (at' l p):=by simp[at',List.getD,h]
theorem Z9k(φ:Int→Int)(l:List Lt):Z3 (l.map (ap φ))=Z3 l:=by
 unfold Z3;rw[Zkj];exact F0 fun a _=>Zli φ a
theorem Z8f(φ:Int→Int)(l:List Lt)(p:Nat):down (l.map (ap φ)) p=down l p:=by
 unfold down;rw[← List.map_take,Z9k]
theorem Zlu{y:List Lt}{x:Int}{p:Nat}(h:Y6 x (X9 y p)≠0):∀ k,p+k≤y.length→Y6 x (X9 y (p+k))=Y6 x (X9 y p)
 | 0,_=>rfl
 | k+1,c=>by
  have a:=Zlu h k (by omega)
  have b:=Zhv (ls:=y) (i:=p+k) (by omega)
  rw[← Nat.add_assoc,b];unfold O7;split
  ·rw[Zs5 (by rw[a]; exact h),a]
  ·exact a
theorem Ztm:∀ {met:List Int} {x y:Int},Y6 x met≠0→Y6 x met=Y6 y met→x=y
 | [],_,_,h,_=>absurd rfl h
 | z :: r,x,y,h,e=>by
  simp only[Y6]at h e;by_cases c:x=z
  ·rw[if_pos c]at e;by_cases a:y=z
   ·rw[c,a]
   ·rw[if_neg a]at e;split at e<;>omega
  ·rw[if_neg c]at h e;by_cases b:Y6 x r=0
   ·rw[if_pos b]at h; exact absurd rfl h
   ·rw[if_neg b]at e;by_cases a:y=z
    ·rw[if_pos a]at e; omega
    ·rw[if_neg a]at e;split at e
     ·omega
     ·exact Ztm b (by omega)
theorem Zq3{y:List Lt}{p:Nat}(b:p<y.length)(a:(at' y p).k=2):Y6 (at' y p).i (X9 y (p+1))≠0:=by
 rw[Zhv b];unfold O7;by_cases h:Y6 (at' y p).i (X9 y p)=0
 ·rw[if_pos ⟨a,h⟩,Zi2 h]; omega
 ·rw[if_neg (fun e=>h e.2)]; exact h
theorem Zoj(y:List Lt):X8 y=y.map (ap fun i=>(Y6 i (X9 y y.length):Nat)):=by
 refine Zi9 (by rw[Zfc,List.length_map]) fun p b=>?_
 rw[Zfc]at b;rw[Zmy b,atm b];unfold renS;by_cases a:(at' y p).k=2
 ·rw[if_pos a,I8 a,← Zhv b];have:=Zlu (Zq3 b a) (y.length - (p+1)) (by omega)
  rw[show p+1+(y.length - (p+1))=y.length by omega]at this
  rw[this]
 ·rw[if_neg a,Zam a]
theorem Yaq(y:List Lt):InjI (fun i=>(Y6 i (X9 y y.length):Nat)) y:=by
 intro a g b k d h c;obtain⟨p,j,rfl⟩:=Zfs g;have e:=Zq3 j d;have f:=Zlu e (y.length - (p+1)) (by omega)
 rw[show p+1+(y.length - (p+1))=y.length by omega]at f
 refine Ztm (met:=X9 y y.length) (by rw[f]; exact e) ?_
 have:((Y6 (at' y p).i (X9 y y.length):Nat):Int)=(Y6 b.i (X9 y y.length):Nat):=c;omega
theorem Zsx{y:List Lt}{φ:Int→Int}(c:y≠[])(b:InjI φ y):De true y (y.map (ap φ)):=by
 have a:0<y.length:=List.length_pos_iff.2 c;refine⟨List.length_map _,0,φ,a,b,fun p d=>?_⟩
 have e:mvt y.length true 0 p=p:=by simp[mvt]; omega
 rw[e,atm d,Z8f];exact⟨rfl,fun _=>by cases down y p<;>rfl⟩
theorem Zz5{y:List Lt}(a:y≠[]):De true y (X8 y):=by
 rw[Zoj];exact Zsx a (Yaq y)
theorem Z5c(y:List Lt):InjI id y:=fun _ _ _ _ _ _ h=>h
structure Ev (y:List Lt):Prop where
 ne:y≠[]
 ev:Z3 y % 2=0
 bk:∃ i,i<y.length∧bkC y i=true
end Go.Known
end
