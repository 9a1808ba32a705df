/- Part 43 of the proof: Pu, Pv. -/
import Derived.Test.YtilmpmlkndfbjaaGreatDoorI38
set_option linter.all false
section
namespace Go.Known
open Go.Plain
def mvt(n:Nat)(e:Bool)(s p:Nat):Nat:=if e then (if s+p<n then s+p else s+p - n)else (if p≤s then s - p else s+n - p)
theorem M3{n s p:Nat}{e:Bool}(b:s<n)(a:p<n):mvt n e s p<n:=by
 unfold mvt;cases e<;>simp only[bF,if_false,if_true]<;>split<;>omega
theorem Zjb{n s:Nat}{e:Bool}(a:s<n):mvt n e s 0=s:=by
 unfold mvt;cases e<;>simp only[bF,if_false,if_true]<;>split<;>omega
theorem Zot{n c d p:Nat}{a b:Bool}(e:c<n)(f:d<n)(g:p<n):mvt n a c (mvt n b d p)=mvt n (a == b) (mvt n a c d) p:=by
 unfold mvt;cases a<;>cases b<;>simp only[show (false == false)=true from rfl,show (true == true)=true from rfl,show (true == false)=false from rfl,show (false == true)=false from rfl,bF,if_false,if_true]<;>(repeat' split)<;>omega
def ivt(n:Nat)(e:Bool)(s:Nat):Nat:=if e then (if s=0 then 0 else n - s)else s
theorem Zfm{n s:Nat}{e:Bool}(a:s<n):ivt n e s<n:=by
 unfold ivt;cases e<;>simp only[bF,if_false,if_true]<;>(try split)<;>omega
theorem Zj1{n s p:Nat}{e:Bool}(b:s<n)(a:p<n):mvt n e s (mvt n e (ivt n e s) p)=p:=by
 unfold mvt ivt;cases e<;>simp only[bF,if_false,if_true]<;>(repeat' split)<;>omega
theorem Zp3{n s p:Nat}{e:Bool}(b:s<n)(a:p<n):mvt n e (ivt n e s) (mvt n e s p)=p:=by
 unfold mvt ivt;cases e<;>simp only[bF,if_false,if_true]<;>(repeat' split)<;>omega
def ap(φ:Int→Int)(l:Lt):Lt:=if l.k=2 then { l with i:=φ l.i } else l
theorem ap_k(φ:Int→Int)(l:Lt):(ap φ l).k=l.k:=by unfold ap; split<;>rfl
theorem Zia(φ:Int→Int)(l:Lt):isP (ap φ l)=isP l:=by unfold isP; rw[ap_k]
theorem O8{φ:Int→Int}{l:Lt}(h:l.k=2):ap φ l={ l with i:=φ l.i }:=by unfold ap; rw[if_pos h]
theorem D3{φ:Int→Int}{l:Lt}(h:¬l.k=2):ap φ l=l:=by unfold ap; rw[if_neg h]
theorem Zqs(l:Lt):ap id l=l:=by unfold ap; split<;>rfl
theorem Z7p(φ ψ:Int→Int)(l:Lt):ap ψ (ap φ l)=ap (ψ∘φ) l:=by
 by_cases h:l.k=2
 ·rw[O8 h,O8 (l:={ l with i:=φ l.i }) h,O8 h]; rfl
 ·rw[D3 h,D3 h,D3 h]
def InjI(φ:Int→Int)(y:List Lt):Prop:=∀ a,a∈y → ∀ b,b∈y→a.k=2→b.k=2→φ a.i=φ b.i→a.i=b.i
def De(e:Bool)(y x:List Lt):Prop:=x.length=y.length ∧ ∃ s φ,s<y.length∧InjI φ y ∧ ∀ p,p<y.length→at' x p=ap φ (at' y (mvt y.length e s p))∧(isP (at' x p)=true→down x p=(down y (mvt y.length e s p) == e))
theorem Zcd{y:List Lt}{a:Lt}(h:a∈y):∃ p,p<y.length∧at' y p=a:=by
 obtain⟨p,b,e⟩:=List.getElem_of_mem h;exact⟨p,b,by simp[at',List.getD,b,e]⟩
theorem De.trans{f l:Bool}{y x z:List Lt}(E:De f y x)(F:De l x z):De (f == l) y z:=by
 obtain⟨m,O,k,c,H,p1⟩:=E;obtain⟨J,P,r,d,I,A⟩:=F;rw[m]at d A;refine⟨J.trans m,mvt y.length f O P,r∘k,M3 c d,fun a v b w g h n=>?_,fun p o=>?_⟩
 ·obtain⟨M,i,rfl⟩:=Zcd v;obtain⟨N,j,rfl⟩:=Zcd w;have B:=(p1 _ (M3 (e:=f) (Zfm (e:=f) c) i)).1;have C:=(p1 _ (M3 (e:=f) (Zfm (e:=f) c) j)).1;rw[Zj1 c i]at B;rw[Zj1 c j]at C;have K:ap k (at' y M)∈x:=by rw[← B]; exact S1 (by rw[m]; exact M3 (Zfm c) i)
  have L:ap k (at' y N)∈x:=by rw[← C]; exact S1 (by rw[m]; exact M3 (Zfm c) j)
  refine H _ v _ w g h ?_;have:=I _ K _ L (by rw[ap_k]; exact g) (by rw[ap_k]; exact h)
  rw[O8 g,O8 h]at this;exact this n
 ·have G:=M3 (e:=l) d o;obtain⟨s,D⟩:=A p o;obtain⟨t,u⟩:=p1 _ G;rw[Zot c d o]at t u;refine⟨by rw[s,t,Z7p],fun q=>?_⟩
  rw[D q,u (by rw[s,Zia]at q; exact q)]
  cases f<;>cases l<;>cases down y _<;>rfl
theorem De.symm{e:Bool}{y x:List Lt}(h:De e y x):De e x y:=by
 obtain⟨u,s,φ,r,K,p1⟩:=h;obtain⟨ψ,m⟩:∃ ψ:Int→Int,∀ a,a∈y→a.k=2→ψ (φ a.i)=a.i:=by
  have H:∀ j:Int,∃ i:Int,∀ a,a∈y→a.k=2→φ a.i=j→i=a.i:=fun j=>by
   by_cases B:∃ a,a∈y∧a.k=2∧φ a.i=j
   ·obtain⟨a,E,F,G⟩:=B;exact⟨a.i,fun b q c z=>K a E b q F c (by rw[G,z])⟩
   ·exact⟨0,fun b q c z=>absurd ⟨b,q,c,z⟩ B⟩
  obtain⟨ψ,h⟩:=Classical.axiomOfChoice H;exact⟨ψ,fun a w c=>h _ a w c rfl⟩
 refine⟨u.symm,ivt y.length e s,ψ,by rw[u]; exact Zfm r,fun a w b q f g d=>?_,fun p t=>?_⟩
 ·obtain⟨L,n,rfl⟩:=Zcd w;obtain⟨M,o,rfl⟩:=Zcd q;rw[u]at n o;have C:=(p1 L n).1;have D:=(p1 M o).1;rw[C,ap_k]at f;rw[D,ap_k]at g;rw[C,D,O8 f,O8 g]at d ⊢;simp only at d ⊢;rw[m _ (S1 (M3 r n)) f,m _ (S1 (M3 r o)) g]at d;rw[d]
 ·rw[u]at t ⊢;have I:=M3 (e:=e) (Zfm (e:=e) r) t;obtain⟨v,A⟩:=p1 _ I;rw[Zj1 r t]at v A;have hm:=S1 t;refine⟨?_,fun J=>?_⟩
  ·rw[v];by_cases c:(at' y p).k=2
   ·rw[O8 c,O8 (l:={ at' y p with i:=φ (at' y p).i }) c]
    simp only[m _ hm c]
   ·rw[D3 c,D3 c]
  ·rw[A (by rw[v,Zia]; exact J)]
   cases e<;>cases down y p<;>rfl
end Go.Known
end
section
namespace Go.Known
open Go.Plain
theorem atm{g:Lt→Lt}{l:List Lt}{p:Nat}(h:p<l.length):at' (l.map g) p=g (at' l p):=by simp[at',List.getD,h]
theorem Z2s(φ:Int→Int)(l:List Lt):Z0 (l.map (ap φ))=Z0 l:=by
 unfold Z0;rw[Zh2];exact R3 fun a _=>Zia φ a
theorem Z27(φ:Int→Int)(l:List Lt)(p:Nat):down (l.map (ap φ)) p=down l p:=by
 unfold down;rw[← List.map_take,Z2s]
theorem Zkn{y:List Lt}{x:Int}{p:Nat}(h:W5 x (W8 y p)≠0):∀ k,p+k≤y.length→W5 x (W8 y (p+k))=W5 x (W8 y p)
 | 0,_=>rfl
 | k+1,c=>by
  have a:=Zkn h k (by omega)
  have b:=Zld (ls:=y) (i:=p+k) (by omega)
  rw[← Nat.add_assoc,b];unfold P2;split
  ·rw[Ztn (by rw[a]; exact h),a]
  ·exact a
theorem Zzv:∀ {met:List Int} {x y:Int},W5 x met≠0→W5 x met=W5 y met→x=y
 | [],_,_,h,_=>absurd rfl h
 | z :: r,x,y,h,e=>by
  simp only[W5]at h e;by_cases c:x=z
  ·rw[if_pos c]at e;by_cases a:y=z
   ·rw[c,a]
   ·rw[if_neg a]at e;split at e<;>omega
  ·rw[if_neg c]at h e;by_cases b:W5 x r=0
   ·rw[if_pos b]at h; exact absurd rfl h
   ·rw[if_neg b]at e;by_cases a:y=z
    ·rw[if_pos a]at e; omega
    ·rw[if_neg a]at e;split at e
     ·omega
     ·exact Zzv b (by omega)
theorem Zsl{y:List Lt}{p:Nat}(b:p<y.length)(a:(at' y p).k=2):W5 (at' y p).i (W8 y (p+1))≠0:=by
 rw[Zld b];unfold P2;by_cases h:W5 (at' y p).i (W8 y p)=0
 ·rw[if_pos ⟨a,h⟩,Zs3 h]; omega
 ·rw[if_neg (fun e=>h e.2)]; exact h
theorem Zjl(y:List Lt):P1 y=y.map (ap fun i=>(W5 i (W8 y y.length):Nat)):=by
 refine Zgn (by rw[Zkw,List.length_map]) fun p b=>?_
 rw[Zkw]at b;rw[Z1b b,atm b];unfold renS;by_cases a:(at' y p).k=2
 ·rw[if_pos a,O8 a,← Zld b];have:=Zkn (Zsl b a) (y.length - (p+1)) (by omega)
  rw[show p+1+(y.length - (p+1))=y.length by omega]at this
  rw[this]
 ·rw[if_neg a,D3 a]
theorem Zu2(y:List Lt):InjI (fun i=>(W5 i (W8 y y.length):Nat)) y:=by
 intro a g b k d h c;obtain⟨p,j,rfl⟩:=Zcd g;have e:=Zsl j d;have f:=Zkn e (y.length - (p+1)) (by omega)
 rw[show p+1+(y.length - (p+1))=y.length by omega]at f
 refine Zzv (met:=W8 y y.length) (by rw[f]; exact e) ?_
 have:((W5 (at' y p).i (W8 y y.length):Nat):Int)=(W5 b.i (W8 y y.length):Nat):=c;omega
theorem Z0a{y:List Lt}{φ:Int→Int}(c:y≠[])(b:InjI φ y):De true y (y.map (ap φ)):=by
 have a:0<y.length:=List.length_pos_iff.2 c;refine⟨List.length_map _,0,φ,a,b,fun p d=>?_⟩
 have e:mvt y.length true 0 p=p:=by simp[mvt]; omega
 rw[e,atm d,Z27];exact⟨rfl,fun _=>by cases down y p<;>rfl⟩
theorem Z21{y:List Lt}(a:y≠[]):De true y (P1 y):=by
 rw[Zjl];exact Z0a a (Zu2 y)
theorem Zq8(y:List Lt):InjI id y:=fun _ _ _ _ _ _ h=>h
theorem Zor{y:List Lt}{s:Nat}(i:Z0 y % 2=0)(a:s<y.length)(f:down y s=true):De true y (W6 s y):=by
 refine⟨Zwn s y,s,id,a,Zq8 y,fun p g=>?_⟩
 have b:=M3 (e:=true) a g;have h:rho y.length s (mvt y.length true s p)=p:=by
  rw[Zgh a b];unfold mvt;simp only[if_true];split<;>split<;>omega
 have c:=Zov a b;have d:=Zk4 a b;rw[h]at c d;refine⟨by rw[c,Zqs],fun _=>?_⟩
 unfold down at f ⊢;simp only[beq_iff_eq]at f;have e:(Z0 ((W6 s y).take p) % 2 == 0)=(Z0 (y.take (mvt y.length true s p)) % 2 == 0):=by
  have:Z0 ((W6 s y).take p) % 2=Z0 (y.take (mvt y.length true s p)) % 2:=by
   split at d<;>omega
  rw[this]
 rw[e];cases (Z0 (y.take (mvt y.length true s p)) % 2 == 0)<;>rfl
theorem Zuk{y:List Lt}(l:Z0 y % 2=0){p:Nat}(m:p<y.length)(k:isP (at' y (y.length - 1 - p))=true):down y.reverse p = !down y (y.length - 1 - p):=by
 have j:∀ a b:List Lt,Z0 (a++b)=Z0 a+Z0 b:=fun a b=>Zg7 _ a b
 have c:∀ a:List Lt,Z0 a.reverse=Z0 a:=fun a=>by unfold Z0 Z3; rw[List.filter_reverse,List.length_reverse]
 have f:y.reverse.take p=(y.drop (y.length - p)).reverse:=by rw[List.take_reverse]
 have g:=j (y.take (y.length - p)) (y.drop (y.length - p));rw[List.take_append_drop]at g;have d:=Zf9 (ls:=y) (i:=y.length - 1 - p) (by omega)
 rw[k,show y.length - 1 - p+1=y.length - p by omega]at d
 simp only[if_true]at d;unfold down;rw[f,c];have e:Z0 (y.drop (y.length - p)) % 2=(Z0 (y.take (y.length - 1 - p))+1) % 2:=by omega
 rw[e];rcases Nat.mod_two_eq_zero_or_one (Z0 (y.take (y.length - 1 - p)))with h|h
 ·rw[h,show (Z0 (y.take (y.length - 1 - p))+1) % 2=1 by omega]; rfl
 ·rw[h,show (Z0 (y.take (y.length - 1 - p))+1) % 2=0 by omega]; rfl
theorem Z3i{y:List Lt}(b:y≠[])(c:Z0 y % 2=0):De false y y.reverse:=by
 have d:0<y.length:=List.length_pos_iff.2 b;refine⟨List.length_reverse,y.length - 1,id,by omega,Zq8 y,fun p a=>?_⟩
 have e:mvt y.length false (y.length - 1) p=y.length - 1 - p:=by simp[mvt]; omega
 rw[e,Zgl a,Zqs];refine⟨rfl,fun f=>?_⟩
 rw[Zuk c a f];cases down y (y.length - 1 - p)<;>rfl
structure Ev (y:List Lt):Prop where
 ne:y≠[]
 ev:Z0 y % 2=0
 bk:∃ i,i<y.length∧bkC y i=true
theorem ValR.evx{f:Int}{y:List Lt}(h:ValR f y)(a:y≠[]):Ev y:=⟨a,h.evn,h.bk a⟩
theorem Zou(y:List Lt):Z0 y.reverse=Z0 y:=by unfold Z0 Z3; rw[List.filter_reverse,List.length_reverse]
theorem Zji{y:List Lt}(h:Ev y):De false y (T5 y):=by
 obtain⟨c,b,a,e⟩:=Zr3 h.bk;rw[Zsu b a e];have i:isP (at' y.reverse c)=true:=by simp only[bkC,bA]at a; exact a.1
 have f:down y (y.length - 1 - c)=false:=by simp only[bkC,bA,Bool.not_eq_true']at a; exact a.2
 have g:=Z3i h.ne h.ev;have d:down y.reverse c=true:=by rw[Zuk h.ev b (by rw[← Zgl b]; exact i),f]; rfl
 have:=g.trans (Zor (s:=c) (by rw[Zou]; exact h.ev) (by rw[List.length_reverse]; exact b) d)
 exact this
theorem Yb5(y:List Lt):Z0 (T5 y)=Z0 y:=by
 unfold T5;split
 ·exact(Zdv _ _ _).trans (Zou y)
 ·exact Zou y
def Cn(y w:List Lt):Prop:=(∃ i,i<y.length∧(isP (at' y i)&&down y i)=true∧w=Q0 y i)∨(∃ i,i<y.length∧(isP (at' (T5 y) i)&&down (T5 y) i)=true∧w=Q0 (T5 y) i)
theorem Z5s{y:List Lt}(s:Nat)(a:y≠[]):W6 s y≠[]:=by
 intro e;have:=congrArg List.length e;rw[D1]at this;exact a (List.length_eq_zero_iff.1 this)
theorem Z03{y:List Lt}{i:Nat}(b:y≠[])(c:Z0 y % 2=0)(hi:i<y.length)(a:(isP (at' y i)&&down y i)=true):De true y (Q0 y i):=by
 simp only[bA]at a;exact(Zor c hi a.2).trans (Z21 (Z5s i b))
theorem Zmx{y w:List Lt}(h:Ev y)(d:Cn y w):∃ e,De e y w:=by
 rcases d with⟨i,a,b,rfl⟩|⟨i,a,b,rfl⟩
 ·exact⟨_,Z03 h.ne h.ev a b⟩
 ·have c:T5 y≠[]:=by
   intro e;have:=congrArg List.length e;rw[Zfq]at this;exact h.ne (List.length_eq_zero_iff.1 this)
  exact⟨_,(Zji h).trans (Z03 c (by rw[Yb5]; exact h.ev) (by rw[Zfq]; exact a) b)⟩
end Go.Known
end
