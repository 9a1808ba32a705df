/- Part 37 of the proof: Pu, Pv. -/
import Derived.Test.YtipeejpafgnjdaaGreatDoorH36
set_option linter.all false
section
namespace Go.Known
open Go.Plain
def mvt(n:Nat)(e:Bool)(s p:Nat):Nat:=if e then (if s+p<n then s+p else s+p - n)else (if p≤s then s - p else s+n - p)
theorem O1{n s p:Nat}{e:Bool}(hs:s<n)(hp:p<n):mvt n e s p<n:=by
 unfold mvt;cases e<;>simp only[bF,if_false,if_true]<;>split<;>omega
theorem Zub{n s:Nat}{e:Bool}(hs:s<n):mvt n e s 0=s:=by
 unfold mvt;cases e<;>simp only[bF,if_false,if_true]<;>split<;>omega
theorem Zk0{n s1 s2 p:Nat}{e1 e2:Bool}(h1:s1<n)(h2:s2<n)(hp:p<n):mvt n e1 s1 (mvt n e2 s2 p)=mvt n (e1 == e2) (mvt n e1 s1 s2) p:=by
 unfold mvt;cases e1<;>cases e2<;>simp only[show (false == false)=true from rfl,show (true == true)=true from rfl,show (true == false)=false from rfl,show (false == true)=false from rfl,bF,if_false,if_true]<;>(repeat' split)<;>omega
def ivt(n:Nat)(e:Bool)(s:Nat):Nat:=if e then (if s=0 then 0 else n - s)else s
theorem Zfl{n s:Nat}{e:Bool}(hs:s<n):ivt n e s<n:=by
 unfold ivt;cases e<;>simp only[bF,if_false,if_true]<;>(try split)<;>omega
theorem Zhw{n s p:Nat}{e:Bool}(hs:s<n)(hp:p<n):mvt n e s (mvt n e (ivt n e s) p)=p:=by
 unfold mvt ivt;cases e<;>simp only[bF,if_false,if_true]<;>(repeat' split)<;>omega
theorem Zqw{n s p:Nat}{e:Bool}(hs:s<n)(hp:p<n):mvt n e (ivt n e s) (mvt n e s p)=p:=by
 unfold mvt ivt;cases e<;>simp only[bF,if_false,if_true]<;>(repeat' split)<;>omega
def ap(φ:Int→Int)(l:Lt):Lt:=if l.k=2 then { l with i:=φ l.i } else l
theorem ap_k(φ:Int→Int)(l:Lt):(ap φ l).k=l.k:=by unfold ap; split<;>rfl
theorem Ziv(φ:Int→Int)(l:Lt):isP (ap φ l)=isP l:=by unfold isP; rw[ap_k]
theorem N5{φ:Int→Int}{l:Lt}(h:l.k=2):ap φ l={ l with i:=φ l.i }:=by unfold ap; rw[if_pos h]
theorem C2{φ:Int→Int}{l:Lt}(h:¬l.k=2):ap φ l=l:=by unfold ap; rw[if_neg h]
theorem Zms(l:Lt):ap id l=l:=by unfold ap; split<;>rfl
theorem Z99(φ ψ:Int→Int)(l:Lt):ap ψ (ap φ l)=ap (ψ∘φ) l:=by
 by_cases h:l.k=2
 ·rw[N5 h,N5 (l:={ l with i:=φ l.i }) h,N5 h]; rfl
 ·rw[C2 h,C2 h,C2 h]
def InjI(φ:Int→Int)(y:List Lt):Prop:=∀ a,a∈y → ∀ b,b∈y→a.k=2→b.k=2→φ a.i=φ b.i→a.i=b.i
def De(e:Bool)(y x:List Lt):Prop:=x.length=y.length ∧ ∃ s φ,s<y.length∧InjI φ y ∧ ∀ p,p<y.length→at' x p=ap φ (at' y (mvt y.length e s p))∧(isP (at' x p)=true→down x p=(down y (mvt y.length e s p) == e))
theorem Zfn{y:List Lt}{a:Lt}(h:a∈y):∃ p,p<y.length∧at' y p=a:=by
 obtain⟨p,hp,e⟩:=List.getElem_of_mem h;exact⟨p,hp,by simp[at',List.getD,hp,e]⟩
theorem De.trans{e1 e2:Bool}{y x z:List Lt}(h1:De e1 y x)(h2:De e2 x z):De (e1 == e2) y z:=by
 obtain⟨l1,s1,φ1,hs1,i1,p1⟩:=h1;obtain⟨l2,s2,φ2,hs2,i2,p2⟩:=h2;rw[l1]at hs2 p2;refine⟨l2.trans l1,mvt y.length e1 s1 s2,φ2∘φ1,O1 hs1 hs2,fun a ha b hb hka hkb hab=>?_,fun p hp=>?_⟩
 ·obtain⟨pa,pa1,rfl⟩:=Zfn ha;obtain⟨pb,pb1,rfl⟩:=Zfn hb;have qa:=(p1 _ (O1 (e:=e1) (Zfl (e:=e1) hs1) pa1)).1;have qb:=(p1 _ (O1 (e:=e1) (Zfl (e:=e1) hs1) pb1)).1;rw[Zhw hs1 pa1]at qa;rw[Zhw hs1 pb1]at qb;have ma:ap φ1 (at' y pa)∈x:=by rw[← qa]; exact R9 (by rw[l1]; exact O1 (Zfl hs1) pa1)
  have mb:ap φ1 (at' y pb)∈x:=by rw[← qb]; exact R9 (by rw[l1]; exact O1 (Zfl hs1) pb1)
  refine i1 _ ha _ hb hka hkb ?_;have:=i2 _ ma _ mb (by rw[ap_k]; exact hka) (by rw[ap_k]; exact hkb)
  rw[N5 hka,N5 hkb]at this;exact this hab
 ·have hq:=O1 (e:=e2) hs2 hp;obtain⟨a1,a2⟩:=p2 p hp;obtain⟨b1,b2⟩:=p1 _ hq;rw[Zk0 hs1 hs2 hp]at b1 b2;refine⟨by rw[a1,b1,Z99],fun hz=>?_⟩
  rw[a2 hz,b2 (by rw[a1,Ziv]at hz; exact hz)]
  cases e1<;>cases e2<;>cases down y _<;>rfl
theorem De.symm{e:Bool}{y x:List Lt}(h:De e y x):De e x y:=by
 obtain⟨l1,s,φ,hs,i1,p1⟩:=h;obtain⟨ψ,hψ⟩:∃ ψ:Int→Int,∀ a,a∈y→a.k=2→ψ (φ a.i)=a.i:=by
  have hc:∀ j:Int,∃ i:Int,∀ a,a∈y→a.k=2→φ a.i=j→i=a.i:=fun j=>by
   by_cases hx:∃ a,a∈y∧a.k=2∧φ a.i=j
   ·obtain⟨a,h1,h2,h3⟩:=hx;exact⟨a.i,fun b hb hk hj=>i1 a h1 b hb h2 hk (by rw[h3,hj])⟩
   ·exact⟨0,fun b hb hk hj=>absurd ⟨b,hb,hk,hj⟩ hx⟩
  obtain⟨ψ,h⟩:=Classical.axiomOfChoice hc;exact⟨ψ,fun a ha hk=>h _ a ha hk rfl⟩
 refine⟨l1.symm,ivt y.length e s,ψ,by rw[l1]; exact Zfl hs,fun a ha b hb hka hkb hab=>?_,fun p hp=>?_⟩
 ·obtain⟨pa,pa1,rfl⟩:=Zfn ha;obtain⟨pb,pb1,rfl⟩:=Zfn hb;rw[l1]at pa1 pb1;have qa:=(p1 pa pa1).1;have qb:=(p1 pb pb1).1;rw[qa,ap_k]at hka;rw[qb,ap_k]at hkb;rw[qa,qb,N5 hka,N5 hkb]at hab ⊢;simp only at hab ⊢;rw[hψ _ (R9 (O1 hs pa1)) hka,hψ _ (R9 (O1 hs pb1)) hkb]at hab;rw[hab]
 ·rw[l1]at hp ⊢;have hq:=O1 (e:=e) (Zfl (e:=e) hs) hp;obtain⟨a1,a2⟩:=p1 _ hq;rw[Zhw hs hp]at a1 a2;have hm:=R9 hp;refine⟨?_,fun hz=>?_⟩
  ·rw[a1];by_cases hk:(at' y p).k=2
   ·rw[N5 hk,N5 (l:={ at' y p with i:=φ (at' y p).i }) hk]
    simp only[hψ _ hm hk]
   ·rw[C2 hk,C2 hk]
  ·rw[a2 (by rw[a1,Ziv]; exact hz)]
   cases e<;>cases down y p<;>rfl
end Go.Known
end
section
namespace Go.Known
open Go.Plain
theorem atm{g:Lt→Lt}{l:List Lt}{p:Nat}(h:p<l.length):at' (l.map g) p=g (at' l p):=by simp[at',List.getD,h]
theorem Yef(φ:Int→Int)(l:List Lt):Z1 (l.map (ap φ))=Z1 l:=by
 unfold Z1;rw[E6];exact T0 fun a _=>Ziv φ a
theorem Z7q(φ:Int→Int)(l:List Lt)(p:Nat):down (l.map (ap φ)) p=down l p:=by
 unfold down;rw[← List.map_take,Yef]
theorem Zlt{y:List Lt}{x:Int}{p:Nat}(h:W5 x (W7 y p)≠0):∀ k,p+k≤y.length→W5 x (W7 y (p+k))=W5 x (W7 y p)
 | 0,_=>rfl
 | k+1,hk=>by
  have ih:=Zlt h k (by omega)
  have hs:=Zke (ls:=y) (i:=p+k) (by omega)
  rw[← Nat.add_assoc,hs];unfold Q6;split
  ·rw[Zuz (by rw[ih]; exact h),ih]
  ·exact ih
theorem Ztu:∀ {met:List Int} {x y:Int},W5 x met≠0→W5 x met=W5 y met→x=y
 | [],_,_,h,_=>absurd rfl h
 | z :: r,x,y,h,e=>by
  simp only[W5]at h e;by_cases hx:x=z
  ·rw[if_pos hx]at e;by_cases hy:y=z
   ·rw[hx,hy]
   ·rw[if_neg hy]at e;split at e<;>omega
  ·rw[if_neg hx]at h e;by_cases h0:W5 x r=0
   ·rw[if_pos h0]at h; exact absurd rfl h
   ·rw[if_neg h0]at e;by_cases hy:y=z
    ·rw[if_pos hy]at e; omega
    ·rw[if_neg hy]at e;split at e
     ·omega
     ·exact Ztu h0 (by omega)
theorem Znt{y:List Lt}{p:Nat}(hp:p<y.length)(hk:(at' y p).k=2):W5 (at' y p).i (W7 y (p+1))≠0:=by
 rw[Zke hp];unfold Q6;by_cases h:W5 (at' y p).i (W7 y p)=0
 ·rw[if_pos ⟨hk,h⟩,Zps h]; omega
 ·rw[if_neg (fun e=>h e.2)]; exact h
theorem Zjm(y:List Lt):O0 y=y.map (ap fun i=>(W5 i (W7 y y.length):Nat)):=by
 refine Zhf (by rw[Zj1,List.length_map]) fun p hp=>?_
 rw[Zj1]at hp;rw[Zvv hp,atm hp];unfold renS;by_cases hk:(at' y p).k=2
 ·rw[if_pos hk,N5 hk,← Zke hp];have:=Zlt (Znt hp hk) (y.length - (p+1)) (by omega)
  rw[show p+1+(y.length - (p+1))=y.length by omega]at this
  rw[this]
 ·rw[if_neg hk,C2 hk]
theorem Zxz(y:List Lt):InjI (fun i=>(W5 i (W7 y y.length):Nat)) y:=by
 intro a ha b hb hka hkb hab;obtain⟨p,hp,rfl⟩:=Zfn ha;have h1:=Znt hp hka;have h2:=Zlt h1 (y.length - (p+1)) (by omega)
 rw[show p+1+(y.length - (p+1))=y.length by omega]at h2
 refine Ztu (met:=W7 y y.length) (by rw[h2]; exact h1) ?_
 have:((W5 (at' y p).i (W7 y y.length):Nat):Int)=(W5 b.i (W7 y y.length):Nat):=hab;omega
theorem Zsf{y:List Lt}{φ:Int→Int}(h0:y≠[])(hφ:InjI φ y):De true y (y.map (ap φ)):=by
 have hlp:0<y.length:=List.length_pos_iff.2 h0;refine⟨List.length_map _,0,φ,hlp,hφ,fun p hp=>?_⟩
 have e:mvt y.length true 0 p=p:=by simp[mvt]; omega
 rw[e,atm hp,Z7q];exact⟨rfl,fun _=>by cases down y p<;>rfl⟩
theorem Yau{y:List Lt}(h0:y≠[]):De true y (O0 y):=by
 rw[Zjm];exact Zsf h0 (Zxz y)
theorem Zkl(y:List Lt):InjI id y:=fun _ _ _ _ _ _ h=>h
theorem Zyd{y:List Lt}{s:Nat}(he:Z1 y % 2=0)(hs:s<y.length)(hd:down y s=true):De true y (V5 s y):=by
 refine⟨Zuf s y,s,id,hs,Zkl y,fun p hp=>?_⟩
 have hv:=O1 (e:=true) hs hp;have hr:rho y.length s (mvt y.length true s p)=p:=by
  rw[Zg9 hs hv];unfold mvt;simp only[if_true];split<;>split<;>omega
 have h1:=Zqp hs hv;have h2:=Zpr hs hv;rw[hr]at h1 h2;refine⟨by rw[h1,Zms],fun _=>?_⟩
 unfold down at hd ⊢;simp only[beq_iff_eq]at hd;have e:(Z1 ((V5 s y).take p) % 2 == 0)=(Z1 (y.take (mvt y.length true s p)) % 2 == 0):=by
  have:Z1 ((V5 s y).take p) % 2=Z1 (y.take (mvt y.length true s p)) % 2:=by
   split at h2<;>omega
  rw[this]
 rw[e];cases (Z1 (y.take (mvt y.length true s p)) % 2 == 0)<;>rfl
theorem Zzk{y:List Lt}(he:Z1 y % 2=0){p:Nat}(hp:p<y.length)(hz:isP (at' y (y.length - 1 - p))=true):down y.reverse p = !down y (y.length - 1 - p):=by
 have hc:∀ a b:List Lt,Z1 (a++b)=Z1 a+Z1 b:=fun a b=>Zf8 _ a b
 have hrv:∀ a:List Lt,Z1 a.reverse=Z1 a:=fun a=>by unfold Z1 Z4; rw[List.filter_reverse,List.length_reverse]
 have h1:y.reverse.take p=(y.drop (y.length - p)).reverse:=by rw[List.take_reverse]
 have h2:=hc (y.take (y.length - p)) (y.drop (y.length - p));rw[List.take_append_drop]at h2;have h3:=Ztb (ls:=y) (i:=y.length - 1 - p) (by omega)
 rw[hz,show y.length - 1 - p+1=y.length - p by omega]at h3
 simp only[if_true]at h3;unfold down;rw[h1,hrv];have e:Z1 (y.drop (y.length - p)) % 2=(Z1 (y.take (y.length - 1 - p))+1) % 2:=by omega
 rw[e];rcases Nat.mod_two_eq_zero_or_one (Z1 (y.take (y.length - 1 - p)))with h|h
 ·rw[h,show (Z1 (y.take (y.length - 1 - p))+1) % 2=1 by omega]; rfl
 ·rw[h,show (Z1 (y.take (y.length - 1 - p))+1) % 2=0 by omega]; rfl
theorem Ycg{y:List Lt}(h0:y≠[])(he:Z1 y % 2=0):De false y y.reverse:=by
 have hlp:0<y.length:=List.length_pos_iff.2 h0;refine⟨List.length_reverse,y.length - 1,id,by omega,Zkl y,fun p hp=>?_⟩
 have e:mvt y.length false (y.length - 1) p=y.length - 1 - p:=by simp[mvt]; omega
 rw[e,Zgr hp,Zms];refine⟨rfl,fun hz=>?_⟩
 rw[Zzk he hp hz];cases down y (y.length - 1 - p)<;>rfl
structure Ev (y:List Lt):Prop where
 ne:y≠[]
 ev:Z1 y % 2=0
 bk:∃ i,i<y.length∧bkC y i=true
theorem ValR.evx{f:Int}{y:List Lt}(h:ValR f y)(h0:y≠[]):Ev y:=⟨h0,h.evn,h.bk h0⟩
theorem Znv(y:List Lt):Z1 y.reverse=Z1 y:=by unfold Z1 Z4; rw[List.filter_reverse,List.length_reverse]
theorem Zrs{y:List Lt}(h:Ev y):De false y (U4 y):=by
 obtain⟨i0,h1,h2,h3⟩:=Zre h.bk;rw[Zqs h1 h2 h3];have hz:isP (at' y.reverse i0)=true:=by simp only[bkC,bA]at h2; exact h2.1
 have hd:down y (y.length - 1 - i0)=false:=by simp only[bkC,bA,Bool.not_eq_true']at h2; exact h2.2
 have hr:=Ycg h.ne h.ev;have hdr:down y.reverse i0=true:=by rw[Zzk h.ev h1 (by rw[← Zgr h1]; exact hz),hd]; rfl
 have:=hr.trans (Zyd (s:=i0) (by rw[Znv]; exact h.ev) (by rw[List.length_reverse]; exact h1) hdr)
 exact this
theorem Z29(y:List Lt):Z1 (U4 y)=Z1 y:=by
 unfold U4;split
 ·exact(Zfq _ _ _).trans (Znv y)
 ·exact Znv y
def Cn(y w:List Lt):Prop:=(∃ i,i<y.length∧(isP (at' y i)&&down y i)=true∧w=Q4 y i)∨(∃ i,i<y.length∧(isP (at' (U4 y) i)&&down (U4 y) i)=true∧w=Q4 (U4 y) i)
theorem Z8s{y:List Lt}(s:Nat)(h0:y≠[]):V5 s y≠[]:=by
 intro e;have:=congrArg List.length e;rw[B1]at this;exact h0 (List.length_eq_zero_iff.1 this)
theorem Zz2{y:List Lt}{i:Nat}(h0:y≠[])(he:Z1 y % 2=0)(hi:i<y.length)(hp:(isP (at' y i)&&down y i)=true):De true y (Q4 y i):=by
 simp only[bA]at hp;exact(Zyd he hi hp.2).trans (Yau (Z8s i h0))
theorem Z6v{y w:List Lt}(h:Ev y)(hw:Cn y w):∃ e,De e y w:=by
 rcases hw with⟨i,h1,h2,rfl⟩|⟨i,h1,h2,rfl⟩
 ·exact⟨_,Zz2 h.ne h.ev h1 h2⟩
 ·have hb:U4 y≠[]:=by
   intro e;have:=congrArg List.length e;rw[Zhe]at this;exact h.ne (List.length_eq_zero_iff.1 this)
  exact⟨_,(Zrs h).trans (Zz2 hb (by rw[Z29]; exact h.ev) (by rw[Zhe]; exact h1) h2)⟩
end Go.Known
end
