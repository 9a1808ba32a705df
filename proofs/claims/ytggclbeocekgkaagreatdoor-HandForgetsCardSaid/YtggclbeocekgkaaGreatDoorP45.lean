/- Part 45 of the proof: Fxj, Fwa, Fwb, Fwc, Fxk. -/
import Derived.Test.YtggclbeocekgkaaGreatDoorP10
import Derived.Test.YtggclbeocekgkaaGreatDoorP33
import Derived.Test.YtggclbeocekgkaaGreatDoorP44
set_option linter.all false
section
namespace Go.Ac
open Go.Plain
def V5(G n:Int)(l:Lt):Lt:=if l.k=1∧l.g=G∧l.r=n then { l with g:=G+1,r:=1 } else if l.k=1∧l.g=G+1 then { l with r:=l.r+1 } else l
def Q6(G:Int)(ls:List Lt):List Lt:=ls.map (V5 G (Ay G ls:Nat))
section
variable {G n:Int} {ls:List Lt}
theorem ti_x{l:Lt}(h:¬l.k=1):V5 G n l=l:=by
 unfold V5;rw[if_neg fun e=>h e.1,if_neg fun e=>h e.1]
theorem Fi(l:Lt):(V5 G n l).k=l.k:=by unfold V5; split<;>(try split)<;>rfl
theorem MA(l:Lt):(V5 G n l).i=l.i:=by unfold V5; split<;>(try split)<;>rfl
theorem Rb(l:Lt):(V5 G n l).s=l.s:=by unfold V5; split<;>(try split)<;>rfl
theorem Ra(l:Lt):(V5 G n l).o=l.o:=by unfold V5; split<;>(try split)<;>rfl
theorem Vx(l:Lt):Am (V5 G n l)=Am l:=by unfold Am; rw[Fi]
theorem wL(l:Lt):Bg (V5 G n l)=Bg l:=by unfold Bg; rw[Fi]
theorem SM{l:Lt}(hk:l.k=1):(l.g=G→l.r=n→(V5 G n l).g=G+1∧(V5 G n l).r=1)∧(l.g=G→l.r≠n→(V5 G n l).g=G∧(V5 G n l).r=l.r)∧(l.g=G+1→(V5 G n l).g=G+1∧(V5 G n l).r=l.r+1) ∧
 (l.g≠G→l.g≠G+1→(V5 G n l).g=l.g∧(V5 G n l).r=l.r):=by
 unfold V5;refine⟨fun h1 h2=>?_,fun h1 h2=>?_,fun h1=>?_,fun h1 h2=>?_⟩
 ·rw[iP ⟨hk,h1,h2⟩]; exact⟨rfl,rfl⟩
 ·rw[iN fun e=>h2 e.2.2,iN (by omega)]; exact⟨h1,rfl⟩
 ·rw[iN (by omega),iP ⟨hk,h1⟩]; exact⟨h1,rfl⟩
 ·rw[iN (by omega),iN (by omega)]; exact⟨rfl,rfl⟩
theorem xM{a b:Lt}(ha:a.k=1)(hb:b.k=1)(ha1:1≤a.r)(DN:1≤b.r)(ha2:a.r≤Ay a.g ls)(Ci:b.r≤Ay b.g ls) :
 R1 (V5 G (Ay G ls:Nat) a) (V5 G (Ay G ls:Nat) b)=R1 a b∧(((V5 G (Ay G ls:Nat) a).g=(V5 G (Ay G ls:Nat) b).g∧(V5 G (Ay G ls:Nat) a).r=(V5 G (Ay G ls:Nat) b).r)↔(a.g=b.g∧a.r=b.r)):=by
 obtain⟨a1,a2,a3,a4⟩:=SM (G:=G) (n:=(Ay G ls:Nat)) ha;obtain⟨b1,b2,b3,b4⟩:=SM (G:=G) (n:=(Ay G ls:Nat)) hb;have ha3:a.g=G→a.r≤Ay G ls:=fun e=>by rw[← e]; exact ha2
 have hb3:b.g=G→b.r≤Ay G ls:=fun e=>by rw[← e]; exact Ci
 generalize (Ay G ls:Nat)=c at *;generalize V5 G (c:Int) a=x at *;generalize V5 G (c:Int) b=y at *;have hx:(a.g=G∧a.r=c∧x.g=G+1∧x.r=1)∨(a.g=G∧a.r<c∧x.g=G∧x.r=a.r)∨(a.g=G+1∧x.g=G+1∧x.r=a.r+1)∨(a.g≠G∧a.g≠G+1∧x.g=a.g∧x.r=a.r):=by
  by_cases h1:a.g=G
  ·have:=ha3 h1;by_cases h2:a.r=c
   ·exact .inl ⟨h1,h2,a1 h1 h2⟩
   ·exact .inr (.inl ⟨h1,by omega,a2 h1 h2⟩)
  ·by_cases h2:a.g=G+1
   ·exact .inr (.inr (.inl ⟨h2,a3 h2⟩))
   ·exact .inr (.inr (.inr ⟨h1,h2,a4 h1 h2⟩))
 have hy:(b.g=G∧b.r=c∧y.g=G+1∧y.r=1)∨(b.g=G∧b.r<c∧y.g=G∧y.r=b.r)∨(b.g=G+1∧y.g=G+1∧y.r=b.r+1)∨(b.g≠G∧b.g≠G+1∧y.g=b.g∧y.r=b.r):=by
  by_cases h1:b.g=G
  ·have:=hb3 h1;by_cases h2:b.r=c
   ·exact .inl ⟨h1,h2,b1 h1 h2⟩
   ·exact .inr (.inl ⟨h1,by omega,b2 h1 h2⟩)
  ·by_cases h2:b.g=G+1
   ·exact .inr (.inr (.inl ⟨h2,b3 h2⟩))
   ·exact .inr (.inr (.inr ⟨h1,h2,b4 h1 h2⟩))
 clear a1 a2 a3 a4 b1 b2 b3 b4 ha3 hb3 ha2 Ci;refine⟨?_,?_⟩
 ·rw[Bool.eq_iff_iff];simp only[R1,Bool.or_eq_true,bA,decide_eq_true_eq,beq_iff_eq];rcases hx with hx|hx|hx|hx<;>rcases hy with hy|hy|hy|hy<;>omega
 ·rcases hx with hx|hx|hx|hx<;>rcases hy with hy|hy|hy|hy<;>omega
end
theorem xb{F G:Int}{ls:List Lt}(h:Bq F ls):Z2 (Q6 G ls)=Z2 ls:=by
 unfold Z2;rw[show (Q6 G ls).length=ls.length by simp[Q6]]
 refine lY Vx (fun a ha b hb pa pb=>?_) _ (lR _)
 obtain⟨a1,a2,a3,_⟩:=h.key ha pa;obtain⟨b1,b2,b3,_⟩:=h.key hb pb;exact(xM a1 b1 a2 b2 a3 b3).1
theorem Z1c{F G:Int}{ls:List Lt}(h:Bq F ls)(hn:1≤Ay G ls):Ay G (Q6 G ls)+1=Ay G ls∧Ay (G+1) (Q6 G ls)=Ay (G+1) ls+1 ∧ ∀ g,g≠G→g≠G+1→Ay g (Q6 G ls)=Ay g ls:=by
 obtain⟨c,hc⟩:∃ c:Int,(Ay G ls:Int)=c:=⟨_,rfl⟩
 have hv:∀ o,o∈ls→Am o=true→(o.g=G→o.r=c→(V5 G c o).g=G+1)∧(o.g=G→o.r≠c→(V5 G c o).g=G)∧(o.g≠G→(V5 G c o).g=o.g):=fun o ho hp=>by
  obtain⟨k1,_⟩:=h.key ho hp;obtain⟨a1,a2,a3,a4⟩:=SM (G:=G) (n:=c) k1;refine⟨fun e1 e2=>(a1 e1 e2).1,fun e1 e2=>(a2 e1 e2).1,fun e1=>?_⟩
  by_cases e2:o.g=G+1
  ·rw[(a3 e2).1,e2]
  ·exact(a4 e1 e2).1
 have hone:Z9 (fun l=>Am l&&(l.g == G&&l.r == c)) ls=1:=by
  have hex:∃ l,l∈ls∧l.k=1∧l.g=G∧l.r=c:=by
   obtain⟨rk,ap,_⟩:=Bq.Ep h.lo h.ET;have hb:=nW (ls:=ls) (q:=fun l=>Am l&&l.g == G) (fun l hl hq=>by
    simp only[bA,beq_iff_eq]at hq;obtain⟨_,r1,r2,_⟩:=h.key hl hq.1;rw[hq.2]at r2;exact⟨r1,r2⟩) (fun t=>by
    by_cases hex:∃ l,l∈ls∧Am l=true∧l.g=G∧l.r=t
    ·obtain⟨l,l1,l2,l3,l4⟩:=hex;obtain⟨k1,_⟩:=h.key l1 l2;obtain⟨_,_,_,_,_,_,_,h8⟩:=(A5 k1).1 (h.ET l l1);unfold same at h8;rw[← h8];refine Nat.le_of_eq (O8 fun o ho=>?_)
     rw[Bool.eq_iff_iff];simp only[bA,beq_iff_eq,Am];omega
    ·have:Z9 (fun l=>(Am l&&l.g == G)&&l.r == t) ls=0:=by
      unfold Z9;rw[List.length_eq_zero_iff,List.filter_eq_nil_iff];intro l hl hq;simp only[bA,beq_iff_eq]at hq;exact hex ⟨l,hl,hq.1.1,hq.1.2,hq.2⟩
     omega)
   have hN:Z9 (fun l=>Am l&&l.g == G) ls=Ay G ls:=rfl
   have e1:=hb (Ay G ls) (lR _);have e2:=hb (Ay G ls - 1) (by rw[hN]; omega)
   have e3:=Nc (fun l=>(Am l&&l.g == G)&&decide (l.r≤((Ay G ls:Nat):Int))) (fun l=>decide (l.r≤((Ay G ls - 1:Nat):Int))) ls
   have e4:Z9 (fun l=>((Am l&&l.g == G)&&decide (l.r≤((Ay G ls:Nat):Int)))&&decide (l.r≤((Ay G ls - 1:Nat):Int))) ls=Z9 (fun l=>(Am l&&l.g == G)&&decide (l.r≤((Ay G ls - 1:Nat):Int))) ls:=O8 fun o _=>by
    rw[Bool.eq_iff_iff];simp only[bA,decide_eq_true_eq,Am,beq_iff_eq];omega
   have e5:0<Z9 (fun l=>((Am l&&l.g == G)&&decide (l.r≤((Ay G ls:Nat):Int))) && !decide (l.r≤((Ay G ls - 1:Nat):Int))) ls:=by omega
   unfold Z9 at e5;obtain⟨l,hl⟩:=List.exists_mem_of_length_pos e5;obtain⟨l1,l2⟩:=List.mem_filter.1 hl;simp only[bA,decide_eq_true_eq,beq_iff_eq,Bool.not_eq_true',decide_eq_false_iff_not]at l2;exact⟨l,l1,by simpa[Am]using l2.1.1.1,l2.1.1.2,by omega⟩
  obtain⟨l,l1,l2,l3,l4⟩:=hex;obtain⟨_,_,_,_,_,_,_,h8⟩:=(A5 l2).1 (h.ET l l1);unfold same at h8;rw[← h8];refine O8 fun o ho=>?_
  rw[Bool.eq_iff_iff];simp only[bA,beq_iff_eq,Am];omega
 unfold Ay Q6;rw[hc,Lf,Lf];have key:∀ g:Int,∀ P:Lt→Bool,(∀ o,o∈ls→Am o=true→((V5 G c o).g == g)=P o)→Z9 (fun l=>Am (V5 G c l)&&(V5 G c l).g == g) ls=Z9 (fun l=>Am l&&P l) ls:=fun g P hP=>O8 fun o ho=>by
  rw[Vx];cases hp:Am o with
  | false=>rfl
  | true=>rw[hP o ho hp]
 refine⟨?_,?_,fun g g1 g2=>?_⟩
 ·rw[key G (fun o=>o.g == G && !(o.r == c)) fun o ho hp=>by
   obtain⟨v1,v2,v3⟩:=hv o ho hp;rw[Bool.eq_iff_iff];simp only[bA,beq_iff_eq,Bool.not_eq_true',beq_eq_false_iff_ne];constructor
   ·intro e;by_cases h1:o.g=G
    ·refine⟨h1,fun h2=>?_⟩
     have:=v1 h1 h2;omega
    ·have:=v3 h1;omega
   ·rintro⟨h1,h2⟩;exact v2 h1 h2]
  have:=Nc (fun l=>Am l&&l.g == G) (fun l=>l.r == c) ls
  have e1:Z9 (fun l=>(Am l&&l.g == G)&&l.r == c) ls=1:=by rw[← hone]; exact O8 fun o _=>by rw[Bool.and_assoc]
  have e2:Z9 (fun l=>(Am l&&l.g == G) && !(l.r == c)) ls=Z9 (fun l=>Am l&&(l.g == G && !(l.r == c))) ls:=O8 fun o _=>by rw[Bool.and_assoc]
  omega
 ·rw[key (G+1) (fun o=>(o.g == G&&o.r == c)||o.g == G+1) fun o ho hp=>by
   obtain⟨v1,v2,v3⟩:=hv o ho hp;rw[Bool.eq_iff_iff];simp only[bA,beq_iff_eq,Bool.or_eq_true];constructor
   ·intro e;by_cases h1:o.g=G
    ·by_cases h2:o.r=c
     ·exact .inl ⟨h1,h2⟩
     ·have:=v2 h1 h2;omega
    ·have:=v3 h1;omega
   ·rintro(⟨h1,h2⟩|h1)
    ·exact v1 h1 h2
    ·rw[v3 (by omega),h1]]
  have:=Nc (fun l=>Am l&&((l.g == G&&l.r == c)||l.g == G+1)) (fun l=>l.g == G+1) ls
  have e1:Z9 (fun l=>(Am l&&((l.g == G&&l.r == c)||l.g == G+1))&&l.g == G+1) ls=Z9 (fun l=>Am l&&l.g == G+1) ls:=O8 fun o _=>by
   cases Am o<;>cases (o.g == G&&o.r == c)<;>cases (o.g == G+1)<;>rfl
  have e2:Z9 (fun l=>(Am l&&((l.g == G&&l.r == c)||l.g == G+1)) && !(l.g == G+1)) ls=1:=by
   rw[← hone];refine O8 fun o _=>?_
   rw[Bool.eq_iff_iff];simp only[bA,beq_iff_eq,Bool.or_eq_true,Bool.not_eq_true',beq_eq_false_iff_ne,Am];omega
  omega
 ·rw[Lf,key g (fun o=>o.g == g) fun o ho hp=>by
   obtain⟨v1,v2,v3⟩:=hv o ho hp;rw[Bool.eq_iff_iff];simp only[beq_iff_eq];by_cases h1:o.g=G
   ·by_cases h2:o.r=c
    ·have:=v1 h1 h2;omega
    ·have:=v2 h1 h2;omega
   ·have:=v3 h1;omega]
theorem Bq.tip{F G:Int}{ls:List Lt}(h:Bq F ls)(h0:ls≠[])(h1:0≤G)(h2:G+1≤F)(hn:1≤Ay G ls):Bq F (Q6 G ls):=by
 have hpos:0<ls.length:=by grind
 have hl:(Q6 G ls).length=ls.length:=by simp[Q6]
 have hv:X0 (Q6 G ls)=X0 ls:=by unfold X0 Q6; rw[Lf]; exact O8 fun l _=>wL l
 have hp:Z0 (Q6 G ls)=Z0 ls:=by unfold Z0 Q6; rw[Lf]; exact O8 fun l _=>Vx l
 have hT:X7 (Q6 G ls) (Z2 (Q6 G ls))=X7 ls (Z2 ls):=by
  rw[xb h];exact funext fun d=>Z3e Fi MA Ra Rb _ d
 obtain⟨g1,g2,g3⟩:=Z1c h hn;refine⟨by rw[hl]; exact h.len,by rw[hv]; exact h.vis,h.lo,h.hi,?_,by rw[hp]; exact h.IN,fun l hm=>?_,?_⟩
 ·have:at' (Q6 G ls) 0=V5 G (Ay G ls:Nat) (at' ls 0):=Rp _ hpos;rw[this,Fi]; exact h.fst
 ·obtain⟨l0,m0,rfl⟩:=mM.1 hm;have hok:=h.ET _ m0;rcases St hok with hk|hk
  ·obtain⟨a,b,c,d,e,e1,e2,e3⟩:=(A5 hk).1 hok;obtain⟨q1,q2,q3,q4⟩:=SM (G:=G) (n:=(Ay G ls:Nat)) hk;have hcase:0≤(V5 G (Ay G ls:Nat) l0).g∧(V5 G (Ay G ls:Nat) l0).g≤F∧1≤(V5 G (Ay G ls:Nat) l0).r∧(V5 G (Ay G ls:Nat) l0).r≤Ay (V5 G (Ay G ls:Nat) l0).g (Q6 G ls):=by
    by_cases c1:l0.g=G
    ·rw[c1]at e2;by_cases c2:l0.r=(Ay G ls:Nat)
     ·obtain⟨x1,x2⟩:=q1 c1 c2;rw[x1,x2,g2];omega
     ·obtain⟨x1,x2⟩:=q2 c1 c2;rw[x1,x2];omega
    ·by_cases c2:l0.g=G+1
     ·obtain⟨x1,x2⟩:=q3 c2;rw[c2]at e2;rw[x1,x2,g2];omega
     ·obtain⟨x1,x2⟩:=q4 c1 c2;rw[x1,x2,g3 _ c1 c2];omega
   obtain⟨z1,z2,z3,z4⟩:=hcase;refine(A5 (by rw[Fi]; exact hk)).2 ⟨by rw[MA]; exact a,by rw[Rb]; exact b,by rw[Ra]; exact c,z1,z2,z3,z4,?_⟩
   unfold same Q6;rw[Lf];unfold same at e3;rw[← e3];refine O8 fun o ho=>?_
   rw[Fi,Fi];by_cases hko:o.k=1
   ·obtain⟨k1,k2,k3,_⟩:=h.key ho (by simp[Am,hko])
    have:=(xM (G:=G) k1 hk k2 e1 k3 e2).2;rw[Bool.eq_iff_iff];simp only[bA,beq_iff_eq,and_assoc];exact⟨fun⟨x,y⟩=>⟨x,this.1 y⟩,fun⟨x,y⟩=>⟨x,this.2 y⟩⟩
   ·rw[ti_x hko];have:(o.k == l0.k)=false:=by
     have:¬o.k=l0.k:=by omega
     simpa using this
    simp only[this,Bool.false_and]
  ·obtain⟨a,b,c,d,e,e1,e2⟩:=(RZ hk).1 hok;rw[ti_x (by omega)]
   refine(RZ hk).2 ⟨a,b,c,d,by rw[hv]; exact e,?_,?_⟩
   ·unfold MH Q6;rw[Lf,O8 (q:=fun o=>o.k == l0.k&&o.i == l0.i&&o.s == l0.s&&o.o != l0.o) fun o _=>by rw[Fi,MA,Rb,Ra]]
    exact e1
   ·unfold Ou Q6;rw[Lf,O8 (q:=fun o=>Bg o&&o.i == l0.i) fun o _=>by rw[wL,MA]]
    exact e2
 ·rw[hT,hl,hp,hv]; exact h.EX
end Go.Ac
end
section
namespace Go.Plain
def DT:List Int→Int→List Int
 | [],g=>[g]
 | t :: s,g=>if t=g then s else g :: t :: s
def stk:List Int→List Int→List Int
 | s,[]=>s
 | s,g :: w=>stk (DT s g) w
def CS:List Int→Prop
 | []=>True
 | [_]=>True
 | a :: b :: r=>a≠b∧CS (b :: r)
theorem CS.tl{a:Int}:∀ {r:List Int},CS (a :: r)→CS r
 | [],_=>trivial
 | _ :: _,h=>h.2
theorem CS.DT{s:List Int}(h:CS s)(g:Int):CS (DT s g):=by
 cases s with
 | nil=>exact trivial
 | cons t r=>
  show CS (if t=g then r else g :: t :: r)
  by_cases e:t=g
  ·rw[iP e]; exact h.tl
  ·rw[iN e]; exact⟨fun e'=>e e'.symm,h⟩
theorem Z92{s:List Int}(h:CS s)(g:Int):DT (DT s g) g=s:=by
 match s,h with
 | [],_=>simp[DT]
 | [t],_=>
  by_cases e:t=g
  ·subst e; simp[DT]
  ·simp[DT,e]
 | t :: u :: r,h=>
  by_cases e:t=g
  ·subst e;have:¬u=t:=fun e=>h.1 e.symm
   simp[DT,this]
  ·simp[DT,e]
theorem Xl(s x y:List Int):stk s (x++y)=stk (stk s x) y:=by
 induction x generalizing s with
 | nil=>rfl
 | cons g x ih=>exact ih _
theorem CS.stk{s:List Int}(h:CS s)(w:List Int):CS (stk s w):=by
 induction w generalizing s with
 | nil=>exact h
 | cons g w ih=>exact ih (h.DT g)
theorem Z5z{s:List Int}(h:CS s)(x:List Int)(g:Int)(y:List Int):stk s (x++g :: g :: y)=stk s (x++y):=by
 rw[Xl,Xl];show stk (DT (DT (stk s x) g) g) y=_;rw[Z92 (h.stk x)]
inductive Dt:List Int→List Int→Prop
 | refl (w:List Int):Dt w w
 | cut (x:List Int) (g:Int) (y:List Int):Dt (x++g :: g :: y) (x++y)
 | symm {v w:List Int}:Dt v w→Dt w v
 | trans {u v w:List Int}:Dt u v→Dt v w→Dt u w
theorem Dt.stk{v w:List Int}(h:Dt v w){s:List Int}(hs:CS s):stk s v=stk s w:=by
 induction h with
 | refl=>rfl
 | cut x g y=>exact Z5z hs x g y
 | symm _ ih=>exact ih.symm
 | trans _ _ ih1 ih2=>exact ih1.trans ih2
theorem Dt.app{v w:List Int}(h:Dt v w)(a b:List Int):Dt (a++v++b) (a++w++b):=by
 induction h with
 | refl=>exact .refl _
 | cut x g y=>
  have:=Dt.cut (a++x) g (y++b);simpa using this
 | symm _ ih=>exact ih.symm
 | trans _ _ ih1 ih2=>exact ih1.trans ih2
theorem nY:∀ (w s:List Int),Dt (s.reverse++w) (stk s w).reverse
 | [],s=>by simpa[stk]using Dt.refl s.reverse
 | g :: w,s=>by
  refine Dt.trans ?_ (nY w (DT s g));cases s with
  | nil=>exact .refl _
  | cons t r=>
   show Dt _ ((if t=g then r else g :: t :: r).reverse++w)
   by_cases e:t=g
   ·rw[iP e];subst e;have:=Dt.cut r.reverse t w;simpa using this
   ·rw[iN e];have:=Dt.refl (r.reverse++t :: g :: w);simpa using this
def Cf(w:List Int):List Int:=(stk [] w).reverse
theorem Z38(w:List Int):Dt w (Cf w):=nY w []
theorem Dt.Cf{v w:List Int}(h:Dt v w):Cf v=Cf w:=by
 unfold Go.Plain.Cf;rw[h.stk (s:=[]) trivial]
theorem DD:∀ {x y:List Int},CS (x++y)↔(CS x∧CS y ∧ ∀ a b,x.getLast? = some a→y.head? = some b→a≠b)
 | [],y=>by simp[CS]
 | [a],[]=>by simp[CS]
 | [a],b :: y=>by simp[CS,and_comm]
 | a :: b :: x,y=>by
  have:=DD (x:=b :: x) (y:=y);simp only[List.cons_append,CS]at this ⊢;rw[this];have e:(a :: b :: x).getLast? = (b :: x).getLast?:=by simp[List.getLast?_cons]
  rw[e];constructor
  ·rintro⟨h1,h2,h3,h4⟩; exact⟨⟨h1,h2⟩,h3,h4⟩
  ·rintro⟨⟨h1,h2⟩,h3,h4⟩; exact⟨h1,h2,h3,h4⟩
theorem CS.rev{w:List Int}(h:CS w):CS w.reverse:=by
 induction w with
 | nil=>trivial
 | cons a r ih=>
  rw[List.reverse_cons,DD];refine⟨ih h.tl,trivial,fun x b hx hb=>?_⟩
  cases hb;rw[List.getLast?_reverse]at hx
  match r,h,hx with
  | c :: r,h,hx=>
   cases hx;exact fun e=>h.1 e.symm
theorem Z0a(w:List Int):CS (Cf w):=(CS.stk (s:=[]) trivial w).rev
theorem sR:∀ (w s:List Int),CS (s.reverse++w)→stk s w=w.reverse++s
 | [],s,_=>rfl
 | g :: w,s,h=>by
  have hp:DT s g=g :: s:=by
   match s,h with
   | [],_=>rfl
   | t :: r,h=>
    have h2:=(DD.1 h).2.2 t g (by simp) rfl
    simp[DT,h2]
  show stk (DT s g) w=_;rw[hp,sR w (g :: s) (by simpa using h)]
  simp
theorem Wo{w:List Int}(h:CS w):Cf w=w:=by
 unfold Cf;rw[sR w [] (by simpa using h)]
 simp
end Go.Plain
end
section
namespace Go.Plain
def T6:List Int→List Int
 | []=>[]
 | a :: r=>r++[a]
def Jc:Nat→List Int→List Int×Nat
 | 0,s=>(s,0)
 | k+1,s=>if 1<s.length∧s.head? = s.getLast? then ((Jc k (s.drop 1).dropLast).1,(Jc k (s.drop 1).dropLast).2+1)else (s,0)
inductive BV:List Int→List Int→Nat→Prop
 | base {s:List Int} (h:¬(1<s.length∧s.head? = s.getLast?)):BV s s 0
 | step {s c:List Int} {k:Nat} (a:Int) (h:BV s c k):BV (a :: s++[a]) c (k+1)
theorem ends{s:List Int}(h:1<s.length):∃ a m b,s=a :: m++[b]:=by
 match s,h with
 | a :: b :: r,_=>
  refine⟨a,(b :: r).dropLast,(b :: r).getLast (by simp),?_⟩
  rw[List.cons_append,List.dropLast_concat_getLast]
theorem RJ(a b:Int)(m:List Int):(a :: m++[b]).head? = some a∧(a :: m++[b]).getLast? = some b∧((a :: m++[b]).drop 1).dropLast=m∧1<(a :: m++[b]).length:=by
 refine⟨rfl,by rw[List.getLast?_append]; rfl,by simp,by simp⟩
theorem RG:∀ (k:Nat) (s:List Int),s.length≤k→BV s (Jc k s).1 (Jc k s).2
 | 0,s,h=>by
  refine .base fun h2=>?_
  omega
 | k+1,s,h=>by
  unfold Jc;by_cases hc:1<s.length∧s.head? = s.getLast?
  ·rw[iP hc];obtain⟨a,m,b,rfl⟩:=ends hc.1;obtain⟨e1,e2,e3,_⟩:=RJ a b m;have hab:=hc.2;rw[e1,e2]at hab;injection hab with hab
   subst hab;rw[e3];exact .step a (RG k m (by simp at h; omega))
  ·rw[iN hc];exact .base hc
theorem BV.inv{s c:List Int}{k:Nat}(h:BV s c k):(c=s∧k=0 ∧ ¬(1<s.length∧s.head? = s.getLast?)) ∨ ∃ a m j,s=a :: m++[a]∧k=j+1∧BV m c j:=by
 cases h with
 | base h=>exact .inl ⟨rfl,rfl,h⟩
 | step a h=>exact .inr ⟨a,_,_,rfl,rfl,h⟩
theorem VS{a b a' b':Int}{m m':List Int}(h:a :: m++[b]=a' :: m'++[b']):a=a'∧m=m'∧b=b':=by
 have h1:=congrArg List.head? h;have h2:=congrArg List.getLast? h;have h3:=congrArg (fun l=>(l.drop 1).dropLast) h
 obtain⟨e1,e2,e3,_⟩:=RJ a b m;obtain⟨f1,f2,f3,_⟩:=RJ a' b' m';rw[e1,f1]at h1;rw[e2,f2]at h2;simp only[e3,f3]at h3;injection h1 with h1
 injection h2 with h2
 exact⟨h1,h3,h2⟩
theorem BV.uniq{s c:List Int}{k:Nat}(h:BV s c k):∀ {c':List Int} {k':Nat},BV s c' k'→c=c'∧k=k':=by
 induction h with
 | base h=>
  intro c' k' h';rcases h'.inv with⟨rfl,rfl,_⟩|⟨a,m,j,rfl,_,_⟩
  ·exact⟨rfl,rfl⟩
  ·obtain⟨e1,e2,_,e4⟩:=RJ a a m;exact absurd ⟨e4,by rw[e1,e2]⟩ h
 | step a h ih=>
  intro c' k' h';rcases h'.inv with⟨_,_,h3⟩|⟨b,m,j,e,rfl,h3⟩
  ·obtain⟨e1,e2,_,e4⟩:=RJ a a _;exact absurd ⟨e4,by rw[e1,e2]⟩ h3
  ·obtain⟨_,rfl,_⟩:=VS e;obtain⟨g1,g2⟩:=ih h3;exact⟨g1,by omega⟩
def I3(k:Nat)(c:List Int):List Int:=if k % 2=1 then T6 c else c
def W6(w:List Int):List Int:=I3 (Jc (Cf w).length (Cf w)).2 (Jc (Cf w).length (Cf w)).1
def P1(u v:List Int):Prop:=v=T6 u∨u=T6 v
theorem sO(k:Nat)(c:List Int):P1 (I3 (k+1) c) (I3 k c)∧P1 (I3 k c) (I3 (k+1) c):=by
 unfold I3 P1;by_cases h:k % 2=1
 ·have h':¬(k+1) % 2=1:=by omega
  rw[iP h,iN h'];exact⟨.inl rfl,.inr rfl⟩
 ·have h':(k+1) % 2=1:=by omega
  rw[iN h,iP h'];exact⟨.inr rfl,.inl rfl⟩
theorem DE{a b:Int}{m:List Int}:CS (a :: m++[b])↔(CS (a :: m) ∧ ∀ x,(a :: m).getLast? = some x→x≠b):=by
 rw[DD];constructor
 ·rintro⟨h1,_,h3⟩; exact⟨h1,fun x hx=>h3 x b hx rfl⟩
 ·rintro⟨h1,h3⟩; exact⟨h1,trivial,fun x y hx hy=>by cases hy; exact h3 x hx⟩
theorem Z66{s c:List Int}{k:Nat}(hs:CS s)(he:s.length % 2=0)(a:Int)(h:BV s c k):∃ c' k',BV (Cf (a :: s++[a])) c' k'∧P1 (I3 k c) (I3 k' c'):=by
 by_cases hl:1<s.length
 ·obtain⟨x,m,y,rfl⟩:=ends hl;obtain⟨e1,e2,e3,e4⟩:=RJ x y m;by_cases hx:x=a
  ·subst hx;by_cases hy:y=x
   ·subst hy;have hr:Cf (y :: (y :: m++[y])++[y])=m:=by
     have h1:=Dt.cut [] y (m++[y,y]);have h2:=Dt.cut m y [];have hm:CS m:=(DE.1 hs).1.tl;have:=(h1.trans (by simpa using h2:Dt ([]++(m++[y,y])) m)).Cf
     rw[Wo hm]at this;simpa using this
    rw[hr];rcases h.inv with⟨_,_,h3⟩|⟨b,m',j,e,rfl,h3⟩
    ·exact absurd ⟨e4,by rw[e1,e2]⟩ h3
    ·obtain⟨_,rfl,_⟩:=VS e;exact⟨_,_,h3,(sO _ _).1⟩
   ·rcases h.inv with⟨rfl,rfl,h3⟩|⟨b,m',j,e,rfl,h3⟩
    ·have hr:Cf (x :: (x :: m++[y])++[x])=m++[y]++[x]:=by
      have h1:=Dt.cut [] x (m++[y]++[x]);have hm:CS (m++[y]++[x]):=by
       rw[DD];refine⟨by simpa using hs.tl,trivial,fun u v hu hv=>?_⟩
       cases hv;rw[List.getLast?_append]at hu;cases hu;exact hy
      have:=h1.Cf;rw[Wo (w:=[]++(m++[y]++[x])) hm]at this;simpa using this
     rw[hr];refine⟨_,0,.base ?_,.inl rfl⟩;rintro⟨_,h5⟩;have e5:(m++[y]++[x]).getLast? = some x:=by rw[List.getLast?_append]; rfl
     rw[e5]at h5;have h6:((m++[y])++[x]).head? = (m++[y]).head?:=by
      cases m<;>rfl
     rw[h6]at h5;have:=hs;cases m with
     | nil=>cases h5; exact hy rfl
     | cons z m=>
      cases h5;exact this.1 rfl
    ·obtain⟨e5,_,e6⟩:=VS e;exact absurd (e6.trans e5.symm) hy
  ·by_cases hy:y=a
   ·subst hy;rcases h.inv with⟨rfl,rfl,h3⟩|⟨b,m',j,e,rfl,h3⟩
    ·have hr:Cf (y :: (x :: m++[y])++[y])=y :: x :: m:=by
      have h1:=Dt.cut (y :: x :: m) y [];have hm:CS (y :: x :: m):=⟨fun e=>hx e.symm,(DE.1 hs).1⟩
      have:=h1.Cf;rw[List.append_nil,Wo hm]at this;simpa using this
     rw[hr];refine⟨_,0,.base ?_,.inr rfl⟩;rintro⟨_,h5⟩;have e5:(y :: x :: m).getLast? = (x :: m).getLast?:=by simp[List.getLast?_cons]
     rw[e5]at h5;exact(DE.1 hs).2 y h5.symm rfl
    ·obtain⟨e5,_,e6⟩:=VS e;exact absurd (e5.trans e6.symm) hx
   ·have hm:CS (a :: (x :: m++[y])++[a]):=by
     rw[DE];refine⟨⟨fun e=>hx e.symm,hs⟩,fun u hu=>?_⟩
     have e5:(a :: (x :: m++[y])).getLast? = some y:=by rw[List.getLast?_cons,e2]; rfl
     rw[e5]at hu;cases hu;exact hy
    rw[Wo hm];exact⟨_,_,.step a h,(sO _ _).2⟩
 ·have h0:s=[]:=by
   cases s with
   | nil=>rfl
   | cons x r=>
    cases r with
    | nil=>simp at he
    | cons y r=>simp at hl
  subst h0;have hr:Cf (a :: []++[a])=[]:=by
   have:=(Dt.cut [] a []).Cf;exact this
  rw[hr];refine⟨_,_,h,?_⟩;rcases h.inv with⟨rfl,rfl,_⟩|⟨b,m',j,e,_,_⟩
  ·exact .inl rfl
  ·simp at e
theorem Z8v(s:List Int)(g:Int):(DT s g).length % 2=(s.length+1) % 2:=by
 cases s with
 | nil=>rfl
 | cons t r=>
  show(if t=g then r else g :: t :: r).length % 2=_
  by_cases e:t=g
  ·rw[iP e]; simp only[lC]; omega
  ·rw[iN e]; simp only[lC]
theorem ZT:∀ (w s:List Int),(stk s w).length % 2=(s.length+w.length) % 2
 | [],s=>rfl
 | g :: w,s=>by
  show(stk (DT s g) w).length % 2=_;rw[ZT w];have:=Z8v s g;simp only[lC];omega
theorem uN(w:List Int):(Cf w).length % 2=w.length % 2:=by
 unfold Cf;rw[List.length_reverse,ZT];simp
theorem Yc{w c:List Int}{k:Nat}(h:BV (Cf w) c k):W6 w=I3 k c:=by
 obtain⟨e1,e2⟩:=(RG (Cf w).length (Cf w) (lR _)).uniq h;unfold W6;rw[e1,e2]
theorem qG{w:List Int}(he:w.length % 2=0)(a:Int):P1 (W6 w) (W6 (a :: w++[a])):=by
 have hc:=RG (Cf w).length (Cf w) (lR _);obtain⟨c',k',h1,h2⟩:=Z66 (Z0a w) (by rw[uN]; exact he) a hc
 have e:Cf (a :: Cf w++[a])=Cf (a :: w++[a]):=by
  have:=(Z38 w).app [a] [a];exact(by simpa using this:Dt (a :: w++[a]) (a :: Cf w++[a])).Cf.symm
 rw[e]at h1;rw[Yc h1];exact h2
theorem YK(x:List Int)(g:Int)(y:List Int):W6 (x++g :: g :: y)=W6 (x++y):=by
 unfold W6;rw[(Dt.cut x g y).Cf]
def P2(u v:List Int):Prop:=v=u∨v=T6 (T6 u)∨u=T6 (T6 v)
theorem Z3z{u v:List Int}(h:T6 u=T6 v):u=v:=by
 cases u with
 | nil=>
  cases v with
  | nil=>rfl
  | cons b s=>simp[T6]at h
 | cons a r=>
  cases v with
  | nil=>simp[T6]at h
  | cons b s=>
   have h1:=congrArg List.getLast? h;have h2:=congrArg List.dropLast h;simp[T6]at h1 h2;rw[h1,h2]
theorem P1.two{u v w:List Int}(h1:P1 u v)(h2:P1 v w):P2 u w:=by
 rcases h1 with rfl|rfl
 ·rcases h2 with rfl|h2
  ·exact .inr (.inl rfl)
  ·exact .inl (Z3z h2.symm)
 ·rcases h2 with rfl|rfl
  ·exact .inl rfl
  ·exact .inr (.inr rfl)
theorem Ydm(a b:Int){w:List Int}(he:w.length % 2=0):P2 (W6 (a :: b :: w)) (W6 (w++[a,b])):=by
 have h1:=qG (w:=a :: b :: w) (by simp; omega) a
 have e1:W6 (a :: (a :: b :: w)++[a])=W6 (b :: w++[a]):=by
  have:=YK [] a (b :: w++[a]);simpa using this
 rw[e1]at h1;have h2:=qG (w:=b :: w++[a]) (by simp; omega) b
 have e2:W6 (b :: (b :: w++[a])++[b])=W6 (w++[a,b]):=by
  have:=YK [] b (w++[a]++[b]);simpa using this
 rw[e2]at h2;exact h1.two h2
end Go.Plain
end
section
namespace Go.Plain
def O1:List Int→List Int→Int
 | a :: r,b :: s=>if a=b then O1 r s else a - b
 | _,_=>0
theorem Sx:∀ (u v:List Int),O1 v u = - O1 u v
 | [],[]=>rfl
 | [],_ :: _=>rfl
 | _ :: _,[]=>rfl
 | a :: r,b :: s=>by
  simp only[O1];by_cases h:a=b
  ·rw[iP h,iP h.symm]; exact Sx r s
  ·rw[iN h,iN fun e=>h e.symm]; omega
theorem sQ:∀ {u v:List Int},u.length=v.length→O1 u v=0→u=v
 | [],[],_,_=>rfl
 | [],_ :: _,h,_=>by simp at h
 | _ :: _,[],h,_=>by simp at h
 | a :: r,b :: s,h,h2=>by
  simp only[O1]at h2;by_cases e:a=b
  ·rw[iP e]at h2;rw[e,sQ (by simpa using h) h2]
  ·rw[iN e]at h2;omega
theorem rP:∀ {u v w:List Int},u.length=v.length→v.length=w.length→O1 u v≤0→O1 v w≤0→O1 u w≤0
 | [],_,_,_,_,_,_=>by simp[O1]
 | _ :: _,[],_,h,_,_,_=>by simp at h
 | _ :: _,_ :: _,[],_,h,_,_=>by simp at h
 | a :: r,b :: s,c :: t,h1,h2,h3,h4=>by
  simp only[O1]at h3 h4 ⊢;by_cases e:a=b
  ·rw[iP e]at h3;by_cases e2:b=c
   ·rw[iP e2]at h4;rw[iP (e.trans e2)];exact rP (by simpa using h1) (by simpa using h2) h3 h4
   ·rw[iN e2]at h4;rw[iN (by omega)]
    omega
  ·rw[iN e]at h3;by_cases e2:b=c
   ·rw[iP e2]at h4;rw[iN (by omega)]
    omega
   ·rw[iN e2]at h4;rw[iN (by omega)]
    omega
def AO(w:List Int)(a:Nat):List Int:=w.drop a++w.take a
theorem BH(w:List Int)(a:Nat):(AO w a).length=w.length:=by simp[AO]; omega
theorem zH(w:List Int):AO w 0=w:=by simp[AO]
theorem vT(w:List Int):AO w w.length=w:=by simp[AO]
theorem Yq(w:List Int){a b:Nat}(h:a+b≤w.length):AO (AO w a) b=AO w (a+b):=by
 unfold AO;have h1:b≤(w.drop a).length:=by simp; omega
 rw[List.drop_append_of_le_length h1,List.take_append_of_le_length h1,List.drop_drop,List.append_assoc]
 congr 1
 rw[List.take_add]
def ES(w:List Int):Nat→Nat
 | 0=>0
 | j+1=>if O1 (AO w (2*(j+1))) (AO w (ES w j))<0 then 2*(j+1)else ES w j
theorem Zm(w:List Int):∀ J,∃ i,i≤J∧ES w J=2*i
 | 0=>⟨0,lR _,rfl⟩
 | J+1=>by
  obtain⟨i,h1,h2⟩:=Zm w J;unfold ES;split
  ·exact⟨J+1,lR _,rfl⟩
  ·exact⟨i,by omega,h2⟩
theorem mD(w:List Int):∀ J j,j≤J→O1 (AO w (ES w J)) (AO w (2*j))≤0
 | 0,j,h=>by
  obtain rfl:j=0:=by omega
  have:=Sx (AO w 0) (AO w 0);show O1 (AO w 0) (AO w 0)≤0;omega
 | J+1,j,h=>by
  have ih:=mD w J;have hl:∀ a b,(AO w a).length=(AO w b).length:=fun a b=>by rw[BH,BH]
  unfold ES;by_cases hc:O1 (AO w (2*(J+1))) (AO w (ES w J))<0
  ·rw[iP hc];by_cases hj:j=J+1
   ·subst hj;have:=Sx (AO w (2*(J+1))) (AO w (2*(J+1)));omega
   ·exact rP (hl _ _) (hl _ _) (Int.le_of_lt hc) (ih j (by omega))
  ·rw[iN hc];by_cases hj:j=J+1
   ·subst hj;have:=Sx (AO w (2*(J+1))) (AO w (ES w J));omega
   ·exact ih j (by omega)
def U7(w:List Int):List Int:=AO w (ES w ((w.length - 1) / 2))
theorem rI(w:List Int):∃ i,i≤(w.length - 1) / 2∧U7 w=AO w (2*i):=by
 obtain⟨i,h1,h2⟩:=Zm w ((w.length - 1) / 2);exact⟨i,h1,by unfold U7; rw[h2]⟩
theorem xC(w:List Int){j:Nat}(h:j≤(w.length - 1) / 2):O1 (U7 w) (AO w (2*j))≤0:=mD w _ j h
theorem Jj(w:List Int):(U7 w).length=w.length:=BH ..
theorem qV{w:List Int}(he:w.length % 2=0)(h2:2≤w.length):U7 (AO w 2)=U7 w:=by
 have hl:(AO w 2).length=w.length:=BH w 2;obtain⟨i,hi,e1⟩:=rI w;obtain⟨j,hj,e2⟩:=rI (AO w 2);rw[hl]at hj;have k1:∃ i',i'≤((AO w 2).length - 1) / 2∧AO (AO w 2) (2*i')=U7 w:=by
  rw[hl,e1];cases i with
  | zero=>
   refine⟨(w.length - 2) / 2,by omega,?_⟩
   rw[Yq w (by omega),show 2+2*((w.length - 2) / 2)=w.length by omega,vT,Nat.mul_zero,zH]
  | succ i=>
   refine⟨i,by omega,?_⟩
   rw[Yq w (by omega),show 2+2*i=2*(i+1) by omega]
 have k2:∃ j',j'≤(w.length - 1) / 2∧AO w (2*j')=U7 (AO w 2):=by
  rw[e2,Yq w (by omega)]
  by_cases hn:2+2*j=w.length
  ·exact⟨0,by omega,by rw[hn,vT,Nat.mul_zero,zH]⟩
  ·exact⟨j+1,by omega,by rw[show 2*(j+1)=2+2*j by omega]⟩
 obtain⟨i',hi',f1⟩:=k1;obtain⟨j',hj',f2⟩:=k2;have g1:=xC (AO w 2) hi';rw[f1]at g1;have g2:=xC w hj';rw[f2]at g2;have g3:=Sx (U7 w) (U7 (AO w 2));exact sQ (by rw[Jj,Jj,hl]) (by omega)
def EM(r:List Int):List Int:=if r=[]then []else if O1 (U7 r.reverse) (U7 r)<0 then U7 r.reverse else U7 r
def DR(w:List Int):List Int:=EM (W6 w)
theorem WQ{u:List Int}(h:2≤u.length):T6 (T6 u)=AO u 2:=by
 match u,h with
 | a :: b :: t,_=>simp[T6,AO]
theorem nR{u:List Int}(he:u.length % 2=0):EM (T6 (T6 u))=EM u:=by
 by_cases h0:u=[]
 ·subst h0; rfl
 ·have h2:2≤u.length:=by
   have:u.length≠0:=by simpa using h0
   omega
  have e1:U7 (T6 (T6 u))=U7 u:=by rw[WQ h2,qV he h2]
  have e2:U7 (T6 (T6 u)).reverse=U7 u.reverse:=by
   have:T6 (T6 (T6 (T6 u)).reverse)=u.reverse:=by
    match u,h2 with
    | a :: b :: t,_=>simp[T6]
   have hl:(T6 (T6 u)).reverse.length=u.length:=by rw[List.length_reverse,WQ h2,BH]
   generalize (T6 (T6 u)).reverse=v at *;rw[← this,WQ (u:=v) (by omega),qV (by omega) (by omega)]
  have h3:T6 (T6 u)≠[]:=fun e=>by
   have:=congrArg List.length e;rw[WQ h2,BH]at this;simp at this;exact h0 this
  unfold EM;rw[iN h3,iN h0,e1,e2]
theorem Z61{u v:List Int}(hu:u.length % 2=0)(hv:v.length % 2=0)(h:P2 u v):EM u=EM v:=by
 rcases h with rfl|rfl|rfl
 ·rfl
 ·exact(nR hu).symm
 ·exact nR hv
theorem BV.par{s c:List Int}{k:Nat}(h:BV s c k):c.length % 2=s.length % 2:=by
 induction h with
 | base=>rfl
 | step a h ih=>simp; omega
theorem zB{w:List Int}(he:w.length % 2=0):(W6 w).length % 2=0:=by
 have hc:=RG (Cf w).length (Cf w) (lR _);have h1:=hc.par;rw[uN,he]at h1;rw[Yc hc];unfold I3;split
 ·have:∀ c:List Int,(T6 c).length=c.length:=fun c=>by cases c<;>simp[T6]
  rw[this]; exact h1
 ·exact h1
theorem Zt(x:List Int)(g:Int)(y:List Int):DR (x++g :: g :: y)=DR (x++y):=by
 unfold DR;rw[YK]
theorem tq(a b:Int){w:List Int}(he:w.length % 2=0):DR (a :: b :: w)=DR (w++[a,b]):=
 Z61 (zB (by simp; omega)) (zB (by simp; omega)) (Ydm a b he)
theorem zb(g z:Int){r:List Int}(he:r.length % 2=1):DR (g :: z :: r++[g])=DR (r++[z]):=by
 have h1:=tq g z (w:=r++[g]) (by simp; omega)
 have h2:=Zt r g [z];rw[← h2];rw[List.cons_append,List.cons_append,h1];simp
end Go.Plain
end
section
namespace Go.Ac
open Go.Plain
def U4(ls:List Lt):List Int:=(ls.filter Am).map fun l=>l.g
def Cw(z:List Lt)(l:List Nat):List Int:=(l.filter fun v=>Am (at' z v)).map fun v=>(at' z v).g
theorem OA(z:List Lt)(l l':List Nat):Cw z (l++l')=Cw z l++Cw z l':=by
 unfold Cw;rw[List.filter_append,List.map_append]
theorem NZ(z:List Lt)(v:Nat)(l:List Nat):Cw z (v :: l)=(if Am (at' z v)=true then [(at' z v).g]else [])++Cw z l:=by
 unfold Cw;rw[List.filter_cons];split
 ·rfl
 ·rfl
theorem YE(z:List Lt):U4 z=Cw z (List.range z.length):=by
 have hz:z=(List.range z.length).map (at' z):=by
  apply List.ext_getElem?;intro i;rw[gM];by_cases hi:i<z.length
  ·rw[List.getElem?_range hi,gE hi,Option.map_some,at',List.getD,gE hi];rfl
  ·rw[List.getElem?_eq_none (by omega),List.getElem?_eq_none (by simp; omega)]
   rfl
 unfold U4 Cw
 conv=>lhs; rw[hz]
 rw[List.filter_map,List.map_map];rfl
theorem u6(z:List Lt)(a b s0:Nat)(G R:Int):U4 (N4 z a b s0 G R)=Cw z (V3 (X1 z.length a b) s0):=by
 unfold U4 N4 Cw;rw[List.filter_map,List.map_map];have e:((fun l:Lt=>Am l)∘fun v=>CI G R (at' z v))=fun v=>Am (at' z v):=funext fun v=>SA G R _
 have e2:((fun l:Lt=>l.g)∘fun v=>CI G R (at' z v))=fun v=>(at' z v).g:=funext fun v=>Fh G R _
 rw[show (Am∘fun v=>CI G R (at' z v))=fun v=>Am (at' z v) from e,e2]
section
variable {F:Int} {z:List Lt} {a b s0:Nat} {G R:Int}
theorem Z08(h:BN F z a b s0 G R)(hmin:∀ k,k<s0 → ¬(Am (at' z ((X1 z.length a b).getD k 0))=true∧Z8 z ((X1 z.length a b).getD k 0)=true))(φ:Int→Int) :
 DR ((U4 (N4 z a b s0 G R)).map φ)=DR ((U4 z).map φ):=by
 have hn:=h.len;have hsl:=h.sl;have hkl:=(VU h.len h.al h.ab).1;have hf0:Am (at' z 0)=true:=O7 h.val.fst;have hfk:=h.fk;have hfd:=h.fd;rw[Wl (by omega) (by omega),Nat.zero_add,Nat.mod_eq_of_lt (by omega)]at hfk hfd
 rw[u6,YE];have hrot:Cw z (V3 (X1 z.length a b) s0)=Cw z ((X1 z.length a b).drop s0)++Cw z ((X1 z.length a b).take s0):=by
  unfold V3;rw[OA]
 have hkeep:Cw z (X1 z.length a b)=Cw z ((X1 z.length a b).take s0)++Cw z ((X1 z.length a b).drop s0):=by
  rw[← OA,List.take_append_drop]
 by_cases hab:a+1<z.length
 ·have hb:b=a+1:=by rw[h.ab,Nat.mod_eq_of_lt hab]
  have hkm:=zF (n:=z.length) (a:=a) (by omega)
  rw[← hb]at hkm;have hw:Cw z (List.range z.length)=Cw z (List.range a)++G :: G :: Cw z (List.range' (a+2) (z.length - (a+2))):=by
   rw[rN (n:=z.length) (a:=a) (by omega),OA,NZ,NZ,iP (O7 h.ka),← hb,iP (O7 h.kb),h.ga,h.gb]
   rfl
  have hk:Cw z (X1 z.length a b)=Cw z (List.range a)++Cw z (List.range' (a+2) (z.length - (a+2))):=by rw[hkm,OA]
  have htake:Cw z ((X1 z.length a b).take s0)=[]:=by
   by_cases ha0:0<a
   ·have hs0:s0=0:=by
     rcases Nat.eq_zero_or_pos s0 with e|e
     ·exact e
     ·exfalso;refine hmin 0 e ?_;have e0:(X1 z.length a b).getD 0 0=0:=by
       rw[hkm,List.getD,List.getElem?_append_left (by simpa using ha0),List.getElem?_range ha0]
       rfl
      rw[e0];exact⟨hf0,rfl⟩
    rw[hs0];rfl
   ·obtain rfl:a=0:=by omega
    have hkr:X1 z.length 0 b=List.range' 2 (z.length - 2):=by rw[hkm]; simp
    have hget:∀ k,k<z.length - 2→(X1 z.length 0 b).getD k 0=2+k:=fun k hk=>by
     rw[hkr,List.getD,List.getElem?_range' hk];show 2+1*k=_;omega
    have key:∀ k,k≤s0→Z8 z (2+k)=true∧Cw z (List.range' 2 k)=[]:=by
     intro k
     induction k with
     | zero=>
      intro _;have d1:=ML (z:=z) 0;have d2:=ML (z:=z) 1;rw[iP ⟨by omega,hf0⟩]at d1
      have DN:b=1:=by omega
      have hk1:=O7 h.kb;rw[DN]at hk1;rw[iP ⟨by omega,hk1⟩]at d2
      refine⟨?_,rfl⟩;show Z8 z (1+1)=true;rw[d2];show(!Z8 z (0+1))=true;rw[d1];rfl
     | succ k ih=>
      intro hk;obtain⟨i1,i2⟩:=ih (by omega)
      have hm:=hmin k (by omega)
      rw[hget k (by omega)]at hm
      have hnp:Am (at' z (2+k))=false:=by
       cases hp:Am (at' z (2+k))with
       | false=>rfl
       | true=>exact absurd ⟨hp,i1⟩ hm
      have d1:=ML (z:=z) (2+k);rw[iN (by rw[hnp]; simp)]at d1
      refine⟨by rw[← Nat.add_assoc,d1]; exact i1,?_⟩
      have e:=List.range'_append_1 (s:=2) (m:=k) (n:=1);rw[← e,OA,i2];show Cw z [2+k]=[];rw[NZ,iN (by rw[hnp]; simp)]
      rfl
    rw[hkr,show (List.range' 2 (z.length - 2)).take s0=List.range' 2 s0 by
     have e:=List.range'_append_1 (s:=2) (m:=s0) (n:=z.length - 2 - s0);rw[show z.length - 2=s0+(z.length - 2 - s0) by omega,← e,List.take_left' (by simp)]]
    exact(key s0 (lR _)).2
  rw[htake,List.nil_append]at hkeep;rw[hrot,htake,List.append_nil,← hkeep,hk,hw,List.map_append,List.map_append,List.map_cons,List.map_cons,Zt]
 ·obtain rfl:a=z.length - 1:=by have:=h.al; omega
  have hb:b=0:=by rw[h.ab,show z.length - 1+1=z.length by omega,Nat.mod_self]
  subst hb;have hkr:=yW (n:=z.length) (by omega)
  have hget:∀ k,k<z.length - 2→(X1 z.length (z.length - 1) 0).getD k 0=1+k:=fun k hk=>by
   rw[hkr,List.getD,List.getElem?_range' hk];show 1+1*k=_;omega
  have hrange:List.range z.length=0 :: (X1 z.length (z.length - 1) 0++[z.length - 1]):=by
   have e:=List.range'_append_1 (s:=1) (m:=z.length - 2) (n:=1);have e2:List.range' 0 z.length=0 :: List.range' (0+1) (z.length - 1):=by
    have:=List.range'_succ (s:=0) (n:=z.length - 1) (step:=1);rw[show z.length - 1+1=z.length by omega]at this
    exact this
   rw[List.range_eq_range',hkr,e2,show 0+1=1 from rfl,show z.length - 1=z.length - 2+1 by omega,← e]
   congr 2
   show [1+(z.length - 2)]=_;rw[Nat.add_comm]
  have hw:Cw z (List.range z.length)=G :: Cw z (X1 z.length (z.length - 1) 0)++[G]:=by
   rw[hrange,NZ,iP hf0,OA,NZ,iP (O7 h.ka),h.ga,h.gb];rfl
  have key:∀ k,k≤s0→(Cw z (List.range' 1 k)).length≤1∧(Z8 z (1+k)=true↔(Cw z (List.range' 1 k)).length=1):=by
   intro k
   induction k with
   | zero=>
    intro _;have d1:=ML (z:=z) 0;rw[iP ⟨by omega,hf0⟩]at d1
    have d1:Z8 z 1=false:=d1;refine⟨Nat.zero_le _,?_⟩;show Z8 z 1=true↔(0:Nat)=1;rw[d1];simp
   | succ k ih=>
    intro hk;obtain⟨i1,i2⟩:=ih (by omega)
    have hm:=hmin k (by omega)
    rw[hget k (by omega)]at hm
    have d1:=ML (z:=z) (1+k);have e:=List.range'_append_1 (s:=1) (m:=k) (n:=1);rw[← e,OA,← Nat.add_assoc,d1,lA];cases hp:Am (at' z (1+k))with
    | false=>
     rw[iN (by simp)]
     have:Cw z (List.range' (1+k) 1)=[]:=by
      show Cw z [1+k]=[];rw[NZ,iN (by rw[hp]; simp)]
      rfl
     rw[this];exact⟨i1,i2⟩
    | true=>
     rw[iP ⟨by omega,rfl⟩]
     have Dy:Z8 z (1+k)=false:=by
      cases hd:Z8 z (1+k)with
      | false=>rfl
      | true=>exact absurd ⟨hp,hd⟩ hm
     have:Cw z (List.range' (1+k) 1)=[(at' z (1+k)).g]:=by
      show Cw z [1+k]=_;rw[NZ,iP hp];rfl
     rw[this,Dy];have Ey:(Cw z (List.range' 1 k)).length=0:=by
      have:¬(Cw z (List.range' 1 k)).length=1:=fun e=>by
       have:=i2.2 e;rw[Dy]at this;cases this
      omega
     rw[Ey];simp
  have htk:(X1 z.length (z.length - 1) 0).take s0=List.range' 1 s0:=by
   have e:=List.range'_append_1 (s:=1) (m:=s0) (n:=z.length - 2 - s0);rw[hkr,show z.length - 2=s0+(z.length - 2 - s0) by omega,← e,List.take_left' (by simp)]
  rw[hget s0 hsl]at hfd;have hone:=(key s0 (lR _)).2.1 hfd;rw[← htk]at hone;obtain⟨z1,Gu⟩:∃ z1,Cw z ((X1 z.length (z.length - 1) 0).take s0)=[z1]:=List.length_eq_one_iff.1 hone
  obtain⟨r,hr⟩:∃ r,Cw z ((X1 z.length (z.length - 1) 0).drop s0)=r:=⟨_,rfl⟩
  rw[Gu,hr]at hkeep hrot;have hpar:r.length % 2=1:=by
   have h1:(Cw z (List.range z.length)).length=Z0 z:=by
    rw[← YE];unfold U4 Z0 Z9;rw[lM]
   have h2:=h.val.IN;rw[hw,hkeep]at h1;simp at h1;omega
  rw[hrot,hw,hkeep];simp only[List.map_append,List.map_cons,List.map_nil,List.cons_append,List.nil_append];have:=zb (φ G) (φ z1) (r:=r.map φ) (by simpa using hpar)
  rw[← this];simp
end
theorem Ydg(G:Int)(ls:List Lt):(U4 (Q6 G ls)).map (fun g=>if G+1≤g then g - 1 else g)=(U4 ls).map fun g=>if G+1≤g then g - 1 else g:=by
 unfold U4 Q6;rw[List.filter_map,List.map_map,List.map_map,List.map_map];have e:(Am∘V5 G (Ay G ls:Nat))=Am:=funext fun l=>Vx l
 rw[e];refine List.map_congr_left fun l hl=>?_
 have hk:l.k=1:=by simpa[Am]using (List.mem_filter.1 hl).2
 obtain⟨a1,a2,a3,a4⟩:=SM (G:=G) (n:=(Ay G ls:Nat)) hk;show(if G+1≤(V5 G (Ay G ls:Nat) l).g then (V5 G (Ay G ls:Nat) l).g - 1 else (V5 G (Ay G ls:Nat) l).g)=if G+1≤l.g then l.g - 1 else l.g
 by_cases h1:l.g=G
 ·by_cases h2:l.r=(Ay G ls:Nat)
  ·rw[(a1 h1 h2).1,h1,iP (by omega),iN (by omega)]
   omega
  ·rw[(a2 h1 h2).1,h1]
 ·by_cases h2:l.g=G+1
  ·rw[(a3 h2).1,h2]
  ·rw[(a4 h1 h2).1]
end Go.Ac
end
