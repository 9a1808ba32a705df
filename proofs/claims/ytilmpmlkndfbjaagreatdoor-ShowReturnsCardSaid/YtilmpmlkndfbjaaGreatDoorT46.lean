/- Part 46 -/
import Derived.Test.YtilmpmlkndfbjaaGreatDoorT45
set_option linter.all false
open List (range map_map pairwise_cons)
namespace Go.Ad
open Go.Plain
def AN:Nat→List Nat→List (Nat×Nat)
 | _,[]=>[]
 | g,c :: r=>((range c).map fun i=>(g,i+1))++AN (g+1) r
def AP(q:Nat×Nat):Lt:=⟨1,(q.1:Int),(q.2:Int),0,0,false⟩
theorem pM:∀(gs:List Nat) (a:Nat) (q:Nat×Nat),q∈AN a gs -> ∃i c,gs[i]?=some c/\q.1=a+i/\1<=q.2/\q.2<=c
 |[],_,_,h=>by cases h
 |c::r,a,q,h=>by
  rcases List.mem_append.1 h with h|h
  ·obtain⟨i,hi,rfl⟩:=mM.1 h;have:=mR.1 hi;exact⟨0,c,rfl,rfl,Nat.le_add_left _ _,by show i+1<=c;omega⟩
  obtain⟨i,c',b,f,d,e⟩:=pM r (a+1) q h;exact⟨i+1,c',by simpa using b,by omega,d,e⟩
theorem vw{gs:List Nat}{a:Nat}{q:Nat×Nat}(h:q∈AN a gs):a<=q.1:=by
 obtain⟨i,c,_,b,_⟩:=pM gs a q h;omega
theorem kC:∀(gs:List Nat) (d:Nat),((AN d gs).map AP).Pairwise λa b=>S1 a b=true
 |[],_=>List.Pairwise.nil
 |c::r,d=>by
  show(((range c).map (λi=>(d,i+1))++AN (d+1) r).map AP).Pairwise _;rw[List.map_append,List.pairwise_append];refine⟨?_,kC r (d+1),λa h b k=>?_⟩
  ·rw[map_map,List.pairwise_map];refine List.Pairwise.imp ?_ (List.pairwise_lt_range (n:=c));intro i j l;show(decide (((d:Nat):Int)<(d:Nat))||(((d:Nat):Int) == ((d:Nat):Int)&&decide (((i+1:Nat):Int)<((j+1:Nat):Int))))=true;grind
  obtain⟨q,m,rfl⟩:=mM.1 h;obtain⟨g,f,rfl⟩:=mM.1 k;obtain⟨i,_,rfl⟩:=mM.1 m;have:=vw f;have e:((d:Nat):Int)<((g.1:Nat):Int):=by omega
  show(decide (((d:Nat):Int)<((g.1:Nat):Int))||_)=true;grind
theorem nQ:∀(gs:List Nat) (a i c:Nat),gs[i]?=some c->Bl ((a+i:Nat):Int) ((AN a gs).map AP)=c
 |[],_,_,_,h=>by simp at h
 |c'::r,a,i,c,h=>by
  have b:∀g:Int,Bl g (((AN a (c'::r))).map AP)=Bl g (((range c').map λi=>(a,i+1)).map AP)+Bl g ((AN (a+1) r).map AP):=λg=>by
   show Bl g ((((range c').map λi=>(a,i+1))++AN (a+1) r).map AP)=_;rw[List.map_append];exact NJ _ _ _
  have f:∀g:Int,Bl g (((range c').map λi=>(a,i+1)).map AP)=if g=(a:Int)then c' else 0:=λg=>by
   unfold Bl;rw[map_map];by_cases e:g=(a:Int)
   ·rw[iP e];unfold Z4;rw[List.filter_eq_self.2 λl d=>?_]
    ·simp
    obtain⟨j,_,rfl⟩:=mM.1 d;simp[As,AP,e]
   rw[iN e];unfold Z4;rw[List.length_eq_zero_iff,List.filter_eq_nil_iff];intro l d;obtain⟨j,_,rfl⟩:=mM.1 d;simp[As,AP];omega
  have m:∀g:Int,g<(a+1:Nat)->Bl g ((AN (a+1) r).map AP)=0:=λg e=>by
   unfold Bl Z4;rw[List.length_eq_zero_iff,List.filter_eq_nil_iff];intro l d;obtain⟨q,k,rfl⟩:=mM.1 d;have:=vw k;simp[As,AP];omega
  rw[b,f];cases i with
  |zero=>
   grind
  |succ i=>
   simp only[List.getElem?_cons_succ]at h;have:=nQ r (a+1) i c h;grind
theorem yK:∀{ls:List Lt},ls.Pairwise (λa b=>S1 a b=true) -> ∀l,l∈ls->same l ls=1
 |[],_,l,f=>by simp at f
 |a::r,h,l,f=>by
  rw[pairwise_cons]at h;simp only[mC]at f;have e:∀b,b∈r->((b.k == a.k&&b.g == a.g)&&b.r == a.r)=false:=λb i=>by
   have:=h.1 b i;simp only[S1,Bool.or_eq_true,bA,decide_eq_true_eq,beq_iff_eq]at this;grind
  unfold same at *;rw[Pf];by_cases d:l=a
  ·subst d;rw[iP (by simp)];have:Z4 (λo=>o.k == l.k&&o.g == l.g&&o.r == l.r) r=0:=by
    rw[J3 (q:=λ_=>false) e];simp[Z4]
   rw[this]
  have c:l∈r:=f.resolve_left d;have j:=e l c;have i:=h.1 l c;rw[iN (by
   grind),Nat.zero_add]
  exact yK h.2 l c
theorem Zz9:∀{s:List Lt}{p:Nat}{l:Lt},s.Pairwise (λa b=>S1 a b=true)->(∀a,a∈s->As a=true)->s[p]?=some l->Z4 (λo=>As o&&S1 o l) s=p
 |[],p,l,_,_,h=>by simp at h
 |a::r,0,l,c,e,h=>by
  simp only[List.getElem?_cons_zero,oI]at h;subst h;rw[pairwise_cons]at c;unfold Z4;rw[List.length_eq_zero_iff,List.filter_eq_nil_iff];intro o d;rcases mC.1 d with rfl|d
  ·simp[Zzz]
  rw[oT (c.1 o d)];simp
 |a::r,p+1,l,c,e,h=>by
  simp only[List.getElem?_cons_succ]at h;rw[pairwise_cons]at c;rw[Pf,Zz9 c.2 (λb f=>e b (List.mem_cons_of_mem _ f)) h,iP (by grind)];omega
def GJ(m:Nat)(AL:List Nat)(j:Nat):Nat:=if 2*m+4*j∈AL then 0 else 2
def GK(m:Nat)(AL:List Nat)(j:Nat):Nat:=if 2*m+4*j+1∈AL then 1 else 3
def Hj(a b:Nat)(over:Bool):Int:=if ((decide (a=0) != decide (b=3)) != !over)=true then -1 else 1
def Fl(m:Nat)(PL:List (Nat×Nat))(X:List Nd)(AL:List Nat)(a:Nat):Lt:=
 if a<2*m then AP (PL.getD (a / 2) (0,0))
 else ⟨2,0,0,(((a - 2*m) / 4+1:Nat):Int),Hj (GJ m AL ((a - 2*m) / 4)) (GK m AL ((a - 2*m) / 4)) (X.getD ((a - 2*m) / 4) (false,false)).1,
  ((X.getD ((a - 2*m) / 4) (false,false)).1 == ((a - 2*m) % 4 % 2 == 0)) != (X.getD ((a - 2*m) / 4) (false,false)).2⟩
def CV(m:Nat)(X:List Nd)(L:List (Nat×Nat)):List Nat:=(range (m+2*X.length)).map (AK m L)
def X9(m:Nat)(PL:List (Nat×Nat))(X:List Nd)(L:List (Nat×Nat)):List Lt:=(CV m X L).map (Fl m PL X (CV m X L))
def HW(m a:Nat):Nat:=if a<2*m then 2*(a / 2)else 2*m+4*((a - 2*m) / 4)+(a - 2*m) % 4 % 2
def Qv(m n:Nat):List Nat:=Q5 m++(range n).flatMap fun j=>[2*m+4*j,2*m+4*j+1]
theorem Yj2(m:Nat)(c:List (Nat×Nat))(X:List Nd)(b:List Nat)(a:Nat):Fl m c X b (HW m a)=Fl m c X b a:=by
 unfold HW;by_cases h:a<2*m
 ·rw[iP h];unfold Fl;grind
 rw[iN h];unfold Fl;rw[iN h,iN (by omega),show (2*m+4*((a-2*m) / 4)+(a-2*m)%4%2-2*m) / 4=(a-2*m) / 4 by omega,show (2*m+4*((a-2*m) / 4)+(a-2*m)%4%2-2*m)%4%2=(a-2*m)%4%2 by omega]
theorem Z5w{m a b:Nat}(h:HW m a=HW m b):a=b\/a=Ec m b:=by
 unfold HW at h;unfold Ec Av;grind
theorem Ygp(m n:Nat):((range n).flatMap λj=>[2*m+4*j,2*m+4*j+1]).length=2*n:=by
 induction n with
 |zero=>rfl
 |succ n a=>rw[List.range_succ,List.flatMap_append,lA,a];rfl
theorem FP{m n e:Nat}:e∈Qv m n↔(e<2*m/\e%2=0) \/ ∃j,j<n/\(e=2*m+4*j\/e=2*m+4*j+1):=by
 unfold Qv Q5;rw[List.mem_append,mM,List.mem_flatMap];constructor
 ·rintro(⟨i,hi,rfl⟩|⟨j,a,h⟩)
  ·grind
  have:=mR.1 a;exact .inr ⟨j,this,by simpa using h⟩
 rintro(⟨b,c⟩|⟨j,a,h⟩)
 ·exact .inl ⟨e / 2,mR.2 (by omega),by omega⟩
 exact .inr ⟨j,mR.2 a,by simpa using h⟩
theorem Yf1(m n:Nat):(Qv m n).Nodup:=by
 unfold Qv;rw[List.nodup_append];refine⟨?_,?_,λa c b d e=>?_⟩
 ·unfold Q5;exact KJ (λx y _ _ e=>by omega) List.nodup_range
 ·induction n with
  |zero=>simp
  |succ n g=>
   rw[List.range_succ,List.flatMap_append,List.nodup_append];refine⟨g,by simp,λa c b d e=>?_⟩;obtain⟨j,f,h⟩:=List.mem_flatMap.1 c;have:=mR.1 f;simp only[List.flatMap_cons,List.flatMap_nil,List.append_nil,mC,List.not_mem_nil,or_false]at h d;omega
 obtain⟨i,hi,rfl⟩:=mM.1 c;grind
section
variable {m:Nat} {X:List Nd} {L:List (Nat×Nat)} (h:Jy m X L) (hw:FI m X L)
include h hw
theorem vq:((CV m X L).map (HW m)).Perm (Qv m X.length):=by
 refine Yjc ?_ (Yf1 _ _) (λx g=>?_) ?_
 ·unfold CV;rw[map_map];refine KJ (λs t d f e=>?_) List.nodup_range;rcases Z5w e with e|e
  ·exact yU h hw (mR.1 d) (mR.1 f) e
  exact absurd e (oN h)
 ·obtain⟨a,b,rfl⟩:=mM.1 g;obtain⟨t,_,rfl⟩:=mM.1 b;have c:=Lm h t;rw[FP];unfold HW;split
  ·exact .inl (by omega)
  refine .inr ⟨(AK m L t-2*m) / 4,by omega,?_⟩;omega
 unfold CV Qv Q5;rw[lM,lM,List.length_range,lA,Ygp,lM,List.length_range];omega
theorem Zy4{e:Nat}(c:e∈Qv m X.length):∃t,t<m+2*X.length/\HW m (AK m L t)=e:=by
 have:=(vq h hw).mem_iff.2 c;obtain⟨a,b,d⟩:=mM.1 this;obtain⟨t,f,rfl⟩:=mM.1 b;grind
omit h hw in
theorem Yc9{t:Nat}(a:t<m+2*X.length):AK m L t∈CV m X L:=mM.2 ⟨t,mR.2 a,rfl⟩
theorem Zwa{t j q:Nat}(g:t<m+2*X.length)(f:q<4)(e:AK m L t=2*m+4*j+q):(q%2=0->GJ m (CV m X L) j=q)/\(q%2=1->GK m (CV m X L) j=q):=by
 have no:∀r,r<4->r=(q+2)%4->2*m+4*j+r∉CV m X L:=λr k a hm=>by
  obtain⟨s,_,c⟩:=mM.1 hm;refine oN h (s:=s) (t:=t) ?_;rw[c,e,Wf f,a]
 have b:=Yc9 (X:=X) (L:=L) g;rw[e]at b;have i:q=0\/q=1\/q=2\/q=3:=by omega
 refine⟨λd=>?_,λd=>?_⟩
 ·unfold GJ;grind
 unfold GK;grind
end
end Go.Ad
