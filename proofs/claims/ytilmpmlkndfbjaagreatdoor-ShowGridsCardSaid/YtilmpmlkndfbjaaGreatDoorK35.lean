/- Part 35 of the proof: Ed. -/
import Derived.Test.YtilmpmlkndfbjaaGreatDoorK30
import Derived.Test.YtilmpmlkndfbjaaGreatDoorK34
set_option linter.all false
namespace Go.Ab
open Go.Plain
def Ar:Nat→List Nat→List (Nat×Nat)
 | _,[]=>[]
 | g,c :: r=>((List.range c).map fun i=>(g,i+1))++Ar (g+1) r
def AG(q:Nat×Nat):Lt:=⟨1,(q.1:Int),(q.2:Int),0,0,false⟩
theorem aT:∀ (gs:List Nat) (g0:Nat) (q:Nat×Nat),q∈Ar g0 gs → ∃ i c,gs[i]? = some c∧q.1=g0+i∧1≤q.2∧q.2≤c
 | [],_,_,h=>by cases h
 | c :: r,g0,q,h=>by
  rcases List.mem_append.1 h with h|h
  ·obtain⟨i,hi,rfl⟩:=mM.1 h;have:=mR.1 hi;exact⟨0,c,rfl,rfl,Nat.le_add_left _ _,by show i+1≤c; omega⟩
  ·obtain⟨i,c',h1,h2,h3,h4⟩:=aT r (g0+1) q h;exact⟨i+1,c',by simpa using h1,by omega,h3,h4⟩
theorem vT{gs:List Nat}{g0:Nat}{q:Nat×Nat}(h:q∈Ar g0 gs):g0≤q.1:=by
 obtain⟨i,c,_,h2,_⟩:=aT gs g0 q h;omega
theorem ZC:∀ (gs:List Nat) (g0:Nat),((Ar g0 gs).map AG).Pairwise fun a b=>S6 a b=true
 | [],_=>List.Pairwise.nil
 | c :: r,g0=>by
  show(((List.range c).map (fun i=>(g0,i+1))++Ar (g0+1) r).map AG).Pairwise _
  rw[List.map_append,List.pairwise_append];refine⟨?_,ZC r (g0+1),fun a ha b hb=>?_⟩
  ·rw[List.map_map,List.pairwise_map];refine List.Pairwise.imp ?_ (List.pairwise_lt_range (n:=c));intro i j hij;show(decide (((g0:Nat):Int)<(g0:Nat))||(((g0:Nat):Int) == ((g0:Nat):Int)&&decide (((i+1:Nat):Int)<((j+1:Nat):Int))))=true
   grind
  ·obtain⟨q,hq,rfl⟩:=mM.1 ha;obtain⟨q',EI,rfl⟩:=mM.1 hb;obtain⟨i,_,rfl⟩:=mM.1 hq;have:=vT EI;have e:((g0:Nat):Int)<((q'.1:Nat):Int):=by omega
   show(decide (((g0:Nat):Int)<((q'.1:Nat):Int))||_)=true
   grind
theorem qG:∀ (gs:List Nat) (g0 i c:Nat),gs[i]? = some c→CS ((g0+i:Nat):Int) ((Ar g0 gs).map AG)=c
 | [],_,_,_,h=>by simp at h
 | c' :: r,g0,i,c,h=>by
  have hsplit:∀ g:Int,CS g (((Ar g0 (c' :: r))).map AG)=CS g (((List.range c').map fun i=>(g0,i+1)).map AG)+CS g ((Ar (g0+1) r).map AG):=fun g=>by
   show CS g ((((List.range c').map fun i=>(g0,i+1))++Ar (g0+1) r).map AG)=_
   rw[List.map_append];exact Ni _ _ _
  have h1:∀ g:Int,CS g (((List.range c').map fun i=>(g0,i+1)).map AG)=if g=(g0:Int)then c' else 0:=fun g=>by
   unfold CS;rw[List.map_map];by_cases hg:g=(g0:Int)
   ·rw[iP hg];unfold Z7;rw[List.filter_eq_self.2 fun l hl=>?_]
    ·simp
    ·obtain⟨j,_,rfl⟩:=mM.1 hl;simp[AT,AG,hg]
   ·rw[iN hg];unfold Z7;rw[List.length_eq_zero_iff,List.filter_eq_nil_iff];intro l hl;obtain⟨j,_,rfl⟩:=mM.1 hl;simp[AT,AG];omega
  have h2:∀ g:Int,g<(g0+1:Nat)→CS g ((Ar (g0+1) r).map AG)=0:=fun g hg=>by
   unfold CS Z7;rw[List.length_eq_zero_iff,List.filter_eq_nil_iff];intro l hl;obtain⟨q,hq,rfl⟩:=mM.1 hl;have:=vT hq;simp[AT,AG];omega
  rw[hsplit,h1];cases i with
  | zero=>
   grind
  | succ i=>
   simp only[List.getElem?_cons_succ]at h;have:=qG r (g0+1) i c h
   grind
theorem oM:∀ {ls:List Lt},ls.Pairwise (fun a b=>S6 a b=true) → ∀ l,l∈ls→same l ls=1
 | [],_,l,hl=>by simp at hl
 | a :: r,h,l,hl=>by
  rw[List.pairwise_cons]at h;simp only[mC]at hl;have hne:∀ b,b∈r→((b.k == a.k&&b.g == a.g)&&b.r == a.r)=false:=fun b hb=>by
   have:=h.1 b hb;simp only[S6,Bool.or_eq_true,bA,decide_eq_true_eq,beq_iff_eq]at this
   grind
  unfold same at *;rw[LX];by_cases hla:l=a
  ·subst hla;rw[iP (by simp)]
   have:Z7 (fun o=>o.k == l.k&&o.g == l.g&&o.r == l.r) r=0:=by
    rw[B9 (q:=fun _=>false) hne]
    simp[Z7]
   rw[this]
  ·have hlr:l∈r:=hl.resolve_left hla;have hg:=hne l hlr;have hb:=h.1 l hlr;rw[iN (by
    grind),Nat.zero_add]
   exact oM h.2 l hlr
theorem uH:∀ {s:List Lt} {p:Nat} {l:Lt},s.Pairwise (fun a b=>S6 a b=true)→(∀ a,a∈s→AT a=true)→s[p]? = some l→Z7 (fun o=>AT o&&S6 o l) s=p
 | [],p,l,_,_,h=>by simp at h
 | a :: r,0,l,hs,hp,h=>by
  simp only[List.getElem?_cons_zero,oI]at h;subst h;rw[List.pairwise_cons]at hs;unfold Z7;rw[List.length_eq_zero_iff,List.filter_eq_nil_iff];intro o ho;rcases mC.1 ho with rfl|ho
  ·simp[lV]
  ·rw[nD (hs.1 o ho)]; simp
 | a :: r,p+1,l,hs,hp,h=>by
  simp only[List.getElem?_cons_succ]at h;rw[List.pairwise_cons]at hs;rw[LX,uH hs.2 (fun b hb=>hp b (List.mem_cons_of_mem _ hb)) h,iP (by grind)]
  omega
def Gf(m:Nat)(AL:List Nat)(j:Nat):Nat:=if 2*m+4*j∈AL then 0 else 2
def Gg(m:Nat)(AL:List Nat)(j:Nat):Nat:=if 2*m+4*j+1∈AL then 1 else 3
def FA(a b:Nat)(over:Bool):Int:=if ((decide (a=0) != decide (b=3)) != !over)=true then -1 else 1
def Ez(m:Nat)(PL:List (Nat×Nat))(X:List Nd)(AL:List Nat)(a:Nat):Lt:=
 if a<2*m then AG (PL.getD (a / 2) (0,0))
 else ⟨2,0,0,(((a - 2*m) / 4+1:Nat):Int),FA (Gf m AL ((a - 2*m) / 4)) (Gg m AL ((a - 2*m) / 4)) (X.getD ((a - 2*m) / 4) (false,false)).1,
  ((X.getD ((a - 2*m) / 4) (false,false)).1 == ((a - 2*m) % 4 % 2 == 0)) != (X.getD ((a - 2*m) / 4) (false,false)).2⟩
def CR(m:Nat)(X:List Nd)(L:List (Nat×Nat)):List Nat:=(List.range (m+2*X.length)).map (Al m L)
def Y3(m:Nat)(PL:List (Nat×Nat))(X:List Nd)(L:List (Nat×Nat)):List Lt:=(CR m X L).map (Ez m PL X (CR m X L))
def EK(m a:Nat):Nat:=if a<2*m then 2*(a / 2)else 2*m+4*((a - 2*m) / 4)+(a - 2*m) % 4 % 2
def Na(m n:Nat):List Nat:=W7 m++(List.range n).flatMap fun j=>[2*m+4*j,2*m+4*j+1]
theorem Z9k(m:Nat)(PL:List (Nat×Nat))(X:List Nd)(AL:List Nat)(a:Nat):Ez m PL X AL (EK m a)=Ez m PL X AL a:=by
 unfold EK;by_cases h:a<2*m
 ·rw[iP h];unfold Ez
  grind
 ·rw[iN h];unfold Ez;rw[iN h,iN (by omega),show (2*m+4*((a - 2*m) / 4)+(a - 2*m) % 4 % 2 - 2*m) / 4=(a - 2*m) / 4 by omega,show (2*m+4*((a - 2*m) / 4)+(a - 2*m) % 4 % 2 - 2*m) % 4 % 2=(a - 2*m) % 4 % 2 by omega]
theorem Vw{m a b:Nat}(h:EK m a=EK m b):a=b∨a=CH m b:=by
 unfold EK at h;unfold CH Dc
 grind
theorem s6(m n:Nat):((List.range n).flatMap fun j=>[2*m+4*j,2*m+4*j+1]).length=2*n:=by
 induction n with
 | zero=>rfl
 | succ n ih=>rw[List.range_succ,List.flatMap_append,lA,ih]; rfl
theorem Dt{m n e:Nat}:e∈Na m n↔(e<2*m∧e % 2=0) ∨ ∃ j,j<n∧(e=2*m+4*j∨e=2*m+4*j+1):=by
 unfold Na W7;rw[List.mem_append,mM,List.mem_flatMap];constructor
 ·rintro(⟨i,hi,rfl⟩|⟨j,hj,h⟩)
  ·grind
  ·have:=mR.1 hj;exact .inr ⟨j,this,by simpa using h⟩
 ·rintro(⟨h1,h2⟩|⟨j,hj,h⟩)
  ·exact .inl ⟨e / 2,mR.2 (by omega),by omega⟩
  ·exact .inr ⟨j,mR.2 hj,by simpa using h⟩
theorem Z3t(m n:Nat):(Na m n).Nodup:=by
 unfold Na;rw[List.nodup_append];refine⟨?_,?_,fun a ha b hb e=>?_⟩
 ·unfold W7;exact OT (fun x y _ _ e=>by omega) List.nodup_range
 ·induction n with
  | zero=>simp
  | succ n ih=>
   rw[List.range_succ,List.flatMap_append,List.nodup_append];refine⟨ih,by simp,fun a ha b hb e=>?_⟩
   obtain⟨j,hj,h⟩:=List.mem_flatMap.1 ha;have:=mR.1 hj;simp only[List.flatMap_cons,List.flatMap_nil,List.append_nil,mC,List.not_mem_nil,or_false]at h hb;omega
 ·obtain⟨i,hi,rfl⟩:=mM.1 ha
  grind
section
variable {m:Nat} {X:List Nd} {L:List (Nat×Nat)} (h:Gt m X L) (hw:EF m X L)
include h hw
theorem vQ:((CR m X L).map (EK m)).Perm (Na m X.length):=by
 refine vR ?_ (Z3t _ _) (fun x hx=>?_) ?_
 ·unfold CR;rw[List.map_map];refine OT (fun s t hs ht e=>?_) List.nodup_range
  rcases Vw e with e|e
  ·exact Ra h hw (mR.1 hs) (mR.1 ht) e
  ·exact absurd e (OO h)
 ·obtain⟨a,ha,rfl⟩:=mM.1 hx;obtain⟨t,_,rfl⟩:=mM.1 ha;have hlt:=P8 h t;rw[Dt];unfold EK;split
  ·exact .inl (by omega)
  ·refine .inr ⟨(Al m L t - 2*m) / 4,by omega,?_⟩
   omega
 ·unfold CR Na W7;rw[lM,lM,List.length_range,lA,s6,lM,List.length_range];omega
theorem VK{e:Nat}(he:e∈Na m X.length):∃ t,t<m+2*X.length∧EK m (Al m L t)=e:=by
 have:=(vQ h hw).mem_iff.2 he;obtain⟨a,ha,h1⟩:=mM.1 this;obtain⟨t,ht,rfl⟩:=mM.1 ha
 grind
omit h hw in
theorem Z9q{t:Nat}(ht:t<m+2*X.length):Al m L t∈CR m X L:=mM.2 ⟨t,mR.2 ht,rfl⟩
theorem MX{t j q:Nat}(ht:t<m+2*X.length)(hq:q<4)(e:Al m L t=2*m+4*j+q):(q % 2=0→Gf m (CR m X L) j=q)∧(q % 2=1→Gg m (CR m X L) j=q):=by
 have no:∀ r,r<4→r=(q+2) % 4→2*m+4*j+r∉CR m X L:=fun r hr hrq hm=>by
  obtain⟨s,_,es⟩:=mM.1 hm;refine OO h (s:=s) (t:=t) ?_;rw[es,e,Oh hq,hrq]
 have yes:=Z9q (X:=X) (L:=L) ht;rw[e]at yes;have hc:q=0∨q=1∨q=2∨q=3:=by omega
 refine⟨fun h0=>?_,fun h0=>?_⟩
 ·unfold Gf
  grind
 ·unfold Gg
  grind
end
end Go.Ab
