/- Part 39 of the proof: Ed. -/
import Derived.Test.YtilmpmlkndfbjaaGreatDoorR34
import Derived.Test.YtilmpmlkndfbjaaGreatDoorR38
set_option linter.all false
namespace Go.Known
open Go.Plain
def plE:Nat→List Nat→List (Nat×Nat)
 | _,[]=>[]
 | g,c :: r=>((List.range c).map fun i=>(g,i+1))++plE (g+1) r
def passL(q:Nat×Nat):Lt:=⟨1,(q.1:Int),(q.2:Int),0,0,false⟩
theorem Zn3:∀ (gs:List Nat) (a:Nat) (q:Nat×Nat),q∈plE a gs → ∃ i c,gs[i]? = some c∧q.1=a+i∧1≤q.2∧q.2≤c
 | [],_,_,h=>by cases h
 | c :: r,a,q,h=>by
  rcases List.mem_append.1 h with h|h
  ·obtain⟨i,hi,rfl⟩:=List.mem_map.1 h;have:=List.mem_range.1 hi;exact⟨0,c,rfl,rfl,Nat.le_add_left _ _,by show i+1≤c; omega⟩
  ·obtain⟨i,c',b,f,d,e⟩:=Zn3 r (a+1) q h;exact⟨i+1,c',by simpa using b,by omega,d,e⟩
theorem Zwu{gs:List Nat}{a:Nat}{q:Nat×Nat}(h:q∈plE a gs):a≤q.1:=by
 obtain⟨i,c,_,b,_⟩:=Zn3 gs a q h;omega
theorem Zoz:∀ (gs:List Nat) (d:Nat),((plE d gs).map passL).Pairwise fun a b=>U4 a b=true
 | [],_=>List.Pairwise.nil
 | c :: r,d=>by
  show(((List.range c).map (fun i=>(d,i+1))++plE (d+1) r).map passL).Pairwise _
  rw[List.map_append,List.pairwise_append];refine⟨?_,Zoz r (d+1),fun a h b k=>?_⟩
  ·rw[List.map_map,List.pairwise_map];refine List.Pairwise.imp ?_ (List.pairwise_lt_range (n:=c));intro i j l;show(decide (((d:Nat):Int)<(d:Nat))||(((d:Nat):Int) == ((d:Nat):Int)&&decide (((i+1:Nat):Int)<((j+1:Nat):Int))))=true;have e:((i+1:Nat):Int)<((j+1:Nat):Int):=by omega
   simp only[decide_eq_true e];simp
  ·obtain⟨q,m,rfl⟩:=List.mem_map.1 h;obtain⟨g,f,rfl⟩:=List.mem_map.1 k;obtain⟨i,_,rfl⟩:=List.mem_map.1 m;have:=Zwu f;have e:((d:Nat):Int)<((g.1:Nat):Int):=by omega
   show(decide (((d:Nat):Int)<((g.1:Nat):Int))||_)=true;rw[decide_eq_true e];rfl
theorem Zrv:∀ (gs:List Nat) (a i c:Nat),gs[i]? = some c→inG ((a+i:Nat):Int) ((plE a gs).map passL)=c
 | [],_,_,_,h=>by simp at h
 | c' :: r,a,i,c,h=>by
  have b:∀ g:Int,inG g (((plE a (c' :: r))).map passL)=inG g (((List.range c').map fun i=>(a,i+1)).map passL)+inG g ((plE (a+1) r).map passL):=fun g=>by
   show inG g ((((List.range c').map fun i=>(a,i+1))++plE (a+1) r).map passL)=_
   rw[List.map_append];exact Zev _ _ _
  have f:∀ g:Int,inG g (((List.range c').map fun i=>(a,i+1)).map passL)=if g=(a:Int)then c' else 0:=fun g=>by
   unfold inG;rw[List.map_map];by_cases e:g=(a:Int)
   ·rw[if_pos e];unfold Z5;rw[List.filter_eq_self.2 fun l d=>?_]
    ·simp
    ·obtain⟨j,_,rfl⟩:=List.mem_map.1 d;simp[isP,passL,e]
   ·rw[if_neg e];unfold Z5;rw[List.length_eq_zero_iff,List.filter_eq_nil_iff];intro l d;obtain⟨j,_,rfl⟩:=List.mem_map.1 d;simp[isP,passL];omega
  have k:∀ g:Int,g<(a+1:Nat)→inG g ((plE (a+1) r).map passL)=0:=fun g e=>by
   unfold inG Z5;rw[List.length_eq_zero_iff,List.filter_eq_nil_iff];intro l d;obtain⟨q,m,rfl⟩:=List.mem_map.1 d;have:=Zwu m;simp[isP,passL];omega
  rw[b,f];cases i with
  | zero=>
   simp only[List.getElem?_cons_zero,oI]at h;subst h;rw[if_pos (by omega),k _ (by omega)]
   omega
  | succ i=>
   simp only[List.getElem?_cons_succ]at h;have:=Zrv r (a+1) i c h;rw[show a+1+i=a+(i+1) by omega]at this
   rw[if_neg (by omega),this]
   omega
theorem Zvw:∀ {ls:List Lt},ls.Pairwise (fun a b=>U4 a b=true) → ∀ l,l∈ls→same l ls=1
 | [],_,l,f=>by simp at f
 | a :: r,h,l,f=>by
  rw[List.pairwise_cons]at h;simp only[List.mem_cons]at f;have e:∀ b,b∈r→((b.k == a.k&&b.g == a.g)&&b.r == a.r)=false:=fun b i=>by
   have:=h.1 b i;simp only[U4,Bool.or_eq_true,bA,decide_eq_true_eq,beq_iff_eq]at this;simp only[Bool.and_eq_false_iff,beq_eq_false_iff_ne];rcases this with h|⟨_,h⟩
   ·exact .inl (.inr (by omega))
   ·exact .inr (by omega)
  unfold same at *;rw[Zet];by_cases d:l=a
  ·subst d;rw[if_pos (by simp)]
   have:Z5 (fun o=>o.k == l.k&&o.g == l.g&&o.r == l.r) r=0:=by
    rw[F0 (q:=fun _=>false) e]
    simp[Z5]
   rw[this]
  ·have c:l∈r:=f.resolve_left d;have p:=e l c;have i:=h.1 l c;rw[if_neg (by
    simp only[U4,Bool.or_eq_true,bA,decide_eq_true_eq,beq_iff_eq]at i;simp only[bA,beq_iff_eq];rintro⟨⟨j,m⟩,n⟩;omega),Nat.zero_add]
   exact Zvw h.2 l c
theorem Zu3:∀ {s:List Lt} {p:Nat} {l:Lt},s.Pairwise (fun a b=>U4 a b=true)→(∀ a,a∈s→isP a=true)→s[p]? = some l→Z5 (fun o=>isP o&&U4 o l) s=p
 | [],p,l,_,_,h=>by simp at h
 | a :: r,0,l,c,e,h=>by
  simp only[List.getElem?_cons_zero,oI]at h;subst h;rw[List.pairwise_cons]at c;unfold Z5;rw[List.length_eq_zero_iff,List.filter_eq_nil_iff];intro o d;rcases List.mem_cons.1 d with rfl|d
  ·simp[Zvo]
  ·rw[Zsp (c.1 o d)]; simp
 | a :: r,p+1,l,c,e,h=>by
  simp only[List.getElem?_cons_succ]at h;rw[List.pairwise_cons]at c;rw[Zet,Zu3 c.2 (fun b f=>e b (List.mem_cons_of_mem _ f)) h,if_pos (by rw[e a List.mem_cons_self,c.1 l (List.mem_of_getElem? h)]; rfl)]
  omega
def e0E(m:Nat)(AL:List Nat)(j:Nat):Nat:=if 2*m+4*j∈AL then 0 else 2
def e1E(m:Nat)(AL:List Nat)(j:Nat):Nat:=if 2*m+4*j+1∈AL then 1 else 3
def sgE(a b:Nat)(over:Bool):Int:=if ((decide (a=0) != decide (b=3)) != !over)=true then -1 else 1
def ltA(m:Nat)(PL:List (Nat×Nat))(X:List Nd)(AL:List Nat)(a:Nat):Lt:=
 if a<2*m then passL (PL.getD (a / 2) (0,0))
 else ⟨2,0,0,(((a - 2*m) / 4+1:Nat):Int),sgE (e0E m AL ((a - 2*m) / 4)) (e1E m AL ((a - 2*m) / 4)) (X.getD ((a - 2*m) / 4) (false,false)).1,
  ((X.getD ((a - 2*m) / 4) (false,false)).1 == ((a - 2*m) % 4 % 2 == 0)) != (X.getD ((a - 2*m) / 4) (false,false)).2⟩
def arL(m:Nat)(X:List Nd)(L:List (Nat×Nat)):List Nat:=(List.range (m+2*X.length)).map (arE m L)
def Y0(m:Nat)(PL:List (Nat×Nat))(X:List Nd)(L:List (Nat×Nat)):List Lt:=(arL m X L).map (ltA m PL X (arL m X L))
def rpE(m a:Nat):Nat:=if a<2*m then 2*(a / 2)else 2*m+4*((a - 2*m) / 4)+(a - 2*m) % 4 % 2
def Zfl(m n:Nat):List Nat:=V2 m++(List.range n).flatMap fun j=>[2*m+4*j,2*m+4*j+1]
theorem Zzq(m:Nat)(c:List (Nat×Nat))(X:List Nd)(b:List Nat)(a:Nat):ltA m c X b (rpE m a)=ltA m c X b a:=by
 unfold rpE;by_cases h:a<2*m
 ·rw[if_pos h];unfold ltA;rw[if_pos h,if_pos (by omega),show 2*(a / 2) / 2=a / 2 by omega]
 ·rw[if_neg h];unfold ltA;rw[if_neg h,if_neg (by omega),show (2*m+4*((a - 2*m) / 4)+(a - 2*m) % 4 % 2 - 2*m) / 4=(a - 2*m) / 4 by omega,show (2*m+4*((a - 2*m) / 4)+(a - 2*m) % 4 % 2 - 2*m) % 4 % 2=(a - 2*m) % 4 % 2 by omega]
theorem Zma{m a b:Nat}(h:rpE m a=rpE m b):a=b∨a=wiE m b:=by
 unfold rpE at h;unfold wiE bkN;split at h<;>split at h<;>(repeat' split)<;>omega
theorem Z25(m n:Nat):((List.range n).flatMap fun j=>[2*m+4*j,2*m+4*j+1]).length=2*n:=by
 induction n with
 | zero=>rfl
 | succ n a=>rw[List.range_succ,List.flatMap_append,List.length_append,a]; rfl
theorem mem_reps{m n e:Nat}:e∈Zfl m n↔(e<2*m∧e % 2=0) ∨ ∃ j,j<n∧(e=2*m+4*j∨e=2*m+4*j+1):=by
 unfold Zfl V2;rw[List.mem_append,List.mem_map,List.mem_flatMap];constructor
 ·rintro(⟨i,hi,rfl⟩|⟨j,a,h⟩)
  ·have:=List.mem_range.1 hi;exact .inl (by omega)
  ·have:=List.mem_range.1 a;exact .inr ⟨j,this,by simpa using h⟩
 ·rintro(⟨b,c⟩|⟨j,a,h⟩)
  ·exact .inl ⟨e / 2,List.mem_range.2 (by omega),by omega⟩
  ·exact .inr ⟨j,List.mem_range.2 a,by simpa using h⟩
theorem Z1t(m n:Nat):(Zfl m n).Nodup:=by
 unfold Zfl;rw[List.nodup_append];refine⟨?_,?_,fun a c b d e=>?_⟩
 ·unfold V2;exact Zgr (fun x y _ _ e=>by omega) List.nodup_range
 ·induction n with
  | zero=>simp
  | succ n g=>
   rw[List.range_succ,List.flatMap_append,List.nodup_append];refine⟨g,by simp,fun a c b d e=>?_⟩
   obtain⟨j,f,h⟩:=List.mem_flatMap.1 c;have:=List.mem_range.1 f;simp only[List.flatMap_cons,List.flatMap_nil,List.append_nil,List.mem_cons,List.not_mem_nil,or_false]at h d;omega
 ·obtain⟨i,hi,rfl⟩:=List.mem_map.1 c;have:=List.mem_range.1 hi;obtain⟨j,f,h⟩:=List.mem_flatMap.1 d;simp only[List.mem_cons,List.not_mem_nil,or_false]at h;omega
section
variable {m:Nat} {X:List Nd} {L:List (Nat×Nat)} (h:Rdg m X L) (hw:Whl m X L)
include h hw
theorem Ztz:((arL m X L).map (rpE m)).Perm (Zfl m X.length):=by
 refine Zuh ?_ (Z1t _ _) (fun x g=>?_) ?_
 ·unfold arL;rw[List.map_map];refine Zgr (fun s t d f e=>?_) List.nodup_range
  rcases Zma e with e|e
  ·exact Zh0 h hw (List.mem_range.1 d) (List.mem_range.1 f) e
  ·exact absurd e (Zgi h)
 ·obtain⟨a,b,rfl⟩:=List.mem_map.1 g;obtain⟨t,_,rfl⟩:=List.mem_map.1 b;have c:=P9 h t;rw[mem_reps];unfold rpE;split
  ·exact .inl (by omega)
  ·refine .inr ⟨(arE m L t - 2*m) / 4,by omega,?_⟩
   omega
 ·unfold arL Zfl V2;rw[List.length_map,List.length_map,List.length_range,List.length_append,Z25,List.length_map,List.length_range];omega
theorem Zkq{e:Nat}(d:e∈Zfl m X.length):∃ t,t<m+2*X.length∧rpE m (arE m L t)=e:=by
 have:=(Ztz h hw).mem_iff.2 d;obtain⟨a,c,b⟩:=List.mem_map.1 this;obtain⟨t,f,rfl⟩:=List.mem_map.1 c;exact⟨t,List.mem_range.1 f,b⟩
omit h hw in
theorem Z0b{t:Nat}(a:t<m+2*X.length):arE m L t∈arL m X L:=List.mem_map.2 ⟨t,List.mem_range.2 a,rfl⟩
theorem Zfx{t j q:Nat}(i:t<m+2*X.length)(g:q<4)(e:arE m L t=2*m+4*j+q):(q % 2=0→e0E m (arL m X L) j=q)∧(q % 2=1→e1E m (arL m X L) j=q):=by
 have no:∀ r,r<4→r=(q+2) % 4→2*m+4*j+r∉arL m X L:=fun r k b hm=>by
  obtain⟨s,_,d⟩:=List.mem_map.1 hm;refine Zgi h (s:=s) (t:=t) ?_;rw[d,e,Zg6 g,b]
 have a:=Z0b (X:=X) (L:=L) i;rw[e]at a;have c:q=0∨q=1∨q=2∨q=3:=by omega
 refine⟨fun f=>?_,fun f=>?_⟩
 ·unfold e0E;rcases c with rfl|rfl|rfl|rfl
  ·rw[if_pos (by simpa using a)]
  ·omega
  ·rw[if_neg (by simpa using no 0 (by omega) rfl)]
  ·omega
 ·unfold e1E;rcases c with rfl|rfl|rfl|rfl
  ·omega
  ·rw[if_pos a]
  ·omega
  ·rw[if_neg (no 1 (by omega) rfl)]
end
end Go.Known
