/- Part 40 of the proof: Ee. -/
import Derived.Test.YtilmpmlkndfbjaaGreatDoorR39
set_option linter.all false
namespace Go.Known
open Go.Plain
def crL(s:Nat→Int)(o:Nat→Bool):Nat→List Lt
 | 0=>[]
 | n+1=>crL s o n++[⟨2,0,0,((n+1:Nat):Int),s n,o n⟩,⟨2,0,0,((n+1:Nat):Int),s n,!o n⟩]
section
variable {s:Nat→Int} {o:Nat→Bool}
theorem Zrx:∀ {n:Nat} {l:Lt},l∈crL s o n → ∃ j b,j<n∧l=⟨2,0,0,((j+1:Nat):Int),s j,b⟩∧(b=o j∨b = !o j)
 | 0,l,h=>by cases h
 | n+1,l,h=>by
  rcases List.mem_append.1 h with h|h
  ·obtain⟨j,b,d,a,c⟩:=Zrx h;exact⟨j,b,by omega,a,c⟩
  ·simp only[List.mem_cons,List.not_mem_nil,or_false]at h;rcases h with h|h
   ·exact⟨n,o n,by omega,h,.inl rfl⟩
   ·exact⟨n,!o n,by omega,h,.inr rfl⟩
theorem Zmf(p:Lt→Bool)(n:Nat):Z5 p (crL s o (n+1))=Z5 p (crL s o n)+((if p ⟨2,0,0,((n+1:Nat):Int),s n,o n⟩ then 1 else 0)+if p ⟨2,0,0,((n+1:Nat):Int),s n,!o n⟩ then 1 else 0):=by
 show Z5 p (crL s o n++_)=_;rw[Zev,Zet,Zet];rfl
theorem Zwl:∀ n,X7 (crL s o n)=2*n
 | 0=>rfl
 | n+1=>by
  have:=Zwl n;unfold X7 at *;rw[Zmf,this];simp[isX];omega
theorem Zif{p:Lt→Bool}(a:∀ l:Lt,l.k=2→p l=false):∀ n,Z5 p (crL s o n)=0
 | 0=>rfl
 | n+1=>by rw[Zmf,Zif a n,a _ rfl,a _ rfl]; rfl
theorem Zw9(j:Nat):∀ n,G9 ((j+1:Nat):Int) (crL s o n)=if j<n then 2 else 0
 | 0=>rfl
 | n+1=>by
  have:=Zw9 j n;unfold G9 at *;rw[Zmf,this];by_cases e:n=j
  ·subst e;simp[isX]
  ·have a:¬(((n+1:Nat):Int)=((j+1:Nat):Int)):=by omega
   have b:(((n+1:Nat):Int) == ((j+1:Nat):Int))=false:=by simpa using a
   have c:(j<n+1)=(j<n):=propext (by omega)
   simp only[b,c,Bool.and_false,bF,if_false,Nat.add_zero]
theorem Zvx(j:Nat)(b:Bool)(a:b=o j∨b = !o j):∀ n,Zao ⟨2,0,0,((j+1:Nat):Int),s j,b⟩ (crL s o n)=if j<n then 1 else 0
 | 0=>rfl
 | n+1=>by
  have:=Zvx j b a n;unfold Zao at *;rw[Zmf,this];by_cases e:n=j
  ·subst e;rcases a with rfl|rfl<;>cases o n<;>simp
  ·have c:¬(((n+1:Nat):Int)=((j+1:Nat):Int)):=by omega
   have d:(((n+1:Nat):Int) == ((j+1:Nat):Int))=false:=by simpa using c
   have f:(j<n+1)=(j<n):=propext (by omega)
   simp only[d,f,Bool.and_false,Bool.false_and,bF,if_false,Nat.add_zero]
end
theorem Zww(m:Nat)(b:List (Nat×Nat))(X:List Nd)(a:List Nat):∀ n,((List.range n).flatMap fun j=>[2*m+4*j,2*m+4*j+1]).map (ltA m b X a) =
 crL (fun j=>sgE (e0E m a j) (e1E m a j) (X.getD j (false,false)).1) (fun j=>(X.getD j (false,false)).1 != (X.getD j (false,false)).2) n
 | 0=>rfl
 | n+1=>by
  rw[List.range_succ,List.flatMap_append,List.map_append,Zww m b X a n];show _++[ltA m b X a (2*m+4*n),ltA m b X a (2*m+4*n+1)]=_;have c:ltA m b X a (2*m+4*n)=⟨2,0,0,((n+1:Nat):Int),sgE (e0E m a n) (e1E m a n) (X.getD n (false,false)).1,(X.getD n (false,false)).1 != (X.getD n (false,false)).2⟩:=by
   unfold ltA;rw[if_neg (by omega),show (2*m+4*n - 2*m) / 4=n by omega,show (2*m+4*n - 2*m) % 4 % 2=0 by omega]
   congr 1
   cases (X.getD n (false,false)).1<;>rfl
  have d:ltA m b X a (2*m+4*n+1)=⟨2,0,0,((n+1:Nat):Int),sgE (e0E m a n) (e1E m a n) (X.getD n (false,false)).1,!((X.getD n (false,false)).1 != (X.getD n (false,false)).2)⟩:=by
   unfold ltA;rw[if_neg (by omega),show (2*m+4*n+1 - 2*m) / 4=n by omega,show (2*m+4*n+1 - 2*m) % 4 % 2=1 by omega]
   congr 1
   cases (X.getD n (false,false)).1<;>cases (X.getD n (false,false)).2<;>rfl
  rw[c,d];rfl
theorem Ybk{m:Nat}{X:List Nd}{a:Nat}(b:a<2*m+4*X.length):sdE m X (wiE m a)=if a<2*m then !sdE m X a else sdE m X a:=by
 by_cases h:a<2*m
 ·rw[if_pos h,Zgj h];unfold sdE;rw[if_pos (Zn0 h),if_pos h];unfold bkN;rcases Nat.mod_two_eq_zero_or_one a with e|e
  ·rw[if_pos e,e,show (a+1) % 2=1 by omega]
   rfl
  ·rw[if_neg (by omega),e,show (a - 1) % 2=0 by omega]
   rfl
 ·rw[if_neg h];obtain⟨j,q,d,c,rfl⟩:=Zkf h b;rw[Zg6 c];have:=Nat.mod_lt (q+2) (show 0<4 by omega)
  unfold sdE;rw[if_neg (by omega),if_neg (by omega),show (2*m+4*j+(q+2) % 4 - 2*m) / 4=j by omega,show (2*m+4*j+q - 2*m) / 4=j by omega]
section
variable {m:Nat} {X:List Nd} {L:List (Nat×Nat)} (h:Rdg m X L) (hw:Whl m X L) {gs:List Nat} {F:Nat} (hPL:(plE 0 gs).length=m) (hgl:gs.length=F+1)
include h hw hPL
theorem Zai:(Y0 m (plE 0 gs) X L).length=m+2*X.length:=by unfold Y0 arL; simp
theorem Zhc{t:Nat}(b:t<m+2*X.length):at' (Y0 m (plE 0 gs) X L) t=ltA m (plE 0 gs) X (arL m X L) (arE m L t):=by
 have a:=Zai h hw hPL;unfold at';rw[List.getD,gE (by rw[a]; exact b)]
 show(Y0 m (plE 0 gs) X L)[t]=_;unfold Y0;rw[List.getElem_map]
 congr 1
 unfold arL;simp
theorem Zs2:(Y0 m (plE 0 gs) X L).Perm ((plE 0 gs).map passL++crL (fun j=>sgE (e0E m (arL m X L) j) (e1E m (arL m X L) j) (X.getD j (false,false)).1) (fun j=>(X.getD j (false,false)).1 != (X.getD j (false,false)).2) X.length):=by
 have b:Y0 m (plE 0 gs) X L=((arL m X L).map (rpE m)).map (ltA m (plE 0 gs) X (arL m X L)):=by
  unfold Y0;rw[List.map_map];exact List.map_congr_left fun a _=>(Zzq m _ X _ a).symm
 have c:(V2 m).map (ltA m (plE 0 gs) X (arL m X L))=(plE 0 gs).map passL:=by
  apply List.ext_getElem?;intro i;rw[List.getElem?_map,List.getElem?_map];unfold V2;rw[List.getElem?_map];by_cases hi:i<m
  ·rw[List.getElem?_range hi,gE (by omega)]
   show some (ltA m (plE 0 gs) X (arL m X L) (2*i))=some (passL (plE 0 gs)[i]);unfold ltA;rw[if_pos (by omega),show 2*i / 2=i by omega,List.getD,gE (by omega)]
   rfl
  ·rw[List.getElem?_eq_none (by rw[List.length_range]; omega),List.getElem?_eq_none (by omega)]
   rfl
 rw[b];refine((Ztz h hw).map _).trans ?_;unfold Zfl;rw[List.map_append,c,Zww]
theorem Zgp(p:Lt→Bool):Z5 p (Y0 m (plE 0 gs) X L)=Z5 p ((plE 0 gs).map passL)+Z5 p (crL (fun j=>sgE (e0E m (arL m X L) j) (e1E m (arL m X L) j) (X.getD j (false,false)).1) (fun j=>(X.getD j (false,false)).1 != (X.getD j (false,false)).2) X.length):=by
 rw[← Zev];unfold Z5;exact((Zs2 h hw hPL).filter p).length_eq
theorem Zud:Z3 (Y0 m (plE 0 gs) X L)=m:=by
 unfold Z3;rw[Zgp h hw hPL,Zif (fun l a=>by simp[isP,a])]
 unfold Z5;rw[List.filter_eq_self.2 fun l a=>?_]
 ·simp[hPL]
 ·obtain⟨q,_,rfl⟩:=List.mem_map.1 a;rfl
theorem Zzi:X7 (Y0 m (plE 0 gs) X L)=2*X.length:=by
 unfold X7;rw[Zgp h hw hPL];have a:=Zwl (s:=fun j=>sgE (e0E m (arL m X L) j) (e1E m (arL m X L) j) (X.getD j (false,false)).1) (o:=fun j=>(X.getD j (false,false)).1 != (X.getD j (false,false)).2) X.length
 unfold X7 at a;rw[a];unfold Z5;rw[List.filter_eq_nil_iff.2 fun l b=>?_]
 ·simp
 ·obtain⟨q,_,rfl⟩:=List.mem_map.1 b;simp[isX,passL]
include hgl in
theorem Zpf:∀ l,l∈Y0 m (plE 0 gs) X L→okR F (Y0 m (plE 0 gs) X L) l=true:=by
 intro l a;rcases List.mem_append.1 ((Zs2 h hw hPL).mem_iff.1 a)with a|a
 ·have f:=a;obtain⟨q,w,rfl⟩:=List.mem_map.1 a;obtain⟨i,c,d,t,y,z⟩:=Zn3 gs 0 q w;have hi:i<gs.length:=by
   rcases Nat.lt_or_ge i gs.length with c|c
   ·exact c
   ·rw[List.getElem?_eq_none c]at d; cases d
  have v:inG ((passL q).g) (Y0 m (plE 0 gs) X L)=c:=by
   have n:=Zrv gs 0 i c d;have e:(passL q).g=((0+i:Nat):Int):=by show((q.1:Nat):Int)=_; rw[t]
   rw[e];unfold inG at n ⊢;rw[Zgp h hw hPL,n,Zif (fun l a=>by simp[isP,a])]
   rfl
  refine(Zlk (show (passL q).k=1 from rfl)).2 ⟨rfl,rfl,rfl,?_,?_,?_,?_,?_⟩
  ·show(0:Int)≤(q.1:Int); omega
  ·show(q.1:Int)≤(F:Int); omega
  ·show(1:Int)≤(q.2:Int); omega
  ·rw[v]; show(q.2:Int)≤(c:Int); omega
  ·have p:=Zvw (Zoz gs 0) _ f;unfold same at p ⊢;rw[Zgp h hw hPL,p,Zif (fun l a=>by rw[a]; rfl)]
 ·obtain⟨j,b,r,rfl,u⟩:=Zrx a;refine(Zlw rfl).2 ⟨rfl,rfl,?_,?_,?_,?_,?_⟩
  ·show sgE _ _ _=1∨sgE _ _ _ = -1;unfold sgE;split
   ·exact .inr rfl
   ·exact .inl rfl
  ·show(1:Int)≤((j+1:Nat):Int); omega
  ·rw[Zzi h hw hPL,Nat.mul_div_cancel_left _ (by omega)]
   show((j+1:Nat):Int)≤_;omega
  ·have d:=Zvx (s:=fun j=>sgE (e0E m (arL m X L) j) (e1E m (arL m X L) j) (X.getD j (false,false)).1) (o:=fun j=>(X.getD j (false,false)).1 != (X.getD j (false,false)).2) j b u X.length
   unfold Zao at d ⊢;rw[Zgp h hw hPL,d,if_pos r];unfold Z5;rw[List.filter_eq_nil_iff.2 fun l a=>?_]
   ·rfl
   ·obtain⟨q,_,rfl⟩:=List.mem_map.1 a;simp[passL]
  ·have d:=Zw9 (s:=fun j=>sgE (e0E m (arL m X L) j) (e1E m (arL m X L) j) (X.getD j (false,false)).1) (o:=fun j=>(X.getD j (false,false)).1 != (X.getD j (false,false)).2) j X.length
   unfold G9 at d ⊢;rw[Zgp h hw hPL,d,if_pos r];unfold Z5;rw[List.filter_eq_nil_iff.2 fun l a=>?_]
   ·rfl
   ·obtain⟨q,_,rfl⟩:=List.mem_map.1 a;simp[passL,isX]
theorem Zhd{t:Nat}(a:t<m+2*X.length):(at' (Y0 m (plE 0 gs) X L) t).k=if arE m L t<2*m then 1 else 2:=by
 rw[Zhc h hw hPL a];unfold ltA;split<;>rfl
theorem Zvl:∀ t,t<m+2*X.length→sdE m X (arE m L t) = !down (Y0 m (plE 0 gs) X L) t:=by
 intro t
 induction t with
 | zero=>
  intro _;have:arE m L 0=0:=rfl;rw[this];unfold sdE down;rw[if_pos (by have:=h.hm; omega)]
  rfl
 | succ t c=>
  intro f;have c:=c (by omega)
  have b:=Zhd h hw hPL (gs:=gs) (t:=t) (by omega)
  have e:=Zxs (ls:=Y0 m (plE 0 gs) X L) (i:=t) (by rw[Zai h hw hPL]; omega)
  have d:arE m L (t+1)=ptn L (wiE m (arE m L t)):=rfl;rw[d,h.sd _ (F7 (P9 h t)).1,Ybk (P9 h t),c];unfold down at *;rw[e];by_cases a:arE m L t<2*m
  ·rw[if_pos a]at b;rw[if_pos a,if_pos (by simp[isP,b])]
   generalize Z3 ((Y0 m (plE 0 gs) X L).take t)=z;rw[Bool.eq_iff_iff];simp;omega
  ·rw[if_neg a]at b;rw[if_neg a,if_neg (by simp[isP,b])]
   rfl
theorem Z9q{t j q:Nat}(G:t<m+2*X.length)(M:j<X.length)(F:q<4)(e:arE m L t=2*m+4*j+q) :
 ∃ u f,u<m+2*X.length∧f<4∧f % 2≠q % 2∧arE m L u=2*m+4*j+f∧T2 (Y0 m (plE 0 gs) X L) t (m+2*X.length) 0=u:=by
 have b:=Zai h hw hPL;obtain⟨u,C,a⟩:=Zkq h hw (e:=2*m+4*j+(1 - q % 2)) (mem_reps.2 (.inr ⟨j,M,by omega⟩))
 have r:=P9 h u;have s:¬arE m L u<2*m:=fun c=>by
  unfold rpE at a;rw[if_pos c]at a;omega
 obtain⟨p,f,N,l,e'⟩:=Zkf s r;have y:p=j∧f % 2=1 - q % 2:=by
  rw[e']at a;unfold rpE at a;rw[if_neg (by omega)]at a
  omega
 obtain⟨rfl,E⟩:=y;refine⟨u,f,C,l,by omega,e',?_⟩
 have d:∀ v j q,v<m+2*X.length→q<4→arE m L v=2*m+4*j+q→(at' (Y0 m (plE 0 gs) X L) v).k=2∧(at' (Y0 m (plE 0 gs) X L) v).i=((j+1:Nat):Int):=fun v j q P F ev=>by
  rw[Zhc h hw hPL P,ev];unfold ltA;rw[if_neg (by omega),show (2*m+4*j+q - 2*m) / 4=j by omega]
  exact⟨rfl,rfl⟩
 obtain⟨V,o⟩:=d t p q G F e;obtain⟨S,Q⟩:=d u p f C l e';have z:u≠t:=fun c=>by
  rw[c,e]at e';omega
 refine Zoq ?_ ?_ (m+2*X.length) 0 (Nat.zero_le _) (by omega) (by rw[b]; omega)
 ·rw[o,Q];simp[z,isX,S]
 ·intro x D n;rw[b]at n;simp only[bA,bne_iff_ne,ne_eq,beq_iff_eq,isX]at D;obtain⟨⟨I,J⟩,K⟩:=D;have g:=Zhd h hw hPL (gs:=gs) n;have w:¬arE m L x<2*m:=fun c=>by rw[if_pos c,J]at g; cases g
  obtain⟨H,U,O,A,ex⟩:=Zkf w (P9 h x);obtain⟨_,ix⟩:=d x H U n A ex;rw[ix,o]at K;have:H=p:=by omega
  subst this;have B:rpE m (arE m L x)=rpE m (arE m L u)∨rpE m (arE m L x)=rpE m (arE m L t):=by
   rw[ex,e',e];unfold rpE;rw[if_neg (by omega),if_neg (by omega),if_neg (by omega)]
   omega
  rcases B with c|c
  ·rcases Zma c with c|c
   ·exact Zh0 h hw n C c
   ·exact absurd c (Zgi h)
  ·rcases Zma c with c|c
   ·exact absurd (Zh0 h hw n G c) I
   ·exact absurd c (Zgi h)
end
end Go.Known
