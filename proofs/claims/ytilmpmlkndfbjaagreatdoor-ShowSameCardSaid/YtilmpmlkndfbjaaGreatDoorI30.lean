/- Part 30 of the proof: Po, Pq. -/
import Derived.Test.YtilmpmlkndfbjaaGreatDoorI27
import Derived.Test.YtilmpmlkndfbjaaGreatDoorI28
import Derived.Test.YtilmpmlkndfbjaaGreatDoorI29
set_option linter.all false
section
namespace Go.Known
open Go.Plain
theorem Zh2(p:Lt→Bool)(f:Lt→Lt)(ls:List Lt):Z3 p (ls.map f)=Z3 (fun l=>p (f l)) ls:=by
 unfold Z3;rw[List.filter_map,List.length_map];rfl
theorem Z5e(f:Lt→Lt){ls:List Lt}{v:Nat}(a:v<ls.length):at' (ls.map f) v=f (at' ls v):=by
 unfold at';rw[List.getD,List.getD,List.getElem?_map,gE a];rfl
theorem A7{f:Int}{ls:List Lt}{l:Lt}(a:l.k=1):okR f ls l=true↔l.i=0∧l.s=0∧l.o=false∧0≤l.g∧l.g≤f∧1≤l.r∧l.r≤inG l.g ls∧same l ls=1:=by
 unfold okR;rw[if_pos a];simp[and_assoc]
theorem Za6{f:Int}{ls:List Lt}{l:Lt}(a:l.k=2):okR f ls l=true↔l.g=0∧l.r=0∧(l.s=1∨l.s = -1)∧1≤l.i∧l.i≤(Y9 ls / 2:Nat)∧Zdh l ls=1∧K1 l.i ls=2:=by
 unfold okR;rw[if_neg (by omega),if_pos a]
 simp[and_assoc]
theorem Ziv{f:Int}{ls:List Lt}{l:Lt}(h:okR f ls l=true):l.k=1∨l.k=2:=by
 unfold okR at h;split at h
 ·exact .inl ‹_›
 ·split at h
  ·exact .inr ‹_›
  ·cases h
structure ValR (f:Int) (ls:List Lt):Prop where
 len:ls.length≤400
 vis:Y9 ls≤200
 lo:0≤f
 hi:f≤40
 fst:(at' ls 0).k=1
 evn:Z0 ls % 2=0
 okr:∀ l,l∈ls→okR f ls l=true
 cyc:L2 (Y4 ls (Z1 ls)) (2*ls.length+2*Z0 ls)=Z0 ls+Y9 ls / 2+2
theorem Zdr{f:Int}{ls:List Lt}(a:W7 f ls=0)(i:ls≠[]):ValR f ls:=by
 obtain⟨b,c,j,k,l,m,d,e⟩:=Yd4 a i;have n:((f.toNat:Nat):Int)=f:=by omega
 have o:¬(400<ls.length∨200<Y9 ls):=fun h=>by
  unfold W7 at a;rw[if_pos h]at a;cases a
 have g:=Zur j m d;rw[n]at g;refine⟨by omega,by omega,b,c,k,l,List.all_eq_true.1 g,?_⟩
 rw[T4]at e;rw[e,d.2.2]
theorem ValR.to{f:Int}{ls:List Lt}(h:ValR f ls):W7 f ls=0:=by
 have g:((f.toNat:Nat):Int)=f:=by have:=h.lo; omega
 obtain⟨i,j,e⟩:=Zqr (F:=f.toNat) (ls:=ls) (by rw[g]; exact List.all_eq_true.2 h.okr)
 have a:=h.len;have b:=h.vis;have c:=h.lo;have d:=h.hi;unfold W7;rw[if_neg (by omega),if_neg (by omega),if_pos]
 refine .inr ⟨i,h.fst,h.evn,j,e,?_⟩;rw[T4,e.2.2];exact h.cyc
theorem ValR.ranks{f:Int}{ls:List Lt}(b:0≤f)(h:∀ l,l∈ls→okR f ls l=true):Zjv ls∧Zf1 ls∧CrOk ls:=by
 have a:((f.toNat:Nat):Int)=f:=by omega
 obtain⟨c,d,e⟩:=Zqr (F:=f.toNat) (ls:=ls) (by rw[a]; exact List.all_eq_true.2 h)
 obtain⟨g,i⟩:=Zky (Zhu c) d;exact⟨g,i,e⟩
theorem Zd1{ls:List Lt}(c:Zf1 ls)(e:Zjv ls){v:Nat}(b:v<ls.length)(d:(at' ls v).k=1):V1 v (Z1 ls)=pos ls (at' ls v):=by
 have a:isP (at' ls v)=true:=by simp[isP,d]
 exact Zkg (Zfy ls) (Zbh (mem_axis.2 ⟨b,a⟩)).1 (Zpp c e b a)
theorem ValR.wv{f:Int}{ls:List Lt}(h:ValR f ls)(p:ls≠[]):Wv ls:=by
 obtain⟨_,_,d⟩:=ValR.ranks h.lo h.okr;have a:0<ls.length:=List.length_pos_iff.2 p;refine⟨?_,fun v c b=>(Ziv (h.okr _ (S1 c))).resolve_right b,fun v c b=>?_⟩
 ·rw[← T4];exact List.length_pos_of_mem (mem_axis.2 ⟨a,by simp[isP,h.fst]⟩)
 ·obtain⟨_,_,j,_,_,_,g,A,i,r,s,t,u,w⟩:=Zew d c (by simp[isX,b])
  obtain⟨_,_,e,_,_,_,k,l,m,n,y,z,_,o⟩:=Zew d g i;rw[w];have q:e=v:=(u e k m (by rw[n,r])).resolve_right l
  exact⟨g,by simpa[isX]using i,by rw[o,q],s,t⟩
theorem ValR.uniq{f:Int}{ls:List Lt}(h:ValR f ls){v x:Nat}(d:v<ls.length)(c:(at' ls v).k=2)(e:x<ls.length)(a:(at' ls x).k=2)(hi:(at' ls x).i=(at' ls v).i):x=v∨x=X9 ls v ls.length 0:=by
 obtain⟨_,_,b⟩:=ValR.ranks h.lo h.okr;obtain⟨_,_,j,_,_,_,m,n,o,p,q,r,g,l⟩:=Zew b d (by simp[isX,c])
 rw[l];exact g x e (by simp[isX,a]) hi
theorem ValR.same_i{f:Int}{ls:List Lt}(h:ValR f ls){v:Nat}(c:v<ls.length)(b:(at' ls v).k=2):X9 ls v ls.length 0≠v∧(at' ls (X9 ls v ls.length 0)).i=(at' ls v).i:=by
 obtain⟨_,_,a⟩:=ValR.ranks h.lo h.okr;obtain⟨_,_,j,_,_,_,l,d,m,e,n,o,p,g⟩:=Zew a c (by simp[isX,b])
 rw[g];exact⟨d,e⟩
end Go.Known
end
section
namespace Go.Known
open Go.Plain
def tuL(l:Lt):Lt:=if l.k=2 then { l with o:=!l.o } else l
def frm(ls:List Lt):Nat→Nat
 | 0=>0
 | k+1=>if isP (at' ls (ls.length - (k+1))) && !down ls (ls.length - (k+1))then ls.length - (k+1)else frm ls k
def W6(a:Nat)(ls:List Lt):List Lt:=ls.drop a++ls.take a
def tuN(ls:List Lt):List Lt:=W6 (frm ls ls.length) (ls.map tuL)
theorem G9(l:Lt):(tuL l).k=l.k:=by unfold tuL; split<;>rfl
theorem tu_g(l:Lt):(tuL l).g=l.g:=by unfold tuL; split<;>rfl
theorem tu_r(l:Lt):(tuL l).r=l.r:=by unfold tuL; split<;>rfl
theorem tu_i(l:Lt):(tuL l).i=l.i:=by unfold tuL; split<;>rfl
theorem tu_s(l:Lt):(tuL l).s=l.s:=by unfold tuL; split<;>rfl
theorem Zvr{l:Lt}(h:l.k=1):tuL l=l:=by unfold tuL; rw[if_neg (by omega)]
theorem Ze3{l:Lt}(h:l.k=2):tuL l={ l with o:=!l.o }:=by unfold tuL; rw[if_pos h]
theorem Zjz(l:Lt):isP (tuL l)=isP l:=by unfold isP; rw[G9]
theorem Zg3(l:Lt):isX (tuL l)=isX l:=by unfold isX; rw[G9]
theorem Zwn(a:Nat)(ls:List Lt):(W6 a ls).length=ls.length:=by simp[W6]; omega
theorem Zdv(p:Lt→Bool)(a:Nat)(ls:List Lt):Z3 p (W6 a ls)=Z3 p ls:=by
 unfold W6;rw[Zg7,Nat.add_comm,← Zg7,List.take_append_drop]
theorem Zva{n x:Nat}(h:x<2*n):x % n=if x<n then x else x - n:=by
 split
 ·exact Nat.mod_eq_of_lt ‹_›
 ·rw[Nat.mod_eq_sub_mod (by omega),Nat.mod_eq_of_lt (by omega)]
def rho(n a v:Nat):Nat:=(v+n - a) % n
def sgm(n a v:Nat):Nat:=(v+a) % n
theorem Zgh{n a v:Nat}(b:a<n)(c:v<n):rho n a v=if v<a then v+n - a else v - a:=by
 unfold rho;rw[Zva (by omega)]
 split<;>split<;>omega
theorem Zx2{n a v:Nat}(b:a<n)(c:v<n):sgm n a v=if v+a<n then v+a else v+a - n:=by
 unfold sgm;rw[Zva (by omega)]
theorem Zov{ls:List Lt}{a v:Nat}(b:a<ls.length)(c:v<ls.length):at' (W6 a ls) (rho ls.length a v)=at' ls v:=by
 rw[Zgh b c];unfold at' W6;rw[List.getD,List.getD]
 congr 1
 split
 ·rw[List.getElem?_append_right (by simp; omega),List.length_drop,List.getElem?_take,if_pos (by omega)]
  congr 1; omega
 ·rw[List.getElem?_append_left (by simp; omega),List.getElem?_drop]
  congr 1; omega
theorem Zer(ls:List Lt):Z0 (ls.map tuL)=Z0 ls:=by
 unfold Z0;rw[Zh2];exact R3 fun l _=>Zjz l
theorem Zk4{ls:List Lt}{a v:Nat}(c:a<ls.length)(d:v<ls.length):Z0 ((W6 a ls).take (rho ls.length a v))+Z0 (ls.take a)=Z0 (ls.take v)+if v<a then Z0 ls else 0:=by
 have b:∀ x y:List Lt,Z0 (x++y)=Z0 x+Z0 y:=fun x y=>Zg7 _ x y
 rw[Zgh c d];unfold W6;split
 ·have e:v+ls.length - a=(ls.drop a).length+v:=by simp; omega
  rw[e,List.take_length_add_append,b,List.take_take,Nat.min_eq_left (by omega)]
  have:=b (ls.take a) (ls.drop a);rw[List.take_append_drop]at this;omega
 ·rw[List.take_append_of_le_length (by simp; omega)]
  have:ls.take v=ls.take a++(ls.drop a).take (v - a):=by
   rw[← List.take_add,show a+(v - a)=v by omega]
  rw[this,b];omega
theorem Zip{ls:List Lt}:∀ k,k≤ls.length→(∃ i,ls.length - k≤i∧i<ls.length∧isP (at' ls i)=true∧down ls i=false)→frm ls k<ls.length∧isP (at' ls (frm ls k))=true∧down ls (frm ls k)=false
 | 0,_,⟨i,e,a,_⟩=>by omega
 | k+1,f,⟨i,e,a,b,c⟩=>by
  simp only[frm];split
  ·rename_i h;simp only[bA,Bool.not_eq_true']at h;exact⟨by omega,h.1,h.2⟩
  ·rename_i h;refine Zip k (by omega) ⟨i,?_,a,b,c⟩
   rcases Nat.lt_or_ge i (ls.length - k)with d|d
   ·have:i=ls.length - (k+1):=by omega
    subst this;rw[b,c]at h;exact absurd rfl h
   ·exact d
theorem Zf9{ls:List Lt}{i:Nat}(hi:i<ls.length):Z0 (ls.take (i+1))=Z0 (ls.take i)+if isP (at' ls i)then 1 else 0:=by
 have e:ls.take (i+1)=ls.take i++[at' ls i]:=by
  rw[List.take_add_one,gE hi,at',List.getD,gE hi];rfl
 unfold Z0;rw[e,Zg7,Zis];rfl
theorem Zif{ls:List Lt}(e:0<Z0 ls)(f:Z0 ls % 2=0):∃ i,i<ls.length∧isP (at' ls i)=true∧down ls i=false:=by
 refine Classical.byContradiction fun c=>?_
 have:∀ i,i≤ls.length→Z0 (ls.take i)≤1:=by
  intro i
  induction i with
  | zero=>intro _; simp[Z0,Z3]
  | succ i d=>
   intro hi;have b:=Zf9 (ls:=ls) (i:=i) (by omega)
   have:=d (by omega)
   by_cases h:isP (at' ls i)=true
   ·rw[if_pos h]at b;have a:down ls i=true:=by
     cases a:down ls i with
     | true=>rfl
     | false=>exact absurd ⟨i,by omega,h,a⟩ c
    unfold down at a;simp only[beq_iff_eq]at a;omega
   ·rw[if_neg h]at b;omega
 have:=this ls.length (Nat.le_refl _);rw[List.take_length]at this;omega
section
variable {f:Int} {ls:List Lt}
theorem Zfr(p:Lt→Bool):Z3 p (tuN ls)=Z3 (fun l=>p (tuL l)) ls:=by
 unfold tuN;rw[Zdv,Zh2]
theorem Z7l{l:Lt}(h:okR f ls l=true):okR f (tuN ls) (tuL l)=true:=by
 have u:Y9 (tuN ls)=Y9 ls:=by unfold Y9; rw[Zfr]; exact R3 fun l _=>Zg3 l
 rcases Ziv h with j|j
 ·obtain⟨a,b,c,d,e,m,n,t⟩:=(A7 j).1 h;rw[Zvr j,A7 j];refine⟨a,b,c,d,e,m,?_,?_⟩
  ·unfold inG;rw[Zfr,R3 (q:=fun o=>isP o&&o.g == l.g) fun o _=>by rw[Zjz,tu_g]]
   exact n
  ·unfold same;rw[Zfr,R3 (q:=fun o=>o.k == l.k&&o.g == l.g&&o.r == l.r) fun o _=>by rw[G9,tu_g,tu_r]]
   exact t
 ·obtain⟨a,b,c,d,e,m,n⟩:=(Za6 j).1 h;rw[Ze3 j];refine(Za6 (show ({ l with o:=!l.o }:Lt).k=2 from j)).2 ⟨a,b,c,d,by rw[u]; exact e,?_,?_⟩
  ·unfold Zdh;rw[Zfr,R3 (q:=fun o=>o.k == l.k&&o.i == l.i&&o.s == l.s&&o.o != l.o) fun o _=>by
    rw[G9,tu_i,tu_s];by_cases p:o.k=2
    ·rw[Ze3 p];simp only
     congr 1
     cases o.o<;>cases l.o<;>rfl
    ·have:(o.k == l.k)=false:=by rw[j]; simpa using p
     simp[this]]
   exact m
  ·unfold K1;rw[Zfr,R3 (q:=fun o=>isX o&&o.i == l.i) fun o _=>by rw[Zg3,tu_i]]
   exact n
theorem G4:(tuN ls).length=ls.length:=by unfold tuN; rw[Zwn,List.length_map]
theorem Zfg:Z0 (tuN ls)=Z0 ls:=by unfold Z0; rw[Zfr]; exact R3 fun l _=>Zjz l
theorem Zy6:Y9 (tuN ls)=Y9 ls:=by unfold Y9; rw[Zfr]; exact R3 fun l _=>Zg3 l
theorem Z1x{v:Nat}(c:frm ls ls.length<ls.length)(b:v<ls.length):at' (tuN ls) (rho ls.length (frm ls ls.length) v)=tuL (at' ls v):=by
 unfold tuN;have:=Zov (ls:=ls.map tuL) (a:=frm ls ls.length) (v:=v) (by simpa using c) (by simpa using b)
 rw[List.length_map]at this;rw[this];exact Z5e _ b
theorem Zv3(l:Lt):pos (tuN ls) (tuL l)=pos ls l:=by
 unfold pos;rw[Zfr,tu_g,tu_r]
 congr 1
 exact R3 fun o _=>by rw[Zjz,tu_g]
theorem ValR.turn(h:ValR f ls)(M:ls≠[]):ValR f (tuN ls)∧patP (Zhg (tuN ls))=patP (Zhg ls):=by
 have r:0<ls.length:=List.length_pos_iff.2 M;have D:∀ l,l∈tuN ls→okR f (tuN ls) l=true:=fun l hm=>by
  have hm:l∈ls.map tuL:=by
   unfold tuN W6 at hm;rcases List.mem_append.1 hm with t|t
   ·exact List.mem_of_mem_drop t
   ·exact List.mem_of_mem_take t
  obtain⟨l0,t,rfl⟩:=List.mem_map.1 hm;exact Z7l (h.okr _ t)
 obtain⟨Z,r2,r3⟩:=ValR.ranks h.lo h.okr;obtain⟨X,Y,q3⟩:=ValR.ranks h.lo D;have y:=h.wv M;obtain⟨i,S,U,V⟩:=Zif y.pas h.evn;obtain⟨w,G,z⟩:=Zip ls.length (Nat.le_refl _) ⟨i,by omega,S,U,V⟩
 have c:=fun v b=>Z1x (v:=v) w b
 have H:∀ v,v<ls.length→down (tuN ls) (rho ls.length (frm ls ls.length) v) = !down ls v:=fun v b=>by
  have t:=Zk4 (ls:=ls.map tuL) (a:=frm ls ls.length) (v:=v) (by simpa using w) (by simpa using b)
  rw[List.length_map,← List.map_take,← List.map_take,Zer,Zer,Zer]at t;have h2:Z0 (ls.take (frm ls ls.length)) % 2=1:=by
   unfold down at z;simp only[beq_eq_false_iff_ne,ne_eq]at z;omega
  have h3:=h.evn;unfold down tuN;generalize Z0 ((W6 (frm ls ls.length) (ls.map tuL)).take (rho ls.length (frm ls ls.length) v))=A at *;generalize Z0 (ls.take v)=B at *;rw[Bool.eq_iff_iff];simp;split at t<;>omega
 have g:=fun v b=>Zgh (n:=ls.length) (a:=frm ls ls.length) (v:=v) w b
 have u:=fun v b=>Zx2 (n:=ls.length) (a:=frm ls ls.length) (v:=v) w b
 have q:∀ v,v<ls.length→rho ls.length (frm ls ls.length) v<ls.length:=fun v b=>Nat.mod_lt _ r
 have d:∀ v,v<ls.length→sgm ls.length (frm ls ls.length) v<ls.length:=fun v b=>Nat.mod_lt _ r
 have p:∀ v,v<ls.length→sgm ls.length (frm ls ls.length) (rho ls.length (frm ls ls.length) v)=v:=fun v b=>by
  rw[u _ (q v b),g v b];split<;>split<;>omega
 have m:∀ v,v<ls.length→rho ls.length (frm ls ls.length) (sgm ls.length (frm ls ls.length) v)=v:=fun v b=>by
  rw[g _ (d v b),u v b];split<;>split<;>omega
 have C:Img ls (tuN ls) (rho ls.length (frm ls ls.length)) (sgm ls.length (frm ls ls.length)) true:=by
  refine⟨y,G4,Zfg,q,d,p,m,fun v b=>?_,fun v b=>by rw[c v b,G9],fun v b j=>?_,fun v b j=>?_,fun v b j=>?_,fun v b j=>?_⟩
  ·have hm:=Nat.mod_lt (v+ls.length - 1) r;rw[g _ hm,Zce b,Zce (q v b),g v b];split<;>split<;>split<;>(try split)<;>omega
  ·obtain⟨w1,w2,w3,w4,w5⟩:=y.oth v b j;obtain⟨n1,n2⟩:=h.same_i b j;have J:rho ls.length (frm ls ls.length) (X9 ls v ls.length 0)≠rho ls.length (frm ls ls.length) v:=fun e=>by
    have:=p _ w1;rw[e,p v b]at this;exact n1 this.symm
   refine Zoc ?_ ?_ ls.length 0 (Nat.zero_le _) (by have:=q _ w1; omega) (by rw[G4]; omega)
   ·rw[c _ w1,c v b,Zg3,tu_i,tu_i,n2];simp[J,isX,w2]
   ·intro x F K;rw[G4]at K;have E:=d x K;have ex:=m x K;rw[← ex]at F ⊢;rw[c _ E,c v b,Zg3,tu_i,tu_i]at F;simp only[bA,bne_iff_ne,ne_eq,beq_iff_eq,isX]at F;obtain⟨⟨L,N⟩,O⟩:=F;rcases h.uniq b j E N O with e|e
    ·rw[e]at L; exact absurd rfl L
    ·rw[e]
  ·rw[c v b,Ze3 j];simp only;cases (at' ls v).o<;>cases ((at' ls v).s == 1)<;>rfl
  ·rw[H v b];cases down ls v<;>rfl
  ·rw[if_pos rfl,Zd1 r2 Z b j,Zd1 Y X (by rw[G4]; exact q v b) (by rw[c v b,G9]; exact j),c v b,Zv3]
 have I:∀ v,v<(tuN ls).length→(at' (tuN ls) v).k≠2→(at' (tuN ls) v).k=1:=fun v b j=>by
  rw[G4]at b;rw[← m v b,c _ (d v b),G9]at j ⊢;exact y.kin _ (d v b) j
 obtain⟨P,Q⟩:=Z6o y.pas y.kin I G4 Zfg (Z9t C);refine⟨⟨by rw[G4]; exact h.len,by rw[Zy6]; exact h.vis,h.lo,h.hi,?_,by rw[Zfg]; exact h.evn,D,?_⟩,P⟩
 ·have e:rho ls.length (frm ls ls.length) (frm ls ls.length)=0:=by rw[g _ w,if_neg (by omega)]; omega
  have:=c _ w;rw[e]at this;rw[this,G9];simpa[isP]using G
 ·rw[G4,Zfg,Zy6,Q];exact h.cyc
end
end Go.Known
end
