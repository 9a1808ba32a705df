/- Part 30 of the proof: Po, Pq. -/
import Derived.Test.YtipeejpafgnjdaaGreatDoorH27
import Derived.Test.YtipeejpafgnjdaaGreatDoorH28
import Derived.Test.YtipeejpafgnjdaaGreatDoorH29
set_option linter.all false
section
namespace Go.Known
open Go.Plain
theorem E6(p:Lt→Bool)(f:Lt→Lt)(ls:List Lt):Z4 p (ls.map f)=Z4 (fun l=>p (f l)) ls:=by
 unfold Z4;rw[List.filter_map,List.length_map];rfl
theorem Zep(f:Lt→Lt){ls:List Lt}{v:Nat}(hv:v<ls.length):at' (ls.map f) v=f (at' ls v):=by
 unfold at';rw[List.getD,List.getD,List.getElem?_map,gE hv];rfl
theorem Zec{f:Int}{ls:List Lt}{l:Lt}(hk:l.k=1):okR f ls l=true↔l.i=0∧l.s=0∧l.o=false∧0≤l.g∧l.g≤f∧1≤l.r∧l.r≤inG l.g ls∧same l ls=1:=by
 unfold okR;rw[if_pos hk];simp[and_assoc]
theorem Zai{f:Int}{ls:List Lt}{l:Lt}(hk:l.k=2):okR f ls l=true↔l.g=0∧l.r=0∧(l.s=1∨l.s = -1)∧1≤l.i∧l.i≤(Y7 ls / 2:Nat)∧Zba l ls=1∧M9 l.i ls=2:=by
 unfold okR;rw[if_neg (by omega),if_pos hk]
 simp[and_assoc]
theorem Zhd{f:Int}{ls:List Lt}{l:Lt}(h:okR f ls l=true):l.k=1∨l.k=2:=by
 unfold okR at h;split at h
 ·exact .inl ‹_›
 ·split at h
  ·exact .inr ‹_›
  ·cases h
structure ValR (f:Int) (ls:List Lt):Prop where
 len:ls.length≤400
 vis:Y7 ls≤200
 lo:0≤f
 hi:f≤40
 fst:(at' ls 0).k=1
 evn:Z1 ls % 2=0
 okr:∀ l,l∈ls→okR f ls l=true
 cyc:I0 (Y3 ls (Z2 ls)) (2*ls.length+2*Z1 ls)=Z1 ls+Y7 ls / 2+2
theorem Zaz{f:Int}{ls:List Lt}(he:W4 f ls=0)(h0:ls≠[]):ValR f ls:=by
 obtain⟨hf0,hf1,h1,h2,h3,h4,h5,h6⟩:=Zvl he h0;have hF:((f.toNat:Nat):Int)=f:=by omega
 have h7:¬(400<ls.length∨200<Y7 ls):=fun h=>by
  unfold W4 at he;rw[if_pos h]at he;cases he
 have hb:=Zwi h1 h4 h5;rw[hF]at hb;refine⟨by omega,by omega,hf0,hf1,h2,h3,List.all_eq_true.1 hb,?_⟩
 rw[O6]at h6;rw[h6,h5.2.2]
theorem ValR.to{f:Int}{ls:List Lt}(h:ValR f ls):W4 f ls=0:=by
 have hF:((f.toNat:Nat):Int)=f:=by have:=h.lo; omega
 obtain⟨q1,q2,q3⟩:=Zqv (F:=f.toNat) (ls:=ls) (by rw[hF]; exact List.all_eq_true.2 h.okr)
 have a:=h.len;have b:=h.vis;have c:=h.lo;have d:=h.hi;unfold W4;rw[if_neg (by omega),if_neg (by omega),if_pos]
 refine .inr ⟨q1,h.fst,h.evn,q2,q3,?_⟩;rw[O6,q3.2.2];exact h.cyc
theorem ValR.ranks{f:Int}{ls:List Lt}(hlo:0≤f)(h:∀ l,l∈ls→okR f ls l=true):Zjc ls∧Zft ls∧CrOk ls:=by
 have hF:((f.toNat:Nat):Int)=f:=by omega
 obtain⟨q1,q2,q3⟩:=Zqv (F:=f.toNat) (ls:=ls) (by rw[hF]; exact List.all_eq_true.2 h)
 obtain⟨r1,r2⟩:=Zl4 (Zgn q1) q2;exact⟨r1,r2,q3⟩
theorem Zky{ls:List Lt}(ha:Zft ls)(hr:Zjc ls){v:Nat}(hv:v<ls.length)(hk:(at' ls v).k=1):U1 v (Z2 ls)=pos ls (at' ls v):=by
 have hp:isP (at' ls v)=true:=by simp[isP,hk]
 exact Zjk (Zga ls) (Zax (mem_axis.2 ⟨hv,hp⟩)).1 (Zq7 ha hr hv hp)
theorem ValR.wv{f:Int}{ls:List Lt}(h:ValR f ls)(h0:ls≠[]):Wv ls:=by
 obtain⟨_,_,hc⟩:=ValR.ranks h.lo h.okr;have hpos:0<ls.length:=List.length_pos_iff.2 h0;refine⟨?_,fun v hv hk=>(Zhd (h.okr _ (R9 hv))).resolve_right hk,fun v hv hk=>?_⟩
 ·rw[← O6];exact List.length_pos_of_mem (mem_axis.2 ⟨hpos,by simp[isP,h.fst]⟩)
 ·obtain⟨_,_,j,_,_,_,j1,j2,j3,j4,j5,j6,j7,j8⟩:=Zd9 hc hv (by simp[isX,hk])
  obtain⟨_,_,j',_,_,_,g1,g2,g3,g4,g5,g6,_,g8⟩:=Zd9 hc j1 j3;rw[j8];have hj:j'=v:=(j7 j' g1 g3 (by rw[g4,j4])).resolve_right g2
  exact⟨j1,by simpa[isX]using j3,by rw[g8,hj],j5,j6⟩
theorem ValR.uniq{f:Int}{ls:List Lt}(h:ValR f ls){v x:Nat}(hv:v<ls.length)(hk:(at' ls v).k=2)(hx:x<ls.length)(hxk:(at' ls x).k=2)(hi:(at' ls x).i=(at' ls v).i):x=v∨x=W1 ls v ls.length 0:=by
 obtain⟨_,_,hc⟩:=ValR.ranks h.lo h.okr;obtain⟨_,_,j,_,_,_,j1,j2,j3,j4,j5,j6,j7,j8⟩:=Zd9 hc hv (by simp[isX,hk])
 rw[j8];exact j7 x hx (by simp[isX,hxk]) hi
theorem ValR.same_i{f:Int}{ls:List Lt}(h:ValR f ls){v:Nat}(hv:v<ls.length)(hk:(at' ls v).k=2):W1 ls v ls.length 0≠v∧(at' ls (W1 ls v ls.length 0)).i=(at' ls v).i:=by
 obtain⟨_,_,hc⟩:=ValR.ranks h.lo h.okr;obtain⟨_,_,j,_,_,_,j1,j2,j3,j4,j5,j6,j7,j8⟩:=Zd9 hc hv (by simp[isX,hk])
 rw[j8];exact⟨j2,j4⟩
def swL(l:Lt):Lt:=if l.k=2 then { l with o:=!l.o,s:=-l.s } else l
def swN(ls:List Lt):List Lt:=ls.map swL
theorem sw_k(l:Lt):(swL l).k=l.k:=by unfold swL; split<;>rfl
theorem sw_g(l:Lt):(swL l).g=l.g:=by unfold swL; split<;>rfl
theorem sw_r(l:Lt):(swL l).r=l.r:=by unfold swL; split<;>rfl
theorem sw_i(l:Lt):(swL l).i=l.i:=by unfold swL; split<;>rfl
theorem Yd2{l:Lt}(h:l.k=1):swL l=l:=by unfold swL; rw[if_neg (by omega)]
theorem Zgg{l:Lt}(h:l.k=2):swL l={ l with o:=!l.o,s:=-l.s }:=by unfold swL; rw[if_pos h]
theorem Zjs(l:Lt):isP (swL l)=isP l:=by unfold isP; rw[sw_k]
theorem Zhz(l:Lt):isX (swL l)=isX l:=by unfold isX; rw[sw_k]
theorem Z1m{f:Int}{ls:List Lt}{l:Lt}(h:okR f ls l=true):okR f (swN ls) (swL l)=true:=by
 have hv:Y7 (swN ls)=Y7 ls:=by unfold Y7 swN; rw[E6]; exact T0 fun l _=>Zhz l
 rcases Zhd h with hk|hk
 ·obtain⟨a,b,c,d,e,e1,e2,e3⟩:=(Zec hk).1 h;rw[Yd2 hk,Zec hk];refine⟨a,b,c,d,e,e1,?_,?_⟩
  ·unfold inG swN;rw[E6,T0 (q:=fun o=>isP o&&o.g == l.g) fun o _=>by rw[Zjs,sw_g]]
   exact e2
  ·unfold same swN;rw[E6,T0 (q:=fun o=>o.k == l.k&&o.g == l.g&&o.r == l.r) fun o _=>by rw[sw_k,sw_g,sw_r]]
   exact e3
 ·obtain⟨a,b,c,d,e,e1,e2⟩:=(Zai hk).1 h;rw[Zgg hk];refine(Zai (show ({ l with o:=!l.o,s:=-l.s }:Lt).k=2 from hk)).2 ⟨a,b,by simp only; omega,d,by rw[hv]; exact e,?_,?_⟩
  ·unfold Zba swN;rw[E6,T0 (q:=fun o=>o.k == l.k&&o.i == l.i&&o.s == l.s&&o.o != l.o) fun o _=>by
    rw[sw_k,sw_i];by_cases ho:o.k=2
    ·rw[Zgg ho];simp only
     congr 1
     ·congr 1
      rw[Bool.eq_iff_iff]; simp
     ·cases o.o<;>cases l.o<;>rfl
    ·have:(o.k == l.k)=false:=by rw[hk]; simpa using ho
     simp[this]]
   exact e1
  ·unfold M9 swN;rw[E6,T0 (q:=fun o=>isX o&&o.i == l.i) fun o _=>by rw[Zhz,sw_i]]
   exact e2
theorem Zuv{ls ls':List Lt}{v v':Nat}(h:∀ j,j<ls.length→isX (at' ls' j)=isX (at' ls j)∧(at' ls' j).i=(at' ls j).i)(hv:v<ls.length):∀ k s,s+k≤ls.length→W1 ls' v k s=W1 ls v k s
 | 0,_,_=>rfl
 | k+1,s,hs=>by
  simp only[W1];rw[(h s (by omega)).1,(h s (by omega)).2,(h v hv).2,Zuv (v':=v') h hv k (s+1) (by omega)]
theorem Zwg{ls ls':List Lt}{f:Lt→Lt}(he:ls'=ls.map f)(hp:∀ l,isP (f l)=isP l)(v:Nat):down ls' v=down ls v:=by
 unfold down Z1;rw[he,← List.map_take,E6];simp only[hp]
theorem Zu8{ls:List Lt}{f:Lt→Lt}(hp:∀ l,isP (f l)=isP l)(hg:∀ l,(f l).g=l.g)(hr:∀ l,(f l).r=l.r):∀ k,k≤ls.length→P0 (ls.map f) k=P0 ls k
 | 0,_=>rfl
 | k+1,hk=>by
  have hins:∀ l:List Nat,(∀ x,x∈l→x<ls.length)→ins (ls.map f) k l=ins ls k l:=by
   intro l
   induction l with
   | nil=>intro _; rfl
   | cons a l ih=>
    intro hl;simp only[ins];rw[Zep f (hl a (List.mem_cons_self ..)),Zep f (show k<ls.length by omega),ih fun x hx=>hl x (List.mem_cons_of_mem _ hx)]
    have e:U0 (f (at' ls a)) (f (at' ls k))=U0 (at' ls a) (at' ls k):=by unfold U0; rw[hg,hg,hr,hr]
    rw[e]
  simp only[P0];rw[Zep f (show k<ls.length by omega),hp,Zu8 hp hg hr k (by omega)]
  rw[hins];intro x hx;have:=(Zbc ls k).mem_iff.1 hx;have:=(List.mem_filter.1 this).1;simp at this;omega
theorem Zom(ls:List Lt):Z2 (swN ls)=Z2 ls:=by
 unfold Z2;rw[show (swN ls).length=ls.length by simp[swN]]
 exact Zu8 Zjs sw_g sw_r _ (Nat.le_refl _)
theorem Zry{f:Int}{ls:List Lt}(h:∀ l,l∈ls→okR f ls l=true)(hax:∀ p,(Z2 ls).getD p 0<ls.length){d:Nat}:Y3 (swN ls) (Z2 ls) d=Y3 ls (Z2 ls) d:=by
 have hl:(swN ls).length=ls.length:=by simp[swN]
 have hd:∀ v,down (swN ls) v=down ls v:=Zwg rfl Zjs
 unfold Y3;rw[hl];simp only[hd];split
 ·rfl
 ·rename_i hs;have hh:(if d % 2=0 then (d / 2+1) % ls.length else d / 2)<ls.length:=by
   split
   ·exact Nat.mod_lt _ (by omega)
   ·omega
  generalize (if d % 2=0 then (d / 2+1) % ls.length else d / 2)=v at *
  have ha:at' (swN ls) v=swL (at' ls v):=Zep _ hh;rw[ha,sw_k];split
  ·rename_i hk;have ho:W1 (swN ls) v ls.length 0=W1 ls v ls.length 0:=Zuv (v':=v) (fun j hj=>by
    have:at' (swN ls) j=swL (at' ls j):=Zep _ hj;rw[this,Zhz,sw_i]; exact⟨rfl,rfl⟩) hh _ _ (by omega)
   rw[ho,Zgg hk];simp only
   congr 1
   have hs1:=((Zai hk).1 (h _ (R9 hh))).2.2.1;rcases hs1 with e|e
   ·rw[e]; cases (at' ls v).o<;>rfl
   ·rw[e]; cases (at' ls v).o<;>rfl
  ·rfl
theorem Zxo{ls:List Lt}(h0:0<ls.length)(p:Nat):(Z2 ls).getD p 0<ls.length:=by
 rw[List.getD];cases e:(Z2 ls)[p]? with
 | none=>exact h0
 | some v=>exact (mem_axis.1 (List.mem_of_getElem? e)).1
theorem ValR.swap{f:Int}{ls:List Lt}(h:ValR f ls)(h0:ls≠[]):ValR f (swN ls)∧C7 (Zes (swN ls))=C7 (Zes ls):=by
 have hpos:0<ls.length:=List.length_pos_iff.2 h0;have hl:(swN ls).length=ls.length:=by simp[swN]
 have hv:Y7 (swN ls)=Y7 ls:=by unfold Y7 swN; rw[E6]; exact T0 fun l _=>Zhz l
 have hp:Z1 (swN ls)=Z1 ls:=by unfold Z1 swN; rw[E6]; exact T0 fun l _=>Zjs l
 have ht:=fun d=>Zry h.okr (Zxo hpos) (d:=d)
 have hT:Y3 (swN ls) (Z2 (swN ls))=Y3 ls (Z2 ls):=by rw[Zom]; exact funext ht
 refine⟨⟨by rw[hl]; exact h.len,by rw[hv]; exact h.vis,h.lo,h.hi,?_,by rw[hp]; exact h.evn,fun l hm=>?_,?_⟩,?_⟩
 ·have:at' (swN ls) 0=swL (at' ls 0):=Zep _ hpos;rw[this,sw_k]; exact h.fst
 ·obtain⟨l0,h1,rfl⟩:=List.mem_map.1 hm;exact Z1m (h.okr _ h1)
 ·rw[hT,hl,hp,hv]; exact h.cyc
 ·unfold Zes;rw[hT,hl];have:∀ w,w∈Za4 (Y3 ls (Z2 ls)) (2*ls.length)→I5 (swN ls) w=I5 ls w:=fun w hw=>by
   unfold I5 Zaj
   congr 2
   refine List.filter_congr fun d hd=>?_
   have hw:=(Z1w (by have:=h.len; omega) h.to h0).fc.2 w hw
   have:=Zah (hw.2.2 d hd);unfold isC;rw[hl,show at' (swN ls) (X3 ls.length d)=swL (at' ls (X3 ls.length d)) from Zep _ this,sw_k]
  rw[List.map_congr_left this]
end Go.Known
end
section
namespace Go.Known
open Go.Plain
def tuL(l:Lt):Lt:=if l.k=2 then { l with o:=!l.o } else l
def frm(ls:List Lt):Nat→Nat
 | 0=>0
 | k+1=>if isP (at' ls (ls.length - (k+1))) && !down ls (ls.length - (k+1))then ls.length - (k+1)else frm ls k
def V5(a:Nat)(ls:List Lt):List Lt:=ls.drop a++ls.take a
def tuN(ls:List Lt):List Lt:=V5 (frm ls ls.length) (ls.map tuL)
theorem tu_k(l:Lt):(tuL l).k=l.k:=by unfold tuL; split<;>rfl
theorem tu_g(l:Lt):(tuL l).g=l.g:=by unfold tuL; split<;>rfl
theorem tu_r(l:Lt):(tuL l).r=l.r:=by unfold tuL; split<;>rfl
theorem tu_i(l:Lt):(tuL l).i=l.i:=by unfold tuL; split<;>rfl
theorem tu_s(l:Lt):(tuL l).s=l.s:=by unfold tuL; split<;>rfl
theorem Zw5{l:Lt}(h:l.k=1):tuL l=l:=by unfold tuL; rw[if_neg (by omega)]
theorem Zcg{l:Lt}(h:l.k=2):tuL l={ l with o:=!l.o }:=by unfold tuL; rw[if_pos h]
theorem Zi2(l:Lt):isP (tuL l)=isP l:=by unfold isP; rw[tu_k]
theorem Zjh(l:Lt):isX (tuL l)=isX l:=by unfold isX; rw[tu_k]
theorem Zuf(a:Nat)(ls:List Lt):(V5 a ls).length=ls.length:=by simp[V5]; omega
theorem Zfq(p:Lt→Bool)(a:Nat)(ls:List Lt):Z4 p (V5 a ls)=Z4 p ls:=by
 unfold V5;rw[Zf8,Nat.add_comm,← Zf8,List.take_append_drop]
theorem Zup{n x:Nat}(h:x<2*n):x % n=if x<n then x else x - n:=by
 split
 ·exact Nat.mod_eq_of_lt ‹_›
 ·rw[Nat.mod_eq_sub_mod (by omega),Nat.mod_eq_of_lt (by omega)]
def rho(n a v:Nat):Nat:=(v+n - a) % n
def sgm(n a v:Nat):Nat:=(v+a) % n
theorem Zg9{n a v:Nat}(ha:a<n)(hv:v<n):rho n a v=if v<a then v+n - a else v - a:=by
 unfold rho;rw[Zup (by omega)]
 split<;>split<;>omega
theorem Ydh{n a v:Nat}(ha:a<n)(hv:v<n):sgm n a v=if v+a<n then v+a else v+a - n:=by
 unfold sgm;rw[Zup (by omega)]
theorem Zqp{ls:List Lt}{a v:Nat}(ha:a<ls.length)(hv:v<ls.length):at' (V5 a ls) (rho ls.length a v)=at' ls v:=by
 rw[Zg9 ha hv];unfold at' V5;rw[List.getD,List.getD]
 congr 1
 split
 ·rw[List.getElem?_append_right (by simp; omega),List.length_drop,List.getElem?_take,if_pos (by omega)]
  congr 1; omega
 ·rw[List.getElem?_append_left (by simp; omega),List.getElem?_drop]
  congr 1; omega
theorem Zg2(ls:List Lt):Z1 (ls.map tuL)=Z1 ls:=by
 unfold Z1;rw[E6];exact T0 fun l _=>Zi2 l
theorem Zpr{ls:List Lt}{a v:Nat}(ha:a<ls.length)(hv:v<ls.length):Z1 ((V5 a ls).take (rho ls.length a v))+Z1 (ls.take a)=Z1 (ls.take v)+if v<a then Z1 ls else 0:=by
 have hc:∀ x y:List Lt,Z1 (x++y)=Z1 x+Z1 y:=fun x y=>Zf8 _ x y
 rw[Zg9 ha hv];unfold V5;split
 ·have e:v+ls.length - a=(ls.drop a).length+v:=by simp; omega
  rw[e,List.take_length_add_append,hc,List.take_take,Nat.min_eq_left (by omega)]
  have:=hc (ls.take a) (ls.drop a);rw[List.take_append_drop]at this;omega
 ·rw[List.take_append_of_le_length (by simp; omega)]
  have:ls.take v=ls.take a++(ls.drop a).take (v - a):=by
   rw[← List.take_add,show a+(v - a)=v by omega]
  rw[this,hc];omega
theorem Zlx{ls:List Lt}:∀ k,k≤ls.length→(∃ i,ls.length - k≤i∧i<ls.length∧isP (at' ls i)=true∧down ls i=false)→frm ls k<ls.length∧isP (at' ls (frm ls k))=true∧down ls (frm ls k)=false
 | 0,_,⟨i,h1,h2,_⟩=>by omega
 | k+1,hk,⟨i,h1,h2,h3,h4⟩=>by
  simp only[frm];split
  ·rename_i h;simp only[bA,Bool.not_eq_true']at h;exact⟨by omega,h.1,h.2⟩
  ·rename_i h;refine Zlx k (by omega) ⟨i,?_,h2,h3,h4⟩
   rcases Nat.lt_or_ge i (ls.length - k)with h5|h5
   ·have:i=ls.length - (k+1):=by omega
    subst this;rw[h3,h4]at h;exact absurd rfl h
   ·exact h5
theorem Ztb{ls:List Lt}{i:Nat}(hi:i<ls.length):Z1 (ls.take (i+1))=Z1 (ls.take i)+if isP (at' ls i)then 1 else 0:=by
 have e:ls.take (i+1)=ls.take i++[at' ls i]:=by
  rw[List.take_add_one,gE hi,at',List.getD,gE hi];rfl
 unfold Z1;rw[e,Zf8,Zia];rfl
theorem Zk6{ls:List Lt}(h0:0<Z1 ls)(h2:Z1 ls % 2=0):∃ i,i<ls.length∧isP (at' ls i)=true∧down ls i=false:=by
 refine Classical.byContradiction fun hn=>?_
 have:∀ i,i≤ls.length→Z1 (ls.take i)≤1:=by
  intro i
  induction i with
  | zero=>intro _; simp[Z1,Z4]
  | succ i ih=>
   intro hi;have hp:=Ztb (ls:=ls) (i:=i) (by omega)
   have:=ih (by omega)
   by_cases h:isP (at' ls i)=true
   ·rw[if_pos h]at hp;have hd:down ls i=true:=by
     cases hd:down ls i with
     | true=>rfl
     | false=>exact absurd ⟨i,by omega,h,hd⟩ hn
    unfold down at hd;simp only[beq_iff_eq]at hd;omega
   ·rw[if_neg h]at hp;omega
 have:=this ls.length (Nat.le_refl _);rw[List.take_length]at this;omega
section
variable {f:Int} {ls:List Lt}
theorem Zej(p:Lt→Bool):Z4 p (tuN ls)=Z4 (fun l=>p (tuL l)) ls:=by
 unfold tuN;rw[Zfq,E6]
theorem Z8q{l:Lt}(h:okR f ls l=true):okR f (tuN ls) (tuL l)=true:=by
 have hv:Y7 (tuN ls)=Y7 ls:=by unfold Y7; rw[Zej]; exact T0 fun l _=>Zjh l
 rcases Zhd h with hk|hk
 ·obtain⟨a,b,c,d,e,e1,e2,e3⟩:=(Zec hk).1 h;rw[Zw5 hk,Zec hk];refine⟨a,b,c,d,e,e1,?_,?_⟩
  ·unfold inG;rw[Zej,T0 (q:=fun o=>isP o&&o.g == l.g) fun o _=>by rw[Zi2,tu_g]]
   exact e2
  ·unfold same;rw[Zej,T0 (q:=fun o=>o.k == l.k&&o.g == l.g&&o.r == l.r) fun o _=>by rw[tu_k,tu_g,tu_r]]
   exact e3
 ·obtain⟨a,b,c,d,e,e1,e2⟩:=(Zai hk).1 h;rw[Zcg hk];refine(Zai (show ({ l with o:=!l.o }:Lt).k=2 from hk)).2 ⟨a,b,c,d,by rw[hv]; exact e,?_,?_⟩
  ·unfold Zba;rw[Zej,T0 (q:=fun o=>o.k == l.k&&o.i == l.i&&o.s == l.s&&o.o != l.o) fun o _=>by
    rw[tu_k,tu_i,tu_s];by_cases ho:o.k=2
    ·rw[Zcg ho];simp only
     congr 1
     cases o.o<;>cases l.o<;>rfl
    ·have:(o.k == l.k)=false:=by rw[hk]; simpa using ho
     simp[this]]
   exact e1
  ·unfold M9;rw[Zej,T0 (q:=fun o=>isX o&&o.i == l.i) fun o _=>by rw[Zjh,tu_i]]
   exact e2
theorem I2:(tuN ls).length=ls.length:=by unfold tuN; rw[Zuf,List.length_map]
theorem Zmz:Z1 (tuN ls)=Z1 ls:=by unfold Z1; rw[Zej]; exact T0 fun l _=>Zi2 l
theorem Zy7:Y7 (tuN ls)=Y7 ls:=by unfold Y7; rw[Zej]; exact T0 fun l _=>Zjh l
theorem Z5u{v:Nat}(ha:frm ls ls.length<ls.length)(hv:v<ls.length):at' (tuN ls) (rho ls.length (frm ls ls.length) v)=tuL (at' ls v):=by
 unfold tuN;have:=Zqp (ls:=ls.map tuL) (a:=frm ls ls.length) (v:=v) (by simpa using ha) (by simpa using hv)
 rw[List.length_map]at this;rw[this];exact Zep _ hv
theorem Z4a(l:Lt):pos (tuN ls) (tuL l)=pos ls l:=by
 unfold pos;rw[Zej,tu_g,tu_r]
 congr 1
 exact T0 fun o _=>by rw[Zi2,tu_g]
theorem ValR.turn(h:ValR f ls)(h0:ls≠[]):ValR f (tuN ls)∧C7 (Zes (tuN ls))=C7 (Zes ls):=by
 have hpos:0<ls.length:=List.length_pos_iff.2 h0;have hok:∀ l,l∈tuN ls→okR f (tuN ls) l=true:=fun l hm=>by
  have hm:l∈ls.map tuL:=by
   unfold tuN V5 at hm;rcases List.mem_append.1 hm with h1|h1
   ·exact List.mem_of_mem_drop h1
   ·exact List.mem_of_mem_take h1
  obtain⟨l0,h1,rfl⟩:=List.mem_map.1 hm;exact Z8q (h.okr _ h1)
 obtain⟨r1,r2,r3⟩:=ValR.ranks h.lo h.okr;obtain⟨q1,q2,q3⟩:=ValR.ranks h.lo hok;have hw:=h.wv h0;obtain⟨i,i1,i2,i3⟩:=Zk6 hw.pas h.evn;obtain⟨ha,hap,had⟩:=Zlx ls.length (Nat.le_refl _) ⟨i,by omega,i1,i2,i3⟩
 have hat:=fun v hv=>Z5u (v:=v) ha hv
 have hdn:∀ v,v<ls.length→down (tuN ls) (rho ls.length (frm ls ls.length) v) = !down ls v:=fun v hv=>by
  have h1:=Zpr (ls:=ls.map tuL) (a:=frm ls ls.length) (v:=v) (by simpa using ha) (by simpa using hv)
  rw[List.length_map,← List.map_take,← List.map_take,Zg2,Zg2,Zg2]at h1;have h2:Z1 (ls.take (frm ls ls.length)) % 2=1:=by
   unfold down at had;simp only[beq_eq_false_iff_ne,ne_eq]at had;omega
  have h3:=h.evn;unfold down tuN;generalize Z1 ((V5 (frm ls ls.length) (ls.map tuL)).take (rho ls.length (frm ls ls.length) v))=A at *;generalize Z1 (ls.take v)=B at *;rw[Bool.eq_iff_iff];simp;split at h1<;>omega
 have hrho:=fun v hv=>Zg9 (n:=ls.length) (a:=frm ls ls.length) (v:=v) ha hv
 have hsgm:=fun v hv=>Ydh (n:=ls.length) (a:=frm ls ls.length) (v:=v) ha hv
 have hlt:∀ v,v<ls.length→rho ls.length (frm ls ls.length) v<ls.length:=fun v hv=>Nat.mod_lt _ hpos
 have hltr:∀ v,v<ls.length→sgm ls.length (frm ls ls.length) v<ls.length:=fun v hv=>Nat.mod_lt _ hpos
 have hinv:∀ v,v<ls.length→sgm ls.length (frm ls ls.length) (rho ls.length (frm ls ls.length) v)=v:=fun v hv=>by
  rw[hsgm _ (hlt v hv),hrho v hv];split<;>split<;>omega
 have hinr:∀ v,v<ls.length→rho ls.length (frm ls ls.length) (sgm ls.length (frm ls ls.length) v)=v:=fun v hv=>by
  rw[hrho _ (hltr v hv),hsgm v hv];split<;>split<;>omega
 have himg:Img ls (tuN ls) (rho ls.length (frm ls ls.length)) (sgm ls.length (frm ls ls.length)) true:=by
  refine⟨hw,I2,Zmz,hlt,hltr,hinv,hinr,fun v hv=>?_,fun v hv=>by rw[hat v hv,tu_k],fun v hv hk=>?_,fun v hv hk=>?_,fun v hv hk=>?_,fun v hv hk=>?_⟩
  ·have hm:=Nat.mod_lt (v+ls.length - 1) hpos;rw[hrho _ hm,Ze7 hv,Ze7 (hlt v hv),hrho v hv];split<;>split<;>split<;>(try split)<;>omega
  ·obtain⟨w1,w2,w3,w4,w5⟩:=hw.oth v hv hk;obtain⟨n1,n2⟩:=h.same_i hv hk;have hne:rho ls.length (frm ls ls.length) (W1 ls v ls.length 0)≠rho ls.length (frm ls ls.length) v:=fun e=>by
    have:=hinv _ w1;rw[e,hinv v hv]at this;exact n1 this.symm
   refine Zrh ?_ ?_ ls.length 0 (Nat.zero_le _) (by have:=hlt _ w1; omega) (by rw[I2]; omega)
   ·rw[hat _ w1,hat v hv,Zjh,tu_i,tu_i,n2];simp[hne,isX,w2]
   ·intro x hc hx;rw[I2]at hx;have hx2:=hltr x hx;have ex:=hinr x hx;rw[← ex]at hc ⊢;rw[hat _ hx2,hat v hv,Zjh,tu_i,tu_i]at hc;simp only[bA,bne_iff_ne,ne_eq,beq_iff_eq,isX]at hc;obtain⟨⟨c1,c2⟩,c3⟩:=hc;rcases h.uniq hv hk hx2 c2 c3 with e|e
    ·rw[e]at c1; exact absurd rfl c1
    ·rw[e]
  ·rw[hat v hv,Zcg hk];simp only;cases (at' ls v).o<;>cases ((at' ls v).s == 1)<;>rfl
  ·rw[hdn v hv];cases down ls v<;>rfl
  ·rw[if_pos rfl,Zky r2 r1 hv hk,Zky q2 q1 (by rw[I2]; exact hlt v hv) (by rw[hat v hv,tu_k]; exact hk),hat v hv,Z4a]
 have hkk:∀ v,v<(tuN ls).length→(at' (tuN ls) v).k≠2→(at' (tuN ls) v).k=1:=fun v hv hk=>by
  rw[I2]at hv;rw[← hinr v hv,hat _ (hltr v hv),tu_k]at hk ⊢;exact hw.kin _ (hltr v hv) hk
 obtain⟨e1,e2⟩:=Z4p hw.pas hw.kin hkk I2 Zmz (Z6y himg);refine⟨⟨by rw[I2]; exact h.len,by rw[Zy7]; exact h.vis,h.lo,h.hi,?_,by rw[Zmz]; exact h.evn,hok,?_⟩,e1⟩
 ·have e:rho ls.length (frm ls ls.length) (frm ls ls.length)=0:=by rw[hrho _ ha,if_neg (by omega)]; omega
  have:=hat _ ha;rw[e]at this;rw[this,tu_k];simpa[isP]using hap
 ·rw[I2,Zmz,Zy7,e2];exact h.cyc
end
end Go.Known
end
