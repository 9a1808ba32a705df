/- Part 35 of the proof: Pq. -/
import Derived.Test.YtipeejpafgnjdaaGreatDoorG34
set_option linter.all false
namespace Go.Known
open Go.Plain
def tuL (l:Lt):Lt:=if l.k=2 then { l with o:=!l.o } else l
def frm (ls:List Lt):Nat→Nat
 | 0=>0
 | k+1=>if isP (at' ls (ls.length - (k+1))) && !down ls (ls.length - (k+1))then ls.length - (k+1)else frm ls k
def rotL (a:Nat) (ls:List Lt):List Lt:=ls.drop a++ls.take a
def tuN (ls:List Lt):List Lt:=rotL (frm ls ls.length) (ls.map tuL)
theorem tu_k (l:Lt):(tuL l).k=l.k:=by unfold tuL; split<;>rfl
theorem tu_g (l:Lt):(tuL l).g=l.g:=by unfold tuL; split<;>rfl
theorem tu_r (l:Lt):(tuL l).r=l.r:=by unfold tuL; split<;>rfl
theorem tu_i (l:Lt):(tuL l).i=l.i:=by unfold tuL; split<;>rfl
theorem tu_s (l:Lt):(tuL l).s=l.s:=by unfold tuL; split<;>rfl
theorem Zva {l:Lt} (h:l.k=1):tuL l=l:=by unfold tuL; rw[if_neg (by omega)]
theorem Zlx {l:Lt} (h:l.k=2):tuL l={ l with o:=!l.o }:=by unfold tuL; rw[if_pos h]
theorem Zte (l:Lt):isP (tuL l)=isP l:=by unfold isP; rw[tu_k]
theorem Zt5 (l:Lt):isX (tuL l)=isX l:=by unfold isX; rw[tu_k]
theorem Z76 (a:Nat) (ls:List Lt):(rotL a ls).length=ls.length:=by simp[rotL]; omega
theorem Z66 (p:Lt→Bool) (a:Nat) (ls:List Lt):cntP p (rotL a ls)=cntP p ls:=by
 unfold rotL
 rw[Zem,Nat.add_comm,← Zem,List.take_append_drop]
theorem Zz6 {n x:Nat} (h:x<2*n):x % n=if x<n then x else x - n:=by
 split
 ·exact Nat.mod_eq_of_lt ‹_›
 ·rw[Nat.mod_eq_sub_mod (by omega),Nat.mod_eq_of_lt (by omega)]
def rho (n a v:Nat):Nat:=(v+n - a) % n
def sgm (n a v:Nat):Nat:=(v+a) % n
theorem Zzt {n a v:Nat} (ha:a<n) (hv:v<n):rho n a v=if v<a then v+n - a else v - a:=by
 unfold rho
 rw[Zz6 (by omega)]
 split<;>split<;>omega
theorem sgm_eq {n a v:Nat} (ha:a<n) (hv:v<n):sgm n a v=if v+a<n then v+a else v+a - n:=by
 unfold sgm
 rw[Zz6 (by omega)]
theorem rot_at {ls:List Lt} {a v:Nat} (ha:a<ls.length) (hv:v<ls.length):at' (rotL a ls) (rho ls.length a v)=at' ls v:=by
 rw[Zzt ha hv]
 unfold at' rotL
 rw[List.getD,List.getD]
 congr 1
 split
 ·rw[List.getElem?_append_right (by simp; omega),List.length_drop,List.getElem?_take,if_pos (by omega)]
  congr 1; omega
 ·rw[List.getElem?_append_left (by simp; omega),List.getElem?_drop]
  congr 1; omega
theorem Zm2 (ls:List Lt):Zaa (ls.map tuL)=Zaa ls:=by
 unfold Zaa
 rw[Zws]
 exact Zbl fun l _=>Zte l
theorem Zyz {ls:List Lt} {a v:Nat} (ha:a<ls.length) (hv:v<ls.length):Zaa ((rotL a ls).take (rho ls.length a v))+Zaa (ls.take a)=Zaa (ls.take v)+if v<a then Zaa ls else 0:=by
 have hc:∀ x y:List Lt,Zaa (x++y)=Zaa x+Zaa y:=fun x y=>Zem _ x y
 rw[Zzt ha hv]
 unfold rotL
 split
 ·have e:v+ls.length - a=(ls.drop a).length+v:=by simp; omega
  rw[e,List.take_length_add_append,hc,List.take_take,Nat.min_eq_left (by omega)]
  have:=hc (ls.take a) (ls.drop a)
  rw[List.take_append_drop]at this
  omega
 ·rw[List.take_append_of_le_length (by simp; omega)]
  have:ls.take v=ls.take a++(ls.drop a).take (v - a):=by
   rw[← List.take_add,show a+(v - a)=v by omega]
  rw[this,hc]
  omega
theorem Znx {ls:List Lt}:∀ k,k≤ls.length→(∃ i,ls.length - k≤i∧i<ls.length∧isP (at' ls i)=true∧down ls i=false)→frm ls k<ls.length∧isP (at' ls (frm ls k))=true∧down ls (frm ls k)=false
 | 0,_,⟨i,h1,h2,_⟩=>by omega
 | k+1,hk,⟨i,h1,h2,h3,h4⟩=>by
  simp only[frm]
  split
  ·rename_i h
   simp only[Bool.and_eq_true,Bool.not_eq_true']at h
   exact⟨by omega,h.1,h.2⟩
  ·rename_i h
   refine Znx k (by omega) ⟨i,?_,h2,h3,h4⟩
   rcases Nat.lt_or_ge i (ls.length - k)with h5|h5
   ·have:i=ls.length - (k+1):=by omega
    subst this
    rw[h3,h4]at h
    exact absurd rfl h
   ·exact h5
theorem Zvm {ls:List Lt} {i:Nat} (hi:i<ls.length):Zaa (ls.take (i+1))=Zaa (ls.take i)+if isP (at' ls i)then 1 else 0:=by
 have e:ls.take (i+1)=ls.take i++[at' ls i]:=by
  rw[List.take_add_one,List.getElem?_eq_getElem hi,at',List.getD,List.getElem?_eq_getElem hi]
  rfl
 unfold Zaa
 rw[e,Zem,Zif]
 rfl
theorem Z8g {ls:List Lt} (h0:0<Zaa ls) (h2:Zaa ls % 2=0):∃ i,i<ls.length∧isP (at' ls i)=true∧down ls i=false:=by
 refine Classical.byContradiction fun hn=>?_
 have:∀ i,i≤ls.length→Zaa (ls.take i)≤1:=by
  intro i
  induction i with
  | zero=>intro _; simp[Zaa,cntP]
  | succ i ih=>
   intro hi
   have hp:=Zvm (ls:=ls) (i:=i) (by omega)
   have:=ih (by omega)
   by_cases h:isP (at' ls i)=true
   ·rw[if_pos h]at hp
    have hd:down ls i=true:=by
     cases hd:down ls i with
     | true=>rfl
     | false=>exact absurd ⟨i,by omega,h,hd⟩ hn
    unfold down at hd
    simp only[beq_iff_eq]at hd
    omega
   ·rw[if_neg h]at hp
    omega
 have:=this ls.length (Nat.le_refl _)
 rw[List.take_length]at this
 omega
section
variable {f:Int} {ls:List Lt}
theorem Znj (p:Lt→Bool):cntP p (tuN ls)=cntP (fun l=>p (tuL l)) ls:=by
 unfold tuN
 rw[Z66,Zws]
theorem tu_okR {l:Lt} (h:okR f ls l=true):okR f (tuN ls) (tuL l)=true:=by
 have hv:Zax (tuN ls)=Zax ls:=by unfold Zax; rw[Znj]; exact Zbl fun l _=>Zt5 l
 rcases Zn6 h with hk|hk
 ·obtain⟨a,b,c,d,e,e1,e2,e3⟩:=(Zl9 hk).1 h
  rw[Zva hk,Zl9 hk]
  refine⟨a,b,c,d,e,e1,?_,?_⟩
  ·unfold inG
   rw[Znj,Zbl (q:=fun o=>isP o&&o.g == l.g) fun o _=>by rw[Zte,tu_g]]
   exact e2
  ·unfold same
   rw[Znj,Zbl (q:=fun o=>o.k == l.k&&o.g == l.g&&o.r == l.r) fun o _=>by rw[tu_k,tu_g,tu_r]]
   exact e3
 ·obtain⟨a,b,c,d,e,e1,e2⟩:=(Zoz hk).1 h
  rw[Zlx hk]
  refine(Zoz (show ({ l with o:=!l.o }:Lt).k=2 from hk)).2 ⟨a,b,c,d,by rw[hv]; exact e,?_,?_⟩
  ·unfold Zsu
   rw[Znj,Zbl (q:=fun o=>o.k == l.k&&o.i == l.i&&o.s == l.s&&o.o != l.o) fun o _=>by
    rw[tu_k,tu_i,tu_s]
    by_cases ho:o.k=2
    ·rw[Zlx ho]
     simp only
     congr 1
     cases o.o<;>cases l.o<;>rfl
    ·have:(o.k == l.k)=false:=by rw[hk]; simpa using ho
     simp[this]]
   exact e1
  ·unfold Znl
   rw[Znj,Zbl (q:=fun o=>isX o&&o.i == l.i) fun o _=>by rw[Zt5,tu_i]]
   exact e2
theorem Zj1:(tuN ls).length=ls.length:=by unfold tuN; rw[Z76,List.length_map]
theorem Zlz:Zaa (tuN ls)=Zaa ls:=by unfold Zaa; rw[Znj]; exact Zbl fun l _=>Zte l
theorem Zuj:Zax (tuN ls)=Zax ls:=by unfold Zax; rw[Znj]; exact Zbl fun l _=>Zt5 l
theorem tu_at {v:Nat} (ha:frm ls ls.length<ls.length) (hv:v<ls.length):at' (tuN ls) (rho ls.length (frm ls ls.length) v)=tuL (at' ls v):=by
 unfold tuN
 have:=rot_at (ls:=ls.map tuL) (a:=frm ls ls.length) (v:=v) (by simpa using ha) (by simpa using hv)
 rw[List.length_map]at this
 rw[this]
 exact Z9g _ hv
theorem tu_pos (l:Lt):pos (tuN ls) (tuL l)=pos ls l:=by
 unfold pos
 rw[Znj,tu_g,tu_r]
 congr 1
 exact Zbl fun o _=>by rw[Zte,tu_g]
theorem ValR.turn (h:ValR f ls) (h0:ls≠[]):ValR f (tuN ls)∧patP (Zzg (tuN ls))=patP (Zzg ls):=by
 have hpos:0<ls.length:=List.length_pos_iff.2 h0
 have hok:∀ l,l∈tuN ls→okR f (tuN ls) l=true:=fun l hm=>by
  have hm:l∈ls.map tuL:=by
   unfold tuN rotL at hm
   rcases List.mem_append.1 hm with h1|h1
   ·exact List.mem_of_mem_drop h1
   ·exact List.mem_of_mem_take h1
  obtain⟨l0,h1,rfl⟩:=List.mem_map.1 hm
  exact tu_okR (h.okr _ h1)
 obtain⟨r1,r2,r3⟩:=ValR.ranks h.lo h.okr
 obtain⟨q1,q2,q3⟩:=ValR.ranks h.lo hok
 have hw:=h.wv h0
 obtain⟨i,i1,i2,i3⟩:=Z8g hw.pas h.evn
 obtain⟨ha,hap,had⟩:=Znx ls.length (Nat.le_refl _) ⟨i,by omega,i1,i2,i3⟩
 have hat:=fun v hv=>tu_at (v:=v) ha hv
 have hdn:∀ v,v<ls.length→down (tuN ls) (rho ls.length (frm ls ls.length) v) = !down ls v:=fun v hv=>by
  have h1:=Zyz (ls:=ls.map tuL) (a:=frm ls ls.length) (v:=v) (by simpa using ha) (by simpa using hv)
  rw[List.length_map,← List.map_take,← List.map_take,Zm2,Zm2,Zm2]at h1
  have h2:Zaa (ls.take (frm ls ls.length)) % 2=1:=by
   unfold down at had
   simp only[beq_eq_false_iff_ne,ne_eq]at had
   omega
  have h3:=h.evn
  unfold down tuN
  generalize Zaa ((rotL (frm ls ls.length) (ls.map tuL)).take (rho ls.length (frm ls ls.length) v))=A at *
  generalize Zaa (ls.take v)=B at *
  rw[Bool.eq_iff_iff]
  simp
  split at h1<;>omega
 have hrho:=fun v hv=>Zzt (n:=ls.length) (a:=frm ls ls.length) (v:=v) ha hv
 have hsgm:=fun v hv=>sgm_eq (n:=ls.length) (a:=frm ls ls.length) (v:=v) ha hv
 have hlt:∀ v,v<ls.length→rho ls.length (frm ls ls.length) v<ls.length:=fun v hv=>Nat.mod_lt _ hpos
 have hltr:∀ v,v<ls.length→sgm ls.length (frm ls ls.length) v<ls.length:=fun v hv=>Nat.mod_lt _ hpos
 have hinv:∀ v,v<ls.length→sgm ls.length (frm ls ls.length) (rho ls.length (frm ls ls.length) v)=v:=fun v hv=>by
  rw[hsgm _ (hlt v hv),hrho v hv]
  split<;>split<;>omega
 have hinr:∀ v,v<ls.length→rho ls.length (frm ls ls.length) (sgm ls.length (frm ls ls.length) v)=v:=fun v hv=>by
  rw[hrho _ (hltr v hv),hsgm v hv]
  split<;>split<;>omega
 have himg:Img ls (tuN ls) (rho ls.length (frm ls ls.length)) (sgm ls.length (frm ls ls.length)) true:=by
  refine⟨hw,Zj1,Zlz,hlt,hltr,hinv,hinr,fun v hv=>?_,fun v hv=>by rw[hat v hv,tu_k],fun v hv hk=>?_,fun v hv hk=>?_,fun v hv hk=>?_,fun v hv hk=>?_⟩
  ·have hm:=Nat.mod_lt (v+ls.length - 1) hpos
   rw[hrho _ hm,Zh2 hv,Zh2 (hlt v hv),hrho v hv]
   split<;>split<;>split<;>(try split)<;>omega
  ·obtain⟨w1,w2,w3,w4,w5⟩:=hw.oth v hv hk
   obtain⟨n1,n2⟩:=h.same_i hv hk
   have hne:rho ls.length (frm ls ls.length) (Zbf ls v ls.length 0)≠rho ls.length (frm ls ls.length) v:=fun e=>by
    have:=hinv _ w1
    rw[e,hinv v hv]at this
    exact n1 this.symm
   refine Zpb ?_ ?_ ls.length 0 (Nat.zero_le _) (by have:=hlt _ w1; omega) (by rw[Zj1]; omega)
   ·rw[hat _ w1,hat v hv,Zt5,tu_i,tu_i,n2]
    simp[hne,isX,w2]
   ·intro x hc hx
    rw[Zj1]at hx
    have hx2:=hltr x hx
    have ex:=hinr x hx
    rw[← ex]at hc ⊢
    rw[hat _ hx2,hat v hv,Zt5,tu_i,tu_i]at hc
    simp only[Bool.and_eq_true,bne_iff_ne,ne_eq,beq_iff_eq,isX]at hc
    obtain⟨⟨c1,c2⟩,c3⟩:=hc
    rcases h.uniq hv hk hx2 c2 c3 with e|e
    ·rw[e]at c1; exact absurd rfl c1
    ·rw[e]
  ·rw[hat v hv,Zlx hk]
   simp only
   cases (at' ls v).o<;>cases ((at' ls v).s == 1)<;>rfl
  ·rw[hdn v hv]
   cases down ls v<;>rfl
  ·rw[if_pos rfl,Z1a r2 r1 hv hk,Z1a q2 q1 (by rw[Zj1]; exact hlt v hv) (by rw[hat v hv,tu_k]; exact hk),hat v hv,tu_pos]
 have hkk:∀ v,v<(tuN ls).length→(at' (tuN ls) v).k≠2→(at' (tuN ls) v).k=1:=fun v hv hk=>by
  rw[Zj1]at hv
  rw[← hinr v hv,hat _ (hltr v hv),tu_k]at hk ⊢
  exact hw.kin _ (hltr v hv) hk
 obtain⟨e1,e2⟩:=Z7u hw.pas hw.kin hkk Zj1 Zlz (Z7d himg)
 refine⟨⟨by rw[Zj1]; exact h.len,by rw[Zuj]; exact h.vis,h.lo,h.hi,?_,by rw[Zlz]; exact h.evn,hok,?_⟩,e1⟩
 ·have e:rho ls.length (frm ls ls.length) (frm ls ls.length)=0:=by rw[hrho _ ha,if_neg (by omega)]; omega
  have:=hat _ ha
  rw[e]at this
  rw[this,tu_k]
  simpa[isP]using hap
 ·rw[Zj1,Zlz,Zuj,e2]
  exact h.cyc
end
end Go.Known
