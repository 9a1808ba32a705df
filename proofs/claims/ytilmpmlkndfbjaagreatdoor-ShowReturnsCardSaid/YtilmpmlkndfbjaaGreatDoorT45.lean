/- Part 45 -/
import Derived.Test.YtilmpmlkndfbjaaGreatDoorT44
set_option linter.all false
namespace Go.Ad
open Go.Plain
def HD(m:Nat)(X:List Nd)(e:Nat):Bool:=if e<2*m then e % 2 == 1 else (X.getD ((e - 2*m) / 4) (false,false)).2
def Ec(m a:Nat):Nat:=if a<2*m then Av a else a - (a - 2*m) % 4+((a - 2*m) % 4+2) % 4
def Me(m:Nat)(L:List (Nat×Nat))(a:Nat):Nat:=Eb L (Ec m a)
theorem bC{m:Nat}{X:List Nd}(below:Bool):∀(c:List Ro) (front:List Nat) (L0:List (Nat×Nat)) (b:List Nd) (g:List (Nat×Nat)) (d:List Nd),(∀e,e∈front->HD m X e=below)->(∀p,p∈L0->HD m X p.1=HD m X p.2) ->
 U1 m below c front L0 b=(true,g,d)->(∃Y,X=d++Y)->(∃Z,d=b++Z) /\ ∀p,p∈g->HD m X p.1=HD m X p.2
 |[],front,L0,b,g,d,i,l,h,_=>by
  simp only[U1,AT,decide_eq_true_eq]at h;obtain⟨rfl,rfl,rfl⟩:=h;exact⟨⟨[],by simp⟩,l⟩
 |r::c,front,L0,b,g,d,i,l,h,t=>by
  simp only[U1]at h;split at h
  ·rename_i o;obtain⟨_,y,z,_,_⟩:=o;refine bC below c _ _ _ _ _ (λe a=>i e ?_) (λp f=>?_) h t
   ·rcases List.mem_append.1 a with a|a
    ·exact List.mem_of_mem_take a
    exact List.mem_of_mem_drop a
   grind
  split at h
  ·rename_i o;obtain⟨_,y,z,c4,A⟩:=o;have j:∃Z,d=(b++[(r.2.2.2,below)])++Z:=by
    have:∀(c:List Ro) (front:List Nat) (L0:List (Nat×Nat)) (b:List Nd),U1 m below c front L0 b=(true,g,d) -> ∃Z,d=b++Z:=by
     intro c;induction c with
     |nil=>
      intro front L0 b h;simp only[U1,AT,decide_eq_true_eq]at h;exact⟨[],by rw[h.2.2];simp⟩
     |cons r c w=>
      intro front L0 b h;simp only[U1]at h;split at h
      ·exact w _ _ _ h
      split at h
      ·obtain⟨Z,n⟩:=w _ _ _ h;exact⟨_::Z,by rw[n];simp;rfl⟩
      cases h
    exact this _ _ _ _ h
   obtain⟨Z,n⟩:=j;obtain⟨Y,u⟩:=t;have v:∀q,q<4->HD m X (2*m+4*b.length+q)=below:=λq D=>by
    unfold HD;rw[iN (by omega),show (2*m+4*b.length+q-2*m) / 4=b.length by omega,u,n,List.getD,List.append_assoc,List.append_assoc,List.getElem?_append_right (lR _),Nat.sub_self];rfl
   obtain⟨B,C⟩:=bC (X:=X) below c _ _ _ _ _ (λe a=>by
    rcases List.mem_append.1 a with a|a
    ·rcases List.mem_append.1 a with a|a
     ·exact i e (List.mem_of_mem_take a)
     obtain⟨k,s,rfl⟩:=mM.1 a;have:=mR.1 s;exact v (k+1) (by omega)
    ·exact i e (List.mem_of_mem_drop a)) (λp f=>by
    rcases List.mem_append.1 f with f|f
    ·exact l p f
    obtain⟨k,s,rfl⟩:=mM.1 f;have:=mR.1 s;show HD m X (front.getD _ 0)=HD m X (_+_);rw[i _ (Kz (by omega)),v _ (Nat.mod_lt _ (by omega))]) h ⟨Y,u⟩
   grind
  cases h
structure Jy (m:Nat) (X:List Nd) (L:List (Nat×Nat)):Prop where
 hm:0<m
 nd:(O1 L).Nodup
 en:∀ e,e<2*m+4*X.length↔e∈O1 L
 ev:m % 2=0
 sd:∀ e,e<2*m+4*X.length→HD m X (Eb L e)=HD m X e
theorem yw{m:Nat}{a below:List Ro}{L:List (Nat×Nat)}{X:List Nd}(hm:0<m)(h:K9 m a below=(true,L,X)):Jy m X L:=by
 obtain⟨t,s,c⟩:=Ya4 h;refine⟨hm,t,s,c,λe j=>?_⟩;have u:∀p,p∈L->HD m X p.1=HD m X p.2:=by
  unfold K9 at h;obtain⟨g,n,o,q⟩:∃g n o,U1 m false a (Q5 m) [] []=(g,n,o):=⟨_,_,_,rfl⟩;rw[q]at h;cases g with
  |false=>simp at h
  |true=>
   simp only[if_true]at h;have z:∀e,e∈Q5 m->HD m X e=false:=λe c=>by
    obtain⟨k,i,rfl⟩:=mM.1 c;have:=mR.1 i;unfold HD;rw[iP (by omega)];simp
   have y:∀e,e∈J5 m->HD m X e=true:=λe c=>by
    obtain⟨k,i,rfl⟩:=mM.1 c;have:=mR.1 i;unfold HD;rw[iP (by omega)];simp
   have b:∀(f:List Ro) (front:List Nat) (L0:List (Nat×Nat)) (d:List Nd),U1 m true f front L0 d=(true,L,X) -> ∃Z,X=d++Z:=by
    intro f;induction f with
    |nil=>
     intro front L0 d h;simp only[U1,AT,decide_eq_true_eq]at h;exact⟨[],by rw[h.2.2];simp⟩
    |cons r f v=>
     intro front L0 d h;simp only[U1]at h;split at h
     ·exact v _ _ _ h
     split at h
     ·obtain⟨Z,B⟩:=v _ _ _ h;exact⟨_::Z,by rw[B];simp;rfl⟩
     cases h
   obtain⟨Y,A⟩:=b _ _ _ _ h;obtain⟨_,w⟩:=bC (X:=X) false a _ _ _ _ _ z (λp u=>by cases u) q ⟨Y,A⟩;exact(bC (X:=X) true below _ _ _ _ _ y w h ⟨[],by simp⟩).2
 obtain⟨p,l,C⟩:=BA.1 ((s e).1 j);obtain⟨D,E⟩:=lI t l;grind
section
variable {m:Nat} {X:List Nd} {L:List (Nat×Nat)} (h:Jy m X L)
include h
theorem Jy.pt{e:Nat}(a:e<2*m+4*X.length):Eb L e<2*m+4*X.length/\Eb L (Eb L e)=e/\Eb L e≠e:=Yb8 h.nd h.en a
omit h in
theorem aH{a:Nat}(b:a<2*m):Ec m a=Av a:=by unfold Ec;rw[iP b]
omit h in
theorem Wf{j q:Nat}(a:q<4):Ec m (2*m+4*j+q)=2*m+4*j+(q+2)%4:=by
 unfold Ec;grind
omit h in
theorem kF{a:Nat}(b:¬a<2*m)(c:a<2*m+4*X.length):∃j q,j<X.length/\q<4/\a=2*m+4*j+q:=⟨(a-2*m) / 4,(a-2*m)%4,by omega,by omega,by omega⟩
omit h in
theorem Lj{a:Nat}(d:a<2*m+4*X.length):Ec m a<2*m+4*X.length/\Ec m (Ec m a)=a/\Ec m a≠a:=by
 by_cases b:a<2*m
 ·rw[aH b];have c:Av a<2*m:=JS b;refine⟨by omega,by rw[aH c,K3],?_⟩;unfold Av;split<;>omega
 obtain⟨j,q,f,e,rfl⟩:=kF b d;rw[Wf e,Wf (Nat.mod_lt _ (by omega))];omega
theorem Yka{a:Nat}(b:a<2*m+4*X.length):Me m L a<2*m+4*X.length:=(h.pt (Lj b).1).1
theorem Z6d:Cl (Me m L) (2*m+4*X.length):=by
 refine⟨λd j=>Yka h j,λa b f g e=>?_⟩;have c:=(h.pt (Lj f).1).2.1;have i:=(h.pt (Lj g).1).2.1;have e:Eb L (Ec m a)=Eb L (Ec m b):=e;rw[e,i]at c;rw[<-(Lj f).2.1,<-c,(Lj g).2.1]
theorem Z8p{a:Nat}(c:a<2*m+4*X.length):Me m L (Ec m (Me m L a))=Ec m a:=by
 show Eb L (Ec m (Ec m (Eb L (Ec m a))))=Ec m a;have b:=Lj c;rw[(Lj (h.pt b.1).1).2.1,(h.pt b.1).2.1]
end
def AK(m:Nat)(L:List (Nat×Nat))(t:Nat):Nat:=it (Me m L) t 0
structure FI (m:Nat) (X:List Nd) (L:List (Nat×Nat)):Prop where
 back:AK m L (m+2*X.length)=0
 first:∀ t,0<t→t<m+2*X.length→AK m L t≠0
section
variable {m:Nat} {X:List Nd} {L:List (Nat×Nat)} (h:Jy m X L)
include h
theorem Lm(t:Nat):AK m L t<2*m+4*X.length:=C8 (Z6d h) (show 0<2*m+4*X.length by have:=h.hm;omega) t
variable (hw:FI m X L)
include hw
theorem yU{s t:Nat}(f:s<m+2*X.length)(d:t<m+2*X.length)(e:AK m L s=AK m L t):s=t:=by
 have key:∀s t,s<t->t<m+2*X.length->AK m L s≠AK m L t:=λs t c d e=>by
  have a:=Sq (Me m L) 0 s (t-s);rw[show s+(t-s)=t by omega]at a;have b:it (Me m L) s 0=it (Me m L) s (it (Me m L) (t-s) 0):=e.trans a;have:=jD (Z6d h) s (show 0<2*m+4*X.length by have:=h.hm;omega) (Lm h (t-s)) b;exact hw.first (t-s) (by omega) (by omega) this.symm
 grind
omit hw in
theorem iE:∀(j s t:Nat),j<=t->AK m L s=Ec m (AK m L t)->AK m L (s+j)=Ec m (AK m L (t-j))
 |0,s,t,_,e=>e
 |j+1,s,t,d,e=>by
  have c:=iE j s t (by omega) e;have a:AK m L (s+(j+1))=Me m L (AK m L (s+j)):=rfl;have b:AK m L (t-j)=Me m L (AK m L (t-(j+1))):=by
   rw[show t-j=t-(j+1)+1 by omega];rfl
  rw[a,c,b,Z8p h (Lm h _)]
omit hw in
theorem oN{s t:Nat}:AK m L s≠Ec m (AK m L t):=by
 have key:∀s t,s<=t->AK m L s≠Ec m (AK m L t):=λs t f e=>by
  rcases Nat.mod_two_eq_zero_or_one (t-s)with c|c
  ·have:=iE h ((t-s) / 2) s t (by omega) e;rw[show t-(t-s) / 2=s+(t-s) / 2 by omega]at this;exact(Lj (Lm h (s+(t-s) / 2))).2.2 this.symm
  have:=iE h ((t-s) / 2) s t (by omega) e;rw[show t-(t-s) / 2=s+(t-s) / 2+1 by omega]at this;generalize s+(t-s) / 2=u at this;have g:=Lm h u;have a:=Lm h (u+1);have b:AK m L (u+1)=Eb L (Ec m (AK m L u)):=rfl;have d:Ec m (AK m L u)=AK m L (u+1):=by rw[this,(Lj a).2.1]
  rw[d]at b;exact(h.pt a).2.2 b.symm
 rcases Nat.le_total s t with c|c
 ·exact key s t c
 intro e;refine key t s c ?_;rw[e,(Lj (Lm h t)).2.1]
omit h hw in
omit hw in
end
theorem Yjc{l k:List Nat}(d:l.Nodup)(h:k.Nodup)(f:∀x,x∈l->x∈k)(b:k.length<=l.length):l.Perm k:=by
 have c:∀x,x∈k->x∈l:=λx g=>by
  refine Classical.byContradiction λe=>?_;have:=List.Nodup.length_le_of_subset (l₁:=x::l) (l₂:=k) (List.nodup_cons.2 ⟨e,d⟩) λy a=>by
   rcases mC.1 a with rfl|a
   ·exact g
   exact f y a
  rw[lC]at this;omega
 grind
end Go.Ad
