/- Part 34 of the proof: Ec. -/
import Derived.Test.YtilmpmlkndfbjaaGreatDoorK33
set_option linter.all false
namespace Go.Ab
open Go.Plain
def Eu(m:Nat)(X:List Nd)(e:Nat):Bool:=if e<2*m then e % 2 == 1 else (X.getD ((e - 2*m) / 4) (false,false)).2
def CH(m a:Nat):Nat:=if a<2*m then Dc a else a - (a - 2*m) % 4+((a - 2*m) % 4+2) % 4
def Ik(m:Nat)(L:List (Nat×Nat))(a:Nat):Nat:=Bk L (CH m a)
theorem Xx{m:Nat}{X:List Nd}(below:Bool):∀ (rs:List Ro) (front:List Nat) (L0:List (Nat×Nat)) (X0:List Nd) (L1:List (Nat×Nat)) (X1:List Nd),(∀ e,e∈front→Eu m X e=below)→(∀ p,p∈L0→Eu m X p.1=Eu m X p.2) →
 X9 m below rs front L0 X0=(true,L1,X1)→(∃ Y,X=X1++Y)→(∃ Z,X1=X0++Z) ∧ ∀ p,p∈L1→Eu m X p.1=Eu m X p.2
 | [],front,L0,X0,L1,X1,hf,hL,h,_=>by
  simp only[X9,AP,decide_eq_true_eq]at h;obtain⟨rfl,rfl,rfl⟩:=h;exact⟨⟨[],by simp⟩,hL⟩
 | r :: rs,front,L0,X0,L1,X1,hf,hL,h,hX=>by
  simp only[X9]at h;split at h
  ·rename_i hc;obtain⟨_,c2,c3,_,_⟩:=hc;refine Xx below rs _ _ _ _ _ (fun e he=>hf e ?_) (fun p hp=>?_) h hX
   ·rcases List.mem_append.1 he with he|he
    ·exact List.mem_of_mem_take he
    ·exact List.mem_of_mem_drop he
   grind
  ·split at h
   ·rename_i hc;obtain⟨_,c2,c3,c4,c5⟩:=hc;have hpre:∃ Z,X1=(X0++[(r.2.2.2,below)])++Z:=by
     have:∀ (rs:List Ro) (front:List Nat) (L0:List (Nat×Nat)) (X0:List Nd),X9 m below rs front L0 X0=(true,L1,X1) → ∃ Z,X1=X0++Z:=by
      intro rs
      induction rs with
      | nil=>
       intro front L0 X0 h;simp only[X9,AP,decide_eq_true_eq]at h;exact⟨[],by rw[h.2.2]; simp⟩
      | cons r rs ih=>
       intro front L0 X0 h;simp only[X9]at h;split at h
       ·exact ih _ _ _ h
       ·split at h
        ·obtain⟨Z,hZ⟩:=ih _ _ _ h;exact⟨_ :: Z,by rw[hZ]; simp; rfl⟩
        ·cases h
     exact this _ _ _ _ h
    obtain⟨Z,hZ⟩:=hpre;obtain⟨Y,hY⟩:=hX;have hs:∀ q,q<4→Eu m X (2*m+4*X0.length+q)=below:=fun q hq=>by
     unfold Eu;rw[iN (by omega),show (2*m+4*X0.length+q - 2*m) / 4=X0.length by omega,hY,hZ,List.getD,List.append_assoc,List.append_assoc,List.getElem?_append_right (lR _),Nat.sub_self]
     rfl
    obtain⟨g1,g2⟩:=Xx (X:=X) below rs _ _ _ _ _ (fun e he=>by
     rcases List.mem_append.1 he with he|he
     ·rcases List.mem_append.1 he with he|he
      ·exact hf e (List.mem_of_mem_take he)
      ·obtain⟨k,hk,rfl⟩:=mM.1 he;have:=mR.1 hk;exact hs (k+1) (by omega)
     ·exact hf e (List.mem_of_mem_drop he)) (fun p hp=>by
     rcases List.mem_append.1 hp with hp|hp
     ·exact hL p hp
     ·obtain⟨k,hk,rfl⟩:=mM.1 hp;have:=mR.1 hk;show Eu m X (front.getD _ 0)=Eu m X (_+_);rw[hf _ (ML (by omega)),hs _ (Nat.mod_lt _ (by omega))]) h ⟨Y,hY⟩
    grind
   ·cases h
structure Gt (m:Nat) (X:List Nd) (L:List (Nat×Nat)):Prop where
 hm:0<m
 nd:(U1 L).Nodup
 en:∀ e,e<2*m+4*X.length↔e∈U1 L
 ev:m % 2=0
 sd:∀ e,e<2*m+4*X.length→Eu m X (Bk L e)=Eu m X e
theorem YU{m:Nat}{above below:List Ro}{L:List (Nat×Nat)}{X:List Nd}(hm:0<m)(h:Q1 m above below=(true,L,X)):Gt m X L:=by
 obtain⟨hn,hE,he⟩:=Z2u h;refine⟨hm,hn,hE,he,fun e hlt=>?_⟩
 have hp:∀ p,p∈L→Eu m X p.1=Eu m X p.2:=by
  unfold Q1 at h;obtain⟨b1,L1,X1,h1⟩:∃ b1 L1 X1,X9 m false above (W7 m) [] []=(b1,L1,X1):=⟨_,_,_,rfl⟩
  rw[h1]at h;cases b1 with
  | false=>simp at h
  | true=>
   simp only[if_true]at h;have hU:∀ e,e∈W7 m→Eu m X e=false:=fun e he=>by
    obtain⟨k,hk,rfl⟩:=mM.1 he;have:=mR.1 hk;unfold Eu;rw[iP (by omega)]
    simp
   have hD:∀ e,e∈V8 m→Eu m X e=true:=fun e he=>by
    obtain⟨k,hk,rfl⟩:=mM.1 he;have:=mR.1 hk;unfold Eu;rw[iP (by omega)]
    simp
   have hadd:∀ (rs:List Ro) (front:List Nat) (L0:List (Nat×Nat)) (X0:List Nd),X9 m true rs front L0 X0=(true,L,X) → ∃ Z,X=X0++Z:=by
    intro rs
    induction rs with
    | nil=>
     intro front L0 X0 h;simp only[X9,AP,decide_eq_true_eq]at h;exact⟨[],by rw[h.2.2]; simp⟩
    | cons r rs ih=>
     intro front L0 X0 h;simp only[X9]at h;split at h
     ·exact ih _ _ _ h
     ·split at h
      ·obtain⟨Z,hZ⟩:=ih _ _ _ h;exact⟨_ :: Z,by rw[hZ]; simp; rfl⟩
      ·cases h
   obtain⟨Y,hY⟩:=hadd _ _ _ _ h;obtain⟨_,g1⟩:=Xx (X:=X) false above _ _ _ _ _ hU (fun p hp=>by cases hp) h1 ⟨Y,hY⟩
   exact(Xx (X:=X) true below _ _ _ _ _ hD g1 h ⟨[],by simp⟩).2
 obtain⟨p,hpm,hor⟩:=Bi.1 ((hE e).1 hlt);obtain⟨q1,q2⟩:=VM hn hpm
 grind
section
variable {m:Nat} {X:List Nd} {L:List (Nat×Nat)} (h:Gt m X L)
include h
theorem Gt.pt{e:Nat}(he:e<2*m+4*X.length):Bk L e<2*m+4*X.length∧Bk L (Bk L e)=e∧Bk L e≠e:=QW h.nd h.en he
omit h in
theorem OA{a:Nat}(ha:a<2*m):CH m a=Dc a:=by unfold CH; rw[iP ha]
omit h in
theorem Oh{j q:Nat}(hq:q<4):CH m (2*m+4*j+q)=2*m+4*j+(q+2) % 4:=by
 unfold CH
 grind
omit h in
theorem Tx{a:Nat}(h1:¬a<2*m)(h2:a<2*m+4*X.length):∃ j q,j<X.length∧q<4∧a=2*m+4*j+q:=⟨(a - 2*m) / 4,(a - 2*m) % 4,by omega,by omega,by omega⟩
omit h in
theorem G9{a:Nat}(ha:a<2*m+4*X.length):CH m a<2*m+4*X.length∧CH m (CH m a)=a∧CH m a≠a:=by
 by_cases h1:a<2*m
 ·rw[OA h1];have h2:Dc a<2*m:=YW h1;refine⟨by omega,by rw[OA h2,mP],?_⟩
  unfold Dc;split<;>omega
 ·obtain⟨j,q,hj,hq,rfl⟩:=Tx h1 ha;rw[Oh hq,Oh (Nat.mod_lt _ (by omega))]
  omega
theorem y8{a:Nat}(ha:a<2*m+4*X.length):Ik m L a<2*m+4*X.length:=(h.pt (G9 ha).1).1
theorem Xl:Cn (Ik m L) (2*m+4*X.length):=by
 refine⟨fun d hd=>y8 h hd,fun a b ha hb e=>?_⟩
 have h1:=(h.pt (G9 ha).1).2.1;have h2:=(h.pt (G9 hb).1).2.1;have e:Bk L (CH m a)=Bk L (CH m b):=e;rw[e,h2]at h1;rw[← (G9 ha).2.1,← h1,(G9 hb).2.1]
theorem qw{a:Nat}(ha:a<2*m+4*X.length):Ik m L (CH m (Ik m L a))=CH m a:=by
 show Bk L (CH m (CH m (Bk L (CH m a))))=CH m a;have h1:=G9 ha;rw[(G9 (h.pt h1.1).1).2.1,(h.pt h1.1).2.1]
end
def Al(m:Nat)(L:List (Nat×Nat))(t:Nat):Nat:=it (Ik m L) t 0
structure EF (m:Nat) (X:List Nd) (L:List (Nat×Nat)):Prop where
 back:Al m L (m+2*X.length)=0
 first:∀ t,0<t→t<m+2*X.length→Al m L t≠0
section
variable {m:Nat} {X:List Nd} {L:List (Nat×Nat)} (h:Gt m X L)
include h
theorem P8(t:Nat):Al m L t<2*m+4*X.length:=H0 (Xl h) (show 0<2*m+4*X.length by have:=h.hm; omega) t
variable (hw:EF m X L)
include hw
theorem Ra{s t:Nat}(hs:s<m+2*X.length)(ht:t<m+2*X.length)(e:Al m L s=Al m L t):s=t:=by
 have key:∀ s t,s<t→t<m+2*X.length→Al m L s≠Al m L t:=fun s t hst ht e=>by
  have e2:=Nn (Ik m L) 0 s (t - s);rw[show s+(t - s)=t by omega]at e2
  have e3:it (Ik m L) s 0=it (Ik m L) s (it (Ik m L) (t - s) 0):=e.trans e2;have:=Xa (Xl h) s (show 0<2*m+4*X.length by have:=h.hm; omega) (P8 h (t - s)) e3
  exact hw.first (t - s) (by omega) (by omega) this.symm
 grind
omit hw in
theorem cC:∀ (j s t:Nat),j≤t→Al m L s=CH m (Al m L t)→Al m L (s+j)=CH m (Al m L (t - j))
 | 0,s,t,_,e=>e
 | j+1,s,t,hj,e=>by
  have ih:=cC j s t (by omega) e
  have e1:Al m L (s+(j+1))=Ik m L (Al m L (s+j)):=rfl;have e2:Al m L (t - j)=Ik m L (Al m L (t - (j+1))):=by
   rw[show t - j=t - (j+1)+1 by omega]
   rfl
  rw[e1,ih,e2,qw h (P8 h _)]
omit hw in
theorem OO{s t:Nat}:Al m L s≠CH m (Al m L t):=by
 have key:∀ s t,s≤t→Al m L s≠CH m (Al m L t):=fun s t hst e=>by
  rcases Nat.mod_two_eq_zero_or_one (t - s)with c|c
  ·have:=cC h ((t - s) / 2) s t (by omega) e
   rw[show t - (t - s) / 2=s+(t - s) / 2 by omega]at this
   exact(G9 (P8 h (s+(t - s) / 2))).2.2 this.symm
  ·have:=cC h ((t - s) / 2) s t (by omega) e
   rw[show t - (t - s) / 2=s+(t - s) / 2+1 by omega]at this
   generalize s+(t - s) / 2=u at this;have hu:=P8 h u;have hu1:=P8 h (u+1);have e1:Al m L (u+1)=Bk L (CH m (Al m L u)):=rfl;have e2:CH m (Al m L u)=Al m L (u+1):=by rw[this,(G9 hu1).2.1]
   rw[e2]at e1;exact(h.pt hu1).2.2 e1.symm
 rcases Nat.le_total s t with c|c
 ·exact key s t c
 ·intro e;refine key t s c ?_;rw[e,(G9 (P8 h t)).2.1]
def DA(m:Nat)(K:Nat)(L:List (Nat×Nat))(d:Nat):Nat:=
 if d<2*K then (if d % 2=0 then CH m (Al m L (d / 2))else Al m L ((d / 2+1) % K))else d
omit h hw in
theorem Xe{K t:Nat}(ht:t<K)(b:Bool):DA m K L (Q5 K t b)=if b then CH m (Al m L t)else Al m L t:=by
 cases b with
 | true=>
  have e:Q5 K t true=2*t:=rfl;rw[e];unfold DA
  grind
 | false=>
  have e:Q5 K t false=2*((t+K - 1) % K)+1:=rfl;have hm:=Nat.mod_lt (t+K - 1) (show 0<K by omega)
  rw[e];unfold DA;rw[iP (by omega),iN (by omega),show (2*((t+K - 1) % K)+1) / 2=(t+K - 1) % K by omega,RI ht]
  simp only[bF,if_false];split
  ·rename_i h0;rw[h0,show K - 1+1=K by omega,Nat.mod_self]
  ·rw[show t - 1+1=t by omega,Nat.mod_eq_of_lt ht]
theorem zF{t:Nat}(ht:t<m+2*X.length):Al m L ((t+1) % (m+2*X.length))=Bk L (CH m (Al m L t)):=by
 rw[Oi ht];split
 ·rename_i h0;have:=hw.back;have e:Al m L (t+1)=Bk L (CH m (Al m L t)):=rfl;rw[← e,show t+1=m+2*X.length by omega,this]
  rfl
 ·rfl
theorem yP{d:Nat}(hd:d<2*(m+2*X.length)):DA m (m+2*X.length) L (Dc d)=Bk L (DA m (m+2*X.length) L d):=by
 obtain⟨t,b,ht,e⟩:=MP hd;subst e;have key:∀ d,d<2*(m+2*X.length)→d % 2=0→DA m (m+2*X.length) L (Dc d)=Bk L (DA m (m+2*X.length) L d):=fun d hd he=>by
  have h1:Dc d=d+1:=by unfold Dc; rw[iP he]
  rw[h1];unfold DA;rw[iP (by omega),iP hd,iN (by omega),iP he,show (d+1) / 2=d / 2 by omega]
  exact zF h hw (by omega)
 generalize arr (m+2*X.length) t b=d at *;rcases Nat.mod_two_eq_zero_or_one d with c|c
 ·exact key d hd c
 ·have h1:Dc (Dc d)=d:=mP d;have h2:Dc d<2*(m+2*X.length):=YW hd;have h3:=key (Dc d) h2 (by unfold Dc; grind)
  rw[h1]at h3;rw[h3];have h4:DA m (m+2*X.length) L (Dc d)<2*m+4*X.length:=by
   unfold DA;rw[iP h2];split
   ·exact(G9 (P8 h _)).1
   ·exact P8 h _
  exact(h.pt h4).2.1.symm
omit hw in
theorem bE{d:Nat}(hd:d<2*(m+2*X.length)):DA m (m+2*X.length) L d<2*(m+2*X.length):=by
 unfold DA;rw[iP hd];split
 ·have:=(G9 (X:=X) (P8 h (d / 2))).1;omega
 ·have:=P8 h ((d / 2+1) % (m+2*X.length));omega
theorem Z9g{d d':Nat}(hd:d<2*(m+2*X.length))(hd':d'<2*(m+2*X.length))(e:DA m (m+2*X.length) L d=DA m (m+2*X.length) L d'):d=d':=by
 have hK:0<m+2*X.length:=by have:=h.hm; omega
 unfold DA at e;rw[iP hd,iP hd']at e;split at e
 ·split at e
  ·have e2:Al m L (d / 2)=Al m L (d' / 2):=by
    have h1:=(G9 (X:=X) (P8 h (d / 2))).2.1;rw[e,(G9 (X:=X) (P8 h (d' / 2))).2.1]at h1;exact h1.symm
   have:=Ra h hw (show d / 2<m+2*X.length by omega) (show d' / 2<m+2*X.length by omega) e2
   omega
  ·exact absurd e.symm (OO h)
 ·split at e
  ·exact absurd e (OO h)
  ·have e2:=Ra h hw (Nat.mod_lt _ hK) (Nat.mod_lt _ hK) e;have:=mZ (show d / 2<m+2*X.length by omega) (show d' / 2<m+2*X.length by omega) e2
   omega
end
theorem vR{l k:List Nat}(hl:l.Nodup)(hk:k.Nodup)(hs:∀ x,x∈l→x∈k)(hlen:k.length≤l.length):l.Perm k:=by
 have hks:∀ x,x∈k→x∈l:=fun x hx=>by
  refine Classical.byContradiction fun hn=>?_
  have:=List.Nodup.length_le_of_subset (l₁:=x :: l) (l₂:=k) (List.nodup_cons.2 ⟨hn,hl⟩) fun y hy=>by
   rcases mC.1 hy with rfl|hy
   ·exact hx
   ·exact hs y hy
  rw[lC]at this;omega
 grind
end Go.Ab
