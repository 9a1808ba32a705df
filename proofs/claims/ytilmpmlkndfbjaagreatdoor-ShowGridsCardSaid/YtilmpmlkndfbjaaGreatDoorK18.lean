/- Part 18 of the proof: Pf, Pg. -/
import Derived.Test.YtilmpmlkndfbjaaGreatDoorK8
import Derived.Test.YtilmpmlkndfbjaaGreatDoorK17
set_option linter.all false
section
namespace Go.Ab
open Go.Plain
theorem OD{n i:Nat}{fw:Bool}(h:i<n):Q5 n i fw<2*n:=by
 unfold Q5;have:=Nat.mod_lt (i+n - 1) (show 0<n by omega)
 split<;>omega
theorem aL{ls:List Lt}{v:Nat}(hv:v<ls.length):∀ k j,j+k≤ls.length→Q9 ls v k j<ls.length
 | 0,j,_=>hv
 | k+1,j,hj=>by
  simp only[Q9];split
  ·omega
  ·exact aL hv k (j+1) (by omega)
theorem SA{x:Nat}{l:List Nat}(h:x∈l):R9 x l<l.length:=(gS.1 (LC h).1).1
theorem sB{ls:List Lt}{ax:List Nat}{d:Nat}(GZ:∀ v,v∈ax→v<ls.length)(hm:∀ v,v<ls.length→(at' ls v).k≠2→v∈ax)(h0:0<ax.length)(hd:d<2*ls.length+2*ax.length) :
 U2 ls ax d<2*ls.length+2*ax.length:=by
 have hget:∀ j,j<ax.length→ax.getD j 0<ls.length:=fun j hj=>by
  simp_all
 have hmod:=fun x=>Nat.mod_lt x h0
 unfold U2;split
 ·split
  ·exact Nat.lt_of_lt_of_le (OD (hget _ (hmod _))) (by omega)
  ·exact Nat.lt_of_lt_of_le (OD (hget _ (by omega))) (by omega)
 ·rename_i hlt;have hv:(if d % 2=0 then (d / 2+1) % ls.length else d / 2)<ls.length:=by
   split
   ·exact Nat.mod_lt _ (by omega)
   ·omega
  simp only;generalize (if d % 2=0 then (d / 2+1) % ls.length else d / 2)=v at hv
  split
  ·exact Nat.lt_of_lt_of_le (OD (aL hv ls.length 0 (by omega))) (by omega)
  ·rename_i hk;have h1:=SA (hm v hv hk);split
   ·omega
   ·have:=hmod (R9 v ax+ax.length - 1);omega
theorem zp{f:Int}{l:Lt}(h:DG f l=true):l.k=1∨l.k=2:=by
 unfold DG at h
 grind
theorem SS{F:Nat}{ls:List Lt}(h:ls.all (DG F)=true):ID F ls:=by
 intro l hl hp;have:=List.all_eq_true.1 h l hl;simp only[AT,beq_iff_eq]at hp;unfold DG at this
 grind
theorem dB{ls:List Lt}{m:Nat}:∀ (i p:Nat),p<m → ∃ b,(M3 ls m i)[p]? = some b∧(b=true ↔ ∃ j,j<i∧AT (at' ls j)=true∧pos ls (at' ls j)=p)
 | 0,p,hp=>⟨false,by simp[M3,List.getElem?_replicate,hp],by simp⟩
 | i+1,p,hp=>by
  obtain⟨b,hb,hiff⟩:=dB (ls:=ls) (m:=m) i p hp;simp only[M3]
  grind
theorem Ym{F:Nat}{ls:List Lt}(hG:ID F ls):∀ i,i≤ls.length→Eg ls (Z5 ls) i=true →
 (∀ j,j<i→AT (at' ls j)=true→1≤(at' ls j).r∧(at' ls j).r≤(CS (at' ls j).g ls:Nat)) ∧
 (∀ j k,j<k→k<i→AT (at' ls j)=true→AT (at' ls k)=true→pos ls (at' ls j)≠pos ls (at' ls k))
 | 0,_,_=>⟨fun j hj=>by omega,fun j k _ hk=>by omega⟩
 | i+1,hi,h=>by
  simp only[Eg,bA,Bool.or_eq_true,Bool.not_eq_true',decide_eq_true_eq]at h;obtain⟨h1,h2⟩:=h;obtain⟨a1,a2⟩:=Ym hG i (by omega) h1
  refine⟨fun j hj hp=>?_,fun j k hjk hk Py hpk=>?_⟩
  ·grind
  ·rcases lG k i with h4|h4
   ·grind
   ·have:k=i:=by omega
    subst this;rcases h2 with h2|h2
    ·grind
    ·have hpos:=VB hG (F7 (by omega)) hpk h2.1.1 h2.1.2
     obtain⟨b,hb,hiff⟩:=dB (ls:=ls) (m:=Z5 ls) k (pos ls (at' ls k)) hpos
     grind
theorem Zj{F:Nat}{ls:List Lt}(hG:ID F ls)(h:Eg ls (Z5 ls) ls.length=true):Sj ls∧Ol ls:=by
 obtain⟨a1,a2⟩:=Ym hG ls.length (lR _) h;refine⟨fun l hl hp=>?_,fun i j hi hj hpi Py hg hr=>?_⟩
 ·obtain⟨j,hj,he⟩:=List.getElem_of_mem hl;have:at' ls j=l:=by rw[at',List.getD,gE hj,he]; rfl
  grind
 ·have hpe:pos ls (at' ls i)=pos ls (at' ls j):=by unfold pos; rw[hg,hr]
  grind
theorem Su(ls:List Lt):(Z4 ls).Nodup:=by
 rw[Z4,(Oo ls ls.length).nodup_iff];exact List.nodup_range.filter _
theorem RJ{l:List Nat}(h:l.Nodup){i j x:Nat}(hi:l[i]? = some x)(hj:l[j]? = some x):i=j:=by
 obtain⟨h1,h2⟩:=gS.1 hi;obtain⟨h3,h4⟩:=gS.1 hj;exact(List.getElem_inj h).1 (h2.trans h4.symm)
theorem aA{F:Nat}{ls:List Lt}(hG:ID F ls)(h:Eg ls (Z5 ls) ls.length=true):∀ i,i≤ls.length → ∀ j,j<i→AT (at' ls j)=true→(L5 ls (Z5 ls) i)[pos ls (at' ls j)]? = some j
 | 0,_,j,hj,_=>by omega
 | i+1,hi,j,hj,hp=>by
  obtain⟨a1,a2⟩:=Ym hG ls.length (lR _) h;simp only[L5];by_cases hpi:AT (at' ls i)=true
  ·rw[iP hpi,List.getElem?_set,Vv];obtain⟨r1,r2⟩:=a1 i (by omega) hpi
   have hpos:=VB hG (F7 (show i<ls.length by omega)) hpi r1 r2
   rcases lG j i with h4|h4
   ·rw[iN (fun e=>a2 j i h4 (by omega) hp hpi e.symm)]
    exact aA hG h i (by omega) j h4 hp
   grind
  ·rw[iN hpi];rcases lG j i with h4|h4
   ·exact aA hG h i (by omega) j h4 hp
   grind
theorem yE{F:Nat}{ls:List Lt}(hG:ID F ls)(h:Eg ls (Z5 ls) ls.length=true):L5 ls (Z5 ls) ls.length=Z4 ls:=by
 obtain⟨hr,ha⟩:=Zj hG h;apply List.ext_getElem?;intro p;rcases lG p (Z5 ls)with hp|hp
 ·obtain⟨j,hj⟩:∃ j,(Z4 ls)[p]? = some j:=⟨_,gE (by rw[HI]; exact hp)⟩
  obtain⟨h1,h2⟩:=Bb.1 (List.mem_of_getElem? hj);have h3:=ZX ha hr h1 h2;have h4:=RJ (Su ls) hj h3;subst h4;rw[hj];exact aA hG h _ (lR _) j h1 h2
 ·rw[List.getElem?_eq_none (by rw[Vv]; exact hp),List.getElem?_eq_none (by rw[HI]; exact hp)]
theorem xh{F:Nat}{ls:List Lt}(hG:ID F ls)(h:Eg ls (Z5 ls) ls.length=true){v:Nat}(hv:v<ls.length)(hk:(at' ls v).k=1):P6 ls v=R9 v (Z4 ls)∧R9 v (Z4 ls)<(Z4 ls).length:=by
 obtain⟨hr,ha⟩:=Zj hG h;have hp:AT (at' ls v)=true:=by simp[AT,hk]
 have h1:=ZX ha hr hv hp;have hm:v∈Z4 ls:=Bb.2 ⟨hv,hp⟩;refine⟨?_,SA hm⟩;unfold P6;rw[iP hp];exact RJ (Su ls) h1 (LC hm).1
end Go.Ab
end
section
namespace Go.Ab
open Go.Plain
theorem Xs{id id':Int}{w:Int×Int}:∀ {E:List DW} {p:Nat} {v:Int×Int},Dg id E=some (p,v)→Dg id' (E.set p (id,w))=if id'=id then some (p,w)else Dg id' E
 | [],p,v,h=>by cases h
 | (k,u) :: r,p,v,h=>by
  simp only[Dg]at h;by_cases hk:id=k
  ·rw[iP hk]at h;cases h;subst hk;simp only[List.set_cons_zero,Dg];split<;>rfl
  ·rw[iN hk]at h;cases hr:Dg id r with
   | none=>rw[hr]at h; cases h
   | some pu=>
    obtain⟨q,u'⟩:=pu;rw[hr]at h;cases h;simp only[List.set_cons_succ,Dg];rw[Xs hr]
    grind
theorem Zw{id id':Int}{w:Int×Int}:∀ {E:List DW},Dg id E=none→Dg id' (E++[(id,w)])=if id'=id then some (E.length,w)else Dg id' E
 | [],_=>by rfl
 | (k,u) :: r,h=>by
  simp only[Dg]at h;by_cases hk:id=k
  ·grind
  ·rw[iN hk]at h;have hr:Dg id r=none:=by
    cases hr:Dg id r with
    | none=>rfl
    | some pu=>rw[hr]at h; cases h
   simp only[List.cons_append,Dg];rw[Zw hr]
   grind
def GY(v:Int×Int):Nat:=(if 0≤v.1 then 1 else 0)+(if 0≤v.2 then 1 else 0)
def H7:List DW→Nat
 | []=>0
 | e :: r=>GY e.2+H7 r
theorem tN(v:Int×Int):GY v≤2:=by unfold GY; grind
theorem vG:∀ (E:List DW),H7 E≤2*E.length
 | []=>lR _
 | e :: r=>by have:=vG r; have:=tN e.2; simp only[H7,lC]; omega
theorem tH:∀ {E:List DW},H7 E=2*E.length → ∀ e,e∈E→GY e.2=2
 | [],_,e,h=>by simp at h
 | x :: r,hs,e,h=>by
  have h1:=vG r;have h2:=tN x.2;simp only[H7,lC]at hs;rcases mC.1 h with rfl|h
  ·omega
  ·exact tH (by omega) e h
theorem lU(x:DW):∀ (E:List DW),H7 (E++[x])=H7 E+GY x.2
 | []=>by simp[H7]
 | e :: r=>by simp only[List.cons_append,H7,lU x r]; omega
theorem sL{x y:DW}:∀ {E:List DW} {p:Nat},E[p]? = some x→H7 (E.set p y)+GY x.2=H7 E+GY y.2
 | [],p,h=>by simp at h
 | e :: r,0,h=>by
  simp only[List.getElem?_cons_zero,oI]at h;subst h;simp only[List.set_cons_zero,H7]; omega
 | e :: r,p+1,h=>by
  simp only[List.getElem?_cons_succ]at h;have:=sL (y:=y) h;simp only[List.set_cons_succ,H7]; omega
theorem YG(o o':Bool)(i:Int)(v:Int×Int):S4 o' (L9 o i v)=if o'=o then i else S4 o' v:=by
 cases o<;>cases o'<;>rfl
theorem wF{o:Bool}{i:Int}{v:Int×Int}(hi:0≤i)(hs:S4 o v<0):GY (L9 o i v)=GY v+1:=by
 cases o<;>simp only[S4,bF,if_true,if_false]at hs<;>unfold GY L9<;>simp only[bF,if_true,if_false]
 ·rw[iP hi,iN (show ¬0≤v.1 by omega)]; try omega
 grind
structure RC (ls:List Lt) (i:Nat):Prop where
 slot:∀ id p w,Dg id (Bc ls i)=some (p,w) → ∀ o,0≤S4 o w → ∃ j:Nat,j<i∧S4 o w=j∧Bv (at' ls j)=true∧(at' ls j).i=id∧(at' ls j).o=o
 visit:∀ j,j<i→Bv (at' ls j)=true → ∃ p w,Dg (at' ls j).i (Bc ls i)=some (p,w)∧S4 (at' ls j).o w=j
 sign:∀ id p w,Dg id (Bc ls i)=some (p,w)→0≤w.1→0≤w.2→(at' ls w.1.toNat).s=(at' ls w.2.toNat).s
 sum:H7 (Bc ls i)=Z7 Bv (ls.take i)
theorem WV{ls:List Lt}{n:Nat}:∀ i,i≤ls.length→ER ls n i=true→RC ls i
 | 0,_,_=>⟨fun id p w h=>(by cases h),fun j hj=>(by omega),fun id p w h=>(by cases h),rfl⟩
 | i+1,hi,h=>by
  simp only[ER,bA,Bool.or_eq_true,Bool.not_eq_true',decide_eq_true_eq]at h;obtain⟨h1,h2⟩:=h;obtain⟨b,c,d,e⟩:=WV i (by omega) h1
  have htk:=VO (p:=Bv) (ls:=ls) (i:=i) (by omega)
  by_cases hx:Bv (at' ls i)=true
  ·have hfit:FQ ls (Bc ls i) (at' ls i)=true:=by
    grind
   have hE:Bc ls (i+1)=ED (Bc ls i) (at' ls i).i (at' ls i).o i:=by simp only[Bc,iP hx]
   rw[iP hx]at htk;obtain⟨q,v,hfE,hneg,hsum,hold⟩:∃ (q:Nat) (v:Int×Int),(∀ id',Dg id' (Bc ls (i+1))=if id'=(at' ls i).i then some (q,L9 (at' ls i).o i v)else Dg id' (Bc ls i)) ∧
    S4 (at' ls i).o v<0∧H7 (Bc ls (i+1))=H7 (Bc ls i)+1 ∧
    ((Dg (at' ls i).i (Bc ls i)=some (q,v)∧(at' ls (S4 (!(at' ls i).o) v).toNat).s=(at' ls i).s)∨(Dg (at' ls i).i (Bc ls i)=none∧v=(-1,-1))):=by
    unfold FQ at hfit;cases hf:Dg (at' ls i).i (Bc ls i)with
    | none=>
     have hE2:Bc ls (i+1)=Bc ls i++[((at' ls i).i,L9 (at' ls i).o i (-1,-1))]:=by rw[hE]; unfold ED; rw[hf]
     refine⟨(Bc ls i).length,(-1,-1),fun id'=>by rw[hE2,Zw hf],by cases (at' ls i).o<;>decide,?_,.inr ⟨rfl,rfl⟩⟩
     rw[hE2,lU,wF (by omega) (by cases (at' ls i).o<;>decide)]
     rfl
    | some pv=>
     obtain⟨q,v⟩:=pv;rw[hf]at hfit;simp only[bA,decide_eq_true_eq]at hfit;have hE2:Bc ls (i+1)=(Bc ls i).set q ((at' ls i).i,L9 (at' ls i).o i v):=by rw[hE]; unfold ED; rw[hf]
     refine⟨q,v,fun id'=>by rw[hE2,Xs hf],hfit.1,?_,.inl ⟨rfl,hfit.2⟩⟩
     have:=sL (y:=((at' ls i).i,L9 (at' ls i).o i v)) (Rf hf);simp only at this;rw[wF (by omega) hfit.1]at this
     rw[hE2]; omega
   refine⟨fun id p w hf o ho=>?_,fun j hj hxj=>?_,fun id p w hf hw1 hw2=>?_,by rw[hsum,e,htk]⟩
   ·rw[hfE]at hf;split at hf
    ·rename_i hid;cases hf;rw[YG]at ho ⊢;split at ho
     ·rename_i heq;subst heq;rw[iP rfl];exact⟨i,by omega,rfl,hx,hid.symm,rfl⟩
     ·rename_i hne;rw[iN hne];rcases hold with⟨hf,_⟩|⟨hf,hv⟩
      ·obtain⟨j,j1,j2,j3,j4,j5⟩:=b _ _ _ hf o ho;exact⟨j,by omega,j2,j3,j4.trans hid.symm,j5⟩
      ·subst hv;cases o<;>simp[S4]at ho
    grind
   ·rcases lG j i with h4|h4
    ·obtain⟨p,w,g1,g2⟩:=c j h4 hxj;rw[hfE];split
     ·rename_i hid;refine⟨_,_,rfl,?_⟩;rcases hold with⟨hf,_⟩|⟨hf,hv⟩
      ·rw[hid]at g1;rw[g1]at hf;cases hf;rw[YG];split
       ·rename_i heq;rw[heq]at g2;omega
       ·exact g2
      ·rw[hid,hf]at g1; cases g1
     grind
    ·have:j=i:=by omega
     subst this;rw[hfE,iP rfl];exact⟨_,_,rfl,by rw[YG,iP rfl]⟩
   ·rw[hfE]at hf;split at hf
    ·cases hf;rcases hold with⟨hf,hs⟩|⟨hf,hv⟩
     ·cases ho:(at' ls i).o with
      | true=>
       simp only[ho,L9,S4,if_true,Bool.not_true,bF,if_false]at hs ⊢;rw[hs,Int.toNat_natCast]
      | false=>
       simp only[ho,L9,S4,if_true,Bool.not_false,bF,if_false]at hs ⊢;rw[hs,Int.toNat_natCast]
     ·subst hv;cases ho:(at' ls i).o<;>simp[ho,L9]at hw1 hw2
    grind
  ·have hE:Bc ls (i+1)=Bc ls i:=by simp only[Bc,iN hx]
   rw[iN hx]at htk;rw[← hE]at b c d e;refine⟨fun id p w hf o ho=>?_,fun j hj hxj=>?_,d,by rw[e,htk]; rfl⟩
   ·obtain⟨j,j1,j2⟩:=b id p w hf o ho;exact⟨j,by omega,j2⟩
   grind
def Hq(ls:List Lt):Prop:=U0 ls % 2=0∧ER ls (U0 ls) ls.length=true∧(Bc ls ls.length).length=U0 ls / 2
theorem Yw{ls:List Lt}{v j:Nat}(h:(j != v&&Bv (at' ls j)&&(at' ls j).i == (at' ls v).i)=true)(hu:∀ x,(x != v&&Bv (at' ls x)&&(at' ls x).i == (at' ls v).i)=true→x<ls.length→x=j) :
 ∀ k s,s≤j→j<s+k→s+k≤ls.length→Q9 ls v k s=j
 | 0,s,h1,h2,_=>by omega
 | k+1,s,h1,h2,h3=>by
  simp only[Q9];split
  ·grind
  ·rename_i hc;have:s≠j:=fun e=>hc (by rw[e]; exact h)
   exact Yw h hu k (s+1) (by omega) (by omega) (by omega)
theorem OC{ls:List Lt}(h:Hq ls){v:Nat}(hv:v<ls.length)(hx:Bv (at' ls v)=true) :
 ∃ p w j,Dg (at' ls v).i (Bc ls ls.length)=some (p,w)∧S4 (at' ls v).o w=v∧S4 (!(at' ls v).o) w=(j:Nat)∧j<ls.length∧j≠v∧Bv (at' ls j)=true∧(at' ls j).i=(at' ls v).i∧(at' ls j).o=(!(at' ls v).o)∧(at' ls j).s=(at' ls v).s ∧
  (∀ x,x<ls.length→Bv (at' ls x)=true→(at' ls x).i=(at' ls v).i→x=v∨x=j)∧Q9 ls v ls.length 0=j:=by
 obtain⟨h1,h2,h3⟩:=h;obtain⟨b,c,d,e⟩:=WV ls.length (lR _) h2;rw[List.take_length]at e;have hs:H7 (Bc ls ls.length)=2*(Bc ls ls.length).length:=by
  rw[e,h3];have:U0 ls=Z7 Bv ls:=rfl;omega
 obtain⟨p,w,g1,g2⟩:=c v hv hx;have hf:=tH hs _ (List.mem_of_getElem? (Rf g1));simp only at hf;have hw:0≤w.1∧0≤w.2:=by
  unfold GY at hf
  grind
 have hso:0≤S4 (!(at' ls v).o) w:=by cases (at' ls v).o<;>simp only[S4,Bool.not_true,Bool.not_false,bF,if_true,if_false]<;>omega
 obtain⟨j,j1,j2,j3,j4,j5⟩:=b _ _ _ g1 _ hso;have hjv:j≠v:=by
  grind
 have huniq:∀ x,x<ls.length→Bv (at' ls x)=true→(at' ls x).i=(at' ls v).i→x=v∨x=j:=by
  intro x hxl hxx hxi;obtain⟨p',w',k1,k2⟩:=c x hxl hxx;rw[hxi,g1]at k1;cases k1;by_cases ho:(at' ls x).o=(at' ls v).o
  ·rw[ho,g2]at k2;exact .inl (by omega)
  grind
 have hsg:=d _ _ _ g1 hw.1 hw.2;refine⟨p,w,j,g1,g2,j2,j1,hjv,j3,j4,j5,?_,huniq,?_⟩
 ·cases ho:(at' ls v).o<;>rw[ho]at g2 j2<;>simp only[S4,Bool.not_true,Bool.not_false,bF,if_true,if_false]at g2 j2<;>rw[g2,j2]at hsg<;>simp only[Int.toNat_natCast]at hsg
  ·exact hsg.symm
  ·exact hsg
 ·refine Yw ?_ ?_ ls.length 0 (Nat.zero_le _) (by omega) (by omega)
  ·simp[hjv,j3,j4]
  grind
theorem qj{F:Nat}{ls:List Lt}(hl:ls.length≤1000)(hL:ls.all (DG F)=true)(h0:0<ls.length)(Mr:(at' ls 0).k=1)(hr:Eg ls (Z5 ls) ls.length=true)(hc:Hq ls):FM ls (Bc ls ls.length):=by
 have hG:=SS hL;refine⟨hl,?_,fun v hv=>?_,fun v hv hk=>xh hG hr hv hk,fun v hv hk=>?_⟩
 ·have:0∈Z4 ls:=Bb.2 ⟨h0,by simp[AT,Mr]⟩
  grind
 ·exact zp (List.all_eq_true.1 hL _ (F7 hv))
 ·obtain⟨p,w,j,g1,g2,g3,g4,_,_,_,_,_,_,g5⟩:=OC hc hv (by simp[Bv,hk])
  grind
end Go.Ab
end
