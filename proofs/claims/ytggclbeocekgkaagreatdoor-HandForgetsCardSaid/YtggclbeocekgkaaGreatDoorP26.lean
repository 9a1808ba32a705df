/- Part 26 of the proof: Pg, Pi. -/
import Derived.Test.YtggclbeocekgkaaGreatDoorP17
import Derived.Test.YtggclbeocekgkaaGreatDoorP25
set_option linter.all false
section
namespace Go.Ac
open Go.Plain
theorem Wm{id id':Int}{w:Int×Int}:∀ {E:List Db} {p:Nat} {v:Int×Int},CM id E=some (p,v)→CM id' (E.set p (id,w))=if id'=id then some (p,w)else CM id' E
 | [],p,v,h=>by cases h
 | (k,u) :: r,p,v,h=>by
  simp only[CM]at h;by_cases hk:id=k
  ·rw[iP hk]at h;cases h;subst hk;simp only[List.set_cons_zero,CM];split<;>rfl
  ·rw[iN hk]at h;cases hr:CM id r with
   | none=>rw[hr]at h; cases h
   | some pu=>
    obtain⟨q,u'⟩:=pu;rw[hr]at h;cases h;simp only[List.set_cons_succ,CM];rw[Wm hr]
    grind
theorem YS{id id':Int}{w:Int×Int}:∀ {E:List Db},CM id E=none→CM id' (E++[(id,w)])=if id'=id then some (E.length,w)else CM id' E
 | [],_=>by rfl
 | (k,u) :: r,h=>by
  simp only[CM]at h;by_cases hk:id=k
  ·grind
  ·rw[iN hk]at h;have hr:CM id r=none:=by
    cases hr:CM id r with
    | none=>rfl
    | some pu=>rw[hr]at h; cases h
   simp only[List.cons_append,CM];rw[YS hr]
   grind
def Gh(v:Int×Int):Nat:=(if 0≤v.1 then 1 else 0)+(if 0≤v.2 then 1 else 0)
def I6:List Db→Nat
 | []=>0
 | e :: r=>Gh e.2+I6 r
theorem rK(v:Int×Int):Gh v≤2:=by unfold Gh; grind
theorem rS:∀ (E:List Db),I6 E≤2*E.length
 | []=>lR _
 | e :: r=>by have:=rS r; have:=rK e.2; simp only[I6,lC]; omega
theorem nE:∀ {E:List Db},I6 E=2*E.length → ∀ e,e∈E→Gh e.2=2
 | [],_,e,h=>by simp at h
 | x :: r,hs,e,h=>by
  have h1:=rS r;have h2:=rK x.2;simp only[I6,lC]at hs;rcases mC.1 h with rfl|h
  ·omega
  ·exact nE (by omega) e h
theorem nH(x:Db):∀ (E:List Db),I6 (E++[x])=I6 E+Gh x.2
 | []=>by simp[I6]
 | e :: r=>by simp only[List.cons_append,I6,nH x r]; omega
theorem qI{x y:Db}:∀ {E:List Db} {p:Nat},E[p]? = some x→I6 (E.set p y)+Gh x.2=I6 E+Gh y.2
 | [],p,h=>by simp at h
 | e :: r,0,h=>by
  simp only[List.getElem?_cons_zero,oI]at h;subst h;simp only[List.set_cons_zero,I6]; omega
 | e :: r,p+1,h=>by
  simp only[List.getElem?_cons_succ]at h;have:=qI (y:=y) h;simp only[List.set_cons_succ,I6]; omega
theorem ZI(o o':Bool)(i:Int)(v:Int×Int):T9 o' (L6 o i v)=if o'=o then i else T9 o' v:=by
 cases o<;>cases o'<;>rfl
theorem uT{o:Bool}{i:Int}{v:Int×Int}(hi:0≤i)(hs:T9 o v<0):Gh (L6 o i v)=Gh v+1:=by
 cases o<;>simp only[T9,bF,if_true,if_false]at hs<;>unfold Gh L6<;>simp only[bF,if_true,if_false]
 ·rw[iP hi,iN (show ¬0≤v.1 by omega)]; try omega
 grind
structure Sg (ls:List Lt) (i:Nat):Prop where
 slot:∀ id p w,CM id (Ba ls i)=some (p,w) → ∀ o,0≤T9 o w → ∃ j:Nat,j<i∧T9 o w=j∧Bg (at' ls j)=true∧(at' ls j).i=id∧(at' ls j).o=o
 visit:∀ j,j<i→Bg (at' ls j)=true → ∃ p w,CM (at' ls j).i (Ba ls i)=some (p,w)∧T9 (at' ls j).o w=j
 sign:∀ id p w,CM id (Ba ls i)=some (p,w)→0≤w.1→0≤w.2→(at' ls w.1.toNat).s=(at' ls w.2.toNat).s
 sum:I6 (Ba ls i)=Z9 Bg (ls.take i)
theorem Wz{ls:List Lt}{n:Nat}:∀ i,i≤ls.length→DZ ls n i=true→Sg ls i
 | 0,_,_=>⟨fun id p w h=>(by cases h),fun j hj=>(by omega),fun id p w h=>(by cases h),rfl⟩
 | i+1,hi,h=>by
  simp only[DZ,bA,Bool.or_eq_true,Bool.not_eq_true',decide_eq_true_eq]at h;obtain⟨h1,h2⟩:=h;obtain⟨b,c,d,e⟩:=Wz i (by omega) h1
  have htk:=Vn (p:=Bg) (ls:=ls) (i:=i) (by omega)
  by_cases hx:Bg (at' ls i)=true
  ·have hfit:EZ ls (Ba ls i) (at' ls i)=true:=by
    grind
   have hE:Ba ls (i+1)=Ee (Ba ls i) (at' ls i).i (at' ls i).o i:=by simp only[Ba,iP hx]
   rw[iP hx]at htk;obtain⟨q,v,hfE,hneg,hsum,hold⟩:∃ (q:Nat) (v:Int×Int),(∀ id',CM id' (Ba ls (i+1))=if id'=(at' ls i).i then some (q,L6 (at' ls i).o i v)else CM id' (Ba ls i)) ∧
    T9 (at' ls i).o v<0∧I6 (Ba ls (i+1))=I6 (Ba ls i)+1 ∧
    ((CM (at' ls i).i (Ba ls i)=some (q,v)∧(at' ls (T9 (!(at' ls i).o) v).toNat).s=(at' ls i).s)∨(CM (at' ls i).i (Ba ls i)=none∧v=(-1,-1))):=by
    unfold EZ at hfit;cases hf:CM (at' ls i).i (Ba ls i)with
    | none=>
     have hE2:Ba ls (i+1)=Ba ls i++[((at' ls i).i,L6 (at' ls i).o i (-1,-1))]:=by rw[hE]; unfold Ee; rw[hf]
     refine⟨(Ba ls i).length,(-1,-1),fun id'=>by rw[hE2,YS hf],by cases (at' ls i).o<;>decide,?_,.inr ⟨rfl,rfl⟩⟩
     rw[hE2,nH,uT (by omega) (by cases (at' ls i).o<;>decide)]
     rfl
    | some pv=>
     obtain⟨q,v⟩:=pv;rw[hf]at hfit;simp only[bA,decide_eq_true_eq]at hfit;have hE2:Ba ls (i+1)=(Ba ls i).set q ((at' ls i).i,L6 (at' ls i).o i v):=by rw[hE]; unfold Ee; rw[hf]
     refine⟨q,v,fun id'=>by rw[hE2,Wm hf],hfit.1,?_,.inl ⟨rfl,hfit.2⟩⟩
     have:=qI (y:=((at' ls i).i,L6 (at' ls i).o i v)) (Rk hf);simp only at this;rw[uT (by omega) hfit.1]at this
     rw[hE2]; omega
   refine⟨fun id p w hf o ho=>?_,fun j hj hxj=>?_,fun id p w hf hw1 hw2=>?_,by rw[hsum,e,htk]⟩
   ·rw[hfE]at hf;split at hf
    ·rename_i hid;cases hf;rw[ZI]at ho ⊢;split at ho
     ·rename_i heq;subst heq;rw[iP rfl];exact⟨i,by omega,rfl,hx,hid.symm,rfl⟩
     ·rename_i hne;rw[iN hne];rcases hold with⟨hf,_⟩|⟨hf,hv⟩
      ·obtain⟨j,j1,j2,j3,j4,j5⟩:=b _ _ _ hf o ho;exact⟨j,by omega,j2,j3,j4.trans hid.symm,j5⟩
      ·subst hv;cases o<;>simp[T9]at ho
    grind
   ·rcases lG j i with h4|h4
    ·obtain⟨p,w,g1,g2⟩:=c j h4 hxj;rw[hfE];split
     ·rename_i hid;refine⟨_,_,rfl,?_⟩;rcases hold with⟨hf,_⟩|⟨hf,hv⟩
      ·rw[hid]at g1;rw[g1]at hf;cases hf;rw[ZI];split
       ·rename_i heq;rw[heq]at g2;omega
       ·exact g2
      ·rw[hid,hf]at g1; cases g1
     grind
    ·have:j=i:=by omega
     subst this;rw[hfE,iP rfl];exact⟨_,_,rfl,by rw[ZI,iP rfl]⟩
   ·rw[hfE]at hf;split at hf
    ·cases hf;rcases hold with⟨hf,hs⟩|⟨hf,hv⟩
     ·cases ho:(at' ls i).o with
      | true=>
       simp only[ho,L6,T9,if_true,Bool.not_true,bF,if_false]at hs ⊢;rw[hs,Int.toNat_natCast]
      | false=>
       simp only[ho,L6,T9,if_true,Bool.not_false,bF,if_false]at hs ⊢;rw[hs,Int.toNat_natCast]
     ·subst hv;cases ho:(at' ls i).o<;>simp[ho,L6]at hw1 hw2
    grind
  ·have hE:Ba ls (i+1)=Ba ls i:=by simp only[Ba,iN hx]
   rw[iN hx]at htk;rw[← hE]at b c d e;refine⟨fun id p w hf o ho=>?_,fun j hj hxj=>?_,d,by rw[e,htk]; rfl⟩
   ·obtain⟨j,j1,j2⟩:=b id p w hf o ho;exact⟨j,by omega,j2⟩
   grind
def FJ(ls:List Lt):Prop:=X0 ls % 2=0∧DZ ls (X0 ls) ls.length=true∧(Ba ls ls.length).length=X0 ls / 2
theorem wU{ls:List Lt}{v j:Nat}(h:(j != v&&Bg (at' ls j)&&(at' ls j).i == (at' ls v).i)=true)(hu:∀ x,(x != v&&Bg (at' ls x)&&(at' ls x).i == (at' ls v).i)=true→x<ls.length→x=j) :
 ∀ k s,s≤j→j<s+k→s+k≤ls.length→Q4 ls v k s=j
 | 0,s,h1,h2,_=>by omega
 | k+1,s,h1,h2,h3=>by
  simp only[Q4];split
  ·grind
  ·rename_i hc;have:s≠j:=fun e=>hc (by rw[e]; exact h)
   exact wU h hu k (s+1) (by omega) (by omega) (by omega)
theorem MJ{ls:List Lt}(h:FJ ls){v:Nat}(hv:v<ls.length)(hx:Bg (at' ls v)=true) :
 ∃ p w j,CM (at' ls v).i (Ba ls ls.length)=some (p,w)∧T9 (at' ls v).o w=v∧T9 (!(at' ls v).o) w=(j:Nat)∧j<ls.length∧j≠v∧Bg (at' ls j)=true∧(at' ls j).i=(at' ls v).i∧(at' ls j).o=(!(at' ls v).o)∧(at' ls j).s=(at' ls v).s ∧
  (∀ x,x<ls.length→Bg (at' ls x)=true→(at' ls x).i=(at' ls v).i→x=v∨x=j)∧Q4 ls v ls.length 0=j:=by
 obtain⟨h1,h2,h3⟩:=h;obtain⟨b,c,d,e⟩:=Wz ls.length (lR _) h2;rw[List.take_length]at e;have hs:I6 (Ba ls ls.length)=2*(Ba ls ls.length).length:=by
  rw[e,h3];have:X0 ls=Z9 Bg ls:=rfl;omega
 obtain⟨p,w,g1,g2⟩:=c v hv hx;have hf:=nE hs _ (List.mem_of_getElem? (Rk g1));simp only at hf;have hw:0≤w.1∧0≤w.2:=by
  unfold Gh at hf
  grind
 have hso:0≤T9 (!(at' ls v).o) w:=by cases (at' ls v).o<;>simp only[T9,Bool.not_true,Bool.not_false,bF,if_true,if_false]<;>omega
 obtain⟨j,j1,j2,j3,j4,j5⟩:=b _ _ _ g1 _ hso;have hjv:j≠v:=by
  grind
 have huniq:∀ x,x<ls.length→Bg (at' ls x)=true→(at' ls x).i=(at' ls v).i→x=v∨x=j:=by
  intro x hxl hxx hxi;obtain⟨p',w',k1,k2⟩:=c x hxl hxx;rw[hxi,g1]at k1;cases k1;by_cases ho:(at' ls x).o=(at' ls v).o
  ·rw[ho,g2]at k2;exact .inl (by omega)
  grind
 have hsg:=d _ _ _ g1 hw.1 hw.2;refine⟨p,w,j,g1,g2,j2,j1,hjv,j3,j4,j5,?_,huniq,?_⟩
 ·cases ho:(at' ls v).o<;>rw[ho]at g2 j2<;>simp only[T9,Bool.not_true,Bool.not_false,bF,if_true,if_false]at g2 j2<;>rw[g2,j2]at hsg<;>simp only[Int.toNat_natCast]at hsg
  ·exact hsg.symm
  ·exact hsg
 ·refine wU ?_ ?_ ls.length 0 (Nat.zero_le _) (by omega) (by omega)
  ·simp[hjv,j3,j4]
  grind
theorem pK{F:Nat}{ls:List Lt}(hl:ls.length≤1000)(hL:ls.all (CZ F)=true)(h0:0<ls.length)(Gt:(at' ls 0).k=1)(hr:DF ls (Z0 ls) ls.length=true)(hc:FJ ls):Di ls (Ba ls ls.length):=by
 have hG:=On hL;refine⟨hl,?_,fun v hv=>?_,fun v hv hk=>yc hG hr hv hk,fun v hv hk=>?_⟩
 ·have:0∈Z2 ls:=AB.2 ⟨h0,by simp[Am,Gt]⟩
  grind
 ·exact ue (List.all_eq_true.1 hL _ (O0 hv))
 ·obtain⟨p,w,j,g1,g2,g3,g4,_,_,_,_,_,_,g5⟩:=MJ hc hv (by simp[Bg,hk])
  grind
end Go.Ac
end
section
namespace Go.Ac
open Go.Plain
def tr(T:Nat→Nat):Nat→List Bool→Nat→List Nat
 | 0,_,_=>[]
 | k+1,seen,x=>if seen.getD x true then []else x :: tr T k (seen.set x true) (T x)
def Dw(T:Nat→Nat)(N:Nat):Nat→List Bool→List (List Nat)
 | 0,_=>[]
 | k+1,seen=>if seen.getD (N - (k+1)) true then Dw T N k seen else tr T (N+1) seen (N - (k+1)) :: Dw T N k (Plain.mark T (N+1) seen (N - (k+1)))
def J8(T:Nat→Nat)(N:Nat):List (List Nat):=Dw T N N (List.replicate N false)
theorem Ze(T:Nat→Nat)(N:Nat):∀ (k:Nat) (seen:List Bool),(Dw T N k seen).length=EX T N k seen
 | 0,_=>rfl
 | k+1,seen=>by
  simp only[Dw,EX];split
  ·exact Ze T N k seen
  ·rw[lC,Ze T N k,Nat.add_comm]
def Fj(T:Nat→Nat)(n:Nat):Nat→List Bool→Nat→List Nat×Bool
 | 0,_,_=>([],false)
 | k+1,seen,x=>if x<n then (if seen.getD x true then ([],false)else (x :: (Fj T n k (seen.set x true) (T x)).1,(Fj T n k (seen.set x true) (T x)).2))else ((Fj T n k seen (T x)).1,true)
def Fy(T:Nat→Nat)(n:Nat):Nat→List Bool→Nat→List Bool
 | 0,seen,_=>seen
 | k+1,seen,x=>if x<n then (if seen.getD x true then seen else Fy T n k (seen.set x true) (T x))else Fy T n k seen (T x)
def Gg(T:Nat→Nat)(n:Nat):Nat→List Bool→List (List Nat×Bool)
 | 0,_=>[]
 | k+1,seen=>if seen.getD (n - (k+1)) true then Gg T n k seen else Fj T n (2*n+2) seen (n - (k+1)) :: Gg T n k (Fy T n (2*n+2) seen (n - (k+1)))
def B6(T:Nat→Nat)(n:Nat):List (List Nat×Bool):=Gg T n n (List.replicate n false)
def KC(n:Nat)(w:List Nat):List Nat×Bool:=(w.filter fun x=>decide (x<n),w.any fun x=>decide (n≤x))
theorem H1{l:List Bool}{x y:Nat}(hx:x<l.length):(l.set x true).getD y true=(l.getD y true||decide (y=x)):=by
 grind
theorem uK{l:List Bool}{n x:Nat}(hx:x<n):(l.take n).getD x true=l.getD x true:=by
 grind
theorem Sz{l:List Bool}{x:Nat}(hx:x<l.length)(h:l.getD x true=false):E9 (l.set x true)+1=E9 l:=by
 refine YB ?_
 grind
theorem Ov{T:Nat→Nat}{y:Nat}:∀ (k:Nat) (seen:List Bool) (x:Nat),seen.getD y true=true→(Plain.mark T k seen x).getD y true=true
 | 0,_,_,h=>h
 | k+1,seen,x,h=>by
  simp only[Plain.mark];split
  ·exact h
  ·refine Ov k _ _ ?_
   grind
section
variable {T:Nat→Nat} {n N:Nat}
theorem nQ(hn:n≤N)(hA:∀ z,n≤z→z<N→T z<n)(hT:∀ d,d<N→T d<N)(hI:∀ y y',y<n→y'<n→n≤T y→T y=T y'→y=y') :
 ∀(k k2:Nat) (seen:List Bool) (x:Nat),seen.length=N→x<N→E9 seen<k→2*E9 (seen.take n)+(if n≤x then 1 else 0)<k2 →
  (∀ y,y<n→n≤T y→seen.getD (T y) true=(seen.getD y true&&decide (T y≠x)))→(n≤x → ∃ y,y<n∧T y=x∧seen.getD y true=true) →
  KC n (tr T k seen x)=Fj T n k2 (seen.take n) x∧(Plain.mark T k seen x).take n=Fy T n k2 (seen.take n) x ∧ ∀ y,y<n→n≤T y→(Plain.mark T k seen x).getD (T y) true=(Plain.mark T k seen x).getD y true:=by
 intro k
 induction k with
 | zero=>omega
 | succ k ih=>
  intro k2 seen x hs hx hu hu2 hJ hP;cases k2 with
  | zero=>omega
  | succ k2=>
  by_cases hxn:x<n
  ·have hTx:=hT x hx;simp only[tr,Plain.mark,Fj,Fy,iP hxn,uK hxn];cases hsx:seen.getD x true with
   | true=>
    refine⟨by simp[KC],by simp,fun y hy hTy=>?_⟩
    rw[iP rfl,hJ y hy hTy]
    grind
   | false=>
    have hun:=Sz (by omega) hsx
    have ht:(seen.set x true).take n=(seen.take n).set x true:=by rw[List.take_set]
    have hun2:E9 ((seen.take n).set x true)+1=E9 (seen.take n):=Sz (by grind) (by grind)
    obtain⟨h1,h2,h3⟩:=ih k2 (seen.set x true) (T x) (by simpa using hs) hTx (by omega) (by grind)
     (fun y hy hTy=>by
       rw[H1 (by omega),H1 (by omega),hJ y hy hTy]
       have h0:T y≠x:=by omega
       by_cases hyx:y=x
       ·subst hyx;rw[hsx];simp[h0]
       grind)
     (fun hTx2=>⟨x,hxn,rfl,by grind⟩)
    rw[ht]at h1 h2;simp only[bF,if_false];refine⟨?_,h2,h3⟩;rw[← h1];have:¬n≤x:=by omega
    simp[KC,hxn,this]
  ·have hxn':n≤x:=by omega
   obtain⟨y0,hy0,hy1,hy2⟩:=hP hxn';have hsx:seen.getD x true=false:=by
    grind
   have hun:=Sz (by omega) hsx
   have ht:(seen.set x true).take n=seen.take n:=by
    rw[List.take_set,List.set_eq_of_length_le (by grind)]
   simp only[tr,Plain.mark,Fj,Fy,iN hxn,hsx,bF,if_false];have hTx:=hA x hxn' hx;obtain⟨h1,h2,h3⟩:=ih k2 (seen.set x true) (T x) (by simpa using hs) (by omega) (by omega) (by grind)
    (fun y hy hTy=>by
      rw[H1 (by omega),H1 (by omega),hJ y hy hTy]
      have h0:y≠x:=by omega
      have h4:T y≠T x:=by omega
      by_cases hyx:T y=x
      ·grind
      ·simp[hyx,h0,h4])
    (fun h=>by omega)
   rw[ht]at h1 h2;refine⟨?_,h2,h3⟩;rw[← h1];simp[KC,hxn,hxn']
theorem Zz:∀ (k:Nat) (seen:List Bool),(∀ x,seen.getD x true=true)→Dw T N k seen=[]
 | 0,_,_=>rfl
 | k+1,seen,h=>by simp only[Dw]; rw[iP (h _)]; exact Zz k seen h
theorem bC(hn:n≤N)(hA:∀ z,n≤z→z<N→T z<n)(hT:∀ d,d<N→T d<N)(hI:∀ y y',y<n→y'<n→n≤T y→T y=T y'→y=y')(hS:∀ z,n≤z→z<N → ∃ y,y<n∧T y=z) :
 ∀(k:Nat) (seen:List Bool),k≤n→seen.length=N→(∀ y,y<n - k→seen.getD y true=true)→(∀ y,y<n→n≤T y→seen.getD (T y) true=seen.getD y true) →
  (Dw T N (k+(N - n)) seen).map (KC n)=Gg T n k (seen.take n)
 | 0,seen,_,hs,hd,hJ=>by
  rw[Zz]
  ·rfl
  grind
 | k+1,seen,hk,hs,hd,hJ=>by
  have e:k+1+(N - n)=(k+(N - n))+1:=by omega
  have e2:N - (k+(N - n)+1)=n - (k+1):=by omega
  rw[e];simp only[Dw,Gg,e2];rw[uK (show n - (k+1)<n by omega)]
  have hstep:∀ seen':List Bool,(∀ y,seen.getD y true=true→seen'.getD y true=true)→seen'.getD (n - (k+1)) true=true → ∀ y,y<n - k→seen'.getD y true=true:=fun seen' h1 h2 y hy=>by
   grind
  cases hx:seen.getD (n - (k+1)) true with
  | true=>
   simp only[if_true];exact bC hn hA hT hI hS k seen (by omega) hs (hstep seen (fun _ h=>h) hx) hJ
  | false=>
   have hul:=OG (l:=seen);have hul2:=OG (l:=seen.take n);rw[lK]at hul2;obtain⟨h1,h2,h3⟩:=nQ hn hA hT hI (N+1) (2*n+2) seen (n - (k+1)) hs (by omega) (by omega) (by rw[iN (by omega)]; omega)
    (fun y hy hTy=>by
      rw[hJ y hy hTy];have:T y≠n - (k+1):=by omega
      simp[this]) (fun h=>by omega)
   simp only[bF,if_false,List.map_cons];rw[h1,bC hn hA hT hI hS k _ (by omega) (by rw[SV]; exact hs) (hstep _ (fun y hy=>Ov _ _ _ hy) ?_) h3,h2]
   simp only[Plain.mark,hx,bF,if_false];exact Ov _ _ _ (by rw[H1 (by omega)]; simp)
theorem ta(hn:n≤N)(hA:∀ z,n≤z→z<N→T z<n)(hT:∀ d,d<N→T d<N)(hI:∀ y y',y<n→y'<n→n≤T y→T y=T y'→y=y')(hS:∀ z,n≤z→z<N → ∃ y,y<n∧T y=z) :
 (J8 T N).map (KC n)=B6 T n:=by
 have h:=bC hn hA hT hI hS n (List.replicate N false) (lR _) (by simp) (fun y hy=>by omega) (fun y hy hTy=>by
  grind)
 rw[Nat.add_sub_cancel' hn]at h;rw[J8,h,B6,List.take_replicate,Nat.min_eq_left hn]
end
def T1(n d:Nat):Nat:=if d % 2=0 then (d / 2+1) % n else d / 2
theorem tC{n d:Nat}(h:d<2*n):T1 n d<n:=by
 unfold T1;split
 ·exact Nat.mod_lt _ (by omega)
 ·omega
theorem ZG{n d d':Nat}(h:d<2*n)(h':d'<2*n)(he:T1 n d=T1 n d')(hp:d % 2=d' % 2):d=d':=by
 unfold T1 at he;by_cases h0:d % 2=0
 ·rw[iP h0,iP (by omega)]at he
  have e1:(d / 2+1) % n=if d / 2+1=n then 0 else d / 2+1:=by
   split
   ·rename_i e; rw[e,Nat.mod_self]
   ·rw[Nat.mod_eq_of_lt (by omega)]
  have e2:(d' / 2+1) % n=if d' / 2+1=n then 0 else d' / 2+1:=by
   split
   ·rename_i e; rw[e,Nat.mod_self]
   ·rw[Nat.mod_eq_of_lt (by omega)]
  rw[e1,e2]at he;split at he<;>split at he<;>omega
 grind
theorem mS{n v:Nat}(hv:v<n)(b:Bool):∃ d,d<2*n∧T1 n d=v∧(d % 2 == 0)=b:=by
 cases b with
 | true=>
  by_cases h0:v=0
  ·refine⟨2*(n - 1),by omega,?_,by simp⟩
   unfold T1;rw[iP (by omega)]
   have:2*(n - 1) / 2+1=n:=by omega
   simp_all
  ·refine⟨2*(v - 1),by omega,?_,by simp⟩
   unfold T1;rw[iP (by omega)]
   have:2*(v - 1) / 2+1=v:=by omega
   rw[this,Nat.mod_eq_of_lt hv]
 | false=>
  refine⟨2*v+1,by omega,?_,by simp⟩
  unfold T1
  grind
section
variable {ls:List Lt}
theorem RD{ax:List Nat}{d:Nat}(hd:d<2*ls.length):X7 ls ax d=if (at' ls (T1 ls.length d)).k=2 then X6 ls.length (Q4 ls (T1 ls.length d) ls.length 0) ((d % 2 == 0) == ((at' ls (T1 ls.length d)).o == ((at' ls (T1 ls.length d)).s == 1)))
 else if Z8 ls (T1 ls.length d)=(d % 2 == 0)then 2*ls.length+2*W7 (T1 ls.length d) ax else 2*ls.length+2*((W7 (T1 ls.length d) ax+ax.length - 1) % ax.length)+1:=by
 unfold X7 T1;rw[iN (by omega)]
theorem pS{m a b:Nat}(ha:a<m)(hb:b<m)(h:(a+m - 1) % m=(b+m - 1) % m):a=b:=by
 have e:∀ a,a<m→(a+m - 1) % m=if a=0 then m - 1 else a - 1:=fun a ha=>by
  split
  ·rename_i h0; subst h0; rw[Nat.zero_add,Nat.mod_eq_of_lt (by omega)]
  ·have:a+m - 1=(a - 1)+m:=by omega
   rw[this,Nat.add_mod_right,Nat.mod_eq_of_lt (by omega)]
 grind
theorem sI(hm:∀ v,v<ls.length→(at' ls v).k≠2→v∈Z2 ls){d:Nat}(hd:d<2*ls.length)(hT:2*ls.length≤X7 ls (Z2 ls) d):(at' ls (T1 ls.length d)).k≠2∧T1 ls.length d∈Z2 ls:=by
 have hh:=tC hd;have hk:(at' ls (T1 ls.length d)).k≠2:=fun hk=>by
  rw[RD hd,iP hk]at hT;have:=Hw (fw:=(d % 2 == 0) == ((at' ls (T1 ls.length d)).o == ((at' ls (T1 ls.length d)).s == 1))) (ZZ hh ls.length 0 (by omega))
  omega
 grind
theorem Xj(h0:0<Z0 ls)(hk:∀ v,v<ls.length→(at' ls v).k≠2→(at' ls v).k=1) :
 (∀ z,2*ls.length≤z→z<2*ls.length+2*Z0 ls→X7 ls (Z2 ls) z<2*ls.length)∧(∀ d,d<2*ls.length+2*Z0 ls→X7 ls (Z2 ls) d<2*ls.length+2*Z0 ls) ∧
   (∀ y y',y<2*ls.length→y'<2*ls.length→2*ls.length≤X7 ls (Z2 ls) y→X7 ls (Z2 ls) y=X7 ls (Z2 ls) y'→y=y')∧(∀ z,2*ls.length≤z→z<2*ls.length+2*Z0 ls → ∃ y,y<2*ls.length∧X7 ls (Z2 ls) y=z):=by
 have hal:=O5 ls;have Gi:∀ v,v∈Z2 ls→v<ls.length:=fun v hv=>(AB.1 hv).1
 have hm:∀ v,v<ls.length→(at' ls v).k≠2→v∈Z2 ls:=fun v hv h2=>AB.2 ⟨hv,by simp[Am,hk v hv h2]⟩
 have hget:∀ j,j<Z0 ls→(Z2 ls).getD j 0<ls.length:=fun j hj=>by
  simp_all
 refine⟨fun z hz hz2=>?_,fun d hd=>?_,fun y y' hy hy' hTy he=>?_,fun z hz hz2=>?_⟩
 ·unfold X7;rw[iP hz];split
  ·exact Hw (hget _ (by rw[hal]; exact Nat.mod_lt _ h0))
  ·exact Hw (hget _ (by omega))
 ·rw[← hal]at hd ⊢;exact sY Gi hm (by omega) hd
 ·obtain⟨k1,m1⟩:=sI hm hy hTy;obtain⟨k2,m2⟩:=sI hm hy' (by omega)
  have i1:=Td m1;have i2:=Td m2;have hidx:W7 (T1 ls.length y) (Z2 ls)=W7 (T1 ls.length y') (Z2 ls)→T1 ls.length y=T1 ls.length y':=fun e=>by
   have g1:=(C3 m1).1;have g2:=(C3 m2).1
   grind
  rw[RD hy,RD hy',iN k1,iN k2]at he;have par:∀ {b b':Bool} {x x':Nat},(b == (x % 2 == 0))=(b' == (x' % 2 == 0))→b=b'→x % 2=x' % 2:=by
   intro b b' x x' h1 h2;subst h2;rcases Nat.mod_two_eq_zero_or_one x with e|e<;>rcases Nat.mod_two_eq_zero_or_one x' with e'|e'<;>rw[e,e']<;>rw[e,e']at h1<;>cases b<;>simp at h1
  by_cases d1:Z8 ls (T1 ls.length y)=(y % 2 == 0)
  ·by_cases d2:Z8 ls (T1 ls.length y')=(y' % 2 == 0)
   ·rw[iP d1,iP d2]at he;have e1:=hidx (by omega)
    exact ZG hy hy' e1 (par (b:=Z8 ls (T1 ls.length y)) (b':=Z8 ls (T1 ls.length y')) (by rw[d1,d2]; simp) (by rw[e1]))
   grind
  ·by_cases d2:Z8 ls (T1 ls.length y')=(y' % 2 == 0)
   ·grind
   ·rw[iN d1,iN d2]at he;have e1:=hidx (pS i1 i2 (by omega))
    refine ZG hy hy' e1 (par (b:=Z8 ls (T1 ls.length y)) (b':=Z8 ls (T1 ls.length y')) ?_ (by rw[e1]))
    grind
 ·obtain⟨j,hj⟩:∃ j,(z - 2*ls.length) / 2=j:=⟨_,rfl⟩
  have hjm:j<Z0 ls:=by omega
  have nd:=Hq ls;have hidx:∀ p,p<Z0 ls→W7 ((Z2 ls).getD p 0) (Z2 ls)=p:=fun p hp=>by
   have hg:(Z2 ls)[p]? = some ((Z2 ls).getD p 0):=by grind
   exact KT nd (C3 (List.mem_of_getElem? hg)).1 hg
  have hk2:∀ p,p<Z0 ls→(at' ls ((Z2 ls).getD p 0)).k≠2:=fun p hp=>by
   have hg:(Z2 ls)[p]? = some ((Z2 ls).getD p 0):=by grind
   have:=(AB.1 (List.mem_of_getElem? hg)).2;simp only[Am,beq_iff_eq]at this;omega
  by_cases Ey:z % 2=0
  ·obtain⟨d,h1,h2,h3⟩:=mS (hget j hjm) (Z8 ls ((Z2 ls).getD j 0));refine⟨d,h1,?_⟩;rw[RD h1,h2,iN (hk2 j hjm),iP h3.symm,hidx j hjm];omega
  ·have hpm:(j+1) % Z0 ls<Z0 ls:=Nat.mod_lt _ h0;obtain⟨d,h1,h2,h3⟩:=mS (hget _ hpm) (!Z8 ls ((Z2 ls).getD ((j+1) % Z0 ls) 0));refine⟨d,h1,?_⟩;rw[RD h1,h2,iN (hk2 _ hpm),iN (by grind),hidx _ hpm,hal]
   have e:((j+1) % Z0 ls+Z0 ls - 1) % Z0 ls=j:=by
    by_cases hw:j+1=Z0 ls
    ·rw[hw,Nat.mod_self,Nat.zero_add,Nat.mod_eq_of_lt (by omega)]; omega
    ·rw[Nat.mod_eq_of_lt (show j+1<Z0 ls by omega)]
     have:j+1+Z0 ls - 1=j+Z0 ls:=by omega
     rw[this,Nat.add_mod_right,Nat.mod_eq_of_lt hjm]
   rw[e];omega
theorem uc(h0:0<Z0 ls)(hk:∀ v,v<ls.length→(at' ls v).k≠2→(at' ls v).k=1) :
 (J8 (X7 ls (Z2 ls)) (2*ls.length+2*Z0 ls)).map (KC (2*ls.length))=B6 (X7 ls (Z2 ls)) (2*ls.length):=by
 obtain⟨h1,h2,h3,h4⟩:=Xj h0 hk;exact ta (by omega) h1 h2 h3 h4
end
end Go.Ac
end
