/- Part 31 of the proof: Qa, Qb, Zd. -/
import Derived.Test.YtilmpmlkndfbjaaGreatDoorK22
import Derived.Test.YtilmpmlkndfbjaaGreatDoorK24
import Derived.Test.YtilmpmlkndfbjaaGreatDoorK26
import Derived.Test.YtilmpmlkndfbjaaGreatDoorK30
import Derived.Shelf.SlSortCmp.NoneTotal
import Derived.Test.YtilmpmlkndfbjaaGreatDoorProg
import Derived.Deep.QuietTactic
import Derived.BigQuiet
import Derived.RegionTactic
import Derived.ChangeAlike
import Derived.BigRegion
import Derived.Sort.Grow
import Derived.WalkKit
set_option linter.all false
section
namespace Go.Ab
open Go.Plain
def Lr(T:Nat→Nat):List Nat→Prop
 | []=>False
 | [_]=>True
 | x :: y :: r=>y=T x∧Lr T (y :: r)
def M7(s:List Nat):Nat:=s.getLastD 0
def GH(s:List Nat):Nat:=s.headD 0
theorem Zzq(x:Nat):M7 [x]=x:=rfl
theorem Rl(x y:Nat)(r:List Nat):M7 (x :: y :: r)=M7 (y :: r):=by
 rfl
theorem RX:∀ {s:List Nat},s≠[]→M7 s∈s
 | [x],_=>by simp[Zzq]
 | x :: y :: r,_=>by rw[Rl]; exact List.mem_cons_of_mem _ (RX (by simp))
theorem QI{s:List Nat}(h:s≠[]):GH s∈s:=by
 cases s with
 | nil=>exact absurd rfl h
 | cons x r=>exact List.mem_cons_self
theorem Z99{T:Nat→Nat}{s:List Nat}(h:Lr T s):s≠[]:=fun e=>by subst e; exact h
theorem aO{T:Nat→Nat}{x y:Nat}{r:List Nat}(h:Lr T (x :: y :: r)):Lr T (y :: r):=h.2
theorem Wj{T:Nat→Nat}:∀ {s:List Nat},Lr T s → ∀ x,x∈s → ∃ j,it T j x=M7 s
 | [y],_,x,hx=>by
  rw[List.mem_singleton]at hx;subst hx;exact⟨0,rfl⟩
 | y :: z :: r,h,x,hx=>by
  rw[Rl];rcases mC.1 hx with rfl|hx
  ·obtain⟨j,hj⟩:=Wj (aO h) z List.mem_cons_self;refine⟨j+1,?_⟩;show T (it T j x)=_;have e:=MR T j x;rw[← e,← h.1];exact hj
  ·exact Wj (aO h) x hx
theorem cT{T:Nat→Nat}:∀ {s:List Nat},Lr T s→s.Nodup → ∀ y,y∈s→y=GH s ∨ ∃ x,x∈s∧T x=y∧x≠M7 s
 | [z],_,_,y,hy=>by
  rw[List.mem_singleton]at hy;exact .inl hy
 | a :: b :: r,h,hn,y,hy=>by
  rw[List.nodup_cons]at hn;rcases mC.1 hy with rfl|hy
  ·exact .inl rfl
  ·refine .inr ?_;rw[Rl];rcases cT (aO h) hn.2 y hy with e|⟨x,h1,h2,h3⟩
   ·refine⟨a,List.mem_cons_self,?_,fun e2=>?_⟩
    ·rw[e]; exact h.1.symm
    ·exact hn.1 (e2 ▸ RX (by simp))
   grind
theorem XA{S:List (List Nat)}(hn:S.flatten.Nodup):∀ {s s':List Nat} {x:Nat},s∈S→s'∈S→x∈s→x∈s'→s=s':=by
 unfold List.Nodup at hn;have h2:=(List.pairwise_flatten.1 hn).2;clear hn
 induction S with
 | nil=>grind
 | cons a r ih=>
  intro s s' x hs hs' hx hx';rw[List.pairwise_cons]at h2
  grind
theorem lF{S:List (List Nat)}(hn:S.flatten.Nodup){s:List Nat}(h:s∈S):s.Nodup:=by
 grind
structure kT (T:Nat→Nat) (N:Nat) (S:List (List Nat)):Prop where
 seg:∀ s,s∈S→Lr T s
 nd:S.flatten.Nodup
 XH:∀ d,d<N↔d∈S.flatten
section
variable {T:Nat→Nat} {N:Nat} (hP:Cn T N)
include hP
theorem ZA:∀ (k:Nat) (seen:List Bool),k≤N→Jp T N seen → ∀ w,w∈FK T N k seen→w.Nodup ∧ ∀ a b,a∈w→b∈w → ∃ j,it T j a=b
 | 0,seen,_,_,w,hw=>by simp[FK]at hw
 | k+1,seen,hk,hc,w,hw=>by
  have hx:N - (k+1)<N:=by omega
  simp only[FK]at hw;cases h:seen.getD (N - (k+1)) true with
  | true=>
   rw[h,iP rfl]at hw;exact ZA k seen (by omega) hc w hw
  | false=>
   rw[h,iN (by simp)]at hw
   rcases mC.1 hw with rfl|hw
   ·obtain⟨L,h0,h1,h2,h3,h4,h5⟩:=QJ hP hc hx h;rw[h4];refine⟨OT (fun i j hi hj e=>?_) List.nodup_range',fun a b ha hb=>?_⟩
    ·have hi:i<L:=by simpa using hi
     have hj:j<L:=by simpa using hj
     have key:∀ i j,i<j→j<L→it T i (N - (k+1))≠it T j (N - (k+1)):=fun i j hij hj e=>by
      have e2:=Nn T (N - (k+1)) i (j - i);rw[show i+(j - i)=j by omega,← e]at e2
      exact h3 (j - i) (by omega) (by omega) (Xa hP i hx (H0 hP hx _) e2).symm
     grind
    ·obtain⟨i,hi,rfl⟩:=mM.1 ha;obtain⟨j,hj,rfl⟩:=mM.1 hb;have hi:i<L:=by simpa using hi
     refine⟨j+(L - i),?_⟩;rw[Nn,← Nn T _ (L - i) i,show L - i+i=L by omega,h2]
   ·exact ZA k _ (by omega) (YI hP hc hx h) w hw
theorem Z4t:∀ w,w∈H3 T N→w.Nodup ∧ ∀ a b,a∈w→b∈w → ∃ j,it T j a=b:=ZA hP N _ (lR _) (sY hP)
variable {S:List (List Nat)} (hC:kT T N S)
include hC
omit hP in
theorem Lz{s:List Nat}(h:s∈S):s≠[]:=Z99 (hC.seg s h)
omit hP in
theorem LK{s:List Nat}{x:Nat}(h:s∈S)(hx:x∈s):x<N:=(hC.XH x).2 (List.mem_flatten.2 ⟨s,h,hx⟩)
theorem rH{s:List Nat}(h:s∈S):T (M7 s)∈S.map GH:=by
 have hl:=RX (Lz hC h);have hlt:=hP.lt _ (LK hC h hl);obtain⟨s',h1,h2⟩:=List.mem_flatten.1 ((hC.XH _).1 hlt);rcases cT (hC.seg s' h1) (lF hC.nd h1) _ h2 with e|⟨x,e1,e2,e3⟩
 ·grind
 ·have:=hP.inj _ _ (LK hC h1 e1) (LK hC h hl) e2;subst this;have:=XA hC.nd h h1 hl e1
  grind
omit hP in
def N4(S:List (List Nat))(x:Nat):Bool:=decide (x∈S.map GH)
def Mj(T:Nat→Nat)(s:List Nat):Bool:=decide (T (M7 s)=GH s)
theorem YD{w:List Nat}(hw:w∈H3 T N){x:Nat}(hx:x∈w):∀ j,it T j x∈w
 | 0=>hx
 | j+1=>(Xm hP w hw _ (YD hw hx j)).2
theorem yS{w:List Nat}(hw:w∈H3 T N):∃ s,s∈S∧M7 s∈w∧T (M7 s)∈w.filter (N4 S):=by
 have hpos:=oS (n:=N) w hw;obtain⟨x,hx⟩:∃ x,x∈w:=List.exists_mem_of_length_pos hpos
 have hlt:=(Xm hP w hw x hx).1;obtain⟨s,h1,h2⟩:=List.mem_flatten.1 ((hC.XH _).1 hlt);obtain⟨j,hj⟩:=Wj (hC.seg s h1) x h2;have hl:=YD hP hC hw hx j;rw[hj]at hl;exact⟨s,h1,hl,List.mem_filter.2 ⟨(Xm hP w hw _ hl).2,by unfold N4; exact decide_eq_true (rH hP hC h1)⟩⟩
theorem Z47{w:List Nat}(hw:w∈H3 T N):2≤(w.filter (N4 S)).length+(w.filter (N4 (S.filter (Mj T)))).length:=by
 obtain⟨s,h1,h2,h3⟩:=yS hP hC hw;by_cases h:2≤(w.filter (N4 S)).length
 ·omega
 ·have hp:=List.length_pos_of_mem h3;obtain⟨a,ha⟩:∃ a,w.filter (N4 S)=[a]:=List.length_eq_one_iff.1 (by omega)
  have hh:=(List.mem_filter.1 h3).2;unfold N4 at hh;obtain⟨s',g1,g2⟩:=mM.1 (of_decide_eq_true hh);have hT:T (M7 s)∈w:=by grind
  have hl':M7 s'∈w:=by
   obtain⟨j,hj⟩:=Wj (hC.seg s' g1) _ (QI (Lz hC g1));rw[← hj,g2];exact YD hP hC hw hT j
  have h4:T (M7 s')∈w.filter (N4 S):=List.mem_filter.2 ⟨(Xm hP w hw _ hl').2,by unfold N4; exact decide_eq_true (rH hP hC g1)⟩
  rw[ha,List.mem_singleton]at h3 h4;have Cm:Mj T s'=true:=by
   unfold Mj;rw[h4,g2,h3];simp
  have:T (M7 s)∈w.filter (N4 (S.filter (Mj T))):=List.mem_filter.2 ⟨hT,by
   unfold N4;exact decide_eq_true (mM.2 ⟨s',List.mem_filter.2 ⟨g1,Cm⟩,g2⟩)⟩
  grind
omit hP hC in
theorem wX(R:List (List Nat)):((List.range N).filter (N4 R)).length≤R.length:=by
 have:=List.Nodup.length_le_of_subset (l₁:=(List.range N).filter (N4 R)) (l₂:=R.map GH) (List.nodup_range.filter _) fun y hy=>by
  have:=(List.mem_filter.1 hy).2;unfold N4 at this
  grind
 simpa using this
omit hP hC in
theorem uU{f:List Nat→Nat}{c:Nat}:∀ (L:List (List Nat)),(∀ w,w∈L→c≤f w)→c*L.length≤(L.map f).sum
 | [],_=>by simp
 | w :: r,h=>by
  have h1:=h w List.mem_cons_self;have h2:=uU r fun w hw=>h w (List.mem_cons_of_mem _ hw)
  rw[lC,List.map_cons,List.sum_cons,Nat.mul_add];omega
omit hP hC in
theorem sM{f:List Nat→Nat}{c:Nat}:∀ (L:List (List Nat)),(∀ w,w∈L→f w≤c)→(L.map f).sum≤c*L.length
 | [],_=>by simp
 | w :: r,h=>by
  have h1:=h w List.mem_cons_self;have h2:=sM r fun w hw=>h w (List.mem_cons_of_mem _ hw)
  rw[lC,List.map_cons,List.sum_cons,Nat.mul_add];omega
omit hP hC in
theorem rP{f g:List Nat→Nat}:∀ (L:List (List Nat)),(L.map fun w=>f w+g w).sum=(L.map f).sum+(L.map g).sum
 | []=>rfl
 | w :: r=>by
  rw[List.map_cons,List.map_cons,List.map_cons,List.sum_cons,List.sum_cons,List.sum_cons,rP r];omega
omit hP hC in
theorem oF:H5 T N=(H3 T N).length:=by
 unfold H5 H3;rw[Tj]
theorem qn:2*H5 T N≤S.length+(S.filter (Mj T)).length:=by
 have h1:=uU (f:=fun w=>(w.filter (N4 S)).length+(w.filter (N4 (S.filter (Mj T)))).length) (c:=2) (H3 T N) fun w hw=>Z47 hP hC hw
 rw[rP,Zq hP,Zq hP]at h1;have h2:=wX (N:=N) S;have h3:=wX (N:=N) (S.filter (Mj T));rw[oF];omega
theorem Z91(Cm:∀ s,s∈S→T (M7 s)=GH s):H5 T N=S.length:=by
 have hf:S.filter (Mj T)=S:=List.filter_eq_self.2 fun s hs=>by unfold Mj; grind
 have h1:=qn hP hC;rw[hf]at h1;have closed:∀ s,s∈S → ∀ x,x∈s→T x∈s:=fun s hs x hx=>by
  have hlt:=hP.lt _ (LK hC hs hx);obtain⟨s',g1,g2⟩:=List.mem_flatten.1 ((hC.XH _).1 hlt);rcases cT (hC.seg s' g1) (lF hC.nd g1) _ g2 with e|⟨z,e1,e2,e3⟩
  ·rw[← Cm s' g1]at e;have:=hP.inj _ _ (LK hC hs hx) (LK hC g1 (RX (Lz hC g1))) e;rw[XA hC.nd hs g1 hx (this ▸ RX (Lz hC g1))];exact g2
  ·have:=hP.inj _ _ (LK hC g1 e1) (LK hC hs hx) e2;subst this;rw[XA hC.nd hs g1 hx e1];exact g2
 have closed':∀ s,s∈S → ∀ x,x∈s → ∀ j,it T j x∈s:=fun s hs x hx j=>by
  induction j with
  | zero=>exact hx
  | succ j ih=>exact closed s hs _ ih
 have h2:=sM (f:=fun w=>(w.filter (N4 S)).length) (c:=1) (H3 T N) fun w hw=>by
  obtain⟨Ob,hre⟩:=Z4t hP w hw;rcases hl:w.filter (N4 S)with _|⟨a,_|⟨b,r⟩⟩
  ·simp
  ·simp
  ·exfalso;have hnd2:=Ob.filter (N4 S);rw[hl]at hnd2;have ha:a∈w.filter (N4 S):=by rw[hl]; simp
   have hb:b∈w.filter (N4 S):=by rw[hl]; simp
   obtain⟨a1,a2⟩:=List.mem_filter.1 ha;obtain⟨b1,b2⟩:=List.mem_filter.1 hb;unfold N4 at a2 b2;obtain⟨s,c1,c2⟩:=mM.1 (of_decide_eq_true a2);obtain⟨s',d1,d2⟩:=mM.1 (of_decide_eq_true b2);obtain⟨j,hj⟩:=hre a b a1 b1;have hm:=closed' s c1 a (c2 ▸ QI (Lz hC c1)) j;rw[hj]at hm;have:=XA hC.nd c1 d1 hm (d2 ▸ QI (Lz hC d1))
   simp_all
 have h3:S.length≤((List.range N).filter (N4 S)).length:=by
  have Ob:(S.map GH).Nodup:=by
   have hS:=hC.nd;unfold List.Nodup at hS;rw[List.pairwise_flatten]at hS;unfold List.Nodup;rw[List.pairwise_map];refine List.Pairwise.imp_of_mem (fun {a b} ha hb h e=>?_) hS.2
   exact h _ (QI (Lz hC ha)) _ (QI (Lz hC hb)) e
  have:=List.Nodup.length_le_of_subset (l₁:=S.map GH) (l₂:=(List.range N).filter (N4 S)) Ob fun y hy=>by
   obtain⟨s,hs,rfl⟩:=mM.1 hy;exact List.mem_filter.2 ⟨mR.2 (LK hC hs (QI (Lz hC hs))),by unfold N4; grind⟩
  simpa using this
 rw[Zq hP]at h2;rw[oF]at h1 ⊢;omega
end
end Go.Ab
end
section
namespace Go.Ab
open Go.Plain
def GS(T:Nat→Nat):Nat→List Nat→Nat→Prop
 | s,[],e=>s=e
 | s,x :: p,e=>x=T s∧GS T x p e
theorem GS.app{T:Nat→Nat}:∀ {p:List Nat} {s e g:Nat} {q:List Nat},GS T s p e→GS T e q g→GS T s (p++q) g
 | [],_,_,_,_,h,h'=>by
  have:_=_:=h;subst this;exact h'
 | x :: p,_,_,_,_,h,h'=>⟨h.1,h.2.app h'⟩
theorem GS.seg{T:Nat→Nat}:∀ {p:List Nat} {s e:Nat},GS T s p e→p≠[]→Lr T p∧GH p=T s∧M7 p=e
 | [x],s,e,h,_=>⟨trivial,h.1,h.2⟩
 | x :: y :: p,s,e,h,_=>by
  obtain⟨h1,h2,h3⟩:=GS.seg h.2 (by simp)
  refine⟨⟨?_,h1⟩,h.1,by rw[Rl]; exact h3⟩
  exact h2
def RD(T:Nat→Nat)(w:List Nat):Prop:=w≠[] ∧ ∃ z,GS T z w z
theorem RD.seg{T:Nat→Nat}{w:List Nat}(h:RD T w):Lr T w∧T (M7 w)=GH w:=by
 obtain⟨h0,z,h⟩:=h;obtain⟨h1,h2,h3⟩:=h.seg h0
 grind
def FN(T bk:Nat→Nat):Nat→List Nat→List (List Nat)→Prop
 | _,[],[]=>True
 | s,x :: fr,p :: ps=>p≠[]∧GS T s p x∧FN T bk (bk x) fr ps
 | _,_,_=>False
def Pt(bk:Nat→Nat):Nat→List Nat→Nat
 | s,[]=>s
 | _,x :: l=>Pt bk (bk x) l
section
variable {T bk:Nat→Nat}
theorem FN.split:∀ {l r:List Nat} {s:Nat} {ps:List (List Nat)},FN T bk s (l++r) ps → ∃ p1 p2,ps=p1++p2∧FN T bk s l p1∧FN T bk (Pt bk s l) r p2
 | [],r,s,ps,h=>⟨[],ps,rfl,trivial,h⟩
 | x :: l,r,s,p :: ps,h=>by
  obtain⟨p1,p2,e,h1,h2⟩:=FN.split (l:=l) h.2.2;exact⟨p :: p1,p2,by rw[e]; rfl,⟨h.1,h.2.1,h1⟩,h2⟩
theorem FN.app:∀ {l r:List Nat} {s:Nat} {p1 p2:List (List Nat)},FN T bk s l p1→FN T bk (Pt bk s l) r p2→FN T bk s (l++r) (p1++p2)
 | [],_,_,[],_,_,h=>h
 | _ :: _,_,_,_ :: _,_,h,h'=>⟨h.1,h.2.1,h.2.2.app h'⟩
def RE(T bk:Nat→Nat):Nat→List Nat→Nat→Prop
 | e,[],u=>u=T e
 | e,o :: os,u=>o=T e∧RE T bk (bk o) os u
def Iq(T bk:Nat→Nat):List Nat→Prop
 | []=>False
 | [_]=>True
 | y :: y' :: r=>T y'=bk y∧Iq T bk (y' :: r)
theorem pF{u z:Nat}{pz:List Nat}{r:List Nat}{pr:List (List Nat)}(hz:GS T u pz z)(hr:FN T bk (bk z) r pr):∀ (outs:List Nat) (s e:Nat) (q:List Nat),GS T s q e→RE T bk e outs u →
 ∃ ps,FN T bk s (outs++z :: r) ps∧ps.flatten=q++outs++u :: (pz++pr.flatten)
 | [],s,e,q,hq,h=>by
  have h:u=T e:=h;refine⟨(q++u :: pz) :: pr,⟨by simp,hq.app ⟨h,hz⟩,hr⟩,by simp⟩
 | o :: os,s,e,q,hq,h=>by
  obtain⟨ps,h1,h2⟩:=pF hz hr os (bk o) (bk o) [] rfl h.2;refine⟨(q++[o]) :: ps,⟨by simp,hq.app ⟨h.1,rfl⟩,h1⟩,?_⟩
  grind
theorem sE:∀ (ins r:List Nat) (s:Nat) (ps:List (List Nat)),Iq T bk ins→r≠[]→FN T bk s (ins++r) ps →
 ∃(p1:List Nat) (z:Nat) (r' pz:List Nat) (pr cl:List (List Nat)),GS T s p1 (GH ins)∧r=z :: r'∧pz≠[]∧GS T (bk (M7 ins)) pz z∧FN T bk (bk z) r' pr∧(∀ w,w∈cl→RD T w)∧cl.length+1=ins.length ∧
  (cl.flatten++p1++bk (M7 ins) :: (pz++pr.flatten)).Perm (ps.flatten++ins.map bk)
 | [y],r,s,ps,_,hr,h=>by
  cases r with
  | nil=>exact absurd rfl hr
  | cons z r'=>
   match ps,h with
   | [],h=>exact h.elim
   | [_],h=>exact h.2.2.elim
   | p1 :: pz :: pr,h=>
    refine⟨p1,z,r',pz,pr,[],h.2.1,rfl,h.2.2.1,h.2.2.2.1,h.2.2.2.2,fun w hw=>(by cases hw),rfl,?_⟩
    show(p1++bk y :: (pz++pr.flatten)).Perm _
    grind
 | y :: y' :: t,r,s,ps,hs,hr,h=>by
  match ps,h with
  | [],h=>exact h.elim
  | p :: ps,h=>
   obtain⟨p1,z,r',pz,pr,cl,a1,a2,a3,a4,a5,a6,a7,a8⟩:=sE (y' :: t) r (bk y) ps hs.2 hr h.2.2;refine⟨p,z,r',pz,pr,(p1++[bk y]) :: cl,h.2.1,a2,a3,by rw[Rl]; exact a4,a5,fun w hw=>?_,by grind,?_⟩
   ·rcases mC.1 hw with rfl|hw
    ·refine⟨by simp,bk y,a1.app ⟨?_,rfl⟩⟩
     exact hs.1.symm
    ·exact a6 w hw
   ·rw[Rl];rw[List.flatten_cons,List.flatten_cons,List.map_cons];generalize bk (M7 (y' :: t)) :: (pz++pr.flatten)=X at *;generalize (y' :: t).map bk=M at *;have e1:(p1++[bk y]++cl.flatten++p++X).Perm (p++([bk y]++(cl.flatten++p1++X))):=by
     rw[List.perm_iff_count];intro a;simp only[List.count_append];omega
    grind
def GU(T bk:Nat→Nat)(A:Nat)(front FE:List Nat)(c:Nat):Prop:=
 ∃ ps cl:List (List Nat),FN T bk A (front++[A]) ps∧(∀ w,w∈cl→RD T w)∧cl.length=c∧(cl.flatten++ps.flatten).Perm FE
variable {A:Nat}
theorem GU.cap{l r FE:List Nat}{x y c:Nat}(h:GU T bk A (l++x :: y :: r) FE c)(hx:bk x=y)(hy:bk y=x):GU T bk A (l++r) FE (c+1):=by
 obtain⟨ps,cl,h1,h2,h3,h4⟩:=h;rw[List.append_assoc]at h1;obtain⟨p1,p2,rfl,g1,g2⟩:=h1.split;obtain⟨z,r',hz⟩:∃ z r',r++[A]=z :: r':=by
  cases r with
  | nil=>exact ⟨A,[],rfl⟩
  | cons a b=>grind
 have e:(x :: y :: r)++[A]=x :: y :: z :: r':=by rw[← hz]; rfl
 rw[e]at g2
 match p2,g2 with
 | [],g2=>exact g2.elim
 | [_],g2=>exact g2.2.2.elim
 | [_,_],g2=>exact g2.2.2.2.2.elim
 | px :: py :: pz :: pr,g2=>
  obtain⟨n1,c1,n2,c2,n3,c3,g3⟩:=g2;rw[hx]at c2;rw[hy]at c3;refine⟨p1++(px++pz) :: pr,py :: cl,?_,fun w hw=>?_,by rw[lC,h3],?_⟩
  ·rw[List.append_assoc,hz];exact g1.app ⟨by simp[n1],c1.app c3,g3⟩
  ·rcases mC.1 hw with rfl|hw
   ·exact⟨n2,y,c2⟩
   ·exact h2 w hw
  grind
theorem GU.DE{l ins outs r FE:List Nat}{c:Nat}(h:GU T bk A (l++ins++r) FE c)(hs:Iq T bk ins)(hr:RE T bk (GH ins) outs (bk (M7 ins))) :
 GU T bk A (l++outs++r) (FE++(outs++ins.map bk)) (c+(ins.length - 1)):=by
 obtain⟨ps,cl,h1,h2,h3,h4⟩:=h;rw[List.append_assoc,List.append_assoc]at h1;obtain⟨p1,p2,rfl,g1,g2⟩:=h1.split;obtain⟨q1,z,r',pz,pr,cl',a1,a2,a3,a4,a5,a6,a7,a8⟩:=sE ins (r++[A]) _ p2 hs (by simp) g2
 obtain⟨ps',b1,b2⟩:=pF a4 a5 outs _ _ q1 a1 hr;refine⟨p1++ps',cl'++cl,?_,fun w hw=>?_,by grind,?_⟩
 ·rw[List.append_assoc,List.append_assoc,a2];exact g1.app b1
 ·grind
 ·rw[List.perm_iff_count]at h4 a8 ⊢;intro a;have h4:=h4 a;have a8:=a8 a
  grind
theorem GU.done{FE:List Nat}{c:Nat}(h:GU T bk A [] FE c):∃ S:List (List Nat),(∀ s,s∈S→RD T s)∧S.flatten.Perm FE∧S.length=c+1:=by
 obtain⟨ps,cl,h1,h2,h3,h4⟩:=h
 match ps,h1 with
 | [],h1=>exact h1.elim
 | [p],h1=>
  refine⟨p :: cl,fun s hs=>?_,?_,by rw[lC,h3]⟩
  ·rcases mC.1 hs with rfl|hs
   ·exact⟨h1.1,A,h1.2.1⟩
   ·exact h2 s hs
  grind
 | _ :: _ :: _,h1=>exact h1.2.2.elim
end
end Go.Ab
end
section
namespace Go.Ab
open Go.Plain
theorem uG:∀ (l:List Lt) (met:List Int),met.Nodup→(l.foldl P9 met).Nodup
 | [],_,h=>h
 | a :: r,met,h=>by
  rw[List.foldl_cons];refine uG r _ ?_;unfold P9;split
  ·rename_i hc;have hn:a.i∉met:=fun hm=>by
    have:∀ m:List Int,a.i∈m→Y9 a.i m≠0:=by
     intro m
     induction m with
     | nil=>intro c; cases c
     | cons z r ih=>
      intro c;simp only[Y9];by_cases e:a.i=z
      ·rw[iP e]; decide
      ·rw[iN e];rcases mC.1 c with c|c
       ·exact absurd c e
       ·rw[iN (ih c)]; omega
    exact this met hm hc.2
   grind
  ·exact h
theorem sG{ls:List Lt}:∀ met:List Int,met.Nodup→(∀ z,z∈met→Ir z ls=2)→Z7 (fun l=>Bv l&&met.contains l.i) ls=2*met.length
 | [],_,_=>by
  have:Z7 (fun l=>Bv l&&([]:List Int).contains l.i) ls=Z7 (fun _=>false) ls:=by grind
  rw[this];simp[Z7]
 | z :: r,hn,ht=>by
  rw[List.nodup_cons]at hn;have h1:=VI (fun l=>Bv l&&(z :: r).contains l.i) (fun l=>l.i == z) ls
  have e1:Z7 (fun l=>Bv l&&(z :: r).contains l.i&&(l.i == z)) ls=Ir z ls:=by
   unfold Ir;refine B9 fun l _=>?_
   by_cases hz:l.i=z
   ·simp[hz]
   ·have:(l.i == z)=false:=by simpa using hz
    simp[this]
  have e2:Z7 (fun l=>Bv l&&(z :: r).contains l.i && !(l.i == z)) ls=Z7 (fun l=>Bv l&&r.contains l.i) ls:=by
   refine B9 fun l _=>?_
   by_cases hz:l.i=z
   ·have:=hn.1;simp[hz,this]
   ·simp[hz]
  rw[e1,e2,ht z (List.mem_cons_self ..),sG r hn.2 (fun w hw=>ht w (List.mem_cons_of_mem _ hw))]at h1
  grind
theorem Z8t{y:List Lt}{z:Int}(h:z∈W8 y y.length):∃ a,a∈y∧a.k=2∧a.i=z:=by
 have:∀ (l:List Lt) (met:List Int),z∈l.foldl P9 met→z∈met ∨ ∃ a,a∈l∧a.k=2∧a.i=z:=by
  intro l
  induction l with
  | nil=>exact fun met h=>.inl h
  | cons a r ih=>
   intro met h;rw[List.foldl_cons]at h;rcases ih _ h with h|⟨b,h1,h2⟩
   ·rcases Z9s h with h|h
    ·exact .inl h
    ·exact .inr ⟨a,List.mem_cons_self ..,h⟩
   ·exact .inr ⟨b,List.mem_cons_of_mem _ h1,h2⟩
 unfold W8 at h
 grind
theorem Z8s{y:List Lt}(h:∀ a,a∈y→a.k=2→Ir a.i y=2):Lq (X8 y):=by
 have hvis:U0 (X8 y)=U0 y:=by
  rw[aU];unfold U0;rw[Wd];exact B9 fun l _=>by unfold Bv; rw[HP]
 have hlen:2*(W8 y y.length).length≤U0 y:=by
  rw[← sG (ls:=y) (W8 y y.length) (uG _ [] List.nodup_nil) fun z hz=>by
   obtain⟨a,h1,h2,rfl⟩:=Z8t hz;exact h a h1 h2]
  exact uP fun l hl=>by simp at hl; exact hl.1
 intro a hm hk;rw[hvis];rw[aU]at hm;obtain⟨b,hb,rfl⟩:=mM.1 hm;rw[HP]at hk;rw[Iu hk];simp only;obtain⟨p,hp,rfl⟩:=Xy hb;have h1:=Yf hp hk;have h2:=Wt h1 (y.length - (p+1)) (by omega)
 rw[show p+1+(y.length - (p+1))=y.length by omega]at h2
 have h3:=Vu (x:=(at' y p).i) (met:=W8 y y.length);omega
section
variable {f:Int} {y:List Lt} (hv:Co f y) (h0:y≠[])
include hv h0
end
end Go.Ab
end
