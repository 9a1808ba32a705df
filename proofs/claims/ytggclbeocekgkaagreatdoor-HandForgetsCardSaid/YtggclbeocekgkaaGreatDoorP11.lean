/- Part 11 of the proof: AeRunD, AeRunC. -/
import Derived.Test.YtggclbeocekgkaaGreatDoorP10
set_option linter.all false
section
namespace Go.AE
open Go.RowKit
variable {P:Program}
theorem Cv{x:Nat}:∀ {l:List Nat},(K2 x l=true→IS x l∧x∈l)∧(K2 x l=false→GL x l∧x∉l)
 | []=>⟨fun h=>(by cases h),fun _=>⟨trivial,by simp⟩⟩
 | y :: r=>by
  have ih:=Cv (x:=x) (l:=r);simp only[K2];cases hb:Nat.beq x y with
  | true=>
   have:=Nat.eq_of_beq_eq_true hb;exact⟨fun _=>⟨.inl this,by simp[this]⟩,fun h=>(by cases h)⟩
  | false=>
   have hne:x≠y:=fun e=>by subst e; rw[Nat.beq_refl]at hb; cases hb
   refine⟨fun h=>?_,fun h=>?_⟩
   ·obtain⟨h1,h2⟩:=ih.1 h;exact⟨.inr h1,List.mem_cons_of_mem _ h2⟩
   ·obtain⟨h1,h2⟩:=ih.2 h;exact⟨⟨hne,h1⟩,by simp[hne,h2]⟩
theorem OE:∀ {xs l:List Nat},LU xs l=true→I9 xs l
 | [],_,_=>trivial
 | x :: r,l,h=>by
  simp only[LU]at h;cases hb:K2 x l with
  | true=>rw[hb]at h; cases h
  | false=>rw[hb]at h; exact⟨(Cv.2 hb).1,OE h⟩
theorem Sp{n:Nat}:∀ {l:List Nat},Oa n l=true→D7 n l
 | [],_=>trivial
 | x :: r,h=>by
  simp only[Oa]at h;cases hb:Nat.ble n x with
  | true=>rw[hb]at h; cases h
  | false=>rw[hb]at h; exact⟨WJ hb,Sp h⟩
theorem ZA:∀ {xs l:List Nat},Jb xs l=true→Ed xs l
 | [],_,_=>trivial
 | x :: r,l,h=>by
  simp only[Jb]at h;cases hb:K2 x l with
  | false=>rw[hb]at h; cases h
  | true=>rw[hb]at h; exact⟨(Cv.1 hb).1,ZA h⟩
theorem FT.Fw{f g:FT}(h:FT.FU f g=true):FT.indep f g:=by
 cases f<;>cases g<;>simp only[FT.FU,bA]at h
 ·exact⟨OE h.1,OE h.2⟩
 ·exact⟨OE h.1.1.1.1,Sp h.1.1.1.2,OE h.1.1.2,Sp h.1.2,ZA h.2⟩
 ·exact⟨OE h.1.1.1.1,Sp h.1.1.1.2,OE h.1.1.2,Sp h.1.2,ZA h.2⟩
 ·cases h
theorem YR{fs:List FT}{ft:FT}:∀ {un:List Nat},Ni fs ft un=true→O6 fs ft un
 | [],_=>trivial
 | i :: r,h=>by
  simp only[Ni,bA]at h;exact⟨FT.Fw h.1,YR h.2⟩
theorem xH{id:Nat}:∀ {x:List Nat},UU id x=true→id∉x ∧ ∀ c,c∈x→c<bound
 | [],_=>⟨by simp,fun c hc=>by simp at hc⟩
 | c :: r,h=>by
  simp only[UU]at h;cases hb:Nat.ble bound c with
  | true=>rw[hb]at h; cases h
  | false=>
   rw[hb]at h;simp only[cond_false]at h;cases hq:Nat.beq c id with
   | true=>rw[hq]at h; cases h
   | false=>
    rw[hq]at h;obtain⟨h1,h2⟩:=xH (x:=r) h;have hne:id≠c:=fun e=>by subst e; rw[Nat.beq_refl]at hq; cases hq
    exact⟨by simp[hne,h1],fun b hb'=>by
     simp only[mC]at hb';rcases hb' with rfl|hb'
     ·exact WJ hb
     ·exact h2 b hb'⟩
theorem rL:∀ (x:List Nat) (m:TM),(∀ c,c∈x→c<bound)→(B1 m x).mem=m.mem.less x∧(B1 m x).next=m.next
 | [],m,_=>⟨Mem.ext' (fun c=>by simp[B1,Mem.less]) rfl,rfl⟩
 | b :: r,m,h=>by
  obtain⟨h1,h2⟩:=rL r (m.set b none) (fun c hc=>h c (List.mem_cons_of_mem _ hc))
  simp only[B1];refine⟨?_,h2⟩;rw[h1,TM.CD (h b (by simp))]
  refine Mem.ext' (fun c=>?_) rfl
  simp only[Mem.less,Mem.BB,mC];by_cases hc:c=b
  ·subst hc; simp
  ·by_cases Cx:c∈r<;>simp[hc,Cx]
theorem oM(m0:TM):∀ (x:List Nat) (m:TM),(∀ c,c∈x→c<bound)→(JD m0 m x).next=m.next∧(∀ c,(JD m0 m x).tr.get c=if c∈x then m0.tr.get c else m.tr.get c)
 | [],m,_=>⟨rfl,fun c=>by simp[JD]⟩
 | b :: r,m,hx=>by
  obtain⟨h1,h2⟩:=oM m0 r (m.set b (m0.tr.get b)) (fun c hc=>hx c (List.mem_cons_of_mem _ hc))
  simp only[JD];refine⟨h1,fun c=>?_⟩
  rw[h2 c];have hset:(m.set b (m0.tr.get b)).tr.get c=if c=b then m0.tr.get b else m.tr.get c:=Tr.AH depth _ b _ c (RR (hx b (by simp)))
  by_cases Cx:c∈r
  ·rw[iP Cx,iP (List.mem_cons_of_mem _ Cx)]
  ·rw[iN Cx,hset];by_cases hcb:c=b
   ·subst hcb; simp
   ·rw[iN hcb,iN (by simp[hcb,Cx])]
theorem sU{m:TM}:∀ {x:List Nat},Sy m x=true → ∀ c,c∈x→m.tr.get c=none
 | [],_,c,hc=>by simp at hc
 | b :: r,h,c,hc=>by
  simp only[Sy]at h;split at h<;>first|(cases h; done)|skip
  rename_i hb;simp only[mC]at hc;rcases hc with rfl|hc
  ·exact hb
  ·exact sU h c hc
theorem WD(id:Nat)(t:List Aa)(op:AU):T8 id t op=T3 id (ev t) op:=by cases op<;>rfl
theorem WE(t:List Aa)(op:AU):L4 t op=T2 (ev t) op:=by cases op<;>rfl
theorem Oc{call:AP}(AF:D8 P call){n lim base:Nat}(hn:n≤bound):∀ (ops:List Af) (fs:List FT) (s s':RS),Dj n s.t→lim≤s.m.next →
 (ops.all fun o=>match o.dst with|some d=>decide (d<n)|none=>true)=true→A3 call lim base ops fs s=some s' →
 Dg n lim s s' ∧ ∀ K:AY→Prop,K (s'.st n)→R9 P base ops fs K (Cs n s.t) s.m.mem
 | [],fs,s,s',ht,_,_,h=>by
  simp only[A3,oI]at h;subst h;exact⟨⟨ht,lR _,fun c _ hw=>⟨hw,rfl⟩⟩,fun K hK=>hK⟩
 | o :: r,fs,s,s',ht,hlim,hd,h=>by
  simp only[List.all_cons,bA]at hd;obtain⟨hd1,hd2⟩:=hd;have CU:=ZY hd1;simp only[A3]at h;cases hw:MM s.t o.guard with
  | none=>simp[hw]at h
  | some q=>
   have hwA:T7 (Cs n s.t) o.guard=some q:=by rw[Yt ht]; exact hw
   cases q with
   | false=>
    simp only[hw]at h;obtain⟨p1,p2⟩:=A4 (v:=Ag) hn ht CU;obtain⟨h1,h2⟩:=Oc AF hn r _ ⟨R3 s.t o.dst Ag,s.m,s.wl⟩ s' p1 hlim hd2 h;refine⟨⟨h1.t,h1.next,h1.keep⟩,fun K hK=>?_⟩
    simp only[R9,hwA];rw[← p2];exact h2 K hK
   | true=>
    simp only[hw]at h;by_cases BT:∃ f xs,o.op=.call f xs
    ·obtain⟨f,xs,hop⟩:=BT;simp only[hop]at h;cases hc:MK s.t f xs with
     | none=>simp[hc]at h
     | some ga=>
      obtain⟨g,args⟩:=ga;simp only[hc]at h;generalize hx:o.un.map (base + ·)++VA base fs.length r (fs.length+1)=x at h;cases Ck:call g args (B1 s.m x)with
      | none=>simp[Ck]at h
      | some vmw=>
       obtain⟨v,m',wl⟩:=vmw;simp only[Ck]at h;cases hchk:(Ni fs (.call wl x s.m.next) o.un&&UU (base+fs.length) x&&Sy m' x)with
       | false=>rw[hchk]at h; cases h
       | true=>
        rw[hchk]at h;simp only[cond_true]at h;simp only[bA]at hchk;obtain⟨⟨hi,hX⟩,hN⟩:=hchk;obtain⟨hid,hbx⟩:=xH hX;obtain⟨l1,l2⟩:=rL x s.m hbx;obtain⟨q1,q2,q3⟩:=AF g args _ v m' wl Ck;obtain⟨b1,b2⟩:=oM s.m x m' hbx;obtain⟨p1,p2⟩:=A4 (v:=v) hn ht CU;rw[l2]at q1 q2;obtain⟨h1,h2⟩:=Oc AF hn r _ ⟨R3 s.t o.dst v,JD s.m m' x,FO lim s.wl wl⟩ s' p1 (by show lim≤(JD s.m m' x).next; rw[b1]; omega) hd2 h
        have hless:∀ c,c∉x→(B1 s.m x).mem.get c=s.m.mem.get c:=fun c hcx=>by rw[l1]; simp[Mem.less,hcx]
        refine⟨⟨h1.t,by have:=h1.next; simp only[b1]at this; omega,fun c hc' hw'=>?_⟩,fun K hK=>?_⟩
        ·obtain⟨k1,k2⟩:=h1.keep c hc' hw';obtain⟨k3,k4⟩:=Wn wl s.wl c hc' k1;refine⟨k3,?_⟩;rw[k2];show(JD s.m m' x).tr.get c=s.m.tr.get c;rw[b2 c];by_cases hcx:c∈x
         ·rw[iP hcx]
         ·rw[iN hcx];have:=q2 c (by omega) k4
          rw[hless c hcx]at this;exact this
        ·have hcA:callee (Cs n s.t) f xs=some (g,args):=by rw[bB ht]; exact hc
         simp only[R9,hwA,hop,hcA];refine⟨wl,x,v,(JD s.m m' x).mem,⟨m'.mem,hid,fun c hc'=>sU hN c hc',q1,b1,fun c=>?_,fun c c1 c2 c3=>?_,by rw[← l1]; exact q3 (base+fs.length)⟩,YR hi,?_⟩
         ·exact b2 c
         ·have:=q2 c c2 c1;rw[hless c c3]at this;exact this
         ·rw[← p2];exact h2 K hK
    ·have hne:∀ f xs,o.op≠.call f xs:=fun f xs he=>BT ⟨f,xs,he⟩
     have h':(match Y6 (base+fs.length) (Ch s.t) s.m.tr.get o.op with
      | some (v,d)=>bif Ni fs (FT.ops (T3 (base+fs.length) (Ch s.t) o.op) (T2 (Ch s.t) o.op)) o.un&&FB d then A3 call lim base r (fs++[FT.ops (T3 (base+fs.length) (Ch s.t) o.op) (T2 (Ch s.t) o.op)]) ⟨R3 s.t o.dst v,s.m.apply d,EG lim s.wl d⟩ else none
      | none=>none)=some s':=by
      cases hop:o.op<;>rw[hop]at h<;>first|(exact absurd hop (hne _ _))|exact h
     cases hs:Y6 (base+fs.length) (Ch s.t) s.m.tr.get o.op with
     | none=>simp[hs]at h'
     | some vd=>
      obtain⟨v,d⟩:=vd;simp only[hs]at h';cases hchk:(Ni fs (FT.ops (T3 (base+fs.length) (Ch s.t) o.op) (T2 (Ch s.t) o.op)) o.un&&FB d)with
      | false=>rw[hchk]at h'; cases h'
      | true=>
       rw[hchk]at h';simp only[cond_true]at h';simp only[bA]at hchk;obtain⟨hi,ho⟩:=hchk;obtain⟨p1,p2⟩:=A4 (v:=v) hn ht CU;obtain⟨h1,h2⟩:=Oc AF hn r _ ⟨R3 s.t o.dst v,s.m.apply d,EG lim s.wl d⟩ s' p1 (by show lim≤(s.m.apply d).next; rw[TM.BX]; exact hlim) hd2 h'
       refine⟨⟨h1.t,by have:=h1.next; simp only[TM.BX]at this; exact this,fun c hc hw'=>?_⟩,fun K hK=>?_⟩
       ·obtain⟨k1,k2⟩:=h1.keep c hc hw';obtain⟨k3,k4⟩:=RK d s.wl s.m.mem c hc k1;exact⟨k3,by rw[k2]; show(s.m.apply d).mem.get c=_; rw[TM.Ct _ _ ho]; exact k4⟩
       ·have h3:=WK (n:=n) ht hs ho;have h4:O6 fs (.ops (T8 (base+fs.length) (Cs n s.t) o.op) (L4 (Cs n s.t) o.op)) o.un∧R9 P base r (fs++[.ops (T8 (base+fs.length) (Cs n s.t) o.op) (L4 (Cs n s.t) o.op)]) K (put (Cs n s.t) o.dst v) (s.m.apply d).mem:=by
         rw[WD,WE,Jk ht,← p2];exact⟨YR hi,h2 K hK⟩
        simp only[R9,hwA];cases hop:o.op<;>rw[hop]at h3 h4<;>first|(exact absurd hop (hne _ _))|(simp only[h3]; exact h4)
end Go.AE
end
section
namespace Go.AE
open Go.RowKit
variable {P:Program}
def BO.exit':BO→Exit
 | .normal=>.normal
 | .exit n=>.exit n
 | .ret=>.ret
theorem Nd{a b:Nat}(h:Nat.ble a b=true):a≤b:=Nat.le_of_ble_eq_true h
theorem gR(m:TM)(k:Nat):(⟨m.tr,k⟩:TM).mem=m.mem.at k:=rfl
theorem zf{call:AP}(AF:D8 P call){n lim:Nat}(hn:n≤bound):∀ (f:Nat) (c:An) (s s':RS) (e:BO),Dj n s.t→lim≤s.m.next→U9 n c=true→R7 call lim f c s=some (e,s') →
 Dg n lim s s' ∧ ∀ Q:Exit→AY→Prop,Q e.exit' (s'.st n)→BU P c Q (s.st n):=by
 intro f
 induction f using Nat.strongRecOn with
 | ind f ih=>
  intro c s s' e ht hlim hd h;cases f with
  | zero=>simp[R7]at h
  | succ f=>
   have same:Dg n lim s s:=⟨ht,lR _,fun c _ hw=>⟨hw,rfl⟩⟩
   cases c with
   | skip=>
    simp only[R7,oI,Bm]at h;obtain⟨rfl,rfl⟩:=h;exact⟨same,fun Q hQ=>hQ⟩
   | label l=>
    simp only[R7,oI,Bm]at h;obtain⟨rfl,rfl⟩:=h;exact⟨same,fun Q hQ=>hQ⟩
   | exit i=>
    simp only[R7,oI,Bm]at h;obtain⟨rfl,rfl⟩:=h;exact⟨same,fun Q hQ=>hQ⟩
   | ret=>
    simp only[R7,oI,Bm]at h;obtain⟨rfl,rfl⟩:=h;exact⟨same,fun Q hQ=>hQ⟩
   | bad=>simp[R7]at h
   | region draw ops=>
    cases draw with
    | false=>
     simp only[R7]at h;cases hb:Nat.ble (s.m.next+ops.length) bound with
     | false=>rw[hb]at h; cases h
     | true=>
      rw[hb]at h;simp only[cond_true]at h;cases hr:C6 call lim s.m.next ops 0 ⟨s.t,⟨s.m.tr,s.m.next+ops.length⟩,s.wl⟩ with
      | none=>simp[hr]at h
      | some s2=>
       simp only[hr,oI,Bm]at h;obtain⟨rfl,rfl⟩:=h;obtain⟨h1,h2⟩:=Zip AF hn ops 0 ⟨s.t,⟨s.m.tr,s.m.next+ops.length⟩,s.wl⟩ s2 ht (by show lim≤s.m.next+ops.length; omega) hd hr
       refine⟨⟨h1.t,Nat.le_trans (Nat.le_add_right _ _) h1.next,h1.keep⟩,fun Q hQ=>?_⟩
       exact h2 (Q .normal) hQ
    | true=>
     simp only[R7]at h;cases hb:Nat.ble (s.m.next+ops.length) bound with
     | false=>rw[hb]at h; cases h
     | true=>
      rw[hb]at h;simp only[cond_true]at h;cases hr:A3 call lim s.m.next ops [] ⟨s.t,⟨s.m.tr,s.m.next+ops.length⟩,s.wl⟩ with
      | none=>simp[hr]at h
      | some s2=>
       simp only[hr,oI,Bm]at h;obtain⟨rfl,rfl⟩:=h;obtain⟨h1,h2⟩:=Oc AF hn ops [] ⟨s.t,⟨s.m.tr,s.m.next+ops.length⟩,s.wl⟩ s2 ht (by show lim≤s.m.next+ops.length; omega) hd hr
       refine⟨⟨h1.t,Nat.le_trans (Nat.le_add_right _ _) h1.next,h1.keep⟩,fun Q hQ=>?_⟩
       exact h2 (Q .normal) hQ
   | seq a b=>
    simp only[U9,bA]at hd;simp only[R7]at h;cases hr:R7 call lim f a s with
    | none=>simp[hr]at h
    | some es=>
     obtain⟨e2,s2⟩:=es;obtain⟨h1,h2⟩:=ih f (Nat.lt_succ_self f) a s s2 e2 ht hlim hd.1 hr;cases e2 with
     | normal=>
      simp only[hr]at h;obtain⟨h3,h4⟩:=ih f (Nat.lt_succ_self f) b s2 s' e h1.t (Nat.le_trans hlim h1.next) hd.2 h;exact⟨h1.trans h3,fun Q hQ=>h2 _ (h4 Q hQ)⟩
     | exit i=>
      simp only[hr,oI,Bm]at h;obtain⟨rfl,rfl⟩:=h;exact⟨h1,fun Q hQ=>h2 _ hQ⟩
     | ret=>
      simp only[hr,oI,Bm]at h;obtain⟨rfl,rfl⟩:=h;exact⟨h1,fun Q hQ=>h2 _ hQ⟩
   | cond x a b=>
    simp only[U9,bA]at hd;simp only[R7]at h;have hx:ev (Cs n s.t) x=Ch s.t x:=congrFun (Jk ht) x;split at h
    ·rename_i hb;obtain⟨h1,h2⟩:=ih f (Nat.lt_succ_self f) a s s' e ht hlim hd.1 h;refine⟨h1,fun Q hQ=>?_⟩
     simp only[BU,RS.st,hx,hb];exact h2 Q hQ
    ·rename_i hb;obtain⟨h1,h2⟩:=ih f (Nat.lt_succ_self f) b s s' e ht hlim hd.2 h;refine⟨h1,fun Q hQ=>?_⟩
     simp only[BU,RS.st,hx,hb];exact h2 Q hQ
    ·cases h
   | block i c=>
    simp only[U9]at hd;simp only[R7]at h;cases hr:R7 call lim f c s with
    | none=>simp[hr]at h
    | some es=>
     obtain⟨e2,s2⟩:=es;obtain⟨h1,h2⟩:=ih f (Nat.lt_succ_self f) c s s2 e2 ht hlim hd hr;cases e2 with
     | normal=>
      simp only[hr,oI,Bm]at h;obtain⟨rfl,rfl⟩:=h;exact⟨h1,fun Q hQ=>h2 _ hQ⟩
     | ret=>
      simp only[hr,oI,Bm]at h;obtain⟨rfl,rfl⟩:=h;exact⟨h1,fun Q hQ=>h2 _ hQ⟩
     | exit k=>
      simp only[hr]at h;cases hb:Nat.beq k i with
      | true=>
       rw[hb]at h;simp only[cond_true,oI,Bm]at h;obtain⟨rfl,rfl⟩:=h;have:=Nat.eq_of_beq_eq_true hb;subst this;exact⟨h1,fun Q hQ=>h2 _ (by simp only[BO.exit',Hu,if_true]; exact hQ)⟩
      | false=>
       rw[hb]at h;simp only[cond_false,oI,Bm]at h;obtain⟨rfl,rfl⟩:=h;have hne:k≠i:=fun e=>by subst e; rw[Nat.beq_refl]at hb; cases hb
       exact⟨h1,fun Q hQ=>h2 _ (by simp only[BO.exit',Hu,iN hne]; exact hQ)⟩
   | scope c=>
    simp only[U9]at hd;simp only[R7]at h;obtain⟨h1,h2⟩:=ih f (Nat.lt_succ_self f) c s s' e ht hlim hd h;refine⟨h1,fun Q hQ=>h2 _ ?_⟩
    cases e<;>exact hQ
   | loop c=>
    have hdl:=hd;simp only[U9]at hd;have hfin:Dg n lim s s':=by
     simp only[R7]at h;cases hr:R7 call lim f c s with
     | none=>simp[hr]at h
     | some es=>
      obtain⟨e2,s2⟩:=es;obtain⟨h1,_⟩:=ih f (Nat.lt_succ_self f) c s s2 e2 ht hlim hd hr;cases e2 with
      | normal=>
       simp only[hr]at h;exact h1.trans (ih f (Nat.lt_succ_self f) (.loop c) s2 s' e h1.t (Nat.le_trans hlim h1.next) hdl h).1
      | exit i=>
       simp only[hr,oI,Bm]at h;obtain⟨rfl,rfl⟩:=h;exact h1
      | ret=>
       simp only[hr,oI,Bm]at h;obtain⟨rfl,rfl⟩:=h;exact h1
    refine⟨hfin,fun Q hQ=>?_⟩
    refine⟨fun k σ=>k≤f ∧ ∃ s1,σ=s1.st n∧Dj n s1.t∧lim≤s1.m.next∧R7 call lim (k+1) (.loop c) s1=some (e,s'),⟨f,_,.refl _,lR _,s,rfl,ht,hlim,h⟩,?_⟩
    rintro k σ ⟨hkf,s1,rfl,ht1,hl1,hr1⟩;simp only[R7]at hr1;cases hr:R7 call lim k c s1 with
    | none=>simp[hr]at hr1
    | some es=>
     obtain⟨e2,s2⟩:=es;obtain⟨h1,h2⟩:=ih k (by omega) c s1 s2 e2 ht1 hl1 hd hr
     refine h2 _ ?_;cases e2 with
     | normal=>
      simp only[hr]at hr1;cases k with
      | zero=>simp[R7]at hr1
      | succ k=>exact ⟨k,s2.st n,Nat.lt_succ_self k,.refl _,by omega,s2,rfl,h1.t,Nat.le_trans hl1 h1.next,hr1⟩
     | exit i=>
      simp only[hr,oI,Bm]at hr1;obtain⟨rfl,rfl⟩:=hr1;exact hQ
     | ret=>
      simp only[hr,oI,Bm]at hr1;obtain⟨rfl,rfl⟩:=hr1;exact hQ
end Go.AE
end
