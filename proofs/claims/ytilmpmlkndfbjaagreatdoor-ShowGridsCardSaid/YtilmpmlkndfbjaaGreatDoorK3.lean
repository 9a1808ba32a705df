/- Part 3 of the proof: AeGe, AeGf. -/
import Derived.Test.YtilmpmlkndfbjaaGreatDoorK2
set_option linter.all false
section
namespace Go.AE
open Go.RowKit
variable {P:Program}
abbrev CE:=Fn→List Aa→TM→Option (Aa×TM×List Nat)
def RU(cw:BX)(fc:CE):Prop:=
 ∀ fn args m v m' wl,fc fn args m=some (v,m',wl)→m.next≤m'.next∧(∀ c,c<m.next→c∉wl→m'.mem.get c=m.mem.get c) ∧ ∀ id (K:Aa→Mem→Prop),K v m'.mem→cw fn args m.mem id K
def WN(t:Tr Aa)(f:Ah)(xs:List Ah):Option (Fn×List Aa):=
 match CA t f with
 | .func (.func g) first cap=>some (.func g,first++xs.map (CA t)++cap)
 | .DU b=>some (.yield b,xs.map (CA t))
 | _=>none
theorem tn{n:Nat}{t:Tr Aa}(ht:EE n t)(f:Ah)(xs:List Ah):MS (Cg n t) f xs=WN t f xs:=by
 simp only[MS,WN,Js ht];rfl
abbrev FC:=Nat→(Ah→Aa)→(Nat→Option Ag)→AQ→Option (Aa×List (Nat×Option Ag))
def Xk(st:CN)(sd:FC):Prop:=
 ∀(n id:Nat) (t:Tr Aa) (m:TM) (op:AQ) (v:Aa) (d:List (Nat×Option Ag)),EE n t→sd id (CA t) m.tr.get op=some (v,d)→FZ d=true→st id (Cg n t) m.mem op=some (v,(m.apply d).mem)
theorem WM:Xk Ae Ak:=fun _ _ _ _ _ _ _ ht h hd=>SP ht h hd
def Hz(sd:FC)(fc:CE)(lim base:Nat):List Af→Nat→RS→Option RS
 | [],_,s=>some s
 | o :: r,i,s=>
  match MD s.t o.guard with
  | some false=>Hz sd fc lim base r (i+1) { s with t:=S9 s.t o.dst Aj }
  | some true=>
   match o.op with
   | .call f xs=>match WN s.t f xs with
    | some (g,args)=>match fc g args s.m with
     | some (v,m',wl)=>Hz sd fc lim base r (i+1) ⟨S9 s.t o.dst v,m',Ge lim s.wl wl⟩
     | none=>none
    | none=>none
   | op=>match sd (base+i) (CA s.t) s.m.tr.get op with
    | some (v,[])=>Hz sd fc lim base r (i+1) ⟨S9 s.t o.dst v,s.m,s.wl⟩
    | some (v,d)=>bif FZ d then Hz sd fc lim base r (i+1) ⟨S9 s.t o.dst v,s.m.apply d,Eh lim s.wl d⟩ else none
    | none=>none
  | none=>none
def T1(sd:FC)(fc:CE)(call:Au)(dr sc:Bool)(lim:Nat):Nat→Aq→RS→Option (CV×RS)
 | 0,_,_=>none
 | f+1,c,s=>
  match c with
  | .skip | .label _=>some (.normal,s)
  | .region false ops=>
   bif Nat.ble (s.m.next+ops.length) bound then match Hz sd fc lim s.m.next ops 0 ⟨s.t,⟨s.m.tr,s.m.next+ops.length⟩,s.wl⟩ with
    | some s'=>some (.normal,s')
    | none=>none
   else none
  | .region true ops=>
   bif dr then bif Nat.ble (s.m.next+ops.length) bound then match Fc call lim s.m.next ops [] ⟨s.t,⟨s.m.tr,s.m.next+ops.length⟩,s.wl⟩ with
    | some s'=>some (.normal,s')
    | none=>none
   else none else none
  | .seq a b=>match T1 sd fc call dr sc lim f a s with
   | some (.normal,s')=>T1 sd fc call dr sc lim f b s'
   | r=>r
  | .cond c a b=>match CA s.t c with
   | .bool true=>T1 sd fc call dr sc lim f a s
   | .bool false=>T1 sd fc call dr sc lim f b s
   | _=>none
  | .block id c=>match T1 sd fc call dr sc lim f c s with
   | some (.exit n,s')=>bif Nat.beq n id then some (.normal,s')else some (.exit n,s')
   | r=>r
  | .loop c=>match T1 sd fc call dr sc lim f c s with
   | some (.normal,s')=>T1 sd fc call dr sc lim f (.loop c) s'
   | r=>r
  | .exit n=>some (.exit n,s)
  | .scope c=>bif sc then T1 sd fc call dr sc lim f c s else none
  | .ret=>some (.ret,s)
  | .bad=>none
theorem SE{st:CN}{sd:FC}(Od:Xk st sd){cw:BX}{fc:CE}(Aw:RU cw fc){n lim base:Nat}(hn:n≤bound):∀ (ops:List Af) (i:Nat) (s s':RS),EE n s.t→lim≤s.m.next →
 (ops.all fun o=>match o.dst with|some d=>decide (d<n)|none=>true)=true→Hz sd fc lim base ops i s=some s' →
 BP n lim s s' ∧ ∀ K:AO→Prop,K (s'.st n)→J5 st cw base ops i K (Cg n s.t) s.m.mem
 | [],i,s,s',ht,_,_,h=>by
  simp only[Hz,oI]at h;subst h;exact⟨⟨ht,lR _,fun c _ hw=>⟨hw,rfl⟩⟩,fun K hK=>hK⟩
 | o :: r,i,s,s',ht,hlim,hd,h=>by
  simp only[List.all_cons,bA]at hd;obtain⟨hd1,hd2⟩:=hd;have Ej:=ZV hd1;simp only[Hz]at h;cases hw:MD s.t o.guard with
  | none=>simp[hw]at h
  | some q=>
   have hwA:T9 (Cg n s.t) o.guard=some q:=by rw[bM ht]; exact hw
   cases q with
   | false=>
    simp only[hw]at h;obtain⟨p1,p2⟩:=JN (v:=Aj) hn ht Ej;obtain⟨h1,h2⟩:=SE Od Aw hn r (i+1) ⟨S9 s.t o.dst Aj,s.m,s.wl⟩ s' p1 hlim hd2 h;refine⟨⟨h1.t,h1.next,h1.keep⟩,fun K hK=>?_⟩
    simp only[J5,hwA];rw[← p2];exact h2 K hK
   | true=>
    simp only[hw]at h;have other:(∀ f xs,o.op≠.call f xs)→(match sd (base+i) (CA s.t) s.m.tr.get o.op with
     | some (v,[])=>Hz sd fc lim base r (i+1) ⟨S9 s.t o.dst v,s.m,s.wl⟩
     | some (v,d)=>bif FZ d then Hz sd fc lim base r (i+1) ⟨S9 s.t o.dst v,s.m.apply d,Eh lim s.wl d⟩ else none
     | none=>none)=some s'→BP n lim s s' ∧ ∀ K:AO→Prop,K (s'.st n) → ∃ v m',st (base+i) (Cg n s.t) s.m.mem o.op=some (v,m')∧J5 st cw base r (i+1) K (put (Cg n s.t) o.dst v) m':=by
     intro hne hh;cases hs:sd (base+i) (CA s.t) s.m.tr.get o.op with
     | none=>simp[hs]at hh
     | some vd=>
      obtain⟨v,d⟩:=vd;obtain⟨p1,p2⟩:=JN (v:=v) hn ht Ej;cases d with
      | nil=>
       simp only[hs]at hh;obtain⟨h1,h2⟩:=SE Od Aw hn r (i+1) ⟨S9 s.t o.dst v,s.m,s.wl⟩ s' p1 hlim hd2 hh;exact⟨⟨h1.t,h1.next,h1.keep⟩,fun K hK=>⟨v,s.m.mem,Od _ _ _ _ _ _ _ ht hs rfl,by rw[← p2]; exact h2 K hK⟩⟩
      | cons e d=>
       simp only[hs]at hh;cases ho:FZ (e :: d)with
       | false=>rw[ho]at hh; cases hh
       | true=>
        rw[ho]at hh;simp only[cond_true]at hh;obtain⟨h1,h2⟩:=SE Od Aw hn r (i+1) _ s' p1 (by rw[TM.Bw]; exact hlim) hd2 hh
        refine⟨⟨h1.t,by have:=h1.next; rw[TM.Bw]at this; exact this,fun c hc hw'=>?_⟩,fun K hK=>⟨v,_,Od _ _ _ _ _ _ _ ht hs ho,by rw[← p2]; exact h2 K hK⟩⟩
        obtain⟨k1,k2⟩:=h1.keep c hc hw';obtain⟨k3,k4⟩:=Oz (e :: d) s.wl s.m.mem c hc k1;exact⟨k3,by rw[k2,TM.BS _ _ ho]; exact k4⟩
    by_cases Cm:∃ f xs,o.op=.call f xs
    ·obtain⟨f,xs,hop⟩:=Cm;simp only[hop]at h;cases hc:WN s.t f xs with
     | none=>simp[hc]at h
     | some ga=>
      obtain⟨g,args⟩:=ga;simp only[hc]at h;cases CM:fc g args s.m with
      | none=>simp[CM]at h
      | some vmw=>
       obtain⟨v,m',wl⟩:=vmw;simp only[CM]at h;obtain⟨q1,q2,q3⟩:=Aw g args s.m v m' wl CM;obtain⟨p1,p2⟩:=JN (v:=v) hn ht Ej;obtain⟨h1,h2⟩:=SE Od Aw hn r (i+1) _ s' p1 (Nat.le_trans hlim q1) hd2 h;refine⟨⟨h1.t,Nat.le_trans q1 h1.next,fun c hc' hw'=>?_⟩,fun K hK=>?_⟩
       ·obtain⟨k1,k2⟩:=h1.keep c hc' hw';obtain⟨k3,k4⟩:=Tu wl s.wl c hc' k1;exact⟨k3,by rw[k2]; exact q2 c (by omega) k4⟩
       ·have hcA:MS (Cg n s.t) f xs=some (g,args):=by rw[tn ht]; exact hc
        simp only[J5,hwA,hop,hcA];refine q3 (base+i) _ ?_;rw[← p2];exact h2 K hK
    ·have hne:∀ f xs,o.op≠.call f xs:=fun f xs he=>Cm ⟨f,xs,he⟩
     have h':(match sd (base+i) (CA s.t) s.m.tr.get o.op with
      | some (v,[])=>Hz sd fc lim base r (i+1) ⟨S9 s.t o.dst v,s.m,s.wl⟩
      | some (v,d)=>bif FZ d then Hz sd fc lim base r (i+1) ⟨S9 s.t o.dst v,s.m.apply d,Eh lim s.wl d⟩ else none
      | none=>none)=some s':=by
      cases hop:o.op<;>rw[hop]at h<;>first|(exact absurd hop (hne _ _))|exact h
     obtain⟨h1,h2⟩:=other hne h';refine⟨h1,fun K hK=>?_⟩
     obtain⟨v,m',h3,h4⟩:=h2 K hK;simp only[J5,hwA];cases hop:o.op<;>rw[hop]at h3<;>first|(exact absurd hop (hne _ _))|(simp only[h3]; exact h4)
theorem Tm{st:CN}{sd:FC}(Od:Xk st sd){cw:BX}{fc:CE}(jA:RU cw fc){call:Au}(Aw:P4 P call){dr sc:Bool}{n lim:Nat}(hn:n≤bound):∀ (f:Nat) (c:Aq) (s s':RS) (e:CV),EE n s.t→lim≤s.m.next→O2 n c=true→T1 sd fc call dr sc lim f c s=some (e,s') →
 BP n lim s s' ∧ ∀ Q:Exit→AO→Prop,Q e.exit' (s'.st n)→U6 (Im P dr st cw) sc c Q (s.st n):=by
 intro f
 induction f using Nat.strongRecOn with
 | ind f ih=>
  intro c s s' e ht hlim hd h;cases f with
  | zero=>simp[T1]at h
  | succ f=>
   have same:BP n lim s s:=⟨ht,lR _,fun c _ hw=>⟨hw,rfl⟩⟩
   cases c with
   | skip=>
    simp only[T1,oI,AP]at h;obtain⟨rfl,rfl⟩:=h;exact⟨same,fun Q hQ=>hQ⟩
   | label l=>
    simp only[T1,oI,AP]at h;obtain⟨rfl,rfl⟩:=h;exact⟨same,fun Q hQ=>hQ⟩
   | exit i=>
    simp only[T1,oI,AP]at h;obtain⟨rfl,rfl⟩:=h;exact⟨same,fun Q hQ=>hQ⟩
   | ret=>
    simp only[T1,oI,AP]at h;obtain⟨rfl,rfl⟩:=h;exact⟨same,fun Q hQ=>hQ⟩
   | bad=>simp[T1]at h
   | region draw ops=>
    cases draw with
    | false=>
     simp only[T1]at h;cases hb:Nat.ble (s.m.next+ops.length) bound with
     | false=>rw[hb]at h; cases h
     | true=>
      rw[hb]at h;simp only[cond_true]at h;cases hr:Hz sd fc lim s.m.next ops 0 ⟨s.t,⟨s.m.tr,s.m.next+ops.length⟩,s.wl⟩ with
      | none=>simp[hr]at h
      | some s2=>
       simp only[hr,oI,AP]at h;obtain⟨rfl,rfl⟩:=h;obtain⟨h1,h2⟩:=SE Od jA hn ops 0 ⟨s.t,⟨s.m.tr,s.m.next+ops.length⟩,s.wl⟩ s2 ht (by show lim≤s.m.next+ops.length; omega) hd hr
       refine⟨⟨h1.t,Nat.le_trans (Nat.le_add_right _ _) h1.next,h1.keep⟩,fun Q hQ=>?_⟩
       exact h2 (Q .normal) hQ
    | true=>
     simp only[T1]at h;cases hdr:dr with
     | false=>rw[hdr]at h; cases h
     | true=>
     rw[hdr]at h;simp only[cond_true]at h;cases hb:Nat.ble (s.m.next+ops.length) bound with
     | false=>rw[hb]at h; cases h
     | true=>
      rw[hb]at h;simp only[cond_true]at h;cases hr:Fc call lim s.m.next ops [] ⟨s.t,⟨s.m.tr,s.m.next+ops.length⟩,s.wl⟩ with
      | none=>simp[hr]at h
      | some s2=>
       simp only[hr,oI,AP]at h;obtain⟨rfl,rfl⟩:=h;obtain⟨h1,h2⟩:=Tw Aw hn ops [] ⟨s.t,⟨s.m.tr,s.m.next+ops.length⟩,s.wl⟩ s2 ht (by show lim≤s.m.next+ops.length; omega) hd hr
       refine⟨⟨h1.t,Nat.le_trans (Nat.le_add_right _ _) h1.next,h1.keep⟩,fun Q hQ=>?_⟩
       exact⟨rfl,h2 (Q .normal) hQ⟩
   | seq a b=>
    simp only[O2,bA]at hd;simp only[T1]at h;cases hr:T1 sd fc call dr sc lim f a s with
    | none=>simp[hr]at h
    | some es=>
     obtain⟨e2,s2⟩:=es;obtain⟨h1,h2⟩:=ih f (Nat.lt_succ_self f) a s s2 e2 ht hlim hd.1 hr;cases e2 with
     | normal=>
      simp only[hr]at h;obtain⟨h3,h4⟩:=ih f (Nat.lt_succ_self f) b s2 s' e h1.t (Nat.le_trans hlim h1.next) hd.2 h;exact⟨h1.trans h3,fun Q hQ=>h2 _ (h4 Q hQ)⟩
     | exit i=>
      simp only[hr,oI,AP]at h;obtain⟨rfl,rfl⟩:=h;exact⟨h1,fun Q hQ=>h2 _ hQ⟩
     | ret=>
      simp only[hr,oI,AP]at h;obtain⟨rfl,rfl⟩:=h;exact⟨h1,fun Q hQ=>h2 _ hQ⟩
   | cond x a b=>
    simp only[O2,bA]at hd;simp only[T1]at h;have hx:ev (Cg n s.t) x=CA s.t x:=congrFun (Js ht) x;split at h
    ·rename_i hb;obtain⟨h1,h2⟩:=ih f (Nat.lt_succ_self f) a s s' e ht hlim hd.1 h;refine⟨h1,fun Q hQ=>?_⟩
     simp only[U6,RS.st,hx,hb];exact h2 Q hQ
    ·rename_i hb;obtain⟨h1,h2⟩:=ih f (Nat.lt_succ_self f) b s s' e ht hlim hd.2 h;refine⟨h1,fun Q hQ=>?_⟩
     simp only[U6,RS.st,hx,hb];exact h2 Q hQ
    ·cases h
   | block i c=>
    simp only[O2]at hd;simp only[T1]at h;cases hr:T1 sd fc call dr sc lim f c s with
    | none=>simp[hr]at h
    | some es=>
     obtain⟨e2,s2⟩:=es;obtain⟨h1,h2⟩:=ih f (Nat.lt_succ_self f) c s s2 e2 ht hlim hd hr;cases e2 with
     | normal=>
      simp only[hr,oI,AP]at h;obtain⟨rfl,rfl⟩:=h;exact⟨h1,fun Q hQ=>h2 _ hQ⟩
     | ret=>
      simp only[hr,oI,AP]at h;obtain⟨rfl,rfl⟩:=h;exact⟨h1,fun Q hQ=>h2 _ hQ⟩
     | exit k=>
      simp only[hr]at h;cases hb:Nat.beq k i with
      | true=>
       rw[hb]at h;simp only[cond_true,oI,AP]at h;obtain⟨rfl,rfl⟩:=h;have:=Nat.eq_of_beq_eq_true hb;subst this;exact⟨h1,fun Q hQ=>h2 _ (by simp only[CV.exit',Is,if_true]; exact hQ)⟩
      | false=>
       rw[hb]at h;simp only[cond_false,oI,AP]at h;obtain⟨rfl,rfl⟩:=h;have hne:k≠i:=fun e=>by subst e; rw[Nat.beq_refl]at hb; cases hb
       exact⟨h1,fun Q hQ=>h2 _ (by simp only[CV.exit',Is,iN hne]; exact hQ)⟩
   | scope c=>
    simp only[O2]at hd;simp only[T1]at h;cases hsc:sc with
    | false=>rw[hsc]at h; cases h
    | true=>
     rw[hsc]at h;simp only[cond_true]at h;have h':T1 sd fc call dr sc lim f c s=some (e,s'):=by rw[hsc]; exact h
     obtain⟨h1,h2⟩:=ih f (Nat.lt_succ_self f) c s s' e ht hlim hd h';rw[hsc]at h2;refine⟨h1,fun Q hQ=>⟨rfl,h2 _ ?_⟩⟩
     cases e<;>exact hQ
   | loop c=>
    have hdl:=hd;simp only[O2]at hd;have hfin:BP n lim s s':=by
     simp only[T1]at h;cases hr:T1 sd fc call dr sc lim f c s with
     | none=>simp[hr]at h
     | some es=>
      obtain⟨e2,s2⟩:=es;obtain⟨h1,_⟩:=ih f (Nat.lt_succ_self f) c s s2 e2 ht hlim hd hr;cases e2 with
      | normal=>
       simp only[hr]at h;exact h1.trans (ih f (Nat.lt_succ_self f) (.loop c) s2 s' e h1.t (Nat.le_trans hlim h1.next) hdl h).1
      | exit i=>
       simp only[hr,oI,AP]at h;obtain⟨rfl,rfl⟩:=h;exact h1
      | ret=>
       simp only[hr,oI,AP]at h;obtain⟨rfl,rfl⟩:=h;exact h1
    refine⟨hfin,fun Q hQ=>?_⟩
    refine⟨fun k σ=>k≤f ∧ ∃ s1,σ=s1.st n∧EE n s1.t∧lim≤s1.m.next∧T1 sd fc call dr sc lim (k+1) (.loop c) s1=some (e,s'),⟨f,_,.refl _,lR _,s,rfl,ht,hlim,h⟩,?_⟩
    rintro k σ ⟨hkf,s1,rfl,ht1,hl1,hr1⟩;simp only[T1]at hr1;cases hr:T1 sd fc call dr sc lim k c s1 with
    | none=>simp[hr]at hr1
    | some es=>
     obtain⟨e2,s2⟩:=es;obtain⟨h1,h2⟩:=ih k (by omega) c s1 s2 e2 ht1 hl1 hd hr
     refine h2 _ ?_;cases e2 with
     | normal=>
      simp only[hr]at hr1;cases k with
      | zero=>simp[T1]at hr1
      | succ k=>exact ⟨k,s2.st n,Nat.lt_succ_self k,.refl _,by omega,s2,rfl,h1.t,Nat.le_trans hl1 h1.next,hr1⟩
     | exit i=>
      simp only[hr,oI,AP]at hr1;obtain⟨rfl,rfl⟩:=hr1;exact hQ
     | ret=>
      simp only[hr,oI,AP]at hr1;obtain⟨rfl,rfl⟩:=hr1;exact hQ
end Go.AE
end
section
namespace Go.AE
open Go.RowKit
variable {P:Program}
def GG(call:Au):CE:=fun fn args m=>
 match fn with
 | .func g=>call g args m
 | _=>none
theorem Tz{call:Au}(Aw:P4 P call):RU (FP P) (GG call):=by
 intro fn args m v m' wl h;cases fn<;>simp only[GG]at h<;>first|(cases h; done)|skip
 rename_i g;obtain⟨h1,h2,h3⟩:=Aw g args m v m' wl h;refine⟨h1,h2,fun id K hK=>⟨g,rfl,(h3 id).mono fun r m'' hr=>?_⟩⟩
 obtain⟨rfl,rfl⟩:=hr;exact hK
def OK(t:Tr Aa):List (Nat×Aa)→Tr Aa
 | []=>t
 | (i,x) :: r=>OK (S9 t (some i) x) r
theorem wR{n:Nat}(hn:n≤bound):∀ (l:List (Nat×Aa)) (t:Tr Aa),EE n t→(∀ p,p∈l→p.1<n)→EE n (OK t l)∧Cg n (OK t l)=LD (Cg n t) l
 | [],t,ht,_=>⟨ht,rfl⟩
 | (i,x) :: r,t,ht,hl=>by
  obtain⟨p1,p2⟩:=JN (v:=x) (d:=some i) hn ht (fun k hk=>by injection hk with hk; subst hk; exact hl _ (List.mem_cons_self ..))
  obtain⟨q1,q2⟩:=wR hn r _ p1 (fun p hp=>hl p (List.mem_cons_of_mem _ hp))
  refine⟨q1,?_⟩;simp only[OK,LD];rw[q2,p2];rfl
def eY(call:Au)(b0:Nat)(ps:List Nat)(tR:Tr Aa)(A B:Aq):CE:=fun fn args m=>
 match fn with
 | .func g=>call g args m
 | .yield b=>bif Nat.beq b b0 then bif Nat.beq args.length ps.length then
  match T1 Ak (GG call) call false false m.next 1000 A ⟨OK tR (ps.zip args),m,[]⟩ with
  | some (.normal,s1)=>match T1 Ak (GG call) call false false m.next 1000 B s1 with
   | some (.normal,s2)=>some (.bool true,s2.m,s2.wl)
   | _=>none
  | _=>none
  else none else none
 | _=>none
theorem yH{call:Au}(Aw:P4 P call){b0 n:Nat}{ps:List Nat}{tR:Tr Aa}{A B:Aq}(hn:n≤bound)(ht:EE n tR)(hps:(ps.all fun p=>decide (p<n))=true)(hA:O2 n A=true)(hB:O2 n B=true) :
 RU (xI P b0 ps (Cg n tR) A B) (eY call b0 ps tR A B):=by
 intro fn args m v m' wl h;cases fn<;>simp only[eY]at h<;>first|(cases h; done)|skip
 case func g=>
  obtain⟨h1,h2,h3⟩:=Tz Aw (.func g) args m v m' wl h;exact⟨h1,h2,fun id K hK=>.inl (h3 id K hK)⟩
 case yield b=>
  cases hb:Nat.beq b b0 with
  | false=>rw[hb]at h; cases h
  | true=>
   rw[hb]at h;simp only[cond_true]at h;have hbe:=Nat.eq_of_beq_eq_true hb;subst hbe;cases hl:Nat.beq args.length ps.length with
   | false=>rw[hl]at h; cases h
   | true=>
    rw[hl]at h;simp only[cond_true]at h;have hle:=Nat.eq_of_beq_eq_true hl;obtain⟨p1,p2⟩:=wR hn (ps.zip args) tR ht (fun p hp=>by
     have:=List.of_mem_zip hp;simpa using List.all_eq_true.1 hps _ this.1)
    cases hr1:T1 Ak (GG call) call false false m.next 1000 A ⟨OK tR (ps.zip args),m,[]⟩ with
    | none=>simp[hr1]at h
    | some es=>
     obtain⟨e1,s1⟩:=es;obtain⟨g1,g2⟩:=Tm WM (Tz Aw) Aw hn 1000 A ⟨OK tR (ps.zip args),m,[]⟩ s1 e1 p1 (lR _) hA hr1;cases e1 with
     | exit i=>simp[hr1]at h
     | ret=>simp[hr1]at h
     | normal=>
      simp only[hr1]at h;cases hr2:T1 Ak (GG call) call false false m.next 1000 B s1 with
      | none=>simp[hr2]at h
      | some es=>
       obtain⟨e2,s2⟩:=es;obtain⟨g3,g4⟩:=Tm WM (Tz Aw) Aw hn 1000 B s1 s2 e2 g1.t g1.next hB hr2;cases e2 with
       | exit i=>simp[hr2]at h
       | ret=>simp[hr2]at h
       | normal=>
        simp only[hr2,oI,AP]at h;obtain⟨rfl,rfl,rfl⟩:=h;have g5:=g1.trans g3;refine⟨g5.next,fun c hc hw=>(g5.keep c hc hw).2,fun id K hK=>.inr ⟨rfl,hle,?_⟩⟩
        rw[← p2];exact g2 _ (g4 _ hK)
def OS:Code→Option (List Code×Code×Nat×Operand×Array Tmp×Code×Code×Code)
 | .seq (.seq x (.block b (.rangeFunc g ps Fj bd))) y=>some ([],x,b,g,ps,Fj,bd,y)
 | .seq a r=>match OS r with
  | some p=>some (a :: p.1,p.2)
  | none=>none
 | _=>none
def GO:List Code→Code→Code
 | [],c=>c
 | a :: r,c=>.seq a (GO r c)
theorem Z7d:∀ (c:Code) (p:List Code×Code×Nat×Operand×Array Tmp×Code×Code×Code),OS c=some p →
 c=GO p.1 (.seq (.seq p.2.1 (.block p.2.2.1 (.rangeFunc p.2.2.2.1 p.2.2.2.2.1 p.2.2.2.2.2.1 p.2.2.2.2.2.2.1))) p.2.2.2.2.2.2.2):=by
 intro c
 induction c with
 | seq a r _ ih=>
  intro p h;unfold OS at h;split at h
  ·rename_i x b g ps Fj bd y heq;injection heq with h1 h2
   subst h1; subst h2;injection h with h
   subst h;rfl
  ·rename_i a' r' _ heq;injection heq with h1 h2
   subst h1; subst h2;cases hp:OS r with
   | none=>simp[hp]at h
   | some q=>
    simp only[hp,oI]at h;subst h;simp only[GO];rw[← ih q hp]
  ·cases h
 | _=>intro p h; simp[OS]at h
structure CI where
 ntmps:Nat
 results:List (Nat×Option (Option Nat))
 pre:List Aq
 x:Aq
 g:Ah
 ps:List Nat
 Fj:Aq
 bd:Aq
 y:Aq
def RM(P:Program)(fn:Func):Option CI:=
 match fn.body with
 | some c=>match OS c with
  | some (pre,x,_,g,ps,Fj,bd,y)=>match Y7 g,Hu P fn.results.toList with
   | some g',some rs=>if fn.name == "runtime.NumGoroutine" then none else some ⟨fn.ntmps,rs,pre.map (Y5 P),Y5 P x,g',ps.toList,Y5 P Fj,Y5 P bd,Y5 P y⟩
   | _,_=>none
  | none=>none
 | none=>none
def QA(call:Au)(lim:Nat):List Aq→RS→Option (CV×RS)
 | [],s=>some (.normal,s)
 | a :: r,s=>match T4 call lim 1000 a s with
  | some (.normal,s')=>QA call lim r s'
  | some (.ret,s')=>some (.ret,s')
  | _=>none
def Qq(BE:Nat→Option Av)(call:Au)(p:CI)(args:List Aa)(m:TM):Option (Aa×TM×List Nat):=
 bif Nat.ble args.length p.ntmps then
 match QA call m.next p.pre ⟨I4 .nil 0 args,m,[]⟩ with
 | some (.ret,s)=>match DZ s.t s.m p.results with
  | some v=>some (v,s.m,s.wl)
  | none=>none
 | some (.normal,s)=>match T4 call m.next 1000 p.x s with
  | some (.normal,s1)=>match CA s1.t p.g with
   | .func (.func gf) first cap=>match BE gf with
    | some af=>bif Nat.ble (first++[Aa.DU s1.m.next]++cap).length af.ntmps then
     match T1 Ak (eY call s1.m.next p.ps s1.t p.Fj p.bd) call true true m.next 1000 af.body ⟨I4 .nil 0 (first++[.DU s1.m.next]++cap),⟨s1.m.tr,s1.m.next+1⟩,s1.wl⟩ with
     | some (.exit _,_)=>none
     | some (_,s2)=>match DZ s2.t s2.m af.results with
      | some _=>match T1 Ak (GG call) call false false m.next 1000 p.y ⟨s1.t,s2.m,s2.wl⟩ with
       | some (.exit _,_)=>none
       | some (_,s3)=>match DZ s3.t s3.m p.results with
        | some v=>some (v,s3.m,s3.wl)
        | none=>none
       | none=>none
      | none=>none
     | none=>none
     else none
    | none=>none
   | _=>none
  | _=>none
 | _=>none
 else none
def CI.ok(p:CI):Bool:=
 p.pre.all (O2 p.ntmps)&&O2 p.ntmps p.x&&(p.ps.all fun q=>decide (q<p.ntmps))&&O2 p.ntmps p.Fj&&O2 p.ntmps p.bd&&O2 p.ntmps p.y&&decide (p.ntmps≤bound)
theorem qK(hm:P.follows .mixedOrders=true){call:Au}(Aw:P4 P call){n lim:Nat}(hn:n≤bound):∀ (xs:List Code) (s s':RS) (e:CV),EE n s.t→lim≤s.m.next→(xs.map (Y5 P)).all (O2 n)=true→QA call lim (xs.map (Y5 P)) s=some (e,s') →
 BP n lim s s'∧(e=.normal∨e=.ret) ∧ ∀(c:Code) (K:AO→Prop),(e=.ret→K (s'.st n))→(e=.normal→AR P c K (s'.st n))→AR P (GO xs c) K (s.st n)
 | [],s,s',e,ht,_,_,h=>by
  simp only[List.map_nil,QA,oI,AP]at h;obtain⟨rfl,rfl⟩:=h;exact⟨⟨ht,lR _,fun c _ hw=>⟨hw,rfl⟩⟩,.inl rfl,fun c K _ h2=>h2 rfl⟩
 | x :: xs,s,s',e,ht,hlim,hd,h=>by
  simp only[List.map_cons,List.all_cons,bA]at hd;simp only[List.map_cons,QA]at h;cases hr:T4 call lim 1000 (Y5 P x) s with
  | none=>simp[hr]at h
  | some es=>
   obtain⟨e1,s1⟩:=es;obtain⟨h1,h2⟩:=YB Aw hn 1000 (Y5 P x) s s1 e1 ht hlim hd.1 hr;cases e1 with
   | exit i=>simp[hr]at h
   | ret=>
    simp only[hr,oI,AP]at h;obtain⟨rfl,rfl⟩:=h;exact⟨h1,.inr rfl,fun c K h3 _=>wV (SV hm x _ _ (h2 (Ic K (AR P (GO xs c) K)) (h3 rfl)))⟩
   | normal=>
    simp only[hr]at h;obtain⟨g1,g2,g3⟩:=qK hm Aw hn xs s1 s' e h1.t (Nat.le_trans hlim h1.next) hd.2 h;exact⟨h1.trans g1,g2,fun c K h3 h4=>wV (SV hm x _ _ (h2 (Ic K (AR P (GO xs c) K)) (g3 c K h3 h4)))⟩
theorem Z49{fn:Func}{p:CI}(h:RM P fn=some p):∃ c pre x b g ps Fj bd y,fn.body=some c∧c=GO pre (.seq (.seq x (.block b (.rangeFunc g ps Fj bd))) y)∧Y7 g=some p.g∧Hu P fn.results.toList=some p.results ∧
 (fn.name == "runtime.NumGoroutine")=false∧p.ntmps=fn.ntmps∧p.pre=pre.map (Y5 P)∧p.x=Y5 P x∧p.ps=ps.toList∧p.Fj=Y5 P Fj∧p.bd=Y5 P bd∧p.y=Y5 P y:=by
 unfold RM at h;cases hb:fn.body with
 | none=>simp[hb]at h
 | some c=>
  simp only[hb]at h;cases hp:OS c with
  | none=>simp[hp]at h
  | some q=>
   obtain⟨pre,x,b,g,ps,Fj,bd,y⟩:=q;simp only[hp]at h;split at h<;>first|(cases h; done)|skip
   rename_i g' rs hg Ck;split at h<;>first|(cases h; done)|skip
   rename_i hname;injection h with h
   subst h;exact⟨c,pre,x,b,g,ps,Fj,bd,y,rfl,Z7d c _ hp,hg,Ck,by simpa using hname,rfl,rfl,rfl,rfl,rfl,rfl,rfl⟩
theorem xq(hm:P.follows .mixedOrders=true){BE:Nat→Option Av}(DI:LJ P BE){call:Au}(Aw:P4 P call){f:FuncId}{fn:Func}{p:CI}(hf:P.funcs[f]? = some fn)(hp:RM P fn=some p)(hok:p.ok=true)
 {args:List Aa} {m m':TM} {v:Aa} {wl:List Nat} (h:Qq BE call p args m=some (v,m',wl)) :
 m.next≤m'.next∧(∀ c,c<m.next→c∉wl→m'.mem.get c=m.mem.get c) ∧ ∀ av,Az P f args m.mem av fun r m''=>r=v∧m''=m'.mem:=by
 obtain⟨c,pre,x,b,g,ps,Fj,bd,y,hb,hc,hg,Ck,hname,hnt,epre,ex,eps,easn,ebd,ey⟩:=Z49 hp;unfold CI.ok at hok;simp only[bA,decide_eq_true_eq]at hok;obtain⟨⟨⟨⟨⟨⟨o1,o2⟩,o3⟩,o4⟩,o5⟩,o6⟩,o7⟩:=hok;unfold Qq at h;cases hl:Nat.ble args.length p.ntmps with
 | false=>rw[hl]at h; cases h
 | true=>
 rw[hl]at h;simp only[cond_true]at h;obtain⟨a1,a2⟩:=WG o7 (Wf hl);rw[epre]at h o1;have fin:∀ s:RS,BP p.ntmps m.next ⟨I4 .nil 0 args,m,[]⟩ s→DZ s.t s.m p.results=some v→m'=s.m→wl=s.wl →
  ((∀ K:AO→Prop,K (s.st p.ntmps)→AR P c K ((⟨I4 .nil 0 args,m,[]⟩:RS).st p.ntmps)) →
  m.next≤m'.next∧(∀ c,c<m.next→c∉wl→m'.mem.get c=m.mem.get c) ∧ ∀ av,Az P f args m.mem av fun r m''=>r=v∧m''=m'.mem):=by
  intro s hs hret e1 e2 hA;subst e1; subst e2;refine⟨hs.next,fun c hc hw=>(hs.keep c hc hw).2,fun av=>Z5d hf hb hname Ck ?_⟩
  rw[← hnt,← a2];refine hA _ ?_;have:M2 (Cg p.ntmps s.t) s.m.mem p.results=some v:=by rw[VQ hs.t]; exact hret
  simp only[RS.st,this];exact⟨trivial,trivial⟩
 cases hpre:QA call m.next (pre.map (Y5 P)) ⟨I4 .nil 0 args,m,[]⟩ with
 | none=>simp[hpre]at h
 | some es=>
  obtain⟨e,s⟩:=es;obtain⟨g1,g2,g3⟩:=qK hm Aw o7 (lim:=m.next) pre ⟨I4 .nil 0 args,m,[]⟩ s e a1 (lR _) o1 hpre;simp only[hpre]at h;cases e with
  | exit i=>simp at h
  | ret=>
   simp only at h;cases hr:DZ s.t s.m p.results with
   | none=>simp[hr]at h
   | some r=>
    simp only[hr,oI,AP]at h;obtain⟨rfl,rfl,rfl⟩:=h;refine fin s g1 hr rfl rfl fun K hK=>?_
    rw[hc];exact g3 _ K (fun _=>hK) (fun he=>by cases he)
  | normal=>
   simp only at h;rw[ex]at h o2;cases hx:T4 call m.next 1000 (Y5 P x) s with
   | none=>simp[hx]at h
   | some es=>
    obtain⟨e1,s1⟩:=es;simp only[hx]at h;obtain⟨k1,k2⟩:=YB Aw o7 1000 (Y5 P x) s s1 e1 g1.t g1.next o2 hx;cases e1 with
    | exit i=>simp at h
    | ret=>simp at h
    | normal=>
     simp only at h;split at h<;>first|(cases h; done)|skip
     rename_i gf first cap hev;cases ht:BE gf with
     | none=>simp[ht]at h
     | some af=>
      simp only[ht]at h;obtain⟨⟨fni,hfi,hci⟩,hdi,hbi⟩:=DI gf af ht;cases hli:Nat.ble (first++[Aa.DU s1.m.next]++cap).length af.ntmps with
      | false=>rw[hli]at h; cases h
      | true=>
       rw[hli]at h;simp only[cond_true]at h;obtain⟨b1,b2⟩:=WG hbi (Wf hli);have gk:=g1.trans k1;have jA:=yH (P:=P) Aw (b0:=s1.m.next) (ps:=p.ps) (A:=p.Fj) (B:=p.bd) o7 k1.t o3 o4 o5;split at h<;>first|(cases h; done)|skip
       rename_i e2 s2 hne hit;obtain⟨j1,j2⟩:=Tm WM jA Aw hbi 1000 af.body ⟨I4 .nil 0 (first++[.DU s1.m.next]++cap),⟨s1.m.tr,s1.m.next+1⟩,s1.wl⟩ s2 e2 b1 (by have h1:m.next≤s1.m.next:=gk.next; show m.next≤s1.m.next+1; omega) hdi hit
       cases hri:DZ s2.t s2.m af.results with
       | none=>simp[hri]at h
       | some ri=>
        simp only[hri]at h;rw[ey]at h o6;split at h<;>first|(cases h; done)|skip
        rename_i e3 s3 hne3 hy;obtain⟨l1,l2⟩:=Tm (dr:=false) (sc:=false) WM (Tz Aw) Aw o7 1000 (Y5 P y) ⟨s1.t,s2.m,s2.wl⟩ s3 e3 k1.t (by
         have h1:m.next≤s1.m.next:=gk.next;have h2:s1.m.next+1≤s2.m.next:=j1.next;show m.next≤s2.m.next;omega) o6 hy
        cases hr3:DZ s3.t s3.m p.results with
        | none=>simp[hr3]at h
        | some r=>
         simp only[hr3,oI,AP]at h;obtain⟨rfl,rfl,rfl⟩:=h;have hall:BP p.ntmps m.next ⟨I4 .nil 0 args,m,[]⟩ s3:=by
          refine⟨l1.t,?_,fun c hc hw=>?_⟩
          ·have h1:m.next≤s1.m.next:=gk.next;have h2:s1.m.next+1≤s2.m.next:=j1.next;have h3:s2.m.next≤s3.m.next:=l1.next;show m.next≤s3.m.next;omega
          ·obtain⟨q1,q2⟩:=l1.keep c hc hw;obtain⟨q3,q4⟩:=j1.keep c hc q1;obtain⟨q5,q6⟩:=gk.keep c hc q3;exact⟨q5,q2.trans (q4.trans q6)⟩
         refine fin s3 hall hr3 rfl rfl fun K hK=>?_
         rw[hc];refine g3 _ K (fun he=>by cases he) fun _=>Z38 hg (SV hm x _ _ (k2 _ ?_))
         refine⟨gf,first,cap,by rw[← hev]; exact congrFun (Js k1.t) p.g,fun l r hs1 hs2 hs3 hs4 hs5=>?_⟩
         have DQ:=Z9y (P:=P) (n:=0) (b:=s1.m.next) (l:=l) (tR:=Cg p.ntmps s1.t) hs1 hs2;rw[hs3,hs4,hs5,← eps,← easn,← ebd]at DQ;refine sP hm FB.mono (SH Open.wide) DQ hfi hci ?_;show U6 _ true af.body _ ⟨first++[Aa.DU s1.m.next]++cap++List.replicate (af.ntmps - (first++[Aa.DU s1.m.next]++cap).length) Aj,s1.m.mem.at (s1.m.next+1)⟩;rw[← b2];refine j2 _ ?_;have hri':M2 (Cg af.ntmps s2.t) s2.m.mem af.results=some ri:=by rw[VQ j1.t]; exact hri
         have hend:U6 (Im P false Ae (FP P)) false (Y5 P y) (Ic K K) ⟨Cg p.ntmps s1.t,s2.m.mem⟩:=by
          refine l2 _ ?_;cases e3 with
          | normal=>exact hK
          | ret=>exact hK
          | exit i=>exact absurd rfl (hne3 i)
         cases e2 with
         | normal=>simp only[CV.exit',Fb,RS.st,hri']; exact hend
         | ret=>simp only[CV.exit',Fb,RS.st,hri']; exact hend
         | exit i=>exact absurd rfl (hne i)
end Go.AE
end
