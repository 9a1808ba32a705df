/- Part 24 of the proof: AeNj, AeNk, Pt, AeYd. -/
import Derived.Test.YtilmpmlkndfbjaaGreatDoorK3
import Derived.Test.YtilmpmlkndfbjaaGreatDoorK12
import Derived.Test.YtilmpmlkndfbjaaGreatDoorK13
import Derived.Test.YtilmpmlkndfbjaaGreatDoorK23
set_option linter.all false
section
namespace Go.AE
open Go.RowKit
variable {P:Program}
theorem To{q:Nat→Nat}{cs:List Aa}(h:∀ (i:Nat) (x:Aa),cs[i]? = some x→x.AA q=x):U3 q cs=cs:=by
 apply List.ext_getElem?;intro i;rw[VZ,gM];cases hc:cs[i]? with
 | none=>rfl
 | some x=>simp[h i x hc]
theorem Yq{q:Nat→Nat}{els:List (List Aa)}(h:∀ (i:Nat) (row:List Aa) (j:Nat) (x:Aa),els[i]? = some row→row[j]? = some x→x.AA q=x):Z3 q els=els:=by
 apply List.ext_getElem?;intro i;rw[HE,gM];cases hc:els[i]? with
 | none=>rfl
 | some row=>simp[To fun j x hj=>h i row j x hc hj]
theorem R.names{Φ:Ao}{ρ:AD}{q:Nat→Nat}(hq:∀ b l,ρ b=some l→q b=b){x:Aa}{v:Value}(h:R Φ ρ x v):x.AA q=x:=by
 induction h with
 | ptr b i j l h=>simp only[Aa.AA,hq _ _ h]
 | AW els i j B o k c f hB hk hc _ ih=>simp only[Aa.AA]; rw[Yq fun i row j x hi hj=>ih i row j x hi hj]
 | sl b off len a cap l h hl hn hc ha=>simp only[Aa.AA,hq _ _ h]
 | An els B o k cap c f hne hcap hB hk hc _ ih=>simp only[Aa.AA]; rw[Yq fun i row j x hi hj=>ih i row j x hi hj]
 | map b l h=>simp only[Aa.AA,hq _ _ h]
 | func fn fs cs vf vc hf hc _ _ ih1 ih2=>
  simp only[Aa.AA];rw[To fun i x hx=>ih1 i x _ hx (Array.getElem?_eq_getElem (by have:=(gS.1 hx).1; omega)),To fun i x hx=>ih2 i x _ hx (Array.getElem?_eq_getElem (by have:=(gS.1 hx).1; omega))]
 | DU b l h=>simp only[Aa.AA,hq _ _ h]
 | iface t x v _ ih=>simp only[Aa.AA,ih]
 | agg cs vs hs _ ih=>
  simp only[Aa.AA];rw[To fun i x hx=>ih i x _ hx (Array.getElem?_eq_getElem (by have:=(gS.1 hx).1; omega))]
 | tuple cs vs hs _ ih=>
  simp only[Aa.AA];rw[To fun i x hx=>ih i x _ hx (Array.getElem?_eq_getElem (by have:=(gS.1 hx).1; omega))]
 | _=>rfl
theorem BR.names{Φ:Ao}{ρ:AD}{q:Nat→Nat}(hq:∀ b l,ρ b=some l→q b=b){x:Ag}{l:Loc}{o:Obj}(h:BR Φ ρ x l o):x.AA q=x:=by
 cases h with
 | cells k els l c e hk hn hl hr h1=>
  simp only[Ag.AA];rw[Yq fun i row j x hi hj=>by obtain⟨v,_,_,g3⟩:=hr.2 i row j x hi hj; exact g3.names hq]
 | map es clock l en hs hr=>
  simp only[Ag.AA]
  congr 1
  apply List.ext_getElem?;intro i;rw[EA,gM];cases hc:es[i]? with
  | none=>rfl
  | some z=>
   obtain⟨y,g1,g2,g3,g4⟩:=hr i z hc;simp[g2.names hq,g3.names hq]
 | Cl s pos l=>rfl
 | DO a b c l=>rfl
 | Ca m lm a b c l h _=>simp only[Ag.AA,Option.map,hq _ _ h]
def Hs(q:Nat→Nat):List (Nat×Ag)→Ac→Prop
 | [],_=>True
 | (b,x) :: r,m=>m.get (q b)=some (x.AA q)∧Hs q r m
theorem Hs.get{q:Nat→Nat}:∀ {l:List (Nat×Ag)} {m:Ac},Hs q l m → ∀ c x,Y2 l c=some x→m.get (q c)=some (x.AA q)
 | [],_,_,c,x,h=>by simp[Y2]at h
 | (b,y) :: r,m,hs,c,x,h=>by
  simp only[Y2]at h;split at h
  ·rename_i e; subst e; injection h with h; subst h; exact hs.1
  ·exact hs.2.get c x h
theorem oA{g:FuncId}{AZ args:List Aa}{m0 m:Ac}{v0:Aa}{nx n:Nat}{x:List Nat}{K:Aa→Option Ag→Prop}(h:Cc P g AZ m0 fun r sm=>r=v0∧sm=⟨m0.bl,nx⟩)(Dz:m0.next≤nx)(l:List (Nat×Nat))(ha:U3 (Bz l 0 m0.next m.next) AZ=args)
 (hs:Hs (Bz l 0 m0.next m.next) m0.bl m) (hi:Cz (Bz l 0 m0.next m.next) m0.bl) (hv:∀ s:Nat→Nat,(v0.AA (Bz l 0 m0.next m.next)).AA s=v0.AA (Bz l 0 m0.next m.next)) (hx:∀ b,b∈N8 (Bz l 0 m0.next m.next) m0.bl→b∉x) (hK:K (v0.AA (Bz l 0 m0.next m.next)) none):DC P g args n x m K:=by
 subst ha;refine⟨_,none,?_,hK⟩;obtain⟨q,hq⟩:∃ q,Bz l 0 m0.next m.next=q:=⟨_,rfl⟩
 have hqn:∀ c,m0.next≤c→q c=c - m0.next+m.next:=fun c hc=>by
  rw[← hq];simp only[Bz,Nat.not_lt_zero,if_false];rw[iN (by omega)]
 rw[hq]at hs hi hx hv ⊢;have h1:=bG h (m:=m.mem.less x) (q:=q) (K:=fun r m'=>r=v0.AA q∧m'={ m.mem.less x with next:=nx - m0.next+m.next })
  (fun c y hy=>by
    have hn:q c∉x:=hx _ (Se hy);exact⟨_,by simp only[Mem.less,iN hn]; exact hs.get c y hy,.inl rfl⟩)
  (fun c c' y y' hy hy'=>hi.get c c' y y' hy hy') (fun c hc=>hqn c hc)
  (fun r0 m1 hh=>by
    obtain⟨sm,rfl,rfl,rfl⟩:=hh;refine⟨_,rfl,fun b y hb=>?_,rfl,rfl⟩
    rcases Classical.em (∃ c z,m0.mem.get c=some z∧q c=b)with⟨c,z,h2,h3⟩|hno
    ·refine .inl ⟨c,z,h2,h3.symm,?_⟩;have e:=hs.get c z h2;subst h3;have hn:q c∉x:=hx _ (Se h2);simp only[Mem.less,iN hn]at hb;have:m.get (q c)=some y:=hb;rw[e]at this;injection this with this
     exact this.symm
    ·exact .inr ⟨hb,fun c z h2 e=>hno ⟨c,z,h2,e⟩⟩) [n]
 refine⟨h1.1,fun W Φ ρ vs w hr hargs Ch=>(h1.2 W Φ ρ vs w hr hargs Ch).mono fun e w' he=>?_⟩
 obtain⟨u,r,m',Am,ρ',e1,hE,hk,hr',hR,hn,rfl,rfl⟩:=he;obtain⟨s,hs'⟩:∃ s:Nat→Nat,s=fun b=>if b<m.next then b else nx - m0.next+m.next:=⟨_,rfl⟩
 have hsn:∀ b l,ρ b=some l→s b=b:=fun b l hb=>by
  have:=hr.fresh b l hb;rw[hs'];exact iP this
 have hcut:∀ b l,ρ' (s b)=some l→(if b<m.next then ρ' b else none)=some l:=fun b l hb=>by
  have es:s b=if b<m.next then b else nx - m0.next+m.next:=by rw[hs']
  rw[es]at hb;by_cases hbn:b<m.next
  ·rw[iP hbn]at hb ⊢; exact hb
  ·rw[iN hbn]at hb;have:=hr'.fresh _ l hb;exact absurd this (Nat.lt_irrefl _)
 have XL:(v0.AA q).AA s=v0.AA q:=hv s;refine⟨u,_,m.mem.less x,Am,fun b=>if b<m.next then ρ' b else none,e1,⟨hE.AX,fun b l hb=>?_⟩,fun b hb Cq h0=>?_,⟨hr'.base,hr'.AX,fun b y hy=>?_,fun b b' y y' l l' g1 g2 g3 g4=>?_,fun b l hb=>?_,hr'.By⟩,?_,lR _,rfl,rfl⟩
 ·have hb':b<m.next:=hr.fresh b l hb;show(if b<m.next then ρ' b else none)=some l
  rw[iP hb'];exact hE.Fy b l hb
 ·show(if b<m.next then ρ' b else none)=none
  split
  ·exact hk b hb Cq h0
  ·rfl
 ·obtain⟨l0,o0,p1,p2,p3,p4,p5⟩:=hr.live b y hy;obtain⟨l,o,q1,q2,q3,q4,q5⟩:=hr'.live b y hy;have hbn:b<m.next:=hr.fresh b l0 p1;refine⟨l,o,?_,q2,q3,q4,?_⟩
  ·show(if b<m.next then ρ' b else none)=some l
   rw[iP hbn]; exact q1
  ·have hy2:y.AA s=y:=p5.names hsn;rw[← hy2]at q5;exact BR.BD hcut q5
 ·have c1:ρ' b=some l:=by
   have g3':(if b<m.next then ρ' b else none)=some l:=g3
   split at g3'
   ·exact g3'
   ·cases g3'
  have c2:ρ' b'=some l':=by
   have g4':(if b'<m.next then ρ' b' else none)=some l':=g4
   split at g4'
   ·exact g4'
   ·cases g4'
  exact hr'.inj b b' y y' l l' g1 g2 c1 c2
 ·have hb':(if b<m.next then ρ' b else none)=some l:=hb
  split at hb'
  ·assumption
  ·cases hb'
 ·rw[← XL]at hR;exact R.BD hcut hR _ rfl
end Go.AE
end
section
namespace Go.AE
open Go.RowKit
variable {P:Program}
def E0(v:Aa):Prop:=∀ (Φ:Ao) (ρ:AD) (u:Value),R Φ ρ v u → ∀(Am:Ao) (ρ':AD),R Am ρ' (.An []) u
end Go.AE
end
section
namespace Go.Ab
open Go.Plain
def Y9(x:Int):List Int→Nat
 | []=>0
 | y :: r=>if x=y then 1 else if Y9 x r=0 then 0 else Y9 x r+1
theorem uW{x y:Int}:∀ {met:List Int},Y9 x met≠0→Y9 x (met++[y])=Y9 x met
 | [],h=>absurd rfl h
 | z :: r,h=>by
  simp only[Y9,List.cons_append]at h ⊢;split
  ·rfl
  ·rename_i hz;rw[iN hz]at h;have hr:Y9 x r≠0:=fun e=>h (by rw[iP e])
   rw[uW hr]
theorem SJ{x:Int}:∀ {met:List Int},Y9 x met=0→Y9 x (met++[x])=met.length+1
 | [],_=>by simp[Y9]
 | z :: r,h=>by
  simp only[Y9,List.cons_append]at h ⊢;by_cases hz:x=z
  ·grind
  ·rw[iN hz]at h;have hr:Y9 x r=0:=by
    grind
   rw[iN hz,SJ hr,iN (by omega),lC]
theorem Vu{x:Int}:∀ {met:List Int},Y9 x met≤met.length
 | []=>lR _
 | z :: r=>by
  have:=Vu (x:=x) (met:=r);simp only[Y9,lC]
  grind
def P9(met:List Int)(l:Lt):List Int:=if l.k=2∧Y9 l.i met=0 then met++[l.i]else met
def Fx(met:List Int)(l:Lt):Lt:=if l.k=2 then { l with i:=Y9 l.i (P9 met l) } else l
def Ia:List Int→List Lt→List Lt
 | _,[]=>[]
 | met,l :: r=>Fx met l :: Ia (P9 met l) r
def X8(ls:List Lt):List Lt:=Ia [] ls
def W8(ls:List Lt)(i:Nat):List Int:=(ls.take i).foldl P9 []
theorem pG:∀ (met:List Int) (ls:List Lt),(Ia met ls).length=ls.length
 | _,[]=>rfl
 | met,l :: r=>by simp only[Ia,lC,pG _ r]
theorem OE(ls:List Lt):(X8 ls).length=ls.length:=pG _ _
theorem nH:∀ (met:List Int) (ls:List Lt) (i:Nat),i<ls.length→at' (Ia met ls) i=Fx ((ls.take i).foldl P9 met) (at' ls i)
 | _,[],i,h=>by simp at h
 | met,l :: r,0,_=>rfl
 | met,l :: r,i+1,h=>by
  have:=nH (P9 met l) r i (by simpa using h)
  simpa[Ia,at',List.getD]using this
theorem VU{ls:List Lt}{i:Nat}(h:i<ls.length):at' (X8 ls) i=Fx (W8 ls i) (at' ls i):=nH _ _ _ h
theorem Rn{ls:List Lt}{i:Nat}(h:i<ls.length):W8 ls (i+1)=P9 (W8 ls i) (at' ls i):=by
 unfold W8;rw[List.take_add_one,gE h,Option.toList_some,List.foldl_append,at',List.getD,gE h];rfl
theorem VH(ls:List Lt)(i:Nat):(W8 ls i).length≤i:=by
 unfold W8;have:∀ (l:List Lt) (met:List Int),(l.foldl P9 met).length≤met.length+l.length:=by
  intro l
  induction l with
  | nil=>intro met; simp
  | cons a r ih=>
   intro met;have h1:=ih (P9 met a);have h2:(P9 met a).length≤met.length+1:=by unfold P9; split<;>simp
   simp only[List.foldl_cons,lC];omega
 grind
def ltL(a b:Lt):Bool:=
 if a.k≠b.k then decide (a.k<b.k)else if a.g≠b.g then decide (a.g<b.g)else if a.r≠b.r then decide (a.r<b.r)else if a.i≠b.i then decide (a.i<b.i)
 else if a.o≠b.o then b.o else decide (a.s<b.s)
def Vi:List Lt→List Lt→Bool
 | a :: r,b :: s=>if a=b then Vi r s else ltL a b
 | _,_=>false
def bkC(ls:List Lt)(i:Nat):Bool:=AT (at' ls.reverse i) && !W4 ls (ls.length - 1 - i)
theorem Ng(a:Nat)(ls:List Lt):(Em a ls).length=ls.length:=by
 unfold Em
 grind
end Go.Ab
end
section
namespace Go.AE
open Go.RowKit
section
variable {P:Program} {n base:Nat}
def Qx(P:Program)(n:Nat):Aq→(Exit→Env→Ac→Prop)→Env→Ac→Prop
 | .skip,Q,e,m=>Q .normal e m
 | .region false ops,Q,e,m=>V5 P false n m.next ops 0 (Q .normal) e (m.at (m.next+ops.length))
 | .seq x y,Q,e,m=>Qx P n x (P5 (Qx P n y Q) Q) e m
 | .cond c x y,Q,e,m=>Kj (AI n e c) (Qx P n x Q e m) (Qx P n y Q e m)
 | .block id c,Q,e,m=>Qx P n c (H6 id Q) e m
 | .ret,Q,e,m=>Q .ret e m
 | _,_,_,_=>False
def Vs(e:Env):List (Nat×Aa)→Env
 | []=>e
 | (i,x) :: r=>Vs ((i,x) :: e) r
end
structure Yd where
 b:Nat
 n:Nat
 ps:List Nat
 e:Env
 A:Aq
 B:Aq
 wr:List FuncId:=[]
def YC(P:Program)(y:Yd)(args:List Aa)(m:Ac)(K:Aa→Ac→Prop):Prop:=
 args.length=y.ps.length∧Qx P y.n y.A (fun x e m=>match x with
  | .normal=>Qx P y.n y.B (fun x _ m=>match x with
   | .normal=>K (.bool true) m
   | _=>False) e m
  | _=>False) (Vs y.e (y.ps.zip args)) m
section
variable {P:Program} {y:Yd} {n n0 base:Nat}
def Qy(P:Program)(y:Yd)(n base:Nat):List Af→Nat→(Env→Ac→Prop)→Env→Ac→Prop
 | [],_,K,e,m=>K e m
 | o :: r,i,K,e,m=>HS (Q4 n e o.guard)
  (match o.op with
  | .call f xs=>(match AI n e f with
   | .DU b=>b=y.b∧YC P y (xs.map (AI n e)) m fun v m'=>Qy P y n base r (i+1) K (X6 e o.dst v) m'
   | _=>False)
  | op=>Gy (Ak (base+i) (AI n e) m.get op) fun v d=>Qy P y n base r (i+1) K (X6 e o.dst v) (m.app d))
  (Qy P y n base r (i+1) K (X6 e o.dst Aj) m)
def WC(P:Program)(g:FuncId)(args:List Aa)(k:Nat)(x:List Nat)(m:Ac)(K:List Nat→Aa→Ac→Prop):Prop:=
 ∃ wl v,∃ m':Ac,Nl P g args k x m.mem v m'.mem wl∧K wl v m'
def Io(P:Program)(keep:List Nat)(n base:Nat):List Af→Nat→List (Nat×FT)→(Env→Ac→Prop)→Env→Ac→Prop
 | [],_,_,K,e,m=>K e m
 | o :: r,i,fs,K,e,m=>match Q4 n e o.guard with
  | some true=>(match o.op with
   | .call f xs=>(match U5 n e f xs with
    | some (g,args)=>WC P g args (base+i) (DT base i r.length) m fun wl v m'=>J0 fs (.call wl (DT base i r.length) m.next) o.un∧Io P keep n base r (i+1) (O3 keep i (.call wl (DT base i r.length) m.next) fs) K (X6 e o.dst v) m'
    | none=>False)
   | op=>(match Ak (base+i) (AI n e) m.get op with
    | some (v,d)=>J0 fs (.ops (U9 (base+i) (AI n e) op) (T2 (AI n e) op)) o.un∧Io P keep n base r (i+1) (O3 keep i (.ops (U9 (base+i) (AI n e) op) (T2 (AI n e) op)) fs) K (X6 e o.dst v) (m.app d)
    | none=>False))
  | some false=>Io P keep n base r (i+1) (O3 keep i (.ops [] []) fs) K (X6 e o.dst Aj) m
  | none=>False
theorem Wa{keep:List Nat}{K:Env→Ac→Prop}:∀ (ops:List Af) (fs:List (Nat×FT)) (gs:List FT) (e:Env) (m:Ac),
 (∀ j f,M0 fs j=some f→gs.getD j (.ops [] [])=f∧j<gs.length)→Io P keep n base ops gs.length fs K e m→R8 P base ops gs (fun σ=>∃ e m,σ=⟨Be n e,Ac.mem m⟩∧K e m) (Be n e) m.mem
 | [],_,_,e,m,_,h=>⟨e,m,rfl,h⟩
 | o :: r,fs,gs,e,m,hr,h=>by
  have hl:∀ f:FT,(gs++[f]).length=gs.length+1:=fun f=>by simp
  have hrec:∀ f,∀ j g,M0 (O3 keep gs.length f fs) j=some g→(gs++[f]).getD j (.ops [] [])=g∧j<(gs++[f]).length:=by
   intro f j g hj;have old:∀ j g,M0 fs j=some g→(gs++[f]).getD j (.ops [] [])=g∧j<(gs++[f]).length:=fun j g h1=>by
    obtain⟨h2,h3⟩:=hr j g h1;refine⟨?_,by rw[hl]; omega⟩
    rw[List.getD_eq_getElem?_getD,List.getElem?_append_left h3,← List.getD_eq_getElem?_getD];exact h2
   unfold O3 at hj;cases hm:X3 gs.length keep with
   | false=>rw[hm]at hj; exact old j g hj
   | true=>
    rw[hm]at hj;simp only[cond_true,M0]at hj;split at hj
    ·rename_i e1;injection hj with hj
     subst hj; subst e1;refine⟨?_,by rw[hl]; omega⟩
     rw[List.getD_eq_getElem?_getD,List.getElem?_append_right (lR _)];simp
    ·exact old j g hj
  simp only[Io]at h;simp only[R8,QK];cases hw:Q4 n e o.guard with
  | none=>rw[hw]at h; exact h
  | some b=>
   rw[hw]at h;cases b with
   | false=>
    simp only[G1];exact Wa r _ _ _ _ (hrec _) (by rw[hl]; exact h)
   | true=>
    simp only at h ⊢;have other:∀ op,(match Ak (base+gs.length) (AI n e) m.get op with
     | some (v,d)=>J0 fs (.ops (U9 (base+gs.length) (AI n e) op) (T2 (AI n e) op)) o.un∧Io P keep n base r (gs.length+1) (O3 keep gs.length (.ops (U9 (base+gs.length) (AI n e) op) (T2 (AI n e) op)) fs) K (X6 e o.dst v) (m.app d)
     | none=>False) →
     (match Ae (base+gs.length) (Be n e) m.mem op with|some (v,m')=>O0 gs (.ops (T8 (base+gs.length) (Be n e) op) (L8 (Be n e) op)) o.un∧R8 P base r (gs++[.ops (T8 (base+gs.length) (Be n e) op) (L8 (Be n e) op)]) (fun σ=>∃ e m,σ=⟨Be n e,Ac.mem m⟩∧K e m) (put (Be n e) o.dst v) m'|none=>False):=by
     intro op hh;cases hs:Ak (base+gs.length) (AI n e) m.get op with
     | none=>rw[hs]at hh; exact hh.elim
     | some vd=>
      obtain⟨v,d⟩:=vd;rw[hs]at hh;have:=Ow (m:=m.mem) (t:=Be n e) (id:=base+gs.length) (op:=op) (v:=v) (d:=d) (by rw[G5]; exact hs)
      rw[this];simp only[G1,Wq,Xz,G5];rw[← Ac.BW];exact⟨RT (fun j f hj=>(hr j f hj).1) hh.1,Wa r _ _ _ _ (hrec _) (by rw[hl]; exact hh.2)⟩
    cases hop:o.op with
    | call f xs=>
     simp only[hop]at h;simp only[RF];cases hc:U5 n e f xs with
     | none=>rw[hc]at h; exact h
     | some ga=>
      obtain⟨g,args⟩:=ga;rw[hc]at h;obtain⟨wl,v,m',h1,h0,h2⟩:=h;refine⟨wl,_,v,_,h1,RT (fun j f hj=>(hr j f hj).1) h0,?_⟩
      simp only[G1];exact Wa r _ _ _ _ (hrec _) (by rw[hl]; exact h2)
    | _=>(have hh:=other o.op; rw[hop]at h hh; exact hh h)
def L4(l:List FuncId):AQ→Bool
 | .call (.fn g) _=>X3 g l
 | _=>false
def jB(l:List FuncId):Af→Bool
 | ⟨_,op,_,_⟩=>L4 l op
def EB(q:Nat→Nat)(n:Nat)(ks:List Nat):List (Nat×Ag)→Bool
 | []=>true
 | (d,_) :: r=>(X3 (q d) ks||Nat.ble n d)&&EB q n ks r
theorem uN{q:Nat→Nat}{n:Nat}{ks:List Nat}:∀ {l:List (Nat×Ag)},EB q n ks l=true → ∀ d y,Y2 l d=some y→q d∈ks∨n≤d
 | [],_,d,y,h=>by simp[Y2]at h
 | (c,x) :: r,hs,d,y,h=>by
  simp only[EB,bA,Bool.or_eq_true]at hs;simp only[Y2]at h;split at h
  ·rename_i e;subst e;rcases hs.1 with h1|h1
   ·exact .inl (Br.1 h1)
   ·exact .inr (Nat.le_of_ble_eq_true h1)
  ·exact uN hs.2 d y h
theorem MG{g:FuncId}{AZ args:List Aa}{m0 Jm m:Ac}{v0:Aa}{k:Nat}{x:List Nat}{K:List Nat→Aa→Ac→Prop}(h:Cc P g AZ m0 fun r sm=>r=v0∧sm=Jm)(Dz:m0.next≤Jm.next)(l:List (Nat×Nat))(ha:U3 (Bz l 0 m0.next m.next) AZ=args)
 (hs:BB (Bz l 0 m0.next m.next) m0.bl m) (hi:Cz (Bz l 0 m0.next m.next) m0.bl) (hsub:EB (Bz l 0 m0.next m.next) m0.next (N8 (Bz l 0 m0.next m.next) m0.bl) Jm.bl=true) (hk:k∉x) (hx:∀ b,b∈N8 (Bz l 0 m0.next m.next) m0.bl→b∉x)
 (hx0:∀ c,c∈x→m.get c=none) (Vh:∀ c,c∈x→Y2 (L7 (Bz l 0 m0.next m.next) Jm.bl (Q8 (N8 (Bz l 0 m0.next m.next) m0.bl) m.bl)) c=none)
 (hK:K (N8 (Bz l 0 m0.next m.next) m0.bl) (v0.AA (Bz l 0 m0.next m.next)) ⟨L7 (Bz l 0 m0.next m.next) Jm.bl (Q8 (N8 (Bz l 0 m0.next m.next) m0.bl) m.bl),Jm.next - m0.next+m.next⟩):WC P g args k x m K:=by
 subst ha;refine⟨_,_,_,?_,hK⟩;obtain⟨q,hq⟩:∃ q,Bz l 0 m0.next m.next=q:=⟨_,rfl⟩
 have hqn:∀ c,m0.next≤c→q c=c - m0.next+m.next:=fun c hc=>by
  rw[← hq];simp only[Bz,Nat.not_lt_zero,if_false];rw[iN (by omega)]
 rw[hq]at hs hi hsub hx Vh ⊢;obtain⟨m3,hm3⟩:∃ m3:Ac,m3=⟨L7 q Jm.bl (Q8 (N8 q m0.bl) m.bl),Jm.next - m0.next+m.next⟩:=⟨_,rfl⟩
 have hget:∀ c,m3.mem.get c=Y2 (L7 q Jm.bl (Q8 (N8 q m0.bl) m.bl)) c:=fun c=>by rw[hm3]; rfl
 rw[← hm3];refine⟨m3.mem,hk,fun c hc=>by rw[hget]; exact Vh c hc,?_,rfl,fun c=>?_,fun c hw hlt hc=>?_,?_⟩
 ·show m.next≤m3.next;rw[hm3];show m.next≤Jm.next - m0.next+m.next;omega
 ·by_cases hc:c∈x
  ·rw[iP hc,hget,Vh c hc];exact(hx0 c hc).symm
  ·rw[iN hc]
 ·rw[hget];cases hy:Y2 (L7 q Jm.bl (Q8 (N8 q m0.bl) m.bl)) c with
  | some y=>
   rcases XB hy with⟨d,z,h1,h2,h3⟩|h1
   ·exfalso;rcases uN hsub d z h1 with h4|h4
    ·exact hw (h2 ▸ h4)
    ·rw[h2,hqn d h4]at hlt;have:d - m0.next+m.next<m.next:=hlt;omega
   ·exact(QX h1).1.symm
  | none=>
   cases hz:m.mem.get c with
   | none=>rfl
   | some z=>
    exfalso;have h1:Y2 (Q8 (N8 q m0.bl) m.bl) c=some z:=by
     have:∀ l:List (Nat×Ag),Y2 l c=some z→Y2 (Q8 (N8 q m0.bl) l) c=some z:=by
      intro l
      induction l with
      | nil=>intro h; simp[Y2]at h
      | cons a r ih=>
       obtain⟨d,w⟩:=a;intro h;simp only[Y2]at h;simp only[Q8];cases hm:X3 d (N8 q m0.bl)with
       | true=>
        simp only[cond_true];refine ih ?_;rw[iN (fun e:c=d=>hw (by rw[e]; exact Br.1 hm))]at h
        exact h
       | false=>
        simp only[cond_false,Y2];split
        ·rename_i e; rw[iP e]at h; exact h
        ·rename_i e; rw[iN e]at h; exact ih h
     exact this _ hz
    have h2:∀ (l t:List (Nat×Ag)),Y2 t c=some z→Y2 (L7 q l t) c≠none:=by
     intro l t ht
     induction l with
     | nil=>simp only[L7]; rw[ht]; simp
     | cons a r ih=>
      obtain⟨d,w⟩:=a;simp only[L7,Y2];split
      ·simp
      ·exact ih
    exact h2 _ _ h1 hy
 ·refine bG h (m:=m.mem.less x) (q:=q) (fun c y hy=>?_) (fun c c' y y' hy hy'=>hi.get c c' y y' hy hy') hqn (fun r0 m1 hh=>?_) [k]
  ·have hn:q c∉x:=hx _ (Se hy);obtain⟨z,DJ,hz2⟩:=hs.get c y hy;refine⟨z,?_,hz2⟩;show(if q c∈x then none else m.mem.get (q c))=some z
   rw[iN hn];exact DJ
  ·obtain⟨sm,rfl,rfl,rfl⟩:=hh;refine⟨m3.mem,by rw[hm3]; rfl,fun b y hb=>?_,rfl,rfl⟩
   have hbx:b∉x:=fun hin=>by
    rw[hget,Vh b hin]at hb;cases hb
   rw[hget]at hb;rcases XB hb with⟨c,z,h1,h2,h3⟩|h1
   ·exact .inl ⟨c,z,h1,h2,h3⟩
   ·have h2:=QX h1;refine .inr ⟨?_,fun c z hc e=>h2.2 (e ▸ Se hc)⟩
    show(if b∈x then none else m.mem.get b)=some y
    rw[iN hbx];exact h2.1
def J6:AQ→Bool
 | .call (.tmp _) _=>true
 | _=>false
def isY:Af→Bool
 | ⟨_,op,_,_⟩=>J6 op
def HB(H:Dn)(n0:Nat):Dn:=fun W Φ ρ=>∃ Ed Da,H W Ed Da∧(∀ b l,Da b=some l→b<n0)∧(∀ B c,Ed B=some c→Φ B=some c) ∧ ∀ b,b<n0→ρ b=Da b
theorem Z6y{g:FuncId}{AZ args:List Aa}{v0:Aa}(h:AS P g AZ v0)(hv:match v0 with | .int _ _ | .bool _=>True|_=>False){m:Mem}(S:List Nat)(ha:args.map (EG m.get S)=AZ)(av:List Nat):Az P g args m av fun r m'=>r=v0∧m'=m:=by
 subst ha;have hP:=h ⟨fun _=>none,m.next⟩ []
 refine⟨hP.1,fun W Φ ρ vs w hr hargs Ch=>?_⟩
 obtain⟨Bp,f0,f1,f2,f3,f4⟩:=Sn S hr;have ha2:RL Bp ρ (args.map (EG m.get S)) vs:=by
  refine⟨by rw[hargs.1,lM],fun i x v hx hv=>?_⟩
  rw[gM]at hx;cases hy:args[i]? with
  | none=>rw[hy]at hx; cases hx
  | some y=>
   rw[hy]at hx;injection hx with hx
   subst hx;exact f4 _ _ (hargs.2 i y v hy hv)
 refine(hP.2 ⟨w,fun _=>none,Bp⟩ Bp ρ vs w ⟨⟨Below.refl _ _,fun B o hB=>(by cases hB)⟩,f1,fun b y hy=>(by cases hy),fun b b' y y' l l' h1=>(by cases h1),fun b l hl=>hr.fresh b l hl,fun B c hB=>.inl hB⟩ ha2 (fun b hb=>by simp at hb)).mono fun e w' he=>?_
 obtain⟨u,r,m',Am,ρ',rfl,hE,hk,hr',hR,hn',rfl,rfl⟩:=he;refine⟨u,r,m,Φ,ρ,rfl,.refl _ _,fun b _ _ h=>h,hr.below hr'.base.below,?_,lR _,rfl,rfl⟩
 cases r<;>first|exact hv.elim|skip
 ·cases hR; exact .bool _
 ·cases hR; exact .int _ _
def B5(get:Nat→Option Ag)(x:List Nat)(c:Nat):Option Ag:=bif X3 c x then none else get c
theorem yO{g:FuncId}{AZ args:List Aa}{v0:Aa}(h:AS P g AZ v0)(hv:match v0 with | .int _ _ | .bool _=>True|_=>False){m:Ac}{x:List Nat}(S:List Nat)(ha:args.map (EG (B5 m.get x) S)=AZ){k:Nat}{K:Aa→Option Ag→Prop}(hK:K v0 none):DC P g args k x m K:=by
 refine⟨v0,none,?_,hK⟩;refine Z6y h hv S ?_ [k];have e:(m.mem.less x).get=B5 m.get x:=by
  funext c
  unfold B5;show(if c∈x then none else m.get c)=_
  by_cases hc:c∈x
  ·rw[iP hc,Br.2 hc]; rfl
  ·rw[iN hc];cases hm':X3 c x with
   | false=>rfl
   | true=>exact absurd (Br.1 hm') hc
 rw[e];exact ha
variable {Q:Exit→Env→Ac→Prop} {K:Env→Ac→Prop} {e:Env} {m:Ac}
theorem B6{keep:List Nat}{i:Nat}{fs:List (Nat×FT)}:Io P keep n base [] i fs K e m=K e m:=propext Iff.rfl
theorem D8{keep:List Nat}{i:Nat}{fs:List (Nat×FT)}(d:Option Nat)(op:AQ)(un:List Nat)(r:List Af):Io P keep n base (⟨d,op,none,un⟩ :: r) i fs K e m=match op with
 | .call f xs=>(match U5 n e f xs with
  | some (g,args)=>WC P g args (base+i) (DT base i r.length) m fun wl v m'=>J0 fs (.call wl (DT base i r.length) m.next) un∧Io P keep n base r (i+1) (O3 keep i (.call wl (DT base i r.length) m.next) fs) K (X6 e d v) m'
  | none=>False)
 | op=>(match Ak (base+i) (AI n e) m.get op with
  | some (v,w)=>J0 fs (.ops (U9 (base+i) (AI n e) op) (T2 (AI n e) op)) un∧Io P keep n base r (i+1) (O3 keep i (.ops (U9 (base+i) (AI n e) op) (T2 (AI n e) op)) fs) K (X6 e d v) (m.app w)
  | none=>False):=by
 cases op<;>rfl
@[congr] theorem Yd1{g : FuncId}{args args' : List Aa}{k : Nat}{x : List Nat}{m : Ac}{K : List Nat → Aa → Ac → Prop}(h : args = args') : WC P g args k x m K = WC P g args' k x m K := by rw [h]
end
section
theorem yQ(d:Option Nat)(op:AQ)(g:Option (Nat×Bool))(un:List Nat):isY ⟨d,op,g,un⟩=J6 op:=rfl
theorem qz(f:FuncId)(xs:List Ah):J6 (.call (.fn f) xs)=false:=rfl
theorem Z97(t:Nat)(xs:List Ah):J6 (.call (.tmp t) xs)=true:=rfl
theorem ql(l:List FuncId)(d:Option Nat)(op:AQ)(g:Option (Nat×Bool))(un:List Nat):jB l ⟨d,op,g,un⟩=L4 l op:=rfl
theorem tq(l:List FuncId)(f:FuncId)(xs:List Ah):L4 l (.call (.fn f) xs)=X3 f l:=rfl
theorem ru(l:List FuncId)(t:Nat)(xs:List Ah):L4 l (.call (.tmp t) xs)=false:=rfl
theorem Zzv(x:Ah):J6 (.Fp x)=false:=rfl
theorem qg(l:List FuncId)(x:Ah):L4 l (.Fp x)=false:=rfl
theorem Z9u(n:Option Nat)(x:Ah):J6 (.load n x)=false:=rfl
theorem Z7h(l:List FuncId)(n:Option Nat)(x:Ah):L4 l (.load n x)=false:=rfl
theorem zb(n:Nat)(a x:Ah):J6 (.store n a x)=false:=rfl
theorem Z36(l:List FuncId)(n:Nat)(a x:Ah):L4 l (.store n a x)=false:=rfl
theorem Z3q(o:Nat)(x:Ah):J6 (.BH o x)=false:=rfl
theorem zd(l:List FuncId)(o:Nat)(x:Ah):L4 l (.BH o x)=false:=rfl
theorem zC(k:Nat)(x i:Ah):J6 (.BI k x i)=false:=rfl
theorem Z43(l:List FuncId)(k:Nat)(x i:Ah):L4 l (.BI k x i)=false:=rfl
theorem Z71(x:Ah):J6 (.BC x)=false:=rfl
theorem uq(l:List FuncId)(x:Ah):L4 l (.BC x)=false:=rfl
theorem tg(x:Ah):J6 (.Ct x)=false:=rfl
theorem Z3g(l:List FuncId)(x:Ah):L4 l (.Ct x)=false:=rfl
theorem Z55(o:UnOp)(x:Ah):J6 (.un o x)=false:=rfl
theorem yJ(l:List FuncId)(o:UnOp)(x:Ah):L4 l (.un o x)=false:=rfl
theorem Z32(c a b:Ah):J6 (.pick c a b)=false:=rfl
theorem Z4u(l:List FuncId)(c a b:Ah):L4 l (.pick c a b)=false:=rfl
theorem Z4q(o:BinOp)(q:Fi)(x y:Ah):J6 (.bin o q x y)=false:=rfl
theorem Z2z(l:List FuncId)(o:BinOp)(q:Fi)(x y:Ah):L4 l (.bin o q x y)=false:=rfl
theorem Z4l(z:List Aa):J6 (.alloc z)=false:=rfl
theorem xg(l:List FuncId)(z:List Aa):L4 l (.alloc z)=false:=rfl
theorem Z4o(z:List Aa)(p:List (Nat×Nat×Ah)):J6 (.build z p)=false:=rfl
theorem Z4h(l:List FuncId)(z:List Aa)(p:List (Nat×Nat×Ah)):L4 l (.build z p)=false:=rfl
theorem Z94(k n:Nat)(z:List Aa)(p:List (Nat×Ah)):J6 (.CB k n z p)=false:=rfl
theorem Z8m(l:List FuncId)(k n:Nat)(z:List Aa)(p:List (Nat×Ah)):L4 l (.CB k n z p)=false:=rfl
theorem Z3l(k b:Nat)(z:List Aa)(s x:Ah):J6 (.append k b z s x)=false:=rfl
theorem wq(l:List FuncId)(k b:Nat)(z:List Aa)(s x:Ah):L4 l (.append k b z s x)=false:=rfl
theorem Z3v(t:Ce)(z:Aa)(o:Bool)(x i:Ah):J6 (.lookup t z o x i)=false:=rfl
theorem yI(l:List FuncId)(t:Ce)(z:Aa)(o:Bool)(x i:Ah):L4 l (.lookup t z o x i)=false:=rfl
theorem Z2y(t:Ce)(a b c:Ah):J6 (.BJ t a b c)=false:=rfl
theorem Z7c(l:List FuncId)(t:Ce)(a b c:Ah):L4 l (.BJ t a b c)=false:=rfl
theorem Z4w:J6 (.mkMap)=false:=rfl
theorem yu(l:List FuncId):L4 l (.mkMap)=false:=rfl
attribute [simp] yQ qz Z97 ql tq ru Zzv qg Z9u Z7h zb Z36 Z3q zd zC Z43 Z71 uq tg Z3g Z55 yJ Z32 Z4u Z4q Z2z Z4l xg Z4o Z4h Z94 Z8m Z3l wq Z3v yI Z2y Z7c Z4w yu
end
end Go.AE
end
