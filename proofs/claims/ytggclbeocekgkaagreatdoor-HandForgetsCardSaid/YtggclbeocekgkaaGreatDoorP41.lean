/- Part 41 of the proof: Hl, Tf, Tm, Pu, AeWr, He. -/
import Derived.Test.YtggclbeocekgkaaGreatDoorP19
import Derived.Test.YtggclbeocekgkaaGreatDoorP20
import Derived.Test.YtggclbeocekgkaaGreatDoorP22
import Derived.Test.YtggclbeocekgkaaGreatDoorP31
import Derived.Test.YtggclbeocekgkaaGreatDoorP32
import Derived.Test.YtggclbeocekgkaaGreatDoorP35
import Derived.Test.YtggclbeocekgkaaGreatDoorP40
set_option linter.all false
section
namespace Go.Ac
open Go Go.AE Go.Proofs
open Go.Plain
theorem uk(fs:List Fg)(re lo:Int):Al Tryz.prog 32 [Dx fs re lo] (.bool (decide (fs.length≤60))):=by
 refine R2 hm Tryz.func32 uo rfl rfl (by simp[X8,Aa.closed,H9,Dx]) trivial fun K hK=>?_
 have hlenG:(fs.map Ax).length=fs.length:=lM ..;unfold Dx;generalize fs.map Ax=F3 at *;by_cases h1:fs.length≤60
 ·have h1':(fs.length:Int)≤60:=by omega
  rw[decide_eq_true h1]at hK;simp[hlenG,h1'];exact Z4 hK [] (by simp)
 ·have h1':¬(fs.length:Int)≤60:=by omega
  rw[decide_eq_false h1]at hK;simp[hlenG,h1'];exact Z4 hK [] (by simp)
end Go.Ac
end
section
namespace Go.Ac
open Go Go.AE Go.Proofs
open Go.Plain
theorem Z1j{f:Int}{ls:List Lt}(he:U0 f ls=0):∀ l,l∈ls→l.k=1→0≤l.g∧l.g≤40:=by
 intro l hm hk;have h0:ls≠[]:=fun e=>by subst e; simp at hm
 have hv:=MG he h0;have h1:=(hv.key hm (by simp[Am,hk])).2
 have:=hv.hi;exact⟨by omega,by omega⟩
open Classical in
noncomputable def KK(fs:List Fg)(re lo f:Int)(ls:List Lt):Int:=
 if Pe fs re lo=false then 2 else if U0 f ls≠0 then U0 f ls else if f=fs.length∧Fb ls=true then 0 else 2
set_option maxRecDepth 100000 in
set_option maxHeartbeats 8000000 in
theorem cR(fs:List Fg)(re lo f:Int)(ls:List Lt)(hf:fs.length≤1000)(h:ls.length≤1000):Al Tryz.prog 41 [Dx fs re lo,cV f ls] (.int .i64 (KK fs re lo f ls)):=by
 refine R2 hm Tryz.func41 vA rfl rfl (by simp[X8,Aa.closed,H9,X5,Dx]) trivial fun K hK=>?_
 have hlen:(fs.map Ax).length=fs.length:=lM ..;have h82:=c82 fs re lo hf;have h30:=c30 f ls h;have h120:=fun he=>bY f ls h (Z1j (f:=f) he)
 unfold Dx cV at *;generalize ls.map Ab=rows at *;generalize fs.map Ax=F3 at *;unfold KK at hK;cases hB:Pe fs re lo with
 | false=>
  rw[hB]at h82;rw[iP hB]at hK;simp[];refine Y5 h82 ?_;simp;exact Z4 hK [] (by simp)
 | true=>
  rw[hB]at h82;rw[iN (by simp[hB])]at hK
  simp[];refine Y5 h82 ?_;simp;refine Y5 h30 ?_;by_cases he:U0 f ls=0
  ·rw[iN (by simp[he])]at hK
   have h120':=h120 he;simp[he,hlen];by_cases hl:f=fs.length
   ·subst hl;simp[];refine Y5 h120' ?_;cases hP:Fb ls with
    | true=>
     rw[iP ⟨rfl,hP⟩]at hK;simp;exact Z4 hK [] (by simp)
    | false=>
     rw[iN (fun hh=>by simp[hP]at hh)]at hK
     simp;exact Z4 hK [] (by simp)
   ·rw[iN (fun hh=>hl hh.1)]at hK
    simp[hl];exact Z4 hK [] (by simp)
  ·rw[iP he]at hK;simp[he];exact Z4 hK [] (by simp)
end Go.Ac
end
section
namespace Go.Ac
open Go Go.AE Go.Proofs
open Go.Plain
@[simp] theorem Yd5(id : Nat)(f : Ah → Aa)(get : Nat → Option Ai)(k : Nat)(zero : List Aa)(x : Ah) : Y6 id f get (.clear k zero x) = match f x with
 | .sl b off len=>match get b with
  | some (.cells k' els)=>if k'=k∧off+len≤els.length then
   some (Ag,[(b,some (.cells k (els.take off++List.replicate len zero++els.drop (off+len))))])
   else none
  | _=>none
 | .Ae=>some (Ag,[])
 | .emp=>some (Ag,[])
 | _=>none:=rfl
@[simp] theorem Ydx(id : Nat)(f : Ah → Aa)(get : Nat → Option Ai)(mx : Bool)(x y : Ah) : Y6 id f get (.Cq mx [x, y]) = match LO mx (f x) [f y] with
  | some v=>some (v,[])
  | none=>none:=rfl
@[simp] theorem gX(mx : Bool)(k k' : IntKind)(a b : Int) : LO mx (.int k a) [.int k' b] = some (.int k (if mx then (if b > a then b else a) else (if b < a then b else a))) := rfl
end Go.Ac
end
section
namespace Go.Ac
open Go.Plain
def qo(n:Nat)(e:Bool)(s p:Nat):Nat:=if e then (if s+p<n then s+p else s+p - n)else (if p≤s then s - p else s+n - p)
def ivt(n:Nat)(e:Bool)(s:Nat):Nat:=if e then (if s=0 then 0 else n - s)else s
def ap(φ:Int→Int)(l:Lt):Lt:=if l.k=2 then { l with i:=φ l.i } else l
def XN(φ:Int→Int)(y:List Lt):Prop:=∀ a,a∈y → ∀ b,b∈y→a.k=2→b.k=2→φ a.i=φ b.i→a.i=b.i
def De(e:Bool)(y x:List Lt):Prop:=x.length=y.length ∧ ∃ s φ,s<y.length∧XN φ y ∧ ∀ p,p<y.length→at' x p=ap φ (at' y (qo y.length e s p))∧(Am (at' x p)=true→Z8 x p=(Z8 y (qo y.length e s p) == e))
end Go.Ac
end
section
namespace Go.AE
open Go.RowKit
section
variable {P:Program} {wr:List FuncId} {n n0:Nat}
def CG(P:Program)(wr:List FuncId)(n n0:Nat):An→(Exit→Env→Ad→Prop)→Env→Ad→Prop
 | .skip,Q,e,m=>Q .normal e m
 | .region false ops,Q,e,m=>if ops.any XC=true then Eu P n m.next ops 0 (Q .normal) e (m.at (m.next+ops.length))else V7 P false n m.next ops 0 (Q .normal) e (m.at (m.next+ops.length))
 | .region true ops,Q,e,m=>if ops.any (Ll wr)=true then Hf P (Kn ops) n m.next ops 0 [] (Q .normal) e (m.at (m.next+ops.length))
  else if ops.all H2=true then V7 P false n m.next ops 0 (Q .normal) e (m.at (m.next+ops.length))
  else if ops.all (fun o=>o.un.isEmpty)=true then V7 P true n m.next ops 0 (Q .normal) e (m.at (m.next+ops.length))
  else G9 P (Kn ops) n m.next ops 0 [] (Q .normal) e (m.at (m.next+ops.length))
 | .seq a b,Q,e,m=>CG P wr n n0 a (M8 (CG P wr n n0 b Q) Q) e m
 | .cond c a b,Q,e,m=>Ly (AG n e c) (CG P wr n n0 a Q e m) (CG P wr n n0 b Q e m)
 | .block id c,Q,e,m=>CG P wr n n0 c (G3 id Q) e m
 | .loop c,Q,e,m=>∃ (I:Nat→Env→Ad→Prop),(∃ k e0 m0,Lr n n0 e0 m0 e m∧I k e0 m0) ∧ ∀ k e1 m1,I k e1 m1→CG P wr n n0 c (M8 (fun e' m'=>∃ j e0 m0,j<k∧Lr n n0 e0 m0 e' m'∧I j e0 m0) Q) e1 m1
 | .exit id,Q,e,m=>Q (.exit id) e m
 | .scope c,Q,e,m=>CG P wr n n0 c Q e m
 | .label _,Q,e,m=>Q .normal e m
 | .ret,Q,e,m=>Q .ret e m
 | .bad,_,_,_=>False
theorem Z28(hm:P.follows .mixedOrders=true):∀ (c:Code) (Q:Exit→Env→Ad→Prop) (e:Env) (m:Ad),CG P wr n n0 (Y4 P c) Q e m→Gn P n n0 c Q e m:=by
 intro c
 induction c with
 | skip=>exact fun Q e m h W Φ ρ a w hn hr ht hd=>wp_skip ⟨e,m,Φ,ρ,fun _ _ h=>h,fun _ _=>rfl,hn,hr,ht,hd,fun l hl=>(by cases hl),h⟩
 | region id ops draw=>
  intro Q e m h;have hw:∀ A:An,Y4 P (.region id ops draw)=A→(match A with | .region _ _=>True | .bad=>True|_=>False)→CG P wr n n0 A Q e m→Gn P n n0 (.region id ops draw) Q e m:=by
   intro A hc hA h;have plain:Cy P n n0 A Q e m→Gn P n n0 (.region id ops draw) Q e m:=fun hz W Φ ρ a w hn hr ht hd=>
    oC hm (.region id ops draw) Q e m (by rw[hc]; exact tD hz fun _ _ _ h=>h) W Φ ρ a w hn hr ht hd
   cases A with
   | region d os=>
    cases d with
    | false=>
     simp only[CG]at h;split at h
     ·have hvv:=h;cases draw with
      | true=>
       simp only[Y4]at hc;split at hc<;>first|(cases hc; done)|skip
       split at hc<;>cases hc
      | false=>
       simp only[Y4]at hc;split at hc<;>first|(cases hc; done)|skip
       rename_i aso hco;cases hc;exact Z4o hco hvv
     ·exact plain h
    | true=>
     simp only[CG]at h;split at h
     ·intro W Φ ρ a w hn hr ht hd;refine sF hm (e:=e) (m:=m) ?_ W Φ ρ a w hn hr ht hd;rw[hc];exact Xm os [] [] e _ (fun j f hj=>by simp[M5]at hj) h
     ·exact plain h
   | bad=>exact h.elim
   | _=>exact hA.elim
  refine hw _ rfl ?_ h;cases draw with
  | false=>
   simp only[Y4];cases F2 P ops ops.toList<;>trivial
  | true=>
   simp only[Y4];cases F2 P ops ops.toList with
   | none=>trivial
   | some aso=>
    simp only;cases SN ops aso (Hv ops.toList)<;>trivial
 | seq x y ihx ihy=>
  intro Q e m h W Φ ρ a w hn hr ht hd;simp only[Y4,CG]at h;refine wp_seq (wp_mono (ihx _ _ _ h W Φ ρ a w hn hr ht hd) ?_);intro x' a' w' hl;have key:∀ e',x'=e'→e'≠.normal→OC W Φ ρ n n0 Q x' a' w':=by
   intro e' he hne;refine RI (fun _ _ h=>h) (fun _ _=>rfl) hl fun e m hq=>?_
   subst he;cases x'<;>first|exact absurd rfl hne|exact hq
  cases x' with
  | normal=>
   obtain⟨e',m',Ar,ρ',h1,h2,h3,h4,h5,h6,h7,h8⟩:=hl;exact wp_mono (ihy _ _ _ h8 W Ar ρ' a' w' h3 h4 h5 h6) fun x a w hl'=>RI h1 h2 hl' fun _ _ h=>h
  | exit i=>exact key _ rfl (by simp)
  | goto l=>exact key _ rfl (by simp)
  | ret=>exact key _ rfl (by simp)
  | panic ch=>exact key _ rfl (by simp)
  | outgrown=>exact key _ rfl (by simp)
 | cond c x y ihx ihy=>
  intro Q e m h W Φ ρ a w hn hr ht hd;simp only[Y4]at h;cases hc:X3 c with
  | none=>simp[hc,CG]at h
  | some c'=>
   simp only[hc,CG]at h;have hv:=R4 ht hc;rw[G5]at hv;generalize AG n e c'=z at h hv;cases z<;>first|exact h.elim|skip
   rename_i q;generalize hz:a.eval c=v at hv;cases hv;cases q
   ·exact wp_cond_false hz (ihy _ _ _ h W Φ ρ a w hn hr ht hd)
   ·exact wp_cond_true hz (ihx _ _ _ h W Φ ρ a w hn hr ht hd)
 | block id c ih=>
  intro Q e m h W Φ ρ a w hn hr ht hd;simp only[Y4,CG]at h;refine wp_block (wp_mono (ih _ _ _ h W Φ ρ a w hn hr ht hd) ?_);intro x a' w' hl;cases x with
  | exit i=>
   simp only[Exit.inBlock];obtain⟨e',m',Ar,ρ',h1,h2,h3,h4,h5,h6,h7,h8⟩:=hl;simp only[G3]at h8;split
   ·rename_i hi;rw[iP hi]at h8;exact⟨e',m',Ar,ρ',h1,h2,h3,h4,h5,h6,fun l hl=>(by cases hl),h8⟩
   ·rename_i hi;rw[iN hi]at h8;exact⟨e',m',Ar,ρ',h1,h2,h3,h4,h5,h6,fun l hl=>(by cases hl),h8⟩
  | normal=>exact hl
  | goto l=>exact hl
  | ret=>exact hl
  | panic ch=>exact hl
  | outgrown=>exact hl
 | loop c ih=>
  intro Q e m h W Φ ρ a w hn hr ht hd;simp only[Y4,CG]at h;obtain⟨I,⟨k0,e0,m0,hs0,h0⟩,Dm⟩:=h;obtain⟨Φ1,ρ1,hp1,hk1,hr1,ht1⟩:=hs0.2 W Φ ρ _ w hr ht;refine wp_loop_ghost (fun k a' w'=>∃ e' m' Ar ρ',(∀ B c,Φ B=some c→Ar B=some c)∧(∀ b,b<n0→ρ' b=ρ b)∧n0≤m'.next∧Rel W Ar ρ' m'.mem w'∧RL Ar ρ' (Be n e') a'.tmps∧a'.defers=[]∧I k e' m') k0
   ⟨e0,m0,Φ1,ρ1,hp1,hk1,hs0.1,hr1,ht1,hd,h0⟩ ?_
  rintro k a' w' ⟨e',m',Ar,ρ',h1,h2,h3,h4,h5,h6,h7⟩;refine wp_mono (ih _ _ _ (Dm k e' m' h7) W Ar ρ' a' w' h3 h4 h5 h6) ?_;intro x a'' w'' hl;have key:∀ e',x=e'→e'≠.normal→OC W Φ ρ n n0 Q x a'' w'':=by
   intro e' he hne;refine RI h1 h2 hl fun e m hq=>?_
   subst he;cases x<;>first|exact absurd rfl hne|exact hq
  cases x with
  | normal=>
   obtain⟨e2,m2,Φ2,ρ2,g1,g2,g3,g4,g5,g6,_,j,e3,m3,g7,g8,g9⟩:=hl;obtain⟨Φ3,ρ3,hp3,hk3,hr3,ht3⟩:=g8.2 W Φ2 ρ2 _ _ g4 g5;exact⟨j,g7,e3,m3,Φ3,ρ3,fun B c hB=>hp3 B c (g1 B c (h1 B c hB)),fun b hb=>(hk3 b hb).trans ((g2 b hb).trans (h2 b hb)),g8.1,hr3,ht3,g6,g9⟩
  | exit i=>exact key _ rfl (by simp)
  | goto l=>exact key _ rfl (by simp)
  | ret=>exact key _ rfl (by simp)
  | panic ch=>exact key _ rfl (by simp)
  | outgrown=>exact key _ rfl (by simp)
 | exit id=>exact fun Q e m h W Φ ρ a w hn hr ht hd=>wp_exit ⟨e,m,Φ,ρ,fun _ _ h=>h,fun _ _=>rfl,hn,hr,ht,hd,fun l hl=>(by cases hl),h⟩
 | scope c ih=>
  intro Q e m h W Φ ρ a w hn hr ht hd;simp only[Y4,CG]at h;refine wp_scope_straight (wp_mono (ih _ _ _ h W Φ ρ a w hn hr ht hd) ?_);intro x a' w' hl;cases x with
  | goto l=>
   obtain⟨_,_,_,_,_,_,_,_,_,_,h7,_⟩:=hl;exact absurd rfl (h7 l)
  | normal=>exact hl
  | exit i=>exact hl
  | ret=>exact hl
  | panic ch=>exact hl
  | outgrown=>exact hl
 | label l=>exact fun Q e m h W Φ ρ a w hn hr ht hd=>wp_label ⟨e,m,Φ,ρ,fun _ _ h=>h,fun _ _=>rfl,hn,hr,ht,hd,fun l hl=>(by cases hl),h⟩
 | ret=>exact fun Q e m h W Φ ρ a w hn hr ht hd=>wp_ret ⟨e,m,Φ,ρ,fun _ _ h=>h,fun _ _=>rfl,hn,hr,ht,hd,fun l hl=>(by cases hl),h⟩
 | rangeFunc f ps x y _ _=>exact fun Q e m h=>by simp[Y4,CG]at h
 | goto l=>exact fun Q e m h=>by simp[Y4,CG]at h
 | refuse s=>exact fun Q e m h=>by simp[Y4,CG]at h
theorem Z5m(hm:P.follows .mixedOrders=true){f:FuncId}{fn:Func}{af:As}{args:List Aa}{m:Ad}{K:Aa→Ad→Prop}(hf:P.funcs[f]? = some fn)(hc:AS P fn=some af)(hl:Nat.ble args.length af.ntmps=true)
 (h:CG P wr af.ntmps m.next af.body (G4 af.ntmps af.results (L8 m.next K)) (Q9 0 args []) m):AV P f args m K:=by
 obtain⟨c,hb,hbody,CB,hnt,hname⟩:=SU hc;have hl':args.length≤af.ntmps:=Nat.le_of_ble_eq_true hl;rw[hbody]at h;refine⟨⟨fn,hf,hname,by rw[hb]; rfl⟩,fun W Φ ρ vs w hr ha CN=>?_⟩
 have ht0:=Zk (k:=fn.ntmps) ha;have ht1:RL Φ ρ (Be af.ntmps (Q9 0 args [])) (vs++Array.replicate (fn.ntmps - vs.size) undef):=by
  refine ht0.sub (by rw[F1]; simp; omega) fun i x hx=>?_
  have hi:i<af.ntmps:=by
   have:=(gS.1 hx).1;rwa[F1]at this
  rw[C8 hi,Vz]at hx;injection hx with hx
  by_cases h2:0≤i∧i<0+args.length
  ·rw[iP h2]at hx;rw[List.getElem?_append,iP (by omega)]
   refine .inr ?_;rw[← hx,Nat.sub_zero,List.getD,gE (by omega)]
   rfl
  ·rw[iN h2]at hx;exact .inl hx.symm
 have hs:=Z28 (n0:=m.next) hm c _ _ _ h W Φ ρ { tmps:=vs++Array.replicate (fn.ntmps - vs.size) undef,defers:=[] } w (lR _) hr ht1 rfl;refine calls_of_wp hf hb (wp_mono hs fun x a w' hl=>?_)
 obtain⟨e,m',Ar,ρ',h1,h2,h3,h4,h5,h6,h7,h8⟩:=hl;have fin:E7 (L8 m.next K) m' (Q1 af.ntmps e m' af.results)→a.defers=[] ∧ ∃ v,(results fn a.tmps).run P w'=.ok v w' ∧
  ∃ v' r m' Ar ρ',Ending.returned v=.returned v'∧Ext Φ ρ Ar ρ'∧(∀ b,b<m.mem.next→b∉([]:List Nat)→ρ b=none→ρ' b=none)∧Rel W Ar ρ' m' w'∧R Ar ρ' r v'∧m.mem.next≤m'.next ∧ ∃ sm:Ad,m'=sm.mem∧K r sm:=by
  intro hh;obtain⟨v,g1,v0,m0,l,g2,g3⟩:=nB hh;obtain⟨u,k1,k2⟩:=Tn h4 h5 CB g1;obtain⟨ρ2,j1,j2,j3⟩:=g2.rel (n:=1) (vs:=#[u]) h4 ⟨rfl,fun i x y hx hy=>by
   cases i with
   | zero=>
    rw[C8 (by omega)]at hx
    simp only[Env.get,if_true,oI]at hx;have:u=y:=by simpa using hy
    subst hx; subst this; exact k2
   | succ i=>simp at hy⟩
  have k3:R Ar ρ2 v0 u:=j3.2 0 v0 u (by rw[C8 (by omega)]; rfl) rfl
  have hfix:∀ b,b<m.next→ρ2 b=ρ b:=fun b hb=>(j1 b hb).trans (h2 b hb)
  refine⟨h6,u,k1,u,v0,m0.mem,Ar,ρ2,rfl,⟨h1,fun b l hb=>?_⟩,fun b hb _ h0=>(hfix b hb).trans h0,j2,k3,g2.1,m0,rfl,g3⟩
  exact(hfix b (hr.fresh b l hb)).trans hb
 cases x with
 | normal=>exact fin h8
 | ret=>exact fin h8
 | exit i=>exact h8.elim
 | goto l=>exact h8.elim
 | panic ch=>exact h8.elim
 | outgrown=>exact h8.elim
theorem Xk(hm:P.follows .mixedOrders=true)(wr:List FuncId){f:FuncId}{fn:Func}{af:As}{args:List Aa}{m:Ad}{Post:Aa→Ad→Prop}(hf:P.funcs[f]? = some fn)(hc:AS P fn=some af){nt:Nat}{rs:List (Nat×Option (Option Nat))}{bd:An}(hd:af=⟨nt,rs,bd⟩)(hl:Nat.ble args.length nt=true)
 (h:∀ K:Aa→Ad→Prop,(∀ r sm,Post r sm→K r sm)→CG P wr nt m.next bd (G4 nt rs (L8 m.next K)) (Q9 0 args []) m):AV P f args m Post:=
 by subst hd; exact Z5m (wr:=wr) hm hf hc hl (h Post fun _ _ h=>h)
variable {Q:Exit→Env→Ad→Prop} {K:Env→Ad→Prop} {e:Env} {m:Ad}
theorem nU:CG P wr n n0 .skip Q e m=Q .normal e m:=propext Iff.rfl
theorem uG(ops:List Af):CG P wr n n0 (.region false ops) Q e m=if ops.any XC=true then Eu P n m.next ops 0 (Q .normal) e (m.at (m.next+ops.length))else V7 P false n m.next ops 0 (Q .normal) e (m.at (m.next+ops.length)):=propext Iff.rfl
theorem xJ(a b:An):CG P wr n n0 (.seq a b) Q e m=CG P wr n n0 a (M8 (CG P wr n n0 b Q) Q) e m:=propext Iff.rfl
theorem mF(c:Ah)(a b:An):CG P wr n n0 (.cond c a b) Q e m=match AG n e c with
 | .bool true=>CG P wr n n0 a Q e m
 | .bool false=>CG P wr n n0 b Q e m
 | _=>False:=by
 show Ly _ _ _=_;unfold Ly;rfl
theorem wD(i:Nat)(c:An):CG P wr n n0 (.block i c) Q e m=CG P wr n n0 c (G3 i Q) e m:=propext Iff.rfl
theorem nC(c:An):CG P wr n n0 (.scope c) Q e m=CG P wr n n0 c Q e m:=propext Iff.rfl
theorem zT(i:Nat):CG P wr n n0 (.exit i) Q e m=Q (.exit i) e m:=propext Iff.rfl
theorem mU:CG P wr n n0 .ret Q e m=Q .ret e m:=propext Iff.rfl
theorem mP(ops:List Af):CG P wr n n0 (.region true ops) Q e m=if ops.any (Ll wr)=true then Hf P (Kn ops) n m.next ops 0 [] (Q .normal) e (m.at (m.next+ops.length))
 else if ops.all H2=true then V7 P false n m.next ops 0 (Q .normal) e (m.at (m.next+ops.length))
 else if ops.all (fun o=>o.un.isEmpty)=true then V7 P true n m.next ops 0 (Q .normal) e (m.at (m.next+ops.length))
 else G9 P (Kn ops) n m.next ops 0 [] (Q .normal) e (m.at (m.next+ops.length)):=propext Iff.rfl
@[congr] theorem Yd8{c : An}{e e' : Env}{m m' : Ad}(h : e = e')(h' : m = m') : CG P wr n n0 c Q e m = CG P wr n n0 c Q e' m' := by rw [h, h']
def nN(q:Nat→Nat)(get:Nat→Option Ai)(S:List Nat):Env→Env→Prop
 | [],_=>True
 | (i,v) :: r,e=>(e.get i=v.AI q∨IP get S (e.get i)=v.AI q)∧nN q get S r e
def s7(n0:Nat)(l:List (Nat×Nat))(S:List Nat)(e0:Env)(m0:Ad)(e:Env)(m:Ad):Prop:=
 n0≤m0.next∧n0≤m.next∧nN (Ce l n0 m0.next m.next) m.get S e0 e∧YO (Ce l n0 m0.next m.next) S m0.bl m∧Cm (Ce l n0 m0.next m.next) m0.bl
end
end Go.AE
end
section
namespace Go.Ac
open Go Go.AE Go.Proofs
open Go.Plain
theorem Z93(F:Int)(L:List Lt)(e:Aa)(he:X9 (Ad.get ⟨AM 1 6 (L.map Ab) [],2⟩) 4 e=some e) :
 X9 (Ad.get ⟨AM 1 6 (L.map Ab) [],2⟩) 5 (.tuple [.agg [.int .i64 F,AQ 1 (L.map Ab)],e])=some (.tuple [.agg [.int .i64 F,BQ (L.map Ab)],e]):=by
 have:=RY (get:=Ad.get ⟨AM 1 6 (L.map Ab) [],2⟩) (n:=1) (b:=1) (k:=6) (rows:=L.map Ab) (by simp) (Zzs _)
 rw[X9];simp only[U1];rw[he,X9];simp only[U1];rw[this];rfl
end Go.Ac
end
