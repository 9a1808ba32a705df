/- Part 45 of the proof: AeWr, Od. -/
import Derived.Test.YtfmnflhggplkmaaGreatDoorO25
import Derived.Test.YtfmnflhggplkmaaGreatDoorO26
import Derived.Test.YtfmnflhggplkmaaGreatDoorO34
import Derived.Test.YtfmnflhggplkmaaGreatDoorO38
import Derived.Test.YtfmnflhggplkmaaGreatDoorO41
import Derived.Test.YtfmnflhggplkmaaGreatDoorO44
set_option linter.all false
section
namespace Go.AE
open Go.RowKit
section
variable {P:Program} {wr:List FuncId} {n n0:Nat}
def wpW (P:Program) (wr:List FuncId) (n n0:Nat):ACode→(Exit→Env→SMem→Prop)→Env→SMem→Prop
 | .skip,Q,e,m=>Q .normal e m
 | .region false ops,Q,e,m=>if ops.any isV=true then vops P n m.next ops 0 (Q .normal) e (m.at (m.next+ops.length))else zops P false n m.next ops 0 (Q .normal) e (m.at (m.next+ops.length))
 | .region true ops,Q,e,m=>if ops.any (isW wr)=true then xdw P (keepOf ops) n m.next ops 0 [] (Q .normal) e (m.at (m.next+ops.length))
  else if ops.all quietO=true then zops P false n m.next ops 0 (Q .normal) e (m.at (m.next+ops.length))
  else if ops.all (fun o=>o.un.isEmpty)=true then zops P true n m.next ops 0 (Q .normal) e (m.at (m.next+ops.length))
  else xdops P (keepOf ops) n m.next ops 0 [] (Q .normal) e (m.at (m.next+ops.length))
 | .seq a b,Q,e,m=>wpW P wr n n0 a (thenS (wpW P wr n n0 b Q) Q) e m
 | .cond c a b,Q,e,m=>condK (evE n e c) (wpW P wr n n0 a Q e m) (wpW P wr n n0 b Q e m)
 | .block id c,Q,e,m=>wpW P wr n n0 c (blockS id Q) e m
 | .loop c,Q,e,m=>∃ (I:Nat→Env→SMem→Prop),(∃ k e0 m0,WkR n n0 e0 m0 e m∧I k e0 m0) ∧ ∀ k e1 m1,I k e1 m1→wpW P wr n n0 c (thenS (fun e' m'=>∃ j e0 m0,j<k∧WkR n n0 e0 m0 e' m'∧I j e0 m0) Q) e1 m1
 | .exit id,Q,e,m=>Q (.exit id) e m
 | .scope c,Q,e,m=>wpW P wr n n0 c Q e m
 | .label _,Q,e,m=>Q .normal e m
 | .ret,Q,e,m=>Q .ret e m
 | .bad,_,_,_=>False
theorem soundW (hm:P.follows .mixedOrders=true):∀ (c:Code) (Q:Exit→Env→SMem→Prop) (e:Env) (m:SMem),wpW P wr n n0 (cCode P c) Q e m→AWpT P n n0 c Q e m:=by
 intro c
 induction c with
 | skip=>exact fun Q e m h W Φ ρ a w hn hr ht hd=>wp_skip ⟨e,m,Φ,ρ,fun _ _ h=>h,fun _ _=>rfl,hn,hr,ht,hd,fun l hl=>(by cases hl),h⟩
 | region id ops draw=>
  intro Q e m h
  have hw:∀ A:ACode,cCode P (.region id ops draw)=A→(match A with | .region _ _=>True | .bad=>True|_=>False)→wpW P wr n n0 A Q e m→AWpT P n n0 (.region id ops draw) Q e m:=by
   intro A hc hA h
   have plain:wpZ P n n0 A Q e m→AWpT P n n0 (.region id ops draw) Q e m:=fun hz W Φ ρ a w hn hr ht hd=>
    soundT hm (.region id ops draw) Q e m (by rw[hc]; exact wpZ_T hz fun _ _ _ h=>h) W Φ ρ a w hn hr ht hd
   cases A with
   | region d os=>
    cases d with
    | false=>
     simp only[wpW]at h
     split at h
     ·have hvv:=h
      cases draw with
      | true=>
       simp only[cCode]at hc
       split at hc<;>first|(cases hc; done)|skip
       split at hc<;>cases hc
      | false=>
       simp only[cCode]at hc
       split at hc<;>first|(cases hc; done)|skip
       rename_i aso hco
       cases hc
       exact regionV hco hvv
     ·exact plain h
    | true=>
     simp only[wpW]at h
     split at h
     ·intro W Φ ρ a w hn hr ht hd
      refine regionT hm (e:=e) (m:=m) ?_ W Φ ρ a w hn hr ht hd
      rw[hc]
      exact xdw_dops os [] [] e _ (fun j f hj=>by simp[lookF]at hj) h
     ·exact plain h
   | bad=>exact h.elim
   | _=>exact hA.elim
  refine hw _ rfl ?_ h
  cases draw with
  | false=>
   simp only[cCode]
   cases cOpers P ops ops.toList<;>trivial
  | true=>
   simp only[cCode]
   cases cOpers P ops ops.toList with
   | none=>trivial
   | some aso=>
    simp only
    cases cDrawOk ops aso (cPreds ops.toList)<;>trivial
 | seq x y ihx ihy=>
  intro Q e m h W Φ ρ a w hn hr ht hd
  simp only[cCode,wpW]at h
  refine wp_seq (wp_mono (ihx _ _ _ h W Φ ρ a w hn hr ht hd) ?_)
  intro x' a' w' hl
  have key:∀ e',x'=e'→e'≠.normal→liftT W Φ ρ n n0 Q x' a' w':=by
   intro e' he hne
   refine liftT_trans (fun _ _ h=>h) (fun _ _=>rfl) hl fun e m hq=>?_
   subst he
   cases x'<;>first|exact absurd rfl hne|exact hq
  cases x' with
  | normal=>
   obtain⟨e',m',Φ',ρ',h1,h2,h3,h4,h5,h6,h7,h8⟩:=hl
   exact wp_mono (ihy _ _ _ h8 W Φ' ρ' a' w' h3 h4 h5 h6) fun x a w hl'=>liftT_trans h1 h2 hl' fun _ _ h=>h
  | exit i=>exact key _ rfl (by simp)
  | goto l=>exact key _ rfl (by simp)
  | ret=>exact key _ rfl (by simp)
  | panic ch=>exact key _ rfl (by simp)
  | outgrown=>exact key _ rfl (by simp)
 | cond c x y ihx ihy=>
  intro Q e m h W Φ ρ a w hn hr ht hd
  simp only[cCode]at h
  cases hc:cOpd c with
  | none=>simp[hc,wpW]at h
  | some c'=>
   simp only[hc,wpW]at h
   have hv:=ev_R ht hc
   rw[ev_toE]at hv
   generalize evE n e c'=z at h hv
   cases z<;>first|exact h.elim|skip
   rename_i q
   generalize hz:a.eval c=v at hv
   cases hv
   cases q
   ·exact wp_cond_false hz (ihy _ _ _ h W Φ ρ a w hn hr ht hd)
   ·exact wp_cond_true hz (ihx _ _ _ h W Φ ρ a w hn hr ht hd)
 | block id c ih=>
  intro Q e m h W Φ ρ a w hn hr ht hd
  simp only[cCode,wpW]at h
  refine wp_block (wp_mono (ih _ _ _ h W Φ ρ a w hn hr ht hd) ?_)
  intro x a' w' hl
  cases x with
  | exit i=>
   simp only[Exit.inBlock]
   obtain⟨e',m',Φ',ρ',h1,h2,h3,h4,h5,h6,h7,h8⟩:=hl
   simp only[blockS]at h8
   split
   ·rename_i hi
    rw[if_pos hi]at h8
    exact⟨e',m',Φ',ρ',h1,h2,h3,h4,h5,h6,fun l hl=>(by cases hl),h8⟩
   ·rename_i hi
    rw[if_neg hi]at h8
    exact⟨e',m',Φ',ρ',h1,h2,h3,h4,h5,h6,fun l hl=>(by cases hl),h8⟩
  | normal=>exact hl
  | goto l=>exact hl
  | ret=>exact hl
  | panic ch=>exact hl
  | outgrown=>exact hl
 | loop c ih=>
  intro Q e m h W Φ ρ a w hn hr ht hd
  simp only[cCode,wpW]at h
  obtain⟨I,⟨k0,e0,m0,hs0,h0⟩,hround⟩:=h
  obtain⟨Φ1,ρ1,hp1,hk1,hr1,ht1⟩:=hs0.2 W Φ ρ _ w hr ht
  refine wp_loop_ghost (fun k a' w'=>∃ e' m' Φ' ρ',(∀ B c,Φ B=some c→Φ' B=some c)∧(∀ b,b<n0→ρ' b=ρ b)∧n0≤m'.next∧Rel W Φ' ρ' m'.mem w'∧RL Φ' ρ' (toE n e') a'.tmps∧a'.defers=[]∧I k e' m') k0
   ⟨e0,m0,Φ1,ρ1,hp1,hk1,hs0.1,hr1,ht1,hd,h0⟩ ?_
  rintro k a' w' ⟨e',m',Φ',ρ',h1,h2,h3,h4,h5,h6,h7⟩
  refine wp_mono (ih _ _ _ (hround k e' m' h7) W Φ' ρ' a' w' h3 h4 h5 h6) ?_
  intro x a'' w'' hl
  have key:∀ e',x=e'→e'≠.normal→liftT W Φ ρ n n0 Q x a'' w'':=by
   intro e' he hne
   refine liftT_trans h1 h2 hl fun e m hq=>?_
   subst he
   cases x<;>first|exact absurd rfl hne|exact hq
  cases x with
  | normal=>
   obtain⟨e2,m2,Φ2,ρ2,g1,g2,g3,g4,g5,g6,_,j,e3,m3,g7,g8,g9⟩:=hl
   obtain⟨Φ3,ρ3,hp3,hk3,hr3,ht3⟩:=g8.2 W Φ2 ρ2 _ _ g4 g5
   exact⟨j,g7,e3,m3,Φ3,ρ3,fun B c hB=>hp3 B c (g1 B c (h1 B c hB)),fun b hb=>(hk3 b hb).trans ((g2 b hb).trans (h2 b hb)),g8.1,hr3,ht3,g6,g9⟩
  | exit i=>exact key _ rfl (by simp)
  | goto l=>exact key _ rfl (by simp)
  | ret=>exact key _ rfl (by simp)
  | panic ch=>exact key _ rfl (by simp)
  | outgrown=>exact key _ rfl (by simp)
 | exit id=>exact fun Q e m h W Φ ρ a w hn hr ht hd=>wp_exit ⟨e,m,Φ,ρ,fun _ _ h=>h,fun _ _=>rfl,hn,hr,ht,hd,fun l hl=>(by cases hl),h⟩
 | scope c ih=>
  intro Q e m h W Φ ρ a w hn hr ht hd
  simp only[cCode,wpW]at h
  refine wp_scope_straight (wp_mono (ih _ _ _ h W Φ ρ a w hn hr ht hd) ?_)
  intro x a' w' hl
  cases x with
  | goto l=>
   obtain⟨_,_,_,_,_,_,_,_,_,_,h7,_⟩:=hl
   exact absurd rfl (h7 l)
  | normal=>exact hl
  | exit i=>exact hl
  | ret=>exact hl
  | panic ch=>exact hl
  | outgrown=>exact hl
 | label l=>exact fun Q e m h W Φ ρ a w hn hr ht hd=>wp_label ⟨e,m,Φ,ρ,fun _ _ h=>h,fun _ _=>rfl,hn,hr,ht,hd,fun l hl=>(by cases hl),h⟩
 | ret=>exact fun Q e m h W Φ ρ a w hn hr ht hd=>wp_ret ⟨e,m,Φ,ρ,fun _ _ h=>h,fun _ _=>rfl,hn,hr,ht,hd,fun l hl=>(by cases hl),h⟩
 | rangeFunc f ps x y _ _=>exact fun Q e m h=>by simp[cCode,wpW]at h
 | goto l=>exact fun Q e m h=>by simp[cCode,wpW]at h
 | refuse s=>exact fun Q e m h=>by simp[cCode,wpW]at h
theorem ctr_WT (hm:P.follows .mixedOrders=true) {f:FuncId} {fn:Func} {af:AFn} {args:List AVal} {m:SMem} {K:AVal→SMem→Prop} (hf:P.funcs[f]? = some fn) (hc:cFn P fn=some af) (hl:Nat.ble args.length af.ntmps=true)
 (h:wpW P wr af.ntmps m.next af.body (retN af.ntmps af.results (EndK m.next K)) (argE 0 args []) m):Ctr P f args m K:=by
 obtain⟨c,hb,hbody,hrs,hnt,hname⟩:=cFn_spec hc
 have hl':args.length≤af.ntmps:=Nat.le_of_ble_eq_true hl
 rw[hbody]at h
 refine⟨⟨fn,hf,hname,by rw[hb]; rfl⟩,fun W Φ ρ vs w hr ha hav=>?_⟩
 have ht0:=args_RL (k:=fn.ntmps) ha
 have ht1:RL Φ ρ (toE af.ntmps (argE 0 args [])) (vs++Array.replicate (fn.ntmps - vs.size) undef):=by
  refine ht0.sub (by rw[toE_length]; simp; omega) fun i x hx=>?_
  have hi:i<af.ntmps:=by
   have:=(List.getElem?_eq_some_iff.1 hx).1
   rwa[toE_length]at this
  rw[toE_get hi,argE_get]at hx
  injection hx with hx
  by_cases h2:0≤i∧i<0+args.length
  ·rw[if_pos h2]at hx
   rw[List.getElem?_append,if_pos (by omega)]
   refine .inr ?_
   rw[← hx,Nat.sub_zero,List.getD,List.getElem?_eq_getElem (by omega)]
   rfl
  ·rw[if_neg h2]at hx
   exact .inl hx.symm
 have hs:=soundW (n0:=m.next) hm c _ _ _ h W Φ ρ { tmps:=vs++Array.replicate (fn.ntmps - vs.size) undef,defers:=[] } w (Nat.le_refl _) hr ht1 rfl
 refine calls_of_wp hf hb (wp_mono hs fun x a w' hl=>?_)
 obtain⟨e,m',Φ',ρ',h1,h2,h3,h4,h5,h6,h7,h8⟩:=hl
 have fin:oneK (EndK m.next K) m' (yieldE af.ntmps e m' af.results)→a.defers=[] ∧ ∃ v,(results fn a.tmps).run P w'=.ok v w' ∧
  ∃ v' r m' Φ' ρ',Ending.returned v=.returned v'∧Ext Φ ρ Φ' ρ'∧(∀ b,b<m.mem.next→b∉([]:List Nat)→ρ b=none→ρ' b=none)∧Rel W Φ' ρ' m' w'∧R Φ' ρ' r v'∧m.mem.next≤m'.next ∧ ∃ sm:SMem,m'=sm.mem∧K r sm:=by
  intro hh
  obtain⟨v,g1,v0,m0,l,g2,g3⟩:=oneK_retA hh
  obtain⟨u,k1,k2⟩:=retA_run h4 h5 hrs g1
  obtain⟨ρ2,j1,j2,j3⟩:=g2.rel (n:=1) (vs:=#[u]) h4 ⟨rfl,fun i x y hx hy=>by
   cases i with
   | zero=>
    rw[toE_get (by omega)]at hx
    simp only[Env.get,if_true,Option.some.injEq]at hx
    have:u=y:=by simpa using hy
    subst hx; subst this; exact k2
   | succ i=>simp at hy⟩
  have k3:R Φ' ρ2 v0 u:=j3.2 0 v0 u (by rw[toE_get (by omega)]; rfl) rfl
  have hfix:∀ b,b<m.next→ρ2 b=ρ b:=fun b hb=>(j1 b hb).trans (h2 b hb)
  refine⟨h6,u,k1,u,v0,m0.mem,Φ',ρ2,rfl,⟨h1,fun b l hb=>?_⟩,fun b hb _ h0=>(hfix b hb).trans h0,j2,k3,g2.1,m0,rfl,g3⟩
  exact(hfix b (hr.fresh b l hb)).trans hb
 cases x with
 | normal=>exact fin h8
 | ret=>exact fin h8
 | exit i=>exact h8.elim
 | goto l=>exact h8.elim
 | panic ch=>exact h8.elim
 | outgrown=>exact h8.elim
theorem ctr_W (hm:P.follows .mixedOrders=true) (wr:List FuncId) {f:FuncId} {fn:Func} {af:AFn} {args:List AVal} {m:SMem} {Post:AVal→SMem→Prop} (hf:P.funcs[f]? = some fn) (hc:cFn P fn=some af) {nt:Nat} {rs:List (Nat×Option (Option Nat))} {bd:ACode} (hd:af=⟨nt,rs,bd⟩) (hl:Nat.ble args.length nt=true)
 (h:∀ K:AVal→SMem→Prop,(∀ r sm,Post r sm→K r sm)→wpW P wr nt m.next bd (retN nt rs (EndK m.next K)) (argE 0 args []) m):Ctr P f args m Post:=
 by subst hd; exact ctr_WT (wr:=wr) hm hf hc hl (h Post fun _ _ h=>h)
variable {Q:Exit→Env→SMem→Prop} {K:Env→SMem→Prop} {e:Env} {m:SMem}
theorem wW_skip:wpW P wr n n0 .skip Q e m=Q .normal e m:=propext Iff.rfl
theorem wW_region (ops:List AOper):wpW P wr n n0 (.region false ops) Q e m=if ops.any isV=true then vops P n m.next ops 0 (Q .normal) e (m.at (m.next+ops.length))else zops P false n m.next ops 0 (Q .normal) e (m.at (m.next+ops.length)):=propext Iff.rfl
theorem wW_seq (a b:ACode):wpW P wr n n0 (.seq a b) Q e m=wpW P wr n n0 a (thenS (wpW P wr n n0 b Q) Q) e m:=propext Iff.rfl
theorem wW_condM (c:AOpd) (a b:ACode):wpW P wr n n0 (.cond c a b) Q e m=match evE n e c with
 | .bool true=>wpW P wr n n0 a Q e m
 | .bool false=>wpW P wr n n0 b Q e m
 | _=>False:=by
 show condK _ _ _=_
 unfold condK
 rfl
theorem wW_block (i:Nat) (c:ACode):wpW P wr n n0 (.block i c) Q e m=wpW P wr n n0 c (blockS i Q) e m:=propext Iff.rfl
theorem wW_scope (c:ACode):wpW P wr n n0 (.scope c) Q e m=wpW P wr n n0 c Q e m:=propext Iff.rfl
theorem wW_exit (i:Nat):wpW P wr n n0 (.exit i) Q e m=Q (.exit i) e m:=propext Iff.rfl
theorem wW_ret:wpW P wr n n0 .ret Q e m=Q .ret e m:=propext Iff.rfl
theorem wW_dregion (ops:List AOper):wpW P wr n n0 (.region true ops) Q e m=if ops.any (isW wr)=true then xdw P (keepOf ops) n m.next ops 0 [] (Q .normal) e (m.at (m.next+ops.length))
 else if ops.all quietO=true then zops P false n m.next ops 0 (Q .normal) e (m.at (m.next+ops.length))
 else if ops.all (fun o=>o.un.isEmpty)=true then zops P true n m.next ops 0 (Q .normal) e (m.at (m.next+ops.length))
 else xdops P (keepOf ops) n m.next ops 0 [] (Q .normal) e (m.at (m.next+ops.length)):=propext Iff.rfl
@[congr] theorem wpW_congr {c : ACode} {e e' : Env} {m m' : SMem} (h : e = e') (h' : m = m') : wpW P wr n n0 c Q e m = wpW P wr n n0 c Q e' m' := by rw [h, h']
theorem wW_loopW {α:Type} {c:ACode} (E:α→Env) (M:α→SMem) (μ:α→Nat) (Inv:α→Prop) (a0:α) (hs:WkR n n0 (E a0) (M a0) e m) (h0:Inv a0)
 (h:∀ a,Inv a → ∀ N:Env→SMem→Prop,(∀ a' e m,μ a'<μ a→Inv a'→WkR n n0 (E a') (M a') e m→N e m)→wpW P wr n n0 c (thenS N Q) (E a) (M a)):wpW P wr n n0 (.loop c) Q e m:=by
 refine⟨fun k e m=>∃ a,k=μ a∧Inv a∧e=E a∧m=M a,⟨μ a0,_,_,hs,a0,rfl,h0,rfl,rfl⟩,?_⟩
 rintro k e1 m1 ⟨a,rfl,ha,rfl,rfl⟩
 exact h a ha _ fun a' e m h1 h2 h3=>⟨μ a',E a',M a',h1,h3,a',rfl,h2,rfl,rfl⟩
theorem wW_loop {α:Type} {c:ACode} (E:α→Env) (M:α→SMem) (μ:α→Nat) (Inv:α→Prop) (a0:α) (l:List (Nat×Nat)) (hs:SubR n0 l (E a0) (M a0) e m) (h0:Inv a0)
 (h:∀ a,Inv a → ∀ N:Env→SMem→Prop,(∀ a' l e m,μ a'<μ a→Inv a'→SubR n0 l (E a') (M a') e m→N e m)→wpW P wr n n0 c (thenS N Q) (E a) (M a)):wpW P wr n n0 (.loop c) Q e m:=
 wW_loopW E M μ Inv a0 hs.wk h0 fun a ha N hN=>h a ha N fun a' l e m h1 h2 h3=>hN a' e m h1 h2 h3.wk
def SubFE (q:Nat→Nat) (get:Nat→Option ABlk) (S:List Nat):Env→Env→Prop
 | [],_=>True
 | (i,v) :: r,e=>(e.get i=v.ren q∨fzV get S (e.get i)=v.ren q)∧SubFE q get S r e
theorem SubFE.get {q:Nat→Nat} {g:Nat→Option ABlk} {S:List Nat}:∀ {e0 e:Env},SubFE q g S e0 e → ∀ i,e0.get i=.bot∨e.get i=(e0.get i).ren q∨fzV g S (e.get i)=(e0.get i).ren q
 | [],_,_,i=>.inl rfl
 | (j,v) :: r,e,h,i=>by
  simp only[Env.get]
  by_cases hij:i=j
  ·subst hij; rw[if_pos rfl]; exact .inr h.1
  ·rw[if_neg hij]; exact h.2.get i
def SubX (n0:Nat) (l:List (Nat×Nat)) (S:List Nat) (e0:Env) (m0:SMem) (e:Env) (m:SMem):Prop:=
 n0≤m0.next∧n0≤m.next∧SubFE (qOf l n0 m0.next m.next) m.get S e0 e∧SubFB (qOf l n0 m0.next m.next) S m0.bl m∧InjK (qOf l n0 m0.next m.next) m0.bl
theorem SubX.wk {n0 n:Nat} {l:List (Nat×Nat)} {S:List Nat} {e0 e:Env} {m0 m:SMem} (h:SubX n0 l S e0 m0 e m):WkR n n0 e0 m0 e m:=by
 obtain⟨hn0,hn,he,hm,hi⟩:=h
 refine⟨hn0,fun W Φ ρ vs w hr ht=>?_⟩
 obtain⟨Φs,hE,f1,f2,f3,f4⟩:=freezeS S hr
 refine⟨Φs,fun b=>ρ (qOf l n0 m0.next m.next b),hE.pers,fun b hb=>by simp only[qOf,if_pos hb],⟨hr.base,f1,fun b x hx=>?_,fun b b' x x' l l' h1 h2 h3 h4 h5=>?_,fun b l' hb=>qOf_lt (hr.fresh _ _ hb) hn0,f2⟩,?_⟩
 ·obtain⟨hS,y,hy,hs⟩:=hm.get b x hx
  obtain⟨l',o,g1,g2,g3,g4,g5⟩:=hr.live _ y hy
  refine⟨l',o,g1,g2,f3 _ y l' hy g1 hS,g4,?_⟩
  refine BR.unren (q:=qOf l n0 m0.next m.next) (ρ:=ρ) (fun _ _ hb=>hb) ?_
  rcases hs with rfl|⟨k,els,rfl,h2⟩
  ·exact g5.ext hE
  ·rw[h2]
   exact g5.fz f4
 ·obtain⟨_,y,hy,_⟩:=hm.get b x h1
  obtain⟨_,y',hy',_⟩:=hm.get b' x' h2
  exact hi.get b b' x x' h1 h2 (hr.inj _ _ y y' l l' hy hy' h3 h4 h5)
 ·refine⟨by rw[ht.1,toE_length,toE_length],fun i x v hx hv=>?_⟩
  have hin:i<n:=by
   have:=(List.getElem?_eq_some_iff.1 hx).1
   rwa[toE_length]at this
  rw[toE_get hin]at hx
  injection hx with hx
  subst hx
  have hR:=ht.2 i (e.get i) v (toE_get hin) hv
  rcases he.get i with h1|h1|h1
  ·rw[h1]; exact .bot v
  ·rw[h1]at hR
   exact(hR.unren (ρ':=fun b=>ρ (qOf l n0 m0.next m.next b)) (q:=qOf l n0 m0.next m.next) (fun _ _ hb=>hb) _ rfl).ext ⟨hE.pers,fun _ _ h=>h⟩
  ·have hR2:R Φs ρ (fzV m.get S (e.get i)) v:=f4 _ _ hR
   rw[h1]at hR2
   exact hR2.unren (ρ':=fun b=>ρ (qOf l n0 m0.next m.next b)) (q:=qOf l n0 m0.next m.next) (fun _ _ hb=>hb) _ rfl
end
end Go.AE
end
section
namespace Go.AE
open Go
theorem WC_frz {P:Program} {g:FuncId} {args0 args:List AVal} {v0:AVal} (h:PCall P g args0 v0) {m:SMem} (S:List Nat) {n k:Nat} {x:List Nat} (ha:mapO (freezeV (fun c=>bif mem1 c S then lessG m.get x c else none) n) args=some args0) (hk:k∉x)
 (hx:∀ c,c∈x→m.get c=none) {K:List Nat→AVal→SMem→Prop} (hK:K S v0 ⟨lessB S m.bl,m.next⟩):WC P g args k x m K:=by
 refine⟨S,v0,⟨lessB S m.bl,m.next⟩,⟨(m.mem.less x).less S,hk,fun c hc=>?_,Nat.le_refl _,rfl,fun c=>?_,fun c hc _ hcx=>?_,?_⟩,hK⟩
 ·show(if c∈S then none else if c∈x then none else m.get c)=none
  rw[if_pos hc]; split<;>rfl
 ·show lookB (lessB S m.bl) c=if c∈x then m.get c else if c∈S then none else if c∈x then none else m.get c
  rw[lookB_lessS]
  by_cases hc:c∈x
  ·rw[if_pos hc,hx c hc]
   have:lookB m.bl c=none:=hx c hc
   rw[this]; split<;>rfl
  ·rw[if_neg hc,if_neg hc]
   rfl
 ·show(if c∈S then none else if c∈x then none else m.get c)=m.get c
  rw[if_neg hc,if_neg hcx]
 ·have eG:(m.mem.less x).get=lessG m.get x:=by
   funext c
   unfold lessG
   show(if c∈x then none else m.get c)=_
   by_cases hc:c∈x
   ·rw[if_pos hc,memN_iff.2 hc]; rfl
   ·rw[if_neg hc]
    cases hm':memN c x with
    | false=>rfl
    | true=>exact absurd (memN_iff.1 hm') hc
  refine(memo_frozen (e:=⟨g,args0,v0⟩) h (m:=m.mem.less x) (L:=S) (by have h2:=ha; rw[← eG]at h2; exact h2) [k]).mono fun r m' hr=>?_
  obtain⟨rfl,rfl⟩:=hr
  exact⟨rfl,rfl⟩
@[congr] theorem WC_congr2 {P : Program} {g : FuncId} {args args' : List AVal} {k : Nat} {x : List Nat} {m : SMem} {K : List Nat → AVal → SMem → Prop} (h : wr args = args') : WC P g args k x m K = WC P g args' k x m K := by cases h; rfl
end Go.AE
namespace Go.Known
open Go Go.AE Go.Proofs
open Go.Plain
def digs (k:Int):List Int:=if k=4 then [2,-2]else if k=2∨k=3 then [1,2,5,-5,-2,-1]else [1,5,-5,-1]
def digF (d:Int):Fg:=if d<0 then ⟨1,true,-d⟩ else ⟨1,false,d⟩
def posO (fs:List Fg) (k:Int):List Int:=(List.range (digs k).length).map fun i=>fiR (digF ((digs k).getD i 0)) fs
def corn:List Int→List Int
 | [a,_,c,d,_,f]=>[a,c,d,f]
 | l=>l
def opO (k:Int):List Int→AVal
 | [_,b,c,d,e,_]=>if k=3 then opsV b d c e else opsV e c d b
 | _=>.nilSl
def openB (fs:List Fg) (k:Int):Bool:=decide (1≤k)&&(decide (k≤4)&&incB fs.length 0 (posO fs k))
def rOpT (fs:List Fg) (k:Int):AVal:=
 if openB fs k=true then .tuple [cV fs.length (hgL (-1) (corn (posO fs k))),opO k (posO fs k),.bool true]else .tuple [.agg [.int .i64 0,.nilSl],.nilSl,.bool false]
theorem opO_closed (k:Int) (P:List Int):(opO k P).closed=true:=by
 unfold opO
 split
 ·split<;>simp[opsV,opP,opQ,AVal.closed,closedL,closedLL]
 ·rfl
theorem rOpT_closed (fs:List Fg) (k:Int):(rOpT fs k).closed=true:=by
 unfold rOpT
 split
 ·simp[cV,AVal.closed,closedL,closed_rows,opO_closed]
 ·rfl
theorem pos_le (fs:List Fg) (x:Fg):0≤fiR x fs∧fiR x fs≤fs.length:=by
 have:=fi_le x fs
 unfold fiR
 split<;>omega
def incP (hi:Int) (p:Nat→Int) (i:Nat):Bool:=incB hi 0 ((List.range i).map p)
def lstP (p:Nat→Int) (i:Nat):Int:=lst 0 ((List.range i).map p)
def rowP (p:Nat→Int) (i:Nat):List (List AVal):=irow ((List.range i).map p)
theorem incP_zero (hi:Int) (p:Nat→Int):incP hi p 0=true:=rfl
theorem incP_succ (hi:Int) (p:Nat→Int) (i:Nat):incP hi p (i+1)=(incP hi p i&&(decide (lstP p i<p i)&&decide (p i≤hi))):=by
 unfold incP lstP
 rw[List.range_succ,List.map_append]
 exact incB_snoc ..
theorem lstP_zero (p:Nat→Int):lstP p 0=0:=rfl
theorem incP_low {hi:Int} {p:Nat→Int} {i:Nat} (h:incP hi p i=true):0≤lstP p i:=incB_low h
theorem incP_pre {hi:Int} {p:Nat→Int} {i n:Nat} (hn:i≤n) (h:incP hi p i=false):incP hi p n=false:=by
 unfold incP at *
 refine incB_pre (i:=i) ?_
 rwa[← List.map_take,List.take_range,Nat.min_eq_left hn]
theorem rowP_zero (p:Nat→Int):rowP p 0=[]:=rfl
theorem frz_immR {get:Nat→Option ABlk} {n:Nat} {rows:List (List AVal)} (hs:∀ row,row∈rows → ∀ x,x∈row→freezeV get (n+1) x=some x):freezeV get (n+2) (.imm rows)=some (.imm rows):=by
 by_cases h:rows=[]
 ·subst h; rfl
 ·have:=frz_imV (get:=get) (n:=n) hs
  rwa[imV_ne h]at this
theorem inc6 {hi lo a b c d e f:Int} (h:incB hi lo [a,b,c,d,e,f]=true):incB hi lo [a,c,d,f]=true:=by
 obtain⟨a1,a2,h⟩:=incB_cons h
 obtain⟨b1,b2,h⟩:=incB_cons h
 obtain⟨c1,c2,h⟩:=incB_cons h
 obtain⟨d1,d2,h⟩:=incB_cons h
 obtain⟨e1,e2,h⟩:=incB_cons h
 obtain⟨f1,f2,h⟩:=incB_cons h
 have k1:∀ {lo f:Int} {r:List Int},lo<f→f≤hi→incB hi f r=true→incB hi lo (f :: r)=true:=fun x y z=>by
  rw[incB,decide_eq_true x,decide_eq_true y,z]; rfl
 exact k1 a1 a2 (k1 (by omega) c2 (k1 d1 d2 (k1 (by omega) f2 rfl)))
theorem frz_args {get:Nat→Option ABlk} {n b len:Nat} {re lo:Int} {rows xs:List (List AVal)} (h1:freezeV get (n+1) (.imm rows)=some (.imm rows)) (h2:freezeV get (n+2) (.sl b 0 len)=some (.imm xs)) :
 mapO (freezeV get (n+2)) [.agg [.imm rows,.int .i64 re,.int .i64 lo],.sl b 0 len]=some [.agg [.imm rows,.int .i64 re,.int .i64 lo],.imm xs]:=by
 have e:freezeV get (n+2) (.agg [.imm rows,.int .i64 re,.int .i64 lo])=some (.agg [.imm rows,.int .i64 re,.int .i64 lo]):=by
  rw[freezeV]
  simp only[mapO]
  rw[h1]
  rfl
 simp only[mapO]
 rw[e,h2]
theorem frz_tri {get:Nat→Option ABlk} {n:Nat} {F:Int} {rows:List (List AVal)} {o o' e:AVal} (h1:freezeV get (n+1) (.imm rows)=some (.imm rows)) (h2:freezeV get (n+2) o=some o') (h3:freezeV get (n+2) e=some e) :
 freezeV get (n+3) (.tuple [.agg [.int .i64 F,.imm rows],o,e])=some (.tuple [.agg [.int .i64 F,.imm rows],o',e]):=by
 have e1:freezeV get (n+2) (.agg [.int .i64 F,.imm rows])=some (.agg [.int .i64 F,.imm rows]):=by
  rw[freezeV]
  simp only[mapO]
  rw[h1]
  rfl
 rw[freezeV]
 simp only[mapO]
 rw[e1,h2,h3]
end Go.Known
end
