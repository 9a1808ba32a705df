/- Part 25 of the proof: Rw, Rx, Sf, Sg, Sh, Ya, AeWr, AeWf. -/
import Derived.Test.YtilmpmlkndfbjaaGreatDoorK12
import Derived.Test.YtilmpmlkndfbjaaGreatDoorK13
import Derived.Test.YtilmpmlkndfbjaaGreatDoorK14
import Derived.Test.YtilmpmlkndfbjaaGreatDoorK23
import Derived.Test.YtilmpmlkndfbjaaGreatDoorK24
set_option linter.all false
section
namespace Go.Ab
open Go Go.AE Go.Proofs
open Go.Plain
theorem Z51(ls:List Lt):((ls.map Ad).all fun x=>x.length == 6)=true:=by
 rw[List.all_eq_true];intro x hx;obtain⟨l,_,rfl⟩:=mM.1 hx;rfl
end Go.Ab
end
section
namespace Go.Ab
open Go Go.AE Go.Proofs
open Go.Plain
theorem SM{get:Nat→Option Ag}{n:Nat}(l:List Lt):∀ row,row∈l.map Ad → ∀ x,x∈row→W3 get (n+1) x=some x:=by
 intro row hr x hx;obtain⟨i,_,rfl⟩:=mM.1 hr;simp only[Ad,mC,List.not_mem_nil,or_false]at hx;rcases hx with rfl|rfl|rfl|rfl|rfl|rfl<;>rfl
end Go.Ab
end
section
namespace Go.Ab
open Go Go.AE Go.Proofs
open Go.Plain
theorem Z6s(ls:List Lt){i:Nat}(h:i<ls.length):(ls.map Ad)[i]? = some (Ad (at' ls i)):=by
 rw[gM,gE h,at',List.getD,gE h];rfl
end Go.Ab
end
section
namespace Go.Ab
open Go Go.AE Go.Proofs
open Go.Plain
def HY:Nat→List Int→List (Aa×Aa×Nat)
 | _,[]=>[]
 | j,x :: r=>(.int .i64 x,.int .i64 (j+1:Nat),j) :: HY (j+1) r
theorem pI:∀ (j:Nat) (E:List Int),(HY j E).length=E.length
 | _,[]=>rfl
 | j,x :: r=>by simp only[HY,lC,pI (j+1) r]
theorem No(q:Nat→Nat):∀ (j:Nat) (E:List Int),EA q (HY j E)=HY j E
 | _,[]=>rfl
 | j,x :: r=>by
  have:=No q (j+1) r;simp only[EA,HY,List.map_cons,Aa.AA]at *;rw[this]
theorem Yo(id:Int):∀ (j:Nat) (E:List Int),G3 .int (.int .i64 id) (HY j E)=some (if Y9 id E=0 then none else some (Y9 id E - 1,.int .i64 (j+Y9 id E:Nat),j+(Y9 id E - 1)))
 | _,[]=>rfl
 | j,x :: r=>by
  simp only[HY,G3,A9,if_true,Y9];by_cases h:id=x
  ·subst h; simp
  ·have hb:(id == x)=false:=by simpa using h
   simp only[hb,iN h];rw[Yo id (j+1) r];by_cases h0:Y9 id r=0
   ·simp[h0]
   ·have e:j+1+Y9 id r=j+(Y9 id r+1):=by omega
    have e2:Y9 id r - 1+1=Y9 id r:=by omega
    have e3:j+1+(Y9 id r - 1)=j+Y9 id r:=by omega
    simp[h0,e,e2,e3]
theorem nU(x:Int):∀ (j:Nat) (E:List Int),HY j E++[(.int .i64 x,.int .i64 (j+E.length+1:Nat),j+E.length)]=HY j (E++[x])
 | _,[]=>rfl
 | j,y :: r=>by
  simp only[HY,List.cons_append,lC];have:=nU x (j+1) r;rw[show j+1+r.length=j+(r.length+1) by omega]at this
  rw[this]
def J8(ns ls:List Lt)(i:Nat):List Lt:=ns.take i++ls.drop i
theorem Z57(ns ls:List Lt):J8 ns ls 0=ls:=by simp[J8]
theorem yU{ns ls:List Lt}(h:ns.length=ls.length):J8 ns ls ls.length=ns:=by simp[J8,← h]
theorem zR{ns ls:List Lt}(h:ns.length=ls.length)(i:Nat):(J8 ns ls i).length=ls.length:=by simp[J8]; omega
theorem mG{ns ls:List Lt}(h:ns.length=ls.length){i:Nat}(hi:i<ls.length):((J8 ns ls i).map Ad)[i]? = some (Ad (at' ls i)):=by
 unfold J8;rw[gM,List.getElem?_append_right (by simp; omega),lK,Nat.min_eq_left (by omega),Nat.sub_self,List.getElem?_drop,Nat.add_zero,gE hi,at',List.getD,gE hi]
 rfl
theorem vZ{ns ls:List Lt}(h:ns.length=ls.length){i:Nat}(hi:i<ls.length):((J8 ns ls i).map Ad).set i (Ad (at' ns i))=(J8 ns ls (i+1)).map Ad:=by
 have e:ls.drop i=at' ls i :: ls.drop (i+1):=by
  rw[List.drop_eq_getElem_cons hi,at',List.getD,gE hi];rfl
 have hi':i<ns.length:=by omega
 have e2:ns.take (i+1)=ns.take i++[at' ns i]:=by
  rw[List.take_add_one,gE hi',at',List.getD,gE hi'];rfl
 unfold J8;rw[e,e2,List.map_append,List.map_append,List.set_append_right _ _ (by simp; omega)]
 simp only[List.map_append,List.map_cons,List.map_nil,lM,lK,Nat.min_eq_left (Nat.le_of_lt hi'),Nat.sub_self,List.set_cons_zero,List.append_assoc,List.cons_append,List.nil_append]
theorem Z4e{ns ls:List Lt}(h:ns.length=ls.length){i:Nat}(hi:i<ls.length)(hg:at' ns i=at' ls i):(J8 ns ls (i+1)).map Ad=(J8 ns ls i).map Ad:=by
 rw[← vZ h hi,hg];have h:=mG h hi;generalize (J8 ns ls i).map Ad=M at *;obtain⟨hl,h2⟩:=Y6 h;rw[← h2,List.set_getElem_self]
end Go.Ab
end
section
namespace Go.Ab
open Go Go.AE Go.Proofs
open Go.Plain
theorem rF{ls:List Lt}{k:Nat}(hk:k<ls.length):at' ls.reverse k=at' ls (ls.length - 1 - k):=by
 unfold at';rw[List.getD_eq_getElem?_getD,List.getD_eq_getElem?_getD,List.getElem?_reverse hk]
theorem SY{a b:List Lt}(hl:a.length=b.length)(h:∀ k,k<a.length→at' a k=at' b k):a=b:=by
 refine List.ext_getElem hl fun k h1 h2=>?_
 have:=h k h1;simpa[at',List.getD,h1,h2]using this
end Go.Ab
end
section
namespace Go.Ab
open Go.Plain
def Dc(d:Nat):Nat:=if d % 2=0 then d+1 else d - 1
def xW(ls:List Lt)(d:Nat):Nat:=U2 ls (Z4 ls) d
end Go.Ab
end
section
namespace Go.AE
open Go.RowKit
section
variable {P:Program} {wr:List FuncId} {n n0:Nat}
def Cx(P:Program)(wr:List FuncId)(n n0:Nat):Aq→(Exit→Env→Ac→Prop)→Env→Ac→Prop
 | .skip,Q,e,m=>Q .normal e m
 | .region false ops,Q,e,m=>if ops.any Gk=true then C4 P n m.next ops 0 (Q .normal) e (m.at (m.next+ops.length))else V5 P false n m.next ops 0 (Q .normal) e (m.at (m.next+ops.length))
 | .region true ops,Q,e,m=>if ops.any (jB wr)=true then Io P (Lb ops) n m.next ops 0 [] (Q .normal) e (m.at (m.next+ops.length))
  else if ops.all I0=true then V5 P false n m.next ops 0 (Q .normal) e (m.at (m.next+ops.length))
  else if ops.all (fun o=>o.un.isEmpty)=true then V5 P true n m.next ops 0 (Q .normal) e (m.at (m.next+ops.length))
  else F8 P (Lb ops) n m.next ops 0 [] (Q .normal) e (m.at (m.next+ops.length))
 | .seq a b,Q,e,m=>Cx P wr n n0 a (P5 (Cx P wr n n0 b Q) Q) e m
 | .cond c a b,Q,e,m=>Kj (AI n e c) (Cx P wr n n0 a Q e m) (Cx P wr n n0 b Q e m)
 | .block id c,Q,e,m=>Cx P wr n n0 c (H6 id Q) e m
 | .loop c,Q,e,m=>∃ (I:Nat→Env→Ac→Prop),(∃ k e0 m0,Dk n n0 e0 m0 e m∧I k e0 m0) ∧ ∀ k e1 m1,I k e1 m1→Cx P wr n n0 c (P5 (fun e' m'=>∃ j e0 m0,j<k∧Dk n n0 e0 m0 e' m'∧I j e0 m0) Q) e1 m1
 | .exit id,Q,e,m=>Q (.exit id) e m
 | .scope c,Q,e,m=>Cx P wr n n0 c Q e m
 | .label _,Q,e,m=>Q .normal e m
 | .ret,Q,e,m=>Q .ret e m
 | .bad,_,_,_=>False
theorem Z8w(hm:P.follows .mixedOrders=true):∀ (c:Code) (Q:Exit→Env→Ac→Prop) (e:Env) (m:Ac),Cx P wr n n0 (Y5 P c) Q e m→Hp P n n0 c Q e m:=by
 intro c
 induction c with
 | skip=>exact fun Q e m h W Φ ρ a w hn hr ht hd=>wp_skip ⟨e,m,Φ,ρ,fun _ _ h=>h,fun _ _=>rfl,hn,hr,ht,hd,fun l hl=>(by cases hl),h⟩
 | region id ops draw=>
  intro Q e m h;have hw:∀ A:Aq,Y5 P (.region id ops draw)=A→(match A with | .region _ _=>True | .bad=>True|_=>False)→Cx P wr n n0 A Q e m→Hp P n n0 (.region id ops draw) Q e m:=by
   intro A hc hA h;have plain:CT P n n0 A Q e m→Hp P n n0 (.region id ops draw) Q e m:=fun hz W Φ ρ a w hn hr ht hd=>
    uR hm (.region id ops draw) Q e m (by rw[hc]; exact nC hz fun _ _ _ h=>h) W Φ ρ a w hn hr ht hd
   cases A with
   | region d os=>
    cases d with
    | false=>
     simp only[Cx]at h;split at h
     ·have hvv:=h;cases draw with
      | true=>
       simp only[Y5]at hc;split at hc<;>first|(cases hc; done)|skip
       split at hc<;>cases hc
      | false=>
       simp only[Y5]at hc;split at hc<;>first|(cases hc; done)|skip
       rename_i aso hco;cases hc;exact qp hco hvv
     ·exact plain h
    | true=>
     simp only[Cx]at h;split at h
     ·intro W Φ ρ a w hn hr ht hd;refine tF hm (e:=e) (m:=m) ?_ W Φ ρ a w hn hr ht hd;rw[hc];exact Wa os [] [] e _ (fun j f hj=>by simp[M0]at hj) h
     ·exact plain h
   | bad=>exact h.elim
   | _=>exact hA.elim
  refine hw _ rfl ?_ h;cases draw with
  | false=>
   simp only[Y5];cases I1 P ops ops.toList<;>trivial
  | true=>
   simp only[Y5];cases I1 P ops ops.toList with
   | none=>trivial
   | some aso=>
    simp only;cases SZ ops aso (IF ops.toList)<;>trivial
 | seq x y ihx ihy=>
  intro Q e m h W Φ ρ a w hn hr ht hd;simp only[Y5,Cx]at h;refine wp_seq (wp_mono (ihx _ _ _ h W Φ ρ a w hn hr ht hd) ?_);intro x' a' w' hl;have key:∀ e',x'=e'→e'≠.normal→Ot W Φ ρ n n0 Q x' a' w':=by
   intro e' he hne;refine QD (fun _ _ h=>h) (fun _ _=>rfl) hl fun e m hq=>?_
   subst he;cases x'<;>first|exact absurd rfl hne|exact hq
  cases x' with
  | normal=>
   obtain⟨e',m',Am,ρ',h1,h2,h3,h4,h5,h6,h7,h8⟩:=hl;exact wp_mono (ihy _ _ _ h8 W Am ρ' a' w' h3 h4 h5 h6) fun x a w hl'=>QD h1 h2 hl' fun _ _ h=>h
  | exit i=>exact key _ rfl (by simp)
  | goto l=>exact key _ rfl (by simp)
  | ret=>exact key _ rfl (by simp)
  | panic ch=>exact key _ rfl (by simp)
  | outgrown=>exact key _ rfl (by simp)
 | cond c x y ihx ihy=>
  intro Q e m h W Φ ρ a w hn hr ht hd;simp only[Y5]at h;cases hc:Y7 c with
  | none=>simp[hc,Cx]at h
  | some c'=>
   simp only[hc,Cx]at h;have hv:=U8 ht hc;rw[G5]at hv;generalize AI n e c'=z at h hv;cases z<;>first|exact h.elim|skip
   rename_i q;generalize hz:a.eval c=v at hv;cases hv;cases q
   ·exact wp_cond_false hz (ihy _ _ _ h W Φ ρ a w hn hr ht hd)
   ·exact wp_cond_true hz (ihx _ _ _ h W Φ ρ a w hn hr ht hd)
 | block id c ih=>
  intro Q e m h W Φ ρ a w hn hr ht hd;simp only[Y5,Cx]at h;refine wp_block (wp_mono (ih _ _ _ h W Φ ρ a w hn hr ht hd) ?_);intro x a' w' hl;cases x with
  | exit i=>
   simp only[Exit.inBlock];obtain⟨e',m',Am,ρ',h1,h2,h3,h4,h5,h6,h7,h8⟩:=hl;simp only[H6]at h8;split
   ·rename_i hi;rw[iP hi]at h8;exact⟨e',m',Am,ρ',h1,h2,h3,h4,h5,h6,fun l hl=>(by cases hl),h8⟩
   ·rename_i hi;rw[iN hi]at h8;exact⟨e',m',Am,ρ',h1,h2,h3,h4,h5,h6,fun l hl=>(by cases hl),h8⟩
  | normal=>exact hl
  | goto l=>exact hl
  | ret=>exact hl
  | panic ch=>exact hl
  | outgrown=>exact hl
 | loop c ih=>
  intro Q e m h W Φ ρ a w hn hr ht hd;simp only[Y5,Cx]at h;obtain⟨I,⟨k0,e0,m0,hs0,h0⟩,hround⟩:=h;obtain⟨Φ1,ρ1,hp1,hk1,hr1,ht1⟩:=hs0.2 W Φ ρ _ w hr ht;refine wp_loop_ghost (fun k a' w'=>∃ e' m' Am ρ',(∀ B c,Φ B=some c→Am B=some c)∧(∀ b,b<n0→ρ' b=ρ b)∧n0≤m'.next∧Rel W Am ρ' m'.mem w'∧RL Am ρ' (Be n e') a'.tmps∧a'.defers=[]∧I k e' m') k0
   ⟨e0,m0,Φ1,ρ1,hp1,hk1,hs0.1,hr1,ht1,hd,h0⟩ ?_
  rintro k a' w' ⟨e',m',Am,ρ',h1,h2,h3,h4,h5,h6,h7⟩;refine wp_mono (ih _ _ _ (hround k e' m' h7) W Am ρ' a' w' h3 h4 h5 h6) ?_;intro x a'' w'' hl;have key:∀ e',x=e'→e'≠.normal→Ot W Φ ρ n n0 Q x a'' w'':=by
   intro e' he hne;refine QD h1 h2 hl fun e m hq=>?_
   subst he;cases x<;>first|exact absurd rfl hne|exact hq
  cases x with
  | normal=>
   obtain⟨e2,m2,Φ2,ρ2,g1,g2,g3,g4,g5,g6,_,j,e3,m3,g7,g8,g9⟩:=hl;obtain⟨Φ3,ρ3,hp3,hk3,hr3,ht3⟩:=g8.2 W Φ2 ρ2 _ _ g4 g5;exact⟨j,g7,e3,m3,Φ3,ρ3,fun B c hB=>hp3 B c (g1 B c (h1 B c hB)),fun b hb=>(hk3 b hb).trans ((g2 b hb).trans (h2 b hb)),g8.1,hr3,ht3,g6,g9⟩
  | exit i=>exact key _ rfl (by simp)
  | goto l=>exact key _ rfl (by simp)
  | ret=>exact key _ rfl (by simp)
  | panic ch=>exact key _ rfl (by simp)
  | outgrown=>exact key _ rfl (by simp)
 | exit id=>exact fun Q e m h W Φ ρ a w hn hr ht hd=>wp_exit ⟨e,m,Φ,ρ,fun _ _ h=>h,fun _ _=>rfl,hn,hr,ht,hd,fun l hl=>(by cases hl),h⟩
 | scope c ih=>
  intro Q e m h W Φ ρ a w hn hr ht hd;simp only[Y5,Cx]at h;refine wp_scope_straight (wp_mono (ih _ _ _ h W Φ ρ a w hn hr ht hd) ?_);intro x a' w' hl;cases x with
  | goto l=>
   obtain⟨_,_,_,_,_,_,_,_,_,_,h7,_⟩:=hl;exact absurd rfl (h7 l)
  | normal=>exact hl
  | exit i=>exact hl
  | ret=>exact hl
  | panic ch=>exact hl
  | outgrown=>exact hl
 | label l=>exact fun Q e m h W Φ ρ a w hn hr ht hd=>wp_label ⟨e,m,Φ,ρ,fun _ _ h=>h,fun _ _=>rfl,hn,hr,ht,hd,fun l hl=>(by cases hl),h⟩
 | ret=>exact fun Q e m h W Φ ρ a w hn hr ht hd=>wp_ret ⟨e,m,Φ,ρ,fun _ _ h=>h,fun _ _=>rfl,hn,hr,ht,hd,fun l hl=>(by cases hl),h⟩
 | rangeFunc f ps x y _ _=>exact fun Q e m h=>by simp[Y5,Cx]at h
 | goto l=>exact fun Q e m h=>by simp[Y5,Cx]at h
 | refuse s=>exact fun Q e m h=>by simp[Y5,Cx]at h
theorem Z5s(hm:P.follows .mixedOrders=true){f:FuncId}{fn:Func}{af:Av}{args:List Aa}{m:Ac}{K:Aa→Ac→Prop}(hf:P.funcs[f]? = some fn)(hc:Bt P fn=some af)(hl:Nat.ble args.length af.ntmps=true)
 (h:Cx P wr af.ntmps m.next af.body (I6 af.ntmps af.results (M4 m.next K)) (P3 0 args []) m):Cc P f args m K:=by
 obtain⟨c,hb,hbody,Ck,hnt,hname⟩:=Xb hc;have hl':args.length≤af.ntmps:=Nat.le_of_ble_eq_true hl;rw[hbody]at h;refine⟨⟨fn,hf,hname,by rw[hb]; rfl⟩,fun W Φ ρ vs w hr ha Ch=>?_⟩
 have ht0:=Ty (k:=fn.ntmps) ha;have ht1:RL Φ ρ (Be af.ntmps (P3 0 args [])) (vs++Array.replicate (fn.ntmps - vs.size) undef):=by
  refine ht0.sub (by rw[M5]; simp; omega) fun i x hx=>?_
  have hi:i<af.ntmps:=by
   have:=(gS.1 hx).1;rwa[M5]at this
  rw[F0 hi,Xw]at hx;injection hx with hx
  by_cases h2:0≤i∧i<0+args.length
  ·rw[iP h2]at hx;rw[List.getElem?_append,iP (by omega)]
   refine .inr ?_;rw[← hx,Nat.sub_zero,List.getD,gE (by omega)]
   rfl
  ·rw[iN h2]at hx;exact .inl hx.symm
 have hs:=Z8w (n0:=m.next) hm c _ _ _ h W Φ ρ { tmps:=vs++Array.replicate (fn.ntmps - vs.size) undef,defers:=[] } w (lR _) hr ht1 rfl;refine calls_of_wp hf hb (wp_mono hs fun x a w' hl=>?_)
 obtain⟨e,m',Am,ρ',h1,h2,h3,h4,h5,h6,h7,h8⟩:=hl;have fin:D4 (M4 m.next K) m' (Q6 af.ntmps e m' af.results)→a.defers=[] ∧ ∃ v,(results fn a.tmps).run P w'=.ok v w' ∧
  ∃ v' r m' Am ρ',Ending.returned v=.returned v'∧Ext Φ ρ Am ρ'∧(∀ b,b<m.mem.next→b∉([]:List Nat)→ρ b=none→ρ' b=none)∧Rel W Am ρ' m' w'∧R Am ρ' r v'∧m.mem.next≤m'.next ∧ ∃ sm:Ac,m'=sm.mem∧K r sm:=by
  intro hh;obtain⟨v,g1,v0,m0,l,g2,g3⟩:=tI hh;obtain⟨u,k1,k2⟩:=QB h4 h5 Ck g1;obtain⟨ρ2,j1,j2,j3⟩:=g2.rel (n:=1) (vs:=#[u]) h4 ⟨rfl,fun i x y hx hy=>by
   cases i with
   | zero=>
    rw[F0 (by omega)]at hx
    simp only[Env.get,if_true,oI]at hx;have:u=y:=by simpa using hy
    subst hx; subst this; exact k2
   | succ i=>simp at hy⟩
  have k3:R Am ρ2 v0 u:=j3.2 0 v0 u (by rw[F0 (by omega)]; rfl) rfl
  have BZ:∀ b,b<m.next→ρ2 b=ρ b:=fun b hb=>(j1 b hb).trans (h2 b hb)
  refine⟨h6,u,k1,u,v0,m0.mem,Am,ρ2,rfl,⟨h1,fun b l hb=>?_⟩,fun b hb _ h0=>(BZ b hb).trans h0,j2,k3,g2.1,m0,rfl,g3⟩
  exact(BZ b (hr.fresh b l hb)).trans hb
 cases x with
 | normal=>exact fin h8
 | ret=>exact fin h8
 | exit i=>exact h8.elim
 | goto l=>exact h8.elim
 | panic ch=>exact h8.elim
 | outgrown=>exact h8.elim
theorem GV(hm:P.follows .mixedOrders=true)(wr:List FuncId){f:FuncId}{fn:Func}{af:Av}{args:List Aa}{m:Ac}{Post:Aa→Ac→Prop}(hf:P.funcs[f]? = some fn)(hc:Bt P fn=some af){nt:Nat}{rs:List (Nat×Option (Option Nat))}{bd:Aq}(hd:af=⟨nt,rs,bd⟩)(hl:Nat.ble args.length nt=true)
 (h:∀ K:Aa→Ac→Prop,(∀ r sm,Post r sm→K r sm)→Cx P wr nt m.next bd (I6 nt rs (M4 m.next K)) (P3 0 args []) m):Cc P f args m Post:=
 by subst hd; exact Z5s (wr:=wr) hm hf hc hl (h Post fun _ _ h=>h)
variable {Q:Exit→Env→Ac→Prop} {K:Env→Ac→Prop} {e:Env} {m:Ac}
theorem C8:Cx P wr n n0 .skip Q e m=Q .normal e m:=propext Iff.rfl
theorem D6(ops:List Af):Cx P wr n n0 (.region false ops) Q e m=if ops.any Gk=true then C4 P n m.next ops 0 (Q .normal) e (m.at (m.next+ops.length))else V5 P false n m.next ops 0 (Q .normal) e (m.at (m.next+ops.length)):=propext Iff.rfl
theorem B4(a b:Aq):Cx P wr n n0 (.seq a b) Q e m=Cx P wr n n0 a (P5 (Cx P wr n n0 b Q) Q) e m:=propext Iff.rfl
theorem B0(c:Ah)(a b:Aq):Cx P wr n n0 (.cond c a b) Q e m=match AI n e c with
 | .bool true=>Cx P wr n n0 a Q e m
 | .bool false=>Cx P wr n n0 b Q e m
 | _=>False:=by
 show Kj _ _ _=_;unfold Kj;rfl
theorem C6(i:Nat)(c:Aq):Cx P wr n n0 (.block i c) Q e m=Cx P wr n n0 c (H6 i Q) e m:=propext Iff.rfl
theorem D7(c:Aq):Cx P wr n n0 (.scope c) Q e m=Cx P wr n n0 c Q e m:=propext Iff.rfl
theorem C7(i:Nat):Cx P wr n n0 (.exit i) Q e m=Q (.exit i) e m:=propext Iff.rfl
theorem D9:Cx P wr n n0 .ret Q e m=Q .ret e m:=propext Iff.rfl
theorem D3(ops:List Af):Cx P wr n n0 (.region true ops) Q e m=if ops.any (jB wr)=true then Io P (Lb ops) n m.next ops 0 [] (Q .normal) e (m.at (m.next+ops.length))
 else if ops.all I0=true then V5 P false n m.next ops 0 (Q .normal) e (m.at (m.next+ops.length))
 else if ops.all (fun o=>o.un.isEmpty)=true then V5 P true n m.next ops 0 (Q .normal) e (m.at (m.next+ops.length))
 else F8 P (Lb ops) n m.next ops 0 [] (Q .normal) e (m.at (m.next+ops.length)):=propext Iff.rfl
@[congr] theorem Yea{c : Aq}{e e' : Env}{m m' : Ac}(h : e = e')(h' : m = m') : Cx P wr n n0 c Q e m = Cx P wr n n0 c Q e' m' := by rw [h, h']
theorem Tn{α:Type}{c:Aq}(E:α→Env)(M:α→Ac)(μ:α→Nat)(Inv:α→Prop)(a0:α)(hs:Dk n n0 (E a0) (M a0) e m)(h0:Inv a0)
 (h:∀ a,Inv a → ∀ N:Env→Ac→Prop,(∀ a' e m,μ a'<μ a→Inv a'→Dk n n0 (E a') (M a') e m→N e m)→Cx P wr n n0 c (P5 N Q) (E a) (M a)):Cx P wr n n0 (.loop c) Q e m:=by
 refine⟨fun k e m=>∃ a,k=μ a∧Inv a∧e=E a∧m=M a,⟨μ a0,_,_,hs,a0,rfl,h0,rfl,rfl⟩,?_⟩
 rintro k e1 m1 ⟨a,rfl,ha,rfl,rfl⟩;exact h a ha _ fun a' e m h1 h2 h3=>⟨μ a',E a',M a',h1,h3,a',rfl,h2,rfl,rfl⟩
theorem T6{α:Type}{c:Aq}(E:α→Env)(M:α→Ac)(μ:α→Nat)(Inv:α→Prop)(a0:α)(l:List (Nat×Nat))(hs:Bq n0 l (E a0) (M a0) e m)(h0:Inv a0)
 (h:∀ a,Inv a → ∀ N:Env→Ac→Prop,(∀ a' l e m,μ a'<μ a→Inv a'→Bq n0 l (E a') (M a') e m→N e m)→Cx P wr n n0 c (P5 N Q) (E a) (M a)):Cx P wr n n0 (.loop c) Q e m:=
 Tn E M μ Inv a0 hs.wk h0 fun a ha N hN=>h a ha N fun a' l e m h1 h2 h3=>hN a' e m h1 h2 h3.wk
def Gd(q:Nat→Nat)(get:Nat→Option Ag)(S:List Nat):Env→Env→Prop
 | [],_=>True
 | (i,v) :: r,e=>(e.get i=v.AA q∨EG get S (e.get i)=v.AA q)∧Gd q get S r e
theorem Gd.get{q:Nat→Nat}{g:Nat→Option Ag}{S:List Nat}:∀ {e0 e:Env},Gd q g S e0 e → ∀ i,e0.get i=.bot∨e.get i=(e0.get i).AA q∨EG g S (e.get i)=(e0.get i).AA q
 | [],_,_,i=>.inl rfl
 | (j,v) :: r,e,h,i=>by
  simp only[Env.get];by_cases hij:i=j
  ·subst hij; rw[iP rfl]; exact .inr h.1
  ·rw[iN hij]; exact h.2.get i
def Og(n0:Nat)(l:List (Nat×Nat))(S:List Nat)(e0:Env)(m0:Ac)(e:Env)(m:Ac):Prop:=
 n0≤m0.next∧n0≤m.next∧Gd (Bz l n0 m0.next m.next) m.get S e0 e∧DX (Bz l n0 m0.next m.next) S m0.bl m∧Cz (Bz l n0 m0.next m.next) m0.bl
theorem Og.wk{n0 n:Nat}{l:List (Nat×Nat)}{S:List Nat}{e0 e:Env}{m0 m:Ac}(h:Og n0 l S e0 m0 e m):Dk n n0 e0 m0 e m:=by
 obtain⟨hn0,hn,he,hm,hi⟩:=h;refine⟨hn0,fun W Φ ρ vs w hr ht=>?_⟩
 obtain⟨Bp,hE,f1,f2,f3,f4⟩:=Sn S hr;refine⟨Bp,fun b=>ρ (Bz l n0 m0.next m.next b),hE.AX,fun b hb=>by simp only[Bz,iP hb],⟨hr.base,f1,fun b x hx=>?_,fun b b' x x' l l' h1 h2 h3 h4 h5=>?_,fun b l' hb=>sS (hr.fresh _ _ hb) hn0,f2⟩,?_⟩
 ·obtain⟨hS,y,hy,hs⟩:=hm.get b x hx;obtain⟨l',o,g1,g2,g3,g4,g5⟩:=hr.live _ y hy;refine⟨l',o,g1,g2,f3 _ y l' hy g1 hS,g4,?_⟩;refine BR.BD (q:=Bz l n0 m0.next m.next) (ρ:=ρ) (fun _ _ hb=>hb) ?_
  rcases hs with rfl|⟨k,els,rfl,h2⟩
  ·exact g5.ext hE
  ·rw[h2];exact g5.fz f4
 ·obtain⟨_,y,hy,_⟩:=hm.get b x h1;obtain⟨_,y',hy',_⟩:=hm.get b' x' h2;exact hi.get b b' x x' h1 h2 (hr.inj _ _ y y' l l' hy hy' h3 h4 h5)
 ·refine⟨by rw[ht.1,M5,M5],fun i x v hx hv=>?_⟩
  have hin:i<n:=by
   have:=(gS.1 hx).1;rwa[M5]at this
  rw[F0 hin]at hx;injection hx with hx
  subst hx;have hR:=ht.2 i (e.get i) v (F0 hin) hv;rcases he.get i with h1|h1|h1
  ·rw[h1]; exact .bot v
  ·rw[h1]at hR;exact(hR.BD (ρ':=fun b=>ρ (Bz l n0 m0.next m.next b)) (q:=Bz l n0 m0.next m.next) (fun _ _ hb=>hb) _ rfl).ext ⟨hE.AX,fun _ _ h=>h⟩
  ·have hR2:R Bp ρ (EG m.get S (e.get i)) v:=f4 _ _ hR;rw[h1]at hR2;exact hR2.BD (ρ':=fun b=>ρ (Bz l n0 m0.next m.next b)) (q:=Bz l n0 m0.next m.next) (fun _ _ hb=>hb) _ rfl
end
end Go.AE
end
section
namespace Go.AE
open Go.RowKit
theorem Dk.kH{n n0:Nat}{q:Nat→Nat}{e0 e:Env}{m0 m:Ac}(hn:n0≤m0.next)(h0:∀ b,b<n0→q b=b)(hq:∀ b,q b<m.next→b<m0.next)(he:BY q e0 e)
 (hg:∀ b x,m0.get b=some x → ∃ y,m.get (q b)=some y∧(y=x.AA q∨EM (x.AA q) y)) (hi:∀ b c x y,m0.get b=some x→m0.get c=some y→q b=q c→b=c):Dk n n0 e0 m0 e m:=by
 refine⟨hn,fun W Φ ρ vs w hr ht=>⟨Φ,fun b=>ρ (q b),fun _ _ h=>h,fun b hb=>by simp only[h0 b hb],hr.BD hg hi hq,?_⟩⟩
 refine⟨by rw[ht.1,M5,M5],fun i x v hx hv=>?_⟩
 have hin:i<n:=by
  have:=(gS.1 hx).1;rwa[M5]at this
 rw[F0 hin]at hx;injection hx with hx
 subst hx;rcases he.get i with h1|h1
 ·rw[h1]; exact .bot v
 ·have hR:=ht.2 i (e.get i) v (F0 hin) hv;rw[h1]at hR;exact hR.BD (q:=q) (fun _ _ hb=>hb) _ rfl
def M6(k base:Nat)(F:Nat→List (List Aa)):Nat→List (Nat×Ag)→List (Nat×Ag)
 | 0,rest=>rest
 | n+1,rest=>AF (base+n) k (F n) (M6 k base F n rest)
def M1(base n:Nat)(F:Nat→List (List Aa)):List (List Aa):=(List.range n).map fun x=>[AH (base+x) (F x)]
section
variable {k base n c x:Nat} {F:Nat→List (List Aa)} {rest:List (Nat×Ag)}
theorem Tv:∀ (n:Nat),(c<base∨base+n≤c)→Y2 (M6 k base F n rest) c=Y2 rest c
 | 0,_=>rfl
 | n+1,h=>by rw[M6,bO (by omega),Tv n (by omega)]
theorem O6:∀ (n:Nat),x<n→Y2 (M6 k base F n rest) (base+x)=if F x=[]then Y2 rest (base+x)else some (.cells k (F x))
 | 0,h=>by omega
 | n+1,h=>by
  rw[M6];by_cases hx:x=n
  ·subst hx;rw[kW,Tv x (by omega)]
  ·rw[bO (by omega),O6 n (by omega)]
theorem qY:∀ (n:Nat),(c<base∨base+n≤c)→P0 (M6 k base F n rest) c=M6 k base F n (P0 rest c)
 | 0,_=>rfl
 | n+1,h=>by rw[M6,rE (by omega),qY n (by omega)]; rfl
theorem ZK:(M1 base n F).length=n:=by simp[M1]
theorem vN(h:x<n):(M1 base n F)[x]? = some [AH (base+x) (F x)]:=by
 unfold M1;rw[gM,List.getElem?_range h];rfl
theorem Z9j(n:Nat)(h:∀ x,x<n→F x=[]):M6 k base F n rest=rest:=by
 induction n with
 | zero=>rfl
 | succ n ih=>rw[M6,h n (by omega),T0,ih fun x hx=>h x (by omega)]
theorem ua(h:∀ x,x<n→F x=[]):M1 base n F=List.replicate n [.Ai]:=by
 unfold M1;refine List.ext_getElem (by simp) fun i h1 h2=>?_
 simp only[lM,List.length_range]at h1;simp[h i h1,AH]
def Fe(F:Nat→List (List Aa))(x:Nat)(R:List (List Aa))(y:Nat):List (List Aa):=if y=x then R else F y
theorem Tt{R:List (List Aa)}:Fe F x R x=R:=by simp[Fe]
theorem SL{R:List (List Aa)}{y:Nat}(h:y≠x):Fe F x R y=F y:=by simp[Fe,h]
theorem aB(n:Nat){y:Ag}(BZ:∀ c y,Y2 rest c=some y→c<base)(h:Y2 (M6 k base F n rest) c=some y):(c<base∧Y2 rest c=some y) ∨ ∃ i,i<n∧c=base+i∧F i≠[]∧y=.cells k (F i):=by
 by_cases h1:c<base
 ·rw[Tv n (.inl h1)]at h;exact .inl ⟨h1,h⟩
 ·by_cases h2:base+n≤c
  ·rw[Tv n (.inr h2)]at h;exact absurd (BZ _ _ h) h1
  ·obtain⟨i,rfl⟩:∃ i,c=base+i:=⟨c - base,by omega⟩
   rw[O6 n (by omega)]at h
   split at h
   ·exact absurd (BZ _ _ h) h1
   ·rename_i hne;injection h with h
    exact .inr ⟨i,by omega,rfl,hne,h.symm⟩
end
end Go.AE
end
