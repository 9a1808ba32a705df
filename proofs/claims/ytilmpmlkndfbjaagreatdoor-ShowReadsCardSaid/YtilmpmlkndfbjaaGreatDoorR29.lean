/- Part 29 of the proof: Rw, Rx, Sf, Sg, Sh, Ya, AeWr, AeWf. -/
import Derived.Test.YtilmpmlkndfbjaaGreatDoorR12
import Derived.Test.YtilmpmlkndfbjaaGreatDoorR13
import Derived.Test.YtilmpmlkndfbjaaGreatDoorR25
import Derived.Test.YtilmpmlkndfbjaaGreatDoorR26
import Derived.Test.YtilmpmlkndfbjaaGreatDoorR27
import Derived.Test.YtilmpmlkndfbjaaGreatDoorR28
set_option linter.all false
section
namespace Go.Known
open Go Go.AE Go.Proofs
open Go.Plain
theorem Z6o(ls:List Lt):((ls.map rowL).all fun x=>x.length == 6)=true:=by
 rw[List.all_eq_true];intro x a;obtain⟨l,_,rfl⟩:=List.mem_map.1 a;rfl
end Go.Known
end
section
namespace Go.Known
open Go Go.AE Go.Proofs
open Go.Plain
theorem Zjl{get:Nat→Option ABlk}{n:Nat}(l:List Lt):∀ row,row∈l.map rowL → ∀ x,x∈row→X3 get (n+1) x=some x:=by
 intro row b x a;obtain⟨i,_,rfl⟩:=List.mem_map.1 b;simp only[rowL,List.mem_cons,List.not_mem_nil,or_false]at a;rcases a with rfl|rfl|rfl|rfl|rfl|rfl<;>rfl
end Go.Known
end
section
namespace Go.Known
open Go Go.AE Go.Proofs
open Go.Plain
theorem Z8d(a b:Lt):Zbl [.int,.int,.int,.int,.int,.bool] (rowL a) (rowL b)=some (decide (a=b)):=by
 obtain⟨i,j,k,l,m,n⟩:=a;obtain⟨o,p,q,r,s,t⟩:=b;simp only[rowL,Zbl,B3,if_true,Lt.mk.injEq];by_cases c:i=o
 ·by_cases d:j=p
  ·by_cases e:k=q
   ·by_cases f:l=r
    ·by_cases g:m=s
     ·by_cases h:n=t
      ·simp[c,d,e,f,g,h]
      ·simp[c,d,e,f,g,h,beq_false_of_ne h]
     ·simp[c,d,e,f,g,beq_false_of_ne g]
    ·simp[c,d,e,f,beq_false_of_ne f]
   ·simp[c,d,e,beq_false_of_ne e]
  ·simp[c,d,beq_false_of_ne d]
 ·simp[c,beq_false_of_ne c]
theorem Z9z(a b:Lt):W7 .neq (.flat [.int,.int,.int,.int,.int,.bool]) (.agg (rowL a)) (.agg (rowL b))=some (.bool (!decide (a=b))):=by
 simp only[W7,eqA,Z8d]
theorem Zp5(ls:List Lt){i:Nat}(h:i<ls.length):(ls.map rowL)[i]? = some (rowL (at' ls i)):=by
 rw[List.getElem?_map,gE h,at',List.getD,gE h];rfl
theorem Yaf{a b:List Lt}{i:Nat}(c:i<a.length)(d:i<b.length)(h:at' a i=at' b i):(a.drop i=b.drop i)=(a.drop (i+1)=b.drop (i+1)):=by
 rw[List.drop_eq_getElem_cons c,List.drop_eq_getElem_cons d];have e:a[i]=b[i]:=by simpa[at',List.getD,c,d]using h
 rw[e];simp only[List.cons.injEq,true_and]
theorem Z2q{a b:List Lt}{i:Nat}(c:i<a.length)(d:i<b.length)(h:at' a i≠at' b i):¬a.drop i=b.drop i:=by
 rw[List.drop_eq_getElem_cons c,List.drop_eq_getElem_cons d];have f:at' a i=a[i]:=by simp[at',List.getD,c]
 have g:at' b i=b[i]:=by simp[at',List.getD,d]
 rw[f,g]at h;intro e;injection e with e3 _
 exact h e3
end Go.Known
end
section
namespace Go.Known
open Go Go.AE Go.Proofs
open Go.Plain
def mpE:Nat→List Int→List (AVal×AVal×Nat)
 | _,[]=>[]
 | j,x :: r=>(.int .i64 x,.int .i64 (j+1:Nat),j) :: mpE (j+1) r
theorem Zye:∀ (j:Nat) (E:List Int),(mpE j E).length=E.length
 | _,[]=>rfl
 | j,x :: r=>by simp only[mpE,List.length_cons,Zye (j+1) r]
theorem Zfe(q:Nat→Nat):∀ (j:Nat) (E:List Int),renM q (mpE j E)=mpE j E
 | _,[]=>rfl
 | j,x :: r=>by
  have:=Zfe q (j+1) r;simp only[renM,mpE,List.map_cons,AVal.ren]at *;rw[this]
theorem Zn2(id:Int):∀ (j:Nat) (E:List Int),D0 .int (.int .i64 id) (mpE j E)=some (if Y6 id E=0 then none else some (Y6 id E - 1,.int .i64 (j+Y6 id E:Nat),j+(Y6 id E - 1)))
 | _,[]=>rfl
 | j,x :: r=>by
  simp only[mpE,D0,B3,if_true,Y6];by_cases h:id=x
  ·subst h; simp
  ·have d:(id == x)=false:=by simpa using h
   simp only[d,if_neg h];rw[Zn2 id (j+1) r];by_cases a:Y6 id r=0
   ·simp[a]
   ·have e:j+1+Y6 id r=j+(Y6 id r+1):=by omega
    have b:Y6 id r - 1+1=Y6 id r:=by omega
    have c:j+1+(Y6 id r - 1)=j+Y6 id r:=by omega
    simp[a,e,b,c]
theorem Zv9(x:Int):∀ (j:Nat) (E:List Int),mpE j E++[(.int .i64 x,.int .i64 (j+E.length+1:Nat),j+E.length)]=mpE j (E++[x])
 | _,[]=>rfl
 | j,y :: r=>by
  simp only[mpE,List.cons_append,List.length_cons];have:=Zv9 x (j+1) r;rw[show j+1+r.length=j+(r.length+1) by omega]at this
  rw[this]
def I2(ns ls:List Lt)(i:Nat):List Lt:=ns.take i++ls.drop i
theorem Z7l(a ls:List Lt):I2 a ls 0=ls:=by simp[I2]
theorem Z7z{a ls:List Lt}(h:a.length=ls.length):I2 a ls ls.length=a:=by simp[I2,← h]
theorem Z4c{a ls:List Lt}(h:a.length=ls.length)(i:Nat):(I2 a ls i).length=ls.length:=by simp[I2]; omega
theorem Zvj{a ls:List Lt}(h:a.length=ls.length){i:Nat}(hi:i<ls.length):((I2 a ls i).map rowL)[i]? = some (rowL (at' ls i)):=by
 unfold I2;rw[List.getElem?_map,List.getElem?_append_right (by simp; omega),List.length_take,Nat.min_eq_left (by omega),Nat.sub_self,List.getElem?_drop,Nat.add_zero,gE hi,at',List.getD,gE hi]
 rfl
theorem Zy8{a ls:List Lt}(h:a.length=ls.length){i:Nat}(hi:i<ls.length):((I2 a ls i).map rowL).set i (rowL (at' a i))=(I2 a ls (i+1)).map rowL:=by
 have e:ls.drop i=at' ls i :: ls.drop (i+1):=by
  rw[List.drop_eq_getElem_cons hi,at',List.getD,gE hi];rfl
 have b:i<a.length:=by omega
 have c:a.take (i+1)=a.take i++[at' a i]:=by
  rw[List.take_add_one,gE b,at',List.getD,gE b];rfl
 unfold I2;rw[e,c,List.map_append,List.map_append,List.set_append_right _ _ (by simp; omega)]
 simp only[List.map_append,List.map_cons,List.map_nil,List.length_map,List.length_take,Nat.min_eq_left (Nat.le_of_lt b),Nat.sub_self,List.set_cons_zero,List.append_assoc,List.cons_append,List.nil_append]
theorem Z7p{a ls:List Lt}(h:a.length=ls.length){i:Nat}(hi:i<ls.length)(c:at' a i=at' ls i):(I2 a ls (i+1)).map rowL=(I2 a ls i).map rowL:=by
 rw[← Zy8 h hi,c];have h:=Zvj h hi;generalize (I2 a ls i).map rowL=M at *;obtain⟨d,b⟩:=Y5 h;rw[← b,List.set_getElem_self]
end Go.Known
end
section
namespace Go.Known
open Go Go.AE Go.Proofs
open Go.Plain
theorem Znu{ls:List Lt}{k:Nat}(a:k<ls.length):at' ls.reverse k=at' ls (ls.length - 1 - k):=by
 unfold at';rw[List.getD_eq_getElem?_getD,List.getD_eq_getElem?_getD,List.getElem?_reverse a]
theorem Zi9{a b:List Lt}(e:a.length=b.length)(h:∀ k,k<a.length→at' a k=at' b k):a=b:=by
 refine List.ext_getElem e fun k c d=>?_
 have:=h k c;simpa[at',List.getD,c,d]using this
theorem ValR.bk{f:Int}{ls:List Lt}(h:ValR f ls)(a:ls≠[]):∃ i,i<ls.length∧bkC ls i=true:=by
 have b:=h.wv a;obtain⟨i,g,c,d⟩:=Z30 b.pas h.evn;refine⟨ls.length - 1 - i,by omega,?_⟩
 have e:ls.length - 1 - (ls.length - 1 - i)=i:=by omega
 unfold bkC;rw[Znu (by omega),e,c,d]
 rfl
end Go.Known
end
section
namespace Go.Known
open Go.Plain
def bkN(d:Nat):Nat:=if d % 2=0 then d+1 else d - 1
def tnN(ls:List Lt)(d:Nat):Nat:=V1 ls (Z4 ls) d
end Go.Known
end
section
namespace Go.AE
open Go.RowKit
section
variable {P:Program} {wr:List FuncId} {n n0:Nat}
def wpW(P:Program)(wr:List FuncId)(n n0:Nat):ACode→(Exit→Env→SMem→Prop)→Env→SMem→Prop
 | .skip,Q,e,m=>Q .normal e m
 | .region false ops,Q,e,m=>if ops.any isV=true then B8 P n m.next ops 0 (Q .normal) e (m.at (m.next+ops.length))else U3 P false n m.next ops 0 (Q .normal) e (m.at (m.next+ops.length))
 | .region true ops,Q,e,m=>if ops.any (isW wr)=true then xdw P (Zdl ops) n m.next ops 0 [] (Q .normal) e (m.at (m.next+ops.length))
  else if ops.all F4=true then U3 P false n m.next ops 0 (Q .normal) e (m.at (m.next+ops.length))
  else if ops.all (fun o=>o.un.isEmpty)=true then U3 P true n m.next ops 0 (Q .normal) e (m.at (m.next+ops.length))
  else J9 P (Zdl ops) n m.next ops 0 [] (Q .normal) e (m.at (m.next+ops.length))
 | .seq a b,Q,e,m=>wpW P wr n n0 a (M2 (wpW P wr n n0 b Q) Q) e m
 | .cond c a b,Q,e,m=>Zew (evE n e c) (wpW P wr n n0 a Q e m) (wpW P wr n n0 b Q e m)
 | .block id c,Q,e,m=>wpW P wr n n0 c (G3 id Q) e m
 | .loop c,Q,e,m=>∃ (I:Nat→Env→SMem→Prop),(∃ k e0 m0,WkR n n0 e0 m0 e m∧I k e0 m0) ∧ ∀ k e1 m1,I k e1 m1→wpW P wr n n0 c (M2 (fun e' m'=>∃ j e0 m0,j<k∧WkR n n0 e0 m0 e' m'∧I j e0 m0) Q) e1 m1
 | .exit id,Q,e,m=>Q (.exit id) e m
 | .scope c,Q,e,m=>wpW P wr n n0 c Q e m
 | .label _,Q,e,m=>Q .normal e m
 | .ret,Q,e,m=>Q .ret e m
 | .bad,_,_,_=>False
theorem Yda(hm:P.follows .mixedOrders=true):∀ (c:Code) (Q:Exit→Env→SMem→Prop) (e:Env) (m:SMem),wpW P wr n n0 (Y1 P c) Q e m→AWpT P n n0 c Q e m:=by
 intro c
 induction c with
 | skip=>exact fun Q e m h W Φ ρ a w t r o p=>wp_skip ⟨e,m,Φ,ρ,fun _ _ h=>h,fun _ _=>rfl,t,r,o,p,fun l g=>(by cases g),h⟩
 | region id u D=>
  intro Q e m h;have hw:∀ A:ACode,Y1 P (.region id u D)=A→(match A with | .region _ _=>True | .bad=>True|_=>False)→wpW P wr n n0 A Q e m→AWpT P n n0 (.region id u D) Q e m:=by
   intro A E hA h;have F:wpZ P n n0 A Q e m→AWpT P n n0 (.region id u D) Q e m:=fun hz W Φ ρ a w t r o p=>
    Zwa hm (.region id u D) Q e m (by rw[E]; exact Zy4 hz fun _ _ _ h=>h) W Φ ρ a w t r o p
   cases A with
   | region d os=>
    cases d with
    | false=>
     simp only[wpW]at h;split at h
     ·have am:=h;cases D with
      | true=>
       simp only[Y1]at E;split at E<;>first|(cases E; done)|skip
       split at E<;>cases E
      | false=>
       simp only[Y1]at E;split at E<;>first|(cases E; done)|skip
       rename_i Z ac;cases E;exact Z2x ac am
     ·exact F h
    | true=>
     simp only[wpW]at h;split at h
     ·intro W Φ ρ a w t r o p;refine Zvb hm (e:=e) (m:=m) ?_ W Φ ρ a w t r o p;rw[E];exact Zl2 os [] [] e _ (fun j f hj=>by simp[L3]at hj) h
     ·exact F h
   | bad=>exact h.elim
   | _=>exact hA.elim
  refine hw _ rfl ?_ h;cases D with
  | false=>
   simp only[Y1];cases I9 P u u.toList<;>trivial
  | true=>
   simp only[Y1];cases I9 P u u.toList with
   | none=>trivial
   | some Z=>
    simp only;cases Zjn u Z (Zav u.toList)<;>trivial
 | seq x y O S=>
  intro Q e m h W Φ ρ a w t r o p;simp only[Y1,wpW]at h;refine wp_seq (wp_mono (O _ _ _ h W Φ ρ a w t r o p) ?_);intro x' G w' g;have key:∀ e',x'=e'→e'≠.normal→Zge W Φ ρ n n0 Q x' G w':=by
   intro e' he N;refine Zhn (fun _ _ h=>h) (fun _ _=>rfl) g fun e m hq=>?_
   subst he;cases x'<;>first|exact absurd rfl N|exact hq
  cases x' with
  | normal=>
   obtain⟨e',J,C,ρ',K,L,U,V,X,Y,h7,M⟩:=g;exact wp_mono (S _ _ _ M W C ρ' G w' U V X Y) fun x a w af=>Zhn K L af fun _ _ h=>h
  | exit i=>exact key _ rfl (by simp)
  | goto l=>exact key _ rfl (by simp)
  | ret=>exact key _ rfl (by simp)
  | panic ch=>exact key _ rfl (by simp)
  | outgrown=>exact key _ rfl (by simp)
 | cond c x y O S=>
  intro Q e m h W Φ ρ a w t r o p;simp only[Y1]at h;cases E:Y4 c with
  | none=>simp[E,wpW]at h
  | some c'=>
   simp only[E,wpW]at h;have hv:=T4 o E;rw[F1]at hv;generalize evE n e c'=z at h hv;cases z<;>first|exact h.elim|skip
   rename_i q;generalize hz:a.eval c=v at hv;cases hv;cases q
   ·exact wp_cond_false hz (S _ _ _ h W Φ ρ a w t r o p)
   ·exact wp_cond_true hz (O _ _ _ h W Φ ρ a w t r o p)
 | block id c ih=>
  intro Q e m h W Φ ρ a w t r o p;simp only[Y1,wpW]at h;refine wp_block (wp_mono (ih _ _ _ h W Φ ρ a w t r o p) ?_);intro x G w' g;cases x with
  | exit i=>
   simp only[Exit.inBlock];obtain⟨e',J,C,ρ',K,L,U,V,X,Y,h7,M⟩:=g;simp only[G3]at M;split
   ·rename_i hi;rw[if_pos hi]at M;exact⟨e',J,C,ρ',K,L,U,V,X,Y,fun l g=>(by cases g),M⟩
   ·rename_i hi;rw[if_neg hi]at M;exact⟨e',J,C,ρ',K,L,U,V,X,Y,fun l g=>(by cases g),M⟩
  | normal=>exact g
  | goto l=>exact g
  | ret=>exact g
  | panic ch=>exact g
  | outgrown=>exact g
 | loop c ih=>
  intro Q e m h W Φ ρ a w t r o p;simp only[Y1,wpW]at h;obtain⟨I,⟨k0,e0,m0,aa,h0⟩,H⟩:=h;obtain⟨ao,au,ag,ad,ai,ak⟩:=aa.2 W Φ ρ _ w r o;refine wp_loop_ghost (fun k G w'=>∃ e' J C ρ',(∀ B c,Φ B=some c→C B=some c)∧(∀ b,b<n0→ρ' b=ρ b)∧n0≤J.next∧Rel W C ρ' J.mem w'∧RL C ρ' (toE n e') G.tmps∧G.defers=[]∧I k e' J) k0
   ⟨e0,m0,ao,au,ag,ad,aa.1,ai,ak,p,h0⟩ ?_
  rintro k G w' ⟨e',J,C,ρ',K,L,U,V,X,Y,h7⟩;refine wp_mono (ih _ _ _ (H k e' J h7) W C ρ' G w' U V X Y) ?_;intro x ab an g;have key:∀ e',x=e'→e'≠.normal→Zge W Φ ρ n n0 Q x ab an:=by
   intro e' he N;refine Zhn K L g fun e m hq=>?_
   subst he;cases x<;>first|exact absurd rfl N|exact hq
  cases x with
  | normal=>
   obtain⟨e2,m2,aq,av,g1,g2,g3,g4,g5,g6,_,j,e3,m3,g7,g8,g9⟩:=g;obtain⟨ar,aw,ah,ae,aj,al⟩:=g8.2 W aq av _ _ g4 g5;exact⟨j,g7,e3,m3,ar,aw,fun B c hB=>ah B c (g1 B c (K B c hB)),fun b hb=>(ae b hb).trans ((g2 b hb).trans (L b hb)),g8.1,aj,al,g6,g9⟩
  | exit i=>exact key _ rfl (by simp)
  | goto l=>exact key _ rfl (by simp)
  | ret=>exact key _ rfl (by simp)
  | panic ch=>exact key _ rfl (by simp)
  | outgrown=>exact key _ rfl (by simp)
 | exit id=>exact fun Q e m h W Φ ρ a w t r o p=>wp_exit ⟨e,m,Φ,ρ,fun _ _ h=>h,fun _ _=>rfl,t,r,o,p,fun l g=>(by cases g),h⟩
 | scope c ih=>
  intro Q e m h W Φ ρ a w t r o p;simp only[Y1,wpW]at h;refine wp_scope_straight (wp_mono (ih _ _ _ h W Φ ρ a w t r o p) ?_);intro x G w' g;cases x with
  | goto l=>
   obtain⟨_,_,_,_,_,_,_,_,_,_,h7,_⟩:=g;exact absurd rfl (h7 l)
  | normal=>exact g
  | exit i=>exact g
  | ret=>exact g
  | panic ch=>exact g
  | outgrown=>exact g
 | label l=>exact fun Q e m h W Φ ρ a w t r o p=>wp_label ⟨e,m,Φ,ρ,fun _ _ h=>h,fun _ _=>rfl,t,r,o,p,fun l g=>(by cases g),h⟩
 | ret=>exact fun Q e m h W Φ ρ a w t r o p=>wp_ret ⟨e,m,Φ,ρ,fun _ _ h=>h,fun _ _=>rfl,t,r,o,p,fun l g=>(by cases g),h⟩
 | rangeFunc f ps x y _ _=>exact fun Q e m h=>by simp[Y1,wpW]at h
 | goto l=>exact fun Q e m h=>by simp[Y1,wpW]at h
 | refuse s=>exact fun Q e m h=>by simp[Y1,wpW]at h
theorem Z0k(hm:P.follows .mixedOrders=true){f:FuncId}{fn:Func}{j:AFn}{args:List AVal}{m:SMem}{K:AVal→SMem→Prop}(J:P.funcs[f]? = some fn)(hc:cFn P fn=some j)(D:Nat.ble args.length j.ntmps=true)
 (h:wpW P wr j.ntmps m.next j.body (H3 j.ntmps j.results (O9 m.next K)) (U1 0 args []) m):Ctr P f args m K:=by
 obtain⟨c,o,q,E,ac,s⟩:=Zmh hc;have ab:args.length≤j.ntmps:=Nat.le_of_ble_eq_true D;rw[q]at h;refine⟨⟨fn,J,s,by rw[o]; rfl⟩,fun W Φ ρ vs w L Z aa=>?_⟩
 have F:=Zis (k:=fn.ntmps) Z;have G:RL Φ ρ (toE j.ntmps (U1 0 args [])) (vs++Array.replicate (fn.ntmps - vs.size) undef):=by
  refine F.sub (by rw[M0]; simp; omega) fun i x g=>?_
  have hi:i<j.ntmps:=by
   have:=(gS.1 g).1;rwa[M0]at this
  rw[G0 hi,Zlj]at g;injection g with g
  by_cases C:0≤i∧i<0+args.length
  ·rw[if_pos C]at g;rw[List.getElem?_append,if_pos (by omega)]
   refine .inr ?_;rw[← g,Nat.sub_zero,List.getD,gE (by omega)]
   rfl
  ·rw[if_neg C]at g;exact .inl g.symm
 have hs:=Yda (n0:=m.next) hm c _ _ _ h W Φ ρ { tmps:=vs++Array.replicate (fn.ntmps - vs.size) undef,defers:=[] } w (Nat.le_refl _) L G rfl;refine calls_of_wp J o (wp_mono hs fun x a w' D=>?_)
 obtain⟨e,A,d,ρ',V,C,h3,I,X,Y,h7,z⟩:=D;have B:B5 (O9 m.next K) A (Q9 j.ntmps e A j.results)→a.defers=[] ∧ ∃ v,(results fn a.tmps).run P w'=.ok v w' ∧
  ∃ O r A d ρ',Ending.returned v=.returned O∧Ext Φ ρ d ρ'∧(∀ b,b<m.mem.next→b∉([]:List Nat)→ρ b=none→ρ' b=none)∧Rel W d ρ' A w'∧R d ρ' r O∧m.mem.next≤A.next ∧ ∃ N:SMem,A=N.mem∧K r N:=by
  intro hh;obtain⟨v,Q,v0,m0,l,H,S⟩:=Zwo hh;obtain⟨u,k1,k2⟩:=Zh3 I X E Q;obtain⟨t,j1,j2,j3⟩:=H.rel (n:=1) (vs:=#[u]) I ⟨rfl,fun i x y g M=>by
   cases i with
   | zero=>
    rw[G0 (by omega)]at g
    simp only[Env.get,if_true,oI]at g;have:u=y:=by simpa using M
    subst g; subst this; exact k2
   | succ i=>simp at M⟩
  have k3:R d t v0 u:=j3.2 0 v0 u (by rw[G0 (by omega)]; rfl) rfl
  have p:∀ b,b<m.next→t b=ρ b:=fun b o=>(j1 b o).trans (C b o)
  refine⟨Y,u,k1,u,v0,m0.mem,d,t,rfl,⟨V,fun b l o=>?_⟩,fun b o _ U=>(p b o).trans U,j2,k3,H.1,m0,rfl,S⟩
  exact(p b (L.fresh b l o)).trans o
 cases x with
 | normal=>exact B z
 | ret=>exact B z
 | exit i=>exact z.elim
 | goto l=>exact z.elim
 | panic ch=>exact z.elim
 | outgrown=>exact z.elim
theorem Zg4(hm:P.follows .mixedOrders=true)(wr:List FuncId){f:FuncId}{fn:Func}{c:AFn}{args:List AVal}{m:SMem}{a:AVal→SMem→Prop}(j:P.funcs[f]? = some fn)(g:cFn P fn=some c){b:Nat}{d:List (Nat×Option (Option Nat))}{bd:ACode}(i:c=⟨b,d,bd⟩)(k:Nat.ble args.length b=true)
 (h:∀ K:AVal→SMem→Prop,(∀ r e,a r e→K r e)→wpW P wr b m.next bd (H3 b d (O9 m.next K)) (U1 0 args []) m):Ctr P f args m a:=
 by subst i; exact Z0k (wr:=wr) hm j g k (h a fun _ _ h=>h)
variable {Q:Exit→Env→SMem→Prop} {K:Env→SMem→Prop} {e:Env} {m:SMem}
theorem Zd6:wpW P wr n n0 .skip Q e m=Q .normal e m:=propext Iff.rfl
theorem Ze1(a:List AOper):wpW P wr n n0 (.region false a) Q e m=if a.any isV=true then B8 P n m.next a 0 (Q .normal) e (m.at (m.next+a.length))else U3 P false n m.next a 0 (Q .normal) e (m.at (m.next+a.length)):=propext Iff.rfl
theorem Zee(a b:ACode):wpW P wr n n0 (.seq a b) Q e m=wpW P wr n n0 a (M2 (wpW P wr n n0 b Q) Q) e m:=propext Iff.rfl
theorem Zep(c:AOpd)(a b:ACode):wpW P wr n n0 (.cond c a b) Q e m=match evE n e c with
 | .bool true=>wpW P wr n n0 a Q e m
 | .bool false=>wpW P wr n n0 b Q e m
 | _=>False:=by
 show Zew _ _ _=_;unfold Zew;rfl
theorem Ze7(i:Nat)(c:ACode):wpW P wr n n0 (.block i c) Q e m=wpW P wr n n0 c (G3 i Q) e m:=propext Iff.rfl
theorem Zex(c:ACode):wpW P wr n n0 (.scope c) Q e m=wpW P wr n n0 c Q e m:=propext Iff.rfl
theorem Zen(i:Nat):wpW P wr n n0 (.exit i) Q e m=Q (.exit i) e m:=propext Iff.rfl
theorem Zef:wpW P wr n n0 .ret Q e m=Q .ret e m:=propext Iff.rfl
theorem Zeb(a:List AOper):wpW P wr n n0 (.region true a) Q e m=if a.any (isW wr)=true then xdw P (Zdl a) n m.next a 0 [] (Q .normal) e (m.at (m.next+a.length))
 else if a.all F4=true then U3 P false n m.next a 0 (Q .normal) e (m.at (m.next+a.length))
 else if a.all (fun o=>o.un.isEmpty)=true then U3 P true n m.next a 0 (Q .normal) e (m.at (m.next+a.length))
 else J9 P (Zdl a) n m.next a 0 [] (Q .normal) e (m.at (m.next+a.length)):=propext Iff.rfl
@[congr] theorem Yet{c : ACode}{e e' : Env}{m a : SMem}(h : e = e')(b : m = a) : wpW P wr n n0 c Q e m = wpW P wr n n0 c Q e' a := by rw [h, b]
theorem Zjy{α:Type}{c:ACode}(E:α→Env)(M:α→SMem)(g:α→Nat)(b:α→Prop)(f:α)(q:WkR n n0 (E f) (M f) e m)(i:b f)
 (h:∀ a,b a → ∀ N:Env→SMem→Prop,(∀ d e m,g d<g a→b d→WkR n n0 (E d) (M d) e m→N e m)→wpW P wr n n0 c (M2 N Q) (E a) (M a)):wpW P wr n n0 (.loop c) Q e m:=by
 refine⟨fun k e m=>∃ a,k=g a∧b a∧e=E a∧m=M a,⟨g f,_,_,q,f,rfl,i,rfl,rfl⟩,?_⟩
 rintro k r s ⟨a,rfl,p,rfl,rfl⟩;exact h a p _ fun d e m j l o=>⟨g d,E d,M d,j,o,d,rfl,l,rfl,rfl⟩
theorem G1{α:Type}{c:ACode}(E:α→Env)(M:α→SMem)(g:α→Nat)(b:α→Prop)(f:α)(l:List (Nat×Nat))(r:SubR n0 l (E f) (M f) e m)(i:b f)
 (h:∀ a,b a → ∀ N:Env→SMem→Prop,(∀ d l e m,g d<g a→b d→SubR n0 l (E d) (M d) e m→N e m)→wpW P wr n n0 c (M2 N Q) (E a) (M a)):wpW P wr n n0 (.loop c) Q e m:=
 Zjy E M g b f r.wk i fun a q N p=>h a q N fun d l e m j k o=>p d e m j k o.wk
def SubFE(q:Nat→Nat)(get:Nat→Option ABlk)(S:List Nat):Env→Env→Prop
 | [],_=>True
 | (i,v) :: r,e=>(e.get i=v.ren q∨fzV get S (e.get i)=v.ren q)∧SubFE q get S r e
theorem SubFE.get{q:Nat→Nat}{g:Nat→Option ABlk}{S:List Nat}:∀ {b e:Env},SubFE q g S b e → ∀ i,b.get i=.bot∨e.get i=(b.get i).ren q∨fzV g S (e.get i)=(b.get i).ren q
 | [],_,_,i=>.inl rfl
 | (j,v) :: r,e,h,i=>by
  simp only[Env.get];by_cases a:i=j
  ·subst a; rw[if_pos rfl]; exact .inr h.1
  ·rw[if_neg a]; exact h.2.get i
def SubX(n0:Nat)(l:List (Nat×Nat))(S:List Nat)(e0:Env)(m0:SMem)(e:Env)(m:SMem):Prop:=
 n0≤m0.next∧n0≤m.next∧SubFE (qOf l n0 m0.next m.next) m.get S e0 e∧SubFB (qOf l n0 m0.next m.next) S m0.bl m∧InjK (qOf l n0 m0.next m.next) m0.bl
theorem SubX.wk{n0 n:Nat}{l:List (Nat×Nat)}{S:List Nat}{A e:Env}{m0 m:SMem}(h:SubX n0 l S A m0 e m):WkR n n0 A m0 e m:=by
 obtain⟨j,Y,P,hm,hi⟩:=h;refine⟨j,fun W Φ ρ vs w p E=>?_⟩
 obtain⟨Φs,t,G,H,I,B⟩:=Zht S p;refine⟨Φs,fun b=>ρ (qOf l n0 m0.next m.next b),t.pers,fun b a=>by simp only[qOf,if_pos a],⟨p.base,G,fun b x d=>?_,fun b b' x F l l' c r L M N=>?_,fun b l' a=>Zrl (p.fresh _ _ a) j,H⟩,?_⟩
 ·obtain⟨O,y,s,Q⟩:=hm.get b x d;obtain⟨l',o,C,J,X,K,D⟩:=p.live _ y s;refine⟨l',o,C,J,I _ y l' s C O,K,?_⟩;refine BR.unren (q:=qOf l n0 m0.next m.next) (ρ:=ρ) (fun _ _ a=>a) ?_
  rcases Q with rfl|⟨k,els,rfl,r⟩
  ·exact D.ext t
  ·rw[r];exact D.fz B
 ·obtain⟨_,y,s,_⟩:=hm.get b x c;obtain⟨_,V,z,_⟩:=hm.get b' F r;exact hi.get b b' x F c r (p.inj _ _ y V l l' s z L M N)
 ·refine⟨by rw[E.1,M0,M0],fun i x v d U=>?_⟩
  have g:i<n:=by
   have:=(gS.1 d).1;rwa[M0]at this
  rw[G0 g]at d;injection d with d
  subst d;have u:=E.2 i (e.get i) v (G0 g) U;rcases P.get i with c|c|c
  ·rw[c]; exact .bot v
  ·rw[c]at u;exact(u.unren (ρ':=fun b=>ρ (qOf l n0 m0.next m.next b)) (q:=qOf l n0 m0.next m.next) (fun _ _ a=>a) _ rfl).ext ⟨t.pers,fun _ _ h=>h⟩
  ·have f:R Φs ρ (fzV m.get S (e.get i)) v:=B _ _ u;rw[c]at f;exact f.unren (ρ':=fun b=>ρ (qOf l n0 m0.next m.next b)) (q:=qOf l n0 m0.next m.next) (fun _ _ a=>a) _ rfl
end
end Go.AE
end
section
namespace Go.AE
open Go.RowKit
theorem WkR.of_q{n n0:Nat}{q:Nat→Nat}{j e:Env}{m0 m:SMem}(s:n0≤m0.next)(o:∀ b,b<n0→q b=b)(t:∀ b,q b<m.next→b<m0.next)(p:SubRE q j e)
 (r:∀ b x,m0.get b=some x → ∃ y,m.get (q b)=some y∧(y=x.ren q∨BSub (x.ren q) y)) (hi:∀ b c x y,m0.get b=some x→m0.get c=some y→q b=q c→b=c):WkR n n0 j m0 e m:=by
 refine⟨s,fun W Φ ρ vs w u l=>⟨Φ,fun b=>ρ (q b),fun _ _ h=>h,fun b g=>by simp only[o b g],u.unren r hi t,?_⟩⟩
 refine⟨by rw[l.1,M0,M0],fun i x v d z=>?_⟩
 have a:i<n:=by
  have:=(gS.1 d).1;rwa[M0]at this
 rw[G0 a]at d;injection d with d
 subst d;rcases p.get i with f|f
 ·rw[f]; exact .bot v
 ·have k:=l.2 i (e.get i) v (G0 a) z;rw[f]at k;exact k.unren (q:=q) (fun _ _ g=>g) _ rfl
def K6(k base:Nat)(F:Nat→List (List AVal)):Nat→List (Nat×ABlk)→List (Nat×ABlk)
 | 0,rest=>rest
 | n+1,rest=>blV (base+n) k (F n) (K6 k base F n rest)
def L7(base n:Nat)(F:Nat→List (List AVal)):List (List AVal):=(List.range n).map fun x=>[slV (base+x) (F x)]
section
variable {k base n c x:Nat} {F:Nat→List (List AVal)} {rest:List (Nat×ABlk)}
theorem Zjt:∀ (n:Nat),(c<base∨base+n≤c)→Z7 (K6 k base F n rest) c=Z7 rest c
 | 0,_=>rfl
 | n+1,h=>by rw[K6,Zqo (by omega),Zjt n (by omega)]
theorem M1:∀ (n:Nat),x<n→Z7 (K6 k base F n rest) (base+x)=if F x=[]then Z7 rest (base+x)else some (.cells k (F x))
 | 0,h=>by omega
 | n+1,h=>by
  rw[K6];by_cases a:x=n
  ·subst a;rw[Zto,Zjt x (by omega)]
  ·rw[Zqo (by omega),M1 n (by omega)]
theorem Zyv:∀ (n:Nat),(c<base∨base+n≤c)→S3 (K6 k base F n rest) c=K6 k base F n (S3 rest c)
 | 0,_=>rfl
 | n+1,h=>by rw[K6,Zwy (by omega),Zyv n (by omega)]; rfl
theorem Zqr:(L7 base n F).length=n:=by simp[L7]
theorem Zte(h:x<n):(L7 base n F)[x]? = some [slV (base+x) (F x)]:=by
 unfold L7;rw[List.getElem?_map,List.getElem?_range h];rfl
theorem Z4v(n:Nat)(h:∀ x,x<n→F x=[]):K6 k base F n rest=rest:=by
 induction n with
 | zero=>rfl
 | succ n a=>rw[K6,h n (by omega),Za4,a fun x b=>h x (by omega)]
theorem Ycg(h:∀ x,x<n→F x=[]):L7 base n F=List.replicate n [.nilSl]:=by
 unfold L7;refine List.ext_getElem (by simp) fun i a b=>?_
 simp only[List.length_map,List.length_range]at a;simp[h i a,slV]
def updF(F:Nat→List (List AVal))(x:Nat)(R:List (List AVal))(y:Nat):List (List AVal):=if y=x then R else F y
theorem Zjv{R:List (List AVal)}:updF F x R x=R:=by simp[updF]
theorem Zie{R:List (List AVal)}{y:Nat}(h:y≠x):updF F x R y=F y:=by simp[updF,h]
theorem Zps(n:Nat){y:ABlk}(a:∀ c y,Z7 rest c=some y→c<base)(h:Z7 (K6 k base F n rest) c=some y):(c<base∧Z7 rest c=some y) ∨ ∃ i,i<n∧c=base+i∧F i≠[]∧y=.cells k (F i):=by
 by_cases b:c<base
 ·rw[Zjt n (.inl b)]at h;exact .inl ⟨b,h⟩
 ·by_cases e:base+n≤c
  ·rw[Zjt n (.inr e)]at h;exact absurd (a _ _ h) b
  ·obtain⟨i,rfl⟩:∃ i,c=base+i:=⟨c - base,by omega⟩
   rw[M1 n (by omega)]at h
   split at h
   ·exact absurd (a _ _ h) b
   ·rename_i d;injection h with h
    exact .inr ⟨i,by omega,rfl,d,h.symm⟩
end
end Go.AE
end
