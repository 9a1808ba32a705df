/- Part 4 -/
import Derived.Test.YtilmpmlkndfbjaaGreatDoorT3
import Derived.Lib.Overlaps
set_option linter.all false
namespace Go.AE
open Go.RowKit
section
variable {F:Fence} {n:Nat} {P:Program} {W:Aq} {Φ:Ap} {ρ:AI} {id:Nat} {w:World} {m m':Mem} {x:Aa} {a:Act} {t:List Aa}
theorem jM{o:Oper}{op:Ba}(b:N8 P o=op)(d:(match op with | .Dj _ | .append _ _ _ _ _ | .BI _ _ _ _ _=>True|_=>False)):∃c,o.op=.call c/\La P c=some op:=by
 unfold N8 at b;cases a:HM P o with
 |none=>rw[a]at b;simp only[Option.getD_none]at b;subst b;exact d.elim
 |some e=>
  rw[a]at b;simp only[Option.getD_some]at b;subst b;unfold HM at a;split at a<;>first|(cases a;done)|skip
  case h_26 c hoc=>exact ⟨c,hoc,a⟩
  all_goals (try simp only[mO]at a)
  all_goals (repeat' (split at a<;>first|(cases a;done)|skip))
  all_goals (try simp only[mO]at a)
  all_goals (first|(obtain ⟨_,_,a⟩:=a;subst a;exact d.elim)|(injection a with a;subst a;exact d.elim)|skip)
theorem aT(m:Open F){o:Oper}(l:∀c,o.op≠.defer c){K:Act->World->Prop}{Q:Exit->Act->World->Prop}(h:AJ P (execOp a.eval o) W Φ ρ id w x m')
 (g:∀f ρ' u w',Ext Φ ρ f ρ'->(∀b,b≠id->ρ b=none->ρ' b=none)->Rel W f ρ' m' w'->R f ρ' x u->K (a.put o.dst u) w'):o.wpIn F n P a w K Q:=by
 refine Zw3 m l ?_;obtain⟨v,w',f,ρ',d,i,j,e,k⟩:=h;unfold Oper.wp;rcases d with d|⟨d,rfl⟩
 ·rw[d];exact g _ _ _ _ i j e k
 rw[d];exact g _ _ _ _ i j e k
theorem Z8v{o:Oper}{y:Ah}(B:RL Φ ρ t a.tmps)(A:N8 P o=.Dj y){b off len:Nat}(D:ev t y=.sl b off len) :
 (∀c,o.op≠.defer c) /\ ∃l cap,ρ b=some l/\l.sh+off+cap=l.n/\(execOp a.eval o).run P w=.ok (.value (.int .i64 (cap:Nat))) w:=by
 obtain⟨c,h,d⟩:=jM A trivial;refine⟨(λc' p=>by rw[h]at p;cases p),?_⟩;unfold La at d;split at d<;>first|(cases d;done)|skip
 all_goals (repeat' (split at d<;>first|(cases d;done)|skip))
 all_goals (try (injection d with d;cases d;done))
 rename_i r _ _ F E f i _ _ e J C m;injection d with d
 injection d with d
 subst d;have j:=Q1 B m;rw[D]at j;generalize k:a.eval F=I at j;cases j with
 |sl _ _ _ H cap l u v z q G=>
  refine⟨l,cap,u,z,?_⟩;have g:c.argTypes = #[E]:=by rw[<-Array.toList_inj];exact i
  have s:(Builtin.cap_ c.argTypes o.type (c.args.map a.eval)).run P w=.ok (.int .i64 (cap:Nat)) w:=by
   rw[jP f,g,k];unfold Builtin.cap_;simp only[Sem.run_bind,List.getElem?_toArray,List.getElem?_cons_zero,V8 C,Result.andThen_ok];rfl
  exact Pe h r (λcs=>rfl) _ _ s
theorem Yhb{t e u ty:TypeId}{i:TypeInfo}{I:IntKind}{z:Value}{base:Option Addr}{len cap n:Nat}{kx:IntKind}{old:Array Value}(E:P.underlying t=some (.slice e))(hi:P.info? e=some i)(q:i.zero=some z)(F:P.underlying u=some (.int I))
 (H:z.cells.size=i.size) (A:0<i.size)
 (C:(Builtin.firstCells i.size len (.slice base len cap)).run P w.drew=.ok old w.drew) (k:cap<len+n) (b:len+n<=W6) (j:i.bytes<=W6) :
 ∃nc,len+n<=nc/\(Builtin.append_ #[t,u] ty #[.slice base len cap,.int kx (n:Nat)]).run P w =
  .ok (.slice (some ⟨w.drew.heap.size,0,none⟩) (len+n) nc) (w.drew.alloc (.cells (old++Builtin.zeroCells z.cells n++Builtin.zeroCells z.cells (nc-(len+n))) e)):=by
 have D:(Question.appendCap (len+n) cap e).forced=false:=rfl;refine⟨(Question.appendCap (len+n) cap e).cut (w.tape w.drawn (.appendCap (len+n) cap e)),by simp only[Question.cut];omega,?_⟩;generalize m:(Question.appendCap (len+n) cap e).cut (w.tape w.drawn (.appendCap (len+n) cap e))=nc;unfold W6 at b j;have o:=Zyq k;have p:Builtin.nextslicecap (len+n) cap*i.bytes<=(2*1048576+768)*1048576:=Nat.mul_le_mul (by omega) j;have f:IntKind.i64.max=9223372036854775807:=by decide
 have c:IntKind.i64.wrap (n:Int)=n:=by
  have hm:=IntKind.i64;rw[show IntKind.i64.wrap (n:Int)=(n:Int) from ?_];simp only[IntKind.wrap,IntKind.bits,IntKind.signed]
  first|omega|(simp;omega)
 have B:(n:Int)*(i.bytes:Int)<=2 ^ 48:=by
  have v:n*i.bytes<=1048576*1048576:=Nat.mul_le_mul (by omega) j;have y:((n*i.bytes:Nat):Int)<=((1048576*1048576:Nat):Int):=Int.ofNat_le.2 v;rw[Int.natCast_mul]at y;omega
 have d:∀w',(if n*i.size=0 then (pure #[]:Sem (Array Value))else do pure (Builtin.zeroCells (<-zeroValue e).cells n)).run P w'=.ok (Builtin.zeroCells z.cells n) w':=by
  intro w';split
  ·rename_i s;have l:n=0:=by
    rcases Nat.mul_eq_zero.1 s with h|h
    ·exact h
    omega
   subst l;simp[Builtin.zeroCells]
  simp only[Sem.run_bind,MC hi q,Result.andThen_ok,Sem.run_pure]
 have r:(Builtin.append_ #[t,u] ty #[.slice base len cap,.int kx (n:Nat)]).run P w=((do
  let a <-choose (.appendCap (len+n) cap e)
  askRoom (a*i.bytes)
  let old <-Builtin.firstCells i.size len (.slice base len cap)
  let new <-(if n*i.size=0 then pure #[]else do pure (Builtin.zeroCells (<-zeroValue e).cells n):Sem (Array Value))
  let g:=Builtin.zeroCells (<-zeroValue e).cells (a-(len+n))
  pure (Value.slice (some (<-newRow e (old++new++g))) (len+n) a):Sem Value)).run P w:=by
  unfold Builtin.append_;simp only[Sem.run_bind,List.getElem?_toArray,List.getElem?_cons_zero,List.getElem?_cons_succ,V8 E,Result.andThen_ok,B8 hi,V8 F];simp only[Sem.run_bind,Sem.run_pure,Result.andThen_ok,if_true,asInt,asIntOf,c];rw[iN (by omega)];simp only[Sem.run_bind,Oi hi,Result.andThen_ok];rw[iN (by omega)];simp only[Sem.run_bind,Sem.run_pure,Result.andThen_ok,Int.toNat_natCast];rw[iN (by omega)];simp only[Sem.run_bind,Oi hi,Result.andThen_ok,f];rw[iN (by omega)];simp only[Sem.run_bind,Oi hi,Result.andThen_ok];rw[iN (by omega)];simp only[Sem.run_bind,Oi hi,Result.andThen_ok,Bool.not_true,bF,if_false];rfl
 rw[r];simp only[Sem.run_bind,run_choose,D,bF,if_false,Result.andThen_ok,run_askRoom,m];have G:({ w with drawn:=w.drawn+1 }:World)=w.drew:=rfl;rw[G];simp only[C,d,Result.andThen_ok,MC hi q,newRow,Sem.run_bind,run_newObj,Sem.run_pure];rfl
end
def RJ(b N:Nat)(ex:Bool):CD:=fun _ _ ρ=>∃ l,ρ b=some l∧(match ex with|true=>l.n=l.sh+N|false=>l.sh+N≤l.n)
theorem RJ.mono{b N:Nat}{ex:Bool}:(RJ b N ex).FG:=λ_ _ _ _ _ ⟨l,a,c⟩ d=>⟨l,d.CN _ _ a,c⟩
def Jr(b N:Nat)(ex:Bool):Dh:=fun id t m op=>
 match op with
 | .Dj x=>match ev t x with
  | .sl b' off _=>if b'=b∧off≤N then some (match ex with|true=>.int .i64 ((N - off:Nat):Int)|false=>.atLeast (N - off),m)else none
  | _=>none
 | .bin .gtr e x y=>match ev t y with
  | .atLeast k=>match ev t x with
   | .int .i64 c=>if c≤k then some (.bool false,m)else none
   | _=>none
  | _=>Ae id t m (.bin .gtr e x y)
 | .append k bytes z s x=>match ex,ev t s with
  | true,.sl b' off len=>if b'=b then match J0 m k (ev t x),G8 m k (.sl b' off len)with
   | some xs,some olds=>if N<off+len+xs.length then (if len+xs.length≤W6∧bytes≤W6∧olds.length=len then some (.sl id 0 (len+xs.length),m.set id (.cells k (olds++xs)))else none)else Ae id t m (.append k bytes z s x)
   | _,_=>none
   else Ae id t m (.append k bytes z s x)
  | _,_=>Ae id t m (.append k bytes z s x)
 | .BI k bytes z s x=>match ex,ev t s,ev t x with
  | true,.sl b' off len,.int _ n=>if b'=b∧0≤n then match G8 m k (.sl b' off len)with
   | some olds=>if N<off+len+n.toNat∧len+n.toNat≤W6∧bytes≤W6∧olds.length=len then some (.sl id 0 (len+n.toNat),m.set id (.cells k (olds++List.replicate n.toNat z)))else none
   | none=>none
   else none
  | _,_,_=>none
 | op=>Ae id t m op
section
variable {F:Fence} {n:Nat} {P:Program} {W:Aq} {Φ:Ap} {ρ:AI} {id:Nat} {w:World} {m m':Mem} {x:Aa} {a:Act} {t:List Aa}
theorem Yao{o:Oper}{op:BinOp}{e:Fv}{f g:Ah}(b:N8 P o=.bin op e f g):∃ty x y d,o.op=.binOp op ty x y d/\X5 x=some f/\X5 y=some g/\YT P ty=some e:=by
 unfold N8 at b;cases a:HM P o with
 |none=>grind
 |some h=>
  rw[a]at b;simp only[Option.getD_some]at b;subst b;unfold HM at a;split at a<;>first|(cases a;done)|skip
  case h_26 c hoc=>
   exfalso;unfold La at a;split at a<;>first|(cases a;done)|skip
   all_goals (repeat' (split at a<;>first|(cases a;done)|skip))
   all_goals (injection a with a;cases a)
  all_goals (try simp only[mO]at a)
  all_goals (repeat' (split at a<;>first|(cases a;done)|skip))
  all_goals (try simp only[mO]at a)
  all_goals (first|(obtain ⟨_,_,a⟩:=a;cases a;done)|(injection a with a;cases a;done)|skip)
  grind
theorem Ylq{o:Oper}{k b:Nat}{z:List Aa}{e f:Ah}(g:N8 P o=.append k b z e f):∃c s x t u d,o.op=.call c/\c.callee=.builtin .append/\c.args.toList=[s,x]/\c.argTypes = #[t,u]/\Ja P t=some (k,b,z)/\X5 s=some e/\X5 x=some f /\
 P.underlying u=some d /\ ∀k,d≠.int k:=by
 obtain⟨c,h,a⟩:=jM g trivial;unfold La at a;split at a<;>first|(cases a;done)|skip
 all_goals (try (split at a<;>first|(cases a;done)|(injection a with a;cases a;done)))
 ·rename_i i;split at a<;>first|(cases a;done)|skip
  grind
 all_goals (repeat' (split at a<;>first|(cases a;done)|skip))
 all_goals (injection a with a;cases a)
theorem Z66{o:Oper}{k b:Nat}{z:List Aa}{d e:Ah}(f:N8 P o=.BI k b z d e):∃c s x t u h,o.op=.call c/\c.callee=.builtin .append/\c.args.toList=[s,x]/\c.argTypes = #[t,u]/\Ja P t=some (k,b,z)/\X5 s=some d/\X5 x=some e /\
 P.underlying u=some (.int h):=by
 obtain⟨c,g,a⟩:=jM f trivial;unfold La at a;split at a<;>first|(cases a;done)|skip
 all_goals (try (split at a<;>first|(cases a;done)|(injection a with a;cases a;done)))
 ·rename_i i;split at a<;>first|(cases a;done)|skip
  grind
 all_goals (repeat' (split at a<;>first|(cases a;done)|skip))
 all_goals (injection a with a;cases a)
theorem Z9m{s:Sem Next}{t e u ty:TypeId}{i:TypeInfo}{T kx:IntKind}{o:Value}{z:List Aa}{aa:Option Addr}{len cap nn:Nat}(G:Rel W Φ ρ m w)(L:ρ id=none)(B:id<m.next)(O:P.underlying t=some (.slice e))(hi:P.info? e=some i)(S:i.zero=some o)(A:RL Φ ρ z o.cells)(F:z.all Aa.one=true)(y:z.length=i.size)
 (g:P.underlying u=some (.int T)) (a:0<i.size)
 {I:Aa}{f:List (List Aa)}(Q:R Φ ρ I (.slice aa len cap)) (r:J0 m i.size I=some f) (J:f.length=len) (C:cap<len+nn) (n:len+nn<=W6) (K:i.bytes<=W6)
 (N:∀H w',(Builtin.append_ #[t,u] ty #[.slice aa len cap,.int kx (nn:Nat)]).run P w=.ok H w'->s.run P w=.ok (.value H) w') :
 AJ P s W Φ ρ id w (.sl id 0 (len+nn)) (m.set id (.cells i.size (f++List.replicate nn z))):=by
 obtain⟨old,M,D,k,p⟩:=Pm G.drew Q r a;have l:(Builtin.firstCells i.size len (.slice aa len cap)).run P w.drew=.ok old w.drew:=by
  rw[D len (by omega)];simp_all
 have d:o.cells.size=i.size:=by rw[A.1,y]
 have E:=aV A F;obtain⟨nc,h,v⟩:=Yhb (P:=P) (ty:=ty) (base:=aa) (len:=len) (cap:=cap) (kx:=kx) (old:=old) O hi S g d a l C n K;have c:Builtin.zeroCells o.cells nn=(Array.range (nn*i.size)).map λq=>o.cells[q%o.cells.size]!:=by simp only[Builtin.zeroCells,d]
 have b:=VE (len:=nn) A F y a;have j:(Builtin.zeroCells o.cells nn).size=(List.replicate nn z).length*i.size:=by rw[c];simp
 rw[<-c]at b;refine dH (cap:=nc) (w1:=w.drew) G.drew L B h (by grind) ?_ ?_ ?_ (N _ _ v)
 ·exact we (by rw[k,J]) (by rw[j];simp) d h
 ·exact Zza p k b j
 intro u g;simp only[Array.toList_append,List.mem_append]at g;rcases g with(g|g)|g
 ·exact JD p k a u g
 ·exact kR E d a u g
 exact kR E d a u g
theorem rq(hF:Open F)(b N:Nat)(ex:Bool):Ia F n (RJ b N ex) P (Jr b N ex):=by
 intro o id t m x m' h;have std:Ae id t m (N8 P o)=some (x,m')→m'.next=m.next ∧
  ∀(W:Aq) (Φ:Ap) (ρ:AI) (a:Act) (w:World) (K:Act→World→Prop) (Q:Exit→Act→World→Prop),RJ b N ex W Φ ρ→RL Φ ρ t a.tmps→Rel W Φ ρ m w→ρ id=none→id<m.next →
   (∀ Am ρ' u w',Ext Φ ρ Am ρ'→(∀ b,b≠id→ρ b=none→ρ' b=none)→Rel W Am ρ' m' w'→R Am ρ' x u→K (a.put o.dst u) w')→o.wpIn F n P a w K Q:=
  fun hs=>Ve hF o id t m x m' hs
 generalize hop:N8 P o=op at h std;unfold Jr at h;split at h
 ·
  rename_i y;split at h<;>first|(cases h; done)|skip
  rename_i b' off len hy;split at h<;>first|(cases h; done)|skip
  rename_i hcond;obtain⟨rfl,hoN⟩:=hcond;injection h with h
  injection h with h1 h2
  subst h2;refine⟨rfl,fun W Φ ρ a w K Q hH ht hr hn hlt hK=>?_⟩
  obtain⟨RG,l,cap,hl,FM,hrun⟩:=Z8v (w:=w) ht hop hy;obtain⟨l',hl',hx⟩:=hH;rw[hl]at hl'; injection hl' with hl'; subst hl'
  refine aT hF RG (AJ.val hrun hr ?_) hK;cases ex with
  | true=>
   simp only at hx h1;subst h1;have:cap=N - off:=by omega
   rw[this];exact .int _ _
  | false=>
   simp only at hx h1;subst h1;exact .atLeast _ _ (by omega)
 ·
  rename_i e y z;split at h
  ·rename_i k hz;split at h<;>first|(cases h; done)|skip
   rename_i c hy;split at h<;>first|(cases h; done)|skip
   rename_i hck;injection h with h
   injection h with h1 h2
   subst h1; subst h2;refine⟨rfl,fun W Φ ρ a w K Q hH ht hr hn hlt hK=>?_⟩
   obtain⟨ty,ox,oy,ty2,ho,hx,hyy,he⟩:=Yao hop;have Gk:=Q1 ht hx;have hv2:=Q1 ht hyy;rw[hy]at Gk;rw[hz]at hv2;generalize hvv:a.eval oy=vv at hv2;cases hv2 with
   | atLeast _ c2 hc2=>
    have hb:W5 .gtr e (.int .i64 c) (.int .i64 c2)=some (.bool false):=by
     have hlt:¬((c2:Int)<c):=by omega
     simp[W5,S5,hlt]
    refine aT hF (fun c' hc'=>by grind) ?_ hK
    have:=AJ.HT (id:=id) hr (Zyu (w:=w) (P:=P) (ox:=ox) (oy:=oy) he hb Gk (R.int (Φ:=Φ) (ρ:=ρ) .i64 c2));rw[← hvv]at this;have e2:execOp a.eval o=(do let u ← (do eqGuard .gtr ty ox oy (a.eval ox) (a.eval oy); binOp .gtr ty (a.eval ox) (a.eval oy):Sem Value); pure (Next.value u)):=by
     unfold execOp;rw[ho]
    rw[e2];exact this
  ·exact std h
 ·
  rename_i k bytes z s y;split at h
  ·rename_i b' off len hs;split at h
   ·rename_i hbb;subst hbb;split at h<;>first|(cases h; done)|skip
    rename_i xs olds hxs hold;split at h
    ·rename_i hN;split at h<;>first|(cases h; done)|skip
     rename_i hcond;obtain⟨hc1,hc2,hc3⟩:=hcond;injection h with h
     injection h with h1 h2
     subst h1; subst h2;refine⟨rfl,fun W Φ ρ a w K Q hH ht hr hn hlt hK=>?_⟩
     obtain⟨c,os,ox,ty,u,d,ho,Bn,hargs,htys,he,hos,hox,hu,hd⟩:=Ylq hop;obtain⟨e,i,ht2,hi,hsz,hb,hz,hzl,hk0⟩:=RW he;obtain⟨i',zv,y',g1,g2,g3,g4,g5⟩:=OT hz Φ ρ;rw[hi]at g1; injection g1 with g1; subst g1
     have FN:=g3.BJ g4;have hzsz:zv.cells.size=i.size:=by rw[FN.1,hzl,hsz]
     have EN:=aV FN g5;subst hsz; subst hb;have Gk:=Q1 ht hos;have hv2:=Q1 ht hox;rw[hs]at Gk;obtain⟨l,hl,hex⟩:=hH;simp only at hex;generalize hvv:a.eval os=vv at Gk;cases Gk with
     | sl _ _ _ ad cap l' hl' hle FM hcap BE=>
      rw[hl]at hl'; injection hl' with hl'; subst hl'
      refine aT hF (fun c' hc'=>by grind) ?_ hK
      refine nS (a:=ad) (len:=len) (cap:=cap) (m0:=m) (ty:=o.type) hr hn hlt ht2 hi g2 hzsz EN hu hd hk0 hv2 hxs (.sl b' off len ad cap l hl hle FM hcap BE) hold hc3 (Mem.Sub.refl m) (by omega) hc1 hc2 ?_
      have By:=Pe (P:=P) (w:=w) (a:=a) (s:=Builtin.append_ c.argTypes o.type (c.args.map a.eval)) ho Bn (fun cs=>rfl)
      rw[aQ hargs,htys,hvv]at By;exact By
    ·exact std h
   ·exact std h
  ·exact std h
 ·
  rename_i k bytes z s y;split at h<;>first|(cases h; done)|skip
  rename_i b' off len kx nn hs hy;split at h<;>first|(cases h; done)|skip
  rename_i hbb;obtain⟨rfl,hn0⟩:=hbb;split at h<;>first|(cases h; done)|skip
  rename_i olds hold;split at h<;>first|(cases h; done)|skip
  rename_i hcond;obtain⟨hN,hc1,hc2,hc3⟩:=hcond;injection h with h
  injection h with h1 h2
  subst h1; subst h2;refine⟨rfl,fun W Φ ρ a w K Q hH ht hr hn hlt hK=>?_⟩
  obtain⟨c,os,ox,ty,u,kk,ho,Bn,hargs,htys,he,hos,hox,hu⟩:=Z66 hop;obtain⟨e,i,ht2,hi,hsz,hb,hz,hzl,hk0⟩:=RW he;obtain⟨i',zv,y',g1,g2,g3,g4,g5⟩:=OT hz Φ ρ;rw[hi]at g1; injection g1 with g1; subst g1
  have FN:=g3.BJ g4;subst hsz; subst hb;have Gk:=Q1 ht hos;have hv2:=Q1 ht hox;rw[hs]at Gk;rw[hy]at hv2;have hv2':=F5 hv2;obtain⟨l,hl,hex⟩:=hH;simp only at hex;generalize hvv:a.eval os=vv at Gk;cases Gk with
  | sl _ _ _ ad cap l' hl' hle FM hcap BE=>
   rw[hl]at hl'; injection hl' with hl'; subst hl'
   refine aT hF (fun c' hc'=>by rw[ho]at hc'; cases hc') ?_ hK
   refine Z9m (aa:=ad) (len:=len) (cap:=cap) (nn:=nn.toNat) (kx:=kx) (ty:=o.type) hr hn hlt ht2 hi g2 FN g5 hzl hu hk0 (.sl b' off len ad cap l hl hle FM hcap BE) hold hc3 (by omega) hc1 hc2 ?_
   have By:=Pe (P:=P) (w:=w) (a:=a) (s:=Builtin.append_ c.argTypes o.type (c.args.map a.eval)) ho Bn (fun cs=>rfl)
   rw[aQ hargs,htys,hvv,hv2']at By
   grind
 ·exact std h
end
end Go.AE
