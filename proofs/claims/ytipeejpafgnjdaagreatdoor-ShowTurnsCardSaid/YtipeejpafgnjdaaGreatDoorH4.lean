/- Part 4 of the proof: AeHa, AeHb. -/
import Derived.Test.YtipeejpafgnjdaaGreatDoorH3
import Derived.Lib.Overlaps
set_option linter.all false
section
namespace Go.AE
open Go.RowKit
section
variable {F:Fence} {n:Nat} {P:Program} {W:Base} {Φ:Pers} {ρ:Rho} {id:Nat} {w:World} {m m':Mem} {x:AVal} {a:Act} {t:List AVal}
theorem Zq2{o:Oper}{op:AOp}(ho:P8 P o=op)(hop:(match op with | .capSl _ | .append _ _ _ _ _ | .appendZ _ _ _ _ _=>True|_=>False)):∃ c,o.op=.call c∧Zcn P c=some op:=by
 unfold P8 at ho;cases hc:cOp P o with
 | none=>rw[hc]at ho; simp only[Option.getD_none]at ho; subst ho; exact hop.elim
 | some op'=>
  rw[hc]at ho;simp only[Option.getD_some]at ho;subst ho;unfold cOp at hc;split at hc<;>first|(cases hc; done)|skip
  case h_26 c hoc=>exact ⟨c,hoc,hc⟩
  all_goals (try simp only[Option.map_eq_some_iff]at hc)
  all_goals (repeat' (split at hc<;>first|(cases hc; done)|skip))
  all_goals (try simp only[Option.map_eq_some_iff]at hc)
  all_goals (first|(obtain ⟨_,_,hc⟩:=hc; subst hc; exact hop.elim)|(injection hc with hc; subst hc; exact hop.elim)|skip)
theorem Zne(hF:Open F){o:Oper}(hnd:∀ c,o.op≠.defer c){K:Act→World→Prop}{Q:Exit→Act→World→Prop}(h:Done P (execOp a.eval o) W Φ ρ id w x m')
 (hK:∀ Φ' ρ' u w',Ext Φ ρ Φ' ρ'→(∀ b,b≠id→ρ b=none→ρ' b=none)→Rel W Φ' ρ' m' w'→R Φ' ρ' x u→K (a.put o.dst u) w'):o.wpIn F n P a w K Q:=by
 refine Zzz hF hnd ?_;obtain⟨v,w',Φ',ρ',hrun,he,hk,hr',hx⟩:=h;unfold Oper.wp;rcases hrun with hrun|⟨hrun,rfl⟩
 ·rw[hrun];exact hK _ _ _ _ he hk hr' hx
 ·rw[hrun];exact hK _ _ _ _ he hk hr' hx
theorem Yfa{o:Oper}{y:AOpd}(ht:RL Φ ρ t a.tmps)(ho:P8 P o=.capSl y){b off len:Nat}(hy:ev t y=.sl b off len) :
 (∀ c,o.op≠.defer c) ∧ ∃ l cap,ρ b=some l∧l.sh+off+cap=l.n∧(execOp a.eval o).run P w=.ok (.value (.int .i64 (cap:Nat))) w:=by
 obtain⟨c,hop,hc⟩:=Zq2 ho trivial;refine⟨(fun c' h'=>by rw[hop]at h'; cases h'),?_⟩
 unfold Zcn at hc;split at hc<;>first|(cases hc; done)|skip
 all_goals (repeat' (split at hc<;>first|(cases hc; done)|skip))
 all_goals (try (injection hc with hc; cases hc; done))
 rename_i hcal _ _ xx tt hargs htys _ _ e y' hu hy';injection hc with hc
 injection hc with hc
 subst hc;have hR:=T4 ht hy';rw[hy]at hR;generalize hvv:a.eval xx=vv at hR;cases hR with
 | sl _ _ _ ad cap l hl hle hn hcap hav=>
  refine⟨l,cap,hl,hn,?_⟩;have htys':c.argTypes = #[tt]:=by rw[← Array.toList_inj]; exact htys
  have h1:(Builtin.cap_ c.argTypes o.type (c.args.map a.eval)).run P w=.ok (.int .i64 (cap:Nat)) w:=by
   rw[Zo7 hargs,htys',hvv];unfold Builtin.cap_;simp only[Sem.run_bind,List.getElem?_toArray,List.getElem?_cons_zero,W8 hu,Result.andThen_ok];rfl
  exact Zeb hop hcal (fun cs=>rfl) _ _ h1
theorem Z0l{t e u ty:TypeId}{i:TypeInfo}{kk:IntKind}{z:Value}{base:Option Addr}{len cap n:Nat}{kx:IntKind}{old:Array Value}(ht:P.underlying t=some (.slice e))(hi:P.info? e=some i)(hz:i.zero=some z)(hu:P.underlying u=some (.int kk))
 (hzs:z.cells.size=i.size) (hk0:0<i.size)
 (ho:(Builtin.firstCells i.size len (.slice base len cap)).run P w.drew=.ok old w.drew) (hlt:cap<len+n) (hroom:len+n≤X4) (hb:i.bytes≤X4) :
 ∃ nc,len+n≤nc∧(Builtin.append_ #[t,u] ty #[.slice base len cap,.int kx (n:Nat)]).run P w =
  .ok (.slice (some ⟨w.drew.heap.size,0,none⟩) (len+n) nc) (w.drew.alloc (.cells (old++Builtin.zeroCells z.cells n++Builtin.zeroCells z.cells (nc - (len+n))) e)):=by
 have hq:(Question.appendCap (len+n) cap e).forced=false:=rfl;refine⟨(Question.appendCap (len+n) cap e).cut (w.tape w.drawn (.appendCap (len+n) cap e)),by simp only[Question.cut]; omega,?_⟩
 generalize hnc:(Question.appendCap (len+n) cap e).cut (w.tape w.drawn (.appendCap (len+n) cap e))=nc;unfold X4 at hroom hb;have hcap:=Zx1 hlt;have hmul:Builtin.nextslicecap (len+n) cap*i.bytes≤(2*1048576+768)*1048576:=Nat.mul_le_mul (by omega) hb
 have hmax:IntKind.i64.max=9223372036854775807:=by decide
 have hwrap:IntKind.i64.wrap (n:Int)=n:=by
  have hm:=IntKind.i64;rw[show IntKind.i64.wrap (n:Int)=(n:Int) from ?_]
  simp only[IntKind.wrap,IntKind.bits,IntKind.signed]
  first|omega|(simp; omega)
 have hnb:(n:Int)*(i.bytes:Int)≤2 ^ 48:=by
  have h1:n*i.bytes≤1048576*1048576:=Nat.mul_le_mul (by omega) hb
  have h2:((n*i.bytes:Nat):Int)≤((1048576*1048576:Nat):Int):=Int.ofNat_le.2 h1;rw[Int.natCast_mul]at h2;omega
 have happ:∀ w',(if n*i.size=0 then (pure #[]:Sem (Array Value))else do pure (Builtin.zeroCells (← zeroValue e).cells n)).run P w'=.ok (Builtin.zeroCells z.cells n) w':=by
  intro w';split
  ·rename_i h0;have hn0:n=0:=by
    rcases Nat.mul_eq_zero.1 h0 with h|h
    ·exact h
    ·omega
   subst hn0;simp[Builtin.zeroCells]
  ·simp only[Sem.run_bind,Zdv hi hz,Result.andThen_ok,Sem.run_pure]
 have e1:(Builtin.append_ #[t,u] ty #[.slice base len cap,.int kx (n:Nat)]).run P w=((do
  let newCap ← choose (.appendCap (len+n) cap e)
  askRoom (newCap*i.bytes)
  let old ← Builtin.firstCells i.size len (.slice base len cap)
  let new ← (if n*i.size=0 then pure #[]else do pure (Builtin.zeroCells (← zeroValue e).cells n):Sem (Array Value))
  let rest:=Builtin.zeroCells (← zeroValue e).cells (newCap - (len+n))
  pure (Value.slice (some (← newRow e (old++new++rest))) (len+n) newCap):Sem Value)).run P w:=by
  unfold Builtin.append_;simp only[Sem.run_bind,List.getElem?_toArray,List.getElem?_cons_zero,List.getElem?_cons_succ,W8 ht,Result.andThen_ok,E8 hi,W8 hu];simp only[Sem.run_bind,Sem.run_pure,Result.andThen_ok,if_true,asInt,asIntOf,hwrap];rw[if_neg (by omega)]
  simp only[Sem.run_bind,Zb5 hi,Result.andThen_ok];rw[if_neg (by omega)]
  simp only[Sem.run_bind,Sem.run_pure,Result.andThen_ok,Int.toNat_natCast];rw[if_neg (by omega)]
  simp only[Sem.run_bind,Zb5 hi,Result.andThen_ok,hmax];rw[if_neg (by omega)]
  simp only[Sem.run_bind,Zb5 hi,Result.andThen_ok];rw[if_neg (by omega)]
  simp only[Sem.run_bind,Zb5 hi,Result.andThen_ok,Bool.not_true,bF,if_false];rfl
 rw[e1];simp only[Sem.run_bind,run_choose,hq,bF,if_false,Result.andThen_ok,run_askRoom,hnc];have hw:({ w with drawn:=w.drawn+1 }:World)=w.drew:=rfl
 rw[hw];simp only[ho,happ,Result.andThen_ok,Zdv hi hz,newRow,Sem.run_bind,run_newObj,Sem.run_pure];rfl
end
end Go.AE
end
section
namespace Go.AE
open Go.RowKit
def HEx(b N:Nat)(ex:Bool):HypW:=fun _ _ ρ=>∃ l,ρ b=some l∧(match ex with|true=>l.n=l.sh+N|false=>l.sh+N≤l.n)
theorem HEx.mono{b N:Nat}{ex:Bool}:(HEx b N ex).Mono:=fun _ _ _ _ _ ⟨l,h1,h2⟩ he=>⟨l,he.rho _ _ h1,h2⟩
def stX(b N:Nat)(ex:Bool):StepA:=fun id t m op=>
 match op with
 | .capSl x=>match ev t x with
  | .sl b' off _=>if b'=b∧off≤N then some (match ex with|true=>.int .i64 ((N - off:Nat):Int)|false=>.atLeast (N - off),m)else none
  | _=>none
 | .bin .gtr e x y=>match ev t y with
  | .atLeast k=>match ev t x with
   | .int .i64 c=>if c≤k then some (.bool false,m)else none
   | _=>none
  | _=>stepA id t m (.bin .gtr e x y)
 | .append k bytes z s x=>match ex,ev t s with
  | true,.sl b' off len=>if b'=b then match O4 m k (ev t x),L3 m k (.sl b' off len)with
   | some xs,some olds=>if N<off+len+xs.length then (if len+xs.length≤X4∧bytes≤X4∧olds.length=len then some (.sl id 0 (len+xs.length),m.set id (.cells k (olds++xs)))else none)else stepA id t m (.append k bytes z s x)
   | _,_=>none
   else stepA id t m (.append k bytes z s x)
  | _,_=>stepA id t m (.append k bytes z s x)
 | .appendZ k bytes z s x=>match ex,ev t s,ev t x with
  | true,.sl b' off len,.int _ n=>if b'=b∧0≤n then match L3 m k (.sl b' off len)with
   | some olds=>if N<off+len+n.toNat∧len+n.toNat≤X4∧bytes≤X4∧olds.length=len then some (.sl id 0 (len+n.toNat),m.set id (.cells k (olds++List.replicate n.toNat z)))else none
   | none=>none
   else none
  | _,_,_=>none
 | op=>stepA id t m op
section
variable {F:Fence} {n:Nat} {P:Program} {W:Base} {Φ:Pers} {ρ:Rho} {id:Nat} {w:World} {m m':Mem} {x:AVal} {a:Act} {t:List AVal}
theorem Z7e{o:Oper}{op:BinOp}{e:EqT}{x' y':AOpd}(ho:P8 P o=.bin op e x' y'):∃ ty x y ty2,o.op=.binOp op ty x y ty2∧Y5 x=some x'∧Y5 y=some y'∧cEq P ty=some e:=by
 unfold P8 at ho;cases hc:cOp P o with
 | none=>rw[hc]at ho; cases ho
 | some op'=>
  rw[hc]at ho;simp only[Option.getD_some]at ho;subst ho;unfold cOp at hc;split at hc<;>first|(cases hc; done)|skip
  case h_26 c hoc=>
   exfalso;unfold Zcn at hc;split at hc<;>first|(cases hc; done)|skip
   all_goals (repeat' (split at hc<;>first|(cases hc; done)|skip))
   all_goals (injection hc with hc; cases hc)
  all_goals (try simp only[Option.map_eq_some_iff]at hc)
  all_goals (repeat' (split at hc<;>first|(cases hc; done)|skip))
  all_goals (try simp only[Option.map_eq_some_iff]at hc)
  all_goals (first|(obtain ⟨_,_,hc⟩:=hc; cases hc; done)|(injection hc with hc; cases hc; done)|skip)
  all_goals (rename_i hop _ _ _ _ _ _ hx hy he; injection hc with hc; cases hc; exact⟨_,_,_,_,hop,hx,hy,he⟩)
theorem Ya2{o:Oper}{k b:Nat}{z:List AVal}{s' x':AOpd}(ho:P8 P o=.append k b z s' x'):∃ c s x t u d,o.op=.call c∧c.callee=.builtin .append∧c.args.toList=[s,x]∧c.argTypes = #[t,u]∧Zab P t=some (k,b,z)∧Y5 s=some s'∧Y5 x=some x' ∧
 P.underlying u=some d ∧ ∀ k,d≠.int k:=by
 obtain⟨c,hop,hc⟩:=Zq2 ho trivial;unfold Zcn at hc;split at hc<;>first|(cases hc; done)|skip
 all_goals (try (split at hc<;>first|(cases hc; done)|(injection hc with hc; cases hc; done)))
 ·rename_i hcal;split at hc<;>first|(cases hc; done)|skip
  rename_i s xx tt u hargs htys;split at hc<;>first|(cases hc; done)|skip
  rename_i k0 b0 z0 s0 x0 he hs' hx';split at hc<;>first|(cases hc; done)|skip
  ·rename_i d hd hdu;injection hc with hc
   cases hc;exact⟨c,s,xx,tt,u,d,hop,hcal,hargs,by rw[← Array.toList_inj]; exact htys,he,hs',hx',hdu,fun k hk=>hd k hk⟩
 all_goals (repeat' (split at hc<;>first|(cases hc; done)|skip))
 all_goals (injection hc with hc; cases hc)
theorem Z8r{o:Oper}{k b:Nat}{z:List AVal}{s' x':AOpd}(ho:P8 P o=.appendZ k b z s' x'):∃ c s x t u kk,o.op=.call c∧c.callee=.builtin .append∧c.args.toList=[s,x]∧c.argTypes = #[t,u]∧Zab P t=some (k,b,z)∧Y5 s=some s'∧Y5 x=some x' ∧
 P.underlying u=some (.int kk):=by
 obtain⟨c,hop,hc⟩:=Zq2 ho trivial;unfold Zcn at hc;split at hc<;>first|(cases hc; done)|skip
 all_goals (try (split at hc<;>first|(cases hc; done)|(injection hc with hc; cases hc; done)))
 ·rename_i hcal;split at hc<;>first|(cases hc; done)|skip
  rename_i s xx tt u hargs htys;split at hc<;>first|(cases hc; done)|skip
  rename_i k0 b0 z0 s0 x0 he hs' hx';split at hc<;>first|(cases hc; done)|skip
  ·rename_i kk hdu;injection hc with hc
   cases hc;exact⟨c,s,xx,tt,u,kk,hop,hcal,hargs,by rw[← Array.toList_inj]; exact htys,he,hs',hx',hdu⟩
 all_goals (repeat' (split at hc<;>first|(cases hc; done)|skip))
 all_goals (injection hc with hc; cases hc)
theorem Z8t{s:Sem Next}{t e u ty:TypeId}{i:TypeInfo}{kk kx:IntKind}{zv:Value}{z:List AVal}{aa:Option Addr}{len cap nn:Nat}(hr:Rel W Φ ρ m w)(hn:ρ id=none)(hlt:id<m.next)(ht:P.underlying t=some (.slice e))(hi:P.info? e=some i)(hz:i.zero=some zv)(hzc:RL Φ ρ z zv.cells)(hz5:z.all AVal.one=true)(hzl:z.length=i.size)
 (hu:P.underlying u=some (.int kk)) (hk0:0<i.size)
 {ys:AVal} {olds:List (List AVal)} (hy:R Φ ρ ys (.slice aa len cap)) (hold:O4 m i.size ys=some olds) (hol:olds.length=len) (hnc:cap<len+nn) (hroom:len+nn≤X4) (hb:i.bytes≤X4)
 (hs:∀ u' w',(Builtin.append_ #[t,u] ty #[.slice aa len cap,.int kx (nn:Nat)]).run P w=.ok u' w'→s.run P w=.ok (.value u') w') :
 Done P s W Φ ρ id w (.sl id 0 (len+nn)) (m.set id (.cells i.size (olds++List.replicate nn z))):=by
 obtain⟨old,ho1,ho2,ho3,ho4⟩:=Zeh hr.drew hy hold hk0;have hold2:(Builtin.firstCells i.size len (.slice aa len cap)).run P w.drew=.ok old w.drew:=by
  rw[ho2 len (by omega)]
  congr 1
  have:old.size=len*i.size:=by rw[ho3,hol]
  rw[← this]; simp
 have hzs:zv.cells.size=i.size:=by rw[hzc.1,hzl]
 have hz1:=Zk4 hzc hz5;obtain⟨nc,hnc2,hrun⟩:=Z0l (P:=P) (ty:=ty) (base:=aa) (len:=len) (cap:=cap) (kx:=kx) (old:=old) ht hi hz hu hzs hk0 hold2 hnc hroom hb;have hzero:Builtin.zeroCells zv.cells nn=(Array.range (nn*i.size)).map fun q=>zv.cells[q % zv.cells.size]!:=by simp only[Builtin.zeroCells,hzs]
 have hrown:=Zjb (len:=nn) hzc hz5 hzl hk0;have hzsz:(Builtin.zeroCells zv.cells nn).size=(List.replicate nn z).length*i.size:=by rw[hzero]; simp
 rw[← hzero]at hrown;refine Zkm (cap:=nc) (w1:=w.drew) hr.drew hn hlt hnc2 (by simp only[List.length_append,hol,List.length_replicate]; exact hnc2) ?_ ?_ ?_ (hs _ _ hrun)
 ·exact Zww (by rw[ho3,hol]) (by rw[hzsz]; simp) hzs hnc2
 ·exact Zs3 ho4 ho3 hrown hzsz
 ·intro u hu;simp only[Array.toList_append,List.mem_append]at hu;rcases hu with(hu|hu)|hu
  ·exact Zae ho4 ho3 hk0 u hu
  ·exact Zqh hz1 hzs hk0 u hu
  ·exact Zqh hz1 hzs hk0 u hu
theorem Zy6(hF:Open F)(b N:Nat)(ex:Bool):StOk F n (HEx b N ex) P (stX b N ex):=by
 intro o id t m x m' h;have std:stepA id t m (P8 P o)=some (x,m')→m'.next=m.next ∧
  ∀(W:Base) (Φ:Pers) (ρ:Rho) (a:Act) (w:World) (K:Act→World→Prop) (Q:Exit→Act→World→Prop),HEx b N ex W Φ ρ→RL Φ ρ t a.tmps→Rel W Φ ρ m w→ρ id=none→id<m.next →
   (∀ Φ' ρ' u w',Ext Φ ρ Φ' ρ'→(∀ b,b≠id→ρ b=none→ρ' b=none)→Rel W Φ' ρ' m' w'→R Φ' ρ' x u→K (a.put o.dst u) w')→o.wpIn F n P a w K Q:=
  fun hs=>Zg0 hF o id t m x m' hs
 generalize hop:P8 P o=op at h std;unfold stX at h;split at h
 ·
  rename_i y;split at h<;>first|(cases h; done)|skip
  rename_i b' off len hy;split at h<;>first|(cases h; done)|skip
  rename_i hcond;obtain⟨rfl,hoN⟩:=hcond;injection h with h
  injection h with h1 h2
  subst h2;refine⟨rfl,fun W Φ ρ a w K Q hH ht hr hn hlt hK=>?_⟩
  obtain⟨hnd,l,cap,hl,hcn,hrun⟩:=Yfa (w:=w) ht hop hy;obtain⟨l',hl',hx⟩:=hH;rw[hl]at hl'; injection hl' with hl'; subst hl'
  refine Zne hF hnd (Done.val hrun hr ?_) hK;cases ex with
  | true=>
   simp only at hx h1;subst h1;have:cap=N - off:=by omega
   rw[this];exact .int _ _
  | false=>
   simp only at hx h1;subst h1;exact .atLeast _ _ (by omega)
 ·
  rename_i e y z;split at h
  ·rename_i k hz;split at h<;>first|(cases h; done)|skip
   rename_i c hy;split at h<;>first|(cases h; done)|skip
   rename_i hck;injection h with h
   injection h with h1 h2
   subst h1; subst h2;refine⟨rfl,fun W Φ ρ a w K Q hH ht hr hn hlt hK=>?_⟩
   obtain⟨ty,ox,oy,ty2,ho,hx,hyy,he⟩:=Z7e hop;have hv1:=T4 ht hx;have hv2:=T4 ht hyy;rw[hy]at hv1;rw[hz]at hv2;generalize hvv:a.eval oy=vv at hv2;cases hv2 with
   | atLeast _ c2 hc2=>
    have hb:X6 .gtr e (.int .i64 c) (.int .i64 c2)=some (.bool false):=by
     have hlt:¬((c2:Int)<c):=by omega
     simp[X6,V4,hlt]
    refine Zne hF (fun c' hc'=>by rw[ho]at hc'; cases hc') ?_ hK
    have:=Done.ofV (id:=id) hr (Zr6 (w:=w) (P:=P) (ox:=ox) (oy:=oy) he hb hv1 (R.int (Φ:=Φ) (ρ:=ρ) .i64 c2));rw[← hvv]at this;have e2:execOp a.eval o=(do let u ← (do eqGuard .gtr ty ox oy (a.eval ox) (a.eval oy); binOp .gtr ty (a.eval ox) (a.eval oy):Sem Value); pure (Next.value u)):=by
     unfold execOp;rw[ho]
    rw[e2];exact this
  ·exact std h
 ·
  rename_i k bytes z s y;split at h
  ·rename_i b' off len hs;split at h
   ·rename_i hbb;subst hbb;split at h<;>first|(cases h; done)|skip
    rename_i xs olds hxs hold;split at h
    ·rename_i hN;split at h<;>first|(cases h; done)|skip
     rename_i hcond;obtain⟨hc1,hc2,hc3⟩:=hcond;injection h with h
     injection h with h1 h2
     subst h1; subst h2;refine⟨rfl,fun W Φ ρ a w K Q hH ht hr hn hlt hK=>?_⟩
     obtain⟨c,os,ox,ty,u,d,ho,hcal,hargs,htys,he,hos,hox,hu,hd⟩:=Ya2 hop;obtain⟨e,i,ht2,hi,hsz,hb,hz,hzl,hk0⟩:=Zgh he;obtain⟨i',zv,y',g1,g2,g3,g4,g5⟩:=Zeo hz Φ ρ;rw[hi]at g1; injection g1 with g1; subst g1
     have hzc:=g3.cells_R g4;have hzsz:zv.cells.size=i.size:=by rw[hzc.1,hzl,hsz]
     have hz1:=Zk4 hzc g5;subst hsz; subst hb;have hv1:=T4 ht hos;have hv2:=T4 ht hox;rw[hs]at hv1;obtain⟨l,hl,hex⟩:=hH;simp only at hex;generalize hvv:a.eval os=vv at hv1;cases hv1 with
     | sl _ _ _ ad cap l' hl' hle hcn hcap hav=>
      rw[hl]at hl'; injection hl' with hl'; subst hl'
      refine Zne hF (fun c' hc'=>by rw[ho]at hc'; cases hc') ?_ hK
      refine Zo1 (a:=ad) (len:=len) (cap:=cap) (m0:=m) (ty:=o.type) hr hn hlt ht2 hi g2 hzsz hz1 hu hd hk0 hv2 hxs (.sl b' off len ad cap l hl hle hcn hcap hav) hold hc3 (Mem.Sub.refl m) (by omega) hc1 hc2 ?_
      have hb2:=Zeb (P:=P) (w:=w) (a:=a) (s:=Builtin.append_ c.argTypes o.type (c.args.map a.eval)) ho hcal (fun cs=>rfl)
      rw[Znc hargs,htys,hvv]at hb2;exact hb2
    ·exact std h
   ·exact std h
  ·exact std h
 ·
  rename_i k bytes z s y;split at h<;>first|(cases h; done)|skip
  rename_i b' off len kx nn hs hy;split at h<;>first|(cases h; done)|skip
  rename_i hbb;obtain⟨rfl,hn0⟩:=hbb;split at h<;>first|(cases h; done)|skip
  rename_i olds hold;split at h<;>first|(cases h; done)|skip
  rename_i hcond;obtain⟨hN,hc1,hc2,hc3⟩:=hcond;injection h with h
  injection h with h1 h2
  subst h1; subst h2;refine⟨rfl,fun W Φ ρ a w K Q hH ht hr hn hlt hK=>?_⟩
  obtain⟨c,os,ox,ty,u,kk,ho,hcal,hargs,htys,he,hos,hox,hu⟩:=Z8r hop;obtain⟨e,i,ht2,hi,hsz,hb,hz,hzl,hk0⟩:=Zgh he;obtain⟨i',zv,y',g1,g2,g3,g4,g5⟩:=Zeo hz Φ ρ;rw[hi]at g1; injection g1 with g1; subst g1
  have hzc:=g3.cells_R g4;subst hsz; subst hb;have hv1:=T4 ht hos;have hv2:=T4 ht hox;rw[hs]at hv1;rw[hy]at hv2;have hv2':=L4 hv2;obtain⟨l,hl,hex⟩:=hH;simp only at hex;generalize hvv:a.eval os=vv at hv1;cases hv1 with
  | sl _ _ _ ad cap l' hl' hle hcn hcap hav=>
   rw[hl]at hl'; injection hl' with hl'; subst hl'
   refine Zne hF (fun c' hc'=>by rw[ho]at hc'; cases hc') ?_ hK
   refine Z8t (aa:=ad) (len:=len) (cap:=cap) (nn:=nn.toNat) (kx:=kx) (ty:=o.type) hr hn hlt ht2 hi g2 hzc g5 hzl hu hk0 (.sl b' off len ad cap l hl hle hcn hcap hav) hold hc3 (by omega) hc1 hc2 ?_
   have hb2:=Zeb (P:=P) (w:=w) (a:=a) (s:=Builtin.append_ c.argTypes o.type (c.args.map a.eval)) ho hcal (fun cs=>rfl)
   rw[Znc hargs,htys,hvv,hv2']at hb2;rw[Int.toNat_of_nonneg hn0];exact hb2
 ·exact std h
end
end Go.AE
end
