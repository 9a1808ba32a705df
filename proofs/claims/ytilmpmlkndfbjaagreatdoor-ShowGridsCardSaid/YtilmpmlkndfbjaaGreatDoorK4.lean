/- Part 4 of the proof: AeHa, AeHb. -/
import Derived.Test.YtilmpmlkndfbjaaGreatDoorK3
import Derived.Lib.Overlaps
set_option linter.all false
section
namespace Go.AE
open Go.RowKit
section
variable {F:Fence} {n:Nat} {P:Program} {W:Ap} {Φ:Ao} {ρ:AD} {id:Nat} {w:World} {m m':Mem} {x:Aa} {a:Act} {t:List Aa}
theorem YL{o:Oper}{op:AQ}(ho:Q0 P o=op)(hop:(match op with | .CO _ | .append _ _ _ _ _ | .Bs _ _ _ _ _=>True|_=>False)):∃ c,o.op=.call c∧Ix P c=some op:=by
 unfold Q0 at ho;cases hc:Gu P o with
 | none=>rw[hc]at ho; simp only[Option.getD_none]at ho; subst ho; exact hop.elim
 | some op'=>
  rw[hc]at ho;simp only[Option.getD_some]at ho;subst ho;unfold Gu at hc;split at hc<;>first|(cases hc; done)|skip
  case h_26 c hoc=>exact ⟨c,hoc,hc⟩
  all_goals (try simp only[mO]at hc)
  all_goals (repeat' (split at hc<;>first|(cases hc; done)|skip))
  all_goals (try simp only[mO]at hc)
  all_goals (first|(obtain ⟨_,_,hc⟩:=hc; subst hc; exact hop.elim)|(injection hc with hc; subst hc; exact hop.elim)|skip)
theorem WI(hF:Open F){o:Oper}(Ob:∀ c,o.op≠.defer c){K:Act→World→Prop}{Q:Exit→Act→World→Prop}(h:AB P (execOp a.eval o) W Φ ρ id w x m')
 (hK:∀ Am ρ' u w',Ext Φ ρ Am ρ'→(∀ b,b≠id→ρ b=none→ρ' b=none)→Rel W Am ρ' m' w'→R Am ρ' x u→K (a.put o.dst u) w'):o.wpIn F n P a w K Q:=by
 refine nQ hF Ob ?_;obtain⟨v,w',Am,ρ',hrun,he,hk,hr',hx⟩:=h;unfold Oper.wp;rcases hrun with hrun|⟨hrun,rfl⟩
 ·rw[hrun];exact hK _ _ _ _ he hk hr' hx
 ·rw[hrun];exact hK _ _ _ _ he hk hr' hx
theorem u6{o:Oper}{y:Ah}(ht:RL Φ ρ t a.tmps)(ho:Q0 P o=.CO y){b off len:Nat}(hy:ev t y=.sl b off len) :
 (∀ c,o.op≠.defer c) ∧ ∃ l cap,ρ b=some l∧l.sh+off+cap=l.n∧(execOp a.eval o).run P w=.ok (.value (.int .i64 (cap:Nat))) w:=by
 obtain⟨c,hop,hc⟩:=YL ho trivial;refine⟨(fun c' h'=>by rw[hop]at h'; cases h'),?_⟩
 unfold Ix at hc;split at hc<;>first|(cases hc; done)|skip
 all_goals (repeat' (split at hc<;>first|(cases hc; done)|skip))
 all_goals (try (injection hc with hc; cases hc; done))
 rename_i Bf _ _ xx tt hargs htys _ _ e y' hu hy';injection hc with hc
 injection hc with hc
 subst hc;have hR:=U8 ht hy';rw[hy]at hR;generalize hvv:a.eval xx=vv at hR;cases hR with
 | sl _ _ _ ad cap l hl hle hn hcap Ch=>
  refine⟨l,cap,hl,hn,?_⟩;have htys':c.argTypes = #[tt]:=by rw[← Array.toList_inj]; exact htys
  have h1:(Builtin.cap_ c.argTypes o.type (c.args.map a.eval)).run P w=.ok (.int .i64 (cap:Nat)) w:=by
   rw[cD hargs,htys',hvv];unfold Builtin.cap_;simp only[Sem.run_bind,List.getElem?_toArray,List.getElem?_cons_zero,V1 hu,Result.andThen_ok];rfl
  exact LN hop Bf (fun cs=>rfl) _ _ h1
theorem za{t e u ty:TypeId}{i:TypeInfo}{kk:IntKind}{z:Value}{base:Option Addr}{len cap n:Nat}{kx:IntKind}{old:Array Value}(ht:P.underlying t=some (.slice e))(hi:P.info? e=some i)(hz:i.zero=some z)(hu:P.underlying u=some (.int kk))
 (hzs:z.cells.size=i.size) (hk0:0<i.size)
 (ho:(Builtin.firstCells i.size len (.slice base len cap)).run P w.drew=.ok old w.drew) (hlt:cap<len+n) (hroom:len+n≤W6) (hb:i.bytes≤W6) :
 ∃ nc,len+n≤nc∧(Builtin.append_ #[t,u] ty #[.slice base len cap,.int kx (n:Nat)]).run P w =
  .ok (.slice (some ⟨w.drew.heap.size,0,none⟩) (len+n) nc) (w.drew.alloc (.cells (old++Builtin.zeroCells z.cells n++Builtin.zeroCells z.cells (nc - (len+n))) e)):=by
 have hq:(Question.appendCap (len+n) cap e).forced=false:=rfl;refine⟨(Question.appendCap (len+n) cap e).cut (w.tape w.drawn (.appendCap (len+n) cap e)),by simp only[Question.cut]; omega,?_⟩
 generalize hnc:(Question.appendCap (len+n) cap e).cut (w.tape w.drawn (.appendCap (len+n) cap e))=nc;unfold W6 at hroom hb;have hcap:=vL hlt;have hmul:Builtin.nextslicecap (len+n) cap*i.bytes≤(2*1048576+768)*1048576:=Nat.mul_le_mul (by omega) hb
 have hmax:IntKind.i64.max=9223372036854775807:=by decide
 have hwrap:IntKind.i64.wrap (n:Int)=n:=by
  have hm:=IntKind.i64;rw[show IntKind.i64.wrap (n:Int)=(n:Int) from ?_]
  simp only[IntKind.wrap,IntKind.bits,IntKind.signed]
  first|omega|(simp; omega)
 have hnb:(n:Int)*(i.bytes:Int)≤2 ^ 48:=by
  have h1:n*i.bytes≤1048576*1048576:=Nat.mul_le_mul (by omega) hb
  have h2:((n*i.bytes:Nat):Int)≤((1048576*1048576:Nat):Int):=Int.ofNat_le.2 h1;rw[Int.natCast_mul]at h2;omega
 have happ:∀ w',(if n*i.size=0 then (pure #[]:Sem (Array Value))else do pure (Builtin.zeroCells (← zeroValue e).cells n)).run P w'=.ok (Builtin.zeroCells z.cells n) w':=by
  intro w';split
  ·rename_i h0;have hn0:n=0:=by
    rcases Nat.mul_eq_zero.1 h0 with h|h
    ·exact h
    ·omega
   subst hn0;simp[Builtin.zeroCells]
  ·simp only[Sem.run_bind,Kh hi hz,Result.andThen_ok,Sem.run_pure]
 have e1:(Builtin.append_ #[t,u] ty #[.slice base len cap,.int kx (n:Nat)]).run P w=((do
  let newCap ← choose (.appendCap (len+n) cap e)
  askRoom (newCap*i.bytes)
  let old ← Builtin.firstCells i.size len (.slice base len cap)
  let new ← (if n*i.size=0 then pure #[]else do pure (Builtin.zeroCells (← zeroValue e).cells n):Sem (Array Value))
  let rest:=Builtin.zeroCells (← zeroValue e).cells (newCap - (len+n))
  pure (Value.slice (some (← newRow e (old++new++rest))) (len+n) newCap):Sem Value)).run P w:=by
  unfold Builtin.append_;simp only[Sem.run_bind,List.getElem?_toArray,List.getElem?_cons_zero,List.getElem?_cons_succ,V1 ht,Result.andThen_ok,G8 hi,V1 hu];simp only[Sem.run_bind,Sem.run_pure,Result.andThen_ok,if_true,asInt,asIntOf,hwrap];rw[iN (by omega)]
  simp only[Sem.run_bind,Ju hi,Result.andThen_ok];rw[iN (by omega)]
  simp only[Sem.run_bind,Sem.run_pure,Result.andThen_ok,Int.toNat_natCast];rw[iN (by omega)]
  simp only[Sem.run_bind,Ju hi,Result.andThen_ok,hmax];rw[iN (by omega)]
  simp only[Sem.run_bind,Ju hi,Result.andThen_ok];rw[iN (by omega)]
  simp only[Sem.run_bind,Ju hi,Result.andThen_ok,Bool.not_true,bF,if_false];rfl
 rw[e1];simp only[Sem.run_bind,run_choose,hq,bF,if_false,Result.andThen_ok,run_askRoom,hnc];have hw:({ w with drawn:=w.drawn+1 }:World)=w.drew:=rfl
 rw[hw];simp only[ho,happ,Result.andThen_ok,Kh hi hz,newRow,Sem.run_bind,run_newObj,Sem.run_pure];rfl
end
end Go.AE
end
section
namespace Go.AE
open Go.RowKit
def Qz(b N:Nat)(ex:Bool):Dn:=fun _ _ ρ=>∃ l,ρ b=some l∧(match ex with|true=>l.n=l.sh+N|false=>l.sh+N≤l.n)
theorem Qz.mono{b N:Nat}{ex:Bool}:(Qz b N ex).Gc:=fun _ _ _ _ _ ⟨l,h1,h2⟩ he=>⟨l,he.Fy _ _ h1,h2⟩
def XS(b N:Nat)(ex:Bool):CN:=fun id t m op=>
 match op with
 | .CO x=>match ev t x with
  | .sl b' off _=>if b'=b∧off≤N then some (match ex with|true=>.int .i64 ((N - off:Nat):Int)|false=>.atLeast (N - off),m)else none
  | _=>none
 | .bin .gtr e x y=>match ev t y with
  | .atLeast k=>match ev t x with
   | .int .i64 c=>if c≤k then some (.bool false,m)else none
   | _=>none
  | _=>Ae id t m (.bin .gtr e x y)
 | .append k bytes z s x=>match ex,ev t s with
  | true,.sl b' off len=>if b'=b then match O9 m k (ev t x),J7 m k (.sl b' off len)with
   | some xs,some olds=>if N<off+len+xs.length then (if len+xs.length≤W6∧bytes≤W6∧olds.length=len then some (.sl id 0 (len+xs.length),m.set id (.cells k (olds++xs)))else none)else Ae id t m (.append k bytes z s x)
   | _,_=>none
   else Ae id t m (.append k bytes z s x)
  | _,_=>Ae id t m (.append k bytes z s x)
 | .Bs k bytes z s x=>match ex,ev t s,ev t x with
  | true,.sl b' off len,.int _ n=>if b'=b∧0≤n then match J7 m k (.sl b' off len)with
   | some olds=>if N<off+len+n.toNat∧len+n.toNat≤W6∧bytes≤W6∧olds.length=len then some (.sl id 0 (len+n.toNat),m.set id (.cells k (olds++List.replicate n.toNat z)))else none
   | none=>none
   else none
  | _,_,_=>none
 | op=>Ae id t m op
section
variable {F:Fence} {n:Nat} {P:Program} {W:Ap} {Φ:Ao} {ρ:AD} {id:Nat} {w:World} {m m':Mem} {x:Aa} {a:Act} {t:List Aa}
theorem ye{o:Oper}{op:BinOp}{e:Fi}{x' y':Ah}(ho:Q0 P o=.bin op e x' y'):∃ ty x y ty2,o.op=.binOp op ty x y ty2∧Y7 x=some x'∧Y7 y=some y'∧UL P ty=some e:=by
 unfold Q0 at ho;cases hc:Gu P o with
 | none=>rw[hc]at ho; cases ho
 | some op'=>
  rw[hc]at ho;simp only[Option.getD_some]at ho;subst ho;unfold Gu at hc;split at hc<;>first|(cases hc; done)|skip
  case h_26 c hoc=>
   exfalso;unfold Ix at hc;split at hc<;>first|(cases hc; done)|skip
   all_goals (repeat' (split at hc<;>first|(cases hc; done)|skip))
   all_goals (injection hc with hc; cases hc)
  all_goals (try simp only[mO]at hc)
  all_goals (repeat' (split at hc<;>first|(cases hc; done)|skip))
  all_goals (try simp only[mO]at hc)
  all_goals (first|(obtain ⟨_,_,hc⟩:=hc; cases hc; done)|(injection hc with hc; cases hc; done)|skip)
  all_goals (rename_i hop _ _ _ _ _ _ hx hy he; injection hc with hc; cases hc; exact⟨_,_,_,_,hop,hx,hy,he⟩)
theorem Z8o{o:Oper}{k b:Nat}{z:List Aa}{s' x':Ah}(ho:Q0 P o=.append k b z s' x'):∃ c s x t u d,o.op=.call c∧c.callee=.builtin .append∧c.args.toList=[s,x]∧c.argTypes = #[t,u]∧A6 P t=some (k,b,z)∧Y7 s=some s'∧Y7 x=some x' ∧
 P.underlying u=some d ∧ ∀ k,d≠.int k:=by
 obtain⟨c,hop,hc⟩:=YL ho trivial;unfold Ix at hc;split at hc<;>first|(cases hc; done)|skip
 all_goals (try (split at hc<;>first|(cases hc; done)|(injection hc with hc; cases hc; done)))
 ·rename_i Bf;split at hc<;>first|(cases hc; done)|skip
  rename_i s xx tt u hargs htys;split at hc<;>first|(cases hc; done)|skip
  rename_i k0 b0 z0 s0 x0 he hs' hx';split at hc<;>first|(cases hc; done)|skip
  ·rename_i d hd hdu;injection hc with hc
   cases hc;exact⟨c,s,xx,tt,u,d,hop,Bf,hargs,by rw[← Array.toList_inj]; exact htys,he,hs',hx',hdu,fun k hk=>hd k hk⟩
 all_goals (repeat' (split at hc<;>first|(cases hc; done)|skip))
 all_goals (injection hc with hc; cases hc)
theorem Z8v{o:Oper}{k b:Nat}{z:List Aa}{s' x':Ah}(ho:Q0 P o=.Bs k b z s' x'):∃ c s x t u kk,o.op=.call c∧c.callee=.builtin .append∧c.args.toList=[s,x]∧c.argTypes = #[t,u]∧A6 P t=some (k,b,z)∧Y7 s=some s'∧Y7 x=some x' ∧
 P.underlying u=some (.int kk):=by
 obtain⟨c,hop,hc⟩:=YL ho trivial;unfold Ix at hc;split at hc<;>first|(cases hc; done)|skip
 all_goals (try (split at hc<;>first|(cases hc; done)|(injection hc with hc; cases hc; done)))
 ·rename_i Bf;split at hc<;>first|(cases hc; done)|skip
  rename_i s xx tt u hargs htys;split at hc<;>first|(cases hc; done)|skip
  rename_i k0 b0 z0 s0 x0 he hs' hx';split at hc<;>first|(cases hc; done)|skip
  ·rename_i kk hdu;injection hc with hc
   cases hc;exact⟨c,s,xx,tt,u,kk,hop,Bf,hargs,by rw[← Array.toList_inj]; exact htys,he,hs',hx',hdu⟩
 all_goals (repeat' (split at hc<;>first|(cases hc; done)|skip))
 all_goals (injection hc with hc; cases hc)
theorem Z46{s:Sem Next}{t e u ty:TypeId}{i:TypeInfo}{kk kx:IntKind}{zv:Value}{z:List Aa}{aa:Option Addr}{len cap nn:Nat}(hr:Rel W Φ ρ m w)(hn:ρ id=none)(hlt:id<m.next)(ht:P.underlying t=some (.slice e))(hi:P.info? e=some i)(hz:i.zero=some zv)(EU:RL Φ ρ z zv.cells)(Ll:z.all Aa.one=true)(hzl:z.length=i.size)
 (hu:P.underlying u=some (.int kk)) (hk0:0<i.size)
 {ys:Aa} {olds:List (List Aa)} (hy:R Φ ρ ys (.slice aa len cap)) (hold:O9 m i.size ys=some olds) (DR:olds.length=len) (hnc:cap<len+nn) (hroom:len+nn≤W6) (hb:i.bytes≤W6)
 (hs:∀ u' w',(Builtin.append_ #[t,u] ty #[.slice aa len cap,.int kx (nn:Nat)]).run P w=.ok u' w'→s.run P w=.ok (.value u') w') :
 AB P s W Φ ρ id w (.sl id 0 (len+nn)) (m.set id (.cells i.size (olds++List.replicate nn z))):=by
 obtain⟨old,ho1,ho2,ho3,ho4⟩:=Lw hr.drew hy hold hk0;have hold2:(Builtin.firstCells i.size len (.slice aa len cap)).run P w.drew=.ok old w.drew:=by
  rw[ho2 len (by omega)]
  congr 1
  have:old.size=len*i.size:=by rw[ho3,DR]
  rw[← this]; simp
 have hzs:zv.cells.size=i.size:=by rw[EU.1,hzl]
 have DJ:=WR EU Ll;obtain⟨nc,hnc2,hrun⟩:=za (P:=P) (ty:=ty) (base:=aa) (len:=len) (cap:=cap) (kx:=kx) (old:=old) ht hi hz hu hzs hk0 hold2 hnc hroom hb;have hzero:Builtin.zeroCells zv.cells nn=(Array.range (nn*i.size)).map fun q=>zv.cells[q % zv.cells.size]!:=by simp only[Builtin.zeroCells,hzs]
 have hrown:=Sm (len:=nn) EU Ll hzl hk0;have hzsz:(Builtin.zeroCells zv.cells nn).size=(List.replicate nn z).length*i.size:=by rw[hzero]; simp
 rw[← hzero]at hrown;refine Wc (cap:=nc) (w1:=w.drew) hr.drew hn hlt hnc2 (by simp only[lA,DR,List.length_replicate]; exact hnc2) ?_ ?_ ?_ (hs _ _ hrun)
 ·exact wT (by rw[ho3,DR]) (by rw[hzsz]; simp) hzs hnc2
 ·exact tX ho4 ho3 hrown hzsz
 ·intro u hu;simp only[Array.toList_append,List.mem_append]at hu;rcases hu with(hu|hu)|hu
  ·exact Ht ho4 ho3 hk0 u hu
  ·exact Zo DJ hzs hk0 u hu
  ·exact Zo DJ hzs hk0 u hu
theorem zf(hF:Open F)(b N:Nat)(ex:Bool):GA F n (Qz b N ex) P (XS b N ex):=by
 intro o id t m x m' h;have std:Ae id t m (Q0 P o)=some (x,m')→m'.next=m.next ∧
  ∀(W:Ap) (Φ:Ao) (ρ:AD) (a:Act) (w:World) (K:Act→World→Prop) (Q:Exit→Act→World→Prop),Qz b N ex W Φ ρ→RL Φ ρ t a.tmps→Rel W Φ ρ m w→ρ id=none→id<m.next →
   (∀ Am ρ' u w',Ext Φ ρ Am ρ'→(∀ b,b≠id→ρ b=none→ρ' b=none)→Rel W Am ρ' m' w'→R Am ρ' x u→K (a.put o.dst u) w')→o.wpIn F n P a w K Q:=
  fun hs=>SH hF o id t m x m' hs
 generalize hop:Q0 P o=op at h std;unfold XS at h;split at h
 ·
  rename_i y;split at h<;>first|(cases h; done)|skip
  rename_i b' off len hy;split at h<;>first|(cases h; done)|skip
  rename_i hcond;obtain⟨rfl,hoN⟩:=hcond;injection h with h
  injection h with h1 h2
  subst h2;refine⟨rfl,fun W Φ ρ a w K Q hH ht hr hn hlt hK=>?_⟩
  obtain⟨Ob,l,cap,hl,ES,hrun⟩:=u6 (w:=w) ht hop hy;obtain⟨l',hl',hx⟩:=hH;rw[hl]at hl'; injection hl' with hl'; subst hl'
  refine WI hF Ob (AB.val hrun hr ?_) hK;cases ex with
  | true=>
   simp only at hx h1;subst h1;have:cap=N - off:=by omega
   rw[this];exact .int _ _
  | false=>
   simp only at hx h1;subst h1;exact .atLeast _ _ (by omega)
 ·
  rename_i e y z;split at h
  ·rename_i k hz;split at h<;>first|(cases h; done)|skip
   rename_i c hy;split at h<;>first|(cases h; done)|skip
   rename_i xO;injection h with h
   injection h with h1 h2
   subst h1; subst h2;refine⟨rfl,fun W Φ ρ a w K Q hH ht hr hn hlt hK=>?_⟩
   obtain⟨ty,ox,oy,ty2,ho,hx,hyy,he⟩:=ye hop;have hv1:=U8 ht hx;have hv2:=U8 ht hyy;rw[hy]at hv1;rw[hz]at hv2;generalize hvv:a.eval oy=vv at hv2;cases hv2 with
   | atLeast _ c2 hc2=>
    have hb:X4 .gtr e (.int .i64 c) (.int .i64 c2)=some (.bool false):=by
     have hlt:¬((c2:Int)<c):=by omega
     simp[X4,S7,hlt]
    refine WI hF (fun c' hc'=>by rw[ho]at hc'; cases hc') ?_ hK
    have:=AB.Gx (id:=id) hr (lQ (w:=w) (P:=P) (ox:=ox) (oy:=oy) he hb hv1 (R.int (Φ:=Φ) (ρ:=ρ) .i64 c2));rw[← hvv]at this;have e2:execOp a.eval o=(do let u ← (do eqGuard .gtr ty ox oy (a.eval ox) (a.eval oy); binOp .gtr ty (a.eval ox) (a.eval oy):Sem Value); pure (Next.value u)):=by
     unfold execOp;rw[ho]
    rw[e2];exact this
  ·exact std h
 ·
  rename_i k bytes z s y;split at h
  ·rename_i b' off len hs;split at h
   ·rename_i hbb;subst hbb;split at h<;>first|(cases h; done)|skip
    rename_i xs olds hxs hold;split at h
    ·rename_i hN;split at h<;>first|(cases h; done)|skip
     rename_i hcond;obtain⟨hc1,hc2,hc3⟩:=hcond;injection h with h
     injection h with h1 h2
     subst h1; subst h2;refine⟨rfl,fun W Φ ρ a w K Q hH ht hr hn hlt hK=>?_⟩
     obtain⟨c,os,ox,ty,u,d,ho,Bf,hargs,htys,he,hos,hox,hu,hd⟩:=Z8o hop;obtain⟨e,i,ht2,hi,hsz,hb,hz,hzl,hk0⟩:=OG he;obtain⟨i',zv,y',g1,g2,g3,g4,g5⟩:=LY hz Φ ρ;rw[hi]at g1; injection g1 with g1; subst g1
     have EU:=g3.Bu g4;have hzsz:zv.cells.size=i.size:=by rw[EU.1,hzl,hsz]
     have DJ:=WR EU g5;subst hsz; subst hb;have hv1:=U8 ht hos;have hv2:=U8 ht hox;rw[hs]at hv1;obtain⟨l,hl,hex⟩:=hH;simp only at hex;generalize hvv:a.eval os=vv at hv1;cases hv1 with
     | sl _ _ _ ad cap l' hl' hle ES hcap Ch=>
      rw[hl]at hl'; injection hl' with hl'; subst hl'
      refine WI hF (fun c' hc'=>by rw[ho]at hc'; cases hc') ?_ hK
      refine aJ (a:=ad) (len:=len) (cap:=cap) (m0:=m) (ty:=o.type) hr hn hlt ht2 hi g2 hzsz DJ hu hd hk0 hv2 hxs (.sl b' off len ad cap l hl hle ES hcap Ch) hold hc3 (Mem.Sub.refl m) (by omega) hc1 hc2 ?_
      have Cq:=LN (P:=P) (w:=w) (a:=a) (s:=Builtin.append_ c.argTypes o.type (c.args.map a.eval)) ho Bf (fun cs=>rfl)
      rw[VN hargs,htys,hvv]at Cq;exact Cq
    ·exact std h
   ·exact std h
  ·exact std h
 ·
  rename_i k bytes z s y;split at h<;>first|(cases h; done)|skip
  rename_i b' off len kx nn hs hy;split at h<;>first|(cases h; done)|skip
  rename_i hbb;obtain⟨rfl,hn0⟩:=hbb;split at h<;>first|(cases h; done)|skip
  rename_i olds hold;split at h<;>first|(cases h; done)|skip
  rename_i hcond;obtain⟨hN,hc1,hc2,hc3⟩:=hcond;injection h with h
  injection h with h1 h2
  subst h1; subst h2;refine⟨rfl,fun W Φ ρ a w K Q hH ht hr hn hlt hK=>?_⟩
  obtain⟨c,os,ox,ty,u,kk,ho,Bf,hargs,htys,he,hos,hox,hu⟩:=Z8v hop;obtain⟨e,i,ht2,hi,hsz,hb,hz,hzl,hk0⟩:=OG he;obtain⟨i',zv,y',g1,g2,g3,g4,g5⟩:=LY hz Φ ρ;rw[hi]at g1; injection g1 with g1; subst g1
  have EU:=g3.Bu g4;subst hsz; subst hb;have hv1:=U8 ht hos;have hv2:=U8 ht hox;rw[hs]at hv1;rw[hy]at hv2;have hv2':=G0 hv2;obtain⟨l,hl,hex⟩:=hH;simp only at hex;generalize hvv:a.eval os=vv at hv1;cases hv1 with
  | sl _ _ _ ad cap l' hl' hle ES hcap Ch=>
   rw[hl]at hl'; injection hl' with hl'; subst hl'
   refine WI hF (fun c' hc'=>by rw[ho]at hc'; cases hc') ?_ hK
   refine Z46 (aa:=ad) (len:=len) (cap:=cap) (nn:=nn.toNat) (kx:=kx) (ty:=o.type) hr hn hlt ht2 hi g2 EU g5 hzl hu hk0 (.sl b' off len ad cap l hl hle ES hcap Ch) hold hc3 (by omega) hc1 hc2 ?_
   have Cq:=LN (P:=P) (w:=w) (a:=a) (s:=Builtin.append_ c.argTypes o.type (c.args.map a.eval)) ho Bf (fun cs=>rfl)
   rw[VN hargs,htys,hvv,hv2']at Cq;rw[Int.toNat_of_nonneg hn0];exact Cq
 ·exact std h
end
end Go.AE
end
