/- Part 4 of the proof: AeHa, AeHb. -/
import Derived.Test.YtilmpmlkndfbjaaGreatDoorR3
import Derived.Lib.Overlaps
set_option linter.all false
section
namespace Go.AE
open Go.RowKit
section
variable {F:Fence} {n:Nat} {P:Program} {W:Base} {Φ:Pers} {ρ:Rho} {id:Nat} {w:World} {m m':Mem} {x:AVal} {a:Act} {t:List AVal}
theorem Zrn{o:Oper}{op:AOp}(b:Q3 P o=op)(d:(match op with | .capSl _ | .append _ _ _ _ _ | .appendZ _ _ _ _ _=>True|_=>False)):∃ c,o.op=.call c∧Za5 P c=some op:=by
 unfold Q3 at b;cases a:cOp P o with
 | none=>rw[a]at b; simp only[Option.getD_none]at b; subst b; exact d.elim
 | some e=>
  rw[a]at b;simp only[Option.getD_some]at b;subst b;unfold cOp at a;split at a<;>first|(cases a; done)|skip
  case h_26 c hoc=>exact ⟨c,hoc,a⟩
  all_goals (try simp only[Option.map_eq_some_iff]at a)
  all_goals (repeat' (split at a<;>first|(cases a; done)|skip))
  all_goals (try simp only[Option.map_eq_some_iff]at a)
  all_goals (first|(obtain ⟨_,_,a⟩:=a; subst a; exact d.elim)|(injection a with a; subst a; exact d.elim)|skip)
theorem Zm3(m:Open F){o:Oper}(g:∀ c,o.op≠.defer c){K:Act→World→Prop}{Q:Exit→Act→World→Prop}(h:Done P (execOp a.eval o) W Φ ρ id w x m')
 (i:∀ e ρ' u w',Ext Φ ρ e ρ'→(∀ b,b≠id→ρ b=none→ρ' b=none)→Rel W e ρ' m' w'→R e ρ' x u→K (a.put o.dst u) w'):o.wpIn F n P a w K Q:=by
 refine Zyt m g ?_;obtain⟨v,w',e,ρ',d,j,k,f,l⟩:=h;unfold Oper.wp;rcases d with d|⟨d,rfl⟩
 ·rw[d];exact i _ _ _ _ j k f l
 ·rw[d];exact i _ _ _ _ j k f l
theorem Yc5{o:Oper}{y:AOpd}(C:RL Φ ρ t a.tmps)(B:Q3 P o=.capSl y){b off len:Nat}(E:ev t y=.sl b off len) :
 (∀ c,o.op≠.defer c) ∧ ∃ l cap,ρ b=some l∧l.sh+off+cap=l.n∧(execOp a.eval o).run P w=.ok (.value (.int .i64 (cap:Nat))) w:=by
 obtain⟨c,i,d⟩:=Zrn B trivial;refine⟨(fun c' q=>by rw[i]at q; cases q),?_⟩
 unfold Za5 at d;split at d<;>first|(cases d; done)|skip
 all_goals (repeat' (split at d<;>first|(cases d; done)|skip))
 all_goals (try (injection d with d; cases d; done))
 rename_i h _ _ G F f j _ _ e J D p;injection d with d
 injection d with d
 subst d;have k:=T4 C p;rw[E]at k;generalize m:a.eval G=I at k;cases k with
 | sl _ _ _ H cap l v z A r u=>
  refine⟨l,cap,v,A,?_⟩;have g:c.argTypes = #[F]:=by rw[← Array.toList_inj]; exact j
  have s:(Builtin.cap_ c.argTypes o.type (c.args.map a.eval)).run P w=.ok (.int .i64 (cap:Nat)) w:=by
   rw[Zp1 f,g,m];unfold Builtin.cap_;simp only[Sem.run_bind,List.getElem?_toArray,List.getElem?_cons_zero,V3 D,Result.andThen_ok];rfl
  exact Zea i h (fun cs=>rfl) _ _ s
theorem Z12{t e u ty:TypeId}{i:TypeInfo}{I:IntKind}{z:Value}{base:Option Addr}{len cap n:Nat}{kx:IntKind}{old:Array Value}(E:P.underlying t=some (.slice e))(hi:P.info? e=some i)(q:i.zero=some z)(F:P.underlying u=some (.int I))
 (H:z.cells.size=i.size) (A:0<i.size)
 (C:(Builtin.firstCells i.size len (.slice base len cap)).run P w.drew=.ok old w.drew) (k:cap<len+n) (b:len+n≤W6) (j:i.bytes≤W6) :
 ∃ nc,len+n≤nc∧(Builtin.append_ #[t,u] ty #[.slice base len cap,.int kx (n:Nat)]).run P w =
  .ok (.slice (some ⟨w.drew.heap.size,0,none⟩) (len+n) nc) (w.drew.alloc (.cells (old++Builtin.zeroCells z.cells n++Builtin.zeroCells z.cells (nc - (len+n))) e)):=by
 have D:(Question.appendCap (len+n) cap e).forced=false:=rfl;refine⟨(Question.appendCap (len+n) cap e).cut (w.tape w.drawn (.appendCap (len+n) cap e)),by simp only[Question.cut]; omega,?_⟩
 generalize m:(Question.appendCap (len+n) cap e).cut (w.tape w.drawn (.appendCap (len+n) cap e))=nc;unfold W6 at b j;have o:=Zr5 k;have p:Builtin.nextslicecap (len+n) cap*i.bytes≤(2*1048576+768)*1048576:=Nat.mul_le_mul (by omega) j
 have f:IntKind.i64.max=9223372036854775807:=by decide
 have c:IntKind.i64.wrap (n:Int)=n:=by
  have hm:=IntKind.i64;rw[show IntKind.i64.wrap (n:Int)=(n:Int) from ?_]
  simp only[IntKind.wrap,IntKind.bits,IntKind.signed]
  first|omega|(simp; omega)
 have B:(n:Int)*(i.bytes:Int)≤2 ^ 48:=by
  have v:n*i.bytes≤1048576*1048576:=Nat.mul_le_mul (by omega) j
  have y:((n*i.bytes:Nat):Int)≤((1048576*1048576:Nat):Int):=Int.ofNat_le.2 v;rw[Int.natCast_mul]at y;omega
 have d:∀ w',(if n*i.size=0 then (pure #[]:Sem (Array Value))else do pure (Builtin.zeroCells (← zeroValue e).cells n)).run P w'=.ok (Builtin.zeroCells z.cells n) w':=by
  intro w';split
  ·rename_i s;have l:n=0:=by
    rcases Nat.mul_eq_zero.1 s with h|h
    ·exact h
    ·omega
   subst l;simp[Builtin.zeroCells]
  ·simp only[Sem.run_bind,Zcc hi q,Result.andThen_ok,Sem.run_pure]
 have r:(Builtin.append_ #[t,u] ty #[.slice base len cap,.int kx (n:Nat)]).run P w=((do
  let a ← choose (.appendCap (len+n) cap e)
  askRoom (a*i.bytes)
  let old ← Builtin.firstCells i.size len (.slice base len cap)
  let new ← (if n*i.size=0 then pure #[]else do pure (Builtin.zeroCells (← zeroValue e).cells n):Sem (Array Value))
  let g:=Builtin.zeroCells (← zeroValue e).cells (a - (len+n))
  pure (Value.slice (some (← newRow e (old++new++g))) (len+n) a):Sem Value)).run P w:=by
  unfold Builtin.append_;simp only[Sem.run_bind,List.getElem?_toArray,List.getElem?_cons_zero,List.getElem?_cons_succ,V3 E,Result.andThen_ok,E6 hi,V3 F];simp only[Sem.run_bind,Sem.run_pure,Result.andThen_ok,if_true,asInt,asIntOf,c];rw[if_neg (by omega)]
  simp only[Sem.run_bind,Zdu hi,Result.andThen_ok];rw[if_neg (by omega)]
  simp only[Sem.run_bind,Sem.run_pure,Result.andThen_ok,Int.toNat_natCast];rw[if_neg (by omega)]
  simp only[Sem.run_bind,Zdu hi,Result.andThen_ok,f];rw[if_neg (by omega)]
  simp only[Sem.run_bind,Zdu hi,Result.andThen_ok];rw[if_neg (by omega)]
  simp only[Sem.run_bind,Zdu hi,Result.andThen_ok,Bool.not_true,bF,if_false];rfl
 rw[r];simp only[Sem.run_bind,run_choose,D,bF,if_false,Result.andThen_ok,run_askRoom,m];have G:({ w with drawn:=w.drawn+1 }:World)=w.drew:=rfl
 rw[G];simp only[C,d,Result.andThen_ok,Zcc hi q,newRow,Sem.run_bind,run_newObj,Sem.run_pure];rfl
end
end Go.AE
end
section
namespace Go.AE
open Go.RowKit
def HEx(b N:Nat)(ex:Bool):HypW:=fun _ _ ρ=>∃ l,ρ b=some l∧(match ex with|true=>l.n=l.sh+N|false=>l.sh+N≤l.n)
theorem HEx.mono{b N:Nat}{ex:Bool}:(HEx b N ex).Mono:=fun _ _ _ _ _ ⟨l,a,c⟩ d=>⟨l,d.rho _ _ a,c⟩
def stX(b N:Nat)(ex:Bool):StepA:=fun id t m op=>
 match op with
 | .capSl x=>match ev t x with
  | .sl b' off _=>if b'=b∧off≤N then some (match ex with|true=>.int .i64 ((N - off:Nat):Int)|false=>.atLeast (N - off),m)else none
  | _=>none
 | .bin .gtr e x y=>match ev t y with
  | .atLeast k=>match ev t x with
   | .int .i64 c=>if c≤k then some (.bool false,m)else none
   | _=>none
  | _=>stepA id t m (.bin .gtr e x y)
 | .append k bytes z s x=>match ex,ev t s with
  | true,.sl b' off len=>if b'=b then match N6 m k (ev t x),I1 m k (.sl b' off len)with
   | some xs,some olds=>if N<off+len+xs.length then (if len+xs.length≤W6∧bytes≤W6∧olds.length=len then some (.sl id 0 (len+xs.length),m.set id (.cells k (olds++xs)))else none)else stepA id t m (.append k bytes z s x)
   | _,_=>none
   else stepA id t m (.append k bytes z s x)
  | _,_=>stepA id t m (.append k bytes z s x)
 | .appendZ k bytes z s x=>match ex,ev t s,ev t x with
  | true,.sl b' off len,.int _ n=>if b'=b∧0≤n then match I1 m k (.sl b' off len)with
   | some olds=>if N<off+len+n.toNat∧len+n.toNat≤W6∧bytes≤W6∧olds.length=len then some (.sl id 0 (len+n.toNat),m.set id (.cells k (olds++List.replicate n.toNat z)))else none
   | none=>none
   else none
  | _,_,_=>none
 | op=>stepA id t m op
section
variable {F:Fence} {n:Nat} {P:Program} {W:Base} {Φ:Pers} {ρ:Rho} {id:Nat} {w:World} {m m':Mem} {x:AVal} {a:Act} {t:List AVal}
theorem Z40{o:Oper}{op:BinOp}{e:EqT}{g h:AOpd}(b:Q3 P o=.bin op e g h):∃ ty x y f,o.op=.binOp op ty x y f∧Y4 x=some g∧Y4 y=some h∧cEq P ty=some e:=by
 unfold Q3 at b;cases a:cOp P o with
 | none=>rw[a]at b; cases b
 | some l=>
  rw[a]at b;simp only[Option.getD_some]at b;subst b;unfold cOp at a;split at a<;>first|(cases a; done)|skip
  case h_26 c hoc=>
   exfalso;unfold Za5 at a;split at a<;>first|(cases a; done)|skip
   all_goals (repeat' (split at a<;>first|(cases a; done)|skip))
   all_goals (injection a with a; cases a)
  all_goals (try simp only[Option.map_eq_some_iff]at a)
  all_goals (repeat' (split at a<;>first|(cases a; done)|skip))
  all_goals (try simp only[Option.map_eq_some_iff]at a)
  all_goals (first|(obtain ⟨_,_,a⟩:=a; cases a; done)|(injection a with a; cases a; done)|skip)
  all_goals (rename_i d _ _ _ _ _ _ j k i; injection a with a; cases a; exact⟨_,_,_,_,d,j,k,i⟩)
theorem Z6e{o:Oper}{k b:Nat}{z:List AVal}{m n:AOpd}(v:Q3 P o=.append k b z m n):∃ c s x t u d,o.op=.call c∧c.callee=.builtin .append∧c.args.toList=[s,x]∧c.argTypes = #[t,u]∧A7 P t=some (k,b,z)∧Y4 s=some m∧Y4 x=some n ∧
 P.underlying u=some d ∧ ∀ k,d≠.int k:=by
 obtain⟨c,i,a⟩:=Zrn v trivial;unfold Za5 at a;split at a<;>first|(cases a; done)|skip
 all_goals (try (split at a<;>first|(cases a; done)|(injection a with a; cases a; done)))
 ·rename_i f;split at a<;>first|(cases a; done)|skip
  rename_i s y w u e g;split at a<;>first|(cases a; done)|skip
  rename_i A b0 C B x0 q j l;split at a<;>first|(cases a; done)|skip
  ·rename_i d p h;injection a with a
   cases a;exact⟨c,s,y,w,u,d,i,f,e,by rw[← Array.toList_inj]; exact g,q,j,l,h,fun k r=>p k r⟩
 all_goals (repeat' (split at a<;>first|(cases a; done)|skip))
 all_goals (injection a with a; cases a)
theorem Z3z{o:Oper}{k b:Nat}{z:List AVal}{m n:AOpd}(q:Q3 P o=.appendZ k b z m n):∃ c s x t u l,o.op=.call c∧c.callee=.builtin .append∧c.args.toList=[s,x]∧c.argTypes = #[t,u]∧A7 P t=some (k,b,z)∧Y4 s=some m∧Y4 x=some n ∧
 P.underlying u=some (.int l):=by
 obtain⟨c,h,a⟩:=Zrn q trivial;unfold Za5 at a;split at a<;>first|(cases a; done)|skip
 all_goals (try (split at a<;>first|(cases a; done)|(injection a with a; cases a; done)))
 ·rename_i e;split at a<;>first|(cases a; done)|skip
  rename_i s v r u d f;split at a<;>first|(cases a; done)|skip
  rename_i w b0 A y x0 p i j;split at a<;>first|(cases a; done)|skip
  ·rename_i l g;injection a with a
   cases a;exact⟨c,s,v,r,u,l,h,e,d,by rw[← Array.toList_inj]; exact f,p,i,j,g⟩
 all_goals (repeat' (split at a<;>first|(cases a; done)|skip))
 all_goals (injection a with a; cases a)
theorem Z7i{s:Sem Next}{t e u ty:TypeId}{i:TypeInfo}{U kx:IntKind}{r:Value}{z:List AVal}{aa:Option Addr}{len cap nn:Nat}(H:Rel W Φ ρ m w)(L:ρ id=none)(E:id<m.next)(O:P.underlying t=some (.slice e))(hi:P.info? e=some i)(S:i.zero=some r)(p:RL Φ ρ z r.cells)(C:z.all AVal.one=true)(D:z.length=i.size)
 (h:P.underlying u=some (.int U)) (a:0<i.size)
 {J:AVal} {g:List (List AVal)} (Q:R Φ ρ J (.slice aa len cap)) (y:N6 m i.size J=some g) (l:g.length=len) (F:cap<len+nn) (o:len+nn≤W6) (K:i.bytes≤W6)
 (N:∀ I w',(Builtin.append_ #[t,u] ty #[.slice aa len cap,.int kx (nn:Nat)]).run P w=.ok I w'→s.run P w=.ok (.value I) w') :
 Done P s W Φ ρ id w (.sl id 0 (len+nn)) (m.set id (.cells i.size (g++List.replicate nn z))):=by
 obtain⟨old,M,G,j,v⟩:=Zer H.drew Q y a;have n:(Builtin.firstCells i.size len (.slice aa len cap)).run P w.drew=.ok old w.drew:=by
  rw[G len (by omega)]
  congr 1
  have:old.size=len*i.size:=by rw[j,l]
  rw[← this]; simp
 have f:r.cells.size=i.size:=by rw[p.1,D]
 have B:=Zlv p C;obtain⟨nc,b,A⟩:=Z12 (P:=P) (ty:=ty) (base:=aa) (len:=len) (cap:=cap) (kx:=kx) (old:=old) O hi S h f a n F o K;have d:Builtin.zeroCells r.cells nn=(Array.range (nn*i.size)).map fun q=>r.cells[q % r.cells.size]!:=by simp only[Builtin.zeroCells,f]
 have c:=Zjc (len:=nn) p C D a;have k:(Builtin.zeroCells r.cells nn).size=(List.replicate nn z).length*i.size:=by rw[d]; simp
 rw[← d]at c;refine Zmo (cap:=nc) (w1:=w.drew) H.drew L E b (by simp only[List.length_append,l,List.length_replicate]; exact b) ?_ ?_ ?_ (N _ _ A)
 ·exact Zwn (by rw[j,l]) (by rw[k]; simp) f b
 ·exact Zta v j c k
 ·intro u h;simp only[Array.toList_append,List.mem_append]at h;rcases h with(h|h)|h
  ·exact Zae v j a u h
  ·exact Zol B f a u h
  ·exact Zol B f a u h
theorem Zzj(hF:Open F)(b N:Nat)(ex:Bool):StOk F n (HEx b N ex) P (stX b N ex):=by
 intro o id t m x m' h;have std:stepA id t m (Q3 P o)=some (x,m')→m'.next=m.next ∧
  ∀(W:Base) (Φ:Pers) (ρ:Rho) (a:Act) (w:World) (K:Act→World→Prop) (Q:Exit→Act→World→Prop),HEx b N ex W Φ ρ→RL Φ ρ t a.tmps→Rel W Φ ρ m w→ρ id=none→id<m.next →
   (∀ Φ' ρ' u w',Ext Φ ρ Φ' ρ'→(∀ b,b≠id→ρ b=none→ρ' b=none)→Rel W Φ' ρ' m' w'→R Φ' ρ' x u→K (a.put o.dst u) w')→o.wpIn F n P a w K Q:=
  fun hs=>Zj7 hF o id t m x m' hs
 generalize hop:Q3 P o=op at h std;unfold stX at h;split at h
 ·
  rename_i y;split at h<;>first|(cases h; done)|skip
  rename_i b' off len hy;split at h<;>first|(cases h; done)|skip
  rename_i hcond;obtain⟨rfl,hoN⟩:=hcond;injection h with h
  injection h with h1 h2
  subst h2;refine⟨rfl,fun W Φ ρ a w K Q hH ht hr hn hlt hK=>?_⟩
  obtain⟨hnd,l,cap,hl,hcn,hrun⟩:=Yc5 (w:=w) ht hop hy;obtain⟨l',hl',hx⟩:=hH;rw[hl]at hl'; injection hl' with hl'; subst hl'
  refine Zm3 hF hnd (Done.val hrun hr ?_) hK;cases ex with
  | true=>
   simp only at hx h1;subst h1;have:cap=N - off:=by omega
   rw[this];exact .int _ _
  | false=>
   simp only at hx h1;subst h1;exact .atLeast _ _ (by omega)
 ·
  rename_i e y z;split at h
  ·rename_i k hz;split at h<;>first|(cases h; done)|skip
   rename_i c hy;split at h<;>first|(cases h; done)|skip
   rename_i hck;injection h with h
   injection h with h1 h2
   subst h1; subst h2;refine⟨rfl,fun W Φ ρ a w K Q hH ht hr hn hlt hK=>?_⟩
   obtain⟨ty,ox,oy,ty2,ho,hx,hyy,he⟩:=Z40 hop;have hv1:=T4 ht hx;have hv2:=T4 ht hyy;rw[hy]at hv1;rw[hz]at hv2;generalize hvv:a.eval oy=vv at hv2;cases hv2 with
   | atLeast _ c2 hc2=>
    have hb:W7 .gtr e (.int .i64 c) (.int .i64 c2)=some (.bool false):=by
     have hlt:¬((c2:Int)<c):=by omega
     simp[W7,V6,hlt]
    refine Zm3 hF (fun c' hc'=>by rw[ho]at hc'; cases hc') ?_ hK
    have:=Done.ofV (id:=id) hr (Zzd (w:=w) (P:=P) (ox:=ox) (oy:=oy) he hb hv1 (R.int (Φ:=Φ) (ρ:=ρ) .i64 c2));rw[← hvv]at this;have e2:execOp a.eval o=(do let u ← (do eqGuard .gtr ty ox oy (a.eval ox) (a.eval oy); binOp .gtr ty (a.eval ox) (a.eval oy):Sem Value); pure (Next.value u)):=by
     unfold execOp;rw[ho]
    rw[e2];exact this
  ·exact std h
 ·
  rename_i k bytes z s y;split at h
  ·rename_i b' off len hs;split at h
   ·rename_i hbb;subst hbb;split at h<;>first|(cases h; done)|skip
    rename_i xs olds hxs hold;split at h
    ·rename_i hN;split at h<;>first|(cases h; done)|skip
     rename_i hcond;obtain⟨hc1,hc2,hc3⟩:=hcond;injection h with h
     injection h with h1 h2
     subst h1; subst h2;refine⟨rfl,fun W Φ ρ a w K Q hH ht hr hn hlt hK=>?_⟩
     obtain⟨c,os,ox,ty,u,d,ho,hcal,hargs,htys,he,hos,hox,hu,hd⟩:=Z6e hop;obtain⟨e,i,ht2,hi,hsz,hb,hz,hzl,hk0⟩:=Zg9 he;obtain⟨i',zv,y',g1,g2,g3,g4,g5⟩:=Zeh hz Φ ρ;rw[hi]at g1; injection g1 with g1; subst g1
     have hzc:=g3.cells_R g4;have hzsz:zv.cells.size=i.size:=by rw[hzc.1,hzl,hsz]
     have hz1:=Zlv hzc g5;subst hsz; subst hb;have hv1:=T4 ht hos;have hv2:=T4 ht hox;rw[hs]at hv1;obtain⟨l,hl,hex⟩:=hH;simp only at hex;generalize hvv:a.eval os=vv at hv1;cases hv1 with
     | sl _ _ _ ad cap l' hl' hle hcn hcap hav=>
      rw[hl]at hl'; injection hl' with hl'; subst hl'
      refine Zm3 hF (fun c' hc'=>by rw[ho]at hc'; cases hc') ?_ hK
      refine Zq5 (a:=ad) (len:=len) (cap:=cap) (m0:=m) (ty:=o.type) hr hn hlt ht2 hi g2 hzsz hz1 hu hd hk0 hv2 hxs (.sl b' off len ad cap l hl hle hcn hcap hav) hold hc3 (Mem.Sub.refl m) (by omega) hc1 hc2 ?_
      have hb2:=Zea (P:=P) (w:=w) (a:=a) (s:=Builtin.append_ c.argTypes o.type (c.args.map a.eval)) ho hcal (fun cs=>rfl)
      rw[Zmd hargs,htys,hvv]at hb2;exact hb2
    ·exact std h
   ·exact std h
  ·exact std h
 ·
  rename_i k bytes z s y;split at h<;>first|(cases h; done)|skip
  rename_i b' off len kx nn hs hy;split at h<;>first|(cases h; done)|skip
  rename_i hbb;obtain⟨rfl,hn0⟩:=hbb;split at h<;>first|(cases h; done)|skip
  rename_i olds hold;split at h<;>first|(cases h; done)|skip
  rename_i hcond;obtain⟨hN,hc1,hc2,hc3⟩:=hcond;injection h with h
  injection h with h1 h2
  subst h1; subst h2;refine⟨rfl,fun W Φ ρ a w K Q hH ht hr hn hlt hK=>?_⟩
  obtain⟨c,os,ox,ty,u,kk,ho,hcal,hargs,htys,he,hos,hox,hu⟩:=Z3z hop;obtain⟨e,i,ht2,hi,hsz,hb,hz,hzl,hk0⟩:=Zg9 he;obtain⟨i',zv,y',g1,g2,g3,g4,g5⟩:=Zeh hz Φ ρ;rw[hi]at g1; injection g1 with g1; subst g1
  have hzc:=g3.cells_R g4;subst hsz; subst hb;have hv1:=T4 ht hos;have hv2:=T4 ht hox;rw[hs]at hv1;rw[hy]at hv2;have hv2':=F3 hv2;obtain⟨l,hl,hex⟩:=hH;simp only at hex;generalize hvv:a.eval os=vv at hv1;cases hv1 with
  | sl _ _ _ ad cap l' hl' hle hcn hcap hav=>
   rw[hl]at hl'; injection hl' with hl'; subst hl'
   refine Zm3 hF (fun c' hc'=>by rw[ho]at hc'; cases hc') ?_ hK
   refine Z7i (aa:=ad) (len:=len) (cap:=cap) (nn:=nn.toNat) (kx:=kx) (ty:=o.type) hr hn hlt ht2 hi g2 hzc g5 hzl hu hk0 (.sl b' off len ad cap l hl hle hcn hcap hav) hold hc3 (by omega) hc1 hc2 ?_
   have hb2:=Zea (P:=P) (w:=w) (a:=a) (s:=Builtin.append_ c.argTypes o.type (c.args.map a.eval)) ho hcal (fun cs=>rfl)
   rw[Zmd hargs,htys,hvv,hv2']at hb2;rw[Int.toNat_of_nonneg hn0];exact hb2
 ·exact std h
end
end Go.AE
end
