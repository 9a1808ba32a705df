/- Part 50 of the proof: Wc, Fnf, Fng, Tq, Fnh, Fni, Foa, Fob, Foc, Foe. -/
import Derived.Test.YtggclbeocekgkaaGreatDoorP25
import Derived.Test.YtggclbeocekgkaaGreatDoorP28
import Derived.Test.YtggclbeocekgkaaGreatDoorP32
import Derived.Test.YtggclbeocekgkaaGreatDoorP41
import Derived.Test.YtggclbeocekgkaaGreatDoorP42
import Derived.Test.YtggclbeocekgkaaGreatDoorP45
import Derived.Test.YtggclbeocekgkaaGreatDoorP48
import Derived.Test.YtggclbeocekgkaaGreatDoorP49
set_option linter.all false
section
namespace Go.Ac
open Go Go.AE Go.Proofs
open Go.Plain
open Go.ChangeShapes Go.WideShapes Go.RowKit Go.Deep
variable {H:Type} {enc:TypeId×Value→H} {w:World} {base:Nat} {spare:Nat→Bool} {held:Bool}
def Yz(x:Fg):List Value:=[.int .i64 x.p,.bool x.r,.int .i64 x.d]
set_option maxRecDepth 100000 in
theorem zh{n:Nat}{cs:List Value}{x:DataW H×List MemPlace}(h:DataW.trod enc Tryz.prog w base spare held n 88 cs=some x) :
 ∃ l:Fg,cs=Yz l:=by
 obtain⟨xs,m,_,_,hl,hlen,hf⟩:=DataW.trod_struct Tryz.underlying88 h;have hc:Tryz.prog.cellsOf 88=3:=by kernel_rfl
 have h3:Tryz.prog.cellsOf 3=1:=by kernel_rfl
 have h4:Tryz.prog.cellsOf 4=1:=by kernel_rfl
 rw[hc]at hl
 match cs,hl with
 | [a0,a1,a2],_=>
  match xs,hlen with
  | [x0,x1,x2],_=>
   have e0:DataW.trod enc Tryz.prog w base spare held m 3 (([a0,a1,a2].drop 0).take (Tryz.prog.cellsOf 3))=some x0:=hf 0 _ rfl;rw[h3]at e0;have e1:DataW.trod enc Tryz.prog w base spare held m 4 (([a0,a1,a2].drop 1).take (Tryz.prog.cellsOf 4))=some x1:=hf 1 _ rfl;rw[h4]at e1;have e2:DataW.trod enc Tryz.prog w base spare held m 3 (([a0,a1,a2].drop 2).take (Tryz.prog.cellsOf 3))=some x2:=hf 2 _ rfl;rw[h3]at e2;obtain⟨n0,q0,_,_⟩:=DataW.trod_int (t:=3) (k:=.i64) Tryz.underlying3 e0
   obtain⟨b1,q1,_⟩:=DataW.trod_bool (t:=4) Tryz.underlying4 e1;obtain⟨n2,q2,_,_⟩:=DataW.trod_int (t:=3) (k:=.i64) Tryz.underlying3 e2;have r0:a0=.int .i64 n0:=by simpa using q0
   have r1:a1=.bool b1:=by simpa using q1
   have r2:a2=.int .i64 n2:=by simpa using q2
   subst r0 r1 r2;exact⟨⟨n0,b1,n2⟩,rfl⟩
theorem Z2j(Φ:Ao)(ρ:AD)(l:Fg)(j:Nat)(x:Aa)(h:(Ax l)[j]? = some x):∃ v,(Yz l)[j]? = some v∧v.oneCell'=true∧R Φ ρ x v:=by
 match j,h with
 | 0,h=>cases h; exact⟨_,rfl,rfl,.int _ _⟩
 | 1,h=>cases h; exact⟨_,rfl,rfl,.bool _⟩
 | 2,h=>cases h; exact⟨_,rfl,rfl,.int _ _⟩
 | j+3,h=>cases h
theorem Z3m{α:Type} [Inhabited α] (FD:α→List Aa) (Fe:α→List Value) {k:Nat} {TS TE:TypeId} (hu:Tryz.prog.underlying TS=some (.slice TE)) (Sc:Tryz.prog.cellsOf TE=k) (hk:0<k)
 (hA:∀ x,(FD x).length=k) (hB:∀ x,(Fe x).length=k)
 (hrow:∀ (Φ:Ao) (ρ:AD) (l:α) (j:Nat) (x:Aa),(FD l)[j]? = some x → ∃ v,(Fe l)[j]? = some v∧v.oneCell'=true∧R Φ ρ x v)
 (NR:∀ (m:Nat) (cs:List Value) (x:DataW H×List MemPlace),DataW.trod enc Tryz.prog w 0 (fun _=>true) held m TE cs=some x → ∃ l:α,cs=Fe l)
 {n:Nat} {v:Value} {x:DataW H×List MemPlace} (h:DataW.trod enc Tryz.prog w 0 (fun _=>true) held n TS [v]=some x):∃ ls:List α,∀ ρ,R (I2 w) ρ (.Aj (ls.map FD)) v:=by
 have hf:∀ l:α,∃ v0,(Fe l)[0]? = some v0:=fun l=>⟨(Fe l)[0]'(by rw[hB]; exact hk),gE _⟩
 rcases open_slice hu h with⟨h1,_⟩|⟨a,len,cap,m,n',D,Pl,h1,_,hlc,_,hm,_,hel⟩
 ·cases h1;exact⟨[],fun ρ=>.BS _ _ fun hp=>absurd hp (by omega)⟩
 ·cases h1;simp only[if_true]at hm;subst hm;rw[Sc]at hel;have hL:∀ i,∃ l:α,i<len→w.cells? 0 (a.add (i*k)) k=some (Fe l):=fun i=>by
   by_cases hi:i<len
   ·obtain⟨cs',g1,g2⟩:=hel i (by omega)
    obtain⟨l,rfl⟩:=NR _ _ _ g2;exact⟨l,fun _=>g1⟩
   ·exact⟨default,fun h=>absurd h hi⟩
  obtain⟨L,hL⟩:=Classical.axiomOfChoice hL;rcases Nat.eq_zero_or_pos len with h0|h0
  ·subst h0;refine⟨[],fun ρ=>.BS _ _ fun hp=>?_⟩
   obtain⟨cs',g1,g2⟩:=hel 0 (by omega)
   obtain⟨l,rfl⟩:=NR _ _ _ g2;obtain⟨v0,hv0⟩:=hf l;have hh:=(Vy g1 0 hk).1;have e1:(a.add (0*k)).add 0=a:=by simp[Addr.add]
   rw[e1,hv0]at hh;have hsp:=VD hh;obtain⟨ab,ao,asp⟩:=a;simp only at hsp;subst hsp;exact⟨_,_,rfl⟩
  have hcell:∀ i j,i<len→j<k→w.cell? ((a.add (i*k)).add j)=(Fe (L i))[j]?:=fun i j hi hj=>(Vy (hL i hi) j hj).1
  obtain⟨v0,hv0⟩:=hf (L 0);have hc0:=hcell 0 0 h0 hk;rw[hv0]at hc0;have hsp:a.spot=none:=by
   have e1:(a.add (0*k)).add 0=a:=by simp[Addr.add]
   rw[e1]at hc0;exact VD hc0
  have hblk:∃ c e fz,w.heap[a.block]? = some (.cells c e fz):=by
   obtain⟨c,e,fz,g1,_⟩:=VR hc0;rw[MQ,MQ]at g1;exact⟨c,e,fz,g1⟩
  obtain⟨c,e,fz,Ck⟩:=hblk;have hat:∀ i j v,i<len→j<k→(Fe (L i))[j]? = some v→c[a.off+i*k+j]? = some v:=fun i j v hi hj hv=>by
   have h2:=hcell i j hi hj;rw[hv]at h2;obtain⟨c',e',fz',g1,g2⟩:=VR h2;rw[MQ,MQ,Ck]at g1;cases g1;rw[VY,VY]at g2;exact g2
  have hget:∀ (i:Nat) (row:List Aa),(((List.range len).map L).map FD)[i]? = some row→i<len∧row=FD (L i):=fun i row hi=>by
   rw[List.map_map,gM]at hi;by_cases hil:i<len
   ·rw[List.getElem?_range hil]at hi;cases hi;exact⟨hil,rfl⟩
   ·rw[List.getElem?_eq_none (by simpa using hil)]at hi
    cases hi
  have hjk:∀ (l:α) (j:Nat) (x:Aa),(FD l)[j]? = some x→j<k:=fun l j x hx=>by rw[← hA l]; exact(gS.1 hx).1
  refine⟨(List.range len).map L,fun ρ=>?_⟩
  obtain⟨ab,ao,asp⟩:=a;simp only at hsp Ck hat;subst hsp;have hlen:(((List.range len).map L).map FD).length=len:=by simp
  have:=R.Aj (Φ:=I2 w) (ρ:=ρ) (((List.range len).map L).map FD) ab ao k _ c (fun i j=>((Fe (L i))[j]?).getD (.bool false)) (fun e=>by rw[e]at hlen; simp at hlen; omega) (by rw[hlen]; exact hlc)
   (by unfold I2; rw[Ck]) (fun i row hi=>by obtain⟨_,rfl⟩:=hget i row hi; exact hA _)
   (fun i row j x hi hj=>by
     obtain⟨hil,rfl⟩:=hget i row hi;obtain⟨v,g1,g2,_⟩:=hrow (I2 w) ρ (L i) j x hj;rw[g1];exact⟨hat i j v hil (hjk _ j x hj) g1,g2⟩)
   (fun i row j x hi hj=>by
     obtain⟨hil,rfl⟩:=hget i row hi;obtain⟨v,g1,_,g3⟩:=hrow (I2 w) ρ (L i) j x hj;rw[g1];exact g3)
  rw[hlen]at this;exact this
theorem Z4s{n:Nat}{v:Value}{x:DataW H×List MemPlace}(h:DataW.trod enc Tryz.prog w 0 (fun _=>true) held n 22 [v]=some x):∃ ls:List Fg,∀ ρ,R (I2 w) ρ (.Aj (ls.map Ax)) v:=
 Z3m Ax Yz (k:=3) Tryz.underlying22 (by kernel_rfl) (by decide) (fun _=>rfl) (fun _=>rfl) Z2j (fun _ _ _ h=>zh h) h
set_option maxRecDepth 100000 in
theorem Z21{v:Value}{d:DataW H}{p:List MemPlace}{b:Nat}(hok:Value.okWide Tryz.prog w .any b 24 v)(h:DataW.Trod enc Tryz.prog w 0 (fun _=>true) held 24 v d p):∃ (fs:List Fg) (re lo:Int),∀ ρ,R (I2 w) ρ (Dx fs re lo) v:=by
 unfold Value.okWide at hok;rw[Tryz.underlying24]at hok;obtain⟨cs,rfl,hsz,_⟩:=hok;obtain⟨fuel,h⟩:=h;have hc:Tryz.prog.cellsOf 24=3:=by kernel_rfl
 have h3:Tryz.prog.cellsOf 3=1:=by kernel_rfl
 have h22:Tryz.prog.cellsOf 22=1:=by kernel_rfl
 rw[hc]at hsz;obtain⟨xs,n,_,_,hl,hlen,hf⟩:=DataW.trod_struct Tryz.underlying24 h;obtain⟨cl⟩:=cs
 match cl,hsz with
 | [a0,a1,a2],_=>
  match xs,hlen with
  | [y0,y1,y2],_=>
   have e0:DataW.trod enc Tryz.prog w 0 (fun _=>true) held n 22 (([a0,a1,a2].drop 0).take (Tryz.prog.cellsOf 22))=some y0:=hf 0 _ rfl
   rw[h22]at e0;have e1:DataW.trod enc Tryz.prog w 0 (fun _=>true) held n 3 (([a0,a1,a2].drop 1).take (Tryz.prog.cellsOf 3))=some y1:=hf 1 _ rfl
   rw[h3]at e1;have e2:DataW.trod enc Tryz.prog w 0 (fun _=>true) held n 3 (([a0,a1,a2].drop 2).take (Tryz.prog.cellsOf 3))=some y2:=hf 2 _ rfl
   rw[h3]at e2;obtain⟨k1,q1,_,_⟩:=DataW.trod_int (t:=3) (k:=.i64) Tryz.underlying3 e1;obtain⟨k2,q2,_,_⟩:=DataW.trod_int (t:=3) (k:=.i64) Tryz.underlying3 e2;have r1:a1=.int .i64 k1:=by simpa using q1
   have r2:a2=.int .i64 k2:=by simpa using q2
   subst r1 r2;obtain⟨fs,GW⟩:=Z4s (v:=a0) e0;refine⟨fs,k1,k2,fun ρ=>.agg _ _ rfl fun i x v hx hv=>?_⟩
   match i,hx,hv with
   | 0,hx,hv=>cases hx; cases hv; exact GW ρ
   | 1,hx,hv=>cases hx; cases hv; exact .int _ _
   | 2,hx,hv=>cases hx; cases hv; exact .int _ _
   | i+3,hx,hv=>simp at hx
end Go.Ac
end
section
namespace Go.Ac
open Go Go.AE Go.Proofs
open Go.Plain
attribute [local simp] nU uG mP xJ mF wD nC zT mU vV XC Pp xD xV rJ
theorem xo(kt:Br)(k:Aa):L3 kt k []=some none:=rfl
theorem Z9i(a b:Int)(v:Aa)(t:Nat)(es:List (Aa×Aa×Nat)):L3 .int (.int .i64 a) ((.int .i64 b,v,t) :: es)=if a=b then some (some (0,v,t))else match L3 .int (.int .i64 a) es with
 | some (some (i,r))=>some (some (i+1,r))
 | some none=>some none
 | none=>none:=by
 by_cases h:a=b
 ·rw[iP h];subst h;simp[L3,G0]
 ·rw[iN h];have hb:G0 .int (.int .i64 a) (.int .i64 b)=some false:=by
   have:(a == b)=false:=by simpa using h
   simp[G0,this]
  conv=>lhs; unfold L3
  rw[hb];rfl
def Ut:List (Aa×Aa×Nat):=[(.int .i64 1,.func (.func 174) [] [],0),(.int .i64 2,.func (.func 175) [] [],1),(.int .i64 3,.func (.func 176) [] [],2),(.int .i64 4,.func (.func 177) [] [],3)]
theorem Xa:L3 .int (.int .i64 1) Ut=some (some (0,.func (.func 174) [] [],0)):=rfl
theorem Sw(q:Nat→Nat):Fc q Ut=Ut:=rfl
set_option maxRecDepth 100000 in
theorem D2:AV Tryz.prog 116 [] ⟨[],1⟩ fun r m=>r=.map 1∧m=⟨[(1,.map Ut 4)],2⟩:=by
 refine W9 hm Tryz.func116 Uq rfl rfl fun K hK=>?_
 have hKv:=hK _ _ ⟨rfl,rfl⟩;clear hK;have hr:=Sw;unfold Ut at hKv hr;simp[xo,Z9i];exact Z4 hKv [(1,2)] (by simp[hr])
set_option maxRecDepth 100000 in
set_option maxHeartbeats 8000000 in
theorem uD(rg:List (List Aa))(Ap:∀ q,Z3 q rg=rg)(re lo F:Int)(ls:List Lt)(f:Int)(e:Int)
 (hr:AV Tryz.prog 174 [.ptr 1 0 0,.agg (Bt f)] ⟨[(1,Bd 2 rg re lo F (ls.map Ab) [] 0)],3⟩ fun v m=>v=.tuple []∧m=⟨[(1,Bd 2 rg re lo F (ls.map Ab) [] e)],3⟩) :
 AV Tryz.prog 74 [.ptr 1 0 0,.agg (Bt f),.ptr 3 0 0] ⟨[(1,Bd 2 rg re lo F (ls.map Ab) [] 0),(3,.cells 1 [[.Ae]])],4⟩ fun v m=>v=.tuple []∧m=⟨[(1,Bd 2 rg re lo F (ls.map Ab) [] e),(3,.cells 1 [[.sl 4 0 1]]),(4,.cells 8 [Bt f])],5⟩:=by
 refine Xk hm [116,174] Tryz.func74 Pc rfl rfl fun K hK=>?_
 have hKv:=hK _ _ ⟨rfl,rfl⟩;clear hK;have hLc:∀ q,Z3 q (ls.map Ab)=ls.map Ab:=fun q=>Y1 q _ (X5 ls)
 generalize ls.map Ab=R at *;unfold Bd Bt at *;simp[Ll];refine D4 D2 (by simp) [] (by simp) (by simp) (by simp) (by simp[H5]) (by decide) (by simp) (by simp[By]) (by simp[By]) ?_
 simp[By,Sw,Xa];refine D4 hr (by simp) [] (by simp) (by simp[Ap,hLc]) (by simp) (by simp[H5]) (by decide) (by simp[By]) (by simp[By]) (by simp[By]) ?_
 simp[By,Sw,Xa,Ap,hLc,L1,C0,LS];exact Z4 hKv [(4,24)] (by simp[Ap,hLc])
set_option maxRecDepth 100000 in
set_option maxHeartbeats 8000000 in
theorem Z74(rg:List (List Aa))(Ap:∀ q,Z3 q rg=rg)(re lo F:Int)(ls:List Lt)(f:Int)(z:List Lt)(M:List (List Aa))(Pg:M≠[])(hM:∀ q,Z3 q M=M)(e:Int)
 (hr:AV Tryz.prog 174 [.ptr 1 0 0,.agg (Bt f)] ⟨[(1,Bd 2 rg re lo F (ls.map Ab) [] 0)],3⟩ fun v m=>v=.tuple []∧m=⟨[(1,Bd 3 rg re lo F (z.map Ab) M e),(3,.cells 7 M)],4⟩) :
 AV Tryz.prog 74 [.ptr 1 0 0,.agg (Bt f),.ptr 3 0 0] ⟨[(1,Bd 2 rg re lo F (ls.map Ab) [] 0),(3,.cells 1 [[.Ae]])],4⟩ fun v m=>v=.tuple []∧m=⟨[(1,Bd 4 rg re lo F (z.map Ab) M e),(3,.cells 1 [[.sl 5 0 1]]),(4,.cells 7 M),(5,.cells 8 [Bt f])],6⟩:=by
 refine Xk hm [116,174] Tryz.func74 Pc rfl rfl fun K hK=>?_
 have hKv:=hK _ _ ⟨rfl,rfl⟩;clear hK;have hLc:∀ q,Z3 q (ls.map Ab)=ls.map Ab:=fun q=>Y1 q _ (X5 ls)
 have hLz:∀ q,Z3 q (z.map Ab)=z.map Ab:=fun q=>Y1 q _ (X5 z)
 have hs:∀ b,AQ b M=.sl b 0 M.length:=fun b=>N6 Pg
 have hMn:=Pg;generalize ls.map Ab=R at *;generalize z.map Ab=Z at *;unfold Bd Bt at *;simp only[hs]at hKv hr;simp[Ll];refine D4 D2 (by simp) [] (by simp) (by simp) (by simp) (by simp[H5]) (by decide) (by simp) (by simp[By]) (by simp[By]) ?_
 simp[By,Sw,Xa];refine D4 hr (by simp) [] (by simp) (by simp[Ap,hLc,hLz,hM,hs]) (by simp) (by simp[H5]) (by decide) (by simp[By]) (by simp[By]) (by simp[By]) ?_
 simp[By,Sw,Xa,Ap,hLc,hLz,hM,hs,L1,C0,LS];exact Z4 hKv [(4,18),(5,25)] (by simp[Ap,hLc,hLz,hM,hs])
end Go.Ac
end
section
namespace Go.Ac
open Go Go.AE Go.Proofs
open Go.Plain
theorem oK:Al Tryz.prog 75 [.Ae] .Ae:=by
 refine E5 hm 1 Tryz.func75 Up rfl rfl rfl rfl fun K hK=>?_
 have hKv:=hK .Ae ⟨[],1⟩ rfl;clear hK;simp;exact Z4 hKv [] (by simp)
set_option maxRecDepth 100000 in
set_option maxHeartbeats 8000000 in
theorem wX(rg:List (List Aa))(Ap:∀ q,Z3 q rg=rg)(re lo F:Int)(ls:List Lt)(f:Int)(e:Int)
 (hr:AV Tryz.prog 74 [.ptr 1 0 0,.agg (Bt f),.ptr 3 0 0] ⟨[(1,Bd 2 rg re lo F (ls.map Ab) [] 0),(3,.cells 1 [[.Ae]])],4⟩ fun v m=>v=.tuple []∧m=⟨[(1,Bd 2 rg re lo F (ls.map Ab) [] e),(3,.cells 1 [[.sl 4 0 1]]),(4,.cells 8 [Bt f])],5⟩) :
 AV Tryz.prog 39 [.ptr 1 0 0,.agg (Bt f)] ⟨[(1,Bd 2 rg re lo F (ls.map Ab) [] 0)],3⟩ fun v m=>v=.sl 3 0 1∧m=⟨[(1,Bd 2 rg re lo F (ls.map Ab) [] e),(3,.cells 8 [Bt f])],4⟩:=by
 refine W9 hm Tryz.func39 Pb rfl rfl fun K hK=>?_
 have hKv:=hK _ _ ⟨rfl,rfl⟩;clear hK;have hLc:∀ q,Z3 q (ls.map Ab)=ls.map Ab:=fun q=>Y1 q _ (X5 ls)
 generalize ls.map Ab=R at *;unfold Bd Bt at *;simp;refine Y5 oK ?_;simp;refine Z6 hr [(3,5)] (by simp) (by simp[Ap,hLc]) (by simp) ?_
 rintro r sm ⟨rfl,rfl⟩;simp[Ap,hLc];exact Z4 hKv [(3,31)] (by simp +contextual [Ap,hLc])
set_option maxRecDepth 100000 in
set_option maxHeartbeats 8000000 in
theorem Z01(rg:List (List Aa))(Ap:∀ q,Z3 q rg=rg)(re lo F:Int)(ls:List Lt)(f:Int)(z:List Lt)(M:List (List Aa))(Pg:M≠[])(hM:∀ q,Z3 q M=M)(e:Int)
 (hr:AV Tryz.prog 74 [.ptr 1 0 0,.agg (Bt f),.ptr 3 0 0] ⟨[(1,Bd 2 rg re lo F (ls.map Ab) [] 0),(3,.cells 1 [[.Ae]])],4⟩ fun v m=>v=.tuple []∧m=⟨[(1,Bd 4 rg re lo F (z.map Ab) M e),(3,.cells 1 [[.sl 5 0 1]]),(4,.cells 7 M),(5,.cells 8 [Bt f])],6⟩) :
 AV Tryz.prog 39 [.ptr 1 0 0,.agg (Bt f)] ⟨[(1,Bd 2 rg re lo F (ls.map Ab) [] 0)],3⟩ fun v m=>v=.sl 4 0 1∧m=⟨[(1,Bd 3 rg re lo F (z.map Ab) M e),(3,.cells 7 M),(4,.cells 8 [Bt f])],5⟩:=by
 refine W9 hm Tryz.func39 Pb rfl rfl fun K hK=>?_
 have hKv:=hK _ _ ⟨rfl,rfl⟩;clear hK;have hLc:∀ q,Z3 q (ls.map Ab)=ls.map Ab:=fun q=>Y1 q _ (X5 ls)
 have hLz:∀ q,Z3 q (z.map Ab)=z.map Ab:=fun q=>Y1 q _ (X5 z)
 have hs:∀ b,AQ b M=.sl b 0 M.length:=fun b=>N6 Pg
 generalize ls.map Ab=R at *;generalize z.map Ab=Z at *;unfold Bd Bt at *;simp only[hs]at hKv hr;simp;refine Y5 oK ?_;simp;refine Z6 hr [(3,5)] (by simp) (by simp[Ap,hLc,hLz,hM,hs]) (by simp) ?_
 rintro r sm ⟨rfl,rfl⟩;simp[Ap,hLc,hLz,hM,hs];exact Z4 hKv [(3,31),(4,32)] (by simp +contextual [Ap,hLc,hLz,hM,hs])
end Go.Ac
end
section
namespace Go.Ac
open Go Go.AE Go.Proofs
open Go.Plain
set_option maxRecDepth 100000 in
set_option maxHeartbeats 8000000 in
theorem cS(f n:Int)(ls:List Lt)(h:ls.length≤1000)(hP:Fq ls)(hq:∀ l,l∈ls→l.k=1→0≤l.r∧l.r≤1000) :
 AV Tryz.prog 42 [cV f ls,.int .i64 n] ⟨[],1⟩ fun r m=>∃ ps:List (Nat×Nat),ps.Perm (Ec ls n ls.length)∧YI ls ps∧r=AQ 1 (ps.map Bk)∧m=⟨AM 1 2 (ps.map Bk) [],2⟩:=by
 refine W9 hm Tryz.func42 oF rfl rfl fun K hK=>?_
 have Ak:∀ q,Z3 q (ls.map Ab)=ls.map Ab:=fun q=>Y1 q _ (X5 ls)
 have hlen:(ls.map Ab).length=ls.length:=lM ..;have hg:=fun i hi=>Lu ls (i:=i) hi
 have h151:=IL;have hsort:=fun ps h1 h2 h3=>Z5i f ls ps h1 h2 h3
 have hrL:∀ (ps:List (Nat×Nat)) q,Z3 q (ps.map Bk)=ps.map Bk:=fun ps q=>Y1 q _ (aX ps)
 unfold cV at *;generalize ls.map Ab=rows at *;simp[hlen];refine W5 (α:=Nat) (fun i=>[(13,.int .i64 i),(12,.int .i64 ls.length),(11,.Aj rows),(6,.bool (!Z8 ls i)),(5,AQ 2 ((Ec ls n i).map Bk)),(2,.ptr 1 0 0),(1,.int .i64 n)])
  (fun i=>⟨(1,.cells 2 [[.int .i64 f,.Aj rows]]) :: AM 2 2 ((Ec ls n i).map Bk) [],3⟩) (fun i=>ls.length - i) (fun i=>i≤ls.length) 0 [] (by simp[Ak,vw]; rfl) (by simp) ?_
 rintro i hi N hN
 try simp only at hi hN ⊢
 by_cases hlt:i<ls.length
 ·have hgi:=hg i hlt;obtain⟨hgl,hg2⟩:=Y8 hgi;have hw:=Y7 ((i:Int)+1);have h8:=h151 (at' ls i);have hN':=hN (i+1);have hLl:(Ec ls n i).length≤1048575:=by have:=wJ (ls:=ls) (f:=n) (n:=i); omega
  have hrLi:=hrL (Ec ls n i);rw[Tj hlt,Ydl]at hN';by_cases hk:(at' ls i).k=1
  ·have hp:Am (at' ls i)=true:=by simp[Am,hk]
   rw[iP hp]at hN';obtain⟨y,hy⟩:∃ y:Nat,(i+1) % ls.length=y:=⟨_,rfl⟩
   have hj:y<ls.length:=by rw[← hy]; exact Nat.mod_lt _ (by omega)
   have hy3:((i:Int)+1).tmod (ls.length:Int)=(y:Int):=by rw[← hy]; rfl
   have hl0:¬(ls.length:Int)=0:=by omega
   have hl1:¬ls.length=0:=by omega
   have hl2:¬ls=[]:=fun e=>hl1 (by rw[e]; rfl)
   have hgj:=hg _ hj;obtain⟨hgjl,hgj2⟩:=Y8 hgj;have CY:Mx ls i=at' ls y:=by unfold Mx; rw[hy]
   rw[decide_eq_true hk]at h8;simp only[Ab,hk]at h8;simp[hlen,hlt,hgi,hg2,hw,Ab,hk];refine Y5 h8 ?_;by_cases hd:Z8 ls i=true
   ·by_cases hm:kQ ls i=n
    ·have hlp:C5 ls n i=true:=by unfold C5; simp[hk,hd,hm]
     rw[iP hlp,List.map_append]at hN';have hm':(if (at' ls i).g<(at' ls y).g then (at' ls y).g else (at' ls i).g)=n:=by rw[← hm]; unfold kQ; rw[CY]
     by_cases he:(at' ls i).g=n
     ·have hA:NT ls n i=(y,i):=by unfold NT; rw[iP he,hy]
      rw[hA]at hN';rw[he]at hm';simp[hlen,hlt,hw,hy3,hl0,hl1,hl2,hgj,hgj2,hd,Ab,hm',he,hLl];exact hN' [(2,47)] _ _ (by omega) (by omega) (by simp +contextual [Ak,hrLi,hd,Bk])
     ·have hA:NT ls n i=(i,y):=by unfold NT; rw[iN he,hy]
      rw[hA]at hN';simp[hlen,hlt,hw,hy3,hl0,hl1,hl2,hgj,hgj2,hd,Ab,hm',he,hLl];exact hN' [(2,47)] _ _ (by omega) (by omega) (by simp +contextual [Ak,hrLi,hd,Bk])
    ·have hlp:¬C5 ls n i=true:=by unfold C5; simp[hm]
     rw[iN hlp]at hN';have hm':¬(if (at' ls i).g<(at' ls y).g then (at' ls y).g else (at' ls i).g)=n:=by rw[← CY]; exact hm
     simp[hlen,hlt,hw,hy3,hl0,hl1,hl2,hgj,hgj2,hd,Ab,hm'];exact hN' [] _ _ (by omega) (by omega) (by simp +contextual [Ak,hrLi,hd])
   ·have hd':Z8 ls i=false:=by simpa using hd
    have hlp:¬C5 ls n i=true:=by unfold C5; simp[hd']
    rw[iN hlp]at hN';simp[hlen,hlt,hw,hy3,hl0,hl1,hl2,hgj,hgj2,hd',Ab];exact hN' [] _ _ (by omega) (by omega) (by simp +contextual [Ak,hrLi,hd'])
  ·have hp:Am (at' ls i)=false:=by simp[Am,hk]
   have hlp:¬C5 ls n i=true:=by unfold C5; simp[hk]
   rw[iN (by simp[hp]),iN hlp]at hN'
   rw[decide_eq_false hk]at h8;simp only[Ab]at h8;simp[hlen,hlt,hgi,hg2,hw,Ab];refine Y5 h8 ?_;simp[hw];exact hN' [] _ _ (by omega) (by omega) (by simp +contextual [Ak,hrLi])
 ·have hie:i=ls.length:=by omega
  subst hie;by_cases h0:Ec ls n ls.length=[]
  ·have hK':=hK _ _ ⟨[],by rw[h0],List.Pairwise.nil,rfl,rfl⟩
   simp[hlen,hlt,h0];refine Z6 (we ⟨[],3⟩ (.func (.func 79) [] [.ptr 1 0 0])) [] rfl (by simp) (by simp) ?_
   rintro r sm ⟨rfl,rfl⟩;simp;exact Z4 hK' [] (by simp)
  ·have hLp:∀ p,p∈Ec ls n ls.length→A8 ls p:=fun p hp=>by
    obtain⟨h1,h2⟩:=(Z35 hP hp).1;have:=hq _ (O0 h1) h2;exact⟨h1,this.1,this.2⟩
   have hs:=hsort _ h0 hLp (by have:=Z4z (ls:=ls) (f:=n); unfold qd at this; omega)
   have hrL0:=hrL (Ec ls n ls.length);have hnm:(Ec ls n ls.length).map Bk≠[]:=by simpa using h0
   have e1:AQ 2 ((Ec ls n ls.length).map Bk)=.sl 2 0 (Ec ls n ls.length).length:=by rw[N6 hnm,lM]
   have e2:AM 2 2 ((Ec ls n ls.length).map Bk) []=[(2,.cells 2 ((Ec ls n ls.length).map Bk))]:=M4 hnm;simp[hlen,hlt,e1,e2];refine Z6 hs [] rfl (by simp[Ak,hrL0]) (by simp) ?_
   rintro r sm ⟨rfl,ps,hperm,hrank,rfl⟩;have hpl:=hperm.length_eq;have hnp:ps.map Bk≠[]:=fun e=>by
    have h1:ps.length=0:=by simpa using congrArg List.length e
    exact h0 (List.length_eq_zero_iff.1 (by omega))
   have hrps:=hrL ps;have hK':=hK _ _ ⟨ps,hperm,hrank,rfl,rfl⟩;rw[N6 hnp,M4 hnp,lM]at hK';simp[hrps,Ak,← hpl];exact Z4 hK' [(1,2)] (by simp[hrps])
end Go.Ac
end
section
namespace Go.Ac
open Go Go.AE Go.Proofs
open Go.Plain
set_option maxRecDepth 100000 in
set_option maxHeartbeats 8000000 in
theorem Z2i(fs:List Fg)(re lo f:Int)(GW:fs.length≤1000):Al Tryz.prog 71 [Dx fs re lo,.agg (Bt f)] (.bool (decide (f<1∨(fs.length:Int)<f))):=by
 refine R2 hm Tryz.func71 Uo rfl rfl (by simp[X8,Aa.closed,H9,Dx,Bt]) trivial fun K hK=>?_
 have Ak:∀ q,Z3 q (fs.map Ax)=fs.map Ax:=fun q=>Y1 q _ (H9 fs)
 have hlen:(fs.map Ax).length=fs.length:=lM ..;unfold Dx Bt at *;generalize fs.map Ax=R at *;have fin:f<1∨(fs.length:Int)<f→K (.bool true) ⟨[],1⟩:=fun h=>by rwa[decide_eq_true h]at hK
 by_cases h1:f<1
 ·have fin:=fin (.inl h1);simp[hlen,h1];exact Z4 fin [] (by simp)
 ·by_cases h2:(fs.length:Int)<f
  ·have fin:=fin (.inr h2);simp[hlen,h1,h2];exact Z4 fin [] (by simp)
  ·rw[decide_eq_false (by omega)]at hK
   simp[hlen,h1,h2];refine W5 (α:=Unit) (fun _=>[(23,.int .i64 0),(22,.int .i64 0),(3,.ptr 2 0 0),(2,.ptr 1 0 0)]) (fun _=>⟨[(2,.cells 8 [[.int .i64 1,.int .i64 f,.int .i64 0,.int .i64 0,.bool false,.int .i64 0,.Ae,.bool false]]),(1,.cells 3 [[.Aj R,.int .i64 re,.int .i64 lo]])],3⟩) (fun _=>0) (fun _=>True) () [] (by simp[Ak]) trivial ?_
   intro _ _ N hN;simp;exact Z4 hK [] (by simp)
set_option maxRecDepth 100000 in
set_option maxHeartbeats 8000000 in
theorem Z24(fs:List Fg)(re lo F f:Int)(ls:List Lt)(GW:fs.length≤1000)(hl:ls.length≤1000)(Post:Aa→Ad→Prop)
 (DO:∀ e:Int,e≠0→Post (.tuple [.nilPtr,.int .i64 e]) ⟨[],1⟩)
 (hok:KK fs re lo F ls=0→1≤f→f≤fs.length→Post (.tuple [.ptr 1 0 0,.int .i64 0]) ⟨[(1,Bd 2 (fs.map Ax) re lo F (ls.map Ab) [] 0)],2⟩) :
 AV Tryz.prog 38 [Dx fs re lo,cV F ls,.agg (Bt f)] ⟨[],1⟩ Post:=by
 refine W9 hm Tryz.func38 Um rfl rfl fun K hK=>?_
 have hKb:=fun e h=>hK _ _ (DO e h)
 have hKo:=fun h1 h2 h3=>hK _ _ (hok h1 h2 h3)
 clear hK DO hok;have hchk:=cR fs re lo F ls GW hl;have hwr:=Z2i fs re lo f GW;have Ak:∀ q,Z3 q (fs.map Ax)=fs.map Ax:=fun q=>Y1 q _ (H9 fs)
 have hLc:∀ q,Z3 q (ls.map Ab)=ls.map Ab:=fun q=>Y1 q _ (X5 ls)
 generalize KK fs re lo F ls=e at *;unfold Dx cV Bt Bd at *;generalize fs.map Ax=R at *;generalize ls.map Ab=L at *;by_cases he:e=0
 ·subst he;have hKo:=hKo rfl;by_cases hw:f<1∨(fs.length:Int)<f
  ·rw[decide_eq_true hw]at hwr;have hKb:=hKb 2 (by decide)
   simp;refine Y5 hchk ?_;simp;refine Y5 hwr ?_;simp;exact Z4 hKb [] (by simp)
  ·rw[decide_eq_false hw]at hwr;have hKo:=hKo (by omega) (by omega)
   simp;refine Y5 hchk ?_;simp;refine Y5 hwr ?_;simp;exact Z4 hKo [(1,18)] (by simp[Ak,hLc])
 ·have hKb:=hKb e he;simp;refine Y5 hchk ?_;simp[he];exact Z4 hKb [] (by simp)
set_option maxRecDepth 100000 in
set_option maxHeartbeats 8000000 in
theorem Z64(fs:List Fg)(re lo F f:Int)(ls:List Lt)(GW:fs.length≤1000)(hl:ls.length≤1000)
 (hex:KK fs re lo F ls=0→1≤f→f≤fs.length →
   (∃ e:Int,e≠0∧AV Tryz.prog 39 [.ptr 1 0 0,.agg (Bt f)] ⟨[(1,Bd 2 (fs.map Ax) re lo F (ls.map Ab) [] 0)],3⟩ fun v m=>v=.sl 3 0 1∧m=⟨[(1,Bd 2 (fs.map Ax) re lo F (ls.map Ab) [] e),(3,.cells 8 [Bt f])],4⟩) ∨
   (∃(z:List Lt) (M:List (List Aa)) (e:Int),M≠[]∧M.length≤2∧(∀ q,Z3 q M=M)∧(e=0→MS F f ls z) ∧
     AV Tryz.prog 39 [.ptr 1 0 0,.agg (Bt f)] ⟨[(1,Bd 2 (fs.map Ax) re lo F (ls.map Ab) [] 0)],3⟩ fun v m=>v=.sl 4 0 1∧m=⟨[(1,Bd 3 (fs.map Ax) re lo F (z.map Ab) M e),(3,.cells 7 M),(4,.cells 8 [Bt f])],5⟩)) :
 AV Tryz.prog 12 [Dx fs re lo,cV F ls,.agg (Bt f)] ⟨[],1⟩ fun r m=>
  (∃ e:Int,e≠0∧r=.tuple [.agg [.int .i64 0,.Ae],.Ae,.int .i64 e]∧m=⟨[],1⟩) ∨
  (∃(z:List Lt) (M:List (List Aa)),KK fs re lo F ls=0∧1≤f∧f≤fs.length∧(∀ q,Z3 q M=M)∧MS F f ls z∧r=.tuple [.agg [.int .i64 F,.Aj (z.map Ab)],.sl 1 0 M.length,.int .i64 0]∧m=⟨[(1,.cells 7 M)],2⟩):=by
 have hbg:=Z24 fs re lo F f ls GW hl;have Ak:∀ q,Z3 q (fs.map Ax)=fs.map Ax:=fun q=>Y1 q _ (H9 fs)
 have hLc:∀ q,Z3 q (ls.map Ab)=ls.map Ab:=fun q=>Y1 q _ (X5 ls)
 have hop:∀ q,Q5 q (Bt f)=Bt f:=fun q=>rfl
 refine W9 hm Tryz.func12 Ul rfl rfl fun K hK=>?_
 have hKb:=fun e h=>hK _ _ (.inl ⟨e,h,rfl,rfl⟩)
 have hKo:=fun z M h1 h2 h3 h4 h5=>hK _ _ (.inr ⟨z,M,h1,h2,h3,h4,h5,rfl,rfl⟩)
 clear hK;by_cases hc:KK fs re lo F ls=0∧1≤f∧f≤fs.length
 ·obtain⟨c1,c2,c3⟩:=hc;have hb:=hbg (fun r m=>(∃ e:Int,e≠0∧r=.tuple [.nilPtr,.int .i64 e]∧m=⟨[],1⟩)∨(r=.tuple [.ptr 1 0 0,.int .i64 0]∧m=⟨[(1,Bd 2 (fs.map Ax) re lo F (ls.map Ab) [] 0)],2⟩)) (fun e h=>.inl ⟨e,h,rfl,rfl⟩) (fun _ _ _=>.inr ⟨rfl,rfl⟩)
  rcases hex c1 c2 c3 with⟨e,he,hx⟩|⟨z,M,e,m1,m2,m3,m4,hx⟩
  ·have hKb':=hKb e he;unfold Dx cV Bt Bd at *;generalize fs.map Ax=R at *;generalize ls.map Ab=L at *;simp;refine Z6 hb [] (by simp[Ak,hLc]) (by simp) (by simp) ?_
   rintro r sm (⟨e2,he2,rfl,rfl⟩|⟨rfl,rfl⟩)
   ·simp[he2];exact Z4 (hKb e2 he2) [] (by simp)
   ·simp[Ak,hLc];refine Z6 hx [(1,16)] (by simp) (by simp[Ak,hLc]) (by simp) ?_
    rintro r sm ⟨rfl,rfl⟩;simp[Ak,hLc,he];exact Z4 hKb' [] (by simp)
  ·have hLz:∀ q,Z3 q (z.map Ab)=z.map Ab:=fun q=>Y1 q _ (X5 z)
   have hs:∀ b,AQ b M=.sl b 0 M.length:=fun b=>N6 m1
   have hKe:=fun he=>hKb e he
   have hKo':=fun h=>hKo z M c1 c2 c3 m3 h
   unfold Dx cV Bt Bd at *;simp only[hs]at hx;generalize fs.map Ax=R at *;generalize ls.map Ab=L at *;generalize z.map Ab=Z at *;simp;refine Z6 hb [] (by simp[Ak,hLc]) (by simp) (by simp) ?_
   rintro r sm (⟨e2,he2,rfl,rfl⟩|⟨rfl,rfl⟩)
   ·simp[he2];exact Z4 (hKb e2 he2) [] (by simp)
   ·simp[Ak,hLc];refine Z6 hx [(1,16)] (by simp) (by simp[Ak,hLc]) (by simp) ?_
    rintro r sm ⟨rfl,rfl⟩;by_cases he:e=0
    ·subst he;have hKo':=hKo' (m4 rfl);simp[Ak,hLc,hLz,m3];exact Z4 hKo' [(1,22)] (by simp[Ak,hLc,hLz,m3])
    ·have hKe:=hKe he;simp[Ak,hLc,he,hLz,m3];exact Z4 hKe [] (by simp)
 ·have hb:=hbg (fun r m=>∃ e:Int,e≠0∧r=.tuple [.nilPtr,.int .i64 e]∧m=⟨[],1⟩) (fun e h=>⟨e,h,rfl,rfl⟩) (fun h1 h2 h3=>absurd ⟨h1,h2,h3⟩ hc)
  unfold Dx cV Bt at *;generalize fs.map Ax=R at *;generalize ls.map Ab=L at *;simp;refine Z6 hb [] (by simp[Ak,hLc]) (by simp) (by simp) ?_
  rintro r sm ⟨e2,he2,rfl,rfl⟩;simp[he2];exact Z4 (hKb e2 he2) [] (by simp)
end Go.Ac
end
section
namespace Go.Ac
open Go Go.AE Go.Proofs
open Go.Plain
theorem Ydq{F f:Int}{ls:List Lt}(hl:ls.length≤1000)(hP:Fq ls)(hq:∀ l,l∈ls→l.k=1→0≤l.r∧l.r≤1000):ED F ls f (decide (Ec ls f ls.length=[])):=by
 refine(cS F f ls hl hP hq).mono fun r m hh=>?_
 obtain⟨ps,h1,h2,rfl,rfl⟩:=hh;refine⟨ps.map Bk,?_,fun q=>Y1 q _ (aX ps),rfl,rfl⟩
 have e:(Ec ls f ls.length=[])↔(ps.map Bk=[]):=by
  rw[List.map_eq_nil_iff];exact⟨fun e=>by rw[e]at h1; exact List.perm_nil.1 h1,fun e=>by rw[e]at h1; exact List.nil_perm.1 h1⟩
 exact decide_eq_decide.2 e
theorem dI(fs:List Fg)(re lo F f:Int)(ls:List Lt)(GW:fs.length≤1000)(hl:ls.length≤400) :
 AV Tryz.prog 12 [Dx fs re lo,cV F ls,.agg (Bt f)] ⟨[],1⟩ fun r m=>
  (∃ e:Int,e≠0∧r=.tuple [.agg [.int .i64 0,.Ae],.Ae,.int .i64 e]∧m=⟨[],1⟩) ∨
  (∃(z:List Lt) (M:List (List Aa)),KK fs re lo F ls=0∧1≤f∧f≤fs.length∧(∀ q,Z3 q M=M)∧MS F f ls z∧r=.tuple [.agg [.int .i64 F,.Aj (z.map Ab)],.sl 1 0 M.length,.int .i64 0]∧m=⟨[(1,.cells 7 M)],2⟩):=by
 refine Z64 fs re lo F f ls GW (by omega) fun h1 h2 h3=>?_
 have Ap:∀ q,Z3 q (fs.map Ax)=fs.map Ax:=fun q=>Y1 q _ (H9 fs)
 unfold KK at h1;split at h1
 ·omega
 ·split at h1
  ·omega
  ·rename_i hec;split at h1
   ·rename_i hFP;have hec:U0 F ls=0:=by omega
    have hP:Fq ls:=by simpa[Fb]using hFP.2
    have hq:∀ l,l∈ls→l.k=1→0≤l.r∧l.r≤1000:=fun l hm hk=>by
     have h0:ls≠[]:=fun e=>by subst e; simp at hm
     have hV:=MG hec h0;have hV2:=hV.key hm (by simp[Am,hk])
     have h4:Ay l.g ls≤ls.length:=B3;omega
    have hlp:=Ydq (F:=F) (f:=f) (ls:=ls) (by omega) hP hq
    by_cases h0:ls=[]
    ·subst h0;have hlp:ED F [] f true:=hlp;have hr:=rW (fs.map Ax) Ap re lo F [] f hlp;exact .inl ⟨8,by decide,wX _ Ap re lo F [] f 8 (uD _ Ap re lo F [] f 8 hr)⟩
    ·rcases Z6r (fs.map Ax) Ap re lo F ls hl hec h0 f ⟨h2,by rw[hFP.1]; exact h3⟩ _ hlp with⟨e,he,hr⟩|⟨z,M,e,m1,m2,m3,m4,hr⟩
     ·exact .inl ⟨e,he,wX _ Ap re lo F ls f e (uD _ Ap re lo F ls f e hr)⟩
     ·exact .inr ⟨z,M,e,m1,m2,m3,m4,Z01 _ Ap re lo F ls f z M m1 m3 e (Z74 _ Ap re lo F ls f z M m1 m3 e hr)⟩
   ·omega
end Go.Ac
end
section
namespace Go.Ac
open Go Go.AE Go.Proofs
open Go.Plain
theorem ig{l:List Int}{i:Nat}(h:i<l.length):(Z1 l)[i]? = some [.int .i64 (l.getD i 0)]:=by
 unfold Z1;rw[gM,gE h,List.getD,gE h];rfl
theorem tQ(l:List Int):((Z1 l).all fun x=>x.length == 1)=true:=by simp[Z1]
theorem dP(g:Int)(h0:0≤g)(h1:g≤40):Al Tryz.prog 216 [.int .i64 g] (.bool false):=by
 refine R2 hm Tryz.func216 ur rfl rfl rfl trivial fun K hK=>?_
 have a:¬g<0:=by omega
 have b:¬40<g:=by omega
 simp[a,b];exact Z4 hK [] (by simp)
theorem Uc(k:Int)(h0:0≤k)(h1:k≤40):Al Tryz.prog 141 [.int .i64 k] (.bool true):=by
 refine R2 hm Tryz.func141 Z7f rfl rfl rfl trivial fun K hK=>?_
 simp[h0,h1];exact Z4 hK [] (by simp)
set_option maxRecDepth 100000 in
theorem dK(l:List Int)(hl:l.length≤1000)(h:∀ i,i<l.length→0≤l.getD i 0∧l.getD i 0≤40):Al Tryz.prog 276 [.Aj (Z1 l),.func (.func 216) [] []] (.int .i64 (-1)):=by
 refine R2 hm Tryz.func276 XY rfl rfl (by simp only[X8,Aa.closed,W8,Bool.and_true]) trivial fun K hK=>?_
 have hr:∀ q,Z3 q (Z1 l)=Z1 l:=fun q=>Y1 q _ (W8 l)
 have hlen:=O4 l;have hg:=fun i hi=>ig (l:=l) (i:=i) hi
 generalize Z1 l=R at *;simp;refine W5 (α:=Nat) (fun i=>[(8,.int .i64 i),(7,.int .i64 l.length),(1,.func (.func 216) [] []),(0,.Aj R)]) (fun i=>⟨[],1⟩) (fun i=>l.length - i) (fun i=>i≤l.length) 0 [] (by simp[hr,hlen]) (by simp) ?_
 intro i hi N hN
 try simp only at hi hN ⊢
 by_cases hlt:i<l.length
 ·have hgi:=hg i hlt;obtain⟨hgl,hg2⟩:=Y8 hgi;have hw:=Y7 ((i:Int)+1);have hc:=dP _ (h i hlt).1 (h i hlt).2;have hN':=hN (i+1);generalize l.getD i 0=g at *;simp[hlt,hlen,hgi,hg2];refine Y5 hc ?_;simp[hw];exact hN' [] _ _ (by omega) (by omega) (by simp[hr])
 ·obtain rfl:i=l.length:=by omega
  simp;exact Z4 hK [] (by simp)
theorem dG(l:List Int)(hl:l.length≤1000)(h:∀ i,i<l.length→0≤l.getD i 0∧l.getD i 0≤40):Al Tryz.prog 215 [.Aj (Z1 l),.func (.func 216) [] []] (.bool false):=by
 refine R2 hm Tryz.func215 ZJ rfl rfl (by simp only[X8,Aa.closed,W8,Bool.and_true]) trivial fun K hK=>?_
 have hc:=dK l hl h;have hr:∀ q,Z3 q (Z1 l)=Z1 l:=fun q=>Y1 q _ (W8 l)
 generalize Z1 l=R at *;simp;refine Y5 hc ?_;simp;exact Z4 hK [] (by simp)
theorem Z4d(l:List Int)(h2:l.length % 2=0)(hl:l.length≤400)(h:∀ i,i<l.length→0≤l.getD i 0∧l.getD i 0≤40):Al Tryz.prog 142 [.Aj (Z1 l)] (.bool true):=by
 refine R2 hm Tryz.func142 xY rfl rfl (by simp only[X8,Aa.closed,W8,Bool.and_true]) trivial fun K hK=>?_
 have hc:=dG l (by omega) h
 have hlen:=O4 l;have e1:((l.length:Nat):Int).tmod 2=0:=by
  have:((l.length:Nat):Int).tmod 2=((l.length % 2:Nat):Int):=rfl;rw[this,h2]; rfl
 have e2:(l.length:Int)≤400:=by omega
 have e3:IntKind.i64.wrap 0=0:=rfl;have hr:∀ q,Z3 q (Z1 l)=Z1 l:=fun q=>Y1 q _ (W8 l)
 generalize Z1 l=R at *;simp[hlen,e1,e2,e3];refine Y5 hc ?_;simp;exact Z4 hK [] (by simp)
def Mo:List Int→Int
 | []=>0
 | x :: r=>r.foldl (fun a b=>if a<b then b else a) x
theorem qB:∀ (l:List Int) (x k:Int),x≤k→(∀ y,y∈l→y≤k)→l.foldl (fun a b=>if a<b then b else a) x≤k
 | [],x,k,h,_=>h
 | y :: r,x,k,h,hr=>by
  rw[List.foldl_cons];exact qB r _ k (by split; exact hr y (List.mem_cons_self ..); exact h) fun z hz=>hr z (List.mem_cons_of_mem _ hz)
set_option maxHeartbeats 2000000 in
theorem dL(x:Int)(l:List Int)(hl:l.length≤100000):Al Tryz.prog 143 [.Aj (Z1 (x :: l))] (.int .i64 (Mo (x :: l))):=by
 refine R2 hm Tryz.func143 Z6j rfl rfl (by simp only[X8,Aa.closed,W8,Bool.and_true]) trivial fun K hK=>?_
 have hRl:=O4 (x :: l);have hrR:∀ q,Z3 q (Z1 (x :: l))=Z1 (x :: l):=fun q=>Y1 q _ (W8 _)
 have hRg:=fun i (h:i<(x :: l).length)=>ig h
 have h0:=hRg 0 (by simp)
 obtain⟨_,h02⟩:=Y8 h0;rw[lC]at hRl;generalize Z1 (x :: l)=R at *;have hne:¬((l.length:Int)+1<1):=by omega
 have hRb:¬((R.length:Int)<1):=by omega
 simp[hRl,hne,h0,h02];refine W5 (α:=Nat) (fun i=>[(0,.Aj R),(3,.int .i64 ((l.take i).foldl (fun a b=>if a<b then b else a) x)),(4,.int .i64 ((i:Int)+1))]) (fun _=>⟨[],1⟩) (fun i=>l.length - i) (fun i=>i≤l.length) 0 [] (by simp[hrR]) (by omega) ?_
 intro i hi N hN;by_cases hend:i=l.length
 ·subst hend;rw[List.take_length];simp[hRl];exact Z4 hK [] (by simp[Mo])
 ·have hil:i<l.length:=by omega
  have hg:=hRg (i+1) (by simp; omega)
  obtain⟨_,hg2⟩:=Y8 hg;have hw:=M2 ((i:Int)+1+1) (((i+1:Nat):Int)+1);have hlt:(i:Int)+1<(l.length:Int)+1:=by omega
  have hst:(l.take (i+1)).foldl (fun a b=>if a<b then b else a) x=if (l.take i).foldl (fun a b=>if a<b then b else a) x<(x :: l).getD (i+1) 0 then (x :: l).getD (i+1) 0 else (l.take i).foldl (fun a b=>if a<b then b else a) x:=by
   rw[List.take_add_one,gE hil,Option.toList_some,List.foldl_append];have:(x :: l).getD (i+1) 0=l[i]:=by rw[List.getD,List.getElem?_cons_succ,gE hil]; rfl
   rw[this];rfl
  have hN1:=hN (i+1);rw[hst]at hN1;have hz:(0:Int)≤(i:Int)+1:=by omega
  have htn:((i:Int)+1).toNat=i+1:=by omega
  generalize (x :: l).getD (i+1) 0=y at *;generalize (l.take i).foldl (fun a b=>if a<b then b else a) x=z at *
  simp[hRl,hlt,hg,hg2,hw,hz,htn,hil,LO];exact hN1 [] _ _ (by omega) (by omega) (by simp[hrR])
theorem yd(k:Int)(BE:0≤k)(hk:k≤40)(l:List Int)(h0:l≠[])(h2:l.length % 2=0)(hl:l.length≤400)(h:∀ g,g∈l→0≤g∧g≤k):Al Tryz.prog 91 [.int .i64 k,.Aj (Z1 l)] (.bool true):=by
 refine R2 hm Tryz.func91 tI rfl rfl (by simp only[X8,Aa.closed,W8,Bool.and_true]) trivial fun K hK=>?_
 have hgd:∀ i,i<l.length→0≤l.getD i 0∧l.getD i 0≤40:=fun i hi=>by
  have:l.getD i 0∈l:=by rw[List.getD,gE hi]; exact List.getElem_mem hi
  have:=h _ this;omega
 have hc:=Z4d l h2 hl hgd;have hf:=Uc k BE hk;have Dl:Al Tryz.prog 143 [.Aj (Z1 l)] (.int .i64 (Mo l)):=by
  cases l with
  | nil=>exact absurd rfl h0
  | cons x r=>exact dL x r (by simp at hl; omega)
 have hmk:Mo l≤k:=by
  cases l with
  | nil=>exact absurd rfl h0
  | cons x r=>exact qB r x k (h x (List.mem_cons_self ..)).2 fun y hy=>(h y (List.mem_cons_of_mem _ hy)).2
 have hlen:=O4 l;have hln:¬l.length=0:=by simpa using h0
 have hr:∀ q,Z3 q (Z1 l)=Z1 l:=fun q=>Y1 q _ (W8 l)
 generalize Z1 l=R at *;simp;refine Y5 hf ?_;simp;refine Y5 hc ?_;simp[hlen,hln,h0];refine Y5 Dl ?_;simp[hmk];exact Z4 hK [] (by simp)
theorem Z4u(k:Int)(BE:0≤k)(hk:k≤40)(l:List Int)(h0:l≠[])(h2:l.length % 2=0)(hl:l.length≤400)(h:∀ g,g∈l→0≤g∧g≤k):Al Tryz.prog 59 [.int .i64 k,.Aj (Z1 l)] (.int .i64 0):=by
 refine R2 hm Tryz.func59 sH rfl rfl (by simp only[X8,Aa.closed,W8,Bool.and_true]) trivial fun K hK=>?_
 have hc:=yd k BE hk l h0 h2 hl h;have hlen:=O4 l;have e2:¬(400:Int)<(l.length:Int):=by omega
 have hr:∀ q,Z3 q (Z1 l)=Z1 l:=fun q=>Y1 q _ (W8 l)
 generalize Z1 l=R at *;simp[hlen,e2];refine Y5 hc ?_;simp;exact Z4 hK [] (by simp)
set_option maxRecDepth 100000 in
set_option maxHeartbeats 4000000 in
theorem yY(rows:List (List Aa))(hn:rows≠[])(hl:rows.length≤100000)(h6:(rows.all fun x=>x.length == 1)=true)(hc:U3 rows=true) :
 AV Tryz.prog 60 [.Aj rows] ⟨[],1⟩ fun v m=>v=.sl 1 0 rows.length∧m=⟨[(1,.cells 1 rows)],2⟩:=by
 refine W9 hm Tryz.func60 sJ rfl rfl fun K hK=>?_
 have hr:∀ q,Z3 q rows=rows:=fun q=>Y1 q _ hc
 have hK':=hK _ _ ⟨rfl,rfl⟩;clear hK;have hb:rows.length≤1048576:=by omega
 have he:U6 .eql .slice (.Aj rows) .Ae=some (.bool false):=by
  have:rows.isEmpty=false:=by grind
  simp[U6,EJ,Kl,K8,this]
 simp[he,WO,h6,hn,hb,L1,Aa.cells];exact Z4 hK' [(1,6)] (by simp[hr])
end Go.Ac
end
section
namespace Go.Ac
open Go Go.AE Go.Proofs
open Go.Plain
theorem Zz9(l:List Int)(e:Int):X9 (Ad.get ⟨AM 1 1 (Z1 l) [],2⟩) 4 (.tuple [AQ 1 (Z1 l),.int .i64 e])=some (.tuple [BQ (Z1 l),.int .i64 e]):=by
 have:=RY (get:=Ad.get ⟨AM 1 1 (Z1 l) [],2⟩) (n:=1) (b:=1) (k:=1) (rows:=Z1 l) (by simp) (LQ _)
 rw[X9];simp only[U1];rw[this];rfl
theorem w8(l:List Int):X9 (Ad.get ⟨AM 1 1 (Z1 l) [],2⟩) 4 (AQ 1 (Z1 l))=some (BQ (Z1 l)):=
 RY (get:=Ad.get ⟨AM 1 1 (Z1 l) [],2⟩) (n:=2) (b:=1) (k:=1) (rows:=Z1 l) (by simp) (LQ _)
theorem Z78{ls:List Lt}{i:Nat}(h:i<ls.length):U4 (ls.take (i+1))=U4 (ls.take i)++if (at' ls i).k=1 then [(at' ls i).g]else []:=by
 have e:ls.take (i+1)=ls.take i++[at' ls i]:=by
  rw[List.take_add_one,gE h,at',List.getD,gE h];rfl
 unfold U4;rw[e,List.filter_append,List.map_append]
 congr 1
 by_cases hk:(at' ls i).k=1
 ·rw[iP hk]; simp[Am,hk]
 ·rw[iN hk]; simp[Am,hk]
theorem wQ(ls:List Lt):(U4 ls).length≤ls.length:=by
 unfold U4;rw[lM];exact List.length_filter_le _ _
set_option maxRecDepth 100000 in
set_option maxHeartbeats 8000000 in
theorem Z8s(f:Int)(h:U0 f []=0):Al Tryz.prog 27 [cV f []] (.tuple [.Ae,.int .i64 0]):=by
 refine E5 hm 4 Tryz.func27 mQ rfl rfl rfl rfl fun K hK=>?_
 have hKv:=hK (.tuple [.Ae,.int .i64 0]) ⟨[],1⟩ rfl;clear hK;have h59:=Xq f [] (by simp)
 unfold cV at *;simp;refine Z6 h59 [] (by simp) (by simp) (by simp) ?_
 rintro r sm (⟨he,rfl,rfl⟩|⟨he,h0,_,_,rfl,rfl⟩|⟨he,h0,_,_,hok,rfl,rfl⟩)
 ·exact absurd h he
 ·simp;refine W5 (α:=Unit) (fun _=>[(6,.Ae),(21,.Aj []),(22,.int .i64 0),(23,.int .i64 0)]) (fun _=>⟨[],1⟩) (fun _=>0) (fun _=>True) () [] (by simp) trivial ?_
  intro _ _ N hN;simp;exact Z4 hKv [] (by simp)
 ·exact absurd rfl h0
set_option maxRecDepth 100000 in
set_option maxHeartbeats 8000000 in
theorem Z1f(f:Int)(ls:List Lt)(h:ls.length≤400)(he:U0 f ls=0)(h0:ls≠[]):Al Tryz.prog 27 [cV f ls] (.tuple [BQ (Z1 (U4 ls)),.int .i64 0]):=by
 refine E5 hm 4 Tryz.func27 mQ rfl rfl (by simp[X8,SD]) (by simp[Aa.closed,X8,Ng (W8 _)]) fun K hK=>?_
 have hKv:=hK _ _ (Zz9 (U4 ls) 0);clear hK;have h59:=Xq f ls (by omega)
 have Ak:∀ q,Z3 q (ls.map Ab)=ls.map Ab:=fun q=>Y1 q _ (X5 ls)
 have hg:=fun i hi=>Lu ls (i:=i) hi
 have hlen:(ls.map Ab).length=ls.length:=lM ..;obtain⟨R,hR⟩:∃ R:Nat→List (List Aa),∀ i,R i=Z1 (U4 (ls.take i)):=⟨fun i=>_,fun i=>rfl⟩
 have hR0:R 0=[]:=by rw[hR]; rfl
 have hRl:∀ i,(R i).length≤400:=fun i=>by rw[hR,O4]; have:=wQ (ls.take i); have:=List.length_take_le' i ls; omega
 have hRn:Z1 (U4 ls)=R ls.length:=by rw[hR,List.take_length]
 have hRc:∀ i q,Z3 q (R i)=R i:=fun i q=>by rw[hR]; exact Y1 q _ (W8 _)
 have hRs:∀ i,i<ls.length→R (i+1)=R i++if (at' ls i).k=1 then [[.int .i64 (at' ls i).g]]else []:=fun i hi=>by
  rw[hR,hR,Z78 hi];unfold Z1;rw[List.map_append];split<;>rfl
 rw[hRn]at hKv;unfold cV at *;generalize ls.map Ab=rows at *;simp;refine Z6 h59 [] (by simp[Ak]) (by simp) (by simp) ?_
 rintro r sm (⟨he',rfl,rfl⟩|⟨he,h0',_,_,rfl,rfl⟩|⟨he,_,_,_,hok,rfl,rfl⟩)
 ·exact absurd he he'
 ·exact absurd h0' h0
 ·simp[Ak];refine W5 (α:=Nat) (fun i=>[(23,.int .i64 i),(22,.int .i64 ls.length),(21,.Aj rows),(6,AQ 1 (R i))]) (fun i=>⟨AM 1 1 (R i) [],2⟩) (fun i=>ls.length - i) (fun i=>i≤ls.length) 0 [] (by simp[Ak,hR0,hlen]) (by simp) ?_
  intro i hi N hN
  try simp only at hi hN ⊢
  by_cases hlt:i<ls.length
  ·have hgi:=hg i hlt;obtain⟨hgl,hg2⟩:=Y8 hgi;have hw:=Y7 ((i:Int)+1);have hN':=hN (i+1);have hs:=hRs i hlt;have hRli:(R i).length≤1048575:=by have:=hRl i; omega
   have hRlj:(R i).length<1048576:=by have:=hRl i; omega
   have hRci:=hRc i;by_cases hk:(at' ls i).k=1
   ·rw[iP hk]at hs;rw[hs]at hN';simp[hlt,hlen,hgi,hg2,Ab,hk,hRli,hRlj,hw];exact hN' [(1,14)] _ _ (by omega) (by omega) (by simp +contextual [Ak,hRci])
   ·rw[iN hk,List.append_nil]at hs;rw[hs]at hN';simp[hlt,hlen,hgi,hg2,Ab,hk,hw];exact hN' [] _ _ (by omega) (by omega) (by simp +contextual [Ak,hRci])
  ·obtain rfl:i=ls.length:=by omega
   simp;exact Z4 hKv [] (by simp +contextual [hRc])
end Go.Ac
end
section
namespace Go.Ac
open Go Go.AE Go.Proofs
open Go.Plain
def Eh(p:Nat)(g:Int):List Aa:=[.int .i64 g,.bool (decide (p % 2=0))]
def F3(s:List Int):List (List Aa):=s.mapIdx Eh
theorem oL{s:List Int}{p:Nat}(h:p<s.length):(F3 s)[p]? = some (Eh p (s.getD p 0)):=by
 unfold F3;rw[List.getElem?_mapIdx,gE h,List.getD,gE h];rfl
theorem Z2d(s:List Int)(g:Int):F3 (s++[g])=F3 s++[Eh s.length g]:=by
 unfold F3;rw[List.mapIdx_append];simp
theorem Z2r(s:List Int)(m:Nat):(F3 s).take m=F3 (s.take m):=by
 apply List.ext_getElem?;intro i;unfold F3;rw[List.getElem?_mapIdx,List.getElem?_take,List.getElem?_take,List.getElem?_mapIdx];split<;>rfl
def Df(w:List Int)(i:Nat):List Int:=(stk [] (w.take i)).reverse
theorem Ydk(w:List Int):Df w 0=[]:=rfl
theorem sD(w:List Int):Df w w.length=Cf w:=by unfold Df Cf; rw[List.take_length]
theorem YV(w:List Int)(i:Nat)(hi:i≤w.length):(Df w i).length % 2=i % 2∧(Df w i).length≤i:=by
 unfold Df;rw[List.length_reverse];have h1:=ZT (w.take i) [];have hl:(w.take i).length=i:=by rw[lK]; omega
 rw[hl]at h1;have h2:∀ (v s:List Int),(stk s v).length≤s.length+v.length:=by
  intro v
  induction v with
  | nil=>intro s; exact lR _
  | cons g v ih=>
   intro s;have:=ih (DT s g);have hp:(DT s g).length≤s.length+1:=by
    unfold DT;split
    ·simp
    ·split<;>simp<;>omega
   simp only[stk,lC];omega
 have:=h2 (w.take i) [];simp only[List.length_nil]at h1 this;omega
theorem Z7j{w:List Int}{i:Nat}(hi:i<w.length)(hn:0<(Df w i).length)(hg:(Df w i).getD ((Df w i).length - 1) 0=w.getD i 0):Df w (i+1)=(Df w i).dropLast:=by
 unfold Df at *;have e:w.take (i+1)=w.take i++[w.getD i 0]:=by
  rw[List.take_add_one,gE hi,List.getD,gE hi]; rfl
 rw[e,Xl];generalize stk [] (w.take i)=s at *;cases s with
 | nil=>simp at hn
 | cons t r=>
  have:(t :: r).reverse.getD ((t :: r).reverse.length - 1) 0=t:=by simp[List.getD]
  rw[this]at hg;simp[stk,DT,hg]
theorem Z53{w:List Int}{i:Nat}(hi:i<w.length)(hg:¬(0<(Df w i).length∧(Df w i).getD ((Df w i).length - 1) 0=w.getD i 0)):Df w (i+1)=Df w i++[w.getD i 0]:=by
 unfold Df at *;have e:w.take (i+1)=w.take i++[w.getD i 0]:=by
  rw[List.take_add_one,gE hi,List.getD,gE hi]; rfl
 rw[e,Xl];generalize stk [] (w.take i)=s at *;cases s with
 | nil=>simp[stk,DT]
 | cons t r=>
  have:(t :: r).reverse.getD ((t :: r).reverse.length - 1) 0=t:=by simp[List.getD]
  rw[this]at hg;have:¬t=w.getD i 0:=fun h=>hg ⟨by simp,h⟩
  simp only[stk,DT,iN this];simp
def E6(s:List Int)(k:Nat):List Int:=(s.drop k).take (s.length - 2*k)
theorem A9{s:List Int}{k:Nat}:(E6 s k).length=s.length - 2*k:=by simp[E6]; omega
theorem MW{s:List Int}{k j:Nat}(h:j<s.length - 2*k):(E6 s k).getD j 0=s.getD (k+j) 0:=by
 unfold E6;rw[List.getD,List.getD,List.getElem?_take,iP h,List.getElem?_drop]
theorem wu(s:List Int):E6 s 0=s:=by simp[E6]
theorem zK{s:List Int}{k:Nat}(h:2*k+2≤s.length):E6 s k=s.getD k 0 :: E6 s (k+1)++[s.getD (s.length - k - 1) 0]:=by
 apply List.ext_getElem?;intro j;have hl:(s.getD k 0 :: E6 s (k+1)).length=s.length - 2*k - 1:=by rw[lC,A9]; omega
 by_cases h1:j<s.length - 2*k
 ·have e1:(E6 s k)[j]? = some (s.getD (k+j) 0):=by
   have:=MW (s:=s) (k:=k) h1;rw[← this,List.getD,gE (by rw[A9]; exact h1)]
   rfl
  rw[e1];by_cases h2:j=s.length - 2*k - 1
  ·subst h2;rw[List.getElem?_append_right (by omega),hl,Nat.sub_self]
   simp
   congr 2
   omega
  ·rw[List.getElem?_append_left (by omega)]
   cases j with
   | zero=>rfl
   | succ j=>
    rw[List.getElem?_cons_succ];have:=MW (s:=s) (k:=k+1) (j:=j) (by omega)
    rw[gE (by rw[A9]; omega)]
    rw[List.getD,gE (by rw[A9]; omega)]at this
    simp only[Option.getD_some]at this;rw[this]
    congr 2
    omega
 ·rw[List.getElem?_eq_none (by rw[A9]; omega),List.getElem?_eq_none (by rw[lA,hl]; simp; omega)]
theorem yt{s c:List Int}{k j:Nat}(h:2*k+2≤s.length)(he:s.getD k 0=s.getD (s.length - k - 1) 0)(hc:BV (E6 s (k+1)) c j):BV (E6 s k) c (j+1):=by
 rw[zK h,← he];exact .step _ hc
theorem pW{s:List Int}{k:Nat}(h2:2*k≤s.length)(h:¬(1<s.length - 2*k∧s.getD k 0=s.getD (s.length - k - 1) 0)):BV (E6 s k) (E6 s k) 0:=by
 refine .base fun⟨h1,h3⟩=>h ?_
 rw[A9]at h1;refine⟨h1,?_⟩;have e:=zK (s:=s) (k:=k) (by omega)
 rw[e,List.getLast?_concat,List.cons_append,List.head?_cons]at h3;exact Option.some.inj h3
theorem sC{s c:List Int}{k:Nat}(h:BV s c k):c.length+2*k=s.length:=by
 induction h with
 | base _=>rfl
 | step a _ ih=>simp; omega
theorem We(k:Nat)(c:List Int):(I3 k c).length=c.length:=by
 unfold I3;split
 ·cases c<;>simp[T6]
 ·rfl
theorem wO{s:List Int}{j:Nat}(h:j<s.length):(T6 s).getD j 0=if j+1=s.length then s.getD 0 0 else s.getD (j+1) 0:=by
 cases s with
 | nil=>simp at h
 | cons a r=>
  simp only[lC]at h ⊢;show(r++[a]).getD j 0=_;by_cases h1:j=r.length
  ·subst h1;rw[iP rfl];simp[List.getD]
  ·rw[iN (by omega),List.getD,List.getElem?_append_left (by omega)]
   rfl
end Go.Ac
end
section
namespace Go.Ac
open Go Go.AE Go.Proofs
open Go.Plain
def B8(x:Int):Int:=if x<0 then -1 else if 0<x then 1 else 0
theorem ZU:∀ (i:Nat) (u v:List Int),u.length=v.length→(∀ j,j<i→u.getD j 0=v.getD j 0)→O1 u v=O1 (u.drop i) (v.drop i)
 | 0,_,_,_,_=>rfl
 | i+1,[],[],_,_=>rfl
 | i+1,[],_ :: _,h,_=>by simp at h
 | i+1,_ :: _,[],h,_=>by simp at h
 | i+1,a :: u,b :: v,h,hj=>by
  have h0:a=b:=hj 0 (by omega)
  rw[O1,iP h0];exact ZU i u v (by simpa using h) fun j hji=>hj (j+1) (by omega)
theorem qK{u v:List Int}{i:Nat}(hl:u.length=v.length)(hi:i<u.length)(hj:∀ j,j<i→u.getD j 0=v.getD j 0)(hne:u.getD i 0≠v.getD i 0):O1 u v=u.getD i 0 - v.getD i 0:=by
 rw[ZU i u v hl hj,List.drop_eq_getElem_cons hi,List.drop_eq_getElem_cons (show i<v.length by omega),O1]
 simp only[List.getD,gE hi,gE (show i<v.length by omega),Option.getD_some]at hne ⊢
 rw[iN hne]
theorem yM{u v:List Int}(hl:u.length=v.length)(hj:∀ j,j<u.length→u.getD j 0=v.getD j 0):O1 u v=0:=by
 rw[ZU u.length u v hl hj,List.drop_length,hl,List.drop_length];rfl
theorem yZ{w:List Int}{a i:Nat}(ha:a<w.length)(hi:i<w.length):(Go.Plain.AO w a).getD i 0=w.getD ((a+i) % w.length) 0:=by
 unfold Go.Plain.AO;rw[List.getD,List.getElem?_append,List.length_drop];by_cases h:i<w.length - a
 ·rw[iP h,List.getElem?_drop,Nat.mod_eq_of_lt (by omega),List.getD]
 ·rw[iN h,List.getElem?_take,iP (by omega),List.getD]
  have:(a+i) % w.length=i - (w.length - a):=by
   have e:a+i=(i - (w.length - a))+w.length:=by omega
   rw[e,Nat.add_mod_right,Nat.mod_eq_of_lt (by omega)]
  rw[this]
theorem Ud(x:Int):Al Tryz.prog 217 [.int .i64 x] (.bool false):=by
 refine R2 hm Tryz.func217 Z26 rfl rfl rfl trivial fun K hK=>?_
 simp;exact Z4 hK [] (by simp)
theorem Z55(a b:Int):Al Tryz.prog 146 [.int .i64 a,.int .i64 b] (.int .i64 (B8 (a - b))):=by
 refine R2 hm Tryz.func146 Z7c rfl rfl rfl trivial fun K hK=>?_
 have ha:=Ud a;have hb:=Ud b;unfold B8 at hK;simp;refine Y5 ha ?_;simp;refine Y5 hb ?_;by_cases h1:a<b
 ·rw[iP (by omega)]at hK
  simp[h1];exact Z4 hK [] (by simp)
 ·rw[iN (by omega)]at hK
  by_cases h2:b<a
  ·rw[iP (by omega)]at hK
   simp[h1,h2];exact Z4 hK [] (by simp)
  ·rw[iN (by omega)]at hK
   simp[h1,h2];exact Z4 hK [] (by simp)
set_option maxRecDepth 100000 in
set_option maxHeartbeats 4000000 in
theorem Z7w(u v:List Int)(hl:u.length≤1000)(he:u.length=v.length):Al Tryz.prog 95 [.Aj (Z1 u),.Aj (Z1 v)] (.int .i64 (B8 (O1 u v))):=by
 refine R2 hm Tryz.func95 Z5r rfl rfl (by simp only[X8,Aa.closed,W8,Bool.and_true]) trivial fun K hK=>?_
 have hr:∀ q,Z3 q (Z1 u)=Z1 u:=fun q=>Y1 q _ (W8 u)
 have hs:∀ q,Z3 q (Z1 v)=Z1 v:=fun q=>Y1 q _ (W8 v)
 have hlu:=O4 u;have hlv:=O4 v;have hgu:=fun i hi=>ig (l:=u) (i:=i) hi
 have hgv:=fun i hi=>ig (l:=v) (i:=i) hi
 rw[← he]at hlv hgv;generalize Z1 u=U at *;generalize Z1 v=V at *;simp;refine W5 (α:=Nat) (fun i=>[(11,.int .i64 i),(10,.int .i64 u.length),(9,.Aj U),(1,.Aj V),(0,.Aj U)]) (fun i=>⟨[],1⟩) (fun i=>u.length - i) (fun i=>i≤u.length ∧ ∀ j,j<i→u.getD j 0=v.getD j 0) 0 [] (by simp[hr,hs,hlu]) (by simp) ?_
 rintro i ⟨hi,hj⟩ N hN
 try simp only at hi hN ⊢
 by_cases hlt:i<u.length
 ·have hg1:=hgu i hlt;obtain⟨hg1l,hg12⟩:=Y8 hg1;have hg2:=hgv i hlt;obtain⟨hg2l,hg22⟩:=Y8 hg2;have hw:=Y7 ((i:Int)+1);have hle:¬(u.length:Int)≤(i:Int):=by omega
  have hc:=Z55 (u.getD i 0) (v.getD i 0);by_cases hne:u.getD i 0=v.getD i 0
  ·have hz:B8 (u.getD i 0 - v.getD i 0)=0:=by rw[hne,Int.sub_self]; rfl
   rw[hz]at hc;have hN':=hN (i+1);have hne':=hne;generalize u.getD i 0=a at hc hg1 hg12 hne';generalize v.getD i 0=b at hc hg2 hg22 hne';simp[hlt,hle,hlu,hlv,hg1,hg12,hg2,hg22];refine Y5 hc ?_;simp[hw];exact hN' [] _ _ (by omega) ⟨by omega,fun j hji=>by by_cases e:j=i; (subst e; exact hne); exact hj j (by omega)⟩ (by simp[hr,hs])
  ·rw[qK he hlt hj hne]at hK;have hnz:¬B8 (u.getD i 0 - v.getD i 0)=0:=by unfold B8; split<;>(try split)<;>omega
   generalize B8 (u.getD i 0 - v.getD i 0)=y at *;generalize u.getD i 0=a at hc hg1 hg12;generalize v.getD i 0=b at hc hg2 hg22;simp[hlt,hle,hlu,hlv,hg1,hg12,hg2,hg22];refine Y5 hc ?_;simp[hnz];exact Z4 hK [] (by simp)
 ·obtain rfl:i=u.length:=by omega
  rw[yM he hj]at hK;simp[hlu,hlv];exact Z4 hK [] (by simp[B8])
set_option maxRecDepth 100000 in
set_option maxHeartbeats 4000000 in
theorem Ydp(w:List Int)(hl:w.length≤1000)(hb:∀ i,i<w.length→0≤w.getD i 0∧w.getD i 0≤1000)(a b:Nat)(ha:a<w.length)(Dd:b<w.length) :
 AV Tryz.prog 144 [.int .i64 a,.int .i64 b,.ptr 1 0 0,.ptr 2 0 0] ⟨[(1,.cells 1 [[.int .i64 w.length]]),(2,.cells 1 [[.Aj (Z1 w)]])],3⟩ fun r m=>r=.int .i64 (O1 (Go.Plain.AO w a) (Go.Plain.AO w b))∧m=⟨[(1,.cells 1 [[.int .i64 w.length]]),(2,.cells 1 [[.Aj (Z1 w)]])],3⟩:=by
 refine W9 hm Tryz.func144 Z1z rfl rfl fun K hK=>?_
 have hKv:=hK _ _ ⟨rfl,rfl⟩;clear hK;have hr:∀ q,Z3 q (Z1 w)=Z1 w:=fun q=>Y1 q _ (W8 w)
 have hlu:=O4 w;have hgu:=fun i hi=>ig (l:=w) (i:=i) hi
 have hl1:=Go.Plain.BH w a;have hl2:=Go.Plain.BH w b;have hR1:=fun i hi=>yZ (w:=w) (a:=a) (i:=i) ha hi
 have hR2:=fun i hi=>yZ (w:=w) (a:=b) (i:=i) Dd hi
 have hln:¬w.length=0:=by omega
 have hln2:¬(w.length:Int)=0:=by omega
 have hln3:¬w=[]:=fun e=>hln (by rw[e]; rfl)
 generalize Z1 w=U at *;generalize Go.Plain.AO w a=A at *;generalize Go.Plain.AO w b=B at *;simp;refine W5 (α:=Nat) (fun i=>[(11,.int .i64 i),(10,.int .i64 w.length),(3,.ptr 2 0 0),(2,.ptr 1 0 0),(1,.int .i64 b),(0,.int .i64 a)]) (fun i=>⟨[(1,.cells 1 [[.int .i64 w.length]]),(2,.cells 1 [[.Aj U]])],3⟩) (fun i=>w.length - i) (fun i=>i≤w.length ∧ ∀ j,j<i→A.getD j 0=B.getD j 0) 0 [] (by simp[hr]) (by simp) ?_
 rintro i ⟨hi,hj⟩ N hN
 try simp only at hi hN ⊢
 by_cases hlt:i<w.length
 ·obtain⟨y,hy⟩:∃ y:Nat,(a+i) % w.length=y:=⟨_,rfl⟩
  obtain⟨z,hz⟩:∃ z:Nat,(b+i) % w.length=z:=⟨_,rfl⟩
  have hyl:y<w.length:=by rw[← hy]; exact Nat.mod_lt _ (by omega)
  have hzl:z<w.length:=by rw[← hz]; exact Nat.mod_lt _ (by omega)
  have hy3:((a:Int)+(i:Int)).tmod (w.length:Int)=(y:Int):=by rw[← hy]; rfl
  have hz3:((b:Int)+(i:Int)).tmod (w.length:Int)=(z:Int):=by rw[← hz]; rfl
  have hw1:=Y7 ((a:Int)+i);have hw2:=Y7 ((b:Int)+i);have hw3:IntKind.i64.wrap (y:Int)=y:=G8 (by omega) (by omega)
  have hw4:IntKind.i64.wrap (z:Int)=z:=G8 (by omega) (by omega)
  have hg1:=hgu y hyl;obtain⟨hg1l,hg12⟩:=Y8 hg1;have hg2:=hgu z hzl;obtain⟨hg2l,hg22⟩:=Y8 hg2;have hby:=hb y hyl;have hbz:=hb z hzl;have hA:=hR1 i hlt;have hB:=hR2 i hlt;rw[hy]at hA;rw[hz]at hB;have hw:=Y7 ((i:Int)+1);have hN':=hN (i+1);generalize w.getD y 0=p at *;generalize w.getD z 0=q at *;have hw5:=Y7 (p - q);by_cases hne:p=q
  ·simp[hlt,hw1,hw2,hy3,hz3,hw3,hw4,hln,hln2,hln3,hlu,hg1,hg12,hg2,hg22,hne,hw];exact hN' [] _ _ (by omega) ⟨by omega,fun j hji=>by by_cases e:j=i; (subst e; rw[hA,hB]; exact hne); exact hj j (by omega)⟩ (by simp[hr])
  ·have:=qK (u:=A) (v:=B) (by omega) (by omega) hj (by rw[hA,hB]; exact hne)
   rw[hA,hB]at this;rw[this]at hKv;simp[hlt,hw1,hw2,hy3,hz3,hw3,hw4,hln,hln2,hln3,hlu,hg1,hg12,hg2,hg22,hne,hw5];exact Z4 hKv [] (by simp[hr])
 ·obtain rfl:i=w.length:=by omega
  rw[yM (by omega) (by rw[hl1]; exact hj)]at hKv
  simp;exact Z4 hKv [] (by simp[hr])
end Go.Ac
end
