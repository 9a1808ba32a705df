/- Part 6 of the proof: AeN, AeO, AeP, AeQ, AeR, AeS, AeT, AeU, AeFr. -/
import Derived.Test.YtggclbeocekgkaaGreatDoorP5
import Derived.Laws.Small
set_option linter.all false
section
namespace Go.AE
open Go.RowKit
section
variable {P:Program} {s:Sem Next} {W:AA} {Φ:Ao} {ρ:AD} {id:Nat} {w w1:World} {m m':Mem} {x:Aa} {v:Value}
theorem pH(N:Nat):∀ (r c:Nat),Builtin.growBy N r c≤max c (N+(N+768) / 4)
 | 0,c=>by simp only[Builtin.growBy]; omega
 | r+1,c=>by
  simp only[Builtin.growBy];split
  ·omega
  ·have:=pH N r (c+(c+768) / 4);omega
theorem Z9m{need cap:Nat}(h:cap<need):Builtin.nextslicecap need cap≤2*need+768:=by
 unfold Builtin.nextslicecap;split
 ·omega
 ·split
  ·omega
  ·have:=pH need 4 cap;omega
theorem Z48{A B:List (List Aa)}{k:Nat}{a b c:Array Value}(ha:RowsIn Φ ρ A 0 k a)(hsa:a.size=A.length*k)(hb:RowsIn Φ ρ B 0 k b)(hsb:b.size=B.length*k):RowsIn Φ ρ (A++B) 0 k (a++b++c):=by
 refine⟨fun i row hi=>?_,fun i row j y hi hj=>?_⟩
 ·rw[List.getElem?_append]at hi;split at hi
  ·exact ha.1 _ _ hi
  ·exact hb.1 _ _ hi
 ·rw[List.getElem?_append]at hi;split at hi
  ·rename_i h1;obtain⟨u,g1,g2,g3⟩:=ha.2 i row j y hi hj;have hj2:j<k:=by
    have:=(gS.1 hj).1;rw[ha.1 _ row hi]at this; exact this
   have hlt:=LA h1 hj2;rw[Nat.zero_add]at g1 ⊢;refine⟨u,?_,g2,g3⟩;rw[Array.getElem?_append,iP (by simp; omega),Array.getElem?_append,iP (by omega)]
   exact g1
  ·rename_i h1;obtain⟨u,g1,g2,g3⟩:=hb.2 (i - A.length) row j y hi hj;have hi2:=(gS.1 hi).1;have hj2:j<k:=by
    have:=(gS.1 hj).1;rw[hb.1 _ row hi]at this; exact this
   have hlt:=LA hi2 hj2;have e1:i*k=A.length*k+(i - A.length)*k:=by rw[← Nat.add_mul]; congr 1; omega
   rw[Nat.zero_add]at g1 ⊢;refine⟨u,?_,g2,g3⟩;rw[Array.getElem?_append,iP (by simp; omega),Array.getElem?_append,iN (by omega)]
   rw[← g1]
   congr 1
   omega
theorem XW{t e u ty:TypeId}{i:TypeInfo}{d:TypeDesc}{base:Option Addr}{len cap n:Nat}{vx:Value}{arr:Array Value}{w':World}(ht:P.underlying t=some (.slice e))(hi:P.info? e=some i)(hu:P.underlying u=some d)(hd:∀ k,d≠.int k)
 (hl:(Builtin.lenOf vx).run P w=.ok n w) (hf:(Builtin.firstCells i.size n vx).run P w=.ok arr w) (hle:len+n≤cap)
 (hst:match base with|some a=>(storeCells (a.add (len*i.size)) arr.toList).run P w=.ok () w'|none=>w'=w) :
 (Builtin.append_ #[t,u] ty #[.slice base len cap,vx]).run P w=.ok (.slice base (len+n) cap) w':=by
 have hz:(match d with | .int _=>true|_=>false)=false:=by cases d<;>first|rfl|exact absurd rfl (hd _)
 have e1:(Builtin.append_ #[t,u] ty #[.slice base len cap,vx]).run P w=((do
  let new ← Builtin.firstCells i.size n vx
  if let some a:=base then storeCells (a.add (len*i.size)) new.toList
  pure (Value.slice base (len+n) cap):Sem Value)).run P w:=by
  unfold Builtin.append_;simp only[Sem.run_bind,List.getElem?_toArray,List.getElem?_cons_zero,List.getElem?_cons_succ,V1 ht,Result.andThen_ok,H8 hi,V1 hu];cases d<;>first|(exact absurd rfl (hd _))|(simp only[Sem.run_bind,Sem.run_pure,Result.andThen_ok,bF,if_false,hl,hle,if_true,Bool.not_false]; rfl)
 rw[e1];simp only[Sem.run_bind,hf,Result.andThen_ok];cases base with
 | none=>simp only at hst; subst hst; rfl
 | some a=>simp only at hst; simp only[Sem.run_bind,hst,Result.andThen_ok,Sem.run_pure]
theorem Z8j{t e u ty:TypeId}{i:TypeInfo}{d:TypeDesc}{z:Value}{base:Option Addr}{len cap n:Nat}{vx:Value}{old arr:Array Value}(ht:P.underlying t=some (.slice e))(hi:P.info? e=some i)(hz:i.zero=some z)(hu:P.underlying u=some d)(hd:∀ k,d≠.int k)
 (hl:(Builtin.lenOf vx).run P w=.ok n w) (ho:(Builtin.firstCells i.size len (.slice base len cap)).run P w.drew=.ok old w.drew) (hf:(Builtin.firstCells i.size n vx).run P w.drew=.ok arr w.drew) (hlt:cap<len+n) (hroom:len+n≤T5) (hb:i.bytes≤T5) :
 ∃ nc,len+n≤nc∧(Builtin.append_ #[t,u] ty #[.slice base len cap,vx]).run P w =
  .ok (.slice (some ⟨w.drew.heap.size,0,none⟩) (len+n) nc) (w.drew.alloc (.cells (old++arr++Builtin.zeroCells z.cells (nc - (len+n))) e)):=by
 have hq:(Question.appendCap (len+n) cap e).forced=false:=rfl;refine⟨(Question.appendCap (len+n) cap e).cut (w.tape w.drawn (.appendCap (len+n) cap e)),by simp only[Question.cut]; omega,?_⟩
 generalize hnc:(Question.appendCap (len+n) cap e).cut (w.tape w.drawn (.appendCap (len+n) cap e))=nc;unfold T5 at hroom hb;have hcap:=Z9m hlt;have hmul:Builtin.nextslicecap (len+n) cap*i.bytes≤(2*1048576+768)*1048576:=Nat.mul_le_mul (by omega) hb
 have hmax:IntKind.i64.max=9223372036854775807:=by decide
 have e1:(Builtin.append_ #[t,u] ty #[.slice base len cap,vx]).run P w=((do
  let newCap ← choose (.appendCap (len+n) cap e)
  askRoom (newCap*i.bytes)
  let old ← Builtin.firstCells i.size len (.slice base len cap)
  let new ← Builtin.firstCells i.size n vx
  let rest:=Builtin.zeroCells (← zeroValue e).cells (newCap - (len+n))
  pure (Value.slice (some (← newRow e (old++new++rest))) (len+n) newCap):Sem Value)).run P w:=by
  unfold Builtin.append_;simp only[Sem.run_bind,List.getElem?_toArray,List.getElem?_cons_zero,List.getElem?_cons_succ,V1 ht,Result.andThen_ok,H8 hi,V1 hu];cases d<;>first|(exact absurd rfl (hd _))|skip
  all_goals
   simp only[Sem.run_bind,Sem.run_pure,Result.andThen_ok,bF,if_false,hl,Bool.not_false,if_true];rw[iN (by omega)]
   simp only[Sem.run_bind,RV hi,Result.andThen_ok,hmax];rw[iN (by omega)]
   simp only[Sem.run_bind,RV hi,Result.andThen_ok];rw[iN (by omega)]
   simp only[Sem.run_bind,RV hi,Result.andThen_ok];rfl
 rw[e1];simp only[Sem.run_bind,run_choose,hq,bF,if_false,Result.andThen_ok,run_askRoom,hnc];have hw:({ w with drawn:=w.drawn+1 }:World)=w.drew:=rfl
 rw[hw];simp only[ho,hf,Result.andThen_ok,MO hi hz,newRow,Sem.run_bind,run_newObj,Sem.run_pure];rfl
theorem zg(m:Mem)(b:Nat):Mem.Sub (m.del b) m:=⟨fun c x h=>by
 simp only[Mem.BB]at h;split at h
 ·cases h
 ·exact h,lR _⟩
theorem Z5o{len n nc k:Nat}{old arr z:Array Value}(ho:old.size=len*k)(ha:arr.size=n*k)(hz:z.size=k)(hle:len+n≤nc):(old++arr++Builtin.zeroCells z (nc - (len+n))).size=nc*k:=by
 simp only[Array.size_append,Builtin.zeroCells,Array.size_map,Array.size_range,ho,ha,hz];rw[← Nat.add_mul,← Nat.add_mul]
 congr 1
 omega
theorem Z43{els:List (List Aa)}{sh k off len:Nat}{c:Array Value}(h:RowsIn Φ ρ els sh k c):RowsIn Φ ρ ((els.drop off).take len) (sh+off) k c:=by
 refine⟨fun q row hq=>?_,fun q row j y hq hj=>?_⟩
 ·rw[List.getElem?_take]at hq;split at hq
  ·rw[List.getElem?_drop]at hq; exact h.1 _ _ hq
  ·cases hq
 ·rw[List.getElem?_take]at hq;split at hq
  ·rw[List.getElem?_drop]at hq;obtain⟨uu,k1,k2,k3⟩:=h.2 _ row j y hq hj;exact⟨uu,by rw[← k1,Nat.add_assoc sh],k2,k3⟩
  ·cases hq
theorem Wt{l:Loc}{a:Option Addr}{off len cap n:Nat}{c arr:Array Value}{e':TypeId}{size:Nat}(hw:w.heap[l.blk]? = some (.cells c e' (0,0)))(hcs:c.size=l.n*l.k)(Gj:l.sh+off+cap=l.n)
 (hcap:0<cap→a=some ⟨l.blk,(l.sh+off)*l.k,none⟩) (hfit:len+n≤cap) (hsz:size=l.k) (Co:arr.size=n*l.k) (h1:∀ u,u∈arr.toList→u.oneCell'=true) :
 match a with
 | some a=>(storeCells (a.add (len*size)) arr.toList).run P w=.ok () (R5 w l.blk (.cells (O3 c ((l.sh+(off+len))*l.k) arr.toList) e' (0,0)))
 | none=>R5 w l.blk (.cells (O3 c ((l.sh+(off+len))*l.k) arr.toList) e' (0,0))=w:=by
 by_cases hc0:0<cap
 ·have hae:=hcap hc0;subst hae;simp only;rw[Addr.AZ,hsz];have e1:(l.sh+off)*l.k+len*l.k=(l.sh+(off+len))*l.k:=by rw[← Nat.add_mul]; congr 1; omega
  rw[e1];have hbound:(l.sh+(off+len))*l.k+n*l.k≤c.size:=by
   rw[hcs,← Nat.add_mul]; exact Nat.mul_le_mul_right _ (by omega)
  have:=YW (P:=P) (B:=l.blk) (o:=(l.sh+(off+len))*l.k) (e:=e') arr.toList 0 w c h1 hw (by simp[Co]; omega)
  simpa using this
 ·have hx0:n=0:=by omega
  have harr0:arr = #[]:=by
   apply Array.eq_empty_of_size_eq_zero;rw[Co,hx0]; simp
  subst harr0;have hself:=YA hw;cases a with
  | none=>simpa[O3]using hself
  | some a=>simp only[storeCells,Sem.run_pure,O3,hself]
section
variable {t e u ty:TypeId} {k:Nat} {i:TypeInfo} {d:TypeDesc} {zv:Value} {vx:Value} {xs:List (List Aa)} {yx:Aa} {a:Option Addr} {bb off len cap:Nat} {l:Loc} {els:List (List Aa)}
theorem Z4b(hr:Rel W Φ ρ m w)(ht:P.underlying t=some (.slice e))(hi:P.info? e=some i)(hu:P.underlying u=some d)(hd:∀ k,d≠.int k)(BE:0<i.size)(hx:R Φ ρ yx vx)(hsrc:M9 m i.size yx=some xs)
 (hl':ρ bb=some l) (hle:len≤cap) (Gj:l.sh+off+cap=l.n) (hcap:0<cap→a=some ⟨l.blk,(l.sh+off)*l.k,none⟩) (CN:a.isSome=true) (hg:m.get bb=some (.cells i.size els)) (hfit:off+len+xs.length≤els.length)
 (hs:∀ u' w',(Builtin.append_ #[t,u] ty #[.slice a len cap,vx]).run P w=.ok u' w'→s.run P w=.ok (.value u') w') :
 Az P s W Φ ρ id w (.sl bb off (len+xs.length)) (m.set bb (.cells i.size (els.take (off+len)++xs++els.drop (off+len+xs.length)))):=by
 obtain⟨arr,hl,hf,Co,hrows⟩:=MV hr hx hsrc BE;have hfull:(Builtin.firstCells i.size xs.length vx).run P w=.ok arr w:=by
  rw[hf _ (lR _)]
  congr 1
  rw[← Co]; simp
 obtain⟨l',ob,g1,g2,g3,g4,g5⟩:=hr.live bb _ hg;rw[hl']at g1; injection g1 with g1; subst g1
 cases g5 with
 | cells _ _ _ c e' hk2 hcs hlen hrowsb h1b=>
  have hlc:len+xs.length≤cap:=by omega
  rw[← hk2]at Co hrowsb hcs;have hst:=Wt (P:=P) (e':=e') (size:=i.size) (len:=len) g4 hcs Gj hcap hlc hk2.symm Co (GH hrows (by rw[← hk2]; exact Co) BE)
  have hrun:=XW (P:=P) (ty:=ty) (base:=a) (len:=len) (cap:=cap) (n:=xs.length) (arr:=arr) (w':=R5 w l.blk (.cells (O3 c ((l.sh+(off+len))*l.k) arr.toList) e' (0,0))) ht hi hu hd hl hfull hlc (by
   cases a with
   | none=>exact hst
   | some a=>exact hst)
  rw[← hk2]at hrows;have hsp:=Wh (p:=off+len) hrowsb hcs (by omega) (by omega) hrows Co
  refine Az.Rc (hs _ _ hrun) hr hg hl' (.cells _ _ _ _ _ hk2 (by rw[MZ,hcs,hk2]) ?_ (by rw[← hk2]; exact hsp) (Ta _ _ _ h1b (GH hrows Co (by omega)))) (.sl bb off (len+xs.length) a cap l hl' hlc Gj hcap CN)
  simp only[lA,lK,List.length_drop];omega
theorem xk(hr:Rel W Φ ρ m w)(hn:ρ id=none)(hlt:id<m.next)(ht:P.underlying t=some (.slice e))(hi:P.info? e=some i)(hu:P.underlying u=some d)(hd:∀ k,d≠.int k)(BE:0<i.size)(hx:R Φ ρ yx vx)(hsrc:M9 m i.size yx=some xs)
 (hl':ρ bb=some l) (Gj:l.sh+off+cap=l.n) (hcap:0<cap→a=some ⟨l.blk,(l.sh+off)*l.k,none⟩) (CN:a.isSome=true) (hg:m.get bb=some (.cells i.size els)) (hel:els.length=off+len) (hlc:len+xs.length≤cap)
 (hs:∀ u' w',(Builtin.append_ #[t,u] ty #[.slice a len cap,vx]).run P w=.ok u' w'→s.run P w=.ok (.value u') w') :
 Az P s W Φ ρ id w (.sl id 0 (len+xs.length)) ((m.del bb).set id (.cells i.size ((els.drop off).take len++xs))):=by
 obtain⟨arr,hl,hf,Co,hrows⟩:=MV hr hx hsrc BE;have hfull:(Builtin.firstCells i.size xs.length vx).run P w=.ok arr w:=by
  rw[hf _ (lR _)]
  congr 1
  rw[← Co]; simp
 obtain⟨l',ob,g1,g2,g3,g4,g5⟩:=hr.live bb _ hg;rw[hl']at g1; injection g1 with g1; subst g1
 cases g5 with
 | cells _ _ _ c e' hk2 hcs hlen hrowsb h1b=>
  rw[← hk2]at Co hrowsb hcs;have hst:=Wt (P:=P) (e':=e') (size:=i.size) (len:=len) g4 hcs Gj hcap hlc hk2.symm Co (GH hrows (by rw[← hk2]; exact Co) BE)
  have hrun:=XW (P:=P) (ty:=ty) (base:=a) (len:=len) (cap:=cap) (n:=xs.length) (arr:=arr) (w':=R5 w l.blk (.cells (O3 c ((l.sh+(off+len))*l.k) arr.toList) e' (0,0))) ht hi hu hd hl hfull hlc (by
   cases a with
   | none=>exact hst
   | some a=>exact hst)
  rw[← hk2]at hrows;have hsub:=Z43 (off:=off) (len:=len) hrowsb;have hlen2:((els.drop off).take len).length=len:=by simp; omega
  generalize (els.drop off).take len=tk at hsub hlen2 ⊢;have hsp:=Wh (p:=len) (n:=l.n) hsub hcs (by omega) (by omega) hrows Co
  have e2:tk.take len++xs++tk.drop (len+xs.length)=tk++xs:=by
   rw[tL (by omega),List.drop_eq_nil_of_le (by omega),List.append_nil]
  rw[e2,Nat.add_assoc l.sh]at hsp;refine⟨_,_,Φ,ρ.put id ⟨l.blk,l.sh+off,l.k,l.n⟩,.inl (hs _ _ hrun),AD.BP hn,fun q hq h0=>by unfold AD.put; rw[iN hq]; exact h0,
   wj hr hg hl' hn hlt rfl (BR.BP hn (.cells _ _ _ _ _ hk2 (by rw[MZ,hcs,hk2]) (by simp only[lA,hlen2]; omega) (by rw[← hk2]; exact hsp) (Ta _ _ _ h1b (GH hrows Co (by omega))))),?_⟩
  refine .sl id 0 (len+xs.length) a cap ⟨l.blk,l.sh+off,l.k,l.n⟩ AD.Bj hlc (by simpa using Gj) (fun hc0=>?_) CN
  rw[hcap hc0];rfl
theorem Zzr{zc:Array Value}{k n:Nat}(h:∀ v,v∈zc.toList→v.oneCell'=true)(hs:zc.size=k)(hk:0<k):∀ v,v∈(Builtin.zeroCells zc n).toList→v.oneCell'=true:=by
 intro v hv;simp only[Builtin.zeroCells,Array.toList_map,mM]at hv;obtain⟨q,_,rfl⟩:=hv;have hlt:q % zc.size<zc.size:=Nat.mod_lt _ (by omega)
 rw[getElem!_pos zc _ hlt];exact h _ (by simp)
theorem vP(hr:Rel W Φ ρ m w)(hn:ρ id=none)(hlt:id<m.next)(ht:P.underlying t=some (.slice e))(hi:P.info? e=some i)(hz:i.zero=some zv)(hzs:zv.cells.size=i.size)(Gu:∀ v,v∈zv.cells.toList→v.oneCell'=true)(hu:P.underlying u=some d)(hd:∀ k,d≠.int k)(BE:0<i.size)(hx:R Φ ρ yx vx)(hsrc:M9 m i.size yx=some xs)
 {ys:Aa} {olds:List (List Aa)} {m0:Mem} (hy:R Φ ρ ys (.slice a len cap)) (hold:M9 m i.size ys=some olds) (Fa:olds.length=len) (hsub:Mem.Sub m0 m) (hnc:cap<len+xs.length) (hroom:len+xs.length≤T5) (hb:i.bytes≤T5)
 (hs:∀ u' w',(Builtin.append_ #[t,u] ty #[.slice a len cap,vx]).run P w=.ok u' w'→s.run P w=.ok (.value u') w') :
 Az P s W Φ ρ id w (.sl id 0 (len+xs.length)) (m0.set id (.cells i.size (olds++xs))):=by
 obtain⟨arr,hl,hf,Co,hrows⟩:=MV hr hx hsrc BE;obtain⟨arr2,hl2,Fv,harr2,hrows2⟩:=MV hr.drew hx hsrc BE;obtain⟨old,ho1,ho2,ho3,ho4⟩:=MV hr.drew hy hold BE;have hfull2:(Builtin.firstCells i.size xs.length vx).run P w.drew=.ok arr2 w.drew:=by
  rw[Fv _ (lR _)]
  congr 1
  rw[← harr2]; simp
 have hold2:(Builtin.firstCells i.size len (.slice a len cap)).run P w.drew=.ok old w.drew:=by
  rw[ho2 len (by omega)]
  congr 1
  have:old.size=len*i.size:=by rw[ho3,Fa]
  rw[← this]; simp
 obtain⟨nc,hnc2,hrun⟩:=Z8j (P:=P) (ty:=ty) (base:=a) (len:=len) (cap:=cap) (old:=old) ht hi hz hu hd hl hold2 hfull2 hnc hroom hb;refine ZC (cap:=nc) (w1:=w.drew) (hr.drew.sub hsub) hn (Nat.lt_of_lt_of_le hlt hsub.next) hnc2 (by simp only[lA,Fa]; exact hnc2) ?_ ?_ ?_ (hs _ _ hrun)
 ·exact Z5o (by rw[ho3,Fa]) harr2 hzs hnc2
 ·exact Z48 ho4 ho3 hrows2 harr2
 ·intro u hu;simp only[Array.toList_append,List.mem_append]at hu;rcases hu with(hu|hu)|hu
  ·exact GH ho4 ho3 BE u hu
  ·exact GH hrows2 harr2 BE u hu
  ·exact Zzr Gu hzs BE u hu
end
theorem Z20{t u ty:TypeId}{k b:Nat}{z:List Aa}{d:TypeDesc}{ys:Aa}{vs vx:Value}{xs:List (List Aa)}{yx:Aa}{r:Aa×Mem}(hr:Rel W Φ ρ m w)(hn:ρ id=none)(hlt:id<m.next)
 (he:D2 P t=some (k,b,z)) (hu:P.underlying u=some d) (hd:∀ k,d≠.int k) (hy:R Φ ρ ys vs) (hx:R Φ ρ yx vx) (hsrc:M9 m k yx=some xs) (ha:J2 id k b m ys xs=some r)
 (hs:∀ u' w',(Builtin.append_ #[t,u] ty #[vs,vx]).run P w=.ok u' w'→s.run P w=.ok (.value u') w'):Az P s W Φ ρ id w r.1 r.2:=by
 obtain⟨e,i,ht,hi,hsz,hb,hz,hzl,BE⟩:=Sr he;obtain⟨i',zv,y,h1,h2,h3,h4,h5⟩:=Oy hz Φ ρ;rw[hi]at h1; injection h1 with h1; subst h1
 have hzc:=h3.BA h4;have hzsz:zv.cells.size=i.size:=by rw[hzc.1,hzl,hsz]
 have Gu:=nD hzc h5;subst hsz; subst hb;have emptyCase:∀ (a:Option Addr) (y0:Aa),R Φ ρ y0 (.slice a 0 0)→M9 m i.size y0=some []→(xs=[]∧r=(y0,m))∨(xs≠[]∧xs.length≤T5∧i.bytes≤T5∧r=(.sl id 0 xs.length,m.set id (.cells i.size xs)))→vs=.slice a 0 0→Az P s W Φ ρ id w r.1 r.2:=by
  rintro a y0 hy0 hsy (⟨rfl,rfl⟩|⟨hne,hroom,FQ,rfl⟩) rfl
  ·obtain⟨arr,hl,hf,Co,hrows⟩:=MV hr hx hsrc BE;have harr0:arr = #[]:=by
    apply Array.eq_empty_of_size_eq_zero;simpa using Co
   subst harr0;have hfull:=hf 0 (lR _);have:=XW (P:=P) (ty:=ty) (base:=a) (len:=0) (cap:=0) (arr:=#[]) (w':=w) ht hi hu hd hl (by simpa using hfull) (by simp) (by cases a<;>rfl)
   exact Az.val (hs _ _ this) hr hy0
  ·have hpos:0<xs.length:=List.length_pos_iff.2 hne;have:=vP (id:=id) (ty:=ty) hr hn hlt ht hi h2 hzsz Gu hu hd BE hx hsrc hy0 hsy rfl (Mem.Sub.refl m) (by omega) (by omega) FQ hs
   simpa using this
 cases hy with
 | Ae=>
  refine emptyCase none .Ae .Ae rfl ?_ rfl;simp only[J2]at ha;split at ha
  ·injection ha with ha; exact .inl ⟨‹_›,ha.symm⟩
  ·split at ha
   ·rename_i h6 h7;injection ha with ha; exact .inr ⟨h6,h7.1,h7.2,ha.symm⟩
   ·cases ha
 | emp a=>
  refine emptyCase a .emp (.emp a) rfl ?_ rfl;simp only[J2]at ha;split at ha
  ·injection ha with ha; exact .inl ⟨‹_›,ha.symm⟩
  ·split at ha
   ·rename_i h6 h7;injection ha with ha; exact .inr ⟨h6,h7.1,h7.2,ha.symm⟩
   ·cases ha
 | sl bb off len a cap l hl' hle Gj hcap CN=>
  simp only[J2]at ha;cases hg:m.get bb with
  | none=>simp[hg]at ha
  | some blk=>
   cases blk with
   | cells k2 els=>
    simp only[hg]at ha;split at ha
    ·rename_i hcond;obtain⟨rfl,Fa,hor⟩:=hcond;split at ha
     ·rename_i hfit;injection ha with ha
      subst ha;exact Z4b hr ht hi hu hd BE hx hsrc hl' hle Gj hcap CN hg hfit hs
     ·rename_i hnofit;split at ha
      ·rename_i hroom;injection ha with ha
       subst ha;by_cases hlc:len+xs.length≤cap
       ·exact xk hr hn hlt ht hi hu hd BE hx hsrc hl' Gj hcap CN hg (by omega) hlc hs
       ·exact vP hr hn hlt ht hi h2 hzsz Gu hu hd BE hx hsrc (.sl bb off len a cap l hl' hle Gj hcap CN) (by
         show H3 m i.size (.sl bb off len)=some ((els.drop off).take len);simp[H3,hg,Fa]) (by simp; omega) (zg m bb) (by omega) hroom.1 hroom.2 hs
      ·cases ha
    ·cases ha
   | map es clock=>simp[hg]at ha
   | Cg s' pos=>simp[hg]at ha
   | AJ a' b' c' d'=>simp[hg]at ha
 | _=>simp[J2]at ha
end
end Go.AE
end
section
namespace Go.AE
open Go.RowKit
section
variable {P:Program} {s:Sem Next} {W:AA} {Φ:Ao} {ρ:AD} {id:Nat} {w w1:World} {m m':Mem} {x:Aa} {v:Value}
theorem Z9a{t ty:TypeId}{k:Nat}{b:Nat}{z:List Aa}{u:TypeId}{vd vs:Value}{xs:List (List Aa)}{yx:Aa}{bb off len:Nat}{els:List (List Aa)}(hr:Rel W Φ ρ m w)
 (he:D2 P t=some (k,b,z)) (hy:R Φ ρ (.sl bb off len) vd) (hx:R Φ ρ yx vs) (hsrc:M9 m k yx=some xs) (hg:m.get bb=some (.cells k els)) (Fa:off+len≤els.length)
 (hs:∀ u' w',(Builtin.copy_ #[t,u] ty #[vd,vs]).run P w=.ok u' w'→s.run P w=.ok (.value u') w') :
 Az P s W Φ ρ id w (.int .i64 (min xs.length len:Nat)) (m.set bb (.cells k (els.take off++xs.take (min xs.length len)++els.drop (off+min xs.length len)))):=by
 obtain⟨e,i,ht,hi,hsz,hb,hz,hzl,BE⟩:=Sr he;subst hsz;obtain⟨arr,hl,hf,Co,hrows⟩:=MV hr hx hsrc BE;cases hy with
 | sl _ _ _ a cap l hl' hle Gj hcap CN=>
  obtain⟨l',ob,g1,g2,g3,g4,g5⟩:=hr.live bb _ hg;rw[hl']at g1; injection g1 with g1; subst g1
  cases g5 with
  | cells _ _ _ c e' hk2 hcs hlen hrowsb h1b=>
   obtain⟨n,hn⟩:∃ n,min xs.length len=n:=⟨_,rfl⟩
   rw[hn];have CY:n≤xs.length:=by omega
   have hnl:n≤len:=by omega
   have hfn:=hf n CY;have harrn:(arr.extract 0 (n*i.size)).size=(xs.take n).length*i.size:=by
    have:n*i.size≤xs.length*i.size:=Nat.mul_le_mul_right _ CY;simp only[Array.size_extract,Co,lK];rw[Nat.min_eq_left CY]; omega
   have hrown:RowsIn Φ ρ (xs.take n) 0 i.size (arr.extract 0 (n*i.size)):=by
    refine⟨fun q row hq=>?_,fun q row j y hq hj=>?_⟩
    ·rw[List.getElem?_take]at hq;split at hq
     ·exact hrows.1 _ _ hq
     ·cases hq
    ·rw[List.getElem?_take]at hq;split at hq
     ·rename_i hqn;obtain⟨uu,k1,k2,k3⟩:=hrows.2 _ row j y hq hj;have hj2:j<i.size:=by
       have:=(gS.1 hj).1;rw[hrows.1 _ row hq]at this; exact this
      have hlt:=LA hqn hj2;have hle2:n*i.size≤xs.length*i.size:=Nat.mul_le_mul_right _ CY;refine⟨uu,?_,k2,k3⟩;rw[Nat.zero_add]at k1 ⊢;rw[Array.getElem?_extract,iP (by omega),← k1]
      congr 1; omega
     ·cases hq
   have hnl2:(xs.take n).length=n:=by simp; omega
   have hst:=Wt (P:=P) (a:=a) (len:=0) (cap:=cap) (n:=n) (off:=off) (e':=e') (size:=i.size) g4 (by rw[hcs,hk2]) Gj hcap (by omega) hk2.symm (by rw[harrn,hnl2,hk2]) (GH hrown harrn BE)
   simp only[Nat.add_zero,Nat.zero_mul]at hst;have hrun:(Builtin.copy_ #[t,u] ty #[.slice a len cap,vs]).run P w=.ok (.int .i64 (n:Nat)) (R5 w l.blk (.cells (O3 c ((l.sh+off)*l.k) (arr.extract 0 (n*i.size)).toList) e' (0,0))):=by
    unfold Builtin.copy_;simp only[Sem.run_bind,List.getElem?_toArray,List.getElem?_cons_zero,List.getElem?_cons_succ,V1 ht,Result.andThen_ok,H8 hi];rw[hl];have hmin:Nat.min xs.length len=n:=hn;simp only[Sem.run_bind,Result.andThen_ok,hmin,hfn];cases a with
    | none=>simp only at hst; rw[hst]; rfl
    | some a=>
     have ha0:a.add 0=a:=by simp[Addr.add]
     simp only at hst;rw[ha0]at hst;simp only[Sem.run_bind,hst,Result.andThen_ok]; rfl
   have hone:=GH hrown harrn BE;rw[← hk2]at hrown harrn hrowsb hcs;have hsp:=Wh (p:=off) hrowsb hcs (by omega) (by omega) hrown harrn
   rw[hnl2,hk2]at hsp;refine Az.Rc (hs _ _ hrun) hr hg hl' (.cells _ _ _ _ _ hk2 (by rw[MZ,hcs,hk2]) ?_ (by rw[hk2]; exact hsp) (Ta _ _ _ h1b hone)) (.int _ _)
   simp only[lA,lK,List.length_drop];omega
theorem XP{t ty:TypeId}{k b:Nat}{z:List Aa}{vx:Value}{yx:Aa}{r:Mem}(hr:Rel W Φ ρ m w)(he:D2 P t=some (k,b,z))(hy:R Φ ρ yx vx)
 (h:(∃ bb off len els,yx=.sl bb off len∧m.get bb=some (.cells k els)∧off+len≤els.length∧r=m.set bb (.cells k (els.take off++List.replicate len z++els.drop (off+len))))∨((yx=.Ae∨yx=.emp)∧r=m))
 (hs:∀ u' w',(Builtin.clear_ #[t] ty #[vx]).run P w=.ok u' w'→s.run P w=.ok (.value u') w'):Az P s W Φ ρ id w Ag r:=by
 obtain⟨e,i,ht,hi,hsz,hb,hz,hzl,BE⟩:=Sr he;subst hsz;obtain⟨i',zv,y,h1,h2,h3,h4,h5⟩:=Oy hz Φ ρ;rw[hi]at h1; injection h1 with h1; subst h1
 have hzc:=h3.BA h4;rcases h with⟨bb,off,len,els,rfl,hg,Fa,rfl⟩|⟨hy0,rfl⟩
 ·cases hy with
  | sl _ _ _ a cap l hl' hle Gj hcap CN=>
   obtain⟨l',ob,g1,g2,g3,g4,g5⟩:=hr.live bb _ hg;rw[hl']at g1; injection g1 with g1; subst g1
   cases g5 with
   | cells _ _ _ c e' hk2 hcs hlen hrowsb h1b=>
    have hzn:zv.cells.size=i.size:=by rw[hzc.1,hzl]
    have hrown:=Xo (len:=len) hzc h5 hzl BE;have hzsz:((Array.range (len*i.size)).map fun q=>zv.cells[q % zv.cells.size]!).size=(List.replicate len z).length*i.size:=by simp
    have hzero:Builtin.zeroCells zv.cells len=(Array.range (len*i.size)).map fun q=>zv.cells[q % zv.cells.size]!:=by simp only[Builtin.zeroCells,hzn]
    have hst:=Wt (P:=P) (a:=a) (len:=0) (cap:=cap) (n:=len) (off:=off) (e':=e') (size:=i.size) g4 (by rw[hcs,hk2]) Gj hcap (by omega) hk2.symm (by rw[hzsz,hk2]; simp) (GH hrown hzsz BE)
    simp only[Nat.add_zero,Nat.zero_mul]at hst;have hone:=GH hrown hzsz BE;rw[← hk2]at hrown hzsz hrowsb hcs;have hsp:=Wh (p:=off) hrowsb hcs (by omega) (by simp; omega) hrown hzsz
    rw[List.length_replicate]at hsp;have hrun:(Builtin.clear_ #[t] ty #[.slice a len cap]).run P w=.ok (.tuple #[]) (R5 w l.blk (.cells (O3 c ((l.sh+off)*l.k) ((Array.range (len*i.size)).map fun q=>zv.cells[q % zv.cells.size]!).toList) e' (0,0))):=by
     unfold Builtin.clear_;simp only[Sem.run_bind,List.getElem?_toArray,List.getElem?_cons_zero,V1 ht,Result.andThen_ok];cases a with
     | none=>simp only at hst; rw[hst]; rfl
     | some a=>
      have ha0:a.add 0=a:=by simp[Addr.add]
      simp only at hst;rw[ha0]at hst;cases len with
      | zero=>
       have e0:((Array.range (0*i.size)).map fun q=>zv.cells[q % zv.cells.size]!) = #[]:=by simp
       rw[e0]at hst ⊢;simp only[O3,YA g4];rfl
      | succ n=>
       simp only[Sem.run_bind,MO hi h2,Result.andThen_ok,hzero,hst]; rfl
    have hfin:Az P s W Φ ρ id w Ag (m.set bb (.cells i.size (els.take off++List.replicate len z++els.drop (off+len)))):=by
     refine Az.Rc (v:=.tuple #[]) (hs _ _ hrun) hr hg hl' (.cells _ _ _ _ _ hk2 (by rw[MZ,hcs,hk2]) ?_ (by rw[← hk2]; exact hsp) (Ta _ _ _ h1b hone)) (GM _ _)
     simp only[lA,lK,List.length_drop,List.length_replicate];omega
    exact hfin
 ·have hrun:(Builtin.clear_ #[t] ty #[vx]).run P w=.ok (.tuple #[]) w:=by
   unfold Builtin.clear_;simp only[Sem.run_bind,List.getElem?_toArray,List.getElem?_cons_zero,V1 ht,Result.andThen_ok];rcases hy0 with rfl|rfl
   ·cases hy; rfl
   ·cases hy with
    | emp a=>cases a<;>rfl
  exact Az.val (hs _ _ hrun) hr (GM _ _)
def Gp(Φ:Ao)(ρ:AD)(es:List (Aa×Aa×Nat))(en:List MapEntry):Prop:=
 en.length=es.length ∧ ∀(i:Nat) (x:Aa×Aa×Nat),es[i]? = some x → ∃ y:MapEntry,en[i]? = some y∧R Φ ρ x.1 y.key∧R Φ ρ x.2.1 y.val∧y.born=x.2.2
theorem Gp.tail{x:Aa×Aa×Nat}{y:MapEntry}{es:List (Aa×Aa×Nat)}{en:List MapEntry}(h:Gp Φ ρ (x :: es) (y :: en)):Gp Φ ρ es en:=
 ⟨by simpa using h.1,fun i z hz=>by simpa using h.2 (i+1) z (by simpa using hz)⟩
theorem ve{kt:Br}{key:TypeId}{d:TypeDesc}{y z:Aa}{vy vz:Value}{b:Bool}(hu:P.underlying key=some d)(hk:K9 P key=some kt)(hy:R Φ ρ y vy)(hz:R Φ ρ z vz)(h:G0 kt y z=some b):Instr.sameNow d vy vz=some b:=by
 unfold K9 at hk;rw[hu]at hk;cases d<;>simp only at hk<;>first|(cases hk; done)|(injection hk with hk; subst hk)
 all_goals (cases y<;>cases z<;>simp only[G0]at h<;>first|(cases h; done)|skip)
 ·injection h with h; subst h
  rw[Hl hy,Hl hz]; rfl
 ·split at h
  ·rename_i hkk;injection h with h; subst h; subst hkk
   rw[K4 hy,K4 hz];simp[Instr.sameNow]
  ·cases h
 ·injection h with h; subst h
  rw[KX hy,KX hz];simp only[Instr.sameNow];rw[beq_toListBytes,Jw,Jw]
theorem Ww{kt:Br}{key:TypeId}{d:TypeDesc}{y:Aa}{vy:Value}(hu:P.underlying key=some d)(hk:K9 P key=some kt)(hy:R Φ ρ y vy):∀ (es:List (Aa×Aa×Nat)) (en:List MapEntry) (r:Option (Nat×Aa×Nat)) (q:Nat),Gp Φ ρ es en →
 L3 kt y es=some r→(r=none∧Instr.findNow d vy en q=some none)∨(∃ i z born e,r=some (i,z,born)∧en[i]? = some e∧(∃ kk,es[i]? = some (kk,z,born)∧G0 kt y kk=some true)∧Instr.findNow d vy en q=some (some (q+i,e.val)))
 | [],[],r,q,_,hf=>by
  simp only[L3,oI]at hf;exact .inl ⟨hf.symm,rfl⟩
 | [],e :: en,r,q,h,_=>by have:=h.1; simp at this
 | x :: es,[],r,q,h,_=>by have:=h.1; simp at this
 | (k0,z0,b0) :: es,e :: en,r,q,h,hf=>by
  obtain⟨e',h1,h2,h3,h4⟩:=h.2 0 (k0,z0,b0) rfl;simp only[List.getElem?_cons_zero,oI]at h1;subst h1;simp only[L3]at hf;cases hkey:G0 kt y k0 with
  | none=>simp[hkey]at hf
  | some b=>
   have hsn:=ve hu hk hy h2 hkey;cases b with
   | true=>
    simp only[hkey,oI]at hf;refine .inr ⟨0,z0,b0,e,hf.symm,rfl,⟨k0,rfl,hkey⟩,?_⟩;simp only[Instr.findNow,hsn];rfl
   | false=>
    simp only[hkey]at hf;cases hr:L3 kt y es with
    | none=>simp[hr]at hf
    | some r'=>
     rcases Ww hu hk hy es en r' (q+1) h.tail hr with⟨rfl,hfn⟩|⟨i,z,born,e2,rfl,he2,⟨kk,hkk,hkq⟩,hfn⟩
     ·simp only[hr,oI]at hf;exact .inl ⟨hf.symm,by simp only[Instr.findNow,hsn,hfn]⟩
     ·simp only[hr,oI]at hf;refine .inr ⟨i+1,z,born,e2,hf.symm,by simpa using he2,⟨kk,by simpa using hkk,hkq⟩,?_⟩
      simp only[Instr.findNow,hsn,hfn]
      congr 3
      omega
theorem Wi{kt:Br}{key:TypeId}{y:Aa}{vy:Value}(b:Bool)(hk:K9 P key=some kt):(Instr.checkKey b 10000 key vy).run P w=.ok () w:=by
 have e:∀ n,(Instr.checkKey b (n+1) key vy).run P w=.ok () w:=by
  intro n;unfold K9 at hk;cases hu:P.underlying key with
  | none=>simp[hu]at hk
  | some d=>
   cases d<;>simp only[hu]at hk<;>first|(cases hk; done)|(simp only[Instr.checkKey,Sem.run_bind,V1 hu,Result.andThen_ok]; rfl)
 exact e 9999
theorem wB{es:List (Aa×Aa×Nat)}{en:Array MapEntry}(hs:en.size=es.length)(hr:∀ (i:Nat) (x:Aa×Aa×Nat),es[i]? = some x → ∃ y:MapEntry,en[i]? = some y∧R Φ ρ x.1 y.key∧R Φ ρ x.2.1 y.val∧y.born=x.2.2):Gp Φ ρ es en.toList:=
 ⟨by simpa using hs,fun i x hx=>by simpa using hr i x hx⟩
theorem Z4i{t key e:TypeId}{kt:Br}{zero:Aa}{y yk:Aa}{vk:Value}{es:List (Aa×Aa×Nat)}{r:Option (Nat×Aa×Nat)}{ok:Bool}(hr:Rel W Φ ρ m w)(ht:P.underlying t=some (.map key e))(hk:K9 P key=some kt)(hz:Tq P e=some zero)
 (hy:R Φ ρ y v) (Pn:R Φ ρ yk vk) (hm:(y=.Av∧es=[])∨(∃ b c,y=.map b∧m.get b=some (.map es c))) (hf:L3 kt yk es=some r) :
 ∃ u,(Instr.lookup t v vk ok).run P w=.ok u w∧R Φ ρ (if ok then .tuple [match r with|some (_,z,_)=>z|none=>zero,.bool r.isSome]else match r with|some (_,z,_)=>z|none=>zero) u:=by
 have hzero:∃ i zv,P.info? e=some i∧i.zero=some zv∧R Φ ρ zero zv:=by
  unfold Tq at hz;cases hi:P.info? e with
  | none=>simp[hi]at hz
  | some i=>
   cases hzz:i.zero with
   | none=>simp[hi,hzz]at hz
   | some zv=>simp only[hi,hzz]at hz; exact⟨i,zv,rfl,hzz,Yx Φ ρ hz⟩
 obtain⟨i,zv,hi,hzz,hzr⟩:=hzero;cases hu:P.underlying key with
 | none=>simp[K9,hu]at hk
 | some d=>
  have main:∀ (en:Array MapEntry),Gp Φ ρ es en.toList → ∃ u,(do
   Instr.checkKey en.isEmpty 10000 key vk
   let (v,ok') ← match ← Instr.findKey key vk en.toList with
    | some (_,v)=>pure (v,true)
    | none=>pure (← zeroValue e,false)
   pure (if ok then Value.tuple #[v,.bool ok']else v):Sem Value).run P w=.ok u w∧R Φ ρ (if ok then .tuple [match r with|some (_,z,_)=>z|none=>zero,.bool r.isSome]else match r with|some (_,z,_)=>z|none=>zero) u:=by
   intro en hen;have two:∀ (a b:Aa) (va vb:Value),R Φ ρ a va→R Φ ρ b vb→R Φ ρ (.tuple [a,b]) (.tuple #[va,vb]):=fun a b va vb ha hb=>.tuple _ _ rfl fun i x u hx hu=>by
    cases i with
    | zero=>simp at hx hu; subst hx; subst hu; exact ha
    | succ i=>
     cases i with
     | zero=>simp at hx hu; subst hx; subst hu; exact hb
     | succ i=>simp at hx
   rcases Ww hu hk Pn es en.toList r 0 hen hf with⟨rfl,hfn⟩|⟨q,z,born,e2,rfl,he2,⟨kk,hkk,_⟩,hfn⟩
   ·have hfk:(Instr.findKey key vk en.toList).run P w=.ok none w:=by
     simp only[Instr.findKey,Sem.run_bind,V1 hu,Result.andThen_ok,hfn,Sem.run_pure]
    simp only[Sem.run_bind,Wi (y:=yk) _ hk,Result.andThen_ok,hfk,MO hi hzz,Sem.run_pure];cases ok
    ·exact⟨_,rfl,hzr⟩
    ·exact⟨_,rfl,two _ _ _ _ hzr (.bool _)⟩
   ·have hfk:(Instr.findKey key vk en.toList).run P w=.ok (some (0+q,e2.val)) w:=by
     simp only[Instr.findKey,Sem.run_bind,V1 hu,Result.andThen_ok,hfn,Sem.run_pure]
    obtain⟨e3,h1,h2,h3,h4⟩:=hen.2 q _ hkk;rw[he2]at h1; injection h1 with h1; subst h1
    simp only[Sem.run_bind,Wi (y:=yk) _ hk,Result.andThen_ok,hfk,Sem.run_pure];cases ok
    ·exact⟨_,rfl,h3⟩
    ·exact⟨_,rfl,two _ _ _ _ h3 (.bool _)⟩
  rcases hm with⟨rfl,rfl⟩|⟨b,c,rfl,hg⟩
  ·cases hy;obtain⟨u,h1,h2⟩:=main #[] ⟨rfl,fun i x hx=>by simp at hx⟩
   exact⟨u,Eq.trans (by simp only[Instr.lookup,Sem.run_bind,V1 ht,Result.andThen_ok,Sem.run_pure]; rfl) h1,h2⟩
  ·cases hy with
   | map _ l hl=>
    obtain⟨l',ob,g1,g2,g3,g4,g5⟩:=hr.live b _ hg;rw[hl]at g1; injection g1 with g1; subst g1
    cases g5 with
    | map _ clock _ en hs Ak=>
     obtain⟨u,h1,h2⟩:=main en (wB hs Ak);refine⟨u,?_,h2⟩;have hget:(getObj l.blk).run P w=.ok (.map en c) w:=by simp only[getObj,Sem.run,g4]
     exact Eq.trans (by simp only[Instr.lookup,Sem.run_bind,V1 ht,Result.andThen_ok,Sem.run_pure,hget]; rfl) h1
end
end Go.AE
end
section
namespace Go.AE
open Go.RowKit
section
variable {P:Program} {s:Sem Next} {W:AA} {Φ:Ao} {ρ:AD} {id:Nat} {w w1:World} {m m':Mem} {x:Aa} {v:Value}
theorem Z2x{kt:Br}{y z:Aa}{vy vz:Value}(hy:R Φ ρ y vy)(hz:R Φ ρ z vz)(h:G0 kt y z=some true):Instr.sameBits 10000 vz vy=true:=by
 cases kt<;>cases y<;>cases z<;>simp only[G0]at h<;>first|(cases h; done)|skip
 ·split at h
  ·rename_i hk;subst hk;simp only[oI,beq_iff_eq]at h;subst h;rw[K4 hy,K4 hz];simp[Instr.sameBits]
  ·cases h
 ·simp only[oI,beq_iff_eq]at h;subst h;rw[KX hy,KX hz];simp only[Instr.sameBits];rw[beq_toListBytes]; simp
 ·simp only[oI,beq_iff_eq]at h;subst h;rw[Hl hy,Hl hz];simp[Instr.sameBits]
theorem wS{B:Nat}{o o':Obj}(h:w.heap[B]? = some o)(hn:∀ c e f,o≠.cells c e f):(setObj B o').run P w=.ok () (R5 w B o'):=by
 simp only[setObj,Sem.run,h];cases o<;>first|(exact absurd rfl (hn _ _ _))|rfl
theorem sM{t key e:TypeId}{kt:Br}{b:Nat}{yk yv:Aa}{vm vk vv:Value}{es es':List (Aa×Aa×Nat)}{clock clock':Nat}(hr:Rel W Φ ρ m w)(ht:P.underlying t=some (.map key e))(hk:K9 P key=some kt)
 (hm:R Φ ρ (.map b) vm) (Pn:R Φ ρ yk vk) (Fl:R Φ ρ yv vv) (hg:m.get b=some (.map es clock))
 (hf:(∃ i z born,L3 kt yk es=some (some (i,z,born))∧es'=es.set i (yk,yv,born)∧clock'=clock)∨(L3 kt yk es=some none∧es'=es++[(yk,yv,clock)]∧clock'=clock+1))
 (hs:∀ w',(Instr.mapUpdate t vm vk vv).run P w=.ok () w'→s.run P w=.ok .skip w'):Az P s W Φ ρ id w Ag (m.set b (.map es' clock')):=by
 cases hu:P.underlying key with
 | none=>simp[K9,hu]at hk
 | some d=>
  cases hm with
  | map _ l hl=>
   obtain⟨l',ob,g1,g2,g3,g4,g5⟩:=hr.live b _ hg;rw[hl]at g1; injection g1 with g1; subst g1
   cases g5 with
   | map _ _ _ en hsz Ak=>
    have hent:=wB hsz Ak;have hget:(getObj l.blk).run P w=.ok (.map en clock) w:=by simp only[getObj,Sem.run,g4]
    have hset:∀ o',(setObj l.blk o').run P w=.ok () (R5 w l.blk o'):=fun o'=>wS g4 (by simp)
    rcases hf with⟨i,z,born,hf,hes',hcl'⟩|⟨hf,hes',hcl'⟩
    ·rcases Ww hu hk Pn es en.toList _ 0 hent hf with⟨h0,_⟩|⟨i',z',born',e2,h0,he2,⟨kk,hkk,hkq⟩,hfn⟩
     ·cases h0
     ·simp only[oI,Bm]at h0;obtain⟨rfl,rfl,rfl⟩:=h0;have hfk:(Instr.findKey key vk en.toList).run P w=.ok (some (0+i,e2.val)) w:=by
       simp only[Instr.findKey,Sem.run_bind,V1 hu,Result.andThen_ok,hfn,Sem.run_pure]
      obtain⟨e3,h1,h2,h3,h4⟩:=hent.2 i _ hkk;rw[he2]at h1; injection h1 with h1; subst h1
      have hen:en[i]? = some e2:=by simpa using he2
      have hsb:=Z2x Pn h2 hkq;have hrun2:(Instr.mapUpdate t (.map (some l.blk)) vk vv).run P w=.ok () (R5 w l.blk (.map (en.modify i fun e=>{ e with key:=vk,val:=vv }) clock)):=by
       simp only[Instr.mapUpdate,Sem.run_bind,V1 ht,Result.andThen_ok,hget,Wi (y:=yk) _ hk,hfk,Nat.zero_add,hen,Option.map_some,Option.getD_some,Instr.keyThatStays,hsb,if_true,Sem.run_pure,hset]
      subst hes'; subst hcl';refine Az.lT (hs _ hrun2) hr hg hl (.map _ _ _ _ (by simp[hsz]) fun q y hq=>?_)
      rw[List.getElem?_set]at hq;by_cases hqi:i=q
      ·subst hqi;have hlt:i<es.length:=(gS.1 hkk).1;rw[iP rfl,iP hlt]at hq;injection hq with hq
       subst hq;exact⟨{ e2 with key:=vk,val:=vv },by simp[Array.getElem?_modify,hen],Pn,Fl,h4⟩
      ·rw[iN hqi]at hq;obtain⟨e4,k1,k2⟩:=Ak q y hq;exact⟨e4,by rw[Array.getElem?_modify,iN hqi]; exact k1,k2⟩
    ·rcases Ww hu hk Pn es en.toList _ 0 hent hf with⟨_,hfn⟩|⟨i',z',born',e2,h0,_⟩
     ·have hfk:(Instr.findKey key vk en.toList).run P w=.ok none w:=by
       simp only[Instr.findKey,Sem.run_bind,V1 hu,Result.andThen_ok,hfn,Sem.run_pure]
      have hrun2:(Instr.mapUpdate t (.map (some l.blk)) vk vv).run P w=.ok () (R5 w l.blk (.map (en.push { key:=vk,val:=vv,born:=clock }) (clock+1))):=by
       simp only[Instr.mapUpdate,Sem.run_bind,V1 ht,Result.andThen_ok,hget,Wi (y:=yk) _ hk,hfk,hset]
      subst hes'; subst hcl';refine Az.lT (hs _ hrun2) hr hg hl (.map _ _ _ _ (by simp[hsz]) fun q y hq=>?_)
      rw[List.getElem?_append]at hq;split at hq
      ·rename_i hlt;obtain⟨e4,k1,k2⟩:=Ak q y hq;exact⟨e4,by rw[Array.getElem?_push,iN (by omega)]; exact k1,k2⟩
      ·rename_i hge;have hq0:q=es.length:=by
        have:=(gS.1 hq).1;simp at this; omega
       subst hq0;simp only[Nat.sub_self,List.getElem?_cons_zero,oI]at hq;subst hq;exact⟨{ key:=vk,val:=vv,born:=clock },by rw[Array.getElem?_push,iP (by omega)],Pn,Fl,rfl⟩
     ·cases h0
theorem Z4t{t ty:TypeId}{y:Aa}{n:Nat}(hr:Rel W Φ ρ m w)(hy:R Φ ρ y v)
 (h:(P.underlying t=some .string ∧ ∃ l,y=.str l∧n=l.length)∨((∃ e,P.underlying t=some (.slice e))∧I4 y=some n) ∨
   ((∃ k e,P.underlying t=some (.map k e))∧((y=.Av∧n=0) ∨ ∃ b es c,y=.map b∧m.get b=some (.map es c)∧n=es.length))) :
 (Builtin.len_ #[t] ty #[v]).run P w=.ok (.int .i64 n) w:=by
 rcases h with⟨ht,l,rfl,rfl⟩|⟨⟨e,ht⟩,hl⟩|⟨⟨k,e,ht⟩,hm⟩
 ·rw[KX hy];unfold Builtin.len_;simp only[Sem.run_bind,List.getElem?_toArray,List.getElem?_cons_zero,V1 ht,Result.andThen_ok];rfl
 ·have hv:∃ a c,v=.slice a n c:=by
   cases hy<;>simp only[I4]at hl<;>first|(cases hl; done)|(injection hl with hl; subst hl; exact⟨_,_,rfl⟩)
  obtain⟨a,c,rfl⟩:=hv;unfold Builtin.len_;simp only[Sem.run_bind,List.getElem?_toArray,List.getElem?_cons_zero,V1 ht,Result.andThen_ok];rfl
 ·rcases hm with⟨rfl,rfl⟩|⟨b,es,c,rfl,hg,rfl⟩
  ·cases hy;unfold Builtin.len_;simp only[Sem.run_bind,List.getElem?_toArray,List.getElem?_cons_zero,V1 ht,Result.andThen_ok];rfl
  ·cases hy with
   | map _ l hl=>
    obtain⟨l',ob,g1,g2,g3,g4,g5⟩:=hr.live b _ hg;rw[hl]at g1; injection g1 with g1; subst g1
    cases g5 with
    | map _ _ _ en hsz Ak=>
     have hget:(getObj l.blk).run P w=.ok (.map en c) w:=by simp only[getObj,Sem.run,g4]
     unfold Builtin.len_;simp only[Sem.run_bind,List.getElem?_toArray,List.getElem?_cons_zero,V1 ht,Result.andThen_ok,hget,Sem.run_pure,goInt,hsz]
theorem vD(mx:Bool):∀ (ys:List Aa) (vs:List Value) (y z:Aa) (vy:Value),R Φ ρ y vy→vs.length=ys.length→(∀(i:Nat) (x:Aa) (u:Value),ys[i]? = some x→vs[i]? = some u→R Φ ρ x u)→LO mx y ys=some z →
 ∃ u,((vs.foldlM (if mx then Builtin.max2 else Builtin.min2) vy)).run P w=.ok u w∧R Φ ρ z u
 | [],[],y,z,vy,hy,_,_,h=>by
  have:y=z:=by cases y<;>simpa[LO]using h
  subst this;exact⟨vy,rfl,hy⟩
 | [],u :: vs,_,_,_,_,hl,_,_=>by simp at hl
 | x :: ys,[],_,_,_,_,hl,_,_=>by simp at hl
 | x :: ys,u :: vs,y,z,vy,hy,hl,hr,h=>by
  cases y<;>cases x<;>simp only[LO]at h<;>first|(cases h; done)|skip
  rename_i k a k' b;rw[K4 hy];have hx:=hr 0 _ _ rfl rfl;rw[K4 hx];obtain⟨u',h1,h2⟩:=vD mx ys vs _ z (.int k (if mx then (if b > a then b else a)else (if b<a then b else a))) (.int _ _) (by simpa using hl) (fun i x u hx hu=>hr (i+1) x u (by simpa using hx) (by simpa using hu)) h
  refine⟨u',?_,h2⟩;rw[List.foldlM_cons];cases mx
  ·simp only[bF,if_false,Sem.run_bind,Builtin.min2,Sem.run_pure,Result.andThen_ok]at h1 ⊢;exact h1
  ·simp only[if_true,Sem.run_bind,Builtin.max2,Sem.run_pure,Result.andThen_ok]at h1 ⊢;exact h1
end
end Go.AE
end
section
namespace Go.AE
open Go.RowKit
section
variable {P:Program} {s:Sem Next} {W:AA} {Φ:Ao} {ρ:AD} {id:Nat} {w w1:World} {m m':Mem} {x:Aa} {v:Value}
theorem H7{s:Sem Value}{u:Value}{w w':World}(h:s.run P w=.ok u w'):(do pure (Next.value (← s)):Sem Next).run P w=.ok (.value u) w':=by
 simp only[Sem.run_bind,h,Result.andThen_ok,Sem.run_pure]
theorem yR{s:Sem Unit}{w w':World}(h:s.run P w=.ok () w'):(do s; pure Next.skip:Sem Next).run P w=.ok .skip w':=by
 simp only[Sem.run_bind,h,Result.andThen_ok,Sem.run_pure]
theorem Az.FX{s:Sem Value}(hr:Rel W Φ ρ m w)(h:∃ u,s.run P w=.ok u w∧R Φ ρ x u):Az P (do pure (Next.value (← s))) W Φ ρ id w x m:=by
 obtain⟨u,h1,h2⟩:=h;exact Az.val (H7 h1) hr h2
theorem wY(f:Value→ByteArray→Sem (ForInStep ByteArray))(hf:∀ n b,(f (.int .u8 n) b).run P w=.ok (.yield (b.push (UInt8.ofNat n.toNat))) w):∀ (rows:List (List Aa)) (vs:List Value) (l:List UInt8) (b:ByteArray),vs.length=rows.length→LR rows=some l →
 (∀(i:Nat) (row:List Aa) (x:Aa),rows[i]? = some row→row[0]? = some x → ∃ v,vs[i]? = some v∧R Φ ρ x v) →
 (forIn vs b f).run P w=.ok ⟨⟨b.data.toList++l⟩⟩ w
 | [],[],l,b,_,h,_=>by
  simp only[LR,oI]at h;subst h;simp[List.forIn_nil]
 | [],_ :: _,_,_,hl,_,_=>by simp at hl
 | _ :: _,[],_,_,hl,_,_=>by simp at hl
 | row :: rows,v :: vs,l,b,hl,h,hr=>by
  unfold LR at h;split at h
  ·rename_i heq; cases heq
  ·rename_i n r heq;injection heq with e1 e2
   subst e1; subst e2;cases hb:LR rows with
   | none=>simp[hb]at h
   | some l'=>
    simp only[hb,oI]at h;subst h;obtain⟨u,hu,hru⟩:=hr 0 _ _ rfl rfl;simp only[List.getElem?_cons_zero,oI]at hu;subst hu;rw[K4 hru];have ih:=wY f hf rows vs l' (b.push (UInt8.ofNat n.toNat)) (by simpa using hl) hb (fun i row x h1 h2=>by
     obtain⟨u,hu,hru⟩:=hr (i+1) row x (by simpa using h1) h2
     exact⟨u,by simpa using hu,hru⟩)
    simp only[List.forIn_cons,Sem.run_bind,hf,Result.andThen_ok];rw[ih];simp[ByteArray.push]
  ·cases h
theorem Z8l{y:Aa}{rows:List (List Aa)}{l:List UInt8}(hr:Rel W Φ ρ m w)(hy:R Φ ρ y v)(hrow:H3 m 1 y=some rows)(hb:LR rows=some l) :
 (Conv.bytesToString v).run P w=.ok (.string ⟨⟨l⟩⟩) w:=by
 have hsrc:M9 m 1 y=some rows:=by
  cases y<;>simp only[M9]<;>first|exact hrow|(simp[H3]at hrow)
 obtain⟨arr,h1,h2,h3,h4⟩:=MV (P:=P) hr hy hsrc (lR 1);have hv:∃ a n c,v=.slice a n c:=by
  cases hy<;>simp only[H3]at hrow<;>first|(cases hrow; done)|exact⟨_,_,_,rfl⟩
 obtain⟨a,n,c,rfl⟩:=hv;have hn:n=rows.length:=by
  simp[Builtin.lenOf]at h1;exact h1
 subst hn;cases a with
 | none=>
  have h5:=h2 rows.length (lR _);cases hrl:rows with
  | nil=>
   subst hrl;simp only[LR,oI]at hb;subst hb;rfl
  | cons row rest=>
   rw[hrl]at h5;simp[Builtin.firstCells]at h5;rw[h5,hrl]at h3;simp at h3
 | some a=>
  have h5:=h2 rows.length (lR _);have h6:(loadCells a rows.length).run P w=.ok arr w:=by
   by_cases h0:rows.length=0
   ·rw[h0]at h3;have:arr = #[]:=by simpa using h3
    rw[h0,this];rfl
   ·have:arr.extract 0 (rows.length*1)=arr:=by rw[← h3]; simp
    rw[this]at h5;simpa[Builtin.firstCells,h0]using h5
  unfold Conv.bytesToString;simp only[Sem.run_bind,h6,Result.andThen_ok];rw[← Array.forIn_toList,wY (Φ:=Φ) (ρ:=ρ) _ (fun n b=>rfl) rows arr.toList l _ (by simpa using h3) hb (fun i row x hi hx=>by
   obtain⟨u,hu,_,hru⟩:=h4.2 i row 0 x hi hx;exact⟨u,by simpa using hu,hru⟩)]
  simp[ByteArray.empty,ByteArray.emptyWithCapacity];rfl
theorem Z1e{t:TypeId}{zs:List Aa}(hr:Rel W Φ ρ m w)(hn:ρ id=none)(hlt:id<m.next)(hz:Kc P t=some zs) :
 Az P (do pure (Next.value (← Instr.alloc t true (.tuple #[])))) W Φ ρ id w (.ptr id 0 0) (m.set id (.cells zs.length [zs])):=by
 obtain⟨i,z,y,h1,h2,h3,h4,h5⟩:=Oy hz Φ ρ;refine mL (v:=z) (e:=t) hr hn hlt h3 h4 h5 (H7 ?_);simp[Instr.alloc,MO h1 h2,newVar,newRow]
theorem Z3o{t:TypeId}{y:Aa}{cs:List Aa}(hr:Rel W Φ ρ m w)(hn:ρ id=none)(hlt:id<m.next)(hy:R Φ ρ y v)(hc:y.cells=some cs)(h1:cs.all Aa.one=true) :
 Az P (do pure (Next.value (← Instr.box t v))) W Φ ρ id w (.ptr id 0 0) (m.set id (.cells cs.length [cs])):=by
 refine mL (v:=v) (e:=t) hr hn hlt hy hc h1 (H7 ?_);simp[Instr.box,newVar,newRow]
theorem Z10{t:TypeId}(hr:Rel W Φ ρ m w)(hn:ρ id=none)(hlt:id<m.next) :
 Az P (do pure (Next.value (← Instr.makeMap t none))) W Φ ρ id w (.map id) (m.set id (.map [] 0)):=by
 refine Az.new (l:=⟨w.heap.size,0,0,0⟩) (o:=.map #[] 0) (H7 ?_) hr hn hlt rfl (.map _ _ _ _ rfl fun i x h=>by simp at h) (.map id _ AD.Bj)
 simp[Instr.makeMap]
theorem Z5b{vs:List Aa}{i:Nat}{z:Aa}(hy:R Φ ρ (.tuple vs) v)(hi:vs[i]? = some z):∃ u,(Instr.extract v i).run P w=.ok u w∧R Φ ρ z u:=by
 cases hy with
 | tuple _ us hs hr=>
  have hlt:i<us.size:=by rw[hs]; exact(gS.1 hi).1
  refine⟨us[i],?_,hr i z _ hi (Array.getElem?_eq_getElem hlt)⟩;simp[Instr.extract,hlt]
theorem nG(e:Fp):K8 e .bot=none:=by cases e<;>rfl
theorem xh(e:Fp)(z:Aa):Kl e .bot z=none:=by
 simp only[Kl,nG];split<;>rfl
theorem Z2f(e:Fp)(z:Aa):Kl e z .bot=none:=by
 simp only[Kl,nG];split<;>rfl
theorem WX(e:Fp)(z:Aa):EJ e .bot z=none∧EJ e z .bot=none:=by
 cases e<;>simp[EJ,xh,Z2f]
theorem Z3s{op:BinOp}{t:TypeId}{e:Fp}{y z r:Aa}{vy vz:Value}{ox oy:Operand}(he:Xr P t=some e)(h:U6 op e y z=some r)(hy:R Φ ρ y vy)(hz:R Φ ρ z vz) :
 ∃ u,(do eqGuard op t ox oy vy vz; binOp op t vy vz:Sem Value).run P w=.ok u w∧R Φ ρ r u:=by
 have gint:∀ k a k' b,(eqGuard op t ox oy (.int k a) (.int k' b)).run P w=.ok () w:=by
  intro k a k' b;unfold eqGuard;cases op<;>simp
 have gstr:∀ a b,(eqGuard op t ox oy (.string a) (.string b)).run P w=.ok () w:=by
  intro a b;unfold eqGuard;cases op<;>simp
 have heq:∀ b,EJ e y z=some b→op=.eql→r=.bool b → ∃ u,(do eqGuard op t ox oy vy vz; binOp op t vy vz:Sem Value).run P w=.ok u w∧R Φ ρ r u:=by
  intro b hb ho hrb;subst ho; subst hrb;obtain⟨h1,h2,h3,h4,h5⟩:=sS (w:=w) (op:=.eql) (ox:=ox) (oy:=oy) he hb hy hz;refine⟨.bool b,?_,.bool b⟩;simp only[Sem.run_bind,h1,Result.andThen_ok];have:binOp .eql t vy vz=(do pure (.bool (← Op.equal t vy vz)):Sem Value):=by
   cases hy<;>first|(exact absurd rfl (h3 _ _))|(exact absurd rfl (h4 _))|skip
   all_goals first|(exfalso; rw[(WX _ _).1]at hb; cases hb; done)|(cases hz<;>first|rfl|(exfalso; rw[(WX _ _).2]at hb; cases hb; done))
  rw[this];simp only[Sem.run_bind,h2,Result.andThen_ok,Sem.run_pure]
 have hne:∀ b,EJ e y z=some b→op=.neq→r=.bool (!b) → ∃ u,(do eqGuard op t ox oy vy vz; binOp op t vy vz:Sem Value).run P w=.ok u w∧R Φ ρ r u:=by
  intro b hb ho hrb;subst ho; subst hrb;obtain⟨h1,h2,h3,h4,h5⟩:=sS (w:=w) (op:=.neq) (ox:=ox) (oy:=oy) he hb hy hz;refine⟨.bool (!b),?_,.bool _⟩;simp only[Sem.run_bind,h1,Result.andThen_ok];have:binOp .neq t vy vz=(do pure (.bool (!(← Op.equal t vy vz))):Sem Value):=by
   cases hy<;>first|(exact absurd rfl (h3 _ _))|(exact absurd rfl (h4 _))|skip
   all_goals first|(exfalso; rw[(WX _ _).1]at hb; cases hb; done)|(cases hz<;>first|rfl|(exfalso; rw[(WX _ _).2]at hb; cases hb; done))
  rw[this];simp only[Sem.run_bind,h2,Result.andThen_ok,Sem.run_pure]
 unfold U6 at h;split at h
 ·split at h
  ·cases h
  ·rename_i k a k' b hb;injection h with h
   subst h;rw[K4 hy,K4 hz];simp only[Sem.run_bind,gint,Result.andThen_ok];refine⟨_,?_,.int _ _⟩;simp[binOp,Op.shift,hb]
 ·split at h
  ·cases h
  ·rename_i k a k' b hb;injection h with h
   subst h;rw[K4 hy,K4 hz];simp only[Sem.run_bind,gint,Result.andThen_ok];refine⟨_,?_,.int _ _⟩;simp[binOp,Op.shift,hb]
 ·split at h
  ·rename_i hk;subst hk;rw[K4 hy,K4 hz];simp only[Sem.run_bind,gint,Result.andThen_ok];exact Z1m h
  ·cases h
 ·rw[KX hy,KX hz];simp only[Sem.run_bind,gstr,Result.andThen_ok];exact Z6g h
 ·split at h
  ·rename_i b hb;injection h with h
   exact heq b hb rfl h.symm
  ·cases h
 ·split at h
  ·rename_i b hb;injection h with h
   exact hne b hb rfl h.symm
  ·cases h
 ·cases h
end
end Go.AE
end
section
namespace Go.AE
open Go.RowKit
section
variable {P:Program} {W:AA} {Φ:Ao} {ρ:AD} {id:Nat} {w:World} {m m':Mem} {x:Aa} {a:Act} {t:List Aa}
theorem Wq(ht:RL Φ ρ t a.tmps){xs:Array Operand}{ys:List Ah}(h:C7 xs.toList=some ys):RL Φ ρ (ys.map (ev t)) (xs.map a.eval):=by
 obtain⟨h1,h2⟩:=oT ht _ _ h;refine⟨by simp[h1],fun i x v hx hv=>?_⟩
 simp only[gM,mO]at hx;obtain⟨y,hy,rfl⟩:=hx;simp only[Array.getElem?_map,mO]at hv;obtain⟨z,hz,rfl⟩:=hv;exact R4 ht (h2 i y z hy (by simpa using hz))
theorem Z9h{s:Sem Next}{y:Aa}{v:Value}(hr:Rel W Φ ρ m w)
 (h:(match y with | .ptr b i j=>some (.ptr b i j,m) | .AW els i j=>some (.AW els i j,m) | .func (.func f) a b=>some (.func (.func f) a b,m)|_=>none)=some (x,m')) (hy:R Φ ρ y v)
 (hs:(∀ p,v=.pointer (some p)→s.run P w=.ok (.value v) w)∧(∀ f p q,v=.func (.func f) p q→s.run P w=.ok (.value v) w)):Az P s W Φ ρ id w x m':=by
 cases hy with
 | ptr b i j l hl=>
  simp only[oI,Bm]at h;obtain⟨h1,h2⟩:=h;subst h1; subst h2;exact Az.val (hs.1 _ rfl) hr (.ptr b i j l hl)
 | AW els i j B o k c f hB hk hc Ak=>
  simp only[oI,Bm]at h;obtain⟨h1,h2⟩:=h;subst h1; subst h2;exact Az.val (hs.1 _ rfl) hr (.AW els i j B o k c f hB hk hc Ak)
 | func fn fs cs vf vc hf hc h3 h4=>
  cases fn<;>simp only[oI,Bm,reduceCtorEq]at h
  obtain⟨h1,h2⟩:=h;subst h1; subst h2;exact Az.val (hs.2 _ _ _ rfl) hr (.func _ fs cs vf vc hf hc h3 h4)
 | _=>simp at h
theorem yo{y:Aa}{v:Value}{n:Nat}(hy:R Φ ρ y v)(hn:I4 y=some n):∃ p c,v=.slice p n c∧n≤c:=by
 cases hy<;>simp only[I4]at hn<;>first|(cases hn; done)|skip
 all_goals (injection hn with hn; subst hn)
 all_goals first|exact⟨_,_,rfl,by simp⟩|exact⟨_,_,rfl,by assumption⟩
theorem V4{α β:Type}{a c:α}{b d:β}(h:some (a,b)=some (c,d)):a=c∧b=d:=by
 injection h with h; injection h with h1 h2; exact⟨h1,h2⟩
theorem Ry{b:Builtin}{c:Call}{o:Oper}{s:Sem Value}(ho:o.op=.call c)(hc:c.callee=.builtin b)
 (hb:∀ cs,builtin b c.argTypes o.type cs (c.args.map a.eval)=(do pure (Next.value (← s)))):∀ u w',s.run P w=.ok u w'→(execOp a.eval o).run P w=.ok (.value u) w':=by
 intro u w' h;unfold execOp;rw[ho];simp only[resolve,hc,Sem.run_bind,Sem.run_pure,Result.andThen_ok,invoke];rw[hb];exact H7 h
theorem tN{c:Call}{p q:Operand}(h:c.args.toList=[p,q]):c.args.map a.eval = #[a.eval p,a.eval q]:=by
 have:c.args = #[p,q]:=by rw[← Array.toList_inj]; exact h
 rw[this]; simp
theorem rV{c:Call}{p:Operand}(h:c.args.toList=[p]):c.args.map a.eval = #[a.eval p]:=by
 have:c.args = #[p]:=by rw[← Array.toList_inj]; exact h
 rw[this]; simp
theorem qC(ht:RL Φ ρ t a.tmps)(hr:Rel W Φ ρ m w)(o:Oper)(c:Call)(ho:o.op=.call c)(mx:Bool)(BD:c.callee=.builtin (if mx then .max else .min))
 (hs:∀ u w',(if mx then Builtin.max_ c.argTypes o.type (c.args.map a.eval)else Builtin.min_ c.argTypes o.type (c.args.map a.eval)).run P w=.ok u w'→(execOp a.eval o).run P w=.ok (.value u) w')
 {xs:List Ah} (hxs:C7 c.args.toList=some xs) (h:Z5 id t m (.Cq mx xs)=some (x,m')):Az P (execOp a.eval o) W Φ ρ id w x m':=by
 simp only[Z5]at h;have hrl:=Wq ht hxs;cases xs with
 | nil=>simp at h
 | cons y ys=>
  simp only at h;split at h<;>first|(cases h; done)|skip
  rename_i z hz;obtain⟨h1,h2⟩:=V4 h;subst h1; subst h2;generalize hvs:c.args.map a.eval=vs at hs hrl;obtain⟨l⟩:=vs;cases l with
  | nil=>simp[RL]at hrl
  | cons v l=>
   obtain⟨u,g1,g2⟩:=vD (P:=P) (w:=w) mx (ys.map (ev t)) l _ z v (hrl.2 0 _ _ rfl rfl) (by simpa[RL]using hrl.1) (fun i x u hx hu=>hrl.2 (i+1) x u (by simpa using hx) (by simpa using hu)) hz
   refine Az.val (hs u w ?_) hr g2;cases mx<;>exact g1
theorem Z60(ht:RL Φ ρ t a.tmps)(hr:Rel W Φ ρ m w)(hn:ρ id=none)(hlt:id<m.next)(o:Oper)(c:Call)(ho:o.op=.call c)(op:AU)
 (hc:MT P c=some op) (h:Z5 id t m op=some (x,m')):Az P (execOp a.eval o) W Φ ρ id w x m':=by
 unfold MT at hc;split at hc
 ·split at hc
  ·injection hc with hc; subst hc; simp[Z5]at h
  ·cases hc
 ·rename_i BD;split at hc<;>first|(cases hc; done)|skip
  rename_i s xx tt u hargs htys;split at hc<;>first|(cases hc; done)|skip
  rename_i k b z s' x' he hs' hx';split at hc<;>first|(cases hc; done)|skip
  ·injection hc with hc; subst hc; simp[Z5]at h
  ·rename_i d hd hdu;injection hc with hc
   subst hc;simp only[Z5]at h;split at h<;>first|(cases h; done)|skip
   rename_i xs hxs;have htys':c.argTypes = #[tt,u]:=by rw[← Array.toList_inj]; exact htys
   exact Z20 (ty:=o.type) (r:=(x,m')) hr hn hlt he hdu (fun k hk=>hd k hk) (R4 ht hs') (R4 ht hx') hxs h
    (Ry ho BD fun cs=>by rw[tN hargs,htys']; rfl)
 ·rename_i BD;split at hc<;>first|(cases hc; done)|skip
  rename_i dd ss tt u hargs htys;split at hc<;>first|(cases hc; done)|skip
  rename_i k b z d' s' he hd' hs';injection hc with hc
  subst hc;simp only[Z5]at h;split at h<;>first|(cases h; done)|skip
  rename_i bb off len xs hsl hxs;split at h<;>first|(cases h; done)|skip
  rename_i k' els hg;split at h<;>first|(cases h; done)|skip
  rename_i hcond;obtain⟨rfl,Fa⟩:=hcond;obtain⟨h1,h2⟩:=V4 h;subst h1; subst h2;have htys':c.argTypes = #[tt,u]:=by rw[← Array.toList_inj]; exact htys
  have hdv:=R4 ht hd';rw[hsl]at hdv;exact Z9a (ty:=o.type) (u:=u) hr he hdv (R4 ht hs') hxs hg Fa (Ry ho BD fun cs=>by rw[tN hargs,htys']; rfl)
 ·rename_i BD;split at hc<;>first|(cases hc; done)|skip
  rename_i xx tt hargs htys;split at hc<;>first|(cases hc; done)|skip
  rename_i k b z x' he hx';injection hc with hc
  subst hc;simp only[Z5]at h;have htys':c.argTypes = #[tt]:=by rw[← Array.toList_inj]; exact htys
  have hrun:=Ry (P:=P) (w:=w) (a:=a) (s:=Builtin.clear_ #[tt] o.type #[a.eval xx]) ho BD (fun cs=>by rw[rV hargs,htys']; rfl)
  split at h<;>first|(cases h; done)|skip
  ·rename_i b' off len hsl;split at h<;>first|(cases h; done)|skip
   rename_i k' els hg;split at h<;>first|(cases h; done)|skip
   rename_i hcond;obtain⟨rfl,Fa⟩:=hcond;obtain⟨h1,h2⟩:=V4 h;subst h1; subst h2;exact XP hr he (R4 ht hx') (.inl ⟨_,_,_,_,hsl,hg,Fa,rfl⟩) hrun
  ·rename_i hsl;obtain⟨h1,h2⟩:=V4 h;subst h1; subst h2;exact XP hr he (R4 ht hx') (.inr ⟨.inl hsl,rfl⟩) hrun
  ·rename_i hsl;obtain⟨h1,h2⟩:=V4 h;subst h1; subst h2;exact XP hr he (R4 ht hx') (.inr ⟨.inr hsl,rfl⟩) hrun
 ·rename_i BD;split at hc<;>first|(cases hc; done)|skip
  rename_i xx tt hargs htys;have htys':c.argTypes = #[tt]:=by rw[← Array.toList_inj]; exact htys
  have hrun:=Ry (P:=P) (w:=w) (a:=a) (s:=Builtin.len_ #[tt] o.type #[a.eval xx]) ho BD (fun cs=>by rw[rV hargs,htys']; rfl)
  have fin:∀ (y:Ah) (n:Nat),X3 xx=some y→x=.int .i64 n→m'=m →
   ((P.underlying tt=some .string ∧ ∃ l,ev t y=.str l∧n=l.length)∨((∃ e,P.underlying tt=some (.slice e))∧I4 (ev t y)=some n) ∨
   ((∃ k e,P.underlying tt=some (.map k e))∧((ev t y=.Av∧n=0) ∨ ∃ b es c,ev t y=.map b∧m.get b=some (.map es c)∧n=es.length)))→Az P (execOp a.eval o) W Φ ρ id w x m':=by
   intro y n hy h1 h2 h3;subst h1; subst h2;exact Az.val (hrun _ _ (Z4t hr (R4 ht hy) h3)) hr (.int _ _)
  split at hc<;>first|(cases hc; done)|skip
  ·rename_i n e hu;injection hc with hc
   subst hc;simp only[Z5]at h;obtain⟨h1,h2⟩:=V4 h;subst h1; subst h2;refine Az.val (hrun (.int .i64 n) w ?_) hr (.int _ _);unfold Builtin.len_;simp only[Sem.run_bind,List.getElem?_toArray,List.getElem?_cons_zero,V1 hu,Result.andThen_ok];rfl
  all_goals
   injection hc with hc
   subst hc;simp only[Z5]at h
  ·rename_i y hu hy;split at h<;>first|(cases h; done)|skip
   rename_i l hl;obtain⟨h1,h2⟩:=V4 h;exact fin y _ hy h1.symm h2.symm (.inl ⟨hu,l,hl,rfl⟩)
  ·rename_i e y hu hy;split at h<;>first|(cases h; done)|skip
   rename_i n hl;obtain⟨h1,h2⟩:=V4 h;exact fin y _ hy h1.symm h2.symm (.inr (.inl ⟨⟨_,hu⟩,hl⟩))
  ·rename_i k e y hu hy;split at h<;>first|(cases h; done)|skip
   ·rename_i hl;obtain⟨h1,h2⟩:=V4 h;exact fin y 0 hy h1.symm h2.symm (.inr (.inr ⟨⟨_,_,hu⟩,.inl ⟨hl,rfl⟩⟩))
   ·rename_i b hl;split at h<;>first|(cases h; done)|skip
    rename_i es c hg;obtain⟨h1,h2⟩:=V4 h;exact fin y _ hy h1.symm h2.symm (.inr (.inr ⟨⟨_,_,hu⟩,.inr ⟨b,es,c,hl,hg,rfl⟩⟩))
 ·split at hc<;>first|(cases hc; done)|skip
  split at hc<;>first|(cases hc; done)|skip
  injection hc with hc
  subst hc;simp[Z5]at h
 ·rename_i BD;split at hc<;>first|(cases hc; done)|skip
  rename_i xs hxs;injection hc with hc
  subst hc;exact qC ht hr o c ho false BD (Ry ho BD fun cs=>rfl) hxs h
 ·rename_i BD;split at hc<;>first|(cases hc; done)|skip
  rename_i xs hxs;injection hc with hc
  subst hc;exact qC ht hr o c ho true BD (Ry ho BD fun cs=>rfl) hxs h
 ·cases hc
end
end Go.AE
end
section
namespace Go.AE
open Go.RowKit
section
variable {P:Program} {W:AA} {Φ:Ao} {ρ:AD} {id:Nat} {w:World} {m m':Mem} {x:Aa} {a:Act} {t:List Aa}
theorem zR{y:Aa}{v:Value}{b:Bool}(hy:R Φ ρ y v)(h:y=.bool b):v=.bool b:=by subst h; exact Hl hy
theorem zI(ht:RL Φ ρ t a.tmps)(hr:Rel W Φ ρ m w)(ty:TypeId)(om ok ov:Operand)(op:AU)
 (hc:(match P.underlying ty,X3 om,X3 ok,X3 ov with
 | some (.map kt _),some m',some k',some v'=>match K9 P kt with
  | some q=>some (AU.Bx q m' k' v')
  | none=>none
 | _,_,_,_=>none)=some op) (h:Z5 id t m op=some (x,m')) :
 Az P (do Instr.mapUpdate ty (a.eval om) (a.eval ok) (a.eval ov); pure Next.skip) W Φ ρ id w x m':=by
 split at hc<;>first|(cases hc; done)|skip
 rename_i kt e m1 k1 v1 hu hm hk hv;split at hc<;>first|(cases hc; done)|skip
 rename_i q hq;injection hc with hc
 subst hc;simp only[Z5]at h;split at h<;>first|(cases h; done)|skip
 rename_i b hb;split at h<;>first|(cases h; done)|skip
 rename_i es clock hg;have hmv:=R4 ht hm;rw[hb]at hmv;split at h<;>first|(cases h; done)|skip
 ·rename_i i z born hf;obtain⟨h1,h2⟩:=V4 h;subst h1; subst h2;exact sM hr hu hq hmv (R4 ht hk) (R4 ht hv) hg (.inl ⟨_,_,_,hf,rfl,rfl⟩) fun w' hw=>yR hw
 ·rename_i hf;obtain⟨h1,h2⟩:=V4 h;subst h1; subst h2;exact sM hr hu hq hmv (R4 ht hk) (R4 ht hv) hg (.inr ⟨hf,rfl,rfl⟩) fun w' hw=>yR hw
theorem Z8y(ht:RL Φ ρ t a.tmps)(hr:Rel W Φ ρ m w){ty e:TypeId}{k:Nat}{ox:Operand}{lo hi mx:Option Operand}{x':Ah}{l h0 qp:Option Ah}(hu:P.underlying ty=some (.slice e))(hk:N8 P e=some k)
 (hx:X3 ox=some x') (hl:I7 lo=some l) (hh:I7 hi=some h0) (Dl:I7 mx=some qp) (h:Z5 id t m (.DU k x' l h0 qp)=some (x,m')) :
 Az P (do pure (Next.value (← Instr.sliceAt ty (a.eval ox) (lo.map a.eval) (hi.map a.eval) (mx.map a.eval)))) W Φ ρ id w x m':=by
 have hlo:=RX ht hl;have hhi:=RX ht hh;have hxv:=R4 ht hx;cases mx with
 | none=>
  simp only[I7,oI]at Dl;subst Dl;simp only[Z5]at h;have key:m'=m ∧ ∃ u,(Instr.sliceAt ty (a.eval ox) (lo.map a.eval) (hi.map a.eval) none).run P w=.ok u w∧R Φ ρ x u:=by
   split at h<;>first|(cases h; done)|skip
   ·rename_i hy;split at h<;>first|(cases h; done)|skip
    rename_i lh hb;obtain⟨h1,h2⟩:=V4 h;exact Vr hr hu hk hxv hlo hhi (.inl ⟨hy,⟨_,hb⟩,h1.symm,h2.symm⟩)
   ·rename_i hy;split at h<;>first|(cases h; done)|skip
    rename_i lh hb;obtain⟨h1,h2⟩:=V4 h;exact Vr hr hu hk hxv hlo hhi (.inr (.inl ⟨hy,⟨_,hb⟩,h1.symm,h2.symm⟩))
   ·rename_i els hy;split at h<;>first|(cases h; done)|skip
    rename_i hall;split at h<;>first|(cases h; done)|skip
    rename_i l1 l2 hb;obtain⟨h1,h2⟩:=V4 h;exact Vr hr hu hk hxv hlo hhi (.inr (.inr (.inl ⟨_,_,_,hy,hall,hb,h1.symm,h2.symm⟩)))
   ·rename_i b off len hy;split at h<;>first|(cases h; done)|skip
    rename_i k' els hg;split at h<;>first|(cases h; done)|skip
    rename_i hcond;obtain⟨hk',Fa⟩:=hcond;subst hk';split at h<;>first|(cases h; done)|skip
    rename_i l hq hb;obtain⟨h1,h2⟩:=V4 h;exact Vr hr hu hk hxv hlo hhi (.inr (.inr (.inr ⟨_,_,_,_,_,_,hy,hg,Fa,hb,h1.symm,h2.symm⟩)))
  obtain⟨h1,h2⟩:=key;subst h1;exact Az.FX hr h2
 | some zx=>
  simp only[I7]at Dl;cases hz:X3 zx with
  | none=>simp[hz]at Dl
  | some z=>
   simp only[hz,oI]at Dl;subst Dl;simp only[Z5]at h;split at h<;>first|(cases h; done)|skip
   rename_i n mx l' h' hn Dl hl';split at h<;>first|(cases h; done)|skip
   rename_i h'' hh'';split at h<;>first|(cases h; done)|skip
   rename_i hcond;obtain⟨c1,c2,c3⟩:=hcond;obtain⟨p,c,hv,hnc⟩:=yo hxv hn;have e1:∀ code,(Instr.sliceBound (a.eval zx) c code).run P w=.ok mx w:=fun code=>Sj (R4 ht hz) (by simpa[I1]using Dl) (by omega)
   cases hi with
   | none=>simp[I7]at hh
   | some hx2=>
    simp only[I7]at hh;cases hz2:X3 hx2 with
    | none=>simp[hz2]at hh
    | some z2=>
     simp only[hz2,oI]at hh;subst hh;have e2:∀ code,(Instr.sliceBound (a.eval hx2) mx code).run P w=.ok h'' w:=fun code=>Sj (R4 ht hz2) hh'' c2
     have e3:(Instr.sliceBounds true n c (lo.map a.eval) (some (a.eval hx2)) (some (a.eval zx))).run P w=.ok (l',h'',mx) w:=by
      unfold Instr.sliceBounds;simp only[Sem.run_bind,e1,e2,Result.andThen_ok];cases lo with
      | none=>
       simp only[I7,oI]at hl;subst hl;simp only[I1,oI]at hl';subst hl';rfl
      | some lx=>
       simp only[I7]at hl;cases hz3:X3 lx with
       | none=>simp[hz3]at hl
       | some z3=>
        simp only[hz3,oI]at hl;subst hl;have e4:∀ code,(Instr.sliceBound (a.eval lx) h'' code).run P w=.ok l' w:=fun code=>Sj (R4 ht hz3) (by simpa[I1]using hl') c1
        simp only[Option.map_some,Sem.run_bind,e4,Result.andThen_ok,Sem.run_pure]
     have e5:=Tb (a:=p) hu hk e3;rw[← hv]at e5;split at h
     ·rename_i h0;obtain⟨h1,h2⟩:=V4 h;subst h1; subst h2;refine Az.val (H7 e5) hr ?_;have:h'' - l'=0:=by omega
      have h3:mx - l'=0:=by omega
      rw[this,h3];exact .emp _
     ·obtain⟨h1,h2⟩:=V4 h;subst h1; subst h2;exact Az.val (H7 e5) hr (.bot _)
theorem y9(ht:RL Φ ρ t a.tmps)(hr:Rel W Φ ρ m w)(hn:ρ id=none)(hlt:id<m.next)(o:Oper)(op:AU)
 (hc:Gf P o=some op) (h:Z5 id t m op=some (x,m')):Az P (execOp a.eval o) W Φ ρ id w x m':=by
 have mk:∀ {y:Ah} {z:Operand},X3 z=some y→R Φ ρ (ev t y) (a.eval z):=fun hz=>R4 ht hz
 unfold Gf at hc;unfold execOp;split at hc
 ·rename_i z ho;rw[ho];simp only[mO]at hc;obtain⟨y,hy,rfl⟩:=hc;simp only[Z5]at h;obtain⟨h1,h2⟩:=V4 h;subst h1; subst h2;exact Az.val (by simp) hr (mk hy)
 ·rename_i z ho;rw[ho];simp only[mO]at hc;obtain⟨y,hy,rfl⟩:=hc;simp only[Z5]at h;obtain⟨h1,h2⟩:=V4 h;subst h1; subst h2;exact Az.val (by simp) hr (mk hy)
 ·rename_i c1 a1 b1 ho;rw[ho];split at hc<;>first|(cases hc; done)|skip
  rename_i c' a' b' h1 h2 h3;injection hc with hc; subst hc
  simp only[Z5]at h;split at h<;>first|(cases h; done)|skip
  ·rename_i hb;obtain⟨e1,e2⟩:=V4 h;subst e1; subst e2;have:=zR (mk h1) hb;exact Az.val (v:=a.eval a1) (by simp[this,asBool]) hr (mk h2)
  ·rename_i hb;obtain⟨e1,e2⟩:=V4 h;subst e1; subst e2;have:=zR (mk h1) hb;exact Az.val (v:=a.eval b1) (by simp[this,asBool]) hr (mk h3)
 ·rename_i ty ho;rw[ho];simp only[mO]at hc;obtain⟨zs,hz,rfl⟩:=hc;simp only[Z5]at h;obtain⟨h1,h2⟩:=V4 h;subst h1; subst h2;exact Z1e hr hn hlt hz
 ·rename_i ty z ho;rw[ho];simp only[mO]at hc;obtain⟨y,hy,rfl⟩:=hc;simp only[Z5]at h;split at h<;>first|(cases h; done)|skip
  rename_i cs hcs;split at h<;>first|(cases h; done)|skip
  rename_i hall;obtain⟨h1,h2⟩:=V4 h;subst h1; subst h2;exact Z3o hr hn hlt (mk hy) hcs hall
 ·rename_i ty ps ho;rw[ho];split at hc<;>first|(cases hc; done)|skip
  ·rename_i fs z hu hz;split at hc<;>first|(cases hc; done)|skip
   rename_i hall;split at hc<;>first|(cases hc; done)|skip
   rename_i qs hq;injection hc with hc; subst hc
   simp only[Z5]at h;split at h<;>first|(cases h; done)|skip
   rename_i cs hcs;obtain⟨h1,h2⟩:=V4 h;subst h1; subst h2;exact Az.FX hr (yj ht hu hz hq hcs fun f hf=>Option.isSome_iff_exists.1 (List.all_eq_true.1 hall f hf))
  ·rename_i n e z hu hz;split at hc<;>first|(cases hc; done)|skip
   rename_i k hk;split at hc<;>first|(cases hc; done)|skip
   rename_i qs hq;injection hc with hc; subst hc
   simp only[Z5]at h;split at h<;>first|(cases h; done)|skip
   rename_i cs hcs;obtain⟨h1,h2⟩:=V4 h;subst h1; subst h2;exact Az.FX hr (Z0f ht hu hk hz hq hcs)
 ·rename_i ty len ps ho;rw[ho];split at hc<;>first|(cases hc; done)|skip
  rename_i k b z qs he hq;split at hc<;>first|(cases hc; done)|skip
  rename_i hle;injection hc with hc; subst hc
  simp only[Z5]at h;split at h<;>first|(cases h; done)|skip
  rename_i els hels;obtain⟨h1,h2⟩:=V4 h;subst h1; subst h2;exact Z72 hr ht hn hlt he hq hle hels fun u w' hw=>H7 hw
 ·rename_i ty z ho;rw[ho];split at hc<;>first|(cases hc; done)|skip
  rename_i n y hl hy;injection hc with hc; subst hc
  simp only[Z5]at h;split at h<;>first|(cases h; done)|skip
  rename_i v hv;obtain⟨h1,h2⟩:=V4 h;subst h1; subst h2;exact Az.FX hr (pP hr (mk hy) hl hv)
 ·rename_i ty z z2 ho;rw[ho];split at hc<;>first|(cases hc; done)|skip
  rename_i n a' x' hs ha hx;injection hc with hc; subst hc
  simp only[Z5]at h;split at h<;>first|(cases h; done)|skip
  rename_i m2 hst;obtain⟨h1,h2⟩:=V4 h;subst h1; subst h2;refine Zz7 hr (mk ha) (mk hx) hs hst ?_;simp only[Sem.run_bind,Sem.run_pure];cases Sem.run P (Instr.storeAt ty (a.eval z) (a.eval z2)) w<;>rfl
 ·rename_i z ho;rw[ho];simp only[mO]at hc;obtain⟨y,hy,rfl⟩:=hc;simp only[Z5]at h;refine Z9h hr h (mk hy) ⟨fun p hp=>?_,fun f p q hp=>?_⟩
  ·simp only[hp]; rfl
  ·simp only[hp]; rfl
 ·rename_i op2 ty z z2 ty2 ho;rw[ho];split at hc<;>first|(cases hc; done)|skip
  rename_i x' y' e hx hy he;injection hc with hc; subst hc
  simp only[Z5]at h;split at h<;>first|(cases h; done)|skip
  rename_i v hv;obtain⟨h1,h2⟩:=V4 h;subst h1; subst h2;exact Az.FX hr (Z3s he hv (mk hx) (mk hy))
 ·rename_i op2 ty z ho;rw[ho];simp only[mO]at hc;obtain⟨y,hy,rfl⟩:=hc;simp only[Z5]at h;split at h<;>first|(cases h; done)|skip
  rename_i v hv;obtain⟨h1,h2⟩:=V4 h;subst h1; subst h2;exact Az.FX hr (Z0r hv (mk hy))
 ·rename_i s d z ho;rw[ho];split at hc<;>first|(cases hc; done)|skip
  ·rename_i k0 k y hs hd hy;injection hc with hc; subst hc
   simp only[Z5]at h;split at h<;>first|(cases h; done)|skip
   rename_i k1 n hv;obtain⟨h1,h2⟩:=V4 h;subst h1; subst h2;have Fl:=mk hy;rw[hv]at Fl;refine Az.val (H7 ?_) hr (.int k _);rw[K4 Fl];simp only[convert,Sem.run_bind,V1 hs,V1 hd,Result.andThen_ok];rfl
  ·rename_i y hs hd hy;injection hc with hc; subst hc
   simp only[Z5]at h;split at h<;>first|(cases h; done)|skip
   rename_i l hv;obtain⟨h1,h2⟩:=V4 h;subst h1; subst h2;have Fl:=mk hy;rw[hv]at Fl;refine Az.val (H7 ?_) hr (.str _);rw[KX Fl];simp only[convert,Sem.run_bind,V1 hs,V1 hd,Result.andThen_ok];rfl
  ·rename_i e y hs hd hy;split at hc<;>first|(cases hc; done)|skip
   rename_i he;injection hc with hc; subst hc
   simp only[Z5]at h;split at h<;>first|(cases h; done)|skip
   rename_i rows hrows;split at h<;>first|(cases h; done)|skip
   rename_i l hl;obtain⟨h1,h2⟩:=V4 h;subst h1; subst h2;refine Az.val (H7 ?_) hr (.str _);have hb:=Z8l (P:=P) hr (mk hy) hrows hl;have hv:∃ p n c,a.eval z=.slice p n c:=by
    have Fl:=mk hy;generalize ev t y=yy at Fl hrows;generalize a.eval z=vv at Fl;cases Fl<;>simp only[H3]at hrows<;>first|(cases hrows; done)|exact⟨_,_,_,rfl⟩
   obtain⟨p,n,c,hv⟩:=hv;rw[hv]at hb ⊢;simp only[convert,Sem.run_bind,V1 hs,V1 hd,V1 he,Result.andThen_ok];exact hb
 ·rename_i fn f1 c1 ho;rw[ho];split at hc<;>first|(cases hc; done)|skip
  rename_i f' c' hf Ck;injection hc with hc; subst hc
  simp only[Z5]at h;obtain⟨h1,h2⟩:=V4 h;subst h1; subst h2;have g1:=Wq ht hf;have g2:=Wq ht Ck;exact Az.val (H7 (by simp[Instr.makeFunc])) hr (.func fn _ _ _ _ g1.1 g2.1 g1.2 g2.2)
 ·rename_i ty ho;rw[ho];injection hc with hc; subst hc
  simp only[Z5]at h;obtain⟨h1,h2⟩:=V4 h;subst h1; subst h2;exact Z10 hr hn hlt
 ·rename_i ty z z2 ho;rw[ho];split at hc<;>first|(cases hc; done)|skip
  rename_i k b zz l' c' he hl Ck;injection hc with hc; subst hc
  simp only[Z5]at h;split at h<;>first|(cases h; done)|skip
  rename_i l c hl' hc';split at h<;>first|(cases h; done)|skip
  rename_i hcond;obtain⟨d1,d2,d3⟩:=hcond;obtain⟨h1,h2⟩:=V4 h;subst h1; subst h2;obtain⟨kl,hkl⟩:=MY (mk hl) hl';obtain⟨kc,hkc⟩:=MY (mk Ck) hc';exact Z0v hr hn hlt he hkl hkc d1 d2 d3 fun u w' hw=>H7 hw
 ·rename_i ty z lo hi mx ho;rw[ho];split at hc<;>first|(cases hc; done)|skip
  ·rename_i x' l h0 hu hx hl hh hm;injection hc with hc; subst hc
   have Dl:mx=none:=by
    cases mx with
    | none=>rfl
    | some q=>simp only[I7]at hm; split at hm<;>simp at hm
   subst Dl;simp only[Z5]at h;split at h<;>first|(cases h; done)|skip
   rename_i s hs;split at h<;>first|(cases h; done)|skip
   rename_i l1 h1 hb;obtain⟨e1,e2⟩:=V4 h;subst e1; subst e2;have hxv:=mk hx;rw[hs]at hxv;exact Az.FX hr (Z5n hu hxv (RX ht hl) (RX ht hh) hb)
  ·rename_i e x' l h0 mm hu hx hl hh hm;split at hc<;>first|(cases hc; done)|skip
   rename_i k hk;injection hc with hc; subst hc
   exact Z8y ht hr hu hk hx hl hh hm h
  ·split at hc<;>first|(cases hc; done)|skip
   injection hc with hc; subst hc
   simp[Z5]at h
 ·rename_i ty z i ho;rw[ho];split at hc<;>first|(cases hc; done)|skip
  rename_i fs y hu hy;split at hc<;>first|(cases hc; done)|skip
  rename_i f hf;split at hc<;>first|(cases hc; done)|skip
  rename_i n hs;split at hc<;>first|(cases hc; done)|skip
  rename_i h0;injection hc with hc; subst hc
  simp only[Z5]at h;split at h<;>first|(cases h; done)|skip
  rename_i v hv;obtain⟨h1,h2⟩:=V4 h;subst h1; subst h2;exact Az.FX hr (Z85 hu hf hs h0 (mk hy) hv)
 ·rename_i ty z i ho;rw[ho];split at hc<;>first|(cases hc; done)|skip
  rename_i fs y hu hy;split at hc<;>first|(cases hc; done)|skip
  rename_i f hf;split at hc<;>first|(cases hc; done)|skip
  rename_i n hs;injection hc with hc; subst hc
  simp only[Z5]at h;split at h<;>first|(cases h; done)|skip
  rename_i cs hcs;split at h<;>first|(cases h; done)|skip
  rename_i v hv;obtain⟨h1,h2⟩:=V4 h;subst h1; subst h2;have Fl:=mk hy;rw[hcs]at Fl;exact Az.FX hr (Z3w hu hf hs Fl hv)
 ·rename_i ty z zi ho;rw[ho];split at hc<;>first|(cases hc; done)|skip
  ·rename_i e x' i' hu hx hi;split at hc<;>first|(cases hc; done)|skip
   rename_i k hk;injection hc with hc; subst hc
   simp only[Z5]at h;split at h<;>first|(cases h; done)|skip
   ·rename_i b off len i hs hii;obtain⟨ki,hki⟩:=MY (mk hi) hii;split at h<;>first|(cases h; done)|skip
    rename_i k' els hg;split at h<;>first|(cases h; done)|skip
    rename_i hcond;obtain⟨d1,d2⟩:=hcond;subst d1;obtain⟨h1,h2⟩:=V4 h;subst h1; subst h2;exact Az.FX hr (mX hr hu hk (mk hx) hki (.inl ⟨_,_,_,_,hs,hg,d2,rfl⟩))
   ·rename_i els i hs hii;obtain⟨ki,hki⟩:=MY (mk hi) hii;split at h<;>first|(cases h; done)|skip
    rename_i row hrow;split at h<;>first|(cases h; done)|skip
    rename_i hlen;obtain⟨h1,h2⟩:=V4 h;subst h1; subst h2;exact Az.FX hr (mX hr hu hk (mk hx) hki (.inr ⟨_,_,hs,hrow,hlen,rfl⟩))
  ·rename_i n e x' i' hu hx hi;split at hc<;>first|(cases hc; done)|skip
   rename_i k hk;injection hc with hc; subst hc
   simp only[Z5]at h;split at h<;>first|(cases h; done)|skip
   rename_i i hii;obtain⟨ki,hki⟩:=MY (mk hi) hii;split at h<;>first|(cases h; done)|skip
   rename_i hlt2;split at h<;>first|(cases h; done)|skip
   rename_i v hv;obtain⟨h1,h2⟩:=V4 h;subst h1; subst h2;exact Az.FX hr (Z3a hu hk (mk hx) hki hlt2 hv)
 ·rename_i ty z zi ho;rw[ho];split at hc<;>first|(cases hc; done)|skip
  ·rename_i x' i' hu hx hi;injection hc with hc; subst hc
   simp only[Z5]at h;split at h<;>first|(cases h; done)|skip
   rename_i s i hs hii;obtain⟨ki,hki⟩:=MY (mk hi) hii;split at h<;>first|(cases h; done)|skip
   rename_i c Ck;obtain⟨h1,h2⟩:=V4 h;subst h1; subst h2;have hxv:=mk hx;rw[hs]at hxv;exact Az.val (H7 (Zze hu hxv hki Ck)) hr (.int _ _)
  ·rename_i n e x' i' hu hx hi;split at hc<;>first|(cases hc; done)|skip
   rename_i k sz hk hsz;injection hc with hc; subst hc
   simp only[Z5]at h;split at h<;>first|(cases h; done)|skip
   rename_i cs i hcs hii;obtain⟨ki,hki⟩:=MY (mk hi) hii;split at h<;>first|(cases h; done)|skip
   rename_i hlt2;split at h<;>first|(cases h; done)|skip
   rename_i v hv;obtain⟨h1,h2⟩:=V4 h;subst h1; subst h2;have hxv:=mk hx;rw[hcs]at hxv;exact Az.FX hr (x6 hu hk hsz hxv hki hlt2 hv)
 ·rename_i ty z zi ok ho;rw[ho];split at hc<;>first|(cases hc; done)|skip
  rename_i kt e x' i' hu hx hi;split at hc<;>first|(cases hc; done)|skip
  rename_i q zz hq hz;injection hc with hc; subst hc
  simp only[Z5]at h;split at h<;>first|(cases h; done)|skip
  rename_i es hes;split at h<;>first|(cases h; done)|skip
  rename_i r hf;obtain⟨h1,h2⟩:=V4 h;subst h1; subst h2;have hmm:(ev t x'=.Av∧es=[])∨(∃ b c,ev t x'=.map b∧m.get b=some (.map es c)):=by
   split at hes<;>first|(cases hes; done)|skip
   ·rename_i hy;injection hes with hes
    exact .inl ⟨hy,hes.symm⟩
   ·rename_i b hy;split at hes<;>first|(cases hes; done)|skip
    rename_i es' clock hg;injection hes with hes
    subst hes;exact .inr ⟨b,clock,hy,hg⟩
  ·obtain⟨u,g1,g2⟩:=Z4i (w:=w) (ok:=ok) hr hu hq hz (mk hx) (mk hi) hmm hf;refine Az.FX hr ⟨u,g1,?_⟩;cases r with
   | none=>exact g2
   | some r=>obtain ⟨i,v,b⟩:=r; exact g2
 ·rename_i ty om ok ov ho;rw[ho];exact zI ht hr ty om ok ov op hc h
 ·rename_i ty om ok ov ho;rw[ho];exact zI ht hr ty om ok ov op hc h
 ·rename_i z i ho;rw[ho];split at hc<;>first|(cases hc; done)|skip
  rename_i y hy;injection hc with hc; subst hc
  simp only[Z5]at h;split at h<;>first|(cases h; done)|skip
  rename_i vs hvs;split at h<;>first|(cases h; done)|skip
  rename_i v hv;obtain⟨h1,h2⟩:=V4 h;subst h1; subst h2;have Fl:=mk hy;rw[hvs]at Fl;exact Az.FX hr (Z5b Fl hv)
 ·rename_i c ho;have:=Z60 ht hr hn hlt o c ho op hc h;unfold execOp at this;exact this
 ·split at hc<;>first|(cases hc; done)|skip
  simp only[mO]at hc;obtain⟨y,_,rfl⟩:=hc;simp only[Z5]at h;cases h
 ·simp only[mO]at hc;obtain⟨y,_,rfl⟩:=hc;simp only[Z5]at h;cases h
 ·simp only[mO]at hc;obtain⟨y,_,rfl⟩:=hc;simp only[Z5]at h;cases h
 ·cases hc
end
end Go.AE
end
section
namespace Go.AE
open Go.RowKit
section
variable {P:Program} {W:AA} {Φ:Ao} {ρ:AD} {w:World} {m m':Mem} {x:Aa} {a:Act} {t:List Aa} {ops:Array Oper}
theorem RL.put{v:Aa}{u:Value}(d:Option Nat)(ht:RL Φ ρ t a.tmps)(hv:R Φ ρ v u):RL Φ ρ (put t d v) (a.put d u).tmps:=by
 cases d with
 | none=>exact ht
 | some d=>
  refine⟨by simp[AE.put,Act.put,ht.1],fun i x y hx hy=>?_⟩
  simp only[AE.put,Act.put]at hx hy;rw[List.getElem?_set]at hx;rw[Array.getElem?_setIfInBounds]at hy;by_cases h:d=i
  ·rw[iP h]at hx hy;subst h;split at hx
   ·split at hy
    ·injection hx with hx; injection hy with hy; subst hx; subst hy; exact hv
    ·cases hy
   ·cases hx
  ·rw[iN h]at hx hy;exact ht.2 i x y hx hy
theorem D9(d:Option Nat)(u:Value):(a.put d u).defers=a.defers:=by
 cases d<;>rfl
theorem LB(ht:RL Φ ρ t a.tmps){o:Oper}{g:Option (Nat×Bool)}{b:Bool}(hg:C1 ops o.guard=some g)(h:T7 t g=some b):Region.wanted o (yielded ops a.tmps)=b:=by
 unfold Region.wanted;cases hog:o.guard with
 | none=>
  simp only[hog,C1,oI]at hg;subst hg;simp only[T7,oI]at h;exact h
 | some jw=>
  obtain⟨j,want⟩:=jw;simp only[hog,C1]at hg;split at hg<;>first|(cases hg; done)|skip
  rename_i d hd;injection hg with hg
  subst hg;simp only[yielded,hd,Option.bind_some];simp only[T7]at h;have hR:=ht.get d;split at h<;>first|(cases h; done)|skip
  ·rename_i b0 hb0;injection h with h
   subst h;rw[hb0]at hR;have hv:=Hl hR;have:a.tmps[d]? = some (.bool b0):=by
    rcases lG d a.tmps.size with hlt|hge
    ·rw[Array.getElem?_eq_getElem hlt];simpa[Array.getD,hlt]using hv
    ·simp[Array.getD,Nat.not_lt.2 hge,undef]at hv
   rw[this];simp
  ·rename_i hb0;injection h with h
   subst h;rw[hb0]at hR;have hne:∀ b,a.tmps[d]? ≠ some (.bool b):=by
    intro b hb;have:a.tmps.getD d undef=.bool b:=by
     have hlt:=(Array.getElem?_eq_some_iff.1 hb).1;have:=(Array.getElem?_eq_some_iff.1 hb).2;simpa[Array.getD,hlt]using this
    rw[this]at hR;cases hR
   cases hq:a.tmps[d]? with
   | none=>simp
   | some v=>
    cases v<;>first|(exact absurd hq (hne _))|simp
theorem Vp{id:Nat}{K:Act→World→Prop}{Q:Exit→Act→World→Prop}(ht:RL Φ ρ t a.tmps)(hr:Rel W Φ ρ m w)(hn:ρ id=none)(hlt:id<m.next)(o:Oper)
 (h:Z5 id t m (O9 P o)=some (x,m'))
 (hK:∀ Ar ρ' u w',Ext Φ ρ Ar ρ'→(∀ b,b≠id→ρ b=none→ρ' b=none)→Rel W Ar ρ' m' w'→R Ar ρ' x u→K (a.put o.dst u) w'):o.wp P a w K Q:=by
 unfold O9 at h;cases hc:Gf P o with
 | none=>simp[hc,Z5]at h
 | some op=>
  simp only[hc,Option.getD_some]at h;obtain⟨v,w',Ar,ρ',hrun,he,hk,hr',hx⟩:=y9 ht hr hn hlt o op hc h;unfold Oper.wp;rcases hrun with hrun|⟨hrun,rfl⟩
  ·rw[hrun];exact hK _ _ _ _ he hk hr' hx
  ·rw[hrun];exact hK _ _ _ _ he hk hr' hx
theorem VO{id:Nat}{K:Act→World→Prop}{Q:Exit→Act→World→Prop}(ht:RL Φ ρ t a.tmps)(hr:Rel W Φ ρ m w)(hn:ρ id=none)(hlt:id<m.next)(o:Oper){f:Ah}{xs:List Ah}(ho:O9 P o=.call f xs){g:FuncId}{args:List Aa}(hg:callee t f xs=some (g,args))
 {KA:Aa→Mem→Prop} (h:Au P g args m [id] KA)
 (hK:∀ Ar ρ' x m' u w',Ext Φ ρ Ar ρ'→(∀ b,b<m.next→b≠id→ρ b=none→ρ' b=none)→Rel W Ar ρ' m' w'→R Ar ρ' x u→m.next≤m'.next→KA x m'→K (a.put o.dst u) w'):o.wp P a w K Q:=by
 have AF:∃ c of,o.op=.call c∧c.callee=.value of∧X3 of=some f∧C7 c.args.toList=some xs:=by
  unfold O9 at ho;cases hc:Gf P o with
  | none=>simp[hc]at ho
  | some op=>
   simp only[hc,Option.getD_some]at ho;subst ho;unfold Gf at hc;split at hc<;>first|(cases hc; done)|(simp only[mO]at hc; obtain⟨_,_,hc⟩:=hc; cases hc; done)|skip
   case h_26 c hoc=>
    unfold MT at hc;split at hc
    ·rename_i of BD;split at hc
     ·rename_i g' xs' hg' hxs';injection hc with hc
      injection hc with h1 h2
      subst h1; subst h2;exact⟨c,of,hoc,BD,hg',hxs'⟩
     ·cases hc
    all_goals (repeat' (split at hc<;>first|(cases hc; done)|skip))
    all_goals (first|(cases hc; done)|(simp only[mO]at hc; obtain⟨_,_,hc⟩:=hc; cases hc; done)|skip)
   all_goals (repeat' (split at hc<;>first|(cases hc; done)|skip))
   all_goals (first|(cases hc; done)|(simp only[mO]at hc; obtain⟨_,_,hc⟩:=hc; cases hc; done)|skip)
 obtain⟨c,of,hop,BD,hof,hxs⟩:=AF;have Bb:=R4 ht hof;unfold callee at hg;split at hg<;>first|(cases hg; done)|skip
 rename_i g' first cap hev;injection hg with hg
 injection hg with h1 h2
 subst h1; subst h2;rw[hev]at Bb;generalize hvv:a.eval of=vv at Bb;cases Bb with
 | func _ _ _ vf vc hf hc hfr Cx=>
  have hargs:=Wq ht hxs;have hRL:RL Φ ρ (first++xs.map (ev t)++cap) (vf++c.args.map a.eval++vc):=by
   refine⟨by simp only[Array.size_append,lA]; rw[hf,hc,hargs.1],fun i y v hy hv=>?_⟩
   have hl2:(vf++c.args.map a.eval).size=(first++xs.map (ev t)).length:=by simp only[Array.size_append,lA]; rw[hf,hargs.1]
   rw[List.getElem?_append]at hy;rw[Array.getElem?_append]at hv;rw[hl2]at hv;split at hy
   ·rename_i hlt';rw[iP hlt']at hv;rw[List.getElem?_append]at hy;rw[Array.getElem?_append,hf]at hv;split at hy
    ·rename_i h3;rw[iP h3]at hv;exact hfr i y v hy hv
    ·rename_i h3;rw[iN h3]at hv;exact hargs.2 _ y v hy hv
   ·rename_i hge;rw[iN hge]at hv;exact Cx _ y v hy hv
  have hC:=h.2 W Φ ρ _ w hr hRL (fun b hb=>by simp only[List.mem_singleton]at hb; subst hb; exact⟨hn,hlt⟩)
  obtain⟨fn,hfn,hname,hbody⟩:=h.1;unfold Oper.wp;have hrun:(execOp a.eval o).run P w=.ok (.enter g' (vf++c.args.map a.eval++vc)) w:=by
   unfold execOp;rw[hop];simp only[resolve,BD,hvv,Deferred.ofValue,Sem.run_bind,Sem.run_pure,Result.andThen_ok,invoke,callFunc];cases hb:fn.body with
   | none=>rw[hb]at hbody; cases hbody
   | some b=>simp[program,Sem.run,hfn,hb]; simpa using hname
  rw[hrun];refine hC.mono fun e w' he=>?_
  obtain⟨v,r,m',Ar,ρ',rfl,h1,h2,h3,h4,h5,h6⟩:=he;exact hK Ar ρ' r m' v w' h1 (fun b hb hne=>h2 b hb (by simpa using hne)) h3 h4 h5 h6
theorem Tl(P:Program)(ops:Array Oper):∀ (l:List Oper) (asz:List Af),F2 P ops l=some asz →
 asz.length=l.length ∧ ∀(i:Nat) (o:Oper) (b:Af),l[i]? = some o→asz[i]? = some b→b.dst=o.dst∧b.op=O9 P o∧C1 ops o.guard=some b.guard
 | [],asz,h=>by
  simp only[F2,oI]at h;subst h;exact⟨rfl,fun i o b hi=>by simp at hi⟩
 | o :: l,asz,h=>by
  simp only[F2]at h;cases hg:C1 ops o.guard with
  | none=>simp[hg]at h
  | some g=>
   cases hr:F2 P ops l with
   | none=>simp[hg,hr]at h
   | some asz'=>
    simp only[hg,hr,oI]at h;subst h;obtain⟨h1,h2⟩:=Tl P ops l asz' hr;refine⟨by simp[h1],fun i o' b hi hb=>?_⟩
    cases i with
    | zero=>
     simp only[List.getElem?_cons_zero,oI]at hi hb;subst hi; subst hb;exact⟨rfl,rfl,hg⟩
    | succ i=>
     simp only[List.getElem?_cons_succ]at hi hb;exact h2 i o' b hi hb
theorem qT{base i:Nat}{b:Af}{rest:List Af}{K:AY→Prop}(h:N9 P base (b :: rest) i K t m) :
 (T7 t b.guard=some false∧N9 P base rest (i+1) K (put t b.dst Ag) m) ∨
 (T7 t b.guard=some true∧((∃ f xs g args,b.op=.call f xs∧callee t f xs=some (g,args)∧Au P g args m [base+i] fun v m'=>N9 P base rest (i+1) K (put t b.dst v) m') ∨
   (∃ v m',Z5 (base+i) t m b.op=some (v,m')∧N9 P base rest (i+1) K (put t b.dst v) m'))):=by
 simp only[N9]at h;cases hw:T7 t b.guard with
 | none=>simp[hw]at h
 | some q=>
  cases q with
  | false=>simp only[hw]at h; exact .inl ⟨rfl,h⟩
  | true=>
   simp only[hw]at h;refine .inr ⟨rfl,?_⟩;have other:∀ op,b.op=op→(match Z5 (base+i) t m op with|some (v,m')=>N9 P base rest (i+1) K (put t b.dst v) m'|none=>False) →
    ∃ v m',Z5 (base+i) t m op=some (v,m')∧N9 P base rest (i+1) K (put t b.dst v) m':=by
    intro op _ hh;cases hs:Z5 (base+i) t m op with
    | none=>simp[hs]at hh
    | some r=>obtain ⟨v,m'⟩:=r; simp only[hs]at hh; exact⟨v,m',rfl,hh⟩
   cases hop:b.op with
   | call f xs=>
    simp only[hop]at h;cases hc:callee t f xs with
    | none=>simp[hc]at h
    | some r=>
     obtain⟨g,args⟩:=r;simp only[hc]at h;exact .inl ⟨f,xs,g,args,rfl,hc,h⟩
   | _=>rw[hop]at h; exact .inr (other _ hop h)
theorem bG{id:Nat}{op:AU}{v:Aa}(h:Z5 id t m op=some (v,m')):m'.next=m.next:=by
 obtain⟨_,_,h2⟩:=ZM (m2:=m) (fun _ _=>rfl) (fun _ _=>rfl) h
 exact h2.n1
theorem WV(W:AA)(base:Nat)(n0:Nat)(ops:Array Oper)(Q:Exit→AY→Prop)(Dh:Ao)(CQ:AD)(hb:n0≤base) :
 ∀(l:List Oper) (asz:List Af) (i:Nat) (t:List Aa) (m:Mem) (Φ:Ao) (ρ:AD) (a:Act) (w:World),
  asz.length=l.length→(∀(j:Nat) (o:Oper) (b:Af),l[j]? = some o→asz[j]? = some b→b.dst=o.dst∧b.op=O9 P o∧C1 ops o.guard=some b.guard) →
  N9 P base asz i (Q .normal) t m→Rel W Φ ρ m w→RL Φ ρ t a.tmps→a.defers=[]→Ext Dh CQ Φ ρ→BI n0 CQ ρ→(∀ j,i≤j→j<i+asz.length→ρ (base+j)=none)→base+i+asz.length≤m.next→n0≤m.next →
  wpList P ops (J7 W Dh CQ n0 Q) l a w
 | [],[],i,t,m,Φ,ρ,a,w,_,_,h,hr,ht,hd,he,hk,_,_,hn=>⟨⟨t,m⟩,Φ,ρ,he,hk,hn,hr,ht,hd,h⟩
 | [],_ :: _,_,_,_,_,_,_,_,hl,_,_,_,_,_,_,_,_,_,_=>by simp at hl
 | _ :: _,[],_,_,_,_,_,_,_,hl,_,_,_,_,_,_,_,_,_,_=>by simp at hl
 | o :: l,b :: asz,i,t,m,Φ,ρ,a,w,hl,hg,h,hr,ht,hd,he,hk,hfree,CY,hn=>by
  obtain⟨e1,e2,e3⟩:=hg 0 o b rfl rfl;have hg':∀ (j:Nat) (o:Oper) (b:Af),l[j]? = some o→asz[j]? = some b→b.dst=o.dst∧b.op=O9 P o∧C1 ops o.guard=some b.guard:=fun j o b ho hb=>hg (j+1) o b (by simpa using ho) (by simpa using hb)
  have hl':asz.length=l.length:=by simpa using hl
  simp only[lC]at CY hfree;have hlt:base+i<m.next:=by omega
  have hni:ρ (base+i)=none:=hfree i (lR _) (by omega)
  unfold wpList;rcases qT h with⟨hw,h'⟩|⟨hw,h'⟩
  ·rw[LB ht e3 hw,iN (by simp)]
   rw[← e1];exact WV W base n0 ops Q Dh CQ hb l asz (i+1) _ m Φ ρ _ w hl' hg' h' hr (ht.put b.dst (GM Φ ρ)) (by rw[D9]; exact hd) he hk (fun j h1 h2=>hfree j (by omega) (by omega)) (by omega) hn
  ·rw[LB ht e3 hw,iP rfl];refine .inl ?_;rcases h' with⟨f,xs,g,args,hop,BD,hA⟩|⟨v,m',hs,h'⟩
   ·refine VO ht hr hni hlt o (by rw[← e2]; exact hop) BD hA fun Ar ρ' x m' u w' hE hfr hr' hx hnx' hW=>?_
    rw[← e1];exact WV W base n0 ops Q Dh CQ hb l asz (i+1) _ m' Ar ρ' _ w' hl' hg' hW hr' ((ht.ext hE).put b.dst hx) (by rw[D9]; exact hd) (he.trans hE) (fun c hc h0=>hfr c (by omega) (by omega) (hk c hc h0))
     (fun j h1 h2=>hfr _ (by omega) (by omega) (hfree j (by omega) (by omega))) (by omega) (by omega)
   ·have hnx':=bG hs;rw[e2]at hs;refine Vp ht hr hni hlt o hs fun Ar ρ' u w' hE hfr hr' hx=>?_
    rw[← e1];exact WV W base n0 ops Q Dh CQ hb l asz (i+1) _ m' Ar ρ' _ w' hl' hg' h' hr' ((ht.ext hE).put b.dst hx) (by rw[D9]; exact hd) (he.trans hE) (fun c hc h0=>hfr c (by omega) (hk c hc h0))
     (fun j h1 h2=>hfr _ (by omega) (hfree j (by omega) (by omega))) (by rw[hnx']; omega) (by rw[hnx']; exact hn)
theorem Rel.at_{n:Nat}(h:Rel W Φ ρ m w)(hn:m.next≤n):Rel W Φ ρ (m.at n) w:=
 ⟨h.base,h.Bn,h.live,h.inj,fun b l hb=>by have:=h.fresh b l hb; simp only[Mem.Mv]; omega,h.Cr⟩
theorem vH{id:Nat}{Q:Exit→AY→Prop}{σ:AY}(h:BU P (Y4 P (.region id ops false)) Q σ):DI P (.region id ops false) Q σ:=by
 intro W Φ ρ a w hr ht hd;simp only[Y4]at h;cases hc:F2 P ops ops.toList with
 | none=>simp[hc,BU]at h
 | some asz=>
  simp only[hc,BU]at h;obtain⟨h1,h2⟩:=Tl P ops _ _ hc;refine wp_region_list (WV W σ.m.next σ.m.next ops Q Φ ρ (lR _) ops.toList asz 0 σ.t _ Φ ρ a w h1 h2 h (hr.at_ (by omega)) ht hd (.refl _ _) (.refl _ _) ?_ (by simp) (by simp))
  intro j _ _;cases hq:ρ (σ.m.next+j)with
  | none=>rfl
  | some l=>have:=hr.fresh _ _ hq; omega
end
end Go.AE
end
section
namespace Go.AE
open Go.RowKit
theorem VE{t t2:List Aa}{xs:List Ah}(h:∀ x,x∈xs→ev t x=ev t2 x):xs.map (ev t)=xs.map (ev t2):=List.map_congr_left h
theorem VB{t t2:List Aa}{d:Nat}{o:Option Ah}(h:∀ x,x∈o.toList→ev t x=ev t2 x):I1 t d o=I1 t2 d o:=by
 cases o with
 | none=>rfl
 | some x=>simp only[I1]; rw[h x (by simp)]
theorem wR{t t2:List Aa}{n mx:Nat}{lo hi:Option Ah}(h1:∀ x,x∈lo.toList→ev t x=ev t2 x)(h2:∀ x,x∈hi.toList→ev t x=ev t2 x):L9 t n mx lo hi=L9 t2 n mx lo hi:=by
 simp only[L9,VB h1,VB h2]
theorem vI{id:Nat}{t:List Aa}{op:AU}(h:op.kind=0):T8 id t op=[]∧L4 t op=[]:=by
 cases op<;>first|exact⟨rfl,rfl⟩|(exfalso; revert h; simp[AU.kind]; done)
theorem Z7k{id:Nat}{t:List Aa}{op:AU}(h:op.kind≤1):T8 id t op=[]:=by
 cases op<;>first|rfl|(exfalso; revert h; simp[AU.kind]; done)
theorem Z3k{id:Nat}{t t2:List Aa}{m:Mem}{op:AU}(h:∀ x,x∈op.AK→ev t x=ev t2 x):Z5 id t m op=Z5 id t2 m op:=by
 cases op with
 | build z ps=>
  have:(ps.map fun p=>(p.1,p.2.1,ev t p.2.2))=ps.map fun p=>(p.1,p.2.1,ev t2 p.2.2):=List.map_congr_left fun p hp=>by rw[h p.2.2 (mM.2 ⟨p,hp,rfl⟩)]
  simp only[Z5,this]
 | CO k len z ps=>
  have:(ps.map fun p=>(p.1,ev t p.2))=ps.map fun p=>(p.1,ev t2 p.2):=List.map_congr_left fun p hp=>by rw[h p.2 (mM.2 ⟨p,hp,rfl⟩)]
  simp only[Z5,this]
 | CW fn a b=>
  simp only[Z5,VE (fun x hx=>h x (List.mem_append_left _ hx)),VE (fun x hx=>h x (List.mem_append_right _ hx))]
 | Cq mx xs=>
  cases xs with
  | nil=>rfl
  | cons x r=>
   simp only[Z5];rw[h x (by simp[AU.AK]),VE (fun y hy=>h y (by simp[AU.AK,hy]))]
 | Es x lo hi=>
  have h1:∀ y,y∈lo.toList→ev t y=ev t2 y:=fun y hy=>h y (by simp only[AU.AK,mC,List.mem_append]; exact .inr (.inl hy))
  have h2:∀ y,y∈hi.toList→ev t y=ev t2 y:=fun y hy=>h y (by simp only[AU.AK,mC,List.mem_append]; exact .inr (.inr hy))
  simp only[Z5,h x (by simp[AU.AK]),wR h1 h2]
 | DU k x lo hi mx=>
  have h1:∀ y,y∈lo.toList→ev t y=ev t2 y:=fun y hy=>h y (by simp only[AU.AK,mC,List.mem_append]; exact .inr (.inl (.inl hy)))
  have h2:∀ y,y∈hi.toList→ev t y=ev t2 y:=fun y hy=>h y (by simp only[AU.AK,mC,List.mem_append]; exact .inr (.inl (.inr hy)))
  have h3:∀ y,y∈mx.toList→ev t y=ev t2 y:=fun y hy=>h y (by simp only[AU.AK,mC,List.mem_append]; exact .inr (.inr hy))
  cases mx with
  | none=>
   simp only[Z5,h x (by simp[AU.AK])]
   cases ev t2 x<;>simp only[wR h1 h2]
  | some z=>
   simp only[Z5,h x (by simp[AU.AK]),VB h1,VB (o:=some z) (fun y hy=>h3 y hy)]
   cases hi with
   | none=>cases I4 (ev t2 x)<;>cases I1 t2 0 (some z)<;>cases I1 t2 0 lo<;>rfl
   | some q=>
    have hq:=h2 q (by simp)
    cases I4 (ev t2 x)<;>cases I1 t2 0 (some z)<;>cases I1 t2 0 lo<;>simp only[hq]
 | Cl n k x lo hi=>rfl
 | call f xs=>rfl
 | alloc z=>rfl
 | mkMap=>rfl
 | Dq n=>rfl
 | El x=>rfl
 | dead=>rfl
 | En kt z a b=>rfl
 | Ft a b c=>rfl
 | delete kt a b=>rfl
 | range a=>rfl
 | BL a=>rfl
 | Cc a=>rfl
 | CX k b z s x=>rfl
 | Fz x=>simp only[Z5,h x (by simp[AU.AK])]
 | box x=>simp only[Z5,h x (by simp[AU.AK])]
 | load n x=>simp only[Z5,h x (by simp[AU.AK])]
 | Cd x=>simp only[Z5,h x (by simp[AU.AK])]
 | un op x=>simp only[Z5,h x (by simp[AU.AK])]
 | CA k x=>simp only[Z5,h x (by simp[AU.AK])]
 | Dk x=>simp only[Z5,h x (by simp[AU.AK])]
 | toStr x=>simp only[Z5,h x (by simp[AU.AK])]
 | Bw off x=>simp only[Z5,h x (by simp[AU.AK])]
 | field off n x=>simp only[Z5,h x (by simp[AU.AK])]
 | ext x i=>simp only[Z5,h x (by simp[AU.AK])]
 | Dr x=>simp only[Z5,h x (by simp[AU.AK])]
 | Ca x=>simp only[Z5,h x (by simp[AU.AK])]
 | Cp x=>simp only[Z5,h x (by simp[AU.AK])]
 | iface ty x=>simp only[Z5,h x (by simp[AU.AK])]
 | clear k z x=>simp only[Z5,h x (by simp[AU.AK])]
 | pick c a b=>simp only[Z5,h c (by simp[AU.AK]),h a (by simp[AU.AK]),h b (by simp[AU.AK])]
 | store n a x=>simp only[Z5,h a (by simp[AU.AK]),h x (by simp[AU.AK])]
 | bin op e a x=>simp only[Z5,h a (by simp[AU.AK]),h x (by simp[AU.AK])]
 | Cb k b z a x=>simp only[Z5,h a (by simp[AU.AK]),h x (by simp[AU.AK])]
 | BZ k a x=>simp only[Z5,h a (by simp[AU.AK]),h x (by simp[AU.AK])]
 | DW n k a x=>simp only[Z5,h a (by simp[AU.AK]),h x (by simp[AU.AK])]
 | Dn a x=>simp only[Z5,h a (by simp[AU.AK]),h x (by simp[AU.AK])]
 | CV n k sz a x=>simp only[Z5,h a (by simp[AU.AK]),h x (by simp[AU.AK])]
 | lookup kt z ok a x=>simp only[Z5,h a (by simp[AU.AK]),h x (by simp[AU.AK])]
 | append k b z a x=>simp only[Z5,h a (by simp[AU.AK]),h x (by simp[AU.AK])]
 | copy k a x=>simp only[Z5,h a (by simp[AU.AK]),h x (by simp[AU.AK])]
 | Bx kt a b c=>simp only[Z5,h a (by simp[AU.AK]),h b (by simp[AU.AK]),h c (by simp[AU.AK])]
theorem Z71{t t2:List Aa}{f:Ah}{xs:List Ah}(h:∀ x,x∈(AU.call f xs).AK→ev t x=ev t2 x):callee t f xs=callee t2 f xs:=by
 have h1:xs.map (ev t)=xs.map (ev t2):=VE fun y hy=>h y (by simp only[AU.AK,mC]; exact .inr hy)
 simp only[callee,h f (by simp[AU.AK]),h1]
def E4(p:Nat→Bool):Nat→Option Nat
 | 0=>none
 | n+1=>if p n then some n else E4 p n
theorem Nf{p q:Nat→Bool}:∀ (n:Nat),(∀ j,j<n→p j=q j)→E4 p n=E4 q n
 | 0,_=>rfl
 | n+1,h=>by
  simp only[E4];rw[h n (Nat.lt_succ_self n),Nf n fun j hj=>h j (Nat.lt_succ_of_lt hj)]
theorem sV{p:Nat→Bool}{i:Nat}(hi:p i=true):∀ (n:Nat),i<n→(∀ j,i<j→j<n→p j=false)→E4 p n=some i
 | 0,h,_=>absurd h (Nat.not_lt_zero _)
 | n+1,h,hj=>by
  simp only[E4];by_cases hin:i=n
  ·subst hin; rw[iP hi]
  ·rw[hj n (by omega) (Nat.lt_succ_self n)]
   simp only[bF,if_false];exact sV hi n (by omega) fun j h1 h2=>hj j h1 (by omega)
end Go.AE
end
section
namespace Go.AE
open Go.RowKit
theorem Zzn{P:Program}{f:FuncId}{args:List Aa}{id:Nat}{x:List Nat}{m m3:Mem}{v:Aa}(hid:id∉x)(gI:∀ c,c∈x→m3.get c=none)(hn:m.next≤m3.next)
 (h:Au P f args (m.less x) [id] fun v' m''=>v'=v∧m''=m3) {m2:Mem} (hag:∀ c,c∉x→m2.get c=m.get c) (CY:m2.next=m.next) :
 Au P f args m2 [id] fun v' m''=>v'=v∧m''=⟨fun c=>if c∈x then m2.get c else m3.get c,m3.next⟩:=by
 refine⟨h.1,fun W Φ ρ vs w hr ha CN=>?_⟩
 have hfr:∀ B,(∃ c l,c∈x∧(∃ y,m2.get c=some y)∧ρ c=some l∧l.blk=B) ∨ ¬(∃ c l,c∈x∧(∃ y,m2.get c=some y)∧ρ c=some l∧l.blk=B):=fun B=>Classical.em _
 have hg:∃ g:Nat→Option Obj,∀ B,((∃ c l,c∈x∧(∃ y,m2.get c=some y)∧ρ c=some l∧l.blk=B)→g B=w.heap[B]?)∧(¬(∃ c l,c∈x∧(∃ y,m2.get c=some y)∧ρ c=some l∧l.blk=B)→g B=W.g B):=by
  refine⟨fun B=>@ite _ (∃ c l,c∈x∧(∃ y,m2.get c=some y)∧ρ c=some l∧l.blk=B) (Classical.propDecidable _) (w.heap[B]?) (W.g B),fun B=>⟨fun h=>?_,fun h=>?_⟩⟩
  ·simp only[h,if_true]
  ·simp only[h,if_false]
 obtain⟨g,hg⟩:=hg
 let W':AA:=⟨W.w,g,Φ,W.t⟩
 have hfree2:∀ B,W'.CR B→W.CR B:=by
  intro B hB;refine⟨hB.1,?_⟩;rcases hfr B with h1|h1
  ·obtain⟨c,l,hc,⟨y,hy⟩,hl,hlB⟩:=h1;obtain⟨l',o,g1,g2,_⟩:=hr.live c y hy;rw[hl]at g1; injection g1 with g1; subst g1
   rw[← hlB]; exact g2.2
  ·have:=(hg B).2 h1;have h2:g B=none:=hB.2;rw[this]at h2; exact h2
 have hprot:∀ B o,g B=some o→w.heap[B]? = some o:=by
  intro B o hB;rcases hfr B with h1|h1
  ·rw[(hg B).1 h1]at hB; exact hB
  ·rw[(hg B).2 h1]at hB; exact hr.base.DB B o hB
 have hr1:Rel W' Φ ρ (m.less x) w:=by
  refine⟨⟨hr.base.below,hprot⟩,hr.Bn,fun b y hy=>?_,fun b b' y y' l l' h1 h2=>?_,fun b l hb=>by have:=hr.fresh b l hb; rw[CY]at this; exact this,fun B c hB=>.inl hB⟩
  ·simp only[Mem.less]at hy;by_cases hbx:b∈x
   ·rw[iP hbx]at hy; cases hy
   ·rw[iN hbx,← hag b hbx]at hy;obtain⟨l,o,g1,g2,g3,g4,g5⟩:=hr.live b y hy;refine⟨l,o,g1,⟨g2.1,?_⟩,g3,g4,g5⟩;rcases hfr l.blk with h1|h1
    ·obtain⟨c,l',hc,⟨y',hy'⟩,hl,hlB⟩:=h1;have:=hr.inj c b y' y l' l hy' hy hl g1 hlB;exact absurd (this ▸ hc) hbx
    ·show g l.blk=none;rw[(hg _).2 h1]; exact g2.2
  ·simp only[Mem.less]at h1 h2;by_cases hbx:b∈x
   ·rw[iP hbx]at h1; cases h1
   ·by_cases hbx':b'∈x
    ·rw[iP hbx']at h2; cases h2
    ·rw[iN hbx,← hag b hbx]at h1;rw[iN hbx',← hag b' hbx']at h2;exact hr.inj b b' y y' l l' h1 h2
 refine(h.2 W' Φ ρ vs w hr1 ha (fun b hb=>⟨(CN b hb).1,by have:=(CN b hb).2; rw[CY]at this; exact this⟩)).mono fun e w' he=>?_
 obtain⟨u,r,m4,Ar,ρ',e1,hE,hk,hr',hR,hn',hK1,hK2⟩:=he;subst hK2;refine⟨u,r,_,Ar,ρ',e1,hE,fun b hb=>hk b (by rw[CY]at hb; exact hb),?_,hR,by rw[CY]; exact hn,hK1,rfl⟩
 have hframed:∀ c l y,c∈x→m2.get c=some y→ρ c=some l→g l.blk=w.heap[l.blk]?:=fun c l y hc hy hl=>(hg _).1 ⟨c,l,hc,⟨y,hy⟩,hl,rfl⟩
 have Em:∀ c y,c∈x→m2.get c=some y → ∃ l o,ρ' c=some l∧ρ c=some l∧W.CR l.blk∧g l.blk=some o∧Ar l.blk=none∧w'.heap[l.blk]? = some o∧BR Ar ρ' y l o:=by
  intro c y hc hy;obtain⟨l,o,g1,g2,g3,g4,g5⟩:=hr.live c y hy;have hgl:g l.blk=some o:=by rw[hframed c l y hc hy g1]; exact g4
  refine⟨l,o,hE.Gl _ _ g1,g1,g2,hgl,?_,hr'.base.DB _ _ hgl,g5.ext hE⟩;cases hp:Ar l.blk with
  | none=>rfl
  | some cc=>
   rcases hr'.Cr _ _ hp with h1|h1
   ·have h1':Φ l.blk=some cc:=h1;rw[g3]at h1'; cases h1'
   ·have:g l.blk=none:=h1.2;rw[hgl]at this; cases this
 refine⟨⟨hr'.base.below,fun B o hB=>hr'.base.DB B o ?_⟩,hr'.Bn,fun b y hy=>?_,fun b b' y y' l l' h1 h2 k1 k2 he=>?_,hr'.fresh,fun B c hB=>?_⟩
 ·rcases hfr B with h1|h1
  ·show g B=some o;rw[(hg B).1 h1]; exact hr.base.DB B o hB
  ·show g B=some o;rw[(hg B).2 h1]; exact hB
 ·simp only at hy;by_cases hbx:b∈x
  ·rw[iP hbx]at hy;obtain⟨l,o,q1,_,q3,_,q5,q6,q7⟩:=Em b y hbx hy;exact⟨l,o,q1,q3,q5,q6,q7⟩
  ·rw[iN hbx]at hy;obtain⟨l,o,g1,g2,g3,g4,g5⟩:=hr'.live b y hy;exact⟨l,o,g1,hfree2 _ g2,g3,g4,g5⟩
 ·simp only at h1 h2;by_cases hbx:b∈x
  ·rw[iP hbx]at h1;obtain⟨l1,o1,q1,q2,_,q4,_⟩:=Em b y hbx h1;rw[k1]at q1; injection q1 with q1; subst q1
   by_cases hbx':b'∈x
   ·rw[iP hbx']at h2;obtain⟨l2,o2,p1,p2,_,p4,_⟩:=Em b' y' hbx' h2;rw[k2]at p1; injection p1 with p1; subst p1
    exact hr.inj b b' y y' l l' h1 h2 q2 p2 he
   ·rw[iN hbx']at h2;obtain⟨l2,o2,p1,p2,_,p4,_⟩:=hr'.live b' y' h2;rw[k2]at p1; injection p1 with p1; subst p1
    have:g l'.blk=none:=p2.2;rw[← he,q4]at this; cases this
  ·rw[iN hbx]at h1;obtain⟨l1,o1,q1,q2,_,q4,_⟩:=hr'.live b y h1;rw[k1]at q1; injection q1 with q1; subst q1
   by_cases hbx':b'∈x
   ·rw[iP hbx']at h2;obtain⟨l2,o2,p1,p2,_,p4,_⟩:=Em b' y' hbx' h2;rw[k2]at p1; injection p1 with p1; subst p1
    have:g l.blk=none:=q2.2;rw[he,p4]at this; cases this
   ·rw[iN hbx']at h2;exact hr'.inj b b' y y' l l' h1 h2 k1 k2 he
 ·rcases hr'.Cr B c hB with h1|h1
  ·exact hr.Cr B c h1
  ·exact .inr (hfree2 B h1)
end Go.AE
end
