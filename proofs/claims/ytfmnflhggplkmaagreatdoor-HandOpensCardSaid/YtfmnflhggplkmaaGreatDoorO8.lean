/- Part 8 of the proof: AeN, AeO, AeP, AeQ, AeR. -/
import Derived.Test.YtfmnflhggplkmaaGreatDoorO7
import Derived.Laws.Small
set_option linter.all false
section
namespace Go.AE
open Go.RowKit
section
variable {P:Program} {s:Sem Next} {W:Base} {Φ:Pers} {ρ:Rho} {id:Nat} {w w1:World} {m m':Mem} {x:AVal} {v:Value}
theorem growBy_le (N:Nat):∀ (r c:Nat),Builtin.growBy N r c≤max c (N+(N+768) / 4)
 | 0,c=>by simp only[Builtin.growBy]; omega
 | r+1,c=>by
  simp only[Builtin.growBy]
  split
  ·omega
  ·have:=growBy_le N r (c+(c+768) / 4)
   omega
theorem nextcap_le {need cap:Nat} (h:cap<need):Builtin.nextslicecap need cap≤2*need+768:=by
 unfold Builtin.nextslicecap
 split
 ·omega
 ·split
  ·omega
  ·have:=growBy_le need 4 cap
   omega
theorem rowsIn_append {A B:List (List AVal)} {k:Nat} {a b c:Array Value} (ha:RowsIn Φ ρ A 0 k a) (hsa:a.size=A.length*k) (hb:RowsIn Φ ρ B 0 k b) (hsb:b.size=B.length*k):RowsIn Φ ρ (A++B) 0 k (a++b++c):=by
 refine⟨fun i row hi=>?_,fun i row j y hi hj=>?_⟩
 ·rw[List.getElem?_append]at hi
  split at hi
  ·exact ha.1 _ _ hi
  ·exact hb.1 _ _ hi
 ·rw[List.getElem?_append]at hi
  split at hi
  ·rename_i h1
   obtain⟨u,g1,g2,g3⟩:=ha.2 i row j y hi hj
   have hj2:j<k:=by
    have:=(List.getElem?_eq_some_iff.1 hj).1
    rw[ha.1 _ row hi]at this; exact this
   have hlt:=mul_lt h1 hj2
   rw[Nat.zero_add]at g1 ⊢
   refine⟨u,?_,g2,g3⟩
   rw[Array.getElem?_append,if_pos (by simp; omega),Array.getElem?_append,if_pos (by omega)]
   exact g1
  ·rename_i h1
   obtain⟨u,g1,g2,g3⟩:=hb.2 (i - A.length) row j y hi hj
   have hi2:=(List.getElem?_eq_some_iff.1 hi).1
   have hj2:j<k:=by
    have:=(List.getElem?_eq_some_iff.1 hj).1
    rw[hb.1 _ row hi]at this; exact this
   have hlt:=mul_lt hi2 hj2
   have e1:i*k=A.length*k+(i - A.length)*k:=by rw[← Nat.add_mul]; congr 1; omega
   rw[Nat.zero_add]at g1 ⊢
   refine⟨u,?_,g2,g3⟩
   rw[Array.getElem?_append,if_pos (by simp; omega),Array.getElem?_append,if_neg (by omega)]
   rw[← g1]
   congr 1
   omega
theorem append_room {t e u ty:TypeId} {i:TypeInfo} {d:TypeDesc} {base:Option Addr} {len cap n:Nat} {vx:Value} {arr:Array Value} {w':World} (ht:P.underlying t=some (.slice e)) (hi:P.info? e=some i) (hu:P.underlying u=some d) (hd:∀ k,d≠.int k)
 (hl:(Builtin.lenOf vx).run P w=.ok n w) (hf:(Builtin.firstCells i.size n vx).run P w=.ok arr w) (hle:len+n≤cap)
 (hst:match base with|some a=>(storeCells (a.add (len*i.size)) arr.toList).run P w=.ok () w'|none=>w'=w) :
 (Builtin.append_ #[t,u] ty #[.slice base len cap,vx]).run P w=.ok (.slice base (len+n) cap) w':=by
 have hz:(match d with | .int _=>true|_=>false)=false:=by cases d<;>first|rfl|exact absurd rfl (hd _)
 have e1:(Builtin.append_ #[t,u] ty #[.slice base len cap,vx]).run P w=((do
  let new ← Builtin.firstCells i.size n vx
  if let some a:=base then storeCells (a.add (len*i.size)) new.toList
  pure (Value.slice base (len+n) cap):Sem Value)).run P w:=by
  unfold Builtin.append_
  simp only[Sem.run_bind,List.getElem?_toArray,List.getElem?_cons_zero,List.getElem?_cons_succ,r_und ht,Result.andThen_ok,r_size hi,r_und hu]
  cases d<;>first|(exact absurd rfl (hd _))|(simp only[Sem.run_bind,Sem.run_pure,Result.andThen_ok,Bool.false_eq_true,if_false,hl,hle,if_true,Bool.not_false]; rfl)
 rw[e1]
 simp only[Sem.run_bind,hf,Result.andThen_ok]
 cases base with
 | none=>simp only at hst; subst hst; rfl
 | some a=>simp only at hst; simp only[Sem.run_bind,hst,Result.andThen_ok,Sem.run_pure]
theorem append_grow {t e u ty:TypeId} {i:TypeInfo} {d:TypeDesc} {z:Value} {base:Option Addr} {len cap n:Nat} {vx:Value} {old arr:Array Value} (ht:P.underlying t=some (.slice e)) (hi:P.info? e=some i) (hz:i.zero=some z) (hu:P.underlying u=some d) (hd:∀ k,d≠.int k)
 (hl:(Builtin.lenOf vx).run P w=.ok n w) (ho:(Builtin.firstCells i.size len (.slice base len cap)).run P w.drew=.ok old w.drew) (hf:(Builtin.firstCells i.size n vx).run P w.drew=.ok arr w.drew) (hlt:cap<len+n) (hroom:len+n≤room) (hb:i.bytes≤room) :
 ∃ nc,len+n≤nc∧(Builtin.append_ #[t,u] ty #[.slice base len cap,vx]).run P w =
  .ok (.slice (some ⟨w.drew.heap.size,0,none⟩) (len+n) nc) (w.drew.alloc (.cells (old++arr++Builtin.zeroCells z.cells (nc - (len+n))) e)):=by
 have hq:(Question.appendCap (len+n) cap e).forced=false:=rfl
 refine⟨(Question.appendCap (len+n) cap e).cut (w.tape w.drawn (.appendCap (len+n) cap e)),by simp only[Question.cut]; omega,?_⟩
 generalize hnc:(Question.appendCap (len+n) cap e).cut (w.tape w.drawn (.appendCap (len+n) cap e))=nc
 unfold room at hroom hb
 have hcap:=nextcap_le hlt
 have hmul:Builtin.nextslicecap (len+n) cap*i.bytes≤(2*1048576+768)*1048576:=Nat.mul_le_mul (by omega) hb
 have hmax:IntKind.i64.max=9223372036854775807:=by decide
 have e1:(Builtin.append_ #[t,u] ty #[.slice base len cap,vx]).run P w=((do
  let newCap ← choose (.appendCap (len+n) cap e)
  askRoom (newCap*i.bytes)
  let old ← Builtin.firstCells i.size len (.slice base len cap)
  let new ← Builtin.firstCells i.size n vx
  let rest:=Builtin.zeroCells (← zeroValue e).cells (newCap - (len+n))
  pure (Value.slice (some (← newRow e (old++new++rest))) (len+n) newCap):Sem Value)).run P w:=by
  unfold Builtin.append_
  simp only[Sem.run_bind,List.getElem?_toArray,List.getElem?_cons_zero,List.getElem?_cons_succ,r_und ht,Result.andThen_ok,r_size hi,r_und hu]
  cases d<;>first|(exact absurd rfl (hd _))|skip
  all_goals
   simp only[Sem.run_bind,Sem.run_pure,Result.andThen_ok,Bool.false_eq_true,if_false,hl,Bool.not_false,if_true]
   rw[if_neg (by omega)]
   simp only[Sem.run_bind,r_info hi,Result.andThen_ok,hmax]
   rw[if_neg (by omega)]
   simp only[Sem.run_bind,r_info hi,Result.andThen_ok]
   rw[if_neg (by omega)]
   simp only[Sem.run_bind,r_info hi,Result.andThen_ok]
   rfl
 rw[e1]
 simp only[Sem.run_bind,run_choose,hq,Bool.false_eq_true,if_false,Result.andThen_ok,run_askRoom,hnc]
 have hw:({ w with drawn:=w.drawn+1 }:World)=w.drew:=rfl
 rw[hw]
 simp only[ho,hf,Result.andThen_ok,r_zero hi hz,newRow,Sem.run_bind,run_newObj,Sem.run_pure]
 rfl
theorem del_sub (m:Mem) (b:Nat):Mem.Sub (m.del b) m:=⟨fun c x h=>by
 simp only[Mem.get_del]at h
 split at h
 ·cases h
 ·exact h,Nat.le_refl _⟩
theorem size_new {len n nc k:Nat} {old arr z:Array Value} (ho:old.size=len*k) (ha:arr.size=n*k) (hz:z.size=k) (hle:len+n≤nc):(old++arr++Builtin.zeroCells z (nc - (len+n))).size=nc*k:=by
 simp only[Array.size_append,Builtin.zeroCells,Array.size_map,Array.size_range,ho,ha,hz]
 rw[← Nat.add_mul,← Nat.add_mul]
 congr 1
 omega
theorem rowsIn_take {els:List (List AVal)} {sh k off len:Nat} {c:Array Value} (h:RowsIn Φ ρ els sh k c):RowsIn Φ ρ ((els.drop off).take len) (sh+off) k c:=by
 refine⟨fun q row hq=>?_,fun q row j y hq hj=>?_⟩
 ·rw[List.getElem?_take]at hq
  split at hq
  ·rw[List.getElem?_drop]at hq; exact h.1 _ _ hq
  ·cases hq
 ·rw[List.getElem?_take]at hq
  split at hq
  ·rw[List.getElem?_drop]at hq
   obtain⟨uu,k1,k2,k3⟩:=h.2 _ row j y hq hj
   exact⟨uu,by rw[← k1,Nat.add_assoc sh],k2,k3⟩
  ·cases hq
theorem store_behind {l:Loc} {a:Option Addr} {off len cap n:Nat} {c arr:Array Value} {e':TypeId} {size:Nat} (hw:w.heap[l.blk]? = some (.cells c e' (0,0))) (hcs:c.size=l.n*l.k) (hcn:l.sh+off+cap=l.n)
 (hcap:0<cap→a=some ⟨l.blk,(l.sh+off)*l.k,none⟩) (hfit:len+n≤cap) (hsz:size=l.k) (harr:arr.size=n*l.k) (h1:∀ u,u∈arr.toList→u.oneCell'=true) :
 match a with
 | some a=>(storeCells (a.add (len*size)) arr.toList).run P w=.ok () (putBlk w l.blk (.cells (setFrom c ((l.sh+(off+len))*l.k) arr.toList) e' (0,0)))
 | none=>putBlk w l.blk (.cells (setFrom c ((l.sh+(off+len))*l.k) arr.toList) e' (0,0))=w:=by
 by_cases hc0:0<cap
 ·have hae:=hcap hc0
  subst hae
  simp only
  rw[Addr.add_none,hsz]
  have e1:(l.sh+off)*l.k+len*l.k=(l.sh+(off+len))*l.k:=by rw[← Nat.add_mul]; congr 1; omega
  rw[e1]
  have hbound:(l.sh+(off+len))*l.k+n*l.k≤c.size:=by
   rw[hcs,← Nat.add_mul]; exact Nat.mul_le_mul_right _ (by omega)
  have:=run_storeCells (P:=P) (B:=l.blk) (o:=(l.sh+(off+len))*l.k) (e:=e') arr.toList 0 w c h1 hw (by simp[harr]; omega)
  simpa using this
 ·have hx0:n=0:=by omega
  have harr0:arr = #[]:=by
   apply Array.eq_empty_of_size_eq_zero
   rw[harr,hx0]; simp
  subst harr0
  have hself:=putBlk_self hw
  cases a with
  | none=>simpa[setFrom]using hself
  | some a=>simp only[storeCells,Sem.run_pure,setFrom,hself]
section
variable {t e u ty:TypeId} {k:Nat} {i:TypeInfo} {d:TypeDesc} {zv:Value} {vx:Value} {xs:List (List AVal)} {yx:AVal} {a:Option Addr} {bb off len cap:Nat} {l:Loc} {els:List (List AVal)}
theorem append_in (hr:Rel W Φ ρ m w) (ht:P.underlying t=some (.slice e)) (hi:P.info? e=some i) (hu:P.underlying u=some d) (hd:∀ k,d≠.int k) (hk0:0<i.size) (hx:R Φ ρ yx vx) (hsrc:srcRows m i.size yx=some xs)
 (hl':ρ bb=some l) (hle:len≤cap) (hcn:l.sh+off+cap=l.n) (hcap:0<cap→a=some ⟨l.blk,(l.sh+off)*l.k,none⟩) (hav:a.isSome=true) (hg:m.get bb=some (.cells i.size els)) (hfit:off+len+xs.length≤els.length)
 (hs:∀ u' w',(Builtin.append_ #[t,u] ty #[.slice a len cap,vx]).run P w=.ok u' w'→s.run P w=.ok (.value u') w') :
 Done P s W Φ ρ id w (.sl bb off (len+xs.length)) (m.set bb (.cells i.size (els.take (off+len)++xs++els.drop (off+len+xs.length)))):=by
 obtain⟨arr,hl,hf,harr,hrows⟩:=src_ok hr hx hsrc hk0
 have hfull:(Builtin.firstCells i.size xs.length vx).run P w=.ok arr w:=by
  rw[hf _ (Nat.le_refl _)]
  congr 1
  rw[← harr]; simp
 obtain⟨l',ob,g1,g2,g3,g4,g5⟩:=hr.live bb _ hg
 rw[hl']at g1; injection g1 with g1; subst g1
 cases g5 with
 | cells _ _ _ c e' hk2 hcs hlen hrowsb h1b=>
  have hlc:len+xs.length≤cap:=by omega
  rw[← hk2]at harr hrowsb hcs
  have hst:=store_behind (P:=P) (e':=e') (size:=i.size) (len:=len) g4 hcs hcn hcap hlc hk2.symm harr (rows_one hrows (by rw[← hk2]; exact harr) hk0)
  have hrun:=append_room (P:=P) (ty:=ty) (base:=a) (len:=len) (cap:=cap) (n:=xs.length) (arr:=arr) (w':=putBlk w l.blk (.cells (setFrom c ((l.sh+(off+len))*l.k) arr.toList) e' (0,0))) ht hi hu hd hl hfull hlc (by
   cases a with
   | none=>exact hst
   | some a=>exact hst)
  rw[← hk2]at hrows
  have hsp:=rowsIn_splice (p:=off+len) hrowsb hcs (by omega) (by omega) hrows harr
  refine Done.updV (hs _ _ hrun) hr hg hl' (.cells _ _ _ _ _ hk2 (by rw[setFrom_size,hcs,hk2]) ?_ (by rw[← hk2]; exact hsp) (setFrom_one _ _ _ h1b (rows_one hrows harr (by omega)))) (.sl bb off (len+xs.length) a cap l hl' hlc hcn hcap hav)
  simp only[List.length_append,List.length_take,List.length_drop]
  omega
theorem append_on (hr:Rel W Φ ρ m w) (hn:ρ id=none) (hlt:id<m.next) (ht:P.underlying t=some (.slice e)) (hi:P.info? e=some i) (hu:P.underlying u=some d) (hd:∀ k,d≠.int k) (hk0:0<i.size) (hx:R Φ ρ yx vx) (hsrc:srcRows m i.size yx=some xs)
 (hl':ρ bb=some l) (hcn:l.sh+off+cap=l.n) (hcap:0<cap→a=some ⟨l.blk,(l.sh+off)*l.k,none⟩) (hav:a.isSome=true) (hg:m.get bb=some (.cells i.size els)) (hel:els.length=off+len) (hlc:len+xs.length≤cap)
 (hs:∀ u' w',(Builtin.append_ #[t,u] ty #[.slice a len cap,vx]).run P w=.ok u' w'→s.run P w=.ok (.value u') w') :
 Done P s W Φ ρ id w (.sl id 0 (len+xs.length)) ((m.del bb).set id (.cells i.size ((els.drop off).take len++xs))):=by
 obtain⟨arr,hl,hf,harr,hrows⟩:=src_ok hr hx hsrc hk0
 have hfull:(Builtin.firstCells i.size xs.length vx).run P w=.ok arr w:=by
  rw[hf _ (Nat.le_refl _)]
  congr 1
  rw[← harr]; simp
 obtain⟨l',ob,g1,g2,g3,g4,g5⟩:=hr.live bb _ hg
 rw[hl']at g1; injection g1 with g1; subst g1
 cases g5 with
 | cells _ _ _ c e' hk2 hcs hlen hrowsb h1b=>
  rw[← hk2]at harr hrowsb hcs
  have hst:=store_behind (P:=P) (e':=e') (size:=i.size) (len:=len) g4 hcs hcn hcap hlc hk2.symm harr (rows_one hrows (by rw[← hk2]; exact harr) hk0)
  have hrun:=append_room (P:=P) (ty:=ty) (base:=a) (len:=len) (cap:=cap) (n:=xs.length) (arr:=arr) (w':=putBlk w l.blk (.cells (setFrom c ((l.sh+(off+len))*l.k) arr.toList) e' (0,0))) ht hi hu hd hl hfull hlc (by
   cases a with
   | none=>exact hst
   | some a=>exact hst)
  rw[← hk2]at hrows
  have hsub:=rowsIn_take (off:=off) (len:=len) hrowsb
  have hlen2:((els.drop off).take len).length=len:=by simp; omega
  generalize (els.drop off).take len=tk at hsub hlen2 ⊢
  have hsp:=rowsIn_splice (p:=len) (n:=l.n) hsub hcs (by omega) (by omega) hrows harr
  have e2:tk.take len++xs++tk.drop (len+xs.length)=tk++xs:=by
   rw[List.take_of_length_le (by omega),List.drop_eq_nil_of_le (by omega),List.append_nil]
  rw[e2,Nat.add_assoc l.sh]at hsp
  refine⟨_,_,Φ,ρ.put id ⟨l.blk,l.sh+off,l.k,l.n⟩,.inl (hs _ _ hrun),Rho.ext_put hn,fun q hq h0=>by unfold Rho.put; rw[if_neg hq]; exact h0,
   rel_move hr hg hl' hn hlt rfl (BR.ext_put hn (.cells _ _ _ _ _ hk2 (by rw[setFrom_size,hcs,hk2]) (by simp only[List.length_append,hlen2]; omega) (by rw[← hk2]; exact hsp) (setFrom_one _ _ _ h1b (rows_one hrows harr (by omega))))),?_⟩
  refine .sl id 0 (len+xs.length) a cap ⟨l.blk,l.sh+off,l.k,l.n⟩ Rho.put_same hlc (by simpa using hcn) (fun hc0=>?_) hav
  rw[hcap hc0]
  rfl
theorem zero_one {zc:Array Value} {k n:Nat} (h:∀ v,v∈zc.toList→v.oneCell'=true) (hs:zc.size=k) (hk:0<k):∀ v,v∈(Builtin.zeroCells zc n).toList→v.oneCell'=true:=by
 intro v hv
 simp only[Builtin.zeroCells,Array.toList_map,List.mem_map]at hv
 obtain⟨q,_,rfl⟩:=hv
 have hlt:q % zc.size<zc.size:=Nat.mod_lt _ (by omega)
 rw[getElem!_pos zc _ hlt]
 exact h _ (by simp)
theorem append_new (hr:Rel W Φ ρ m w) (hn:ρ id=none) (hlt:id<m.next) (ht:P.underlying t=some (.slice e)) (hi:P.info? e=some i) (hz:i.zero=some zv) (hzs:zv.cells.size=i.size) (hz1:∀ v,v∈zv.cells.toList→v.oneCell'=true) (hu:P.underlying u=some d) (hd:∀ k,d≠.int k) (hk0:0<i.size) (hx:R Φ ρ yx vx) (hsrc:srcRows m i.size yx=some xs)
 {ys:AVal} {olds:List (List AVal)} {m0:Mem} (hy:R Φ ρ ys (.slice a len cap)) (hold:srcRows m i.size ys=some olds) (hol:olds.length=len) (hsub:Mem.Sub m0 m) (hnc:cap<len+xs.length) (hroom:len+xs.length≤room) (hb:i.bytes≤room)
 (hs:∀ u' w',(Builtin.append_ #[t,u] ty #[.slice a len cap,vx]).run P w=.ok u' w'→s.run P w=.ok (.value u') w') :
 Done P s W Φ ρ id w (.sl id 0 (len+xs.length)) (m0.set id (.cells i.size (olds++xs))):=by
 obtain⟨arr,hl,hf,harr,hrows⟩:=src_ok hr hx hsrc hk0
 obtain⟨arr2,hl2,hf2,harr2,hrows2⟩:=src_ok hr.drew hx hsrc hk0
 obtain⟨old,ho1,ho2,ho3,ho4⟩:=src_ok hr.drew hy hold hk0
 have hfull2:(Builtin.firstCells i.size xs.length vx).run P w.drew=.ok arr2 w.drew:=by
  rw[hf2 _ (Nat.le_refl _)]
  congr 1
  rw[← harr2]; simp
 have hold2:(Builtin.firstCells i.size len (.slice a len cap)).run P w.drew=.ok old w.drew:=by
  rw[ho2 len (by omega)]
  congr 1
  have:old.size=len*i.size:=by rw[ho3,hol]
  rw[← this]; simp
 obtain⟨nc,hnc2,hrun⟩:=append_grow (P:=P) (ty:=ty) (base:=a) (len:=len) (cap:=cap) (old:=old) ht hi hz hu hd hl hold2 hfull2 hnc hroom hb
 refine done_row (cap:=nc) (w1:=w.drew) (hr.drew.sub hsub) hn (Nat.lt_of_lt_of_le hlt hsub.next) hnc2 (by simp only[List.length_append,hol]; exact hnc2) ?_ ?_ ?_ (hs _ _ hrun)
 ·exact size_new (by rw[ho3,hol]) harr2 hzs hnc2
 ·exact rowsIn_append ho4 ho3 hrows2 harr2
 ·intro u hu
  simp only[Array.toList_append,List.mem_append]at hu
  rcases hu with(hu|hu)|hu
  ·exact rows_one ho4 ho3 hk0 u hu
  ·exact rows_one hrows2 harr2 hk0 u hu
  ·exact zero_one hz1 hzs hk0 u hu
end
theorem append_done {t u ty:TypeId} {k b:Nat} {z:List AVal} {d:TypeDesc} {ys:AVal} {vs vx:Value} {xs:List (List AVal)} {yx:AVal} {r:AVal×Mem} (hr:Rel W Φ ρ m w) (hn:ρ id=none) (hlt:id<m.next)
 (he:cElem P t=some (k,b,z)) (hu:P.underlying u=some d) (hd:∀ k,d≠.int k) (hy:R Φ ρ ys vs) (hx:R Φ ρ yx vx) (hsrc:srcRows m k yx=some xs) (ha:appendRows id k b m ys xs=some r)
 (hs:∀ u' w',(Builtin.append_ #[t,u] ty #[vs,vx]).run P w=.ok u' w'→s.run P w=.ok (.value u') w'):Done P s W Φ ρ id w r.1 r.2:=by
 obtain⟨e,i,ht,hi,hsz,hb,hz,hzl,hk0⟩:=cElem_spec he
 obtain⟨i',zv,y,h1,h2,h3,h4,h5⟩:=cZeros_R hz Φ ρ
 rw[hi]at h1; injection h1 with h1; subst h1
 have hzc:=h3.cells_R h4
 have hzsz:zv.cells.size=i.size:=by rw[hzc.1,hzl,hsz]
 have hz1:=RL_one hzc h5
 subst hsz; subst hb
 have emptyCase:∀ (a:Option Addr) (y0:AVal),R Φ ρ y0 (.slice a 0 0)→srcRows m i.size y0=some []→(xs=[]∧r=(y0,m))∨(xs≠[]∧xs.length≤room∧i.bytes≤room∧r=(.sl id 0 xs.length,m.set id (.cells i.size xs)))→vs=.slice a 0 0→Done P s W Φ ρ id w r.1 r.2:=by
  rintro a y0 hy0 hsy (⟨rfl,rfl⟩|⟨hne,hroom,hbr,rfl⟩) rfl
  ·obtain⟨arr,hl,hf,harr,hrows⟩:=src_ok hr hx hsrc hk0
   have harr0:arr = #[]:=by
    apply Array.eq_empty_of_size_eq_zero
    simpa using harr
   subst harr0
   have hfull:=hf 0 (Nat.le_refl _)
   have:=append_room (P:=P) (ty:=ty) (base:=a) (len:=0) (cap:=0) (arr:=#[]) (w':=w) ht hi hu hd hl (by simpa using hfull) (by simp) (by cases a<;>rfl)
   exact Done.val (hs _ _ this) hr hy0
  ·have hpos:0<xs.length:=List.length_pos_iff.2 hne
   have:=append_new (id:=id) (ty:=ty) hr hn hlt ht hi h2 hzsz hz1 hu hd hk0 hx hsrc hy0 hsy rfl (Mem.Sub.refl m) (by omega) (by omega) hbr hs
   simpa using this
 cases hy with
 | nilSl=>
  refine emptyCase none .nilSl .nilSl rfl ?_ rfl
  simp only[appendRows]at ha
  split at ha
  ·injection ha with ha; exact .inl ⟨‹_›,ha.symm⟩
  ·split at ha
   ·rename_i h6 h7
    injection ha with ha; exact .inr ⟨h6,h7.1,h7.2,ha.symm⟩
   ·cases ha
 | emp a=>
  refine emptyCase a .emp (.emp a) rfl ?_ rfl
  simp only[appendRows]at ha
  split at ha
  ·injection ha with ha; exact .inl ⟨‹_›,ha.symm⟩
  ·split at ha
   ·rename_i h6 h7
    injection ha with ha; exact .inr ⟨h6,h7.1,h7.2,ha.symm⟩
   ·cases ha
 | sl bb off len a cap l hl' hle hcn hcap hav=>
  simp only[appendRows]at ha
  cases hg:m.get bb with
  | none=>simp[hg]at ha
  | some blk=>
   cases blk with
   | cells k2 els=>
    simp only[hg]at ha
    split at ha
    ·rename_i hcond
     obtain⟨rfl,hol,hor⟩:=hcond
     split at ha
     ·rename_i hfit
      injection ha with ha
      subst ha
      exact append_in hr ht hi hu hd hk0 hx hsrc hl' hle hcn hcap hav hg hfit hs
     ·rename_i hnofit
      split at ha
      ·rename_i hroom
       injection ha with ha
       subst ha
       by_cases hlc:len+xs.length≤cap
       ·exact append_on hr hn hlt ht hi hu hd hk0 hx hsrc hl' hcn hcap hav hg (by omega) hlc hs
       ·exact append_new hr hn hlt ht hi h2 hzsz hz1 hu hd hk0 hx hsrc (.sl bb off len a cap l hl' hle hcn hcap hav) (by
         show rowsOf m i.size (.sl bb off len)=some ((els.drop off).take len)
         simp[rowsOf,hg,hol]) (by simp; omega) (del_sub m bb) (by omega) hroom.1 hroom.2 hs
      ·cases ha
    ·cases ha
   | map es clock=>simp[hg]at ha
   | siter s' pos=>simp[hg]at ha
   | miter a' b' c' d'=>simp[hg]at ha
 | _=>simp[appendRows]at ha
end
end Go.AE
end
section
namespace Go.AE
open Go.RowKit
section
variable {P:Program} {s:Sem Next} {W:Base} {Φ:Pers} {ρ:Rho} {id:Nat} {w w1:World} {m m':Mem} {x:AVal} {v:Value}
theorem copy_done {t ty:TypeId} {k:Nat} {b:Nat} {z:List AVal} {u:TypeId} {vd vs:Value} {xs:List (List AVal)} {yx:AVal} {bb off len:Nat} {els:List (List AVal)} (hr:Rel W Φ ρ m w)
 (he:cElem P t=some (k,b,z)) (hy:R Φ ρ (.sl bb off len) vd) (hx:R Φ ρ yx vs) (hsrc:srcRows m k yx=some xs) (hg:m.get bb=some (.cells k els)) (hol:off+len≤els.length)
 (hs:∀ u' w',(Builtin.copy_ #[t,u] ty #[vd,vs]).run P w=.ok u' w'→s.run P w=.ok (.value u') w') :
 Done P s W Φ ρ id w (.int .i64 (min xs.length len:Nat)) (m.set bb (.cells k (els.take off++xs.take (min xs.length len)++els.drop (off+min xs.length len)))):=by
 obtain⟨e,i,ht,hi,hsz,hb,hz,hzl,hk0⟩:=cElem_spec he
 subst hsz
 obtain⟨arr,hl,hf,harr,hrows⟩:=src_ok hr hx hsrc hk0
 cases hy with
 | sl _ _ _ a cap l hl' hle hcn hcap hav=>
  obtain⟨l',ob,g1,g2,g3,g4,g5⟩:=hr.live bb _ hg
  rw[hl']at g1; injection g1 with g1; subst g1
  cases g5 with
  | cells _ _ _ c e' hk2 hcs hlen hrowsb h1b=>
   obtain⟨n,hn⟩:∃ n,min xs.length len=n:=⟨_,rfl⟩
   rw[hn]
   have hnx:n≤xs.length:=by omega
   have hnl:n≤len:=by omega
   have hfn:=hf n hnx
   have harrn:(arr.extract 0 (n*i.size)).size=(xs.take n).length*i.size:=by
    have:n*i.size≤xs.length*i.size:=Nat.mul_le_mul_right _ hnx
    simp only[Array.size_extract,harr,List.length_take]
    rw[Nat.min_eq_left hnx]; omega
   have hrown:RowsIn Φ ρ (xs.take n) 0 i.size (arr.extract 0 (n*i.size)):=by
    refine⟨fun q row hq=>?_,fun q row j y hq hj=>?_⟩
    ·rw[List.getElem?_take]at hq
     split at hq
     ·exact hrows.1 _ _ hq
     ·cases hq
    ·rw[List.getElem?_take]at hq
     split at hq
     ·rename_i hqn
      obtain⟨uu,k1,k2,k3⟩:=hrows.2 _ row j y hq hj
      have hj2:j<i.size:=by
       have:=(List.getElem?_eq_some_iff.1 hj).1
       rw[hrows.1 _ row hq]at this; exact this
      have hlt:=mul_lt hqn hj2
      have hle2:n*i.size≤xs.length*i.size:=Nat.mul_le_mul_right _ hnx
      refine⟨uu,?_,k2,k3⟩
      rw[Nat.zero_add]at k1 ⊢
      rw[Array.getElem?_extract,if_pos (by omega),← k1]
      congr 1; omega
     ·cases hq
   have hnl2:(xs.take n).length=n:=by simp; omega
   have hst:=store_behind (P:=P) (a:=a) (len:=0) (cap:=cap) (n:=n) (off:=off) (e':=e') (size:=i.size) g4 (by rw[hcs,hk2]) hcn hcap (by omega) hk2.symm (by rw[harrn,hnl2,hk2]) (rows_one hrown harrn hk0)
   simp only[Nat.add_zero,Nat.zero_mul]at hst
   have hrun:(Builtin.copy_ #[t,u] ty #[.slice a len cap,vs]).run P w=.ok (.int .i64 (n:Nat)) (putBlk w l.blk (.cells (setFrom c ((l.sh+off)*l.k) (arr.extract 0 (n*i.size)).toList) e' (0,0))):=by
    unfold Builtin.copy_
    simp only[Sem.run_bind,List.getElem?_toArray,List.getElem?_cons_zero,List.getElem?_cons_succ,r_und ht,Result.andThen_ok,r_size hi]
    rw[hl]
    have hmin:Nat.min xs.length len=n:=hn
    simp only[Sem.run_bind,Result.andThen_ok,hmin,hfn]
    cases a with
    | none=>simp only at hst; rw[hst]; rfl
    | some a=>
     have ha0:a.add 0=a:=by simp[Addr.add]
     simp only at hst
     rw[ha0]at hst
     simp only[Sem.run_bind,hst,Result.andThen_ok]; rfl
   have hone:=rows_one hrown harrn hk0
   rw[← hk2]at hrown harrn hrowsb hcs
   have hsp:=rowsIn_splice (p:=off) hrowsb hcs (by omega) (by omega) hrown harrn
   rw[hnl2,hk2]at hsp
   refine Done.updV (hs _ _ hrun) hr hg hl' (.cells _ _ _ _ _ hk2 (by rw[setFrom_size,hcs,hk2]) ?_ (by rw[hk2]; exact hsp) (setFrom_one _ _ _ h1b hone)) (.int _ _)
   simp only[List.length_append,List.length_take,List.length_drop]
   omega
theorem clear_done {t ty:TypeId} {k b:Nat} {z:List AVal} {vx:Value} {yx:AVal} {r:Mem} (hr:Rel W Φ ρ m w) (he:cElem P t=some (k,b,z)) (hy:R Φ ρ yx vx)
 (h:(∃ bb off len els,yx=.sl bb off len∧m.get bb=some (.cells k els)∧off+len≤els.length∧r=m.set bb (.cells k (els.take off++List.replicate len z++els.drop (off+len))))∨((yx=.nilSl∨yx=.emp)∧r=m))
 (hs:∀ u' w',(Builtin.clear_ #[t] ty #[vx]).run P w=.ok u' w'→s.run P w=.ok (.value u') w'):Done P s W Φ ρ id w aundef r:=by
 obtain⟨e,i,ht,hi,hsz,hb,hz,hzl,hk0⟩:=cElem_spec he
 subst hsz
 obtain⟨i',zv,y,h1,h2,h3,h4,h5⟩:=cZeros_R hz Φ ρ
 rw[hi]at h1; injection h1 with h1; subst h1
 have hzc:=h3.cells_R h4
 rcases h with⟨bb,off,len,els,rfl,hg,hol,rfl⟩|⟨hy0,rfl⟩
 ·cases hy with
  | sl _ _ _ a cap l hl' hle hcn hcap hav=>
   obtain⟨l',ob,g1,g2,g3,g4,g5⟩:=hr.live bb _ hg
   rw[hl']at g1; injection g1 with g1; subst g1
   cases g5 with
   | cells _ _ _ c e' hk2 hcs hlen hrowsb h1b=>
    have hzn:zv.cells.size=i.size:=by rw[hzc.1,hzl]
    have hrown:=rowsIn_zero (len:=len) hzc h5 hzl hk0
    have hzsz:((Array.range (len*i.size)).map fun q=>zv.cells[q % zv.cells.size]!).size=(List.replicate len z).length*i.size:=by simp
    have hzero:Builtin.zeroCells zv.cells len=(Array.range (len*i.size)).map fun q=>zv.cells[q % zv.cells.size]!:=by simp only[Builtin.zeroCells,hzn]
    have hst:=store_behind (P:=P) (a:=a) (len:=0) (cap:=cap) (n:=len) (off:=off) (e':=e') (size:=i.size) g4 (by rw[hcs,hk2]) hcn hcap (by omega) hk2.symm (by rw[hzsz,hk2]; simp) (rows_one hrown hzsz hk0)
    simp only[Nat.add_zero,Nat.zero_mul]at hst
    have hone:=rows_one hrown hzsz hk0
    rw[← hk2]at hrown hzsz hrowsb hcs
    have hsp:=rowsIn_splice (p:=off) hrowsb hcs (by omega) (by simp; omega) hrown hzsz
    rw[List.length_replicate]at hsp
    have hrun:(Builtin.clear_ #[t] ty #[.slice a len cap]).run P w=.ok (.tuple #[]) (putBlk w l.blk (.cells (setFrom c ((l.sh+off)*l.k) ((Array.range (len*i.size)).map fun q=>zv.cells[q % zv.cells.size]!).toList) e' (0,0))):=by
     unfold Builtin.clear_
     simp only[Sem.run_bind,List.getElem?_toArray,List.getElem?_cons_zero,r_und ht,Result.andThen_ok]
     cases a with
     | none=>simp only at hst; rw[hst]; rfl
     | some a=>
      have ha0:a.add 0=a:=by simp[Addr.add]
      simp only at hst
      rw[ha0]at hst
      cases len with
      | zero=>
       have e0:((Array.range (0*i.size)).map fun q=>zv.cells[q % zv.cells.size]!) = #[]:=by simp
       rw[e0]at hst ⊢
       simp only[setFrom,putBlk_self g4]
       rfl
      | succ n=>
       simp only[Sem.run_bind,r_zero hi h2,Result.andThen_ok,hzero,hst]; rfl
    have hfin:Done P s W Φ ρ id w aundef (m.set bb (.cells i.size (els.take off++List.replicate len z++els.drop (off+len)))):=by
     refine Done.updV (v:=.tuple #[]) (hs _ _ hrun) hr hg hl' (.cells _ _ _ _ _ hk2 (by rw[setFrom_size,hcs,hk2]) ?_ (by rw[← hk2]; exact hsp) (setFrom_one _ _ _ h1b hone)) (R_undef _ _)
     simp only[List.length_append,List.length_take,List.length_drop,List.length_replicate]
     omega
    exact hfin
 ·have hrun:(Builtin.clear_ #[t] ty #[vx]).run P w=.ok (.tuple #[]) w:=by
   unfold Builtin.clear_
   simp only[Sem.run_bind,List.getElem?_toArray,List.getElem?_cons_zero,r_und ht,Result.andThen_ok]
   rcases hy0 with rfl|rfl
   ·cases hy; rfl
   ·cases hy with
    | emp a=>cases a<;>rfl
  exact Done.val (hs _ _ hrun) hr (R_undef _ _)
def EntR (Φ:Pers) (ρ:Rho) (es:List (AVal×AVal×Nat)) (en:List MapEntry):Prop:=
 en.length=es.length ∧ ∀(i:Nat) (x:AVal×AVal×Nat),es[i]? = some x → ∃ y:MapEntry,en[i]? = some y∧R Φ ρ x.1 y.key∧R Φ ρ x.2.1 y.val∧y.born=x.2.2
theorem EntR.tail {x:AVal×AVal×Nat} {y:MapEntry} {es:List (AVal×AVal×Nat)} {en:List MapEntry} (h:EntR Φ ρ (x :: es) (y :: en)):EntR Φ ρ es en:=
 ⟨by simpa using h.1,fun i z hz=>by simpa using h.2 (i+1) z (by simpa using hz)⟩
theorem sameNow_run {kt:KeyT} {key:TypeId} {d:TypeDesc} {y z:AVal} {vy vz:Value} {b:Bool} (hu:P.underlying key=some d) (hk:cKey P key=some kt) (hy:R Φ ρ y vy) (hz:R Φ ρ z vz) (h:keyEq kt y z=some b):Instr.sameNow d vy vz=some b:=by
 unfold cKey at hk
 rw[hu]at hk
 cases d<;>simp only at hk<;>first|(cases hk; done)|(injection hk with hk; subst hk)
 all_goals (cases y<;>cases z<;>simp only[keyEq]at h<;>first|(cases h; done)|skip)
 ·injection h with h; subst h
  rw[bool_R hy,bool_R hz]; rfl
 ·split at h
  ·rename_i hkk
   injection h with h; subst h; subst hkk
   rw[int_R hy,int_R hz]
   simp[Instr.sameNow]
  ·cases h
 ·injection h with h; subst h
  rw[str_R hy,str_R hz]
  simp only[Instr.sameNow]
  rw[beq_toListBytes,toList_mk,toList_mk]
theorem findNow_run {kt:KeyT} {key:TypeId} {d:TypeDesc} {y:AVal} {vy:Value} (hu:P.underlying key=some d) (hk:cKey P key=some kt) (hy:R Φ ρ y vy):∀ (es:List (AVal×AVal×Nat)) (en:List MapEntry) (r:Option (Nat×AVal×Nat)) (q:Nat),EntR Φ ρ es en →
 findA kt y es=some r→(r=none∧Instr.findNow d vy en q=some none)∨(∃ i z born e,r=some (i,z,born)∧en[i]? = some e∧(∃ kk,es[i]? = some (kk,z,born)∧keyEq kt y kk=some true)∧Instr.findNow d vy en q=some (some (q+i,e.val)))
 | [],[],r,q,_,hf=>by
  simp only[findA,Option.some.injEq]at hf
  exact .inl ⟨hf.symm,rfl⟩
 | [],e :: en,r,q,h,_=>by have:=h.1; simp at this
 | x :: es,[],r,q,h,_=>by have:=h.1; simp at this
 | (k0,z0,b0) :: es,e :: en,r,q,h,hf=>by
  obtain⟨e',h1,h2,h3,h4⟩:=h.2 0 (k0,z0,b0) rfl
  simp only[List.getElem?_cons_zero,Option.some.injEq]at h1
  subst h1
  simp only[findA]at hf
  cases hkey:keyEq kt y k0 with
  | none=>simp[hkey]at hf
  | some b=>
   have hsn:=sameNow_run hu hk hy h2 hkey
   cases b with
   | true=>
    simp only[hkey,Option.some.injEq]at hf
    refine .inr ⟨0,z0,b0,e,hf.symm,rfl,⟨k0,rfl,hkey⟩,?_⟩
    simp only[Instr.findNow,hsn]
    rfl
   | false=>
    simp only[hkey]at hf
    cases hr:findA kt y es with
    | none=>simp[hr]at hf
    | some r'=>
     rcases findNow_run hu hk hy es en r' (q+1) h.tail hr with⟨rfl,hfn⟩|⟨i,z,born,e2,rfl,he2,⟨kk,hkk,hkq⟩,hfn⟩
     ·simp only[hr,Option.some.injEq]at hf
      exact .inl ⟨hf.symm,by simp only[Instr.findNow,hsn,hfn]⟩
     ·simp only[hr,Option.some.injEq]at hf
      refine .inr ⟨i+1,z,born,e2,hf.symm,by simpa using he2,⟨kk,by simpa using hkk,hkq⟩,?_⟩
      simp only[Instr.findNow,hsn,hfn]
      congr 3
      omega
theorem checkKey_run {kt:KeyT} {key:TypeId} {y:AVal} {vy:Value} (b:Bool) (hk:cKey P key=some kt):(Instr.checkKey b 10000 key vy).run P w=.ok () w:=by
 have e:∀ n,(Instr.checkKey b (n+1) key vy).run P w=.ok () w:=by
  intro n
  unfold cKey at hk
  cases hu:P.underlying key with
  | none=>simp[hu]at hk
  | some d=>
   cases d<;>simp only[hu]at hk<;>first|(cases hk; done)|(simp only[Instr.checkKey,Sem.run_bind,r_und hu,Result.andThen_ok]; rfl)
 exact e 9999
theorem EntR_of {es:List (AVal×AVal×Nat)} {en:Array MapEntry} (hs:en.size=es.length) (hr:∀ (i:Nat) (x:AVal×AVal×Nat),es[i]? = some x → ∃ y:MapEntry,en[i]? = some y∧R Φ ρ x.1 y.key∧R Φ ρ x.2.1 y.val∧y.born=x.2.2):EntR Φ ρ es en.toList:=
 ⟨by simpa using hs,fun i x hx=>by simpa using hr i x hx⟩
theorem ok_lookup {t key e:TypeId} {kt:KeyT} {zero:AVal} {y yk:AVal} {vk:Value} {es:List (AVal×AVal×Nat)} {r:Option (Nat×AVal×Nat)} {ok:Bool} (hr:Rel W Φ ρ m w) (ht:P.underlying t=some (.map key e)) (hk:cKey P key=some kt) (hz:cZero P e=some zero)
 (hy:R Φ ρ y v) (hyk:R Φ ρ yk vk) (hm:(y=.nilMap∧es=[])∨(∃ b c,y=.map b∧m.get b=some (.map es c))) (hf:findA kt yk es=some r) :
 ∃ u,(Instr.lookup t v vk ok).run P w=.ok u w∧R Φ ρ (if ok then .tuple [match r with|some (_,z,_)=>z|none=>zero,.bool r.isSome]else match r with|some (_,z,_)=>z|none=>zero) u:=by
 have hzero:∃ i zv,P.info? e=some i∧i.zero=some zv∧R Φ ρ zero zv:=by
  unfold cZero at hz
  cases hi:P.info? e with
  | none=>simp[hi]at hz
  | some i=>
   cases hzz:i.zero with
   | none=>simp[hi,hzz]at hz
   | some zv=>simp only[hi,hzz]at hz; exact⟨i,zv,rfl,hzz,absV_R Φ ρ hz⟩
 obtain⟨i,zv,hi,hzz,hzr⟩:=hzero
 cases hu:P.underlying key with
 | none=>simp[cKey,hu]at hk
 | some d=>
  have main:∀ (en:Array MapEntry),EntR Φ ρ es en.toList → ∃ u,(do
   Instr.checkKey en.isEmpty 10000 key vk
   let (v,ok') ← match ← Instr.findKey key vk en.toList with
    | some (_,v)=>pure (v,true)
    | none=>pure (← zeroValue e,false)
   pure (if ok then Value.tuple #[v,.bool ok']else v):Sem Value).run P w=.ok u w∧R Φ ρ (if ok then .tuple [match r with|some (_,z,_)=>z|none=>zero,.bool r.isSome]else match r with|some (_,z,_)=>z|none=>zero) u:=by
   intro en hen
   have two:∀ (a b:AVal) (va vb:Value),R Φ ρ a va→R Φ ρ b vb→R Φ ρ (.tuple [a,b]) (.tuple #[va,vb]):=fun a b va vb ha hb=>.tuple _ _ rfl fun i x u hx hu=>by
    cases i with
    | zero=>simp at hx hu; subst hx; subst hu; exact ha
    | succ i=>
     cases i with
     | zero=>simp at hx hu; subst hx; subst hu; exact hb
     | succ i=>simp at hx
   rcases findNow_run hu hk hyk es en.toList r 0 hen hf with⟨rfl,hfn⟩|⟨q,z,born,e2,rfl,he2,⟨kk,hkk,_⟩,hfn⟩
   ·have hfk:(Instr.findKey key vk en.toList).run P w=.ok none w:=by
     simp only[Instr.findKey,Sem.run_bind,r_und hu,Result.andThen_ok,hfn,Sem.run_pure]
    simp only[Sem.run_bind,checkKey_run (y:=yk) _ hk,Result.andThen_ok,hfk,r_zero hi hzz,Sem.run_pure]
    cases ok
    ·exact⟨_,rfl,hzr⟩
    ·exact⟨_,rfl,two _ _ _ _ hzr (.bool _)⟩
   ·have hfk:(Instr.findKey key vk en.toList).run P w=.ok (some (0+q,e2.val)) w:=by
     simp only[Instr.findKey,Sem.run_bind,r_und hu,Result.andThen_ok,hfn,Sem.run_pure]
    obtain⟨e3,h1,h2,h3,h4⟩:=hen.2 q _ hkk
    rw[he2]at h1; injection h1 with h1; subst h1
    simp only[Sem.run_bind,checkKey_run (y:=yk) _ hk,Result.andThen_ok,hfk,Sem.run_pure]
    cases ok
    ·exact⟨_,rfl,h3⟩
    ·exact⟨_,rfl,two _ _ _ _ h3 (.bool _)⟩
  rcases hm with⟨rfl,rfl⟩|⟨b,c,rfl,hg⟩
  ·cases hy
   obtain⟨u,h1,h2⟩:=main #[] ⟨rfl,fun i x hx=>by simp at hx⟩
   exact⟨u,Eq.trans (by simp only[Instr.lookup,Sem.run_bind,r_und ht,Result.andThen_ok,Sem.run_pure]; rfl) h1,h2⟩
  ·cases hy with
   | map _ l hl=>
    obtain⟨l',ob,g1,g2,g3,g4,g5⟩:=hr.live b _ hg
    rw[hl]at g1; injection g1 with g1; subst g1
    cases g5 with
    | map _ clock _ en hs hrr=>
     obtain⟨u,h1,h2⟩:=main en (EntR_of hs hrr)
     refine⟨u,?_,h2⟩
     have hget:(getObj l.blk).run P w=.ok (.map en c) w:=by simp only[getObj,Sem.run,g4]
     exact Eq.trans (by simp only[Instr.lookup,Sem.run_bind,r_und ht,Result.andThen_ok,Sem.run_pure,hget]; rfl) h1
end
end Go.AE
end
section
namespace Go.AE
open Go.RowKit
section
variable {P:Program} {s:Sem Next} {W:Base} {Φ:Pers} {ρ:Rho} {id:Nat} {w w1:World} {m m':Mem} {x:AVal} {v:Value}
theorem sameBits_key {kt:KeyT} {y z:AVal} {vy vz:Value} (hy:R Φ ρ y vy) (hz:R Φ ρ z vz) (h:keyEq kt y z=some true):Instr.sameBits 10000 vz vy=true:=by
 cases kt<;>cases y<;>cases z<;>simp only[keyEq]at h<;>first|(cases h; done)|skip
 ·split at h
  ·rename_i hk
   subst hk
   simp only[Option.some.injEq,beq_iff_eq]at h
   subst h
   rw[int_R hy,int_R hz]
   simp[Instr.sameBits]
  ·cases h
 ·simp only[Option.some.injEq,beq_iff_eq]at h
  subst h
  rw[str_R hy,str_R hz]
  simp only[Instr.sameBits]
  rw[beq_toListBytes]; simp
 ·simp only[Option.some.injEq,beq_iff_eq]at h
  subst h
  rw[bool_R hy,bool_R hz]
  simp[Instr.sameBits]
theorem setObj_run {B:Nat} {o o':Obj} (h:w.heap[B]? = some o) (hn:∀ c e f,o≠.cells c e f):(setObj B o').run P w=.ok () (putBlk w B o'):=by
 simp only[setObj,Sem.run,h]
 cases o<;>first|(exact absurd rfl (hn _ _ _))|rfl
theorem mapUpd_done {t key e:TypeId} {kt:KeyT} {b:Nat} {yk yv:AVal} {vm vk vv:Value} {es es':List (AVal×AVal×Nat)} {clock clock':Nat} (hr:Rel W Φ ρ m w) (ht:P.underlying t=some (.map key e)) (hk:cKey P key=some kt)
 (hm:R Φ ρ (.map b) vm) (hyk:R Φ ρ yk vk) (hyv:R Φ ρ yv vv) (hg:m.get b=some (.map es clock))
 (hf:(∃ i z born,findA kt yk es=some (some (i,z,born))∧es'=es.set i (yk,yv,born)∧clock'=clock)∨(findA kt yk es=some none∧es'=es++[(yk,yv,clock)]∧clock'=clock+1))
 (hs:∀ w',(Instr.mapUpdate t vm vk vv).run P w=.ok () w'→s.run P w=.ok .skip w'):Done P s W Φ ρ id w aundef (m.set b (.map es' clock')):=by
 cases hu:P.underlying key with
 | none=>simp[cKey,hu]at hk
 | some d=>
  cases hm with
  | map _ l hl=>
   obtain⟨l',ob,g1,g2,g3,g4,g5⟩:=hr.live b _ hg
   rw[hl]at g1; injection g1 with g1; subst g1
   cases g5 with
   | map _ _ _ en hsz hrr=>
    have hent:=EntR_of hsz hrr
    have hget:(getObj l.blk).run P w=.ok (.map en clock) w:=by simp only[getObj,Sem.run,g4]
    have hset:∀ o',(setObj l.blk o').run P w=.ok () (putBlk w l.blk o'):=fun o'=>setObj_run g4 (by simp)
    rcases hf with⟨i,z,born,hf,hes',hcl'⟩|⟨hf,hes',hcl'⟩
    ·rcases findNow_run hu hk hyk es en.toList _ 0 hent hf with⟨h0,_⟩|⟨i',z',born',e2,h0,he2,⟨kk,hkk,hkq⟩,hfn⟩
     ·cases h0
     ·simp only[Option.some.injEq,Prod.mk.injEq]at h0
      obtain⟨rfl,rfl,rfl⟩:=h0
      have hfk:(Instr.findKey key vk en.toList).run P w=.ok (some (0+i,e2.val)) w:=by
       simp only[Instr.findKey,Sem.run_bind,r_und hu,Result.andThen_ok,hfn,Sem.run_pure]
      obtain⟨e3,h1,h2,h3,h4⟩:=hent.2 i _ hkk
      rw[he2]at h1; injection h1 with h1; subst h1
      have hen:en[i]? = some e2:=by simpa using he2
      have hsb:=sameBits_key hyk h2 hkq
      have hrun2:(Instr.mapUpdate t (.map (some l.blk)) vk vv).run P w=.ok () (putBlk w l.blk (.map (en.modify i fun e=>{ e with key:=vk,val:=vv }) clock)):=by
       simp only[Instr.mapUpdate,Sem.run_bind,r_und ht,Result.andThen_ok,hget,checkKey_run (y:=yk) _ hk,hfk,Nat.zero_add,hen,Option.map_some,Option.getD_some,Instr.keyThatStays,hsb,if_true,Sem.run_pure,hset]
      subst hes'; subst hcl'
      refine Done.upd (hs _ hrun2) hr hg hl (.map _ _ _ _ (by simp[hsz]) fun q y hq=>?_)
      rw[List.getElem?_set]at hq
      by_cases hqi:i=q
      ·subst hqi
       have hlt:i<es.length:=(List.getElem?_eq_some_iff.1 hkk).1
       rw[if_pos rfl,if_pos hlt]at hq
       injection hq with hq
       subst hq
       exact⟨{ e2 with key:=vk,val:=vv },by simp[Array.getElem?_modify,hen],hyk,hyv,h4⟩
      ·rw[if_neg hqi]at hq
       obtain⟨e4,k1,k2⟩:=hrr q y hq
       exact⟨e4,by rw[Array.getElem?_modify,if_neg hqi]; exact k1,k2⟩
    ·rcases findNow_run hu hk hyk es en.toList _ 0 hent hf with⟨_,hfn⟩|⟨i',z',born',e2,h0,_⟩
     ·have hfk:(Instr.findKey key vk en.toList).run P w=.ok none w:=by
       simp only[Instr.findKey,Sem.run_bind,r_und hu,Result.andThen_ok,hfn,Sem.run_pure]
      have hrun2:(Instr.mapUpdate t (.map (some l.blk)) vk vv).run P w=.ok () (putBlk w l.blk (.map (en.push { key:=vk,val:=vv,born:=clock }) (clock+1))):=by
       simp only[Instr.mapUpdate,Sem.run_bind,r_und ht,Result.andThen_ok,hget,checkKey_run (y:=yk) _ hk,hfk,hset]
      subst hes'; subst hcl'
      refine Done.upd (hs _ hrun2) hr hg hl (.map _ _ _ _ (by simp[hsz]) fun q y hq=>?_)
      rw[List.getElem?_append]at hq
      split at hq
      ·rename_i hlt
       obtain⟨e4,k1,k2⟩:=hrr q y hq
       exact⟨e4,by rw[Array.getElem?_push,if_neg (by omega)]; exact k1,k2⟩
      ·rename_i hge
       have hq0:q=es.length:=by
        have:=(List.getElem?_eq_some_iff.1 hq).1
        simp at this; omega
       subst hq0
       simp only[Nat.sub_self,List.getElem?_cons_zero,Option.some.injEq]at hq
       subst hq
       exact⟨{ key:=vk,val:=vv,born:=clock },by rw[Array.getElem?_push,if_pos (by omega)],hyk,hyv,rfl⟩
     ·cases h0
theorem len_ok {t ty:TypeId} {y:AVal} {n:Nat} (hr:Rel W Φ ρ m w) (hy:R Φ ρ y v)
 (h:(P.underlying t=some .string ∧ ∃ l,y=.str l∧n=l.length)∨((∃ e,P.underlying t=some (.slice e))∧sliceLen y=some n) ∨
   ((∃ k e,P.underlying t=some (.map k e))∧((y=.nilMap∧n=0) ∨ ∃ b es c,y=.map b∧m.get b=some (.map es c)∧n=es.length))) :
 (Builtin.len_ #[t] ty #[v]).run P w=.ok (.int .i64 n) w:=by
 rcases h with⟨ht,l,rfl,rfl⟩|⟨⟨e,ht⟩,hl⟩|⟨⟨k,e,ht⟩,hm⟩
 ·rw[str_R hy]
  unfold Builtin.len_
  simp only[Sem.run_bind,List.getElem?_toArray,List.getElem?_cons_zero,r_und ht,Result.andThen_ok]
  rfl
 ·have hv:∃ a c,v=.slice a n c:=by
   cases hy<;>simp only[sliceLen]at hl<;>first|(cases hl; done)|(injection hl with hl; subst hl; exact⟨_,_,rfl⟩)
  obtain⟨a,c,rfl⟩:=hv
  unfold Builtin.len_
  simp only[Sem.run_bind,List.getElem?_toArray,List.getElem?_cons_zero,r_und ht,Result.andThen_ok]
  rfl
 ·rcases hm with⟨rfl,rfl⟩|⟨b,es,c,rfl,hg,rfl⟩
  ·cases hy
   unfold Builtin.len_
   simp only[Sem.run_bind,List.getElem?_toArray,List.getElem?_cons_zero,r_und ht,Result.andThen_ok]
   rfl
  ·cases hy with
   | map _ l hl=>
    obtain⟨l',ob,g1,g2,g3,g4,g5⟩:=hr.live b _ hg
    rw[hl]at g1; injection g1 with g1; subst g1
    cases g5 with
    | map _ _ _ en hsz hrr=>
     have hget:(getObj l.blk).run P w=.ok (.map en c) w:=by simp only[getObj,Sem.run,g4]
     unfold Builtin.len_
     simp only[Sem.run_bind,List.getElem?_toArray,List.getElem?_cons_zero,r_und ht,Result.andThen_ok,hget,Sem.run_pure,goInt,hsz]
theorem minmax_run (mx:Bool):∀ (ys:List AVal) (vs:List Value) (y z:AVal) (vy:Value),R Φ ρ y vy→vs.length=ys.length→(∀(i:Nat) (x:AVal) (u:Value),ys[i]? = some x→vs[i]? = some u→R Φ ρ x u)→minmaxA mx y ys=some z →
 ∃ u,((vs.foldlM (if mx then Builtin.max2 else Builtin.min2) vy)).run P w=.ok u w∧R Φ ρ z u
 | [],[],y,z,vy,hy,_,_,h=>by
  have:y=z:=by cases y<;>simpa[minmaxA]using h
  subst this
  exact⟨vy,rfl,hy⟩
 | [],u :: vs,_,_,_,_,hl,_,_=>by simp at hl
 | x :: ys,[],_,_,_,_,hl,_,_=>by simp at hl
 | x :: ys,u :: vs,y,z,vy,hy,hl,hr,h=>by
  cases y<;>cases x<;>simp only[minmaxA]at h<;>first|(cases h; done)|skip
  rename_i k a k' b
  rw[int_R hy]
  have hx:=hr 0 _ _ rfl rfl
  rw[int_R hx]
  obtain⟨u',h1,h2⟩:=minmax_run mx ys vs _ z (.int k (if mx then (if b > a then b else a)else (if b<a then b else a))) (.int _ _) (by simpa using hl) (fun i x u hx hu=>hr (i+1) x u (by simpa using hx) (by simpa using hu)) h
  refine⟨u',?_,h2⟩
  rw[List.foldlM_cons]
  cases mx
  ·simp only[Bool.false_eq_true,if_false,Sem.run_bind,Builtin.min2,Sem.run_pure,Result.andThen_ok]at h1 ⊢
   exact h1
  ·simp only[if_true,Sem.run_bind,Builtin.max2,Sem.run_pure,Result.andThen_ok]at h1 ⊢
   exact h1
end
end Go.AE
end
section
namespace Go.AE
open Go.RowKit
section
variable {P:Program} {s:Sem Next} {W:Base} {Φ:Pers} {ρ:Rho} {id:Nat} {w w1:World} {m m':Mem} {x:AVal} {v:Value}
theorem run_v {s:Sem Value} {u:Value} {w w':World} (h:s.run P w=.ok u w'):(do pure (Next.value (← s)):Sem Next).run P w=.ok (.value u) w':=by
 simp only[Sem.run_bind,h,Result.andThen_ok,Sem.run_pure]
theorem run_u {s:Sem Unit} {w w':World} (h:s.run P w=.ok () w'):(do s; pure Next.skip:Sem Next).run P w=.ok .skip w':=by
 simp only[Sem.run_bind,h,Result.andThen_ok,Sem.run_pure]
theorem Done.ofV {s:Sem Value} (hr:Rel W Φ ρ m w) (h:∃ u,s.run P w=.ok u w∧R Φ ρ x u):Done P (do pure (Next.value (← s))) W Φ ρ id w x m:=by
 obtain⟨u,h1,h2⟩:=h
 exact Done.val (run_v h1) hr h2
theorem bytes_loop (f:Value→ByteArray→Sem (ForInStep ByteArray)) (hf:∀ n b,(f (.int .u8 n) b).run P w=.ok (.yield (b.push (UInt8.ofNat n.toNat))) w):∀ (rows:List (List AVal)) (vs:List Value) (l:List UInt8) (b:ByteArray),vs.length=rows.length→bytesOf rows=some l →
 (∀(i:Nat) (row:List AVal) (x:AVal),rows[i]? = some row→row[0]? = some x → ∃ v,vs[i]? = some v∧R Φ ρ x v) →
 (forIn vs b f).run P w=.ok ⟨⟨b.data.toList++l⟩⟩ w
 | [],[],l,b,_,h,_=>by
  simp only[bytesOf,Option.some.injEq]at h
  subst h
  simp[List.forIn_nil]
 | [],_ :: _,_,_,hl,_,_=>by simp at hl
 | _ :: _,[],_,_,hl,_,_=>by simp at hl
 | row :: rows,v :: vs,l,b,hl,h,hr=>by
  unfold bytesOf at h
  split at h
  ·rename_i heq; cases heq
  ·rename_i n r heq
   injection heq with e1 e2
   subst e1; subst e2
   cases hb:bytesOf rows with
   | none=>simp[hb]at h
   | some l'=>
    simp only[hb,Option.some.injEq]at h
    subst h
    obtain⟨u,hu,hru⟩:=hr 0 _ _ rfl rfl
    simp only[List.getElem?_cons_zero,Option.some.injEq]at hu
    subst hu
    rw[int_R hru]
    have ih:=bytes_loop f hf rows vs l' (b.push (UInt8.ofNat n.toNat)) (by simpa using hl) hb (fun i row x h1 h2=>by
     obtain⟨u,hu,hru⟩:=hr (i+1) row x (by simpa using h1) h2
     exact⟨u,by simpa using hu,hru⟩)
    simp only[List.forIn_cons,Sem.run_bind,hf,Result.andThen_ok]
    rw[ih]
    simp[ByteArray.push]
  ·cases h
theorem ok_toStr {y:AVal} {rows:List (List AVal)} {l:List UInt8} (hr:Rel W Φ ρ m w) (hy:R Φ ρ y v) (hrow:rowsOf m 1 y=some rows) (hb:bytesOf rows=some l) :
 (Conv.bytesToString v).run P w=.ok (.string ⟨⟨l⟩⟩) w:=by
 have hsrc:srcRows m 1 y=some rows:=by
  cases y<;>simp only[srcRows]<;>first|exact hrow|(simp[rowsOf]at hrow)
 obtain⟨arr,h1,h2,h3,h4⟩:=src_ok (P:=P) hr hy hsrc (Nat.le_refl 1)
 have hv:∃ a n c,v=.slice a n c:=by
  cases hy<;>simp only[rowsOf]at hrow<;>first|(cases hrow; done)|exact⟨_,_,_,rfl⟩
 obtain⟨a,n,c,rfl⟩:=hv
 have hn:n=rows.length:=by
  simp[Builtin.lenOf]at h1
  exact h1
 subst hn
 cases a with
 | none=>
  have h5:=h2 rows.length (Nat.le_refl _)
  cases hrl:rows with
  | nil=>
   subst hrl
   simp only[bytesOf,Option.some.injEq]at hb
   subst hb
   rfl
  | cons row rest=>
   rw[hrl]at h5
   simp[Builtin.firstCells]at h5
   rw[h5,hrl]at h3
   simp at h3
 | some a=>
  have h5:=h2 rows.length (Nat.le_refl _)
  have h6:(loadCells a rows.length).run P w=.ok arr w:=by
   by_cases h0:rows.length=0
   ·rw[h0]at h3
    have:arr = #[]:=by simpa using h3
    rw[h0,this]
    rfl
   ·have:arr.extract 0 (rows.length*1)=arr:=by rw[← h3]; simp
    rw[this]at h5
    simpa[Builtin.firstCells,h0]using h5
  unfold Conv.bytesToString
  simp only[Sem.run_bind,h6,Result.andThen_ok]
  rw[← Array.forIn_toList,bytes_loop (Φ:=Φ) (ρ:=ρ) _ (fun n b=>rfl) rows arr.toList l _ (by simpa using h3) hb (fun i row x hi hx=>by
   obtain⟨u,hu,_,hru⟩:=h4.2 i row 0 x hi hx
   exact⟨u,by simpa using hu,hru⟩)]
  simp[ByteArray.empty,ByteArray.emptyWithCapacity]
  rfl
theorem ok_alloc {t:TypeId} {zs:List AVal} (hr:Rel W Φ ρ m w) (hn:ρ id=none) (hlt:id<m.next) (hz:cZeros P t=some zs) :
 Done P (do pure (Next.value (← Instr.alloc t true (.tuple #[])))) W Φ ρ id w (.ptr id 0 0) (m.set id (.cells zs.length [zs])):=by
 obtain⟨i,z,y,h1,h2,h3,h4,h5⟩:=cZeros_R hz Φ ρ
 refine done_box (v:=z) (e:=t) hr hn hlt h3 h4 h5 (run_v ?_)
 simp[Instr.alloc,r_zero h1 h2,newVar,newRow]
theorem ok_box {t:TypeId} {y:AVal} {cs:List AVal} (hr:Rel W Φ ρ m w) (hn:ρ id=none) (hlt:id<m.next) (hy:R Φ ρ y v) (hc:y.cells=some cs) (h1:cs.all AVal.one=true) :
 Done P (do pure (Next.value (← Instr.box t v))) W Φ ρ id w (.ptr id 0 0) (m.set id (.cells cs.length [cs])):=by
 refine done_box (v:=v) (e:=t) hr hn hlt hy hc h1 (run_v ?_)
 simp[Instr.box,newVar,newRow]
theorem ok_mkMap {t:TypeId} (hr:Rel W Φ ρ m w) (hn:ρ id=none) (hlt:id<m.next) :
 Done P (do pure (Next.value (← Instr.makeMap t none))) W Φ ρ id w (.map id) (m.set id (.map [] 0)):=by
 refine Done.new (l:=⟨w.heap.size,0,0,0⟩) (o:=.map #[] 0) (run_v ?_) hr hn hlt rfl (.map _ _ _ _ rfl fun i x h=>by simp at h) (.map id _ Rho.put_same)
 simp[Instr.makeMap]
theorem ok_ext {vs:List AVal} {i:Nat} {z:AVal} (hy:R Φ ρ (.tuple vs) v) (hi:vs[i]? = some z):∃ u,(Instr.extract v i).run P w=.ok u w∧R Φ ρ z u:=by
 cases hy with
 | tuple _ us hs hr=>
  have hlt:i<us.size:=by rw[hs]; exact(List.getElem?_eq_some_iff.1 hi).1
  refine⟨us[i],?_,hr i z _ hi (Array.getElem?_eq_getElem hlt)⟩
  simp[Instr.extract,hlt]
theorem isNil_bot (e:EqT):isNil e .bot=none:=by cases e<;>rfl
theorem eqNil_bot (e:EqT) (z:AVal):eqNil e .bot z=none:=by
 simp only[eqNil,isNil_bot]
 split<;>rfl
theorem eqNil_bot' (e:EqT) (z:AVal):eqNil e z .bot=none:=by
 simp only[eqNil,isNil_bot]
 split<;>rfl
theorem eqA_bot (e:EqT) (z:AVal):eqA e .bot z=none∧eqA e z .bot=none:=by
 cases e<;>simp[eqA,eqNil_bot,eqNil_bot']
theorem bin_done {op:BinOp} {t:TypeId} {e:EqT} {y z r:AVal} {vy vz:Value} {ox oy:Operand} (he:cEq P t=some e) (h:binA op e y z=some r) (hy:R Φ ρ y vy) (hz:R Φ ρ z vz) :
 ∃ u,(do eqGuard op t ox oy vy vz; binOp op t vy vz:Sem Value).run P w=.ok u w∧R Φ ρ r u:=by
 have gint:∀ k a k' b,(eqGuard op t ox oy (.int k a) (.int k' b)).run P w=.ok () w:=by
  intro k a k' b
  unfold eqGuard
  cases op<;>simp
 have gstr:∀ a b,(eqGuard op t ox oy (.string a) (.string b)).run P w=.ok () w:=by
  intro a b
  unfold eqGuard
  cases op<;>simp
 have heq:∀ b,eqA e y z=some b→op=.eql→r=.bool b → ∃ u,(do eqGuard op t ox oy vy vz; binOp op t vy vz:Sem Value).run P w=.ok u w∧R Φ ρ r u:=by
  intro b hb ho hrb
  subst ho; subst hrb
  obtain⟨h1,h2,h3,h4,h5⟩:=eqA_run (w:=w) (op:=.eql) (ox:=ox) (oy:=oy) he hb hy hz
  refine⟨.bool b,?_,.bool b⟩
  simp only[Sem.run_bind,h1,Result.andThen_ok]
  have:binOp .eql t vy vz=(do pure (.bool (← Op.equal t vy vz)):Sem Value):=by
   cases hy<;>first|(exact absurd rfl (h3 _ _))|(exact absurd rfl (h4 _))|skip
   all_goals first|(exfalso; rw[(eqA_bot _ _).1]at hb; cases hb; done)|(cases hz<;>first|rfl|(exfalso; rw[(eqA_bot _ _).2]at hb; cases hb; done))
  rw[this]
  simp only[Sem.run_bind,h2,Result.andThen_ok,Sem.run_pure]
 have hne:∀ b,eqA e y z=some b→op=.neq→r=.bool (!b) → ∃ u,(do eqGuard op t ox oy vy vz; binOp op t vy vz:Sem Value).run P w=.ok u w∧R Φ ρ r u:=by
  intro b hb ho hrb
  subst ho; subst hrb
  obtain⟨h1,h2,h3,h4,h5⟩:=eqA_run (w:=w) (op:=.neq) (ox:=ox) (oy:=oy) he hb hy hz
  refine⟨.bool (!b),?_,.bool _⟩
  simp only[Sem.run_bind,h1,Result.andThen_ok]
  have:binOp .neq t vy vz=(do pure (.bool (!(← Op.equal t vy vz))):Sem Value):=by
   cases hy<;>first|(exact absurd rfl (h3 _ _))|(exact absurd rfl (h4 _))|skip
   all_goals first|(exfalso; rw[(eqA_bot _ _).1]at hb; cases hb; done)|(cases hz<;>first|rfl|(exfalso; rw[(eqA_bot _ _).2]at hb; cases hb; done))
  rw[this]
  simp only[Sem.run_bind,h2,Result.andThen_ok,Sem.run_pure]
 unfold binA at h
 split at h
 ·split at h
  ·cases h
  ·rename_i k a k' b hb
   injection h with h
   subst h
   rw[int_R hy,int_R hz]
   simp only[Sem.run_bind,gint,Result.andThen_ok]
   refine⟨_,?_,.int _ _⟩
   simp[binOp,Op.shift,hb]
 ·split at h
  ·cases h
  ·rename_i k a k' b hb
   injection h with h
   subst h
   rw[int_R hy,int_R hz]
   simp only[Sem.run_bind,gint,Result.andThen_ok]
   refine⟨_,?_,.int _ _⟩
   simp[binOp,Op.shift,hb]
 ·split at h
  ·rename_i hk
   subst hk
   rw[int_R hy,int_R hz]
   simp only[Sem.run_bind,gint,Result.andThen_ok]
   exact binInt_run h
  ·cases h
 ·rw[str_R hy,str_R hz]
  simp only[Sem.run_bind,gstr,Result.andThen_ok]
  exact binStr_run h
 ·split at h
  ·rename_i b hb
   injection h with h
   exact heq b hb rfl h.symm
  ·cases h
 ·split at h
  ·rename_i b hb
   injection h with h
   exact hne b hb rfl h.symm
  ·cases h
 ·cases h
end
end Go.AE
end
section
namespace Go.AE
open Go.RowKit
section
variable {P:Program} {W:Base} {Φ:Pers} {ρ:Rho} {id:Nat} {w:World} {m m':Mem} {x:AVal} {a:Act} {t:List AVal}
theorem RL_map (ht:RL Φ ρ t a.tmps) {xs:Array Operand} {ys:List AOpd} (h:cOpds xs.toList=some ys):RL Φ ρ (ys.map (ev t)) (xs.map a.eval):=by
 obtain⟨h1,h2⟩:=cOpds_R ht _ _ h
 refine⟨by simp[h1],fun i x v hx hv=>?_⟩
 simp only[List.getElem?_map,Option.map_eq_some_iff]at hx
 obtain⟨y,hy,rfl⟩:=hx
 simp only[Array.getElem?_map,Option.map_eq_some_iff]at hv
 obtain⟨z,hz,rfl⟩:=hv
 exact ev_R ht (h2 i y z hy (by simpa using hz))
theorem done_nilChk {s:Sem Next} {y:AVal} {v:Value} (hr:Rel W Φ ρ m w)
 (h:(match y with | .ptr b i j=>some (.ptr b i j,m) | .iptr els i j=>some (.iptr els i j,m) | .func (.func f) a b=>some (.func (.func f) a b,m)|_=>none)=some (x,m')) (hy:R Φ ρ y v)
 (hs:(∀ p,v=.pointer (some p)→s.run P w=.ok (.value v) w)∧(∀ f p q,v=.func (.func f) p q→s.run P w=.ok (.value v) w)):Done P s W Φ ρ id w x m':=by
 cases hy with
 | ptr b i j l hl=>
  simp only[Option.some.injEq,Prod.mk.injEq]at h
  obtain⟨h1,h2⟩:=h
  subst h1; subst h2
  exact Done.val (hs.1 _ rfl) hr (.ptr b i j l hl)
 | iptr els i j B o k c f hB hk hc hrr=>
  simp only[Option.some.injEq,Prod.mk.injEq]at h
  obtain⟨h1,h2⟩:=h
  subst h1; subst h2
  exact Done.val (hs.1 _ rfl) hr (.iptr els i j B o k c f hB hk hc hrr)
 | func fn fs cs vf vc hf hc h3 h4=>
  cases fn<;>simp only[Option.some.injEq,Prod.mk.injEq,reduceCtorEq]at h
  obtain⟨h1,h2⟩:=h
  subst h1; subst h2
  exact Done.val (hs.2 _ _ _ rfl) hr (.func _ fs cs vf vc hf hc h3 h4)
 | _=>simp at h
theorem slice_len {y:AVal} {v:Value} {n:Nat} (hy:R Φ ρ y v) (hn:sliceLen y=some n):∃ p c,v=.slice p n c∧n≤c:=by
 cases hy<;>simp only[sliceLen]at hn<;>first|(cases hn; done)|skip
 all_goals (injection hn with hn; subst hn)
 all_goals first|exact⟨_,_,rfl,by simp⟩|exact⟨_,_,rfl,by assumption⟩
theorem same_pair {α β:Type} {a c:α} {b d:β} (h:some (a,b)=some (c,d)):a=c∧b=d:=by
 injection h with h; injection h with h1 h2; exact⟨h1,h2⟩
theorem builtin_v {b:Builtin} {c:Call} {o:Oper} {s:Sem Value} (ho:o.op=.call c) (hc:c.callee=.builtin b)
 (hb:∀ cs,builtin b c.argTypes o.type cs (c.args.map a.eval)=(do pure (Next.value (← s)))):∀ u w',s.run P w=.ok u w'→(execOp a.eval o).run P w=.ok (.value u) w':=by
 intro u w' h
 unfold execOp
 rw[ho]
 simp only[resolve,hc,Sem.run_bind,Sem.run_pure,Result.andThen_ok,invoke]
 rw[hb]
 exact run_v h
theorem args_two {c:Call} {p q:Operand} (h:c.args.toList=[p,q]):c.args.map a.eval = #[a.eval p,a.eval q]:=by
 have:c.args = #[p,q]:=by rw[← Array.toList_inj]; exact h
 rw[this]; simp
theorem args_one {c:Call} {p:Operand} (h:c.args.toList=[p]):c.args.map a.eval = #[a.eval p]:=by
 have:c.args = #[p]:=by rw[← Array.toList_inj]; exact h
 rw[this]; simp
theorem mm_done (ht:RL Φ ρ t a.tmps) (hr:Rel W Φ ρ m w) (o:Oper) (c:Call) (ho:o.op=.call c) (mx:Bool) (hcal:c.callee=.builtin (if mx then .max else .min))
 (hs:∀ u w',(if mx then Builtin.max_ c.argTypes o.type (c.args.map a.eval)else Builtin.min_ c.argTypes o.type (c.args.map a.eval)).run P w=.ok u w'→(execOp a.eval o).run P w=.ok (.value u) w')
 {xs:List AOpd} (hxs:cOpds c.args.toList=some xs) (h:stepA id t m (.minmax mx xs)=some (x,m')):Done P (execOp a.eval o) W Φ ρ id w x m':=by
 simp only[stepA]at h
 have hrl:=RL_map ht hxs
 cases xs with
 | nil=>simp at h
 | cons y ys=>
  simp only at h
  split at h<;>first|(cases h; done)|skip
  rename_i z hz
  obtain⟨h1,h2⟩:=same_pair h
  subst h1; subst h2
  generalize hvs:c.args.map a.eval=vs at hs hrl
  obtain⟨l⟩:=vs
  cases l with
  | nil=>simp[RL]at hrl
  | cons v l=>
   obtain⟨u,g1,g2⟩:=minmax_run (P:=P) (w:=w) mx (ys.map (ev t)) l _ z v (hrl.2 0 _ _ rfl rfl) (by simpa[RL]using hrl.1) (fun i x u hx hu=>hrl.2 (i+1) x u (by simpa using hx) (by simpa using hu)) hz
   refine Done.val (hs u w ?_) hr g2
   cases mx<;>exact g1
theorem call_done (ht:RL Φ ρ t a.tmps) (hr:Rel W Φ ρ m w) (hn:ρ id=none) (hlt:id<m.next) (o:Oper) (c:Call) (ho:o.op=.call c) (op:AOp)
 (hc:cCall P c=some op) (h:stepA id t m op=some (x,m')):Done P (execOp a.eval o) W Φ ρ id w x m':=by
 unfold cCall at hc
 split at hc
 ·split at hc
  ·injection hc with hc; subst hc; simp[stepA]at h
  ·cases hc
 ·rename_i hcal
  split at hc<;>first|(cases hc; done)|skip
  rename_i s xx tt u hargs htys
  split at hc<;>first|(cases hc; done)|skip
  rename_i k b z s' x' he hs' hx'
  split at hc<;>first|(cases hc; done)|skip
  ·injection hc with hc; subst hc; simp[stepA]at h
  ·rename_i d hd hdu
   injection hc with hc
   subst hc
   simp only[stepA]at h
   split at h<;>first|(cases h; done)|skip
   rename_i xs hxs
   have htys':c.argTypes = #[tt,u]:=by rw[← Array.toList_inj]; exact htys
   exact append_done (ty:=o.type) (r:=(x,m')) hr hn hlt he hdu (fun k hk=>hd k hk) (ev_R ht hs') (ev_R ht hx') hxs h
    (builtin_v ho hcal fun cs=>by rw[args_two hargs,htys']; rfl)
 ·rename_i hcal
  split at hc<;>first|(cases hc; done)|skip
  rename_i dd ss tt u hargs htys
  split at hc<;>first|(cases hc; done)|skip
  rename_i k b z d' s' he hd' hs'
  injection hc with hc
  subst hc
  simp only[stepA]at h
  split at h<;>first|(cases h; done)|skip
  rename_i bb off len xs hsl hxs
  split at h<;>first|(cases h; done)|skip
  rename_i k' els hg
  split at h<;>first|(cases h; done)|skip
  rename_i hcond
  obtain⟨rfl,hol⟩:=hcond
  obtain⟨h1,h2⟩:=same_pair h
  subst h1; subst h2
  have htys':c.argTypes = #[tt,u]:=by rw[← Array.toList_inj]; exact htys
  have hdv:=ev_R ht hd'
  rw[hsl]at hdv
  exact copy_done (ty:=o.type) (u:=u) hr he hdv (ev_R ht hs') hxs hg hol (builtin_v ho hcal fun cs=>by rw[args_two hargs,htys']; rfl)
 ·rename_i hcal
  split at hc<;>first|(cases hc; done)|skip
  rename_i xx tt hargs htys
  split at hc<;>first|(cases hc; done)|skip
  rename_i k b z x' he hx'
  injection hc with hc
  subst hc
  simp only[stepA]at h
  have htys':c.argTypes = #[tt]:=by rw[← Array.toList_inj]; exact htys
  have hrun:=builtin_v (P:=P) (w:=w) (a:=a) (s:=Builtin.clear_ #[tt] o.type #[a.eval xx]) ho hcal (fun cs=>by rw[args_one hargs,htys']; rfl)
  split at h<;>first|(cases h; done)|skip
  ·rename_i b' off len hsl
   split at h<;>first|(cases h; done)|skip
   rename_i k' els hg
   split at h<;>first|(cases h; done)|skip
   rename_i hcond
   obtain⟨rfl,hol⟩:=hcond
   obtain⟨h1,h2⟩:=same_pair h
   subst h1; subst h2
   exact clear_done hr he (ev_R ht hx') (.inl ⟨_,_,_,_,hsl,hg,hol,rfl⟩) hrun
  ·rename_i hsl
   obtain⟨h1,h2⟩:=same_pair h
   subst h1; subst h2
   exact clear_done hr he (ev_R ht hx') (.inr ⟨.inl hsl,rfl⟩) hrun
  ·rename_i hsl
   obtain⟨h1,h2⟩:=same_pair h
   subst h1; subst h2
   exact clear_done hr he (ev_R ht hx') (.inr ⟨.inr hsl,rfl⟩) hrun
 ·rename_i hcal
  split at hc<;>first|(cases hc; done)|skip
  rename_i xx tt hargs htys
  have htys':c.argTypes = #[tt]:=by rw[← Array.toList_inj]; exact htys
  have hrun:=builtin_v (P:=P) (w:=w) (a:=a) (s:=Builtin.len_ #[tt] o.type #[a.eval xx]) ho hcal (fun cs=>by rw[args_one hargs,htys']; rfl)
  have fin:∀ (y:AOpd) (n:Nat),cOpd xx=some y→x=.int .i64 n→m'=m →
   ((P.underlying tt=some .string ∧ ∃ l,ev t y=.str l∧n=l.length)∨((∃ e,P.underlying tt=some (.slice e))∧sliceLen (ev t y)=some n) ∨
   ((∃ k e,P.underlying tt=some (.map k e))∧((ev t y=.nilMap∧n=0) ∨ ∃ b es c,ev t y=.map b∧m.get b=some (.map es c)∧n=es.length)))→Done P (execOp a.eval o) W Φ ρ id w x m':=by
   intro y n hy h1 h2 h3
   subst h1; subst h2
   exact Done.val (hrun _ _ (len_ok hr (ev_R ht hy) h3)) hr (.int _ _)
  split at hc<;>first|(cases hc; done)|skip
  ·rename_i n e hu
   injection hc with hc
   subst hc
   simp only[stepA]at h
   obtain⟨h1,h2⟩:=same_pair h
   subst h1; subst h2
   refine Done.val (hrun (.int .i64 n) w ?_) hr (.int _ _)
   unfold Builtin.len_
   simp only[Sem.run_bind,List.getElem?_toArray,List.getElem?_cons_zero,r_und hu,Result.andThen_ok]
   rfl
  all_goals
   injection hc with hc
   subst hc
   simp only[stepA]at h
  ·rename_i y hu hy
   split at h<;>first|(cases h; done)|skip
   rename_i l hl
   obtain⟨h1,h2⟩:=same_pair h
   exact fin y _ hy h1.symm h2.symm (.inl ⟨hu,l,hl,rfl⟩)
  ·rename_i e y hu hy
   split at h<;>first|(cases h; done)|skip
   rename_i n hl
   obtain⟨h1,h2⟩:=same_pair h
   exact fin y _ hy h1.symm h2.symm (.inr (.inl ⟨⟨_,hu⟩,hl⟩))
  ·rename_i k e y hu hy
   split at h<;>first|(cases h; done)|skip
   ·rename_i hl
    obtain⟨h1,h2⟩:=same_pair h
    exact fin y 0 hy h1.symm h2.symm (.inr (.inr ⟨⟨_,_,hu⟩,.inl ⟨hl,rfl⟩⟩))
   ·rename_i b hl
    split at h<;>first|(cases h; done)|skip
    rename_i es c hg
    obtain⟨h1,h2⟩:=same_pair h
    exact fin y _ hy h1.symm h2.symm (.inr (.inr ⟨⟨_,_,hu⟩,.inr ⟨b,es,c,hl,hg,rfl⟩⟩))
 ·split at hc<;>first|(cases hc; done)|skip
  split at hc<;>first|(cases hc; done)|skip
  injection hc with hc
  subst hc
  simp[stepA]at h
 ·rename_i hcal
  split at hc<;>first|(cases hc; done)|skip
  rename_i xs hxs
  injection hc with hc
  subst hc
  exact mm_done ht hr o c ho false hcal (builtin_v ho hcal fun cs=>rfl) hxs h
 ·rename_i hcal
  split at hc<;>first|(cases hc; done)|skip
  rename_i xs hxs
  injection hc with hc
  subst hc
  exact mm_done ht hr o c ho true hcal (builtin_v ho hcal fun cs=>rfl) hxs h
 ·cases hc
end
end Go.AE
end
