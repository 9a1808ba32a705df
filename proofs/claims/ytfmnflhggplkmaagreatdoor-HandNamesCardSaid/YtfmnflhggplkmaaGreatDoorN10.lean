/- Part 10 of the proof: AeP, AeQ, AeR. -/
import Derived.Test.YtfmnflhggplkmaaGreatDoorN9
set_option linter.all false
section
namespace Go.AE
open Go.RowKit
section
variable {P:Program} {s:Sem Next} {W:Base} {Φ:Pers} {ρ:Rho} {id:Nat} {w w1:World} {m m':Mem} {x:AVal} {v:Value}
theorem sameBits_key {kt:KeyT} {y z:AVal} {vy vz:Value} (hy:R Φ ρ y vy) (hz:R Φ ρ z vz) (h:keyEq kt y z=some true):Instr.sameBits 10000 vz vy=true:=by
 cases kt<;>cases y<;>cases z<;>simp only[keyEq]at h<;>first|(cases h; done)|skip
 ·split at h
  ·rename_i hk
   subst hk
   simp only[Option.some.injEq,beq_iff_eq]at h
   subst h
   rw[int_R hy,int_R hz]
   simp[Instr.sameBits]
  ·cases h
 ·simp only[Option.some.injEq,beq_iff_eq]at h
  subst h
  rw[str_R hy,str_R hz]
  simp only[Instr.sameBits]
  rw[beq_toListBytes]; simp
 ·simp only[Option.some.injEq,beq_iff_eq]at h
  subst h
  rw[bool_R hy,bool_R hz]
  simp[Instr.sameBits]
theorem setObj_run {B:Nat} {o o':Obj} (h:w.heap[B]? = some o) (hn:∀ c e f,o≠.cells c e f):(setObj B o').run P w=.ok () (putBlk w B o'):=by
 simp only[setObj,Sem.run,h]
 cases o<;>first|(exact absurd rfl (hn _ _ _))|rfl
theorem mapUpd_done {t key e:TypeId} {kt:KeyT} {b:Nat} {yk yv:AVal} {vm vk vv:Value} {es es':List (AVal×AVal×Nat)} {clock clock':Nat} (hr:Rel W Φ ρ m w) (ht:P.underlying t=some (.map key e)) (hk:cKey P key=some kt)
 (hm:R Φ ρ (.map b) vm) (hyk:R Φ ρ yk vk) (hyv:R Φ ρ yv vv) (hg:m.get b=some (.map es clock))
 (hf:(∃ i z born,findA kt yk es=some (some (i,z,born))∧es'=es.set i (yk,yv,born)∧clock'=clock)∨(findA kt yk es=some none∧es'=es++[(yk,yv,clock)]∧clock'=clock+1))
 (hs:∀ w',(Instr.mapUpdate t vm vk vv).run P w=.ok () w'→s.run P w=.ok .skip w'):Done P s W Φ ρ id w aundef (m.set b (.map es' clock')):=by
 cases hu:P.underlying key with
 | none=>simp[cKey,hu]at hk
 | some d=>
  cases hm with
  | map _ l hl=>
   obtain⟨l',ob,g1,g2,g3,g4,g5⟩:=hr.live b _ hg
   rw[hl]at g1; injection g1 with g1; subst g1
   cases g5 with
   | map _ _ _ en hsz hrr=>
    have hent:=EntR_of hsz hrr
    have hget:(getObj l.blk).run P w=.ok (.map en clock) w:=by simp only[getObj,Sem.run,g4]
    have hset:∀ o',(setObj l.blk o').run P w=.ok () (putBlk w l.blk o'):=fun o'=>setObj_run g4 (by simp)
    rcases hf with⟨i,z,born,hf,hes',hcl'⟩|⟨hf,hes',hcl'⟩
    ·rcases findNow_run hu hk hyk es en.toList _ 0 hent hf with⟨h0,_⟩|⟨i',z',born',e2,h0,he2,⟨kk,hkk,hkq⟩,hfn⟩
     ·cases h0
     ·simp only[Option.some.injEq,Prod.mk.injEq]at h0
      obtain⟨rfl,rfl,rfl⟩:=h0
      have hfk:(Instr.findKey key vk en.toList).run P w=.ok (some (0+i,e2.val)) w:=by
       simp only[Instr.findKey,Sem.run_bind,r_und hu,Result.andThen_ok,hfn,Sem.run_pure]
      obtain⟨e3,h1,h2,h3,h4⟩:=hent.2 i _ hkk
      rw[he2]at h1; injection h1 with h1; subst h1
      have hen:en[i]? = some e2:=by simpa using he2
      have hsb:=sameBits_key hyk h2 hkq
      have hrun2:(Instr.mapUpdate t (.map (some l.blk)) vk vv).run P w=.ok () (putBlk w l.blk (.map (en.modify i fun e=>{ e with key:=vk,val:=vv }) clock)):=by
       simp only[Instr.mapUpdate,Sem.run_bind,r_und ht,Result.andThen_ok,hget,checkKey_run (y:=yk) _ hk,hfk,Nat.zero_add,hen,Option.map_some,Option.getD_some,Instr.keyThatStays,hsb,if_true,Sem.run_pure,hset]
      subst hes'; subst hcl'
      refine Done.upd (hs _ hrun2) hr hg hl (.map _ _ _ _ (by simp[hsz]) fun q y hq=>?_)
      rw[List.getElem?_set]at hq
      by_cases hqi:i=q
      ·subst hqi
       have hlt:i<es.length:=(List.getElem?_eq_some_iff.1 hkk).1
       rw[if_pos rfl,if_pos hlt]at hq
       injection hq with hq
       subst hq
       exact⟨{ e2 with key:=vk,val:=vv },by simp[Array.getElem?_modify,hen],hyk,hyv,h4⟩
      ·rw[if_neg hqi]at hq
       obtain⟨e4,k1,k2⟩:=hrr q y hq
       exact⟨e4,by rw[Array.getElem?_modify,if_neg hqi]; exact k1,k2⟩
    ·rcases findNow_run hu hk hyk es en.toList _ 0 hent hf with⟨_,hfn⟩|⟨i',z',born',e2,h0,_⟩
     ·have hfk:(Instr.findKey key vk en.toList).run P w=.ok none w:=by
       simp only[Instr.findKey,Sem.run_bind,r_und hu,Result.andThen_ok,hfn,Sem.run_pure]
      have hrun2:(Instr.mapUpdate t (.map (some l.blk)) vk vv).run P w=.ok () (putBlk w l.blk (.map (en.push { key:=vk,val:=vv,born:=clock }) (clock+1))):=by
       simp only[Instr.mapUpdate,Sem.run_bind,r_und ht,Result.andThen_ok,hget,checkKey_run (y:=yk) _ hk,hfk,hset]
      subst hes'; subst hcl'
      refine Done.upd (hs _ hrun2) hr hg hl (.map _ _ _ _ (by simp[hsz]) fun q y hq=>?_)
      rw[List.getElem?_append]at hq
      split at hq
      ·rename_i hlt
       obtain⟨e4,k1,k2⟩:=hrr q y hq
       exact⟨e4,by rw[Array.getElem?_push,if_neg (by omega)]; exact k1,k2⟩
      ·rename_i hge
       have hq0:q=es.length:=by
        have:=(List.getElem?_eq_some_iff.1 hq).1
        simp at this; omega
       subst hq0
       simp only[Nat.sub_self,List.getElem?_cons_zero,Option.some.injEq]at hq
       subst hq
       exact⟨{ key:=vk,val:=vv,born:=clock },by rw[Array.getElem?_push,if_pos (by omega)],hyk,hyv,rfl⟩
     ·cases h0
theorem len_ok {t ty:TypeId} {y:AVal} {n:Nat} (hr:Rel W Φ ρ m w) (hy:R Φ ρ y v)
 (h:(P.underlying t=some .string ∧ ∃ l,y=.str l∧n=l.length)∨((∃ e,P.underlying t=some (.slice e))∧sliceLen y=some n) ∨
   ((∃ k e,P.underlying t=some (.map k e))∧((y=.nilMap∧n=0) ∨ ∃ b es c,y=.map b∧m.get b=some (.map es c)∧n=es.length))) :
 (Builtin.len_ #[t] ty #[v]).run P w=.ok (.int .i64 n) w:=by
 rcases h with⟨ht,l,rfl,rfl⟩|⟨⟨e,ht⟩,hl⟩|⟨⟨k,e,ht⟩,hm⟩
 ·rw[str_R hy]
  unfold Builtin.len_
  simp only[Sem.run_bind,List.getElem?_toArray,List.getElem?_cons_zero,r_und ht,Result.andThen_ok]
  rfl
 ·have hv:∃ a c,v=.slice a n c:=by
   cases hy<;>simp only[sliceLen]at hl<;>first|(cases hl; done)|(injection hl with hl; subst hl; exact⟨_,_,rfl⟩)
  obtain⟨a,c,rfl⟩:=hv
  unfold Builtin.len_
  simp only[Sem.run_bind,List.getElem?_toArray,List.getElem?_cons_zero,r_und ht,Result.andThen_ok]
  rfl
 ·rcases hm with⟨rfl,rfl⟩|⟨b,es,c,rfl,hg,rfl⟩
  ·cases hy
   unfold Builtin.len_
   simp only[Sem.run_bind,List.getElem?_toArray,List.getElem?_cons_zero,r_und ht,Result.andThen_ok]
   rfl
  ·cases hy with
   | map _ l hl=>
    obtain⟨l',ob,g1,g2,g3,g4,g5⟩:=hr.live b _ hg
    rw[hl]at g1; injection g1 with g1; subst g1
    cases g5 with
    | map _ _ _ en hsz hrr=>
     have hget:(getObj l.blk).run P w=.ok (.map en c) w:=by simp only[getObj,Sem.run,g4]
     unfold Builtin.len_
     simp only[Sem.run_bind,List.getElem?_toArray,List.getElem?_cons_zero,r_und ht,Result.andThen_ok,hget,Sem.run_pure,goInt,hsz]
theorem minmax_run (mx:Bool):∀ (ys:List AVal) (vs:List Value) (y z:AVal) (vy:Value),R Φ ρ y vy→vs.length=ys.length→(∀(i:Nat) (x:AVal) (u:Value),ys[i]? = some x→vs[i]? = some u→R Φ ρ x u)→minmaxA mx y ys=some z →
 ∃ u,((vs.foldlM (if mx then Builtin.max2 else Builtin.min2) vy)).run P w=.ok u w∧R Φ ρ z u
 | [],[],y,z,vy,hy,_,_,h=>by
  have:y=z:=by cases y<;>simpa[minmaxA]using h
  subst this
  exact⟨vy,rfl,hy⟩
 | [],u :: vs,_,_,_,_,hl,_,_=>by simp at hl
 | x :: ys,[],_,_,_,_,hl,_,_=>by simp at hl
 | x :: ys,u :: vs,y,z,vy,hy,hl,hr,h=>by
  cases y<;>cases x<;>simp only[minmaxA]at h<;>first|(cases h; done)|skip
  rename_i k a k' b
  rw[int_R hy]
  have hx:=hr 0 _ _ rfl rfl
  rw[int_R hx]
  obtain⟨u',h1,h2⟩:=minmax_run mx ys vs _ z (.int k (if mx then (if b > a then b else a)else (if b<a then b else a))) (.int _ _) (by simpa using hl) (fun i x u hx hu=>hr (i+1) x u (by simpa using hx) (by simpa using hu)) h
  refine⟨u',?_,h2⟩
  rw[List.foldlM_cons]
  cases mx
  ·simp only[Bool.false_eq_true,if_false,Sem.run_bind,Builtin.min2,Sem.run_pure,Result.andThen_ok]at h1 ⊢
   exact h1
  ·simp only[if_true,Sem.run_bind,Builtin.max2,Sem.run_pure,Result.andThen_ok]at h1 ⊢
   exact h1
end
end Go.AE
end
section
namespace Go.AE
open Go.RowKit
section
variable {P:Program} {s:Sem Next} {W:Base} {Φ:Pers} {ρ:Rho} {id:Nat} {w w1:World} {m m':Mem} {x:AVal} {v:Value}
theorem run_v {s:Sem Value} {u:Value} {w w':World} (h:s.run P w=.ok u w'):(do pure (Next.value (← s)):Sem Next).run P w=.ok (.value u) w':=by
 simp only[Sem.run_bind,h,Result.andThen_ok,Sem.run_pure]
theorem run_u {s:Sem Unit} {w w':World} (h:s.run P w=.ok () w'):(do s; pure Next.skip:Sem Next).run P w=.ok .skip w':=by
 simp only[Sem.run_bind,h,Result.andThen_ok,Sem.run_pure]
theorem Done.ofV {s:Sem Value} (hr:Rel W Φ ρ m w) (h:∃ u,s.run P w=.ok u w∧R Φ ρ x u):Done P (do pure (Next.value (← s))) W Φ ρ id w x m:=by
 obtain⟨u,h1,h2⟩:=h
 exact Done.val (run_v h1) hr h2
theorem bytes_loop (f:Value→ByteArray→Sem (ForInStep ByteArray)) (hf:∀ n b,(f (.int .u8 n) b).run P w=.ok (.yield (b.push (UInt8.ofNat n.toNat))) w):∀ (rows:List (List AVal)) (vs:List Value) (l:List UInt8) (b:ByteArray),vs.length=rows.length→bytesOf rows=some l →
 (∀(i:Nat) (row:List AVal) (x:AVal),rows[i]? = some row→row[0]? = some x → ∃ v,vs[i]? = some v∧R Φ ρ x v) →
 (forIn vs b f).run P w=.ok ⟨⟨b.data.toList++l⟩⟩ w
 | [],[],l,b,_,h,_=>by
  simp only[bytesOf,Option.some.injEq]at h
  subst h
  simp[List.forIn_nil]
 | [],_ :: _,_,_,hl,_,_=>by simp at hl
 | _ :: _,[],_,_,hl,_,_=>by simp at hl
 | row :: rows,v :: vs,l,b,hl,h,hr=>by
  unfold bytesOf at h
  split at h
  ·rename_i heq; cases heq
  ·rename_i n r heq
   injection heq with e1 e2
   subst e1; subst e2
   cases hb:bytesOf rows with
   | none=>simp[hb]at h
   | some l'=>
    simp only[hb,Option.some.injEq]at h
    subst h
    obtain⟨u,hu,hru⟩:=hr 0 _ _ rfl rfl
    simp only[List.getElem?_cons_zero,Option.some.injEq]at hu
    subst hu
    rw[int_R hru]
    have ih:=bytes_loop f hf rows vs l' (b.push (UInt8.ofNat n.toNat)) (by simpa using hl) hb (fun i row x h1 h2=>by
     obtain⟨u,hu,hru⟩:=hr (i+1) row x (by simpa using h1) h2
     exact⟨u,by simpa using hu,hru⟩)
    simp only[List.forIn_cons,Sem.run_bind,hf,Result.andThen_ok]
    rw[ih]
    simp[ByteArray.push]
  ·cases h
theorem ok_toStr {y:AVal} {rows:List (List AVal)} {l:List UInt8} (hr:Rel W Φ ρ m w) (hy:R Φ ρ y v) (hrow:rowsOf m 1 y=some rows) (hb:bytesOf rows=some l) :
 (Conv.bytesToString v).run P w=.ok (.string ⟨⟨l⟩⟩) w:=by
 have hsrc:srcRows m 1 y=some rows:=by
  cases y<;>simp only[srcRows]<;>first|exact hrow|(simp[rowsOf]at hrow)
 obtain⟨arr,h1,h2,h3,h4⟩:=src_ok (P:=P) hr hy hsrc (Nat.le_refl 1)
 have hv:∃ a n c,v=.slice a n c:=by
  cases hy<;>simp only[rowsOf]at hrow<;>first|(cases hrow; done)|exact⟨_,_,_,rfl⟩
 obtain⟨a,n,c,rfl⟩:=hv
 have hn:n=rows.length:=by
  simp[Builtin.lenOf]at h1
  exact h1
 subst hn
 cases a with
 | none=>
  have h5:=h2 rows.length (Nat.le_refl _)
  cases hrl:rows with
  | nil=>
   subst hrl
   simp only[bytesOf,Option.some.injEq]at hb
   subst hb
   rfl
  | cons row rest=>
   rw[hrl]at h5
   simp[Builtin.firstCells]at h5
   rw[h5,hrl]at h3
   simp at h3
 | some a=>
  have h5:=h2 rows.length (Nat.le_refl _)
  have h6:(loadCells a rows.length).run P w=.ok arr w:=by
   by_cases h0:rows.length=0
   ·rw[h0]at h3
    have:arr = #[]:=by simpa using h3
    rw[h0,this]
    rfl
   ·have:arr.extract 0 (rows.length*1)=arr:=by rw[← h3]; simp
    rw[this]at h5
    simpa[Builtin.firstCells,h0]using h5
  unfold Conv.bytesToString
  simp only[Sem.run_bind,h6,Result.andThen_ok]
  rw[← Array.forIn_toList,bytes_loop (Φ:=Φ) (ρ:=ρ) _ (fun n b=>rfl) rows arr.toList l _ (by simpa using h3) hb (fun i row x hi hx=>by
   obtain⟨u,hu,_,hru⟩:=h4.2 i row 0 x hi hx
   exact⟨u,by simpa using hu,hru⟩)]
  simp[ByteArray.empty,ByteArray.emptyWithCapacity]
  rfl
theorem ok_alloc {t:TypeId} {zs:List AVal} (hr:Rel W Φ ρ m w) (hn:ρ id=none) (hlt:id<m.next) (hz:cZeros P t=some zs) :
 Done P (do pure (Next.value (← Instr.alloc t true (.tuple #[])))) W Φ ρ id w (.ptr id 0 0) (m.set id (.cells zs.length [zs])):=by
 obtain⟨i,z,y,h1,h2,h3,h4,h5⟩:=cZeros_R hz Φ ρ
 refine done_box (v:=z) (e:=t) hr hn hlt h3 h4 h5 (run_v ?_)
 simp[Instr.alloc,r_zero h1 h2,newVar,newRow]
theorem ok_box {t:TypeId} {y:AVal} {cs:List AVal} (hr:Rel W Φ ρ m w) (hn:ρ id=none) (hlt:id<m.next) (hy:R Φ ρ y v) (hc:y.cells=some cs) (h1:cs.all AVal.one=true) :
 Done P (do pure (Next.value (← Instr.box t v))) W Φ ρ id w (.ptr id 0 0) (m.set id (.cells cs.length [cs])):=by
 refine done_box (v:=v) (e:=t) hr hn hlt hy hc h1 (run_v ?_)
 simp[Instr.box,newVar,newRow]
theorem ok_mkMap {t:TypeId} (hr:Rel W Φ ρ m w) (hn:ρ id=none) (hlt:id<m.next) :
 Done P (do pure (Next.value (← Instr.makeMap t none))) W Φ ρ id w (.map id) (m.set id (.map [] 0)):=by
 refine Done.new (l:=⟨w.heap.size,0,0,0⟩) (o:=.map #[] 0) (run_v ?_) hr hn hlt rfl (.map _ _ _ _ rfl fun i x h=>by simp at h) (.map id _ Rho.put_same)
 simp[Instr.makeMap]
theorem ok_ext {vs:List AVal} {i:Nat} {z:AVal} (hy:R Φ ρ (.tuple vs) v) (hi:vs[i]? = some z):∃ u,(Instr.extract v i).run P w=.ok u w∧R Φ ρ z u:=by
 cases hy with
 | tuple _ us hs hr=>
  have hlt:i<us.size:=by rw[hs]; exact(List.getElem?_eq_some_iff.1 hi).1
  refine⟨us[i],?_,hr i z _ hi (Array.getElem?_eq_getElem hlt)⟩
  simp[Instr.extract,hlt]
theorem isNil_bot (e:EqT):isNil e .bot=none:=by cases e<;>rfl
theorem eqNil_bot (e:EqT) (z:AVal):eqNil e .bot z=none:=by
 simp only[eqNil,isNil_bot]
 split<;>rfl
theorem eqNil_bot' (e:EqT) (z:AVal):eqNil e z .bot=none:=by
 simp only[eqNil,isNil_bot]
 split<;>rfl
theorem eqA_bot (e:EqT) (z:AVal):eqA e .bot z=none∧eqA e z .bot=none:=by
 cases e<;>simp[eqA,eqNil_bot,eqNil_bot']
theorem bin_done {op:BinOp} {t:TypeId} {e:EqT} {y z r:AVal} {vy vz:Value} {ox oy:Operand} (he:cEq P t=some e) (h:binA op e y z=some r) (hy:R Φ ρ y vy) (hz:R Φ ρ z vz) :
 ∃ u,(do eqGuard op t ox oy vy vz; binOp op t vy vz:Sem Value).run P w=.ok u w∧R Φ ρ r u:=by
 have gint:∀ k a k' b,(eqGuard op t ox oy (.int k a) (.int k' b)).run P w=.ok () w:=by
  intro k a k' b
  unfold eqGuard
  cases op<;>simp
 have gstr:∀ a b,(eqGuard op t ox oy (.string a) (.string b)).run P w=.ok () w:=by
  intro a b
  unfold eqGuard
  cases op<;>simp
 have heq:∀ b,eqA e y z=some b→op=.eql→r=.bool b → ∃ u,(do eqGuard op t ox oy vy vz; binOp op t vy vz:Sem Value).run P w=.ok u w∧R Φ ρ r u:=by
  intro b hb ho hrb
  subst ho; subst hrb
  obtain⟨h1,h2,h3,h4,h5⟩:=eqA_run (w:=w) (op:=.eql) (ox:=ox) (oy:=oy) he hb hy hz
  refine⟨.bool b,?_,.bool b⟩
  simp only[Sem.run_bind,h1,Result.andThen_ok]
  have:binOp .eql t vy vz=(do pure (.bool (← Op.equal t vy vz)):Sem Value):=by
   cases hy<;>first|(exact absurd rfl (h3 _ _))|(exact absurd rfl (h4 _))|skip
   all_goals first|(exfalso; rw[(eqA_bot _ _).1]at hb; cases hb; done)|(cases hz<;>first|rfl|(exfalso; rw[(eqA_bot _ _).2]at hb; cases hb; done))
  rw[this]
  simp only[Sem.run_bind,h2,Result.andThen_ok,Sem.run_pure]
 have hne:∀ b,eqA e y z=some b→op=.neq→r=.bool (!b) → ∃ u,(do eqGuard op t ox oy vy vz; binOp op t vy vz:Sem Value).run P w=.ok u w∧R Φ ρ r u:=by
  intro b hb ho hrb
  subst ho; subst hrb
  obtain⟨h1,h2,h3,h4,h5⟩:=eqA_run (w:=w) (op:=.neq) (ox:=ox) (oy:=oy) he hb hy hz
  refine⟨.bool (!b),?_,.bool _⟩
  simp only[Sem.run_bind,h1,Result.andThen_ok]
  have:binOp .neq t vy vz=(do pure (.bool (!(← Op.equal t vy vz))):Sem Value):=by
   cases hy<;>first|(exact absurd rfl (h3 _ _))|(exact absurd rfl (h4 _))|skip
   all_goals first|(exfalso; rw[(eqA_bot _ _).1]at hb; cases hb; done)|(cases hz<;>first|rfl|(exfalso; rw[(eqA_bot _ _).2]at hb; cases hb; done))
  rw[this]
  simp only[Sem.run_bind,h2,Result.andThen_ok,Sem.run_pure]
 unfold binA at h
 split at h
 ·split at h
  ·cases h
  ·rename_i k a k' b hb
   injection h with h
   subst h
   rw[int_R hy,int_R hz]
   simp only[Sem.run_bind,gint,Result.andThen_ok]
   refine⟨_,?_,.int _ _⟩
   simp[binOp,Op.shift,hb]
 ·split at h
  ·cases h
  ·rename_i k a k' b hb
   injection h with h
   subst h
   rw[int_R hy,int_R hz]
   simp only[Sem.run_bind,gint,Result.andThen_ok]
   refine⟨_,?_,.int _ _⟩
   simp[binOp,Op.shift,hb]
 ·split at h
  ·rename_i hk
   subst hk
   rw[int_R hy,int_R hz]
   simp only[Sem.run_bind,gint,Result.andThen_ok]
   exact binInt_run h
  ·cases h
 ·rw[str_R hy,str_R hz]
  simp only[Sem.run_bind,gstr,Result.andThen_ok]
  exact binStr_run h
 ·split at h
  ·rename_i b hb
   injection h with h
   exact heq b hb rfl h.symm
  ·cases h
 ·split at h
  ·rename_i b hb
   injection h with h
   exact hne b hb rfl h.symm
  ·cases h
 ·cases h
end
end Go.AE
end
section
namespace Go.AE
open Go.RowKit
section
variable {P:Program} {W:Base} {Φ:Pers} {ρ:Rho} {id:Nat} {w:World} {m m':Mem} {x:AVal} {a:Act} {t:List AVal}
theorem RL_map (ht:RL Φ ρ t a.tmps) {xs:Array Operand} {ys:List AOpd} (h:cOpds xs.toList=some ys):RL Φ ρ (ys.map (ev t)) (xs.map a.eval):=by
 obtain⟨h1,h2⟩:=cOpds_R ht _ _ h
 refine⟨by simp[h1],fun i x v hx hv=>?_⟩
 simp only[List.getElem?_map,Option.map_eq_some_iff]at hx
 obtain⟨y,hy,rfl⟩:=hx
 simp only[Array.getElem?_map,Option.map_eq_some_iff]at hv
 obtain⟨z,hz,rfl⟩:=hv
 exact ev_R ht (h2 i y z hy (by simpa using hz))
theorem done_nilChk {s:Sem Next} {y:AVal} {v:Value} (hr:Rel W Φ ρ m w)
 (h:(match y with | .ptr b i j=>some (.ptr b i j,m) | .iptr els i j=>some (.iptr els i j,m) | .func (.func f) a b=>some (.func (.func f) a b,m)|_=>none)=some (x,m')) (hy:R Φ ρ y v)
 (hs:(∀ p,v=.pointer (some p)→s.run P w=.ok (.value v) w)∧(∀ f p q,v=.func (.func f) p q→s.run P w=.ok (.value v) w)):Done P s W Φ ρ id w x m':=by
 cases hy with
 | ptr b i j l hl=>
  simp only[Option.some.injEq,Prod.mk.injEq]at h
  obtain⟨h1,h2⟩:=h
  subst h1; subst h2
  exact Done.val (hs.1 _ rfl) hr (.ptr b i j l hl)
 | iptr els i j B o k c f hB hk hc hrr=>
  simp only[Option.some.injEq,Prod.mk.injEq]at h
  obtain⟨h1,h2⟩:=h
  subst h1; subst h2
  exact Done.val (hs.1 _ rfl) hr (.iptr els i j B o k c f hB hk hc hrr)
 | func fn fs cs vf vc hf hc h3 h4=>
  cases fn<;>simp only[Option.some.injEq,Prod.mk.injEq,reduceCtorEq]at h
  obtain⟨h1,h2⟩:=h
  subst h1; subst h2
  exact Done.val (hs.2 _ _ _ rfl) hr (.func _ fs cs vf vc hf hc h3 h4)
 | _=>simp at h
theorem slice_len {y:AVal} {v:Value} {n:Nat} (hy:R Φ ρ y v) (hn:sliceLen y=some n):∃ p c,v=.slice p n c∧n≤c:=by
 cases hy<;>simp only[sliceLen]at hn<;>first|(cases hn; done)|skip
 all_goals (injection hn with hn; subst hn)
 all_goals first|exact⟨_,_,rfl,by simp⟩|exact⟨_,_,rfl,by assumption⟩
theorem same_pair {α β:Type} {a c:α} {b d:β} (h:some (a,b)=some (c,d)):a=c∧b=d:=by
 injection h with h; injection h with h1 h2; exact⟨h1,h2⟩
theorem builtin_v {b:Builtin} {c:Call} {o:Oper} {s:Sem Value} (ho:o.op=.call c) (hc:c.callee=.builtin b)
 (hb:∀ cs,builtin b c.argTypes o.type cs (c.args.map a.eval)=(do pure (Next.value (← s)))):∀ u w',s.run P w=.ok u w'→(execOp a.eval o).run P w=.ok (.value u) w':=by
 intro u w' h
 unfold execOp
 rw[ho]
 simp only[resolve,hc,Sem.run_bind,Sem.run_pure,Result.andThen_ok,invoke]
 rw[hb]
 exact run_v h
theorem args_two {c:Call} {p q:Operand} (h:c.args.toList=[p,q]):c.args.map a.eval = #[a.eval p,a.eval q]:=by
 have:c.args = #[p,q]:=by rw[← Array.toList_inj]; exact h
 rw[this]; simp
theorem args_one {c:Call} {p:Operand} (h:c.args.toList=[p]):c.args.map a.eval = #[a.eval p]:=by
 have:c.args = #[p]:=by rw[← Array.toList_inj]; exact h
 rw[this]; simp
theorem mm_done (ht:RL Φ ρ t a.tmps) (hr:Rel W Φ ρ m w) (o:Oper) (c:Call) (ho:o.op=.call c) (mx:Bool) (hcal:c.callee=.builtin (if mx then .max else .min))
 (hs:∀ u w',(if mx then Builtin.max_ c.argTypes o.type (c.args.map a.eval)else Builtin.min_ c.argTypes o.type (c.args.map a.eval)).run P w=.ok u w'→(execOp a.eval o).run P w=.ok (.value u) w')
 {xs:List AOpd} (hxs:cOpds c.args.toList=some xs) (h:stepA id t m (.minmax mx xs)=some (x,m')):Done P (execOp a.eval o) W Φ ρ id w x m':=by
 simp only[stepA]at h
 have hrl:=RL_map ht hxs
 cases xs with
 | nil=>simp at h
 | cons y ys=>
  simp only at h
  split at h<;>first|(cases h; done)|skip
  rename_i z hz
  obtain⟨h1,h2⟩:=same_pair h
  subst h1; subst h2
  generalize hvs:c.args.map a.eval=vs at hs hrl
  obtain⟨l⟩:=vs
  cases l with
  | nil=>simp[RL]at hrl
  | cons v l=>
   obtain⟨u,g1,g2⟩:=minmax_run (P:=P) (w:=w) mx (ys.map (ev t)) l _ z v (hrl.2 0 _ _ rfl rfl) (by simpa[RL]using hrl.1) (fun i x u hx hu=>hrl.2 (i+1) x u (by simpa using hx) (by simpa using hu)) hz
   refine Done.val (hs u w ?_) hr g2
   cases mx<;>exact g1
theorem call_done (ht:RL Φ ρ t a.tmps) (hr:Rel W Φ ρ m w) (hn:ρ id=none) (hlt:id<m.next) (o:Oper) (c:Call) (ho:o.op=.call c) (op:AOp)
 (hc:cCall P c=some op) (h:stepA id t m op=some (x,m')):Done P (execOp a.eval o) W Φ ρ id w x m':=by
 unfold cCall at hc
 split at hc
 ·split at hc
  ·injection hc with hc; subst hc; simp[stepA]at h
  ·cases hc
 ·rename_i hcal
  split at hc<;>first|(cases hc; done)|skip
  rename_i s xx tt u hargs htys
  split at hc<;>first|(cases hc; done)|skip
  rename_i k b z s' x' he hs' hx'
  split at hc<;>first|(cases hc; done)|skip
  ·injection hc with hc; subst hc; simp[stepA]at h
  ·rename_i d hd hdu
   injection hc with hc
   subst hc
   simp only[stepA]at h
   split at h<;>first|(cases h; done)|skip
   rename_i xs hxs
   have htys':c.argTypes = #[tt,u]:=by rw[← Array.toList_inj]; exact htys
   exact append_done (ty:=o.type) (r:=(x,m')) hr hn hlt he hdu (fun k hk=>hd k hk) (ev_R ht hs') (ev_R ht hx') hxs h
    (builtin_v ho hcal fun cs=>by rw[args_two hargs,htys']; rfl)
 ·rename_i hcal
  split at hc<;>first|(cases hc; done)|skip
  rename_i dd ss tt u hargs htys
  split at hc<;>first|(cases hc; done)|skip
  rename_i k b z d' s' he hd' hs'
  injection hc with hc
  subst hc
  simp only[stepA]at h
  split at h<;>first|(cases h; done)|skip
  rename_i bb off len xs hsl hxs
  split at h<;>first|(cases h; done)|skip
  rename_i k' els hg
  split at h<;>first|(cases h; done)|skip
  rename_i hcond
  obtain⟨rfl,hol⟩:=hcond
  obtain⟨h1,h2⟩:=same_pair h
  subst h1; subst h2
  have htys':c.argTypes = #[tt,u]:=by rw[← Array.toList_inj]; exact htys
  have hdv:=ev_R ht hd'
  rw[hsl]at hdv
  exact copy_done (ty:=o.type) (u:=u) hr he hdv (ev_R ht hs') hxs hg hol (builtin_v ho hcal fun cs=>by rw[args_two hargs,htys']; rfl)
 ·rename_i hcal
  split at hc<;>first|(cases hc; done)|skip
  rename_i xx tt hargs htys
  split at hc<;>first|(cases hc; done)|skip
  rename_i k b z x' he hx'
  injection hc with hc
  subst hc
  simp only[stepA]at h
  have htys':c.argTypes = #[tt]:=by rw[← Array.toList_inj]; exact htys
  have hrun:=builtin_v (P:=P) (w:=w) (a:=a) (s:=Builtin.clear_ #[tt] o.type #[a.eval xx]) ho hcal (fun cs=>by rw[args_one hargs,htys']; rfl)
  split at h<;>first|(cases h; done)|skip
  ·rename_i b' off len hsl
   split at h<;>first|(cases h; done)|skip
   rename_i k' els hg
   split at h<;>first|(cases h; done)|skip
   rename_i hcond
   obtain⟨rfl,hol⟩:=hcond
   obtain⟨h1,h2⟩:=same_pair h
   subst h1; subst h2
   exact clear_done hr he (ev_R ht hx') (.inl ⟨_,_,_,_,hsl,hg,hol,rfl⟩) hrun
  ·rename_i hsl
   obtain⟨h1,h2⟩:=same_pair h
   subst h1; subst h2
   exact clear_done hr he (ev_R ht hx') (.inr ⟨.inl hsl,rfl⟩) hrun
  ·rename_i hsl
   obtain⟨h1,h2⟩:=same_pair h
   subst h1; subst h2
   exact clear_done hr he (ev_R ht hx') (.inr ⟨.inr hsl,rfl⟩) hrun
 ·rename_i hcal
  split at hc<;>first|(cases hc; done)|skip
  rename_i xx tt hargs htys
  have htys':c.argTypes = #[tt]:=by rw[← Array.toList_inj]; exact htys
  have hrun:=builtin_v (P:=P) (w:=w) (a:=a) (s:=Builtin.len_ #[tt] o.type #[a.eval xx]) ho hcal (fun cs=>by rw[args_one hargs,htys']; rfl)
  have fin:∀ (y:AOpd) (n:Nat),cOpd xx=some y→x=.int .i64 n→m'=m →
   ((P.underlying tt=some .string ∧ ∃ l,ev t y=.str l∧n=l.length)∨((∃ e,P.underlying tt=some (.slice e))∧sliceLen (ev t y)=some n) ∨
   ((∃ k e,P.underlying tt=some (.map k e))∧((ev t y=.nilMap∧n=0) ∨ ∃ b es c,ev t y=.map b∧m.get b=some (.map es c)∧n=es.length)))→Done P (execOp a.eval o) W Φ ρ id w x m':=by
   intro y n hy h1 h2 h3
   subst h1; subst h2
   exact Done.val (hrun _ _ (len_ok hr (ev_R ht hy) h3)) hr (.int _ _)
  split at hc<;>first|(cases hc; done)|skip
  ·rename_i n e hu
   injection hc with hc
   subst hc
   simp only[stepA]at h
   obtain⟨h1,h2⟩:=same_pair h
   subst h1; subst h2
   refine Done.val (hrun (.int .i64 n) w ?_) hr (.int _ _)
   unfold Builtin.len_
   simp only[Sem.run_bind,List.getElem?_toArray,List.getElem?_cons_zero,r_und hu,Result.andThen_ok]
   rfl
  all_goals
   injection hc with hc
   subst hc
   simp only[stepA]at h
  ·rename_i y hu hy
   split at h<;>first|(cases h; done)|skip
   rename_i l hl
   obtain⟨h1,h2⟩:=same_pair h
   exact fin y _ hy h1.symm h2.symm (.inl ⟨hu,l,hl,rfl⟩)
  ·rename_i e y hu hy
   split at h<;>first|(cases h; done)|skip
   rename_i n hl
   obtain⟨h1,h2⟩:=same_pair h
   exact fin y _ hy h1.symm h2.symm (.inr (.inl ⟨⟨_,hu⟩,hl⟩))
  ·rename_i k e y hu hy
   split at h<;>first|(cases h; done)|skip
   ·rename_i hl
    obtain⟨h1,h2⟩:=same_pair h
    exact fin y 0 hy h1.symm h2.symm (.inr (.inr ⟨⟨_,_,hu⟩,.inl ⟨hl,rfl⟩⟩))
   ·rename_i b hl
    split at h<;>first|(cases h; done)|skip
    rename_i es c hg
    obtain⟨h1,h2⟩:=same_pair h
    exact fin y _ hy h1.symm h2.symm (.inr (.inr ⟨⟨_,_,hu⟩,.inr ⟨b,es,c,hl,hg,rfl⟩⟩))
 ·split at hc<;>first|(cases hc; done)|skip
  split at hc<;>first|(cases hc; done)|skip
  injection hc with hc
  subst hc
  simp[stepA]at h
 ·rename_i hcal
  split at hc<;>first|(cases hc; done)|skip
  rename_i xs hxs
  injection hc with hc
  subst hc
  exact mm_done ht hr o c ho false hcal (builtin_v ho hcal fun cs=>rfl) hxs h
 ·rename_i hcal
  split at hc<;>first|(cases hc; done)|skip
  rename_i xs hxs
  injection hc with hc
  subst hc
  exact mm_done ht hr o c ho true hcal (builtin_v ho hcal fun cs=>rfl) hxs h
 ·cases hc
end
end Go.AE
end
