/- Part 12 of the proof: AeO. -/
import Derived.Test.YtfmnflhggplkmaaGreatDoorU11
import Derived.Laws.Small
set_option linter.all false
namespace Go.AE
open Go.RowKit
section
variable {P:Program} {s:Sem Next} {W:Base} {Φ:Pers} {ρ:Rho} {id:Nat} {w w1:World} {m m':Mem} {x:AVal} {v:Value}
theorem copy_done {t ty:TypeId} {k:Nat} {b:Nat} {z:List AVal} {u:TypeId} {vd vs:Value} {xs:List (List AVal)} {yx:AVal} {bb off len:Nat} {els:List (List AVal)} (hr:Rel W Φ ρ m w)
 (he:cElem P t=some (k,b,z)) (hy:R Φ ρ (.sl bb off len) vd) (hx:R Φ ρ yx vs) (hsrc:srcRows m k yx=some xs) (hg:m.get bb=some (.cells k els)) (hol:off+len≤els.length)
 (hs:∀ u' w',(Builtin.copy_ #[t,u] ty #[vd,vs]).run P w=.ok u' w'→s.run P w=.ok (.value u') w') :
 Done P s W Φ ρ id w (.int .i64 (min xs.length len:Nat)) (m.set bb (.cells k (els.take off++xs.take (min xs.length len)++els.drop (off+min xs.length len)))):=by
 obtain⟨e,i,ht,hi,hsz,hb,hz,hzl,hk0⟩:=cElem_spec he
 subst hsz
 obtain⟨arr,hl,hf,harr,hrows⟩:=src_ok hr hx hsrc hk0
 cases hy with
 | sl _ _ _ a cap l hl' hle hcn hcap hav=>
  obtain⟨l',ob,g1,g2,g3,g4,g5⟩:=hr.live bb _ hg
  rw[hl']at g1; injection g1 with g1; subst g1
  cases g5 with
  | cells _ _ _ c e' hk2 hcs hlen hrowsb h1b=>
   obtain⟨n,hn⟩:∃ n,min xs.length len=n:=⟨_,rfl⟩
   rw[hn]
   have hnx:n≤xs.length:=by omega
   have hnl:n≤len:=by omega
   have hfn:=hf n hnx
   have harrn:(arr.extract 0 (n*i.size)).size=(xs.take n).length*i.size:=by
    have:n*i.size≤xs.length*i.size:=Nat.mul_le_mul_right _ hnx
    simp only[Array.size_extract,harr,List.length_take]
    rw[Nat.min_eq_left hnx]; omega
   have hrown:RowsIn Φ ρ (xs.take n) 0 i.size (arr.extract 0 (n*i.size)):=by
    refine⟨fun q row hq=>?_,fun q row j y hq hj=>?_⟩
    ·rw[List.getElem?_take]at hq
     split at hq
     ·exact hrows.1 _ _ hq
     ·cases hq
    ·rw[List.getElem?_take]at hq
     split at hq
     ·rename_i hqn
      obtain⟨uu,k1,k2,k3⟩:=hrows.2 _ row j y hq hj
      have hj2:j<i.size:=by
       have:=(List.getElem?_eq_some_iff.1 hj).1
       rw[hrows.1 _ row hq]at this; exact this
      have hlt:=mul_lt hqn hj2
      have hle2:n*i.size≤xs.length*i.size:=Nat.mul_le_mul_right _ hnx
      refine⟨uu,?_,k2,k3⟩
      rw[Nat.zero_add]at k1 ⊢
      rw[Array.getElem?_extract,if_pos (by omega),← k1]
      congr 1; omega
     ·cases hq
   have hnl2:(xs.take n).length=n:=by simp; omega
   have hst:=store_behind (P:=P) (a:=a) (len:=0) (cap:=cap) (n:=n) (off:=off) (e':=e') (size:=i.size) g4 (by rw[hcs,hk2]) hcn hcap (by omega) hk2.symm (by rw[harrn,hnl2,hk2]) (rows_one hrown harrn hk0)
   simp only[Nat.add_zero,Nat.zero_mul]at hst
   have hrun:(Builtin.copy_ #[t,u] ty #[.slice a len cap,vs]).run P w=.ok (.int .i64 (n:Nat)) (putBlk w l.blk (.cells (setFrom c ((l.sh+off)*l.k) (arr.extract 0 (n*i.size)).toList) e' (0,0))):=by
    unfold Builtin.copy_
    simp only[Sem.run_bind,List.getElem?_toArray,List.getElem?_cons_zero,List.getElem?_cons_succ,r_und ht,Result.andThen_ok,r_size hi]
    rw[hl]
    have hmin:Nat.min xs.length len=n:=hn
    simp only[Sem.run_bind,Result.andThen_ok,hmin,hfn]
    cases a with
    | none=>simp only at hst; rw[hst]; rfl
    | some a=>
     have ha0:a.add 0=a:=by simp[Addr.add]
     simp only at hst
     rw[ha0]at hst
     simp only[Sem.run_bind,hst,Result.andThen_ok]; rfl
   have hone:=rows_one hrown harrn hk0
   rw[← hk2]at hrown harrn hrowsb hcs
   have hsp:=rowsIn_splice (p:=off) hrowsb hcs (by omega) (by omega) hrown harrn
   rw[hnl2,hk2]at hsp
   refine Done.updV (hs _ _ hrun) hr hg hl' (.cells _ _ _ _ _ hk2 (by rw[setFrom_size,hcs,hk2]) ?_ (by rw[hk2]; exact hsp) (setFrom_one _ _ _ h1b hone)) (.int _ _)
   simp only[List.length_append,List.length_take,List.length_drop]
   omega
theorem clear_done {t ty:TypeId} {k b:Nat} {z:List AVal} {vx:Value} {yx:AVal} {r:Mem} (hr:Rel W Φ ρ m w) (he:cElem P t=some (k,b,z)) (hy:R Φ ρ yx vx)
 (h:(∃ bb off len els,yx=.sl bb off len∧m.get bb=some (.cells k els)∧off+len≤els.length∧r=m.set bb (.cells k (els.take off++List.replicate len z++els.drop (off+len))))∨((yx=.nilSl∨yx=.emp)∧r=m))
 (hs:∀ u' w',(Builtin.clear_ #[t] ty #[vx]).run P w=.ok u' w'→s.run P w=.ok (.value u') w'):Done P s W Φ ρ id w aundef r:=by
 obtain⟨e,i,ht,hi,hsz,hb,hz,hzl,hk0⟩:=cElem_spec he
 subst hsz
 obtain⟨i',zv,y,h1,h2,h3,h4,h5⟩:=cZeros_R hz Φ ρ
 rw[hi]at h1; injection h1 with h1; subst h1
 have hzc:=h3.cells_R h4
 rcases h with⟨bb,off,len,els,rfl,hg,hol,rfl⟩|⟨hy0,rfl⟩
 ·cases hy with
  | sl _ _ _ a cap l hl' hle hcn hcap hav=>
   obtain⟨l',ob,g1,g2,g3,g4,g5⟩:=hr.live bb _ hg
   rw[hl']at g1; injection g1 with g1; subst g1
   cases g5 with
   | cells _ _ _ c e' hk2 hcs hlen hrowsb h1b=>
    have hzn:zv.cells.size=i.size:=by rw[hzc.1,hzl]
    have hrown:=rowsIn_zero (len:=len) hzc h5 hzl hk0
    have hzsz:((Array.range (len*i.size)).map fun q=>zv.cells[q % zv.cells.size]!).size=(List.replicate len z).length*i.size:=by simp
    have hzero:Builtin.zeroCells zv.cells len=(Array.range (len*i.size)).map fun q=>zv.cells[q % zv.cells.size]!:=by simp only[Builtin.zeroCells,hzn]
    have hst:=store_behind (P:=P) (a:=a) (len:=0) (cap:=cap) (n:=len) (off:=off) (e':=e') (size:=i.size) g4 (by rw[hcs,hk2]) hcn hcap (by omega) hk2.symm (by rw[hzsz,hk2]; simp) (rows_one hrown hzsz hk0)
    simp only[Nat.add_zero,Nat.zero_mul]at hst
    have hone:=rows_one hrown hzsz hk0
    rw[← hk2]at hrown hzsz hrowsb hcs
    have hsp:=rowsIn_splice (p:=off) hrowsb hcs (by omega) (by simp; omega) hrown hzsz
    rw[List.length_replicate]at hsp
    have hrun:(Builtin.clear_ #[t] ty #[.slice a len cap]).run P w=.ok (.tuple #[]) (putBlk w l.blk (.cells (setFrom c ((l.sh+off)*l.k) ((Array.range (len*i.size)).map fun q=>zv.cells[q % zv.cells.size]!).toList) e' (0,0))):=by
     unfold Builtin.clear_
     simp only[Sem.run_bind,List.getElem?_toArray,List.getElem?_cons_zero,r_und ht,Result.andThen_ok]
     cases a with
     | none=>simp only at hst; rw[hst]; rfl
     | some a=>
      have ha0:a.add 0=a:=by simp[Addr.add]
      simp only at hst
      rw[ha0]at hst
      cases len with
      | zero=>
       have e0:((Array.range (0*i.size)).map fun q=>zv.cells[q % zv.cells.size]!) = #[]:=by simp
       rw[e0]at hst ⊢
       simp only[setFrom,putBlk_self g4]
       rfl
      | succ n=>
       simp only[Sem.run_bind,r_zero hi h2,Result.andThen_ok,hzero,hst]; rfl
    have hfin:Done P s W Φ ρ id w aundef (m.set bb (.cells i.size (els.take off++List.replicate len z++els.drop (off+len)))):=by
     refine Done.updV (v:=.tuple #[]) (hs _ _ hrun) hr hg hl' (.cells _ _ _ _ _ hk2 (by rw[setFrom_size,hcs,hk2]) ?_ (by rw[← hk2]; exact hsp) (setFrom_one _ _ _ h1b hone)) (R_undef _ _)
     simp only[List.length_append,List.length_take,List.length_drop,List.length_replicate]
     omega
    exact hfin
 ·have hrun:(Builtin.clear_ #[t] ty #[vx]).run P w=.ok (.tuple #[]) w:=by
   unfold Builtin.clear_
   simp only[Sem.run_bind,List.getElem?_toArray,List.getElem?_cons_zero,r_und ht,Result.andThen_ok]
   rcases hy0 with rfl|rfl
   ·cases hy; rfl
   ·cases hy with
    | emp a=>cases a<;>rfl
  exact Done.val (hs _ _ hrun) hr (R_undef _ _)
def EntR (Φ:Pers) (ρ:Rho) (es:List (AVal×AVal×Nat)) (en:List MapEntry):Prop:=
 en.length=es.length ∧ ∀(i:Nat) (x:AVal×AVal×Nat),es[i]? = some x → ∃ y:MapEntry,en[i]? = some y∧R Φ ρ x.1 y.key∧R Φ ρ x.2.1 y.val∧y.born=x.2.2
theorem EntR.tail {x:AVal×AVal×Nat} {y:MapEntry} {es:List (AVal×AVal×Nat)} {en:List MapEntry} (h:EntR Φ ρ (x :: es) (y :: en)):EntR Φ ρ es en:=
 ⟨by simpa using h.1,fun i z hz=>by simpa using h.2 (i+1) z (by simpa using hz)⟩
theorem sameNow_run {kt:KeyT} {key:TypeId} {d:TypeDesc} {y z:AVal} {vy vz:Value} {b:Bool} (hu:P.underlying key=some d) (hk:cKey P key=some kt) (hy:R Φ ρ y vy) (hz:R Φ ρ z vz) (h:keyEq kt y z=some b):Instr.sameNow d vy vz=some b:=by
 unfold cKey at hk
 rw[hu]at hk
 cases d<;>simp only at hk<;>first|(cases hk; done)|(injection hk with hk; subst hk)
 all_goals (cases y<;>cases z<;>simp only[keyEq]at h<;>first|(cases h; done)|skip)
 ·injection h with h; subst h
  rw[bool_R hy,bool_R hz]; rfl
 ·split at h
  ·rename_i hkk
   injection h with h; subst h; subst hkk
   rw[int_R hy,int_R hz]
   simp[Instr.sameNow]
  ·cases h
 ·injection h with h; subst h
  rw[str_R hy,str_R hz]
  simp only[Instr.sameNow]
  rw[beq_toListBytes,toList_mk,toList_mk]
theorem findNow_run {kt:KeyT} {key:TypeId} {d:TypeDesc} {y:AVal} {vy:Value} (hu:P.underlying key=some d) (hk:cKey P key=some kt) (hy:R Φ ρ y vy):∀ (es:List (AVal×AVal×Nat)) (en:List MapEntry) (r:Option (Nat×AVal×Nat)) (q:Nat),EntR Φ ρ es en →
 findA kt y es=some r→(r=none∧Instr.findNow d vy en q=some none)∨(∃ i z born e,r=some (i,z,born)∧en[i]? = some e∧(∃ kk,es[i]? = some (kk,z,born)∧keyEq kt y kk=some true)∧Instr.findNow d vy en q=some (some (q+i,e.val)))
 | [],[],r,q,_,hf=>by
  simp only[findA,Option.some.injEq]at hf
  exact .inl ⟨hf.symm,rfl⟩
 | [],e :: en,r,q,h,_=>by have:=h.1; simp at this
 | x :: es,[],r,q,h,_=>by have:=h.1; simp at this
 | (k0,z0,b0) :: es,e :: en,r,q,h,hf=>by
  obtain⟨e',h1,h2,h3,h4⟩:=h.2 0 (k0,z0,b0) rfl
  simp only[List.getElem?_cons_zero,Option.some.injEq]at h1
  subst h1
  simp only[findA]at hf
  cases hkey:keyEq kt y k0 with
  | none=>simp[hkey]at hf
  | some b=>
   have hsn:=sameNow_run hu hk hy h2 hkey
   cases b with
   | true=>
    simp only[hkey,Option.some.injEq]at hf
    refine .inr ⟨0,z0,b0,e,hf.symm,rfl,⟨k0,rfl,hkey⟩,?_⟩
    simp only[Instr.findNow,hsn]
    rfl
   | false=>
    simp only[hkey]at hf
    cases hr:findA kt y es with
    | none=>simp[hr]at hf
    | some r'=>
     rcases findNow_run hu hk hy es en r' (q+1) h.tail hr with⟨rfl,hfn⟩|⟨i,z,born,e2,rfl,he2,⟨kk,hkk,hkq⟩,hfn⟩
     ·simp only[hr,Option.some.injEq]at hf
      exact .inl ⟨hf.symm,by simp only[Instr.findNow,hsn,hfn]⟩
     ·simp only[hr,Option.some.injEq]at hf
      refine .inr ⟨i+1,z,born,e2,hf.symm,by simpa using he2,⟨kk,by simpa using hkk,hkq⟩,?_⟩
      simp only[Instr.findNow,hsn,hfn]
      congr 3
      omega
theorem checkKey_run {kt:KeyT} {key:TypeId} {y:AVal} {vy:Value} (b:Bool) (hk:cKey P key=some kt):(Instr.checkKey b 10000 key vy).run P w=.ok () w:=by
 have e:∀ n,(Instr.checkKey b (n+1) key vy).run P w=.ok () w:=by
  intro n
  unfold cKey at hk
  cases hu:P.underlying key with
  | none=>simp[hu]at hk
  | some d=>
   cases d<;>simp only[hu]at hk<;>first|(cases hk; done)|(simp only[Instr.checkKey,Sem.run_bind,r_und hu,Result.andThen_ok]; rfl)
 exact e 9999
theorem EntR_of {es:List (AVal×AVal×Nat)} {en:Array MapEntry} (hs:en.size=es.length) (hr:∀ (i:Nat) (x:AVal×AVal×Nat),es[i]? = some x → ∃ y:MapEntry,en[i]? = some y∧R Φ ρ x.1 y.key∧R Φ ρ x.2.1 y.val∧y.born=x.2.2):EntR Φ ρ es en.toList:=
 ⟨by simpa using hs,fun i x hx=>by simpa using hr i x hx⟩
theorem ok_lookup {t key e:TypeId} {kt:KeyT} {zero:AVal} {y yk:AVal} {vk:Value} {es:List (AVal×AVal×Nat)} {r:Option (Nat×AVal×Nat)} {ok:Bool} (hr:Rel W Φ ρ m w) (ht:P.underlying t=some (.map key e)) (hk:cKey P key=some kt) (hz:cZero P e=some zero)
 (hy:R Φ ρ y v) (hyk:R Φ ρ yk vk) (hm:(y=.nilMap∧es=[])∨(∃ b c,y=.map b∧m.get b=some (.map es c))) (hf:findA kt yk es=some r) :
 ∃ u,(Instr.lookup t v vk ok).run P w=.ok u w∧R Φ ρ (if ok then .tuple [match r with|some (_,z,_)=>z|none=>zero,.bool r.isSome]else match r with|some (_,z,_)=>z|none=>zero) u:=by
 have hzero:∃ i zv,P.info? e=some i∧i.zero=some zv∧R Φ ρ zero zv:=by
  unfold cZero at hz
  cases hi:P.info? e with
  | none=>simp[hi]at hz
  | some i=>
   cases hzz:i.zero with
   | none=>simp[hi,hzz]at hz
   | some zv=>simp only[hi,hzz]at hz; exact⟨i,zv,rfl,hzz,absV_R Φ ρ hz⟩
 obtain⟨i,zv,hi,hzz,hzr⟩:=hzero
 cases hu:P.underlying key with
 | none=>simp[cKey,hu]at hk
 | some d=>
  have main:∀ (en:Array MapEntry),EntR Φ ρ es en.toList → ∃ u,(do
   Instr.checkKey en.isEmpty 10000 key vk
   let (v,ok') ← match ← Instr.findKey key vk en.toList with
    | some (_,v)=>pure (v,true)
    | none=>pure (← zeroValue e,false)
   pure (if ok then Value.tuple #[v,.bool ok']else v):Sem Value).run P w=.ok u w∧R Φ ρ (if ok then .tuple [match r with|some (_,z,_)=>z|none=>zero,.bool r.isSome]else match r with|some (_,z,_)=>z|none=>zero) u:=by
   intro en hen
   have two:∀ (a b:AVal) (va vb:Value),R Φ ρ a va→R Φ ρ b vb→R Φ ρ (.tuple [a,b]) (.tuple #[va,vb]):=fun a b va vb ha hb=>.tuple _ _ rfl fun i x u hx hu=>by
    cases i with
    | zero=>simp at hx hu; subst hx; subst hu; exact ha
    | succ i=>
     cases i with
     | zero=>simp at hx hu; subst hx; subst hu; exact hb
     | succ i=>simp at hx
   rcases findNow_run hu hk hyk es en.toList r 0 hen hf with⟨rfl,hfn⟩|⟨q,z,born,e2,rfl,he2,⟨kk,hkk,_⟩,hfn⟩
   ·have hfk:(Instr.findKey key vk en.toList).run P w=.ok none w:=by
     simp only[Instr.findKey,Sem.run_bind,r_und hu,Result.andThen_ok,hfn,Sem.run_pure]
    simp only[Sem.run_bind,checkKey_run (y:=yk) _ hk,Result.andThen_ok,hfk,r_zero hi hzz,Sem.run_pure]
    cases ok
    ·exact⟨_,rfl,hzr⟩
    ·exact⟨_,rfl,two _ _ _ _ hzr (.bool _)⟩
   ·have hfk:(Instr.findKey key vk en.toList).run P w=.ok (some (0+q,e2.val)) w:=by
     simp only[Instr.findKey,Sem.run_bind,r_und hu,Result.andThen_ok,hfn,Sem.run_pure]
    obtain⟨e3,h1,h2,h3,h4⟩:=hen.2 q _ hkk
    rw[he2]at h1; injection h1 with h1; subst h1
    simp only[Sem.run_bind,checkKey_run (y:=yk) _ hk,Result.andThen_ok,hfk,Sem.run_pure]
    cases ok
    ·exact⟨_,rfl,h3⟩
    ·exact⟨_,rfl,two _ _ _ _ h3 (.bool _)⟩
  rcases hm with⟨rfl,rfl⟩|⟨b,c,rfl,hg⟩
  ·cases hy
   obtain⟨u,h1,h2⟩:=main #[] ⟨rfl,fun i x hx=>by simp at hx⟩
   exact⟨u,Eq.trans (by simp only[Instr.lookup,Sem.run_bind,r_und ht,Result.andThen_ok,Sem.run_pure]; rfl) h1,h2⟩
  ·cases hy with
   | map _ l hl=>
    obtain⟨l',ob,g1,g2,g3,g4,g5⟩:=hr.live b _ hg
    rw[hl]at g1; injection g1 with g1; subst g1
    cases g5 with
    | map _ clock _ en hs hrr=>
     obtain⟨u,h1,h2⟩:=main en (EntR_of hs hrr)
     refine⟨u,?_,h2⟩
     have hget:(getObj l.blk).run P w=.ok (.map en c) w:=by simp only[getObj,Sem.run,g4]
     exact Eq.trans (by simp only[Instr.lookup,Sem.run_bind,r_und ht,Result.andThen_ok,Sem.run_pure,hget]; rfl) h1
end
end Go.AE
