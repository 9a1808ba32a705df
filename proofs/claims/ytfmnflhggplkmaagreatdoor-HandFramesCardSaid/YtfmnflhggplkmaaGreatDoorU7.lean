/- Part 7 of the proof: AeH, AeI. -/
import Derived.Test.YtfmnflhggplkmaaGreatDoorU6
import Derived.Laws.StructEq
import Derived.Lib.Strings
set_option linter.all false
section
namespace Go.AE
open Go.RowKit
section
variable {P:Program} {s:Sem Next} {W:Base} {Φ:Pers} {ρ:Rho} {id:Nat} {w w1:World} {m m':Mem} {x:AVal} {v:Value}
theorem asNat_R {y:AVal} {n:Nat} (h:R Φ ρ y v) (hn:asNat y=some n):∃ k,v=.int k (n:Int):=by
 cases h<;>simp only[asNat]at hn<;>try (cases hn; done)
 split at hn
 ·rename_i k z h0
  injection hn with hn
  subst hn
  exact⟨k,by rw[Int.toNat_of_nonneg h0]⟩
 ·cases hn
theorem cSize_spec {t:TypeId} {n:Nat} (h:cSize P t=some n):∃ i,P.info? t=some i∧i.size=n:=by
 unfold cSize at h
 cases hi:P.info? t with
 | none=>simp[hi]at h
 | some i=>exact ⟨i,rfl,by simpa[hi]using h⟩
theorem addA_R {y z:AVal} {off:Nat} (h:R Φ ρ y v) (ha:addA off y=some z):∃ B o,v=.pointer (some ⟨B,o,none⟩)∧R Φ ρ z (.pointer (some ⟨B,o+off,none⟩)):=by
 cases h with
 | ptr b i j l hl=>
  simp only[addA,Option.some.injEq]at ha
  subst ha
  refine⟨_,_,rfl,?_⟩
  have:=R.ptr (Φ:=Φ) (ρ:=ρ) b i (j+off) l hl
  rwa[← Nat.add_assoc]at this
 | iptr els i j B o k c f hB hk hc hr=>
  simp only[addA,Option.some.injEq]at ha
  subst ha
  refine⟨_,_,rfl,?_⟩
  have:=R.iptr (Φ:=Φ) (ρ:=ρ) els i (j+off) B o k c f hB hk hc hr
  rwa[← Nat.add_assoc]at this
 | _=>simp[addA]at ha
theorem ok_fieldA {t:TypeId} {fs:Array Field} {i n:Nat} {f:Field} {y z:AVal} (ht:P.underlying t=some (.struct fs)) (hf:fs[i]? = some f) (hn:cSize P f.type=some n) (h0:n≠0)
 (hy:R Φ ρ y v) (ha:addA f.offset y=some z):∃ u,(Instr.fieldAt t v i).run P w=.ok u w∧R Φ ρ z u:=by
 obtain⟨B,o,rfl,hz⟩:=addA_R hy ha
 obtain⟨inf,hi,hs⟩:=cSize_spec hn
 refine⟨_,?_,hz⟩
 simp only[Instr.fieldAt,Sem.run_bind,r_und ht,Result.andThen_ok,hf,Instr.sureAddr,Sem.run_pure,fieldPlace,r_size hi,hs]
 rw[if_neg h0]
 simp[Addr.add_none]
theorem partA_R {t:TypeId} {n:Option Nat} {cs:List AVal} {vs:Array Value} {off:Nat} {z:AVal} (hc:cLoad P t=some n) (h:RL Φ ρ cs vs) (hp:partA cs off n=some z) :
 ∃ u,(part t vs off).run P w=.ok u w∧R Φ ρ z u:=by
 obtain⟨d,i,hd,hi,hcase⟩:=cLoad_spec hc
 have hagg:=r_isAgg (w:=w) hd
 simp only[part,Sem.run_bind,hagg,Result.andThen_ok]
 rcases hcase with⟨rfl,hd'⟩|⟨rfl,hd'⟩
 ·rw[hd']
  simp only[partA]at hp
  split at hp
  ·rename_i hle
   injection hp with hp
   subst hp
   simp only[if_true,Sem.run_bind,r_size hi,Result.andThen_ok,Sem.run_pure]
   refine⟨_,rfl,.agg _ _ (by simp[h.1]; omega) fun q y u hy hu=>?_⟩
   have hq:q<i.size:=by
    have:=(List.getElem?_eq_some_iff.1 hy).1
    simp at this; omega
   rw[List.getElem?_take,if_pos hq,List.getElem?_drop]at hy
   rw[Array.getElem?_extract]at hu
   split at hu
   ·exact h.2 _ _ _ hy hu
   ·cases hu
  ·cases hp
 ·rw[hd']
  simp only[partA]at hp
  simp only[Bool.false_eq_true,if_false]
  have hlt:=(List.getElem?_eq_some_iff.1 hp).1
  have hv:vs[off]? = some (vs[off]'(by rw[h.1]; exact hlt)):=Array.getElem?_eq_getElem _
  rw[hv]
  exact⟨_,rfl,h.2 _ _ _ hp hv⟩
theorem agg_R {cs:List AVal} (h:R Φ ρ (.agg cs) v):∃ vs,v=.agg vs∧RL Φ ρ cs vs:=by
 cases h with
 | agg cs vs hs hr=>exact ⟨vs,rfl,hs,hr⟩
theorem ok_field {t:TypeId} {fs:Array Field} {i:Nat} {f:Field} {n:Option Nat} {cs:List AVal} {z:AVal} (ht:P.underlying t=some (.struct fs)) (hf:fs[i]? = some f) (hn:cLoad P f.type=some n)
 (hy:R Φ ρ (.agg cs) v) (ha:partA cs f.offset n=some z):∃ u,(Instr.field t v i).run P w=.ok u w∧R Φ ρ z u:=by
 obtain⟨vs,rfl,h⟩:=agg_R hy
 obtain⟨u,hu,hz⟩:=partA_R (P:=P) (w:=w) hn h ha
 refine⟨u,?_,hz⟩
 simp only[Instr.field,Sem.run_bind,r_und ht,Result.andThen_ok,hf,asAgg,Sem.run_pure,hu]
theorem ok_idxA {t e:TypeId} {k i:Nat} {y:AVal} {z:AVal} {vi:Value} {ki:IntKind} (hr:Rel W Φ ρ m w) (ht:P.underlying t=some (.slice e)) (hk:cSize P e=some k) (hy:R Φ ρ y v) (hi:vi=.int ki (i:Int))
 (h:(∃ b off len els,y=.sl b off len∧m.get b=some (.cells k els)∧i<len∧z=.ptr b (off+i) 0)∨(∃ els row,y=.imm els∧els[i]? = some row∧row.length=k∧z=.iptr els i 0)) :
 ∃ u,(Instr.indexAt t v vi).run P w=.ok u w∧R Φ ρ z u:=by
 subst hi
 obtain⟨inf,hinf,hs⟩:=cSize_spec hk
 rcases h with⟨b,off,len,els,rfl,hb,hlt,rfl⟩|⟨els,row,rfl,hrow,hlen,rfl⟩
 ·cases hy with
  | sl _ _ _ a cap l hl hle hn hcap hav=>
   have ha:=hcap (by omega)
   subst ha
   obtain⟨l',o,g1,g2,g3,g4,g5⟩:=hr.live b _ hb
   rw[hl]at g1; injection g1 with g1; subst g1
   have hkl:l.k=k:=by cases g5 with|cells _ _ _ c e hk' _ _ _ _=>exact hk'
   refine⟨_,?_,R.ptr b (off+i) 0 l hl⟩
   simp only[Instr.indexAt,asIntOf,Sem.run_bind,Sem.run_pure,Result.andThen_ok,r_und ht]
   rw[if_pos ⟨by omega,by omega⟩]
   simp only[Sem.run_bind,r_size hinf,Result.andThen_ok,Sem.run_pure,Int.toNat_natCast,Addr.add_none,hs]
   congr 4
   rw[hkl,← Nat.add_assoc,Nat.add_mul (l.sh+off) i]
   rfl
 ·cases hy with
  | imm0 a cap _=>simp at hrow
  | imm _ B o k' cap c f hne hcap hB hk' hc hrr=>
   have hlt:i<els.length:=(List.getElem?_eq_some_iff.1 hrow).1
   have hkk:k'=k:=by rw[← hk' i row hrow,hlen]
   subst hkk
   refine⟨_,?_,R.iptr els i 0 B o k' c f hB hk' hc hrr⟩
   simp only[Instr.indexAt,asIntOf,Sem.run_bind,Sem.run_pure,Result.andThen_ok,r_und ht]
   rw[if_pos ⟨by omega,by omega⟩]
   simp only[Sem.run_bind,r_size hinf,Result.andThen_ok,Sem.run_pure,Int.toNat_natCast,Addr.add_none,hs]
   rfl
theorem ok_idxAA {t e:TypeId} {n k i:Nat} {y z:AVal} {vi:Value} {ki:IntKind} (ht:P.underlying t=some (.array n e)) (hk:cSize P e=some k) (hy:R Φ ρ y v) (hi:vi=.int ki (i:Int)) (hlt:i<n)
 (ha:addA (i*k) y=some z):∃ u,(Instr.indexAt t v vi).run P w=.ok u w∧R Φ ρ z u:=by
 subst hi
 obtain⟨inf,hinf,hs⟩:=cSize_spec hk
 obtain⟨B,o,rfl,hz⟩:=addA_R hy ha
 refine⟨_,?_,hz⟩
 simp only[Instr.indexAt,asIntOf,Sem.run_bind,Sem.run_pure,Result.andThen_ok,r_und ht,Instr.sureAddr]
 rw[if_pos ⟨by omega,by omega⟩]
 simp only[Sem.run_bind,r_size hinf,Result.andThen_ok,Sem.run_pure,Int.toNat_natCast,Addr.add_none,hs]
theorem ok_idxStr {t:TypeId} {l:List UInt8} {i:Nat} {c:UInt8} {vi:Value} {ki:IntKind} (ht:P.underlying t=some .string) (hy:R Φ ρ (.str l) v) (hi:vi=.int ki (i:Int)) (hc:l[i]? = some c) :
 (Instr.index t v vi).run P w=.ok (.int .u8 c.toNat) w:=by
 subst hi
 cases hy with
 | str _=>
  simp only[Instr.index,asIntOf,Sem.run_bind,Sem.run_pure,Result.andThen_ok,r_und ht]
  rw[if_pos (by omega)]
  have:(ByteArray.mk ⟨l⟩)[(i:Int).toNat]? = some c:=by
   simp only[Int.toNat_natCast]
   have hlt:=(List.getElem?_eq_some_iff.1 hc).1
   have hlt':i<(ByteArray.mk ⟨l⟩).size:=hlt
   rw[getElem?_pos (ByteArray.mk ⟨l⟩) i hlt']
   rw[List.getElem?_eq_getElem hlt]at hc
   injection hc with hc
   subst hc
   rfl
  rw[this]
  rfl
theorem ok_idxArr {t e:TypeId} {n k i:Nat} {sz:Option Nat} {cs:List AVal} {z:AVal} {vi:Value} {ki:IntKind} (ht:P.underlying t=some (.array n e)) (hk:cSize P e=some k) (hsz:cLoad P e=some sz)
 (hy:R Φ ρ (.agg cs) v) (hi:vi=.int ki (i:Int)) (hlt:i<n) (ha:partA cs (i*k) sz=some z):∃ u,(Instr.index t v vi).run P w=.ok u w∧R Φ ρ z u:=by
 subst hi
 obtain⟨inf,hinf,hs⟩:=cSize_spec hk
 obtain⟨vs,rfl,h⟩:=agg_R hy
 obtain⟨u,hu,hz⟩:=partA_R (P:=P) (w:=w) hsz h ha
 refine⟨u,?_,hz⟩
 simp only[Instr.index,asIntOf,Sem.run_bind,Sem.run_pure,Result.andThen_ok,r_und ht]
 rw[if_pos ⟨by omega,by omega⟩]
 simp only[Sem.run_bind,r_size hinf,Result.andThen_ok,hs,Int.toNat_natCast]
 exact hu
end
end Go.AE
end
section
namespace Go.AE
open Go.RowKit
section
variable {P:Program} {s:Sem Next} {W:Base} {Φ:Pers} {ρ:Rho} {id:Nat} {w w1:World} {m m':Mem} {x:AVal} {v:Value}
theorem ok_sliceBound {y:AVal} {n mx:Nat} {code:BoundsCode} (h:R Φ ρ y v) (hn:asNat y=some n) (hle:n≤mx):(Instr.sliceBound v mx code).run P w=.ok n w:=by
 obtain⟨k,rfl⟩:=asNat_R h hn
 simp only[Instr.sliceBound,asIntOf,Sem.run_bind,Sem.run_pure,Result.andThen_ok]
 rw[if_pos ⟨by omega,by omega⟩]
 simp
def OptR (Φ:Pers) (ρ:Rho) (t:List AVal) (ao:Option AOpd) (vo:Option Value):Prop:=
 match ao,vo with
 | none,none=>True
 | some y,some u=>R Φ ρ (ev t y) u
 | _,_=>False
theorem cOpt_R {t:List AVal} {a:Act} (h:RL Φ ρ t a.tmps) {o:Option Operand} {ao:Option AOpd} (ho:cOpt o=some ao):OptR Φ ρ t ao (o.map a.eval):=by
 cases o with
 | none=>
  simp only[cOpt,Option.some.injEq]at ho
  subst ho
  trivial
 | some y=>
  simp only[cOpt]at ho
  cases hy:cOpd y with
  | none=>simp[hy]at ho
  | some z=>
   simp only[hy,Option.some.injEq]at ho
   subst ho
   exact ev_R h hy
theorem ok_bounds {t:List AVal} {len mxlen cap l h:Nat} {lo hi:Option AOpd} {vlo vhi:Option Value} {b:Bool} (hlo:OptR Φ ρ t lo vlo) (hhi:OptR Φ ρ t hi vhi) (hs:slBounds t len mxlen lo hi=some (l,h))
 (hc:mxlen≤cap):(Instr.sliceBounds b len cap vlo vhi none).run P w=.ok (l,h,cap) w∧l≤h∧h≤mxlen:=by
 unfold slBounds at hs
 cases hh:optNat t len hi with
 | none=>simp[hh]at hs
 | some h'=>
  simp only[hh]at hs
  split at hs
  ·rename_i hle
   cases hl:optNat t 0 lo with
   | none=>simp[hl]at hs
   | some l'=>
    simp only[hl]at hs
    split at hs
    ·rename_i hle2
     simp only[Option.some.injEq,Prod.mk.injEq]at hs
     obtain⟨rfl,rfl⟩:=hs
     refine⟨?_,hle2,hle⟩
     have e1:(vhi=none∧len=h') ∨ ∃ u,vhi=some u ∧ ∀(code:BoundsCode),(Instr.sliceBound u cap code).run P w=.ok h' w:=by
      cases hi with
      | none=>
       cases vhi with
       | none=>simp only[optNat,Option.some.injEq]at hh; exact .inl ⟨rfl,hh⟩
       | some u=>exact hhi.elim
      | some y=>
       cases vhi with
       | none=>exact hhi.elim
       | some u=>exact .inr ⟨u,rfl,fun code=>ok_sliceBound hhi hh (by omega)⟩
     have e2:(vlo=none∧0=l') ∨ ∃ u,vlo=some u ∧ ∀(code:BoundsCode),(Instr.sliceBound u h' code).run P w=.ok l' w:=by
      cases lo with
      | none=>
       cases vlo with
       | none=>simp only[optNat,Option.some.injEq]at hl; exact .inl ⟨rfl,hl⟩
       | some u=>exact hlo.elim
      | some y=>
       cases vlo with
       | none=>exact hlo.elim
       | some u=>exact .inr ⟨u,rfl,fun code=>ok_sliceBound hlo hl (by omega)⟩
     rcases e1 with⟨rfl,rfl⟩|⟨u1,rfl,e1⟩<;>rcases e2 with⟨rfl,rfl⟩|⟨u2,rfl,e2⟩ <;>
      simp only[Instr.sliceBounds,Sem.run_bind,Sem.run_pure,Result.andThen_ok, *]
    ·cases hs
  ·cases hs
theorem slice_run {t e:TypeId} {k:Nat} {a:Option Addr} {len cap l h:Nat} {vlo vhi vmx:Option Value} {mc:Nat} (ht:P.underlying t=some (.slice e)) (hk:cSize P e=some k)
 (hb:(Instr.sliceBounds true len cap vlo vhi vmx).run P w=.ok (l,h,mc) w) :
 (Instr.sliceAt t (.slice a len cap) vlo vhi vmx).run P w=.ok (.slice (if mc=l then a else a.map (·.add (l*k))) (h - l) (mc - l)) w:=by
 obtain⟨inf,hinf,hs⟩:=cSize_spec hk
 simp only[Instr.sliceAt,Instr.slice,Sem.run_bind,r_und ht,Result.andThen_ok,hb,r_size hinf,hs,Sem.run_pure]
theorem rows_k {els:List (List AVal)} {k:Nat} (h:(els.all fun r=>r.length == k)=true) (i:Nat) (row:List AVal) (hi:els[i]? = some row):row.length=k:=by
 have:=List.all_eq_true.1 h row (List.mem_of_getElem? hi)
 simpa using this
theorem imm_part {els:List (List AVal)} {k l h len cap:Nat} {a:Option Addr} (hy:R Φ ρ (.imm els) (.slice a len cap)) (hall:(els.all fun r=>r.length == k)=true) (hl:l≤h) (hh:h≤els.length) :
 R Φ ρ (.imm ((els.take h).drop l)) (.slice (if cap=l then a else a.map (·.add (l*k))) (h - l) (cap - l)):=by
 by_cases he:(els.take h).drop l=[]
 ·have hlen:h - l=0:=by
   have:=congrArg List.length he
   simp at this
   omega
  rw[he,hlen]
  refine .imm0 _ _ fun hp=>?_
  rw[if_neg (by omega)]
  cases hy with
  | imm0 a cap hz=>
   obtain⟨B,o,rfl⟩:=hz (by omega)
   exact⟨B,o+l*k,by simp only[Option.map_some,Addr.add_none]⟩
  | imm _ B o k' cap c f hne hcap hB hk' hc hrr=>exact ⟨B,o+l*k,by simp only[Option.map_some,Addr.add_none]⟩
 ·have hlt:l<h:=by
   rcases Nat.lt_or_ge l h with h1|h1
   ·exact h1
   ·exfalso
    apply he
    apply List.eq_nil_of_length_eq_zero
    simp; omega
  cases hy with
  | imm0 a cap _=>simp at hh; omega
  | imm _ B o k' cap c f hne hcap hB hk' hc hrr=>
   have hkk:k'=k:=by
    have hpos:0<els.length:=by omega
    have e1:=hk' 0 _ (List.getElem?_eq_getElem hpos)
    have e2:=rows_k hall 0 _ (List.getElem?_eq_getElem hpos)
    omega
   subst hkk
   rw[if_neg (by omega)]
   simp only[Option.map_some,Addr.add_none]
   have hget:∀ (i:Nat) (row:List AVal),((els.take h).drop l)[i]? = some row→els[l+i]? = some row:=by
    intro i row hi
    rw[List.getElem?_drop,List.getElem?_take]at hi
    split at hi
    ·exact hi
    ·cases hi
   have hlen:h - l=((els.take h).drop l).length:=by simp; omega
   rw[hlen]
   refine .imm _ B (o+l*k') k' (cap - l) c (fun i j=>f (l+i) j) he (by simp; omega) hB (fun i row hi=>hk' _ row (hget i row hi)) (fun i row j y hi hj=>?_) (fun i row j y hi hj=>hrr _ row j y (hget i row hi) hj)
   have:=hc (l+i) row j y (hget i row hi) hj
   refine⟨?_,this.2⟩
   rw[← this.1]
   congr 1
   rw[Nat.add_mul]; omega
theorem ok_slSl {t e:TypeId} {k:Nat} {tl:List AVal} {y:AVal} {lo hi:Option AOpd} {vlo vhi:Option Value} {z:AVal} {m2:Mem} (hr:Rel W Φ ρ m w) (ht:P.underlying t=some (.slice e)) (hk:cSize P e=some k) (hy:R Φ ρ y v)
 (hlo:OptR Φ ρ tl lo vlo) (hhi:OptR Φ ρ tl hi vhi)
 (h:(y=.nilSl∧(∃ lh,slBounds tl 0 0 lo hi=some lh)∧z=.nilSl∧m2=m)∨(y=.emp∧(∃ lh,slBounds tl 0 0 lo hi=some lh)∧z=.emp∧m2=m) ∨
   (∃ els l h,y=.imm els∧(els.all fun r=>r.length == k)=true∧slBounds tl els.length els.length lo hi=some (l,h)∧z=.imm ((els.take h).drop l)∧m2=m) ∨
   (∃ b off len els l h,y=.sl b off len∧m.get b=some (.cells k els)∧off+len≤els.length∧slBounds tl len (els.length - off) lo hi=some (l,h)∧z=.sl b (off+l) (h - l)∧m2=m)) :
 m2=m ∧ ∃ u,(Instr.sliceAt t v vlo vhi none).run P w=.ok u w∧R Φ ρ z u:=by
 rcases h with⟨rfl,⟨⟨l,h⟩,hb⟩,rfl,rfl⟩|⟨rfl,⟨⟨l,h⟩,hb⟩,rfl,rfl⟩|⟨els,l,h,rfl,hall,hb,rfl,rfl⟩|⟨b,off,len,els,l,h,rfl,hg,hle,hb,rfl,rfl⟩
 ·refine⟨rfl,?_⟩
  cases hy
  obtain⟨hb1,h1,h2⟩:=ok_bounds (P:=P) (w:=w) (b:=true) (cap:=0) hlo hhi hb (Nat.le_refl _)
  obtain rfl:h=0:=by omega
  obtain rfl:l=0:=by omega
  exact⟨_,slice_run ht hk hb1,.nilSl⟩
 ·refine⟨rfl,?_⟩
  cases hy with
  | emp a=>
   obtain⟨hb1,h1,h2⟩:=ok_bounds (P:=P) (w:=w) (b:=true) (cap:=0) hlo hhi hb (Nat.le_refl _)
   obtain rfl:h=0:=by omega
   obtain rfl:l=0:=by omega
   exact⟨_,slice_run ht hk hb1,.emp _⟩
 ·refine⟨rfl,?_⟩
  have hv:∃ a cap,v=.slice a els.length cap∧els.length≤cap:=by
   cases hy with
   | imm0 a cap _=>exact ⟨_,_,rfl,Nat.zero_le _⟩
   | imm _ B o k' cap c f hne hcap hB hk' hc hrr=>exact ⟨_,_,rfl,hcap⟩
  obtain⟨a,cap,rfl,hcap⟩:=hv
  obtain⟨hb1,h1,h2⟩:=ok_bounds (P:=P) (w:=w) (b:=true) (cap:=cap) hlo hhi hb hcap
  exact⟨_,slice_run ht hk hb1,imm_part hy hall h1 h2⟩
 ·refine⟨rfl,?_⟩
  cases hy with
  | sl _ _ _ a cap lc hl hlc hn2 hcap hav=>
   obtain⟨l',o,g1,g2,g3,g4,g5⟩:=hr.live b _ hg
   rw[hl]at g1; injection g1 with g1; subst g1
   cases g5 with
   | cells _ _ _ c e' hk' hn hlen hrows _=>
    have hmx:els.length - off≤cap:=by omega
    obtain⟨hb1,h1,h2⟩:=ok_bounds (P:=P) (w:=w) (b:=true) (cap:=cap) hlo hhi hb hmx
    refine⟨_,slice_run ht hk hb1,.sl b (off+l) (h - l) _ (cap - l) lc hl (by omega) (by omega) (fun hpos=>?_) (by split<;>simp[hav])⟩
    have ha:=hcap (by omega)
    subst ha
    rw[if_neg (by omega)]
    simp only[Option.map_some,Addr.add_none]
    congr 2
    rw[← Nat.add_assoc,Nat.add_mul (lc.sh+off) l,hk']
theorem extract_mk (l:List UInt8) (a b:Nat):(ByteArray.mk ⟨l⟩).extract a b=⟨⟨(l.take b).drop a⟩⟩:=by
 have h1:=Lib.extract_data (ByteArray.mk ⟨l⟩) a b
 cases h:(ByteArray.mk ⟨l⟩).extract a b with
 | mk d=>
  rw[h]at h1
  have h2:d.toList=(l.take b).drop a:=by rw[List.drop_take]; simpa using h1
  cases d
  simp at h2
  rw[h2]
theorem ok_slStr {t:TypeId} {tl:List AVal} {l:List UInt8} {lo hi:Option AOpd} {vlo vhi:Option Value} {a b:Nat} (ht:P.underlying t=some .string) (hy:R Φ ρ (.str l) v)
 (hlo:OptR Φ ρ tl lo vlo) (hhi:OptR Φ ρ tl hi vhi) (hb:slBounds tl l.length l.length lo hi=some (a,b)) :
 ∃ u,(Instr.sliceAt t v vlo vhi none).run P w=.ok u w∧R Φ ρ (.str ((l.take b).drop a)) u:=by
 cases hy with
 | str _=>
  obtain⟨hb1,h1,h2⟩:=ok_bounds (P:=P) (w:=w) (b:=false) (cap:=l.length) hlo hhi hb (Nat.le_refl _)
  refine⟨_,?_,.str _⟩
  have hsz:(ByteArray.mk ⟨l⟩).size=l.length:=rfl
  simp only[Instr.sliceAt,Instr.slice,Sem.run_bind,r_und ht,Result.andThen_ok,Option.isSome_none,Bool.false_eq_true,if_false,Sem.run_pure,hsz,hb1,extract_mk]
end
end Go.AE
end
