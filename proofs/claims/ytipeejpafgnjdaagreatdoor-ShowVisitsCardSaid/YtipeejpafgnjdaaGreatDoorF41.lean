/- Part 41 of the proof: AeSo, ShSo. -/
import Derived.Test.YtipeejpafgnjdaaGreatDoorF31
import Derived.Shelf.SlSortCmp.NoneTotal
import Derived.Test.YtipeejpafgnjdaaGreatDoorProg
set_option linter.all false
section
namespace Go.AE
open Go.RowKit Go.Sort Go.Shelf Go.Proofs
structure RowEnc {α:Type} (enc:α→List Value) (encA:α→List AVal) (k:Nat):Prop where
 pos:0<k
 len:∀ x,(enc x).length=k
 lenA:∀ x,(encA x).length=k
 one:∀ x,∀ v∈enc x,v.oneCell'=true
 rel:∀ (Φ:Pers) (ρ:Rho) (x:α) (j:Nat) (y:AVal) (v:Value),(encA x)[j]? = some y→(enc x)[j]? = some v→R Φ ρ y v
 det:∀ (Φ:Pers) (ρ:Rho) (x:α) (j:Nat) (y:AVal) (v v':Value),(encA x)[j]? = some y→(enc x)[j]? = some v→R Φ ρ y v'→v'=v
theorem rel_ahead {W:Base} {Φ:Pers} {ρ:Rho} {m:Mem} {w:World} (h:Rel W Φ ρ m w) (n:Nat):Rel W Φ ρ m (Sort.ahead w n):=
 h.below ⟨rfl,rfl,rfl,Nat.le_refl _,fun _ _=>rfl⟩
theorem rel_grow {W:Base} {Φ:Pers} {ρ:Rho} {m:Mem} {w:World} (h:Rel W Φ ρ m w) (os:Array Obj):Rel W Φ ρ m (Sort.grow w os):=
 h.below ⟨rfl,rfl,rfl,by simp,fun k hk=>by
  show(w.heap++os)[k]? = w.heap[k]?
  rw [Array.getElem?_append,if_pos hk]⟩
theorem mapBlock_put {w:World} {B:Nat} {f:Array Value→Array Value} {c:Array Value} {e:TypeId} {fr:Nat×Nat} (h:w.heap[B]? = some (.cells c e fr)):mapBlock w B f=putBlk w B (.cells (f c) e fr):=by
 unfold mapBlock putBlk
 congr 1
 apply Array.ext_getElem?
 intro i
 simp only [Array.getElem?_modify,Array.getElem?_setIfInBounds]
 by_cases hi:B=i
 · subst hi
   simp only [if_true,h,Option.map_some,onCells]
   rw [if_pos (heap_lt h)]
 · simp [hi]
section
variable {α:Type} [Inhabited α] {enc:α→List Value} {encA:α→List AVal} {k:Nat}
theorem flat_get (E:RowEnc enc encA k) (dk:Array α) (i j:Nat) (hi:i<dk.size) (hj:j<k):(flatK enc k dk)[i*k+j]! = (enc dk[i]!)[j]!:=by
 have lt:i*k+j<dk.size*k:=by
  have:=Nat.mul_le_mul_right k (show i+1≤dk.size from hi); rw [Nat.add_mul,Nat.one_mul] at this; omega
 have e1:(i*k+j) / k=i:=(blk_iff k i _ E.pos).1 ⟨by omega,by omega⟩
 have e2:(i*k+j) % k=j:=by rw [Nat.mod_eq_sub_div_mul,e1]; omega
 rw [get_flatK _ _ _ _ lt,e1,e2]
theorem rel_sort (E:RowEnc enc encA k) {W:Base} {Φ:Pers} {ρ:Rho} {m:Mem} {w:World} (h:Rel W Φ ρ m w) {b off:Nat} {els:List (List AVal)} {l:Loc} (hg:m.get b=some (.cells k els)) (hl:ρ b=some l) (dk:Array α) (hd:off+dk.size≤els.length) (n:Nat) (os:Array Obj) :
 Rel W Φ ρ (m.set b (.cells k (els.take off++dk.toList.map encA++els.drop (off+dk.size)))) (sortWorldK enc k w l.blk ((l.sh+off)*k) n dk os):=by
 unfold sortWorldK
 refine rel_grow ?_ os
 obtain⟨l',o,g1,g2,g3,g4,g5⟩:=h.live b _ hg
 rw [hl] at g1; injection g1 with g1; subst g1
 cases g5 with
 | cells _ _ _ c e hk hn hle hrows h1=>
  have g4':(Sort.ahead w n).heap[l.blk]? = some (.cells c e (0,0)):=g4
  unfold putRowK putRow
  rw [mapBlock_put g4']
  refine rel_put (rel_ahead h n) hg hl ?_
  have hsz:(putCells id ((l.sh+off)*k) (flatK enc k dk) c).size=c.size:=by simp [putCells]
  have hin:∀ t,t<c.size→(putCells id ((l.sh+off)*k) (flatK enc k dk) c)[t]? = some (if (l.sh+off)*k≤t∧t<(l.sh+off)*k+dk.size*k then (flatK enc k dk)[t - (l.sh+off)*k]! else c[t]!):=by
   intro t ht
   simp only [putCells,Array.getElem?_mapIdx,size_flatK,id]
   rw [Array.getElem?_eq_getElem ht]
   simp [ht]
  refine .cells k _ l _ e hk (by rw [hsz]; exact hn) ?_ ⟨fun i row hi=>?_,fun i row j y hi hj=>?_⟩ fun v hv=>?_
  · simp
    omega
  · rw [List.append_assoc,List.getElem?_append] at hi
    split at hi
    · exact hrows.1 i row (by rw [List.getElem?_take] at hi; split at hi; exact hi; cases hi)
    · rw [List.getElem?_append] at hi
      split at hi
      · rw [List.getElem?_map] at hi
        cases hx:dk.toList[i - (els.take off).length]? with
        | none=>rw [hx] at hi; cases hi
        | some x=>rw [hx] at hi; injection hi with hi; rw [← hi]; exact E.lenA x
      · rw [List.getElem?_drop] at hi
        exact hrows.1 _ row hi
  · have htl:(els.take off).length=off:=by simp; omega
    have hml:(dk.toList.map encA).length=dk.size:=by simp
    have keep:els[i]? = some row→(i<off∨off+dk.size≤i) → ∃ v,(putCells id ((l.sh+off)*k) (flatK enc k dk) c)[(l.sh+i)*k+j]? = some v∧v.oneCell'=true∧R Φ ρ y v:=by
     intro hi' hout
     obtain⟨v,k1,k2,k3⟩:=hrows.2 i row j y hi' hj
     have hjk:j<k:=by rw [← hrows.1 i row hi']; exact(List.getElem?_eq_some_iff.1 hj).1
     have hlt:(l.sh+i)*k+j<c.size:=(Array.getElem?_eq_some_iff.1 k1).1
     refine⟨v,?_,k2,k3⟩
     rw [hin _ hlt,if_neg,← k1,Array.getElem?_eq_getElem hlt,getElem!_pos c _ hlt]
     rintro⟨q1,q2⟩
     rcases hout with ho | ho
     · have:=Nat.mul_le_mul_right k (show l.sh+i+1≤l.sh+off by omega)
       rw [Nat.add_mul,Nat.one_mul] at this
       omega
     · have:=Nat.mul_le_mul_right k (show l.sh+off+dk.size≤l.sh+i by omega)
       rw [Nat.add_mul] at this
       omega
    rw [List.append_assoc,List.getElem?_append] at hi
    split at hi
    · rename_i hlt
      rw [htl] at hlt
      exact keep (by rw [List.getElem?_take,if_pos hlt] at hi; exact hi) (.inl hlt)
    · rename_i hge
      rw [htl] at hge hi
      rw [List.getElem?_append] at hi
      split at hi
      · rename_i hlt
        rw [hml] at hlt
        rw [List.getElem?_map] at hi
        have hx:dk.toList[i - off]? = some dk[i - off]!:=by
         rw [List.getElem?_eq_getElem (by simpa using hlt),getElem!_pos dk _ hlt]; simp
        rw [hx] at hi
        injection hi with hi
        subst hi
        have hjk:j<k:=by rw [← E.lenA dk[i - off]!]; exact(List.getElem?_eq_some_iff.1 hj).1
        have hb:(l.sh+i)*k+j<c.size:=by
         rw [hn]
         have:=Nat.mul_le_mul_right k (show l.sh+i+1≤l.n by omega)
         rw [Nat.add_mul,Nat.one_mul] at this
         omega
        have e0:(l.sh+i)*k=(l.sh+off)*k+(i - off)*k:=by rw [← Nat.add_mul]; congr 1; omega
        have hik:(i - off)*k+k≤dk.size*k:=by
         have:=Nat.mul_le_mul_right k (show (i - off)+1≤dk.size by omega); rwa [Nat.add_mul,Nat.one_mul] at this
        have hen:(enc dk[i - off]!)[j]? = some (enc dk[i - off]!)[j]!:=by
         have:j<(enc dk[i - off]!).length:=by rw [E.len]; exact hjk
         rw [List.getElem?_eq_getElem this,getElem!_pos _ j this]
        refine⟨(enc dk[i - off]!)[j]!,?_,?_,E.rel Φ ρ _ j y _ hj hen⟩
        · rw [hin _ hb,if_pos ⟨by omega,by omega⟩]
          congr 1
          rw [show (l.sh+i)*k+j - (l.sh+off)*k=(i - off)*k+j by omega]
          exact flat_get E dk (i - off) j hlt hjk
        · exact E.one _ _ (List.mem_of_getElem? hen)
      · rename_i hge2
        rw [hml] at hge2 hi
        rw [List.getElem?_drop] at hi
        have e9:off+dk.size+(i - off - dk.size)=i:=by omega
        rw [e9] at hi
        exact keep hi (.inr (by omega))
  · obtain⟨t,ht,rfl⟩:=List.getElem_of_mem hv
    have ht':t<c.size:=by simpa [putCells] using ht
    have:=hin t ht'
    rw [Array.getElem?_eq_getElem (by rw [hsz]; exact ht')] at this
    injection this with this
    rw [Array.getElem_toList,this]
    split
    · rename_i hc
      have hlt:t - (l.sh+off)*k<dk.size*k:=by omega
      rw [get_flatK _ _ _ _ hlt]
      have hm:(t - (l.sh+off)*k) % k<(enc dk[(t - (l.sh+off)*k) / k]!).length:=by rw [E.len]; exact Nat.mod_lt _ E.pos
      have hm2:(enc dk[(t - (l.sh+off)*k) / k]!)[(t - (l.sh+off)*k) % k]! = (enc dk[(t - (l.sh+off)*k) / k]!)[(t - (l.sh+off)*k) % k]:=getElem!_pos (enc dk[(t - (l.sh+off)*k) / k]!) _ hm
      rw [hm2]
      exact E.one _ _ (List.getElem_mem hm)
    · rw [getElem!_pos c t ht']
      exact h1 _ (Array.getElem_mem_toList ht')
theorem holds_rel (E:RowEnc enc encA k) {W:Base} {Φ:Pers} {ρ:Rho} {m:Mem} {w:World} (h:Rel W Φ ρ m w) {b off:Nat} {els:List (List AVal)} {l:Loc} (hg:m.get b=some (.cells k els)) (hl:ρ b=some l) (d:Array α)
 (hd:∀ i,i<d.size→els[off+i]? = some (encA d[i]!)):HoldsK enc k w l.blk ((l.sh+off)*k) d∧l.blk<w.heap.size:=by
 obtain⟨l',o,g1,g2,g3,g4,g5⟩:=h.live b _ hg
 rw [hl] at g1; injection g1 with g1; subst g1
 refine⟨?_,heap_lt g4⟩
 cases g5 with
 | cells _ _ _ c e hk hn hle hrows h1=>
  intro t ht
  rw [size_flatK] at ht
  have hq:t / k<d.size:=Nat.div_lt_of_lt_mul (by rw [Nat.mul_comm]; exact ht)
  have hr:t % k<k:=Nat.mod_lt _ E.pos
  have hA:t % k<(encA d[t / k]!).length:=by rw [E.lenA]; exact hr
  have hV:t % k<(enc d[t / k]!).length:=by rw [E.len]; exact hr
  obtain⟨v,k1,k2,k3⟩:=hrows.2 (off+t / k) _ (t % k) _ (hd _ hq) (List.getElem?_eq_getElem hA)
  have hv:=E.det Φ ρ d[t / k]! (t % k) _ _ v (List.getElem?_eq_getElem hA) (List.getElem?_eq_getElem hV) k3
  have hpos:(l.sh+off)*k+t=(l.sh+(off+t / k))*k+t % k:=by
   have:=Nat.div_add_mod t k
   rw [Nat.mul_comm] at this
   rw [← Nat.add_assoc,Nat.add_mul (l.sh+off)]
   omega
  refine⟨?_,?_⟩
  · simp only [World.cell?,g4,Option.isSome_none,Bool.false_eq_true,if_false,id]
    have hV2:(enc d[t / k]!)[t % k]! = (enc d[t / k]!)[t % k]:=getElem!_pos (enc d[t / k]!) _ hV
    rw [hpos,k1,hv,get_flatK _ _ _ _ ht,hV2]
  · simp [World.frozen?,g4]
variable {P:Program} {rn:Ren}
theorem sort_calls (L:SlLaysF0.n6 P rn) (hb:HasBody P (rn.f 6)) (aE:∀ w,(isAgg (rn.t 24)).run P w=.ok true w) (zE:∀ w,(Go.sizeOf (rn.t 24)).run P w=.ok k w) (E:RowEnc enc encA k) (cf:α→α→Int) (hO:SWO (Go.Proofs.ltOf cf)) (g:Nat)
 (eg:∀ args w,(callFunc g args).run P w=.ok (.enter g args) w) {m:Mem} {b off:Nat} {els:List (List AVal)} {cb:List AVal} (hg:m.get b=some (.cells k els)) (d:List α) (hd0:d≠[]) (hd:(els.drop off).take d.length=d.map encA) (hsz:d.length≤1000000)
 (hc:∀ (W:Base) (Φ:Pers) (ρ:Rho) (vc:Array Value) (x:ABlk) (w:World),Rel W Φ ρ (m.set b x) w→RL Φ ρ cb vc → ∀ x y:α,
   Calls P g (#[.agg (enc x).toArray,.agg (enc y).toArray]++vc) w fun e w'=>e=.returned (.int .i64 (cf x y)) ∧ ∃ q os,w'=Sort.grow (w.drewN q) os) :
 ACalls P (rn.f 6) [.sl b off d.length,.func (.func g) [] cb] m [] fun r m'=>r=aundef ∧ ∃ d':List α,d'.Perm d∧(∀ i j,i<j→j<d'.length→Go.Proofs.ltOf cf d'[j]! d'[i]! = false) ∧
  m'=m.set b (.cells k (els.take off++d'.map encA++els.drop (off+d.length))):=by
 refine⟨hb,fun W Φ ρ vs w hr ha hav=>?_⟩
 obtain⟨v1,v2,rfl⟩:∃ v1 v2,vs = #[v1,v2]:=by
  have hs:vs.size=2:=by simpa using ha.1
  refine⟨vs[0],vs[1],?_⟩
  apply Array.ext
  · simp [hs]
  · intro i h1 h2
    have:i=0∨i=1:=by omega
    rcases this with rfl | rfl<;>rfl
 have r1:=ha.2 0 _ v1 rfl rfl
 have r2:=ha.2 1 _ v2 rfl rfl
 have hdl:0<d.length:=List.length_pos_iff.2 hd0
 have hin:∀ i,i<d.toArray.size→els[off+i]? = some (encA d.toArray[i]!):=by
  intro i hi
  have hi':i<d.length:=by simpa using hi
  have h1:((els.drop off).take d.length)[i]? = (d.map encA)[i]?:=by rw [hd]
  rw [List.getElem?_take,if_pos hi',List.getElem?_drop,List.getElem?_map,List.getElem?_eq_getElem hi'] at h1
  rw [h1]
  simp [hi']
 have hle:off+d.length≤els.length:=by
  have:=hin (d.length - 1) (by simp; omega)
  have:=(List.getElem?_eq_some_iff.1 this).1
  omega
 cases r1 with
 | sl _ _ _ a cap l hl hlc hn2 hcap hav1=>
  have ea:=hcap (by omega)
  subst ea
  cases r2 with
  | func _ _ _ vf vc hf hvc hfr hcr=>
   have hvf:vf = #[]:=Array.size_eq_zero_iff.1 (by simpa using hf)
   subst hvf
   have hlk:l.k=k:=by
    obtain⟨l',o,g1,g2,g3,g4,g5⟩:=hr.live b _ hg
    rw [hl] at g1; injection g1 with g1; subst g1
    cases g5 with
    | cells _ _ _ c e hk hn hle hrows h1=>exact hk
   obtain⟨hH,hblk⟩:=holds_rel E hr hg hl d.toArray hin
   have hS:∀ (dk:Array α),dk.size=d.length → ∀ n os,Rel W Φ ρ (m.set b (.cells k (els.take off++dk.toList.map encA++els.drop (off+d.length)))) (sortWorldK enc k w l.blk ((l.sh+off)*k) n dk os):=by
    intro dk hdk n os
    have:=rel_sort E hr hg hl dk (off:=off) (by rw [hdk]; exact hle) n os
    rw [hdk] at this
    exact this
   have hcall:=Go.Proofs.AnyQ.slices_SortFunc L k aE zE enc E.len E.one cf hO g vc l.blk ((l.sh+off)*k) cap d.toArray w eg
    (fun mm os dk hdk x y=>hc W Φ ρ vc _ _ (hS dk (by simpa using hdk) mm os) ⟨hvc,hcr⟩ x y) hH hblk (by simp; omega)
   rw [hlk]
   rw [show d.toArray.size=d.length by simp] at hcall
   refine hcall.mono ?_
   rintro e w' ⟨rfl,d',n,os,hp,hs,rfl⟩
   have hd's:d'.size=d.length:=by rw [hp.1]; simp
   refine⟨_,aundef,_,Φ,ρ,rfl,.refl _ _,fun _ _ _ h=>h,hS d' hd's n os,R_undef _ _,Nat.le_refl _,rfl,d'.toList,?_,?_,rfl⟩
   · have:=hp.2.2
     have e1:d'.extract 0 d.length=d':=by rw [← hd's]; exact Array.extract_size
     have e2:d.toArray.extract 0 d.length=d.toArray:=by
      have:d.length=d.toArray.size:=by simp
      rw [this]; exact Array.extract_size
     rw [e1,e2] at this
     simpa using this
   · intro i j hij hj
     have hj':j<d'.size:=by simpa using hj
     have:=hs i j (Nat.zero_le _) hij (by omega)
     rw [getElem!_pos d' j hj',getElem!_pos d' i (by omega)] at this
     rw [getElem!_pos _ j hj,getElem!_pos _ i (by omega)]
     simpa using this
theorem sort_nil (L:SlLaysF0.n6 P rn) (hb:HasBody P (rn.f 6)) {m:Mem} {f:AVal}:ACalls P (rn.f 6) [.nilSl,f] m [] fun r m'=>r=aundef∧m'=m:=by
 refine⟨hb,fun W Φ ρ vs w hr ha hav=>?_⟩
 obtain⟨v1,v2,rfl⟩:∃ v1 v2,vs = #[v1,v2]:=by
  have hs:vs.size=2:=by simpa using ha.1
  refine⟨vs[0],vs[1],?_⟩
  apply Array.ext
  · simp [hs]
  · intro i h1 h2
    have:i=0∨i=1:=by omega
    rcases this with rfl | rfl<;>rfl
 have r1:=ha.2 0 _ v1 rfl rfl
 cases r1
 refine(Go.Proofs.AnyF.slices_SortFunc_none L none 0 v2 w).mono ?_
 rintro e w' ⟨rfl,rfl⟩
 exact⟨_,aundef,m,Φ,ρ,rfl,.refl _ _,fun _ _ _ h=>h,hr,R_undef _ _,Nat.le_refl _,rfl,rfl⟩
end
end Go.AE
end
section
namespace Go.Proofs
open Go.Shelf
def Tryz.sortLoop_ren:Go.Shelf.Ren:=⟨fun | 6=>201 | 15=>190 | 14=>227 | 28=>223 | 29=>224 | 20=>238 | 21=>239 | 22=>240 | 23=>241 | 24=>242 | 25=>243 | 26=>244 | 27=>245 | 46=>249 | 47=>234 | 48=>235 | 49=>250 | 50=>251 | 57=>252 | n=>n,fun | 22=>222 | 24=>249 | 25=>251 | 3=>3 | 39=>232 | 0=>0 | 53=>259 | 55=>254 | 4=>4 | 46=>269 | 45=>268 | 50=>207 | 5=>5 | 9=>9 | 66=>283 | 70=>275 | 76=>293 | 77=>294 | n=>n,fun | n=>n⟩
theorem Tryz.sortLoop:Go.Proofs.SlLaysF0.n6 Tryz.prog Tryz.sortLoop_ren:={
 mixed:=by kernel_rfl
 f6:=⟨Tryz.f201.name,by decide,Tryz.func201.trans (congrArg some (by kernel_rfl))⟩
 f14:=⟨Tryz.f227.name,by decide,Tryz.func227.trans (congrArg some (by kernel_rfl))⟩
 f15:=Tryz.func190.trans (congrArg some (by kernel_rfl))
 f20:=⟨Tryz.f238.name,by decide,Tryz.func238.trans (congrArg some (by kernel_rfl))⟩
 f21:=⟨Tryz.f239.name,by decide,Tryz.func239.trans (congrArg some (by kernel_rfl))⟩
 f22:=⟨Tryz.f240.name,by decide,Tryz.func240.trans (congrArg some (by kernel_rfl))⟩
 f23:=⟨Tryz.f241.name,by decide,Tryz.func241.trans (congrArg some (by kernel_rfl))⟩
 f24:=⟨Tryz.f242.name,by decide,Tryz.func242.trans (congrArg some (by kernel_rfl))⟩
 f25:=⟨Tryz.f243.name,by decide,Tryz.func243.trans (congrArg some (by kernel_rfl))⟩
 f26:=⟨Tryz.f244.name,by decide,Tryz.func244.trans (congrArg some (by kernel_rfl))⟩
 f27:=⟨Tryz.f245.name,by decide,Tryz.func245.trans (congrArg some (by kernel_rfl))⟩
 f28:=Tryz.func223.trans (congrArg some (by kernel_rfl))
 f29:=Tryz.func224.trans (congrArg some (by kernel_rfl))
 f46:=⟨Tryz.f249.name,by decide,Tryz.func249.trans (congrArg some (by kernel_rfl))⟩
 f47:=Tryz.func234.trans (congrArg some (by kernel_rfl))
 f48:=Tryz.func235.trans (congrArg some (by kernel_rfl))
 f49:=⟨Tryz.f250.name,by decide,Tryz.func250.trans (congrArg some (by kernel_rfl))⟩
 f50:=⟨Tryz.f251.name,by decide,Tryz.func251.trans (congrArg some (by kernel_rfl))⟩
 f57:=⟨Tryz.f252.name,by decide,Tryz.func252.trans (congrArg some (by kernel_rfl))⟩
 t0:=Tryz.underlying0
 a0:=Tryz.isAgg0
 z0:=Tryz.sizeOf0
 v0:=Tryz.zeroValue0
 t3:=Tryz.underlying3
 a3:=Tryz.isAgg3
 z3:=Tryz.sizeOf3
 v3:=Tryz.zeroValue3
 t4:=Tryz.underlying4
 a4:=Tryz.isAgg4
 z4:=Tryz.sizeOf4
 v4:=Tryz.zeroValue4
 t5:=Tryz.underlying5
 a5:=Tryz.isAgg5
 z5:=Tryz.sizeOf5
 v5:=Tryz.zeroValue5
 t9:=Tryz.underlying9
 a9:=Tryz.isAgg9
 z9:=Tryz.sizeOf9
 v9:=Tryz.zeroValue9
 t22:=Tryz.underlying222
 a22:=Tryz.isAgg222
 z22:=Tryz.sizeOf222
 v22:=Tryz.zeroValue222
 t25:=Tryz.underlying251
 a25:=Tryz.isAgg251
 z25:=Tryz.sizeOf251
 v25:=Tryz.zeroValue251
 t39:=Tryz.underlying232
 a39:=Tryz.isAgg232
 z39:=Tryz.sizeOf232
 v39:=Tryz.zeroValue232
 t45:=Tryz.underlying268
 a45:=Tryz.isAgg268
 z45:=Tryz.sizeOf268
 v45:=Tryz.zeroValue268
 t46:=Tryz.underlying269
 a46:=Tryz.isAgg269
 z46:=Tryz.sizeOf269
 v46:=Tryz.zeroValue269
 t50:=Tryz.underlying207
 a50:=Tryz.isAgg207
 z50:=Tryz.sizeOf207
 v50:=Tryz.zeroValue207
 t53:=Tryz.underlying259
 a53:=Tryz.isAgg259
 z53:=Tryz.sizeOf259
 v53:=Tryz.zeroValue259
 t55:=Tryz.underlying254
 a55:=Tryz.isAgg254
 z55:=Tryz.sizeOf254
 v55:=Tryz.zeroValue254
 t66:=Tryz.underlying283
 a66:=Tryz.isAgg283
 z66:=Tryz.sizeOf283
 v66:=Tryz.zeroValue283
 t70:=Tryz.underlying275
 a70:=Tryz.isAgg275
 z70:=Tryz.sizeOf275
 v70:=Tryz.zeroValue275
 t76:=Tryz.underlying293
 a76:=Tryz.isAgg293
 z76:=Tryz.sizeOf293
 v76:=Tryz.zeroValue293
 t77:=Tryz.underlying294
 a77:=Tryz.isAgg294
 z77:=Tryz.sizeOf294
 v77:=Tryz.zeroValue294 }
end Go.Proofs
end
