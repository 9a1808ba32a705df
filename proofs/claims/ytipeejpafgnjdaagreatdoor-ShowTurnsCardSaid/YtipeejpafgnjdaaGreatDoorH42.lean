/- Part 42 of the proof: AeSo, Yw, ShSp, AeNl. -/
import Derived.Test.YtipeejpafgnjdaaGreatDoorH14
import Derived.Test.YtipeejpafgnjdaaGreatDoorH31
import Derived.Shelf.SlSortCmp.NoneTotal
import Derived.Test.YtipeejpafgnjdaaGreatDoorProg
import Derived.Deep.QuietTactic
import Derived.BigQuiet
import Derived.RegionTactic
import Derived.ChangeAlike
import Derived.BigRegion
import Derived.Sort.Grow
import Derived.WalkKit
set_option linter.all false
section
namespace Go.AE
open Go.RowKit Go.Sort Go.Shelf Go.Proofs
structure RowEnc {α:Type} (enc:α→List Value) (encA:α→List AVal) (k:Nat):Prop where
 pos:0<k
 len:∀ x,(enc x).length=k
 lenA:∀ x,(encA x).length=k
 one:∀ x,∀ v∈enc x,v.oneCell'=true
 rel:∀ (Φ:Pers) (ρ:Rho) (x:α) (j:Nat) (y:AVal) (v:Value),(encA x)[j]? = some y→(enc x)[j]? = some v→R Φ ρ y v
 det:∀ (Φ:Pers) (ρ:Rho) (x:α) (j:Nat) (y:AVal) (v v':Value),(encA x)[j]? = some y→(enc x)[j]? = some v→R Φ ρ y v'→v'=v
theorem Z1z{W:Base}{Φ:Pers}{ρ:Rho}{m:Mem}{w:World}(h:Rel W Φ ρ m w)(n:Nat):Rel W Φ ρ m (Sort.ahead w n):=
 h.below ⟨rfl,rfl,rfl,Nat.le_refl _,fun _ _=>rfl⟩
theorem Z3m{W:Base}{Φ:Pers}{ρ:Rho}{m:Mem}{w:World}(h:Rel W Φ ρ m w)(os:Array Obj):Rel W Φ ρ m (Sort.grow w os):=
 h.below ⟨rfl,rfl,rfl,by simp,fun k hk=>by
  show(w.heap++os)[k]? = w.heap[k]?;rw[Array.getElem?_append,if_pos hk]⟩
theorem Z51{w:World}{B:Nat}{f:Array Value→Array Value}{c:Array Value}{e:TypeId}{fr:Nat×Nat}(h:w.heap[B]? = some (.cells c e fr)):mapBlock w B f=R8 w B (.cells (f c) e fr):=by
 unfold mapBlock R8
 congr 1
 apply Array.ext_getElem?;intro i;simp only[Array.getElem?_modify,Array.getElem?_setIfInBounds];by_cases hi:B=i
 ·subst hi;simp only[if_true,h,Option.map_some,onCells];rw[if_pos (B7 h)]
 ·simp[hi]
section
variable {α:Type} [Inhabited α] {enc:α→List Value} {encA:α→List AVal} {k:Nat}
theorem Z4n(E:RowEnc enc encA k)(dk:Array α)(i j:Nat)(hi:i<dk.size)(hj:j<k):(flatK enc k dk)[i*k+j]! = (enc dk[i]!)[j]!:=by
 have lt:i*k+j<dk.size*k:=by
  have:=Nat.mul_le_mul_right k (show i+1≤dk.size from hi); rw[Nat.add_mul,Nat.one_mul]at this; omega
 have e1:(i*k+j) / k=i:=(blk_iff k i _ E.pos).1 ⟨by omega,by omega⟩
 have e2:(i*k+j) % k=j:=by rw[Nat.mod_eq_sub_div_mul,e1]; omega
 rw[get_flatK _ _ _ _ lt,e1,e2]
theorem Yai(E:RowEnc enc encA k){W:Base}{Φ:Pers}{ρ:Rho}{m:Mem}{w:World}(h:Rel W Φ ρ m w){b off:Nat}{els:List (List AVal)}{l:Loc}(hg:m.get b=some (.cells k els))(hl:ρ b=some l)(dk:Array α)(hd:off+dk.size≤els.length)(n:Nat)(os:Array Obj) :
 Rel W Φ ρ (m.set b (.cells k (els.take off++dk.toList.map encA++els.drop (off+dk.size)))) (sortWorldK enc k w l.blk ((l.sh+off)*k) n dk os):=by
 unfold sortWorldK;refine Z3m ?_ os;obtain⟨l',o,g1,g2,g3,g4,g5⟩:=h.live b _ hg;rw[hl]at g1; injection g1 with g1; subst g1
 cases g5 with
 | cells _ _ _ c e hk hn hle hrows h1=>
  have g4':(Sort.ahead w n).heap[l.blk]? = some (.cells c e (0,0)):=g4;unfold putRowK putRow;rw[Z51 g4'];refine Zpn (Z1z h n) hg hl ?_;have hsz:(putCells id ((l.sh+off)*k) (flatK enc k dk) c).size=c.size:=by simp[putCells]
  have hin:∀ t,t<c.size→(putCells id ((l.sh+off)*k) (flatK enc k dk) c)[t]? = some (if (l.sh+off)*k≤t∧t<(l.sh+off)*k+dk.size*k then (flatK enc k dk)[t - (l.sh+off)*k]! else c[t]!):=by
   intro t ht;simp only[putCells,Array.getElem?_mapIdx,size_flatK,id];rw[Array.getElem?_eq_getElem ht];simp[ht]
  refine .cells k _ l _ e hk (by rw[hsz]; exact hn) ?_ ⟨fun i row hi=>?_,fun i row j y hi hj=>?_⟩ fun v hv=>?_
  ·simp;omega
  ·rw[List.append_assoc,List.getElem?_append]at hi;split at hi
   ·exact hrows.1 i row (by rw[List.getElem?_take]at hi; split at hi; exact hi; cases hi)
   ·rw[List.getElem?_append]at hi;split at hi
    ·rw[List.getElem?_map]at hi;cases hx:dk.toList[i - (els.take off).length]? with
     | none=>rw[hx]at hi; cases hi
     | some x=>rw[hx]at hi; injection hi with hi; rw[← hi]; exact E.lenA x
    ·rw[List.getElem?_drop]at hi;exact hrows.1 _ row hi
  ·have htl:(els.take off).length=off:=by simp; omega
   have hml:(dk.toList.map encA).length=dk.size:=by simp
   have keep:els[i]? = some row→(i<off∨off+dk.size≤i) → ∃ v,(putCells id ((l.sh+off)*k) (flatK enc k dk) c)[(l.sh+i)*k+j]? = some v∧v.oneCell'=true∧R Φ ρ y v:=by
    intro hi' hout;obtain⟨v,k1,k2,k3⟩:=hrows.2 i row j y hi' hj;have hjk:j<k:=by rw[← hrows.1 i row hi']; exact(gS.1 hj).1
    have hlt:(l.sh+i)*k+j<c.size:=(Array.getElem?_eq_some_iff.1 k1).1;refine⟨v,?_,k2,k3⟩;rw[hin _ hlt,if_neg,← k1,Array.getElem?_eq_getElem hlt,getElem!_pos c _ hlt];rintro⟨q1,q2⟩;rcases hout with ho|ho
    ·have:=Nat.mul_le_mul_right k (show l.sh+i+1≤l.sh+off by omega)
     rw[Nat.add_mul,Nat.one_mul]at this;omega
    ·have:=Nat.mul_le_mul_right k (show l.sh+off+dk.size≤l.sh+i by omega)
     rw[Nat.add_mul]at this;omega
   rw[List.append_assoc,List.getElem?_append]at hi;split at hi
   ·rename_i hlt;rw[htl]at hlt;exact keep (by rw[List.getElem?_take,if_pos hlt]at hi; exact hi) (.inl hlt)
   ·rename_i hge;rw[htl]at hge hi;rw[List.getElem?_append]at hi;split at hi
    ·rename_i hlt;rw[hml]at hlt;rw[List.getElem?_map]at hi;have hx:dk.toList[i - off]? = some dk[i - off]!:=by
      rw[gE (by simpa using hlt),getElem!_pos dk _ hlt]; simp
     rw[hx]at hi;injection hi with hi
     subst hi;have hjk:j<k:=by rw[← E.lenA dk[i - off]!]; exact(gS.1 hj).1
     have hb:(l.sh+i)*k+j<c.size:=by
      rw[hn];have:=Nat.mul_le_mul_right k (show l.sh+i+1≤l.n by omega)
      rw[Nat.add_mul,Nat.one_mul]at this;omega
     have e0:(l.sh+i)*k=(l.sh+off)*k+(i - off)*k:=by rw[← Nat.add_mul]; congr 1; omega
     have hik:(i - off)*k+k≤dk.size*k:=by
      have:=Nat.mul_le_mul_right k (show (i - off)+1≤dk.size by omega); rwa[Nat.add_mul,Nat.one_mul]at this
     have hen:(enc dk[i - off]!)[j]? = some (enc dk[i - off]!)[j]!:=by
      have:j<(enc dk[i - off]!).length:=by rw[E.len]; exact hjk
      rw[gE this,getElem!_pos _ j this]
     refine⟨(enc dk[i - off]!)[j]!,?_,?_,E.rel Φ ρ _ j y _ hj hen⟩
     ·rw[hin _ hb,if_pos ⟨by omega,by omega⟩]
      congr 1
      rw[show (l.sh+i)*k+j - (l.sh+off)*k=(i - off)*k+j by omega]
      exact Z4n E dk (i - off) j hlt hjk
     ·exact E.one _ _ (List.mem_of_getElem? hen)
    ·rename_i hge2;rw[hml]at hge2 hi;rw[List.getElem?_drop]at hi;have e9:off+dk.size+(i - off - dk.size)=i:=by omega
     rw[e9]at hi;exact keep hi (.inr (by omega))
  ·obtain⟨t,ht,rfl⟩:=List.getElem_of_mem hv;have ht':t<c.size:=by simpa[putCells]using ht
   have:=hin t ht';rw[Array.getElem?_eq_getElem (by rw[hsz]; exact ht')]at this
   injection this with this
   rw[Array.getElem_toList,this];split
   ·rename_i hc;have hlt:t - (l.sh+off)*k<dk.size*k:=by omega
    rw[get_flatK _ _ _ _ hlt];have hm:(t - (l.sh+off)*k) % k<(enc dk[(t - (l.sh+off)*k) / k]!).length:=by rw[E.len]; exact Nat.mod_lt _ E.pos
    have hm2:(enc dk[(t - (l.sh+off)*k) / k]!)[(t - (l.sh+off)*k) % k]! = (enc dk[(t - (l.sh+off)*k) / k]!)[(t - (l.sh+off)*k) % k]:=getElem!_pos (enc dk[(t - (l.sh+off)*k) / k]!) _ hm;rw[hm2];exact E.one _ _ (List.getElem_mem hm)
   ·rw[getElem!_pos c t ht'];exact h1 _ (Array.getElem_mem_toList ht')
theorem Z5k(E:RowEnc enc encA k){W:Base}{Φ:Pers}{ρ:Rho}{m:Mem}{w:World}(h:Rel W Φ ρ m w){b off:Nat}{els:List (List AVal)}{l:Loc}(hg:m.get b=some (.cells k els))(hl:ρ b=some l)(d:Array α)
 (hd:∀ i,i<d.size→els[off+i]? = some (encA d[i]!)):HoldsK enc k w l.blk ((l.sh+off)*k) d∧l.blk<w.heap.size:=by
 obtain⟨l',o,g1,g2,g3,g4,g5⟩:=h.live b _ hg;rw[hl]at g1; injection g1 with g1; subst g1
 refine⟨?_,B7 g4⟩;cases g5 with
 | cells _ _ _ c e hk hn hle hrows h1=>
  intro t ht;rw[size_flatK]at ht;have hq:t / k<d.size:=Nat.div_lt_of_lt_mul (by rw[Nat.mul_comm]; exact ht)
  have hr:t % k<k:=Nat.mod_lt _ E.pos;have hA:t % k<(encA d[t / k]!).length:=by rw[E.lenA]; exact hr
  have hV:t % k<(enc d[t / k]!).length:=by rw[E.len]; exact hr
  obtain⟨v,k1,k2,k3⟩:=hrows.2 (off+t / k) _ (t % k) _ (hd _ hq) (gE hA);have hv:=E.det Φ ρ d[t / k]! (t % k) _ _ v (gE hA) (gE hV) k3;have hpos:(l.sh+off)*k+t=(l.sh+(off+t / k))*k+t % k:=by
   have:=Nat.div_add_mod t k;rw[Nat.mul_comm]at this;rw[← Nat.add_assoc,Nat.add_mul (l.sh+off)];omega
  refine⟨?_,?_⟩
  ·simp only[World.cell?,g4,Option.isSome_none,bF,if_false,id];have hV2:(enc d[t / k]!)[t % k]! = (enc d[t / k]!)[t % k]:=getElem!_pos (enc d[t / k]!) _ hV;rw[hpos,k1,hv,get_flatK _ _ _ _ ht,hV2]
  ·simp[World.frozen?,g4]
variable {P:Program} {rn:Ren}
theorem Z9t(L:SlLaysF0.n6 P rn)(hb:Zhg P (rn.f 6))(aE:∀ w,(isAgg (rn.t 24)).run P w=.ok true w)(zE:∀ w,(Go.sizeOf (rn.t 24)).run P w=.ok k w)(E:RowEnc enc encA k)(cf:α→α→Int)(hO:SWO (Go.Proofs.ltOf cf))(g:Nat)
 (eg:∀ args w,(callFunc g args).run P w=.ok (.enter g args) w) {m:Mem} {b off:Nat} {els:List (List AVal)} {cb:List AVal} (hg:m.get b=some (.cells k els)) (d:List α) (hd0:d≠[]) (hd:(els.drop off).take d.length=d.map encA) (hsz:d.length≤1000000)
 (hc:∀ (W:Base) (Φ:Pers) (ρ:Rho) (vc:Array Value) (x:ABlk) (w:World),Rel W Φ ρ (m.set b x) w→RL Φ ρ cb vc → ∀ x y:α,
   Calls P g (#[.agg (enc x).toArray,.agg (enc y).toArray]++vc) w fun e w'=>e=.returned (.int .i64 (cf x y)) ∧ ∃ q os,w'=Sort.grow (w.drewN q) os) :
 ACalls P (rn.f 6) [.sl b off d.length,.func (.func g) [] cb] m [] fun r m'=>r=aundef ∧ ∃ d':List α,d'.Perm d∧(∀ i j,i<j→j<d'.length→Go.Proofs.ltOf cf d'[j]! d'[i]! = false) ∧
  m'=m.set b (.cells k (els.take off++d'.map encA++els.drop (off+d.length))):=by
 refine⟨hb,fun W Φ ρ vs w hr ha hav=>?_⟩
 obtain⟨v1,v2,rfl⟩:∃ v1 v2,vs = #[v1,v2]:=by
  have hs:vs.size=2:=by simpa using ha.1
  refine⟨vs[0],vs[1],?_⟩;apply Array.ext
  ·simp[hs]
  ·intro i h1 h2;have:i=0∨i=1:=by omega
   rcases this with rfl|rfl<;>rfl
 have r1:=ha.2 0 _ v1 rfl rfl;have r2:=ha.2 1 _ v2 rfl rfl;have hdl:0<d.length:=List.length_pos_iff.2 hd0;have hin:∀ i,i<d.toArray.size→els[off+i]? = some (encA d.toArray[i]!):=by
  intro i hi;have hi':i<d.length:=by simpa using hi
  have h1:((els.drop off).take d.length)[i]? = (d.map encA)[i]?:=by rw[hd]
  rw[List.getElem?_take,if_pos hi',List.getElem?_drop,List.getElem?_map,gE hi']at h1;rw[h1];simp[hi']
 have hle:off+d.length≤els.length:=by
  have:=hin (d.length - 1) (by simp; omega)
  have:=(gS.1 this).1;omega
 cases r1 with
 | sl _ _ _ a cap l hl hlc hn2 hcap hav1=>
  have ea:=hcap (by omega)
  subst ea;cases r2 with
  | func _ _ _ vf vc hf hvc hfr hcr=>
   have hvf:vf = #[]:=Array.size_eq_zero_iff.1 (by simpa using hf)
   subst hvf;have hlk:l.k=k:=by
    obtain⟨l',o,g1,g2,g3,g4,g5⟩:=hr.live b _ hg;rw[hl]at g1; injection g1 with g1; subst g1
    cases g5 with
    | cells _ _ _ c e hk hn hle hrows h1=>exact hk
   obtain⟨hH,hblk⟩:=Z5k E hr hg hl d.toArray hin;have hS:∀ (dk:Array α),dk.size=d.length → ∀ n os,Rel W Φ ρ (m.set b (.cells k (els.take off++dk.toList.map encA++els.drop (off+d.length)))) (sortWorldK enc k w l.blk ((l.sh+off)*k) n dk os):=by
    intro dk hdk n os;have:=Yai E hr hg hl dk (off:=off) (by rw[hdk]; exact hle) n os
    rw[hdk]at this;exact this
   have hcall:=Go.Proofs.AnyQ.slices_SortFunc L k aE zE enc E.len E.one cf hO g vc l.blk ((l.sh+off)*k) cap d.toArray w eg
    (fun mm os dk hdk x y=>hc W Φ ρ vc _ _ (hS dk (by simpa using hdk) mm os) ⟨hvc,hcr⟩ x y) hH hblk (by simp; omega)
   rw[hlk];rw[show d.toArray.size=d.length by simp]at hcall
   refine hcall.mono ?_;rintro e w' ⟨rfl,d',n,os,hp,hs,rfl⟩;have hd's:d'.size=d.length:=by rw[hp.1]; simp
   refine⟨_,aundef,_,Φ,ρ,rfl,.refl _ _,fun _ _ _ h=>h,hS d' hd's n os,Zeu _ _,Nat.le_refl _,rfl,d'.toList,?_,?_,rfl⟩
   ·have:=hp.2.2;have e1:d'.extract 0 d.length=d':=by rw[← hd's]; exact Array.extract_size
    have e2:d.toArray.extract 0 d.length=d.toArray:=by
     have:d.length=d.toArray.size:=by simp
     rw[this]; exact Array.extract_size
    rw[e1,e2]at this;simpa using this
   ·intro i j hij hj;have hj':j<d'.size:=by simpa using hj
    have:=hs i j (Nat.zero_le _) hij (by omega)
    rw[getElem!_pos d' j hj',getElem!_pos d' i (by omega)]at this
    rw[getElem!_pos _ j hj,getElem!_pos _ i (by omega)]
    simpa using this
end
end Go.AE
end
section
namespace Go.Known
open Go Go.Proofs Go.Sort
theorem Z05{P:Program}{c:Code}{Q:Exit→Act→World→Prop}{a:Act}{w w2:World}(h:Code.wp P c Q a w2)(e:w2=w):Code.wp P c Q a w:=e ▸ h
theorem Z3g{W W2:World}(a b:Obj)(h:∃ os,W2=Sort.grow W os):∃ q os,((W2.alloc a).alloc b).drew=Sort.grow (W.drewN q) os:=by
 obtain⟨os,rfl⟩:=h;exact⟨1,os ++ #[a] ++ #[b],by rw[alloc_eq_grow,alloc_eq_grow,grow_grow,grow_grow]; rfl⟩
set_option maxHeartbeats 8000000 in
theorem Z2b(x1 x2 y1 y2:Nat)(xg xr yg yr:Int)(x0 x3 x4 y0 y3 y4:Int)(x5 y5:Bool)(B o B2 o2 n cap:Nat)(W:World)(hB:B<W.heap.size)(hB2:B2<W.heap.size)
 (hs:W.cell? ⟨B,o+1,none⟩=some (.slice (some ⟨B2,o2,none⟩) n cap)) (hx:x1<n) (hy:y1<n)
 (ha0:W.cell? ⟨B2,o2+x1*6,none⟩=some (.int .i64 x0)) (ha1:W.cell? ⟨B2,o2+x1*6+1,none⟩=some (.int .i64 xg)) (ha2:W.cell? ⟨B2,o2+x1*6+2,none⟩=some (.int .i64 xr))
 (ha3:W.cell? ⟨B2,o2+x1*6+3,none⟩=some (.int .i64 x3)) (ha4:W.cell? ⟨B2,o2+x1*6+4,none⟩=some (.int .i64 x4)) (ha5:W.cell? ⟨B2,o2+x1*6+5,none⟩=some (.bool x5))
 (hb0:W.cell? ⟨B2,o2+y1*6,none⟩=some (.int .i64 y0)) (hb1:W.cell? ⟨B2,o2+y1*6+1,none⟩=some (.int .i64 yg)) (hb2:W.cell? ⟨B2,o2+y1*6+2,none⟩=some (.int .i64 yr))
 (hb3:W.cell? ⟨B2,o2+y1*6+3,none⟩=some (.int .i64 y3)) (hb4:W.cell? ⟨B2,o2+y1*6+4,none⟩=some (.int .i64 y4)) (hb5:W.cell? ⟨B2,o2+y1*6+5,none⟩=some (.bool y5))
 (hwg:IntKind.i64.wrap (xg - yg)=xg - yg) (hwr:IntKind.i64.wrap (xr - yr)=xr - yr) :
 Calls Tryz.prog 149 #[.agg #[.int .i64 x1,.int .i64 x2],.agg #[.int .i64 y1,.int .i64 y2],.pointer (some ⟨B,o,none⟩)] W fun e w'=>e=.returned (.int .i64 (if xg=yg then xr - yr else xg - yg)) ∧ ∃ q os,w'=Sort.grow (W.drewN q) os:=by
 go_enter Tryz.func149,Tryz.ntmps149
 go_wp2
 obtain⟨W2,hW2⟩:∃ W2,W2=(W.alloc (.cells #[.int .i64 x1,.int .i64 x2] 209)).alloc (.cells #[.int .i64 y1,.int .i64 y2] 209):=⟨_,rfl⟩
 refine Z05 (w2:=W2) ?_ (by rw[hW2])
 have old:∀ (b off:Nat) (v:Value),b<W.heap.size→W.cell? ⟨b,off,none⟩=some v→W2.cell? ⟨b,off,none⟩=some v:=fun b off v hb h=>by
  rw[hW2];simp only[World.cell?,World.alloc,Array.getElem?_push,Array.size_push]at h ⊢;rw[if_neg (by omega),if_neg (by omega)]
  exact h
 have c1:W2.cell? ⟨W.heap.size,0,none⟩=some (.int .i64 x1):=by
  rw[hW2];simp only[World.cell?,World.alloc,Array.getElem?_push,Array.size_push];simp
 have c2:W2.cell? ⟨W.heap.size+1,0,none⟩=some (.int .i64 y1):=by
  rw[hW2];simp only[World.cell?,World.alloc,Array.getElem?_push,Array.size_push];simp
 have eW:∃ os,W2=Sort.grow W os:=⟨#[.cells #[.int .i64 x1,.int .i64 x2] 209,.cells #[.int .i64 y1,.int .i64 y2] 209],by
  rw[hW2,alloc_eq_grow,alloc_eq_grow,grow_grow]; rfl⟩
 replace hs:=old _ _ _ hB hs
 replace ha0:=old _ _ _ hB2 ha0
 replace ha1:=old _ _ _ hB2 ha1
 replace ha2:=old _ _ _ hB2 ha2
 replace ha3:=old _ _ _ hB2 ha3
 replace ha4:=old _ _ _ hB2 ha4
 replace ha5:=old _ _ _ hB2 ha5
 replace hb0:=old _ _ _ hB2 hb0
 replace hb1:=old _ _ _ hB2 hb1
 replace hb2:=old _ _ _ hB2 hb2
 replace hb3:=old _ _ _ hB2 hb3
 replace hb4:=old _ _ _ hB2 hb4
 replace hb5:=old _ _ _ hB2 hb5
 have hsz:W2.heap.size=W.heap.size+2:=by rw[hW2]; simp only[World.alloc,Array.size_push]
 replace hB:B<W2.heap.size:=by omega
 replace hB2:B2<W2.heap.size:=by omega
 obtain⟨k1,hk1⟩:∃ k,W.heap.size=k:=⟨_,rfl⟩
 obtain⟨k2,hk2⟩:∃ k,W.heap.size+1=k:=⟨_,rfl⟩
 have hs1:k1<W2.heap.size:=by omega
 have hs2:k2<W2.heap.size:=by omega
 rw[hk2]at c2 ⊢;rw[hk1]at c1 ⊢;clear old hW2 hsz hk1 hk2
 go_region
 all_goals (by_cases e:xg=yg)
 all_goals go_wp2
 all_goals go_ret
 all_goals exact⟨by simp[e],Z3g _ _ eW⟩
end Go.Known
end
section
namespace Go.Proofs
open Go.Shelf
def Tryz.sortPass_ren:Go.Shelf.Ren:=⟨fun|6=>148 | 15=>190 | 14=>189 | 28=>223 | 29=>224 | 20=>215 | 21=>216 | 22=>217 | 23=>218 | 24=>219 | 25=>220 | 26=>221 | 27=>222 | 46=>233 | 47=>234 | 48=>235 | 49=>236 | 50=>237 | 57=>248 | n=>n,fun|22=>206 | 24=>209 | 25=>211 | 3=>3 | 39=>232 | 0=>0 | 53=>259 | 55=>254 | 4=>4 | 46=>269 | 45=>268 | 50=>207 | 5=>5 | 9=>9 | 66=>283 | 70=>275 | 76=>293 | 77=>294 | n=>n,fun|n=>n⟩
theorem Tryz.sortPass:Go.Proofs.SlLaysF0.n6 Tryz.prog Tryz.sortPass_ren:={
 mixed:=by kernel_rfl
 f6:=⟨Tryz.f148.name,by decide,Tryz.func148.trans (congrArg some (by kernel_rfl))⟩
 f14:=⟨Tryz.f189.name,by decide,Tryz.func189.trans (congrArg some (by kernel_rfl))⟩
 f15:=Tryz.func190.trans (congrArg some (by kernel_rfl))
 f20:=⟨Tryz.f215.name,by decide,Tryz.func215.trans (congrArg some (by kernel_rfl))⟩
 f21:=⟨Tryz.f216.name,by decide,Tryz.func216.trans (congrArg some (by kernel_rfl))⟩
 f22:=⟨Tryz.f217.name,by decide,Tryz.func217.trans (congrArg some (by kernel_rfl))⟩
 f23:=⟨Tryz.f218.name,by decide,Tryz.func218.trans (congrArg some (by kernel_rfl))⟩
 f24:=⟨Tryz.f219.name,by decide,Tryz.func219.trans (congrArg some (by kernel_rfl))⟩
 f25:=⟨Tryz.f220.name,by decide,Tryz.func220.trans (congrArg some (by kernel_rfl))⟩
 f26:=⟨Tryz.f221.name,by decide,Tryz.func221.trans (congrArg some (by kernel_rfl))⟩
 f27:=⟨Tryz.f222.name,by decide,Tryz.func222.trans (congrArg some (by kernel_rfl))⟩
 f28:=Tryz.func223.trans (congrArg some (by kernel_rfl))
 f29:=Tryz.func224.trans (congrArg some (by kernel_rfl))
 f46:=⟨Tryz.f233.name,by decide,Tryz.func233.trans (congrArg some (by kernel_rfl))⟩
 f47:=Tryz.func234.trans (congrArg some (by kernel_rfl))
 f48:=Tryz.func235.trans (congrArg some (by kernel_rfl))
 f49:=⟨Tryz.f236.name,by decide,Tryz.func236.trans (congrArg some (by kernel_rfl))⟩
 f50:=⟨Tryz.f237.name,by decide,Tryz.func237.trans (congrArg some (by kernel_rfl))⟩
 f57:=⟨Tryz.f248.name,by decide,Tryz.func248.trans (congrArg some (by kernel_rfl))⟩
 t0:=Tryz.underlying0
 a0:=Tryz.isAgg0
 z0:=Tryz.sizeOf0
 v0:=Tryz.zeroValue0
 t3:=Tryz.underlying3
 a3:=Tryz.isAgg3
 z3:=Tryz.sizeOf3
 v3:=Tryz.zeroValue3
 t4:=Tryz.underlying4
 a4:=Tryz.isAgg4
 z4:=Tryz.sizeOf4
 v4:=Tryz.zeroValue4
 t5:=Tryz.underlying5
 a5:=Tryz.isAgg5
 z5:=Tryz.sizeOf5
 v5:=Tryz.zeroValue5
 t9:=Tryz.underlying9
 a9:=Tryz.isAgg9
 z9:=Tryz.sizeOf9
 v9:=Tryz.zeroValue9
 t22:=Tryz.underlying206
 a22:=Tryz.isAgg206
 z22:=Tryz.sizeOf206
 v22:=Tryz.zeroValue206
 t25:=Tryz.underlying211
 a25:=Tryz.isAgg211
 z25:=Tryz.sizeOf211
 v25:=Tryz.zeroValue211
 t39:=Tryz.underlying232
 a39:=Tryz.isAgg232
 z39:=Tryz.sizeOf232
 v39:=Tryz.zeroValue232
 t45:=Tryz.underlying268
 a45:=Tryz.isAgg268
 z45:=Tryz.sizeOf268
 v45:=Tryz.zeroValue268
 t46:=Tryz.underlying269
 a46:=Tryz.isAgg269
 z46:=Tryz.sizeOf269
 v46:=Tryz.zeroValue269
 t50:=Tryz.underlying207
 a50:=Tryz.isAgg207
 z50:=Tryz.sizeOf207
 v50:=Tryz.zeroValue207
 t53:=Tryz.underlying259
 a53:=Tryz.isAgg259
 z53:=Tryz.sizeOf259
 v53:=Tryz.zeroValue259
 t55:=Tryz.underlying254
 a55:=Tryz.isAgg254
 z55:=Tryz.sizeOf254
 v55:=Tryz.zeroValue254
 t66:=Tryz.underlying283
 a66:=Tryz.isAgg283
 z66:=Tryz.sizeOf283
 v66:=Tryz.zeroValue283
 t70:=Tryz.underlying275
 a70:=Tryz.isAgg275
 z70:=Tryz.sizeOf275
 v70:=Tryz.zeroValue275
 t76:=Tryz.underlying293
 a76:=Tryz.isAgg293
 z76:=Tryz.sizeOf293
 v76:=Tryz.zeroValue293
 t77:=Tryz.underlying294
 a77:=Tryz.isAgg294
 z77:=Tryz.sizeOf294
 v77:=Tryz.zeroValue294 }
end Go.Proofs
end
section
namespace Go.AE
open Go.RowKit
def fzBk(get:Nat→Option ABlk)(S:List Nat):ABlk→ABlk
 | .cells k els=>.cells k (D3 get S els)
 | x=>x
def fzBl(get:Nat→Option ABlk)(S:List Nat):List (Nat×ABlk)→List (Nat×ABlk)
 | []=>[]
 | (b,x) :: r=>(b,fzBk get S x) :: fzBl get S r
theorem Zm6{get:Nat→Option ABlk}{S:List Nat}{b:Nat}{x:ABlk}:∀ {l:List (Nat×ABlk)},Z8 (fzBl get S l) b=some x → ∃ y,Z8 l b=some y∧x=fzBk get S y
 | [],h=>by simp[fzBl,Z8]at h
 | (c,y) :: r,h=>by
  simp only[fzBl,Z8]at h ⊢;split at h
  ·rename_i e;injection h with h
   exact⟨y,by rw[if_pos e],h.symm⟩
  ·rename_i e;obtain⟨z,h1,h2⟩:=Zm6 h;exact⟨z,by rw[if_neg e]; exact h1,h2⟩
def fzW(get:Nat→Option ABlk)(S:List Nat):Nat→AVal→AVal
 | 0,x=>x
 | n+1,x=>match x with
  | .agg cs=>.agg (cs.map (fzW get S n))
  | .tuple cs=>.tuple (cs.map (fzW get S n))
  | x=>fzV get S x
theorem Zwl{Φ Φs:Pers}{ρ:Rho}{get:Nat→Option ABlk}{S:List Nat}(hE:Ext Φ ρ Φs ρ)(hf:∀ x v,R Φ ρ x v→R Φs ρ (fzV get S x) v):∀ (n:Nat) (x:AVal) (v:Value),R Φ ρ x v→R Φs ρ (fzW get S n x) v
 | 0,x,v,h=>h.ext hE
 | n+1,x,v,h=>by
  have hmap:∀ (cs:List AVal) (vs:Array Value),(∀(i:Nat) (x:AVal) (v:Value),cs[i]? = some x→vs[i]? = some v→R Φ ρ x v) → ∀(i:Nat) (x:AVal) (v:Value),(cs.map (fzW get S n))[i]? = some x→vs[i]? = some v→R Φs ρ x v:=by
   intro cs vs hr i x v hx hv;rw[List.getElem?_map]at hx;cases h0:cs[i]? with
   | none=>rw[h0]at hx; cases hx
   | some y=>
    rw[h0]at hx;injection hx with hx
    rw[← hx];exact Zwl hE hf n y v (hr i y v h0 hv)
  unfold fzW;split
  ·cases h with
   | agg cs vs hs hr=>exact .agg _ vs (by rw[List.length_map]; exact hs) (hmap _ vs hr)
  ·cases h with
   | tuple cs vs hs hr=>exact .tuple _ vs (by rw[List.length_map]; exact hs) (hmap _ vs hr)
  ·exact hf _ _ h
theorem Ctr.freezeB{P:Program}{g:FuncId}{args:List AVal}{m:SMem}{K K':AVal→SMem→Prop}(h:Ctr P g args m K)(hk:∀ r sm,K r sm → ∃ S,K' (fzW sm.get S 3 r) ⟨fzBl sm.get S (S8 S sm.bl),sm.next⟩):Ctr P g args m K':=by
 refine⟨h.1,fun W Φ ρ vs w hr ha hav=>(h.2 W Φ ρ vs w hr ha hav).mono fun e w' he=>?_⟩
 obtain⟨u,r,m1,Φ',ρ',e1,hE,hk1,hr',hR,hn,sm,rfl,hK⟩:=he;obtain⟨S,hS⟩:=hk r sm hK;obtain⟨Φs,f0,f1,f2,f3,f4⟩:=Zrw S hr';refine⟨u,fzW sm.get S 3 r,SMem.mem ⟨fzBl sm.get S (S8 S sm.bl),sm.next⟩,Φs,ρ',e1,hE.trans f0,hk1,⟨hr'.base,f1,fun b x hx=>?_,fun b b' x x' l l' h1 h2=>?_,hr'.fresh,f2⟩,Zwl f0 f4 3 _ _ hR,hn,_,rfl,hS⟩
 ·obtain⟨y,hy,rfl⟩:=Zm6 hx;obtain⟨h1,h2⟩:=Zbd hy;obtain⟨l',o,g1,g2,g3,g4,g5⟩:=hr'.live b y h1;have hm0:V3 b S=false:=by
   cases hb:V3 b S with
   | false=>rfl
   | true=>exact absurd (memN_iff.1 hb) h2
  refine⟨l',o,g1,g2,f3 b y l' h1 g1 hm0,g4,?_⟩;cases y with
  | cells k els=>exact g5.fz f4
  | map es c=>exact g5.ext f0
  | siter s p=>exact g5.ext f0
  | miter a b c d=>exact g5.ext f0
 ·obtain⟨y,hy,rfl⟩:=Zm6 h1;obtain⟨y',hy',rfl⟩:=Zm6 h2;exact hr'.inj b b' y y' l l' (Zbd hy).1 (Zbd hy').1
end Go.AE
end
