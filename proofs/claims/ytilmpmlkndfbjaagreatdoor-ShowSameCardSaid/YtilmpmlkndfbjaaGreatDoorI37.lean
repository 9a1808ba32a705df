/- Part 37 of the proof: AeSo, Yw, ShSp, AeNl. -/
import Derived.Test.YtilmpmlkndfbjaaGreatDoorI14
import Derived.Test.YtilmpmlkndfbjaaGreatDoorI31
import Derived.Shelf.SlSortCmp.NoneTotal
import Derived.Test.YtilmpmlkndfbjaaGreatDoorProg
import Derived.Deep.QuietTactic
import Derived.BigQuiet
import Derived.RegionTactic
import Derived.ChangeAlike
import Derived.BigRegion
import Derived.Sort.Grow
import Derived.WalkKit
set_option linter.all false
section
namespace Go.AE
open Go.RowKit Go.Sort Go.Shelf Go.Proofs
structure RowEnc {α:Type} (enc:α→List Value) (encA:α→List AVal) (k:Nat):Prop where
 pos:0<k
 len:∀ x,(enc x).length=k
 lenA:∀ x,(encA x).length=k
 one:∀ x,∀ v∈enc x,v.oneCell'=true
 rel:∀ (Φ:Pers) (ρ:Rho) (x:α) (j:Nat) (y:AVal) (v:Value),(encA x)[j]? = some y→(enc x)[j]? = some v→R Φ ρ y v
 det:∀ (Φ:Pers) (ρ:Rho) (x:α) (j:Nat) (y:AVal) (v v':Value),(encA x)[j]? = some y→(enc x)[j]? = some v→R Φ ρ y v'→v'=v
theorem Yfo{W:Base}{Φ:Pers}{ρ:Rho}{m:Mem}{w:World}(h:Rel W Φ ρ m w)(n:Nat):Rel W Φ ρ m (Sort.ahead w n):=
 h.below ⟨rfl,rfl,rfl,Nat.le_refl _,fun _ _=>rfl⟩
theorem Ybi{W:Base}{Φ:Pers}{ρ:Rho}{m:Mem}{w:World}(h:Rel W Φ ρ m w)(os:Array Obj):Rel W Φ ρ m (Sort.grow w os):=
 h.below ⟨rfl,rfl,rfl,by simp,fun k a=>by
  show(w.heap++os)[k]? = w.heap[k]?;rw[Array.getElem?_append,if_pos a]⟩
theorem Yg0{w:World}{B:Nat}{f:Array Value→Array Value}{c:Array Value}{e:TypeId}{fr:Nat×Nat}(h:w.heap[B]? = some (.cells c e fr)):mapBlock w B f=Q6 w B (.cells (f c) e fr):=by
 unfold mapBlock Q6
 congr 1
 apply Array.ext_getElem?;intro i;simp only[Array.getElem?_modify,Array.getElem?_setIfInBounds];by_cases hi:B=i
 ·subst hi;simp only[if_true,h,Option.map_some,onCells];rw[if_pos (B5 h)]
 ·simp[hi]
section
variable {α:Type} [Inhabited α] {enc:α→List Value} {encA:α→List AVal} {k:Nat}
theorem Yd2(E:RowEnc enc encA k)(a:Array α)(i j:Nat)(hi:i<a.size)(d:j<k):(flatK enc k a)[i*k+j]! = (enc a[i]!)[j]!:=by
 have lt:i*k+j<a.size*k:=by
  have:=Nat.mul_le_mul_right k (show i+1≤a.size from hi); rw[Nat.add_mul,Nat.one_mul]at this; omega
 have b:(i*k+j) / k=i:=(blk_iff k i _ E.pos).1 ⟨by omega,by omega⟩
 have c:(i*k+j) % k=j:=by rw[Nat.mod_eq_sub_div_mul,b]; omega
 rw[get_flatK _ _ _ _ lt,b,c]
theorem Z89(E:RowEnc enc encA k){W:Base}{Φ:Pers}{ρ:Rho}{m:Mem}{w:World}(h:Rel W Φ ρ m w){b off:Nat}{els:List (List AVal)}{l:Loc}(L:m.get b=some (.cells k els))(M:ρ b=some l)(a:Array α)(hd:off+a.size≤els.length)(n:Nat)(os:Array Obj) :
 Rel W Φ ρ (m.set b (.cells k (els.take off++a.toList.map encA++els.drop (off+a.size)))) (sortWorldK enc k w l.blk ((l.sh+off)*k) n a os):=by
 unfold sortWorldK;refine Ybi ?_ os;obtain⟨l',o,D,g2,g3,Q,S⟩:=h.live b _ L;rw[M]at D; injection D with D; subst D
 cases S with
 | cells _ _ _ c e Y N Z f U=>
  have I:(Sort.ahead w n).heap[l.blk]? = some (.cells c e (0,0)):=Q;unfold putRowK putRow;rw[Yg0 I];refine Zp1 (Yfo h n) L M ?_;have B:(putCells id ((l.sh+off)*k) (flatK enc k a) c).size=c.size:=by simp[putCells]
  have p:∀ t,t<c.size→(putCells id ((l.sh+off)*k) (flatK enc k a) c)[t]? = some (if (l.sh+off)*k≤t∧t<(l.sh+off)*k+a.size*k then (flatK enc k a)[t - (l.sh+off)*k]! else c[t]!):=by
   intro t G;simp only[putCells,Array.getElem?_mapIdx,size_flatK,id];rw[Array.getElem?_eq_getElem G];simp[G]
  refine .cells k _ l _ e Y (by rw[B]; exact N) ?_ ⟨fun i row hi=>?_,fun i row j y hi F=>?_⟩ fun v hv=>?_
  ·simp;omega
  ·rw[List.append_assoc,List.getElem?_append]at hi;split at hi
   ·exact f.1 i row (by rw[List.getElem?_take]at hi; split at hi; exact hi; cases hi)
   ·rw[List.getElem?_append]at hi;split at hi
    ·rw[List.getElem?_map]at hi;cases H:a.toList[i - (els.take off).length]? with
     | none=>rw[H]at hi; cases hi
     | some x=>rw[H]at hi; injection hi with hi; rw[← hi]; exact E.lenA x
    ·rw[List.getElem?_drop]at hi;exact f.1 _ row hi
  ·have C:(els.take off).length=off:=by simp; omega
   have z:(a.toList.map encA).length=a.size:=by simp
   have keep:els[i]? = some row→(i<off∨off+a.size≤i) → ∃ v,(putCells id ((l.sh+off)*k) (flatK enc k a) c)[(l.sh+i)*k+j]? = some v∧v.oneCell'=true∧R Φ ρ y v:=by
    intro u A;obtain⟨v,O,k2,k3⟩:=f.2 i row j y u F;have q:j<k:=by rw[← f.1 i row u]; exact(gS.1 F).1
    have d:(l.sh+i)*k+j<c.size:=(Array.getElem?_eq_some_iff.1 O).1;refine⟨v,?_,k2,k3⟩;rw[p _ d,if_neg,← O,Array.getElem?_eq_getElem d,getElem!_pos c _ d];rintro⟨q1,q2⟩;rcases A with ho|ho
    ·have:=Nat.mul_le_mul_right k (show l.sh+i+1≤l.sh+off by omega)
     rw[Nat.add_mul,Nat.one_mul]at this;omega
    ·have:=Nat.mul_le_mul_right k (show l.sh+off+a.size≤l.sh+i by omega)
     rw[Nat.add_mul]at this;omega
   rw[List.append_assoc,List.getElem?_append]at hi;split at hi
   ·rename_i d;rw[C]at d;exact keep (by rw[List.getElem?_take,if_pos d]at hi; exact hi) (.inl d)
   ·rename_i J;rw[C]at J hi;rw[List.getElem?_append]at hi;split at hi
    ·rename_i d;rw[z]at d;rw[List.getElem?_map]at hi;have H:a.toList[i - off]? = some a[i - off]!:=by
      rw[gE (by simpa using d),getElem!_pos a _ d]; simp
     rw[H]at hi;injection hi with hi
     subst hi;have q:j<k:=by rw[← E.lenA a[i - off]!]; exact(gS.1 F).1
     have V:(l.sh+i)*k+j<c.size:=by
      rw[N];have:=Nat.mul_le_mul_right k (show l.sh+i+1≤l.n by omega)
      rw[Nat.add_mul,Nat.one_mul]at this;omega
     have e0:(l.sh+i)*k=(l.sh+off)*k+(i - off)*k:=by rw[← Nat.add_mul]; congr 1; omega
     have X:(i - off)*k+k≤a.size*k:=by
      have:=Nat.mul_le_mul_right k (show (i - off)+1≤a.size by omega); rwa[Nat.add_mul,Nat.one_mul]at this
     have r:(enc a[i - off]!)[j]? = some (enc a[i - off]!)[j]!:=by
      have:j<(enc a[i - off]!).length:=by rw[E.len]; exact q
      rw[gE this,getElem!_pos _ j this]
     refine⟨(enc a[i - off]!)[j]!,?_,?_,E.rel Φ ρ _ j y _ F r⟩
     ·rw[p _ V,if_pos ⟨by omega,by omega⟩]
      congr 1
      rw[show (l.sh+i)*k+j - (l.sh+off)*k=(i - off)*k+j by omega]
      exact Yd2 E a (i - off) j d q
     ·exact E.one _ _ (List.mem_of_getElem? r)
    ·rename_i s;rw[z]at s hi;rw[List.getElem?_drop]at hi;have P:off+a.size+(i - off - a.size)=i:=by omega
     rw[P]at hi;exact keep hi (.inr (by omega))
  ·obtain⟨t,G,rfl⟩:=List.getElem_of_mem hv;have g:t<c.size:=by simpa[putCells]using G
   have:=p t g;rw[Array.getElem?_eq_getElem (by rw[B]; exact g)]at this
   injection this with this
   rw[Array.getElem_toList,this];split
   ·rename_i hc;have d:t - (l.sh+off)*k<a.size*k:=by omega
    rw[get_flatK _ _ _ _ d];have hm:(t - (l.sh+off)*k) % k<(enc a[(t - (l.sh+off)*k) / k]!).length:=by rw[E.len]; exact Nat.mod_lt _ E.pos
    have K:(enc a[(t - (l.sh+off)*k) / k]!)[(t - (l.sh+off)*k) % k]! = (enc a[(t - (l.sh+off)*k) / k]!)[(t - (l.sh+off)*k) % k]:=getElem!_pos (enc a[(t - (l.sh+off)*k) / k]!) _ hm;rw[K];exact E.one _ _ (List.getElem_mem hm)
   ·rw[getElem!_pos c t g];exact U _ (Array.getElem_mem_toList g)
theorem Z33(E:RowEnc enc encA k){W:Base}{Φ:Pers}{ρ:Rho}{m:Mem}{w:World}(h:Rel W Φ ρ m w){b off:Nat}{els:List (List AVal)}{l:Loc}(z:m.get b=some (.cells k els))(A:ρ b=some l)(d:Array α)
 (y:∀ i,i<d.size→els[off+i]? = some (encA d[i]!)):HoldsK enc k w l.blk ((l.sh+off)*k) d∧l.blk<w.heap.size:=by
 obtain⟨l',o,g,H,I,j,u⟩:=h.live b _ z;rw[A]at g; injection g with g; subst g
 refine⟨?_,B5 j⟩;cases u with
 | cells _ _ _ c e K L B a J=>
  intro t p;rw[size_flatK]at p;have C:t / k<d.size:=Nat.div_lt_of_lt_mul (by rw[Nat.mul_comm]; exact p)
  have s:t % k<k:=Nat.mod_lt _ E.pos;have q:t % k<(encA d[t / k]!).length:=by rw[E.lenA]; exact s
  have r:t % k<(enc d[t / k]!).length:=by rw[E.len]; exact s
  obtain⟨v,F,M,G⟩:=a.2 (off+t / k) _ (t % k) _ (y _ C) (gE q);have D:=E.det Φ ρ d[t / k]! (t % k) _ _ v (gE q) (gE r) G;have f:(l.sh+off)*k+t=(l.sh+(off+t / k))*k+t % k:=by
   have:=Nat.div_add_mod t k;rw[Nat.mul_comm]at this;rw[← Nat.add_assoc,Nat.add_mul (l.sh+off)];omega
  refine⟨?_,?_⟩
  ·simp only[World.cell?,j,Option.isSome_none,bF,if_false,id];have n:(enc d[t / k]!)[t % k]! = (enc d[t / k]!)[t % k]:=getElem!_pos (enc d[t / k]!) _ r;rw[f,F,D,get_flatK _ _ _ _ p,n]
  ·simp[World.frozen?,j]
variable {P:Program} {rn:Ren}
theorem Z24(L:SlLaysF0.n6 P rn)(hb:Zic P (rn.f 6))(aE:∀ w,(isAgg (rn.t 24)).run P w=.ok true w)(zE:∀ w,(Go.sizeOf (rn.t 24)).run P w=.ok k w)(E:RowEnc enc encA k)(H:α→α→Int)(hO:SWO (Go.Proofs.ltOf H))(g:Nat)
 (eg:∀ args w,(callFunc g args).run P w=.ok (.enter g args) w) {m:Mem} {b off:Nat} {els:List (List AVal)} {cb:List AVal} (O:m.get b=some (.cells k els)) (d:List α) (N:d≠[]) (hd:(els.drop off).take d.length=d.map encA) (ai:d.length≤1000000)
 (hc:∀ (W:Base) (Φ:Pers) (ρ:Rho) (G:Array Value) (x:ABlk) (w:World),Rel W Φ ρ (m.set b x) w→RL Φ ρ cb G → ∀ x y:α,
   Calls P g (#[.agg (enc x).toArray,.agg (enc y).toArray]++G) w fun e w'=>e=.returned (.int .i64 (H x y)) ∧ ∃ q os,w'=Sort.grow (w.drewN q) os) :
 ACalls P (rn.f 6) [.sl b off d.length,.func (.func g) [] cb] m [] fun r m'=>r=aundef ∧ ∃ p:List α,p.Perm d∧(∀ i j,i<j→j<p.length→Go.Proofs.ltOf H p[j]! p[i]! = false) ∧
  m'=m.set b (.cells k (els.take off++p.map encA++els.drop (off+d.length))):=by
 refine⟨hb,fun W Φ ρ vs w X K ad=>?_⟩
 obtain⟨v1,v2,rfl⟩:∃ v1 v2,vs = #[v1,v2]:=by
  have Z:vs.size=2:=by simpa using K.1
  refine⟨vs[0],vs[1],?_⟩;apply Array.ext
  ·simp[Z]
  ·intro i J h2;have:i=0∨i=1:=by omega
   rcases this with rfl|rfl<;>rfl
 have r1:=K.2 0 _ v1 rfl rfl;have r2:=K.2 1 _ v2 rfl rfl;have ae:0<d.length:=List.length_pos_iff.2 N;have D:∀ i,i<d.toArray.size→els[off+i]? = some (encA d.toArray[i]!):=by
  intro i hi;have A:i<d.length:=by simpa using hi
  have J:((els.drop off).take d.length)[i]? = (d.map encA)[i]?:=by rw[hd]
  rw[List.getElem?_take,if_pos A,List.getElem?_drop,List.getElem?_map,gE A]at J;rw[J];simp[A]
 have F:off+d.length≤els.length:=by
  have:=D (d.length - 1) (by simp; omega)
  have:=(gS.1 this).1;omega
 cases r1 with
 | sl _ _ _ a cap l U ag ah C ac=>
  have ea:=C (by omega)
  subst ea;cases r2 with
  | func _ _ _ vf G hf aa af M=>
   have ab:vf = #[]:=Array.size_eq_zero_iff.1 (by simpa using hf)
   subst ab;have V:l.k=k:=by
    obtain⟨l',o,I,g2,g3,g4,g5⟩:=X.live b _ O;rw[U]at I; injection I with I; subst I
    cases g5 with
    | cells _ _ _ c e hk hn F Y J=>exact hk
   obtain⟨hH,B⟩:=Z33 E X O U d.toArray D;have hS:∀ (z:Array α),z.size=d.length → ∀ n os,Rel W Φ ρ (m.set b (.cells k (els.take off++z.toList.map encA++els.drop (off+d.length)))) (sortWorldK enc k w l.blk ((l.sh+off)*k) n z os):=by
    intro z u n os;have:=Z89 E X O U z (off:=off) (by rw[u]; exact F) n os
    rw[u]at this;exact this
   have s:=Go.Proofs.AnyQ.slices_SortFunc L k aE zE enc E.len E.one H hO g G l.blk ((l.sh+off)*k) cap d.toArray w eg
    (fun mm os z u x y=>hc W Φ ρ G _ _ (hS z (by simpa using u) mm os) ⟨aa,M⟩ x y) hH B (by simp; omega)
   rw[V];rw[show d.toArray.size=d.length by simp]at s
   refine s.mono ?_;rintro e w' ⟨rfl,p,n,os,hp,Z,rfl⟩;have v:p.size=d.length:=by rw[hp.1]; simp
   refine⟨_,aundef,_,Φ,ρ,rfl,.refl _ _,fun _ _ _ h=>h,hS p v n os,Zfb _ _,Nat.le_refl _,rfl,p.toList,?_,?_,rfl⟩
   ·have:=hp.2.2;have e1:p.extract 0 d.length=p:=by rw[← v]; exact Array.extract_size
    have e2:d.toArray.extract 0 d.length=d.toArray:=by
     have:d.length=d.toArray.size:=by simp
     rw[this]; exact Array.extract_size
    rw[e1,e2]at this;simpa using this
   ·intro i j Q hj;have S:j<p.size:=by simpa using hj
    have:=Z i j (Nat.zero_le _) Q (by omega)
    rw[getElem!_pos p j S,getElem!_pos p i (by omega)]at this
    rw[getElem!_pos _ j hj,getElem!_pos _ i (by omega)]
    simpa using this
end
end Go.AE
end
section
namespace Go.Known
open Go Go.Proofs Go.Sort
theorem Yc7{P:Program}{c:Code}{Q:Exit→Act→World→Prop}{a:Act}{w w2:World}(h:Code.wp P c Q a w2)(e:w2=w):Code.wp P c Q a w:=e ▸ h
theorem Ygk{W c:World}(a b:Obj)(h:∃ os,c=Sort.grow W os):∃ q os,((c.alloc a).alloc b).drew=Sort.grow (W.drewN q) os:=by
 obtain⟨os,rfl⟩:=h;exact⟨1,os ++ #[a] ++ #[b],by rw[alloc_eq_grow,alloc_eq_grow,grow_grow,grow_grow]; rfl⟩
set_option maxHeartbeats 8000000 in
theorem Ygr(j M l N:Nat)(m J p K:Int)(x0 x3 x4 y0 y3 y4:Int)(x5 y5:Bool)(B o c g n cap:Nat)(W:World)(O:B<W.heap.size)(a:c<W.heap.size)
 (P:W.cell? ⟨B,o+1,none⟩=some (.slice (some ⟨c,g,none⟩) n cap)) (hx:j<n) (hy:l<n)
 (r:W.cell? ⟨c,g+j*6,none⟩=some (.int .i64 x0)) (s:W.cell? ⟨c,g+j*6+1,none⟩=some (.int .i64 m)) (u:W.cell? ⟨c,g+j*6+2,none⟩=some (.int .i64 J))
 (w:W.cell? ⟨c,g+j*6+3,none⟩=some (.int .i64 x3)) (y:W.cell? ⟨c,g+j*6+4,none⟩=some (.int .i64 x4)) (z:W.cell? ⟨c,g+j*6+5,none⟩=some (.bool x5))
 (A:W.cell? ⟨c,g+l*6,none⟩=some (.int .i64 y0)) (C:W.cell? ⟨c,g+l*6+1,none⟩=some (.int .i64 p)) (D:W.cell? ⟨c,g+l*6+2,none⟩=some (.int .i64 K))
 (E:W.cell? ⟨c,g+l*6+3,none⟩=some (.int .i64 y3)) (F:W.cell? ⟨c,g+l*6+4,none⟩=some (.int .i64 y4)) (G:W.cell? ⟨c,g+l*6+5,none⟩=some (.bool y5))
 (Y:IntKind.i64.wrap (m - p)=m - p) (Z:IntKind.i64.wrap (J - K)=J - K) :
 Calls Tryz.prog 102 #[.agg #[.int .i64 j,.int .i64 M],.agg #[.int .i64 l,.int .i64 N],.pointer (some ⟨B,o,none⟩)] W fun e w'=>e=.returned (.int .i64 (if m=p then J - K else m - p)) ∧ ∃ q os,w'=Sort.grow (W.drewN q) os:=by
 go_enter Tryz.func102,Tryz.ntmps102
 go_wp2
 obtain⟨i,d⟩:∃ i,i=(W.alloc (.cells #[.int .i64 j,.int .i64 M] 173)).alloc (.cells #[.int .i64 l,.int .i64 N] 173):=⟨_,rfl⟩
 refine Yc7 (w2:=i) ?_ (by rw[d])
 have old:∀ (b off:Nat) (v:Value),b<W.heap.size→W.cell? ⟨b,off,none⟩=some v→i.cell? ⟨b,off,none⟩=some v:=fun b off v hb h=>by
  rw[d];simp only[World.cell?,World.alloc,Array.getElem?_push,Array.size_push]at h ⊢;rw[if_neg (by omega),if_neg (by omega)]
  exact h
 have Q:i.cell? ⟨W.heap.size,0,none⟩=some (.int .i64 j):=by
  rw[d];simp only[World.cell?,World.alloc,Array.getElem?_push,Array.size_push];simp
 have S:i.cell? ⟨W.heap.size+1,0,none⟩=some (.int .i64 l):=by
  rw[d];simp only[World.cell?,World.alloc,Array.getElem?_push,Array.size_push];simp
 have U:∃ os,i=Sort.grow W os:=⟨#[.cells #[.int .i64 j,.int .i64 M] 173,.cells #[.int .i64 l,.int .i64 N] 173],by
  rw[d,alloc_eq_grow,alloc_eq_grow,grow_grow]; rfl⟩
 replace P:=old _ _ _ O P
 replace r:=old _ _ _ a r
 replace s:=old _ _ _ a s
 replace u:=old _ _ _ a u
 replace w:=old _ _ _ a w
 replace y:=old _ _ _ a y
 replace z:=old _ _ _ a z
 replace A:=old _ _ _ a A
 replace C:=old _ _ _ a C
 replace D:=old _ _ _ a D
 replace E:=old _ _ _ a E
 replace F:=old _ _ _ a F
 replace G:=old _ _ _ a G
 have L:i.heap.size=W.heap.size+2:=by rw[d]; simp only[World.alloc,Array.size_push]
 replace O:B<i.heap.size:=by omega
 replace a:c<i.heap.size:=by omega
 obtain⟨k1,H⟩:∃ k,W.heap.size=k:=⟨_,rfl⟩
 obtain⟨k2,I⟩:∃ k,W.heap.size+1=k:=⟨_,rfl⟩
 have V:k1<i.heap.size:=by omega
 have X:k2<i.heap.size:=by omega
 rw[I]at S ⊢;rw[H]at Q ⊢;clear old d L H I
 go_region
 all_goals (by_cases e:m=p)
 all_goals go_wp2
 all_goals go_ret
 all_goals exact⟨by simp[e],Ygk _ _ U⟩
end Go.Known
end
section
namespace Go.Proofs
open Go.Shelf
def Tryz.sortPass_ren:Go.Shelf.Ren:=⟨fun|6=>101 | 15=>135 | 14=>134 | 28=>168 | 29=>169 | 20=>160 | 21=>161 | 22=>162 | 23=>163 | 24=>164 | 25=>165 | 26=>166 | 27=>167 | 46=>182 | 47=>183 | 48=>184 | 49=>185 | 50=>186 | 57=>194 | n=>n,fun|22=>170 | 24=>173 | 25=>175 | 3=>3 | 39=>183 | 0=>0 | 53=>210 | 55=>205 | 4=>4 | 46=>225 | 45=>224 | 50=>171 | 5=>5 | 9=>9 | 66=>244 | 70=>231 | 76=>252 | 77=>253 | n=>n,fun|n=>n⟩
theorem Tryz.sortPass:Go.Proofs.SlLaysF0.n6 Tryz.prog Tryz.sortPass_ren:={
 mixed:=by kernel_rfl
 f6:=⟨Tryz.f101.name,by decide,Tryz.func101.trans (congrArg some (by kernel_rfl))⟩
 f14:=⟨Tryz.f134.name,by decide,Tryz.func134.trans (congrArg some (by kernel_rfl))⟩
 f15:=Tryz.func135.trans (congrArg some (by kernel_rfl))
 f20:=⟨Tryz.f160.name,by decide,Tryz.func160.trans (congrArg some (by kernel_rfl))⟩
 f21:=⟨Tryz.f161.name,by decide,Tryz.func161.trans (congrArg some (by kernel_rfl))⟩
 f22:=⟨Tryz.f162.name,by decide,Tryz.func162.trans (congrArg some (by kernel_rfl))⟩
 f23:=⟨Tryz.f163.name,by decide,Tryz.func163.trans (congrArg some (by kernel_rfl))⟩
 f24:=⟨Tryz.f164.name,by decide,Tryz.func164.trans (congrArg some (by kernel_rfl))⟩
 f25:=⟨Tryz.f165.name,by decide,Tryz.func165.trans (congrArg some (by kernel_rfl))⟩
 f26:=⟨Tryz.f166.name,by decide,Tryz.func166.trans (congrArg some (by kernel_rfl))⟩
 f27:=⟨Tryz.f167.name,by decide,Tryz.func167.trans (congrArg some (by kernel_rfl))⟩
 f28:=Tryz.func168.trans (congrArg some (by kernel_rfl))
 f29:=Tryz.func169.trans (congrArg some (by kernel_rfl))
 f46:=⟨Tryz.f182.name,by decide,Tryz.func182.trans (congrArg some (by kernel_rfl))⟩
 f47:=Tryz.func183.trans (congrArg some (by kernel_rfl))
 f48:=Tryz.func184.trans (congrArg some (by kernel_rfl))
 f49:=⟨Tryz.f185.name,by decide,Tryz.func185.trans (congrArg some (by kernel_rfl))⟩
 f50:=⟨Tryz.f186.name,by decide,Tryz.func186.trans (congrArg some (by kernel_rfl))⟩
 f57:=⟨Tryz.f194.name,by decide,Tryz.func194.trans (congrArg some (by kernel_rfl))⟩
 t0:=Tryz.underlying0
 a0:=Tryz.isAgg0
 z0:=Tryz.sizeOf0
 v0:=Tryz.zeroValue0
 t3:=Tryz.underlying3
 a3:=Tryz.isAgg3
 z3:=Tryz.sizeOf3
 v3:=Tryz.zeroValue3
 t4:=Tryz.underlying4
 a4:=Tryz.isAgg4
 z4:=Tryz.sizeOf4
 v4:=Tryz.zeroValue4
 t5:=Tryz.underlying5
 a5:=Tryz.isAgg5
 z5:=Tryz.sizeOf5
 v5:=Tryz.zeroValue5
 t9:=Tryz.underlying9
 a9:=Tryz.isAgg9
 z9:=Tryz.sizeOf9
 v9:=Tryz.zeroValue9
 t22:=Tryz.underlying170
 a22:=Tryz.isAgg170
 z22:=Tryz.sizeOf170
 v22:=Tryz.zeroValue170
 t25:=Tryz.underlying175
 a25:=Tryz.isAgg175
 z25:=Tryz.sizeOf175
 v25:=Tryz.zeroValue175
 t39:=Tryz.underlying183
 a39:=Tryz.isAgg183
 z39:=Tryz.sizeOf183
 v39:=Tryz.zeroValue183
 t45:=Tryz.underlying224
 a45:=Tryz.isAgg224
 z45:=Tryz.sizeOf224
 v45:=Tryz.zeroValue224
 t46:=Tryz.underlying225
 a46:=Tryz.isAgg225
 z46:=Tryz.sizeOf225
 v46:=Tryz.zeroValue225
 t50:=Tryz.underlying171
 a50:=Tryz.isAgg171
 z50:=Tryz.sizeOf171
 v50:=Tryz.zeroValue171
 t53:=Tryz.underlying210
 a53:=Tryz.isAgg210
 z53:=Tryz.sizeOf210
 v53:=Tryz.zeroValue210
 t55:=Tryz.underlying205
 a55:=Tryz.isAgg205
 z55:=Tryz.sizeOf205
 v55:=Tryz.zeroValue205
 t66:=Tryz.underlying244
 a66:=Tryz.isAgg244
 z66:=Tryz.sizeOf244
 v66:=Tryz.zeroValue244
 t70:=Tryz.underlying231
 a70:=Tryz.isAgg231
 z70:=Tryz.sizeOf231
 v70:=Tryz.zeroValue231
 t76:=Tryz.underlying252
 a76:=Tryz.isAgg252
 z76:=Tryz.sizeOf252
 v76:=Tryz.zeroValue252
 t77:=Tryz.underlying253
 a77:=Tryz.isAgg253
 z77:=Tryz.sizeOf253
 v77:=Tryz.zeroValue253 }
end Go.Proofs
end
section
namespace Go.AE
open Go.RowKit
def fzBk(get:Nat→Option ABlk)(S:List Nat):ABlk→ABlk
 | .cells k els=>.cells k (C8 get S els)
 | x=>x
def fzBl(get:Nat→Option ABlk)(S:List Nat):List (Nat×ABlk)→List (Nat×ABlk)
 | []=>[]
 | (b,x) :: r=>(b,fzBk get S x) :: fzBl get S r
theorem Znx{get:Nat→Option ABlk}{S:List Nat}{b:Nat}{x:ABlk}:∀ {l:List (Nat×ABlk)},Z9 (fzBl get S l) b=some x → ∃ y,Z9 l b=some y∧x=fzBk get S y
 | [],h=>by simp[fzBl,Z9]at h
 | (c,y) :: r,h=>by
  simp only[fzBl,Z9]at h ⊢;split at h
  ·rename_i e;injection h with h
   exact⟨y,by rw[if_pos e],h.symm⟩
  ·rename_i e;obtain⟨z,a,d⟩:=Znx h;exact⟨z,by rw[if_neg e]; exact a,d⟩
def fzW(get:Nat→Option ABlk)(S:List Nat):Nat→AVal→AVal
 | 0,x=>x
 | n+1,x=>match x with
  | .agg cs=>.agg (cs.map (fzW get S n))
  | .tuple cs=>.tuple (cs.map (fzW get S n))
  | x=>fzV get S x
theorem Zta{Φ Φs:Pers}{ρ:Rho}{get:Nat→Option ABlk}{S:List Nat}(f:Ext Φ ρ Φs ρ)(g:∀ x v,R Φ ρ x v→R Φs ρ (fzV get S x) v):∀ (n:Nat) (x:AVal) (v:Value),R Φ ρ x v→R Φs ρ (fzW get S n x) v
 | 0,x,v,h=>h.ext f
 | n+1,x,v,h=>by
  have a:∀ (cs:List AVal) (vs:Array Value),(∀(i:Nat) (x:AVal) (v:Value),cs[i]? = some x→vs[i]? = some v→R Φ ρ x v) → ∀(i:Nat) (x:AVal) (v:Value),(cs.map (fzW get S n))[i]? = some x→vs[i]? = some v→R Φs ρ x v:=by
   intro cs vs c i x v b j;rw[List.getElem?_map]at b;cases d:cs[i]? with
   | none=>rw[d]at b; cases b
   | some y=>
    rw[d]at b;injection b with b
    rw[← b];exact Zta f g n y v (c i y v d j)
  unfold fzW;split
  ·cases h with
   | agg cs vs e c=>exact .agg _ vs (by rw[List.length_map]; exact e) (a _ vs c)
  ·cases h with
   | tuple cs vs e c=>exact .tuple _ vs (by rw[List.length_map]; exact e) (a _ vs c)
  ·exact g _ _ h
theorem Ctr.freezeB{P:Program}{g:FuncId}{args:List AVal}{m:SMem}{K K':AVal→SMem→Prop}(h:Ctr P g args m K)(Y:∀ r i,K r i → ∃ S,K' (fzW i.get S 3 r) ⟨fzBl i.get S (R0 S i.bl),i.next⟩):Ctr P g args m K':=by
 refine⟨h.1,fun W Φ ρ vs w hr U v=>(h.2 W Φ ρ vs w hr U v).mono fun e w' X=>?_⟩
 obtain⟨u,r,m1,aa,ρ',F,M,z,f,O,Z,i,rfl,N⟩:=X;obtain⟨S,Q⟩:=Y r i N;obtain⟨Φs,j,G,H,I,D⟩:=Zpj S f;refine⟨u,fzW i.get S 3 r,SMem.mem ⟨fzBl i.get S (R0 S i.bl),i.next⟩,Φs,ρ',F,M.trans j,z,⟨f.base,G,fun b x hx=>?_,fun b b' x x' l l' q t=>?_,f.fresh,H⟩,Zta j D 3 _ _ O,Z,_,rfl,Q⟩
 ·obtain⟨y,B,rfl⟩:=Znx hx;obtain⟨q,t⟩:=Za8 B;obtain⟨l',o,E,J,g3,L,n⟩:=f.live b y q;have A:V8 b S=false:=by
   cases V:V8 b S with
   | false=>rfl
   | true=>exact absurd (memN_iff.1 V) t
  refine⟨l',o,E,J,I b y l' q E A,L,?_⟩;cases y with
  | cells k els=>exact n.fz D
  | map es c=>exact n.ext j
  | siter s p=>exact n.ext j
  | miter a b c d=>exact n.ext j
 ·obtain⟨y,B,rfl⟩:=Znx q;obtain⟨y',C,rfl⟩:=Znx t;exact f.inj b b' y y' l l' (Za8 B).1 (Za8 C).1
end Go.AE
end
