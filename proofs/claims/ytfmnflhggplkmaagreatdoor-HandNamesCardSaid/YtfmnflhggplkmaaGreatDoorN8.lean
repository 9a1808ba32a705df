/- Part 8 of the proof: AeM, AeLoc. -/
import Derived.Test.YtfmnflhggplkmaaGreatDoorN3
import Derived.Test.YtfmnflhggplkmaaGreatDoorN7
set_option linter.all false
section
namespace Go.AE
open Go.RowKit
section
variable {P:Program} {s:Sem Next} {W:Base} {Φ:Pers} {ρ:Rho} {id:Nat} {w w1:World} {m m':Mem} {x:AVal} {v:Value}
theorem firstCells_zero (k:Nat) (a:Option Addr) (n c:Nat):(Builtin.firstCells k 0 (.slice a n c)).run P w=.ok #[] w:=by
 cases a with
 | none=>rfl
 | some a=>simp only[Builtin.firstCells,Nat.zero_mul]; rfl
theorem rowsIn_nil (k:Nat):RowsIn Φ ρ [] 0 k #[]:=⟨fun i row h=>by simp at h,fun i row j x h=>by simp at h⟩
theorem src_ok {k:Nat} {y:AVal} {xs:List (List AVal)} (hr:Rel W Φ ρ m w) (hy:R Φ ρ y v) (hs:srcRows m k y=some xs) (hk:0<k) :
 ∃ arr:Array Value,(Builtin.lenOf v).run P w=.ok xs.length w∧(∀ q,q≤xs.length→(Builtin.firstCells k q v).run P w=.ok (arr.extract 0 (q*k)) w)∧arr.size=xs.length*k∧RowsIn Φ ρ xs 0 k arr:=by
 have empty:∀ (a:Option Addr) (cap:Nat),∃ arr:Array Value,(Builtin.lenOf (.slice a 0 cap)).run P w=.ok ([]:List (List AVal)).length w ∧
  (∀ q,q≤([]:List (List AVal)).length→(Builtin.firstCells k q (.slice a 0 cap)).run P w=.ok (arr.extract 0 (q*k)) w)∧arr.size=([]:List (List AVal)).length*k∧RowsIn Φ ρ [] 0 k arr:=by
  intro a cap
  refine⟨#[],rfl,fun q hq=>?_,by simp,rowsIn_nil k⟩
  obtain rfl:q=0:=by simpa using hq
  rw[firstCells_zero]; simp
 cases hy with
 | str l=>
  simp only[srcRows]at hs
  split at hs
  ·rename_i hk1
   subst hk1
   injection hs with hs
   subst hs
   refine⟨(l.map fun b=>Value.int .u8 b.toNat).toArray,?_,fun q hq=>?_,by simp,fun i row hi=>?_,fun i row j y hi hj=>?_⟩
   ·simp only[Builtin.lenOf,Sem.run_pure,List.length_map]; rfl
   ·simp only[Builtin.firstCells,Sem.run_pure,extract_mk]
    congr 1
    apply Array.ext'
    simp[List.map_take]
   ·rw[List.getElem?_map]at hi
    cases hl:l[i]? with
    | none=>simp[hl]at hi
    | some c=>simp only[hl,Option.map_some,Option.some.injEq]at hi; subst hi; rfl
   ·rw[List.getElem?_map]at hi
    cases hl:l[i]? with
    | none=>simp[hl]at hi
    | some c=>
     simp only[hl,Option.map_some,Option.some.injEq]at hi
     subst hi
     have hj0:j=0:=by
      have:=(List.getElem?_eq_some_iff.1 hj).1
      simp[byteRow]at this; exact this
     subst hj0
     simp only[byteRow,List.getElem?_cons_zero,Option.some.injEq]at hj
     subst hj
     exact⟨.int .u8 c.toNat,by simp[hl],rfl,.int _ _⟩
  ·cases hs
 | nilSl=>simp only[srcRows,rowsOf,Option.some.injEq]at hs; subst hs; exact empty none 0
 | emp a=>simp only[srcRows,rowsOf,Option.some.injEq]at hs; subst hs; exact empty a 0
 | imm0 a cap _=>simp only[srcRows,rowsOf,List.all_nil,if_true,Option.some.injEq]at hs; subst hs; exact empty a cap
 | imm els B o k' cap c f hne hcap hB hk' hc hrr=>
  simp only[srcRows,rowsOf]at hs
  split at hs
  ·rename_i hall
   injection hs with hs
   subst hs
   have hpos:0<els.length:=List.length_pos_iff.2 hne
   have hkk:k'=k:=by
    have e1:=hk' 0 _ (List.getElem?_eq_getElem hpos)
    have e2:=rows_k hall 0 _ (List.getElem?_eq_getElem hpos)
    omega
   subst hkk
   obtain⟨e,fz,hB2⟩:=hr.pers B c hB
   have hsize:o+els.length*k'≤c.size:=by
    have hlast:els[els.length - 1]? = some els[els.length - 1]:=List.getElem?_eq_getElem (by omega)
    have hl:=hk' _ _ hlast
    have hj:k' - 1<(els[els.length - 1]).length:=by omega
    have h1:=(hc _ _ _ _ hlast (List.getElem?_eq_getElem hj)).1
    have h2:=(Array.getElem?_eq_some_iff.1 h1).1
    have e3:(els.length - 1+1)*k'=els.length*k':=by rw[Nat.sub_add_cancel hpos]
    rw[Nat.add_mul]at e3
    omega
   refine⟨c.extract o (o+els.length*k'),rfl,fun q hq=>?_,by simp; omega,fun i row hi=>hk' i row hi,fun i row j y hi hj=>?_⟩
   ·simp only[Builtin.firstCells]
    have hqk:q*k'≤els.length*k':=Nat.mul_le_mul_right _ hq
    rw[run_loadCells hB2 (by omega)]
    congr 1
    rw[Array.extract_extract]
    congr 1
    omega
   ·have hi2:=(List.getElem?_eq_some_iff.1 hi).1
    have hj2:j<k':=by
     have:=(List.getElem?_eq_some_iff.1 hj).1
     rw[hk' i row hi]at this; exact this
    have hlt:=mul_lt hi2 hj2
    obtain⟨h1,h2⟩:=hc i row j y hi hj
    refine⟨f i j,?_,h2,hrr i row j y hi hj⟩
    rw[Nat.zero_add,Array.getElem?_extract,if_pos (by omega)]
    rw[← h1]; congr 1; omega
  ·cases hs
 | sl b off len a cap l hl hle hn hcap hav=>
  simp only[srcRows,rowsOf]at hs
  have dead:len=0→xs=[] → ∃ arr:Array Value,(Builtin.lenOf (.slice a len cap)).run P w=.ok xs.length w∧(∀ q,q≤xs.length→(Builtin.firstCells k q (.slice a len cap)).run P w=.ok (arr.extract 0 (q*k)) w)∧arr.size=xs.length*k∧RowsIn Φ ρ xs 0 k arr:=by
   intro h0 h1
   subst h0; subst h1
   exact empty a cap
  cases hg:m.get b with
  | none=>
   simp only[hg]at hs
   split at hs
   ·rename_i h0
    injection hs with hs
    exact dead h0 hs.symm
   ·cases hs
  | some blk=>
   cases blk with
   | cells k2 els=>
    simp only[hg]at hs
    split at hs
    ·rename_i hcond
     obtain⟨rfl,hol⟩:=hcond
     injection hs with hs
     by_cases h0:len=0
     ·subst h0
      exact dead rfl (by rw[← hs]; simp)
     ·have ha:=hcap (by omega)
      subst ha
      obtain⟨l',ob,g1,g2,g3,g4,g5⟩:=hr.live b _ hg
      rw[hl]at g1; injection g1 with g1; subst g1
      cases g5 with
      | cells _ _ _ c e hk2 hsz hlen hrows _=>
       subst hs
       subst hk2
       have hxl:((els.drop off).take len).length=len:=by simp; omega
       have hbound:(l.sh+off)*l.k+len*l.k≤c.size:=by
        rw[hsz,← Nat.add_mul]
        exact Nat.mul_le_mul_right _ (by omega)
       refine⟨c.extract ((l.sh+off)*l.k) ((l.sh+off)*l.k+len*l.k),by rw[hxl]; rfl,fun q hq=>?_,by rw[hxl]; simp; omega,fun i row hi=>?_,fun i row j y hi hj=>?_⟩
       ·rw[hxl]at hq
        simp only[Builtin.firstCells]
        have hqk:q*l.k≤len*l.k:=Nat.mul_le_mul_right _ hq
        rw[run_loadCells g4 (by omega)]
        congr 1
        rw[Array.extract_extract]
        congr 1
        omega
       ·rw[List.getElem?_take]at hi
        split at hi
        ·rw[List.getElem?_drop]at hi
         exact hrows.1 _ row hi
        ·cases hi
       ·rw[List.getElem?_take]at hi
        split at hi
        ·rename_i hil
         rw[List.getElem?_drop]at hi
         obtain⟨u,h1,h2,h3⟩:=hrows.2 (off+i) row j y hi hj
         have hj2:j<l.k:=by
          have:=(List.getElem?_eq_some_iff.1 hj).1
          rw[hrows.1 _ row hi]at this; omega
         have hlt:=mul_lt hil hj2
         refine⟨u,?_,h2,h3⟩
         have hlen2:len*l.k=((els.drop off).take len).length*l.k:=by rw[hxl]
         rw[Nat.zero_add,Array.getElem?_extract,if_pos (by omega),← h1]
         congr 1
         rw[← Nat.add_assoc l.sh,Nat.add_mul (l.sh+off) i]
         omega
        ·cases hi
    ·cases hs
   | map es clock=>
    simp only[hg]at hs
    split at hs
    ·rename_i h0
     injection hs with hs
     exact dead h0 hs.symm
    ·cases hs
   | siter s' pos=>
    simp only[hg]at hs
    split at hs
    ·rename_i h0
     injection hs with hs
     exact dead h0 hs.symm
    ·cases hs
   | miter a' b' c' d'=>
    simp only[hg]at hs
    split at hs
    ·rename_i h0
     injection hs with hs
     exact dead h0 hs.symm
    ·cases hs
 | _=>simp[srcRows,rowsOf]at hs
theorem rowsIn_splice {els xs:List (List AVal)} {sh k n p:Nat} {c arr:Array Value} (h:RowsIn Φ ρ els sh k c) (hn:c.size=n*k) (hp:p≤els.length) (hl:sh+p+xs.length≤n)
 (hx:RowsIn Φ ρ xs 0 k arr) (hsz:arr.size=xs.length*k):RowsIn Φ ρ (els.take p++xs++els.drop (p+xs.length)) sh k (setFrom c ((sh+p)*k) arr.toList):=by
 have hget:∀ (i:Nat) (row:List AVal),(els.take p++xs++els.drop (p+xs.length))[i]? = some row→(i<p∧els[i]? = some row)∨(p≤i∧i<p+xs.length∧xs[i - p]? = some row)∨(p+xs.length≤i∧els[i]? = some row):=by
  intro i row hi
  rw[List.getElem?_append,List.getElem?_append]at hi
  simp only[List.length_append,List.length_take,Nat.min_eq_left hp]at hi
  split at hi
  ·rename_i h1
   split at hi
   ·rename_i h2
    rw[List.getElem?_take,if_pos h2]at hi
    exact .inl ⟨h2,hi⟩
   ·rename_i h2
    exact .inr (.inl ⟨by omega,h1,hi⟩)
  ·rename_i h1
   rw[List.getElem?_drop]at hi
   refine .inr (.inr ⟨by omega,?_⟩)
   rw[← hi]; congr 1; omega
 refine⟨fun i row hi=>?_,fun i row j y hi hj=>?_⟩
 ·rcases hget i row hi with⟨_,h1⟩|⟨_,_,h1⟩|⟨_,h1⟩
  ·exact h.1 _ _ h1
  ·exact hx.1 _ _ h1
  ·exact h.1 _ _ h1
 ·rw[setFrom_get]
  simp only[Array.length_toList,hsz]
  rcases hget i row hi with⟨h0,h1⟩|⟨h0,h00,h1⟩|⟨h0,h1⟩
  ·obtain⟨u,g1,g2,g3⟩:=h.2 i row j y h1 hj
   have hj2:j<k:=by
    have:=(List.getElem?_eq_some_iff.1 hj).1
    rw[h.1 _ row h1]at this; exact this
   have hlt:=mul_lt (a:=sh+i) (n:=sh+p) (by omega) hj2
   rw[if_neg (by omega)]
   exact⟨u,g1,g2,g3⟩
  ·obtain⟨u,g1,g2,g3⟩:=hx.2 (i - p) row j y h1 hj
   have hj2:j<k:=by
    have:=(List.getElem?_eq_some_iff.1 hj).1
    rw[hx.1 _ row h1]at this; exact this
   have e1:(sh+i)*k=(sh+p)*k+(i - p)*k:=by rw[← Nat.add_mul]; congr 1; omega
   have hlt:=mul_lt (a:=i - p) (n:=xs.length) (by omega) hj2
   have hlt2:(sh+p)*k+xs.length*k≤c.size:=by rw[hn,← Nat.add_mul]; exact Nat.mul_le_mul_right _ hl
   rw[e1,if_pos ⟨by omega,by omega,by omega⟩]
   rw[Nat.zero_add]at g1
   refine⟨u,?_,g2,g3⟩
   have e2:(sh+p)*k+(i - p)*k+j - (sh+p)*k=(i - p)*k+j:=by omega
   rw[e2]
   simpa using g1
  ·obtain⟨u,g1,g2,g3⟩:=h.2 i row j y h1 hj
   have hle:(sh+p+xs.length)*k≤(sh+i)*k:=Nat.mul_le_mul_right _ (by omega)
   rw[Nat.add_mul (sh+p)]at hle
   rw[if_neg (by omega)]
   exact⟨u,g1,g2,g3⟩
theorem rel_move {b:Nat} {x0 x':ABlk} {l l':Loc} {o':Obj} (h:Rel W Φ ρ m w) (hb:m.get b=some x0) (hl:ρ b=some l) (hid:ρ id=none) (hlt:id<m.next) (hl':l'.blk=l.blk)
 (hr:BR Φ (ρ.put id l') x' l' o'):Rel W Φ (ρ.put id l') ((m.del b).set id x') (putBlk w l.blk o'):=by
 have hx:=Rho.ext_put (Φ:=Φ) (l:=l') hid
 obtain⟨l0,o,g1,g2,g3,g4,g5⟩:=h.live b x0 hb
 rw[hl]at g1; injection g1 with g1; subst g1
 have hblt:l.blk<w.heap.size:=by
  rcases Nat.lt_or_ge l.blk w.heap.size with h'|h'
  ·exact h'
  ·rw[Array.getElem?_eq_none h']at g4; cases g4
 have hbi:b≠id:=by rintro rfl; rw[hid]at hl; cases hl
 have rne:∀ b' k,b'≠id→ρ.put id l' b'=some k→ρ b'=some k:=fun b' k hb' he=>by
  unfold Rho.put at he; rw[if_neg hb']at he; exact he
 refine⟨?_,?_,?_,?_,?_,h.newp⟩
 ·exact h.base.put g2
 ·intro B c hB
  obtain⟨e,fz,ho⟩:=h.pers B c hB
  refine⟨e,fz,?_⟩
  rw[putBlk_get,if_neg]
  ·exact ho
  ·rintro⟨rfl,_⟩
   rw[hB]at g3; cases g3
 ·intro b' y hy
  simp only[Mem.get_set,Mem.get_del]at hy
  by_cases hb1:b'=id
  ·subst hb1
   rw[if_pos rfl]at hy
   injection hy with hy
   subst hy
   exact⟨l',o',Rho.put_same,by rw[hl']; exact g2,by rw[hl']; exact g3,by rw[hl',putBlk_get,if_pos ⟨rfl,hblt⟩],hr⟩
  ·rw[if_neg hb1]at hy
   by_cases hb2:b'=b
   ·rw[if_pos hb2]at hy; cases hy
   ·rw[if_neg hb2]at hy
    obtain⟨k,o'',k1,k2,k3,k4,k5⟩:=h.live b' y hy
    refine⟨k,o'',hx.rho _ _ k1,k2,k3,?_,k5.ext hx⟩
    rw[putBlk_get,if_neg]
    ·exact k4
    ·rintro⟨he,_⟩
     exact hb2 (h.inj b' b y x0 k l hy hb k1 hl he.symm)
 ·intro b1 b2 y1 y2 l1 l2 h1 h2 k1 k2 he
  simp only[Mem.get_set,Mem.get_del]at h1 h2
  by_cases e1:b1=id
  ·by_cases e2:b2=id
   ·rw[e1,e2]
   ·rw[if_neg e2]at h2
    by_cases e3:b2=b
    ·rw[if_pos e3]at h2; cases h2
    ·rw[if_neg e3]at h2
     rw[e1,Rho.put_same]at k1
     injection k1 with k1; subst k1
     exact absurd (h.inj b2 b y2 x0 l2 l h2 hb (rne _ _ e2 k2) hl (by rw[← he,hl'])) e3
  ·rw[if_neg e1]at h1
   by_cases e3:b1=b
   ·rw[if_pos e3]at h1; cases h1
   ·rw[if_neg e3]at h1
    by_cases e2:b2=id
    ·rw[e2,Rho.put_same]at k2
     injection k2 with k2; subst k2
     exact absurd (h.inj b1 b y1 x0 l1 l h1 hb (rne _ _ e1 k1) hl (by rw[he,hl'])) e3
    ·rw[if_neg e2]at h2
     by_cases e4:b2=b
     ·rw[if_pos e4]at h2; cases h2
     ·rw[if_neg e4]at h2
      exact h.inj b1 b2 y1 y2 l1 l2 h1 h2 (rne _ _ e1 k1) (rne _ _ e2 k2) he
 ·intro b' k hb'
  by_cases hbb:b'=id
  ·rw[hbb]; exact hlt
  ·exact h.fresh b' k (rne _ _ hbb hb')
end
end Go.AE
end
section
namespace Go.AE
open Go.RowKit
structure Same (ft:List Nat) (m m' m2 m2':Mem):Prop where
 n1:m'.next=m.next
 n2:m2'.next=m2.next
 out1:∀ b,b∉ft→m'.get b=m.get b
 out2:∀ b,b∉ft→m2'.get b=m2.get b
 ins:∀ b,b∈ft→m2'.get b=m'.get b
def Agr (ft:List Nat) (m m2:Mem):Prop:=∀ b,b∈ft→m2.get b=m.get b
section
variable {ft:List Nat} {m m2 m':Mem} {id:Nat} {t:List AVal} {v:AVal}
theorem Same.refl (h:Agr ft m m2):Same ft m m m2 m2:=⟨rfl,rfl,fun _ _=>rfl,fun _ _=>rfl,h⟩
theorem Same.set {m' m2':Mem} {b:Nat} {x:ABlk} (h:Same ft m m' m2 m2') (hb:b∈ft):Same ft m (m'.set b x) m2 (m2'.set b x):=by
 refine⟨h.n1,h.n2,fun c hc=>?_,fun c hc=>?_,fun c hc=>?_⟩
 ·have:c≠b:=fun e=>hc (e ▸ hb)
  simp[this,h.out1 c hc]
 ·have:c≠b:=fun e=>hc (e ▸ hb)
  simp[this,h.out2 c hc]
 ·simp only[Mem.get_set]
  split
  ·rfl
  ·exact h.ins c hc
theorem Same.del {m' m2':Mem} {b:Nat} (h:Same ft m m' m2 m2') (hb:b∈ft):Same ft m (m'.del b) m2 (m2'.del b):=by
 refine⟨h.n1,h.n2,fun c hc=>?_,fun c hc=>?_,fun c hc=>?_⟩
 ·have:c≠b:=fun e=>hc (e ▸ hb)
  simp[this,h.out1 c hc]
 ·have:c≠b:=fun e=>hc (e ▸ hb)
  simp[this,h.out2 c hc]
 ·simp only[Mem.get_del]
  split
  ·rfl
  ·exact h.ins c hc
theorem rowAt_agr {x:AVal} (h:Agr (blkOf x) m m2):rowAt m2 x=rowAt m x:=by
 cases x<;>simp only[rowAt]
 rename_i b i j
 rw[h b (by simp[blkOf])]
theorem loadA_agr {x:AVal} {n:Option Nat} (h:Agr (blkOf x) m m2):loadA m2 n x=loadA m n x:=by
 simp only[loadA,rowAt_agr h]
theorem rowsOf_agr {x:AVal} {k:Nat} (h:Agr (blkOf x) m m2):rowsOf m2 k x=rowsOf m k x:=by
 cases x<;>simp only[rowsOf]
 rename_i b off len
 rw[h b (by simp[blkOf])]
theorem srcRows_agr {x:AVal} {k:Nat} (h:Agr (blkOf x) m m2):srcRows m2 k x=srcRows m k x:=by
 cases x<;>simp only[srcRows]<;>first|rfl|exact rowsOf_agr h
theorem storeA_agr {x y:AVal} {n:Nat} (h:Agr ft m m2) (hx:∀ b,b∈blkOf x→b∈ft) (hs:storeA m n x y=some m'):∃ m2',storeA m2 n x y=some m2'∧Same ft m m' m2 m2':=by
 cases x<;>simp only[storeA]at hs<;>first|(cases hs; done)|skip
 rename_i b i j
 have hb:b∈ft:=hx b (by simp[blkOf])
 simp only[storeA,h b hb]
 split at hs<;>first|(cases hs; done)|skip
 rename_i b' i' j' cs heq hcs
 injection heq with h1 h2 h3
 subst h1; subst h2; subst h3
 split at hs<;>first|(cases hs; done)|skip
 rename_i k els hg
 split at hs<;>first|(cases hs; done)|skip
 rename_i row hrow
 split at hs<;>first|(cases hs; done)|skip
 rename_i hc
 injection hs with hs
 subst hs
 simp only[h b hb,hg,hrow]
 rw[if_pos hc]
 exact⟨_,rfl,(Same.refl h).set hb⟩
theorem appendRows_agr {k bytes:Nat} {s:AVal} {xs:List (List AVal)} (h:Agr ft m m2) (hid:id∈ft) (hx:∀ b,b∈blkOf s→b∈ft) (hs:appendRows id k bytes m s xs=some (v,m')) :
 ∃ m2',appendRows id k bytes m2 s xs=some (v,m2')∧Same ft m m' m2 m2':=by
 cases s<;>simp only[appendRows]at hs<;>first|(cases hs; done)|skip
 ·split at hs
  ·rename_i h0
   simp only[Option.some.injEq,Prod.mk.injEq]at hs
   obtain⟨h1,h2⟩:=hs
   subst h1; subst h2
   exact⟨m2,by simp[appendRows,h0],Same.refl h⟩
  ·rename_i h0
   split at hs<;>first|(cases hs; done)|skip
   rename_i hc
   simp only[Option.some.injEq,Prod.mk.injEq]at hs
   obtain⟨h1,h2⟩:=hs
   subst h1; subst h2
   exact⟨_,by simp only[appendRows,h0,if_false,hc]; rfl,(Same.refl h).set hid⟩
 ·split at hs
  ·rename_i h0
   simp only[Option.some.injEq,Prod.mk.injEq]at hs
   obtain⟨h1,h2⟩:=hs
   subst h1; subst h2
   exact⟨m2,by simp[appendRows,h0],Same.refl h⟩
  ·rename_i h0
   split at hs<;>first|(cases hs; done)|skip
   rename_i hc
   simp only[Option.some.injEq,Prod.mk.injEq]at hs
   obtain⟨h1,h2⟩:=hs
   subst h1; subst h2
   exact⟨_,by simp only[appendRows,h0,if_false,hc]; rfl,(Same.refl h).set hid⟩
 ·rename_i b off len
  have hb:b∈ft:=hx b (by simp[blkOf])
  simp only[appendRows,h b hb]
  split at hs<;>first|(cases hs; done)|skip
  rename_i k' els hg
  split at hs<;>first|(cases hs; done)|skip
  rename_i hc
  rw[if_pos hc]
  split at hs
  ·rename_i hc2
   rw[if_pos hc2]
   simp only[Option.some.injEq,Prod.mk.injEq]at hs
   obtain⟨h1,h2⟩:=hs
   subst h1; subst h2
   exact⟨_,rfl,(Same.refl h).set hb⟩
  ·rename_i hc2
   rw[if_neg hc2]
   split at hs<;>first|(cases hs; done)|skip
   rename_i hc3
   rw[if_pos hc3]
   simp only[Option.some.injEq,Prod.mk.injEq]at hs
   obtain⟨h1,h2⟩:=hs
   subst h1; subst h2
   exact⟨_,rfl,((Same.refl h).del hb).set hid⟩
theorem quiet_same {o:Option AVal} {m':Mem} (h:Agr ft m m2) (hs:(match o with|some v=>some (v,m)|none=>none)=some (v,m')) :
 ∃ m2',(match o with|some v=>some (v,m2)|none=>none)=some (v,m2')∧Same ft m m' m2 m2':=by
 cases o with
 | none=>cases hs
 | some w=>
  simp only[Option.some.injEq,Prod.mk.injEq]at hs
  obtain⟨h1,h2⟩:=hs
  subst h1; subst h2
  exact⟨m2,rfl,Same.refl h⟩
theorem stepA_local {op:AOp} (hr:Agr (footR t op) m m2) (h:Agr (footW id t op) m m2) (hs:stepA id t m op=some (v,m')):∃ m2',stepA id t m2 op=some (v,m2')∧Same (footW id t op) m m' m2 m2':=by
 have keep:∀ {o:Option (AVal×Mem)},o=some (v,m')→(∀ w n,o=some (w,n)→n=m∧stepA id t m2 op=some (w,m2)) → ∃ m2',stepA id t m2 op=some (v,m2')∧Same (footW id t op) m m' m2 m2':=by
  intro o ho hw
  obtain⟨h1,h2⟩:=hw v m' ho
  subst h1
  exact⟨m2,h2,Same.refl h⟩
 cases op with
 | mov x=>exact keep hs fun w n hh=>by simp only[stepA,Option.some.injEq,Prod.mk.injEq]at hh ⊢; exact⟨hh.2.symm,hh.1,trivial⟩
 | pick c a b=>
  simp only[stepA]at hs ⊢
  split at hs<;>first|(cases hs; done)|skip
  all_goals
   simp only[Option.some.injEq,Prod.mk.injEq]at hs
   obtain⟨h1,h2⟩:=hs
   subst h1; subst h2
   exact⟨m2,rfl,Same.refl h⟩
 | box x=>
  simp only[stepA]at hs ⊢
  split at hs<;>first|(cases hs; done)|skip
  rename_i cs hcs
  split at hs<;>first|(cases hs; done)|skip
  rename_i hall
  simp only[Option.some.injEq,Prod.mk.injEq]at hs
  obtain⟨h1,h2⟩:=hs
  subst h1; subst h2
  simp only[hall,if_true]
  exact⟨_,rfl,(Same.refl h).set (by simp[footW])⟩
 | alloc z=>
  simp only[stepA,Option.some.injEq,Prod.mk.injEq]at hs ⊢
  obtain⟨h1,h2⟩:=hs
  subst h1; subst h2
  exact⟨_,⟨rfl,rfl⟩,(Same.refl h).set (by simp[footW])⟩
 | build z ps=>
  simp only[stepA]at hs ⊢
  split at hs<;>first|(cases hs; done)|skip
  simp only[Option.some.injEq,Prod.mk.injEq]at hs
  obtain⟨h1,h2⟩:=hs
  subst h1; subst h2
  exact⟨m2,rfl,Same.refl h⟩
 | mkSl k len z ps=>
  simp only[stepA]at hs ⊢
  split at hs<;>first|(cases hs; done)|skip
  simp only[Option.some.injEq,Prod.mk.injEq]at hs
  obtain⟨h1,h2⟩:=hs
  subst h1; subst h2
  exact⟨_,rfl,(Same.refl h).set (by simp[footW])⟩
 | load n x=>
  simp only[stepA]at hs ⊢
  rw[loadA_agr hr]
  exact quiet_same h hs
 | store n a x=>
  simp only[stepA]at hs ⊢
  split at hs<;>first|(cases hs; done)|skip
  rename_i m3 hst
  simp only[Option.some.injEq,Prod.mk.injEq]at hs
  obtain⟨h1,h2⟩:=hs
  subst h1; subst h2
  obtain⟨m4,h3,h4⟩:=storeA_agr h (fun _ hb=>hb) hst
  rw[h3]
  exact⟨m4,rfl,h4⟩
 | nilChk x=>
  simp only[stepA]at hs ⊢
  split at hs<;>first|(cases hs; done)|skip
  all_goals
   simp only[Option.some.injEq,Prod.mk.injEq]at hs
   obtain⟨h1,h2⟩:=hs
   subst h1; subst h2
   exact⟨m2,rfl,Same.refl h⟩
 | bin op e x y=>simp only[stepA]at hs ⊢; exact quiet_same h hs
 | un op x=>simp only[stepA]at hs ⊢; exact quiet_same h hs
 | convInt k x=>
  simp only[stepA]at hs ⊢
  split at hs<;>first|(cases hs; done)|skip
  simp only[Option.some.injEq,Prod.mk.injEq]at hs
  obtain⟨h1,h2⟩:=hs
  subst h1; subst h2
  exact⟨m2,rfl,Same.refl h⟩
 | convId x=>
  simp only[stepA]at hs ⊢
  split at hs<;>first|(cases hs; done)|skip
  simp only[Option.some.injEq,Prod.mk.injEq]at hs
  obtain⟨h1,h2⟩:=hs
  subst h1; subst h2
  exact⟨m2,rfl,Same.refl h⟩
 | toStr x=>
  simp only[stepA]at hs ⊢
  rw[rowsOf_agr hr]
  split at hs<;>first|(cases hs; done)|skip
  rename_i rows hrows
  split at hs<;>first|(cases hs; done)|skip
  rename_i s hss
  simp only[Option.some.injEq,Prod.mk.injEq]at hs
  obtain⟨h1,h2⟩:=hs
  subst h1; subst h2
  exact⟨m2,rfl,Same.refl h⟩
 | mkFunc fn a b=>exact keep hs fun w n hh=>by simp only[stepA,Option.some.injEq,Prod.mk.injEq]at hh ⊢; exact⟨hh.2.symm,hh.1,trivial⟩
 | mkMap=>
  simp only[stepA,Option.some.injEq,Prod.mk.injEq]at hs ⊢
  obtain⟨h1,h2⟩:=hs
  subst h1; subst h2
  exact⟨_,⟨rfl,rfl⟩,(Same.refl h).set (by simp[footW])⟩
 | makeSl k b z len cap=>
  simp only[stepA]at hs ⊢
  split at hs<;>first|(cases hs; done)|skip
  split at hs<;>first|(cases hs; done)|skip
  rename_i hc
  simp only[Option.some.injEq,Prod.mk.injEq]at hs
  obtain⟨h1,h2⟩:=hs
  subst h1; subst h2
  simp only[hc,and_self,if_true]
  exact⟨_,rfl,(Same.refl h).set (by simp[footW])⟩
 | slStr x lo hi=>
  simp only[stepA]at hs ⊢
  split at hs<;>first|(cases hs; done)|skip
  split at hs<;>first|(cases hs; done)|skip
  simp only[Option.some.injEq,Prod.mk.injEq]at hs
  obtain⟨h1,h2⟩:=hs
  subst h1; subst h2
  exact⟨m2,rfl,Same.refl h⟩
 | slSl k x lo hi mx=>
  have ha:Agr (blkOf (ev t x)) m m2:=hr
  simp only[stepA]at hs ⊢
  split at hs
  ·split at hs<;>first|(cases hs; done)|skip
   split at hs<;>first|(cases hs; done)|skip
   split at hs<;>first|(cases hs; done)|skip
   rename_i hc
   simp only[hc,and_self,if_true]
   split at hs
   all_goals
    rename_i h0
    simp only[Option.some.injEq,Prod.mk.injEq]at hs
    obtain⟨h1,h2⟩:=hs
    subst h1; subst h2
    simp only[h0,if_true,if_false]
    exact⟨m2,rfl,Same.refl h⟩
  ·generalize ev t x=y at *
   cases y<;>simp only at hs ⊢ <;> first|(cases hs; done)|skip
   case sl b off len=>
    rw[ha b (by simp[blkOf])]
    split at hs<;>first|(cases hs; done)|skip
    split at hs<;>first|(cases hs; done)|skip
    rename_i hc
    simp only[hc,and_self,if_true]
    split at hs<;>first|(cases hs; done)|skip
    simp only[Option.some.injEq,Prod.mk.injEq]at hs
    obtain⟨h1,h2⟩:=hs
    subst h1; subst h2
    exact⟨m2,rfl,Same.refl h⟩
   case imm els=>
    split at hs<;>first|(cases hs; done)|skip
    rename_i hc
    simp only[hc,if_true]
    split at hs<;>first|(cases hs; done)|skip
    simp only[Option.some.injEq,Prod.mk.injEq]at hs
    obtain⟨h1,h2⟩:=hs
    subst h1; subst h2
    exact⟨m2,rfl,Same.refl h⟩
   all_goals
    split at hs<;>first|(cases hs; done)|skip
    simp only[Option.some.injEq,Prod.mk.injEq]at hs
    obtain⟨h1,h2⟩:=hs
    subst h1; subst h2
    exact⟨m2,rfl,Same.refl h⟩
 | fieldA off x=>simp only[stepA]at hs ⊢; exact quiet_same h hs
 | field off n x=>
  simp only[stepA]at hs ⊢
  split at hs<;>first|(cases hs; done)|skip
  exact quiet_same h hs
 | idxA k x i=>
  have ha:Agr (blkOf (ev t x)) m m2:=hr
  simp only[stepA]at hs ⊢
  generalize ev t x=y at *
  split at hs<;>first|(cases hs; done)|skip
  ·rename_i b off len i' hi
   rw[ha b (by simp[blkOf])]
   split at hs<;>first|(cases hs; done)|skip
   split at hs<;>first|(cases hs; done)|skip
   rename_i hc
   simp only[hc,and_self,if_true]
   simp only[Option.some.injEq,Prod.mk.injEq]at hs
   obtain⟨h1,h2⟩:=hs
   subst h1; subst h2
   exact⟨m2,rfl,Same.refl h⟩
  ·split at hs<;>first|(cases hs; done)|skip
   split at hs<;>first|(cases hs; done)|skip
   rename_i hc
   simp only[hc,if_true]
   simp only[Option.some.injEq,Prod.mk.injEq]at hs
   obtain⟨h1,h2⟩:=hs
   subst h1; subst h2
   exact⟨m2,rfl,Same.refl h⟩
 | idxAA n k x i=>
  simp only[stepA]at hs ⊢
  split at hs<;>first|(cases hs; done)|skip
  split at hs<;>first|(cases hs; done)|skip
  rename_i hc
  simp only[hc,if_true]
  exact quiet_same h hs
 | idxStr x i=>
  simp only[stepA]at hs ⊢
  split at hs<;>first|(cases hs; done)|skip
  split at hs<;>first|(cases hs; done)|skip
  simp only[Option.some.injEq,Prod.mk.injEq]at hs
  obtain⟨h1,h2⟩:=hs
  subst h1; subst h2
  exact⟨m2,rfl,Same.refl h⟩
 | idxArr n k sz x i=>
  simp only[stepA]at hs ⊢
  split at hs<;>first|(cases hs; done)|skip
  split at hs<;>first|(cases hs; done)|skip
  rename_i hc
  simp only[hc,if_true]
  exact quiet_same h hs
 | lookup kt z ok x i=>
  have ha:Agr (blkOf (ev t x)) m m2:=hr
  simp only[stepA]at hs ⊢
  generalize ev t x=y at *
  cases y<;>simp only at hs ⊢ <;> first|(cases hs; done)|skip
  case map b=>
   rw[ha b (by simp[blkOf])]
   split at hs<;>first|(cases hs; done)|skip
   rename_i es hes
   split at hes<;>first|(cases hes; done)|skip
   rename_i hg
   injection hes with hes
   subst hes
   split at hs<;>first|(cases hs; done)|skip
   rename_i hf
   simp only[Option.some.injEq,Prod.mk.injEq]at hs
   obtain⟨h1,h2⟩:=hs
   subst h1; subst h2
   exact⟨m2,by simp only[hf],Same.refl h⟩
  all_goals
   split at hs<;>first|(cases hs; done)|skip
   rename_i hf
   simp only[Option.some.injEq,Prod.mk.injEq]at hs
   obtain⟨h1,h2⟩:=hs
   subst h1; subst h2
   exact⟨m2,by simp only[hf],Same.refl h⟩
 | mapUpd kt mp k w=>
  have ha:Agr (blkOf (ev t mp)) m m2:=h
  have hi:∀ b,b∈blkOf (ev t mp)→b∈footW id t (.mapUpd kt mp k w):=fun _ hb=>hb
  simp only[stepA]at hs ⊢
  generalize ev t mp=y at *
  cases y<;>simp only at hs ⊢ <;> first|(cases hs; done)|skip
  rename_i b
  rw[ha b (by simp[blkOf])]
  split at hs<;>first|(cases hs; done)|skip
  split at hs<;>first|(cases hs; done)|skip
  all_goals
   simp only[Option.some.injEq,Prod.mk.injEq]at hs
   obtain⟨h1,h2⟩:=hs
   subst h1; subst h2
   exact⟨_,rfl,(Same.refl h).set (hi b (by simp[blkOf]))⟩
 | ext x i=>
  simp only[stepA]at hs ⊢
  split at hs<;>first|(cases hs; done)|skip
  exact quiet_same h hs
 | append k bytes z s x=>
  have ha:Agr (blkOf (ev t x)) m m2:=hr
  simp only[stepA]at hs ⊢
  rw[srcRows_agr ha]
  split at hs<;>first|(cases hs; done)|skip
  exact appendRows_agr h (by simp[footW]) (fun b hb=>by simp[footW,hb]) hs
 | copy k d s=>
  have ha:Agr (blkOf (ev t d)) m m2:=h
  have hi:∀ b,b∈blkOf (ev t d)→b∈footW id t (.copy k d s):=fun _ hb=>hb
  have ha2:Agr (blkOf (ev t s)) m m2:=hr
  simp only[stepA]at hs ⊢
  rw[srcRows_agr ha2]
  generalize ev t d=y at *
  split at hs<;>first|(cases hs; done)|skip
  rename_i b off len xs hxs
  rw[ha b (by simp[blkOf])]
  split at hs<;>first|(cases hs; done)|skip
  split at hs<;>first|(cases hs; done)|skip
  rename_i hc
  simp only[hc,and_self,if_true]
  simp only[Option.some.injEq,Prod.mk.injEq]at hs
  obtain⟨h1,h2⟩:=hs
  subst h1; subst h2
  exact⟨_,rfl,(Same.refl h).set (hi b (by simp[blkOf]))⟩
 | clear k z x=>
  have ha:Agr (blkOf (ev t x)) m m2:=h
  have hi:∀ b,b∈blkOf (ev t x)→b∈footW id t (.clear k z x):=fun _ hb=>hb
  simp only[stepA]at hs ⊢
  generalize ev t x=y at *
  cases y<;>simp only at hs ⊢ <;> first|(cases hs; done)|skip
  case sl b off len=>
   rw[ha b (by simp[blkOf])]
   split at hs<;>first|(cases hs; done)|skip
   split at hs<;>first|(cases hs; done)|skip
   rename_i hc
   simp only[hc,and_self,if_true]
   simp only[Option.some.injEq,Prod.mk.injEq]at hs
   obtain⟨h1,h2⟩:=hs
   subst h1; subst h2
   exact⟨_,rfl,(Same.refl h).set (hi b (by simp[blkOf]))⟩
  all_goals
   simp only[Option.some.injEq,Prod.mk.injEq]at hs
   obtain⟨h1,h2⟩:=hs
   subst h1; subst h2
   exact⟨m2,rfl,Same.refl h⟩
 | lenStr x=>
  simp only[stepA]at hs ⊢
  split at hs<;>first|(cases hs; done)|skip
  simp only[Option.some.injEq,Prod.mk.injEq]at hs
  obtain⟨h1,h2⟩:=hs
  subst h1; subst h2
  exact⟨m2,rfl,Same.refl h⟩
 | lenSl x=>
  simp only[stepA]at hs ⊢
  split at hs<;>first|(cases hs; done)|skip
  simp only[Option.some.injEq,Prod.mk.injEq]at hs
  obtain⟨h1,h2⟩:=hs
  subst h1; subst h2
  exact⟨m2,rfl,Same.refl h⟩
 | lenMap x=>
  have ha:Agr (blkOf (ev t x)) m m2:=hr
  simp only[stepA]at hs ⊢
  generalize ev t x=y at *
  cases y<;>simp only at hs ⊢ <;> first|(cases hs; done)|skip
  case map b=>
   rw[ha b (by simp[blkOf])]
   split at hs<;>first|(cases hs; done)|skip
   simp only[Option.some.injEq,Prod.mk.injEq]at hs
   obtain⟨h1,h2⟩:=hs
   subst h1; subst h2
   exact⟨m2,rfl,Same.refl h⟩
  all_goals
   simp only[Option.some.injEq,Prod.mk.injEq]at hs
   obtain⟨h1,h2⟩:=hs
   subst h1; subst h2
   exact⟨m2,rfl,Same.refl h⟩
 | lenArr n=>exact keep hs fun w n hh=>by simp only[stepA,Option.some.injEq,Prod.mk.injEq]at hh ⊢; exact⟨hh.2.symm,hh.1,trivial⟩
 | minmax mx xs=>
  simp only[stepA]at hs ⊢
  split at hs<;>first|(cases hs; done)|skip
  exact quiet_same h hs
 | iface ty x=>exact keep hs fun w n hh=>by simp only[stepA,Option.some.injEq,Prod.mk.injEq]at hh ⊢; exact⟨hh.2.symm,hh.1,trivial⟩
 | mapEnt kt z mp k=>simp[stepA]at hs
 | entSt mp s w=>simp[stepA]at hs
 | delete kt mp k=>simp[stepA]at hs
 | range x=>simp[stepA]at hs
 | nextS x=>simp[stepA]at hs
 | nextM x=>simp[stepA]at hs
 | slArr n k x lo hi=>simp[stepA]at hs
 | appendZ k b z s x=>simp[stepA]at hs
 | call f xs=>simp[stepA]at hs
 | capSl x=>simp[stepA]at hs
 | dead=>simp[stepA]at hs
end
end Go.AE
end
