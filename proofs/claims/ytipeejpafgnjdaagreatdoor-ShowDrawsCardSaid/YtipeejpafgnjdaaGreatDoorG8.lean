/- Part 8 of the proof: AeIb. -/
import Derived.Test.YtipeejpafgnjdaaGreatDoorG7
import Derived.Lib.Join
set_option linter.all false
namespace Go.AE
open Go.RowKit
def Zxj (P:Program) (J:FuncId):Prop:=
 Zmv P J ∧ ∀(bk o c:Nat) (xs:List ByteArray) (sep:ByteArray) (w:World),(∀(j:Nat) x,xs[j]? = some x→w.cell? ⟨bk,o+j,none⟩=some (.string x))→bk<w.heap.size→xs.length≤140737488355328→xs.length≤c →
  (Lib.join (xs.map (·.data.toList)) sep.data.toList).length≤140737488355328 →
  Calls P J #[.slice (some ⟨bk,o,none⟩) xs.length c,.string sep] w fun e w'=>e=.returned (.string ⟨(Lib.join (xs.map (·.data.toList)) sep.data.toList).toArray⟩)∧Below w.heap.size w w'
def Zkq:List (List AVal)→Option (List (List UInt8))
 | []=>some []
 | [.str s] :: r=>match Zkq r with
  | some l=>some (s :: l)
  | none=>none
 | _=>none
theorem Znd:∀ {rows:List (List AVal)} {l:List (List UInt8)},Zkq rows=some l→rows=l.map fun s=>[AVal.str s]
 | [],l,h=>by
  simp only[Zkq,Option.some.injEq]at h
  subst h; rfl
 | row :: r,l,h=>by
  unfold Zkq at h
  split at h<;>first|(cases h; done)|skip
  ·rename_i heq; cases heq
  ·rename_i s r' heq
   injection heq with h1 h2
   subst h1; subst h2
   cases hr:Zkq r with
   | none=>simp[hr]at h
   | some l'=>
    simp only[hr,Option.some.injEq]at h
    subst h
    rw[Znd hr]
    rfl
def Z33 (J:Nat):Caller:=fun g args m=>
 bif Nat.beq g J then match args with
  | [.sl b off len,.str sep]=>match m.tr.get b with
   | some (.cells 1 els)=>bif Nat.ble (off+len) els.length&&Nat.ble 1 len&&Nat.ble len 1000000 then match Zkq ((els.drop off).take len)with
    | some l=>bif Nat.ble (Lib.join l sep).length 1000000 then some (.str (Lib.join l sep),m,[])else none
    | none=>none
    else none
   | _=>none
  | _=>none
 else none
theorem Zyb {P:Program} {J:Nat} (hJ:Zxj P J):Zba P (Z33 J):=by
 intro g args m v m' wl h
 unfold Z33 at h
 cases hg:Nat.beq g J with
 | false=>rw[hg]at h; cases h
 | true=>
  rw[hg]at h
  simp only[cond_true]at h
  have hge:=Nat.eq_of_beq_eq_true hg
  subst hge
  split at h<;>first|(cases h; done)|skip
  rename_i b off len sep
  split at h<;>first|(cases h; done)|skip
  rename_i els hgT
  cases hc:Nat.ble (off+len) els.length&&Nat.ble 1 len&&Nat.ble len 1000000 with
  | false=>rw[hc]at h; cases h
  | true=>
   rw[hc]at h
   simp only[cond_true]at h
   simp only[Bool.and_eq_true]at hc
   have h1:=Nat.le_of_ble_eq_true hc.1.1
   have h2:=Nat.le_of_ble_eq_true hc.1.2
   have h3:=Nat.le_of_ble_eq_true hc.2
   cases hs:Zkq ((els.drop off).take len)with
   | none=>simp[hs]at h
   | some l=>
    simp only[hs]at h
    cases hb:Nat.ble (Lib.join l sep).length 1000000 with
    | false=>rw[hb]at h; cases h
    | true=>
     rw[hb]at h
     simp only[cond_true,Option.some.injEq,Prod.mk.injEq]at h
     obtain⟨rfl,rfl,rfl⟩:=h
     have hlen:=Nat.le_of_ble_eq_true hb
     have hrows:=Znd hs
     have hll:l.length=len:=by
      have:=congrArg List.length hrows
      simp at this
      omega
     refine⟨Nat.le_refl _,fun _ _ _=>rfl,fun id=>⟨hJ.1,fun W Φ ρ vs w hr ha hav=>?_⟩⟩
     obtain⟨v1,v2,rfl⟩:∃ v1 v2,vs = #[v1,v2]:=by
      have hs:vs.size=2:=by simpa using ha.1
      refine⟨vs[0],vs[1],?_⟩
      apply Array.ext
      ·simp[hs]
      ·intro i h1 h2
       have:i=0∨i=1:=by omega
       rcases this with rfl|rfl<;>rfl
     have r1:=ha.2 0 _ v1 rfl rfl
     have r2:=ha.2 1 _ v2 rfl rfl
     have e2:=Znm r2
     subst e2
     have hgm:m.mem.get b=some (.cells 1 els):=hgT
     cases r1 with
     | sl _ _ _ a cap lo hl hle hcn hcap hav1=>
      have ea:=hcap (by omega)
      subst ea
      obtain⟨x1,ob,g1,g2,g3,g4,g5⟩:=hr.live b _ hgm
      rw[hl]at g1; injection g1 with g1; subst g1
      cases g5 with
      | cells _ _ _ c t q1 q2 q3 q4 q5=>
       have hcell:∀ (j:Nat) (x:ByteArray),(l.map fun s=>(⟨⟨s⟩⟩:ByteArray))[j]? = some x→w.cell? ⟨lo.blk,(lo.sh+off)*lo.k+j,none⟩=some (.string x):=by
        intro j x hj
        rw[List.getElem?_map]at hj
        cases hlj:l[j]? with
        | none=>rw[hlj]at hj; cases hj
        | some s=>
         rw[hlj]at hj
         simp only[Option.map_some,Option.some.injEq]at hj
         subst hj
         have hjl:j<l.length:=(List.getElem?_eq_some_iff.1 hlj).1
         have hrow:els[off+j]? = some [.str s]:=by
          have hx:((els.drop off).take len)[j]? = some [AVal.str s]:=by rw[hrows,List.getElem?_map,hlj]; rfl
          rw[List.getElem?_take,if_pos (by omega),List.getElem?_drop]at hx
          exact hx
         obtain⟨u,k1,_,k3⟩:=q4.2 (off+j) _ 0 _ hrow rfl
         have:=Znm k3
         subst this
         simp only[World.cell?,g4,Option.isSome_none,Bool.false_eq_true,if_false]
         rw[← k1,q1]
         congr 1
         omega
       have hcall:=hJ.2 lo.blk ((lo.sh+off)*lo.k) cap (l.map fun s=>(⟨⟨s⟩⟩:ByteArray)) ⟨⟨sep⟩⟩ w hcell (Zd3 g4) (by simp; omega) (by simp; omega) (by simpa[Function.comp_def]using Nat.le_trans hlen (by decide))
       rw[List.length_map,hll]at hcall
       refine hcall.mono ?_
       rintro e w' ⟨rfl,hB⟩
       refine⟨_,_,m.mem,Φ,ρ,rfl,.refl _ _,fun _ _ _ h=>h,hr.below hB,?_,Nat.le_refl _,rfl,rfl⟩
       have:(l.map fun s=>(⟨⟨s⟩⟩:ByteArray)).map (·.data.toList)=l:=by
        rw[List.map_map]
        exact List.map_id'' (fun _=>rfl) l
       rw[this]
       exact .str _
end Go.AE
