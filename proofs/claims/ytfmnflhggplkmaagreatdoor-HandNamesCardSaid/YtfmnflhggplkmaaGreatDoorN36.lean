/- Part 36 of the proof: AeNj, Sj, Pz, Sx. -/
import Derived.Test.YtfmnflhggplkmaaGreatDoorN22
import Derived.Test.YtfmnflhggplkmaaGreatDoorN23
import Derived.Test.YtfmnflhggplkmaaGreatDoorN25
import Derived.Test.YtfmnflhggplkmaaGreatDoorN26
import Derived.Test.YtfmnflhggplkmaaGreatDoorN28
import Derived.Test.YtfmnflhggplkmaaGreatDoorN30
import Derived.Test.YtfmnflhggplkmaaGreatDoorN31
import Derived.Test.YtfmnflhggplkmaaGreatDoorN32
import Derived.Test.YtfmnflhggplkmaaGreatDoorN33
import Derived.Test.YtfmnflhggplkmaaGreatDoorN34
import Derived.Test.YtfmnflhggplkmaaGreatDoorN35
set_option linter.all false
section
namespace Go.AE
open Go.RowKit
variable {P:Program}
theorem renL_eq {q:Nat→Nat} {cs:List AVal} (h:∀ (i:Nat) (x:AVal),cs[i]? = some x→x.ren q=x):renL q cs=cs:=by
 apply List.ext_getElem?
 intro i
 rw[renL_map,List.getElem?_map]
 grind
theorem renLL_eq {q:Nat→Nat} {els:List (List AVal)} (h:∀ (i:Nat) (row:List AVal) (j:Nat) (x:AVal),els[i]? = some row→row[j]? = some x→x.ren q=x):renLL q els=els:=by
 apply List.ext_getElem?
 intro i
 rw[renLL_map,List.getElem?_map]
 cases hc:els[i]? with
 | none=>rfl
 | some row=>simp[renL_eq fun j x hj=>h i row j x hc hj]
theorem R.names {Φ:Pers} {ρ:Rho} {q:Nat→Nat} (hq:∀ b l,ρ b=some l→q b=b) {x:AVal} {v:Value} (h:R Φ ρ x v):x.ren q=x:=by
 induction h with
 | ptr b i j l h=>simp only[AVal.ren,hq _ _ h]
 | iptr els i j B o k c f hB hk hc _ ih=>simp only[AVal.ren]; rw[renLL_eq fun i row j x hi hj=>ih i row j x hi hj]
 | sl b off len a cap l h hl hn hc ha=>simp only[AVal.ren,hq _ _ h]
 | imm els B o k cap c f hne hcap hB hk hc _ ih=>simp only[AVal.ren]; rw[renLL_eq fun i row j x hi hj=>ih i row j x hi hj]
 | map b l h=>simp only[AVal.ren,hq _ _ h]
 | func fn fs cs vf vc hf hc _ _ ih1 ih2=>
  simp only[AVal.ren]
  rw[renL_eq fun i x hx=>ih1 i x _ hx (Array.getElem?_eq_getElem (by grind)),renL_eq fun i x hx=>ih2 i x _ hx (Array.getElem?_eq_getElem (by grind))]
 | yld b l h=>simp only[AVal.ren,hq _ _ h]
 | iface t x v _ ih=>simp only[AVal.ren,ih]
 | agg cs vs hs _ ih=>
  simp only[AVal.ren]
  rw[renL_eq fun i x hx=>ih i x _ hx (Array.getElem?_eq_getElem (by grind))]
 | tuple cs vs hs _ ih=>
  simp only[AVal.ren]
  rw[renL_eq fun i x hx=>ih i x _ hx (Array.getElem?_eq_getElem (by grind))]
 | _=>rfl
theorem BR.names {Φ:Pers} {ρ:Rho} {q:Nat→Nat} (hq:∀ b l,ρ b=some l→q b=b) {x:ABlk} {l:Loc} {o:Obj} (h:BR Φ ρ x l o):x.ren q=x:=by
 cases h with
 | cells k els l c e hk hn hl hr h1=>
  simp only[ABlk.ren]
  rw[renLL_eq fun i row j x hi hj=>by obtain⟨v,_,_,g3⟩:=hr.2 i row j x hi hj; exact g3.names hq]
 | map es clock l en hs hr=>
  simp only[ABlk.ren]
  congr 1
  apply List.ext_getElem?
  intro i
  rw[renM,List.getElem?_map]
  cases hc:es[i]? with
  | none=>rfl
  | some z=>
   obtain⟨y,g1,g2,g3,g4⟩:=hr i z hc
   simp[g2.names hq,g3.names hq]
 | siter s pos l=>rfl
 | miter0 a b c l=>rfl
 | miter m lm a b c l h _=>simp only[ABlk.ren,Option.map,hq _ _ h]
def EqRB (q:Nat→Nat):List (Nat×ABlk)→SMem→Prop
 | [],_=>True
 | (b,x) :: r,m=>m.get (q b)=some (x.ren q)∧EqRB q r m
theorem EqRB.get {q:Nat→Nat}:∀ {l:List (Nat×ABlk)} {m:SMem},EqRB q l m → ∀ c x,lookB l c=some x→m.get (q c)=some (x.ren q)
 | [],_,_,c,x,h=>by simp[lookB]at h
 | (b,y) :: r,m,hs,c,x,h=>by
  simp only[lookB]at h
  split at h
  ·rename_i e; subst e; injection h with h; subst h; exact hs.1
  ·exact hs.2.get c x h
end Go.AE
end
section
namespace Go.AE
open Go.RowKit
variable {P:Program}
def Wk (v v':AVal):Prop:=∀ (Φ:Pers) (ρ:Rho) (u:Value),R Φ ρ v u→R Φ ρ v' u
theorem Wk.refl (v:AVal):Wk v v:=fun _ _ _ h=>h
end Go.AE
namespace Go.Known
open Go Go.AE Go.Proofs
open Go.Plain
end Go.Known
end
section
namespace Go.Known
open Go.Plain
section
variable {n:Int} {ls:List Lt}
end
theorem ValR.key {f:Int} {ls:List Lt} (h:ValR f ls) {l:Lt} (hm:l∈ls) (hp:isP l=true):l.k=1∧1≤l.r∧l.r≤inG l.g ls∧0≤l.g∧l.g≤f:=by
 have hk:l.k=1:=by simpa[isP]using hp
 obtain⟨_,_,_,a,b,c,d,_⟩:=(okR_pass hk).1 (h.okr l hm)
 omega
end Go.Known
end
section
namespace Go.Known
open Go Go.AE Go.Proofs
open Go.Plain
structure Fg where
 p:Int
 r:Bool
 d:Int
deriving DecidableEq,Inhabited
def rowG (x:Fg):List AVal:=[.int .i64 x.p,.bool x.r,.int .i64 x.d]
theorem same_rowG (a b:Fg):sameCells [.int,.bool,.int] (rowG a) (rowG b)=some (decide (a=b)):=by
 obtain⟨a1,a2,a3⟩:=a
 obtain⟨b1,b2,b3⟩:=b
 simp only[rowG,sameCells,keyEq,if_true,Fg.mk.injEq]
 by_cases h1:a1=b1
 ·by_cases h2:a2=b2
  ·by_cases h3:a3=b3
   ·simp[h1,h2,h3]
   ·simp[h1,h2,h3,beq_false_of_ne h3]
  ·simp[h1,h2,beq_false_of_ne h2]
 ·simp[h1,beq_false_of_ne h1]
theorem eq_rowG (a b:Fg):binA .eql (.flat [.int,.bool,.int]) (.agg (rowG a)) (.agg (rowG b))=some (.bool (decide (a=b))):=by
 simp only[binA,eqA,same_rowG]
end Go.Known
end
