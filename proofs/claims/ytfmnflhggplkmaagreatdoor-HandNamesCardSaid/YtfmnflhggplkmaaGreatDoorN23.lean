/- Part 23 of the proof: AeTb, Pd. -/
import Derived.Test.YtfmnflhggplkmaaGreatDoorN22
import Derived.Lib.Join
set_option linter.all false
section
namespace Go.AE
open Go.RowKit
def Good (P:Program) (p:Nat×AFn):Prop:=(∃ fn,P.funcs[p.1]? = some fn∧cFn P fn=some p.2)∧dstOk p.2.ntmps p.2.body=true∧Nat.ble p.2.ntmps bound=true∧Nat.ble (p.1+1) bound=true
def AllT (P:Program):List (Nat×AFn)→Prop
 | []=>True
 | p :: r=>Good P p∧AllT P r
def treeOf:List (Nat×AFn)→Tr AFn
 | []=>.nil
 | p :: r=>(treeOf r).set depth p.1 (some p.2)
theorem treeOf_get {P:Program}:∀ {l:List (Nat×AFn)},AllT P l → ∀ g af,(treeOf l).get g=some af→Good P (g,af)
 | [],_,g,af,h=>by simp[treeOf,Tr.get_nil]at h
 | p :: r,ha,g,af,h=>by
  simp only[treeOf]at h
  rw[Tr.get_set depth _ p.1 _ g (bound_lt (Nat.le_of_ble_eq_true ha.1.2.2.2))]at h
  split at h
  ·rename_i hg
   subst hg
   injection h with h
   subst h
   exact ha.1
  ·exact treeOf_get ha.2 g af h
def tabOf (t:Tr AFn):Nat→Option AFn:=fun g=>t.get g
theorem tabOf_ok {P:Program} {l:List (Nat×AFn)} {t:Tr AFn} (ha:AllT P l) (ht:t=treeOf l):TabOk P (tabOf t):=by
 subst ht
 intro g af h
 obtain⟨h1,h2,h3,_⟩:=treeOf_get ha g af h
 exact⟨h1,h2,Nat.le_of_ble_eq_true h3⟩
theorem AllT.append {P:Program}:∀ {a b:List (Nat×AFn)},AllT P a→AllT P b→AllT P (a++b)
 | [],_,_,h=>h
 | _ :: _,_,h,h'=>⟨h.1,AllT.append h.2 h'⟩
end Go.AE
end
section
namespace Go.Plain
def VisOk (i:Nat) (v:Int×Int):Prop:=(v.1 = -1∨(0≤v.1∧v.1<i))∧(v.2 = -1∨(0≤v.2∧v.2<i)) ∧ ¬(v.1 = -1∧v.2 = -1)
theorem VisOk.mono {i j:Nat} {v:Int×Int} (h:VisOk i v) (hij:i≤j):VisOk j v:=by
 obtain⟨h1,h2,h3⟩:=h
 exact⟨by omega,by omega,h3⟩
end Go.Plain
end
