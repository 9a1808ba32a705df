/- Part 9 of the proof: AeTb. -/
import Derived.Test.YtmfdlchjaldclaaGreatDoorA8
set_option linter.all false
namespace Go.AE
open Go.RowKit
def Good (P:Program) (p:Nat×AFn):Prop:=(∃ fn,P.funcs[p.1]? = some fn∧cFn P fn=some p.2)∧dstOk p.2.ntmps p.2.body=true∧Nat.ble p.2.ntmps bound=true∧Nat.ble (p.1+1) bound=true
def AllT (P:Program):List (Nat×AFn)→Prop
 | []=>True
 | p :: r=>Good P p∧AllT P r
def treeOf:List (Nat×AFn)→Tr AFn
 | []=>.nil
 | p :: r=>(treeOf r).set depth p.1 (some p.2)
theorem treeOf_get {P:Program}:∀ {l:List (Nat×AFn)},AllT P l → ∀ g af,(treeOf l).get g=some af→Good P (g,af)
 | [],_,g,af,h=>by simp [treeOf,Tr.get_nil] at h
 | p :: r,ha,g,af,h=>by
  simp only [treeOf] at h
  rw [Tr.get_set depth _ p.1 _ g (bound_lt (Nat.le_of_ble_eq_true ha.1.2.2.2))] at h
  split at h
  · rename_i hg
    subst hg
    injection h with h
    subst h
    exact ha.1
  · exact treeOf_get ha.2 g af h
def tabOf (t:Tr AFn):Nat→Option AFn:=fun g=>t.get g
theorem tabOf_ok {P:Program} {l:List (Nat×AFn)} {t:Tr AFn} (ha:AllT P l) (ht:t=treeOf l):TabOk P (tabOf t):=by
 subst ht
 intro g af h
 obtain⟨h1,h2,h3,_⟩:=treeOf_get ha g af h
 exact⟨h1,h2,Nat.le_of_ble_eq_true h3⟩
theorem AllT.append {P:Program}:∀ {a b:List (Nat×AFn)},AllT P a→AllT P b→AllT P (a++b)
 | [],_,_,h=>h
 | _ :: _,_,h,h'=>⟨h.1,AllT.append h.2 h'⟩
def rangeC (tab:Nat→Option AFn) (call:Caller) (G:Nat) (p:AParts):Caller:=fun g args m=>
 bif Nat.beq g G then runR tab call p args m else none
theorem rangeC_ok {P:Program} (hm:P.follows .mixedOrders=true) {tab:Nat→Option AFn} (htab:TabOk P tab) {call:Caller} (hcall:CallerOk P call) {G:FuncId} {fn:Func} {p:AParts} (hf:P.funcs[G]? = some fn) (hp:cRange P fn=some p) (hok:p.ok=true):CallerOk P (rangeC tab call G p):=by
 intro g args m v m' wl h
 unfold rangeC at h
 cases hg:Nat.beq g G with
 | false=>rw [hg] at h; cases h
 | true=>
  rw [hg] at h
  simp only [cond_true] at h
  have:=Nat.eq_of_beq_eq_true hg
  subst this
  obtain⟨h1,h2,h3⟩:=runR_ok hm htab hcall hf hp hok h
  exact⟨h1,h2,fun id=>h3 [id]⟩
end Go.AE
