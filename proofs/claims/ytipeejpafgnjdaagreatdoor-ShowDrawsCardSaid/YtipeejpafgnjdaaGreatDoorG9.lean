/- Part 9 of the proof: AeTb, Pa. -/
import Derived.Test.YtipeejpafgnjdaaGreatDoorG8
set_option linter.all false
section
namespace Go.AE
open Go.RowKit
def Good (P:Program) (p:Nat×AFn):Prop:=(∃ fn,P.funcs[p.1]? = some fn∧cFn P fn=some p.2)∧Zfb p.2.ntmps p.2.body=true∧Nat.ble p.2.ntmps bound=true∧Nat.ble (p.1+1) bound=true
def AllT (P:Program):List (Nat×AFn)→Prop
 | []=>True
 | p :: r=>Good P p∧AllT P r
def Zrd:List (Nat×AFn)→Tr AFn
 | []=>.nil
 | p :: r=>(Zrd r).set depth p.1 (some p.2)
theorem Zrl {P:Program}:∀ {l:List (Nat×AFn)},AllT P l → ∀ g af,(Zrd l).get g=some af→Good P (g,af)
 | [],_,g,af,h=>by simp[Zrd,Tr.get_nil]at h
 | p :: r,ha,g,af,h=>by
  simp only[Zrd]at h
  rw[Tr.get_set depth _ p.1 _ g (Zf8 (Nat.le_of_ble_eq_true ha.1.2.2.2))]at h
  split at h
  ·rename_i hg
   subst hg
   injection h with h
   subst h
   exact ha.1
  ·exact Zrl ha.2 g af h
def Z8v (t:Tr AFn):Nat→Option AFn:=fun g=>t.get g
theorem Z32 {P:Program} {l:List (Nat×AFn)} {t:Tr AFn} (ha:AllT P l) (ht:t=Zrd l):Zsb P (Z8v t):=by
 subst ht
 intro g af h
 obtain⟨h1,h2,h3,_⟩:=Zrl ha g af h
 exact⟨h1,h2,Nat.le_of_ble_eq_true h3⟩
theorem AllT.append {P:Program}:∀ {a b:List (Nat×AFn)},AllT P a→AllT P b→AllT P (a++b)
 | [],_,_,h=>h
 | _ :: _,_,h,h'=>⟨h.1,AllT.append h.2 h'⟩
def Z3e (tab:Nat→Option AFn) (call:Caller) (G:Nat) (p:AParts):Caller:=fun g args m=>
 bif Nat.beq g G then runR tab call p args m else none
theorem Z2r {P:Program} (hm:P.follows .mixedOrders=true) {tab:Nat→Option AFn} (htab:Zsb P tab) {call:Caller} (hcall:Zba P call) {G:FuncId} {fn:Func} {p:AParts} (hf:P.funcs[G]? = some fn) (hp:Zo9 P fn=some p) (hok:p.ok=true):Zba P (Z3e tab call G p):=by
 intro g args m v m' wl h
 unfold Z3e at h
 cases hg:Nat.beq g G with
 | false=>rw[hg]at h; cases h
 | true=>
  rw[hg]at h
  simp only[cond_true]at h
  have:=Nat.eq_of_beq_eq_true hg
  subst this
  obtain⟨h1,h2,h3⟩:=Z7e hm htab hcall hf hp hok h
  exact⟨h1,h2,fun id=>h3 [id]⟩
end Go.AE
end
section
namespace Go.Plain
structure Lt where
 k:Int
 g:Int
 r:Int
 i:Int
 s:Int
 o:Bool
 deriving DecidableEq,Inhabited
def cntP (p:Lt→Bool) (ls:List Lt):Nat:=(ls.filter p).length
def isP (l:Lt):Bool:=l.k == 1
def isX (l:Lt):Bool:=l.k == 2
def Zaa (ls:List Lt):Nat:=cntP isP ls
def Zax (ls:List Lt):Nat:=cntP isX ls
def inG (g:Int) (ls:List Lt):Nat:=cntP (fun l=>isP l&&l.g == g) ls
def Znl (id:Int) (ls:List Lt):Nat:=cntP (fun l=>isX l&&l.i == id) ls
def down (ls:List Lt) (i:Nat):Bool:=Zaa (ls.take i) % 2 == 0
def same (l:Lt) (ls:List Lt):Nat:=cntP (fun o=>o.k == l.k&&o.g == l.g&&o.r == l.r) ls
def Zsu (l:Lt) (ls:List Lt):Nat:=cntP (fun o=>o.k == l.k&&o.i == l.i&&o.s == l.s&&o.o != l.o) ls
def okR (f:Int) (ls:List Lt) (l:Lt):Bool:=
 if l.k=1 then l.i == 0&&l.s == 0 && !l.o&&decide (0≤l.g)&&decide (l.g≤f)&&decide (1≤l.r)&&decide (l.r≤inG l.g ls)&&same l ls == 1
 else if l.k=2 then l.g == 0&&l.r == 0&&(l.s == 1||l.s == -1)&&decide (1≤l.i)&&decide (l.i≤(Zax ls / 2:Nat))&&Zsu l ls == 1&&Znl l.i ls == 2
 else false
def okC (f:Int) (l:Lt):Bool:=
 if l.k=1 then decide (0≤l.g)&&decide (l.g≤f)&&l.i == 0&&l.s == 0 && !l.o
 else if l.k=2 then l.g == 0&&l.r == 0&&(l.s == 1||l.s == -1)
 else false
def mark (next:Nat→Nat):Nat→List Bool→Nat→List Bool
 | 0,seen,_=>seen
 | k+1,seen,x=>if seen.getD x true then seen else mark next k (seen.set x true) (next x)
def cyc (next:Nat→Nat) (N:Nat):Nat→List Bool→Nat
 | 0,_=>0
 | k+1,seen=>if seen.getD (N - (k+1)) true then cyc next N k seen else 1+cyc next N k (mark next (N+1) seen (N - (k+1)))
def Zfr (next:Nat→Nat) (N:Nat):Nat:=cyc next N N (List.replicate N false)
theorem Zhu (next:Nat→Nat):∀ (k:Nat) (seen:List Bool) (x:Nat),(mark next k seen x).length=seen.length
 | 0,_,_=>rfl
 | k+1,seen,x=>by
  simp only[mark]
  split
  ·rfl
  ·rw[Zhu next k]; simp
def Zfd (seen:List Bool):Nat:=(seen.filter fun b=>!b).length
end Go.Plain
end
