/- Part 23 of the proof: Lb, Kv. -/
import Derived.Test.YtggclbeocekgkaaGreatDoorP22
set_option linter.all false
section
namespace Go.Ac
open Go Go.AE Go.Proofs
open Go.Plain
attribute [local simp] ZV Yg Zo aH Ym Zi Yi Yk A6 B4 A2 B9 A0 B5 YP Zl Q7 AG Env.get W3 Q9 Y6 Ad.at Ad.app Ad.get X2 Aa.cells Aa.one G7 J3 D6 I4 P0 U6 R8 Fo EJ F0 M3 IX T4 Ag vR yB O6 FT.indep I9 GL D7 Ed IS T3 T2 W2 EE FN FM
def W7(x:Nat):List Nat→Nat
 | []=>0
 | y :: r=>if y=x then 0 else 1+W7 x r
theorem C3{x:Nat}:∀ {l:List Nat},x∈l→l[W7 x l]? = some x ∧ ∀ q,q<W7 x l→l[q]? ≠ some x
 | [],h=>by simp at h
 | y :: r,h=>by
  simp only[W7];by_cases hy:y=x
  ·subst hy;simp
  ·rw[iN hy];have hm:x∈r:=by
    rcases mC.1 h with h|h
    ·exact absurd h.symm hy
    ·exact h
   obtain⟨h1,h2⟩:=C3 hm;refine⟨by rw[Nat.add_comm,List.getElem?_cons_succ]; exact h1,fun q hq=>?_⟩
   cases q with
   | zero=>simp[hy]
   | succ q=>rw[List.getElem?_cons_succ]; exact h2 q (by omega)
def X7(ls:List Lt)(ax:List Nat)(d:Nat):Nat:=
 if 2*ls.length≤d then
  if d % 2=0 then X6 ls.length (ax.getD (((d - 2*ls.length) / 2+1) % ax.length) 0) (!Z8 ls (ax.getD (((d - 2*ls.length) / 2+1) % ax.length) 0))
  else X6 ls.length (ax.getD ((d - 2*ls.length) / 2) 0) (Z8 ls (ax.getD ((d - 2*ls.length) / 2) 0))
 else
  let v:=if d % 2=0 then (d / 2+1) % ls.length else d / 2
  if (at' ls v).k=2 then X6 ls.length (Q4 ls v ls.length 0) ((d % 2 == 0) == ((at' ls v).o == ((at' ls v).s == 1)))
  else if Z8 ls v=(d % 2 == 0)then 2*ls.length+2*W7 v ax else 2*ls.length+2*((W7 v ax+ax.length - 1) % ax.length)+1
end Go.Ac
end
section
namespace Go.Ac
open Go Go.AE Go.Proofs
def IT:Aa:=(.Aj [[(.int .i64 1),(.int .i64 0)],[(.int .i64 0),(.int .i64 1)]])
def UD:Aa:=(.Aj [[(.int .i64 9)],[(.int .i64 8)],[(.int .i64 7)],[(.int .i64 4)],[(.int .i64 3)],[(.int .i64 2)]])
def UF:Aa:=(.Aj [[(.int .i64 5)],[(.int .i64 6)],[(.int .i64 10)],[(.int .i64 1)]])
def UG:Aa:=(.Aj [[(.int .i64 5),(.int .i64 0)],[(.int .i64 4),(.int .i64 1)]])
def UH:Aa:=(.Aj [[(.int .i64 6),(.int .i64 0)],[(.int .i64 5),(.int .i64 2)]])
def UB:Aa:=(.Aj [[(.int .i64 6),(.int .i64 1)],[(.int .i64 7),(.int .i64 0)],[(.int .i64 8),(.int .i64 0)],[(.int .i64 9),(.int .i64 0)]])
def Gw:Aa:=(.Aj [[(.int .i64 10),(.int .i64 0)],[(.int .i64 9),(.int .i64 1)]])
def Py:Aa:=(.Aj [[(.int .i64 10),(.int .i64 1)],[(.int .i64 0),(.int .i64 0)]])
def qi:Aa:=(.Aj [[(.bool false),(.Aj [[(.int .i64 0)]]),IT,(.Aj [[(.int .i64 1)]]),(.bool false)],[(.bool false),(.Aj [[(.int .i64 1)],[(.int .i64 13)],[(.int .i64 9)],[(.int .i64 5)]]),(.Aj [[(.int .i64 0),(.int .i64 0)],[(.int .i64 10),(.int .i64 1)],[(.int .i64 9),(.int .i64 0)],[(.int .i64 8),(.int .i64 0)],[(.int .i64 7),(.int .i64 0)],[(.int .i64 6),(.int .i64 1)],[(.int .i64 5),(.int .i64 1)],[(.int .i64 4),(.int .i64 0)],[(.int .i64 3),(.int .i64 0)],[(.int .i64 2),(.int .i64 0)],[(.int .i64 1),(.int .i64 1)]]),UD,(.bool true)],[(.bool true),(.Aj [[(.int .i64 2)],[(.int .i64 6)],[(.int .i64 10)],[(.int .i64 14)]]),(.Aj [[(.int .i64 4),(.int .i64 1)],[(.int .i64 5),(.int .i64 0)],[(.int .i64 5),(.int .i64 2)],[(.int .i64 6),(.int .i64 0)],[(.int .i64 9),(.int .i64 1)],[(.int .i64 10),(.int .i64 0)],[(.int .i64 0),(.int .i64 1)],[(.int .i64 1),(.int .i64 0)]]),UF,(.bool false)],[(.bool true),(.Aj [[(.int .i64 3)]]),(.Aj [[(.int .i64 1),(.int .i64 1)],[(.int .i64 2),(.int .i64 0)],[(.int .i64 3),(.int .i64 0)],[(.int .i64 4),(.int .i64 0)]]),(.Aj [[(.int .i64 2)],[(.int .i64 3)],[(.int .i64 4)]]),(.bool false)],[(.bool false),(.Aj [[(.int .i64 4)]]),UG,(.Aj [[(.int .i64 5)]]),(.bool false)],[(.bool true),(.Aj [[(.int .i64 7)]]),(.Aj [[(.int .i64 5),(.int .i64 1)]]),.Ae,(.bool false)],[(.bool false),(.Aj [[(.int .i64 8)]]),UH,(.Aj [[(.int .i64 6)]]),(.bool false)],[(.bool true),(.Aj [[(.int .i64 11)]]),UB,(.Aj [[(.int .i64 7)],[(.int .i64 8)],[(.int .i64 9)]]),(.bool false)],[(.bool false),(.Aj [[(.int .i64 12)]]),Gw,(.Aj [[(.int .i64 10)]]),(.bool false)],[(.bool true),(.Aj [[(.int .i64 15)]]),Py,.Ae,(.bool true)]])
def Eb:Aa:=(.agg [qi])
def gL:Aa:=(.agg [(.int .i64 10),(.Aj [[(.int .i64 1),(.int .i64 0),(.int .i64 1),(.int .i64 0),(.int .i64 0),(.bool false)],[(.int .i64 1),(.int .i64 1),(.int .i64 1),(.int .i64 0),(.int .i64 0),(.bool false)],[(.int .i64 1),(.int .i64 3),(.int .i64 1),(.int .i64 0),(.int .i64 0),(.bool false)],[(.int .i64 1),(.int .i64 3),(.int .i64 2),(.int .i64 0),(.int .i64 0),(.bool false)],[(.int .i64 1),(.int .i64 4),(.int .i64 1),(.int .i64 0),(.int .i64 0),(.bool false)],[(.int .i64 1),(.int .i64 5),(.int .i64 1),(.int .i64 0),(.int .i64 0),(.bool false)],[(.int .i64 1),(.int .i64 5),(.int .i64 2),(.int .i64 0),(.int .i64 0),(.bool false)],[(.int .i64 1),(.int .i64 6),(.int .i64 1),(.int .i64 0),(.int .i64 0),(.bool false)],[(.int .i64 1),(.int .i64 9),(.int .i64 1),(.int .i64 0),(.int .i64 0),(.bool false)],[(.int .i64 1),(.int .i64 10),(.int .i64 1),(.int .i64 0),(.int .i64 0),(.bool false)]])])
def gN:Aa:=(.agg [(.int .i64 10),(.Aj [[(.int .i64 1),(.int .i64 0),(.int .i64 1),(.int .i64 0),(.int .i64 0),(.bool false)],[(.int .i64 1),(.int .i64 1),(.int .i64 1),(.int .i64 0),(.int .i64 0),(.bool false)],[(.int .i64 1),(.int .i64 2),(.int .i64 1),(.int .i64 0),(.int .i64 0),(.bool false)],[(.int .i64 1),(.int .i64 3),(.int .i64 1),(.int .i64 0),(.int .i64 0),(.bool false)],[(.int .i64 1),(.int .i64 4),(.int .i64 1),(.int .i64 0),(.int .i64 0),(.bool false)],[(.int .i64 1),(.int .i64 5),(.int .i64 1),(.int .i64 0),(.int .i64 0),(.bool false)],[(.int .i64 1),(.int .i64 5),(.int .i64 2),(.int .i64 0),(.int .i64 0),(.bool false)],[(.int .i64 1),(.int .i64 6),(.int .i64 1),(.int .i64 0),(.int .i64 0),(.bool false)],[(.int .i64 1),(.int .i64 9),(.int .i64 1),(.int .i64 0),(.int .i64 0),(.bool false)],[(.int .i64 1),(.int .i64 10),(.int .i64 1),(.int .i64 0),(.int .i64 0),(.bool false)]])])
def ER:Aa:=(.agg [(.int .i64 10),(.Aj [[(.int .i64 1),(.int .i64 0),(.int .i64 1),(.int .i64 0),(.int .i64 0),(.bool false)],[(.int .i64 1),(.int .i64 1),(.int .i64 1),(.int .i64 0),(.int .i64 0),(.bool false)],[(.int .i64 1),(.int .i64 4),(.int .i64 1),(.int .i64 0),(.int .i64 0),(.bool false)],[(.int .i64 1),(.int .i64 5),(.int .i64 1),(.int .i64 0),(.int .i64 0),(.bool false)],[(.int .i64 1),(.int .i64 5),(.int .i64 2),(.int .i64 0),(.int .i64 0),(.bool false)],[(.int .i64 1),(.int .i64 6),(.int .i64 1),(.int .i64 0),(.int .i64 0),(.bool false)],[(.int .i64 1),(.int .i64 9),(.int .i64 1),(.int .i64 0),(.int .i64 0),(.bool false)],[(.int .i64 1),(.int .i64 10),(.int .i64 1),(.int .i64 0),(.int .i64 0),(.bool false)]])])
def gO:Aa:=(.agg [(.int .i64 10),(.Aj [[(.int .i64 1),(.int .i64 1),(.int .i64 1),(.int .i64 0),(.int .i64 0),(.bool false)],[(.int .i64 2),(.int .i64 0),(.int .i64 0),(.int .i64 1),(.int .i64 1),(.bool true)],[(.int .i64 2),(.int .i64 0),(.int .i64 0),(.int .i64 1),(.int .i64 1),(.bool false)],[(.int .i64 1),(.int .i64 1),(.int .i64 2),(.int .i64 0),(.int .i64 0),(.bool false)],[(.int .i64 1),(.int .i64 9),(.int .i64 1),(.int .i64 0),(.int .i64 0),(.bool false)],[(.int .i64 1),(.int .i64 10),(.int .i64 1),(.int .i64 0),(.int .i64 0),(.bool false)]])])
def gP:Aa:=(.agg [(.int .i64 10),(.Aj [[(.int .i64 1),(.int .i64 1),(.int .i64 2),(.int .i64 0),(.int .i64 0),(.bool false)],[(.int .i64 1),(.int .i64 1),(.int .i64 1),(.int .i64 0),(.int .i64 0),(.bool false)],[(.int .i64 2),(.int .i64 0),(.int .i64 0),(.int .i64 1),(.int .i64 1),(.bool false)],[(.int .i64 1),(.int .i64 9),(.int .i64 1),(.int .i64 0),(.int .i64 0),(.bool false)],[(.int .i64 1),(.int .i64 10),(.int .i64 1),(.int .i64 0),(.int .i64 0),(.bool false)],[(.int .i64 2),(.int .i64 0),(.int .i64 0),(.int .i64 1),(.int .i64 1),(.bool true)]])])
def gQ:Aa:=(.agg [(.int .i64 10),(.Aj [[(.int .i64 1),(.int .i64 1),(.int .i64 1),(.int .i64 0),(.int .i64 0),(.bool false)],[(.int .i64 1),(.int .i64 0),(.int .i64 1),(.int .i64 0),(.int .i64 0),(.bool false)],[(.int .i64 2),(.int .i64 0),(.int .i64 0),(.int .i64 1),(.int .i64 1),(.bool false)],[(.int .i64 1),(.int .i64 9),(.int .i64 1),(.int .i64 0),(.int .i64 0),(.bool false)],[(.int .i64 1),(.int .i64 10),(.int .i64 1),(.int .i64 0),(.int .i64 0),(.bool false)],[(.int .i64 2),(.int .i64 0),(.int .i64 0),(.int .i64 1),(.int .i64 1),(.bool true)]])])
def GZ:Aa:=(.agg [(.Aj [[(.int .i64 1),(.bool false),(.int .i64 1)],[(.int .i64 1),(.bool false),(.int .i64 2)],[(.int .i64 1),(.bool false),(.int .i64 3)],[(.int .i64 1),(.bool false),(.int .i64 4)],[(.int .i64 1),(.bool false),(.int .i64 5)],[(.int .i64 1),(.bool true),(.int .i64 5)],[(.int .i64 1),(.bool true),(.int .i64 4)],[(.int .i64 1),(.bool true),(.int .i64 3)],[(.int .i64 1),(.bool true),(.int .i64 2)],[(.int .i64 1),(.bool true),(.int .i64 1)]]),(.int .i64 6),(.int .i64 4)])
def Pq:Aa:=(.agg [(.int .i64 10),(.Aj [[(.int .i64 1),(.int .i64 0),(.int .i64 1),(.int .i64 0),(.int .i64 0),(.bool false)],[(.int .i64 1),(.int .i64 1),(.int .i64 1),(.int .i64 0),(.int .i64 0),(.bool false)],[(.int .i64 1),(.int .i64 10),(.int .i64 1),(.int .i64 0),(.int .i64 0),(.bool false)],[(.int .i64 1),(.int .i64 10),(.int .i64 2),(.int .i64 0),(.int .i64 0),(.bool false)]])])
def EL:Aa:=(.agg [(.int .i64 10),(.Aj [[(.int .i64 1),(.int .i64 0),(.int .i64 1),(.int .i64 0),(.int .i64 0),(.bool false)],[(.int .i64 1),(.int .i64 1),(.int .i64 1),(.int .i64 0),(.int .i64 0),(.bool false)],[(.int .i64 1),(.int .i64 9),(.int .i64 1),(.int .i64 0),(.int .i64 0),(.bool false)],[(.int .i64 1),(.int .i64 10),(.int .i64 1),(.int .i64 0),(.int .i64 0),(.bool false)]])])
def Pr:Aa:=(.agg [(.int .i64 10),(.Aj [[(.int .i64 1),(.int .i64 1),(.int .i64 1),(.int .i64 0),(.int .i64 0),(.bool false)],[(.int .i64 1),(.int .i64 1),(.int .i64 2),(.int .i64 0),(.int .i64 0),(.bool false)],[(.int .i64 1),(.int .i64 9),(.int .i64 1),(.int .i64 0),(.int .i64 0),(.bool false)],[(.int .i64 1),(.int .i64 10),(.int .i64 1),(.int .i64 0),(.int .i64 0),(.bool false)]])])
def Pt:Aa:=(.Aj [[(.int .i64 1),(.int .i64 0)],[(.int .i64 0),(.int .i64 0)],[(.int .i64 10),(.int .i64 1)],[(.int .i64 9),(.int .i64 0)],[(.int .i64 8),(.int .i64 0)],[(.int .i64 7),(.int .i64 0)],[(.int .i64 6),(.int .i64 0)],[(.int .i64 5),(.int .i64 0)],[(.int .i64 4),(.int .i64 0)],[(.int .i64 3),(.int .i64 0)],[(.int .i64 2),(.int .i64 0)],[(.int .i64 1),(.int .i64 2)]])
def Pu:Aa:=(.Aj [[(.int .i64 1),(.int .i64 2)],[(.int .i64 2),(.int .i64 0)],[(.int .i64 3),(.int .i64 0)],[(.int .i64 4),(.int .i64 0)],[(.int .i64 5),(.int .i64 0)],[(.int .i64 6),(.int .i64 0)],[(.int .i64 7),(.int .i64 0)],[(.int .i64 8),(.int .i64 0)],[(.int .i64 9),(.int .i64 0)]])
def FW:Aa:=(.agg [(.int .i64 10),(.Aj [[(.int .i64 1),(.int .i64 0),(.int .i64 1),(.int .i64 0),(.int .i64 0),(.bool false)],[(.int .i64 1),(.int .i64 1),(.int .i64 1),(.int .i64 0),(.int .i64 0),(.bool false)]])])
def Pv:Aa:=(.agg [(.int .i64 10),(.Aj [[(.int .i64 1),(.int .i64 1),(.int .i64 1),(.int .i64 0),(.int .i64 0),(.bool false)],[(.int .i64 1),(.int .i64 1),(.int .i64 2),(.int .i64 0),(.int .i64 0),(.bool false)]])])
def Uz:Aa:=(.Aj [[(.int .i64 10)],[(.int .i64 9)],[(.int .i64 8)],[(.int .i64 7)],[(.int .i64 6)],[(.int .i64 5)],[(.int .i64 4)],[(.int .i64 3)],[(.int .i64 2)]])
def UA:Aa:=(.Aj [[(.int .i64 2)],[(.int .i64 3)],[(.int .i64 4)],[(.int .i64 5)],[(.int .i64 6)],[(.int .i64 7)],[(.int .i64 8)],[(.int .i64 9)],[(.int .i64 10)]])
def Pw:Aa:=(.Aj [[(.int .i64 1)],[(.int .i64 9)],[(.int .i64 8)],[(.int .i64 7)],[(.int .i64 6)],[(.int .i64 5)],[(.int .i64 4)],[(.int .i64 3)],[(.int .i64 2)]])
def Ml:Aa:=(.Aj [[(.int .i64 2)],[(.int .i64 3)],[(.int .i64 4)],[(.int .i64 5)],[(.int .i64 6)],[(.int .i64 7)],[(.int .i64 8)],[(.int .i64 9)]])
def UC:Aa:=(.agg [(.int .i64 9),(.int .i64 0),(.int .i64 0),(.int .i64 0),(.bool false),(.bool false),(.int .i64 0)])
def UE:Aa:=(.Aj [[(.int .i64 9),(.int .i64 1)],[(.int .i64 10),(.int .i64 0)],[(.int .i64 1),(.int .i64 1)]])
def Px:Aa:=(.Aj [[(.int .i64 10),(.int .i64 1)],[(.int .i64 0),(.int .i64 0)],[(.int .i64 1),(.int .i64 0)]])
def UI:Aa:=(.Aj [[(.int .i64 6),(.int .i64 1),(.bool false),(.int .i64 0)]])
def UJ:Aa:=(.agg [(.int .i64 5),(.int .i64 0),(.bool false),(.int .i64 0)])
end Go.Ac
end
