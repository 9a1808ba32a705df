/- Part 29 of the proof: Lb, Kv. -/
import Derived.Test.YtfmnflhggplkmaaGreatDoorO28
set_option linter.all false
section
namespace Go.Known
open Go Go.AE Go.Proofs
open Go.Plain
attribute [local simp] wS_skip wS_region wS_dregion wS_seq wS_cond wS_block wS_exit wS_ret thenS_normal thenS_ret thenS_exit blockS_normal blockS_ret blockS_exit sops_nil sops_cons wantedE evE Env.get putE argE stepD SMem.at SMem.app SMem.get lookB AVal.cells AVal.one addA loadD rowAtD sliceLen asNat binA binInt unA eqA storeD setRow retS calleeE aundef sdops_nil sdops_cons indepL FT.indep apartL apart1 belowL subL in1 footWD footRD blkOf SubS SubE SubB
def idxN (x:Nat):List Nat→Nat
 | []=>0
 | y :: r=>if y=x then 0 else 1+idxN x r
theorem idxN_spec {x:Nat}:∀ {l:List Nat},x∈l→l[idxN x l]? = some x ∧ ∀ q,q<idxN x l→l[q]? ≠ some x
 | [],h=>by simp at h
 | y :: r,h=>by
  simp only[idxN]
  by_cases hy:y=x
  ·subst hy
   simp
  ·rw[if_neg hy]
   have hm:x∈r:=by
    rcases List.mem_cons.1 h with h|h
    ·exact absurd h.symm hy
    ·exact h
   obtain⟨h1,h2⟩:=idxN_spec hm
   refine⟨by rw[Nat.add_comm,List.getElem?_cons_succ]; exact h1,fun q hq=>?_⟩
   cases q with
   | zero=>simp[hy]
   | succ q=>rw[List.getElem?_cons_succ]; exact h2 q (by omega)
def turnN (ls:List Lt) (ax:List Nat) (d:Nat):Nat:=
 if 2*ls.length≤d then
  if d % 2=0 then alongN ls.length (ax.getD (((d - 2*ls.length) / 2+1) % ax.length) 0) (!down ls (ax.getD (((d - 2*ls.length) / 2+1) % ax.length) 0))
  else alongN ls.length (ax.getD ((d - 2*ls.length) / 2) 0) (down ls (ax.getD ((d - 2*ls.length) / 2) 0))
 else
  let v:=if d % 2=0 then (d / 2+1) % ls.length else d / 2
  if (at' ls v).k=2 then alongN ls.length (otherN ls v ls.length 0) ((d % 2 == 0) == ((at' ls v).o == ((at' ls v).s == 1)))
  else if down ls v=(d % 2 == 0)then 2*ls.length+2*idxN v ax else 2*ls.length+2*((idxN v ax+ax.length - 1) % ax.length)+1
end Go.Known
end
section
namespace Go.Known
open Go Go.AE Go.Proofs
def kv29:AVal:=(.imm [[(.int .i64 1),(.int .i64 0)],[(.int .i64 0),(.int .i64 1)]])
def kv23:AVal:=(.imm [[(.int .i64 9)],[(.int .i64 8)],[(.int .i64 7)],[(.int .i64 4)],[(.int .i64 3)],[(.int .i64 2)]])
def kv26:AVal:=(.imm [[(.int .i64 5)],[(.int .i64 6)],[(.int .i64 10)],[(.int .i64 1)]])
def kv30:AVal:=(.imm [[(.int .i64 5),(.int .i64 0)],[(.int .i64 4),(.int .i64 1)]])
def kv31:AVal:=(.imm [[(.int .i64 6),(.int .i64 0)],[(.int .i64 5),(.int .i64 2)]])
def kv21:AVal:=(.imm [[(.int .i64 6),(.int .i64 1)],[(.int .i64 7),(.int .i64 0)],[(.int .i64 8),(.int .i64 0)],[(.int .i64 9),(.int .i64 0)]])
def kv27:AVal:=(.imm [[(.int .i64 10),(.int .i64 0)],[(.int .i64 9),(.int .i64 1)]])
def kv28:AVal:=(.imm [[(.int .i64 10),(.int .i64 1)],[(.int .i64 0),(.int .i64 0)]])
def kv2:AVal:=(.imm [[(.bool false),(.imm [[(.int .i64 0)]]),kv29,(.imm [[(.int .i64 1)]]),(.bool false)],[(.bool false),(.imm [[(.int .i64 1)],[(.int .i64 13)],[(.int .i64 9)],[(.int .i64 5)]]),(.imm [[(.int .i64 0),(.int .i64 0)],[(.int .i64 10),(.int .i64 1)],[(.int .i64 9),(.int .i64 0)],[(.int .i64 8),(.int .i64 0)],[(.int .i64 7),(.int .i64 0)],[(.int .i64 6),(.int .i64 1)],[(.int .i64 5),(.int .i64 1)],[(.int .i64 4),(.int .i64 0)],[(.int .i64 3),(.int .i64 0)],[(.int .i64 2),(.int .i64 0)],[(.int .i64 1),(.int .i64 1)]]),kv23,(.bool true)],[(.bool true),(.imm [[(.int .i64 2)],[(.int .i64 6)],[(.int .i64 10)],[(.int .i64 14)]]),(.imm [[(.int .i64 4),(.int .i64 1)],[(.int .i64 5),(.int .i64 0)],[(.int .i64 5),(.int .i64 2)],[(.int .i64 6),(.int .i64 0)],[(.int .i64 9),(.int .i64 1)],[(.int .i64 10),(.int .i64 0)],[(.int .i64 0),(.int .i64 1)],[(.int .i64 1),(.int .i64 0)]]),kv26,(.bool false)],[(.bool true),(.imm [[(.int .i64 3)]]),(.imm [[(.int .i64 1),(.int .i64 1)],[(.int .i64 2),(.int .i64 0)],[(.int .i64 3),(.int .i64 0)],[(.int .i64 4),(.int .i64 0)]]),(.imm [[(.int .i64 2)],[(.int .i64 3)],[(.int .i64 4)]]),(.bool false)],[(.bool false),(.imm [[(.int .i64 4)]]),kv30,(.imm [[(.int .i64 5)]]),(.bool false)],[(.bool true),(.imm [[(.int .i64 7)]]),(.imm [[(.int .i64 5),(.int .i64 1)]]),.nilSl,(.bool false)],[(.bool false),(.imm [[(.int .i64 8)]]),kv31,(.imm [[(.int .i64 6)]]),(.bool false)],[(.bool true),(.imm [[(.int .i64 11)]]),kv21,(.imm [[(.int .i64 7)],[(.int .i64 8)],[(.int .i64 9)]]),(.bool false)],[(.bool false),(.imm [[(.int .i64 12)]]),kv27,(.imm [[(.int .i64 10)]]),(.bool false)],[(.bool true),(.imm [[(.int .i64 15)]]),kv28,.nilSl,(.bool true)]])
def kv1:AVal:=(.agg [kv2])
def kv3:AVal:=(.agg [(.int .i64 10),(.imm [[(.int .i64 1),(.int .i64 0),(.int .i64 1),(.int .i64 0),(.int .i64 0),(.bool false)],[(.int .i64 1),(.int .i64 1),(.int .i64 1),(.int .i64 0),(.int .i64 0),(.bool false)],[(.int .i64 1),(.int .i64 3),(.int .i64 1),(.int .i64 0),(.int .i64 0),(.bool false)],[(.int .i64 1),(.int .i64 3),(.int .i64 2),(.int .i64 0),(.int .i64 0),(.bool false)],[(.int .i64 1),(.int .i64 4),(.int .i64 1),(.int .i64 0),(.int .i64 0),(.bool false)],[(.int .i64 1),(.int .i64 5),(.int .i64 1),(.int .i64 0),(.int .i64 0),(.bool false)],[(.int .i64 1),(.int .i64 5),(.int .i64 2),(.int .i64 0),(.int .i64 0),(.bool false)],[(.int .i64 1),(.int .i64 6),(.int .i64 1),(.int .i64 0),(.int .i64 0),(.bool false)],[(.int .i64 1),(.int .i64 9),(.int .i64 1),(.int .i64 0),(.int .i64 0),(.bool false)],[(.int .i64 1),(.int .i64 10),(.int .i64 1),(.int .i64 0),(.int .i64 0),(.bool false)]])])
def kv4:AVal:=(.agg [(.int .i64 10),(.imm [[(.int .i64 1),(.int .i64 0),(.int .i64 1),(.int .i64 0),(.int .i64 0),(.bool false)],[(.int .i64 1),(.int .i64 1),(.int .i64 1),(.int .i64 0),(.int .i64 0),(.bool false)],[(.int .i64 1),(.int .i64 2),(.int .i64 1),(.int .i64 0),(.int .i64 0),(.bool false)],[(.int .i64 1),(.int .i64 3),(.int .i64 1),(.int .i64 0),(.int .i64 0),(.bool false)],[(.int .i64 1),(.int .i64 4),(.int .i64 1),(.int .i64 0),(.int .i64 0),(.bool false)],[(.int .i64 1),(.int .i64 5),(.int .i64 1),(.int .i64 0),(.int .i64 0),(.bool false)],[(.int .i64 1),(.int .i64 5),(.int .i64 2),(.int .i64 0),(.int .i64 0),(.bool false)],[(.int .i64 1),(.int .i64 6),(.int .i64 1),(.int .i64 0),(.int .i64 0),(.bool false)],[(.int .i64 1),(.int .i64 9),(.int .i64 1),(.int .i64 0),(.int .i64 0),(.bool false)],[(.int .i64 1),(.int .i64 10),(.int .i64 1),(.int .i64 0),(.int .i64 0),(.bool false)]])])
def kv5:AVal:=(.agg [(.int .i64 10),(.imm [[(.int .i64 1),(.int .i64 0),(.int .i64 1),(.int .i64 0),(.int .i64 0),(.bool false)],[(.int .i64 1),(.int .i64 1),(.int .i64 1),(.int .i64 0),(.int .i64 0),(.bool false)],[(.int .i64 1),(.int .i64 4),(.int .i64 1),(.int .i64 0),(.int .i64 0),(.bool false)],[(.int .i64 1),(.int .i64 5),(.int .i64 1),(.int .i64 0),(.int .i64 0),(.bool false)],[(.int .i64 1),(.int .i64 5),(.int .i64 2),(.int .i64 0),(.int .i64 0),(.bool false)],[(.int .i64 1),(.int .i64 6),(.int .i64 1),(.int .i64 0),(.int .i64 0),(.bool false)],[(.int .i64 1),(.int .i64 9),(.int .i64 1),(.int .i64 0),(.int .i64 0),(.bool false)],[(.int .i64 1),(.int .i64 10),(.int .i64 1),(.int .i64 0),(.int .i64 0),(.bool false)]])])
def kv6:AVal:=(.agg [(.int .i64 10),(.imm [[(.int .i64 1),(.int .i64 1),(.int .i64 1),(.int .i64 0),(.int .i64 0),(.bool false)],[(.int .i64 2),(.int .i64 0),(.int .i64 0),(.int .i64 1),(.int .i64 1),(.bool true)],[(.int .i64 2),(.int .i64 0),(.int .i64 0),(.int .i64 1),(.int .i64 1),(.bool false)],[(.int .i64 1),(.int .i64 1),(.int .i64 2),(.int .i64 0),(.int .i64 0),(.bool false)],[(.int .i64 1),(.int .i64 9),(.int .i64 1),(.int .i64 0),(.int .i64 0),(.bool false)],[(.int .i64 1),(.int .i64 10),(.int .i64 1),(.int .i64 0),(.int .i64 0),(.bool false)]])])
def kv7:AVal:=(.agg [(.int .i64 10),(.imm [[(.int .i64 1),(.int .i64 1),(.int .i64 2),(.int .i64 0),(.int .i64 0),(.bool false)],[(.int .i64 1),(.int .i64 1),(.int .i64 1),(.int .i64 0),(.int .i64 0),(.bool false)],[(.int .i64 2),(.int .i64 0),(.int .i64 0),(.int .i64 1),(.int .i64 1),(.bool false)],[(.int .i64 1),(.int .i64 9),(.int .i64 1),(.int .i64 0),(.int .i64 0),(.bool false)],[(.int .i64 1),(.int .i64 10),(.int .i64 1),(.int .i64 0),(.int .i64 0),(.bool false)],[(.int .i64 2),(.int .i64 0),(.int .i64 0),(.int .i64 1),(.int .i64 1),(.bool true)]])])
def kv8:AVal:=(.agg [(.int .i64 10),(.imm [[(.int .i64 1),(.int .i64 1),(.int .i64 1),(.int .i64 0),(.int .i64 0),(.bool false)],[(.int .i64 1),(.int .i64 0),(.int .i64 1),(.int .i64 0),(.int .i64 0),(.bool false)],[(.int .i64 2),(.int .i64 0),(.int .i64 0),(.int .i64 1),(.int .i64 1),(.bool false)],[(.int .i64 1),(.int .i64 9),(.int .i64 1),(.int .i64 0),(.int .i64 0),(.bool false)],[(.int .i64 1),(.int .i64 10),(.int .i64 1),(.int .i64 0),(.int .i64 0),(.bool false)],[(.int .i64 2),(.int .i64 0),(.int .i64 0),(.int .i64 1),(.int .i64 1),(.bool true)]])])
def kv9:AVal:=(.agg [(.imm [[(.int .i64 1),(.bool false),(.int .i64 1)],[(.int .i64 1),(.bool false),(.int .i64 2)],[(.int .i64 1),(.bool false),(.int .i64 3)],[(.int .i64 1),(.bool false),(.int .i64 4)],[(.int .i64 1),(.bool false),(.int .i64 5)],[(.int .i64 1),(.bool true),(.int .i64 5)],[(.int .i64 1),(.bool true),(.int .i64 4)],[(.int .i64 1),(.bool true),(.int .i64 3)],[(.int .i64 1),(.bool true),(.int .i64 2)],[(.int .i64 1),(.bool true),(.int .i64 1)]]),(.int .i64 6),(.int .i64 4)])
def kv10:AVal:=(.agg [(.int .i64 10),(.imm [[(.int .i64 1),(.int .i64 0),(.int .i64 1),(.int .i64 0),(.int .i64 0),(.bool false)],[(.int .i64 1),(.int .i64 1),(.int .i64 1),(.int .i64 0),(.int .i64 0),(.bool false)],[(.int .i64 1),(.int .i64 10),(.int .i64 1),(.int .i64 0),(.int .i64 0),(.bool false)],[(.int .i64 1),(.int .i64 10),(.int .i64 2),(.int .i64 0),(.int .i64 0),(.bool false)]])])
def kv11:AVal:=(.agg [(.int .i64 10),(.imm [[(.int .i64 1),(.int .i64 0),(.int .i64 1),(.int .i64 0),(.int .i64 0),(.bool false)],[(.int .i64 1),(.int .i64 1),(.int .i64 1),(.int .i64 0),(.int .i64 0),(.bool false)],[(.int .i64 1),(.int .i64 9),(.int .i64 1),(.int .i64 0),(.int .i64 0),(.bool false)],[(.int .i64 1),(.int .i64 10),(.int .i64 1),(.int .i64 0),(.int .i64 0),(.bool false)]])])
def kv12:AVal:=(.agg [(.int .i64 10),(.imm [[(.int .i64 1),(.int .i64 1),(.int .i64 1),(.int .i64 0),(.int .i64 0),(.bool false)],[(.int .i64 1),(.int .i64 1),(.int .i64 2),(.int .i64 0),(.int .i64 0),(.bool false)],[(.int .i64 1),(.int .i64 9),(.int .i64 1),(.int .i64 0),(.int .i64 0),(.bool false)],[(.int .i64 1),(.int .i64 10),(.int .i64 1),(.int .i64 0),(.int .i64 0),(.bool false)]])])
def kv13:AVal:=(.imm [[(.int .i64 1),(.int .i64 0)],[(.int .i64 0),(.int .i64 0)],[(.int .i64 10),(.int .i64 1)],[(.int .i64 9),(.int .i64 0)],[(.int .i64 8),(.int .i64 0)],[(.int .i64 7),(.int .i64 0)],[(.int .i64 6),(.int .i64 0)],[(.int .i64 5),(.int .i64 0)],[(.int .i64 4),(.int .i64 0)],[(.int .i64 3),(.int .i64 0)],[(.int .i64 2),(.int .i64 0)],[(.int .i64 1),(.int .i64 2)]])
def kv14:AVal:=(.imm [[(.int .i64 1),(.int .i64 2)],[(.int .i64 2),(.int .i64 0)],[(.int .i64 3),(.int .i64 0)],[(.int .i64 4),(.int .i64 0)],[(.int .i64 5),(.int .i64 0)],[(.int .i64 6),(.int .i64 0)],[(.int .i64 7),(.int .i64 0)],[(.int .i64 8),(.int .i64 0)],[(.int .i64 9),(.int .i64 0)]])
def kv15:AVal:=(.agg [(.int .i64 10),(.imm [[(.int .i64 1),(.int .i64 0),(.int .i64 1),(.int .i64 0),(.int .i64 0),(.bool false)],[(.int .i64 1),(.int .i64 1),(.int .i64 1),(.int .i64 0),(.int .i64 0),(.bool false)]])])
def kv16:AVal:=(.agg [(.int .i64 10),(.imm [[(.int .i64 1),(.int .i64 1),(.int .i64 1),(.int .i64 0),(.int .i64 0),(.bool false)],[(.int .i64 1),(.int .i64 1),(.int .i64 2),(.int .i64 0),(.int .i64 0),(.bool false)]])])
def kv17:AVal:=(.imm [[(.int .i64 10)],[(.int .i64 9)],[(.int .i64 8)],[(.int .i64 7)],[(.int .i64 6)],[(.int .i64 5)],[(.int .i64 4)],[(.int .i64 3)],[(.int .i64 2)]])
def kv18:AVal:=(.imm [[(.int .i64 2)],[(.int .i64 3)],[(.int .i64 4)],[(.int .i64 5)],[(.int .i64 6)],[(.int .i64 7)],[(.int .i64 8)],[(.int .i64 9)],[(.int .i64 10)]])
def kv19:AVal:=(.imm [[(.int .i64 1)],[(.int .i64 9)],[(.int .i64 8)],[(.int .i64 7)],[(.int .i64 6)],[(.int .i64 5)],[(.int .i64 4)],[(.int .i64 3)],[(.int .i64 2)]])
def kv20:AVal:=(.imm [[(.int .i64 2)],[(.int .i64 3)],[(.int .i64 4)],[(.int .i64 5)],[(.int .i64 6)],[(.int .i64 7)],[(.int .i64 8)],[(.int .i64 9)]])
def kv22:AVal:=(.agg [(.int .i64 9),(.int .i64 0),(.int .i64 0),(.int .i64 0),(.bool false),(.bool false),(.int .i64 0)])
def kv24:AVal:=(.imm [[(.int .i64 9),(.int .i64 1)],[(.int .i64 10),(.int .i64 0)],[(.int .i64 1),(.int .i64 1)]])
def kv25:AVal:=(.imm [[(.int .i64 10),(.int .i64 1)],[(.int .i64 0),(.int .i64 0)],[(.int .i64 1),(.int .i64 0)]])
def kv32:AVal:=(.imm [[(.int .i64 6),(.int .i64 1),(.bool false),(.int .i64 0)]])
def kv33:AVal:=(.agg [(.int .i64 5),(.int .i64 0),(.bool false),(.int .i64 0)])
end Go.Known
end
