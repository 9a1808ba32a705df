/- Part 48 of the proof: Rz. -/
import Derived.Test.YtmfdlchjaldclaaGreatDoorB17
import Derived.Test.YtmfdlchjaldclaaGreatDoorB37
set_option linter.all false
namespace Go.Known
open Go Go.AE Go.Proofs
open Go.Plain
def symR (i:Nat):List AVal:=[.bool (decide (4≤i)),.bool (decide (2≤i % 4)),.bool (decide (i % 2=1))]
def symRs (k:Nat):List (List AVal):=(List.range k).map symR
theorem symRs_succ (k:Nat):symRs (k+1)=symRs k++[symR k]:=by simp [symRs,List.range_succ]
@[simp] theorem symRs_length (k : Nat) : (symRs k).length = k := by simp [symRs]
@[simp] theorem symRs_zero : symRs 0 = [] := rfl
theorem closed_symRs (k:Nat):∀ q,renLL q (symRs k)=symRs k:=fun q=>by
 rw [renLL_map]
 unfold symRs
 rw [List.map_map]
 rfl
theorem c23:PCall Tryz.prog 14 [] (.imm (symRs 8)):=by
 refine PCall_F hm 2 Tryz.func14 ch23 rfl rfl rfl rfl fun K hK=>?_
 have hKv:=hK (.sl 1 0 8) ⟨[(1,.cells 3 (symRs 8))],2⟩ (by
  have:=freeze_rows (n:=1) (get:=SMem.get ⟨[(1,.cells 3 (symRs 8))],2⟩) (b:=1) (k:=3) (rows:=symRs 8) (by simp) (fun row hr x hx=>by
   obtain⟨i,_,rfl⟩:=List.mem_map.1 hr
   simp only [symR,List.mem_cons,List.not_mem_nil,or_false] at hx
   rcases hx with rfl | rfl | rfl<;>rfl)
  simpa using this)
 clear hK
 simp
 refine wZ_loop (α:=Nat) (fun i=>[(2,.int .i64 i),(1,slV 1 (symRs i))]) (fun i=>⟨blV 1 3 (symRs i) [],2⟩) (fun i=>8 - i) (fun i=>i≤8) 0 [] (by simp) (by simp) ?_
 intro i hi N hN
 try simp only at hi hN ⊢
 by_cases hlt:i<8
 · have hw:IntKind.i64.wrap ((i:Int)+1)=(i:Int)+1:=wrap64 (by omega) (by omega)
   have hr:=symRs_succ i
   have hc:=closed_symRs i
   have hl:(symRs i).length≤1048575:=by rw [symRs_length]; omega
   have t4:((i:Int)).tmod 4=((i % 4:Nat):Int):=rfl
   have t2:((i:Int)).tmod 2=((i % 2:Nat):Int):=rfl
   have b1:decide ((4:Int)≤(i:Int))=decide (4≤i):=decide_eq_decide.2 (by omega)
   have b2:decide ((2:Int)≤((i % 4:Nat):Int))=decide (2≤i % 4):=decide_eq_decide.2 (by omega)
   have b3:decide (((i % 2:Nat):Int)=1)=decide (i % 2=1):=decide_eq_decide.2 (by omega)
   have hd:decide ((i:Int)<8)=true:=decide_eq_true (by omega)
   have hN':=hN (i+1)
   rw [hr] at hN'
   unfold symR at hN'
   generalize symRs i=S at *
   simp [-Int.natCast_emod,hd,hl,t4,t2,b1,b2,b3,hw]
   exact hN' [(1,15)] _ _ (by omega) (by omega) (by simp [hc])
 · have hie:i=8:=by omega
   subst hie
   have hne:¬symRs 8=[]:=by intro e; have:=congrArg List.length e; simp at this
   simp
   exact endK hKv [] (by simp [slV_ne,blV_ne,hne,closed_symRs 8])
end Go.Known
