/- Part 24 of the proof: Ld, Pi, Pj. -/
import Derived.Test.YtipeejpafgnjdaaGreatDoorF19
import Derived.Test.YtipeejpafgnjdaaGreatDoorF23
set_option linter.all false
section
namespace Go.Known
open Go Go.AE Go.Proofs
open Go.Plain
attribute [local simp] wS_skip wS_region wS_dregion wS_seq wS_cond wS_block wS_exit wS_ret thenS_normal thenS_ret thenS_exit blockS_normal blockS_ret blockS_exit sops_nil sops_cons wantedE evE Env.get putE argE stepD SMem.at SMem.app SMem.get lookB AVal.cells AVal.one addA loadD rowAtD sliceLen asNat binA binInt unA eqA storeD setRow retS calleeE aundef SubS SubE SubB slBoundsD optNatD srcRowsD rowsOfD appendRowsD fillS eraseB room
theorem getD_eq {l:List Bool} {x:Nat} {b:Bool} (h:l[x]? = some b):l.getD x true=b:=by rw [List.getD,h]; rfl
theorem unseen_set {l:List Bool} {x:Nat} (h:l[x]? = some false):unseen (l.set x true)+1=unseen l:=by
 induction l generalizing x with
 | nil=>simp at h
 | cons a r ih=>
  cases x with
  | zero=>
   simp only [List.getElem?_cons_zero,Option.some.injEq] at h
   subst h
   simp [unseen]
  | succ x=>
   simp only [List.getElem?_cons_succ] at h
   have:=ih h
   simp only [unseen,List.set_cons_succ,List.filter_cons] at this ⊢
   cases a<;>simp<;>omega
theorem unseen_le {l:List Bool}:unseen l≤l.length:=List.length_filter_le _ _
theorem cyc_seen {T:Nat→Nat} {N d:Nat} {seen:List Bool} (hd:d<N) (h:seen[d]? = some true):cyc T N (N - d) seen=cyc T N (N - (d+1)) seen:=by
 obtain⟨k,hk⟩:∃ k,N - d=k+1:=⟨N - d - 1,by omega⟩
 have hk2:N - (d+1)=k:=by omega
 have hk3:N - (k+1)=d:=by omega
 rw [hk,hk2,cyc,hk3,getD_eq h,if_pos rfl]
theorem cyc_new {T:Nat→Nat} {N d:Nat} {seen:List Bool} (hd:d<N) (h:seen[d]? = some false):cyc T N (N - d) seen=1+cyc T N (N - (d+1)) (Plain.mark T (N+1) seen d):=by
 obtain⟨k,hk⟩:∃ k,N - d=k+1:=⟨N - d - 1,by omega⟩
 have hk2:N - (d+1)=k:=by omega
 have hk3:N - (k+1)=d:=by omega
 rw [hk,hk2,cyc,hk3,getD_eq h,if_neg (by simp)]
theorem mark_seen {T:Nat→Nat} {k x:Nat} {seen:List Bool} (h:seen[x]? = some true):Plain.mark T k seen x=seen:=by
 cases k with
 | zero=>rfl
 | succ k=>rw [Plain.mark,getD_eq h,if_pos rfl]
theorem mark_new {T:Nat→Nat} {k x:Nat} {seen:List Bool} (h:seen[x]? = some false):Plain.mark T (k+1) seen x=Plain.mark T k (seen.set x true) (T x):=by
 rw [Plain.mark,getD_eq h,if_neg (by simp)]
end Go.Known
end
section
namespace Go.Known
open Go.Plain
def tr (T:Nat→Nat):Nat→List Bool→Nat→List Nat
 | 0,_,_=>[]
 | k+1,seen,x=>if seen.getD x true then [] else x :: tr T k (seen.set x true) (T x)
def wks (T:Nat→Nat) (N:Nat):Nat→List Bool→List (List Nat)
 | 0,_=>[]
 | k+1,seen=>if seen.getD (N - (k+1)) true then wks T N k seen else tr T (N+1) seen (N - (k+1)) :: wks T N k (Plain.mark T (N+1) seen (N - (k+1)))
def walks (T:Nat→Nat) (N:Nat):List (List Nat):=wks T N N (List.replicate N false)
section
variable {T:Nat→Nat} {n N:Nat}
end
def headN (n d:Nat):Nat:=if d % 2=0 then (d / 2+1) % n else d / 2
section
variable {ls:List Lt}
end
end Go.Known
end
section
namespace Go.Known
open Go.Plain
def isC (ls:List Lt) (d:Nat):Bool:=(at' ls (headN ls.length d)).k == 2
end Go.Known
end
