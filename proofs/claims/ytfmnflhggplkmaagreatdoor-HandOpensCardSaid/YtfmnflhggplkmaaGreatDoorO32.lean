/- Part 32 of the proof: Rl, Rm. -/
import Derived.Test.YtfmnflhggplkmaaGreatDoorO26
import Derived.Test.YtfmnflhggplkmaaGreatDoorO30
import Derived.Test.YtfmnflhggplkmaaGreatDoorO31
set_option linter.all false
section
namespace Go.Known
open Go Go.AE Go.Proofs
open Go.Plain
def prow (l:List (Int×Int)):List (List AVal):=l.map fun p=>[.int .i64 p.1,.int .i64 p.2]
def irow (l:List Int):List (List AVal):=l.map fun x=>[.int .i64 x]
@[simp] theorem prow_length (l : List (Int × Int)) : (prow l).length = l.length := by simp [prow]
@[simp] theorem irow_length (l : List Int) : (irow l).length = l.length := by simp [irow]
@[simp] theorem prow_nil0 : prow [] = [] := rfl
@[simp] theorem irow_nil0 : irow [] = [] := rfl
@[simp] theorem prow_nil {l : List (Int × Int)} : prow l = [] ↔ l = [] := by simp [prow]
@[simp] theorem irow_nil {l : List Int} : irow l = [] ↔ l = [] := by simp [irow]
@[simp] theorem take_prow (l : List (Int × Int)) : (prow l).take l.length = prow l := List.take_of_length_le (by simp)
@[simp] theorem take_irow (l : List Int) : (irow l).take l.length = irow l := List.take_of_length_le (by simp)
theorem closed_prow:∀ (l:List (Int×Int)),closedLL (prow l)=true
 | []=>rfl
 | p :: r=>by
  have:=closed_prow r
  simp only[prow,List.map_cons,closedLL,closedL,AVal.closed,Bool.and_true,Bool.true_and]at this ⊢
  exact this
theorem closed_irow:∀ (l:List Int),closedLL (irow l)=true
 | []=>rfl
 | p :: r=>by
  have:=closed_irow r
  simp only[irow,List.map_cons,closedLL,closedL,AVal.closed,Bool.and_true,Bool.true_and]at this ⊢
  exact this
@[simp] theorem ren_prow (q : Nat → Nat) (l : List (Int × Int)) : renLL q (prow l) = prow l := renLL_closed q _ (closed_prow l)
@[simp] theorem ren_irow (q : Nat → Nat) (l : List Int) : renLL q (irow l) = irow l := renLL_closed q _ (closed_irow l)
@[simp] theorem all_prow (l : List (Int × Int)) : ((prow l).all fun x => x.length == 2) = true := by simp [prow]
@[simp] theorem all_irow (l : List Int) : ((irow l).all fun x => x.length == 1) = true := by simp [irow]
theorem closed_imV {rows:List (List AVal)} (h:closedLL rows=true):(imV rows).closed=true:=by unfold imV; split<;>first|rfl|exact h
@[simp] theorem imV_nil : imV [] = .nilSl := rfl
@[simp] theorem ren_imVi (q : Nat → Nat) (l : List Int) : (imV (irow l)).ren q = imV (irow l) := AVal.ren_closed q _ (closed_imV (closed_irow l))
@[simp] theorem ren_imVp (q : Nat → Nat) (l : List (Int × Int)) : (imV (prow l)).ren q = imV (prow l) := AVal.ren_closed q _ (closed_imV (closed_prow l))
@[simp] theorem ren_imVn (q : Nat → Nat) (l : List Nat) : (imV (nums l)).ren q = imV (nums l) := AVal.ren_closed q _ (closed_imV (closed_nums l))
@[simp] theorem sl_imV (rows : List (List AVal)) : sliceLen (imV rows) = some rows.length := by
 unfold imV
 split
 ·rename_i h; subst h; rfl
 ·rfl
end Go.Known
end
section
namespace Go.Known
open Go Go.AE Go.Proofs
open Go.Plain
theorem frz_slV {get:Nat→Option ABlk} {b k n:Nat} {rows:List (List AVal)} (hg:get b=if rows=[]then none else some (.cells k rows)) (hs:∀ row,row∈rows → ∀ x,x∈row→freezeV get (n+1) x=some x):freezeV get (n+2) (slV b rows)=some (imV rows):=by
 unfold slV imV
 by_cases h:rows=[]
 ·rw[if_pos h,if_pos h]; rfl
 ·rw[if_neg h,if_neg h]
  exact freeze_rows (by rw[hg,if_neg h]) hs
theorem frz_imV {get:Nat→Option ABlk} {n:Nat} {rows:List (List AVal)} (hs:∀ row,row∈rows → ∀ x,x∈row→freezeV get (n+1) x=some x):freezeV get (n+2) (imV rows)=some (imV rows):=by
 unfold imV
 by_cases h:rows=[]
 ·rw[if_pos h]; rfl
 ·rw[if_neg h]
  exact freeze_imm hs
def FRow (w:List Nat×Bool) (row:List AVal):Prop:=∃ (ab o:Bool) (P:List (Int×Int)) (G:List Int),row=[.bool ab,imV (nums w.1),imV (prow P),imV (irow G),.bool o]∧(w.2=true↔P≠[])
theorem FRow.closed {w:List Nat×Bool} {row:List AVal} (h:FRow w row):closedL row=true:=by
 obtain⟨ab,o,P,G,rfl,_⟩:=h
 simp only[closedL,AVal.closed,closed_imV (closed_nums _),closed_imV (closed_prow _),closed_imV (closed_irow _),Bool.and_true]
def RowsF (l:List (List Nat×Bool)) (rows:List (List AVal)):Prop:=rows.length=l.length ∧ ∀(i:Nat) (w:List Nat×Bool),l[i]? = some w → ∃ row,rows[i]? = some row∧FRow w row
theorem RowsF.row {l:List (List Nat×Bool)} {rows:List (List AVal)} (h:RowsF l rows):∀ row,row∈rows → ∃ w,FRow w row:=by
 intro row hr
 obtain⟨i,hi⟩:=List.getElem?_of_mem hr
 have hil:i<l.length:=by rw[← h.1]; exact(List.getElem?_eq_some_iff.1 hi).1
 obtain⟨r2,h1,h2⟩:=h.2 i _ (List.getElem?_eq_getElem hil)
 rw[hi]at h1
 injection h1 with h1
 subst h1
 exact⟨_,h2⟩
theorem RowsF.closed {l:List (List Nat×Bool)} {rows:List (List AVal)} (h:RowsF l rows):closedLL rows=true:=by
 have:∀ rs:List (List AVal),(∀ row,row∈rs→closedL row=true)→closedLL rs=true:=by
  intro rs
  induction rs with
  | nil=>intro _; rfl
  | cons a r ih=>intro hh; simp only[closedLL,Bool.and_eq_true]; exact⟨hh a (List.mem_cons_self ..),ih fun b hb=>hh b (List.mem_cons_of_mem _ hb)⟩
 exact this rows fun row hr=>(h.row row hr).elim fun _ hw=>hw.closed
theorem RowsF.nil:RowsF [] []:=⟨rfl,fun i w h=>by simp at h⟩
theorem tr_length (T:Nat→Nat):∀ (k:Nat) (seen:List Bool) (x:Nat),(tr T k seen x).length≤k
 | 0,_,_=>Nat.le_refl _
 | k+1,seen,x=>by
  simp only[tr]
  split
  ·simp
  ·have:=tr_length T k (seen.set x true) (T x)
   simp; omega
end Go.Known
end
