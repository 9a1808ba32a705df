/- Part 39 of the proof: Rm, Rn. -/
import Derived.Test.YtmfdlchjaldclaaGreatDoorA37
import Derived.Test.YtmfdlchjaldclaaGreatDoorA38
set_option linter.all false
section
namespace Go.Known
open Go Go.AE Go.Proofs
open Go.Plain
theorem frz_slV {get:Nat→Option ABlk} {b k n:Nat} {rows:List (List AVal)} (hg:get b=if rows=[] then none else some (.cells k rows)) (hs:∀ row,row∈rows → ∀ x,x∈row→freezeV get (n+1) x=some x):freezeV get (n+2) (slV b rows)=some (imV rows):=by
 unfold slV imV
 by_cases h:rows=[]
 · rw [if_pos h,if_pos h]; rfl
 · rw [if_neg h,if_neg h]
   exact freeze_rows (by rw [hg,if_neg h]) hs
theorem frz_imV {get:Nat→Option ABlk} {n:Nat} {rows:List (List AVal)} (hs:∀ row,row∈rows → ∀ x,x∈row→freezeV get (n+1) x=some x):freezeV get (n+2) (imV rows)=some (imV rows):=by
 unfold imV
 by_cases h:rows=[]
 · rw [if_pos h]; rfl
 · rw [if_neg h]
   exact freeze_imm hs
theorem fz_tuple2 {get:Nat→Option ABlk} {S:List Nat} {a b a' b':AVal} (h1:freezeV (onlyG get S) 4 a=some a') (h2:freezeV (onlyG get S) 4 b=some b'):fzV get S (.tuple [a,b])=.tuple [a',b']:=by
 unfold fzV
 rw [freezeV]
 simp only [mapO,h1,h2]
def FRow (w:List Nat×Bool) (row:List AVal):Prop:=∃ (ab o:Bool) (P:List (Int×Int)) (G:List Int),row=[.bool ab,imV (nums w.1),imV (prow P),imV (irow G),.bool o]∧(w.2=true↔P≠[])
theorem FRow.closed {w:List Nat×Bool} {row:List AVal} (h:FRow w row):closedL row=true:=by
 obtain⟨ab,o,P,G,rfl,_⟩:=h
 simp only [closedL,AVal.closed,closed_imV (closed_nums _),closed_imV (closed_prow _),closed_imV (closed_irow _),Bool.and_true]
theorem FRow.scal {get:Nat→Option ABlk} {n:Nat} {w:List Nat×Bool} {row:List AVal} (h:FRow w row):∀ x,x∈row→freezeV get (n+2) x=some x:=by
 obtain⟨ab,o,P,G,rfl,_⟩:=h
 intro x hx
 simp only [List.mem_cons,List.not_mem_nil,or_false] at hx
 rcases hx with rfl | rfl | rfl | rfl | rfl
 · rfl
 · exact frz_imV (scal_nums _)
 · exact frz_imV (scal_prow _)
 · exact frz_imV (scal_irow _)
 · rfl
def RowsF (l:List (List Nat×Bool)) (rows:List (List AVal)):Prop:=rows.length=l.length ∧ ∀(i:Nat) (w:List Nat×Bool),l[i]? = some w → ∃ row,rows[i]? = some row∧FRow w row
theorem RowsF.row {l:List (List Nat×Bool)} {rows:List (List AVal)} (h:RowsF l rows):∀ row,row∈rows → ∃ w,FRow w row:=by
 intro row hr
 obtain⟨i,hi⟩:=List.getElem?_of_mem hr
 have hil:i<l.length:=by rw [← h.1]; exact(List.getElem?_eq_some_iff.1 hi).1
 obtain⟨r2,h1,h2⟩:=h.2 i _ (List.getElem?_eq_getElem hil)
 rw [hi] at h1
 injection h1 with h1
 subst h1
 exact⟨_,h2⟩
theorem RowsF.closed {l:List (List Nat×Bool)} {rows:List (List AVal)} (h:RowsF l rows):closedLL rows=true:=by
 have:∀ rs:List (List AVal),(∀ row,row∈rs→closedL row=true)→closedLL rs=true:=by
  intro rs
  induction rs with
  | nil=>intro _; rfl
  | cons a r ih=>intro hh; simp only [closedLL,Bool.and_eq_true]; exact⟨hh a (List.mem_cons_self ..),ih fun b hb=>hh b (List.mem_cons_of_mem _ hb)⟩
 exact this rows fun row hr=>(h.row row hr).elim fun _ hw=>hw.closed
theorem RowsF.scal {get:Nat→Option ABlk} {n:Nat} {l:List (List Nat×Bool)} {rows:List (List AVal)} (h:RowsF l rows):∀ row,row∈rows → ∀ x,x∈row→freezeV get (n+2) x=some x:=fun row hr=>(h.row row hr).elim fun _ hw=>hw.scal
theorem RowsF.nil:RowsF [] []:=⟨rfl,fun i w h=>by simp at h⟩
theorem RowsF.snoc {l:List (List Nat×Bool)} {rows:List (List AVal)} (h:RowsF l rows) {w:List Nat×Bool} {row:List AVal} (hr:FRow w row):RowsF (l++[w]) (rows++[row]):=by
 refine⟨by simp [h.1],fun i u hu=>?_⟩
 rcases Nat.lt_or_ge i l.length with h1 | h1
 · rw [List.getElem?_append_left h1] at hu
   rw [List.getElem?_append_left (by rw [h.1]; exact h1)]
   exact h.2 i u hu
 · rw [List.getElem?_append_right h1] at hu
   rw [List.getElem?_append_right (by rw [h.1]; exact h1),h.1]
   cases hz:i - l.length with
   | zero=>rw [hz] at hu; simp at hu; subst hu; exact⟨row,rfl,hr⟩
   | succ z=>rw [hz] at hu; simp at hu
theorem tr_length (T:Nat→Nat):∀ (k:Nat) (seen:List Bool) (x:Nat),(tr T k seen x).length≤k
 | 0,_,_=>Nat.le_refl _
 | k+1,seen,x=>by
  simp only [tr]
  split
  · simp
  · have:=tr_length T k (seen.set x true) (T x)
    simp; omega
end Go.Known
end
section
namespace Go.Known
open Go Go.AE Go.Proofs
open Go.Plain
def prowP (l:List Pol):List (List AVal):=l.map fun p=>[.int .i64 (p.1:Nat),.int .i64 (p.2.1:Nat),.bool p.2.2]
@[simp] theorem prowP_length (l : List Pol) : (prowP l).length = l.length := by simp [prowP]
@[simp] theorem prowP_nil {l : List Pol} : prowP l = [] ↔ l = [] := by simp [prowP]
@[simp] theorem prowP_nil0 : prowP [] = [] := rfl
theorem prowP_snoc (l:List Pol) (p:Pol):prowP (l++[p])=prowP l++[[.int .i64 (p.1:Nat),.int .i64 (p.2.1:Nat),.bool p.2.2]]:=by simp [prowP]
theorem closed_prowP:∀ (l:List Pol),closedLL (prowP l)=true
 | []=>rfl
 | p :: r=>by
  have:=closed_prowP r
  simp only [prowP,List.map_cons,closedLL,closedL,AVal.closed,Bool.and_true,Bool.true_and] at this ⊢
  exact this
@[simp] theorem ren_prowP (q : Nat → Nat) (l : List Pol) : renLL q (prowP l) = prowP l := renLL_closed q _ (closed_prowP l)
theorem prowP_get {l:List Pol} {i:Nat} {p:Pol} (h:l[i]? = some p):(prowP l)[i]? = some [.int .i64 (p.1:Nat),.int .i64 (p.2.1:Nat),.bool p.2.2]:=by rw [prowP,List.getElem?_map,h]; rfl
theorem scal_prowP {get:Nat→Option ABlk} {n:Nat} (l:List Pol):∀ row,row∈prowP l → ∀ x,x∈row→freezeV get (n+1) x=some x:=by
 intro row hr x hx
 obtain⟨i,_,rfl⟩:=List.mem_map.1 hr
 simp only [List.mem_cons,List.not_mem_nil,or_false] at hx
 rcases hx with rfl | rfl | rfl<;>rfl
theorem imV_ne {rows:List (List AVal)} (h:¬rows=[]):imV rows=.imm rows:=by simp [imV,h]
theorem cornN_take {ls:List Lt} {w:List Nat} {k x:Nat} (h:w[k]? = some x):cornN ls (w.take (k+1))=cornN ls (w.take k)+if isC ls x then 1 else 0:=by
 have e:w.take (k+1)=w.take k++[x]:=by rw [List.take_add_one,h]; rfl
 rw [e,cornN_snoc]
end Go.Known
end
