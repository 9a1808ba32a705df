/- Part 48 of the proof: Sl, Sm, Sn, So, Sp, Sq. -/
import Derived.Test.YtpaedbidpkepnaaGreatDoorC16
import Derived.Test.YtpaedbidpkepnaaGreatDoorC47
set_option linter.all false
section
namespace Go.Known
open Go Go.AE Go.Proofs
open Go.Plain
end Go.Known
end
section
namespace Go.Known
open Go Go.AE Go.Proofs
open Go.Plain
def dnV (ls:List Lt) (i:Nat):List Bool:=(List.range i).map fun j=>!down ls j
end Go.Known
end
section
namespace Go.Known
open Go Go.AE Go.Proofs
open Go.Plain
def revR (ls:List Lt) (t:Nat):List Lt:=ls.reverse.take t
def revD (ls:List Lt) (t:Nat):List Bool:=(List.range t).map fun k=>!down ls (ls.length - 1 - k)
theorem first_of {p:Nat→Bool}:∀ {n:Nat},(∃ i,i<n∧p i=true) → ∃ i,i<n∧p i=true ∧ ∀ j,j<i→p j=false
 | 0,⟨i,h,_⟩=>by omega
 | n+1,⟨i,h,hp⟩=>by
  by_cases hx:∃ i,i<n∧p i=true
  · obtain⟨i,h1,h2,h3⟩:=first_of hx
    exact⟨i,by omega,h2,h3⟩
  · have hin:i=n:=by
     rcases Nat.lt_or_ge i n with h1 | h1
     · exact absurd ⟨i,h1,hp⟩ hx
     · omega
    subst hin
    refine⟨i,by omega,hp,fun j hj=>?_⟩
    cases hpj:p j with
    | false=>rfl
    | true=>exact absurd ⟨j,hj,hpj⟩ hx
end Go.Known
end
section
namespace Go.Known
open Go Go.AE Go.Proofs
open Go.Plain
@[local simp] theorem memN_if {p : Prop} [Decidable p] {b k : Nat} (h : b ≠ k) : memN b (if p then [] else [k]) = false := by
 split<;>simp [memN,h]
@[local simp] theorem bif_blV {k w : Nat} {E : List (List AVal)} : (bif memN k (if E = [] then [] else [k]) then [] else blV k w E []) = [] := by
 by_cases h:E=[]
 · subst h; rfl
 · simp [h,memN]
end Go.Known
end
section
namespace Go.Known
open Go Go.AE Go.Proofs
open Go.Plain
def numL (l:Lt):List Int:=[l.k,l.g,l.r,l.i,if l.o then 1 else 0,l.s]
def ltI:List Int→List Int→Bool
 | a :: r,b :: s=>if a=b then ltI r s else decide (a<b)
 | _,_=>false
theorem ltI_num (a b:Lt):ltI (numL a) (numL b)=ltL a b:=by
 unfold ltL numL
 simp only [ltI]
 by_cases h1:a.k=b.k
 · by_cases h2:a.g=b.g
   · by_cases h3:a.r=b.r
     · by_cases h4:a.i=b.i
       · by_cases h5:a.o=b.o
         · by_cases h6:a.s=b.s
           · simp [h1,h2,h3,h4,h5,h6]
           · simp [h1,h2,h3,h4,h5,h6]
         · cases ha:a.o<;>cases hb:b.o<;>rw [ha,hb] at h5<;>simp [h1,h2,h3,h4] at h5 ⊢
       · simp [h1,h2,h3,h4]
     · simp [h1,h2,h3]
   · simp [h1,h2]
 · simp [h1]
end Go.Known
end
section
namespace Go.Known
open Go Go.AE Go.Proofs
open Go.Plain
def rrun (l w:List Lt):Nat→List Lt
 | 0=>w
 | i+1=>if isP (at' l i)&&down l i then (if ltLs (cand l i) (rrun l w i) then cand l i else rrun l w i) else rrun l w i
theorem ltLs_irr:∀ a:List Lt,ltLs a a=false
 | []=>rfl
 | x :: r=>by simp [ltLs,ltLs_irr r]
def bestS (ls:List Lt):Nat→List Lt
 | 0=>renN ls
 | 1=>rrun ls (renN ls) ls.length
 | _=>normN ls
end Go.Known
end
