/- Part 36 of the proof: Sn, Sp, Sq. -/
import Derived.Test.YtipeejpafgnjdaaGreatDoorH11
import Derived.Test.YtipeejpafgnjdaaGreatDoorH29
import Derived.Test.YtipeejpafgnjdaaGreatDoorH35
set_option linter.all false
section
namespace Go.Known
open Go Go.AE Go.Proofs
open Go.Plain
theorem Zre{p:Nat→Bool}:∀ {n:Nat},(∃ i,i<n∧p i=true) → ∃ i,i<n∧p i=true ∧ ∀ j,j<i→p j=false
 | 0,⟨i,h,_⟩=>by omega
 | n+1,⟨i,h,hp⟩=>by
  by_cases hx:∃ i,i<n∧p i=true
  ·obtain⟨i,h1,h2,h3⟩:=Zre hx;exact⟨i,by omega,h2,h3⟩
  ·have hin:i=n:=by
    rcases Nat.lt_or_ge i n with h1|h1
    ·exact absurd ⟨i,h1,hp⟩ hx
    ·omega
   subst hin;refine⟨i,by omega,hp,fun j hj=>?_⟩
   cases hpj:p j with
   | false=>rfl
   | true=>exact absurd ⟨j,hj,hpj⟩ hx
end Go.Known
end
section
namespace Go.Known
open Go Go.AE Go.Proofs
open Go.Plain
def numL(l:Lt):List Int:=[l.k,l.g,l.r,l.i,if l.o then 1 else 0,l.s]
def ltI:List Int→List Int→Bool
 | a :: r,b :: s=>if a=b then ltI r s else decide (a<b)
 | _,_=>false
theorem Yd0(a b:Lt):ltI (numL a) (numL b)=ltL a b:=by
 unfold ltL numL;simp only[ltI];by_cases h1:a.k=b.k
 ·by_cases h2:a.g=b.g
  ·by_cases h3:a.r=b.r
   ·by_cases h4:a.i=b.i
    ·by_cases h5:a.o=b.o
     ·by_cases h6:a.s=b.s
      ·simp[h1,h2,h3,h4,h5,h6]
      ·simp[h1,h2,h3,h4,h5,h6]
     ·cases ha:a.o<;>cases hb:b.o<;>rw[ha,hb]at h5<;>simp[h1,h2,h3,h4]at h5 ⊢
    ·simp[h1,h2,h3,h4]
   ·simp[h1,h2,h3]
  ·simp[h1,h2]
 ·simp[h1]
end Go.Known
end
section
namespace Go.Known
open Go Go.AE Go.Proofs
open Go.Plain
theorem Zpy:∀ a:List Lt,J4 a a=false
 | []=>rfl
 | x :: r=>by simp[J4,Zpy r]
end Go.Known
end
