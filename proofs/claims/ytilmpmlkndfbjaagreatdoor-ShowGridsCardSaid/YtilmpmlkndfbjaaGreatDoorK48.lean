/- Part 48 of the proof: Gf. -/
import Derived.Test.YtilmpmlkndfbjaaGreatDoorK47
set_option linter.all false
namespace Go.Ab
open Go Go.AE Go.Proofs
open Go.Plain
attribute [local simp] C8 D6 D3 B4 B0 C6 D7 C7 D9 B7 C3 Gk E5 B6 D8 C2 C1
theorem xB{F:Int}{G:List Int}{A B:List Ro}(h:(Dm F G A B).2.2=0):0≤F∧F≤40∧(G.length:Int)=F+1 ∧ ¬EW G<0∧(G.map Int.toNat).sum≤400∧FJ (G.map Int.toNat).sum A∧FJ (G.map Int.toNat).sum B:=by
 unfold Dm at h;split at h
 ·cases h
 ·rename_i h1;have h1:¬F<0 ∧ ¬40<F ∧ ¬(G.length:Int)≠F+1 ∧ ¬EW G<0:=by
   refine⟨fun e=>h1 (.inl e),fun e=>h1 (.inr (.inl e)),fun e=>h1 (.inr (.inr (.inl e))),fun e=>h1 (.inr (.inr (.inr e)))⟩
  split at h
  ·cases h
  ·rename_i h2;have h3:(G.map Int.toNat).sum≤400:=by omega
   have key:FJ (G.map Int.toNat).sum A∧FJ (G.map Int.toNat).sum B→0≤F∧F≤40∧(G.length:Int)=F+1 ∧ ¬EW G<0∧(G.map Int.toNat).sum≤400∧FJ (G.map Int.toNat).sum A∧FJ (G.map Int.toNat).sum B:=fun e=>⟨by omega,by omega,Classical.not_not.1 h1.2.2.1,h1.2.2.2,h3,e.1,e.2⟩
   refine key ?_;generalize (G.map Int.toNat).sum=m at *;split at h
   ·rename_i h4;have hA:A=[]:=List.eq_nil_of_length_eq_zero (by omega)
    have hB:B=[]:=List.eq_nil_of_length_eq_zero (by omega)
    subst hA;subst hB;exact⟨trivial,trivial⟩
   ·split at h
    ·cases h
    ·rename_i h5;have hr:(Q1 m A B).1=true:=by
      cases hb:(Q1 m A B).1 with
      | true=>rfl
      | false=>exact absurd (.inr hb) h5
     have hu:(W7 m).length=m:=by simp[W7]
     have hd:(V8 m).length=m:=by simp[V8]
     unfold Q1 at hr;cases hb:(X9 m false A (W7 m) [] []).1 with
     | false=>rw[hb]at hr; simp[hb]at hr
     | true=>
      rw[hb]at hr;simp only[if_true]at hr;have a1:=Xv A _ _ _ hb;have a2:=Xv B _ _ _ hr;rw[hu]at a1;rw[hd]at a2;exact⟨a1,a2⟩
def Dp:Nat→List Nat→List (List UInt8)
 | _,[]=>[]
 | g,c :: r=>(if 0<g then [F9 g]else [])++List.replicate c [124]++Dp (g+1) r
theorem sN:∀ (a b:List Nat) (g:Nat),Dp g (a++b)=Dp g a++Dp (g+a.length) b
 | [],b,g=>rfl
 | x :: a,b,g=>by
  show _++Dp (g+1) (a++b)=(_++Dp (g+1) a)++_;rw[sN a b (g+1),List.append_assoc,lC,show g+(a.length+1)=g+1+a.length by omega]
  simp only[List.append_assoc]
theorem sZ{gs:List Nat}{i:Nat}(h:i<gs.length):Dp 0 (gs.take (i+1))=Dp 0 (gs.take i)++(if 0<i then [F9 i]else [])++List.replicate (gs.getD i 0) [124]:=by
 rw[List.take_add_one,gE h,Option.toList_some,sN,lK,Nat.min_eq_left (Nat.le_of_lt h),Nat.zero_add,List.getD,gE h];show _++(_++_++Dp _ [])=_;simp[Dp]
end Go.Ab
