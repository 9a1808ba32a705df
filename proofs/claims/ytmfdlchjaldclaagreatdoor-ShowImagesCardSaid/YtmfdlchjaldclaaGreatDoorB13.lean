/- Part 13 of the proof: Pc. -/
import Derived.Test.YtmfdlchjaldclaaGreatDoorB12
set_option linter.all false
namespace Go.Plain
def fillN {α:Type} (n i:Nat) (v:Nat→α) (d:α):List α:=(List.range n).map fun j=>if j<i then v j else d
theorem fillN_length {α:Type} (n i:Nat) (v:Nat→α) (d:α):(fillN n i v d).length=n:=by simp [fillN]
theorem fillN_get {α:Type} {n i j:Nat} {v:Nat→α} {d:α} (h:j<n):(fillN n i v d)[j]? = some (if j<i then v j else d):=by simp [fillN,h]
theorem fillN_zero {α:Type} (n:Nat) (v:Nat→α) (d:α):fillN n 0 v d=List.replicate n d:=by
 apply List.ext_getElem?
 intro j
 by_cases h:j<n
 · rw [fillN_get h,List.getElem?_replicate,if_pos h]; simp
 · rw [List.getElem?_eq_none (by rw [fillN_length]; omega),List.getElem?_eq_none (by simp; omega)]
theorem fillN_set {α:Type} {n i:Nat} {v:Nat→α} {d:α} (h:i<n):(fillN n i v d).set i (v i)=fillN n (i+1) v d:=by
 apply List.ext_getElem?
 intro j
 rw [List.getElem?_set]
 by_cases hj:j<n
 · rw [fillN_get hj,fillN_get hj,fillN_length]
   by_cases hij:i=j
   · subst hij; rw [if_pos rfl,if_pos h,if_pos (by omega)]
   · rw [if_neg hij]
     by_cases h1:j<i
     · rw [if_pos h1,if_pos (by omega)]
     · rw [if_neg h1,if_neg (by omega)]
 · rw [List.getElem?_eq_none (by rw [fillN_length]; omega),List.getElem?_eq_none (by rw [fillN_length]; omega),if_neg (by omega)]
theorem fillN_skip {α:Type} {n i:Nat} {v:Nat→α} {d:α} (h:v i=d):fillN n (i+1) v d=fillN n i v d:=by
 apply List.map_congr_left
 intro j _
 by_cases h1:j<i
 · rw [if_pos h1,if_pos (by omega)]
 · by_cases h2:j=i
   · subst h2; rw [if_pos (by omega),if_neg h1,h]
   · rw [if_neg h1,if_neg (by omega)]
def cnts (F:Nat) (ls:List Lt):List Nat:=(List.range (F+1)).map fun g=>inG (g:Nat) ls
theorem cnts_length (F:Nat) (ls:List Lt):(cnts F ls).length=F+1:=by simp [cnts]
theorem cnts_get {F g:Nat} {ls:List Lt} (h:g≤F):(cnts F ls)[g]? = some (inG (g:Nat) ls):=by
 simp [cnts,List.getElem?_range (show g<F+1 by omega)]
theorem cnts_nil (F:Nat):cnts F []=List.replicate (F+1) 0:=by
 apply List.ext_getElem?
 intro j
 by_cases h:j≤F
 · rw [cnts_get h,List.getElem?_replicate,if_pos (by omega)]; rfl
 · rw [List.getElem?_eq_none (by rw [cnts_length]; omega),List.getElem?_eq_none (by simp; omega)]
theorem inG_snoc (g:Int) (ls:List Lt) (l:Lt):inG g (ls++[l])=inG g ls+if isP l&&l.g == g then 1 else 0:=by
 unfold inG; rw [cntP_append,cntP_cons]; rfl
theorem cnts_pass {F G:Nat} {ls:List Lt} {l:Lt} (hp:isP l=true) (hg:l.g=(G:Nat)) (hG:G≤F):(cnts F ls).set G (inG (G:Nat) ls+1)=cnts F (ls++[l]):=by
 apply List.ext_getElem?
 intro j
 rw [List.getElem?_set]
 by_cases hj:j≤F
 · rw [cnts_get hj,cnts_get hj,inG_snoc,cnts_length]
   by_cases hij:G=j
   · subst hij; rw [if_pos rfl,if_pos (by omega)]; simp [hp,hg]
   · rw [if_neg hij]
     have:¬((G:Nat):Int)=(j:Nat):=by omega
     simp [hg,this]
 · rw [List.getElem?_eq_none (by rw [cnts_length]; omega),List.getElem?_eq_none (by rw [cnts_length]; omega),cnts_length,if_neg (by omega)]
theorem cnts_skip {F:Nat} {ls:List Lt} {l:Lt} (hp:isP l=false):cnts F (ls++[l])=cnts F ls:=by
 apply List.map_congr_left
 intro j _
 rw [inG_snoc]; simp [hp]
def tot (ls:List Lt) (g:Nat):Nat:=cntP (fun o=>isP o&&decide (o.g<(g:Nat))) ls
theorem tot_succ (ls:List Lt) (g:Nat):tot ls (g+1)=tot ls g+inG (g:Nat) ls:=by
 unfold tot inG
 rw [cntP_split (fun o=>isP o&&decide (o.g<((g+1:Nat):Int))) (fun o=>decide (o.g<(g:Nat)))]
 congr 1
 · apply cntP_congr
   intro l _
   cases isP l with
   | false=>rfl
   | true=>rw [Bool.eq_iff_iff]; simp; omega
 · apply cntP_congr
   intro l _
   cases isP l with
   | false=>rfl
   | true=>rw [Bool.eq_iff_iff]; simp; omega
theorem cntP_mono {p q:Lt→Bool} {ls:List Lt} (h:∀ l,p l=true→q l=true):cntP p ls≤cntP q ls:=by
 induction ls with
 | nil=>exact Nat.le_refl _
 | cons l r ih=>
  rw [cntP_cons,cntP_cons]
  cases hp:p l with
  | false=>simp; omega
  | true=>rw [h l hp]; simp; exact ih
theorem tot_le (ls:List Lt) (g:Nat):tot ls g≤passes ls:=cntP_mono fun l h=>by simp at h; exact h.1
def Gated (F:Nat) (ls:List Lt):Prop:=∀ l,l∈ls→isP l=true→0≤l.g∧l.g≤(F:Nat)
theorem tot_zero {F:Nat} {ls:List Lt} (h:Gated F ls):tot ls 0=0:=by
 unfold tot cntP
 rw [List.length_eq_zero_iff,List.filter_eq_nil_iff]
 intro l hl
 simp only [Bool.and_eq_true,decide_eq_true_eq,not_and]
 intro hp
 have:=(h l hl hp).1
 omega
theorem tot_full {F:Nat} {ls:List Lt} (h:Gated F ls):tot ls (F+1)=passes ls:=by
 unfold tot passes
 apply cntP_congr
 intro l hl
 cases hp:isP l with
 | false=>rfl
 | true=>
  have:=(h l hl hp).2
  simp; omega
theorem pos_eq {ls:List Lt} {l:Lt} {G:Nat} (hg:l.g=(G:Nat)):pos ls l=tot ls G+(l.r - 1).toNat:=by
 unfold pos tot; rw [hg]
theorem pos_lt {F:Nat} {ls:List Lt} (hG:Gated F ls) {l:Lt} (hl:l∈ls) (hp:isP l=true) (h1:1≤l.r) (h2:l.r≤(inG l.g ls:Nat)):pos ls l<passes ls:=by
 obtain⟨h3,h4⟩:=hG l hl hp
 obtain⟨G,hg⟩:∃ G:Nat,l.g=(G:Nat):=⟨l.g.toNat,by omega⟩
 rw [pos_eq hg]
 have:=tot_succ ls G
 have h5:=tot_le ls (G+1)
 rw [hg] at h2
 omega
def takenF (ls:List Lt) (m:Nat):Nat→List Bool
 | 0=>List.replicate m false
 | i+1=>if isP (at' ls i) then (takenF ls m i).set (pos ls (at' ls i)) true else takenF ls m i
def axisF (ls:List Lt) (m:Nat):Nat→List Nat
 | 0=>List.replicate m 0
 | i+1=>if isP (at' ls i) then (axisF ls m i).set (pos ls (at' ls i)) i else axisF ls m i
def rkF (ls:List Lt) (m:Nat):Nat→Bool
 | 0=>true
 | i+1=>rkF ls m i&&(!isP (at' ls i)||(decide (1≤(at' ls i).r)&&decide ((at' ls i).r≤(inG (at' ls i).g ls:Nat)) && !(takenF ls m i).getD (pos ls (at' ls i)) true))
theorem takenF_length (ls:List Lt) (m:Nat):∀ i,(takenF ls m i).length=m
 | 0=>by simp [takenF]
 | i+1=>by simp only [takenF]; split<;>simp [takenF_length ls m i]
theorem axisF_length (ls:List Lt) (m:Nat):∀ i,(axisF ls m i).length=m
 | 0=>by simp [axisF]
 | i+1=>by simp only [axisF]; split<;>simp [axisF_length ls m i]
theorem rkF_le {ls:List Lt} {m:Nat}:∀ {i j:Nat},i≤j→rkF ls m j=true→rkF ls m i=true:=by
 intro i j hij
 induction hij with
 | refl=>exact id
 | step _ ih=>intro h; simp only [rkF,Bool.and_eq_true] at h; exact ih h.1
def downV (ls:List Lt) (j:Nat):Bool:=isP (at' ls j)&&down ls j
def placeV (ls:List Lt) (j:Nat):Nat:=if isP (at' ls j) then pos ls (at' ls j) else 0
end Go.Plain
