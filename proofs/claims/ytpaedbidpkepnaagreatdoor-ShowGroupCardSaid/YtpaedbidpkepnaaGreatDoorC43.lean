/- Part 43 of the proof: Pt. -/
import Derived.Test.YtpaedbidpkepnaaGreatDoorC38
set_option linter.all false
namespace Go.Known
open Go.Plain
def idx1 (x:Int):List Int→Nat
 | []=>0
 | y :: r=>if x=y then 1 else if idx1 x r=0 then 0 else idx1 x r+1
theorem idx1_snoc {x y:Int}:∀ {met:List Int},idx1 x met≠0→idx1 x (met++[y])=idx1 x met
 | [],h=>absurd rfl h
 | z :: r,h=>by
  simp only [idx1,List.cons_append] at h ⊢
  split
  · rfl
  · rename_i hz
    rw [if_neg hz] at h
    have hr:idx1 x r≠0:=fun e=>h (by rw [if_pos e])
    rw [idx1_snoc hr]
theorem idx1_new {x:Int}:∀ {met:List Int},idx1 x met=0→idx1 x (met++[x])=met.length+1
 | [],_=>by simp [idx1]
 | z :: r,h=>by
  simp only [idx1,List.cons_append] at h ⊢
  by_cases hz:x=z
  · rw [if_pos hz] at h; cases h
  · rw [if_neg hz] at h
    have hr:idx1 x r=0:=by
     by_cases h0:idx1 x r=0
     · exact h0
     · rw [if_neg h0] at h; cases h
    rw [if_neg hz,idx1_new hr,if_neg (by omega),List.length_cons]
def metS (met:List Int) (l:Lt):List Int:=if l.k=2∧idx1 l.i met=0 then met++[l.i] else met
def renS (met:List Int) (l:Lt):Lt:=if l.k=2 then { l with i:=idx1 l.i (metS met l) } else l
def renG:List Int→List Lt→List Lt
 | _,[]=>[]
 | met,l :: r=>renS met l :: renG (metS met l) r
def renN (ls:List Lt):List Lt:=renG [] ls
def mets (ls:List Lt) (i:Nat):List Int:=(ls.take i).foldl metS []
theorem renG_length:∀ (met:List Int) (ls:List Lt),(renG met ls).length=ls.length
 | _,[]=>rfl
 | met,l :: r=>by simp only [renG,List.length_cons,renG_length _ r]
theorem renN_length (ls:List Lt):(renN ls).length=ls.length:=renG_length _ _
theorem renG_get:∀ (met:List Int) (ls:List Lt) (i:Nat),i<ls.length→at' (renG met ls) i=renS ((ls.take i).foldl metS met) (at' ls i)
 | _,[],i,h=>by simp at h
 | met,l :: r,0,_=>rfl
 | met,l :: r,i+1,h=>by
  have:=renG_get (metS met l) r i (by simpa using h)
  simpa [renG,at',List.getD] using this
theorem renN_get {ls:List Lt} {i:Nat} (h:i<ls.length):at' (renN ls) i=renS (mets ls i) (at' ls i):=renG_get _ _ _ h
theorem mets_succ {ls:List Lt} {i:Nat} (h:i<ls.length):mets ls (i+1)=metS (mets ls i) (at' ls i):=by
 unfold mets
 rw [List.take_add_one,List.getElem?_eq_getElem h,Option.toList_some,List.foldl_append,at',List.getD,List.getElem?_eq_getElem h]
 rfl
theorem mets_length (ls:List Lt) (i:Nat):(mets ls i).length≤i:=by
 unfold mets
 have:∀ (l:List Lt) (met:List Int),(l.foldl metS met).length≤met.length+l.length:=by
  intro l
  induction l with
  | nil=>intro met; simp
  | cons a r ih=>
   intro met
   have h1:=ih (metS met a)
   have h2:(metS met a).length≤met.length+1:=by unfold metS; split<;>simp
   simp only [List.foldl_cons,List.length_cons]
   omega
 have h:=this (ls.take i) []
 simp only [List.length_nil,Nat.zero_add,List.length_take] at h
 omega
def ltL (a b:Lt):Bool:=
 if a.k≠b.k then decide (a.k<b.k) else if a.g≠b.g then decide (a.g<b.g) else if a.r≠b.r then decide (a.r<b.r) else if a.i≠b.i then decide (a.i<b.i)
 else if a.o≠b.o then b.o else decide (a.s<b.s)
def ltLs:List Lt→List Lt→Bool
 | a :: r,b :: s=>if a=b then ltLs r s else ltL a b
 | _,_=>false
theorem ltLs_same {a b:List Lt} {i:Nat} (ha:i<a.length) (hb:i<b.length) (h:at' a i=at' b i):ltLs (a.drop i) (b.drop i)=ltLs (a.drop (i+1)) (b.drop (i+1)):=by
 rw [List.drop_eq_getElem_cons ha,List.drop_eq_getElem_cons hb]
 have e:a[i]=b[i]:=by simpa [at',List.getD,ha,hb] using h
 simp only [ltLs,e,if_true]
theorem ltLs_diff {a b:List Lt} {i:Nat} (ha:i<a.length) (hb:i<b.length) (h:at' a i≠at' b i):ltLs (a.drop i) (b.drop i)=ltL (at' a i) (at' b i):=by
 rw [List.drop_eq_getElem_cons ha,List.drop_eq_getElem_cons hb]
 have e1:at' a i=a[i]:=by simp [at',List.getD,ha]
 have e2:at' b i=b[i]:=by simp [at',List.getD,hb]
 rw [e1,e2] at h ⊢
 simp only [ltLs,if_neg h]
theorem ltLs_end {a b:List Lt} {i:Nat} (ha:a.length≤i):ltLs (a.drop i) (b.drop i)=false:=by
 rw [List.drop_eq_nil_of_le ha]
 rfl
def bkC (ls:List Lt) (i:Nat):Bool:=isP (at' ls.reverse i) && !down ls (ls.length - 1 - i)
def backN (ls:List Lt):List Lt:=match (List.range ls.length).find? (bkC ls) with
 | some i=>rotL i ls.reverse
 | none=>ls.reverse
theorem find_range {p:Nat→Bool} {n i:Nat} (hi:i<n) (hp:p i=true) (hn:∀ j,j<i→p j=false):(List.range n).find? p=some i:=by
 rw [List.find?_eq_some_iff_append]
 refine⟨hp,List.range i,(List.range' (i+1) (n - (i+1))),?_,fun a ha=>?_⟩
 · rw [List.range_eq_range',List.range_eq_range']
   have e:n=i+(1+(n - (i+1))):=by omega
   conv=>lhs; rw [e]
   rw [← List.range'_append_1,← List.range'_append_1]
   simp [List.range'_one,Nat.add_comm]
 · have:=hn a (List.mem_range.1 ha)
   simp [this]
theorem back_at {ls:List Lt} {i:Nat} (hi:i<ls.length) (hp:bkC ls i=true) (hn:∀ j,j<i→bkC ls j=false):backN ls=rotL i ls.reverse:=by
 unfold backN
 rw [find_range hi hp hn]
theorem rotL_length (a:Nat) (ls:List Lt):(rotL a ls).length=ls.length:=by
 unfold rotL
 rw [List.length_append,List.length_drop,List.length_take]
 omega
theorem backN_length (ls:List Lt):(backN ls).length=ls.length:=by
 unfold backN
 split
 · rw [rotL_length,List.length_reverse]
 · exact List.length_reverse
def cand (l:List Lt) (i:Nat):List Lt:=renN (rotL i l)
def nstep (l:List Lt) (i:Nat) (z:Option (List Lt)):Option (List Lt):=
 if isP (at' l i)&&down l i then match z with
  | none=>some (cand l i)
  | some w=>if ltLs (cand l i) w then some (cand l i) else some w
 else z
def nrun (l:List Lt) (z:Option (List Lt)):Nat→Option (List Lt)
 | 0=>z
 | i+1=>nstep l i (nrun l z i)
def normO (ls:List Lt):Option (List Lt):=nrun (backN ls) (nrun ls none ls.length) ls.length
def normN (ls:List Lt):List Lt:=(normO ls).getD []
theorem cand_length (l:List Lt) (i:Nat):(cand l i).length=l.length:=by unfold cand; rw [renN_length,rotL_length]
theorem nstep_len {l:List Lt} {i n:Nat} {z:Option (List Lt)} (hl:l.length=n) (hz:∀ w,z=some w→w.length=n):∀ w,nstep l i z=some w→w.length=n:=by
 intro w hw
 unfold nstep at hw
 split at hw
 · cases z with
   | none=>cases hw; rw [cand_length,hl]
   | some u=>
    simp only at hw
    split at hw
    · cases hw; rw [cand_length,hl]
    · cases hw; exact hz _ rfl
 · exact hz w hw
theorem nrun_len {l:List Lt} {n:Nat} {z:Option (List Lt)} (hl:l.length=n) (hz:∀ w,z=some w→w.length=n):∀ i w,nrun l z i=some w→w.length=n
 | 0,w,h=>hz w h
 | i+1,w,h=>nstep_len hl (nrun_len hl hz i) w h
theorem nstep_some {l:List Lt} {i:Nat} {z:Option (List Lt)} (hz:z≠none):nstep l i z≠none:=by
 unfold nstep
 cases z with
 | none=>exact absurd rfl hz
 | some w=>
  simp only
  split
  · split<;>simp
  · simp
theorem nrun_some {l:List Lt} {z:Option (List Lt)} (hz:z≠none):∀ i,nrun l z i≠none
 | 0=>hz
 | i+1=>nstep_some (nrun_some hz i)
end Go.Known
