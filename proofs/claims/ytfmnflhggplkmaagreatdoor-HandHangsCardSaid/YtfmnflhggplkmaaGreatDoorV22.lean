/- Part 22 of the proof: AeTb, Pc, Pd. -/
import Derived.Test.YtfmnflhggplkmaaGreatDoorV21
import Derived.Lib.Join
set_option linter.all false
section
namespace Go.AE
open Go.RowKit
def Good (P:Program) (p:Nat×AFn):Prop:=(∃ fn,P.funcs[p.1]? = some fn∧cFn P fn=some p.2)∧dstOk p.2.ntmps p.2.body=true∧Nat.ble p.2.ntmps bound=true∧Nat.ble (p.1+1) bound=true
def AllT (P:Program):List (Nat×AFn)→Prop
 | []=>True
 | p :: r=>Good P p∧AllT P r
def treeOf:List (Nat×AFn)→Tr AFn
 | []=>.nil
 | p :: r=>(treeOf r).set depth p.1 (some p.2)
theorem treeOf_get {P:Program}:∀ {l:List (Nat×AFn)},AllT P l → ∀ g af,(treeOf l).get g=some af→Good P (g,af)
 | [],_,g,af,h=>by simp[treeOf,Tr.get_nil]at h
 | p :: r,ha,g,af,h=>by
  simp only[treeOf]at h
  rw[Tr.get_set depth _ p.1 _ g (bound_lt (Nat.le_of_ble_eq_true ha.1.2.2.2))]at h
  split at h
  ·rename_i hg
   subst hg
   injection h with h
   subst h
   exact ha.1
  ·exact treeOf_get ha.2 g af h
def tabOf (t:Tr AFn):Nat→Option AFn:=fun g=>t.get g
theorem tabOf_ok {P:Program} {l:List (Nat×AFn)} {t:Tr AFn} (ha:AllT P l) (ht:t=treeOf l):TabOk P (tabOf t):=by
 subst ht
 intro g af h
 obtain⟨h1,h2,h3,_⟩:=treeOf_get ha g af h
 exact⟨h1,h2,Nat.le_of_ble_eq_true h3⟩
theorem AllT.append {P:Program}:∀ {a b:List (Nat×AFn)},AllT P a→AllT P b→AllT P (a++b)
 | [],_,_,h=>h
 | _ :: _,_,h,h'=>⟨h.1,AllT.append h.2 h'⟩
end Go.AE
end
section
namespace Go.Plain
def fillN {α:Type} (n i:Nat) (v:Nat→α) (d:α):List α:=(List.range n).map fun j=>if j<i then v j else d
theorem fillN_length {α:Type} (n i:Nat) (v:Nat→α) (d:α):(fillN n i v d).length=n:=by simp[fillN]
theorem fillN_get {α:Type} {n i j:Nat} {v:Nat→α} {d:α} (h:j<n):(fillN n i v d)[j]? = some (if j<i then v j else d):=by simp[fillN,h]
theorem fillN_zero {α:Type} (n:Nat) (v:Nat→α) (d:α):fillN n 0 v d=List.replicate n d:=by
 apply List.ext_getElem?
 intro j
 by_cases h:j<n
 ·rw[fillN_get h,List.getElem?_replicate,if_pos h]; simp
 ·rw[List.getElem?_eq_none (by rw[fillN_length]; omega),List.getElem?_eq_none (by simp; omega)]
theorem fillN_set {α:Type} {n i:Nat} {v:Nat→α} {d:α} (h:i<n):(fillN n i v d).set i (v i)=fillN n (i+1) v d:=by
 apply List.ext_getElem?
 intro j
 rw[List.getElem?_set]
 by_cases hj:j<n
 ·rw[fillN_get hj,fillN_get hj,fillN_length]
  grind
 ·rw[List.getElem?_eq_none (by rw[fillN_length]; omega),List.getElem?_eq_none (by rw[fillN_length]; omega),if_neg (by omega)]
theorem fillN_skip {α:Type} {n i:Nat} {v:Nat→α} {d:α} (h:v i=d):fillN n (i+1) v d=fillN n i v d:=by
 apply List.map_congr_left
 grind
def cnts (F:Nat) (ls:List Lt):List Nat:=(List.range (F+1)).map fun g=>inG (g:Nat) ls
theorem cnts_length (F:Nat) (ls:List Lt):(cnts F ls).length=F+1:=by simp[cnts]
theorem cnts_get {F g:Nat} {ls:List Lt} (h:g≤F):(cnts F ls)[g]? = some (inG (g:Nat) ls):=by
 simp[cnts,List.getElem?_range (show g<F+1 by omega)]
theorem cnts_nil (F:Nat):cnts F []=List.replicate (F+1) 0:=by
 apply List.ext_getElem?
 intro j
 by_cases h:j≤F
 ·rw[cnts_get h,List.getElem?_replicate,if_pos (by omega)]; rfl
 ·rw[List.getElem?_eq_none (by rw[cnts_length]; omega),List.getElem?_eq_none (by simp; omega)]
theorem inG_snoc (g:Int) (ls:List Lt) (l:Lt):inG g (ls++[l])=inG g ls+if isP l&&l.g == g then 1 else 0:=by
 unfold inG; rw[cntP_append,cntP_cons]; rfl
theorem cnts_pass {F G:Nat} {ls:List Lt} {l:Lt} (hp:isP l=true) (hg:l.g=(G:Nat)) (hG:G≤F):(cnts F ls).set G (inG (G:Nat) ls+1)=cnts F (ls++[l]):=by
 apply List.ext_getElem?
 intro j
 rw[List.getElem?_set]
 by_cases hj:j≤F
 ·rw[cnts_get hj,cnts_get hj,inG_snoc,cnts_length]
  grind
 ·rw[List.getElem?_eq_none (by rw[cnts_length]; omega),List.getElem?_eq_none (by rw[cnts_length]; omega),cnts_length,if_neg (by omega)]
theorem cnts_skip {F:Nat} {ls:List Lt} {l:Lt} (hp:isP l=false):cnts F (ls++[l])=cnts F ls:=by
 apply List.map_congr_left
 intro j _
 rw[inG_snoc]; simp[hp]
def tot (ls:List Lt) (g:Nat):Nat:=cntP (fun o=>isP o&&decide (o.g<(g:Nat))) ls
theorem tot_succ (ls:List Lt) (g:Nat):tot ls (g+1)=tot ls g+inG (g:Nat) ls:=by
 unfold tot inG
 rw[cntP_split (fun o=>isP o&&decide (o.g<((g+1:Nat):Int))) (fun o=>decide (o.g<(g:Nat)))]
 grind
theorem cntP_mono {p q:Lt→Bool} {ls:List Lt} (h:∀ l,p l=true→q l=true):cntP p ls≤cntP q ls:=by
 induction ls with
 | nil=>exact Nat.le_refl _
 | cons l r ih=>
  rw[cntP_cons,cntP_cons]
  grind
theorem tot_le (ls:List Lt) (g:Nat):tot ls g≤passes ls:=cntP_mono fun l h=>by simp at h; exact h.1
def Gated (F:Nat) (ls:List Lt):Prop:=∀ l,l∈ls→isP l=true→0≤l.g∧l.g≤(F:Nat)
theorem tot_zero {F:Nat} {ls:List Lt} (h:Gated F ls):tot ls 0=0:=by
 unfold tot cntP
 rw[List.length_eq_zero_iff,List.filter_eq_nil_iff]
 intro l hl
 simp only[Bool.and_eq_true,decide_eq_true_eq,not_and]
 intro hp
 have:=(h l hl hp).1
 omega
theorem tot_full {F:Nat} {ls:List Lt} (h:Gated F ls):tot ls (F+1)=passes ls:=by
 unfold tot passes
 apply cntP_congr
 intro l hl
 cases hp:isP l with
 | false=>rfl
 | true=>
  have:=(h l hl hp).2
  simp; omega
theorem pos_eq {ls:List Lt} {l:Lt} {G:Nat} (hg:l.g=(G:Nat)):pos ls l=tot ls G+(l.r - 1).toNat:=by
 unfold pos tot; rw[hg]
theorem pos_lt {F:Nat} {ls:List Lt} (hG:Gated F ls) {l:Lt} (hl:l∈ls) (hp:isP l=true) (h1:1≤l.r) (h2:l.r≤(inG l.g ls:Nat)):pos ls l<passes ls:=by
 obtain⟨h3,h4⟩:=hG l hl hp
 obtain⟨G,hg⟩:∃ G:Nat,l.g=(G:Nat):=⟨l.g.toNat,by omega⟩
 rw[pos_eq hg]
 have:=tot_succ ls G
 have h5:=tot_le ls (G+1)
 rw[hg]at h2
 omega
def takenF (ls:List Lt) (m:Nat):Nat→List Bool
 | 0=>List.replicate m false
 | i+1=>if isP (at' ls i)then (takenF ls m i).set (pos ls (at' ls i)) true else takenF ls m i
def axisF (ls:List Lt) (m:Nat):Nat→List Nat
 | 0=>List.replicate m 0
 | i+1=>if isP (at' ls i)then (axisF ls m i).set (pos ls (at' ls i)) i else axisF ls m i
def rkF (ls:List Lt) (m:Nat):Nat→Bool
 | 0=>true
 | i+1=>rkF ls m i&&(!isP (at' ls i)||(decide (1≤(at' ls i).r)&&decide ((at' ls i).r≤(inG (at' ls i).g ls:Nat)) && !(takenF ls m i).getD (pos ls (at' ls i)) true))
theorem takenF_length (ls:List Lt) (m:Nat):∀ i,(takenF ls m i).length=m
 | 0=>by simp[takenF]
 | i+1=>by simp only[takenF]; split<;>simp[takenF_length ls m i]
theorem axisF_length (ls:List Lt) (m:Nat):∀ i,(axisF ls m i).length=m
 | 0=>by simp[axisF]
 | i+1=>by simp only[axisF]; split<;>simp[axisF_length ls m i]
theorem rkF_le {ls:List Lt} {m:Nat}:∀ {i j:Nat},i≤j→rkF ls m j=true→rkF ls m i=true:=by
 intro i j hij
 induction hij with
 | refl=>exact id
 | step _ ih=>intro h; simp only[rkF,Bool.and_eq_true]at h; exact ih h.1
def downV (ls:List Lt) (j:Nat):Bool:=isP (at' ls j)&&down ls j
def placeV (ls:List Lt) (j:Nat):Nat:=if isP (at' ls j)then pos ls (at' ls j)else 0
end Go.Plain
end
section
namespace Go.Plain
abbrev Ent:=Int×Int×Int
def fnd (id:Int):List Ent→Option (Nat×Int×Int)
 | []=>none
 | (k,v) :: r=>if id=k then some (0,v)else match fnd id r with
  | some (p,w)=>some (p+1,w)
  | none=>none
def putV (o:Bool) (i:Int) (v:Int×Int):Int×Int:=if o then (v.1,i)else (i,v.2)
def slotV (o:Bool) (v:Int×Int):Int:=if o then v.2 else v.1
def updE (E:List Ent) (id:Int) (o:Bool) (i:Int):List Ent:=
 match fnd id E with
 | some (p,v)=>E.set p (id,putV o i v)
 | none=>E++[(id,putV o i (-1,-1))]
def crE (ls:List Lt):Nat→List Ent
 | 0=>[]
 | i+1=>if isX (at' ls i)then updE (crE ls i) (at' ls i).i (at' ls i).o i else crE ls i
def fitE (ls:List Lt) (E:List Ent) (l:Lt):Bool:=
 match fnd l.i E with
 | none=>true
 | some (_,v)=>decide (slotV l.o v<0)&&decide ((at' ls (slotV (!l.o) v).toNat).s=l.s)
def crF (ls:List Lt) (n:Nat):Nat→Bool
 | 0=>true
 | i+1=>crF ls n i&&(!isX (at' ls i)||(decide (1≤(at' ls i).i)&&decide ((at' ls i).i≤(n / 2:Nat))&&fitE ls (crE ls i) (at' ls i)))
theorem crF_le {ls:List Lt} {n:Nat}:∀ {i j:Nat},i≤j→crF ls n j=true→crF ls n i=true:=by
 intro i j hij
 induction hij with
 | refl=>exact id
 | step _ ih=>intro h; simp only[crF,Bool.and_eq_true]at h; exact ih h.1
def VisOk (i:Nat) (v:Int×Int):Prop:=(v.1 = -1∨(0≤v.1∧v.1<i))∧(v.2 = -1∨(0≤v.2∧v.2<i)) ∧ ¬(v.1 = -1∧v.2 = -1)
theorem VisOk.mono {i j:Nat} {v:Int×Int} (h:VisOk i v) (hij:i≤j):VisOk j v:=by
 obtain⟨h1,h2,h3⟩:=h
 exact⟨by omega,by omega,h3⟩
theorem fnd_mem {id:Int}:∀ {E:List Ent} {p:Nat} {v:Int×Int},fnd id E=some (p,v)→E[p]? = some (id,v)
 | [],p,v,h=>by cases h
 | (k,w) :: r,p,v,h=>by
  simp only[fnd]at h
  split at h
  ·grind
  ·cases hr:fnd id r with
   | none=>rw[hr]at h; cases h
   | some pw=>
    obtain⟨q,u⟩:=pw
    rw[hr]at h
    cases h
    simpa using fnd_mem hr
theorem putV_ok {i:Nat} {o:Bool} {v:Int×Int} (h:VisOk i v∨v=(-1,-1)):VisOk (i+1) (putV o i v):=by
 cases o<;>unfold putV VisOk at * <;> simp only[Bool.false_eq_true,if_true,if_false]
 ·rcases h with h|h
  ·omega
  ·subst h; simp; omega
 grind
theorem crE_ok (ls:List Lt):∀ i,∀ e,e∈crE ls i→VisOk i e.2
 | 0,e,h=>by simp[crE]at h
 | i+1,e,h=>by
  simp only[crE]at h
  split at h
  ·unfold updE at h
   split at h
   ·rename_i p v hf
    rcases List.mem_or_eq_of_mem_set h with h1|h1
    ·exact(crE_ok ls i e h1).mono (by omega)
    ·subst h1
     exact putV_ok (.inl (crE_ok ls i _ (List.mem_of_getElem? (fnd_mem hf))))
   ·rw[List.mem_append,List.mem_singleton]at h
    rcases h with h1|h1
    ·exact(crE_ok ls i e h1).mono (by omega)
    ·subst h1
     exact putV_ok (.inr rfl)
  ·exact(crE_ok ls i e h).mono (by omega)
theorem crE_length_le (ls:List Lt):∀ i,(crE ls i).length≤i
 | 0=>Nat.le_refl _
 | i+1=>by
  simp only[crE]
  have:=crE_length_le ls i
  split
  ·unfold updE
   grind
  ·omega
end Go.Plain
end
