/- Part 24 of the proof: Pd. -/
import Derived.Test.YtmfdlchjaldclaaGreatDoorA22
set_option linter.all false
namespace Go.Plain
abbrev Ent:=Int×Int×Int
def fnd (id:Int):List Ent→Option (Nat×Int×Int)
 | []=>none
 | (k,v) :: r=>if id=k then some (0,v) else match fnd id r with
  | some (p,w)=>some (p+1,w)
  | none=>none
def putV (o:Bool) (i:Int) (v:Int×Int):Int×Int:=if o then (v.1,i) else (i,v.2)
def slotV (o:Bool) (v:Int×Int):Int:=if o then v.2 else v.1
def updE (E:List Ent) (id:Int) (o:Bool) (i:Int):List Ent:=
 match fnd id E with
 | some (p,v)=>E.set p (id,putV o i v)
 | none=>E++[(id,putV o i (-1,-1))]
def crE (ls:List Lt):Nat→List Ent
 | 0=>[]
 | i+1=>if isX (at' ls i) then updE (crE ls i) (at' ls i).i (at' ls i).o i else crE ls i
def fitE (ls:List Lt) (E:List Ent) (l:Lt):Bool:=
 match fnd l.i E with
 | none=>true
 | some (_,v)=>decide (slotV l.o v<0)&&decide ((at' ls (slotV (!l.o) v).toNat).s=l.s)
def crF (ls:List Lt) (n:Nat):Nat→Bool
 | 0=>true
 | i+1=>crF ls n i&&(!isX (at' ls i)||(decide (1≤(at' ls i).i)&&decide ((at' ls i).i≤(n / 2:Nat))&&fitE ls (crE ls i) (at' ls i)))
theorem crF_le {ls:List Lt} {n:Nat}:∀ {i j:Nat},i≤j→crF ls n j=true→crF ls n i=true:=by
 intro i j hij
 induction hij with
 | refl=>exact id
 | step _ ih=>intro h; simp only [crF,Bool.and_eq_true] at h; exact ih h.1
def VisOk (i:Nat) (v:Int×Int):Prop:=(v.1 = -1∨(0≤v.1∧v.1<i))∧(v.2 = -1∨(0≤v.2∧v.2<i)) ∧ ¬(v.1 = -1∧v.2 = -1)
theorem VisOk.mono {i j:Nat} {v:Int×Int} (h:VisOk i v) (hij:i≤j):VisOk j v:=by
 obtain⟨h1,h2,h3⟩:=h
 exact⟨by omega,by omega,h3⟩
theorem fnd_mem {id:Int}:∀ {E:List Ent} {p:Nat} {v:Int×Int},fnd id E=some (p,v)→E[p]? = some (id,v)
 | [],p,v,h=>by cases h
 | (k,w) :: r,p,v,h=>by
  simp only [fnd] at h
  split at h
  · rename_i e
    cases h
    subst e; rfl
  · cases hr:fnd id r with
    | none=>rw [hr] at h; cases h
    | some pw=>
     obtain⟨q,u⟩:=pw
     rw [hr] at h
     cases h
     simpa using fnd_mem hr
theorem putV_ok {i:Nat} {o:Bool} {v:Int×Int} (h:VisOk i v∨v=(-1,-1)):VisOk (i+1) (putV o i v):=by
 cases o<;>unfold putV VisOk at * <;> simp only [Bool.false_eq_true,if_true,if_false]
 · rcases h with h | h
   · omega
   · subst h; simp; omega
 · rcases h with h | h
   · omega
   · subst h; simp; omega
theorem crE_ok (ls:List Lt):∀ i,∀ e,e∈crE ls i→VisOk i e.2
 | 0,e,h=>by simp [crE] at h
 | i+1,e,h=>by
  simp only [crE] at h
  split at h
  · unfold updE at h
    split at h
    · rename_i p v hf
      rcases List.mem_or_eq_of_mem_set h with h1 | h1
      · exact(crE_ok ls i e h1).mono (by omega)
      · subst h1
        exact putV_ok (.inl (crE_ok ls i _ (List.mem_of_getElem? (fnd_mem hf))))
    · rw [List.mem_append,List.mem_singleton] at h
      rcases h with h1 | h1
      · exact(crE_ok ls i e h1).mono (by omega)
      · subst h1
        exact putV_ok (.inr rfl)
  · exact(crE_ok ls i e h).mono (by omega)
theorem crE_length_le (ls:List Lt):∀ i,(crE ls i).length≤i
 | 0=>Nat.le_refl _
 | i+1=>by
  simp only [crE]
  have:=crE_length_le ls i
  split
  · unfold updE
    split
    · simp; omega
    · simp; omega
  · omega
end Go.Plain
