/- Part 17 of the proof: AeTb, Pc, Pd. -/
import Derived.Test.YtggclbeocekgkaaGreatDoorP16
import Derived.Lib.Join
set_option linter.all false
section
namespace Go.AE
open Go.RowKit
def Good(P:Program)(p:Nat×As):Prop:=(∃ fn,P.funcs[p.1]? = some fn∧AS P fn=some p.2)∧U9 p.2.ntmps p.2.body=true∧Nat.ble p.2.ntmps bound=true∧Nat.ble (p.1+1) bound=true
def Lp(P:Program):List (Nat×As)→Prop
 | []=>True
 | p :: r=>Good P p∧Lp P r
def Rr:List (Nat×As)→Tr As
 | []=>.nil
 | p :: r=>(Rr r).set depth p.1 (some p.2)
theorem wH{P:Program}:∀ {l:List (Nat×As)},Lp P l → ∀ g af,(Rr l).get g=some af→Good P (g,af)
 | [],_,g,af,h=>by simp[Rr,Tr.get_nil]at h
 | p :: r,ha,g,af,h=>by
  simp only[Rr]at h;rw[Tr.AH depth _ p.1 _ g (RR (Nat.le_of_ble_eq_true ha.1.2.2.2))]at h;split at h
  ·rename_i hg;subst hg;injection h with h
   subst h;exact ha.1
  ·exact wH ha.2 g af h
def Ye(t:Tr As):Nat→Option As:=fun g=>t.get g
theorem Z6v{P:Program}{l:List (Nat×As)}{t:Tr As}(ha:Lp P l)(ht:t=Rr l):SI P (Ye t):=by
 subst ht;intro g af h;obtain⟨h1,h2,h3,_⟩:=wH ha g af h;exact⟨h1,h2,Nat.le_of_ble_eq_true h3⟩
end Go.AE
end
section
namespace Go.Plain
def W4{α:Type}(n i:Nat)(v:Nat→α)(d:α):List α:=(List.range n).map fun j=>if j<i then v j else d
theorem Hp{α:Type}(n i:Nat)(v:Nat→α)(d:α):(W4 n i v d).length=n:=by simp[W4]
theorem Ki{α:Type}{n i j:Nat}{v:Nat→α}{d:α}(h:j<n):(W4 n i v d)[j]? = some (if j<i then v j else d):=by simp[W4,h]
theorem aA{α:Type}(n:Nat)(v:Nat→α)(d:α):W4 n 0 v d=List.replicate n d:=by
 apply List.ext_getElem?;intro j;by_cases h:j<n
 ·rw[Ki h,List.getElem?_replicate,iP h]; simp
 ·rw[List.getElem?_eq_none (by rw[Hp]; omega),List.getElem?_eq_none (by simp; omega)]
theorem ZO{α:Type}{n i:Nat}{v:Nat→α}{d:α}(h:i<n):(W4 n i v d).set i (v i)=W4 n (i+1) v d:=by
 apply List.ext_getElem?;intro j;rw[List.getElem?_set];by_cases hj:j<n
 ·rw[Ki hj,Ki hj,Hp]
  grind
 ·rw[List.getElem?_eq_none (by rw[Hp]; omega),List.getElem?_eq_none (by rw[Hp]; omega),iN (by omega)]
theorem mG{α:Type}{n i:Nat}{v:Nat→α}{d:α}(h:v i=d):W4 n (i+1) v d=W4 n i v d:=by
 apply List.map_congr_left
 grind
def U5(F:Nat)(ls:List Lt):List Nat:=(List.range (F+1)).map fun g=>Ay (g:Nat) ls
theorem Jr(F:Nat)(ls:List Lt):(U5 F ls).length=F+1:=by simp[U5]
theorem Nb{F g:Nat}{ls:List Lt}(h:g≤F):(U5 F ls)[g]? = some (Ay (g:Nat) ls):=by
 simp[U5,List.getElem?_range (show g<F+1 by omega)]
theorem sN(F:Nat):U5 F []=List.replicate (F+1) 0:=by
 apply List.ext_getElem?;intro j;by_cases h:j≤F
 ·rw[Nb h,List.getElem?_replicate,iP (by omega)]; rfl
 ·rw[List.getElem?_eq_none (by rw[Jr]; omega),List.getElem?_eq_none (by simp; omega)]
theorem Wf(g:Int)(ls:List Lt)(l:Lt):Ay g (ls++[l])=Ay g ls+if Am l&&l.g == g then 1 else 0:=by
 unfold Ay; rw[YL,Oj]; rfl
theorem tJ{F G:Nat}{ls:List Lt}{l:Lt}(hp:Am l=true)(hg:l.g=(G:Nat))(hG:G≤F):(U5 F ls).set G (Ay (G:Nat) ls+1)=U5 F (ls++[l]):=by
 apply List.ext_getElem?;intro j;rw[List.getElem?_set];by_cases hj:j≤F
 ·rw[Nb hj,Nb hj,Wf,Jr]
  grind
 ·rw[List.getElem?_eq_none (by rw[Jr]; omega),List.getElem?_eq_none (by rw[Jr]; omega),Jr,iN (by omega)]
theorem oV{F:Nat}{ls:List Lt}{l:Lt}(hp:Am l=false):U5 F (ls++[l])=U5 F ls:=by
 apply List.map_congr_left;intro j _;rw[Wf]; simp[hp]
def tot(ls:List Lt)(g:Nat):Nat:=Z9 (fun o=>Am o&&decide (o.g<(g:Nat))) ls
theorem Th(ls:List Lt)(g:Nat):tot ls (g+1)=tot ls g+Ay (g:Nat) ls:=by
 unfold tot Ay;rw[Nc (fun o=>Am o&&decide (o.g<((g+1:Nat):Int))) (fun o=>decide (o.g<(g:Nat)))]
 grind
theorem xL{p q:Lt→Bool}{ls:List Lt}(h:∀ l,p l=true→q l=true):Z9 p ls≤Z9 q ls:=by
 induction ls with
 | nil=>exact lR _
 | cons l r ih=>
  rw[Oj,Oj]
  grind
theorem qX(ls:List Lt)(g:Nat):tot ls g≤Z0 ls:=xL fun l h=>by simp at h; exact h.1
def Hi(F:Nat)(ls:List Lt):Prop:=∀ l,l∈ls→Am l=true→0≤l.g∧l.g≤(F:Nat)
theorem Z3r{F:Nat}{ls:List Lt}(h:Hi F ls):tot ls 0=0:=by
 unfold tot Z9;rw[List.length_eq_zero_iff,List.filter_eq_nil_iff];intro l hl;simp only[bA,decide_eq_true_eq,not_and];intro hp;have:=(h l hl hp).1;omega
theorem zn{F:Nat}{ls:List Lt}(h:Hi F ls):tot ls (F+1)=Z0 ls:=by
 unfold tot Z0;apply O8;intro l hl;cases hp:Am l with
 | false=>rfl
 | true=>
  have:=(h l hl hp).2;simp; omega
theorem VF{ls:List Lt}{l:Lt}{G:Nat}(hg:l.g=(G:Nat)):pos ls l=tot ls G+(l.r - 1).toNat:=by
 unfold pos tot; rw[hg]
theorem WI{F:Nat}{ls:List Lt}(hG:Hi F ls){l:Lt}(hl:l∈ls)(hp:Am l=true)(h1:1≤l.r)(h2:l.r≤(Ay l.g ls:Nat)):pos ls l<Z0 ls:=by
 obtain⟨h3,h4⟩:=hG l hl hp;obtain⟨G,hg⟩:∃ G:Nat,l.g=(G:Nat):=⟨l.g.toNat,by omega⟩
 rw[VF hg];have:=Th ls G;have h5:=qX ls (G+1);rw[hg]at h2;omega
def M6(ls:List Lt)(m:Nat):Nat→List Bool
 | 0=>List.replicate m false
 | i+1=>if Am (at' ls i)then (M6 ls m i).set (pos ls (at' ls i)) true else M6 ls m i
def L7(ls:List Lt)(m:Nat):Nat→List Nat
 | 0=>List.replicate m 0
 | i+1=>if Am (at' ls i)then (L7 ls m i).set (pos ls (at' ls i)) i else L7 ls m i
def DF(ls:List Lt)(m:Nat):Nat→Bool
 | 0=>true
 | i+1=>DF ls m i&&(!Am (at' ls i)||(decide (1≤(at' ls i).r)&&decide ((at' ls i).r≤(Ay (at' ls i).g ls:Nat)) && !(M6 ls m i).getD (pos ls (at' ls i)) true))
theorem uB(ls:List Lt)(m:Nat):∀ i,(M6 ls m i).length=m
 | 0=>by simp[M6]
 | i+1=>by simp only[M6]; split<;>simp[uB ls m i]
theorem Xi(ls:List Lt)(m:Nat):∀ i,(L7 ls m i).length=m
 | 0=>by simp[L7]
 | i+1=>by simp only[L7]; split<;>simp[Xi ls m i]
theorem vq{ls:List Lt}{m:Nat}:∀ {i j:Nat},i≤j→DF ls m j=true→DF ls m i=true:=by
 intro i j hij
 induction hij with
 | refl=>exact id
 | step _ ih=>intro h; simp only[DF,bA]at h; exact ih h.1
def U2(ls:List Lt)(j:Nat):Bool:=Am (at' ls j)&&Z8 ls j
def R6(ls:List Lt)(j:Nat):Nat:=if Am (at' ls j)then pos ls (at' ls j)else 0
end Go.Plain
end
section
namespace Go.Plain
abbrev Db:=Int×Int×Int
def CM(id:Int):List Db→Option (Nat×Int×Int)
 | []=>none
 | (k,v) :: r=>if id=k then some (0,v)else match CM id r with
  | some (p,w)=>some (p+1,w)
  | none=>none
def L6(o:Bool)(i:Int)(v:Int×Int):Int×Int:=if o then (v.1,i)else (i,v.2)
def T9(o:Bool)(v:Int×Int):Int:=if o then v.2 else v.1
def Ee(E:List Db)(id:Int)(o:Bool)(i:Int):List Db:=
 match CM id E with
 | some (p,v)=>E.set p (id,L6 o i v)
 | none=>E++[(id,L6 o i (-1,-1))]
def Ba(ls:List Lt):Nat→List Db
 | 0=>[]
 | i+1=>if Bg (at' ls i)then Ee (Ba ls i) (at' ls i).i (at' ls i).o i else Ba ls i
def EZ(ls:List Lt)(E:List Db)(l:Lt):Bool:=
 match CM l.i E with
 | none=>true
 | some (_,v)=>decide (T9 l.o v<0)&&decide ((at' ls (T9 (!l.o) v).toNat).s=l.s)
def DZ(ls:List Lt)(n:Nat):Nat→Bool
 | 0=>true
 | i+1=>DZ ls n i&&(!Bg (at' ls i)||(decide (1≤(at' ls i).i)&&decide ((at' ls i).i≤(n / 2:Nat))&&EZ ls (Ba ls i) (at' ls i)))
theorem Z42{ls:List Lt}{n:Nat}:∀ {i j:Nat},i≤j→DZ ls n j=true→DZ ls n i=true:=by
 intro i j hij
 induction hij with
 | refl=>exact id
 | step _ ih=>intro h; simp only[DZ,bA]at h; exact ih h.1
def Ek(i:Nat)(v:Int×Int):Prop:=(v.1 = -1∨(0≤v.1∧v.1<i))∧(v.2 = -1∨(0≤v.2∧v.2<i)) ∧ ¬(v.1 = -1∧v.2 = -1)
theorem Ek.mono{i j:Nat}{v:Int×Int}(h:Ek i v)(hij:i≤j):Ek j v:=by
 obtain⟨h1,h2,h3⟩:=h;exact⟨by omega,by omega,h3⟩
theorem Rk{id:Int}:∀ {E:List Db} {p:Nat} {v:Int×Int},CM id E=some (p,v)→E[p]? = some (id,v)
 | [],p,v,h=>by cases h
 | (k,w) :: r,p,v,h=>by
  simp only[CM]at h;split at h
  ·grind
  ·cases hr:CM id r with
   | none=>rw[hr]at h; cases h
   | some pw=>
    obtain⟨q,u⟩:=pw;rw[hr]at h;cases h;simpa using Rk hr
theorem vO{i:Nat}{o:Bool}{v:Int×Int}(h:Ek i v∨v=(-1,-1)):Ek (i+1) (L6 o i v):=by
 cases o<;>unfold L6 Ek at * <;> simp only[bF,if_true,if_false]
 ·rcases h with h|h
  ·omega
  ·subst h; simp; omega
 grind
theorem Oh(ls:List Lt):∀ i,∀ e,e∈Ba ls i→Ek i e.2
 | 0,e,h=>by simp[Ba]at h
 | i+1,e,h=>by
  simp only[Ba]at h;split at h
  ·unfold Ee at h;split at h
   ·rename_i p v hf;rcases List.mem_or_eq_of_mem_set h with h1|h1
    ·exact(Oh ls i e h1).mono (by omega)
    ·subst h1;exact vO (.inl (Oh ls i _ (List.mem_of_getElem? (Rk hf))))
   ·rw[List.mem_append,List.mem_singleton]at h;rcases h with h1|h1
    ·exact(Oh ls i e h1).mono (by omega)
    ·subst h1;exact vO (.inr rfl)
  ·exact(Oh ls i e h).mono (by omega)
theorem yO(ls:List Lt):∀ i,(Ba ls i).length≤i
 | 0=>lR _
 | i+1=>by
  simp only[Ba];have:=yO ls i;split
  ·unfold Ee
   grind
  ·omega
end Go.Plain
end
