/- Part 29 of the proof: Rl, Rm, Rn. -/
import Derived.Test.YtggclbeocekgkaaGreatDoorP20
import Derived.Test.YtggclbeocekgkaaGreatDoorP26
import Derived.Test.YtggclbeocekgkaaGreatDoorP28
set_option linter.all false
section
namespace Go.Ac
open Go Go.AE Go.Proofs
open Go.Plain
def V2(l:List (Int×Int)):List (List Aa):=l.map fun p=>[.int .i64 p.1,.int .i64 p.2]
def Z1(l:List Int):List (List Aa):=l.map fun x=>[.int .i64 x]
@[simp] theorem Yes(l : List (Int × Int)) : (V2 l).length = l.length := by simp [V2]
@[simp] theorem O4(l : List Int) : (Z1 l).length = l.length := by simp [Z1]
@[simp] theorem Yea : V2 [] = [] := rfl
@[simp] theorem Yd0 : Z1 [] = [] := rfl
@[simp] theorem Yey{l : List (Int × Int)} : V2 l = [] ↔ l = [] := by simp [V2]
@[simp] theorem Yd2{l : List Int} : Z1 l = [] ↔ l = [] := by simp [Z1]
@[simp] theorem Yeu(l : List (Int × Int)) : (V2 l).take l.length = V2 l := tL (by simp)
@[simp] theorem Yex(l : List Int) : (Z1 l).take l.length = Z1 l := tL (by simp)
theorem qA(l:List (Int×Int))(p:Int×Int):V2 (l++[p])=V2 l++[[.int .i64 p.1,.int .i64 p.2]]:=by simp[V2]
theorem yD(l:List Int)(a:Int):Z1 (l++[a])=Z1 l++[[.int .i64 a]]:=by simp[Z1]
theorem Z7b(l m:List (Int×Int)):V2 l++V2 m=V2 (l++m):=by simp[V2]
theorem Z8z(l m:List Int):Z1 l++Z1 m=Z1 (l++m):=by simp[Z1]
theorem ZW:∀ (l:List (Int×Int)),U3 (V2 l)=true
 | []=>rfl
 | p :: r=>by
  have:=ZW r;simp only[V2,List.map_cons,U3,X8,Aa.closed,Bool.and_true,Bool.true_and]at this ⊢;exact this
theorem W8:∀ (l:List Int),U3 (Z1 l)=true
 | []=>rfl
 | p :: r=>by
  have:=W8 r;simp only[Z1,List.map_cons,U3,X8,Aa.closed,Bool.and_true,Bool.true_and]at this ⊢;exact this
@[simp] theorem Yev(q : Nat → Nat)(l : List (Int × Int)) : Z3 q (V2 l) = V2 l := Y1 q _ (ZW l)
@[simp] theorem Yd3(q : Nat → Nat)(l : List Int) : Z3 q (Z1 l) = Z1 l := Y1 q _ (W8 l)
theorem bE{l:List (Int×Int)}{i:Nat}{p:Int×Int}(h:l[i]? = some p):(V2 l)[i]? = some [.int .i64 p.1,.int .i64 p.2]:=by rw[V2,gM,h]; rfl
theorem Yv{l:List Int}{i:Nat}{p:Int}(h:l[i]? = some p):(Z1 l)[i]? = some [.int .i64 p]:=by rw[Z1,gM,h]; rfl
theorem uY{get:Nat→Option Ai}{n:Nat}(l:List (Int×Int)):∀ row,row∈V2 l → ∀ x,x∈row→X9 get (n+1) x=some x:=by
 intro row hr x hx;obtain⟨i,_,rfl⟩:=mM.1 hr;simp only[mC,List.not_mem_nil,or_false]at hx;rcases hx with rfl|rfl<;>rfl
theorem LQ{get:Nat→Option Ai}{n:Nat}(l:List Int):∀ row,row∈Z1 l → ∀ x,x∈row→X9 get (n+1) x=some x:=by
 intro row hr x hx;obtain⟨i,_,rfl⟩:=mM.1 hr;rw[List.mem_singleton]at hx;subst hx;rfl
theorem Ng{rows:List (List Aa)}(h:U3 rows=true):(BQ rows).closed=true:=by unfold BQ; split<;>first|rfl|exact h
@[simp] theorem Yer : BQ [] = .Ae := rfl
@[simp] theorem Ye5(q : Nat → Nat)(l : List Int) : (BQ (Z1 l)).AI q = BQ (Z1 l) := Aa.Er q _ (Ng (W8 l))
end Go.Ac
end
section
namespace Go.Ac
open Go Go.AE Go.Proofs
open Go.Plain
theorem RY{get:Nat→Option Ai}{b k n:Nat}{rows:List (List Aa)}(hg:get b=if rows=[]then none else some (.cells k rows))(hs:∀ row,row∈rows → ∀ x,x∈row→X9 get (n+1) x=some x):X9 get (n+2) (AQ b rows)=some (BQ rows):=by
 unfold AQ BQ;by_cases h:rows=[]
 ·rw[iP h,iP h]; rfl
 ·rw[iN h,iN h];exact SL (by rw[hg,iN h]) hs
theorem VQ{get:Nat→Option Ai}{n:Nat}{rows:List (List Aa)}(hs:∀ row,row∈rows → ∀ x,x∈row→X9 get (n+1) x=some x):X9 get (n+2) (BQ rows)=some (BQ rows):=by
 unfold BQ;by_cases h:rows=[]
 ·rw[iP h]; rfl
 ·rw[iN h];exact rH hs
theorem ze{get:Nat→Option Ai}{S:List Nat}{a b a' b':Aa}(h1:X9 (A7 get S) 4 a=some a')(h2:X9 (A7 get S) 4 b=some b'):IP get S (.tuple [a,b])=.tuple [a',b']:=by
 unfold IP;rw[X9];simp only[U1,h1,h2]
def EB(w:List Nat×Bool)(row:List Aa):Prop:=∃ (ab o:Bool) (P:List (Int×Int)) (G:List Int),row=[.bool ab,BQ (Y3 w.1),BQ (V2 P),BQ (Z1 G),.bool o]∧(w.2=true↔P≠[])
theorem EB.closed{w:List Nat×Bool}{row:List Aa}(h:EB w row):X8 row=true:=by
 obtain⟨ab,o,P,G,rfl,_⟩:=h;simp only[X8,Aa.closed,Ng (bL _),Ng (ZW _),Ng (W8 _),Bool.and_true]
theorem EB.QX{get:Nat→Option Ai}{n:Nat}{w:List Nat×Bool}{row:List Aa}(h:EB w row):∀ x,x∈row→X9 get (n+2) x=some x:=by
 obtain⟨ab,o,P,G,rfl,_⟩:=h;intro x hx;simp only[mC,List.not_mem_nil,or_false]at hx;rcases hx with rfl|rfl|rfl|rfl|rfl
 ·rfl
 ·exact VQ (mT _)
 ·exact VQ (uY _)
 ·exact VQ (LQ _)
 ·rfl
def BK(l:List (List Nat×Bool))(rows:List (List Aa)):Prop:=rows.length=l.length ∧ ∀(i:Nat) (w:List Nat×Bool),l[i]? = some w → ∃ row,rows[i]? = some row∧EB w row
theorem BK.row{l:List (List Nat×Bool)}{rows:List (List Aa)}(h:BK l rows):∀ row,row∈rows → ∃ w,EB w row:=by
 intro row hr;obtain⟨i,hi⟩:=List.getElem?_of_mem hr;have hil:i<l.length:=by rw[← h.1]; exact(gS.1 hi).1
 obtain⟨r2,h1,h2⟩:=h.2 i _ (gE hil);rw[hi]at h1;injection h1 with h1
 subst h1;exact⟨_,h2⟩
theorem BK.closed{l:List (List Nat×Bool)}{rows:List (List Aa)}(h:BK l rows):U3 rows=true:=by
 have:∀ rs:List (List Aa),(∀ row,row∈rs→X8 row=true)→U3 rs=true:=by
  intro rs
  induction rs with
  | nil=>intro _; rfl
  | cons a r ih=>intro hh; simp only[U3,bA]; exact⟨hh a (List.mem_cons_self ..),ih fun b hb=>hh b (List.mem_cons_of_mem _ hb)⟩
 exact this rows fun row hr=>(h.row row hr).elim fun _ hw=>hw.closed
theorem BK.QX{get:Nat→Option Ai}{n:Nat}{l:List (List Nat×Bool)}{rows:List (List Aa)}(h:BK l rows):∀ row,row∈rows → ∀ x,x∈row→X9 get (n+2) x=some x:=fun row hr=>(h.row row hr).elim fun _ hw=>hw.QX
theorem BK.nil:BK [] []:=⟨rfl,fun i w h=>by simp at h⟩
theorem BK.snoc{l:List (List Nat×Bool)}{rows:List (List Aa)}(h:BK l rows){w:List Nat×Bool}{row:List Aa}(hr:EB w row):BK (l++[w]) (rows++[row]):=by
 refine⟨by simp[h.1],fun i u hu=>?_⟩
 rcases lG i l.length with h1|h1
 ·rw[List.getElem?_append_left h1]at hu;rw[List.getElem?_append_left (by rw[h.1]; exact h1)]
  exact h.2 i u hu
 ·rw[List.getElem?_append_right h1]at hu;rw[List.getElem?_append_right (by rw[h.1]; exact h1),h.1]
  cases hz:i - l.length with
  | zero=>rw[hz]at hu; simp at hu; subst hu; exact⟨row,rfl,hr⟩
  | succ z=>rw[hz]at hu; simp at hu
theorem Yp(T:Nat→Nat):∀ (k:Nat) (seen:List Bool) (x:Nat),(tr T k seen x).length≤k
 | 0,_,_=>lR _
 | k+1,seen,x=>by
  simp only[tr];split
  ·simp
  ·have:=Yp T k (seen.set x true) (T x);simp; omega
end Go.Ac
end
section
namespace Go.Ac
open Go Go.AE Go.Proofs
open Go.Plain
theorem Vk{rows:List (List Aa)}(h:¬rows=[]):BQ rows=.Aj rows:=by simp[BQ,h]
end Go.Ac
end
