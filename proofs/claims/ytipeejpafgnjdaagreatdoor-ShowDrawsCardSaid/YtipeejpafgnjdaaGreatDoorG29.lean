/- Part 29 of the proof: Rl, Rm, Rn, Rg, Rq. -/
import Derived.Test.YtipeejpafgnjdaaGreatDoorG16
import Derived.Test.YtipeejpafgnjdaaGreatDoorG24
import Derived.Test.YtipeejpafgnjdaaGreatDoorG27
set_option linter.all false
section
namespace Go.Known
open Go Go.AE Go.Proofs
open Go.Plain
def prow (l:List (Int×Int)):List (List AVal):=l.map fun p=>[.int .i64 p.1,.int .i64 p.2]
def irow (l:List Int):List (List AVal):=l.map fun x=>[.int .i64 x]
@[simp] theorem Z83 (l : List (Int × Int)) : (prow l).length = l.length := by simp [prow]
@[simp] theorem Z7w (l : List Int) : (irow l).length = l.length := by simp [irow]
@[simp] theorem prow_nil0 : prow [] = [] := rfl
@[simp] theorem irow_nil0 : irow [] = [] := rfl
@[simp] theorem prow_nil {l : List (Int × Int)} : prow l = [] ↔ l = [] := by simp [prow]
@[simp] theorem Z41 {l : List Int} : irow l = [] ↔ l = [] := by simp [irow]
@[simp] theorem take_prow (l : List (Int × Int)) : (prow l).take l.length = prow l := List.take_of_length_le (by simp)
@[simp] theorem take_irow (l : List Int) : (irow l).take l.length = irow l := List.take_of_length_le (by simp)
theorem Zy9 (l:List Int) (a:Int):irow (l++[a])=irow l++[[.int .i64 a]]:=by simp[irow]
theorem Zh6:∀ (l:List (Int×Int)),Zal (prow l)=true
 | []=>rfl
 | p :: r=>by
  have:=Zh6 r
  simp only[prow,List.map_cons,Zal,Zag,AVal.closed,Bool.and_true,Bool.true_and]at this ⊢
  exact this
theorem Zdb:∀ (l:List Int),Zal (irow l)=true
 | []=>rfl
 | p :: r=>by
  have:=Zdb r
  simp only[irow,List.map_cons,Zal,Zag,AVal.closed,Bool.and_true,Bool.true_and]at this ⊢
  exact this
@[simp] theorem ren_prow (q : Nat → Nat) (l : List (Int × Int)) : Zak q (prow l) = prow l := Zad q _ (Zh6 l)
@[simp] theorem Z4h (q : Nat → Nat) (l : List Int) : Zak q (irow l) = irow l := Zad q _ (Zdb l)
theorem Z4r {l:List Int} {i:Nat} {p:Int} (h:l[i]? = some p):(irow l)[i]? = some [.int .i64 p]:=by rw[irow,List.getElem?_map,h]; rfl
theorem Z2y {get:Nat→Option ABlk} {n:Nat} (l:List Int):∀ row,row∈irow l → ∀ x,x∈row→Zah get (n+1) x=some x:=by
 intro row hr x hx
 obtain⟨i,_,rfl⟩:=List.mem_map.1 hr
 rw[List.mem_singleton]at hx
 subst hx
 rfl
@[simp] theorem all_prow (l : List (Int × Int)) : ((prow l).all fun x => x.length == 2) = true := by simp [prow]
@[simp] theorem all_irow (l : List Int) : ((irow l).all fun x => x.length == 1) = true := by simp [irow]
theorem Za8 {rows:List (List AVal)} (h:Zal rows=true):(imV rows).closed=true:=by unfold imV; split<;>first|rfl|exact h
@[simp] theorem imV_nil : imV [] = .nilSl := rfl
@[simp] theorem Zx4 (q : Nat → Nat) (l : List Int) : (imV (irow l)).ren q = imV (irow l) := AVal.ren_closed q _ (Za8 (Zdb l))
@[simp] theorem ren_imVp (q : Nat → Nat) (l : List (Int × Int)) : (imV (prow l)).ren q = imV (prow l) := AVal.ren_closed q _ (Za8 (Zh6 l))
@[simp] theorem ren_imVn (q : Nat → Nat) (l : List Nat) : (imV (nums l)).ren q = imV (nums l) := AVal.ren_closed q _ (Za8 (Za0 l))
@[simp] theorem sl_imV (rows : List (List AVal)) : Zaw (imV rows) = some rows.length := by
 unfold imV
 split
 ·rename_i h; subst h; rfl
 ·rfl
theorem c53 (f:Int) (ls:List Lt) (d:Nat) (h:ls.length≤1000) (hd:d<2*ls.length):PCall Tryz.prog 83 [cV f ls,.int .i64 d] (.int .i64 (Zbj ls.length d:Nat)):=by
 refine Zdi hm Tryz.func83 ch53 rfl rfl (by simp[Zag,AVal.closed,Zac]) trivial fun K hK=>?_
 have hR:=Zb4 ls
 unfold cV at *
 generalize ls.map rowL=rows at *
 have hlen:=hR.len
 have hn0:¬((ls.length:Int)=0):=by omega
 have hne:ls≠[]:=by intro e; subst e; simp at hd
 have htm:(d:Int).tmod 2=((d % 2:Nat):Int):=rfl
 have htd:(d:Int).tdiv 2=((d / 2:Nat):Int):=rfl
 have hwd:IntKind.i64.wrap ((d / 2:Nat):Int)=((d / 2:Nat):Int):=Zae (by omega) (by omega)
 have hwe:IntKind.i64.wrap (((d / 2:Nat):Int)+1)=((d / 2+1:Nat):Int):=by rw[Zae (by omega) (by omega)]; omega
 have hm2:((d / 2+1:Nat):Int).tmod (ls.length:Int)=(((d / 2+1) % ls.length:Nat):Int):=rfl
 unfold Zbj at hK
 by_cases hp:d % 2=0
 ·rw[if_pos hp]at hK
  generalize d / 2=g at *
  simp[htm,htd,hp,hwd,hwe,hm2,hlen,hn0,hne,-Int.natCast_add,-Int.natCast_emod]
  exact endK hK [] (by simp)
 ·rw[if_neg hp]at hK
  generalize d / 2=g at *
  generalize d % 2=z at *
  simp[htm,htd,hp,hwd]
  exact endK hK [] (by simp)
end Go.Known
end
section
namespace Go.Known
open Go Go.AE Go.Proofs
open Go.Plain
theorem Zsv {get:Nat→Option ABlk} {b k n:Nat} {rows:List (List AVal)} (hg:get b=if rows=[]then none else some (.cells k rows)) (hs:∀ row,row∈rows → ∀ x,x∈row→Zah get (n+1) x=some x):Zah get (n+2) (slV b rows)=some (imV rows):=by
 unfold slV imV
 by_cases h:rows=[]
 ·rw[if_pos h,if_pos h]; rfl
 ·rw[if_neg h,if_neg h]
  exact Zfq (by rw[hg,if_neg h]) hs
theorem Zsi {get:Nat→Option ABlk} {n:Nat} {rows:List (List AVal)} (hs:∀ row,row∈rows → ∀ x,x∈row→Zah get (n+1) x=some x):Zah get (n+2) (imV rows)=some (imV rows):=by
 unfold imV
 by_cases h:rows=[]
 ·rw[if_pos h]; rfl
 ·rw[if_neg h]
  exact Zen hs
def FRow (w:List Nat×Bool) (row:List AVal):Prop:=∃ (ab o:Bool) (P:List (Int×Int)) (G:List Int),row=[.bool ab,imV (nums w.1),imV (prow P),imV (irow G),.bool o]∧(w.2=true↔P≠[])
theorem FRow.closed {w:List Nat×Bool} {row:List AVal} (h:FRow w row):Zag row=true:=by
 obtain⟨ab,o,P,G,rfl,_⟩:=h
 simp only[Zag,AVal.closed,Za8 (Za0 _),Za8 (Zh6 _),Za8 (Zdb _),Bool.and_true]
def RowsF (l:List (List Nat×Bool)) (rows:List (List AVal)):Prop:=rows.length=l.length ∧ ∀(i:Nat) (w:List Nat×Bool),l[i]? = some w → ∃ row,rows[i]? = some row∧FRow w row
theorem RowsF.row {l:List (List Nat×Bool)} {rows:List (List AVal)} (h:RowsF l rows):∀ row,row∈rows → ∃ w,FRow w row:=by
 intro row hr
 obtain⟨i,hi⟩:=List.getElem?_of_mem hr
 have hil:i<l.length:=by rw[← h.1]; exact(List.getElem?_eq_some_iff.1 hi).1
 obtain⟨r2,h1,h2⟩:=h.2 i _ (List.getElem?_eq_getElem hil)
 rw[hi]at h1
 injection h1 with h1
 subst h1
 exact⟨_,h2⟩
theorem RowsF.closed {l:List (List Nat×Bool)} {rows:List (List AVal)} (h:RowsF l rows):Zal rows=true:=by
 have:∀ rs:List (List AVal),(∀ row,row∈rs→Zag row=true)→Zal rs=true:=by
  intro rs
  induction rs with
  | nil=>intro _; rfl
  | cons a r ih=>intro hh; simp only[Zal,Bool.and_eq_true]; exact⟨hh a (List.mem_cons_self ..),ih fun b hb=>hh b (List.mem_cons_of_mem _ hb)⟩
 exact this rows fun row hr=>(h.row row hr).elim fun _ hw=>hw.closed
theorem RowsF.nil:RowsF [] []:=⟨rfl,fun i w h=>by simp at h⟩
theorem Zop (T:Nat→Nat):∀ (k:Nat) (seen:List Bool) (x:Nat),(tr T k seen x).length≤k
 | 0,_,_=>Nat.le_refl _
 | k+1,seen,x=>by
  simp only[tr]
  split
  ·simp
  ·have:=Zop T k (seen.set x true) (T x)
   simp; omega
end Go.Known
end
section
namespace Go.Known
open Go Go.AE Go.Proofs
open Go.Plain
theorem Zj5 {rows:List (List AVal)} (h:¬rows=[]):imV rows=.imm rows:=by simp[imV,h]
end Go.Known
end
section
namespace Go.Known
open Go Go.AE Go.Proofs
open Go.Plain
attribute [local simp] Zgn Zdn Zcw Zj0 Ze2 Ze7 Zex Zgo Zj6 Zam Za2 Zat Zai Zau Zap Zdw Ze6 Zg8 Zgz Zgt Zkn Zeu Zqe Zgm Zg5 Ze3 Zg3 Zg7 Zki Zgq Zg0 Zew Zkj Zg9 Ze4 Ze1 Zgv Zgx Zgp Zgu Zev Zdp Zkc Zgw Zkd Zqh Zdo Ze8 Zdy Zko Zhc Zey Zkh Zjs Ze5 Ze0 Zg4 Zjr Zjv Zql Zj2 Zgl Zdk Zdx Zdr Zdq Zdm Zp2 Zjp Zj9 Env.get argE SMem.at SMem.app SMem.get Zar Zb8 AVal.cells AVal.one Zc2 Zce Zj4 Zkb Zjt Zkl Zka Zkm Zke Zkf Zkp Zj3 Zjz Zjw Zjy unA Zb7 Zbp Zhz Zfl Zaq aundef Zct Zdv Zez Zj8 Zgs recF memN indF Zfm retN oneK Zbz Zd8 SubR SubRE SubRB InjK InjA qOf Znn AVal.ren renL Zak ABlk.ren renB Zde Zfe
def OkV (f:Int) (ls:List Lt):Prop:=ls=[]∨Zux f.toNat ls
open Classical in
noncomputable def errC (f:Int) (ls:List Lt):Int:=
 if 400<ls.length∨200<Zax ls then 7 else if f<0∨40<f then 2 else if OkV f ls then 0 else 3
set_option maxRecDepth 100000 in
set_option maxHeartbeats 4000000 in
theorem c59 (f:Int) (ls:List Lt) (h:ls.length≤1000) :
 Ctr Tryz.prog 73 [cV f ls] ⟨[],1⟩ fun r m=>(errC f ls≠0∧r=.tuple [.nilPtr,.int .i64 (errC f ls)]∧m=⟨[],1⟩) ∨
  (errC f ls=0∧ls=[]∧0≤f∧f≤40∧r=.tuple [.ptr 1 0 0,.int .i64 0]∧m=dM1 f (ls.map rowL)) ∨
  (errC f ls=0∧ls≠[]∧0≤f∧f≤40∧Zux f.toNat ls∧r=.tuple [.ptr 1 0 0,.int .i64 0]∧m=dF f.toNat ls (ls.map rowL) (crE ls ls.length)):=by
 refine Zlc hm Tryz.func73 cf59 rfl rfl fun K hK=>?_
 have hR:=Zb4 ls
 have hrr:∀ q,Zak q (ls.map rowL)=ls.map rowL:=fun q=>Zad q _ (Zac ls)
 have h103:=c103 f ls h
 have h104:=fun F hF=>c104 F ls h hF
 have hE:∀ e:Int,errC f ls=e→e≠0 → ∀ m,SubR 1 [] [(0,.tuple [.nilPtr,.int .i64 e])] ⟨[],1⟩ [(0,.tuple [.nilPtr,.int .i64 e])] m→EndK 1 K (.tuple [.nilPtr,.int .i64 e]) m:=
  fun e he hne m hs=>by subst he; exact endK (hK _ _ (.inl ⟨hne,rfl,rfl⟩)) [] hs
 unfold cV at *
 generalize ls.map rowL=rows at *
 have hlen:=hR.len
 have hv:cntP isX ls=Zax ls:=rfl
 by_cases hl:400<ls.length
 ·have hl':(400:Int)<(ls.length:Int):=by omega
  simp[hlen,hl,hl']
  exact hE 7 (by unfold errC; rw[if_pos (.inl hl)]) (by omega) _ (by simp)
 have hl':¬(400:Int)<(ls.length:Int):=by omega
 simp[hlen,hl,hl']
 refine Zbc h103 ?_
 rw[hv]
 by_cases hx:200<Zax ls
 ·have hx':(200:Int)<(Zax ls:Int):=by omega
  simp[hx,hx']
  exact hE 7 (by unfold errC; rw[if_pos (.inr hx)]) (by omega) _ (by simp)
 have hx':¬(200:Int)<(Zax ls:Int):=by omega
 have h7:¬(400<ls.length∨200<Zax ls):=by omega
 by_cases hf1:f<0
 ·simp[hx,hx',hf1]
  exact hE 2 (by unfold errC; rw[if_neg h7,if_pos (.inl hf1)]) (by omega) _ (by simp)
 by_cases hf2:40<f
 ·simp[hx,hx',hf1,hf2]
  exact hE 2 (by unfold errC; rw[if_neg h7,if_pos (.inr hf2)]) (by omega) _ (by simp)
 have h2:¬(f<0∨40<f):=by omega
 obtain⟨F,hF⟩:∃ F:Nat,f=(F:Int):=⟨f.toNat,by omega⟩
 subst hF
 simp[hx,hx',hf1,hf2]
 refine Zb2 (h104 F (by omega)) [(1,23)] (by simp) (by simp[hrr,Zaf,Zab,Zao]) (by simp) ?_
 rintro r sm (⟨h0,rfl,rfl⟩|⟨h0,hok,rfl,rfl⟩|⟨h0,hok,rfl,rfl⟩)
 ·have he:errC F ls=0:=by unfold errC; rw[if_neg h7,if_neg h2,if_pos (.inl h0)]
  simp[hrr,Zaf,Zab,Zao]
  exact endK (hK _ _ (.inr (.inl ⟨he,h0,by omega,by omega,rfl,rfl⟩))) [(1,23)] (by simp[hrr,Zaf,Zab,Zao])
 ·have he:errC F ls=0:=by unfold errC; rw[if_neg h7,if_neg h2,if_pos (.inr hok)]
  simp[hrr,Zaf,Zab,Zao]
  exact endK (hK _ _ (.inr (.inr ⟨he,h0,by omega,by omega,hok,rfl,rfl⟩))) [(1,23),(2,28),(3,29),(4,30),(5,31),(6,32)] (by simp[hrr,Zaf,Zab,Zao])
 ·simp[hrr,Zaf,Zab,Zao]
  exact hE 3 (by unfold errC; rw[if_neg h7,if_neg h2,if_neg (fun hh=>hh.elim h0 hok)]) (by omega) _ (by simp)
end Go.Known
end
section
namespace Go.Known
open Go Go.AE Go.Proofs
open Go.Plain
theorem FRow.one {w:List Nat×Bool} {row:List AVal} (h:FRow w row):∀ x,x∈row→x.one=true:=by
 obtain⟨ab,o,P,G,rfl,_⟩:=h
 have hi:∀ rows:List (List AVal),(imV rows).one=true:=fun rows=>by unfold imV; split<;>rfl
 intro x hx
 simp only[List.mem_cons,List.not_mem_nil,or_false]at hx
 rcases hx with rfl|rfl|rfl|rfl|rfl<;>first|rfl|exact hi _
end Go.Known
end
