/- Part 15 of the proof: AeLoc. -/
import Derived.Test.YtfmnflhggplkmaaGreatDoorU2
set_option linter.all false
namespace Go.AE
open Go.RowKit
structure Same (ft:List Nat) (m m' m2 m2':Mem):Prop where
 n1:m'.next=m.next
 n2:m2'.next=m2.next
 out1:∀ b,b∉ft→m'.get b=m.get b
 out2:∀ b,b∉ft→m2'.get b=m2.get b
 ins:∀ b,b∈ft→m2'.get b=m'.get b
def Agr (ft:List Nat) (m m2:Mem):Prop:=∀ b,b∈ft→m2.get b=m.get b
section
variable {ft:List Nat} {m m2 m':Mem} {id:Nat} {t:List AVal} {v:AVal}
theorem Same.refl (h:Agr ft m m2):Same ft m m m2 m2:=⟨rfl,rfl,fun _ _=>rfl,fun _ _=>rfl,h⟩
theorem Same.set {m' m2':Mem} {b:Nat} {x:ABlk} (h:Same ft m m' m2 m2') (hb:b∈ft):Same ft m (m'.set b x) m2 (m2'.set b x):=by
 refine⟨h.n1,h.n2,fun c hc=>?_,fun c hc=>?_,fun c hc=>?_⟩
 ·have:c≠b:=fun e=>hc (e ▸ hb)
  simp[this,h.out1 c hc]
 ·have:c≠b:=fun e=>hc (e ▸ hb)
  simp[this,h.out2 c hc]
 ·simp only[Mem.get_set]
  split
  ·rfl
  ·exact h.ins c hc
theorem Same.del {m' m2':Mem} {b:Nat} (h:Same ft m m' m2 m2') (hb:b∈ft):Same ft m (m'.del b) m2 (m2'.del b):=by
 refine⟨h.n1,h.n2,fun c hc=>?_,fun c hc=>?_,fun c hc=>?_⟩
 ·have:c≠b:=fun e=>hc (e ▸ hb)
  simp[this,h.out1 c hc]
 ·have:c≠b:=fun e=>hc (e ▸ hb)
  simp[this,h.out2 c hc]
 ·simp only[Mem.get_del]
  split
  ·rfl
  ·exact h.ins c hc
theorem rowAt_agr {x:AVal} (h:Agr (blkOf x) m m2):rowAt m2 x=rowAt m x:=by
 cases x<;>simp only[rowAt]
 rename_i b i j
 rw[h b (by simp[blkOf])]
theorem loadA_agr {x:AVal} {n:Option Nat} (h:Agr (blkOf x) m m2):loadA m2 n x=loadA m n x:=by
 simp only[loadA,rowAt_agr h]
theorem rowsOf_agr {x:AVal} {k:Nat} (h:Agr (blkOf x) m m2):rowsOf m2 k x=rowsOf m k x:=by
 cases x<;>simp only[rowsOf]
 rename_i b off len
 rw[h b (by simp[blkOf])]
theorem srcRows_agr {x:AVal} {k:Nat} (h:Agr (blkOf x) m m2):srcRows m2 k x=srcRows m k x:=by
 cases x<;>simp only[srcRows]<;>first|rfl|exact rowsOf_agr h
theorem storeA_agr {x y:AVal} {n:Nat} (h:Agr ft m m2) (hx:∀ b,b∈blkOf x→b∈ft) (hs:storeA m n x y=some m'):∃ m2',storeA m2 n x y=some m2'∧Same ft m m' m2 m2':=by
 cases x<;>simp only[storeA]at hs<;>first|(cases hs; done)|skip
 rename_i b i j
 have hb:b∈ft:=hx b (by simp[blkOf])
 simp only[storeA,h b hb]
 split at hs<;>first|(cases hs; done)|skip
 rename_i b' i' j' cs heq hcs
 injection heq with h1 h2 h3
 subst h1; subst h2; subst h3
 split at hs<;>first|(cases hs; done)|skip
 rename_i k els hg
 split at hs<;>first|(cases hs; done)|skip
 rename_i row hrow
 split at hs<;>first|(cases hs; done)|skip
 rename_i hc
 injection hs with hs
 subst hs
 simp only[h b hb,hg,hrow]
 rw[if_pos hc]
 exact⟨_,rfl,(Same.refl h).set hb⟩
theorem appendRows_agr {k bytes:Nat} {s:AVal} {xs:List (List AVal)} (h:Agr ft m m2) (hid:id∈ft) (hx:∀ b,b∈blkOf s→b∈ft) (hs:appendRows id k bytes m s xs=some (v,m')) :
 ∃ m2',appendRows id k bytes m2 s xs=some (v,m2')∧Same ft m m' m2 m2':=by
 cases s<;>simp only[appendRows]at hs<;>first|(cases hs; done)|skip
 ·split at hs
  ·rename_i h0
   simp only[Option.some.injEq,Prod.mk.injEq]at hs
   obtain⟨h1,h2⟩:=hs
   subst h1; subst h2
   exact⟨m2,by simp[appendRows,h0],Same.refl h⟩
  ·rename_i h0
   split at hs<;>first|(cases hs; done)|skip
   rename_i hc
   simp only[Option.some.injEq,Prod.mk.injEq]at hs
   obtain⟨h1,h2⟩:=hs
   subst h1; subst h2
   exact⟨_,by simp only[appendRows,h0,if_false,hc]; rfl,(Same.refl h).set hid⟩
 ·split at hs
  ·rename_i h0
   simp only[Option.some.injEq,Prod.mk.injEq]at hs
   obtain⟨h1,h2⟩:=hs
   subst h1; subst h2
   exact⟨m2,by simp[appendRows,h0],Same.refl h⟩
  ·rename_i h0
   split at hs<;>first|(cases hs; done)|skip
   rename_i hc
   simp only[Option.some.injEq,Prod.mk.injEq]at hs
   obtain⟨h1,h2⟩:=hs
   subst h1; subst h2
   exact⟨_,by simp only[appendRows,h0,if_false,hc]; rfl,(Same.refl h).set hid⟩
 ·rename_i b off len
  have hb:b∈ft:=hx b (by simp[blkOf])
  simp only[appendRows,h b hb]
  split at hs<;>first|(cases hs; done)|skip
  rename_i k' els hg
  split at hs<;>first|(cases hs; done)|skip
  rename_i hc
  rw[if_pos hc]
  split at hs
  ·rename_i hc2
   rw[if_pos hc2]
   simp only[Option.some.injEq,Prod.mk.injEq]at hs
   obtain⟨h1,h2⟩:=hs
   subst h1; subst h2
   exact⟨_,rfl,(Same.refl h).set hb⟩
  ·rename_i hc2
   rw[if_neg hc2]
   split at hs<;>first|(cases hs; done)|skip
   rename_i hc3
   rw[if_pos hc3]
   simp only[Option.some.injEq,Prod.mk.injEq]at hs
   obtain⟨h1,h2⟩:=hs
   subst h1; subst h2
   exact⟨_,rfl,((Same.refl h).del hb).set hid⟩
theorem quiet_same {o:Option AVal} {m':Mem} (h:Agr ft m m2) (hs:(match o with|some v=>some (v,m)|none=>none)=some (v,m')) :
 ∃ m2',(match o with|some v=>some (v,m2)|none=>none)=some (v,m2')∧Same ft m m' m2 m2':=by
 cases o with
 | none=>cases hs
 | some w=>
  simp only[Option.some.injEq,Prod.mk.injEq]at hs
  obtain⟨h1,h2⟩:=hs
  subst h1; subst h2
  exact⟨m2,rfl,Same.refl h⟩
theorem stepA_local {op:AOp} (hr:Agr (footR t op) m m2) (h:Agr (footW id t op) m m2) (hs:stepA id t m op=some (v,m')):∃ m2',stepA id t m2 op=some (v,m2')∧Same (footW id t op) m m' m2 m2':=by
 have keep:∀ {o:Option (AVal×Mem)},o=some (v,m')→(∀ w n,o=some (w,n)→n=m∧stepA id t m2 op=some (w,m2)) → ∃ m2',stepA id t m2 op=some (v,m2')∧Same (footW id t op) m m' m2 m2':=by
  intro o ho hw
  obtain⟨h1,h2⟩:=hw v m' ho
  subst h1
  exact⟨m2,h2,Same.refl h⟩
 cases op with
 | mov x=>exact keep hs fun w n hh=>by simp only[stepA,Option.some.injEq,Prod.mk.injEq]at hh ⊢; exact⟨hh.2.symm,hh.1,trivial⟩
 | pick c a b=>
  simp only[stepA]at hs ⊢
  split at hs<;>first|(cases hs; done)|skip
  all_goals
   simp only[Option.some.injEq,Prod.mk.injEq]at hs
   obtain⟨h1,h2⟩:=hs
   subst h1; subst h2
   exact⟨m2,rfl,Same.refl h⟩
 | box x=>
  simp only[stepA]at hs ⊢
  split at hs<;>first|(cases hs; done)|skip
  rename_i cs hcs
  split at hs<;>first|(cases hs; done)|skip
  rename_i hall
  simp only[Option.some.injEq,Prod.mk.injEq]at hs
  obtain⟨h1,h2⟩:=hs
  subst h1; subst h2
  simp only[hall,if_true]
  exact⟨_,rfl,(Same.refl h).set (by simp[footW])⟩
 | alloc z=>
  simp only[stepA,Option.some.injEq,Prod.mk.injEq]at hs ⊢
  obtain⟨h1,h2⟩:=hs
  subst h1; subst h2
  exact⟨_,⟨rfl,rfl⟩,(Same.refl h).set (by simp[footW])⟩
 | build z ps=>
  simp only[stepA]at hs ⊢
  split at hs<;>first|(cases hs; done)|skip
  simp only[Option.some.injEq,Prod.mk.injEq]at hs
  obtain⟨h1,h2⟩:=hs
  subst h1; subst h2
  exact⟨m2,rfl,Same.refl h⟩
 | mkSl k len z ps=>
  simp only[stepA]at hs ⊢
  split at hs<;>first|(cases hs; done)|skip
  simp only[Option.some.injEq,Prod.mk.injEq]at hs
  obtain⟨h1,h2⟩:=hs
  subst h1; subst h2
  exact⟨_,rfl,(Same.refl h).set (by simp[footW])⟩
 | load n x=>
  simp only[stepA]at hs ⊢
  rw[loadA_agr hr]
  exact quiet_same h hs
 | store n a x=>
  simp only[stepA]at hs ⊢
  split at hs<;>first|(cases hs; done)|skip
  rename_i m3 hst
  simp only[Option.some.injEq,Prod.mk.injEq]at hs
  obtain⟨h1,h2⟩:=hs
  subst h1; subst h2
  obtain⟨m4,h3,h4⟩:=storeA_agr h (fun _ hb=>hb) hst
  rw[h3]
  exact⟨m4,rfl,h4⟩
 | nilChk x=>
  simp only[stepA]at hs ⊢
  split at hs<;>first|(cases hs; done)|skip
  all_goals
   simp only[Option.some.injEq,Prod.mk.injEq]at hs
   obtain⟨h1,h2⟩:=hs
   subst h1; subst h2
   exact⟨m2,rfl,Same.refl h⟩
 | bin op e x y=>simp only[stepA]at hs ⊢; exact quiet_same h hs
 | un op x=>simp only[stepA]at hs ⊢; exact quiet_same h hs
 | convInt k x=>
  simp only[stepA]at hs ⊢
  split at hs<;>first|(cases hs; done)|skip
  simp only[Option.some.injEq,Prod.mk.injEq]at hs
  obtain⟨h1,h2⟩:=hs
  subst h1; subst h2
  exact⟨m2,rfl,Same.refl h⟩
 | convId x=>
  simp only[stepA]at hs ⊢
  split at hs<;>first|(cases hs; done)|skip
  simp only[Option.some.injEq,Prod.mk.injEq]at hs
  obtain⟨h1,h2⟩:=hs
  subst h1; subst h2
  exact⟨m2,rfl,Same.refl h⟩
 | toStr x=>
  simp only[stepA]at hs ⊢
  rw[rowsOf_agr hr]
  split at hs<;>first|(cases hs; done)|skip
  rename_i rows hrows
  split at hs<;>first|(cases hs; done)|skip
  rename_i s hss
  simp only[Option.some.injEq,Prod.mk.injEq]at hs
  obtain⟨h1,h2⟩:=hs
  subst h1; subst h2
  exact⟨m2,rfl,Same.refl h⟩
 | mkFunc fn a b=>exact keep hs fun w n hh=>by simp only[stepA,Option.some.injEq,Prod.mk.injEq]at hh ⊢; exact⟨hh.2.symm,hh.1,trivial⟩
 | mkMap=>
  simp only[stepA,Option.some.injEq,Prod.mk.injEq]at hs ⊢
  obtain⟨h1,h2⟩:=hs
  subst h1; subst h2
  exact⟨_,⟨rfl,rfl⟩,(Same.refl h).set (by simp[footW])⟩
 | makeSl k b z len cap=>
  simp only[stepA]at hs ⊢
  split at hs<;>first|(cases hs; done)|skip
  split at hs<;>first|(cases hs; done)|skip
  rename_i hc
  simp only[Option.some.injEq,Prod.mk.injEq]at hs
  obtain⟨h1,h2⟩:=hs
  subst h1; subst h2
  simp only[hc,and_self,if_true]
  exact⟨_,rfl,(Same.refl h).set (by simp[footW])⟩
 | slStr x lo hi=>
  simp only[stepA]at hs ⊢
  split at hs<;>first|(cases hs; done)|skip
  split at hs<;>first|(cases hs; done)|skip
  simp only[Option.some.injEq,Prod.mk.injEq]at hs
  obtain⟨h1,h2⟩:=hs
  subst h1; subst h2
  exact⟨m2,rfl,Same.refl h⟩
 | slSl k x lo hi mx=>
  have ha:Agr (blkOf (ev t x)) m m2:=hr
  simp only[stepA]at hs ⊢
  split at hs
  ·split at hs<;>first|(cases hs; done)|skip
   split at hs<;>first|(cases hs; done)|skip
   split at hs<;>first|(cases hs; done)|skip
   rename_i hc
   simp only[hc,and_self,if_true]
   split at hs
   all_goals
    rename_i h0
    simp only[Option.some.injEq,Prod.mk.injEq]at hs
    obtain⟨h1,h2⟩:=hs
    subst h1; subst h2
    simp only[h0,if_true,if_false]
    exact⟨m2,rfl,Same.refl h⟩
  ·generalize ev t x=y at *
   cases y<;>simp only at hs ⊢ <;> first|(cases hs; done)|skip
   case sl b off len=>
    rw[ha b (by simp[blkOf])]
    split at hs<;>first|(cases hs; done)|skip
    split at hs<;>first|(cases hs; done)|skip
    rename_i hc
    simp only[hc,and_self,if_true]
    split at hs<;>first|(cases hs; done)|skip
    simp only[Option.some.injEq,Prod.mk.injEq]at hs
    obtain⟨h1,h2⟩:=hs
    subst h1; subst h2
    exact⟨m2,rfl,Same.refl h⟩
   case imm els=>
    split at hs<;>first|(cases hs; done)|skip
    rename_i hc
    simp only[hc,if_true]
    split at hs<;>first|(cases hs; done)|skip
    simp only[Option.some.injEq,Prod.mk.injEq]at hs
    obtain⟨h1,h2⟩:=hs
    subst h1; subst h2
    exact⟨m2,rfl,Same.refl h⟩
   all_goals
    split at hs<;>first|(cases hs; done)|skip
    simp only[Option.some.injEq,Prod.mk.injEq]at hs
    obtain⟨h1,h2⟩:=hs
    subst h1; subst h2
    exact⟨m2,rfl,Same.refl h⟩
 | fieldA off x=>simp only[stepA]at hs ⊢; exact quiet_same h hs
 | field off n x=>
  simp only[stepA]at hs ⊢
  split at hs<;>first|(cases hs; done)|skip
  exact quiet_same h hs
 | idxA k x i=>
  have ha:Agr (blkOf (ev t x)) m m2:=hr
  simp only[stepA]at hs ⊢
  generalize ev t x=y at *
  split at hs<;>first|(cases hs; done)|skip
  ·rename_i b off len i' hi
   rw[ha b (by simp[blkOf])]
   split at hs<;>first|(cases hs; done)|skip
   split at hs<;>first|(cases hs; done)|skip
   rename_i hc
   simp only[hc,and_self,if_true]
   simp only[Option.some.injEq,Prod.mk.injEq]at hs
   obtain⟨h1,h2⟩:=hs
   subst h1; subst h2
   exact⟨m2,rfl,Same.refl h⟩
  ·split at hs<;>first|(cases hs; done)|skip
   split at hs<;>first|(cases hs; done)|skip
   rename_i hc
   simp only[hc,if_true]
   simp only[Option.some.injEq,Prod.mk.injEq]at hs
   obtain⟨h1,h2⟩:=hs
   subst h1; subst h2
   exact⟨m2,rfl,Same.refl h⟩
 | idxAA n k x i=>
  simp only[stepA]at hs ⊢
  split at hs<;>first|(cases hs; done)|skip
  split at hs<;>first|(cases hs; done)|skip
  rename_i hc
  simp only[hc,if_true]
  exact quiet_same h hs
 | idxStr x i=>
  simp only[stepA]at hs ⊢
  split at hs<;>first|(cases hs; done)|skip
  split at hs<;>first|(cases hs; done)|skip
  simp only[Option.some.injEq,Prod.mk.injEq]at hs
  obtain⟨h1,h2⟩:=hs
  subst h1; subst h2
  exact⟨m2,rfl,Same.refl h⟩
 | idxArr n k sz x i=>
  simp only[stepA]at hs ⊢
  split at hs<;>first|(cases hs; done)|skip
  split at hs<;>first|(cases hs; done)|skip
  rename_i hc
  simp only[hc,if_true]
  exact quiet_same h hs
 | lookup kt z ok x i=>
  have ha:Agr (blkOf (ev t x)) m m2:=hr
  simp only[stepA]at hs ⊢
  generalize ev t x=y at *
  cases y<;>simp only at hs ⊢ <;> first|(cases hs; done)|skip
  case map b=>
   rw[ha b (by simp[blkOf])]
   split at hs<;>first|(cases hs; done)|skip
   rename_i es hes
   split at hes<;>first|(cases hes; done)|skip
   rename_i hg
   injection hes with hes
   subst hes
   split at hs<;>first|(cases hs; done)|skip
   rename_i hf
   simp only[Option.some.injEq,Prod.mk.injEq]at hs
   obtain⟨h1,h2⟩:=hs
   subst h1; subst h2
   exact⟨m2,by simp only[hf],Same.refl h⟩
  all_goals
   split at hs<;>first|(cases hs; done)|skip
   rename_i hf
   simp only[Option.some.injEq,Prod.mk.injEq]at hs
   obtain⟨h1,h2⟩:=hs
   subst h1; subst h2
   exact⟨m2,by simp only[hf],Same.refl h⟩
 | mapUpd kt mp k w=>
  have ha:Agr (blkOf (ev t mp)) m m2:=h
  have hi:∀ b,b∈blkOf (ev t mp)→b∈footW id t (.mapUpd kt mp k w):=fun _ hb=>hb
  simp only[stepA]at hs ⊢
  generalize ev t mp=y at *
  cases y<;>simp only at hs ⊢ <;> first|(cases hs; done)|skip
  rename_i b
  rw[ha b (by simp[blkOf])]
  split at hs<;>first|(cases hs; done)|skip
  split at hs<;>first|(cases hs; done)|skip
  all_goals
   simp only[Option.some.injEq,Prod.mk.injEq]at hs
   obtain⟨h1,h2⟩:=hs
   subst h1; subst h2
   exact⟨_,rfl,(Same.refl h).set (hi b (by simp[blkOf]))⟩
 | ext x i=>
  simp only[stepA]at hs ⊢
  split at hs<;>first|(cases hs; done)|skip
  exact quiet_same h hs
 | append k bytes z s x=>
  have ha:Agr (blkOf (ev t x)) m m2:=hr
  simp only[stepA]at hs ⊢
  rw[srcRows_agr ha]
  split at hs<;>first|(cases hs; done)|skip
  exact appendRows_agr h (by simp[footW]) (fun b hb=>by simp[footW,hb]) hs
 | copy k d s=>
  have ha:Agr (blkOf (ev t d)) m m2:=h
  have hi:∀ b,b∈blkOf (ev t d)→b∈footW id t (.copy k d s):=fun _ hb=>hb
  have ha2:Agr (blkOf (ev t s)) m m2:=hr
  simp only[stepA]at hs ⊢
  rw[srcRows_agr ha2]
  generalize ev t d=y at *
  split at hs<;>first|(cases hs; done)|skip
  rename_i b off len xs hxs
  rw[ha b (by simp[blkOf])]
  split at hs<;>first|(cases hs; done)|skip
  split at hs<;>first|(cases hs; done)|skip
  rename_i hc
  simp only[hc,and_self,if_true]
  simp only[Option.some.injEq,Prod.mk.injEq]at hs
  obtain⟨h1,h2⟩:=hs
  subst h1; subst h2
  exact⟨_,rfl,(Same.refl h).set (hi b (by simp[blkOf]))⟩
 | clear k z x=>
  have ha:Agr (blkOf (ev t x)) m m2:=h
  have hi:∀ b,b∈blkOf (ev t x)→b∈footW id t (.clear k z x):=fun _ hb=>hb
  simp only[stepA]at hs ⊢
  generalize ev t x=y at *
  cases y<;>simp only at hs ⊢ <;> first|(cases hs; done)|skip
  case sl b off len=>
   rw[ha b (by simp[blkOf])]
   split at hs<;>first|(cases hs; done)|skip
   split at hs<;>first|(cases hs; done)|skip
   rename_i hc
   simp only[hc,and_self,if_true]
   simp only[Option.some.injEq,Prod.mk.injEq]at hs
   obtain⟨h1,h2⟩:=hs
   subst h1; subst h2
   exact⟨_,rfl,(Same.refl h).set (hi b (by simp[blkOf]))⟩
  all_goals
   simp only[Option.some.injEq,Prod.mk.injEq]at hs
   obtain⟨h1,h2⟩:=hs
   subst h1; subst h2
   exact⟨m2,rfl,Same.refl h⟩
 | lenStr x=>
  simp only[stepA]at hs ⊢
  split at hs<;>first|(cases hs; done)|skip
  simp only[Option.some.injEq,Prod.mk.injEq]at hs
  obtain⟨h1,h2⟩:=hs
  subst h1; subst h2
  exact⟨m2,rfl,Same.refl h⟩
 | lenSl x=>
  simp only[stepA]at hs ⊢
  split at hs<;>first|(cases hs; done)|skip
  simp only[Option.some.injEq,Prod.mk.injEq]at hs
  obtain⟨h1,h2⟩:=hs
  subst h1; subst h2
  exact⟨m2,rfl,Same.refl h⟩
 | lenMap x=>
  have ha:Agr (blkOf (ev t x)) m m2:=hr
  simp only[stepA]at hs ⊢
  generalize ev t x=y at *
  cases y<;>simp only at hs ⊢ <;> first|(cases hs; done)|skip
  case map b=>
   rw[ha b (by simp[blkOf])]
   split at hs<;>first|(cases hs; done)|skip
   simp only[Option.some.injEq,Prod.mk.injEq]at hs
   obtain⟨h1,h2⟩:=hs
   subst h1; subst h2
   exact⟨m2,rfl,Same.refl h⟩
  all_goals
   simp only[Option.some.injEq,Prod.mk.injEq]at hs
   obtain⟨h1,h2⟩:=hs
   subst h1; subst h2
   exact⟨m2,rfl,Same.refl h⟩
 | lenArr n=>exact keep hs fun w n hh=>by simp only[stepA,Option.some.injEq,Prod.mk.injEq]at hh ⊢; exact⟨hh.2.symm,hh.1,trivial⟩
 | minmax mx xs=>
  simp only[stepA]at hs ⊢
  split at hs<;>first|(cases hs; done)|skip
  exact quiet_same h hs
 | iface ty x=>exact keep hs fun w n hh=>by simp only[stepA,Option.some.injEq,Prod.mk.injEq]at hh ⊢; exact⟨hh.2.symm,hh.1,trivial⟩
 | mapEnt kt z mp k=>simp[stepA]at hs
 | entSt mp s w=>simp[stepA]at hs
 | delete kt mp k=>simp[stepA]at hs
 | range x=>simp[stepA]at hs
 | nextS x=>simp[stepA]at hs
 | nextM x=>simp[stepA]at hs
 | slArr n k x lo hi=>simp[stepA]at hs
 | appendZ k b z s x=>simp[stepA]at hs
 | call f xs=>simp[stepA]at hs
 | capSl x=>simp[stepA]at hs
 | dead=>simp[stepA]at hs
end
end Go.AE
