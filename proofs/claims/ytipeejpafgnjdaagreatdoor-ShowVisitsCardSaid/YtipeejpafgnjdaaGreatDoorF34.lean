/- Part 34 of the proof: Rw, Rx, Ry, Sd. -/
import Derived.Test.YtipeejpafgnjdaaGreatDoorF30
import Derived.Test.YtipeejpafgnjdaaGreatDoorF31
set_option linter.all false
section
namespace Go.Known
open Go Go.AE Go.Proofs
open Go.Plain
def mix (g:Lt→Lt) (i:Nat) (ls:List Lt):List Lt:=(ls.take i).map g++ls.drop i
theorem mix_zero (g:Lt→Lt) (ls:List Lt):mix g 0 ls=ls:=by simp [mix]
theorem mix_all (g:Lt→Lt) (ls:List Lt):mix g ls.length ls=ls.map g:=by simp [mix]
theorem mix_len (g:Lt→Lt) (i:Nat) (ls:List Lt):(mix g i ls).length=ls.length:=by simp [mix]; omega
theorem mix_get {g:Lt→Lt} {i:Nat} {ls:List Lt} (hi:i<ls.length):((mix g i ls).map rowL)[i]? = some (rowL (at' ls i)):=by
 unfold mix
 rw [List.getElem?_map,List.getElem?_append_right (by simp; omega),List.length_map,List.length_take,Nat.min_eq_left (by omega),Nat.sub_self,List.getElem?_drop,Nat.add_zero,List.getElem?_eq_getElem hi,at',List.getD,List.getElem?_eq_getElem hi]
 rfl
theorem mix_set {g:Lt→Lt} {i:Nat} {ls:List Lt} (hi:i<ls.length):((mix g i ls).map rowL).set i (rowL (g (at' ls i)))=(mix g (i+1) ls).map rowL:=by
 have e:ls.drop i=at' ls i :: ls.drop (i+1):=by
  rw [List.drop_eq_getElem_cons hi,at',List.getD,List.getElem?_eq_getElem hi]
  rfl
 have e2:ls.take (i+1)=ls.take i++[at' ls i]:=by
  rw [List.take_add_one,List.getElem?_eq_getElem hi,at',List.getD,List.getElem?_eq_getElem hi]
  rfl
 unfold mix
 rw [e,e2,List.map_append,List.map_append,List.set_append_right _ _ (by simp; omega)]
 simp only [List.map_append,List.map_cons,List.map_nil,List.length_map,List.length_take,Nat.min_eq_left (Nat.le_of_lt hi),Nat.sub_self,List.set_cons_zero,List.append_assoc,List.cons_append,List.nil_append]
theorem mix_same {g:Lt→Lt} {i:Nat} {ls:List Lt} (hi:i<ls.length) (hg:g (at' ls i)=at' ls i):(mix g (i+1) ls).map rowL=(mix g i ls).map rowL:=by
 rw [← mix_set hi,hg]
 have h:=mix_get (g:=g) hi
 generalize (mix g i ls).map rowL=M at *
 obtain⟨hl,h2⟩:=getE h
 rw [← h2,List.set_getElem_self]
theorem rows6 (ls:List Lt):((ls.map rowL).all fun x=>x.length == 6)=true:=by
 rw [List.all_eq_true]
 intro x hx
 obtain⟨l,_,rfl⟩:=List.mem_map.1 hx
 rfl
end Go.Known
end
section
namespace Go.Known
open Go Go.AE Go.Proofs
open Go.Plain
theorem scal_rows {get:Nat→Option ABlk} {n:Nat} (l:List Lt):∀ row,row∈l.map rowL → ∀ x,x∈row→freezeV get (n+1) x=some x:=by
 intro row hr x hx
 obtain⟨i,_,rfl⟩:=List.mem_map.1 hr
 simp only [rowL,List.mem_cons,List.not_mem_nil,or_false] at hx
 rcases hx with rfl | rfl | rfl | rfl | rfl | rfl<;>rfl
end Go.Known
end
section
namespace Go.Known
open Go Go.AE Go.Proofs
open Go.Plain
theorem fz_code {get:Nat→Option ABlk} (f:Int) (L:List Lt):freezeV get 4 (.tuple [cV f L,.int .i64 0])=some (.tuple [cV f L,.int .i64 0]):=by
 unfold cV
 rw [freezeV]
 simp only [mapO]
 rw [freezeV]
 simp only [mapO]
 rw [freeze_imm (scal_rows L)]
 rfl
end Go.Known
end
section
namespace Go.Known
open Go Go.AE Go.Proofs
open Go.Plain
attribute [local simp] w00
theorem c31e:PCall Tryz.prog 57 [.imm []] (.imm []):=by
 refine PCall_emp (v1:=.nilSl) ?_ E0_nil ?_
 · refine PCall_F hm 4 Tryz.func57 cf31 rfl rfl (by simp [closedL,AVal.closed]) rfl fun K hK=>?_
   have hK':=hK .nilSl ⟨[],1⟩ rfl
   clear hK
   simp [binA,eqA,eqNil,isNil]
   exact endK hK' [] (by simp)
 · refine ctr_P hm Tryz.func57 cf31 rfl rfl fun K hK=>?_
   have hK':=hK (.sl 2 0 0) ⟨[(2,.cells 6 [])],3⟩ (E0_sl 2 0)
   clear hK
   simp [binA,eqA,eqNil,isNil,sr_slO,appendRowsD]
   exact endK hK' [(2,5)] (by simp)
end Go.Known
end
