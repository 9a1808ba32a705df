/- Part 35 of the proof: Sf, Sj, Sp. -/
import Derived.Test.YtipeejpafgnjdaaGreatDoorF15
import Derived.Test.YtipeejpafgnjdaaGreatDoorF30
import Derived.Test.YtipeejpafgnjdaaGreatDoorF31
import Derived.Test.YtipeejpafgnjdaaGreatDoorF34
set_option linter.all false
section
namespace Go.Known
open Go Go.AE Go.Proofs
open Go.Plain
theorem same_rowL (a b:Lt):sameCells [.int,.int,.int,.int,.int,.bool] (rowL a) (rowL b)=some (decide (a=b)):=by
 obtain⟨a1,a2,a3,a4,a5,a6⟩:=a
 obtain⟨b1,b2,b3,b4,b5,b6⟩:=b
 simp only [rowL,sameCells,keyEq,if_true,Lt.mk.injEq]
 by_cases h1:a1=b1
 · by_cases h2:a2=b2
   · by_cases h3:a3=b3
     · by_cases h4:a4=b4
       · by_cases h5:a5=b5
         · by_cases h6:a6=b6
           · simp [h1,h2,h3,h4,h5,h6]
           · simp [h1,h2,h3,h4,h5,h6,beq_false_of_ne h6]
         · simp [h1,h2,h3,h4,h5,beq_false_of_ne h5]
       · simp [h1,h2,h3,h4,beq_false_of_ne h4]
     · simp [h1,h2,h3,beq_false_of_ne h3]
   · simp [h1,h2,beq_false_of_ne h2]
 · simp [h1,beq_false_of_ne h1]
theorem ne_rowL (a b:Lt):binA .neq (.flat [.int,.int,.int,.int,.int,.bool]) (.agg (rowL a)) (.agg (rowL b))=some (.bool (!decide (a=b))):=by
 simp only [binA,eqA,same_rowL]
theorem get_row (ls:List Lt) {i:Nat} (h:i<ls.length):(ls.map rowL)[i]? = some (rowL (at' ls i)):=by
 rw [List.getElem?_map,List.getElem?_eq_getElem h,at',List.getD,List.getElem?_eq_getElem h]
 rfl
theorem drop_same {a b:List Lt} {i:Nat} (ha:i<a.length) (hb:i<b.length) (h:at' a i=at' b i):(a.drop i=b.drop i)=(a.drop (i+1)=b.drop (i+1)):=by
 rw [List.drop_eq_getElem_cons ha,List.drop_eq_getElem_cons hb]
 have e:a[i]=b[i]:=by simpa [at',List.getD,ha,hb] using h
 rw [e]
 simp only [List.cons.injEq,true_and]
theorem drop_diff {a b:List Lt} {i:Nat} (ha:i<a.length) (hb:i<b.length) (h:at' a i≠at' b i):¬a.drop i=b.drop i:=by
 rw [List.drop_eq_getElem_cons ha,List.drop_eq_getElem_cons hb]
 have e1:at' a i=a[i]:=by simp [at',List.getD,ha]
 have e2:at' b i=b[i]:=by simp [at',List.getD,hb]
 rw [e1,e2] at h
 intro e
 injection e with e3 _
 exact h e3
end Go.Known
end
section
namespace Go.AE
open Go.RowKit
variable {P:Program}
def Wk (v v':AVal):Prop:=∀ (Φ:Pers) (ρ:Rho) (u:Value),R Φ ρ v u→R Φ ρ v' u
theorem Wk.refl (v:AVal):Wk v v:=fun _ _ _ h=>h
end Go.AE
namespace Go.Known
open Go Go.AE Go.Proofs
open Go.Plain
end Go.Known
end
section
namespace Go.Known
open Go Go.AE Go.Proofs
open Go.Plain
set_option maxRecDepth 100000 in
set_option maxHeartbeats 8000000 in
theorem c12v (f g:Int) (a b:List Lt) (ha:a.length≤1000) (hb:b.length≤1000):PCall Tryz.prog 21 [cV f a,cV g b] (.bool (decide (f=g)&&decide (a=b))):=by
 refine PCall_1 hm Tryz.func21 cf12 rfl rfl (by simp [closedL,AVal.closed,closed_rows]) trivial fun K hK=>?_
 have hra:∀ q,renLL q (a.map rowL)=a.map rowL:=fun q=>renLL_closed q _ (closed_rows a)
 have hrb:∀ q,renLL q (b.map rowL)=b.map rowL:=fun q=>renLL_closed q _ (closed_rows b)
 have hla:(a.map rowL).length=a.length:=List.length_map ..
 have hlb:(b.map rowL).length=b.length:=List.length_map ..
 have hga:=fun i hi=>get_row a (i:=i) hi
 have hgb:=fun i hi=>get_row b (i:=i) hi
 unfold cV at *
 generalize a.map rowL=A at *
 generalize b.map rowL=B at *
 by_cases hfg:f=g
 rotate_left
 · rw [decide_eq_false hfg,Bool.false_and] at hK
   simp [hfg]
   exact endK hK [] (by simp)
 subst hfg
 rw [decide_eq_true rfl,Bool.true_and] at hK
 by_cases hl:a.length=b.length
 rotate_left
 · have hne:¬a=b:=fun e=>hl (by rw [e])
   rw [decide_eq_false hne] at hK
   have hl':¬(a.length:Int)=(b.length:Int):=by omega
   simp [hla,hlb,hl,hl']
   exact endK hK [] (by simp)
 simp [hla,hlb,hl]
 refine wZ_loop (α:=Nat) (fun i=>[(5,.int .i64 i),(3,.ptr 2 0 0),(2,.ptr 1 0 0)]) (fun _=>⟨[(1,.cells 2 [[.int .i64 f,.imm A]]),(2,.cells 2 [[.int .i64 f,.imm B]])],3⟩) (fun i=>a.length - i) (fun i=>i≤a.length∧(a.drop i=b.drop i)=(a=b)) 0 [] (by simp [hra,hrb]) (by simp) ?_
 rintro i ⟨hi,hI⟩ N hN
 try simp only at hi hN ⊢
 by_cases hlt:i<a.length
 · have ga:=hga i hlt
   have gb:=hgb i (by omega)
   obtain⟨_,ga2⟩:=getE ga
   obtain⟨_,gb2⟩:=getE gb
   have hw:IntKind.i64.wrap ((i:Int)+1)=(i:Int)+1:=wrap64 (by omega) (by omega)
   have he:=ne_rowL (at' a i) (at' b i)
   have l6a:(rowL (at' a i)).length=6:=rfl
   have l6b:(rowL (at' b i)).length=6:=rfl
   have t6a:(rowL (at' a i)).take 6=rowL (at' a i):=rfl
   have t6b:(rowL (at' b i)).take 6=rowL (at' b i):=rfl
   by_cases hab:at' a i=at' b i
   · have hN':=hN (i+1) []
     rw [hab] at he
     rw [decide_eq_true rfl] at he
     rw [drop_same hlt (by omega) hab] at hI
     rw [hab] at ga ga2
     generalize rowL (at' b i)=rb at *
     simp [hlt,hla,hlb,ga,gb,ga2,gb2,hw,l6b,t6b,he]
     exact hN' _ _ (by omega) ⟨by omega,hI⟩ (by simp [hra,hrb])
   · rw [decide_eq_false hab] at he
     have hne:¬a=b:=by
      rw [← hI]
      exact drop_diff hlt (by omega) hab
     rw [decide_eq_false hne] at hK
     generalize rowL (at' a i)=ra at *
     generalize rowL (at' b i)=rb at *
     simp [hlt,hla,hlb,ga,gb,ga2,gb2,hw,l6a,l6b,t6a,t6b,he]
     exact endK hK [] (by simp)
 · have hie:i=a.length:=by omega
   have hyes:a=b:=by
    rw [← hI,List.drop_eq_nil_of_le (by omega),List.drop_eq_nil_of_le (by omega)]
   rw [decide_eq_true hyes] at hK
   simp [hlt,hla]
   exact endK hK [] (by simp)
end Go.Known
end
