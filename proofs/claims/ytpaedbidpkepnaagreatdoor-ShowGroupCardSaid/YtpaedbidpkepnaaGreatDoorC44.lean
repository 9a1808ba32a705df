/- Part 44 of the proof: Sf, Sg, Sh. -/
import Derived.Test.YtpaedbidpkepnaaGreatDoorC42
import Derived.Test.YtpaedbidpkepnaaGreatDoorC43
set_option linter.all false
section
namespace Go.Known
open Go Go.AE Go.Proofs
open Go.Plain
theorem same_rowL (a b:Lt):sameCells [.int,.int,.int,.int,.int,.bool] (rowL a) (rowL b)=some (decide (a=b)):=by
 obtain⟨a1,a2,a3,a4,a5,a6⟩:=a
 obtain⟨b1,b2,b3,b4,b5,b6⟩:=b
 simp only [rowL,sameCells,keyEq,if_true,Lt.mk.injEq]
 by_cases h1:a1=b1
 · by_cases h2:a2=b2
   · by_cases h3:a3=b3
     · by_cases h4:a4=b4
       · by_cases h5:a5=b5
         · by_cases h6:a6=b6
           · simp [h1,h2,h3,h4,h5,h6]
           · simp [h1,h2,h3,h4,h5,h6,beq_false_of_ne h6]
         · simp [h1,h2,h3,h4,h5,beq_false_of_ne h5]
       · simp [h1,h2,h3,h4,beq_false_of_ne h4]
     · simp [h1,h2,h3,beq_false_of_ne h3]
   · simp [h1,h2,beq_false_of_ne h2]
 · simp [h1,beq_false_of_ne h1]
theorem eq_rowL (a b:Lt):binA .eql (.flat [.int,.int,.int,.int,.int,.bool]) (.agg (rowL a)) (.agg (rowL b))=some (.bool (decide (a=b))):=by
 simp only [binA,eqA,same_rowL]
theorem ne_rowL (a b:Lt):binA .neq (.flat [.int,.int,.int,.int,.int,.bool]) (.agg (rowL a)) (.agg (rowL b))=some (.bool (!decide (a=b))):=by
 simp only [binA,eqA,same_rowL]
set_option maxHeartbeats 4000000 in
theorem c170 (a b:Lt):PCall Tryz.prog 147 [.agg (rowL a),.agg (rowL b)] (.bool (ltL a b)):=by
 refine PCall_1 hm Tryz.func147 cf170 rfl rfl (by simp [closedL,AVal.closed,rowL]) trivial fun K hK=>?_
 unfold ltL at hK
 by_cases h1:a.k=b.k
 rotate_left
 · simp only [h1,ne_eq,not_false_eq_true,if_true] at hK
   simp [rowL,h1]
   exact endK hK [] (by simp)
 by_cases h2:a.g=b.g
 rotate_left
 · simp only [h1,h2,ne_eq,not_false_eq_true,not_true_eq_false,if_true,if_false] at hK
   simp [rowL,h1,h2]
   exact endK hK [] (by simp)
 by_cases h3:a.r=b.r
 rotate_left
 · simp only [h1,h2,h3,ne_eq,not_false_eq_true,not_true_eq_false,if_true,if_false] at hK
   simp [rowL,h1,h2,h3]
   exact endK hK [] (by simp)
 by_cases h4:a.i=b.i
 rotate_left
 · simp only [h1,h2,h3,h4,ne_eq,not_false_eq_true,not_true_eq_false,if_true,if_false] at hK
   simp [rowL,h1,h2,h3,h4]
   exact endK hK [] (by simp)
 by_cases h5:a.o=b.o
 rotate_left
 · simp only [h1,h2,h3,h4,h5,ne_eq,not_false_eq_true,not_true_eq_false,if_true,if_false] at hK
   simp [rowL,h1,h2,h3,h4,h5,beq_false_of_ne h5]
   exact endK hK [] (by simp)
 simp only [h1,h2,h3,h4,h5,ne_eq,not_false_eq_true,not_true_eq_false,if_true,if_false] at hK
 simp [rowL,h1,h2,h3,h4,h5]
 exact endK hK [] (by simp)
theorem get_row (ls:List Lt) {i:Nat} (h:i<ls.length):(ls.map rowL)[i]? = some (rowL (at' ls i)):=by
 rw [List.getElem?_map,List.getElem?_eq_getElem h,at',List.getD,List.getElem?_eq_getElem h]
 rfl
set_option maxRecDepth 100000 in
set_option maxHeartbeats 4000000 in
theorem c141 (a b:List Lt) (h:a.length≤b.length) (hb:b.length≤1000):PCall Tryz.prog 122 [.imm (a.map rowL),.imm (b.map rowL)] (.bool (ltLs a b)):=by
 refine PCall_1 hm Tryz.func122 cf141 rfl rfl (by simp [closedL,AVal.closed,closed_rows]) trivial fun K hK=>?_
 have hra:∀ q,renLL q (a.map rowL)=a.map rowL:=fun q=>renLL_closed q _ (closed_rows a)
 have hrb:∀ q,renLL q (b.map rowL)=b.map rowL:=fun q=>renLL_closed q _ (closed_rows b)
 have hla:(a.map rowL).length=a.length:=List.length_map ..
 have hlb:(b.map rowL).length=b.length:=List.length_map ..
 have hga:=fun i hi=>get_row a (i:=i) hi
 have hgb:=fun i hi=>get_row b (i:=i) hi
 generalize a.map rowL=A at *
 generalize b.map rowL=B at *
 simp
 refine wZ_loop (α:=Nat) (fun i=>[(8,.int .i64 i),(7,.int .i64 a.length),(1,.imm B),(0,.imm A)]) (fun _=>⟨[],1⟩) (fun i=>a.length - i) (fun i=>i≤a.length∧ltLs (a.drop i) (b.drop i)=ltLs a b) 0 [] (by simp [hra,hrb,hla]) (by simp) ?_
 rintro i ⟨hi,hI⟩ N hN
 try simp only at hi hN ⊢
 by_cases hlt:i<a.length
 · have ga:=hga i hlt
   have gb:=hgb i (by omega)
   obtain⟨_,ga2⟩:=getE ga
   obtain⟨_,gb2⟩:=getE gb
   have hw:IntKind.i64.wrap ((i:Int)+1)=(i:Int)+1:=wrap64 (by omega) (by omega)
   have he:=eq_rowL (at' a i) (at' b i)
   have h170:=c170 (at' a i) (at' b i)
   have l6a:(rowL (at' a i)).length=6:=rfl
   have l6b:(rowL (at' b i)).length=6:=rfl
   have t6a:(rowL (at' a i)).take 6=rowL (at' a i):=rfl
   have t6b:(rowL (at' b i)).take 6=rowL (at' b i):=rfl
   by_cases hab:at' a i=at' b i
   · have hN':=hN (i+1) []
     rw [hab] at he
     rw [decide_eq_true rfl] at he
     have hs:=ltLs_same hlt (by omega:i<b.length) hab
     rw [hs] at hI
     rw [hab] at ga ga2
     generalize rowL (at' b i)=rb at *
     simp [hlt,ga,gb,ga2,gb2,hw,l6b,t6b,he]
     exact hN' _ _ (by omega) ⟨by omega,hI⟩ (by simp [hra,hrb])
   · rw [decide_eq_false hab] at he
     rw [ltLs_diff hlt (by omega) hab] at hI
     rw [← hI] at hK
     generalize rowL (at' a i)=ra at *
     generalize rowL (at' b i)=rb at *
     simp [hlt,ga,gb,ga2,gb2,hw,l6a,l6b,t6a,t6b,he]
     refine DC_pure h170 ?_
     simp
     exact endK hK [] (by simp)
 · rw [ltLs_end (by omega)] at hI
   rw [← hI] at hK
   simp [hlt]
   exact endK hK [] (by simp)
theorem drop_same {a b:List Lt} {i:Nat} (ha:i<a.length) (hb:i<b.length) (h:at' a i=at' b i):(a.drop i=b.drop i)=(a.drop (i+1)=b.drop (i+1)):=by
 rw [List.drop_eq_getElem_cons ha,List.drop_eq_getElem_cons hb]
 have e:a[i]=b[i]:=by simpa [at',List.getD,ha,hb] using h
 rw [e]
 simp only [List.cons.injEq,true_and]
theorem drop_diff {a b:List Lt} {i:Nat} (ha:i<a.length) (hb:i<b.length) (h:at' a i≠at' b i):¬a.drop i=b.drop i:=by
 rw [List.drop_eq_getElem_cons ha,List.drop_eq_getElem_cons hb]
 have e1:at' a i=a[i]:=by simp [at',List.getD,ha]
 have e2:at' b i=b[i]:=by simp [at',List.getD,hb]
 rw [e1,e2] at h
 intro e
 injection e with e3 _
 exact h e3
set_option maxRecDepth 100000 in
set_option maxHeartbeats 4000000 in
theorem c65 (a b:List Lt) (ha:a.length≤1000) (hb:b.length≤1000):PCall Tryz.prog 48 [.imm (a.map rowL),.imm (b.map rowL)] (.bool (decide (a=b))):=by
 refine PCall_1 hm Tryz.func48 cf65 rfl rfl (by simp [closedL,AVal.closed,closed_rows]) trivial fun K hK=>?_
 have hra:∀ q,renLL q (a.map rowL)=a.map rowL:=fun q=>renLL_closed q _ (closed_rows a)
 have hrb:∀ q,renLL q (b.map rowL)=b.map rowL:=fun q=>renLL_closed q _ (closed_rows b)
 have hla:(a.map rowL).length=a.length:=List.length_map ..
 have hlb:(b.map rowL).length=b.length:=List.length_map ..
 have hga:=fun i hi=>get_row a (i:=i) hi
 have hgb:=fun i hi=>get_row b (i:=i) hi
 generalize a.map rowL=A at *
 generalize b.map rowL=B at *
 by_cases hl:a.length=b.length
 rotate_left
 · have hne:¬a=b:=fun e=>hl (by rw [e])
   rw [decide_eq_false hne] at hK
   have hl':¬(a.length:Int)=(b.length:Int):=by omega
   simp [hla,hlb,hl,hl']
   exact endK hK [] (by simp)
 simp [hla,hlb,hl]
 refine wZ_loop (α:=Nat) (fun i=>[(13,.int .i64 i),(12,.int .i64 a.length),(1,.imm B),(0,.imm A)]) (fun _=>⟨[],1⟩) (fun i=>a.length - i) (fun i=>i≤a.length∧(a.drop i=b.drop i)=(a=b)) 0 [] (by simp [hra,hrb,hla,hl]) (by simp) ?_
 rintro i ⟨hi,hI⟩ N hN
 try simp only at hi hN ⊢
 by_cases hlt:i<a.length
 · have ga:=hga i hlt
   have gb:=hgb i (by omega)
   obtain⟨_,ga2⟩:=getE ga
   obtain⟨_,gb2⟩:=getE gb
   have hw:IntKind.i64.wrap ((i:Int)+1)=(i:Int)+1:=wrap64 (by omega) (by omega)
   have he:=ne_rowL (at' a i) (at' b i)
   have l6a:(rowL (at' a i)).length=6:=rfl
   have l6b:(rowL (at' b i)).length=6:=rfl
   have t6a:(rowL (at' a i)).take 6=rowL (at' a i):=rfl
   have t6b:(rowL (at' b i)).take 6=rowL (at' b i):=rfl
   by_cases hab:at' a i=at' b i
   · have hN':=hN (i+1) []
     rw [hab] at he
     rw [decide_eq_true rfl] at he
     rw [drop_same hlt (by omega) hab] at hI
     rw [hab] at ga ga2
     generalize rowL (at' b i)=rb at *
     simp [hlt,ga,gb,ga2,gb2,hw,l6b,t6b,he]
     exact hN' _ _ (by omega) ⟨by omega,hI⟩ (by simp [hra,hrb])
   · rw [decide_eq_false hab] at he
     have hne:¬a=b:=by
      rw [← hI]
      exact drop_diff hlt (by omega) hab
     rw [decide_eq_false hne] at hK
     generalize rowL (at' a i)=ra at *
     generalize rowL (at' b i)=rb at *
     simp [hlt,ga,gb,ga2,gb2,hw,l6a,l6b,t6a,t6b,he]
     exact endK hK [] (by simp)
 · have hie:i=a.length:=by omega
   have hyes:a=b:=by
    rw [← hI,List.drop_eq_nil_of_le (by omega),List.drop_eq_nil_of_le (by omega)]
   rw [decide_eq_true hyes] at hK
   simp [hlt]
   exact endK hK [] (by simp)
end Go.Known
end
section
namespace Go.Known
open Go Go.AE Go.Proofs
open Go.Plain
set_option maxHeartbeats 4000000 in
theorem c56g (ls:List Lt) (a:Nat) (ha:a<ls.length) (hl:ls.length≤1000):PCall Tryz.prog 53 [.imm (ls.map rowL),.int .i64 a] (.imm ((rotL a ls).map rowL)):=by
 refine PCall_F hm 4 Tryz.func53 cf56 rfl rfl (by simp [closedL,AVal.closed,closed_rows]) (by simp [AVal.closed,closed_rows]) fun K hK=>?_
 have hlR:((rotL a ls).map rowL).length=ls.length:=by rw [List.length_map,rotL_length]
 have hKv:=hK (.sl 1 0 ls.length) ⟨[(1,.cells 6 ((rotL a ls).map rowL))],2⟩ (by
  have:=freeze_rows (n:=3) (get:=SMem.get ⟨[(1,.cells 6 ((rotL a ls).map rowL))],2⟩) (b:=1) (k:=6) (rows:=(rotL a ls).map rowL) (by simp) (scal_rows _)
  rw [hlR] at this
  exact this)
 clear hK
 have hrr:∀ q,renLL q ((rotL a ls).map rowL)=(rotL a ls).map rowL:=fun q=>renLL_closed q _ (closed_rows _)
 have hrD:∀ q,renLL q ((ls.map rowL).drop a)=(ls.map rowL).drop a:=fun q=>by rw [← List.map_drop]; exact renLL_closed q _ (closed_rows _)
 have hrs:∀ q,renLL q (ls.map rowL)=ls.map rowL:=fun q=>renLL_closed q _ (closed_rows _)
 have e0:(rotL a ls).map rowL=(ls.map rowL).drop a++(ls.map rowL).take a:=by unfold rotL; rw [List.map_append,List.map_drop,List.map_take]
 rw [e0] at hKv hrr
 have h6:=rows6 ls
 have h6d:(((ls.map rowL).drop a).all fun x=>x.length == 6)=true:=by rw [← List.map_drop]; exact rows6 _
 have h6t:(((ls.map rowL).take a).all fun x=>x.length == 6)=true:=by rw [← List.map_take]; exact rows6 _
 have hlen:(ls.map rowL).length=ls.length:=List.length_map ..
 have hdn:¬(ls.map rowL).drop a=[]:=by
  intro e
  have:=congrArg List.length e
  simp at this
  omega
 have hdl:((ls.map rowL).drop a).length=ls.length - a:=by simp
 have htl:((ls.map rowL).take a).length=a:=by simp; omega
 generalize ls.map rowL=rows at *
 have b1:a≤ls.length:=by omega
 have b2:ls.length - a≤1048576:=by omega
 have b3:¬(ls.length - a=0):=by omega
 have b4:ls.length - a+a=ls.length:=by omega
 have b5:ls.length≤1048576:=by omega
 have hrt:rows.take ls.length=rows:=List.take_of_length_le (by omega)
 generalize hD:rows.drop a=D at *
 generalize hT:rows.take a=T at *
 rcases Nat.eq_zero_or_pos a with h0 | h0
 · subst h0
   have hT0:T=[]:=List.length_eq_zero_iff.1 htl
   subst hT0
   have hD0:D=rows:=by rw [← hD]; rfl
   subst hD0
   have hdr:D.drop ls.length=[]:=List.drop_eq_nil_of_le (by omega)
   simp [hlen,sr_imm,h6,hdn,b5,appendRowsD,hrt,hdr]
   simp at hKv
   exact endK hKv [(1,5)] (by simp [hrs])
 · have b6:¬ls.length≤ls.length - a:=by omega
   have b7:¬ls.length - a+a≤ls.length - a:=by omega
   have hDt:D.take (ls.length - a)=D:=List.take_of_length_le (by omega)
   simp [hlen,sr_imm,h6,h6d,h6t,hdn,b1,b2,b5,appendRowsD,hrt,hD,hT,hdl,htl,b4,b6,b7,hDt]
   exact endK hKv [(1,9)] (by simp [hrr])
def mpE:Nat→List Int→List (AVal×AVal×Nat)
 | _,[]=>[]
 | j,x :: r=>(.int .i64 x,.int .i64 (j+1:Nat),j) :: mpE (j+1) r
theorem mpE_length:∀ (j:Nat) (E:List Int),(mpE j E).length=E.length
 | _,[]=>rfl
 | j,x :: r=>by simp only [mpE,List.length_cons,mpE_length (j+1) r]
theorem ren_mpE (q:Nat→Nat):∀ (j:Nat) (E:List Int),renM q (mpE j E)=mpE j E
 | _,[]=>rfl
 | j,x :: r=>by
  have:=ren_mpE q (j+1) r
  simp only [renM,mpE,List.map_cons,AVal.ren] at *
  rw [this]
theorem find_mpE (id:Int):∀ (j:Nat) (E:List Int),findA .int (.int .i64 id) (mpE j E)=some (if idx1 id E=0 then none else some (idx1 id E - 1,.int .i64 (j+idx1 id E:Nat),j+(idx1 id E - 1)))
 | _,[]=>rfl
 | j,x :: r=>by
  simp only [mpE,findA,keyEq,if_true,idx1]
  by_cases h:id=x
  · subst h; simp
  · have hb:(id == x)=false:=by simpa using h
    simp only [hb,if_neg h]
    rw [find_mpE id (j+1) r]
    by_cases h0:idx1 id r=0
    · simp [h0]
    · have e:j+1+idx1 id r=j+(idx1 id r+1):=by omega
      have e2:idx1 id r - 1+1=idx1 id r:=by omega
      have e3:j+1+(idx1 id r - 1)=j+idx1 id r:=by omega
      simp [h0,e,e2,e3]
theorem mpE_snoc (x:Int):∀ (j:Nat) (E:List Int),mpE j E++[(.int .i64 x,.int .i64 (j+E.length+1:Nat),j+E.length)]=mpE j (E++[x])
 | _,[]=>rfl
 | j,y :: r=>by
  simp only [mpE,List.cons_append,List.length_cons]
  have:=mpE_snoc x (j+1) r
  rw [show j+1+r.length=j+(r.length+1) by omega] at this
  rw [this]
def mixL (ns ls:List Lt) (i:Nat):List Lt:=ns.take i++ls.drop i
theorem mixL_zero (ns ls:List Lt):mixL ns ls 0=ls:=by simp [mixL]
theorem mixL_all {ns ls:List Lt} (h:ns.length=ls.length):mixL ns ls ls.length=ns:=by simp [mixL,← h]
theorem mixL_len {ns ls:List Lt} (h:ns.length=ls.length) (i:Nat):(mixL ns ls i).length=ls.length:=by simp [mixL]; omega
theorem mixL_get {ns ls:List Lt} (h:ns.length=ls.length) {i:Nat} (hi:i<ls.length):((mixL ns ls i).map rowL)[i]? = some (rowL (at' ls i)):=by
 unfold mixL
 rw [List.getElem?_map,List.getElem?_append_right (by simp; omega),List.length_take,Nat.min_eq_left (by omega),Nat.sub_self,List.getElem?_drop,Nat.add_zero,List.getElem?_eq_getElem hi,at',List.getD,List.getElem?_eq_getElem hi]
 rfl
theorem mixL_set {ns ls:List Lt} (h:ns.length=ls.length) {i:Nat} (hi:i<ls.length):((mixL ns ls i).map rowL).set i (rowL (at' ns i))=(mixL ns ls (i+1)).map rowL:=by
 have e:ls.drop i=at' ls i :: ls.drop (i+1):=by
  rw [List.drop_eq_getElem_cons hi,at',List.getD,List.getElem?_eq_getElem hi]
  rfl
 have hi':i<ns.length:=by omega
 have e2:ns.take (i+1)=ns.take i++[at' ns i]:=by
  rw [List.take_add_one,List.getElem?_eq_getElem hi',at',List.getD,List.getElem?_eq_getElem hi']
  rfl
 unfold mixL
 rw [e,e2,List.map_append,List.map_append,List.set_append_right _ _ (by simp; omega)]
 simp only [List.map_append,List.map_cons,List.map_nil,List.length_map,List.length_take,Nat.min_eq_left (Nat.le_of_lt hi'),Nat.sub_self,List.set_cons_zero,List.append_assoc,List.cons_append,List.nil_append]
theorem mixL_same {ns ls:List Lt} (h:ns.length=ls.length) {i:Nat} (hi:i<ls.length) (hg:at' ns i=at' ls i):(mixL ns ls (i+1)).map rowL=(mixL ns ls i).map rowL:=by
 rw [← mixL_set h hi,hg]
 have h:=mixL_get h hi
 generalize (mixL ns ls i).map rowL=M at *
 obtain⟨hl,h2⟩:=getE h
 rw [← h2,List.set_getElem_self]
set_option maxRecDepth 100000 in
set_option maxHeartbeats 8000000 in
theorem c140 (ls:List Lt) (h0:ls≠[]) (h:ls.length≤1000):PCall Tryz.prog 121 [.imm (ls.map rowL)] (.imm ((renN ls).map rowL)):=by
 refine PCall_F hm 4 Tryz.func121 cf140 rfl rfl (by simp [closedL,AVal.closed,closed_rows]) (by simp [AVal.closed,closed_rows]) fun K hK=>?_
 have hnl:=renN_length ls
 have hKv:=hK (.sl 1 0 ls.length) ⟨[(1,.cells 6 ((renN ls).map rowL))],2⟩ (by
  have:=freeze_rows (n:=3) (get:=SMem.get ⟨[(1,.cells 6 ((renN ls).map rowL))],2⟩) (b:=1) (k:=6) (rows:=(renN ls).map rowL) (by simp) (scal_rows _)
  rw [List.length_map,hnl] at this
  exact this)
 clear hK
 have hlp:0<ls.length:=List.length_pos_iff.2 h0
 have h31:=c31s (ls.map rowL) (by simpa using h0) (by simpa using h) (rows6 ls) (closed_rows ls)
 have hMg:=fun i hi=>mixL_get hnl (i:=i) hi
 have hMs:=fun i hi=>mixL_set hnl (i:=i) hi
 have hMe:=fun i hi hg=>mixL_same hnl (i:=i) hi hg
 have hMl:∀ i,((mixL (renN ls) ls i).map rowL).length=ls.length:=fun i=>by rw [List.length_map,mixL_len hnl]
 have hMc:∀ i q,renLL q ((mixL (renN ls) ls i).map rowL)=(mixL (renN ls) ls i).map rowL:=fun i q=>renLL_closed q _ (closed_rows _)
 have hM0:(mixL (renN ls) ls 0).map rowL=ls.map rowL:=by rw [mixL_zero]
 have hMn:(mixL (renN ls) ls ls.length).map rowL=(renN ls).map rowL:=by rw [mixL_all hnl]
 rw [← hMn] at hKv
 have hlen:(ls.map rowL).length=ls.length:=List.length_map ..
 have hrr:∀ q,renLL q (ls.map rowL)=ls.map rowL:=fun q=>renLL_closed q _ (closed_rows ls)
 obtain⟨M,hM⟩:∃ M:Nat→List (List AVal),(fun i=>(mixL (renN ls) ls i).map rowL)=M:=⟨_,rfl⟩
 have hMi:∀ i,(mixL (renN ls) ls i).map rowL=M i:=fun i=>by rw [← hM]
 simp only [hMi] at hMg hMs hMe hMl hMc hM0 hMn hKv
 clear hM hMi
 generalize ls.map rowL=rows at *
 simp
 refine SC_ctr h31 [] (by simp [hrr]) (by simp) (by simp) ?_
 rintro r sm ⟨rfl,rfl⟩
 simp [hrr,hlen]
 refine wZ_loop (α:=Nat) (fun i=>[(12,.int .i64 i),(11,.int .i64 ls.length),(10,.sl 2 0 ls.length),(4,.sl 2 0 ls.length),(3,.map 1)])
  (fun i=>⟨[(2,.cells 6 (M i)),(1,.map (mpE 0 (mets ls i)) (mets ls i).length)],3⟩) (fun i=>ls.length - i) (fun i=>i≤ls.length) 0 [(1,2),(2,7)] (by simp [hrr,hM0,mets,mpE,renM]) (by simp) ?_
 intro i hi N hN
 try simp only at hi hN ⊢
 by_cases hlt:i<ls.length
 · have hg:=hMg i hlt
   obtain⟨hgl,hg2⟩:=getE hg
   have hset:=hMs i hlt
   have hw:IntKind.i64.wrap ((i:Int)+1)=(i:Int)+1:=wrap64 (by omega) (by omega)
   have hlM:=hMl i
   have hms:=mets_succ hlt
   have hgn:=renN_get hlt
   have hml:=mets_length ls i
   rw [hgn] at hset
   by_cases hk:(at' ls i).k=2
   · have hfi:=find_mpE (at' ls i).i 0 (mets ls i)
     by_cases hx:idx1 (at' ls i).i (mets ls i)=0
     · have hm1:metS (mets ls i) (at' ls i)=mets ls i++[(at' ls i).i]:=by unfold metS; rw [if_pos ⟨hk,hx⟩]
       have hnw:=idx1_new hx
       have hre:renS (mets ls i) (at' ls i)={ at' ls i with i:=((mets ls i).length+1:Nat) }:=by unfold renS; rw [if_pos hk,hm1,hnw]
       have hfi2:=find_mpE (at' ls i).i 0 (mets ls i++[(at' ls i).i])
       have hsn:=mpE_snoc (at' ls i).i 0 (mets ls i)
       rw [hnw,if_neg (by omega)] at hfi2
       rw [if_pos hx] at hfi
       rw [hm1] at hms
       rw [hre] at hset
       rw [← hms] at hfi2 hsn
       have hmle:(mets ls (i+1)).length=(mets ls i).length+1:=by rw [hms]; simp
       have hN':=hN (i+1)
       rw [hmle] at hN'
       have hmpl:=mpE_length 0 (mets ls i)
       have hwm:IntKind.i64.wrap (((mets ls i).length:Int)+1)=((mets ls i).length:Int)+1:=wrap64 (by omega) (by omega)
       have hrm:=fun q=>ren_mpE q 0 (mets ls (i+1))
       generalize mpE 0 (mets ls (i+1))=E1 at *
       generalize mpE 0 (mets ls i)=E0 at *
       generalize (mets ls i).length=ml at *
       simp only [rowL,hk] at hset
       simp [hlt,hg,hg2,hlM,rowL,hk,hw,hfi,hmpl,hwm]
       simp at hsn hfi2 hset
       rw [hsn]
       simp [hfi2,hlt,hg,hg2,hlM,rowL,hk,hw]
       exact hN' [] _ _ (by omega) (by omega) (by simp [hrr,hMc,hset,hrm])
     · have hm1:metS (mets ls i) (at' ls i)=mets ls i:=by unfold metS; rw [if_neg (fun e=>hx e.2)]
       have hre:renS (mets ls i) (at' ls i)={ at' ls i with i:=(idx1 (at' ls i).i (mets ls i):Nat) }:=by unfold renS; rw [if_pos hk,hm1]
       rw [if_neg hx] at hfi
       rw [hm1] at hms
       rw [hre] at hset
       have hN':=hN (i+1)
       rw [hms] at hN'
       have hrm:=fun q=>ren_mpE q 0 (mets ls i)
       generalize mpE 0 (mets ls i)=E0 at *
       generalize idx1 (at' ls i).i (mets ls i)=jx at *
       have hx':¬(jx:Int)=0:=by omega
       simp only [rowL,hk] at hset
       simp at hfi hset
       simp [hlt,hg,hg2,hlM,rowL,hk,hw,hfi,hx,hx']
       exact hN' [] _ _ (by omega) (by omega) (by simp [hrr,hMc,hset,hrm])
   · have hm1:metS (mets ls i) (at' ls i)=mets ls i:=by unfold metS; rw [if_neg (fun e=>hk e.1)]
     have hre:renS (mets ls i) (at' ls i)=at' ls i:=by unfold renS; rw [if_neg hk]
     rw [hm1] at hms
     have hsame:=hMe i hlt (by rw [hgn,hre])
     have hN':=hN (i+1)
     rw [hms,hsame] at hN'
     have hrm:=fun q=>ren_mpE q 0 (mets ls i)
     generalize mpE 0 (mets ls i)=E0 at *
     simp [hlt,hg,hg2,hlM,rowL,hk,hw]
     exact hN' [] _ _ (by omega) (by omega) (by simp [hrr,hMc,hrm])
 · have hie:i=ls.length:=by omega
   subst hie
   simp [hlt]
   exact endK hKv [(1,2)] (by simp [hrr,hMc])
end Go.Known
end
section
namespace Go.Known
open Go Go.AE Go.Proofs
open Go.Plain
theorem at'_set {Q:List Lt} {i k:Nat} {x:Lt} (hi:i<Q.length):at' (Q.set i x) k=if k=i then x else at' Q k:=by
 unfold at'
 rw [List.getD_eq_getElem?_getD,List.getD_eq_getElem?_getD,List.getElem?_set]
 by_cases h:i=k
 · subst h; simp [hi]
 · rw [if_neg h,if_neg (fun e=>h e.symm)]
theorem at'_rev {ls:List Lt} {k:Nat} (hk:k<ls.length):at' ls.reverse k=at' ls (ls.length - 1 - k):=by
 unfold at'
 rw [List.getD_eq_getElem?_getD,List.getD_eq_getElem?_getD,List.getElem?_reverse hk]
theorem at'_ext {a b:List Lt} (hl:a.length=b.length) (h:∀ k,k<a.length→at' a k=at' b k):a=b:=by
 refine List.ext_getElem hl fun k h1 h2=>?_
 have:=h k h1
 simpa [at',List.getD,h1,h2] using this
theorem set_rowL (Q:List Lt) (i:Nat) (x:Lt):(Q.map rowL).set i (rowL x)=(Q.set i x).map rowL:=(List.map_set).symm
set_option maxHeartbeats 4000000 in
theorem c169 (ls:List Lt) (hl:ls.length≤1000) :
 Ctr Tryz.prog 146 [.sl 1 0 ls.length] ⟨[(1,.cells 6 (ls.map rowL))],2⟩ fun v m=>v=.tuple []∧m=⟨[(1,.cells 6 (ls.reverse.map rowL))],2⟩:=by
 refine ctr_P hm Tryz.func146 cf169 rfl rfl fun K hK=>?_
 have hw1:IntKind.i64.wrap ((ls.length:Int) - 1)=(ls.length:Int) - 1:=wrap64 (by omega) (by omega)
 have hKv:=hK _ _ ⟨rfl,rfl⟩
 clear hK
 have hrr:∀ (Q:List Lt) q,renLL q (Q.map rowL)=Q.map rowL:=fun Q q=>renLL_closed q _ (closed_rows Q)
 obtain⟨n,hn⟩:∃ n,ls.length=n:=⟨_,rfl⟩
 rw [hn] at hw1 hl ⊢
 simp [hw1]
 refine wZ_loop (α:=Nat×List Lt) (fun a=>[(3,.int .i64 ((n:Int) - 1 - (a.1:Nat))),(2,.int .i64 a.1),(0,.sl 1 0 n)]) (fun a=>⟨[(1,.cells 6 (a.2.map rowL))],2⟩) (fun a=>n - a.1)
  (fun a=>a.1≤n∧a.2.length=n ∧ ∀ k,k<n→at' a.2 k=if k<a.1∨n - 1 - a.1<k∧0<a.1 then at' ls (n - 1 - k) else at' ls k) (0,ls) [] (by simp [hrr]) ⟨by simp,hn,by simp⟩ ?_
 rintro⟨i,Q⟩ ⟨hi,hQ,hI⟩ N hN
 simp only at hi hQ hI hN ⊢
 by_cases hlt:(i:Int)<(n:Int) - 1 - i
 · have hj:((n:Int) - 1 - i).toNat=n - 1 - i:=by omega
   have hj0:(i:Int)≤(n:Int) - 1:=by omega
   obtain⟨j,hj2⟩:∃ j,n - 1 - i=j:=⟨_,rfl⟩
   rw [hj2] at hj
   have hil:i<n:=by omega
   have hjl:j<n:=by omega
   have hij:¬i=j:=by omega
   have hpg:=get_row Q (i:=i) (by omega)
   have hqg:=get_row Q (i:=j) (by omega)
   obtain⟨hpl,hpg2⟩:=getE hpg
   obtain⟨hql,hqg2⟩:=getE hqg
   have hw2:IntKind.i64.wrap ((i:Int)+1)=(i:Int)+1:=wrap64 (by omega) (by omega)
   have hw3:IntKind.i64.wrap ((n:Int) - 1 - i - 1)=(n:Int) - 1 - (i+1):=by rw [wrap64 (by omega) (by omega)]; omega
   have hs:=get_row (Q.set i (at' Q j)) (i:=j) (by simp; omega)
   rw [at'_set (by omega),if_neg (fun e=>hij e.symm)] at hs
   have hset1:=set_rowL Q i (at' Q j)
   have hset2:=set_rowL (Q.set i (at' Q j)) j (at' Q i)
   rw [← hset1] at hs hset2
   have hQl:(Q.map rowL).length=n:=by rw [List.length_map,hQ]
   have hN':=hN (i+1,(Q.set i (at' Q j)).set j (at' Q i)) []
   simp only at hN'
   rw [← hset2] at hN'
   have hrq:=hrr ((Q.set i (at' Q j)).set j (at' Q i))
   rw [← hset2] at hrq
   have hfin:∀ k,k<n→at' ((Q.set i (at' Q j)).set j (at' Q i)) k=if k<i+1∨n - 1 - (i+1)<k∧0<i+1 then at' ls (n - 1 - k) else at' ls k:=by
    intro k hk
    rw [at'_set (by simp; omega),at'_set (by omega)]
    by_cases h1:k=j
    · subst h1
      rw [if_pos rfl,if_pos (by omega),hI i (by omega),if_neg (by omega)]
      congr 1
      omega
    · rw [if_neg h1]
      by_cases h2:k=i
      · subst h2
        rw [if_pos rfl,if_pos (by omega),hI j (by omega),if_neg (by omega)]
        congr 1
        omega
      · rw [if_neg h2,hI k hk]
        by_cases h3:k<i∨n - 1 - i<k∧0<i
        · rw [if_pos h3,if_pos (by omega)]
        · rw [if_neg h3,if_neg (by omega)]
   have hQs:((Q.set i (at' Q j)).set j (at' Q i)).length=n:=by simp [hQ]
   generalize (Q.set i (at' Q j)).set j (at' Q i)=Q2 at *
   clear hset1 hset2
   generalize Q.map rowL=M at *
   simp only [rowL] at hs hpg hqg hpg2 hqg2 hN' hrq
   generalize at' Q i=a at *
   generalize at' Q j=b at *
   obtain⟨hsl,hs2⟩:=getE hs
   simp [hlt,hj,hj0,hil,hjl,hpg,hpg2,hqg,hqg2,hw2,hw3,hs,hs2,hQl]
   exact hN' _ _ (by omega) ⟨by omega,hQs,hfin⟩ (by simp [hrq])
 · have hQr:Q=ls.reverse:=by
    refine at'_ext (by simp [hQ,hn]) fun k hk=>?_
    rw [hQ] at hk
    rw [at'_rev (by omega),hn,hI k hk]
    split
    · rfl
    · congr 1
      omega
   rw [← hQr] at hKv
   simp [hlt]
   exact endK hKv [] (by simp [hrr])
theorem c56a (R:List (List AVal)) (a:Nat) (ha:a<R.length) (hl:R.length≤1000) (hc:closedLL R=true) :
 Ctr Tryz.prog 53 [.sl 1 0 R.length,.int .i64 a] ⟨[(1,.cells 6 R)],2⟩ fun v m=>v=.sl 2 0 R.length∧m=⟨[(1,.cells 6 R),(2,.cells 6 (R.drop a++R.take a))],3⟩:=by
 rcases Nat.eq_zero_or_pos a with h0 | h0
 rotate_left
 · exact c56s R a h0 ha hl hc
 subst h0
 refine ctr_P hm Tryz.func53 cf56 rfl rfl fun K hK=>?_
 have hr:∀ q,renLL q R=R:=fun q=>renLL_closed q _ hc
 have hK':=hK _ _ ⟨rfl,rfl⟩
 clear hK
 have e1:R.length≤1048576:=by omega
 have e2:¬(R.length=0):=by omega
 have e3:¬R=[]:=by intro e; subst e; simp at e2
 simp [sr_slO,e1,e2,e3,appendRowsD]
 simp at hK'
 exact endK hK' [(2,6)] (by simp [hr])
set_option maxRecDepth 100000 in
set_option maxHeartbeats 8000000 in
theorem c139 (F:Nat) (ls:List Lt) (E:List Ent) (h:ls.length≤1000) (hx:∃ i,i<ls.length∧bkC ls i=true) :
 Ctr Tryz.prog 120 [.ptr 1 0 0] (dF F ls (ls.map rowL) E) fun v m=>v=.sl 8 0 ls.length∧m=⟨(dF F ls (ls.map rowL) E).bl++[(8,.cells 6 ((backN ls).map rowL))],9⟩:=by
 refine ctr_P hm Tryz.func120 cf139 rfl rfl fun K hK=>?_
 have hK':=hK _ _ ⟨rfl,rfl⟩
 clear hK
 have hlp:0<ls.length:=by obtain⟨i,hi,_⟩:=hx; omega
 have h0:ls≠[]:=List.length_pos_iff.1 hlp
 have h31:=c31s (ls.map rowL) (by simpa using h0) (by simpa using h) (rows6 ls) (closed_rows ls)
 have h169:=c169 ls h
 have hrl:(ls.reverse.map rowL).length=ls.length:=by simp
 have h56:=fun a (ha:a<ls.length)=>c56a (ls.reverse.map rowL) a (by rw [hrl]; exact ha) (by rw [hrl]; exact h) (closed_rows _)
 have hrot:∀ a,(ls.reverse.map rowL).drop a++(ls.reverse.map rowL).take a=(rotL a ls.reverse).map rowL:=fun a=>by unfold rotL; rw [List.map_append,List.map_drop,List.map_take]
 rw [hrl] at h56
 have hbk:=fun i hi hp hn=>back_at (ls:=ls) (i:=i) hi hp hn
 have hBc:∀ q,renLL q ((backN ls).map rowL)=(backN ls).map rowL:=fun q=>renLL_closed q _ (closed_rows _)
 have hrr:∀ q,renLL q (ls.map rowL)=ls.map rowL:=fun q=>renLL_closed q _ (closed_rows ls)
 have hrv:∀ q,renLL q (ls.reverse.map rowL)=ls.reverse.map rowL:=fun q=>renLL_closed q _ (closed_rows _)
 have hlen:(ls.map rowL).length=ls.length:=List.length_map ..
 have hRg:=fun i hi=>get_row ls.reverse (i:=i) hi
 simp only [List.length_reverse] at hRg
 unfold dF dM dV2 at *
 generalize ls.map rowL=rows at *
 generalize ls.reverse.map rowL=rev at *
 have hBg:∀ v,v<ls.length→(bls (fillN ls.length ls.length (downV ls) false))[v]? = some [.bool (downV ls v)]:=fun v hv=>bls_get (by rw [fillN_get hv,if_pos hv])
 have hBl:(bls (fillN ls.length ls.length (downV ls) false)).length=ls.length:=by rw [bls,List.length_map,fillN_length]
 generalize hBe:bls (fillN ls.length ls.length (downV ls) false)=B at *
 generalize hCe:nums (fillN ls.length ls.length (placeV ls) 0)=C at *
 generalize hAe:nums (axis ls)=A at *
 have hrA:∀ q,renLL q A=A:=fun q=>by rw [← hAe]; exact ren_nums q _
 have hrB:∀ q,renLL q B=B:=fun q=>by rw [← hBe]; exact ren_bls q _
 have hrC:∀ q,renLL q C=C:=fun q=>by rw [← hCe]; exact ren_nums q _
 clear hBe hCe hAe
 generalize (axis ls).length=m at *
 have hw0:IntKind.i64.wrap ((ls.length:Int) - 1)=(ls.length:Int) - 1:=wrap64 (by omega) (by omega)
 simp
 refine SC_ctr h31 [] (by simp [hrr]) (by simp) (by simp) ?_
 rintro r sm ⟨rfl,rfl⟩
 simp [hrr,hlen]
 refine SC_ctr h169 [(1,15)] (by simp) (by simp [hrr]) (by simp) ?_
 rintro r sm ⟨rfl,rfl⟩
 simp [hrr,hrv,hlen]
 refine wZ_loop (α:=Nat) (fun i=>[(16,.int .i64 i),(15,.int .i64 ls.length),(3,.sl 7 0 ls.length),(0,.ptr 1 0 0)])
  (fun i=>⟨[(1,.cells 7 [[.int .i64 (F:Int),.imm rows,.sl 3 0 ls.length,.sl 5 0 m,.sl 4 0 ls.length,.map 6,.sl 2 0 (F+1)]]),(2,.cells 1 (nums (cnts F ls))),(3,.cells 1 B),(4,.cells 1 C),(5,.cells 1 A),(6,.map (mkE 0 E) E.length),(7,.cells 6 rev)],8⟩)
  (fun i=>ls.length - i) (fun i=>i≤ls.length ∧ ∀ j,j<i→bkC ls j=false) 0 [(7,15)] (by simp [hrr,hrA,hrB,hrC,ren_mkE,ren_nums,hrv]) (by simp) ?_
 rintro i ⟨hi,hI⟩ N hN
 try simp only at hi hI hN ⊢
 by_cases hlt:i<ls.length
 · have hg:=hRg i hlt
   obtain⟨hgl,hg2⟩:=getE hg
   have hw:IntKind.i64.wrap ((i:Int)+1)=(i:Int)+1:=wrap64 (by omega) (by omega)
   obtain⟨j,hj⟩:∃ j,ls.length - 1 - i=j:=⟨_,rfl⟩
   have hjl:j<ls.length:=by omega
   have hwj:IntKind.i64.wrap ((ls.length:Int) - 1 - (i:Int))=(j:Int):=by rw [wrap64 (by omega) (by omega)]; omega
   have hb:=hBg j hjl
   obtain⟨hbl,hb2⟩:=getE hb
   have hkr:=at'_rev hlt
   rw [hj] at hkr
   have hbd:bkC ls i=(isP (at' ls.reverse i) && !down ls j):=by unfold bkC; rw [hj]
   have hN':=hN (i+1) []
   by_cases hk:(at' ls.reverse i).k=1
   · have hP:isP (at' ls.reverse i)=true:=by simp [isP,hk]
     have hdv:downV ls j=down ls j:=by unfold downV; rw [← hkr,hP]; rfl
     rw [hdv] at hb hb2
     rw [hP] at hbd
     cases hd:down ls j with
     | true=>
      rw [hd] at hb hb2 hbd
      simp at hbd
      simp [hlt,hg,hg2,rowL,hk,hw,hw0,hwj,hb,hb2,hBl,hjl]
      exact hN' _ _ (by omega) ⟨by omega,fun k hk2=>by
       rcases Nat.lt_succ_iff_lt_or_eq.1 hk2 with h1 | h1
       · exact hI k h1
       · rw [h1]; exact hbd⟩ (by simp [hrr,hrA,hrB,hrC,ren_mkE,ren_nums,hrv])
     | false=>
      rw [hd] at hb hb2 hbd
      simp at hbd
      have hbk':=hbk i hlt hbd hI
      have h56':=h56 i hlt
      rw [hrot,← hbk'] at h56'
      simp [hlt,hg,hg2,rowL,hk,hw,hw0,hwj,hb,hb2,hBl,hjl]
      refine SC_ctr h56' [(1,7)] (by simp) (by simp [hrv]) (by simp) ?_
      rintro r sm ⟨rfl,rfl⟩
      simp [hrr,hrA,hrB,hrC,ren_mkE,ren_nums,hrv,hBc]
      exact endK hK' [(8,37)] (by simp [hrr,hrA,hrB,hrC,ren_mkE,ren_nums,hrv,hBc])
   · have hP:isP (at' ls.reverse i)=false:=by simp [isP,hk]
     rw [hP] at hbd
     simp at hbd
     simp [hlt,hg,hg2,rowL,hk,hw,hw0,hwj,hjl]
     exact hN' _ _ (by omega) ⟨by omega,fun k hk2=>by
      rcases Nat.lt_succ_iff_lt_or_eq.1 hk2 with h1 | h1
      · exact hI k h1
      · rw [h1]; exact hbd⟩ (by simp [hrr,hrA,hrB,hrC,ren_mkE,ren_nums,hrv])
 · obtain⟨k,hk1,hk2⟩:=hx
   rw [hI k (by omega)] at hk2
   cases hk2
theorem c139f (F:Nat) (ls:List Lt) (E:List Ent) (h:ls.length≤1000) (hx:∃ i,i<ls.length∧bkC ls i=true) :
 Ctr Tryz.prog 120 [.ptr 1 0 0] (dF F ls (ls.map rowL) E) fun v m=>v=.imm ((backN ls).map rowL)∧m=⟨(dF F ls (ls.map rowL) E).bl,9⟩:=by
 refine(c139 F ls E h hx).freeze fun r sm=>?_
 rintro⟨rfl,rfl⟩
 refine⟨[8],?_,?_⟩
 · exact fzV_sl (k:=6) rfl (by simp [dF,dM,dV2]) (by rw [List.length_map,backN_length]) (scal_rows _)
 · simp [dF,dM,dV2]
theorem ValR.bk {f:Int} {ls:List Lt} (h:ValR f ls) (h0:ls≠[]):∃ i,i<ls.length∧bkC ls i=true:=by
 have hw:=h.wv h0
 obtain⟨i,i1,i2,i3⟩:=up_ex hw.pas h.evn
 refine⟨ls.length - 1 - i,by omega,?_⟩
 have e:ls.length - 1 - (ls.length - 1 - i)=i:=by omega
 unfold bkC
 rw [at'_rev (by omega),e,i2,i3]
 rfl
end Go.Known
end
