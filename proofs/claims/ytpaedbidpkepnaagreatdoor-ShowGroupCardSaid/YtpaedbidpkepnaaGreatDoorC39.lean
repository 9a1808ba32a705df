/- Part 39 of the proof: Rw. -/
import Derived.Test.YtpaedbidpkepnaaGreatDoorC36
import Derived.Test.YtpaedbidpkepnaaGreatDoorC38
set_option linter.all false
namespace Go.Known
open Go Go.AE Go.Proofs
open Go.Plain
def mix (g:Lt→Lt) (i:Nat) (ls:List Lt):List Lt:=(ls.take i).map g++ls.drop i
theorem mix_zero (g:Lt→Lt) (ls:List Lt):mix g 0 ls=ls:=by simp [mix]
theorem mix_all (g:Lt→Lt) (ls:List Lt):mix g ls.length ls=ls.map g:=by simp [mix]
theorem mix_len (g:Lt→Lt) (i:Nat) (ls:List Lt):(mix g i ls).length=ls.length:=by simp [mix]; omega
theorem mix_get {g:Lt→Lt} {i:Nat} {ls:List Lt} (hi:i<ls.length):((mix g i ls).map rowL)[i]? = some (rowL (at' ls i)):=by
 unfold mix
 rw [List.getElem?_map,List.getElem?_append_right (by simp; omega),List.length_map,List.length_take,Nat.min_eq_left (by omega),Nat.sub_self,List.getElem?_drop,Nat.add_zero,List.getElem?_eq_getElem hi,at',List.getD,List.getElem?_eq_getElem hi]
 rfl
theorem mix_set {g:Lt→Lt} {i:Nat} {ls:List Lt} (hi:i<ls.length):((mix g i ls).map rowL).set i (rowL (g (at' ls i)))=(mix g (i+1) ls).map rowL:=by
 have e:ls.drop i=at' ls i :: ls.drop (i+1):=by
  rw [List.drop_eq_getElem_cons hi,at',List.getD,List.getElem?_eq_getElem hi]
  rfl
 have e2:ls.take (i+1)=ls.take i++[at' ls i]:=by
  rw [List.take_add_one,List.getElem?_eq_getElem hi,at',List.getD,List.getElem?_eq_getElem hi]
  rfl
 unfold mix
 rw [e,e2,List.map_append,List.map_append,List.set_append_right _ _ (by simp; omega)]
 simp only [List.map_append,List.map_cons,List.map_nil,List.length_map,List.length_take,Nat.min_eq_left (Nat.le_of_lt hi),Nat.sub_self,List.set_cons_zero,List.append_assoc,List.cons_append,List.nil_append]
theorem mix_same {g:Lt→Lt} {i:Nat} {ls:List Lt} (hi:i<ls.length) (hg:g (at' ls i)=at' ls i):(mix g (i+1) ls).map rowL=(mix g i ls).map rowL:=by
 rw [← mix_set hi,hg]
 have h:=mix_get (g:=g) hi
 generalize (mix g i ls).map rowL=M at *
 obtain⟨hl,h2⟩:=getE h
 rw [← h2,List.set_getElem_self]
theorem rows6 (ls:List Lt):((ls.map rowL).all fun x=>x.length == 6)=true:=by
 rw [List.all_eq_true]
 intro x hx
 obtain⟨l,_,rfl⟩:=List.mem_map.1 hx
 rfl
set_option maxRecDepth 100000 in
set_option maxHeartbeats 8000000 in
theorem c62 (F:Nat) (ls:List Lt) (E:List Ent) (h:ls.length≤1000) (h0:ls≠[]) (hs:∀ l,l∈ls→l.k=2→l.s=1∨l.s = -1) :
 Ctr Tryz.prog 50 [.ptr 1 0 0] (dF F ls (ls.map rowL) E) fun v m=>v=.sl 7 0 ls.length∧m=⟨(dF F ls (ls.map rowL) E).bl++[(7,.cells 6 ((swN ls).map rowL))],8⟩:=by
 refine ctr_P hm Tryz.func50 cf62 rfl rfl fun K hK=>?_
 have hK':=hK _ _ ⟨rfl,rfl⟩
 clear hK
 have hlp:0<ls.length:=List.length_pos_iff.2 h0
 have h31:=c31s (ls.map rowL) (by simpa using h0) (by simpa using h) (rows6 ls) (closed_rows ls)
 have hMg:=fun i hi=>mix_get (g:=swL) (ls:=ls) (i:=i) hi
 have hMs:=fun i hi=>mix_set (g:=swL) (ls:=ls) (i:=i) hi
 have hMe:=fun i hi hg=>mix_same (g:=swL) (ls:=ls) (i:=i) hi hg
 have hMl:∀ i,((mix swL i ls).map rowL).length=ls.length:=fun i=>by rw [List.length_map,mix_len]
 have hMc:∀ i q,renLL q ((mix swL i ls).map rowL)=(mix swL i ls).map rowL:=fun i q=>renLL_closed q _ (closed_rows _)
 have hM0:(mix swL 0 ls).map rowL=ls.map rowL:=by rw [mix_zero]
 have hMn:(mix swL ls.length ls).map rowL=(swN ls).map rowL:=by rw [mix_all]; rfl
 rw [← hMn] at hK'
 have hlen:(ls.map rowL).length=ls.length:=List.length_map ..
 have hrr:∀ q,renLL q (ls.map rowL)=ls.map rowL:=fun q=>renLL_closed q _ (closed_rows ls)
 unfold dF dM dV2 at *
 obtain⟨M,hM⟩:∃ M:Nat→List (List AVal),(fun i=>(mix swL i ls).map rowL)=M:=⟨_,rfl⟩
 have hMi:∀ i,(mix swL i ls).map rowL=M i:=fun i=>by rw [← hM]
 simp only [hMi] at hMg hMs hMe hMl hMc hM0 hMn hK'
 clear hM hMi
 generalize ls.map rowL=rows at *
 generalize hBe:bls (fillN ls.length ls.length (downV ls) false)=B at *
 generalize hCe:nums (fillN ls.length ls.length (placeV ls) 0)=C at *
 generalize hAe:nums (axis ls)=A at *
 have hrA:∀ q,renLL q A=A:=fun q=>by rw [← hAe]; exact ren_nums q _
 have hrB:∀ q,renLL q B=B:=fun q=>by rw [← hBe]; exact ren_bls q _
 have hrC:∀ q,renLL q C=C:=fun q=>by rw [← hCe]; exact ren_nums q _
 clear hBe hCe hAe
 generalize (axis ls).length=m at *
 simp
 refine SC_ctr h31 [] (by simp [hrr]) (by simp) (by simp) ?_
 rintro r sm ⟨rfl,rfl⟩
 simp [hrr,hlen]
 refine wZ_loop (α:=Nat) (fun i=>[(13,.int .i64 i),(12,.int .i64 ls.length),(3,.sl 7 0 ls.length)])
  (fun i=>⟨[(1,.cells 7 [[.int .i64 (F:Int),.imm rows,.sl 3 0 ls.length,.sl 5 0 m,.sl 4 0 ls.length,.map 6,.sl 2 0 (F+1)]]),(2,.cells 1 (nums (cnts F ls))),(3,.cells 1 B),(4,.cells 1 C),(5,.cells 1 A),(6,.map (mkE 0 E) E.length),(7,.cells 6 (M i))],8⟩)
  (fun i=>ls.length - i) (fun i=>i≤ls.length) 0 [(7,15)] (by simp [hrr,hrA,hrB,hrC,ren_mkE,ren_nums,hM0]) (by simp) ?_
 intro i hi N hN
 try simp only at hi hN ⊢
 by_cases hlt:i<ls.length
 · have hg:=hMg i hlt
   obtain⟨hgl,hg2⟩:=getE hg
   have hset:=hMs i hlt
   have hw:IntKind.i64.wrap ((i:Int)+1)=(i:Int)+1:=wrap64 (by omega) (by omega)
   have hlM:=hMl i
   by_cases hk:(at' ls i).k=2
   · have hss:=hs _ (at'_mem hlt) hk
     have hwn:IntKind.i64.wrap (-(at' ls i).s) = -(at' ls i).s:=wrap64 (by omega) (by omega)
     rw [sw_cross hk] at hset
     simp [hlt,hg,hg2,hlM,rowL,hk,hw,hwn]
     simp only [rowL,hk] at hset
     exact hN (i+1) [] _ _ (by omega) (by omega) (by simp [hrr,hrA,hrB,hrC,ren_mkE,ren_nums,hMc,hset])
   · have hsame:=hMe i hlt (by unfold swL; rw [if_neg hk])
     simp [hlt,hg,hg2,hlM,rowL,hk,hw]
     exact hN (i+1) [] _ _ (by omega) (by omega) (by simp [hrr,hrA,hrB,hrC,ren_mkE,ren_nums,hMc,hsame])
 · have hie:i=ls.length:=by omega
   subst hie
   simp [hlt]
   exact endK hK' [] (by simp [hrr,hrA,hrB,hrC,ren_mkE,ren_nums,hMc])
set_option maxRecDepth 100000 in
set_option maxHeartbeats 8000000 in
theorem c63 (F:Nat) (ls:List Lt) (E:List Ent) (h:ls.length≤1000) (h0:ls≠[]) (hF:F≤40) (hs:∀ l,l∈ls → ¬l.k=1→l.s=1∨l.s = -1) (hq:∀ l,l∈ls→l.k=1→0≤l.g∧l.g≤F∧1≤l.r∧l.r≤inG l.g ls) :
 Ctr Tryz.prog 51 [.ptr 1 0 0] (dF F ls (ls.map rowL) E) fun v m=>v=.sl 7 0 ls.length∧m=⟨(dF F ls (ls.map rowL) E).bl++[(7,.cells 6 ((miN F ls).map rowL))],8⟩:=by
 refine ctr_P hm Tryz.func51 cf63 rfl rfl fun K hK=>?_
 have hK':=hK _ _ ⟨rfl,rfl⟩
 clear hK
 have hlp:0<ls.length:=List.length_pos_iff.2 h0
 have h31:=c31s (ls.map rowL) (by simpa using h0) (by simpa using h) (rows6 ls) (closed_rows ls)
 have hMg:=fun i hi=>mix_get (g:=(miL F ls)) (ls:=ls) (i:=i) hi
 have hMs:=fun i hi=>mix_set (g:=(miL F ls)) (ls:=ls) (i:=i) hi
 have hMe:=fun i hi hg=>mix_same (g:=(miL F ls)) (ls:=ls) (i:=i) hi hg
 have hMl:∀ i,((mix (miL F ls) i ls).map rowL).length=ls.length:=fun i=>by rw [List.length_map,mix_len]
 have hMc:∀ i q,renLL q ((mix (miL F ls) i ls).map rowL)=(mix (miL F ls) i ls).map rowL:=fun i q=>renLL_closed q _ (closed_rows _)
 have hM0:(mix (miL F ls) 0 ls).map rowL=ls.map rowL:=by rw [mix_zero]
 have hMn:(mix (miL F ls) ls.length ls).map rowL=(miN F ls).map rowL:=by rw [mix_all]; rfl
 rw [← hMn] at hK'
 have hlen:(ls.map rowL).length=ls.length:=List.length_map ..
 have hrr:∀ q,renLL q (ls.map rowL)=ls.map rowL:=fun q=>renLL_closed q _ (closed_rows ls)
 unfold dF dM dV2 at *
 obtain⟨M,hM⟩:∃ M:Nat→List (List AVal),(fun i=>(mix (miL F ls) i ls).map rowL)=M:=⟨_,rfl⟩
 have hMi:∀ i,(mix (miL F ls) i ls).map rowL=M i:=fun i=>by rw [← hM]
 simp only [hMi] at hMg hMs hMe hMl hMc hM0 hMn hK'
 clear hM hMi
 generalize ls.map rowL=rows at *
 generalize hBe:bls (fillN ls.length ls.length (downV ls) false)=B at *
 generalize hCe:nums (fillN ls.length ls.length (placeV ls) 0)=C at *
 generalize hAe:nums (axis ls)=A at *
 have hrA:∀ q,renLL q A=A:=fun q=>by rw [← hAe]; exact ren_nums q _
 have hrB:∀ q,renLL q B=B:=fun q=>by rw [← hBe]; exact ren_bls q _
 have hrC:∀ q,renLL q C=C:=fun q=>by rw [← hCe]; exact ren_nums q _
 clear hBe hCe hAe
 generalize (axis ls).length=m at *
 simp
 refine SC_ctr h31 [] (by simp [hrr]) (by simp) (by simp) ?_
 rintro r sm ⟨rfl,rfl⟩
 simp [hrr,hlen]
 refine wZ_loop (α:=Nat) (fun i=>[(14,.int .i64 i),(13,.int .i64 ls.length),(12,.sl 7 0 ls.length),(3,.sl 7 0 ls.length),(0,.ptr 1 0 0)])
  (fun i=>⟨[(1,.cells 7 [[.int .i64 (F:Int),.imm rows,.sl 3 0 ls.length,.sl 5 0 m,.sl 4 0 ls.length,.map 6,.sl 2 0 (F+1)]]),(2,.cells 1 (nums (cnts F ls))),(3,.cells 1 B),(4,.cells 1 C),(5,.cells 1 A),(6,.map (mkE 0 E) E.length),(7,.cells 6 (M i))],8⟩)
  (fun i=>ls.length - i) (fun i=>i≤ls.length) 0 [(7,15)] (by simp [hrr,hrA,hrB,hrC,ren_mkE,ren_nums,hM0]) (by simp) ?_
 intro i hi N hN
 try simp only at hi hN ⊢
 by_cases hlt:i<ls.length
 · have hg:=hMg i hlt
   obtain⟨hgl,hg2⟩:=getE hg
   have hset:=hMs i hlt
   have hw:IntKind.i64.wrap ((i:Int)+1)=(i:Int)+1:=wrap64 (by omega) (by omega)
   have hlM:=hMl i
   by_cases hk:(at' ls i).k=1
   · obtain⟨q1,q2,q3,q4⟩:=hq _ (at'_mem hlt) hk
     obtain⟨G,hG⟩:∃ G:Nat,(at' ls i).g=(G:Int):=⟨(at' ls i).g.toNat,by omega⟩
     have hGF:G≤F:=by omega
     have hin:inG (G:Int) ls≤ls.length:=cntP_le_one
     have hc1:=cnts_get (ls:=ls) hGF
     have hc2:=nums_get hc1
     obtain⟨hc3,hc4⟩:=getE hc2
     rw [hG] at q4
     have hcl:(nums (cnts F ls)).length=F+1:=by rw [len_nums,cnts_length]
     have hG1:G<F+1:=by omega
     have w1:IntKind.i64.wrap ((F:Int) - (G:Int))=(F:Int) - (G:Int):=wrap64 (by omega) (by omega)
     have w2:IntKind.i64.wrap ((inG (G:Int) ls:Int)+1)=(inG (G:Int) ls:Int)+1:=wrap64 (by omega) (by omega)
     have w3:IntKind.i64.wrap ((inG (G:Int) ls:Int)+1 - (at' ls i).r)=(inG (G:Int) ls:Int)+1 - (at' ls i).r:=wrap64 (by omega) (by omega)
     rw [mi_pass hk] at hset
     simp only [rowL,hk,hG] at hset
     simp [hlt,hg,hg2,hlM,rowL,hk,hw,hG,hc2,hc4,hcl,hG1,w1,w2,w3]
     exact hN (i+1) [] _ _ (by omega) (by omega) (by simp [hrr,hrA,hrB,hrC,ren_mkE,ren_nums,hMc,hset])
   · have hss:=hs _ (at'_mem hlt) hk
     have hwn:IntKind.i64.wrap (-(at' ls i).s) = -(at' ls i).s:=wrap64 (by omega) (by omega)
     have hmi:miL F ls (at' ls i)={ at' ls i with s:=-(at' ls i).s }:=by unfold miL; rw [if_neg hk]
     rw [hmi] at hset
     simp only [rowL] at hset
     simp [hlt,hg,hg2,hlM,rowL,hk,hw,hwn]
     exact hN (i+1) [] _ _ (by omega) (by omega) (by simp [hrr,hrA,hrB,hrC,ren_mkE,ren_nums,hMc,hset])
 · have hie:i=ls.length:=by omega
   subst hie
   simp [hlt]
   exact endK hK' [] (by simp [hrr,hrA,hrB,hrC,ren_mkE,ren_nums,hMc])
def mixR (g:Lt→Lt) (i:Nat) (ls:List Lt):List Lt:=ls.take i++(ls.drop i).map g
theorem mixR_all (g:Lt→Lt) (ls:List Lt):mixR g ls.length ls=ls:=by simp [mixR]
theorem mixR_zero (g:Lt→Lt) (ls:List Lt):mixR g 0 ls=ls.map g:=by simp [mixR]
theorem mixR_len (g:Lt→Lt) (i:Nat) (ls:List Lt):(mixR g i ls).length=ls.length:=by simp [mixR]; omega
theorem mixR_get {g:Lt→Lt} {i:Nat} {ls:List Lt} (hi:i<ls.length):((mixR g (i+1) ls).map rowL)[i]? = some (rowL (at' ls i)):=by
 unfold mixR
 rw [List.getElem?_map,List.getElem?_append_left (by simp; omega),List.getElem?_take,if_pos (by omega),List.getElem?_eq_getElem hi,at',List.getD,List.getElem?_eq_getElem hi]
 rfl
theorem mixR_set {g:Lt→Lt} {i:Nat} {ls:List Lt} (hi:i<ls.length):((mixR g (i+1) ls).map rowL).set i (rowL (g (at' ls i)))=(mixR g i ls).map rowL:=by
 have e:ls.drop i=at' ls i :: ls.drop (i+1):=by
  rw [List.drop_eq_getElem_cons hi,at',List.getD,List.getElem?_eq_getElem hi]
  rfl
 have e2:ls.take (i+1)=ls.take i++[at' ls i]:=by
  rw [List.take_add_one,List.getElem?_eq_getElem hi,at',List.getD,List.getElem?_eq_getElem hi]
  rfl
 unfold mixR
 rw [e,e2,List.append_assoc,List.map_append,List.set_append_right _ _ (by simp; omega)]
 simp only [List.map_append,List.map_cons,List.map_nil,List.length_map,List.length_take,Nat.min_eq_left (Nat.le_of_lt hi),Nat.sub_self,List.set_cons_zero,List.append_assoc,List.cons_append,List.nil_append]
theorem mixR_same {g:Lt→Lt} {i:Nat} {ls:List Lt} (hi:i<ls.length) (hg:g (at' ls i)=at' ls i):(mixR g i ls).map rowL=(mixR g (i+1) ls).map rowL:=by
 rw [← mixR_set hi,hg]
 have h:=mixR_get (g:=g) hi
 generalize (mixR g (i+1) ls).map rowL=M at *
 obtain⟨hl,h2⟩:=getE h
 rw [← h2,List.set_getElem_self]
theorem frm_step {ls:List Lt} {j:Nat} (hj:j<ls.length):frm ls (ls.length - j)=if isP (at' ls j) && !down ls j then j else frm ls (ls.length - (j+1)):=by
 have e:ls.length - j=(ls.length - (j+1))+1:=by omega
 rw [e,frm,show ls.length - (ls.length - (j+1)+1)=j by omega]
set_option maxRecDepth 100000 in
set_option maxHeartbeats 8000000 in
theorem c55 (F:Nat) (ls:List Lt) (E:List Ent) (h:ls.length≤1000) (h0:ls≠[]) (hkd:∀ l,l∈ls→l.k=1∨l.k=2) (hf0:0<frm ls ls.length) (hf1:frm ls ls.length<ls.length) :
 Ctr Tryz.prog 52 [.ptr 1 0 0] (dF F ls (ls.map rowL) E) fun v m=>v=.sl 8 0 ls.length∧m=⟨(dF F ls (ls.map rowL) E).bl++[(8,.cells 6 ((tuN ls).map rowL))],9⟩:=by
 refine ctr_P hm Tryz.func52 cf55 rfl rfl fun K hK=>?_
 have hK':=hK _ _ ⟨rfl,rfl⟩
 clear hK
 have hlp:0<ls.length:=List.length_pos_iff.2 h0
 have h31:=c31s (ls.map rowL) (by simpa using h0) (by simpa using h) (rows6 ls) (closed_rows ls)
 have h56:=c56s ((mixR tuL 0 ls).map rowL) (frm ls ls.length) hf0 (by rw [List.length_map,mixR_len]; exact hf1) (by rw [List.length_map,mixR_len]; exact h) (closed_rows _)
 have hMg:=fun i hi=>mixR_get (g:=tuL) (ls:=ls) (i:=i) hi
 have hMs:=fun i hi=>mixR_set (g:=tuL) (ls:=ls) (i:=i) hi
 have hMe:=fun i hi hg=>mixR_same (g:=tuL) (ls:=ls) (i:=i) hi hg
 have hMl:∀ i,((mixR tuL i ls).map rowL).length=ls.length:=fun i=>by rw [List.length_map,mixR_len]
 have hMc:∀ i q,renLL q ((mixR tuL i ls).map rowL)=(mixR tuL i ls).map rowL:=fun i q=>renLL_closed q _ (closed_rows _)
 have hMn:(mixR tuL ls.length ls).map rowL=ls.map rowL:=by rw [mixR_all]
 have hM0:(tuN ls).map rowL=((mixR tuL 0 ls).map rowL).drop (frm ls ls.length)++((mixR tuL 0 ls).map rowL).take (frm ls ls.length):=by
  rw [mixR_zero,tuN,rotL,List.map_append,List.map_drop,List.map_take]
 have hTc:∀ q,renLL q ((tuN ls).map rowL)=(tuN ls).map rowL:=fun q=>renLL_closed q _ (closed_rows _)
 rw [← hM0] at h56
 have hlen:(ls.map rowL).length=ls.length:=List.length_map ..
 have hrr:∀ q,renLL q (ls.map rowL)=ls.map rowL:=fun q=>renLL_closed q _ (closed_rows ls)
 clear hM0
 unfold dF dM dV2 at *
 obtain⟨M,hM⟩:∃ M:Nat→List (List AVal),(fun i=>(mixR tuL i ls).map rowL)=M:=⟨_,rfl⟩
 have hMi:∀ i,(mixR tuL i ls).map rowL=M i:=fun i=>by rw [← hM]
 simp only [hMi] at hMg hMs hMe hMl hMc hMn hK' h56
 simp only [hMl] at h56
 clear hM hMi
 generalize (tuN ls).map rowL=TR at *
 generalize ls.map rowL=rows at *
 have hBg:∀ v,v<ls.length→(bls (fillN ls.length ls.length (downV ls) false))[v]? = some [.bool (downV ls v)]:=fun v hv=>bls_get (by rw [fillN_get hv,if_pos hv])
 have hBl:(bls (fillN ls.length ls.length (downV ls) false)).length=ls.length:=by rw [bls,List.length_map,fillN_length]
 generalize hBe:bls (fillN ls.length ls.length (downV ls) false)=B at *
 generalize hCe:nums (fillN ls.length ls.length (placeV ls) 0)=C at *
 generalize hAe:nums (axis ls)=A at *
 have hrA:∀ q,renLL q A=A:=fun q=>by rw [← hAe]; exact ren_nums q _
 have hrB:∀ q,renLL q B=B:=fun q=>by rw [← hBe]; exact ren_bls q _
 have hrC:∀ q,renLL q C=C:=fun q=>by rw [← hCe]; exact ren_nums q _
 clear hBe hCe hAe
 generalize (axis ls).length=m at *
 have hw0:IntKind.i64.wrap ((ls.length:Int) - 1)=(ls.length:Int) - 1:=wrap64 (by omega) (by omega)
 simp
 refine SC_ctr h31 [] (by simp [hrr]) (by simp) (by simp) ?_
 rintro r sm ⟨rfl,rfl⟩
 simp [hrr,hlen,hw0]
 refine wZ_loop (α:=Nat) (fun j=>[(5,.int .i64 ((j:Int) - 1)),(4,.int .i64 (frm ls (ls.length - j):Nat)),(3,.sl 7 0 ls.length),(0,.ptr 1 0 0)])
  (fun j=>⟨[(1,.cells 7 [[.int .i64 (F:Int),.imm rows,.sl 3 0 ls.length,.sl 5 0 m,.sl 4 0 ls.length,.map 6,.sl 2 0 (F+1)]]),(2,.cells 1 (nums (cnts F ls))),(3,.cells 1 B),(4,.cells 1 C),(5,.cells 1 A),(6,.map (mkE 0 E) E.length),(7,.cells 6 (M j))],8⟩)
  (fun j=>j) (fun j=>j≤ls.length) ls.length [(7,15)] (by simp [hrr,hrA,hrB,hrC,ren_mkE,ren_nums,hMn,frm]) (by simp) ?_
 intro j1 hj N hN
 try simp only at hj hN ⊢
 rcases Nat.eq_zero_or_pos j1 with hz | hz
 · subst hz
   simp
   refine SC_ctr h56 [(1,7)] (by simp) (by simp [hMc]) (by simp) ?_
   rintro r sm ⟨rfl,rfl⟩
   simp [hrr,hrA,hrB,hrC,ren_mkE,ren_nums,hMc,hTc]
   exact endK hK' [(8,14)] (by simp [hrr,hrA,hrB,hrC,ren_mkE,ren_nums,hMc,hTc])
 · obtain⟨j,rfl⟩:∃ j,j1=j+1:=⟨j1 - 1,by omega⟩
   have hlt:j<ls.length:=by omega
   have hg:=hMg j hlt
   obtain⟨hgl,hg2⟩:=getE hg
   have hset:=hMs j hlt
   have hfs:=frm_step hlt
   have hlM:=hMl (j+1)
   have hw:IntKind.i64.wrap ((j:Int) - 1)=(j:Int) - 1:=wrap64 (by omega) (by omega)
   have hj1:((j+1:Nat):Int) - 1=(j:Int):=by omega
   have hb:=hBg j hlt
   obtain⟨hbl,hb2⟩:=getE hb
   have hj0:(0:Int)≤(j:Int):=by omega
   simp only [hj1]
   rcases hkd _ (at'_mem hlt) with hk | hk
   · have hsame:=hMe j hlt (tu_pass hk)
     have hP:isP (at' ls j)=true:=by simp [isP,hk]
     have hdv:downV ls j=down ls j:=by unfold downV; rw [hP]; rfl
     rw [hdv] at hb hb2
     rw [hP] at hfs
     cases hd:down ls j with
     | true=>
      rw [hd] at hfs hb hb2
      simp at hfs
      simp [hj0,hlt,hg,hg2,hlM,rowL,hk,hw,hb,hb2,hBl]
      exact hN j [] _ _ (by omega) (by omega) (by simp [hrr,hrA,hrB,hrC,ren_mkE,ren_nums,hMc,hsame,hfs])
     | false=>
      rw [hd] at hfs hb hb2
      simp at hfs
      simp [hj0,hlt,hg,hg2,hlM,rowL,hk,hw,hb,hb2,hBl]
      exact hN j [] _ _ (by omega) (by omega) (by simp [hrr,hrA,hrB,hrC,ren_mkE,ren_nums,hMc,hsame,hfs])
   · have hP:isP (at' ls j)=false:=by simp [isP,hk]
     rw [hP] at hfs
     simp at hfs
     rw [tu_cross hk] at hset
     simp only [rowL,hk] at hset
     simp [hj0,hlt,hg,hg2,hlM,rowL,hk,hw]
     exact hN j [] _ _ (by omega) (by omega) (by simp [hrr,hrA,hrB,hrC,ren_mkE,ren_nums,hMc,hset,hfs])
end Go.Known
