/- Part 32 of the proof: Rw, Rx, Ry, Sd. -/
import Derived.Test.YtipeejpafgnjdaaGreatDoorH29
import Derived.Test.YtipeejpafgnjdaaGreatDoorH30
import Derived.Test.YtipeejpafgnjdaaGreatDoorH31
set_option linter.all false
section
namespace Go.Known
open Go Go.AE Go.Proofs
open Go.Plain
def mix(g:Lt→Lt)(i:Nat)(ls:List Lt):List Lt:=(ls.take i).map g++ls.drop i
theorem Ycb(g:Lt→Lt)(ls:List Lt):mix g 0 ls=ls:=by simp[mix]
theorem Yd1(g:Lt→Lt)(ls:List Lt):mix g ls.length ls=ls.map g:=by simp[mix]
theorem Z9g(g:Lt→Lt)(i:Nat)(ls:List Lt):(mix g i ls).length=ls.length:=by simp[mix]; omega
theorem Zuu{g:Lt→Lt}{i:Nat}{ls:List Lt}(hi:i<ls.length):((mix g i ls).map rowL)[i]? = some (rowL (at' ls i)):=by
 unfold mix;rw[List.getElem?_map,List.getElem?_append_right (by simp; omega),List.length_map,List.length_take,Nat.min_eq_left (by omega),Nat.sub_self,List.getElem?_drop,Nat.add_zero,gE hi,at',List.getD,gE hi]
 rfl
theorem Zy3{g:Lt→Lt}{i:Nat}{ls:List Lt}(hi:i<ls.length):((mix g i ls).map rowL).set i (rowL (g (at' ls i)))=(mix g (i+1) ls).map rowL:=by
 have e:ls.drop i=at' ls i :: ls.drop (i+1):=by
  rw[List.drop_eq_getElem_cons hi,at',List.getD,gE hi];rfl
 have e2:ls.take (i+1)=ls.take i++[at' ls i]:=by
  rw[List.take_add_one,gE hi,at',List.getD,gE hi];rfl
 unfold mix;rw[e,e2,List.map_append,List.map_append,List.set_append_right _ _ (by simp; omega)]
 simp only[List.map_append,List.map_cons,List.map_nil,List.length_map,List.length_take,Nat.min_eq_left (Nat.le_of_lt hi),Nat.sub_self,List.set_cons_zero,List.append_assoc,List.cons_append,List.nil_append]
theorem Z96{g:Lt→Lt}{i:Nat}{ls:List Lt}(hi:i<ls.length)(hg:g (at' ls i)=at' ls i):(mix g (i+1) ls).map rowL=(mix g i ls).map rowL:=by
 rw[← Zy3 hi,hg];have h:=Zuu (g:=g) hi;generalize (mix g i ls).map rowL=M at *;obtain⟨hl,h2⟩:=Y9 h;rw[← h2,List.set_getElem_self]
theorem Zfy(ls:List Lt):((ls.map rowL).all fun x=>x.length == 6)=true:=by
 rw[List.all_eq_true];intro x hx;obtain⟨l,_,rfl⟩:=List.mem_map.1 hx;rfl
set_option maxRecDepth 100000 in
set_option maxHeartbeats 8000000 in
theorem c62(F:Nat)(ls:List Lt)(E:List Ent)(h:ls.length≤1000)(h0:ls≠[])(hs:∀ l,l∈ls→l.k=2→l.s=1∨l.s = -1) :
 Ctr Tryz.prog 69 [.ptr 1 0 0] (dF F ls (ls.map rowL) E) fun v m=>v=.sl 7 0 ls.length∧m=⟨(dF F ls (ls.map rowL) E).bl++[(7,.cells 6 ((swN ls).map rowL))],8⟩:=by
 refine J7 hm Tryz.func69 cf62 rfl rfl fun K hK=>?_
 have hK':=hK _ _ ⟨rfl,rfl⟩;clear hK;have hlp:0<ls.length:=List.length_pos_iff.2 h0;have h31:=c31s (ls.map rowL) (by simpa using h0) (by simpa using h) (Zfy ls) (Z9 ls)
 have hMg:=fun i hi=>Zuu (g:=swL) (ls:=ls) (i:=i) hi
 have hMs:=fun i hi=>Zy3 (g:=swL) (ls:=ls) (i:=i) hi
 have hMe:=fun i hi hg=>Z96 (g:=swL) (ls:=ls) (i:=i) hi hg
 have hMl:∀ i,((mix swL i ls).map rowL).length=ls.length:=fun i=>by rw[List.length_map,Z9g]
 have hMc:∀ i q,Z3 q ((mix swL i ls).map rowL)=(mix swL i ls).map rowL:=fun i q=>Y6 q _ (Z9 _)
 have hM0:(mix swL 0 ls).map rowL=ls.map rowL:=by rw[Ycb]
 have hMn:(mix swL ls.length ls).map rowL=(swN ls).map rowL:=by rw[Yd1]; rfl
 rw[← hMn]at hK';have hlen:(ls.map rowL).length=ls.length:=List.length_map ..;have hrr:∀ q,Z3 q (ls.map rowL)=ls.map rowL:=fun q=>Y6 q _ (Z9 ls)
 unfold dF dM dV2 at *;obtain⟨M,hM⟩:∃ M:Nat→List (List AVal),(fun i=>(mix swL i ls).map rowL)=M:=⟨_,rfl⟩
 have hMi:∀ i,(mix swL i ls).map rowL=M i:=fun i=>by rw[← hM]
 simp only[hMi]at hMg hMs hMe hMl hMc hM0 hMn hK';clear hM hMi;generalize ls.map rowL=rows at *;generalize hBe:bls (X2 ls.length ls.length (V0 ls) false)=B at *;generalize hCe:Z0 (X2 ls.length ls.length (S6 ls) 0)=C at *;generalize hAe:Z0 (Z2 ls)=A at *;have hrA:∀ q,Z3 q A=A:=fun q=>by rw[← hAe]; exact Z5 q _
 have hrB:∀ q,Z3 q B=B:=fun q=>by rw[← hBe]; exact X7 q _
 have hrC:∀ q,Z3 q C=C:=fun q=>by rw[← hCe]; exact Z5 q _
 clear hBe hCe hAe;generalize (Z2 ls).length=m at *;simp;refine U6 h31 [] (by simp[hrr]) (by simp) (by simp) ?_
 rintro r sm ⟨rfl,rfl⟩;simp[hrr,hlen];refine T1 (α:=Nat) (fun i=>[(13,.int .i64 i),(12,.int .i64 ls.length),(3,.sl 7 0 ls.length)])
  (fun i=>⟨[(1,.cells 7 [[.int .i64 (F:Int),.imm rows,.sl 3 0 ls.length,.sl 5 0 m,.sl 4 0 ls.length,.map 6,.sl 2 0 (F+1)]]),(2,.cells 1 (Z0 (S7 F ls))),(3,.cells 1 B),(4,.cells 1 C),(5,.cells 1 A),(6,.map (mkE 0 E) E.length),(7,.cells 6 (M i))],8⟩)
  (fun i=>ls.length - i) (fun i=>i≤ls.length) 0 [(7,15)] (by simp[hrr,hrA,hrB,hrC,Z7,Z5,hM0]) (by simp) ?_
 intro i hi N hN
 try simp only at hi hN ⊢
 by_cases hlt:i<ls.length
 ·have hg:=hMg i hlt;obtain⟨hgl,hg2⟩:=Y9 hg;have hset:=hMs i hlt;have hw:IntKind.i64.wrap ((i:Int)+1)=(i:Int)+1:=Z6 (by omega) (by omega)
  have hlM:=hMl i;by_cases hk:(at' ls i).k=2
  ·have hss:=hs _ (R9 hlt) hk;have hwn:IntKind.i64.wrap (-(at' ls i).s) = -(at' ls i).s:=Z6 (by omega) (by omega)
   rw[Zgg hk]at hset;simp[hlt,hg,hg2,hlM,rowL,hk,hw,hwn];simp only[rowL,hk]at hset;exact hN (i+1) [] _ _ (by omega) (by omega) (by simp[hrr,hrA,hrB,hrC,Z7,Z5,hMc,hset])
  ·have hsame:=hMe i hlt (by unfold swL; rw[if_neg hk])
   simp[hlt,hg,hg2,hlM,rowL,hk,hw];exact hN (i+1) [] _ _ (by omega) (by omega) (by simp[hrr,hrA,hrB,hrC,Z7,Z5,hMc,hsame])
 ·have hie:i=ls.length:=by omega
  subst hie;simp[hlt];exact Y1 hK' [] (by simp[hrr,hrA,hrB,hrC,Z7,Z5,hMc])
def L2(g:Lt→Lt)(i:Nat)(ls:List Lt):List Lt:=ls.take i++(ls.drop i).map g
theorem Z7x(g:Lt→Lt)(ls:List Lt):L2 g ls.length ls=ls:=by simp[L2]
theorem Z18(g:Lt→Lt)(ls:List Lt):L2 g 0 ls=ls.map g:=by simp[L2]
theorem Zpl(g:Lt→Lt)(i:Nat)(ls:List Lt):(L2 g i ls).length=ls.length:=by simp[L2]; omega
theorem Zzh{g:Lt→Lt}{i:Nat}{ls:List Lt}(hi:i<ls.length):((L2 g (i+1) ls).map rowL)[i]? = some (rowL (at' ls i)):=by
 unfold L2;rw[List.getElem?_map,List.getElem?_append_left (by simp; omega),List.getElem?_take,if_pos (by omega),gE hi,at',List.getD,gE hi]
 rfl
theorem Zso{g:Lt→Lt}{i:Nat}{ls:List Lt}(hi:i<ls.length):((L2 g (i+1) ls).map rowL).set i (rowL (g (at' ls i)))=(L2 g i ls).map rowL:=by
 have e:ls.drop i=at' ls i :: ls.drop (i+1):=by
  rw[List.drop_eq_getElem_cons hi,at',List.getD,gE hi];rfl
 have e2:ls.take (i+1)=ls.take i++[at' ls i]:=by
  rw[List.take_add_one,gE hi,at',List.getD,gE hi];rfl
 unfold L2;rw[e,e2,List.append_assoc,List.map_append,List.set_append_right _ _ (by simp; omega)]
 simp only[List.map_append,List.map_cons,List.map_nil,List.length_map,List.length_take,Nat.min_eq_left (Nat.le_of_lt hi),Nat.sub_self,List.set_cons_zero,List.append_assoc,List.cons_append,List.nil_append]
theorem Z3y{g:Lt→Lt}{i:Nat}{ls:List Lt}(hi:i<ls.length)(hg:g (at' ls i)=at' ls i):(L2 g i ls).map rowL=(L2 g (i+1) ls).map rowL:=by
 rw[← Zso hi,hg];have h:=Zzh (g:=g) hi;generalize (L2 g (i+1) ls).map rowL=M at *;obtain⟨hl,h2⟩:=Y9 h;rw[← h2,List.set_getElem_self]
theorem Z6d{ls:List Lt}{j:Nat}(hj:j<ls.length):frm ls (ls.length - j)=if isP (at' ls j) && !down ls j then j else frm ls (ls.length - (j+1)):=by
 have e:ls.length - j=(ls.length - (j+1))+1:=by omega
 rw[e,frm,show ls.length - (ls.length - (j+1)+1)=j by omega]
set_option maxRecDepth 100000 in
set_option maxHeartbeats 8000000 in
theorem c55(F:Nat)(ls:List Lt)(E:List Ent)(h:ls.length≤1000)(h0:ls≠[])(hkd:∀ l,l∈ls→l.k=1∨l.k=2)(hf0:0<frm ls ls.length)(hf1:frm ls ls.length<ls.length) :
 Ctr Tryz.prog 70 [.ptr 1 0 0] (dF F ls (ls.map rowL) E) fun v m=>v=.sl 8 0 ls.length∧m=⟨(dF F ls (ls.map rowL) E).bl++[(8,.cells 6 ((tuN ls).map rowL))],9⟩:=by
 refine J7 hm Tryz.func70 cf55 rfl rfl fun K hK=>?_
 have hK':=hK _ _ ⟨rfl,rfl⟩;clear hK;have hlp:0<ls.length:=List.length_pos_iff.2 h0;have h31:=c31s (ls.map rowL) (by simpa using h0) (by simpa using h) (Zfy ls) (Z9 ls)
 have h56:=c56s ((L2 tuL 0 ls).map rowL) (frm ls ls.length) hf0 (by rw[List.length_map,Zpl]; exact hf1) (by rw[List.length_map,Zpl]; exact h) (Z9 _)
 have hMg:=fun i hi=>Zzh (g:=tuL) (ls:=ls) (i:=i) hi
 have hMs:=fun i hi=>Zso (g:=tuL) (ls:=ls) (i:=i) hi
 have hMe:=fun i hi hg=>Z3y (g:=tuL) (ls:=ls) (i:=i) hi hg
 have hMl:∀ i,((L2 tuL i ls).map rowL).length=ls.length:=fun i=>by rw[List.length_map,Zpl]
 have hMc:∀ i q,Z3 q ((L2 tuL i ls).map rowL)=(L2 tuL i ls).map rowL:=fun i q=>Y6 q _ (Z9 _)
 have hMn:(L2 tuL ls.length ls).map rowL=ls.map rowL:=by rw[Z7x]
 have hM0:(tuN ls).map rowL=((L2 tuL 0 ls).map rowL).drop (frm ls ls.length)++((L2 tuL 0 ls).map rowL).take (frm ls ls.length):=by
  rw[Z18,tuN,V5,List.map_append,List.map_drop,List.map_take]
 have hTc:∀ q,Z3 q ((tuN ls).map rowL)=(tuN ls).map rowL:=fun q=>Y6 q _ (Z9 _)
 rw[← hM0]at h56;have hlen:(ls.map rowL).length=ls.length:=List.length_map ..;have hrr:∀ q,Z3 q (ls.map rowL)=ls.map rowL:=fun q=>Y6 q _ (Z9 ls)
 clear hM0;unfold dF dM dV2 at *;obtain⟨M,hM⟩:∃ M:Nat→List (List AVal),(fun i=>(L2 tuL i ls).map rowL)=M:=⟨_,rfl⟩
 have hMi:∀ i,(L2 tuL i ls).map rowL=M i:=fun i=>by rw[← hM]
 simp only[hMi]at hMg hMs hMe hMl hMc hMn hK' h56;simp only[hMl]at h56;clear hM hMi;generalize (tuN ls).map rowL=TR at *;generalize ls.map rowL=rows at *;have hBg:∀ v,v<ls.length→(bls (X2 ls.length ls.length (V0 ls) false))[v]? = some [.bool (V0 ls v)]:=fun v hv=>Zeg (by rw[Za7 hv,if_pos hv])
 have hBl:(bls (X2 ls.length ls.length (V0 ls) false)).length=ls.length:=by rw[bls,List.length_map,Zat]
 generalize hBe:bls (X2 ls.length ls.length (V0 ls) false)=B at *;generalize hCe:Z0 (X2 ls.length ls.length (S6 ls) 0)=C at *;generalize hAe:Z0 (Z2 ls)=A at *;have hrA:∀ q,Z3 q A=A:=fun q=>by rw[← hAe]; exact Z5 q _
 have hrB:∀ q,Z3 q B=B:=fun q=>by rw[← hBe]; exact X7 q _
 have hrC:∀ q,Z3 q C=C:=fun q=>by rw[← hCe]; exact Z5 q _
 clear hBe hCe hAe;generalize (Z2 ls).length=m at *;have hw0:IntKind.i64.wrap ((ls.length:Int) - 1)=(ls.length:Int) - 1:=Z6 (by omega) (by omega)
 simp;refine U6 h31 [] (by simp[hrr]) (by simp) (by simp) ?_
 rintro r sm ⟨rfl,rfl⟩;simp[hrr,hlen,hw0];refine T1 (α:=Nat) (fun j=>[(5,.int .i64 ((j:Int) - 1)),(4,.int .i64 (frm ls (ls.length - j):Nat)),(3,.sl 7 0 ls.length),(0,.ptr 1 0 0)])
  (fun j=>⟨[(1,.cells 7 [[.int .i64 (F:Int),.imm rows,.sl 3 0 ls.length,.sl 5 0 m,.sl 4 0 ls.length,.map 6,.sl 2 0 (F+1)]]),(2,.cells 1 (Z0 (S7 F ls))),(3,.cells 1 B),(4,.cells 1 C),(5,.cells 1 A),(6,.map (mkE 0 E) E.length),(7,.cells 6 (M j))],8⟩)
  (fun j=>j) (fun j=>j≤ls.length) ls.length [(7,15)] (by simp[hrr,hrA,hrB,hrC,Z7,Z5,hMn,frm]) (by simp) ?_
 intro j1 hj N hN
 try simp only at hj hN ⊢
 rcases Nat.eq_zero_or_pos j1 with hz|hz
 ·subst hz;simp;refine U6 h56 [(1,7)] (by simp) (by simp[hMc]) (by simp) ?_
  rintro r sm ⟨rfl,rfl⟩;simp[hrr,hrA,hrB,hrC,Z7,Z5,hMc,hTc];exact Y1 hK' [(8,14)] (by simp[hrr,hrA,hrB,hrC,Z7,Z5,hMc,hTc])
 ·obtain⟨j,rfl⟩:∃ j,j1=j+1:=⟨j1 - 1,by omega⟩
  have hlt:j<ls.length:=by omega
  have hg:=hMg j hlt;obtain⟨hgl,hg2⟩:=Y9 hg;have hset:=hMs j hlt;have hfs:=Z6d hlt;have hlM:=hMl (j+1);have hw:IntKind.i64.wrap ((j:Int) - 1)=(j:Int) - 1:=Z6 (by omega) (by omega)
  have hj1:((j+1:Nat):Int) - 1=(j:Int):=by omega
  have hb:=hBg j hlt;obtain⟨hbl,hb2⟩:=Y9 hb;have hj0:(0:Int)≤(j:Int):=by omega
  simp only[hj1];rcases hkd _ (R9 hlt)with hk|hk
  ·have hsame:=hMe j hlt (Zw5 hk);have hP:isP (at' ls j)=true:=by simp[isP,hk]
   have hdv:V0 ls j=down ls j:=by unfold V0; rw[hP]; rfl
   rw[hdv]at hb hb2;rw[hP]at hfs;cases hd:down ls j with
   | true=>
    rw[hd]at hfs hb hb2;simp at hfs;simp[hj0,hlt,hg,hg2,hlM,rowL,hk,hw,hb,hb2,hBl];exact hN j [] _ _ (by omega) (by omega) (by simp[hrr,hrA,hrB,hrC,Z7,Z5,hMc,hsame,hfs])
   | false=>
    rw[hd]at hfs hb hb2;simp at hfs;simp[hj0,hlt,hg,hg2,hlM,rowL,hk,hw,hb,hb2,hBl];exact hN j [] _ _ (by omega) (by omega) (by simp[hrr,hrA,hrB,hrC,Z7,Z5,hMc,hsame,hfs])
  ·have hP:isP (at' ls j)=false:=by simp[isP,hk]
   rw[hP]at hfs;simp at hfs;rw[Zcg hk]at hset;simp only[rowL,hk]at hset;simp[hj0,hlt,hg,hg2,hlM,rowL,hk,hw];exact hN j [] _ _ (by omega) (by omega) (by simp[hrr,hrA,hrB,hrC,Z7,Z5,hMc,hset,hfs])
end Go.Known
end
section
namespace Go.Known
open Go Go.AE Go.Proofs
open Go.Plain
theorem Zf9{get:Nat→Option ABlk}{n:Nat}(l:List Lt):∀ row,row∈l.map rowL → ∀ x,x∈row→X0 get (n+1) x=some x:=by
 intro row hr x hx;obtain⟨i,_,rfl⟩:=List.mem_map.1 hr;simp only[rowL,List.mem_cons,List.not_mem_nil,or_false]at hx;rcases hx with rfl|rfl|rfl|rfl|rfl|rfl<;>rfl
theorem c62f(F:Nat)(ls:List Lt)(E:List Ent)(h:ls.length≤1000)(h0:ls≠[])(hs:∀ l,l∈ls→l.k=2→l.s=1∨l.s = -1) :
 Ctr Tryz.prog 69 [.ptr 1 0 0] (dF F ls (ls.map rowL) E) fun v m=>v=.imm ((swN ls).map rowL)∧m=⟨(dF F ls (ls.map rowL) E).bl,8⟩:=by
 refine(c62 F ls E h h0 hs).freeze fun r sm=>?_
 rintro⟨rfl,rfl⟩;refine⟨[7],?_,?_⟩
 ·exact Zjj (k:=6) rfl (by simp[dF,dM,dV2]) (by simp[swN]) (Zf9 _)
 ·simp[dF,dM,dV2]
theorem c55f(F:Nat)(ls:List Lt)(E:List Ent)(h:ls.length≤1000)(h0:ls≠[])(hkd:∀ l,l∈ls→l.k=1∨l.k=2)(hf0:0<frm ls ls.length)(hf1:frm ls ls.length<ls.length) :
 Ctr Tryz.prog 70 [.ptr 1 0 0] (dF F ls (ls.map rowL) E) fun v m=>v=.imm ((tuN ls).map rowL)∧m=⟨(dF F ls (ls.map rowL) E).bl,9⟩:=by
 refine(c55 F ls E h h0 hkd hf0 hf1).freeze fun r sm=>?_
 rintro⟨rfl,rfl⟩;refine⟨[8],?_,?_⟩
 ·exact Zjj (k:=6) rfl (by simp[dF,dM,dV2]) (by rw[List.length_map,I2]) (Zf9 _)
 ·simp[dF,dM,dV2]
theorem ValR.cross_s{f:Int}{ls:List Lt}(h:ValR f ls):∀ l,l∈ls→l.k=2→l.s=1∨l.s = -1:=fun l hl hk=>((Zai hk).1 (h.okr l hl)).2.2.1
theorem ValR.frm_lt{f:Int}{ls:List Lt}(h:ValR f ls)(h0:ls≠[]):0<frm ls ls.length∧frm ls ls.length<ls.length:=by
 have hw:=h.wv h0;obtain⟨i,i1,i2,i3⟩:=Zk6 hw.pas h.evn;obtain⟨ha,hap,had⟩:=Zlx ls.length (Nat.le_refl _) ⟨i,by omega,i1,i2,i3⟩
 refine⟨?_,ha⟩;rcases Nat.eq_zero_or_pos (frm ls ls.length)with e|e
 ·rw[e]at had;simp[down,Z1,Z4]at had
 ·exact e
end Go.Known
end
section
namespace Go.Known
open Go Go.AE Go.Proofs
open Go.Plain
set_option maxRecDepth 100000 in
set_option maxHeartbeats 4000000 in
theorem c54v(g:FuncId)(f:Int)(ls L:List Lt)(nx:Nat)(h:ls.length≤1000)(he:W4 f ls=0)(h0:ls≠[])(hnx:7≤nx)
 (hg:∀ F:Nat,(F:Int)=f→Ctr Tryz.prog g [.ptr 1 0 0] (dF F ls (ls.map rowL) (crE ls ls.length)) fun v m=>v=.imm (L.map rowL)∧m=⟨(dF F ls (ls.map rowL) (crE ls ls.length)).bl,nx⟩) :
 PCall Tryz.prog 68 [cV f ls,.func (.func g) [] []] (.tuple [cV f L,.int .i64 0]):=by
 refine J9 hm 4 Tryz.func68 cf54 rfl rfl (by simp[Y0,AVal.closed,Z9]) (by simp[AVal.closed,Y0,Z9]) fun K hK=>?_
 have h59:=c59 f ls h;have hrr:∀ q,Z3 q (ls.map rowL)=ls.map rowL:=fun q=>Y6 q _ (Z9 ls)
 have hLr:∀ q,Z3 q (L.map rowL)=L.map rowL:=fun q=>Y6 q _ (Z9 L)
 have hKv:=hK (.tuple [cV f L,.int .i64 0]) ⟨[],1⟩ (by
  unfold cV;rw[X0];simp only[W6];rw[X0];simp only[W6];rw[Zlw (Zf9 L)];rfl)
 clear hK;unfold cV dF dM dV2 at *;generalize ls.map rowL=rows at *;generalize L.map rowL=LR at *;generalize hBe:bls (X2 ls.length ls.length (V0 ls) false)=B at *;generalize hCe:Z0 (X2 ls.length ls.length (S6 ls) 0)=C at *;generalize hAe:Z0 (Z2 ls)=A at *;have hrA:∀ q,Z3 q A=A:=fun q=>by rw[← hAe]; exact Z5 q _
 have hrB:∀ q,Z3 q B=B:=fun q=>by rw[← hBe]; exact X7 q _
 have hrC:∀ q,Z3 q C=C:=fun q=>by rw[← hCe]; exact Z5 q _
 clear hBe hCe hAe;generalize (Z2 ls).length=m at *;generalize crE ls ls.length=E at *;simp;refine U6 h59 [] (by simp[hrr]) (by simp) (by simp) ?_
 rintro r sm (⟨h1,_⟩|⟨_,h1,_⟩|⟨_,_,hf0,hf1,_,rfl,rfl⟩)
 ·exact absurd he h1
 ·exact absurd h1 h0
 obtain⟨F,hF⟩:∃ F:Nat,f=(F:Int):=⟨f.toNat,by omega⟩
 subst hF;have hg':=hg F rfl;simp[hrr,hrA,hrB,hrC,Z7,Z5];refine Zea hg' hnx [(1,11),(2,12),(3,13),(4,14),(5,15),(6,16)] (by simp) (by simp[EqRB,hrr,hrA,hrB,hrC,Z7,Z5]) (by simp) (fun s=>by simp[hLr]) (by simp) ?_
 simp[hrr,hrA,hrB,hrC,Z7,Z5,hLr];exact Y1 hKv [] (by simp[hLr])
theorem Zfp{get:Nat→Option ABlk}(f:Int)(L:List Lt):X0 get 4 (.tuple [cV f L,.int .i64 0])=some (.tuple [cV f L,.int .i64 0]):=by
 unfold cV;rw[X0];simp only[W6];rw[X0];simp only[W6];rw[Zlw (Zf9 L)];rfl
theorem c32v(f:Int)(ls:List Lt)(hv:ValR f ls)(h0:ls≠[]):PCall Tryz.prog 27 [cV f ls] (.tuple [cV f (swN ls),.int .i64 0]):=by
 refine J9 hm 4 Tryz.func27 cf32 rfl rfl (by simp[Y0,AVal.closed,Z9]) (by simp[AVal.closed,Y0,Z9]) fun K hK=>?_
 have hl:ls.length≤1000:=by have:=hv.len; omega
 have hF:((f.toNat:Nat):Int)=f:=by have:=hv.lo; omega
 have h54:=c54v 69 f ls (swN ls) 8 hl hv.to h0 (by omega) fun F e=>by
  subst e;exact c62f F ls _ hl h0 hv.cross_s
 have hrr:∀ q,Z3 q (ls.map rowL)=ls.map rowL:=fun q=>Y6 q _ (Z9 ls)
 have hLr:∀ q,Z3 q ((swN ls).map rowL)=(swN ls).map rowL:=fun q=>Y6 q _ (Z9 _)
 have hKv:=hK (.tuple [cV f (swN ls),.int .i64 0]) ⟨[],1⟩ (Zfp f _);clear hK;unfold cV at *;generalize ls.map rowL=rows at *;generalize (swN ls).map rowL=LR at *;simp;refine W3 h54 ?_;simp;exact Y1 hKv [] (by simp[hLr])
theorem c27v(f:Int)(ls:List Lt)(hv:ValR f ls)(h0:ls≠[]):PCall Tryz.prog 28 [cV f ls] (.tuple [cV f (tuN ls),.int .i64 0]):=by
 refine J9 hm 4 Tryz.func28 cf27 rfl rfl (by simp[Y0,AVal.closed,Z9]) (by simp[AVal.closed,Y0,Z9]) fun K hK=>?_
 have hl:ls.length≤1000:=by have:=hv.len; omega
 have hF:((f.toNat:Nat):Int)=f:=by have:=hv.lo; omega
 have h54:=c54v 70 f ls (tuN ls) 9 hl hv.to h0 (by omega) fun F e=>by
  subst e;exact c55f F ls _ hl h0 (fun l hm=>Zhd (hv.okr l hm)) (hv.frm_lt h0).1 (hv.frm_lt h0).2
 have hrr:∀ q,Z3 q (ls.map rowL)=ls.map rowL:=fun q=>Y6 q _ (Z9 ls)
 have hLr:∀ q,Z3 q ((tuN ls).map rowL)=(tuN ls).map rowL:=fun q=>Y6 q _ (Z9 _)
 have hKv:=hK (.tuple [cV f (tuN ls),.int .i64 0]) ⟨[],1⟩ (Zfp f _);clear hK;unfold cV at *;generalize ls.map rowL=rows at *;generalize (tuN ls).map rowL=LR at *;simp;refine W3 h54 ?_;simp;exact Y1 hKv [] (by simp[hLr])
end Go.Known
end
section
namespace Go.Known
open Go Go.AE Go.Proofs
open Go.Plain
attribute [local simp] w00
theorem c31e:PCall Tryz.prog 57 [.imm []] (.imm []):=by
 refine Ydc (v1:=.nilSl) ?_ Zpk ?_
 ·refine J9 hm 4 Tryz.func57 cf31 rfl rfl (by simp[Y0,AVal.closed]) rfl fun K hK=>?_
  have hK':=hK .nilSl ⟨[],1⟩ rfl;clear hK;simp[X6,eqA,Zay,J1];exact Y1 hK' [] (by simp)
 ·refine J7 hm Tryz.func57 cf31 rfl rfl fun K hK=>?_
  have hK':=hK (.sl 2 0 0) ⟨[(2,.cells 6 [])],3⟩ (Ych 2 0);clear hK;simp[X6,eqA,Zay,J1,Zj8,P7];exact Y1 hK' [(2,5)] (by simp)
theorem c56e:PCall Tryz.prog 71 [.imm [],.int .i64 0] (.imm []):=by
 refine PCall.weak (v:=.nilSl) ?_ Zpk;refine J9 hm 4 Tryz.func71 cf56 rfl rfl (by simp[Y0,AVal.closed,X8]) rfl fun K hK=>?_
 have hK':=hK .nilSl ⟨[],1⟩ rfl;clear hK;simp[Zi7,P7];exact Y1 hK' [] (by simp)
theorem c62e(f:Int):Ctr Tryz.prog 69 [.ptr 1 0 0] (dM1 f []) fun v m=>v=.imm []∧m=⟨(dM1 f []).bl,2⟩:=by
 refine J7 hm Tryz.func69 cf62 rfl rfl fun K hK=>?_
 have hK':=hK _ _ ⟨rfl,rfl⟩;clear hK;have h31:=c31e;simp;refine W3 h31 ?_;simp;refine T1 (α:=Unit) (fun _=>[(13,.int .i64 0),(12,.int .i64 0),(3,.imm [])]) (fun _=>⟨[(1,dV0 f [])],2⟩) (fun _=>0) (fun _=>True) () [] (by simp) trivial ?_
 intro _ _ N hN;simp;exact Y1 hK' [] (by simp)
theorem c55e(f:Int):Ctr Tryz.prog 70 [.ptr 1 0 0] (dM1 f []) fun v m=>v=.imm []∧m=⟨(dM1 f []).bl,2⟩:=by
 refine J7 hm Tryz.func70 cf55 rfl rfl fun K hK=>?_
 have hK':=hK _ _ ⟨rfl,rfl⟩;clear hK;have h31:=c31e;have h56:=c56e;have w1:IntKind.i64.wrap (-1) = -1:=by decide
 simp[w1];refine W3 h31 ?_;simp[w1];refine T1 (α:=Unit) (fun _=>[(5,.int .i64 (-1)),(4,.int .i64 0),(3,.imm [])]) (fun _=>⟨[(1,dV0 f [])],2⟩) (fun _=>0) (fun _=>True) () [] (by simp) trivial ?_
 intro _ _ N hN;simp;refine W3 h56 ?_;simp;exact Y1 hK' [] (by simp)
set_option maxHeartbeats 1000000 in
theorem c54e(g:FuncId)(f:Int)(he:W4 f []=0)(hg:Ctr Tryz.prog g [.ptr 1 0 0] (dM1 f []) fun v m=>v=.imm []∧m=⟨(dM1 f []).bl,2⟩) :
 PCall Tryz.prog 68 [cV f [],.func (.func g) [] []] (.tuple [cV f [],.int .i64 0]):=by
 refine J9 hm 4 Tryz.func68 cf54 rfl rfl (by simp[Y0,AVal.closed,Z9,X8]) (by simp[AVal.closed,Y0,Z9,X8]) fun K hK=>?_
 have h59:=c59 f [] (by simp)
 have hKv:=hK (.tuple [cV f [],.int .i64 0]) ⟨[],1⟩ (Zfp f []);clear hK;unfold cV at *;simp;refine U6 h59 [] (by simp) (by simp) (by simp) ?_
 rintro r sm (⟨h1,_⟩|⟨_,_,_,_,rfl,rfl⟩|⟨_,h1,_⟩)
 ·exact absurd he h1
 ·simp;refine Zea hg (by simp) [(1,11)] (by simp) (by simp[EqRB]) (by simp) (fun s=>by simp) (by simp) ?_
  simp;exact Y1 hKv [] (by simp)
 ·exact absurd rfl h1
theorem c32e(f:Int)(he:W4 f []=0):PCall Tryz.prog 27 [cV f []] (.tuple [cV f [],.int .i64 0]):=by
 refine J9 hm 4 Tryz.func27 cf32 rfl rfl (by simp[Y0,AVal.closed,Z9,X8]) (by simp[AVal.closed,Y0,Z9,X8]) fun K hK=>?_
 have h54:=c54e 69 f he (c62e f);have hKv:=hK (.tuple [cV f [],.int .i64 0]) ⟨[],1⟩ (Zfp f []);clear hK;unfold cV at *;simp at h54 ⊢;refine W3 h54 ?_;simp;exact Y1 hKv [] (by simp)
theorem c27e(f:Int)(he:W4 f []=0):PCall Tryz.prog 28 [cV f []] (.tuple [cV f [],.int .i64 0]):=by
 refine J9 hm 4 Tryz.func28 cf27 rfl rfl (by simp[Y0,AVal.closed,Z9,X8]) (by simp[AVal.closed,Y0,Z9,X8]) fun K hK=>?_
 have h54:=c54e 70 f he (c55e f);have hKv:=hK (.tuple [cV f [],.int .i64 0]) ⟨[],1⟩ (Zfp f []);clear hK;unfold cV at *;simp at h54 ⊢;refine W3 h54 ?_;simp;exact Y1 hKv [] (by simp)
end Go.Known
end
