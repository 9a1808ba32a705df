/- Part 32 of the proof: Rw, Rx, Ry, Sd. -/
import Derived.Test.YtilmpmlkndfbjaaGreatDoorI28
import Derived.Test.YtilmpmlkndfbjaaGreatDoorI30
import Derived.Test.YtilmpmlkndfbjaaGreatDoorI31
set_option linter.all false
section
namespace Go.Known
open Go Go.AE Go.Proofs
open Go.Plain
theorem Zh7(ls:List Lt):((ls.map rowL).all fun x=>x.length == 6)=true:=by
 rw[List.all_eq_true];intro x a;obtain⟨l,_,rfl⟩:=List.mem_map.1 a;rfl
def K2(g:Lt→Lt)(i:Nat)(ls:List Lt):List Lt:=ls.take i++(ls.drop i).map g
theorem Z4x(g:Lt→Lt)(ls:List Lt):K2 g ls.length ls=ls:=by simp[K2]
theorem Yep(g:Lt→Lt)(ls:List Lt):K2 g 0 ls=ls.map g:=by simp[K2]
theorem Zq2(g:Lt→Lt)(i:Nat)(ls:List Lt):(K2 g i ls).length=ls.length:=by simp[K2]; omega
theorem Ztw{g:Lt→Lt}{i:Nat}{ls:List Lt}(hi:i<ls.length):((K2 g (i+1) ls).map rowL)[i]? = some (rowL (at' ls i)):=by
 unfold K2;rw[List.getElem?_map,List.getElem?_append_left (by simp; omega),List.getElem?_take,if_pos (by omega),gE hi,at',List.getD,gE hi]
 rfl
theorem Zxk{g:Lt→Lt}{i:Nat}{ls:List Lt}(hi:i<ls.length):((K2 g (i+1) ls).map rowL).set i (rowL (g (at' ls i)))=(K2 g i ls).map rowL:=by
 have e:ls.drop i=at' ls i :: ls.drop (i+1):=by
  rw[List.drop_eq_getElem_cons hi,at',List.getD,gE hi];rfl
 have a:ls.take (i+1)=ls.take i++[at' ls i]:=by
  rw[List.take_add_one,gE hi,at',List.getD,gE hi];rfl
 unfold K2;rw[e,a,List.append_assoc,List.map_append,List.set_append_right _ _ (by simp; omega)]
 simp only[List.map_append,List.map_cons,List.map_nil,List.length_map,List.length_take,Nat.min_eq_left (Nat.le_of_lt hi),Nat.sub_self,List.set_cons_zero,List.append_assoc,List.cons_append,List.nil_append]
theorem Z4v{g:Lt→Lt}{i:Nat}{ls:List Lt}(hi:i<ls.length)(b:g (at' ls i)=at' ls i):(K2 g i ls).map rowL=(K2 g (i+1) ls).map rowL:=by
 rw[← Zxk hi,b];have h:=Ztw (g:=g) hi;generalize (K2 g (i+1) ls).map rowL=M at *;obtain⟨c,a⟩:=X5 h;rw[← a,List.set_getElem_self]
theorem Yf8{ls:List Lt}{j:Nat}(a:j<ls.length):frm ls (ls.length - j)=if isP (at' ls j) && !down ls j then j else frm ls (ls.length - (j+1)):=by
 have e:ls.length - j=(ls.length - (j+1))+1:=by omega
 rw[e,frm,show ls.length - (ls.length - (j+1)+1)=j by omega]
set_option maxRecDepth 100000 in
set_option maxHeartbeats 8000000 in
theorem c55(F:Nat)(ls:List Lt)(E:List Ent)(h:ls.length≤1000)(h0:ls≠[])(ai:∀ l,l∈ls→l.k=1∨l.k=2)(af:0<frm ls ls.length)(ag:frm ls ls.length<ls.length) :
 Ctr Tryz.prog 66 [.ptr 1 0 0] (dF F ls (ls.map rowL) E) fun v m=>v=.sl 8 0 ls.length∧m=⟨(dF F ls (ls.map rowL) E).bl++[(8,.cells 6 ((tuN ls).map rowL))],9⟩:=by
 refine E7 hm Tryz.func66 cf55 rfl rfl fun K hK=>?_
 have Q:=hK _ _ ⟨rfl,rfl⟩;clear hK;have am:0<ls.length:=List.length_pos_iff.2 h0;have ac:=c31s (ls.map rowL) (by simpa using h0) (by simpa using h) (Zh7 ls) (Y5 ls)
 have u:=c56s ((K2 tuL 0 ls).map rowL) (frm ls ls.length) af (by rw[List.length_map,Zq2]; exact ag) (by rw[List.length_map,Zq2]; exact h) (Y5 _)
 have V:=fun i hi=>Ztw (g:=tuL) (ls:=ls) (i:=i) hi
 have Z:=fun i hi=>Zxk (g:=tuL) (ls:=ls) (i:=i) hi
 have U:=fun i hi I=>Z4v (g:=tuL) (ls:=ls) (i:=i) hi I
 have y:∀ i,((K2 tuL i ls).map rowL).length=ls.length:=fun i=>by rw[List.length_map,Zq2]
 have d:∀ i q,Z4 q ((K2 tuL i ls).map rowL)=(K2 tuL i ls).map rowL:=fun i q=>X1 q _ (Y5 _)
 have Y:(K2 tuL ls.length ls).map rowL=ls.map rowL:=by rw[Z4x]
 have S:(tuN ls).map rowL=((K2 tuL 0 ls).map rowL).drop (frm ls ls.length)++((K2 tuL 0 ls).map rowL).take (frm ls ls.length):=by
  rw[Yep,tuN,W6,List.map_append,List.map_drop,List.map_take]
 have aa:∀ q,Z4 q ((tuN ls).map rowL)=(tuN ls).map rowL:=fun q=>X1 q _ (Y5 _)
 rw[← S]at u;have ab:(ls.map rowL).length=ls.length:=List.length_map ..;have c:∀ q,Z4 q (ls.map rowL)=ls.map rowL:=fun q=>X1 q _ (Y5 ls)
 clear S;unfold dF dM dV2 at *;obtain⟨M,hM⟩:∃ M:Nat→List (List AVal),(fun i=>(K2 tuL i ls).map rowL)=M:=⟨_,rfl⟩
 have X:∀ i,(K2 tuL i ls).map rowL=M i:=fun i=>by rw[← hM]
 simp only[X]at V Z U y d Y Q u;simp only[y]at u;clear hM X;generalize (tuN ls).map rowL=TR at *;generalize ls.map rowL=rows at *;have ad:∀ v,v<ls.length→(bls (X8 ls.length ls.length (V6 ls) false))[v]? = some [.bool (V6 ls v)]:=fun v hv=>Ze0 (by rw[Zbc hv,if_pos hv])
 have O:(bls (X8 ls.length ls.length (V6 ls) false)).length=ls.length:=by rw[bls,List.length_map,Zaw]
 generalize L:bls (X8 ls.length ls.length (V6 ls) false)=B at *;generalize P:Z2 (X8 ls.length ls.length (R6 ls) 0)=C at *;generalize J:Z2 (Z1 ls)=A at *;have e:∀ q,Z4 q A=A:=fun q=>by rw[← J]; exact Z6 q _
 have n:∀ q,Z4 q B=B:=fun q=>by rw[← L]; exact W3 q _
 have o:∀ q,Z4 q C=C:=fun q=>by rw[← P]; exact Z6 q _
 clear L P J;generalize (Z1 ls).length=m at *;have aj:IntKind.i64.wrap ((ls.length:Int) - 1)=(ls.length:Int) - 1:=Z5 (by omega) (by omega)
 simp;refine U9 ac [] (by simp[c]) (by simp) (by simp) ?_
 rintro r sm ⟨rfl,rfl⟩;simp[c,ab,aj];refine Q7 (α:=Nat) (fun j=>[(5,.int .i64 ((j:Int) - 1)),(4,.int .i64 (frm ls (ls.length - j):Nat)),(3,.sl 7 0 ls.length),(0,.ptr 1 0 0)])
  (fun j=>⟨[(1,.cells 7 [[.int .i64 (F:Int),.imm rows,.sl 3 0 ls.length,.sl 5 0 m,.sl 4 0 ls.length,.map 6,.sl 2 0 (F+1)]]),(2,.cells 1 (Z2 (R5 F ls))),(3,.cells 1 B),(4,.cells 1 C),(5,.cells 1 A),(6,.map (mkE 0 E) E.length),(7,.cells 6 (M j))],8⟩)
  (fun j=>j) (fun j=>j≤ls.length) ls.length [(7,15)] (by simp[c,e,n,o,Z8,Z6,Y,frm]) (by simp) ?_
 intro j1 hj N hN
 try simp only at hj hN ⊢
 rcases Nat.eq_zero_or_pos j1 with hz|hz
 ·subst hz;simp;refine U9 u [(1,7)] (by simp) (by simp[d]) (by simp) ?_
  rintro r sm ⟨rfl,rfl⟩;simp[c,e,n,o,Z8,Z6,d,aa];exact Y1 Q [(8,14)] (by simp[c,e,n,o,Z8,Z6,d,aa])
 ·obtain⟨j,rfl⟩:∃ j,j1=j+1:=⟨j1 - 1,by omega⟩
  have b:j<ls.length:=by omega
  have I:=V j b;obtain⟨al,z⟩:=X5 I;have t:=Z j b;have a:=Yf8 b;have G:=y (j+1);have hw:IntKind.i64.wrap ((j:Int) - 1)=(j:Int) - 1:=Z5 (by omega) (by omega)
  have ah:((j+1:Nat):Int) - 1=(j:Int):=by omega
  have H:=ad j b;obtain⟨ak,p⟩:=X5 H;have D:(0:Int)≤(j:Int):=by omega
  simp only[ah];rcases ai _ (S1 b)with w|w
  ·have s:=U j b (Zvr w);have hP:isP (at' ls j)=true:=by simp[isP,w]
   have ae:V6 ls j=down ls j:=by unfold V6; rw[hP]; rfl
   rw[ae]at H p;rw[hP]at a;cases hd:down ls j with
   | true=>
    rw[hd]at a H p;simp at a;simp[D,b,I,z,G,rowL,w,hw,H,p,O];exact hN j [] _ _ (by omega) (by omega) (by simp[c,e,n,o,Z8,Z6,d,s,a])
   | false=>
    rw[hd]at a H p;simp at a;simp[D,b,I,z,G,rowL,w,hw,H,p,O];exact hN j [] _ _ (by omega) (by omega) (by simp[c,e,n,o,Z8,Z6,d,s,a])
  ·have hP:isP (at' ls j)=false:=by simp[isP,w]
   rw[hP]at a;simp at a;rw[Ze3 w]at t;simp only[rowL,w]at t;simp[D,b,I,z,G,rowL,w,hw];exact hN j [] _ _ (by omega) (by omega) (by simp[c,e,n,o,Z8,Z6,d,t,a])
end Go.Known
end
section
namespace Go.Known
open Go Go.AE Go.Proofs
open Go.Plain
theorem Zhl{get:Nat→Option ABlk}{n:Nat}(l:List Lt):∀ row,row∈l.map rowL → ∀ x,x∈row→X4 get (n+1) x=some x:=by
 intro row b x a;obtain⟨i,_,rfl⟩:=List.mem_map.1 b;simp only[rowL,List.mem_cons,List.not_mem_nil,or_false]at a;rcases a with rfl|rfl|rfl|rfl|rfl|rfl<;>rfl
theorem c55f(F:Nat)(ls:List Lt)(E:List Ent)(h:ls.length≤1000)(d:ls≠[])(c:∀ l,l∈ls→l.k=1∨l.k=2)(a:0<frm ls ls.length)(b:frm ls ls.length<ls.length) :
 Ctr Tryz.prog 66 [.ptr 1 0 0] (dF F ls (ls.map rowL) E) fun v m=>v=.imm ((tuN ls).map rowL)∧m=⟨(dF F ls (ls.map rowL) E).bl,9⟩:=by
 refine(c55 F ls E h d c a b).freeze fun r e=>?_
 rintro⟨rfl,rfl⟩;refine⟨[8],?_,?_⟩
 ·exact Zly (k:=6) rfl (by simp[dF,dM,dV2]) (by rw[List.length_map,G4]) (Zhl _)
 ·simp[dF,dM,dV2]
theorem ValR.frm_lt{f:Int}{ls:List Lt}(h:ValR f ls)(b:ls≠[]):0<frm ls ls.length∧frm ls ls.length<ls.length:=by
 have g:=h.wv b;obtain⟨i,j,k,l⟩:=Zif g.pas h.evn;obtain⟨c,d,a⟩:=Zip ls.length (Nat.le_refl _) ⟨i,by omega,j,k,l⟩
 refine⟨?_,c⟩;rcases Nat.eq_zero_or_pos (frm ls ls.length)with e|e
 ·rw[e]at a;simp[down,Z0,Z3]at a
 ·exact e
end Go.Known
end
section
namespace Go.Known
open Go Go.AE Go.Proofs
open Go.Plain
set_option maxRecDepth 100000 in
set_option maxHeartbeats 4000000 in
theorem c54v(g:FuncId)(f:Int)(ls L:List Lt)(nx:Nat)(h:ls.length≤1000)(z:W7 f ls=0)(w:ls≠[])(t:7≤nx)
 (H:∀ F:Nat,(F:Int)=f→Ctr Tryz.prog g [.ptr 1 0 0] (dF F ls (ls.map rowL) (crE ls ls.length)) fun v m=>v=.imm (L.map rowL)∧m=⟨(dF F ls (ls.map rowL) (crE ls ls.length)).bl,nx⟩) :
 PCall Tryz.prog 65 [cV f ls,.func (.func g) [] []] (.tuple [cV f L,.int .i64 0]):=by
 refine Zaa hm 4 Tryz.func65 cf54 rfl rfl (by simp[Y7,AVal.closed,Y5]) (by simp[AVal.closed,Y7,Y5]) fun K u=>?_
 have n:=c59 f ls h;have a:∀ q,Z4 q (ls.map rowL)=ls.map rowL:=fun q=>X1 q _ (Y5 ls)
 have b:∀ q,Z4 q (L.map rowL)=L.map rowL:=fun q=>X1 q _ (Y5 L)
 have o:=u (.tuple [cV f L,.int .i64 0]) ⟨[],1⟩ (by
  unfold cV;rw[X4];simp only[V0];rw[X4];simp only[V0];rw[Zle (Zhl L)];rfl)
 clear u;unfold cV dF dM dV2 at *;generalize ls.map rowL=rows at *;generalize L.map rowL=I at *;generalize j:bls (X8 ls.length ls.length (V6 ls) false)=B at *;generalize k:Z2 (X8 ls.length ls.length (R6 ls) 0)=C at *;generalize i:Z2 (Z1 ls)=A at *;have c:∀ q,Z4 q A=A:=fun q=>by rw[← i]; exact Z6 q _
 have d:∀ q,Z4 q B=B:=fun q=>by rw[← j]; exact W3 q _
 have e:∀ q,Z4 q C=C:=fun q=>by rw[← k]; exact Z6 q _
 clear j k i;generalize (Z1 ls).length=m at *;generalize crE ls ls.length=E at *;simp;refine U9 n [] (by simp[a]) (by simp) (by simp) ?_
 rintro r J (⟨l,_⟩|⟨_,l,_⟩|⟨_,_,D,G,_,rfl,rfl⟩)
 ·exact absurd z l
 ·exact absurd l w
 obtain⟨F,y⟩:∃ F:Nat,f=(F:Int):=⟨f.toNat,by omega⟩
 subst y;have p:=H F rfl;simp[a,c,d,e,Z8,Z6];refine Zfc p t [(1,11),(2,12),(3,13),(4,14),(5,15),(6,16)] (by simp) (by simp[EqRB,a,c,d,e,Z8,Z6]) (by simp) (fun s=>by simp[b]) (by simp) ?_
 simp[a,c,d,e,Z8,Z6,b];exact Y1 o [] (by simp[b])
theorem Zmv{get:Nat→Option ABlk}(f:Int)(L:List Lt):X4 get 4 (.tuple [cV f L,.int .i64 0])=some (.tuple [cV f L,.int .i64 0]):=by
 unfold cV;rw[X4];simp only[V0];rw[X4];simp only[V0];rw[Zle (Zhl L)];rfl
theorem c27v(f:Int)(ls:List Lt)(a:ValR f ls)(b:ls≠[]):PCall Tryz.prog 34 [cV f ls] (.tuple [cV f (tuN ls),.int .i64 0]):=by
 refine Zaa hm 4 Tryz.func34 cf27 rfl rfl (by simp[Y7,AVal.closed,Y5]) (by simp[AVal.closed,Y7,Y5]) fun K h=>?_
 have i:ls.length≤1000:=by have:=a.len; omega
 have m:((f.toNat:Nat):Int)=f:=by have:=a.lo; omega
 have c:=c54v 66 f ls (tuN ls) 9 i a.to b (by omega) fun F e=>by
  subst e;exact c55f F ls _ i b (fun l hm=>Ziv (a.okr l hm)) (a.frm_lt b).1 (a.frm_lt b).2
 have j:∀ q,Z4 q (ls.map rowL)=ls.map rowL:=fun q=>X1 q _ (Y5 ls)
 have g:∀ q,Z4 q ((tuN ls).map rowL)=(tuN ls).map rowL:=fun q=>X1 q _ (Y5 _)
 have d:=h (.tuple [cV f (tuN ls),.int .i64 0]) ⟨[],1⟩ (Zmv f _);clear h;unfold cV at *;generalize ls.map rowL=rows at *;generalize (tuN ls).map rowL=k at *;simp;refine U1 c ?_;simp;exact Y1 d [] (by simp[g])
end Go.Known
end
section
namespace Go.Known
open Go Go.AE Go.Proofs
open Go.Plain
attribute [local simp] w00
theorem c31e:PCall Tryz.prog 67 [.imm []] (.imm []):=by
 refine Z2h (v1:=.nilSl) ?_ Zs2 ?_
 ·refine Zaa hm 4 Tryz.func67 cf31 rfl rfl (by simp[Y7,AVal.closed]) rfl fun K b=>?_
  have a:=b .nilSl ⟨[],1⟩ rfl;clear b;simp[X7,eqA,Zbk,J9];exact Y1 a [] (by simp)
 ·refine E7 hm Tryz.func67 cf31 rfl rfl fun K b=>?_
  have a:=b (.sl 2 0 0) ⟨[(2,.cells 6 [])],3⟩ (Z7s 2 0);clear b;simp[X7,eqA,Zbk,J9,Zkz,O6];exact Y1 a [(2,5)] (by simp)
theorem c56e:PCall Tryz.prog 68 [.imm [],.int .i64 0] (.imm []):=by
 refine PCall.weak (v:=.nilSl) ?_ Zs2;refine Zaa hm 4 Tryz.func68 cf56 rfl rfl (by simp[Y7,AVal.closed,V3]) rfl fun K b=>?_
 have a:=b .nilSl ⟨[],1⟩ rfl;clear b;simp[Zi8,O6];exact Y1 a [] (by simp)
theorem c55e(f:Int):Ctr Tryz.prog 66 [.ptr 1 0 0] (dM1 f []) fun v m=>v=.imm []∧m=⟨(dM1 f []).bl,2⟩:=by
 refine E7 hm Tryz.func66 cf55 rfl rfl fun K d=>?_
 have c:=d _ _ ⟨rfl,rfl⟩;clear d;have a:=c31e;have b:=c56e;have w1:IntKind.i64.wrap (-1) = -1:=by decide
 simp[w1];refine U1 a ?_;simp[w1];refine Q7 (α:=Unit) (fun _=>[(5,.int .i64 (-1)),(4,.int .i64 0),(3,.imm [])]) (fun _=>⟨[(1,dV0 f [])],2⟩) (fun _=>0) (fun _=>True) () [] (by simp) trivial ?_
 intro _ _ N e;simp;refine U1 b ?_;simp;exact Y1 c [] (by simp)
set_option maxHeartbeats 1000000 in
theorem c54e(g:FuncId)(f:Int)(e:W7 f []=0)(h:Ctr Tryz.prog g [.ptr 1 0 0] (dM1 f []) fun v m=>v=.imm []∧m=⟨(dM1 f []).bl,2⟩) :
 PCall Tryz.prog 65 [cV f [],.func (.func g) [] []] (.tuple [cV f [],.int .i64 0]):=by
 refine Zaa hm 4 Tryz.func65 cf54 rfl rfl (by simp[Y7,AVal.closed,Y5,V3]) (by simp[AVal.closed,Y7,Y5,V3]) fun K d=>?_
 have b:=c59 f [] (by simp)
 have c:=d (.tuple [cV f [],.int .i64 0]) ⟨[],1⟩ (Zmv f []);clear d;unfold cV at *;simp;refine U9 b [] (by simp) (by simp) (by simp) ?_
 rintro r i (⟨a,_⟩|⟨_,_,_,_,rfl,rfl⟩|⟨_,a,_⟩)
 ·exact absurd e a
 ·simp;refine Zfc h (by simp) [(1,11)] (by simp) (by simp[EqRB]) (by simp) (fun s=>by simp) (by simp) ?_
  simp;exact Y1 c [] (by simp)
 ·exact absurd rfl a
theorem c27e(f:Int)(d:W7 f []=0):PCall Tryz.prog 34 [cV f []] (.tuple [cV f [],.int .i64 0]):=by
 refine Zaa hm 4 Tryz.func34 cf27 rfl rfl (by simp[Y7,AVal.closed,Y5,V3]) (by simp[AVal.closed,Y7,Y5,V3]) fun K c=>?_
 have a:=c54e 66 f d (c55e f);have b:=c (.tuple [cV f [],.int .i64 0]) ⟨[],1⟩ (Zmv f []);clear c;unfold cV at *;simp at a ⊢;refine U1 a ?_;simp;exact Y1 b [] (by simp)
end Go.Known
end
