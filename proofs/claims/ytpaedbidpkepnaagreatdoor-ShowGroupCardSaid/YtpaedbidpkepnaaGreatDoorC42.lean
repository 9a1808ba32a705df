/- Part 42 of the proof: Sb, Sd. -/
import Derived.Test.YtpaedbidpkepnaaGreatDoorC40
import Derived.Test.YtpaedbidpkepnaaGreatDoorC41
set_option linter.all false
section
namespace Go.Known
open Go Go.AE Go.Proofs
open Go.Plain
def Ls (f:Int) (a b c:Bool) (ls:List Lt):Nat→List Lt
 | 0=>ls
 | 1=>img1 a ls
 | 2=>img2 f b (img1 a ls)
 | _=>img3 c (img2 f b (img1 a ls))
set_option maxRecDepth 100000 in
set_option maxHeartbeats 8000000 in
theorem c9g (f:Int) (ls:List Lt) (a b c:Bool)
 (h30:PCall Tryz.prog 20 [cV f ls] (.int .i64 0))
 (h31:PCall Tryz.prog 22 [.imm (ls.map rowL)] (.imm (ls.map rowL)))
 (h32:PCall Tryz.prog 23 [cV f ls] (.tuple [cV f (swN ls),.int .i64 0]))
 (h33:PCall Tryz.prog 24 [cV f (img1 a ls)] (.tuple [cV f (miN f (img1 a ls)),.int .i64 0]))
 (h27:PCall Tryz.prog 25 [cV f (img2 f b (img1 a ls))] (.tuple [cV f (tuN (img2 f b (img1 a ls))),.int .i64 0])) :
 PCall Tryz.prog 7 [cV f ls,.agg [.bool a,.bool b,.bool c]] (.tuple [cV f (img3 c (img2 f b (img1 a ls))),.int .i64 0]):=by
 refine PCall_F hm 4 Tryz.func7 cf9 rfl rfl (by simp [closedL,AVal.closed,closed_rows]) (by simp [AVal.closed,closedL,closed_rows]) fun K hK=>?_
 have hrr:∀ (L:List Lt) q,renLL q (L.map rowL)=L.map rowL:=fun L q=>renLL_closed q _ (closed_rows L)
 have hKv:=hK (.tuple [cV f (img3 c (img2 f b (img1 a ls))),.int .i64 0]) ⟨[],1⟩ (fz_code f _)
 clear hK
 unfold cV at *
 simp
 refine SC_pure h30 ?_
 simp
 refine SC_pure h31 ?_
 simp
 refine wZ_loop (α:=Nat) (fun i=>[(21,.int .i64 i),(20,.int .i64 3),(19,.sl 4 0 3),(4,.ptr 3 0 0),(3,.ptr 2 0 0),(2,.ptr 1 0 0)])
  (fun i=>⟨[(1,.cells 2 [[.int .i64 f,.imm ((Ls f a b c ls i).map rowL)]]),(2,.cells 3 [[.bool a,.bool b,.bool c]]),(3,.cells 2 [[.int .i64 0,.nilSl]]),
    (4,.cells 1 [[.func (.func 23) [] []],[.func (.func 24) [] []],[.func (.func 25) [] []]])],5⟩)
  (fun i=>3 - i) (fun i=>i≤3) 0 [(4,15)] (by simp [hrr,Ls]) (by simp) ?_
 intro i hi N hN
 try simp only at hi hN ⊢
 have w1:IntKind.i64.wrap 1=1:=by decide
 have w2:IntKind.i64.wrap 2=2:=by decide
 have w3:IntKind.i64.wrap 3=3:=by decide
 rcases (show i=0∨i=1∨i=2∨i=3 by omega) with rfl | rfl | rfl | rfl
 · have hN':=hN 1 []
   cases a with
   | false=>
    simp [Ls,stepD,w1,w2,w3]
    exact hN' _ _ (by omega) (by omega) (by simp [hrr,Ls,img1])
   | true=>
    simp [Ls,stepD,w1,w2,w3]
    refine SC_pure h32 ?_
    simp [w1,w2,w3]
    exact hN' _ _ (by omega) (by omega) (by simp [hrr,Ls,img1])
 · have hN':=hN 2 []
   cases b with
   | false=>
    simp [Ls,stepD,w1,w2,w3]
    exact hN' _ _ (by omega) (by omega) (by simp [hrr,Ls,img2])
   | true=>
    simp [Ls,stepD,w1,w2,w3]
    refine SC_pure h33 ?_
    simp [w1,w2,w3]
    exact hN' _ _ (by omega) (by omega) (by simp [hrr,Ls,img2])
 · have hN':=hN 3 []
   cases c with
   | false=>
    simp [Ls,stepD,w1,w2,w3]
    exact hN' _ _ (by omega) (by omega) (by simp [hrr,Ls,img3])
   | true=>
    simp [Ls,stepD,w1,w2,w3]
    refine SC_pure h27 ?_
    simp [w1,w2,w3]
    exact hN' _ _ (by omega) (by omega) (by simp [hrr,Ls,img3])
 · simp [Ls]
   exact endK hKv [] (by simp [hrr])
theorem c9v (f:Int) (ls:List Lt) (a b c:Bool) (hv:ValR f ls) (h0:ls≠[]):PCall Tryz.prog 7 [cV f ls,.agg [.bool a,.bool b,.bool c]] (.tuple [cV f (img3 c (img2 f b (img1 a ls))),.int .i64 0]):=by
 have hl:ls.length≤1000:=by have:=hv.len; omega
 have h30:=c30 f ls hl
 rw [hv.to] at h30
 obtain⟨a1,a2,_⟩:=img1_ok a hv h0
 obtain⟨b1,b2,_⟩:=img2_ok b a1 a2
 exact c9g f ls a b c h30 (c31p ls h0 hl) (c32v f ls hv h0) (c33v f _ a1 a2) (c27v f _ b1 b2)
end Go.Known
end
section
namespace Go.Known
open Go Go.AE Go.Proofs
open Go.Plain
attribute [local simp] w00
theorem c31e:PCall Tryz.prog 22 [.imm []] (.imm []):=by
 refine PCall_emp (v1:=.nilSl) ?_ E0_nil ?_
 · refine PCall_F hm 4 Tryz.func22 cf31 rfl rfl (by simp [closedL,AVal.closed]) rfl fun K hK=>?_
   have hK':=hK .nilSl ⟨[],1⟩ rfl
   clear hK
   simp [binA,eqA,eqNil,isNil]
   exact endK hK' [] (by simp)
 · refine ctr_P hm Tryz.func22 cf31 rfl rfl fun K hK=>?_
   have hK':=hK (.sl 2 0 0) ⟨[(2,.cells 6 [])],3⟩ (E0_sl 2 0)
   clear hK
   simp [binA,eqA,eqNil,isNil,sr_slO,appendRowsD]
   exact endK hK' [(2,5)] (by simp)
theorem c56e:PCall Tryz.prog 53 [.imm [],.int .i64 0] (.imm []):=by
 refine PCall.weak (v:=.nilSl) ?_ E0_nil
 refine PCall_F hm 4 Tryz.func53 cf56 rfl rfl (by simp [closedL,AVal.closed,closedLL]) rfl fun K hK=>?_
 have hK':=hK .nilSl ⟨[],1⟩ rfl
 clear hK
 simp [sr_imm,appendRowsD]
 exact endK hK' [] (by simp)
theorem c62e (f:Int):Ctr Tryz.prog 50 [.ptr 1 0 0] (dM1 f []) fun v m=>v=.imm []∧m=⟨(dM1 f []).bl,2⟩:=by
 refine ctr_P hm Tryz.func50 cf62 rfl rfl fun K hK=>?_
 have hK':=hK _ _ ⟨rfl,rfl⟩
 clear hK
 have h31:=c31e
 simp
 refine SC_pure h31 ?_
 simp
 refine wZ_loop (α:=Unit) (fun _=>[(13,.int .i64 0),(12,.int .i64 0),(3,.imm [])]) (fun _=>⟨[(1,dV0 f [])],2⟩) (fun _=>0) (fun _=>True) () [] (by simp) trivial ?_
 intro _ _ N hN
 simp
 exact endK hK' [] (by simp)
theorem c63e (f:Int):Ctr Tryz.prog 51 [.ptr 1 0 0] (dM1 f []) fun v m=>v=.imm []∧m=⟨(dM1 f []).bl,2⟩:=by
 refine ctr_P hm Tryz.func51 cf63 rfl rfl fun K hK=>?_
 have hK':=hK _ _ ⟨rfl,rfl⟩
 clear hK
 have h31:=c31e
 simp
 refine SC_pure h31 ?_
 simp
 refine wZ_loop (α:=Unit) (fun _=>[(14,.int .i64 0),(13,.int .i64 0),(3,.imm [])]) (fun _=>⟨[(1,dV0 f [])],2⟩) (fun _=>0) (fun _=>True) () [] (by simp) trivial ?_
 intro _ _ N hN
 simp
 exact endK hK' [] (by simp)
theorem c55e (f:Int):Ctr Tryz.prog 52 [.ptr 1 0 0] (dM1 f []) fun v m=>v=.imm []∧m=⟨(dM1 f []).bl,2⟩:=by
 refine ctr_P hm Tryz.func52 cf55 rfl rfl fun K hK=>?_
 have hK':=hK _ _ ⟨rfl,rfl⟩
 clear hK
 have h31:=c31e
 have h56:=c56e
 have w1:IntKind.i64.wrap (-1) = -1:=by decide
 simp [w1]
 refine SC_pure h31 ?_
 simp [w1]
 refine wZ_loop (α:=Unit) (fun _=>[(5,.int .i64 (-1)),(4,.int .i64 0),(3,.imm [])]) (fun _=>⟨[(1,dV0 f [])],2⟩) (fun _=>0) (fun _=>True) () [] (by simp) trivial ?_
 intro _ _ N hN
 simp
 refine SC_pure h56 ?_
 simp
 exact endK hK' [] (by simp)
set_option maxHeartbeats 1000000 in
theorem c54e (g:FuncId) (f:Int) (he:errC f []=0) (hg:Ctr Tryz.prog g [.ptr 1 0 0] (dM1 f []) fun v m=>v=.imm []∧m=⟨(dM1 f []).bl,2⟩) :
 PCall Tryz.prog 49 [cV f [],.func (.func g) [] []] (.tuple [cV f [],.int .i64 0]):=by
 refine PCall_F hm 4 Tryz.func49 cf54 rfl rfl (by simp [closedL,AVal.closed,closed_rows,closedLL]) (by simp [AVal.closed,closedL,closed_rows,closedLL]) fun K hK=>?_
 have h59:=c59 f [] (by simp)
 have hKv:=hK (.tuple [cV f [],.int .i64 0]) ⟨[],1⟩ (fz_code f [])
 clear hK
 unfold cV at *
 simp
 refine SC_ctr h59 [] (by simp) (by simp) (by simp) ?_
 rintro r sm (⟨h1,_⟩ | ⟨_,_,_,_,rfl,rfl⟩ | ⟨_,h1,_⟩)
 · exact absurd he h1
 · simp
   refine DC_ctr hg (by simp) [(1,11)] (by simp) (by simp [EqRB]) (by simp) (fun s=>by simp) (by simp) ?_
   simp
   exact endK hKv [] (by simp)
 · exact absurd rfl h1
theorem c32e (f:Int) (he:errC f []=0):PCall Tryz.prog 23 [cV f []] (.tuple [cV f [],.int .i64 0]):=by
 refine PCall_F hm 4 Tryz.func23 cf32 rfl rfl (by simp [closedL,AVal.closed,closed_rows,closedLL]) (by simp [AVal.closed,closedL,closed_rows,closedLL]) fun K hK=>?_
 have h54:=c54e 50 f he (c62e f)
 have hKv:=hK (.tuple [cV f [],.int .i64 0]) ⟨[],1⟩ (fz_code f [])
 clear hK
 unfold cV at *
 simp at h54 ⊢
 refine SC_pure h54 ?_
 simp
 exact endK hKv [] (by simp)
theorem c33e (f:Int) (he:errC f []=0):PCall Tryz.prog 24 [cV f []] (.tuple [cV f [],.int .i64 0]):=by
 refine PCall_F hm 4 Tryz.func24 cf33 rfl rfl (by simp [closedL,AVal.closed,closed_rows,closedLL]) (by simp [AVal.closed,closedL,closed_rows,closedLL]) fun K hK=>?_
 have h54:=c54e 51 f he (c63e f)
 have hKv:=hK (.tuple [cV f [],.int .i64 0]) ⟨[],1⟩ (fz_code f [])
 clear hK
 unfold cV at *
 simp at h54 ⊢
 refine SC_pure h54 ?_
 simp
 exact endK hKv [] (by simp)
theorem c27e (f:Int) (he:errC f []=0):PCall Tryz.prog 25 [cV f []] (.tuple [cV f [],.int .i64 0]):=by
 refine PCall_F hm 4 Tryz.func25 cf27 rfl rfl (by simp [closedL,AVal.closed,closed_rows,closedLL]) (by simp [AVal.closed,closedL,closed_rows,closedLL]) fun K hK=>?_
 have h54:=c54e 52 f he (c55e f)
 have hKv:=hK (.tuple [cV f [],.int .i64 0]) ⟨[],1⟩ (fz_code f [])
 clear hK
 unfold cV at *
 simp at h54 ⊢
 refine SC_pure h54 ?_
 simp
 exact endK hKv [] (by simp)
theorem img1_nil (a:Bool):img1 a []=[]:=by cases a<;>rfl
theorem img2_nil (f:Int) (b:Bool):img2 f b []=[]:=by cases b<;>rfl
theorem img3_nil (c:Bool):img3 c []=[]:=by cases c<;>rfl
theorem c9w (f:Int) (ls:List Lt) (a b c:Bool) (h:ls.length≤1000) (he:errC f ls=0) :
 PCall Tryz.prog 7 [cV f ls,.agg [.bool a,.bool b,.bool c]] (.tuple [cV f (img3 c (img2 f b (img1 a ls))),.int .i64 0]) ∧
  errC f (img3 c (img2 f b (img1 a ls)))=0∧(img3 c (img2 f b (img1 a ls))).length≤1000∧patP (polys (img3 c (img2 f b (img1 a ls))))=patP (polys ls):=by
 by_cases h0:ls=[]
 · subst h0
   have h30:=c30 f [] (by simp)
   rw [he] at h30
   rw [img1_nil,img2_nil,img3_nil]
   refine⟨?_,he,by simp,rfl⟩
   have:=c9g f [] a b c h30 c31e (c32e f he) (by rw [img1_nil]; exact c33e f he) (by rw [img1_nil,img2_nil]; exact c27e f he)
   rwa [img1_nil,img2_nil,img3_nil] at this
 · have hv:=valR_of he h0
   obtain⟨v1,v2,v3⟩:=img_all a b c hv h0
   exact⟨c9v f ls a b c hv h0,v1.to,by have:=v1.len; omega,v3⟩
end Go.Known
end
