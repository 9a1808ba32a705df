/- Part 53 of the proof: Ve. -/
import Derived.Test.YtpaedbidpkepnaaGreatDoorC16
import Derived.Test.YtpaedbidpkepnaaGreatDoorC27
import Derived.Test.YtpaedbidpkepnaaGreatDoorC51
import Derived.Test.YtpaedbidpkepnaaGreatDoorC52
set_option linter.all false
namespace Go.Known
open Go Go.AE Go.Proofs
open Go.Plain
theorem known9g:PCall Tryz.prog 5 [] (.bool true):=mo33
theorem eq_symb {x y:Nat} (hx:x<8) (hy:y<8):binA .eql (.flat [.bool,.bool,.bool]) (.agg [.bool (bA x),.bool (bB x),.bool (bC x)]) (.agg [.bool (bA y),.bool (bB y),.bool (bC y)])=some (.bool (decide (x=y))):=by
 rcases (show x=0∨x=1∨x=2∨x=3∨x=4∨x=5∨x=6∨x=7 by omega) with rfl | rfl | rfl | rfl | rfl | rfl | rfl | rfl <;>
  rcases (show y=0∨y=1∨y=2∨y=3∨y=4∨y=5∨y=6∨y=7 by omega) with rfl | rfl | rfl | rfl | rfl | rfl | rfl | rfl<;>rfl
theorem ne_symb (a b c:Bool):binA .neq (.flat [.bool,.bool,.bool]) (.agg [.bool a,.bool b,.bool c]) (.agg [.bool a,.bool b,.bool c])=some (.bool false):=by
 simp [binA,eqA,sameCells,keyEq]
theorem sym_head (f:Int) (ls:List Lt):(symN f ls 8)[0]? = some 0:=by
 unfold symN
 rw [show List.range 8=0 :: [1,2,3,4,5,6,7] from rfl,List.filter_cons,hasI_zero]
 rfl
theorem sym_mem {f:Int} {ls:List Lt} {x:Nat}:x∈symN f ls 8↔x<8∧hasI f ls x=true:=by
 unfold symN
 rw [List.mem_filter,List.mem_range]
theorem imgI_okg (f:Int) (ls:List Lt) (k:Nat) (h:ls.length≤1000) (he:errC f ls=0):errC f (imgI f ls k)=0∧(imgI f ls k).length≤1000:=by
 obtain⟨_,h2,h3,_⟩:=c9w f ls (decide (4≤k)) (decide (2≤k % 4)) (decide (k % 2=1)) h he
 exact⟨h2,h3⟩
def thr (N:List Nat) (x j:Nat):Bool:=decide (x∈N.take j)
theorem thr_succ {N:List Nat} {x j y:Nat} (h:N[j]? = some y):thr N x (j+1)=(thr N x j||decide (y=x)):=by
 unfold thr
 rw [List.take_add_one,h]
 simp only [Option.toList_some,List.mem_append,List.mem_singleton]
 by_cases h1:x∈N.take j
 · simp [h1]
 · by_cases h2:y=x
   · simp [h1,h2]
   · have h3:¬x=y:=fun e=>h2 e.symm
     simp [h1,h2,h3]
set_option maxRecDepth 100000 in
set_option maxHeartbeats 16000000 in
theorem grp_run (f:Int) (ls:List Lt) (which:Int) (K:AVal→SMem→Prop) (hK:K (.bool true) ⟨[],1⟩):wpZ Tryz.prog ajG.ntmps 1 ajG.body (retN ajG.ntmps ajG.results (EndK 1 K)) (argE 0 [cV f ls,.int .i64 which] []) ⟨[],1⟩:=by
 have hrr:∀ q,renLL q (ls.map rowL)=ls.map rowL:=fun q=>renLL_closed q _ (closed_rows ls)
 have h18:=c18 f ls
 unfold ajG
 by_cases hs:ls.length≤40∧errC f ls=0
 rotate_left
 · have hb:(decide (ls.length≤40)&&decide (errC f ls=0))=false:=by simpa using hs
   rw [hb] at h18
   clear hs hb
   unfold cV at *
   generalize ls.map rowL=rows at *
   simp
   refine SC_pure h18 ?_
   simp
   refine SC_pure known9g ?_
   simp
   exact endK hK [] (by simp)
 obtain⟨hl,he⟩:=hs
 have hb:(decide (ls.length≤40)&&decide (errC f ls=0))=true:=by simp [hl,he]
 rw [hb] at h18
 clear hb
 by_cases hw0:which<0
 · unfold cV at *
   generalize ls.map rowL=rows at *
   simp
   refine SC_pure h18 ?_
   simp [hw0]
   refine SC_pure known9g ?_
   simp
   exact endK hK [] (by simp)
 by_cases hw7:7<which
 · unfold cV at *
   generalize ls.map rowL=rows at *
   simp
   refine SC_pure h18 ?_
   simp [hw0,hw7]
   refine SC_pure known9g ?_
   simp
   exact endK hK [] (by simp)
 obtain⟨k,hk⟩:∃ k:Nat,which=(k:Int):=⟨which.toNat,by omega⟩
 subst hk
 have hk8:k<8:=by omega
 have hsy:(symRs 8)[k]? = some (symR k):=by
  unfold symRs
  rw [List.getElem?_map,List.getElem?_range hk8]
  rfl
 have hls:ls.length≤1000:=by omega
 obtain⟨hi2,hi3⟩:=imgI_okg f ls k hls he
 have hpi:PCall Tryz.prog 7 [cV f ls,.agg (symR k)] (.tuple [cV f (imgI f ls k),.int .i64 0]):=(c9w f ls (decide (4≤k)) (decide (2≤k % 4)) (decide (k % 2=1)) hls he).1
 have hps:=c10v f ls hls he
 have hpd:=c10v f (imgI f ls k) hi3 hi2
 have hNd:=symN_img (f:=f) (y:=ls) he hk8
 have hPd:symL f (imgI f ls k) 8=symL f ls 8:=by unfold symL; rw [hNd]
 rw [hPd] at hpd
 have hN0:=sym_head f ls
 have hN8:∀ x,x∈symN f ls 8→x<8:=fun x hx=>(sym_mem.1 hx).1
 have hNm:∀ a b,a∈symN f ls 8→b∈symN f ls 8→a ^^^ b∈symN f ls 8:=fun a b ha hb=>by
  obtain⟨a1,a2⟩:=sym_mem.1 ha
  obtain⟨b1,b2⟩:=sym_mem.1 hb
  exact sym_mem.2 ⟨(xor_bits a a1 b b1).1,hasI_mul he a1 b1 a2 b2⟩
 have hn8:=symN_le f ls 8
 have h8:=sym_eight (f:=f) (y:=ls) he
 have hPg:∀ (i x:Nat),(symN f ls 8)[i]? = some x→(symL f ls 8)[i]? = some [.bool (bA x),.bool (bB x),.bool (bC x)]:=fun i x hx=>by
  unfold symL
  rw [List.getElem?_map,hx]
  rfl
 have hPl:(symL f ls 8).length=(symN f ls 8).length:=by unfold symL; rw [List.length_map]
 have hpr:∀ q,renLL q (symL f ls 8)=symL f ls 8:=fun q=>closed_symM _ q
 have hdr:∀ q,renLL q ((imgI f ls k).map rowL)=(imgI f ls k).map rowL:=fun q=>renLL_closed q _ (closed_rows _)
 have h23:=c23
 have hsr:=closed_symRs 8
 have hsc:symR k=[.bool (bA k),.bool (bB k),.bool (bC k)]:=rfl
 obtain⟨hsl1,hsl2⟩:=getE hsy
 rw [hsc] at hsy hsl2 hpi
 unfold cV at *
 generalize (imgI f ls k).map rowL=D at *
 generalize ls.map rowL=rows at *
 generalize symRs 8=S at *
 generalize symL f ls 8=P at *
 generalize symN f ls 8=N at *
 obtain⟨n,hn⟩:∃ n,N.length=n:=⟨_,rfl⟩
 rw [hn] at hPl hn8 h8
 have hn0:0<n:=by
  obtain⟨h1,_⟩:=getE hN0
  omega
 have hPn:¬P=[]:=by intro e; rw [e] at hPl; simp at hPl; omega
 rw [imV_ne hPn] at hps hpd
 have hkw0:¬((k:Int)<0):=by omega
 have hkw7:¬((7:Int)<(k:Int)):=by omega
 have hP0:P[0]? = some [.bool false,.bool false,.bool false]:=hPg 0 0 hN0
 obtain⟨hP01,hP02⟩:=getE hP0
 have hne0:=ne_symb false false false
 have hm8:(8:Int).tmod (n:Int)=0:=by
  have:(8:Int).tmod (n:Int)=((8 % n:Nat):Int):=rfl
  rw [this,h8]
  rfl
 have hn0':¬n=0:=by omega
 have hn0i:¬(n:Int)=0:=by omega
 simp
 refine SC_pure h18 ?_
 simp [hkw0,hkw7]
 refine SC_pure hps ?_
 simp [hPl,hn0',hn0i,hP0,hP02,hne0,hm8]
 refine wZ_loop (α:=Nat) (fun i=>[(7,.int .i64 i),(5,.imm P),(4,.bool false),(2,.ptr 1 0 0),(1,.int .i64 k)]) (fun _=>⟨[(1,.cells 2 [[.int .i64 f,.imm rows]])],2⟩) (fun i=>n - i) (fun i=>i≤n) 0 [] (by simp [hpr,hrr]) (by simp) ?_
 intro i hi N1 hN1
 try simp only at hi hN1 ⊢
 by_cases hlt:i<n
 · obtain⟨a,ha⟩:∃ a,N[i]? = some a:=⟨_,List.getElem?_eq_getElem (by omega)⟩
   have hPa:=hPg i a ha
   obtain⟨hPa1,hPa2⟩:=getE hPa
   have hwi:IntKind.i64.wrap ((i:Int)+1)=(i:Int)+1:=wrap64 (by omega) (by omega)
   have ham:=List.mem_of_getElem? ha
   have ha8:=hN8 a ham
   simp [hlt,hPl]
   refine wZ_loop (α:=Nat) (fun j=>[(8,.int .i64 j),(7,.int .i64 i),(5,.imm P),(4,.bool false),(2,.ptr 1 0 0),(1,.int .i64 k)]) (fun _=>⟨[(1,.cells 2 [[.int .i64 f,.imm rows]])],2⟩) (fun j=>n - j) (fun j=>j≤n) 0 [] (by simp [hpr,hrr]) (by simp) ?_
   intro j hj N2 hN2
   try simp only at hj hN2 ⊢
   by_cases hjl:j<n
   · obtain⟨b,hb⟩:∃ b,N[j]? = some b:=⟨_,List.getElem?_eq_getElem (by omega)⟩
     have hPb:=hPg j b hb
     obtain⟨hPb1,hPb2⟩:=getE hPb
     have hwj:IntKind.i64.wrap ((j:Int)+1)=(j:Int)+1:=wrap64 (by omega) (by omega)
     have hbm:=List.mem_of_getElem? hb
     have hb8:=hN8 b hbm
     have hxm:=hNm a b ham hbm
     obtain⟨x1,x2,x3,x4⟩:=xor_bits a ha8 b hb8
     have y2:(!(bA a == bA b))=bA (a ^^^ b):=x2.symm
     have y3:(!(bB a == bB b))=bB (a ^^^ b):=x3.symm
     have y4:(!(bC a == bC b))=bC (a ^^^ b):=x4.symm
     simp [hjl,hlt,hPl,hPa,hPa2,hPb,hPb2,y2,y3,y4]
     have hts:=fun (j y:Nat) (h:N[j]? = some y)=>thr_succ (x:=a ^^^ b) h
     have ht0:thr N (a ^^^ b) 0=false:=by simp [thr]
     have htn:thr N (a ^^^ b) n=true:=by
      unfold thr
      rw [← hn,List.take_length]
      exact decide_eq_true hxm
     have heq:=fun y (hy:y<8)=>eq_symb hy x1
     clear y2 y3 y4 x2 x3 x4
     generalize thr N (a ^^^ b)=T at *
     generalize a ^^^ b=x at *
     have hN2':=hN2 (j+1) []
     refine wZ_loop (α:=Nat) (fun t=>[(11,.int .i64 t),(10,.bool (T t)),(9,.ptr 2 0 0),(8,.int .i64 j),(7,.int .i64 i),(5,.imm P),(4,.bool false),(2,.ptr 1 0 0),(1,.int .i64 k)])
      (fun _=>⟨[(2,.cells 3 [[.bool (bA x),.bool (bB x),.bool (bC x)]]),(1,.cells 2 [[.int .i64 f,.imm rows]])],3⟩) (fun t=>n - t) (fun t=>t≤n) 0 [(2,40)] (by simp [hpr,hrr,ht0]) (by simp) ?_
     intro t ht N3 hN3
     try simp only at ht hN3 ⊢
     by_cases htl:t<n
     · obtain⟨y,hy⟩:∃ y,N[t]? = some y:=⟨_,List.getElem?_eq_getElem (by omega)⟩
       have hPy:=hPg t y hy
       obtain⟨hPy1,hPy2⟩:=getE hPy
       have hwt:IntKind.i64.wrap ((t:Int)+1)=(t:Int)+1:=wrap64 (by omega) (by omega)
       have hy8:=hN8 y (List.mem_of_getElem? hy)
       have hey:=heq y hy8
       have hT:=hts t y hy
       have hN3':=hN3 (t+1) []
       rw [hT] at hN3'
       cases hTt:T t with
       | true=>
        rw [hTt,Bool.true_or] at hN3'
        simp [htl,hPl,hwt]
        exact hN3' _ _ (by omega) (by omega) (by simp [hpr,hrr])
       | false=>
        rw [hTt,Bool.false_or] at hN3'
        generalize decide (y=x)=dd at *
        simp [htl,hPl,hPy,hPy2,hey,hwt]
        exact hN3' _ _ (by omega) (by omega) (by simp [hpr,hrr])
     · have hte:t=n:=by omega
       subst hte
       simp [htl,hPl,htn,hwj]
       exact hN2' _ _ (by omega) (by omega) (by simp [hpr,hrr])
   · simp [hjl,hPl,hwi]
     exact hN1 (i+1) [] _ _ (by omega) (by omega) (by simp [hpr,hrr])
 · simp [hlt,hPl]
   refine DC_pure h23 ?_
   simp [hsy,hsl1,hsl2]
   refine DC_pure hpi ?_
   simp
   refine SC_pure hpd ?_
   simp [hPl]
   refine wZ_loop (α:=Nat) (fun t=>[(16,.int .i64 t),(14,.imm P),(5,.imm P),(4,.bool false)]) (fun _=>⟨[],1⟩) (fun t=>n - t) (fun t=>t≤n) 0 [] (by simp [hpr]) (by simp) ?_
   intro t ht N3 hN3
   try simp only at ht hN3 ⊢
   by_cases htl:t<n
   · obtain⟨y,hy⟩:∃ y,N[t]? = some y:=⟨_,List.getElem?_eq_getElem (by omega)⟩
     have hPy:=hPg t y hy
     obtain⟨hPy1,hPy2⟩:=getE hPy
     have hwt:IntKind.i64.wrap ((t:Int)+1)=(t:Int)+1:=wrap64 (by omega) (by omega)
     have hne:=ne_symb (bA y) (bB y) (bC y)
     have hN3':=hN3 (t+1) []
     simp [htl,hPl,hPy,hPy2,hne,hwt]
     exact hN3' _ _ (by omega) (by omega) (by simp [hpr])
   · simp [htl,hPl]
     refine SC_pure known9g ?_
     simp
     exact endK hK [] (by simp)
theorem cGrp (f:Int) (ls:List Lt) (which:Int):PCall Tryz.prog 3 [cV f ls,.int .i64 which] (.bool true):=
 PCall_1 hm Tryz.func3 cjG rfl rfl (by simp [closedL,AVal.closed,closed_rows]) trivial (grp_run f ls which)
end Go.Known
