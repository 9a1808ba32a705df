/- Part 53 of the proof: Oc, Oh, Ok, Ol, Om. -/
import Derived.Test.YtfmnflhggplkmaaGreatDoorO41
import Derived.Test.YtfmnflhggplkmaaGreatDoorO45
import Derived.Test.YtfmnflhggplkmaaGreatDoorO46
import Derived.Test.YtfmnflhggplkmaaGreatDoorO51
import Derived.Test.YtfmnflhggplkmaaGreatDoorO52
set_option linter.all false
section
namespace Go.Known
open Go Go.AE Go.Proofs
open Go.Plain
attribute [local simp] wW_skip wW_region wW_dregion wW_seq wW_condM wW_block wW_scope wW_exit wW_ret vops_nil vops_one isV isVo xdw_nil xdw_one stK_some
theorem rOp_out {fs:List Fg} {re lo k:Int} (hk:k<1∨4<k):PCall Tryz.prog 26 [frV fs re lo,.int .i64 k] (.tuple [.agg [.int .i64 0,.nilSl],.nilSl,.bool false]):=by
 refine PCall_F hm 5 Tryz.func26 chROpening rfl rfl (by simp[closedL,AVal.closed,closed_rowG,frV]) rfl fun K hK=>?_
 have hKe:=hK (.tuple [.agg [.int .i64 0,.nilSl],.nilSl,.bool false]) ⟨[],1⟩ rfl
 have h2:¬k=2:=by omega
 have h3:¬k=3:=by omega
 have h4:¬k=4:=by omega
 unfold frV
 generalize fs.map rowG=rows at *
 rcases hk with h|h
 ·simp[h2,h3,h4,h]
  exact endK hKe [] (by simp)
 ·have h1:¬k<1:=by omega
  simp[h2,h3,h4,h1,h]
  exact endK hKe [] (by simp)
set_option maxRecDepth 100000 in
set_option maxHeartbeats 8000000 in
theorem rOp_1 {fs:List Fg} {re lo:Int} (hfs:fs.length≤1000):PCall Tryz.prog 26 [frV fs re lo,.int .i64 1] (rOpT fs 1):=by
 refine PCall_ctr (k:=5) (by simp[closedL,AVal.closed,closed_rowG,frV]) (rOpT_closed fs 1) (ctr_W hm [20] (m:=⟨[],1⟩) Tryz.func26 chROpening rfl rfl fun K hK=>?_)
 have hKe:incB fs.length 0 (posO fs 1)=false→K (.tuple [.agg [.int .i64 0,.nilSl],.nilSl,.bool false]) ⟨[],1⟩:=fun h=>hK _ _ (by unfold rOpT openB; rw[h]; rfl)
 have hKv:incB fs.length 0 (posO fs 1)=true → ∀ r M,freezeV (SMem.get M) 5 r=some (.tuple [cV fs.length (hgL (-1) (corn (posO fs 1))),opO 1 (posO fs 1),.bool true])→K r M:=fun h r M hr=>hK _ _ (by unfold rOpT openB; rw[h]; exact hr)
 clear hK
 obtain⟨p,hp⟩:∃ p:Nat→Int,(fun i=>fiR (digF ((digs 1).getD i 0)) fs)=p:=⟨_,rfl⟩
 have hP:posO fs 1=[p 0,p 1,p 2,p 3]:=by rw[← hp]; rfl
 have hple:∀ i,0≤p i∧p i≤fs.length:=fun i=>by rw[← hp]; exact pos_le fs _
 have hc0:PCall Tryz.prog 13 [frV fs re lo,.agg [.int .i64 1,.bool false,.int .i64 1]] (.int .i64 (p 0)):=by rw[← hp]; exact cRIndex ⟨1,false,1⟩ fs re lo hfs
 have hc1:PCall Tryz.prog 13 [frV fs re lo,.agg [.int .i64 1,.bool false,.int .i64 5]] (.int .i64 (p 1)):=by rw[← hp]; exact cRIndex ⟨1,false,5⟩ fs re lo hfs
 have hc2:PCall Tryz.prog 13 [frV fs re lo,.agg [.int .i64 1,.bool true,.int .i64 5]] (.int .i64 (p 2)):=by rw[← hp]; exact cRIndex ⟨1,true,5⟩ fs re lo hfs
 have hc3:PCall Tryz.prog 13 [frV fs re lo,.agg [.int .i64 1,.bool true,.int .i64 1]] (.int .i64 (p 3)):=by rw[← hp]; exact cRIndex ⟨1,true,1⟩ fs re lo hfs
 rw[hP]at hKe hKv
 clear hp hP
 unfold frV at *
 have hrr:∀ q,renLL q (fs.map rowG)=fs.map rowG:=fun q=>renLL_closed q _ (closed_rowG fs)
 have hlenG:(fs.map rowG).length=fs.length:=List.length_map ..
 have w0:IntKind.i64.wrap 0=0:=rfl
 have w1:IntKind.i64.wrap 1=1:=rfl
 have w2:IntKind.i64.wrap 2=2:=rfl
 have w3:IntKind.i64.wrap 3=3:=rfl
 have w4:IntKind.i64.wrap 4=4:=rfl
 have w5:IntKind.i64.wrap 5=5:=rfl
 have w6:IntKind.i64.wrap 6=6:=rfl
 generalize fs.map rowG=rows at *
 simp
 refine wW_loop (α:=Nat) (fun i=>[(9,.int .i64 i),(8,slV 4 (rowP p i)),(7,.sl 3 0 4),(4,.ptr 2 0 0),(2,.ptr 1 0 0),(1,.int .i64 1)])
  (fun i=>⟨(3,.cells 1 [[.int .i64 1],[.int .i64 5],[.int .i64 (-5)],[.int .i64 (-1)]]) :: (2,.cells 2 [[.int .i64 0,.nilSl]]) :: (1,.cells 3 [[.imm rows,.int .i64 re,.int .i64 lo]]) :: blV 4 1 (rowP p i) [],5⟩)
  (fun i=>4 - i) (fun i=>i≤4∧incP fs.length p i=true) 0 [(3,5)] (by simp[hrr,rowP_zero,slV,blV]) (by simp[incP_zero]) ?_
 rintro i ⟨hi,hok⟩ N hN
 try simp only at hi hN ⊢
 rcases (show i=0∨i=1∨i=2∨i=3∨i=4 by omega)with rfl|rfl|rfl|rfl|rfl
 ·have hN':=hN 1
  have hle:=hple 0
  have hgo:=incP_succ fs.length p 0
  rw[hok,Bool.true_and]at hgo
  have hbad:¬lstP p 0<p 0→incB fs.length 0 [p 0,p 1,p 2,p 3]=false:=fun h=>(incP_pre (i:=0+1) (n:=4) (by omega) (by rw[hgo,decide_eq_false h]; rfl):incP fs.length p 4=false)
  have hgood:lstP p 0<p 0→incP fs.length p 1=true:=fun h=>by rw[hgo,decide_eq_true h,decide_eq_true hle.2]; rfl
  have hlow:=incP_low hok
  rw[show lstP p 0=0 from rfl]at hbad hgood hlow
  rw[show rowP p 1=[[.int .i64 (p 0)]] from rfl]at hN'
  rw[show rowP p 0=[] from rfl]
  have hc:=hc0
  simp (config:={maxSteps:=400000}) [w1,w2,w5,slV,blV]
  refine SC_pure hc ?_
  by_cases hz:p 0=0
  ·have hKe:=hKe (hbad (by omega))
   simp (config:={maxSteps:=400000}) [appendRowsD,room,hz]
   exact endK hKe [] (by simp)
  ·simp (config:={maxSteps:=400000}) [appendRowsD,room,hz,w1]
   exact hN' [(4,26)] _ _ (by omega) ⟨by omega,hgood (by omega)⟩ (by simp[hrr,slV,blV])
 ·have hN':=hN 2
  have hle:=hple 1
  have hgo:=incP_succ fs.length p 1
  rw[hok,Bool.true_and]at hgo
  have hbad:¬lstP p 1<p 1→incB fs.length 0 [p 0,p 1,p 2,p 3]=false:=fun h=>(incP_pre (i:=1+1) (n:=4) (by omega) (by rw[hgo,decide_eq_false h]; rfl):incP fs.length p 4=false)
  have hgood:lstP p 1<p 1→incP fs.length p 2=true:=fun h=>by rw[hgo,decide_eq_true h,decide_eq_true hle.2]; rfl
  have hlow:=incP_low hok
  rw[show lstP p 1=p 0 from rfl]at hbad hgood hlow
  rw[show rowP p 2=[[.int .i64 (p 0)],[.int .i64 (p 1)]] from rfl]at hN'
  rw[show rowP p 1=[[.int .i64 (p 0)]] from rfl]
  have hc:=hc1
  simp (config:={maxSteps:=400000}) [w1,w2,w5,slV,blV]
  refine SC_pure hc ?_
  by_cases hz:p 1=0
  ·have hKe:=hKe (hbad (by omega))
   simp (config:={maxSteps:=400000}) [appendRowsD,room,hz]
   exact endK hKe [] (by simp)
  ·by_cases hq:p 1≤p 0
   ·have hKe:=hKe (hbad (by omega))
    simp (config:={maxSteps:=400000}) [appendRowsD,room,hz,hq,w0]
    exact endK hKe [] (by simp)
   ·simp (config:={maxSteps:=400000}) [appendRowsD,room,hz,hq,w0,w2]
    exact hN' [(4,26)] _ _ (by omega) ⟨by omega,hgood (by omega)⟩ (by simp[hrr,slV,blV])
 ·have hN':=hN 3
  have hle:=hple 2
  have hgo:=incP_succ fs.length p 2
  rw[hok,Bool.true_and]at hgo
  have hbad:¬lstP p 2<p 2→incB fs.length 0 [p 0,p 1,p 2,p 3]=false:=fun h=>(incP_pre (i:=2+1) (n:=4) (by omega) (by rw[hgo,decide_eq_false h]; rfl):incP fs.length p 4=false)
  have hgood:lstP p 2<p 2→incP fs.length p 3=true:=fun h=>by rw[hgo,decide_eq_true h,decide_eq_true hle.2]; rfl
  have hlow:=incP_low hok
  rw[show lstP p 2=p 1 from rfl]at hbad hgood hlow
  rw[show rowP p 3=[[.int .i64 (p 0)],[.int .i64 (p 1)],[.int .i64 (p 2)]] from rfl]at hN'
  rw[show rowP p 2=[[.int .i64 (p 0)],[.int .i64 (p 1)]] from rfl]
  have hc:=hc2
  simp (config:={maxSteps:=400000}) [w1,w2,w5,slV,blV]
  refine SC_pure hc ?_
  by_cases hz:p 2=0
  ·have hKe:=hKe (hbad (by omega))
   simp (config:={maxSteps:=400000}) [appendRowsD,room,hz]
   exact endK hKe [] (by simp)
  ·by_cases hq:p 2≤p 1
   ·have hKe:=hKe (hbad (by omega))
    simp (config:={maxSteps:=400000}) [appendRowsD,room,hz,hq,w1]
    exact endK hKe [] (by simp)
   ·simp (config:={maxSteps:=400000}) [appendRowsD,room,hz,hq,w1,w3]
    exact hN' [(4,33)] _ _ (by omega) ⟨by omega,hgood (by omega)⟩ (by simp[hrr,slV,blV])
 ·have hN':=hN 4
  have hle:=hple 3
  have hgo:=incP_succ fs.length p 3
  rw[hok,Bool.true_and]at hgo
  have hbad:¬lstP p 3<p 3→incB fs.length 0 [p 0,p 1,p 2,p 3]=false:=fun h=>(incP_pre (i:=3+1) (n:=4) (by omega) (by rw[hgo,decide_eq_false h]; rfl):incP fs.length p 4=false)
  have hgood:lstP p 3<p 3→incP fs.length p 4=true:=fun h=>by rw[hgo,decide_eq_true h,decide_eq_true hle.2]; rfl
  have hlow:=incP_low hok
  rw[show lstP p 3=p 2 from rfl]at hbad hgood hlow
  rw[show rowP p 4=[[.int .i64 (p 0)],[.int .i64 (p 1)],[.int .i64 (p 2)],[.int .i64 (p 3)]] from rfl]at hN'
  rw[show rowP p 3=[[.int .i64 (p 0)],[.int .i64 (p 1)],[.int .i64 (p 2)]] from rfl]
  have hc:=hc3
  simp (config:={maxSteps:=400000}) [w1,w2,w5,slV,blV]
  refine SC_pure hc ?_
  by_cases hz:p 3=0
  ·have hKe:=hKe (hbad (by omega))
   simp (config:={maxSteps:=400000}) [appendRowsD,room,hz]
   exact endK hKe [] (by simp)
  ·by_cases hq:p 3≤p 2
   ·have hKe:=hKe (hbad (by omega))
    simp (config:={maxSteps:=400000}) [appendRowsD,room,hz,hq,w2]
    exact endK hKe [] (by simp)
   ·simp (config:={maxSteps:=400000}) [appendRowsD,room,hz,hq,w2,w4]
    exact hN' [(4,33)] _ _ (by omega) ⟨by omega,hgood (by omega)⟩ (by simp[hrr,slV,blV])
 ·have hI:incB fs.length 0 [p 0,p 1,p 2,p 3]=true:=hok
  have hh:=cRHangV fs.length [p 0,p 1,p 2,p 3] hfs (by simp) (by exact hI)
  rw[show rowP p 4=[[.int .i64 (p 0)],[.int .i64 (p 1)],[.int .i64 (p 2)],[.int .i64 (p 3)]] from rfl]
  have hz:=fun get=>frz_immR (get:=get) (n:=1) (scal_rows (hgL (-1) [p 0,p 1,p 2,p 3]))
  have hKf:=hKv hI (.tuple [cV fs.length (hgL (-1) [p 0,p 1,p 2,p 3]),.nilSl,.bool true]) ⟨[],1⟩ (frz_tri (n:=2) (hz _) rfl rfl)
  have hrL:=fun q=>renLL_closed q _ (closed_rows (hgL (-1) [p 0,p 1,p 2,p 3]))
  unfold cV at hh hKf
  generalize (hgL (-1) [p 0,p 1,p 2,p 3]).map rowL=rowsL at *
  simp (config:={maxSteps:=400000}) [hlenG,irow,slV,blV]
  refine SC_frz hh [4] (n:=8) (by rfl) ?_
  simp (config:={maxSteps:=400000})
  exact endK hKf [] (by simp[hrL])
set_option maxRecDepth 100000 in
set_option maxHeartbeats 8000000 in
theorem rOp_2 {fs:List Fg} {re lo:Int} (hfs:fs.length≤1000):PCall Tryz.prog 26 [frV fs re lo,.int .i64 2] (rOpT fs 2):=by
 refine PCall_ctr (k:=5) (by simp[closedL,AVal.closed,closed_rowG,frV]) (rOpT_closed fs 2) (ctr_W hm [20] (m:=⟨[],1⟩) Tryz.func26 chROpening rfl rfl fun K hK=>?_)
 have hKe:incB fs.length 0 (posO fs 2)=false→K (.tuple [.agg [.int .i64 0,.nilSl],.nilSl,.bool false]) ⟨[],1⟩:=fun h=>hK _ _ (by unfold rOpT openB; rw[h]; rfl)
 have hKv:incB fs.length 0 (posO fs 2)=true → ∀ r M,freezeV (SMem.get M) 5 r=some (.tuple [cV fs.length (hgL (-1) (corn (posO fs 2))),opO 2 (posO fs 2),.bool true])→K r M:=fun h r M hr=>hK _ _ (by unfold rOpT openB; rw[h]; exact hr)
 clear hK
 obtain⟨p,hp⟩:∃ p:Nat→Int,(fun i=>fiR (digF ((digs 2).getD i 0)) fs)=p:=⟨_,rfl⟩
 have hP:posO fs 2=[p 0,p 1,p 2,p 3,p 4,p 5]:=by rw[← hp]; rfl
 have hple:∀ i,0≤p i∧p i≤fs.length:=fun i=>by rw[← hp]; exact pos_le fs _
 have hc0:PCall Tryz.prog 13 [frV fs re lo,.agg [.int .i64 1,.bool false,.int .i64 1]] (.int .i64 (p 0)):=by rw[← hp]; exact cRIndex ⟨1,false,1⟩ fs re lo hfs
 have hc1:PCall Tryz.prog 13 [frV fs re lo,.agg [.int .i64 1,.bool false,.int .i64 2]] (.int .i64 (p 1)):=by rw[← hp]; exact cRIndex ⟨1,false,2⟩ fs re lo hfs
 have hc2:PCall Tryz.prog 13 [frV fs re lo,.agg [.int .i64 1,.bool false,.int .i64 5]] (.int .i64 (p 2)):=by rw[← hp]; exact cRIndex ⟨1,false,5⟩ fs re lo hfs
 have hc3:PCall Tryz.prog 13 [frV fs re lo,.agg [.int .i64 1,.bool true,.int .i64 5]] (.int .i64 (p 3)):=by rw[← hp]; exact cRIndex ⟨1,true,5⟩ fs re lo hfs
 have hc4:PCall Tryz.prog 13 [frV fs re lo,.agg [.int .i64 1,.bool true,.int .i64 2]] (.int .i64 (p 4)):=by rw[← hp]; exact cRIndex ⟨1,true,2⟩ fs re lo hfs
 have hc5:PCall Tryz.prog 13 [frV fs re lo,.agg [.int .i64 1,.bool true,.int .i64 1]] (.int .i64 (p 5)):=by rw[← hp]; exact cRIndex ⟨1,true,1⟩ fs re lo hfs
 rw[hP]at hKe hKv
 clear hp hP
 unfold frV at *
 have hrr:∀ q,renLL q (fs.map rowG)=fs.map rowG:=fun q=>renLL_closed q _ (closed_rowG fs)
 have hlenG:(fs.map rowG).length=fs.length:=List.length_map ..
 have w0:IntKind.i64.wrap 0=0:=rfl
 have w1:IntKind.i64.wrap 1=1:=rfl
 have w2:IntKind.i64.wrap 2=2:=rfl
 have w3:IntKind.i64.wrap 3=3:=rfl
 have w4:IntKind.i64.wrap 4=4:=rfl
 have w5:IntKind.i64.wrap 5=5:=rfl
 have w6:IntKind.i64.wrap 6=6:=rfl
 generalize fs.map rowG=rows at *
 simp
 refine wW_loop (α:=Nat) (fun i=>[(9,.int .i64 i),(8,slV 4 (rowP p i)),(7,.sl 3 0 6),(4,.ptr 2 0 0),(2,.ptr 1 0 0),(1,.int .i64 2)])
  (fun i=>⟨(3,.cells 1 [[.int .i64 1],[.int .i64 2],[.int .i64 5],[.int .i64 (-5)],[.int .i64 (-2)],[.int .i64 (-1)]]) :: (2,.cells 2 [[.int .i64 0,.nilSl]]) :: (1,.cells 3 [[.imm rows,.int .i64 re,.int .i64 lo]]) :: blV 4 1 (rowP p i) [],5⟩)
  (fun i=>6 - i) (fun i=>i≤6∧incP fs.length p i=true) 0 [(3,13)] (by simp[hrr,rowP_zero,slV,blV]) (by simp[incP_zero]) ?_
 rintro i ⟨hi,hok⟩ N hN
 try simp only at hi hN ⊢
 rcases (show i=0∨i=1∨i=2∨i=3∨i=4∨i=5∨i=6 by omega)with rfl|rfl|rfl|rfl|rfl|rfl|rfl
 ·have hN':=hN 1
  have hle:=hple 0
  have hgo:=incP_succ fs.length p 0
  rw[hok,Bool.true_and]at hgo
  have hbad:¬lstP p 0<p 0→incB fs.length 0 [p 0,p 1,p 2,p 3,p 4,p 5]=false:=fun h=>(incP_pre (i:=0+1) (n:=6) (by omega) (by rw[hgo,decide_eq_false h]; rfl):incP fs.length p 6=false)
  have hgood:lstP p 0<p 0→incP fs.length p 1=true:=fun h=>by rw[hgo,decide_eq_true h,decide_eq_true hle.2]; rfl
  have hlow:=incP_low hok
  rw[show lstP p 0=0 from rfl]at hbad hgood hlow
  rw[show rowP p 1=[[.int .i64 (p 0)]] from rfl]at hN'
  rw[show rowP p 0=[] from rfl]
  have hc:=hc0
  simp (config:={maxSteps:=400000}) [w1,w2,w5,slV,blV]
  refine SC_pure hc ?_
  by_cases hz:p 0=0
  ·have hKe:=hKe (hbad (by omega))
   simp (config:={maxSteps:=400000}) [appendRowsD,room,hz]
   exact endK hKe [] (by simp)
  ·simp (config:={maxSteps:=400000}) [appendRowsD,room,hz,w1]
   exact hN' [(4,26)] _ _ (by omega) ⟨by omega,hgood (by omega)⟩ (by simp[hrr,slV,blV])
 ·have hN':=hN 2
  have hle:=hple 1
  have hgo:=incP_succ fs.length p 1
  rw[hok,Bool.true_and]at hgo
  have hbad:¬lstP p 1<p 1→incB fs.length 0 [p 0,p 1,p 2,p 3,p 4,p 5]=false:=fun h=>(incP_pre (i:=1+1) (n:=6) (by omega) (by rw[hgo,decide_eq_false h]; rfl):incP fs.length p 6=false)
  have hgood:lstP p 1<p 1→incP fs.length p 2=true:=fun h=>by rw[hgo,decide_eq_true h,decide_eq_true hle.2]; rfl
  have hlow:=incP_low hok
  rw[show lstP p 1=p 0 from rfl]at hbad hgood hlow
  rw[show rowP p 2=[[.int .i64 (p 0)],[.int .i64 (p 1)]] from rfl]at hN'
  rw[show rowP p 1=[[.int .i64 (p 0)]] from rfl]
  have hc:=hc1
  simp (config:={maxSteps:=400000}) [w1,w2,w5,slV,blV]
  refine SC_pure hc ?_
  by_cases hz:p 1=0
  ·have hKe:=hKe (hbad (by omega))
   simp (config:={maxSteps:=400000}) [appendRowsD,room,hz]
   exact endK hKe [] (by simp)
  ·by_cases hq:p 1≤p 0
   ·have hKe:=hKe (hbad (by omega))
    simp (config:={maxSteps:=400000}) [appendRowsD,room,hz,hq,w0]
    exact endK hKe [] (by simp)
   ·simp (config:={maxSteps:=400000}) [appendRowsD,room,hz,hq,w0,w2]
    exact hN' [(4,26)] _ _ (by omega) ⟨by omega,hgood (by omega)⟩ (by simp[hrr,slV,blV])
 ·have hN':=hN 3
  have hle:=hple 2
  have hgo:=incP_succ fs.length p 2
  rw[hok,Bool.true_and]at hgo
  have hbad:¬lstP p 2<p 2→incB fs.length 0 [p 0,p 1,p 2,p 3,p 4,p 5]=false:=fun h=>(incP_pre (i:=2+1) (n:=6) (by omega) (by rw[hgo,decide_eq_false h]; rfl):incP fs.length p 6=false)
  have hgood:lstP p 2<p 2→incP fs.length p 3=true:=fun h=>by rw[hgo,decide_eq_true h,decide_eq_true hle.2]; rfl
  have hlow:=incP_low hok
  rw[show lstP p 2=p 1 from rfl]at hbad hgood hlow
  rw[show rowP p 3=[[.int .i64 (p 0)],[.int .i64 (p 1)],[.int .i64 (p 2)]] from rfl]at hN'
  rw[show rowP p 2=[[.int .i64 (p 0)],[.int .i64 (p 1)]] from rfl]
  have hc:=hc2
  simp (config:={maxSteps:=400000}) [w1,w2,w5,slV,blV]
  refine SC_pure hc ?_
  by_cases hz:p 2=0
  ·have hKe:=hKe (hbad (by omega))
   simp (config:={maxSteps:=400000}) [appendRowsD,room,hz]
   exact endK hKe [] (by simp)
  ·by_cases hq:p 2≤p 1
   ·have hKe:=hKe (hbad (by omega))
    simp (config:={maxSteps:=400000}) [appendRowsD,room,hz,hq,w1]
    exact endK hKe [] (by simp)
   ·simp (config:={maxSteps:=400000}) [appendRowsD,room,hz,hq,w1,w3]
    exact hN' [(4,26)] _ _ (by omega) ⟨by omega,hgood (by omega)⟩ (by simp[hrr,slV,blV])
 ·have hN':=hN 4
  have hle:=hple 3
  have hgo:=incP_succ fs.length p 3
  rw[hok,Bool.true_and]at hgo
  have hbad:¬lstP p 3<p 3→incB fs.length 0 [p 0,p 1,p 2,p 3,p 4,p 5]=false:=fun h=>(incP_pre (i:=3+1) (n:=6) (by omega) (by rw[hgo,decide_eq_false h]; rfl):incP fs.length p 6=false)
  have hgood:lstP p 3<p 3→incP fs.length p 4=true:=fun h=>by rw[hgo,decide_eq_true h,decide_eq_true hle.2]; rfl
  have hlow:=incP_low hok
  rw[show lstP p 3=p 2 from rfl]at hbad hgood hlow
  rw[show rowP p 4=[[.int .i64 (p 0)],[.int .i64 (p 1)],[.int .i64 (p 2)],[.int .i64 (p 3)]] from rfl]at hN'
  rw[show rowP p 3=[[.int .i64 (p 0)],[.int .i64 (p 1)],[.int .i64 (p 2)]] from rfl]
  have hc:=hc3
  simp (config:={maxSteps:=400000}) [w1,w2,w5,slV,blV]
  refine SC_pure hc ?_
  by_cases hz:p 3=0
  ·have hKe:=hKe (hbad (by omega))
   simp (config:={maxSteps:=400000}) [appendRowsD,room,hz]
   exact endK hKe [] (by simp)
  ·by_cases hq:p 3≤p 2
   ·have hKe:=hKe (hbad (by omega))
    simp (config:={maxSteps:=400000}) [appendRowsD,room,hz,hq,w2]
    exact endK hKe [] (by simp)
   ·simp (config:={maxSteps:=400000}) [appendRowsD,room,hz,hq,w2,w4]
    exact hN' [(4,33)] _ _ (by omega) ⟨by omega,hgood (by omega)⟩ (by simp[hrr,slV,blV])
 ·have hN':=hN 5
  have hle:=hple 4
  have hgo:=incP_succ fs.length p 4
  rw[hok,Bool.true_and]at hgo
  have hbad:¬lstP p 4<p 4→incB fs.length 0 [p 0,p 1,p 2,p 3,p 4,p 5]=false:=fun h=>(incP_pre (i:=4+1) (n:=6) (by omega) (by rw[hgo,decide_eq_false h]; rfl):incP fs.length p 6=false)
  have hgood:lstP p 4<p 4→incP fs.length p 5=true:=fun h=>by rw[hgo,decide_eq_true h,decide_eq_true hle.2]; rfl
  have hlow:=incP_low hok
  rw[show lstP p 4=p 3 from rfl]at hbad hgood hlow
  rw[show rowP p 5=[[.int .i64 (p 0)],[.int .i64 (p 1)],[.int .i64 (p 2)],[.int .i64 (p 3)],[.int .i64 (p 4)]] from rfl]at hN'
  rw[show rowP p 4=[[.int .i64 (p 0)],[.int .i64 (p 1)],[.int .i64 (p 2)],[.int .i64 (p 3)]] from rfl]
  have hc:=hc4
  simp (config:={maxSteps:=400000}) [w1,w2,w5,slV,blV]
  refine SC_pure hc ?_
  by_cases hz:p 4=0
  ·have hKe:=hKe (hbad (by omega))
   simp (config:={maxSteps:=400000}) [appendRowsD,room,hz]
   exact endK hKe [] (by simp)
  ·by_cases hq:p 4≤p 3
   ·have hKe:=hKe (hbad (by omega))
    simp (config:={maxSteps:=400000}) [appendRowsD,room,hz,hq,w3]
    exact endK hKe [] (by simp)
   ·simp (config:={maxSteps:=400000}) [appendRowsD,room,hz,hq,w3,w5]
    exact hN' [(4,33)] _ _ (by omega) ⟨by omega,hgood (by omega)⟩ (by simp[hrr,slV,blV])
 ·have hN':=hN 6
  have hle:=hple 5
  have hgo:=incP_succ fs.length p 5
  rw[hok,Bool.true_and]at hgo
  have hbad:¬lstP p 5<p 5→incB fs.length 0 [p 0,p 1,p 2,p 3,p 4,p 5]=false:=fun h=>(incP_pre (i:=5+1) (n:=6) (by omega) (by rw[hgo,decide_eq_false h]; rfl):incP fs.length p 6=false)
  have hgood:lstP p 5<p 5→incP fs.length p 6=true:=fun h=>by rw[hgo,decide_eq_true h,decide_eq_true hle.2]; rfl
  have hlow:=incP_low hok
  rw[show lstP p 5=p 4 from rfl]at hbad hgood hlow
  rw[show rowP p 6=[[.int .i64 (p 0)],[.int .i64 (p 1)],[.int .i64 (p 2)],[.int .i64 (p 3)],[.int .i64 (p 4)],[.int .i64 (p 5)]] from rfl]at hN'
  rw[show rowP p 5=[[.int .i64 (p 0)],[.int .i64 (p 1)],[.int .i64 (p 2)],[.int .i64 (p 3)],[.int .i64 (p 4)]] from rfl]
  have hc:=hc5
  simp (config:={maxSteps:=400000}) [w1,w2,w5,slV,blV]
  refine SC_pure hc ?_
  by_cases hz:p 5=0
  ·have hKe:=hKe (hbad (by omega))
   simp (config:={maxSteps:=400000}) [appendRowsD,room,hz]
   exact endK hKe [] (by simp)
  ·by_cases hq:p 5≤p 4
   ·have hKe:=hKe (hbad (by omega))
    simp (config:={maxSteps:=400000}) [appendRowsD,room,hz,hq,w4]
    exact endK hKe [] (by simp)
   ·simp (config:={maxSteps:=400000}) [appendRowsD,room,hz,hq,w4,w6]
    exact hN' [(4,33)] _ _ (by omega) ⟨by omega,hgood (by omega)⟩ (by simp[hrr,slV,blV])
 ·have hI:incB fs.length 0 [p 0,p 1,p 2,p 3,p 4,p 5]=true:=hok
  have hh:=cRHangV fs.length [p 0,p 2,p 3,p 5] hfs (by simp) (by exact inc6 hI)
  rw[show rowP p 6=[[.int .i64 (p 0)],[.int .i64 (p 1)],[.int .i64 (p 2)],[.int .i64 (p 3)],[.int .i64 (p 4)],[.int .i64 (p 5)]] from rfl]
  have hz:=fun get=>frz_immR (get:=get) (n:=1) (scal_rows (hgL (-1) [p 0,p 2,p 3,p 5]))
  have hKf:=hKv hI (.tuple [cV fs.length (hgL (-1) [p 0,p 2,p 3,p 5]),.sl 2 0 2,.bool true]) ⟨[(2,.cells 8 [[.int .i64 3,.int .i64 (p 4),.int .i64 (p 2),.int .i64 1,.bool false,.int .i64 0,.sl 1 0 1,.bool false],opQ (p 1) (p 3)]),(1,.cells 5 [[.int .i64 (p 3),.int .i64 1,.bool false,.int .i64 0,.bool true]])],3⟩ (frz_tri (n:=2) (hz _) rfl rfl)
  have hrL:=fun q=>renLL_closed q _ (closed_rows (hgL (-1) [p 0,p 2,p 3,p 5]))
  unfold cV at hh
  unfold cV opQ at hKf
  generalize (hgL (-1) [p 0,p 2,p 3,p 5]).map rowL=rowsL at *
  simp (config:={maxSteps:=400000}) [hlenG,irow,slV,blV,isW]
  refine WC_frz hh [27] (n:=8) (by rfl) (by decide) (by simp[xAf]) ?_
  simp (config:={maxSteps:=400000}) [slV,blV,isW,xAf,w1]
  exact endK hKf [(1,59),(2,65)] (by simp[hrL])
set_option maxRecDepth 100000 in
set_option maxHeartbeats 8000000 in
theorem rOp_3 {fs:List Fg} {re lo:Int} (hfs:fs.length≤1000):PCall Tryz.prog 26 [frV fs re lo,.int .i64 3] (rOpT fs 3):=by
 refine PCall_ctr (k:=5) (by simp[closedL,AVal.closed,closed_rowG,frV]) (rOpT_closed fs 3) (ctr_W hm [20] (m:=⟨[],1⟩) Tryz.func26 chROpening rfl rfl fun K hK=>?_)
 have hKe:incB fs.length 0 (posO fs 3)=false→K (.tuple [.agg [.int .i64 0,.nilSl],.nilSl,.bool false]) ⟨[],1⟩:=fun h=>hK _ _ (by unfold rOpT openB; rw[h]; rfl)
 have hKv:incB fs.length 0 (posO fs 3)=true → ∀ r M,freezeV (SMem.get M) 5 r=some (.tuple [cV fs.length (hgL (-1) (corn (posO fs 3))),opO 3 (posO fs 3),.bool true])→K r M:=fun h r M hr=>hK _ _ (by unfold rOpT openB; rw[h]; exact hr)
 clear hK
 obtain⟨p,hp⟩:∃ p:Nat→Int,(fun i=>fiR (digF ((digs 3).getD i 0)) fs)=p:=⟨_,rfl⟩
 have hP:posO fs 3=[p 0,p 1,p 2,p 3,p 4,p 5]:=by rw[← hp]; rfl
 have hple:∀ i,0≤p i∧p i≤fs.length:=fun i=>by rw[← hp]; exact pos_le fs _
 have hc0:PCall Tryz.prog 13 [frV fs re lo,.agg [.int .i64 1,.bool false,.int .i64 1]] (.int .i64 (p 0)):=by rw[← hp]; exact cRIndex ⟨1,false,1⟩ fs re lo hfs
 have hc1:PCall Tryz.prog 13 [frV fs re lo,.agg [.int .i64 1,.bool false,.int .i64 2]] (.int .i64 (p 1)):=by rw[← hp]; exact cRIndex ⟨1,false,2⟩ fs re lo hfs
 have hc2:PCall Tryz.prog 13 [frV fs re lo,.agg [.int .i64 1,.bool false,.int .i64 5]] (.int .i64 (p 2)):=by rw[← hp]; exact cRIndex ⟨1,false,5⟩ fs re lo hfs
 have hc3:PCall Tryz.prog 13 [frV fs re lo,.agg [.int .i64 1,.bool true,.int .i64 5]] (.int .i64 (p 3)):=by rw[← hp]; exact cRIndex ⟨1,true,5⟩ fs re lo hfs
 have hc4:PCall Tryz.prog 13 [frV fs re lo,.agg [.int .i64 1,.bool true,.int .i64 2]] (.int .i64 (p 4)):=by rw[← hp]; exact cRIndex ⟨1,true,2⟩ fs re lo hfs
 have hc5:PCall Tryz.prog 13 [frV fs re lo,.agg [.int .i64 1,.bool true,.int .i64 1]] (.int .i64 (p 5)):=by rw[← hp]; exact cRIndex ⟨1,true,1⟩ fs re lo hfs
 rw[hP]at hKe hKv
 clear hp hP
 unfold frV at *
 have hrr:∀ q,renLL q (fs.map rowG)=fs.map rowG:=fun q=>renLL_closed q _ (closed_rowG fs)
 have hlenG:(fs.map rowG).length=fs.length:=List.length_map ..
 have w0:IntKind.i64.wrap 0=0:=rfl
 have w1:IntKind.i64.wrap 1=1:=rfl
 have w2:IntKind.i64.wrap 2=2:=rfl
 have w3:IntKind.i64.wrap 3=3:=rfl
 have w4:IntKind.i64.wrap 4=4:=rfl
 have w5:IntKind.i64.wrap 5=5:=rfl
 have w6:IntKind.i64.wrap 6=6:=rfl
 generalize fs.map rowG=rows at *
 simp
 refine wW_loop (α:=Nat) (fun i=>[(9,.int .i64 i),(8,slV 4 (rowP p i)),(7,.sl 3 0 6),(4,.ptr 2 0 0),(2,.ptr 1 0 0),(1,.int .i64 3)])
  (fun i=>⟨(3,.cells 1 [[.int .i64 1],[.int .i64 2],[.int .i64 5],[.int .i64 (-5)],[.int .i64 (-2)],[.int .i64 (-1)]]) :: (2,.cells 2 [[.int .i64 0,.nilSl]]) :: (1,.cells 3 [[.imm rows,.int .i64 re,.int .i64 lo]]) :: blV 4 1 (rowP p i) [],5⟩)
  (fun i=>6 - i) (fun i=>i≤6∧incP fs.length p i=true) 0 [(3,13)] (by simp[hrr,rowP_zero,slV,blV]) (by simp[incP_zero]) ?_
 rintro i ⟨hi,hok⟩ N hN
 try simp only at hi hN ⊢
 rcases (show i=0∨i=1∨i=2∨i=3∨i=4∨i=5∨i=6 by omega)with rfl|rfl|rfl|rfl|rfl|rfl|rfl
 ·have hN':=hN 1
  have hle:=hple 0
  have hgo:=incP_succ fs.length p 0
  rw[hok,Bool.true_and]at hgo
  have hbad:¬lstP p 0<p 0→incB fs.length 0 [p 0,p 1,p 2,p 3,p 4,p 5]=false:=fun h=>(incP_pre (i:=0+1) (n:=6) (by omega) (by rw[hgo,decide_eq_false h]; rfl):incP fs.length p 6=false)
  have hgood:lstP p 0<p 0→incP fs.length p 1=true:=fun h=>by rw[hgo,decide_eq_true h,decide_eq_true hle.2]; rfl
  have hlow:=incP_low hok
  rw[show lstP p 0=0 from rfl]at hbad hgood hlow
  rw[show rowP p 1=[[.int .i64 (p 0)]] from rfl]at hN'
  rw[show rowP p 0=[] from rfl]
  have hc:=hc0
  simp (config:={maxSteps:=400000}) [w1,w2,w5,slV,blV]
  refine SC_pure hc ?_
  by_cases hz:p 0=0
  ·have hKe:=hKe (hbad (by omega))
   simp (config:={maxSteps:=400000}) [appendRowsD,room,hz]
   exact endK hKe [] (by simp)
  ·simp (config:={maxSteps:=400000}) [appendRowsD,room,hz,w1]
   exact hN' [(4,26)] _ _ (by omega) ⟨by omega,hgood (by omega)⟩ (by simp[hrr,slV,blV])
 ·have hN':=hN 2
  have hle:=hple 1
  have hgo:=incP_succ fs.length p 1
  rw[hok,Bool.true_and]at hgo
  have hbad:¬lstP p 1<p 1→incB fs.length 0 [p 0,p 1,p 2,p 3,p 4,p 5]=false:=fun h=>(incP_pre (i:=1+1) (n:=6) (by omega) (by rw[hgo,decide_eq_false h]; rfl):incP fs.length p 6=false)
  have hgood:lstP p 1<p 1→incP fs.length p 2=true:=fun h=>by rw[hgo,decide_eq_true h,decide_eq_true hle.2]; rfl
  have hlow:=incP_low hok
  rw[show lstP p 1=p 0 from rfl]at hbad hgood hlow
  rw[show rowP p 2=[[.int .i64 (p 0)],[.int .i64 (p 1)]] from rfl]at hN'
  rw[show rowP p 1=[[.int .i64 (p 0)]] from rfl]
  have hc:=hc1
  simp (config:={maxSteps:=400000}) [w1,w2,w5,slV,blV]
  refine SC_pure hc ?_
  by_cases hz:p 1=0
  ·have hKe:=hKe (hbad (by omega))
   simp (config:={maxSteps:=400000}) [appendRowsD,room,hz]
   exact endK hKe [] (by simp)
  ·by_cases hq:p 1≤p 0
   ·have hKe:=hKe (hbad (by omega))
    simp (config:={maxSteps:=400000}) [appendRowsD,room,hz,hq,w0]
    exact endK hKe [] (by simp)
   ·simp (config:={maxSteps:=400000}) [appendRowsD,room,hz,hq,w0,w2]
    exact hN' [(4,26)] _ _ (by omega) ⟨by omega,hgood (by omega)⟩ (by simp[hrr,slV,blV])
 ·have hN':=hN 3
  have hle:=hple 2
  have hgo:=incP_succ fs.length p 2
  rw[hok,Bool.true_and]at hgo
  have hbad:¬lstP p 2<p 2→incB fs.length 0 [p 0,p 1,p 2,p 3,p 4,p 5]=false:=fun h=>(incP_pre (i:=2+1) (n:=6) (by omega) (by rw[hgo,decide_eq_false h]; rfl):incP fs.length p 6=false)
  have hgood:lstP p 2<p 2→incP fs.length p 3=true:=fun h=>by rw[hgo,decide_eq_true h,decide_eq_true hle.2]; rfl
  have hlow:=incP_low hok
  rw[show lstP p 2=p 1 from rfl]at hbad hgood hlow
  rw[show rowP p 3=[[.int .i64 (p 0)],[.int .i64 (p 1)],[.int .i64 (p 2)]] from rfl]at hN'
  rw[show rowP p 2=[[.int .i64 (p 0)],[.int .i64 (p 1)]] from rfl]
  have hc:=hc2
  simp (config:={maxSteps:=400000}) [w1,w2,w5,slV,blV]
  refine SC_pure hc ?_
  by_cases hz:p 2=0
  ·have hKe:=hKe (hbad (by omega))
   simp (config:={maxSteps:=400000}) [appendRowsD,room,hz]
   exact endK hKe [] (by simp)
  ·by_cases hq:p 2≤p 1
   ·have hKe:=hKe (hbad (by omega))
    simp (config:={maxSteps:=400000}) [appendRowsD,room,hz,hq,w1]
    exact endK hKe [] (by simp)
   ·simp (config:={maxSteps:=400000}) [appendRowsD,room,hz,hq,w1,w3]
    exact hN' [(4,26)] _ _ (by omega) ⟨by omega,hgood (by omega)⟩ (by simp[hrr,slV,blV])
 ·have hN':=hN 4
  have hle:=hple 3
  have hgo:=incP_succ fs.length p 3
  rw[hok,Bool.true_and]at hgo
  have hbad:¬lstP p 3<p 3→incB fs.length 0 [p 0,p 1,p 2,p 3,p 4,p 5]=false:=fun h=>(incP_pre (i:=3+1) (n:=6) (by omega) (by rw[hgo,decide_eq_false h]; rfl):incP fs.length p 6=false)
  have hgood:lstP p 3<p 3→incP fs.length p 4=true:=fun h=>by rw[hgo,decide_eq_true h,decide_eq_true hle.2]; rfl
  have hlow:=incP_low hok
  rw[show lstP p 3=p 2 from rfl]at hbad hgood hlow
  rw[show rowP p 4=[[.int .i64 (p 0)],[.int .i64 (p 1)],[.int .i64 (p 2)],[.int .i64 (p 3)]] from rfl]at hN'
  rw[show rowP p 3=[[.int .i64 (p 0)],[.int .i64 (p 1)],[.int .i64 (p 2)]] from rfl]
  have hc:=hc3
  simp (config:={maxSteps:=400000}) [w1,w2,w5,slV,blV]
  refine SC_pure hc ?_
  by_cases hz:p 3=0
  ·have hKe:=hKe (hbad (by omega))
   simp (config:={maxSteps:=400000}) [appendRowsD,room,hz]
   exact endK hKe [] (by simp)
  ·by_cases hq:p 3≤p 2
   ·have hKe:=hKe (hbad (by omega))
    simp (config:={maxSteps:=400000}) [appendRowsD,room,hz,hq,w2]
    exact endK hKe [] (by simp)
   ·simp (config:={maxSteps:=400000}) [appendRowsD,room,hz,hq,w2,w4]
    exact hN' [(4,33)] _ _ (by omega) ⟨by omega,hgood (by omega)⟩ (by simp[hrr,slV,blV])
 ·have hN':=hN 5
  have hle:=hple 4
  have hgo:=incP_succ fs.length p 4
  rw[hok,Bool.true_and]at hgo
  have hbad:¬lstP p 4<p 4→incB fs.length 0 [p 0,p 1,p 2,p 3,p 4,p 5]=false:=fun h=>(incP_pre (i:=4+1) (n:=6) (by omega) (by rw[hgo,decide_eq_false h]; rfl):incP fs.length p 6=false)
  have hgood:lstP p 4<p 4→incP fs.length p 5=true:=fun h=>by rw[hgo,decide_eq_true h,decide_eq_true hle.2]; rfl
  have hlow:=incP_low hok
  rw[show lstP p 4=p 3 from rfl]at hbad hgood hlow
  rw[show rowP p 5=[[.int .i64 (p 0)],[.int .i64 (p 1)],[.int .i64 (p 2)],[.int .i64 (p 3)],[.int .i64 (p 4)]] from rfl]at hN'
  rw[show rowP p 4=[[.int .i64 (p 0)],[.int .i64 (p 1)],[.int .i64 (p 2)],[.int .i64 (p 3)]] from rfl]
  have hc:=hc4
  simp (config:={maxSteps:=400000}) [w1,w2,w5,slV,blV]
  refine SC_pure hc ?_
  by_cases hz:p 4=0
  ·have hKe:=hKe (hbad (by omega))
   simp (config:={maxSteps:=400000}) [appendRowsD,room,hz]
   exact endK hKe [] (by simp)
  ·by_cases hq:p 4≤p 3
   ·have hKe:=hKe (hbad (by omega))
    simp (config:={maxSteps:=400000}) [appendRowsD,room,hz,hq,w3]
    exact endK hKe [] (by simp)
   ·simp (config:={maxSteps:=400000}) [appendRowsD,room,hz,hq,w3,w5]
    exact hN' [(4,33)] _ _ (by omega) ⟨by omega,hgood (by omega)⟩ (by simp[hrr,slV,blV])
 ·have hN':=hN 6
  have hle:=hple 5
  have hgo:=incP_succ fs.length p 5
  rw[hok,Bool.true_and]at hgo
  have hbad:¬lstP p 5<p 5→incB fs.length 0 [p 0,p 1,p 2,p 3,p 4,p 5]=false:=fun h=>(incP_pre (i:=5+1) (n:=6) (by omega) (by rw[hgo,decide_eq_false h]; rfl):incP fs.length p 6=false)
  have hgood:lstP p 5<p 5→incP fs.length p 6=true:=fun h=>by rw[hgo,decide_eq_true h,decide_eq_true hle.2]; rfl
  have hlow:=incP_low hok
  rw[show lstP p 5=p 4 from rfl]at hbad hgood hlow
  rw[show rowP p 6=[[.int .i64 (p 0)],[.int .i64 (p 1)],[.int .i64 (p 2)],[.int .i64 (p 3)],[.int .i64 (p 4)],[.int .i64 (p 5)]] from rfl]at hN'
  rw[show rowP p 5=[[.int .i64 (p 0)],[.int .i64 (p 1)],[.int .i64 (p 2)],[.int .i64 (p 3)],[.int .i64 (p 4)]] from rfl]
  have hc:=hc5
  simp (config:={maxSteps:=400000}) [w1,w2,w5,slV,blV]
  refine SC_pure hc ?_
  by_cases hz:p 5=0
  ·have hKe:=hKe (hbad (by omega))
   simp (config:={maxSteps:=400000}) [appendRowsD,room,hz]
   exact endK hKe [] (by simp)
  ·by_cases hq:p 5≤p 4
   ·have hKe:=hKe (hbad (by omega))
    simp (config:={maxSteps:=400000}) [appendRowsD,room,hz,hq,w4]
    exact endK hKe [] (by simp)
   ·simp (config:={maxSteps:=400000}) [appendRowsD,room,hz,hq,w4,w6]
    exact hN' [(4,33)] _ _ (by omega) ⟨by omega,hgood (by omega)⟩ (by simp[hrr,slV,blV])
 ·have hI:incB fs.length 0 [p 0,p 1,p 2,p 3,p 4,p 5]=true:=hok
  have hh:=cRHangV fs.length [p 0,p 2,p 3,p 5] hfs (by simp) (by exact inc6 hI)
  rw[show rowP p 6=[[.int .i64 (p 0)],[.int .i64 (p 1)],[.int .i64 (p 2)],[.int .i64 (p 3)],[.int .i64 (p 4)],[.int .i64 (p 5)]] from rfl]
  have hz:=fun get=>frz_immR (get:=get) (n:=1) (scal_rows (hgL (-1) [p 0,p 2,p 3,p 5]))
  have hKf:=hKv hI (.tuple [cV fs.length (hgL (-1) [p 0,p 2,p 3,p 5]),.sl 2 0 2,.bool true]) ⟨[(2,.cells 8 [[.int .i64 3,.int .i64 (p 1),.int .i64 (p 3),.int .i64 1,.bool false,.int .i64 0,.sl 1 0 1,.bool false],opQ (p 4) (p 2)]),(1,.cells 5 [[.int .i64 (p 2),.int .i64 1,.bool false,.int .i64 0,.bool true]])],3⟩ (frz_tri (n:=2) (hz _) rfl rfl)
  have hrL:=fun q=>renLL_closed q _ (closed_rows (hgL (-1) [p 0,p 2,p 3,p 5]))
  unfold cV at hh
  unfold cV opQ at hKf
  generalize (hgL (-1) [p 0,p 2,p 3,p 5]).map rowL=rowsL at *
  simp (config:={maxSteps:=400000}) [hlenG,irow,slV,blV,isW]
  refine WC_frz hh [27] (n:=8) (by rfl) (by decide) (by simp[xAf]) ?_
  simp (config:={maxSteps:=400000}) [slV,blV,isW,xAf,w1]
  exact endK hKf [(1,75),(2,81)] (by simp[hrL])
set_option maxRecDepth 100000 in
set_option maxHeartbeats 8000000 in
theorem rOp_4 {fs:List Fg} {re lo:Int} (hfs:fs.length≤1000):PCall Tryz.prog 26 [frV fs re lo,.int .i64 4] (rOpT fs 4):=by
 refine PCall_ctr (k:=5) (by simp[closedL,AVal.closed,closed_rowG,frV]) (rOpT_closed fs 4) (ctr_W hm [20] (m:=⟨[],1⟩) Tryz.func26 chROpening rfl rfl fun K hK=>?_)
 have hKe:incB fs.length 0 (posO fs 4)=false→K (.tuple [.agg [.int .i64 0,.nilSl],.nilSl,.bool false]) ⟨[],1⟩:=fun h=>hK _ _ (by unfold rOpT openB; rw[h]; rfl)
 have hKv:incB fs.length 0 (posO fs 4)=true → ∀ r M,freezeV (SMem.get M) 5 r=some (.tuple [cV fs.length (hgL (-1) (corn (posO fs 4))),opO 4 (posO fs 4),.bool true])→K r M:=fun h r M hr=>hK _ _ (by unfold rOpT openB; rw[h]; exact hr)
 clear hK
 obtain⟨p,hp⟩:∃ p:Nat→Int,(fun i=>fiR (digF ((digs 4).getD i 0)) fs)=p:=⟨_,rfl⟩
 have hP:posO fs 4=[p 0,p 1]:=by rw[← hp]; rfl
 have hple:∀ i,0≤p i∧p i≤fs.length:=fun i=>by rw[← hp]; exact pos_le fs _
 have hc0:PCall Tryz.prog 13 [frV fs re lo,.agg [.int .i64 1,.bool false,.int .i64 2]] (.int .i64 (p 0)):=by rw[← hp]; exact cRIndex ⟨1,false,2⟩ fs re lo hfs
 have hc1:PCall Tryz.prog 13 [frV fs re lo,.agg [.int .i64 1,.bool true,.int .i64 2]] (.int .i64 (p 1)):=by rw[← hp]; exact cRIndex ⟨1,true,2⟩ fs re lo hfs
 rw[hP]at hKe hKv
 clear hp hP
 unfold frV at *
 have hrr:∀ q,renLL q (fs.map rowG)=fs.map rowG:=fun q=>renLL_closed q _ (closed_rowG fs)
 have hlenG:(fs.map rowG).length=fs.length:=List.length_map ..
 have w0:IntKind.i64.wrap 0=0:=rfl
 have w1:IntKind.i64.wrap 1=1:=rfl
 have w2:IntKind.i64.wrap 2=2:=rfl
 have w3:IntKind.i64.wrap 3=3:=rfl
 have w4:IntKind.i64.wrap 4=4:=rfl
 have w5:IntKind.i64.wrap 5=5:=rfl
 have w6:IntKind.i64.wrap 6=6:=rfl
 generalize fs.map rowG=rows at *
 simp
 refine wW_loop (α:=Nat) (fun i=>[(9,.int .i64 i),(8,slV 4 (rowP p i)),(7,.sl 3 0 2),(4,.ptr 2 0 0),(2,.ptr 1 0 0),(1,.int .i64 4)])
  (fun i=>⟨(3,.cells 1 [[.int .i64 2],[.int .i64 (-2)]]) :: (2,.cells 2 [[.int .i64 0,.nilSl]]) :: (1,.cells 3 [[.imm rows,.int .i64 re,.int .i64 lo]]) :: blV 4 1 (rowP p i) [],5⟩)
  (fun i=>2 - i) (fun i=>i≤2∧incP fs.length p i=true) 0 [(3,15)] (by simp[hrr,rowP_zero,slV,blV]) (by simp[incP_zero]) ?_
 rintro i ⟨hi,hok⟩ N hN
 try simp only at hi hN ⊢
 rcases (show i=0∨i=1∨i=2 by omega)with rfl|rfl|rfl
 ·have hN':=hN 1
  have hle:=hple 0
  have hgo:=incP_succ fs.length p 0
  rw[hok,Bool.true_and]at hgo
  have hbad:¬lstP p 0<p 0→incB fs.length 0 [p 0,p 1]=false:=fun h=>(incP_pre (i:=0+1) (n:=2) (by omega) (by rw[hgo,decide_eq_false h]; rfl):incP fs.length p 2=false)
  have hgood:lstP p 0<p 0→incP fs.length p 1=true:=fun h=>by rw[hgo,decide_eq_true h,decide_eq_true hle.2]; rfl
  have hlow:=incP_low hok
  rw[show lstP p 0=0 from rfl]at hbad hgood hlow
  rw[show rowP p 1=[[.int .i64 (p 0)]] from rfl]at hN'
  rw[show rowP p 0=[] from rfl]
  have hc:=hc0
  simp (config:={maxSteps:=400000}) [w1,w2,w5,slV,blV]
  refine SC_pure hc ?_
  by_cases hz:p 0=0
  ·have hKe:=hKe (hbad (by omega))
   simp (config:={maxSteps:=400000}) [appendRowsD,room,hz]
   exact endK hKe [] (by simp)
  ·simp (config:={maxSteps:=400000}) [appendRowsD,room,hz,w1]
   exact hN' [(4,26)] _ _ (by omega) ⟨by omega,hgood (by omega)⟩ (by simp[hrr,slV,blV])
 ·have hN':=hN 2
  have hle:=hple 1
  have hgo:=incP_succ fs.length p 1
  rw[hok,Bool.true_and]at hgo
  have hbad:¬lstP p 1<p 1→incB fs.length 0 [p 0,p 1]=false:=fun h=>(incP_pre (i:=1+1) (n:=2) (by omega) (by rw[hgo,decide_eq_false h]; rfl):incP fs.length p 2=false)
  have hgood:lstP p 1<p 1→incP fs.length p 2=true:=fun h=>by rw[hgo,decide_eq_true h,decide_eq_true hle.2]; rfl
  have hlow:=incP_low hok
  rw[show lstP p 1=p 0 from rfl]at hbad hgood hlow
  rw[show rowP p 2=[[.int .i64 (p 0)],[.int .i64 (p 1)]] from rfl]at hN'
  rw[show rowP p 1=[[.int .i64 (p 0)]] from rfl]
  have hc:=hc1
  simp (config:={maxSteps:=400000}) [w1,w2,w5,slV,blV]
  refine SC_pure hc ?_
  by_cases hz:p 1=0
  ·have hKe:=hKe (hbad (by omega))
   simp (config:={maxSteps:=400000}) [appendRowsD,room,hz]
   exact endK hKe [] (by simp)
  ·by_cases hq:p 1≤p 0
   ·have hKe:=hKe (hbad (by omega))
    simp (config:={maxSteps:=400000}) [appendRowsD,room,hz,hq,w0]
    exact endK hKe [] (by simp)
   ·simp (config:={maxSteps:=400000}) [appendRowsD,room,hz,hq,w0,w2]
    exact hN' [(4,33)] _ _ (by omega) ⟨by omega,hgood (by omega)⟩ (by simp[hrr,slV,blV])
 ·have hI:incB fs.length 0 [p 0,p 1]=true:=hok
  have hh:=cRHangV fs.length [p 0,p 1] hfs (by simp) (by exact hI)
  rw[show rowP p 2=[[.int .i64 (p 0)],[.int .i64 (p 1)]] from rfl]
  have hz:=fun get=>frz_immR (get:=get) (n:=1) (scal_rows (hgL (-1) [p 0,p 1]))
  have hKf:=hKv hI (.tuple [cV fs.length (hgL (-1) [p 0,p 1]),.nilSl,.bool true]) ⟨[],1⟩ (frz_tri (n:=2) (hz _) rfl rfl)
  have hrL:=fun q=>renLL_closed q _ (closed_rows (hgL (-1) [p 0,p 1]))
  unfold cV at hh hKf
  generalize (hgL (-1) [p 0,p 1]).map rowL=rowsL at *
  simp (config:={maxSteps:=400000}) [hlenG,irow,slV,blV]
  refine SC_frz hh [4] (n:=8) (by rfl) ?_
  simp (config:={maxSteps:=400000})
  exact endK hKf [] (by simp[hrL])
end Go.Known
end
section
namespace Go.Known
open Go Go.AE Go.Proofs
open Go.Plain
set_option maxRecDepth 100000 in
set_option maxHeartbeats 8000000 in
theorem pOp_1 {fs:List Fg} {re lo:Int} (hfs:fs.length≤1000) (hv:frB fs re lo=true) (hn6:Names6):PCall Tryz.prog 25 [frV fs re lo,.int .i64 1] (pOpT fs 1):=by
 refine PCall_F hm 5 Tryz.func25 chOpening rfl rfl (by simp[closedL,AVal.closed,closed_rowG,frV]) (pOpT_closed fs 1) fun K hK=>?_
 have hKe:incB fs.length 0 (posO fs 1)=false→K (.tuple [.agg [.int .i64 0,.nilSl],.nilSl,.int .i64 2]) ⟨[],1⟩:=fun h=>hK _ _ (by unfold pOpT openB; rw[h]; rfl)
 have hKv:incB fs.length 0 (posO fs 1)=true → ∀ r M,freezeV (SMem.get M) 5 r=some (.tuple [cV fs.length (hgL (-1) (corn (posO fs 1))),opO 1 (posO fs 1),.int .i64 0])→K r M:=fun h r M hr=>hK _ _ (by unfold pOpT openB; rw[h]; exact hr)
 clear hK
 obtain⟨p,hp⟩:∃ p:Nat→Int,(fun i=>fiR (digF ((digs 1).getD i 0)) fs)=p:=⟨_,rfl⟩
 have hP:posO fs 1=[p 0,p 1,p 2,p 3]:=by rw[← hp]; rfl
 have hple:∀ i,0≤p i∧p i≤fs.length:=fun i=>by rw[← hp]; exact pos_le fs _
 have hc0:PCall Tryz.prog 12 [frV fs re lo,.agg [.int .i64 1,.bool false,.int .i64 1]] (.int .i64 (p 0)):=by rw[← hp]; exact cIndex6 ⟨1,false,1⟩ fs re lo hfs
 have hn0:PCall Tryz.prog 15 [.str [76,49]] (.tuple [.agg [.int .i64 1,.bool false,.int .i64 1],.int .i64 0]):=hn6.L1
 have hc1:PCall Tryz.prog 12 [frV fs re lo,.agg [.int .i64 1,.bool false,.int .i64 5]] (.int .i64 (p 1)):=by rw[← hp]; exact cIndex6 ⟨1,false,5⟩ fs re lo hfs
 have hn1:PCall Tryz.prog 15 [.str [76,53]] (.tuple [.agg [.int .i64 1,.bool false,.int .i64 5],.int .i64 0]):=hn6.L5
 have hc2:PCall Tryz.prog 12 [frV fs re lo,.agg [.int .i64 1,.bool true,.int .i64 5]] (.int .i64 (p 2)):=by rw[← hp]; exact cIndex6 ⟨1,true,5⟩ fs re lo hfs
 have hn2:PCall Tryz.prog 15 [.str [82,53]] (.tuple [.agg [.int .i64 1,.bool true,.int .i64 5],.int .i64 0]):=hn6.R5
 have hc3:PCall Tryz.prog 12 [frV fs re lo,.agg [.int .i64 1,.bool true,.int .i64 1]] (.int .i64 (p 3)):=by rw[← hp]; exact cIndex6 ⟨1,true,1⟩ fs re lo hfs
 have hn3:PCall Tryz.prog 15 [.str [82,49]] (.tuple [.agg [.int .i64 1,.bool true,.int .i64 1],.int .i64 0]):=hn6.R1
 have hcv:=c82 fs re lo hfs
 rw[hv]at hcv
 have hH:=cHangV fs re lo [p 0,p 1,p 2,p 3] hfs (by simp) hv
 rw[hP]at hKe hKv
 clear hp hP hv
 unfold frV at *
 have hrr:∀ q,renLL q (fs.map rowG)=fs.map rowG:=fun q=>renLL_closed q _ (closed_rowG fs)
 have hlenG:(fs.map rowG).length=fs.length:=List.length_map ..
 have w1:IntKind.i64.wrap 1=1:=rfl
 have w2:IntKind.i64.wrap 2=2:=rfl
 have w3:IntKind.i64.wrap 3=3:=rfl
 have w4:IntKind.i64.wrap 4=4:=rfl
 have w5:IntKind.i64.wrap 5=5:=rfl
 have w6:IntKind.i64.wrap 6=6:=rfl
 have fz0:findA .str (.str [76,49]) []=some none:=rfl
 have fy0:findA .str (.str [76,49]) [(.str [76,49],.int .i64 (p 0),0)]=some (some (0,.int .i64 (p 0),0)):=rfl
 have fz1:findA .str (.str [76,53]) [(.str [76,49],.int .i64 (p 0),0)]=some none:=rfl
 have fy1:findA .str (.str [76,53]) [(.str [76,49],.int .i64 (p 0),0),(.str [76,53],.int .i64 (p 1),1)]=some (some (1,.int .i64 (p 1),1)):=rfl
 have fz2:findA .str (.str [82,53]) [(.str [76,49],.int .i64 (p 0),0),(.str [76,53],.int .i64 (p 1),1)]=some none:=rfl
 have fy2:findA .str (.str [82,53]) [(.str [76,49],.int .i64 (p 0),0),(.str [76,53],.int .i64 (p 1),1),(.str [82,53],.int .i64 (p 2),2)]=some (some (2,.int .i64 (p 2),2)):=rfl
 have fz3:findA .str (.str [82,49]) [(.str [76,49],.int .i64 (p 0),0),(.str [76,53],.int .i64 (p 1),1),(.str [82,53],.int .i64 (p 2),2)]=some none:=rfl
 have fy3:findA .str (.str [82,49]) [(.str [76,49],.int .i64 (p 0),0),(.str [76,53],.int .i64 (p 1),1),(.str [82,53],.int .i64 (p 2),2),(.str [82,49],.int .i64 (p 3),3)]=some (some (3,.int .i64 (p 3),3)):=rfl
 have hzr:=fun get=>frz_immR (get:=get) (n:=5) (scal_rowG fs)
 generalize fs.map rowG=rows at *
 simp
 refine SC_pure hcv ?_
 simp
 refine wZ_loop (α:=Nat) (fun i=>[(38,.int .i64 i),(37,.int .i64 4),(36,.sl 3 0 4),(9,.int .i64 (lstP p i)),(8,.map 4),(7,.sl 3 0 4),(4,.ptr 2 0 0),(2,.ptr 1 0 0),(1,.int .i64 1)])
  (fun i=>⟨[(4,.map ([(.str [76,49],.int .i64 (p 0),0),(.str [76,53],.int .i64 (p 1),1),(.str [82,53],.int .i64 (p 2),2),(.str [82,49],.int .i64 (p 3),3)].take i) i),(3,.cells 1 [[.str [76,49]],[.str [76,53]],[.str [82,53]],[.str [82,49]]]),(2,.cells 2 [[.int .i64 0,.nilSl]]),(1,.cells 3 [[.imm rows,.int .i64 re,.int .i64 lo]])],5⟩)
  (fun i=>4 - i) (fun i=>i≤4∧incP fs.length p i=true) 0 [(3,12),(4,14)] (by simp[hrr,lstP_zero,renM]) (by simp[incP_zero]) ?_
 rintro i ⟨hi,hok⟩ N hN
 try simp only at hi hN ⊢
 rcases (show i=0∨i=1∨i=2∨i=3∨i=4 by omega)with rfl|rfl|rfl|rfl|rfl
 ·have hN':=hN 1
  have hle:=hple 0
  have hgo:=incP_succ fs.length p 0
  rw[hok,Bool.true_and]at hgo
  have hbad:¬lstP p 0<p 0→incB fs.length 0 [p 0,p 1,p 2,p 3]=false:=fun h=>(incP_pre (i:=0+1) (n:=4) (by omega) (by rw[hgo,decide_eq_false h]; rfl):incP fs.length p 4=false)
  have hgood:lstP p 0<p 0→incP fs.length p 1=true:=fun h=>by rw[hgo,decide_eq_true h,decide_eq_true hle.2]; rfl
  have hlow:=incP_low hok
  rw[show lstP p 0=0 from rfl]at hbad hgood hlow ⊢
  rw[show lstP p 1=p 0 from rfl]at hN'
  simp (config:={maxSteps:=400000})
  refine SC_pure hn0 ?_
  simp (config:={maxSteps:=400000})
  refine SC_pure hc0 ?_
  by_cases hz:p 0≤0
  ·have hKe:=hKe (hbad (by omega))
   simp (config:={maxSteps:=400000}) [hz,fz0,fy0]
   exact endK hKe [] (by simp)
  ·simp (config:={maxSteps:=400000}) [hz,fz0,fy0,w1]
   exact hN' [] _ _ (by omega) ⟨by omega,hgood (by omega)⟩ (by simp[hrr,renM])
 ·have hN':=hN 2
  have hle:=hple 1
  have hgo:=incP_succ fs.length p 1
  rw[hok,Bool.true_and]at hgo
  have hbad:¬lstP p 1<p 1→incB fs.length 0 [p 0,p 1,p 2,p 3]=false:=fun h=>(incP_pre (i:=1+1) (n:=4) (by omega) (by rw[hgo,decide_eq_false h]; rfl):incP fs.length p 4=false)
  have hgood:lstP p 1<p 1→incP fs.length p 2=true:=fun h=>by rw[hgo,decide_eq_true h,decide_eq_true hle.2]; rfl
  have hlow:=incP_low hok
  rw[show lstP p 1=p 0 from rfl]at hbad hgood hlow ⊢
  rw[show lstP p 2=p 1 from rfl]at hN'
  simp (config:={maxSteps:=400000})
  refine SC_pure hn1 ?_
  simp (config:={maxSteps:=400000})
  refine SC_pure hc1 ?_
  by_cases hz:p 1≤p 0
  ·have hKe:=hKe (hbad (by omega))
   simp (config:={maxSteps:=400000}) [hz,fz1,fy1]
   exact endK hKe [] (by simp)
  ·simp (config:={maxSteps:=400000}) [hz,fz1,fy1,w2]
   exact hN' [] _ _ (by omega) ⟨by omega,hgood (by omega)⟩ (by simp[hrr,renM])
 ·have hN':=hN 3
  have hle:=hple 2
  have hgo:=incP_succ fs.length p 2
  rw[hok,Bool.true_and]at hgo
  have hbad:¬lstP p 2<p 2→incB fs.length 0 [p 0,p 1,p 2,p 3]=false:=fun h=>(incP_pre (i:=2+1) (n:=4) (by omega) (by rw[hgo,decide_eq_false h]; rfl):incP fs.length p 4=false)
  have hgood:lstP p 2<p 2→incP fs.length p 3=true:=fun h=>by rw[hgo,decide_eq_true h,decide_eq_true hle.2]; rfl
  have hlow:=incP_low hok
  rw[show lstP p 2=p 1 from rfl]at hbad hgood hlow ⊢
  rw[show lstP p 3=p 2 from rfl]at hN'
  simp (config:={maxSteps:=400000})
  refine SC_pure hn2 ?_
  simp (config:={maxSteps:=400000})
  refine SC_pure hc2 ?_
  by_cases hz:p 2≤p 1
  ·have hKe:=hKe (hbad (by omega))
   simp (config:={maxSteps:=400000}) [hz,fz2,fy2]
   exact endK hKe [] (by simp)
  ·simp (config:={maxSteps:=400000}) [hz,fz2,fy2,w3]
   exact hN' [] _ _ (by omega) ⟨by omega,hgood (by omega)⟩ (by simp[hrr,renM])
 ·have hN':=hN 4
  have hle:=hple 3
  have hgo:=incP_succ fs.length p 3
  rw[hok,Bool.true_and]at hgo
  have hbad:¬lstP p 3<p 3→incB fs.length 0 [p 0,p 1,p 2,p 3]=false:=fun h=>(incP_pre (i:=3+1) (n:=4) (by omega) (by rw[hgo,decide_eq_false h]; rfl):incP fs.length p 4=false)
  have hgood:lstP p 3<p 3→incP fs.length p 4=true:=fun h=>by rw[hgo,decide_eq_true h,decide_eq_true hle.2]; rfl
  have hlow:=incP_low hok
  rw[show lstP p 3=p 2 from rfl]at hbad hgood hlow ⊢
  rw[show lstP p 4=p 3 from rfl]at hN'
  simp (config:={maxSteps:=400000})
  refine SC_pure hn3 ?_
  simp (config:={maxSteps:=400000})
  refine SC_pure hc3 ?_
  by_cases hz:p 3≤p 2
  ·have hKe:=hKe (hbad (by omega))
   simp (config:={maxSteps:=400000}) [hz,fz3,fy3]
   exact endK hKe [] (by simp)
  ·simp (config:={maxSteps:=400000}) [hz,fz3,fy3,w4]
   exact hN' [] _ _ (by omega) ⟨by omega,hgood (by omega)⟩ (by simp[hrr,renM])
 ·have hI:incB fs.length 0 [p 0,p 1,p 2,p 3]=true:=hok
  have hh:=hH (by exact hI)
  have hz:=fun get=>frz_immR (get:=get) (n:=1) (scal_rows (hgL (-1) [p 0,p 1,p 2,p 3]))
  have fx0:findA .str (.str [76,49]) [(.str [76,49],.int .i64 (p 0),0),(.str [76,53],.int .i64 (p 1),1),(.str [82,53],.int .i64 (p 2),2),(.str [82,49],.int .i64 (p 3),3)]=some (some (0,.int .i64 (p 0),0)):=rfl
  have fx1:findA .str (.str [76,53]) [(.str [76,49],.int .i64 (p 0),0),(.str [76,53],.int .i64 (p 1),1),(.str [82,53],.int .i64 (p 2),2),(.str [82,49],.int .i64 (p 3),3)]=some (some (1,.int .i64 (p 1),1)):=rfl
  have fx2:findA .str (.str [82,53]) [(.str [76,49],.int .i64 (p 0),0),(.str [76,53],.int .i64 (p 1),1),(.str [82,53],.int .i64 (p 2),2),(.str [82,49],.int .i64 (p 3),3)]=some (some (2,.int .i64 (p 2),2)):=rfl
  have fx3:findA .str (.str [82,49]) [(.str [76,49],.int .i64 (p 0),0),(.str [76,53],.int .i64 (p 1),1),(.str [82,53],.int .i64 (p 2),2),(.str [82,49],.int .i64 (p 3),3)]=some (some (3,.int .i64 (p 3),3)):=rfl
  have hKf:=hKv hI (.tuple [cV fs.length (hgL (-1) [p 0,p 1,p 2,p 3]),.nilSl,.int .i64 0]) ⟨[],1⟩ (frz_tri (n:=2) (hz _) rfl rfl)
  have hrL:=fun q=>renLL_closed q _ (closed_rows (hgL (-1) [p 0,p 1,p 2,p 3]))
  unfold cV at hh hKf
  generalize (hgL (-1) [p 0,p 1,p 2,p 3]).map rowL=rowsL at *
  simp (config:={maxSteps:=400000}) [hlenG,irow,fx0,fx1,fx2,fx3]
  refine SC_frz hh [20] (n:=8) (frz_args (n:=6) (hzr _) (by rfl)) ?_
  simp (config:={maxSteps:=400000})
  exact endK hKf [] (by simp[hrL])
set_option maxRecDepth 100000 in
set_option maxHeartbeats 8000000 in
theorem pOp_2 {fs:List Fg} {re lo:Int} (hfs:fs.length≤1000) (hv:frB fs re lo=true) (hn6:Names6):PCall Tryz.prog 25 [frV fs re lo,.int .i64 2] (pOpT fs 2):=by
 refine PCall_F hm 5 Tryz.func25 chOpening rfl rfl (by simp[closedL,AVal.closed,closed_rowG,frV]) (pOpT_closed fs 2) fun K hK=>?_
 have hKe:incB fs.length 0 (posO fs 2)=false→K (.tuple [.agg [.int .i64 0,.nilSl],.nilSl,.int .i64 2]) ⟨[],1⟩:=fun h=>hK _ _ (by unfold pOpT openB; rw[h]; rfl)
 have hKv:incB fs.length 0 (posO fs 2)=true → ∀ r M,freezeV (SMem.get M) 5 r=some (.tuple [cV fs.length (hgL (-1) (corn (posO fs 2))),opO 2 (posO fs 2),.int .i64 0])→K r M:=fun h r M hr=>hK _ _ (by unfold pOpT openB; rw[h]; exact hr)
 clear hK
 obtain⟨p,hp⟩:∃ p:Nat→Int,(fun i=>fiR (digF ((digs 2).getD i 0)) fs)=p:=⟨_,rfl⟩
 have hP:posO fs 2=[p 0,p 1,p 2,p 3,p 4,p 5]:=by rw[← hp]; rfl
 have hple:∀ i,0≤p i∧p i≤fs.length:=fun i=>by rw[← hp]; exact pos_le fs _
 have hc0:PCall Tryz.prog 12 [frV fs re lo,.agg [.int .i64 1,.bool false,.int .i64 1]] (.int .i64 (p 0)):=by rw[← hp]; exact cIndex6 ⟨1,false,1⟩ fs re lo hfs
 have hn0:PCall Tryz.prog 15 [.str [76,49]] (.tuple [.agg [.int .i64 1,.bool false,.int .i64 1],.int .i64 0]):=hn6.L1
 have hc1:PCall Tryz.prog 12 [frV fs re lo,.agg [.int .i64 1,.bool false,.int .i64 2]] (.int .i64 (p 1)):=by rw[← hp]; exact cIndex6 ⟨1,false,2⟩ fs re lo hfs
 have hn1:PCall Tryz.prog 15 [.str [76,50]] (.tuple [.agg [.int .i64 1,.bool false,.int .i64 2],.int .i64 0]):=hn6.L2
 have hc2:PCall Tryz.prog 12 [frV fs re lo,.agg [.int .i64 1,.bool false,.int .i64 5]] (.int .i64 (p 2)):=by rw[← hp]; exact cIndex6 ⟨1,false,5⟩ fs re lo hfs
 have hn2:PCall Tryz.prog 15 [.str [76,53]] (.tuple [.agg [.int .i64 1,.bool false,.int .i64 5],.int .i64 0]):=hn6.L5
 have hc3:PCall Tryz.prog 12 [frV fs re lo,.agg [.int .i64 1,.bool true,.int .i64 5]] (.int .i64 (p 3)):=by rw[← hp]; exact cIndex6 ⟨1,true,5⟩ fs re lo hfs
 have hn3:PCall Tryz.prog 15 [.str [82,53]] (.tuple [.agg [.int .i64 1,.bool true,.int .i64 5],.int .i64 0]):=hn6.R5
 have hc4:PCall Tryz.prog 12 [frV fs re lo,.agg [.int .i64 1,.bool true,.int .i64 2]] (.int .i64 (p 4)):=by rw[← hp]; exact cIndex6 ⟨1,true,2⟩ fs re lo hfs
 have hn4:PCall Tryz.prog 15 [.str [82,50]] (.tuple [.agg [.int .i64 1,.bool true,.int .i64 2],.int .i64 0]):=hn6.R2
 have hc5:PCall Tryz.prog 12 [frV fs re lo,.agg [.int .i64 1,.bool true,.int .i64 1]] (.int .i64 (p 5)):=by rw[← hp]; exact cIndex6 ⟨1,true,1⟩ fs re lo hfs
 have hn5:PCall Tryz.prog 15 [.str [82,49]] (.tuple [.agg [.int .i64 1,.bool true,.int .i64 1],.int .i64 0]):=hn6.R1
 have hcv:=c82 fs re lo hfs
 rw[hv]at hcv
 have hH:=cHangV fs re lo [p 0,p 2,p 3,p 5] hfs (by simp) hv
 rw[hP]at hKe hKv
 clear hp hP hv
 unfold frV at *
 have hrr:∀ q,renLL q (fs.map rowG)=fs.map rowG:=fun q=>renLL_closed q _ (closed_rowG fs)
 have hlenG:(fs.map rowG).length=fs.length:=List.length_map ..
 have w1:IntKind.i64.wrap 1=1:=rfl
 have w2:IntKind.i64.wrap 2=2:=rfl
 have w3:IntKind.i64.wrap 3=3:=rfl
 have w4:IntKind.i64.wrap 4=4:=rfl
 have w5:IntKind.i64.wrap 5=5:=rfl
 have w6:IntKind.i64.wrap 6=6:=rfl
 have fz0:findA .str (.str [76,49]) []=some none:=rfl
 have fy0:findA .str (.str [76,49]) [(.str [76,49],.int .i64 (p 0),0)]=some (some (0,.int .i64 (p 0),0)):=rfl
 have fz1:findA .str (.str [76,50]) [(.str [76,49],.int .i64 (p 0),0)]=some none:=rfl
 have fy1:findA .str (.str [76,50]) [(.str [76,49],.int .i64 (p 0),0),(.str [76,50],.int .i64 (p 1),1)]=some (some (1,.int .i64 (p 1),1)):=rfl
 have fz2:findA .str (.str [76,53]) [(.str [76,49],.int .i64 (p 0),0),(.str [76,50],.int .i64 (p 1),1)]=some none:=rfl
 have fy2:findA .str (.str [76,53]) [(.str [76,49],.int .i64 (p 0),0),(.str [76,50],.int .i64 (p 1),1),(.str [76,53],.int .i64 (p 2),2)]=some (some (2,.int .i64 (p 2),2)):=rfl
 have fz3:findA .str (.str [82,53]) [(.str [76,49],.int .i64 (p 0),0),(.str [76,50],.int .i64 (p 1),1),(.str [76,53],.int .i64 (p 2),2)]=some none:=rfl
 have fy3:findA .str (.str [82,53]) [(.str [76,49],.int .i64 (p 0),0),(.str [76,50],.int .i64 (p 1),1),(.str [76,53],.int .i64 (p 2),2),(.str [82,53],.int .i64 (p 3),3)]=some (some (3,.int .i64 (p 3),3)):=rfl
 have fz4:findA .str (.str [82,50]) [(.str [76,49],.int .i64 (p 0),0),(.str [76,50],.int .i64 (p 1),1),(.str [76,53],.int .i64 (p 2),2),(.str [82,53],.int .i64 (p 3),3)]=some none:=rfl
 have fy4:findA .str (.str [82,50]) [(.str [76,49],.int .i64 (p 0),0),(.str [76,50],.int .i64 (p 1),1),(.str [76,53],.int .i64 (p 2),2),(.str [82,53],.int .i64 (p 3),3),(.str [82,50],.int .i64 (p 4),4)]=some (some (4,.int .i64 (p 4),4)):=rfl
 have fz5:findA .str (.str [82,49]) [(.str [76,49],.int .i64 (p 0),0),(.str [76,50],.int .i64 (p 1),1),(.str [76,53],.int .i64 (p 2),2),(.str [82,53],.int .i64 (p 3),3),(.str [82,50],.int .i64 (p 4),4)]=some none:=rfl
 have fy5:findA .str (.str [82,49]) [(.str [76,49],.int .i64 (p 0),0),(.str [76,50],.int .i64 (p 1),1),(.str [76,53],.int .i64 (p 2),2),(.str [82,53],.int .i64 (p 3),3),(.str [82,50],.int .i64 (p 4),4),(.str [82,49],.int .i64 (p 5),5)]=some (some (5,.int .i64 (p 5),5)):=rfl
 have hzr:=fun get=>frz_immR (get:=get) (n:=5) (scal_rowG fs)
 generalize fs.map rowG=rows at *
 simp
 refine SC_pure hcv ?_
 simp
 refine wZ_loop (α:=Nat) (fun i=>[(38,.int .i64 i),(37,.int .i64 6),(36,.sl 3 0 6),(9,.int .i64 (lstP p i)),(8,.map 4),(7,.sl 3 0 6),(4,.ptr 2 0 0),(2,.ptr 1 0 0),(1,.int .i64 2)])
  (fun i=>⟨[(4,.map ([(.str [76,49],.int .i64 (p 0),0),(.str [76,50],.int .i64 (p 1),1),(.str [76,53],.int .i64 (p 2),2),(.str [82,53],.int .i64 (p 3),3),(.str [82,50],.int .i64 (p 4),4),(.str [82,49],.int .i64 (p 5),5)].take i) i),(3,.cells 1 [[.str [76,49]],[.str [76,50]],[.str [76,53]],[.str [82,53]],[.str [82,50]],[.str [82,49]]]),(2,.cells 2 [[.int .i64 0,.nilSl]]),(1,.cells 3 [[.imm rows,.int .i64 re,.int .i64 lo]])],5⟩)
  (fun i=>6 - i) (fun i=>i≤6∧incP fs.length p i=true) 0 [(3,14),(4,16)] (by simp[hrr,lstP_zero,renM]) (by simp[incP_zero]) ?_
 rintro i ⟨hi,hok⟩ N hN
 try simp only at hi hN ⊢
 rcases (show i=0∨i=1∨i=2∨i=3∨i=4∨i=5∨i=6 by omega)with rfl|rfl|rfl|rfl|rfl|rfl|rfl
 ·have hN':=hN 1
  have hle:=hple 0
  have hgo:=incP_succ fs.length p 0
  rw[hok,Bool.true_and]at hgo
  have hbad:¬lstP p 0<p 0→incB fs.length 0 [p 0,p 1,p 2,p 3,p 4,p 5]=false:=fun h=>(incP_pre (i:=0+1) (n:=6) (by omega) (by rw[hgo,decide_eq_false h]; rfl):incP fs.length p 6=false)
  have hgood:lstP p 0<p 0→incP fs.length p 1=true:=fun h=>by rw[hgo,decide_eq_true h,decide_eq_true hle.2]; rfl
  have hlow:=incP_low hok
  rw[show lstP p 0=0 from rfl]at hbad hgood hlow ⊢
  rw[show lstP p 1=p 0 from rfl]at hN'
  simp (config:={maxSteps:=400000})
  refine SC_pure hn0 ?_
  simp (config:={maxSteps:=400000})
  refine SC_pure hc0 ?_
  by_cases hz:p 0≤0
  ·have hKe:=hKe (hbad (by omega))
   simp (config:={maxSteps:=400000}) [hz,fz0,fy0]
   exact endK hKe [] (by simp)
  ·simp (config:={maxSteps:=400000}) [hz,fz0,fy0,w1]
   exact hN' [] _ _ (by omega) ⟨by omega,hgood (by omega)⟩ (by simp[hrr,renM])
 ·have hN':=hN 2
  have hle:=hple 1
  have hgo:=incP_succ fs.length p 1
  rw[hok,Bool.true_and]at hgo
  have hbad:¬lstP p 1<p 1→incB fs.length 0 [p 0,p 1,p 2,p 3,p 4,p 5]=false:=fun h=>(incP_pre (i:=1+1) (n:=6) (by omega) (by rw[hgo,decide_eq_false h]; rfl):incP fs.length p 6=false)
  have hgood:lstP p 1<p 1→incP fs.length p 2=true:=fun h=>by rw[hgo,decide_eq_true h,decide_eq_true hle.2]; rfl
  have hlow:=incP_low hok
  rw[show lstP p 1=p 0 from rfl]at hbad hgood hlow ⊢
  rw[show lstP p 2=p 1 from rfl]at hN'
  simp (config:={maxSteps:=400000})
  refine SC_pure hn1 ?_
  simp (config:={maxSteps:=400000})
  refine SC_pure hc1 ?_
  by_cases hz:p 1≤p 0
  ·have hKe:=hKe (hbad (by omega))
   simp (config:={maxSteps:=400000}) [hz,fz1,fy1]
   exact endK hKe [] (by simp)
  ·simp (config:={maxSteps:=400000}) [hz,fz1,fy1,w2]
   exact hN' [] _ _ (by omega) ⟨by omega,hgood (by omega)⟩ (by simp[hrr,renM])
 ·have hN':=hN 3
  have hle:=hple 2
  have hgo:=incP_succ fs.length p 2
  rw[hok,Bool.true_and]at hgo
  have hbad:¬lstP p 2<p 2→incB fs.length 0 [p 0,p 1,p 2,p 3,p 4,p 5]=false:=fun h=>(incP_pre (i:=2+1) (n:=6) (by omega) (by rw[hgo,decide_eq_false h]; rfl):incP fs.length p 6=false)
  have hgood:lstP p 2<p 2→incP fs.length p 3=true:=fun h=>by rw[hgo,decide_eq_true h,decide_eq_true hle.2]; rfl
  have hlow:=incP_low hok
  rw[show lstP p 2=p 1 from rfl]at hbad hgood hlow ⊢
  rw[show lstP p 3=p 2 from rfl]at hN'
  simp (config:={maxSteps:=400000})
  refine SC_pure hn2 ?_
  simp (config:={maxSteps:=400000})
  refine SC_pure hc2 ?_
  by_cases hz:p 2≤p 1
  ·have hKe:=hKe (hbad (by omega))
   simp (config:={maxSteps:=400000}) [hz,fz2,fy2]
   exact endK hKe [] (by simp)
  ·simp (config:={maxSteps:=400000}) [hz,fz2,fy2,w3]
   exact hN' [] _ _ (by omega) ⟨by omega,hgood (by omega)⟩ (by simp[hrr,renM])
 ·have hN':=hN 4
  have hle:=hple 3
  have hgo:=incP_succ fs.length p 3
  rw[hok,Bool.true_and]at hgo
  have hbad:¬lstP p 3<p 3→incB fs.length 0 [p 0,p 1,p 2,p 3,p 4,p 5]=false:=fun h=>(incP_pre (i:=3+1) (n:=6) (by omega) (by rw[hgo,decide_eq_false h]; rfl):incP fs.length p 6=false)
  have hgood:lstP p 3<p 3→incP fs.length p 4=true:=fun h=>by rw[hgo,decide_eq_true h,decide_eq_true hle.2]; rfl
  have hlow:=incP_low hok
  rw[show lstP p 3=p 2 from rfl]at hbad hgood hlow ⊢
  rw[show lstP p 4=p 3 from rfl]at hN'
  simp (config:={maxSteps:=400000})
  refine SC_pure hn3 ?_
  simp (config:={maxSteps:=400000})
  refine SC_pure hc3 ?_
  by_cases hz:p 3≤p 2
  ·have hKe:=hKe (hbad (by omega))
   simp (config:={maxSteps:=400000}) [hz,fz3,fy3]
   exact endK hKe [] (by simp)
  ·simp (config:={maxSteps:=400000}) [hz,fz3,fy3,w4]
   exact hN' [] _ _ (by omega) ⟨by omega,hgood (by omega)⟩ (by simp[hrr,renM])
 ·have hN':=hN 5
  have hle:=hple 4
  have hgo:=incP_succ fs.length p 4
  rw[hok,Bool.true_and]at hgo
  have hbad:¬lstP p 4<p 4→incB fs.length 0 [p 0,p 1,p 2,p 3,p 4,p 5]=false:=fun h=>(incP_pre (i:=4+1) (n:=6) (by omega) (by rw[hgo,decide_eq_false h]; rfl):incP fs.length p 6=false)
  have hgood:lstP p 4<p 4→incP fs.length p 5=true:=fun h=>by rw[hgo,decide_eq_true h,decide_eq_true hle.2]; rfl
  have hlow:=incP_low hok
  rw[show lstP p 4=p 3 from rfl]at hbad hgood hlow ⊢
  rw[show lstP p 5=p 4 from rfl]at hN'
  simp (config:={maxSteps:=400000})
  refine SC_pure hn4 ?_
  simp (config:={maxSteps:=400000})
  refine SC_pure hc4 ?_
  by_cases hz:p 4≤p 3
  ·have hKe:=hKe (hbad (by omega))
   simp (config:={maxSteps:=400000}) [hz,fz4,fy4]
   exact endK hKe [] (by simp)
  ·simp (config:={maxSteps:=400000}) [hz,fz4,fy4,w5]
   exact hN' [] _ _ (by omega) ⟨by omega,hgood (by omega)⟩ (by simp[hrr,renM])
 ·have hN':=hN 6
  have hle:=hple 5
  have hgo:=incP_succ fs.length p 5
  rw[hok,Bool.true_and]at hgo
  have hbad:¬lstP p 5<p 5→incB fs.length 0 [p 0,p 1,p 2,p 3,p 4,p 5]=false:=fun h=>(incP_pre (i:=5+1) (n:=6) (by omega) (by rw[hgo,decide_eq_false h]; rfl):incP fs.length p 6=false)
  have hgood:lstP p 5<p 5→incP fs.length p 6=true:=fun h=>by rw[hgo,decide_eq_true h,decide_eq_true hle.2]; rfl
  have hlow:=incP_low hok
  rw[show lstP p 5=p 4 from rfl]at hbad hgood hlow ⊢
  rw[show lstP p 6=p 5 from rfl]at hN'
  simp (config:={maxSteps:=400000})
  refine SC_pure hn5 ?_
  simp (config:={maxSteps:=400000})
  refine SC_pure hc5 ?_
  by_cases hz:p 5≤p 4
  ·have hKe:=hKe (hbad (by omega))
   simp (config:={maxSteps:=400000}) [hz,fz5,fy5]
   exact endK hKe [] (by simp)
  ·simp (config:={maxSteps:=400000}) [hz,fz5,fy5,w6]
   exact hN' [] _ _ (by omega) ⟨by omega,hgood (by omega)⟩ (by simp[hrr,renM])
 ·have hI:incB fs.length 0 [p 0,p 1,p 2,p 3,p 4,p 5]=true:=hok
  have hh:=hH (by exact inc6 hI)
  have hz:=fun get=>frz_immR (get:=get) (n:=1) (scal_rows (hgL (-1) [p 0,p 2,p 3,p 5]))
  have fx0:findA .str (.str [76,49]) [(.str [76,49],.int .i64 (p 0),0),(.str [76,50],.int .i64 (p 1),1),(.str [76,53],.int .i64 (p 2),2),(.str [82,53],.int .i64 (p 3),3),(.str [82,50],.int .i64 (p 4),4),(.str [82,49],.int .i64 (p 5),5)]=some (some (0,.int .i64 (p 0),0)):=rfl
  have fx1:findA .str (.str [76,50]) [(.str [76,49],.int .i64 (p 0),0),(.str [76,50],.int .i64 (p 1),1),(.str [76,53],.int .i64 (p 2),2),(.str [82,53],.int .i64 (p 3),3),(.str [82,50],.int .i64 (p 4),4),(.str [82,49],.int .i64 (p 5),5)]=some (some (1,.int .i64 (p 1),1)):=rfl
  have fx2:findA .str (.str [76,53]) [(.str [76,49],.int .i64 (p 0),0),(.str [76,50],.int .i64 (p 1),1),(.str [76,53],.int .i64 (p 2),2),(.str [82,53],.int .i64 (p 3),3),(.str [82,50],.int .i64 (p 4),4),(.str [82,49],.int .i64 (p 5),5)]=some (some (2,.int .i64 (p 2),2)):=rfl
  have fx3:findA .str (.str [82,53]) [(.str [76,49],.int .i64 (p 0),0),(.str [76,50],.int .i64 (p 1),1),(.str [76,53],.int .i64 (p 2),2),(.str [82,53],.int .i64 (p 3),3),(.str [82,50],.int .i64 (p 4),4),(.str [82,49],.int .i64 (p 5),5)]=some (some (3,.int .i64 (p 3),3)):=rfl
  have fx4:findA .str (.str [82,50]) [(.str [76,49],.int .i64 (p 0),0),(.str [76,50],.int .i64 (p 1),1),(.str [76,53],.int .i64 (p 2),2),(.str [82,53],.int .i64 (p 3),3),(.str [82,50],.int .i64 (p 4),4),(.str [82,49],.int .i64 (p 5),5)]=some (some (4,.int .i64 (p 4),4)):=rfl
  have fx5:findA .str (.str [82,49]) [(.str [76,49],.int .i64 (p 0),0),(.str [76,50],.int .i64 (p 1),1),(.str [76,53],.int .i64 (p 2),2),(.str [82,53],.int .i64 (p 3),3),(.str [82,50],.int .i64 (p 4),4),(.str [82,49],.int .i64 (p 5),5)]=some (some (5,.int .i64 (p 5),5)):=rfl
  have hKf:=hKv hI (.tuple [cV fs.length (hgL (-1) [p 0,p 2,p 3,p 5]),.sl 1 0 2,.int .i64 0]) ⟨[(1,.cells 8 [opP (p 4) (p 2) (p 3),opQ (p 1) (p 3)])],2⟩ (frz_tri (n:=2) (hz _) rfl rfl)
  have hq1:=cOp1 (p 4) (p 3) (p 2)
  have hq2:=cOp2 (p 1) (p 3)
  have hrL:=fun q=>renLL_closed q _ (closed_rows (hgL (-1) [p 0,p 2,p 3,p 5]))
  unfold cV at hh hKf
  unfold opP opQ at *
  generalize (hgL (-1) [p 0,p 2,p 3,p 5]).map rowL=rowsL at *
  simp (config:={maxSteps:=400000}) [hlenG,irow,fx0,fx1,fx2,fx3,fx4,fx5]
  refine SC_frz hh [20] (n:=8) (frz_args (n:=6) (hzr _) (by rfl)) ?_
  simp (config:={maxSteps:=400000}) [fx0,fx1,fx2,fx3,fx4,fx5]
  refine DC_new (by simp[closedL,AVal.closed]) (fun q=>by rfl) hq1 ?_
  simp (config:={maxSteps:=400000}) [fx0,fx1,fx2,fx3,fx4,fx5]
  refine DC_pure hq2 ?_
  simp (config:={maxSteps:=400000}) [appendRowsD,room]
  exact endK hKf [(1,49)] (by simp[hrL])
set_option maxRecDepth 100000 in
set_option maxHeartbeats 8000000 in
theorem pOp_3 {fs:List Fg} {re lo:Int} (hfs:fs.length≤1000) (hv:frB fs re lo=true) (hn6:Names6):PCall Tryz.prog 25 [frV fs re lo,.int .i64 3] (pOpT fs 3):=by
 refine PCall_F hm 5 Tryz.func25 chOpening rfl rfl (by simp[closedL,AVal.closed,closed_rowG,frV]) (pOpT_closed fs 3) fun K hK=>?_
 have hKe:incB fs.length 0 (posO fs 3)=false→K (.tuple [.agg [.int .i64 0,.nilSl],.nilSl,.int .i64 2]) ⟨[],1⟩:=fun h=>hK _ _ (by unfold pOpT openB; rw[h]; rfl)
 have hKv:incB fs.length 0 (posO fs 3)=true → ∀ r M,freezeV (SMem.get M) 5 r=some (.tuple [cV fs.length (hgL (-1) (corn (posO fs 3))),opO 3 (posO fs 3),.int .i64 0])→K r M:=fun h r M hr=>hK _ _ (by unfold pOpT openB; rw[h]; exact hr)
 clear hK
 obtain⟨p,hp⟩:∃ p:Nat→Int,(fun i=>fiR (digF ((digs 3).getD i 0)) fs)=p:=⟨_,rfl⟩
 have hP:posO fs 3=[p 0,p 1,p 2,p 3,p 4,p 5]:=by rw[← hp]; rfl
 have hple:∀ i,0≤p i∧p i≤fs.length:=fun i=>by rw[← hp]; exact pos_le fs _
 have hc0:PCall Tryz.prog 12 [frV fs re lo,.agg [.int .i64 1,.bool false,.int .i64 1]] (.int .i64 (p 0)):=by rw[← hp]; exact cIndex6 ⟨1,false,1⟩ fs re lo hfs
 have hn0:PCall Tryz.prog 15 [.str [76,49]] (.tuple [.agg [.int .i64 1,.bool false,.int .i64 1],.int .i64 0]):=hn6.L1
 have hc1:PCall Tryz.prog 12 [frV fs re lo,.agg [.int .i64 1,.bool false,.int .i64 2]] (.int .i64 (p 1)):=by rw[← hp]; exact cIndex6 ⟨1,false,2⟩ fs re lo hfs
 have hn1:PCall Tryz.prog 15 [.str [76,50]] (.tuple [.agg [.int .i64 1,.bool false,.int .i64 2],.int .i64 0]):=hn6.L2
 have hc2:PCall Tryz.prog 12 [frV fs re lo,.agg [.int .i64 1,.bool false,.int .i64 5]] (.int .i64 (p 2)):=by rw[← hp]; exact cIndex6 ⟨1,false,5⟩ fs re lo hfs
 have hn2:PCall Tryz.prog 15 [.str [76,53]] (.tuple [.agg [.int .i64 1,.bool false,.int .i64 5],.int .i64 0]):=hn6.L5
 have hc3:PCall Tryz.prog 12 [frV fs re lo,.agg [.int .i64 1,.bool true,.int .i64 5]] (.int .i64 (p 3)):=by rw[← hp]; exact cIndex6 ⟨1,true,5⟩ fs re lo hfs
 have hn3:PCall Tryz.prog 15 [.str [82,53]] (.tuple [.agg [.int .i64 1,.bool true,.int .i64 5],.int .i64 0]):=hn6.R5
 have hc4:PCall Tryz.prog 12 [frV fs re lo,.agg [.int .i64 1,.bool true,.int .i64 2]] (.int .i64 (p 4)):=by rw[← hp]; exact cIndex6 ⟨1,true,2⟩ fs re lo hfs
 have hn4:PCall Tryz.prog 15 [.str [82,50]] (.tuple [.agg [.int .i64 1,.bool true,.int .i64 2],.int .i64 0]):=hn6.R2
 have hc5:PCall Tryz.prog 12 [frV fs re lo,.agg [.int .i64 1,.bool true,.int .i64 1]] (.int .i64 (p 5)):=by rw[← hp]; exact cIndex6 ⟨1,true,1⟩ fs re lo hfs
 have hn5:PCall Tryz.prog 15 [.str [82,49]] (.tuple [.agg [.int .i64 1,.bool true,.int .i64 1],.int .i64 0]):=hn6.R1
 have hcv:=c82 fs re lo hfs
 rw[hv]at hcv
 have hH:=cHangV fs re lo [p 0,p 2,p 3,p 5] hfs (by simp) hv
 rw[hP]at hKe hKv
 clear hp hP hv
 unfold frV at *
 have hrr:∀ q,renLL q (fs.map rowG)=fs.map rowG:=fun q=>renLL_closed q _ (closed_rowG fs)
 have hlenG:(fs.map rowG).length=fs.length:=List.length_map ..
 have w1:IntKind.i64.wrap 1=1:=rfl
 have w2:IntKind.i64.wrap 2=2:=rfl
 have w3:IntKind.i64.wrap 3=3:=rfl
 have w4:IntKind.i64.wrap 4=4:=rfl
 have w5:IntKind.i64.wrap 5=5:=rfl
 have w6:IntKind.i64.wrap 6=6:=rfl
 have fz0:findA .str (.str [76,49]) []=some none:=rfl
 have fy0:findA .str (.str [76,49]) [(.str [76,49],.int .i64 (p 0),0)]=some (some (0,.int .i64 (p 0),0)):=rfl
 have fz1:findA .str (.str [76,50]) [(.str [76,49],.int .i64 (p 0),0)]=some none:=rfl
 have fy1:findA .str (.str [76,50]) [(.str [76,49],.int .i64 (p 0),0),(.str [76,50],.int .i64 (p 1),1)]=some (some (1,.int .i64 (p 1),1)):=rfl
 have fz2:findA .str (.str [76,53]) [(.str [76,49],.int .i64 (p 0),0),(.str [76,50],.int .i64 (p 1),1)]=some none:=rfl
 have fy2:findA .str (.str [76,53]) [(.str [76,49],.int .i64 (p 0),0),(.str [76,50],.int .i64 (p 1),1),(.str [76,53],.int .i64 (p 2),2)]=some (some (2,.int .i64 (p 2),2)):=rfl
 have fz3:findA .str (.str [82,53]) [(.str [76,49],.int .i64 (p 0),0),(.str [76,50],.int .i64 (p 1),1),(.str [76,53],.int .i64 (p 2),2)]=some none:=rfl
 have fy3:findA .str (.str [82,53]) [(.str [76,49],.int .i64 (p 0),0),(.str [76,50],.int .i64 (p 1),1),(.str [76,53],.int .i64 (p 2),2),(.str [82,53],.int .i64 (p 3),3)]=some (some (3,.int .i64 (p 3),3)):=rfl
 have fz4:findA .str (.str [82,50]) [(.str [76,49],.int .i64 (p 0),0),(.str [76,50],.int .i64 (p 1),1),(.str [76,53],.int .i64 (p 2),2),(.str [82,53],.int .i64 (p 3),3)]=some none:=rfl
 have fy4:findA .str (.str [82,50]) [(.str [76,49],.int .i64 (p 0),0),(.str [76,50],.int .i64 (p 1),1),(.str [76,53],.int .i64 (p 2),2),(.str [82,53],.int .i64 (p 3),3),(.str [82,50],.int .i64 (p 4),4)]=some (some (4,.int .i64 (p 4),4)):=rfl
 have fz5:findA .str (.str [82,49]) [(.str [76,49],.int .i64 (p 0),0),(.str [76,50],.int .i64 (p 1),1),(.str [76,53],.int .i64 (p 2),2),(.str [82,53],.int .i64 (p 3),3),(.str [82,50],.int .i64 (p 4),4)]=some none:=rfl
 have fy5:findA .str (.str [82,49]) [(.str [76,49],.int .i64 (p 0),0),(.str [76,50],.int .i64 (p 1),1),(.str [76,53],.int .i64 (p 2),2),(.str [82,53],.int .i64 (p 3),3),(.str [82,50],.int .i64 (p 4),4),(.str [82,49],.int .i64 (p 5),5)]=some (some (5,.int .i64 (p 5),5)):=rfl
 have hzr:=fun get=>frz_immR (get:=get) (n:=5) (scal_rowG fs)
 generalize fs.map rowG=rows at *
 simp
 refine SC_pure hcv ?_
 simp
 refine wZ_loop (α:=Nat) (fun i=>[(38,.int .i64 i),(37,.int .i64 6),(36,.sl 3 0 6),(9,.int .i64 (lstP p i)),(8,.map 4),(7,.sl 3 0 6),(4,.ptr 2 0 0),(2,.ptr 1 0 0),(1,.int .i64 3)])
  (fun i=>⟨[(4,.map ([(.str [76,49],.int .i64 (p 0),0),(.str [76,50],.int .i64 (p 1),1),(.str [76,53],.int .i64 (p 2),2),(.str [82,53],.int .i64 (p 3),3),(.str [82,50],.int .i64 (p 4),4),(.str [82,49],.int .i64 (p 5),5)].take i) i),(3,.cells 1 [[.str [76,49]],[.str [76,50]],[.str [76,53]],[.str [82,53]],[.str [82,50]],[.str [82,49]]]),(2,.cells 2 [[.int .i64 0,.nilSl]]),(1,.cells 3 [[.imm rows,.int .i64 re,.int .i64 lo]])],5⟩)
  (fun i=>6 - i) (fun i=>i≤6∧incP fs.length p i=true) 0 [(3,16),(4,18)] (by simp[hrr,lstP_zero,renM]) (by simp[incP_zero]) ?_
 rintro i ⟨hi,hok⟩ N hN
 try simp only at hi hN ⊢
 rcases (show i=0∨i=1∨i=2∨i=3∨i=4∨i=5∨i=6 by omega)with rfl|rfl|rfl|rfl|rfl|rfl|rfl
 ·have hN':=hN 1
  have hle:=hple 0
  have hgo:=incP_succ fs.length p 0
  rw[hok,Bool.true_and]at hgo
  have hbad:¬lstP p 0<p 0→incB fs.length 0 [p 0,p 1,p 2,p 3,p 4,p 5]=false:=fun h=>(incP_pre (i:=0+1) (n:=6) (by omega) (by rw[hgo,decide_eq_false h]; rfl):incP fs.length p 6=false)
  have hgood:lstP p 0<p 0→incP fs.length p 1=true:=fun h=>by rw[hgo,decide_eq_true h,decide_eq_true hle.2]; rfl
  have hlow:=incP_low hok
  rw[show lstP p 0=0 from rfl]at hbad hgood hlow ⊢
  rw[show lstP p 1=p 0 from rfl]at hN'
  simp (config:={maxSteps:=400000})
  refine SC_pure hn0 ?_
  simp (config:={maxSteps:=400000})
  refine SC_pure hc0 ?_
  by_cases hz:p 0≤0
  ·have hKe:=hKe (hbad (by omega))
   simp (config:={maxSteps:=400000}) [hz,fz0,fy0]
   exact endK hKe [] (by simp)
  ·simp (config:={maxSteps:=400000}) [hz,fz0,fy0,w1]
   exact hN' [] _ _ (by omega) ⟨by omega,hgood (by omega)⟩ (by simp[hrr,renM])
 ·have hN':=hN 2
  have hle:=hple 1
  have hgo:=incP_succ fs.length p 1
  rw[hok,Bool.true_and]at hgo
  have hbad:¬lstP p 1<p 1→incB fs.length 0 [p 0,p 1,p 2,p 3,p 4,p 5]=false:=fun h=>(incP_pre (i:=1+1) (n:=6) (by omega) (by rw[hgo,decide_eq_false h]; rfl):incP fs.length p 6=false)
  have hgood:lstP p 1<p 1→incP fs.length p 2=true:=fun h=>by rw[hgo,decide_eq_true h,decide_eq_true hle.2]; rfl
  have hlow:=incP_low hok
  rw[show lstP p 1=p 0 from rfl]at hbad hgood hlow ⊢
  rw[show lstP p 2=p 1 from rfl]at hN'
  simp (config:={maxSteps:=400000})
  refine SC_pure hn1 ?_
  simp (config:={maxSteps:=400000})
  refine SC_pure hc1 ?_
  by_cases hz:p 1≤p 0
  ·have hKe:=hKe (hbad (by omega))
   simp (config:={maxSteps:=400000}) [hz,fz1,fy1]
   exact endK hKe [] (by simp)
  ·simp (config:={maxSteps:=400000}) [hz,fz1,fy1,w2]
   exact hN' [] _ _ (by omega) ⟨by omega,hgood (by omega)⟩ (by simp[hrr,renM])
 ·have hN':=hN 3
  have hle:=hple 2
  have hgo:=incP_succ fs.length p 2
  rw[hok,Bool.true_and]at hgo
  have hbad:¬lstP p 2<p 2→incB fs.length 0 [p 0,p 1,p 2,p 3,p 4,p 5]=false:=fun h=>(incP_pre (i:=2+1) (n:=6) (by omega) (by rw[hgo,decide_eq_false h]; rfl):incP fs.length p 6=false)
  have hgood:lstP p 2<p 2→incP fs.length p 3=true:=fun h=>by rw[hgo,decide_eq_true h,decide_eq_true hle.2]; rfl
  have hlow:=incP_low hok
  rw[show lstP p 2=p 1 from rfl]at hbad hgood hlow ⊢
  rw[show lstP p 3=p 2 from rfl]at hN'
  simp (config:={maxSteps:=400000})
  refine SC_pure hn2 ?_
  simp (config:={maxSteps:=400000})
  refine SC_pure hc2 ?_
  by_cases hz:p 2≤p 1
  ·have hKe:=hKe (hbad (by omega))
   simp (config:={maxSteps:=400000}) [hz,fz2,fy2]
   exact endK hKe [] (by simp)
  ·simp (config:={maxSteps:=400000}) [hz,fz2,fy2,w3]
   exact hN' [] _ _ (by omega) ⟨by omega,hgood (by omega)⟩ (by simp[hrr,renM])
 ·have hN':=hN 4
  have hle:=hple 3
  have hgo:=incP_succ fs.length p 3
  rw[hok,Bool.true_and]at hgo
  have hbad:¬lstP p 3<p 3→incB fs.length 0 [p 0,p 1,p 2,p 3,p 4,p 5]=false:=fun h=>(incP_pre (i:=3+1) (n:=6) (by omega) (by rw[hgo,decide_eq_false h]; rfl):incP fs.length p 6=false)
  have hgood:lstP p 3<p 3→incP fs.length p 4=true:=fun h=>by rw[hgo,decide_eq_true h,decide_eq_true hle.2]; rfl
  have hlow:=incP_low hok
  rw[show lstP p 3=p 2 from rfl]at hbad hgood hlow ⊢
  rw[show lstP p 4=p 3 from rfl]at hN'
  simp (config:={maxSteps:=400000})
  refine SC_pure hn3 ?_
  simp (config:={maxSteps:=400000})
  refine SC_pure hc3 ?_
  by_cases hz:p 3≤p 2
  ·have hKe:=hKe (hbad (by omega))
   simp (config:={maxSteps:=400000}) [hz,fz3,fy3]
   exact endK hKe [] (by simp)
  ·simp (config:={maxSteps:=400000}) [hz,fz3,fy3,w4]
   exact hN' [] _ _ (by omega) ⟨by omega,hgood (by omega)⟩ (by simp[hrr,renM])
 ·have hN':=hN 5
  have hle:=hple 4
  have hgo:=incP_succ fs.length p 4
  rw[hok,Bool.true_and]at hgo
  have hbad:¬lstP p 4<p 4→incB fs.length 0 [p 0,p 1,p 2,p 3,p 4,p 5]=false:=fun h=>(incP_pre (i:=4+1) (n:=6) (by omega) (by rw[hgo,decide_eq_false h]; rfl):incP fs.length p 6=false)
  have hgood:lstP p 4<p 4→incP fs.length p 5=true:=fun h=>by rw[hgo,decide_eq_true h,decide_eq_true hle.2]; rfl
  have hlow:=incP_low hok
  rw[show lstP p 4=p 3 from rfl]at hbad hgood hlow ⊢
  rw[show lstP p 5=p 4 from rfl]at hN'
  simp (config:={maxSteps:=400000})
  refine SC_pure hn4 ?_
  simp (config:={maxSteps:=400000})
  refine SC_pure hc4 ?_
  by_cases hz:p 4≤p 3
  ·have hKe:=hKe (hbad (by omega))
   simp (config:={maxSteps:=400000}) [hz,fz4,fy4]
   exact endK hKe [] (by simp)
  ·simp (config:={maxSteps:=400000}) [hz,fz4,fy4,w5]
   exact hN' [] _ _ (by omega) ⟨by omega,hgood (by omega)⟩ (by simp[hrr,renM])
 ·have hN':=hN 6
  have hle:=hple 5
  have hgo:=incP_succ fs.length p 5
  rw[hok,Bool.true_and]at hgo
  have hbad:¬lstP p 5<p 5→incB fs.length 0 [p 0,p 1,p 2,p 3,p 4,p 5]=false:=fun h=>(incP_pre (i:=5+1) (n:=6) (by omega) (by rw[hgo,decide_eq_false h]; rfl):incP fs.length p 6=false)
  have hgood:lstP p 5<p 5→incP fs.length p 6=true:=fun h=>by rw[hgo,decide_eq_true h,decide_eq_true hle.2]; rfl
  have hlow:=incP_low hok
  rw[show lstP p 5=p 4 from rfl]at hbad hgood hlow ⊢
  rw[show lstP p 6=p 5 from rfl]at hN'
  simp (config:={maxSteps:=400000})
  refine SC_pure hn5 ?_
  simp (config:={maxSteps:=400000})
  refine SC_pure hc5 ?_
  by_cases hz:p 5≤p 4
  ·have hKe:=hKe (hbad (by omega))
   simp (config:={maxSteps:=400000}) [hz,fz5,fy5]
   exact endK hKe [] (by simp)
  ·simp (config:={maxSteps:=400000}) [hz,fz5,fy5,w6]
   exact hN' [] _ _ (by omega) ⟨by omega,hgood (by omega)⟩ (by simp[hrr,renM])
 ·have hI:incB fs.length 0 [p 0,p 1,p 2,p 3,p 4,p 5]=true:=hok
  have hh:=hH (by exact inc6 hI)
  have hz:=fun get=>frz_immR (get:=get) (n:=1) (scal_rows (hgL (-1) [p 0,p 2,p 3,p 5]))
  have fx0:findA .str (.str [76,49]) [(.str [76,49],.int .i64 (p 0),0),(.str [76,50],.int .i64 (p 1),1),(.str [76,53],.int .i64 (p 2),2),(.str [82,53],.int .i64 (p 3),3),(.str [82,50],.int .i64 (p 4),4),(.str [82,49],.int .i64 (p 5),5)]=some (some (0,.int .i64 (p 0),0)):=rfl
  have fx1:findA .str (.str [76,50]) [(.str [76,49],.int .i64 (p 0),0),(.str [76,50],.int .i64 (p 1),1),(.str [76,53],.int .i64 (p 2),2),(.str [82,53],.int .i64 (p 3),3),(.str [82,50],.int .i64 (p 4),4),(.str [82,49],.int .i64 (p 5),5)]=some (some (1,.int .i64 (p 1),1)):=rfl
  have fx2:findA .str (.str [76,53]) [(.str [76,49],.int .i64 (p 0),0),(.str [76,50],.int .i64 (p 1),1),(.str [76,53],.int .i64 (p 2),2),(.str [82,53],.int .i64 (p 3),3),(.str [82,50],.int .i64 (p 4),4),(.str [82,49],.int .i64 (p 5),5)]=some (some (2,.int .i64 (p 2),2)):=rfl
  have fx3:findA .str (.str [82,53]) [(.str [76,49],.int .i64 (p 0),0),(.str [76,50],.int .i64 (p 1),1),(.str [76,53],.int .i64 (p 2),2),(.str [82,53],.int .i64 (p 3),3),(.str [82,50],.int .i64 (p 4),4),(.str [82,49],.int .i64 (p 5),5)]=some (some (3,.int .i64 (p 3),3)):=rfl
  have fx4:findA .str (.str [82,50]) [(.str [76,49],.int .i64 (p 0),0),(.str [76,50],.int .i64 (p 1),1),(.str [76,53],.int .i64 (p 2),2),(.str [82,53],.int .i64 (p 3),3),(.str [82,50],.int .i64 (p 4),4),(.str [82,49],.int .i64 (p 5),5)]=some (some (4,.int .i64 (p 4),4)):=rfl
  have fx5:findA .str (.str [82,49]) [(.str [76,49],.int .i64 (p 0),0),(.str [76,50],.int .i64 (p 1),1),(.str [76,53],.int .i64 (p 2),2),(.str [82,53],.int .i64 (p 3),3),(.str [82,50],.int .i64 (p 4),4),(.str [82,49],.int .i64 (p 5),5)]=some (some (5,.int .i64 (p 5),5)):=rfl
  have hKf:=hKv hI (.tuple [cV fs.length (hgL (-1) [p 0,p 2,p 3,p 5]),.sl 1 0 2,.int .i64 0]) ⟨[(1,.cells 8 [opP (p 1) (p 3) (p 2),opQ (p 4) (p 2)])],2⟩ (frz_tri (n:=2) (hz _) rfl rfl)
  have hq1:=cOp1 (p 1) (p 2) (p 3)
  have hq2:=cOp2 (p 4) (p 2)
  have hrL:=fun q=>renLL_closed q _ (closed_rows (hgL (-1) [p 0,p 2,p 3,p 5]))
  unfold cV at hh hKf
  unfold opP opQ at *
  generalize (hgL (-1) [p 0,p 2,p 3,p 5]).map rowL=rowsL at *
  simp (config:={maxSteps:=400000}) [hlenG,irow,fx0,fx1,fx2,fx3,fx4,fx5]
  refine SC_frz hh [20] (n:=8) (frz_args (n:=6) (hzr _) (by rfl)) ?_
  simp (config:={maxSteps:=400000}) [fx0,fx1,fx2,fx3,fx4,fx5]
  refine DC_new (by simp[closedL,AVal.closed]) (fun q=>by rfl) hq1 ?_
  simp (config:={maxSteps:=400000}) [fx0,fx1,fx2,fx3,fx4,fx5]
  refine DC_pure hq2 ?_
  simp (config:={maxSteps:=400000}) [appendRowsD,room]
  exact endK hKf [(1,51)] (by simp[hrL])
set_option maxRecDepth 100000 in
set_option maxHeartbeats 8000000 in
theorem pOp_4 {fs:List Fg} {re lo:Int} (hfs:fs.length≤1000) (hv:frB fs re lo=true) (hn6:Names6):PCall Tryz.prog 25 [frV fs re lo,.int .i64 4] (pOpT fs 4):=by
 refine PCall_F hm 5 Tryz.func25 chOpening rfl rfl (by simp[closedL,AVal.closed,closed_rowG,frV]) (pOpT_closed fs 4) fun K hK=>?_
 have hKe:incB fs.length 0 (posO fs 4)=false→K (.tuple [.agg [.int .i64 0,.nilSl],.nilSl,.int .i64 2]) ⟨[],1⟩:=fun h=>hK _ _ (by unfold pOpT openB; rw[h]; rfl)
 have hKv:incB fs.length 0 (posO fs 4)=true → ∀ r M,freezeV (SMem.get M) 5 r=some (.tuple [cV fs.length (hgL (-1) (corn (posO fs 4))),opO 4 (posO fs 4),.int .i64 0])→K r M:=fun h r M hr=>hK _ _ (by unfold pOpT openB; rw[h]; exact hr)
 clear hK
 obtain⟨p,hp⟩:∃ p:Nat→Int,(fun i=>fiR (digF ((digs 4).getD i 0)) fs)=p:=⟨_,rfl⟩
 have hP:posO fs 4=[p 0,p 1]:=by rw[← hp]; rfl
 have hple:∀ i,0≤p i∧p i≤fs.length:=fun i=>by rw[← hp]; exact pos_le fs _
 have hc0:PCall Tryz.prog 12 [frV fs re lo,.agg [.int .i64 1,.bool false,.int .i64 2]] (.int .i64 (p 0)):=by rw[← hp]; exact cIndex6 ⟨1,false,2⟩ fs re lo hfs
 have hn0:PCall Tryz.prog 15 [.str [76,50]] (.tuple [.agg [.int .i64 1,.bool false,.int .i64 2],.int .i64 0]):=hn6.L2
 have hc1:PCall Tryz.prog 12 [frV fs re lo,.agg [.int .i64 1,.bool true,.int .i64 2]] (.int .i64 (p 1)):=by rw[← hp]; exact cIndex6 ⟨1,true,2⟩ fs re lo hfs
 have hn1:PCall Tryz.prog 15 [.str [82,50]] (.tuple [.agg [.int .i64 1,.bool true,.int .i64 2],.int .i64 0]):=hn6.R2
 have hcv:=c82 fs re lo hfs
 rw[hv]at hcv
 have hH:=cHangV fs re lo [p 0,p 1] hfs (by simp) hv
 rw[hP]at hKe hKv
 clear hp hP hv
 unfold frV at *
 have hrr:∀ q,renLL q (fs.map rowG)=fs.map rowG:=fun q=>renLL_closed q _ (closed_rowG fs)
 have hlenG:(fs.map rowG).length=fs.length:=List.length_map ..
 have w1:IntKind.i64.wrap 1=1:=rfl
 have w2:IntKind.i64.wrap 2=2:=rfl
 have w3:IntKind.i64.wrap 3=3:=rfl
 have w4:IntKind.i64.wrap 4=4:=rfl
 have w5:IntKind.i64.wrap 5=5:=rfl
 have w6:IntKind.i64.wrap 6=6:=rfl
 have fz0:findA .str (.str [76,50]) []=some none:=rfl
 have fy0:findA .str (.str [76,50]) [(.str [76,50],.int .i64 (p 0),0)]=some (some (0,.int .i64 (p 0),0)):=rfl
 have fz1:findA .str (.str [82,50]) [(.str [76,50],.int .i64 (p 0),0)]=some none:=rfl
 have fy1:findA .str (.str [82,50]) [(.str [76,50],.int .i64 (p 0),0),(.str [82,50],.int .i64 (p 1),1)]=some (some (1,.int .i64 (p 1),1)):=rfl
 have hzr:=fun get=>frz_immR (get:=get) (n:=5) (scal_rowG fs)
 generalize fs.map rowG=rows at *
 simp
 refine SC_pure hcv ?_
 simp
 refine wZ_loop (α:=Nat) (fun i=>[(38,.int .i64 i),(37,.int .i64 2),(36,.sl 3 0 2),(9,.int .i64 (lstP p i)),(8,.map 4),(7,.sl 3 0 2),(4,.ptr 2 0 0),(2,.ptr 1 0 0),(1,.int .i64 4)])
  (fun i=>⟨[(4,.map ([(.str [76,50],.int .i64 (p 0),0),(.str [82,50],.int .i64 (p 1),1)].take i) i),(3,.cells 1 [[.str [76,50]],[.str [82,50]]]),(2,.cells 2 [[.int .i64 0,.nilSl]]),(1,.cells 3 [[.imm rows,.int .i64 re,.int .i64 lo]])],5⟩)
  (fun i=>2 - i) (fun i=>i≤2∧incP fs.length p i=true) 0 [(3,18),(4,20)] (by simp[hrr,lstP_zero,renM]) (by simp[incP_zero]) ?_
 rintro i ⟨hi,hok⟩ N hN
 try simp only at hi hN ⊢
 rcases (show i=0∨i=1∨i=2 by omega)with rfl|rfl|rfl
 ·have hN':=hN 1
  have hle:=hple 0
  have hgo:=incP_succ fs.length p 0
  rw[hok,Bool.true_and]at hgo
  have hbad:¬lstP p 0<p 0→incB fs.length 0 [p 0,p 1]=false:=fun h=>(incP_pre (i:=0+1) (n:=2) (by omega) (by rw[hgo,decide_eq_false h]; rfl):incP fs.length p 2=false)
  have hgood:lstP p 0<p 0→incP fs.length p 1=true:=fun h=>by rw[hgo,decide_eq_true h,decide_eq_true hle.2]; rfl
  have hlow:=incP_low hok
  rw[show lstP p 0=0 from rfl]at hbad hgood hlow ⊢
  rw[show lstP p 1=p 0 from rfl]at hN'
  simp (config:={maxSteps:=400000})
  refine SC_pure hn0 ?_
  simp (config:={maxSteps:=400000})
  refine SC_pure hc0 ?_
  by_cases hz:p 0≤0
  ·have hKe:=hKe (hbad (by omega))
   simp (config:={maxSteps:=400000}) [hz,fz0,fy0]
   exact endK hKe [] (by simp)
  ·simp (config:={maxSteps:=400000}) [hz,fz0,fy0,w1]
   exact hN' [] _ _ (by omega) ⟨by omega,hgood (by omega)⟩ (by simp[hrr,renM])
 ·have hN':=hN 2
  have hle:=hple 1
  have hgo:=incP_succ fs.length p 1
  rw[hok,Bool.true_and]at hgo
  have hbad:¬lstP p 1<p 1→incB fs.length 0 [p 0,p 1]=false:=fun h=>(incP_pre (i:=1+1) (n:=2) (by omega) (by rw[hgo,decide_eq_false h]; rfl):incP fs.length p 2=false)
  have hgood:lstP p 1<p 1→incP fs.length p 2=true:=fun h=>by rw[hgo,decide_eq_true h,decide_eq_true hle.2]; rfl
  have hlow:=incP_low hok
  rw[show lstP p 1=p 0 from rfl]at hbad hgood hlow ⊢
  rw[show lstP p 2=p 1 from rfl]at hN'
  simp (config:={maxSteps:=400000})
  refine SC_pure hn1 ?_
  simp (config:={maxSteps:=400000})
  refine SC_pure hc1 ?_
  by_cases hz:p 1≤p 0
  ·have hKe:=hKe (hbad (by omega))
   simp (config:={maxSteps:=400000}) [hz,fz1,fy1]
   exact endK hKe [] (by simp)
  ·simp (config:={maxSteps:=400000}) [hz,fz1,fy1,w2]
   exact hN' [] _ _ (by omega) ⟨by omega,hgood (by omega)⟩ (by simp[hrr,renM])
 ·have hI:incB fs.length 0 [p 0,p 1]=true:=hok
  have hh:=hH (by exact hI)
  have hz:=fun get=>frz_immR (get:=get) (n:=1) (scal_rows (hgL (-1) [p 0,p 1]))
  have fx0:findA .str (.str [76,50]) [(.str [76,50],.int .i64 (p 0),0),(.str [82,50],.int .i64 (p 1),1)]=some (some (0,.int .i64 (p 0),0)):=rfl
  have fx1:findA .str (.str [82,50]) [(.str [76,50],.int .i64 (p 0),0),(.str [82,50],.int .i64 (p 1),1)]=some (some (1,.int .i64 (p 1),1)):=rfl
  have hKf:=hKv hI (.tuple [cV fs.length (hgL (-1) [p 0,p 1]),.nilSl,.int .i64 0]) ⟨[],1⟩ (frz_tri (n:=2) (hz _) rfl rfl)
  have hrL:=fun q=>renLL_closed q _ (closed_rows (hgL (-1) [p 0,p 1]))
  unfold cV at hh hKf
  generalize (hgL (-1) [p 0,p 1]).map rowL=rowsL at *
  simp (config:={maxSteps:=400000}) [hlenG,irow,fx0,fx1]
  refine SC_frz hh [16] (n:=8) (frz_args (n:=6) (hzr _) (by rfl)) ?_
  simp (config:={maxSteps:=400000})
  exact endK hKf [] (by simp[hrL])
end Go.Known
end
section
namespace Go.Known
open Go Go.AE Go.Proofs
open Go.Plain
theorem std_ko95:stdV 1=ko95:=by kernel_rfl
theorem std_ko83:stdV 2=ko83:=by kernel_rfl
theorem std_ko49:stdV 3=ko49:=by kernel_rfl
theorem std_ko28:stdV 4=ko28:=by kernel_rfl
theorem std_opens {n:Nat} {k:Int} (h1:1≤n) (h2:n<5) (h3:1≤k) (h4:k≤4):∃ (f g:Int) (c d:List (List AVal)) (o:AVal) (m:Int),(o=.nilSl∧m=0 ∨ ∃ a b,o=.imm [a,b]∧m=2) ∧
 PCall Tryz.prog 25 [stdV n,.int .i64 k] (.tuple [.agg [.int .i64 f,.imm c],o,.int .i64 0])∧PCall Tryz.prog 28 [stdV n,.agg [.int .i64 f,.imm c],o] (.tuple [.agg [.int .i64 g,.imm d],.int .i64 m,.int .i64 0]):=by
 rcases (show k=1∨k=2∨k=3∨k=4 by omega)with rfl|rfl|rfl|rfl
 ·rcases (show n=1∨n=2∨n=3∨n=4 by omega)with rfl|rfl|rfl|rfl
  ·rw[std_ko95]; exact⟨_,_,_,_,_,_,.inl ⟨rfl,rfl⟩,mo102,mo103⟩
  ·rw[std_ko83]; exact⟨_,_,_,_,_,_,.inl ⟨rfl,rfl⟩,mo160,mo162⟩
  ·rw[std_ko49]; exact⟨_,_,_,_,_,_,.inl ⟨rfl,rfl⟩,mo231,mo233⟩
  ·rw[std_ko28]; exact⟨_,_,_,_,_,_,.inl ⟨rfl,rfl⟩,mo302,mo304⟩
 ·rcases (show n=1∨n=2∨n=3∨n=4 by omega)with rfl|rfl|rfl|rfl
  ·rw[std_ko95]; exact⟨_,_,_,_,_,_,.inr ⟨_,_,rfl,rfl⟩,mo106,mo128⟩
  ·rw[std_ko83]; exact⟨_,_,_,_,_,_,.inr ⟨_,_,rfl,rfl⟩,mo163,mo196⟩
  ·rw[std_ko49]; exact⟨_,_,_,_,_,_,.inr ⟨_,_,rfl,rfl⟩,mo234,mo267⟩
  ·rw[std_ko28]; exact⟨_,_,_,_,_,_,.inr ⟨_,_,rfl,rfl⟩,mo305,mo338⟩
 ·rcases (show n=1∨n=2∨n=3∨n=4 by omega)with rfl|rfl|rfl|rfl
  ·rw[std_ko95]; exact⟨_,_,_,_,_,_,.inr ⟨_,_,rfl,rfl⟩,mo129,mo151⟩
  ·rw[std_ko83]; exact⟨_,_,_,_,_,_,.inr ⟨_,_,rfl,rfl⟩,mo197,mo222⟩
  ·rw[std_ko49]; exact⟨_,_,_,_,_,_,.inr ⟨_,_,rfl,rfl⟩,mo268,mo293⟩
  ·rw[std_ko28]; exact⟨_,_,_,_,_,_,.inr ⟨_,_,rfl,rfl⟩,mo339,mo364⟩
 ·rcases (show n=1∨n=2∨n=3∨n=4 by omega)with rfl|rfl|rfl|rfl
  ·rw[std_ko95]; exact⟨_,_,_,_,_,_,.inl ⟨rfl,rfl⟩,mo153,mo155⟩
  ·rw[std_ko83]; exact⟨_,_,_,_,_,_,.inl ⟨rfl,rfl⟩,mo224,mo226⟩
  ·rw[std_ko49]; exact⟨_,_,_,_,_,_,.inl ⟨rfl,rfl⟩,mo295,mo297⟩
  ·rw[std_ko28]; exact⟨_,_,_,_,_,_,.inl ⟨rfl,rfl⟩,mo366,mo368⟩
theorem names6:Names6:=⟨mo89,mo104,mo98,mo100,mo105,mo101⟩
theorem openB_out {fs:List Fg} {k:Int} (hk:k<1∨4<k):openB fs k=false:=by
 unfold openB
 rcases hk with h|h
 ·rw[decide_eq_false (by omega)]; rfl
 ·rw[decide_eq_false (p:=k≤4) (by omega)]; simp
theorem cROpening (fs:List Fg) (re lo k:Int) (hfs:fs.length≤1000):PCall Tryz.prog 26 [frV fs re lo,.int .i64 k] (rOpT fs k):=by
 by_cases hk:k<1∨4<k
 ·have:=rOp_out (fs:=fs) (re:=re) (lo:=lo) hk
  unfold rOpT
  rw[openB_out hk]
  exact this
 ·rcases (show k=1∨k=2∨k=3∨k=4 by omega)with rfl|rfl|rfl|rfl
  ·exact rOp_1 hfs
  ·exact rOp_2 hfs
  ·exact rOp_3 hfs
  ·exact rOp_4 hfs
theorem cOpening (fs:List Fg) (re lo k:Int) (hfs:fs.length≤1000) (hv:frB fs re lo=true):PCall Tryz.prog 25 [frV fs re lo,.int .i64 k] (pOpT fs k):=by
 by_cases hk:k<1∨4<k
 ·have:=pOp_out (fs:=fs) hfs hv hk
  unfold pOpT
  rw[openB_out hk]
  exact this
 ·rcases (show k=1∨k=2∨k=3∨k=4 by omega)with rfl|rfl|rfl|rfl
  ·exact pOp_1 hfs hv names6
  ·exact pOp_2 hfs hv names6
  ·exact pOp_3 hfs hv names6
  ·exact pOp_4 hfs hv names6
theorem opO_same (k:Int) (P:List Int):PCall Tryz.prog 27 [opO k P,opO k P] (.bool true):=by
 unfold opO
 split
 ·split
  ·exact cSameOps2 _ _ _ _
  ·exact cSameOps2 _ _ _ _
 ·exact cSameOps0
theorem corn_len (k:Int) (fs:List Fg):(corn (posO fs k)).length≤6:=by
 unfold corn
 split
 ·simp
 ·unfold posO digs
  split
  ·simp
  ·split<;>simp
end Go.Known
end
section
namespace Go.Known
open Go Go.AE Go.Proofs
open Go.Plain
set_option maxRecDepth 100000 in
set_option maxHeartbeats 16000000 in
theorem cOpens6 (fs:List Fg) (re lo k n:Int):PCall Tryz.prog 6 [frV fs re lo,.int .i64 k,.int .i64 n] (.bool true):=by
 refine PCall_1 hm Tryz.func6 chHOpens rfl rfl (by simp[closedL,AVal.closed,closed_rowG,frV]) trivial fun K hK=>?_
 have hk:=known6
 have hS:=cShort6 fs re lo
 by_cases hs:fs.length≤60
 ·rw[decide_eq_true hs]at hS
  have hfs:fs.length≤1000:=by omega
  have hR:=cROpening fs re lo k hfs
  have hV:=cRValid fs re lo hfs
  have hz:=c12zH
  cases hv:frB fs re lo with
  | false=>
   have hO:=pOp_bad (k:=k) hfs hv
   rw[hv]at hV
   have hR':∃ f c o b,PCall Tryz.prog 26 [frV fs re lo,.int .i64 k] (.tuple [.agg [.int .i64 f,c],o,.bool b])∧c.one=true:=by
    unfold rOpT at hR
    split at hR
    ·exact⟨_,_,_,_,hR,rfl⟩
    ·exact⟨_,_,_,_,hR,rfl⟩
   obtain⟨f,c,o,b,hR',hc1⟩:=hR'
   clear hR
   unfold frV at *
   generalize fs.map rowG=rows at *
   simp
   refine SC_pure hS ?_
   simp
   refine SC_pure hO ?_
   simp
   refine SC_pure hR' ?_
   simp[hc1]
   refine SC_pure hV ?_
   cases b with
   | false=>
    simp
    refine SC_pure hz ?_
    simp
    refine SC_pure hk ?_
    simp
    exact endK hK [] (by simp)
   | true=>
    simp
    refine SC_pure hz ?_
    simp
    refine SC_pure hk ?_
    simp
    exact endK hK [] (by simp)
  | true=>
   have hO:=cOpening fs re lo k hfs hv
   rw[hv]at hV
   clear hv
   cases hb:openB fs k with
   | false=>
    unfold rOpT at hR
    unfold pOpT at hO
    rw[hb]at hR hO
    simp only[Bool.false_eq_true,if_false]at hR hO
    unfold frV at *
    generalize fs.map rowG=rows at *
    simp
    refine SC_pure hS ?_
    simp
    refine SC_pure hO ?_
    simp
    refine SC_pure hR ?_
    simp
    refine SC_pure hV ?_
    simp
    refine SC_pure hz ?_
    simp
    refine SC_pure hk ?_
    simp
    exact endK hK [] (by simp)
   | true=>
    have hkr:1≤k∧k≤4:=by
     unfold openB at hb
     simp only[Bool.and_eq_true,decide_eq_true_eq]at hb
     exact⟨hb.1,hb.2.1⟩
    have hL:=corn_len k fs
    have hE:=c12v fs.length fs.length (hgL (-1) (corn (posO fs k))) (hgL (-1) (corn (posO fs k))) (by rw[hgL_len]; omega) (by rw[hgL_len]; omega)
    rw[decide_eq_true rfl,decide_eq_true rfl]at hE
    have hE:PCall Tryz.prog 21 [cV fs.length (hgL (-1) (corn (posO fs k))),cV fs.length (hgL (-1) (corn (posO fs k)))] (.bool true):=hE
    have hM:=opO_same k (posO fs k)
    unfold rOpT at hR
    unfold pOpT at hO
    rw[hb]at hR hO
    simp only[if_true]at hR hO
    generalize opO k (posO fs k)=ov at *
    unfold cV at hE hR hO
    generalize (hgL (-1) (corn (posO fs k))).map rowL=rw at *
    unfold frV at *
    generalize fs.map rowG=rows at *
    by_cases hn:n<0∨4<n
    ·have hT:=cStdE hn
     simp
     refine SC_pure hS ?_
     simp
     refine SC_pure hO ?_
     simp
     refine SC_pure hR ?_
     simp
     refine SC_pure hV ?_
     simp
     refine SC_pure hE ?_
     simp
     refine SC_pure hM ?_
     simp
     refine SC_pure hT ?_
     simp
     refine SC_pure hk ?_
     simp
     exact endK hK [] (by simp)
    ·obtain⟨j,rfl⟩:∃ j:Nat,n=j:=⟨n.toNat,by omega⟩
     have hT:=cStd (n:=j) (by omega)
     have hV0:∃ rr,stdV j=.agg [rr,.int .i64 6,.int .i64 4]∧rr.one=true∧rr.cells=some [rr]:=by
      unfold stdV imV
      split
      ·exact⟨_,rfl,rfl,rfl⟩
      ·exact⟨_,rfl,rfl,rfl⟩
     by_cases hj:1≤j
     ·obtain⟨f,g,c,d,o,m,hom,h1,h2⟩:=std_opens hj (show j<5 by omega) hkr.1 hkr.2
      obtain⟨rr,e1,e2,e3⟩:=hV0
      rw[e1]at hT h1 h2
      have hj':¬(j:Int)<1:=by omega
      have hj2:¬j<1:=by omega
      rcases hom with⟨rfl,rfl⟩|⟨a,b,rfl,rfl⟩
      ·simp
       refine SC_pure hS ?_
       simp
       refine SC_pure hO ?_
       simp
       refine SC_pure hR ?_
       simp
       refine SC_pure hV ?_
       simp
       refine SC_pure hE ?_
       simp
       refine SC_pure hM ?_
       simp
       refine SC_pure hT ?_
       simp[hj',hj2,e2,e3]
       refine SC_pure h1 ?_
       simp
       refine SC_pure h2 ?_
       simp
       refine SC_pure hk ?_
       simp
       exact endK hK [] (by simp)
      ·simp
       refine SC_pure hS ?_
       simp
       refine SC_pure hO ?_
       simp
       refine SC_pure hR ?_
       simp
       refine SC_pure hV ?_
       simp
       refine SC_pure hE ?_
       simp
       refine SC_pure hM ?_
       simp
       refine SC_pure hT ?_
       simp[hj',hj2,e2,e3]
       refine SC_pure h1 ?_
       simp
       refine SC_pure h2 ?_
       simp
       refine SC_pure hk ?_
       simp
       exact endK hK [] (by simp)
     ·obtain rfl:j=0:=by omega
      obtain⟨rr,e1,e2,e3⟩:=hV0
      rw[e1]at hT
      simp
      refine SC_pure hS ?_
      simp
      refine SC_pure hO ?_
      simp
      refine SC_pure hR ?_
      simp
      refine SC_pure hV ?_
      simp
      refine SC_pure hE ?_
      simp
      refine SC_pure hM ?_
      simp
      refine SC_pure hT ?_
      simp[e2,e3]
      refine SC_pure hk ?_
      simp
      exact endK hK [] (by simp)
 ·rw[decide_eq_false hs]at hS
  unfold frV at *
  generalize fs.map rowG=rows at *
  simp
  refine SC_pure hS ?_
  simp
  refine SC_pure hk ?_
  simp
  exact endK hK [] (by simp)
end Go.Known
end
section
namespace Go.Known
open Go Go.AE Go.Proofs
open Go.Plain
open Go.ChangeShapes Go.WideShapes Go.RowKit Go.Deep
variable {H:Type} {enc:TypeId×Value→H} {w:World} {base:Nat} {spare:Nat→Bool} {held:Bool}
theorem law_callsO {v0:Value} (ht:T0 w) {fs:List Fg} {re lo:Int} (k n:Int) (h0:∀ ρ,R (allP w) ρ (frV fs re lo) v0) :
 Calls Tryz.prog 6 #[v0,.int .i64 k,.int .i64 n] w fun e w'=>e=.returned (.bool true)∧Below w.heap.size w w':=by
 have hc:=cOpens6 fs re lo k n ⟨fun _=>none,1⟩ []
 refine(hc.2 ⟨w,fun _=>none,allP w,ht⟩ (allP w) (fun _=>none) #[v0,.int .i64 k,.int .i64 n] w ⟨⟨Below.refl _ _,fun B o hB=>(by cases hB)⟩,fun B c hB=>allP_of hB,fun b x hx=>(by cases hx),fun b b' x x' l l' h1=>(by cases h1),fun b l hb=>(by cases hb),fun B c hB=>.inl hB⟩
  ⟨rfl,fun i x u hx hu=>?_⟩ (fun b hb=>by simp at hb)).mono fun e w' he=>?_
 ·match i,hx,hu with
  | 0,hx,hu=>cases hx; cases hu; exact h0 _
  | 1,hx,hu=>cases hx; cases hu; exact .int _ _
  | 2,hx,hu=>cases hx; cases hu; exact .int _ _
  | i+3,hx,hu=>simp at hx
 ·obtain⟨u,r,m',Φ',ρ',rfl,_,_,hr,hRr,_,rfl,_⟩:=he
  refine⟨?_,hr.base.below⟩
  cases hRr
  rfl
end Go.Known
end
