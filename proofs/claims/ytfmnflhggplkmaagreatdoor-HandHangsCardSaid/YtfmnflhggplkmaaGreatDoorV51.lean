/- Part 51 of the proof: Hh, Hi. -/
import Derived.Test.YtfmnflhggplkmaaGreatDoorV48
import Derived.Test.YtfmnflhggplkmaaGreatDoorV49
import Derived.Test.YtfmnflhggplkmaaGreatDoorV50
set_option linter.all false
section
namespace Go.Known
open Go Go.AE Go.Proofs
open Go.Plain
theorem c12zH:PCall Tryz.prog 21 [.agg [.int .i64 0,.nilSl],.agg [.int .i64 0,.nilSl]] (.bool true):=by
 refine PCall_1 hm Tryz.func21 cf12 rfl rfl rfl trivial fun K hK=>?_
 simp
 refine wZ_loop (α:=Unit) (fun _=>[(5,.int .i64 0),(2,.ptr 1 0 0)]) (fun _=>⟨[(1,.cells 2 [[.int .i64 0,.nilSl]])],2⟩) (fun _=>0) (fun _=>True) () [] (by simp) trivial ?_
 intro _ _ N hN
 simp
 exact endK hK [] (by simp)
theorem Wk_imV (rows:List (List AVal)):Wk (imV rows) (.imm rows):=by
 unfold imV
 split
 ·rename_i h; subst h; exact Wk_nil
 ·exact Wk.refl _
theorem cHangV (fs:List Fg) (re lo:Int) (xs:List Int) (h:fs.length≤1000) (hx:xs.length≤1000) (h1:frB fs re lo=true) (h2:incB fs.length 0 xs=true) :
 PCall Tryz.prog 19 [frV fs re lo,.imm (irow xs)] (.tuple [cV fs.length (hgL (-1) xs),.int .i64 0]):=by
 have:=cHang fs re lo xs h hx
 unfold hangT at this
 rw[if_pos ⟨h1,h2⟩]at this
 exact this.wk (Wk_tuple ⟨Wk_agg ⟨Wk.refl _,Wk_imV _,trivial⟩,Wk.refl _,trivial⟩)
theorem cRHangV (n:Nat) (xs:List Int) (h:n≤1000) (hx:xs.length≤1000) (h2:incB n 0 xs=true) :
 PCall Tryz.prog 20 [.int .i64 n,.imm (irow xs)] (.tuple [cV n (hgL (-1) xs),.bool true]):=by
 have:=cRHang n xs h hx
 unfold hangR at this
 rw[if_pos h2]at this
 exact this.wk (Wk_tuple ⟨Wk_agg ⟨Wk.refl _,Wk_imV _,trivial⟩,Wk.refl _,trivial⟩)
set_option maxRecDepth 100000 in
set_option maxHeartbeats 8000000 in
theorem cHangs6 (fs:List Fg) (re lo:Int) (xs:List Int):PCall Tryz.prog 5 [frV fs re lo,.imm (irow xs)] (.bool true):=by
 refine PCall_1 hm Tryz.func5 chHHangs rfl rfl (by simp[closedL,AVal.closed,closed_rowG,frV,closed_irow]) trivial fun K hK=>?_
 have hs:=cShort6 fs re lo
 have hk:=known6
 have hrrX:∀ q,renLL q (irow xs)=irow xs:=fun q=>renLL_closed q _ (closed_irow xs)
 have hlX:(irow xs).length=xs.length:=irow_length xs
 have hlG:(fs.map rowG).length=fs.length:=List.length_map ..
 by_cases h60:fs.length≤60
 rotate_left
 ·rw[decide_eq_false h60]at hs
  unfold frV at *
  simp
  refine SC_pure hs ?_
  simp
  refine SC_pure hk ?_
  simp
  exact endK hK [] (by simp)
 ·rw[decide_eq_true h60]at hs
  by_cases hx60:60<xs.length
  ·have hx':(60:Int)<(xs.length:Int):=by omega
   unfold frV at *
   simp
   refine SC_pure hs ?_
   simp[hlX,hx']
   refine SC_pure hk ?_
   simp
   exact endK hK [] (by simp)
  ·have hx':¬(60:Int)<(xs.length:Int):=by omega
   have hrv:=cRValid fs re lo (by omega)
   by_cases hgood:frB fs re lo=true∧incB fs.length 0 xs=true
   ·obtain⟨hB,hI⟩:=hgood
    have hh:=cHangV fs re lo xs (by omega) (by omega) hB hI
    have hr:=cRHangV fs.length xs (by omega) (by omega) hI
    have hE:=handE_hg hB hI
    have hFr:FrV fs re lo:=Classical.byContradiction fun hc=>by rw[frB_false hc]at hB; cases hB
    have hF:fs.length≤40:=hFr.1
    have hle:=inc_len xs 0 hI (by omega)
    have hL:(hgL (-1) xs).length≤1000:=by rw[hgL_len]; omega
    have hl:=c124 fs re lo fs.length (hgL (-1) xs) (by omega) hL hE
    have hp:=c83 fs re lo fs.length (hgL (-1) xs) (by omega) hL
    rw[decide_eq_true hE]at hp
    have h12:=c12v fs.length fs.length (hgL (-1) xs) (hgL (-1) xs) hL hL
    rw[decide_eq_true rfl,decide_eq_true rfl,Bool.true_and]at h12
    have hho:=fun n=>cHolds xs n (by omega)
    rw[hB]at hrv
    have hcl:(cnLs (hgL (-1) xs) fs.length).length=fs.length:=by simp[cnLs]
    have hNl:(nums (cnLs (hgL (-1) xs) fs.length)).length=fs.length:=by unfold nums; rw[List.length_map,hcl]
    have hat:∀ i,i<fs.length→(nums (cnLs (hgL (-1) xs) fs.length))[i]? = some [.int .i64 (if (i:Int)+1∈xs then 1 else 0)]:=fun i hi=>by
     unfold nums cnLs
     rw[List.getElem?_map,List.getElem?_map,List.getElem?_range hi]
     simp only[Option.map_some,hg_loops hI]
     split<;>rfl
    have hrN:∀ q,renLL q (nums (cnLs (hgL (-1) xs) fs.length))=nums (cnLs (hgL (-1) xs) fs.length):=fun q=>renLL_closed q _ (closed_nums _)
    generalize nums (cnLs (hgL (-1) xs) fs.length)=NN at *
    have hi1:(imV NN).one=true:=by unfold imV; split<;>rfl
    have hi2:(imV NN).cells=some [imV NN]:=by unfold imV; split<;>rfl
    unfold frV cV at *
    have hrrG:∀ q,renLL q (fs.map rowG)=fs.map rowG:=fun q=>renLL_closed q _ (closed_rowG fs)
    have hrrL:∀ q,renLL q ((hgL (-1) xs).map rowL)=(hgL (-1) xs).map rowL:=fun q=>renLL_closed q _ (closed_rows _)
    generalize (hgL (-1) xs).map rowL=rowsL at *
    generalize fs.map rowG=rowsG at *
    by_cases h0:NN=[]
    ·have hz:fs.length=0:=by rw[← hNl,h0]; rfl
     have hG0:rowsG=[]:=List.length_eq_zero_iff.1 (by omega)
     subst h0 hG0
     rw[hz]at hr hl h12 hp hh
     simp at hl hr h12 hp hh
     simp
     refine SC_pure hs ?_
     simp[hlX,hx']
     refine SC_pure hh ?_
     simp
     refine SC_pure hr ?_
     simp
     refine SC_pure hrv ?_
     simp
     refine SC_pure hl ?_
     simp
     refine SC_pure h12 ?_
     simp
     refine SC_pure hp ?_
     simp
     refine wZ_loop (α:=Unit) (fun _=>[(11,.int .i64 0),(9,.nilSl)]) (fun _=>⟨[],1⟩) (fun _=>0) (fun _=>True) () [] (by simp) trivial ?_
     intro _ _ N hN
     simp
     refine SC_pure hk ?_
     simp
     exact endK hK [] (by simp)
    ·rw[imV_ne h0]at hl
     simp
     refine SC_pure hs ?_
     simp[hlX,hx']
     refine SC_pure hh ?_
     simp[hlG]
     refine SC_pure hr ?_
     simp
     refine SC_pure hrv ?_
     simp
     refine SC_pure hl ?_
     simp
     refine SC_pure h12 ?_
     simp
     refine SC_pure hp ?_
     simp[hNl,hlG]
     refine wZ_loop (α:=Nat) (fun i=>[(11,.int .i64 i),(9,.imm NN),(1,.imm (irow xs))]) (fun _=>⟨[],1⟩) (fun i=>fs.length - i) (fun i=>i≤fs.length) 0 [] (by simp[hrrX,hrN]) (by simp) ?_
     intro i hi N hN
     try simp only at hi hN ⊢
     by_cases hlt:i<fs.length
     ·have hg:=hat i hlt
      obtain⟨hgl,hg2⟩:=getE hg
      have hw:IntKind.i64.wrap ((i:Int)+1)=(i:Int)+1:=wrap64 (by omega) (by omega)
      have hc:=hho ((i:Int)+1)
      have hN':=hN (i+1) []
      by_cases hm:(i:Int)+1∈xs
      ·rw[decide_eq_true hm]at hc
       rw[if_pos hm]at hg hg2
       simp[hlt,hNl,hg,hg2,hw]
       refine DC_pure hc ?_
       simp[hw]
       exact hN' _ _ (by omega) (by omega) (by simp[hrrX,hrN])
      ·rw[decide_eq_false hm]at hc
       rw[if_neg hm]at hg hg2
       simp[hlt,hNl,hg,hg2,hw]
       refine DC_pure hc ?_
       simp[hw]
       exact hN' _ _ (by omega) (by omega) (by simp[hrrX,hrN])
     ·simp[hlt,hNl]
      refine SC_pure hk ?_
      simp
      exact endK hK [] (by simp)
   ·have hh:=cHang fs re lo xs (by omega) (by omega)
    unfold hangT at hh
    rw[if_neg hgood]at hh
    have hr:=cRHang fs.length xs (by omega) (by omega)
    unfold hangR at hr
    have hz:=c12zH
    by_cases hI:incB fs.length 0 xs=true
    ·have hB:frB fs re lo=false:=by
      cases h:frB fs re lo with
      | false=>rfl
      | true=>exact absurd ⟨h,hI⟩ hgood
     rw[if_pos hI]at hr
     rw[hB]at hrv
     have hr:=hr.wk (v':=.tuple [cV fs.length (hgL (-1) xs),.bool true]) (Wk_tuple ⟨Wk_agg ⟨Wk.refl _,Wk_imV _,trivial⟩,Wk.refl _,trivial⟩)
     unfold frV cV at *
     generalize (hgL (-1) xs).map rowL=rowsL at *
     generalize fs.map rowG=rowsG at *
     simp
     refine SC_pure hs ?_
     simp[hlX,hx']
     refine SC_pure hh ?_
     simp[hlG]
     refine SC_pure hr ?_
     simp
     refine SC_pure hrv ?_
     simp
     refine SC_pure hz ?_
     simp
     refine SC_pure hk ?_
     simp
     exact endK hK [] (by simp)
    ·rw[if_neg hI]at hr
     generalize frB fs re lo=bV at *
     unfold frV at *
     generalize fs.map rowG=rowsG at *
     simp
     refine SC_pure hs ?_
     simp[hlX,hx']
     refine SC_pure hh ?_
     simp[hlG]
     refine SC_pure hr ?_
     simp
     refine SC_pure hrv ?_
     cases bV with
     | true=>
      simp
      refine SC_pure hz ?_
      simp
      refine SC_pure hk ?_
      simp
      exact endK hK [] (by simp)
     | false=>
      simp
      refine SC_pure hz ?_
      simp
      refine SC_pure hk ?_
      simp
      exact endK hK [] (by simp)
end Go.Known
end
section
namespace Go.Known
open Go Go.AE Go.Proofs
open Go.Plain
open Go.ChangeShapes Go.WideShapes Go.RowKit Go.Deep
variable {H:Type} {enc:TypeId×Value→H} {w:World} {base:Nat} {spare:Nat→Bool} {held:Bool}
set_option maxRecDepth 100000 in
theorem sliceI_R {n:Nat} {v:Value} {x:DataW H×List MemPlace} (h:DataW.trod enc Tryz.prog w 0 (fun _=>true) held n 41 [v]=some x):∃ ls:List Int,∀ ρ,R (allP w) ρ (.imm (irow ls)) v:=
 slice_Rg (fun i:Int=>[AVal.int .i64 i]) (fun i:Int=>[Value.int .i64 i]) (k:=1) Tryz.underlying41 (by kernel_rfl) (by decide) (fun _=>rfl) (fun _=>rfl)
  (fun Φ ρ l j x h=>by
    match j,h with
    | 0,h=>cases h; exact⟨_,rfl,rfl,.int _ _⟩
    | j+1,h=>simp at h)
  (fun m cs x h=>by
    obtain⟨n0,q0,_,_⟩:=DataW.trod_int (t:=3) (k:=.i64) Tryz.underlying3 h
    exact⟨n0,q0⟩) h
set_option maxRecDepth 100000 in
theorem ints_R {v:Value} {d:DataW H} {p:List MemPlace} {b:Nat} (hok:Value.okWide Tryz.prog w .any b 41 v) (h:DataW.Trod enc Tryz.prog w 0 (fun _=>true) held 41 v d p):∃ xs:List Int,∀ ρ,R (allP w) ρ (.imm (irow xs)) v:=by
 obtain⟨a,len,cap,rfl⟩:=okWide_slice Tryz.underlying41 hok
 obtain⟨fuel,h⟩:=h
 exact sliceI_R h
theorem law_callsH {v0 v1:Value} {fs:List Fg} {re lo:Int} {xs:List Int} (h0:∀ ρ,R (allP w) ρ (frV fs re lo) v0) (hR:∀ ρ,R (allP w) ρ (.imm (irow xs)) v1) :
 Calls Tryz.prog 5 #[v0,v1] w fun e w'=>e=.returned (.bool true)∧Below w.heap.size w w':=by
 have hc:=cHangs6 fs re lo xs ⟨fun _=>none,1⟩ []
 refine(hc.2 ⟨w,fun _=>none,allP w⟩ (allP w) (fun _=>none) #[v0,v1] w ⟨⟨Below.refl _ _,fun B o hB=>(by cases hB)⟩,fun B c hB=>allP_of hB,fun b x hx=>(by cases hx),fun b b' x x' l l' h1=>(by cases h1),fun b l hb=>(by cases hb),fun B c hB=>.inl hB⟩
  ⟨rfl,fun i x u hx hu=>?_⟩ (fun b hb=>by simp at hb)).mono fun e w' he=>?_
 ·match i,hx,hu with
  | 0,hx,hu=>cases hx; cases hu; exact h0 _
  | 1,hx,hu=>cases hx; cases hu; exact hR _
  | i+2,hx,hu=>simp at hx
 ·obtain⟨u,r,m',Φ',ρ',rfl,_,_,hr,hRr,_,rfl,_⟩:=he
  refine⟨?_,hr.base.below⟩
  cases hRr
  rfl
end Go.Known
end
