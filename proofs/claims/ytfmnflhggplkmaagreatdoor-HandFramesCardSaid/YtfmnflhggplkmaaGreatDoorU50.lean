/- Part 50 of the proof: Hb, Wc. -/
import Derived.Test.YtfmnflhggplkmaaGreatDoorU35
import Derived.Test.YtfmnflhggplkmaaGreatDoorU47
import Derived.Test.YtfmnflhggplkmaaGreatDoorU48
import Derived.Test.YtfmnflhggplkmaaGreatDoorU49
import Derived.Shelf.SlSortCmp.NoneTotal
import Derived.Test.YtfmnflhggplkmaaGreatDoorProg
import Derived.Deep.QuietTactic
import Derived.BigQuiet
set_option linter.all false
section
namespace Go.Known
open Go Go.AE Go.Proofs
open Go.Plain
theorem known6:PCall Tryz.prog 8 [] (.bool true):=mo81
def okRun (e:Memo):Bool:=match runM tab (orcM []) e.g e.args with|some r=>beqA r e.v&&(closedL e.args&&e.v.closed)|none=>false
def stdL:Nat→List Fg
 | 0=>[]
 | n+1=>stdL n++(([1,2,3,4,5].map fun d=>⟨((n+1:Nat):Int),false,d⟩)++[5,4,3,2,1].map fun d=>⟨((n+1:Nat):Int),true,d⟩)
def stdV (n:Nat):AVal:=.agg [imV ((stdL n).map rowG),.int .i64 6,.int .i64 4]
theorem std_runs:((List.range 5).all fun n=>okRun ⟨9,[.int .i64 (n:Nat)],.tuple [stdV n,.int .i64 0]⟩)=true:=by kernel_rfl
theorem stdR_runs:((List.range 5).all fun n=>okRun ⟨14,[.int .i64 (n:Nat)],stdV n⟩)=true:=by kernel_rfl
theorem cStd {n:Nat} (h:n<5):PCall Tryz.prog 9 [.int .i64 (n:Nat)] (.tuple [stdV n,.int .i64 0]):=
 known_of (l:=[]) trivial ⟨9,[.int .i64 (n:Nat)],.tuple [stdV n,.int .i64 0]⟩ (List.all_eq_true.1 std_runs n (List.mem_range.2 h))
theorem cRStd {n:Nat} (h:n<5):PCall Tryz.prog 14 [.int .i64 (n:Nat)] (stdV n):=
 known_of (l:=[]) trivial ⟨14,[.int .i64 (n:Nat)],stdV n⟩ (List.all_eq_true.1 stdR_runs n (List.mem_range.2 h))
theorem cStdE {n:Int} (h:n<0∨4<n):PCall Tryz.prog 9 [.int .i64 n] (.tuple [.agg [.nilSl,.int .i64 0,.int .i64 0],.int .i64 2]):=by
 refine PCall_F hm 4 Tryz.func9 cq9 rfl rfl rfl rfl fun K hK=>?_
 have hKv:=hK (.tuple [.agg [.nilSl,.int .i64 0,.int .i64 0],.int .i64 2]) ⟨[],1⟩ rfl
 clear hK
 rcases h with h|h
 ·simp[h]
  exact endK hKv [] (by simp)
 ·have h':¬n<0:=by omega
  simp[h,h']
  exact endK hKv [] (by simp)
theorem cShort6 (fs:List Fg) (re lo:Int):PCall Tryz.prog 7 [frV fs re lo] (.bool (decide (fs.length≤60))):=by
 refine PCall_1 hm Tryz.func7 chShort rfl rfl (by simp[closedL,AVal.closed,closed_rowG,frV]) trivial fun K hK=>?_
 have hlenG:(fs.map rowG).length=fs.length:=List.length_map ..
 unfold frV
 generalize fs.map rowG=rowsG at *
 by_cases h1:fs.length≤60
 ·have h1':(fs.length:Int)≤60:=by omega
  rw[decide_eq_true h1]at hK
  simp[hlenG,h1']
  exact endK hK [] (by simp)
 ·have h1':¬(fs.length:Int)≤60:=by omega
  rw[decide_eq_false h1]at hK
  simp[hlenG,h1']
  exact endK hK [] (by simp)
theorem cIndex6 (x:Fg) (fs:List Fg) (re lo:Int) (h:fs.length≤1000):PCall Tryz.prog 12 [frV fs re lo,.agg (rowG x)] (.int .i64 (fiR x fs)):=by
 refine PCall_1 hm Tryz.func12 chIndex rfl rfl (by simp[closedL,AVal.closed,closed_rowG,rowG,frV]) trivial fun K hK=>?_
 have h1:=c150 x fs h
 have hle:=fi_le x fs
 unfold frV
 generalize fs.map rowG=rowsG at *
 unfold rowG at *
 simp
 refine SC_pure h1 ?_
 by_cases hlt:fiG x fs<fs.length
 ·have hw:IntKind.i64.wrap ((fiG x fs:Int)+1)=(fiG x fs:Int)+1:=wrap64 (by omega) (by omega)
  simp only[fiR,if_pos hlt]at hK
  simp[fiI,hlt,hw]
  exact endK hK [] (by simp)
 ·have hw:IntKind.i64.wrap 0=0:=rfl
  simp only[fiR,if_neg hlt]at hK
  simp[fiI,hlt,hw]
  exact endK hK [] (by simp)
theorem std_valid0:((List.range 5).all fun n=>okRun ⟨10,[stdV 0],.bool true⟩)=true:=by kernel_rfl
def chkF (fs:List Fg):Bool:=Nat.ble fs.length 40&&(List.range fs.length).all fun i=>decide (ThereP (fgAt fs i))&&decide (fiG (fgAt fs i) fs=i)
theorem chkF_ok {fs:List Fg} (h:chkF fs=true):FrV fs 6 4:=by
 unfold chkF at h
 simp only[Bool.and_eq_true,List.all_eq_true,List.mem_range,decide_eq_true_eq]at h
 exact⟨Nat.le_of_ble_eq_true h.1,by decide,by decide,by decide,by decide,fun i hi=>h.2 i hi⟩
theorem chk_std:((List.range 5).all fun n=>chkF (stdL n))=true:=by kernel_rfl
theorem frV_std (n:Nat):stdV (n+1)=frV (stdL (n+1)) 6 4:=by unfold stdV frV; rw[imV_ne (by simp[stdL])]
theorem cVStd {n:Nat} (h:n<5):PCall Tryz.prog 10 [stdV n] (.bool true):=by
 cases n with
 | zero=>exact known_of (l:=[]) trivial ⟨10,[stdV 0],.bool true⟩ (List.all_eq_true.1 std_valid0 0 (by simp))
 | succ n=>
  rw[frV_std]
  have hf:=chkF_ok (List.all_eq_true.1 chk_std (n+1) (List.mem_range.2 h))
  have:=c82 (stdL (n+1)) 6 4 (by have:=hf.1; omega)
  rw[frB_true hf]at this
  exact this
set_option maxRecDepth 100000 in
set_option maxHeartbeats 8000000 in
theorem cFrames6 (fs:List Fg) (re lo:Int) (x:Fg) (n:Int):PCall Tryz.prog 3 [frV fs re lo,.agg (rowG x),.int .i64 n] (.bool true):=by
 refine PCall_1 hm Tryz.func3 chHFrames rfl rfl (by simp[closedL,AVal.closed,closed_rowG,frV,rowG]) trivial fun K hK=>?_
 have hs:=cShort6 fs re lo
 have hk:=known6
 by_cases h60:fs.length≤60
 rotate_left
 ·rw[decide_eq_false h60]at hs
  unfold frV rowG at *
  simp
  refine SC_pure hs ?_
  simp
  refine SC_pure hk ?_
  simp
  exact endK hK [] (by simp)
 ·rw[decide_eq_true h60]at hs
  have hv:=c82 fs re lo (by omega)
  have hrv:=cRValid fs re lo (by omega)
  have hi:=cIndex6 x fs re lo (by omega)
  have hri:=cRIndex x fs re lo (by omega)
  generalize frB fs re lo=bV at *
  generalize fiR x fs=N at *
  unfold frV at hs hv hrv hi hri ⊢
  generalize fs.map rowG=rows at *
  by_cases hn:n<0∨4<n
  ·have hst:=cStdE hn
   have hcase:(n<0∧True)∨(¬n<0∧4<n):=by
    rcases hn with h|h
    ·exact .inl ⟨h,trivial⟩
    ·exact .inr ⟨by omega,h⟩
   unfold rowG at *
   simp
   refine SC_pure hs ?_
   simp
   refine SC_pure hst ?_
   simp
   refine DC_pure hv ?_
   simp
   refine DC_pure hrv ?_
   simp
   refine DC_pure hi ?_
   simp
   refine DC_pure hri ?_
   rcases hcase with⟨h1,_⟩|⟨h1,h2⟩
   ·simp[h1]
    refine SC_pure hk ?_
    simp
    exact endK hK [] (by simp)
   ·simp[h1,h2]
    refine SC_pure hk ?_
    simp
    exact endK hK [] (by simp)
  ·obtain⟨p,rfl,hp⟩:∃ p:Nat,n=(p:Int)∧p<5:=⟨n.toNat,by omega,by omega⟩
   have hst:=cStd hp
   have hrs:=cRStd hp
   have hvs:=cVStd hp
   have h1:¬(p:Int)<0:=by omega
   have h2:¬(4:Int)<(p:Int):=by omega
   have hre:=fun i hi=>get_rowG (stdL p) (i:=i) hi
   have hsl:((stdL p).map rowG).length=(stdL p).length:=List.length_map ..
   have hll:(stdL p).length≤40:=(chkF_ok (List.all_eq_true.1 chk_std p (List.mem_range.2 hp))).1
   have hrr:∀ q,renLL q ((stdL p).map rowG)=(stdL p).map rowG:=fun q=>renLL_closed q _ (closed_rowG _)
   unfold stdV at hst hrs hvs
   have hi1:(imV ((stdL p).map rowG)).one=true:=by unfold imV; split<;>rfl
   have hi2:(imV ((stdL p).map rowG)).cells=some [imV ((stdL p).map rowG)]:=by unfold imV; split<;>rfl
   have hsame:∀ i,i<(stdL p).length→sameCells [.int,.bool,.int] (rowG (fgAt (stdL p) i)) (rowG (fgAt (stdL p) i))=some true:=fun i _=>by rw[same_rowG]; simp
   by_cases h0:stdL p=[]
   ·rw[h0]at hst hrs hvs
    simp at hst hrs hvs
    unfold rowG at hi hri ⊢
    simp
    refine SC_pure hs ?_
    simp
    refine SC_pure hst ?_
    simp
    refine DC_pure hv ?_
    simp
    refine DC_pure hrv ?_
    simp
    refine DC_pure hi ?_
    simp
    refine DC_pure hri ?_
    simp[h1,h2]
    refine SC_pure hrs ?_
    simp
    refine SC_pure hvs ?_
    simp
    refine wZ_loop (α:=Unit) (fun _=>[(10,.int .i64 0),(9,.ptr 2 0 0),(7,.ptr 1 0 0)]) (fun _=>⟨[(2,.cells 3 [[.nilSl,.int .i64 6,.int .i64 4]]),(1,.cells 3 [[.nilSl,.int .i64 6,.int .i64 4]])],3⟩) (fun _=>0) (fun _=>True) () [(1,12),(2,37)] (by simp) trivial ?_
    intro _ _ N hN
    simp
    refine SC_pure hk ?_
    simp
    exact endK hK [] (by simp)
   ·have hne:(stdL p).map rowG≠[]:=by simpa using h0
    rw[imV_ne hne]at hst hrs hvs
    generalize hR:(stdL p).map rowG=R at *
    generalize (stdL p)=L at *
    unfold rowG at hi hri
    unfold rowG
    simp
    refine SC_pure hs ?_
    simp
    refine SC_pure hst ?_
    simp
    refine DC_pure hv ?_
    simp
    refine DC_pure hrv ?_
    simp
    refine DC_pure hi ?_
    simp
    refine DC_pure hri ?_
    simp[h1,h2]
    refine SC_pure hrs ?_
    simp
    refine SC_pure hvs ?_
    simp
    refine wZ_loop (α:=Nat) (fun i=>[(10,.int .i64 i),(9,.ptr 2 0 0),(7,.ptr 1 0 0)]) (fun _=>⟨[(2,.cells 3 [[.imm R,.int .i64 6,.int .i64 4]]),(1,.cells 3 [[.imm R,.int .i64 6,.int .i64 4]])],3⟩)
     (fun i=>L.length - i) (fun i=>i≤L.length) 0 [(1,12),(2,37)] (by simp[hrr]) (by simp) ?_
    intro i hi' N hN
    try simp only at hi' hN ⊢
    by_cases hlt:i<L.length
    ·have hg:=hre i hlt
     obtain⟨hgl,hg2⟩:=getE hg
     have hw:IntKind.i64.wrap ((i:Int)+1)=(i:Int)+1:=wrap64 (by omega) (by omega)
     have hsm:=hsame i hlt
     have hb:binA .neq (.flat [.int,.bool,.int]) (.agg (rowG (fgAt L i))) (.agg (rowG (fgAt L i)))=some (.bool false):=by simp[binA,eqA,hsm]
     have ht:List.take 3 (rowG (fgAt L i))=rowG (fgAt L i):=rfl
     have hrl:(rowG (fgAt L i)).length=3:=rfl
     simp[hlt,hsl,hg,hg2,hsm,hw,hrl,ht,hb]
     exact hN (i+1) [] _ _ (by omega) (by omega) (by simp[hrr])
    ·simp[hlt,hsl]
     refine SC_pure hk ?_
     simp
     exact endK hK [] (by simp)
end Go.Known
end
section
namespace Go.Known
open Go Go.AE Go.Proofs
open Go.Plain
open Go.ChangeShapes Go.WideShapes Go.RowKit Go.Deep
variable {H:Type} {enc:TypeId×Value→H} {w:World} {base:Nat} {spare:Nat→Bool} {held:Bool}
def rowGV (x:Fg):List Value:=[.int .i64 x.p,.bool x.r,.int .i64 x.d]
set_option maxRecDepth 100000 in
theorem finger_open {n:Nat} {cs:List Value} {x:DataW H×List MemPlace} (h:DataW.trod enc Tryz.prog w base spare held n 26 cs=some x) :
 ∃ l:Fg,cs=rowGV l:=by
 obtain⟨xs,m,_,_,hl,hlen,hf⟩:=DataW.trod_struct Tryz.underlying26 h
 have hc:Tryz.prog.cellsOf 26=3:=by kernel_rfl
 have h3:Tryz.prog.cellsOf 3=1:=by kernel_rfl
 have h4:Tryz.prog.cellsOf 4=1:=by kernel_rfl
 rw[hc]at hl
 match cs,hl with
 | [a0,a1,a2],_=>
  match xs,hlen with
  | [x0,x1,x2],_=>
   have e0:DataW.trod enc Tryz.prog w base spare held m 3 (([a0,a1,a2].drop 0).take (Tryz.prog.cellsOf 3))=some x0:=hf 0 _ rfl
   rw[h3]at e0
   have e1:DataW.trod enc Tryz.prog w base spare held m 4 (([a0,a1,a2].drop 1).take (Tryz.prog.cellsOf 4))=some x1:=hf 1 _ rfl
   rw[h4]at e1
   have e2:DataW.trod enc Tryz.prog w base spare held m 3 (([a0,a1,a2].drop 2).take (Tryz.prog.cellsOf 3))=some x2:=hf 2 _ rfl
   rw[h3]at e2
   obtain⟨n0,q0,_,_⟩:=DataW.trod_int (t:=3) (k:=.i64) Tryz.underlying3 e0
   obtain⟨b1,q1,_⟩:=DataW.trod_bool (t:=4) Tryz.underlying4 e1
   obtain⟨n2,q2,_,_⟩:=DataW.trod_int (t:=3) (k:=.i64) Tryz.underlying3 e2
   have r0:a0=.int .i64 n0:=by simpa using q0
   have r1:a1=.bool b1:=by simpa using q1
   have r2:a2=.int .i64 n2:=by simpa using q2
   subst r0 r1 r2
   exact⟨⟨n0,b1,n2⟩,rfl⟩
theorem rowG_R (Φ:Pers) (ρ:Rho) (l:Fg) (j:Nat) (x:AVal) (h:(rowG l)[j]? = some x):∃ v,(rowGV l)[j]? = some v∧v.oneCell'=true∧R Φ ρ x v:=by
 match j,h with
 | 0,h=>cases h; exact⟨_,rfl,rfl,.int _ _⟩
 | 1,h=>cases h; exact⟨_,rfl,rfl,.bool _⟩
 | 2,h=>cases h; exact⟨_,rfl,rfl,.int _ _⟩
 | j+3,h=>cases h
theorem slice_Rg {α:Type} [Inhabited α] (rowA:α→List AVal) (rowB:α→List Value) {k:Nat} {TS TE:TypeId} (hu:Tryz.prog.underlying TS=some (.slice TE)) (hck:Tryz.prog.cellsOf TE=k) (hk:0<k)
 (hA:∀ x,(rowA x).length=k) (hB:∀ x,(rowB x).length=k)
 (hrow:∀ (Φ:Pers) (ρ:Rho) (l:α) (j:Nat) (x:AVal),(rowA l)[j]? = some x → ∃ v,(rowB l)[j]? = some v∧v.oneCell'=true∧R Φ ρ x v)
 (hopen:∀ (m:Nat) (cs:List Value) (x:DataW H×List MemPlace),DataW.trod enc Tryz.prog w 0 (fun _=>true) held m TE cs=some x → ∃ l:α,cs=rowB l)
 {n:Nat} {v:Value} {x:DataW H×List MemPlace} (h:DataW.trod enc Tryz.prog w 0 (fun _=>true) held n TS [v]=some x):∃ ls:List α,∀ ρ,R (allP w) ρ (.imm (ls.map rowA)) v:=by
 have hf:∀ l:α,∃ v0,(rowB l)[0]? = some v0:=fun l=>⟨(rowB l)[0]'(by rw[hB]; exact hk),List.getElem?_eq_getElem _⟩
 rcases open_slice hu h with⟨h1,_⟩|⟨a,len,cap,m,n',D,Pl,h1,_,hlc,_,hm,_,hel⟩
 ·cases h1
  exact⟨[],fun ρ=>.imm0 _ _ fun hp=>absurd hp (by omega)⟩
 ·cases h1
  simp only[if_true]at hm
  subst hm
  rw[hck]at hel
  have hL:∀ i,∃ l:α,i<len→w.cells? 0 (a.add (i*k)) k=some (rowB l):=fun i=>by
   by_cases hi:i<len
   ·obtain⟨cs',g1,g2⟩:=hel i (by omega)
    obtain⟨l,rfl⟩:=hopen _ _ _ g2
    exact⟨l,fun _=>g1⟩
   ·exact⟨default,fun h=>absurd h hi⟩
  obtain⟨L,hL⟩:=Classical.axiomOfChoice hL
  rcases Nat.eq_zero_or_pos len with h0|h0
  ·subst h0
   refine⟨[],fun ρ=>.imm0 _ _ fun hp=>?_⟩
   obtain⟨cs',g1,g2⟩:=hel 0 (by omega)
   obtain⟨l,rfl⟩:=hopen _ _ _ g2
   obtain⟨v0,hv0⟩:=hf l
   have hh:=(cells_get g1 0 hk).1
   have e1:(a.add (0*k)).add 0=a:=by simp[Addr.add]
   rw[e1,hv0]at hh
   have hsp:=cell_spot hh
   obtain⟨ab,ao,asp⟩:=a
   simp only at hsp
   subst hsp
   exact⟨_,_,rfl⟩
  have hcell:∀ i j,i<len→j<k→w.cell? ((a.add (i*k)).add j)=(rowB (L i))[j]?:=fun i j hi hj=>(cells_get (hL i hi) j hj).1
  obtain⟨v0,hv0⟩:=hf (L 0)
  have hc0:=hcell 0 0 h0 hk
  rw[hv0]at hc0
  have hsp:a.spot=none:=by
   have e1:(a.add (0*k)).add 0=a:=by simp[Addr.add]
   rw[e1]at hc0
   exact cell_spot hc0
  have hblk:∃ c e fz,w.heap[a.block]? = some (.cells c e fz):=by
   obtain⟨c,e,fz,g1,_⟩:=cell_off hc0
   rw[add_block,add_block]at g1
   exact⟨c,e,fz,g1⟩
  obtain⟨c,e,fz,hcc⟩:=hblk
  have hat:∀ i j v,i<len→j<k→(rowB (L i))[j]? = some v→c[a.off+i*k+j]? = some v:=fun i j v hi hj hv=>by
   have h2:=hcell i j hi hj
   rw[hv]at h2
   obtain⟨c',e',fz',g1,g2⟩:=cell_off h2
   rw[add_block,add_block,hcc]at g1
   cases g1
   rw[add_off,add_off]at g2
   exact g2
  have hget:∀ (i:Nat) (row:List AVal),(((List.range len).map L).map rowA)[i]? = some row→i<len∧row=rowA (L i):=fun i row hi=>by
   rw[List.map_map,List.getElem?_map]at hi
   by_cases hil:i<len
   ·rw[List.getElem?_range hil]at hi
    cases hi
    exact⟨hil,rfl⟩
   ·rw[List.getElem?_eq_none (by simpa using hil)]at hi
    cases hi
  have hjk:∀ (l:α) (j:Nat) (x:AVal),(rowA l)[j]? = some x→j<k:=fun l j x hx=>by rw[← hA l]; exact(List.getElem?_eq_some_iff.1 hx).1
  refine⟨(List.range len).map L,fun ρ=>?_⟩
  obtain⟨ab,ao,asp⟩:=a
  simp only at hsp hcc hat
  subst hsp
  have hlen:(((List.range len).map L).map rowA).length=len:=by simp
  have:=R.imm (Φ:=allP w) (ρ:=ρ) (((List.range len).map L).map rowA) ab ao k _ c (fun i j=>((rowB (L i))[j]?).getD (.bool false)) (fun e=>by rw[e]at hlen; simp at hlen; omega) (by rw[hlen]; exact hlc)
   (by unfold allP; rw[hcc]) (fun i row hi=>by obtain⟨_,rfl⟩:=hget i row hi; exact hA _)
   (fun i row j x hi hj=>by
     obtain⟨hil,rfl⟩:=hget i row hi
     obtain⟨v,g1,g2,_⟩:=hrow (allP w) ρ (L i) j x hj
     rw[g1]
     exact⟨hat i j v hil (hjk _ j x hj) g1,g2⟩)
   (fun i row j x hi hj=>by
     obtain⟨hil,rfl⟩:=hget i row hi
     obtain⟨v,g1,_,g3⟩:=hrow (allP w) ρ (L i) j x hj
     rw[g1]
     exact g3)
  rw[hlen]at this
  exact this
theorem sliceG_R {n:Nat} {v:Value} {x:DataW H×List MemPlace} (h:DataW.trod enc Tryz.prog w 0 (fun _=>true) held n 22 [v]=some x):∃ ls:List Fg,∀ ρ,R (allP w) ρ (.imm (ls.map rowG)) v:=
 slice_Rg rowG rowGV (k:=3) Tryz.underlying22 (by kernel_rfl) (by decide) (fun _=>rfl) (fun _=>rfl) rowG_R (fun _ _ _ h=>finger_open h) h
set_option maxRecDepth 100000 in
theorem frame_R {v:Value} {d:DataW H} {p:List MemPlace} {b:Nat} (hok:Value.okWide Tryz.prog w .any b 24 v) (h:DataW.Trod enc Tryz.prog w 0 (fun _=>true) held 24 v d p):∃ (fs:List Fg) (re lo:Int),∀ ρ,R (allP w) ρ (frV fs re lo) v:=by
 unfold Value.okWide at hok
 rw[Tryz.underlying24]at hok
 obtain⟨cs,rfl,hsz,_⟩:=hok
 obtain⟨fuel,h⟩:=h
 have hc:Tryz.prog.cellsOf 24=3:=by kernel_rfl
 have h3:Tryz.prog.cellsOf 3=1:=by kernel_rfl
 have h22:Tryz.prog.cellsOf 22=1:=by kernel_rfl
 rw[hc]at hsz
 obtain⟨xs,n,_,_,hl,hlen,hf⟩:=DataW.trod_struct Tryz.underlying24 h
 obtain⟨cl⟩:=cs
 match cl,hsz with
 | [a0,a1,a2],_=>
  match xs,hlen with
  | [y0,y1,y2],_=>
   have e0:DataW.trod enc Tryz.prog w 0 (fun _=>true) held n 22 (([a0,a1,a2].drop 0).take (Tryz.prog.cellsOf 22))=some y0:=hf 0 _ rfl
   rw[h22]at e0
   have e1:DataW.trod enc Tryz.prog w 0 (fun _=>true) held n 3 (([a0,a1,a2].drop 1).take (Tryz.prog.cellsOf 3))=some y1:=hf 1 _ rfl
   rw[h3]at e1
   have e2:DataW.trod enc Tryz.prog w 0 (fun _=>true) held n 3 (([a0,a1,a2].drop 2).take (Tryz.prog.cellsOf 3))=some y2:=hf 2 _ rfl
   rw[h3]at e2
   obtain⟨k1,q1,_,_⟩:=DataW.trod_int (t:=3) (k:=.i64) Tryz.underlying3 e1
   obtain⟨k2,q2,_,_⟩:=DataW.trod_int (t:=3) (k:=.i64) Tryz.underlying3 e2
   have r1:a1=.int .i64 k1:=by simpa using q1
   have r2:a2=.int .i64 k2:=by simpa using q2
   subst r1 r2
   obtain⟨fs,hfs⟩:=sliceG_R (v:=a0) e0
   refine⟨fs,k1,k2,fun ρ=>.agg _ _ rfl fun i x v hx hv=>?_⟩
   match i,hx,hv with
   | 0,hx,hv=>cases hx; cases hv; exact hfs ρ
   | 1,hx,hv=>cases hx; cases hv; exact .int _ _
   | 2,hx,hv=>cases hx; cases hv; exact .int _ _
   | i+3,hx,hv=>simp at hx
end Go.Known
end
