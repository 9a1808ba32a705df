/- Part 46 of the proof: Wc, Og. -/
import Derived.Test.YtfmnflhggplkmaaGreatDoorO36
import Derived.Test.YtfmnflhggplkmaaGreatDoorO41
import Derived.Test.YtfmnflhggplkmaaGreatDoorO44
import Derived.Test.YtfmnflhggplkmaaGreatDoorO45
set_option linter.all false
section
namespace Go.Known
open Go Go.AE Go.Proofs
open Go.Plain
open Go.ChangeShapes Go.WideShapes Go.RowKit Go.Deep
variable {H:Type} {enc:TypeId×Value→H} {w:World} {base:Nat} {spare:Nat→Bool} {held:Bool}
def rowGV (x:Fg):List Value:=[.int .i64 x.p,.bool x.r,.int .i64 x.d]
set_option maxRecDepth 100000 in
theorem finger_open {n:Nat} {cs:List Value} {x:DataW H×List MemPlace} (h:DataW.trod enc Tryz.prog w base spare held n 26 cs=some x) :
 ∃ l:Fg,cs=rowGV l:=by
 obtain⟨xs,m,_,_,hl,hlen,hf⟩:=DataW.trod_struct Tryz.underlying26 h
 have hc:Tryz.prog.cellsOf 26=3:=by kernel_rfl
 have h3:Tryz.prog.cellsOf 3=1:=by kernel_rfl
 have h4:Tryz.prog.cellsOf 4=1:=by kernel_rfl
 rw[hc]at hl
 match cs,hl with
 | [a0,a1,a2],_=>
  match xs,hlen with
  | [x0,x1,x2],_=>
   have e0:DataW.trod enc Tryz.prog w base spare held m 3 (([a0,a1,a2].drop 0).take (Tryz.prog.cellsOf 3))=some x0:=hf 0 _ rfl
   rw[h3]at e0
   have e1:DataW.trod enc Tryz.prog w base spare held m 4 (([a0,a1,a2].drop 1).take (Tryz.prog.cellsOf 4))=some x1:=hf 1 _ rfl
   rw[h4]at e1
   have e2:DataW.trod enc Tryz.prog w base spare held m 3 (([a0,a1,a2].drop 2).take (Tryz.prog.cellsOf 3))=some x2:=hf 2 _ rfl
   rw[h3]at e2
   obtain⟨n0,q0,_,_⟩:=DataW.trod_int (t:=3) (k:=.i64) Tryz.underlying3 e0
   obtain⟨b1,q1,_⟩:=DataW.trod_bool (t:=4) Tryz.underlying4 e1
   obtain⟨n2,q2,_,_⟩:=DataW.trod_int (t:=3) (k:=.i64) Tryz.underlying3 e2
   have r0:a0=.int .i64 n0:=by simpa using q0
   have r1:a1=.bool b1:=by simpa using q1
   have r2:a2=.int .i64 n2:=by simpa using q2
   subst r0 r1 r2
   exact⟨⟨n0,b1,n2⟩,rfl⟩
theorem rowG_R (Φ:Pers) (ρ:Rho) (l:Fg) (j:Nat) (x:AVal) (h:(rowG l)[j]? = some x):∃ v,(rowGV l)[j]? = some v∧v.oneCell'=true∧R Φ ρ x v:=by
 match j,h with
 | 0,h=>cases h; exact⟨_,rfl,rfl,.int _ _⟩
 | 1,h=>cases h; exact⟨_,rfl,rfl,.bool _⟩
 | 2,h=>cases h; exact⟨_,rfl,rfl,.int _ _⟩
 | j+3,h=>cases h
theorem slice_Rg {α:Type} [Inhabited α] (rowA:α→List AVal) (rowB:α→List Value) {k:Nat} {TS TE:TypeId} (hu:Tryz.prog.underlying TS=some (.slice TE)) (hck:Tryz.prog.cellsOf TE=k) (hk:0<k)
 (hA:∀ x,(rowA x).length=k) (hB:∀ x,(rowB x).length=k)
 (hrow:∀ (Φ:Pers) (ρ:Rho) (l:α) (j:Nat) (x:AVal),(rowA l)[j]? = some x → ∃ v,(rowB l)[j]? = some v∧v.oneCell'=true∧R Φ ρ x v)
 (hopen:∀ (m:Nat) (cs:List Value) (x:DataW H×List MemPlace),DataW.trod enc Tryz.prog w 0 (fun _=>true) held m TE cs=some x → ∃ l:α,cs=rowB l)
 {n:Nat} {v:Value} {x:DataW H×List MemPlace} (h:DataW.trod enc Tryz.prog w 0 (fun _=>true) held n TS [v]=some x):∃ ls:List α,∀ ρ,R (allP w) ρ (.imm (ls.map rowA)) v:=by
 have hf:∀ l:α,∃ v0,(rowB l)[0]? = some v0:=fun l=>⟨(rowB l)[0]'(by rw[hB]; exact hk),List.getElem?_eq_getElem _⟩
 rcases open_slice hu h with⟨h1,_⟩|⟨a,len,cap,m,n',D,Pl,h1,_,hlc,_,hm,_,hel⟩
 ·cases h1
  exact⟨[],fun ρ=>.imm0 _ _ fun hp=>absurd hp (by omega)⟩
 ·cases h1
  simp only[if_true]at hm
  subst hm
  rw[hck]at hel
  have hL:∀ i,∃ l:α,i<len→w.cells? 0 (a.add (i*k)) k=some (rowB l):=fun i=>by
   by_cases hi:i<len
   ·obtain⟨cs',g1,g2⟩:=hel i (by omega)
    obtain⟨l,rfl⟩:=hopen _ _ _ g2
    exact⟨l,fun _=>g1⟩
   ·exact⟨default,fun h=>absurd h hi⟩
  obtain⟨L,hL⟩:=Classical.axiomOfChoice hL
  rcases Nat.eq_zero_or_pos len with h0|h0
  ·subst h0
   refine⟨[],fun ρ=>.imm0 _ _ fun hp=>?_⟩
   obtain⟨cs',g1,g2⟩:=hel 0 (by omega)
   obtain⟨l,rfl⟩:=hopen _ _ _ g2
   obtain⟨v0,hv0⟩:=hf l
   have hh:=(cells_get g1 0 hk).1
   have e1:(a.add (0*k)).add 0=a:=by simp[Addr.add]
   rw[e1,hv0]at hh
   have hsp:=cell_spot hh
   obtain⟨ab,ao,asp⟩:=a
   simp only at hsp
   subst hsp
   exact⟨_,_,rfl⟩
  have hcell:∀ i j,i<len→j<k→w.cell? ((a.add (i*k)).add j)=(rowB (L i))[j]?:=fun i j hi hj=>(cells_get (hL i hi) j hj).1
  obtain⟨v0,hv0⟩:=hf (L 0)
  have hc0:=hcell 0 0 h0 hk
  rw[hv0]at hc0
  have hsp:a.spot=none:=by
   have e1:(a.add (0*k)).add 0=a:=by simp[Addr.add]
   rw[e1]at hc0
   exact cell_spot hc0
  have hblk:∃ c e fz,w.heap[a.block]? = some (.cells c e fz):=by
   obtain⟨c,e,fz,g1,_⟩:=cell_off hc0
   rw[add_block,add_block]at g1
   exact⟨c,e,fz,g1⟩
  obtain⟨c,e,fz,hcc⟩:=hblk
  have hat:∀ i j v,i<len→j<k→(rowB (L i))[j]? = some v→c[a.off+i*k+j]? = some v:=fun i j v hi hj hv=>by
   have h2:=hcell i j hi hj
   rw[hv]at h2
   obtain⟨c',e',fz',g1,g2⟩:=cell_off h2
   rw[add_block,add_block,hcc]at g1
   cases g1
   rw[add_off,add_off]at g2
   exact g2
  have hget:∀ (i:Nat) (row:List AVal),(((List.range len).map L).map rowA)[i]? = some row→i<len∧row=rowA (L i):=fun i row hi=>by
   rw[List.map_map,List.getElem?_map]at hi
   by_cases hil:i<len
   ·rw[List.getElem?_range hil]at hi
    cases hi
    exact⟨hil,rfl⟩
   ·rw[List.getElem?_eq_none (by simpa using hil)]at hi
    cases hi
  have hjk:∀ (l:α) (j:Nat) (x:AVal),(rowA l)[j]? = some x→j<k:=fun l j x hx=>by rw[← hA l]; exact(List.getElem?_eq_some_iff.1 hx).1
  refine⟨(List.range len).map L,fun ρ=>?_⟩
  obtain⟨ab,ao,asp⟩:=a
  simp only at hsp hcc hat
  subst hsp
  have hlen:(((List.range len).map L).map rowA).length=len:=by simp
  have:=R.imm (Φ:=allP w) (ρ:=ρ) (((List.range len).map L).map rowA) ab ao k _ c (fun i j=>((rowB (L i))[j]?).getD (.bool false)) (fun e=>by rw[e]at hlen; simp at hlen; omega) (by rw[hlen]; exact hlc)
   (by unfold allP; rw[hcc]) (fun i row hi=>by obtain⟨_,rfl⟩:=hget i row hi; exact hA _)
   (fun i row j x hi hj=>by
     obtain⟨hil,rfl⟩:=hget i row hi
     obtain⟨v,g1,g2,_⟩:=hrow (allP w) ρ (L i) j x hj
     rw[g1]
     exact⟨hat i j v hil (hjk _ j x hj) g1,g2⟩)
   (fun i row j x hi hj=>by
     obtain⟨hil,rfl⟩:=hget i row hi
     obtain⟨v,g1,_,g3⟩:=hrow (allP w) ρ (L i) j x hj
     rw[g1]
     exact g3)
  rw[hlen]at this
  exact this
theorem sliceG_R {n:Nat} {v:Value} {x:DataW H×List MemPlace} (h:DataW.trod enc Tryz.prog w 0 (fun _=>true) held n 22 [v]=some x):∃ ls:List Fg,∀ ρ,R (allP w) ρ (.imm (ls.map rowG)) v:=
 slice_Rg rowG rowGV (k:=3) Tryz.underlying22 (by kernel_rfl) (by decide) (fun _=>rfl) (fun _=>rfl) rowG_R (fun _ _ _ h=>finger_open h) h
set_option maxRecDepth 100000 in
theorem frame_R {v:Value} {d:DataW H} {p:List MemPlace} {b:Nat} (hok:Value.okWide Tryz.prog w .any b 24 v) (h:DataW.Trod enc Tryz.prog w 0 (fun _=>true) held 24 v d p):∃ (fs:List Fg) (re lo:Int),∀ ρ,R (allP w) ρ (frV fs re lo) v:=by
 unfold Value.okWide at hok
 rw[Tryz.underlying24]at hok
 obtain⟨cs,rfl,hsz,_⟩:=hok
 obtain⟨fuel,h⟩:=h
 have hc:Tryz.prog.cellsOf 24=3:=by kernel_rfl
 have h3:Tryz.prog.cellsOf 3=1:=by kernel_rfl
 have h22:Tryz.prog.cellsOf 22=1:=by kernel_rfl
 rw[hc]at hsz
 obtain⟨xs,n,_,_,hl,hlen,hf⟩:=DataW.trod_struct Tryz.underlying24 h
 obtain⟨cl⟩:=cs
 match cl,hsz with
 | [a0,a1,a2],_=>
  match xs,hlen with
  | [y0,y1,y2],_=>
   have e0:DataW.trod enc Tryz.prog w 0 (fun _=>true) held n 22 (([a0,a1,a2].drop 0).take (Tryz.prog.cellsOf 22))=some y0:=hf 0 _ rfl
   rw[h22]at e0
   have e1:DataW.trod enc Tryz.prog w 0 (fun _=>true) held n 3 (([a0,a1,a2].drop 1).take (Tryz.prog.cellsOf 3))=some y1:=hf 1 _ rfl
   rw[h3]at e1
   have e2:DataW.trod enc Tryz.prog w 0 (fun _=>true) held n 3 (([a0,a1,a2].drop 2).take (Tryz.prog.cellsOf 3))=some y2:=hf 2 _ rfl
   rw[h3]at e2
   obtain⟨k1,q1,_,_⟩:=DataW.trod_int (t:=3) (k:=.i64) Tryz.underlying3 e1
   obtain⟨k2,q2,_,_⟩:=DataW.trod_int (t:=3) (k:=.i64) Tryz.underlying3 e2
   have r1:a1=.int .i64 k1:=by simpa using q1
   have r2:a2=.int .i64 k2:=by simpa using q2
   subst r1 r2
   obtain⟨fs,hfs⟩:=sliceG_R (v:=a0) e0
   refine⟨fs,k1,k2,fun ρ=>.agg _ _ rfl fun i x v hx hv=>?_⟩
   match i,hx,hv with
   | 0,hx,hv=>cases hx; cases hv; exact hfs ρ
   | 1,hx,hv=>cases hx; cases hv; exact .int _ _
   | 2,hx,hv=>cases hx; cases hv; exact .int _ _
   | i+3,hx,hv=>simp at hx
end Go.Known
end
section
namespace Go.Known
open Go Go.AE Go.Proofs
open Go.Plain
def pOpT (fs:List Fg) (k:Int):AVal:=
 if openB fs k=true then .tuple [cV fs.length (hgL (-1) (corn (posO fs k))),opO k (posO fs k),.int .i64 0]else .tuple [.agg [.int .i64 0,.nilSl],.nilSl,.int .i64 2]
theorem pOpT_closed (fs:List Fg) (k:Int):(pOpT fs k).closed=true:=by
 unfold pOpT
 split
 ·simp[cV,AVal.closed,closedL,closed_rows,opO_closed]
 ·rfl
def nmP (s:List UInt8) (r:Bool) (d:Int):Prop:=PCall Tryz.prog 15 [.str s] (.tuple [.agg [.int .i64 1,.bool r,.int .i64 d],.int .i64 0])
structure Names6:Prop where
 L1:nmP [76,49] false 1
 L2:nmP [76,50] false 2
 L5:nmP [76,53] false 5
 R5:nmP [82,53] true 5
 R2:nmP [82,50] true 2
 R1:nmP [82,49] true 1
set_option maxRecDepth 100000 in
theorem cOp1 (f y m:Int):Ctr Tryz.prog 41 [.int .i64 f,.int .i64 y,.int .i64 m] ⟨[],1⟩ fun r sm=>r=.sl 1 0 1∧sm=⟨[(1,.cells 8 [opP f m y])],3⟩:=by
 have h:Ctr Tryz.prog 41 [.int .i64 f,.int .i64 y,.int .i64 m] ⟨[],1⟩ fun r sm=>r=.sl 1 0 1∧sm=⟨[(1,.cells 8 [[.int .i64 3,.int .i64 f,.int .i64 m,.int .i64 1,.bool false,.int .i64 0,.sl 2 0 1,.bool false]]),(2,.cells 5 [[.int .i64 y,.int .i64 1,.bool false,.int .i64 0,.bool true]])],3⟩:=by
  refine ctr_P hm Tryz.func41 chOp1 rfl rfl fun K hK=>?_
  have hKv:=hK _ _ ⟨rfl,rfl⟩
  clear hK
  simp
  exact endK hKv [(1,12),(2,5)] (by simp)
 refine h.freezeB fun r sm=>?_
 rintro⟨rfl,rfl⟩
 exact⟨[2],rfl,rfl⟩
set_option maxRecDepth 100000 in
theorem cOp2 (f m:Int):PCall Tryz.prog 42 [.int .i64 f,.int .i64 m] (.agg (opQ f m)):=by
 refine PCall_F hm 3 Tryz.func42 chOp2 rfl rfl rfl rfl fun K hK=>?_
 have hKv:=hK (.agg (opQ f m)) ⟨[],1⟩ rfl
 clear hK
 unfold opQ at *
 simp
 exact endK hKv [] (by simp)
theorem pOp_bad {fs:List Fg} {re lo k:Int} (hfs:fs.length≤1000) (hv:frB fs re lo=false):PCall Tryz.prog 25 [frV fs re lo,.int .i64 k] (.tuple [.agg [.int .i64 0,.nilSl],.nilSl,.int .i64 2]):=by
 refine PCall_F hm 5 Tryz.func25 chOpening rfl rfl (by simp[closedL,AVal.closed,closed_rowG,frV]) rfl fun K hK=>?_
 have hKe:=hK (.tuple [.agg [.int .i64 0,.nilSl],.nilSl,.int .i64 2]) ⟨[],1⟩ rfl
 have hcv:=c82 fs re lo hfs
 rw[hv]at hcv
 unfold frV at *
 generalize fs.map rowG=rows at *
 simp
 refine SC_pure hcv ?_
 simp
 exact endK hKe [] (by simp)
theorem pOp_out {fs:List Fg} {re lo k:Int} (hfs:fs.length≤1000) (hv:frB fs re lo=true) (hk:k<1∨4<k):PCall Tryz.prog 25 [frV fs re lo,.int .i64 k] (.tuple [.agg [.int .i64 0,.nilSl],.nilSl,.int .i64 2]):=by
 refine PCall_F hm 5 Tryz.func25 chOpening rfl rfl (by simp[closedL,AVal.closed,closed_rowG,frV]) rfl fun K hK=>?_
 have hKe:=hK (.tuple [.agg [.int .i64 0,.nilSl],.nilSl,.int .i64 2]) ⟨[],1⟩ rfl
 have hcv:=c82 fs re lo hfs
 rw[hv]at hcv
 have h1:¬k=1:=by omega
 have h2:¬k=2:=by omega
 have h3:¬k=3:=by omega
 have h4:¬k=4:=by omega
 have hrr:∀ q,renLL q (fs.map rowG)=fs.map rowG:=fun q=>renLL_closed q _ (closed_rowG fs)
 unfold frV at *
 generalize fs.map rowG=rows at *
 simp
 refine SC_pure hcv ?_
 simp[h1,h2,h3,h4]
 refine wZ_loop (α:=Unit) (fun _=>[(38,.int .i64 0),(37,.int .i64 0),(36,.nilSl),(9,.int .i64 0),(8,.map 3),(7,.nilSl),(4,.ptr 2 0 0),(2,.ptr 1 0 0),(1,.int .i64 k)])
  (fun _=>⟨[(3,.map [] 0),(2,.cells 2 [[.int .i64 0,.nilSl]]),(1,.cells 3 [[.imm rows,.int .i64 re,.int .i64 lo]])],5⟩) (fun _=>0) (fun _=>True) () [(3,18)] (by simp[hrr,renM]) trivial ?_
 intro _ _ N hN
 simp
 exact endK hKe [] (by simp)
end Go.Known
end
