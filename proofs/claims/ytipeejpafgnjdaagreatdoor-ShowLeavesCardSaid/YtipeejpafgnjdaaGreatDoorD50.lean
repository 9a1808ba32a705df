/- Part 50 of the proof: Wb, Wc. -/
import Derived.Test.YtipeejpafgnjdaaGreatDoorD27
import Derived.Test.YtipeejpafgnjdaaGreatDoorD37
import Derived.Test.YtipeejpafgnjdaaGreatDoorD49
set_option linter.all false
section
namespace Go.Known
open Go Go.AE Go.Proofs
open Go.Plain
theorem known9L:PCall Tryz.prog 13 [] (.bool true):=mo33
theorem c12zL:PCall Tryz.prog 21 [.agg [.int .i64 0,.nilSl],.agg [.int .i64 0,.nilSl]] (.bool true):=by
 refine PCall_1 hm Tryz.func21 cf12 rfl rfl rfl trivial fun K hK=>?_
 simp
 refine wZ_loop (α:=Unit) (fun _=>[(5,.int .i64 0),(2,.ptr 1 0 0)]) (fun _=>⟨[(1,.cells 2 [[.int .i64 0,.nilSl]])],2⟩) (fun _=>0) (fun _=>True) () [] (by simp) trivial ?_
 intro _ _ N hN
 simp
 exact endK hK [] (by simp)
theorem cHands (fs:List Fg) (re lo f:Int) (ls:List Lt):PCall Tryz.prog 23 [frV fs re lo,cV f ls] (.bool (decide (fs.length≤45)&&decide (ls.length≤40))):=by
 refine PCall_1 hm Tryz.func23 cjHands rfl rfl (by simp [closedL,AVal.closed,closed_rowG,closed_rows,frV]) trivial fun K hK=>?_
 have hlen:(ls.map rowL).length=ls.length:=List.length_map ..
 have hlenG:(fs.map rowG).length=fs.length:=List.length_map ..
 unfold frV cV
 generalize ls.map rowL=rows at *
 generalize fs.map rowG=rowsG at *
 by_cases h1:fs.length≤45
 · have h1':(fs.length:Int)≤45:=by omega
   rw [decide_eq_true h1,Bool.true_and] at hK
   by_cases h2:ls.length≤40
   · have h2':(ls.length:Int)≤40:=by omega
     rw [decide_eq_true h2] at hK
     simp [hlen,hlenG,h1',h2']
     exact endK hK [] (by simp)
   · have h2':¬(ls.length:Int)≤40:=by omega
     rw [decide_eq_false h2] at hK
     simp [hlen,hlenG,h1',h2']
     exact endK hK [] (by simp)
 · have h1':¬(fs.length:Int)≤45:=by omega
   rw [decide_eq_false h1,Bool.false_and] at hK
   simp [hlen,hlenG,h1']
   exact endK hK [] (by simp)
theorem cSameFrameE (re lo:Int):PCall Tryz.prog 26 [frV [] re lo,.agg [.nilSl,.int .i64 re,.int .i64 lo]] (.bool true):=by
 refine PCall_1 hm Tryz.func26 cjSameFrame rfl rfl (by simp [closedL,AVal.closed,closedLL,frV]) trivial fun K hK=>?_
 unfold frV
 simp
 refine wZ_loop (α:=Unit) (fun _=>[(5,.int .i64 0),(2,.ptr 1 0 0),(3,.ptr 2 0 0)]) (fun _=>⟨[(2,.cells 3 [[.nilSl,.int .i64 re,.int .i64 lo]]),(1,.cells 3 [[.imm [],.int .i64 re,.int .i64 lo]])],3⟩) (fun _=>0) (fun _=>True) () [] (by simp) trivial ?_
 intro _ _ N hN
 simp
 exact endK hK [] (by simp)
theorem cSameFrameV (fs:List Fg) (re lo:Int) (h:fs.length≤1000):PCall Tryz.prog 26 [frV fs re lo,.agg [imV (fs.map rowG),.int .i64 re,.int .i64 lo]] (.bool true):=by
 by_cases h0:fs=[]
 · subst h0; exact cSameFrameE re lo
 · have h1:fs.map rowG≠[]:=by simpa using h0
   unfold imV
   rw [if_neg h1]
   exact cSameFrame fs re lo h
set_option maxRecDepth 100000 in
set_option maxHeartbeats 8000000 in
theorem cLeav (fs:List Fg) (re lo f:Int) (ls:List Lt) (p:Int):PCall Tryz.prog 5 [frV fs re lo,cV f ls,.int .i64 p] (.bool true):=by
 refine PCall_1 hm Tryz.func5 cjLeaves rfl rfl (by simp [closedL,AVal.closed,closed_rowG,closed_rows,frV]) trivial fun K hK=>?_
 have hh:=cHands fs re lo f ls
 have hk:=known9L
 by_cases hs:fs.length≤45∧ls.length≤40
 rotate_left
 · have hb:(decide (fs.length≤45)&&decide (ls.length≤40))=false:=by simpa using hs
   rw [hb] at hh
   unfold frV cV at *
   simp
   refine SC_pure hh ?_
   simp
   refine SC_pure hk ?_
   simp
   exact endK hK [] (by simp)
 · have hb:(decide (fs.length≤45)&&decide (ls.length≤40))=true:=by simpa using hs
   rw [hb] at hh
   have h25:=c25 p fs re lo f ls (by omega) (by omega)
   have hR:=cRLeave p fs re lo f ls (by omega) (by omega)
   have hS:(stayF p fs).length≤1000:=by unfold stayF; have:=List.length_filter_le (fun x:Fg=>!decide (x.p=p)) fs; omega
   have hsf:=cSameFrameV (stayF p fs) re lo hS
   have hsf0:=cSameFrame0
   have h12z:=c12zL
   have hrf:∀ q,renLL q ((stayF p fs).map rowG)=(stayF p fs).map rowG:=fun q=>renLL_closed q _ (closed_rowG _)
   have hrc:∀ q,renLL q ((lvC p fs ls).2.map rowL)=(lvC p fs ls).2.map rowL:=fun q=>renLL_closed q _ (closed_rows _)
   unfold lvT at h25
   unfold lvS at hR
   by_cases hE:handE fs re lo f ls=0
   · rw [if_neg (by simp [hE])] at h25 hR
     obtain⟨_,hE',hF,_⟩:=handE_zero hE
     subst hF
     have hL:(lvC p fs ls).2.length≤1000:=by have:=(lvD_ok (p:=p) hE' fs.length (Nat.le_refl _)).2.2; unfold lvC; omega
     by_cases hl:lvE p fs ls=0
     · rw [if_neg (by simp [hl])] at h25 hR
       have h12:=c12v (lvC p fs ls).1 (lvC p fs ls).1 (lvC p fs ls).2 (lvC p fs ls).2 hL hL
       rw [decide_eq_true rfl,decide_eq_true rfl,Bool.true_and] at h12
       have hri:=ren_imV (closed_rowG (stayF p fs))
       have hi1:(imV ((stayF p fs).map rowG)).one=true:=by unfold imV; split<;>rfl
       have hi2:(imV ((stayF p fs).map rowG)).cells=some [imV ((stayF p fs).map rowG)]:=by unfold imV; split<;>rfl
       generalize imV ((stayF p fs).map rowG)=V at *
       unfold frV cV at *
       simp
       refine SC_pure hh ?_
       simp
       refine SC_pure h25 ?_
       simp
       refine SC_pure hR ?_
       simp [hi1,hi2]
       refine SC_pure hsf ?_
       simp
       refine SC_pure h12 ?_
       simp
       refine SC_pure hk ?_
       simp
       exact endK hK [] (by simp)
     · rw [if_pos (by simpa using hl)] at h25 hR
       unfold frV cV at *
       simp
       refine SC_pure hh ?_
       simp
       refine SC_pure h25 ?_
       simp
       refine SC_pure hR ?_
       simp
       refine SC_pure hsf0 ?_
       simp
       refine SC_pure h12z ?_
       simp
       refine SC_pure hk ?_
       simp
       exact endK hK [] (by simp)
   · rw [if_pos (by simpa using hE)] at h25 hR
     unfold frV cV at *
     simp
     refine SC_pure hh ?_
     simp
     refine SC_pure h25 ?_
     simp
     refine SC_pure hR ?_
     simp
     refine SC_pure hsf0 ?_
     simp
     refine SC_pure h12z ?_
     simp
     refine SC_pure hk ?_
     simp
     exact endK hK [] (by simp)
end Go.Known
end
section
namespace Go.Known
open Go Go.AE Go.Proofs
open Go.Plain
open Go.ChangeShapes Go.WideShapes Go.RowKit Go.Deep
variable {H:Type} {enc:TypeId×Value→H} {w:World} {base:Nat} {spare:Nat→Bool} {held:Bool}
def rowGV (x:Fg):List Value:=[.int .i64 x.p,.bool x.r,.int .i64 x.d]
set_option maxRecDepth 100000 in
theorem finger_open {n:Nat} {cs:List Value} {x:DataW H×List MemPlace} (h:DataW.trod enc Tryz.prog w base spare held n 68 cs=some x) :
 ∃ l:Fg,cs=rowGV l:=by
 obtain⟨xs,m,_,_,hl,hlen,hf⟩:=DataW.trod_struct Tryz.underlying68 h
 have hc:Tryz.prog.cellsOf 68=3:=by kernel_rfl
 have h3:Tryz.prog.cellsOf 3=1:=by kernel_rfl
 have h4:Tryz.prog.cellsOf 4=1:=by kernel_rfl
 rw [hc] at hl
 match cs,hl with
 | [a0,a1,a2],_=>
  match xs,hlen with
  | [x0,x1,x2],_=>
   have e0:DataW.trod enc Tryz.prog w base spare held m 3 (([a0,a1,a2].drop 0).take (Tryz.prog.cellsOf 3))=some x0:=hf 0 _ rfl
   rw [h3] at e0
   have e1:DataW.trod enc Tryz.prog w base spare held m 4 (([a0,a1,a2].drop 1).take (Tryz.prog.cellsOf 4))=some x1:=hf 1 _ rfl
   rw [h4] at e1
   have e2:DataW.trod enc Tryz.prog w base spare held m 3 (([a0,a1,a2].drop 2).take (Tryz.prog.cellsOf 3))=some x2:=hf 2 _ rfl
   rw [h3] at e2
   obtain⟨n0,q0,_,_⟩:=DataW.trod_int (t:=3) (k:=.i64) Tryz.underlying3 e0
   obtain⟨b1,q1,_⟩:=DataW.trod_bool (t:=4) Tryz.underlying4 e1
   obtain⟨n2,q2,_,_⟩:=DataW.trod_int (t:=3) (k:=.i64) Tryz.underlying3 e2
   have r0:a0=.int .i64 n0:=by simpa using q0
   have r1:a1=.bool b1:=by simpa using q1
   have r2:a2=.int .i64 n2:=by simpa using q2
   subst r0 r1 r2
   exact⟨⟨n0,b1,n2⟩,rfl⟩
theorem rowG_R (Φ:Pers) (ρ:Rho) (l:Fg) (j:Nat) (x:AVal) (h:(rowG l)[j]? = some x):∃ v,(rowGV l)[j]? = some v∧v.oneCell'=true∧R Φ ρ x v:=by
 match j,h with
 | 0,h=>cases h; exact⟨_,rfl,rfl,.int _ _⟩
 | 1,h=>cases h; exact⟨_,rfl,rfl,.bool _⟩
 | 2,h=>cases h; exact⟨_,rfl,rfl,.int _ _⟩
 | j+3,h=>cases h
theorem slice_Rg {α:Type} [Inhabited α] (rowA:α→List AVal) (rowB:α→List Value) {k:Nat} {TS TE:TypeId} (hu:Tryz.prog.underlying TS=some (.slice TE)) (hck:Tryz.prog.cellsOf TE=k) (hk:0<k)
 (hA:∀ x,(rowA x).length=k) (hB:∀ x,(rowB x).length=k)
 (hrow:∀ (Φ:Pers) (ρ:Rho) (l:α) (j:Nat) (x:AVal),(rowA l)[j]? = some x → ∃ v,(rowB l)[j]? = some v∧v.oneCell'=true∧R Φ ρ x v)
 (hopen:∀ (m:Nat) (cs:List Value) (x:DataW H×List MemPlace),DataW.trod enc Tryz.prog w 0 (fun _=>true) held m TE cs=some x → ∃ l:α,cs=rowB l)
 {n:Nat} {v:Value} {x:DataW H×List MemPlace} (h:DataW.trod enc Tryz.prog w 0 (fun _=>true) held n TS [v]=some x):∃ ls:List α,∀ ρ,R (allP w) ρ (.imm (ls.map rowA)) v:=by
 have hf:∀ l:α,∃ v0,(rowB l)[0]? = some v0:=fun l=>⟨(rowB l)[0]'(by rw [hB]; exact hk),List.getElem?_eq_getElem _⟩
 rcases open_slice hu h with⟨h1,_⟩ | ⟨a,len,cap,m,n',D,Pl,h1,_,hlc,_,hm,_,hel⟩
 · cases h1
   exact⟨[],fun ρ=>.imm0 _ _ fun hp=>absurd hp (by omega)⟩
 · cases h1
   simp only [if_true] at hm
   subst hm
   rw [hck] at hel
   have hL:∀ i,∃ l:α,i<len→w.cells? 0 (a.add (i*k)) k=some (rowB l):=fun i=>by
    by_cases hi:i<len
    · obtain⟨cs',g1,g2⟩:=hel i (by omega)
      obtain⟨l,rfl⟩:=hopen _ _ _ g2
      exact⟨l,fun _=>g1⟩
    · exact⟨default,fun h=>absurd h hi⟩
   obtain⟨L,hL⟩:=Classical.axiomOfChoice hL
   rcases Nat.eq_zero_or_pos len with h0 | h0
   · subst h0
     refine⟨[],fun ρ=>.imm0 _ _ fun hp=>?_⟩
     obtain⟨cs',g1,g2⟩:=hel 0 (by omega)
     obtain⟨l,rfl⟩:=hopen _ _ _ g2
     obtain⟨v0,hv0⟩:=hf l
     have hh:=(cells_get g1 0 hk).1
     have e1:(a.add (0*k)).add 0=a:=by simp [Addr.add]
     rw [e1,hv0] at hh
     have hsp:=cell_spot hh
     obtain⟨ab,ao,asp⟩:=a
     simp only at hsp
     subst hsp
     exact⟨_,_,rfl⟩
   have hcell:∀ i j,i<len→j<k→w.cell? ((a.add (i*k)).add j)=(rowB (L i))[j]?:=fun i j hi hj=>(cells_get (hL i hi) j hj).1
   obtain⟨v0,hv0⟩:=hf (L 0)
   have hc0:=hcell 0 0 h0 hk
   rw [hv0] at hc0
   have hsp:a.spot=none:=by
    have e1:(a.add (0*k)).add 0=a:=by simp [Addr.add]
    rw [e1] at hc0
    exact cell_spot hc0
   have hblk:∃ c e fz,w.heap[a.block]? = some (.cells c e fz):=by
    obtain⟨c,e,fz,g1,_⟩:=cell_off hc0
    rw [add_block,add_block] at g1
    exact⟨c,e,fz,g1⟩
   obtain⟨c,e,fz,hcc⟩:=hblk
   have hat:∀ i j v,i<len→j<k→(rowB (L i))[j]? = some v→c[a.off+i*k+j]? = some v:=fun i j v hi hj hv=>by
    have h2:=hcell i j hi hj
    rw [hv] at h2
    obtain⟨c',e',fz',g1,g2⟩:=cell_off h2
    rw [add_block,add_block,hcc] at g1
    cases g1
    rw [add_off,add_off] at g2
    exact g2
   have hget:∀ (i:Nat) (row:List AVal),(((List.range len).map L).map rowA)[i]? = some row→i<len∧row=rowA (L i):=fun i row hi=>by
    rw [List.map_map,List.getElem?_map] at hi
    by_cases hil:i<len
    · rw [List.getElem?_range hil] at hi
      cases hi
      exact⟨hil,rfl⟩
    · rw [List.getElem?_eq_none (by simpa using hil)] at hi
      cases hi
   have hjk:∀ (l:α) (j:Nat) (x:AVal),(rowA l)[j]? = some x→j<k:=fun l j x hx=>by rw [← hA l]; exact(List.getElem?_eq_some_iff.1 hx).1
   refine⟨(List.range len).map L,fun ρ=>?_⟩
   obtain⟨ab,ao,asp⟩:=a
   simp only at hsp hcc hat
   subst hsp
   have hlen:(((List.range len).map L).map rowA).length=len:=by simp
   have:=R.imm (Φ:=allP w) (ρ:=ρ) (((List.range len).map L).map rowA) ab ao k _ c (fun i j=>((rowB (L i))[j]?).getD (.bool false)) (fun e=>by rw [e] at hlen; simp at hlen; omega) (by rw [hlen]; exact hlc)
    (by unfold allP; rw [hcc]) (fun i row hi=>by obtain⟨_,rfl⟩:=hget i row hi; exact hA _)
    (fun i row j x hi hj=>by
      obtain⟨hil,rfl⟩:=hget i row hi
      obtain⟨v,g1,g2,_⟩:=hrow (allP w) ρ (L i) j x hj
      rw [g1]
      exact⟨hat i j v hil (hjk _ j x hj) g1,g2⟩)
    (fun i row j x hi hj=>by
      obtain⟨hil,rfl⟩:=hget i row hi
      obtain⟨v,g1,_,g3⟩:=hrow (allP w) ρ (L i) j x hj
      rw [g1]
      exact g3)
   rw [hlen] at this
   exact this
theorem sliceG_R {n:Nat} {v:Value} {x:DataW H×List MemPlace} (h:DataW.trod enc Tryz.prog w 0 (fun _=>true) held n 48 [v]=some x):∃ ls:List Fg,∀ ρ,R (allP w) ρ (.imm (ls.map rowG)) v:=
 slice_Rg rowG rowGV (k:=3) Tryz.underlying48 (by kernel_rfl) (by decide) (fun _=>rfl) (fun _=>rfl) rowG_R (fun _ _ _ h=>finger_open h) h
set_option maxRecDepth 100000 in
theorem frame_R {v:Value} {d:DataW H} {p:List MemPlace} {b:Nat} (hok:Value.okWide Tryz.prog w .any b 50 v) (h:DataW.Trod enc Tryz.prog w 0 (fun _=>true) held 50 v d p):∃ (fs:List Fg) (re lo:Int),∀ ρ,R (allP w) ρ (frV fs re lo) v:=by
 unfold Value.okWide at hok
 rw [Tryz.underlying50] at hok
 obtain⟨cs,rfl,hsz,_⟩:=hok
 obtain⟨fuel,h⟩:=h
 have hc:Tryz.prog.cellsOf 50=3:=by kernel_rfl
 have h3:Tryz.prog.cellsOf 3=1:=by kernel_rfl
 have h22:Tryz.prog.cellsOf 48=1:=by kernel_rfl
 rw [hc] at hsz
 obtain⟨xs,n,_,_,hl,hlen,hf⟩:=DataW.trod_struct Tryz.underlying50 h
 obtain⟨cl⟩:=cs
 match cl,hsz with
 | [a0,a1,a2],_=>
  match xs,hlen with
  | [y0,y1,y2],_=>
   have e0:DataW.trod enc Tryz.prog w 0 (fun _=>true) held n 48 (([a0,a1,a2].drop 0).take (Tryz.prog.cellsOf 48))=some y0:=hf 0 _ rfl
   rw [h22] at e0
   have e1:DataW.trod enc Tryz.prog w 0 (fun _=>true) held n 3 (([a0,a1,a2].drop 1).take (Tryz.prog.cellsOf 3))=some y1:=hf 1 _ rfl
   rw [h3] at e1
   have e2:DataW.trod enc Tryz.prog w 0 (fun _=>true) held n 3 (([a0,a1,a2].drop 2).take (Tryz.prog.cellsOf 3))=some y2:=hf 2 _ rfl
   rw [h3] at e2
   obtain⟨k1,q1,_,_⟩:=DataW.trod_int (t:=3) (k:=.i64) Tryz.underlying3 e1
   obtain⟨k2,q2,_,_⟩:=DataW.trod_int (t:=3) (k:=.i64) Tryz.underlying3 e2
   have r1:a1=.int .i64 k1:=by simpa using q1
   have r2:a2=.int .i64 k2:=by simpa using q2
   subst r1 r2
   obtain⟨fs,hfs⟩:=sliceG_R (v:=a0) e0
   refine⟨fs,k1,k2,fun ρ=>.agg _ _ rfl fun i x v hx hv=>?_⟩
   match i,hx,hv with
   | 0,hx,hv=>cases hx; cases hv; exact hfs ρ
   | 1,hx,hv=>cases hx; cases hv; exact .int _ _
   | 2,hx,hv=>cases hx; cases hv; exact .int _ _
   | i+3,hx,hv=>simp at hx
theorem law_calls {v0 v1:Value} {fs:List Fg} {re lo f:Int} {ls:List Lt} (k:Int) (h0:∀ ρ,R (allP w) ρ (frV fs re lo) v0) (hR:∀ ρ,R (allP w) ρ (cV f ls) v1) :
 Calls Tryz.prog 5 #[v0,v1,.int .i64 k] w fun e w'=>e=.returned (.bool true)∧Below w.heap.size w w':=by
 have hc:=cLeav fs re lo f ls k ⟨fun _=>none,1⟩ []
 refine(hc.2 ⟨w,fun _=>none,allP w⟩ (allP w) (fun _=>none) #[v0,v1,.int .i64 k] w ⟨⟨Below.refl _ _,fun B o hB=>(by cases hB)⟩,fun B c hB=>allP_of hB,fun b x hx=>(by cases hx),fun b b' x x' l l' h1=>(by cases h1),fun b l hb=>(by cases hb),fun B c hB=>.inl hB⟩
  ⟨rfl,fun i x u hx hu=>?_⟩ (fun b hb=>by simp at hb)).mono fun e w' he=>?_
 · match i,hx,hu with
   | 0,hx,hu=>cases hx; cases hu; exact h0 _
   | 1,hx,hu=>cases hx; cases hu; exact hR _
   | 2,hx,hu=>cases hx; cases hu; exact .int _ _
   | i+3,hx,hu=>simp at hx
 · obtain⟨u,r,m',Φ',ρ',rfl,_,_,hr,hRr,_,rfl,_⟩:=he
   refine⟨?_,hr.base.below⟩
   cases hRr
   rfl
end Go.Known
end
