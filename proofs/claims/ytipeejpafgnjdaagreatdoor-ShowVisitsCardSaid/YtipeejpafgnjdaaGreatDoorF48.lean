/- Part 48 of the proof: Tx, Wa, Wb, Wc. -/
import Derived.Test.YtipeejpafgnjdaaGreatDoorF32
import Derived.Test.YtipeejpafgnjdaaGreatDoorF46
import Derived.Test.YtipeejpafgnjdaaGreatDoorF47
set_option linter.all false
section
namespace Go.Known
open Go Go.AE Go.Proofs
open Go.Plain
theorem fzV_slT {get:Nat→Option ABlk} {S:List Nat} {b k len:Nat} {els:List (List AVal)} (hb:memN b S=true) (hg:get b=some (.cells k els)) (hl:len≤els.length) (hs:∀ row,row∈els.take len → ∀ x,x∈row→freezeV (onlyG get S) 4 x=some x):fzV get S (.sl b 0 len)=.imm (els.take len):=by
 have h:onlyG get S b=some (.cells k els):=by unfold onlyG; rw [hb]; exact hg
 have h1:Nat.ble (0+len) els.length=true:=by rw [Nat.zero_add]; exact Nat.ble_eq_true_of_le hl
 unfold fzV
 rw [freezeV]
 simp only [h,h1,cond_true,List.drop_zero,mapO_closed hs]
def lvC (p:Int) (fs:List Fg) (ls:List Lt):Int×List Lt:=lvD p fs fs.length ls fs.length
theorem c52Lf (p:Int) (fs:List Fg) (re lo:Int) (ls:List Lt) (hf:fs.length≤1000) (h:ls.length≤1000) (he:handE fs re lo fs.length ls=0) :
 Ctr Tryz.prog 64 [.ptr 1 0 0,.int .i64 p] ⟨[(1,stB fs re lo fs.length ls)],2⟩ fun r m=>
  (lvE p fs ls≠0∧r=.int .i64 (lvE p fs ls)∧m=⟨[(1,stB fs re lo fs.length ls)],2⟩) ∨
  (lvE p fs ls=0∧r=.int .i64 0∧m=⟨[(1,stB (stayF p fs) re lo (lvC p fs ls).1 (lvC p fs ls).2)],3⟩):=by
 refine(c52L p fs re lo ls hf h he).freezeB fun r sm=>?_
 rintro(⟨h1,rfl,rfl⟩ | ⟨h1,rfl,rfl⟩)
 · refine⟨[],.inl ⟨h1,rfl,?_⟩⟩
   simp [lessB,memN,fzBl,fzBk_st]
 · refine⟨[2],.inr ⟨h1,rfl,?_⟩⟩
   have e1:((lvF p fs fs.length).map rowG++List.replicate (fs.length - (lvF p fs fs.length).length) rowZ).take (lvF p fs fs.length).length=(lvF p fs fs.length).map rowG:=by
    rw [List.take_append_of_le_length (by simp),List.take_of_length_le (by simp)]
   have e2:=fzV_slT (S:=[2]) (b:=2) (k:=3) (len:=(lvF p fs fs.length).length) (els:=(lvF p fs fs.length).map rowG++List.replicate (fs.length - (lvF p fs fs.length).length) rowZ)
    (get:=SMem.get ⟨[(2,.cells 3 ((lvF p fs fs.length).map rowG++List.replicate (fs.length - (lvF p fs fs.length).length) rowZ)),(1,.cells 5 [[.sl 2 0 (lvF p fs fs.length).length,.int .i64 re,.int .i64 lo,.int .i64 (lvD p fs fs.length ls fs.length).1,.imm ((lvD p fs fs.length ls fs.length).2.map rowL)]])],3⟩)
    rfl rfl (by simp) (by rw [e1]; exact scal_rowG _)
   rw [e1] at e2
   have e3:∀ x y:ABlk,lessB [2] [(2,x),(1,y)]=[(1,y)]:=fun x y=>by simp [lessB,memN]
   rw [e3]
   simp only [fzBl,fzBk,fzLL,List.map_cons,List.map_nil,fzV_int,fzV_immL,e2]
   rw [← lvF_all]
   rfl
theorem fz_fr (get:Nat→Option ABlk) (fs:List Fg) (re lo f e:Int) (ls:List Lt):freezeV get 5 (.tuple [frV fs re lo,cV f ls,.int .i64 e])=some (.tuple [frV fs re lo,cV f ls,.int .i64 e]):=by
 have h1:=freeze_imm (get:=get) (n:=2) (scal_rowG (get:=get) (n:=1) fs)
 have h2:=freeze_imm (get:=get) (n:=2) (scal_rows (get:=get) (n:=1) ls)
 unfold frV cV
 rw [freezeV]
 simp only [mapO]
 rw [freezeV]
 simp only [mapO]
 rw [h1,freezeV]
 simp only [mapO]
 rw [h2]
 rfl
noncomputable def lvT (p:Int) (fs:List Fg) (re lo f:Int) (ls:List Lt):AVal:=
 if handE fs re lo f ls≠0 then .tuple [.agg [.nilSl,.int .i64 0,.int .i64 0],.agg [.int .i64 0,.nilSl],.int .i64 (handE fs re lo f ls)]
 else if lvE p fs ls≠0 then .tuple [.agg [.nilSl,.int .i64 0,.int .i64 0],.agg [.int .i64 0,.nilSl],.int .i64 (lvE p fs ls)]
 else .tuple [frV (stayF p fs) re lo,cV (lvC p fs ls).1 (lvC p fs ls).2,.int .i64 0]
theorem closed_lvT (p:Int) (fs:List Fg) (re lo f:Int) (ls:List Lt):(lvT p fs re lo f ls).closed=true:=by
 unfold lvT
 split
 · rfl
 · split
   · rfl
   · simp [AVal.closed,closedL,frV,closed_rowG,closed_rows]
set_option maxRecDepth 100000 in
set_option maxHeartbeats 8000000 in
theorem c25 (p:Int) (fs:List Fg) (re lo f:Int) (ls:List Lt) (hf:fs.length≤1000) (h:ls.length≤1000):PCall Tryz.prog 24 [frV fs re lo,cV f ls,.int .i64 p] (lvT p fs re lo f ls):=by
 refine PCall_F hm 5 Tryz.func24 cf25 rfl rfl (by simp [closedL,AVal.closed,closed_rowG,closed_rows,frV]) (closed_lvT _ _ _ _ _ _) fun K hK=>?_
 have hrs:∀ (x:List Lt) q,renLL q (x.map rowL)=x.map rowL:=fun x q=>renLL_closed q _ (closed_rows x)
 have hrf:∀ (x:List Fg) q,renLL q (x.map rowG)=x.map rowG:=fun x q=>renLL_closed q _ (closed_rowG x)
 have h49:=c49 fs re lo f ls hf h
 have hS:(stayF p fs).length≤1000:=by unfold stayF; have:=List.length_filter_le (fun x:Fg=>!decide (x.p=p)) fs; omega
 unfold lvT at hK
 have hrs1:=hrs ls
 have hrf1:=hrf fs
 by_cases hE:handE fs re lo f ls=0
 · rw [if_neg (by simp [hE])] at hK
   obtain⟨_,hE',hF,_⟩:=handE_zero hE
   subst hF
   have h52:=c52Lf p fs re lo ls hf h hE
   have hL:(lvC p fs ls).2.length≤1000:=by have:=(lvD_ok (p:=p) hE' fs.length (Nat.le_refl _)).2.2; unfold lvC; omega
   by_cases hl:lvE p fs ls=0
   · rw [if_neg (by simp [hl])] at hK
     have hKv:=hK _ ⟨[],1⟩ (fz_fr _ (stayF p fs) re lo (lvC p fs ls).1 0 (lvC p fs ls).2)
     have h51:=c51z (stayF p fs) re lo (lvC p fs ls).1 (lvC p fs ls).2 hS hL
     have hrs2:=hrs (lvC p fs ls).2
     have hrf2:=hrf (stayF p fs)
     clear hK
     unfold stB frV cV at *
     simp
     refine SC_ctr h49 [] (by simp [hrs1,hrf1]) (by simp) (by simp) ?_
     rintro r sm (⟨h1,_⟩ | ⟨_,rfl,rfl⟩)
     · exact absurd hE h1
     simp [hrs1,hrf1]
     refine SC_ctr h52 [(1,14)] (by simp) (by simp [hrs1,hrf1]) (by simp) ?_
     rintro r sm (⟨h1,_⟩ | ⟨_,rfl,rfl⟩)
     · exact absurd hl h1
     simp [hrs2,hrf2]
     refine SC_ctr h51 [(1,14)] (by simp) (by simp [hrs2,hrf2]) (by simp) ?_
     rintro r sm ⟨rfl,rfl⟩
     simp [hrs2,hrf2]
     exact endK hKv [] (by simp [hrs2,hrf2])
   · rw [if_pos (by simpa using hl)] at hK
     have hKv:=hK (.tuple [.agg [.nilSl,.int .i64 0,.int .i64 0],.agg [.int .i64 0,.nilSl],.int .i64 (lvE p fs ls)]) ⟨[],1⟩ rfl
     clear hK
     unfold stB frV cV at *
     simp
     refine SC_ctr h49 [] (by simp [hrs1,hrf1]) (by simp) (by simp) ?_
     rintro r sm (⟨h1,_⟩ | ⟨_,rfl,rfl⟩)
     · exact absurd hE h1
     simp [hrs1,hrf1]
     refine SC_ctr h52 [(1,14)] (by simp) (by simp [hrs1,hrf1]) (by simp) ?_
     rintro r sm (⟨_,rfl,rfl⟩ | ⟨h1,_⟩)
     · simp [hl]
       exact endK hKv [] (by simp)
     · exact absurd h1 hl
 · rw [if_pos (by simpa using hE)] at hK
   have hKv:=hK (.tuple [.agg [.nilSl,.int .i64 0,.int .i64 0],.agg [.int .i64 0,.nilSl],.int .i64 (handE fs re lo f ls)]) ⟨[],1⟩ rfl
   clear hK
   unfold frV cV at *
   simp
   refine SC_ctr h49 [] (by simp [hrs1,hrf1]) (by simp) (by simp) ?_
   rintro r sm (⟨_,rfl,rfl⟩ | ⟨h1,_⟩)
   · simp [hE]
     exact endK hKv [] (by simp)
   · exact absurd h1 hE
end Go.Known
end
section
namespace Go.Known
open Go Go.AE Go.Proofs
open Go.Plain
section
variable {p:Int} {fs:List Fg} {ls:List Lt} {d:Nat}
theorem hasP_iff:hasP p fs=true ↔ ∃ j,j<fs.length∧(fgAt fs j).p=p:=by
 unfold hasP
 rw [List.any_eq_true]
 constructor
 · rintro⟨x,hx,h⟩
   obtain⟨j,hj,rfl⟩:=List.getElem_of_mem hx
   exact⟨j,hj,by rw [fgAt_eq hj]; simpa using h⟩
 · rintro⟨j,hj,h⟩
   exact⟨_,List.getElem_mem hj,by rw [← fgAt_eq hj]; simpa using h⟩
theorem smP_iff:∀ i,(0<smP p fs ls i ↔ ∃ j,j<i∧(fgAt fs j).p=p∧0<cnL ls ((j:Int)+1))
 | 0=>by simp [smP]
 | i+1=>by
  have ih:=smP_iff i
  simp only [smP]
  constructor
  · intro h
    by_cases h1:0<smP p fs ls i
    · obtain⟨j,h2,h3⟩:=ih.1 h1
      exact⟨j,by omega,h3⟩
    · by_cases h2:(fgAt fs i).p=p
      · rw [if_pos h2] at h
        exact⟨i,by omega,h2,by omega⟩
      · rw [if_neg h2] at h; omega
  · rintro⟨j,h1,h2,h3⟩
    rcases Nat.lt_or_ge j i with h4 | h4
    · have:=ih.2 ⟨j,h4,h2,h3⟩
      omega
    · have:j=i:=by omega
      subst this
      rw [if_pos h2]
      omega
end
end Go.Known
end
section
namespace Go.Known
open Go Go.AE Go.Proofs
open Go.Plain
theorem known9L:PCall Tryz.prog 13 [] (.bool true):=mo33
theorem cHands (fs:List Fg) (re lo f:Int) (ls:List Lt):PCall Tryz.prog 23 [frV fs re lo,cV f ls] (.bool (decide (fs.length≤45)&&decide (ls.length≤40))):=by
 refine PCall_1 hm Tryz.func23 cjHands rfl rfl (by simp [closedL,AVal.closed,closed_rowG,closed_rows,frV]) trivial fun K hK=>?_
 have hlen:(ls.map rowL).length=ls.length:=List.length_map ..
 have hlenG:(fs.map rowG).length=fs.length:=List.length_map ..
 unfold frV cV
 generalize ls.map rowL=rows at *
 generalize fs.map rowG=rowsG at *
 by_cases h1:fs.length≤45
 · have h1':(fs.length:Int)≤45:=by omega
   rw [decide_eq_true h1,Bool.true_and] at hK
   by_cases h2:ls.length≤40
   · have h2':(ls.length:Int)≤40:=by omega
     rw [decide_eq_true h2] at hK
     simp [hlen,hlenG,h1',h2']
     exact endK hK [] (by simp)
   · have h2':¬(ls.length:Int)≤40:=by omega
     rw [decide_eq_false h2] at hK
     simp [hlen,hlenG,h1',h2']
     exact endK hK [] (by simp)
 · have h1':¬(fs.length:Int)≤45:=by omega
   rw [decide_eq_false h1,Bool.false_and] at hK
   simp [hlen,hlenG,h1']
   exact endK hK [] (by simp)
end Go.Known
end
section
namespace Go.Known
open Go Go.AE Go.Proofs
open Go.Plain
open Go.ChangeShapes Go.WideShapes Go.RowKit Go.Deep
variable {H:Type} {enc:TypeId×Value→H} {w:World} {base:Nat} {spare:Nat→Bool} {held:Bool}
def rowGV (x:Fg):List Value:=[.int .i64 x.p,.bool x.r,.int .i64 x.d]
set_option maxRecDepth 100000 in
theorem finger_open {n:Nat} {cs:List Value} {x:DataW H×List MemPlace} (h:DataW.trod enc Tryz.prog w base spare held n 68 cs=some x) :
 ∃ l:Fg,cs=rowGV l:=by
 obtain⟨xs,m,_,_,hl,hlen,hf⟩:=DataW.trod_struct Tryz.underlying68 h
 have hc:Tryz.prog.cellsOf 68=3:=by kernel_rfl
 have h3:Tryz.prog.cellsOf 3=1:=by kernel_rfl
 have h4:Tryz.prog.cellsOf 4=1:=by kernel_rfl
 rw [hc] at hl
 match cs,hl with
 | [a0,a1,a2],_=>
  match xs,hlen with
  | [x0,x1,x2],_=>
   have e0:DataW.trod enc Tryz.prog w base spare held m 3 (([a0,a1,a2].drop 0).take (Tryz.prog.cellsOf 3))=some x0:=hf 0 _ rfl
   rw [h3] at e0
   have e1:DataW.trod enc Tryz.prog w base spare held m 4 (([a0,a1,a2].drop 1).take (Tryz.prog.cellsOf 4))=some x1:=hf 1 _ rfl
   rw [h4] at e1
   have e2:DataW.trod enc Tryz.prog w base spare held m 3 (([a0,a1,a2].drop 2).take (Tryz.prog.cellsOf 3))=some x2:=hf 2 _ rfl
   rw [h3] at e2
   obtain⟨n0,q0,_,_⟩:=DataW.trod_int (t:=3) (k:=.i64) Tryz.underlying3 e0
   obtain⟨b1,q1,_⟩:=DataW.trod_bool (t:=4) Tryz.underlying4 e1
   obtain⟨n2,q2,_,_⟩:=DataW.trod_int (t:=3) (k:=.i64) Tryz.underlying3 e2
   have r0:a0=.int .i64 n0:=by simpa using q0
   have r1:a1=.bool b1:=by simpa using q1
   have r2:a2=.int .i64 n2:=by simpa using q2
   subst r0 r1 r2
   exact⟨⟨n0,b1,n2⟩,rfl⟩
theorem rowG_R (Φ:Pers) (ρ:Rho) (l:Fg) (j:Nat) (x:AVal) (h:(rowG l)[j]? = some x):∃ v,(rowGV l)[j]? = some v∧v.oneCell'=true∧R Φ ρ x v:=by
 match j,h with
 | 0,h=>cases h; exact⟨_,rfl,rfl,.int _ _⟩
 | 1,h=>cases h; exact⟨_,rfl,rfl,.bool _⟩
 | 2,h=>cases h; exact⟨_,rfl,rfl,.int _ _⟩
 | j+3,h=>cases h
theorem slice_Rg {α:Type} [Inhabited α] (rowA:α→List AVal) (rowB:α→List Value) {k:Nat} {TS TE:TypeId} (hu:Tryz.prog.underlying TS=some (.slice TE)) (hck:Tryz.prog.cellsOf TE=k) (hk:0<k)
 (hA:∀ x,(rowA x).length=k) (hB:∀ x,(rowB x).length=k)
 (hrow:∀ (Φ:Pers) (ρ:Rho) (l:α) (j:Nat) (x:AVal),(rowA l)[j]? = some x → ∃ v,(rowB l)[j]? = some v∧v.oneCell'=true∧R Φ ρ x v)
 (hopen:∀ (m:Nat) (cs:List Value) (x:DataW H×List MemPlace),DataW.trod enc Tryz.prog w 0 (fun _=>true) held m TE cs=some x → ∃ l:α,cs=rowB l)
 {n:Nat} {v:Value} {x:DataW H×List MemPlace} (h:DataW.trod enc Tryz.prog w 0 (fun _=>true) held n TS [v]=some x):∃ ls:List α,∀ ρ,R (allP w) ρ (.imm (ls.map rowA)) v:=by
 have hf:∀ l:α,∃ v0,(rowB l)[0]? = some v0:=fun l=>⟨(rowB l)[0]'(by rw [hB]; exact hk),List.getElem?_eq_getElem _⟩
 rcases open_slice hu h with⟨h1,_⟩ | ⟨a,len,cap,m,n',D,Pl,h1,_,hlc,_,hm,_,hel⟩
 · cases h1
   exact⟨[],fun ρ=>.imm0 _ _ fun hp=>absurd hp (by omega)⟩
 · cases h1
   simp only [if_true] at hm
   subst hm
   rw [hck] at hel
   have hL:∀ i,∃ l:α,i<len→w.cells? 0 (a.add (i*k)) k=some (rowB l):=fun i=>by
    by_cases hi:i<len
    · obtain⟨cs',g1,g2⟩:=hel i (by omega)
      obtain⟨l,rfl⟩:=hopen _ _ _ g2
      exact⟨l,fun _=>g1⟩
    · exact⟨default,fun h=>absurd h hi⟩
   obtain⟨L,hL⟩:=Classical.axiomOfChoice hL
   rcases Nat.eq_zero_or_pos len with h0 | h0
   · subst h0
     refine⟨[],fun ρ=>.imm0 _ _ fun hp=>?_⟩
     obtain⟨cs',g1,g2⟩:=hel 0 (by omega)
     obtain⟨l,rfl⟩:=hopen _ _ _ g2
     obtain⟨v0,hv0⟩:=hf l
     have hh:=(cells_get g1 0 hk).1
     have e1:(a.add (0*k)).add 0=a:=by simp [Addr.add]
     rw [e1,hv0] at hh
     have hsp:=cell_spot hh
     obtain⟨ab,ao,asp⟩:=a
     simp only at hsp
     subst hsp
     exact⟨_,_,rfl⟩
   have hcell:∀ i j,i<len→j<k→w.cell? ((a.add (i*k)).add j)=(rowB (L i))[j]?:=fun i j hi hj=>(cells_get (hL i hi) j hj).1
   obtain⟨v0,hv0⟩:=hf (L 0)
   have hc0:=hcell 0 0 h0 hk
   rw [hv0] at hc0
   have hsp:a.spot=none:=by
    have e1:(a.add (0*k)).add 0=a:=by simp [Addr.add]
    rw [e1] at hc0
    exact cell_spot hc0
   have hblk:∃ c e fz,w.heap[a.block]? = some (.cells c e fz):=by
    obtain⟨c,e,fz,g1,_⟩:=cell_off hc0
    rw [add_block,add_block] at g1
    exact⟨c,e,fz,g1⟩
   obtain⟨c,e,fz,hcc⟩:=hblk
   have hat:∀ i j v,i<len→j<k→(rowB (L i))[j]? = some v→c[a.off+i*k+j]? = some v:=fun i j v hi hj hv=>by
    have h2:=hcell i j hi hj
    rw [hv] at h2
    obtain⟨c',e',fz',g1,g2⟩:=cell_off h2
    rw [add_block,add_block,hcc] at g1
    cases g1
    rw [add_off,add_off] at g2
    exact g2
   have hget:∀ (i:Nat) (row:List AVal),(((List.range len).map L).map rowA)[i]? = some row→i<len∧row=rowA (L i):=fun i row hi=>by
    rw [List.map_map,List.getElem?_map] at hi
    by_cases hil:i<len
    · rw [List.getElem?_range hil] at hi
      cases hi
      exact⟨hil,rfl⟩
    · rw [List.getElem?_eq_none (by simpa using hil)] at hi
      cases hi
   have hjk:∀ (l:α) (j:Nat) (x:AVal),(rowA l)[j]? = some x→j<k:=fun l j x hx=>by rw [← hA l]; exact(List.getElem?_eq_some_iff.1 hx).1
   refine⟨(List.range len).map L,fun ρ=>?_⟩
   obtain⟨ab,ao,asp⟩:=a
   simp only at hsp hcc hat
   subst hsp
   have hlen:(((List.range len).map L).map rowA).length=len:=by simp
   have:=R.imm (Φ:=allP w) (ρ:=ρ) (((List.range len).map L).map rowA) ab ao k _ c (fun i j=>((rowB (L i))[j]?).getD (.bool false)) (fun e=>by rw [e] at hlen; simp at hlen; omega) (by rw [hlen]; exact hlc)
    (by unfold allP; rw [hcc]) (fun i row hi=>by obtain⟨_,rfl⟩:=hget i row hi; exact hA _)
    (fun i row j x hi hj=>by
      obtain⟨hil,rfl⟩:=hget i row hi
      obtain⟨v,g1,g2,_⟩:=hrow (allP w) ρ (L i) j x hj
      rw [g1]
      exact⟨hat i j v hil (hjk _ j x hj) g1,g2⟩)
    (fun i row j x hi hj=>by
      obtain⟨hil,rfl⟩:=hget i row hi
      obtain⟨v,g1,_,g3⟩:=hrow (allP w) ρ (L i) j x hj
      rw [g1]
      exact g3)
   rw [hlen] at this
   exact this
theorem sliceG_R {n:Nat} {v:Value} {x:DataW H×List MemPlace} (h:DataW.trod enc Tryz.prog w 0 (fun _=>true) held n 48 [v]=some x):∃ ls:List Fg,∀ ρ,R (allP w) ρ (.imm (ls.map rowG)) v:=
 slice_Rg rowG rowGV (k:=3) Tryz.underlying48 (by kernel_rfl) (by decide) (fun _=>rfl) (fun _=>rfl) rowG_R (fun _ _ _ h=>finger_open h) h
set_option maxRecDepth 100000 in
theorem frame_R {v:Value} {d:DataW H} {p:List MemPlace} {b:Nat} (hok:Value.okWide Tryz.prog w .any b 50 v) (h:DataW.Trod enc Tryz.prog w 0 (fun _=>true) held 50 v d p):∃ (fs:List Fg) (re lo:Int),∀ ρ,R (allP w) ρ (frV fs re lo) v:=by
 unfold Value.okWide at hok
 rw [Tryz.underlying50] at hok
 obtain⟨cs,rfl,hsz,_⟩:=hok
 obtain⟨fuel,h⟩:=h
 have hc:Tryz.prog.cellsOf 50=3:=by kernel_rfl
 have h3:Tryz.prog.cellsOf 3=1:=by kernel_rfl
 have h22:Tryz.prog.cellsOf 48=1:=by kernel_rfl
 rw [hc] at hsz
 obtain⟨xs,n,_,_,hl,hlen,hf⟩:=DataW.trod_struct Tryz.underlying50 h
 obtain⟨cl⟩:=cs
 match cl,hsz with
 | [a0,a1,a2],_=>
  match xs,hlen with
  | [y0,y1,y2],_=>
   have e0:DataW.trod enc Tryz.prog w 0 (fun _=>true) held n 48 (([a0,a1,a2].drop 0).take (Tryz.prog.cellsOf 48))=some y0:=hf 0 _ rfl
   rw [h22] at e0
   have e1:DataW.trod enc Tryz.prog w 0 (fun _=>true) held n 3 (([a0,a1,a2].drop 1).take (Tryz.prog.cellsOf 3))=some y1:=hf 1 _ rfl
   rw [h3] at e1
   have e2:DataW.trod enc Tryz.prog w 0 (fun _=>true) held n 3 (([a0,a1,a2].drop 2).take (Tryz.prog.cellsOf 3))=some y2:=hf 2 _ rfl
   rw [h3] at e2
   obtain⟨k1,q1,_,_⟩:=DataW.trod_int (t:=3) (k:=.i64) Tryz.underlying3 e1
   obtain⟨k2,q2,_,_⟩:=DataW.trod_int (t:=3) (k:=.i64) Tryz.underlying3 e2
   have r1:a1=.int .i64 k1:=by simpa using q1
   have r2:a2=.int .i64 k2:=by simpa using q2
   subst r1 r2
   obtain⟨fs,hfs⟩:=sliceG_R (v:=a0) e0
   refine⟨fs,k1,k2,fun ρ=>.agg _ _ rfl fun i x v hx hv=>?_⟩
   match i,hx,hv with
   | 0,hx,hv=>cases hx; cases hv; exact hfs ρ
   | 1,hx,hv=>cases hx; cases hv; exact .int _ _
   | 2,hx,hv=>cases hx; cases hv; exact .int _ _
   | i+3,hx,hv=>simp at hx
end Go.Known
end
