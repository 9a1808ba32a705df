/- Part 42 of the proof: Sz, Td, Te. -/
import Derived.Test.YtfmnflhggplkmaaGreatDoorV41
set_option linter.all false
section
namespace Go.Known
open Go Go.AE Go.Proofs
open Go.Plain
set_option maxRecDepth 100000 in
set_option maxHeartbeats 8000000 in
theorem c82 (fs:List Fg) (re lo:Int) (h:fs.length≤1000):PCall Tryz.prog 10 [frV fs re lo] (.bool (frB fs re lo)):=by
 refine PCall_1 hm Tryz.func10 cf82 rfl rfl (by simp[closedL,AVal.closed,closed_rowG,frV]) trivial fun K hK=>?_
 have hrr:∀ q,renLL q (fs.map rowG)=fs.map rowG:=fun q=>renLL_closed q _ (closed_rowG fs)
 have hlen:(fs.map rowG).length=fs.length:=List.length_map ..
 have hg:=fun i hi=>get_rowG fs (i:=i) hi
 have h118:=c118
 have h119:=fun i=>c119 (fgAt fs i) (fs.take i) (by rw[List.length_take]; omega)
 simp only[List.map_take]at h119
 unfold frV at *
 have hT:∀ i,closedLL ((fs.map rowG).take i)=true:=fun i=>by rw[← List.map_take]; exact closed_rowG _
 have h3:(∀ x,x∈fs.map rowG→x.length=3)=True:=eq_true fun x hx=>by
  obtain⟨l,_,rfl⟩:=List.mem_map.1 hx
  rfl
 generalize fs.map rowG=rows at *
 have hno:¬FrV fs re lo → ∀ m,SubR 1 [] [(0,.bool false)] ⟨[],1⟩ [(0,.bool false)] m→EndK 1 K (.bool false) m:=fun hn m hs=>by
  rw[frB_false hn]at hK
  exact endK hK [] hs
 by_cases h1:40<fs.length
 ·have h1':(40:Int)<(fs.length:Int):=by omega
  simp[hlen,h1']
  exact hno (fun hv=>by have:=hv.1; omega) _ (by simp)
 have h1':¬(40:Int)<(fs.length:Int):=by omega
 by_cases h2:re<0
 ·simp[hlen,h1',h2]
  exact hno (fun hv=>by have:=hv.2.1; omega) _ (by simp)
 by_cases h3':40<re
 ·simp[hlen,h1',h2,h3']
  exact hno (fun hv=>by have:=hv.2.2.1; omega) _ (by simp)
 by_cases h4:lo<1
 ·simp[hlen,h1',h2,h3',h4]
  exact hno (fun hv=>by have:=hv.2.2.2.1; omega) _ (by simp)
 by_cases h5:20<lo
 ·simp[hlen,h1',h2,h3',h4,h5]
  exact hno (fun hv=>by have:=hv.2.2.2.2.1; omega) _ (by simp)
 simp[hlen,h1',h2,h3',h4,h5]
 refine wZ_loop (α:=Nat) (fun i=>[(32,.int .i64 i),(31,.int .i64 fs.length),(30,.imm rows),(1,.ptr 1 0 0)]) (fun _=>⟨[(1,.cells 3 [[.imm rows,.int .i64 re,.int .i64 lo]])],2⟩) (fun i=>fs.length - i) (fun i=>i≤fs.length ∧ ∀ j,j<i→ThereP (fgAt fs j)∧fiG (fgAt fs j) fs=j) 0 [] (by simp[hrr]) (by simp) ?_
 rintro i ⟨hi,hI⟩ N hN
 try simp only at hi hN ⊢
 by_cases hlt:i<fs.length
 ·have hgi:=hg i hlt
  obtain⟨hgl,hg2⟩:=getE hgi
  have hw:IntKind.i64.wrap ((i:Int)+1)=(i:Int)+1:=wrap64 (by omega) (by omega)
  have h8:=h118 (fgAt fs i)
  have h9:=h119 i
  unfold rowG at *
  simp[hlt,hgi,hg2,hw]
  refine DC_pure h8 ?_
  by_cases ht:ThereP (fgAt fs i)
  ·have hle:i≤rows.length:=by omega
   have hft:=fi_take hlt
   by_cases hf:fiG (fgAt fs i) fs=i
   ·have hnf:¬fiG (fgAt fs i) (fs.take i)<(fs.take i).length:=fun hh=>hft.1 hh hf
    rw[decide_eq_false hnf]at h9
    simp[ht,h3,hle]
    refine DC_pure h9 ?_
    simp[hw]
    refine hN (i+1) [] _ _ (by omega) ⟨by omega,fun j hj=>?_⟩ (by simp[hrr])
    by_cases hji:j=i
    ·subst hji; exact⟨ht,hf⟩
    ·exact hI j (by omega)
   ·have hnf:=hft.2 hf
    rw[decide_eq_true hnf]at h9
    simp[ht,h3,hle]
    refine DC_pure h9 ?_
    simp[]
    exact hno (fun hv=>hf (hv.2.2.2.2.2 i hlt).2) _ (by simp)
  ·simp[ht]
   exact hno (fun hv=>ht (hv.2.2.2.2.2 i hlt).1) _ (by simp)
 ·have hie:i=fs.length:=by omega
  subst hie
  have hv:FrV fs re lo:=⟨by omega,by omega,by omega,by omega,by omega,hI⟩
  rw[frB_true hv]at hK
  simp[]
  exact endK hK [] (by simp)
end Go.Known
end
section
namespace Go.Known
open Go Go.AE Go.Proofs
open Go.Plain
def fiR (x:Fg) (fs:List Fg):Int:=if fiG x fs<fs.length then (fiG x fs:Int)+1 else 0
set_option maxRecDepth 100000 in
set_option maxHeartbeats 4000000 in
theorem cRIndex (x:Fg) (fs:List Fg) (re lo:Int) (h:fs.length≤1000):PCall Tryz.prog 13 [frV fs re lo,.agg (rowG x)] (.int .i64 (fiR x fs)):=by
 refine PCall_1 hm Tryz.func13 cjRIndex rfl rfl (by simp[closedL,AVal.closed,closed_rowG,rowG,frV]) trivial fun K hK=>?_
 have hrr:∀ q,renLL q (fs.map rowG)=fs.map rowG:=fun q=>renLL_closed q _ (closed_rowG fs)
 have hlen:(fs.map rowG).length=fs.length:=List.length_map ..
 have hg:=fun i hi=>get_rowG fs (i:=i) hi
 have hq:=fun y=>eq_rowG y x
 unfold frV
 generalize fs.map rowG=rows at *
 unfold rowG at *
 simp[hlen]
 refine wZ_loop (α:=Nat) (fun i=>[(5,.int .i64 i),(2,.ptr 1 0 0),(3,.ptr 2 0 0)]) (fun _=>⟨[(2,.cells 3 [[.int .i64 x.p,.bool x.r,.int .i64 x.d]]),(1,.cells 3 [[.imm rows,.int .i64 re,.int .i64 lo]])],3⟩) (fun i=>fs.length - i) (fun i=>i≤fs.length ∧ ∀ j,j<i→fgAt fs j≠x) 0 [] (by simp[hrr]) (by simp) ?_
 rintro i ⟨hi,hI⟩ N hN
 try simp only at hi hN ⊢
 by_cases hlt:i<fs.length
 ·have hgi:=hg i hlt
  obtain⟨hgl,hg2⟩:=getE hgi
  have hw:IntKind.i64.wrap ((i:Int)+1)=(i:Int)+1:=wrap64 (by omega) (by omega)
  have he:=hq (fgAt fs i)
  by_cases hx:fgAt fs i=x
  ·have hfi:fiR x fs=(i:Int)+1:=by
    unfold fiR
    rw[fi_eq hlt hx hI,if_pos hlt]
   rw[hfi]at hK
   rw[decide_eq_true hx]at he
   simp[hlen,hlt,hgi,hg2,hw,he]
   exact endK hK [] (by simp)
  ·rw[decide_eq_false hx]at he
   simp[hlen,hlt,hgi,hg2,hw,he]
   refine hN (i+1) [] _ _ (by omega) ⟨by omega,fun j hj e=>?_⟩ (by simp[hrr])
   by_cases hji:j=i
   ·subst hji; exact hx e
   ·exact hI j (by omega) e
 ·have hie:i=fs.length:=by omega
  have hfi:fiR x fs=0:=by
   unfold fiR
   rw[fi_none (fun j hj=>hI j (by omega)),if_neg (by omega)]
  rw[hfi]at hK
  simp[hlen,hlt]
  exact endK hK [] (by simp)
set_option maxRecDepth 100000 in
set_option maxHeartbeats 8000000 in
theorem cRValid (fs:List Fg) (re lo:Int) (h:fs.length≤1000):PCall Tryz.prog 11 [frV fs re lo] (.bool (frB fs re lo)):=by
 refine PCall_1 hm Tryz.func11 cjRValid rfl rfl (by simp[closedL,AVal.closed,closed_rowG,frV]) trivial fun K hK=>?_
 have hrr:∀ q,renLL q (fs.map rowG)=fs.map rowG:=fun q=>renLL_closed q _ (closed_rowG fs)
 have hlen:(fs.map rowG).length=fs.length:=List.length_map ..
 have hg:=fun i hi=>get_rowG fs (i:=i) hi
 have hR:=fun i=>cRIndex (fgAt fs i) fs re lo h
 unfold frV at *
 generalize fs.map rowG=rows at *
 have hno:¬FrV fs re lo → ∀ m,SubR 1 [] [(0,.bool false)] ⟨[],1⟩ [(0,.bool false)] m→EndK 1 K (.bool false) m:=fun hn m hs=>by
  rw[frB_false hn]at hK
  exact endK hK [] hs
 by_cases h1:40<fs.length
 ·have h1':(40:Int)<(fs.length:Int):=by omega
  simp[hlen,h1,h1']
  exact hno (fun hv=>by have:=hv.1; omega) _ (by simp)
 have h1':¬(40:Int)<(fs.length:Int):=by omega
 by_cases h2:re<0
 ·simp[hlen,h1,h1',h2]
  exact hno (fun hv=>by have:=hv.2.1; omega) _ (by simp)
 by_cases h3:40<re
 ·simp[hlen,h1,h1',h2,h3]
  exact hno (fun hv=>by have:=hv.2.2.1; omega) _ (by simp)
 by_cases h4:lo<1
 ·simp[hlen,h1,h1',h2,h3,h4]
  exact hno (fun hv=>by have:=hv.2.2.2.1; omega) _ (by simp)
 by_cases h5:20<lo
 ·simp[hlen,h1,h1',h2,h3,h4,h5]
  exact hno (fun hv=>by have:=hv.2.2.2.2.1; omega) _ (by simp)
 simp[hlen,h1,h1',h2,h3,h4,h5]
 refine wZ_loop (α:=Nat) (fun i=>[(3,.int .i64 i),(1,.ptr 1 0 0)]) (fun _=>⟨[(1,.cells 3 [[.imm rows,.int .i64 re,.int .i64 lo]])],2⟩) (fun i=>fs.length - i) (fun i=>i≤fs.length ∧ ∀ j,j<i→ThereP (fgAt fs j)∧fiG (fgAt fs j) fs=j) 0 [] (by simp[hrr]) (by simp) ?_
 rintro i ⟨hi,hI⟩ N hN
 try simp only at hi hN ⊢
 by_cases hlt:i<fs.length
 ·have hgi:=hg i hlt
  obtain⟨hgl,hg2⟩:=getE hgi
  have hw:IntKind.i64.wrap ((i:Int)+1)=(i:Int)+1:=wrap64 (by omega) (by omega)
  have hRi:=hR i
  have hfl:fiG (fgAt fs i) fs<fs.length:=fi_lt.2 ⟨i,hlt,rfl⟩
  have hfe:fiR (fgAt fs i) fs=(fiG (fgAt fs i) fs:Int)+1:=by unfold fiR; rw[if_pos hfl]
  rw[hfe]at hRi
  generalize hG:fiG (fgAt fs i) fs=G at *
  have hnt:¬ThereP (fgAt fs i) → ¬FrV fs re lo:=fun ht hv=>ht (hv.2.2.2.2.2 i hlt).1
  unfold rowG at *
  by_cases t1:(fgAt fs i).p<1
  ·simp[hlen,hlt,hgi,hg2,t1]
   exact hno (hnt fun ht=>by have:=ht.1; omega) _ (by simp)
  by_cases t2:9<(fgAt fs i).p
  ·simp[hlen,hlt,hgi,hg2,t1,t2]
   exact hno (hnt fun ht=>by have:=ht.2.1; omega) _ (by simp)
  by_cases t3:(fgAt fs i).d<0
  ·simp[hlen,hlt,hgi,hg2,t1,t2,t3]
   exact hno (hnt fun ht=>by have:=ht.2.2.1; omega) _ (by simp)
  by_cases t4:6<(fgAt fs i).d
  ·simp[hlen,hlt,hgi,hg2,t1,t2,t3,t4]
   exact hno (hnt fun ht=>by have:=ht.2.2.2; omega) _ (by simp)
  simp[hlen,hlt,hgi,hg2,t1,t2,t3,t4]
  refine SC_pure hRi ?_
  have hw2:IntKind.i64.wrap ((i:Int)+1)=(i:Int)+1:=hw
  by_cases hf:G=i
  ·rw[hf]
   simp[hw]
   refine hN (i+1) [] _ _ (by omega) ⟨by omega,fun j hj=>?_⟩ (by simp[hrr])
   by_cases hji:j=i
   ·rw[hji,hG]; exact⟨⟨by omega,by omega,by omega,by omega⟩,hf⟩
   ·exact hI j (by omega)
  ·have hf':¬(G:Int)+1=(i:Int)+1:=by omega
   have hf2:¬(G:Int)=(i:Int):=by omega
   simp[hw,hf,hf',hf2]
   exact hno (fun hv=>hf (by rw[← hG]; exact(hv.2.2.2.2.2 i hlt).2)) _ (by simp)
 ·have hie:i=fs.length:=by omega
  subst hie
  have hv:FrV fs re lo:=⟨by omega,by omega,by omega,by omega,by omega,hI⟩
  rw[frB_true hv]at hK
  simp[hlen,hlt]
  exact endK hK [] (by simp)
end Go.Known
end
section
namespace Go.Known
open Go Go.AE Go.Proofs
open Go.Plain
def nxL (ls:List Lt) (i:Nat):Lt:=at' ls ((i+1) % ls.length)
def PosI (ls:List Lt) (i:Nat):Prop:=(at' ls i).k=1→down ls i=true→(nxL ls i).k=1∧((nxL ls i).g - (at' ls i).g=1∨(at' ls i).g - (nxL ls i).g=1)
def PosP (ls:List Lt):Prop:=∀ i,i<ls.length→PosI ls i
open Classical in
noncomputable def posB (ls:List Lt):Bool:=decide (PosP ls)
theorem posB_true {ls:List Lt} (h:PosP ls):posB ls=true:=by unfold posB; simp[h]
theorem posB_false {ls:List Lt} (h:¬PosP ls):posB ls=false:=by unfold posB; simp[h]
theorem c151 (l:Lt):PCall Tryz.prog 52 [.agg (rowL l)] (.bool (decide (l.k=1))):=by
 refine PCall_1 hm Tryz.func52 cf151 rfl rfl (by simp[closedL,AVal.closed,rowL]) trivial fun K hK=>?_
 by_cases h1:l.k=1
 ·simp[rowL,h1]
  exact endK hK [] (by simp[h1])
 ·simp[rowL,h1]
  exact endK hK [] (by simp[h1])
set_option maxRecDepth 100000 in
set_option maxHeartbeats 8000000 in
theorem c120 (f:Int) (ls:List Lt) (h:ls.length≤1000) (hq:∀ l,l∈ls→l.k=1→0≤l.g∧l.g≤40):PCall Tryz.prog 40 [cV f ls] (.bool (posB ls)):=by
 refine PCall_1 hm Tryz.func40 cf120 rfl rfl (by simp[closedL,AVal.closed,closed_rows]) trivial fun K hK=>?_
 have hrr:∀ q,renLL q (ls.map rowL)=ls.map rowL:=fun q=>renLL_closed q _ (closed_rows ls)
 have hlen:(ls.map rowL).length=ls.length:=List.length_map ..
 have hg:=fun i hi=>get_row ls (i:=i) hi
 have h151:=c151
 unfold cV at *
 generalize ls.map rowL=rows at *
 simp[hlen]
 refine wZ_loop (α:=Nat) (fun i=>[(10,.int .i64 i),(9,.int .i64 ls.length),(8,.imm rows),(3,.bool (!down ls i)),(1,.ptr 1 0 0)]) (fun _=>⟨[(1,.cells 2 [[.int .i64 f,.imm rows]])],2⟩) (fun i=>ls.length - i) (fun i=>i≤ls.length ∧ ∀ j,j<i→PosI ls j) 0 [] (by simp[hrr]; rfl) (by simp) ?_
 rintro i ⟨hi,hI⟩ N hN
 try simp only at hi hN ⊢
 by_cases hlt:i<ls.length
 ·have hgi:=hg i hlt
  obtain⟨hgl,hg2⟩:=getE hgi
  have hw:IntKind.i64.wrap ((i:Int)+1)=(i:Int)+1:=wrap64 (by omega) (by omega)
  have h8:=h151 (at' ls i)
  have hN':=hN (i+1) []
  rw[down_succ hlt]at hN'
  by_cases hk:(at' ls i).k=1
  ·have hp:isP (at' ls i)=true:=by simp[isP,hk]
   rw[if_pos hp]at hN'
   obtain⟨y,hy⟩:∃ y:Nat,(i+1) % ls.length=y:=⟨_,rfl⟩
   have hj:y<ls.length:=by rw[← hy]; exact Nat.mod_lt _ (by omega)
   have hy3:((i:Int)+1).tmod (ls.length:Int)=(y:Int):=by rw[← hy]; rfl
   have hl0:¬(ls.length:Int)=0:=by omega
   have hl1:¬ls.length=0:=by omega
   have hl2:¬ls=[]:=fun e=>hl1 (by rw[e]; rfl)
   have hgj:=hg _ hj
   obtain⟨hgjl,hgj2⟩:=getE hgj
   have h9:=h151 (at' ls y)
   have hnx:nxL ls i=at' ls y:=by unfold nxL; rw[hy]
   have hPI:PosI ls i↔(down ls i=true→(at' ls y).k=1∧((at' ls y).g - (at' ls i).g=1∨(at' ls i).g - (at' ls y).g=1)):=by
    unfold PosI
    rw[hnx]
    exact⟨fun hh=>hh hk,fun hh _=>hh⟩
   have hnext:PosI ls i → ∀ j,j<i+1→PosI ls j:=fun hp j hj=>by
    by_cases hji:j=i
    ·subst hji; exact hp
    ·exact hI j (by omega)
   have hno:¬PosI ls i→posB ls=false:=fun hn=>posB_false fun hP=>hn (hP i hlt)
   rw[decide_eq_true hk]at h8
   simp only[rowL,hk]at h8
   have hq1:=hq _ (at'_mem hlt) hk
   simp[hlen,hlt,hg2,rowL,hk]
   refine SC_pure h8 ?_
   by_cases hd:down ls i=true
   ·have hd':down ls i=true:=hd
    by_cases hk2:(at' ls y).k=1
    ·have hq2:=hq _ (at'_mem hj) hk2
     rw[decide_eq_true hk2]at h9
     simp only[rowL,hk2]at h9
     have w1:IntKind.i64.wrap ((at' ls y).g - (at' ls i).g)=(at' ls y).g - (at' ls i).g:=wrap64 (by omega) (by omega)
     have w2:IntKind.i64.wrap ((at' ls i).g - (at' ls y).g)=(at' ls i).g - (at' ls y).g:=wrap64 (by omega) (by omega)
     simp[hlen,hw,hy3,hl1,hgj,hd,rowL,hk2]
     refine SC_pure h9 ?_
     by_cases c1:(at' ls y).g - (at' ls i).g=1
     ·simp[hw,w2,c1]
      exact hN' _ _ (by omega) ⟨by omega,hnext (hPI.2 fun _=>⟨hk2,.inl c1⟩)⟩ (by simp[hrr,hd'])
     ·by_cases c2:(at' ls i).g - (at' ls y).g=1
      ·simp[hw,w1,c1,c2]
       exact hN' _ _ (by omega) ⟨by omega,hnext (hPI.2 fun _=>⟨hk2,.inr c2⟩)⟩ (by simp[hrr,hd'])
      ·rw[hno fun hp=>((hPI.1 hp hd').2.elim c1 c2)]at hK
       simp[w1,w2,c1,c2]
       exact endK hK [] (by simp)
    ·rw[decide_eq_false hk2]at h9
     simp only[rowL]at h9
     simp[hlen,hw,hy3,hl1,hgj,hd,rowL]
     refine SC_pure h9 ?_
     rw[hno fun hp=>hk2 (hPI.1 hp hd').1]at hK
     simp[hlen,hlt,hw]
     exact endK hK [] (by simp)
   ·have hd':down ls i=false:=by simpa using hd
    simp[hlen,hw,hy3,hl1,hgj,hd',rowL]
    exact hN' _ _ (by omega) ⟨by omega,hnext (hPI.2 fun e=>absurd (hd'.symm.trans e) (by simp))⟩ (by simp[hrr,hd'])
  ·have hp:isP (at' ls i)=false:=by simp[isP,hk]
   rw[if_neg (by simp[hp])]at hN'
   rw[decide_eq_false hk]at h8
   simp only[rowL]at h8
   simp[hlen,hlt,hg2,rowL]
   refine SC_pure h8 ?_
   simp[hw]
   refine hN' _ _ (by omega) ⟨by omega,fun j hj=>?_⟩ (by simp[hrr])
   by_cases hji:j=i
   ·subst hji; exact fun e=>absurd e hk
   ·exact hI j (by omega)
 ·have hie:i=ls.length:=by omega
  subst hie
  have hv:PosP ls:=hI
  rw[posB_true hv]at hK
  simp[hlen,hlt]
  exact endK hK [] (by simp)
end Go.Known
end
