/- Part 38 of the proof: Sz, Te. -/
import Derived.Test.YtipeejpafgnjdaaGreatDoorF37
set_option linter.all false
section
namespace Go.Known
open Go Go.AE Go.Proofs
open Go.Plain
set_option maxRecDepth 100000 in
set_option maxHeartbeats 8000000 in
theorem c82 (fs:List Fg) (re lo:Int) (h:fs.length≤1000):PCall Tryz.prog 109 [frV fs re lo] (.bool (frB fs re lo)):=by
 refine PCall_1 hm Tryz.func109 cf82 rfl rfl (by simp [closedL,AVal.closed,closed_rowG,frV]) trivial fun K hK=>?_
 have hrr:∀ q,renLL q (fs.map rowG)=fs.map rowG:=fun q=>renLL_closed q _ (closed_rowG fs)
 have hlen:(fs.map rowG).length=fs.length:=List.length_map ..
 have hg:=fun i hi=>get_rowG fs (i:=i) hi
 have h118:=c118
 have h119:=fun i=>c119 (fgAt fs i) (fs.take i) (by rw [List.length_take]; omega)
 simp only [List.map_take] at h119
 unfold frV at *
 have hT:∀ i,closedLL ((fs.map rowG).take i)=true:=fun i=>by rw [← List.map_take]; exact closed_rowG _
 have h3:(∀ x,x∈fs.map rowG→x.length=3)=True:=eq_true fun x hx=>by
  obtain⟨l,_,rfl⟩:=List.mem_map.1 hx
  rfl
 generalize fs.map rowG=rows at *
 have hno:¬FrV fs re lo → ∀ m,SubR 1 [] [(0,.bool false)] ⟨[],1⟩ [(0,.bool false)] m→EndK 1 K (.bool false) m:=fun hn m hs=>by
  rw [frB_false hn] at hK
  exact endK hK [] hs
 by_cases h1:40<fs.length
 · have h1':(40:Int)<(fs.length:Int):=by omega
   simp [hlen,h1,h1']
   exact hno (fun hv=>by have:=hv.1; omega) _ (by simp)
 have h1':¬(40:Int)<(fs.length:Int):=by omega
 by_cases h2:re<0
 · simp [hlen,h1,h1',h2]
   exact hno (fun hv=>by have:=hv.2.1; omega) _ (by simp)
 by_cases h3':40<re
 · simp [hlen,h1,h1',h2,h3']
   exact hno (fun hv=>by have:=hv.2.2.1; omega) _ (by simp)
 by_cases h4:lo<1
 · simp [hlen,h1,h1',h2,h3',h4]
   exact hno (fun hv=>by have:=hv.2.2.2.1; omega) _ (by simp)
 by_cases h5:20<lo
 · simp [hlen,h1,h1',h2,h3',h4,h5]
   exact hno (fun hv=>by have:=hv.2.2.2.2.1; omega) _ (by simp)
 simp [hlen,h1,h1',h2,h3',h4,h5]
 refine wZ_loop (α:=Nat) (fun i=>[(32,.int .i64 i),(31,.int .i64 fs.length),(30,.imm rows),(1,.ptr 1 0 0)]) (fun _=>⟨[(1,.cells 3 [[.imm rows,.int .i64 re,.int .i64 lo]])],2⟩) (fun i=>fs.length - i) (fun i=>i≤fs.length ∧ ∀ j,j<i→ThereP (fgAt fs j)∧fiG (fgAt fs j) fs=j) 0 [] (by simp [hrr]) (by simp) ?_
 rintro i ⟨hi,hI⟩ N hN
 try simp only at hi hN ⊢
 by_cases hlt:i<fs.length
 · have hgi:=hg i hlt
   obtain⟨hgl,hg2⟩:=getE hgi
   have hw:IntKind.i64.wrap ((i:Int)+1)=(i:Int)+1:=wrap64 (by omega) (by omega)
   have h8:=h118 (fgAt fs i)
   have h9:=h119 i
   unfold rowG at *
   simp [hlt,hgi,hg2,hw]
   refine DC_pure h8 ?_
   by_cases ht:ThereP (fgAt fs i)
   · have hle:i≤rows.length:=by omega
     have hft:=fi_take hlt
     by_cases hf:fiG (fgAt fs i) fs=i
     · have hnf:¬fiG (fgAt fs i) (fs.take i)<(fs.take i).length:=fun hh=>hft.1 hh hf
       rw [decide_eq_false hnf] at h9
       simp [ht,h3,hle]
       refine DC_pure h9 ?_
       simp [hw]
       refine hN (i+1) [] _ _ (by omega) ⟨by omega,fun j hj=>?_⟩ (by simp [hrr])
       by_cases hji:j=i
       · subst hji; exact⟨ht,hf⟩
       · exact hI j (by omega)
     · have hnf:=hft.2 hf
       rw [decide_eq_true hnf] at h9
       simp [ht,h3,hle]
       refine DC_pure h9 ?_
       simp [hw]
       exact hno (fun hv=>hf (hv.2.2.2.2.2 i hlt).2) _ (by simp)
   · simp [ht]
     exact hno (fun hv=>ht (hv.2.2.2.2.2 i hlt).1) _ (by simp)
 · have hie:i=fs.length:=by omega
   subst hie
   have hv:FrV fs re lo:=⟨by omega,by omega,by omega,by omega,by omega,hI⟩
   rw [frB_true hv] at hK
   simp [hlt]
   exact endK hK [] (by simp)
end Go.Known
end
section
namespace Go.Known
open Go Go.AE Go.Proofs
open Go.Plain
def nxL (ls:List Lt) (i:Nat):Lt:=at' ls ((i+1) % ls.length)
def PosI (ls:List Lt) (i:Nat):Prop:=(at' ls i).k=1→down ls i=true→(nxL ls i).k=1∧((nxL ls i).g - (at' ls i).g=1∨(at' ls i).g - (nxL ls i).g=1)
def PosP (ls:List Lt):Prop:=∀ i,i<ls.length→PosI ls i
open Classical in
noncomputable def posB (ls:List Lt):Bool:=decide (PosP ls)
theorem posB_true {ls:List Lt} (h:PosP ls):posB ls=true:=by unfold posB; simp [h]
theorem posB_false {ls:List Lt} (h:¬PosP ls):posB ls=false:=by unfold posB; simp [h]
theorem c151 (l:Lt):PCall Tryz.prog 197 [.agg (rowL l)] (.bool (decide (l.k=1))):=by
 refine PCall_1 hm Tryz.func197 cf151 rfl rfl (by simp [closedL,AVal.closed,rowL]) trivial fun K hK=>?_
 by_cases h1:l.k=1
 · simp [rowL,h1]
   exact endK hK [] (by simp [h1])
 · simp [rowL,h1]
   exact endK hK [] (by simp [h1])
set_option maxRecDepth 100000 in
set_option maxHeartbeats 8000000 in
theorem c120 (f:Int) (ls:List Lt) (h:ls.length≤1000) (hq:∀ l,l∈ls→l.k=1→0≤l.g∧l.g≤40):PCall Tryz.prog 164 [cV f ls] (.bool (posB ls)):=by
 refine PCall_1 hm Tryz.func164 cf120 rfl rfl (by simp [closedL,AVal.closed,closed_rows]) trivial fun K hK=>?_
 have hrr:∀ q,renLL q (ls.map rowL)=ls.map rowL:=fun q=>renLL_closed q _ (closed_rows ls)
 have hlen:(ls.map rowL).length=ls.length:=List.length_map ..
 have hg:=fun i hi=>get_row ls (i:=i) hi
 have h151:=c151
 unfold cV at *
 generalize ls.map rowL=rows at *
 simp [hlen]
 refine wZ_loop (α:=Nat) (fun i=>[(10,.int .i64 i),(9,.int .i64 ls.length),(8,.imm rows),(3,.bool (!down ls i)),(1,.ptr 1 0 0)]) (fun _=>⟨[(1,.cells 2 [[.int .i64 f,.imm rows]])],2⟩) (fun i=>ls.length - i) (fun i=>i≤ls.length ∧ ∀ j,j<i→PosI ls j) 0 [] (by simp [hrr]; rfl) (by simp) ?_
 rintro i ⟨hi,hI⟩ N hN
 try simp only at hi hN ⊢
 by_cases hlt:i<ls.length
 · have hgi:=hg i hlt
   obtain⟨hgl,hg2⟩:=getE hgi
   have hw:IntKind.i64.wrap ((i:Int)+1)=(i:Int)+1:=wrap64 (by omega) (by omega)
   have h8:=h151 (at' ls i)
   have hN':=hN (i+1) []
   rw [down_succ hlt] at hN'
   by_cases hk:(at' ls i).k=1
   · have hp:isP (at' ls i)=true:=by simp [isP,hk]
     rw [if_pos hp] at hN'
     obtain⟨y,hy⟩:∃ y:Nat,(i+1) % ls.length=y:=⟨_,rfl⟩
     have hj:y<ls.length:=by rw [← hy]; exact Nat.mod_lt _ (by omega)
     have hy3:((i:Int)+1).tmod (ls.length:Int)=(y:Int):=by rw [← hy]; rfl
     have hl0:¬(ls.length:Int)=0:=by omega
     have hl1:¬ls.length=0:=by omega
     have hl2:¬ls=[]:=fun e=>hl1 (by rw [e]; rfl)
     have hgj:=hg _ hj
     obtain⟨hgjl,hgj2⟩:=getE hgj
     have h9:=h151 (at' ls y)
     have hnx:nxL ls i=at' ls y:=by unfold nxL; rw [hy]
     have hPI:PosI ls i↔(down ls i=true→(at' ls y).k=1∧((at' ls y).g - (at' ls i).g=1∨(at' ls i).g - (at' ls y).g=1)):=by
      unfold PosI
      rw [hnx]
      exact⟨fun hh=>hh hk,fun hh _=>hh⟩
     have hnext:PosI ls i → ∀ j,j<i+1→PosI ls j:=fun hp j hj=>by
      by_cases hji:j=i
      · subst hji; exact hp
      · exact hI j (by omega)
     have hno:¬PosI ls i→posB ls=false:=fun hn=>posB_false fun hP=>hn (hP i hlt)
     rw [decide_eq_true hk] at h8
     simp only [rowL,hk] at h8
     have hq1:=hq _ (at'_mem hlt) hk
     simp [hlen,hlt,hgi,hg2,hw,rowL,hk]
     refine SC_pure h8 ?_
     by_cases hd:down ls i=true
     · have hd':down ls i=true:=hd
       by_cases hk2:(at' ls y).k=1
       · have hq2:=hq _ (at'_mem hj) hk2
         rw [decide_eq_true hk2] at h9
         simp only [rowL,hk2] at h9
         have w1:IntKind.i64.wrap ((at' ls y).g - (at' ls i).g)=(at' ls y).g - (at' ls i).g:=wrap64 (by omega) (by omega)
         have w2:IntKind.i64.wrap ((at' ls i).g - (at' ls y).g)=(at' ls i).g - (at' ls y).g:=wrap64 (by omega) (by omega)
         simp [hlen,hlt,hw,hy3,hl0,hl1,hl2,hgj,hgj2,hd,rowL,hk2]
         refine SC_pure h9 ?_
         by_cases c1:(at' ls y).g - (at' ls i).g=1
         · simp [hlen,hlt,hw,w1,w2,c1]
           exact hN' _ _ (by omega) ⟨by omega,hnext (hPI.2 fun _=>⟨hk2,.inl c1⟩)⟩ (by simp [hrr,hd'])
         · by_cases c2:(at' ls i).g - (at' ls y).g=1
           · simp [hlen,hlt,hw,w1,w2,c1,c2]
             exact hN' _ _ (by omega) ⟨by omega,hnext (hPI.2 fun _=>⟨hk2,.inr c2⟩)⟩ (by simp [hrr,hd'])
           · rw [hno fun hp=>((hPI.1 hp hd').2.elim c1 c2)] at hK
             simp [hlen,hlt,hw,w1,w2,c1,c2]
             exact endK hK [] (by simp)
       · rw [decide_eq_false hk2] at h9
         simp only [rowL] at h9
         simp [hlen,hlt,hw,hy3,hl0,hl1,hl2,hgj,hgj2,hd,rowL]
         refine SC_pure h9 ?_
         rw [hno fun hp=>hk2 (hPI.1 hp hd').1] at hK
         simp [hlen,hlt,hw]
         exact endK hK [] (by simp)
     · have hd':down ls i=false:=by simpa using hd
       simp [hlen,hlt,hw,hy3,hl0,hl1,hl2,hgj,hgj2,hd',rowL]
       exact hN' _ _ (by omega) ⟨by omega,hnext (hPI.2 fun e=>absurd (hd'.symm.trans e) (by simp))⟩ (by simp [hrr,hd'])
   · have hp:isP (at' ls i)=false:=by simp [isP,hk]
     rw [if_neg (by simp [hp])] at hN'
     rw [decide_eq_false hk] at h8
     simp only [rowL] at h8
     simp [hlen,hlt,hgi,hg2,hw,rowL]
     refine SC_pure h8 ?_
     simp [hw]
     refine hN' _ _ (by omega) ⟨by omega,fun j hj=>?_⟩ (by simp [hrr])
     by_cases hji:j=i
     · subst hji; exact fun e=>absurd e hk
     · exact hI j (by omega)
 · have hie:i=ls.length:=by omega
   subst hie
   have hv:PosP ls:=hI
   rw [posB_true hv] at hK
   simp [hlen,hlt]
   exact endK hK [] (by simp)
end Go.Known
end
