/- Part 42 of the proof: He. -/
import Derived.Test.YtfmnflhggplkmaaGreatDoorO41
set_option linter.all false
namespace Go.Known
open Go Go.AE Go.Proofs
open Go.Plain
def lst:Int→List Int→Int
 | p,[]=>p
 | _,x :: r=>lst x r
theorem lst_snoc:∀ (p:Int) (xs:List Int) (f:Int),lst p (xs++[f])=f
 | _,[],_=>rfl
 | _,x :: r,f=>lst_snoc x r f
theorem hgL_snoc:∀ (p:Int) (xs:List Int) (f:Int),hgL p (xs++[f])=hgL p xs++[⟨1,f - 1,if lst p xs=f - 1 then 2 else 1,0,0,false⟩,⟨1,f,1,0,0,false⟩]
 | _,[],_=>rfl
 | p,x :: r,f=>by
  simp only[List.cons_append,hgL,lst,hgL_snoc x r f]
  rfl
theorem incB_snoc (hi:Int):∀ (lo:Int) (xs:List Int) (f:Int),incB hi lo (xs++[f])=(incB hi lo xs&&(decide (lst lo xs<f)&&decide (f≤hi)))
 | lo,[],f=>by
  simp only[List.nil_append,incB,lst,Bool.and_true,Bool.true_and]
  rfl
 | lo,x :: r,f=>by
  simp only[List.cons_append,incB,lst,incB_snoc hi x r f,Bool.and_assoc]
  rfl
theorem take_snoc {xs:List Int} {i:Nat} (h:i<xs.length):xs.take (i+1)=xs.take i++[xs[i]]:=by rw[List.take_add_one,List.getElem?_eq_getElem h]; rfl
theorem lst_take {xs:List Int} {i:Nat} (p:Int) (h:i<xs.length):lst p (xs.take (i+1))=xs[i]:=by rw[take_snoc h,lst_snoc]
theorem incB_app {hi:Int} {ys:List Int}:∀ {xs:List Int} {lo:Int},incB hi lo xs=false→incB hi lo (xs++ys)=false
 | [],_,h=>by simp[incB]at h
 | x :: r,lo,h=>by
  simp only[List.cons_append,incB,Bool.and_eq_false_iff]at h ⊢
  rcases h with h|h
  ·exact .inl h
  ·exact .inr (incB_app h)
theorem incB_pre {hi lo:Int} {xs:List Int} {i:Nat} (h:incB hi lo (xs.take i)=false):incB hi lo xs=false:=by
 have:=incB_app (ys:=xs.drop i) h
 rwa[List.take_append_drop]at this
theorem incB_low {hi:Int}:∀ {xs:List Int} {lo:Int},incB hi lo xs=true→lo≤lst lo xs
 | [],lo,_=>Int.le_refl _
 | x :: r,lo,h=>by
  obtain⟨h1,_,h3⟩:=incB_cons h
  have:=incB_low h3
  simp only[lst]
  omega
noncomputable def hangT (fs:List Fg) (re lo:Int) (xs:List Int):AVal:=
 if frB fs re lo=true∧incB fs.length 0 xs=true then .tuple [.agg [.int .i64 fs.length,imV ((hgL (-1) xs).map rowL)],.int .i64 0]else .tuple [.agg [.int .i64 0,.nilSl],.int .i64 2]
theorem fz_hg (F:Int) (L:List Lt) (e:AVal) (he:freezeV (SMem.get ⟨blV 1 6 (L.map rowL) [],2⟩) 4 e=some e) :
 freezeV (SMem.get ⟨blV 1 6 (L.map rowL) [],2⟩) 5 (.tuple [.agg [.int .i64 F,slV 1 (L.map rowL)],e])=some (.tuple [.agg [.int .i64 F,imV (L.map rowL)],e]):=by
 have:=frz_slV (get:=SMem.get ⟨blV 1 6 (L.map rowL) [],2⟩) (n:=1) (b:=1) (k:=6) (rows:=L.map rowL) (by simp) (scal_rows _)
 rw[freezeV]
 simp only[mapO]
 rw[he,freezeV]
 simp only[mapO]
 rw[this]
 rfl
theorem row_at {xs:List Int} {i:Nat} (h:i<xs.length):(irow xs)[i]? = some [.int .i64 xs[i]]:=by
 unfold irow
 rw[List.getElem?_map,List.getElem?_eq_getElem h]
 rfl
set_option maxRecDepth 100000 in
set_option maxHeartbeats 8000000 in
theorem cHang (fs:List Fg) (re lo:Int) (xs:List Int) (h:fs.length≤1000) (hx:xs.length≤1000):PCall Tryz.prog 19 [frV fs re lo,.imm (irow xs)] (hangT fs re lo xs):=by
 refine PCall_F hm 5 Tryz.func19 cq19 rfl rfl (by simp[closedL,AVal.closed,closed_rowG,frV,closed_irow]) (by unfold hangT; split<;>simp[AVal.closed,closedL,closed_imV (closed_rows _)]) fun K hK=>?_
 have hv:=c82 fs re lo h
 have hlenG:(fs.map rowG).length=fs.length:=List.length_map ..
 have hrrG:∀ q,renLL q (fs.map rowG)=fs.map rowG:=fun q=>renLL_closed q _ (closed_rowG fs)
 have hrrX:∀ q,renLL q (irow xs)=irow xs:=fun q=>renLL_closed q _ (closed_irow xs)
 have hKe:(frB fs re lo=false∨incB fs.length 0 xs=false)→K (.tuple [.agg [.int .i64 0,.nilSl],.int .i64 2]) ⟨[],1⟩:=fun hc=>hK _ _ (by unfold hangT; rw[if_neg (by rcases hc with h|h<;>simp[h])]; rfl)
 have hKv:frB fs re lo=true→incB fs.length 0 xs=true→K (.tuple [.agg [.int .i64 fs.length,slV 1 ((hgL (-1) xs).map rowL)],.int .i64 0]) ⟨blV 1 6 ((hgL (-1) xs).map rowL) [],2⟩:=fun h1 h2=>
  hK _ _ (by unfold hangT; rw[if_pos ⟨h1,h2⟩]; exact fz_hg _ _ _ rfl)
 clear hK
 generalize hbV:frB fs re lo=bV at *
 unfold frV at *
 have hat:=fun i hi=>row_at (xs:=xs) (i:=i) hi
 have hlX:(irow xs).length=xs.length:=irow_length xs
 generalize fs.map rowG=rows at *
 obtain⟨R,hR⟩:∃ R:Nat→List (List AVal),(fun i=>(hgL (-1) (xs.take i)).map rowL)=R:=⟨_,rfl⟩
 have hRi:∀ i,(hgL (-1) (xs.take i)).map rowL=R i:=fun i=>by rw[← hR]
 have hR0:R 0=[]:=by rw[← hRi]; simp[hgL]
 have hRl:∀ i,(R i).length≤2000:=fun i=>by rw[← hRi,List.length_map,hgL_len]; have:=List.length_take_le i xs; have:=List.length_take_le' i xs; omega
 have hRn:(hgL (-1) xs).map rowL=R xs.length:=by rw[← hRi,List.take_length]
 have hRs:∀ i (hi:i<xs.length),R (i+1)=R i++[rowL ⟨1,xs[i] - 1,if lst (-1) (xs.take i)=xs[i] - 1 then 2 else 1,0,0,false⟩,rowL ⟨1,xs[i],1,0,0,false⟩]:=fun i hi=>by
  rw[← hRi,take_snoc hi,hgL_snoc,List.map_append,hRi]; rfl
 have hRc:∀ i q,renLL q (R i)=R i:=fun i q=>by rw[← hRi]; exact renLL_closed q _ (closed_rows _)
 rw[hRn]at hKv
 cases bV with
 | false=>
  have hKe:=hKe (.inl rfl)
  simp
  refine SC_pure hv ?_
  simp
  exact endK hKe [] (by simp)
 | true=>
  have hKe:=fun h=>hKe (.inr h)
  have hKv:=hKv rfl
  simp
  refine SC_pure hv ?_
  simp[hlenG,hlX]
  refine wZ_loop (α:=Nat) (fun i=>[(20,.int .i64 i),(19,.int .i64 xs.length),(18,.imm (irow xs)),(6,.ptr 3 0 0),(4,.ptr 2 0 0),(1,.imm (irow xs))])
   (fun i=>⟨(3,.cells 2 [[.int .i64 fs.length,slV 4 (R i)]]) :: blV 4 6 (R i) [(2,.cells 2 [[.int .i64 0,.nilSl]])],5⟩)
   (fun i=>xs.length - i) (fun i=>i≤xs.length∧incB fs.length 0 (xs.take i)=true) 0 [(3,11)] (by simp[hrrX,hR0]) (by simp[incB]) ?_
  rintro i ⟨hi,hok⟩ N hN
  try simp only at hi hN ⊢
  by_cases hlt:i<xs.length
  ·have hg:=hat i hlt
   obtain⟨hgl,hg2⟩:=getE hg
   have hgo:incB fs.length 0 (xs.take (i+1))=(decide (lst 0 (xs.take i)<xs[i])&&decide (xs[i]≤(fs.length:Int))):=by rw[take_snoc hlt,incB_snoc,hok,Bool.true_and]
   have hlow:=incB_low hok
   have hw:IntKind.i64.wrap ((i:Int)+1)=(i:Int)+1:=wrap64 (by omega) (by omega)
   have hRsi:=hRs i hlt
   have hN':=hN (i+1)
   rw[hRsi]at hN'
   have hRli:(R i).length≤1048574:=by have:=hRl i; omega
   have w1:IntKind.i64.wrap 1=1:=rfl
   have hRci:=hRc i
   by_cases hc:lst 0 (xs.take i)<xs[i]∧xs[i]≤(fs.length:Int)
   ·have hok':incB fs.length 0 (xs.take (i+1))=true:=by rw[hgo,decide_eq_true hc.1,decide_eq_true hc.2]; rfl
    obtain⟨hc1,hc2⟩:=hc
    have hx1:¬xs[i]<1:=by omega
    have hx2:¬(fs.length:Int)<xs[i]:=by omega
    have wx:IntKind.i64.wrap (xs[i] - 1)=xs[i] - 1:=wrap64 (by omega) (by omega)
    by_cases h0:i=0
    ·subst h0
     have e0:lst (-1) (xs.take 0) = -1:=by simp[lst]
     rw[e0]at hN'
     have hx3:¬(-1:Int)=xs[0] - 1:=by omega
     rw[if_neg hx3]at hN'
     simp[hlt,hlX,hg,hg2,hx1,hx2,wx,w1,hRli]
     exact hN' [(4,54)] _ _ (by omega) ⟨by omega,hok'⟩ (by simp[hrrX,hRci,rowL,slV,blV])
    ·obtain⟨j,hj⟩:∃ j,i=j+1:=⟨i - 1,by omega⟩
     have hip:(0:Int)<(i:Int):=by omega
     have hiq:0<i:=by omega
     have hjl:j<xs.length:=by omega
     have hp:=hat j hjl
     obtain⟨hpl,hp2⟩:=getE hp
     have e0:lst (-1) (xs.take i)=xs[j]:=by rw[hj]; exact lst_take (-1) hjl
     have e1:lst 0 (xs.take i)=xs[j]:=by rw[hj]; exact lst_take 0 hjl
     rw[e1]at hc1 hlow
     rw[e0]at hN'
     have wj:IntKind.i64.wrap ((i:Int) - 1)=(j:Int):=by rw[show (i:Int) - 1=(j:Int) by omega]; exact wrap64 (by omega) (by omega)
     have hx0:¬xs[i]≤xs[j]:=by omega
     by_cases hx3:xs[j]=xs[i] - 1
     ·rw[if_pos hx3]at hN'
      have hx4:¬xs[i]≤xs[i] - 1:=by omega
      simp[hx4,hlt,hlX,hg,hg2,hp,hp2,wj,hip,hiq,hx0,hx1,hx2,hx3,wx,hw,hRli]
      exact hN' [(4,55)] _ _ (by omega) ⟨by omega,hok'⟩ (by simp[hrrX,hRci,rowL,slV,blV])
     ·rw[if_neg hx3]at hN'
      simp[hlt,hlX,hg,hg2,hp,hp2,wj,hip,hiq,hx0,hx1,hx2,hx3,wx,hw,hRli]
      exact hN' [(4,54)] _ _ (by omega) ⟨by omega,hok'⟩ (by simp[hrrX,hRci,rowL,slV,blV])
   ·have hbad:incB fs.length 0 (xs.take (i+1))=false:=by
     rw[hgo]
     by_cases h1:lst 0 (xs.take i)<xs[i]
     ·rw[decide_eq_false (p:=xs[i]≤(fs.length:Int)) fun h2=>hc ⟨h1,h2⟩,Bool.and_false]
     ·rw[decide_eq_false h1]; rfl
    have hKe:=hKe (incB_pre hbad)
    by_cases h0:i=0
    ·subst h0
     have e1:lst 0 (xs.take 0)=0:=by simp[lst]
     rw[e1]at hc
     by_cases hx1:xs[0]<1
     ·simp[hlt,hlX,hg,hg2,hx1]
      exact endK hKe [] (by simp)
     ·have hx2:(fs.length:Int)<xs[0]:=by omega
      simp[hlt,hlX,hg,hg2,hx1,hx2]
      exact endK hKe [] (by simp)
    ·obtain⟨j,hj⟩:∃ j,i=j+1:=⟨i - 1,by omega⟩
     have hip:(0:Int)<(i:Int):=by omega
     have hiq:0<i:=by omega
     have hjl:j<xs.length:=by omega
     have hp:=hat j hjl
     obtain⟨hpl,hp2⟩:=getE hp
     have e1:lst 0 (xs.take i)=xs[j]:=by rw[hj]; exact lst_take 0 hjl
     rw[e1]at hc hlow
     have wj:IntKind.i64.wrap ((i:Int) - 1)=(j:Int):=by rw[show (i:Int) - 1=(j:Int) by omega]; exact wrap64 (by omega) (by omega)
     by_cases hx0:xs[i]≤xs[j]
     ·simp[hlt,hlX,hg,hg2,hp,hp2,wj,hip,hiq,hx0]
      exact endK hKe [] (by simp)
     ·have hx1:¬xs[i]<1:=by omega
      have hx2:(fs.length:Int)<xs[i]:=by omega
      simp[hlt,hlX,hg,hg2,hp,hp2,wj,hip,hiq,hx0,hx1,hx2]
      exact endK hKe [] (by simp)
  ·have hie:i=xs.length:=by omega
   subst hie
   have hKv:=hKv (by rw[List.take_length]at hok; exact hok)
   simp[hlt,hlX]
   exact endK hKv [(1,4)] (by simp +contextual [hRc])
end Go.Known
