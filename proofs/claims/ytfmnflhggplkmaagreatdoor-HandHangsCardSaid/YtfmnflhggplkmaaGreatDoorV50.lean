/- Part 50 of the proof: Hg, Hf. -/
import Derived.Test.YtfmnflhggplkmaaGreatDoorV48
import Derived.Test.YtfmnflhggplkmaaGreatDoorV49
set_option linter.all false
section
namespace Go.Known
open Go Go.AE Go.Proofs
open Go.Plain
noncomputable def hangR (n:Nat) (xs:List Int):AVal:=
 if incB n 0 xs=true then .tuple [.agg [.int .i64 n,imV ((hgL (-1) xs).map rowL)],.bool true]else .tuple [.agg [.int .i64 0,.nilSl],.bool false]
set_option maxRecDepth 100000 in
set_option maxHeartbeats 8000000 in
theorem cRHang (n:Nat) (xs:List Int) (h:n≤1000) (hx:xs.length≤1000):PCall Tryz.prog 20 [.int .i64 n,.imm (irow xs)] (hangR n xs):=by
 refine PCall_F hm 5 Tryz.func20 chRHang rfl rfl (by simp[closedL,AVal.closed,closed_irow]) (by unfold hangR; split<;>simp[AVal.closed,closedL,closed_imV (closed_rows _)]) fun K hK=>?_
 have hrrX:∀ q,renLL q (irow xs)=irow xs:=fun q=>renLL_closed q _ (closed_irow xs)
 have hKe:incB n 0 xs=false→K (.tuple [.agg [.int .i64 0,.nilSl],.bool false]) ⟨[],1⟩:=fun hc=>hK _ _ (by unfold hangR; rw[if_neg (by simp[hc])]; rfl)
 have hKv:incB n 0 xs=true→K (.tuple [.agg [.int .i64 n,slV 1 ((hgL (-1) xs).map rowL)],.bool true]) ⟨blV 1 6 ((hgL (-1) xs).map rowL) [],2⟩:=fun h2=>
  hK _ _ (by unfold hangR; rw[if_pos h2]; exact fz_hg _ _ _ rfl)
 clear hK
 have hat:=fun i hi=>row_at (xs:=xs) (i:=i) hi
 have hlX:(irow xs).length=xs.length:=irow_length xs
 obtain⟨R,hR⟩:∃ R:Nat→List (List AVal),(fun i=>(hgL (-1) (xs.take i)).map rowL)=R:=⟨_,rfl⟩
 have hRi:∀ i,(hgL (-1) (xs.take i)).map rowL=R i:=fun i=>by rw[← hR]
 have hR0:R 0=[]:=by rw[← hRi]; simp[hgL]
 have hRl:∀ i,(R i).length≤2000:=fun i=>by rw[← hRi,List.length_map,hgL_len]; have:=List.length_take_le i xs; have:=List.length_take_le' i xs; omega
 have hRn:(hgL (-1) xs).map rowL=R xs.length:=by rw[← hRi,List.take_length]
 have hRs:∀ i (hi:i<xs.length),R (i+1)=R i++[rowL ⟨1,xs[i] - 1,if lst (-1) (xs.take i)=xs[i] - 1 then 2 else 1,0,0,false⟩,rowL ⟨1,xs[i],1,0,0,false⟩]:=fun i hi=>by
  rw[← hRi,take_snoc hi,hgL_snoc,List.map_append,hRi]; rfl
 have hRc:∀ i q,renLL q (R i)=R i:=fun i q=>by rw[← hRi]; exact renLL_closed q _ (closed_rows _)
 rw[hRn]at hKv
 simp
 refine wZ_loop (α:=Nat) (fun i=>[(7,.int .i64 i),(6,.ptr 3 0 0),(4,.ptr 2 0 0),(1,.imm (irow xs)),(0,.int .i64 n)])
  (fun i=>⟨(3,.cells 2 [[.int .i64 n,slV 4 (R i)]]) :: blV 4 6 (R i) [(2,.cells 2 [[.int .i64 0,.nilSl]])],5⟩)
  (fun i=>xs.length - i) (fun i=>i≤xs.length∧incB n 0 (xs.take i)=true) 0 [(2,1),(3,5)] (by simp[hrrX,hR0]) (by simp[incB]) ?_
 rintro i ⟨hi,hok⟩ N hN
 try simp only at hi hN ⊢
 by_cases hlt:i<xs.length
 ·have hg:=hat i hlt
  obtain⟨hgl,hg2⟩:=getE hg
  have hgo:incB n 0 (xs.take (i+1))=(decide (lst 0 (xs.take i)<xs[i])&&decide (xs[i]≤(n:Int))):=by rw[take_snoc hlt,incB_snoc,hok,Bool.true_and]
  have hlow:=incB_low hok
  have hw:IntKind.i64.wrap ((i:Int)+1)=(i:Int)+1:=wrap64 (by omega) (by omega)
  have hRsi:=hRs i hlt
  have hN':=hN (i+1)
  rw[hRsi]at hN'
  have hRli:(R i).length≤1048574:=by have:=hRl i; omega
  have w1:IntKind.i64.wrap 1=1:=rfl
  have hRci:=hRc i
  by_cases hc:lst 0 (xs.take i)<xs[i]∧xs[i]≤(n:Int)
  ·have hok':incB n 0 (xs.take (i+1))=true:=by rw[hgo,decide_eq_true hc.1,decide_eq_true hc.2]; rfl
   obtain⟨hc1,hc2⟩:=hc
   have hx1:¬xs[i]<1:=by omega
   have hx2:¬(n:Int)<xs[i]:=by omega
   have wx:IntKind.i64.wrap (xs[i] - 1)=xs[i] - 1:=wrap64 (by omega) (by omega)
   by_cases h0:i=0
   ·subst h0
    have e0:lst (-1) (xs.take 0) = -1:=by simp[lst]
    rw[e0]at hN'
    have hx3:¬(-1:Int)=xs[0] - 1:=by omega
    rw[if_neg hx3]at hN'
    simp[hlt,hlX,hg,hg2,hx1,hx2,wx,w1,hRli]
    exact hN' [(4,56)] _ _ (by omega) ⟨by omega,hok'⟩ (by simp[hrrX,hRci,rowL,slV,blV])
   ·obtain⟨j,hj⟩:∃ j,i=j+1:=⟨i - 1,by omega⟩
    have hip:(0:Int)<(i:Int):=by omega
    have hiq:0<i:=by omega
    have hjl:j<xs.length:=by omega
    have hp:=hat j hjl
    obtain⟨hpl,hp2⟩:=getE hp
    have e0:lst (-1) (xs.take i)=xs[j]:=by rw[hj]; exact lst_take (-1) hjl
    have e1:lst 0 (xs.take i)=xs[j]:=by rw[hj]; exact lst_take 0 hjl
    rw[e1]at hc1 hlow
    rw[e0]at hN'
    have wj:IntKind.i64.wrap ((i:Int) - 1)=(j:Int):=by rw[show (i:Int) - 1=(j:Int) by omega]; exact wrap64 (by omega) (by omega)
    have hx0:¬xs[i]≤xs[j]:=by omega
    by_cases hx3:xs[j]=xs[i] - 1
    ·rw[if_pos hx3]at hN'
     have hx4:¬xs[i]≤xs[i] - 1:=by omega
     simp[hx4,hlt,hlX,hg,hg2,hp,hp2,wj,hip,hiq,hx0,hx1,hx2,hx3,wx,hw,hRli]
     exact hN' [(4,57)] _ _ (by omega) ⟨by omega,hok'⟩ (by simp[hrrX,hRci,rowL,slV,blV])
    ·rw[if_neg hx3]at hN'
     simp[hlt,hlX,hg,hg2,hp,hp2,wj,hip,hiq,hx0,hx1,hx2,hx3,wx,hw,hRli]
     exact hN' [(4,56)] _ _ (by omega) ⟨by omega,hok'⟩ (by simp[hrrX,hRci,rowL,slV,blV])
  ·have hbad:incB n 0 (xs.take (i+1))=false:=by
    rw[hgo]
    by_cases h1:lst 0 (xs.take i)<xs[i]
    ·rw[decide_eq_false (p:=xs[i]≤(n:Int)) fun h2=>hc ⟨h1,h2⟩,Bool.and_false]
    ·rw[decide_eq_false h1]; rfl
   have hKe:=hKe (incB_pre hbad)
   by_cases h0:i=0
   ·subst h0
    have e1:lst 0 (xs.take 0)=0:=by simp[lst]
    rw[e1]at hc
    by_cases hx1:xs[0]<1
    ·simp[hlt,hlX,hg,hg2,hx1]
     exact endK hKe [] (by simp)
    ·have hx2:(n:Int)<xs[0]:=by omega
     simp[hlt,hlX,hg,hg2,hx1,hx2]
     exact endK hKe [] (by simp)
   ·obtain⟨j,hj⟩:∃ j,i=j+1:=⟨i - 1,by omega⟩
    have hip:(0:Int)<(i:Int):=by omega
    have hiq:0<i:=by omega
    have hjl:j<xs.length:=by omega
    have hp:=hat j hjl
    obtain⟨hpl,hp2⟩:=getE hp
    have e1:lst 0 (xs.take i)=xs[j]:=by rw[hj]; exact lst_take 0 hjl
    rw[e1]at hc hlow
    have wj:IntKind.i64.wrap ((i:Int) - 1)=(j:Int):=by rw[show (i:Int) - 1=(j:Int) by omega]; exact wrap64 (by omega) (by omega)
    by_cases hx1:xs[i]<1
    ·simp[hlt,hlX,hg,hg2,hx1]
     exact endK hKe [] (by simp)
    ·by_cases hx2:(n:Int)<xs[i]
     ·simp[hlt,hlX,hg,hg2,hx1,hx2]
      exact endK hKe [] (by simp)
     ·have hx0:xs[i]≤xs[j]:=by omega
      simp[hlt,hlX,hg,hg2,hp,hp2,wj,hip,hiq,hx0,hx1,hx2]
      exact endK hKe [] (by simp)
 ·have hie:i=xs.length:=by omega
  subst hie
  have hKv:=hKv (by rw[List.take_length]at hok; exact hok)
  simp[hlt,hlX]
  exact endK hKv [(1,4)] (by simp +contextual [hRc])
theorem cHolds (xs:List Int) (n:Int) (hx:xs.length≤1000):PCall Tryz.prog 24 [.imm (irow xs),.int .i64 n] (.bool (decide (n∈xs))):=by
 refine PCall_1 hm Tryz.func24 chHolds rfl rfl (by simp[closedL,AVal.closed,closed_irow]) trivial fun K hK=>?_
 have hrrX:∀ q,renLL q (irow xs)=irow xs:=fun q=>renLL_closed q _ (closed_irow xs)
 have hat:=fun i hi=>row_at (xs:=xs) (i:=i) hi
 have hlX:(irow xs).length=xs.length:=irow_length xs
 simp
 refine wZ_loop (α:=Nat) (fun i=>[(5,.int .i64 i),(0,.imm (irow xs)),(1,.int .i64 n)]) (fun _=>⟨[],1⟩) (fun i=>xs.length - i) (fun i=>i≤xs.length ∧ ¬n∈xs.take i) 0 [] (by simp[hrrX]) (by simp) ?_
 rintro i ⟨hi,hn⟩ N hN
 try simp only at hi hN ⊢
 by_cases hlt:i<xs.length
 ·have hg:=hat i hlt
  obtain⟨hgl,hg2⟩:=getE hg
  have hw:IntKind.i64.wrap ((i:Int)+1)=(i:Int)+1:=wrap64 (by omega) (by omega)
  by_cases he:xs[i]=n
  ·have hm:n∈xs:=he ▸ List.getElem_mem hlt
   rw[decide_eq_true hm]at hK
   simp[hlt,hlX,hg,hg2,he]
   exact endK hK [] (by simp)
  ·simp[hlt,hlX,hg,hg2,he,hw]
   refine hN (i+1) [] _ _ (by omega) ⟨by omega,?_⟩ (by simp[hrrX])
   rw[take_snoc hlt,List.mem_append]
   rintro(h|h)
   ·exact hn h
   ·simp only[List.mem_singleton]at h
    exact he h.symm
 ·have hie:i=xs.length:=by omega
  subst hie
  rw[List.take_length]at hn
  rw[decide_eq_false hn]at hK
  simp[hlt,hlX]
  exact endK hK [] (by simp)
end Go.Known
end
section
namespace Go.Known
open Go.Plain
theorem at_even:∀ (xs:List Int) (p:Int) (j:Nat) (h:j<xs.length),(at' (hgL p xs) (2*j)).k=1∧(at' (hgL p xs) (2*j)).g=xs[j] - 1
 | x :: r,p,0,_=>⟨rfl,rfl⟩
 | x :: r,p,j+1,h=>by
  have:=at_even r x j (by simpa using h)
  rw[show 2*(j+1)=2*j+2 by omega]
  exact this
theorem at_odd:∀ (xs:List Int) (p:Int) (j:Nat) (h:j<xs.length),(at' (hgL p xs) (2*j+1)).k=1∧(at' (hgL p xs) (2*j+1)).g=xs[j]
 | x :: r,p,0,_=>⟨rfl,rfl⟩
 | x :: r,p,j+1,h=>by
  have:=at_odd r x j (by simpa using h)
  rw[show 2*(j+1)+1=2*j+1+2 by omega]
  exact this
theorem hg_pass:∀ (xs:List Int) (p:Int),∀ l,l∈hgL p xs→isP l=true
 | [],_,l,h=>by simp[hgL]at h
 | x :: r,p,l,h=>by
  simp only[hgL,List.mem_cons]at h
  rcases h with rfl|rfl|h
  ·rfl
  ·rfl
  ·exact hg_pass r x l h
theorem hg_pos (xs:List Int):PosP (hgL (-1) xs):=by
 intro i hi hk hd
 rw[hgL_len]at hi
 rw[down_all (hg_pass xs _) (by rw[hgL_len]; omega)]at hd
 obtain⟨j,rfl⟩:∃ j,i=2*j:=⟨i / 2,by simp at hd; omega⟩
 have hj:j<xs.length:=by omega
 have hn:nxL (hgL (-1) xs) (2*j)=at' (hgL (-1) xs) (2*j+1):=by unfold nxL; rw[hgL_len,Nat.mod_eq_of_lt (by omega)]
 obtain⟨_,h2⟩:=at_even xs (-1) j hj
 obtain⟨h3,h4⟩:=at_odd xs (-1) j hj
 rw[hn,h2,h4]
 exact⟨h3,.inl (by omega)⟩
theorem lp_even {xs:List Int} {j:Nat} (h:j<xs.length) (f:Int):isLp (hgL (-1) xs) f (2*j)=decide (xs[j]=f):=by
 have hn:nxL (hgL (-1) xs) (2*j)=at' (hgL (-1) xs) (2*j+1):=by unfold nxL; rw[hgL_len,Nat.mod_eq_of_lt (by omega)]
 obtain⟨h1,h2⟩:=at_even xs (-1) j h
 obtain⟨h3,h4⟩:=at_odd xs (-1) j h
 have hm:mxg (hgL (-1) xs) (2*j)=xs[j]:=by unfold mxg; rw[hn,h2,h4,if_pos (by omega)]
 have hd:down (hgL (-1) xs) (2*j)=true:=by rw[down_all (hg_pass xs _) (by rw[hgL_len]; omega)]; simp
 unfold isLp
 rw[h1,hd,hm]
 simp
theorem lp_odd {xs:List Int} {j:Nat} (h:j<xs.length) (f:Int):isLp (hgL (-1) xs) f (2*j+1)=false:=by
 have hd:down (hgL (-1) xs) (2*j+1)=false:=by rw[down_all (hg_pass xs _) (by rw[hgL_len]; omega)]; simp
 unfold isLp
 rw[hd]
 simp
theorem lp_count {xs:List Int} (f:Int):∀ k,k≤xs.length→((List.range (2*k)).filter (isLp (hgL (-1) xs) f)).length=((xs.take k).filter fun x=>decide (x=f)).length
 | 0,_=>by simp
 | k+1,h=>by
  have hk:k<xs.length:=by omega
  rw[show 2*(k+1)=2*k+1+1 by omega,List.range_succ,List.range_succ,List.filter_append,List.filter_append,List.length_append,List.length_append,lp_count f k (by omega),List.take_add_one,List.getElem?_eq_getElem hk,
   List.filter_append,List.length_append]
  simp only[List.filter_cons,List.filter_nil,lp_even hk,lp_odd hk,Option.toList_some]
  simp
  split<;>rfl
theorem inc_gt {hi:Int}:∀ {xs:List Int} {lo:Int},incB hi lo xs=true → ∀ x,x∈xs→lo<x
 | [],_,_,x,h=>by simp at h
 | y :: r,lo,h,x,hx=>by
  obtain⟨h1,_,h3⟩:=incB_cons h
  simp only[List.mem_cons]at hx
  rcases hx with rfl|hx
  ·exact h1
  ·have:=inc_gt h3 x hx; omega
theorem inc_count {hi:Int} (f:Int):∀ {xs:List Int} {lo:Int},incB hi lo xs=true→(xs.filter fun x=>decide (x=f)).length=if f∈xs then 1 else 0
 | [],_,_=>by simp
 | y :: r,lo,h=>by
  obtain⟨h1,_,h3⟩:=incB_cons h
  have ih:=inc_count f h3
  by_cases hy:y=f
  ·subst hy
   have hn:¬y∈r:=fun hm=>by have:=inc_gt h3 y hm; omega
   rw[if_neg hn]at ih
   simp[ih]
  ·have:¬f=y:=fun e=>hy e.symm
   simp[hy,this,ih]
theorem hg_loops {hi:Int} {xs:List Int} (h:incB hi 0 xs=true) (f:Int):cnL (hgL (-1) xs) f=if f∈xs then 1 else 0:=by
 unfold cnL lpL
 rw[List.length_map,hgL_len,lp_count f xs.length (Nat.le_refl _),List.take_length,inc_count f h]
theorem handE_hg {fs:List Fg} {re lo:Int} {xs:List Int} (hv:frB fs re lo=true) (h:incB fs.length 0 xs=true):handE fs re lo fs.length (hgL (-1) xs)=0:=by
 have hF:FrV fs re lo:=Classical.byContradiction fun hc=>by rw[frB_false hc]at hv; cases hv
 have hE:=errC_hg (n:=fs.length) (fs:=xs) (by have:=hF.1; omega) (by omega) h
 unfold handE
 rw[if_neg (by simp[hv]),if_neg (by simp[hE]),if_pos ⟨rfl,posB_true (hg_pos xs)⟩]
end Go.Known
end
