/- Part 46 of the proof: Fma, Fmb, Fmc, Fmd, Fme, Fmf, Fmg. -/
import Derived.Test.YtggclbeocekgkaaGreatDoorP20
import Derived.Test.YtggclbeocekgkaaGreatDoorP22
import Derived.Test.YtggclbeocekgkaaGreatDoorP25
import Derived.Test.YtggclbeocekgkaaGreatDoorP41
import Derived.Test.YtggclbeocekgkaaGreatDoorP44
import Derived.Test.YtggclbeocekgkaaGreatDoorP45
set_option linter.all false
section
namespace Go.Ac
open Go Go.AE Go.Proofs
open Go.Plain
def Da(p:Lt×Bool):List Aa:=[.int .i64 p.1.k,.int .i64 p.1.g,.int .i64 p.1.r,.int .i64 p.1.i,.int .i64 p.1.s,.bool p.1.o,.bool p.2]
def Aw(L:List (Lt×Bool)):List (List Aa):=L.map Da
def CH(k:Int)(n:Nat)(fv:Aa)(l p x m:Int)(ln mn:Nat):Ai:=.cells 7 [[.int .i64 k,.sl 2 0 n,fv,.sl 3 0 ln,.int .i64 p,.int .i64 x,.sl 4 0 mn]]
theorem J9:∀ L:List (Lt×Bool),U3 (Aw L)=true
 | []=>rfl
 | p :: r=>by
  have:=J9 r;simp only[Aw,List.map_cons,Da,U3,X8,Aa.closed,Bool.and_true,Bool.true_and]at this ⊢;exact this
theorem B0(L:List (Lt×Bool)):(Aw L).length=L.length:=by simp[Aw]
theorem XQ{L:List (Lt×Bool)}{i:Nat}(h:i<L.length):(Aw L)[i]? = some (Da L[i]):=by
 unfold Aw;rw[gM,gE h];rfl
theorem Z83:Al Tryz.prog 101 [.int .i64 9] (.tuple [.int .i64 0,.int .i64 0]):=Y9 (l:=[]) trivial ⟨101,[.int .i64 9],.tuple [.int .i64 0,.int .i64 0]⟩ (by kernel_rfl)
theorem Z7g:Al Tryz.prog 101 [.int .i64 1] (.tuple [.int .i64 0,.int .i64 0]):=Y9 (l:=[]) trivial ⟨101,[.int .i64 1],.tuple [.int .i64 0,.int .i64 0]⟩ (by kernel_rfl)
def Oz:Aa:=.agg [.nilFunc,.func (.func 155) [] [],.func (.func 156) [] [],.func (.func 157) [] [],.func (.func 158) [] [],.func (.func 159) [] [],
 .func (.func 160) [] [],.func (.func 161) [] [],.func (.func 162) [] [],.func (.func 163) [] [],.func (.func 163) [] []]
set_option maxRecDepth 100000 in
theorem SJ:AV Tryz.prog 100 [] ⟨[],1⟩ fun r m=>r=Oz∧m=⟨[],1⟩:=by
 refine W9 hm Tryz.func100 oU rfl rfl fun K hK=>?_
 have hKv:=hK _ _ ⟨rfl,rfl⟩;clear hK;unfold Oz at *;simp;exact Z4 hKv [] (by simp)
set_option maxRecDepth 100000 in
theorem Z5j(p:Lt×Bool):Al Tryz.prog 165 [.agg (Da p)] (.bool (decide (p.1.k=1)&&p.2)):=by
 refine R2 hm Tryz.func165 sZ rfl rfl (by simp[X8,Aa.closed,Da]) trivial fun K hK=>?_
 by_cases h1:p.1.k=1
 ·rw[decide_eq_true h1,Bool.true_and]at hK;simp[Da,h1];exact Z4 hK [] (by simp)
 ·rw[decide_eq_false h1,Bool.false_and]at hK;simp[Da,h1];exact Z4 hK [] (by simp)
set_option maxRecDepth 100000 in
theorem cIs(n i:Int):AV Tryz.prog 154 [.int .i64 i,.ptr 1 0 0] ⟨[(1,.cells 1 [[.int .i64 n]])],2⟩ fun r m=>r=.bool (decide (0≤i)&&decide (i<n))∧m=⟨[(1,.cells 1 [[.int .i64 n]])],2⟩:=by
 refine W9 hm Tryz.func154 yI rfl rfl fun K hK=>?_
 have hKv:=hK _ _ ⟨rfl,rfl⟩;clear hK;by_cases h1:0≤i
 ·by_cases h2:i<n
  ·simp[h1,h2];exact Z4 hKv [] (by simp[h1,h2])
  ·simp[h1,h2];exact Z4 hKv [] (by simp[h1,h2])
 ·simp[h1];exact Z4 hKv [] (by simp[h1])
set_option maxRecDepth 100000 in
theorem Z1o(k:Int)(n:Nat)(fv:Aa)(Bb:fv.one=true)(hfr:∀ q,fv.AI q=fv)(l p x m:Int)(ln mn e:Nat)(hn:0<n)(hn2:n≤1000)(he:e<n) :
 AV Tryz.prog 225 [.ptr 1 0 0,.int .i64 e] ⟨[(1,CH k n fv l p x m ln mn)],5⟩ fun r M=>r=.tuple [.int .i64 e,.int .i64 ((e+1) % n:Nat)]∧M=⟨[(1,CH k n fv l p x m ln mn)],5⟩:=by
 refine W9 hm Tryz.func225 yN rfl rfl fun K hK=>?_
 have hKv:=hK _ _ ⟨rfl,rfl⟩;clear hK;unfold CH at *;have hw:=Y7 ((e:Int)+1);have hy3:((e:Int)+1).tmod (n:Int)=((e+1) % n:Nat):=rfl;have hn0:¬(n:Int)=0:=by omega
 have Fk:¬n=0:=by omega
 generalize (e+1) % n=y at *;simp[hw,hy3,hn0,Fk,Bb];exact Z4 hKv [] (by simp[hfr])
end Go.Ac
end
section
namespace Go.Ac
open Go Go.AE Go.Proofs
open Go.Plain
set_option maxRecDepth 100000 in
theorem wm(rows:List (List Aa))(hn:rows≠[])(hl:rows.length≤1000)(h7:(rows.all fun x=>x.length == 7)=true)(hc:U3 rows=true) :
 AV Tryz.prog 230 [.sl 1 0 rows.length] ⟨[(1,.cells 7 rows)],2⟩ fun v m=>v=.sl 2 0 rows.length∧m=⟨[(2,.cells 7 rows),(1,.cells 7 rows)],3⟩:=by
 refine W9 hm Tryz.func230 vZ rfl rfl fun K hK=>?_
 have hr:∀ q,Z3 q rows=rows:=fun q=>Y1 q _ hc
 have hK':=hK _ _ ⟨rfl,rfl⟩;clear hK;have hb:rows.length≤1048576:=by omega
 have hn0:¬rows.length=0:=by simpa using hn
 have Fk:0<rows.length:=by omega
 have he:U6 .eql .slice (.sl 1 0 rows.length) .Ae=some (.bool false):=by simp[U6,EJ,Kl,K8]
 simp[he,h7,hn,hb,L1,T5];exact Z4 hK' [(2,7)] (by simp[hr])
def Ln(G ab EI:Int)(l:Lt):Lt:=if l.k=1∧l.g=G∧ab<l.r then { l with r:=l.r+EI } else l
def Bi(G ab EI:Int)(L:List (Lt×Bool)):List (Lt×Bool):=L.map fun p=>(Ln G ab EI p.1,p.2)
set_option maxRecDepth 100000 in
set_option maxHeartbeats 8000000 in
theorem qJ(L:List (Lt×Bool))(G ab EI:Int)(hl:L.length≤1000)(hr:∀ p,p∈L→0≤p.1.r∧p.1.r≤1000)(hb : -10≤EI∧EI≤10) :
 AV Tryz.prog 228 [.sl 1 0 L.length,.int .i64 G,.int .i64 ab,.int .i64 EI] ⟨[(1,.cells 7 (Aw L))],2⟩ fun v m=>v=.tuple []∧m=⟨[(1,.cells 7 (Aw (Bi G ab EI L)))],2⟩:=by
 refine W9 hm Tryz.func228 aP rfl rfl fun K hK=>?_
 have hKv:=hK _ _ ⟨rfl,rfl⟩;clear hK;obtain⟨R,hR⟩:∃ R:Nat→List (List Aa),∀ i,R i=Aw (Bi G ab EI (L.take i)++L.drop i):=⟨fun i=>_,fun i=>rfl⟩
 have hR0:R 0=Aw L:=by rw[hR]; simp[Bi]
 have hRn:Aw (Bi G ab EI L)=R L.length:=by rw[hR]; simp
 have hRl:∀ i,(R i).length=L.length:=fun i=>by rw[hR,B0]; simp[Bi]; omega
 have hRc:∀ i q,Z3 q (R i)=R i:=fun i q=>by rw[hR]; exact Y1 q _ (J9 _)
 have hRg:∀ i (h:i<L.length),(R i)[i]? = some (Da L[i]):=fun i h=>by
  rw[hR];unfold Aw;rw[gM,List.getElem?_append_right (by simp[Bi]; omega)]
  have:i - (Bi G ab EI (L.take i)).length=0:=by simp[Bi]; omega
  rw[this,List.getElem?_drop,Nat.add_zero,gE h];rfl
 have hRs:∀ i (h:i<L.length),(R i).set i (Da (Ln G ab EI L[i].1,L[i].2))=R (i+1):=fun i h=>by
  rw[hR,hR];unfold Aw;rw[← List.map_set]
  congr 1
  have e1:Bi G ab EI (L.take (i+1))=Bi G ab EI (L.take i)++[(Ln G ab EI L[i].1,L[i].2)]:=by
   unfold Bi;rw[List.take_add_one,gE h,List.map_append];rfl
  have e2:L.drop i=L[i] :: L.drop (i+1):=List.drop_eq_getElem_cons h;have e3:(Bi G ab EI (L.take i)).length=i:=by simp[Bi]; omega
  rw[e1,e2,List.set_append_right _ _ (by omega),e3,Nat.sub_self,List.append_assoc]
  rfl
 rw[hRn]at hKv;rw[← hR0];have hRr:∀ i (h:i<L.length),0≤L[i].1.r∧L[i].1.r≤1000:=fun i h=>hr _ (List.getElem_mem h)
 simp;refine W5 (α:=Nat) (fun i=>[(11,.int .i64 i),(10,.int .i64 L.length),(0,.sl 1 0 L.length),(1,.int .i64 G),(2,.int .i64 ab),(3,.int .i64 EI)]) (fun i=>⟨[(1,.cells 7 (R i))],2⟩) (fun i=>L.length - i) (fun i=>i≤L.length) 0 [] (by simp[hRc]) (by simp) ?_
 intro i hi N hN
 try simp only at hi hN ⊢
 by_cases hlt:i<L.length
 ·have hg:=hRg i hlt;obtain⟨hgl,hg2⟩:=Y8 hg;have hw:=Y7 ((i:Int)+1);have Ak:=hRr i hlt;have hw2:=Y7 (L[i].1.r+EI)
  have hN':=hN (i+1);rw[← hRs i hlt]at hN';have hRli:=hRl i;have hRci:=hRc i;have hset:∀ (row:List Aa) q,X8 row=true→Z3 q ((R i).set i row)=(R i).set i row:=fun row q hc=>by
   rw[H4,List.map_set,← H4,hRci,MF q _ hc]
  unfold Ln at hN';by_cases h1:L[i].1.k=1
  ·by_cases h2:L[i].1.g=G
   ·by_cases h3:ab<L[i].1.r
    ·rw[iP ⟨h1,h2,h3⟩]at hN';simp[hlt,hRli,hg,hg2,Da,h1,h2,h3,hw,hw2];exact hN' [] _ _ (by omega) (by omega) (by simp[Da,h1,h2,hset,X8,Aa.closed])
    ·rw[iN fun e=>h3 e.2.2]at hN'
     have hself:(R i).set i (Da (L[i].1,L[i].2))=R i:=by rw[show (L[i].1,L[i].2)=L[i] from rfl,← hg2]; exact List.set_getElem_self _
     rw[hself]at hN';simp[hlt,hRli,hg,hg2,Da,h1,h2,h3,hw];exact hN' [] _ _ (by omega) (by omega) (by simp[hRci])
   ·rw[iN fun e=>h2 e.2.1]at hN'
    have hself:(R i).set i (Da (L[i].1,L[i].2))=R i:=by rw[show (L[i].1,L[i].2)=L[i] from rfl,← hg2]; exact List.set_getElem_self _
    rw[hself]at hN';simp[hlt,hRli,hg,hg2,Da,h1,h2,hw];exact hN' [] _ _ (by omega) (by omega) (by simp[hRci])
  ·rw[iN fun e=>h1 e.1]at hN'
   have hself:(R i).set i (Da (L[i].1,L[i].2))=R i:=by rw[show (L[i].1,L[i].2)=L[i] from rfl,← hg2]; exact List.set_getElem_self _
   rw[hself]at hN';simp[hlt,hRli,hg,hg2,Da,h1,hw];exact hN' [] _ _ (by omega) (by omega) (by simp[hRci])
 ·obtain rfl:i=L.length:=by omega
  simp;exact Z4 hKv [] (by simp[hRc])
end Go.Ac
end
section
namespace Go.Ac
open Go Go.AE Go.Proofs
open Go.Plain
set_option maxRecDepth 100000 in
theorem yp(k a b:Int)(p:Lt×Bool):AV Tryz.prog 227 [.int .i64 k,.agg (Da p),.ptr 1 0 0,.ptr 2 0 0] ⟨[(1,.cells 1 [[.int .i64 a]]),(2,.cells 1 [[.int .i64 b]])],3⟩ fun r m=>r=.bool (decide (k=a)||decide (k=b))∧m=⟨[(1,.cells 1 [[.int .i64 a]]),(2,.cells 1 [[.int .i64 b]])],3⟩:=by
 refine W9 hm Tryz.func227 rX rfl rfl fun K hK=>?_
 have hKv:=hK _ _ ⟨rfl,rfl⟩;clear hK;unfold Da;by_cases h1:k=a
 ·subst h1;simp at hKv;simp;exact Z4 hKv [] (by simp)
 ·by_cases h2:k=b
  ·subst h2;simp at hKv;simp[h1];exact Z4 hKv [] (by simp)
  ·simp[h1,h2];exact Z4 hKv [] (by simp[h1,h2])
def J0(L:List (Lt×Bool))(a b i:Nat):List (Lt×Bool):=((List.range i).filter fun v=>!(v == a) && !(v == b)).map fun v=>L.getD v default
theorem Z34{L:List (Lt×Bool)}{a b i:Nat}(h:i<L.length):J0 L a b (i+1)=if i=a∨i=b then J0 L a b i else J0 L a b i++[L[i]]:=by
 unfold J0;rw[List.range_succ,List.filter_append,List.map_append];by_cases hc:i=a∨i=b
 ·rw[iP hc];have:(!(i == a) && !(i == b))=false:=by
   rcases hc with rfl|rfl<;>simp
  simp[this]
 ·rw[iN hc];have:(!(i == a) && !(i == b))=true:=by
   have:=not_or.1 hc;simp[this.1,this.2]
  simp[this,List.getD,gE h]
theorem XZ(L:List (Lt×Bool))(a b i:Nat):(J0 L a b i).length≤i:=by
 unfold J0;rw[lM];have:=List.length_filter_le (fun v=>!(v == a) && !(v == b)) (List.range i)
 rwa[List.length_range]at this
set_option maxRecDepth 100000 in
set_option maxHeartbeats 8000000 in
theorem Z7y(L:List (Lt×Bool))(a b:Nat)(hl:L.length≤1000) :
 AV Tryz.prog 226 [.sl 1 0 L.length,.func (.func 227) [] [.ptr 2 0 0,.ptr 3 0 0]] ⟨[(1,.cells 7 (Aw L)),(2,.cells 1 [[.int .i64 a]]),(3,.cells 1 [[.int .i64 b]])],4⟩ fun v m=>
  v=AQ 4 (Aw (J0 L a b L.length))∧m=⟨AM 4 7 (Aw (J0 L a b L.length)) [(1,.cells 7 (Aw L)),(2,.cells 1 [[.int .i64 a]]),(3,.cells 1 [[.int .i64 b]])],5⟩:=by
 refine W9 hm Tryz.func226 uS rfl rfl fun K hK=>?_
 have hKv:=hK _ _ ⟨rfl,rfl⟩;clear hK;obtain⟨W,hW⟩:∃ W:Nat→List (List Aa),∀ i,W i=Aw (J0 L a b i):=⟨fun i=>_,fun i=>rfl⟩
 rw[← hW]at hKv;have hW0:W 0=[]:=by rw[hW]; rfl
 have hWl:∀ i,(W i).length≤i:=fun i=>by rw[hW,B0]; exact XZ ..
 have hWc:∀ i q,Z3 q (W i)=W i:=fun i q=>by rw[hW]; exact Y1 q _ (J9 _)
 have hWs:∀ i (h:i<L.length),W (i+1)=if i=a∨i=b then W i else W i++[Da L[i]]:=fun i h=>by
  rw[hW,hW,Z34 h];split
  ·rfl
  ·simp[Aw]
 have hLc:∀ q,Z3 q (Aw L)=Aw L:=fun q=>Y1 q _ (J9 _)
 have hLl:=B0 L;have hLg:=fun i hi=>XQ (L:=L) (i:=i) hi
 generalize Aw L=R at *;simp;refine W5 (α:=Nat) (fun i=>[(10,.int .i64 i),(9,.int .i64 L.length),(8,.sl 1 0 L.length),(5,AQ 4 (W i)),(1,.func (.func 227) [] [.ptr 2 0 0,.ptr 3 0 0])])
  (fun i=>⟨AM 4 7 (W i) [(1,.cells 7 R),(2,.cells 1 [[.int .i64 a]]),(3,.cells 1 [[.int .i64 b]])],5⟩) (fun i=>L.length - i) (fun i=>i≤L.length) 0 [] (by simp[hW0,hLc]) (by simp) ?_
 intro i hi N hN
 try simp only at hi hN ⊢
 by_cases hlt:i<L.length
 ·have hg:=hLg i hlt;obtain⟨hgl,hg2⟩:=Y8 hg;have hw:=Y7 ((i:Int)+1);have hN':=hN (i+1);have hWsi:=hWs i hlt;rw[hWsi]at hN';have hWli:(W i).length≤1048575:=by have:=hWl i; omega
  have hWlj:(W i).length<1048576:=by have:=hWl i; omega
  have hWci:=hWc i;have BT:=yp i a b L[i];unfold Da at *;by_cases hc:i=a∨i=b
  ·rw[iP hc]at hN';have hb:(decide ((i:Int)=(a:Int))||decide ((i:Int)=(b:Int)))=true:=by
    rcases hc with rfl|rfl<;>simp
   rw[hb]at BT;simp[hlt,hLl,hg,hg2];refine Z6 BT [(1,2),(2,3)] (by simp) (by simp) (by simp) ?_
   rintro r sm ⟨rfl,rfl⟩;simp[hw,hLc];exact hN' [] _ _ (by omega) (by omega) (by simp +contextual [hWci,hLc])
  ·rw[iN hc]at hN';have hb:(decide ((i:Int)=(a:Int))||decide ((i:Int)=(b:Int)))=false:=by
    have:=not_or.1 hc;simp;omega
   rw[hb]at BT;simp[hlt,hLl,hg,hg2];refine Z6 BT [(1,2),(2,3)] (by simp) (by simp) (by simp) ?_
   rintro r sm ⟨rfl,rfl⟩;simp[hw,hLc,hWli,hWlj];exact hN' [(4,20)] _ _ (by omega) (by omega) (by simp +contextual [hWci,hLc])
 ·obtain rfl:i=L.length:=by omega
  simp;exact Z4 hKv [] (by simp +contextual [hWc,hLc])
end Go.Ac
end
section
namespace Go.Ac
open Go Go.AE Go.Proofs
open Go.Plain
def Ew(p:Lt×Bool):Bool:=decide (p.1.k=1)&&p.2
def Gv(L:List (Lt×Bool)):Int:=if L.findIdx Ew<L.length then (L.findIdx Ew:Nat)else -1
def Fu(L:List (Lt×Bool)):Nat:=if L.findIdx Ew<L.length then L.findIdx Ew else 0
def Q3(L:List (Lt×Bool)):List Lt:=(V3 L (Fu L)).map Prod.fst
set_option maxRecDepth 100000 in
set_option maxHeartbeats 4000000 in
theorem Z2w(L:List (Lt×Bool))(hl:L.length≤1000):AV Tryz.prog 164 [.sl 1 0 L.length,.func (.func 165) [] []] ⟨[(1,.cells 7 (Aw L))],2⟩ fun r m=>
 r=.int .i64 (Gv L)∧m=⟨[(1,.cells 7 (Aw L))],2⟩:=by
 refine W9 hm Tryz.func164 YT rfl rfl fun K hK=>?_
 have hKy:∀ i (h:i<L.length),Ew L[i]=true→(∀ j,(hj:j<i)→Ew L[j]=false)→K (.int .i64 i) ⟨[(1,.cells 7 (Aw L))],2⟩:=fun i h h1 h2=>hK _ _ ⟨by
  have e:L.findIdx Ew=i:=(List.findIdx_eq h).2 ⟨h1,fun j hj=>h2 j hj⟩
  unfold Gv;rw[e,iP h],rfl⟩
 have hKn:(∀ j,(hj:j<L.length)→Ew L[j]=false)→K (.int .i64 (-1)) ⟨[(1,.cells 7 (Aw L))],2⟩:=fun h=>hK _ _ ⟨by
  have e:¬L.findIdx Ew<L.length:=fun hc=>by
   have:=List.findIdx_getElem (w:=hc);rw[h _ hc]at this;cases this
  unfold Gv;rw[iN e],rfl⟩
 clear hK;have hLc:∀ q,Z3 q (Aw L)=Aw L:=fun q=>Y1 q _ (J9 _)
 have hLl:=B0 L;have hLg:=fun i hi=>XQ (L:=L) (i:=i) hi
 generalize Aw L=R at *;simp;refine W5 (α:=Nat) (fun i=>[(8,.int .i64 i),(7,.int .i64 L.length),(1,.func (.func 165) [] []),(0,.sl 1 0 L.length)]) (fun i=>⟨[(1,.cells 7 R)],2⟩) (fun i=>L.length - i) (fun i=>i≤L.length ∧ ∀ j,(hj:j<L.length)→j<i→Ew L[j]=false) 0 [] (by simp[hLc]) (by simp) ?_
 rintro i ⟨hi,hno⟩ N hN
 try simp only at hi hN ⊢
 by_cases hlt:i<L.length
 ·have hg:=hLg i hlt;obtain⟨hgl,hg2⟩:=Y8 hg;have hw:=Y7 ((i:Int)+1);have hc:Al Tryz.prog 165 [.agg (Da L[i])] (.bool (Ew L[i])):=Z5j L[i];unfold Da at *;cases hd:Ew L[i]with
  | true=>
   rw[hd]at hc;have hKy:=hKy i hlt hd fun j hj=>hno j (by omega) hj
   simp[hlt,hLl,hg,hg2];refine Y5 hc ?_;simp;exact Z4 hKy [] (by simp[hLc])
  | false=>
   rw[hd]at hc;simp[hlt,hLl,hg,hg2];refine Y5 hc ?_;simp[hw];refine hN (i+1) [] _ _ (by omega) ⟨by omega,fun j hj hji=>?_⟩ (by simp[hLc])
   by_cases e:j=i
   ·subst e; exact hd
   ·exact hno j hj (by omega)
 ·obtain rfl:i=L.length:=by omega
  have hKn:=hKn fun j hj=>hno j hj hj
  simp;exact Z4 hKn [] (by simp[hLc])
set_option maxRecDepth 100000 in
set_option maxHeartbeats 8000000 in
theorem pJ(k:Int)(n:Nat)(fv:Aa)(Bb:fv.one=true)(hfr:∀ q,fv.AI q=fv)(l p x m:Int)(ln mn:Nat)(L:List (Lt×Bool))(hl:L.length≤1000) :
 AV Tryz.prog 102 [.ptr 1 0 0,.sl 5 0 L.length] ⟨[(1,CH k n fv l p x m ln mn),(5,.cells 7 (Aw L))],6⟩ fun r M=>r=.agg [.int .i64 k,AQ 6 ((Q3 L).map Ab)]∧M=⟨AM 6 6 ((Q3 L).map Ab) [(1,CH k n fv l p x m ln mn),(5,.cells 7 (Aw L))],7⟩:=by
 refine W9 hm Tryz.func102 XU rfl rfl fun K hK=>?_
 have hKv:=hK _ _ ⟨rfl,rfl⟩;clear hK;have hidx:=Z2w L hl;obtain⟨fr,hfrm⟩:∃ fr,Fu L=fr:=⟨_,rfl⟩
 have Dl:(if (0:Int)<Gv L then Gv L else 0)=(fr:Int):=by
  rw[← hfrm];unfold Gv Fu;by_cases h:L.findIdx Ew<L.length
  ·rw[iP h,iP h];split<;>omega
  ·rw[iN h,iN h];rfl
 have hfl:fr≤L.length:=by rw[← hfrm]; unfold Fu; split<;>omega
 have hfl2:0<L.length→fr<L.length:=fun h=>by rw[← hfrm]; unfold Fu; split<;>omega
 obtain⟨W,hW⟩:∃ W:Nat→List (List Aa),∀ i,W i=((Q3 L).take i).map Ab:=⟨fun i=>_,fun i=>rfl⟩
 have hfn:(Q3 L).length=L.length:=by unfold Q3; rw[lM,(Hj _ _).length_eq]
 have hW0:W 0=[]:=by rw[hW]; simp
 have hWn:(Q3 L).map Ab=W L.length:=by rw[hW,← hfn,List.take_length]
 have hWl:∀ i,(W i).length≤L.length:=fun i=>by rw[hW,lM,lK,hfn]; omega
 have hWc:∀ i q,Z3 q (W i)=W i:=fun i q=>by rw[hW]; exact Y1 q _ (X5 _)
 have hWs:∀ i (h:i<L.length),W (i+1)=W i++[Ab (L[(fr+i) % L.length]'(Nat.mod_lt _ (by omega))).1]:=fun i h=>by
  have hm:(fr+i) % L.length<L.length:=Nat.mod_lt _ (by omega)
  have e:(Q3 L)[i]? = some (L[(fr+i) % L.length]'hm).1:=by
   unfold Q3 V3;rw[hfrm,gM,List.getElem?_append,List.length_drop];by_cases hc:i<L.length - fr
   ·rw[iP hc,List.getElem?_drop,gE (by omega)]
    simp only[Option.map_some]
    congr 2
    have:=Nat.mod_eq_of_lt (show fr+i<L.length by omega)
    simp only[this]
   ·have e2:(fr+i) % L.length=i - (L.length - fr):=by
     have:fr+i=(i - (L.length - fr))+L.length:=by omega
     rw[this,Nat.add_mod_right,Nat.mod_eq_of_lt (by omega)]
    rw[iN hc,List.getElem?_take,iP (by omega),gE (by omega)]
    simp only[Option.map_some,e2]
  rw[hW,hW,List.take_add_one,e,List.map_append];rfl
 rw[hWn]at hKv;have hLc:∀ q,Z3 q (Aw L)=Aw L:=fun q=>Y1 q _ (J9 _)
 have hLl:=B0 L;have hLg:=fun i hi=>XQ (L:=L) (i:=i) hi
 unfold CH at *;generalize Aw L=R at *;simp[Bb];refine Z6 hidx [(1,5)] (by simp) (by simp[hLc]) (by simp) ?_
 rintro r sm ⟨rfl,rfl⟩;simp[Dl,hLc];refine W5 (α:=Nat) (fun i=>[(18,.int .i64 i),(17,.int .i64 L.length),(6,.int .i64 fr),(5,.ptr 7 0 0),(4,.ptr 6 0 0),(1,.sl 5 0 L.length),(0,.ptr 1 0 0)])
  (fun i=>⟨(7,.cells 2 [[.int .i64 k,AQ 8 (W i)]]) :: AM 8 6 (W i) [(6,.cells 2 [[.int .i64 0,.Ae]]),(1,.cells 7 [[.int .i64 k,.sl 2 0 n,fv,.sl 3 0 ln,.int .i64 p,.int .i64 x,.sl 4 0 mn]]),(5,.cells 7 R)],9⟩) (fun i=>L.length - i) (fun i=>i≤L.length) 0 [(7,12)] (by simp[hW0,hLc,hfr]) (by simp) ?_
 intro i hi N hN
 try simp only at hi hN ⊢
 by_cases hlt:i<L.length
 ·have hml:(fr+i) % L.length<L.length:=Nat.mod_lt _ (by omega)
  have hg:=hLg _ hml;obtain⟨hgl,hg2⟩:=Y8 hg;have hw:=Y7 ((i:Int)+1);have hw2:=Y7 ((fr:Int)+i);have hN':=hN (i+1);rw[hWs i hlt]at hN';have hWli:(W i).length≤1048575:=by have:=hWl i; omega
  have hWlj:(W i).length<1048576:=by have:=hWl i; omega
  have hWci:=hWc i;obtain⟨y,hy⟩:∃ y:Nat,(fr+i) % L.length=y:=⟨_,rfl⟩
  have hy3:((fr:Int)+(i:Int)).tmod (L.length:Int)=(y:Int):=by rw[← hy]; rfl
  have hl0:¬(L.length:Int)=0:=by omega
  have hl1:¬L.length=0:=by omega
  have hl2:¬L=[]:=fun e=>hl1 (by rw[e]; rfl)
  simp only[hy]at hml hg hgl hg2 hN';unfold Da at *;simp[hlt,hLl,hw2,hy3,hl0,hl1,hl2,hml,hg,hg2,hWli,hWlj,hw];exact hN' [(8,25)] _ _ (by omega) (by omega) (by simp +contextual [hWci,hLc,Ab,hfr])
 ·obtain rfl:i=L.length:=by omega
  simp;exact Z4 hKv [(6,8)] (by simp +contextual [hWc,hLc,hfr])
end Go.Ac
end
section
namespace Go.Ac
open Go Go.AE Go.Proofs
open Go.Plain
def Bc(kind a:Int):List Aa:=[.int .i64 kind,.int .i64 a,.int .i64 0,.int .i64 0,.bool false,.bool false,.int .i64 0]
set_option maxRecDepth 100000 in
theorem Xg(G ab EI:Int):Al Tryz.prog 228 [.Ae,.int .i64 G,.int .i64 ab,.int .i64 EI] (.tuple []):=by
 refine E5 hm 3 Tryz.func228 aP rfl rfl rfl rfl fun K hK=>?_
 have hKv:=hK (.tuple []) ⟨[],1⟩ rfl;clear hK;simp;refine W5 (α:=Unit) (fun _=>[(11,.int .i64 0),(10,.int .i64 0),(0,.Ae),(1,.int .i64 G),(2,.int .i64 ab),(3,.int .i64 EI)]) (fun _=>⟨[],1⟩) (fun _=>0) (fun _=>True) () [] (by simp) trivial ?_
 intro _ _ N hN;simp;exact Z4 hKv [] (by simp)
def Nh(P Q:Lt)(p x:Int):Prop:=P.k=1∧Q.k=1∧P.g=Q.g∧(P.r=Q.r+1∨Q.r=P.r+1) ∧ ¬(p≤2∧0<x)
def V0(P Q:Lt):Int:=if P.r<Q.r then Q.r else P.r
set_option maxRecDepth 100000 in
set_option maxHeartbeats 16000000 in
theorem Zz5(k:Int)(fv:Aa)(Bb:fv.one=true)(hfr:∀ q,fv.AI q=fv)(l p x m:Int)(ln mn e:Nat)(L:List (Lt×Bool))(hl:L.length≤1000)(he:e<L.length)(h2:2≤L.length)(hr:∀ q,q∈L→0≤q.1.r∧q.1.r≤1000)
 (P Q:Lt×Bool) (hP:L[e]? = some P) (hQ:L[(e+1) % L.length]? = some Q) (Post:Aa→Ad→Prop)
 (hno:¬Nh P.1 Q.1 p x→Post (.tuple [.Ae,.bool false]) ⟨[(1,CH k L.length fv l p x m ln mn),(2,.cells 7 (Aw L))],5⟩)
 (hyes:Nh P.1 Q.1 p x→Post (.tuple [AQ 5 (Aw (Bi P.1.g (V0 P.1 Q.1) (-2) (J0 L e ((e+1) % L.length) L.length))),.bool true]) ⟨AM 5 7 (Aw (Bi P.1.g (V0 P.1 Q.1) (-2) (J0 L e ((e+1) % L.length) L.length))) [(1,CH k L.length fv l p x m ln mn),(2,.cells 7 (Aw L))],6⟩) :
 AV Tryz.prog 155 [.ptr 1 0 0,.agg (Bc 1 e)] ⟨[(1,CH k L.length fv l p x m ln mn),(2,.cells 7 (Aw L))],5⟩ Post:=by
 refine W9 hm Tryz.func155 tP rfl rfl fun K hK=>?_
 have hKn:=fun h=>hK _ _ (hno h)
 have hKy:=fun h=>hK _ _ (hyes h)
 clear hK hno hyes;obtain⟨j,hj⟩:∃ j,(e+1) % L.length=j:=⟨_,rfl⟩
 have hjl:j<L.length:=by rw[← hj]; exact Nat.mod_lt _ (by omega)
 have hends:=Z1o k L.length fv Bb hfr l p x m ln mn e (by omega) hl he
 rw[hj]at hends hQ hKy;have hwo:=Z7y L e j hl;have hsh:=fun hne=>qJ (J0 L e j L.length) P.1.g (V0 P.1 Q.1) (-2) (by have:=XZ L e j L.length; omega) hne (by omega)
 have hkm:∀ q,q∈J0 L e j L.length→0≤q.1.r∧q.1.r≤1000:=fun q hq=>by
  unfold J0 at hq;obtain⟨v,hv,rfl⟩:=mM.1 hq;have hvl:=mR.1 (List.mem_filter.1 hv).1;rw[List.getD,gE hvl];exact hr _ (List.getElem_mem hvl)
 have hsh:=hsh hkm;have hgP:(Aw L)[e]? = some (Da P):=by unfold Aw; rw[gM,hP]; rfl
 have hgQ:(Aw L)[j]? = some (Da Q):=by unfold Aw; rw[gM,hQ]; rfl
 have hPr:=hr P (List.mem_of_getElem? hP);have hQr:=hr Q (List.mem_of_getElem? hQ);have hLc:∀ q,Z3 q (Aw L)=Aw L:=fun q=>Y1 q _ (J9 _)
 have hLl:=B0 L;obtain⟨hgPl,hgP2⟩:=Y8 hgP;obtain⟨hgQl,hgQ2⟩:=Y8 hgQ;obtain⟨kp,hkp⟩:∃ kp,J0 L e j L.length=kp:=⟨_,rfl⟩
 rw[hkp]at hsh hwo hKy;have hkc:∀ q,Z3 q (Aw kp)=Aw kp:=fun q=>Y1 q _ (J9 _)
 have hs2c:∀ q,Z3 q (Aw (Bi P.1.g (V0 P.1 Q.1) (-2) kp))=Aw (Bi P.1.g (V0 P.1 Q.1) (-2) kp):=fun q=>Y1 q _ (J9 _)
 have hkl:=B0 kp;have hcP:0<L.length:=by omega
 unfold CH Bc at *;unfold Da at hgP hgQ hgP2 hgQ2;by_cases h1:P.1.k=1
 ·by_cases h3:Q.1.k=1
  ·by_cases h4:P.1.g=Q.1.g
   ·have h4':Q.1.g=P.1.g:=h4.symm;by_cases hc:P.1.r=Q.1.r+1
    ·have hlt:¬P.1.r<Q.1.r:=by omega
     have hgt:Q.1.r<P.1.r:=by omega
     have hsub:IntKind.i64.wrap (P.1.r - Q.1.r)=1:=by rw[hc]; exact(G8 (by omega) (by omega)).trans (by omega)
     by_cases hp2:p≤2
     ·by_cases hx0:0<x
      ·have hKn:=hKn fun h=>h.2.2.2.2 ⟨hp2,hx0⟩
       simp[Bb];refine Z6 hends [] (by simp) (by simp[hfr]) (by simp) ?_
       rintro r sm ⟨rfl,rfl⟩;simp[hLl,hgP,hgQ,hgP2,hgQ2,hjl,he,h1,h3,h4',hfr,Bb,hlt,hgt,hsub,hp2,hx0];exact Z4 hKn [] (by simp[hLc,hfr])
      ·have h5:¬(p≤2∧0<x):=fun h=>hx0 h.2
       have hKy:=hKy ⟨h1,h3,h4,.inl hc,h5⟩;by_cases hke:kp=[]
       ·subst hke;have e0:Aw (Bi P.1.g (V0 P.1 Q.1) (-2) [])=[]:=rfl;have e1:Aw ([]:List (Lt×Bool))=[]:=rfl;rw[e0]at hKy;rw[e1]at hwo;simp[Bb];refine Z6 hends [] (by simp) (by simp[hfr]) (by simp) ?_
        rintro r sm ⟨rfl,rfl⟩;simp[hLl,hgP,hgQ,hgP2,hgQ2,hjl,he,h1,h3,h4',hfr,Bb,hlt,hgt,hsub,hp2,hx0];refine Z6 hwo [(1,2),(2,15),(3,16)] (by simp) (by simp[hLc]) (by simp) ?_
        rintro r sm ⟨rfl,rfl⟩;simp[hLc,hfr,Bb,hgt,hlt];refine Y5 (Xg P.1.g _ (-2)) ?_;simp;exact Z4 hKy [] (by simp[hLc,hfr])
       ·have hpk:Aw kp≠[]:=fun e=>hke (by simpa[Aw]using e)
        have hpk2:Aw (Bi P.1.g (V0 P.1 Q.1) (-2) kp)≠[]:=fun e=>hke (by simpa[Aw,Bi]using e)
        have hs2l:(Aw (Bi P.1.g (V0 P.1 Q.1) (-2) kp)).length=kp.length:=by simp[Aw,Bi]
        have hwo2:AQ 4 (Aw kp)=.sl 4 0 kp.length:=by unfold AQ; rw[iN hpk,hkl]
        have hwo3:∀ c r,AM c 7 (Aw kp) r=(c,.cells 7 (Aw kp)) :: r:=fun c r=>by unfold AM; rw[iN hpk]
        have hwo4:AQ 5 (Aw (Bi P.1.g (V0 P.1 Q.1) (-2) kp))=.sl 5 0 kp.length:=by unfold AQ; rw[iN hpk2,hs2l]
        have hwo5:∀ c r,AM c 7 (Aw (Bi P.1.g (V0 P.1 Q.1) (-2) kp)) r=(c,.cells 7 (Aw (Bi P.1.g (V0 P.1 Q.1) (-2) kp))) :: r:=fun c r=>by unfold AM; rw[iN hpk2]
        rw[hwo2,hwo3]at hwo;rw[hwo4,hwo5]at hKy;have Dl:V0 P.1 Q.1=P.1.r:=by unfold V0; rw[iN hlt]
        generalize hS:Aw (Bi P.1.g (V0 P.1 Q.1) (-2) kp)=S at *;rw[Dl]at hsh;simp[Bb];refine Z6 hends [] (by simp) (by simp[hfr]) (by simp) ?_
        rintro r sm ⟨rfl,rfl⟩;simp[hLl,hgP,hgQ,hgP2,hgQ2,hjl,he,h1,h3,h4',hfr,Bb,hlt,hgt,hsub,hp2,hx0];refine Z6 hwo [(1,2),(2,15),(3,16)] (by simp) (by simp[hLc]) (by simp) ?_
        rintro r sm ⟨rfl,rfl⟩;simp[hLc,hfr,Bb,hgt,hlt,hkc];refine Z6 hsh [(1,95)] (by simp) (by simp[hkc]) (by simp) ?_
        rintro r sm ⟨rfl,rfl⟩;simp[hLc,hfr,Bb,hkc,hs2c];exact Z4 hKy [(5,95)] (by simp[hLc,hfr,hs2c])
     ·have h5:¬(p≤2∧0<x):=fun h=>hp2 h.1
      have hx0:True:=trivial;have hKy:=hKy ⟨h1,h3,h4,.inl hc,h5⟩;by_cases hke:kp=[]
      ·subst hke;have e0:Aw (Bi P.1.g (V0 P.1 Q.1) (-2) [])=[]:=rfl;have e1:Aw ([]:List (Lt×Bool))=[]:=rfl;rw[e0]at hKy;rw[e1]at hwo;simp[Bb];refine Z6 hends [] (by simp) (by simp[hfr]) (by simp) ?_
       rintro r sm ⟨rfl,rfl⟩;simp[hLl,hgP,hgQ,hgP2,hgQ2,hjl,he,h1,h3,h4',hfr,Bb,hlt,hgt,hsub,hp2,hx0];refine Z6 hwo [(1,2),(2,15),(3,16)] (by simp) (by simp[hLc]) (by simp) ?_
       rintro r sm ⟨rfl,rfl⟩;simp[hLc,hfr,Bb,hgt,hlt];refine Y5 (Xg P.1.g _ (-2)) ?_;simp;exact Z4 hKy [] (by simp[hLc,hfr])
      ·have hpk:Aw kp≠[]:=fun e=>hke (by simpa[Aw]using e)
       have hpk2:Aw (Bi P.1.g (V0 P.1 Q.1) (-2) kp)≠[]:=fun e=>hke (by simpa[Aw,Bi]using e)
       have hs2l:(Aw (Bi P.1.g (V0 P.1 Q.1) (-2) kp)).length=kp.length:=by simp[Aw,Bi]
       have hwo2:AQ 4 (Aw kp)=.sl 4 0 kp.length:=by unfold AQ; rw[iN hpk,hkl]
       have hwo3:∀ c r,AM c 7 (Aw kp) r=(c,.cells 7 (Aw kp)) :: r:=fun c r=>by unfold AM; rw[iN hpk]
       have hwo4:AQ 5 (Aw (Bi P.1.g (V0 P.1 Q.1) (-2) kp))=.sl 5 0 kp.length:=by unfold AQ; rw[iN hpk2,hs2l]
       have hwo5:∀ c r,AM c 7 (Aw (Bi P.1.g (V0 P.1 Q.1) (-2) kp)) r=(c,.cells 7 (Aw (Bi P.1.g (V0 P.1 Q.1) (-2) kp))) :: r:=fun c r=>by unfold AM; rw[iN hpk2]
       rw[hwo2,hwo3]at hwo;rw[hwo4,hwo5]at hKy;have Dl:V0 P.1 Q.1=P.1.r:=by unfold V0; rw[iN hlt]
       generalize hS:Aw (Bi P.1.g (V0 P.1 Q.1) (-2) kp)=S at *;rw[Dl]at hsh;simp[Bb];refine Z6 hends [] (by simp) (by simp[hfr]) (by simp) ?_
       rintro r sm ⟨rfl,rfl⟩;simp[hLl,hgP,hgQ,hgP2,hgQ2,hjl,he,h1,h3,h4',hfr,Bb,hlt,hgt,hsub,hp2,hx0];refine Z6 hwo [(1,2),(2,15),(3,16)] (by simp) (by simp[hLc]) (by simp) ?_
       rintro r sm ⟨rfl,rfl⟩;simp[hLc,hfr,Bb,hgt,hlt,hkc];refine Z6 hsh [(1,95)] (by simp) (by simp[hkc]) (by simp) ?_
       rintro r sm ⟨rfl,rfl⟩;simp[hLc,hfr,Bb,hkc,hs2c];exact Z4 hKy [(5,95)] (by simp[hLc,hfr,hs2c])
    ·by_cases hc:Q.1.r=P.1.r+1
     ·have hlt:P.1.r<Q.1.r:=by omega
      have hgt:¬Q.1.r<P.1.r:=by omega
      have hsub:IntKind.i64.wrap (Q.1.r - P.1.r)=1:=by rw[hc]; exact(G8 (by omega) (by omega)).trans (by omega)
      by_cases hp2:p≤2
      ·by_cases hx0:0<x
       ·have hKn:=hKn fun h=>h.2.2.2.2 ⟨hp2,hx0⟩
        simp[Bb];refine Z6 hends [] (by simp) (by simp[hfr]) (by simp) ?_
        rintro r sm ⟨rfl,rfl⟩;simp[hLl,hgP,hgQ,hgP2,hgQ2,hjl,he,h1,h3,h4',hfr,Bb,hlt,hgt,hsub,hp2,hx0];exact Z4 hKn [] (by simp[hLc,hfr])
       ·have h5:¬(p≤2∧0<x):=fun h=>hx0 h.2
        have hKy:=hKy ⟨h1,h3,h4,.inr hc,h5⟩;by_cases hke:kp=[]
        ·subst hke;have e0:Aw (Bi P.1.g (V0 P.1 Q.1) (-2) [])=[]:=rfl;have e1:Aw ([]:List (Lt×Bool))=[]:=rfl;rw[e0]at hKy;rw[e1]at hwo;simp[Bb];refine Z6 hends [] (by simp) (by simp[hfr]) (by simp) ?_
         rintro r sm ⟨rfl,rfl⟩;simp[hLl,hgP,hgQ,hgP2,hgQ2,hjl,he,h1,h3,h4',hfr,Bb,hlt,hgt,hsub,hp2,hx0];refine Z6 hwo [(1,2),(2,15),(3,16)] (by simp) (by simp[hLc]) (by simp) ?_
         rintro r sm ⟨rfl,rfl⟩;simp[hLc,hfr,Bb,hgt,hlt];refine Y5 (Xg P.1.g _ (-2)) ?_;simp;exact Z4 hKy [] (by simp[hLc,hfr])
        ·have hpk:Aw kp≠[]:=fun e=>hke (by simpa[Aw]using e)
         have hpk2:Aw (Bi P.1.g (V0 P.1 Q.1) (-2) kp)≠[]:=fun e=>hke (by simpa[Aw,Bi]using e)
         have hs2l:(Aw (Bi P.1.g (V0 P.1 Q.1) (-2) kp)).length=kp.length:=by simp[Aw,Bi]
         have hwo2:AQ 4 (Aw kp)=.sl 4 0 kp.length:=by unfold AQ; rw[iN hpk,hkl]
         have hwo3:∀ c r,AM c 7 (Aw kp) r=(c,.cells 7 (Aw kp)) :: r:=fun c r=>by unfold AM; rw[iN hpk]
         have hwo4:AQ 5 (Aw (Bi P.1.g (V0 P.1 Q.1) (-2) kp))=.sl 5 0 kp.length:=by unfold AQ; rw[iN hpk2,hs2l]
         have hwo5:∀ c r,AM c 7 (Aw (Bi P.1.g (V0 P.1 Q.1) (-2) kp)) r=(c,.cells 7 (Aw (Bi P.1.g (V0 P.1 Q.1) (-2) kp))) :: r:=fun c r=>by unfold AM; rw[iN hpk2]
         rw[hwo2,hwo3]at hwo;rw[hwo4,hwo5]at hKy;have Dl:V0 P.1 Q.1=Q.1.r:=by unfold V0; rw[iP hlt]
         generalize hS:Aw (Bi P.1.g (V0 P.1 Q.1) (-2) kp)=S at *;rw[Dl]at hsh;simp[Bb];refine Z6 hends [] (by simp) (by simp[hfr]) (by simp) ?_
         rintro r sm ⟨rfl,rfl⟩;simp[hLl,hgP,hgQ,hgP2,hgQ2,hjl,he,h1,h3,h4',hfr,Bb,hlt,hgt,hsub,hp2,hx0];refine Z6 hwo [(1,2),(2,15),(3,16)] (by simp) (by simp[hLc]) (by simp) ?_
         rintro r sm ⟨rfl,rfl⟩;simp[hLc,hfr,Bb,hgt,hlt,hkc];refine Z6 hsh [(1,95)] (by simp) (by simp[hkc]) (by simp) ?_
         rintro r sm ⟨rfl,rfl⟩;simp[hLc,hfr,Bb,hkc,hs2c];exact Z4 hKy [(5,95)] (by simp[hLc,hfr,hs2c])
      ·have h5:¬(p≤2∧0<x):=fun h=>hp2 h.1
       have hx0:True:=trivial;have hKy:=hKy ⟨h1,h3,h4,.inr hc,h5⟩;by_cases hke:kp=[]
       ·subst hke;have e0:Aw (Bi P.1.g (V0 P.1 Q.1) (-2) [])=[]:=rfl;have e1:Aw ([]:List (Lt×Bool))=[]:=rfl;rw[e0]at hKy;rw[e1]at hwo;simp[Bb];refine Z6 hends [] (by simp) (by simp[hfr]) (by simp) ?_
        rintro r sm ⟨rfl,rfl⟩;simp[hLl,hgP,hgQ,hgP2,hgQ2,hjl,he,h1,h3,h4',hfr,Bb,hlt,hgt,hsub,hp2,hx0];refine Z6 hwo [(1,2),(2,15),(3,16)] (by simp) (by simp[hLc]) (by simp) ?_
        rintro r sm ⟨rfl,rfl⟩;simp[hLc,hfr,Bb,hgt,hlt];refine Y5 (Xg P.1.g _ (-2)) ?_;simp;exact Z4 hKy [] (by simp[hLc,hfr])
       ·have hpk:Aw kp≠[]:=fun e=>hke (by simpa[Aw]using e)
        have hpk2:Aw (Bi P.1.g (V0 P.1 Q.1) (-2) kp)≠[]:=fun e=>hke (by simpa[Aw,Bi]using e)
        have hs2l:(Aw (Bi P.1.g (V0 P.1 Q.1) (-2) kp)).length=kp.length:=by simp[Aw,Bi]
        have hwo2:AQ 4 (Aw kp)=.sl 4 0 kp.length:=by unfold AQ; rw[iN hpk,hkl]
        have hwo3:∀ c r,AM c 7 (Aw kp) r=(c,.cells 7 (Aw kp)) :: r:=fun c r=>by unfold AM; rw[iN hpk]
        have hwo4:AQ 5 (Aw (Bi P.1.g (V0 P.1 Q.1) (-2) kp))=.sl 5 0 kp.length:=by unfold AQ; rw[iN hpk2,hs2l]
        have hwo5:∀ c r,AM c 7 (Aw (Bi P.1.g (V0 P.1 Q.1) (-2) kp)) r=(c,.cells 7 (Aw (Bi P.1.g (V0 P.1 Q.1) (-2) kp))) :: r:=fun c r=>by unfold AM; rw[iN hpk2]
        rw[hwo2,hwo3]at hwo;rw[hwo4,hwo5]at hKy;have Dl:V0 P.1 Q.1=Q.1.r:=by unfold V0; rw[iP hlt]
        generalize hS:Aw (Bi P.1.g (V0 P.1 Q.1) (-2) kp)=S at *;rw[Dl]at hsh;simp[Bb];refine Z6 hends [] (by simp) (by simp[hfr]) (by simp) ?_
        rintro r sm ⟨rfl,rfl⟩;simp[hLl,hgP,hgQ,hgP2,hgQ2,hjl,he,h1,h3,h4',hfr,Bb,hlt,hgt,hsub,hp2,hx0];refine Z6 hwo [(1,2),(2,15),(3,16)] (by simp) (by simp[hLc]) (by simp) ?_
        rintro r sm ⟨rfl,rfl⟩;simp[hLc,hfr,Bb,hgt,hlt,hkc];refine Z6 hsh [(1,95)] (by simp) (by simp[hkc]) (by simp) ?_
        rintro r sm ⟨rfl,rfl⟩;simp[hLc,hfr,Bb,hkc,hs2c];exact Z4 hKy [(5,95)] (by simp[hLc,hfr,hs2c])
     ·rename_i hc0;have hKn:=hKn fun h=>by rcases h.2.2.2.1 with h|h<;>omega
      by_cases hlt:P.1.r<Q.1.r
      ·have hgt:¬Q.1.r<P.1.r:=by omega
       have hsub:=Y7 (Q.1.r - P.1.r);have hne:¬Q.1.r - P.1.r=1:=by omega
       simp[Bb];refine Z6 hends [] (by simp) (by simp[hfr]) (by simp) ?_
       rintro r sm ⟨rfl,rfl⟩;simp[hLl,hgP,hgQ,hgP2,hgQ2,hjl,he,h1,h3,h4',hfr,Bb,hlt,hgt,hsub,hne];exact Z4 hKn [] (by simp[hLc,hfr])
      ·by_cases hgt:Q.1.r<P.1.r
       ·have hsub:=Y7 (P.1.r - Q.1.r);have hne:¬P.1.r - Q.1.r=1:=by omega
        simp[Bb];refine Z6 hends [] (by simp) (by simp[hfr]) (by simp) ?_
        rintro r sm ⟨rfl,rfl⟩;simp[hLl,hgP,hgQ,hgP2,hgQ2,hjl,he,h1,h3,h4',hfr,Bb,hlt,hgt,hsub,hne];exact Z4 hKn [] (by simp[hLc,hfr])
       ·have hsub:IntKind.i64.wrap (P.1.r - P.1.r)=0:=by rw[Int.sub_self]; rfl
        have w0:IntKind.i64.wrap 0=0:=rfl;simp[Bb];refine Z6 hends [] (by simp) (by simp[hfr]) (by simp) ?_
        rintro r sm ⟨rfl,rfl⟩;simp[hLl,hgP,hgQ,hgP2,hgQ2,hjl,he,h1,h3,h4',hfr,Bb,hlt,hgt,hsub,w0];exact Z4 hKn [] (by simp[hLc,hfr])
   ·have hKn:=hKn fun h=>h4 h.2.2.1
    simp[Bb];refine Z6 hends [] (by simp) (by simp[hfr]) (by simp) ?_
    rintro r sm ⟨rfl,rfl⟩;simp[hLl,hgP,hgQ,hgP2,hgQ2,hjl,he,h1,h3,h4,hfr,Bb];exact Z4 hKn [] (by simp[hLc,hfr])
  ·have hKn:=hKn fun h=>h3 h.2.1
   simp[Bb];refine Z6 hends [] (by simp) (by simp[hfr]) (by simp) ?_
   rintro r sm ⟨rfl,rfl⟩;simp[hLl,hgP,hgQ,hgP2,hgQ2,hjl,he,h1,h3,hfr,Bb];exact Z4 hKn [] (by simp[hLc,hfr])
 ·have hKn:=hKn fun h=>h1 h.1
  simp[Bb];refine Z6 hends [] (by simp) (by simp[hfr]) (by simp) ?_
  rintro r sm ⟨rfl,rfl⟩;simp[hLl,hgP,hgQ,hgP2,hgQ2,hjl,he,h1,hfr,Bb];exact Z4 hKn [] (by simp[hLc,hfr])
end Go.Ac
end
section
namespace Go.Ac
open Go Go.AE Go.Proofs
open Go.Plain
def L5(L:List (Lt×Bool))(a:Nat)(P:Lt×Bool):List (Lt×Bool):=(Bi (P.1.g+1) 0 1 L).set a ({ P.1 with g:=P.1.g+1,r:=1 },P.2)
set_option maxRecDepth 100000 in
set_option maxHeartbeats 16000000 in
theorem dO(k:Int)(fv:Aa)(Bb:fv.one=true)(hfr:∀ q,fv.AI q=fv)(l p x m:Int)(ln mn a:Nat)(L:List (Lt×Bool))(C:List Int)(hl:L.length≤1000)(ha:a<L.length)(hr:∀ q,q∈L→0≤q.1.r∧q.1.r≤1000)
 (hmn:C.length=mn) (P:Lt×Bool) (hP:L[a]? = some P) (hg:P.1.k=1→P.1.g<k→0≤P.1.g∧P.1.g.toNat<mn∧P.1.g≤1000) (Post:Aa→Ad→Prop)
 (hno:¬(P.1.k=1∧P.1.g<k∧P.1.r=C.getD P.1.g.toNat 0)→Post (.tuple [.Ae,.bool false]) ⟨[(1,CH k L.length fv l p x m ln mn),(2,.cells 7 (Aw L)),(4,.cells 1 (Z1 C))],5⟩)
 (hyes:(P.1.k=1∧P.1.g<k∧P.1.r=C.getD P.1.g.toNat 0)→Post (.tuple [.sl 5 0 L.length,.bool true]) ⟨[(5,.cells 7 (Aw (L5 L a P))),(1,CH k L.length fv l p x m ln mn),(2,.cells 7 (Aw L)),(4,.cells 1 (Z1 C))],6⟩) :
 AV Tryz.prog 163 [.ptr 1 0 0,.agg (Bc 9 a)] ⟨[(1,CH k L.length fv l p x m ln mn),(2,.cells 7 (Aw L)),(4,.cells 1 (Z1 C))],5⟩ Post:=by
 refine W9 hm Tryz.func163 zV rfl rfl fun K hK=>?_
 have hKn:=fun h=>hK _ _ (hno h)
 have hKy:=fun h=>hK _ _ (hyes h)
 clear hK hno hyes;have hL0:Aw L≠[]:=fun e=>by
  have:=congrArg List.length e;rw[B0]at this;simp at this;rw[this]at ha;simp at ha
 have BT:=wm (Aw L) hL0 (by rw[B0]; exact hl) (by rw[List.all_eq_true]; intro r hr; obtain⟨q,_,rfl⟩:=mM.1 hr; rfl) (J9 L)
 rw[B0]at BT;have hsh:=qJ L (P.1.g+1) 0 1 hl hr (by omega)
 have hgP:(Aw L)[a]? = some (Da P):=by unfold Aw; rw[gM,hP]; rfl
 have hPr:=hr P (List.mem_of_getElem? hP);have hLc:∀ q,Z3 q (Aw L)=Aw L:=fun q=>Y1 q _ (J9 _)
 have hLl:=B0 L;have hSc:∀ q,Z3 q (Aw (Bi (P.1.g+1) 0 1 L))=Aw (Bi (P.1.g+1) 0 1 L):=fun q=>Y1 q _ (J9 _)
 have hSl:(Aw (Bi (P.1.g+1) 0 1 L)).length=L.length:=by simp[Aw,Bi]
 have hTc:∀ q,Z3 q (Aw (L5 L a P))=Aw (L5 L a P):=fun q=>Y1 q _ (J9 _)
 have hCc:∀ q,Z3 q (Z1 C)=Z1 C:=fun q=>Y1 q _ (W8 _)
 have hCl:(Z1 C).length=mn:=by rw[O4,hmn]
 obtain⟨hgPl,hgP2⟩:=Y8 hgP;have hgS:(Aw (Bi (P.1.g+1) 0 1 L))[a]? = some (Da P):=by
  unfold Aw Bi;rw[gM,gM,hP];have:Ln (P.1.g+1) 0 1 P.1=P.1:=iN fun e=>by omega
  simp only[Option.map_some,this]
 obtain⟨hgSl,hgS2⟩:=Y8 hgS;have hset:Aw (L5 L a P)=(Aw (Bi (P.1.g+1) 0 1 L)).set a (Da ({ P.1 with g:=P.1.g+1,r:=1 },P.2)):=by
  unfold L5 Aw;rw[List.map_set]
 unfold CH Bc at *;unfold Da at hgP hgP2 hgS hgS2 hset;by_cases h1:P.1.k=1
 ·by_cases h2:P.1.g<k
  ·obtain⟨g0,g1,g2⟩:=hg h1 h2;obtain⟨gn,hgn⟩:∃ gn:Nat,P.1.g.toNat=gn:=⟨_,rfl⟩
   have hgi:P.1.g=(gn:Int):=by omega
   rw[hgn]at g1 hKn hKy;have hCg:(Z1 C)[gn]? = some [.int .i64 (C.getD gn 0)]:=by
    unfold Z1;rw[gM,List.getD,gE (by omega)]
    rfl
   obtain⟨hCgl,hCg2⟩:=Y8 hCg;generalize hcg:C.getD gn 0=c at *;have hwg:=Y7 (P.1.g+1);by_cases h3:P.1.r=c
   ·have hKy:=hKy ⟨h1,h2,h3⟩;rw[hset]at hKy hTc;clear hset;generalize Aw (Bi (P.1.g+1) 0 1 L)=S at *;simp[Bb,hLl,hgP,hgP2,ha,h1,hfr];refine Z6 BT [(1,2)] (by simp) (by simp[hLc]) (by simp) ?_
    rintro r sm ⟨rfl,rfl⟩;simp[hLc,hfr,Bb,g0,hgn,h2,h3,hCl,hCg,hCg2,g1,hwg,hCc];refine Z6 hsh [(1,28)] (by simp) (by simp[hLc]) (by simp) ?_
    rintro r sm ⟨rfl,rfl⟩;simp[hLc,hSc,hfr,Bb,g0,hgn,hSl,ha,hgS,hgS2,hCc,hwg];exact Z4 hKy [(5,28)] (by simp[hLc,hfr,hTc,hCc])
   ·have hKn:=hKn fun h=>h3 h.2.2
    simp[Bb,hLl,hgP,hgP2,ha,h1,hfr];refine Z6 BT [(1,2)] (by simp) (by simp[hLc]) (by simp) ?_
    rintro r sm ⟨rfl,rfl⟩;simp[hLc,hfr,Bb,g0,hgn,h2,h3,hCl,hCg,hCg2,g1,hCc];exact Z4 hKn [] (by simp[hLc,hfr,hCc])
  ·have hKn:=hKn fun h=>h2 h.2.1
   simp[Bb,hLl,hgP,hgP2,ha,h1,hfr];refine Z6 BT [(1,2)] (by simp) (by simp[hLc]) (by simp) ?_
   rintro r sm ⟨rfl,rfl⟩;simp[hLc,hfr,Bb,h2,hCc];exact Z4 hKn [] (by simp[hLc,hfr,hCc])
 ·have hKn:=hKn fun h=>h1 h.1
  simp[Bb,hLl,hgP,hgP2,ha,h1,hfr];exact Z4 hKn [] (by simp[hLc,hfr,hCc])
end Go.Ac
end
section
namespace Go.Ac
open Go Go.AE Go.Proofs
open Go.Plain
set_option maxRecDepth 100000 in
set_option maxHeartbeats 8000000 in
theorem wG(kd:Int)(hkd:kd=1∨kd=9)(k:Int)(n:Nat)(fv:Aa)(Bb:fv.one=true)(hfr:∀ q,fv.AI q=fv)(l p x m:Int)(ln mn:Nat)(e:Int) :
 AV Tryz.prog 99 [.ptr 1 0 0,.agg (Bc kd e)] ⟨[(1,CH k n fv l p x m ln mn)],5⟩ fun r M=>r=.bool (decide (0≤e)&&decide (e<n))∧M=⟨[(1,CH k n fv l p x m ln mn)],5⟩:=by
 refine W9 hm Tryz.func99 sX rfl rfl fun K hK=>?_
 have hKv:=hK _ _ ⟨rfl,rfl⟩;clear hK;have his:=cIs n e;unfold CH Bc at *;generalize hb:(decide (0≤e)&&decide (e<(n:Int)))=b at *;rcases hkd with rfl|rfl
 ·cases b with
  | true=>
   simp (config:={maxSteps:=400000}) [Bb];refine Z6 his [(1,12)] (by simp) (by simp) (by simp) ?_
   rintro r sm ⟨rfl,rfl⟩;simp (config:={maxSteps:=400000});exact Z4 hKv [] (by simp[hfr])
  | false=>
   simp (config:={maxSteps:=400000}) [Bb];refine Z6 his [(1,12)] (by simp) (by simp) (by simp) ?_
   rintro r sm ⟨rfl,rfl⟩;simp (config:={maxSteps:=400000});exact Z4 hKv [] (by simp[hfr])
 ·cases b with
  | true=>
   simp (config:={maxSteps:=400000}) [Bb];refine Z6 his [(1,12)] (by simp) (by simp) (by simp) ?_
   rintro r sm ⟨rfl,rfl⟩;simp (config:={maxSteps:=400000});exact Z4 hKv [] (by simp[hfr])
  | false=>
   simp (config:={maxSteps:=400000}) [Bb];refine Z6 his [(1,12)] (by simp) (by simp) (by simp) ?_
   rintro r sm ⟨rfl,rfl⟩;simp (config:={maxSteps:=400000});exact Z4 hKv [] (by simp[hfr])
end Go.Ac
end
