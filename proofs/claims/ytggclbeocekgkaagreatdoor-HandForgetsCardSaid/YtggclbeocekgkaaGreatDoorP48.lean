/- Part 48 of the proof: Fna, Fnb, Fnc, Fnd, Fne. -/
import Derived.Test.YtggclbeocekgkaaGreatDoorP40
import Derived.Test.YtggclbeocekgkaaGreatDoorP47
set_option linter.all false
section
namespace Go.Ac
open Go Go.AE Go.Proofs
open Go.Plain
def Bd(b:Nat)(rg:List (List Aa))(re lo F:Int)(rows M:List (List Aa))(e:Int):Ai:=.cells 7 [[.Aj rg,.int .i64 re,.int .i64 lo,.int .i64 F,.Aj rows,AQ b M,.int .i64 e]]
def B7(g r:Int)(l:Lt):Bool:=decide (l.k=1)&&(decide (l.g=g)&&decide (l.r=r))
def AX(ls:List Lt)(g r:Int):Int:=if ls.findIdx (B7 g r)<ls.length then (ls.findIdx (B7 g r):Nat)else -1
theorem xw{ls:List Lt}{g r:Int}{n:Nat}(h:AX ls g r=n):n<ls.length∧(at' ls n).k=1∧(at' ls n).g=g∧(at' ls n).r=r:=by
 unfold AX at h;split at h
 ·rename_i hc;obtain rfl:ls.findIdx (B7 g r)=n:=by omega
  have:=List.findIdx_getElem (w:=hc);unfold B7 at this;rw[at',List.getD,gE hc];simp at this;exact⟨hc,this⟩
 ·omega
set_option maxRecDepth 100000 in
theorem Z5h(g r:Int)(l:Lt):AV Tryz.prog 296 [.agg (Ab l),.ptr 1 0 0,.ptr 2 0 0] ⟨[(1,.cells 1 [[.int .i64 g]]),(2,.cells 1 [[.int .i64 r]])],3⟩ fun v m=>v=.bool (B7 g r l)∧m=⟨[(1,.cells 1 [[.int .i64 g]]),(2,.cells 1 [[.int .i64 r]])],3⟩:=by
 refine W9 hm Tryz.func296 qH rfl rfl fun K hK=>?_
 have hKv:=hK _ _ ⟨rfl,rfl⟩;clear hK;have hp:=IL l;have hv:B7 g r l=(decide (l.k=1)&&(decide (l.g=g)&&decide (l.r=r))):=rfl;unfold Ab at *;by_cases h1:l.k=1
 ·rw[decide_eq_true h1]at hp hv;by_cases h2:l.g=g
  ·rw[decide_eq_true h2]at hv;by_cases h3:l.r=r
   ·rw[decide_eq_true h3]at hv;rw[hv]at hKv;simp;refine Y5 hp ?_;simp[h2,h3];exact Z4 hKv [] (by simp)
   ·rw[decide_eq_false h3]at hv;rw[hv]at hKv;simp;refine Y5 hp ?_;simp[h2,h3];exact Z4 hKv [] (by simp)
  ·rw[decide_eq_false h2]at hv;rw[hv]at hKv;simp;refine Y5 hp ?_;simp[h2];exact Z4 hKv [] (by simp)
 ·rw[decide_eq_false h1]at hp hv;rw[hv]at hKv;simp;refine Y5 hp ?_;simp;exact Z4 hKv [] (by simp)
set_option maxRecDepth 100000 in
set_option maxHeartbeats 4000000 in
theorem Z31(g r:Int)(ls:List Lt)(hl:ls.length≤1000):AV Tryz.prog 273 [.Aj (ls.map Ab),.func (.func 296) [] [.ptr 1 0 0,.ptr 2 0 0]] ⟨[(1,.cells 1 [[.int .i64 g]]),(2,.cells 1 [[.int .i64 r]])],3⟩ fun v m=>
 v=.int .i64 (AX ls g r)∧m=⟨[(1,.cells 1 [[.int .i64 g]]),(2,.cells 1 [[.int .i64 r]])],3⟩:=by
 refine W9 hm Tryz.func273 YY rfl rfl fun K hK=>?_
 have hKy:∀ i (h:i<ls.length),B7 g r ls[i]=true→(∀ j,(hj:j<i)→B7 g r ls[j]=false)→K (.int .i64 i) ⟨[(1,.cells 1 [[.int .i64 g]]),(2,.cells 1 [[.int .i64 r]])],3⟩:=fun i h h1 h2=>hK _ _ ⟨by
  have e:ls.findIdx (B7 g r)=i:=(List.findIdx_eq h).2 ⟨h1,fun j hj=>h2 j hj⟩
  unfold AX;rw[e,iP h],rfl⟩
 have hKn:(∀ j,(hj:j<ls.length)→B7 g r ls[j]=false)→K (.int .i64 (-1)) ⟨[(1,.cells 1 [[.int .i64 g]]),(2,.cells 1 [[.int .i64 r]])],3⟩:=fun h=>hK _ _ ⟨by
  have e:¬ls.findIdx (B7 g r)<ls.length:=fun hc=>by
   have:=List.findIdx_getElem (w:=hc);rw[h _ hc]at this;cases this
  unfold AX;rw[iN e],rfl⟩
 clear hK;have hLc:∀ q,Z3 q (ls.map Ab)=ls.map Ab:=fun q=>Y1 q _ (X5 ls)
 have hLl:(ls.map Ab).length=ls.length:=lM ..;have hLg:=fun i (hi:i<ls.length)=>(show (ls.map Ab)[i]? = some (Ab ls[i]) by rw[gM,gE hi]; rfl)
 generalize ls.map Ab=R at *;simp;refine W5 (α:=Nat) (fun i=>[(8,.int .i64 i),(7,.int .i64 ls.length),(1,.func (.func 296) [] [.ptr 1 0 0,.ptr 2 0 0]),(0,.Aj R)]) (fun i=>⟨[(1,.cells 1 [[.int .i64 g]]),(2,.cells 1 [[.int .i64 r]])],3⟩) (fun i=>ls.length - i) (fun i=>i≤ls.length ∧ ∀ j,(hj:j<ls.length)→j<i→B7 g r ls[j]=false) 0 [] (by simp[hLc,hLl]) (by simp) ?_
 rintro i ⟨hi,hno⟩ N hN
 try simp only at hi hN ⊢
 by_cases hlt:i<ls.length
 ·have hg:=hLg i hlt;obtain⟨hgl,hg2⟩:=Y8 hg;have hw:=Y7 ((i:Int)+1);have hc:=Z5h g r ls[i];unfold Ab at *;cases hd:B7 g r ls[i]with
  | true=>
   rw[hd]at hc;have hKy:=hKy i hlt hd fun j hj=>hno j (by omega) hj
   simp[hlt,hLl,hg,hg2];refine Z6 hc [(1,1),(2,2)] (by simp) (by simp) (by simp) ?_
   rintro r sm ⟨rfl,rfl⟩;simp;exact Z4 hKy [] (by simp[hLc])
  | false=>
   rw[hd]at hc;simp[hlt,hLl,hg,hg2];refine Z6 hc [(1,1),(2,2)] (by simp) (by simp) (by simp) ?_
   rintro r sm ⟨rfl,rfl⟩;simp[hw];refine hN (i+1) [] _ _ (by omega) ⟨by omega,fun j hj hji=>?_⟩ (by simp[hLc])
   by_cases e:j=i
   ·subst e; exact hd
   ·exact hno j hj (by omega)
 ·obtain rfl:i=ls.length:=by omega
  have hKn:=hKn fun j hj=>hno j hj hj
  simp;exact Z4 hKn [] (by simp[hLc])
set_option maxRecDepth 100000 in
set_option maxHeartbeats 4000000 in
theorem EP(rg:List (List Aa))(Ap:∀ q,Z3 q rg=rg)(re lo F:Int)(ls:List Lt)(hl:ls.length≤1000)(M:List (List Aa))(e g r:Int) :
 AV Tryz.prog 246 [.ptr 1 0 0,.int .i64 g,.int .i64 r] ⟨[(1,Bd 2 rg re lo F (ls.map Ab) M e)],3⟩ fun v m=>v=.int .i64 (AX ls g r)∧m=⟨[(1,Bd 2 rg re lo F (ls.map Ab) M e)],3⟩:=by
 refine W9 hm Tryz.func246 vC rfl rfl fun K hK=>?_
 have hKv:=hK _ _ ⟨rfl,rfl⟩;clear hK;have hc:=Z31 g r ls hl;have hLc:∀ q,Z3 q (ls.map Ab)=ls.map Ab:=fun q=>Y1 q _ (X5 ls)
 generalize ls.map Ab=R at *;unfold Bd at *;have ho:(AQ 2 M).one=true:=by unfold AQ; split<;>rfl
 simp[ho];refine Z6 hc [(1,3),(2,4)] (by simp[hLc]) (by simp) (by simp) ?_
 rintro r sm ⟨rfl,rfl⟩;simp;exact Z4 hKv [] (by simp[hLc,Ap])
theorem Z7z(g:Int):Ay g []=0:=rfl
theorem Wf(g:Int)(ls:List Lt)(l:Lt):Ay g (ls++[l])=Ay g ls+if Am l=true∧l.g=g then 1 else 0:=by
 unfold Ay Z9;rw[List.filter_append,lA]
 congr 1
 by_cases h:Am l=true∧l.g=g
 ·rw[iP h]; simp[h.1,h.2]
 ·rw[iN h];have:(Am l&&l.g == g)=false:=by
   cases h1:Am l with
   | false=>rfl
   | true=>
    have:¬l.g=g:=fun e=>h ⟨h1,e⟩
    simp[this]
  simp[this]
set_option maxRecDepth 100000 in
set_option maxHeartbeats 4000000 in
theorem MU(rg:List (List Aa))(Ap:∀ q,Z3 q rg=rg)(re lo F:Int)(ls:List Lt)(hl:ls.length≤1000)(M:List (List Aa))(hM:∀ q,Z3 q M=M)(e g:Int) :
 AV Tryz.prog 247 [.ptr 1 0 0,.int .i64 g] ⟨[(1,Bd 2 rg re lo F (ls.map Ab) M e)],3⟩ fun v m=>v=.int .i64 (Ay g ls:Nat)∧m=⟨[(1,Bd 2 rg re lo F (ls.map Ab) M e)],3⟩:=by
 refine W9 hm Tryz.func247 uM rfl rfl fun K hK=>?_
 have hKv:=hK _ _ ⟨rfl,rfl⟩;clear hK;have hLc:∀ q,Z3 q (ls.map Ab)=ls.map Ab:=fun q=>Y1 q _ (X5 ls)
 have hlen:(ls.map Ab).length=ls.length:=lM ..;have hg:=fun i hi=>Lu ls (i:=i) hi
 have h151:=IL;have ho:(AQ 2 M).one=true:=by unfold AQ; split<;>rfl
 generalize ls.map Ab=R at *;unfold Bd at *;simp[ho];refine W5 (α:=Nat) (fun i=>[(14,.int .i64 i),(13,.int .i64 ls.length),(12,.Aj R),(5,.int .i64 (Ay g (ls.take i):Nat)),(1,.int .i64 g)]) (fun i=>⟨[(1,.cells 7 [[.Aj rg,.int .i64 re,.int .i64 lo,.int .i64 F,.Aj R,AQ 2 M,.int .i64 e]])],3⟩) (fun i=>ls.length - i) (fun i=>i≤ls.length) 0 [] (by simp[hLc,hlen,Ap,Z7z]) (by simp) ?_
 rintro i hi N hN
 try simp only at hi hN ⊢
 by_cases hlt:i<ls.length
 ·have hgi:=hg i hlt;obtain⟨hgl,hg2⟩:=Y8 hgi;have hw:=Y7 ((i:Int)+1);have hN':=hN (i+1);have hp:=h151 (at' ls i);have htk:ls.take (i+1)=ls.take i++[at' ls i]:=by
   rw[List.take_add_one,gE hlt,at',List.getD,gE hlt];rfl
  have hin:Ay g (ls.take i)≤1000:=by
   have h1:Ay g (ls.take i)≤(ls.take i).length:=B3;have h2:=List.length_take_le i ls;omega
  rw[htk,Wf]at hN';generalize Ay g (ls.take i)=c at *;have hwc:=Y7 ((c:Int)+1);unfold Ab at *;by_cases hk:(at' ls i).k=1
  ·have hpp:Am (at' ls i)=true:=by simp[Am,hk]
   rw[decide_eq_true hk]at hp;by_cases hgg:(at' ls i).g=g
   ·rw[iP ⟨hpp,hgg⟩]at hN';simp[hlt,hlen,hgi,hg2];refine Y5 hp ?_;simp[hw,hwc,hgg];exact hN' [] _ _ (by omega) (by omega) (by simp +contextual [hLc,hlen,Ap])
   ·rw[iN fun h=>hgg h.2]at hN'
    simp[hlt,hlen,hgi,hg2];refine Y5 hp ?_;simp[hw,hgg];exact hN' [] _ _ (by omega) (by omega) (by simp +contextual [hLc,hlen,Ap])
  ·have hpp:Am (at' ls i)=false:=by simp[Am,hk]
   rw[decide_eq_false hk]at hp;rw[iN fun h=>by rw[hpp]at h; cases h.1]at hN'
   simp[hlt,hlen,hgi,hg2];refine Y5 hp ?_;simp[hw];exact hN' [] _ _ (by omega) (by omega) (by simp +contextual [hLc,hlen,Ap])
 ·obtain rfl:i=ls.length:=by omega
  rw[List.take_length]at *;simp;exact Z4 hKv [] (by simp[hLc,Ap])
end Go.Ac
end
section
namespace Go.Ac
open Go Go.AE Go.Proofs
open Go.Plain
set_option maxRecDepth 100000 in
set_option maxHeartbeats 4000000 in
theorem Zza(F:Int)(ls:List Lt)(hl:ls.length≤1000)(a:Nat)(ha:a≤ls.length):Al Tryz.prog 167 [cV F ls,.int .i64 a] (.bool (Z8 ls a)):=by
 refine R2 hm Tryz.func167 Ur rfl rfl (by simp[X8,X5,Aa.closed]) trivial fun K hK=>?_
 have hLc:∀ q,Z3 q (ls.map Ab)=ls.map Ab:=fun q=>Y1 q _ (X5 ls)
 have hlen:(ls.map Ab).length=ls.length:=lM ..;have hg:=fun i hi=>Lu ls (i:=i) hi
 have h151:=IL;unfold cV at *;have h6:∀ x,x∈ls.map Ab→x.length=6:=fun x hx=>by
  obtain⟨l,_,rfl⟩:=mM.1 hx;rfl
 obtain⟨T,hT⟩:∃ T,(ls.map Ab).take a=T:=⟨_,rfl⟩
 have hTl:T.length=a:=by rw[← hT,lK,hlen]; omega
 have hTc:∀ q,Z3 q T=T:=fun q=>by
  rw[← hT,← List.map_take];exact Y1 q _ (X5 _)
 have hga:∀ i,i<a→T[i]? = some (Ab (at' ls i)):=fun i hi=>by
  rw[← hT,List.getElem?_take,iP hi];exact hg i (by omega)
 generalize ls.map Ab=R at *;have gH:Z8 ls 0=true:=rfl;have hif:(if ∀ x,x∈R→x.length=6 then some (Aa.Aj (List.take a R),([]:List (Nat×Option Ai)))else none)=some (Aa.Aj T,[]):=by rw[iP h6,hT]
 simp[hlen,ha,hif,hTl];refine W5 (α:=Nat) (fun i=>[(13,.int .i64 i),(12,.int .i64 a),(11,.Aj T),(5,.bool (Z8 ls i))]) (fun i=>⟨[],2⟩) (fun i=>a - i) (fun i=>i≤a) 0 [] (by simp[hTc,gH]) (by simp) ?_
 rintro i hi N hN
 try simp only at hi hN ⊢
 by_cases hlt:i<a
 ·have hgi:=hga i hlt;obtain⟨hgl,hg2⟩:=Y8 hgi;have hw:=Y7 ((i:Int)+1);have hN':=hN (i+1);have hp:=h151 (at' ls i);rw[Tj (by omega)]at hN'
  unfold Ab at *;by_cases hk:(at' ls i).k=1
  ·have hpp:Am (at' ls i)=true:=by simp[Am,hk]
   rw[decide_eq_true hk]at hp;rw[iP hpp]at hN';simp[hlt,hTl,hgi,hg2];refine Y5 hp ?_;simp[hw];exact hN' [] _ _ (by omega) (by omega) (by simp +contextual [hTc])
  ·have hpp:Am (at' ls i)=false:=by simp[Am,hk]
   rw[decide_eq_false hk]at hp;rw[iN fun h=>by rw[hpp]at h; cases h]at hN'
   simp[hlt,hTl,hgi,hg2];refine Y5 hp ?_;simp[hw];exact hN' [] _ _ (by omega) (by omega) (by simp +contextual [hTc])
 ·obtain rfl:i=a:=by omega
  simp;exact Z4 hK [] (by simp)
theorem GI(ls:List Lt)(g r:Int) : -1≤AX ls g r∧AX ls g r<ls.length:=by
 unfold AX;split<;>omega
def G6(ls:List Lt)(a b:Int):Int:=
 if a<0∨b<0 then -1 else if (a.toNat+1) % ls.length=b.toNat∧(2<ls.length∨Z8 ls a.toNat=true)then a else if (b.toNat+1) % ls.length=a.toNat then b else -1
set_option maxRecDepth 100000 in
set_option maxHeartbeats 4000000 in
theorem Rn(rg:List (List Aa))(Ap:∀ q,Z3 q rg=rg)(re lo F:Int)(ls:List Lt)(hl:ls.length≤400)(h0:ls≠[])(M:List (List Aa))(e a b:Int)(ha : -1≤a∧a<ls.length)(hb : -1≤b∧b<ls.length) :
 AV Tryz.prog 248 [.ptr 1 0 0,.int .i64 a,.int .i64 b] ⟨[(1,Bd 2 rg re lo F (ls.map Ab) M e)],3⟩ fun v m=>v=.int .i64 (G6 ls a b)∧m=⟨[(1,Bd 2 rg re lo F (ls.map Ab) M e)],3⟩:=by
 refine W9 hm Tryz.func248 xX rfl rfl fun K hK=>?_
 have hKv:=hK _ _ ⟨rfl,rfl⟩;clear hK;have hpos:0<ls.length:=List.length_pos_iff.2 h0;have hLc:∀ q,Z3 q (ls.map Ab)=ls.map Ab:=fun q=>Y1 q _ (X5 ls)
 have hlen:(ls.map Ab).length=ls.length:=lM ..;have ho:(AQ 2 M).one=true:=by unfold AQ; split<;>rfl
 have hgd:=fun a ha=>Zza F ls (by omega) a ha
 obtain⟨J,hJ⟩:∃ J,G6 ls a b=J:=⟨_,rfl⟩
 rw[hJ]at hKv;unfold G6 at hJ;unfold cV Bd at *;generalize ls.map Ab=R at *;have hl0:¬(ls.length:Int)=0:=by omega
 have hl1:¬ls.length=0:=by omega
 have hl2:¬ls=[]:=h0;by_cases hna:a<0
 ·rw[iP (.inl hna)]at hJ;subst hJ;simp[ho,hlen,hna];exact Z4 hKv [] (by simp[hLc,Ap])
 ·by_cases hnb:b<0
  ·rw[iP (.inr hnb)]at hJ;subst hJ;simp[ho,hlen,hna,hnb];exact Z4 hKv [] (by simp[hLc,Ap])
  ·rw[iN (by omega)]at hJ
   obtain⟨A,rfl⟩:∃ A:Nat,a=A:=⟨a.toNat,by omega⟩
   obtain⟨B,rfl⟩:∃ B:Nat,b=B:=⟨b.toNat,by omega⟩
   rw[Int.toNat_natCast,Int.toNat_natCast]at hJ;have hwa:=Y7 ((A:Int)+1);have hwb:=Y7 ((B:Int)+1);have hgA:=hgd A (by omega)
   obtain⟨y,hy⟩:∃ y:Nat,(A+1) % ls.length=y:=⟨_,rfl⟩
   have hy3:((A:Int)+1).tmod (ls.length:Int)=(y:Int):=by rw[← hy]; rfl
   obtain⟨z,hz⟩:∃ z:Nat,(B+1) % ls.length=z:=⟨_,rfl⟩
   have hz3:((B:Int)+1).tmod (ls.length:Int)=(z:Int):=by rw[← hz]; rfl
   have hyl:y<ls.length:=by rw[← hy]; exact Nat.mod_lt _ hpos
   have hzl:z<ls.length:=by rw[← hz]; exact Nat.mod_lt _ hpos
   have hwy:IntKind.i64.wrap (y:Int)=y:=G8 (by omega) (by omega)
   have hwz:IntKind.i64.wrap (z:Int)=z:=G8 (by omega) (by omega)
   rw[hy,hz]at hJ;by_cases h1:y=B
   ·by_cases h2:2<ls.length
    ·rw[iP ⟨h1,.inl h2⟩]at hJ;subst hJ;have h2':(2:Int)<(ls.length:Int):=by omega
     simp[h2',ho,hlen,hna,hnb,hwa,hwb,hy3,hz3,hl0,hl1,hl2,h1,h2,hwy,hwz];exact Z4 hKv [] (by simp[hLc,Ap])
    ·have h2':¬(2:Int)<(ls.length:Int):=by omega
     cases h3:Z8 ls A with
     | true=>
      rw[iP ⟨h1,.inr h3⟩]at hJ;rw[h3]at hgA;subst hJ;simp[ho,hlen,hna,hnb,hwa,hwb,hy3,hz3,hl0,hl1,hl2,h1,h2,h2',hwy,hwz];refine Y5 hgA ?_;simp[ho,hlen,hna,hnb,hwa,hwb,hy3,hz3,hl0,hl1,hl2,h1,h2,h2',hwy,hwz];exact Z4 hKv [] (by simp[hLc,Ap])
     | false=>
      rw[iN (by rw[h3]; simp; omega)]at hJ
      rw[h3]at hgA;by_cases h4:z=A
      ·rw[iP h4]at hJ;subst hJ;simp[ho,hlen,hna,hnb,hwa,hwb,hy3,hz3,hl0,hl1,hl2,h1,h2,h2',hwy,hwz];refine Y5 hgA ?_;simp[ho,hlen,hna,hnb,hwa,hwb,hy3,hz3,hl0,hl1,hl2,h1,h2,h2',hwy,hwz,h4];exact Z4 hKv [] (by simp[hLc,Ap])
      ·rw[iN h4]at hJ;subst hJ;have h4':¬(z:Int)=(A:Int):=by omega
       simp[ho,hlen,hna,hnb,hwa,hwb,hy3,hz3,hl0,hl1,hl2,h1,h2,h2',hwy,hwz];refine Y5 hgA ?_;simp[ho,hlen,hna,hnb,hwa,hwb,hy3,hz3,hl0,hl1,hl2,h1,h2,h2',hwy,hwz,h4,h4'];exact Z4 hKv [] (by simp[hLc,Ap])
   ·rw[iN fun h=>h1 h.1]at hJ
    have h1':¬(y:Int)=(B:Int):=by omega
    by_cases h4:z=A
    ·rw[iP h4]at hJ;subst hJ;simp[ho,hlen,hna,hnb,hwa,hwb,hy3,hz3,hl0,hl1,hl2,h1,h1',hwy,hwz,h4];exact Z4 hKv [] (by simp[hLc,Ap])
    ·rw[iN h4]at hJ;subst hJ;have h4':¬(z:Int)=(A:Int):=by omega
     simp[h4',ho,hlen,hna,hnb,hwa,hwb,hy3,hz3,hl0,hl1,hl2,h1,h1',hwy,hwz,h4];exact Z4 hKv [] (by simp[hLc,Ap])
end Go.Ac
end
section
namespace Go.Ac
open Go Go.AE Go.Proofs
open Go.Plain
set_option maxRecDepth 100000 in
set_option maxHeartbeats 8000000 in
theorem Oi(rg:List (List Aa))(Ap:∀ q,Z3 q rg=rg)(re lo F:Int)(ls ls':List Lt)(M:List (List Aa))(hM:∀ q,Z3 q M=M)(hMl:M.length≤1000)(kd a:Int)
 (h:Al Tryz.prog 31 [cV F ls,.agg (Bc kd a)] (.tuple [cV F ls',.int .i64 0])) :
 AV Tryz.prog 245 [.ptr 1 0 0,.agg (Bc kd a)] ⟨(1,Bd 2 rg re lo F (ls.map Ab) M 0) :: AM 2 7 M [],3⟩ fun v m=>v=.tuple []∧m=⟨[(1,Bd 3 rg re lo F (ls'.map Ab) (M++[Bc kd a]) 0),(3,.cells 7 (M++[Bc kd a]))],4⟩:=by
 refine W9 hm Tryz.func245 WR rfl rfl fun K hK=>?_
 have hKv:=hK _ _ ⟨rfl,rfl⟩;clear hK;have hLc:∀ q,Z3 q (ls.map Ab)=ls.map Ab:=fun q=>Y1 q _ (X5 ls)
 have hLc':∀ q,Z3 q (ls'.map Ab)=ls'.map Ab:=fun q=>Y1 q _ (X5 ls')
 have ho:(AQ 2 M).one=true:=by unfold AQ; split<;>rfl
 unfold cV at *;generalize ls.map Ab=R at *;generalize ls'.map Ab=R' at *;have hM1:M.length≤1048575:=by omega
 have hM2:M.length<1048576:=by omega
 have hsn:AQ 3 (M++[Bc kd a])=.sl 3 0 (M.length+1):=sL _;unfold Bd at *;rw[hsn]at hKv;unfold Bc at *;simp[ho];refine Ow h ?_;simp[ho,hM1,hM2];exact Z4 hKv [(3,35)] (by simp +contextual [Ap,hLc',hM])
set_option maxRecDepth 100000 in
set_option maxHeartbeats 8000000 in
theorem SR(rg:List (List Aa))(Ap:∀ q,Z3 q rg=rg)(re lo F:Int)(ls:List Lt)(M:List (List Aa))(hM:∀ q,Z3 q M=M)(kd a e:Int)(he:e≠0)
 (h:Al Tryz.prog 31 [cV F ls,.agg (Bc kd a)] (.tuple [.agg [.int .i64 0,.Ae],.int .i64 e])) :
 AV Tryz.prog 245 [.ptr 1 0 0,.agg (Bc kd a)] ⟨(1,Bd 2 rg re lo F (ls.map Ab) M 0) :: AM 2 7 M [],3⟩ fun v m=>v=.tuple []∧m=⟨(1,Bd 2 rg re lo F (ls.map Ab) M e) :: AM 2 7 M [],3⟩:=by
 refine W9 hm Tryz.func245 WR rfl rfl fun K hK=>?_
 have hKv:=hK _ _ ⟨rfl,rfl⟩;clear hK;have hLc:∀ q,Z3 q (ls.map Ab)=ls.map Ab:=fun q=>Y1 q _ (X5 ls)
 have ho:(AQ 2 M).one=true:=by unfold AQ; split<;>rfl
 unfold cV at *;generalize ls.map Ab=R at *;unfold Bd at *;unfold Bc at *;simp[ho];refine Ow h ?_;simp[ho,he];exact Z4 hKv [] (by simp +contextual [Ap,hLc,hM])
set_option maxRecDepth 100000 in
set_option maxHeartbeats 8000000 in
theorem pF(rg:List (List Aa))(Ap:∀ q,Z3 q rg=rg)(re lo F:Int)(ls:List Lt)(M:List (List Aa))(hM:∀ q,Z3 q M=M)(kd a e:Int)(he:e≠0) :
 AV Tryz.prog 245 [.ptr 1 0 0,.agg (Bc kd a)] ⟨(1,Bd 2 rg re lo F (ls.map Ab) M e) :: AM 2 7 M [],3⟩ fun v m=>v=.tuple []∧m=⟨(1,Bd 2 rg re lo F (ls.map Ab) M e) :: AM 2 7 M [],3⟩:=by
 refine W9 hm Tryz.func245 WR rfl rfl fun K hK=>?_
 have hKv:=hK _ _ ⟨rfl,rfl⟩;clear hK;have hLc:∀ q,Z3 q (ls.map Ab)=ls.map Ab:=fun q=>Y1 q _ (X5 ls)
 have ho:(AQ 2 M).one=true:=by unfold AQ; split<;>rfl
 generalize ls.map Ab=R at *;unfold Bd at *;unfold Bc at *;simp[ho,he];exact Z4 hKv [] (by simp +contextual [Ap,hLc,hM])
end Go.Ac
end
section
namespace Go.Ac
open Go Go.AE Go.Proofs
open Go.Plain
def Bt(f:Int):List Aa:=[.int .i64 1,.int .i64 f,.int .i64 0,.int .i64 0,.bool false,.int .i64 0,.Ae,.bool false]
def ED(F:Int)(ls:List Lt)(f:Int)(b:Bool):Prop:=AV Tryz.prog 42 [cV F ls,.int .i64 f] ⟨[],1⟩ fun r m=>∃ L:List (List Aa),(b=decide (L=[]))∧(∀ q,Z3 q L=L)∧r=AQ 1 L∧m=⟨AM 1 2 L [],2⟩
theorem Nj(F:Int)(ls:List Lt)(h:ls.length≤1000):Al Tryz.prog 15 [cV F ls] (.int .i64 (Z0 ls:Nat)):=P8 F ls h
set_option maxRecDepth 100000 in
set_option maxHeartbeats 8000000 in
theorem rW(rg:List (List Aa))(Ap:∀ q,Z3 q rg=rg)(re lo F:Int)(ls:List Lt)(f:Int)(hlp:ED F ls f true) :
 AV Tryz.prog 174 [.ptr 1 0 0,.agg (Bt f)] ⟨[(1,Bd 2 rg re lo F (ls.map Ab) [] 0)],3⟩ fun v m=>v=.tuple []∧m=⟨[(1,Bd 2 rg re lo F (ls.map Ab) [] 8)],3⟩:=by
 refine W9 hm Tryz.func174 JH rfl rfl fun K hK=>?_
 have hKv:=hK _ _ ⟨rfl,rfl⟩;clear hK;have hLc:∀ q,Z3 q (ls.map Ab)=ls.map Ab:=fun q=>Y1 q _ (X5 ls)
 unfold ED cV at *;generalize ls.map Ab=R at *;unfold Bd Bt at *;simp;refine Z6 hlp [] (by simp[hLc]) (by simp) (by simp) ?_
 rintro r sm ⟨L,hL,hLL,rfl,rfl⟩;obtain rfl:L=[]:=by simpa using hL
 simp;exact Z4 hKv [] (by simp[Ap,hLc])
set_option maxRecDepth 100000 in
set_option maxHeartbeats 16000000 in
theorem Z0j(rg:List (List Aa))(Ap:∀ q,Z3 q rg=rg)(re lo F:Int)(ls:List Lt)(hl:ls.length≤400)(h0:ls≠[])(f:Int)(hf:1≤f∧f≤1000)(hlp:ED F ls f false)
 (e:Int) (he:e≠0) (h9:Al Tryz.prog 31 [cV F ls,.agg (Bc 9 (AX ls (f - 1) (Ay (f - 1) ls:Nat)))] (.tuple [.agg [.int .i64 0,.Ae],.int .i64 e]))
 (hy0:X0 ls / 2=0)
 :
 AV Tryz.prog 174 [.ptr 1 0 0,.agg (Bt f)] ⟨[(1,Bd 2 rg re lo F (ls.map Ab) [] 0)],3⟩ fun v m=>v=.tuple []∧m=⟨[(1,Bd 2 rg re lo F (ls.map Ab) [] e)],3⟩:=by
 refine W9 hm Tryz.func174 JH rfl rfl fun K hK=>?_
 have hKv:=hK _ _ ⟨rfl,rfl⟩;clear hK;have hLc:∀ q,Z3 q (ls.map Ab)=ls.map Ab:=fun q=>Y1 q _ (X5 ls)
 have wf:=Y7 (f - 1);have hmany:=MU rg Ap re lo F ls (by omega) [] (fun q=>rfl) 0 (f - 1)
 have hps:=EP rg Ap re lo F ls (by omega) [] 0 (f - 1) (Ay (f - 1) ls:Nat)
 have hap:=SR rg Ap re lo F ls [] (fun q=>rfl) 9 (AX ls (f - 1) (Ay (f - 1) ls:Nat)) e he h9
 have Cx:=LG F ls (by omega)
 have hpa:=Nj F ls (by omega)
 have hp1:=EP rg Ap re lo F ls (by omega) [] e f 1
 have hp2q:=EP rg Ap re lo F ls (by omega) [] e f 2
 have hjo:=Rn rg Ap re lo F ls hl h0 [] e (AX ls f 1) (AX ls f 2) (GI ls f 1) (GI ls f 2);have hap2:=pF rg Ap re lo F ls [] (fun q=>rfl) 1 (G6 ls (AX ls f 1) (AX ls f 2)) e he
 unfold ED cV at *;generalize Z0 ls=np at *;generalize X0 ls / 2=ny at *;have hLc1:=hLc;have hLc2:=hLc;generalize ls.map Ab=R at *;unfold Bd Bt Bc at *;simp;refine Z6 hlp [] (by simp[hLc]) (by simp) (by simp) ?_
 rintro r sm ⟨L,hL,hLL,rfl,rfl⟩;have hL:¬L=[]:=by simpa using hL
 have hLl:¬L.length=0:=fun e=>hL (List.length_eq_zero_iff.1 e)
 have hsl:∀ b,AQ b L=.sl b 0 L.length:=fun b=>N6 hL
 have Dd:∀ c k (r:List (Nat×Ai)),AM c k L r=(c,.cells k L) :: r:=fun c k r=>by unfold AM; rw[iN hL]
 rw[hsl,Dd];simp[hLL,hL,hLl,wf];refine Z6 hmany [] (by simp) (by simp[Ap,hLc]) (by simp) ?_
 rintro r sm ⟨rfl,rfl⟩;simp[Ap,hLc];refine Z6 hps [] (by simp) (by simp[Ap,hLc]) (by simp) ?_
 rintro r sm ⟨rfl,rfl⟩;simp[Ap,hLc];refine Z6 hap [] (by simp) (by simp[Ap,hLc]) (by simp) ?_
 rintro r sm ⟨rfl,rfl⟩;simp[Ap,hLc,hLc1];refine Y5 Cx ?_;simp[hy0];refine Z6 hp1 [] (by simp) (by simp[Ap,hLc1]) (by simp) ?_
 rintro r sm ⟨rfl,rfl⟩;simp[Ap,hLc1];refine Z6 hp2q [] (by simp) (by simp[Ap,hLc1]) (by simp) ?_
 rintro r sm ⟨rfl,rfl⟩;simp[Ap,hLc1];refine Z6 hjo [] (by simp) (by simp[Ap,hLc1]) (by simp) ?_
 rintro r sm ⟨rfl,rfl⟩;simp[Ap,hLc1];refine Z6 hap2 [] (by simp) (by simp[Ap,hLc1]) (by simp) ?_
 rintro r sm ⟨rfl,rfl⟩;simp[Ap,hLc1,hLc2];exact Z4 hKv [] (by simp[Ap,hLc])
set_option maxRecDepth 100000 in
set_option maxHeartbeats 16000000 in
theorem Z06(rg:List (List Aa))(Ap:∀ q,Z3 q rg=rg)(re lo F:Int)(ls:List Lt)(hl:ls.length≤400)(h0:ls≠[])(f:Int)(hf:1≤f∧f≤1000)(hlp:ED F ls f false)
 (e:Int) (he:e≠0) (h9:Al Tryz.prog 31 [cV F ls,.agg (Bc 9 (AX ls (f - 1) (Ay (f - 1) ls:Nat)))] (.tuple [.agg [.int .i64 0,.Ae],.int .i64 e]))
 (hy0:¬X0 ls / 2=0) (hp:2<Z0 ls)
 :
 AV Tryz.prog 174 [.ptr 1 0 0,.agg (Bt f)] ⟨[(1,Bd 2 rg re lo F (ls.map Ab) [] 0)],3⟩ fun v m=>v=.tuple []∧m=⟨[(1,Bd 2 rg re lo F (ls.map Ab) [] e)],3⟩:=by
 refine W9 hm Tryz.func174 JH rfl rfl fun K hK=>?_
 have hKv:=hK _ _ ⟨rfl,rfl⟩;clear hK;have hLc:∀ q,Z3 q (ls.map Ab)=ls.map Ab:=fun q=>Y1 q _ (X5 ls)
 have wf:=Y7 (f - 1);have hmany:=MU rg Ap re lo F ls (by omega) [] (fun q=>rfl) 0 (f - 1)
 have hps:=EP rg Ap re lo F ls (by omega) [] 0 (f - 1) (Ay (f - 1) ls:Nat)
 have hap:=SR rg Ap re lo F ls [] (fun q=>rfl) 9 (AX ls (f - 1) (Ay (f - 1) ls:Nat)) e he h9
 have Cx:=LG F ls (by omega)
 have hpa:=Nj F ls (by omega)
 have hp1:=EP rg Ap re lo F ls (by omega) [] e f 1
 have hp2q:=EP rg Ap re lo F ls (by omega) [] e f 2
 have hjo:=Rn rg Ap re lo F ls hl h0 [] e (AX ls f 1) (AX ls f 2) (GI ls f 1) (GI ls f 2);have hap2:=pF rg Ap re lo F ls [] (fun q=>rfl) 1 (G6 ls (AX ls f 1) (AX ls f 2)) e he
 have hp2':(2:Int)<(Z0 ls:Nat):=by omega
 have hp2:=hp;unfold ED cV at *;generalize Z0 ls=np at *;generalize X0 ls / 2=ny at *;have hLc1:=hLc;have hLc2:=hLc;generalize ls.map Ab=R at *;unfold Bd Bt Bc at *;simp;refine Z6 hlp [] (by simp[hLc]) (by simp) (by simp) ?_
 rintro r sm ⟨L,hL,hLL,rfl,rfl⟩;have hL:¬L=[]:=by simpa using hL
 have hLl:¬L.length=0:=fun e=>hL (List.length_eq_zero_iff.1 e)
 have hsl:∀ b,AQ b L=.sl b 0 L.length:=fun b=>N6 hL
 have Dd:∀ c k (r:List (Nat×Ai)),AM c k L r=(c,.cells k L) :: r:=fun c k r=>by unfold AM; rw[iN hL]
 rw[hsl,Dd];simp[hLL,hL,hLl,wf];refine Z6 hmany [] (by simp) (by simp[Ap,hLc]) (by simp) ?_
 rintro r sm ⟨rfl,rfl⟩;simp[Ap,hLc];refine Z6 hps [] (by simp) (by simp[Ap,hLc]) (by simp) ?_
 rintro r sm ⟨rfl,rfl⟩;simp[Ap,hLc];refine Z6 hap [] (by simp) (by simp[Ap,hLc]) (by simp) ?_
 rintro r sm ⟨rfl,rfl⟩;simp[Ap,hLc,hLc1];refine Y5 Cx ?_;simp[hy0];refine Y5 hpa ?_;simp[hy0,hp2,hp2'];refine Z6 hp1 [] (by simp) (by simp[Ap,hLc1]) (by simp) ?_
 rintro r sm ⟨rfl,rfl⟩;simp[Ap,hLc1];refine Z6 hp2q [] (by simp) (by simp[Ap,hLc1]) (by simp) ?_
 rintro r sm ⟨rfl,rfl⟩;simp[Ap,hLc1];refine Z6 hjo [] (by simp) (by simp[Ap,hLc1]) (by simp) ?_
 rintro r sm ⟨rfl,rfl⟩;simp[Ap,hLc1];refine Z6 hap2 [] (by simp) (by simp[Ap,hLc1]) (by simp) ?_
 rintro r sm ⟨rfl,rfl⟩;simp[Ap,hLc1,hLc2];exact Z4 hKv [] (by simp[Ap,hLc])
set_option maxRecDepth 100000 in
set_option maxHeartbeats 16000000 in
theorem zk(rg:List (List Aa))(Ap:∀ q,Z3 q rg=rg)(re lo F:Int)(ls:List Lt)(hl:ls.length≤400)(h0:ls≠[])(f:Int)(hf:1≤f∧f≤1000)(hlp:ED F ls f false)
 (e:Int) (he:e≠0) (h9:Al Tryz.prog 31 [cV F ls,.agg (Bc 9 (AX ls (f - 1) (Ay (f - 1) ls:Nat)))] (.tuple [.agg [.int .i64 0,.Ae],.int .i64 e]))
 (hy0:¬X0 ls / 2=0) (hp:¬2<Z0 ls)
 :
 AV Tryz.prog 174 [.ptr 1 0 0,.agg (Bt f)] ⟨[(1,Bd 2 rg re lo F (ls.map Ab) [] 0)],3⟩ fun v m=>v=.tuple []∧m=⟨[(1,Bd 2 rg re lo F (ls.map Ab) [] e)],3⟩:=by
 refine W9 hm Tryz.func174 JH rfl rfl fun K hK=>?_
 have hKv:=hK _ _ ⟨rfl,rfl⟩;clear hK;have hLc:∀ q,Z3 q (ls.map Ab)=ls.map Ab:=fun q=>Y1 q _ (X5 ls)
 have wf:=Y7 (f - 1);have hmany:=MU rg Ap re lo F ls (by omega) [] (fun q=>rfl) 0 (f - 1)
 have hps:=EP rg Ap re lo F ls (by omega) [] 0 (f - 1) (Ay (f - 1) ls:Nat)
 have hap:=SR rg Ap re lo F ls [] (fun q=>rfl) 9 (AX ls (f - 1) (Ay (f - 1) ls:Nat)) e he h9
 have Cx:=LG F ls (by omega)
 have hpa:=Nj F ls (by omega)
 have hp2':¬(2:Int)<(Z0 ls:Nat):=by omega
 have hp2:=hp;unfold ED cV at *;generalize Z0 ls=np at *;generalize X0 ls / 2=ny at *;have hLc1:=hLc;have hLc2:=hLc;generalize ls.map Ab=R at *;unfold Bd Bt Bc at *;simp;refine Z6 hlp [] (by simp[hLc]) (by simp) (by simp) ?_
 rintro r sm ⟨L,hL,hLL,rfl,rfl⟩;have hL:¬L=[]:=by simpa using hL
 have hLl:¬L.length=0:=fun e=>hL (List.length_eq_zero_iff.1 e)
 have hsl:∀ b,AQ b L=.sl b 0 L.length:=fun b=>N6 hL
 have Dd:∀ c k (r:List (Nat×Ai)),AM c k L r=(c,.cells k L) :: r:=fun c k r=>by unfold AM; rw[iN hL]
 rw[hsl,Dd];simp[hLL,hL,hLl,wf];refine Z6 hmany [] (by simp) (by simp[Ap,hLc]) (by simp) ?_
 rintro r sm ⟨rfl,rfl⟩;simp[Ap,hLc];refine Z6 hps [] (by simp) (by simp[Ap,hLc]) (by simp) ?_
 rintro r sm ⟨rfl,rfl⟩;simp[Ap,hLc];refine Z6 hap [] (by simp) (by simp[Ap,hLc]) (by simp) ?_
 rintro r sm ⟨rfl,rfl⟩;simp[Ap,hLc,hLc1];refine Y5 Cx ?_;simp[hy0];refine Y5 hpa ?_;simp[hy0,hp2,hp2'];exact Z4 hKv [] (by simp[Ap,hLc])
set_option maxRecDepth 100000 in
set_option maxHeartbeats 16000000 in
theorem Z50(rg:List (List Aa))(Ap:∀ q,Z3 q rg=rg)(re lo F:Int)(ls:List Lt)(hl:ls.length≤400)(h0:ls≠[])(f:Int)(hf:1≤f∧f≤1000)(hlp:ED F ls f false)
 (z:List Lt) (hz:z.length≤400) (Ey:z≠[]) (h9:Al Tryz.prog 31 [cV F ls,.agg (Bc 9 (AX ls (f - 1) (Ay (f - 1) ls:Nat)))] (.tuple [cV F z,.int .i64 0]))
 (hy0:X0 z / 2=0)
 (y:List Lt) (h1:Al Tryz.prog 31 [cV F z,.agg (Bc 1 (G6 z (AX z f 1) (AX z f 2)))] (.tuple [cV F y,.int .i64 0]))
 :
 AV Tryz.prog 174 [.ptr 1 0 0,.agg (Bt f)] ⟨[(1,Bd 2 rg re lo F (ls.map Ab) [] 0)],3⟩ fun v m=>v=.tuple []∧m=⟨[(1,Bd 3 rg re lo F (y.map Ab) ([Bc 9 (AX ls (f - 1) (Ay (f - 1) ls:Nat))]++[Bc 1 (G6 z (AX z f 1) (AX z f 2))]) 0),(3,.cells 7 ([Bc 9 (AX ls (f - 1) (Ay (f - 1) ls:Nat))]++[Bc 1 (G6 z (AX z f 1) (AX z f 2))]))],4⟩:=by
 refine W9 hm Tryz.func174 JH rfl rfl fun K hK=>?_
 have hKv:=hK _ _ ⟨rfl,rfl⟩;clear hK;have hLc:∀ q,Z3 q (ls.map Ab)=ls.map Ab:=fun q=>Y1 q _ (X5 ls)
 have wf:=Y7 (f - 1);have hmany:=MU rg Ap re lo F ls (by omega) [] (fun q=>rfl) 0 (f - 1)
 have hps:=EP rg Ap re lo F ls (by omega) [] 0 (f - 1) (Ay (f - 1) ls:Nat)
 have hap:=Oi rg Ap re lo F ls z [] (fun q=>rfl) (by simp) 9 (AX ls (f - 1) (Ay (f - 1) ls:Nat)) h9
 have hLc1:∀ q,Z3 q (z.map Ab)=z.map Ab:=fun q=>Y1 q _ (X5 z)
 have Cx:=LG F z (by omega)
 have hpa:=Nj F z (by omega)
 have hp1:=EP rg Ap re lo F z (by omega) [Bc 9 (AX ls (f - 1) (Ay (f - 1) ls:Nat))] 0 f 1
 have hp2q:=EP rg Ap re lo F z (by omega) [Bc 9 (AX ls (f - 1) (Ay (f - 1) ls:Nat))] 0 f 2
 have hjo:=Rn rg Ap re lo F z hz Ey [Bc 9 (AX ls (f - 1) (Ay (f - 1) ls:Nat))] 0 (AX z f 1) (AX z f 2) (GI z f 1) (GI z f 2);have hap2:=Oi rg Ap re lo F z y [Bc 9 (AX ls (f - 1) (Ay (f - 1) ls:Nat))] (fun q=>rfl) (by simp) 1 (G6 z (AX z f 1) (AX z f 2)) h1
 have hLc2:∀ q,Z3 q (y.map Ab)=y.map Ab:=fun q=>Y1 q _ (X5 y)
 unfold ED cV at *;generalize Z0 z=np at *;generalize X0 z / 2=ny at *;generalize ls.map Ab=R at *;generalize z.map Ab=Z at *;generalize y.map Ab=Y at *;unfold Bd Bt Bc at *;simp;refine Z6 hlp [] (by simp[hLc]) (by simp) (by simp) ?_
 rintro r sm ⟨L,hL,hLL,rfl,rfl⟩;have hL:¬L=[]:=by simpa using hL
 have hLl:¬L.length=0:=fun e=>hL (List.length_eq_zero_iff.1 e)
 have hsl:∀ b,AQ b L=.sl b 0 L.length:=fun b=>N6 hL
 have Dd:∀ c k (r:List (Nat×Ai)),AM c k L r=(c,.cells k L) :: r:=fun c k r=>by unfold AM; rw[iN hL]
 rw[hsl,Dd];simp[hLL,hL,hLl,wf];refine Z6 hmany [] (by simp) (by simp[Ap,hLc]) (by simp) ?_
 rintro r sm ⟨rfl,rfl⟩;simp[Ap,hLc];refine Z6 hps [] (by simp) (by simp[Ap,hLc]) (by simp) ?_
 rintro r sm ⟨rfl,rfl⟩;simp[Ap,hLc];refine Z6 hap [] (by simp) (by simp[Ap,hLc]) (by simp) ?_
 rintro r sm ⟨rfl,rfl⟩;simp[Ap,hLc,hLc1];refine Y5 Cx ?_;simp[hy0];refine Z6 hp1 [(2,27)] (by simp) (by simp[Ap,hLc1]) (by simp) ?_
 rintro r sm ⟨rfl,rfl⟩;simp[Ap,hLc1];refine Z6 hp2q [(2,27)] (by simp) (by simp[Ap,hLc1]) (by simp) ?_
 rintro r sm ⟨rfl,rfl⟩;simp[Ap,hLc1];refine Z6 hjo [(2,27)] (by simp) (by simp[Ap,hLc1]) (by simp) ?_
 rintro r sm ⟨rfl,rfl⟩;simp[Ap,hLc1];refine Z6 hap2 [(2,27)] (by simp) (by simp[Ap,hLc1]) (by simp) ?_
 rintro r sm ⟨rfl,rfl⟩;simp[Ap,hLc1,hLc2];exact Z4 hKv [(3,53)] (by simp +contextual [Ap,hLc1,hLc2])
set_option maxRecDepth 100000 in
set_option maxHeartbeats 16000000 in
theorem ud(rg:List (List Aa))(Ap:∀ q,Z3 q rg=rg)(re lo F:Int)(ls:List Lt)(hl:ls.length≤400)(h0:ls≠[])(f:Int)(hf:1≤f∧f≤1000)(hlp:ED F ls f false)
 (z:List Lt) (hz:z.length≤400) (Ey:z≠[]) (h9:Al Tryz.prog 31 [cV F ls,.agg (Bc 9 (AX ls (f - 1) (Ay (f - 1) ls:Nat)))] (.tuple [cV F z,.int .i64 0]))
 (hy0:X0 z / 2=0)
 (e:Int) (he:e≠0) (h1:Al Tryz.prog 31 [cV F z,.agg (Bc 1 (G6 z (AX z f 1) (AX z f 2)))] (.tuple [.agg [.int .i64 0,.Ae],.int .i64 e]))
 :
 AV Tryz.prog 174 [.ptr 1 0 0,.agg (Bt f)] ⟨[(1,Bd 2 rg re lo F (ls.map Ab) [] 0)],3⟩ fun v m=>v=.tuple []∧m=⟨[(1,Bd 3 rg re lo F (z.map Ab) [Bc 9 (AX ls (f - 1) (Ay (f - 1) ls:Nat))] e),(3,.cells 7 [Bc 9 (AX ls (f - 1) (Ay (f - 1) ls:Nat))])],4⟩:=by
 refine W9 hm Tryz.func174 JH rfl rfl fun K hK=>?_
 have hKv:=hK _ _ ⟨rfl,rfl⟩;clear hK;have hLc:∀ q,Z3 q (ls.map Ab)=ls.map Ab:=fun q=>Y1 q _ (X5 ls)
 have wf:=Y7 (f - 1);have hmany:=MU rg Ap re lo F ls (by omega) [] (fun q=>rfl) 0 (f - 1)
 have hps:=EP rg Ap re lo F ls (by omega) [] 0 (f - 1) (Ay (f - 1) ls:Nat)
 have hap:=Oi rg Ap re lo F ls z [] (fun q=>rfl) (by simp) 9 (AX ls (f - 1) (Ay (f - 1) ls:Nat)) h9
 have hLc1:∀ q,Z3 q (z.map Ab)=z.map Ab:=fun q=>Y1 q _ (X5 z)
 have Cx:=LG F z (by omega)
 have hpa:=Nj F z (by omega)
 have hp1:=EP rg Ap re lo F z (by omega) [Bc 9 (AX ls (f - 1) (Ay (f - 1) ls:Nat))] 0 f 1
 have hp2q:=EP rg Ap re lo F z (by omega) [Bc 9 (AX ls (f - 1) (Ay (f - 1) ls:Nat))] 0 f 2
 have hjo:=Rn rg Ap re lo F z hz Ey [Bc 9 (AX ls (f - 1) (Ay (f - 1) ls:Nat))] 0 (AX z f 1) (AX z f 2) (GI z f 1) (GI z f 2);have hap2:=SR rg Ap re lo F z [Bc 9 (AX ls (f - 1) (Ay (f - 1) ls:Nat))] (fun q=>rfl) 1 (G6 z (AX z f 1) (AX z f 2)) e he h1
 have hLc2:=hLc1;unfold ED cV at *;generalize Z0 z=np at *;generalize X0 z / 2=ny at *;generalize ls.map Ab=R at *;generalize z.map Ab=Z at *;unfold Bd Bt Bc at *;simp;refine Z6 hlp [] (by simp[hLc]) (by simp) (by simp) ?_
 rintro r sm ⟨L,hL,hLL,rfl,rfl⟩;have hL:¬L=[]:=by simpa using hL
 have hLl:¬L.length=0:=fun e=>hL (List.length_eq_zero_iff.1 e)
 have hsl:∀ b,AQ b L=.sl b 0 L.length:=fun b=>N6 hL
 have Dd:∀ c k (r:List (Nat×Ai)),AM c k L r=(c,.cells k L) :: r:=fun c k r=>by unfold AM; rw[iN hL]
 rw[hsl,Dd];simp[hLL,hL,hLl,wf];refine Z6 hmany [] (by simp) (by simp[Ap,hLc]) (by simp) ?_
 rintro r sm ⟨rfl,rfl⟩;simp[Ap,hLc];refine Z6 hps [] (by simp) (by simp[Ap,hLc]) (by simp) ?_
 rintro r sm ⟨rfl,rfl⟩;simp[Ap,hLc];refine Z6 hap [] (by simp) (by simp[Ap,hLc]) (by simp) ?_
 rintro r sm ⟨rfl,rfl⟩;simp[Ap,hLc,hLc1];refine Y5 Cx ?_;simp[hy0];refine Z6 hp1 [(2,27)] (by simp) (by simp[Ap,hLc1]) (by simp) ?_
 rintro r sm ⟨rfl,rfl⟩;simp[Ap,hLc1];refine Z6 hp2q [(2,27)] (by simp) (by simp[Ap,hLc1]) (by simp) ?_
 rintro r sm ⟨rfl,rfl⟩;simp[Ap,hLc1];refine Z6 hjo [(2,27)] (by simp) (by simp[Ap,hLc1]) (by simp) ?_
 rintro r sm ⟨rfl,rfl⟩;simp[Ap,hLc1];refine Z6 hap2 [(2,27)] (by simp) (by simp[Ap,hLc1]) (by simp) ?_
 rintro r sm ⟨rfl,rfl⟩;simp[Ap,hLc1,hLc2];exact Z4 hKv [(3,27)] (by simp +contextual [Ap,hLc1,hLc2])
set_option maxRecDepth 100000 in
set_option maxHeartbeats 16000000 in
theorem Zzy(rg:List (List Aa))(Ap:∀ q,Z3 q rg=rg)(re lo F:Int)(ls:List Lt)(hl:ls.length≤400)(h0:ls≠[])(f:Int)(hf:1≤f∧f≤1000)(hlp:ED F ls f false)
 (z:List Lt) (hz:z.length≤400) (Ey:z≠[]) (h9:Al Tryz.prog 31 [cV F ls,.agg (Bc 9 (AX ls (f - 1) (Ay (f - 1) ls:Nat)))] (.tuple [cV F z,.int .i64 0]))
 (hy0:¬X0 z / 2=0) (hp:2<Z0 z)
 (y:List Lt) (h1:Al Tryz.prog 31 [cV F z,.agg (Bc 1 (G6 z (AX z f 1) (AX z f 2)))] (.tuple [cV F y,.int .i64 0]))
 :
 AV Tryz.prog 174 [.ptr 1 0 0,.agg (Bt f)] ⟨[(1,Bd 2 rg re lo F (ls.map Ab) [] 0)],3⟩ fun v m=>v=.tuple []∧m=⟨[(1,Bd 3 rg re lo F (y.map Ab) ([Bc 9 (AX ls (f - 1) (Ay (f - 1) ls:Nat))]++[Bc 1 (G6 z (AX z f 1) (AX z f 2))]) 0),(3,.cells 7 ([Bc 9 (AX ls (f - 1) (Ay (f - 1) ls:Nat))]++[Bc 1 (G6 z (AX z f 1) (AX z f 2))]))],4⟩:=by
 refine W9 hm Tryz.func174 JH rfl rfl fun K hK=>?_
 have hKv:=hK _ _ ⟨rfl,rfl⟩;clear hK;have hLc:∀ q,Z3 q (ls.map Ab)=ls.map Ab:=fun q=>Y1 q _ (X5 ls)
 have wf:=Y7 (f - 1);have hmany:=MU rg Ap re lo F ls (by omega) [] (fun q=>rfl) 0 (f - 1)
 have hps:=EP rg Ap re lo F ls (by omega) [] 0 (f - 1) (Ay (f - 1) ls:Nat)
 have hap:=Oi rg Ap re lo F ls z [] (fun q=>rfl) (by simp) 9 (AX ls (f - 1) (Ay (f - 1) ls:Nat)) h9
 have hLc1:∀ q,Z3 q (z.map Ab)=z.map Ab:=fun q=>Y1 q _ (X5 z)
 have Cx:=LG F z (by omega)
 have hpa:=Nj F z (by omega)
 have hp1:=EP rg Ap re lo F z (by omega) [Bc 9 (AX ls (f - 1) (Ay (f - 1) ls:Nat))] 0 f 1
 have hp2q:=EP rg Ap re lo F z (by omega) [Bc 9 (AX ls (f - 1) (Ay (f - 1) ls:Nat))] 0 f 2
 have hjo:=Rn rg Ap re lo F z hz Ey [Bc 9 (AX ls (f - 1) (Ay (f - 1) ls:Nat))] 0 (AX z f 1) (AX z f 2) (GI z f 1) (GI z f 2);have hap2:=Oi rg Ap re lo F z y [Bc 9 (AX ls (f - 1) (Ay (f - 1) ls:Nat))] (fun q=>rfl) (by simp) 1 (G6 z (AX z f 1) (AX z f 2)) h1
 have hLc2:∀ q,Z3 q (y.map Ab)=y.map Ab:=fun q=>Y1 q _ (X5 y)
 have hp2':(2:Int)<(Z0 z:Nat):=by omega
 have hp2:=hp;unfold ED cV at *;generalize Z0 z=np at *;generalize X0 z / 2=ny at *;generalize ls.map Ab=R at *;generalize z.map Ab=Z at *;generalize y.map Ab=Y at *;unfold Bd Bt Bc at *;simp;refine Z6 hlp [] (by simp[hLc]) (by simp) (by simp) ?_
 rintro r sm ⟨L,hL,hLL,rfl,rfl⟩;have hL:¬L=[]:=by simpa using hL
 have hLl:¬L.length=0:=fun e=>hL (List.length_eq_zero_iff.1 e)
 have hsl:∀ b,AQ b L=.sl b 0 L.length:=fun b=>N6 hL
 have Dd:∀ c k (r:List (Nat×Ai)),AM c k L r=(c,.cells k L) :: r:=fun c k r=>by unfold AM; rw[iN hL]
 rw[hsl,Dd];simp[hLL,hL,hLl,wf];refine Z6 hmany [] (by simp) (by simp[Ap,hLc]) (by simp) ?_
 rintro r sm ⟨rfl,rfl⟩;simp[Ap,hLc];refine Z6 hps [] (by simp) (by simp[Ap,hLc]) (by simp) ?_
 rintro r sm ⟨rfl,rfl⟩;simp[Ap,hLc];refine Z6 hap [] (by simp) (by simp[Ap,hLc]) (by simp) ?_
 rintro r sm ⟨rfl,rfl⟩;simp[Ap,hLc,hLc1];refine Y5 Cx ?_;simp[hy0];refine Y5 hpa ?_;simp[hy0,hp2,hp2'];refine Z6 hp1 [(2,27)] (by simp) (by simp[Ap,hLc1]) (by simp) ?_
 rintro r sm ⟨rfl,rfl⟩;simp[Ap,hLc1];refine Z6 hp2q [(2,27)] (by simp) (by simp[Ap,hLc1]) (by simp) ?_
 rintro r sm ⟨rfl,rfl⟩;simp[Ap,hLc1];refine Z6 hjo [(2,27)] (by simp) (by simp[Ap,hLc1]) (by simp) ?_
 rintro r sm ⟨rfl,rfl⟩;simp[Ap,hLc1];refine Z6 hap2 [(2,27)] (by simp) (by simp[Ap,hLc1]) (by simp) ?_
 rintro r sm ⟨rfl,rfl⟩;simp[Ap,hLc1,hLc2];exact Z4 hKv [(3,53)] (by simp +contextual [Ap,hLc1,hLc2])
set_option maxRecDepth 100000 in
set_option maxHeartbeats 16000000 in
theorem Z3j(rg:List (List Aa))(Ap:∀ q,Z3 q rg=rg)(re lo F:Int)(ls:List Lt)(hl:ls.length≤400)(h0:ls≠[])(f:Int)(hf:1≤f∧f≤1000)(hlp:ED F ls f false)
 (z:List Lt) (hz:z.length≤400) (Ey:z≠[]) (h9:Al Tryz.prog 31 [cV F ls,.agg (Bc 9 (AX ls (f - 1) (Ay (f - 1) ls:Nat)))] (.tuple [cV F z,.int .i64 0]))
 (hy0:¬X0 z / 2=0) (hp:2<Z0 z)
 (e:Int) (he:e≠0) (h1:Al Tryz.prog 31 [cV F z,.agg (Bc 1 (G6 z (AX z f 1) (AX z f 2)))] (.tuple [.agg [.int .i64 0,.Ae],.int .i64 e]))
 :
 AV Tryz.prog 174 [.ptr 1 0 0,.agg (Bt f)] ⟨[(1,Bd 2 rg re lo F (ls.map Ab) [] 0)],3⟩ fun v m=>v=.tuple []∧m=⟨[(1,Bd 3 rg re lo F (z.map Ab) [Bc 9 (AX ls (f - 1) (Ay (f - 1) ls:Nat))] e),(3,.cells 7 [Bc 9 (AX ls (f - 1) (Ay (f - 1) ls:Nat))])],4⟩:=by
 refine W9 hm Tryz.func174 JH rfl rfl fun K hK=>?_
 have hKv:=hK _ _ ⟨rfl,rfl⟩;clear hK;have hLc:∀ q,Z3 q (ls.map Ab)=ls.map Ab:=fun q=>Y1 q _ (X5 ls)
 have wf:=Y7 (f - 1);have hmany:=MU rg Ap re lo F ls (by omega) [] (fun q=>rfl) 0 (f - 1)
 have hps:=EP rg Ap re lo F ls (by omega) [] 0 (f - 1) (Ay (f - 1) ls:Nat)
 have hap:=Oi rg Ap re lo F ls z [] (fun q=>rfl) (by simp) 9 (AX ls (f - 1) (Ay (f - 1) ls:Nat)) h9
 have hLc1:∀ q,Z3 q (z.map Ab)=z.map Ab:=fun q=>Y1 q _ (X5 z)
 have Cx:=LG F z (by omega)
 have hpa:=Nj F z (by omega)
 have hp1:=EP rg Ap re lo F z (by omega) [Bc 9 (AX ls (f - 1) (Ay (f - 1) ls:Nat))] 0 f 1
 have hp2q:=EP rg Ap re lo F z (by omega) [Bc 9 (AX ls (f - 1) (Ay (f - 1) ls:Nat))] 0 f 2
 have hjo:=Rn rg Ap re lo F z hz Ey [Bc 9 (AX ls (f - 1) (Ay (f - 1) ls:Nat))] 0 (AX z f 1) (AX z f 2) (GI z f 1) (GI z f 2);have hap2:=SR rg Ap re lo F z [Bc 9 (AX ls (f - 1) (Ay (f - 1) ls:Nat))] (fun q=>rfl) 1 (G6 z (AX z f 1) (AX z f 2)) e he h1
 have hLc2:=hLc1;have hp2':(2:Int)<(Z0 z:Nat):=by omega
 have hp2:=hp;unfold ED cV at *;generalize Z0 z=np at *;generalize X0 z / 2=ny at *;generalize ls.map Ab=R at *;generalize z.map Ab=Z at *;unfold Bd Bt Bc at *;simp;refine Z6 hlp [] (by simp[hLc]) (by simp) (by simp) ?_
 rintro r sm ⟨L,hL,hLL,rfl,rfl⟩;have hL:¬L=[]:=by simpa using hL
 have hLl:¬L.length=0:=fun e=>hL (List.length_eq_zero_iff.1 e)
 have hsl:∀ b,AQ b L=.sl b 0 L.length:=fun b=>N6 hL
 have Dd:∀ c k (r:List (Nat×Ai)),AM c k L r=(c,.cells k L) :: r:=fun c k r=>by unfold AM; rw[iN hL]
 rw[hsl,Dd];simp[hLL,hL,hLl,wf];refine Z6 hmany [] (by simp) (by simp[Ap,hLc]) (by simp) ?_
 rintro r sm ⟨rfl,rfl⟩;simp[Ap,hLc];refine Z6 hps [] (by simp) (by simp[Ap,hLc]) (by simp) ?_
 rintro r sm ⟨rfl,rfl⟩;simp[Ap,hLc];refine Z6 hap [] (by simp) (by simp[Ap,hLc]) (by simp) ?_
 rintro r sm ⟨rfl,rfl⟩;simp[Ap,hLc,hLc1];refine Y5 Cx ?_;simp[hy0];refine Y5 hpa ?_;simp[hy0,hp2,hp2'];refine Z6 hp1 [(2,27)] (by simp) (by simp[Ap,hLc1]) (by simp) ?_
 rintro r sm ⟨rfl,rfl⟩;simp[Ap,hLc1];refine Z6 hp2q [(2,27)] (by simp) (by simp[Ap,hLc1]) (by simp) ?_
 rintro r sm ⟨rfl,rfl⟩;simp[Ap,hLc1];refine Z6 hjo [(2,27)] (by simp) (by simp[Ap,hLc1]) (by simp) ?_
 rintro r sm ⟨rfl,rfl⟩;simp[Ap,hLc1];refine Z6 hap2 [(2,27)] (by simp) (by simp[Ap,hLc1]) (by simp) ?_
 rintro r sm ⟨rfl,rfl⟩;simp[Ap,hLc1,hLc2];exact Z4 hKv [(3,27)] (by simp +contextual [Ap,hLc1,hLc2])
set_option maxRecDepth 100000 in
set_option maxHeartbeats 16000000 in
theorem rD(rg:List (List Aa))(Ap:∀ q,Z3 q rg=rg)(re lo F:Int)(ls:List Lt)(hl:ls.length≤400)(h0:ls≠[])(f:Int)(hf:1≤f∧f≤1000)(hlp:ED F ls f false)
 (z:List Lt) (hz:z.length≤400) (Ey:z≠[]) (h9:Al Tryz.prog 31 [cV F ls,.agg (Bc 9 (AX ls (f - 1) (Ay (f - 1) ls:Nat)))] (.tuple [cV F z,.int .i64 0]))
 (hy0:¬X0 z / 2=0) (hp:¬2<Z0 z)
 :
 AV Tryz.prog 174 [.ptr 1 0 0,.agg (Bt f)] ⟨[(1,Bd 2 rg re lo F (ls.map Ab) [] 0)],3⟩ fun v m=>v=.tuple []∧m=⟨[(1,Bd 3 rg re lo F (z.map Ab) [Bc 9 (AX ls (f - 1) (Ay (f - 1) ls:Nat))] 0),(3,.cells 7 [Bc 9 (AX ls (f - 1) (Ay (f - 1) ls:Nat))])],4⟩:=by
 refine W9 hm Tryz.func174 JH rfl rfl fun K hK=>?_
 have hKv:=hK _ _ ⟨rfl,rfl⟩;clear hK;have hLc:∀ q,Z3 q (ls.map Ab)=ls.map Ab:=fun q=>Y1 q _ (X5 ls)
 have wf:=Y7 (f - 1);have hmany:=MU rg Ap re lo F ls (by omega) [] (fun q=>rfl) 0 (f - 1)
 have hps:=EP rg Ap re lo F ls (by omega) [] 0 (f - 1) (Ay (f - 1) ls:Nat)
 have hap:=Oi rg Ap re lo F ls z [] (fun q=>rfl) (by simp) 9 (AX ls (f - 1) (Ay (f - 1) ls:Nat)) h9
 have hLc1:∀ q,Z3 q (z.map Ab)=z.map Ab:=fun q=>Y1 q _ (X5 z)
 have Cx:=LG F z (by omega)
 have hpa:=Nj F z (by omega)
 have hLc2:=hLc1;have hp2':¬(2:Int)<(Z0 z:Nat):=by omega
 have hp2:=hp;unfold ED cV at *;generalize Z0 z=np at *;generalize X0 z / 2=ny at *;generalize ls.map Ab=R at *;generalize z.map Ab=Z at *;unfold Bd Bt Bc at *;simp;refine Z6 hlp [] (by simp[hLc]) (by simp) (by simp) ?_
 rintro r sm ⟨L,hL,hLL,rfl,rfl⟩;have hL:¬L=[]:=by simpa using hL
 have hLl:¬L.length=0:=fun e=>hL (List.length_eq_zero_iff.1 e)
 have hsl:∀ b,AQ b L=.sl b 0 L.length:=fun b=>N6 hL
 have Dd:∀ c k (r:List (Nat×Ai)),AM c k L r=(c,.cells k L) :: r:=fun c k r=>by unfold AM; rw[iN hL]
 rw[hsl,Dd];simp[hLL,hL,hLl,wf];refine Z6 hmany [] (by simp) (by simp[Ap,hLc]) (by simp) ?_
 rintro r sm ⟨rfl,rfl⟩;simp[Ap,hLc];refine Z6 hps [] (by simp) (by simp[Ap,hLc]) (by simp) ?_
 rintro r sm ⟨rfl,rfl⟩;simp[Ap,hLc];refine Z6 hap [] (by simp) (by simp[Ap,hLc]) (by simp) ?_
 rintro r sm ⟨rfl,rfl⟩;simp[Ap,hLc,hLc1];refine Y5 Cx ?_;simp[hy0];refine Y5 hpa ?_;simp[hy0,hp2,hp2'];exact Z4 hKv [(3,27)] (by simp +contextual [Ap,hLc1,hLc2])
end Go.Ac
end
section
namespace Go.Ac
open Go Go.AE Go.Proofs
open Go.Plain
def I0(f g:Int):Int:=if f≤g then g - 1 else g
def MS(F f:Int)(ls z:List Lt):Prop:=U0 F z=0∧z.length≤400∧DR ((U4 z).map (I0 f))=DR ((U4 ls).map (I0 f))
theorem Zzc{F:Int}(h0:0≤F)(h1:F≤40):U0 F []=0:=by
 unfold U0;rw[iN (by simp[X0,Z9]),iN (by omega),iP (.inl rfl)]
theorem Z7d{F f:Int}{ls:List Lt}(h:Bq F ls)(h0:ls≠[])(h1:1≤f)(h2:f≤F)(hn:1≤Ay (f - 1) ls):MS F f ls (Q6 (f - 1) ls)∧Q6 (f - 1) ls≠[]:=by
 have ht:=h.tip (G:=f - 1) h0 (by omega) (by omega) hn
 have hw:=Ydg (f - 1) ls;rw[show f - 1+1=f by omega]at hw
 refine⟨⟨ht.to,ht.len,congrArg DR hw⟩,fun e=>h0 ?_⟩
 unfold Q6 at e;exact List.map_eq_nil_iff.1 e
theorem tf{F:Int}{z:List Lt}(h:Bq F z)(h0:z≠[]){a:Nat}(ha:a<z.length)(hc:Nh (at' z a) (at' z ((a+1) % z.length)) (Z0 z:Nat) (X0 z / 2:Nat))(φ:Int→Int) :
 U0 F (Q3 (H0 z a ((a+1) % z.length) (at' z a).g (V0 (at' z a) (at' z ((a+1) % z.length)))))=0∧(Q3 (H0 z a ((a+1) % z.length) (at' z a).g (V0 (at' z a) (at' z ((a+1) % z.length))))).length≤400 ∧
  DR ((U4 (Q3 (H0 z a ((a+1) % z.length) (at' z a).g (V0 (at' z a) (at' z ((a+1) % z.length)))))).map φ)=DR ((U4 z).map φ):=by
 have hpos:0<z.length:=List.length_pos_iff.2 h0;have Dd:(a+1) % z.length<z.length:=Nat.mod_lt _ hpos;obtain⟨c1,c2,c3,c4,c5⟩:=hc;have hpv:=VN (h.wv h0);have hev:=h.IN;have hpp:=(h.wv h0).He;by_cases hp:3≤Z0 z
 ·obtain⟨s0,e1,e2,e3⟩:=zm h (by omega) hp ha rfl c1 c2 rfl c3.symm (R:=V0 (at' z a) (at' z ((a+1) % z.length))) (by unfold V0; split<;>omega)
  rw[e1];have hv:=Z47 e2;exact⟨hv.to,hv.len,Z08 e2 e3 φ⟩
 ·
  have hx:X0 z / 2=0:=by omega
  have hv0:X0 z=0:=by
   refine Classical.byContradiction fun hne=>?_
   obtain⟨l,hl,hxl⟩:∃ l,l∈z∧Bg l=true:=by
    refine Classical.byContradiction fun hno=>hne ?_
    unfold X0 Z9;rw[List.length_eq_zero_iff,List.filter_eq_nil_iff];exact fun l hl hx=>hno ⟨l,hl,hx⟩
   have ho:=h.ET l hl;have hk:l.k=2:=by simpa[Bg]using hxl
   have:=(RZ hk).1 ho;omega
  have hl2:z.length=2:=by omega
  have hnil:H0 z a ((a+1) % z.length) (at' z a).g (V0 (at' z a) (at' z ((a+1) % z.length)))=[]:=by
   rw[SG];have:X1 z.length a ((a+1) % z.length)=[]:=by
    rw[hl2]at ha ⊢;have:a=0∨a=1:=by omega
    rcases this with rfl|rfl<;>rfl
   rw[this];rfl
  have hfn:Q3 ([]:List (Lt×Bool))=[]:=rfl;rw[hnil,hfn];refine⟨Zzc h.lo h.hi,by simp,?_⟩
  match z,hl2,ha,c1,c2,c3 with
  | [x,y],_,ha,c1,c2,c3=>
   have hxy:Am x=true∧Am y=true∧x.g=y.g:=by
    have:a=0∨a=1:=by simp at ha; omega
    rcases this with rfl|rfl
    ·exact⟨by simpa[Am,at']using c1,by simpa[Am,at']using c2,by simpa[at']using c3⟩
    ·exact⟨by simpa[Am,at']using c2,by simpa[Am,at']using c1,by simpa[at']using c3.symm⟩
   have hw:U4 [x,y]=[x.g,y.g]:=by unfold U4; simp[hxy.1,hxy.2.1]
   rw[hw,hxy.2.2];have:=Zt [] (φ y.g) [];exact this.symm
theorem Z6r(rg:List (List Aa))(Ap:∀ q,Z3 q rg=rg)(re lo F:Int)(ls:List Lt)(hl:ls.length≤400)(he:U0 F ls=0)(h0:ls≠[])(f:Int)(hf:1≤f∧f≤F)(b:Bool)(hlp:ED F ls f b) :
 (∃ e:Int,e≠0∧AV Tryz.prog 174 [.ptr 1 0 0,.agg (Bt f)] ⟨[(1,Bd 2 rg re lo F (ls.map Ab) [] 0)],3⟩ fun v m=>v=.tuple []∧m=⟨[(1,Bd 2 rg re lo F (ls.map Ab) [] e)],3⟩) ∨
 (∃(z:List Lt) (M:List (List Aa)) (e:Int),M≠[]∧M.length≤2∧(∀ q,Z3 q M=M)∧(e=0→MS F f ls z) ∧
   AV Tryz.prog 174 [.ptr 1 0 0,.agg (Bt f)] ⟨[(1,Bd 2 rg re lo F (ls.map Ab) [] 0)],3⟩ fun v m=>v=.tuple []∧m=⟨[(1,Bd 3 rg re lo F (z.map Ab) M e),(3,.cells 7 M)],4⟩):=by
 have hV:=MG he h0;have hhi:=hV.hi;have hf':1≤f∧f≤1000:=by omega
 cases b with
 | true=>exact .inl ⟨8,by decide,rW rg Ap re lo F ls f hlp⟩
 | false=>
  rcases Z09 F ls hl he h0 (AX ls (f - 1) (Ay (f - 1) ls:Nat))with⟨e,e0,h9⟩|⟨an,a1,a2,a3,a4,h9⟩
  ·refine .inl ⟨e,e0,?_⟩;by_cases hy:X0 ls / 2=0
   ·exact Z0j rg Ap re lo F ls hl h0 f hf' hlp e e0 h9 hy
   ·by_cases hp:2<Z0 ls
    ·exact Z06 rg Ap re lo F ls hl h0 f hf' hlp e e0 h9 hy hp
    ·exact zk rg Ap re lo F ls hl h0 f hf' hlp e e0 h9 hy hp
  ·obtain⟨p1,p2,p3,p4⟩:=xw a1;have hn:1≤Ay (f - 1) ls:=by
    obtain⟨k1,k2,k3,_⟩:=hV.key (O0 a2) (O7 p2);rw[p3]at k3;omega
   rw[p3]at h9;obtain⟨hS,Ey⟩:=Z7d hV h0 hf.1 hf.2 hn;obtain⟨z,hz⟩:∃ z,Q6 (f - 1) ls=z:=⟨_,rfl⟩
   rw[hz]at hS Ey h9;have hVz:=MG hS.1 Ey;have hzl:z.length≤400:=hS.2.1;have hne:∀ x:List Aa,[x]≠[]:=fun x e=>by cases e
   have fin1:AV Tryz.prog 174 [.ptr 1 0 0,.agg (Bt f)] ⟨[(1,Bd 2 rg re lo F (ls.map Ab) [] 0)],3⟩ (fun v m=>v=.tuple []∧m=⟨[(1,Bd 3 rg re lo F (z.map Ab) [Bc 9 (AX ls (f - 1) (Ay (f - 1) ls:Nat))] 0),(3,.cells 7 [Bc 9 (AX ls (f - 1) (Ay (f - 1) ls:Nat))])],4⟩) →
    (∃(z:List Lt) (M:List (List Aa)) (e:Int),M≠[]∧M.length≤2∧(∀ q,Z3 q M=M)∧(e=0→MS F f ls z)∧AV Tryz.prog 174 [.ptr 1 0 0,.agg (Bt f)] ⟨[(1,Bd 2 rg re lo F (ls.map Ab) [] 0)],3⟩ fun v m=>v=.tuple []∧m=⟨[(1,Bd 3 rg re lo F (z.map Ab) M e),(3,.cells 7 M)],4⟩):=
    fun h=>⟨z,_,0,hne _,by simp,fun q=>rfl,fun _=>hS,h⟩
   refine .inr ?_;rcases Z4g F z hzl hS.1 Ey (G6 z (AX z f 1) (AX z f 2))with⟨e,e0,h1⟩|⟨cn,c1,c2,c3,h1⟩
   ·have mk:∀ h:AV Tryz.prog 174 [.ptr 1 0 0,.agg (Bt f)] ⟨[(1,Bd 2 rg re lo F (ls.map Ab) [] 0)],3⟩ (fun v m=>v=.tuple []∧m=⟨[(1,Bd 3 rg re lo F (z.map Ab) [Bc 9 (AX ls (f - 1) (Ay (f - 1) ls:Nat))] e),(3,.cells 7 [Bc 9 (AX ls (f - 1) (Ay (f - 1) ls:Nat))])],4⟩),_:=
     fun h=>(⟨z,_,e,hne _,by simp,fun q=>rfl,fun e1=>absurd e1 e0,h⟩:∃ (z:List Lt) (M:List (List Aa)) (e:Int),M≠[]∧M.length≤2∧(∀ q,Z3 q M=M)∧(e=0→MS F f ls z)∧AV Tryz.prog 174 [.ptr 1 0 0,.agg (Bt f)] ⟨[(1,Bd 2 rg re lo F (ls.map Ab) [] 0)],3⟩ fun v m=>v=.tuple []∧m=⟨[(1,Bd 3 rg re lo F (z.map Ab) M e),(3,.cells 7 M)],4⟩)
    by_cases hy:X0 z / 2=0
    ·exact mk (ud rg Ap re lo F ls hl h0 f hf' hlp z hzl Ey h9 hy e e0 h1)
    ·by_cases hp:2<Z0 z
     ·exact mk (Z3j rg Ap re lo F ls hl h0 f hf' hlp z hzl Ey h9 hy hp e e0 h1)
     ·exact fin1 (rD rg Ap re lo F ls hl h0 f hf' hlp z hzl Ey h9 hy hp)
   ·obtain⟨g1,g2,g3⟩:=tf hVz Ey c2 c3 (I0 f);obtain⟨y,hy'⟩:∃ y,Q3 (H0 z cn ((cn+1) % z.length) (at' z cn).g (V0 (at' z cn) (at' z ((cn+1) % z.length))))=y:=⟨_,rfl⟩
    rw[hy']at g1 g2 g3 h1;have hSy:MS F f ls y:=⟨g1,g2,g3.trans hS.2.2⟩;by_cases hy:X0 z / 2=0
    ·exact⟨y,_,0,by simp,by simp,fun q=>rfl,fun _=>hSy,Z50 rg Ap re lo F ls hl h0 f hf' hlp z hzl Ey h9 hy y h1⟩
    ·by_cases hp:2<Z0 z
     ·exact⟨y,_,0,by simp,by simp,fun q=>rfl,fun _=>hSy,Zzy rg Ap re lo F ls hl h0 f hf' hlp z hzl Ey h9 hy hp y h1⟩
     ·exact fin1 (rD rg Ap re lo F ls hl h0 f hf' hlp z hzl Ey h9 hy hp)
end Go.Ac
end
