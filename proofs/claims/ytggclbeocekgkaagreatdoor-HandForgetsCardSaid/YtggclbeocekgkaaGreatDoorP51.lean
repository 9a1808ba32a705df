/- Part 51 of the proof: Fod, Fof, Fog, Foh, Foi. -/
import Derived.Test.YtggclbeocekgkaaGreatDoorP42
import Derived.Test.YtggclbeocekgkaaGreatDoorP50
set_option linter.all false
section
namespace Go.Ac
open Go Go.AE Go.Proofs
open Go.Plain
def Gm(T:List (List Aa))(o m:Nat):Aa:=if T=[]then .Ae else .sl 1 o m
set_option maxRecDepth 100000 in
set_option maxHeartbeats 16000000 in
theorem ye(w:List Int)(hl:w.length≤400):Al Tryz.prog 92 [.Aj (Z1 w)] (BQ (Z1 (W6 w))):=by
 refine E5 hm 4 Tryz.func92 mW rfl rfl (by simp only[X8,Aa.closed,W8,Bool.and_true]) (Ng (W8 _)) fun K hK=>?_
 have hKv:=hK _ _ (w8 (W6 w));clear hK;have hr:∀ q,Z3 q (Z1 w)=Z1 w:=fun q=>Y1 q _ (W8 w)
 have hlen:=O4 w;have hg:=fun i hi=>ig (l:=w) (i:=i) hi
 have hO:∀ (T:List (List Aa)) (o m k:Nat) (c:List Int),U3 T=true→(∀ i,BV (Cf w) c i→W6 w=I3 i c)→True:=fun _ _ _ _ _ _ _=>trivial
 clear hO;have hz:=Ydk w;have hall:=sD w;have hsl:=fun i hi=>YV w i hi
 have hpop:=fun i hi hn hg=>Z7j (w:=w) (i:=i) hi hn hg
 have hpsh:=fun i hi hn=>Z53 (w:=w) (i:=i) hi hn
 generalize Z1 w=W at *;simp;refine W5 (α:=Nat×List (List Aa)) (fun a=>[(12,.int .i64 a.1),(11,.int .i64 w.length),(10,.Aj W),(3,Gm a.2 0 (Df w a.1).length)]) (fun a=>⟨AM 1 2 a.2 [],2⟩) (fun a=>w.length - a.1)
  (fun a=>a.1≤w.length∧U3 a.2=true∧a.2.take (Df w a.1).length=F3 (Df w a.1)∧(Df w a.1).length≤a.2.length) (0,[]) [] (by simp[hr,hlen,Gm]) (by simp[hz,F3,U3]) ?_
 rintro⟨i,T⟩ ⟨hi,hTc,hTt,hTn⟩ N hN;simp only at hi hTc hTt hTn hN ⊢;have hTr:∀ q,Z3 q T=T:=fun q=>Y1 q _ hTc
 have hTk:∀ q m,Z3 q (T.take m)=T.take m:=fun q m=>by rw[H4,List.map_take,← H4,hTr]
 have hTd:∀ q m,Z3 q (T.drop m)=T.drop m:=fun q m=>by rw[H4,List.map_drop,← H4,hTr]
 have hTl:∀ q,Z3 q T.tail=T.tail:=fun q=>by rw[← List.drop_one]; exact hTd q 1
 have hn:=hsl i hi;by_cases hlt:i<w.length
 ·have hgi:=hg i hlt;obtain⟨hgl,hg2⟩:=Y8 hgi;have hw:=Y7 ((i:Int)+1);have hpop:=hpop i hlt;have hpsh:=hpsh i hlt;have hm2:((i:Nat):Int).tmod 2=((i % 2:Nat):Int):=rfl;have hwm:=Y7 ((i % 2:Nat):Int);generalize w.getD i 0=g at *;obtain⟨n,GX⟩:∃ n,(Df w i).length=n:=⟨_,rfl⟩
  rw[GX]at hn hTt hTn hpop hpsh ⊢;have hpush:Df w (i+1)=Df w i++[g]→(T.take n++Eh n g :: T.drop (n+1)).take (Df w (i+1)).length=F3 (Df w (i+1))∧(Df w (i+1)).length=n+1∧U3 (T.take n++Eh n g :: T.drop (n+1))=true∧n+1≤(T.take n++Eh n g :: T.drop (n+1)).length:=fun e=>by
   have e1:(Df w (i+1)).length=n+1:=by rw[e,lA,GX]; rfl
   have e2:(T.take n).length=n:=by rw[lK]; omega
   refine⟨?_,e1,?_,by simp; omega⟩
   ·rw[e1,e,Z2d,GX,List.take_append,e2,tL (by omega),show n+1 - n=1 by omega,hTt]
    rfl
   ·have:∀ (a b:List (List Aa)),U3 a=true→U3 b=true→U3 (a++b)=true:=fun a b ha hb=>by
     induction a with
     | nil=>exact hb
     | cons x a ih=>simp only[U3,bA,List.cons_append]at ha ⊢; exact⟨ha.1,ih ha.2⟩
    have hsub:∀ (a b:List (List Aa)),U3 (a++b)=true→U3 a=true∧U3 b=true:=fun a b h=>by
     induction a with
     | nil=>exact ⟨rfl,h⟩
     | cons x a ih=>simp only[U3,bA,List.cons_append]at h ⊢; exact⟨⟨h.1,(ih h.2).1⟩,(ih h.2).2⟩
    have h1:=(hsub (T.take n) (T.drop n) (by rw[List.take_append_drop]; exact hTc)).1
    have h2:=(hsub (T.take (n+1)) (T.drop (n+1)) (by rw[List.take_append_drop]; exact hTc)).2
    refine this _ _ h1 ?_;simp[U3,Eh,X8,Aa.closed,h2]
  have hfl:(decide (i % 2=0))=decide (n % 2=0):=by rw[hn.1]
  have hi0:((i:Int) % 2=0)=(n % 2=0):=by apply propext; omega
  have hi1:((i:Int).tmod 2=0)=(n % 2=0):=by rw[hm2]; apply propext; omega
  have hN':=hN (i+1,T.take n++Eh n g :: T.drop (n+1));have hNp:=hN (i+1,T);by_cases h0:n=0
  ·subst h0;have e:=hpsh (fun h=>by omega)
   obtain⟨p1,p2,p3,p4⟩:=hpush e;simp only[p2]at p1;by_cases hT:T=[]
   ·subst hT;simp[hlt,hlen,hgi,hg2,Gm,hm2,hwm,hw,hi0,hi1,L1];exact hN' [(1,30)] _ _ (by omega) ⟨by omega,p3,by rw[p2]; exact p1,by rw[p2]; exact p4⟩ (by simp[hr,p2,Gm,Eh])
   ·obtain⟨M,hM⟩:∃ M,T.length=M+1:=⟨T.length - 1,by have:T.length≠0:=fun h=>hT (List.length_eq_zero_iff.1 h); omega⟩
    simp[hlt,hlen,hgi,hg2,Gm,hT,hM,hm2,hwm,hw,hi0,hi1,L1,M4];exact hN' [] _ _ (by omega) ⟨by omega,p3,by rw[p2]; exact p1,by rw[p2]; exact p4⟩ (by simp[hr,p2,Gm,Eh,hTl])
  ·have hT:¬T=[]:=fun h=>by subst h; simp at hTn; omega
   have hlast:T[n - 1]? = some (Eh (n - 1) ((Df w i).getD (n - 1) 0)):=by
    have:=oL (s:=Df w i) (p:=n - 1) (by omega)
    rw[← this,← hTt,List.getElem?_take,iP (by omega)]
   have hnI:(0:Int)<(n:Int):=by omega
   have hn0:0<n:=by omega
   have hn1I:(1:Int)≤(n:Int):=by omega
   have hTm:n - 1≤T.length:=by omega
   have wn:=Y7 ((n:Int) - 1);have tn:((n:Int) - 1).toNat=n - 1:=by omega
   have tn2:(0:Int)≤(n:Int) - 1:=by omega
   have tn3:n - 1<n:=by omega
   have tn4:n - 1≤n:=by omega
   have hTn':n - 1<T.length:=by omega
   obtain⟨_,hlast2⟩:=Y8 hlast;generalize (Df w i).getD (n - 1) 0=t at *;unfold Eh at hlast hlast2;by_cases htg:t=g
   ·subst htg;have e:=hpop (by omega) rfl
    have hd:(Df w (i+1)).length=n - 1:=by rw[e,List.length_dropLast,GX]
    simp[hlt,hlen,hgi,hg2,Gm,hT,hn1I,hTm,hTn,hnI,hn0,h0,wn,tn,tn2,tn3,tn4,hTn',hlast,hlast2,hw,M4];exact hNp [] _ _ (by simp; omega) ⟨by omega,hTc,by rw[hd,e,List.dropLast_eq_take,GX,← Z2r,← hTt,List.take_take,show min (n - 1) n=n - 1 by omega],by rw[hd]; exact hTm⟩ (by simp[hr,hd,Gm,hT,hTr,M4])
   ·have e:=hpsh (fun h=>htg h.2)
    obtain⟨p1,p2,p3,p4⟩:=hpush e;simp only[p2]at p1;by_cases hTl2:T.length=n
    ·have hnl:n<1048576:=by omega
     have CY:¬n+1≤n:=by omega
     have hdn:T.drop (n+1)=[]:=List.drop_eq_nil_of_le (by omega)
     have hnl2:n≤1048575:=by omega
     simp[hlt,hlen,hgi,hg2,Gm,hT,hn1I,hTm,hTn,hnI,hn0,h0,wn,tn,tn2,tn3,tn4,hTn',hlast,hlast2,htg,hw,hi0,hi1,CY,hTl2,hnl,hnl2,L1,M4];exact hN' [(1,30)] _ _ (by omega) ⟨by omega,p3,by rw[p2]; exact p1,by rw[p2]; exact p4⟩ (by simp[hr,p2,Gm,Eh,hTr,hTk,hdn])
    ·obtain⟨M,hM⟩:∃ M,T.length=n+1+M:=⟨T.length - n - 1,by omega⟩
     have hm1:n≤n+1+M:=by omega
     have hm3:n+1≤n+1+M:=by omega
     simp[hlt,hlen,hgi,hg2,Gm,hT,hn1I,hTm,hTn,hnI,hn0,h0,wn,tn,tn2,tn3,tn4,hTn',hlast,hlast2,htg,hw,hi0,hi1,hM,hm1,hm3,L1,M4];exact hN' [] _ _ (by omega) ⟨by omega,p3,by rw[p2]; exact p1,by rw[p2]; exact p4⟩ (by simp[hr,p2,Gm,Eh,hTr,hTk,hTd])
 ·obtain rfl:i=w.length:=by omega
  clear hN hpop hpsh hn;rw[hall]at hTt hTn ⊢;clear hsl hg;obtain⟨s,hs⟩:∃ s,Cf w=s:=⟨_,rfl⟩
  have hout:∀ c k,BV s c k→W6 w=I3 k c:=fun c k h=>Yc (hs ▸ h)
  have hsl:s.length≤400:=by rw[← hs,← hall]; have:=(YV w w.length (lR _)).2; omega
  rw[hs]at hTt hTn ⊢;obtain⟨O,hO⟩:∃ O,W6 w=O:=⟨_,rfl⟩
  rw[hO]at hKv;simp only[hO]at hout;clear hall hz hs;have Fa:O.length≤400:=by
   have h1:=RG s.length s (lR _);have h2:=hout _ _ h1;have h3:=sC h1;rw[h2,We];omega
  have hOl:=O4 O;have hOc:∀ i q,Z3 q ((Z1 O).take i)=(Z1 O).take i:=fun i q=>by rw[H4,List.map_take,← H4,Y1 q _ (W8 O)]
  have hOs:∀ i,i<O.length→(Z1 O).take (i+1)=(Z1 O).take i++[[.int .i64 (O.getD i 0)]]:=fun i hi=>by
   rw[List.take_add_one,ig hi];rfl
  have hOn:Z1 O=(Z1 O).take O.length:=by rw[← hOl,List.take_length]
  rw[hOn]at hKv;by_cases hT:T=[]
  ·subst hT;have h0:s=[]:=by
    simp at hTn;exact hTn
   subst h0;have hO0:O=[]:=hout [] 0 (.base (by simp))
   subst hO0;simp[Gm];refine W5 (α:=Unit) (fun _=>[(3,.Ae)]) (fun _=>⟨[],1⟩) (fun _=>0) (fun _=>True) () [] (by simp) trivial ?_
   intro _ _ N hN;simp;refine W5 (α:=Unit) (fun _=>[(85,.int .i64 0),(84,.int .i64 0),(83,.Ae),(7,.Ae)]) (fun _=>⟨[],1⟩) (fun _=>0) (fun _=>True) () [] (by simp) trivial ?_
   intro _ _ N hN;simp;exact Z4 hKv [] (by simp)
  ·simp[Gm,hT,M4];have hsg:∀ p,p<s.length→T[p]? = some (Eh p (s.getD p 0)):=fun p hp=>by
    rw[← oL hp,← hTt,List.getElem?_take,iP hp]
   refine W5 (α:=Nat) (fun k=>[(3,.sl 1 k (s.length - 2*k))]) (fun _=>⟨[(1,.cells 2 T)],2⟩) (fun k=>s.length - 2*k) (fun k=>2*k≤s.length ∧ ∀ c j,BV (E6 s k) c j→BV s c (k+j)) 0 [] (by simp[hTr]) (by simp[wu]) ?_
   rintro k ⟨hk,hcy⟩ N hN
   try simp only at hk hcy hN ⊢
   obtain⟨m,hm⟩:∃ m,s.length - 2*k=m:=⟨_,rfl⟩
   rw[hm];by_cases h1:1<m
   ·have hga:=hsg k (by omega)
    have hgb:=hsg (s.length - k - 1) (by omega)
    obtain⟨hgal,hga2⟩:=Y8 hga;obtain⟨hgbl,hgb2⟩:=Y8 hgb;have i1:(1:Int)<(m:Int):=by omega
    have i2:k+(m - 1)=s.length - k - 1:=by omega
    have i3:k+(m)≤T.length:=by omega
    have i4:0<m:=by omega
    have i5:m - 1<m:=by omega
    have i6:=M2 ((m:Int) - 1) ((m - 1:Nat):Int);have i7:m - 1≤m:=by omega
    have i8:1≤m - 1:=by omega
    have i9:m - 1 - 1=s.length - 2*(k+1):=by omega
    have i10:m≤T.length - k+1:=by omega
    have hst:=fun c j=>yt (s:=s) (c:=c) (k:=k) (j:=j) (by omega)
    have hne0:¬s.getD k 0=s.getD (s.length - k - 1) 0 → ¬(1<m∧s.getD k 0=s.getD (s.length - k - 1) 0):=fun h e=>h e.2
    unfold Eh at hga hga2 hgb hgb2;by_cases hab:s.getD k 0=s.getD (s.length - k - 1) 0
    ·have hN2:=hN (k+1) [];simp only[hab]at hga hga2;generalize s.getD (s.length - k - 1) 0=b at *;simp[h1,i1,i2,i3,i4,i5,i6,i7,i8,i9,i10,hga,hga2,hgb,hgb2];exact hN2 _ _ (by omega) ⟨by omega,fun c j hc=>by have:=hcy c (j+1) (hst c j hab hc); rwa[show k+1+j=k+(j+1) by omega]⟩ (by simp[hTr])
    ·have hne:=hne0 hab;have hend:=hcy _ _ (pW hk (by rw[hm]; exact hne))
     rw[Nat.add_zero]at hend;have hOk:=hout _ _ hend;have hOL:O.length=m:=by rw[hOk,We,A9,hm]
     by_cases hodd:k % 2=1∧0<m
     ·obtain⟨hodd,hps⟩:=hodd;rw[hOL]at hKv;have hk1:1≤k:=by omega
      obtain⟨R,hR⟩:∃ R,R=T.take (s.length - k)++(Eh k (s.getD k 0) :: T.drop (s.length - k+1)):=⟨_,rfl⟩
      have hRr:∀ q,Z3 q R=R:=fun q=>by rw[hR]; simp[hTk,hTd,Z3,Eh]
      have hRl:R.length=T.length:=by rw[hR]; simp; omega
      have hRg:∀ j,j<m → ∃ b,R[k+1+j]? = some [.int .i64 (O.getD j 0),.bool b]:=fun j hj=>by
       have e:O.getD j 0=if j+1=m then s.getD k 0 else s.getD (k+(j+1)) 0:=by
        rw[hOk];unfold I3;rw[iP hodd,wO (by rw[A9]; omega),A9,hm,MW (by omega),Nat.add_zero]
        split
        ·rfl
        ·rw[MW (by omega)]
       rw[e,hR];have hl1:(T.take (s.length - k)).length=s.length - k:=by rw[lK]; omega
       by_cases hj1:j+1=m
       ·refine⟨decide (k % 2=0),?_⟩;rw[iP hj1,List.getElem?_append_right (by omega),hl1,show k+1+j - (s.length - k)=0 by omega]
        rfl
       ·refine⟨decide ((k+1+j) % 2=0),?_⟩;rw[iN hj1,List.getElem?_append_left (by omega),List.getElem?_take,iP (by omega),hsg _ (by omega),show k+1+j=k+(j+1) by omega]
        rfl
      have hgk:=hsg k (by omega)
      obtain⟨hgkl,hgk2⟩:=Y8 hgk;have hfl:decide (k % 2=0)=false:=by simp; omega
      have c1:(0:Int)<(m:Int):=by omega
      have c2:k+(m)≤T.length:=by omega
      have c3:k+1+(m - 1)=s.length - k:=by omega
      have c4:s.length - k+1≤T.length:=by omega
      have c5:s.length - k≤T.length:=by omega
      have c6:1≤m:=by omega
      have c7:m - 1+1=m:=by omega
      have c8:m≤T.length - k:=by omega
      unfold Eh at hgk hgk2 hR;rw[hfl]at hgk hgk2 hR
      try rw[hfl]at hga hga2
      generalize s.getD k 0=g0 at *;generalize s.getD (s.length - k - 1) 0=b0 at *;simp[h1,i1,i2,i3,i4,i5,i6,i7,hga,hga2,hgb,hgb2,hab,hgk,hgk2,hps,c1,c2,c3,c4,c5,c6,c7,c8,L1]
      try rw[← hR]
      refine W5 (α:=Nat) (fun j=>[(85,.int .i64 j),(84,.int .i64 m),(83,.sl 1 (k+1) m),(7,AQ 2 ((Z1 O).take j))]) (fun j=>⟨AM 2 1 ((Z1 O).take j) [(1,.cells 2 R)],3⟩) (fun j=>m - j) (fun j=>j≤m) 0 [] (by simp[hRr]) (by simp) ?_
      intro j hj N' hN'
      try simp only at hj hN' ⊢
      by_cases hjl:j<m
      ·obtain⟨b,hb⟩:=hRg j hjl;obtain⟨Dd,Ci⟩:=Y8 hb;have hwj:=Y7 ((j:Int)+1);have hN2:=hN' (j+1);rw[hOs j (by omega)]at hN2
       have hOcj:=hOc j;have hOlj:((Z1 O).take j).length≤1048575:=by rw[lK]; omega
       have hOlk:((Z1 O).take j).length<1048576:=by rw[lK]; omega
       have hjR:(k+1)+j<R.length:=by omega
       generalize (Z1 O).take j=W1 at *;generalize O.getD j 0=z at *;simp[hjl,hb,Ci,hwj,hOlj,hOlk,hRl];exact hN2 [(2,12)] _ _ (by omega) (by omega) (by simp +contextual [hOcj,hRr])
      ·obtain rfl:j=m:=by omega
       have hOcj:=hOc j;simp;exact Z4 hKv [(1,2)] (by simp +contextual [hOcj])
     ·rw[hOL]at hKv;obtain⟨R,hR⟩:∃ R,R=T:=⟨_,rfl⟩
      have hRr:∀ q,Z3 q R=R:=fun q=>by rw[hR]; exact hTr q
      have hRl:R.length=T.length:=by rw[hR]
      have hRg:∀ j,j<m → ∃ b,R[k+j]? = some [.int .i64 (O.getD j 0),.bool b]:=fun j hj=>by
       have hev:¬k % 2=1:=fun e=>hodd ⟨e,by omega⟩
       have e:O.getD j 0=s.getD (k+j) 0:=by
        rw[hOk];unfold I3;rw[iN hev,MW (by omega)]
       rw[e,hR];exact⟨_,hsg _ (by omega)⟩
      have d5:k+m≤T.length:=by omega
      by_cases hm0:m=0
      ·have c1:¬(0:Int)<(m:Int):=by omega
       have hO0:O.length=0:=by omega
       rw[hm0,List.take_zero]at hKv;generalize s.getD k 0=g0 at *;generalize s.getD (s.length - k - 1) 0=b0 at *;simp[h1,i1,i2,i3,i4,i5,i6,i7,hga,hga2,hgb,hgb2,hab,c1,hm0];refine W5 (α:=Unit) (fun _=>[(85,.int .i64 0),(84,.int .i64 0),(83,.sl 1 k 0),(7,.Ae)]) (fun _=>⟨[(1,.cells 2 T)],2⟩) (fun _=>0) (fun _=>True) () [] (by simp[hTr]) trivial ?_
       intro _ _ N hN;simp;exact Z4 hKv [] (by simp)
      ·have hev:decide (k % 2=0)=true:=by simp; omega
       have hgk:=hsg k (by omega)
       obtain⟨hgkl,hgk2⟩:=Y8 hgk;have c1:(0:Int)<(m:Int):=by omega
       have c6:0<m:=by omega
       unfold Eh at hgk hgk2;rw[hev]at hgk hgk2
       try rw[hev]at hga hga2
       generalize s.getD k 0=g0 at *;generalize s.getD (s.length - k - 1) 0=b0 at *;simp[h1,i1,i2,i3,i4,i5,i6,i7,hga,hga2,hgb,hgb2,hab,c1,c6,hgk,hgk2]
       try rw[← hR]
       refine W5 (α:=Nat) (fun j=>[(85,.int .i64 j),(84,.int .i64 m),(83,.sl 1 k m),(7,AQ 2 ((Z1 O).take j))]) (fun j=>⟨AM 2 1 ((Z1 O).take j) [(1,.cells 2 R)],3⟩) (fun j=>m - j) (fun j=>j≤m) 0 [] (by simp[hRr]) (by simp) ?_
       intro j hj N' hN'
       try simp only at hj hN' ⊢
       by_cases hjl:j<m
       ·obtain⟨b,hb⟩:=hRg j hjl;obtain⟨Dd,Ci⟩:=Y8 hb;have hwj:=Y7 ((j:Int)+1);have hN2:=hN' (j+1);rw[hOs j (by omega)]at hN2
        have hOcj:=hOc j;have hOlj:((Z1 O).take j).length≤1048575:=by rw[lK]; omega
        have hOlk:((Z1 O).take j).length<1048576:=by rw[lK]; omega
        have hjR:k+j<R.length:=by omega
        generalize (Z1 O).take j=W1 at *;generalize O.getD j 0=z at *;simp[hjl,hb,Ci,hwj,hOlj,hOlk,hRl];exact hN2 [(2,12)] _ _ (by omega) (by omega) (by simp +contextual [hOcj,hRr])
       ·obtain rfl:j=m:=by omega
        have hOcj:=hOc j;simp;exact Z4 hKv [(1,2)] (by simp +contextual [hOcj])
   ·have hne:¬(1<m∧s.getD k 0=s.getD (s.length - k - 1) 0):=fun e=>h1 e.1
    have h1I:¬(1:Int)<(m:Int):=by omega
    have hend:=hcy _ _ (pW hk (by rw[hm]; exact hne))
    rw[Nat.add_zero]at hend;have hOk:=hout _ _ hend;have hOL:O.length=m:=by rw[hOk,We,A9,hm]
    by_cases hodd:k % 2=1∧0<m
    ·obtain⟨hodd,hps⟩:=hodd;rw[hOL]at hKv;have hk1:1≤k:=by omega
     obtain⟨R,hR⟩:∃ R,R=T.take (s.length - k)++(Eh k (s.getD k 0) :: T.drop (s.length - k+1)):=⟨_,rfl⟩
     have hRr:∀ q,Z3 q R=R:=fun q=>by rw[hR]; simp[hTk,hTd,Z3,Eh]
     have hRl:R.length=T.length:=by rw[hR]; simp; omega
     have hRg:∀ j,j<m → ∃ b,R[k+1+j]? = some [.int .i64 (O.getD j 0),.bool b]:=fun j hj=>by
      have e:O.getD j 0=if j+1=m then s.getD k 0 else s.getD (k+(j+1)) 0:=by
       rw[hOk];unfold I3;rw[iP hodd,wO (by rw[A9]; omega),A9,hm,MW (by omega),Nat.add_zero]
       split
       ·rfl
       ·rw[MW (by omega)]
      rw[e,hR];have hl1:(T.take (s.length - k)).length=s.length - k:=by rw[lK]; omega
      by_cases hj1:j+1=m
      ·refine⟨decide (k % 2=0),?_⟩;rw[iP hj1,List.getElem?_append_right (by omega),hl1,show k+1+j - (s.length - k)=0 by omega]
       rfl
      ·refine⟨decide ((k+1+j) % 2=0),?_⟩;rw[iN hj1,List.getElem?_append_left (by omega),List.getElem?_take,iP (by omega),hsg _ (by omega),show k+1+j=k+(j+1) by omega]
       rfl
     have hgk:=hsg k (by omega)
     obtain⟨hgkl,hgk2⟩:=Y8 hgk;have hfl:decide (k % 2=0)=false:=by simp; omega
     have c1:(0:Int)<(m:Int):=by omega
     have c2:k+(m)≤T.length:=by omega
     have c3:k+1+(m - 1)=s.length - k:=by omega
     have c4:s.length - k+1≤T.length:=by omega
     have c5:s.length - k≤T.length:=by omega
     have c6:1≤m:=by omega
     have c7:m - 1+1=m:=by omega
     have c8:m≤T.length - k:=by omega
     unfold Eh at hgk hgk2 hR;rw[hfl]at hgk hgk2 hR
     try rw[hfl]at hga hga2
     generalize s.getD k 0=g0 at *;generalize s.getD (s.length - k - 1) 0=b0 at *;simp[h1,h1I,hgk,hgk2,hps,c1,c2,c3,c4,c5,c6,c7,c8,L1]
     try rw[← hR]
     refine W5 (α:=Nat) (fun j=>[(85,.int .i64 j),(84,.int .i64 m),(83,.sl 1 (k+1) m),(7,AQ 2 ((Z1 O).take j))]) (fun j=>⟨AM 2 1 ((Z1 O).take j) [(1,.cells 2 R)],3⟩) (fun j=>m - j) (fun j=>j≤m) 0 [] (by simp[hRr]) (by simp) ?_
     intro j hj N' hN'
     try simp only at hj hN' ⊢
     by_cases hjl:j<m
     ·obtain⟨b,hb⟩:=hRg j hjl;obtain⟨Dd,Ci⟩:=Y8 hb;have hwj:=Y7 ((j:Int)+1);have hN2:=hN' (j+1);rw[hOs j (by omega)]at hN2
      have hOcj:=hOc j;have hOlj:((Z1 O).take j).length≤1048575:=by rw[lK]; omega
      have hOlk:((Z1 O).take j).length<1048576:=by rw[lK]; omega
      have hjR:(k+1)+j<R.length:=by omega
      generalize (Z1 O).take j=W1 at *;generalize O.getD j 0=z at *;simp[hjl,hb,Ci,hwj,hOlj,hOlk,hRl];exact hN2 [(2,12)] _ _ (by omega) (by omega) (by simp +contextual [hOcj,hRr])
     ·obtain rfl:j=m:=by omega
      have hOcj:=hOc j;simp;exact Z4 hKv [(1,2)] (by simp +contextual [hOcj])
    ·rw[hOL]at hKv;obtain⟨R,hR⟩:∃ R,R=T:=⟨_,rfl⟩
     have hRr:∀ q,Z3 q R=R:=fun q=>by rw[hR]; exact hTr q
     have hRl:R.length=T.length:=by rw[hR]
     have hRg:∀ j,j<m → ∃ b,R[k+j]? = some [.int .i64 (O.getD j 0),.bool b]:=fun j hj=>by
      have hev:¬k % 2=1:=fun e=>hodd ⟨e,by omega⟩
      have e:O.getD j 0=s.getD (k+j) 0:=by
       rw[hOk];unfold I3;rw[iN hev,MW (by omega)]
      rw[e,hR];exact⟨_,hsg _ (by omega)⟩
     have d5:k+m≤T.length:=by omega
     by_cases hm0:m=0
     ·have c1:¬(0:Int)<(m:Int):=by omega
      have hO0:O.length=0:=by omega
      rw[hm0,List.take_zero]at hKv;generalize s.getD k 0=g0 at *;generalize s.getD (s.length - k - 1) 0=b0 at *;simp[h1,h1I,c1,hm0];refine W5 (α:=Unit) (fun _=>[(85,.int .i64 0),(84,.int .i64 0),(83,.sl 1 k 0),(7,.Ae)]) (fun _=>⟨[(1,.cells 2 T)],2⟩) (fun _=>0) (fun _=>True) () [] (by simp[hTr]) trivial ?_
      intro _ _ N hN;simp;exact Z4 hKv [] (by simp)
     ·have hev:decide (k % 2=0)=true:=by simp; omega
      have hgk:=hsg k (by omega)
      obtain⟨hgkl,hgk2⟩:=Y8 hgk;have c1:(0:Int)<(m:Int):=by omega
      have c6:0<m:=by omega
      unfold Eh at hgk hgk2;rw[hev]at hgk hgk2
      try rw[hev]at hga hga2
      generalize s.getD k 0=g0 at *;generalize s.getD (s.length - k - 1) 0=b0 at *;simp[h1,h1I,c1,c6,hgk,hgk2]
      try rw[← hR]
      refine W5 (α:=Nat) (fun j=>[(85,.int .i64 j),(84,.int .i64 m),(83,.sl 1 k m),(7,AQ 2 ((Z1 O).take j))]) (fun j=>⟨AM 2 1 ((Z1 O).take j) [(1,.cells 2 R)],3⟩) (fun j=>m - j) (fun j=>j≤m) 0 [] (by simp[hRr]) (by simp) ?_
      intro j hj N' hN'
      try simp only at hj hN' ⊢
      by_cases hjl:j<m
      ·obtain⟨b,hb⟩:=hRg j hjl;obtain⟨Dd,Ci⟩:=Y8 hb;have hwj:=Y7 ((j:Int)+1);have hN2:=hN' (j+1);rw[hOs j (by omega)]at hN2
       have hOcj:=hOc j;have hOlj:((Z1 O).take j).length≤1048575:=by rw[lK]; omega
       have hOlk:((Z1 O).take j).length<1048576:=by rw[lK]; omega
       have hjR:k+j<R.length:=by omega
       generalize (Z1 O).take j=W1 at *;generalize O.getD j 0=z at *;simp[hjl,hb,Ci,hwj,hOlj,hOlk,hRl];exact hN2 [(2,12)] _ _ (by omega) (by omega) (by simp +contextual [hOcj,hRr])
      ·obtain rfl:j=m:=by omega
       have hOcj:=hOc j;simp;exact Z4 hKv [(1,2)] (by simp +contextual [hOcj])
end Go.Ac
end
section
namespace Go.Ac
open Go Go.AE Go.Proofs
open Go.Plain
def Dc(l:List Int)(k:Nat):Int:=l.getD k 0
theorem Zq(ls:List Int){i:Nat}(h:i<ls.length):(Z1 ls)[i]? = some [.int .i64 (Dc ls i)]:=by
 unfold Z1;rw[gM,gE h,Dc,List.getD,gE h];rfl
theorem pU(Q:List Int)(i:Nat)(x:Int):(Z1 Q).set i [.int .i64 x]=Z1 (Q.set i x):=by
 unfold Z1;exact(List.map_set (f:=fun s=>[Aa.int .i64 s])).symm
theorem Yr{Q:List Int}{i k:Nat}{x:Int}(hi:i<Q.length):Dc (Q.set i x) k=if k=i then x else Dc Q k:=by
 unfold Dc;rw[List.getD_eq_getElem?_getD,List.getD_eq_getElem?_getD,List.getElem?_set];by_cases h:i=k
 ·subst h; simp[hi]
 ·rw[iN h,iN (fun e=>h e.symm)]
theorem tc{ls:List Int}{k:Nat}(hk:k<ls.length):Dc ls.reverse k=Dc ls (ls.length - 1 - k):=by
 unfold Dc;rw[List.getD_eq_getElem?_getD,List.getD_eq_getElem?_getD,List.getElem?_reverse hk]
theorem Z7x{a b:List Int}(hl:a.length=b.length)(h:∀ k,k<a.length→Dc a k=Dc b k):a=b:=by
 refine List.ext_getElem hl fun k h1 h2=>?_
 have:=h k h1;simpa[Dc,List.getD,h1,h2]using this
set_option maxHeartbeats 4000000 in
theorem Z07(ls:List Int)(hl:ls.length≤1000) :
 AV Tryz.prog 145 [.sl 1 0 ls.length] ⟨[(1,.cells 1 (Z1 ls))],2⟩ fun v m=>v=.tuple []∧m=⟨[(1,.cells 1 (Z1 ls.reverse))],2⟩:=by
 refine W9 hm Tryz.func145 Z6o rfl rfl fun K hK=>?_
 have hw1:=Y7 ((ls.length:Int) - 1);have hKv:=hK _ _ ⟨rfl,rfl⟩;clear hK;have Ak:∀ (Q:List Int) q,Z3 q (Z1 Q)=Z1 Q:=fun Q q=>Y1 q _ (W8 Q)
 obtain⟨n,hn⟩:∃ n,ls.length=n:=⟨_,rfl⟩
 rw[hn]at hw1 hl ⊢;simp[hw1];refine W5 (α:=Nat×List Int) (fun a=>[(3,.int .i64 ((n:Int) - 1 - (a.1:Nat))),(2,.int .i64 a.1),(0,.sl 1 0 n)]) (fun a=>⟨[(1,.cells 1 (Z1 a.2))],2⟩) (fun a=>n - a.1)
  (fun a=>a.1≤n∧a.2.length=n ∧ ∀ k,k<n→Dc a.2 k=if k<a.1∨n - 1 - a.1<k∧0<a.1 then Dc ls (n - 1 - k)else Dc ls k) (0,ls) [] (by simp[Ak]) ⟨by simp,hn,by simp⟩ ?_
 rintro⟨i,Q⟩ ⟨hi,hQ,hI⟩ N hN;simp only at hi hQ hI hN ⊢;by_cases hlt:(i:Int)<(n:Int) - 1 - i
 ·have hj:((n:Int) - 1 - i).toNat=n - 1 - i:=by omega
  have hj0:(i:Int)≤(n:Int) - 1:=by omega
  obtain⟨j,hj2⟩:∃ j,n - 1 - i=j:=⟨_,rfl⟩
  rw[hj2]at hj;have hil:i<n:=by omega
  have hjl:j<n:=by omega
  have hij:¬i=j:=by omega
  have hpg:=Zq Q (i:=i) (by omega)
  have hqg:=Zq Q (i:=j) (by omega)
  obtain⟨hpl,hpg2⟩:=Y8 hpg;obtain⟨hql,hqg2⟩:=Y8 hqg;have hw2:=Y7 ((i:Int)+1);have hw3:=M2 ((n:Int) - 1 - i - 1) ((n:Int) - 1 - (i+1));have hs:=Zq (Q.set i (Dc Q j)) (i:=j) (by simp; omega)
  rw[Yr (by omega),iN (fun e=>hij e.symm)]at hs
  have hset1:=pU Q i (Dc Q j);have hset2:=pU (Q.set i (Dc Q j)) j (Dc Q i);rw[← hset1]at hs hset2;have hQl:(Z1 Q).length=n:=by rw[O4,hQ]
  have hN':=hN (i+1,(Q.set i (Dc Q j)).set j (Dc Q i)) [];simp only at hN';rw[← hset2]at hN';have hrq:=Ak ((Q.set i (Dc Q j)).set j (Dc Q i));rw[← hset2]at hrq;have hfin:∀ k,k<n→Dc ((Q.set i (Dc Q j)).set j (Dc Q i)) k=if k<i+1∨n - 1 - (i+1)<k∧0<i+1 then Dc ls (n - 1 - k)else Dc ls k:=by
   intro k hk;rw[Yr (by simp; omega),Yr (by omega)]
   by_cases h1:k=j
   ·subst h1;rw[iP rfl,iP (by omega),hI i (by omega),iN (by omega)]
    congr 1
    omega
   ·rw[iN h1];by_cases h2:k=i
    ·subst h2;rw[iP rfl,iP (by omega),hI j (by omega),iN (by omega)]
     congr 1
     omega
    ·rw[iN h2,hI k hk];by_cases h3:k<i∨n - 1 - i<k∧0<i
     ·rw[iP h3,iP (by omega)]
     ·rw[iN h3,iN (by omega)]
  have hQs:((Q.set i (Dc Q j)).set j (Dc Q i)).length=n:=by simp[hQ]
  generalize (Q.set i (Dc Q j)).set j (Dc Q i)=Q2 at *;clear hset1 hset2;generalize Z1 Q=M at *;generalize Dc Q i=a at *;generalize Dc Q j=b at *;obtain⟨hsl,hs2⟩:=Y8 hs;simp[hlt,hj,hj0,hil,hjl,hpg,hpg2,hqg,hqg2,hw2,hw3,hs,hs2,hQl];exact hN' _ _ (by omega) ⟨by omega,hQs,hfin⟩ (by simp[hrq])
 ·have hQr:Q=ls.reverse:=by
   refine Z7x (by simp[hQ,hn]) fun k hk=>?_
   rw[hQ]at hk;rw[tc (by omega),hn,hI k hk]
   split
   ·rfl
   ·congr 1
    omega
  rw[← hQr]at hKv;simp[hlt];exact Z4 hKv [] (by simp[Ak])
set_option maxRecDepth 100000 in
set_option maxHeartbeats 8000000 in
theorem uX(w:List Int)(h0:w≠[])(hl:w.length≤400)(hb:∀ i,i<w.length→0≤w.getD i 0∧w.getD i 0≤1000):Al Tryz.prog 93 [.Aj (Z1 w)] (.Aj (Z1 (U7 w))):=by
 refine E5 hm 4 Tryz.func93 Ydn rfl rfl (by simp only[X8,Aa.closed,W8,Bool.and_true]) (by simp only[Aa.closed,W8]) fun K hK=>?_
 have hll:=Jj w;have hne:¬Z1 (U7 w)=[]:=fun e=>h0 (List.length_eq_zero_iff.1 (by rw[← hll,← O4,e]; rfl))
 have hKv:∀ (b n:Nat),K (.sl b 0 w.length) ⟨[(b,.cells 1 (Z1 (U7 w)))],n⟩:=fun b n=>hK _ _ (by
  have:=SL (n:=3) (get:=Ad.get ⟨[(b,.cells 1 (Z1 (U7 w)))],n⟩) (b:=b) (k:=1) (rows:=Z1 (U7 w)) (by simp) (LQ _)
  rw[O4,hll]at this;exact this)
 clear hK;have hr:∀ q,Z3 q (Z1 w)=Z1 w:=fun q=>Y1 q _ (W8 w)
 have hlu:=O4 w;have hpos:0<w.length:=List.length_pos_iff.2 h0;have hcm:=fun a b ha hb'=>Ydp w (by omega) hb a b ha hb'
 have hls:∀ j,j≤(w.length - 1) / 2→ES w j<w.length:=fun j hj=>by
  obtain⟨i,h1,h2⟩:=Zm w j;omega
 have hlN:Z1 (U7 w)=(Z1 w).drop (ES w ((w.length - 1) / 2))++(Z1 w).take (ES w ((w.length - 1) / 2)):=by
  unfold U7 Go.Plain.AO Z1;rw[List.map_append,List.map_drop,List.map_take]
 rw[hlN]at hKv;clear hlN hne hll;have hU1:∀ x,x∈Z1 w→x.length=1:=fun x hx=>by simp[Z1]at hx; obtain⟨y,_,rfl⟩:=hx; rfl
 generalize Z1 w=U at *;have hU2:=eq_true hU1;simp;refine W5 (α:=Nat) (fun j=>[(6,.int .i64 (2*(j:Int)+2)),(5,.func (.func 144) [] [.ptr 2 0 0,.ptr 1 0 0]),(4,.int .i64 (ES w j)),(3,.ptr 2 0 0),(1,.ptr 1 0 0)])
  (fun _=>⟨[(2,.cells 1 [[.int .i64 w.length]]),(1,.cells 1 [[.Aj U]])],3⟩) (fun j=>w.length - j) (fun j=>j≤(w.length - 1) / 2) 0 [(2,5)] (by simp[hr,hlu,ES]) (by simp) ?_
 intro j hj N hN
 try simp only at hj hN ⊢
 have hfl:=hls j hj;by_cases hlt:2*j+2<w.length
 ·have hltI:2*(j:Int)+2<(w.length:Int):=by omega
  have hc:=hcm (2*(j+1)) (ES w j) (by omega) hfl
  have e2:((2*(j+1):Nat):Int)=2*(j:Int)+2:=by omega
  rw[e2]at hc;have hw:=M2 (2*(j:Int)+2+2) (2*((j+1:Nat):Int)+2);have hN2:=hN (j+1) [];have hst:ES w (j+1)=if O1 (Go.Plain.AO w (2*(j+1))) (Go.Plain.AO w (ES w j))<0 then 2*(j+1)else ES w j:=rfl
  rw[hst]at hN2;generalize O1 (Go.Plain.AO w (2*(j+1))) (Go.Plain.AO w (ES w j))=y at *;simp[hltI];refine Z6 hc [(1,2),(2,1)] (by simp) (by simp[hr]) (by simp) ?_
  rintro r sm ⟨rfl,rfl⟩;by_cases hy:y<0
  ·rw[iP hy,e2]at hN2;simp[hy,hw];exact hN2 _ _ (by omega) (by omega) (by simp[hr])
  ·rw[iN hy]at hN2;simp[hy,hw];exact hN2 _ _ (by omega) (by omega) (by simp[hr])
 ·have hltI:¬2*(j:Int)+2<(w.length:Int):=by omega
  have hje:(w.length - 1) / 2=j:=by omega
  rw[hje]at hKv;clear hje;have hla:=hls j (by omega)
  clear hN hcm hls;generalize ES w j=a at *;have d1:a≤w.length:=by omega
  have d2:¬U.drop a=[]:=fun e=>by
   have:=congrArg List.length e;rw[List.length_drop,hlu]at this;simp at this;omega
  have d3:w.length - a≤1048576:=by omega
  have d4:∀ q,Z3 q (U.drop a)=U.drop a:=fun q=>by rw[H4,List.map_drop,← H4,hr]
  have d5:∀ q,Z3 q (U.take a)=U.take a:=fun q=>by rw[H4,List.map_take,← H4,hr]
  have d6:U.take w.length=U:=by rw[← hlu,List.take_length]
  have d7:(U.drop a).length=w.length - a:=by rw[List.length_drop,hlu]
  have d8:(U.take a).length=a:=by rw[lK,hlu]; omega
  by_cases ha0:a=0
  ·subst ha0;have d9:w.length≤1048576:=by omega
   have d2':¬U=[]:=by simpa using d2
   simp only[List.drop_zero,List.take_zero,List.append_nil]at hKv;have d10:U.drop w.length=[]:=List.drop_eq_nil_of_le (by omega)
   simp[hltI,hlu,hU2,d2',d6,d9,d10,WO,L1];exact Z4 (hKv 1 2) [(1,9)] (by simp[hr])
  ·have d9:¬w.length≤w.length - a:=by omega
   have e1:a≤w.length:=by omega
   have e2:w.length - a+a=w.length:=by omega
   have e3:¬U.take a=[]:=fun e=>by rw[e]at d8; simp at d8; omega
   have e4:w.length≤1048576:=by omega
   have hD1:(∀ x,x∈U.drop a→x.length=1)=True:=eq_true fun x hx=>hU1 x (List.mem_of_mem_drop hx)
   have hB1:(∀ x,x∈U.take a→x.length=1)=True:=eq_true fun x hx=>hU1 x (List.mem_of_mem_take hx)
   generalize hD:U.drop a=D at *;generalize hB:U.take a=B at *;simp[hltI,hlu,hU2,ha0,hD,hB,hD1,hB1,d1,d2,d3,d6,d7,d8,d9,e2,e3,e4,WO,L1];have d11:D.take (w.length - a)=D:=by rw[← d7,List.take_length]
   rw[d11];exact Z4 (hKv 1 2) [(1,13)] (by simp[d4,d5])
theorem uh(w:List Int)(h0:w≠[])(hl:w.length≤400):Al Tryz.prog 94 [.Aj (Z1 w)] (.Aj (Z1 w.reverse)):=by
 refine E5 hm 4 Tryz.func94 xl rfl rfl (by simp only[X8,Aa.closed,W8,Bool.and_true]) (by simp only[Aa.closed,W8]) fun K hK=>?_
 have hne:Z1 w≠[]:=fun e=>h0 (List.length_eq_zero_iff.1 (by rw[← O4,e]; rfl))
 have hKv:=hK (.sl 1 0 w.length) ⟨[(1,.cells 1 (Z1 w.reverse))],2⟩ (by
  have:=SL (n:=3) (get:=Ad.get ⟨[(1,.cells 1 (Z1 w.reverse))],2⟩) (b:=1) (k:=1) (rows:=Z1 w.reverse) (by simp) (LQ _)
  rw[O4,List.length_reverse]at this;exact this)
 clear hK;have hc:=yY (Z1 w) hne (by rw[O4]; omega) (tQ w) (W8 w)
 have hv:=Z07 w (by omega)
 have hr:∀ q,Z3 q (Z1 w)=Z1 w:=fun q=>Y1 q _ (W8 w)
 have hr2:∀ q,Z3 q (Z1 w.reverse)=Z1 w.reverse:=fun q=>Y1 q _ (W8 _)
 have hlu:=O4 w;rw[hlu]at hc;generalize Z1 w.reverse=V at *;generalize Z1 w=U at *;simp;refine Z6 hc [] (by simp[hr]) (by simp) (by simp) ?_
 rintro r sm ⟨rfl,rfl⟩;simp[hr];refine Z6 hv [(1,5)] (by simp) (by simp[hr]) (by simp) ?_
 rintro r sm ⟨rfl,rfl⟩;simp[hr2];exact Z4 hKv [(1,5)] (by simp[hr2])
theorem tH:∀ (w s:List Int) (x:Int),x∈stk s w→x∈s∨x∈w
 | [],s,x,h=>.inl h
 | g :: w,s,x,h=>by
  rcases tH w _ x h with h|h
  ·cases s with
   | nil=>simp[DT]at h; exact .inr (by simp[h])
   | cons t r=>
    simp only[DT]at h;split at h
    ·exact .inl (List.mem_cons_of_mem _ h)
    ·rcases mC.1 h with h|h
     ·exact .inr (by simp[h])
     ·exact .inl h
  ·exact .inr (List.mem_cons_of_mem _ h)
theorem yS:∀ (k:Nat) (s:List Int) (x:Int),x∈(Jc k s).1→x∈s
 | 0,s,x,h=>h
 | k+1,s,x,h=>by
  simp only[Jc]at h;split at h
  ·have:=yS k _ x h;exact List.mem_of_mem_drop ((List.dropLast_sublist _).subset this)
  ·exact h
theorem Z32{w:List Int}{x:Int}(h:x∈W6 w):x∈w:=by
 unfold W6 I3 at h;have h2:x∈(Jc (Cf w).length (Cf w)).1:=by
  split at h
  ·generalize (Jc (Cf w).length (Cf w)).1=c at *;cases c with
   | nil=>exact h
   | cons a r=>simp[T6]at h; simp; exact h.symm
  ·exact h
 have h3:=yS _ _ _ h2;unfold Cf at h3;rcases tH _ _ _ (List.mem_reverse.1 h3)with h|h
 ·cases h
 ·exact h
theorem nZ(w:List Int):(W6 w).length≤w.length:=by
 unfold W6;rw[We];have h1:=sC (RG (Cf w).length (Cf w) (lR _));have h2:=(YV w w.length (lR _)).2;rw[sD]at h2;omega
theorem ZX{l:List Int}{i:Nat}(h:i<l.length):l.getD i 0∈l:=by
 rw[List.getD,gE h];exact List.getElem_mem h
theorem Z1d{w:List Int}(h:W6 w≠[]):DR w≠[]:=by
 unfold DR EM;rw[iN h];split
 ·exact fun e=>h (by have:=Jj (W6 w).reverse; rw[e]at this; simpa using this.symm)
 ·exact fun e=>h (by have:=Jj (W6 w); rw[e]at this; simpa using this.symm)
set_option maxRecDepth 100000 in
theorem Z46(w:List Int)(hl:w.length≤400)(hb:∀ x,x∈w→0≤x∧x≤1000):Al Tryz.prog 61 [.Aj (Z1 w)] (BQ (Z1 (DR w))):=by
 have hrd:=ye w hl;have Ci:∀ x,x∈W6 w→0≤x∧x≤1000:=fun x hx=>hb x (Z32 hx)
 have hle:=nZ w;have hr:∀ q,Z3 q (Z1 w)=Z1 w:=fun q=>Y1 q _ (W8 w)
 by_cases h0:W6 w=[]
 ·have hn:DR w=[]:=by unfold DR EM; rw[iP h0]
  rw[hn];refine E5 hm 4 Tryz.func61 aF rfl rfl (by simp only[X8,Aa.closed,W8,Bool.and_true]) rfl fun K hK=>?_
  have hKv:=hK .Ae ⟨[],1⟩ rfl;clear hK;rw[h0]at hrd;have hrd:Al Tryz.prog 92 [.Aj (Z1 w)] .Ae:=hrd;generalize Z1 w=U at *;simp;refine Y5 hrd ?_;simp;exact Z4 hKv [] (by simp)
 ·have hn0:=Z1d h0;have hnv:∀ (l:List Int),l≠[]→BQ (Z1 l)=.Aj (Z1 l):=fun l hl=>Vk (by simpa[Z1]using hl)
  rw[hnv _ hn0];rw[hnv _ h0]at hrd;refine E5 hm 4 Tryz.func61 aF rfl rfl (by simp only[X8,Aa.closed,W8,Bool.and_true]) (by simp only[Aa.closed,W8]) fun K hK=>?_
  have hKv:=hK (.Aj (Z1 (DR w))) ⟨[],1⟩ (rH (LQ _));clear hK;have hl1:=uX (W6 w) h0 (by omega) fun i hi=>Ci _ (ZX hi)
  have hrv:=uh (W6 w) h0 (by omega)
  have hl2:=uX (W6 w).reverse (by simpa using h0) (by rw[List.length_reverse]; omega) fun i hi=>Ci _ (List.mem_reverse.1 (ZX hi))
  have hcp:=Z7w (U7 (W6 w).reverse) (U7 (W6 w)) (by rw[Jj,List.length_reverse]; omega) (by rw[Jj,Jj,List.length_reverse])
  have GX:DR w=if O1 (U7 (W6 w).reverse) (U7 (W6 w))<0 then U7 (W6 w).reverse else U7 (W6 w):=by unfold DR EM; rw[iN h0]
  rw[GX]at hKv;have Fa:¬(W6 w).length=0:=by simpa using h0
  have hou:=O4 (W6 w);have q1:∀ q,Z3 q (Z1 (W6 w))=Z1 (W6 w):=fun q=>Y1 q _ (W8 _)
  have q2:∀ q,Z3 q (Z1 (U7 (W6 w)))=Z1 (U7 (W6 w)):=fun q=>Y1 q _ (W8 _)
  have q3:∀ q,Z3 q (Z1 (U7 (W6 w).reverse))=Z1 (U7 (W6 w).reverse):=fun q=>Y1 q _ (W8 _)
  have hsg:∀ x:Int,B8 x<0↔x<0:=fun x=>by unfold B8; split<;>(try split)<;>omega
  generalize (W6 w).length=n at *;generalize O1 (U7 (W6 w).reverse) (U7 (W6 w))=y at *;by_cases hy:y<0
  ·rw[iP hy]at hKv;have hy2:=(hsg y).2 hy;generalize B8 y=z at *;generalize Z1 (U7 (W6 w).reverse)=B at *;generalize Z1 (U7 (W6 w))=A at *;generalize Z1 (W6 w).reverse=R at *;generalize Z1 (W6 w)=S at *;generalize Z1 w=U at *;have hSl:¬S.length=0:=by omega
   have hS:¬S=[]:=fun e=>hSl (by rw[e]; rfl)
   simp;refine Y5 hrd ?_;simp[hou,Fa,hS];refine Y5 hl1 ?_;simp;refine Y5 hrv ?_;simp;refine Y5 hl2 ?_;simp;refine Y5 hcp ?_;simp[hy2];exact Z4 hKv [] (by simp[q3])
  ·rw[iN hy]at hKv;have hy2:¬B8 y<0:=fun e=>hy ((hsg y).1 e)
   generalize B8 y=z at *;generalize Z1 (U7 (W6 w).reverse)=B at *;generalize Z1 (U7 (W6 w))=A at *;generalize Z1 (W6 w).reverse=R at *;generalize Z1 (W6 w)=S at *;generalize Z1 w=U at *;have hSl:¬S.length=0:=by omega
   have hS:¬S=[]:=fun e=>hSl (by rw[e]; rfl)
   simp;refine Y5 hrd ?_;simp[hou,Fa,hS];refine Y5 hl1 ?_;simp;refine Y5 hrv ?_;simp;refine Y5 hl2 ?_;simp;refine Y5 hcp ?_;simp[hy2];exact Z4 hKv [] (by simp[q2])
end Go.Ac
end
section
namespace Go.Ac
open Go Go.AE Go.Proofs
open Go.Plain
theorem ya{get:Nat→Option Ai}{l:List Int}(e:Int):X9 get 4 (.tuple [BQ (Z1 l),.int .i64 e])=some (.tuple [BQ (Z1 l),.int .i64 e]):=by
 have:=VQ (get:=get) (n:=1) (LQ (get:=get) (n:=1) l);rw[X9];simp only[U1];rw[this];rfl
theorem eE{get:Nat→Option Ai}{b k n len:Nat}{rows:List (List Aa)}(h:get b=some (.cells k rows))(hl:rows.length=len)(hs:∀ row,row∈rows → ∀ x,x∈row→X9 get n x=some x):U1 (X9 get (n+1)) [.sl b 0 len]=some [.Aj rows]:=by
 have:=SL h hs;rw[hl]at this;simp only[U1,this]
set_option maxRecDepth 100000 in
set_option maxHeartbeats 8000000 in
theorem Z1t(F f:Int)(hF:0≤F∧F≤40)(hf:1≤f∧f≤F)(w:List Int)(h0:w≠[])(h2:w.length % 2=0)(hl:w.length≤400)(hb:∀ g,g∈w→0≤g∧g≤F) :
 Al Tryz.prog 28 [.int .i64 F,.Aj (Z1 w),.int .i64 f] (.tuple [BQ (Z1 (DR (w.map (I0 f)))),.int .i64 0]):=by
 refine E5 hm 4 Tryz.func28 zL rfl rfl (by simp only[X8,Aa.closed,W8,Bool.and_true]) (by simp[Aa.closed,X8,Ng (W8 _)]) fun K hK=>?_
 have hKv:=fun n=>hK (.tuple [BQ (Z1 (DR (w.map (I0 f)))),.int .i64 0]) ⟨[],n⟩ (ya 0)
 clear hK;have Sc:=Z4u F hF.1 hF.2 w h0 h2 hl hb;have hne:Z1 w≠[]:=fun e=>h0 (List.length_eq_zero_iff.1 (by rw[← O4,e]; rfl))
 have BT:=yY (Z1 w) hne (by rw[O4]; omega) (tQ w) (W8 w)
 have hnm:=Z46 (w.map (I0 f)) (by rw[lM]; exact hl) fun x hx=>by
  obtain⟨g,hg,rfl⟩:=mM.1 hx;have:=hb g hg;unfold I0;split<;>omega
 obtain⟨R,hR⟩:∃ R:Nat→List (List Aa),∀ i,R i=Z1 ((w.take i).map (I0 f)++w.drop i):=⟨fun i=>_,fun i=>rfl⟩
 have hR0:R 0=Z1 w:=by rw[hR]; simp
 have hRn:Z1 (w.map (I0 f))=R w.length:=by rw[hR]; simp
 have hRl:∀ i,(R i).length=w.length:=fun i=>by rw[hR,O4]; simp; omega
 have hRc:∀ i q,Z3 q (R i)=R i:=fun i q=>by rw[hR]; exact Y1 q _ (W8 _)
 have hRg:∀ i,i<w.length→(R i)[i]? = some [.int .i64 (w.getD i 0)]:=fun i h=>by
  have e:((w.take i).map (I0 f)++w.drop i).getD i 0=w.getD i 0:=by
   rw[List.getD,List.getElem?_append_right (by simp; omega),lM,lK,show i - min i w.length=0 by omega,List.getElem?_drop,Nat.add_zero]
   rfl
  rw[hR,ig (by simp; omega),e]
 have hRs:∀ i,i<w.length→R (i+1)=(R i).set i [.int .i64 (I0 f (w.getD i 0))]:=fun i h=>by
  rw[hR,hR];unfold Z1;rw[← List.map_set]
  congr 1
  have e1:(w.take (i+1)).map (I0 f)=(w.take i).map (I0 f)++[I0 f (w.getD i 0)]:=by
   rw[List.take_add_one,gE h,List.map_append,List.getD,gE h];rfl
  have e2:w.drop i=w[i] :: w.drop (i+1):=List.drop_eq_getElem_cons h;rw[e1,e2,List.set_append_right _ _ (by simp; omega),lM,lK,show i - min i w.length=0 by omega,List.append_assoc]
  rfl
 have hbg:∀ i,i<w.length→0≤w.getD i 0∧w.getD i 0≤40:=fun i hi=>by have:=hb _ (ZX hi); omega
 have hlu:=O4 w;rw[hlu]at BT;have hRn2:=hRc w.length;rw[hRn]at hnm;rw[← hR0]at Sc BT ⊢;have f1:¬f<1:=by omega
 have f2:¬F<f:=by omega
 simp;refine Y5 Sc ?_;simp[f1,f2];refine Z6 BT [] (by simp[hRc]) (by simp) (by simp) ?_
 rintro r sm ⟨rfl,rfl⟩;simp[hRc];refine W5 (α:=Nat) (fun i=>[(29,.int .i64 i),(28,.int .i64 w.length),(27,.sl 1 0 w.length),(9,.sl 1 0 w.length),(2,.int .i64 f)]) (fun i=>⟨[(1,.cells 1 (R i))],2⟩) (fun i=>w.length - i) (fun i=>i≤w.length) 0 [(1,19)] (by simp[hRc]) (by simp) ?_
 intro i hi N hN
 try simp only at hi hN ⊢
 by_cases hlt:i<w.length
 ·have hg:=hRg i hlt;obtain⟨hgl,hg2⟩:=Y8 hg;have hw:=Y7 ((i:Int)+1);have hN2:=hN (i+1) [];rw[hRs i hlt]at hN2;have hRci:=hRc i;have hRsc:=hRc (i+1);rw[hRs i hlt]at hRsc;have hbi:=hbg i hlt;have hRli:=hRl i;unfold I0 at hN2 hRsc;generalize w.getD i 0=g at *;have hw2:=Y7 (g - 1);by_cases hfg:f≤g
  ·rw[iP hfg]at hN2 hRsc;simp[hlt,hRli,hg,hg2,hfg,hw,hw2];exact hN2 _ _ (by omega) (by omega) (by simp[hRsc])
  ·rw[iN hfg]at hN2;have hself:(R i).set i [.int .i64 g]=R i:=by rw[← hg2]; exact List.set_getElem_self _
   rw[hself]at hN2;simp[hlt,hRli,hg,hg2,hfg,hw];exact hN2 _ _ (by omega) (by omega) (by simp[hRci])
 ·obtain rfl:i=w.length:=by omega
  have hRi:R w.length=Z1 (w.map (I0 f)):=hRn.symm;simp;refine Z9n hnm [1] (n:=4) (eE (k:=1) (by simp[K2]) (hRl w.length) (by rw[hRi]; exact LQ _)) ?_
  simp;exact Z4 (hKv 1) [] (by simp)
set_option maxRecDepth 100000 in
theorem Z80(F f:Int)(hF:0≤F∧F≤40)(hf:1≤f∧f≤F) :
 Al Tryz.prog 28 [.int .i64 F,.Ae,.int .i64 f] (.tuple [.Ae,.int .i64 0]):=by
 have hix:Al Tryz.prog 276 [.Ae,.func (.func 216) [] []] (.int .i64 (-1)):=by
  refine R2 hm Tryz.func276 XY rfl rfl rfl trivial fun K hK=>?_
  simp;refine W5 (α:=Unit) (fun _=>[(8,.int .i64 0),(7,.int .i64 0),(1,.func (.func 216) [] []),(0,.Ae)]) (fun _=>⟨[],1⟩) (fun _=>0) (fun _=>True) () [] (by simp) trivial ?_
  intro _ _ N hN;simp;exact Z4 hK [] (by simp)
 have hcf:Al Tryz.prog 215 [.Ae,.func (.func 216) [] []] (.bool false):=by
  refine R2 hm Tryz.func215 ZJ rfl rfl rfl trivial fun K hK=>?_
  simp;refine Y5 hix ?_;simp;exact Z4 hK [] (by simp)
 have hwd:Al Tryz.prog 142 [.Ae] (.bool true):=by
  refine R2 hm Tryz.func142 xY rfl rfl rfl trivial fun K hK=>?_
  have e3:IntKind.i64.wrap 0=0:=rfl;simp[e3];refine Y5 hcf ?_;simp;exact Z4 hK [] (by simp)
 have hvd:Al Tryz.prog 91 [.int .i64 F,.Ae] (.bool true):=by
  refine R2 hm Tryz.func91 tI rfl rfl rfl trivial fun K hK=>?_
  have hf:=Uc F hF.1 hF.2;simp;refine Y5 hf ?_;simp;refine Y5 hwd ?_;simp;exact Z4 hK [] (by simp)
 have Sc:Al Tryz.prog 59 [.int .i64 F,.Ae] (.int .i64 0):=by
  refine R2 hm Tryz.func59 sH rfl rfl rfl trivial fun K hK=>?_
  simp;refine Y5 hvd ?_;simp;exact Z4 hK [] (by simp)
 have BT:Al Tryz.prog 60 [.Ae] .Ae:=by
  refine E5 hm 4 Tryz.func60 sJ rfl rfl rfl rfl fun K hK=>?_
  have hK':=hK .Ae ⟨[],1⟩ rfl;clear hK;simp[U6,EJ,Kl,K8];exact Z4 hK' [] (by simp)
 have hrd:Al Tryz.prog 92 [.Ae] .Ae:=by
  refine E5 hm 4 Tryz.func92 mW rfl rfl rfl rfl fun K hK=>?_
  have hKv:=hK .Ae ⟨[],1⟩ rfl;clear hK;simp;refine W5 (α:=Unit) (fun _=>[(12,.int .i64 0),(11,.int .i64 0),(10,.Ae),(3,.Ae)]) (fun _=>⟨[],1⟩) (fun _=>0) (fun _=>True) () [] (by simp) trivial ?_
  intro _ _ N hN;simp;refine W5 (α:=Unit) (fun _=>[(3,.Ae)]) (fun _=>⟨[],1⟩) (fun _=>0) (fun _=>True) () [] (by simp) trivial ?_
  intro _ _ N hN;simp;refine W5 (α:=Unit) (fun _=>[(85,.int .i64 0),(84,.int .i64 0),(83,.Ae),(7,.Ae)]) (fun _=>⟨[],1⟩) (fun _=>0) (fun _=>True) () [] (by simp) trivial ?_
  intro _ _ N hN;simp;exact Z4 hKv [] (by simp)
 have hnm:Al Tryz.prog 61 [.Ae] .Ae:=by
  refine E5 hm 4 Tryz.func61 aF rfl rfl rfl rfl fun K hK=>?_
  have hKv:=hK .Ae ⟨[],1⟩ rfl;clear hK;simp;refine Y5 hrd ?_;simp;exact Z4 hKv [] (by simp)
 refine E5 hm 4 Tryz.func28 zL rfl rfl rfl rfl fun K hK=>?_
 have hKv:=hK (.tuple [.Ae,.int .i64 0]) ⟨[],1⟩ rfl;clear hK;have f1:¬f<1:=by omega
 have f2:¬F<f:=by omega
 simp;refine Y5 Sc ?_;simp[f1,f2];refine Y5 BT ?_;simp;refine W5 (α:=Unit) (fun _=>[(29,.int .i64 0),(28,.int .i64 0),(27,.Ae),(9,.Ae),(2,.int .i64 f)]) (fun _=>⟨[],1⟩) (fun _=>0) (fun _=>True) () [] (by simp) trivial ?_
 intro _ _ N hN;simp;refine Y5 hnm ?_;simp;exact Z4 hKv [] (by simp)
theorem pR(F f:Int)(hF:0≤F∧F≤40)(hf:1≤f∧f≤F)(w:List Int)(h2:w.length % 2=0)(hl:w.length≤400)(hb:∀ g,g∈w→0≤g∧g≤F) :
 Al Tryz.prog 28 [.int .i64 F,BQ (Z1 w),.int .i64 f] (.tuple [BQ (Z1 (DR (w.map (I0 f)))),.int .i64 0]):=by
 by_cases h0:w=[]
 ·subst h0;exact Z80 F f hF hf
 ·rw[Vk (rows:=Z1 w) (by simpa[Z1]using h0)]
  exact Z1t F f hF hf w h0 h2 hl hb
set_option maxHeartbeats 4000000 in
theorem Z39(l:List Int)(hl:l.length≤10000):Al Tryz.prog 29 [BQ (Z1 l),BQ (Z1 l)] (.bool true):=by
 by_cases h0:l=[]
 ·subst h0;show Al Tryz.prog 29 [.Ae,.Ae] (.bool true);refine R2 hm Tryz.func29 zC rfl rfl rfl trivial fun K hK=>?_
  simp;refine W5 (α:=Unit) (fun _=>[(5,.int .i64 0),(0,.Ae)]) (fun _=>⟨[],1⟩) (fun _=>0) (fun _=>True) () [] (by simp) trivial ?_
  intro _ _ N hN;simp;exact Z4 hK [] (by simp)
 ·rw[Vk (rows:=Z1 l) (by simpa[Z1]using h0)]
  refine R2 hm Tryz.func29 zC rfl rfl (by simp only[X8,Aa.closed,W8,Bool.and_true]) trivial fun K hK=>?_
  have hr:∀ q,Z3 q (Z1 l)=Z1 l:=fun q=>Y1 q _ (W8 l)
  have hlen:=O4 l;have hg:=fun i hi=>ig (l:=l) (i:=i) hi
  generalize Z1 l=rows at *;simp;refine W5 (α:=Nat) (fun i=>[(5,.int .i64 i),(1,.Aj rows),(0,.Aj rows)]) (fun _=>⟨[],1⟩) (fun i=>l.length - i) (fun i=>i≤l.length) 0 [] (by simp[hr]) (by simp) ?_
  intro i hi N hN
  try simp only at hi hN ⊢
  by_cases hlt:i<l.length
  ·have hgi:=hg i hlt;obtain⟨hgl,hg2⟩:=Y8 hgi;have hw:=Y7 ((i:Int)+1);have hN':=hN (i+1);generalize l.getD i 0=x at *;simp[hlt,hlen,hgi,hg2,hw];exact hN' [] _ _ (by omega) (by omega) (by simp[hr])
  ·obtain rfl:i=l.length:=by omega
   simp[hlen];exact Z4 hK [] (by simp)
end Go.Ac
end
section
namespace Go.Ac
open Go Go.AE Go.Proofs
open Go.Plain
theorem Z8t(fs:List Fg)(re lo F:Int)(ls:List Lt)(m:Int):Al Tryz.prog 9 [Dx fs re lo,cV F ls,.int .i64 m] (.bool (decide (fs.length≤60)&&decide ((ls.length:Int)≤m))):=by
 refine R2 hm Tryz.func9 vg rfl rfl (by simp[X8,Aa.closed,H9,X5,Dx]) trivial fun K hK=>?_
 have hs:=uk fs re lo;have hlen:(ls.map Ab).length=ls.length:=lM ..;unfold Dx cV at *;generalize ls.map Ab=rows at *;generalize fs.map Ax=F3 at *;by_cases h1:fs.length≤60
 ·rw[decide_eq_true h1,Bool.true_and]at hK;rw[decide_eq_true h1]at hs;simp;refine Y5 hs ?_;simp[hlen];exact Z4 hK [] (by simp)
 ·rw[decide_eq_false h1,Bool.false_and]at hK;rw[decide_eq_false h1]at hs;simp;refine Y5 hs ?_;simp;exact Z4 hK [] (by simp)
theorem vY{F:Int}{ls:List Lt}(he:U0 F ls=0)(hl:ls.length≤400):(U4 ls).length % 2=0∧(U4 ls).length≤400 ∧ ∀ g,g∈U4 ls→0≤g∧g≤F:=by
 by_cases h0:ls=[]
 ·subst h0;exact⟨rfl,by simp[U4],fun g hg=>by simp[U4]at hg⟩
 ·have hv:=MG he h0;have h1:(U4 ls).length=Z0 ls:=by unfold U4; rw[lM]; rfl
  refine⟨by rw[h1]; exact hv.IN,by have:=wQ ls; omega,fun g hg=>?_⟩
  unfold U4 at hg;obtain⟨l,hm,rfl⟩:=mM.1 hg;obtain⟨m1,m2⟩:=List.mem_filter.1 hm;have:=hv.key m1 m2;omega
theorem vW(F:Int)(ls:List Lt)(hl:ls.length≤400)(he:U0 F ls=0):Al Tryz.prog 27 [cV F ls] (.tuple [BQ (Z1 (U4 ls)),.int .i64 0]):=by
 by_cases h0:ls=[]
 ·subst h0;exact Z8s F he
 ·exact Z1f F ls hl he h0
theorem Z57{F:Int}{ls:List Lt}(he:U0 F ls=0):0≤F∧F≤40:=by
 unfold U0 at he;split at he
 ·omega
 ·split at he<;>omega
set_option maxRecDepth 100000 in
set_option maxHeartbeats 8000000 in
theorem Z45(fs:List Fg)(re lo F:Int)(ls:List Lt)(f:Int):Al Tryz.prog 7 [Dx fs re lo,cV F ls,.int .i64 f] (.bool true):=by
 refine R2 hm Tryz.func7 y3 rfl rfl (by simp[X8,Aa.closed,H9,X5,Dx]) trivial fun K hK=>?_
 have hs:=Z8t fs re lo F ls 40;have hk:=vj;have Ap:∀ q,Z3 q (fs.map Ax)=fs.map Ax:=fun q=>Y1 q _ (H9 fs)
 have hrl:∀ q,Z3 q (ls.map Ab)=ls.map Ab:=fun q=>Y1 q _ (X5 ls)
 by_cases hsm:fs.length≤60∧ls.length≤40
 rotate_left
 ·have hb:(decide (fs.length≤60)&&decide ((ls.length:Int)≤40))=false:=by
   by_cases h1:fs.length≤60
   ·rw[decide_eq_true h1,decide_eq_false (by omega)]; rfl
   ·rw[decide_eq_false h1]; rfl
  rw[hb]at hs;unfold Dx cV at *;generalize ls.map Ab=rows at *;generalize fs.map Ax=F3 at *;simp;refine Y5 hs ?_;simp;refine Y5 hk ?_;simp;exact Z4 hK [] (by simp)
 ·have hb:(decide (fs.length≤60)&&decide ((ls.length:Int)≤40))=true:=by rw[decide_eq_true hsm.1,decide_eq_true (by omega)]; rfl
  rw[hb]at hs;have hd:=dI fs re lo F f ls (by omega) (by omega)
  have hd2:AV Tryz.prog 12 [Dx fs re lo,cV F ls,.agg (Bt f)] ⟨[],1⟩ fun r m=>
   (∃ e:Int,e≠0∧r=.tuple [.agg [.int .i64 0,.Ae],.Ae,.int .i64 e]∧m=⟨[],1⟩) ∨
   (∃(z:List Lt) (M:List (List Aa)) (V W:Aa),(∀ q,Z3 q M=M)∧(∀ q,Z3 q (z.map Ab)=z.map Ab)∧Al Tryz.prog 27 [cV F ls] (.tuple [V,.int .i64 0])∧Al Tryz.prog 27 [cV F z] (.tuple [W,.int .i64 0]) ∧
     V.one=true∧W.one=true∧(∀ q,V.AI q=V)∧(∀ q,W.AI q=W) ∧
     (∃ X:Aa,X.one=true∧(∀ q,X.AI q=X)∧Al Tryz.prog 28 [.int .i64 F,V,.int .i64 f] (.tuple [X,.int .i64 0])∧Al Tryz.prog 28 [.int .i64 F,W,.int .i64 f] (.tuple [X,.int .i64 0])∧Al Tryz.prog 29 [X,X] (.bool true)) ∧
     r=.tuple [.agg [.int .i64 F,.Aj (z.map Ab)],.sl 1 0 M.length,.int .i64 0]∧m=⟨[(1,.cells 7 M)],2⟩):=by
   refine hd.mono fun r m hh=>hh.imp id fun⟨z,M,h1,h2,h3,h4,h5,h6,h7⟩=>?_
   obtain⟨s1,s2,s3⟩:=h5;have he:U0 F ls=0∧F=fs.length:=by
    unfold KK at h1;split at h1
    ·omega
    ·split at h1
     ·omega
     ·rename_i hec;split at h1
      ·rename_i hFP; exact⟨by omega,hFP.1⟩
      ·omega
   have hl400:ls.length≤400:=by omega
   obtain⟨w1,w2,w3⟩:=vY he.1 hl400;obtain⟨v1,v2,v3⟩:=vY s1 s2;have hF:=Z57 he.1;have hone:∀ l:List Int,(BQ (Z1 l)).one=true:=fun l=>by unfold BQ; split<;>rfl
   have hren:∀ (l:List Int) q,(BQ (Z1 l)).AI q=BQ (Z1 l):=fun l q=>by
    unfold BQ;split
    ·rfl
    ·simp[Aa.AI,Y1 q _ (W8 l)]
   have hfw:=pR F f hF ⟨h2,by omega⟩ (U4 ls) w1 w2 w3
   have hfz:=pR F f hF ⟨h2,by omega⟩ (U4 z) v1 v2 v3
   rw[s3]at hfz;refine⟨z,M,BQ (Z1 (U4 ls)),BQ (Z1 (U4 z)),h4,fun q=>Y1 q _ (X5 z),vW F ls hl400 he.1,vW F z s2 s1,hone _,hone _,hren _,hren _,⟨BQ (Z1 (DR ((U4 ls).map (I0 f)))),hone _,hren _,hfw,hfz,Z39 _ ?_⟩,h6,h7⟩
   ·unfold DR EM;have h1:=nZ ((U4 ls).map (I0 f));rw[lM]at h1;split
    ·simp
    ·split
     ·rw[Jj,List.length_reverse]; omega
     ·rw[Jj]; omega
  clear hd;unfold Dx cV at *;generalize ls.map Ab=rows at *;generalize fs.map Ax=F3 at *;unfold Bt at *;simp;refine Y5 hs ?_;simp;refine Z6 hd2 [] (by simp[Ap,hrl]) (by simp) (by simp) ?_
  rintro r sm (⟨e,he,rfl,rfl⟩|⟨z,M,V,W,m1,m2,m3,m4,m5,m6,m7,m8,⟨X,x1,x2,x3,x4,x5⟩,rfl,rfl⟩)
  ·simp[he];refine Y5 hk ?_;simp;exact Z4 hK [] (by simp)
  ·generalize z.map Ab=rowsZ at *;simp[m1,m2];refine Y5 m3 ?_;simp[m1,m2,m5,m6,m7,m8];refine Y5 m4 ?_;simp[m1,m2,m5,m6,m7,m8];refine Y5 x3 ?_;simp[m1,m2,m5,m6,m7,m8,x1,x2];refine Y5 x4 ?_;simp[m1,m2,m5,m6,m7,m8,x1,x2];refine Y5 x5 ?_;simp;refine Y5 hk ?_;simp;exact Z4 hK [] (by simp)
end Go.Ac
end
section
namespace Go.Ac
open Go Go.AE Go.Proofs
open Go.Plain
open Go.ChangeShapes Go.WideShapes Go.RowKit Go.Deep
variable {H:Type} {enc:TypeId×Value→H} {w:World} {base:Nat} {spare:Nat→Bool} {held:Bool}
theorem Z2e{v0 v1:Value}{fs:List Fg}{re lo f:Int}{ls:List Lt}(k:Int)(h0:∀ ρ,R (I2 w) ρ (Dx fs re lo) v0)(hR:∀ ρ,R (I2 w) ρ (cV f ls) v1) :
 Calls Tryz.prog 7 #[v0,v1,.int .i64 k] w fun e w'=>e=.returned (.bool true)∧Below w.heap.size w w':=by
 have hc:=Z45 fs re lo f ls k ⟨fun _=>none,1⟩ []
 refine(hc.2 ⟨w,fun _=>none,I2 w,trivial⟩ (I2 w) (fun _=>none) #[v0,v1,.int .i64 k] w ⟨⟨Below.refl _ _,fun B o hB=>(by cases hB)⟩,fun B c hB=>Z12 hB,fun b x hx=>(by cases hx),fun b b' x x' l l' h1=>(by cases h1),fun b l hb=>(by cases hb),fun B c hB=>.inl hB⟩
  ⟨rfl,fun i x u hx hu=>?_⟩ (fun b hb=>by simp at hb)).mono fun e w' he=>?_
 ·match i,hx,hu with
  | 0,hx,hu=>cases hx; cases hu; exact h0 _
  | 1,hx,hu=>cases hx; cases hu; exact hR _
  | 2,hx,hu=>cases hx; cases hu; exact .int _ _
  | i+3,hx,hu=>simp at hx
 ·obtain⟨u,r,m',Ar,ρ',rfl,_,_,hr,hRr,_,rfl,_⟩:=he;refine⟨?_,hr.base.below⟩;cases hRr;rfl
end Go.Ac
end
