/- Part 38 -/
import Derived.Test.YtilmpmlkndfbjaaGreatDoorT37
set_option linter.all false
set_option maxRecDepth 100000
set_option maxHeartbeats 16000000
open List (map_take map_drop replicate take_length append_assoc append_nil drop_drop take_append_drop)
open Go.Proofs.Tryz (prog)
namespace Go.Ad
open Go Go.AE Go.Proofs Go.Plain
section
attribute [local simp] ZP bH cC bM bI dP fT ZO cS cH eN eC ZT fO oF mL bN fN bS dJ pY cW mK
theorem Yfc(A V:List (List Aa))(i j:Nat)(al:i<j)(hj:j<A.length)(hl:A.length<=100000)(hV:V≠[])(am:V.length<=10)(Ki:W3 A=true)(wJ:W3 V=true) :
 Bo prog 109 [.sl 1 0 A.length,.int .i64 i,.int .i64 j,.sl 2 0 V.length] ⟨[(1,.cells 1 A),(2,.cells 1 V)],3⟩ λr m=>r=.sl 3 0 (i+V.length+(A.length-j))/\m=⟨[(3,.cells 1 (A.take i++V++A.drop j))],4⟩:=by
 refine lY (b:=1) (k:=1) (els:=A) hm dX Tryz.func109 fC rfl rfl rfl λK hK N hN=>?_;have Z:∀q,Z3 q A=A:=λq=>Y2 q _ Ki;have aj:∀q,Z3 q V=V:=λq=>Y2 q _ wJ;have ai:∀q,Z3 q (A.take i)=A.take i:=λq=>by rw[J1,map_take,<-J1,Z]
 have ah:∀q,Z3 q (A.drop j)=A.drop j:=λq=>by rw[J1,map_drop,<-J1,Z]
 have t:=hK _ _ ⟨rfl,rfl⟩;clear hK;obtain⟨E,hE⟩:∃E,A++replicate (N-A.length) (replicate 1 Aa.bot)=E:=⟨_,rfl⟩;have C:HA ⟨[(1,.cells 1 A),(2,.cells 1 V)],3⟩ 1 1 A N=⟨[(1,.cells 1 E),(1,.cells 1 A),(2,.cells 1 V)],3⟩:=by rw[<-hE];rfl
 have I:E.length=N:=by rw[<-hE];simp;omega
 have U:∀j,j<=A.length->E.take j=A.take j:=λj hj=>by rw[<-hE,List.take_append_of_le_length hj]
 have p:(E.drop j).take (A.length-j)=A.drop j:=by rw[<-List.drop_take,U _ (lR _),take_length]
 rw[C];clear C hE;have c:=U i (by omega);have z:∀q,Z3 q (A.take i++V++A.drop j)=A.take i++V++A.drop j:=λq=>by rw[cA,cA,ai,aj,ah]
 have v:(A.take i++V++A.drop j).length=i+V.length+(A.length-j):=by simp;omega
 obtain⟨a,n⟩:∃a,i+V.length=a:=⟨_,rfl⟩;obtain⟨h,d⟩:∃h,A.length-j=h:=⟨_,rfl⟩;obtain⟨tot,e⟩:∃tot,a+h=tot:=⟨_,rfl⟩;have ak:0<V.length:=List.length_pos_iff.2 hV;have L:=W7 ((i:Int)+(V.length:Int)) (a:Int);have M:=W7 ((a:Int)+(h:Int)) (tot:Int);have O:=W7 ((tot:Int)-(i:Int)) ((tot-i:Nat):Int);obtain⟨a1,a2,a3,D,a4,F⟩:i<=j/\j<=N/\¬(i:Int)=(j:Int)/\¬i=j/\¬(j:Int)=(A.length:Int)/\¬j=A.length:=by omega
 obtain⟨a5,a6,a7⟩:i<=A.length/\j<=A.length/\i<=N:=by omega
 rw[n,d,e]at t;rw[d]at p;by_cases g:N<tot
 ·obtain⟨b1,b2,b3,b4,b5,b6⟩:(N:Int)<(tot:Int)/\i+(tot-i)=tot/\tot<=1048576/\i<=tot/\a<=tot/\min i N=i:=by omega
  obtain⟨G,o⟩:∃G,A.take i++V++replicate h [Aa.int .i64 0]=G:=⟨_,rfl⟩;have s:G.length=tot:=by rw[<-o];simp;omega
  have w:KO (A.take i++replicate (tot-i) [Aa.int .i64 0]) i (tot-i) V=G:=by
   have l:A.take i++replicate (tot-i) [Aa.int .i64 0]=A.take i++replicate V.length [Aa.int .i64 0]++replicate h [Aa.int .i64 0]:=by
    rw[append_assoc,List.replicate_append_replicate,show V.length+h=tot-i by omega]
   rw[l,Sw (by simp;omega) (by simp) (by omega),o]
  have y:KO G a (tot-a) (A.drop j)=A.take i++V++A.drop j:=by
   have e3:=Sw (P:=A.take i++V) (Q:=replicate h [Aa.int .i64 0]) (S:=[]) (xs:=A.drop j) (off:=a) (len:=tot-a) (by simp;omega) (by simp;omega) (by simp;omega);rw[append_nil,append_nil,o]at e3;exact e3
  obtain⟨b7,b8,b9⟩:j+h=A.length/\i+(tot-i)=tot/\a+(tot-a)=tot:=by omega
  simp[L,M,O,a1,a2,a3,D,a4,F,a5,a6,a7,hN,I,g,b1,b2,b3,b4,b5,b6,b7,b8,b9,d,N7,ZV,Qr,c,w,s,p,y];refine⟨_,Trim.refl _,?_⟩;rw[append_assoc]at t z;exact Z6 t [(3,38)] (by simp[z])
 obtain⟨b1,b2,b4,b5,b7,b8⟩:¬(N:Int)<(tot:Int)/\tot<=N/\i<=tot/\a<=tot/\j+h=A.length/\i+(tot-i)=tot:=by omega
 have b9:a+(tot-a)=tot:=by omega
 have ad:E=A.take i++(E.drop i).take V.length++E.drop a:=by
  rw[<-c,<-n,<-drop_drop,append_assoc,take_append_drop,take_append_drop]
 have T:E.drop a=(E.drop a).take h++E.drop tot:=by
  rw[<-e,<-drop_drop,take_append_drop]
 have B:(A.take i).length=i:=by simp;omega
 have Y:(A.drop j).length=h:=by simp;omega
 have u:∀R:List (List Aa),(A.take i++V++A.drop j++R).take (A.take i++V++A.drop j).length=A.take i++V++A.drop j:=λR=>by rw[List.take_append_of_le_length (lR _),take_length]
 by_cases aa:a<=j
 ·have c1:(a:Int)<=(j:Int):=by omega
  obtain⟨G,o⟩:∃G,A.take i++V++E.drop a=G:=⟨_,rfl⟩;have s:G.length=N:=by rw[<-o];simp;omega
  have w:KO E i (tot-i) V=G:=by
   have l:=Sw (P:=A.take i) (Q:=(E.drop i).take V.length) (S:=E.drop a) (xs:=V) (off:=i) (len:=tot-i) B (by simp;omega) (by omega);rw[<-ad,o]at l;exact l
  have ae:(G.drop j).take h=A.drop j:=by
   rw[<-o,List.drop_append,List.drop_eq_nil_of_le (by simp;omega),List.nil_append,drop_drop];have:a+(j-(A.take i++V).length)=j:=by rw[lA,B];omega
   rw[this,p]
  obtain⟨H,J⟩:∃H,A.take i++V++A.drop j++E.drop tot=H:=⟨_,rfl⟩;have X:H.length=N:=by rw[<-J];simp;omega
  have y:KO G a (tot-a) (A.drop j)=H:=by
   have l:=Sw (P:=A.take i++V) (Q:=(E.drop a).take h) (S:=E.drop tot) (xs:=A.drop j) (off:=a) (len:=tot-a) (by rw[lA,B];omega) (by rw[Y];simp;omega) (by omega);rw[append_assoc _ _ (E.drop tot),<-T,o,J]at l;exact l
  have af:H.take tot=A.take i++V++A.drop j:=by
   have:=u (E.drop tot);rw[J,v,n,d,e]at this;exact this
  obtain⟨ab,ac⟩:tot<=A.length/\tot+(A.length-tot)=A.length:=by omega
  simp[L,M,O,a1,a2,a3,D,a4,F,a5,a6,a7,hN,I,g,b1,b2,b4,b5,b7,b8,b9,c1,aa,d,N7,ZV,Qr,c,p,w,s,ae,y,X,ab,ac];refine Kg t ?_ z (by omega);rw[v,n,d,e,af];have:=u (replicate (A.length-tot) [Aa.int .i64 0]++H.drop A.length);rw[v,n,d,e]at this;exact this
 have c1:¬(a:Int)<=(j:Int):=by omega
 obtain⟨G,o⟩:∃G,E.take a++A.drop j++E.drop tot=G:=⟨_,rfl⟩;have s:G.length=N:=by rw[<-o];simp;omega
 have w:KO E a (tot-a) (A.drop j)=G:=by
  have l:=Sw (P:=E.take a) (Q:=(E.drop a).take h) (S:=E.drop tot) (xs:=A.drop j) (off:=a) (len:=tot-a) (by simp;omega) (by rw[Y];simp;omega) (by omega);rw[append_assoc _ _ (E.drop tot),<-T,take_append_drop,o]at l;exact l
 obtain⟨H,J⟩:∃H,A.take i++V++A.drop j++E.drop tot=H:=⟨_,rfl⟩;have X:H.length=N:=by rw[<-J];simp;omega
 have y:KO G i (tot-i) V=H:=by
  have e0:E.take a=A.take i++(E.drop i).take V.length:=by
   rw[<-n,List.take_add,c]
  have l:=Sw (P:=A.take i) (Q:=(E.drop i).take V.length) (S:=A.drop j++E.drop tot) (xs:=V) (off:=i) (len:=tot-i) B (by simp;omega) (by omega);rw[<-e0,<-append_assoc,o,<-append_assoc,J]at l;exact l
 have ag:Qa ⟨[(1,.cells 1 E),(1,.cells 1 A),(2,.cells 1 V)],51⟩ [Aa.sl 1 a (tot-a),Aa.sl 2 0 V.length]:=⟨by omega,by omega,ak,Nat.zero_lt_one,Nat.zero_lt_one⟩;simp[L,M,O,a1,a2,a3,D,a4,F,a5,a6,a7,hN,I,g,b1,b2,b4,b5,b7,b8,b9,c1,aa,d,N7,ZV,Qr,c,p,w,s,y,ag];refine Kg t ?_ z (by omega);have:=u (E.drop tot);rw[J]at this;exact this
end
section
attribute [local simp] ZP bH cC bM bI dP fT ZO cS cH eN eC ZT fO oF mL bN fN bS dJ pY cW mK
theorem Z6x(A:List (List Aa))(i j:Nat)(af:i<j)(hj:j<=A.length)(hl:A.length<=100000)(Ki:W3 A=true) :
 Bo prog 109 [.sl 1 0 A.length,.int .i64 i,.int .i64 j,.Aj] ⟨[(1,.cells 1 A)],3⟩ λr m=>r=.sl 3 0 (i+(A.length-j))/\m=⟨[(3,.cells 1 (A.take i++A.drop j))],4⟩:=by
 refine lY (b:=1) (k:=1) (els:=A) hm dX Tryz.func109 fC rfl rfl rfl λK hK N hN=>?_;have v:∀q,Z3 q A=A:=λq=>Y2 q _ Ki;have Y:∀q,Z3 q (A.take i)=A.take i:=λq=>by rw[J1,map_take,<-J1,v]
 have X:∀q,Z3 q (A.drop j)=A.drop j:=λq=>by rw[J1,map_drop,<-J1,v]
 have g:=hK _ _ ⟨rfl,rfl⟩;clear hK;obtain⟨E,y⟩:∃E,A++replicate (N-A.length) (replicate 1 Aa.bot)=E:=⟨_,rfl⟩;have l:HA ⟨[(1,.cells 1 A)],3⟩ 1 1 A N=⟨[(1,.cells 1 E),(1,.cells 1 A)],3⟩:=by rw[<-y];rfl
 have s:E.length=N:=by rw[<-y];simp;omega
 have t:∀j,j<=A.length->E.take j=A.take j:=λj hj=>by rw[<-y,List.take_append_of_le_length hj]
 have p:(E.drop j).take (A.length-j)=A.drop j:=by rw[<-List.drop_take,t _ (lR _),take_length]
 rw[l];clear l y;have d:=t i (by omega);have n:∀q,Z3 q (A.take i++A.drop j)=A.take i++A.drop j:=λq=>by rw[cA,Y,X]
 have a:(A.take i++A.drop j).length=i+(A.length-j):=by simp;omega
 obtain⟨h,c⟩:∃h,A.length-j=h:=⟨_,rfl⟩;obtain⟨tot,e⟩:∃tot,i+h=tot:=⟨_,rfl⟩;have ab:=W7 ((i:Int)+(h:Int)) (tot:Int);have aa:=Y0 (i:Int);obtain⟨a1,a2,a3,o,a5,a7⟩:i<=j/\j<=N/\¬(i:Int)=(j:Int)/\¬i=j/\i<=A.length/\i<=N:=by omega
 obtain⟨a8,a9,z,B,C,ae⟩:¬N<i/\min i N=i/\i<A.length/\(i:Int)<(A.length:Int)/\i+(A.length-i)=A.length/\i<=i+(N-i):=by omega
 rw[c,e]at g;rw[c]at p;by_cases u:j=A.length
 ·obtain⟨h0,h1⟩:h=0/\tot=i:=by omega
  have h2:A.drop j=[]:=List.drop_eq_nil_of_le (by omega);subst h1;rw[h2,append_nil]at g n a;have w:A.take tot++E.drop tot=E:=by rw[<-d,take_append_drop]
  obtain⟨e2,D,F⟩:tot+(E.length-tot)=N/\¬(tot:Int)=(A.length:Int)/\¬tot=A.length:=by omega
  simp[a1,a2,a3,o,a5,a7,a8,a9,z,B,C,D,F,hN,s,u,N7,Qr,d,W4,w,e2,nM];have ag:(A.take tot).length=tot:=by simp;omega
  exact Kg g (by rw[List.take_left]) n (by omega)
 obtain⟨a4,b1,G,b2,b4,b7⟩:¬(j:Int)=(A.length:Int)/\¬(N:Int)<(tot:Int)/\¬N<tot/\tot<=N/\i<=tot/\j+h=A.length:=by omega
 obtain⟨b8,a6⟩:i+(tot-i)=tot/\j<=A.length:=by omega
 have Z:(A.take i).length=i:=by simp;omega
 have V:(A.drop j).length=h:=by simp;omega
 have ac:KO E i (tot-i) []=E:=by
  unfold KO;simp
 have M:E=A.take i++(E.drop i).take h++E.drop tot:=by
  rw[<-d,<-e,<-drop_drop,append_assoc,take_append_drop,take_append_drop]
 obtain⟨H,O⟩:∃H,A.take i++A.drop j++E.drop tot=H:=⟨_,rfl⟩;have T:H.length=N:=by rw[<-O];simp;omega
 have ad:KO E i (tot-i) (A.drop j)=H:=by
  have w:=Sw (P:=A.take i) (Q:=(E.drop i).take h) (S:=E.drop tot) (xs:=A.drop j) (off:=i) (len:=tot-i) Z (by rw[V];simp;omega) (by omega);rw[<-M,O]at w;exact w
 have U:H.take tot=A.take i++A.drop j:=by
  rw[<-O,List.take_append_of_le_length (by rw[a,c];omega),tL (by rw[a,c];omega)]
 obtain⟨I,J,L⟩:tot<=A.length/\tot+(A.length-tot)=A.length/\(i:Int)<=(j:Int):=by omega
 simp[aa,ab,a1,a2,a3,o,a4,u,a5,a6,a7,hN,s,b1,G,b2,b4,b7,b8,I,J,L,c,N7,ZV,Qr,d,p,nM,ac,ad,T];refine Kg g ?_ n (by omega);rw[a,c,e,U,List.take_append_of_le_length (by rw[a,c];omega),tL (by rw[a,c];omega)]
theorem Yhl(A V:List Nat)(i j:Nat)(d:i<j)(p:j<=A.length)(l:A.length<=100000)(h:V.length<=10) :
 Bo prog 109 [.sl 1 0 A.length,.int .i64 i,.int .i64 j,Bt 2 (Z1 V)] ⟨(1,.cells 1 (Z1 A))::Bp 2 1 (Z1 V) [],3⟩ λr m=>r=.sl 3 0 (A.take i++V++A.drop j).length/\m=⟨[(3,.cells 1 (Z1 (A.take i++V++A.drop j)))],4⟩:=by
 have b:(Z1 A).length=A.length:=M6 A;have a:(Z1 V).length=V.length:=M6 V;have e:Z1 (A.take i++V++A.drop j)=(Z1 A).take i++Z1 V++(Z1 A).drop j:=by simp[Z1]
 have g:(A.take i++V++A.drop j).length=i+V.length+(A.length-j):=by simp;omega
 rw[e,g];by_cases n:V=[]
 ·subst n;have:=Z6x (Z1 A) i j d (by rw[b];exact p) (by rw[b];exact l) (B3 _);rw[b]at this;simpa[Bt,Bp]using this
 have c:=Zyl n;rw[P8 c,U0 c];by_cases k:j=A.length
 ·have:=Z7p (Z1 A) (Z1 V) i (by rw[b];omega) (by rw[b];exact l) c (by rw[a];exact h) (by simp[Z1]) (B3 _) (B3 _);have o:(Z1 A).drop j=[]:=List.drop_eq_nil_of_le (by rw[b];omega);rw[o,append_nil,show A.length-j=0 by omega,Nat.add_zero,k];rw[b,a]at this;rw[a];exact this
 have:=Yfc (Z1 A) (Z1 V) i j d (by rw[b];omega) (by rw[b];exact l) c (by rw[a];exact h) (B3 _) (B3 _);rw[b,a]at this;rw[a];exact this
end
attribute [local simp] pR qB iL oP kV nW Ub Ua kS jF Yhx Z77 Yg0 Yld Ybu Yk0 Ycf Yha Yje Yaz Ykv Z9l Sl Sz Sh
def Bh(r:Rw):List Aa:=[.int .i64 (r.1:Nat),.int .i64 (r.2.1:Nat),.int .i64 (r.2.2.1:Nat),.bool r.2.2.2]
def GI(done:List Int):List (Int×Bool):=done.map fun i=>(i,true)
theorem KB:∀(l:List Rw),W3 (l.map Bh)=true
 |[]=>rfl
 |r::l=>by
  have:=KB l;simp only[List.map_cons,W3,Bh,Y7,Aa.closed,Bool.and_true,Bool.true_and]at this ⊢;exact this
def HR(ls:List Lt)(x:Nat):Nat→Nat
 | 0=>x
 | t+1=>Z8 ls (HR ls x t)
theorem Zzv(ls:List Lt)(x:Nat):∀t,HR ls (Z8 ls x) t=HR ls x (t+1)
 |0=>rfl
 |t+1=>by simp only[HR,Zzv ls x t]
theorem xl(ls:List Lt):∀t x,U8 ls x (t+1)=U8 ls x t++[CX ls (HR ls x t)]
 |0,x=>rfl
 |t+1,x=>by
  have:=xl ls t (Av (CX ls x));rw[U8,this,U8];have e:HR ls (Av (CX ls x)) t=HR ls x (t+1):=Zzv ls x t;rw[e];rfl
theorem w8{ls:List Lt}(b:Wv ls){x:Nat}(c:x<2*ls.length)(a:(Ay ls x).k=2):∀t,HR ls x t<2*ls.length/\(Ay ls (HR ls x t)).k=2
 |0=>⟨c,a⟩
 |t+1=>by
  obtain⟨d,e⟩:=w8 b c a t;exact(UN b d e).2
theorem Yhi(ls:List Lt)(done:List Int)(front:List Nat){i:Nat}(hi:i<front.length):U6 4 ls done front i<=4/\i+U6 4 ls done front i<=front.length:=by
 unfold U6;split
 ·omega
 have:=Yj3 ls (It ls done (front.getD i 0)) front _ (i+1) rfl;omega
def Rx(b:Nat×Nat):Int:=if b.2=0 then -1 else b.1
theorem nZ(id:Int):∀done:List Int,(id∉done->EA id (GI done)=none)/\(id∈done -> ∃p,EA id (GI done)=some (p,true))
 |[]=>⟨λ_=>rfl,λh=>by simp at h⟩
 |d::r=>by
  obtain⟨b,c⟩:=nZ id r;have e:GI (d::r)=(d,true)::GI r:=rfl;rw[e];simp only[EA];by_cases a:id=d
  ·rw[iP a];exact⟨λh=>absurd (by rw[a];exact List.mem_cons_self ..) h,λ_=>⟨0,rfl⟩⟩
  rw[iN a];refine⟨λh=>?_,λh=>?_⟩
  ·rw[b (λhm=>h (List.mem_cons_of_mem _ hm))]
  obtain⟨p,f⟩:=c ((mC.1 h).resolve_left a);exact⟨p+1,by rw[f]⟩
theorem Yev(e:Env)(he:e.get 3=.ptr 3 0 0)(f:Int)(ls:List Lt)(hv:AH f ls)(h0:ls≠[]) :
 Jv prog ⟨15,19,[13],e,Ir.Ed,Ir.bd,[105,109]⟩ 103 [.Dt 15,.ptr 14 0 0]
  ⟨[(14,.cells 1 [[.ptr 11 0 0]]),(11,Js ls (P6 ls ls.length) (.sl 12 0 (Y4 ls).length)),(12,.cells 1 (Z1 (Y4 ls))),(3,.cells 1 [[.Aj]]),(1,.cells 2 [[.int .i64 f,.Al (ls.map Ab)]])],16⟩
  λ_ m=>m=⟨(3,.cells 1 [[Bt 19 ((X3 4 ls).map Bh)]])::Bp 19 4 ((X3 4 ls).map Bh) [],20⟩:=by
 refine Z9q hm Tryz.func103 Zj rfl rfl λK hK=>?_;have hw:=hv.wv h0;have h:ls.length<=400:=hv.len;have az:(ls.map Ab).length=ls.length:=lM ..;have H:∀q,Z3 q (ls.map Ab)=ls.map Ab:=λq=>Y2 q _ (Y6 ls);have y:∀q,Z3 q (Z1 (P6 ls ls.length))=Z1 (P6 ls ls.length):=λq=>Z5 q _;have a8:=λk d hd=>Tc ls (P6 ls ls.length) k d (by omega) hd;have a7:∀v,v<ls.length->(at' ls v).k=2->(P6 ls ls.length)[v]?=some (BY ls v):=λv h1 h2=>y8 hw (λv x a b c d e=>hv.uniq a b c d e) (λv a b=>hv.CK a b) ls.length (lR _) v h1 h2 (hw.Cp v h1 h2).1;have bh:=λfront j hj bm ac=>sH ls (P6 ls ls.length) front j (by omega) hw a7 hj bm ac;have ay:=λk d hd hk=>Zzr ls (P6 ls ls.length) k d (by omega) hw a7 hd hk;have Y:=λi hi=>A8 ls (i:=i) hi;unfold Js at *;clear a7;generalize ls.map Ab=rows at *;generalize Z1 (P6 ls ls.length)=OO at *;unfold Ab at Y;have ae:∀q (l:List Nat),Z3 q (Z1 l)=Z1 l:=λq l=>Z5 q l;have bt:∀q (E:List (Int×Bool)),C0 q (DQ .bool 0 E)=DQ .bool 0 E:=λq E=>jG q (λ_=>rfl) 0 E;have bu:∀q (l:List Rw),Z3 q (l.map Bh)=l.map Bh:=λq l=>Y2 q _ (KB l);have b1:=WM ls hw.Cs;have cm:En ls (Y4 ls) []<=1600:=by
  unfold En Y4;have h1:Z4 (λl=>AO l && !([]:List Int).contains l.i) ls<=ls.length:=Ib;have h2:Z0 ls<=ls.length:=Ib;rw[lM,Q7];omega
 have b2:∀m',Ac.next m'>=16->K (.tuple []) m'->True:=λ_ _ _=>trivial;clear b2;simp;refine bD (α:=List Nat×List Int×List Rw×Nat) (λa=>[(0,.Dt 15),(1,.ptr 14 0 0),(3,.map 18)])
  (λa=>⟨(14,.cells 1 [[.ptr 11 0 0]])::(11,.cells 3 [[.Al rows,.Al OO,.sl 17 0 a.1.length]])::(17,.cells 1 (Z1 a.1))::(18,.map (DQ .bool 0 (GI a.2.1)) a.2.1.length)::(3,.cells 1 [[Bt 19 (a.2.2.1.map Bh)]])::Bp 19 4 (a.2.2.1.map Bh) [],20⟩)
  (λa=>a.2.2.2) (λa=>Mm ls a.1 a.2.1/\En ls a.1 a.2.1<a.2.2.2/\a.2.2.1.length+a.2.2.2<=2000/\a.2.2.1++Kf 4 ls a.2.2.2 a.1 a.2.1=X3 4 ls)
  (Y4 ls,[],[],En ls (Y4 ls) []+1) [(17,12),(18,16)] (by simp[H,y,ae,GI,DQ,C0]) ⟨b1,by simp,by simp;omega,rfl⟩ ?_
 rintro⟨front,done,C,k⟩ ⟨hF,cd,ca,u⟩ N hN;simp only at hF cd ca u hN ⊢;obtain⟨k,rfl⟩:∃k',k=k'+1:=⟨k-1,by omega⟩;rw[Kf]at u;have bm:front.length<=2000:=by
  have:front.length<=En ls front done:=Nat.le_add_right _ _;omega
 by_cases I:front=[]
 ·rw[iP I,append_nil]at u;subst u;subst I;simp;exact Z6 (hK (.tuple []) _ rfl) [] (by simp +contextual [bu])
 rw[iN I]at u;have bs:0<front.length:=List.length_pos_iff.2 I;have bf:(0:Int)<(front.length:Int):=by omega
 have M:(Z1 front).length=front.length:=M6 front;have av:=λj (hj:j<front.length)=>Sd hj;have aj:=λj (hj:j<front.length)=>hF.lt _ (Kz hj);have A:=λq=>ae q front;have J:=λq=>bt q (GI done);have Z:=λq=>bu q C;simp[bs,bf,I];refine bD (α:=Nat) (λi=>[(4,.int .i64 i),(0,.Dt 15),(1,.ptr 14 0 0),(3,.map 18)])
  (λ_=>⟨(14,.cells 1 [[.ptr 11 0 0]])::(11,.cells 3 [[.Al rows,.Al OO,.sl 17 0 front.length]])::(17,.cells 1 (Z1 front))::(18,.map (DQ .bool 0 (GI done)) done.length)::(3,.cells 1 [[Bt 19 (C.map Bh)]])::Bp 19 4 (C.map Bh) [],20⟩)
  (λi=>front.length-i) (λi=>i<=front.length-1/\F2 (Pj front) (front.length-1-i) i=L7 front) 0 [(17,17),(18,18),(19,19)] (by simp +contextual [H,y,A,J,Z]) ⟨by omega,rfl⟩ ?_
 rintro i ⟨hi,B⟩ N2 a6
 try simp only at hi B a6 ⊢
 have a3:=W7 ((i:Int)+1) ((i+1:Nat):Int);obtain⟨i1,ba⟩:∃i1,i+1=i1:=⟨_,rfl⟩;rw[ba]at a3;by_cases ac:i1<front.length
 ·obtain⟨bp,ah⟩:i<front.length/\(i1:Int)<(front.length:Int):=by omega
  have hg:=av i bp;obtain⟨_,ab⟩:=Y3 hg;have hh:=av i1 ac;obtain⟨_,b7⟩:=Y3 hh;have cn:=aj i1 ac;have bv:=mF (front.getD i1 0) (by omega);obtain⟨k2,bc⟩:∃k2,front.length-1-i=k2+1:=⟨front.length-1-i-1,by omega⟩;rw[bc]at B;have L:Pj front i=decide (front.getD i 0=Av (front.getD (i+1) 0)):=rfl;rw[ba]at L;generalize front.getD i 0=a at *;generalize front.getD i1 0=b at *;simp[a3,ah,ac,M,hg,ab,hh,b7,bp];refine JQ bv ?_;by_cases hc:a=Av b
  ·rw[decide_eq_true hc]at L;rw[Z76 L]at B;have Ch:L7 front<front.length-1:=by rw[<-B];omega
   have G:O5 4 ls front done=some ((1,i,0,false),front.take i++front.drop (i+2),done):=by
    unfold O5;rw[iP Ch,<-B]
   have aa:=hF.step hw (λv h1 h2=>hv.CK h1 h2) I G;have ak:=jB hF.lt I G;have cj:=W7 ((i:Int)+2) ((i+2:Nat):Int);have a5:=Ydp (Z1 front) i (by rw[M];omega) (by rw[M];omega) (B3 _);have ce:(Z1 front).take i++(Z1 front).drop (i+2)=Z1 (front.take i++front.drop (i+2)):=by simp[Z1]
   rw[M,ce]at a5;rw[G]at u;simp only at u;have cb:(front.take i++front.drop (i+2)).length=front.length-2:=by simp;omega
   have w:=hN (front.take i++front.drop (i+2),done,C++[(1,i,0,false)],k);simp only[cb]at w;have D:=λq=>ae q (front.take i++front.drop (i+2));generalize front.take i++front.drop (i+2)=an at *;generalize i+2=i2 at *;simp[hc];rw[cj];refine OW a5 (by simp) [(1,17)] (by simp) (by simp[A]) (by simp) rfl (by decide) (by simp) (by simp) (by simp) ?_;simp[D];have a0:C.length<=1048575:=by omega
   have bg:(C++[((1,i,0,false):Rw)]).map Bh=C.map Bh++[[.int .i64 1,.int .i64 (i:Int),.int .i64 0,.bool false]]:=by rw[List.map_append];rfl
   rw[bg]at w;simp[YC,Ir,IJ,he,a0];refine w [(17,17),(18,18),(19,67)] _ _ (by omega) ⟨aa,by omega,by simp;omega,by simpa using u⟩ ?_;simp +contextual [H,y,D,J,Z]
  rw[decide_eq_false hc]at L;rw[Yeb L,ba]at B;have b5:¬((a:Int)=(Av b:Nat)):=by omega
  simp[hc,b5,a3];exact a6 i1 [(17,17),(18,18),(19,19)] _ _ (by omega) ⟨by omega,by rw[show front.length-1-i1=k2 by omega];exact B⟩ (by simp +contextual [H,y,A,J,Z])
 have ah:¬(i1:Int)<(front.length:Int):=by omega
 simp[a3,ah,ac,M];have be:¬L7 front<front.length-1:=by
  have:front.length-1-i=0:=by omega
  rw[this]at B;simp only[F2]at B;omega
 clear a6 B;have T:=a8 front.length;have am:=λj hj=>bh front j hj (by omega) hF.lt;have Q:=ay front.length;obtain⟨run,F⟩:∃run,U6 4 ls done front=run:=⟨_,rfl⟩;refine bD (α:=Nat) (λj=>[(69,.int .i64 j),(68,.int .i64 front.length),(67,.sl 17 0 front.length),(6,.int .i64 (W1 run j).2),(5,.int .i64 (Rx (W1 run j))),(0,.Dt 15),(1,.ptr 14 0 0),(3,.map 18)])
  (λ_=>⟨(14,.cells 1 [[.ptr 11 0 0]])::(11,.cells 3 [[.Al rows,.Al OO,.sl 17 0 front.length]])::(17,.cells 1 (Z1 front))::(18,.map (DQ .bool 0 (GI done)) done.length)::(3,.cells 1 [[Bt 19 (C.map Bh)]])::Bp 19 4 (C.map Bh) [],20⟩)
  (λj=>front.length-j) (λj=>j<=front.length) 0 [(17,17),(18,18),(19,19)] (by simp +contextual [H,y,A,J,Z,W1,Rx]) (by simp) ?_
 intro j hj N3 ao
 try simp only at hj ao ⊢
 have a4:=Y0 ((j:Int)+1);by_cases aw:j<front.length
 ·have hg:=av j aw;obtain⟨_,ab⟩:=Y3 hg;have hx:=aj j aw;have a9:=T _ hx;have P:=Lg hx;have S:=Y _ P;obtain⟨_,O⟩:=Y3 S;have bw:=am j aw;have BL:W1 run (j+1)=if (W1 run j).2<run j then (j,run j)else W1 run j:=rfl
  have ad:run j=if It ls done (front.getD j 0)=0 then 0 else min 4 (1+D0 ls (It ls done (front.getD j 0)) front (j+1)):=by rw[<-F];rfl
  have CG:It ls done (front.getD j 0)=if (Ay ls (front.getD j 0)).k=2/\(Ay ls (front.getD j 0)).i∉done then (Ay ls (front.getD j 0)).i else 0:=rfl
  have ag:=λid=>Ybh hw hF id j;have al:(Ay ls (front.getD j 0)).k=2->1<=(Ay ls (front.getD j 0)).i:=λbc=>by
   obtain⟨_,_,_,d,_⟩:=(Ik bc).1 (hv.Ea _ (eA hx));exact d
  have ax:Ay ls (front.getD j 0)=at' ls (V2 ls.length (front.getD j 0)):=rfl;have w:=ao (j+1);rw[Int.natCast_add,Int.natCast_one]at w;rw[ax]at CG al bw;have bl:=λid=>nZ id done;have bn:=λid=>ZQ Aa.bool id 0 (GI done);clear ao am T;generalize front.getD j 0=x at *;generalize V2 ls.length x=v at *;generalize at' ls v=l at *;simp[aw,hg,ab,M];refine Pt a9 (by simp) [(1,11),(2,17)] (by simp) (by simp[EO,H,y]) (by simp) (λs=>by simp) (by simp) ?_;by_cases hk:l.k=2
  ·by_cases au:l.i∈done
   ·obtain⟨p,hp⟩:=(bl l.i).2 au;have z:=bn l.i;rw[hp]at z;simp only at z;rw[iN (λe=>e.2 au)]at CG;rw[CG,iP rfl]at ad;rw[ad,iN (by omega)]at BL;rw[BL]at w;simp[S,O,az,P,hk,z,a4];exact w [(17,17),(18,18),(19,19)] _ _ (by omega) (by omega) (by simp +contextual [H,y,A,J,Z])
   have hp:=(bl l.i).1 au;have z:=bn l.i;rw[hp]at z;simp only at z;rw[iP ⟨hk,au⟩]at CG;have h1:=al hk;have h4:=ag l.i;rw[CG,iN (by omega),Nat.min_eq_right (by omega)]at ad;have br:1+D0 ls l.i front (j+1)<=4:=by omega
   rw[ad]at BL;clear CG ag;generalize 1+D0 ls l.i front (j+1)=n at *;simp[S,O,az,P,hk,z];refine S3 bw [(1,11),(2,17)] (by simp) (by simp[H,y,A]) (by simp) ?_;rintro _ _ ⟨rfl,rfl⟩;by_cases U:(W1 run j).2<n
   ·rw[iP U]at BL;have af:Rx (j,n)=(j:Int):=by unfold Rx;rw[iN (by show ¬n=0;omega)]
    rw[BL,af]at w;have ai:((W1 run j).2:Int)<(n:Int):=by omega
    simp[U,ai,a4,H,y,A];exact w [(17,17),(18,18),(19,19)] _ _ (by omega) (by omega) (by simp +contextual [H,y,A,J,Z])
   rw[iN U]at BL;rw[BL]at w;have ai:¬((W1 run j).2:Int)<(n:Int):=by omega
   simp[U,ai,a4,H,y,A];exact w [(17,17),(18,18),(19,19)] _ _ (by omega) (by omega) (by simp +contextual [H,y,A,J,Z])
  rw[iN (λe=>hk e.1)]at CG;rw[CG,iP rfl]at ad;rw[ad,iN (by omega)]at BL;rw[BL]at w;simp[S,O,az,P,hk,a4];exact w [(17,17),(18,18),(19,19)] _ _ (by omega) (by omega) (by simp +contextual [H,y,A,J,Z])
 have b9:j=front.length:=by omega
 subst b9;clear ao;rcases QE run front.length with⟨c1,c2,c3⟩|⟨c1,c2,c3⟩
 ·have G:O5 4 ls front done=none:=by
   unfold O5;rw[iN be,F,iP c1]
  rw[G]at u;simp only[append_nil]at u;have af:Rx (W1 run front.length) = -1:=by unfold Rx;rw[iP c1]
  simp[af];rw[<-u]at hK;exact Z6 (hK (.tuple []) _ rfl) [] (by simp +contextual [Z])
 have af:Rx (W1 run front.length)=((W1 run front.length).1:Int):=by unfold Rx;rw[iN (by omega)]
 have G:O5 4 ls front done=some ((2,(W1 run front.length).1,(W1 run front.length).2,(Ay ls (front.getD (W1 run front.length).1 0)).o),
  front.take (W1 run front.length).1++U8 ls (front.getD (W1 run front.length).1 0) (4-(W1 run front.length).2)++front.drop ((W1 run front.length).1+(W1 run front.length).2),
  done++[(Ay ls (front.getD (W1 run front.length).1 0)).i]):=by
  unfold O5;rw[iN be,F,iN (by omega)]
 have aa:=hF.step hw (λv h1 h2=>hv.CK h1 h2) I G;have ak:=jB hF.lt I G;rw[G]at u;simp only at u;have c4:U6 4 ls done front (W1 run front.length).1=(W1 run front.length).2:=by rw[F];exact c3
 obtain⟨k1,k2,k3⟩:=Um (c:=4) (ls:=ls) (done:=done) (front:=front) (i:=(W1 run front.length).1) (by rw[c4];exact c1);have bq:=Yhi ls done front c2;rw[c4]at bq;have hg:=av _ c2;obtain⟨_,ab⟩:=Y3 hg;have hx:=aj _ c2;have a9:=T _ hx;have P:=Lg hx;have S:=Y _ P;obtain⟨_,O⟩:=Y3 S;have ax:Ay ls (front.getD (W1 run front.length).1 0)=at' ls (V2 ls.length (front.getD (W1 run front.length).1 0)):=rfl;have bb:=w8 hw hx k1;rw[ax]at k1 k2 aa ak u;have z:=ZQ Aa.bool (at' ls (V2 ls.length (front.getD (W1 run front.length).1 0))).i 0 (GI done);rw[(nZ _ done).1 k2]at z;simp only at z;have a2:=Zz6 Aa.bool (at' ls (V2 ls.length (front.getD (W1 run front.length).1 0))).i true (GI done);have b6:(GI done).length=done.length:=by simp[GI]
 rw[b6]at a2;have bi:GI done++[((at' ls (V2 ls.length (front.getD (W1 run front.length).1 0))).i,true)]=GI (done++[(at' ls (V2 ls.length (front.getD (W1 run front.length).1 0))).i]):=by simp[GI]
 rw[bi]at a2;clear am T c3 c4 k3 G ax F be;generalize (W1 run front.length).1=a at *;generalize (W1 run front.length).2=n at *;generalize front.getD a 0=x at *;generalize V2 ls.length x=v at *;generalize at' ls v=l at *;have b3:¬(a:Int)<0:=by omega
 simp[af,hg,ab,M,c2,b3];refine Pt a9 (by simp) [(1,11),(2,17)] (by simp) (by simp[EO,H,y]) (by simp) (λs=>by simp) (by simp) ?_;simp[S,O,az,P,z,hg,ab,M,c2];obtain⟨n4,br⟩:∃n4,4-n=n4:=⟨_,rfl⟩;rw[br]at aa ak u;have ck:=W7 (4-(n:Int)) (n4:Int);have bj:(done++[l.i]).length=done.length+1:=by simp
 have V:=λq=>bt q (GI (done++[l.i]));refine bD (α:=Nat) (λt=>[(130,.int .i64 t),(129,.int .i64 n4),(13,.int .i64 (HR ls x t:Nat)),(12,Bt 21 (Z1 (U8 ls x t))),(11,.ptr 20 0 0),(6,.int .i64 n),(5,.int .i64 a),(0,.Dt 15),(1,.ptr 14 0 0),(3,.map 18)])
  (λt=>⟨(18,.map (DQ .bool 0 (GI (done++[l.i]))) (done.length+1))::(20,.cells 6 [[.int .i64 l.k,.int .i64 l.g,.int .i64 l.r,.int .i64 l.i,.int .i64 l.s,.bool l.o]])::(14,.cells 1 [[.ptr 11 0 0]])::(11,.cells 3 [[.Al rows,.Al OO,.sl 17 0 front.length]])::(17,.cells 1 (Z1 front))::(3,.cells 1 [[Bt 19 (C.map Bh)]])::Bp 19 4 (C.map Bh) (Bp 21 1 (Z1 (U8 ls x t)) []),22⟩)
  (λt=>n4-t) (λt=>t<=n4) 0 [(17,17),(18,18),(19,19),(20,38)] (by simp +contextual [H,y,A,J,V,Z,a2,ck,U8,HR,Z1]) (by simp) ?_
 intro t ht N4 aq
 try simp only at ht aq ⊢
 have cl:=Y0 ((t:Int)+1);by_cases ci:t<n4
 ·obtain⟨bz,b0⟩:=bb t;have cc:=Q _ bz b0;have co:=UN hw bz b0;have b4:=mF (CX ls (HR ls x t)) (by omega);have w:=aq (t+1);have cg:=xl ls t x;have cf:Z1 (U8 ls x (t+1))=Z1 (U8 ls x t)++[[.int .i64 (CX ls (HR ls x t):Nat)]]:=by rw[cg];simp[Z1]
  have b8:HR ls x (t+1)=Av (CX ls (HR ls x t)):=rfl;rw[cf,b8,Int.natCast_add,Int.natCast_one]at w;have EC:(Z1 (U8 ls x t)).length<=1048575:=by rw[M6,VY];omega
  have a1:=λq=>ae q (U8 ls x t);clear aq Q bb;generalize HR ls x t=xt at *;generalize Z1 (U8 ls x t)=UU at *;simp[ci];refine S3 cc [(1,11),(2,17)] (by simp) (by simp[H,y,A]) (by simp) ?_;rintro _ _ ⟨rfl,rfl⟩;simp[H,y,EC];refine T0 b4 ?_;simp[cl];refine w [(17,17),(18,18),(19,19),(20,20),(21,30)] _ _ (by omega) (by omega) ?_;simp +contextual [H,y,A,V,Z,a1]
 have ch:t=n4:=by omega
 subst ch;clear aq Q bb Y z a2 bi;have bx:=W7 ((a:Int)+(n:Int)) ((a+n:Nat):Int);have EC:(U8 ls x t).length=t:=VY ls t x;have X:=Yhl front (U8 ls x t) a (a+n) (by omega) bq.2 (by omega) (by omega);have w:=hN (front.take a++U8 ls x t++front.drop (a+n),done++[l.i],C++[(2,a,n,l.o)],k);have a1:=λq=>ae q (U8 ls x t);have D:=λq=>ae q (front.take a++U8 ls x t++front.drop (a+n));have a0:C.length<=1048575:=by omega
 have bg:(C++[((2,a,n,l.o):Rw)]).map Bh=C.map Bh++[[.int .i64 2,.int .i64 (a:Int),.int .i64 (n:Int),.bool l.o]]:=by rw[List.map_append];rfl
 simp only at w;rw[bg,bj]at w;generalize front.take a++U8 ls x t++front.drop (a+n)=an at *;generalize a+n=an at *;generalize Z1 (U8 ls x t)=UU at *;by_cases hU:UU=[]
 ·subst hU;simp only[RU,Ww]at X;simp[bx];refine OW X (by simp) [(1,17)] (by simp) (by simp[A,a1]) (by simp) rfl (by decide) (by simp) (by simp) (by simp) ?_;simp[D];simp[YC,Ir,IJ,he,a0];refine w [(17,37),(18,18),(19,51)] _ _ (by omega) ⟨aa,by omega,by simp;omega,by simpa using u⟩ ?_;simp +contextual [H,y,D,V,Z]
 simp only[P8 hU,U0 hU]at X;simp[bx,P8 hU,U0 hU];refine OW X (by simp) [(1,17),(2,21)] (by simp) (by simp[A,a1]) (by simp) rfl (by decide) (by simp) (by simp) (by simp) ?_;simp[D];simp[YC,Ir,IJ,he,a0];refine w [(17,37),(18,18),(19,51)] _ _ (by omega) ⟨aa,by omega,by simp;omega,by simpa using u⟩ ?_;simp +contextual [H,y,D,V,Z]
end Go.Ad
