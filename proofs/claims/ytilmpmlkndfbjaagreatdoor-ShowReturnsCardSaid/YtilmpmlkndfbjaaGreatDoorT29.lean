/- Part 29 -/
import Derived.Test.YtilmpmlkndfbjaaGreatDoorT28
set_option linter.all false
set_option maxRecDepth 100000
set_option maxHeartbeats 16000000
open List (Sublist)
open Go.Proofs.Tryz (prog)
section
namespace Go.Ad
open Go.Plain
theorem JZ{n u:Nat}(a:u<n)(fw:Bool):Av (Y5 n u fw)=arr n u (!fw):=by
 unfold Av Y5 arr;grind
theorem KF{n u:Nat}(b:Bool):Av (arr n u b)=Y5 n u (!b):=by
 unfold Av Y5 arr;grind
theorem K3(d:Nat):Av (Av d)=d:=by
 unfold Av;grind
theorem JS{n d:Nat}(h:d<2*n):Av d<2*n:=by unfold Av;split<;>omega
section
variable {ls:List Lt}
def Cw(ls:List Lt)(v:Nat):Bool:=((at' ls v).o == ((at' ls v).s == 1))
abbrev BY(ls:List Lt)(v:Nat):Nat:=V4 ls v ls.length 0
theorem XB{v:Nat}(c:v<ls.length)(a:(at' ls v).k=2)(b:Bool):CX ls (arr ls.length v b)=Y5 ls.length (BY ls v) (b == Cw ls v):=by
 unfold CX;rw[NZ c,iP a];rfl
theorem K1{v:Nat}(a:v<ls.length)(b:Bool):Ay ls (arr ls.length v b)=at' ls v:=by
 unfold Ay;rw[(KL a b).2.1]
def Z8(ls:List Lt)(d:Nat):Nat:=Av (CX ls d)
theorem Mv(e:Wv ls){v:Nat}(c:v<ls.length)(a:(at' ls v).k=2)(b:Bool):Z8 ls (arr ls.length v b)=arr ls.length (BY ls v) (b != Cw ls v):=by
 have d:=e.Cp v c a;unfold Z8;rw[XB c a,JZ d.1];rfl
theorem sv(c:Wv ls){v:Nat}(b:v<ls.length)(a:(at' ls v).k=2):Cw ls (BY ls v) = !Cw ls v:=by
 obtain⟨d,e,f,g,h⟩:=c.Cp v b a;unfold Cw BY;grind
theorem Kp(a:Wv ls){v:Nat}(d:v<ls.length)(c:(at' ls v).k=2)(b:Bool):Z8 ls (Z8 ls (arr ls.length v b))=arr ls.length v (!b):=by
 obtain⟨e,f,g,h,i⟩:=a.Cp v d c;rw[Mv a d c,Mv a e f,sv a d c];simp_all
theorem Qd(e:Wv ls){d:Nat}(f:d<2*ls.length)(a:(Ay ls d).k=2):Z8 ls (Z8 ls (Z8 ls (Z8 ls d)))=d:=by
 obtain⟨v,b,c,rfl⟩:=L4 f;rw[K1 c]at a;rw[Kp e c a,Kp e c a,Bool.not_not]
theorem UN(g:Wv ls){d:Nat}(i:d<2*ls.length)(a:(Ay ls d).k=2):CX ls d<2*ls.length/\Z8 ls d<2*ls.length/\(Ay ls (Z8 ls d)).k=2:=by
 obtain⟨v,b,c,rfl⟩:=L4 i;rw[K1 c]at a;obtain⟨e,h,j,l,m⟩:=g.Cp v c a;have f:CX ls (arr ls.length v b)<2*ls.length:=by rw[XB c a];exact HJ e
 refine⟨f,JS f,?_⟩;rw[Mv g c a,K1 e];exact h
theorem Jf{n v a:Nat}{b b':Bool}(d:v<n)(c:a<n)(h:arr n v b=arr n a b'):v=a/\b=b':=by
 obtain⟨_,e,f⟩:=KL d b;obtain⟨_,g,i⟩:=KL c b';grind
structure Mm (ls:List Lt) (front:List Nat) (done:List Int):Prop where
 nd:front.Nodup
 lt:∀ d,d∈front→d<2*ls.length
 tl:∀ d,d∈front→(Ay ls (Av d)).k=2→(Ay ls (Av d)).i∈done
theorem Zv9(e:Wv ls){d:Nat}(f:d<2*ls.length)(a:(Ay ls d).k=2)(hi:∀v,v<ls.length->(at' ls v).k=2->(at' ls (V4 ls v ls.length 0)).i=(at' ls v).i):(Ay ls (Av (CX ls d))).i=(Ay ls d).i:=by
 obtain⟨v,b,c,rfl⟩:=L4 f;rw[K1 c]at a ⊢;have:=Mv e c a b;unfold Z8 at this;rw[this,K1 (e.Cp v c a).1];exact hi v c a
theorem Kz{l:List Nat}{i:Nat}(h:i<l.length):l.getD i 0∈l:=by
 grind
theorem Ybh(s:Wv ls){front:List Nat}{done:List Int}(e:Mm ls front done)(id:Int)(i:Nat):D0 ls id front (i+1)<=3:=by
 have step:∀j,okF ls id front j=true->j<front.length->(Ay ls (front.getD j 0)).k=2/\Z8 ls (front.getD j 0)=front.getD (j-1) 0:=λj h u=>by
  simp only[okF,bA,decide_eq_true_eq]at h;refine⟨h.1.1,?_⟩;unfold Z8;rw[h.2,K3]
 by_cases a:i+1<front.length/\okF ls id front (i+1)=true
 ·rw[Qu a.1 a.2];by_cases b:i+2<front.length/\okF ls id front (i+2)=true
  ·rw[Qu b.1 b.2];by_cases c:i+3<front.length/\okF ls id front (i+3)=true
   ·rw[Qu c.1 c.2];by_cases d:i+4<front.length/\okF ls id front (i+4)=true
    ·exfalso;have f:=(step _ a.2 a.1).2;have g:=(step _ b.2 b.1).2;have l:=(step _ c.2 c.1).2;obtain⟨t,m⟩:=step _ d.2 d.1;have n:i+1-1=i:=rfl;have o:i+2-1=i+1:=rfl;have p:i+3-1=i+2:=rfl;have q:i+4-1=i+3:=rfl;rw[n]at f;rw[o]at g;rw[p]at l;rw[q]at m;have:=Qd s (e.lt _ (Kz d.1)) t;rw[m,l,g,f]at this;have r:=List.pairwise_iff_getElem.1 e.nd i (i+4) (by omega) d.1 (by omega);grind
    rw[JP d];omega
   rw[JP c];omega
  rw[JP b];omega
 rw[JP a];omega
theorem Ya8(c:Wv ls)(hi:∀v,v<ls.length->(at' ls v).k=2->(at' ls (V4 ls v ls.length 0)).i=(at' ls v).i):∀k x,x<2*ls.length->(Ay ls x).k=2 -> ∀d,d∈U8 ls x k->d<2*ls.length/\(Ay ls (Av d)).k=2/\(Ay ls (Av d)).i=(Ay ls x).i:=by
 intro k;induction k with
 |zero=>intro x _ _ d a;simp[U8]at a
 |succ k h=>
  intro x e b d a;obtain⟨n,t2,f⟩:=UN c e b;have g:=Zv9 c e b hi;rcases mC.1 a with rfl|a
  ·exact⟨n,f,g⟩
  obtain⟨j,l,m⟩:=h _ t2 f d a;exact⟨j,l,m.trans g⟩
theorem Ykw(g:Wv ls)(u:∀v,v<ls.length->(at' ls v).k=2->V4 ls v ls.length 0≠v){x:Nat}(w:x<2*ls.length)(d:(Ay ls x).k=2){k:Nat}(h:k<=3):(U8 ls x k).Nodup:=by
 have z:∀a b,Av a=Av b->a=b:=λa b e=>by rw[<-K3 a,e,K3]
 have p:(U8 ls x 3).Nodup:=by
  obtain⟨v,b,c,rfl⟩:=L4 w;rw[K1 c]at d;obtain⟨f,A,B,C,D⟩:=g.Cp v c d;have r:=Mv g c d b;have o:=Kp g c d b;have s:Z8 ls (Z8 ls (Z8 ls (arr ls.length v b)))=arr ls.length (BY ls v) ((!b) != Cw ls v):=by rw[o,Mv g c d]
  have q:BY ls v≠v:=u v c d;have e:U8 ls (arr ls.length v b) 3=[CX ls (arr ls.length v b),CX ls (Z8 ls (arr ls.length v b)),CX ls (Z8 ls (Z8 ls (arr ls.length v b)))]:=rfl;have l:CX ls (arr ls.length v b)≠CX ls (Z8 ls (arr ls.length v b)):=λe=>by
   have:Z8 ls (arr ls.length v b)=Z8 ls (Z8 ls (arr ls.length v b)):=by unfold Z8 at e ⊢; rw[<-e]
   rw[o,r]at this;exact q (Jf f c this).1
  have m:CX ls (arr ls.length v b)≠CX ls (Z8 ls (Z8 ls (arr ls.length v b))):=λe=>by
   have:Z8 ls (arr ls.length v b)=Z8 ls (Z8 ls (Z8 ls (arr ls.length v b))):=by unfold Z8 at e ⊢; rw[<-e]
   rw[s,r]at this;have:=(Jf f f this).2;revert this;cases b<;>cases Cw ls v<;>simp
  have n:CX ls (Z8 ls (arr ls.length v b))≠CX ls (Z8 ls (Z8 ls (arr ls.length v b))):=λe=>by
   have:Z8 ls (Z8 ls (arr ls.length v b))=Z8 ls (Z8 ls (Z8 ls (arr ls.length v b))):=by unfold Z8 at e ⊢; rw[<-e]
   rw[s,o]at this;exact q (Jf c f this).1.symm
  rw[e];simp[l,m,n]
 have E:Sublist (U8 ls x k) (U8 ls x 3):=by
  have e:∀k y,Sublist (U8 ls y k) (U8 ls y (k+1)):=by
   intro k;induction k with
   |zero=>intro y;exact List.nil_sublist _
   |succ k i=>intro y;exact(i _).cons_cons _
  have:∀j,k+j=3->Sublist (U8 ls x k) (U8 ls x 3):=by
   intro j;induction j generalizing k with
   |zero=>intro t;rw[show k=3 by omega];exact List.Sublist.refl _
   |succ j i=>intro t;exact(e k x).trans (i (by omega) (by omega))
  exact this (3-k) (by omega)
 grind
theorem Mm.step(y:Wv ls)(hi:∀v,v<ls.length->(at' ls v).k=2->V4 ls v ls.length 0≠v/\(at' ls (V4 ls v ls.length 0)).i=(at' ls v).i){front f:List Nat}{done dn:List Int}{r:Rw}(j:Mm ls front done)(F:front≠[])(h:O5 4 ls front done=some (r,f,dn)):Mm ls f dn:=by
 have w:0<front.length:=by grind
 unfold O5 at h;split at h
 ·rename_i G;simp only[oI,AT]at h;obtain⟨_,rfl,rfl⟩:=h;have s:Sublist (front.take (L7 front)++front.drop (L7 front+2)) front:=by
   have o:Sublist (front.drop (L7 front+2)) (front.drop (L7 front)):=by
    rw[<-List.drop_drop];exact List.drop_sublist _ _
   have q:=List.Sublist.append (List.Sublist.refl (front.take (L7 front))) o;simp_all
  exact⟨List.Nodup.sublist s j.nd,λd b=>j.lt d (s.subset b),λd b=>j.tl d (s.subset b)⟩
 split at h
 ·cases h
 rename_i B;simp only[oI,AT]at h;obtain⟨_,rfl,rfl⟩:=h;rcases QE (U6 4 ls done front) front.length with⟨o,_,_⟩|⟨o,q,A⟩
 ·exact absurd o B
 obtain⟨z,H,I⟩:=Um (c:=4) (ls:=ls) (done:=done) (front:=front) (i:=(W1 (U6 4 ls done front) front.length).1) (by rw[A];exact o);generalize (W1 (U6 4 ls done front) front.length).1=a at *;generalize (W1 (U6 4 ls done front) front.length).2=n at *;have hm:=j.lt _ (Kz q);have m:=Ya8 y (λv t p=>(hi v t p).2) (4-n) _ hm z;have E:=Ykw y (λv t p=>(hi v t p).1) hm z (k:=4-n) (by omega);have g:∀d,d∈front.take a->d∈front:=λd b=>List.mem_of_mem_take b;have e:∀d,d∈front.drop (a+n)->d∈front:=λd b=>List.mem_of_mem_drop b;have u:∀d,d∈front->d∉U8 ls (front.getD a 0) (4-n):=λd b C=>by
  obtain⟨_,D,J⟩:=m d C;have:=j.tl d b D;grind
 have l:(front.take a++front.drop (a+n)).Nodup:=by
  refine List.Nodup.sublist ?_ j.nd;have o:Sublist (front.drop (a+n)) (front.drop a):=by
   rw[<-List.drop_drop];exact List.drop_sublist _ _
  have q:=List.Sublist.append (List.Sublist.refl (front.take a)) o;simp_all
 rw[List.nodup_append]at l;refine⟨?_,λd b=>?_,λd b p=>?_⟩
 ·grind
 ·rcases List.mem_append.1 b with b|b
  ·rcases List.mem_append.1 b with b|b
   ·exact j.lt d (g d b)
   exact(m d b).1
  exact j.lt d (e d b)
 rcases List.mem_append.1 b with b|b
 ·rcases List.mem_append.1 b with b|b
  ·exact List.mem_append_left _ (j.tl d (g d b) p)
  grind
 exact List.mem_append_left _ (j.tl d (e d b) p)
theorem WM(ls:List Lt)(p:∀v,v<ls.length->(at' ls v).k≠2->(at' ls v).k=1):Mm ls (Y4 ls) []:=by
 have c:∀v,v<ls.length->Av (Ca ls v)=arr ls.length v (down ls v):=λv g=>by
  unfold Ca;rw[JZ g,Bool.not_not]
 refine⟨?_,λd j=>?_,λd j f=>?_⟩
 ·unfold Y4;unfold List.Nodup;rw[List.pairwise_map];refine List.Pairwise.imp_of_mem (λ{a b} h i l e=>l ?_) (Qx ls);have h:=(AA.1 h).1;have i:=(AA.1 i).1;have m:Av (Ca ls a)=Av (Ca ls b):=by rw[e]
  rw[c a h,c b i]at m;exact(Jf h i m).1
 ·obtain⟨v,g,rfl⟩:=mM.1 j;exact HJ (AA.1 g).1
 obtain⟨v,g,rfl⟩:=mM.1 j;obtain⟨n,o⟩:=AA.1 g;rw[c v n,K1 n]at f;simp[As,f]at o
end
end Go.Ad
end
section
namespace Go.AE
open Go.RowKit
variable {P:Program}
def Wk(v v':Aa):Prop:=∀ (Φ:Ap) (ρ:AI) (u:Value),R Φ ρ v u→R Φ ρ v' u
def VB:List Aa→List Aa→Prop
 | [],[]=>True
 | x :: r,y :: s=>Wk x y∧VB r s
 | _,_=>False
theorem Wk.refl(v:Aa):Wk v v:=λ_ _ _ h=>h
theorem uc:Wk .Aj (.Al []):=λΦ ρ u h=>nI Φ ρ u h Φ ρ
theorem bW:∀{xs a:List Aa},VB xs a->xs.length=a.length /\ ∀(i:Nat) (y:Aa),a[i]?=some y -> ∃x,xs[i]?=some x/\Wk x y
 |[],[],_=>⟨rfl,λi y h=>by simp at h⟩
 |[],_::_,h=>h.elim
 |_::_,[],h=>h.elim
 |x::r,y::s,h=>by
  obtain⟨b,d⟩:=bW h.2;refine⟨by simp[b],λi z c=>?_⟩;cases i with
  |zero=>cases c;exact⟨x,rfl,h.1⟩
  |succ i=>grind
theorem Zwq{xs a:List Aa}(h:VB xs a):Wk (.agg xs) (.agg a):=λΦ ρ u f=>by
 obtain⟨b,c⟩:=bW h;cases f with
 |agg cs vs e d=>
  refine .agg _ _ (by rw[e,b]) λi y v l g=>?_;obtain⟨x,k,j⟩:=c i y l;exact j _ _ _ (d i x v k g)
theorem Yb0{xs a:List Aa}(h:VB xs a):Wk (.tuple xs) (.tuple a):=λΦ ρ u f=>by
 obtain⟨b,c⟩:=bW h;cases f with
 |tuple cs vs e d=>
  refine .tuple _ _ (by rw[e,b]) λi y v l g=>?_;obtain⟨x,k,j⟩:=c i y l;exact j _ _ _ (d i x v k g)
theorem Au.wk{g:FuncId}{args:List Aa}{v c:Aa}(h:Au P g args v)(s:Wk v c):Au P g args c:=by
 intro m b;refine⟨(h m b).1,λW Φ ρ vs w q l f=>((h m b).2 W Φ ρ vs w q l f).mono λe w' n=>?_⟩;obtain⟨u,r,t,d,ρ',i,j,o,a,k,p,rfl,rfl⟩:=n;exact⟨u,_,_,d,ρ',i,j,o,a,s _ _ _ k,p,rfl,rfl⟩
end Go.AE
namespace Go.Ad
open Go Go.AE Go.Proofs
open Go.Plain
theorem Z5f{ls:List Lt}(i:ls≠[])(d:As (at' ls 0)=true):Il ls=some (R8 ls):=by
 have f:0<ls.length:=by grind
 have a:D6 ls none ls.length≠none:=by
  obtain⟨k,e⟩:∃k,ls.length=k+1:=⟨ls.length-1,by omega⟩;rw[e];have:∀k,D6 ls none (k+1)≠none:=by
   intro k;induction k with
   |zero=>
    have c:down ls 0=true:=rfl;simp[D6,Ny,d,c]
   |succ k g=>exact zh g
  exact this k
 have b:=Zw8 (l:=Q6 ls) a ls.length;unfold R8 Il;cases h:D6 (Q6 ls) (D6 ls none ls.length) ls.length with
 |none=>exact absurd h b
 |some w=>rfl
theorem sE(f:Int)(ls:List Lt)(n:AH f ls)(o:ls≠[]):Au prog 36 [cV f ls] (.tuple [cV f (R8 ls),.int .i64 0]):=by
 refine Jd hm 4 Tryz.func36 Tj rfl rfl (by simp[Y7,Aa.closed,Y6]) (by simp[Aa.closed,Y7,Y6]) λK u=>?_;have v:ls.length<=1000:=by have:=n.len;omega
 have b:As (at' ls 0)=true:=by simp[As,n.fst]
 have a:=λF=>qW F ls (Bf ls ls.length) v (n.bk o) b;rw[Z5f o b]at a;simp only[Fy]at a;have s:=YQ f ls v;have y:=n.to;have l:∀q,Z3 q (ls.map Ab)=ls.map Ab:=λq=>Y2 q _ (Y6 ls);have k:∀q,Z3 q ((R8 ls).map Ab)=(R8 ls).map Ab:=λq=>Y2 q _ (Y6 _);have t:=u (.tuple [cV f (R8 ls),.int .i64 0]) ⟨[],1⟩ (gA f _);clear u;unfold cV dF dM Ke at *;generalize ls.map Ab=rows at *;generalize (R8 ls).map Ab=G at *;generalize i:BB (W8 ls.length ls.length (U5 ls) false)=B at *;generalize j:Z1 (W8 ls.length ls.length (O8 ls) 0)=C at *;generalize h:Z1 (Z2 ls)=A at *;have d:∀q,Z3 q A=A:=λq=>by rw[<-h];exact Z5 q _
 have e:∀q,Z3 q B=B:=λq=>by rw[<-i];exact V6 q _
 have g:∀q,Z3 q C=C:=λq=>by rw[<-j];exact Z5 q _
 clear i j h;generalize (Z2 ls).length=m at *;generalize Bf ls ls.length=E at *;simp;refine S3 s [] (by simp[l]) (by simp) (by simp) ?_;rintro r z (⟨p,_⟩|⟨_,p,_⟩|⟨_,_,H,D,_,rfl,rfl⟩)
 ·exact absurd y p
 ·exact absurd p o
 obtain⟨F,w⟩:∃F:Nat,f=(F:Int):=⟨f.toNat,by omega⟩;subst w;have c:=a F;simp[l,d,e,g,Z9,Z5];refine S3 c [(1,11),(2,12),(3,13),(4,14),(5,15),(6,16)] (by simp) (by simp[l,d,e,g,Z9,Z5]) (by simp) ?_;rintro r z ⟨rfl,rfl⟩;simp[l,d,e,g,Z9,Z5,k];exact Z6 t [] (by simp[k])
theorem Yb4:Au prog 145 [.Al []] (.tuple []):=by
 refine Jd hm 4 Tryz.func145 qA rfl rfl (by rfl) rfl λK b=>?_;have a:=b (.tuple []) ⟨[],1⟩ rfl;clear b;have w1:IntKind.i64.wrap (-1) = -1:=by decide
 simp[w1];refine M4 (α:=Unit) (λ_=>[(3,.int .i64 (-1)),(2,.int .i64 0)]) (λ_=>⟨[],1⟩) (λ_=>0) (λ_=>True) () [] (by simp[]) trivial ?_;intro _ _ N c;simp;exact Z6 a [] (by simp)
theorem Z8i(f:Int):Bo prog 112 [.ptr 1 0 0] (HN f []) λv m=>v=.Al []/\m=⟨(HN f []).bl,2⟩:=by
 refine D2 hm Tryz.func112 mG rfl rfl λK d=>?_;have c:=d _ _ ⟨rfl,rfl⟩;clear d;have b:=YO;have a:=Yb4;simp;refine T0 b ?_;simp;refine T0 a ?_;simp;refine M4 (α:=Unit) (λ_=>[(16,.int .i64 0),(15,.int .i64 0),(3,.Al [])]) (λ_=>⟨[(1,Rz f [])],2⟩) (λ_=>0) (λ_=>True) () [] (by simp) trivial ?_;intro _ _ N e;simp;exact Z6 c [] (by simp)
theorem Z8g(f:Int):Bo prog 72 [.ptr 1 0 0] (HN f []) λv m=>v=.agg [.int .i64 f,.Aj]/\m=⟨(HN f []).bl,2⟩:=by
 refine D2 hm Tryz.func72 oQ rfl rfl λK r=>?_;have j:=r _ _ ⟨rfl,rfl⟩;clear r;have c:=Z8i f;simp;refine Pt c (by simp) [(1,1)] (by simp) (by simp[EO]) (by simp) (λs=>by simp) (by simp) ?_;simp[FT.indep];refine M4 (α:=Nat) (λi=>[(19,.int .i64 i),(18,.int .i64 2),(17,.sl 3 0 2),(3,.Aj),(2,.ptr 2 0 0),(0,.ptr 1 0 0)]) (λ_=>⟨[(1,Rz f []),(2,.cells 2 [[.int .i64 0,.Aj]]),(3,.cells 1 [[.Al []],[.Al []]])],4⟩) (λi=>2-i) (λi=>i<=2) 0 [(3,11)] (by simp) (by simp) ?_;intro i hi N k
 try simp only at hi k ⊢
 by_cases p:i<2
 ·have l:([[.Al []],[.Al []]]:List (List Aa))[i]?=some [.Al []]:=by
   grind
  obtain⟨y,u⟩:=Y3 l;have h:(i:Int)<2:=by omega
  have A:=Y0 ((i:Int)+1);have e:=k (i+1) [];obtain⟨b,a⟩:∃b:List (List Aa),b=[[.Al []],[.Al []]]:=⟨_,rfl⟩;have w:b.length=2:=by rw[a];rfl
  have d:∀q,Z3 q b=b:=λq=>by rw[a];rfl
  have n:b[i]?=some [.Al []]:=by rw[a];exact l
  obtain⟨t,g⟩:=Y3 n;rw[<-a]at e ⊢;clear l u y k;simp[p,h,g,w];refine M4 (α:=Unit) (λ_=>[(25,.int .i64 0),(24,.int .i64 0),(19,.int .i64 i),(18,.int .i64 2),(17,.sl 3 0 2),(3,.Aj),(2,.ptr 2 0 0),(0,.ptr 1 0 0)]) (λ_=>⟨[(1,Rz f []),(2,.cells 2 [[.int .i64 0,.Aj]]),(3,.cells 1 b)],4⟩) (λ_=>0) (λ_=>True) () [] (by simp[d]) trivial ?_;intro _ _ B z;simp[A];exact e _ _ (by omega) (by omega) (by simp[d])
 have o:i=2:=by omega
 subst o;simp;exact Z6 j [] (by simp)
theorem sD(f:Int)(g:V3 f []=0):Au prog 36 [cV f []] (.tuple [cV f [],.int .i64 0]):=by
 refine Au.wk (v:=.tuple [.agg [.int .i64 f,.Aj],.int .i64 0]) ?_ (Yb0 ⟨Zwq ⟨Wk.refl _,uc,trivial⟩,Wk.refl _,trivial⟩);refine Jd hm 4 Tryz.func36 Tj rfl rfl (by rfl) (by rfl) λK e=>?_;have a:=Z8g f;have c:=YQ f [] (by simp);have d:=e (.tuple [.agg [.int .i64 f,.Aj],.int .i64 0]) ⟨[],1⟩ rfl;clear e;unfold cV at *;simp;refine S3 c [] (by simp) (by simp) (by simp) ?_;rintro r h (⟨b,_⟩|⟨_,_,_,_,rfl,rfl⟩|⟨_,b,_⟩)
 ·exact absurd g b
 ·simp;refine S3 a [(1,11)] (by simp) (by simp) (by simp) ?_;rintro r h ⟨rfl,rfl⟩;simp;exact Z6 d [] (by simp)
 exact absurd rfl b
theorem YR(f:Int)(ls:List Lt)(b:V3 f ls=0):Au prog 36 [cV f ls] (.tuple [cV f (R8 ls),.int .i64 0]):=by
 by_cases a:ls=[]
 ·subst a;exact sD f b
 exact sE f ls (Ll b a) a
theorem Zyz{ls:List Lt}:(R8 ls).length<=ls.length:=by
 unfold R8;cases h:Il ls with
 |none=>simp
 |some w=>
  have a:∀w,D6 ls none ls.length=some w->w.length=ls.length:=λw b=>VC rfl (λw h=>by cases h) _ w b;have:=VC (l:=Q6 ls) (Qi ls) a ls.length w h;simp[this]
theorem rS(f g:Int)(a b:List Lt)(m:V3 f a=0)(n:V3 g b=0)(h:a.length<=1000)(j:b.length<=1000) :
 Au prog 14 [cV f a,cV g b] (.tuple [.bool (decide (f=g)&&decide (R8 a=R8 b)),.int .i64 0]):=by
 refine Jd hm 4 Tryz.func14 YZ rfl rfl (by simp[Y7,Aa.closed,Y6]) (by rfl) λK i=>?_;have k:=YR f a m;have l:=YR g b n;have e:=c65 (R8 a) (R8 b) (Nat.le_trans Zyz h) (Nat.le_trans Zyz j);have c:=i (.tuple [.bool (decide (f=g)&&decide (R8 a=R8 b)),.int .i64 0]) ⟨[],1⟩ rfl;clear i;have o:∀q,Z3 q (a.map Ab)=a.map Ab:=λq=>Y2 q _ (Y6 a);have p:∀q,Z3 q (b.map Ab)=b.map Ab:=λq=>Y2 q _ (Y6 b);unfold cV at *;generalize a.map Ab=u at *;generalize b.map Ab=v at *;generalize (R8 a).map Ab=r at *;generalize (R8 b).map Ab=s at *;generalize decide (R8 a=R8 b)=t at *;simp;refine T0 k ?_;simp;refine T0 l ?_;by_cases d:f=g
 ·rw[decide_eq_true d,Bool.true_and]at c;simp[d];refine T0 e ?_;simp;exact Z6 c [] (by simp)
 rw[decide_eq_false d,Bool.false_and]at c;simp[d];exact Z6 c [] (by simp)
end Go.Ad
end
section
namespace Go.Ad
open Go.Plain
section
variable {n:Int} {ls:List Lt}
end
end Go.Ad
end
section
namespace Go.Ad
open Go.Plain
section
variable {g a:Int} {ls:List Lt}
end
end Go.Ad
end
