/- Part 48 -/
import Derived.Test.YtilmpmlkndfbjaaGreatDoorT47
set_option linter.all false
set_option maxRecDepth 100000
set_option maxHeartbeats 16000000
open List (getElem_mem range mem_append_left map_append map_map nodup_range map_take map_drop foldl_cons mem_cons_self)
open Prod (fst snd)
namespace Go.Ad
open Go.Plain Go Go.AE Go.Proofs
def HV(r:Rw):Ro:=((r.1:Int),(r.2.1:Int),(r.2.2.1:Int),r.2.2.2)
section
variable {f:Int} {x:List Lt} (hv:AH f x) (h0:x≠[])
include hv h0
theorem oW{v:Nat}(a:v<x.length)(b:(at' x v).k=2):0<v/\M8 x (v-1)=M8 x v:=by
 have c:v≠0:=λe=>by
  have:=hv.fst;grind
 refine⟨by omega,?_⟩;obtain⟨w,rfl⟩:∃w,v=w+1:=⟨v-1,by omega⟩;unfold M8;rw[show w+1-1=w by omega,ON (i:=w+1) a,iN (by simp[As,b])];rfl
omit h0 in
theorem Z8h{v:Nat}(a:v<x.length)(b:Bool):arr x.length v b / 2=if b then (v+x.length-1)%x.length else v:=by
 unfold arr;grind
theorem UX{v:Nat}(a:v<x.length)(d:(at' x v).k=2)(b:Bool):M8 x (arr x.length v b / 2)=M8 x v:=by
 obtain⟨e,c⟩:=oW hv h0 a d;rw[Z8h hv a];cases b
 ·rfl
 simp only[if_true];rw[OS a,iN (by omega),c]
theorem aG{v:Nat}(a:v<x.length)(c:(at' x v).k=2)(b:Bool):it (Z8 x) 1 (arr x.length v b)=arr x.length (BY x v) (b != Cw x v)/\it (Z8 x) 2 (arr x.length v b)=arr x.length v (!b)/\it (Z8 x) 3 (arr x.length v b)=arr x.length (BY x v) (b == Cw x v):=by
 have hw:=hv.wv h0;have f:=Mv hw a c b;have d:=Kp hw a c b;have g:=Mv hw a c (!b);refine⟨f,d,?_⟩;show Z8 x (it (Z8 x) 2 (arr x.length v b))=_;have e:it (Z8 x) 2 (arr x.length v b)=arr x.length v (!b):=d;rw[e,g]
 congr 1
 grind
theorem Yhh{u:Nat}(l:u<2*x.length)(f:(Ay x u).k=2):∀i j,i<4->j<4->it (Z8 x) i u=it (Z8 x) j u->i=j:=by
 obtain⟨v,b,a,rfl⟩:=L4 l;rw[K1 a]at f;obtain⟨q,r,s⟩:=aG hv h0 a f b;have p:it (Z8 x) 0 (arr x.length v b)=arr x.length v b:=rfl;obtain⟨w1,_⟩:=(hv.wv h0).Cp v a f;have g:=((hv.wu h0).ne v a f).1;have m:∀c d,arr x.length v c≠arr x.length (BY x v) d:=λc d e=>g (Jf a w1 e).1.symm;have n:∀c d,c≠d->arr x.length v c≠arr x.length v d:=λc d h e=>h (Jf a a e).2;have o:∀c d,c≠d->arr x.length (BY x v) c≠arr x.length (BY x v) d:=λc d h e=>h (Jf w1 w1 e).2;grind
theorem Yd6{u:Nat}(i:u<2*x.length)(c:(Ay x u).k=2)(q:Nat)(j:q<4):M8 x (it (Z8 x) q u / 2)=M8 x (u / 2):=by
 obtain⟨v,b,a,rfl⟩:=L4 i;rw[K1 a]at c;obtain⟨f,g,h⟩:=aG hv h0 a c b;obtain⟨w1,w2,_⟩:=(hv.wv h0).Cp v a c;have e:M8 x (BY x v)=M8 x v:=Z7d hv h0 a c;have d:q=0\/q=1\/q=2\/q=3:=by omega
 rcases d with rfl|rfl|rfl|rfl
 ·rfl
 ·rw[f,UX hv h0 w1 w2,UX hv h0 a c];exact e
 ·rw[g,UX hv h0 a c,UX hv h0 a c]
 rw[h,UX hv h0 w1 w2,UX hv h0 a c];exact e
theorem Yic{v:Nat}(a:v<x.length)(c:(at' x v).k=1):M8 x (Ca x v / 2)=true:=by
 have d:Z0 (x.take (v+1))=Z0 (x.take v)+1:=by rw[ON a,iP (by simp[As,c])]
 unfold Ca;cases b:down x v with
 |false=>
  have e:Y5 x.length v (!false) / 2=v:=by unfold Y5;simp
  rw[e];unfold M8;rw[d];unfold down at b;grind
 |true=>
  have e:Y5 x.length v (!true) / 2=(v+x.length-1)%x.length:=by unfold Y5;simp;omega
  rw[e,OS a];unfold down at b;simp only[beq_iff_eq]at b;unfold M8;by_cases f:v=0
  ·rw[iP f,show x.length-1+1=x.length by omega,List.take_length];exact decide_eq_true hv.Jk
  grind
end
theorem Yh2(d:Nat):Av d / 2=d / 2:=by unfold Av;split<;>omega
structure Re (x:List Lt) (m n0:Nat) (below:Bool) (L0:List (Nat×Nat)) (fp P:List (Nat×Nat)) (dn:List Int) (L:List (Nat×Nat)) (X:List Nd):Prop where
 fr:∀ p,p∈fp→p∈P
 lt:∀ p,p∈P→p.1<2*x.length
 nd:(P.map fst).Nodup
 id:∀ p,p∈P→(Ay x (Av p.1)).k=2→(Ay x (Av p.1)).i∈dn
 en:(P.map snd).Nodup
 eb:∀ p,p∈P→(p.2<2*m∨2*m+4*n0≤p.2)∧p.2<2*m+4*X.length
 ev:∀ p,p∈P→p.2<2*m→p.2 % 2=if below then 1 else 0
 jn:∃ M,L=L0++M ∧ ∀ p,p∈M → ∃ d,(d,p.1)∈P∧(Av d,p.2)∈P
 cr:∀ j,n0≤j→j<X.length → ∃ u,u<2*x.length∧(Ay x u).k=2∧X.getD j (false,false)=((Ay x u).o,below) ∧ ∀ q,q<4→(Av (it (Z8 x) q u),2*m+4*j+q)∈P
 nn:n0≤X.length
 cn:P.length+4*n0=m+4*X.length
 sd:∀ p,p∈P→M8 x (p.1 / 2)=true
section
variable {f:Int} {x:List Lt} (hv:AH f x) (h0:x≠[]) {m n0:Nat} {below:Bool} {L0:List (Nat×Nat)}
include hv h0
theorem Re.step{c P:List (Nat×Nat)}{dn PE:List Int}{L:List (Nat×Nat)}{X:List Nd}{r:Rw}{fx:List Nat}(h:Re x m n0 below L0 c P dn L X)(Z:c≠[])(hs:O5 4 x (c.map fst) dn=some (r,fx,PE)) :
 ∃z P' L' X',Re x m n0 below L0 z P' PE L' X'/\z.map fst=fx/\(∀p,p∈P->p∈P') /\ ∀D,U1 m below (HV r::D) (c.map snd) L X=U1 m below D (z.map snd) L' X':=by
 have hw:=hv.wv h0;have hu:=hv.wu h0;have I:∀d,d∈c.map fst->d<2*x.length:=λd O=>by
  obtain⟨p,b,rfl⟩:=mM.1 O;exact h.lt p (h.fr p b)
 have v:(c.map snd).length=c.length:=by grind
 rcases Yli hu I (by simpa using Z) hs with⟨i,K,Q,e3,e4,y⟩|⟨a,n,K,Q,e3,e4,y,e6,e7,e8,e9⟩
 ·rw[lM]at Q;have gi:=cM (l:=c) (i:=i) (by omega);have gj:=cM (l:=c) (i:=i+1) Q;have p0:c[i]∈P:=h.fr _ (getElem_mem _);have p1:c[i+1]∈P:=h.fr _ (getElem_mem _);obtain⟨M,m1,m2⟩:=h.jn;refine⟨c.take i++c.drop (i+2),P,L++[(c[i].2,c[i+1].2)],X,⟨λp b=>h.fr p ?_,h.lt,h.nd,by rw[y];exact h.id,h.en,h.eb,h.ev,⟨M++[(c[i].2,c[i+1].2)],by grind,λp b=>?_⟩,h.cr,h.nn,h.cn,h.sd⟩,?_,λp b=>b,λD=>?_⟩
  ·grind
  ·grind
  ·simp_all
  rw[K];have S:DS (c.map snd).length (HV (1,i,0,false)):=⟨rfl,by show(0:Int)<=(i:Nat);omega,by rw[v];show((i:Nat):Int)<_;omega,rfl,rfl⟩;rw[U1,iP S];show U1 m below D ((c.map snd).take ((i:Nat):Int).toNat++(c.map snd).drop (((i:Nat):Int).toNat+2)) (L++[((c.map snd).getD ((i:Nat):Int).toNat 0,(c.map snd).getD (((i:Nat):Int).toNat+1) 0)]) X=_;simp_all
 rw[lM]at e4;have ga:=cM (l:=c) (i:=a) (by omega);have pa:c[a]'(by omega)∈P:=h.fr _ (getElem_mem _);obtain⟨u,B⟩:∃u,u=(c.map fst).getD a 0:=⟨_,rfl⟩;have g:u<2*x.length:=by rw[B];exact I _ (Kz (by grind))
 rw[<-B]at K y e6 e7 e8 e9;have r4:it (Z8 x) 4 u=u:=Qd hw g y;have s:=λj=>Zxy hu g y j;have G:=Yhh hv h0 g y;obtain⟨base,hb⟩:∃base,base=2*m+4*X.length:=⟨_,rfl⟩;obtain⟨N,C⟩:∃N:Nat->Nat×Nat,N=λq=>(Av (it (Z8 x) q u),base+q):=⟨_,rfl⟩;have J:∀k,(t:k<n)->c[a+k]'(by omega)∈P/\(c[a+k]'(by omega)).1=it (Z8 x) (4-k) u/\(c.map snd).getD (a+k) 0=(c[a+k]'(by omega)).2:=λk t=>by
  have gk:=cM (l:=c) (i:=a+k) (by omega);refine⟨h.fr _ (getElem_mem _),?_,gk.2⟩;rw[<-gk.1,e7 k t]
 have ac:∀q,q<4->N q∈P++(range 4).map N:=λq f=>List.mem_append_right _ (mM.2 ⟨q,mR.2 f,rfl⟩);have A:∀q,Av (N q).1=it (Z8 x) q u:=λq=>by rw[C];exact K3 _
 have ab:∀p,p∈P -> ∀q,p.1≠(N q).1:=λp b q e=>by
  obtain⟨_,k2,k3⟩:=s q;have h1:=h.id p b (by rw[e,A];exact k2);grind
 obtain⟨M,m1,m2⟩:=h.jn;have E:(X++[((Ay x u).o,below)]).length=X.length+1:=by simp
 refine⟨c.take a++((range (4-n)).map λk=>N (k+1))++c.drop (a+n),P++(range 4).map N,L++ED (c.map snd) a base n,X++[((Ay x u).o,below)],
  ⟨λp b=>?_,λp b=>?_,?_,λp b t=>?_,?_,λp b=>?_,λp b V=>?_,⟨M++ED (c.map snd) a base n,by grind,λp b=>?_⟩,λj T U=>?_,by have:=h.nn;omega,?_,λp b=>?_⟩,?_,λp b=>mem_append_left _ b,λD=>?_⟩
 ·rcases List.mem_append.1 b with b|b
  ·rcases List.mem_append.1 b with b|b
   ·exact mem_append_left _ (h.fr _ (List.mem_of_mem_take b))
   grind
  exact mem_append_left _ (h.fr _ (List.mem_of_mem_drop b))
 ·rcases List.mem_append.1 b with b|b
  ·exact h.lt p b
  obtain⟨q,_,rfl⟩:=mM.1 b;rw[C];exact JS (s q).1
 ·rw[map_append,List.nodup_append];refine⟨h.nd,?_,λd O d' F e=>?_⟩
  ·rw[map_map];refine KJ (λi j hi H e=>?_) nodup_range;refine G i j (mR.1 hi) (mR.1 H) ?_;rw[<-A i,<-A j];exact congrArg Av e
  grind
 ·rw[e9];rcases List.mem_append.1 b with b|b
  ·exact mem_append_left _ (h.id p b t)
  grind
 ·rw[map_append,List.nodup_append];refine⟨h.en,?_,λd O d' F e=>?_⟩
  ·rw[map_map];refine KJ (λi j hi H e=>?_) nodup_range;grind
  obtain⟨p,b,rfl⟩:=mM.1 O;obtain⟨p',aa,rfl⟩:=mM.1 F;obtain⟨q,_,rfl⟩:=mM.1 aa;have:=(h.eb p b).2;grind
 ·rw[E];rcases List.mem_append.1 b with b|b
  ·have:=h.eb p b;omega
  obtain⟨q,f,rfl⟩:=mM.1 b;have:=mR.1 f;have:=h.nn;grind
 ·rcases List.mem_append.1 b with b|b
  ·exact h.ev p b V
  grind
 ·rcases List.mem_append.1 b with b|b
  ·grind
  obtain⟨k,t,rfl⟩:=mM.1 b;have t:=mR.1 t;obtain⟨k1,k2,k3⟩:=J k t;refine⟨(c[a+k]'(by omega)).1,?_,?_⟩
  ·grind
  show(Av _,base+(4-k)%4)∈_;have:(Av (c[a+k]'(by omega)).1,base+(4-k)%4)=N ((4-k)%4):=by
   rw[C,k2];show(Av (it (Z8 x) (4-k) u),_)=(Av (it (Z8 x) ((4-k)%4) u),_);by_cases hz:k=0
   ·subst hz;rw[show 4-0=4 from rfl,r4];rfl
   rw[Nat.mod_eq_of_lt (show 4-k<4 by omega)]
  grind
 ·rw[E]at U;by_cases H:j<X.length
  ·obtain⟨w,w1,w2,w3,w4⟩:=h.cr j T H;refine⟨w,w1,w2,?_,λq f=>mem_append_left _ (w4 q f)⟩;rw[List.getD,List.getElem?_append_left H];exact w3
  grind
 ·have:=h.cn;grind
 ·rcases List.mem_append.1 b with b|b
  ·exact h.sd p b
  obtain⟨q,f,rfl⟩:=mM.1 b;have f:=mR.1 f;rw[C];show M8 x (Av _ / 2)=true;rw[Yh2,Yd6 hv h0 g y q f,B,ga.1];exact h.sd _ pa
 ·rw[e8,map_append,map_append,map_take,map_drop,Zzf,map_map];rw[C];rfl
 rw[K];have Y:¬DS (c.map snd).length (HV (2,a,n,(Ay x u).o)):=λe=>by
  have:((2:Nat):Int)=1:=e.1;omega
 have S:Ey (c.map snd).length (HV (2,a,n,(Ay x u).o)):=⟨rfl,by show(1:Int)<=(n:Nat);omega,by show((n:Nat):Int)<=4;omega,by show(0:Int)<=(a:Nat);omega,by rw[v];show((a:Nat):Int)<=_-((n:Nat):Int);omega⟩;rw[U1,iN Y,iP S];show U1 m below D ((c.map snd).take ((a:Nat):Int).toNat++DW (2*m+4*X.length) ((n:Nat):Int).toNat++(c.map snd).drop (((a:Nat):Int).toNat+((n:Nat):Int).toNat)) (L++ED (c.map snd) ((a:Nat):Int).toNat (2*m+4*X.length) ((n:Nat):Int).toNat) _=_;rw[Int.toNat_natCast,Int.toNat_natCast,<-hb,map_append,map_append,map_take,map_drop,map_map];rw[C];rfl
theorem Re.run:∀(k:Nat) (a P:List (Nat×Nat)) (dn:List Int) (L:List (Nat×Nat)) (X:List Nd),Re x m n0 below L0 a P dn L X->(A0 x k (a.map fst) dn).1=[] ->
 ∃f n e g,Re x m n0 below L0 [] f n e g/\(∀p,p∈P->p∈f)/\U1 m below ((Kf 4 x k (a.map fst) dn).map HV) (a.map snd) L X=(true,e,g)
 |0,a,P,dn,L,X,h,b=>by
  have b:a.map fst=[]:=b;have c:a=[]:=by simpa using b
  subst c;exact⟨P,dn,L,X,h,λp j=>j,rfl⟩
 |k+1,a,P,dn,L,X,h,b=>by
  by_cases c:a=[]
  ·subst c;refine⟨P,dn,L,X,h,λp j=>j,?_⟩;rw[Kf];rfl
  have d:a.map fst≠[]:=by simpa using c
  rw[A0,iN d]at b;rw[Kf,iN d];cases l:O5 4 x (a.map fst) dn with
  |none=>grind
  |some z=>
   obtain⟨r,y,o⟩:=z;rw[l]at b;simp only at b ⊢;obtain⟨i,f,e,g,s,t,A,B⟩:=h.step hv h0 c l;rw[<-t]at b ⊢;obtain⟨v,q,u,w,C,D,E⟩:=Re.run k i f o e g s b;grind
theorem Re.Mb(c:Nat)(n:c=if below then 1 else 0)(X:List Nd)(hm:m=Z0 x)(l:n0=X.length) :
 Re x m n0 below L0 ((range m).map λi=>(Ca x ((Z2 x).getD i 0),2*i+c)) ((range m).map λi=>(Ca x ((Z2 x).getD i 0),2*i+c)) [] L0 X:=by
 subst hm;have b:∀p,p∈((range (Z0 x)).map λi=>(Ca x ((Z2 x).getD i 0),2*i+c)) -> ∃i,i<Z0 x/\p=(Ca x ((Z2 x).getD i 0),2*i+c)/\(Z2 x).getD i 0<x.length/\(at' x ((Z2 x).getD i 0)).k=1:=λp a=>by
  obtain⟨i,hi,rfl⟩:=mM.1 a;have hi:=mR.1 hi;obtain⟨v,v1,o,q,r⟩:=IV hi;grind
 have h:c<2:=by grind
 refine⟨λp a=>a,λp a=>?_,?_,λp a g=>?_,?_,λp a=>?_,λp a _=>?_,⟨[],by simp,λp a=>by cases a⟩,λj d f=>by omega,by omega,?_,λp a=>?_⟩
 ·obtain⟨i,_,rfl,d,_⟩:=b p a;exact HJ d
 ·rw[map_map];have:=(WM x (hv.wv h0).Cs).nd;rw[eD]at this;exact this
 ·obtain⟨i,_,rfl,d,f⟩:=b p a;have g:(Ay x (Av (Ca x ((Z2 x).getD i 0)))).k=2:=g;rw[ru d]at g;omega
 ·rw[map_map];refine KJ (λi j _ _ e=>?_) nodup_range;grind
 ·grind
 ·grind
 ·grind
 obtain⟨i,_,rfl,d,f⟩:=b p a;exact Yic hv h0 d f
end
theorem YS(rows:List (List Aa))(h:rows≠[])(j:rows.length<=100000)(c:(rows.all λx=>x.length == 1)=true)(e:W3 rows=true) :
 Bo Tryz.prog 54 [.Al rows] ⟨[],1⟩ λv m=>v=.sl 1 0 rows.length/\m=⟨[(1,.cells 1 rows)],2⟩:=by
 refine D2 hm Tryz.func54 Tk rfl rfl λK b=>?_;have i:∀q,Z3 q rows=rows:=λq=>Y2 q _ e;have a:=b _ _ ⟨rfl,rfl⟩;clear b;have d:rows.length<=1048576:=by omega
 have g:W5 .eql .slice (.Al rows) .Aj=some (.bool false):=by
  have:rows.isEmpty=false:=by grind
  simp[W5,Ez,JG,G0,this]
 simp[g,Ul,c,h,d,W4,Aa.cells];exact Z6 a [(1,6)] (by simp[i])
theorem Kd:Bo Tryz.prog 54 [.sl 1 0 0] ⟨[],2⟩ λr c=>r=.sl 2 0 0/\c=⟨[(2,.cells 1 [])],3⟩:=by
 refine D2 hm Tryz.func54 Tk rfl rfl λK b=>?_;have a:=b (.sl 2 0 0) ⟨[(2,.cells 1 [])],3⟩ ⟨rfl,rfl⟩;clear b;simp[W5,Ez,JG,G0,L5,W4];exact Z6 a [(2,5)] (by simp)
def BZ(n:Nat)(L:List (Nat×Nat)):List Int:=L.foldl (fun J p=>C6 J p.1 p.2) (List.replicate n (-1))
theorem jE(J:List Int)(a b:Nat):(C6 J a b).length=J.length:=by simp[C6]
theorem Zww:∀(L:List (Nat×Nat)) (J:List Int),(L.foldl (λJ p=>C6 J p.1 p.2) J).length=J.length
 |[],_=>rfl
 |p::L,J=>by rw[foldl_cons,Zww L,jE]
theorem QB(n:Nat)(L:List (Nat×Nat)):(BZ n L).length=n:=by rw[BZ,Zww,List.length_replicate]
theorem Z6l(n:Nat)(L:List (Nat×Nat))(a b:Nat):BZ n (L++[(a,b)])=C6 (BZ n L) a b:=by rw[BZ,List.foldl_append];rfl
theorem y9:∀(L:List (Nat×Nat)) (J:List Int) (z:List Int),(∀p,p∈L->p.1<J.length/\p.2<J.length)->L.foldl (λJ p=>C6 J p.1 p.2) (J++z)=L.foldl (λJ p=>C6 J p.1 p.2) J++z
 |[],_,_,_=>rfl
 |p::L,J,z,h=>by
  obtain⟨a,b⟩:=h p (mem_cons_self ..);have e:C6 (J++z) p.1 p.2=C6 J p.1 p.2++z:=by
   unfold C6;grind
  rw[foldl_cons,foldl_cons,e,y9 L _ z λq c=>by rw[jE];grind]
theorem Yi0{n:Nat}{L:List (Nat×Nat)}(k:Nat)(h:∀p,p∈L->p.1<n/\p.2<n):BZ (n+k) L=BZ n L++List.replicate k (-1):=by
 unfold BZ;rw[<-List.replicate_append_replicate,y9 L _ _ (by simpa using h)]
def xJ(m:Nat)(X:List Nd):List (Int×Nd):=X.zipIdx.map fun p=>(((2*m+4*p.2:Nat):Int),p.1)
theorem bE(m:Nat)(X:List Nd):(xJ m X).length=X.length:=by simp[xJ]
theorem Yff(m:Nat)(X:List Nd)(x:Nd):xJ m (X++[x])=xJ m X++[(((2*m+4*X.length:Nat):Int),x)]:=by
 unfold xJ;grind
def GY(r:Ro):List Aa:=[.int .i64 r.1,.int .i64 r.2.1,.int .i64 r.2.2.1,.bool r.2.2.2]
theorem XH:∀(l:List Ro),W3 (l.map GY)=true
 |[]=>rfl
 |r::l=>by
  have:=XH l;simp only[List.map_cons,W3,GY,Y7,Aa.closed,Bool.and_true,Bool.true_and]at this ⊢;exact this
theorem Fw.lt{m:Nat}{front Cp:List Nat}{L:List (Nat×Nat)}{X:List Nd}(h:Fw m front Cp L X):(∀e,e∈front->e<2*m+4*X.length)/\(∀p,p∈L->p.1<2*m+4*X.length/\p.2<2*m+4*X.length)/\front.length<=2*m+4*X.length:=by
 have hm:∀e,e∈front++Cp++O1 L->e<2*m+4*X.length:=λe a=>mR.1 (h.mem_iff.1 a);refine⟨λe a=>hm e (by simp[a]),λp b=>⟨hm _ ?_,hm _ ?_⟩,?_⟩
 ·exact List.mem_append_right _ (BA.2 ⟨p,b,.inl rfl⟩)
 ·exact List.mem_append_right _ (BA.2 ⟨p,b,.inr rfl⟩)
 have:=h.length_eq;grind
def DG(m a:Nat):Nat:=(a - 2*m) / 4
def HU(m a:Nat):Nat:=(a - 2*m) % 4
def Q0(m:Nat)(L:List (Nat×Nat)):Nat→Nat→List (Nat×Nat)
 | 0,_=>[]
 | t+1,x=>if ¬AK m L t<2*m∧DG m (AK m L t)=x then Q0 m L t x++[(t,HU m (AK m L t))]else Q0 m L t x
def Eu(m:Nat)(L:List (Nat×Nat)):Nat→List Nat
 | 0=>[]
 | t+1=>if AK m L t<2*m∨DG m (AK m L t)∈Eu m L t then Eu m L t else Eu m L t++[DG m (AK m L t)]
theorem NH{m:Nat}{L:List (Nat×Nat)}{x s q:Nat}:∀t,(s,q)∈Q0 m L t x↔s<t /\ ¬AK m L s<2*m/\DG m (AK m L s)=x/\q=HU m (AK m L s)
 |0=>by simp[Q0]
 |t+1=>by
  have a:=NH (m:=m) (L:=L) (x:=x) (s:=s) (q:=q) t;unfold Q0;grind
theorem qe{m:Nat}{L:List (Nat×Nat)}{x:Nat}:∀t,(Q0 m L t x).Pairwise λa b=>a.1<b.1
 |0=>List.Pairwise.nil
 |t+1=>by
  have d:=qe (m:=m) (L:=L) (x:=x) t;unfold Q0;split
  ·rw[List.pairwise_append];refine⟨d,by simp,λa e b c=>?_⟩;rw[List.mem_singleton]at c;subst c;exact((NH (s:=a.1) (q:=a.2) t).1 e).1
  exact d
section
variable {m:Nat} {X:List Nd} {L:List (Nat×Nat)} (h:Jy m X L) (hw:FI m X L)
include h hw
theorem Z5i{s t:Nat}(a:s<m+2*X.length)(b:t<m+2*X.length)(e:HW m (AK m L s)=HW m (AK m L t)):s=t:=by
 rcases Z5w e with e|e
 ·exact yU h hw a b e
 exact absurd e (oN h)
theorem x6{x:Nat}(F:x<X.length):∃s t p q,s<t/\t<m+2*X.length/\Q0 m L (m+2*X.length) x=[(s,p),(t,q)]/\AK m L s=2*m+4*x+p/\AK m L t=2*m+4*x+q/\p<4/\q<4/\p%2≠q%2:=by
 obtain⟨a,o,C⟩:=Zy4 h hw (e:=2*m+4*x) (FP.2 (.inr ⟨x,F,.inl rfl⟩));obtain⟨b,y,eb⟩:=Zy4 h hw (e:=2*m+4*x+1) (FP.2 (.inr ⟨x,F,.inr rfl⟩));have key:∀s,s<m+2*X.length -> ¬AK m L s<2*m->DG m (AK m L s)=x->s=a\/s=b:=λs E h1 Q=>by
  have:HW m (AK m L s)=2*m+4*x\/HW m (AK m L s)=2*m+4*x+1:=by
   unfold HW;unfold DG at Q;grind
  rcases this with e|e
  ·exact .inl (Z5i h hw E o (e.trans C.symm))
  exact .inr (Z5i h hw E y (e.trans eb.symm))
 have w:a≠b:=λe=>by subst e;omega
 have f:∀s r,HW m (AK m L s)=2*m+4*x+r->r<2 -> ¬AK m L s<2*m/\DG m (AK m L s)=x/\HU m (AK m L s)%2=r/\AK m L s=2*m+4*x+HU m (AK m L s):=λs r e hr=>by
  unfold HW at e;unfold DG HU;grind
 obtain⟨I,J,Y,A⟩:=f a 0 C (by omega);obtain⟨K,M,Z,B⟩:=f b 1 eb (by omega);have j:∀s,HU m (AK m L s)<4:=λs=>Nat.mod_lt _ (by omega);have G:=(NH (m:=m) (L:=L) (x:=x) (s:=a) (q:=HU m (AK m L a)) (m+2*X.length)).2 ⟨o,I,J,rfl⟩;have H:=(NH (m:=m) (L:=L) (x:=x) (s:=b) (q:=HU m (AK m L b)) (m+2*X.length)).2 ⟨y,K,M,rfl⟩;have k:∀p,p∈Q0 m L (m+2*X.length) x->p=(a,HU m (AK m L a))\/p=(b,HU m (AK m L b)):=λp l=>by
  obtain⟨s,q⟩:=p;obtain⟨g1,g2,g3,rfl⟩:=(NH _).1 l;grind
 have g:=qe (m:=m) (L:=L) (x:=x) (m+2*X.length);generalize Q0 m L (m+2*X.length) x=V at *;have D:∀(u v:Nat×Nat),u.1<v.1->u∈V->v∈V->(∀p,p∈V->p=u\/p=v)->V=[u,v]:=λu v T n hv l=>by
  match V,g,n,hv,l with
  |[],_,n,_,_=>cases n
  |[c],_,n,hv,_=>
   grind
  |c::d::r,g,n,hv,l=>
   rw[List.pairwise_cons,List.pairwise_cons]at g;obtain⟨U,s2,_⟩:=g;have S:=U d (mem_cons_self ..);have N:c=u:=by
    rcases l c (mem_cons_self ..)with e|e
    ·exact e
    grind
   have O:d=v:=by
    grind
   have P:r=[]:=by
    cases r with
    |nil=>rfl
    |cons z r=>
     grind
   rw[N,O,P]
 rcases Nat.lt_or_gt_of_ne w with i|i
 ·exact⟨a,b,_,_,i,y,D _ _ i G H k,A,B,j a,j b,by omega⟩
 exact⟨b,a,_,_,i,o,D _ _ i H G λp l=>(k p l).symm,B,A,j b,j a,by omega⟩
def ZB(d:Bool)(p q:Nat):Nat:=if (decide (p % 2=0) != d)=true then q else p
def ZI(d:Bool)(p q:Nat):Nat:=if (decide (p % 2=0) != d)=true then p else q
theorem yT{x s t p q:Nat}(i:x<X.length)(g:Q0 m L (m+2*X.length) x=[(s,p),(t,q)]) :
 s<t/\t<m+2*X.length/\p<4/\q<4/\p%2≠q%2/\(p%2=0->GJ m (CV m X L) x=p/\GK m (CV m X L) x=q)/\(p%2=1->GJ m (CV m X L) x=q/\GK m (CV m X L) x=p):=by
 obtain⟨w,y,u,v,o,b,a,c,d,e,f,r⟩:=x6 h hw i;rw[g]at a;simp only[List.cons.injEq,AT,and_true]at a;obtain⟨⟨rfl,rfl⟩,rfl,rfl⟩:=a;obtain⟨j,k⟩:=Zwa h hw (by omega) e c;obtain⟨l,n⟩:=Zwa h hw b f d;grind
theorem Z8t{x s t p q:Nat}(k:x<X.length)(j:Q0 m L (m+2*X.length) x=[(s,p),(t,q)])(d:Bool) :
 Hj (GJ m (CV m X L) x) (GK m (CV m X L) x) d=if ZI d p q=(ZB d p q+3)%4 then 1 else -1:=by
 obtain⟨l,n,o,r,u,g,i⟩:=yT h hw k j;obtain⟨c,f⟩:(p=0\/p=1\/p=2\/p=3)/\(q=0\/q=1\/q=2\/q=3):=by omega
 rcases Nat.mod_two_eq_zero_or_one p with e|e
 ·obtain⟨a,b⟩:=g e;rw[a,b];rcases c with rfl|rfl|rfl|rfl<;>rcases f with rfl|rfl|rfl|rfl<;>first|omega|(cases d<;>rfl)
 obtain⟨a,b⟩:=i e;rw[a,b];rcases c with rfl|rfl|rfl|rfl<;>rcases f with rfl|rfl|rfl|rfl<;>first|omega|(cases d<;>rfl)
omit h hw in
theorem nP{x:Int}:∀{met:List Int},V0 x met=0↔x∉met
 |[]=>by simp[V0]
 |z::r=>by
  have a:=nP (x:=x) (met:=r);simp only[V0,mC,not_or];grind
theorem Zyc{gs:List Nat}(c:(AN 0 gs).length=m):∀t,t<=m+2*X.length->U3 (X9 m (AN 0 gs) X L) t=(Eu m L t).map λx=>((x+1:Nat):Int)
 |0,_=>rfl
 |t+1,i=>by
  have g:=Zyc c t (by omega);have f:=Po h hw c;rw[UG (by rw[f];omega),g,WN h hw c (by omega)];have d:Eu m L (t+1)=if AK m L t<2*m\/DG m (AK m L t)∈Eu m L t then Eu m L t else Eu m L t++[DG m (AK m L t)]:=rfl
  rw[d];unfold M9 Fl;by_cases a:AK m L t<2*m
  ·rw[iP a,iN (λe=>by have:=e.1;simp[AP]at this),iP (.inl a)]
  rw[iN a];have hm:V0 (((DG m (AK m L t)+1:Nat):Nat):Int) ((Eu m L t).map λx=>((x+1:Nat):Int))=0↔DG m (AK m L t)∉Eu m L t:=by
   rw[nP];grind
  by_cases b:DG m (AK m L t)∈Eu m L t
  ·rw[iN (λe=>(hm.1 e.2) b),iP (.inr b)]
  rw[iP ⟨rfl,hm.2 b⟩,iN (λe=>e.elim a b),map_append];rfl
end
end Go.Ad
