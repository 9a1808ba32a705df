/- Part 27 -/
import Derived.Test.YtilmpmlkndfbjaaGreatDoorT26
set_option linter.all false
set_option maxRecDepth 100000
set_option maxHeartbeats 16000000
open List (getD map_append)
namespace Go.Ad
open Go.Plain Go Go.AE Go.Proofs
def Ca(ls:List Lt)(i:Nat):Nat:=Y5 ls.length i (!down ls i)
def Av(d:Nat):Nat:=if d % 2=0 then d+1 else d - 1
def CX(ls:List Lt)(d:Nat):Nat:=X4 ls (Z2 ls) d
def Ay(ls:List Lt)(d:Nat):Lt:=at' ls (V2 ls.length d)
def It(ls:List Lt)(done:List Int)(d:Nat):Int:=if (Ay ls d).k=2∧(Ay ls d).i∉done then (Ay ls d).i else 0
def okF(ls:List Lt)(id:Int)(front:List Nat)(j:Nat):Bool:=
 decide ((Ay ls (front.getD j 0)).k=2)&&decide ((Ay ls (front.getD j 0)).i=id)&&decide (CX ls (front.getD j 0)=Av (front.getD (j - 1) 0))
def D0(ls:List Lt)(id:Int)(front:List Nat)(j:Nat):Nat:=
 if h:j<front.length∧okF ls id front j=true then 1+D0 ls id front (j+1)else 0
termination_by front.length - j
decreasing_by omega
theorem Qu{ls:List Lt}{id:Int}{front:List Nat}{j:Nat}(h:j<front.length)(a:okF ls id front j=true):D0 ls id front j=1+D0 ls id front (j+1):=by
 rw[D0,dif_pos ⟨h,a⟩]
theorem JP{ls:List Lt}{id:Int}{front:List Nat}{j:Nat}(h:¬(j<front.length/\okF ls id front j=true)):D0 ls id front j=0:=by
 rw[D0,dif_neg h]
theorem Yj3(ls:List Lt)(id:Int)(front:List Nat):∀k j,front.length-j=k->D0 ls id front j<=front.length-j:=by
 intro k;induction k with
 |zero=>intro j a;rw[JP (λh=>by omega)];omega
 |succ k b=>
  intro j a;by_cases h:j<front.length/\okF ls id front j=true
  ·rw[Qu h.1 h.2];grind
  rw[JP h];omega
def U6(c:Nat)(ls:List Lt)(done:List Int)(front:List Nat)(i:Nat):Nat:=
 if It ls done (front.getD i 0)=0 then 0 else min c (1+D0 ls (It ls done (front.getD i 0)) front (i+1))
def W1(run:Nat→Nat):Nat→Nat×Nat
 | 0=>(0,0)
 | k+1=>if (W1 run k).2<run k then (k,run k)else W1 run k
def F2(p:Nat→Bool):Nat→Nat→Nat
 | 0,j=>j
 | k+1,j=>if p j then j else F2 p k (j+1)
def Pj(front:List Nat)(i:Nat):Bool:=decide (front.getD i 0=Av (front.getD (i+1) 0))
def L7(front:List Nat):Nat:=F2 (Pj front) (front.length - 1) 0
def U8(ls:List Lt):Nat→Nat→List Nat
 | _,0=>[]
 | x,k+1=>CX ls x :: U8 ls (Av (CX ls x)) k
abbrev Rw:=Nat×Nat×Nat×Bool
def O5(c:Nat)(ls:List Lt)(front:List Nat)(done:List Int):Option (Rw×List Nat×List Int):=
 if L7 front<front.length - 1 then some ((1,L7 front,0,false),front.take (L7 front)++front.drop (L7 front+2),done)
 else if (W1 (U6 c ls done front) front.length).2=0 then none
 else some ((2,(W1 (U6 c ls done front) front.length).1,(W1 (U6 c ls done front) front.length).2,(Ay ls (front.getD (W1 (U6 c ls done front) front.length).1 0)).o),
  front.take (W1 (U6 c ls done front) front.length).1++U8 ls (front.getD (W1 (U6 c ls done front) front.length).1 0) (4 - (W1 (U6 c ls done front) front.length).2) ++
   front.drop ((W1 (U6 c ls done front) front.length).1+(W1 (U6 c ls done front) front.length).2),
  done++[(Ay ls (front.getD (W1 (U6 c ls done front) front.length).1 0)).i])
def Kf(c:Nat)(ls:List Lt):Nat→List Nat→List Int→List Rw
 | 0,_,_=>[]
 | k+1,front,done=>if front=[]then []else match O5 c ls front done with
  | none=>[]
  | some (r,f,dn)=>r :: Kf c ls k f dn
def Y4(ls:List Lt):List Nat:=(Z2 ls).map (Ca ls)
def En(ls:List Lt)(front:List Nat)(done:List Int):Nat:=front.length+3*Z4 (fun l=>AO l && !done.contains l.i) ls
def X3(c:Nat)(ls:List Lt):List Rw:=Kf c ls (En ls (Y4 ls) []+1) (Y4 ls) []
theorem Ybm(p:Nat->Bool):∀k j,j<=F2 p k j/\F2 p k j<=j+k
 |0,j=>⟨lR _,lR _⟩
 |k+1,j=>by
  simp only[F2];split
  ·omega
  have:=Ybm p k (j+1);omega
theorem iD(p:Nat->Bool):∀k j,F2 p k j<j+k->p (F2 p k j)=true
 |0,j,h=>by simp only[F2]at h;omega
 |k+1,j,h=>by
  simp only[F2]at h ⊢;split
  ·assumption
  rename_i a;rw[iN a]at h;exact iD p k (j+1) (by omega)
theorem Yeb{p:Nat->Bool}{k j:Nat}(h:p j=false):F2 p (k+1) j=F2 p k (j+1):=by simp[F2,h]
theorem Z76{p:Nat->Bool}{k j:Nat}(h:p j=true):F2 p (k+1) j=j:=by simp[F2,h]
theorem QE(run:Nat->Nat):∀k,((W1 run k).2=0/\(W1 run k).1=0 /\ ∀j,j<k->run j=0)\/(0<(W1 run k).2/\(W1 run k).1<k/\run (W1 run k).1=(W1 run k).2)
 |0=>.inl ⟨rfl,rfl,λj d=>by omega⟩
 |k+1=>by
  simp only[W1];split
  ·grind
  rename_i h;rcases QE run k with⟨a,b,c⟩|⟨a,b,c⟩
  ·exact .inl ⟨a,b,λj d=>by
    by_cases e:j=k
    ·subst e;omega
    exact c j (by omega)⟩
  omega
theorem s0{r a:Nat->Nat}:∀k,(∀j,j<k->r j=a j)->W1 r k=W1 a k
 |0,_=>rfl
 |k+1,h=>by
  simp only[W1];rw[s0 k (λj b=>h j (by omega)),h k (Nat.lt_succ_self k)]
theorem VY(ls:List Lt):∀k x,(U8 ls x k).length=k
 |0,_=>rfl
 |k+1,x=>by simp[U8,VY ls k]
theorem Yh0{ls:List Lt}{done:List Int}{l:Lt}(d:l∈ls)(e:AO l=true)(c:l.i∉done):Z4 (λo=>AO o && !(done++[l.i]).contains o.i) ls<Z4 (λo=>AO o && !done.contains o.i) ls:=by
 have b:=Pp (λo=>AO o && !done.contains o.i) (λo=>o.i != l.i) ls;have a:Z4 (λo=>AO o && !done.contains o.i&&(o.i != l.i)) ls=Z4 (λo=>AO o && !(done++[l.i]).contains o.i) ls:=by
  apply J3;grind
 have f:0<Z4 (λo=>AO o && !done.contains o.i && !(o.i != l.i)) ls:=by
  unfold Z4;exact List.length_pos_of_mem (List.mem_filter.2 ⟨d,by simp[e,c]⟩)
 rw[a]at b;omega
theorem Um{c:Nat}{ls:List Lt}{done:List Int}{front:List Nat}{i:Nat}(h:0<U6 c ls done front i):(Ay ls (front.getD i 0)).k=2/\(Ay ls (front.getD i 0)).i∉done/\It ls done (front.getD i 0)=(Ay ls (front.getD i 0)).i:=by
 unfold U6 at h;split at h
 ·omega
 rename_i a;unfold It at a ⊢;grind
theorem eA{ls:List Lt}{d:Nat}(a:d<2*ls.length):Ay ls d∈ls:=P4 (Lg a)
theorem jB{c:Nat}{ls:List Lt}{front:List Nat}{done:List Int}{r:Rw}{f:List Nat}{dn:List Int}(k:∀d,d∈front->d<2*ls.length)(s:front≠[])(h:O5 c ls front done=some (r,f,dn)):En ls f dn<En ls front done:=by
 have e:0<front.length:=by grind
 unfold O5 at h;split at h
 ·rename_i v;simp only[oI,AT]at h;obtain⟨_,rfl,rfl⟩:=h;unfold En;simp;omega
 split at h
 ·cases h
 rename_i j;simp only[oI,AT]at h;obtain⟨_,rfl,rfl⟩:=h;rcases QE (U6 c ls done front) front.length with⟨b,_,_⟩|⟨b,t,g⟩
 ·exact absurd b j
 obtain⟨l,m,w⟩:=Um (c:=c) (ls:=ls) (done:=done) (front:=front) (i:=(W1 (U6 c ls done front) front.length).1) (by rw[g];exact b);generalize (W1 (U6 c ls done front) front.length).1=a at *;generalize (W1 (U6 c ls done front) front.length).2=n at *;have hm:front.getD a 0∈front:=by
  grind
 have u:=Yh0 (eA (k _ hm)) (by simp only[AO,l];rfl) m;unfold En;generalize Z4 (λo=>AO o && !(done++[(Ay ls (front.getD a 0)).i]).contains o.i) ls=p at *;generalize Z4 (λo=>AO o && !done.contains o.i) ls=q at *;rw[lA,lA,VY,lK,List.length_drop];omega
theorem cB(ls:List Lt):((ls.map Ab).all λx=>x.length == 6)=true:=by
 rw[List.all_eq_true];intro x a;obtain⟨l,_,rfl⟩:=mM.1 a;rfl
def G5(g:Lt→Lt)(i:Nat)(ls:List Lt):List Lt:=ls.take i++(ls.drop i).map g
theorem Yi2(g:Lt->Lt)(ls:List Lt):G5 g ls.length ls=ls:=by simp[G5]
theorem Yim(g:Lt->Lt)(ls:List Lt):G5 g 0 ls=ls.map g:=by simp[G5]
theorem jN(g:Lt->Lt)(i:Nat)(ls:List Lt):(G5 g i ls).length=ls.length:=by simp[G5];omega
theorem Z6o{g:Lt->Lt}{i:Nat}{ls:List Lt}(hi:i<ls.length):((G5 g (i+1) ls).map Ab)[i]?=some (Ab (at' ls i)):=by
 unfold G5;rw[gM,List.getElem?_append_left (by simp;omega),List.getElem?_take,iP (by omega),gE hi,at',getD,gE hi];rfl
theorem vu{g:Lt->Lt}{i:Nat}{ls:List Lt}(hi:i<ls.length):((G5 g (i+1) ls).map Ab).set i (Ab (g (at' ls i)))=(G5 g i ls).map Ab:=by
 have e:ls.drop i=at' ls i::ls.drop (i+1):=by
  rw[List.drop_eq_getElem_cons hi,at',getD,gE hi];rfl
 have a:ls.take (i+1)=ls.take i++[at' ls i]:=by
  rw[List.take_add_one,gE hi,at',getD,gE hi];rfl
 unfold G5;rw[e,a,List.append_assoc,map_append,List.set_append_right _ _ (by simp;omega)];simp only[map_append,List.map_cons,lM,lK,Nat.min_eq_left (Nat.le_of_lt hi),Nat.sub_self,List.set_cons_zero,List.cons_append,List.nil_append]
theorem Yft{g:Lt->Lt}{i:Nat}{ls:List Lt}(hi:i<ls.length)(b:g (at' ls i)=at' ls i):(G5 g i ls).map Ab=(G5 g (i+1) ls).map Ab:=by
 rw[<-vu hi,b];have h:=Z6o (g:=g) hi;generalize (G5 g (i+1) ls).map Ab=M at *;obtain⟨c,a⟩:=Y3 h;rw[<-a,List.set_getElem_self]
theorem Ygl{ls:List Lt}{j:Nat}(a:j<ls.length):BP ls (ls.length-j)=if As (at' ls j) && !down ls j then j else BP ls (ls.length-(j+1)):=by
 have e:ls.length-j=(ls.length-(j+1))+1:=by omega
 rw[e,BP,show ls.length-(ls.length-(j+1)+1)=j by omega]
theorem c55(F:Nat)(ls:List Lt)(E:List DO)(h:ls.length≤1000)(h0:ls≠[])(wM:∀ l,l∈ls→l.k=1∨l.k=2)(Oz:0<BP ls ls.length)(EB:BP ls ls.length<ls.length) :
 Bo Tryz.prog 66 [.ptr 1 0 0] (dF F ls (ls.map Ab) E) fun v m=>v=.sl 8 0 ls.length∧m=⟨(dF F ls (ls.map Ab) E).bl++[(8,.cells 6 ((Bi ls).map Ab))],9⟩:=by
 refine D2 hm Tryz.func66 Ti rfl rfl fun K hK=>?_
 have L:=hK _ _ ⟨rfl,rfl⟩;clear hK;have af:0<ls.length:=List.length_pos_iff.2 h0;have aa:=Tb (ls.map Ab) (by simpa using h0) (by simpa using h) (cB ls) (Y6 ls)
 have s:=YP ((G5 CB 0 ls).map Ab) (BP ls ls.length) Oz (by rw[lM,jN]; exact EB) (by rw[lM,jN]; exact h) (Y6 _)
 have Q:=fun i hi=>Z6o (g:=CB) (ls:=ls) (i:=i) hi
 have U:=fun i hi=>vu (g:=CB) (ls:=ls) (i:=i) hi
 have P:=fun i hi hg=>Yft (g:=CB) (ls:=ls) (i:=i) hi hg
 have w:∀ i,((G5 CB i ls).map Ab).length=ls.length:=fun i=>by rw[lM,jN]
 have c:∀ i q,Z3 q ((G5 CB i ls).map Ab)=(G5 CB i ls).map Ab:=fun i q=>Y2 q _ (Y6 _)
 have T:(G5 CB ls.length ls).map Ab=ls.map Ab:=by rw[Yi2]
 have O:(Bi ls).map Ab=((G5 CB 0 ls).map Ab).drop (BP ls ls.length)++((G5 CB 0 ls).map Ab).take (BP ls ls.length):=by
  rw[Yim,Bi,U2,map_append,List.map_drop,List.map_take]
 have V:∀ q,Z3 q ((Bi ls).map Ab)=(Bi ls).map Ab:=fun q=>Y2 q _ (Y6 _)
 rw[← O]at s;have X:(ls.map Ab).length=ls.length:=lM ..;have u:∀ q,Z3 q (ls.map Ab)=ls.map Ab:=fun q=>Y2 q _ (Y6 ls)
 clear O;unfold dF dM Ke at *;obtain⟨M,hM⟩:∃ M:Nat→List (List Aa),(fun i=>(G5 CB i ls).map Ab)=M:=⟨_,rfl⟩
 have S:∀ i,(G5 CB i ls).map Ab=M i:=fun i=>by rw[← hM]
 simp only[S]at Q U P w c T L s;simp only[w]at s;clear hM S;generalize (Bi ls).map Ab=TR at *;generalize ls.map Ab=rows at *;have ab:∀ v,v<ls.length→(BB (W8 ls.length ls.length (U5 ls) false))[v]? = some [.bool (U5 ls v)]:=fun v hv=>OL (by rw[Lf hv,iP hv])
 have EV:(BB (W8 ls.length ls.length (U5 ls) false)).length=ls.length:=by rw[BB,lM,KH]
 generalize I:BB (W8 ls.length ls.length (U5 ls) false)=B at *;generalize J:Z1 (W8 ls.length ls.length (O8 ls) 0)=C at *;generalize H:Z1 (Z2 ls)=A at *;have d:∀ q,Z3 q A=A:=fun q=>by rw[← H]; exact Z5 q _
 have e:∀ q,Z3 q B=B:=fun q=>by rw[← I]; exact V6 q _
 have n:∀ q,Z3 q C=C:=fun q=>by rw[← J]; exact Z5 q _
 clear I J H;generalize (Z2 ls).length=m at *;have ae:=Y0 ((ls.length:Int) - 1);simp;refine S3 aa [] (by simp[u]) (by simp) (by simp) ?_
 rintro r sm ⟨rfl,rfl⟩;simp[u,X,ae];refine M4 (α:=Nat) (fun j=>[(5,.int .i64 ((j:Int) - 1)),(4,.int .i64 (BP ls (ls.length - j):Nat)),(3,.sl 7 0 ls.length),(0,.ptr 1 0 0)])
  (fun j=>⟨[(1,.cells 7 [[.int .i64 (F:Int),.Al rows,.sl 3 0 ls.length,.sl 5 0 m,.sl 4 0 ls.length,.map 6,.sl 2 0 (F+1)]]),(2,.cells 1 (Z1 (O6 F ls))),(3,.cells 1 B),(4,.cells 1 C),(5,.cells 1 A),(6,.map (FB 0 E) E.length),(7,.cells 6 (M j))],8⟩)
  (fun j=>j) (fun j=>j≤ls.length) ls.length [(7,15)] (by simp[u,d,e,n,Z9,Z5,T,BP]) (by simp) ?_
 intro j1 hj N Y
 try simp only at hj Y ⊢
 rcases Nat.eq_zero_or_pos j1 with hz|hz
 ·subst hz;simp;refine S3 s [(1,7)] (by simp) (by simp[c]) (by simp) ?_
  rintro r sm ⟨rfl,rfl⟩;simp[c,V];exact Z6 L [(8,14)] (by simp[u,d,e,n,Z9,Z5,V])
 ·obtain⟨j,rfl⟩:∃ j,j1=j+1:=⟨j1 - 1,by omega⟩
  have b:j<ls.length:=by omega
  have hg:=Q j b;obtain⟨DT,y⟩:=Y3 hg;have p:=U j b;have a:=Ygl b;have D:=w (j+1);have hw:=Y0 ((j:Int) - 1);have ad:((j+1:Nat):Int) - 1=(j:Int):=by omega
  have hb:=ab j b;obtain⟨Fp,G⟩:=Y3 hb;have z:(0:Int)≤(j:Int):=by omega
  simp only[ad];rcases wM _ (P4 b)with t|t
  ·have o:=P j b (Zw1 t);have Z:As (at' ls j)=true:=by simp[As,t]
   have ac:U5 ls j=down ls j:=by unfold U5; rw[Z]; rfl
   rw[ac]at hb G;rw[Z]at a;cases hd:down ls j with
   | true=>
    rw[hd]at a hb G;simp at a;simp[z,b,y,D,Ab,t,hw,G,EV];exact Y j [] _ _ (by omega) (by omega) (by simp[u,d,e,n,Z9,Z5,c,o,a])
   | false=>
    rw[hd]at a hb G;simp at a;simp[z,b,y,D,Ab,t,hw,G,EV];exact Y j [] _ _ (by omega) (by omega) (by simp[u,d,e,n,Z9,Z5,c,o,a])
  ·have Z:As (at' ls j)=false:=by simp[As,t]
   rw[Z]at a;simp at a;rw[Qp t]at p;simp only[Ab,t]at p;simp[z,b,y,D,Ab,t,hw];exact Y j [] _ _ (by omega) (by omega) (by simp[u,d,e,n,Z9,Z5,c,p,a])
theorem OX{get:Nat->Option Af}{n:Nat}(l:List Lt):∀row,row∈l.map Ab -> ∀x,x∈row->X8 get (n+1) x=some x:=by
 intro row b x a;obtain⟨i,_,rfl⟩:=mM.1 b;simp only[Ab,mC,List.not_mem_nil,or_false]at a;rcases a with rfl|rfl|rfl|rfl|rfl|rfl<;>rfl
theorem rZ(F:Nat)(ls:List Lt)(E:List DO)(h:ls.length<=1000)(c:ls≠[])(d:∀l,l∈ls->l.k=1\/l.k=2)(b:0<BP ls ls.length)(a:BP ls ls.length<ls.length) :
 Bo Tryz.prog 66 [.ptr 1 0 0] (dF F ls (ls.map Ab) E) λv m=>v=.Al ((Bi ls).map Ab)/\m=⟨(dF F ls (ls.map Ab) E).bl,9⟩:=by
 refine(c55 F ls E h c d b a).freeze λr e=>?_;rintro⟨rfl,rfl⟩;refine⟨[8],?_,?_⟩
 ·exact WS (k:=6) rfl (by simp[Ke]) (by rw[lM,E8]) (OX _)
 simp[Ke]
theorem AH.LX{f:Int}{ls:List Lt}(h:AH f ls)(b:ls≠[]):0<BP ls ls.length/\BP ls ls.length<ls.length:=by
 have g:=h.wv b;obtain⟨i,j,k,l⟩:=Wt g.Eo h.Jk;obtain⟨c,d,a⟩:=Xq ls.length (lR _) ⟨i,by omega,j,k,l⟩;refine⟨?_,c⟩;rcases Nat.eq_zero_or_pos (BP ls ls.length)with e|e
 ·rw[e]at a;simp[down,Z0,Z4]at a
 exact e
end Go.Ad
namespace Go.AE
open Go.RowKit
section
variable {P:Program} {wr:List FuncId} {n n0:Nat}
def CO(P:Program)(wr:List FuncId)(n n0:Nat):An→(Exit→Env→Ac→Prop)→Env→Ac→Prop
 | .skip,Q,e,m=>Q .normal e m
 | .region false ops,Q,e,m=>if ops.any RH=true then Es P n m.next ops 0 (Q .normal) e (m.at (m.next+ops.length))else V7 P false n m.next ops 0 (Q .normal) e (m.at (m.next+ops.length))
 | .region true ops,Q,e,m=>if ops.any (Zt wr)=true then Jt P (IY ops) n m.next ops 0 [] (Q .normal) e (m.at (m.next+ops.length))
  else if ops.all G9=true then V7 P false n m.next ops 0 (Q .normal) e (m.at (m.next+ops.length))
  else if ops.all (fun o=>o.un.isEmpty)=true then V7 P true n m.next ops 0 (Q .normal) e (m.at (m.next+ops.length))
  else H4 P (IY ops) n m.next ops 0 [] (Q .normal) e (m.at (m.next+ops.length))
 | .seq a b,Q,e,m=>CO P wr n n0 a (O0 (CO P wr n n0 b Q) Q) e m
 | .cond c a b,Q,e,m=>Ic (AG n e c) (CO P wr n n0 a Q e m) (CO P wr n n0 b Q e m)
 | .block id c,Q,e,m=>CO P wr n n0 c (I2 id Q) e m
 | .loop c,Q,e,m=>∃ (I:Nat→Env→Ac→Prop),(∃ k e0 m0,Di n n0 e0 m0 e m∧I k e0 m0) ∧ ∀ k e1 m1,I k e1 m1→CO P wr n n0 c (O0 (fun e' m'=>∃ j e0 m0,j<k∧Di n n0 e0 m0 e' m'∧I j e0 m0) Q) e1 m1
 | .exit id,Q,e,m=>Q (.exit id) e m
 | .scope c,Q,e,m=>CO P wr n n0 c Q e m
 | .label _,Q,e,m=>Q .normal e m
 | .ret,Q,e,m=>Q .ret e m
 | .bad,_,_,_=>False
theorem Ye4(hm:P.follows .mixedOrders=true):∀(c:Code) (Q:Exit->Env->Ac->Prop) (e:Env) (m:Ac),CO P wr n n0 (Y1 P c) Q e m->Ju P n n0 c Q e m:=by
 intro c;induction c with
 |skip=>exact λQ e m h W Φ ρ a w t r o p=>wp_skip ⟨e,m,Φ,ρ,λ_ _ h=>h,λ_ _=>rfl,t,r,o,p,λl g=>(by cases g),h⟩
 |region id u C=>
  intro Q e m h;have hw:∀A:An,Y1 P (.region id u C)=A->(match A with | .region _ _=>True | .bad=>True|_=>False)->CO P wr n n0 A Q e m->Ju P n n0 (.region id u C) Q e m:=by
   intro A D hA h;have E:Dl P n n0 A Q e m->Ju P n n0 (.region id u C) Q e m:=λhz W Φ ρ a w t r o p=>
    oG hm (.region id u C) Q e m (by rw[D];exact qL hz λ_ _ _ h=>h) W Φ ρ a w t r o p
   cases A with
   |region d os=>
    cases d with
    |false=>
     simp only[CO]at h;split at h
     ·have am:=h;cases C with
      |true=>
       simp only[Y1]at D;split at D<;>first|(cases D;done)|skip
       split at D<;>cases D
      |false=>
       simp only[Y1]at D;split at D<;>first|(cases D;done)|skip
       rename_i Y ac;cases D;exact Z9n ac am
     exact E h
    |true=>
     simp only[CO]at h;split at h
     ·intro W Φ ρ a w t r o p;refine pU hm (e:=e) (m:=m) ?_ W Φ ρ a w t r o p;rw[D];exact XI os [] [] e _ (λj f hj=>by simp[I8]at hj) h
     exact E h
   |bad=>exact h.elim
   |_=>exact hA.elim
  refine hw _ rfl ?_ h;cases C with
  |false=>
   simp only[Y1];cases D7 P u u.toList<;>trivial
  |true=>
   simp only[Y1];cases D7 P u u.toList with
   |none=>trivial
   |some Y=>
    simp only;cases VH u Y (Lq u.toList)<;>trivial
 |seq x y O S=>
  intro Q e m h W Φ ρ a w t r o p;simp only[Y1,CO]at h;refine wp_seq (wp_mono (O _ _ _ h W Φ ρ a w t r o p) ?_);intro x' G w' g;have key:∀e',x'=e'->e'≠.normal->Nt W Φ ρ n n0 Q x' G w':=by
   intro e' he N;refine Pk (λ_ _ h=>h) (λ_ _=>rfl) g λe m hq=>?_;subst he;cases x'<;>first|exact absurd rfl N|exact hq
  cases x' with
  |normal=>
   obtain⟨e',J,F,ρ',K,L,T,U,V,X,Z,M⟩:=g;exact wp_mono (S _ _ _ M W F ρ' G w' T U V X) λx a w af=>Pk K L af λ_ _ h=>h
  |exit i=>exact key _ rfl (by simp)
  |goto l=>exact key _ rfl (by simp)
  |ret=>exact key _ rfl (by simp)
  |panic ch=>exact key _ rfl (by simp)
  |outgrown=>exact key _ rfl (by simp)
 |cond c x y O S=>
  intro Q e m h W Φ ρ a w t r o p;simp only[Y1]at h;cases D:X5 c with
  |none=>simp[D,CO]at h
  |some c'=>
   simp only[D,CO]at h;have hv:=Q1 o D;rw[K8]at hv;generalize AG n e c'=z at h hv;cases z<;>first|exact h.elim|skip
   rename_i q;generalize hz:a.eval c=v at hv;cases hv;cases q
   ·exact wp_cond_false hz (S _ _ _ h W Φ ρ a w t r o p)
   exact wp_cond_true hz (O _ _ _ h W Φ ρ a w t r o p)
 |block id c ih=>
  intro Q e m h W Φ ρ a w t r o p;simp only[Y1,CO]at h;refine wp_block (wp_mono (ih _ _ _ h W Φ ρ a w t r o p) ?_);intro x G w' g;cases x with
  |exit i=>
   simp only[Exit.inBlock];obtain⟨e',J,F,ρ',K,L,T,U,V,X,Z,M⟩:=g;simp only[I2]at M;split
   ·rename_i hi;rw[iP hi]at M;exact⟨e',J,F,ρ',K,L,T,U,V,X,λl g=>(by cases g),M⟩
   rename_i hi;rw[iN hi]at M;exact⟨e',J,F,ρ',K,L,T,U,V,X,λl g=>(by cases g),M⟩
  |normal=>exact g
  |goto l=>exact g
  |ret=>exact g
  |panic ch=>exact g
  |outgrown=>exact g
 |loop c ih=>
  intro Q e m h W Φ ρ a w t r o p;simp only[Y1,CO]at h;obtain⟨I,⟨k0,e0,m0,aa,h0⟩,H⟩:=h;obtain⟨ao,av,ag,ad,ai,ak⟩:=aa.2 W Φ ρ _ w r o;refine wp_loop_ghost (λk G w'=>∃e' J F ρ',(∀B c,Φ B=some c->F B=some c)/\(∀b,b<n0->ρ' b=ρ b)/\n0<=J.next/\Rel W F ρ' J.mem w'/\RL F ρ' (AQ n e') G.tmps/\G.defers=[]/\I k e' J) k0
   ⟨e0,m0,ao,av,ag,ad,aa.1,ai,ak,p,h0⟩ ?_
  rintro k G w' ⟨e',J,F,ρ',K,L,T,U,V,X,Z⟩;refine wp_mono (ih _ _ _ (H k e' J Z) W F ρ' G w' T U V X) ?_;intro x ab an g;have key:∀e',x=e'->e'≠.normal->Nt W Φ ρ n n0 Q x ab an:=by
   intro e' he N;refine Pk K L g λe m hq=>?_;subst he;cases x<;>first|exact absurd rfl N|exact hq
  cases x with
  |normal=>
   obtain⟨e2,m2,aq,aw,g1,g2,g3,g4,g5,g6,_,j,e3,m3,g7,g8,g9⟩:=g;obtain⟨au,ax,ah,ae,aj,al⟩:=g8.2 W aq aw _ _ g4 g5;exact⟨j,g7,e3,m3,au,ax,λB c hB=>ah B c (g1 B c (K B c hB)),λb hb=>(ae b hb).trans ((g2 b hb).trans (L b hb)),g8.1,aj,al,g6,g9⟩
  |exit i=>exact key _ rfl (by simp)
  |goto l=>exact key _ rfl (by simp)
  |ret=>exact key _ rfl (by simp)
  |panic ch=>exact key _ rfl (by simp)
  |outgrown=>exact key _ rfl (by simp)
 |exit id=>exact λQ e m h W Φ ρ a w t r o p=>wp_exit ⟨e,m,Φ,ρ,λ_ _ h=>h,λ_ _=>rfl,t,r,o,p,λl g=>(by cases g),h⟩
 |scope c ih=>
  intro Q e m h W Φ ρ a w t r o p;simp only[Y1,CO]at h;refine wp_scope_straight (wp_mono (ih _ _ _ h W Φ ρ a w t r o p) ?_);intro x G w' g;cases x with
  |goto l=>
   obtain⟨_,_,_,_,_,_,_,_,_,_,Z,_⟩:=g;exact absurd rfl (Z l)
  |normal=>exact g
  |exit i=>exact g
  |ret=>exact g
  |panic ch=>exact g
  |outgrown=>exact g
 |label l=>exact λQ e m h W Φ ρ a w t r o p=>wp_label ⟨e,m,Φ,ρ,λ_ _ h=>h,λ_ _=>rfl,t,r,o,p,λl g=>(by cases g),h⟩
 |ret=>exact λQ e m h W Φ ρ a w t r o p=>wp_ret ⟨e,m,Φ,ρ,λ_ _ h=>h,λ_ _=>rfl,t,r,o,p,λl g=>(by cases g),h⟩
 |rangeFunc f ps x y _ _=>exact λQ e m h=>by simp[Y1,CO]at h
 |goto l=>exact λQ e m h=>by simp[Y1,CO]at h
 |refuse s=>exact λQ e m h=>by simp[Y1,CO]at h
theorem Yeu(hm:P.follows .mixedOrders=true){f:FuncId}{fn:Func}{g:AD}{args:List Aa}{m:Ac}{K:Aa->Ac->Prop}(I:P.funcs[f]?=some fn)(Z:Bk P fn=some g)(C:Nat.ble args.length g.ntmps=true)
 (h:CO P wr g.ntmps m.next g.body (L3 g.ntmps g.results (R9 m.next K)) (R4 0 args []) m):Bo P f args m K:=by
 obtain⟨c,j,o,O,ab,p⟩:=UE Z;have aa:args.length<=g.ntmps:=Nat.le_of_ble_eq_true C;rw[o]at h;refine⟨⟨fn,I,p,by rw[j];rfl⟩,λW Φ ρ vs w J Y BE=>?_⟩;have D:=Ss (k:=fn.ntmps) Y;have E:RL Φ ρ (AQ g.ntmps (R4 0 args [])) (vs++Array.replicate (fn.ntmps-vs.size) undef):=by
  refine D.sub (by rw[M0];simp;omega) λi x d=>?_;have hi:i<g.ntmps:=by
   have:=(gS.1 d).1;rwa[M0]at this
  rw[H7 hi,Sr]at d;injection d with d
  by_cases B:0<=i/\i<0+args.length
  ·rw[iP B]at d;rw[List.getElem?_append,iP (by omega)];refine .inr ?_;rw[<-d,Nat.sub_zero,getD,gE (by omega)];rfl
  rw[iN B]at d;exact .inl d.symm
 have hs:=Ye4 (n0:=m.next) hm c _ _ _ h W Φ ρ { tmps:=vs++Array.replicate (fn.ntmps-vs.size) undef,defers:=[] } w (lR _) J E rfl;refine calls_of_wp I j (wp_mono hs λx a w' C=>?_);obtain⟨e,z,s,ρ',U,B,h3,H,V,X,h7,t⟩:=C;have A:D3 (R9 m.next K) z (Q9 g.ntmps e z g.results)->a.defers=[] /\ ∃v,(results fn a.tmps).run P w'=.ok v w' /\
  ∃N r z s ρ',Ending.returned v=.returned N/\Ext Φ ρ s ρ'/\(∀b,b<m.mem.next->b∉([]:List Nat)->ρ b=none->ρ' b=none)/\Rel W s ρ' z w'/\R s ρ' r N/\m.mem.next<=z.next /\ ∃M:Ac,z=M.mem/\K r M:=by
  intro hh;obtain⟨v,Q,v0,m0,l,G,S⟩:=Wz hh;obtain⟨u,k1,k2⟩:=QO H V O Q;obtain⟨q,j1,j2,j3⟩:=G.rel (n:=1) (vs:=#[u]) H ⟨rfl,λi x y d L=>by
   cases i with
   |zero=>
    rw[H7 (by omega)]at d;simp only[Env.get,if_true,oI]at d;have:u=y:=by simpa using L
    subst d;subst this;exact k2
   |succ i=>simp at L⟩
  have k3:R s q v0 u:=j3.2 0 v0 u (by rw[H7 (by omega)];rfl) rfl;have F:∀b,b<m.next->q b=ρ b:=λb j=>(j1 b j).trans (B b j);refine⟨X,u,k1,u,v0,m0.mem,s,q,rfl,⟨U,λb l j=>?_⟩,λb j _ T=>(F b j).trans T,j2,k3,G.1,m0,rfl,S⟩;exact(F b (J.fresh b l j)).trans j
 cases x with
 |normal=>exact A t
 |ret=>exact A t
 |exit i=>exact t.elim
 |goto l=>exact t.elim
 |panic ch=>exact t.elim
 |outgrown=>exact t.elim
theorem aP(hm:P.follows .mixedOrders=true)(wr:List FuncId){f:FuncId}{fn:Func}{c:AD}{args:List Aa}{m:Ac}{a:Aa->Ac->Prop}(j:P.funcs[f]?=some fn)(g:Bk P fn=some c){b:Nat}{d:List (Nat×Option (Option Nat))}{bd:An}(i:c=⟨b,d,bd⟩)(k:Nat.ble args.length b=true)
 (h:∀K:Aa->Ac->Prop,(∀r e,a r e->K r e)->CO P wr b m.next bd (L3 b d (R9 m.next K)) (R4 0 args []) m):Bo P f args m a:=
 by subst i;exact Yeu (wr:=wr) hm j g k (h a λ_ _ h=>h)
variable {Q:Exit→Env→Ac→Prop} {K:Env→Ac→Prop} {e:Env} {m:Ac}
theorem UZ:CO P wr n n0 .skip Q e m=Q .normal e m:=propext Iff.rfl
theorem Uo(a:List Ag):CO P wr n n0 (.region false a) Q e m=if a.any RH=true then Es P n m.next a 0 (Q .normal) e (m.at (m.next+a.length))else V7 P false n m.next a 0 (Q .normal) e (m.at (m.next+a.length)):=propext Iff.rfl
theorem Uw(a b:An):CO P wr n n0 (.seq a b) Q e m=CO P wr n n0 a (O0 (CO P wr n n0 b Q) Q) e m:=propext Iff.rfl
theorem Ux(c:Ah)(a b:An):CO P wr n n0 (.cond c a b) Q e m=match AG n e c with
 |.bool true=>CO P wr n n0 a Q e m
 |.bool false=>CO P wr n n0 b Q e m
 |_=>False:=by
 show Ic _ _ _=_;unfold Ic;rfl
theorem Va(i:Nat)(c:An):CO P wr n n0 (.block i c) Q e m=CO P wr n n0 c (I2 i Q) e m:=propext Iff.rfl
theorem Vi(c:An):CO P wr n n0 (.scope c) Q e m=CO P wr n n0 c Q e m:=propext Iff.rfl
theorem Vj(i:Nat):CO P wr n n0 (.exit i) Q e m=Q (.exit i) e m:=propext Iff.rfl
theorem Un:CO P wr n n0 .ret Q e m=Q .ret e m:=propext Iff.rfl
theorem Us(a:List Ag):CO P wr n n0 (.region true a) Q e m=if a.any (Zt wr)=true then Jt P (IY a) n m.next a 0 [] (Q .normal) e (m.at (m.next+a.length))
 else if a.all G9=true then V7 P false n m.next a 0 (Q .normal) e (m.at (m.next+a.length))
 else if a.all (λo=>o.un.isEmpty)=true then V7 P true n m.next a 0 (Q .normal) e (m.at (m.next+a.length))
 else H4 P (IY a) n m.next a 0 [] (Q .normal) e (m.at (m.next+a.length)):=propext Iff.rfl
@[congr] theorem Ymw{c:An}{e e':Env}{m a:Ac}(h:e=e')(b:m=a):CO P wr n n0 c Q e m=CO P wr n n0 c Q e' a:=by rw [h, b]
theorem VS{α:Type}{c:An}(E:α->Env)(M:α->Ac)(g:α->Nat)(b:α->Prop)(f:α)(q:Di n n0 (E f) (M f) e m)(i:b f)
 (h:∀a,b a -> ∀N:Env->Ac->Prop,(∀d e m,g d<g a->b d->Di n n0 (E d) (M d) e m->N e m)->CO P wr n n0 c (O0 N Q) (E a) (M a)):CO P wr n n0 (.loop c) Q e m:=by
 refine⟨λk e m=>∃a,k=g a/\b a/\e=E a/\m=M a,⟨g f,_,_,q,f,rfl,i,rfl,rfl⟩,?_⟩;rintro k r s ⟨a,rfl,p,rfl,rfl⟩;exact h a p _ λd e m j l o=>⟨g d,E d,M d,j,o,d,rfl,l,rfl,rfl⟩
theorem OZ{α:Type}{c:An}(E:α->Env)(M:α->Ac)(g:α->Nat)(b:α->Prop)(f:α)(l:List (Nat×Nat))(r:Bm n0 l (E f) (M f) e m)(i:b f)
 (h:∀a,b a -> ∀N:Env->Ac->Prop,(∀d l e m,g d<g a->b d->Bm n0 l (E d) (M d) e m->N e m)->CO P wr n n0 c (O0 N Q) (E a) (M a)):CO P wr n n0 (.loop c) Q e m:=
 VS E M g b f r.wk i λa q N p=>h a q N λd l e m j k o=>p d e m j k o.wk
def Ho(q:Nat→Nat)(get:Nat→Option Af)(S:List Nat):Env→Env→Prop
 | [],_=>True
 | (i,v) :: r,e=>(e.get i=v.AM q∨DP get S (e.get i)=v.AM q)∧Ho q get S r e
theorem Ho.get{q:Nat->Nat}{g:Nat->Option Af}{S:List Nat}:∀{b e:Env},Ho q g S b e -> ∀i,b.get i=.bot\/e.get i=(b.get i).AM q\/DP g S (e.get i)=(b.get i).AM q
 |[],_,_,i=>.inl rfl
 | (j,v)::r,e,h,i=>by
  simp only[Env.get];by_cases a:i=j
  ·subst a;rw[iP rfl];exact .inr h.1
  rw[iN a];exact h.2.get i
def RP(n0:Nat)(l:List (Nat×Nat))(S:List Nat)(e0:Env)(m0:Ac)(e:Env)(m:Ac):Prop:=
 n0≤m0.next∧n0≤m.next∧Ho (BC l n0 m0.next m.next) m.get S e0 e∧DZ (BC l n0 m0.next m.next) S m0.bl m∧CQ (BC l n0 m0.next m.next) m0.bl
theorem RP.wk{n0 n:Nat}{l:List (Nat×Nat)}{S:List Nat}{A e:Env}{m0 m:Ac}(h:RP n0 l S A m0 e m):Di n n0 A m0 e m:=by
 obtain⟨j,X,P,hm,hi⟩:=h;refine⟨j,λW Φ ρ vs w p E=>?_⟩;obtain⟨Bs,t,G,H,I,B⟩:=Sg S p;refine⟨Bs,λb=>ρ (BC l n0 m0.next m.next b),t.AX,λb a=>by simp only[BC,iP a],⟨p.base,G,λb x d=>?_,λb b' x F l l' c r L M N=>?_,λb l' a=>nE (p.fresh _ _ a) j,H⟩,?_⟩
 ·obtain⟨O,y,s,Q⟩:=hm.get b x d;obtain⟨l',o,C,J,V,K,D⟩:=p.live _ y s;refine⟨l',o,C,J,I _ y l' s C O,K,?_⟩;refine BR.BD (q:=BC l n0 m0.next m.next) (ρ:=ρ) (λ_ _ a=>a) ?_;rcases Q with rfl|⟨k,els,rfl,r⟩
  ·exact D.ext t
  rw[r];exact D.fz B
 ·obtain⟨_,y,s,_⟩:=hm.get b x c;obtain⟨_,U,z,_⟩:=hm.get b' F r;exact hi.get b b' x F c r (p.inj _ _ y U l l' s z L M N)
 refine⟨by rw[E.1,M0,M0],λi x v d T=>?_⟩;have g:i<n:=by
  have:=(gS.1 d).1;rwa[M0]at this
 rw[H7 g]at d;injection d with d
 subst d;have u:=E.2 i (e.get i) v (H7 g) T;rcases P.get i with c|c|c
 ·rw[c];exact .bot v
 ·rw[c]at u;exact(u.BD (ρ':=λb=>ρ (BC l n0 m0.next m.next b)) (q:=BC l n0 m0.next m.next) (λ_ _ a=>a) _ rfl).ext ⟨t.AX,λ_ _ h=>h⟩
 have f:R Bs ρ (DP m.get S (e.get i)) v:=B _ _ u;rw[c]at f;exact f.BD (ρ':=λb=>ρ (BC l n0 m0.next m.next b)) (q:=BC l n0 m0.next m.next) (λ_ _ a=>a) _ rfl
end
theorem Di.xU{n n0:Nat}{q:Nat->Nat}{j e:Env}{m0 m:Ac}(s:n0<=m0.next)(o:∀b,b<n0->q b=b)(t:∀b,q b<m.next->b<m0.next)(p:Cm q j e)
 (r:∀b x,m0.get b=some x -> ∃y,m.get (q b)=some y/\(y=x.AM q\/FD (x.AM q) y)) (hi:∀b c x y,m0.get b=some x->m0.get c=some y->q b=q c->b=c):Di n n0 j m0 e m:=by
 refine⟨s,λW Φ ρ vs w u l=>⟨Φ,λb=>ρ (q b),λ_ _ h=>h,λb g=>by simp only[o b g],u.BD r hi t,?_⟩⟩;refine⟨by rw[l.1,M0,M0],λi x v d z=>?_⟩;have a:i<n:=by
  have:=(gS.1 d).1;rwa[M0]at this
 rw[H7 a]at d;injection d with d
 subst d;rcases p.get i with f|f
 ·rw[f];exact .bot v
 have k:=l.2 i (e.get i) v (H7 a) z;rw[f]at k;exact k.BD (q:=q) (λ_ _ g=>g) _ rfl
def G7(k base:Nat)(F:Nat→List (List Aa)):Nat→List (Nat×Af)→List (Nat×Af)
 | 0,rest=>rest
 | n+1,rest=>Bp (base+n) k (F n) (G7 k base F n rest)
def H2(base n:Nat)(F:Nat→List (List Aa)):List (List Aa):=(List.range n).map fun x=>[Bt (base+x) (F x)]
section
variable {k base n c x:Nat} {F:Nat→List (List Aa)} {rest:List (Nat×Af)}
theorem VL:∀(n:Nat),(c<base\/base+n<=c)->Z7 (G7 k base F n rest) c=Z7 rest c
 |0,_=>rfl
 |n+1,h=>by rw[G7,pX (by omega),VL n (by omega)]
theorem J6:∀(n:Nat),x<n->Z7 (G7 k base F n rest) (base+x)=if F x=[]then Z7 rest (base+x)else some (.cells k (F x))
 |0,h=>by omega
 |n+1,h=>by
  rw[G7];by_cases a:x=n
  ·subst a;rw[wh,VL x (by omega)]
  rw[pX (by omega),J6 n (by omega)]
theorem td:∀(n:Nat),(c<base\/base+n<=c)->O7 (G7 k base F n rest) c=G7 k base F n (O7 rest c)
 |0,_=>rfl
 |n+1,h=>by rw[G7,zK (by omega),td n (by omega)];rfl
theorem nB:(H2 base n F).length=n:=by simp[H2]
theorem Zyb(h:x<n):(H2 base n F)[x]?=some [Bt (base+x) (F x)]:=by
 unfold H2;grind
theorem Yau(n:Nat)(h:∀x,x<n->F x=[]):G7 k base F n rest=rest:=by
 induction n with
 |zero=>rfl
 |succ n a=>rw[G7,h n (by omega),Ww,a λx b=>h x (by omega)]
theorem Yco(h:∀x,x<n->F x=[]):H2 base n F=List.replicate n [.Aj]:=by
 unfold H2;refine List.ext_getElem (by simp) λi a b=>?_;simp only[lM,List.length_range]at a;simp[h i a,Bt]
def Gb(F:Nat→List (List Aa))(x:Nat)(R:List (List Aa))(y:Nat):List (List Aa):=if y=x then R else F y
theorem WU{R:List (List Aa)}:Gb F x R x=R:=by simp[Gb]
theorem VF{R:List (List Aa)}{y:Nat}(h:y≠x):Gb F x R y=F y:=by simp[Gb,h]
theorem pE(n:Nat){y:Af}(d:∀c y,Z7 rest c=some y->c<base)(h:Z7 (G7 k base F n rest) c=some y):(c<base/\Z7 rest c=some y) \/ ∃i,i<n/\c=base+i/\F i≠[]/\y=.cells k (F i):=by
 by_cases a:c<base
 ·rw[VL n (.inl a)]at h;grind
 by_cases b:base+n<=c
 ·rw[VL n (.inr b)]at h;grind
 obtain⟨i,rfl⟩:∃i,c=base+i:=⟨c-base,by omega⟩;rw[J6 n (by omega)]at h;grind
end
end Go.AE
