/- Part 28 -/
import Derived.Test.YtilmpmlkndfbjaaGreatDoorT27
set_option linter.all false
set_option maxRecDepth 100000
set_option maxHeartbeats 16000000
open List (getD drop_eq_getElem_cons map_drop map_cons map_append length)
open Go.Proofs.Tryz (prog)
namespace Go.Ad
open Go Go.AE Go.Proofs Go.Plain
theorem rX(g:FuncId)(f:Int)(ls L:List Lt)(nx:Nat)(h:ls.length<=1000)(z:V3 f ls=0)(w:ls≠[])(u:7<=nx)
 (D:∀F:Nat,(F:Int)=f->Bo prog g [.ptr 1 0 0] (dF F ls (ls.map Ab) (Bf ls ls.length)) λv m=>v=.Al (L.map Ab)/\m=⟨(dF F ls (ls.map Ab) (Bf ls ls.length)).bl,nx⟩) :
 Au prog 65 [cV f ls,.func (.func g) [] []] (.tuple [cV f L,.int .i64 0]):=by
 refine Jd hm 4 Tryz.func65 Th rfl rfl (by simp[Y7,Aa.closed,Y6]) (by simp[Aa.closed,Y7,Y6]) λK t=>?_;have n:=YQ f ls h;have k:∀q,Z3 q (ls.map Ab)=ls.map Ab:=λq=>Y2 q _ (Y6 ls);have a:∀q,Z3 q (L.map Ab)=L.map Ab:=λq=>Y2 q _ (Y6 L);have o:=t (.tuple [cV f L,.int .i64 0]) ⟨[],1⟩ (by
  unfold cV;rw[X8];simp only[U4];rw[X8];simp only[U4];rw[bP (OX L)];rfl)
 clear t;unfold cV dF dM Ke at *;generalize ls.map Ab=rows at *;generalize L.map Ab=H at *;generalize c:BB (W8 ls.length ls.length (U5 ls) false)=B at *;generalize d:Z1 (W8 ls.length ls.length (O8 ls) 0)=C at *;generalize b:Z1 (Z2 ls)=A at *;have e:∀q,Z3 q A=A:=λq=>by rw[<-b];exact Z5 q _
 have i:∀q,Z3 q B=B:=λq=>by rw[<-c];exact V6 q _
 have j:∀q,Z3 q C=C:=λq=>by rw[<-d];exact Z5 q _
 clear c d b;generalize (Z2 ls).length=m at *;generalize Bf ls ls.length=E at *;simp;refine S3 n [] (by simp[k]) (by simp) (by simp) ?_;rintro r J (⟨l,_⟩|⟨_,l,_⟩|⟨_,_,I,G,_,rfl,rfl⟩)
 ·exact absurd z l
 ·exact absurd l w
 obtain⟨F,y⟩:∃F:Nat,f=(F:Int):=⟨f.toNat,by omega⟩;subst y;have p:=D F rfl;simp[k,e,i,j,Z9,Z5];refine Pt p u [(1,11),(2,12),(3,13),(4,14),(5,15),(6,16)] (by simp) (by simp[EO,k,e,i,j,Z9,Z5]) (by simp) (λs=>by simp[a]) (by simp) ?_;simp[a];exact Z6 o [] (by simp[a])
theorem gA{get:Nat->Option Af}(f:Int)(L:List Lt):X8 get 4 (.tuple [cV f L,.int .i64 0])=some (.tuple [cV f L,.int .i64 0]):=by
 unfold cV;rw[X8];simp only[U4];rw[X8];simp only[U4];rw[bP (OX L)];rfl
theorem rR(f:Int)(ls:List Lt)(a:AH f ls)(b:ls≠[]):Au prog 34 [cV f ls] (.tuple [cV f (Bi ls),.int .i64 0]):=by
 refine Jd hm 4 Tryz.func34 Te rfl rfl (by simp[Y7,Aa.closed,Y6]) (by simp[Aa.closed,Y7,Y6]) λK h=>?_;have i:ls.length<=1000:=by have:=a.len;omega
 have m:((f.toNat:Nat):Int)=f:=by have:=a.lo;omega
 have c:=rX 66 f ls (Bi ls) 9 i a.to b (by omega) λF e=>by
  subst e;exact rZ F ls _ i b (λl hm=>WH (a.Ea l hm)) (a.LX b).1 (a.LX b).2
 have j:∀q,Z3 q (ls.map Ab)=ls.map Ab:=λq=>Y2 q _ (Y6 ls);have g:∀q,Z3 q ((Bi ls).map Ab)=(Bi ls).map Ab:=λq=>Y2 q _ (Y6 _);have d:=h (.tuple [cV f (Bi ls),.int .i64 0]) ⟨[],1⟩ (gA f _);clear h;unfold cV at *;generalize ls.map Ab=rows at *;generalize (Bi ls).map Ab=k at *;simp;refine T0 c ?_;simp;exact Z6 d [] (by simp[g])
theorem YO:Au prog 67 [.Al []] (.Al []):=by
 refine Yan (v1:=.Aj) ?_ nI ?_
 ·refine Jd hm 4 Tryz.func67 PB rfl rfl (by simp[Y7,Aa.closed]) rfl λK b=>?_;have a:=b .Aj ⟨[],1⟩ rfl;clear b;simp[W5,Ez,JG,G0];exact Z6 a [] (by simp)
 refine D2 hm Tryz.func67 PB rfl rfl λK b=>?_;have a:=b (.sl 2 0 0) ⟨[(2,.cells 6 [])],3⟩ (Yh7 2 0);clear b;simp[W5,Ez,JG,G0,L5,W4];exact Z6 a [(2,5)] (by simp)
theorem sB:Au prog 68 [.Al [],.int .i64 0] (.Al []):=by
 refine Au.weak (v:=.Aj) ?_ nI;refine Jd hm 4 Tryz.func68 LW rfl rfl (by simp[Y7,Aa.closed,W3]) rfl λK b=>?_;have a:=b .Aj ⟨[],1⟩ rfl;clear b;simp[Ul,W4];exact Z6 a [] (by simp)
theorem rY(f:Int):Bo prog 66 [.ptr 1 0 0] (HN f []) λv m=>v=.Al []/\m=⟨(HN f []).bl,2⟩:=by
 refine D2 hm Tryz.func66 Ti rfl rfl λK d=>?_;have c:=d _ _ ⟨rfl,rfl⟩;clear d;have a:=YO;have b:=sB;have w1:IntKind.i64.wrap (-1) = -1:=by decide
 simp[];refine T0 a ?_;simp[w1];refine M4 (α:=Unit) (λ_=>[(5,.int .i64 (-1)),(4,.int .i64 0),(3,.Al [])]) (λ_=>⟨[(1,Rz f [])],2⟩) (λ_=>0) (λ_=>True) () [] (by simp) trivial ?_;intro _ _ N e;simp;refine T0 b ?_;simp;exact Z6 c [] (by simp)
theorem rW(g:FuncId)(f:Int)(e:V3 f []=0)(h:Bo prog g [.ptr 1 0 0] (HN f []) λv m=>v=.Al []/\m=⟨(HN f []).bl,2⟩) :
 Au prog 65 [cV f [],.func (.func g) [] []] (.tuple [cV f [],.int .i64 0]):=by
 refine Jd hm 4 Tryz.func65 Th rfl rfl (by simp[Y7,Aa.closed,W3]) (by simp[Aa.closed,Y7,W3]) λK d=>?_;have b:=YQ f [] (by simp);have c:=d (.tuple [cV f [],.int .i64 0]) ⟨[],1⟩ (gA f []);clear d;unfold cV at *;simp;refine S3 b [] (by simp) (by simp) (by simp) ?_;rintro r i (⟨a,_⟩|⟨_,_,_,_,rfl,rfl⟩|⟨_,a,_⟩)
 ·exact absurd e a
 ·simp;refine Pt h (by simp) [(1,11)] (by simp) (by simp[EO]) (by simp) (λs=>by simp) (by simp) ?_;simp;exact Z6 c [] (by simp)
 exact absurd rfl a
theorem rP(f:Int)(d:V3 f []=0):Au prog 34 [cV f []] (.tuple [cV f [],.int .i64 0]):=by
 refine Jd hm 4 Tryz.func34 Te rfl rfl (by simp[Y7,Aa.closed,W3]) (by simp[Aa.closed,Y7,W3]) λK c=>?_;have a:=rW 66 f d (rY f);have b:=c (.tuple [cV f [],.int .i64 0]) ⟨[],1⟩ (gA f []);clear c;unfold cV at *;simp at a ⊢;refine T0 a ?_;simp;exact Z6 b [] (by simp)
theorem wj(a b:Lt):KW [.int,.int,.int,.int,.int,.bool] (Ab a) (Ab b)=some (decide (a=b)):=by
 obtain⟨c,d,e,f,g,h⟩:=a;obtain⟨i,j,k,l,m,n⟩:=b;simp only[Ab,KW,A7,if_true,Lt.mk.injEq];grind
theorem Z7n(a b:Lt):W5 .eql (.flat [.int,.int,.int,.int,.int,.bool]) (.agg (Ab a)) (.agg (Ab b))=some (.bool (decide (a=b))):=by
 simp only[W5,Ez,wj]
theorem Ye2(a b:Lt):W5 .neq (.flat [.int,.int,.int,.int,.int,.bool]) (.agg (Ab a)) (.agg (Ab b))=some (.bool (!decide (a=b))):=by
 simp only[W5,Ez,wj]
theorem rN(a b:Lt):Au prog 146 [.agg (Ab a),.agg (Ab b)] (.bool (Vt a b)):=by
 refine JH hm Tryz.func146 Zzl rfl rfl (by rfl) trivial λK c=>?_;unfold Vt at c;by_cases d:a.k=b.k;rotate_left
 ·simp only[d,ne_eq,not_false_eq_true,if_true]at c;simp[Ab,d];exact Z6 c [] (by simp)
 by_cases e:a.g=b.g;rotate_left
 ·simp only[d,e,ne_eq,not_false_eq_true,not_true_eq_false,if_true,if_false]at c;simp[Ab,d,e];exact Z6 c [] (by simp)
 by_cases h:a.r=b.r;rotate_left
 ·simp only[d,e,h,ne_eq,not_false_eq_true,not_true_eq_false,if_true,if_false]at c;simp[Ab,d,e,h];exact Z6 c [] (by simp)
 by_cases j:a.i=b.i;rotate_left
 ·simp only[d,e,h,j,ne_eq,not_false_eq_true,not_true_eq_false,if_true,if_false]at c;simp[Ab,d,e,h,j];exact Z6 c [] (by simp)
 by_cases l:a.o=b.o;rotate_left
 ·simp only[d,e,h,j,l,ne_eq,not_false_eq_true,not_true_eq_false,if_true,if_false]at c;simp[Ab,d,e,h,j,beq_false_of_ne l];exact Z6 c [] (by simp)
 simp only[d,e,h,j,l,ne_eq,not_true_eq_false,if_false]at c;simp[Ab,d,e,h,j,l];exact Z6 c [] (by simp)
theorem A8(ls:List Lt){i:Nat}(h:i<ls.length):(ls.map Ab)[i]?=some (Ab (at' ls i)):=by
 rw[gM,gE h,at',getD,gE h];rfl
theorem rH(a b:List Lt)(h:a.length<=b.length)(I:b.length<=1000):Au prog 114 [.Al (a.map Ab),.Al (b.map Ab)] (.bool (E9 a b)):=by
 refine JH hm Tryz.func114 Zw2 rfl rfl (by simp[Y7,Aa.closed,Y6]) trivial λK p=>?_;have k:∀q,Z3 q (a.map Ab)=a.map Ab:=λq=>Y2 q _ (Y6 a);have l:∀q,Z3 q (b.map Ab)=b.map Ab:=λq=>Y2 q _ (Y6 b);have w:(a.map Ab).length=a.length:=by grind
 have E:(b.map Ab).length=b.length:=by grind
 have u:=λi hi=>A8 a (i:=i) hi;have v:=λi hi=>A8 b (i:=i) hi;generalize a.map Ab=A at *;generalize b.map Ab=B at *;simp;refine M4 (α:=Nat) (λi=>[(8,.int .i64 i),(7,.int .i64 a.length),(1,.Al B),(0,.Al A)]) (λ_=>⟨[],1⟩) (λi=>a.length-i) (λi=>i<=a.length/\E9 (a.drop i) (b.drop i)=E9 a b) 0 [] (by simp[k,l,w]) (by simp) ?_;rintro i ⟨hi,e⟩ N C
 try simp only at hi C ⊢
 by_cases c:i<a.length
 ·have o:=u i c;have s:=v i (by omega);obtain⟨_,r⟩:=Y3 o;obtain⟨_,D⟩:=Y3 s;have G:=Y0 ((i:Int)+1);have j:=Z7n (at' a i) (at' b i);have g:=rN (at' a i) (at' b i);have y:(Ab (at' a i)).length=6:=rfl;have m:(Ab (at' b i)).length=6:=rfl;have z:(Ab (at' a i)).take 6=Ab (at' a i):=rfl;have n:(Ab (at' b i)).take 6=Ab (at' b i):=rfl;by_cases d:at' a i=at' b i
  ·have t:=C (i+1) [];rw[d]at j;rw[decide_eq_true rfl]at j;have F:=Yhz c (by omega:i<b.length) d;rw[F]at e;rw[d]at o r;generalize Ab (at' b i)=H at *;simp[c,o,s,G,m,n,j];exact t _ _ (by omega) ⟨by omega,e⟩ (by simp[k,l])
  rw[decide_eq_false d]at j;rw[Yhu c (by omega) d]at e;rw[<-e]at p;generalize Ab (at' a i)=J at *;generalize Ab (at' b i)=H at *;simp[c,o,s,y,m,z,n,j];refine JQ g ?_;simp;exact Z6 p [] (by simp)
 rw[Yj4 (by omega)]at e;rw[<-e]at p;simp[c];exact Z6 p [] (by simp)
theorem Ylj{a b:List Lt}{i:Nat}(c:i<a.length)(d:i<b.length)(h:at' a i=at' b i):(a.drop i=b.drop i)=(a.drop (i+1)=b.drop (i+1)):=by
 rw[drop_eq_getElem_cons c,drop_eq_getElem_cons d];have e:a[i]=b[i]:=by simpa[at',getD,c,d]using h
 grind
theorem Ym8{a b:List Lt}{i:Nat}(c:i<a.length)(d:i<b.length)(h:at' a i≠at' b i):¬a.drop i=b.drop i:=by
 rw[drop_eq_getElem_cons c,drop_eq_getElem_cons d];have e:at' a i=a[i]:=by simp[at',getD,c]
 have f:at' b i=b[i]:=by simp[at',getD,d]
 grind
theorem c65(a b:List Lt)(M:a.length<=1000)(O:b.length<=1000):Au prog 37 [.Al (a.map Ab),.Al (b.map Ab)] (.bool (decide (a=b))):=by
 refine JH hm Tryz.func37 Zg rfl rfl (by simp[Y7,Aa.closed,Y6]) trivial λK h=>?_;have m:∀q,Z3 q (a.map Ab)=a.map Ab:=λq=>Y2 q _ (Y6 a);have n:∀q,Z3 q (b.map Ab)=b.map Ab:=λq=>Y2 q _ (Y6 b);have k:(a.map Ab).length=a.length:=by grind
 have l:(b.map Ab).length=b.length:=by grind
 have w:=λi hi=>A8 a (i:=i) hi;have y:=λi hi=>A8 b (i:=i) hi;generalize a.map Ab=A at *;generalize b.map Ab=B at *;by_cases z:a.length=b.length;rotate_left
 ·have g:¬a=b:=λe=>z (by rw[e]);rw[decide_eq_false g]at h;have C:¬(a.length:Int)=(b.length:Int):=by omega
  simp[k,l,C];exact Z6 h [] (by simp)
 simp[k,l,z];refine M4 (α:=Nat) (λi=>[(13,.int .i64 i),(12,.int .i64 a.length),(1,.Al B),(0,.Al A)]) (λ_=>⟨[],1⟩) (λi=>a.length-i) (λi=>i<=a.length/\(a.drop i=b.drop i)=(a=b)) 0 [] (by simp[m,n,z]) (by simp) ?_;rintro i ⟨hi,F⟩ N G
 try simp only at hi G ⊢
 by_cases c:i<a.length
 ·have s:=w i c;have u:=y i (by omega);obtain⟨_,t⟩:=Y3 s;obtain⟨_,H⟩:=Y3 u;have J:=Y0 ((i:Int)+1);have j:=Ye2 (at' a i) (at' b i);have D:(Ab (at' a i)).length=6:=rfl;have p:(Ab (at' b i)).length=6:=rfl;have E:(Ab (at' a i)).take 6=Ab (at' a i):=rfl;have r:(Ab (at' b i)).take 6=Ab (at' b i):=rfl;by_cases d:at' a i=at' b i
  ·have v:=G (i+1) [];rw[d]at j;rw[decide_eq_true rfl]at j;rw[Ylj c (by omega) d]at F;rw[d]at s t;generalize Ab (at' b i)=L at *;simp[c,s,u,J,p,r,j];exact v _ _ (by omega) ⟨by omega,F⟩ (by simp[m,n])
  rw[decide_eq_false d]at j;have g:¬a=b:=by
   grind
  rw[decide_eq_false g]at h;generalize Ab (at' a i)=P at *;generalize Ab (at' b i)=L at *;simp[c,s,u,D,p,E,r,j];exact Z6 h [] (by simp)
 have I:i=a.length:=by omega
 have o:a=b:=by
  grind
 rw[decide_eq_true o]at h;simp[c];exact Z6 h [] (by simp)
theorem sC(ls:List Lt)(a:Nat)(M:a<ls.length)(N:ls.length<=1000):Au prog 68 [.Al (ls.map Ab),.int .i64 a] (.Al ((U2 a ls).map Ab)):=by
 refine Jd hm 4 Tryz.func68 LW rfl rfl (by simp[Y7,Aa.closed,Y6]) (by simp[Aa.closed,Y6]) λK y=>?_;have H:((U2 a ls).map Ab).length=ls.length:=by rw[lM,A6]
 have c:=y (.sl 1 0 ls.length) ⟨[(1,.cells 6 ((U2 a ls).map Ab))],2⟩ (by
  have:=Ur (n:=3) (get:=Ac.get ⟨[(1,.cells 6 ((U2 a ls).map Ab))],2⟩) (b:=1) (k:=6) (rows:=(U2 a ls).map Ab) (by simp) (OX _);grind)
 clear y;have s:∀q,Z3 q ((U2 a ls).map Ab)=(U2 a ls).map Ab:=λq=>Y2 q _ (Y6 _);have I:∀q,Z3 q ((ls.map Ab).drop a)=(ls.map Ab).drop a:=λq=>by rw[<-map_drop];exact Y2 q _ (Y6 _)
 have z:∀q,Z3 q (ls.map Ab)=ls.map Ab:=λq=>Y2 q _ (Y6 _);have F:(U2 a ls).map Ab=(ls.map Ab).drop a++(ls.map Ab).take a:=by unfold U2;simp
 rw[F]at c s;have v:=cB ls;have h:(((ls.map Ab).drop a).all λx=>x.length == 6)=true:=by grind
 have i:(((ls.map Ab).take a).all λx=>x.length == 6)=true:=by grind
 have d:(ls.map Ab).length=ls.length:=by grind
 have e:¬(ls.map Ab).drop a=[]:=by
  grind
 have o:((ls.map Ab).drop a).length=ls.length-a:=by simp
 have r:((ls.map Ab).take a).length=a:=by simp;omega
 generalize ls.map Ab=rows at *;obtain⟨A,B,J,C,t⟩:a<=ls.length/\ls.length-a<=1048576/\¬(ls.length-a=0)/\ls.length-a+a=ls.length/\ls.length<=1048576:=by omega
 have g:rows.take ls.length=rows:=by grind
 generalize w:rows.drop a=D at *;generalize G:rows.take a=T at *;rcases Nat.eq_zero_or_pos a with u|u
 ·subst u;have m:T=[]:=by grind
  subst m;have j:D=rows:=by rw[<-w];rfl
  subst j;have p:D.drop ls.length=[]:=by grind
  simp[d,Ul,v,e,t,W4,g,p];simp at c;exact Z6 c [(1,5)] (by simp[z])
 obtain⟨E,L⟩:¬ls.length<=ls.length-a/\¬ls.length-a+a<=ls.length-a:=by omega
 have l:D.take (ls.length-a)=D:=by grind
 simp[d,Ul,v,h,i,e,A,B,t,W4,g,w,G,o,r,C,E,l];exact Z6 c [(1,9)] (by simp[s])
def GP:Nat→List Int→List (Aa×Aa×Nat)
 | _,[]=>[]
 | j,x :: r=>(.int .i64 x,.int .i64 (j+1:Nat),j) :: GP (j+1) r
theorem jZ:∀(j:Nat) (E:List Int),(GP j E).length=E.length
 |_,[]=>rfl
 |j,x::r=>by simp only[GP,lC,jZ (j+1) r]
theorem Lr(q:Nat->Nat):∀(j:Nat) (E:List Int),C0 q (GP j E)=GP j E
 |_,[]=>rfl
 |j,x::r=>by
  have:=Lr q (j+1) r;simp only[C0,GP,map_cons,Aa.AM]at *;rw[this]
theorem VJ(id:Int):∀(j:Nat) (E:List Int),D1 .int (.int .i64 id) (GP j E)=some (if V0 id E=0 then none else some (V0 id E-1,.int .i64 (j+V0 id E:Nat),j+(V0 id E-1)))
 |_,[]=>rfl
 |j,x::r=>by
  simp only[GP,D1,A7,if_true,V0];by_cases h:id=x
  ·subst h;simp
  have a:(id == x)=false:=by simpa using h
  simp only[a,iN h];rw[VJ id (j+1) r];grind
theorem iJ(x:Int):∀(j:Nat) (E:List Int),GP j E++[(.int .i64 x,.int .i64 (j+E.length+1:Nat),j+E.length)]=GP j (E++[x])
 |_,[]=>rfl
 |j,y::r=>by
  simp only[GP,List.cons_append,lC];have:=iJ x (j+1) r;grind
def E6(ns ls:List Lt)(i:Nat):List Lt:=ns.take i++ls.drop i
theorem Z8d(a ls:List Lt):E6 a ls 0=ls:=by simp[E6]
theorem Ygg{a ls:List Lt}(h:a.length=ls.length):E6 a ls ls.length=a:=by simp[E6,<-h]
theorem Yar{a ls:List Lt}(h:a.length=ls.length)(i:Nat):(E6 a ls i).length=ls.length:=by simp[E6];omega
theorem Zxa{a ls:List Lt}(h:a.length=ls.length){i:Nat}(hi:i<ls.length):((E6 a ls i).map Ab)[i]?=some (Ab (at' ls i)):=by
 unfold E6;rw[gM,List.getElem?_append_right (by simp;omega),lK,Nat.min_eq_left (by omega),Nat.sub_self,List.getElem?_drop,Nat.add_zero,gE hi,at',getD,gE hi];rfl
theorem Zzi{a ls:List Lt}(h:a.length=ls.length){i:Nat}(hi:i<ls.length):((E6 a ls i).map Ab).set i (Ab (at' a i))=(E6 a ls (i+1)).map Ab:=by
 have e:ls.drop i=at' ls i::ls.drop (i+1):=by
  rw[drop_eq_getElem_cons hi,at',getD,gE hi];rfl
 have b:i<a.length:=by omega
 have c:a.take (i+1)=a.take i++[at' a i]:=by
  rw[List.take_add_one,gE b,at',getD,gE b];rfl
 unfold E6;rw[e,c,map_append,map_append,List.set_append_right _ _ (by simp;omega)];simp only[map_append,map_cons,List.map_nil,lM,lK,Nat.min_eq_left (Nat.le_of_lt b),Nat.sub_self,List.set_cons_zero,List.append_assoc,List.cons_append,List.nil_append]
theorem Yia{a ls:List Lt}(h:a.length=ls.length){i:Nat}(hi:i<ls.length)(c:at' a i=at' ls i):(E6 a ls (i+1)).map Ab=(E6 a ls i).map Ab:=by
 rw[<-Zzi h hi,c];have h:=Zxa h hi;generalize (E6 a ls i).map Ab=M at *;obtain⟨d,b⟩:=Y3 h;rw[<-b,List.set_getElem_self]
theorem rG(ls:List Lt)(h0:ls≠[])(h:ls.length<=1000):Au prog 113 [.Al (ls.map Ab)] (.Al ((X7 ls).map Ab)):=by
 refine Jd hm 4 Tryz.func113 yW rfl rfl (by simp[Y7,Aa.closed,Y6]) (by simp[Aa.closed,Y6]) λK Z=>?_;have o:=Sy ls;have w:=Z (.sl 1 0 ls.length) ⟨[(1,.cells 6 ((X7 ls).map Ab))],2⟩ (by
  have:=Ur (n:=3) (get:=Ac.get ⟨[(1,.cells 6 ((X7 ls).map Ab))],2⟩) (b:=1) (k:=6) (rows:=(X7 ls).map Ab) (by simp) (OX _);grind)
 clear Z;have aa:0<ls.length:=by grind
 have T:=Tb (ls.map Ab) (by simpa using h0) (by simpa using h) (cB ls) (Y6 ls);have C:=λi hi=>Zxa o (i:=i) hi;have G:=λi hi=>Zzi o (i:=i) hi;have B:=λi hi U=>Yia o (i:=i) hi U;have E:∀i,((E6 (X7 ls) ls i).map Ab).length=ls.length:=λi=>by rw[lM,Yar o]
 have l:∀i q,Z3 q ((E6 (X7 ls) ls i).map Ab)=(E6 (X7 ls) ls i).map Ab:=λi q=>Y2 q _ (Y6 _);have A:(E6 (X7 ls) ls 0).map Ab=ls.map Ab:=by rw[Z8d]
 have F:(E6 (X7 ls) ls ls.length).map Ab=(X7 ls).map Ab:=by rw[Ygg o]
 rw[<-F]at w;have I:(ls.map Ab).length=ls.length:=by grind
 have S:∀q,Z3 q (ls.map Ab)=ls.map Ab:=λq=>Y2 q _ (Y6 ls);obtain⟨M,hM⟩:∃M:Nat->List (List Aa),(λi=>(E6 (X7 ls) ls i).map Ab)=M:=⟨_,rfl⟩;have D:∀i,(E6 (X7 ls) ls i).map Ab=M i:=λi=>by rw[<-hM]
 simp only[D]at C G B E l A F w;clear hM D;generalize ls.map Ab=rows at *;simp;refine S3 T [] (by simp[S]) (by simp) (by simp) ?_;rintro r sm ⟨rfl,rfl⟩;simp[S,I];refine M4 (α:=Nat) (λi=>[(12,.int .i64 i),(11,.int .i64 ls.length),(10,.sl 2 0 ls.length),(4,.sl 2 0 ls.length),(3,.map 1)])
  (λi=>⟨[(2,.cells 6 (M i)),(1,.map (GP 0 (U3 ls i)) (U3 ls i).length)],3⟩) (λi=>ls.length-i) (λi=>i<=ls.length) 0 [(1,2),(2,7)] (by simp[S,A,U3,GP,C0]) (by simp) ?_
 intro i hi N P
 try simp only at hi P ⊢
 by_cases c:i<ls.length
 ·have U:=C i c;obtain⟨DT,t⟩:=Y3 U;have a:=G i c;have X:=Y0 ((i:Int)+1);have v:=E i;have g:=UG c;have H:=eZ c;have ab:=Ybr ls i;rw[H]at a;by_cases u:(at' ls i).k=2
  ·have m:=VJ (at' ls i).i 0 (U3 ls i);by_cases Q:V0 (at' ls i).i (U3 ls i)=0
   ·have e:M9 (U3 ls i) (at' ls i)=U3 ls i++[(at' ls i).i]:=by unfold M9;grind
    have O:=Wi Q;have p:Ep (U3 ls i) (at' ls i)={ at' ls i with i:=((U3 ls i).length+1:Nat) }:=by unfold Ep;rw[iP u,e,O]
    have j:=VJ (at' ls i).i 0 (U3 ls i++[(at' ls i).i]);have z:=iJ (at' ls i).i 0 (U3 ls i);rw[O,iN (by omega)]at j;rw[iP Q]at m;rw[e]at g;rw[p]at a;rw[<-g]at j z;have J:(U3 ls (i+1)).length=(U3 ls i).length+1:=by rw[g];simp
    have d:=P (i+1);rw[J]at d;have L:=jZ 0 (U3 ls i);have Y:=Y0 (((U3 ls i).length:Int)+1);have s:=λq=>Lr q 0 (U3 ls (i+1));generalize GP 0 (U3 ls (i+1))=E1 at *;generalize GP 0 (U3 ls i)=E0 at *;generalize (U3 ls i).length=ml at *;simp only[Ab,u]at a;simp[c,t,v,Ab,u,X,m,L,Y];simp at z j a;rw[z];simp[j,c,t,v,Ab,u];exact d [] _ _ (by omega) (by omega) (by simp[l,a,s])
   have e:M9 (U3 ls i) (at' ls i)=U3 ls i:=by unfold M9;grind
   have p:Ep (U3 ls i) (at' ls i)={ at' ls i with i:=(V0 (at' ls i).i (U3 ls i):Nat) }:=by unfold Ep;rw[iP u,e]
   rw[iN Q]at m;rw[e]at g;rw[p]at a;have d:=P (i+1);rw[g]at d;have s:=λq=>Lr q 0 (U3 ls i);generalize GP 0 (U3 ls i)=E0 at *;generalize V0 (at' ls i).i (U3 ls i)=jx at *;have ac:¬(jx:Int)=0:=by omega
   simp only[Ab,u]at a;simp at m a;simp[c,t,v,Ab,u,X,m,Q];exact d [] _ _ (by omega) (by omega) (by simp[l,a,s])
  have e:M9 (U3 ls i) (at' ls i)=U3 ls i:=by unfold M9;grind
  have p:Ep (U3 ls i) (at' ls i)=at' ls i:=by unfold Ep;rw[iN u]
  rw[e]at g;have y:=B i c (by rw[H,p]);have d:=P (i+1);rw[g,y]at d;have s:=λq=>Lr q 0 (U3 ls i);generalize GP 0 (U3 ls i)=E0 at *;simp[c,t,v,Ab,u,X];exact d [] _ _ (by omega) (by omega) (by simp[l,s])
 have V:i=ls.length:=by omega
 subst V;simp[];exact Z6 w [(1,2)] (by simp[l])
theorem iS{Q:List Lt}{i k:Nat}{x:Lt}(hi:i<Q.length):at' (Q.set i x) k=if k=i then x else at' Q k:=by
 unfold at';rw[List.getD_eq_getElem?_getD,List.getD_eq_getElem?_getD,List.getElem?_set];by_cases h:i=k
 ·subst h;simp[hi]
 rw[iN h,iN (λe=>h e.symm)]
theorem Sm{ls:List Lt}{k:Nat}(a:k<ls.length):at' ls.reverse k=at' ls (ls.length-1-k):=by
 unfold at';rw[List.getD_eq_getElem?_getD,List.getD_eq_getElem?_getD,List.getElem?_reverse a]
theorem SB{a b:List Lt}(e:a.length=b.length)(h:∀k,k<a.length->at' a k=at' b k):a=b:=by
 refine List.ext_getElem e λk c d=>?_;have:=h k c;simpa[at',getD,c,d]using this
theorem vp(Q:List Lt)(i:Nat)(x:Lt):(Q.map Ab).set i (Ab x)=(Q.set i x).map Ab:=(List.map_set).symm
theorem rM(ls:List Lt)(hl:ls.length<=1000) :
 Bo prog 145 [.sl 1 0 ls.length] ⟨[(1,.cells 6 (ls.map Ab))],2⟩ λv m=>v=.tuple []/\m=⟨[(1,.cells 6 (ls.reverse.map Ab))],2⟩:=by
 refine D2 hm Tryz.func145 qA rfl rfl λK Y=>?_;have z:=Y0 ((ls.length:Int)-1);have r:=Y _ _ ⟨rfl,rfl⟩;clear Y;have D:∀(Q:List Lt) q,Z3 q (Q.map Ab)=Q.map Ab:=λQ q=>Y2 q _ (Y6 Q);obtain⟨n,B⟩:∃n,ls.length=n:=⟨_,rfl⟩;rw[B]at z hl ⊢;simp[z];refine M4 (α:=Nat×List Lt) (λa=>[(3,.int .i64 ((n:Int)-1-(a.1:Nat))),(2,.int .i64 a.1),(0,.sl 1 0 n)]) (λa=>⟨[(1,.cells 6 (a.2.map Ab))],2⟩) (λa=>n-a.1)
  (λa=>a.1<=n/\a.2.length=n /\ ∀k,k<n->at' a.2 k=if k<a.1\/n-1-a.1<k/\0<a.1 then at' ls (n-1-k)else at' ls k) (0,ls) [] (by simp[D]) ⟨by simp,B,by simp⟩ ?_
 rintro⟨i,Q⟩ ⟨hi,s,p⟩ N Z;simp only at hi s p Z ⊢;by_cases u:(i:Int)<(n:Int)-1-i
 ·obtain⟨hj,J⟩:((n:Int)-1-i).toNat=n-1-i/\(i:Int)<=(n:Int)-1:=by omega
  obtain⟨j,L⟩:∃j,n-1-i=j:=⟨_,rfl⟩;rw[L]at hj;obtain⟨I,O,H⟩:i<n/\j<n/\¬i=j:=by omega
  have w:=A8 Q (i:=i) (by omega);have y:=A8 Q (i:=j) (by omega);obtain⟨aa,h⟩:=Y3 w;obtain⟨ab,l⟩:=Y3 y;have S:=Y0 ((i:Int)+1);have T:=W7 ((n:Int)-1-i-1) ((n:Int)-1-(i+1));have C:=A8 (Q.set i (at' Q j)) (i:=j) (by simp;omega);rw[iS (by omega),iN (λe=>H e.symm)]at C;have d:=vp Q i (at' Q j);have c:=vp (Q.set i (at' Q j)) j (at' Q i);rw[<-d]at C c;have E:(Q.map Ab).length=n:=by rw[lM,s]
  have g:=Z (i+1,(Q.set i (at' Q j)).set j (at' Q i)) [];simp only at g;rw[<-c]at g;have o:=D ((Q.set i (at' Q j)).set j (at' Q i));rw[<-c]at o;have t:∀k,k<n->at' ((Q.set i (at' Q j)).set j (at' Q i)) k=if k<i+1\/n-1-(i+1)<k/\0<i+1 then at' ls (n-1-k)else at' ls k:=by
   intro k A;rw[iS (by simp;omega),iS (by omega)];by_cases U:k=j
   ·subst U;rw[iP rfl,iP (by omega),p i (by omega),iN (by omega)]
    congr 1
    omega
   rw[iN U];by_cases V:k=i
   ·subst V;rw[iP rfl,iP (by omega),p j (by omega),iN (by omega)]
    congr 1
    omega
   rw[iN V,p k A];by_cases X:k<i\/n-1-i<k/\0<i
   ·rw[iP X,iP (by omega)]
   rw[iN X,iN (by omega)]
  have G:((Q.set i (at' Q j)).set j (at' Q i)).length=n:=by simp[s]
  generalize (Q.set i (at' Q j)).set j (at' Q i)=Q2 at *;clear d c;generalize Q.map Ab=M at *;simp only[Ab]at C w y h l g o;generalize at' Q i=a at *;generalize at' Q j=b at *;obtain⟨ac,P⟩:=Y3 C;simp[u,hj,J,I,O,h,l,S,T,P,E];exact g _ _ (by omega) ⟨by omega,G,t⟩ (by simp[o])
 have F:Q=ls.reverse:=by
  refine SB (by simp[s,B]) λk A=>?_;rw[s]at A;rw[Sm (by omega),B,p k A];split
  ·rfl
  congr 1
  omega
 rw[<-F]at r;simp[u];exact Z6 r [] (by simp[D])
theorem sA(R:List (List Aa))(a:Nat)(k:a<R.length)(l:R.length<=1000)(g:W3 R=true) :
 Bo prog 68 [.sl 1 0 R.length,.int .i64 a] ⟨[(1,.cells 6 R)],2⟩ λv m=>v=.sl 2 0 R.length/\m=⟨[(1,.cells 6 R),(2,.cells 6 (R.drop a++R.take a))],3⟩:=by
 rcases Nat.eq_zero_or_pos a with c|c;rotate_left
 ·exact YP R a c k l g
 subst c;refine D2 hm Tryz.func68 LW rfl rfl λK d=>?_;have n:∀q,Z3 q R=R:=λq=>Y2 q _ g;have b:=d _ _ ⟨rfl,rfl⟩;clear d;obtain⟨h,i⟩:R.length<=1048576/\¬(R.length=0):=by omega
 have j:¬R=[]:=by intro e;subst e;simp at i
 simp[L5,h,j,W4];simp at b;exact Z6 b [(2,6)] (by simp[n])
theorem rF(F:Nat)(ls:List Lt)(E:List DO)(h:ls.length<=1000)(hx:∃i,i<ls.length/\Is ls i=true) :
 Bo prog 112 [.ptr 1 0 0] (dF F ls (ls.map Ab) E) λv m=>v=.sl 8 0 ls.length/\m=⟨(dF F ls (ls.map Ab) E).bl++[(8,.cells 6 ((Q6 ls).map Ab))],9⟩:=by
 refine D2 hm Tryz.func112 mG rfl rfl λK hK=>?_;have ac:=hK _ _ ⟨rfl,rfl⟩;clear hK;have af:0<ls.length:=by obtain⟨i,hi,_⟩:=hx;omega
 have h0:ls≠[]:=List.length_pos_iff.1 af;have aa:=Tb (ls.map Ab) (by simpa using h0) (by simpa using h) (cB ls) (Y6 ls);have D:=rM ls h;have u:(ls.reverse.map Ab).length=ls.length:=by simp
 have G:=λa (ha:a<ls.length)=>sA (ls.reverse.map Ab) a (by rw[u];exact ha) (by rw[u];exact h) (Y6 _);have V:∀a,(ls.reverse.map Ab).drop a++(ls.reverse.map Ab).take a=(U2 a ls.reverse).map Ab:=λa=>by unfold U2;rw[map_append,map_drop,List.map_take]
 rw[u]at G;have ad:=λi hi hp hn=>mV (ls:=ls) (i:=i) hi hp hn;have I:∀q,Z3 q ((Q6 ls).map Ab)=(Q6 ls).map Ab:=λq=>Y2 q _ (Y6 _);have p:∀q,Z3 q (ls.map Ab)=ls.map Ab:=λq=>Y2 q _ (Y6 ls);have e:∀q,Z3 q (ls.reverse.map Ab)=ls.reverse.map Ab:=λq=>Y2 q _ (Y6 _);have U:(ls.map Ab).length=ls.length:=lM ..;have P:=λi hi=>A8 ls.reverse (i:=i) hi;simp only[List.length_reverse]at P;unfold dF dM Ke at *;generalize ls.map Ab=rows at *;generalize ls.reverse.map Ab=ag at *;have ab:∀v,v<ls.length->(BB (W8 ls.length ls.length (U5 ls) false))[v]?=some [.bool (U5 ls v)]:=λv hv=>OL (by rw[Lf hv,iP hv]);have EV:(BB (W8 ls.length ls.length (U5 ls) false)).length=ls.length:=by rw[BB,lM,KH]
 generalize J:BB (W8 ls.length ls.length (U5 ls) false)=B at *;generalize L:Z1 (W8 ls.length ls.length (O8 ls) 0)=C at *;generalize H:Z1 (Z2 ls)=A at *;have g:∀q,Z3 q A=A:=λq=>by rw[<-H];exact Z5 q _
 have l:∀q,Z3 q B=B:=λq=>by rw[<-J];exact V6 q _
 have n:∀q,Z3 q C=C:=λq=>by rw[<-L];exact Z5 q _
 clear J L H;generalize (Z2 ls).length=m at *;have w:=Y0 ((ls.length:Int)-1);simp;refine S3 aa [] (by simp[p]) (by simp) (by simp) ?_;rintro r sm ⟨rfl,rfl⟩;simp[p,U];refine S3 D [(1,15)] (by simp) (by simp[p]) (by simp) ?_;rintro r sm ⟨rfl,rfl⟩;simp[e];refine M4 (α:=Nat) (λi=>[(16,.int .i64 i),(15,.int .i64 ls.length),(3,.sl 7 0 ls.length),(0,.ptr 1 0 0)])
  (λi=>⟨[(1,.cells 7 [[.int .i64 (F:Int),.Al rows,.sl 3 0 ls.length,.sl 5 0 m,.sl 4 0 ls.length,.map 6,.sl 2 0 (F+1)]]),(2,.cells 1 (Z1 (O6 F ls))),(3,.cells 1 B),(4,.cells 1 C),(5,.cells 1 A),(6,.map (FB 0 E) E.length),(7,.cells 6 ag)],8⟩)
  (λi=>ls.length-i) (λi=>i<=ls.length /\ ∀j,j<i->Is ls j=false) 0 [(7,15)] (by simp[p,g,l,n,Z9,Z5,e]) (by simp) ?_
 rintro i ⟨hi,M⟩ N hN
 try simp only at hi M hN ⊢
 by_cases c:i<ls.length
 ·have Z:=P i c;obtain⟨DT,ah⟩:=Y3 Z;have hw:=Y0 ((i:Int)+1);obtain⟨j,hj⟩:∃j,ls.length-1-i=j:=⟨_,rfl⟩;have t:j<ls.length:=by omega
  have y:=W7 ((ls.length:Int)-1-(i:Int)) (j:Int);have Y:=ab j t;obtain⟨Fp,z⟩:=Y3 Y;have T:=Sm c;rw[hj]at T;have b:Is ls i=(As (at' ls.reverse i) && !down ls j):=by unfold Is;rw[hj]
  have O:=hN (i+1) [];by_cases S:(at' ls.reverse i).k=1
  ·have X:As (at' ls.reverse i)=true:=by simp[As,S]
   have ae:U5 ls j=down ls j:=by unfold U5;rw[<-T,X];rfl
   rw[ae]at Y z;rw[X]at b;cases hd:down ls j with
   |true=>
    rw[hd]at Y z b;simp at b;simp[c,Z,Ab,S,hw,w,y,z,EV,t];exact O _ _ (by omega) ⟨by omega,λk d=>by
     rcases Nat.lt_succ_iff_lt_or_eq.1 d with s|s
     ·exact M k s
     rw[s];exact b⟩ (by simp[p,g,l,n,Z9,Z5,e])
   |false=>
    rw[hd]at Y z b;simp at b;have Q:=ad i c b M;have o:=G i c;rw[V,<-Q]at o;simp[c,Z,Ab,S,w,y,z,EV,t];refine S3 o [(1,7)] (by simp) (by simp[e]) (by simp) ?_;rintro r sm ⟨rfl,rfl⟩;simp[e,I];exact Z6 ac [(8,37)] (by simp[p,g,l,n,Z9,Z5,I])
  have X:As (at' ls.reverse i)=false:=by simp[As,S]
  rw[X]at b;simp at b;simp[c,Z,Ab,S,hw,w,y];exact O _ _ (by omega) ⟨by omega,λk d=>by
   rcases Nat.lt_succ_iff_lt_or_eq.1 d with s|s
   ·exact M k s
   rw[s];exact b⟩ (by simp[p,g,l,n,Z9,Z5,e])
 obtain⟨k,ai,d⟩:=hx;rw[M k (by omega)]at d;cases d
theorem Yid(F:Nat)(ls:List Lt)(E:List DO)(h:ls.length<=1000)(a:∃i,i<ls.length/\Is ls i=true) :
 Bo prog 112 [.ptr 1 0 0] (dF F ls (ls.map Ab) E) λv m=>v=.Al ((Q6 ls).map Ab)/\m=⟨(dF F ls (ls.map Ab) E).bl,9⟩:=by
 refine(rF F ls E h a).freeze λr b=>?_;rintro⟨rfl,rfl⟩;refine⟨[8],?_,?_⟩
 ·exact WS (k:=6) rfl (by simp[Ke]) (by rw[lM,Qi]) (OX _)
 simp[Ke]
theorem AH.bk{f:Int}{ls:List Lt}(h:AH f ls)(a:ls≠[]):∃i,i<ls.length/\Is ls i=true:=by
 have b:=h.wv a;obtain⟨i,g,c,d⟩:=Wt b.Eo h.Jk;refine⟨ls.length-1-i,by omega,?_⟩;have e:ls.length-1-(ls.length-1-i)=i:=by omega
 unfold Is;rw[Sm (by omega),e,c,d];rfl
def Fy:Option (List Lt)→Aa
 | none=>.Aj
 | some w=>.Al (w.map Ab)
theorem ZL(q:Nat->Nat):∀z,(Fy z).AM q=Fy z
 |none=>rfl
 |some w=>by simp only[Fy,Aa.AM];rw[Y2 q _ (Y6 w)]
theorem Yde:∀z,(Fy z).cells=some [Fy z]
 |none=>rfl
 |some _=>rfl
theorem Yk2:∀z,Aa.one (Fy z)=true
 |none=>rfl
 |some _=>rfl
def Pb(ls:List Lt):Nat→List Lt
 | 0=>ls
 | _=>Q6 ls
def RX(ls:List Lt):Nat→Option (List Lt)
 | 0=>none
 | 1=>D6 ls none ls.length
 | _=>Il ls
theorem Zwl(ls:List Lt):∀i,(Pb ls i).length=ls.length
 |0=>rfl
 |_+1=>Qi ls
theorem Z9a(ls:List Lt){i:Nat}(h:i<2):RX ls (i+1)=D6 (Pb ls i) (RX ls i) ls.length:=by
 rcases (show i=0\/i=1 by omega)with rfl|rfl<;>rfl
theorem Z98(ls:List Lt){i:Nat}(h:i<2):∀w,RX ls i=some w->w.length=ls.length:=by
 rcases (show i=0\/i=1 by omega)with rfl|rfl
 ·intro w a;cases a
 exact λw a=>VC rfl (λw h=>by cases h) _ w a
theorem Yhm{R:List (List Aa)}(h:R≠[]):W5 .eql .slice (.Al R) .Aj=some (.bool false):=by
 have:R.isEmpty=false:=by grind
 simp[W5,Ez,JG,G0,this]
theorem Yaf:W5 .eql .slice .Aj .Aj=some (.bool true):=rfl
theorem qW(F:Nat)(ls:List Lt)(E:List DO)(h:ls.length<=1000)(hx:∃i,i<ls.length/\Is ls i=true)(hf:As (at' ls 0)=true) :
 Bo prog 72 [.ptr 1 0 0] (dF F ls (ls.map Ab) E) λv m=>v=.agg [.int .i64 F,Fy (Il ls)]/\m=⟨(dF F ls (ls.map Ab) E).bl,7⟩:=by
 refine D2 hm Tryz.func72 oQ rfl rfl λK hK=>?_;have ao:=hK _ _ ⟨rfl,rfl⟩;clear hK;have a7:0<ls.length:=by omega
 have X:=Yid F ls E h hx;have Ao:∀q,Z3 q (ls.map Ab)=ls.map Ab:=λq=>Y2 q _ (Y6 ls);have T:∀q,Z3 q ((Q6 ls).map Ab)=(Q6 ls).map Ab:=λq=>Y2 q _ (Y6 _);have Cz:∀i q,Z3 q ((Pb ls i).map Ab)=(Pb ls i).map Ab:=λi q=>Y2 q _ (Y6 _);have a2:∀i,((Pb ls i).map Ab).length=ls.length:=λi=>by rw[lM,Zwl]
 obtain⟨J,G⟩:∃J:List (List Aa),J=[[.Al (ls.map Ab)],[.Al ((Q6 ls).map Ab)]]:=⟨_,rfl⟩;have EV:J.length=2:=by rw[G];rfl
 have an:∀i,i<2->J[i]?=some [.Al ((Pb ls i).map Ab)]:=λi hi=>by
  rw[G];rcases (show i=0\/i=1 by omega)with rfl|rfl<;>rfl
 have n:∀q,Z3 q J=J:=λq=>by
  simp_all
 unfold dF dM Ke at *;generalize aa:BB (W8 ls.length ls.length (U5 ls) false)=B at *;generalize ab:Z1 (W8 ls.length ls.length (O8 ls) 0)=C at *;generalize Y:Z1 (Z2 ls)=A at *;have c:∀q,Z3 q A=A:=λq=>by rw[<-Y];exact Z5 q _
 have d:∀q,Z3 q B=B:=λq=>by rw[<-aa];exact V6 q _
 have g:∀q,Z3 q C=C:=λq=>by rw[<-ab];exact Z5 q _
 clear aa ab Y;generalize (Z2 ls).length=m at *;have ay:Fy (RX ls 0)=.Aj:=rfl;have az:Fy (RX ls 2)=Fy (Il ls):=rfl;simp;refine Pt X (by simp) [(1,1),(2,2),(3,3),(4,4),(5,5),(6,6)] (by simp) (by simp[EO,Ao,c,d,g,Z9,Z5]) (by simp) (λs=>by simp[T]) (by simp) ?_;simp[T,FT.indep];refine M4 (α:=Nat) (λi=>[(19,.int .i64 i),(18,.int .i64 2),(17,.sl 8 0 2),(3,Fy (RX ls i)),(2,.ptr 7 0 0),(0,.ptr 1 0 0)])
  (λi=>⟨[(1,.cells 7 [[.int .i64 (F:Int),.Al (ls.map Ab),.sl 3 0 ls.length,.sl 5 0 m,.sl 4 0 ls.length,.map 6,.sl 2 0 (F+1)]]),(2,.cells 1 (Z1 (O6 F ls))),(3,.cells 1 B),(4,.cells 1 C),(5,.cells 1 A),(6,.map (FB 0 E) E.length),(7,.cells 2 [[.int .i64 0,.Aj]]),(8,.cells 1 J)],9⟩)
  (λi=>2-i) (λi=>i<=2) 0 [(8,16)] (by rw[G];simp[Ao,T,c,d,g,Z9,Z5,ay,Aa.AM]) (by simp) ?_
 intro i hi N hN
 try simp only at hi hN ⊢
 by_cases I:i<2
 ·have hb:=an i I;obtain⟨Fp,By⟩:=Y3 hb;have hw:=Y0 ((i:Int)+1);have af:=Z9a ls I;have ae:=Z98 ls I;have ac:=hN (i+1);rw[af]at ac;have H:=Zwl ls i;have r:=a2 i;have t:=Cz i;have av:=λj V=>A8 (Pb ls i) (i:=j) V;have am:=λj V=>sC (Pb ls i) j V (by rw[H];exact h);generalize RX ls i=U at *;generalize Pb ls i=L at *;clear hN G;have ag:(i:Int)<2:=by omega
  simp[I,ag,By,EV,r];have M:=λj=>rG (U2 j L) (by
   intro e;have:=congrArg length e;rw[A6,H,List.length_nil]at this;omega) (by rw[A6];omega)
  have al:down L 0=true:=rfl;have Q:∀j,X7 (U2 j L)=M3 L j:=λ_=>rfl;simp only[Q]at M;have Ch:∀j,(M3 L j).length=ls.length:=λj=>by rw[aX,H]
  have a0:=λj=>VC H ae j;have ak:Fy (D6 L U 0)=Fy U:=rfl;have a6:=λj q=>ZL q (D6 L U j);have au:∀j,j<ls.length->down L (j+1)=if As (at' L j)then !down L j else down L j:=λj V=>nT (by omega)
  have CG:∀j q,Z3 q ((M3 L j).map Ab)=(M3 L j).map Ab:=λj q=>Y2 q _ (Y6 _);have b:=λq=>Ao q;generalize ls.map Ab=rows at *;generalize L.map Ab=LR at *;refine M4 (α:=Nat) (λj=>[(25,.int .i64 j),(24,.int .i64 ls.length),(23,.Al LR),(6,.bool (down L j)),(5,.Al LR),(19,.int .i64 i),(18,.int .i64 2),(17,.sl 8 0 2),(3,Fy (D6 L U j)),(2,.ptr 7 0 0),(0,.ptr 1 0 0)])
   (λ_=>⟨[(1,.cells 7 [[.int .i64 (F:Int),.Al rows,.sl 3 0 ls.length,.sl 5 0 m,.sl 4 0 ls.length,.map 6,.sl 2 0 (F+1)]]),(2,.cells 1 (Z1 (O6 F ls))),(3,.cells 1 B),(4,.cells 1 C),(5,.cells 1 A),(6,.map (FB 0 E) E.length),(7,.cells 2 [[.int .i64 0,.Aj]]),(8,.cells 1 J)],9⟩)
   (λj=>ls.length-j) (λj=>j<=ls.length) 0 [] (by simp[b,c,d,g,Z9,Z5,n,t,al,ak,ZL]) (by simp) ?_
  intro j V N2 ad
  try simp only at V ad ⊢
  by_cases u:j<ls.length
  ·have hg:=av j (by omega);obtain⟨DT,D⟩:=Y3 hg;have o:=Y0 ((j:Int)+1);have aq:=au j u;have a:=ad (j+1) [];have a3:D6 L U (j+1)=Ny L j (D6 L U j):=rfl;rw[a3,aq]at a;have aj:=a0 j;have P:=a6 j;generalize D6 L U j=z at *;unfold Ny at a;by_cases S:(at' L j).k=1
   ·have hP:As (at' L j)=true:=by simp[As,S]
    rw[hP]at a;cases hd:down L j with
    |false=>
     rw[hd]at a;simp[u,D,r,Ab,S,o];simp only[Bool.true_and,bF,if_false,if_true,Bool.not_false]at a;exact a _ _ (by omega) (by omega) (by simp[b,c,d,g,Z9,Z5,n,t,P])
    |true=>
     rw[hd]at a;have y:=am j (by omega);have l:=M j;have O:=CG j;cases z with
     |none=>
      simp only[Bool.and_self,if_true,Fy,Bool.not_true]at a;generalize (M3 L j).map Ab=C1 at *;simp[u,D,r,Ab,S,Fy];refine T0 y ?_;simp;refine T0 l ?_;simp[Yaf,o];exact a _ _ (by omega) (by omega) (by simp[b,c,d,g,Z9,Z5,n,t,O])
     |some w=>
      have a8:w.length=ls.length:=aj w rfl;have p:=rH (M3 L j) w (by grind) (by omega);have a4:∀q,Z3 q (w.map Ab)=w.map Ab:=λq=>Y2 q _ (Y6 w);have ai:=Yhm (R:=w.map Ab) (by
       intro e;have:=congrArg length e;grind)
      simp only[Bool.and_self,if_true,Bool.not_true]at a;cases ah:E9 (M3 L j) w with
      |true=>
       rw[ah]at a p;simp only[if_true,Fy]at a;generalize (M3 L j).map Ab=C1 at *;rw[show Fy (some w)=.Al (w.map Ab) from rfl];generalize w.map Ab=W at *;simp[u,hg,D,r,Ab,S,o,Fy];refine T0 y ?_;simp;refine T0 l ?_;simp[ai];refine T0 p ?_;simp[o];exact a _ _ (by omega) (by omega) (by simp[b,c,d,g,Z9,Z5,n,t,O])
      |false=>
       rw[ah]at a p;simp only[bF,if_false,Fy]at a;generalize (M3 L j).map Ab=C1 at *;rw[show Fy (some w)=.Al (w.map Ab) from rfl];generalize w.map Ab=W at *;simp[u,hg,D,r,Ab,S,o,Fy];refine T0 y ?_;simp;refine T0 l ?_;simp[ai];refine T0 p ?_;simp[o];exact a _ _ (by omega) (by omega) (by simp[b,c,d,g,Z9,Z5,n,t,a4])
   have hP:As (at' L j)=false:=by simp[As,S]
   rw[hP]at a;simp only[Bool.false_and,bF,if_false]at a;simp[u,D,r,Ab,S,o];exact a _ _ (by omega) (by omega) (by simp[b,c,d,g,Z9,Z5,n,t,P])
  have ax:j=ls.length:=by omega
  rw[ax];simp[hw];exact ac [] _ _ (by omega) (by omega) (by simp[b,c,d,g,Z9,Z5,n,ZL])
 have aw:i=2:=by omega
 subst aw;rw[az];have a1:=λq=>ZL q (Il ls);have EN:=Yde (Il ls);have a5:=Yk2 (Il ls);generalize Fy (Il ls)=Z at *;simp[EN,a5];exact Z6 ao [] (by simp[Ao,c,d,g,Z9,Z5,a1])
end Go.Ad
