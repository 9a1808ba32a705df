/- Part 30 of the proof: Sj, Sl, So, Sp, Pz, Yb, We. -/
import Derived.Test.YtilmpmlkndfbjaaGreatDoorR10
import Derived.Test.YtilmpmlkndfbjaaGreatDoorR25
import Derived.Test.YtilmpmlkndfbjaaGreatDoorR29
set_option linter.all false
section
namespace Go.AE
open Go.RowKit
variable {P:Program}
def Wk(v v':AVal):Prop:=∀ (Φ:Pers) (ρ:Rho) (u:Value),R Φ ρ v u→R Φ ρ v' u
def WkL:List AVal→List AVal→Prop
 | [],[]=>True
 | x :: r,y :: s=>Wk x y∧WkL r s
 | _,_=>False
theorem Wk.refl(v:AVal):Wk v v:=fun _ _ _ h=>h
theorem Ybu:Wk .nilSl (.imm []):=fun Φ ρ u h=>Ya7 Φ ρ u h Φ ρ
theorem Zqx:∀ {a b:List AVal},WkL a b→a.length=b.length ∧ ∀(i:Nat) (y:AVal),b[i]? = some y → ∃ x,a[i]? = some x∧Wk x y
 | [],[],_=>⟨rfl,fun i y h=>by simp at h⟩
 | [],_ :: _,h=>h.elim
 | _ :: _,[],h=>h.elim
 | x :: r,y :: s,h=>by
  obtain⟨d,e⟩:=Zqx h.2;refine⟨by simp[d],fun i z c=>?_⟩
  cases i with
  | zero=>cases c; exact⟨x,rfl,h.1⟩
  | succ i=>exact e i z (by simpa using c)
theorem Z6k{a b:List AVal}(h:WkL a b):Wk (.agg a) (.agg b):=fun Φ ρ u g=>by
 obtain⟨c,d⟩:=Zqx h;cases g with
 | agg cs vs f e=>
  refine .agg _ _ (by rw[f,c]) fun i y v m j=>?_
  obtain⟨x,l,k⟩:=d i y m;exact k _ _ _ (e i x v l j)
theorem PCall.wk{g:FuncId}{args:List AVal}{v f:AVal}(h:PCall P g args v)(s:Wk v f):PCall P g args f:=by
 intro m d;refine⟨(h m d).1,fun W Φ ρ vs w q l a=>((h m d).2 W Φ ρ vs w q l a).mono fun e w' n=>?_⟩
 obtain⟨u,r,t,c,ρ',i,j,o,b,k,p,rfl,rfl⟩:=n;exact⟨u,_,_,c,ρ',i,j,o,b,s _ _ _ k,p,rfl,rfl⟩
end Go.AE
namespace Go.Known
open Go Go.AE Go.Proofs
open Go.Plain
end Go.Known
end
section
namespace Go.Known
open Go Go.AE Go.Proofs
open Go.Plain
theorem Z9p(f:Int)(L:List Lt):X3 (SMem.get ⟨[(1,.cells 6 (L.map rowL))],2⟩) 4 (.agg [.int .i64 f,.sl 1 0 L.length])=some (cV f L):=by
 have:=Zmr (n:=2) (get:=SMem.get ⟨[(1,.cells 6 (L.map rowL))],2⟩) (b:=1) (k:=6) (rows:=L.map rowL) (by simp) (Zjl _)
 rw[List.length_map]at this;rw[X3];simp only[V4];rw[this];rfl
theorem Z5e(f:Int)(ls:List Lt)(g:ls≠[])(h:ls.length≤1000) :
 Ctr Tryz.prog 58 [cV f ls] ⟨[],1⟩ fun v m=>v=.agg [.int .i64 f,.sl 1 0 ls.length]∧m=⟨[(1,.cells 6 (ls.map rowL))],2⟩:=by
 refine Zc0 hm Tryz.func58 Zr0 rfl rfl fun K e=>?_
 have b:=e _ _ ⟨rfl,rfl⟩;clear e;have d:∀ q,Z6 q (ls.map rowL)=ls.map rowL:=fun q=>X6 q _ (U6 ls)
 have i:=Z6o ls;have c:¬ls.map rowL=[]:=by simpa using g
 have a:(ls.map rowL).length=ls.length:=List.length_map ..;unfold cV at *;generalize ls.map rowL=rows at *;have j:ls.length≤1048576:=by omega
 simp[Zpm,i,c,a,j,X5];exact Z9 b [(1,7)] (by simp[d])
end Go.Known
end
section
namespace Go.Known
open Go Go.AE Go.Proofs
open Go.Plain
theorem Zxz{x:Int}:∀ {met:List Int} {i:Nat},met[i]? = some x→(∀ k,k<i→met[k]? ≠ some x)→Y6 x met=i+1
 | [],i,h,_=>by simp at h
 | y :: r,0,h,_=>by
  have:x=y:=by simpa using h.symm
  simp[Y6,this]
 | y :: r,i+1,h,a=>by
  have b:x≠y:=fun e=>a 0 (by omega) (by simp[e])
  have:=Zxz (met:=r) (i:=i) (by simpa using h) (fun k c=>by have:=a (k+1) (by omega); simpa using this)
  simp only[Y6,if_neg b,this];rfl
theorem Zsc{x:Int}:∀ {met:List Int},(∀ k,k<met.length→met[k]? ≠ some x)→Y6 x met=0
 | [],_=>rfl
 | y :: r,a=>by
  have b:x≠y:=fun e=>a 0 (by simp) (by simp[e])
  have:=Zsc (met:=r) (fun k c=>by have:=a (k+1) (by simp; omega); simpa using this)
  simp only[Y6,if_neg b,this,if_true]
set_option maxHeartbeats 4000000 in
theorem c70s(met:List Int)(x:Int)(h:met.length≤1000):Ctr Tryz.prog 59 [slV 1 (Z2 met),.int .i64 x] ⟨blV 1 1 (Z2 met) [],2⟩ fun v m=>v=.int .i64 ((Y6 x met:Nat) - 1:Int)∧m=⟨blV 1 1 (Z2 met) [],2⟩:=by
 refine Zc0 hm Tryz.func59 cf70 rfl rfl fun K z=>?_
 have a:=z _ _ ⟨rfl,rfl⟩;clear z;have b:(Z2 met).length=met.length:=Zxm met;have u:∀ (i:Nat) (y:Int),met[i]? = some y→(Z2 met)[i]? = some [.int .i64 y]:=fun i y=>Ybi
 have d:∀ q,Z6 q (Z2 met)=Z2 met:=fun q=>X6 q _ (L5 met)
 simp;refine B0 (α:=Nat) (fun i=>[(5,.int .i64 i),(1,.int .i64 x),(0,slV 1 (Z2 met))]) (fun _=>⟨blV 1 1 (Z2 met) [],2⟩) (fun i=>met.length - i) (fun i=>i≤met.length ∧ ∀ k,k<i→met[k]? ≠ some x) 0 [] (by simp +contextual [d]) (by simp) ?_
 rintro i ⟨hi,p⟩ N A
 try simp only at hi p A ⊢
 by_cases c:i<met.length
 ·obtain⟨y,w⟩:∃ y,met[i]? = some y:=⟨_,gE c⟩
  have t:=u i y w;obtain⟨C,o⟩:=Y5 t;have D:IntKind.i64.wrap ((i:Int)+1)=(i:Int)+1:=Z1 (by omega) (by omega)
  have g:¬Z2 met=[]:=by intro e; rw[e]at b; simp at b; omega
  by_cases j:y=x
  ·have n:=Zxz (x:=x) (met:=met) (i:=i) (by rw[w,j]) p
   rw[n]at a;have l:K (.int .i64 (i:Int)) ⟨blV 1 1 (Z2 met) [],2⟩:=by
    have e:(((i+1:Nat):Int) - 1)=(i:Int):=by omega
    rw[e]at a;exact a
   simp[c,b,t,o,j,W4,Y7,g];exact Z9 l [] (by simp +contextual [d,Y7,g])
  ·have s:=A (i+1) [];simp[c,b,t,o,j,D,W4,Y7,g];exact s _ _ (by omega) ⟨by omega,fun k B=>by
    rcases Nat.lt_succ_iff_lt_or_eq.1 B with r|r
    ·exact p k r
    ·subst r; rw[w]; intro e; cases e; exact j rfl⟩ (by simp +contextual [d,W4,Y7,g])
 ·have n:=Zsc (x:=x) (met:=met) (fun k B=>p k (by omega))
  rw[n]at a;have l:K (.int .i64 (-1)) ⟨blV 1 1 (Z2 met) [],2⟩:=a;simp[c,b];exact Z9 l [] (by simp +contextual [d])
@[local simp] theorem Ydw{p : Prop} [Decidable p] {b k : Nat} (h : b ≠ k) : Y8 b (if p then [] else [k]) = false := by
 split<;>simp[Y8,h]
@[local simp] theorem Yey{k w : Nat}{E : List (List AVal)} : (bif Y8 k (if E = [] then [] else [k]) then [] else blV k w E []) = [] := by
 by_cases h:E=[]
 ·subst h; rfl
 ·simp[h,Y8]
theorem Yaa{met:List Int}{l:Lt}(a:l.k=2):Y6 l.i (O7 met l)≠0∧O7 met l≠[]:=by
 unfold O7;by_cases h:Y6 l.i met=0
 ·rw[if_pos ⟨a,h⟩,Zi2 h];exact⟨by omega,by simp⟩
 ·rw[if_neg (fun e=>h e.2)]
  refine⟨h,fun e=>?_⟩
  rw[e]at h;exact h rfl
set_option maxRecDepth 100000 in
set_option maxHeartbeats 8000000 in
theorem c78g(f:Int)(ls:List Lt)(h0:ls≠[])(hl:ls.length≤1000):PCall Tryz.prog 32 [cV f ls] (cV f (X8 ls)):=by
 refine Zt7 hm 4 Tryz.func32 cf78 rfl rfl (by simp[X4,AVal.closed,U6]) (by simp[AVal.closed,X4,U6]) fun K hK=>?_
 have C:=hK _ _ (Z9p f (X8 ls));clear hK;have u:=Zfc ls;rw[u]at C;have ai:0<ls.length:=List.length_pos_iff.2 h0;have J:=Z5e f ls h0 hl;have L:=fun met x hm=>c70s met x hm
 have Q:=fun i hi=>Zvj u (i:=i) hi
 have X:=fun i hi=>Zy8 u (i:=i) hi
 have P:=fun i hi B=>Z7p u (i:=i) hi B
 have U:∀ i,((I2 (X8 ls) ls i).map rowL).length=ls.length:=fun i=>by rw[List.length_map,Z4c u]
 have v:∀ i q,Z6 q ((I2 (X8 ls) ls i).map rowL)=(I2 (X8 ls) ls i).map rowL:=fun i q=>X6 q _ (U6 _)
 have O:(I2 (X8 ls) ls 0).map rowL=ls.map rowL:=by rw[Z7l]
 have V:(I2 (X8 ls) ls ls.length).map rowL=(X8 ls).map rowL:=by rw[Z7z u]
 rw[← V]at C;have b:(ls.map rowL).length=ls.length:=List.length_map ..;have ae:=fun i hi=>Zp5 ls (i:=i) hi
 have n:∀ q,Z6 q (ls.map rowL)=ls.map rowL:=fun q=>X6 q _ (U6 ls)
 obtain⟨M,hM⟩:∃ M:Nat→List (List AVal),(fun i=>(I2 (X8 ls) ls i).map rowL)=M:=⟨_,rfl⟩
 have S:∀ i,(I2 (X8 ls) ls i).map rowL=M i:=fun i=>by rw[← hM]
 simp only[S]at Q X P U v O V C;clear hM S;unfold cV at *;generalize ls.map rowL=rows at *;have ab:Z2 (X9 ls 0)=[]:=rfl;simp;refine Q1 J [] (by simp[n]) (by simp) (by simp) ?_
 rintro r sm ⟨rfl,rfl⟩;simp[n,b];refine B0 (α:=Nat) (fun i=>[(5,.int .i64 i),(4,slV 5 (Z2 (X9 ls i))),(3,.ptr 3 0 0),(2,.ptr 2 0 0),(1,.ptr 1 0 0)])
  (fun i=>⟨(3,.cells 2 [[.int .i64 f,.sl 4 0 ls.length]]) :: (4,.cells 6 (M i)) :: (2,.cells 2 [[.int .i64 0,.nilSl]]) :: (1,.cells 2 [[.int .i64 f,.imm rows]]) :: blV 5 1 (Z2 (X9 ls i)) [],6⟩)
  (fun i=>ls.length - i) (fun i=>i≤ls.length) 0 [(3,5),(4,7)] (by simp[n,O,ab]) (by simp) ?_
 intro i hi N hN
 try simp only at hi hN ⊢
 by_cases a:i<ls.length
 ·have B:=Q i a;obtain⟨ah,j⟩:=Y5 B;have E:=ae i a;obtain⟨ak,m⟩:=Y5 E;have d:=X i a;have H:IntKind.i64.wrap ((i:Int)+1)=(i:Int)+1:=Z1 (by omega) (by omega)
  have l:=U i;have h:=Zhv a;have Y:=Zmy a;have aj:=Zk7 ls i;have w:=hN (i+1);rw[Y]at d;have g:∀ q,Z6 q (Z2 (X9 ls i))=Z2 (X9 ls i):=fun q=>X6 q _ (L5 _)
  have z:∀ q,Z6 q (Z2 (X9 ls (i+1)))=Z2 (X9 ls (i+1)):=fun q=>X6 q _ (L5 _)
  by_cases t:(at' ls i).k=2
  ·have o:=L (X9 ls i) (at' ls i).i (by omega)
   obtain⟨af,aa⟩:=Yaa (met:=X9 ls i) t;rw[← h]at af aa;have p:=L (X9 ls (i+1)) (at' ls i).i (by have:=Zk7 ls (i+1); omega)
   have F:renS (X9 ls i) (at' ls i)={ at' ls i with i:=(Y6 (at' ls i).i (X9 ls (i+1)):Nat) }:=by unfold renS; rw[if_pos t,h]
   rw[F]at d;have I:IntKind.i64.wrap ((Y6 (at' ls i).i (X9 ls (i+1)):Int) - 1+1)=(Y6 (at' ls i).i (X9 ls (i+1)):Int):=by
    have:=Zmi (x:=(at' ls i).i) (met:=X9 ls (i+1));have:=Zk7 ls (i+1);rw[Z1 (by omega) (by omega)]
    omega
   have A:IntKind.i64.wrap (Y6 (at' ls i).i (X9 ls (i+1)):Int)=(Y6 (at' ls i).i (X9 ls (i+1)):Int):=by
    have:=Zmi (x:=(at' ls i).i) (met:=X9 ls (i+1));have:=Zk7 ls (i+1);exact Z1 (by omega) (by omega)
   have c:¬Z2 (X9 ls (i+1))=[]:=by simpa[Z2]using aa
   simp only[rowL,t]at d;rw[W4 c,Y7 c]at p;by_cases hx:Y6 (at' ls i).i (X9 ls i)=0
   ·have y:O7 (X9 ls i) (at' ls i)=X9 ls i++[(at' ls i).i]:=by unfold O7; rw[if_pos ⟨t,hx⟩]
    rw[y]at h;have Z:Z2 (X9 ls i)++[[.int .i64 (at' ls i).i]]=Z2 (X9 ls (i+1)):=by rw[h,Yc6]
    rw[hx]at o;have ad:(Z2 (X9 ls i)).length≤1048575:=by rw[Zxm]; omega
    have D:(Z2 (X9 ls i)).length+1=(Z2 (X9 ls (i+1))).length:=by rw[← Z]; simp
    generalize Y6 (at' ls i).i (X9 ls (i+1))=jx at *;generalize Z2 (X9 ls (i+1))=E1 at *;generalize Z2 (X9 ls i)=E0 at *;simp[a,B,j,l,E,m,b,rowL,t,H];refine Q1 o [(1,5)] (by simp) (by simp +contextual [g]) (by simp +contextual) ?_
    rintro r sm ⟨rfl,rfl⟩;simp[a,B,j,l,E,m,b,rowL,t,H,ad,g,Z];refine Zv2 p (by simp) [(1,35)] (by simp[D]) (by simp[EqRB,z]) (by simp) (fun s=>by simp) (by simp) ?_
    simp[a,B,j,l,E,m,b,rowL,t,H,I,A,z];exact w [(5,35)] _ _ (by omega) (by omega) (by simp +contextual [n,v,d,z,W4,Y7,c,D])
   ·have y:O7 (X9 ls i) (at' ls i)=X9 ls i:=by unfold O7; rw[if_neg (fun e=>hx e.2)]
    rw[y]at h;have ag:¬((Y6 (at' ls i).i (X9 ls i):Nat):Int) - 1<0:=by omega
    rw[h]at p I A d w c;rw[W4 c,Y7 c]at o;generalize Y6 (at' ls i).i (X9 ls i)=jx at *;rw[W4 c];generalize Z2 (X9 ls i)=E0 at *;simp[a,B,j,l,E,m,b,rowL,t,H];refine Q1 o [(1,5)] (by simp) (by simp[g,Y7,c]) (by simp) ?_
    rintro r sm ⟨rfl,rfl⟩;simp[a,B,j,l,E,m,b,rowL,t,H,g,ag,Y7,c];refine Zv2 p (by simp) [(1,5)] (by simp) (by simp[EqRB,g]) (by simp) (fun s=>by simp) (by simp) ?_
    simp[a,B,j,l,E,m,b,rowL,t,H,I,A,g];exact w [] _ _ (by omega) (by omega) (by simp +contextual [n,v,d,g,W4,Y7,c])
  ·have y:O7 (X9 ls i) (at' ls i)=X9 ls i:=by unfold O7; rw[if_neg (fun e=>t e.1)]
   have F:renS (X9 ls i) (at' ls i)=at' ls i:=by unfold renS; rw[if_neg t]
   rw[y]at h;have G:=P i a (by rw[Y,F])
   rw[h,G]at w;generalize Z2 (X9 ls i)=E0 at *;simp[a,B,j,l,E,m,b,rowL,t,H];exact w [] _ _ (by omega) (by omega) (by simp +contextual [n,v,g])
 ·have ac:i=ls.length:=by omega
  subst ac;simp[a];exact Z9 C [(1,4)] (by simp[n,v])
end Go.Known
end
section
namespace Go.Known
open Go Go.AE Go.Proofs
open Go.Plain
set_option maxRecDepth 100000 in
set_option maxHeartbeats 8000000 in
theorem c12v(f g:Int)(a b:List Lt)(P:a.length≤1000)(Q:b.length≤1000):PCall Tryz.prog 11 [cV f a,cV g b] (.bool (decide (f=g)&&decide (a=b))):=by
 refine Za0 hm Tryz.func11 cf12 rfl rfl (by simp[X4,AVal.closed,U6]) trivial fun K j=>?_
 have r:∀ q,Z6 q (a.map rowL)=a.map rowL:=fun q=>X6 q _ (U6 a)
 have s:∀ q,Z6 q (b.map rowL)=b.map rowL:=fun q=>X6 q _ (U6 b)
 have h:(a.map rowL).length=a.length:=List.length_map ..;have k:(b.map rowL).length=b.length:=List.length_map ..;have D:=fun i hi=>Zp5 a (i:=i) hi
 have E:=fun i hi=>Zp5 b (i:=i) hi
 unfold cV at *;generalize a.map rowL=A at *;generalize b.map rowL=B at *;by_cases m:f=g
 rotate_left
 ·rw[decide_eq_false m,Bool.false_and]at j;simp[m];exact Z9 j [] (by simp)
 subst m;rw[decide_eq_true rfl,Bool.true_and]at j;by_cases F:a.length=b.length
 rotate_left
 ·have n:¬a=b:=fun e=>F (by rw[e])
  rw[decide_eq_false n]at j;have G:¬(a.length:Int)=(b.length:Int):=by omega
  simp[h,k,F,G];exact Z9 j [] (by simp)
 simp[h,k,F];refine B0 (α:=Nat) (fun i=>[(5,.int .i64 i),(3,.ptr 2 0 0),(2,.ptr 1 0 0)]) (fun _=>⟨[(1,.cells 2 [[.int .i64 f,.imm A]]),(2,.cells 2 [[.int .i64 f,.imm B]])],3⟩) (fun i=>a.length - i) (fun i=>i≤a.length∧(a.drop i=b.drop i)=(a=b)) 0 [] (by simp[r,s]) (by simp) ?_
 rintro i ⟨hi,y⟩ N J
 try simp only at hi J ⊢
 by_cases c:i<a.length
 ·have w:=D i c;have z:=E i (by omega)
  obtain⟨_,l⟩:=Y5 w;obtain⟨_,o⟩:=Y5 z;have L:IntKind.i64.wrap ((i:Int)+1)=(i:Int)+1:=Z1 (by omega) (by omega)
  have p:=Z9z (at' a i) (at' b i);have H:(rowL (at' a i)).length=6:=rfl;have u:(rowL (at' b i)).length=6:=rfl;have I:(rowL (at' a i)).take 6=rowL (at' a i):=rfl;have v:(rowL (at' b i)).take 6=rowL (at' b i):=rfl;by_cases d:at' a i=at' b i
  ·have C:=J (i+1) [];rw[d]at p;rw[decide_eq_true rfl]at p;rw[Yaf c (by omega) d]at y
   rw[d]at w l;generalize rowL (at' b i)=O at *;simp[c,h,k,w,z,l,o,L,u,v,p];exact C _ _ (by omega) ⟨by omega,y⟩ (by simp[r,s])
  ·rw[decide_eq_false d]at p;have n:¬a=b:=by
    rw[← y];exact Z2q c (by omega) d
   rw[decide_eq_false n]at j;generalize rowL (at' a i)=S at *;generalize rowL (at' b i)=O at *;simp[c,h,k,w,z,l,o,L,H,u,I,v,p];exact Z9 j [] (by simp)
 ·have M:i=a.length:=by omega
  have t:a=b:=by
   rw[← y,List.drop_eq_nil_of_le (by omega),List.drop_eq_nil_of_le (by omega)]
  rw[decide_eq_true t]at j;simp[c,h];exact Z9 j [] (by simp)
end Go.Known
end
section
namespace Go.Known
open Go.Plain
section
variable {n:Int} {ls:List Lt}
end
theorem ValR.key{f:Int}{ls:List Lt}(h:ValR f ls){l:Lt}(hm:l∈ls)(i:isP l=true):l.k=1∧1≤l.r∧l.r≤inG l.g ls∧0≤l.g∧l.g≤f:=by
 have e:l.k=1:=by simpa[isP]using i
 obtain⟨_,_,_,a,b,c,d,_⟩:=(Zlk e).1 (h.okr l hm);exact⟨e,c,d,a,b⟩
end Go.Known
end
section
namespace Go.Known
open Go.Plain
theorem Znx{n u:Nat}(a:u<n)(fw:Bool):bkN (T6 n u fw)=arr n u (!fw):=by
 unfold bkN T6 arr;cases fw
 ·simp only[bF,if_false,Bool.not_false,if_true];rw[if_neg (by omega)]
  omega
 ·simp only[if_true,Bool.not_true,bF,if_false];rw[if_pos (by omega)]
theorem Zt0(d:Nat):bkN (bkN d)=d:=by
 unfold bkN;split
 ·rw[if_neg (by omega)]; omega
 ·rw[if_pos (by omega)]; omega
theorem Zn0{n d:Nat}(h:d<2*n):bkN d<2*n:=by unfold bkN; split<;>omega
section
variable {ls:List Lt}
def smN(ls:List Lt)(v:Nat):Bool:=((at' ls v).o == ((at' ls v).s == 1))
abbrev otN(ls:List Lt)(v:Nat):Nat:=T2 ls v ls.length 0
theorem Yae{v:Nat}(c:v<ls.length)(a:(at' ls v).k=2)(b:Bool):tnN ls (arr ls.length v b)=T6 ls.length (otN ls v) (b == smN ls v):=by
 unfold tnN;rw[Ziz c,if_pos a];rfl
theorem Z8m{n v c:Nat}{b b':Bool}(i:v<n)(a:c<n)(h:arr n v b=arr n c b'):v=c∧b=b':=by
 obtain⟨_,d,e⟩:=Zgk i b;obtain⟨_,f,g⟩:=Zgk a b';rw[h]at d e;exact⟨d.symm.trans f,e.symm.trans g⟩
theorem Zco{l:List Nat}{i:Nat}(h:i<l.length):l.getD i 0∈l:=by
 rw[List.getD,gE h];exact List.getElem_mem _
end
end Go.Known
end
section
namespace Go.Known
open Go.Plain
section
variable {g a:Int} {ls:List Lt}
end
theorem ValR.below{f:Int}{ls:List Lt}(h:ValR f ls){g:Int}{a:Nat}(d:a≤inG g ls):Z5 (fun l=>(isP l&&l.g == g)&&decide (l.r≤(a:Int))) ls=a:=by
 obtain⟨i,b,_⟩:=ValR.ranks h.lo h.okr;refine Zvs (fun l e c=>?_) (fun t=>Zs8 b g t) a d
 simp only[bA,beq_iff_eq]at c;have:=i l e c.1;rw[c.2]at this;exact this
end Go.Known
end
