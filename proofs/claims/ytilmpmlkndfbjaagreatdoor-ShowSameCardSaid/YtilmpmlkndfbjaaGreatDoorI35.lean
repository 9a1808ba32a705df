/- Part 35 of the proof: Sj, Za. -/
import Derived.Test.YtilmpmlkndfbjaaGreatDoorI34
set_option linter.all false
section
namespace Go.AE
open Go.RowKit
variable {P:Program}
def Wk(v v':AVal):Prop:=∀ (Φ:Pers) (ρ:Rho) (u:Value),R Φ ρ v u→R Φ ρ v' u
def WkL:List AVal→List AVal→Prop
 | [],[]=>True
 | x :: r,y :: s=>Wk x y∧WkL r s
 | _,_=>False
theorem Wk.refl(v:AVal):Wk v v:=fun _ _ _ h=>h
theorem Yft:Wk .nilSl (.imm []):=fun Φ ρ u h=>Zs2 Φ ρ u h Φ ρ
theorem Zq4:∀ {xs a:List AVal},WkL xs a→xs.length=a.length ∧ ∀(i:Nat) (y:AVal),a[i]? = some y → ∃ x,xs[i]? = some x∧Wk x y
 | [],[],_=>⟨rfl,fun i y h=>by simp at h⟩
 | [],_ :: _,h=>h.elim
 | _ :: _,[],h=>h.elim
 | x :: r,y :: s,h=>by
  obtain⟨c,d⟩:=Zq4 h.2;refine⟨by simp[c],fun i z b=>?_⟩
  cases i with
  | zero=>cases b; exact⟨x,rfl,h.1⟩
  | succ i=>exact d i z (by simpa using b)
theorem Z3e{xs a:List AVal}(h:WkL xs a):Wk (.agg xs) (.agg a):=fun Φ ρ u f=>by
 obtain⟨b,c⟩:=Zq4 h;cases f with
 | agg cs vs e d=>
  refine .agg _ _ (by rw[e,b]) fun i y v l g=>?_
  obtain⟨x,k,j⟩:=c i y l;exact j _ _ _ (d i x v k g)
theorem Z59{xs a:List AVal}(h:WkL xs a):Wk (.tuple xs) (.tuple a):=fun Φ ρ u f=>by
 obtain⟨b,c⟩:=Zq4 h;cases f with
 | tuple cs vs e d=>
  refine .tuple _ _ (by rw[e,b]) fun i y v l g=>?_
  obtain⟨x,k,j⟩:=c i y l;exact j _ _ _ (d i x v k g)
theorem PCall.wk{g:FuncId}{args:List AVal}{v f:AVal}(h:PCall P g args v)(s:Wk v f):PCall P g args f:=by
 intro m d;refine⟨(h m d).1,fun W Φ ρ vs w q l a=>((h m d).2 W Φ ρ vs w q l a).mono fun e w' n=>?_⟩
 obtain⟨u,r,t,c,ρ',i,j,o,b,k,p,rfl,rfl⟩:=n;exact⟨u,_,_,c,ρ',i,j,o,b,s _ _ _ k,p,rfl,rfl⟩
end Go.AE
namespace Go.Known
open Go Go.AE Go.Proofs
open Go.Plain
theorem Z0d{ls:List Lt}(a:ls≠[])(e:isP (at' ls 0)=true):A1 ls=some (T1 ls):=by
 have g:0<ls.length:=List.length_pos_iff.2 a;have b:H1 ls none ls.length≠none:=by
  obtain⟨k,f⟩:∃ k,ls.length=k+1:=⟨ls.length - 1,by omega⟩
  rw[f];have:∀ k,H1 ls none (k+1)≠none:=by
   intro k
   induction k with
   | zero=>
    have d:down ls 0=true:=rfl;simp[H1,Zd6,e,d]
   | succ k i=>exact Zx0 i
  exact this k
 have c:=Zs7 (l:=T5 ls) b ls.length;unfold T1 A1;cases h:H1 (T5 ls) (H1 ls none ls.length) ls.length with
 | none=>exact absurd h c
 | some w=>rfl
set_option maxHeartbeats 2000000 in
theorem c64g(f:Int)(ls:List Lt)(n:ValR f ls)(o:ls≠[]):PCall Tryz.prog 36 [cV f ls] (.tuple [cV f (T1 ls),.int .i64 0]):=by
 refine Zaa hm 4 Tryz.func36 cf64 rfl rfl (by simp[Y7,AVal.closed,Y5]) (by simp[AVal.closed,Y7,Y5]) fun K u=>?_
 have v:ls.length≤1000:=by have:=n.len; omega
 have c:isP (at' ls 0)=true:=by simp[isP,n.fst]
 have a:=fun F=>c109 F ls (crE ls ls.length) v (n.bk o) c
 rw[Z0d o c]at a;simp only[lsV]at a;have s:=c59 f ls v;have w:=n.to;have b:∀ q,Z4 q (ls.map rowL)=ls.map rowL:=fun q=>X1 q _ (Y5 ls)
 have l:∀ q,Z4 q ((T1 ls).map rowL)=(T1 ls).map rowL:=fun q=>X1 q _ (Y5 _)
 have t:=u (.tuple [cV f (T1 ls),.int .i64 0]) ⟨[],1⟩ (Zmv f _);clear u;unfold cV dF dM dV2 at *;generalize ls.map rowL=rows at *;generalize (T1 ls).map rowL=G at *;generalize j:bls (X8 ls.length ls.length (V6 ls) false)=B at *;generalize k:Z2 (X8 ls.length ls.length (R6 ls) 0)=C at *;generalize i:Z2 (Z1 ls)=A at *;have e:∀ q,Z4 q A=A:=fun q=>by rw[← i]; exact Z6 q _
 have g:∀ q,Z4 q B=B:=fun q=>by rw[← j]; exact W3 q _
 have h:∀ q,Z4 q C=C:=fun q=>by rw[← k]; exact Z6 q _
 clear j k i;generalize (Z1 ls).length=m at *;generalize crE ls ls.length=E at *;simp;refine U9 s [] (by simp[b]) (by simp) (by simp) ?_
 rintro r D (⟨p,_⟩|⟨_,p,_⟩|⟨_,_,y,z,_,rfl,rfl⟩)
 ·exact absurd w p
 ·exact absurd p o
 obtain⟨F,hF⟩:∃ F:Nat,f=(F:Int):=⟨f.toNat,by omega⟩
 subst hF;have d:=a F;simp[b,e,g,h,Z8,Z6];refine U9 d [(1,11),(2,12),(3,13),(4,14),(5,15),(6,16)] (by simp) (by simp[b,e,g,h,Z8,Z6]) (by simp) ?_
 rintro r D ⟨rfl,rfl⟩;simp[b,e,g,h,Z8,Z6,l];exact Y1 t [] (by simp[l])
theorem Yc0:PCall Tryz.prog 145 [.imm []] (.tuple []):=by
 refine Zaa hm 4 Tryz.func145 Zqo rfl rfl (by simp[Y7,AVal.closed,V3]) rfl fun K b=>?_
 have a:=b (.tuple []) ⟨[],1⟩ rfl;clear b;have w1:IntKind.i64.wrap (-1) = -1:=by decide
 simp[w00,w1];refine Q7 (α:=Unit) (fun _=>[(3,.int .i64 (-1)),(2,.int .i64 0)]) (fun _=>⟨[],1⟩) (fun _=>0) (fun _=>True) () [] (by simp[w1]) trivial ?_
 intro _ _ N c;simp;exact Y1 a [] (by simp)
theorem Z8b(f:Int):Ctr Tryz.prog 112 [.ptr 1 0 0] (dM1 f []) fun v m=>v=.imm []∧m=⟨(dM1 f []).bl,2⟩:=by
 refine E7 hm Tryz.func112 Zo9 rfl rfl fun K d=>?_
 have c:=d _ _ ⟨rfl,rfl⟩;clear d;have b:=c31e;have a:=Yc0;simp;refine U1 b ?_;simp;refine U1 a ?_;simp;refine Q7 (α:=Unit) (fun _=>[(16,.int .i64 0),(15,.int .i64 0),(3,.imm [])]) (fun _=>⟨[(1,dV0 f [])],2⟩) (fun _=>0) (fun _=>True) () [] (by simp) trivial ?_
 intro _ _ N e;simp;exact Y1 c [] (by simp)
theorem Z9e(f:Int):Ctr Tryz.prog 72 [.ptr 1 0 0] (dM1 f []) fun v m=>v=.agg [.int .i64 f,.nilSl]∧m=⟨(dM1 f []).bl,2⟩:=by
 refine E7 hm Tryz.func72 Zpc rfl rfl fun K w=>?_
 have l:=w _ _ ⟨rfl,rfl⟩;clear w;have c:=Z8b f;simp;refine Zfc c (by simp) [(1,1)] (by simp) (by simp[EqRB]) (by simp) (fun s=>by simp) (by simp) ?_
 simp[FT.indep];refine Q7 (α:=Nat) (fun i=>[(19,.int .i64 i),(18,.int .i64 2),(17,.sl 3 0 2),(3,.nilSl),(2,.ptr 2 0 0),(0,.ptr 1 0 0)]) (fun _=>⟨[(1,dV0 f []),(2,.cells 2 [[.int .i64 0,.nilSl]]),(3,.cells 1 [[.imm []],[.imm []]])],4⟩) (fun i=>2 - i) (fun i=>i≤2) 0 [(3,11)] (by simp) (by simp) ?_
 intro i hi N n
 try simp only at hi n ⊢
 by_cases u:i<2
 ·have o:([[.imm []],[.imm []]]:List (List AVal))[i]? = some [.imm []]:=by
   rcases (show i=0∨i=1 by omega)with rfl|rfl<;>rfl
  obtain⟨r,p⟩:=X5 o;have j:(i:Int)<2:=by omega
  have A:IntKind.i64.wrap ((i:Int)+1)=(i:Int)+1:=Z5 (by omega) (by omega)
  have e:=n (i+1) [];obtain⟨b,a⟩:∃ b:List (List AVal),b=[[.imm []],[.imm []]]:=⟨_,rfl⟩
  have k:b.length=2:=by rw[a]; rfl
  have d:∀ q,Z4 q b=b:=fun q=>by rw[a]; rfl
  have g:b[i]? = some [.imm []]:=by rw[a]; exact o
  obtain⟨y,h⟩:=X5 g;rw[← a]at e ⊢;clear o p r n;simp[u,j,g,h,k];refine Q7 (α:=Unit) (fun _=>[(25,.int .i64 0),(24,.int .i64 0),(19,.int .i64 i),(18,.int .i64 2),(17,.sl 3 0 2),(3,.nilSl),(2,.ptr 2 0 0),(0,.ptr 1 0 0)]) (fun _=>⟨[(1,dV0 f []),(2,.cells 2 [[.int .i64 0,.nilSl]]),(3,.cells 1 b)],4⟩) (fun _=>0) (fun _=>True) () [] (by simp[d]) trivial ?_
  intro _ _ B z;simp[A];exact e _ _ (by omega) (by omega) (by simp[d])
 ·have t:i=2:=by omega
  subst t;simp;exact Y1 l [] (by simp)
theorem c64e(f:Int)(g:W7 f []=0):PCall Tryz.prog 36 [cV f []] (.tuple [cV f [],.int .i64 0]):=by
 refine PCall.wk (v:=.tuple [.agg [.int .i64 f,.nilSl],.int .i64 0]) ?_ (Z59 ⟨Z3e ⟨Wk.refl _,Yft,trivial⟩,Wk.refl _,trivial⟩);refine Zaa hm 4 Tryz.func36 cf64 rfl rfl (by simp[Y7,AVal.closed,V3]) (by simp[AVal.closed,Y7]) fun K e=>?_
 have a:=Z9e f;have c:=c59 f [] (by simp)
 have d:=e (.tuple [.agg [.int .i64 f,.nilSl],.int .i64 0]) ⟨[],1⟩ rfl;clear e;unfold cV at *;simp;refine U9 c [] (by simp) (by simp) (by simp) ?_
 rintro r h (⟨b,_⟩|⟨_,_,_,_,rfl,rfl⟩|⟨_,b,_⟩)
 ·exact absurd g b
 ·simp;refine U9 a [(1,11)] (by simp) (by simp) (by simp) ?_
  rintro r h ⟨rfl,rfl⟩;simp;exact Y1 d [] (by simp)
 ·exact absurd rfl b
theorem c64v(f:Int)(ls:List Lt)(b:W7 f ls=0):PCall Tryz.prog 36 [cV f ls] (.tuple [cV f (T1 ls),.int .i64 0]):=by
 by_cases a:ls=[]
 ·subst a;exact c64e f b
 ·exact c64g f ls (Zdr b a) a
theorem Zvu{ls:List Lt}:(T1 ls).length≤ls.length:=by
 unfold T1;cases h:A1 ls with
 | none=>simp
 | some w=>
  have a:∀ w,H1 ls none ls.length=some w→w.length=ls.length:=fun w b=>Zkc rfl (fun w h=>by cases h) _ w b
  have:=Zkc (l:=T5 ls) (Zfq ls) a ls.length w h;simp[this]
set_option maxHeartbeats 2000000 in
theorem c34v(f g:Int)(a b:List Lt)(m:W7 f a=0)(n:W7 g b=0)(h:a.length≤1000)(i:b.length≤1000) :
 PCall Tryz.prog 14 [cV f a,cV g b] (.tuple [.bool (decide (f=g)&&decide (T1 a=T1 b)),.int .i64 0]):=by
 refine Zaa hm 4 Tryz.func14 cf34 rfl rfl (by simp[Y7,AVal.closed,Y5]) (by simp[AVal.closed,Y7]) fun K j=>?_
 have k:=c64v f a m;have l:=c64v g b n;have e:=c65 (T1 a) (T1 b) (Nat.le_trans Zvu h) (Nat.le_trans Zvu i);have c:=j (.tuple [.bool (decide (f=g)&&decide (T1 a=T1 b)),.int .i64 0]) ⟨[],1⟩ rfl;clear j;have o:∀ q,Z4 q (a.map rowL)=a.map rowL:=fun q=>X1 q _ (Y5 a)
 have p:∀ q,Z4 q (b.map rowL)=b.map rowL:=fun q=>X1 q _ (Y5 b)
 unfold cV at *;generalize a.map rowL=u at *;generalize b.map rowL=v at *;generalize (T1 a).map rowL=r at *;generalize (T1 b).map rowL=s at *;generalize decide (T1 a=T1 b)=t at *;simp;refine U1 k ?_;simp;refine U1 l ?_;by_cases d:f=g
 ·rw[decide_eq_true d,Bool.true_and]at c;simp[d];refine U1 e ?_;simp;exact Y1 c [] (by simp)
 ·rw[decide_eq_false d,Bool.false_and]at c;simp[d];exact Y1 c [] (by simp)
end Go.Known
end
section
namespace Go.Known
open Go.Plain
structure Sim (x y:List Lt) (δ:Nat→Nat) (φ:Int→Int) (b:Bool):Prop where
 lt:∀ d,d<2*x.length→δ d<2*x.length
 inj:∀ d d',d<2*x.length→d'<2*x.length→δ d=δ d'→d=d'
 bk:∀ d,d<2*x.length→δ (bkN d)=bkN (δ d)
 tn:∀ d,d<2*x.length→(ldN x d).k=2→tnN y (δ d)=δ (tnN x d)
 tlt:∀ d,d<2*x.length→(ldN x d).k=2→tnN x d<2*x.length∧(ldN x (bkN (tnN x d))).k=2
 k:∀ d,d<2*x.length→(ldN y (δ d)).k=(ldN x d).k
 i:∀ d,d<2*x.length→(ldN x d).k=2→(ldN x d).i=φ (ldN y (δ d)).i
 o:∀ d,d<2*x.length→(ldN x d).k=2→(ldN y (δ d)).o=((ldN x d).o != b)
 nx:∀ d,d<2*x.length→(ldN x d).k=2→(ldN x d).i≠0
 ny:∀ d,d<2*x.length→(ldN x d).k=2→(ldN y (δ d)).i≠0
 inn:∀ d d',d<2*x.length→d'<2*x.length→(ldN x d).k=2→(ldN x d').k=2→φ (ldN y (δ d)).i=φ (ldN y (δ d')).i→(ldN y (δ d)).i=(ldN y (δ d')).i
def flR(b:Bool)(r:Rw):Rw:=if r.1=2 then (r.1,r.2.1,r.2.2.1,r.2.2.2 != b)else r
structure SimF (x y:List Lt) (δ:Nat→Nat) (φ:Int→Int) (front:List Nat) (dx dy:List Int):Prop where
 lt:∀ d,d∈front→d<2*x.length
 dn:dx=dy.map φ
 src:∀ z,z∈dy → ∃ d,d<2*x.length∧(ldN x d).k=2∧(ldN y (δ d)).i=z
section
variable {x y:List Lt} {δ:Nat→Nat} {φ:Int→Int} {b:Bool} (h:Sim x y δ φ b)
include h
theorem Yf0{d a:Nat}(f:d<2*x.length)(b:a<2*x.length)(g:(ldN x d).k=2)(c:(ldN x a).k=2):(ldN x d).i=(ldN x a).i↔(ldN y (δ d)).i=(ldN y (δ a)).i:=by
 rw[h.i d f g,h.i a b c];exact⟨h.inn d a f b g c,fun e=>by rw[e]⟩
variable {front:List Nat} {dx dy:List Int} (hF:SimF x y δ φ front dx dy)
include hF
theorem Yfs{d:Nat}(a:d<2*x.length)(b:(ldN x d).k=2):(ldN x d).i∈dx↔(ldN y (δ d)).i∈dy:=by
 rw[hF.dn,h.i d a b];constructor
 ·intro hm;obtain⟨z,c,e⟩:=List.mem_map.1 hm;obtain⟨g,j,l,f⟩:=hF.src z c;rw[← f]at e;have:=h.inn g d j a l b e;rw[← this,f];exact c
 ·exact fun hm=>List.mem_map.2 ⟨_,hm,rfl⟩
theorem Z3q{d:Nat}(e:d<2*x.length):crN x dx d=0∧crN y dy (δ d)=0∨((ldN x d).k=2∧crN x dx d=(ldN x d).i∧crN y dy (δ d)=(ldN y (δ d)).i∧(ldN x d).i≠0∧(ldN y (δ d)).i≠0):=by
 unfold crN;rw[h.k d e];by_cases a:(ldN x d).k=2
 ·have:=Yfs h hF e a;by_cases hm:(ldN x d).i∈dx
  ·have b:=this.1 hm;exact .inl ⟨by rw[if_neg (fun c=>c.2 hm)],by rw[if_neg (fun c=>c.2 b)]⟩
  ·have b:(ldN y (δ d)).i∉dy:=fun c=>hm (this.2 c)
   exact .inr ⟨a,by rw[if_pos ⟨a,hm⟩],by rw[if_pos ⟨a,b⟩],h.nx d e a,h.ny d e a⟩
 ·exact .inl ⟨by rw[if_neg (fun c=>a c.1)],by rw[if_neg (fun c=>a c.1)]⟩
omit h in
theorem Zhf{j:Nat}(a:j<front.length):(front.map δ).getD j 0=δ (front.getD j 0)∧front.getD j 0<2*x.length:=by
 refine⟨?_,hF.lt _ (Zeo a)⟩;rw[List.getD,List.getD,List.getElem?_map,gE a];rfl
theorem Z5v{d j:Nat}(o:d<2*x.length)(q:(ldN x d).k=2)(p:j+1<front.length):okF y (ldN y (δ d)).i (front.map δ) (j+1)=okF x (ldN x d).i front (j+1):=by
 obtain⟨m,b⟩:=Zhf hF p;obtain⟨n,c⟩:=Zhf hF (show j<front.length by omega)
 unfold okF;rw[show j+1 - 1=j from rfl,m,n,h.k _ b]
 generalize front.getD (j+1) 0=u at *;generalize front.getD j 0=v at *;by_cases a:(ldN x u).k=2
 ·have f:=Yf0 h b o a q;have g:=h.tn u b a;have l:δ (tnN x u)=bkN (δ v)↔tnN x u=bkN v:=by
   rw[← h.bk v c];exact⟨h.inj _ _ (h.tlt u b a).1 (Zan c),fun e=>by rw[e]⟩
  rw[g];simp only[l,f]
 ·simp[a]
theorem Z4g{d:Nat}(f:d<2*x.length)(l:(ldN x d).k=2):∀ k j,front.length - (j+1)=k→H2 y (ldN y (δ d)).i (front.map δ) (j+1)=H2 x (ldN x d).i front (j+1):=by
 intro k
 induction k with
 | zero=>
  intro j g;rw[Zap (fun c=>by have:=c.1; rw[List.length_map]at this; omega),Zap (fun c=>by have:=c.1; omega)]
 | succ k m=>
  intro j g;have a:j+1<front.length:=by omega
  have e:=Z5v h hF f l a;by_cases b:okF x (ldN x d).i front (j+1)=true
  ·rw[Zgb a b,Zgb (by rw[List.length_map]; exact a) (by rw[e]; exact b),m (j+1) (by omega)]
  ·rw[Zap (fun c=>b c.2),Zap (fun c=>b (by rw[← e]; exact c.2))]
theorem Ye9(c:Nat){j:Nat}(f:j<front.length):U5 c y dy (front.map δ) j=U5 c x dx front j:=by
 obtain⟨e,d⟩:=Zhf hF f;unfold U5;rw[e];rcases Z3q h hF d with⟨a,b⟩|⟨g,a,b,n1,n2⟩
 ·rw[a,b,if_pos rfl,if_pos rfl]
 ·rw[a,b,if_neg n1,if_neg n2,Z4g h hF d g _ j rfl]
omit h hF in
theorem Zyr{p q:Nat→Bool}:∀ k j,(∀ i,j≤i→i<j+k→p i=q i)→J2 p k j=J2 q k j
 | 0,_,_=>rfl
 | k+1,j,h=>by
  simp only[J2];rw[h j (Nat.le_refl _) (by omega),Zyr k (j+1) (fun i a b=>h i (by omega) (by omega))]
theorem Z9n:P0 (front.map δ)=P0 front:=by
 unfold P0;rw[List.length_map];apply Zyr;intro i _ hi;obtain⟨b,d⟩:=Zhf hF (show i<front.length by omega)
 obtain⟨c,a⟩:=Zhf hF (show i+1<front.length by omega)
 unfold Ze2;rw[b,c,← h.bk _ a];have:δ (front.getD i 0)=δ (bkN (front.getD (i+1) 0))↔front.getD i 0=bkN (front.getD (i+1) 0):=⟨h.inj _ _ d (Zan a),fun e=>by rw[e]⟩
 simp only[this]
omit hF in
theorem Z02:∀ k d,d<2*x.length→(ldN x d).k=2→U0 y (δ d) k=(U0 x d k).map δ ∧ ∀ u,u∈U0 x d k→u<2*x.length
 | 0,_,_,_=>⟨rfl,fun u a=>by simp[U0]at a⟩
 | k+1,d,c,e=>by
  obtain⟨b,t2⟩:=h.tlt d c e;obtain⟨f,g⟩:=Z02 k (bkN (tnN x d)) (Zan b) t2;refine⟨?_,fun u a=>?_⟩
  ·simp only[U0,List.map_cons];rw[h.tn d c e,← h.bk _ b,f]
  ·rcases List.mem_cons.1 a with rfl|a
   ·exact b
   ·exact g u a
theorem Z42(c:Nat)(D:front≠[]):(S2 c x front dx=none→S2 c y (front.map δ) dy=none) ∧ ∀ r f dn,S2 c x front dx=some (r,f,dn) → ∃ l,S2 c y (front.map δ) dy=some (flR b r,f.map δ,l)∧SimF x y δ φ f dn l:=by
 have A:=Z9n h hF;have B:X3 (U5 c y dy (front.map δ)) (front.map δ).length=X3 (U5 c x dx front) front.length:=by
  rw[List.length_map];exact Zw1 _ fun j G=>Ye9 h hF c G
 have w:0<front.length:=List.length_pos_iff.2 D;unfold S2;rw[A,B,List.length_map];by_cases q:P0 front<front.length - 1
 ·rw[if_pos q,if_pos q];refine⟨fun e=>(by cases e),fun r f dn e=>?_⟩
  simp only[oI,pI2]at e;obtain⟨rfl,rfl,rfl⟩:=e;refine⟨dy,?_,⟨fun d p=>?_,hF.dn,hF.src⟩⟩
  ·rw[List.map_append,List.map_take,List.map_drop];rfl
  ·rcases List.mem_append.1 p with p|p
   ·exact hF.lt _ (List.mem_of_mem_take p)
   ·exact hF.lt _ (List.mem_of_mem_drop p)
 ·rw[if_neg q,if_neg q];by_cases m:(X3 (U5 c x dx front) front.length).2=0
  ·rw[if_pos m,if_pos m];exact⟨fun _=>rfl,fun r f dn e=>by cases e⟩
  ·rw[if_neg m,if_neg m];refine⟨fun e=>(by cases e),fun r f dn e=>?_⟩
   simp only[oI,pI2]at e;obtain⟨rfl,rfl,rfl⟩:=e;rcases Zfw (U5 c x dx front) front.length with⟨v,_,_⟩|⟨v,E,F⟩
   ·exact absurd v m
   ·obtain⟨s,J,K⟩:=Zh1 (c:=c) (ls:=x) (done:=dx) (front:=front) (i:=(X3 (U5 c x dx front) front.length).1) (by rw[F]; exact v)
    generalize (X3 (U5 c x dx front) front.length).1=a at *;generalize (X3 (U5 c x dx front) front.length).2=n at *;obtain⟨C,t⟩:=Zhf hF E;rw[C];generalize front.getD a 0=d at *;obtain⟨H,I⟩:=Z02 h (4 - n) d t s;refine⟨dy++[(ldN y (δ d)).i],?_,⟨fun u g=>?_,?_,fun z k=>?_⟩⟩
    ·rw[List.map_append,List.map_append,List.map_take,List.map_drop,H,h.o d t s];rfl
    ·rcases List.mem_append.1 g with g|g
     ·rcases List.mem_append.1 g with g|g
      ·exact hF.lt _ (List.mem_of_mem_take g)
      ·exact I _ g
     ·exact hF.lt _ (List.mem_of_mem_drop g)
    ·rw[List.map_append,← hF.dn,h.i d t s];rfl
    ·rcases List.mem_append.1 k with k|k
     ·exact hF.src z k
     ·rw[List.mem_singleton]at k;exact⟨d,t,s,k.symm⟩
end
theorem Z0r{x y:List Lt}{δ:Nat→Nat}{φ:Int→Int}{b:Bool}(h:Sim x y δ φ b)(c:Nat):∀ k front dx dy,SimF x y δ φ front dx dy→drF c y k (front.map δ) dy=(drF c x k front dx).map (flR b)
 | 0,_,_,_,_=>rfl
 | k+1,front,dx,dy,hF=>by
  simp only[drF];by_cases a:front=[]
  ·rw[if_pos a,if_pos (by rw[a]; rfl)]
   rfl
  ·obtain⟨l,m⟩:=Z42 h hF c a;rw[if_neg a,if_neg (fun e=>a (List.map_eq_nil_iff.1 e))]
   cases g:S2 c x front dx with
   | none=>rw[l g]; rfl
   | some w=>
    obtain⟨r,f,dn⟩:=w;obtain⟨d,i,j⟩:=m r f dn g;rw[i];simp only[List.map_cons];rw[Z0r h c k f dn d j]
theorem Z6u{x y:List Lt}{δ:Nat→Nat}{φ:Int→Int}{b:Bool}(h:Sim x y δ φ b)(c:Nat)(a:∀ d,d∈Y2 x→d<2*x.length)(g:Y2 y=(Y2 x).map δ)(j:Y9 y=Y9 x):X2 c y=(X2 c x).map (flR b):=by
 have e:muN y (Y2 y) []=muN x (Y2 x) []:=by
  unfold muN;rw[g,List.length_map]
  congr 2
  have f:∀ ls:List Lt,Z3 (fun l=>isX l && !([]:List Int).contains l.i) ls=Y9 ls:=fun ls=>by
   unfold Y9;exact R3 fun l _=>by simp
  rw[f,f,j]
 unfold X2;rw[e,g];exact Z0r h c _ _ _ _ ⟨a,rfl,fun z k=>by cases k⟩
end Go.Known
end
