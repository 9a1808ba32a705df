/- Part 35 of the proof: Za, Sj. -/
import Derived.Test.YtipeejpafgnjdaaGreatDoorH34
set_option linter.all false
section
namespace Go.Known
open Go.Plain
structure Sim (x y:List Lt) (δ:Nat→Nat) (φ:Int→Int) (b:Bool):Prop where
 lt:∀ d,d<2*x.length→δ d<2*x.length
 inj:∀ d d',d<2*x.length→d'<2*x.length→δ d=δ d'→d=d'
 bk:∀ d,d<2*x.length→δ (bkN d)=bkN (δ d)
 tn:∀ d,d<2*x.length→(ldN x d).k=2→tnN y (δ d)=δ (tnN x d)
 tlt:∀ d,d<2*x.length→(ldN x d).k=2→tnN x d<2*x.length∧(ldN x (bkN (tnN x d))).k=2
 k:∀ d,d<2*x.length→(ldN y (δ d)).k=(ldN x d).k
 i:∀ d,d<2*x.length→(ldN x d).k=2→(ldN x d).i=φ (ldN y (δ d)).i
 o:∀ d,d<2*x.length→(ldN x d).k=2→(ldN y (δ d)).o=((ldN x d).o != b)
 nx:∀ d,d<2*x.length→(ldN x d).k=2→(ldN x d).i≠0
 ny:∀ d,d<2*x.length→(ldN x d).k=2→(ldN y (δ d)).i≠0
 inn:∀ d d',d<2*x.length→d'<2*x.length→(ldN x d).k=2→(ldN x d').k=2→φ (ldN y (δ d)).i=φ (ldN y (δ d')).i→(ldN y (δ d)).i=(ldN y (δ d')).i
def flR(b:Bool)(r:Rw):Rw:=if r.1=2 then (r.1,r.2.1,r.2.2.1,r.2.2.2 != b)else r
structure SimF (x y:List Lt) (δ:Nat→Nat) (φ:Int→Int) (front:List Nat) (dx dy:List Int):Prop where
 lt:∀ d,d∈front→d<2*x.length
 dn:dx=dy.map φ
 src:∀ z,z∈dy → ∃ d,d<2*x.length∧(ldN x d).k=2∧(ldN y (δ d)).i=z
section
variable {x y:List Lt} {δ:Nat→Nat} {φ:Int→Int} {b:Bool} (h:Sim x y δ φ b)
include h
theorem Z0e{d d':Nat}(hd:d<2*x.length)(hd':d'<2*x.length)(hk:(ldN x d).k=2)(hk':(ldN x d').k=2):(ldN x d).i=(ldN x d').i↔(ldN y (δ d)).i=(ldN y (δ d')).i:=by
 rw[h.i d hd hk,h.i d' hd' hk'];exact⟨h.inn d d' hd hd' hk hk',fun e=>by rw[e]⟩
variable {front:List Nat} {dx dy:List Int} (hF:SimF x y δ φ front dx dy)
include hF
theorem Z36{d:Nat}(hd:d<2*x.length)(hk:(ldN x d).k=2):(ldN x d).i∈dx↔(ldN y (δ d)).i∈dy:=by
 rw[hF.dn,h.i d hd hk];constructor
 ·intro hm;obtain⟨z,hz,e⟩:=List.mem_map.1 hm;obtain⟨d',q1,q2,q3⟩:=hF.src z hz;rw[← q3]at e;have:=h.inn d' d q1 hd q2 hk e;rw[← this,q3];exact hz
 ·exact fun hm=>List.mem_map.2 ⟨_,hm,rfl⟩
theorem Z2m{d:Nat}(hd:d<2*x.length):crN x dx d=0∧crN y dy (δ d)=0∨((ldN x d).k=2∧crN x dx d=(ldN x d).i∧crN y dy (δ d)=(ldN y (δ d)).i∧(ldN x d).i≠0∧(ldN y (δ d)).i≠0):=by
 unfold crN;rw[h.k d hd];by_cases hk:(ldN x d).k=2
 ·have:=Z36 h hF hd hk;by_cases hm:(ldN x d).i∈dx
  ·have hm':=this.1 hm;exact .inl ⟨by rw[if_neg (fun c=>c.2 hm)],by rw[if_neg (fun c=>c.2 hm')]⟩
  ·have hm':(ldN y (δ d)).i∉dy:=fun c=>hm (this.2 c)
   exact .inr ⟨hk,by rw[if_pos ⟨hk,hm⟩],by rw[if_pos ⟨hk,hm'⟩],h.nx d hd hk,h.ny d hd hk⟩
 ·exact .inl ⟨by rw[if_neg (fun c=>hk c.1)],by rw[if_neg (fun c=>hk c.1)]⟩
omit h in
theorem Zgv{j:Nat}(hj:j<front.length):(front.map δ).getD j 0=δ (front.getD j 0)∧front.getD j 0<2*x.length:=by
 refine⟨?_,hF.lt _ (Zip hj)⟩;rw[List.getD,List.getD,List.getElem?_map,gE hj];rfl
theorem Ydm{d j:Nat}(hd:d<2*x.length)(hk:(ldN x d).k=2)(hj:j+1<front.length):okF y (ldN y (δ d)).i (front.map δ) (j+1)=okF x (ldN x d).i front (j+1):=by
 obtain⟨g1,l1⟩:=Zgv hF hj;obtain⟨g2,l2⟩:=Zgv hF (show j<front.length by omega)
 unfold okF;rw[show j+1 - 1=j from rfl,g1,g2,h.k _ l1]
 generalize front.getD (j+1) 0=u at *;generalize front.getD j 0=v at *;by_cases hu:(ldN x u).k=2
 ·have e1:=Z0e h l1 hd hu hk;have e2:=h.tn u l1 hu;have e3:δ (tnN x u)=bkN (δ v)↔tnN x u=bkN v:=by
   rw[← h.bk v l2];exact⟨h.inj _ _ (h.tlt u l1 hu).1 (Zmf l2),fun e=>by rw[e]⟩
  rw[e2];simp only[e3,e1]
 ·simp[hu]
theorem Yei{d:Nat}(hd:d<2*x.length)(hk:(ldN x d).k=2):∀ k j,front.length - (j+1)=k→D0 y (ldN y (δ d)).i (front.map δ) (j+1)=D0 x (ldN x d).i front (j+1):=by
 intro k
 induction k with
 | zero=>
  intro j hj;rw[Zau (fun c=>by have:=c.1; rw[List.length_map]at this; omega),Zau (fun c=>by have:=c.1; omega)]
 | succ k ih=>
  intro j hj;have hlt:j+1<front.length:=by omega
  have e:=Ydm h hF hd hk hlt;by_cases hy:okF x (ldN x d).i front (j+1)=true
  ·rw[Zf7 hlt hy,Zf7 (by rw[List.length_map]; exact hlt) (by rw[e]; exact hy),ih (j+1) (by omega)]
  ·rw[Zau (fun c=>hy c.2),Zau (fun c=>hy (by rw[← e]; exact c.2))]
theorem Z5b(c:Nat){j:Nat}(hj:j<front.length):S2 c y dy (front.map δ) j=S2 c x dx front j:=by
 obtain⟨g1,l1⟩:=Zgv hF hj;unfold S2;rw[g1];rcases Z2m h hF l1 with⟨e1,e2⟩|⟨hk,e1,e2,n1,n2⟩
 ·rw[e1,e2,if_pos rfl,if_pos rfl]
 ·rw[e1,e2,if_neg n1,if_neg n2,Yei h hF l1 hk _ j rfl]
omit h hF in
theorem Ztm{p q:Nat→Bool}:∀ k j,(∀ i,j≤i→i<j+k→p i=q i)→C9 p k j=C9 q k j
 | 0,_,_=>rfl
 | k+1,j,h=>by
  simp only[C9];rw[h j (Nat.le_refl _) (by omega),Ztm k (j+1) (fun i h1 h2=>h i (by omega) (by omega))]
theorem Ye4:D5 (front.map δ)=D5 front:=by
 unfold D5;rw[List.length_map];apply Ztm;intro i _ hi;obtain⟨g1,l1⟩:=Zgv hF (show i<front.length by omega)
 obtain⟨g2,l2⟩:=Zgv hF (show i+1<front.length by omega)
 unfold Zni;rw[g1,g2,← h.bk _ l2];have:δ (front.getD i 0)=δ (bkN (front.getD (i+1) 0))↔front.getD i 0=bkN (front.getD (i+1) 0):=⟨h.inj _ _ l1 (Zmf l2),fun e=>by rw[e]⟩
 simp only[this]
omit hF in
theorem Zvb:∀ k d,d<2*x.length→(ldN x d).k=2→U7 y (δ d) k=(U7 x d k).map δ ∧ ∀ u,u∈U7 x d k→u<2*x.length
 | 0,_,_,_=>⟨rfl,fun u hu=>by simp[U7]at hu⟩
 | k+1,d,hd,hk=>by
  obtain⟨t1,t2⟩:=h.tlt d hd hk;obtain⟨i1,i2⟩:=Zvb k (bkN (tnN x d)) (Zmf t1) t2;refine⟨?_,fun u hu=>?_⟩
  ·simp only[U7,List.map_cons];rw[h.tn d hd hk,← h.bk _ t1,i1]
  ·rcases List.mem_cons.1 hu with rfl|hu
   ·exact t1
   ·exact i2 u hu
theorem Yan(c:Nat)(h0:front≠[]):(D1 c x front dx=none→D1 c y (front.map δ) dy=none) ∧ ∀ r f dn,D1 c x front dx=some (r,f,dn) → ∃ dn',D1 c y (front.map δ) dy=some (flR b r,f.map δ,dn')∧SimF x y δ φ f dn dn':=by
 have e1:=Ye4 h hF;have e2:X5 (S2 c y dy (front.map δ)) (front.map δ).length=X5 (S2 c x dx front) front.length:=by
  rw[List.length_map];exact Zx4 _ fun j hj=>Z5b h hF c hj
 have hpos:0<front.length:=List.length_pos_iff.2 h0;unfold D1;rw[e1,e2,List.length_map];by_cases hc:D5 front<front.length - 1
 ·rw[if_pos hc,if_pos hc];refine⟨fun e=>(by cases e),fun r f dn e=>?_⟩
  simp only[oI,pI2]at e;obtain⟨rfl,rfl,rfl⟩:=e;refine⟨dy,?_,⟨fun d hd=>?_,hF.dn,hF.src⟩⟩
  ·rw[List.map_append,List.map_take,List.map_drop];rfl
  ·rcases List.mem_append.1 hd with hd|hd
   ·exact hF.lt _ (List.mem_of_mem_take hd)
   ·exact hF.lt _ (List.mem_of_mem_drop hd)
 ·rw[if_neg hc,if_neg hc];by_cases hb:(X5 (S2 c x dx front) front.length).2=0
  ·rw[if_pos hb,if_pos hb];exact⟨fun _=>rfl,fun r f dn e=>by cases e⟩
  ·rw[if_neg hb,if_neg hb];refine⟨fun e=>(by cases e),fun r f dn e=>?_⟩
   simp only[oI,pI2]at e;obtain⟨rfl,rfl,rfl⟩:=e;rcases Zhu (S2 c x dx front) front.length with⟨h1,_,_⟩|⟨h1,h2,h3⟩
   ·exact absurd h1 hb
   ·obtain⟨k1,k2,k3⟩:=Zns (c:=c) (ls:=x) (done:=dx) (front:=front) (i:=(X5 (S2 c x dx front) front.length).1) (by rw[h3]; exact h1)
    generalize (X5 (S2 c x dx front) front.length).1=a at *;generalize (X5 (S2 c x dx front) front.length).2=n at *;obtain⟨g1,l1⟩:=Zgv hF h2;rw[g1];generalize front.getD a 0=d at *;obtain⟨o1,o2⟩:=Zvb h (4 - n) d l1 k1;refine⟨dy++[(ldN y (δ d)).i],?_,⟨fun u hu=>?_,?_,fun z hz=>?_⟩⟩
    ·rw[List.map_append,List.map_append,List.map_take,List.map_drop,o1,h.o d l1 k1];rfl
    ·rcases List.mem_append.1 hu with hu|hu
     ·rcases List.mem_append.1 hu with hu|hu
      ·exact hF.lt _ (List.mem_of_mem_take hu)
      ·exact o2 _ hu
     ·exact hF.lt _ (List.mem_of_mem_drop hu)
    ·rw[List.map_append,← hF.dn,h.i d l1 k1];rfl
    ·rcases List.mem_append.1 hz with hz|hz
     ·exact hF.src z hz
     ·rw[List.mem_singleton]at hz;exact⟨d,l1,k1,hz.symm⟩
end
theorem Zw2{x y:List Lt}{δ:Nat→Nat}{φ:Int→Int}{b:Bool}(h:Sim x y δ φ b)(c:Nat):∀ k front dx dy,SimF x y δ φ front dx dy→drF c y k (front.map δ) dy=(drF c x k front dx).map (flR b)
 | 0,_,_,_,_=>rfl
 | k+1,front,dx,dy,hF=>by
  simp only[drF];by_cases h0:front=[]
  ·rw[if_pos h0,if_pos (by rw[h0]; rfl)]
   rfl
  ·obtain⟨s1,s2⟩:=Yan h hF c h0;rw[if_neg h0,if_neg (fun e=>h0 (List.map_eq_nil_iff.1 e))]
   cases hs:D1 c x front dx with
   | none=>rw[s1 hs]; rfl
   | some w=>
    obtain⟨r,f,dn⟩:=w;obtain⟨dn',e1,e2⟩:=s2 r f dn hs;rw[e1];simp only[List.map_cons];rw[Zw2 h c k f dn dn' e2]
theorem Zvk{x y:List Lt}{δ:Nat→Nat}{φ:Int→Int}{b:Bool}(h:Sim x y δ φ b)(c:Nat)(hlt:∀ d,d∈T2 x→d<2*x.length)(hf:T2 y=(T2 x).map δ)(hv:Y7 y=Y7 x):X1 c y=(X1 c x).map (flR b):=by
 have e:muN y (T2 y) []=muN x (T2 x) []:=by
  unfold muN;rw[hf,List.length_map]
  congr 2
  have e3:∀ ls:List Lt,Z4 (fun l=>isX l && !([]:List Int).contains l.i) ls=Y7 ls:=fun ls=>by
   unfold Y7;exact T0 fun l _=>by simp
  rw[e3,e3,hv]
 unfold X1;rw[e,hf];exact Zw2 h c _ _ _ _ ⟨hlt,rfl,fun z hz=>by cases hz⟩
end Go.Known
end
section
namespace Go.AE
open Go.RowKit
variable {P:Program}
def Wk(v v':AVal):Prop:=∀ (Φ:Pers) (ρ:Rho) (u:Value),R Φ ρ v u→R Φ ρ v' u
def WkL:List AVal→List AVal→Prop
 | [],[]=>True
 | x :: r,y :: s=>Wk x y∧WkL r s
 | _,_=>False
theorem Wk.refl(v:AVal):Wk v v:=fun _ _ _ h=>h
theorem Z2t:Wk .nilSl (.imm []):=fun Φ ρ u h=>Zpk Φ ρ u h Φ ρ
theorem Zpx:∀ {xs ys:List AVal},WkL xs ys→xs.length=ys.length ∧ ∀(i:Nat) (y:AVal),ys[i]? = some y → ∃ x,xs[i]? = some x∧Wk x y
 | [],[],_=>⟨rfl,fun i y h=>by simp at h⟩
 | [],_ :: _,h=>h.elim
 | _ :: _,[],h=>h.elim
 | x :: r,y :: s,h=>by
  obtain⟨h1,h2⟩:=Zpx h.2;refine⟨by simp[h1],fun i z hz=>?_⟩
  cases i with
  | zero=>cases hz; exact⟨x,rfl,h.1⟩
  | succ i=>exact h2 i z (by simpa using hz)
theorem Z48{xs ys:List AVal}(h:WkL xs ys):Wk (.agg xs) (.agg ys):=fun Φ ρ u hu=>by
 obtain⟨h1,h2⟩:=Zpx h;cases hu with
 | agg cs vs hs hr=>
  refine .agg _ _ (by rw[hs,h1]) fun i y v hy hv=>?_
  obtain⟨x,hx,hw⟩:=h2 i y hy;exact hw _ _ _ (hr i x v hx hv)
theorem Z8a{xs ys:List AVal}(h:WkL xs ys):Wk (.tuple xs) (.tuple ys):=fun Φ ρ u hu=>by
 obtain⟨h1,h2⟩:=Zpx h;cases hu with
 | tuple cs vs hs hr=>
  refine .tuple _ _ (by rw[hs,h1]) fun i y v hy hv=>?_
  obtain⟨x,hx,hw⟩:=h2 i y hy;exact hw _ _ _ (hr i x v hx hv)
theorem PCall.wk{g:FuncId}{args:List AVal}{v v':AVal}(h:PCall P g args v)(hv:Wk v v'):PCall P g args v':=by
 intro m av;refine⟨(h m av).1,fun W Φ ρ vs w hr ha hav=>((h m av).2 W Φ ρ vs w hr ha hav).mono fun e w' he=>?_⟩
 obtain⟨u,r,m',Φ',ρ',e1,hE,hk,hr',hR,hn,rfl,rfl⟩:=he;exact⟨u,_,_,Φ',ρ',e1,hE,hk,hr',hv _ _ _ hR,hn,rfl,rfl⟩
end Go.AE
namespace Go.Known
open Go Go.AE Go.Proofs
open Go.Plain
theorem Zvu{ls:List Lt}(h0:ls≠[])(hf:isP (at' ls 0)=true):Za9 ls=some (I9 ls):=by
 have hlp:0<ls.length:=List.length_pos_iff.2 h0;have h1:I1 ls none ls.length≠none:=by
  obtain⟨k,hk⟩:∃ k,ls.length=k+1:=⟨ls.length - 1,by omega⟩
  rw[hk];have:∀ k,I1 ls none (k+1)≠none:=by
   intro k
   induction k with
   | zero=>
    have hd:down ls 0=true:=rfl;simp[I1,Zcj,hf,hd]
   | succ k ih=>exact Zzp ih
  exact this k
 have h2:=Zsw (l:=U4 ls) h1 ls.length;unfold I9 Za9;cases h:I1 (U4 ls) (I1 ls none ls.length) ls.length with
 | none=>exact absurd h h2
 | some w=>rfl
set_option maxHeartbeats 2000000 in
theorem c64g(f:Int)(ls:List Lt)(hv:ValR f ls)(h0:ls≠[]):PCall Tryz.prog 30 [cV f ls] (.tuple [cV f (I9 ls),.int .i64 0]):=by
 refine J9 hm 4 Tryz.func30 cf64 rfl rfl (by simp[Y0,AVal.closed,Z9]) (by simp[AVal.closed,Y0,Z9]) fun K hK=>?_
 have hl:ls.length≤1000:=by have:=hv.len; omega
 have hfst:isP (at' ls 0)=true:=by simp[isP,hv.fst]
 have h109:=fun F=>c109 F ls (crE ls ls.length) hl (hv.bk h0) hfst
 rw[Zvu h0 hfst]at h109;simp only[lsV]at h109;have h59:=c59 f ls hl;have he:=hv.to;have hrr:∀ q,Z3 q (ls.map rowL)=ls.map rowL:=fun q=>Y6 q _ (Z9 ls)
 have hLr:∀ q,Z3 q ((I9 ls).map rowL)=(I9 ls).map rowL:=fun q=>Y6 q _ (Z9 _)
 have hKv:=hK (.tuple [cV f (I9 ls),.int .i64 0]) ⟨[],1⟩ (Zfp f _);clear hK;unfold cV dF dM dV2 at *;generalize ls.map rowL=rows at *;generalize (I9 ls).map rowL=LR at *;generalize hBe:bls (X2 ls.length ls.length (V0 ls) false)=B at *;generalize hCe:Z0 (X2 ls.length ls.length (S6 ls) 0)=C at *;generalize hAe:Z0 (Z2 ls)=A at *;have hrA:∀ q,Z3 q A=A:=fun q=>by rw[← hAe]; exact Z5 q _
 have hrB:∀ q,Z3 q B=B:=fun q=>by rw[← hBe]; exact X7 q _
 have hrC:∀ q,Z3 q C=C:=fun q=>by rw[← hCe]; exact Z5 q _
 clear hBe hCe hAe;generalize (Z2 ls).length=m at *;generalize crE ls ls.length=E at *;simp;refine U6 h59 [] (by simp[hrr]) (by simp) (by simp) ?_
 rintro r sm (⟨h1,_⟩|⟨_,h1,_⟩|⟨_,_,hf0,hf1,_,rfl,rfl⟩)
 ·exact absurd he h1
 ·exact absurd h1 h0
 obtain⟨F,hF⟩:∃ F:Nat,f=(F:Int):=⟨f.toNat,by omega⟩
 subst hF;have h109':=h109 F;simp[hrr,hrA,hrB,hrC,Z7,Z5];refine U6 h109' [(1,11),(2,12),(3,13),(4,14),(5,15),(6,16)] (by simp) (by simp[hrr,hrA,hrB,hrC,Z7,Z5]) (by simp) ?_
 rintro r sm ⟨rfl,rfl⟩;simp[hrr,hrA,hrB,hrC,Z7,Z5,hLr];exact Y1 hKv [] (by simp[hLr])
theorem Z07:PCall Tryz.prog 117 [.imm []] (.tuple []):=by
 refine J9 hm 4 Tryz.func117 Zoq rfl rfl (by simp[Y0,AVal.closed,X8]) rfl fun K hK=>?_
 have hK':=hK (.tuple []) ⟨[],1⟩ rfl;clear hK;have w1:IntKind.i64.wrap (-1) = -1:=by decide
 simp[w00,w1];refine T1 (α:=Unit) (fun _=>[(3,.int .i64 (-1)),(2,.int .i64 0)]) (fun _=>⟨[],1⟩) (fun _=>0) (fun _=>True) () [] (by simp[w1]) trivial ?_
 intro _ _ N hN;simp;exact Y1 hK' [] (by simp)
theorem Zxe(f:Int):Ctr Tryz.prog 72 [.ptr 1 0 0] (dM1 f []) fun v m=>v=.imm []∧m=⟨(dM1 f []).bl,2⟩:=by
 refine J7 hm Tryz.func72 Zo0 rfl rfl fun K hK=>?_
 have hK':=hK _ _ ⟨rfl,rfl⟩;clear hK;have h31:=c31e;have h169:=Z07;simp;refine W3 h31 ?_;simp;refine W3 h169 ?_;simp;refine T1 (α:=Unit) (fun _=>[(16,.int .i64 0),(15,.int .i64 0),(3,.imm [])]) (fun _=>⟨[(1,dV0 f [])],2⟩) (fun _=>0) (fun _=>True) () [] (by simp) trivial ?_
 intro _ _ N hN;simp;exact Y1 hK' [] (by simp)
theorem Z8d(f:Int):Ctr Tryz.prog 74 [.ptr 1 0 0] (dM1 f []) fun v m=>v=.agg [.int .i64 f,.nilSl]∧m=⟨(dM1 f []).bl,2⟩:=by
 refine J7 hm Tryz.func74 Zou rfl rfl fun K hK=>?_
 have hK':=hK _ _ ⟨rfl,rfl⟩;clear hK;have h139:=Zxe f;simp;refine Zea h139 (by simp) [(1,1)] (by simp) (by simp[EqRB]) (by simp) (fun s=>by simp) (by simp) ?_
 simp[FT.indep];refine T1 (α:=Nat) (fun i=>[(19,.int .i64 i),(18,.int .i64 2),(17,.sl 3 0 2),(3,.nilSl),(2,.ptr 2 0 0),(0,.ptr 1 0 0)]) (fun _=>⟨[(1,dV0 f []),(2,.cells 2 [[.int .i64 0,.nilSl]]),(3,.cells 1 [[.imm []],[.imm []]])],4⟩) (fun i=>2 - i) (fun i=>i≤2) 0 [(3,11)] (by simp) (by simp) ?_
 intro i hi N hN
 try simp only at hi hN ⊢
 by_cases hlt:i<2
 ·have hb:([[.imm []],[.imm []]]:List (List AVal))[i]? = some [.imm []]:=by
   rcases (show i=0∨i=1 by omega)with rfl|rfl<;>rfl
  obtain⟨hbl,hb2⟩:=Y9 hb;have hlt':(i:Int)<2:=by omega
  have hw:IntKind.i64.wrap ((i:Int)+1)=(i:Int)+1:=Z6 (by omega) (by omega)
  have hN':=hN (i+1) [];obtain⟨BK,hBK⟩:∃ BK:List (List AVal),BK=[[.imm []],[.imm []]]:=⟨_,rfl⟩
  have hBl:BK.length=2:=by rw[hBK]; rfl
  have hBr:∀ q,Z3 q BK=BK:=fun q=>by rw[hBK]; rfl
  have hb':BK[i]? = some [.imm []]:=by rw[hBK]; exact hb
  obtain⟨hbl',hb2'⟩:=Y9 hb';rw[← hBK]at hN' ⊢;clear hb hb2 hbl hN;simp[hlt,hlt',hb',hb2',hBl];refine T1 (α:=Unit) (fun _=>[(25,.int .i64 0),(24,.int .i64 0),(19,.int .i64 i),(18,.int .i64 2),(17,.sl 3 0 2),(3,.nilSl),(2,.ptr 2 0 0),(0,.ptr 1 0 0)]) (fun _=>⟨[(1,dV0 f []),(2,.cells 2 [[.int .i64 0,.nilSl]]),(3,.cells 1 BK)],4⟩) (fun _=>0) (fun _=>True) () [] (by simp[hBr]) trivial ?_
  intro _ _ N2 hN2;simp[hw];exact hN' _ _ (by omega) (by omega) (by simp[hBr])
 ·have hie:i=2:=by omega
  subst hie;simp;exact Y1 hK' [] (by simp)
theorem c64e(f:Int)(he:W4 f []=0):PCall Tryz.prog 30 [cV f []] (.tuple [cV f [],.int .i64 0]):=by
 refine PCall.wk (v:=.tuple [.agg [.int .i64 f,.nilSl],.int .i64 0]) ?_ (Z8a ⟨Z48 ⟨Wk.refl _,Z2t,trivial⟩,Wk.refl _,trivial⟩);refine J9 hm 4 Tryz.func30 cf64 rfl rfl (by simp[Y0,AVal.closed,X8]) (by simp[AVal.closed,Y0]) fun K hK=>?_
 have h109:=Z8d f;have h59:=c59 f [] (by simp)
 have hKv:=hK (.tuple [.agg [.int .i64 f,.nilSl],.int .i64 0]) ⟨[],1⟩ rfl;clear hK;unfold cV at *;simp;refine U6 h59 [] (by simp) (by simp) (by simp) ?_
 rintro r sm (⟨h1,_⟩|⟨_,_,_,_,rfl,rfl⟩|⟨_,h1,_⟩)
 ·exact absurd he h1
 ·simp;refine U6 h109 [(1,11)] (by simp) (by simp) (by simp) ?_
  rintro r sm ⟨rfl,rfl⟩;simp;exact Y1 hKv [] (by simp)
 ·exact absurd rfl h1
theorem c64v(f:Int)(ls:List Lt)(he:W4 f ls=0):PCall Tryz.prog 30 [cV f ls] (.tuple [cV f (I9 ls),.int .i64 0]):=by
 by_cases h0:ls=[]
 ·subst h0;exact c64e f he
 ·exact c64g f ls (Zaz he h0) h0
end Go.Known
end
