/- Part 23 -/
import Derived.Test.YtilmpmlkndfbjaaGreatDoorT21
import Derived.Shelf.SlSortCmp.NoneTotal
import Derived.Test.YtilmpmlkndfbjaaGreatDoorProg
set_option linter.all false
set_option maxRecDepth 100000
set_option maxHeartbeats 16000000
open Go.Proofs.Tryz (prog)
namespace Go.Ad
open Go.Plain Go Go.AE Go.Proofs
theorem US(p:Lt->Bool)(ls:List Lt):∃L:List Nat,L.Nodup/\Z4 p ls=L.length /\ ∀x,x∈L↔(x<ls.length/\p (at' ls x)=true):=
 ⟨(List.range ls.length).filter λj=>p (at' ls j),List.nodup_range.filter _,(fA ls p).symm,λx=>by simp⟩
theorem Zzn{p:Lt->Bool}{ls:List Lt}{j:Nat}(c:j<ls.length)(e:p (at' ls j)=true)(f:∀x,x<ls.length->p (at' ls x)=true->x=j):Z4 p ls=1:=by
 obtain⟨L,b,d,hm⟩:=US p ls;rw[d];have a:=(hm j).2 ⟨c,e⟩
 match L,b,hm,a with
 |[],_,_,h=>simp at h
 |[_],_,_,_=>rfl
 |y::z::t,b,hm,_=>
  have g:=(hm y).1 (by simp);have i:=(hm z).1 (by simp);grind
theorem Yaj{p:Lt->Bool}{ls:List Lt}(h:Z4 p ls=1){j k:Nat}(e:j<ls.length)(d:p (at' ls j)=true)(f:k<ls.length)(c:p (at' ls k)=true):j=k:=by
 obtain⟨L,i,g,hm⟩:=US p ls;rw[g]at h;have a:=(hm j).2 ⟨e,d⟩;have b:=(hm k).2 ⟨f,c⟩
 match L,h,a,b with
 |[y],_,a,b=>simp at a b;omega
theorem Ygu{p:Lt->Bool}{ls:List Lt}(h:0<Z4 p ls):∃j,j<ls.length/\p (at' ls j)=true:=by
 obtain⟨L,b,a,hm⟩:=US p ls;rw[a]at h
 match L,h,hm with
 |y::t,_,hm=>exact ⟨y,(hm y).1 (by simp)⟩
theorem Z78{p:Lt->Bool}{ls:List Lt}{a b:Nat}(k:a<ls.length)(e:p (at' ls a)=true)(m:b<ls.length)(f:p (at' ls b)=true)(l:a≠b)(o:∀x,x<ls.length->p (at' ls x)=true->x=a\/x=b):Z4 p ls=2:=by
 obtain⟨L,g,n,hm⟩:=US p ls;rw[n];have c:=(hm a).2 ⟨k,e⟩;have d:=(hm b).2 ⟨m,f⟩
 match L,g,hm,c,d with
 |[],_,_,h,_=>simp at h
 |[y],_,_,i,j=>simp at i j;omega
 |[_,_],_,_,_,_=>rfl
 |x::y::z::t,g,hm,_,_=>
  have q:=(hm x).1 (by simp);have r:=(hm y).1 (by simp);have s:=(hm z).1 (by simp);grind
theorem Ykg{p:Lt->Bool}{ls:List Lt}(h:Z4 p ls=2){a b x:Nat}(m:a<ls.length)(e:p (at' ls a)=true)(o:b<ls.length)(f:p (at' ls b)=true)(n:a≠b)(r:x<ls.length)(g:p (at' ls x)=true):x=a\/x=b:=by
 obtain⟨L,s,q,hm⟩:=US p ls;rw[q]at h;have c:=(hm a).2 ⟨m,e⟩;have d:=(hm b).2 ⟨o,f⟩;have i:=(hm x).2 ⟨r,g⟩
 match L,h,c,d,i with
 |[y,z],_,j,k,l=>simp at j k l;omega
theorem Ylb{p:Lt->Bool}{ls:List Lt}(h:Z4 p ls=2){a:Nat}(f:a<ls.length)(d:p (at' ls a)=true):∃b,b<ls.length/\p (at' ls b)=true/\a≠b:=by
 obtain⟨L,e,g,hm⟩:=US p ls;rw[g]at h;have c:=(hm a).2 ⟨f,d⟩
 match L,h,e,hm,c with
 |[y,z],_,e,hm,i=>
  have j:=(hm y).1 (by simp);have k:=(hm z).1 (by simp);grind
theorem Yl4{F:Nat}{ls:List Lt}(j:Lc F ls){a b:Lt}(n:a∈ls)(p:b∈ls)(e:As a=true)(f:As b=true)(o:1<=a.r)(d:a.r<=(Bl a.g ls:Nat))(q:1<=b.r)(m:b.r<=(Bl b.g ls:Nat))(h:pos ls a=pos ls b):a.g=b.g/\a.r=b.r:=by
 obtain⟨G,k⟩:∃G:Nat,a.g=(G:Nat):=⟨a.g.toNat,by have:=j a n e;omega⟩;obtain⟨H,l⟩:∃H:Nat,b.g=(H:Nat):=⟨b.g.toNat,by have:=j b p f;omega⟩;rw[aZ k,aZ l]at h;rw[k]at d;rw[l]at m;have mono:∀x y,x<=y->tot ls x<=tot ls y:=λx y i=>by
  induction i with
  |refl=>exact lR _
  |step _ u=>rw[Xx];omega
 have s:=Xx ls G;have t:=Xx ls H;rcases Nat.lt_trichotomy G H with c|c|c
 ·have:=mono (G+1) H c;omega
 ·subst c;omega
 grind
theorem si(ls:List Lt):∀i q e,(Bf ls i)[q]?=some e->Dz e.1 (Bf ls i)=some (q,e.2)
 |0,q,e,h=>by simp[Bf]at h
 |i+1,q,e,h=>by
  have g:=si ls i;simp only[Bf]at h ⊢;split at h
  ·rename_i k;rw[iP k];unfold Fu at h ⊢;cases b:Dz (at' ls i).i (Bf ls i)with
   |some l=>
    obtain⟨p,v⟩:=l;rw[b]at h;simp only at h ⊢;rw[List.getElem?_set]at h;split at h
    ·rename_i c;split at h
     ·cases h;subst c;rw[bY b,iP rfl]
     cases h
    rename_i c;have a:=g q e h;rw[bY b,iN (λd=>by rw[d,b]at a;cases a;exact c rfl)];exact a
   |none=>
    rw[b]at h;simp only at h ⊢;rw[qN b];rw[List.getElem?_append]at h;split at h
    ·have a:=g q e h;rw[iN (λd=>by rw[d,b]at a;cases a)];exact a
    rename_i j;obtain⟨a,f⟩:=gS.1 h;simp at a f;subst f;rw[iP rfl];have:q=(Bf ls i).length:=by omega
    rw[this]
  grind
theorem Yd5{ls:List Lt}{l:Lt}(h:l∈ls):∃j,j<ls.length/\at' ls j=l:=by
 obtain⟨j,a,b⟩:=List.getElem_of_mem h;exact⟨j,a,by rw[at',List.getD,gE a,b];rfl⟩
theorem lJ{F:Nat}{ls:List Lt}(h:ls.all (BQ F ls)=true):ls.all (DR F)=true/\EI ls (Z0 ls) ls.length=true/\HY ls:=by
 have hl:∀l,l∈ls->BQ F ls l=true:=List.all_eq_true.1 h;have hC:ls.all (DR F)=true:=List.all_eq_true.2 λl hm=>by
  have:=hl l hm;unfold BQ at this;unfold DR;grind
 have hG:=UD hC;have hP:∀v,v<ls.length->As (at' ls v)=true->1<=(at' ls v).r/\(at' ls v).r<=(Bl (at' ls v).g ls:Nat)/\same (at' ls v) ls=1:=λv B w=>by
  have:=hl _ (P4 B);simp only[As,beq_iff_eq]at w;unfold BQ at this;grind
 have Y:∀v,v<ls.length->AO (at' ls v)=true->1<=(at' ls v).i/\(at' ls v).i<=(X6 ls / 2:Nat)/\JV (at' ls v) ls=1/\J8 (at' ls v).i ls=2:=λv B w=>by
  have:=hl _ (P4 B);simp only[AO,beq_iff_eq]at w;unfold BQ at this;grind
 have ac:∀i,i<=ls.length->EI ls (Z0 ls) i=true:=by
  intro i;induction i with
  |zero=>exact λ_=>rfl
  |succ i P=>
   intro hi;have U:=P (by omega);simp only[EI,bA,Bool.or_eq_true,Bool.not_eq_true',decide_eq_true_eq];refine⟨U,?_⟩;cases w:As (at' ls i)with
   |false=>exact .inl rfl
   |true=>
    right;obtain⟨S,T,r3⟩:=hP i (by omega) w;refine⟨⟨S,T⟩,?_⟩;have K:=P4 (show i<ls.length by omega);obtain⟨b,hb,J⟩:=jK (ls:=ls) (m:=Z0 ls) i _ (aF hG K w S T);rw[List.getD,hb];simp only[Option.getD_some];cases b with
    |false=>rfl
    |true=>
     obtain⟨j,hj,X,he⟩:=J.1 rfl;obtain⟨s1,s2,_⟩:=hP j (by omega) X;obtain⟨e1,e2⟩:=Yl4 hG (P4 (by omega)) K X w s1 s2 S T he;have hk:(at' ls j).k=(at' ls i).k:=by simp only[As,beq_iff_eq]at w X;omega
     have:=Yaj r3 (j:=j) (k:=i) (by omega) (by simp[e1,e2,hk]) (by omega) (by simp);omega
 have A:∀v,v<ls.length->AO (at' ls v)=true -> ∃x,x<ls.length/\AO (at' ls x)=true/\(at' ls x).i=(at' ls v).i/\(at' ls x).s=(at' ls v).s/\(at' ls x).o≠(at' ls v).o:=λv B C=>by
  obtain⟨_,_,h3,_⟩:=Y v B C;obtain⟨x,z,u⟩:=Ygu (p:=λo=>o.k == (at' ls v).k&&o.i == (at' ls v).i&&o.s == (at' ls v).s&&o.o != (at' ls v).o) (ls:=ls) (by unfold JV at h3;omega);simp only[bA,beq_iff_eq,bne_iff_ne,ne_eq]at u;refine⟨x,z,?_,u.1.1.2,u.1.2,u.2⟩;simp only[AO,beq_iff_eq]at C ⊢;omega
 have CG:∀i,i<=ls.length->Fo ls (X6 ls) i=true:=by
  intro i;induction i with
  |zero=>exact λ_=>rfl
  |succ i P=>
   intro hi;have U:=P (by omega);simp only[Fo,bA,Bool.or_eq_true,Bool.not_eq_true',decide_eq_true_eq];refine⟨U,?_⟩;cases C:AO (at' ls i)with
   |false=>exact .inl rfl
   |true=>
    right;obtain⟨S,T,r3,r4⟩:=Y i (by omega) C;refine⟨⟨S,T⟩,?_⟩;obtain⟨b,c,d,e⟩:=dG i (by omega) U;unfold GM;cases Z:Dz (at' ls i).i (Bf ls i)with
    |none=>rfl
    |some pv=>
     obtain⟨q,v⟩:=pv;simp only[bA,decide_eq_true_eq];obtain⟨x,z,ae,ad,ag,O⟩:=A i (by omega) C;have key:∀j,j<i->AO (at' ls j)=true->(at' ls j).i=(at' ls i).i->x=j:=λj hj ab aa=>by
      have:=Ykg r4 (a:=i) (b:=j) (x:=x) (by omega) (by simp[C]) (by omega) (by simp[ab,aa]) (by omega) z (by simp[ae,ad]);rcases this with n|n
      ·subst n;exact absurd rfl O
      exact n
     have f:P9 (at' ls i).o v<0:=by
      rcases Int.lt_or_le (P9 (at' ls i).o v) 0 with n|n
      ·exact n
      obtain⟨j,D,j2,G,Q,j5⟩:=b _ _ _ Z _ n;have:=key j D G Q;subst this;exact absurd j5 O
     refine⟨f,?_⟩;obtain⟨v1,v2,v3⟩:=Sc ls i _ (List.mem_of_getElem? (UP Z));simp only at v1 v2 v3;have M:0<=P9 (!(at' ls i).o) v:=by
      cases V:(at' ls i).o<;>rw[V]at f<;>simp only[P9,Bool.not_true,Bool.not_false,bF,if_true,if_false]at f ⊢ <;> omega
     obtain⟨j,D,j2,G,Q,j5⟩:=b _ _ _ Z _ M;have:=key j D G Q;simp_all
 have H:=CG ls.length (lR _);obtain⟨b,c,d,e⟩:=dG ls.length (lR _) H;rw[List.take_length]at e;have y:∀en,en∈Bf ls ls.length->Jl en.2=2:=by
  intro en t;obtain⟨q,hq,af⟩:=List.getElem_of_mem t;have I:=si ls ls.length q en (by grind);obtain⟨v1,v2,v3⟩:=Sc ls ls.length _ t;obtain⟨o,V⟩:∃o,0<=P9 o en.2:=by
   by_cases n:0<=en.2.1
   ·exact⟨false,n⟩
   exact⟨true,by show 0<=en.2.2;omega⟩
  obtain⟨j,D,j2,G,Q,j5⟩:=b _ _ _ I o V;obtain⟨_,_,_,r4⟩:=Y j D G;obtain⟨k,k1,k2,k3⟩:=Ylb r4 D (by simp[G]);simp only[bA,beq_iff_eq]at k2;obtain⟨p',w',g1,g2⟩:=c k k1 k2.1;rw[k2.2,Q,I]at g1;cases g1;have L:(at' ls k).o≠o:=λe1=>by grind
  have h8:0<=P9 (at' ls k).o en.2:=by rw[g2];omega
  cases o<;>cases h9:(at' ls k).o<;>rw[h9]at L h8<;>simp only[P9,bF,if_true,if_false]at V h8<;>first
   |exact absurd rfl L
   | (unfold Jl;grind)
 have N:∀E:List DO,(∀en,en∈E->Jl en.2=2)->C9 E=2*E.length:=by
  intro E;induction E with
  |nil=>exact λ_=>rfl
  |cons x r P=>
   intro hE;simp only[C9,lC,hE x (List.mem_cons_self ..),P λen t=>hE en (List.mem_cons_of_mem _ t)];omega
 have hs:=N _ y;have B:X6 ls=Z4 AO ls:=rfl;exact⟨hC,ac _ (lR _),by omega,H,by omega⟩
theorem zV{ls:List Lt}{n:Nat}:∀{i:Nat},Fo ls n i=true -> ∀j,j<i->AO (at' ls j)=true->1<=(at' ls j).i/\(at' ls j).i<=(n / 2:Nat)
 |0,_,j,b,_=>by omega
 |i+1,h,j,b,c=>by
  simp only[Fo,bA,Bool.or_eq_true,Bool.not_eq_true',decide_eq_true_eq]at h;rcases lG j i with a|a
  ·exact zV h.1 j a c
  grind
theorem wm{F:Nat}{ls:List Lt}(z:ls.all (DR F)=true)(J:EI ls (Z0 ls) ls.length=true)(A:HY ls):ls.all (BQ F ls)=true:=by
 have H:=UD z;obtain⟨s,q⟩:=cK H J;refine List.all_eq_true.2 λl hm=>?_;obtain⟨v,h,rfl⟩:=Yd5 hm;have n:=List.all_eq_true.1 z _ hm;unfold DR at n;unfold BQ;split at n
 ·rename_i g;rw[iP g];have B:As (at' ls v)=true:=by simp[As,g]
  obtain⟨S,T⟩:=s _ hm B;have N:same (at' ls v) ls=1:=Zzn h (by simp) λx m c=>by
   simp only[bA,beq_iff_eq]at c;exact q x v m h (by simp[As,c.1.1,g]) B c.1.2 c.2
  grind
 rename_i g;rw[iN g];split at n
 ·rename_i b;rw[iP b];have m:AO (at' ls v)=true:=by simp[AO,b]
  obtain⟨P,Q⟩:=zV A.2.1 v h m;obtain⟨p,w,j,K,L,M,t,D,u,y,E,G,f,C⟩:=Pv A h m;have O:J8 (at' ls v).i ls=2:=Z78 h (by simp[m]) t (by simp[u,y]) (λe=>D e.symm) λx d a=>by
   simp only[bA,beq_iff_eq]at a;exact f x d a.1 a.2
  have r:(at' ls j).k=2:=by simpa[AO]using u
  have I:JV (at' ls v) ls=1:=Zzn t (by simp[y,E,G,r,b]) λx d a=>by
   simp only[bA,beq_iff_eq,bne_iff_ne,ne_eq]at a;rcases f x d (by simp[AO,a.1.1.1,b]) a.1.1.2 with o|o
   ·subst o;exact absurd rfl a.2
   exact o
  grind
 cases n
theorem cT{rows:List (List Aa)}(h:¬rows=[]):Bg rows=.Al rows:=by simp[Bg,h]
section
attribute [local simp] NV Ni NF NU MJ NI Np Mn Nr G4 Im E5 B7 Ih E3 Mr MN NL NR Ox Ov MF Nz NX NC MX Nc Mp Oe Mx NP Na NK Ms MH NY MW Ob MD On MY Oc Oo NO MQ Nj Oa Ol Nq Nu Nb Nf MP ME Od NA My NQ MS Mz Mw MV Nw Ns Nv Ow MA KX Of Env.get R4 Ac.at Ac.app Ac.get Z7 O7 Aa.cells Aa.one K4 H9 MR NW NN Ou NM Og MO NS Nl MB MU Om Nh Gy C3 K5 B0 H3 U9 Ai Mo Mq Oj Ot NB L8 V1 H8 I8 L3 D3 Q9 G9 Bm Cm BO CQ Dw BC V5 Aa.AM Q3 Z3 Af.AM S9 S8 W9 FT.indep G3 B5 Je Fs Ma Wo
theorem c15(f:Int)(ls:List Lt)(h:ls.length<=1000):Au prog 62 [cV f ls] (.bool (ls.all (BQ f ls))):=by
 refine JH hm Tryz.func62 sR rfl rfl (by simp[Y7,Ln]) trivial λK hK=>?_;have hR:=H1 ls;have F:∀q,Z3 q (ls.map Ab)=ls.map Ab:=λq=>Y2 q _ (Y6 ls);have a0:=λx=>c37 f ls x h;have aq:=λx=>c38 f ls x h;have ao:=qX f ls h;unfold cV at *;generalize ls.map Ab=rows at *;have a:=hR.len;have ae:ls.all (BQ f ls)=true -> ∀m,Bm 1 [] [(0,.bool true)] ⟨[],1⟩ [(0,.bool true)] m->R9 1 K (.bool true) m:=λhe m hs=>by rw[he]at hK;exact Z6 hK [] hs
 have ad:ls.all (BQ f ls)=false -> ∀m,Bm 1 [] [(0,.bool false)] ⟨[],1⟩ [(0,.bool false)] m->R9 1 K (.bool false) m:=λhe m hs=>by rw[he]at hK;exact Z6 hK [] hs
 clear hK;simp;refine M4 (α:=Nat) (λi=>[(3,.int .i64 i),(1,.ptr 1 0 0)]) (λi=>⟨[(1,.cells 2 [[.int .i64 f,.Al rows]])],2⟩)
  (λi=>ls.length-i) (λi=>i<=ls.length/\(ls.take i).all (BQ f ls)=true) 0 [] (by simp[F]) (by simp) ?_
 rintro i ⟨hi,P⟩ N hN
 try simp only at hi P hN ⊢
 by_cases ab:i<ls.length
 ·have aw:=hR.row i ab;obtain⟨_,ah⟩:=Y3 aw;have aj:=Y0 ((i:Int)+1);have a2:at' ls i∈ls:=P4 ab;have aa:ls.take (i+1)=ls.take i++[at' ls i]:=by
   rw[List.take_add_one,at',List.getD,gE ab];rfl
  generalize at' ls i=l at *;have y:BQ f ls l=false -> ∀m,Bm 1 [] [(0,.bool false)] ⟨[],1⟩ [(0,.bool false)] m->R9 1 K (.bool false) m:=λe=>ad (by
   rw[List.all_eq_false];exact⟨l,a2,by simp[e]⟩)
  have ac:BQ f ls l=true->(ls.take (i+1)).all (BQ f ls)=true:=λe=>by
   rw[aa,List.all_append,P];simp[e]
  clear ad aa ae;rcases l with⟨M,I,L,D,E,lo⟩;simp[a,ab,ah,Ab];refine M4 (α:=Nat) (λj=>[(7,.int .i64 j),(6,.int .i64 (Z4 (λo=>o.k == M&&o.i == D&&o.s == E&&o.o != lo) (ls.take j):Nat)),(5,.int .i64 (Z4 (λo=>o.k == M&&o.g == I&&o.r == L) (ls.take j):Nat)),(4,.ptr 2 0 0),(3,.int .i64 i),(1,.ptr 1 0 0)])
   (λj=>⟨[(1,.cells 2 [[.int .i64 f,.Al rows]]),(2,.cells 6 [[.int .i64 M,.int .i64 I,.int .i64 L,.int .i64 D,.int .i64 E,.bool lo]])],3⟩)
   (λj=>ls.length-j) (λj=>j<=ls.length) 0 [(2,12)] (by simp[F,Z4]) (by simp) ?_
  intro j hj N2 w
  try simp only at hj w ⊢
  by_cases u:j<ls.length
  ·have ai:=hR.row j u;obtain⟨_,b⟩:=Y3 ai;have z:=Y0 ((j:Int)+1);have c:=JL (p:=λo=>o.k == M&&o.g == I&&o.r == L) u;have d:=JL (p:=λo=>o.k == M&&o.i == D&&o.s == E&&o.o != lo) u;have a3:=NT (p:=λo=>o.k == M&&o.g == I&&o.r == L) (ls:=ls) j;have a4:=NT (p:=λo=>o.k == M&&o.i == D&&o.s == E&&o.o != lo) (ls:=ls) j;clear y ac hN;generalize Z4 (λo=>o.k == M&&o.g == I&&o.r == L) (ls.take j)=c1 at c a3 ⊢;generalize Z4 (λo=>o.k == M&&o.i == D&&o.s == E&&o.o != lo) (ls.take j)=c2 at d a4 ⊢;have Q:=Y0 ((c1:Int)+1);have S:=Y0 ((c2:Int)+1);generalize at' ls j=o at *;rcases o with⟨ok,og,or,oi,ak,oo⟩;simp only at c d;by_cases A:ok=M
   ·by_cases C:og=I
    ·by_cases G:or=L
     ·by_cases n:oi=D
      ·by_cases t:ak=E
       ·cases oo with
        |true=>
         cases lo with
         |true=>
          simp[A,C,G,n,t]at c d;simp[a,u,b,Ab,z,Q,A,C,G,n,t];exact w (j+1) [] _ _ (by omega) (by omega) (by simp[F,c,d])
         |false=>
          simp[A,C,G,n,t]at c d;simp[a,u,b,Ab,z,Q,S,A,C,G,n,t];exact w (j+1) [] _ _ (by omega) (by omega) (by simp[F,c,d])
        |false=>
         cases lo with
         |true=>
          simp[A,C,G,n,t]at c d;simp[a,u,b,Ab,z,Q,S,A,C,G,n,t];exact w (j+1) [] _ _ (by omega) (by omega) (by simp[F,c,d])
         |false=>
          simp[A,C,G,n,t]at c d;simp[a,u,b,Ab,z,Q,A,C,G,n,t];exact w (j+1) [] _ _ (by omega) (by omega) (by simp[F,c,d])
       simp[A,C,G,n,t]at c d;simp[a,u,b,Ab,z,Q,A,C,G,n,t];exact w (j+1) [] _ _ (by omega) (by omega) (by simp[F,c,d])
      simp[A,C,G,n]at c d;simp[a,u,b,Ab,z,Q,A,C,G,n];exact w (j+1) [] _ _ (by omega) (by omega) (by simp[F,c,d])
     by_cases n:oi=D
     ·by_cases t:ak=E
      ·cases oo with
       |true=>
        cases lo with
        |true=>
         simp[A,C,G,n,t]at c d;simp[a,u,b,Ab,z,A,C,G,n,t];exact w (j+1) [] _ _ (by omega) (by omega) (by simp[F,c,d])
        |false=>
         simp[A,C,G,n,t]at c d;simp[a,u,b,Ab,z,S,A,C,G,n,t];exact w (j+1) [] _ _ (by omega) (by omega) (by simp[F,c,d])
       |false=>
        cases lo with
        |true=>
         simp[A,C,G,n,t]at c d;simp[a,u,b,Ab,z,S,A,C,G,n,t];exact w (j+1) [] _ _ (by omega) (by omega) (by simp[F,c,d])
        |false=>
         simp[A,C,G,n,t]at c d;simp[a,u,b,Ab,z,A,C,G,n,t];exact w (j+1) [] _ _ (by omega) (by omega) (by simp[F,c,d])
      simp[A,C,G,n,t]at c d;simp[a,u,b,Ab,z,A,C,G,n,t];exact w (j+1) [] _ _ (by omega) (by omega) (by simp[F,c,d])
     simp[A,C,G,n]at c d;simp[a,u,b,Ab,z,A,C,G,n];exact w (j+1) [] _ _ (by omega) (by omega) (by simp[F,c,d])
    by_cases n:oi=D
    ·by_cases t:ak=E
     ·cases oo with
      |true=>
       cases lo with
       |true=>
        simp[A,C,n,t]at c d;simp[a,u,b,Ab,z,A,C,n,t];exact w (j+1) [] _ _ (by omega) (by omega) (by simp[F,c,d])
       |false=>
        simp[A,C,n,t]at c d;simp[a,u,b,Ab,z,S,A,C,n,t];exact w (j+1) [] _ _ (by omega) (by omega) (by simp[F,c,d])
      |false=>
       cases lo with
       |true=>
        simp[A,C,n,t]at c d;simp[a,u,b,Ab,z,S,A,C,n,t];exact w (j+1) [] _ _ (by omega) (by omega) (by simp[F,c,d])
       |false=>
        simp[A,C,n,t]at c d;simp[a,u,b,Ab,z,A,C,n,t];exact w (j+1) [] _ _ (by omega) (by omega) (by simp[F,c,d])
     simp[A,C,n,t]at c d;simp[a,u,b,Ab,z,A,C,n,t];exact w (j+1) [] _ _ (by omega) (by omega) (by simp[F,c,d])
    simp[A,C,n]at c d;simp[a,u,b,Ab,z,A,C,n];exact w (j+1) [] _ _ (by omega) (by omega) (by simp[F,c,d])
   simp[A]at c d;simp[a,u,b,Ab,z,A];exact w (j+1) [] _ _ (by omega) (by omega) (by simp[F,c,d])
  have he:j=ls.length:=by omega
  subst he;clear w;rw[List.take_length];have au:Z4 (λo=>o.k == M&&o.g == I&&o.r == L) ls=same ⟨M,I,L,D,E,lo⟩ ls:=rfl;have av:Z4 (λo=>o.k == M&&o.i == D&&o.s == E&&o.o != lo) ls=JV ⟨M,I,L,D,E,lo⟩ ls:=rfl;rw[au,av];clear au av;by_cases af:M=1
  ·subst af;by_cases V:¬D=0
   ·simp[a,V];exact y (by simp[BQ,V]) _ (by simp)
   have V:=Classical.not_not.1 V;subst V;by_cases X:¬E=0
   ·simp[a,X];exact y (by simp[BQ,X]) _ (by simp)
   have X:=Classical.not_not.1 X;subst X;cases lo with
   |true=>simp[a];exact y (by simp[BQ]) _ (by simp)
   |false=>
    by_cases g4:I<0
    ·have v:¬0<=I:=by omega
     simp[a,g4];exact y (by simp[BQ,v]) _ (by simp)
    have v:0<=I:=by omega
    by_cases Z:f<I
    ·have B:¬I<=f:=by omega
     simp[a,g4,Z];exact y (by simp[BQ,v,B]) _ (by simp)
    have B:I<=f:=by omega
    by_cases U:L<1
    ·have H:¬1<=L:=by omega
     simp[a,g4,Z,U];exact y (by simp[BQ,v,B,H]) _ (by simp)
    have H:1<=L:=by omega
    simp[a,g4,Z,U];refine JQ (a0 I) ?_;have a1:Z4 (λl=>As l&&l.g == I) ls=Bl I ls:=rfl;rw[a1];by_cases g7:((Bl I ls:Nat):Int)<L
    ·have J:¬L<=((Bl I ls:Nat):Int):=by omega
     simp[g7];exact y (by simp[BQ,v,B,H,J]) _ (by simp)
    have J:L<=((Bl I ls:Nat):Int):=by omega
    generalize ax:same ⟨1,I,L,0,0,false⟩ ls=sm at *;by_cases g8:sm=1
    ·have an:(sm:Int)=1:=by omega
     simp[g7,g8,aj];exact hN (i+1) [] _ _ (by omega) ⟨by omega,ac (by simp[BQ,v,B,H,J,ax,g8])⟩ (by simp[F])
    have an:¬(sm:Int)=1:=by omega
    simp[g7,an];exact y (by simp[BQ,v,B,H,J,ax,g8]) _ (by simp)
  by_cases ag:M=2
  ·subst ag;by_cases V:¬I=0
   ·simp[a,V];exact y (by simp[BQ,V]) _ (by simp)
   have V:=Classical.not_not.1 V;subst V;by_cases X:¬L=0
   ·simp[a,X];exact y (by simp[BQ,X]) _ (by simp)
   have X:=Classical.not_not.1 X;subst X;by_cases g3:¬E=1 /\ ¬E = -1
   ·obtain⟨al,am⟩:=g3;simp[a,al,am];exact y (by simp[BQ,al,am]) _ (by simp)
   have Y:E=1\/E = -1:=by omega
   have a5:X6 ls<=ls.length:=Ib;have T:=Y0 ((X6 ls:Int) / 2);have az:Z4 AO ls=X6 ls:=rfl;have ay:Z4 (λl=>AO l&&l.i == D) ls=J8 D ls:=rfl;rcases Y with Y|Y
   ·subst Y;by_cases g4:D<1
    ·have v:¬1<=D:=by omega
     simp[a,g4];exact y (by simp[BQ,v]) _ (by simp)
    have v:1<=D:=by omega
    simp[a,g4];refine JQ ao ?_;rw[az];by_cases Z:(X6 ls:Int) / 2<D
    ·have B:¬D<=(X6 ls:Int) / 2:=by omega
     simp[T,Z];exact y (by simp[BQ,v,B]) _ (by simp)
    have B:D<=(X6 ls:Int) / 2:=by omega
    generalize O:JV ⟨2,0,0,D,1,lo⟩ ls=pr at *;by_cases U:pr=1;rotate_left
    ·have H:¬(pr:Int)=1:=by omega
     simp[T,Z,H];exact y (by simp[BQ,O,v,B,U]) _ (by simp)
    have H:(pr:Int)=1:=by omega
    simp[T,Z,U];refine JQ (aq D) ?_;rw[ay];by_cases g7:J8 D ls=2
    ·have J:((J8 D ls:Nat):Int)=2:=by omega
     simp[g7,aj];exact hN (i+1) [] _ _ (by omega) ⟨by omega,ac (by simp[BQ,O,v,B,U,g7])⟩ (by simp[F])
    have J:¬((J8 D ls:Nat):Int)=2:=by omega
    simp[J];exact y (by simp[BQ,O,v,B,U,g7]) _ (by simp)
   subst Y;by_cases g4:D<1
   ·have v:¬1<=D:=by omega
    simp[a,g4];exact y (by simp[BQ,v]) _ (by simp)
   have v:1<=D:=by omega
   simp[a,g4];refine JQ ao ?_;rw[az];by_cases Z:(X6 ls:Int) / 2<D
   ·have B:¬D<=(X6 ls:Int) / 2:=by omega
    simp[T,Z];exact y (by simp[BQ,v,B]) _ (by simp)
   have B:D<=(X6 ls:Int) / 2:=by omega
   generalize O:JV ⟨2,0,0,D,-1,lo⟩ ls=pr at *;by_cases U:pr=1;rotate_left
   ·have H:¬(pr:Int)=1:=by omega
    simp[T,Z,H];exact y (by simp[BQ,O,v,B,U]) _ (by simp)
   have H:(pr:Int)=1:=by omega
   simp[T,Z,U];refine JQ (aq D) ?_;rw[ay];by_cases g7:J8 D ls=2
   ·have J:((J8 D ls:Nat):Int)=2:=by omega
    simp[g7,aj];exact hN (i+1) [] _ _ (by omega) ⟨by omega,ac (by simp[BQ,O,v,B,U,g7])⟩ (by simp[F])
   have J:¬((J8 D ls:Nat):Int)=2:=by omega
   simp[J];exact y (by simp[BQ,O,v,B,U,g7]) _ (by simp)
  simp[a,af,ag];exact y (by simp[BQ,af,ag]) _ (by simp)
 have he:i=ls.length:=by omega
 subst he;rw[List.take_length]at P;simp[a];exact ae P _ (by simp)
end
section
attribute [local simp] NV Ni NF NU MJ NI Np Mn Nr G4 Im E5 B7 Ih E3 Mr MN NL NR Ox Ov MF Nz NX NC MX Nc Mp Oe Mx NP Na NK Ms MH NY MW Ob MD On MY Oc Oo NO MQ Nj Oa Ol Nq Nu Nb Nf MP ME Od NA My NQ MS Mz Mw MV Nw Ns Nv Ow MA KX Of Env.get R4 Ac.at Ac.app Ac.get Z7 O7 Aa.cells Aa.one K4 H9 MR NW NN Ou NM Og MO NS Nl MB MU Om Nh Gy C3 K5 B0 H3 U9 Ai Mo Mq Oj Ot NB L8 V1 H8 I8 L3 D3 Q9 G9 Bm Cm BO CQ Dw BC V5 Aa.AM Q3 Z3 Af.AM S9 S8 W9 FT.indep G3 B5 Je Fs Ma Wo Zzp
theorem c4(f:Int)(ls:List Lt)(h:ls.length<=1000):Au prog 33 [cV f ls] (.int .i64 (V3 f ls)):=by
 refine JH hm Tryz.func33 cf4 rfl rfl (by simp[Y7,Ln]) trivial λK O=>?_;have X:=H1 ls;have H:=qX f ls h;have I:=c14 f ls h;have J:=c15 f ls h;have L:=rI f ls h;have M:=c17 f ls h;unfold cV at *;generalize ls.map Ab=rows at *;have a:=X.len;have b:∀e:Int,V3 f ls=e -> ∀m,Bm 1 [] [(0,.int .i64 e)] ⟨[],1⟩ [(0,.int .i64 e)] m->R9 1 K (.int .i64 e) m:=λe he m hs=>by rw[he]at O;exact Z6 O [] hs
 clear O;have T:Z4 AO ls=X6 ls:=rfl;have hp:Z4 As ls=Z0 ls:=rfl;have ab:Z0 ls<=ls.length:=Ib;by_cases hl:400<ls.length
 ·have r:(400:Int)<(ls.length:Int):=by omega
  simp[a,r];exact b 7 (by unfold V3;rw[iP (.inl hl)]) _ (by simp)
 have r:¬(400:Int)<(ls.length:Int):=by omega
 simp[a,r];refine T0 H ?_;rw[T];by_cases hx:200<X6 ls
 ·have i:(200:Int)<(X6 ls:Int):=by omega
  simp[i];exact b 7 (by unfold V3;rw[iP (.inr hx)]) _ (by simp)
 obtain⟨i,w⟩:¬(200:Int)<(X6 ls:Int)/\¬(400<ls.length\/200<X6 ls):=by omega
 by_cases t:f<0
 ·simp[i,t];exact b 2 (by unfold V3;rw[iN w,iP (.inl t)]) _ (by simp)
 by_cases l:40<f
 ·simp[i,t,l];exact b 2 (by unfold V3;rw[iN w,iP (.inr l)]) _ (by simp)
 obtain⟨N,V⟩:¬(f<0\/40<f)/\((f.toNat:Nat):Int)=f:=by omega
 by_cases s:ls=[]
 ·have S:rows=[]:=List.length_eq_zero_iff.1 (by rw[a,s];rfl);subst S;simp[t,l,a,s];exact b 0 (by unfold V3;rw[iN w,iN N,iP (.inl s)]) _ (by simp)
 have c:0<ls.length:=List.length_pos_iff.2 s;have aa:¬rows=[]:=λe=>by rw[e]at a;simp at a;omega
 have z:=X.row 0 c;obtain⟨_,d⟩:=Y3 z;have j:¬QC f.toNat ls->V3 f ls=3:=λhb=>by unfold V3;rw[iN w,iN N,iN (λg=>g.elim s hb)]
 simp[i,t,l,a,s];refine T0 I ?_;rw[hp];by_cases n:¬(at' ls 0).k=1
 ·simp[a,c,d,Ab,n];exact b 3 (j λg=>n g.2.1) _ (by simp)
 have n:=Classical.not_not.1 n;have A:(Z0 ls:Int).tmod 2=((Z0 ls%2:Nat):Int):=rfl;by_cases E:Z0 ls%2=0;rotate_left
 ·have F:Z0 ls%2=1:=by omega
  simp[-Int.natCast_emod,a,c,d,Ab,n,A,F];exact b 3 (j λg=>E g.2.2.1) _ (by simp)
 simp[-Int.natCast_emod,a,c,d,Ab,n,A,E];refine JQ J ?_;cases U:ls.all (BQ f ls)with
 |false=>
  simp;exact b 3 (j λg=>by
   have:=wm g.1 g.2.2.2.1 g.2.2.2.2.1;rw[V,U]at this;cases this) _ (by simp)
 |true=>
  have G:ls.all (BQ (f.toNat:Nat) ls)=true:=by rw[V];exact U
  obtain⟨Y,q2,Z⟩:=lJ G;have Q:0<Z0 ls:=by
   rw[<-Q7];exact List.length_pos_of_mem (AA.2 ⟨c,by simp[As,n]⟩)
  have P:∀v,v<ls.length->(at' ls v).k≠2->(at' ls v).k=1:=λv T h3=>(Z6n (List.all_eq_true.1 Y _ (P4 T))).resolve_right h3;have o:=L Q P;obtain⟨u,y⟩:∃u,H0 (X4 ls (Z2 ls)) (2*ls.length+2*Z0 ls)=u:=⟨_,rfl⟩;have q:(G6 (Q8 (X4 ls (Z2 ls)) (2*ls.length+2*Z0 ls))).length=u:=by rw[qH,Q8,Pc];exact y
  generalize G6 (Q8 (X4 ls (Z2 ls)) (2*ls.length+2*Z0 ls))=WR at o q;have B:=Y0 ((Z0 ls:Int)+(X6 ls:Int) / 2);have C:=Y0 ((Z0 ls:Int)+(X6 ls:Int) / 2+2);simp;refine JQ o ?_;simp;refine JQ M ?_;have p:H0 (X4 ls (Z2 ls)) (2*ls.length+2*(Z2 ls).length)=(Z2 ls).length+(Bf ls ls.length).length+2↔(u:Int)=(Z0 ls:Int)+(X6 ls:Int) / 2+2:=by
   rw[Q7,y,Z.2.2];omega
  by_cases D:(u:Int)=(Z0 ls:Int)+(X6 ls:Int) / 2+2
  ·simp[q,B,C,D];exact b 0 (by unfold V3;rw[iN w,iN N,iP (.inr ⟨Y,n,E,q2,Z,p.2 D⟩)]) _ (by simp)
  simp[q,B,C,D];exact b 3 (j λg=>D (p.1 g.2.2.2.2.2)) _ (by simp)
end
set_option maxRecDepth 100000
set_option maxHeartbeats 400000
def qR:AD:=by
 have h:=rQ Tryz.f38
 conv at h=>rhs; reduce
 dsimp at h
 exact oR h
theorem sV:Bk prog Tryz.f38=some qR:=by kernel_rfl
end Go.Ad
namespace Go.Proofs
open Go.Shelf
def Tryz.EK:Go.Shelf.Ren:=⟨fun|6=>101 | 15=>135 | 14=>134 | 28=>168 | 29=>169 | 20=>160 | 21=>161 | 22=>162 | 23=>163 | 24=>164 | 25=>165 | 26=>166 | 27=>167 | 46=>182 | 47=>183 | 48=>184 | 49=>185 | 50=>186 | 57=>194 | n=>n,fun|22=>170 | 24=>173 | 25=>175 | 3=>3 | 39=>183 | 0=>0 | 53=>210 | 55=>205 | 4=>4 | 46=>225 | 45=>224 | 50=>171 | 5=>5 | 9=>9 | 66=>244 | 70=>231 | 76=>252 | 77=>253 | n=>n,fun|n=>n⟩
theorem Tryz.Mk:Go.Proofs.SlLaysF0.n6 prog Tryz.EK:={
 mixed:=by kernel_rfl
 f6:=⟨Tryz.f101.name,by decide,Tryz.func101.trans (congrArg some (by kernel_rfl))⟩
 f14:=⟨Tryz.f134.name,by decide,Tryz.func134.trans (congrArg some (by kernel_rfl))⟩
 f15:=Tryz.func135.trans (congrArg some (by kernel_rfl))
 f20:=⟨Tryz.f160.name,by decide,Tryz.func160.trans (congrArg some (by kernel_rfl))⟩
 f21:=⟨Tryz.f161.name,by decide,Tryz.func161.trans (congrArg some (by kernel_rfl))⟩
 f22:=⟨Tryz.f162.name,by decide,Tryz.func162.trans (congrArg some (by kernel_rfl))⟩
 f23:=⟨Tryz.f163.name,by decide,Tryz.func163.trans (congrArg some (by kernel_rfl))⟩
 f24:=⟨Tryz.f164.name,by decide,Tryz.func164.trans (congrArg some (by kernel_rfl))⟩
 f25:=⟨Tryz.f165.name,by decide,Tryz.func165.trans (congrArg some (by kernel_rfl))⟩
 f26:=⟨Tryz.f166.name,by decide,Tryz.func166.trans (congrArg some (by kernel_rfl))⟩
 f27:=⟨Tryz.f167.name,by decide,Tryz.func167.trans (congrArg some (by kernel_rfl))⟩
 f28:=Tryz.func168.trans (congrArg some (by kernel_rfl))
 f29:=Tryz.func169.trans (congrArg some (by kernel_rfl))
 f46:=⟨Tryz.f182.name,by decide,Tryz.func182.trans (congrArg some (by kernel_rfl))⟩
 f47:=Tryz.func183.trans (congrArg some (by kernel_rfl))
 f48:=Tryz.func184.trans (congrArg some (by kernel_rfl))
 f49:=⟨Tryz.f185.name,by decide,Tryz.func185.trans (congrArg some (by kernel_rfl))⟩
 f50:=⟨Tryz.f186.name,by decide,Tryz.func186.trans (congrArg some (by kernel_rfl))⟩
 f57:=⟨Tryz.f194.name,by decide,Tryz.func194.trans (congrArg some (by kernel_rfl))⟩
 t0:=Tryz.underlying0
 a0:=Tryz.isAgg0
 z0:=Tryz.sizeOf0
 v0:=Tryz.zeroValue0
 t3:=Tryz.underlying3
 a3:=Tryz.isAgg3
 z3:=Tryz.sizeOf3
 v3:=Tryz.zeroValue3
 t4:=Tryz.underlying4
 a4:=Tryz.isAgg4
 z4:=Tryz.sizeOf4
 v4:=Tryz.zeroValue4
 t5:=Tryz.underlying5
 a5:=Tryz.isAgg5
 z5:=Tryz.sizeOf5
 v5:=Tryz.zeroValue5
 t9:=Tryz.underlying9
 a9:=Tryz.isAgg9
 z9:=Tryz.sizeOf9
 v9:=Tryz.zeroValue9
 t22:=Tryz.underlying170
 a22:=Tryz.isAgg170
 z22:=Tryz.sizeOf170
 v22:=Tryz.zeroValue170
 t25:=Tryz.underlying175
 a25:=Tryz.isAgg175
 z25:=Tryz.sizeOf175
 v25:=Tryz.zeroValue175
 t39:=Tryz.underlying183
 a39:=Tryz.isAgg183
 z39:=Tryz.sizeOf183
 v39:=Tryz.zeroValue183
 t45:=Tryz.underlying224
 a45:=Tryz.isAgg224
 z45:=Tryz.sizeOf224
 v45:=Tryz.zeroValue224
 t46:=Tryz.underlying225
 a46:=Tryz.isAgg225
 z46:=Tryz.sizeOf225
 v46:=Tryz.zeroValue225
 t50:=Tryz.underlying171
 a50:=Tryz.isAgg171
 z50:=Tryz.sizeOf171
 v50:=Tryz.zeroValue171
 t53:=Tryz.underlying210
 a53:=Tryz.isAgg210
 z53:=Tryz.sizeOf210
 v53:=Tryz.zeroValue210
 t55:=Tryz.underlying205
 a55:=Tryz.isAgg205
 z55:=Tryz.sizeOf205
 v55:=Tryz.zeroValue205
 t66:=Tryz.underlying244
 a66:=Tryz.isAgg244
 z66:=Tryz.sizeOf244
 v66:=Tryz.zeroValue244
 t70:=Tryz.underlying231
 a70:=Tryz.isAgg231
 z70:=Tryz.sizeOf231
 v70:=Tryz.zeroValue231
 t76:=Tryz.underlying252
 a76:=Tryz.isAgg252
 z76:=Tryz.sizeOf252
 v76:=Tryz.zeroValue252
 t77:=Tryz.underlying253
 a77:=Tryz.isAgg253
 z77:=Tryz.sizeOf253
 v77:=Tryz.zeroValue253 }
end Go.Proofs
