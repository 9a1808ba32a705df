/- Part 23 of the proof: Ph, Rh, Ri. -/
import Derived.Test.YtilmpmlkndfbjaaGreatDoorR13
import Derived.Test.YtilmpmlkndfbjaaGreatDoorR19
import Derived.Test.YtilmpmlkndfbjaaGreatDoorR20
import Derived.Test.YtilmpmlkndfbjaaGreatDoorR22
set_option linter.all false
section
namespace Go.Known
open Go.Plain
theorem Zh6(p:Lt→Bool)(ls:List Lt):∃ L:List Nat,L.Nodup∧Z5 p ls=L.length ∧ ∀ x,x∈L↔(x<ls.length∧p (at' ls x)=true):=
 ⟨(List.range ls.length).filter fun j=>p (at' ls j),List.nodup_range.filter _,(Zm2 ls p).symm,fun x=>by simp⟩
theorem Zxd{p:Lt→Bool}{ls:List Lt}{j:Nat}(f:j<ls.length)(i:p (at' ls j)=true)(c:∀ x,x<ls.length→p (at' ls x)=true→x=j):Z5 p ls=1:=by
 obtain⟨L,b,g,hm⟩:=Zh6 p ls;rw[g];have a:=(hm j).2 ⟨f,i⟩
 match L,b,hm,a with
 | [],_,_,h=>simp at h
 | [_],_,_,_=>rfl
 | y :: z :: t,b,hm,_=>
  have d:=(hm y).1 (by simp)
  have e:=(hm z).1 (by simp)
  have:y=z:=(c y d.1 d.2).trans (c z e.1 e.2).symm;subst this;simp at b
theorem Z0a{p:Lt→Bool}{ls:List Lt}(h:Z5 p ls=1){j k:Nat}(e:j<ls.length)(c:p (at' ls j)=true)(f:k<ls.length)(d:p (at' ls k)=true):j=k:=by
 obtain⟨L,i,g,hm⟩:=Zh6 p ls;rw[g]at h;have a:=(hm j).2 ⟨e,c⟩;have b:=(hm k).2 ⟨f,d⟩
 match L,h,a,b with
 | [y],_,a,b=>simp at a b; omega
theorem Z68{p:Lt→Bool}{ls:List Lt}(h:0<Z5 p ls):∃ j,j<ls.length∧p (at' ls j)=true:=by
 obtain⟨L,b,a,hm⟩:=Zh6 p ls;rw[a]at h
 match L,h,hm with
 | y :: t,_,hm=>exact ⟨y,(hm y).1 (by simp)⟩
theorem Z4z{p:Lt→Bool}{ls:List Lt}{a b:Nat}(o:a<ls.length)(f:p (at' ls a)=true)(r:b<ls.length)(g:p (at' ls b)=true)(q:a≠b)(i:∀ x,x<ls.length→p (at' ls x)=true→x=a∨x=b):Z5 p ls=2:=by
 obtain⟨L,e,s,hm⟩:=Zh6 p ls;rw[s];have c:=(hm a).2 ⟨o,f⟩;have d:=(hm b).2 ⟨r,g⟩
 match L,e,hm,c,d with
 | [],_,_,h,_=>simp at h
 | [y],_,_,j,k=>simp at j k; omega
 | [_,_],_,_,_,_=>rfl
 | x :: y :: z :: t,e,hm,_,_=>
  have l:=(hm x).1 (by simp)
  have m:=(hm y).1 (by simp)
  have n:=(hm z).1 (by simp)
  have j:=i x l.1 l.2;have k:=i y m.1 m.2;have u:=i z n.1 n.2;simp only[List.nodup_cons,List.mem_cons,not_or]at e;omega
theorem Z3c{p:Lt→Bool}{ls:List Lt}(h:Z5 p ls=2){a b x:Nat}(m:a<ls.length)(f:p (at' ls a)=true)(o:b<ls.length)(g:p (at' ls b)=true)(n:a≠b)(r:x<ls.length)(i:p (at' ls x)=true):x=a∨x=b:=by
 obtain⟨L,s,q,hm⟩:=Zh6 p ls;rw[q]at h;have c:=(hm a).2 ⟨m,f⟩;have d:=(hm b).2 ⟨o,g⟩;have e:=(hm x).2 ⟨r,i⟩
 match L,h,c,d,e with
 | [y,z],_,j,k,l=>simp at j k l; omega
theorem Ycp{p:Lt→Bool}{ls:List Lt}(h:Z5 p ls=2){a:Nat}(j:a<ls.length)(f:p (at' ls a)=true):∃ b,b<ls.length∧p (at' ls b)=true∧a≠b:=by
 obtain⟨L,e,k,hm⟩:=Zh6 p ls;rw[k]at h;have d:=(hm a).2 ⟨j,f⟩
 match L,h,e,hm,d with
 | [y,z],_,e,hm,c=>
  have g:=(hm y).1 (by simp)
  have i:=(hm z).1 (by simp)
  simp at c e;rcases c with c|c
  ·exact⟨z,i.1,i.2,by omega⟩
  ·exact⟨y,g.1,g.2,by omega⟩
theorem Z1w{F:Nat}{ls:List Lt}(k:Za2 F ls){a b:Lt}(n:a∈ls)(p:b∈ls)(f:isP a=true)(i:isP b=true)(o:1≤a.r)(d:a.r≤(inG a.g ls:Nat))(q:1≤b.r)(e:b.r≤(inG b.g ls:Nat))(h:pos ls a=pos ls b):a.g=b.g∧a.r=b.r:=by
 obtain⟨G,l⟩:∃ G:Nat,a.g=(G:Nat):=⟨a.g.toNat,by have:=k a n f; omega⟩
 obtain⟨H,m⟩:∃ H:Nat,b.g=(H:Nat):=⟨b.g.toNat,by have:=k b p i; omega⟩
 rw[Zlz l,Zlz m]at h;rw[l]at d;rw[m]at e;have mono:∀ x y,x≤y→tot ls x≤tot ls y:=fun x y j=>by
  induction j with
  | refl=>exact Nat.le_refl _
  | step _ u=>rw[Zjm]; omega
 have s:=Zjm ls G;have t:=Zjm ls H;rcases Nat.lt_trichotomy G H with c|c|c
 ·have:=mono (G+1) H c; omega
 ·subst c; omega
 ·have:=mono (H+1) G c; omega
theorem Zt3(ls:List Lt):∀ i q e,(crE ls i)[q]? = some e→fnd e.1 (crE ls i)=some (q,e.2)
 | 0,q,e,h=>by simp[crE]at h
 | i+1,q,e,h=>by
  have g:=Zt3 ls i;simp only[crE]at h ⊢;split at h
  ·rename_i f;rw[if_pos f];unfold updE at h ⊢;cases b:fnd (at' ls i).i (crE ls i)with
   | some l=>
    obtain⟨p,v⟩:=l;rw[b]at h;simp only at h ⊢;rw[List.getElem?_set]at h;split at h
    ·rename_i c;split at h
     ·cases h;subst c;rw[Zmn b,if_pos rfl]
     ·cases h
    ·rename_i c;have a:=g q e h;rw[Zmn b,if_neg (fun d=>by rw[d,b]at a; cases a; exact c rfl)]
     exact a
   | none=>
    rw[b]at h;simp only at h ⊢;rw[Zpo b];rw[List.getElem?_append]at h;split at h
    ·have a:=g q e h;rw[if_neg (fun d=>by rw[d,b]at a; cases a)]
     exact a
    ·rename_i k;obtain⟨a,j⟩:=gS.1 h;simp at a j;subst j;rw[if_pos rfl];have:q=(crE ls i).length:=by omega
     rw[this]
  ·rename_i f;rw[if_neg f];exact g q e h
theorem Z23{ls:List Lt}{l:Lt}(h:l∈ls):∃ j,j<ls.length∧at' ls j=l:=by
 obtain⟨j,a,b⟩:=List.getElem_of_mem h;exact⟨j,a,by rw[at',List.getD,gE a,b]; rfl⟩
theorem Zqv{F:Nat}{ls:List Lt}(h:ls.all (okR F ls)=true):ls.all (okC F)=true∧rkF ls (Z3 ls) ls.length=true∧CrOk ls:=by
 have hl:∀ l,l∈ls→okR F ls l=true:=List.all_eq_true.1 h
 have hC:ls.all (okC F)=true:=List.all_eq_true.2 fun l hm=>by
  have:=hl l hm;unfold okR at this;unfold okC;split at this
  ·rename_i M;rw[if_pos M];simp at this ⊢
   grind
  ·rename_i M;split at this
   ·rename_i ad;rw[if_neg M,if_pos ad];simp at this ⊢;omega
   ·cases this
 have hG:=Zhe hC;have hP:∀ v,v<ls.length→isP (at' ls v)=true→1≤(at' ls v).r∧(at' ls v).r≤(inG (at' ls v).g ls:Nat)∧same (at' ls v) ls=1:=fun v C n=>by
  have:=hl _ (K2 C);simp only[isP,beq_iff_eq]at n;unfold okR at this;rw[if_pos n]at this;simp at this;exact⟨this.1.1.2,this.1.2,this.2⟩
 have hX:∀ v,v<ls.length→isX (at' ls v)=true→1≤(at' ls v).i∧(at' ls v).i≤(X7 ls / 2:Nat)∧Zao (at' ls v) ls=1∧G9 (at' ls v).i ls=2:=fun v C n=>by
  have:=hl _ (K2 C);simp only[isX,beq_iff_eq]at n;unfold okR at this;rw[if_neg (by omega),if_pos n]at this
  simp at this;exact⟨this.1.1.1.2,by omega,this.1.2,this.2⟩
 have af:∀ i,i≤ls.length→rkF ls (Z3 ls) i=true:=by
  intro i
  induction i with
  | zero=>exact fun _=>rfl
  | succ i S=>
   intro hi;have Y:=S (by omega)
   simp only[rkF,bA,Bool.or_eq_true,Bool.not_eq_true',decide_eq_true_eq];refine⟨Y,?_⟩;cases n:isP (at' ls i)with
   | false=>exact .inl rfl
   | true=>
    right
    obtain⟨V,X,r3⟩:=hP i (by omega) n
    refine⟨⟨V,X⟩,?_⟩;have L:=K2 (show i<ls.length by omega)
    obtain⟨b,hb,K⟩:=Zq8 (ls:=ls) (m:=Z3 ls) i _ (Zll hG L n V X);rw[List.getD,hb];simp only[Option.getD_some];cases b with
    | false=>rfl
    | true=>
     obtain⟨j,hj,z,he⟩:=K.1 rfl;obtain⟨s1,s2,_⟩:=hP j (by omega) z
     obtain⟨e1,e2⟩:=Z1w hG (K2 (by omega)) L z n s1 s2 V X he
     have M:(at' ls j).k=(at' ls i).k:=by simp only[isP,beq_iff_eq]at n z; omega
     have:=Z0a r3 (j:=j) (k:=i) (by omega) (by simp[e1,e2,M]) (by omega) (by simp)
     omega
 have B:∀ v,v<ls.length→isX (at' ls v)=true → ∃ x,x<ls.length∧isX (at' ls x)=true∧(at' ls x).i=(at' ls v).i∧(at' ls x).s=(at' ls v).s∧(at' ls x).o≠(at' ls v).o:=fun v C D=>by
  obtain⟨_,_,h3,_⟩:=hX v C D;obtain⟨x,A,w⟩:=Z68 (p:=fun o=>o.k == (at' ls v).k&&o.i == (at' ls v).i&&o.s == (at' ls v).s&&o.o != (at' ls v).o) (ls:=ls) (by unfold Zao at h3; omega)
  simp only[bA,beq_iff_eq,bne_iff_ne,ne_eq]at w;refine⟨x,A,?_,w.1.1.2,w.1.2,w.2⟩;simp only[isX,beq_iff_eq]at D ⊢;omega
 have aa:∀ i,i≤ls.length→crF ls (X7 ls) i=true:=by
  intro i
  induction i with
  | zero=>exact fun _=>rfl
  | succ i S=>
   intro hi;have Y:=S (by omega)
   simp only[crF,bA,Bool.or_eq_true,Bool.not_eq_true',decide_eq_true_eq];refine⟨Y,?_⟩;cases D:isX (at' ls i)with
   | false=>exact .inl rfl
   | true=>
    right
    obtain⟨V,X,r3,r4⟩:=hX i (by omega) D
    refine⟨⟨V,X⟩,?_⟩;obtain⟨b,c,d,e⟩:=Zkt i (by omega) Y
    unfold fitE;cases hf:fnd (at' ls i).i (crE ls i)with
    | none=>rfl
    | some pv=>
     obtain⟨q,v⟩:=pv;simp only[bA,decide_eq_true_eq];obtain⟨x,A,ai,ag,ah,Q⟩:=B i (by omega) D
     have key:∀ j,j<i→isX (at' ls j)=true→(at' ls j).i=(at' ls i).i→x=j:=fun j hj ac ab=>by
      have:=Z3c r4 (a:=i) (b:=j) (x:=x) (by omega) (by simp[D]) (by omega) (by simp[ac,ab]) (by omega) A (by simp[ai,ag])
      rcases this with t|t
      ·subst t; exact absurd rfl Q
      ·exact t
     have f:S5 (at' ls i).o v<0:=by
      rcases Int.lt_or_le (S5 (at' ls i).o v) 0 with t|t
      ·exact t
      ·obtain⟨j,G,j2,H,U,j5⟩:=b _ _ _ hf _ t;have:=key j G H U;subst this;exact absurd j5 Q
     refine⟨f,?_⟩;obtain⟨v1,v2,v3⟩:=Zg7 ls i _ (List.mem_of_getElem? (Zha hf));simp only at v1 v2 v3;have O:0≤S5 (!(at' ls i).o) v:=by
      cases Z:(at' ls i).o<;>rw[Z]at f<;>simp only[S5,Bool.not_true,Bool.not_false,bF,if_true,if_false]at f ⊢ <;> omega
     obtain⟨j,G,j2,H,U,j5⟩:=b _ _ _ hf _ O;have:=key j G H U;subst this;rw[j2,Int.toNat_natCast];exact ah
 have I:=aa ls.length (Nat.le_refl _);obtain⟨b,c,d,e⟩:=Zkt ls.length (Nat.le_refl _) I;rw[List.take_length]at e;have y:∀ en,en∈crE ls ls.length→fil en.2=2:=by
  intro en u;obtain⟨q,hq,ae⟩:=List.getElem_of_mem u;have J:=Zt3 ls ls.length q en (by rw[gE hq,ae])
  obtain⟨v1,v2,v3⟩:=Zg7 ls ls.length _ u;obtain⟨o,Z⟩:∃ o,0≤S5 o en.2:=by
   by_cases t:0≤en.2.1
   ·exact⟨false,t⟩
   ·exact⟨true,by show 0≤en.2.2; omega⟩
  obtain⟨j,G,j2,H,U,j5⟩:=b _ _ _ J o Z;obtain⟨_,_,_,r4⟩:=hX j G H;obtain⟨k,k1,k2,k3⟩:=Ycp r4 G (by simp[H])
  simp only[bA,beq_iff_eq]at k2;obtain⟨p',w',g1,g2⟩:=c k k1 k2.1;rw[k2.2,U,J]at g1;cases g1;have N:(at' ls k).o≠o:=fun e1=>by rw[e1,j2]at g2; omega
  have h8:0≤S5 (at' ls k).o en.2:=by rw[g2]; omega
  cases o<;>cases h9:(at' ls k).o<;>rw[h9]at N h8<;>simp only[S5,bF,if_true,if_false]at Z h8<;>first
   | exact absurd rfl N
   | (unfold fil; rw[if_pos (by omega),if_pos (by omega)])
 have P:∀ E:List Ent,(∀ en,en∈E→fil en.2=2)→H7 E=2*E.length:=by
  intro E
  induction E with
  | nil=>exact fun _=>rfl
  | cons x r S=>
   intro hE;simp only[H7,List.length_cons,hE x (List.mem_cons_self ..),S fun en u=>hE en (List.mem_cons_of_mem _ u)]
   omega
 have hs:=P _ y;have C:X7 ls=Z5 isX ls:=rfl;exact⟨hC,af _ (Nat.le_refl _),by omega,I,by omega⟩
theorem Zv5{ls:List Lt}{n:Nat}:∀ {i:Nat},crF ls n i=true → ∀ j,j<i→isX (at' ls j)=true→1≤(at' ls j).i∧(at' ls j).i≤(n / 2:Nat)
 | 0,_,j,d,_=>by omega
 | i+1,h,j,d,c=>by
  simp only[crF,bA,Bool.or_eq_true,Bool.not_eq_true',decide_eq_true_eq]at h;rcases Nat.lt_or_ge j i with b|b
  ·exact Zv5 h.1 j b c
  ·have:j=i:=by omega
   subst this;rcases h.2 with a|a
   ·rw[c]at a; cases a
   ·exact a.1
theorem Yat{F:Nat}{ls:List Lt}(z:ls.all (okC F)=true)(J:rkF ls (Z3 ls) ls.length=true)(A:CrOk ls):ls.all (okR F ls)=true:=by
 have H:=Zhe z;obtain⟨s,q⟩:=Zm9 H J;refine List.all_eq_true.2 fun l hm=>?_
 obtain⟨v,m,rfl⟩:=Z23 hm;have f:=List.all_eq_true.1 z _ hm;unfold okC at f;unfold okR;split at f
 ·rename_i h;rw[if_pos h];have B:isP (at' ls v)=true:=by simp[isP,h]
  obtain⟨S,U⟩:=s _ hm B;have N:same (at' ls v) ls=1:=Zxd m (by simp) fun x n c=>by
   simp only[bA,beq_iff_eq]at c;exact q x v n m (by simp[isP,c.1.1,h]) B c.1.2 c.2
  simp at f ⊢
  grind
 ·rename_i h;rw[if_neg h];split at f
  ·rename_i b;rw[if_pos b];have n:isX (at' ls v)=true:=by simp[isX,b]
   obtain⟨P,Q⟩:=Zv5 A.2.1 v m n;obtain⟨p,w,j,K,L,M,t,D,u,y,E,G,g,C⟩:=Zfk A m n;have O:G9 (at' ls v).i ls=2:=Z4z m (by simp[n]) t (by simp[u,y]) (fun e=>D e.symm) fun x d a=>by
    simp only[bA,beq_iff_eq]at a;exact g x d a.1 a.2
   have r:(at' ls j).k=2:=by simpa[isX]using u
   have I:Zao (at' ls v) ls=1:=Zxd t (by simp[y,E,G,r,b]) fun x d a=>by
    simp only[bA,beq_iff_eq,bne_iff_ne,ne_eq]at a;rcases g x d (by simp[isX,a.1.1.1,b]) a.1.1.2 with o|o
    ·subst o; exact absurd rfl a.2
    ·exact o
   simp at f ⊢;omega
  ·cases f
end Go.Known
end
section
namespace Go.Known
open Go Go.AE Go.Proofs
open Go.Plain
attribute [local simp] Zdk Zcv Zbn Zdb Zb9 Zdz Zcb Zcm Zc7 O6 O3 P8 P7 O1 O5 Zcy Zbm Zdo Zdd Zd5 Zdy Zdf Zdi Zbj Zbv Zdw Zbe Zbz Zbf Zca Zde Zbg Zd2 Zbh Zc5 Zdj Zc4 Zcq Zcr Zbu Zb8 Zd0 Zch Zby Zbq Zcg Zb5 Zcn Zcl Zbp Zck Zdc Zb3 Zcu Zdh Zb0 Zdq Zbs Zc2 Zb4 Zb7 Zdn Zdr Zd1 Zcp Zcd Zb1 Za8 Za3 Zc8 Env.get U1 SMem.at SMem.app SMem.get Z7 S3 AVal.cells AVal.one T7 P0 Zc6 Zbi Zbo Zbc Zda Zcx Zdp Zcz Zbw Zc3 Zdm Zc9 Zdv unA Q7 T0 H5 L4 W8 aundef Zbx Zbr Zce Zbt Zdg P5 Y8 L8 L3 H3 B5 Q9 F4 SubR SubRE SubRB InjK InjA qOf W3 AVal.ren U7 Z6 ABlk.ren V7 V8 Y9 FT.indep N4 O4 I0 H4 in1 Zkb
set_option maxRecDepth 100000 in
set_option maxHeartbeats 8000000 in
theorem c15(f:Int)(ls:List Lt)(h:ls.length≤1000):PCall Tryz.prog 62 [cV f ls] (.bool (ls.all (okR f ls))):=by
 refine Za0 hm Tryz.func62 cf15 rfl rfl (by simp[X4,C8]) trivial fun K hK=>?_
 have hR:=M9 ls;have w:∀ q,Z6 q (ls.map rowL)=ls.map rowL:=fun q=>X6 q _ (U6 ls)
 have a0:=fun x=>c37 f ls x h
 have au:=fun x=>c38 f ls x h
 have ar:=c13 f ls h;unfold cV at *;generalize ls.map rowL=rows at *;have a:=hR.len;have ah:ls.all (okR f ls)=true → ∀ m,SubR 1 [] [(0,.bool true)] ⟨[],1⟩ [(0,.bool true)] m→O9 1 K (.bool true) m:=fun he m hs=>by rw[he]at hK; exact Z9 hK [] hs
 have af:ls.all (okR f ls)=false → ∀ m,SubR 1 [] [(0,.bool false)] ⟨[],1⟩ [(0,.bool false)] m→O9 1 K (.bool false) m:=fun he m hs=>by rw[he]at hK; exact Z9 hK [] hs
 clear hK;simp;refine B0 (α:=Nat) (fun i=>[(3,.int .i64 i),(1,.ptr 1 0 0)]) (fun i=>⟨[(1,.cells 2 [[.int .i64 f,.imm rows]])],2⟩)
  (fun i=>ls.length - i) (fun i=>i≤ls.length∧(ls.take i).all (okR f ls)=true) 0 [] (by simp[w]) (by simp) ?_
 rintro i ⟨hi,aa⟩ N hN
 try simp only at hi aa hN ⊢
 by_cases ad:i<ls.length
 ·have ag:=hR.row i ad;obtain⟨_,al⟩:=Y5 ag;have am:IntKind.i64.wrap ((i:Int)+1)=(i:Int)+1:=Z1 (by omega) (by omega)
  have a2:at' ls i∈ls:=K2 ad;have ac:ls.take (i+1)=ls.take i++[at' ls i]:=by
   rw[List.take_add_one,at',List.getD,gE ad];rfl
  generalize at' ls i=l at *;have B:okR f ls l=false → ∀ m,SubR 1 [] [(0,.bool false)] ⟨[],1⟩ [(0,.bool false)] m→O9 1 K (.bool false) m:=fun e=>af (by
   rw[List.all_eq_false];exact⟨l,a2,by simp[e]⟩)
  have ae:okR f ls l=true→(ls.take (i+1)).all (okR f ls)=true:=fun e=>by
   rw[ac,List.all_append,aa]; simp[e]
  clear af ac ah;rcases l with⟨X,Q,V,I,J,lo⟩
  simp[a,ad,ag,al,rowL];refine B0 (α:=Nat) (fun j=>[(7,.int .i64 j),(6,.int .i64 (Z5 (fun o=>o.k == X&&o.i == I&&o.s == J&&o.o != lo) (ls.take j):Nat)),(5,.int .i64 (Z5 (fun o=>o.k == X&&o.g == Q&&o.r == V) (ls.take j):Nat)),(4,.ptr 2 0 0),(3,.int .i64 i),(1,.ptr 1 0 0)])
   (fun j=>⟨[(1,.cells 2 [[.int .i64 f,.imm rows]]),(2,.cells 6 [[.int .i64 X,.int .i64 Q,.int .i64 V,.int .i64 I,.int .i64 J,.bool lo]])],3⟩)
   (fun j=>ls.length - j) (fun j=>j≤ls.length) 0 [(2,12)] (by simp[w,Z5]) (by simp) ?_
  intro j hj N2 A
  try simp only at hj A ⊢
  by_cases y:j<ls.length
  ·have c:=hR.row j y;obtain⟨_,b⟩:=Y5 c;have F:IntKind.i64.wrap ((j:Int)+1)=(j:Int)+1:=Z1 (by omega) (by omega)
   have d:=Zba (p:=fun o=>o.k == X&&o.g == Q&&o.r == V) y
   have n:=Zba (p:=fun o=>o.k == X&&o.i == I&&o.s == J&&o.o != lo) y
   have a3:=Zcf (p:=fun o=>o.k == X&&o.g == Q&&o.r == V) (ls:=ls) j
   have a4:=Zcf (p:=fun o=>o.k == X&&o.i == I&&o.s == J&&o.o != lo) (ls:=ls) j
   clear B ae hN;generalize Z5 (fun o=>o.k == X&&o.g == Q&&o.r == V) (ls.take j)=c1 at d a3 ⊢
   generalize Z5 (fun o=>o.k == X&&o.i == I&&o.s == J&&o.o != lo) (ls.take j)=c2 at n a4 ⊢
   have D:IntKind.i64.wrap ((c1:Int)+1)=(c1:Int)+1:=Z1 (by omega) (by omega)
   have E:IntKind.i64.wrap ((c2:Int)+1)=(c2:Int)+1:=Z1 (by omega) (by omega)
   generalize at' ls j=o at *;rcases o with⟨ok,og,or,oi,an,oo⟩
   simp only at d n;by_cases G:ok=X
   ·by_cases H:og=Q
    ·by_cases O:or=V
     ·by_cases t:oi=I
      ·by_cases u:an=J
       ·cases oo with
        | true=>
         cases lo with
         | true=>
          simp[G,H,O,t,u]at d n;simp[a,y,c,b,rowL,F,D,E,G,H,O,t,u];exact A (j+1) [] _ _ (by omega) (by omega) (by simp[w,d,n])
         | false=>
          simp[G,H,O,t,u]at d n;simp[a,y,c,b,rowL,F,D,E,G,H,O,t,u];exact A (j+1) [] _ _ (by omega) (by omega) (by simp[w,d,n])
        | false=>
         cases lo with
         | true=>
          simp[G,H,O,t,u]at d n;simp[a,y,c,b,rowL,F,D,E,G,H,O,t,u];exact A (j+1) [] _ _ (by omega) (by omega) (by simp[w,d,n])
         | false=>
          simp[G,H,O,t,u]at d n;simp[a,y,c,b,rowL,F,D,E,G,H,O,t,u];exact A (j+1) [] _ _ (by omega) (by omega) (by simp[w,d,n])
       ·simp[G,H,O,t,u]at d n;simp[a,y,c,b,rowL,F,D,E,G,H,O,t,u];exact A (j+1) [] _ _ (by omega) (by omega) (by simp[w,d,n])
      ·simp[G,H,O,t]at d n;simp[a,y,c,b,rowL,F,D,E,G,H,O,t];exact A (j+1) [] _ _ (by omega) (by omega) (by simp[w,d,n])
     ·by_cases t:oi=I
      ·by_cases u:an=J
       ·cases oo with
        | true=>
         cases lo with
         | true=>
          simp[G,H,O,t,u]at d n;simp[a,y,c,b,rowL,F,D,E,G,H,O,t,u];exact A (j+1) [] _ _ (by omega) (by omega) (by simp[w,d,n])
         | false=>
          simp[G,H,O,t,u]at d n;simp[a,y,c,b,rowL,F,D,E,G,H,O,t,u];exact A (j+1) [] _ _ (by omega) (by omega) (by simp[w,d,n])
        | false=>
         cases lo with
         | true=>
          simp[G,H,O,t,u]at d n;simp[a,y,c,b,rowL,F,D,E,G,H,O,t,u];exact A (j+1) [] _ _ (by omega) (by omega) (by simp[w,d,n])
         | false=>
          simp[G,H,O,t,u]at d n;simp[a,y,c,b,rowL,F,D,E,G,H,O,t,u];exact A (j+1) [] _ _ (by omega) (by omega) (by simp[w,d,n])
       ·simp[G,H,O,t,u]at d n;simp[a,y,c,b,rowL,F,D,E,G,H,O,t,u];exact A (j+1) [] _ _ (by omega) (by omega) (by simp[w,d,n])
      ·simp[G,H,O,t]at d n;simp[a,y,c,b,rowL,F,D,E,G,H,O,t];exact A (j+1) [] _ _ (by omega) (by omega) (by simp[w,d,n])
    ·by_cases t:oi=I
     ·by_cases u:an=J
      ·cases oo with
       | true=>
        cases lo with
        | true=>
         simp[G,H,t,u]at d n;simp[a,y,c,b,rowL,F,D,E,G,H,t,u];exact A (j+1) [] _ _ (by omega) (by omega) (by simp[w,d,n])
        | false=>
         simp[G,H,t,u]at d n;simp[a,y,c,b,rowL,F,D,E,G,H,t,u];exact A (j+1) [] _ _ (by omega) (by omega) (by simp[w,d,n])
       | false=>
        cases lo with
        | true=>
         simp[G,H,t,u]at d n;simp[a,y,c,b,rowL,F,D,E,G,H,t,u];exact A (j+1) [] _ _ (by omega) (by omega) (by simp[w,d,n])
        | false=>
         simp[G,H,t,u]at d n;simp[a,y,c,b,rowL,F,D,E,G,H,t,u];exact A (j+1) [] _ _ (by omega) (by omega) (by simp[w,d,n])
      ·simp[G,H,t,u]at d n;simp[a,y,c,b,rowL,F,D,E,G,H,t,u];exact A (j+1) [] _ _ (by omega) (by omega) (by simp[w,d,n])
     ·simp[G,H,t]at d n;simp[a,y,c,b,rowL,F,D,E,G,H,t];exact A (j+1) [] _ _ (by omega) (by omega) (by simp[w,d,n])
   ·simp[G]at d n;simp[a,y,c,b,rowL,F,D,E,G];exact A (j+1) [] _ _ (by omega) (by omega) (by simp[w,d,n])
  have he:j=ls.length:=by omega
  subst he;clear A;rw[List.take_length];have av:Z5 (fun o=>o.k == X&&o.g == Q&&o.r == V) ls=same ⟨X,Q,V,I,J,lo⟩ ls:=rfl
  have aw:Z5 (fun o=>o.k == X&&o.i == I&&o.s == J&&o.o != lo) ls=Zao ⟨X,Q,V,I,J,lo⟩ ls:=rfl
  rw[av,aw];clear av aw;by_cases aj:X=1
  ·subst aj;by_cases g1:¬I=0
   ·simp[a,g1]; exact B (by simp[okR,g1]) _ (by simp)
   have g1:=Classical.not_not.1 g1;subst g1;by_cases g2:¬J=0
   ·simp[a,g2]; exact B (by simp[okR,g2]) _ (by simp)
   have g2:=Classical.not_not.1 g2;subst g2;cases lo with
   | true=>simp[a]; exact B (by simp[okR]) _ (by simp)
   | false=>
    by_cases L:Q<0
    ·have v:¬0≤Q:=by omega
     simp[a,L,v]; exact B (by simp[okR,L,v]) _ (by simp)
    have v:0≤Q:=by omega
    by_cases S:f<Q
    ·have z:¬Q≤f:=by omega
     simp[a,L,v,S,z]; exact B (by simp[okR,L,v,S,z]) _ (by simp)
    have z:Q≤f:=by omega
    by_cases P:V<1
    ·have C:¬1≤V:=by omega
     simp[a,L,v,S,z,P,C]; exact B (by simp[okR,L,v,S,z,P,C]) _ (by simp)
    have C:1≤V:=by omega
    simp[a,L,S,P];refine A6 (a0 Q) ?_;have a1:Z5 (fun l=>isP l&&l.g == Q) ls=inG Q ls:=rfl
    rw[a1];by_cases Z:((inG Q ls:Nat):Int)<V
    ·have M:¬V≤((inG Q ls:Nat):Int):=by omega
     simp[a,L,v,S,z,P,C,Z,M]; exact B (by simp[okR,L,v,S,z,P,C,Z,M]) _ (by simp)
    have M:V≤((inG Q ls:Nat):Int):=by omega
    generalize ax:same ⟨1,Q,V,0,0,false⟩ ls=sm at *;by_cases g8:sm=1
    ·have ai:(sm:Int)=1:=by omega
     simp[a,L,S,P,Z,g8,ai,am];exact hN (i+1) [] _ _ (by omega) ⟨by omega,ae (by simp[okR,v,z,C,M,ax,g8])⟩ (by simp[w])
    ·have ai:¬(sm:Int)=1:=by omega
     simp[a,L,S,P,Z,g8,ai];exact B (by simp[okR,v,z,C,M,ax,g8]) _ (by simp)
  by_cases ak:X=2
  ·subst ak;by_cases g1:¬Q=0
   ·simp[a,g1]; exact B (by simp[okR,g1]) _ (by simp)
   have g1:=Classical.not_not.1 g1;subst g1;by_cases g2:¬V=0
   ·simp[a,g2]; exact B (by simp[okR,g2]) _ (by simp)
   have g2:=Classical.not_not.1 g2;subst g2;by_cases g3:¬J=1 ∧ ¬J = -1
   ·obtain⟨ao,aq⟩:=g3;simp[a,ao,aq]; exact B (by simp[okR,ao,aq]) _ (by simp)
   have ab:J=1∨J = -1:=by omega
   have a5:X7 ls≤ls.length:=Za6;have U:IntKind.i64.wrap ((X7 ls:Int) / 2)=(X7 ls:Int) / 2:=Z1 (by omega) (by omega)
   have az:Z5 isX ls=X7 ls:=rfl;have ay:Z5 (fun l=>isX l&&l.i == I) ls=G9 I ls:=rfl
   rcases ab with ab|ab
   ·subst ab;by_cases L:I<1
    ·have v:¬1≤I:=by omega
     simp[a,L,v]; exact B (by simp[okR,L,v]) _ (by simp)
    have v:1≤I:=by omega
    simp[a,L];refine A6 ar ?_;rw[az];by_cases S:(X7 ls:Int) / 2<I
    ·have z:¬I≤(X7 ls:Int) / 2:=by omega
     simp[a,L,U,S];exact B (by simp[okR,v,z]) _ (by simp)
    have z:I≤(X7 ls:Int) / 2:=by omega
    generalize Y:Zao ⟨2,0,0,I,1,lo⟩ ls=pr at *;by_cases P:pr=1
    rotate_left
    ·have C:¬(pr:Int)=1:=by omega
     simp[a,L,U,S,P,C];exact B (by simp[okR,Y,v,z,P]) _ (by simp)
    have C:(pr:Int)=1:=by omega
    simp[a,L,U,S,P,C];refine A6 (au I) ?_;rw[ay];by_cases Z:G9 I ls=2
    ·have M:((G9 I ls:Nat):Int)=2:=by omega
     simp[a,L,U,S,P,C,Z,M,am];exact hN (i+1) [] _ _ (by omega) ⟨by omega,ae (by simp[okR,Y,v,z,P,Z])⟩ (by simp[w])
    ·have M:¬((G9 I ls:Nat):Int)=2:=by omega
     simp[a,L,U,S,P,C,Z,M];exact B (by simp[okR,Y,v,z,P,Z]) _ (by simp)
   ·subst ab;by_cases L:I<1
    ·have v:¬1≤I:=by omega
     simp[a,L,v]; exact B (by simp[okR,L,v]) _ (by simp)
    have v:1≤I:=by omega
    simp[a,L];refine A6 ar ?_;rw[az];by_cases S:(X7 ls:Int) / 2<I
    ·have z:¬I≤(X7 ls:Int) / 2:=by omega
     simp[a,L,U,S];exact B (by simp[okR,v,z]) _ (by simp)
    have z:I≤(X7 ls:Int) / 2:=by omega
    generalize Y:Zao ⟨2,0,0,I,-1,lo⟩ ls=pr at *;by_cases P:pr=1
    rotate_left
    ·have C:¬(pr:Int)=1:=by omega
     simp[a,L,U,S,P,C];exact B (by simp[okR,Y,v,z,P]) _ (by simp)
    have C:(pr:Int)=1:=by omega
    simp[a,L,U,S,P,C];refine A6 (au I) ?_;rw[ay];by_cases Z:G9 I ls=2
    ·have M:((G9 I ls:Nat):Int)=2:=by omega
     simp[a,L,U,S,P,C,Z,M,am];exact hN (i+1) [] _ _ (by omega) ⟨by omega,ae (by simp[okR,Y,v,z,P,Z])⟩ (by simp[w])
    ·have M:¬((G9 I ls:Nat):Int)=2:=by omega
     simp[a,L,U,S,P,C,Z,M];exact B (by simp[okR,Y,v,z,P,Z]) _ (by simp)
  ·simp[a,aj,ak]; exact B (by simp[okR,aj,ak]) _ (by simp)
 have he:i=ls.length:=by omega
 subst he;rw[List.take_length]at aa;simp[a];exact ah aa _ (by simp)
end Go.Known
end
section
namespace Go.Known
open Go Go.AE Go.Proofs
open Go.Plain
attribute [local simp] Zdk Zcv Zbn Zdb Zb9 Zdz Zcb Zcm Zc7 O6 O3 P8 P7 O1 O5 Zcy Zbm Zdo Zdd Zd5 Zdy Zdf Zdi Zbj Zbv Zdw Zbe Zbz Zbf Zca Zde Zbg Zd2 Zbh Zc5 Zdj Zc4 Zcq Zcr Zbu Zb8 Zd0 Zch Zby Zbq Zcg Zb5 Zcn Zcl Zbp Zck Zdc Zb3 Zcu Zdh Zb0 Zdq Zbs Zc2 Zb4 Zb7 Zdn Zdr Zd1 Zcp Zcd Zb1 Za8 Za3 Zc8 Env.get U1 SMem.at SMem.app SMem.get Z7 S3 AVal.cells AVal.one T7 P0 Zc6 Zbi Zbo Zbc Zda Zcx Zdp Zcz Zbw Zc3 Zdm Zc9 Zdv unA Q7 T0 H5 L4 W8 aundef Zbx Zbr Zce Zbt Zdg P5 Y8 L8 L3 H3 B5 Q9 F4 SubR SubRE SubRB InjK InjA qOf W3 AVal.ren U7 Z6 ABlk.ren V7 V8 Y9 FT.indep N4 O4 I0 H4 in1 Zkb Ztd
set_option maxRecDepth 100000 in
set_option maxHeartbeats 4000000 in
theorem c4(f:Int)(ls:List Lt)(h:ls.length≤1000):PCall Tryz.prog 33 [cV f ls] (.int .i64 (P2 f ls)):=by
 refine Za0 hm Tryz.func33 cf4 rfl rfl (by simp[X4,C8]) trivial fun K O=>?_
 have hR:=M9 ls;have H:=c13 f ls h;have I:=c14 f ls h;have J:=c15 f ls h;have L:=c16' f ls h;have M:=c17 f ls h;unfold cV at *;generalize ls.map rowL=rows at *;have a:=hR.len;have b:∀ e:Int,P2 f ls=e → ∀ m,SubR 1 [] [(0,.int .i64 e)] ⟨[],1⟩ [(0,.int .i64 e)] m→O9 1 K (.int .i64 e) m:=fun e he m hs=>by rw[he]at O; exact Z9 O [] hs
 clear O;have X:Z5 isX ls=X7 ls:=rfl;have hp:Z5 isP ls=Z3 ls:=rfl;have aa:Z3 ls≤ls.length:=Za6;by_cases Q:400<ls.length
 ·have t:(400:Int)<(ls.length:Int):=by omega
  simp[a,Q,t];exact b 7 (by unfold P2; rw[if_pos (.inl Q)]) _ (by simp)
 have t:¬(400:Int)<(ls.length:Int):=by omega
 simp[a,Q,t];refine J7 H ?_;rw[X];by_cases w:200<X7 ls
 ·have i:(200:Int)<(X7 ls:Int):=by omega
  simp[w,i];exact b 7 (by unfold P2; rw[if_pos (.inr w)]) _ (by simp)
 have i:¬(200:Int)<(X7 ls:Int):=by omega
 have y:¬(400<ls.length∨200<X7 ls):=by omega
 by_cases j:f<0
 ·simp[w,i,j];exact b 2 (by unfold P2; rw[if_neg y,if_pos (.inl j)]) _ (by simp)
 by_cases o:40<f
 ·simp[w,i,j,o];exact b 2 (by unfold P2; rw[if_neg y,if_pos (.inr o)]) _ (by simp)
 have N:¬(f<0∨40<f):=by omega
 have Z:((f.toNat:Nat):Int)=f:=by omega
 by_cases u:ls=[]
 ·have V:rows=[]:=List.length_eq_zero_iff.1 (by rw[a,u]; rfl)
  subst V;simp[w,i,j,o,a,u];exact b 0 (by unfold P2; rw[if_neg y,if_neg N,if_pos (.inl u)]) _ (by simp)
 have c:0<ls.length:=List.length_pos_iff.2 u;have S:¬rows=[]:=fun e=>by rw[e]at a; simp at a; omega
 have g:=hR.row 0 c;obtain⟨_,d⟩:=Y5 g;have n:¬Zgm f.toNat ls→P2 f ls=3:=fun hb=>by unfold P2; rw[if_neg y,if_neg N,if_neg (fun l=>l.elim u hb)]
 simp[w,i,j,o,a,u,S];refine J7 I ?_;rw[hp];by_cases p:¬(at' ls 0).k=1
 ·simp[a,c,g,d,rowL,p];exact b 3 (n fun l=>p l.2.1) _ (by simp)
 have p:=Classical.not_not.1 p;have A:(Z3 ls:Int).tmod 2=((Z3 ls % 2:Nat):Int):=rfl;by_cases E:Z3 ls % 2=0
 rotate_left
 ·have F:Z3 ls % 2=1:=by omega
  simp[-Int.natCast_emod,a,c,g,d,rowL,p,A,F];exact b 3 (n fun l=>E l.2.2.1) _ (by simp)
 simp[-Int.natCast_emod,a,c,g,d,rowL,p,A,E];refine A6 J ?_;cases Y:ls.all (okR f ls)with
 | false=>
  simp;exact b 3 (n fun l=>by
   have:=Yat l.1 l.2.2.2.1 l.2.2.2.2.1;rw[Z,Y]at this; cases this) _ (by simp)
 | true=>
  have G:ls.all (okR (f.toNat:Nat) ls)=true:=by rw[Z]; exact Y
  obtain⟨q1,q2,q3⟩:=Zqv G;have U:0<Z3 ls:=by
   rw[← H6];exact List.length_pos_of_mem (mem_axis.2 ⟨c,by simp[isP,p]⟩)
  have P:∀ v,v<ls.length→(at' ls v).k≠2→(at' ls v).k=1:=fun v X h3=>(Zw2 (List.all_eq_true.1 q1 _ (K2 X))).resolve_right h3
  have q:=L U P;obtain⟨cy,z⟩:∃ cy,K1 (V1 ls (Z4 ls)) (2*ls.length+2*Z3 ls)=cy:=⟨_,rfl⟩
  have s:(K5 (Q8 (V1 ls (Z4 ls)) (2*ls.length+2*Z3 ls))).length=cy:=by rw[Zpk,Q8,Zf9]; exact z
  generalize K5 (Q8 (V1 ls (Z4 ls)) (2*ls.length+2*Z3 ls))=WR at q s;have ab:X7 ls≤ls.length:=Za6;have B:IntKind.i64.wrap ((Z3 ls:Int)+(X7 ls:Int) / 2)=(Z3 ls:Int)+(X7 ls:Int) / 2:=Z1 (by omega) (by omega)
  have C:IntKind.i64.wrap ((Z3 ls:Int)+(X7 ls:Int) / 2+2)=(Z3 ls:Int)+(X7 ls:Int) / 2+2:=Z1 (by omega) (by omega)
  simp;refine A6 q ?_;simp;refine A6 M ?_;have r:K1 (V1 ls (Z4 ls)) (2*ls.length+2*(Z4 ls).length)=(Z4 ls).length+(crE ls ls.length).length+2↔(cy:Int)=(Z3 ls:Int)+(X7 ls:Int) / 2+2:=by
   rw[H6,z,q3.2.2];omega
  by_cases D:(cy:Int)=(Z3 ls:Int)+(X7 ls:Int) / 2+2
  ·simp[s,B,C,D];exact b 0 (by unfold P2; rw[if_neg y,if_neg N,if_pos (.inr ⟨q1,p,E,q2,q3,r.2 D⟩)]) _ (by simp)
  ·simp[s,B,C,D];exact b 3 (n fun l=>D (r.1 l.2.2.2.2.2)) _ (by simp)
end Go.Known
end
