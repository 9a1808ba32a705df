/- Part 28 of the proof: Ph, Rh, Ri. -/
import Derived.Test.YtipeejpafgnjdaaGreatDoorH13
import Derived.Test.YtipeejpafgnjdaaGreatDoorH20
import Derived.Test.YtipeejpafgnjdaaGreatDoorH21
import Derived.Test.YtipeejpafgnjdaaGreatDoorH26
set_option linter.all false
section
namespace Go.Known
open Go.Plain
theorem Zg4(p:Lt→Bool)(ls:List Lt):∃ L:List Nat,L.Nodup∧Z4 p ls=L.length ∧ ∀ x,x∈L↔(x<ls.length∧p (at' ls x)=true):=
 ⟨(List.range ls.length).filter fun j=>p (at' ls j),List.nodup_range.filter _,(Zmp ls p).symm,fun x=>by simp⟩
theorem Zzo{p:Lt→Bool}{ls:List Lt}{j:Nat}(hj:j<ls.length)(hp:p (at' ls j)=true)(hu:∀ x,x<ls.length→p (at' ls x)=true→x=j):Z4 p ls=1:=by
 obtain⟨L,hn,hl,hm⟩:=Zg4 p ls;rw[hl];have hjm:=(hm j).2 ⟨hj,hp⟩
 match L,hn,hm,hjm with
 | [],_,_,h=>simp at h
 | [_],_,_,_=>rfl
 | y :: z :: t,hn,hm,_=>
  have hy:=(hm y).1 (by simp)
  have hz:=(hm z).1 (by simp)
  have:y=z:=(hu y hy.1 hy.2).trans (hu z hz.1 hz.2).symm;subst this;simp at hn
theorem Ybs{p:Lt→Bool}{ls:List Lt}(h:Z4 p ls=1){j k:Nat}(hj:j<ls.length)(hpj:p (at' ls j)=true)(hk:k<ls.length)(hpk:p (at' ls k)=true):j=k:=by
 obtain⟨L,hn,hl,hm⟩:=Zg4 p ls;rw[hl]at h;have hjm:=(hm j).2 ⟨hj,hpj⟩;have hkm:=(hm k).2 ⟨hk,hpk⟩
 match L,h,hjm,hkm with
 | [y],_,hjm,hkm=>simp at hjm hkm; omega
theorem Ya9{p:Lt→Bool}{ls:List Lt}(h:0<Z4 p ls):∃ j,j<ls.length∧p (at' ls j)=true:=by
 obtain⟨L,hn,hl,hm⟩:=Zg4 p ls;rw[hl]at h
 match L,h,hm with
 | y :: t,_,hm=>exact ⟨y,(hm y).1 (by simp)⟩
theorem Z3d{p:Lt→Bool}{ls:List Lt}{a b:Nat}(ha:a<ls.length)(hpa:p (at' ls a)=true)(hb:b<ls.length)(hpb:p (at' ls b)=true)(hab:a≠b)(hu:∀ x,x<ls.length→p (at' ls x)=true→x=a∨x=b):Z4 p ls=2:=by
 obtain⟨L,hn,hl,hm⟩:=Zg4 p ls;rw[hl];have hma:=(hm a).2 ⟨ha,hpa⟩;have hmb:=(hm b).2 ⟨hb,hpb⟩
 match L,hn,hm,hma,hmb with
 | [],_,_,h,_=>simp at h
 | [y],_,_,h1,h2=>simp at h1 h2; omega
 | [_,_],_,_,_,_=>rfl
 | x :: y :: z :: t,hn,hm,_,_=>
  have hx:=(hm x).1 (by simp)
  have hy:=(hm y).1 (by simp)
  have hz:=(hm z).1 (by simp)
  have h1:=hu x hx.1 hx.2;have h2:=hu y hy.1 hy.2;have h3:=hu z hz.1 hz.2;simp only[List.nodup_cons,List.mem_cons,not_or]at hn;omega
theorem Z1q{p:Lt→Bool}{ls:List Lt}(h:Z4 p ls=2){a b x:Nat}(ha:a<ls.length)(hpa:p (at' ls a)=true)(hb:b<ls.length)(hpb:p (at' ls b)=true)(hab:a≠b)(hx:x<ls.length)(hpx:p (at' ls x)=true):x=a∨x=b:=by
 obtain⟨L,hn,hl,hm⟩:=Zg4 p ls;rw[hl]at h;have hma:=(hm a).2 ⟨ha,hpa⟩;have hmb:=(hm b).2 ⟨hb,hpb⟩;have hmx:=(hm x).2 ⟨hx,hpx⟩
 match L,h,hma,hmb,hmx with
 | [y,z],_,h1,h2,h3=>simp at h1 h2 h3; omega
theorem Z0g{p:Lt→Bool}{ls:List Lt}(h:Z4 p ls=2){a:Nat}(ha:a<ls.length)(hpa:p (at' ls a)=true):∃ b,b<ls.length∧p (at' ls b)=true∧a≠b:=by
 obtain⟨L,hn,hl,hm⟩:=Zg4 p ls;rw[hl]at h;have hma:=(hm a).2 ⟨ha,hpa⟩
 match L,h,hn,hm,hma with
 | [y,z],_,hn,hm,h1=>
  have hy:=(hm y).1 (by simp)
  have hz:=(hm z).1 (by simp)
  simp at h1 hn;rcases h1 with h1|h1
  ·exact⟨z,hz.1,hz.2,by omega⟩
  ·exact⟨y,hy.1,hy.2,by omega⟩
theorem Z00{F:Nat}{ls:List Lt}(hG:Za8 F ls){a b:Lt}(ha:a∈ls)(hb:b∈ls)(hpa:isP a=true)(hpb:isP b=true)(ha1:1≤a.r)(ha2:a.r≤(inG a.g ls:Nat))(hb1:1≤b.r)(hb2:b.r≤(inG b.g ls:Nat))(h:pos ls a=pos ls b):a.g=b.g∧a.r=b.r:=by
 obtain⟨G,hg⟩:∃ G:Nat,a.g=(G:Nat):=⟨a.g.toNat,by have:=hG a ha hpa; omega⟩
 obtain⟨H,hh⟩:∃ H:Nat,b.g=(H:Nat):=⟨b.g.toNat,by have:=hG b hb hpb; omega⟩
 rw[Zmd hg,Zmd hh]at h;rw[hg]at ha2;rw[hh]at hb2;have mono:∀ x y,x≤y→tot ls x≤tot ls y:=fun x y hxy=>by
  induction hxy with
  | refl=>exact Nat.le_refl _
  | step _ ih=>rw[Zjx]; omega
 have h1:=Zjx ls G;have h2:=Zjx ls H;rcases Nat.lt_trichotomy G H with h3|h3|h3
 ·have:=mono (G+1) H h3; omega
 ·subst h3; omega
 ·have:=mono (H+1) G h3; omega
theorem Zxf(ls:List Lt):∀ i q e,(crE ls i)[q]? = some e→fnd e.1 (crE ls i)=some (q,e.2)
 | 0,q,e,h=>by simp[crE]at h
 | i+1,q,e,h=>by
  have ih:=Zxf ls i;simp only[crE]at h ⊢;split at h
  ·rename_i hx;rw[if_pos hx];unfold updE at h ⊢;cases hf:fnd (at' ls i).i (crE ls i)with
   | some pv=>
    obtain⟨p,v⟩:=pv;rw[hf]at h;simp only at h ⊢;rw[List.getElem?_set]at h;split at h
    ·rename_i hpq;split at h
     ·cases h;subst hpq;rw[Zla hf,if_pos rfl]
     ·cases h
    ·rename_i hpq;have h1:=ih q e h;rw[Zla hf,if_neg (fun e1=>by rw[e1,hf]at h1; cases h1; exact hpq rfl)]
     exact h1
   | none=>
    rw[hf]at h;simp only at h ⊢;rw[Zo2 hf];rw[List.getElem?_append]at h;split at h
    ·have h1:=ih q e h;rw[if_neg (fun e1=>by rw[e1,hf]at h1; cases h1)]
     exact h1
    ·rename_i hge;obtain⟨h1,h2⟩:=gS.1 h;simp at h1 h2;subst h2;rw[if_pos rfl];have:q=(crE ls i).length:=by omega
     rw[this]
  ·rename_i hx;rw[if_neg hx];exact ih q e h
theorem Z6z{ls:List Lt}{l:Lt}(h:l∈ls):∃ j,j<ls.length∧at' ls j=l:=by
 obtain⟨j,hj,he⟩:=List.getElem_of_mem h;exact⟨j,hj,by rw[at',List.getD,gE hj,he]; rfl⟩
theorem Zqv{F:Nat}{ls:List Lt}(h:ls.all (okR F ls)=true):ls.all (okC F)=true∧rkF ls (Z1 ls) ls.length=true∧CrOk ls:=by
 have hl:∀ l,l∈ls→okR F ls l=true:=List.all_eq_true.1 h
 have hC:ls.all (okC F)=true:=List.all_eq_true.2 fun l hm=>by
  have:=hl l hm;unfold okR at this;unfold okC;split at this
  ·rename_i hk;rw[if_pos hk];simp at this ⊢
   grind
  ·rename_i hk;split at this
   ·rename_i hk2;rw[if_neg hk,if_pos hk2];simp at this ⊢;omega
   ·cases this
 have hG:=Zgn hC;have hP:∀ v,v<ls.length→isP (at' ls v)=true→1≤(at' ls v).r∧(at' ls v).r≤(inG (at' ls v).g ls:Nat)∧same (at' ls v) ls=1:=fun v hv hp=>by
  have:=hl _ (R9 hv);simp only[isP,beq_iff_eq]at hp;unfold okR at this;rw[if_pos hp]at this;simp at this;exact⟨this.1.1.2,this.1.2,this.2⟩
 have hX:∀ v,v<ls.length→isX (at' ls v)=true→1≤(at' ls v).i∧(at' ls v).i≤(Y7 ls / 2:Nat)∧Zba (at' ls v) ls=1∧M9 (at' ls v).i ls=2:=fun v hv hp=>by
  have:=hl _ (R9 hv);simp only[isX,beq_iff_eq]at hp;unfold okR at this;rw[if_neg (by omega),if_pos hp]at this
  simp at this;exact⟨this.1.1.1.2,by omega,this.1.2,this.2⟩
 have hrk:∀ i,i≤ls.length→rkF ls (Z1 ls) i=true:=by
  intro i
  induction i with
  | zero=>exact fun _=>rfl
  | succ i ih=>
   intro hi;have h1:=ih (by omega)
   simp only[rkF,bA,Bool.or_eq_true,Bool.not_eq_true',decide_eq_true_eq];refine⟨h1,?_⟩;cases hp:isP (at' ls i)with
   | false=>exact .inl rfl
   | true=>
    right
    obtain⟨r1,r2,r3⟩:=hP i (by omega) hp
    refine⟨⟨r1,r2⟩,?_⟩;have hin:=R9 (show i<ls.length by omega)
    obtain⟨b,hb,hiff⟩:=Zqa (ls:=ls) (m:=Z1 ls) i _ (Zlm hG hin hp r1 r2);rw[List.getD,hb];simp only[Option.getD_some];cases b with
    | false=>rfl
    | true=>
     obtain⟨j,hj,hpj,he⟩:=hiff.1 rfl;obtain⟨s1,s2,_⟩:=hP j (by omega) hpj
     obtain⟨e1,e2⟩:=Z00 hG (R9 (by omega)) hin hpj hp s1 s2 r1 r2 he
     have hk:(at' ls j).k=(at' ls i).k:=by simp only[isP,beq_iff_eq]at hp hpj; omega
     have:=Ybs r3 (j:=j) (k:=i) (by omega) (by simp[e1,e2,hk]) (by omega) (by simp)
     omega
 have pairW:∀ v,v<ls.length→isX (at' ls v)=true → ∃ x,x<ls.length∧isX (at' ls x)=true∧(at' ls x).i=(at' ls v).i∧(at' ls x).s=(at' ls v).s∧(at' ls x).o≠(at' ls v).o:=fun v hv hx=>by
  obtain⟨_,_,h3,_⟩:=hX v hv hx;obtain⟨x,hxl,hxp⟩:=Ya9 (p:=fun o=>o.k == (at' ls v).k&&o.i == (at' ls v).i&&o.s == (at' ls v).s&&o.o != (at' ls v).o) (ls:=ls) (by unfold Zba at h3; omega)
  simp only[bA,beq_iff_eq,bne_iff_ne,ne_eq]at hxp;refine⟨x,hxl,?_,hxp.1.1.2,hxp.1.2,hxp.2⟩;simp only[isX,beq_iff_eq]at hx ⊢;omega
 have hcr:∀ i,i≤ls.length→crF ls (Y7 ls) i=true:=by
  intro i
  induction i with
  | zero=>exact fun _=>rfl
  | succ i ih=>
   intro hi;have h1:=ih (by omega)
   simp only[crF,bA,Bool.or_eq_true,Bool.not_eq_true',decide_eq_true_eq];refine⟨h1,?_⟩;cases hx:isX (at' ls i)with
   | false=>exact .inl rfl
   | true=>
    right
    obtain⟨r1,r2,r3,r4⟩:=hX i (by omega) hx
    refine⟨⟨r1,r2⟩,?_⟩;obtain⟨b,c,d,e⟩:=Zno i (by omega) h1
    unfold fitE;cases hf:fnd (at' ls i).i (crE ls i)with
    | none=>rfl
    | some pv=>
     obtain⟨q,v⟩:=pv;simp only[bA,decide_eq_true_eq];obtain⟨x,hxl,hxx,hxi,hxs,hxo⟩:=pairW i (by omega) hx
     have key:∀ j,j<i→isX (at' ls j)=true→(at' ls j).i=(at' ls i).i→x=j:=fun j hj hjx hji=>by
      have:=Z1q r4 (a:=i) (b:=j) (x:=x) (by omega) (by simp[hx]) (by omega) (by simp[hjx,hji]) (by omega) hxl (by simp[hxx,hxi])
      rcases this with h7|h7
      ·subst h7; exact absurd rfl hxo
      ·exact h7
     have hneg:T9 (at' ls i).o v<0:=by
      rcases Int.lt_or_le (T9 (at' ls i).o v) 0 with h7|h7
      ·exact h7
      ·obtain⟨j,j1,j2,j3,j4,j5⟩:=b _ _ _ hf _ h7;have:=key j j1 j3 j4;subst this;exact absurd j5 hxo
     refine⟨hneg,?_⟩;obtain⟨v1,v2,v3⟩:=Zgq ls i _ (List.mem_of_getElem? (Zhb hf));simp only at v1 v2 v3;have hpos:0≤T9 (!(at' ls i).o) v:=by
      cases ho:(at' ls i).o<;>rw[ho]at hneg<;>simp only[T9,Bool.not_true,Bool.not_false,bF,if_true,if_false]at hneg ⊢ <;> omega
     obtain⟨j,j1,j2,j3,j4,j5⟩:=b _ _ _ hf _ hpos;have:=key j j1 j3 j4;subst this;rw[j2,Int.toNat_natCast];exact hxs
 have hcf:=hcr ls.length (Nat.le_refl _);obtain⟨b,c,d,e⟩:=Zno ls.length (Nat.le_refl _) hcf;rw[List.take_length]at e;have hfull:∀ en,en∈crE ls ls.length→fil en.2=2:=by
  intro en hen;obtain⟨q,hq,hqe⟩:=List.getElem_of_mem hen;have hfe:=Zxf ls ls.length q en (by rw[gE hq,hqe])
  obtain⟨v1,v2,v3⟩:=Zgq ls ls.length _ hen;obtain⟨o,ho⟩:∃ o,0≤T9 o en.2:=by
   by_cases h7:0≤en.2.1
   ·exact⟨false,h7⟩
   ·exact⟨true,by show 0≤en.2.2; omega⟩
  obtain⟨j,j1,j2,j3,j4,j5⟩:=b _ _ _ hfe o ho;obtain⟨_,_,_,r4⟩:=hX j j1 j3;obtain⟨k,k1,k2,k3⟩:=Z0g r4 j1 (by simp[j3])
  simp only[bA,beq_iff_eq]at k2;obtain⟨p',w',g1,g2⟩:=c k k1 k2.1;rw[k2.2,j4,hfe]at g1;cases g1;have hko:(at' ls k).o≠o:=fun e1=>by rw[e1,j2]at g2; omega
  have h8:0≤T9 (at' ls k).o en.2:=by rw[g2]; omega
  cases o<;>cases h9:(at' ls k).o<;>rw[h9]at hko h8<;>simp only[T9,bF,if_true,if_false]at ho h8<;>first
   | exact absurd rfl hko
   | (unfold fil; rw[if_pos (by omega),if_pos (by omega)])
 have hsum:∀ E:List Ent,(∀ en,en∈E→fil en.2=2)→I3 E=2*E.length:=by
  intro E
  induction E with
  | nil=>exact fun _=>rfl
  | cons x r ih=>
   intro hE;simp only[I3,List.length_cons,hE x (List.mem_cons_self ..),ih fun en hen=>hE en (List.mem_cons_of_mem _ hen)]
   omega
 have hs:=hsum _ hfull;have hv:Y7 ls=Z4 isX ls:=rfl;exact⟨hC,hrk _ (Nat.le_refl _),by omega,hcf,by omega⟩
theorem Zyi{ls:List Lt}{n:Nat}:∀ {i:Nat},crF ls n i=true → ∀ j,j<i→isX (at' ls j)=true→1≤(at' ls j).i∧(at' ls j).i≤(n / 2:Nat)
 | 0,_,j,hj,_=>by omega
 | i+1,h,j,hj,hx=>by
  simp only[crF,bA,Bool.or_eq_true,Bool.not_eq_true',decide_eq_true_eq]at h;rcases Nat.lt_or_ge j i with h4|h4
  ·exact Zyi h.1 j h4 hx
  ·have:j=i:=by omega
   subst this;rcases h.2 with h5|h5
   ·rw[hx]at h5; cases h5
   ·exact h5.1
theorem Zwi{F:Nat}{ls:List Lt}(hC:ls.all (okC F)=true)(hr:rkF ls (Z1 ls) ls.length=true)(hc:CrOk ls):ls.all (okR F ls)=true:=by
 have hG:=Zgn hC;obtain⟨hrk,hap⟩:=Zl4 hG hr;refine List.all_eq_true.2 fun l hm=>?_
 obtain⟨v,hv,rfl⟩:=Z6z hm;have h1:=List.all_eq_true.1 hC _ hm;unfold okC at h1;unfold okR;split at h1
 ·rename_i hk;rw[if_pos hk];have hp:isP (at' ls v)=true:=by simp[isP,hk]
  obtain⟨r1,r2⟩:=hrk _ hm hp;have hs:same (at' ls v) ls=1:=Zzo hv (by simp) fun x hx hpx=>by
   simp only[bA,beq_iff_eq]at hpx;exact hap x v hx hv (by simp[isP,hpx.1.1,hk]) hp hpx.1.2 hpx.2
  simp at h1 ⊢
  grind
 ·rename_i hk;rw[if_neg hk];split at h1
  ·rename_i hk2;rw[if_pos hk2];have hx:isX (at' ls v)=true:=by simp[isX,hk2]
   obtain⟨i1,i2⟩:=Zyi hc.2.1 v hv hx;obtain⟨p,w,j,g1,g2,g3,g4,g5,g6,g7,g8,g9,g10,g11⟩:=Zd9 hc hv hx;have ht:M9 (at' ls v).i ls=2:=Z3d hv (by simp[hx]) g4 (by simp[g6,g7]) (fun e=>g5 e.symm) fun x hxl hxp=>by
    simp only[bA,beq_iff_eq]at hxp;exact g10 x hxl hxp.1 hxp.2
   have hj2:(at' ls j).k=2:=by simpa[isX]using g6
   have hpr:Zba (at' ls v) ls=1:=Zzo g4 (by simp[g7,g8,g9,hj2,hk2]) fun x hxl hxp=>by
    simp only[bA,beq_iff_eq,bne_iff_ne,ne_eq]at hxp;rcases g10 x hxl (by simp[isX,hxp.1.1.1,hk2]) hxp.1.1.2 with h5|h5
    ·subst h5; exact absurd rfl hxp.2
    ·exact h5
   simp at h1 ⊢;omega
  ·cases h1
end Go.Known
end
section
namespace Go.Known
open Go Go.AE Go.Proofs
open Go.Plain
attribute [local simp] Zbv Zdd Zcl Zcs Zch Zcw Zby Zcv Zbp P1 P3 Q7 P6 Q9 P4 Zdx Zbu Zbi Zdw Zd1 Zb8 Zd2 Zbn Zb2 Zdt Zbt Zbo Zdf Zdj Zco Zbx Zd4 Zdg Zdp Zde Zbj Zcu Zdk Zcf Zcy Zc2 Zbf Zc5 Zcq Zb3 Zdz Zdb Zc9 Zc1 Zd3 Zce Zc6 Zcb Zc0 Zbh Zda Zb1 Zd5 Zd0 Zbl Zci Zdy Zc8 Zdc Zdq Zcm Zcz Za2 Zc4 Zdl Env.get W9 SMem.at SMem.app SMem.get Z8 R6 AVal.cells AVal.one T6 Q1 Zds Zb7 Zbw Zb9 Zbm Zbg Zcx Zbs Zcr Zdn Zdh Zct Zdr unA R5 U8 I4 M8 X9 aundef Zdi Zdm Zbk Zbz Zc3 Q3 V3 M6 M5 N9 I7 S1 J3 SubR SubRE SubRB InjK InjA qOf Zap AVal.ren Q0 Z3 ABlk.ren V9 V8 Y8 FT.indep O8 Q8 K1 J2 in1 Zir
set_option maxRecDepth 100000 in
set_option maxHeartbeats 8000000 in
theorem c15(f:Int)(ls:List Lt)(h:ls.length≤1000):PCall Tryz.prog 86 [cV f ls] (.bool (ls.all (okR f ls))):=by
 refine Zbb hm Tryz.func86 cf15 rfl rfl (by simp[Y0,C5]) trivial fun K hK=>?_
 have hR:=N8 ls;have hrr:∀ q,Z3 q (ls.map rowL)=ls.map rowL:=fun q=>Y6 q _ (Z9 ls)
 have h37:=fun x=>c37 f ls x h
 have h38:=fun x=>c38 f ls x h
 have h13:=c13 f ls h;unfold cV at *;generalize ls.map rowL=rows at *;have hlen:=hR.len;have hyes:ls.all (okR f ls)=true → ∀ m,SubR 1 [] [(0,.bool true)] ⟨[],1⟩ [(0,.bool true)] m→S4 1 K (.bool true) m:=fun he m hs=>by rw[he]at hK; exact Y1 hK [] hs
 have hnoA:ls.all (okR f ls)=false → ∀ m,SubR 1 [] [(0,.bool false)] ⟨[],1⟩ [(0,.bool false)] m→S4 1 K (.bool false) m:=fun he m hs=>by rw[he]at hK; exact Y1 hK [] hs
 clear hK;simp;refine T1 (α:=Nat) (fun i=>[(3,.int .i64 i),(1,.ptr 1 0 0)]) (fun i=>⟨[(1,.cells 2 [[.int .i64 f,.imm rows]])],2⟩)
  (fun i=>ls.length - i) (fun i=>i≤ls.length∧(ls.take i).all (okR f ls)=true) 0 [] (by simp[hrr]) (by simp) ?_
 rintro i ⟨hi,hall⟩ N hN
 try simp only at hi hall hN ⊢
 by_cases hlt:i<ls.length
 ·have hrow:=hR.row i hlt;obtain⟨_,hrow2⟩:=Y9 hrow;have hw1:IntKind.i64.wrap ((i:Int)+1)=(i:Int)+1:=Z6 (by omega) (by omega)
  have hin:at' ls i∈ls:=R9 hlt;have hnext:ls.take (i+1)=ls.take i++[at' ls i]:=by
   rw[List.take_add_one,at',List.getD,gE hlt];rfl
  generalize at' ls i=l at *;have hno:okR f ls l=false → ∀ m,SubR 1 [] [(0,.bool false)] ⟨[],1⟩ [(0,.bool false)] m→S4 1 K (.bool false) m:=fun e=>hnoA (by
   rw[List.all_eq_false];exact⟨l,hin,by simp[e]⟩)
  have hok:okR f ls l=true→(ls.take (i+1)).all (okR f ls)=true:=fun e=>by
   rw[hnext,List.all_append,hall]; simp[e]
  clear hnoA hnext hyes;rcases l with⟨lk,lg,lr,li,lsn,lo⟩
  simp[hlen,hlt,hrow,hrow2,rowL];refine T1 (α:=Nat) (fun j=>[(7,.int .i64 j),(6,.int .i64 (Z4 (fun o=>o.k == lk&&o.i == li&&o.s == lsn&&o.o != lo) (ls.take j):Nat)),(5,.int .i64 (Z4 (fun o=>o.k == lk&&o.g == lg&&o.r == lr) (ls.take j):Nat)),(4,.ptr 2 0 0),(3,.int .i64 i),(1,.ptr 1 0 0)])
   (fun j=>⟨[(1,.cells 2 [[.int .i64 f,.imm rows]]),(2,.cells 6 [[.int .i64 lk,.int .i64 lg,.int .i64 lr,.int .i64 li,.int .i64 lsn,.bool lo]])],3⟩)
   (fun j=>ls.length - j) (fun j=>j≤ls.length) 0 [(2,12)] (by simp[hrr,Z4]) (by simp) ?_
  intro j hj N2 hN2
  try simp only at hj hN2 ⊢
  by_cases hjl:j<ls.length
  ·have hrowj:=hR.row j hjl;obtain⟨_,hrowj2⟩:=Y9 hrowj;have hwj:IntKind.i64.wrap ((j:Int)+1)=(j:Int)+1:=Z6 (by omega) (by omega)
   have hc1:=Zag (p:=fun o=>o.k == lk&&o.g == lg&&o.r == lr) hjl
   have hc2:=Zag (p:=fun o=>o.k == lk&&o.i == li&&o.s == lsn&&o.o != lo) hjl
   have hl1:=Zc7 (p:=fun o=>o.k == lk&&o.g == lg&&o.r == lr) (ls:=ls) j
   have hl2:=Zc7 (p:=fun o=>o.k == lk&&o.i == li&&o.s == lsn&&o.o != lo) (ls:=ls) j
   clear hno hok hN;generalize Z4 (fun o=>o.k == lk&&o.g == lg&&o.r == lr) (ls.take j)=c1 at hc1 hl1 ⊢
   generalize Z4 (fun o=>o.k == lk&&o.i == li&&o.s == lsn&&o.o != lo) (ls.take j)=c2 at hc2 hl2 ⊢
   have hw5:IntKind.i64.wrap ((c1:Int)+1)=(c1:Int)+1:=Z6 (by omega) (by omega)
   have hw6:IntKind.i64.wrap ((c2:Int)+1)=(c2:Int)+1:=Z6 (by omega) (by omega)
   generalize at' ls j=o at *;rcases o with⟨ok,og,or,oi,osn,oo⟩
   simp only at hc1 hc2;by_cases hk:ok=lk
   ·by_cases hg:og=lg
    ·by_cases hr:or=lr
     ·by_cases hii:oi=li
      ·by_cases hss:osn=lsn
       ·cases oo with
        | true=>
         cases lo with
         | true=>
          simp[hk,hg,hr,hii,hss]at hc1 hc2;simp[hlen,hjl,hrowj,hrowj2,rowL,hwj,hw5,hw6,hk,hg,hr,hii,hss];exact hN2 (j+1) [] _ _ (by omega) (by omega) (by simp[hrr,hc1,hc2])
         | false=>
          simp[hk,hg,hr,hii,hss]at hc1 hc2;simp[hlen,hjl,hrowj,hrowj2,rowL,hwj,hw5,hw6,hk,hg,hr,hii,hss];exact hN2 (j+1) [] _ _ (by omega) (by omega) (by simp[hrr,hc1,hc2])
        | false=>
         cases lo with
         | true=>
          simp[hk,hg,hr,hii,hss]at hc1 hc2;simp[hlen,hjl,hrowj,hrowj2,rowL,hwj,hw5,hw6,hk,hg,hr,hii,hss];exact hN2 (j+1) [] _ _ (by omega) (by omega) (by simp[hrr,hc1,hc2])
         | false=>
          simp[hk,hg,hr,hii,hss]at hc1 hc2;simp[hlen,hjl,hrowj,hrowj2,rowL,hwj,hw5,hw6,hk,hg,hr,hii,hss];exact hN2 (j+1) [] _ _ (by omega) (by omega) (by simp[hrr,hc1,hc2])
       ·simp[hk,hg,hr,hii,hss]at hc1 hc2;simp[hlen,hjl,hrowj,hrowj2,rowL,hwj,hw5,hw6,hk,hg,hr,hii,hss];exact hN2 (j+1) [] _ _ (by omega) (by omega) (by simp[hrr,hc1,hc2])
      ·simp[hk,hg,hr,hii]at hc1 hc2;simp[hlen,hjl,hrowj,hrowj2,rowL,hwj,hw5,hw6,hk,hg,hr,hii];exact hN2 (j+1) [] _ _ (by omega) (by omega) (by simp[hrr,hc1,hc2])
     ·by_cases hii:oi=li
      ·by_cases hss:osn=lsn
       ·cases oo with
        | true=>
         cases lo with
         | true=>
          simp[hk,hg,hr,hii,hss]at hc1 hc2;simp[hlen,hjl,hrowj,hrowj2,rowL,hwj,hw5,hw6,hk,hg,hr,hii,hss];exact hN2 (j+1) [] _ _ (by omega) (by omega) (by simp[hrr,hc1,hc2])
         | false=>
          simp[hk,hg,hr,hii,hss]at hc1 hc2;simp[hlen,hjl,hrowj,hrowj2,rowL,hwj,hw5,hw6,hk,hg,hr,hii,hss];exact hN2 (j+1) [] _ _ (by omega) (by omega) (by simp[hrr,hc1,hc2])
        | false=>
         cases lo with
         | true=>
          simp[hk,hg,hr,hii,hss]at hc1 hc2;simp[hlen,hjl,hrowj,hrowj2,rowL,hwj,hw5,hw6,hk,hg,hr,hii,hss];exact hN2 (j+1) [] _ _ (by omega) (by omega) (by simp[hrr,hc1,hc2])
         | false=>
          simp[hk,hg,hr,hii,hss]at hc1 hc2;simp[hlen,hjl,hrowj,hrowj2,rowL,hwj,hw5,hw6,hk,hg,hr,hii,hss];exact hN2 (j+1) [] _ _ (by omega) (by omega) (by simp[hrr,hc1,hc2])
       ·simp[hk,hg,hr,hii,hss]at hc1 hc2;simp[hlen,hjl,hrowj,hrowj2,rowL,hwj,hw5,hw6,hk,hg,hr,hii,hss];exact hN2 (j+1) [] _ _ (by omega) (by omega) (by simp[hrr,hc1,hc2])
      ·simp[hk,hg,hr,hii]at hc1 hc2;simp[hlen,hjl,hrowj,hrowj2,rowL,hwj,hw5,hw6,hk,hg,hr,hii];exact hN2 (j+1) [] _ _ (by omega) (by omega) (by simp[hrr,hc1,hc2])
    ·by_cases hii:oi=li
     ·by_cases hss:osn=lsn
      ·cases oo with
       | true=>
        cases lo with
        | true=>
         simp[hk,hg,hii,hss]at hc1 hc2;simp[hlen,hjl,hrowj,hrowj2,rowL,hwj,hw5,hw6,hk,hg,hii,hss];exact hN2 (j+1) [] _ _ (by omega) (by omega) (by simp[hrr,hc1,hc2])
        | false=>
         simp[hk,hg,hii,hss]at hc1 hc2;simp[hlen,hjl,hrowj,hrowj2,rowL,hwj,hw5,hw6,hk,hg,hii,hss];exact hN2 (j+1) [] _ _ (by omega) (by omega) (by simp[hrr,hc1,hc2])
       | false=>
        cases lo with
        | true=>
         simp[hk,hg,hii,hss]at hc1 hc2;simp[hlen,hjl,hrowj,hrowj2,rowL,hwj,hw5,hw6,hk,hg,hii,hss];exact hN2 (j+1) [] _ _ (by omega) (by omega) (by simp[hrr,hc1,hc2])
        | false=>
         simp[hk,hg,hii,hss]at hc1 hc2;simp[hlen,hjl,hrowj,hrowj2,rowL,hwj,hw5,hw6,hk,hg,hii,hss];exact hN2 (j+1) [] _ _ (by omega) (by omega) (by simp[hrr,hc1,hc2])
      ·simp[hk,hg,hii,hss]at hc1 hc2;simp[hlen,hjl,hrowj,hrowj2,rowL,hwj,hw5,hw6,hk,hg,hii,hss];exact hN2 (j+1) [] _ _ (by omega) (by omega) (by simp[hrr,hc1,hc2])
     ·simp[hk,hg,hii]at hc1 hc2;simp[hlen,hjl,hrowj,hrowj2,rowL,hwj,hw5,hw6,hk,hg,hii];exact hN2 (j+1) [] _ _ (by omega) (by omega) (by simp[hrr,hc1,hc2])
   ·simp[hk]at hc1 hc2;simp[hlen,hjl,hrowj,hrowj2,rowL,hwj,hw5,hw6,hk];exact hN2 (j+1) [] _ _ (by omega) (by omega) (by simp[hrr,hc1,hc2])
  have he:j=ls.length:=by omega
  subst he;clear hN2;rw[List.take_length];have hC1:Z4 (fun o=>o.k == lk&&o.g == lg&&o.r == lr) ls=same ⟨lk,lg,lr,li,lsn,lo⟩ ls:=rfl
  have hC2:Z4 (fun o=>o.k == lk&&o.i == li&&o.s == lsn&&o.o != lo) ls=Zba ⟨lk,lg,lr,li,lsn,lo⟩ ls:=rfl
  rw[hC1,hC2];clear hC1 hC2;by_cases hk1:lk=1
  ·subst hk1;by_cases g1:¬li=0
   ·simp[hlen,g1]; exact hno (by simp[okR,g1]) _ (by simp)
   have g1:=Classical.not_not.1 g1;subst g1;by_cases g2:¬lsn=0
   ·simp[hlen,g2]; exact hno (by simp[okR,g2]) _ (by simp)
   have g2:=Classical.not_not.1 g2;subst g2;cases lo with
   | true=>simp[hlen]; exact hno (by simp[okR]) _ (by simp)
   | false=>
    by_cases g4:lg<0
    ·have g4':¬0≤lg:=by omega
     simp[hlen,g4,g4']; exact hno (by simp[okR,g4,g4']) _ (by simp)
    have g4':0≤lg:=by omega
    by_cases g5:f<lg
    ·have g5':¬lg≤f:=by omega
     simp[hlen,g4,g4',g5,g5']; exact hno (by simp[okR,g4,g4',g5,g5']) _ (by simp)
    have g5':lg≤f:=by omega
    by_cases g6:lr<1
    ·have g6':¬1≤lr:=by omega
     simp[hlen,g4,g4',g5,g5',g6,g6']; exact hno (by simp[okR,g4,g4',g5,g5',g6,g6']) _ (by simp)
    have g6':1≤lr:=by omega
    simp[hlen,g4,g5,g6];refine B8 (h37 lg) ?_;have hIn:Z4 (fun l=>isP l&&l.g == lg) ls=inG lg ls:=rfl
    rw[hIn];by_cases g7:((inG lg ls:Nat):Int)<lr
    ·have g7':¬lr≤((inG lg ls:Nat):Int):=by omega
     simp[hlen,g4,g4',g5,g5',g6,g6',g7,g7']; exact hno (by simp[okR,g4,g4',g5,g5',g6,g6',g7,g7']) _ (by simp)
    have g7':lr≤((inG lg ls:Nat):Int):=by omega
    generalize hsm:same ⟨1,lg,lr,0,0,false⟩ ls=sm at *;by_cases g8:sm=1
    ·have g8':(sm:Int)=1:=by omega
     simp[hlen,g4,g5,g6,g7,g8,g8',hw1];exact hN (i+1) [] _ _ (by omega) ⟨by omega,hok (by simp[okR,g4',g5',g6',g7',hsm,g8])⟩ (by simp[hrr])
    ·have g8':¬(sm:Int)=1:=by omega
     simp[hlen,g4,g5,g6,g7,g8,g8'];exact hno (by simp[okR,g4',g5',g6',g7',hsm,g8]) _ (by simp)
  by_cases hk2:lk=2
  ·subst hk2;by_cases g1:¬lg=0
   ·simp[hlen,g1]; exact hno (by simp[okR,g1]) _ (by simp)
   have g1:=Classical.not_not.1 g1;subst g1;by_cases g2:¬lr=0
   ·simp[hlen,g2]; exact hno (by simp[okR,g2]) _ (by simp)
   have g2:=Classical.not_not.1 g2;subst g2;by_cases g3:¬lsn=1 ∧ ¬lsn = -1
   ·obtain⟨g3a,g3b⟩:=g3;simp[hlen,g3a,g3b]; exact hno (by simp[okR,g3a,g3b]) _ (by simp)
   have g3':lsn=1∨lsn = -1:=by omega
   have hvl:Y7 ls≤ls.length:=E5;have hwq:IntKind.i64.wrap ((Y7 ls:Int) / 2)=(Y7 ls:Int) / 2:=Z6 (by omega) (by omega)
   have hve:Z4 isX ls=Y7 ls:=rfl;have hte:Z4 (fun l=>isX l&&l.i == li) ls=M9 li ls:=rfl
   rcases g3' with g3'|g3'
   ·subst g3';by_cases g4:li<1
    ·have g4':¬1≤li:=by omega
     simp[hlen,g4,g4']; exact hno (by simp[okR,g4,g4']) _ (by simp)
    have g4':1≤li:=by omega
    simp[hlen,g4];refine B8 h13 ?_;rw[hve];by_cases g5:(Y7 ls:Int) / 2<li
    ·have g5':¬li≤(Y7 ls:Int) / 2:=by omega
     simp[hlen,g4,hwq,g5];exact hno (by simp[okR,g4',g5']) _ (by simp)
    have g5':li≤(Y7 ls:Int) / 2:=by omega
    generalize hpr:Zba ⟨2,0,0,li,1,lo⟩ ls=pr at *;by_cases g6:pr=1
    rotate_left
    ·have g6':¬(pr:Int)=1:=by omega
     simp[hlen,g4,hwq,g5,g6,g6'];exact hno (by simp[okR,hpr,g4',g5',g6]) _ (by simp)
    have g6':(pr:Int)=1:=by omega
    simp[hlen,g4,hwq,g5,g6,g6'];refine B8 (h38 li) ?_;rw[hte];by_cases g7:M9 li ls=2
    ·have g7':((M9 li ls:Nat):Int)=2:=by omega
     simp[hlen,g4,hwq,g5,g6,g6',g7,g7',hw1];exact hN (i+1) [] _ _ (by omega) ⟨by omega,hok (by simp[okR,hpr,g4',g5',g6,g7])⟩ (by simp[hrr])
    ·have g7':¬((M9 li ls:Nat):Int)=2:=by omega
     simp[hlen,g4,hwq,g5,g6,g6',g7,g7'];exact hno (by simp[okR,hpr,g4',g5',g6,g7]) _ (by simp)
   ·subst g3';by_cases g4:li<1
    ·have g4':¬1≤li:=by omega
     simp[hlen,g4,g4']; exact hno (by simp[okR,g4,g4']) _ (by simp)
    have g4':1≤li:=by omega
    simp[hlen,g4];refine B8 h13 ?_;rw[hve];by_cases g5:(Y7 ls:Int) / 2<li
    ·have g5':¬li≤(Y7 ls:Int) / 2:=by omega
     simp[hlen,g4,hwq,g5];exact hno (by simp[okR,g4',g5']) _ (by simp)
    have g5':li≤(Y7 ls:Int) / 2:=by omega
    generalize hpr:Zba ⟨2,0,0,li,-1,lo⟩ ls=pr at *;by_cases g6:pr=1
    rotate_left
    ·have g6':¬(pr:Int)=1:=by omega
     simp[hlen,g4,hwq,g5,g6,g6'];exact hno (by simp[okR,hpr,g4',g5',g6]) _ (by simp)
    have g6':(pr:Int)=1:=by omega
    simp[hlen,g4,hwq,g5,g6,g6'];refine B8 (h38 li) ?_;rw[hte];by_cases g7:M9 li ls=2
    ·have g7':((M9 li ls:Nat):Int)=2:=by omega
     simp[hlen,g4,hwq,g5,g6,g6',g7,g7',hw1];exact hN (i+1) [] _ _ (by omega) ⟨by omega,hok (by simp[okR,hpr,g4',g5',g6,g7])⟩ (by simp[hrr])
    ·have g7':¬((M9 li ls:Nat):Int)=2:=by omega
     simp[hlen,g4,hwq,g5,g6,g6',g7,g7'];exact hno (by simp[okR,hpr,g4',g5',g6,g7]) _ (by simp)
  ·simp[hlen,hk1,hk2]; exact hno (by simp[okR,hk1,hk2]) _ (by simp)
 have he:i=ls.length:=by omega
 subst he;rw[List.take_length]at hall;simp[hlen];exact hyes hall _ (by simp)
end Go.Known
end
section
namespace Go.Known
open Go Go.AE Go.Proofs
open Go.Plain
attribute [local simp] Zbv Zdd Zcl Zcs Zch Zcw Zby Zcv Zbp P1 P3 Q7 P6 Q9 P4 Zdx Zbu Zbi Zdw Zd1 Zb8 Zd2 Zbn Zb2 Zdt Zbt Zbo Zdf Zdj Zco Zbx Zd4 Zdg Zdp Zde Zbj Zcu Zdk Zcf Zcy Zc2 Zbf Zc5 Zcq Zb3 Zdz Zdb Zc9 Zc1 Zd3 Zce Zc6 Zcb Zc0 Zbh Zda Zb1 Zd5 Zd0 Zbl Zci Zdy Zc8 Zdc Zdq Zcm Zcz Za2 Zc4 Zdl Env.get W9 SMem.at SMem.app SMem.get Z8 R6 AVal.cells AVal.one T6 Q1 Zds Zb7 Zbw Zb9 Zbm Zbg Zcx Zbs Zcr Zdn Zdh Zct Zdr unA R5 U8 I4 M8 X9 aundef Zdi Zdm Zbk Zbz Zc3 Q3 V3 M6 M5 N9 I7 S1 J3 SubR SubRE SubRB InjK InjA qOf Zap AVal.ren Q0 Z3 ABlk.ren V9 V8 Y8 FT.indep O8 Q8 K1 J2 in1 Zir Zto
set_option maxRecDepth 100000 in
set_option maxHeartbeats 4000000 in
theorem c4(f:Int)(ls:List Lt)(h:ls.length≤1000):PCall Tryz.prog 43 [cV f ls] (.int .i64 (W4 f ls)):=by
 refine Zbb hm Tryz.func43 cf4 rfl rfl (by simp[Y0,C5]) trivial fun K hK=>?_
 have hR:=N8 ls;have h13:=c13 f ls h;have h14:=c14 f ls h;have h15:=c15 f ls h;have h16:=c16' f ls h;have h17:=c17 f ls h;unfold cV at *;generalize ls.map rowL=rows at *;have hlen:=hR.len;have fin:∀ e:Int,W4 f ls=e → ∀ m,SubR 1 [] [(0,.int .i64 e)] ⟨[],1⟩ [(0,.int .i64 e)] m→S4 1 K (.int .i64 e) m:=fun e he m hs=>by rw[he]at hK; exact Y1 hK [] hs
 clear hK;have hv:Z4 isX ls=Y7 ls:=rfl;have hp:Z4 isP ls=Z1 ls:=rfl;have hpl:Z1 ls≤ls.length:=E5;by_cases hl:400<ls.length
 ·have hl':(400:Int)<(ls.length:Int):=by omega
  simp[hlen,hl,hl'];exact fin 7 (by unfold W4; rw[if_pos (.inl hl)]) _ (by simp)
 have hl':¬(400:Int)<(ls.length:Int):=by omega
 simp[hlen,hl,hl'];refine W3 h13 ?_;rw[hv];by_cases hx:200<Y7 ls
 ·have hx':(200:Int)<(Y7 ls:Int):=by omega
  simp[hx,hx'];exact fin 7 (by unfold W4; rw[if_pos (.inr hx)]) _ (by simp)
 have hx':¬(200:Int)<(Y7 ls:Int):=by omega
 have h7:¬(400<ls.length∨200<Y7 ls):=by omega
 by_cases hf1:f<0
 ·simp[hx,hx',hf1];exact fin 2 (by unfold W4; rw[if_neg h7,if_pos (.inl hf1)]) _ (by simp)
 by_cases hf2:40<f
 ·simp[hx,hx',hf1,hf2];exact fin 2 (by unfold W4; rw[if_neg h7,if_pos (.inr hf2)]) _ (by simp)
 have h2:¬(f<0∨40<f):=by omega
 have hF:((f.toNat:Nat):Int)=f:=by omega
 by_cases h0:ls=[]
 ·have hr0:rows=[]:=List.length_eq_zero_iff.1 (by rw[hlen,h0]; rfl)
  subst hr0;simp[hx,hx',hf1,hf2,hlen,h0];exact fin 0 (by unfold W4; rw[if_neg h7,if_neg h2,if_pos (.inl h0)]) _ (by simp)
 have hpos:0<ls.length:=List.length_pos_iff.2 h0;have hn0:¬rows=[]:=fun e=>by rw[e]at hlen; simp at hlen; omega
 have hrow:=hR.row 0 hpos;obtain⟨_,hrow2⟩:=Y9 hrow;have bad:¬Ze2 f.toNat ls→W4 f ls=3:=fun hb=>by unfold W4; rw[if_neg h7,if_neg h2,if_neg (fun hh=>hh.elim h0 hb)]
 simp[hx,hx',hf1,hf2,hlen,h0,hn0];refine W3 h14 ?_;rw[hp];by_cases g1:¬(at' ls 0).k=1
 ·simp[hlen,hpos,hrow,hrow2,rowL,g1];exact fin 3 (bad fun hh=>g1 hh.2.1) _ (by simp)
 have g1:=Classical.not_not.1 g1;have htm:(Z1 ls:Int).tmod 2=((Z1 ls % 2:Nat):Int):=rfl;by_cases g2:Z1 ls % 2=0
 rotate_left
 ·have g2':Z1 ls % 2=1:=by omega
  simp[-Int.natCast_emod,hlen,hpos,hrow,hrow2,rowL,g1,htm,g2'];exact fin 3 (bad fun hh=>g2 hh.2.2.1) _ (by simp)
 simp[-Int.natCast_emod,hlen,hpos,hrow,hrow2,rowL,g1,htm,g2];refine B8 h15 ?_;cases g3:ls.all (okR f ls)with
 | false=>
  simp;exact fin 3 (bad fun hh=>by
   have:=Zwi hh.1 hh.2.2.2.1 hh.2.2.2.2.1;rw[hF,g3]at this; cases this) _ (by simp)
 | true=>
  have g3F:ls.all (okR (f.toNat:Nat) ls)=true:=by rw[hF]; exact g3
  obtain⟨q1,q2,q3⟩:=Zqv g3F;have hpp:0<Z1 ls:=by
   rw[← O6];exact List.length_pos_of_mem (mem_axis.2 ⟨hpos,by simp[isP,g1]⟩)
  have hkk:∀ v,v<ls.length→(at' ls v).k≠2→(at' ls v).k=1:=fun v hv h3=>(Zsh (List.all_eq_true.1 q1 _ (R9 hv))).resolve_right h3
  have h16':=h16 hpp hkk;obtain⟨cy,hcy⟩:∃ cy,I0 (Y3 ls (Z2 ls)) (2*ls.length+2*Z1 ls)=cy:=⟨_,rfl⟩
  have hWl:(L1 (Q5 (Y3 ls (Z2 ls)) (2*ls.length+2*Z1 ls))).length=cy:=by rw[Znu,Q5,Zez]; exact hcy
  generalize L1 (Q5 (Y3 ls (Z2 ls)) (2*ls.length+2*Z1 ls))=WR at h16' hWl;have hvl:Y7 ls≤ls.length:=E5;have hw1:IntKind.i64.wrap ((Z1 ls:Int)+(Y7 ls:Int) / 2)=(Z1 ls:Int)+(Y7 ls:Int) / 2:=Z6 (by omega) (by omega)
  have hw2:IntKind.i64.wrap ((Z1 ls:Int)+(Y7 ls:Int) / 2+2)=(Z1 ls:Int)+(Y7 ls:Int) / 2+2:=Z6 (by omega) (by omega)
  simp;refine B8 h16' ?_;simp;refine B8 h17 ?_;have hiff:I0 (Y3 ls (Z2 ls)) (2*ls.length+2*(Z2 ls).length)=(Z2 ls).length+(crE ls ls.length).length+2↔(cy:Int)=(Z1 ls:Int)+(Y7 ls:Int) / 2+2:=by
   rw[O6,hcy,q3.2.2];omega
  by_cases g4:(cy:Int)=(Z1 ls:Int)+(Y7 ls:Int) / 2+2
  ·simp[hWl,hw1,hw2,g4];exact fin 0 (by unfold W4; rw[if_neg h7,if_neg h2,if_pos (.inr ⟨q1,g1,g2,q2,q3,hiff.2 g4⟩)]) _ (by simp)
  ·simp[hWl,hw1,hw2,g4];exact fin 3 (bad fun hh=>g4 (hiff.1 hh.2.2.2.2.2)) _ (by simp)
end Go.Known
end
