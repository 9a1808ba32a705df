/- Part 43 of the proof: Fxa, Fxb, Fxc, Fxd. -/
import Derived.Test.YtggclbeocekgkaaGreatDoorP32
import Derived.Test.YtggclbeocekgkaaGreatDoorP42
set_option linter.all false
section
namespace Go.Ac
open Go.Plain
def swp(T:Nat→Nat)(x y d:Nat):Nat:=if d=x then T y else if d=y then T x else T d
theorem Ht(T:Nat→Nat)(x y:Nat):swp T x y x=T y:=iP rfl
theorem Hr(T:Nat→Nat)(x y:Nat):swp T x y y=T x:=by
 unfold swp;by_cases h:y=x
 ·rw[iP h,h]
 ·rw[iN h,iP rfl]
theorem Y2{T:Nat→Nat}{x y d:Nat}(h1:d≠x)(h2:d≠y):swp T x y d=T d:=by
 unfold swp;rw[iN h1,iN h2]
structure CC (T:Nat→Nat) (N:Nat) (S:List (List Nat)):Prop where
 Bo:lU T N S
 cl:∀ s,s∈S→T (S9 s)=DP s
theorem CC.count{T:Nat→Nat}{N:Nat}{S:List (List Nat)}(h:CC T N S)(hP:BJ T N):I8 T N=S.length:=Z52 hP h.Bo h.cl
theorem CC.perm{T:Nat→Nat}{N:Nat}{S S':List (List Nat)}(h:CC T N S)(hp:S.Perm S'):CC T N S':=
 ⟨⟨fun s hs=>h.Bo.seg s (hp.mem_iff.2 hs),(hp.flatten.nodup_iff).1 h.Bo.nd,fun d=>(h.Bo.Bo d).trans hp.flatten.mem_iff⟩,fun s hs=>h.cl s (hp.mem_iff.2 hs)⟩
theorem aL{T:Nat→Nat}:∀ {a b:List Nat},DL T a→DL T b→T (S9 a)=DP b→DL T (a++b)
 | [x],b,_,hb,h=>by
  cases b with
  | nil=>exact hb.elim
  | cons y r=>exact ⟨h.symm,hb⟩
 | x :: y :: r,b,ha,hb,h=>⟨ha.1,aL (a:=y :: r) ha.2 hb (by rw[OD]at h; exact h)⟩
theorem YJ{T:Nat→Nat}:∀ {a b:List Nat},a≠[]→DL T (a++b)→DL T a
 | [x],_,_,_=>trivial
 | x :: y :: r,b,_,h=>⟨h.1,YJ (a:=y :: r) (by simp) h.2⟩
theorem Zx{T:Nat→Nat}:∀ {a b:List Nat},b≠[]→DL T (a++b)→DL T b
 | [],_,_,h=>h
 | [x],b,hb,h=>by
  cases b with
  | nil=>exact absurd rfl hb
  | cons y r=>exact h.2
 | x :: y :: r,b,hb,h=>Zx (a:=y :: r) hb h.2
theorem Zg{T:Nat→Nat}:∀ {a b:List Nat},a≠[]→b≠[]→DL T (a++b)→T (S9 a)=DP b
 | [x],b,_,hb,h=>by
  cases b with
  | nil=>exact absurd rfl hb
  | cons y r=>exact h.1.symm
 | x :: y :: r,b,_,hb,h=>by
  rw[OD];exact Zg (a:=y :: r) (by simp) hb h.2
theorem ME{T T':Nat→Nat}:∀ {s:List Nat},(∀ d,d∈s.dropLast→T' d=T d)→DL T s→DL T' s
 | [x],_,_=>trivial
 | x :: y :: r,h,hs=>by
  refine⟨?_,ME (s:=y :: r) (fun d hd=>h d ?_) hs.2⟩
  ·rw[h x (by simp)]; exact hs.1
  ·rw[List.dropLast_cons_of_ne_nil (by simp)]
   exact List.mem_cons_of_mem _ hd
theorem Z4x{x:Nat}{l:List Nat}(h:l≠[]):S9 (x :: l)=S9 l:=by
 cases l with
 | nil=>exact absurd rfl h
 | cons y r=>exact OD ..
theorem Vf:∀ {a b:List Nat},b≠[]→S9 (a++b)=S9 b
 | [],_,_=>rfl
 | x :: a,b,hb=>by
  show S9 (x :: (a++b))=_;rw[Z4x (fun e=>hb (List.append_eq_nil_iff.1 e).2)]
  exact Vf hb
theorem Z98{a b:List Nat}(ha:a≠[]):DP (a++b)=DP a:=by
 cases a with
 | nil=>exact absurd rfl ha
 | cons x r=>rfl
theorem Ox(p:List Nat)(x:Nat):S9 (p++[x])=x:=by rw[Vf (by simp)]; rfl
theorem Tc{T:Nat→Nat}{s:List Nat}{x:Nat}(hs:DL T s)(hc:T (S9 s)=DP s)(hx:x∈s):∃ p,DL T (p++[x])∧T x=DP (p++[x])∧(p++[x]).Perm s:=by
 obtain⟨a,b,rfl⟩:=List.append_of_mem hx;by_cases hb:b=[]
 ·subst hb;refine⟨a,hs,?_,.refl _⟩;rw[Ox]at hc;exact hc
 ·have hs2:DL T ((a++[x])++b):=by simpa using hs
  have h1:=YJ (by simp) hs2
  have h2:=Zx hb hs2;have h3:=Zg (by simp) hb hs2
  have e1:S9 (a++x :: b)=S9 b:=by
   rw[show a++x :: b=(a++[x])++b by simp,Vf hb]
  have e2:DP (a++x :: b)=DP (a++[x]):=by cases a<;>rfl
  rw[e1,e2]at hc;refine⟨b++a,?_,?_,?_⟩
  ·have:=aL h2 h1 hc;simpa using this
  ·rw[Ox]at h3;rw[h3];cases b with
   | nil=>exact absurd rfl hb
   | cons y r=>rfl
  ·have:((a++[x])++b).Perm (b++(a++[x])):=List.perm_append_comm;have h:=this.symm;simpa using h
theorem MP{p:List Nat}{x d:Nat}(h:d∈(p++[x]).dropLast):d∈p:=by
 rwa[List.dropLast_concat]at h
theorem XR{T:Nat→Nat}{N x y:Nat}{S:List (List Nat)}(h:CC T N S){s1 s2:List Nat}(h1:s1∈S)(h2:s2∈S)(hx:x∈s1)(hy:y∈s2)(hne:s1≠s2):∃ S',CC (swp T x y) N S'∧S'.length+1=S.length:=by
 have p1:=List.perm_cons_erase h1;have h2':s2∈S.erase s1:=(List.mem_erase_of_ne (fun e=>hne e.symm)).2 h2
 have p2:=List.perm_cons_erase h2';obtain⟨R,hR⟩:∃ R,(S.erase s1).erase s2=R:=⟨_,rfl⟩
 rw[hR]at p2;have p3:S.Perm (s1 :: s2 :: R):=p1.trans (p2.cons _);have hC:=h.perm p3;obtain⟨a,a1,a2,a3⟩:=Tc (h.Bo.seg _ h1) (h.cl _ h1) hx;obtain⟨b,b1,b2,b3⟩:=Tc (h.Bo.seg _ h2) (h.cl _ h2) hy;have p4:(((a++[x])++(b++[y])) :: R).flatten.Perm (s1 :: s2 :: R).flatten:=by
  have:=(a3.append b3).append (List.Perm.refl R.flatten);rw[List.append_assoc s1]at this;exact this
 have Dy:=p4.nodup_iff.2 hC.Bo.nd;have hnd2:((a++[x])++(b++[y])).Nodup:=by
  rw[List.flatten_cons]at Dy;exact(List.nodup_append.1 Dy).1
 have hxa:∀ d,d∈a→d≠x∧d≠y:=fun d hd=>by
  constructor
  ·rintro rfl;have:=(List.nodup_append.1 (List.nodup_append.1 hnd2).1).2.2 d hd d (by simp)
   exact this rfl
  ·rintro rfl;exact(List.nodup_append.1 hnd2).2.2 d (by simp[hd]) d (by simp) rfl
 have hyb:∀ d,d∈b→d≠x∧d≠y:=fun d hd=>by
  constructor
  ·rintro rfl;exact(List.nodup_append.1 hnd2).2.2 d (by simp) d (by simp[hd]) rfl
  ·rintro rfl;have:=(List.nodup_append.1 (List.nodup_append.1 hnd2).2.1).2.2 d hd d (by simp)
   exact this rfl
 have hR2:∀ s,s∈R → ∀ d,d∈s→d≠x∧d≠y:=fun s hs d hd=>by
  rw[List.flatten_cons]at Dy;have hdis:=(List.nodup_append.1 Dy).2.2;constructor
  ·rintro rfl;exact hdis d (by simp) d (List.mem_flatten.2 ⟨s,hs,hd⟩) rfl
  ·rintro rfl;exact hdis d (by simp) d (List.mem_flatten.2 ⟨s,hs,hd⟩) rfl
 refine⟨((a++[x])++(b++[y])) :: R,⟨⟨fun s hs=>?_,Dy,fun d=>(hC.Bo.Bo d).trans p4.mem_iff.symm⟩,fun s hs=>?_⟩,by rw[p3.length_eq]; simp⟩
 ·rcases mC.1 hs with rfl|hs
  ·refine aL (ME (fun d hd=>?_) a1) (ME (fun d hd=>?_) b1) ?_
   ·exact Y2 (hxa d (MP hd)).1 (hxa d (MP hd)).2
   ·exact Y2 (hyb d (MP hd)).1 (hyb d (MP hd)).2
   ·rw[Ox,Ht,b2]
  ·exact ME (fun d hd=>by
    have:=hR2 s hs d ((List.dropLast_sublist _).subset hd);exact Y2 this.1 this.2) (hC.Bo.seg s (by simp[hs]))
 ·rcases mC.1 hs with rfl|hs
  ·rw[Vf (by simp),Ox,Hr,a2]
   exact(Z98 (by simp)).symm
  ·have hsg:=hC.Bo.seg s (by simp[hs])
   have:=hR2 s hs _ (Lz (SB hsg));rw[Y2 this.1 this.2];exact hC.cl s (by simp[hs])
theorem Z29{T:Nat→Nat}{N x y:Nat}{S:List (List Nat)}(h:CC T N S){s:List Nat}(h1:s∈S)(hx:x∈s)(hy:y∈s)(hne:x≠y):∃ S',CC (swp T x y) N S'∧S'.length=S.length+1:=by
 have p1:=List.perm_cons_erase h1;obtain⟨R,hR⟩:∃ R,S.erase s=R:=⟨_,rfl⟩
 rw[hR]at p1;have hC:=h.perm p1;obtain⟨b,b1,b2,b3⟩:=Tc (h.Bo.seg _ h1) (h.cl _ h1) hy;have hxb:x∈b:=by
  have:=b3.mem_iff.2 hx;rcases List.mem_append.1 this with h|h
  ·exact h
  ·exact absurd (List.mem_singleton.1 h) hne
 obtain⟨u,v,rfl⟩:=List.append_of_mem hxb;have hs2:DL T ((u++[x])++(v++[y])):=by simpa using b1
 have q1:=YJ (by simp) hs2
 have q2:=Zx (by simp) hs2
 have q3:=Zg (by simp) (by simp) hs2
 rw[Ox]at q3;have q4:T y=DP (u++[x]):=by
  rw[b2];cases u<;>rfl
 have p4:((u++[x]) :: (v++[y]) :: R).flatten.Perm (s :: R).flatten:=by
  simp only[List.flatten_cons];rw[← List.append_assoc];refine List.Perm.append ?_ (.refl _);have:(u++[x])++(v++[y])=u++x :: v++[y]:=by simp
  rw[this];exact b3
 have Dy:=p4.nodup_iff.2 hC.Bo.nd;have hnd2:((u++[x])++(v++[y])).Nodup:=by
  rw[List.flatten_cons,List.flatten_cons,← List.append_assoc]at Dy;exact(List.nodup_append.1 Dy).1
 have hxa:∀ d,d∈u→d≠x∧d≠y:=fun d hd=>by
  constructor
  ·rintro rfl;have:=(List.nodup_append.1 (List.nodup_append.1 hnd2).1).2.2 d hd d (by simp)
   exact this rfl
  ·rintro rfl;exact(List.nodup_append.1 hnd2).2.2 d (by simp[hd]) d (by simp) rfl
 have hyb:∀ d,d∈v→d≠x∧d≠y:=fun d hd=>by
  constructor
  ·rintro rfl;exact(List.nodup_append.1 hnd2).2.2 d (by simp) d (by simp[hd]) rfl
  ·rintro rfl;have:=(List.nodup_append.1 (List.nodup_append.1 hnd2).2.1).2.2 d hd d (by simp)
   exact this rfl
 have hR2:∀ s,s∈R → ∀ d,d∈s→d≠x∧d≠y:=fun s hs d hd=>by
  rw[List.flatten_cons,List.flatten_cons,← List.append_assoc]at Dy;have hdis:=(List.nodup_append.1 Dy).2.2;constructor
  ·rintro rfl;exact hdis d (by simp) d (List.mem_flatten.2 ⟨s,hs,hd⟩) rfl
  ·rintro rfl;exact hdis d (by simp) d (List.mem_flatten.2 ⟨s,hs,hd⟩) rfl
 refine⟨(u++[x]) :: (v++[y]) :: R,⟨⟨fun s hs=>?_,Dy,fun d=>(hC.Bo.Bo d).trans p4.mem_iff.symm⟩,fun s hs=>?_⟩,by rw[p1.length_eq]; simp⟩
 ·rcases mC.1 hs with rfl|hs
  ·exact ME (fun d hd=>Y2 (hxa d (MP hd)).1 (hxa d (MP hd)).2) q1
  ·rcases mC.1 hs with rfl|hs
   ·exact ME (fun d hd=>Y2 (hyb d (MP hd)).1 (hyb d (MP hd)).2) q2
   ·exact ME (fun d hd=>by
     have:=hR2 s hs d ((List.dropLast_sublist _).subset hd);exact Y2 this.1 this.2) (hC.Bo.seg s (by simp[hs]))
 ·rcases mC.1 hs with rfl|hs
  ·rw[Ox,Ht,q4]
  ·rcases mC.1 hs with rfl|hs
   ·rw[Ox,Hr,q3]
   ·have hsg:=hC.Bo.seg s (by simp[hs])
    have:=hR2 s hs _ (Lz (SB hsg));rw[Y2 this.1 this.2];exact hC.cl s (by simp[hs])
theorem CC.Vd{T:Nat→Nat}{N x y:Nat}{S:List (List Nat)}(h:CC T N S)(hx:x<N)(hy:y<N)(hne:x≠y):∃ S',CC (swp T x y) N S'∧S'.length≤S.length+1:=by
 obtain⟨s1,g1,g2⟩:=List.mem_flatten.1 ((h.Bo.Bo x).1 hx);obtain⟨s2,g3,g4⟩:=List.mem_flatten.1 ((h.Bo.Bo y).1 hy);by_cases e:s1=s2
 ·subst e;obtain⟨S',k1,k2⟩:=Z29 h g1 g2 g4 hne;exact⟨S',k1,by omega⟩
 ·obtain⟨S',k1,k2⟩:=XR h g1 g3 g2 g4 e;exact⟨S',k1,by omega⟩
theorem bI{T:Nat→Nat}{C:Nat→Prop}(hC:∀ d,C d→C (T d)):∀ {s:List Nat},DL T s→C (DP s) → ∀ d,d∈s→C d
 | [x],_,h,d,hd=>by
  rw[List.mem_singleton]at hd;subst hd;exact h
 | x :: y :: r,hs,h,d,hd=>by
  rcases mC.1 hd with rfl|hd
  ·exact h
  ·refine bI hC (s:=y :: r) hs.2 ?_ d hd;show C y;rw[hs.1];exact hC x h
theorem CC.merge{T:Nat→Nat}{N x y:Nat}{S:List (List Nat)}(h:CC T N S)(hx:x<N)(hy:y<N)(C:Nat→Prop)(hC:∀ d,C d→C (T d))(h1:C x)(h2:¬C y):∃ S',CC (swp T x y) N S'∧S'.length+1=S.length:=by
 obtain⟨s1,g1,g2⟩:=List.mem_flatten.1 ((h.Bo.Bo x).1 hx);obtain⟨s2,g3,g4⟩:=List.mem_flatten.1 ((h.Bo.Bo y).1 hy);refine XR h g1 g3 g2 g4 fun e=>?_
 subst e;obtain⟨p,p1,p2,p3⟩:=Tc (h.Bo.seg _ g1) (h.cl _ g1) g2;have hh:C (DP (p++[x])):=p2 ▸ hC x h1;exact h2 (bI hC p1 hh y (p3.mem_iff.2 g4))
end Go.Ac
end
section
namespace Go.Ac
open Go.Plain
section
variable {T:Nat→Nat} {N:Nat}
theorem mB{x:Nat}:∀ {L i:Nat},0<L→DL T ((List.range' i L).map fun j=>it T j x)∧DP ((List.range' i L).map fun j=>it T j x)=it T i x∧S9 ((List.range' i L).map fun j=>it T j x)=it T (i+L - 1) x
 | 1,i,_=>⟨trivial,rfl,rfl⟩
 | L+2,i,_=>by
  obtain⟨h1,h2,h3⟩:=mB (x:=x) (L:=L+1) (i:=i+1) (by omega)
  refine⟨⟨rfl,h1⟩,rfl,?_⟩;have:S9 ((List.range' i (L+2)).map fun j=>it T j x)=S9 ((List.range' (i+1) (L+1)).map fun j=>it T j x):=rfl
  rw[this,h3]
  congr 1
  omega
theorem bQ(hP:BJ T N):∀ (k:Nat) (seen:List Bool),k≤N→Lq T N seen → ∀ w,w∈Dw T N k seen→DL T w∧T (S9 w)=DP w
 | 0,seen,_,_,w,hw=>by simp[Dw]at hw
 | k+1,seen,hk,hc,w,hw=>by
  have hx:N - (k+1)<N:=by omega
  simp only[Dw]at hw;cases h:seen.getD (N - (k+1)) true with
  | true=>
   rw[h,iP rfl]at hw;exact bQ hP k seen (by omega) hc w hw
  | false=>
   rw[h,iN (by simp)]at hw
   rcases mC.1 hw with rfl|hw
   ·obtain⟨L,h0,h1,h2,h3,h4,h5⟩:=WB hP hc hx h;obtain⟨s1,s2,s3⟩:=mB (T:=T) (x:=N - (k+1)) (i:=0) h0;rw[h4];refine⟨s1,?_⟩;rw[s2,s3];have:it T (0+L - 1+1) (N - (k+1))=N - (k+1):=by rw[show 0+L - 1+1=L by omega]; exact h2
    exact this
   ·exact bQ hP k _ (by omega) (Za hP hc hx h) w hw
theorem yJ(d:Nat):∀ (S:List (List Nat)),(S.map fun w=>(w.filter fun x=>decide (x=d)).length).sum=S.flatten.count d
 | []=>rfl
 | w :: r=>by
  rw[List.map_cons,List.sum_cons,yJ d r,List.flatten_cons,List.count_append]
  congr 1
  rw[List.count,List.countP_eq_length_filter];rfl
theorem tU(hP:BJ T N):∃ S,CC T N S:=by
 have hw:=bQ hP N _ (lR _) (aJ hP);have hp:(J8 T N).flatten.Perm (List.range N):=by
  rw[List.perm_iff_count];intro d;rw[← yJ,Wx hP,List.count,List.countP_eq_length_filter];rfl
 exact⟨J8 T N,⟨fun s hs=>(hw s hs).1,hp.nodup_iff.2 List.nodup_range,fun d=>by rw[hp.mem_iff,mR]⟩,fun s hs=>(hw s hs).2⟩
theorem CC.congr{T':Nat→Nat}{S:List (List Nat)}(h:CC T N S)(he:∀ d,d<N→T' d=T d):CC T' N S:=by
 have hlt:∀ s,s∈S → ∀ d,d∈s→d<N:=fun s hs d hd=>(h.Bo.Bo d).2 (List.mem_flatten.2 ⟨s,hs,hd⟩)
 refine⟨⟨fun s hs=>ME (fun d hd=>he d (hlt s hs d ((List.dropLast_sublist _).subset hd))) (h.Bo.seg s hs),h.Bo.nd,h.Bo.Bo⟩,fun s hs=>?_⟩
 rw[he _ (hlt s hs _ (Lz (SB (h.Bo.seg s hs))))];exact h.cl s hs
theorem CC.put{S:List (List Nat)}(h:CC T N S){x y:Nat}(hx:x<N)(hy:y<N)(hne:x≠y)(hf:T y=y):∃ S',CC (swp T x y) N S'∧S'.length+1=S.length:=by
 obtain⟨s1,g1,g2⟩:=List.mem_flatten.1 ((h.Bo.Bo x).1 hx);obtain⟨s2,g3,g4⟩:=List.mem_flatten.1 ((h.Bo.Bo y).1 hy);refine XR h g1 g3 g2 g4 fun e=>?_
 subst e;obtain⟨p,p1,p2,p3⟩:=Tc (h.Bo.seg _ g1) (h.cl _ g1) g4;have hh:DP (p++[y])=y:=by rw[← p2]; exact hf
 have:=bI (C:=fun d=>d=y) (fun d hd=>by rw[hd]; exact hf) p1 hh x (p3.mem_iff.2 g2)
 exact hne this
theorem oS{T':Nat→Nat}{φ:Nat→Nat}:∀ {s:List Nat},(∀ d,d∈s.dropLast→T (φ d)=φ (T' d))→DL T' s→DL T (s.map φ)
 | [x],_,_=>trivial
 | x :: y :: r,h,hs=>by
  refine⟨?_,oS (s:=y :: r) (fun d hd=>h d ?_) hs.2⟩
  ·rw[h x (by simp),← hs.1]
  ·rw[List.dropLast_cons_of_ne_nil (by simp)]
   exact List.mem_cons_of_mem _ hd
theorem tE{φ:Nat→Nat}:∀ {s:List Nat},s≠[]→S9 (s.map φ)=φ (S9 s)
 | [x],_=>rfl
 | x :: y :: r,_=>by
  rw[OD];exact tE (s:=y :: r) (by simp)
theorem Z82{φ:Nat→Nat}{s:List Nat}(h:s≠[]):DP (s.map φ)=φ (DP s):=by
 cases s with
 | nil=>exact absurd rfl h
 | cons x r=>rfl
theorem CC.emb{T':Nat→Nat}{N':Nat}{S':List (List Nat)}(h:CC T' N' S')(φ:Nat→Nat)(Y:List Nat)(hφ:∀ d,d<N'→T (φ d)=φ (T' d))(hi:∀ a b,a<N'→b<N'→φ a=φ b→a=b)
 (hY:Y.Nodup) (hd:∀ d,d<N'→φ d∉Y) (hc:∀ d,d<N↔((∃ e,e<N'∧φ e=d)∨d∈Y)) (hf:∀ y,y∈Y→T y=y):∃ S,CC T N S∧S.length=S'.length+Y.length:=by
 have hlt:∀ s,s∈S' → ∀ d,d∈s→d<N':=fun s hs d hd=>(h.Bo.Bo d).2 (List.mem_flatten.2 ⟨s,hs,hd⟩)
 have e1:(S'.map fun s=>s.map φ).flatten=S'.flatten.map φ:=by rw[List.map_flatten]
 have e2:(Y.map fun y=>[y]).flatten=Y:=by
  clear hY hd hc hf
  induction Y with
  | nil=>rfl
  | cons y r ih=>rw[List.map_cons,List.flatten_cons,ih]; rfl
 refine⟨(S'.map fun s=>s.map φ)++Y.map fun y=>[y],⟨⟨fun s hs=>?_,?_,fun d=>?_⟩,fun s hs=>?_⟩,by simp⟩
 ·rcases List.mem_append.1 hs with hs|hs
  ·obtain⟨u,hu,rfl⟩:=mM.1 hs;exact oS (fun d hd=>hφ d (hlt u hu d ((List.dropLast_sublist _).subset hd))) (h.Bo.seg u hu)
  ·obtain⟨y,_,rfl⟩:=mM.1 hs;exact trivial
 ·rw[List.flatten_append,e1,e2,List.nodup_append];refine⟨VX (fun a b ha hb e=>hi a b ((h.Bo.Bo a).2 ha) ((h.Bo.Bo b).2 hb) e) h.Bo.nd,hY,fun a ha b hb e=>?_⟩
  obtain⟨c,hc',rfl⟩:=mM.1 ha;exact hd c ((h.Bo.Bo c).2 hc') (e ▸ hb)
 ·rw[List.flatten_append,e1,e2,List.mem_append,mM,hc];constructor
  ·rintro(⟨e,h1,h2⟩|h1)
   ·exact .inl ⟨e,(h.Bo.Bo e).1 h1,h2⟩
   ·exact .inr h1
  ·rintro(⟨e,h1,h2⟩|h1)
   ·exact .inl ⟨e,(h.Bo.Bo e).2 h1,h2⟩
   ·exact .inr h1
 ·rcases List.mem_append.1 hs with hs|hs
  ·obtain⟨u,hu,rfl⟩:=mM.1 hs;have hn:=SB (h.Bo.seg u hu);rw[tE hn,Z82 hn,hφ _ (hlt u hu _ (Lz hn)),h.cl u hu]
  ·obtain⟨y,hy,rfl⟩:=mM.1 hs;exact hf y hy
set_option maxHeartbeats 4000000 in
theorem CC.Mz{π:Nat→Nat}{S:List (List Nat)}{x z y v u1 u2 w1 w2 p1 r1 g1 g2:Nat}(h:CC π N S)(Dy:[x,z,y,v,u1,u2,w1,w2,p1,r1,g1,g2].Nodup)(hlt:∀ d,d∈[x,z,y,v,u1,u2,w1,w2,p1,r1,g1,g2]→d<N)
 (qh:∀ d,d∈[u1,u2,w1,w2,p1,r1,g1,g2]→π d=d) (hx:π x=T u2) (hz:π z=T w2) (hy:π y=T r1) (hv:π v=T p1) (ho:∀ d,d<N→d∉[x,z,y,v,u1,u2,w1,w2,p1,r1,g1,g2]→π d=T d)
 (tx:T x=u1) (tu:T u1=u2) (tz:T z=w1) (tw:T w1=w2) (ty:T y=p1) (tv:T v=r1) (tg:T g1=g2) (th:T g2=g1):∃ S',CC T N S'∧S'.length+6≤S.length:=by
 simp only[List.nodup_cons,mC,List.not_mem_nil,or_false,not_or,List.nodup_nil,not_false_eq_true,and_true]at Dy;obtain⟨⟨a1,a2,a3,a4,a5,a6,a7,a8,a9,a10,a11⟩,⟨b2,b3,b4,b5,b6,b7,b8,b9,b10,b11⟩,⟨d3,d4,d5,d6,d7,d8,d9,d10,d11⟩,⟨e4,e5,e6,e7,e8,e9,e10,e11⟩,⟨k5,k6,k7,k8,k9,k10,k11⟩,⟨i6,i7,i8,i9,i10,i11⟩,⟨j7,j8,j9,j10,j11⟩,⟨q8,q9,q10,q11⟩,⟨s9,s10,s11⟩,⟨t10,t11⟩,u11⟩:=Dy;simp only[mC,List.not_mem_nil,or_false,forall_eq_or_imp,forall_eq]at hlt qh;obtain⟨f1,f2,f3,f4,f5,f6,f7,f8⟩:=qh;obtain⟨l1,l2,l3,l4,l5,l6,l7,l8,l9,l10,l11,l12⟩:=hlt
 obtain⟨S1,c1,n1⟩:=h.Vd l3 l4 (by first|assumption|(symm; assumption))
 obtain⟨S2,c2,n2⟩:=c1.put (x:=y) (y:=p1) l3 l9 (by first|assumption|(symm; assumption)) (by rw[Y2 (by first|assumption|(symm; assumption)) (by first|assumption|(symm; assumption))]; exact f5)
 obtain⟨S3,c3,n3⟩:=c2.put (x:=v) (y:=r1) l4 l10 (by first|assumption|(symm; assumption)) (by rw[Y2 (by first|assumption|(symm; assumption)) (by first|assumption|(symm; assumption)),Y2 (by first|assumption|(symm; assumption)) (by first|assumption|(symm; assumption))]; exact f6)
 obtain⟨S4,c4,n4⟩:=c3.put (x:=x) (y:=u2) l1 l6 (by first|assumption|(symm; assumption)) (by rw[Y2 (by first|assumption|(symm; assumption)) (by first|assumption|(symm; assumption)),Y2 (by first|assumption|(symm; assumption)) (by first|assumption|(symm; assumption)),Y2 (by first|assumption|(symm; assumption)) (by first|assumption|(symm; assumption))]; exact f2)
 obtain⟨S5,c5,n5⟩:=c4.put (x:=x) (y:=u1) l1 l5 (by first|assumption|(symm; assumption)) (by rw[Y2 (by first|assumption|(symm; assumption)) (by first|assumption|(symm; assumption)),Y2 (by first|assumption|(symm; assumption)) (by first|assumption|(symm; assumption)),Y2 (by first|assumption|(symm; assumption)) (by first|assumption|(symm; assumption)),Y2 (by first|assumption|(symm; assumption)) (by first|assumption|(symm; assumption))]; exact f1)
 obtain⟨S6,c6,n6⟩:=c5.put (x:=z) (y:=w2) l2 l8 (by first|assumption|(symm; assumption)) (by rw[Y2 (by first|assumption|(symm; assumption)) (by first|assumption|(symm; assumption)),Y2 (by first|assumption|(symm; assumption)) (by first|assumption|(symm; assumption)),Y2 (by first|assumption|(symm; assumption)) (by first|assumption|(symm; assumption)),Y2 (by first|assumption|(symm; assumption)) (by first|assumption|(symm; assumption)),Y2 (by first|assumption|(symm; assumption)) (by first|assumption|(symm; assumption))]; exact f4)
 obtain⟨S7,c7,n7⟩:=c6.put (x:=z) (y:=w1) l2 l7 (by first|assumption|(symm; assumption)) (by rw[Y2 (by first|assumption|(symm; assumption)) (by first|assumption|(symm; assumption)),Y2 (by first|assumption|(symm; assumption)) (by first|assumption|(symm; assumption)),Y2 (by first|assumption|(symm; assumption)) (by first|assumption|(symm; assumption)),Y2 (by first|assumption|(symm; assumption)) (by first|assumption|(symm; assumption)),Y2 (by first|assumption|(symm; assumption)) (by first|assumption|(symm; assumption)),Y2 (by first|assumption|(symm; assumption)) (by first|assumption|(symm; assumption))]; exact f3)
 obtain⟨S8,c8,n8⟩:=c7.put (x:=g1) (y:=g2) l11 l12 (by first|assumption|(symm; assumption)) (by rw[Y2 (by first|assumption|(symm; assumption)) (by first|assumption|(symm; assumption)),Y2 (by first|assumption|(symm; assumption)) (by first|assumption|(symm; assumption)),Y2 (by first|assumption|(symm; assumption)) (by first|assumption|(symm; assumption)),Y2 (by first|assumption|(symm; assumption)) (by first|assumption|(symm; assumption)),Y2 (by first|assumption|(symm; assumption)) (by first|assumption|(symm; assumption)),Y2 (by first|assumption|(symm; assumption)) (by first|assumption|(symm; assumption)),Y2 (by first|assumption|(symm; assumption)) (by first|assumption|(symm; assumption))]; exact f8)
 refine⟨S8,c8.congr fun d hd=>?_,by omega⟩
 by_cases hm:d∈[x,z,y,v,u1,u2,w1,w2,p1,r1,g1,g2]
 ·simp only[mC,List.not_mem_nil,or_false]at hm;rcases hm with rfl|rfl|rfl|rfl|rfl|rfl|rfl|rfl|rfl|rfl|rfl|rfl
  ·rw[Y2 (by first|assumption|(symm; assumption)) (by first|assumption|(symm; assumption)),Y2 (by first|assumption|(symm; assumption)) (by first|assumption|(symm; assumption)),Y2 (by first|assumption|(symm; assumption)) (by first|assumption|(symm; assumption)),Ht,Y2 (by first|assumption|(symm; assumption)) (by first|assumption|(symm; assumption)),Y2 (by first|assumption|(symm; assumption)) (by first|assumption|(symm; assumption)),Y2 (by first|assumption|(symm; assumption)) (by first|assumption|(symm; assumption)),Y2 (by first|assumption|(symm; assumption)) (by first|assumption|(symm; assumption)),f1,tx]
  ·rw[Y2 (by first|assumption|(symm; assumption)) (by first|assumption|(symm; assumption)),Ht,Y2 (by first|assumption|(symm; assumption)) (by first|assumption|(symm; assumption)),Y2 (by first|assumption|(symm; assumption)) (by first|assumption|(symm; assumption)),Y2 (by first|assumption|(symm; assumption)) (by first|assumption|(symm; assumption)),Y2 (by first|assumption|(symm; assumption)) (by first|assumption|(symm; assumption)),Y2 (by first|assumption|(symm; assumption)) (by first|assumption|(symm; assumption)),Y2 (by first|assumption|(symm; assumption)) (by first|assumption|(symm; assumption)),f3,tz]
  ·rw[Y2 (by first|assumption|(symm; assumption)) (by first|assumption|(symm; assumption)),Y2 (by first|assumption|(symm; assumption)) (by first|assumption|(symm; assumption)),Y2 (by first|assumption|(symm; assumption)) (by first|assumption|(symm; assumption)),Y2 (by first|assumption|(symm; assumption)) (by first|assumption|(symm; assumption)),Y2 (by first|assumption|(symm; assumption)) (by first|assumption|(symm; assumption)),Y2 (by first|assumption|(symm; assumption)) (by first|assumption|(symm; assumption)),Ht,Y2 (by first|assumption|(symm; assumption)) (by first|assumption|(symm; assumption)),f5,ty]
  ·rw[Y2 (by first|assumption|(symm; assumption)) (by first|assumption|(symm; assumption)),Y2 (by first|assumption|(symm; assumption)) (by first|assumption|(symm; assumption)),Y2 (by first|assumption|(symm; assumption)) (by first|assumption|(symm; assumption)),Y2 (by first|assumption|(symm; assumption)) (by first|assumption|(symm; assumption)),Y2 (by first|assumption|(symm; assumption)) (by first|assumption|(symm; assumption)),Ht,Y2 (by first|assumption|(symm; assumption)) (by first|assumption|(symm; assumption)),Y2 (by first|assumption|(symm; assumption)) (by first|assumption|(symm; assumption)),f6,tv]
  ·rw[Y2 (by first|assumption|(symm; assumption)) (by first|assumption|(symm; assumption)),Y2 (by first|assumption|(symm; assumption)) (by first|assumption|(symm; assumption)),Y2 (by first|assumption|(symm; assumption)) (by first|assumption|(symm; assumption)),Hr,Ht,Y2 (by first|assumption|(symm; assumption)) (by first|assumption|(symm; assumption)),Y2 (by first|assumption|(symm; assumption)) (by first|assumption|(symm; assumption)),Y2 (by first|assumption|(symm; assumption)) (by first|assumption|(symm; assumption)),f2,tu]
  ·rw[Y2 (by first|assumption|(symm; assumption)) (by first|assumption|(symm; assumption)),Y2 (by first|assumption|(symm; assumption)) (by first|assumption|(symm; assumption)),Y2 (by first|assumption|(symm; assumption)) (by first|assumption|(symm; assumption)),Y2 (by first|assumption|(symm; assumption)) (by first|assumption|(symm; assumption)),Hr,Y2 (by first|assumption|(symm; assumption)) (by first|assumption|(symm; assumption)),Y2 (by first|assumption|(symm; assumption)) (by first|assumption|(symm; assumption)),Y2 (by first|assumption|(symm; assumption)) (by first|assumption|(symm; assumption)),hx]
  ·rw[Y2 (by first|assumption|(symm; assumption)) (by first|assumption|(symm; assumption)),Hr,Ht,Y2 (by first|assumption|(symm; assumption)) (by first|assumption|(symm; assumption)),Y2 (by first|assumption|(symm; assumption)) (by first|assumption|(symm; assumption)),Y2 (by first|assumption|(symm; assumption)) (by first|assumption|(symm; assumption)),Y2 (by first|assumption|(symm; assumption)) (by first|assumption|(symm; assumption)),Y2 (by first|assumption|(symm; assumption)) (by first|assumption|(symm; assumption)),f4,tw]
  ·rw[Y2 (by first|assumption|(symm; assumption)) (by first|assumption|(symm; assumption)),Y2 (by first|assumption|(symm; assumption)) (by first|assumption|(symm; assumption)),Hr,Y2 (by first|assumption|(symm; assumption)) (by first|assumption|(symm; assumption)),Y2 (by first|assumption|(symm; assumption)) (by first|assumption|(symm; assumption)),Y2 (by first|assumption|(symm; assumption)) (by first|assumption|(symm; assumption)),Y2 (by first|assumption|(symm; assumption)) (by first|assumption|(symm; assumption)),Y2 (by first|assumption|(symm; assumption)) (by first|assumption|(symm; assumption)),hz]
  ·rw[Y2 (by first|assumption|(symm; assumption)) (by first|assumption|(symm; assumption)),Y2 (by first|assumption|(symm; assumption)) (by first|assumption|(symm; assumption)),Y2 (by first|assumption|(symm; assumption)) (by first|assumption|(symm; assumption)),Y2 (by first|assumption|(symm; assumption)) (by first|assumption|(symm; assumption)),Y2 (by first|assumption|(symm; assumption)) (by first|assumption|(symm; assumption)),Y2 (by first|assumption|(symm; assumption)) (by first|assumption|(symm; assumption)),Hr,Ht,hv]
  ·rw[Y2 (by first|assumption|(symm; assumption)) (by first|assumption|(symm; assumption)),Y2 (by first|assumption|(symm; assumption)) (by first|assumption|(symm; assumption)),Y2 (by first|assumption|(symm; assumption)) (by first|assumption|(symm; assumption)),Y2 (by first|assumption|(symm; assumption)) (by first|assumption|(symm; assumption)),Y2 (by first|assumption|(symm; assumption)) (by first|assumption|(symm; assumption)),Hr,Y2 (by first|assumption|(symm; assumption)) (by first|assumption|(symm; assumption)),Hr,hy]
  ·rw[Ht,Y2 (by first|assumption|(symm; assumption)) (by first|assumption|(symm; assumption)),Y2 (by first|assumption|(symm; assumption)) (by first|assumption|(symm; assumption)),Y2 (by first|assumption|(symm; assumption)) (by first|assumption|(symm; assumption)),Y2 (by first|assumption|(symm; assumption)) (by first|assumption|(symm; assumption)),Y2 (by first|assumption|(symm; assumption)) (by first|assumption|(symm; assumption)),Y2 (by first|assumption|(symm; assumption)) (by first|assumption|(symm; assumption)),Y2 (by first|assumption|(symm; assumption)) (by first|assumption|(symm; assumption)),f8,tg]
  ·rw[Hr,Y2 (by first|assumption|(symm; assumption)) (by first|assumption|(symm; assumption)),Y2 (by first|assumption|(symm; assumption)) (by first|assumption|(symm; assumption)),Y2 (by first|assumption|(symm; assumption)) (by first|assumption|(symm; assumption)),Y2 (by first|assumption|(symm; assumption)) (by first|assumption|(symm; assumption)),Y2 (by first|assumption|(symm; assumption)) (by first|assumption|(symm; assumption)),Y2 (by first|assumption|(symm; assumption)) (by first|assumption|(symm; assumption)),Y2 (by first|assumption|(symm; assumption)) (by first|assumption|(symm; assumption)),f7,th]
 ·rw[← ho d hd hm];simp only[mC,List.not_mem_nil,or_false,not_or]at hm;obtain⟨m1,m2,m3,m4,m5,m6,m7,m8,m9,m10,m11,m12⟩:=hm;rw[Y2 m11 m12,Y2 m2 m7,Y2 m2 m8,Y2 m1 m5,Y2 m1 m6,Y2 m4 m10,Y2 m3 m9,Y2 m3 m4]
end
end Go.Ac
end
section
namespace Go.Ac
open Go.Plain
def V6(ls:List Lt)(v:Nat):Nat:=2*ls.length+2*W7 v (Z2 ls)
def V9(ls:List Lt)(v:Nat):Nat:=2*ls.length+2*((W7 v (Z2 ls)+Z0 ls - 1) % Z0 ls)+1
section
variable {ls:List Lt}
theorem O7{v:Nat}(hk:(at' ls v).k=1):Am (at' ls v)=true:=by simp[Am,hk]
theorem GP{v:Nat}(hv:v<ls.length)(hk:(at' ls v).k=1):W7 v (Z2 ls)<Z0 ls∧(Z2 ls).getD (W7 v (Z2 ls)) 0=v:=by
 have hm:v∈Z2 ls:=AB.2 ⟨hv,O7 hk⟩;have h1:=Td hm;rw[O5]at h1;refine⟨h1,?_⟩;have:=(C3 hm).1;rw[List.getD,this];rfl
theorem Rz{m i:Nat}(h:i<m):((i+m - 1) % m+1) % m=i:=by
 by_cases h0:i=0
 ·subst h0;rw[Nat.zero_add,Nat.mod_eq_of_lt (show m - 1<m by omega),show m - 1+1=m by omega,Nat.mod_self]
 ·rw[show i+m - 1=(i - 1)+m by omega,Nat.add_mod_right,Nat.mod_eq_of_lt (show i - 1<m by omega),show i - 1+1=i by omega,Nat.mod_eq_of_lt h]
theorem Hs{m p:Nat}(h:p<m):((p+1) % m+m - 1) % m=p:=by
 by_cases h0:p+1=m
 ·rw[h0,Nat.mod_self,Nat.zero_add,Nat.mod_eq_of_lt (by omega)]; omega
 ·rw[Nat.mod_eq_of_lt (show p+1<m by omega),show p+1+m - 1=p+m by omega,Nat.add_mod_right,Nat.mod_eq_of_lt h]
theorem Of{v:Nat}(hv:v<ls.length)(hk:(at' ls v).k=1)(b:Bool):BC ls (arr ls.length v b)=if Z8 ls v=b then V6 ls v else V9 ls v:=by
 unfold BC;rw[aC hv,iN (by omega)]
 rfl
theorem VM{v:Nat}(hv:v<ls.length)(hk:(at' ls v).k=1):V9 ls v<2*ls.length+2*Z0 ls∧V6 ls v<2*ls.length+2*Z0 ls:=by
 obtain⟨h1,_⟩:=GP hv hk;have:=Nat.mod_lt (W7 v (Z2 ls)+Z0 ls - 1) (show 0<Z0 ls by omega)
 unfold V9 V6;omega
theorem Ob{v:Nat}(hv:v<ls.length)(hk:(at' ls v).k=1):BC ls (CL (V9 ls v))=X6 ls.length v (!Z8 ls v):=by
 obtain⟨h1,h2⟩:=GP hv hk;have e:CL (V9 ls v)=2*ls.length+2*((W7 v (Z2 ls)+Z0 ls - 1) % Z0 ls):=by
  unfold CL V9;rw[iN (by omega)]
  omega
 unfold BC X7;rw[e,iP (by omega),iP (by omega),show (2*ls.length+2*((W7 v (Z2 ls)+Z0 ls - 1) % Z0 ls) - 2*ls.length) / 2=(W7 v (Z2 ls)+Z0 ls - 1) % Z0 ls by omega,O5,Rz h1,h2]
theorem Oq{v:Nat}(hv:v<ls.length)(hk:(at' ls v).k=1):BC ls (CL (V6 ls v))=X6 ls.length v (Z8 ls v):=by
 obtain⟨h1,h2⟩:=GP hv hk;have e:CL (V6 ls v)=2*ls.length+2*W7 v (Z2 ls)+1:=by
  unfold CL V6;rw[iP (by omega)]
 unfold BC X7;rw[e,iP (by omega),iN (by omega),show (2*ls.length+2*W7 v (Z2 ls)+1 - 2*ls.length) / 2=W7 v (Z2 ls) by omega,h2]
theorem Ru{d:Nat}(hd:d<2*ls.length+2*Z0 ls):(∃ v c,v<ls.length∧d=X6 ls.length v c) ∨ ∃ v,v<ls.length∧(at' ls v).k=1∧(d=V6 ls v∨d=V9 ls v):=by
 by_cases h:d<2*ls.length
 ·obtain⟨v,b,hv,e⟩:=mE (Z96 h);refine .inl ⟨v,!b,hv,?_⟩;rw[← xz,← e,bH]
 ·have hm:0<Z0 ls:=by omega
  have hal:=O5 ls;have key:∀ p,p<Z0 ls→(Z2 ls).getD p 0<ls.length∧(at' ls ((Z2 ls).getD p 0)).k=1∧W7 ((Z2 ls).getD p 0) (Z2 ls)=p:=fun p hp=>by
   have hg:(Z2 ls)[p]? = some ((Z2 ls).getD p 0):=by
    rw[List.getD,gE (by omega)]; rfl
   have hmem:=List.mem_of_getElem? hg;obtain⟨k1,k2⟩:=AB.1 hmem;refine⟨k1,by simpa[Am]using k2,KT (Hq ls) (C3 hmem).1 hg⟩
  by_cases h0:d % 2=0
  ·obtain⟨k1,k2,k3⟩:=key ((d - 2*ls.length) / 2) (by omega)
   refine .inr ⟨_,k1,k2,.inl ?_⟩;unfold V6;rw[k3];omega
  ·have hp:(d - 2*ls.length) / 2<Z0 ls:=by omega
   obtain⟨k1,k2,k3⟩:=key (((d - 2*ls.length) / 2+1) % Z0 ls) (Nat.mod_lt _ hm);refine .inr ⟨_,k1,k2,.inr ?_⟩;unfold V9;rw[k3,Hs hp];omega
def sg(ls:List Lt)(d:Nat):Nat:=BC ls (CL d)
theorem RU{v:Nat}(hv:v<ls.length)(hk:(at' ls v).k=2)(c:Bool):sg ls (X6 ls.length v c)=X6 ls.length (DS ls v) ((!c) == GA ls v):=by
 unfold sg;rw[WZ hv,VZ hv hk]
theorem RB{v:Nat}(hv:v<ls.length)(hk:(at' ls v).k=1)(c:Bool):sg ls (X6 ls.length v c)=if Z8 ls v = !c then V6 ls v else V9 ls v:=by
 unfold sg;rw[WZ hv,Of hv hk]
theorem ZN(hw:Wv ls){v:Nat}(hv:v<ls.length)(hk:(at' ls v).k=2):GA ls (DS ls v) = !GA ls v∧DS ls v≠v:=by
 obtain⟨h1,h2,h3,h4,h5⟩:=hw.Gy v hv hk;refine⟨?_,fun e=>?_⟩
 ·unfold GA;rw[h4,h5];cases (at' ls v).o<;>cases ((at' ls v).s == 1)<;>rfl
 ·have:(at' ls v).o = !(at' ls v).o:=by
   have e':Q4 ls v ls.length 0=v:=e;rw[e']at h4;exact h4
  cases h:(at' ls v).o<;>rw[h]at this<;>cases this
theorem Z4c(hw:Wv ls){d:Nat}(hd:d<2*ls.length+2*Z0 ls):sg ls d≠d∧sg ls (sg ls d)≠d∧sg ls (sg ls (sg ls d))≠d:=by
 have str:∀ {v:Nat} {c:Bool} {u:Nat},v<ls.length→X6 ls.length v c≠V6 ls u∧X6 ls.length v c≠V9 ls u:=fun {v c u} hv=>by
  have:=Hw (fw:=c) hv;unfold V6 V9;constructor<;>omega
 have rl:∀ u,V6 ls u≠V9 ls u:=fun u=>by unfold V6 V9; omega
 rcases Ru hd with⟨v,c,hv,rfl⟩|⟨v,hv,hk,h⟩
 ·have hk2:=hw.GY v hv;by_cases hk:(at' ls v).k=2
  ·obtain⟨h1,h2,h3,_,_⟩:=hw.Gy v hv hk;obtain⟨s1,s2⟩:=ZN hw hv hk;have e3:DS ls (DS ls v)=v:=h3;have hneq:∀ c1 c2,X6 ls.length (DS ls v) c1≠X6 ls.length v c2:=fun c1 c2 e=>s2 (Ke h1 hv e).1
   have hnc:X6 ls.length v (!c)≠X6 ls.length v c:=fun e=>by
    have:=(Ke hv hv e).2;cases c<;>cases this
   have q2:sg ls (sg ls (X6 ls.length v c))=X6 ls.length v (!c):=by
    rw[RU hv hk,RU h1 h2,e3,s1];cases c<;>cases GA ls v<;>rfl
   refine⟨?_,by rw[q2]; exact hnc,?_⟩
   ·rw[RU hv hk]; exact hneq _ _
   ·rw[q2,RU hv hk]; exact hneq _ _
  ·have hk:=hk2 hk;have q2:sg ls (sg ls (X6 ls.length v c))=X6 ls.length v (!c):=by
    rw[RB hv hk];by_cases hc:Z8 ls v = !c
    ·rw[iP hc];show BC ls (CL (V6 ls v))=_;rw[Oq hv hk,hc]
    ·rw[iN hc];show BC ls (CL (V9 ls v))=_;rw[Ob hv hk];cases hdn:Z8 ls v<;>cases c<;>simp_all
   refine⟨?_,?_,?_⟩
   ·rw[RB hv hk];split
    ·exact(str hv).1.symm
    ·exact(str hv).2.symm
   ·rw[q2];intro e;have:=(Ke hv hv e).2;cases c<;>cases this
   ·rw[q2,RB hv hk];split
    ·exact(str hv).1.symm
    ·exact(str hv).2.symm
 ·have eR:sg ls (V6 ls v)=X6 ls.length v (Z8 ls v):=Oq hv hk;have eL:sg ls (V9 ls v)=X6 ls.length v (!Z8 ls v):=Ob hv hk;have eRR:sg ls (X6 ls.length v (Z8 ls v))=V9 ls v:=by
   rw[RB hv hk,iN (by cases Z8 ls v<;>simp)]
  have eLL:sg ls (X6 ls.length v (!Z8 ls v))=V6 ls v:=by
   rw[RB hv hk,iP (by simp)]
  rcases h with rfl|rfl
  ·rw[eR,eRR,eL];exact⟨(str hv).1,(rl v).symm,(str hv).1⟩
  ·rw[eL,eLL,eR];exact⟨(str hv).2,rl v,(str hv).2⟩
def J1(ls:List Lt)(i:Nat):Bool:=decide ((at' ls i).k=1∨((at' ls i).k=2∧i<DS ls i))
theorem Z8x(hw:Wv ls){i:Nat}(hi:i<ls.length)(hn:J1 ls i=true):∃ C:Nat→Prop,(∀ d,C d→C (sg ls d))∧(∀ c,C (X6 ls.length i c)) ∧ ∀ d,C d→(d=X6 ls.length i true∨d=X6 ls.length i false∨2*ls.length≤d ∨ ∃ w c,i<w∧w<ls.length∧d=X6 ls.length w c):=by
 unfold J1 at hn;simp only[decide_eq_true_eq]at hn;rcases hn with hk|⟨hk,hlt⟩
 ·refine⟨fun d=>(∃ c,d=X6 ls.length i c)∨d=V6 ls i∨d=V9 ls i,fun d hd=>?_,fun c=>.inl ⟨c,rfl⟩,fun d hd=>?_⟩
  ·rcases hd with⟨c,rfl⟩|rfl|rfl
   ·rw[RB hi hk];split
    ·exact .inr (.inl rfl)
    ·exact .inr (.inr rfl)
   ·exact .inl ⟨_,Oq hi hk⟩
   ·exact .inl ⟨_,Ob hi hk⟩
  ·rcases hd with⟨c,rfl⟩|rfl|rfl
   ·cases c
    ·exact .inr (.inl rfl)
    ·exact .inl rfl
   ·exact .inr (.inr (.inl (by unfold V6; omega)))
   ·exact .inr (.inr (.inl (by unfold V9; omega)))
 ·obtain⟨h1,h2,h3,_,_⟩:=hw.Gy i hi hk;have e3:DS ls (DS ls i)=i:=h3;refine⟨fun d=>(∃ c,d=X6 ls.length i c) ∨ ∃ c,d=X6 ls.length (DS ls i) c,fun d hd=>?_,fun c=>.inl ⟨c,rfl⟩,fun d hd=>?_⟩
  ·rcases hd with⟨c,rfl⟩|⟨c,rfl⟩
   ·exact .inr ⟨_,RU hi hk c⟩
   ·have:=RU h1 h2 c;rw[e3]at this;exact .inl ⟨_,this⟩
  ·rcases hd with⟨c,rfl⟩|⟨c,rfl⟩
   ·cases c
    ·exact .inr (.inl rfl)
    ·exact .inl rfl
   ·exact .inr (.inr (.inr ⟨_,c,hlt,h1,rfl⟩))
def My(ls:List Lt)(k d:Nat):Nat:=if d<2*k then BC ls d else sg ls d
theorem zG(k:Nat):CL (2*k)=2*k+1∧CL (2*k+1)=2*k:=by
 unfold CL;refine⟨by rw[iP (by omega)],by rw[iN (by omega)]; omega⟩
theorem yF(k d:Nat):My ls (k+1) d=swp (My ls k) (2*k+1) (2*k) d:=by
 obtain⟨b1,b2⟩:=zG k;by_cases h1:d=2*k+1
 ·subst h1;rw[Ht];unfold My;rw[iP (by omega),iN (by omega)]
  unfold sg;rw[b1]
 ·by_cases h2:d=2*k
  ·subst h2;rw[Hr];unfold My;rw[iP (by omega),iN (by omega)]
   unfold sg;rw[b2]
  ·rw[Y2 h1 h2];unfold My;by_cases h3:d<2*k
   ·rw[iP (by omega),iP h3]
   ·rw[iN (by omega),iN h3]
def A1(ls:List Lt):Nat→Nat
 | 0=>0
 | k+1=>A1 ls k+if k+1<ls.length∧J1 ls (k+1)=true then 1 else 0
theorem P5{d:Nat}(h:d<2*ls.length+2*Z0 ls):CL d<2*ls.length+2*Z0 ls:=by unfold CL; split<;>omega
theorem Z2p(hw:Wv ls):BJ (sg ls) (2*ls.length+2*Z0 ls):=by
 have hp:BJ (BC ls) (2*ls.length+2*Z0 ls):=Xn hw;refine⟨fun d hd=>hp.lt _ (P5 hd),fun a b ha hb e=>?_⟩
 have:=hp.inj _ _ (P5 ha) (P5 hb) e;rw[← bH a,this,bH]
theorem yP(hw:Wv ls){S0:List (List Nat)}(h0:CC (sg ls) (2*ls.length+2*Z0 ls) S0):∀ k,k≤ls.length+Z0 ls → ∃ S,CC (My ls k) (2*ls.length+2*Z0 ls) S∧S.length+2*A1 ls k≤S0.length+k
 | 0,_=>⟨S0,h0.congr fun d _=>by unfold My; rw[iN (by omega)],by simp[A1]⟩
 | k+1,hk=>by
  obtain⟨S,h1,h2⟩:=yP hw h0 k (by omega)
  have hN:2*k+1<2*ls.length+2*Z0 ls:=by omega
  by_cases hn:k+1<ls.length∧J1 ls (k+1)=true
  ·obtain⟨C,c1,c2,c3⟩:=Z8x hw hn.1 hn.2;have low:∀ d,C d→2*k<d:=fun d hd=>by
    rcases c3 d hd with rfl|rfl|h|⟨w,c,w1,w2,rfl⟩
    ·unfold X6; rw[iP rfl]; omega
    ·unfold X6;rw[iN (by simp),show k+1+ls.length - 1=k+ls.length by omega,Nat.add_mod_right,Nat.mod_eq_of_lt (by omega)]
     omega
    ·omega
    ·unfold X6;cases c with
     | true=>rw[iP rfl]; omega
     | false=>
      rw[iN (by simp),show w+ls.length - 1=(w - 1)+ls.length by omega,Nat.add_mod_right,Nat.mod_eq_of_lt (by omega)]
      omega
   have hx:C (2*k+1):=by
    have:=c2 false;unfold X6 at this;rw[iN (by simp),show k+1+ls.length - 1=k+ls.length by omega,Nat.add_mod_right,Nat.mod_eq_of_lt (by omega)]at this
    exact this
   obtain⟨S',g1,g2⟩:=h1.merge (x:=2*k+1) (y:=2*k) hN (by omega) C (fun d hd=>by
    unfold My;rw[iN (by have:=low d hd; omega)]
    exact c1 d hd) hx (fun h=>by have:=low _ h; omega)
   refine⟨S',g1.congr fun d _=>yF k d,?_⟩
   simp only[A1];rw[iP hn];omega
  ·obtain⟨S',g1,g2⟩:=h1.Vd (x:=2*k+1) (y:=2*k) hN (by omega) (by omega)
   refine⟨S',g1.congr fun d _=>yF k d,?_⟩
   simp only[A1];rw[iN hn];omega
end
end Go.Ac
end
section
namespace Go.Ac
open Go.Plain
section
variable {ls:List Lt}
theorem Z6z(hw:Wv ls)(h0:0<ls.length):J1 ls 0=true:=by
 unfold J1;simp only[decide_eq_true_eq];by_cases hk:(at' ls 0).k=2
 ·have:=(ZN hw h0 hk).2;exact .inr ⟨hk,by omega⟩
 ·exact .inl (hw.GY 0 h0 hk)
theorem yG(hw:Wv ls)(h0:0<ls.length):∀ k,k+1≤ls.length→A1 ls k+1=((List.range (k+1)).filter (J1 ls)).length
 | 0,_=>by
  have:=Z6z hw h0;simp[A1,List.range_succ,this]
 | k+1,hk=>by
  have ih:=yG hw h0 k (by omega)
  rw[List.range_succ,List.filter_append,lA,← ih];simp only[A1];cases h:J1 ls (k+1)with
  | true=>
   rw[iP ⟨by omega,rfl⟩]
   simp[h]
  | false=>
   rw[iN (by simp)]
   simp[h]
theorem nL:∀ j,A1 ls (ls.length - 1+j)=A1 ls (ls.length - 1)
 | 0=>rfl
 | j+1=>by
  have ih:=nL j;have:A1 ls (ls.length - 1+j+1)=A1 ls (ls.length - 1+j):=by
   simp only[A1];rw[iN (by omega)]
   omega
  rw[← Nat.add_assoc,this,ih]
theorem Zz3(hw:Wv ls):ls.length+Z0 ls≤2*((List.range ls.length).filter (J1 ls)).length:=by
 have hsplit:((List.range ls.length).filter (J1 ls)).length+((List.range ls.length).filter fun i=>!J1 ls i).length=ls.length:=by
  have key:∀ l:List Nat,(l.filter (J1 ls)).length+(l.filter fun i=>!J1 ls i).length=l.length:=fun l=>by
   induction l with
   | nil=>rfl
   | cons a r ih=>
    rw[List.filter_cons,List.filter_cons];cases J1 ls a<;>simp<;>omega
  have:=key (List.range ls.length);rwa[List.length_range]at this
 have hB:∀ v,v∈(List.range ls.length).filter (fun i=>!J1 ls i)→v<ls.length∧(at' ls v).k=2∧DS ls v<v:=fun v hv=>by
  obtain⟨h1,h2⟩:=List.mem_filter.1 hv;have h1:=mR.1 h1;unfold J1 at h2;simp only[Bool.not_eq_true',decide_eq_false_iff_not,not_or,not_and]at h2;have hk:(at' ls v).k=2:=by
   have:=hw.GY v h1;omega
  have:=h2.2 hk;have:=(ZN hw h1 hk).2;exact⟨h1,hk,by omega⟩
 have hle:=List.Nodup.length_le_of_subset (l₁:=Z2 ls++((List.range ls.length).filter fun i=>!J1 ls i).map (DS ls)) (l₂:=(List.range ls.length).filter (J1 ls)) (by
  rw[List.nodup_append];refine⟨Hq ls,VX (fun a b ha hb e=>?_) (List.nodup_range.filter _),fun a ha b hb e=>?_⟩
  ·obtain⟨a1,a2,_⟩:=hB a ha;obtain⟨b1,b2,_⟩:=hB b hb;have h3:DS ls (DS ls a)=a:=(hw.Gy a a1 a2).2.2.1;have h4:DS ls (DS ls b)=b:=(hw.Gy b b1 b2).2.2.1;rw[← h3,e,h4]
  ·subst e;obtain⟨v,hv,rfl⟩:=mM.1 hb;obtain⟨v1,v2,_⟩:=hB v hv;have h1:=(hw.Gy v v1 v2).2.1;have h2:=(AB.1 ha).2;simp only[Am,beq_iff_eq]at h2;have h1:(at' ls (DS ls v)).k=2:=h1;omega) (fun a ha=>by
  rw[List.mem_filter,mR];rcases List.mem_append.1 ha with ha|ha
  ·obtain⟨h1,h2⟩:=AB.1 ha;refine⟨h1,?_⟩;unfold J1;simp only[Am,beq_iff_eq]at h2;simp[h2]
  ·obtain⟨v,hv,rfl⟩:=mM.1 ha;obtain⟨v1,v2,v3⟩:=hB v hv;obtain⟨h1,h2,h3,_,_⟩:=hw.Gy v v1 v2;refine⟨h1,?_⟩;have h3:DS ls (DS ls v)=v:=h3;have h2:(at' ls (DS ls v)).k=2:=h2;unfold J1;rw[h3];simp[h2,v3])
 rw[lA,lM,O5]at hle;omega
theorem VN(hw:Wv ls):ls.length=Z0 ls+X0 ls:=by
 have h1:=Nc (fun _=>true) Am ls
 have h2:Z9 (fun _=>true) ls=ls.length:=by simp[Z9]
 have h3:Z9 (fun l=>true&&Am l) ls=Z0 ls:=O8 fun l _=>by simp
 have h4:Z9 (fun l=>true && !Am l) ls=X0 ls:=O8 fun l hl=>by
  obtain⟨i,hi,e⟩:=List.getElem_of_mem hl;have ha:at' ls i=l:=by rw[at',List.getD,gE hi,← e]; rfl
  have:=hw.GY i hi;rw[ha]at this;unfold Am Bg;by_cases hk:l.k=2
  ·simp[hk]
  ·simp[hk,this hk]
 omega
theorem Z27{T:Nat→Nat}{s:List Nat}(hs:DL T s)(hc:T (S9 s)=DP s)(h:∀ d,d∈s→T d≠d∧T (T d)≠d∧T (T (T d))≠d):4≤s.length:=by
 match s,hs,hc,h with
 | [a],_,hc,h=>exact absurd hc (h a (by simp)).1
 | [a,b],hs,hc,h=>
  obtain⟨e1,_⟩:=hs;have hc:T b=a:=hc;have h2:T (T a)=a:=by rw[← e1]; exact hc
  exact absurd h2 (h a (by simp)).2.1
 | [a,b,c],hs,hc,h=>
  obtain⟨e1,e2,_⟩:=hs;have hc:T c=a:=hc;have h2:T (T (T a))=a:=by rw[← e1,← e2]; exact hc
  exact absurd h2 (h a (by simp)).2.2
 | _ :: _ :: _ :: _ :: _,_,_,_=>simp
theorem rZ:∀ {S:List (List Nat)},(∀ s,s∈S→4≤s.length)→4*S.length≤S.flatten.length
 | [],_=>by simp
 | s :: r,h=>by
  have h1:=h s (by simp)
  have h2:=rZ (S:=r) fun t ht=>h t (by simp[ht])
  simp only[lC,List.flatten_cons,lA];omega
theorem Z8b(hw:Wv ls):I8 (X7 ls (Z2 ls)) (2*ls.length+2*Z0 ls)≤Z0 ls+X0 ls / 2+2:=by
 have h0:0<ls.length:=by
  have:=hw.He;have:=VN hw;omega
 obtain⟨S0,c0⟩:=tU (Z2p hw);have hlt:∀ s,s∈S0 → ∀ d,d∈s→d<2*ls.length+2*Z0 ls:=fun s hs d hd=>(c0.Bo.Bo d).2 (List.mem_flatten.2 ⟨s,hs,hd⟩)
 have h4:=rZ (S:=S0) fun s hs=>Z27 (c0.Bo.seg s hs) (c0.cl s hs) fun d hd=>Z4c hw (hlt s hs d hd)
 have h5:S0.flatten.length≤2*ls.length+2*Z0 ls:=by
  have:=List.Nodup.length_le_of_subset (l₁:=S0.flatten) (l₂:=List.range (2*ls.length+2*Z0 ls)) c0.Bo.nd fun a ha=>mR.2 ((c0.Bo.Bo a).2 ha)
  simpa using this
 obtain⟨S,c1,c2⟩:=yP hw c0 (ls.length+Z0 ls) (lR _);have c3:CC (BC ls) (2*ls.length+2*Z0 ls) S:=c1.congr fun d hd=>by unfold My; rw[iP (by omega)]
 have hP:BJ (BC ls) (2*ls.length+2*Z0 ls):=Xn hw;have hc:=c3.count hP;have Fk:=yG hw h0 (ls.length - 1) (by omega)
 rw[show ls.length - 1+1=ls.length by omega]at Fk
 have hn2:=nL (ls:=ls) (Z0 ls+1);rw[show ls.length - 1+(Z0 ls+1)=ls.length+Z0 ls by omega]at hn2
 have hn3:=Zz3 hw;have hl:=VN hw;have:I8 (BC ls) (2*ls.length+2*Z0 ls)≤Z0 ls+X0 ls / 2+2:=by omega
 exact this
end
end Go.Ac
end
