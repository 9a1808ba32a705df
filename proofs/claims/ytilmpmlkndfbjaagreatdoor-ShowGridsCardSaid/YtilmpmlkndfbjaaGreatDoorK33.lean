/- Part 33 of the proof: Eb. -/
import Derived.Test.YtilmpmlkndfbjaaGreatDoorK23
import Derived.Test.YtilmpmlkndfbjaaGreatDoorK32
set_option linter.all false
namespace Go.Ab
open Go.Plain
section
variable {T bk:Nat→Nat} {E base:Nat} {y:Nat→Nat}
theorem z8{n:Nat}(h1:1≤n)(h4:n≤4)(hT:∀ d q,d<E→q<4→bk d=base+q→T d=base+(q+1) % 4)(hy:∀ k,k<n→y k<E∧bk (y k)=base+(4 - k) % 4)(ho:∀ q,q<4→bk (base+q)<E∧bk (bk (base+q))=base+q) :
 Iq T bk ((List.range n).map y)∧RE T bk (GH ((List.range n).map y)) (O4 base n) (bk (M7 ((List.range n).map y))):=by
 have o:=fun q (hq:q<4)=>hT _ q (ho q hq).1 hq (ho q hq).2
 have i:=fun k (hk:k<n)=>hT _ _ (hy k hk).1 (Nat.mod_lt (4 - k) (by omega)) (hy k hk).2
 have j:=fun k (hk:k<n)=>(hy k hk).2
 have:n=1∨n=2∨n=3∨n=4:=by omega
 rcases this with rfl|rfl|rfl|rfl
 ·exact⟨trivial,(i 0 (by omega)).symm,(o 1 (by omega)).symm,(o 2 (by omega)).symm,(j 0 (by omega)).trans (o 3 (by omega)).symm⟩
 ·exact⟨⟨(i 1 (by omega)).trans (j 0 (by omega)).symm,trivial⟩,(i 0 (by omega)).symm,(o 1 (by omega)).symm,(j 1 (by omega)).trans (o 2 (by omega)).symm⟩
 ·exact⟨⟨(i 1 (by omega)).trans (j 0 (by omega)).symm,(i 2 (by omega)).trans (j 1 (by omega)).symm,trivial⟩,(i 0 (by omega)).symm,(j 2 (by omega)).trans (o 1 (by omega)).symm⟩
 ·exact⟨⟨(i 1 (by omega)).trans (j 0 (by omega)).symm,(i 2 (by omega)).trans (j 1 (by omega)).symm,(i 3 (by omega)).trans (j 2 (by omega)).symm,trivial⟩,(j 3 (by omega)).trans (i 0 (by omega)).symm⟩
theorem Z7y{n:Nat}(h1:1≤n)(h4:n≤4)(hT:∀ d q,d<E→q<4→bk d=base+q→T d=base+(q+3) % 4)(hy:∀ k,k<n→y k<E∧bk (y k)=base+(4 - k) % 4)(ho:∀ q,q<4→bk (base+q)<E∧bk (bk (base+q))=base+q) :
 Iq T bk ((List.range n).map y).reverse∧RE T bk (GH ((List.range n).map y).reverse) (O4 base n).reverse (bk (M7 ((List.range n).map y).reverse)):=by
 have o:=fun q (hq:q<4)=>hT _ q (ho q hq).1 hq (ho q hq).2
 have i:=fun k (hk:k<n)=>hT _ _ (hy k hk).1 (Nat.mod_lt (4 - k) (by omega)) (hy k hk).2
 have j:=fun k (hk:k<n)=>(hy k hk).2
 have:n=1∨n=2∨n=3∨n=4:=by omega
 rcases this with rfl|rfl|rfl|rfl
 ·exact⟨trivial,(i 0 (by omega)).symm,(o 3 (by omega)).symm,(o 2 (by omega)).symm,(j 0 (by omega)).trans (o 1 (by omega)).symm⟩
 ·exact⟨⟨(i 0 (by omega)).trans (j 1 (by omega)).symm,trivial⟩,(i 1 (by omega)).symm,(o 2 (by omega)).symm,(j 0 (by omega)).trans (o 1 (by omega)).symm⟩
 ·exact⟨⟨(i 1 (by omega)).trans (j 2 (by omega)).symm,(i 0 (by omega)).trans (j 1 (by omega)).symm,trivial⟩,(i 2 (by omega)).symm,(j 0 (by omega)).trans (o 1 (by omega)).symm⟩
 ·exact⟨⟨(i 2 (by omega)).trans (j 3 (by omega)).symm,(i 1 (by omega)).trans (j 2 (by omega)).symm,(i 0 (by omega)).trans (j 1 (by omega)).symm,trivial⟩,(j 0 (by omega)).trans (i 3 (by omega)).symm⟩
end
def Eb(m:Nat)(X:List Nd)(L:List (Nat×Nat))(d:Nat):Nat:=
 if d<2*m+4*X.length then
  (if Bk L d<2*m then (if Bk L d % 2=0 then 2*m+4*X.length+Bk L d else 2*m+4*X.length+2*((Bk L d / 2+m - 1) % m)+1)
  else if (X.getD ((Bk L d - 2*m) / 4) (false,false)).2 then Bk L d - (Bk L d - 2*m) % 4+((Bk L d - 2*m) % 4+3) % 4 else Bk L d - (Bk L d - 2*m) % 4+((Bk L d - 2*m) % 4+1) % 4)
 else if d % 2=0 then 2*(((d - (2*m+4*X.length)) / 2+1) % m)else 2*((d - (2*m+4*X.length)) / 2)+1
def W7(m:Nat):List Nat:=(List.range m).map fun i=>2*i
def V8(m:Nat):List Nat:=(List.range m).map fun i=>2*i+1
section
variable {m:Nat} {X:List Nd} {L:List (Nat×Nat)}
theorem Wb{d i:Nat}(hd:d<2*m+4*X.length)(hj:Bk L d=2*i)(hi:i<m):Eb m X L d=2*m+4*X.length+2*i:=by
 unfold Eb
 grind
theorem Ww{d i:Nat}(hd:d<2*m+4*X.length)(hj:Bk L d=2*i+1)(hi:i<m):Eb m X L d=2*m+4*X.length+2*((i+m - 1) % m)+1:=by
 unfold Eb
 grind
theorem dA(p:Nat):Eb m X L (2*m+4*X.length+2*p)=2*((p+1) % m):=by
 unfold Eb
 grind
theorem Zp(p:Nat):Eb m X L (2*m+4*X.length+2*p+1)=2*p+1:=by
 unfold Eb
 grind
theorem sR{d j q:Nat}(hd:d<2*m+4*X.length)(hq:q<4)(hj:Bk L d=2*m+4*j+q):Eb m X L d=if (X.getD j (false,false)).2 then 2*m+4*j+(q+3) % 4 else 2*m+4*j+(q+1) % 4:=by
 unfold Eb
 grind
variable (hn:(U1 L).Nodup) (hE:∀ e,e<2*m+4*X.length↔e∈U1 L)
include hn hE
theorem QW{e:Nat}(he:e<2*m+4*X.length):Bk L e<2*m+4*X.length∧Bk L (Bk L e)=e∧Bk L e≠e:=by
 obtain⟨h1,h2,h3⟩:=Z9x hn ((hE e).1 he)
 grind
theorem uA{j:Nat}(hj:j<m):(W7 m).drop j=2*j :: (W7 m).drop (j+1):=by
 have hl:j<(W7 m).length:=by unfold W7; simpa using hj
 have hg:(W7 m)[j]? = some (2*j):=by
  unfold W7
  grind
 rw[gE hl]at hg;rw[List.drop_eq_getElem_cons hl,Option.some.inj hg]
theorem tO{j:Nat}(hj:j<m):(V8 m).take (j+1)=(V8 m).take j++[2*j+1]:=by
 have hg:(V8 m)[j]? = some (2*j+1):=by
  unfold V8
  grind
 rw[List.take_add_one,hg];rfl
theorem vU:∀ (k j:Nat),j+k+1=m → ∃ ps,FN (Eb m X L) (Bk L) (Bk L (2*j)) ((W7 m).drop (j+1)++[2*m+4*X.length+2*(m - 1)]) ps ∧
 ps.flatten.Perm ((List.range' j (k+1)).map (fun p=>2*m+4*X.length+2*p)++(W7 m).drop (j+1))
 | 0,j,hj=>by
  have hd:(W7 m).drop (j+1)=[]:=List.drop_eq_nil_of_le (by unfold W7; simp; omega)
  obtain⟨e1,e2,_⟩:=QW hn hE (e:=2*j) (by omega)
  rw[hd];refine⟨[[2*m+4*X.length+2*j]],⟨by simp,⟨(Wb e1 e2 (by omega)).symm,?_⟩,trivial⟩,by simp⟩
  show 2*m+4*X.length+2*j=_;omega
 | k+1,j,hj=>by
  obtain⟨ps,h1,h2⟩:=vU k (j+1) (by omega)
  obtain⟨e1,e2,_⟩:=QW hn hE (e:=2*j) (by omega)
  rw[uA hn hE (show j+1<m by omega)]
  refine⟨[2*m+4*X.length+2*j,2*(j+1)] :: ps,⟨by simp,⟨(Wb e1 e2 (by omega)).symm,?_,rfl⟩,h1⟩,?_⟩
  ·rw[dA,Nat.mod_eq_of_lt (by omega)]
  ·rw[List.flatten_cons,List.range'_succ,List.map_cons]
   grind
theorem rU:∀ (j:Nat),j<m → ∃ ps,FN (Eb m X L) (Bk L) (Bk L (2*j+1)) (((V8 m).take j).reverse++[2*m+4*X.length+2*(m - 1)+1]) ps ∧
 ps.flatten.Perm ((List.range j).map (fun p=>2*m+4*X.length+2*p+1)++[2*m+4*X.length+2*(m - 1)+1]++(V8 m).take j)
 | 0,hj=>by
  obtain⟨e1,e2,_⟩:=QW hn hE (e:=2*0+1) (by omega)
  refine⟨[[2*m+4*X.length+2*(m - 1)+1]],⟨by simp,⟨?_,rfl⟩,trivial⟩,by simp⟩
  rw[Ww e1 e2 hj,Nat.zero_add,Nat.mod_eq_of_lt (by omega)]
 | j+1,hj=>by
  obtain⟨ps,h1,h2⟩:=rU j (by omega)
  obtain⟨e1,e2,_⟩:=QW hn hE (e:=2*(j+1)+1) (by omega)
  rw[tO hn hE (show j<m by omega),List.reverse_append]
  refine⟨[2*m+4*X.length+2*j+1,2*j+1] :: ps,⟨by simp,⟨?_,(Zp j).symm,rfl⟩,h1⟩,?_⟩
  ·rw[Ww e1 e2 hj,show j+1+m - 1=j+m by omega,Nat.add_mod_right,Nat.mod_eq_of_lt (by omega)]
  ·rw[List.flatten_cons,List.range_succ,List.map_append]
   grind
theorem Z3y(hm:0<m):GU (Eb m X L) (Bk L) (2*m+4*X.length+2*(m - 1)) (W7 m) ((List.range m).map (fun p=>2*m+4*X.length+2*p)++W7 m) 0:=by
 obtain⟨ps,h1,h2⟩:=vU hn hE (m - 1) 0 (by omega)
 have hd:W7 m=2*0 :: (W7 m).drop 1:=by
  have:=uA hn hE hm
  grind
 refine⟨[2*0] :: ps,[],?_,fun w hw=>(by cases hw),rfl,?_⟩
 ·have hg:FN (Eb m X L) (Bk L) (2*m+4*X.length+2*(m - 1)) (2*0 :: (W7 m).drop 1++[2*m+4*X.length+2*(m - 1)]) ([2*0] :: ps):=by
   refine⟨by simp,⟨?_,rfl⟩,h1⟩
   rw[dA,show m - 1+1=m by omega,Nat.mod_self]
  grind
 ·rw[List.flatten_nil,List.nil_append,List.flatten_cons];rw[show m - 1+1=m by omega]at h2
  simp only[Nat.zero_add]at h2
  conv=>rhs; rw[hd]
  rw[List.range_eq_range']
  grind
theorem uo(hm:0<m):GU (Eb m X L) (Bk L) (2*m+4*X.length+2*(m - 1)+1) (V8 m).reverse ((List.range m).map (fun p=>2*m+4*X.length+2*p+1)++V8 m) 0:=by
 obtain⟨ps,h1,h2⟩:=rU hn hE (m - 1) (by omega)
 have hd:V8 m=(V8 m).take (m - 1)++[2*(m - 1)+1]:=by
  have:=tO hn hE (show m - 1<m by omega)
  rw[show m - 1+1=m by omega,tL (by unfold V8; simp)]at this
  exact this
 refine⟨[2*(m - 1)+1] :: ps,[],?_,fun w hw=>(by cases hw),rfl,?_⟩
 ·have hg:FN (Eb m X L) (Bk L) (2*m+4*X.length+2*(m - 1)+1) ((2*(m - 1)+1) :: ((V8 m).take (m - 1)).reverse++[2*m+4*X.length+2*(m - 1)+1]) ([2*(m - 1)+1] :: ps):=
   ⟨by simp,⟨(Zp (m - 1)).symm,rfl⟩,h1⟩
  grind
 ·rw[List.flatten_nil,List.nil_append,List.flatten_cons]
  conv=>rhs; rw[hd]
  have hr:(List.range m).map (fun p=>2*m+4*X.length+2*p+1)=(List.range (m - 1)).map (fun p=>2*m+4*X.length+2*p+1)++[2*m+4*X.length+2*(m - 1)+1]:=by
   have:∀ k,0<k→List.range k=List.range (k - 1)++[k - 1]:=fun k hk=>by
    conv=>lhs; rw[show k=k - 1+1 by omega,List.range_succ]
   rw[this m hm,List.map_append];rfl
  grind
omit hn hE in
theorem Z62{l:List Nat}{a n:Nat}(h:a+n≤l.length):(l.drop a).take n=(List.range n).map fun k=>l.getD (a+k) 0:=by
 apply List.ext_getElem?
 grind
omit hn hE in
theorem yG{front CX:List Nat}{L0:List (Nat×Nat)}{X0:List Nd}(h:CU m front CX L0 X0){e:Nat}(he:e∈front):e<2*m+4*X0.length:=by
 have:=h.mem_iff.1 (show e∈front++CX++U1 L0 by simp[he])
 grind
omit hn hE in
theorem zw(base K:Nat):(List.range (4+K)).map (fun k=>base+k)=[base,base+1,base+2,base+3]++(List.range K).map (fun k=>base+4+k):=by
 rw[List.range_add,List.map_append,List.map_map]
 congr 1
 refine List.map_congr_left fun k _=>?_
 grind
theorem VA{A:Nat}(below:Bool){CX:List Nat}:∀ (rs:List Ro) (front:List Nat) (L0:List (Nat×Nat)) (X0:List Nd) (L1:List (Nat×Nat)) (X1:List Nd) (FE:List Nat) (c:Nat),CU m front CX L0 X0→X9 m below rs front L0 X0=(true,L1,X1) →
 (∃ M,L=L1++M)→(∃ Y,X=X1++Y)→GU (Eb m X L) (Bk L) A (if below then front.reverse else front) FE c →
 ∃ dts' c',GU (Eb m X L) (Bk L) A [] dts' c'∧dts'.Perm (FE++(List.range (4*(X1.length - X0.length))).map (fun k=>2*m+4*X0.length+k))∧X0.length≤X1.length∧2*c'+2*X0.length=2*c+front.length+2*X1.length
 | [],front,L0,X0,L1,X1,FE,c,hO,h,_,_,hS=>by
  simp only[X9,AP,decide_eq_true_eq]at h;obtain⟨rfl,rfl,rfl⟩:=h;have e:(if below then ([]:List Nat).reverse else [])=[]:=by cases below<;>rfl
  grind
 | r :: rs,front,L0,X0,L1,X1,FE,c,hO,h,hL,hX,hS=>by
  simp only[X9]at h;split at h
  ·rename_i hc;obtain⟨_,c2,c3,_,_⟩:=hc;have hi:r.2.1.toNat+1<front.length:=by omega
   have hO':=hO.cap hi;obtain⟨_,⟨M,hM⟩,_⟩:=LV rs _ _ _ _ _ hO' h;obtain⟨M',hM'⟩:=hL;have hmem:(front.getD r.2.1.toNat 0,front.getD (r.2.1.toNat+1) 0)∈L:=by
    rw[hM',hM];simp
   obtain⟨p1,p2⟩:=VM hn hmem;have hS':GU (Eb m X L) (Bk L) A (if below then (front.take r.2.1.toNat++front.drop (r.2.1.toNat+2)).reverse else front.take r.2.1.toNat++front.drop (r.2.1.toNat+2)) FE (c+1):=by
    rw[pU hi]at hS;cases below with
    | false=>
     simp only[bF,if_false]at hS ⊢;exact hS.cap p1 p2
    | true=>
     simp only[if_true,List.reverse_append,List.reverse_cons,List.append_assoc,List.cons_append,List.nil_append]at hS ⊢;exact hS.cap p2 p1
   obtain⟨dts',c',q1,q2,q3,q4⟩:=VA below rs _ _ _ _ _ FE (c+1) hO' h ⟨M',hM'⟩ hX hS'
   grind
  ·split at h
   ·rename_i hc;obtain⟨_,c2,c3,c4,c5⟩:=hc;obtain⟨n,hn'⟩:∃ n,r.2.2.1.toNat=n:=⟨_,rfl⟩
    obtain⟨a,ha'⟩:∃ a,r.2.1.toNat=a:=⟨_,rfl⟩
    rw[hn',ha']at h;have h1:1≤n:=by omega
    have h4:n≤4:=by omega
    have han:a+n≤front.length:=by omega
    have hO':=hO.DE h1 h4 han (r.2.2.2,below);obtain⟨_,⟨M,hM⟩,Y,hY,_⟩:=LV rs _ _ _ _ _ hO' h;obtain⟨M',hM'⟩:=hL;obtain⟨Y',hY'⟩:=hX;have hXl:X0.length+1≤X1.length:=by grind
    have hXl2:X1.length≤X.length:=by rw[hY']; simp
    have hXg:X.getD X0.length (false,false)=(r.2.2.2,below):=by
     grind
    have hy:∀ k,k<n→front.getD (a+k) 0<2*m+4*X.length∧Bk L (front.getD (a+k) 0)=2*m+4*X0.length+(4 - k) % 4:=fun k hk=>by
     have hlt:=yG hO (e:=front.getD (a+k) 0) (ML (by omega))
     have hmem:(front.getD (a+k) 0,2*m+4*X0.length+(4 - k) % 4)∈L:=by
      rw[hM',hM];refine List.mem_append_left _ (List.mem_append_left _ (List.mem_append_right _ ?_));exact mM.2 ⟨k,mR.2 hk,rfl⟩
     exact⟨by omega,(VM hn hmem).1⟩
    have ho:∀ q,q<4→Bk L (2*m+4*X0.length+q)<2*m+4*X.length∧Bk L (Bk L (2*m+4*X0.length+q))=2*m+4*X0.length+q:=fun q hq=>by
     have:=QW hn hE (e:=2*m+4*X0.length+q) (by omega)
     omega
    have hTc:=fun d q (hd:d<2*m+4*X.length) (hq:q<4) (hj:Bk L d=2*m+4*X0.length+q)=>sR (X:=X) (L:=L) hd hq hj
    rw[hXg]at hTc;have hins:=Z62 (l:=front) han;have hmp:((List.range n).map fun k=>front.getD (a+k) 0).map (Bk L)=(List.range n).map fun k=>2*m+4*X0.length+(4 - k) % 4:=by
     simp_all
    have h4e:=uI (2*m+4*X0.length) n h1 h4;obtain⟨dts1,hS',hd1⟩:∃ dts1,GU (Eb m X L) (Bk L) A (if below then (front.take a++O4 (2*m+4*X0.length) n++front.drop (a+n)).reverse else front.take a++O4 (2*m+4*X0.length) n++front.drop (a+n)) dts1 (c+(n - 1)) ∧
     dts1.Perm (FE++[2*m+4*X0.length,2*m+4*X0.length+1,2*m+4*X0.length+2,2*m+4*X0.length+3]):=by
     rw[qP (l:=front) (a:=a) (n:=n),hins]at hS;cases below with
     | false=>
      simp only[bF,if_false]at hS hTc ⊢;obtain⟨s1,s2⟩:=z8 h1 h4 hTc hy ho;have:=hS.DE s1 s2;rw[lM,List.length_range,hmp]at this
      grind
     | true=>
      simp only[if_true]at hS hTc ⊢;obtain⟨s1,s2⟩:=Z7y h1 h4 hTc hy ho;rw[List.reverse_append,List.reverse_append,← List.append_assoc]at hS;have:=hS.DE s1 s2;rw[List.length_reverse,lM,List.length_range,List.map_reverse,hmp]at this;refine⟨_,?_,(List.Perm.append ((List.reverse_perm _)) ((List.reverse_perm _))).append_left FE |>.trans (h4e.append_left FE)⟩
      grind
    obtain⟨dts',c',q1,q2,q3,q4⟩:=VA below rs _ _ _ _ _ dts1 (c+(n - 1)) hO' h ⟨M',hM'⟩ ⟨Y',hY'⟩ hS';have eX:(X0++[(r.2.2.2,below)]).length=X0.length+1:=by simp
    rw[eX]at q2 q3 q4;refine⟨dts',c',q1,?_,by omega,?_⟩
    ·refine q2.trans ((hd1.append_right _).trans ?_);have e4:4*(X1.length - X0.length)=4+4*(X1.length - (X0.length+1)):=by omega
     rw[e4,zw,List.append_assoc,show 2*m+4*(X0.length+1)=2*m+4*X0.length+4 by omega]
    ·rw[lA,lA,lK,List.length_drop]at q4;have:(O4 (2*m+4*X0.length) n).length=4 - n:=by unfold O4; simp
     omega
   ·cases h
end
theorem QO:∀ m:Nat,(W7 m++V8 m).Perm (List.range (2*m))
 | 0=>List.Perm.refl _
 | m+1=>by
  have ih:=QO m;have e1:W7 (m+1)=W7 m++[2*m]:=by unfold W7; rw[List.range_succ,List.map_append]; rfl
  have e2:V8 (m+1)=V8 m++[2*m+1]:=by unfold V8; rw[List.range_succ,List.map_append]; rfl
  rw[e1,e2,show 2*(m+1)=2*m+1+1 by omega,List.range_succ,List.range_succ]
  grind
def Q1(m:Nat)(above below:List Ro):Bool×List (Nat×Nat)×List Nd:=
 if (X9 m false above (W7 m) [] []).1 then X9 m true below (V8 m) (X9 m false above (W7 m) [] []).2.1 (X9 m false above (W7 m) [] []).2.2 else X9 m false above (W7 m) [] []
theorem Ye{m:Nat}{below:Bool}:∀ (rs:List Ro) (front:List Nat) (L:List (Nat×Nat)) (X:List Nd) (L1:List (Nat×Nat)) (X1:List Nd),X9 m below rs front L X=(true,L1,X1)→front.length % 2=0
 | [],front,L,X,L1,X1,h=>by
  simp only[X9,AP,decide_eq_true_eq]at h;rw[h.1]; rfl
 | r :: rs,front,L,X,L1,X1,h=>by
  simp only[X9]at h;split at h
  ·rename_i hc;obtain⟨_,c2,c3,_,_⟩:=hc;have:=Ye rs _ _ _ _ _ h;rw[lA,lK,List.length_drop]at this;omega
  ·split at h
   ·rename_i hc;obtain⟨_,c2,c3,c4,c5⟩:=hc;have:=Ye rs _ _ _ _ _ h;unfold O4 at this;rw[lA,lA,lK,List.length_drop,lM,List.length_range]at this;omega
   ·cases h
theorem Z2u{m:Nat}{above below:List Ro}{L:List (Nat×Nat)}{X:List Nd}(h:Q1 m above below=(true,L,X)) :
 (U1 L).Nodup∧(∀ e,e<2*m+4*X.length↔e∈U1 L)∧m % 2=0:=by
 unfold Q1 at h;obtain⟨b1,L1,X1,h1⟩:∃ b1 L1 X1,X9 m false above (W7 m) [] []=(b1,L1,X1):=⟨_,_,_,rfl⟩
 rw[h1]at h;cases b1 with
 | false=>simp at h
 | true=>
  simp only[if_true]at h;have hO:CU m (W7 m) (V8 m) [] []:=by
   unfold CU;have:=QO m;simpa[U1]using this
  obtain⟨o1,_,_⟩:=LV above _ _ _ _ _ hO h1;have hO1:CU m (V8 m) [] L1 X1:=by
   unfold CU at o1 ⊢;simpa using o1
  obtain⟨o2,_⟩:=LV below _ _ _ _ _ hO1 h;have hp:(U1 L).Perm (List.range (2*m+4*X.length)):=by
   unfold CU at o2;simpa using o2
  have he:=Ye _ _ _ _ _ _ h1;have lu:(W7 m).length=m:=by unfold W7; simp
  exact⟨hp.nodup_iff.2 List.nodup_range,fun e=>by rw[hp.mem_iff,mR],by omega⟩
theorem Z3m{m:Nat}{above below:List Ro}{L:List (Nat×Nat)}{X:List Nd}(hm:0<m)(h:Q1 m above below=(true,L,X)) :
 (U1 L).Nodup∧(∀ e,e<2*m+4*X.length↔e∈U1 L)∧m % 2=0∧(Cn (Eb m X L) (2*m+4*X.length+2*m)→H5 (Eb m X L) (2*m+4*X.length+2*m)=m+X.length+2):=by
 unfold Q1 at h;obtain⟨b1,L1,X1,h1⟩:∃ b1 L1 X1,X9 m false above (W7 m) [] []=(b1,L1,X1):=⟨_,_,_,rfl⟩
 rw[h1]at h;cases b1 with
 | false=>simp at h
 | true=>
  simp only[if_true]at h;have hO:CU m (W7 m) (V8 m) [] []:=by
   unfold CU;have:=QO m;simpa[U1]using this
  obtain⟨o1,_,_⟩:=LV above _ _ _ _ _ hO h1;have hO1:CU m (V8 m) [] L1 X1:=by
   unfold CU at o1 ⊢;simpa using o1
  obtain⟨o2,hM,Y,hY,_⟩:=LV below _ _ _ _ _ hO1 h;have hp:(U1 L).Perm (List.range (2*m+4*X.length)):=by
   unfold CU at o2;simpa using o2
  have hn:(U1 L).Nodup:=hp.nodup_iff.2 List.nodup_range;have hE:∀ e,e<2*m+4*X.length↔e∈U1 L:=fun e=>by rw[hp.mem_iff,mR]
  obtain⟨d1,c1,a1,a2,a3,a4⟩:=VA hn hE (A:=2*m+4*X.length+2*(m - 1)) false above _ _ _ _ _ _ 0 hO h1 hM ⟨Y,hY⟩ (by simpa using Z3y hn hE hm)
  obtain⟨d2,c2,b1,b2,b3,b4⟩:=VA hn hE (A:=2*m+4*X.length+2*(m - 1)+1) true below _ _ _ _ _ _ 0 hO1 h ⟨[],by simp⟩ ⟨[],by simp⟩ (by simpa using uo hn hE hm)
  have lu:(W7 m).length=m:=by unfold W7; simp
  have ld:(V8 m).length=m:=by unfold V8; simp
  rw[lu]at a4;rw[ld]at b4;simp only[List.length_nil]at a2 a3 a4;refine⟨hn,hE,by omega,fun hP=>?_⟩
  obtain⟨S1,s1,s2,s3⟩:=a1.done;obtain⟨S2,t1,t2,t3⟩:=b1.done;have hall:(S1++S2).flatten.Perm (List.range (2*m+4*X.length+2*m)):=by
   rw[List.flatten_append];refine(s2.append t2).trans ((a2.append b2).trans ?_);have e0:2*m+4*X.length+2*m=2*m+(4*X1.length+(4*(X.length - X1.length)+2*m)):=by omega
   rw[e0,List.range_add,List.range_add,List.range_add];have u1:=QO m;have e1:(List.range m).map (fun p=>2*m+4*X.length+2*p)=(W7 m).map (fun k=>2*m+4*X.length+k):=by unfold W7; rw[List.map_map]; rfl
   have e2:(List.range m).map (fun p=>2*m+4*X.length+2*p+1)=(V8 m).map (fun k=>2*m+4*X.length+k):=by
    unfold V8; rw[List.map_map];exact List.map_congr_left fun k _=>(by show 2*m+4*X.length+2*k+1=2*m+4*X.length+(2*k+1); omega)
   rw[e1,e2];simp only[List.map_append];have u2:=u1.map (fun k=>2*m+4*X.length+k)
   have f1:(List.map (fun x=>2*m+x) (List.map (fun x=>4*X1.length+x) (List.range (4*(X.length - X1.length)))))=(List.range (4*(X.length - X1.length))).map (fun k=>2*m+4*X1.length+k):=by
    rw[List.map_map];exact List.map_congr_left fun k _=>(by show 2*m+(4*X1.length+k)=_; omega)
   have f2:List.map (fun x=>2*m+x) (List.map (fun x=>4*X1.length+x) (List.map (fun x=>4*(X.length - X1.length)+x) (List.range (2*m))))=(List.range (2*m)).map (fun k=>2*m+4*X.length+k):=by
    rw[List.map_map,List.map_map];exact List.map_congr_left fun k _=>(by show 2*m+(4*X1.length+(4*(X.length - X1.length)+k))=_; omega)
   rw[f1,f2];have f3:(List.range (4*(X1.length - 0))).map (fun k=>2*m+4*0+k)=(List.range (4*X1.length)).map (fun x=>2*m+x):=by
    rw[Nat.sub_zero];exact List.map_congr_left fun k _=>(by show 2*m+4*0+k=2*m+k; omega)
   rw[f3];rw[List.perm_iff_count]at u1 u2 ⊢;intro z;have u1:=u1 z;have u2:=u2 z;simp only[List.map_append,List.count_append]at u1 u2 ⊢;omega
  have hC:kT (Eb m X L) (2*m+4*X.length+2*m) (S1++S2):=by
   refine⟨fun s hs=>?_,hall.nodup_iff.2 List.nodup_range,fun d=>by rw[hall.mem_iff,mR]⟩
   rcases List.mem_append.1 hs with hs|hs
   ·exact(s1 s hs).seg.1
   ·exact(t1 s hs).seg.1
  have:=Z91 hP hC fun s hs=>by
   rcases List.mem_append.1 hs with hs|hs
   ·exact(s1 s hs).seg.2
   ·exact(t1 s hs).seg.2
  grind
end Go.Ab
