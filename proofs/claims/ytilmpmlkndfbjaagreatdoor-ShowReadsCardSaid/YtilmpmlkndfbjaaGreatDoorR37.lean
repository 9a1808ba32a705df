/- Part 37 of the proof: Eb. -/
import Derived.Test.YtilmpmlkndfbjaaGreatDoorR25
import Derived.Test.YtilmpmlkndfbjaaGreatDoorR36
set_option linter.all false
namespace Go.Known
open Go.Plain
section
variable {T bk:Nat→Nat} {E base:Nat} {y:Nat→Nat}
theorem Z0n{n:Nat}(g:1≤n)(h:n≤4)(e:∀ d q,d<E→q<4→bk d=base+q→T d=base+(q+1) % 4)(c:∀ k,k<n→y k<E∧bk (y k)=base+(4 - k) % 4)(f:∀ q,q<4→bk (base+q)<E∧bk (bk (base+q))=base+q) :
 Side T bk ((List.range n).map y)∧Rot T bk (hdN ((List.range n).map y)) (K7 base n) (bk (L9 ((List.range n).map y))):=by
 have o:=fun q (b:q<4)=>e _ q (f q b).1 b (f q b).2
 have i:=fun k (a:k<n)=>e _ _ (c k a).1 (Nat.mod_lt (4 - k) (by omega)) (c k a).2
 have j:=fun k (a:k<n)=>(c k a).2
 have:n=1∨n=2∨n=3∨n=4:=by omega
 rcases this with rfl|rfl|rfl|rfl
 ·exact⟨trivial,(i 0 (by omega)).symm,(o 1 (by omega)).symm,(o 2 (by omega)).symm,(j 0 (by omega)).trans (o 3 (by omega)).symm⟩
 ·exact⟨⟨(i 1 (by omega)).trans (j 0 (by omega)).symm,trivial⟩,(i 0 (by omega)).symm,(o 1 (by omega)).symm,(j 1 (by omega)).trans (o 2 (by omega)).symm⟩
 ·exact⟨⟨(i 1 (by omega)).trans (j 0 (by omega)).symm,(i 2 (by omega)).trans (j 1 (by omega)).symm,trivial⟩,(i 0 (by omega)).symm,(j 2 (by omega)).trans (o 1 (by omega)).symm⟩
 ·exact⟨⟨(i 1 (by omega)).trans (j 0 (by omega)).symm,(i 2 (by omega)).trans (j 1 (by omega)).symm,(i 3 (by omega)).trans (j 2 (by omega)).symm,trivial⟩,(j 3 (by omega)).trans (i 0 (by omega)).symm⟩
theorem Z1g{n:Nat}(g:1≤n)(h:n≤4)(e:∀ d q,d<E→q<4→bk d=base+q→T d=base+(q+3) % 4)(c:∀ k,k<n→y k<E∧bk (y k)=base+(4 - k) % 4)(f:∀ q,q<4→bk (base+q)<E∧bk (bk (base+q))=base+q) :
 Side T bk ((List.range n).map y).reverse∧Rot T bk (hdN ((List.range n).map y).reverse) (K7 base n).reverse (bk (L9 ((List.range n).map y).reverse)):=by
 have o:=fun q (b:q<4)=>e _ q (f q b).1 b (f q b).2
 have i:=fun k (a:k<n)=>e _ _ (c k a).1 (Nat.mod_lt (4 - k) (by omega)) (c k a).2
 have j:=fun k (a:k<n)=>(c k a).2
 have:n=1∨n=2∨n=3∨n=4:=by omega
 rcases this with rfl|rfl|rfl|rfl
 ·exact⟨trivial,(i 0 (by omega)).symm,(o 3 (by omega)).symm,(o 2 (by omega)).symm,(j 0 (by omega)).trans (o 1 (by omega)).symm⟩
 ·exact⟨⟨(i 0 (by omega)).trans (j 1 (by omega)).symm,trivial⟩,(i 1 (by omega)).symm,(o 2 (by omega)).symm,(j 0 (by omega)).trans (o 1 (by omega)).symm⟩
 ·exact⟨⟨(i 1 (by omega)).trans (j 2 (by omega)).symm,(i 0 (by omega)).trans (j 1 (by omega)).symm,trivial⟩,(i 2 (by omega)).symm,(j 0 (by omega)).trans (o 1 (by omega)).symm⟩
 ·exact⟨⟨(i 2 (by omega)).trans (j 3 (by omega)).symm,(i 1 (by omega)).trans (j 2 (by omega)).symm,(i 0 (by omega)).trans (j 1 (by omega)).symm,trivial⟩,(j 0 (by omega)).trans (i 3 (by omega)).symm⟩
end
def tnE(m:Nat)(X:List Nd)(L:List (Nat×Nat))(d:Nat):Nat:=
 if d<2*m+4*X.length then
  (if ptn L d<2*m then (if ptn L d % 2=0 then 2*m+4*X.length+ptn L d else 2*m+4*X.length+2*((ptn L d / 2+m - 1) % m)+1)
  else if (X.getD ((ptn L d - 2*m) / 4) (false,false)).2 then ptn L d - (ptn L d - 2*m) % 4+((ptn L d - 2*m) % 4+3) % 4 else ptn L d - (ptn L d - 2*m) % 4+((ptn L d - 2*m) % 4+1) % 4)
 else if d % 2=0 then 2*(((d - (2*m+4*X.length)) / 2+1) % m)else 2*((d - (2*m+4*X.length)) / 2)+1
def V2(m:Nat):List Nat:=(List.range m).map fun i=>2*i
def U2(m:Nat):List Nat:=(List.range m).map fun i=>2*i+1
section
variable {m:Nat} {X:List Nd} {L:List (Nat×Nat)}
theorem Zlb{d i:Nat}(a:d<2*m+4*X.length)(b:ptn L d=2*i)(hi:i<m):tnE m X L d=2*m+4*X.length+2*i:=by
 unfold tnE;rw[if_pos a,b,if_pos (by omega),if_pos (by omega)]
theorem Zkx{d i:Nat}(a:d<2*m+4*X.length)(b:ptn L d=2*i+1)(hi:i<m):tnE m X L d=2*m+4*X.length+2*((i+m - 1) % m)+1:=by
 unfold tnE;rw[if_pos a,b,if_pos (by omega),if_neg (by omega),show (2*i+1) / 2=i by omega]
theorem Znr(p:Nat):tnE m X L (2*m+4*X.length+2*p)=2*((p+1) % m):=by
 unfold tnE;rw[if_neg (by omega),if_pos (by omega),show (2*m+4*X.length+2*p - (2*m+4*X.length)) / 2=p by omega]
theorem Zn5(p:Nat):tnE m X L (2*m+4*X.length+2*p+1)=2*p+1:=by
 unfold tnE;rw[if_neg (by omega),if_neg (by omega),show (2*m+4*X.length+2*p+1 - (2*m+4*X.length)) / 2=p by omega]
theorem Zyh{d j q:Nat}(a:d<2*m+4*X.length)(c:q<4)(b:ptn L d=2*m+4*j+q):tnE m X L d=if (X.getD j (false,false)).2 then 2*m+4*j+(q+3) % 4 else 2*m+4*j+(q+1) % 4:=by
 unfold tnE;rw[if_pos a,b,if_neg (by omega),show (2*m+4*j+q - 2*m) / 4=j by omega,show (2*m+4*j+q - 2*m) % 4=q by omega,show 2*m+4*j+q - q=2*m+4*j by omega]
variable (hn:(U9 L).Nodup) (hE:∀ e,e<2*m+4*X.length↔e∈U9 L)
include hn hE
theorem Zhr{e:Nat}(d:e<2*m+4*X.length):ptn L e<2*m+4*X.length∧ptn L (ptn L e)=e∧ptn L e≠e:=by
 obtain⟨a,b,c⟩:=Z1z hn ((hE e).1 d);exact⟨(hE _).2 a,b,c⟩
theorem Zuc{j:Nat}(b:j<m):(V2 m).drop j=2*j :: (V2 m).drop (j+1):=by
 have c:j<(V2 m).length:=by unfold V2; simpa using b
 have a:(V2 m)[j]? = some (2*j):=by
  unfold V2;rw[List.getElem?_map,List.getElem?_range b];rfl
 rw[gE c]at a;rw[List.drop_eq_getElem_cons c,Option.some.inj a]
theorem Zx7{j:Nat}(b:j<m):(U2 m).take (j+1)=(U2 m).take j++[2*j+1]:=by
 have a:(U2 m)[j]? = some (2*j+1):=by
  unfold U2;rw[List.getElem?_map,List.getElem?_range b];rfl
 rw[List.take_add_one,a];rfl
theorem Zsh:∀ (k j:Nat),j+k+1=m → ∃ ps,Gap (tnE m X L) (ptn L) (ptn L (2*j)) ((V2 m).drop (j+1)++[2*m+4*X.length+2*(m - 1)]) ps ∧
 ps.flatten.Perm ((List.range' j (k+1)).map (fun p=>2*m+4*X.length+2*p)++(V2 m).drop (j+1))
 | 0,j,h=>by
  have g:(V2 m).drop (j+1)=[]:=List.drop_eq_nil_of_le (by unfold V2; simp; omega)
  obtain⟨b,c,_⟩:=Zhr hn hE (e:=2*j) (by omega)
  rw[g];refine⟨[[2*m+4*X.length+2*j]],⟨by simp,⟨(Zlb b c (by omega)).symm,?_⟩,trivial⟩,by simp⟩
  show 2*m+4*X.length+2*j=_;rw[show m - 1=j by omega]
 | k+1,j,h=>by
  obtain⟨ps,f,d⟩:=Zsh k (j+1) (by omega)
  obtain⟨b,c,_⟩:=Zhr hn hE (e:=2*j) (by omega)
  rw[Zuc hn hE (show j+1<m by omega)]
  refine⟨[2*m+4*X.length+2*j,2*(j+1)] :: ps,⟨by simp,⟨(Zlb b c (by omega)).symm,?_,rfl⟩,f⟩,?_⟩
  ·rw[Znr,Nat.mod_eq_of_lt (by omega)]
  ·rw[List.flatten_cons,List.range'_succ,List.map_cons];rw[List.perm_iff_count]at d ⊢;intro a;have:=d a;simp only[List.count_append,List.count_cons,List.count_nil,List.cons_append]at this ⊢;omega
theorem Ztg:∀ (j:Nat),j<m → ∃ ps,Gap (tnE m X L) (ptn L) (ptn L (2*j+1)) (((U2 m).take j).reverse++[2*m+4*X.length+2*(m - 1)+1]) ps ∧
 ps.flatten.Perm ((List.range j).map (fun p=>2*m+4*X.length+2*p+1)++[2*m+4*X.length+2*(m - 1)+1]++(U2 m).take j)
 | 0,d=>by
  obtain⟨b,c,_⟩:=Zhr hn hE (e:=2*0+1) (by omega)
  refine⟨[[2*m+4*X.length+2*(m - 1)+1]],⟨by simp,⟨?_,rfl⟩,trivial⟩,by simp⟩
  rw[Zkx b c d,Nat.zero_add,Nat.mod_eq_of_lt (by omega)]
 | j+1,d=>by
  obtain⟨ps,g,f⟩:=Ztg j (by omega)
  obtain⟨b,c,_⟩:=Zhr hn hE (e:=2*(j+1)+1) (by omega)
  rw[Zx7 hn hE (show j<m by omega),List.reverse_append]
  refine⟨[2*m+4*X.length+2*j+1,2*j+1] :: ps,⟨by simp,⟨?_,(Zn5 j).symm,rfl⟩,g⟩,?_⟩
  ·rw[Zkx b c d,show j+1+m - 1=j+m by omega,Nat.add_mod_right,Nat.mod_eq_of_lt (by omega)]
  ·rw[List.flatten_cons,List.range_succ,List.map_append];rw[List.perm_iff_count]at f ⊢;intro a;have:=f a;simp only[List.count_append,List.count_cons,List.count_nil,List.map_cons,List.map_nil]at this ⊢;omega
theorem Z2s(hm:0<m):Stt (tnE m X L) (ptn L) (2*m+4*X.length+2*(m - 1)) (V2 m) ((List.range m).map (fun p=>2*m+4*X.length+2*p)++V2 m) 0:=by
 obtain⟨ps,e,b⟩:=Zsh hn hE (m - 1) 0 (by omega)
 have c:V2 m=2*0 :: (V2 m).drop 1:=by
  have:=Zuc hn hE hm;rwa[List.drop_zero]at this
 refine⟨[2*0] :: ps,[],?_,fun w f=>(by cases f),rfl,?_⟩
 ·have d:Gap (tnE m X L) (ptn L) (2*m+4*X.length+2*(m - 1)) (2*0 :: (V2 m).drop 1++[2*m+4*X.length+2*(m - 1)]) ([2*0] :: ps):=by
   refine⟨by simp,⟨?_,rfl⟩,e⟩
   rw[Znr,show m - 1+1=m by omega,Nat.mod_self]
  rw[← c]at d;exact d
 ·rw[List.flatten_nil,List.nil_append,List.flatten_cons];rw[show m - 1+1=m by omega]at b
  simp only[Nat.zero_add]at b
  conv=>rhs; rw[c]
  rw[List.range_eq_range'];rw[List.perm_iff_count]at b ⊢;intro a;have:=b a;simp only[List.count_append,List.count_cons,List.count_nil]at this ⊢;omega
theorem Z0r(hm:0<m):Stt (tnE m X L) (ptn L) (2*m+4*X.length+2*(m - 1)+1) (U2 m).reverse ((List.range m).map (fun p=>2*m+4*X.length+2*p+1)++U2 m) 0:=by
 obtain⟨ps,d,b⟩:=Ztg hn hE (m - 1) (by omega)
 have c:U2 m=(U2 m).take (m - 1)++[2*(m - 1)+1]:=by
  have:=Zx7 hn hE (show m - 1<m by omega)
  rw[show m - 1+1=m by omega,List.take_of_length_le (by unfold U2; simp)]at this
  exact this
 refine⟨[2*(m - 1)+1] :: ps,[],?_,fun w h=>(by cases h),rfl,?_⟩
 ·have f:Gap (tnE m X L) (ptn L) (2*m+4*X.length+2*(m - 1)+1) ((2*(m - 1)+1) :: ((U2 m).take (m - 1)).reverse++[2*m+4*X.length+2*(m - 1)+1]) ([2*(m - 1)+1] :: ps):=
   ⟨by simp,⟨(Zn5 (m - 1)).symm,rfl⟩,d⟩
  have e:(U2 m).reverse=(2*(m - 1)+1) :: ((U2 m).take (m - 1)).reverse:=by
   conv=>lhs; rw[c,List.reverse_append]
   rfl
  rw[e];exact f
 ·rw[List.flatten_nil,List.nil_append,List.flatten_cons]
  conv=>rhs; rw[c]
  have g:(List.range m).map (fun p=>2*m+4*X.length+2*p+1)=(List.range (m - 1)).map (fun p=>2*m+4*X.length+2*p+1)++[2*m+4*X.length+2*(m - 1)+1]:=by
   have:∀ k,0<k→List.range k=List.range (k - 1)++[k - 1]:=fun k i=>by
    conv=>lhs; rw[show k=k - 1+1 by omega,List.range_succ]
   rw[this m hm,List.map_append];rfl
  rw[g];rw[List.perm_iff_count]at b ⊢;intro a;have:=b a;simp only[List.count_append,List.count_cons,List.count_nil]at this ⊢;omega
omit hn hE in
theorem Z9w{l:List Nat}{a n:Nat}(h:a+n≤l.length):(l.drop a).take n=(List.range n).map fun k=>l.getD (a+k) 0:=by
 apply List.ext_getElem?;intro i;rw[List.getElem?_map,List.getElem?_take];by_cases hi:i<n
 ·rw[if_pos hi,List.getElem?_drop,List.getElem?_range hi,gE (by omega)]
  show _=some (l.getD (a+i) 0);rw[List.getD,gE (by omega)]
  rfl
 ·rw[if_neg hi,List.getElem?_eq_none (by rw[List.length_range]; omega)]
  rfl
omit hn hE in
theorem Z1h{a oth:List Nat}{b:List (Nat×Nat)}{c:List Nd}(h:OpE m a oth b c){e:Nat}(d:e∈a):e<2*m+4*c.length:=by
 have:=h.mem_iff.1 (show e∈a++oth++U9 b by simp[d])
 exact List.mem_range.1 this
omit hn hE in
theorem Z3m(base K:Nat):(List.range (4+K)).map (fun k=>base+k)=[base,base+1,base+2,base+3]++(List.range K).map (fun k=>base+4+k):=by
 rw[List.range_add,List.map_append,List.map_map]
 congr 1
 refine List.map_congr_left fun k _=>?_
 show base+(4+k)=base+4+k;omega
theorem Zk3{A:Nat}(below:Bool){oth:List Nat}:∀ (z:List Ro) (b:List Nat) (G:List (Nat×Nat)) (f:List Nd) (H:List (Nat×Nat)) (p:List Nd) (g:List Nat) (c:Nat),OpE m b oth G f→W1 m below z b G f=(true,H,p) →
 (∃ M,L=H++M)→(∃ Y,X=p++Y)→Stt (tnE m X L) (ptn L) A (if below then b.reverse else b) g c →
 ∃ i c',Stt (tnE m X L) (ptn L) A [] i c'∧i.Perm (g++(List.range (4*(p.length - f.length))).map (fun k=>2*m+4*f.length+k))∧f.length≤p.length∧2*c'+2*f.length=2*c+b.length+2*p.length
 | [],b,G,f,H,p,g,c,K,h,_,_,o=>by
  simp only[W1,pI2,decide_eq_true_eq]at h;obtain⟨rfl,rfl,rfl⟩:=h;have e:(if below then ([]:List Nat).reverse else [])=[]:=by cases below<;>rfl
  rw[e]at o;exact⟨g,c,o,by simp,Nat.le_refl _,by simp⟩
 | r :: z,b,G,f,H,p,g,c,K,h,hL,hX,o=>by
  simp only[W1]at h;split at h
  ·rename_i U;obtain⟨_,c2,c3,_,_⟩:=U;have hi:r.2.1.toNat+1<b.length:=by omega
   have t:=K.cap hi;obtain⟨_,⟨M,P⟩,_⟩:=Zgq z _ _ _ _ _ t h;obtain⟨O,s⟩:=hL;have v:(b.getD r.2.1.toNat 0,b.getD (r.2.1.toNat+1) 0)∈L:=by
    rw[s,P];simp
   obtain⟨p1,p2⟩:=Zla hn v;have w:Stt (tnE m X L) (ptn L) A (if below then (b.take r.2.1.toNat++b.drop (r.2.1.toNat+2)).reverse else b.take r.2.1.toNat++b.drop (r.2.1.toNat+2)) g (c+1):=by
    rw[Zvd hi]at o;cases below with
    | false=>
     simp only[bF,if_false]at o ⊢;exact o.cap p1 p2
    | true=>
     simp only[if_true,List.reverse_append,List.reverse_cons,List.append_assoc,List.cons_append,List.nil_append]at o ⊢;exact o.cap p2 p1
   obtain⟨i,c',q1,N,q3,F⟩:=Zk3 below z _ _ _ _ _ g (c+1) t h ⟨O,s⟩ hX w;refine⟨i,c',q1,N,q3,?_⟩;rw[F,List.length_append,List.length_take,List.length_drop];omega
  ·split at h
   ·rename_i U;obtain⟨_,c2,c3,c4,c5⟩:=U;obtain⟨n,aa⟩:∃ n,r.2.2.1.toNat=n:=⟨_,rfl⟩
    obtain⟨a,S⟩:∃ a,r.2.1.toNat=a:=⟨_,rfl⟩
    rw[aa,S]at h;have I:1≤n:=by omega
    have J:n≤4:=by omega
    have C:a+n≤b.length:=by omega
    have t:=K.cross I J C (r.2.2.2,below);obtain⟨_,⟨M,P⟩,Y,hY,_⟩:=Zgq z _ _ _ _ _ t h;obtain⟨O,s⟩:=hL;obtain⟨Y',y⟩:=hX;have ac:f.length+1≤p.length:=by rw[hY,List.length_append,List.length_append]; simp only[List.length_cons,List.length_nil]; omega
    have ab:p.length≤X.length:=by rw[y]; simp
    have Q:X.getD f.length (false,false)=(r.2.2.2,below):=by
     rw[y,hY,List.getD,List.append_assoc,List.append_assoc,List.getElem?_append_right (Nat.le_refl _),Nat.sub_self];rfl
    have hy:∀ k,k<n→b.getD (a+k) 0<2*m+4*X.length∧ptn L (b.getD (a+k) 0)=2*m+4*f.length+(4 - k) % 4:=fun k Z=>by
     have ad:=Z1h K (e:=b.getD (a+k) 0) (Zco (by omega))
     have v:(b.getD (a+k) 0,2*m+4*f.length+(4 - k) % 4)∈L:=by
      rw[s,P];refine List.mem_append_left _ (List.mem_append_left _ (List.mem_append_right _ ?_));exact List.mem_map.2 ⟨k,List.mem_range.2 Z,rfl⟩
     exact⟨by omega,(Zla hn v).1⟩
    have ho:∀ q,q<4→ptn L (2*m+4*f.length+q)<2*m+4*X.length∧ptn L (ptn L (2*m+4*f.length+q))=2*m+4*f.length+q:=fun q hq=>by
     have:=Zhr hn hE (e:=2*m+4*f.length+q) (by omega)
     exact⟨this.1,this.2.1⟩
    have u:=fun d q (hd:d<2*m+4*X.length) (hq:q<4) (hj:ptn L d=2*m+4*f.length+q)=>Zyh (X:=X) (L:=L) hd hq hj
    rw[Q]at u;have D:=Z9w (l:=b) C;have E:((List.range n).map fun k=>b.getD (a+k) 0).map (ptn L)=(List.range n).map fun k=>2*m+4*f.length+(4 - k) % 4:=by
     rw[List.map_map];exact List.map_congr_left fun k Z=>(hy k (List.mem_range.1 Z)).2
    have B:=Zu4 (2*m+4*f.length) n I J;obtain⟨j,w,V⟩:∃ j,Stt (tnE m X L) (ptn L) A (if below then (b.take a++K7 (2*m+4*f.length) n++b.drop (a+n)).reverse else b.take a++K7 (2*m+4*f.length) n++b.drop (a+n)) j (c+(n - 1)) ∧
     j.Perm (g++[2*m+4*f.length,2*m+4*f.length+1,2*m+4*f.length+2,2*m+4*f.length+3]):=by
     rw[Zx4 (l:=b) (a:=a) (n:=n),D]at o;cases below with
     | false=>
      simp only[bF,if_false]at o u ⊢;obtain⟨s1,s2⟩:=Z0n I J u hy ho;have:=o.cross s1 s2;rw[List.length_map,List.length_range,E]at this;exact⟨_,this,B.append_left g⟩
     | true=>
      simp only[if_true]at o u ⊢;obtain⟨s1,s2⟩:=Z1g I J u hy ho;rw[List.reverse_append,List.reverse_append,← List.append_assoc]at o;have:=o.cross s1 s2;rw[List.length_reverse,List.length_map,List.length_range,List.map_reverse,E]at this;refine⟨_,?_,(List.Perm.append ((List.reverse_perm _)) ((List.reverse_perm _))).append_left g |>.trans (B.append_left g)⟩;rw[List.reverse_append,List.reverse_append,← List.append_assoc];exact this
    obtain⟨i,c',q1,N,q3,F⟩:=Zk3 below z _ _ _ _ _ j (c+(n - 1)) t h ⟨O,s⟩ ⟨Y',y⟩ w;have eX:(f++[(r.2.2.2,below)]).length=f.length+1:=by simp
    rw[eX]at N q3 F;refine⟨i,c',q1,?_,by omega,?_⟩
    ·refine N.trans ((V.append_right _).trans ?_);have e4:4*(p.length - f.length)=4+4*(p.length - (f.length+1)):=by omega
     rw[e4,Z3m,List.append_assoc,show 2*m+4*(f.length+1)=2*m+4*f.length+4 by omega]
    ·rw[List.length_append,List.length_append,List.length_take,List.length_drop]at F;have:(K7 (2*m+4*f.length) n).length=4 - n:=by unfold K7; simp
     rw[this]at F;omega
   ·cases h
end
theorem Zje:∀ m:Nat,(V2 m++U2 m).Perm (List.range (2*m))
 | 0=>List.Perm.refl _
 | m+1=>by
  have b:=Zje m;have c:V2 (m+1)=V2 m++[2*m]:=by unfold V2; rw[List.range_succ,List.map_append]; rfl
  have d:U2 (m+1)=U2 m++[2*m+1]:=by unfold U2; rw[List.range_succ,List.map_append]; rfl
  rw[c,d,show 2*(m+1)=2*m+1+1 by omega,List.range_succ,List.range_succ]
  rw[List.perm_iff_count]at b ⊢;intro a;have:=b a;simp only[List.count_append]at this ⊢;omega
def P6(m:Nat)(above below:List Ro):Bool×List (Nat×Nat)×List Nd:=
 if (W1 m false above (V2 m) [] []).1 then W1 m true below (U2 m) (W1 m false above (V2 m) [] []).2.1 (W1 m false above (V2 m) [] []).2.2 else W1 m false above (V2 m) [] []
theorem Z6l{m:Nat}{a below:List Ro}{L:List (Nat×Nat)}{X:List Nd}(hm:0<m)(h:P6 m a below=(true,L,X)) :
 (U9 L).Nodup∧(∀ e,e<2*m+4*X.length↔e∈U9 L)∧m % 2=0∧(Perm1 (tnE m X L) (2*m+4*X.length+2*m)→K1 (tnE m X L) (2*m+4*X.length+2*m)=m+X.length+2):=by
 unfold P6 at h;obtain⟨g,n,b,o⟩:∃ g n b,W1 m false a (V2 m) [] []=(g,n,b):=⟨_,_,_,rfl⟩
 rw[o]at h;cases g with
 | false=>simp at h
 | true=>
  simp only[if_true]at h;have v:OpE m (V2 m) (U2 m) [] []:=by
   unfold OpE;have:=Zje m;simpa[U9]using this
  obtain⟨y,_,_⟩:=Zgq a _ _ _ _ _ v o;have i:OpE m (U2 m) [] n b:=by
   unfold OpE at y ⊢;simpa using y
  obtain⟨B,Q,Y,U,_⟩:=Zgq below _ _ _ _ _ i h;have w:(U9 L).Perm (List.range (2*m+4*X.length)):=by
   unfold OpE at B;simpa using B
  have hn:(U9 L).Nodup:=w.nodup_iff.2 List.nodup_range;have hE:∀ e,e<2*m+4*X.length↔e∈U9 L:=fun e=>by rw[w.mem_iff,List.mem_range]
  obtain⟨d1,c1,E,t,F,u⟩:=Zk3 hn hE (A:=2*m+4*X.length+2*(m - 1)) false a _ _ _ _ _ _ 0 v o Q ⟨Y,U⟩ (by simpa using Z2s hn hE hm)
  obtain⟨d2,c2,g,G,b3,H⟩:=Zk3 hn hE (A:=2*m+4*X.length+2*(m - 1)+1) true below _ _ _ _ _ _ 0 i h ⟨[],by simp⟩ ⟨[],by simp⟩ (by simpa using Z0r hn hE hm)
  have Z:(V2 m).length=m:=by unfold V2; simp
  have V:(U2 m).length=m:=by unfold U2; simp
  rw[Z]at u;rw[V]at H;simp only[List.length_nil]at t F u;refine⟨hn,hE,by omega,fun S=>?_⟩
  obtain⟨q,C,s2,s3⟩:=E.done;obtain⟨r,D,t2,t3⟩:=g.done;have f:(q++r).flatten.Perm (List.range (2*m+4*X.length+2*m)):=by
   rw[List.flatten_append];refine(s2.append t2).trans ((t.append G).trans ?_);have I:2*m+4*X.length+2*m=2*m+(4*b.length+(4*(X.length - b.length)+2*m)):=by omega
   rw[I,List.range_add,List.range_add,List.range_add];have j:=Zje m;have J:(List.range m).map (fun p=>2*m+4*X.length+2*p)=(V2 m).map (fun k=>2*m+4*X.length+k):=by unfold V2; rw[List.map_map]; rfl
   have K:(List.range m).map (fun p=>2*m+4*X.length+2*p+1)=(U2 m).map (fun k=>2*m+4*X.length+k):=by
    unfold U2; rw[List.map_map];exact List.map_congr_left fun k _=>(by show 2*m+4*X.length+2*k+1=2*m+4*X.length+(2*k+1); omega)
   rw[J,K];simp only[List.map_append];have l:=j.map (fun k=>2*m+4*X.length+k)
   have M:(List.map (fun x=>2*m+x) (List.map (fun x=>4*b.length+x) (List.range (4*(X.length - b.length)))))=(List.range (4*(X.length - b.length))).map (fun k=>2*m+4*b.length+k):=by
    rw[List.map_map];exact List.map_congr_left fun k _=>(by show 2*m+(4*b.length+k)=_; omega)
   have N:List.map (fun x=>2*m+x) (List.map (fun x=>4*b.length+x) (List.map (fun x=>4*(X.length - b.length)+x) (List.range (2*m))))=(List.range (2*m)).map (fun k=>2*m+4*X.length+k):=by
    rw[List.map_map,List.map_map];exact List.map_congr_left fun k _=>(by show 2*m+(4*b.length+(4*(X.length - b.length)+k))=_; omega)
   rw[M,N];have O:(List.range (4*(b.length - 0))).map (fun k=>2*m+4*0+k)=(List.range (4*b.length)).map (fun x=>2*m+x):=by
    rw[Nat.sub_zero];exact List.map_congr_left fun k _=>(by show 2*m+4*0+k=2*m+k; omega)
   rw[O];rw[List.perm_iff_count]at j l ⊢;intro z;have j:=j z;have l:=l z;simp only[List.map_append,List.count_append]at j l ⊢;omega
  have P:Cov (tnE m X L) (2*m+4*X.length+2*m) (q++r):=by
   refine⟨fun s c=>?_,f.nodup_iff.2 List.nodup_range,fun d=>by rw[f.mem_iff,List.mem_range]⟩
   rcases List.mem_append.1 c with c|c
   ·exact(C s c).seg.1
   ·exact(D s c).seg.1
  have:=Z6x S P fun s c=>by
   rcases List.mem_append.1 c with c|c
   ·exact(C s c).seg.2
   ·exact(D s c).seg.2
  rw[this,List.length_append,s3,t3];omega
end Go.Known
