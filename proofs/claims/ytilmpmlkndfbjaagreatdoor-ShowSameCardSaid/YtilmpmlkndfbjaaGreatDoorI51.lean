/- Part 51 of the proof: Qc, Qd, Qe, Qf. -/
import Derived.Test.YtilmpmlkndfbjaaGreatDoorI30
import Derived.Test.YtilmpmlkndfbjaaGreatDoorI46
import Derived.Test.YtilmpmlkndfbjaaGreatDoorI50
set_option linter.all false
section
namespace Go.Known
open Go.Plain
section
variable {ls:List Lt}
abbrev tnL(ls:List Lt):Nat→Nat:=Y4 ls (Z1 ls)
def its(ls:List Lt):Nat→Nat→List Nat
 | 0,_=>[]
 | k+1,x=>x :: its ls k (Z7 ls x)
theorem Zwy(ls:List Lt):∀ (k x:Nat),its ls (k+1) x=its ls k x++[it (Z7 ls) k x]
 | 0,_=>rfl
 | k+1,x=>by
  have:=Zwy ls k (Z7 ls x);show x :: its ls (k+1) (Z7 ls x)=x :: its ls k (Z7 ls x)++[it (Z7 ls) (k+1) x];rw[this,Zaz];rfl
theorem Zwk:∀ (a:List Nat) (e u j:Nat),Rot (tnL ls) bkN e a u→a.map bkN++its ls j (bkN u)=its ls (a.length+j) (Z7 ls e)
 | [],e,u,j,h=>by
  have h:u=tnL ls e:=h;subst h;rw[List.map_nil,List.nil_append,List.length_nil,Nat.zero_add];rfl
 | o :: os,e,u,j,h=>by
  have b:bkN o=Z7 ls e:=by rw[h.1]; rfl
  have:=Zwk os (bkN o) u j h.2;rw[List.map_cons,List.cons_append,this,List.length_cons,Nat.succ_add,b];rfl
theorem Zo1:∀ (ins:List Nat),Side (tnL ls) bkN ins→ins.reverse=its ls ins.length (T6 ins)∧it (Z7 ls) (ins.length - 1) (T6 ins)=hdN ins
 | [y],_=>⟨rfl,rfl⟩
 | y :: a :: r,h=>by
  obtain⟨d,b⟩:=Zo1 (a :: r) h.2;have e:Z7 ls a=y:=by
   have:tnN ls a=bkN y:=h.1;unfold Z7;rw[this,Q1]
  have c:it (Z7 ls) (a :: r).length (T6 (a :: r))=y:=by
   rw[List.length_cons]at b ⊢;show Z7 ls (it (Z7 ls) r.length (T6 (a :: r)))=y;rw[show it (Z7 ls) r.length (T6 (a :: r))=a from b,e]
  rw[Zdn];refine⟨?_,c⟩;rw[List.reverse_cons,d,show (y :: a :: r).length=(a :: r).length+1 from rfl,Zwy ls (a :: r).length,c]
structure Wu (ls:List Lt):Prop where
 w:Wv ls
 ne:∀ v,v<ls.length→(at' ls v).k=2→X9 ls v ls.length 0≠v∧(at' ls (X9 ls v ls.length 0)).i=(at' ls v).i
 un:∀ v x,v<ls.length→(at' ls v).k=2→x<ls.length→(at' ls x).k=2→(at' ls x).i=(at' ls v).i→x=v∨x=X9 ls v ls.length 0
theorem ValR.wu{f:Int}(h:ValR f ls)(d:ls≠[]):Wu ls:=⟨h.wv d,fun _ b a=>h.same_i b a,fun _ _ b a e c hi=>h.uniq b a e c hi⟩
theorem Zzm(g:Wu ls){e:Nat}(D:e<2*ls.length)(f:(ldN ls e).k=2):(its ls 4 (Z7 ls e)).Nodup ∧ ∀ a,a∈its ls 4 (Z7 ls e)↔a<2*ls.length∧(ldN ls a).k=2∧(ldN ls a).i=(ldN ls e).i:=by
 obtain⟨v,b,d,rfl⟩:=N8 D;rw[N9 d]at f ⊢;obtain⟨j,C,H,I,J⟩:=g.w.oth v d f;obtain⟨n1,n2⟩:=g.ne v d f;have E:=Zez g.w d f b;have F:=rot2 g.w d f b;have y:Z7 ls (arr ls.length v !b)=arr ls.length (otN ls v) ((!b) != smN ls v):=Zez g.w d f (!b);have G:Z7 ls (arr ls.length (otN ls v) ((!b) != smN ls v))=arr ls.length v b:=by
  rw[← y,rot2 g.w d f,Bool.not_not]
 have e:its ls 4 (Z7 ls (arr ls.length v b))=[arr ls.length (otN ls v) (b != smN ls v),arr ls.length v (!b),arr ls.length (otN ls v) ((!b) != smN ls v),arr ls.length v b]:=by
  show [Z7 ls (arr ls.length v b),Z7 ls (Z7 ls (arr ls.length v b)),Z7 ls (Z7 ls (Z7 ls (arr ls.length v b))),Z7 ls (Z7 ls (Z7 ls (Z7 ls (arr ls.length v b))))]=_;rw[F,y,G,E]
 have s:otN ls v≠v:=n1;have hA:∀ c,(ldN ls (arr ls.length v c))=at' ls v:=fun c=>N9 d c
 have q:∀ c,(ldN ls (arr ls.length (otN ls v) c))=at' ls (otN ls v):=fun c=>N9 j c
 rw[e];constructor
 ·have A:∀ c l,arr ls.length (otN ls v) c≠arr ls.length v l:=fun c l e=>s (Za5 j d e).1
  have B:∀ c l,arr ls.length v c≠arr ls.length (otN ls v) l:=fun c l e=>s (Za5 d j e).1.symm
  have c4:arr ls.length v (!b)≠arr ls.length v b:=fun e=>by
   have:=(Za5 d d e).2
   revert this
   cases b<;>simp
  simp[A,B,c4];intro e;have:=(Za5 j j e).2
  revert this
  cases b<;>cases smN ls v<;>simp
 ·intro a;constructor
  ·intro r;have n:(∃ c,a=arr ls.length v c) ∨ ∃ c,a=arr ls.length (otN ls v) c:=by
    simp only[List.mem_cons,List.not_mem_nil,or_false]at r;rcases r with h|h|h|h
    ·exact .inr ⟨_,h⟩
    ·exact .inl ⟨_,h⟩
    ·exact .inr ⟨_,h⟩
    ·exact .inl ⟨_,h⟩
   rcases n with⟨c,rfl⟩|⟨c,rfl⟩
   ·exact⟨(Zau d c).1,by rw[hA]; exact f,by rw[hA]⟩
   ·exact⟨(Zau j c).1,by rw[q]; exact C,by rw[q]; exact n2⟩
  ·rintro⟨z,o,p⟩;obtain⟨u,c,t,rfl⟩:=N8 z;rw[N9 t]at o p;rcases g.un v u d f t o p with rfl|rfl
   ·by_cases m:c=b
    ·subst m; simp
    ·have:c = !b:=by revert m; cases c<;>cases b<;>simp
     subst this; simp
   ·by_cases m:c=(b != smN ls v)
    ·subst m; simp
    ·have:c=((!b) != smN ls v):=by revert m; cases c<;>cases b<;>cases smN ls v<;>simp
     subst this; simp
inductive Stp (ls:List Lt):List Nat→List Int→List Nat→List Int→Prop
 | cap (l r:List Nat) (x y:Nat) (dn:List Int):bkN x=y→Stp ls (l++x :: y :: r) dn (l++r) dn
 | cross (l ins outs r:List Nat) (dn:List Int) (id:Int):id∉dn→Side (tnL ls) bkN ins→Rot (tnL ls) bkN (hdN ins) outs (bkN (T6 ins))→ins.length+outs.length=4 →
  (∀ d,d∈ins→d<2*ls.length∧(ldN ls d).k=2∧(ldN ls d).i=id)→Stp ls (l++ins++r) dn (l++outs++r) (dn++[id])
theorem Zo3{T bk:Nat→Nat}{ins:List Nat}(h:Side T bk ins):ins≠[]:=fun e=>by subst e; exact h
theorem star{ins f:List Nat}{id:Int}(u:Wu ls)(o:Side (tnL ls) bkN ins)(t:Rot (tnL ls) bkN (hdN ins) f (bkN (T6 ins)))(s:ins.length+f.length=4)
 (hi:∀ d,d∈ins→d<2*ls.length∧(ldN ls d).k=2∧(ldN ls d).i=id) :
 (f++ins.map bkN).Nodup ∧ ∀ d,d∈f++ins.map bkN↔d<2*ls.length∧(ldN ls (bkN d)).k=2∧(ldN ls (bkN d)).i=id:=by
 obtain⟨p,q,r⟩:=hi _ (Zlb (Zo3 o));obtain⟨m,l⟩:=Zzm u p q;rw[r]at l;have n:=Zwk f (hdN ins) _ ins.length t;rw[Q1,← (Zo1 ins o).1,Nat.add_comm,s]at n;rw[← n]at m l;have j:(f++ins.map bkN).map bkN=f.map bkN++ins:=by
  rw[List.map_append,List.map_map]
  congr 1
  conv=>rhs; rw[← List.map_id ins]
  exact List.map_congr_left fun x _=>Q1 x
 have g:((f++ins.map bkN).map bkN).Perm (f.map bkN++ins.reverse):=by
  rw[j];exact(List.reverse_perm ins).symm.append_left _
 constructor
 ·have:=g.nodup_iff.2 m;unfold List.Nodup at this;rw[List.pairwise_map]at this;exact this.imp fun h e=>h (by rw[e])
 ·intro d;have hm:d∈f++ins.map bkN↔bkN d∈(f++ins.map bkN).map bkN:=by
   rw[List.mem_map];exact⟨fun h=>⟨d,h,rfl⟩,fun⟨x,h,e⟩=>by
    have:x=d:=by rw[← Q1 x,e,Q1]
    exact this ▸ h⟩
  rw[hm,g.mem_iff,l];constructor
  ·rintro⟨a,b,c⟩;have:=Zan a;rw[Q1]at this;exact⟨this,b,c⟩
  ·rintro⟨a,b,c⟩;exact⟨Zan a,b,c⟩
structure Dr (ls:List Lt) (ini:Nat→Prop) (A:Nat) (d0:List Int) (front:List Nat) (done:List Int) (dts:List Nat) (c:Nat):Prop where
 stt:Stt (tnL ls) bkN A front dts c
 nd:dts.Nodup
 cov:∀ d,d∈dts↔ini d∨(d<2*ls.length∧(ldN ls (bkN d)).k=2∧(ldN ls (bkN d)).i∈done∧(ldN ls (bkN d)).i∉d0)
 fd:∀ d,d∈front→d∈dts∧d<2*ls.length
 jn:∀ d,d∈dts→d<2*ls.length→d∈front∨bkN d∈dts
 cnt:2*c+front.length+2*d0.length=Z0 ls+2*done.length
 sub:∀ z,z∈d0→z∈done
 dnd:done.Nodup
 ids:∀ z,z∈done→z∈d0 ∨ ∃ v,v<ls.length∧(at' ls v).k=2∧(at' ls v).i=z
theorem Dr.step(Z:Wu ls){ini:Nat→Prop}(C:∀ d,ini d→d<2*ls.length→(ldN ls (bkN d)).k≠2){A:Nat}{I:List Int}{front i:List Nat}{done m:List Int}{u:List Nat}{c:Nat}
 (h:Dr ls ini A I front done u c) (Y:Stp ls front done i m):∃ v S,Dr ls ini A I i m v S:=by
 cases Y with
 | cap l r x y _ s=>
  have G:bkN y=x:=by rw[← s,Q1]
  have L:x∈l++x :: y :: r:=by simp
  have hy:y∈l++x :: y :: r:=by simp
  refine⟨u,c+1,h.stt.cap s G,h.nd,h.cov,fun d g=>h.fd d ?_,fun d g p=>?_,?_,h.sub,h.dnd,h.ids⟩
  ·rcases List.mem_append.1 g with g|g
   ·simp[g]
   ·simp[g]
  ·rcases h.jn d g p with f|f
   ·simp only[List.mem_append,List.mem_cons]at f;rcases f with f|f|f|f
    ·exact .inl (by simp[f])
    ·subst f; rw[s]; exact .inr (h.fd _ hy).1
    ·subst f; rw[G]; exact .inr (h.fd _ L).1
    ·exact .inl (by simp[f])
   ·exact .inr f
  ·have:=h.cnt;simp only[List.length_append,List.length_cons]at this ⊢;omega
 | cross l ins H r _ id o q F D B=>
  obtain⟨s1,M⟩:=star Z q F D B;have E:=Zo3 q;have N:0<ins.length:=List.length_pos_iff.2 E;have w:id∉I:=fun hm=>o (h.sub _ hm)
  refine⟨_,_,h.stt.cross q F,?_,fun d=>?_,fun d g=>?_,fun d g p=>?_,?_,fun z n=>List.mem_append_left _ (h.sub z n),?_,fun z n=>?_⟩
  ·rw[List.nodup_append];refine⟨h.nd,s1,fun a K b hb e=>?_⟩
   subst e;obtain⟨O,P,Q⟩:=(M a).1 hb;rcases (h.cov a).1 K with f|⟨_,_,j,_⟩
   ·exact C a f O P
   ·rw[Q]at j; exact o j
  ·rw[List.mem_append,h.cov,M];constructor
   ·rintro((f|⟨f,t,j,J⟩)|⟨f,t,j⟩)
    ·exact .inl f
    ·exact .inr ⟨f,t,List.mem_append_left _ j,J⟩
    ·exact .inr ⟨f,t,by rw[j]; simp,by rw[j]; exact w⟩
   ·rintro(f|⟨f,t,j,J⟩)
    ·exact .inl (.inl f)
    ·rcases List.mem_append.1 j with j|j
     ·exact .inl (.inr ⟨f,t,j,J⟩)
     ·exact .inr ⟨f,t,List.mem_singleton.1 j⟩
  ·rcases List.mem_append.1 g with g|g
   ·rcases List.mem_append.1 g with g|g
    ·have:=h.fd d (by simp[g])
     exact⟨List.mem_append_left _ this.1,this.2⟩
    ·have hm:d∈H++ins.map bkN:=List.mem_append_left _ g;exact⟨List.mem_append_right _ hm,((M d).1 hm).1⟩
   ·have:=h.fd d (by simp[g])
    exact⟨List.mem_append_left _ this.1,this.2⟩
  ·rcases List.mem_append.1 g with g|g
   ·rcases h.jn d g p with f|f
    ·rcases List.mem_append.1 f with f|f
     ·rcases List.mem_append.1 f with f|f
      ·exact .inl (by simp[f])
      ·exact .inr (List.mem_append_right _ (List.mem_append_right _ (List.mem_map.2 ⟨d,f,rfl⟩)))
     ·exact .inl (by simp[f])
    ·exact .inr (List.mem_append_left _ f)
   ·rcases List.mem_append.1 g with g|g
    ·exact .inl (by simp[g])
    ·obtain⟨x,L,rfl⟩:=List.mem_map.1 g;rw[Q1];exact .inr (List.mem_append_left _ (h.fd x (by simp[L])).1)
  ·have:=h.cnt;simp only[List.length_append,List.length_cons,List.length_nil]at this ⊢;omega
  ·rw[List.nodup_append];refine⟨h.dnd,by simp,fun a K b hb e=>?_⟩
   rw[List.mem_singleton]at hb;subst hb;exact o (e ▸ K)
  ·rcases List.mem_append.1 n with n|n
   ·exact h.ids z n
   ·rw[List.mem_singleton]at n;subst n;obtain⟨U,V,X⟩:=B _ (Zlb E);exact .inr ⟨_,Zba U,V,X⟩
theorem Zsx{id:Int}{front:List Nat}:∀ (k j:Nat),j≤front.length→k≤H2 ls id front j→j+k≤front.length ∧ ∀ i,i<k→okF ls id front (j+i)=true
 | 0,j,c,_=>⟨by omega,fun i hi=>by omega⟩
 | k+1,j,c,h=>by
  by_cases a:j<front.length∧okF ls id front j=true
  ·rw[Zgb a.1 a.2]at h;obtain⟨d,b⟩:=Zsx (id:=id) (front:=front) k (j+1) (by omega) (by omega)
   refine⟨by omega,fun i hi=>?_⟩
   cases i with
   | zero=>exact a.2
   | succ i=>
    have:=b i (by omega)
    rwa[show j+1+i=j+(i+1) by omega]at this
  ·rw[Zap a]at h;omega
theorem Z9r{l:List Nat}{i:Nat}(h:i+1<l.length):l=l.take i++l.getD i 0 :: l.getD (i+1) 0 :: l.drop (i+2):=by
 conv=>lhs; rw[← List.take_append_drop i l]
 rw[List.drop_eq_getElem_cons (by omega),List.drop_eq_getElem_cons h]
 rw[List.getD,List.getD,gE (by omega),gE h]
 rfl
theorem Ycr{l:List Nat}{a n:Nat}:l=l.take a++(l.drop a).take n++l.drop (a+n):=by
 rw[List.append_assoc,← List.drop_drop,List.take_append_drop,List.take_append_drop]
theorem Zxr:∀ (l:List Nat),l≠[]→(∀ i,i+1<l.length→tnL ls (l.getD (i+1) 0)=bkN (l.getD i 0))→Side (tnL ls) bkN l
 | [],h,_=>absurd rfl h
 | [_],_,_=>trivial
 | x :: y :: r,_,h=>⟨h 0 (by simp),Zxr (y :: r) (by simp) fun i hi=>h (i+1) (by rw[List.length_cons]; omega)⟩
theorem Zt7:∀ (k x:Nat),Rot (tnL ls) bkN x (U0 ls x k) (bkN (it (Z7 ls) (k+1) x))
 | 0,x=>by
  show bkN (Z7 ls x)=tnL ls x;unfold Z7;rw[Q1];rfl
 | k+1,x=>by
  refine⟨rfl,?_⟩;have:=Zt7 k (Z7 ls x);rw[Zaz]at this;exact this
theorem Zqk(I:Wu ls){front f:List Nat}{done dn:List Int}{r:Rw}(v:∀ d,d∈front→d<2*ls.length)(G:front≠[])(h:S2 4 ls front done=some (r,f,dn)):Stp ls front done f dn:=by
 have C:0<front.length:=List.length_pos_iff.2 G;unfold S2 at h;split at h
 ·rename_i H;simp only[oI,pI2]at h;obtain⟨_,rfl,rfl⟩:=h;have m:=Zq9 (Ze2 front) (front.length - 1) 0 (by
   have:P0 front<front.length - 1:=H;unfold P0 at this;omega)
  have z:front.getD (P0 front) 0=bkN (front.getD (P0 front+1) 0):=of_decide_eq_true m;have o:bkN (front.getD (P0 front) 0)=front.getD (P0 front+1) 0:=by rw[z,Q1]
  have A:=Stp.cap (ls:=ls) (front.take (P0 front)) (front.drop (P0 front+2)) _ _ done o;rw[← Z9r (by omega)]at A
  exact A
 ·split at h
  ·cases h
  ·rename_i hb;simp only[oI,pI2]at h;obtain⟨_,rfl,rfl⟩:=h;rcases Zfw (U5 4 ls done front) front.length with⟨m,_,_⟩|⟨m,z,o⟩
   ·exact absurd m hb
   ·obtain⟨J,K,L⟩:=Zh1 (c:=4) (ls:=ls) (done:=done) (front:=front) (i:=(X3 (U5 4 ls done front) front.length).1) (by rw[o]; exact m)
    generalize (X3 (U5 4 ls done front) front.length).1=a at *;generalize (X3 (U5 4 ls done front) front.length).2=n at *;have D:n≤1+H2 ls (ldN ls (front.getD a 0)).i front (a+1)∧n≤4:=by
     unfold U5 at o;rw[L]at o;split at o
     ·omega
     ·omega
    obtain⟨O,F⟩:=Zsx (ls:=ls) (id:=(ldN ls (front.getD a 0)).i) (front:=front) (n - 1) (a+1) (by omega) (by omega)
    have b:((front.drop a).take n).length=n:=by rw[List.length_take,List.length_drop]; omega
    have g:∀ i,i<n→((front.drop a).take n).getD i 0=front.getD (a+i) 0:=fun i hi=>by
     rw[List.getD,List.getD,List.getElem?_take,if_pos hi,List.getElem?_drop]
    have t:(front.drop a).take n≠[]:=fun e=>by rw[e]at b; simp at b; omega
    have q:hdN ((front.drop a).take n)=front.getD a 0:=by
     have:=g 0 m;rw[Nat.add_zero]at this;rw[← this];unfold hdN;cases (front.drop a).take n<;>rfl
    have l:∀ i,i+1<n→(ldN ls (front.getD (a+(i+1)) 0)).k=2∧(ldN ls (front.getD (a+(i+1)) 0)).i=(ldN ls (front.getD a 0)).i∧tnN ls (front.getD (a+(i+1)) 0)=bkN (front.getD (a+i) 0):=fun i hi=>by
     have:=F i (by omega)
     simp only[okF,bA,decide_eq_true_eq]at this;rw[show a+1+i=a+(i+1) by omega,show a+(i+1) - 1=a+i by omega]at this
     exact⟨this.1.1,this.1.2,this.2⟩
    have j:Side (tnL ls) bkN ((front.drop a).take n):=Zxr _ t fun i hi=>by
     rw[b]at hi;rw[g _ hi,g _ (by omega)]
     exact(l i hi).2.2
    have s:∀ d,d∈(front.drop a).take n→d<2*ls.length∧(ldN ls d).k=2∧(ldN ls d).i=(ldN ls (front.getD a 0)).i:=fun d B=>by
     refine⟨v d (List.mem_of_mem_drop (List.mem_of_mem_take B)),?_⟩;obtain⟨i,hi,e⟩:=List.getElem_of_mem B;rw[b]at hi;have p:d=front.getD (a+i) 0:=by
      rw[← g i hi,List.getD,gE (by rw[b]; exact hi),e]
      rfl
     cases i with
     | zero=>rw[p]; exact⟨J,rfl⟩
     | succ i=>rw[p]; exact⟨(l i hi).1,(l i hi).2.1⟩
    obtain⟨M,N,P⟩:=s _ (Zlp t);have u:Rot (tnL ls) bkN (hdN ((front.drop a).take n)) (U0 ls (front.getD a 0) (4 - n)) (bkN (T6 ((front.drop a).take n))):=by
     have y:=Zt7 (ls:=ls) (4 - n) (front.getD a 0);have p:=(Zo1 _ j).2;rw[b,q]at p;have E:it (Z7 ls) (4 - n+1) (front.getD a 0)=T6 ((front.drop a).take n):=by
      rw[← p,← Zid,show 4 - n+1+(n - 1)=4 by omega]
      exact rot4 I.w M N
     rw[E]at y;rw[q];exact y
    have:=Stp.cross (ls:=ls) (front.take a) ((front.drop a).take n) (U0 ls (front.getD a 0) (4 - n)) (front.drop (a+n)) done (ldN ls (front.getD a 0)).i K j u (by rw[b,Zj6]; omega) s
    rw[← Ycr]at this;exact this
theorem Zty{front:List Nat}{done:List Int}(n:front≠[])(h:S2 4 ls front done=none)(s:∀ d,d∈front→(ldN ls d).k=2→(ldN ls d).i≠0) :
 (∀ i,i+1<front.length→front.getD (i+1) 0≠bkN (front.getD i 0)) ∧ ∀ d,d∈front→(ldN ls d).k=2→(ldN ls d).i∈done:=by
 have l:0<front.length:=List.length_pos_iff.2 n;unfold S2 at h;split at h
 ·cases h
 ·rename_i p;split at h
  ·rename_i hb;constructor
   ·intro i hi e;have key:∀ k j,j≤i→i<j+k→J2 (Ze2 front) k j≤i:=by
     intro k
     induction k with
     | zero=>intro j b o; omega
     | succ k t=>
      intro j b o;simp only[J2];split
      ·exact b
      ·rename_i r;refine t (j+1) ?_ (by omega)
       rcases Nat.lt_or_ge j i with a|a
       ·exact a
       ·have:j=i:=by omega
        subst this;exfalso;apply r;unfold Ze2;rw[e,Q1];simp
    have:=key (front.length - 1) 0 (Nat.zero_le _) (by omega)
    apply p;show J2 (Ze2 front) (front.length - 1) 0<_;omega
   ·intro d f g;rcases Zfw (U5 4 ls done front) front.length with⟨_,_,a⟩|⟨b,_,_⟩
    ·obtain⟨i,hi,e⟩:=List.getElem_of_mem f;have m:front.getD i 0=d:=by rw[List.getD,gE hi,e]; rfl
     have:=a i hi;unfold U5 at this;rw[m]at this;refine Classical.byContradiction fun q=>?_
     have c:crN ls done d=(ldN ls d).i:=by unfold crN; rw[if_pos ⟨g,q⟩]
     rw[c,if_neg (s d f g)]at this;omega
    ·omega
  ·cases h
def F5(ls:List Lt):Nat→List Nat→List Int→List Nat×List Int
 | 0,f,d=>(f,d)
 | k+1,f,d=>if f=[]then (f,d)else match S2 4 ls f d with
  | none=>(f,d)
  | some (_,f',d')=>F5 ls k f' d'
theorem Znl{P:List Nat→List Int→Prop}(e:∀ f d r b a,P f d→f≠[]→S2 4 ls f d=some (r,b,a)→P b a):∀ k f d,P f d→P (F5 ls k f d).1 (F5 ls k f d).2
 | 0,_,_,h=>h
 | k+1,f,d,h=>by
  rw[F5];by_cases c:f=[]
  ·rw[if_pos c]; exact h
  ·rw[if_neg c];cases g:S2 4 ls f d with
   | none=>exact h
   | some x=>
    obtain⟨r,b,a⟩:=x;exact Znl e k b a (e f d r b a h c g)
theorem Zr2{P:List Nat→List Int→Prop}(g:∀ f d r b a,P f d→f≠[]→S2 4 ls f d=some (r,b,a)→P b a)(i:∀ f d,P f d → ∀ x,x∈f→x<2*ls.length):∀ k f d,P f d→muN ls f d<k →
 (F5 ls k f d).1=[]∨S2 4 ls (F5 ls k f d).1 (F5 ls k f d).2=none
 | 0,_,_,_,h=>absurd h (Nat.not_lt_zero _)
 | k+1,f,d,h,hm=>by
  rw[F5];by_cases c:f=[]
  ·rw[if_pos c]; exact .inl c
  ·rw[if_neg c];cases e:S2 4 ls f d with
   | none=>exact .inr e
   | some x=>
    obtain⟨r,b,a⟩:=x;have:=Zj7 (i f d h) c e;exact Zr2 g i k b a (g f d r b a h c e) (by omega)
end
end Go.Known
end
section
namespace Go.Known
open Go.Plain
section
variable {ls:List Lt}
def dnN(ls:List Lt)(v:Nat):Nat:=Y0 ls.length v (down ls v)
def Q9(ls:List Lt):List Nat:=(Z1 ls).map (dnN ls)
def iniU(ls:List Lt)(d:Nat):Prop:=(2*ls.length≤d∧d<2*ls.length+2*Z0 ls∧d % 2=0)∨d∈Y2 ls
def iniL(ls:List Lt)(d:Nat):Prop:=(2*ls.length≤d∧d<2*ls.length+2*Z0 ls∧d % 2=1)∨d∈Q9 ls
theorem Zn7(h:Wv ls){p:Nat}(d:p<Z0 ls):∃ v,v<ls.length∧(at' ls v).k=1∧V1 v (Z1 ls)=p∧(Z1 ls).getD p 0=v∧(Y2 ls)[p]? = some (upN ls v)∧(Q9 ls)[p]? = some (dnN ls v):=by
 obtain⟨v,e,f,a,g⟩:=J8 d;have b:p<(Z1 ls).length:=by rw[T4]; exact d
 have c:(Z1 ls)[p]=v:=by
  rw[List.getD,gE b]at a;exact a
 refine⟨v,e,f,g,a,?_,?_⟩
 ·unfold Y2; rw[List.getElem?_map,gE b,c]; rfl
 ·unfold Q9; rw[List.getElem?_map,gE b,c]; rfl
theorem Zn4:(Y2 ls).length=Z0 ls:=by unfold Y2; rw[List.length_map,T4]
theorem Zve:(Q9 ls).length=Z0 ls:=by unfold Q9; rw[List.length_map,T4]
theorem Zuh{v:Nat}(a:v<ls.length)(b:(at' ls v).k=1):tnL ls (bkN (upN ls v))=2*ls.length+2*V1 v (Z1 ls):=by
 have:bkN (upN ls v)=arr ls.length v (down ls v):=by
  unfold upN;rw[D7 a,Bool.not_not]
 rw[this];show Y4 ls (Z1 ls) _=_;rw[Zbm a,if_neg (by omega),if_pos rfl]
theorem Zz5{v:Nat}(a:v<ls.length)(b:(at' ls v).k=1):tnL ls (bkN (dnN ls v))=2*ls.length+2*((V1 v (Z1 ls)+Z0 ls - 1) % Z0 ls)+1:=by
 have:bkN (dnN ls v)=arr ls.length v (!down ls v):=by
  unfold dnN;rw[D7 a]
 rw[this];show Y4 ls (Z1 ls) _=_;rw[Zbm a,if_neg (by omega),if_neg (by cases down ls v<;>simp)]
theorem gapU(h:Wv ls):∀ (k j v:Nat),j+k+1=Z0 ls→(Y2 ls)[j]? = some (upN ls v)→v<ls.length→(at' ls v).k=1→V1 v (Z1 ls)=j →
 ∃ ps,Gap (tnL ls) bkN (bkN (upN ls v)) ((Y2 ls).drop (j+1)++[2*ls.length+2*(Z0 ls - 1)]) ps∧ps.flatten.Perm ((List.range' j (k+1)).map (fun p=>2*ls.length+2*p)++(Y2 ls).drop (j+1))
 | 0,j,v,m,l,d,c,hi=>by
  have b:(Y2 ls).drop (j+1)=[]:=List.drop_eq_nil_of_le (by rw[Zn4]; omega)
  rw[b];refine⟨[[2*ls.length+2*j]],⟨by simp,⟨?_,?_⟩,trivial⟩,by simp⟩
  ·rw[Zuh d c,hi]
  ·show 2*ls.length+2*j=2*ls.length+2*(Z0 ls - 1);omega
 | k+1,j,v,m,l,d,c,hi=>by
  obtain⟨u,n,o,q,r,e,_⟩:=Zn7 h (p:=j+1) (by omega)
  obtain⟨ps,i,f⟩:=gapU h k (j+1) u (by omega) e n o q
  have g:j+1<(Y2 ls).length:=by rw[Zn4]; omega
  have b:(Y2 ls).drop (j+1)=upN ls u :: (Y2 ls).drop (j+1+1):=by
   rw[List.drop_eq_getElem_cons g];rw[gE g]at e;rw[Option.some.inj e]
  rw[b];refine⟨[2*ls.length+2*j,upN ls u] :: ps,⟨by simp,⟨?_,?_,rfl⟩,i⟩,?_⟩
  ·rw[Zuh d c,hi]
  ·show upN ls u=Y4 ls (Z1 ls) _;rw[Zg5,Nat.mod_eq_of_lt (by omega),r]
   rfl
  ·rw[List.flatten_cons,List.range'_succ,List.map_cons];rw[List.perm_iff_count]at f ⊢;intro a;have:=f a;simp only[List.count_append,List.count_cons,List.count_nil,List.cons_append]at this ⊢;omega
theorem gapL(e:Wv ls):∀ (j v:Nat),j<Z0 ls→(Q9 ls)[j]? = some (dnN ls v)→v<ls.length→(at' ls v).k=1→V1 v (Z1 ls)=j →
 ∃ ps,Gap (tnL ls) bkN (bkN (dnN ls v)) (((Q9 ls).take j).reverse++[2*ls.length+2*(Z0 ls - 1)+1]) ps∧ps.flatten.Perm ((List.range j).map (fun p=>2*ls.length+2*p+1)++[2*ls.length+2*(Z0 ls - 1)+1]++(Q9 ls).take j)
 | 0,v,l,i,c,b,hi=>by
  refine⟨[[2*ls.length+2*(Z0 ls - 1)+1]],⟨by simp,⟨?_,rfl⟩,trivial⟩,by simp⟩
  rw[Zz5 c b,hi,Nat.zero_add,Nat.mod_eq_of_lt (by omega)]
 | j+1,v,l,i,c,b,hi=>by
  obtain⟨u,m,n,o,q,_,f⟩:=Zn7 e (p:=j) (by omega)
  obtain⟨ps,g,d⟩:=gapL e j u (by omega) f m n o
  have h:(Q9 ls).take (j+1)=(Q9 ls).take j++[dnN ls u]:=by
   rw[List.take_add_one,f];rfl
  rw[h,List.reverse_append];refine⟨[2*ls.length+2*j+1,dnN ls u] :: ps,⟨by simp,⟨?_,?_,rfl⟩,g⟩,?_⟩
  ·rw[Zz5 c b,hi,show j+1+Z0 ls - 1=j+Z0 ls by omega,Nat.add_mod_right,Nat.mod_eq_of_lt (by omega)]
  ·show dnN ls u=Y4 ls (Z1 ls) _;rw[Zgs,q];rfl
  ·rw[List.flatten_cons,List.range_succ,List.map_append];rw[List.perm_iff_count]at d ⊢;intro a;have:=d a;simp only[List.count_append,List.count_cons,List.count_nil,List.map_cons,List.map_nil]at this ⊢;omega
theorem Yb9(b:Wv ls):Stt (tnL ls) bkN (2*ls.length+2*(Z0 ls - 1)) (Y2 ls) ((List.range (Z0 ls)).map (fun p=>2*ls.length+2*p)++Y2 ls) 0:=by
 have i:=b.pas;obtain⟨v,v1,j,k,m,d,_⟩:=Zn7 b (p:=0) i;obtain⟨ps,h,c⟩:=gapU b (Z0 ls - 1) 0 v (by omega) d v1 j k
 have g:0<(Y2 ls).length:=by rw[Zn4]; omega
 have e:Y2 ls=upN ls v :: (Y2 ls).drop 1:=by
  conv=>lhs; rw[← List.drop_zero (l:=Y2 ls),List.drop_eq_getElem_cons g]
  rw[gE g]at d;rw[Option.some.inj d]
 refine⟨[upN ls v] :: ps,[],?_,fun w b=>(by cases b),rfl,?_⟩
 ·have f:Gap (tnL ls) bkN (2*ls.length+2*(Z0 ls - 1)) (upN ls v :: (Y2 ls).drop 1++[2*ls.length+2*(Z0 ls - 1)]) ([upN ls v] :: ps):=by
   refine⟨by simp,⟨?_,rfl⟩,h⟩
   show upN ls v=Y4 ls (Z1 ls) _;rw[Zg5,show Z0 ls - 1+1=Z0 ls by omega,Nat.mod_self,m]
   rfl
  rw[← e]at f;exact f
 ·rw[List.flatten_nil,List.nil_append,List.flatten_cons];rw[show Z0 ls - 1+1=Z0 ls by omega]at c
  simp only[Nat.zero_add]at c
  conv=>rhs; rw[e]
  rw[List.range_eq_range'];rw[List.perm_iff_count]at c ⊢;intro a;have:=c a;simp only[List.count_append,List.count_cons,List.count_nil]at this ⊢;omega
theorem Ydw(b:Wv ls):Stt (tnL ls) bkN (2*ls.length+2*(Z0 ls - 1)+1) (Q9 ls).reverse ((List.range (Z0 ls)).map (fun p=>2*ls.length+2*p+1)++Q9 ls) 0:=by
 have o:=b.pas;obtain⟨v,v1,k,m,n,_,f⟩:=Zn7 b (p:=Z0 ls - 1) (by omega)
 obtain⟨ps,g,c⟩:=gapL b (Z0 ls - 1) v (by omega) f v1 k m
 have d:Q9 ls=(Q9 ls).take (Z0 ls - 1)++[dnN ls v]:=by
  have:=List.take_add_one (l:=Q9 ls) (i:=Z0 ls - 1);rw[f,show Z0 ls - 1+1=Z0 ls by omega,List.take_of_length_le (by rw[Zve]; exact Nat.le_refl _)]at this
  exact this
 refine⟨[dnN ls v] :: ps,[],?_,fun w b=>(by cases b),rfl,?_⟩
 ·have h:Gap (tnL ls) bkN (2*ls.length+2*(Z0 ls - 1)+1) (dnN ls v :: ((Q9 ls).take (Z0 ls - 1)).reverse++[2*ls.length+2*(Z0 ls - 1)+1]) ([dnN ls v] :: ps):=by
   refine⟨by simp,⟨?_,rfl⟩,g⟩
   show dnN ls v=Y4 ls (Z1 ls) _;rw[Zgs,n];rfl
  have e:(Q9 ls).reverse=dnN ls v :: ((Q9 ls).take (Z0 ls - 1)).reverse:=by
   conv=>lhs; rw[d,List.reverse_append]
   rfl
  rw[e];exact h
 ·rw[List.flatten_nil,List.nil_append,List.flatten_cons]
  conv=>rhs; rw[d]
  have j:(List.range (Z0 ls)).map (fun p=>2*ls.length+2*p+1)=(List.range (Z0 ls - 1)).map (fun p=>2*ls.length+2*p+1)++[2*ls.length+2*(Z0 ls - 1)+1]:=by
   conv=>lhs; rw[show Z0 ls=Z0 ls - 1+1 by omega,List.range_succ,List.map_append]
   rfl
  rw[j];rw[List.perm_iff_count]at c ⊢;intro a;have:=c a;simp only[List.count_append,List.count_cons,List.count_nil]at this ⊢;omega
theorem A6{d:Nat}(e:∀ v,v<ls.length→(at' ls v).k≠2→(at' ls v).k=1):(d∈Y2 ls ↔ ∃ v,v<ls.length∧(at' ls v).k=1∧d=upN ls v)∧(d∈Q9 ls ↔ ∃ v,v<ls.length∧(at' ls v).k=1∧d=dnN ls v):=by
 unfold Y2 Q9;constructor
 ·rw[List.mem_map];constructor
  ·rintro⟨v,c,rfl⟩;obtain⟨a,b⟩:=mem_axis.1 c;exact⟨v,a,by simpa[isP]using b,rfl⟩
  ·rintro⟨v,a,b,rfl⟩;exact⟨v,mem_axis.2 ⟨a,by simp[isP,b]⟩,rfl⟩
 ·rw[List.mem_map];constructor
  ·rintro⟨v,c,rfl⟩;obtain⟨a,b⟩:=mem_axis.1 c;exact⟨v,a,by simpa[isP]using b,rfl⟩
  ·rintro⟨v,a,b,rfl⟩;exact⟨v,mem_axis.2 ⟨a,by simp[isP,b]⟩,rfl⟩
theorem Zlm{v:Nat}(a:v<ls.length):ldN ls (bkN (upN ls v))=at' ls v:=by
 unfold upN;rw[D7 a,N9 a]
theorem Yak{v:Nat}(a:v<ls.length):ldN ls (bkN (dnN ls v))=at' ls v:=by
 unfold dnN;rw[D7 a,N9 a]
theorem Zik(c:Wv ls):∀ d,iniU ls d→d<2*ls.length→(ldN ls (bkN d)).k≠2:=by
 rintro d (h|h) b
 ·omega
 ·obtain⟨v,a,e,rfl⟩:=(A6 c.kin).1.1 h;rw[Zlm a];omega
theorem Zpx(c:Wv ls):∀ d,iniL ls d→d<2*ls.length→(ldN ls (bkN d)).k≠2:=by
 rintro d (h|h) b
 ·omega
 ·obtain⟨v,a,e,rfl⟩:=(A6 c.kin).2.1 h;rw[Yak a];omega
theorem Zyl(j:Wv ls)(f:List Int)(c:f.Nodup):Dr ls (iniU ls) (2*ls.length+2*(Z0 ls - 1)) f (Y2 ls) f ((List.range (Z0 ls)).map (fun p=>2*ls.length+2*p)++Y2 ls) 0:=by
 have g:=Zmu ls j.kin;refine⟨Yb9 j,?_,fun d=>?_,fun d c=>⟨List.mem_append_right _ c,g.lt d c⟩,fun d c n=>?_,?_,fun _ h=>h,c,fun _ h=>.inl h⟩
 ·rw[List.nodup_append];refine⟨Zhm (fun x y _ _ e=>by omega) List.nodup_range,g.nd,fun a m b hb e=>?_⟩
  obtain⟨p,i,rfl⟩:=List.mem_map.1 m;have:=g.lt b hb;omega
 ·unfold iniU;rw[List.mem_append];constructor
  ·rintro(h|h)
   ·obtain⟨p,i,rfl⟩:=List.mem_map.1 h;have:=List.mem_range.1 i;exact .inl (.inl (by omega))
   ·exact .inl (.inr h)
  ·rintro((h|h)|⟨_,_,k,l⟩)
   ·refine .inl (List.mem_map.2 ⟨(d - 2*ls.length) / 2,List.mem_range.2 (by omega),by omega⟩)
   ·exact .inr h
   ·exact absurd k l
 ·rcases List.mem_append.1 c with h|h
  ·obtain⟨p,_,rfl⟩:=List.mem_map.1 h;omega
  ·exact .inl h
 ·rw[Zn4];omega
theorem Z7v(n:Wv ls)(i:List Int)(c:i.Nodup):Dr ls (iniL ls) (2*ls.length+2*(Z0 ls - 1)+1) i (Q9 ls).reverse i ((List.range (Z0 ls)).map (fun p=>2*ls.length+2*p+1)++Q9 ls) 0:=by
 have f:∀ d,d∈Q9 ls→d<2*ls.length:=fun d c=>by
  obtain⟨v,j,l,rfl⟩:=(A6 n.kin).2.1 c;exact F9 j
 have k:(Q9 ls).Nodup:=by
  unfold Q9;refine Zhm (fun a b g hb e=>?_) (Zfy ls)
  have g:=(mem_axis.1 g).1;have hb:=(mem_axis.1 hb).1;exact(B7 g hb e).1
 refine⟨Ydw n,?_,fun d=>?_,fun d c=>?_,fun d c f=>?_,?_,fun _ h=>h,c,fun _ h=>.inl h⟩
 ·rw[List.nodup_append];refine⟨Zhm (fun x y _ _ e=>by omega) List.nodup_range,k,fun a g b hb e=>?_⟩
  obtain⟨p,m,rfl⟩:=List.mem_map.1 g;have:=f b hb;omega
 ·unfold iniL;rw[List.mem_append];constructor
  ·rintro(h|h)
   ·obtain⟨p,m,rfl⟩:=List.mem_map.1 h;have:=List.mem_range.1 m;exact .inl (.inl (by omega))
   ·exact .inl (.inr h)
  ·rintro((h|h)|⟨_,_,j,l⟩)
   ·refine .inl (List.mem_map.2 ⟨(d - 2*ls.length) / 2,List.mem_range.2 (by omega),by omega⟩)
   ·exact .inr h
   ·exact absurd j l
 ·rw[List.mem_reverse]at c;exact⟨List.mem_append_right _ c,f d c⟩
 ·rcases List.mem_append.1 c with h|h
  ·obtain⟨p,_,rfl⟩:=List.mem_map.1 h;omega
  ·exact .inl (List.mem_reverse.2 h)
 ·rw[List.length_reverse,Zve];omega
end
end Go.Known
end
section
namespace Go.Known
open Go.Plain
section
variable {T T' bk θ:Nat→Nat} {Ar:Nat→Prop}
theorem Z1t:∀ (l:List Nat) (e v w:Nat),Rot T bk e l v→w=T (bk v)→Rot T bk e (l++[v]) w
 | [],_,_,_,h,a=>⟨h,a⟩
 | _ :: os,_,_,_,h,a=>⟨h.1,Z1t os _ _ _ h.2 a⟩
theorem Ztc:∀ (l:List Nat) (x:Nat),Side T bk l→T x=bk (T6 l)→Side T bk (l++[x])
 | [_],_,_,h=>⟨h,trivial⟩
 | _ :: b :: r,x,h,a=>⟨h.1,Ztc (b :: r) x h.2 (by rw[Zdn]at a; exact a)⟩
theorem Zvp:∀ (l:List Nat) (x:Nat),T6 (l++[x])=x
 | [],_=>rfl
 | [_],_=>rfl
 | _ :: y :: r,x=>by
  show T6 (_ :: (y :: r++[x]))=x;rw[show ∀ a,T6 (a :: (y :: r++[x]))=T6 (y :: r++[x]) from fun a=>Zdn a y (r++[x])]
  exact Zvp (y :: r) x
theorem Z2p{l:List Nat}(h:l≠[])(x:Nat):hdN (l++[x])=hdN l:=by
 cases l with
 | nil=>exact absurd rfl h
 | cons a r=>rfl
variable (hT:∀ d,Ar d→T (bk (θ (T' d)))=bk (θ d)) (hA:∀ d,Ar d→Ar (bk (T' d))) (hθ:∀ d,θ (bk d)=bk (θ d)) (hb:∀ d,bk (bk d)=d)
include hT hθ hb
include hA in
theorem Zza:∀ (a:List Nat) (e u:Nat),Ar e→Rot T' bk e a u→Rot T bk (θ (bk u)) (a.map θ).reverse (bk (θ e))
 | [],e,u,b,h=>by
  have h:u=T' e:=h;subst h;show bk (θ e)=T (θ (bk (T' e)));rw[hθ,hT e b]
 | o :: os,e,u,b,h=>by
  have d:=h.1;subst d;have:=Zza os _ u (hA e b) h.2;have c:bk (θ (bk (T' e)))=θ (T' e):=by rw[hθ,hb]
  rw[c]at this;rw[List.map_cons,List.reverse_cons];exact Z1t _ _ _ _ this (hT e b).symm
theorem Zxy:∀ (l:List Nat),Side T' bk l→(∀ d,d∈l→Ar d)→Side T bk (l.map θ).reverse∧T6 (l.map θ).reverse=θ (hdN l)∧hdN (l.map θ).reverse=θ (T6 l)
 | [_],_,_=>⟨trivial,rfl,rfl⟩
 | y :: a :: r,h,b=>by
  obtain⟨c,e,f⟩:=Zxy (a :: r) h.2 fun d g=>b d (List.mem_cons_of_mem _ g)
  rw[List.map_cons,List.reverse_cons];refine⟨Ztc _ _ c ?_,Zvp _ _,?_⟩
  ·have:=hT a (b a (by simp))
   rw[h.1,hθ,hb]at this;rw[e];exact this
  ·rw[Z2p (by simp),f,Zdn]
end
def th(σ:Nat→Nat)(d:Nat):Nat:=if d % 2=0 then 2*σ (d / 2)else 2*σ (d / 2)+1
theorem Zg4(σ:Nat→Nat)(d:Nat):th σ (bkN d)=bkN (th σ d):=by
 rcases Nat.mod_two_eq_zero_or_one d with e|e
 ·have a:bkN d=d+1:=by unfold bkN; rw[if_pos e]
  have b:th σ d=2*σ (d / 2):=by unfold th; rw[if_pos e]
  rw[a,b];unfold th bkN;rw[if_neg (by omega),if_pos (by omega),show (d+1) / 2=d / 2 by omega]
 ·have a:bkN d=d - 1:=by unfold bkN; rw[if_neg (by omega)]
  have b:th σ d=2*σ (d / 2)+1:=by unfold th; rw[if_neg (by omega)]
  rw[a,b];unfold th bkN;rw[if_pos (by omega),if_neg (by omega),show (d - 1) / 2=d / 2 by omega]
  omega
section
variable {ls y:List Lt} {ρ σ:Nat→Nat} (h:Img ls y ρ σ true)
include h
theorem Z7q{u:Nat}(b:u<ls.length):σ ((u+ls.length - 1) % ls.length)=(σ u+ls.length - 1) % ls.length:=by
 have a:=h.pre _ (h.ltr u b);rw[h.inr u b]at a;rw[← a,h.inv _ (Nat.mod_lt _ (by omega))]
theorem Zfv{u:Nat}(a:u<ls.length)(b:Bool):th σ (Y0 ls.length u b)=Y0 ls.length (σ u) b:=by
 unfold th Y0;cases b with
 | true=>
  simp only[if_true];rw[if_pos (by omega),show 2*u / 2=u by omega]
 | false=>
  simp only[bF,if_false];rw[if_neg (by omega),show (2*((u+ls.length - 1) % ls.length)+1) / 2=(u+ls.length - 1) % ls.length by omega,Z7q h a]
theorem Zgm{u:Nat}(a:u<ls.length)(b:Bool):th σ (arr ls.length u b)=arr ls.length (σ u) b:=by
 have c:=D7 a (!b);rw[Bool.not_not]at c;rw[← c,Zg4,Zfv h a,D7 (h.ltr u a),Bool.not_not]
theorem Zpi{d:Nat}(c:d<2*ls.length):th σ d<2*ls.length:=by
 obtain⟨u,b,a,rfl⟩:=N8 c;rw[Zgm h a];exact(Zau (h.ltr u a) b).1
theorem Zvg{d:Nat}(c:d<2*ls.length):∃ v,v<ls.length∧ldN ls (th σ d)=at' ls v∧ldN y d=at' y (ρ v):=by
 obtain⟨u,b,a,rfl⟩:=N8 c;refine⟨σ u,h.ltr u a,?_,?_⟩
 ·rw[Zgm h a,N9 (h.ltr u a)]
 ·have:=N9 (ls:=y) (v:=u) (by rw[h.len]; exact a) b
  rw[h.len]at this;rw[this,h.inr u a]
theorem Z92{d:Nat}(s:d<2*ls.length)(l:(ldN y d).k=2):tnL ls (bkN (th σ (tnL y d)))=bkN (th σ d):=by
 obtain⟨u,b,i,rfl⟩:=N8 s;have a:=h.len;have e:u<y.length:=by rw[a]; exact i
 have c:=N9 (ls:=y) e b;rw[a]at c;rw[c]at l;have f:=h.ltr u i;have m:=h.inr u i;have j:(at' ls (σ u)).k=2:=by rw[← h.kin _ f,m]; exact l
 obtain⟨w1,w2,t,v,w⟩:=h.wv.oth _ f j;have o:=h.oth _ f j;rw[m]at o;have p:=h.ov _ f j;rw[m]at p;have g:=Ze7 (ls:=y) e l b;unfold otN at g;rw[a,o]at g;have n:smN y u = !smN ls (σ u):=p;rw[n]at g;have q:tnL y (arr ls.length u b)=Y0 ls.length (ρ (X9 ls (σ u) ls.length 0)) (b == !smN ls (σ u)):=g;rw[q,Zfv h (h.lt _ w1),h.inv _ w1,D7 w1];show tnN ls _=_;rw[Ze7 w1 w2,Zod h.wv f j];have r:otN ls (X9 ls (σ u) ls.length 0)=σ u:=t;rw[r,Zgm h i,Zmc]
 congr 1
 cases b<;>cases smN ls (σ u)<;>rfl
theorem Stp.turned(s:Wu y)(hi:∀ v,v<ls.length→(at' y (ρ v)).i=(at' ls v).i){front f:List Nat}{done dn:List Int}(F:Stp y front done f dn):Stp ls (front.map (th σ)).reverse done (f.map (th σ)).reverse dn:=by
 have g:=h.len;cases F with
 | cap l r x z _ t=>
  have:=Stp.cap (ls:=ls) (r.map (th σ)).reverse (l.map (th σ)).reverse (th σ z) (th σ x) done (by rw[← Zg4,← t,Q1])
  simpa using this
 | cross l ins c r _ id o m q j b=>
  have n:∀ d,(d<2*ls.length∧(ldN y d).k=2)→(bkN (tnL y d)<2*ls.length∧(ldN y (bkN (tnL y d))).k=2):=fun d a=>by
   have:=Zhy s.w (d:=d) (by rw[g]; exact a.1) a.2
   rw[g]at this;exact this.2
  have hT:∀ d,(d<2*ls.length∧(ldN y d).k=2)→tnL ls (bkN (th σ (tnL y d)))=bkN (th σ d):=fun d a=>Z92 h a.1 a.2
  rw[g]at b;have p:=Zo3 m;obtain⟨G,H,I⟩:=Zxy hT (Zg4 σ) Q1 ins m fun d a=>⟨(b d a).1,(b d a).2.1⟩
  have u:=b _ (Zlb p);have D:=Zza hT n (Zg4 σ) Q1 c _ _ ⟨u.1,u.2.1⟩ q;rw[Q1]at D;have:=Stp.cross (ls:=ls) (r.map (th σ)).reverse (ins.map (th σ)).reverse (c.map (th σ)).reverse (l.map (th σ)).reverse done id o G (by rw[H,I]; exact D) (by simpa using j) fun d a=>by
   rw[List.mem_reverse]at a;obtain⟨e,E,rfl⟩:=List.mem_map.1 a;obtain⟨A,B,C⟩:=b e E;obtain⟨v,v1,J,K⟩:=Zvg h A;rw[J];rw[K]at B C;exact⟨Zpi h A,by rw[← h.kin v v1]; exact B,by rw[← hi v v1]; exact C⟩
  simpa using this
theorem Z0s(p:∀ v,v<y.length→(at' y v).k≠2→(at' y v).k=1):(Y2 y).map (th σ)=Q9 ls:=by
 have b:=h.len;have g:Z1 y=(Z1 ls).map ρ:=by
  apply List.ext_getElem?;intro q;by_cases l:q<Z0 ls
  ·obtain⟨v,c,e,i,hi⟩:=J8 l;obtain⟨j,d⟩:=Zgu (ls:=y) (v:=ρ v) (by rw[b]; exact h.lt v c) (by rw[h.kin v c]; exact e)
   have a:=h.idx v c e;rw[if_pos rfl]at a;rw[a,hi]at j d;rw[List.getElem?_map];have m:q<(Z1 ls).length:=by rw[T4]; exact l
   have n:q<(Z1 y).length:=by rw[T4]; exact j
   rw[List.getD,gE m]at i;rw[List.getD,gE n]at d;rw[gE m,gE n];simp only[Option.getD_some]at i d;rw[i,d];rfl
  ·rw[List.getElem?_eq_none (by rw[T4,h.pas]; omega),List.getElem?_eq_none (by rw[List.length_map,T4]; omega)]
 unfold Y2 Q9;rw[g,List.map_map,List.map_map];refine List.map_congr_left fun v c=>?_
 obtain⟨f,o⟩:=mem_axis.1 c;have e:(at' ls v).k=1:=by simpa[isP]using o
 show th σ (upN y (ρ v))=dnN ls v;unfold upN dnN;rw[b,Zfv h (h.lt v f),h.inv v f,h.dn v f e]
 congr 1
 cases down ls v<;>rfl
end
theorem Zpe{f:Int}{ls:List Lt}(h:ValR f ls)(z:ls≠[]):Img ls (tuN ls) (rho ls.length (frm ls ls.length)) (sgm ls.length (frm ls ls.length)) true ∧
 ∀ v,v<ls.length→at' (tuN ls) (rho ls.length (frm ls ls.length) v)=tuL (at' ls v):=by
 have m:0<ls.length:=List.length_pos_iff.2 z;have E:∀ l,l∈tuN ls→okR f (tuN ls) l=true:=((h.turn z).1).okr
 obtain⟨S,U,Z⟩:=ValR.ranks h.lo h.okr;obtain⟨P,Q,Y⟩:=ValR.ranks h.lo E;have F:=h.wv z;obtain⟨i,M,N,O⟩:=Zif F.pas h.evn;obtain⟨w,L,t⟩:=Zip ls.length (Nat.le_refl _) ⟨i,by omega,M,N,O⟩
 have c:=fun v b=>Z1x (v:=v) w b
 have C:∀ v,v<ls.length→down (tuN ls) (rho ls.length (frm ls ls.length) v) = !down ls v:=fun v b=>by
  have I:=Zk4 (ls:=ls.map tuL) (a:=frm ls ls.length) (v:=v) (by simpa using w) (by simpa using b)
  rw[List.length_map,← List.map_take,← List.map_take,Zer,Zer,Zer]at I;have V:Z0 (ls.take (frm ls ls.length)) % 2=1:=by
   unfold down at t;simp only[beq_eq_false_iff_ne,ne_eq]at t;omega
  have X:=h.evn;unfold down tuN;generalize Z0 ((W6 (frm ls ls.length) (ls.map tuL)).take (rho ls.length (frm ls ls.length) v))=A at *;generalize Z0 (ls.take v)=B at *;rw[Bool.eq_iff_iff];simp;split at I<;>omega
 have d:=fun v b=>Zgh (n:=ls.length) (a:=frm ls ls.length) (v:=v) w b
 have r:=fun v b=>Zx2 (n:=ls.length) (a:=frm ls ls.length) (v:=v) w b
 have j:∀ v,v<ls.length→rho ls.length (frm ls ls.length) v<ls.length:=fun v b=>Nat.mod_lt _ m
 have k:∀ v,v<ls.length→sgm ls.length (frm ls ls.length) v<ls.length:=fun v b=>Nat.mod_lt _ m
 have g:∀ v,v<ls.length→sgm ls.length (frm ls ls.length) (rho ls.length (frm ls ls.length) v)=v:=fun v b=>by
  rw[r _ (j v b),d v b];split<;>split<;>omega
 have q:∀ v,v<ls.length→rho ls.length (frm ls ls.length) (sgm ls.length (frm ls ls.length) v)=v:=fun v b=>by
  rw[d _ (k v b),r v b];split<;>split<;>omega
 refine⟨⟨F,G4,Zfg,j,k,g,q,fun v b=>?_,fun v b=>by rw[c v b,G9],fun v b p=>?_,fun v b p=>?_,fun v b p=>?_,fun v b p=>?_⟩,c⟩
 ·have hm:=Nat.mod_lt (v+ls.length - 1) m;rw[d _ hm,Zce b,Zce (j v b),d v b];split<;>split<;>split<;>(try split)<;>omega
 ·obtain⟨w1,w2,w3,w4,w5⟩:=F.oth v b p;obtain⟨n1,n2⟩:=h.same_i b p;have D:rho ls.length (frm ls ls.length) (X9 ls v ls.length 0)≠rho ls.length (frm ls ls.length) v:=fun e=>by
   have:=g _ w1;rw[e,g v b]at this;exact n1 this.symm
  refine Zoc ?_ ?_ ls.length 0 (Nat.zero_le _) (by have:=j _ w1; omega) (by rw[G4]; omega)
  ·rw[c _ w1,c v b,Zg3,tu_i,tu_i,n2];simp[D,isX,w2]
  ·intro x y G;rw[G4]at G;have u:=k x G;have ex:=q x G;rw[← ex]at y ⊢;rw[c _ u,c v b,Zg3,tu_i,tu_i]at y;simp only[bA,bne_iff_ne,ne_eq,beq_iff_eq,isX]at y;obtain⟨⟨H,J⟩,K⟩:=y;rcases h.uniq b p u J K with e|e
   ·rw[e]at H; exact absurd rfl H
   ·rw[e]
 ·rw[c v b,Ze3 p];simp only;cases (at' ls v).o<;>cases ((at' ls v).s == 1)<;>rfl
 ·rw[C v b];cases down ls v<;>rfl
 ·rw[if_pos rfl,Zd1 U S b p,Zd1 Q P (by rw[G4]; exact j v b) (by rw[c v b,G9]; exact p),c v b,Zv3]
end Go.Known
end
section
namespace Go.Known
open Go.Plain
section
variable {ls:List Lt}
theorem Dr.pieces(p:Wv ls){ini:Nat→Prop}{A:Nat}{k:List Int}{front:List Nat}{done:List Int}{b:List Nat}{c:Nat}(h:Dr ls ini A k front done b c)
 (m:front≠[] → ∀ i,i+1<front.length→front.getD (i+1) 0≠bkN (front.getD i 0)) :
 ∃ S:List (List Nat),(∀ s,s∈S→Seg (tnL ls) s)∧S.flatten.Perm b∧S.length+(S.filter (clS (tnL ls))).length+2*k.length≤Z0 ls+2*done.length+(if front=[]then 2 else 1):=by
 have e:=h.cnt;by_cases f:front=[]
 ·subst f;obtain⟨S,g,j,q⟩:=h.stt.done;refine⟨S,fun s o=>(g s o).seg.1,j,?_⟩
  have:=List.length_filter_le (clS (tnL ls)) S;rw[if_pos rfl];simp only[List.length_nil]at e;omega
 ·have l:Perm1 (tnL ls) (2*ls.length+2*Z0 ls):=Zsc p;obtain⟨S,g,j,q,t⟩:=h.stt.stuck (N:=2*ls.length+2*Z0 ls) l.inj (fun a r=>by unfold bkN; split<;>omega) f (fun d n=>by have:=(h.fd d n).2; omega) (m f)
  refine⟨S,g,j,?_⟩;rw[if_neg f];omega
theorem Yd9{l:List Nat}{i:Nat}(h:i<l.length):l.reverse.getD i 0=l.getD (l.length - 1 - i) 0:=by
 rw[List.getD,List.getD,List.getElem?_reverse h]
theorem Z7r{l:List Int}{c:Nat}(a:l.Nodup)(h:∀ z,z∈l→1≤z∧z≤(c:Nat)):l.length≤c:=by
 have:=List.Nodup.length_le_of_subset (l₁:=l) (l₂:=(List.range c).map fun i:Nat=>(i:Int)+1) a fun z b=>by
  obtain⟨d,e⟩:=h z b;exact List.mem_map.2 ⟨(z - 1).toNat,List.mem_range.2 (by omega),by omega⟩
 simpa using this
def endD(ls:List Lt)(d0:List Int):List Nat×List Int:=F5 ls (muN ls (Y2 ls) d0+1) (Y2 ls) d0
theorem Zrl(e:Wv ls)(a:List Int):Frt ls (Y2 ls) a:=by
 have:=Zmu ls e.kin;exact⟨this.nd,this.lt,fun d b c=>absurd (this.tl d b c) (by simp)⟩
theorem Zxs{f:Int}(l:ValR f ls)(h0:ls≠[]):(endD ls []).1=[]:=by
 have m:=l.wv h0;have hu:=l.wu h0;obtain⟨g,al⟩:=Zpe l h0;have hy:=(l.turn h0).1;have ac:=Zox l h0;have O:=hy.wv ac;have aa:=hy.wu ac;have Y:(tuN ls).length=ls.length:=G4;obtain⟨y,ay⟩:∃ y,y=tuN ls:=⟨_,rfl⟩
 rw[← ay]at g al hy ac O aa Y;generalize a3:rho ls.length (frm ls ls.length)=ρ at *;generalize a4:sgm ls.length (frm ls ls.length)=σ at *;have hi:∀ v,v<ls.length→(at' y (ρ v)).i=(at' ls v).i:=fun v l=>by rw[al v l,tu_i]
 obtain⟨U,hU⟩:∃ U:List Nat→List Int→Prop,U=fun fr dn=>Frt ls fr dn ∧ ∃ C c,Dr ls (iniU ls) (2*ls.length+2*(Z0 ls - 1)) [] fr dn C c:=⟨_,rfl⟩
 have ak:∀ f d r V Q,U f d→f≠[]→S2 4 ls f d=some (r,V,Q)→U V Q:=fun f d r V Q h hf J=>by
  rw[hU]at h ⊢;obtain⟨n,C,c,X⟩:=h;exact⟨n.step m (fun v D h4=>l.same_i D h4) hf J,X.step hu (Zik m) (Zqk hu n.lt hf J)⟩
 have aj:U (Y2 ls) []:=by
  rw[hU];exact⟨Zrl m _,_,_,Zyl m [] (by simp)⟩
 have u1:=Znl ak (muN ls (Y2 ls) []+1) _ _ aj;have u2:=Zr2 ak (fun f d h=>by rw[hU]at h; exact h.1.lt) (muN ls (Y2 ls) []+1) _ _ aj (Nat.lt_succ_self _)
 show(F5 ls (muN ls (Y2 ls) []+1) (Y2 ls) []).1=[];generalize (F5 ls (muN ls (Y2 ls) []+1) (Y2 ls) []).1=fu at *;generalize (F5 ls (muN ls (Y2 ls) []+1) (Y2 ls) []).2=A at *;rw[hU]at u1;obtain⟨uF,dU,cU,M⟩:=u1;obtain⟨L,hL⟩:∃ L:List Nat→List Int→Prop,L=fun fr dn=>Frt y fr dn ∧ ∃ C c,Dr ls (iniL ls) (2*ls.length+2*(Z0 ls - 1)+1) A (fr.map (th σ)).reverse dn C c:=⟨_,rfl⟩
 have ai:∀ f d r V Q,L f d→f≠[]→S2 4 y f d=some (r,V,Q)→L V Q:=fun f d r V Q h hf J=>by
  rw[hL]at h ⊢;obtain⟨n,C,c,X⟩:=h;exact⟨n.step O (fun v D h4=>hy.same_i D h4) hf J,X.step hu (Zpx m) (Stp.turned g aa hi (Zqk aa n.lt hf J))⟩
 have ah:L (Y2 y) A:=by
  rw[hL];refine⟨Zrl O _,(List.range (Z0 ls)).map (fun p=>2*ls.length+2*p+1)++Q9 ls,0,?_⟩
  rw[Z0s g O.kin];exact Z7v m A M.dnd
 have l1:=Znl ai (muN y (Y2 y) A+1) _ _ ah;have l2:=Zr2 ai (fun f d h=>by rw[hL]at h; exact h.1.lt) (muN y (Y2 y) A+1) _ _ ah (Nat.lt_succ_self _)
 generalize (F5 y (muN y (Y2 y) A+1) (Y2 y) A).1=fl at *;generalize (F5 y (muN y (Y2 y) A+1) (Y2 y) A).2=dl at *;rw[hL]at l1;obtain⟨lF,dL,cL,B⟩:=l1;have ar:∀ (z:List Lt),ValR f z → ∀ d,d<2*z.length→(ldN z d).k=2→(ldN z d).i≠0:=fun z hz d t o=>by
  have:=(Za6 o).1 (hz.okr _ (Zlr t));omega
 have uN:fu≠[]→(∀ i,i+1<fu.length→fu.getD (i+1) 0≠bkN (fu.getD i 0)) ∧ ∀ d,d∈fu→(ldN ls d).k=2→(ldN ls d).i∈A:=fun I=>Zty I (u2.resolve_left I) fun d t=>ar ls l d (uF.lt d t)
 have lN:fl≠[]→(∀ i,i+1<fl.length→fl.getD (i+1) 0≠bkN (fl.getD i 0)) ∧ ∀ d,d∈fl→(ldN y d).k=2→(ldN y d).i∈dl:=fun I=>Zty I (l2.resolve_left I) fun d t=>ar y hy d (lF.lt d t)
 have au:(fl.map (th σ)).reverse≠[] → ∀ i,i+1<(fl.map (th σ)).reverse.length→(fl.map (th σ)).reverse.getD (i+1) 0≠bkN ((fl.map (th σ)).reverse.getD i 0):=fun I i hi e=>by
  have ax:fl≠[]:=fun e=>I (by rw[e]; rfl)
  rw[List.length_reverse,List.length_map]at hi;have P:∀ j,j<fl.length→(fl.map (th σ)).reverse.getD j 0=th σ (fl.getD (fl.length - 1 - j) 0)∧fl.getD (fl.length - 1 - j) 0<2*ls.length:=fun j hj=>by
   rw[Yd9 (by rw[List.length_map]; exact hj),List.length_map,List.getD,List.getElem?_map,gE (by omega)]
   refine⟨?_,?_⟩
   ·rw[List.getD,gE (by omega)]; rfl
   ·rw[← Y]; exact lF.lt _ (Zeo (by omega))
  obtain⟨a1,a2⟩:=P (i+1) hi;obtain⟨b1,b2⟩:=P i (by omega)
  rw[a1,b1,← Zg4]at e;have inj:∀ a b,a<2*ls.length→b<2*ls.length→th σ a=th σ b→a=b:=fun a b E hb e=>by
   obtain⟨u,c,hu,rfl⟩:=N8 E;obtain⟨w,c',ab,rfl⟩:=N8 hb;rw[Zgm g hu,Zgm g ab]at e;obtain⟨S,e2⟩:=Za5 (g.ltr u hu) (g.ltr w ab) e;have:u=w:=by rw[← g.inr u hu,S,g.inr w ab]
   rw[this,e2]
  have e3:=inj _ _ a2 (Zan b2) e;have e4:=(lN ax).1 (fl.length - 1 - (i+1)) (by omega)
  rw[show fl.length - 1 - (i+1)+1=fl.length - 1 - i by omega]at e4
  apply e4;rw[e3,Q1]
 obtain⟨SU,a1,ae,av⟩:=M.pieces m fun I=>(uN I).1
 obtain⟨SL,a0,ad,a5⟩:=B.pieces m au;have tail:∀ v,v<ls.length→(at' ls v).k=2→(at' ls v).i∈dl→2*v∈dU∨2*v∈dL:=fun v l o hm=>by
  have hb:bkN (2*v)=arr ls.length v false:=by
   have:=D7 l true;simpa[Y0]using this
  by_cases H:(at' ls v).i∈A
  ·exact .inl ((M.cov _).2 (.inr ⟨by omega,by rw[hb,N9 l]; exact o,by rw[hb,N9 l]; exact H,by simp⟩))
  ·exact .inr ((B.cov _).2 (.inr ⟨by omega,by rw[hb,N9 l]; exact o,by rw[hb,N9 l]; exact hm,by rw[hb,N9 l]; exact H⟩))
 have af:∀ v,v<ls.length→(at' ls v).k=1→2*v∈dU∨2*v∈dL:=fun v l o=>by
  cases t:down ls v with
  | false=>
   refine .inl ((M.cov _).2 (.inl (.inr ((A6 m.kin).1.2 ⟨v,l,o,?_⟩))));unfold upN Y0;rw[t];rfl
  | true=>
   refine .inr ((B.cov _).2 (.inl (.inr ((A6 m.kin).2.2 ⟨v,l,o,?_⟩))));unfold dnN Y0;rw[t];rfl
 have az:∀ v,v+1<ls.length→ldN ls (2*v)=at' ls (v+1)∧ldN ls (bkN (bkN (2*v)))=at' ls (v+1):=fun v l=>by
  have n:ldN ls (2*v)=at' ls (v+1):=by
   unfold ldN W1;rw[if_pos (by omega),show 2*v / 2=v by omega,Nat.mod_eq_of_lt l]
  exact⟨n,by rw[Q1]; exact n⟩
 have ag:∀ v,v<ls.length→(at' ls v).k=2→(at' ls v).i∈dl:=by
  intro v
  induction v with
  | zero=>
   intro _ o;have:=l.fst;omega
  | succ v ih=>
   intro G o;obtain⟨S,e2⟩:=az v G;have aq:2*v∈dU∨2*v∈dL:=by
    rcases Decidable.em ((at' ls v).k=2)with N|N
    ·exact tail v (by omega) N (ih (by omega) N)
    ·exact af v (by omega) (m.kin v (by omega) N)
   rcases aq with hm|hm
   ·rcases M.jn _ hm (by omega)with n|n
    ·have Z:fu≠[]:=fun e=>by rw[e]at n; cases n
     have:=(uN Z).2 _ n (by rw[S]; exact o)
     rw[S]at this;exact B.sub _ this
    ·rcases (M.cov _).1 n with X|⟨_,_,D,_⟩
     ·exact absurd (by rw[e2]; exact o) (Zik m _ X (Zan (by omega)))
     ·rw[e2]at D;exact B.sub _ D
   ·rcases B.jn _ hm (by omega)with n|n
    ·rw[List.mem_reverse]at n;obtain⟨d,t,e⟩:=List.mem_map.1 n;have Z:fl≠[]:=fun e=>by rw[e]at t; cases t
     have q:=lF.lt d t;rw[Y]at q;obtain⟨w,w1,w2,w3⟩:=Zvg g q;rw[e,S]at w2;have:=(lN Z).2 d t (by rw[w3,g.kin w w1,← w2]; exact o)
     rw[w3,hi w w1,← w2]at this;exact this
    ·rcases (B.cov _).1 n with X|⟨_,_,D,_⟩
     ·exact absurd (by rw[e2]; exact o) (Zpx m _ X (Zan (by omega)))
     ·rw[e2]at D;exact D
 have hC:Cov (tnL ls) (2*ls.length+2*Z0 ls) (SU++SL):=by
  refine⟨fun s J=>?_,?_,fun d=>?_⟩
  ·rcases List.mem_append.1 J with J|J
   ·exact a1 s J
   ·exact a0 s J
  ·rw[List.flatten_append,List.nodup_append];refine⟨ae.nodup_iff.2 M.nd,ad.nodup_iff.2 B.nd,fun a E b hb e=>?_⟩
   subst e;have E:=(M.cov a).1 (ae.mem_iff.1 E);have hb:=(B.cov a).1 (ad.mem_iff.1 hb);rcases E with E|⟨a1,a2,a3,_⟩
   ·rcases hb with hb|⟨b1,b2,b3,b4⟩
    ·rcases E with E|E
     ·rcases hb with hb|hb
      ·omega
      ·obtain⟨v,v1,_,rfl⟩:=(A6 m.kin).2.1 hb;have:dnN ls v<2*ls.length:=F9 v1;omega
     ·obtain⟨u,n,_,S⟩:=(A6 m.kin).1.1 E;rcases hb with hb|hb
      ·have:upN ls u<2*ls.length:=F9 n;omega
      ·obtain⟨w,D,_,e3⟩:=(A6 m.kin).2.1 hb;rw[S]at e3;obtain⟨q1,q2⟩:=B7 n D e3;subst q1
       revert q2
       cases down ls u<;>simp
    ·exact Zik m a E b1 b2
   ·rcases hb with hb|⟨b1,b2,b3,b4⟩
    ·exact Zpx m a hb a1 a2
    ·exact b4 a3
  ·rw[List.flatten_append,List.mem_append,ae.mem_iff,ad.mem_iff,M.cov,B.cov];constructor
   ·intro t;by_cases G:d<2*ls.length
    ·obtain⟨v,b,K,e⟩:=N8 (Zan G);have am:d=Y0 ls.length v (!b):=by rw[← Q1 d,e,Zmc]
     have F:ldN ls (bkN d)=at' ls v:=by rw[e,N9 K]
     rcases Decidable.em ((at' ls v).k=2)with o|o
     ·by_cases H:(at' ls v).i∈A
      ·exact .inl (.inr ⟨G,by rw[F]; exact o,by rw[F]; exact H,by simp⟩)
      ·exact .inr (.inr ⟨G,by rw[F]; exact o,by rw[F]; exact ag v K o,by rw[F]; exact H⟩)
     ·have an:=m.kin v K o;by_cases hb:b=down ls v
      ·refine .inl (.inl (.inr ((A6 m.kin).1.2 ⟨v,K,an,?_⟩)));unfold upN;rw[am,hb]
      ·refine .inr (.inl (.inr ((A6 m.kin).2.2 ⟨v,K,an,?_⟩)));unfold dnN;rw[am]
       congr 1
       revert hb
       cases b<;>cases down ls v<;>simp
    ·rcases Nat.mod_two_eq_zero_or_one d with e|e
     ·exact .inl (.inl (.inl ⟨by omega,t,e⟩))
     ·exact .inr (.inl (.inl ⟨by omega,t,e⟩))
   ·have q:∀ v b,v<ls.length→Y0 ls.length v b<2*ls.length+2*Z0 ls:=fun v b l=>by
     have:=F9 l (fw:=b);omega
    rintro((h|h)|h)
    ·rcases h with h|h
     ·exact h.2.1
     ·obtain⟨v,v1,_,rfl⟩:=(A6 m.kin).1.1 h;exact q v _ v1
    ·omega
    ·rcases h with(h|h)|h
     ·exact h.2.1
     ·obtain⟨v,v1,_,rfl⟩:=(A6 m.kin).2.1 h;exact q v _ v1
     ·omega
 have ao:=Yc2 (show Perm1 (tnL ls) _ from Zsc m) hC
 rw[List.length_append,List.filter_append,List.length_append]at ao;have aw:L2 (tnL ls) (2*ls.length+2*Z0 ls)=Z0 ls+Y9 ls / 2+2:=l.cyc;rw[aw]at ao;have a2:dl.length≤Y9 ls / 2:=Z7r B.dnd fun z hz=>by
  have:∃ v,v<ls.length∧(at' ls v).k=2∧(at' ls v).i=z:=by
   rcases B.ids z hz with h|h
   ·rcases M.ids z h with h|h
    ·cases h
    ·exact h
   ·exact h
  obtain⟨v,v1,v2,rfl⟩:=this;have:=(Za6 v2).1 (l.okr _ (S1 v1));exact⟨this.2.2.2.1,this.2.2.2.2.1⟩
 simp only[List.length_nil,Nat.mul_zero,Nat.add_zero]at av;refine Classical.byContradiction fun I=>?_
 rw[if_neg I]at av;have:(if (fl.map (th σ)).reverse=[]then 2 else 1)≤2:=by split<;>omega
 omega
end
end Go.Known
end
