/- Part 52 of the proof: Qg, Qh, Qi. -/
import Derived.Test.YtilmpmlkndfbjaaGreatDoorI51
set_option linter.all false
section
namespace Go.Known
open Go.Plain
section
variable {ls:List Lt}
theorem Zgq(c:Wu ls){u:Nat}(g:u<2*ls.length)(f:(ldN ls u).k=2):∀ j,it (Z7 ls) j u<2*ls.length∧(ldN ls (it (Z7 ls) j u)).k=2∧(ldN ls (it (Z7 ls) j u)).i=(ldN ls u).i
 | 0=>⟨g,f,rfl⟩
 | j+1=>by
  obtain⟨d,e,h⟩:=Zgq c g f j;obtain⟨_,l,m⟩:=Zhy c.w d e;exact⟨l,m,(Zyq c.w d e fun v a b=>(c.ne v a b).2).trans h⟩
theorem Zt2(e:Wu ls){d:Nat}(h:d<2*ls.length)(a:(ldN ls d).k=2):(ldN ls (Z7 ls d)).o = !(ldN ls d).o:=by
 obtain⟨v,b,c,rfl⟩:=N8 h;rw[N9 c]at a ⊢;obtain⟨f,i,j,g,l⟩:=e.w.oth v c a;rw[Zez e.w c a,N9 f];exact g
theorem Zru(ls:List Lt):∀ (k x:Nat),U0 ls x k=(List.range k).map fun j=>bkN (it (Z7 ls) (j+1) x)
 | 0,_=>rfl
 | k+1,x=>by
  rw[List.range_succ_eq_map,List.map_cons,List.map_map];show tnN ls x :: U0 ls (Z7 ls x) k=_;rw[Zru ls k (Z7 ls x)]
  congr 1
  ·show tnN ls x=bkN (Z7 ls x);unfold Z7;rw[Q1]
  ·refine List.map_congr_left fun j _=>?_
   show bkN (it (Z7 ls) (j+1) (Z7 ls x))=bkN (it (Z7 ls) (j+1+1) x);rw[Zaz];rfl
theorem Zog(A:Wu ls){front f:List Nat}{done dn:List Int}{r:Rw}(p:∀ d,d∈front→d<2*ls.length)(v:front≠[])(h:S2 4 ls front done=some (r,f,dn)) :
 (∃ i,r=(1,i,0,false)∧i+1<front.length∧bkN (front.getD i 0)=front.getD (i+1) 0∧f=front.take i++front.drop (i+2)∧dn=done) ∨
 (∃ a n,r=(2,a,n,(ldN ls (front.getD a 0)).o)∧1≤n∧n≤4∧a+n≤front.length∧(ldN ls (front.getD a 0)).k=2∧(ldN ls (front.getD a 0)).i∉done ∧
   (∀ i,i<n→front.getD (a+i) 0=it (Z7 ls) (4 - i) (front.getD a 0))∧f=front.take a++U0 ls (front.getD a 0) (4 - n)++front.drop (a+n)∧dn=done++[(ldN ls (front.getD a 0)).i]):=by
 have s:0<front.length:=List.length_pos_iff.2 v;unfold S2 at h;split at h
 ·rename_i z;simp only[oI,pI2]at h;obtain⟨rfl,rfl,rfl⟩:=h;have b:=Zq9 (Ze2 front) (front.length - 1) 0 (by
   have:P0 front<front.length - 1:=z;unfold P0 at this;omega)
  have q:front.getD (P0 front) 0=bkN (front.getD (P0 front+1) 0):=of_decide_eq_true b;exact .inl ⟨P0 front,rfl,by omega,by rw[q,Q1],rfl,rfl⟩
 ·split at h
  ·cases h
  ·rename_i y;simp only[oI,pI2]at h;obtain⟨rfl,rfl,rfl⟩:=h;rcases Zfw (U5 4 ls done front) front.length with⟨b,_,_⟩|⟨b,q,j⟩
   ·exact absurd b y
   ·obtain⟨t,C,D⟩:=Zh1 (c:=4) (ls:=ls) (done:=done) (front:=front) (i:=(X3 (U5 4 ls done front) front.length).1) (by rw[j]; exact b)
    generalize (X3 (U5 4 ls done front) front.length).1=a at *;generalize (X3 (U5 4 ls done front) front.length).2=n at *;have g:n≤1+H2 ls (ldN ls (front.getD a 0)).i front (a+1)∧n≤4:=by
     unfold U5 at j;rw[D]at j;split at j
     ·omega
     ·omega
    obtain⟨E,u⟩:=Zsx (ls:=ls) (id:=(ldN ls (front.getD a 0)).i) (front:=front) (n - 1) (a+1) (by omega) (by omega)
    have e:∀ i,i+1<n→(ldN ls (front.getD (a+(i+1)) 0)).k=2∧Z7 ls (front.getD (a+(i+1)) 0)=front.getD (a+i) 0:=fun i hi=>by
     have:=u i (by omega)
     simp only[okF,bA,decide_eq_true_eq]at this;rw[show a+1+i=a+(i+1) by omega,show a+(i+1) - 1=a+i by omega]at this
     refine⟨this.1.1,?_⟩;unfold Z7;rw[this.2,Q1]
    have l:∀ i,i<n→it (Z7 ls) i (front.getD (a+i) 0)=front.getD a 0:=by
     intro i
     induction i with
     | zero=>intro _; rfl
     | succ i B=>
      intro hi;have:=Zaz (Z7 ls) i (front.getD (a+(i+1)) 0);show Z7 ls (it (Z7 ls) i _)=_;rw[← this,(e i hi).2];exact B (by omega)
    refine .inr ⟨a,n,rfl,by omega,g.2,by omega,t,C,fun i hi=>?_,rfl,rfl⟩
    rw[← l i hi,← Zid,show 4 - i+i=4 by omega]
    have m:(ldN ls (front.getD (a+i) 0)).k=2:=by
     cases i with
     | zero=>exact t
     | succ i=>exact (e i hi).1
    exact(rot4 A.w (p _ (Zeo (by omega))) m).symm
end
structure Pr (x y:List Lt) (fp P:List (Nat×Nat)) (dx:List Int):Prop where
 fr:∀ p,p∈fp→p∈P
 jn:∀ p,p∈P→p∈fp∨(bkN p.1,bkN p.2)∈P
 lt:∀ p,p∈P→p.1<2*x.length∧p.2<2*y.length
 kd:∀ p,p∈P→(ldN x (bkN p.1)).k=(ldN y (bkN p.2)).k
 rt:∀ p,p∈P→(ldN x (bkN p.1)).k=2→(tnN x (bkN p.1),tnN y (bkN p.2))∈P∧(ldN x (bkN p.1)).o=(ldN y (bkN p.2)).o∧(ldN x (bkN p.1)).i∈dx
 fn:∀ p q,p∈P→q∈P→p.1=q.1→p.2=q.2
 ps:∀ p,p∈P→(ldN x (bkN p.1)).k≠2 → ∃ i,i<Z0 x∧p=(upN x ((Z1 x).getD i 0),upN y ((Z1 y).getD i 0))
theorem Ybz{l:List (Nat×Nat)}{i:Nat}(h:i+1<l.length):l=l.take i++l[i] :: l[i+1] :: l.drop (i+2):=by
 conv=>lhs; rw[← List.take_append_drop i l]
 rw[List.drop_eq_getElem_cons (by omega),List.drop_eq_getElem_cons h]
theorem Z46{l:List (Nat×Nat)}{a n:Nat}:l=l.take a++((l.drop a).take n++l.drop (a+n)):=by
 rw[← List.drop_drop,List.take_append_drop,List.take_append_drop]
theorem Zmt{l:List (Nat×Nat)}{i:Nat}(h:i<l.length):(l.map Prod.fst).getD i 0=l[i].1∧(l.map Prod.snd).getD i 0=l[i].2:=by
 rw[List.getD,List.getD,List.getElem?_map,List.getElem?_map,gE h];exact⟨rfl,rfl⟩
section
variable {x y:List Lt} (hx:Wu x) (hy:Wu y)
include hx hy
theorem Pr.step{b P:List (Nat×Nat)}{dx dy K aa:List Int}{r:Rw}{fx fy:List Nat}(h:Pr x y b P dx)(h0:b≠[])(h1:S2 4 x (b.map Prod.fst) dx=some (r,fx,K))(h2:S2 4 y (b.map Prod.snd) dy=some (r,fy,aa)) :
 ∃ H P',Pr x y H P' K∧H.map Prod.fst=fx∧H.map Prod.snd=fy ∧ ∀ p,p∈P→p∈P':=by
 have U:∀ d,d∈b.map Prod.fst→d<2*x.length:=fun d hd=>by
  obtain⟨p,hp,rfl⟩:=List.mem_map.1 hd;exact(h.lt p (h.fr p hp)).1
 have I:∀ d,d∈b.map Prod.snd→d<2*y.length:=fun d hd=>by
  obtain⟨p,hp,rfl⟩:=List.mem_map.1 hd;exact(h.lt p (h.fr p hp)).2
 rcases Zog hx U (by simpa using h0) h1 with⟨i,L,v,F,M,G⟩|⟨a,n,L,v,F,M,G,e6,e7,e8,e9⟩
 ·rcases Zog hy I (by simpa using h0) h2 with⟨i',f,g2,X,g4,O⟩|⟨a',n',f,_⟩
  ·rw[L]at f;simp only[pI2,true_and]at f;obtain⟨rfl,_⟩:=f;rw[List.length_map]at v;have gi:=Zmt (l:=b) (i:=i) (by omega)
   have gj:=Zmt (l:=b) (i:=i+1) v;rw[gi.1,gj.1]at F;rw[gi.2,gj.2]at X;have hs:=Ybz v;have p0:b[i]∈P:=h.fr _ (List.getElem_mem _);have p1:b[i+1]∈P:=h.fr _ (List.getElem_mem _);refine⟨b.take i++b.drop (i+2),P,⟨fun p hp=>h.fr p ?_,fun p hp=>?_,h.lt,h.kd,fun p hp J=>?_,h.fn,h.ps⟩,?_,?_,fun p hp=>hp⟩
   ·rcases List.mem_append.1 hp with hp|hp
    ·exact List.mem_of_mem_take hp
    ·exact List.mem_of_mem_drop hp
   ·rcases h.jn p hp with hp|hp
    ·rw[hs]at hp;simp only[List.mem_append,List.mem_cons]at hp;rcases hp with hp|hp|hp|hp
     ·exact .inl (List.mem_append_left _ hp)
     ·subst hp;refine .inr ?_;rw[F,X];exact p1
     ·subst hp;refine .inr ?_;rw[← F,← X,Q1,Q1];exact p0
     ·exact .inl (List.mem_append_right _ hp)
    ·exact .inr hp
   ·rw[G]; exact h.rt p hp J
   ·rw[M,List.map_append,List.map_take,List.map_drop]
   ·rw[g4,List.map_append,List.map_take,List.map_drop]
  ·rw[L]at f;simp at f
 ·rcases Zog hy I (by simpa using h0) h2 with⟨i',f,_⟩|⟨a',n',f,g2,X,g4,O,g6,g7,g8,g9⟩
  ·rw[L]at f;simp at f
  ·rw[L]at f;simp only[pI2,true_and]at f;obtain⟨rfl,rfl,ho⟩:=f;rw[List.length_map]at M;have ga:=Zmt (l:=b) (i:=a) (by omega)
   have V:=U _ (Zeo (l:=b.map Prod.fst) (i:=a) (by rw[List.length_map]; omega))
   have B:=I _ (Zeo (l:=b.map Prod.snd) (i:=a) (by rw[List.length_map]; omega))
   have E:∀ i,(hi:i<n)→b[a+i]=(it (Z7 x) (4 - i) ((b.map Prod.fst).getD a 0),it (Z7 y) (4 - i) ((b.map Prod.snd).getD a 0)):=fun i hi=>by
    have:=Zmt (l:=b) (i:=a+i) (by omega)
    rw[← e7 i hi,← g7 i hi,this.1,this.2]
   generalize (b.map Prod.fst).getD a 0=u at *;generalize (b.map Prod.snd).getD a 0=C at *;obtain⟨N,D⟩:∃ N:Nat→Nat×Nat,N=fun j=>(bkN (it (Z7 x) (j+1) u),bkN (it (Z7 y) (j+1) C)):=⟨_,rfl⟩
   have ag:=rot4 hx.w V G;have ah:=rot4 hy.w B O;have ae:∀ j,(ldN x (it (Z7 x) j u)).o=(ldN y (it (Z7 y) j C)).o:=by
    intro j
    induction j with
    | zero=>exact ho
    | succ j ih=>
     obtain⟨q1,q2,_⟩:=Zgq hx V G j;obtain⟨q3,q4,_⟩:=Zgq hy B O j;show(ldN x (Z7 x _)).o=(ldN y (Z7 y _)).o;rw[Zt2 hx q1 q2,Zt2 hy q3 q4,ih]
   have g:∀ j,bkN (N j).1=it (Z7 x) (j+1) u:=fun j=>by rw[D]; exact Q1 _
   have A:∀ j,bkN (N j).2=it (Z7 y) (j+1) C:=fun j=>by rw[D]; exact Q1 _
   have z:∀ j,(ldN x (bkN (N j).1)).k=2∧(ldN x (bkN (N j).1)).i=(ldN x u).i:=fun j=>by
    rw[g];exact(Zgq hx V G (j+1)).2
   have ab:∀ j,(ldN y (bkN (N j).2)).k=2:=fun j=>by
    rw[A];exact(Zgq hy B O (j+1)).2.1
   have af:∀ j,j<4 → ∃ Z,Z<4∧(tnN x (bkN (N j).1),tnN y (bkN (N j).2))=N Z:=fun j c=>by
    have key:(tnN x (bkN (N j).1),tnN y (bkN (N j).2))=(bkN (it (Z7 x) (j+1+1) u),bkN (it (Z7 y) (j+1+1) C)):=by
     rw[g,A];show _=(bkN (Z7 x (it (Z7 x) (j+1) u)),bkN (Z7 y (it (Z7 y) (j+1) C)));unfold Z7;rw[Q1,Q1]
    rw[key];rcases Nat.lt_or_ge j 3 with s|s
    ·exact⟨j+1,by omega,by rw[D]⟩
    ·have:j=3:=by omega
     subst this;refine⟨0,by omega,?_⟩
     rw[D];have ex:it (Z7 x) (3+1+1) u=it (Z7 x) (0+1) u:=congrArg (Z7 x) ag;have ey:it (Z7 y) (3+1+1) C=it (Z7 y) (0+1) C:=congrArg (Z7 y) ah;rw[ex,ey]
   have S:∀ i j,i<4→j<4→(N i).1=(N j).1→i=j:=fun i j hi c e=>by
    have Y:=(Zzm hx V G).1;have v:it (Z7 x) (i+1) u=it (Z7 x) (j+1) u:=by rw[← g,e,g]
    have hl:its x 4 (Z7 x u)=(List.range 4).map fun j=>it (Z7 x) (j+1) u:=rfl
    rw[hl]at Y;unfold List.Nodup at Y;rw[List.pairwise_map]at Y;have Q:=List.pairwise_iff_getElem.1 Y;rcases Nat.lt_trichotomy i j with s|s|s
    ·exact absurd (by rw[List.getElem_range,List.getElem_range]; exact v) (Q i j (by simpa using hi) (by simpa using c) s)
    ·exact s
    ·exact absurd (by rw[List.getElem_range,List.getElem_range]; exact v.symm) (Q j i (by simpa using c) (by simpa using hi) s)
   have m:∀ j,j<4→N j∈P++(List.range 4).map N:=fun j c=>List.mem_append_right _ (List.mem_map.2 ⟨j,List.mem_range.2 c,rfl⟩)
   refine⟨b.take a++((List.range (4 - n)).map N++b.drop (a+n)),P++(List.range 4).map N,⟨fun p hp=>?_,fun p hp=>?_,fun p hp=>?_,fun p hp=>?_,fun p hp J=>?_,fun p q hp t e=>?_,fun p hp J=>?_⟩,?_,?_,fun p hp=>List.mem_append_left _ hp⟩
   ·rcases List.mem_append.1 hp with hp|hp
    ·exact List.mem_append_left _ (h.fr p (List.mem_of_mem_take hp))
    ·rcases List.mem_append.1 hp with hp|hp
     ·obtain⟨j,c,rfl⟩:=List.mem_map.1 hp;have:=List.mem_range.1 c;exact m j (by omega)
     ·exact List.mem_append_left _ (h.fr p (List.mem_of_mem_drop hp))
   ·rcases List.mem_append.1 hp with hp|hp
    ·rcases h.jn p hp with hp|hp
     ·rw[Z46 (l:=b) (a:=a) (n:=n)]at hp;rcases List.mem_append.1 hp with hp|hp
      ·exact .inl (List.mem_append_left _ hp)
      ·rcases List.mem_append.1 hp with hp|hp
       ·obtain⟨i,hi,e⟩:=List.getElem_of_mem hp;have ac:i<n:=by
         rw[List.length_take]at hi;omega
        have v:b[a+i]=p:=by
         rw[← e,List.getElem_take,List.getElem_drop]
        have F:=E i ac;rw[v]at F;refine .inr ?_;rw[F];have M:N (3 - i)=(bkN (it (Z7 x) (4 - i) u),bkN (it (Z7 y) (4 - i) C)):=by
         rw[D];simp only;rw[show 3 - i+1=4 - i by omega]
        show(bkN (it (Z7 x) (4 - i) u),bkN (it (Z7 y) (4 - i) C))∈_;rw[← M];exact m _ (by omega)
       ·exact .inl (List.mem_append_right _ (List.mem_append_right _ hp))
     ·exact .inr (List.mem_append_left _ hp)
    ·obtain⟨j,c,rfl⟩:=List.mem_map.1 hp;have c:=List.mem_range.1 c;rcases Nat.lt_or_ge j (4 - n)with s|s
     ·exact .inl (List.mem_append_right _ (List.mem_append_left _ (List.mem_map.2 ⟨j,List.mem_range.2 s,rfl⟩)))
     ·refine .inr (List.mem_append_left _ ?_);have:=E (3 - j) (by omega)
      rw[g,A];rw[show 4 - (3 - j)=j+1 by omega]at this
      rw[← this];exact h.fr _ (List.getElem_mem _)
   ·rcases List.mem_append.1 hp with hp|hp
    ·exact h.lt p hp
    ·obtain⟨j,c,rfl⟩:=List.mem_map.1 hp;rw[D];exact⟨Zan (Zgq hx V G (j+1)).1,Zan (Zgq hy B O (j+1)).1⟩
   ·rcases List.mem_append.1 hp with hp|hp
    ·exact h.kd p hp
    ·obtain⟨j,c,rfl⟩:=List.mem_map.1 hp;rw[(z j).1,ab j]
   ·rcases List.mem_append.1 hp with hp|hp
    ·obtain⟨q1,q2,q3⟩:=h.rt p hp J;exact⟨List.mem_append_left _ q1,q2,by rw[e9]; exact List.mem_append_left _ q3⟩
    ·obtain⟨j,c,rfl⟩:=List.mem_map.1 hp;obtain⟨Z,ad,e⟩:=af j (List.mem_range.1 c);refine⟨by rw[e]; exact m Z ad,by rw[g,A]; exact ae (j+1),?_⟩
     rw[(z j).2,e9];simp
   ·have cross:∀ p,p∈P → ∀ j,p.1≠(N j).1:=fun p hp j e=>by
     obtain⟨k1,k2⟩:=z j;rw[← e]at k1 k2;have:=(h.rt p hp k1).2.2;rw[k2]at this;exact e6 this
    rcases List.mem_append.1 hp with hp|hp
    ·rcases List.mem_append.1 t with t|t
     ·exact h.fn p q hp t e
     ·obtain⟨j,c,rfl⟩:=List.mem_map.1 t;exact absurd e (cross p hp j)
    ·obtain⟨i,hi,rfl⟩:=List.mem_map.1 hp;rcases List.mem_append.1 t with t|t
     ·exact absurd e.symm (cross q t i)
     ·obtain⟨j,c,rfl⟩:=List.mem_map.1 t;rw[S i j (List.mem_range.1 hi) (List.mem_range.1 c) e]
   ·rcases List.mem_append.1 hp with hp|hp
    ·exact h.ps p hp J
    ·obtain⟨j,c,rfl⟩:=List.mem_map.1 hp;exact absurd (z j).1 J
   ·rw[e8,List.append_assoc,Zru,List.map_append,List.map_append,List.map_take,List.map_drop,List.map_map,D];rfl
   ·rw[g8,List.append_assoc,Zru,List.map_append,List.map_append,List.map_take,List.map_drop,List.map_map,D];rfl
theorem Pr.run:∀ (k v:Nat) (c P:List (Nat×Nat)) (g q:List Int),Pr x y c P g→muN x (c.map Prod.fst) g<k→muN y (c.map Prod.snd) q<v→drF 4 x k (c.map Prod.fst) g=drF 4 y v (c.map Prod.snd) q →
 (F5 x k (c.map Prod.fst) g).1=[] → ∃ o i,Pr x y [] o i ∧ ∀ p,p∈P→p∈o
 | 0,_,_,_,_,_,_,h,_,_,_=>absurd h (Nat.not_lt_zero _)
 | _+1,0,_,_,_,_,_,_,h,_,_=>absurd h (Nat.not_lt_zero _)
 | k+1,v+1,c,P,g,q,j,K,m2,e,m=>by
  by_cases s:c=[]
  ·subst s;exact⟨P,g,j,fun p hp=>hp⟩
  ·have f:c.map Prod.fst≠[]:=by simpa using s
   have n:c.map Prod.snd≠[]:=by simpa using s
   rw[F5,if_neg f]at m;rw[drF,drF,if_neg f,if_neg n]at e;have C:∀ d,d∈c.map Prod.fst→d<2*x.length:=fun d B=>by
    obtain⟨p,hp,rfl⟩:=List.mem_map.1 B;exact(j.lt p (j.fr p hp)).1
   have D:∀ d,d∈c.map Prod.snd→d<2*y.length:=fun d B=>by
    obtain⟨p,hp,rfl⟩:=List.mem_map.1 B;exact(j.lt p (j.fr p hp)).2
   cases t:S2 4 x (c.map Prod.fst) g with
   | none=>
    rw[t]at m;exact absurd m f
   | some a=>
    obtain⟨r,I,i⟩:=a;rw[t]at m e;cases u:S2 4 y (c.map Prod.snd) q with
    | none=>rw[u]at e; cases e
    | some b=>
     obtain⟨L,J,z⟩:=b;rw[u]at e;simp only[List.cons.injEq]at e;obtain⟨rfl,e⟩:=e;obtain⟨A,o,E,rfl,rfl,F⟩:=j.step hx hy s t u;have n1:=Zj7 C f t;have n2:=Zj7 D n u;obtain⟨w,l,G,H⟩:=Pr.run k v A o i z E (by omega) (by omega) e m
     exact⟨w,l,G,fun p hp=>H p (F p hp)⟩
omit hx hy in
theorem Zv2:∀ (m:Nat) (f g:Nat→Nat),((List.range m).map fun i=>(f i,g i)).map Prod.fst=(List.range m).map f∧((List.range m).map fun i=>(f i,g i)).map Prod.snd=(List.range m).map g:=fun m f g=>by
 rw[List.map_map,List.map_map];exact⟨rfl,rfl⟩
omit hx hy in
theorem Zqq(ls:List Lt):Y2 ls=(List.range (Z0 ls)).map fun i=>upN ls ((Z1 ls).getD i 0):=by
 unfold Y2;apply List.ext_getElem?;intro i;rw[List.getElem?_map,List.getElem?_map];by_cases h:i<Z0 ls
 ·have a:i<(Z1 ls).length:=by rw[T4]; exact h
  rw[gE a,List.getElem?_range h];show some (upN ls (Z1 ls)[i])=some (upN ls ((Z1 ls).getD i 0));rw[List.getD,gE a];rfl
 ·rw[List.getElem?_eq_none (by rw[T4]; omega),List.getElem?_eq_none (by rw[List.length_range]; omega)]
  rfl
theorem Zyi{f:Int}(n:ValR f x)(A:x≠[])(hp:Z0 x=Z0 y)(D:X2 4 x=X2 4 y) :
 ∃ P z,Pr x y [] P z ∧ ∀ i,i<Z0 x→(upN x ((Z1 x).getD i 0),upN y ((Z1 y).getD i 0))∈P:=by
 obtain⟨b,c⟩:∃ b,b=(List.range (Z0 x)).map fun i=>(upN x ((Z1 x).getD i 0),upN y ((Z1 y).getD i 0)):=⟨_,rfl⟩
 have l:b.map Prod.fst=Y2 x:=by rw[c,(Zv2 _ _ _).1,Zqq]
 have s:b.map Prod.snd=Y2 y:=by rw[c,(Zv2 _ _ _).2,Zqq,hp]
 have a:∀ p,p∈b → ∃ i v w,i<Z0 x∧p=(upN x ((Z1 x).getD i 0),upN y ((Z1 y).getD i 0))∧(Z1 x).getD i 0=v∧(Z1 y).getD i 0=w∧v<x.length∧(at' x v).k=1∧w<y.length∧(at' y w).k=1∧V1 v (Z1 x)=i:=fun p hp=>by
  rw[c]at hp;obtain⟨i,hi,rfl⟩:=List.mem_map.1 hp;have hi:=List.mem_range.1 hi;obtain⟨v,v1,d,H,I⟩:=J8 hi;obtain⟨w,w1,w2,L,O⟩:=J8 (ls:=y) (p:=i) (by omega)
  exact⟨i,v,w,hi,rfl,H,L,v1,d,w1,w2,I⟩
 have B:Pr x y b b []:=by
  refine⟨fun p hp=>hp,fun p hp=>.inl hp,fun p hp=>?_,fun p hp=>?_,fun p hp m=>?_,fun p q hp C e=>?_,fun p hp _=>?_⟩
  ·obtain⟨i,v,w,hi,rfl,rfl,rfl,v1,d,w1,w2,_⟩:=a p hp;exact⟨F9 v1,F9 w1⟩
  ·obtain⟨i,v,w,hi,rfl,rfl,rfl,v1,d,w1,w2,_⟩:=a p hp;show(ldN x (bkN (upN x _))).k=(ldN y (bkN (upN y _))).k;rw[Zlm v1,Zlm w1,d,w2]
  ·obtain⟨i,v,w,hi,rfl,rfl,rfl,v1,d,w1,w2,_⟩:=a p hp;have m:(ldN x (bkN (upN x ((Z1 x).getD i 0)))).k=2:=m;rw[Zlm v1]at m;omega
  ·obtain⟨i,v,w,hi,rfl,rfl,rfl,v1,d,w1,w2,t⟩:=a p hp;obtain⟨j,N,w',M,rfl,rfl,rfl,r,G,J,K,o⟩:=a q C;have e:upN x ((Z1 x).getD i 0)=upN x ((Z1 x).getD j 0):=e;have:=(B7 v1 r e).1;rw[this,o]at t;rw[t]
  ·obtain⟨i,v,w,hi,rfl,_⟩:=a p hp;exact⟨i,hi,rfl⟩
 have g:(F5 x (muN x (Y2 x) []+1) (Y2 x) []).1=[]:=Zxs n A;obtain⟨u,h,E,F⟩:=Pr.run hx hy (muN x (Y2 x) []+1) (muN y (Y2 y) []+1) b b [] [] B (by rw[l]; exact Nat.lt_succ_self _) (by rw[s]; exact Nat.lt_succ_self _) (by rw[l,s]; exact D) (by rw[l]; exact g)
 refine⟨u,h,E,fun i hi=>F _ ?_⟩
 rw[c];exact List.mem_map.2 ⟨i,List.mem_range.2 hi,rfl⟩
end
end Go.Known
end
section
namespace Go.Known
open Go.Plain
structure Rl (x y:List Lt) (sd:Bool) (R:Nat→Nat→Prop):Prop where
 bk:∀ d d',R d d'→R (bkN d) (bkN d')
 lt:∀ d d',R d d'→d<2*x.length∧d'<2*y.length
 kd:∀ v b w b',v<x.length→w<y.length→R (Y0 x.length v b) (Y0 y.length w b')→(at' x v).k=(at' y w).k
 tn:∀ v b w b',v<x.length→w<y.length→R (Y0 x.length v b) (Y0 y.length w b')→(at' x v).k=2 →
  R (Y0 x.length (otN x v) (((!b) == smN x v) == sd)) (Y0 y.length (otN y w) (((!b') == smN y w) == sd))∧(at' x v).o=(at' y w).o
 fn:∀ d d1 d2,R d d1→R d d2→d1=d2
 ps:∀ v b w b',v<x.length→w<y.length→R (Y0 x.length v b) (Y0 y.length w b')→(at' x v).k≠2 → ∃ i,i<Z0 x∧v=(Z1 x).getD i 0∧w=(Z1 y).getD i 0∧b=(down x v != sd)∧b'=(down y w != sd)
 ini:∀ i,i<Z0 x→R (Y0 x.length ((Z1 x).getD i 0) (down x ((Z1 x).getD i 0) != sd)) (Y0 y.length ((Z1 y).getD i 0) (down y ((Z1 y).getD i 0) != sd))
theorem G0{ls:List Lt}{v:Nat}(a:v<ls.length)(b:Bool):ldN ls (bkN (Y0 ls.length v b))=at' ls v:=by
 rw[D7 a,N9 a]
section
variable {x y:List Lt}
theorem Z9l(hx:Wu x)(hy:Wu y)(hp:Z0 x=Z0 y){P:List (Nat×Nat)}{D:List Int}(h:Pr x y [] P D)(hi:∀ i,i<Z0 x→(upN x ((Z1 x).getD i 0),upN y ((Z1 y).getD i 0))∈P):Rl x y true fun d m=>(d,m)∈P:=by
 have j:∀ b:Bool,(b != true) = !b:=fun b=>by cases b<;>rfl
 have s:∀ b:Bool,(b == true)=b:=fun b=>by cases b<;>rfl
 refine⟨fun d m a=>?_,fun d m a=>h.lt _ a,fun v b w b' f g a=>?_,fun v b w b' f g a l=>?_,fun d G H E F=>h.fn _ _ E F rfl,fun v b w b' f g a l=>?_,fun i o=>?_⟩
 ·rcases h.jn _ a with c|c
  ·cases c
  ·exact c
 ·have:=h.kd _ a;rw[G0 f,G0 g]at this;exact this
 ·have n:(at' y w).k=2:=by
   have:=h.kd _ a;rw[G0 f,G0 g]at this;omega
  obtain⟨t,u,_⟩:=h.rt _ a (by rw[G0 f]; exact l)
  rw[G0 f,G0 g]at u;rw[D7 f,D7 g,Ze7 f l,Ze7 g n]at t;rw[s,s];exact⟨t,u⟩
 ·obtain⟨i,hi,e⟩:=h.ps _ a (by rw[G0 f]; exact l)
  obtain⟨I,v1,J,z,K⟩:=J8 hi;obtain⟨w',w1,w2,A,L⟩:=J8 (ls:=y) (p:=i) (by omega)
  rw[z,A]at e;simp only[pI2]at e;obtain⟨q,B⟩:=B7 f v1 e.1;obtain⟨r,C⟩:=B7 g w1 e.2;refine⟨i,hi,by rw[z,q],by rw[A,r],?_,?_⟩
  ·rw[j,B,q]
  ·rw[j,C,r]
 ·rw[j,j];exact hi i o
theorem Yge(ls:List Lt):Q9 ls=(List.range (Z0 ls)).map fun i=>dnN ls ((Z1 ls).getD i 0):=by
 unfold Q9;apply List.ext_getElem?;intro i;rw[List.getElem?_map,List.getElem?_map];by_cases h:i<Z0 ls
 ·have a:i<(Z1 ls).length:=by rw[T4]; exact h
  rw[gE a,List.getElem?_range h];show some (dnN ls (Z1 ls)[i])=some (dnN ls ((Z1 ls).getD i 0));rw[List.getD,gE a];rfl
 ·rw[List.getElem?_eq_none (by rw[T4]; omega),List.getElem?_eq_none (by rw[List.length_range]; omega)]
  rfl
theorem Zn3{a:List Lt}{ρ σ:Nat→Nat}(h:Img x a ρ σ true)(d:∀ v,v<a.length→(at' a v).k≠2→(at' a v).k=1){i:Nat}(hi:i<Z0 x):th σ (upN a ((Z1 a).getD i 0))=dnN x ((Z1 x).getD i 0):=by
 have b:=Z0s h d;rw[Zqq,Yge,h.pas,List.map_map]at b;have c:=congrArg (fun l:List Nat=>l[i]?) b
 simp only[List.getElem?_map,List.getElem?_range hi,Option.map_some,oI,Function.comp]at c;exact c
theorem Zvn{l:List Lt}{ρ σ:Nat→Nat}(h:Img x l ρ σ true):∀ a b,a<2*x.length→b<2*x.length→th σ a=th σ b→a=b:=fun a b j k e=>by
 obtain⟨u,c,f,rfl⟩:=N8 j;obtain⟨w,m,d,rfl⟩:=N8 k;rw[Zgm h f,Zgm h d]at e;obtain⟨g,i⟩:=Za5 (h.ltr u f) (h.ltr w d) e;have:u=w:=by rw[← h.inr u f,g,h.inr w d]
 rw[this,i]
theorem Zya{f:List Lt}{ρ σ:Nat→Nat}(h:Img x f ρ σ true){e v:Nat}{b:Bool}(d:e<2*x.length)(a:v<x.length)(c:Y0 x.length v b=th σ e):e=Y0 x.length (ρ v) b:=by
 refine Zvn h _ _ d (F9 (h.lt v a)) ?_;rw[← c,Zfv h (h.lt v a),h.inv v a]
theorem Z6n{o r:List Lt}{ρ σ ρ' C:Nat→Nat}(hx:Img x o ρ σ true)(hy:Img y r ρ' C true)(u:∀ v,v<x.length→at' o (ρ v)=tuL (at' x v))(B:∀ v,v<y.length→at' r (ρ' v)=tuL (at' y v))(wx:Wu o)(wy:Wu r)
 (hp:Z0 x=Z0 y) {P:List (Nat×Nat)} {Z:List Int} (h:Pr o r [] P Z) (hi:∀ i,i<Z0 x→(upN o ((Z1 o).getD i 0),upN r ((Z1 r).getD i 0))∈P) :
 Rl x y false fun d L=>∃ p,p∈P∧d=th σ p.1∧L=th C p.2:=by
 have m:=hx.len;have n:=hy.len;have I:∀ b:Bool,(b != false)=b:=fun b=>by cases b<;>rfl
 have g:∀ p,p∈P→p.1<2*x.length∧p.2<2*y.length:=fun p hp=>by
  have:=h.lt p hp;rw[m,n]at this;exact this
 have key:∀ p v b w b',p∈P→v<x.length→w<y.length→Y0 x.length v b=th σ p.1→Y0 y.length w b'=th C p.2→p=(Y0 o.length (ρ v) b,Y0 r.length (ρ' w) b'):=fun p v b w b' hp a f D E=>by
  have H:=Zya hx (g p hp).1 a D;have J:=Zya hy (g p hp).2 f E;rw[m,n,← H,← J]
 have l:∀ v,v<x.length→ρ v<o.length:=fun v a=>by rw[m]; exact hx.lt v a
 have j:∀ v,v<y.length→ρ' v<r.length:=fun v a=>by rw[n]; exact hy.lt v a
 have G:∀ v b w b',v<x.length→w<y.length→(Y0 o.length (ρ v) b,Y0 r.length (ρ' w) b')∈P → ∃ p,p∈P∧Y0 x.length v b=th σ p.1∧Y0 y.length w b'=th C p.2:=fun v b w b' a f hm=>by
  refine⟨_,hm,?_,?_⟩
  ·rw[m,Zfv hx (hx.lt v a),hx.inv v a]
  ·rw[n,Zfv hy (hy.lt w f),hy.inv w f]
 refine⟨fun d L z=>?_,fun d L z=>?_,fun v b w b' a f z=>?_,fun v b w b' a f z F=>?_,fun d d1 d2 h1 h2=>?_,fun v b w b' a f z F=>?_,fun i g=>?_⟩
 ·obtain⟨p,hp,rfl,rfl⟩:=z;rcases h.jn _ hp with c|c
  ·cases c
  ·exact⟨_,c,(Zg4 _ _).symm,(Zg4 _ _).symm⟩
 ·obtain⟨p,hp,rfl,rfl⟩:=z;exact⟨Zpi hx (g p hp).1,Zpi hy (g p hp).2⟩
 ·obtain⟨p,hp,D,E⟩:=z;have e:=key p v b w b' hp a f D E;subst e;have:=h.kd _ hp;rw[G0 (l v a),G0 (j w f),u v a,B w f,G9,G9]at this;exact this
 ·obtain⟨p,hp,D,E⟩:=z;have e:=key p v b w b' hp a f D E;subst e;have M:=h.kd _ hp;rw[G0 (l v a),G0 (j w f),u v a,B w f,G9,G9]at M;have t:(at' y w).k=2:=by omega
  have kx:(at' o (ρ v)).k=2:=by rw[u v a,G9]; exact F
  have ky:(at' r (ρ' w)).k=2:=by rw[B w f,G9]; exact t
  obtain⟨H,J,_⟩:=h.rt _ hp (by rw[G0 (l v a)]; exact kx)
  rw[G0 (l v a),G0 (j w f),u v a,B w f,Ze3 F,Ze3 t]at J;rw[D7 (l v a),D7 (j w f),Ze7 (l v a) kx,Ze7 (j w f) ky]at H;have ox:otN o (ρ v)=ρ (otN x v):=by unfold otN; rw[m]; exact hx.oth v a F
  have oy:otN r (ρ' w)=ρ' (otN y w):=by unfold otN; rw[n]; exact hy.oth w f t
  have sx:smN o (ρ v) = !smN x v:=hx.ov v a F;have sy:smN r (ρ' w) = !smN y w:=hy.ov w f t;rw[ox,oy,sx,sy]at H;have Q:∀ b s:Bool,(((!b) == s) == false)=((!b) == !s):=fun b s=>by cases b<;>cases s<;>rfl
  refine⟨?_,?_⟩
  ·rw[Q,Q];exact G _ _ _ _ (hx.wv.oth v a F).1 (hy.wv.oth w f t).1 H
  ·revert J
   simp
 ·obtain⟨p,hp,rfl,rfl⟩:=h1;obtain⟨q,S,e2,rfl⟩:=h2;rw[h.fn p q hp S (Zvn hx _ _ (g p hp).1 (g q S).1 e2)]
 ·obtain⟨p,hp,D,E⟩:=z;have e:=key p v b w b' hp a f D E;subst e;obtain⟨i,A,e⟩:=h.ps _ hp (by rw[G0 (l v a),u v a,G9]; exact F)
  rw[hx.pas]at A;simp only[pI2]at e;have K:=Zn3 hx wx.w.kin A;have t2:=Zn3 hy wy.w.kin (i:=i) (by omega)
  rw[← e.1]at K;rw[← e.2]at t2;rw[m,Zfv hx (hx.lt v a),hx.inv v a]at K;rw[n,Zfv hy (hy.lt w f),hy.inv w f]at t2;obtain⟨v',v1,v2,U,v4⟩:=J8 A;obtain⟨w',w1,w2,V,w4⟩:=J8 (ls:=y) (p:=i) (by omega)
  rw[U]at K;rw[V]at t2;obtain⟨N,X⟩:=B7 a v1 K;obtain⟨O,Y⟩:=B7 f w1 t2;refine⟨i,A,by rw[U,N],by rw[V,O],?_,?_⟩
  ·rw[I,X,N]
  ·rw[I,Y,O]
 ·rw[I,I];have hm:=hi i g;refine⟨_,hm,?_,?_⟩
  ·exact(Zn3 hx wx.w.kin g).symm
  ·exact(Zn3 hy wy.w.kin (i:=i) (by omega)).symm
end
def S9(ls:List Lt)(v:Nat):Bool:=decide (Z0 (ls.take (v+1)) % 2=0)
theorem Zgf{n v:Nat}(a:v+1<n):Y0 n (v+1) false=2*v+1∧Y0 n (v+1) true=2*(v+1):=by
 unfold Y0;simp only[bF,if_false,if_true];rw[Zhh a,if_neg (by omega)]
 exact⟨rfl,trivial⟩
theorem Zkb(v:Nat):bkN (2*v)=2*v+1:=by unfold bkN; rw[if_pos (by omega)]
theorem Z2l{f:Int}{ls:List Lt}(b:ValR f ls)(j:ls≠[]):∃ done a c,Dr ls (iniU ls) (2*ls.length+2*(Z0 ls - 1)) [] [] done a c:=by
 have e:=b.wv j;have q:=b.wu j;obtain⟨U,k⟩:∃ U:List Nat→List Int→Prop,U=fun fr dn=>Frt ls fr dn ∧ ∃ a c,Dr ls (iniU ls) (2*ls.length+2*(Z0 ls - 1)) [] fr dn a c:=⟨_,rfl⟩
 have m:∀ f d r i g,U f d→f≠[]→S2 4 ls f d=some (r,i,g)→U i g:=fun f d r i g h o p=>by
  rw[k]at h ⊢;obtain⟨n,a,c,t⟩:=h;exact⟨n.step e (fun v u w=>b.same_i u w) o p,t.step q (Zik e) (Zqk q n.lt o p)⟩
 have l:U (Y2 ls) []:=by
  rw[k];exact⟨Zrl e _,_,_,Zyl e [] (by simp)⟩
 have s:=Znl m (muN ls (Y2 ls) []+1) _ _ l;have y:(F5 ls (muN ls (Y2 ls) []+1) (Y2 ls) []).1=[]:=Zxs b j;rw[y,k]at s;exact⟨_,s.2⟩
theorem Ya8{f:Int}{ls:List Lt}(z:ValR f ls)(E:ls≠[]){v:Nat}(n:v<ls.length)(j:(at' ls v).k=2):S9 ls (otN ls v)=S9 ls v:=by
 have A:=z.wv E;obtain⟨done,l,c,B⟩:=Z2l z E;have o:0<ls.length:=List.length_pos_iff.2 E;have F:∀ d,d<2*ls.length→(d∈l↔bkN d∈l):=fun d L=>by
  constructor
  ·intro h;rcases B.jn d h L with g|g
   ·cases g
   ·exact g
  ·intro h;rcases B.jn _ h (Zan L)with g|g
   ·cases g
   ·rw[Q1]at g; exact g
 have m:∀ u b,u<ls.length→(at' ls u).k=2→(Y0 ls.length u b∈l↔(at' ls u).i∈done):=fun u b a j=>by
  rw[B.cov,G0 a];constructor
  ·rintro(h|h)
   ·exact absurd (by rw[G0 a]; exact j) (Zik A _ h (F9 a))
   ·exact h.2.2.1
  ·exact fun h=>.inr ⟨F9 a,j,h,by simp⟩
 have t:∀ u b,u<ls.length→(at' ls u).k=1→(Y0 ls.length u b∈l↔b = !down ls u):=fun u b a j=>by
  rw[B.cov,G0 a];constructor
  ·rintro(h|h)
   ·rcases h with h|h
    ·have:=F9 (fw:=b) a;omega
    ·obtain⟨w,w1,_,e⟩:=(A6 A.kin).1.1 h;obtain⟨K,D⟩:=B7 a w1 e;rw[D,K]
   ·omega
  ·exact fun h=>.inl (.inr ((A6 A.kin).1.2 ⟨u,a,j,by rw[h]; rfl⟩))
 have p:∀ u,u<ls.length→(at' ls u).k=1→Z0 (ls.take (u+1))=Z0 (ls.take u)+1:=fun u a j=>by
  rw[Zf9 a,if_pos (by simp[isP,j])]
 have y:∀ u,u<ls.length→(at' ls u).k=2→Z0 (ls.take (u+1))=Z0 (ls.take u):=fun u a j=>by
  rw[Zf9 a,if_neg (by simp[isP,j])]
  rfl
 have q:∀ u,u<ls.length→(2*u∈l↔S9 ls u=true):=by
  intro u
  induction u with
  | zero=>
   intro _;have g:=t 0 true o z.fst;have N:Y0 ls.length 0 true=2*0:=rfl;rw[N]at g;rw[g];unfold S9;rw[p 0 o z.fst];unfold down;simp[Z0,Z3]
  | succ u G=>
   intro a;obtain⟨H,I⟩:=Zgf a;have P:2*u∈l↔2*u+1∈l:=by
    have:=F (2*u) (by omega)
    rw[Zkb]at this;exact this
   have G:=G (by omega)
   rcases Decidable.em ((at' ls (u+1)).k=2)with j|j
   ·have g:=m (u+1) false a j;have r:=m (u+1) true a j;rw[H]at g;rw[I]at r;have e:S9 ls (u+1)=S9 ls u:=by unfold S9; rw[y _ a j]
    rw[r,← g,← P,G,e]
   ·have s:=A.kin _ a j;have g:=t (u+1) false a s;have r:=t (u+1) true a s;rw[H]at g;rw[I]at r;have K:down ls (u+1)=S9 ls u:=by
     unfold down S9;rw[Bool.eq_iff_iff];simp
    have D:S9 ls (u+1) = !down ls (u+1):=by
     unfold down S9;rw[p _ a s,Bool.eq_iff_iff];simp;omega
    rw[r,D];constructor
    ·intro h; exact h.symm
    ·intro h; exact h.symm
 have g:=q v n;obtain⟨w1,w2,_⟩:=A.oth v n j;have r:=q _ w1;have J:=m v true n j;have C:=m _ true w1 w2;have M:=(z.same_i n j).2;rw[M]at C;have ev:Y0 ls.length v true=2*v:=rfl;have O:Y0 ls.length (X9 ls v ls.length 0) true=2*X9 ls v ls.length 0:=rfl;rw[ev]at J;rw[O]at C;rw[Bool.eq_iff_iff];show S9 ls (X9 ls v ls.length 0)=true↔_;rw[← r,← g,J,C]
end Go.Known
end
section
namespace Go.Known
open Go.Plain
section
variable {x y:List Lt} {f:Int} (hx:ValR f x) (hy:ValR f y) (x0:x≠[]) (y0:y≠[]) (ax:(Z1 x).getD 0 0=0) (ay:(Z1 y).getD 0 0=0) (hp:Z0 x=Z0 y)
 {R:Bool→Nat→Nat→Prop} (hR:∀ sd,Rl x y sd (R sd))
include hx hy x0 y0 hp hR
theorem Z5l{v w:Nat}(e:v<x.length)(f:w<y.length){sd b b':Bool}(h:R sd (Y0 x.length v b) (Y0 y.length w b'))(c:(at' x v).k=2):R sd (Y0 x.length v (!b)) (Y0 y.length w (!b')):=by
 have wx:=hx.wv x0;have wy:=hy.wv y0;have a:(at' y w).k=2:=by rw[← (hR sd).kd v b w b' e f h]; exact c
 obtain⟨j,l,m,_,_⟩:=wx.oth v e c;obtain⟨n,t,o,_,_⟩:=wy.oth w f a;have r:=((hR sd).tn v b w b' e f h c).1;have g:=((hR sd).tn _ _ _ _ j n r l).1;have p:otN x (otN x v)=v:=m;have q:otN y (otN y w)=w:=o;rw[Zod wx e c,Zod wy f a,p,q]at g;have i:∀ b s d:Bool,(((!(((!b) == s) == d)) == !s) == d) = !b:=fun b s d=>by cases b<;>cases s<;>cases d<;>rfl
 rw[i,i]at g;exact g
include ax ay in
theorem Zwo:∀ v,v<x.length→v<y.length→R (S9 x v) (2*v) (2*v)∧Z0 (x.take (v+1))=Z0 (y.take (v+1)):=by
 have wx:=hx.wv x0;have wy:=hy.wv y0;have hpx:∀ {ls:List Lt} {u:Nat},u<ls.length→(at' ls u).k=1→Z0 (ls.take (u+1))=Z0 (ls.take u)+1:=fun hu hk=>by
  rw[Zf9 hu,if_pos (by simp[isP,hk])]
 have hcx:∀ {ls:List Lt} {u:Nat},u<ls.length→(at' ls u).k=2→Z0 (ls.take (u+1))=Z0 (ls.take u):=fun hu hk=>by
  rw[Zf9 hu,if_neg (by simp[isP,hk])]
  rfl
 intro v
 induction v with
 | zero=>
  intro h1 h2;have hpos:=wx.pas;have hi:=(hR false).ini 0 hpos;rw[ax,ay]at hi;have d1:down x 0=true:=by unfold down; simp[Z0,Z3]
  have d2:down y 0=true:=by unfold down; simp[Z0,Z3]
  rw[d1,d2]at hi;have e0:∀ n:Nat,Y0 n 0 (true != false)=2*0:=fun n=>rfl
  rw[e0,e0]at hi;have p1:=hpx h1 hx.fst;have p2:=hpx h2 hy.fst;refine⟨?_,?_⟩
  ·have:S9 x 0=false:=by
    unfold S9;rw[p1];simp[Z0,Z3]
   rw[this];exact hi
  ·rw[p1,p2];simp[Z0,Z3]
 | succ v ih=>
  intro h1 h2;obtain⟨i1,i2⟩:=ih (by omega) (by omega)
  obtain⟨a1,a2⟩:=Zgf h1;obtain⟨b1,b2⟩:=Zgf h2;have j1:=(hR _).bk _ _ i1;rw[Zkb]at j1;have j2:R (S9 x v) (Y0 x.length (v+1) false) (Y0 y.length (v+1) false):=by rw[a1,b1]; exact j1
  have hkd:=(hR _).kd _ _ _ _ h1 h2 j2;rcases Decidable.em ((at' x (v+1)).k=2)with hk|hk
  ·have j3:=Z5l hx hy x0 y0 hp hR h1 h2 j2 hk;rw[Bool.not_false,a2,b2]at j3;have q1:=hcx h1 hk;have q2:=hcx h2 (by rw[← hkd]; exact hk)
   refine⟨?_,by rw[q1,q2,i2]⟩
   have:S9 x (v+1)=S9 x v:=by unfold S9; rw[q1]
   rw[this];exact j3
  ·have hk1:=wx.kin _ h1 hk;obtain⟨i,hi,e1,e2,e3,e4⟩:=(hR _).ps _ _ _ _ h1 h2 j2 hk;have j3:=(hR (!S9 x v)).ini i hi;rw[← e1,← e2]at j3;have f3:(down x (v+1) != !S9 x v)=true:=by revert e3; cases down x (v+1)<;>cases S9 x v<;>simp
   have f4:(down y (v+1) != !S9 x v)=true:=by revert e4; cases down y (v+1)<;>cases S9 x v<;>simp
   rw[f3,f4,a2,b2]at j3;have q1:=hpx h1 hk1;have q2:=hpx h2 (by rw[← hkd]; exact hk1)
   refine⟨?_,by rw[q1,q2,i2]⟩
   have:S9 x (v+1) = !S9 x v:=by
    unfold S9;rw[q1,Bool.eq_iff_iff];simp;omega
   rw[this];exact j3
theorem Zv1{ls:List Lt}(f:Wv ls)(h:(Z1 ls).getD 0 0=0){i:Nat}(hi:i<Z0 ls)(e:(Z1 ls).getD i 0=0):i=0:=by
 obtain⟨v,v1,k,c,d⟩:=J8 hi;obtain⟨u,g,j,a,b⟩:=J8 (ls:=ls) (p:=0) f.pas;rw[e]at c;rw[h]at a;rw[← c]at d;rw[← a]at b;rw[← d,b]
include ax ay in
theorem Z4k:x.length=y.length:=by
 have wx:=hx.wv x0;have wy:=hy.wv y0;have k:=Zwo hx hy x0 y0 ax ay hp hR;have l:0<x.length:=List.length_pos_iff.2 x0;have j:0<y.length:=List.length_pos_iff.2 y0;have a:∀ n,0<n→Y0 n 0 false=2*(n - 1)+1:=fun n p=>by
  unfold Y0;simp only[bF,if_false];rw[Zhh p,if_pos rfl]
 rcases Nat.lt_trichotomy x.length y.length with h|h|h
 ·exfalso;obtain⟨g,_⟩:=k (x.length - 1) (by omega) (by omega)
  have b:=(hR _).bk _ _ g;rw[Zkb]at b;obtain⟨o,_⟩:=Zgf (n:=y.length) (v:=x.length - 1) (by omega)
  have c:R (S9 x (x.length - 1)) (Y0 x.length 0 false) (Y0 y.length (x.length - 1+1) false):=by rw[a _ l,o]; exact b
  obtain⟨i,hi,d,e,_⟩:=(hR _).ps _ _ _ _ l (by omega) c (by rw[hx.fst]; decide)
  have:=Zv1 hx hy x0 y0 hp hR wx ax hi d.symm;subst this;rw[ay]at e;omega
 ·exact h
 ·exfalso;obtain⟨g,_⟩:=k (y.length - 1) (by omega) (by omega)
  have b:=(hR _).bk _ _ g;rw[Zkb]at b;obtain⟨m,_⟩:=Zgf (n:=x.length) (v:=y.length - 1) (by omega)
  have c:R (S9 x (y.length - 1)) (Y0 x.length (y.length - 1+1) false) (Y0 y.length 0 false):=by rw[a _ j,m]; exact b
  have f:=(hR _).kd _ _ _ _ (by omega) j c
  obtain⟨i,hi,d,e,_⟩:=(hR _).ps _ _ _ _ (by omega) j c (by rw[f,hy.fst]; decide)
  have:=Zv1 hx hy x0 y0 hp hR wy ay (by rw[← hp]; exact hi) e.symm
  subst this;rw[ax]at d;omega
end
theorem Z2a{a b:Lt}(k:a.k=b.k)(g:a.g=b.g)(r:a.r=b.r)(i:a.i=b.i)(s:a.s=b.s)(o:a.o=b.o):a=b:=by
 cases a; cases b;simp only[Lt.mk.injEq]at *;exact⟨k,g,r,i,s,o⟩
section
variable {x y:List Lt} {f:Int}
theorem Zqb(hx:∀ l,l∈x→isP l=true→0≤l.g)(hy:∀ l,l∈y→isP l=true→0≤l.g)(hg:∀ g,inG g x=inG g y):∀ t:Nat,Z3 (fun o=>isP o&&decide (o.g<(t:Int))) x=Z3 (fun o=>isP o&&decide (o.g<(t:Int))) y
 | 0=>by
  have z:∀ ls:List Lt,(∀ l,l∈ls→isP l=true→0≤l.g)→Z3 (fun o=>isP o&&decide (o.g<((0:Nat):Int))) ls=0:=fun ls h=>by
   unfold Z3;rw[List.length_eq_zero_iff,List.filter_eq_nil_iff];intro l a;simp only[bA,decide_eq_true_eq,not_and];intro hp;have:=h l a hp;omega
  rw[z x hx,z y hy]
 | t+1=>by
  have s:∀ ls:List Lt,Z3 (fun o=>isP o&&decide (o.g<((t+1:Nat):Int))) ls=Z3 (fun o=>isP o&&decide (o.g<(t:Int))) ls+inG (t:Int) ls:=fun ls=>by
   rw[Zgc (fun o=>isP o&&decide (o.g<((t+1:Nat):Int))) (fun o=>decide (o.g<(t:Int)))]
   congr 1
   ·apply R3;intro o _;cases isP o with
    | false=>rfl
    | true=>rw[Bool.eq_iff_iff]; simp; omega
   ·unfold inG;apply R3;intro o _;cases isP o with
    | false=>rfl
    | true=>rw[Bool.eq_iff_iff]; simp; omega
  rw[s,s,Zqb hx hy hg t,hg]
theorem Zi2(h:ValR f x):∀ l,l∈x→isP l=true→0≤l.g:=fun l b hp=>by
 have a:l.k=1:=by simpa[isP]using hp
 exact((A7 a).1 (h.okr l b)).2.2.2.1
theorem Z12(h:ValR f x):∀ l,l∈x→isP l=true→l.g≤f:=fun l b hp=>by
 have a:l.k=1:=by simpa[isP]using hp
 exact((A7 a).1 (h.okr l b)).2.2.2.2.1
theorem Zvb(hx:ValR f x)(hy:ValR f y)(hg:∀ g,inG g x=inG g y):Z0 x=Z0 y:=by
 have a:∀ ls:List Lt,ValR f ls→Z0 ls=Z3 (fun o=>isP o&&decide (o.g<((f.toNat+1:Nat):Int))) ls:=fun ls h=>by
  unfold Z0;refine R3 fun o b=>?_
  cases hp:isP o with
  | false=>rfl
  | true=>
   have:=Z12 h o b hp;simp;omega
 rw[a x hx,a y hy,Zqb (Zi2 hx) (Zi2 hy) hg]
theorem Z9y(hx:ValR f x)(hy:ValR f y)(hg:∀ g,inG g x=inG g y){l l':Lt}(q:l∈x)(i:l'∈y)(p:l.k=1)(e:l'.k=1)(d:pos x l=pos y l'):l.g=l'.g∧l.r=l'.r:=by
 have a:=(A7 p).1 (hx.okr l q);have b:=(A7 e).1 (hy.okr l' i);have w:=a.2.2.2.1;have n:=b.2.2.2.1;have z:=a.2.2.2.2.2.1;have t:=a.2.2.2.2.2.2.1;have s:=b.2.2.2.2.2.1;have u:=b.2.2.2.2.2.2.1;rw[hg]at t;unfold pos at d;have j:=Zqb (Zi2 hx) (Zi2 hy) hg l.g.toNat;rw[show ((l.g.toNat:Nat):Int)=l.g by omega]at j
 rw[j]at d;have step:∀ g c:Int,g<c→Z3 (fun o=>isP o&&decide (o.g<g)) y+inG g y≤Z3 (fun o=>isP o&&decide (o.g<c)) y:=fun g c h=>by
  rw[Zgc (fun o=>isP o&&decide (o.g<c)) (fun o=>decide (o.g<g))]
  have m:Z3 (fun o=>isP o&&decide (o.g<c)&&decide (o.g<g)) y=Z3 (fun o=>isP o&&decide (o.g<g)) y:=by
   apply R3;intro o _;cases isP o with
   | false=>rfl
   | true=>rw[Bool.eq_iff_iff]; simp; omega
  rw[m];have v:inG g y≤Z3 (fun o=>isP o&&decide (o.g<c) && !decide (o.g<g)) y:=by
   rw[Zgc (fun o=>isP o&&decide (o.g<c) && !decide (o.g<g)) (fun o=>o.g == g)]
   have:Z3 (fun o=>isP o&&decide (o.g<c) && !decide (o.g<g)&&(o.g == g)) y=inG g y:=by
    unfold inG;apply R3;intro o _;cases isP o with
    | false=>rfl
    | true=>rw[Bool.eq_iff_iff]; simp; omega
   omega
  omega
 rcases Int.lt_trichotomy l.g l'.g with h|h|h
 ·have:=step _ _ h;omega
 ·refine⟨h,?_⟩;rw[h]at d;omega
 ·have:=step _ _ h;omega
end
section
variable {x y:List Lt} {f:Int} (hx:ValR f x) (hy:ValR f y) (x0:x≠[]) (y0:y≠[]) (ax:(Z1 x).getD 0 0=0) (ay:(Z1 y).getD 0 0=0) (hg:∀ g,inG g x=inG g y)
 {R:Bool→Nat→Nat→Prop} (hR:∀ sd,Rl x y sd (R sd))
include hx hy x0 y0 ax ay hg hR
theorem Ybd:De true y x:=by
 have wx:=hx.wv x0;have wy:=hy.wv y0;have hp:=Zvb hx hy hg;have B:=Z4k hx hy x0 y0 ax ay hp hR;have P:=Zwo hx hy x0 y0 ax ay hp hR;have L:∀ n v:Nat,Y0 n v true=2*v:=fun n v=>rfl
 have m:∀ v,v<x.length→R (S9 x v) (Y0 x.length v true) (Y0 y.length v true):=fun v u=>(P v u (by omega)).1
 have g:∀ v,v<x.length→(at' x v).k=(at' y v).k:=fun v u=>(hR _).kd _ _ _ _ u (by omega) (m v u)
 have F:∀ v,v<x.length→(at' x v).k=2→otN y v=otN x v∧smN y v=smN x v∧(at' x v).o=(at' y v).o:=fun v u j=>by
  obtain⟨w1,w2,w3,_,_⟩:=wx.oth v u j;have Y:(at' y v).k=2:=by rw[← g v u]; exact j
  obtain⟨u1,u2,u3,_,_⟩:=wy.oth v (by omega) Y
  obtain⟨q1,q2⟩:=(hR _).tn _ _ _ _ u (by omega) (m v u) j
  have O:S9 x (otN x v)=S9 x v:=Ya8 hx x0 u j;have key:∀ c:Bool,R (S9 x v) (Y0 x.length (otN x v) c) (Y0 y.length (otN x v) c):=fun c=>by
   cases c with
   | true=>
    have:=m _ w1;have e:S9 x (X9 x v x.length 0)=S9 x v:=O;rw[e]at this;exact this
   | false=>
    have hz:X9 x v x.length 0≠0:=fun e=>by
     rw[e,hx.fst]at w2;cases w2
    obtain⟨z,Q⟩:∃ z,X9 x v x.length 0=z+1:=⟨X9 x v x.length 0 - 1,by omega⟩
    have J:=m z (by omega)
    have C:=(hR _).bk _ _ J;rw[L,L,Zkb]at C;obtain⟨a1,_⟩:=Zgf (n:=x.length) (v:=z) (by omega)
    obtain⟨b1,_⟩:=Zgf (n:=y.length) (v:=z) (by omega)
    have H:otN x v=z+1:=Q;have A:S9 x z=S9 x v:=by
     rw[← O,H];unfold S9;rw[Zf9 (i:=z+1) (by omega),if_neg (by rw[← Q]; simp[isP,w2])]
     rfl
    rw[H,a1,b1,← A];exact C
  have X:=(hR _).fn _ _ _ q1 (key _);obtain⟨H,A⟩:=B7 u1 (by rw[← B]; exact w1) X
  refine⟨H,?_,q2⟩
  revert A
  cases smN x v<;>cases smN y v<;>cases S9 x v<;>simp
 obtain⟨φ,G⟩:∃ φ:Int→Int,∀ p,p<x.length→(at' y p).k=2→φ (at' y p).i=(at' x p).i:=by
  refine⟨fun z=>match (List.range x.length).find? (fun p=>isX (at' y p)&&(at' y p).i == z)with
   | some p=>(at' x p).i
   | none=>0,fun p f j=>?_⟩
  simp only;cases U:(List.range x.length).find? (fun q=>isX (at' y q)&&(at' y q).i == (at' y p).i)with
  | none=>
   rw[List.find?_eq_none]at U;exact absurd (by simp[isX,j]) (U p (List.mem_range.2 f))
  | some q=>
   simp only;have J:=List.find?_some U;have C:=List.mem_range.1 (List.mem_of_find?_eq_some U);simp only[bA,beq_iff_eq,isX]at J;rcases hy.uniq (v:=p) (x:=q) (by omega) j (by omega) J.1 J.2 with e|e
   ·rw[e]
   ·have N:(at' x p).k=2:=by rw[g p f]; exact j
    have A:q=otN x p:=by rw[← (F p f N).1]; exact e
    rw[A];exact(hx.same_i f N).2
 have ad:0<y.length:=List.length_pos_iff.2 y0;have Z:∀ p,p<y.length→mvt y.length true 0 p=p:=fun p f=>by unfold mvt; rw[if_pos rfl,if_pos (by omega)]; omega
 refine⟨B,0,φ,ad,fun a ha b hb M D K=>?_,fun p f=>?_⟩
 ·obtain⟨S,ae,rfl⟩:=Zcd ha;obtain⟨I,ac,rfl⟩:=Zcd hb;rw[G S (by omega) M,G I (by omega) D]at K
  have ka:(at' x S).k=2:=by rw[g S (by omega)]; exact M
  have kb:(at' x I).k=2:=by rw[g I (by omega)]; exact D
  rcases hx.uniq (v:=I) (x:=S) (by omega) kb (by omega) ka K with e|e
  ·rw[e]
  ·have A:S=otN y I:=by rw[(F I (by omega) kb).1]; exact e
   rw[A];exact(hy.same_i ac D).2
 ·rw[Z p f];have d:p<x.length:=by omega
  have t:=(P p d f).2;have V:down x p=down y p:=by
   have e:∀ {ls:List Lt},p<ls.length→Z0 (ls.take (p+1))=Z0 (ls.take p)+if isP (at' ls p)then 1 else 0:=fun h=>Zf9 h
   rw[e d,e f]at t;have:isP (at' x p)=isP (at' y p):=by unfold isP; rw[g p d]
   rw[this]at t;unfold down;rw[show Z0 (x.take p)=Z0 (y.take p) by omega]
  refine⟨?_,fun _=>by rw[V]; cases down y p<;>rfl⟩
  rcases Decidable.em ((at' x p).k=2)with j|j
  ·have E:(at' y p).k=2:=by rw[← g p d]; exact j
   obtain⟨_,C,h3⟩:=F p d j;have a:=(Za6 j).1 (hx.okr _ (S1 d));have b:=(Za6 E).1 (hy.okr _ (S1 f));have hs:(at' x p).s=(at' y p).s:=by
    unfold smN at C;rw[h3]at C;have aa:=a.2.2.1;have ab:=b.2.2.1
    revert C
    rcases aa with e|e<;>rcases ab with e'|e'<;>rw[e,e']<;>cases (at' y p).o<;>simp
   rw[O8 E,G p d E];exact Z2a (g p d) (a.1.trans b.1.symm) (a.2.1.trans b.2.1.symm) rfl hs h3
  ·have r:=wx.kin p d j;have l:(at' y p).k=1:=by rw[← g p d]; exact r
   obtain⟨i,hi,H,A,_⟩:=(hR _).ps _ _ _ _ d f (m p d) j;obtain⟨v,v1,v2,v3,v4⟩:=J8 hi;obtain⟨w,w1,w2,w3,w4⟩:=J8 (ls:=y) (p:=i) (by omega)
   rw[← H]at v3;rw[← A]at w3;subst v3;subst w3;obtain⟨r1,r2,_⟩:=ValR.ranks hx.lo hx.okr;obtain⟨q1,q2,_⟩:=ValR.ranks hy.lo hy.okr;rw[Zd1 r2 r1 d r]at v4;rw[Zd1 q2 q1 f l]at w4;obtain⟨g1,g2⟩:=Z9y hx hy hg (S1 d) (S1 f) r l (by rw[v4,w4])
   have a:=(A7 r).1 (hx.okr _ (S1 d));have b:=(A7 l).1 (hy.okr _ (S1 f));rw[D3 (by omega)]
   exact Z2a (r.trans l.symm) g1 g2 (a.1.trans b.1.symm) (a.2.1.trans b.2.1.symm) (a.2.2.1.trans b.2.2.1.symm)
end
theorem Z9g{x y:List Lt}{f:Int}(hx:ValR f x)(hy:ValR f y)(x0:x≠[])(y0:y≠[])(ax:(Z1 x).getD 0 0=0)(ay:(Z1 y).getD 0 0=0)(h:SamP x y):De true y x:=by
 obtain⟨g,j,hg⟩:=h;have hp:=Zvb hx hy hg;obtain⟨P,u,p1,n⟩:=Zyi (hx.wu x0) (hy.wu y0) hx x0 hp g;obtain⟨ix,l⟩:=Zpe hx x0;obtain⟨k,m⟩:=Zpe hy y0;have e:=(hx.turn x0).1;have ty:=(hy.turn y0).1;have a:=Zox hx x0;have b:=Zox hy y0;obtain⟨Q,t,o,q⟩:=Zyi (e.wu a) (ty.wu b) e a (by rw[Zfg,Zfg]; exact hp) j
 have s:=Z9l (hx.wu x0) (hy.wu y0) hp p1 n;have r:=Z6n ix k l m (e.wu a) (ty.wu b) hp o (fun i hi=>q i (by rw[Zfg]; exact hi))
 refine Ybd hx hy x0 y0 ax ay hg (R:=fun sd=>if sd then (fun d c=>(d,c)∈P)else fun d c=>∃ p,p∈Q∧d=th (sgm x.length (frm x x.length)) p.1∧c=th (sgm y.length (frm y y.length)) p.2) fun sd=>?_
 cases sd with
 | true=>simpa using s
 | false=>simpa using r
theorem Zv0{x:List Lt}{f:Int}(hx:ValR f x)(x0:x≠[]):∃ z e,De e x z∧ValR f z∧z≠[]∧(Z1 z).getD 0 0=0∧SamP z x:=by
 have key:∀ y:List Lt,ValR f y→y≠[]→down y ((Z1 y).getD 0 0)=true → ∃ z,De true y z∧ValR f z∧z≠[]∧(Z1 z).getD 0 0=0∧SamP z y:=fun y hy y0 l=>by
  have wy:=hy.wv y0;obtain⟨v,v1,C,H,I⟩:=J8 (ls:=y) (p:=0) wy.pas;rw[H]at l;have i:=Zor hy.evn v1 l;have w:(at' (W6 v y) 0).k=1:=by
   rw[Zbl v1 (List.length_pos_iff.2 y0),Zjb v1];exact C
  have A:NmOk (W6 v y):=fun a Q q=>by
   have:=hy.nm a (Zpq Q) q;unfold Y9 at this ⊢;rw[Zdv];exact this
  obtain⟨s,D,z3⟩:=Zmp hy y0 i w A;refine⟨W6 v y,i,s,D,?_,z3⟩;have wz:=s.wv D;obtain⟨V,X,_⟩:=ValR.ranks s.lo s.okr;obtain⟨S,U,_⟩:=ValR.ranks hy.lo hy.okr;have G:0<(W6 v y).length:=List.length_pos_iff.2 D;have h:=Zd1 X V G w;have n:=Zd1 U S v1 C;have o:pos (W6 v y) (at' (W6 v y) 0)=pos y (at' y v):=by
   rw[Zbl v1 (List.length_pos_iff.2 y0),Zjb v1];unfold pos;rw[Zdv]
  rw[o,← n,I]at h;have:=(Zgu G w).2;rw[h]at this;exact this
 obtain⟨v,v1,C,H,I⟩:=J8 (ls:=x) (p:=0) (hx.wv x0).pas;cases l:down x ((Z1 x).getD 0 0)with
 | true=>
  obtain⟨z,a,b,c,d,e⟩:=key x hx x0 l;exact⟨z,true,a,b,c,d,e⟩
 | false=>
  have F:=Zji (hx.evx x0);obtain⟨m,E,J⟩:=Ydb hx x0;have t:down (T5 x) ((Z1 (T5 x)).getD 0 0)=true:=by
   obtain⟨ρ,σ,φ,j,_,_⟩:=Zok hx F m.fst m.nm;obtain⟨u,r,B,Y,Z⟩:=J8 (ls:=T5 x) (p:=0) (m.wv E).pas;have h:=j.idx u r B;have n:=j.dn u r B;have q:=j.kin u r;rw[B]at q;rw[Z]at h;have o:=(Zgu (ls:=x) (v:=ρ u) (by rw[j.len]; exact j.lt u r) q).2
   rw[h]at o;rw[← o,l]at n;rw[Y]
   revert n
   cases down (T5 x) u<;>simp
  obtain⟨z,a,b,c,d,e⟩:=key (T5 x) m E t;refine⟨z,_,F.trans a,b,c,d,?_⟩;obtain⟨N,O,P⟩:=e;obtain⟨K,L,M⟩:=J;exact⟨N.trans K,O.trans L,fun g=>(P g).trans (M g)⟩
theorem Yef{x y:List Lt}{f:Int}(hx:ValR f x)(hy:ValR f y)(x0:x≠[])(y0:y≠[])(h:SamP x y):∃ e,De e y x:=by
 obtain⟨a,u,j,k,l,m,c⟩:=Zv0 hx x0;obtain⟨b,v,n,o,p,q,d⟩:=Zv0 hy y0;obtain⟨r,s,t⟩:=h;have i:SamP a b:=⟨c.1.trans (r.trans d.1.symm),c.2.1.trans (s.trans d.2.1.symm),fun g=>(c.2.2 g).trans ((t g).trans (d.2.2 g).symm)⟩
 have:=Z9g k o l p m q i;exact⟨_,(n.trans this).trans j.symm⟩
end Go.Known
end
