/- Part 33 of the proof: Ya, Sf, Sg, Sh. -/
import Derived.Test.YtipeejpafgnjdaaGreatDoorH30
import Derived.Test.YtipeejpafgnjdaaGreatDoorH31
import Derived.Test.YtipeejpafgnjdaaGreatDoorH32
set_option linter.all false
section
namespace Go.Known
open Go.Plain
def upN(ls:List Lt)(i:Nat):Nat:=U3 ls.length i (!down ls i)
def bkN(d:Nat):Nat:=if d % 2=0 then d+1 else d - 1
def tnN(ls:List Lt)(d:Nat):Nat:=Y3 ls (Z2 ls) d
def ldN(ls:List Lt)(d:Nat):Lt:=at' ls (X3 ls.length d)
def crN(ls:List Lt)(done:List Int)(d:Nat):Int:=if (ldN ls d).k=2∧(ldN ls d).i∉done then (ldN ls d).i else 0
def okF(ls:List Lt)(id:Int)(front:List Nat)(j:Nat):Bool:=
 decide ((ldN ls (front.getD j 0)).k=2)&&decide ((ldN ls (front.getD j 0)).i=id)&&decide (tnN ls (front.getD j 0)=bkN (front.getD (j - 1) 0))
def D0(ls:List Lt)(id:Int)(front:List Nat)(j:Nat):Nat:=
 if h:j<front.length∧okF ls id front j=true then 1+D0 ls id front (j+1)else 0
termination_by front.length - j
decreasing_by omega
theorem Zf7{ls:List Lt}{id:Int}{front:List Nat}{j:Nat}(h:j<front.length)(h':okF ls id front j=true):D0 ls id front j=1+D0 ls id front (j+1):=by
 rw[D0,dif_pos ⟨h,h'⟩]
theorem Zau{ls:List Lt}{id:Int}{front:List Nat}{j:Nat}(h:¬(j<front.length∧okF ls id front j=true)):D0 ls id front j=0:=by
 rw[D0,dif_neg h]
theorem Z70(ls:List Lt)(id:Int)(front:List Nat):∀ k j,front.length - j=k→D0 ls id front j≤front.length - j:=by
 intro k
 induction k with
 | zero=>intro j hj; rw[Zau (fun h=>by omega)]; omega
 | succ k ih=>
  intro j hj;by_cases h:j<front.length∧okF ls id front j=true
  ·rw[Zf7 h.1 h.2];have:=ih (j+1) (by omega)
   omega
  ·rw[Zau h]; omega
def S2(c:Nat)(ls:List Lt)(done:List Int)(front:List Nat)(i:Nat):Nat:=
 if crN ls done (front.getD i 0)=0 then 0 else min c (1+D0 ls (crN ls done (front.getD i 0)) front (i+1))
def X5(run:Nat→Nat):Nat→Nat×Nat
 | 0=>(0,0)
 | k+1=>if (X5 run k).2<run k then (k,run k)else X5 run k
def C9(p:Nat→Bool):Nat→Nat→Nat
 | 0,j=>j
 | k+1,j=>if p j then j else C9 p k (j+1)
def Zni(front:List Nat)(i:Nat):Bool:=decide (front.getD i 0=bkN (front.getD (i+1) 0))
def D5(front:List Nat):Nat:=C9 (Zni front) (front.length - 1) 0
def U7(ls:List Lt):Nat→Nat→List Nat
 | _,0=>[]
 | x,k+1=>tnN ls x :: U7 ls (bkN (tnN ls x)) k
abbrev Rw:=Nat×Nat×Nat×Bool
def D1(c:Nat)(ls:List Lt)(front:List Nat)(done:List Int):Option (Rw×List Nat×List Int):=
 if D5 front<front.length - 1 then some ((1,D5 front,0,false),front.take (D5 front)++front.drop (D5 front+2),done)
 else if (X5 (S2 c ls done front) front.length).2=0 then none
 else some ((2,(X5 (S2 c ls done front) front.length).1,(X5 (S2 c ls done front) front.length).2,(ldN ls (front.getD (X5 (S2 c ls done front) front.length).1 0)).o),
  front.take (X5 (S2 c ls done front) front.length).1++U7 ls (front.getD (X5 (S2 c ls done front) front.length).1 0) (4 - (X5 (S2 c ls done front) front.length).2) ++
   front.drop ((X5 (S2 c ls done front) front.length).1+(X5 (S2 c ls done front) front.length).2),
  done++[(ldN ls (front.getD (X5 (S2 c ls done front) front.length).1 0)).i])
def drF(c:Nat)(ls:List Lt):Nat→List Nat→List Int→List Rw
 | 0,_,_=>[]
 | k+1,front,done=>if front=[]then []else match D1 c ls front done with
  | none=>[]
  | some (r,f,dn)=>r :: drF c ls k f dn
def T2(ls:List Lt):List Nat:=(Z2 ls).map (upN ls)
def muN(ls:List Lt)(front:List Nat)(done:List Int):Nat:=front.length+3*Z4 (fun l=>isX l && !done.contains l.i) ls
def X1(c:Nat)(ls:List Lt):List Rw:=drF c ls (muN ls (T2 ls) []+1) (T2 ls) []
theorem Z16(p:Nat→Bool):∀ k j,j≤C9 p k j∧C9 p k j≤j+k
 | 0,j=>⟨Nat.le_refl _,Nat.le_refl _⟩
 | k+1,j=>by
  simp only[C9];split
  ·omega
  ·have:=Z16 p k (j+1); omega
theorem Z67{p:Nat→Bool}{k j:Nat}(h:p j=false):C9 p (k+1) j=C9 p k (j+1):=by simp[C9,h]
theorem Z2i{p:Nat→Bool}{k j:Nat}(h:p j=true):C9 p (k+1) j=j:=by simp[C9,h]
theorem Zhu(run:Nat→Nat):∀ k,((X5 run k).2=0∧(X5 run k).1=0 ∧ ∀ j,j<k→run j=0)∨(0<(X5 run k).2∧(X5 run k).1<k∧run (X5 run k).1=(X5 run k).2)
 | 0=>.inl ⟨rfl,rfl,fun j hj=>by omega⟩
 | k+1=>by
  simp only[X5];split
  ·rename_i h;exact .inr ⟨by simp only; omega,Nat.lt_succ_self k,rfl⟩
  ·rename_i h;rcases Zhu run k with⟨h1,h2,h3⟩|⟨h1,h2,h3⟩
   ·exact .inl ⟨h1,h2,fun j hj=>by
     by_cases e:j=k
     ·subst e; omega
     ·exact h3 j (by omega)⟩
   ·exact .inr ⟨h1,by omega,h3⟩
theorem Zx4{r r':Nat→Nat}:∀ k,(∀ j,j<k→r j=r' j)→X5 r k=X5 r' k
 | 0,_=>rfl
 | k+1,h=>by
  simp only[X5];rw[Zx4 k (fun j hj=>h j (by omega)),h k (Nat.lt_succ_self k)]
theorem Zj7(ls:List Lt):∀ k x,(U7 ls x k).length=k
 | 0,_=>rfl
 | k+1,x=>by simp[U7,Zj7 ls k]
theorem Z80{ls:List Lt}{done:List Int}{l:Lt}(hl:l∈ls)(hx:isX l=true)(hd:l.i∉done):Z4 (fun o=>isX o && !(done++[l.i]).contains o.i) ls<Z4 (fun o=>isX o && !done.contains o.i) ls:=by
 have h1:=Zjy (fun o=>isX o && !done.contains o.i) (fun o=>o.i != l.i) ls
 have e1:Z4 (fun o=>isX o && !done.contains o.i&&(o.i != l.i)) ls=Z4 (fun o=>isX o && !(done++[l.i]).contains o.i) ls:=by
  apply T0;intro o _;rw[Bool.eq_iff_iff];simp;constructor
  ·rintro⟨⟨a,b⟩,c⟩;exact⟨a,b,c⟩
  ·rintro⟨a,b,c⟩;exact⟨⟨a,b⟩,c⟩
 have e2:0<Z4 (fun o=>isX o && !done.contains o.i && !(o.i != l.i)) ls:=by
  unfold Z4;exact List.length_pos_of_mem (List.mem_filter.2 ⟨hl,by simp[hx,hd]⟩)
 rw[e1]at h1;omega
theorem Zns{c:Nat}{ls:List Lt}{done:List Int}{front:List Nat}{i:Nat}(h:0<S2 c ls done front i):(ldN ls (front.getD i 0)).k=2∧(ldN ls (front.getD i 0)).i∉done∧crN ls done (front.getD i 0)=(ldN ls (front.getD i 0)).i:=by
 unfold S2 at h;split at h
 ·omega
 ·rename_i h0;unfold crN at h0 ⊢;split
  ·rename_i hc;exact⟨hc.1,hc.2,rfl⟩
  ·rename_i hc;rw[if_neg hc]at h0;exact absurd rfl h0
theorem Znk{ls:List Lt}{d:Nat}(hd:d<2*ls.length):ldN ls d∈ls:=R9 (Zah hd)
theorem Zsv{c:Nat}{ls:List Lt}{front:List Nat}{done:List Int}{r:Rw}{f:List Nat}{dn:List Int}(hf:∀ d,d∈front→d<2*ls.length)(h0:front≠[])(h:D1 c ls front done=some (r,f,dn)):muN ls f dn<muN ls front done:=by
 have hpos:0<front.length:=List.length_pos_iff.2 h0;unfold D1 at h;split at h
 ·rename_i hc;simp only[oI,pI2]at h;obtain⟨_,rfl,rfl⟩:=h;unfold muN;simp;omega
 ·split at h
  ·cases h
  ·rename_i hb;simp only[oI,pI2]at h;obtain⟨_,rfl,rfl⟩:=h;rcases Zhu (S2 c ls done front) front.length with⟨h1,_,_⟩|⟨h1,h2,h3⟩
   ·exact absurd h1 hb
   ·obtain⟨k1,k2,k3⟩:=Zns (c:=c) (ls:=ls) (done:=done) (front:=front) (i:=(X5 (S2 c ls done front) front.length).1) (by rw[h3]; exact h1)
    generalize (X5 (S2 c ls done front) front.length).1=a at *;generalize (X5 (S2 c ls done front) front.length).2=n at *;have hm:front.getD a 0∈front:=by
     rw[List.getD,gE h2];exact List.getElem_mem _
    have h9:=Z80 (Znk (hf _ hm)) (by simp only[isX,k1]; rfl) k2
    unfold muN;generalize Z4 (fun o=>isX o && !(done++[(ldN ls (front.getD a 0)).i]).contains o.i) ls=c1 at *
    generalize Z4 (fun o=>isX o && !done.contains o.i) ls=c2 at *
    rw[List.length_append,List.length_append,Zj7,List.length_take,List.length_drop];omega
end Go.Known
end
section
namespace Go.Known
open Go Go.AE Go.Proofs
open Go.Plain
theorem Z78(a b:Lt):Zca [.int,.int,.int,.int,.int,.bool] (rowL a) (rowL b)=some (decide (a=b)):=by
 obtain⟨a1,a2,a3,a4,a5,a6⟩:=a;obtain⟨b1,b2,b3,b4,b5,b6⟩:=b;simp only[rowL,Zca,C3,if_true,Lt.mk.injEq];by_cases h1:a1=b1
 ·by_cases h2:a2=b2
  ·by_cases h3:a3=b3
   ·by_cases h4:a4=b4
    ·by_cases h5:a5=b5
     ·by_cases h6:a6=b6
      ·simp[h1,h2,h3,h4,h5,h6]
      ·simp[h1,h2,h3,h4,h5,h6,beq_false_of_ne h6]
     ·simp[h1,h2,h3,h4,h5,beq_false_of_ne h5]
    ·simp[h1,h2,h3,h4,beq_false_of_ne h4]
   ·simp[h1,h2,h3,beq_false_of_ne h3]
  ·simp[h1,h2,beq_false_of_ne h2]
 ·simp[h1,beq_false_of_ne h1]
theorem Z2d(a b:Lt):X6 .eql (.flat [.int,.int,.int,.int,.int,.bool]) (.agg (rowL a)) (.agg (rowL b))=some (.bool (decide (a=b))):=by
 simp only[X6,eqA,Z78]
set_option maxHeartbeats 4000000 in
theorem c170(a b:Lt):PCall Tryz.prog 172 [.agg (rowL a),.agg (rowL b)] (.bool (ltL a b)):=by
 refine Zbb hm Tryz.func172 Zyo rfl rfl (by simp[Y0,AVal.closed,rowL]) trivial fun K hK=>?_
 unfold ltL at hK;by_cases h1:a.k=b.k
 rotate_left
 ·simp only[h1,ne_eq,not_false_eq_true,if_true]at hK;simp[rowL,h1];exact Y1 hK [] (by simp)
 by_cases h2:a.g=b.g
 rotate_left
 ·simp only[h1,h2,ne_eq,not_false_eq_true,not_true_eq_false,if_true,if_false]at hK;simp[rowL,h1,h2];exact Y1 hK [] (by simp)
 by_cases h3:a.r=b.r
 rotate_left
 ·simp only[h1,h2,h3,ne_eq,not_false_eq_true,not_true_eq_false,if_true,if_false]at hK;simp[rowL,h1,h2,h3];exact Y1 hK [] (by simp)
 by_cases h4:a.i=b.i
 rotate_left
 ·simp only[h1,h2,h3,h4,ne_eq,not_false_eq_true,not_true_eq_false,if_true,if_false]at hK;simp[rowL,h1,h2,h3,h4];exact Y1 hK [] (by simp)
 by_cases h5:a.o=b.o
 rotate_left
 ·simp only[h1,h2,h3,h4,h5,ne_eq,not_false_eq_true,not_true_eq_false,if_true,if_false]at hK;simp[rowL,h1,h2,h3,h4,h5,beq_false_of_ne h5];exact Y1 hK [] (by simp)
 simp only[h1,h2,h3,h4,h5,ne_eq,not_false_eq_true,not_true_eq_false,if_true,if_false]at hK;simp[rowL,h1,h2,h3,h4,h5];exact Y1 hK [] (by simp)
theorem C6(ls:List Lt){i:Nat}(h:i<ls.length):(ls.map rowL)[i]? = some (rowL (at' ls i)):=by
 rw[List.getElem?_map,gE h,at',List.getD,gE h];rfl
set_option maxRecDepth 100000 in
set_option maxHeartbeats 4000000 in
theorem c141(a b:List Lt)(h:a.length≤b.length)(hb:b.length≤1000):PCall Tryz.prog 121 [.imm (a.map rowL),.imm (b.map rowL)] (.bool (J4 a b)):=by
 refine Zbb hm Tryz.func121 Zyg rfl rfl (by simp[Y0,AVal.closed,Z9]) trivial fun K hK=>?_
 have hra:∀ q,Z3 q (a.map rowL)=a.map rowL:=fun q=>Y6 q _ (Z9 a)
 have hrb:∀ q,Z3 q (b.map rowL)=b.map rowL:=fun q=>Y6 q _ (Z9 b)
 have hla:(a.map rowL).length=a.length:=List.length_map ..;have hlb:(b.map rowL).length=b.length:=List.length_map ..;have hga:=fun i hi=>C6 a (i:=i) hi
 have hgb:=fun i hi=>C6 b (i:=i) hi
 generalize a.map rowL=A at *;generalize b.map rowL=B at *;simp;refine T1 (α:=Nat) (fun i=>[(8,.int .i64 i),(7,.int .i64 a.length),(1,.imm B),(0,.imm A)]) (fun _=>⟨[],1⟩) (fun i=>a.length - i) (fun i=>i≤a.length∧J4 (a.drop i) (b.drop i)=J4 a b) 0 [] (by simp[hra,hrb,hla]) (by simp) ?_
 rintro i ⟨hi,hI⟩ N hN
 try simp only at hi hN ⊢
 by_cases hlt:i<a.length
 ·have ga:=hga i hlt;have gb:=hgb i (by omega)
  obtain⟨_,ga2⟩:=Y9 ga;obtain⟨_,gb2⟩:=Y9 gb;have hw:IntKind.i64.wrap ((i:Int)+1)=(i:Int)+1:=Z6 (by omega) (by omega)
  have he:=Z2d (at' a i) (at' b i);have h170:=c170 (at' a i) (at' b i);have l6a:(rowL (at' a i)).length=6:=rfl;have l6b:(rowL (at' b i)).length=6:=rfl;have t6a:(rowL (at' a i)).take 6=rowL (at' a i):=rfl;have t6b:(rowL (at' b i)).take 6=rowL (at' b i):=rfl;by_cases hab:at' a i=at' b i
  ·have hN':=hN (i+1) [];rw[hab]at he;rw[decide_eq_true rfl]at he;have hs:=Yb6 hlt (by omega:i<b.length) hab
   rw[hs]at hI;rw[hab]at ga ga2;generalize rowL (at' b i)=rb at *;simp[hlt,ga,gb,ga2,gb2,hw,l6b,t6b,he];exact hN' _ _ (by omega) ⟨by omega,hI⟩ (by simp[hra,hrb])
  ·rw[decide_eq_false hab]at he;rw[Ybb hlt (by omega) hab]at hI
   rw[← hI]at hK;generalize rowL (at' a i)=ra at *;generalize rowL (at' b i)=rb at *;simp[hlt,ga,gb,ga2,gb2,hw,l6a,l6b,t6a,t6b,he];refine B8 h170 ?_;simp;exact Y1 hK [] (by simp)
 ·rw[Z01 (by omega)]at hI
  rw[← hI]at hK;simp[hlt];exact Y1 hK [] (by simp)
end Go.Known
end
section
namespace Go.Known
open Go Go.AE Go.Proofs
open Go.Plain
set_option maxHeartbeats 4000000 in
theorem c56g(ls:List Lt)(a:Nat)(ha:a<ls.length)(hl:ls.length≤1000):PCall Tryz.prog 71 [.imm (ls.map rowL),.int .i64 a] (.imm ((V5 a ls).map rowL)):=by
 refine J9 hm 4 Tryz.func71 cf56 rfl rfl (by simp[Y0,AVal.closed,Z9]) (by simp[AVal.closed,Z9]) fun K hK=>?_
 have hlR:((V5 a ls).map rowL).length=ls.length:=by rw[List.length_map,B1]
 have hKv:=hK (.sl 1 0 ls.length) ⟨[(1,.cells 6 ((V5 a ls).map rowL))],2⟩ (by
  have:=Zhp (n:=3) (get:=SMem.get ⟨[(1,.cells 6 ((V5 a ls).map rowL))],2⟩) (b:=1) (k:=6) (rows:=(V5 a ls).map rowL) (by simp) (Zf9 _)
  rw[hlR]at this;exact this)
 clear hK;have hrr:∀ q,Z3 q ((V5 a ls).map rowL)=(V5 a ls).map rowL:=fun q=>Y6 q _ (Z9 _)
 have hrD:∀ q,Z3 q ((ls.map rowL).drop a)=(ls.map rowL).drop a:=fun q=>by rw[← List.map_drop]; exact Y6 q _ (Z9 _)
 have hrs:∀ q,Z3 q (ls.map rowL)=ls.map rowL:=fun q=>Y6 q _ (Z9 _)
 have e0:(V5 a ls).map rowL=(ls.map rowL).drop a++(ls.map rowL).take a:=by unfold V5; rw[List.map_append,List.map_drop,List.map_take]
 rw[e0]at hKv hrr;have h6:=Zfy ls;have h6d:(((ls.map rowL).drop a).all fun x=>x.length == 6)=true:=by rw[← List.map_drop]; exact Zfy _
 have h6t:(((ls.map rowL).take a).all fun x=>x.length == 6)=true:=by rw[← List.map_take]; exact Zfy _
 have hlen:(ls.map rowL).length=ls.length:=List.length_map ..;have hdn:¬(ls.map rowL).drop a=[]:=by
  intro e;have:=congrArg List.length e;simp at this;omega
 have hdl:((ls.map rowL).drop a).length=ls.length - a:=by simp
 have htl:((ls.map rowL).take a).length=a:=by simp; omega
 generalize ls.map rowL=rows at *;have b1:a≤ls.length:=by omega
 have b2:ls.length - a≤1048576:=by omega
 have b3:¬(ls.length - a=0):=by omega
 have b4:ls.length - a+a=ls.length:=by omega
 have b5:ls.length≤1048576:=by omega
 have hrt:rows.take ls.length=rows:=List.take_of_length_le (by omega)
 generalize hD:rows.drop a=D at *;generalize hT:rows.take a=T at *;rcases Nat.eq_zero_or_pos a with h0|h0
 ·subst h0;have hT0:T=[]:=List.length_eq_zero_iff.1 htl;subst hT0;have hD0:D=rows:=by rw[← hD]; rfl
  subst hD0;have hdr:D.drop ls.length=[]:=List.drop_eq_nil_of_le (by omega)
  simp[hlen,Zi7,h6,hdn,b5,P7,hrt,hdr];simp at hKv;exact Y1 hKv [(1,5)] (by simp[hrs])
 ·have b6:¬ls.length≤ls.length - a:=by omega
  have b7:¬ls.length - a+a≤ls.length - a:=by omega
  have hDt:D.take (ls.length - a)=D:=List.take_of_length_le (by omega)
  simp[hlen,Zi7,h6,h6d,h6t,hdn,b1,b2,b5,P7,hrt,hD,hT,hdl,htl,b4,b6,b7,hDt];exact Y1 hKv [(1,9)] (by simp[hrr])
def mpE:Nat→List Int→List (AVal×AVal×Nat)
 | _,[]=>[]
 | j,x :: r=>(.int .i64 x,.int .i64 (j+1:Nat),j) :: mpE (j+1) r
theorem Zr9:∀ (j:Nat) (E:List Int),(mpE j E).length=E.length
 | _,[]=>rfl
 | j,x :: r=>by simp only[mpE,List.length_cons,Zr9 (j+1) r]
theorem Zl2(q:Nat→Nat):∀ (j:Nat) (E:List Int),F6 q (mpE j E)=mpE j E
 | _,[]=>rfl
 | j,x :: r=>by
  have:=Zl2 q (j+1) r;simp only[F6,mpE,List.map_cons,AVal.ren]at *;rw[this]
theorem Zoo(id:Int):∀ (j:Nat) (E:List Int),J5 .int (.int .i64 id) (mpE j E)=some (if W5 id E=0 then none else some (W5 id E - 1,.int .i64 (j+W5 id E:Nat),j+(W5 id E - 1)))
 | _,[]=>rfl
 | j,x :: r=>by
  simp only[mpE,J5,C3,if_true,W5];by_cases h:id=x
  ·subst h; simp
  ·have hb:(id == x)=false:=by simpa using h
   simp only[hb,if_neg h];rw[Zoo id (j+1) r];by_cases h0:W5 id r=0
   ·simp[h0]
   ·have e:j+1+W5 id r=j+(W5 id r+1):=by omega
    have e2:W5 id r - 1+1=W5 id r:=by omega
    have e3:j+1+(W5 id r - 1)=j+W5 id r:=by omega
    simp[h0,e,e2,e3]
theorem Zye(x:Int):∀ (j:Nat) (E:List Int),mpE j E++[(.int .i64 x,.int .i64 (j+E.length+1:Nat),j+E.length)]=mpE j (E++[x])
 | _,[]=>rfl
 | j,y :: r=>by
  simp only[mpE,List.cons_append,List.length_cons];have:=Zye x (j+1) r;rw[show j+1+r.length=j+(r.length+1) by omega]at this
  rw[this]
def K9(ns ls:List Lt)(i:Nat):List Lt:=ns.take i++ls.drop i
theorem Z38(ns ls:List Lt):K9 ns ls 0=ls:=by simp[K9]
theorem Ye0{ns ls:List Lt}(h:ns.length=ls.length):K9 ns ls ls.length=ns:=by simp[K9,← h]
theorem Z6x{ns ls:List Lt}(h:ns.length=ls.length)(i:Nat):(K9 ns ls i).length=ls.length:=by simp[K9]; omega
theorem Zve{ns ls:List Lt}(h:ns.length=ls.length){i:Nat}(hi:i<ls.length):((K9 ns ls i).map rowL)[i]? = some (rowL (at' ls i)):=by
 unfold K9;rw[List.getElem?_map,List.getElem?_append_right (by simp; omega),List.length_take,Nat.min_eq_left (by omega),Nat.sub_self,List.getElem?_drop,Nat.add_zero,gE hi,at',List.getD,gE hi]
 rfl
theorem Ztr{ns ls:List Lt}(h:ns.length=ls.length){i:Nat}(hi:i<ls.length):((K9 ns ls i).map rowL).set i (rowL (at' ns i))=(K9 ns ls (i+1)).map rowL:=by
 have e:ls.drop i=at' ls i :: ls.drop (i+1):=by
  rw[List.drop_eq_getElem_cons hi,at',List.getD,gE hi];rfl
 have hi':i<ns.length:=by omega
 have e2:ns.take (i+1)=ns.take i++[at' ns i]:=by
  rw[List.take_add_one,gE hi',at',List.getD,gE hi'];rfl
 unfold K9;rw[e,e2,List.map_append,List.map_append,List.set_append_right _ _ (by simp; omega)]
 simp only[List.map_append,List.map_cons,List.map_nil,List.length_map,List.length_take,Nat.min_eq_left (Nat.le_of_lt hi'),Nat.sub_self,List.set_cons_zero,List.append_assoc,List.cons_append,List.nil_append]
theorem Z6c{ns ls:List Lt}(h:ns.length=ls.length){i:Nat}(hi:i<ls.length)(hg:at' ns i=at' ls i):(K9 ns ls (i+1)).map rowL=(K9 ns ls i).map rowL:=by
 rw[← Ztr h hi,hg];have h:=Zve h hi;generalize (K9 ns ls i).map rowL=M at *;obtain⟨hl,h2⟩:=Y9 h;rw[← h2,List.set_getElem_self]
set_option maxRecDepth 100000 in
set_option maxHeartbeats 8000000 in
theorem c140(ls:List Lt)(h0:ls≠[])(h:ls.length≤1000):PCall Tryz.prog 120 [.imm (ls.map rowL)] (.imm ((O0 ls).map rowL)):=by
 refine J9 hm 4 Tryz.func120 Zt7 rfl rfl (by simp[Y0,AVal.closed,Z9]) (by simp[AVal.closed,Z9]) fun K hK=>?_
 have hnl:=Zj1 ls;have hKv:=hK (.sl 1 0 ls.length) ⟨[(1,.cells 6 ((O0 ls).map rowL))],2⟩ (by
  have:=Zhp (n:=3) (get:=SMem.get ⟨[(1,.cells 6 ((O0 ls).map rowL))],2⟩) (b:=1) (k:=6) (rows:=(O0 ls).map rowL) (by simp) (Zf9 _)
  rw[List.length_map,hnl]at this;exact this)
 clear hK;have hlp:0<ls.length:=List.length_pos_iff.2 h0;have h31:=c31s (ls.map rowL) (by simpa using h0) (by simpa using h) (Zfy ls) (Z9 ls)
 have hMg:=fun i hi=>Zve hnl (i:=i) hi
 have hMs:=fun i hi=>Ztr hnl (i:=i) hi
 have hMe:=fun i hi hg=>Z6c hnl (i:=i) hi hg
 have hMl:∀ i,((K9 (O0 ls) ls i).map rowL).length=ls.length:=fun i=>by rw[List.length_map,Z6x hnl]
 have hMc:∀ i q,Z3 q ((K9 (O0 ls) ls i).map rowL)=(K9 (O0 ls) ls i).map rowL:=fun i q=>Y6 q _ (Z9 _)
 have hM0:(K9 (O0 ls) ls 0).map rowL=ls.map rowL:=by rw[Z38]
 have hMn:(K9 (O0 ls) ls ls.length).map rowL=(O0 ls).map rowL:=by rw[Ye0 hnl]
 rw[← hMn]at hKv;have hlen:(ls.map rowL).length=ls.length:=List.length_map ..;have hrr:∀ q,Z3 q (ls.map rowL)=ls.map rowL:=fun q=>Y6 q _ (Z9 ls)
 obtain⟨M,hM⟩:∃ M:Nat→List (List AVal),(fun i=>(K9 (O0 ls) ls i).map rowL)=M:=⟨_,rfl⟩
 have hMi:∀ i,(K9 (O0 ls) ls i).map rowL=M i:=fun i=>by rw[← hM]
 simp only[hMi]at hMg hMs hMe hMl hMc hM0 hMn hKv;clear hM hMi;generalize ls.map rowL=rows at *;simp;refine U6 h31 [] (by simp[hrr]) (by simp) (by simp) ?_
 rintro r sm ⟨rfl,rfl⟩;simp[hrr,hlen];refine T1 (α:=Nat) (fun i=>[(12,.int .i64 i),(11,.int .i64 ls.length),(10,.sl 2 0 ls.length),(4,.sl 2 0 ls.length),(3,.map 1)])
  (fun i=>⟨[(2,.cells 6 (M i)),(1,.map (mpE 0 (W7 ls i)) (W7 ls i).length)],3⟩) (fun i=>ls.length - i) (fun i=>i≤ls.length) 0 [(1,2),(2,7)] (by simp[hrr,hM0,W7,mpE,F6]) (by simp) ?_
 intro i hi N hN
 try simp only at hi hN ⊢
 by_cases hlt:i<ls.length
 ·have hg:=hMg i hlt;obtain⟨hgl,hg2⟩:=Y9 hg;have hset:=hMs i hlt;have hw:IntKind.i64.wrap ((i:Int)+1)=(i:Int)+1:=Z6 (by omega) (by omega)
  have hlM:=hMl i;have hms:=Zke hlt;have hgn:=Zvv hlt;have hml:=Z3z ls i;rw[hgn]at hset;by_cases hk:(at' ls i).k=2
  ·have hfi:=Zoo (at' ls i).i 0 (W7 ls i);by_cases hx:W5 (at' ls i).i (W7 ls i)=0
   ·have hm1:Q6 (W7 ls i) (at' ls i)=W7 ls i++[(at' ls i).i]:=by unfold Q6; rw[if_pos ⟨hk,hx⟩]
    have hnw:=Zps hx;have hre:renS (W7 ls i) (at' ls i)={ at' ls i with i:=((W7 ls i).length+1:Nat) }:=by unfold renS; rw[if_pos hk,hm1,hnw]
    have hfi2:=Zoo (at' ls i).i 0 (W7 ls i++[(at' ls i).i]);have hsn:=Zye (at' ls i).i 0 (W7 ls i);rw[hnw,if_neg (by omega)]at hfi2
    rw[if_pos hx]at hfi;rw[hm1]at hms;rw[hre]at hset;rw[← hms]at hfi2 hsn;have hmle:(W7 ls (i+1)).length=(W7 ls i).length+1:=by rw[hms]; simp
    have hN':=hN (i+1);rw[hmle]at hN';have hmpl:=Zr9 0 (W7 ls i);have hwm:IntKind.i64.wrap (((W7 ls i).length:Int)+1)=((W7 ls i).length:Int)+1:=Z6 (by omega) (by omega)
    have hrm:=fun q=>Zl2 q 0 (W7 ls (i+1))
    generalize mpE 0 (W7 ls (i+1))=E1 at *;generalize mpE 0 (W7 ls i)=E0 at *;generalize (W7 ls i).length=ml at *;simp only[rowL,hk]at hset;simp[hlt,hg,hg2,hlM,rowL,hk,hw,hfi,hmpl,hwm];simp at hsn hfi2 hset;rw[hsn];simp[hfi2,hlt,hg,hg2,hlM,rowL,hk,hw];exact hN' [] _ _ (by omega) (by omega) (by simp[hrr,hMc,hset,hrm])
   ·have hm1:Q6 (W7 ls i) (at' ls i)=W7 ls i:=by unfold Q6; rw[if_neg (fun e=>hx e.2)]
    have hre:renS (W7 ls i) (at' ls i)={ at' ls i with i:=(W5 (at' ls i).i (W7 ls i):Nat) }:=by unfold renS; rw[if_pos hk,hm1]
    rw[if_neg hx]at hfi;rw[hm1]at hms;rw[hre]at hset;have hN':=hN (i+1);rw[hms]at hN';have hrm:=fun q=>Zl2 q 0 (W7 ls i)
    generalize mpE 0 (W7 ls i)=E0 at *;generalize W5 (at' ls i).i (W7 ls i)=jx at *;have hx':¬(jx:Int)=0:=by omega
    simp only[rowL,hk]at hset;simp at hfi hset;simp[hlt,hg,hg2,hlM,rowL,hk,hw,hfi,hx,hx'];exact hN' [] _ _ (by omega) (by omega) (by simp[hrr,hMc,hset,hrm])
  ·have hm1:Q6 (W7 ls i) (at' ls i)=W7 ls i:=by unfold Q6; rw[if_neg (fun e=>hk e.1)]
   have hre:renS (W7 ls i) (at' ls i)=at' ls i:=by unfold renS; rw[if_neg hk]
   rw[hm1]at hms;have hsame:=hMe i hlt (by rw[hgn,hre])
   have hN':=hN (i+1);rw[hms,hsame]at hN';have hrm:=fun q=>Zl2 q 0 (W7 ls i)
   generalize mpE 0 (W7 ls i)=E0 at *;simp[hlt,hg,hg2,hlM,rowL,hk,hw];exact hN' [] _ _ (by omega) (by omega) (by simp[hrr,hMc,hrm])
 ·have hie:i=ls.length:=by omega
  subst hie;simp[hlt];exact Y1 hKv [(1,2)] (by simp[hrr,hMc])
end Go.Known
end
section
namespace Go.Known
open Go Go.AE Go.Proofs
open Go.Plain
theorem Zq1{Q:List Lt}{i k:Nat}{x:Lt}(hi:i<Q.length):at' (Q.set i x) k=if k=i then x else at' Q k:=by
 unfold at';rw[List.getD_eq_getElem?_getD,List.getD_eq_getElem?_getD,List.getElem?_set];by_cases h:i=k
 ·subst h; simp[hi]
 ·rw[if_neg h,if_neg (fun e=>h e.symm)]
theorem Zgr{ls:List Lt}{k:Nat}(hk:k<ls.length):at' ls.reverse k=at' ls (ls.length - 1 - k):=by
 unfold at';rw[List.getD_eq_getElem?_getD,List.getD_eq_getElem?_getD,List.getElem?_reverse hk]
theorem Zhf{a b:List Lt}(hl:a.length=b.length)(h:∀ k,k<a.length→at' a k=at' b k):a=b:=by
 refine List.ext_getElem hl fun k h1 h2=>?_
 have:=h k h1;simpa[at',List.getD,h1,h2]using this
theorem Zwa(Q:List Lt)(i:Nat)(x:Lt):(Q.map rowL).set i (rowL x)=(Q.set i x).map rowL:=(List.map_set).symm
set_option maxHeartbeats 4000000 in
theorem c169(ls:List Lt)(hl:ls.length≤1000) :
 Ctr Tryz.prog 117 [.sl 1 0 ls.length] ⟨[(1,.cells 6 (ls.map rowL))],2⟩ fun v m=>v=.tuple []∧m=⟨[(1,.cells 6 (ls.reverse.map rowL))],2⟩:=by
 refine J7 hm Tryz.func117 Zoq rfl rfl fun K hK=>?_
 have hw1:IntKind.i64.wrap ((ls.length:Int) - 1)=(ls.length:Int) - 1:=Z6 (by omega) (by omega)
 have hKv:=hK _ _ ⟨rfl,rfl⟩;clear hK;have hrr:∀ (Q:List Lt) q,Z3 q (Q.map rowL)=Q.map rowL:=fun Q q=>Y6 q _ (Z9 Q)
 obtain⟨n,hn⟩:∃ n,ls.length=n:=⟨_,rfl⟩
 rw[hn]at hw1 hl ⊢;simp[hw1];refine T1 (α:=Nat×List Lt) (fun a=>[(3,.int .i64 ((n:Int) - 1 - (a.1:Nat))),(2,.int .i64 a.1),(0,.sl 1 0 n)]) (fun a=>⟨[(1,.cells 6 (a.2.map rowL))],2⟩) (fun a=>n - a.1)
  (fun a=>a.1≤n∧a.2.length=n ∧ ∀ k,k<n→at' a.2 k=if k<a.1∨n - 1 - a.1<k∧0<a.1 then at' ls (n - 1 - k)else at' ls k) (0,ls) [] (by simp[hrr]) ⟨by simp,hn,by simp⟩ ?_
 rintro⟨i,Q⟩ ⟨hi,hQ,hI⟩ N hN;simp only at hi hQ hI hN ⊢;by_cases hlt:(i:Int)<(n:Int) - 1 - i
 ·have hj:((n:Int) - 1 - i).toNat=n - 1 - i:=by omega
  have hj0:(i:Int)≤(n:Int) - 1:=by omega
  obtain⟨j,hj2⟩:∃ j,n - 1 - i=j:=⟨_,rfl⟩
  rw[hj2]at hj;have hil:i<n:=by omega
  have hjl:j<n:=by omega
  have hij:¬i=j:=by omega
  have hpg:=C6 Q (i:=i) (by omega)
  have hqg:=C6 Q (i:=j) (by omega)
  obtain⟨hpl,hpg2⟩:=Y9 hpg;obtain⟨hql,hqg2⟩:=Y9 hqg;have hw2:IntKind.i64.wrap ((i:Int)+1)=(i:Int)+1:=Z6 (by omega) (by omega)
  have hw3:IntKind.i64.wrap ((n:Int) - 1 - i - 1)=(n:Int) - 1 - (i+1):=by rw[Z6 (by omega) (by omega)]; omega
  have hs:=C6 (Q.set i (at' Q j)) (i:=j) (by simp; omega)
  rw[Zq1 (by omega),if_neg (fun e=>hij e.symm)]at hs
  have hset1:=Zwa Q i (at' Q j);have hset2:=Zwa (Q.set i (at' Q j)) j (at' Q i);rw[← hset1]at hs hset2;have hQl:(Q.map rowL).length=n:=by rw[List.length_map,hQ]
  have hN':=hN (i+1,(Q.set i (at' Q j)).set j (at' Q i)) [];simp only at hN';rw[← hset2]at hN';have hrq:=hrr ((Q.set i (at' Q j)).set j (at' Q i));rw[← hset2]at hrq;have hfin:∀ k,k<n→at' ((Q.set i (at' Q j)).set j (at' Q i)) k=if k<i+1∨n - 1 - (i+1)<k∧0<i+1 then at' ls (n - 1 - k)else at' ls k:=by
   intro k hk;rw[Zq1 (by simp; omega),Zq1 (by omega)]
   by_cases h1:k=j
   ·subst h1;rw[if_pos rfl,if_pos (by omega),hI i (by omega),if_neg (by omega)]
    congr 1
    omega
   ·rw[if_neg h1];by_cases h2:k=i
    ·subst h2;rw[if_pos rfl,if_pos (by omega),hI j (by omega),if_neg (by omega)]
     congr 1
     omega
    ·rw[if_neg h2,hI k hk];by_cases h3:k<i∨n - 1 - i<k∧0<i
     ·rw[if_pos h3,if_pos (by omega)]
     ·rw[if_neg h3,if_neg (by omega)]
  have hQs:((Q.set i (at' Q j)).set j (at' Q i)).length=n:=by simp[hQ]
  generalize (Q.set i (at' Q j)).set j (at' Q i)=Q2 at *;clear hset1 hset2;generalize Q.map rowL=M at *;simp only[rowL]at hs hpg hqg hpg2 hqg2 hN' hrq;generalize at' Q i=a at *;generalize at' Q j=b at *;obtain⟨hsl,hs2⟩:=Y9 hs;simp[hlt,hj,hj0,hil,hjl,hpg,hpg2,hqg,hqg2,hw2,hw3,hs,hs2,hQl];exact hN' _ _ (by omega) ⟨by omega,hQs,hfin⟩ (by simp[hrq])
 ·have hQr:Q=ls.reverse:=by
   refine Zhf (by simp[hQ,hn]) fun k hk=>?_
   rw[hQ]at hk;rw[Zgr (by omega),hn,hI k hk]
   split
   ·rfl
   ·congr 1
    omega
  rw[← hQr]at hKv;simp[hlt];exact Y1 hKv [] (by simp[hrr])
theorem c56a(R:List (List AVal))(a:Nat)(ha:a<R.length)(hl:R.length≤1000)(hc:X8 R=true) :
 Ctr Tryz.prog 71 [.sl 1 0 R.length,.int .i64 a] ⟨[(1,.cells 6 R)],2⟩ fun v m=>v=.sl 2 0 R.length∧m=⟨[(1,.cells 6 R),(2,.cells 6 (R.drop a++R.take a))],3⟩:=by
 rcases Nat.eq_zero_or_pos a with h0|h0
 rotate_left
 ·exact c56s R a h0 ha hl hc
 subst h0;refine J7 hm Tryz.func71 cf56 rfl rfl fun K hK=>?_
 have hr:∀ q,Z3 q R=R:=fun q=>Y6 q _ hc
 have hK':=hK _ _ ⟨rfl,rfl⟩;clear hK;have e1:R.length≤1048576:=by omega
 have e2:¬(R.length=0):=by omega
 have e3:¬R=[]:=by intro e; subst e; simp at e2
 simp[Zj8,e1,e2,e3,P7];simp at hK';exact Y1 hK' [(2,6)] (by simp[hr])
set_option maxRecDepth 100000 in
set_option maxHeartbeats 8000000 in
theorem c139(F:Nat)(ls:List Lt)(E:List Ent)(h:ls.length≤1000)(hx:∃ i,i<ls.length∧bkC ls i=true) :
 Ctr Tryz.prog 72 [.ptr 1 0 0] (dF F ls (ls.map rowL) E) fun v m=>v=.sl 8 0 ls.length∧m=⟨(dF F ls (ls.map rowL) E).bl++[(8,.cells 6 ((U4 ls).map rowL))],9⟩:=by
 refine J7 hm Tryz.func72 Zo0 rfl rfl fun K hK=>?_
 have hK':=hK _ _ ⟨rfl,rfl⟩;clear hK;have hlp:0<ls.length:=by obtain⟨i,hi,_⟩:=hx; omega
 have h0:ls≠[]:=List.length_pos_iff.1 hlp;have h31:=c31s (ls.map rowL) (by simpa using h0) (by simpa using h) (Zfy ls) (Z9 ls)
 have h169:=c169 ls h;have hrl:(ls.reverse.map rowL).length=ls.length:=by simp
 have h56:=fun a (ha:a<ls.length)=>c56a (ls.reverse.map rowL) a (by rw[hrl]; exact ha) (by rw[hrl]; exact h) (Z9 _)
 have hrot:∀ a,(ls.reverse.map rowL).drop a++(ls.reverse.map rowL).take a=(V5 a ls.reverse).map rowL:=fun a=>by unfold V5; rw[List.map_append,List.map_drop,List.map_take]
 rw[hrl]at h56;have hbk:=fun i hi hp hn=>Zqs (ls:=ls) (i:=i) hi hp hn
 have hBc:∀ q,Z3 q ((U4 ls).map rowL)=(U4 ls).map rowL:=fun q=>Y6 q _ (Z9 _)
 have hrr:∀ q,Z3 q (ls.map rowL)=ls.map rowL:=fun q=>Y6 q _ (Z9 ls)
 have hrv:∀ q,Z3 q (ls.reverse.map rowL)=ls.reverse.map rowL:=fun q=>Y6 q _ (Z9 _)
 have hlen:(ls.map rowL).length=ls.length:=List.length_map ..;have hRg:=fun i hi=>C6 ls.reverse (i:=i) hi
 simp only[List.length_reverse]at hRg;unfold dF dM dV2 at *;generalize ls.map rowL=rows at *;generalize ls.reverse.map rowL=rev at *;have hBg:∀ v,v<ls.length→(bls (X2 ls.length ls.length (V0 ls) false))[v]? = some [.bool (V0 ls v)]:=fun v hv=>Zeg (by rw[Za7 hv,if_pos hv])
 have hBl:(bls (X2 ls.length ls.length (V0 ls) false)).length=ls.length:=by rw[bls,List.length_map,Zat]
 generalize hBe:bls (X2 ls.length ls.length (V0 ls) false)=B at *;generalize hCe:Z0 (X2 ls.length ls.length (S6 ls) 0)=C at *;generalize hAe:Z0 (Z2 ls)=A at *;have hrA:∀ q,Z3 q A=A:=fun q=>by rw[← hAe]; exact Z5 q _
 have hrB:∀ q,Z3 q B=B:=fun q=>by rw[← hBe]; exact X7 q _
 have hrC:∀ q,Z3 q C=C:=fun q=>by rw[← hCe]; exact Z5 q _
 clear hBe hCe hAe;generalize (Z2 ls).length=m at *;have hw0:IntKind.i64.wrap ((ls.length:Int) - 1)=(ls.length:Int) - 1:=Z6 (by omega) (by omega)
 simp;refine U6 h31 [] (by simp[hrr]) (by simp) (by simp) ?_
 rintro r sm ⟨rfl,rfl⟩;simp[hrr,hlen];refine U6 h169 [(1,15)] (by simp) (by simp[hrr]) (by simp) ?_
 rintro r sm ⟨rfl,rfl⟩;simp[hrr,hrv,hlen];refine T1 (α:=Nat) (fun i=>[(16,.int .i64 i),(15,.int .i64 ls.length),(3,.sl 7 0 ls.length),(0,.ptr 1 0 0)])
  (fun i=>⟨[(1,.cells 7 [[.int .i64 (F:Int),.imm rows,.sl 3 0 ls.length,.sl 5 0 m,.sl 4 0 ls.length,.map 6,.sl 2 0 (F+1)]]),(2,.cells 1 (Z0 (S7 F ls))),(3,.cells 1 B),(4,.cells 1 C),(5,.cells 1 A),(6,.map (mkE 0 E) E.length),(7,.cells 6 rev)],8⟩)
  (fun i=>ls.length - i) (fun i=>i≤ls.length ∧ ∀ j,j<i→bkC ls j=false) 0 [(7,15)] (by simp[hrr,hrA,hrB,hrC,Z7,Z5,hrv]) (by simp) ?_
 rintro i ⟨hi,hI⟩ N hN
 try simp only at hi hI hN ⊢
 by_cases hlt:i<ls.length
 ·have hg:=hRg i hlt;obtain⟨hgl,hg2⟩:=Y9 hg;have hw:IntKind.i64.wrap ((i:Int)+1)=(i:Int)+1:=Z6 (by omega) (by omega)
  obtain⟨j,hj⟩:∃ j,ls.length - 1 - i=j:=⟨_,rfl⟩
  have hjl:j<ls.length:=by omega
  have hwj:IntKind.i64.wrap ((ls.length:Int) - 1 - (i:Int))=(j:Int):=by rw[Z6 (by omega) (by omega)]; omega
  have hb:=hBg j hjl;obtain⟨hbl,hb2⟩:=Y9 hb;have hkr:=Zgr hlt;rw[hj]at hkr;have hbd:bkC ls i=(isP (at' ls.reverse i) && !down ls j):=by unfold bkC; rw[hj]
  have hN':=hN (i+1) [];by_cases hk:(at' ls.reverse i).k=1
  ·have hP:isP (at' ls.reverse i)=true:=by simp[isP,hk]
   have hdv:V0 ls j=down ls j:=by unfold V0; rw[← hkr,hP]; rfl
   rw[hdv]at hb hb2;rw[hP]at hbd;cases hd:down ls j with
   | true=>
    rw[hd]at hb hb2 hbd;simp at hbd;simp[hlt,hg,hg2,rowL,hk,hw,hw0,hwj,hb,hb2,hBl,hjl];exact hN' _ _ (by omega) ⟨by omega,fun k hk2=>by
     rcases Nat.lt_succ_iff_lt_or_eq.1 hk2 with h1|h1
     ·exact hI k h1
     ·rw[h1]; exact hbd⟩ (by simp[hrr,hrA,hrB,hrC,Z7,Z5,hrv])
   | false=>
    rw[hd]at hb hb2 hbd;simp at hbd;have hbk':=hbk i hlt hbd hI;have h56':=h56 i hlt;rw[hrot,← hbk']at h56';simp[hlt,hg,hg2,rowL,hk,hw,hw0,hwj,hb,hb2,hBl,hjl];refine U6 h56' [(1,7)] (by simp) (by simp[hrv]) (by simp) ?_
    rintro r sm ⟨rfl,rfl⟩;simp[hrr,hrA,hrB,hrC,Z7,Z5,hrv,hBc];exact Y1 hK' [(8,37)] (by simp[hrr,hrA,hrB,hrC,Z7,Z5,hrv,hBc])
  ·have hP:isP (at' ls.reverse i)=false:=by simp[isP,hk]
   rw[hP]at hbd;simp at hbd;simp[hlt,hg,hg2,rowL,hk,hw,hw0,hwj,hjl];exact hN' _ _ (by omega) ⟨by omega,fun k hk2=>by
    rcases Nat.lt_succ_iff_lt_or_eq.1 hk2 with h1|h1
    ·exact hI k h1
    ·rw[h1]; exact hbd⟩ (by simp[hrr,hrA,hrB,hrC,Z7,Z5,hrv])
 ·obtain⟨k,hk1,hk2⟩:=hx;rw[hI k (by omega)]at hk2
  cases hk2
theorem Zsd(F:Nat)(ls:List Lt)(E:List Ent)(h:ls.length≤1000)(hx:∃ i,i<ls.length∧bkC ls i=true) :
 Ctr Tryz.prog 72 [.ptr 1 0 0] (dF F ls (ls.map rowL) E) fun v m=>v=.imm ((U4 ls).map rowL)∧m=⟨(dF F ls (ls.map rowL) E).bl,9⟩:=by
 refine(c139 F ls E h hx).freeze fun r sm=>?_
 rintro⟨rfl,rfl⟩;refine⟨[8],?_,?_⟩
 ·exact Zjj (k:=6) rfl (by simp[dF,dM,dV2]) (by rw[List.length_map,Zhe]) (Zf9 _)
 ·simp[dF,dM,dV2]
theorem ValR.bk{f:Int}{ls:List Lt}(h:ValR f ls)(h0:ls≠[]):∃ i,i<ls.length∧bkC ls i=true:=by
 have hw:=h.wv h0;obtain⟨i,i1,i2,i3⟩:=Zk6 hw.pas h.evn;refine⟨ls.length - 1 - i,by omega,?_⟩
 have e:ls.length - 1 - (ls.length - 1 - i)=i:=by omega
 unfold bkC;rw[Zgr (by omega),e,i2,i3]
 rfl
end Go.Known
end
