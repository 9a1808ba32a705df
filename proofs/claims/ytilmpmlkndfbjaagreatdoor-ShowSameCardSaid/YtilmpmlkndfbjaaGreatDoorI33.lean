/- Part 33 of the proof: Sf, Sg, Sh, Ya. -/
import Derived.Test.YtilmpmlkndfbjaaGreatDoorI30
import Derived.Test.YtilmpmlkndfbjaaGreatDoorI31
import Derived.Test.YtilmpmlkndfbjaaGreatDoorI32
set_option linter.all false
section
namespace Go.Known
open Go Go.AE Go.Proofs
open Go.Plain
theorem Zuj(a b:Lt):Zb3 [.int,.int,.int,.int,.int,.bool] (rowL a) (rowL b)=some (decide (a=b)):=by
 obtain⟨i,j,k,l,m,n⟩:=a;obtain⟨o,p,q,r,s,t⟩:=b;simp only[rowL,Zb3,C2,if_true,Lt.mk.injEq];by_cases c:i=o
 ·by_cases d:j=p
  ·by_cases e:k=q
   ·by_cases f:l=r
    ·by_cases g:m=s
     ·by_cases h:n=t
      ·simp[c,d,e,f,g,h]
      ·simp[c,d,e,f,g,h,beq_false_of_ne h]
     ·simp[c,d,e,f,g,beq_false_of_ne g]
    ·simp[c,d,e,f,beq_false_of_ne f]
   ·simp[c,d,e,beq_false_of_ne e]
  ·simp[c,d,beq_false_of_ne d]
 ·simp[c,beq_false_of_ne c]
theorem Z6e(a b:Lt):X7 .eql (.flat [.int,.int,.int,.int,.int,.bool]) (.agg (rowL a)) (.agg (rowL b))=some (.bool (decide (a=b))):=by
 simp only[X7,eqA,Zuj]
theorem Ycn(a b:Lt):X7 .neq (.flat [.int,.int,.int,.int,.int,.bool]) (.agg (rowL a)) (.agg (rowL b))=some (.bool (!decide (a=b))):=by
 simp only[X7,eqA,Zuj]
set_option maxHeartbeats 4000000 in
theorem c170(a b:Lt):PCall Tryz.prog 146 [.agg (rowL a),.agg (rowL b)] (.bool (ltL a b)):=by
 refine Zbg hm Tryz.func146 Zu4 rfl rfl (by simp[Y7,AVal.closed,rowL]) trivial fun K c=>?_
 unfold ltL at c;by_cases d:a.k=b.k
 rotate_left
 ·simp only[d,ne_eq,not_false_eq_true,if_true]at c;simp[rowL,d];exact Y1 c [] (by simp)
 by_cases e:a.g=b.g
 rotate_left
 ·simp only[d,e,ne_eq,not_false_eq_true,not_true_eq_false,if_true,if_false]at c;simp[rowL,d,e];exact Y1 c [] (by simp)
 by_cases h:a.r=b.r
 rotate_left
 ·simp only[d,e,h,ne_eq,not_false_eq_true,not_true_eq_false,if_true,if_false]at c;simp[rowL,d,e,h];exact Y1 c [] (by simp)
 by_cases j:a.i=b.i
 rotate_left
 ·simp only[d,e,h,j,ne_eq,not_false_eq_true,not_true_eq_false,if_true,if_false]at c;simp[rowL,d,e,h,j];exact Y1 c [] (by simp)
 by_cases l:a.o=b.o
 rotate_left
 ·simp only[d,e,h,j,l,ne_eq,not_false_eq_true,not_true_eq_false,if_true,if_false]at c;simp[rowL,d,e,h,j,l,beq_false_of_ne l];exact Y1 c [] (by simp)
 simp only[d,e,h,j,l,ne_eq,not_false_eq_true,not_true_eq_false,if_true,if_false]at c;simp[rowL,d,e,h,j,l];exact Y1 c [] (by simp)
theorem C0(ls:List Lt){i:Nat}(h:i<ls.length):(ls.map rowL)[i]? = some (rowL (at' ls i)):=by
 rw[List.getElem?_map,gE h,at',List.getD,gE h];rfl
set_option maxRecDepth 100000 in
set_option maxHeartbeats 4000000 in
theorem c141(a b:List Lt)(h:a.length≤b.length)(I:b.length≤1000):PCall Tryz.prog 114 [.imm (a.map rowL),.imm (b.map rowL)] (.bool (H5 a b)):=by
 refine Zbg hm Tryz.func114 Zyv rfl rfl (by simp[Y7,AVal.closed,Y5]) trivial fun K s=>?_
 have m:∀ q,Z4 q (a.map rowL)=a.map rowL:=fun q=>X1 q _ (Y5 a)
 have n:∀ q,Z4 q (b.map rowL)=b.map rowL:=fun q=>X1 q _ (Y5 b)
 have y:(a.map rowL).length=a.length:=List.length_map ..;have F:(b.map rowL).length=b.length:=List.length_map ..;have v:=fun i hi=>C0 a (i:=i) hi
 have w:=fun i hi=>C0 b (i:=i) hi
 generalize a.map rowL=A at *;generalize b.map rowL=B at *;simp;refine Q7 (α:=Nat) (fun i=>[(8,.int .i64 i),(7,.int .i64 a.length),(1,.imm B),(0,.imm A)]) (fun _=>⟨[],1⟩) (fun i=>a.length - i) (fun i=>i≤a.length∧H5 (a.drop i) (b.drop i)=H5 a b) 0 [] (by simp[m,n,y]) (by simp) ?_
 rintro i ⟨hi,g⟩ N D
 try simp only at hi D ⊢
 by_cases c:i<a.length
 ·have r:=v i c;have t:=w i (by omega)
  obtain⟨_,e⟩:=X5 r;obtain⟨_,j⟩:=X5 t;have E:IntKind.i64.wrap ((i:Int)+1)=(i:Int)+1:=Z5 (by omega) (by omega)
  have l:=Z6e (at' a i) (at' b i);have k:=c170 (at' a i) (at' b i);have z:(rowL (at' a i)).length=6:=rfl;have o:(rowL (at' b i)).length=6:=rfl;have C:(rowL (at' a i)).take 6=rowL (at' a i):=rfl;have p:(rowL (at' b i)).take 6=rowL (at' b i):=rfl;by_cases d:at' a i=at' b i
  ·have u:=D (i+1) [];rw[d]at l;rw[decide_eq_true rfl]at l;have G:=Z5q c (by omega:i<b.length) d
   rw[G]at g;rw[d]at r e;generalize rowL (at' b i)=H at *;simp[c,r,t,e,j,E,o,p,l];exact u _ _ (by omega) ⟨by omega,g⟩ (by simp[m,n])
  ·rw[decide_eq_false d]at l;rw[Yay c (by omega) d]at g
   rw[← g]at s;generalize rowL (at' a i)=J at *;generalize rowL (at' b i)=H at *;simp[c,r,t,e,j,E,z,o,C,p,l];refine Zal k ?_;simp;exact Y1 s [] (by simp)
 ·rw[Yf1 (by omega)]at g
  rw[← g]at s;simp[c];exact Y1 s [] (by simp)
theorem Ya3{a b:List Lt}{i:Nat}(c:i<a.length)(d:i<b.length)(h:at' a i=at' b i):(a.drop i=b.drop i)=(a.drop (i+1)=b.drop (i+1)):=by
 rw[List.drop_eq_getElem_cons c,List.drop_eq_getElem_cons d];have e:a[i]=b[i]:=by simpa[at',List.getD,c,d]using h
 rw[e];simp only[List.cons.injEq,true_and]
theorem Yba{a b:List Lt}{i:Nat}(c:i<a.length)(d:i<b.length)(h:at' a i≠at' b i):¬a.drop i=b.drop i:=by
 rw[List.drop_eq_getElem_cons c,List.drop_eq_getElem_cons d];have f:at' a i=a[i]:=by simp[at',List.getD,c]
 have g:at' b i=b[i]:=by simp[at',List.getD,d]
 rw[f,g]at h;intro e;injection e with e3 _
 exact h e3
set_option maxRecDepth 100000 in
set_option maxHeartbeats 4000000 in
theorem c65(a b:List Lt)(M:a.length≤1000)(O:b.length≤1000):PCall Tryz.prog 37 [.imm (a.map rowL),.imm (b.map rowL)] (.bool (decide (a=b))):=by
 refine Zbg hm Tryz.func37 cf65 rfl rfl (by simp[Y7,AVal.closed,Y5]) trivial fun K k=>?_
 have o:∀ q,Z4 q (a.map rowL)=a.map rowL:=fun q=>X1 q _ (Y5 a)
 have p:∀ q,Z4 q (b.map rowL)=b.map rowL:=fun q=>X1 q _ (Y5 b)
 have h:(a.map rowL).length=a.length:=List.length_map ..;have n:(b.map rowL).length=b.length:=List.length_map ..;have C:=fun i hi=>C0 a (i:=i) hi
 have D:=fun i hi=>C0 b (i:=i) hi
 generalize a.map rowL=A at *;generalize b.map rowL=B at *;by_cases w:a.length=b.length
 rotate_left
 ·have j:¬a=b:=fun e=>w (by rw[e])
  rw[decide_eq_false j]at k;have E:¬(a.length:Int)=(b.length:Int):=by omega
  simp[h,n,w,E];exact Y1 k [] (by simp)
 simp[h,n,w];refine Q7 (α:=Nat) (fun i=>[(13,.int .i64 i),(12,.int .i64 a.length),(1,.imm B),(0,.imm A)]) (fun _=>⟨[],1⟩) (fun i=>a.length - i) (fun i=>i≤a.length∧(a.drop i=b.drop i)=(a=b)) 0 [] (by simp[o,p,h,w]) (by simp) ?_
 rintro i ⟨hi,v⟩ N H
 try simp only at hi H ⊢
 by_cases c:i<a.length
 ·have u:=C i c;have y:=D i (by omega)
  obtain⟨_,g⟩:=X5 u;obtain⟨_,l⟩:=X5 y;have I:IntKind.i64.wrap ((i:Int)+1)=(i:Int)+1:=Z5 (by omega) (by omega)
  have m:=Ycn (at' a i) (at' b i);have F:(rowL (at' a i)).length=6:=rfl;have s:(rowL (at' b i)).length=6:=rfl;have G:(rowL (at' a i)).take 6=rowL (at' a i):=rfl;have t:(rowL (at' b i)).take 6=rowL (at' b i):=rfl;by_cases d:at' a i=at' b i
  ·have z:=H (i+1) [];rw[d]at m;rw[decide_eq_true rfl]at m;rw[Ya3 c (by omega) d]at v
   rw[d]at u g;generalize rowL (at' b i)=L at *;simp[c,u,y,g,l,I,s,t,m];exact z _ _ (by omega) ⟨by omega,v⟩ (by simp[o,p])
  ·rw[decide_eq_false d]at m;have j:¬a=b:=by
    rw[← v];exact Yba c (by omega) d
   rw[decide_eq_false j]at k;generalize rowL (at' a i)=P at *;generalize rowL (at' b i)=L at *;simp[c,u,y,g,l,I,F,s,G,t,m];exact Y1 k [] (by simp)
 ·have J:i=a.length:=by omega
  have r:a=b:=by
   rw[← v,List.drop_eq_nil_of_le (by omega),List.drop_eq_nil_of_le (by omega)]
  rw[decide_eq_true r]at k;simp[c];exact Y1 k [] (by simp)
end Go.Known
end
section
namespace Go.Known
open Go Go.AE Go.Proofs
open Go.Plain
set_option maxHeartbeats 4000000 in
theorem c56g(ls:List Lt)(a:Nat)(N:a<ls.length)(O:ls.length≤1000):PCall Tryz.prog 68 [.imm (ls.map rowL),.int .i64 a] (.imm ((W6 a ls).map rowL)):=by
 refine Zaa hm 4 Tryz.func68 cf56 rfl rfl (by simp[Y7,AVal.closed,Y5]) (by simp[AVal.closed,Y5]) fun K B=>?_
 have u:((W6 a ls).map rowL).length=ls.length:=by rw[List.length_map,D1]
 have c:=B (.sl 1 0 ls.length) ⟨[(1,.cells 6 ((W6 a ls).map rowL))],2⟩ (by
  have:=Zjs (n:=3) (get:=SMem.get ⟨[(1,.cells 6 ((W6 a ls).map rowL))],2⟩) (b:=1) (k:=6) (rows:=(W6 a ls).map rowL) (by simp) (Zhl _)
  rw[u]at this;exact this)
 clear B;have h:∀ q,Z4 q ((W6 a ls).map rowL)=(W6 a ls).map rowL:=fun q=>X1 q _ (Y5 _)
 have L:∀ q,Z4 q ((ls.map rowL).drop a)=(ls.map rowL).drop a:=fun q=>by rw[← List.map_drop]; exact X1 q _ (Y5 _)
 have v:∀ q,Z4 q (ls.map rowL)=ls.map rowL:=fun q=>X1 q _ (Y5 _)
 have I:(W6 a ls).map rowL=(ls.map rowL).drop a++(ls.map rowL).take a:=by unfold W6; rw[List.map_append,List.map_drop,List.map_take]
 rw[I]at c h;have z:=Zh7 ls;have l:(((ls.map rowL).drop a).all fun x=>x.length == 6)=true:=by rw[← List.map_drop]; exact Zh7 _
 have m:(((ls.map rowL).take a).all fun x=>x.length == 6)=true:=by rw[← List.map_take]; exact Zh7 _
 have d:(ls.map rowL).length=ls.length:=List.length_map ..;have g:¬(ls.map rowL).drop a=[]:=by
  intro e;have:=congrArg List.length e;simp at this;omega
 have s:((ls.map rowL).drop a).length=ls.length - a:=by simp
 have j:((ls.map rowL).take a).length=a:=by simp; omega
 generalize ls.map rowL=rows at *;have C:a≤ls.length:=by omega
 have E:ls.length - a≤1048576:=by omega
 have M:¬(ls.length - a=0):=by omega
 have F:ls.length - a+a=ls.length:=by omega
 have w:ls.length≤1048576:=by omega
 have i:rows.take ls.length=rows:=List.take_of_length_le (by omega)
 generalize A:rows.drop a=D at *;generalize J:rows.take a=T at *;rcases Nat.eq_zero_or_pos a with y|y
 ·subst y;have r:T=[]:=List.length_eq_zero_iff.1 j;subst r;have o:D=rows:=by rw[← A]; rfl
  subst o;have t:D.drop ls.length=[]:=List.drop_eq_nil_of_le (by omega)
  simp[d,Zi8,z,g,w,O6,i,t];simp at c;exact Y1 c [(1,5)] (by simp[v])
 ·have G:¬ls.length≤ls.length - a:=by omega
  have H:¬ls.length - a+a≤ls.length - a:=by omega
  have p:D.take (ls.length - a)=D:=List.take_of_length_le (by omega)
  simp[d,Zi8,z,l,m,g,C,E,w,O6,i,A,J,s,j,F,G,H,p];exact Y1 c [(1,9)] (by simp[h])
def mpE:Nat→List Int→List (AVal×AVal×Nat)
 | _,[]=>[]
 | j,x :: r=>(.int .i64 x,.int .i64 (j+1:Nat),j) :: mpE (j+1) r
theorem Zyg:∀ (j:Nat) (E:List Int),(mpE j E).length=E.length
 | _,[]=>rfl
 | j,x :: r=>by simp only[mpE,List.length_cons,Zyg (j+1) r]
theorem Znj(q:Nat→Nat):∀ (j:Nat) (E:List Int),G8 q (mpE j E)=mpE j E
 | _,[]=>rfl
 | j,x :: r=>by
  have:=Znj q (j+1) r;simp only[G8,mpE,List.map_cons,AVal.ren]at *;rw[this]
theorem Zoq(id:Int):∀ (j:Nat) (E:List Int),H4 .int (.int .i64 id) (mpE j E)=some (if W5 id E=0 then none else some (W5 id E - 1,.int .i64 (j+W5 id E:Nat),j+(W5 id E - 1)))
 | _,[]=>rfl
 | j,x :: r=>by
  simp only[mpE,H4,C2,if_true,W5];by_cases h:id=x
  ·subst h; simp
  ·have d:(id == x)=false:=by simpa using h
   simp only[d,if_neg h];rw[Zoq id (j+1) r];by_cases a:W5 id r=0
   ·simp[a]
   ·have e:j+1+W5 id r=j+(W5 id r+1):=by omega
    have b:W5 id r - 1+1=W5 id r:=by omega
    have c:j+1+(W5 id r - 1)=j+W5 id r:=by omega
    simp[a,e,b,c]
theorem Z1i(x:Int):∀ (j:Nat) (E:List Int),mpE j E++[(.int .i64 x,.int .i64 (j+E.length+1:Nat),j+E.length)]=mpE j (E++[x])
 | _,[]=>rfl
 | j,y :: r=>by
  simp only[mpE,List.cons_append,List.length_cons];have:=Z1i x (j+1) r;rw[show j+1+r.length=j+(r.length+1) by omega]at this
  rw[this]
def J7(ns ls:List Lt)(i:Nat):List Lt:=ns.take i++ls.drop i
theorem Z2m(a ls:List Lt):J7 a ls 0=ls:=by simp[J7]
theorem Ygi{a ls:List Lt}(h:a.length=ls.length):J7 a ls ls.length=a:=by simp[J7,← h]
theorem Z6w{a ls:List Lt}(h:a.length=ls.length)(i:Nat):(J7 a ls i).length=ls.length:=by simp[J7]; omega
theorem Zww{a ls:List Lt}(h:a.length=ls.length){i:Nat}(hi:i<ls.length):((J7 a ls i).map rowL)[i]? = some (rowL (at' ls i)):=by
 unfold J7;rw[List.getElem?_map,List.getElem?_append_right (by simp; omega),List.length_take,Nat.min_eq_left (by omega),Nat.sub_self,List.getElem?_drop,Nat.add_zero,gE hi,at',List.getD,gE hi]
 rfl
theorem Zuv{a ls:List Lt}(h:a.length=ls.length){i:Nat}(hi:i<ls.length):((J7 a ls i).map rowL).set i (rowL (at' a i))=(J7 a ls (i+1)).map rowL:=by
 have e:ls.drop i=at' ls i :: ls.drop (i+1):=by
  rw[List.drop_eq_getElem_cons hi,at',List.getD,gE hi];rfl
 have b:i<a.length:=by omega
 have c:a.take (i+1)=a.take i++[at' a i]:=by
  rw[List.take_add_one,gE b,at',List.getD,gE b];rfl
 unfold J7;rw[e,c,List.map_append,List.map_append,List.set_append_right _ _ (by simp; omega)]
 simp only[List.map_append,List.map_cons,List.map_nil,List.length_map,List.length_take,Nat.min_eq_left (Nat.le_of_lt b),Nat.sub_self,List.set_cons_zero,List.append_assoc,List.cons_append,List.nil_append]
theorem Yb0{a ls:List Lt}(h:a.length=ls.length){i:Nat}(hi:i<ls.length)(c:at' a i=at' ls i):(J7 a ls (i+1)).map rowL=(J7 a ls i).map rowL:=by
 rw[← Zuv h hi,c];have h:=Zww h hi;generalize (J7 a ls i).map rowL=M at *;obtain⟨d,b⟩:=X5 h;rw[← b,List.set_getElem_self]
set_option maxRecDepth 100000 in
set_option maxHeartbeats 8000000 in
theorem c140(ls:List Lt)(h0:ls≠[])(h:ls.length≤1000):PCall Tryz.prog 113 [.imm (ls.map rowL)] (.imm ((P1 ls).map rowL)):=by
 refine Zaa hm 4 Tryz.func113 Zx5 rfl rfl (by simp[Y7,AVal.closed,Y5]) (by simp[AVal.closed,Y5]) fun K hK=>?_
 have o:=Zkw ls;have z:=hK (.sl 1 0 ls.length) ⟨[(1,.cells 6 ((P1 ls).map rowL))],2⟩ (by
  have:=Zjs (n:=3) (get:=SMem.get ⟨[(1,.cells 6 ((P1 ls).map rowL))],2⟩) (b:=1) (k:=6) (rows:=(P1 ls).map rowL) (by simp) (Zhl _)
  rw[List.length_map,o]at this;exact this)
 clear hK;have ad:0<ls.length:=List.length_pos_iff.2 h0;have Y:=c31s (ls.map rowL) (by simpa using h0) (by simpa using h) (Zh7 ls) (Y5 ls)
 have G:=fun i hi=>Zww o (i:=i) hi
 have L:=fun i hi=>Zuv o (i:=i) hi
 have F:=fun i hi A=>Yb0 o (i:=i) hi A
 have I:∀ i,((J7 (P1 ls) ls i).map rowL).length=ls.length:=fun i=>by rw[List.length_map,Z6w o]
 have p:∀ i q,Z4 q ((J7 (P1 ls) ls i).map rowL)=(J7 (P1 ls) ls i).map rowL:=fun i q=>X1 q _ (Y5 _)
 have E:(J7 (P1 ls) ls 0).map rowL=ls.map rowL:=by rw[Z2m]
 have J:(J7 (P1 ls) ls ls.length).map rowL=(P1 ls).map rowL:=by rw[Ygi o]
 rw[← J]at z;have P:(ls.map rowL).length=ls.length:=List.length_map ..;have l:∀ q,Z4 q (ls.map rowL)=ls.map rowL:=fun q=>X1 q _ (Y5 ls)
 obtain⟨M,hM⟩:∃ M:Nat→List (List AVal),(fun i=>(J7 (P1 ls) ls i).map rowL)=M:=⟨_,rfl⟩
 have H:∀ i,(J7 (P1 ls) ls i).map rowL=M i:=fun i=>by rw[← hM]
 simp only[H]at G L F I p E J z;clear hM H;generalize ls.map rowL=rows at *;simp;refine U9 Y [] (by simp[l]) (by simp) (by simp) ?_
 rintro r sm ⟨rfl,rfl⟩;simp[l,P];refine Q7 (α:=Nat) (fun i=>[(12,.int .i64 i),(11,.int .i64 ls.length),(10,.sl 2 0 ls.length),(4,.sl 2 0 ls.length),(3,.map 1)])
  (fun i=>⟨[(2,.cells 6 (M i)),(1,.map (mpE 0 (W8 ls i)) (W8 ls i).length)],3⟩) (fun i=>ls.length - i) (fun i=>i≤ls.length) 0 [(1,2),(2,7)] (by simp[l,E,W8,mpE,G8]) (by simp) ?_
 intro i hi N V
 try simp only at hi V ⊢
 by_cases c:i<ls.length
 ·have A:=G i c;obtain⟨ac,w⟩:=X5 A;have a:=L i c;have X:IntKind.i64.wrap ((i:Int)+1)=(i:Int)+1:=Z5 (by omega) (by omega)
  have y:=I i;have j:=Zld c;have O:=Z1b c;have ae:=Z4a ls i;rw[O]at a;by_cases t:(at' ls i).k=2
  ·have s:=Zoq (at' ls i).i 0 (W8 ls i);by_cases D:W5 (at' ls i).i (W8 ls i)=0
   ·have g:P2 (W8 ls i) (at' ls i)=W8 ls i++[(at' ls i).i]:=by unfold P2; rw[if_pos ⟨t,D⟩]
    have U:=Zs3 D;have u:renS (W8 ls i) (at' ls i)={ at' ls i with i:=((W8 ls i).length+1:Nat) }:=by unfold renS; rw[if_pos t,g,U]
    have m:=Zoq (at' ls i).i 0 (W8 ls i++[(at' ls i).i]);have C:=Z1i (at' ls i).i 0 (W8 ls i);rw[U,if_neg (by omega)]at m
    rw[if_pos D]at s;rw[g]at j;rw[u]at a;rw[← j]at m C;have Q:(W8 ls (i+1)).length=(W8 ls i).length+1:=by rw[j]; simp
    have d:=V (i+1);rw[Q]at d;have S:=Zyg 0 (W8 ls i);have aa:IntKind.i64.wrap (((W8 ls i).length:Int)+1)=((W8 ls i).length:Int)+1:=Z5 (by omega) (by omega)
    have v:=fun q=>Znj q 0 (W8 ls (i+1))
    generalize mpE 0 (W8 ls (i+1))=E1 at *;generalize mpE 0 (W8 ls i)=E0 at *;generalize (W8 ls i).length=ml at *;simp only[rowL,t]at a;simp[c,A,w,y,rowL,t,X,s,S,aa];simp at C m a;rw[C];simp[m,c,A,w,y,rowL,t,X];exact d [] _ _ (by omega) (by omega) (by simp[l,p,a,v])
   ·have g:P2 (W8 ls i) (at' ls i)=W8 ls i:=by unfold P2; rw[if_neg (fun e=>D e.2)]
    have u:renS (W8 ls i) (at' ls i)={ at' ls i with i:=(W5 (at' ls i).i (W8 ls i):Nat) }:=by unfold renS; rw[if_pos t,g]
    rw[if_neg D]at s;rw[g]at j;rw[u]at a;have d:=V (i+1);rw[j]at d;have v:=fun q=>Znj q 0 (W8 ls i)
    generalize mpE 0 (W8 ls i)=E0 at *;generalize W5 (at' ls i).i (W8 ls i)=jx at *;have ab:¬(jx:Int)=0:=by omega
    simp only[rowL,t]at a;simp at s a;simp[c,A,w,y,rowL,t,X,s,D,ab];exact d [] _ _ (by omega) (by omega) (by simp[l,p,a,v])
  ·have g:P2 (W8 ls i) (at' ls i)=W8 ls i:=by unfold P2; rw[if_neg (fun e=>t e.1)]
   have u:renS (W8 ls i) (at' ls i)=at' ls i:=by unfold renS; rw[if_neg t]
   rw[g]at j;have B:=F i c (by rw[O,u])
   have d:=V (i+1);rw[j,B]at d;have v:=fun q=>Znj q 0 (W8 ls i)
   generalize mpE 0 (W8 ls i)=E0 at *;simp[c,A,w,y,rowL,t,X];exact d [] _ _ (by omega) (by omega) (by simp[l,p,v])
 ·have Z:i=ls.length:=by omega
  subst Z;simp[c];exact Y1 z [(1,2)] (by simp[l,p])
end Go.Known
end
section
namespace Go.Known
open Go Go.AE Go.Proofs
open Go.Plain
theorem Zr8{Q:List Lt}{i k:Nat}{x:Lt}(hi:i<Q.length):at' (Q.set i x) k=if k=i then x else at' Q k:=by
 unfold at';rw[List.getD_eq_getElem?_getD,List.getD_eq_getElem?_getD,List.getElem?_set];by_cases h:i=k
 ·subst h; simp[hi]
 ·rw[if_neg h,if_neg (fun e=>h e.symm)]
theorem Zgl{ls:List Lt}{k:Nat}(a:k<ls.length):at' ls.reverse k=at' ls (ls.length - 1 - k):=by
 unfold at';rw[List.getD_eq_getElem?_getD,List.getD_eq_getElem?_getD,List.getElem?_reverse a]
theorem Zgn{a b:List Lt}(e:a.length=b.length)(h:∀ k,k<a.length→at' a k=at' b k):a=b:=by
 refine List.ext_getElem e fun k c d=>?_
 have:=h k c;simpa[at',List.getD,c,d]using this
theorem Zvz(Q:List Lt)(i:Nat)(x:Lt):(Q.map rowL).set i (rowL x)=(Q.set i x).map rowL:=(List.map_set).symm
set_option maxHeartbeats 4000000 in
theorem c169(ls:List Lt)(hl:ls.length≤1000) :
 Ctr Tryz.prog 145 [.sl 1 0 ls.length] ⟨[(1,.cells 6 (ls.map rowL))],2⟩ fun v m=>v=.tuple []∧m=⟨[(1,.cells 6 (ls.reverse.map rowL))],2⟩:=by
 refine E7 hm Tryz.func145 Zqo rfl rfl fun K Z=>?_
 have B:IntKind.i64.wrap ((ls.length:Int) - 1)=(ls.length:Int) - 1:=Z5 (by omega) (by omega)
 have u:=Z _ _ ⟨rfl,rfl⟩;clear Z;have s:∀ (Q:List Lt) q,Z4 q (Q.map rowL)=Q.map rowL:=fun Q q=>X1 q _ (Y5 Q)
 obtain⟨n,D⟩:∃ n,ls.length=n:=⟨_,rfl⟩
 rw[D]at B hl ⊢;simp[B];refine Q7 (α:=Nat×List Lt) (fun a=>[(3,.int .i64 ((n:Int) - 1 - (a.1:Nat))),(2,.int .i64 a.1),(0,.sl 1 0 n)]) (fun a=>⟨[(1,.cells 6 (a.2.map rowL))],2⟩) (fun a=>n - a.1)
  (fun a=>a.1≤n∧a.2.length=n ∧ ∀ k,k<n→at' a.2 k=if k<a.1∨n - 1 - a.1<k∧0<a.1 then at' ls (n - 1 - k)else at' ls k) (0,ls) [] (by simp[s]) ⟨by simp,D,by simp⟩ ?_
 rintro⟨i,Q⟩ ⟨hi,w,t⟩ N hN;simp only at hi w t hN ⊢;by_cases z:(i:Int)<(n:Int) - 1 - i
 ·have hj:((n:Int) - 1 - i).toNat=n - 1 - i:=by omega
  have J:(i:Int)≤(n:Int) - 1:=by omega
  obtain⟨j,L⟩:∃ j,n - 1 - i=j:=⟨_,rfl⟩
  rw[L]at hj;have I:i<n:=by omega
  have O:j<n:=by omega
  have H:¬i=j:=by omega
  have o:=C0 Q (i:=i) (by omega)
  have p:=C0 Q (i:=j) (by omega)
  obtain⟨aa,h⟩:=X5 o;obtain⟨ab,l⟩:=X5 p;have S:IntKind.i64.wrap ((i:Int)+1)=(i:Int)+1:=Z5 (by omega) (by omega)
  have U:IntKind.i64.wrap ((n:Int) - 1 - i - 1)=(n:Int) - 1 - (i+1):=by rw[Z5 (by omega) (by omega)]; omega
  have A:=C0 (Q.set i (at' Q j)) (i:=j) (by simp; omega)
  rw[Zr8 (by omega),if_neg (fun e=>H e.symm)]at A
  have d:=Zvz Q i (at' Q j);have c:=Zvz (Q.set i (at' Q j)) j (at' Q i);rw[← d]at A c;have E:(Q.map rowL).length=n:=by rw[List.length_map,w]
  have g:=hN (i+1,(Q.set i (at' Q j)).set j (at' Q i)) [];simp only at g;rw[← c]at g;have r:=s ((Q.set i (at' Q j)).set j (at' Q i));rw[← c]at r;have y:∀ k,k<n→at' ((Q.set i (at' Q j)).set j (at' Q i)) k=if k<i+1∨n - 1 - (i+1)<k∧0<i+1 then at' ls (n - 1 - k)else at' ls k:=by
   intro k C;rw[Zr8 (by simp; omega),Zr8 (by omega)]
   by_cases V:k=j
   ·subst V;rw[if_pos rfl,if_pos (by omega),t i (by omega),if_neg (by omega)]
    congr 1
    omega
   ·rw[if_neg V];by_cases X:k=i
    ·subst X;rw[if_pos rfl,if_pos (by omega),t j (by omega),if_neg (by omega)]
     congr 1
     omega
    ·rw[if_neg X,t k C];by_cases Y:k<i∨n - 1 - i<k∧0<i
     ·rw[if_pos Y,if_pos (by omega)]
     ·rw[if_neg Y,if_neg (by omega)]
  have G:((Q.set i (at' Q j)).set j (at' Q i)).length=n:=by simp[w]
  generalize (Q.set i (at' Q j)).set j (at' Q i)=Q2 at *;clear d c;generalize Q.map rowL=M at *;simp only[rowL]at A o p h l g r;generalize at' Q i=a at *;generalize at' Q j=b at *;obtain⟨ac,P⟩:=X5 A;simp[z,hj,J,I,O,o,h,p,l,S,U,A,P,E];exact g _ _ (by omega) ⟨by omega,G,y⟩ (by simp[r])
 ·have F:Q=ls.reverse:=by
   refine Zgn (by simp[w,D]) fun k C=>?_
   rw[w]at C;rw[Zgl (by omega),D,t k C]
   split
   ·rfl
   ·congr 1
    omega
  rw[← F]at u;simp[z];exact Y1 u [] (by simp[s])
theorem c56a(R:List (List AVal))(a:Nat)(k:a<R.length)(l:R.length≤1000)(h:V3 R=true) :
 Ctr Tryz.prog 68 [.sl 1 0 R.length,.int .i64 a] ⟨[(1,.cells 6 R)],2⟩ fun v m=>v=.sl 2 0 R.length∧m=⟨[(1,.cells 6 R),(2,.cells 6 (R.drop a++R.take a))],3⟩:=by
 rcases Nat.eq_zero_or_pos a with c|c
 rotate_left
 ·exact c56s R a c k l h
 subst c;refine E7 hm Tryz.func68 cf56 rfl rfl fun K g=>?_
 have n:∀ q,Z4 q R=R:=fun q=>X1 q _ h
 have b:=g _ _ ⟨rfl,rfl⟩;clear g;have i:R.length≤1048576:=by omega
 have d:¬(R.length=0):=by omega
 have j:¬R=[]:=by intro e; subst e; simp at d
 simp[Zkz,i,d,j,O6];simp at b;exact Y1 b [(2,6)] (by simp[n])
set_option maxRecDepth 100000 in
set_option maxHeartbeats 8000000 in
theorem c139(F:Nat)(ls:List Lt)(E:List Ent)(h:ls.length≤1000)(hx:∃ i,i<ls.length∧bkC ls i=true) :
 Ctr Tryz.prog 112 [.ptr 1 0 0] (dF F ls (ls.map rowL) E) fun v m=>v=.sl 8 0 ls.length∧m=⟨(dF F ls (ls.map rowL) E).bl++[(8,.cells 6 ((T5 ls).map rowL))],9⟩:=by
 refine E7 hm Tryz.func112 Zo9 rfl rfl fun K hK=>?_
 have ad:=hK _ _ ⟨rfl,rfl⟩;clear hK;have ag:0<ls.length:=by obtain⟨i,hi,_⟩:=hx; omega
 have h0:ls≠[]:=List.length_pos_iff.1 ag;have ab:=c31s (ls.map rowL) (by simpa using h0) (by simpa using h) (Zh7 ls) (Y5 ls)
 have I:=c169 ls h;have z:(ls.reverse.map rowL).length=ls.length:=by simp
 have J:=fun a (ha:a<ls.length)=>c56a (ls.reverse.map rowL) a (by rw[z]; exact ha) (by rw[z]; exact h) (Y5 _)
 have aa:∀ a,(ls.reverse.map rowL).drop a++(ls.reverse.map rowL).take a=(W6 a ls.reverse).map rowL:=fun a=>by unfold W6; rw[List.map_append,List.map_drop,List.map_take]
 rw[z]at J;have ae:=fun i hi hp hn=>Zsu (ls:=ls) (i:=i) hi hp hn
 have M:∀ q,Z4 q ((T5 ls).map rowL)=(T5 ls).map rowL:=fun q=>X1 q _ (Y5 _)
 have c:∀ q,Z4 q (ls.map rowL)=ls.map rowL:=fun q=>X1 q _ (Y5 ls)
 have e:∀ q,Z4 q (ls.reverse.map rowL)=ls.reverse.map rowL:=fun q=>X1 q _ (Y5 _)
 have u:(ls.map rowL).length=ls.length:=List.length_map ..;have V:=fun i hi=>C0 ls.reverse (i:=i) hi
 simp only[List.length_reverse]at V;unfold dF dM dV2 at *;generalize ls.map rowL=rows at *;generalize ls.reverse.map rowL=ah at *;have ac:∀ v,v<ls.length→(bls (X8 ls.length ls.length (V6 ls) false))[v]? = some [.bool (V6 ls v)]:=fun v hv=>Ze0 (by rw[Zbc hv,if_pos hv])
 have P:(bls (X8 ls.length ls.length (V6 ls) false)).length=ls.length:=by rw[bls,List.length_map,Zaw]
 generalize O:bls (X8 ls.length ls.length (V6 ls) false)=B at *;generalize Q:Z2 (X8 ls.length ls.length (R6 ls) 0)=C at *;generalize L:Z2 (Z1 ls)=A at *;have n:∀ q,Z4 q A=A:=fun q=>by rw[← L]; exact Z6 q _
 have o:∀ q,Z4 q B=B:=fun q=>by rw[← O]; exact W3 q _
 have p:∀ q,Z4 q C=C:=fun q=>by rw[← Q]; exact Z6 q _
 clear O Q L;generalize (Z1 ls).length=m at *;have D:IntKind.i64.wrap ((ls.length:Int) - 1)=(ls.length:Int) - 1:=Z5 (by omega) (by omega)
 simp;refine U9 ab [] (by simp[c]) (by simp) (by simp) ?_
 rintro r sm ⟨rfl,rfl⟩;simp[c,u];refine U9 I [(1,15)] (by simp) (by simp[c]) (by simp) ?_
 rintro r sm ⟨rfl,rfl⟩;simp[c,e,u];refine Q7 (α:=Nat) (fun i=>[(16,.int .i64 i),(15,.int .i64 ls.length),(3,.sl 7 0 ls.length),(0,.ptr 1 0 0)])
  (fun i=>⟨[(1,.cells 7 [[.int .i64 (F:Int),.imm rows,.sl 3 0 ls.length,.sl 5 0 m,.sl 4 0 ls.length,.map 6,.sl 2 0 (F+1)]]),(2,.cells 1 (Z2 (R5 F ls))),(3,.cells 1 B),(4,.cells 1 C),(5,.cells 1 A),(6,.map (mkE 0 E) E.length),(7,.cells 6 ah)],8⟩)
  (fun i=>ls.length - i) (fun i=>i≤ls.length ∧ ∀ j,j<i→bkC ls j=false) 0 [(7,15)] (by simp[c,n,o,p,Z8,Z6,e]) (by simp) ?_
 rintro i ⟨hi,S⟩ N hN
 try simp only at hi S hN ⊢
 by_cases d:i<ls.length
 ·have hg:=V i d;obtain⟨aj,y⟩:=X5 hg;have hw:IntKind.i64.wrap ((i:Int)+1)=(i:Int)+1:=Z5 (by omega) (by omega)
  obtain⟨j,hj⟩:∃ j,ls.length - 1 - i=j:=⟨_,rfl⟩
  have s:j<ls.length:=by omega
  have G:IntKind.i64.wrap ((ls.length:Int) - 1 - (i:Int))=(j:Int):=by rw[Z5 (by omega) (by omega)]; omega
  have H:=ac j s;obtain⟨ai,l⟩:=X5 H;have Z:=Zgl d;rw[hj]at Z;have b:bkC ls i=(isP (at' ls.reverse i) && !down ls j):=by unfold bkC; rw[hj]
  have U:=hN (i+1) [];by_cases Y:(at' ls.reverse i).k=1
  ·have hP:isP (at' ls.reverse i)=true:=by simp[isP,Y]
   have af:V6 ls j=down ls j:=by unfold V6; rw[← Z,hP]; rfl
   rw[af]at H l;rw[hP]at b;cases hd:down ls j with
   | true=>
    rw[hd]at H l b;simp at b;simp[d,hg,y,rowL,Y,hw,D,G,H,l,P,s];exact U _ _ (by omega) ⟨by omega,fun k g=>by
     rcases Nat.lt_succ_iff_lt_or_eq.1 g with w|w
     ·exact S k w
     ·rw[w]; exact b⟩ (by simp[c,n,o,p,Z8,Z6,e])
   | false=>
    rw[hd]at H l b;simp at b;have X:=ae i d b S;have t:=J i d;rw[aa,← X]at t;simp[d,hg,y,rowL,Y,hw,D,G,H,l,P,s];refine U9 t [(1,7)] (by simp) (by simp[e]) (by simp) ?_
    rintro r sm ⟨rfl,rfl⟩;simp[c,n,o,p,Z8,Z6,e,M];exact Y1 ad [(8,37)] (by simp[c,n,o,p,Z8,Z6,e,M])
  ·have hP:isP (at' ls.reverse i)=false:=by simp[isP,Y]
   rw[hP]at b;simp at b;simp[d,hg,y,rowL,Y,hw,D,G,s];exact U _ _ (by omega) ⟨by omega,fun k g=>by
    rcases Nat.lt_succ_iff_lt_or_eq.1 g with w|w
    ·exact S k w
    ·rw[w]; exact b⟩ (by simp[c,n,o,p,Z8,Z6,e])
 ·obtain⟨k,ak,g⟩:=hx;rw[S k (by omega)]at g
  cases g
theorem Z26(F:Nat)(ls:List Lt)(E:List Ent)(h:ls.length≤1000)(a:∃ i,i<ls.length∧bkC ls i=true) :
 Ctr Tryz.prog 112 [.ptr 1 0 0] (dF F ls (ls.map rowL) E) fun v m=>v=.imm ((T5 ls).map rowL)∧m=⟨(dF F ls (ls.map rowL) E).bl,9⟩:=by
 refine(c139 F ls E h a).freeze fun r b=>?_
 rintro⟨rfl,rfl⟩;refine⟨[8],?_,?_⟩
 ·exact Zly (k:=6) rfl (by simp[dF,dM,dV2]) (by rw[List.length_map,Zfq]) (Zhl _)
 ·simp[dF,dM,dV2]
theorem ValR.bk{f:Int}{ls:List Lt}(h:ValR f ls)(a:ls≠[]):∃ i,i<ls.length∧bkC ls i=true:=by
 have b:=h.wv a;obtain⟨i,g,c,d⟩:=Zif b.pas h.evn;refine⟨ls.length - 1 - i,by omega,?_⟩
 have e:ls.length - 1 - (ls.length - 1 - i)=i:=by omega
 unfold bkC;rw[Zgl (by omega),e,c,d]
 rfl
end Go.Known
end
section
namespace Go.Known
open Go.Plain
def upN(ls:List Lt)(i:Nat):Nat:=Y0 ls.length i (!down ls i)
def bkN(d:Nat):Nat:=if d % 2=0 then d+1 else d - 1
def tnN(ls:List Lt)(d:Nat):Nat:=Y4 ls (Z1 ls) d
def ldN(ls:List Lt)(d:Nat):Lt:=at' ls (W1 ls.length d)
def crN(ls:List Lt)(done:List Int)(d:Nat):Int:=if (ldN ls d).k=2∧(ldN ls d).i∉done then (ldN ls d).i else 0
def okF(ls:List Lt)(id:Int)(front:List Nat)(j:Nat):Bool:=
 decide ((ldN ls (front.getD j 0)).k=2)&&decide ((ldN ls (front.getD j 0)).i=id)&&decide (tnN ls (front.getD j 0)=bkN (front.getD (j - 1) 0))
def H2(ls:List Lt)(id:Int)(front:List Nat)(j:Nat):Nat:=
 if h:j<front.length∧okF ls id front j=true then 1+H2 ls id front (j+1)else 0
termination_by front.length - j
decreasing_by omega
theorem Zgb{ls:List Lt}{id:Int}{front:List Nat}{j:Nat}(h:j<front.length)(a:okF ls id front j=true):H2 ls id front j=1+H2 ls id front (j+1):=by
 rw[H2,dif_pos ⟨h,a⟩]
theorem Zap{ls:List Lt}{id:Int}{front:List Nat}{j:Nat}(h:¬(j<front.length∧okF ls id front j=true)):H2 ls id front j=0:=by
 rw[H2,dif_neg h]
theorem Ydy(ls:List Lt)(id:Int)(front:List Nat):∀ k j,front.length - j=k→H2 ls id front j≤front.length - j:=by
 intro k
 induction k with
 | zero=>intro j a; rw[Zap (fun h=>by omega)]; omega
 | succ k b=>
  intro j a;by_cases h:j<front.length∧okF ls id front j=true
  ·rw[Zgb h.1 h.2];have:=b (j+1) (by omega)
   omega
  ·rw[Zap h]; omega
def U5(c:Nat)(ls:List Lt)(done:List Int)(front:List Nat)(i:Nat):Nat:=
 if crN ls done (front.getD i 0)=0 then 0 else min c (1+H2 ls (crN ls done (front.getD i 0)) front (i+1))
def X3(run:Nat→Nat):Nat→Nat×Nat
 | 0=>(0,0)
 | k+1=>if (X3 run k).2<run k then (k,run k)else X3 run k
def J2(p:Nat→Bool):Nat→Nat→Nat
 | 0,j=>j
 | k+1,j=>if p j then j else J2 p k (j+1)
def Ze2(front:List Nat)(i:Nat):Bool:=decide (front.getD i 0=bkN (front.getD (i+1) 0))
def P0(front:List Nat):Nat:=J2 (Ze2 front) (front.length - 1) 0
def U0(ls:List Lt):Nat→Nat→List Nat
 | _,0=>[]
 | x,k+1=>tnN ls x :: U0 ls (bkN (tnN ls x)) k
abbrev Rw:=Nat×Nat×Nat×Bool
def S2(c:Nat)(ls:List Lt)(front:List Nat)(done:List Int):Option (Rw×List Nat×List Int):=
 if P0 front<front.length - 1 then some ((1,P0 front,0,false),front.take (P0 front)++front.drop (P0 front+2),done)
 else if (X3 (U5 c ls done front) front.length).2=0 then none
 else some ((2,(X3 (U5 c ls done front) front.length).1,(X3 (U5 c ls done front) front.length).2,(ldN ls (front.getD (X3 (U5 c ls done front) front.length).1 0)).o),
  front.take (X3 (U5 c ls done front) front.length).1++U0 ls (front.getD (X3 (U5 c ls done front) front.length).1 0) (4 - (X3 (U5 c ls done front) front.length).2) ++
   front.drop ((X3 (U5 c ls done front) front.length).1+(X3 (U5 c ls done front) front.length).2),
  done++[(ldN ls (front.getD (X3 (U5 c ls done front) front.length).1 0)).i])
def drF(c:Nat)(ls:List Lt):Nat→List Nat→List Int→List Rw
 | 0,_,_=>[]
 | k+1,front,done=>if front=[]then []else match S2 c ls front done with
  | none=>[]
  | some (r,f,dn)=>r :: drF c ls k f dn
def Y2(ls:List Lt):List Nat:=(Z1 ls).map (upN ls)
def muN(ls:List Lt)(front:List Nat)(done:List Int):Nat:=front.length+3*Z3 (fun l=>isX l && !done.contains l.i) ls
def X2(c:Nat)(ls:List Lt):List Rw:=drF c ls (muN ls (Y2 ls) []+1) (Y2 ls) []
theorem Z9z(p:Nat→Bool):∀ k j,j≤J2 p k j∧J2 p k j≤j+k
 | 0,j=>⟨Nat.le_refl _,Nat.le_refl _⟩
 | k+1,j=>by
  simp only[J2];split
  ·omega
  ·have:=Z9z p k (j+1); omega
theorem Zq9(p:Nat→Bool):∀ k j,J2 p k j<j+k→p (J2 p k j)=true
 | 0,j,h=>by simp only[J2]at h; omega
 | k+1,j,h=>by
  simp only[J2]at h ⊢;split
  ·assumption
  ·rename_i a;rw[if_neg a]at h;exact Zq9 p k (j+1) (by omega)
theorem Yet{p:Nat→Bool}{k j:Nat}(h:p j=false):J2 p (k+1) j=J2 p k (j+1):=by simp[J2,h]
theorem Z68{p:Nat→Bool}{k j:Nat}(h:p j=true):J2 p (k+1) j=j:=by simp[J2,h]
theorem Zfw(run:Nat→Nat):∀ k,((X3 run k).2=0∧(X3 run k).1=0 ∧ ∀ j,j<k→run j=0)∨(0<(X3 run k).2∧(X3 run k).1<k∧run (X3 run k).1=(X3 run k).2)
 | 0=>.inl ⟨rfl,rfl,fun j d=>by omega⟩
 | k+1=>by
  simp only[X3];split
  ·rename_i h;exact .inr ⟨by simp only; omega,Nat.lt_succ_self k,rfl⟩
  ·rename_i h;rcases Zfw run k with⟨a,c,b⟩|⟨a,c,b⟩
   ·exact .inl ⟨a,c,fun j d=>by
     by_cases e:j=k
     ·subst e; omega
     ·exact b j (by omega)⟩
   ·exact .inr ⟨a,by omega,b⟩
theorem Zw1{r a:Nat→Nat}:∀ k,(∀ j,j<k→r j=a j)→X3 r k=X3 a k
 | 0,_=>rfl
 | k+1,h=>by
  simp only[X3];rw[Zw1 k (fun j b=>h j (by omega)),h k (Nat.lt_succ_self k)]
theorem Zj6(ls:List Lt):∀ k x,(U0 ls x k).length=k
 | 0,_=>rfl
 | k+1,x=>by simp[U0,Zj6 ls k]
theorem Z3a{ls:List Lt}{done:List Int}{l:Lt}(g:l∈ls)(h:isX l=true)(f:l.i∉done):Z3 (fun o=>isX o && !(done++[l.i]).contains o.i) ls<Z3 (fun o=>isX o && !done.contains o.i) ls:=by
 have e:=Zgc (fun o=>isX o && !done.contains o.i) (fun o=>o.i != l.i) ls
 have d:Z3 (fun o=>isX o && !done.contains o.i&&(o.i != l.i)) ls=Z3 (fun o=>isX o && !(done++[l.i]).contains o.i) ls:=by
  apply R3;intro o _;rw[Bool.eq_iff_iff];simp;constructor
  ·rintro⟨⟨a,b⟩,c⟩;exact⟨a,b,c⟩
  ·rintro⟨a,b,c⟩;exact⟨⟨a,b⟩,c⟩
 have j:0<Z3 (fun o=>isX o && !done.contains o.i && !(o.i != l.i)) ls:=by
  unfold Z3;exact List.length_pos_of_mem (List.mem_filter.2 ⟨g,by simp[h,f]⟩)
 rw[d]at e;omega
theorem Zh1{c:Nat}{ls:List Lt}{done:List Int}{front:List Nat}{i:Nat}(h:0<U5 c ls done front i):(ldN ls (front.getD i 0)).k=2∧(ldN ls (front.getD i 0)).i∉done∧crN ls done (front.getD i 0)=(ldN ls (front.getD i 0)).i:=by
 unfold U5 at h;split at h
 ·omega
 ·rename_i b;unfold crN at b ⊢;split
  ·rename_i a;exact⟨a.1,a.2,rfl⟩
  ·rename_i a;rw[if_neg a]at b;exact absurd rfl b
theorem Zlr{ls:List Lt}{d:Nat}(a:d<2*ls.length):ldN ls d∈ls:=S1 (Zba a)
theorem Zj7{c:Nat}{ls:List Lt}{front:List Nat}{done:List Int}{r:Rw}{f:List Nat}{dn:List Int}(m:∀ d,d∈front→d<2*ls.length)(g:front≠[])(h:S2 c ls front done=some (r,f,dn)):muN ls f dn<muN ls front done:=by
 have e:0<front.length:=List.length_pos_iff.2 g;unfold S2 at h;split at h
 ·rename_i v;simp only[oI,pI2]at h;obtain⟨_,rfl,rfl⟩:=h;unfold muN;simp;omega
 ·split at h
  ·cases h
  ·rename_i l;simp only[oI,pI2]at h;obtain⟨_,rfl,rfl⟩:=h;rcases Zfw (U5 c ls done front) front.length with⟨b,_,_⟩|⟨b,j,k⟩
   ·exact absurd b l
   ·obtain⟨p,q,w⟩:=Zh1 (c:=c) (ls:=ls) (done:=done) (front:=front) (i:=(X3 (U5 c ls done front) front.length).1) (by rw[k]; exact b)
    generalize (X3 (U5 c ls done front) front.length).1=a at *;generalize (X3 (U5 c ls done front) front.length).2=n at *;have hm:front.getD a 0∈front:=by
     rw[List.getD,gE j];exact List.getElem_mem _
    have u:=Z3a (Zlr (m _ hm)) (by simp only[isX,p]; rfl) q
    unfold muN;generalize Z3 (fun o=>isX o && !(done++[(ldN ls (front.getD a 0)).i]).contains o.i) ls=s at *
    generalize Z3 (fun o=>isX o && !done.contains o.i) ls=t at *
    rw[List.length_append,List.length_append,Zj6,List.length_take,List.length_drop];omega
end Go.Known
end
