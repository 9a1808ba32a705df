/- Part 22 of the proof: Rk, Rl, Rm, Rg. -/
import Derived.Test.YtilmpmlkndfbjaaGreatDoorR10
import Derived.Test.YtilmpmlkndfbjaaGreatDoorR20
import Derived.Test.YtilmpmlkndfbjaaGreatDoorR21
set_option linter.all false
section
namespace Go.Known
open Go Go.AE Go.Proofs
open Go.Plain
theorem Z4r{T:Nat→Nat}{N d:Nat}{seen:List Bool}(b:d<N)(h:seen[d]? = some true):wks T N (N - d) seen=wks T N (N - (d+1)) seen:=by
 obtain⟨k,a⟩:∃ k,N - d=k+1:=⟨N - d - 1,by omega⟩
 rw[a,wks,show N - (k+1)=d by omega,Zfn h,if_pos rfl]
 congr 1; omega
theorem Z9n{T:Nat→Nat}{N d:Nat}{seen:List Bool}(b:d<N)(h:seen[d]? = some false):wks T N (N - d) seen=tr T (N+1) seen d :: wks T N (N - (d+1)) (Plain.mark T (N+1) seen d):=by
 obtain⟨k,a⟩:∃ k,N - d=k+1:=⟨N - d - 1,by omega⟩
 rw[a,wks,show N - (k+1)=d by omega,Zfn h,if_neg (by simp)]
 congr 2; omega
theorem Z3i{T:Nat→Nat}{k x:Nat}{seen:List Bool}(h:seen[x]? = some true):tr T k seen x=[]:=by
 cases k with
 | zero=>rfl
 | succ k=>rw[tr,Zfn h,if_pos rfl]
theorem Zry{T:Nat→Nat}{k x:Nat}{seen:List Bool}(h:seen[x]? = some false):tr T (k+1) seen x=x :: tr T k (seen.set x true) (T x):=by
 rw[tr,Zfn h,if_neg (by simp)]
set_option maxRecDepth 100000 in
set_option maxHeartbeats 4000000 in
theorem c16(f:Int)(ls:List Lt)(T:Nat→Nat)(m:Nat)(h:ls.length≤1000)(h0:0<Z3 ls)(ah:(Z4 ls).length=m)(ao:m≤1000)
 (hT:∀ d,d<2*ls.length+2*m→T d<2*ls.length+2*m) (hC:∀ d,d<2*ls.length+2*m→PCall Tryz.prog 100 [cV f ls,.imm (Z0 (Z4 ls)),.int .i64 d] (.int .i64 (T d:Nat))) :
 PCall Tryz.prog 63 [cV f ls] (.imm (K5 (Q8 T (2*ls.length+2*m)))):=by
 refine Zt7 hm 3 Tryz.func63 cf16 rfl rfl (by simp[X4,C8]) (by simp[AVal.closed,Zld]) fun K hK=>?_
 have hR:=M9 ls;have aa:=c39 f ls h h0;have ad:(Z0 (Z4 ls)).length=m:=by rw[Zty]; exact ah
 have j:∀ q,Z6 q (ls.map rowL)=ls.map rowL:=fun q=>X6 q _ (U6 ls)
 have t:∀ q,Z6 q (Z0 (Z4 ls))=Z0 (Z4 ls):=fun q=>Z8 q _
 unfold cV at *;generalize ls.map rowL=rows at *;generalize Z0 (Z4 ls)=J at *;have P:=hR.len;generalize hN:2*ls.length+2*m=N at *;have aj:IntKind.i64.wrap (2*(ls.length:Int))=2*(ls.length:Int):=Z1 (by omega) (by omega)
 have ak:IntKind.i64.wrap (2*(m:Int))=2*(m:Int):=Z1 (by omega) (by omega)
 have al:IntKind.i64.wrap (2*(ls.length:Int)+2*(m:Int))=(N:Int):=by rw[Z1 (by omega) (by omega)]; omega
 have ab:N≤1048576:=by omega
 simp;refine J7 aa ?_;obtain⟨I,F⟩:∃ I,List.replicate N false=I:=⟨_,rfl⟩
 have e1:List.replicate N [AVal.bool false]=bls I:=by rw[← F,Zkr]
 have M:I.length=N:=by rw[← F]; simp
 simp[P,ad,aj,ak,al,ab,e1];refine Zvh (α:=Nat×List Bool×List (List Nat)) (fun a=>[(6,.int .i64 a.1),(5,.sl 2 0 N),(4,.imm J),(3,slV 3 (K5 a.2.2)),(1,.ptr 1 0 0)])
  (fun a=>⟨(1,.cells 2 [[.int .i64 f,.imm rows]]) :: (2,.cells 1 (bls a.2.1)) :: blV 3 1 (K5 a.2.2) [],4⟩)
  (fun a=>N - a.1) (fun a=>a.1≤N∧a.2.1.length=N∧a.2.2.length≤a.1∧a.2.2++wks T N (N - a.1) a.2.1=Q8 T N) (0,I,[]) (SubR.wk (l:=[(2,15)]) (by simp[j,t,V0,K5])) ⟨by simp,M,by simp,by simp[Q8,F]⟩ ?_
 rintro⟨d,seen,v⟩ ⟨hd,y,ai,c⟩ N1 E;simp only at hd y ai c E ⊢;by_cases r:d<N
 ·have V:IntKind.i64.wrap ((d:Int)+1)=(d:Int)+1:=Z1 (by omega) (by omega)
  obtain⟨b,Y⟩:∃ b,seen[d]? = some b:=⟨_,gE (by omega)⟩
  have G:=Zga Y;have O:(bls seen).length=N:=by rw[bls,List.length_map,y]
  obtain⟨_,B⟩:=Y5 G;cases b with
  | true=>
   rw[Z4r r Y]at c;generalize g:bls seen=S at *;simp[r,G,B,O,V];exact E (d+1,seen,v) _ _ (by simp; omega) ⟨by simp; omega,y,by simp; omega,c⟩ (SubR.wk (l:=[]) (by simp +contextual [j,t,← g,V0,Zic]))
  | false=>
   rw[Z9n r Y]at c;generalize g:bls seen=S at *;simp[r,G,B,O];subst g;refine B0 (α:=Nat×List Bool×List Nat×Nat) (fun a=>[(8,.int .i64 a.1),(7,slV 4 (Z0 a.2.2.1)),(6,.int .i64 d),(5,.sl 2 0 N),(4,.imm J),(3,slV 3 (K5 v)),(1,.ptr 1 0 0)])
    (fun a=>⟨(1,.cells 2 [[.int .i64 f,.imm rows]]) :: (2,.cells 1 (bls a.2.1)) :: blV 3 1 (K5 v) (blV 4 1 (Z0 a.2.2.1) []),5⟩)
    (fun a=>D6 a.2.1) (fun a=>a.1<N∧a.2.1.length=N∧D6 a.2.1<a.2.2.2∧a.2.2.1.length+D6 a.2.1≤N∧Plain.mark T (N+1) seen d=Plain.mark T a.2.2.2 a.2.1 a.1∧tr T (N+1) seen d=a.2.2.1++tr T a.2.2.2 a.2.1 a.1) (d,seen,[],N+1) [] (by simp +contextual [j,t,V0,Zic]) ⟨r,y,by have:=Zh4 (l:=seen); simp; omega,by have:=Zh4 (l:=seen); simp; omega,rfl,rfl⟩ ?_
   rintro⟨x,C,w,fu⟩ ⟨X,z,ag,am,s,n⟩ N2 L;simp only at X z ag am s n L ⊢;obtain⟨Z,i⟩:∃ Z,C[x]? = some Z:=⟨_,gE (by omega)⟩
   have o:=Zga i;have A:(bls C).length=N:=by rw[bls,List.length_map,z]
   obtain⟨_,p⟩:=Y5 o;cases Z with
   | true=>
    rw[Zx3 i]at s;rw[Z3i i,List.append_nil]at n;rw[s,n]at c;have u:w≠[]:=by
     rw[← n,Zry Y]; simp
    generalize g:bls C=S at *;have H:(K5 v).length≤1048575:=by rw[Zpk]; omega
    simp[X,o,p,A,V,H];refine E (d+1,C,v++[w]) _ _ (by simp; omega) ⟨by simp; omega,z,by simp; omega,by simp[← c]⟩ (SubF.wk (l:=[(3,13)]) (S:=[4]) ⟨by simp,by simp,by simp[Zqj,j,t],?_,by simp[Zqj]⟩)
    have aq:Z0 w≠[]:=by simpa using u
    simp[SubFB,Zqj,j,Zic,V0,← g];refine .inr ⟨1,_,⟨rfl,rfl⟩,rfl,?_⟩;rw[Z8,Z4i (Zld _)];simp[Ybq,imV,u]
   | false=>
    have ar:=Zoh i;have Q:=Zmm C x true;obtain⟨D,rfl⟩:∃ D,fu=D+1:=⟨fu - 1,by omega⟩
    rw[Zvf i]at s;rw[Zry i]at n;have af:=hC x X;have ac:=hT x X;have H:w.length≤1048575:=by omega
    have U:(C.set x true).length=N:=by simpa using z
    generalize C.set x true=an at *;generalize g:bls C=S at *;simp[X,o,p,A,Q,H];refine J7 af ?_;simp;exact L (T x,an,w++[x],D) [(4,17)] _ _ (by simp; omega) ⟨ac,U,by simp; omega,by simp; omega,s,by simp[n]⟩ (by simp +contextual [j,t,V0,Zic,Z8,← g])
 ·have he:d=N:=by omega
  subst he;rw[Nat.sub_self]at c;simp only[wks,List.append_nil]at c;subst c;have u:K5 (Q8 T d)≠[]:=by
   have ae:=Z0z (T:=T) (N:=d) (by have:=H6 ls; omega)
   have hl:=Zf9 T d d (List.replicate d false);intro e;have:=Zpk (Q8 T d);rw[e]at this;unfold Q8 at this;unfold K1 at ae;simp at this;omega
  simp;refine Z9 (hK (slV 3 (K5 (Q8 T d))) ⟨blV 3 1 (K5 (Q8 T d)) [],4⟩ ?_) [] (by simp +contextual [Zic])
  simp only[slV,if_neg u];exact Zmr (k:=1) (by simp[u]) (Z2e _)
theorem c16'(f:Int)(ls:List Lt)(h:ls.length≤1000)(j:0<Z3 ls)(m:∀ v,v<ls.length→(at' ls v).k≠2→(at' ls v).k=1) :
 PCall Tryz.prog 63 [cV f ls] (.imm (K5 (Q8 (V1 ls (Z4 ls)) (2*ls.length+2*Z3 ls)))):=by
 have a:=H6 ls;have b:∀ v,v∈Z4 ls→v<ls.length:=fun v g=>(mem_axis.1 g).1
 have e:∀ v,v<ls.length→(at' ls v).k≠2→v∈Z4 ls:=fun v g l=>mem_axis.2 ⟨g,by simp[isP,m v g l]⟩
 have n:Z3 ls≤ls.length:=Za6;refine c16 f ls _ _ h j a (by omega) (fun d i=>?_) (fun d i=>?_)
 ·rw[← a]at i ⊢;exact Zoe b e (by omega) i
 ·by_cases c:2*ls.length≤d
  ·exact c40a f ls _ d h (by omega) c (by omega) b
  ·exact c40b f ls _ d h (by omega) c e (by omega)
end Go.Known
end
section
namespace Go.Known
open Go Go.AE Go.Proofs
open Go.Plain
def C4(l:List (Int×Int)):List (List AVal):=l.map fun p=>[.int .i64 p.1,.int .i64 p.2]
def Z2(l:List Int):List (List AVal):=l.map fun x=>[.int .i64 x]
@[simp] theorem Ydi(l : List (Int × Int)) : (C4 l).length = l.length := by simp [C4]
@[simp] theorem Zxm(l : List Int) : (Z2 l).length = l.length := by simp [Z2]
@[simp] theorem Yd0 : C4 [] = [] := rfl
@[simp] theorem Yex : Z2 [] = [] := rfl
@[simp] theorem Yea{l : List (Int × Int)} : C4 l = [] ↔ l = [] := by simp [C4]
@[simp] theorem Ydo{l : List Int} : Z2 l = [] ↔ l = [] := by simp [Z2]
@[simp] theorem Yd4(l : List (Int × Int)) : (C4 l).take l.length = C4 l := List.take_of_length_le (by simp)
@[simp] theorem Yef(l : List Int) : (Z2 l).take l.length = Z2 l := List.take_of_length_le (by simp)
theorem Yc6(l:List Int)(a:Int):Z2 l++[[.int .i64 a]]=Z2 (l++[a]):=by simp[Z2]
theorem Zkm:∀ (l:List (Int×Int)),W5 (C4 l)=true
 | []=>rfl
 | p :: r=>by
  have:=Zkm r;simp only[C4,List.map_cons,W5,X4,AVal.closed,Bool.and_true,Bool.true_and]at this ⊢;exact this
theorem L5:∀ (l:List Int),W5 (Z2 l)=true
 | []=>rfl
 | p :: r=>by
  have:=L5 r;simp only[Z2,List.map_cons,W5,X4,AVal.closed,Bool.and_true,Bool.true_and]at this ⊢;exact this
@[simp] theorem Yd5(q : Nat → Nat)(l : List (Int × Int)) : Z6 q (C4 l) = C4 l := X6 q _ (Zkm l)
@[simp] theorem Yd3(q : Nat → Nat)(l : List Int) : Z6 q (Z2 l) = Z2 l := X6 q _ (L5 l)
theorem Ybi{l:List Int}{i:Nat}{p:Int}(h:l[i]? = some p):(Z2 l)[i]? = some [.int .i64 p]:=by rw[Z2,List.getElem?_map,h]; rfl
@[simp] theorem Yep(l : List (Int × Int)) : ((C4 l).all fun x => x.length == 2) = true := by simp [C4]
@[simp] theorem Ye1(l : List Int) : ((Z2 l).all fun x => x.length == 1) = true := by simp [Z2]
theorem Zaq{rows:List (List AVal)}(h:W5 rows=true):(imV rows).closed=true:=by unfold imV; split<;>first|rfl|exact h
@[simp] theorem Yez : imV [] = .nilSl := rfl
@[simp] theorem Ydh(q : Nat → Nat)(l : List Int) : (imV (Z2 l)).ren q = imV (Z2 l) := AVal.ren_closed q _ (Zaq (L5 l))
@[simp] theorem Ydq(q : Nat → Nat)(l : List (Int × Int)) : (imV (C4 l)).ren q = imV (C4 l) := AVal.ren_closed q _ (Zaq (Zkm l))
@[simp] theorem Yek(q : Nat → Nat)(l : List Nat) : (imV (Z0 l)).ren q = imV (Z0 l) := AVal.ren_closed q _ (Zaq (Zas l))
@[simp] theorem sl_imV(rows : List (List AVal)) : W2 (imV rows) = some rows.length := by
 unfold imV;split
 ·rename_i h; subst h; rfl
 ·rfl
end Go.Known
end
section
namespace Go.Known
open Go Go.AE Go.Proofs
open Go.Plain
theorem Ydb{get:Nat→Option ABlk}{b k n:Nat}{rows:List (List AVal)}(a:get b=if rows=[]then none else some (.cells k rows))(c:∀ row,row∈rows → ∀ x,x∈row→X3 get (n+1) x=some x):X3 get (n+2) (slV b rows)=some (imV rows):=by
 unfold slV imV;by_cases h:rows=[]
 ·rw[if_pos h,if_pos h]; rfl
 ·rw[if_neg h,if_neg h];exact Zmr (by rw[a,if_neg h]) c
theorem Z95{get:Nat→Option ABlk}{n:Nat}{rows:List (List AVal)}(a:∀ row,row∈rows → ∀ x,x∈row→X3 get (n+1) x=some x):X3 get (n+2) (imV rows)=some (imV rows):=by
 unfold imV;by_cases h:rows=[]
 ·rw[if_pos h]; rfl
 ·rw[if_neg h];exact Zva a
def FRow(w:List Nat×Bool)(row:List AVal):Prop:=∃ (ab o:Bool) (P:List (Int×Int)) (G:List Int),row=[.bool ab,imV (Z0 w.1),imV (C4 P),imV (Z2 G),.bool o]∧(w.2=true↔P≠[])
theorem FRow.closed{w:List Nat×Bool}{row:List AVal}(h:FRow w row):X4 row=true:=by
 obtain⟨a,o,P,G,rfl,_⟩:=h;simp only[X4,AVal.closed,Zaq (Zas _),Zaq (Zkm _),Zaq (L5 _),Bool.and_true]
def RowsF(l:List (List Nat×Bool))(rows:List (List AVal)):Prop:=rows.length=l.length ∧ ∀(i:Nat) (w:List Nat×Bool),l[i]? = some w → ∃ row,rows[i]? = some row∧FRow w row
theorem RowsF.row{l:List (List Nat×Bool)}{rows:List (List AVal)}(h:RowsF l rows):∀ row,row∈rows → ∃ w,FRow w row:=by
 intro row d;obtain⟨i,hi⟩:=List.getElem?_of_mem d;have b:i<l.length:=by rw[← h.1]; exact(gS.1 hi).1
 obtain⟨e,a,c⟩:=h.2 i _ (gE b);rw[hi]at a;injection a with a
 subst a;exact⟨_,c⟩
theorem RowsF.closed{l:List (List Nat×Bool)}{rows:List (List AVal)}(h:RowsF l rows):W5 rows=true:=by
 have:∀ c:List (List AVal),(∀ row,row∈c→X4 row=true)→W5 c=true:=by
  intro c
  induction c with
  | nil=>intro _; rfl
  | cons a r i=>intro d; simp only[W5,bA]; exact⟨d a (List.mem_cons_self ..),i fun b e=>d b (List.mem_cons_of_mem _ e)⟩
 exact this rows fun row f=>(h.row row f).elim fun _ g=>g.closed
theorem RowsF.nil:RowsF [] []:=⟨rfl,fun i w h=>by simp at h⟩
theorem Zpg(T:Nat→Nat):∀ (k:Nat) (seen:List Bool) (x:Nat),(tr T k seen x).length≤k
 | 0,_,_=>Nat.le_refl _
 | k+1,seen,x=>by
  simp only[tr];split
  ·simp
  ·have:=Zpg T k (seen.set x true) (T x);simp; omega
end Go.Known
end
section
namespace Go.Known
open Go Go.AE Go.Proofs
open Go.Plain
attribute [local simp] Zdk Zcv Zbn Zdb Zb9 Zdz Zcb Zcm Zc7 O6 O3 P8 P7 O1 O5 Zcy Zbm Zdo Zdd Zd5 Zdy Zdf Zdi Zbj Zbv Zdw Zbe Zbz Zbf Zca Zde Zbg Zd2 Zbh Zc5 Zdj Zc4 Zcq Zcr Zbu Zb8 Zd0 Zch Zby Zbq Zcg Zb5 Zcn Zcl Zbp Zck Zdc Zb3 Zcu Zdh Zb0 Zdq Zbs Zc2 Zb4 Zb7 Zdn Zdr Zd1 Zcp Zcd Zb1 Za8 Za3 Zc8 Env.get U1 SMem.at SMem.app SMem.get Z7 S3 AVal.cells AVal.one T7 P0 Zc6 Zbi Zbo Zbc Zda Zcx Zdp Zcz Zbw Zc3 Zdm Zc9 Zdv unA Q7 T0 H5 L4 W8 aundef Zbx Zbr Zce Zbt Zdg P5 Y8 L8 L3 H3 B5 Q9 F4 SubR SubRE SubRB InjK InjA qOf W3 AVal.ren U7 Z6 ABlk.ren J3 Q6 M5
def OkV(f:Int)(ls:List Lt):Prop:=ls=[]∨Zgm f.toNat ls
open Classical in
noncomputable def P2(f:Int)(ls:List Lt):Int:=
 if 400<ls.length∨200<X7 ls then 7 else if f<0∨40<f then 2 else if OkV f ls then 0 else 3
set_option maxRecDepth 100000 in
set_option maxHeartbeats 4000000 in
theorem c59(f:Int)(ls:List Lt)(h:ls.length≤1000) :
 Ctr Tryz.prog 71 [cV f ls] ⟨[],1⟩ fun r m=>(P2 f ls≠0∧r=.tuple [.nilPtr,.int .i64 (P2 f ls)]∧m=⟨[],1⟩) ∨
  (P2 f ls=0∧ls=[]∧0≤f∧f≤40∧r=.tuple [.ptr 1 0 0,.int .i64 0]∧m=dM1 f (ls.map rowL)) ∨
  (P2 f ls=0∧ls≠[]∧0≤f∧f≤40∧Zgm f.toNat ls∧r=.tuple [.ptr 1 0 0,.int .i64 0]∧m=dF f.toNat ls (ls.map rowL) (crE ls ls.length)):=by
 refine Zc0 hm Tryz.func71 cf59 rfl rfl fun K w=>?_
 have A:=M9 ls;have a:∀ q,Z6 q (ls.map rowL)=ls.map rowL:=fun q=>X6 q _ (U6 ls)
 have l:=c103 f ls h;have n:=fun F v=>c104 F ls h v
 have p:∀ e:Int,P2 f ls=e→e≠0 → ∀ m,SubR 1 [] [(0,.tuple [.nilPtr,.int .i64 e])] ⟨[],1⟩ [(0,.tuple [.nilPtr,.int .i64 e])] m→O9 1 K (.tuple [.nilPtr,.int .i64 e]) m:=
  fun e s z m C=>by subst s; exact Z9 (w _ _ (.inl ⟨z,rfl,rfl⟩)) [] C
 unfold cV at *;generalize ls.map rowL=rows at *;have g:=A.len;have D:Z5 isX ls=X7 ls:=rfl;by_cases y:400<ls.length
 ·have j:(400:Int)<(ls.length:Int):=by omega
  simp[g,y,j];exact p 7 (by unfold P2; rw[if_pos (.inl y)]) (by omega) _ (by simp)
 have j:¬(400:Int)<(ls.length:Int):=by omega
 simp[g,y,j];refine J7 l ?_;rw[D];by_cases t:200<X7 ls
 ·have b:(200:Int)<(X7 ls:Int):=by omega
  simp[t,b];exact p 7 (by unfold P2; rw[if_pos (.inr t)]) (by omega) _ (by simp)
 have b:¬(200:Int)<(X7 ls:Int):=by omega
 have o:¬(400<ls.length∨200<X7 ls):=by omega
 by_cases c:f<0
 ·simp[t,b,c];exact p 2 (by unfold P2; rw[if_neg o,if_pos (.inl c)]) (by omega) _ (by simp)
 by_cases i:40<f
 ·simp[t,b,c,i];exact p 2 (by unfold P2; rw[if_neg o,if_pos (.inr i)]) (by omega) _ (by simp)
 have u:¬(f<0∨40<f):=by omega
 obtain⟨F,v⟩:∃ F:Nat,f=(F:Int):=⟨f.toNat,by omega⟩
 subst v;simp[t,b,c,i];refine Q1 (n F (by omega)) [(1,23)] (by simp) (by simp[a,Y2,Z8,V0]) (by simp) ?_
 rintro r E (⟨k,rfl,rfl⟩|⟨k,d,rfl,rfl⟩|⟨k,d,rfl,rfl⟩)
 ·have s:P2 F ls=0:=by unfold P2; rw[if_neg o,if_neg u,if_pos (.inl k)]
  simp[a,Y2,Z8,V0];exact Z9 (w _ _ (.inr (.inl ⟨s,k,by omega,by omega,rfl,rfl⟩))) [(1,23)] (by simp[a,Y2,Z8,V0])
 ·have s:P2 F ls=0:=by unfold P2; rw[if_neg o,if_neg u,if_pos (.inr d)]
  simp[a,Y2,Z8,V0];exact Z9 (w _ _ (.inr (.inr ⟨s,k,by omega,by omega,d,rfl,rfl⟩))) [(1,23),(2,28),(3,29),(4,30),(5,31),(6,32)] (by simp[a,Y2,Z8,V0])
 ·simp[a,Y2,Z8,V0];exact p 3 (by unfold P2; rw[if_neg o,if_neg u,if_neg (fun B=>B.elim k d)]) (by omega) _ (by simp)
theorem c30(f:Int)(ls:List Lt)(h:ls.length≤1000):PCall Tryz.prog 51 [cV f ls] (.int .i64 (P2 f ls)):=by
 refine Za0 hm Tryz.func51 cf30 rfl rfl (by simp[X4,C8]) trivial fun K a=>?_
 have c:=c59 f ls h;have d:∀ q,Z6 q (ls.map rowL)=ls.map rowL:=fun q=>X6 q _ (U6 ls)
 unfold cV at *;generalize ls.map rowL=rows at *;simp;refine Q1 c [] (by simp[d]) (by simp) (by simp) ?_
 rintro r i (⟨b,rfl,rfl⟩|⟨b,e,_,_,rfl,rfl⟩|⟨b,e,_,_,g,rfl,rfl⟩)
 ·simp;exact Z9 a [] (by simp)
 ·simp;rw[b]at a;exact Z9 a [] (by simp)
 ·simp;rw[b]at a;exact Z9 a [] (by simp)
end Go.Known
end
