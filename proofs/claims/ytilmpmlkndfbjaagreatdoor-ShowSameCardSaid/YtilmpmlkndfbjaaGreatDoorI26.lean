/- Part 26 of the proof: Rk, Rl, Rm, Rn, Rg, Rq. -/
import Derived.Test.YtilmpmlkndfbjaaGreatDoorI12
import Derived.Test.YtilmpmlkndfbjaaGreatDoorI21
import Derived.Test.YtilmpmlkndfbjaaGreatDoorI22
import Derived.Test.YtilmpmlkndfbjaaGreatDoorI25
set_option linter.all false
section
namespace Go.Known
open Go Go.AE Go.Proofs
open Go.Plain
theorem Z41{T:Nat→Nat}{N d:Nat}{seen:List Bool}(b:d<N)(h:seen[d]? = some true):wks T N (N - d) seen=wks T N (N - (d+1)) seen:=by
 obtain⟨k,a⟩:∃ k,N - d=k+1:=⟨N - d - 1,by omega⟩
 rw[a,wks,show N - (k+1)=d by omega,Zfh h,if_pos rfl]
 congr 1; omega
theorem Z5y{T:Nat→Nat}{N d:Nat}{seen:List Bool}(b:d<N)(h:seen[d]? = some false):wks T N (N - d) seen=tr T (N+1) seen d :: wks T N (N - (d+1)) (Plain.mark T (N+1) seen d):=by
 obtain⟨k,a⟩:∃ k,N - d=k+1:=⟨N - d - 1,by omega⟩
 rw[a,wks,show N - (k+1)=d by omega,Zfh h,if_neg (by simp)]
 congr 2; omega
theorem Ygs{T:Nat→Nat}{k x:Nat}{seen:List Bool}(h:seen[x]? = some true):tr T k seen x=[]:=by
 cases k with
 | zero=>rfl
 | succ k=>rw[tr,Zfh h,if_pos rfl]
theorem Zzo{T:Nat→Nat}{k x:Nat}{seen:List Bool}(h:seen[x]? = some false):tr T (k+1) seen x=x :: tr T k (seen.set x true) (T x):=by
 rw[tr,Zfh h,if_neg (by simp)]
set_option maxRecDepth 100000 in
set_option maxHeartbeats 4000000 in
theorem c16(f:Int)(ls:List Lt)(T:Nat→Nat)(m:Nat)(h:ls.length≤1000)(h0:0<Z0 ls)(ah:(Z1 ls).length=m)(ao:m≤1000)
 (hT:∀ d,d<2*ls.length+2*m→T d<2*ls.length+2*m) (hC:∀ d,d<2*ls.length+2*m→PCall Tryz.prog 100 [cV f ls,.imm (Z2 (Z1 ls)),.int .i64 d] (.int .i64 (T d:Nat))) :
 PCall Tryz.prog 63 [cV f ls] (.imm (L9 (T3 T (2*ls.length+2*m)))):=by
 refine Zaa hm 3 Tryz.func63 cf16 rfl rfl (by simp[Y7,B9]) (by simp[AVal.closed,Zk9]) fun K hK=>?_
 have hR:=L0 ls;have aa:=c39 f ls h h0;have ad:(Z2 (Z1 ls)).length=m:=by rw[Z0q]; exact ah
 have j:∀ q,Z4 q (ls.map rowL)=ls.map rowL:=fun q=>X1 q _ (Y5 ls)
 have t:∀ q,Z4 q (Z2 (Z1 ls))=Z2 (Z1 ls):=fun q=>Z6 q _
 unfold cV at *;generalize ls.map rowL=rows at *;generalize Z2 (Z1 ls)=J at *;have P:=hR.len;generalize hN:2*ls.length+2*m=N at *;have aj:IntKind.i64.wrap (2*(ls.length:Int))=2*(ls.length:Int):=Z5 (by omega) (by omega)
 have ak:IntKind.i64.wrap (2*(m:Int))=2*(m:Int):=Z5 (by omega) (by omega)
 have al:IntKind.i64.wrap (2*(ls.length:Int)+2*(m:Int))=(N:Int):=by rw[Z5 (by omega) (by omega)]; omega
 have ab:N≤1048576:=by omega
 simp;refine U1 aa ?_;obtain⟨I,F⟩:∃ I,List.replicate N false=I:=⟨_,rfl⟩
 have e1:List.replicate N [AVal.bool false]=bls I:=by rw[← F,Zm9]
 have M:I.length=N:=by rw[← F]; simp
 simp[P,ad,aj,ak,al,ab,e1];refine Zuz (α:=Nat×List Bool×List (List Nat)) (fun a=>[(6,.int .i64 a.1),(5,.sl 2 0 N),(4,.imm J),(3,slV 3 (L9 a.2.2)),(1,.ptr 1 0 0)])
  (fun a=>⟨(1,.cells 2 [[.int .i64 f,.imm rows]]) :: (2,.cells 1 (bls a.2.1)) :: blV 3 1 (L9 a.2.2) [],4⟩)
  (fun a=>N - a.1) (fun a=>a.1≤N∧a.2.1.length=N∧a.2.2.length≤a.1∧a.2.2++wks T N (N - a.1) a.2.1=T3 T N) (0,I,[]) (SubR.wk (l:=[(2,15)]) (by simp[j,t,W3,L9])) ⟨by simp,M,by simp,by simp[T3,F]⟩ ?_
 rintro⟨d,seen,v⟩ ⟨hd,y,ai,c⟩ N1 E;simp only at hd y ai c E ⊢;by_cases r:d<N
 ·have V:IntKind.i64.wrap ((d:Int)+1)=(d:Int)+1:=Z5 (by omega) (by omega)
  obtain⟨b,Y⟩:∃ b,seen[d]? = some b:=⟨_,gE (by omega)⟩
  have G:=Ze0 Y;have O:(bls seen).length=N:=by rw[bls,List.length_map,y]
  obtain⟨_,B⟩:=X5 G;cases b with
  | true=>
   rw[Z41 r Y]at c;generalize g:bls seen=S at *;simp[r,G,B,O,V];exact E (d+1,seen,v) _ _ (by simp; omega) ⟨by simp; omega,y,by simp; omega,c⟩ (SubR.wk (l:=[]) (by simp +contextual [j,t,← g,W3,Zii]))
  | false=>
   rw[Z5y r Y]at c;generalize g:bls seen=S at *;simp[r,G,B,O];subst g;refine Q7 (α:=Nat×List Bool×List Nat×Nat) (fun a=>[(8,.int .i64 a.1),(7,slV 4 (Z2 a.2.2.1)),(6,.int .i64 d),(5,.sl 2 0 N),(4,.imm J),(3,slV 3 (L9 v)),(1,.ptr 1 0 0)])
    (fun a=>⟨(1,.cells 2 [[.int .i64 f,.imm rows]]) :: (2,.cells 1 (bls a.2.1)) :: blV 3 1 (L9 v) (blV 4 1 (Z2 a.2.2.1) []),5⟩)
    (fun a=>D9 a.2.1) (fun a=>a.1<N∧a.2.1.length=N∧D9 a.2.1<a.2.2.2∧a.2.2.1.length+D9 a.2.1≤N∧Plain.mark T (N+1) seen d=Plain.mark T a.2.2.2 a.2.1 a.1∧tr T (N+1) seen d=a.2.2.1++tr T a.2.2.2 a.2.1 a.1) (d,seen,[],N+1) [] (by simp +contextual [j,t,W3,Zii]) ⟨r,y,by have:=Zfp (l:=seen); simp; omega,by have:=Zfp (l:=seen); simp; omega,rfl,rfl⟩ ?_
   rintro⟨x,C,w,fu⟩ ⟨X,z,ag,am,s,n⟩ N2 L;simp only at X z ag am s n L ⊢;obtain⟨Z,i⟩:∃ Z,C[x]? = some Z:=⟨_,gE (by omega)⟩
   have o:=Ze0 i;have A:(bls C).length=N:=by rw[bls,List.length_map,z]
   obtain⟨_,p⟩:=X5 o;cases Z with
   | true=>
    rw[Zzb i]at s;rw[Ygs i,List.append_nil]at n;rw[s,n]at c;have u:w≠[]:=by
     rw[← n,Zzo Y]; simp
    generalize g:bls C=S at *;have H:(L9 v).length≤1048575:=by rw[Zp0]; omega
    simp[X,o,p,A,V,H];refine E (d+1,C,v++[w]) _ _ (by simp; omega) ⟨by simp; omega,z,by simp; omega,by simp[← c]⟩ (SubF.wk (l:=[(3,13)]) (S:=[4]) ⟨by simp,by simp,by simp[Zpz,j,t],?_,by simp[Zpz]⟩)
    have aq:Z2 w≠[]:=by simpa using u
    simp[SubFB,Zpz,j,Zii,W3,← g];refine .inr ⟨1,_,⟨rfl,rfl⟩,rfl,?_⟩;rw[Z6,Ybs (Zk9 _)];simp[Z2g,imV,u]
   | false=>
    have ar:=Zsw i;have Q:=Znq C x true;obtain⟨D,rfl⟩:∃ D,fu=D+1:=⟨fu - 1,by omega⟩
    rw[Zyj i]at s;rw[Zzo i]at n;have af:=hC x X;have ac:=hT x X;have H:w.length≤1048575:=by omega
    have U:(C.set x true).length=N:=by simpa using z
    generalize C.set x true=an at *;generalize g:bls C=S at *;simp[X,o,p,A,Q,H];refine U1 af ?_;simp;exact L (T x,an,w++[x],D) [(4,17)] _ _ (by simp; omega) ⟨ac,U,by simp; omega,by simp; omega,s,by simp[n]⟩ (by simp +contextual [j,t,W3,Zii,Z6,← g])
 ·have he:d=N:=by omega
  subst he;rw[Nat.sub_self]at c;simp only[wks,List.append_nil]at c;subst c;have u:L9 (T3 T d)≠[]:=by
   have ae:=Ygq (T:=T) (N:=d) (by have:=T4 ls; omega)
   have hl:=Zet T d d (List.replicate d false);intro e;have:=Zp0 (T3 T d);rw[e]at this;unfold T3 at this;unfold L2 at ae;simp at this;omega
  simp;refine Y1 (hK (slV 3 (L9 (T3 T d))) ⟨blV 3 1 (L9 (T3 T d)) [],4⟩ ?_) [] (by simp +contextual [Zii])
  simp only[slV,if_neg u];exact Zjs (k:=1) (by simp[u]) (Z63 _)
theorem c16'(f:Int)(ls:List Lt)(h:ls.length≤1000)(j:0<Z0 ls)(m:∀ v,v<ls.length→(at' ls v).k≠2→(at' ls v).k=1) :
 PCall Tryz.prog 63 [cV f ls] (.imm (L9 (T3 (Y4 ls (Z1 ls)) (2*ls.length+2*Z0 ls)))):=by
 have a:=T4 ls;have b:∀ v,v∈Z1 ls→v<ls.length:=fun v g=>(mem_axis.1 g).1
 have e:∀ v,v<ls.length→(at' ls v).k≠2→v∈Z1 ls:=fun v g l=>mem_axis.2 ⟨g,by simp[isP,m v g l]⟩
 have n:Z0 ls≤ls.length:=D2;refine c16 f ls _ _ h j a (by omega) (fun d i=>?_) (fun d i=>?_)
 ·rw[← a]at i ⊢;exact Zs0 b e (by omega) i
 ·by_cases c:2*ls.length≤d
  ·exact c40a f ls _ d h (by omega) c (by omega) b
  ·exact c40b f ls _ d h (by omega) c e (by omega)
end Go.Known
end
section
namespace Go.Known
open Go Go.AE Go.Proofs
open Go.Plain
def C4(l:List (Int×Int)):List (List AVal):=l.map fun p=>[.int .i64 p.1,.int .i64 p.2]
def C3(l:List Int):List (List AVal):=l.map fun x=>[.int .i64 x]
@[simp] theorem Yhr(l : List (Int × Int)) : (C4 l).length = l.length := by simp [C4]
@[simp] theorem Yhs(l : List Int) : (C3 l).length = l.length := by simp [C3]
@[simp] theorem Yit : C4 [] = [] := rfl
@[simp] theorem Yi2 : C3 [] = [] := rfl
@[simp] theorem Yiz{l : List (Int × Int)} : C4 l = [] ↔ l = [] := by simp [C4]
@[simp] theorem Yhm{l : List Int} : C3 l = [] ↔ l = [] := by simp [C3]
@[simp] theorem Yid(l : List (Int × Int)) : (C4 l).take l.length = C4 l := List.take_of_length_le (by simp)
@[simp] theorem Yh6(l : List Int) : (C3 l).take l.length = C3 l := List.take_of_length_le (by simp)
theorem Zmf:∀ (l:List (Int×Int)),V3 (C4 l)=true
 | []=>rfl
 | p :: r=>by
  have:=Zmf r;simp only[C4,List.map_cons,V3,Y7,AVal.closed,Bool.and_true,Bool.true_and]at this ⊢;exact this
theorem Zlx:∀ (l:List Int),V3 (C3 l)=true
 | []=>rfl
 | p :: r=>by
  have:=Zlx r;simp only[C3,List.map_cons,V3,Y7,AVal.closed,Bool.and_true,Bool.true_and]at this ⊢;exact this
@[simp] theorem Yh7(q : Nat → Nat)(l : List (Int × Int)) : Z4 q (C4 l) = C4 l := X1 q _ (Zmf l)
@[simp] theorem Yhg(q : Nat → Nat)(l : List Int) : Z4 q (C3 l) = C3 l := X1 q _ (Zlx l)
@[simp] theorem Yh2(l : List (Int × Int)) : ((C4 l).all fun x => x.length == 2) = true := by simp [C4]
@[simp] theorem Yil(l : List Int) : ((C3 l).all fun x => x.length == 1) = true := by simp [C3]
theorem Zaj{rows:List (List AVal)}(h:V3 rows=true):(imV rows).closed=true:=by unfold imV; split<;>first|rfl|exact h
@[simp] theorem Yhj : imV [] = .nilSl := rfl
@[simp] theorem Yif(q : Nat → Nat)(l : List Int) : (imV (C3 l)).ren q = imV (C3 l) := AVal.ren_closed q _ (Zaj (Zlx l))
@[simp] theorem Yiu(q : Nat → Nat)(l : List (Int × Int)) : (imV (C4 l)).ren q = imV (C4 l) := AVal.ren_closed q _ (Zaj (Zmf l))
@[simp] theorem Yib(q : Nat → Nat)(l : List Nat) : (imV (Z2 l)).ren q = imV (Z2 l) := AVal.ren_closed q _ (Zaj (D5 l))
@[simp] theorem sl_imV(rows : List (List AVal)) : T0 (imV rows) = some rows.length := by
 unfold imV;split
 ·rename_i h; subst h; rfl
 ·rfl
end Go.Known
end
section
namespace Go.Known
open Go Go.AE Go.Proofs
open Go.Plain
theorem Yde{get:Nat→Option ABlk}{b k n:Nat}{rows:List (List AVal)}(a:get b=if rows=[]then none else some (.cells k rows))(c:∀ row,row∈rows → ∀ x,x∈row→X4 get (n+1) x=some x):X4 get (n+2) (slV b rows)=some (imV rows):=by
 unfold slV imV;by_cases h:rows=[]
 ·rw[if_pos h,if_pos h]; rfl
 ·rw[if_neg h,if_neg h];exact Zjs (by rw[a,if_neg h]) c
theorem Zwi{get:Nat→Option ABlk}{n:Nat}{rows:List (List AVal)}(a:∀ row,row∈rows → ∀ x,x∈row→X4 get (n+1) x=some x):X4 get (n+2) (imV rows)=some (imV rows):=by
 unfold imV;by_cases h:rows=[]
 ·rw[if_pos h]; rfl
 ·rw[if_neg h];exact Zle a
def FRow(w:List Nat×Bool)(row:List AVal):Prop:=∃ (ab o:Bool) (P:List (Int×Int)) (G:List Int),row=[.bool ab,imV (Z2 w.1),imV (C4 P),imV (C3 G),.bool o]∧(w.2=true↔P≠[])
theorem FRow.closed{w:List Nat×Bool}{row:List AVal}(h:FRow w row):Y7 row=true:=by
 obtain⟨a,o,P,G,rfl,_⟩:=h;simp only[Y7,AVal.closed,Zaj (D5 _),Zaj (Zmf _),Zaj (Zlx _),Bool.and_true]
def RowsF(l:List (List Nat×Bool))(rows:List (List AVal)):Prop:=rows.length=l.length ∧ ∀(i:Nat) (w:List Nat×Bool),l[i]? = some w → ∃ row,rows[i]? = some row∧FRow w row
theorem RowsF.row{l:List (List Nat×Bool)}{rows:List (List AVal)}(h:RowsF l rows):∀ row,row∈rows → ∃ w,FRow w row:=by
 intro row d;obtain⟨i,hi⟩:=List.getElem?_of_mem d;have b:i<l.length:=by rw[← h.1]; exact(gS.1 hi).1
 obtain⟨e,a,c⟩:=h.2 i _ (gE b);rw[hi]at a;injection a with a
 subst a;exact⟨_,c⟩
theorem RowsF.closed{l:List (List Nat×Bool)}{rows:List (List AVal)}(h:RowsF l rows):V3 rows=true:=by
 have:∀ c:List (List AVal),(∀ row,row∈c→Y7 row=true)→V3 c=true:=by
  intro c
  induction c with
  | nil=>intro _; rfl
  | cons a r i=>intro d; simp only[V3,bA]; exact⟨d a (List.mem_cons_self ..),i fun b e=>d b (List.mem_cons_of_mem _ e)⟩
 exact this rows fun row f=>(h.row row f).elim fun _ g=>g.closed
theorem RowsF.nil:RowsF [] []:=⟨rfl,fun i w h=>by simp at h⟩
theorem Zsn(T:Nat→Nat):∀ (k:Nat) (seen:List Bool) (x:Nat),(tr T k seen x).length≤k
 | 0,_,_=>Nat.le_refl _
 | k+1,seen,x=>by
  simp only[tr];split
  ·simp
  ·have:=Zsn T k (seen.set x true) (T x);simp; omega
end Go.Known
end
section
namespace Go.Known
open Go Go.AE Go.Proofs
open Go.Plain
theorem Zlk{rows:List (List AVal)}(h:¬rows=[]):imV rows=.imm rows:=by simp[imV,h]
end Go.Known
end
section
namespace Go.Known
open Go Go.AE Go.Proofs
open Go.Plain
attribute [local simp] Zb1 Zcg Zb5 Zc7 Zdf Zd8 Zen Zbx Zcz O4 P9 P7 O0 P6 P8 Zd0 Zbw Zb6 Zco Zeg Zbo Zc3 Zc0 Zdx Zbv Zem Zb8 Zd9 Zcl Zej Zbz Zcs Zdy Zec Zch Zck Zbu Zdd Zc8 Zb7 Zcw Zbt Zds Zdj Zdt Zc9 Zeb Zea Zcv Zcu Zby Zdz Zee Zc1 Zd4 Zcr Zeh Zek Zb0 Zel Zdq Zcn Zcx Zdo Zdg Zcj Zdp Zbj Zc6 Zc5 Env.get V2 SMem.at SMem.app SMem.get Z9 Q5 AVal.cells AVal.one T9 Q8 Zd5 Zda Zei Zcq Zdk Zd7 Zcf Zb2 Zdl Zbq Zcp Zdm Zde unA R8 U8 G5 L4 W4 aundef Zdw Zct Zc4 Zb9 Zbs P3 V8 L5 L1 M8 G6 S3 H7 SubR SubRE SubRB InjK InjA qOf Zat AVal.ren Q4 Z4 ABlk.ren K5 R0 M7
def OkV(f:Int)(ls:List Lt):Prop:=ls=[]∨Zf7 f.toNat ls
open Classical in
noncomputable def W7(f:Int)(ls:List Lt):Int:=
 if 400<ls.length∨200<Y9 ls then 7 else if f<0∨40<f then 2 else if OkV f ls then 0 else 3
set_option maxRecDepth 100000 in
set_option maxHeartbeats 4000000 in
theorem c59(f:Int)(ls:List Lt)(h:ls.length≤1000) :
 Ctr Tryz.prog 71 [cV f ls] ⟨[],1⟩ fun r m=>(W7 f ls≠0∧r=.tuple [.nilPtr,.int .i64 (W7 f ls)]∧m=⟨[],1⟩) ∨
  (W7 f ls=0∧ls=[]∧0≤f∧f≤40∧r=.tuple [.ptr 1 0 0,.int .i64 0]∧m=dM1 f (ls.map rowL)) ∨
  (W7 f ls=0∧ls≠[]∧0≤f∧f≤40∧Zf7 f.toNat ls∧r=.tuple [.ptr 1 0 0,.int .i64 0]∧m=dF f.toNat ls (ls.map rowL) (crE ls ls.length)):=by
 refine E7 hm Tryz.func71 cf59 rfl rfl fun K w=>?_
 have A:=L0 ls;have a:∀ q,Z4 q (ls.map rowL)=ls.map rowL:=fun q=>X1 q _ (Y5 ls)
 have l:=c103 f ls h;have n:=fun F v=>c104 F ls h v
 have p:∀ e:Int,W7 f ls=e→e≠0 → ∀ m,SubR 1 [] [(0,.tuple [.nilPtr,.int .i64 e])] ⟨[],1⟩ [(0,.tuple [.nilPtr,.int .i64 e])] m→S4 1 K (.tuple [.nilPtr,.int .i64 e]) m:=
  fun e s z m C=>by subst s; exact Y1 (w _ _ (.inl ⟨z,rfl,rfl⟩)) [] C
 unfold cV at *;generalize ls.map rowL=rows at *;have g:=A.len;have D:Z3 isX ls=Y9 ls:=rfl;by_cases y:400<ls.length
 ·have j:(400:Int)<(ls.length:Int):=by omega
  simp[g,y,j];exact p 7 (by unfold W7; rw[if_pos (.inl y)]) (by omega) _ (by simp)
 have j:¬(400:Int)<(ls.length:Int):=by omega
 simp[g,y,j];refine U1 l ?_;rw[D];by_cases t:200<Y9 ls
 ·have b:(200:Int)<(Y9 ls:Int):=by omega
  simp[t,b];exact p 7 (by unfold W7; rw[if_pos (.inr t)]) (by omega) _ (by simp)
 have b:¬(200:Int)<(Y9 ls:Int):=by omega
 have o:¬(400<ls.length∨200<Y9 ls):=by omega
 by_cases c:f<0
 ·simp[t,b,c];exact p 2 (by unfold W7; rw[if_neg o,if_pos (.inl c)]) (by omega) _ (by simp)
 by_cases i:40<f
 ·simp[t,b,c,i];exact p 2 (by unfold W7; rw[if_neg o,if_pos (.inr i)]) (by omega) _ (by simp)
 have u:¬(f<0∨40<f):=by omega
 obtain⟨F,v⟩:∃ F:Nat,f=(F:Int):=⟨f.toNat,by omega⟩
 subst v;simp[t,b,c,i];refine U9 (n F (by omega)) [(1,23)] (by simp) (by simp[a,Z8,Z6,W3]) (by simp) ?_
 rintro r E (⟨k,rfl,rfl⟩|⟨k,d,rfl,rfl⟩|⟨k,d,rfl,rfl⟩)
 ·have s:W7 F ls=0:=by unfold W7; rw[if_neg o,if_neg u,if_pos (.inl k)]
  simp[a,Z8,Z6,W3];exact Y1 (w _ _ (.inr (.inl ⟨s,k,by omega,by omega,rfl,rfl⟩))) [(1,23)] (by simp[a,Z8,Z6,W3])
 ·have s:W7 F ls=0:=by unfold W7; rw[if_neg o,if_neg u,if_pos (.inr d)]
  simp[a,Z8,Z6,W3];exact Y1 (w _ _ (.inr (.inr ⟨s,k,by omega,by omega,d,rfl,rfl⟩))) [(1,23),(2,28),(3,29),(4,30),(5,31),(6,32)] (by simp[a,Z8,Z6,W3])
 ·simp[a,Z8,Z6,W3];exact p 3 (by unfold W7; rw[if_neg o,if_neg u,if_neg (fun B=>B.elim k d)]) (by omega) _ (by simp)
end Go.Known
end
section
namespace Go.Known
open Go Go.AE Go.Proofs
open Go.Plain
theorem FRow.one{w:List Nat×Bool}{row:List AVal}(h:FRow w row):∀ x,x∈row→x.one=true:=by
 obtain⟨b,o,P,G,rfl,_⟩:=h;have hi:∀ rows:List (List AVal),(imV rows).one=true:=fun rows=>by unfold imV; split<;>rfl
 intro x a;simp only[List.mem_cons,List.not_mem_nil,or_false]at a;rcases a with rfl|rfl|rfl|rfl|rfl<;>first|rfl|exact hi _
theorem Yca{T:Nat→Nat}{n:Nat}(h:0<n):Zg0 T n≠[]:=by
 obtain⟨k,rfl⟩:∃ k,n=k+1:=⟨n - 1,by omega⟩
 unfold Zg0;rw[fcs,if_neg]
 ·simp
 ·rw[List.getD_eq_getElem?_getD,List.getElem?_replicate,if_pos (by omega)]; simp
end Go.Known
end
