/- Part 26 of the proof: Rk, Rl, Rm, Rn, Rg, Rq. -/
import Derived.Test.YtipeejpafgnjdaaGreatDoorH12
import Derived.Test.YtipeejpafgnjdaaGreatDoorH21
import Derived.Test.YtipeejpafgnjdaaGreatDoorH22
import Derived.Test.YtipeejpafgnjdaaGreatDoorH25
set_option linter.all false
section
namespace Go.Known
open Go Go.AE Go.Proofs
open Go.Plain
theorem Z87{T:Nat→Nat}{N d:Nat}{seen:List Bool}(hd:d<N)(h:seen[d]? = some true):wks T N (N - d) seen=wks T N (N - (d+1)) seen:=by
 obtain⟨k,hk⟩:∃ k,N - d=k+1:=⟨N - d - 1,by omega⟩
 rw[hk,wks,show N - (k+1)=d by omega,Zfu h,if_pos rfl]
 congr 1; omega
theorem Z56{T:Nat→Nat}{N d:Nat}{seen:List Bool}(hd:d<N)(h:seen[d]? = some false):wks T N (N - d) seen=tr T (N+1) seen d :: wks T N (N - (d+1)) (Plain.mark T (N+1) seen d):=by
 obtain⟨k,hk⟩:∃ k,N - d=k+1:=⟨N - d - 1,by omega⟩
 rw[hk,wks,show N - (k+1)=d by omega,Zfu h,if_neg (by simp)]
 congr 2; omega
theorem Z9u{T:Nat→Nat}{k x:Nat}{seen:List Bool}(h:seen[x]? = some true):tr T k seen x=[]:=by
 cases k with
 | zero=>rfl
 | succ k=>rw[tr,Zfu h,if_pos rfl]
theorem Zvw{T:Nat→Nat}{k x:Nat}{seen:List Bool}(h:seen[x]? = some false):tr T (k+1) seen x=x :: tr T k (seen.set x true) (T x):=by
 rw[tr,Zfu h,if_neg (by simp)]
set_option maxRecDepth 100000 in
set_option maxHeartbeats 4000000 in
theorem c16(f:Int)(ls:List Lt)(T:Nat→Nat)(m:Nat)(h:ls.length≤1000)(h0:0<Z1 ls)(hm':(Z2 ls).length=m)(hml:m≤1000)
 (hT:∀ d,d<2*ls.length+2*m→T d<2*ls.length+2*m) (hC:∀ d,d<2*ls.length+2*m→PCall Tryz.prog 103 [cV f ls,.imm (Z0 (Z2 ls)),.int .i64 d] (.int .i64 (T d:Nat))) :
 PCall Tryz.prog 87 [cV f ls] (.imm (L1 (Q5 T (2*ls.length+2*m)))):=by
 refine J9 hm 3 Tryz.func87 cf16 rfl rfl (by simp[Y0,C5]) (by simp[AVal.closed,Zl7]) fun K hK=>?_
 have hR:=N8 ls;have h39:=c39 f ls h h0;have hal:(Z0 (Z2 ls)).length=m:=by rw[Zwk]; exact hm'
 have hrr:∀ q,Z3 q (ls.map rowL)=ls.map rowL:=fun q=>Y6 q _ (Z9 ls)
 have hra:∀ q,Z3 q (Z0 (Z2 ls))=Z0 (Z2 ls):=fun q=>Z5 q _
 unfold cV at *;generalize ls.map rowL=rows at *;generalize Z0 (Z2 ls)=axr at *;have hlen:=hR.len;generalize hN:2*ls.length+2*m=N at *;have hw1:IntKind.i64.wrap (2*(ls.length:Int))=2*(ls.length:Int):=Z6 (by omega) (by omega)
 have hw2:IntKind.i64.wrap (2*(m:Int))=2*(m:Int):=Z6 (by omega) (by omega)
 have hw3:IntKind.i64.wrap (2*(ls.length:Int)+2*(m:Int))=(N:Int):=by rw[Z6 (by omega) (by omega)]; omega
 have hNr:N≤1048576:=by omega
 simp;refine W3 h39 ?_;obtain⟨S0,hS0⟩:∃ S0,List.replicate N false=S0:=⟨_,rfl⟩
 have e1:List.replicate N [AVal.bool false]=bls S0:=by rw[← hS0,Zmc]
 have hS0l:S0.length=N:=by rw[← hS0]; simp
 simp[hlen,hal,hw1,hw2,hw3,hNr,e1];refine Zwy (α:=Nat×List Bool×List (List Nat)) (fun a=>[(6,.int .i64 a.1),(5,.sl 2 0 N),(4,.imm axr),(3,slV 3 (L1 a.2.2)),(1,.ptr 1 0 0)])
  (fun a=>⟨(1,.cells 2 [[.int .i64 f,.imm rows]]) :: (2,.cells 1 (bls a.2.1)) :: blV 3 1 (L1 a.2.2) [],4⟩)
  (fun a=>N - a.1) (fun a=>a.1≤N∧a.2.1.length=N∧a.2.2.length≤a.1∧a.2.2++wks T N (N - a.1) a.2.1=Q5 T N) (0,S0,[]) (SubR.wk (l:=[(2,15)]) (by simp[hrr,hra,X7,L1])) ⟨by simp,hS0l,by simp,by simp[Q5,hS0]⟩ ?_
 rintro⟨d,seen,out⟩ ⟨hd,hsl,hol,hout⟩ N1 hN1;simp only at hd hsl hol hout hN1 ⊢;by_cases hlt:d<N
 ·have hwd:IntKind.i64.wrap ((d:Int)+1)=(d:Int)+1:=Z6 (by omega) (by omega)
  obtain⟨b,hb⟩:∃ b,seen[d]? = some b:=⟨_,gE (by omega)⟩
  have hbg:=Zeg hb;have hbl:(bls seen).length=N:=by rw[bls,List.length_map,hsl]
  obtain⟨_,hbg2⟩:=Y9 hbg;cases b with
  | true=>
   rw[Z87 hlt hb]at hout;generalize hSe:bls seen=S at *;simp[hlt,hbg,hbg2,hbl,hwd];exact hN1 (d+1,seen,out) _ _ (by simp; omega) ⟨by simp; omega,hsl,by simp; omega,hout⟩ (SubR.wk (l:=[]) (by simp +contextual [hrr,hra,← hSe,X7,Zio]))
  | false=>
   rw[Z56 hlt hb]at hout;generalize hSe:bls seen=S at *;simp[hlt,hbg,hbg2,hbl];subst hSe;refine T1 (α:=Nat×List Bool×List Nat×Nat) (fun a=>[(8,.int .i64 a.1),(7,slV 4 (Z0 a.2.2.1)),(6,.int .i64 d),(5,.sl 2 0 N),(4,.imm axr),(3,slV 3 (L1 out)),(1,.ptr 1 0 0)])
    (fun a=>⟨(1,.cells 2 [[.int .i64 f,.imm rows]]) :: (2,.cells 1 (bls a.2.1)) :: blV 3 1 (L1 out) (blV 4 1 (Z0 a.2.2.1) []),5⟩)
    (fun a=>E7 a.2.1) (fun a=>a.1<N∧a.2.1.length=N∧E7 a.2.1<a.2.2.2∧a.2.2.1.length+E7 a.2.1≤N∧Plain.mark T (N+1) seen d=Plain.mark T a.2.2.2 a.2.1 a.1∧tr T (N+1) seen d=a.2.2.1++tr T a.2.2.2 a.2.1 a.1) (d,seen,[],N+1) [] (by simp +contextual [hrr,hra,X7,Zio]) ⟨hlt,hsl,by have:=Ze3 (l:=seen); simp; omega,by have:=Ze3 (l:=seen); simp; omega,rfl,rfl⟩ ?_
   rintro⟨x,sn,w,fu⟩ ⟨hx,hsn,hfu,hwl,hmk,htr⟩ N2 hN2;simp only at hx hsn hfu hwl hmk htr hN2 ⊢;obtain⟨b2,hb2⟩:∃ b2,sn[x]? = some b2:=⟨_,gE (by omega)⟩
   have hb2g:=Zeg hb2;have hb2l:(bls sn).length=N:=by rw[bls,List.length_map,hsn]
   obtain⟨_,hb2g2⟩:=Y9 hb2g;cases b2 with
   | true=>
    rw[Zx2 hb2]at hmk;rw[Z9u hb2,List.append_nil]at htr;rw[hmk,htr]at hout;have hwn:w≠[]:=by
     rw[← htr,Zvw hb]; simp
    generalize hSe:bls sn=S at *;have hlo:(L1 out).length≤1048575:=by rw[Znu]; omega
    simp[hx,hb2g,hb2g2,hb2l,hwd,hlo];refine hN1 (d+1,sn,out++[w]) _ _ (by simp; omega) ⟨by simp; omega,hsn,by simp; omega,by simp[← hout]⟩ (SubF.wk (l:=[(3,13)]) (S:=[4]) ⟨by simp,by simp,by simp[Zp8,hrr,hra],?_,by simp[Zp8]⟩)
    have hnw:Z0 w≠[]:=by simpa using hwn
    simp[SubFB,Zp8,hrr,Zio,X7,← hSe];refine .inr ⟨1,_,⟨rfl,rfl⟩,rfl,?_⟩;rw[Z5,Z60 (Zl7 _)];simp[Z7a,imV,hwn]
   | false=>
    have hun:=Zn7 hb2;have hset:=Zln sn x true;obtain⟨fu',rfl⟩:∃ fu',fu=fu'+1:=⟨fu - 1,by omega⟩
    rw[Zsl hb2]at hmk;rw[Zvw hb2]at htr;have hcx:=hC x hx;have hTx:=hT x hx;have hlo:w.length≤1048575:=by omega
    have hsn1:(sn.set x true).length=N:=by simpa using hsn
    generalize sn.set x true=sn1 at *;generalize hSe:bls sn=S at *;simp[hx,hb2g,hb2g2,hb2l,hset,hlo];refine W3 hcx ?_;simp;exact hN2 (T x,sn1,w++[x],fu') [(4,17)] _ _ (by simp; omega) ⟨hTx,hsn1,by simp; omega,by simp; omega,hmk,by simp[htr]⟩ (by simp +contextual [hrr,hra,X7,Zio,Z5,← hSe])
 ·have he:d=N:=by omega
  subst he;rw[Nat.sub_self]at hout;simp only[wks,List.append_nil]at hout;subst hout;have hwn:L1 (Q5 T d)≠[]:=by
   have hcp:=Z3n (T:=T) (N:=d) (by have:=O6 ls; omega)
   have hl:=Zez T d d (List.replicate d false);intro e;have:=Znu (Q5 T d);rw[e]at this;unfold Q5 at this;unfold I0 at hcp;simp at this;omega
  simp;refine Y1 (hK (slV 3 (L1 (Q5 T d))) ⟨blV 3 1 (L1 (Q5 T d)) [],4⟩ ?_) [] (by simp +contextual [Zio])
  simp only[slV,if_neg hwn];exact Zhp (k:=1) (by simp[hwn]) (Yal _)
theorem c16'(f:Int)(ls:List Lt)(h:ls.length≤1000)(h0:0<Z1 ls)(hk:∀ v,v<ls.length→(at' ls v).k≠2→(at' ls v).k=1) :
 PCall Tryz.prog 87 [cV f ls] (.imm (L1 (Q5 (Y3 ls (Z2 ls)) (2*ls.length+2*Z1 ls)))):=by
 have hal:=O6 ls;have hax:∀ v,v∈Z2 ls→v<ls.length:=fun v hv=>(mem_axis.1 hv).1
 have hmm:∀ v,v<ls.length→(at' ls v).k≠2→v∈Z2 ls:=fun v hv h2=>mem_axis.2 ⟨hv,by simp[isP,hk v hv h2]⟩
 have hpl:Z1 ls≤ls.length:=E5;refine c16 f ls _ _ h h0 hal (by omega) (fun d hd=>?_) (fun d hd=>?_)
 ·rw[← hal]at hd ⊢;exact Znz hax hmm (by omega) hd
 ·by_cases hd1:2*ls.length≤d
  ·exact c40a f ls _ d h (by omega) hd1 (by omega) hax
  ·exact c40b f ls _ d h (by omega) hd1 hmm (by omega)
end Go.Known
end
section
namespace Go.Known
open Go Go.AE Go.Proofs
open Go.Plain
def G3(l:List (Int×Int)):List (List AVal):=l.map fun p=>[.int .i64 p.1,.int .i64 p.2]
def G4(l:List Int):List (List AVal):=l.map fun x=>[.int .i64 x]
@[simp] theorem Yff(l : List (Int × Int)) : (G3 l).length = l.length := by simp [G3]
@[simp] theorem Yf8(l : List Int) : (G4 l).length = l.length := by simp [G4]
@[simp] theorem Ygh : G3 [] = [] := rfl
@[simp] theorem Ygl : G4 [] = [] := rfl
@[simp] theorem Ygg{l : List (Int × Int)} : G3 l = [] ↔ l = [] := by simp [G3]
@[simp] theorem Ygk{l : List Int} : G4 l = [] ↔ l = [] := by simp [G4]
@[simp] theorem Yf1(l : List (Int × Int)) : (G3 l).take l.length = G3 l := List.take_of_length_le (by simp)
@[simp] theorem Yf4(l : List Int) : (G4 l).take l.length = G4 l := List.take_of_length_le (by simp)
theorem Zng:∀ (l:List (Int×Int)),X8 (G3 l)=true
 | []=>rfl
 | p :: r=>by
  have:=Zng r;simp only[G3,List.map_cons,X8,Y0,AVal.closed,Bool.and_true,Bool.true_and]at this ⊢;exact this
theorem Zle:∀ (l:List Int),X8 (G4 l)=true
 | []=>rfl
 | p :: r=>by
  have:=Zle r;simp only[G4,List.map_cons,X8,Y0,AVal.closed,Bool.and_true,Bool.true_and]at this ⊢;exact this
@[simp] theorem Yf7(q : Nat → Nat)(l : List (Int × Int)) : Z3 q (G3 l) = G3 l := Y6 q _ (Zng l)
@[simp] theorem Yfh(q : Nat → Nat)(l : List Int) : Z3 q (G4 l) = G4 l := Y6 q _ (Zle l)
@[simp] theorem Ygp(l : List (Int × Int)) : ((G3 l).all fun x => x.length == 2) = true := by simp [G3]
@[simp] theorem Yg1(l : List Int) : ((G4 l).all fun x => x.length == 1) = true := by simp [G4]
theorem G6{rows:List (List AVal)}(h:X8 rows=true):(imV rows).closed=true:=by unfold imV; split<;>first|rfl|exact h
@[simp] theorem Yfl : imV [] = .nilSl := rfl
@[simp] theorem Ygc(q : Nat → Nat)(l : List Int) : (imV (G4 l)).ren q = imV (G4 l) := AVal.ren_closed q _ (G6 (Zle l))
@[simp] theorem Yfk(q : Nat → Nat)(l : List (Int × Int)) : (imV (G3 l)).ren q = imV (G3 l) := AVal.ren_closed q _ (G6 (Zng l))
@[simp] theorem Ygv(q : Nat → Nat)(l : List Nat) : (imV (Z0 l)).ren q = imV (Z0 l) := AVal.ren_closed q _ (G6 (G0 l))
@[simp] theorem sl_imV(rows : List (List AVal)) : U9 (imV rows) = some rows.length := by
 unfold imV;split
 ·rename_i h; subst h; rfl
 ·rfl
end Go.Known
end
section
namespace Go.Known
open Go Go.AE Go.Proofs
open Go.Plain
theorem Zoe{get:Nat→Option ABlk}{b k n:Nat}{rows:List (List AVal)}(hg:get b=if rows=[]then none else some (.cells k rows))(hs:∀ row,row∈rows → ∀ x,x∈row→X0 get (n+1) x=some x):X0 get (n+2) (slV b rows)=some (imV rows):=by
 unfold slV imV;by_cases h:rows=[]
 ·rw[if_pos h,if_pos h]; rfl
 ·rw[if_neg h,if_neg h];exact Zhp (by rw[hg,if_neg h]) hs
theorem Zxs{get:Nat→Option ABlk}{n:Nat}{rows:List (List AVal)}(hs:∀ row,row∈rows → ∀ x,x∈row→X0 get (n+1) x=some x):X0 get (n+2) (imV rows)=some (imV rows):=by
 unfold imV;by_cases h:rows=[]
 ·rw[if_pos h]; rfl
 ·rw[if_neg h];exact Zlw hs
def FRow(w:List Nat×Bool)(row:List AVal):Prop:=∃ (ab o:Bool) (P:List (Int×Int)) (G:List Int),row=[.bool ab,imV (Z0 w.1),imV (G3 P),imV (G4 G),.bool o]∧(w.2=true↔P≠[])
theorem FRow.closed{w:List Nat×Bool}{row:List AVal}(h:FRow w row):Y0 row=true:=by
 obtain⟨ab,o,P,G,rfl,_⟩:=h;simp only[Y0,AVal.closed,G6 (G0 _),G6 (Zng _),G6 (Zle _),Bool.and_true]
def RowsF(l:List (List Nat×Bool))(rows:List (List AVal)):Prop:=rows.length=l.length ∧ ∀(i:Nat) (w:List Nat×Bool),l[i]? = some w → ∃ row,rows[i]? = some row∧FRow w row
theorem RowsF.row{l:List (List Nat×Bool)}{rows:List (List AVal)}(h:RowsF l rows):∀ row,row∈rows → ∃ w,FRow w row:=by
 intro row hr;obtain⟨i,hi⟩:=List.getElem?_of_mem hr;have hil:i<l.length:=by rw[← h.1]; exact(gS.1 hi).1
 obtain⟨r2,h1,h2⟩:=h.2 i _ (gE hil);rw[hi]at h1;injection h1 with h1
 subst h1;exact⟨_,h2⟩
theorem RowsF.closed{l:List (List Nat×Bool)}{rows:List (List AVal)}(h:RowsF l rows):X8 rows=true:=by
 have:∀ rs:List (List AVal),(∀ row,row∈rs→Y0 row=true)→X8 rs=true:=by
  intro rs
  induction rs with
  | nil=>intro _; rfl
  | cons a r ih=>intro hh; simp only[X8,bA]; exact⟨hh a (List.mem_cons_self ..),ih fun b hb=>hh b (List.mem_cons_of_mem _ hb)⟩
 exact this rows fun row hr=>(h.row row hr).elim fun _ hw=>hw.closed
theorem RowsF.nil:RowsF [] []:=⟨rfl,fun i w h=>by simp at h⟩
theorem Zp4(T:Nat→Nat):∀ (k:Nat) (seen:List Bool) (x:Nat),(tr T k seen x).length≤k
 | 0,_,_=>Nat.le_refl _
 | k+1,seen,x=>by
  simp only[tr];split
  ·simp
  ·have:=Zp4 T k (seen.set x true) (T x);simp; omega
end Go.Known
end
section
namespace Go.Known
open Go Go.AE Go.Proofs
open Go.Plain
def T3(l:List Pol):List (List AVal):=l.map fun p=>[.int .i64 (p.1:Nat),.int .i64 (p.2.1:Nat),.bool p.2.2]
@[simp] theorem Ya4(l : List Pol) : (T3 l).length = l.length := by simp [T3]
@[simp] theorem Z2a{l : List Pol} : T3 l = [] ↔ l = [] := by simp [T3]
@[simp] theorem Yf9 : T3 [] = [] := rfl
theorem Yeu(l:List Pol)(p:Pol):T3 (l++[p])=T3 l++[[.int .i64 (p.1:Nat),.int .i64 (p.2.1:Nat),.bool p.2.2]]:=by simp[T3]
theorem Znn:∀ (l:List Pol),X8 (T3 l)=true
 | []=>rfl
 | p :: r=>by
  have:=Znn r;simp only[T3,List.map_cons,X8,Y0,AVal.closed,Bool.and_true,Bool.true_and]at this ⊢;exact this
@[simp] theorem Z5l(q : Nat → Nat)(l : List Pol) : Z3 q (T3 l) = T3 l := Y6 q _ (Znn l)
theorem Z55{l:List Pol}{i:Nat}{p:Pol}(h:l[i]? = some p):(T3 l)[i]? = some [.int .i64 (p.1:Nat),.int .i64 (p.2.1:Nat),.bool p.2.2]:=by rw[T3,List.getElem?_map,h]; rfl
theorem Z11{get:Nat→Option ABlk}{n:Nat}(l:List Pol):∀ row,row∈T3 l → ∀ x,x∈row→X0 get (n+1) x=some x:=by
 intro row hr x hx;obtain⟨i,_,rfl⟩:=List.mem_map.1 hr;simp only[List.mem_cons,List.not_mem_nil,or_false]at hx;rcases hx with rfl|rfl|rfl<;>rfl
theorem Zex{rows:List (List AVal)}(h:¬rows=[]):imV rows=.imm rows:=by simp[imV,h]
theorem Z6w{ls:List Lt}{w:List Nat}{k x:Nat}(h:w[k]? = some x):Zaj ls (w.take (k+1))=Zaj ls (w.take k)+if isC ls x then 1 else 0:=by
 have e:w.take (k+1)=w.take k++[x]:=by rw[List.take_add_one,h]; rfl
 rw[e,Z4c]
end Go.Known
end
section
namespace Go.Known
open Go Go.AE Go.Proofs
open Go.Plain
attribute [local simp] Zbv Zdd Zcl Zcs Zch Zcw Zby Zcv Zbp P1 P3 Q7 P6 Q9 P4 Zdx Zbu Zbi Zdw Zd1 Zb8 Zd2 Zbn Zb2 Zdt Zbt Zbo Zdf Zdj Zco Zbx Zd4 Zdg Zdp Zde Zbj Zcu Zdk Zcf Zcy Zc2 Zbf Zc5 Zcq Zb3 Zdz Zdb Zc9 Zc1 Zd3 Zce Zc6 Zcb Zc0 Zbh Zda Zb1 Zd5 Zd0 Zbl Zci Zdy Zc8 Zdc Zdq Zcm Zcz Za2 Zc4 Zdl Env.get W9 SMem.at SMem.app SMem.get Z8 R6 AVal.cells AVal.one T6 Q1 Zds Zb7 Zbw Zb9 Zbm Zbg Zcx Zbs Zcr Zdn Zdh Zct Zdr unA R5 U8 I4 M8 X9 aundef Zdi Zdm Zbk Zbz Zc3 Q3 V3 M6 M5 N9 I7 S1 J3 SubR SubRE SubRB InjK InjA qOf Zap AVal.ren Q0 Z3 ABlk.ren L9 S8 M2
def OkV(f:Int)(ls:List Lt):Prop:=ls=[]∨Ze2 f.toNat ls
open Classical in
noncomputable def W4(f:Int)(ls:List Lt):Int:=
 if 400<ls.length∨200<Y7 ls then 7 else if f<0∨40<f then 2 else if OkV f ls then 0 else 3
set_option maxRecDepth 100000 in
set_option maxHeartbeats 4000000 in
theorem c59(f:Int)(ls:List Lt)(h:ls.length≤1000) :
 Ctr Tryz.prog 73 [cV f ls] ⟨[],1⟩ fun r m=>(W4 f ls≠0∧r=.tuple [.nilPtr,.int .i64 (W4 f ls)]∧m=⟨[],1⟩) ∨
  (W4 f ls=0∧ls=[]∧0≤f∧f≤40∧r=.tuple [.ptr 1 0 0,.int .i64 0]∧m=dM1 f (ls.map rowL)) ∨
  (W4 f ls=0∧ls≠[]∧0≤f∧f≤40∧Ze2 f.toNat ls∧r=.tuple [.ptr 1 0 0,.int .i64 0]∧m=dF f.toNat ls (ls.map rowL) (crE ls ls.length)):=by
 refine J7 hm Tryz.func73 cf59 rfl rfl fun K hK=>?_
 have hR:=N8 ls;have hrr:∀ q,Z3 q (ls.map rowL)=ls.map rowL:=fun q=>Y6 q _ (Z9 ls)
 have h103:=c103 f ls h;have h104:=fun F hF=>c104 F ls h hF
 have hE:∀ e:Int,W4 f ls=e→e≠0 → ∀ m,SubR 1 [] [(0,.tuple [.nilPtr,.int .i64 e])] ⟨[],1⟩ [(0,.tuple [.nilPtr,.int .i64 e])] m→S4 1 K (.tuple [.nilPtr,.int .i64 e]) m:=
  fun e he hne m hs=>by subst he; exact Y1 (hK _ _ (.inl ⟨hne,rfl,rfl⟩)) [] hs
 unfold cV at *;generalize ls.map rowL=rows at *;have hlen:=hR.len;have hv:Z4 isX ls=Y7 ls:=rfl;by_cases hl:400<ls.length
 ·have hl':(400:Int)<(ls.length:Int):=by omega
  simp[hlen,hl,hl'];exact hE 7 (by unfold W4; rw[if_pos (.inl hl)]) (by omega) _ (by simp)
 have hl':¬(400:Int)<(ls.length:Int):=by omega
 simp[hlen,hl,hl'];refine W3 h103 ?_;rw[hv];by_cases hx:200<Y7 ls
 ·have hx':(200:Int)<(Y7 ls:Int):=by omega
  simp[hx,hx'];exact hE 7 (by unfold W4; rw[if_pos (.inr hx)]) (by omega) _ (by simp)
 have hx':¬(200:Int)<(Y7 ls:Int):=by omega
 have h7:¬(400<ls.length∨200<Y7 ls):=by omega
 by_cases hf1:f<0
 ·simp[hx,hx',hf1];exact hE 2 (by unfold W4; rw[if_neg h7,if_pos (.inl hf1)]) (by omega) _ (by simp)
 by_cases hf2:40<f
 ·simp[hx,hx',hf1,hf2];exact hE 2 (by unfold W4; rw[if_neg h7,if_pos (.inr hf2)]) (by omega) _ (by simp)
 have h2:¬(f<0∨40<f):=by omega
 obtain⟨F,hF⟩:∃ F:Nat,f=(F:Int):=⟨f.toNat,by omega⟩
 subst hF;simp[hx,hx',hf1,hf2];refine U6 (h104 F (by omega)) [(1,23)] (by simp) (by simp[hrr,Z7,Z5,X7]) (by simp) ?_
 rintro r sm (⟨h0,rfl,rfl⟩|⟨h0,hok,rfl,rfl⟩|⟨h0,hok,rfl,rfl⟩)
 ·have he:W4 F ls=0:=by unfold W4; rw[if_neg h7,if_neg h2,if_pos (.inl h0)]
  simp[hrr,Z7,Z5,X7];exact Y1 (hK _ _ (.inr (.inl ⟨he,h0,by omega,by omega,rfl,rfl⟩))) [(1,23)] (by simp[hrr,Z7,Z5,X7])
 ·have he:W4 F ls=0:=by unfold W4; rw[if_neg h7,if_neg h2,if_pos (.inr hok)]
  simp[hrr,Z7,Z5,X7];exact Y1 (hK _ _ (.inr (.inr ⟨he,h0,by omega,by omega,hok,rfl,rfl⟩))) [(1,23),(2,28),(3,29),(4,30),(5,31),(6,32)] (by simp[hrr,Z7,Z5,X7])
 ·simp[hrr,Z7,Z5,X7];exact hE 3 (by unfold W4; rw[if_neg h7,if_neg h2,if_neg (fun hh=>hh.elim h0 hok)]) (by omega) _ (by simp)
end Go.Known
end
section
namespace Go.Known
open Go Go.AE Go.Proofs
open Go.Plain
theorem FRow.one{w:List Nat×Bool}{row:List AVal}(h:FRow w row):∀ x,x∈row→x.one=true:=by
 obtain⟨ab,o,P,G,rfl,_⟩:=h;have hi:∀ rows:List (List AVal),(imV rows).one=true:=fun rows=>by unfold imV; split<;>rfl
 intro x hx;simp only[List.mem_cons,List.not_mem_nil,or_false]at hx;rcases hx with rfl|rfl|rfl|rfl|rfl<;>first|rfl|exact hi _
theorem Z7t{T:Nat→Nat}{n:Nat}(h:0<n):Za4 T n≠[]:=by
 obtain⟨k,rfl⟩:∃ k,n=k+1:=⟨n - 1,by omega⟩
 unfold Za4;rw[fcs,if_neg]
 ·simp
 ·rw[List.getD_eq_getElem?_getD,List.getElem?_replicate,if_pos (by omega)]; simp
set_option maxRecDepth 100000 in
set_option maxHeartbeats 8000000 in
theorem c7(f:Int)(ls:List Lt)(L:List (List Nat×Bool))(h:ls.length≤1000)(h0:ls≠[])(hF:Ctr Tryz.prog 81 [cV f ls] ⟨[],1⟩ fun v m=>∃ rows,RowsF L rows∧v=.tuple [.imm rows,.int .i64 0]∧m=⟨[],2⟩)
 (hL0:L≠[]) (hLl:L.length≤10000) (hLw:∀ w,w∈L→w.1≠[]∧w.1.length≤5000 ∧ ∀ x,x∈w.1→x<2*ls.length) :
 PCall Tryz.prog 38 [cV f ls] (.tuple [.imm (T3 (L.map (I5 ls))),.int .i64 0]):=by
 refine J9 hm 4 Tryz.func38 cf7 rfl rfl (by simp[Y0,AVal.closed,Z9]) (by simp[AVal.closed,Y0,Znn]) fun K hK=>?_
 have hR:=N8 ls;have hrr:∀ q,Z3 q (ls.map rowL)=ls.map rowL:=fun q=>Y6 q _ (Z9 ls)
 unfold cV at *;generalize ls.map rowL=rows at *;have hlen:=hR.len;have hlp:0<ls.length:=List.length_pos_iff.2 h0;simp;refine U6 hF [] (by simp[hrr]) (by simp) (by simp) ?_
 rintro r sm ⟨FR,hFR,rfl,rfl⟩;have hFl:FR.length=L.length:=hFR.1;have hFc:∀ q,Z3 q FR=FR:=fun q=>Y6 q _ hFR.closed
 simp[hFc,hFl];refine T1 (α:=Nat×List Pol) (fun a=>[(23,.int .i64 a.1),(22,.int .i64 L.length),(21,.imm FR),(6,slV 2 (T3 a.2)),(1,.ptr 1 0 0)]) (fun a=>⟨(1,.cells 2 [[.int .i64 f,.imm rows]]) :: blV 2 3 (T3 a.2) [],3⟩)
  (fun a=>L.length - a.1) (fun a=>a.1≤L.length∧a.2=(L.take a.1).map (I5 ls)) (0,[]) [] (by simp[hrr,hFc]) (by simp) ?_
 rintro⟨i,R⟩ ⟨hi,hRp⟩ N1 hN1;simp only at hi hRp hN1 ⊢;have hRl:R.length=i:=by rw[hRp]; simp; omega
 by_cases hlt:i<L.length
 ·obtain⟨w,hw⟩:∃ w,L[i]? = some w:=⟨_,gE hlt⟩
  obtain⟨row,hg,ab,o,P,G,rfl,hP⟩:=hFR.2 i w hw;obtain⟨_,hg2⟩:=Y9 hg;obtain⟨hwn,hwl,hwx⟩:=hLw w (List.mem_of_getElem? hw);have hwi:IntKind.i64.wrap ((i:Int)+1)=(i:Int)+1:=Z6 (by omega) (by omega)
  have htk:(L.take (i+1)).map (I5 ls)=R++[I5 ls w]:=by rw[List.take_add_one,hw,hRp]; simp
  have hin:decide (P=[]) = !w.2:=by
   cases hw2:w.2 with
   | true=>simpa using hP.1 hw2
   | false=>
    have:¬P≠[]:=fun e=>by have:=hP.2 e; rw[hw2]at this; cases this
    simpa using this
  have hRb:R.length≤1048575:=by omega
  have hwL:(Z0 w.1).length=w.1.length:=M0 _;have hwG:∀ (k x:Nat),w.1[k]? = some x→(Z0 w.1)[k]? = some [.int .i64 (x:Int)]:=fun k x=>D6
  have hwr:∀ q,Z3 q (Z0 w.1)=Z0 w.1:=fun q=>Z5 q _
  have hone:∀ x,x∈[AVal.bool ab,.imm (Z0 w.1),imV (G3 P),imV (G4 G),.bool o]→x.one=true:=by
   have:=FRow.one (w:=w) ⟨ab,o,P,G,rfl,hP⟩;rwa[Zex (rows:=Z0 w.1) (by simpa using hwn)]at this
  have hoP:(imV (G3 P)).one=true:=hone _ (by simp)
  have hoG:(imV (G4 G)).one=true:=hone _ (by simp)
  rw[Zex (rows:=Z0 w.1) (by simpa using hwn)]at hg hg2
  generalize Z0 w.1=wr at *;simp[hlt,hFl,hg,hg2,hin,hwL,hoP,hoG];refine T1 (α:=Nat) (fun k=>[(38,.int .i64 k),(37,.int .i64 w.1.length),(36,.imm wr),(23,.int .i64 i),(22,.int .i64 L.length),(21,.imm FR),(9,.ptr 3 0 0),(6,slV 2 (T3 R)),(1,.ptr 1 0 0)])
   (fun k=>⟨(1,.cells 2 [[.int .i64 f,.imm rows]]) :: (3,.cells 3 [[.int .i64 (Zaj ls (w.1.take k):Nat),.int .i64 w.1.length,.bool (!w.2)]]) :: blV 2 3 (T3 R) [],4⟩)
   (fun k=>w.1.length - k) (fun k=>k≤w.1.length) 0 [(3,16)] (by simp +contextual [hrr,hFc,hwr,Zaj]) (by simp) ?_
  intro k hk N2 hN2
  try simp only at hk hN2 ⊢
  by_cases hklt:k<w.1.length
  ·obtain⟨x,hx⟩:∃ x,w.1[k]? = some x:=⟨_,gE hklt⟩
   have hxg:=hwG k x hx;obtain⟨hxl,hxg2⟩:=Y9 hxg;have hxn:=hwx x (List.mem_of_getElem? hx);have hwk:IntKind.i64.wrap ((k:Int)+1)=(k:Int)+1:=Z6 (by omega) (by omega)
   have hct:=Z6w (ls:=ls) hx;have hcl:=Ycv ls (w.1.take k);rw[List.length_take]at hcl;have hhl:=Zah hxn;unfold isC at hct;obtain⟨u,hu⟩:∃ u,X3 ls.length x=u:=⟨_,rfl⟩
   rw[hu]at hct hhl;have hrow:=hR.row u hhl;obtain⟨_,hrow2⟩:=Y9 hrow;generalize Zaj ls (w.1.take k)=c at *;have hwc:IntKind.i64.wrap ((c:Int)+1)=(c:Int)+1:=Z6 (by omega) (by omega)
   have hn0:¬((ls.length:Int)=0):=by omega
   have htm:(x:Int).tmod 2=((x % 2:Nat):Int):=rfl;obtain⟨g,hgx⟩:∃ g,x / 2=g:=⟨_,rfl⟩
   have hwd:IntKind.i64.wrap ((x:Int) / 2)=(g:Int):=by rw[Z6 (by omega) (by omega)]; omega
   unfold X3 at hu;rw[hgx]at hu;have key:∀ e mm,SubR 1 [] [(38,.int .i64 ((k+1:Nat):Int)),(37,.int .i64 w.1.length),(36,.imm wr),(23,.int .i64 i),(22,.int .i64 L.length),(21,.imm FR),(9,.ptr 3 0 0),(6,slV 2 (T3 R)),(1,.ptr 1 0 0)]
    ⟨(1,.cells 2 [[.int .i64 f,.imm rows]]) :: (3,.cells 3 [[.int .i64 ((c+if (at' ls u).k == 2 then 1 else 0:Nat):Int),.int .i64 w.1.length,.bool (!w.2)]]) :: blV 2 3 (T3 R) [],4⟩ e mm→N2 e mm:=fun e mm hs=>hN2 (k+1) [] e mm (by omega) (by omega) (by simp only[hct]; exact hs)
   by_cases hp:x % 2=0
   ·rw[if_pos hp]at hu;have hwe:IntKind.i64.wrap ((g:Int)+1)=(g:Int)+1:=Z6 (by omega) (by omega)
    have hm2:((g:Int)+1).tmod (ls.length:Int)=(u:Int):=by rw[← hu]; rfl
    by_cases hk2:(at' ls u).k=2<;>simp[hklt,hwL,hxg,hxg2,htm,hp,hwd,hwe,hm2,hlen,hn0,h0,hhl,hrow,hrow2,rowL,hk2,hwc,hwk]<;>exact key _ _ (by simp +contextual [hrr,hFc,hwr,hk2])
   ·rw[if_neg hp]at hu;subst hu;have hp':¬(((x % 2:Nat):Int)=0):=by omega
    generalize x % 2=z at *;by_cases hk2:(at' ls g).k=2<;>simp[hklt,hwL,hxg,hxg2,htm,hp,hwd,hlen,hhl,hrow,hrow2,rowL,hk2,hwc,hwk]<;>exact key _ _ (by simp +contextual [hrr,hFc,hwr,hk2])
  ·have hke:k=w.1.length:=by omega
   subst hke;rw[List.take_length];simp[hwL,hRb,hwi];refine hN1 (i+1,R++[I5 ls w]) [(2,8)] _ _ (by simp; omega) ⟨by simp; omega,htk.symm⟩ (by simp[hrr,hFc,Yeu,I5])
 ·have hie:i=L.length:=by omega
  subst hie;rw[List.take_length]at hRp;subst hRp;have hRn:T3 (L.map (I5 ls))≠[]:=by simpa using hL0
  simp[hFl];refine Y1 (hK (.tuple [slV 2 (T3 (L.map (I5 ls))),.int .i64 0]) ⟨blV 2 3 (T3 (L.map (I5 ls))) [],3⟩ ?_) [] (by simp +contextual)
  rw[Zet hRn];rw[X0];simp only[W6,Zhp (get:=SMem.get ⟨blV 2 3 (T3 (L.map (I5 ls))) [],3⟩) (b:=2) (n:=2) (k:=3) (by simp[Zd7,hRn]) (Z11 (L.map (I5 ls)))]
  rfl
set_option maxRecDepth 100000 in
set_option maxHeartbeats 8000000 in
theorem c8(f:Int)(ls:List Lt)(ps:List Pol)(hP:PCall Tryz.prog 38 [cV f ls] (.tuple [imV (T3 ps),.int .i64 0]))(hl:ps.length≤10000)(hc:∀ p,p∈ps→p.1<6000) :
 PCall Tryz.prog 39 [cV f ls] (.tuple [imV (Z0 (C7 ps)),.int .i64 0]):=by
 refine J9 hm 4 Tryz.func39 cf8 rfl rfl (by simp[Y0,AVal.closed,Z9]) (by simp[AVal.closed,Y0,G6,G0]) fun K hK=>?_
 have hrr:∀ q,Z3 q (ls.map rowL)=ls.map rowL:=fun q=>Y6 q _ (Z9 ls)
 have hpl:(T3 ps).length=ps.length:=Ya4 ps;have hpg:∀ (i:Nat) (p:Pol),ps[i]? = some p→(T3 ps)[i]? = some [.int .i64 (p.1:Nat),.int .i64 (p.2.1:Nat),.bool p.2.2]:=fun i p=>Z55
 have hpn:0<ps.length→imV (T3 ps)=.imm (T3 ps):=fun h=>Zex (by intro e; rw[Z2a]at e; subst e; simp at h)
 have hpr:∀ q,(imV (T3 ps)).ren q=imV (T3 ps):=fun q=>AVal.ren_closed q _ (G6 (Znn ps))
 unfold cV at *;generalize ls.map rowL=rows at *;simp;refine W3 hP ?_;simp;refine T1 (α:=Nat×List Nat) (fun a=>[(19,.int .i64 a.1),(18,.int .i64 ps.length),(17,imV (T3 ps)),(6,slV 2 (Z0 a.2)),(1,.ptr 1 0 0)]) (fun a=>⟨(1,.cells 2 [[.int .i64 f,.imm rows]]) :: blV 2 1 (Z0 a.2) [],3⟩)
  (fun a=>ps.length - a.1) (fun a=>a.1≤ps.length∧a.2=(ps.take a.1).foldl R1 []∧a.2.length≤6000 ∧ ∀ x,x∈a.2→x≤a.1) (0,[]) [] (by simp[hrr,hpr]) (by simp) ?_
 rintro⟨i,out⟩ ⟨hi,ho,hol,hob⟩ N1 hN1;simp only at hi ho hol hob hN1 ⊢;by_cases hlt:i<ps.length
 ·obtain⟨p,hp⟩:∃ p,ps[i]? = some p:=⟨_,gE hlt⟩
  have hg:=hpg i p hp;obtain⟨_,hg2⟩:=Y9 hg;have hwi:IntKind.i64.wrap ((i:Int)+1)=(i:Int)+1:=Z6 (by omega) (by omega)
  have hft:(ps.take (i+1)).foldl R1 []=R1 out p:=by rw[ho]; exact Yc5 R1 [] hp
  have hpc:=hc p (List.mem_of_getElem? hp);have hpn':=hpn (by omega)
  have hsl:=Ybz (out:=out) (p:=p) (b:=6000) hol hpc;have hsb:=Z17 (out:=out) (p:=p) hob;have hN:=hN1 (i+1,R1 out p);simp only at hN;rw[hpn']at hN hpr ⊢;have hpr':∀ q,Z3 q (T3 ps)=T3 ps:=fun q=>Z5l q ps
  obtain⟨pc,psd,pin⟩:=p;cases pin with
  | false=>
   have he:R1 out (pc,psd,false)=out:=by simp[R1]
   rw[he]at hN hsb hft;simp[hlt,hpl,hg,hg2,hwi];exact hN [] _ _ (by omega) ⟨by omega,hft.symm,hol,hsb⟩ (by simp +contextual [hrr,hpr',Z5])
  | true=>
   have he:R1 out (pc,psd,true)=E4 (A2 out pc) pc:=by simp[R1]
   simp only at hpc;simp[hlt,hpl,hg,hg2];refine T1 (α:=Nat) (fun j=>[(19,.int .i64 i),(18,.int .i64 ps.length),(17,.imm (T3 ps)),(8,.ptr 3 0 0),(6,slV 2 (Z0 (out++List.replicate j 0))),(1,.ptr 1 0 0)])
    (fun j=>⟨(1,.cells 2 [[.int .i64 f,.imm rows]]) :: (3,.cells 3 [[.int .i64 pc,.int .i64 psd,.bool true]]) :: blV 2 1 (Z0 (out++List.replicate j 0)) [],4⟩)
    (fun j=>7000 - j) (fun j=>j≤pc+1 - out.length) 0 [(3,6)] (by simp +contextual [hrr,hpr',Z5]) (by simp) ?_
   intro j hj N2 hN2
   try simp only at hj hN2 ⊢
   have hXl:(out++List.replicate j 0).length=out.length+j:=by simp
   by_cases hle:out.length+j≤pc
   ·have e1:out++List.replicate (j+1) 0=(out++List.replicate j 0)++[0]:=by rw[List.append_assoc,List.replicate_succ']
    have hle':(out.length:Int)+(j:Int)≤(pc:Int):=by omega
    have hXb:out.length+j≤1048575:=by omega
    have hXn:(Z0 (out++List.replicate j 0)).length=out.length+j:=by rw[M0,hXl]
    have hrX:∀ q,Z3 q (Z0 (out++List.replicate j 0))=Z0 (out++List.replicate j 0):=fun q=>Z5 q _
    have e2:Z0 (out++List.replicate (j+1) 0)=Z0 (out++List.replicate j 0)++[[.int .i64 0]]:=by rw[e1]; simp[Z0]
    have hN3:=hN2 (j+1) [(2,11)];rw[e2]at hN3;generalize Z0 (out++List.replicate j 0)=X at *;simp[hXb,hXn,hle'];exact hN3 _ _ (by omega) (by omega) (by simp +contextual [hrr,hpr',hrX,hXn])
   ·have hje:j=pc+1 - out.length:=by omega
    subst hje;have hle':¬out.length+(pc+1 - out.length)≤pc:=by omega
    have hYl:(Z0 (out++List.replicate (pc+1 - out.length) 0)).length=out.length+(pc+1 - out.length):=by rw[M0,hXl]
    have hgY:out++List.replicate (pc+1 - out.length) 0=A2 out pc:=rfl;rw[hgY]at hYl ⊢;have hYb:∀ x,x∈A2 out pc→x≤i:=fun x hx=>by
     rcases List.mem_append.1 hx with h1|h1
     ·exact hob x h1
     ·have:=(List.mem_replicate.1 h1).2; omega
    have hpY:pc<(A2 out pc).length:=by rw[Zkc]; omega
    have hYL:(A2 out pc).length=out.length+(pc+1 - out.length):=by rw[← hgY]; simp
    rw[he]at hN hsl hsb hft;generalize A2 out pc=Y at *;obtain⟨y,hy⟩:∃ y,Y[pc]? = some y:=⟨_,gE hpY⟩
    have hyg:=D6 hy;have hyb:=hYb y (List.mem_of_getElem? hy);obtain⟨hyl,hyg2⟩:=Y9 hyg;have hwy:IntKind.i64.wrap ((y:Int)+1)=((y+1:Nat):Int):=by rw[Z6 (by omega) (by omega)]; omega
    have hset:(Z0 Y).set pc [AVal.int .i64 ((y+1:Nat):Int)]=Z0 (E4 Y pc):=by
     rw[Zfb];simp[E4,List.getD_eq_getElem?_getD,hy]
    have hYn:Z0 Y≠[]:=by intro e; rw[e]at hyl; simp at hyl
    have hrZ:∀ q,Z3 q (Z0 (E4 Y pc))=Z0 (E4 Y pc):=fun q=>Z5 q _
    have hZl:(Z0 (E4 Y pc)).length=(Z0 Y).length:=by rw[← hset]; simp
    have hZn:Z0 (E4 Y pc)≠[]:=by intro e; rw[e]at hZl; simp at hZl; exact hYn (by simpa using hZl.symm)
    generalize E4 Y pc=Z at *;generalize Z0 Z=Zr at *;generalize Z0 Y=Yr at *;have hpl2:pc<out.length+(pc+1 - out.length):=by omega
    rw[hYl]at hZl;generalize out.length+(pc+1 - out.length)=n at *;simp[hle',hYl,hyg,hyg2,hwy,hset,hwi,Zet,Zd7,hYn,hpl2,-Int.natCast_add];exact hN [] _ _ (by omega) ⟨by omega,hft.symm,hsl,hsb⟩ (by simp[hrr,hpr',hrZ,Zet,Zd7,hZn,hZl])
 ·have hie:i=ps.length:=by omega
  subst hie;rw[List.take_length]at ho;simp;refine Y1 (hK (.tuple [slV 2 (Z0 out),.int .i64 0]) ⟨blV 2 1 (Z0 out) [],3⟩ ?_) [] (by simp +contextual [Z5])
  rw[ho];unfold C7;rw[X0];simp only[W6,Zoe (get:=SMem.get ⟨blV 2 1 (Z0 (ps.foldl R1 [])) [],3⟩) (b:=2) (n:=1) (k:=1) (by simp) (Zlr (ps.foldl R1 []))]
  rfl
end Go.Known
end
