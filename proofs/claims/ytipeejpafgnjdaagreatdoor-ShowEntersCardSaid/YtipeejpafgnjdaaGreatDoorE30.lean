/- Part 30 of the proof: Rk, Rl, Rm, Rn, Rq. -/
import Derived.Test.YtipeejpafgnjdaaGreatDoorE15
import Derived.Test.YtipeejpafgnjdaaGreatDoorE27
import Derived.Test.YtipeejpafgnjdaaGreatDoorE29
set_option linter.all false
section
namespace Go.Known
open Go Go.AE Go.Proofs
open Go.Plain
theorem Z0w {T:Nat→Nat} {N d:Nat} {seen:List Bool} (hd:d<N) (h:seen[d]? = some true):wks T N (N - d) seen=wks T N (N - (d+1)) seen:=by
 obtain⟨k,hk⟩:∃ k,N - d=k+1:=⟨N - d - 1,by omega⟩
 rw [hk,wks,show N - (k+1)=d by omega,Zh7 h,if_pos rfl]
 congr 1; omega
theorem Z3i {T:Nat→Nat} {N d:Nat} {seen:List Bool} (hd:d<N) (h:seen[d]? = some false):wks T N (N - d) seen=tr T (N+1) seen d :: wks T N (N - (d+1)) (Plain.mark T (N+1) seen d):=by
 obtain⟨k,hk⟩:∃ k,N - d=k+1:=⟨N - d - 1,by omega⟩
 rw [hk,wks,show N - (k+1)=d by omega,Zh7 h,if_neg (by simp)]
 congr 2; omega
theorem Z4j {T:Nat→Nat} {k x:Nat} {seen:List Bool} (h:seen[x]? = some true):tr T k seen x=[]:=by
 cases k with
 | zero=>rfl
 | succ k=>rw [tr,Zh7 h,if_pos rfl]
theorem Z2d {T:Nat→Nat} {k x:Nat} {seen:List Bool} (h:seen[x]? = some false):tr T (k+1) seen x=x :: tr T k (seen.set x true) (T x):=by
 rw [tr,Zh7 h,if_neg (by simp)]
set_option maxRecDepth 100000 in
set_option maxHeartbeats 4000000 in
theorem c16 (f:Int) (ls:List Lt) (T:Nat→Nat) (m:Nat) (h:ls.length≤1000) (h0:0<Zah ls) (hm':(axis ls).length=m) (hml:m≤1000)
 (hT:∀ d,d<2*ls.length+2*m→T d<2*ls.length+2*m) (hC:∀ d,d<2*ls.length+2*m→PCall Tryz.prog 103 [cV f ls,.imm (nums (axis ls)),.int .i64 d] (.int .i64 (T d:Nat))) :
 PCall Tryz.prog 87 [cV f ls] (.imm (Zfn (Zle T (2*ls.length+2*m)))):=by
 refine Zcx hm 3 Tryz.func87 cf16 rfl rfl (by simp [Zae,Zbv]) (by simp [AVal.closed,Zf4]) fun K hK=>?_
 have hR:=Zbx ls
 have h39:=c39 f ls h h0
 have hal:(nums (axis ls)).length=m:=by rw [Zuz]; exact hm'
 have hrr:∀ q,Zam q (ls.map rowL)=ls.map rowL:=fun q=>Zaa q _ (Zab ls)
 have hra:∀ q,Zam q (nums (axis ls))=nums (axis ls):=fun q=>Zac q _
 unfold cV at *
 generalize ls.map rowL=rows at *
 generalize nums (axis ls)=axr at *
 have hlen:=hR.len
 generalize hN:2*ls.length+2*m=N at *
 have hw1:IntKind.i64.wrap (2*(ls.length:Int))=2*(ls.length:Int):=Zad (by omega) (by omega)
 have hw2:IntKind.i64.wrap (2*(m:Int))=2*(m:Int):=Zad (by omega) (by omega)
 have hw3:IntKind.i64.wrap (2*(ls.length:Int)+2*(m:Int))=(N:Int):=by rw [Zad (by omega) (by omega)]; omega
 have hNr:N≤1048576:=by omega
 simp
 refine Zai h39 ?_
 obtain⟨S0,hS0⟩:∃ S0,List.replicate N false=S0:=⟨_,rfl⟩
 have e1:List.replicate N [AVal.bool false]=bls S0:=by rw [← hS0,Zqm]
 have hS0l:S0.length=N:=by rw [← hS0]; simp
 simp [hlen,hal,hw1,hw2,hw3,hNr,e1]
 refine Zu0 (α:=Nat×List Bool×List (List Nat)) (fun a=>[(6,.int .i64 a.1),(5,.sl 2 0 N),(4,.imm axr),(3,slV 3 (Zfn a.2.2)),(1,.ptr 1 0 0)])
  (fun a=>⟨(1,.cells 2 [[.int .i64 f,.imm rows]]) :: (2,.cells 1 (bls a.2.1)) :: blV 3 1 (Zfn a.2.2) [],4⟩)
  (fun a=>N - a.1) (fun a=>a.1≤N∧a.2.1.length=N∧a.2.2.length≤a.1∧a.2.2++wks T N (N - a.1) a.2.1=Zle T N) (0,S0,[]) (SubR.wk (l:=[(2,15)]) (by simp [hrr,hra,Zaq,Zfn])) ⟨by simp,hS0l,by simp,by simp [Zle,hS0]⟩ ?_
 rintro⟨d,seen,out⟩ ⟨hd,hsl,hol,hout⟩ N1 hN1
 simp only at hd hsl hol hout hN1 ⊢
 by_cases hlt:d<N
 · have hwd:IntKind.i64.wrap ((d:Int)+1)=(d:Int)+1:=Zad (by omega) (by omega)
   obtain⟨b,hb⟩:∃ b,seen[d]? = some b:=⟨_,List.getElem?_eq_getElem (by omega)⟩
   have hbg:=Zh3 hb
   have hbl:(bls seen).length=N:=by rw [bls,List.length_map,hsl]
   obtain⟨_,hbg2⟩:=getE hbg
   cases b with
   | true=>
    rw [Z0w hlt hb] at hout
    generalize hSe:bls seen=S at *
    simp [hlt,hbg,hbg2,hbl,hwd]
    exact hN1 (d+1,seen,out) _ _ (by simp; omega) ⟨by simp; omega,hsl,by simp; omega,hout⟩ (SubR.wk (l:=[]) (by simp +contextual [hrr,hra,← hSe,Zaq,Zhx]))
   | false=>
    rw [Z3i hlt hb] at hout
    generalize hSe:bls seen=S at *
    simp [hlt,hbg,hbg2,hbl]
    subst hSe
    refine Zay (α:=Nat×List Bool×List Nat×Nat) (fun a=>[(8,.int .i64 a.1),(7,slV 4 (nums a.2.2.1)),(6,.int .i64 d),(5,.sl 2 0 N),(4,.imm axr),(3,slV 3 (Zfn out)),(1,.ptr 1 0 0)])
     (fun a=>⟨(1,.cells 2 [[.int .i64 f,.imm rows]]) :: (2,.cells 1 (bls a.2.1)) :: blV 3 1 (Zfn out) (blV 4 1 (nums a.2.2.1) []),5⟩)
     (fun a=>Ze8 a.2.1) (fun a=>a.1<N∧a.2.1.length=N∧Ze8 a.2.1<a.2.2.2∧a.2.2.1.length+Ze8 a.2.1≤N∧Plain.mark T (N+1) seen d=Plain.mark T a.2.2.2 a.2.1 a.1∧tr T (N+1) seen d=a.2.2.1++tr T a.2.2.2 a.2.1 a.1) (d,seen,[],N+1) [] (by simp +contextual [hrr,hra,Zaq,Zhx]) ⟨hlt,hsl,by have:=Zhs (l:=seen); simp; omega,by have:=Zhs (l:=seen); simp; omega,rfl,rfl⟩ ?_
    rintro⟨x,sn,w,fu⟩ ⟨hx,hsn,hfu,hwl,hmk,htr⟩ N2 hN2
    simp only at hx hsn hfu hwl hmk htr hN2 ⊢
    obtain⟨b2,hb2⟩:∃ b2,sn[x]? = some b2:=⟨_,List.getElem?_eq_getElem (by omega)⟩
    have hb2g:=Zh3 hb2
    have hb2l:(bls sn).length=N:=by rw [bls,List.length_map,hsn]
    obtain⟨_,hb2g2⟩:=getE hb2g
    cases b2 with
    | true=>
     rw [Zr5 hb2] at hmk
     rw [Z4j hb2,List.append_nil] at htr
     rw [hmk,htr] at hout
     have hwn:w≠[]:=by
      rw [← htr,Z2d hb]; simp
     generalize hSe:bls sn=S at *
     have hlo:(Zfn out).length≤1048575:=by rw [Zh0]; omega
     simp [hx,hb2g,hb2g2,hb2l,hwd,hlo]
     refine hN1 (d+1,sn,out++[w]) _ _ (by simp; omega) ⟨by simp; omega,hsn,by simp; omega,by simp [← hout]⟩ (SubF.wk (l:=[(3,13)]) (S:=[4]) ⟨by simp,by simp,by simp [Zl4,hrr,hra],?_,by simp [Zl4]⟩)
     have hnw:nums w≠[]:=by simpa using hwn
     simp [SubFB,Zl4,hrr,Zhx,Zaq,← hSe]
     refine .inr ⟨1,_,⟨rfl,rfl⟩,rfl,?_⟩
     rw [Zac,Zw5 (Zf4 _)]
     simp [Z29,imV,hwn]
    | false=>
     have hun:=Zl6 hb2
     have hset:=Zqy sn x true
     obtain⟨fu',rfl⟩:∃ fu',fu=fu'+1:=⟨fu - 1,by omega⟩
     rw [Zud hb2] at hmk
     rw [Z2d hb2] at htr
     have hcx:=hC x hx
     have hTx:=hT x hx
     have hlo:w.length≤1048575:=by omega
     have hsn1:(sn.set x true).length=N:=by simpa using hsn
     generalize sn.set x true=sn1 at *
     generalize hSe:bls sn=S at *
     simp [hx,hb2g,hb2g2,hb2l,hset,hlo]
     refine Zai hcx ?_
     simp
     exact hN2 (T x,sn1,w++[x],fu') [(4,17)] _ _ (by simp; omega) ⟨hTx,hsn1,by simp; omega,by simp; omega,hmk,by simp [htr]⟩ (by simp +contextual [hrr,hra,Zaq,Zhx,Zac,← hSe])
 · have he:d=N:=by omega
   subst he
   rw [Nat.sub_self] at hout
   simp only [wks,List.append_nil] at hout
   subst hout
   have hwn:Zfn (Zle T d)≠[]:=by
    have hcp:=Zvz (T:=T) (N:=d) (by have:=Zbj ls; omega)
    have hl:=Zid T d d (List.replicate d false)
    intro e
    have:=Zh0 (Zle T d)
    rw [e] at this
    unfold Zle at this
    unfold Zg7 at hcp
    simp at this
    omega
   simp
   refine endK (hK (slV 3 (Zfn (Zle T d))) ⟨blV 3 1 (Zfn (Zle T d)) [],4⟩ ?_) [] (by simp +contextual [Zhx])
   simp only [slV,if_neg hwn]
   exact Zeb (k:=1) (by simp [hwn]) (Zvy _)
theorem c16' (f:Int) (ls:List Lt) (h:ls.length≤1000) (h0:0<Zah ls) (hk:∀ v,v<ls.length→(at' ls v).k≠2→(at' ls v).k=1) :
 PCall Tryz.prog 87 [cV f ls] (.imm (Zfn (Zle (Zci ls (axis ls)) (2*ls.length+2*Zah ls)))):=by
 have hal:=Zbj ls
 have hax:∀ v,v∈axis ls→v<ls.length:=fun v hv=>(mem_axis.1 hv).1
 have hmm:∀ v,v<ls.length→(at' ls v).k≠2→v∈axis ls:=fun v hv h2=>mem_axis.2 ⟨hv,by simp [isP,hk v hv h2]⟩
 have hpl:Zah ls≤ls.length:=Za9
 refine c16 f ls _ _ h h0 hal (by omega) (fun d hd=>?_) (fun d hd=>?_)
 · rw [← hal] at hd ⊢
   exact Znz hax hmm (by omega) hd
 · by_cases hd1:2*ls.length≤d
   · exact c40a f ls _ d h (by omega) hd1 (by omega) hax
   · exact c40b f ls _ d h (by omega) hd1 hmm (by omega)
end Go.Known
end
section
namespace Go.Known
open Go Go.AE Go.Proofs
open Go.Plain
def prow (l:List (Int×Int)):List (List AVal):=l.map fun p=>[.int .i64 p.1,.int .i64 p.2]
def irow (l:List Int):List (List AVal):=l.map fun x=>[.int .i64 x]
@[simp] theorem Z3n (l : List (Int × Int)) : (prow l).length = l.length := by simp [prow]
@[simp] theorem Z2y (l : List Int) : (irow l).length = l.length := by simp [irow]
@[simp] theorem prow_nil0 : prow [] = [] := rfl
@[simp] theorem irow_nil0 : irow [] = [] := rfl
@[simp] theorem prow_nil {l : List (Int × Int)} : prow l = [] ↔ l = [] := by simp [prow]
@[simp] theorem irow_nil {l : List Int} : irow l = [] ↔ l = [] := by simp [irow]
@[simp] theorem take_prow (l : List (Int × Int)) : (prow l).take l.length = prow l := List.take_of_length_le (by simp)
@[simp] theorem take_irow (l : List Int) : (irow l).take l.length = irow l := List.take_of_length_le (by simp)
theorem Zhb:∀ (l:List (Int×Int)),Zap (prow l)=true
 | []=>rfl
 | p :: r=>by
  have:=Zhb r
  simp only [prow,List.map_cons,Zap,Zae,AVal.closed,Bool.and_true,Bool.true_and] at this ⊢
  exact this
theorem Zg8:∀ (l:List Int),Zap (irow l)=true
 | []=>rfl
 | p :: r=>by
  have:=Zg8 r
  simp only [irow,List.map_cons,Zap,Zae,AVal.closed,Bool.and_true,Bool.true_and] at this ⊢
  exact this
@[simp] theorem ren_prow (q : Nat → Nat) (l : List (Int × Int)) : Zam q (prow l) = prow l := Zaa q _ (Zhb l)
@[simp] theorem ren_irow (q : Nat → Nat) (l : List Int) : Zam q (irow l) = irow l := Zaa q _ (Zg8 l)
@[simp] theorem all_prow (l : List (Int × Int)) : ((prow l).all fun x => x.length == 2) = true := by simp [prow]
@[simp] theorem all_irow (l : List Int) : ((irow l).all fun x => x.length == 1) = true := by simp [irow]
theorem Zch {rows:List (List AVal)} (h:Zap rows=true):(imV rows).closed=true:=by unfold imV; split<;>first | rfl | exact h
@[simp] theorem imV_nil : imV [] = .nilSl := rfl
@[simp] theorem ren_imVi (q : Nat → Nat) (l : List Int) : (imV (irow l)).ren q = imV (irow l) := AVal.ren_closed q _ (Zch (Zg8 l))
@[simp] theorem ren_imVp (q : Nat → Nat) (l : List (Int × Int)) : (imV (prow l)).ren q = imV (prow l) := AVal.ren_closed q _ (Zch (Zhb l))
@[simp] theorem ren_imVn (q : Nat → Nat) (l : List Nat) : (imV (nums l)).ren q = imV (nums l) := AVal.ren_closed q _ (Zch (Zbc l))
@[simp] theorem sl_imV (rows : List (List AVal)) : Zav (imV rows) = some rows.length := by
 unfold imV
 split
 · rename_i h; subst h; rfl
 · rfl
end Go.Known
end
section
namespace Go.Known
open Go Go.AE Go.Proofs
open Go.Plain
theorem Ztp {get:Nat→Option ABlk} {b k n:Nat} {rows:List (List AVal)} (hg:get b=if rows=[] then none else some (.cells k rows)) (hs:∀ row,row∈rows → ∀ x,x∈row→Zaj get (n+1) x=some x):Zaj get (n+2) (slV b rows)=some (imV rows):=by
 unfold slV imV
 by_cases h:rows=[]
 · rw [if_pos h,if_pos h]; rfl
 · rw [if_neg h,if_neg h]
   exact Zeb (by rw [hg,if_neg h]) hs
def FRow (w:List Nat×Bool) (row:List AVal):Prop:=∃ (ab o:Bool) (P:List (Int×Int)) (G:List Int),row=[.bool ab,imV (nums w.1),imV (prow P),imV (irow G),.bool o]∧(w.2=true↔P≠[])
theorem FRow.closed {w:List Nat×Bool} {row:List AVal} (h:FRow w row):Zae row=true:=by
 obtain⟨ab,o,P,G,rfl,_⟩:=h
 simp only [Zae,AVal.closed,Zch (Zbc _),Zch (Zhb _),Zch (Zg8 _),Bool.and_true]
def RowsF (l:List (List Nat×Bool)) (rows:List (List AVal)):Prop:=rows.length=l.length ∧ ∀(i:Nat) (w:List Nat×Bool),l[i]? = some w → ∃ row,rows[i]? = some row∧FRow w row
theorem RowsF.row {l:List (List Nat×Bool)} {rows:List (List AVal)} (h:RowsF l rows):∀ row,row∈rows → ∃ w,FRow w row:=by
 intro row hr
 obtain⟨i,hi⟩:=List.getElem?_of_mem hr
 have hil:i<l.length:=by rw [← h.1]; exact(List.getElem?_eq_some_iff.1 hi).1
 obtain⟨r2,h1,h2⟩:=h.2 i _ (List.getElem?_eq_getElem hil)
 rw [hi] at h1
 injection h1 with h1
 subst h1
 exact⟨_,h2⟩
theorem RowsF.closed {l:List (List Nat×Bool)} {rows:List (List AVal)} (h:RowsF l rows):Zap rows=true:=by
 have:∀ rs:List (List AVal),(∀ row,row∈rs→Zae row=true)→Zap rs=true:=by
  intro rs
  induction rs with
  | nil=>intro _; rfl
  | cons a r ih=>intro hh; simp only [Zap,Bool.and_eq_true]; exact⟨hh a (List.mem_cons_self ..),ih fun b hb=>hh b (List.mem_cons_of_mem _ hb)⟩
 exact this rows fun row hr=>(h.row row hr).elim fun _ hw=>hw.closed
theorem RowsF.nil:RowsF [] []:=⟨rfl,fun i w h=>by simp at h⟩
theorem Zst (T:Nat→Nat):∀ (k:Nat) (seen:List Bool) (x:Nat),(tr T k seen x).length≤k
 | 0,_,_=>Nat.le_refl _
 | k+1,seen,x=>by
  simp only [tr]
  split
  · simp
  · have:=Zst T k (seen.set x true) (T x)
    simp; omega
end Go.Known
end
section
namespace Go.Known
open Go Go.AE Go.Proofs
open Go.Plain
theorem Z2a {rows:List (List AVal)} (h:¬rows=[]):imV rows=.imm rows:=by simp [imV,h]
end Go.Known
end
section
namespace Go.Known
open Go Go.AE Go.Proofs
open Go.Plain
theorem FRow.one {w:List Nat×Bool} {row:List AVal} (h:FRow w row):∀ x,x∈row→x.one=true:=by
 obtain⟨ab,o,P,G,rfl,_⟩:=h
 have hi:∀ rows:List (List AVal),(imV rows).one=true:=fun rows=>by unfold imV; split<;>rfl
 intro x hx
 simp only [List.mem_cons,List.not_mem_nil,or_false] at hx
 rcases hx with rfl | rfl | rfl | rfl | rfl<;>first | rfl | exact hi _
end Go.Known
end
