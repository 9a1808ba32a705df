/- Part 47 of the proof: Gd, Ge. -/
import Derived.Test.YtilmpmlkndfbjaaGreatDoorK46
set_option linter.all false
section
namespace Go.Ab
open Go Go.AE Go.Proofs
open Go.Plain
def Db(l:List (List UInt8))(k:Nat):List UInt8:=l.getD k []
theorem SD(ls:List (List UInt8)){i:Nat}(h:i<ls.length):(Z2 ls)[i]? = some [.str (Db ls i)]:=by
 unfold Z2;rw[gM,gE h,Db,List.getD,gE h];rfl
theorem vE(Q:List (List UInt8))(i:Nat)(x:List UInt8):(Z2 Q).set i [.str x]=Z2 (Q.set i x):=by
 unfold Z2;exact(List.map_set (f:=fun s=>[Aa.str s])).symm
theorem cF{Q:List (List UInt8)}{i k:Nat}{x:List UInt8}(hi:i<Q.length):Db (Q.set i x) k=if k=i then x else Db Q k:=by
 unfold Db;rw[List.getD_eq_getElem?_getD,List.getD_eq_getElem?_getD,List.getElem?_set];by_cases h:i=k
 ·subst h; simp[hi]
 ·rw[iN h,iN (fun e=>h e.symm)]
theorem Z84{ls:List (List UInt8)}{k:Nat}(hk:k<ls.length):Db ls.reverse k=Db ls (ls.length - 1 - k):=by
 unfold Db;rw[List.getD_eq_getElem?_getD,List.getD_eq_getElem?_getD,List.getElem?_reverse hk]
theorem xo{a b:List (List UInt8)}(hl:a.length=b.length)(h:∀ k,k<a.length→Db a k=Db b k):a=b:=by
 refine List.ext_getElem hl fun k h1 h2=>?_
 have:=h k h1;simpa[Db,List.getD,h1,h2]using this
set_option maxHeartbeats 4000000 in
theorem Z6i(ls:List (List UInt8))(hl:ls.length≤1000) :
 Cc Tryz.prog 42 [.sl 1 0 ls.length] ⟨[(1,.cells 1 (Z2 ls))],2⟩ fun v m=>v=.tuple []∧m=⟨[(1,.cells 1 (Z2 ls.reverse))],2⟩:=by
 refine Ih hm Tryz.func42 Pp rfl rfl fun K hK=>?_
 have hw1:=X5 ((ls.length:Int) - 1);have hKv:=hK _ _ ⟨rfl,rfl⟩;clear hK;have As:∀ (Q:List (List UInt8)) q,Z3 q (Z2 Q)=Z2 Q:=fun Q q=>X7 q _ (QE Q)
 obtain⟨n,hn⟩:∃ n,ls.length=n:=⟨_,rfl⟩
 rw[hn]at hw1 hl ⊢;simp[hw1];refine C5 (α:=Nat×List (List UInt8)) (fun a=>[(3,.int .i64 ((n:Int) - 1 - (a.1:Nat))),(2,.int .i64 a.1),(0,.sl 1 0 n)]) (fun a=>⟨[(1,.cells 1 (Z2 a.2))],2⟩) (fun a=>n - a.1)
  (fun a=>a.1≤n∧a.2.length=n ∧ ∀ k,k<n→Db a.2 k=if k<a.1∨n - 1 - a.1<k∧0<a.1 then Db ls (n - 1 - k)else Db ls k) (0,ls) [] (by simp[As]) ⟨by simp,hn,by simp⟩ ?_
 rintro⟨i,Q⟩ ⟨hi,hQ,hI⟩ N hN;simp only at hi hQ hI hN ⊢;by_cases hlt:(i:Int)<(n:Int) - 1 - i
 ·have hj:((n:Int) - 1 - i).toNat=n - 1 - i:=by omega
  have hj0:(i:Int)≤(n:Int) - 1:=by omega
  obtain⟨j,hj2⟩:∃ j,n - 1 - i=j:=⟨_,rfl⟩
  rw[hj2]at hj;have hil:i<n:=by omega
  have hjl:j<n:=by omega
  have hij:¬i=j:=by omega
  have hpg:=SD Q (i:=i) (by omega)
  have hqg:=SD Q (i:=j) (by omega)
  obtain⟨hpl,hpg2⟩:=Y6 hpg;obtain⟨hql,hqg2⟩:=Y6 hqg;have hw2:=X5 ((i:Int)+1);have hw3:=Y1 ((n:Int) - 1 - i - 1) ((n:Int) - 1 - (i+1));have hs:=SD (Q.set i (Db Q j)) (i:=j) (by simp; omega)
  rw[cF (by omega),iN (fun e=>hij e.symm)]at hs
  have hset1:=vE Q i (Db Q j);have hset2:=vE (Q.set i (Db Q j)) j (Db Q i);rw[← hset1]at hs hset2;have hQl:(Z2 Q).length=n:=by rw[I9,hQ]
  have hN':=hN (i+1,(Q.set i (Db Q j)).set j (Db Q i)) [];simp only at hN';rw[← hset2]at hN';have hrq:=As ((Q.set i (Db Q j)).set j (Db Q i));rw[← hset2]at hrq;have hfin:∀ k,k<n→Db ((Q.set i (Db Q j)).set j (Db Q i)) k=if k<i+1∨n - 1 - (i+1)<k∧0<i+1 then Db ls (n - 1 - k)else Db ls k:=by
   intro k hk;rw[cF (by simp; omega),cF (by omega)]
   by_cases h1:k=j
   ·subst h1;rw[iP rfl,iP (by omega),hI i (by omega),iN (by omega)]
    congr 1
    omega
   ·rw[iN h1];by_cases h2:k=i
    ·subst h2;rw[iP rfl,iP (by omega),hI j (by omega),iN (by omega)]
     congr 1
     omega
    ·rw[iN h2,hI k hk];by_cases h3:k<i∨n - 1 - i<k∧0<i
     ·rw[iP h3,iP (by omega)]
     ·rw[iN h3,iN (by omega)]
  have hQs:((Q.set i (Db Q j)).set j (Db Q i)).length=n:=by simp[hQ]
  generalize (Q.set i (Db Q j)).set j (Db Q i)=Q2 at *;clear hset1 hset2;generalize Z2 Q=M at *;generalize Db Q i=a at *;generalize Db Q j=b at *;obtain⟨hsl,hs2⟩:=Y6 hs;simp[hlt,hj,hj0,hil,hjl,hpg,hpg2,hqg,hqg2,hw2,hw3,hs,hs2,hQl];exact hN' _ _ (by omega) ⟨by omega,hQs,hfin⟩ (by simp[hrq])
 ·have hQr:Q=ls.reverse:=by
   refine xo (by simp[hQ,hn]) fun k hk=>?_
   rw[hQ]at hk;rw[Z84 (by omega),hn,hI k hk]
   split
   ·rfl
   ·congr 1
    omega
  rw[← hQr]at hKv;simp[hlt];exact Z6 hKv [] (by simp[As])
theorem tv:Cc Tryz.prog 42 [.Ai] ⟨[],1⟩ fun v m=>v=.tuple []∧m=⟨[],1⟩:=by
 refine Ih hm Tryz.func42 Pp rfl rfl fun K hK=>?_
 have hKv:=hK _ _ ⟨rfl,rfl⟩;have hw1:IntKind.i64.wrap (-1) = -1:=rfl;simp[hw1];refine C5 (α:=Unit) (fun _=>[(3,.int .i64 (-1)),(2,.int .i64 0),(0,.Ai)]) (fun _=>⟨[],1⟩) (fun _=>0) (fun _=>True) () [] (by simp) trivial ?_
 intro _ _ N hN;simp;exact Z6 hKv [] (by simp)
end Go.Ab
end
section
namespace Go.Ab
open Go Go.AE Go.Proofs
open Go.Plain
def F9(g:Nat):List UInt8:=if g<10 then [UInt8.ofNat (48+g)]else [UInt8.ofNat (48+g / 10),UInt8.ofNat (48+g % 10)]
def vX(e:AN):Bool:=match runM BE (Qm []) e.g e.args with|some r=>O7 r e.v&&(W9 e.args&&e.v.closed)|none=>false
theorem Z6t:((List.range 41).all fun g=>vX ⟨40,[.int .i64 (g:Nat)],.str (F9 g)⟩)=true:=by kernel_rfl
theorem Z6d:((List.range 41).all fun g=>vX ⟨44,[.int .i64 (g:Nat)],.str (F9 g)⟩)=true:=by kernel_rfl
theorem Z5n{g:Nat}(h:g<41):AS Tryz.prog 40 [.int .i64 (g:Nat)] (.str (F9 g)):=
 S3 (l:=[]) trivial ⟨40,[.int .i64 (g:Nat)],.str (F9 g)⟩ (List.all_eq_true.1 Z6t g (mR.2 h))
theorem su{g:Nat}(h:g<41):AS Tryz.prog 44 [.int .i64 (g:Nat)] (.str (F9 g)):=
 S3 (l:=[]) trivial ⟨44,[.int .i64 (g:Nat)],.str (F9 g)⟩ (List.all_eq_true.1 Z6d g (mR.2 h))
end Go.Ab
end
