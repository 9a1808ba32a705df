/- Part 25 of the proof: Tb, Ro, Rq, Rr, Rv, Po, Pq, AeRm. -/
import Derived.Test.YtilmpmlkndfbjaaGreatDoorR10
import Derived.Test.YtilmpmlkndfbjaaGreatDoorR11
import Derived.Test.YtilmpmlkndfbjaaGreatDoorR13
import Derived.Test.YtilmpmlkndfbjaaGreatDoorR20
import Derived.Test.YtilmpmlkndfbjaaGreatDoorR21
import Derived.Test.YtilmpmlkndfbjaaGreatDoorR22
import Derived.Test.YtilmpmlkndfbjaaGreatDoorR23
import Derived.Test.YtilmpmlkndfbjaaGreatDoorR24
import Derived.ProofKit
import Derived.Carry
import Derived.Deep.Slices
set_option linter.all false
section
namespace Go.Known
open Go Go.AE Go.Proofs
open Go.Plain
open Go.ChangeShapes Go.WideShapes Go.RowKit Go.Deep
variable {H:Type} {enc:TypeId×Value→H} {w:World} {base:Nat} {spare:Nat→Bool} {held:Bool}
def allP(w:World):Pers:=fun B=>match w.heap[B]? with
 | some (.cells c _ _)=>some c
 | _=>none
theorem Z6w{w:World}{B:Nat}{c:Array Value}(h:allP w B=some c):∃ e fz,w.heap[B]? = some (.cells c e fz):=by
 unfold allP at h;split at h
 ·rename_i c' e fz a;cases h;exact⟨e,fz,a⟩
 ·cases h
theorem Zls(a:Addr)(n:Nat):(a.add n).block=a.block:=by unfold Addr.add; split<;>rfl
theorem Zsr(a:Addr)(n:Nat):(a.add n).off=a.off+n:=by
 unfold Addr.add;split
 ·rename_i h; rw[h]; rfl
 ·rfl
theorem Zwx{w:World}{base:Nat}{a:Addr}{n:Nat}{cs:List Value}(h:w.cells? base a n=some cs):∀ j,j<n→w.cell? (a.add j)=cs[j]? ∧ cs.length=n:=by
 unfold World.cells? at h;split at h
 ·intro j b;exact⟨mapM_some_get h j j (by simp[b]),by simpa using mapM_some_length h⟩
 ·cases h
theorem Zw4{w:World}{a:Addr}{v:Value}(h:w.cell? a=some v):∃ c e fz,w.heap[a.block]? = some (.cells c e fz)∧c[a.off]? = some v:=by
 unfold World.cell? at h;split at h
 ·rename_i c e fz b;split at h
  ·cases h
  ·exact⟨c,e,fz,b,h⟩
 ·cases h
theorem Zwm{w:World}{a:Addr}{v:Value}(h:w.cell? a=some v):a.spot=none:=by
 unfold World.cell? at h;split at h
 ·split at h
  ·cases h
  ·rename_i b;cases c:a.spot with
   | none=>rfl
   | some _=>rw[c]at b; exact absurd rfl b
 ·cases h
end Go.Known
end
section
namespace Go.Known
open Go Go.AE Go.Proofs
open Go.Plain
theorem Zl4(l:List Int)(i:Nat)(a:Int):(Z2 l).set i [.int .i64 a]=Z2 (l.set i a):=by rw[Z2,Z2,List.map_set]
end Go.Known
end
section
namespace Go.Known
open Go Go.AE Go.Proofs
open Go.Plain
theorem FRow.one{w:List Nat×Bool}{row:List AVal}(h:FRow w row):∀ x,x∈row→x.one=true:=by
 obtain⟨b,o,P,G,rfl,_⟩:=h;have hi:∀ rows:List (List AVal),(imV rows).one=true:=fun rows=>by unfold imV; split<;>rfl
 intro x a;simp only[List.mem_cons,List.not_mem_nil,or_false]at a;rcases a with rfl|rfl|rfl|rfl|rfl<;>first|rfl|exact hi _
theorem Z01{T:Nat→Nat}{n:Nat}(h:0<n):Zp6 T n≠[]:=by
 obtain⟨k,rfl⟩:∃ k,n=k+1:=⟨n - 1,by omega⟩
 unfold Zp6;rw[fcs,if_neg]
 ·simp
 ·rw[List.getD_eq_getElem?_getD,List.getElem?_replicate,if_pos (by omega)]; simp
end Go.Known
end
section
namespace Go.Known
open Go Go.AE Go.Proofs
open Go.Plain
theorem w00:IntKind.i64.wrap 0=0:=by decide
attribute [local simp] w00
theorem Zuf{T:Nat→Nat}{N:Nat}(a:∀ d,d<N→T d<N):∀ (k:Nat) (seen:List Bool) (x:Nat),x<N → ∀ y,y∈tr T k seen x→y<N
 | 0,_,_,_,y,h=>by simp[tr]at h
 | k+1,seen,x,b,y,h=>by
  simp only[tr]at h;split at h
  ·simp at h
  ·rcases List.mem_cons.1 h with rfl|h
   ·exact b
   ·exact Zuf a k _ _ (a x b) y h
theorem Zpl{T:Nat→Nat}{N:Nat}(a:∀ d,d<N→T d<N):∀ (k:Nat) (seen:List Bool),k≤N→(wks T N k seen).length≤k ∧ ∀ w,w∈wks T N k seen→w.length≤N+1 ∧ ∀ x,x∈w→x<N
 | 0,_,_=>by simp[wks]
 | k+1,seen,c=>by
  simp only[wks];split
  ·have:=Zpl a k seen (by omega)
   exact⟨by omega,this.2⟩
  ·have:=Zpl a k (Plain.mark T (N+1) seen (N - (k+1))) (by omega)
   refine⟨by simp; omega,fun w b=>?_⟩
   rcases List.mem_cons.1 b with rfl|b
   ·exact⟨Zpg T _ _ _,Zuf a _ _ _ (by omega)⟩
   ·exact this.2 w b
theorem Zqy{T:Nat→Nat}{n N:Nat}(B:n≤N)(s:∀ z,n≤z→z<N→T z<n)(v:∀ d,d<N→T d<N)(t:∀ y D,y<n→D<n→n≤T y→T y=T D→y=D)(u:∀ z,n≤z→z<N → ∃ y,y<n∧T y=z) :
 ∀(k:Nat) (seen:List Bool),k≤n→seen.length=N→(∀ y,y<n - k→seen.getD y true=true)→(∀ y,y<n→n≤T y→seen.getD (T y) true=seen.getD y true) →
  ∀ w,w∈wks T N (k+(N - n)) seen → ∃ d r,w=d :: r∧d<n
 | 0,seen,_,q,p,o=>by
  rw[Zuk]
  ·intro w i; simp at i
  ·intro x;rcases Nat.lt_or_ge x n with f|f
   ·exact p x (by omega)
   ·rcases Nat.lt_or_ge x N with j|j
    ·obtain⟨y,c,rfl⟩:=u x f j;rw[o y c f];exact p y (by omega)
    ·rw[List.getD_eq_getElem?_getD,List.getElem?_eq_none (by omega)]; rfl
 | k+1,seen,G,q,p,o=>by
  have e:k+1+(N - n)=(k+(N - n))+1:=by omega
  have E:N - (k+(N - n)+1)=n - (k+1):=by omega
  rw[e];simp only[wks,E];have b:∀ a:List Bool,(∀ y,seen.getD y true=true→a.getD y true=true)→a.getD (n - (k+1)) true=true → ∀ y,y<n - k→a.getD y true=true:=fun a f j y c=>by
   rcases Nat.lt_or_ge y (n - (k+1))with m|m
   ·exact f y (p y m)
   ·have:y=n - (k+1):=by omega
    rw[this]; exact j
  cases C:seen.getD (n - (k+1)) true with
  | true=>
   simp only[if_true];exact Zqy B s v t u k seen (by omega) q (b seen (fun _ h=>h) C) o
  | false=>
   have F:=Zh4 (l:=seen);have g:=Zh4 (l:=seen.take n);rw[List.length_take]at g;obtain⟨_,_,m⟩:=Z1k B s v t (N+1) (2*n+2) seen (n - (k+1)) q (by omega) (by omega) (by rw[if_neg (by omega)]; omega)
    (fun y c A=>by
      rw[o y c A];have:T y≠n - (k+1):=by omega
      simp[this]) (fun h=>by omega)
   simp only[bF,if_false];intro w i;rcases List.mem_cons.1 i with rfl|i
   ·refine⟨n - (k+1),tr T N (seen.set (n - (k+1)) true) (T (n - (k+1))),?_,by omega⟩
    simp only[tr,C,bF,if_false]
   ·refine Zqy B s v t u k _ (by omega) (by rw[Zl8]; exact q) (b _ (fun y c=>Zg8 _ _ _ c) ?_) m w i
    simp only[Plain.mark,C,bF,if_false];exact Zg8 _ _ _ (by rw[B1 (by omega)]; simp)
theorem Z3k{T:Nat→Nat}{n N:Nat}(f:n≤N)(g:∀ z,n≤z→z<N→T z<n)(e:∀ d,d<N→T d<N)(i:∀ y b,y<n→b<n→n≤T y→T y=T b→y=b)(j:∀ z,n≤z→z<N → ∃ y,y<n∧T y=z) :
 ∀ w,w∈Q8 T N → ∃ d r,w=d :: r∧d<n:=by
 have h:=Zqy f g e i j n (List.replicate N false) (Nat.le_refl _) (by simp) (fun y a=>by omega) (fun y a k=>by
  have c:∀ y,y<N→(List.replicate N false).getD y true=false:=fun y a=>by rw[List.getD_eq_getElem?_getD,List.getElem?_replicate,if_pos a]; rfl
  rw[c y (by omega),c (T y) (e y (by omega))])
 rw[Nat.add_sub_cancel' f]at h;exact h
structure ValidC (f:Int) (ls:List Lt):Prop where
 fill:Filled ls (crE ls ls.length)
 pas:0<Z3 ls
 kin:∀ v,v<ls.length→(at' ls v).k≠2→(at' ls v).k=1
 axi:∀ v,v∈Z4 ls→v<ls.length∧0≤(at' ls v).g∧(at' ls v).g≤40
section
variable {f:Int} {ls:List Lt}
abbrev wksC(ls:List Lt):List (List Nat):=Q8 (V1 ls (Z4 ls)) (2*ls.length+2*Z3 ls)
theorem ValidC.wk(h:ValidC f ls):(wksC ls).length≤4000 ∧ ∀ w,w∈wksC ls → ∃ d r,w=d :: r∧d<2*ls.length∧w.length≤4001 ∧ ∀ x,x∈w→x<2*ls.length+2*Z3 ls:=by
 obtain⟨j,a,k,l⟩:=Zq0 h.pas h.kin;have n:Z3 ls≤ls.length:=Za6;have p:=h.fill.small;obtain⟨c,g⟩:=Zpl a (2*ls.length+2*Z3 ls) (List.replicate (2*ls.length+2*Z3 ls) false) (Nat.le_refl _);refine⟨Nat.le_trans c (by omega),fun w b=>?_⟩
 obtain⟨d,r,e,m⟩:=Z3k (by omega) j a k l w b
 obtain⟨o,i⟩:=g w b;exact⟨d,r,e,m,by omega,i⟩
theorem ValidC.ne(h:ValidC f ls)(b:ls≠[]):Zp6 (V1 ls (Z4 ls)) (2*ls.length)≠[]:=by
 have a:0<ls.length:=List.length_pos_iff.2 b;exact Z01 (by omega)
theorem ValidC.T(h:ValidC f ls):(∀ d,d<2*ls.length+2*(Z4 ls).length→V1 ls (Z4 ls) d<2*ls.length+2*(Z4 ls).length) ∧
 ∀ d,2*ls.length≤d→d<2*ls.length+2*(Z4 ls).length→V1 ls (Z4 ls) d<2*ls.length:=by
 obtain⟨a,b,_,_⟩:=Zq0 h.pas h.kin;rw[H6];exact⟨b,a⟩
end
end Go.Known
end
section
namespace Go.Known
open Go Go.AE Go.Proofs
open Go.Plain
@[simp] theorem Ydt(id : Nat)(f : AOpd → AVal)(get : Nat → Option ABlk)(k : Nat)(x : AOpd)(lo hi : Option AOpd) : stepD id f get (.slSl k x lo hi none) = match f x with
 | .nilSl=>match J8 f 0 0 lo hi with
  | some _=>some (.nilSl,[])
  | none=>none
 | .emp=>match J8 f 0 0 lo hi with
  | some _=>some (.emp,[])
  | none=>none
 | .imm els=>if els.all (·.length == k)then match J8 f els.length els.length lo hi with
  | some (l,h)=>some (.imm ((els.take h).drop l),[])
  | none=>none
  else none
 | .sl b off len=>match get b with
  | some (.cells a els)=>if a=k∧off+len≤els.length then match J8 f len (els.length - off) lo hi with
   | some (l,h)=>some (.sl b (off+l) (h - l),[])
   | none=>none
   else none
  | _=>none
 | _=>none:=rfl
theorem P1(get:Nat→Option ABlk)(k b off len:Nat):I7 get k (.sl b off len)=match get b with
 | some (.cells a els)=>if a=k∧off+len≤els.length then some ((els.drop off).take len)else none
 | _=>if len=0 then some []else none:=by
 simp only[I7,C3];rfl
end Go.Known
end
section
namespace Go.Known
open Go.Plain
theorem Zkj(p:Lt→Bool)(f:Lt→Lt)(ls:List Lt):Z5 p (ls.map f)=Z5 (fun l=>p (f l)) ls:=by
 unfold Z5;rw[List.filter_map,List.length_map];rfl
theorem Zlk{f:Int}{ls:List Lt}{l:Lt}(a:l.k=1):okR f ls l=true↔l.i=0∧l.s=0∧l.o=false∧0≤l.g∧l.g≤f∧1≤l.r∧l.r≤inG l.g ls∧same l ls=1:=by
 unfold okR;rw[if_pos a];simp[and_assoc]
theorem Zlw{f:Int}{ls:List Lt}{l:Lt}(a:l.k=2):okR f ls l=true↔l.g=0∧l.r=0∧(l.s=1∨l.s = -1)∧1≤l.i∧l.i≤(X7 ls / 2:Nat)∧Zao l ls=1∧G9 l.i ls=2:=by
 unfold okR;rw[if_neg (by omega),if_pos a]
 simp[and_assoc]
theorem Zrk{f:Int}{ls:List Lt}{l:Lt}(h:okR f ls l=true):l.k=1∨l.k=2:=by
 unfold okR at h;split at h
 ·exact .inl ‹_›
 ·split at h
  ·exact .inr ‹_›
  ·cases h
structure ValR (f:Int) (ls:List Lt):Prop where
 len:ls.length≤400
 vis:X7 ls≤200
 lo:0≤f
 hi:f≤40
 fst:(at' ls 0).k=1
 evn:Z3 ls % 2=0
 okr:∀ l,l∈ls→okR f ls l=true
 cyc:K1 (V1 ls (Z4 ls)) (2*ls.length+2*Z3 ls)=Z3 ls+X7 ls / 2+2
theorem ValR.to{f:Int}{ls:List Lt}(h:ValR f ls):P2 f ls=0:=by
 have g:((f.toNat:Nat):Int)=f:=by have:=h.lo; omega
 obtain⟨i,j,e⟩:=Zqv (F:=f.toNat) (ls:=ls) (by rw[g]; exact List.all_eq_true.2 h.okr)
 have a:=h.len;have b:=h.vis;have c:=h.lo;have d:=h.hi;unfold P2;rw[if_neg (by omega),if_neg (by omega),if_pos]
 refine .inr ⟨i,h.fst,h.evn,j,e,?_⟩;rw[H6,e.2.2];exact h.cyc
theorem ValR.ranks{f:Int}{ls:List Lt}(b:0≤f)(h:∀ l,l∈ls→okR f ls l=true):Zj3 ls∧Zg5 ls∧CrOk ls:=by
 have a:((f.toNat:Nat):Int)=f:=by omega
 obtain⟨c,d,e⟩:=Zqv (F:=f.toNat) (ls:=ls) (by rw[a]; exact List.all_eq_true.2 h)
 obtain⟨g,i⟩:=Zm9 (Zhe c) d;exact⟨g,i,e⟩
theorem Zor{ls:List Lt}(c:Zg5 ls)(e:Zj3 ls){v:Nat}(b:v<ls.length)(d:(at' ls v).k=1):T8 v (Z4 ls)=pos ls (at' ls v):=by
 have a:isP (at' ls v)=true:=by simp[isP,d]
 exact Zih (Zj1 ls) (Zau (mem_axis.2 ⟨b,a⟩)).1 (Zof c e b a)
theorem ValR.wv{f:Int}{ls:List Lt}(h:ValR f ls)(p:ls≠[]):Wv ls:=by
 obtain⟨_,_,d⟩:=ValR.ranks h.lo h.okr;have a:0<ls.length:=List.length_pos_iff.2 p;refine⟨?_,fun v c b=>(Zrk (h.okr _ (K2 c))).resolve_right b,fun v c b=>?_⟩
 ·rw[← H6];exact List.length_pos_of_mem (mem_axis.2 ⟨a,by simp[isP,h.fst]⟩)
 ·obtain⟨_,_,j,_,_,_,g,A,i,r,s,t,u,w⟩:=Zfk d c (by simp[isX,b])
  obtain⟨_,_,e,_,_,_,k,l,m,n,y,z,_,o⟩:=Zfk d g i;rw[w];have q:e=v:=(u e k m (by rw[n,r])).resolve_right l
  exact⟨g,by simpa[isX]using i,by rw[o,q],s,t⟩
theorem ValR.uniq{f:Int}{ls:List Lt}(h:ValR f ls){v x:Nat}(d:v<ls.length)(c:(at' ls v).k=2)(e:x<ls.length)(a:(at' ls x).k=2)(hi:(at' ls x).i=(at' ls v).i):x=v∨x=T2 ls v ls.length 0:=by
 obtain⟨_,_,b⟩:=ValR.ranks h.lo h.okr;obtain⟨_,_,j,_,_,_,m,n,o,p,q,r,g,l⟩:=Zfk b d (by simp[isX,c])
 rw[l];exact g x e (by simp[isX,a]) hi
end Go.Known
end
section
namespace Go.Known
open Go.Plain
def tuL(l:Lt):Lt:=if l.k=2 then { l with o:=!l.o } else l
def frm(ls:List Lt):Nat→Nat
 | 0=>0
 | k+1=>if isP (at' ls (ls.length - (k+1))) && !down ls (ls.length - (k+1))then ls.length - (k+1)else frm ls k
def B4(a:Nat)(ls:List Lt):List Lt:=ls.drop a++ls.take a
def tuN(ls:List Lt):List Lt:=B4 (frm ls ls.length) (ls.map tuL)
theorem tu_k(l:Lt):(tuL l).k=l.k:=by unfold tuL; split<;>rfl
theorem Z7j(l:Lt):isP (tuL l)=isP l:=by unfold isP; rw[tu_k]
theorem Zl6(p:Lt→Bool)(a:Nat)(ls:List Lt):Z5 p (B4 a ls)=Z5 p ls:=by
 unfold B4;rw[Zev,Nat.add_comm,← Zev,List.take_append_drop]
theorem Z50{n x:Nat}(h:x<2*n):x % n=if x<n then x else x - n:=by
 split
 ·exact Nat.mod_eq_of_lt ‹_›
 ·rw[Nat.mod_eq_sub_mod (by omega),Nat.mod_eq_of_lt (by omega)]
def rho(n a v:Nat):Nat:=(v+n - a) % n
theorem Zkz{n a v:Nat}(b:a<n)(c:v<n):rho n a v=if v<a then v+n - a else v - a:=by
 unfold rho;rw[Z50 (by omega)]
 split<;>split<;>omega
theorem Z9j{ls:List Lt}{a v:Nat}(b:a<ls.length)(c:v<ls.length):at' (B4 a ls) (rho ls.length a v)=at' ls v:=by
 rw[Zkz b c];unfold at' B4;rw[List.getD,List.getD]
 congr 1
 split
 ·rw[List.getElem?_append_right (by simp; omega),List.length_drop,List.getElem?_take,if_pos (by omega)]
  congr 1; omega
 ·rw[List.getElem?_append_left (by simp; omega),List.getElem?_drop]
  congr 1; omega
theorem Zo0(ls:List Lt):Z3 (ls.map tuL)=Z3 ls:=by
 unfold Z3;rw[Zkj];exact F0 fun l _=>Z7j l
theorem Z8z{ls:List Lt}{a v:Nat}(c:a<ls.length)(d:v<ls.length):Z3 ((B4 a ls).take (rho ls.length a v))+Z3 (ls.take a)=Z3 (ls.take v)+if v<a then Z3 ls else 0:=by
 have b:∀ x y:List Lt,Z3 (x++y)=Z3 x+Z3 y:=fun x y=>Zev _ x y
 rw[Zkz c d];unfold B4;split
 ·have e:v+ls.length - a=(ls.drop a).length+v:=by simp; omega
  rw[e,List.take_length_add_append,b,List.take_take,Nat.min_eq_left (by omega)]
  have:=b (ls.take a) (ls.drop a);rw[List.take_append_drop]at this;omega
 ·rw[List.take_append_of_le_length (by simp; omega)]
  have:ls.take v=ls.take a++(ls.drop a).take (v - a):=by
   rw[← List.take_add,show a+(v - a)=v by omega]
  rw[this,b];omega
theorem Zxs{ls:List Lt}{i:Nat}(hi:i<ls.length):Z3 (ls.take (i+1))=Z3 (ls.take i)+if isP (at' ls i)then 1 else 0:=by
 have e:ls.take (i+1)=ls.take i++[at' ls i]:=by
  rw[List.take_add_one,gE hi,at',List.getD,gE hi];rfl
 unfold Z3;rw[e,Zev,Zet];rfl
theorem Z30{ls:List Lt}(e:0<Z3 ls)(f:Z3 ls % 2=0):∃ i,i<ls.length∧isP (at' ls i)=true∧down ls i=false:=by
 refine Classical.byContradiction fun c=>?_
 have:∀ i,i≤ls.length→Z3 (ls.take i)≤1:=by
  intro i
  induction i with
  | zero=>intro _; simp[Z3,Z5]
  | succ i d=>
   intro hi;have b:=Zxs (ls:=ls) (i:=i) (by omega)
   have:=d (by omega)
   by_cases h:isP (at' ls i)=true
   ·rw[if_pos h]at b;have a:down ls i=true:=by
     cases a:down ls i with
     | true=>rfl
     | false=>exact absurd ⟨i,by omega,h,a⟩ c
    unfold down at a;simp only[beq_iff_eq]at a;omega
   ·rw[if_neg h]at b;omega
 have:=this ls.length (Nat.le_refl _);rw[List.take_length]at this;omega
section
variable {f:Int} {ls:List Lt}
end
end Go.Known
end
section
namespace Go.AE
open Go.RowKit
section
variable {P:Program} {b N G n base:Nat}
theorem Z0d{e:Env}{f:AOpd}{a:List AOpd}{g:FuncId}{args:List AVal}(h:W8 n e f a=some (g,args)):Zdt (toE n e) f a=some (.func g,args):=by
 unfold W8 at h;unfold Zdt;rw[F1];split at h<;>first|(cases h; done)|skip
 rename_i c first cap b;simp only[oI,pI2]at h;obtain⟨rfl,rfl⟩:=h;rw[b]
theorem BR.pref{Φ:Pers}{ρ:Rho}{k:Nat}{els a:List (List AVal)}{l:Loc}{o:Obj}(h:BR Φ ρ (.cells k (els++a)) l o):BR Φ ρ (.cells k els) l o:=by
 cases h with
 | cells k d l c e p q b g m=>
  have f:∀ (i:Nat) (row:List AVal),els[i]? = some row→(els++a)[i]? = some row:=fun i row hi=>by
   rw[List.getElem?_append_left (gS.1 hi).1]; exact hi
  refine .cells k els l c e p q (by simp at b; omega) ⟨fun i row hi=>g.1 i row (f i row hi),fun i row j x hi n=>g.2 i row j x (f i row hi) n⟩ m
def Trim(mt m:SMem):Prop:=m.next=mt.next ∧ ∀ b x,mt.get b=some x→m.get b=some x ∨ ∃ k els rest,x=.cells k els∧m.get b=some (.cells k (els++rest))
theorem Trim.rel{mt m:SMem}(c:Trim mt m){W:Base}{Φ:Pers}{ρ:Rho}{w:World}(h:Rel W Φ ρ m.mem w):Rel W Φ ρ mt.mem w:=by
 refine⟨h.base,h.pers,fun b x d=>?_,fun b b' x C l l' r s t u v=>?_,fun b l z=>?_,h.newp⟩
 ·rcases c.2 b x d with g|⟨k,els,f,rfl,g⟩
  ·exact h.live b x g
  ·obtain⟨l,o,i,j,n,p,q⟩:=h.live b _ g;exact⟨l,o,i,j,n,p,q.pref⟩
 ·have a:∀ b x,mt.get b=some x → ∃ y,m.get b=some y:=fun b x d=>by
   rcases c.2 b x d with g|⟨_,_,_,_,g⟩<;>exact ⟨_,g⟩
  obtain⟨y,A⟩:=a _ _ r;obtain⟨B,e⟩:=a _ _ s;exact h.inj b b' y B l l' A e t u v
 ·have:=h.fresh b l z;show b<mt.next;rw[← c.1];exact this
theorem Trim.refl(m:SMem):Trim m m:=⟨rfl,fun _ _ h=>.inl h⟩
variable {K:Env→SMem→Prop} {Q:Exit→Env→SMem→Prop} {e:Env} {m:SMem}
variable {id:Nat} {f:AOpd→AVal} {get:Nat→Option ABlk}
end
end Go.AE
end
