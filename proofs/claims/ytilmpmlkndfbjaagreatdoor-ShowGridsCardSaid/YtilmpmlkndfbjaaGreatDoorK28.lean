/- Part 28 of the proof: Pu, Pv. -/
import Derived.Test.YtilmpmlkndfbjaaGreatDoorK26
set_option linter.all false
section
namespace Go.Ab
open Go.Plain
def Di(n:Nat)(e:Bool)(s p:Nat):Nat:=if e then (if s+p<n then s+p else s+p - n)else (if p≤s then s - p else s+n - p)
theorem MM{n s p:Nat}{e:Bool}(hs:s<n)(hp:p<n):Di n e s p<n:=by
 unfold Di
 grind
def PC(n:Nat)(e:Bool)(s:Nat):Nat:=if e then (if s=0 then 0 else n - s)else s
theorem Zzw{n s:Nat}{e:Bool}(hs:s<n):PC n e s<n:=by
 unfold PC
 grind
theorem Z52{n s p:Nat}{e:Bool}(hs:s<n)(hp:p<n):Di n e s (Di n e (PC n e s) p)=p:=by
 unfold Di PC
 grind
theorem cA{n s p:Nat}{e:Bool}(hs:s<n)(hp:p<n):Di n e (PC n e s) (Di n e s p)=p:=by
 unfold Di PC
 grind
def ap(φ:Int→Int)(l:Lt):Lt:=if l.k=2 then { l with i:=φ l.i } else l
theorem HP(φ:Int→Int)(l:Lt):(ap φ l).k=l.k:=by unfold ap; split<;>rfl
theorem wJ(φ:Int→Int)(l:Lt):AT (ap φ l)=AT l:=by unfold AT; rw[HP]
theorem Iu{φ:Int→Int}{l:Lt}(h:l.k=2):ap φ l={ l with i:=φ l.i }:=by unfold ap; rw[iP h]
theorem MV{φ:Int→Int}{l:Lt}(h:¬l.k=2):ap φ l=l:=by unfold ap; rw[iN h]
def Lp(φ:Int→Int)(y:List Lt):Prop:=∀ a,a∈y → ∀ b,b∈y→a.k=2→b.k=2→φ a.i=φ b.i→a.i=b.i
def De(e:Bool)(y x:List Lt):Prop:=x.length=y.length ∧ ∃ s φ,s<y.length∧Lp φ y ∧ ∀ p,p<y.length→at' x p=ap φ (at' y (Di y.length e s p))∧(AT (at' x p)=true→W4 x p=(W4 y (Di y.length e s p) == e))
theorem Xy{y:List Lt}{a:Lt}(h:a∈y):∃ p,p<y.length∧at' y p=a:=by
 obtain⟨p,hp,e⟩:=List.getElem_of_mem h;exact⟨p,hp,by simp[at',List.getD,hp,e]⟩
end Go.Ab
end
section
namespace Go.Ab
open Go.Plain
theorem Rs{g:Lt→Lt}{l:List Lt}{p:Nat}(h:p<l.length):at' (l.map g) p=g (at' l p):=by simp[at',List.getD,h]
theorem Z56(φ:Int→Int)(l:List Lt):Z5 (l.map (ap φ))=Z5 l:=by
 unfold Z5;rw[Wd];exact B9 fun a _=>wJ φ a
theorem Z9z(φ:Int→Int)(l:List Lt)(p:Nat):W4 (l.map (ap φ)) p=W4 l p:=by
 unfold W4;rw[← List.map_take,Z56]
theorem Wt{y:List Lt}{x:Int}{p:Nat}(h:Y9 x (W8 y p)≠0):∀ k,p+k≤y.length→Y9 x (W8 y (p+k))=Y9 x (W8 y p)
 | 0,_=>rfl
 | k+1,hk=>by
  have ih:=Wt h k (by omega)
  have hs:=Rn (ls:=y) (i:=p+k) (by omega)
  rw[← Nat.add_assoc,hs];unfold P9;split
  ·rw[uW (by rw[ih]; exact h),ih]
  ·exact ih
theorem oB:∀ {met:List Int} {x y:Int},Y9 x met≠0→Y9 x met=Y9 y met→x=y
 | [],_,_,h,_=>absurd rfl h
 | z :: r,x,y,h,e=>by
  simp only[Y9]at h e;by_cases hx:x=z
  ·grind
  ·rw[iN hx]at h e;by_cases h0:Y9 x r=0
   ·grind
   ·rw[iN h0]at e;by_cases hy:y=z
    ·grind
    ·rw[iN hy]at e;split at e
     ·omega
     ·exact oB h0 (by omega)
theorem Yf{y:List Lt}{p:Nat}(hp:p<y.length)(hk:(at' y p).k=2):Y9 (at' y p).i (W8 y (p+1))≠0:=by
 rw[Rn hp];unfold P9;by_cases h:Y9 (at' y p).i (W8 y p)=0
 ·rw[iP ⟨hk,h⟩,SJ h]; omega
 grind
theorem aU(y:List Lt):X8 y=y.map (ap fun i=>(Y9 i (W8 y y.length):Nat)):=by
 refine SY (by rw[OE,lM]) fun p hp=>?_
 rw[OE]at hp;rw[VU hp,Rs hp];unfold Fx;by_cases hk:(at' y p).k=2
 ·rw[iP hk,Iu hk,← Rn hp];have:=Wt (Yf hp hk) (y.length - (p+1)) (by omega)
  grind
 ·rw[iN hk,MV hk]
theorem Z8x(y:List Lt):Lp (fun i=>(Y9 i (W8 y y.length):Nat)) y:=by
 intro a ha b hb hka hkb hab;obtain⟨p,hp,rfl⟩:=Xy ha;have h1:=Yf hp hka;have h2:=Wt h1 (y.length - (p+1)) (by omega)
 rw[show p+1+(y.length - (p+1))=y.length by omega]at h2
 refine oB (met:=W8 y y.length) (by rw[h2]; exact h1) ?_
 grind
theorem Z9c{y:List Lt}{φ:Int→Int}(h0:y≠[])(hφ:Lp φ y):De true y (y.map (ap φ)):=by
 have hlp:0<y.length:=by grind
 refine⟨lM _,0,φ,hlp,hφ,fun p hp=>?_⟩
 have e:Di y.length true 0 p=p:=by simp[Di]; omega
 rw[e,Rs hp,Z9z]
 grind
theorem Z8f{y:List Lt}(h0:y≠[]):De true y (X8 y):=by
 rw[aU];exact Z9c h0 (Z8x y)
structure Ev (y:List Lt):Prop where
 ne:y≠[]
 ev:Z5 y % 2=0
 bk:∃ i,i<y.length∧bkC y i=true
end Go.Ab
end
