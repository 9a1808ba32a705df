/- Part 38 of the proof: Sn, Sp, Sq, Pz, Sx, Sy, Tm, To, Tp, We, Tu, Wg, Wh. -/
import Derived.Test.YtilmpmlkndfbjaaGreatDoorI11
import Derived.Test.YtilmpmlkndfbjaaGreatDoorI12
import Derived.Test.YtilmpmlkndfbjaaGreatDoorI28
import Derived.Test.YtilmpmlkndfbjaaGreatDoorI30
import Derived.Test.YtilmpmlkndfbjaaGreatDoorI35
import Derived.Test.YtilmpmlkndfbjaaGreatDoorI36
import Derived.Test.YtilmpmlkndfbjaaGreatDoorI37
import Derived.Shelf.SlSortCmp.NoneTotal
import Derived.Test.YtilmpmlkndfbjaaGreatDoorProg
import Derived.Deep.QuietTactic
import Derived.BigQuiet
set_option linter.all false
section
namespace Go.Known
open Go Go.AE Go.Proofs
open Go.Plain
theorem Zr3{p:Nat→Bool}:∀ {n:Nat},(∃ i,i<n∧p i=true) → ∃ i,i<n∧p i=true ∧ ∀ j,j<i→p j=false
 | 0,⟨i,h,_⟩=>by omega
 | n+1,⟨i,h,e⟩=>by
  by_cases d:∃ i,i<n∧p i=true
  ·obtain⟨i,a,f,g⟩:=Zr3 d;exact⟨i,by omega,f,g⟩
  ·have b:i=n:=by
    rcases Nat.lt_or_ge i n with a|a
    ·exact absurd ⟨i,a,e⟩ d
    ·omega
   subst b;refine⟨i,by omega,e,fun j k=>?_⟩
   cases c:p j with
   | false=>rfl
   | true=>exact absurd ⟨j,k,c⟩ d
end Go.Known
end
section
namespace Go.Known
open Go Go.AE Go.Proofs
open Go.Plain
def numL(l:Lt):List Int:=[l.k,l.g,l.r,l.i,if l.o then 1 else 0,l.s]
def ltI:List Int→List Int→Bool
 | a :: r,b :: s=>if a=b then ltI r s else decide (a<b)
 | _,_=>false
theorem Yg3(a b:Lt):ltI (numL a) (numL b)=ltL a b:=by
 unfold ltL numL;simp only[ltI];by_cases c:a.k=b.k
 ·by_cases d:a.g=b.g
  ·by_cases e:a.r=b.r
   ·by_cases f:a.i=b.i
    ·by_cases h:a.o=b.o
     ·by_cases j:a.s=b.s
      ·simp[c,d,e,f,h,j]
      ·simp[c,d,e,f,h,j]
     ·cases l:a.o<;>cases m:b.o<;>rw[l,m]at h<;>simp[c,d,e,f]at h ⊢
    ·simp[c,d,e,f]
   ·simp[c,d,e]
  ·simp[c,d]
 ·simp[c]
end Go.Known
end
section
namespace Go.Known
open Go Go.AE Go.Proofs
open Go.Plain
theorem Zpo:∀ a:List Lt,H5 a a=false
 | []=>rfl
 | x :: r=>by simp[H5,Zpo r]
end Go.Known
end
section
namespace Go.Known
open Go.Plain
section
variable {n:Int} {ls:List Lt}
end
theorem ValR.key{f:Int}{ls:List Lt}(h:ValR f ls){l:Lt}(hm:l∈ls)(i:isP l=true):l.k=1∧1≤l.r∧l.r≤inG l.g ls∧0≤l.g∧l.g≤f:=by
 have e:l.k=1:=by simpa[isP]using i
 obtain⟨_,_,_,a,b,c,d,_⟩:=(A7 e).1 (h.okr l hm);exact⟨e,c,d,a,b⟩
end Go.Known
end
section
namespace Go.Known
open Go Go.AE Go.Proofs
open Go.Plain
structure Fg where
 p:Int
 r:Bool
 d:Int
deriving DecidableEq,Inhabited
end Go.Known
end
section
namespace Go.Known
open Go Go.AE Go.Proofs
open Go.Plain
def Ztr(x:Fg):Prop:=1≤x.p∧x.p≤9∧0≤x.d∧x.d≤6
instance (x:Fg):Decidable (Ztr x):=by unfold Ztr; infer_instance
end Go.Known
end
section
namespace Go.Known
open Go Go.AE Go.Proofs
open Go.Plain
def slXz(nl mx l h:Option Nat):Option (AVal×List (Nat×Option ABlk)):=match nl,mx,l,h with
 | some n,some mx,some l,some h=>if l≤h∧h≤mx∧mx≤n then (if mx=0 then some (.emp,[])else some (.bot,[]))else none
 | _,_,_,_=>none
@[simp] theorem Yiv(n a l h : Nat) : slXz (some n) (some a) (some l) (some h) = if l ≤ h ∧ h ≤ a ∧ a ≤ n then (if a = 0 then some (.emp, []) else some (.bot, [])) else none := rfl
@[simp] theorem Yim(id : Nat)(f : AOpd → AVal)(get : Nat → Option ABlk)(k : Nat)(x l h z : AOpd) : stepD id f get (.slSl k x (some l) (some h) (some z)) = slXz (T0 (f x)) (V5 (f z)) (V5 (f l)) (V5 (f h)) := by
 simp only[stepD,Zae,slXz];cases T0 (f x)<;>cases V5 (f z)<;>cases V5 (f l)<;>cases a:V5 (f h)<;>simp[a]
@[simp] theorem Yik(id : Nat)(f : AOpd → AVal)(get : Nat → Option ABlk)(k : Nat)(zero : List AVal)(x : AOpd) : stepD id f get (.clear k zero x) = match f x with
  | .sl b off len=>match get b with
   | some (.cells a els)=>if a=k∧off+len≤els.length then
    some (aundef,[(b,some (.cells k (els.take off++List.replicate len zero++els.drop (off+len))))])
    else none
   | _=>none
  | .nilSl=>some (aundef,[])
  | .emp=>some (aundef,[])
  | _=>none:=rfl
@[simp] theorem Yie(id : Nat)(f : AOpd → AVal)(get : Nat → Option ABlk)(a : Bool)(x y : AOpd) : stepD id f get (.minmax a [x, y]) = match Zff a (f x) [f y] with
   | some v=>some (v,[])
   | none=>none:=rfl
@[simp] theorem mm_int(c : Bool)(k d : IntKind)(a b : Int) : Zff c (.int k a) [.int d b] = some (.int k (if c then (if b > a then b else a) else (if b < a then b else a))) := rfl
end Go.Known
end
section
namespace Go.Known
open Go Go.AE Go.Proofs
open Go.Plain
def lrow(p:Nat×Nat):List AVal:=[.int .i64 p.1,.int .i64 p.2]
section
variable {ls:List Lt} {f:Int} {n:Nat}
theorem Z0c:∀ (ps:List (Nat×Nat)),V3 (ps.map lrow)=true
 | []=>rfl
 | p :: r=>by
  have:=Z0c r;simp only[List.map_cons,V3,lrow,Y7,AVal.closed,Bool.and_true,Bool.true_and]at this ⊢;exact this
end
end Go.Known
end
section
namespace Go.Known
open Go Go.AE Go.Proofs Go.RowKit Go.Sort
open Go.Plain
def Ze5(p:Nat×Nat):List Value:=[.int .i64 p.1,.int .i64 p.2]
theorem lrow_enc:RowEnc Ze5 lrow 2 where
 pos:=by decide
 len _:=rfl
 lenA _:=rfl
 one x v hv:=by simp[Ze5]at hv; rcases hv with rfl|rfl<;>rfl
 rel Φ ρ x j y v a b:=by
  match j,a,b with
  | 0,a,b=>simp[lrow,Ze5]at a b; subst a; subst b; exact .int _ _
  | 1,a,b=>simp[lrow,Ze5]at a b; subst a; subst b; exact .int _ _
  | j+2,a,b=>simp[lrow]at a
 det Φ ρ x j y v v' a b h3:=by
  match j,a,b with
  | 0,a,b=>simp[lrow,Ze5]at a b; subst a; subst b; exact K3 h3
  | 1,a,b=>simp[lrow,Ze5]at a b; subst a; subst b; exact K3 h3
  | j+2,a,b=>simp[lrow]at a
end Go.Known
end
section
namespace Go.Known
open Go.Plain
section
variable {g a:Int} {ls:List Lt}
end
theorem ValR.below{f:Int}{ls:List Lt}(h:ValR f ls){g:Int}{a:Nat}(d:a≤inG g ls):Z3 (fun l=>(isP l&&l.g == g)&&decide (l.r≤(a:Int))) ls=a:=by
 obtain⟨i,b,_⟩:=ValR.ranks h.lo h.okr;refine Zu9 (fun l e c=>?_) (fun t=>Z0v b g t) a d
 simp only[bA,beq_iff_eq]at c;have:=i l e c.1;rw[c.2]at this;exact this
end Go.Known
end
section
namespace Go.Known
open Go Go.AE Go.Proofs
open Go.Plain
theorem Zsk{f:Int}{ls:List Lt}(h:W7 f ls=0):0≤f∧f≤40:=by
 unfold W7 at h;split at h
 ·cases h
 ·split at h
  ·cases h
  ·omega
section
variable {p:Int} {fs:List Fg} {d:Nat}
end
end Go.Known
end
section
namespace Go.Known
open Go Go.AE Go.Proofs
open Go.Plain
def okI(f g a:Int)(ls:List Lt):Prop:=0≤g∧g≤f∧0≤a∧f<40∧a≤inG g ls
instance (f g a:Int) (ls:List Lt):Decidable (okI f g a ls):=by unfold okI; infer_instance
end Go.Known
end
section
namespace Go.Known
open Go Go.AE Go.Proofs
open Go.Plain
def okP(f g a:Int)(ls:List Lt):Prop:=0≤g∧g≤f∧0≤a∧a≤inG g ls
instance (f g a:Int) (ls:List Lt):Decidable (okP f g a ls):=by unfold okP; infer_instance
end Go.Known
end
