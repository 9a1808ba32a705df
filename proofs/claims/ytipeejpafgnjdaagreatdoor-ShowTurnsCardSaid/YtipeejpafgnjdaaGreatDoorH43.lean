/- Part 43 of the proof: Tm, To, Tp, Tu, Wg, Wh. -/
import Derived.Test.YtipeejpafgnjdaaGreatDoorH11
import Derived.Test.YtipeejpafgnjdaaGreatDoorH41
import Derived.Test.YtipeejpafgnjdaaGreatDoorH42
import Derived.Shelf.SlSortCmp.NoneTotal
import Derived.Test.YtipeejpafgnjdaaGreatDoorProg
import Derived.Deep.QuietTactic
import Derived.BigQuiet
set_option linter.all false
section
namespace Go.Known
open Go Go.AE Go.Proofs
open Go.Plain
def slXz(nl mx l h:Option Nat):Option (AVal×List (Nat×Option ABlk)):=match nl,mx,l,h with
 | some n,some mx,some l,some h=>if l≤h∧h≤mx∧mx≤n then (if mx=0 then some (.emp,[])else some (.bot,[]))else none
 | _,_,_,_=>none
@[simp] theorem Yf6(n mx l h : Nat) : slXz (some n) (some mx) (some l) (some h) = if l ≤ h ∧ h ≤ mx ∧ mx ≤ n then (if mx = 0 then some (.emp, []) else some (.bot, [])) else none := rfl
@[simp] theorem Yfq(id : Nat)(f : AOpd → AVal)(get : Nat → Option ABlk)(k : Nat)(x l h z : AOpd) : stepD id f get (.slSl k x (some l) (some h) (some z)) = slXz (U9 (f x)) (V1 (f z)) (V1 (f l)) (V1 (f h)) := by
 simp only[stepD,Zaa,slXz];cases U9 (f x)<;>cases V1 (f z)<;>cases V1 (f l)<;>cases hh:V1 (f h)<;>simp[hh]
@[simp] theorem Yf5(id : Nat)(f : AOpd → AVal)(get : Nat → Option ABlk)(k : Nat)(zero : List AVal)(x : AOpd) : stepD id f get (.clear k zero x) = match f x with
  | .sl b off len=>match get b with
   | some (.cells k' els)=>if k'=k∧off+len≤els.length then
    some (aundef,[(b,some (.cells k (els.take off++List.replicate len zero++els.drop (off+len))))])
    else none
   | _=>none
  | .nilSl=>some (aundef,[])
  | .emp=>some (aundef,[])
  | _=>none:=rfl
@[simp] theorem Yf2(id : Nat)(f : AOpd → AVal)(get : Nat → Option ABlk)(mx : Bool)(x y : AOpd) : stepD id f get (.minmax mx [x, y]) = match Zfj mx (f x) [f y] with
   | some v=>some (v,[])
   | none=>none:=rfl
@[simp] theorem mm_int(mx : Bool)(k k' : IntKind)(a b : Int) : Zfj mx (.int k a) [.int k' b] = some (.int k (if mx then (if b > a then b else a) else (if b < a then b else a))) := rfl
end Go.Known
end
section
namespace Go.Known
open Go Go.AE Go.Proofs
open Go.Plain
def lrow(p:Nat×Nat):List AVal:=[.int .i64 p.1,.int .i64 p.2]
section
variable {ls:List Lt} {f:Int} {n:Nat}
theorem Zw7:∀ (ps:List (Nat×Nat)),X8 (ps.map lrow)=true
 | []=>rfl
 | p :: r=>by
  have:=Zw7 r;simp only[List.map_cons,X8,lrow,Y0,AVal.closed,Bool.and_true,Bool.true_and]at this ⊢;exact this
end
end Go.Known
end
section
namespace Go.Known
open Go Go.AE Go.Proofs Go.RowKit Go.Sort
open Go.Plain
def Zee(p:Nat×Nat):List Value:=[.int .i64 p.1,.int .i64 p.2]
theorem lrow_enc:RowEnc Zee lrow 2 where
 pos:=by decide
 len _:=rfl
 lenA _:=rfl
 one x v hv:=by simp[Zee]at hv; rcases hv with rfl|rfl<;>rfl
 rel Φ ρ x j y v h1 h2:=by
  match j,h1,h2 with
  | 0,h1,h2=>simp[lrow,Zee]at h1 h2; subst h1; subst h2; exact .int _ _
  | 1,h1,h2=>simp[lrow,Zee]at h1 h2; subst h1; subst h2; exact .int _ _
  | j+2,h1,h2=>simp[lrow]at h1
 det Φ ρ x j y v v' h1 h2 h3:=by
  match j,h1,h2 with
  | 0,h1,h2=>simp[lrow,Zee]at h1 h2; subst h1; subst h2; exact L4 h3
  | 1,h1,h2=>simp[lrow,Zee]at h1 h2; subst h1; subst h2; exact L4 h3
  | j+2,h1,h2=>simp[lrow]at h1
end Go.Known
end
section
namespace Go.Known
open Go Go.AE Go.Proofs
open Go.Plain
theorem Zv5{f:Int}{ls:List Lt}(h:W4 f ls=0):0≤f∧f≤40:=by
 unfold W4 at h;split at h
 ·cases h
 ·split at h
  ·cases h
  ·omega
section
variable {p:Int} {fs:List Fg} {d:Nat}
end
end Go.Known
end
section
namespace Go.Known
open Go Go.AE Go.Proofs
open Go.Plain
def okI(f g a:Int)(ls:List Lt):Prop:=0≤g∧g≤f∧0≤a∧f<40∧a≤inG g ls
instance (f g a:Int) (ls:List Lt):Decidable (okI f g a ls):=by unfold okI; infer_instance
end Go.Known
end
section
namespace Go.Known
open Go Go.AE Go.Proofs
open Go.Plain
def okP(f g a:Int)(ls:List Lt):Prop:=0≤g∧g≤f∧0≤a∧a≤inG g ls
instance (f g a:Int) (ls:List Lt):Decidable (okP f g a ls):=by unfold okP; infer_instance
end Go.Known
end
