/- Part 41 of the proof: Tm, To, Tp, Tu, Wg, Wh, Tv. -/
import Derived.Test.YtipeejpafgnjdaaGreatDoorG15
import Derived.Test.YtipeejpafgnjdaaGreatDoorG39
import Derived.Test.YtipeejpafgnjdaaGreatDoorG40
import Derived.Shelf.SlSortCmp.NoneTotal
import Derived.Test.YtipeejpafgnjdaaGreatDoorProg
import Derived.Deep.QuietTactic
import Derived.BigQuiet
set_option linter.all false
section
namespace Go.Known
open Go Go.AE Go.Proofs
open Go.Plain
def slXz (nl mx l h:Option Nat):Option (AVal×List (Nat×Option ABlk)):=match nl,mx,l,h with
 | some n,some mx,some l,some h=>if l≤h∧h≤mx∧mx≤n then (if mx=0 then some (.emp,[])else some (.bot,[]))else none
 | _,_,_,_=>none
@[simp] theorem slXz_some (n mx l h : Nat) : slXz (some n) (some mx) (some l) (some h) = if l ≤ h ∧ h ≤ mx ∧ mx ≤ n then (if mx = 0 then some (.emp, []) else some (.bot, [])) else none := rfl
@[simp] theorem sd_slSlx (id : Nat) (f : AOpd → AVal) (get : Nat → Option ABlk) (k : Nat) (x l h z : AOpd) : stepD id f get (.slSl k x (some l) (some h) (some z)) = slXz (Zaw (f x)) (Zb6 (f z)) (Zb6 (f l)) (Zb6 (f h)) := by
 simp only[stepD,Zeb,slXz]
 cases Zaw (f x)<;>cases Zb6 (f z)<;>cases Zb6 (f l)<;>cases hh:Zb6 (f h)<;>simp[hh]
@[simp] theorem sd_clear (id : Nat) (f : AOpd → AVal) (get : Nat → Option ABlk) (k : Nat) (zero : List AVal) (x : AOpd) : stepD id f get (.clear k zero x) = match f x with
  | .sl b off len=>match get b with
   | some (.cells k' els)=>if k'=k∧off+len≤els.length then
    some (aundef,[(b,some (.cells k (els.take off++List.replicate len zero++els.drop (off+len))))])
    else none
   | _=>none
  | .nilSl=>some (aundef,[])
  | .emp=>some (aundef,[])
  | _=>none:=rfl
@[simp] theorem sd_minmax2 (id : Nat) (f : AOpd → AVal) (get : Nat → Option ABlk) (mx : Bool) (x y : AOpd) : stepD id f get (.minmax mx [x, y]) = match Zi3 mx (f x) [f y] with
   | some v=>some (v,[])
   | none=>none:=rfl
@[simp] theorem mm_int (mx : Bool) (k k' : IntKind) (a b : Int) : Zi3 mx (.int k a) [.int k' b] = some (.int k (if mx then (if b > a then b else a) else (if b < a then b else a))) := rfl
end Go.Known
end
section
namespace Go.Known
open Go Go.AE Go.Proofs
open Go.Plain
def lrow (p:Nat×Nat):List AVal:=[.int .i64 p.1,.int .i64 p.2]
section
variable {ls:List Lt} {f:Int} {n:Nat}
theorem Zp9:∀ (ps:List (Nat×Nat)),Zal (ps.map lrow)=true
 | []=>rfl
 | p :: r=>by
  have:=Zp9 r
  simp only[List.map_cons,Zal,lrow,Zag,AVal.closed,Bool.and_true,Bool.true_and]at this ⊢
  exact this
end
end Go.Known
end
section
namespace Go.Known
open Go Go.AE Go.Proofs Go.RowKit Go.Sort
open Go.Plain
def Zsq (p:Nat×Nat):List Value:=[.int .i64 p.1,.int .i64 p.2]
theorem lrow_enc:RowEnc Zsq lrow 2 where
 pos:=by decide
 len _:=rfl
 lenA _:=rfl
 one x v hv:=by simp[Zsq]at hv; rcases hv with rfl|rfl<;>rfl
 rel Φ ρ x j y v h1 h2:=by
  match j,h1,h2 with
  | 0,h1,h2=>simp[lrow,Zsq]at h1 h2; subst h1; subst h2; exact .int _ _
  | 1,h1,h2=>simp[lrow,Zsq]at h1 h2; subst h1; subst h2; exact .int _ _
  | j+2,h1,h2=>simp[lrow]at h1
 det Φ ρ x j y v v' h1 h2 h3:=by
  match j,h1,h2 with
  | 0,h1,h2=>simp[lrow,Zsq]at h1 h2; subst h1; subst h2; exact Zf4 h3
  | 1,h1,h2=>simp[lrow,Zsq]at h1 h2; subst h1; subst h2; exact Zf4 h3
  | j+2,h1,h2=>simp[lrow]at h1
end Go.Known
end
section
namespace Go.Known
open Go Go.AE Go.Proofs
open Go.Plain
theorem Zv2 {f:Int} {ls:List Lt} (h:errC f ls=0):0≤f∧f≤40:=by
 unfold errC at h
 split at h
 ·cases h
 ·split at h
  ·cases h
  ·omega
section
variable {p:Int} {fs:List Fg} {d:Nat}
end
end Go.Known
end
section
namespace Go.Known
open Go Go.AE Go.Proofs
open Go.Plain
def okI (f g a:Int) (ls:List Lt):Prop:=0≤g∧g≤f∧0≤a∧f<40∧a≤inG g ls
instance (f g a:Int) (ls:List Lt):Decidable (okI f g a ls):=by unfold okI; infer_instance
end Go.Known
end
section
namespace Go.Known
open Go Go.AE Go.Proofs
open Go.Plain
def okP (f g a:Int) (ls:List Lt):Prop:=0≤g∧g≤f∧0≤a∧a≤inG g ls
instance (f g a:Int) (ls:List Lt):Decidable (okP f g a ls):=by unfold okP; infer_instance
end Go.Known
end
section
namespace Go.Known
open Go Go.AE Go.Proofs
open Go.Plain
@[simp] theorem Zu2 (get : Nat → Option ABlk) (S : List Nat) (k : IntKind) (n : Int) : fzV get S (.int k n) = .int k n := rfl
end Go.Known
end
