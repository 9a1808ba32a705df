/- Part 41 of the proof: Pz, Sx, Sy, We. -/
import Derived.Test.YtipeejpafgnjdaaGreatDoorH11
import Derived.Test.YtipeejpafgnjdaaGreatDoorH12
import Derived.Test.YtipeejpafgnjdaaGreatDoorH30
import Derived.Test.YtipeejpafgnjdaaGreatDoorH35
import Derived.Test.YtipeejpafgnjdaaGreatDoorH36
import Derived.Test.YtipeejpafgnjdaaGreatDoorH40
set_option linter.all false
section
namespace Go.Known
open Go.Plain
section
variable {n:Int} {ls:List Lt}
end
theorem ValR.key{f:Int}{ls:List Lt}(h:ValR f ls){l:Lt}(hm:l∈ls)(hp:isP l=true):l.k=1∧1≤l.r∧l.r≤inG l.g ls∧0≤l.g∧l.g≤f:=by
 have hk:l.k=1:=by simpa[isP]using hp
 obtain⟨_,_,_,a,b,c,d,_⟩:=(Zec hk).1 (h.okr l hm);exact⟨hk,c,d,a,b⟩
end Go.Known
end
section
namespace Go.Known
open Go Go.AE Go.Proofs
open Go.Plain
structure Fg where
 p:Int
 r:Bool
 d:Int
deriving DecidableEq,Inhabited
end Go.Known
end
section
namespace Go.Known
open Go Go.AE Go.Proofs
open Go.Plain
def Zy0(x:Fg):Prop:=1≤x.p∧x.p≤9∧0≤x.d∧x.d≤6
instance (x:Fg):Decidable (Zy0 x):=by unfold Zy0; infer_instance
end Go.Known
end
section
namespace Go.Known
open Go.Plain
section
variable {g a:Int} {ls:List Lt}
end
theorem ValR.below{f:Int}{ls:List Lt}(h:ValR f ls){g:Int}{a:Nat}(ha:a≤inG g ls):Z4 (fun l=>(isP l&&l.g == g)&&decide (l.r≤(a:Int))) ls=a:=by
 obtain⟨hr,hap,_⟩:=ValR.ranks h.lo h.okr;refine Zu7 (fun l hl hq=>?_) (fun t=>Zu0 hap g t) a ha
 simp only[bA,beq_iff_eq]at hq;have:=hr l hl hq.1;rw[hq.2]at this;exact this
end Go.Known
end
