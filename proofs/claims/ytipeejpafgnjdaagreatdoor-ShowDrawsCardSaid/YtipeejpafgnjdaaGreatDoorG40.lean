/- Part 40 of the proof: Sr, Sx, Sy, We. -/
import Derived.Test.YtipeejpafgnjdaaGreatDoorG15
import Derived.Test.YtipeejpafgnjdaaGreatDoorG16
import Derived.Test.YtipeejpafgnjdaaGreatDoorG37
import Derived.Test.YtipeejpafgnjdaaGreatDoorG38
import Derived.Test.YtipeejpafgnjdaaGreatDoorG39
set_option linter.all false
section
namespace Go.AE
open Go.RowKit
variable {P:Program}
theorem PCall.arg {g:FuncId} {args args':List AVal} {v:AVal} (h:PCall P g args v) (ha:WkL args' args):PCall P g args' v:=by
 obtain⟨h1,h2⟩:=Zv0 ha
 intro m av
 refine⟨(h m av).1,fun W Φ ρ vs w hr hargs hav=>(h m av).2 W Φ ρ vs w hr ⟨by rw[hargs.1,h1],fun i y u hy hu=>?_⟩ hav⟩
 obtain⟨x,hx,hw⟩:=h2 i y hy
 exact hw _ _ _ (hargs.2 i x u hx hu)
end Go.AE
namespace Go.Known
open Go Go.AE Go.Proofs
open Go.Plain
theorem Z6s {get:Nat→Option ABlk} (f:Int) (L:List Lt):Zah get 4 (cV f L)=some (cV f L):=by
 unfold cV
 rw[Zah]
 simp only[mapO]
 rw[Zen (Zhk _)]
 rfl
theorem c115e (f:Int):PCall Tryz.prog 106 [cV f [],.imm []] (cV f []):=by
 refine Zd1 hm 4 Tryz.func106 Z9f rfl rfl (by simp[Zag,AVal.closed,Zal]) (by simp[AVal.closed,Zag,Zal]) fun K hK=>?_
 have h114:=c114v f [] (by simp)
 have hKv:=hK (cV f []) ⟨[],1⟩ (Z6s f [])
 clear hK
 unfold cV at *
 simp at h114 ⊢
 refine Zbg (α:=Unit) (fun _=>[(5,.int .i64 0),(4,.ptr 4 0 0),(2,.ptr 3 0 0)]) (fun _=>⟨[(3,.cells 2 [[.int .i64 f,.imm []]]),(4,.cells 2 [[.int .i64 0,.nilSl]])],5⟩) (fun _=>0) (fun _=>True) () [(3,1),(4,2)] (by simp) trivial ?_
 intro _ _ N hN
 simp
 refine Zbc h114 ?_
 simp
 exact endK hKv [] (by simp)
theorem c43e (f:Int):PCall Tryz.prog 54 [cV f []] (cV f []):=by
 refine Zd1 hm 4 Tryz.func54 cj43 rfl rfl (by simp[Zag,AVal.closed,Zal]) (by simp[AVal.closed,Zag,Zal]) fun K hK=>?_
 have h114:=c114v f [] (by simp)
 have h115:=(c115e f).arg (args':=[cV f [],.nilSl]) ⟨Wk.refl _,Z6g,trivial⟩
 have hKv:=hK (cV f []) ⟨[],1⟩ (Z6s f [])
 clear hK
 unfold cV at *
 simp at h114 h115 ⊢
 refine Zbc h114 ?_
 simp
 refine Zbg (α:=Unit) (fun _=>[(5,.int .i64 0),(4,.nilSl),(3,.ptr 3 0 0),(2,.ptr 2 0 0)]) (fun _=>⟨[(3,.cells 2 [[.int .i64 f,.imm []]]),(2,.cells 2 [[.int .i64 0,.nilSl]])],4⟩) (fun _=>0) (fun _=>True) () [(3,5)] (by simp) trivial ?_
 intro _ _ N hN
 simp
 refine Zbc h115 ?_
 simp
 exact endK hKv [] (by simp)
end Go.Known
end
section
namespace Go.Known
open Go Go.AE Go.Proofs
open Go.Plain
structure Fg where
 p:Int
 r:Bool
 d:Int
deriving DecidableEq,Inhabited
end Go.Known
end
section
namespace Go.Known
open Go Go.AE Go.Proofs
open Go.Plain
def Z6p (x:Fg):Prop:=1≤x.p∧x.p≤9∧0≤x.d∧x.d≤6
instance (x:Fg):Decidable (Z6p x):=by unfold Z6p; infer_instance
end Go.Known
end
section
namespace Go.Known
open Go.Plain
section
variable {g a:Int} {ls:List Lt}
end
theorem ValR.below {f:Int} {ls:List Lt} (h:ValR f ls) {g:Int} {a:Nat} (ha:a≤inG g ls):cntP (fun l=>(isP l&&l.g == g)&&decide (l.r≤(a:Int))) ls=a:=by
 obtain⟨hr,hap,_⟩:=ValR.ranks h.lo h.okr
 refine Zph (fun l hl hq=>?_) (fun t=>Zpj hap g t) a ha
 simp only[Bool.and_eq_true,beq_iff_eq]at hq
 have:=hr l hl hq.1
 rw[hq.2]at this
 exact this
end Go.Known
end
