/- Part 45 of the proof: Ia. -/
import Derived.Test.YtfmnflhggplkmaaGreatDoorN37
import Derived.Test.YtfmnflhggplkmaaGreatDoorN42
import Derived.Test.YtfmnflhggplkmaaGreatDoorN44
import Derived.Lib.AppendIntMem
set_option linter.all false
namespace Go.Known
open Go Go.AE Go.Proofs
open Go.Plain
theorem cItoaN (n:Int) (h0 : -9223372036854775808≤n) (h1:n≤9223372036854775807):PCall Tryz.prog 35 [.int .i64 n] (.str (Lib.itoa n)):=by
 intro m av
 refine⟨⟨_,Tryz.func35,by kernel_rfl,by kernel_rfl⟩,fun W Φ ρ vs w hr ha _=>?_⟩
 obtain⟨hs,hx⟩:=ha
 obtain⟨vl⟩:=vs
 match vl,hs with
 | [v],_=>
  have hv:=hx 0 _ v rfl rfl
  cases hv
  refine(Any.strconv_Itoa Tryz.laysM171 n h0 h1 w ?_).mono fun e w' he=>?_
  ·obtain⟨e,fz,ht⟩:=hr.tab
   unfold Lib.TabIs World.var?
   rw[Tryz.laysM171.m17]
   show(match w.heap[0]? with|some (.cells cs _ _)=>some cs|_=>none)=_
   rw[ht]
   rfl
  ·obtain⟨rfl,k,os,rfl⟩:=he
   exact⟨_,_,m,Φ,ρ,rfl,.refl _ _,fun _ _ _ h=>h,hr.below (Lib.below_grow _ w (Nat.le_refl _) k os),.str _,Nat.le_refl _,rfl,rfl⟩
end Go.Known
