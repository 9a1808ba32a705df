/- Part 37 of the proof: Sf, Sj. -/
import Derived.Test.YtipeejpafgnjdaaGreatDoorG35
import Derived.Test.YtipeejpafgnjdaaGreatDoorG36
set_option linter.all false
section
namespace Go.Known
open Go Go.AE Go.Proofs
open Go.Plain
theorem Zfu (ls:List Lt) {i:Nat} (h:i<ls.length):(ls.map rowL)[i]? = some (rowL (at' ls i)):=by
 rw[List.getElem?_map,List.getElem?_eq_getElem h,at',List.getD,List.getElem?_eq_getElem h]
 rfl
end Go.Known
end
section
namespace Go.AE
open Go.RowKit
variable {P:Program}
def Wk (v v':AVal):Prop:=∀ (Φ:Pers) (ρ:Rho) (u:Value),R Φ ρ v u→R Φ ρ v' u
def WkL:List AVal→List AVal→Prop
 | [],[]=>True
 | x :: r,y :: s=>Wk x y∧WkL r s
 | _,_=>False
theorem Wk.refl (v:AVal):Wk v v:=fun _ _ _ h=>h
theorem Z6g:Wk .nilSl (.imm []):=fun Φ ρ u h=>Z2q Φ ρ u h Φ ρ
theorem Zv0:∀ {xs ys:List AVal},WkL xs ys→xs.length=ys.length ∧ ∀(i:Nat) (y:AVal),ys[i]? = some y → ∃ x,xs[i]? = some x∧Wk x y
 | [],[],_=>⟨rfl,fun i y h=>by simp at h⟩
 | [],_ :: _,h=>h.elim
 | _ :: _,[],h=>h.elim
 | x :: r,y :: s,h=>by
  obtain⟨h1,h2⟩:=Zv0 h.2
  refine⟨by simp[h1],fun i z hz=>?_⟩
  cases i with
  | zero=>cases hz; exact⟨x,rfl,h.1⟩
  | succ i=>exact h2 i z (by simpa using hz)
theorem Wk_agg {xs ys:List AVal} (h:WkL xs ys):Wk (.agg xs) (.agg ys):=fun Φ ρ u hu=>by
 obtain⟨h1,h2⟩:=Zv0 h
 cases hu with
 | agg cs vs hs hr=>
  refine .agg _ _ (by rw[hs,h1]) fun i y v hy hv=>?_
  obtain⟨x,hx,hw⟩:=h2 i y hy
  exact hw _ _ _ (hr i x v hx hv)
theorem PCall.wk {g:FuncId} {args:List AVal} {v v':AVal} (h:PCall P g args v) (hv:Wk v v'):PCall P g args v':=by
 intro m av
 refine⟨(h m av).1,fun W Φ ρ vs w hr ha hav=>((h m av).2 W Φ ρ vs w hr ha hav).mono fun e w' he=>?_⟩
 obtain⟨u,r,m',Φ',ρ',e1,hE,hk,hr',hR,hn,rfl,rfl⟩:=he
 exact⟨u,_,_,Φ',ρ',e1,hE,hk,hr',hv _ _ _ hR,hn,rfl,rfl⟩
end Go.AE
namespace Go.Known
open Go Go.AE Go.Proofs
open Go.Plain
end Go.Known
end
