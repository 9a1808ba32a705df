/- Part 13 of the proof: AeNf, AeNg. -/
import Derived.Test.YtipeejpafgnjdaaGreatDoorH12
set_option linter.all false
section
namespace Go.AE
open Go.RowKit
variable {P:Program}
theorem J7(hm:P.follows .mixedOrders=true){f:FuncId}{fn:Func}{af:AFn}{args:List AVal}{m:SMem}{Post:AVal→SMem→Prop}(hf:P.funcs[f]? = some fn)(hc:cFn P fn=some af){nt:Nat}{rs:List (Nat×Option (Option Nat))}{bd:ACode}(hd:af=⟨nt,rs,bd⟩)(hl:Nat.ble args.length nt=true)
 (h:∀ K:AVal→SMem→Prop,(∀ r sm,Post r sm→K r sm)→wpZ P nt m.next bd (N9 nt rs (S4 m.next K)) (W9 0 args []) m):Ctr P f args m Post:=
 by subst hd; exact Zyz hm hf hc hl (h Post fun _ _ h=>h)
theorem A3(hm:P.follows .mixedOrders=true){f:FuncId}{fn:Func}{af:AFn}{args:List AVal}{m:SMem}{v:AVal}{M:SMem}(hf:P.funcs[f]? = some fn)(hc:cFn P fn=some af){nt:Nat}{rs:List (Nat×Option (Option Nat))}{bd:ACode}(hd:af=⟨nt,rs,bd⟩)(hl:Nat.ble args.length nt=true)
 (h:∀ K:AVal→SMem→Prop,K v M→wpZ P nt m.next bd (N9 nt rs (S4 m.next K)) (W9 0 args []) m):Ctr P f args m fun r sm=>r=v∧sm=M:=
 by subst hd; exact Zyz hm hf hc hl (h _ ⟨rfl,rfl⟩)
theorem Y1{n0:Nat}{K:AVal→SMem→Prop}{v0 v:AVal}{m0 m:SMem}(hK:K v0 m0)(l:List (Nat×Nat))(h:SubR n0 l [(0,v0)] m0 [(0,v)] m):S4 n0 K v m:=⟨v0,m0,l,h,hK⟩
theorem Zbb(hm:P.follows .mixedOrders=true){f:FuncId}{fn:Func}{af:AFn}{args:List AVal}{v:AVal}(hf:P.funcs[f]? = some fn)(hc:cFn P fn=some af){nt:Nat}{rs:List (Nat×Option (Option Nat))}{bd:ACode}(hd:af=⟨nt,rs,bd⟩)(hl:Nat.ble args.length nt=true)(hca:Y0 args=true)
 (hv:match v with | .int _ _ | .bool _ | .str _=>True|_=>False)
 (h:∀ K:AVal→SMem→Prop,K v ⟨[],1⟩→wpZ P nt 1 bd (N9 nt rs (S4 1 K)) (W9 0 args []) ⟨[],1⟩):PCall P f args v:=by
 refine Zk1 (k:=1) hca (by cases v<;>first|exact hv.elim|rfl) ((A3 (m:=⟨[],1⟩) (M:=⟨[],1⟩) hm hf hc hd hl h).mono fun r m' hr=>?_)
 obtain⟨rfl,rfl⟩:=hr;exact Zy5 _ 0 _ hv
theorem J9(hm:P.follows .mixedOrders=true){f:FuncId}{fn:Func}{af:AFn}{args:List AVal}{v:AVal}(k:Nat)(hf:P.funcs[f]? = some fn)(hc:cFn P fn=some af){nt:Nat}{rs:List (Nat×Option (Option Nat))}{bd:ACode}(hd:af=⟨nt,rs,bd⟩)(hl:Nat.ble args.length nt=true)(hca:Y0 args=true)(hcv:v.closed=true)
 (h:∀ K:AVal→SMem→Prop,(∀ r sm,X0 sm.get k r=some v→K r sm)→wpZ P nt 1 bd (N9 nt rs (S4 1 K)) (W9 0 args []) ⟨[],1⟩):PCall P f args v:=
 Zk1 (k:=k) hca hcv (J7 (m:=⟨[],1⟩) hm hf hc hd hl h)
end Go.AE
end
section
namespace Go.AE
open Go.RowKit
def wr{α:Type}(x:α):α:=x
theorem Zto{α:Type}(x:α):wr x=x:=Eq.trans (Eq.refl x) (Eq.refl x)
@[congr] theorem Yg3{P : Program}{g : FuncId}{args args' : List AVal}{m : SMem}{w : Nat}{K : AVal → SMem → Prop}(h : wr args = args') : SC P g args m w K = SC P g args' m w K := by cases h; rfl
@[congr] theorem Ygm{P : Program}{g : FuncId}{args args' : List AVal}{n : Nat}{x : List Nat}{m : SMem}{K : AVal → Option ABlk → Prop}(h : wr args = args') : DC P g args n x m K = DC P g args' n x m K := by cases h; rfl
end Go.AE
end
