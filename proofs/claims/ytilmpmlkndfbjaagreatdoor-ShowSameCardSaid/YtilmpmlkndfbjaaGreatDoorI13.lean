/- Part 13 of the proof: AeNf, AeNg. -/
import Derived.Test.YtilmpmlkndfbjaaGreatDoorI12
set_option linter.all false
section
namespace Go.AE
open Go.RowKit
variable {P:Program}
theorem E7(hm:P.follows .mixedOrders=true){f:FuncId}{fn:Func}{c:AFn}{args:List AVal}{m:SMem}{a:AVal→SMem→Prop}(j:P.funcs[f]? = some fn)(g:cFn P fn=some c){b:Nat}{d:List (Nat×Option (Option Nat))}{bd:ACode}(i:c=⟨b,d,bd⟩)(k:Nat.ble args.length b=true)
 (h:∀ K:AVal→SMem→Prop,(∀ r e,a r e→K r e)→wpZ P b m.next bd (M8 b d (S4 m.next K)) (V2 0 args []) m):Ctr P f args m a:=
 by subst i; exact Zt0 hm j g k (h a fun _ _ h=>h)
theorem A8(hm:P.follows .mixedOrders=true){f:FuncId}{fn:Func}{b:AFn}{args:List AVal}{m:SMem}{v:AVal}{M:SMem}(g:P.funcs[f]? = some fn)(d:cFn P fn=some b){a:Nat}{c:List (Nat×Option (Option Nat))}{bd:ACode}(e:b=⟨a,c,bd⟩)(i:Nat.ble args.length a=true)
 (h:∀ K:AVal→SMem→Prop,K v M→wpZ P a m.next bd (M8 a c (S4 m.next K)) (V2 0 args []) m):Ctr P f args m fun r j=>r=v∧j=M:=
 by subst e; exact Zt0 hm g d i (h _ ⟨rfl,rfl⟩)
theorem Y1{n0:Nat}{K:AVal→SMem→Prop}{v0 v:AVal}{m0 m:SMem}(a:K v0 m0)(l:List (Nat×Nat))(h:SubR n0 l [(0,v0)] m0 [(0,v)] m):S4 n0 K v m:=⟨v0,m0,l,h,a⟩
theorem Zbg(hm:P.follows .mixedOrders=true){f:FuncId}{fn:Func}{c:AFn}{args:List AVal}{v:AVal}(j:P.funcs[f]? = some fn)(g:cFn P fn=some c){a:Nat}{e:List (Nat×Option (Option Nat))}{bd:ACode}(i:c=⟨a,e,bd⟩)(l:Nat.ble args.length a=true)(b:Y7 args=true)
 (d:match v with | .int _ _ | .bool _ | .str _=>True|_=>False)
 (h:∀ K:AVal→SMem→Prop,K v ⟨[],1⟩→wpZ P a 1 bd (M8 a e (S4 1 K)) (V2 0 args []) ⟨[],1⟩):PCall P f args v:=by
 refine Zno (k:=1) b (by cases v<;>first|exact d.elim|rfl) ((A8 (m:=⟨[],1⟩) (M:=⟨[],1⟩) hm j g i l h).mono fun r o n=>?_)
 obtain⟨rfl,rfl⟩:=n;exact Zz2 _ 0 _ d
theorem Zaa(hm:P.follows .mixedOrders=true){f:FuncId}{fn:Func}{d:AFn}{args:List AVal}{v:AVal}(k:Nat)(l:P.funcs[f]? = some fn)(i:cFn P fn=some d){a:Nat}{e:List (Nat×Option (Option Nat))}{bd:ACode}(j:d=⟨a,e,bd⟩)(n:Nat.ble args.length a=true)(b:Y7 args=true)(c:v.closed=true)
 (h:∀ K:AVal→SMem→Prop,(∀ r g,X4 g.get k r=some v→K r g)→wpZ P a 1 bd (M8 a e (S4 1 K)) (V2 0 args []) ⟨[],1⟩):PCall P f args v:=
 Zno (k:=k) b c (E7 (m:=⟨[],1⟩) hm l i j n h)
end Go.AE
end
section
namespace Go.AE
open Go.RowKit
def wr{α:Type}(x:α):α:=x
theorem Z06{α:Type}(x:α):wr x=x:=Eq.trans (Eq.refl x) (Eq.refl x)
@[congr] theorem Yi3{P : Program}{g : FuncId}{args a : List AVal}{m : SMem}{w : Nat}{K : AVal → SMem → Prop}(h : wr args = a) : SC P g args m w K = SC P g a m w K := by cases h; rfl
@[congr] theorem Yia{P : Program}{g : FuncId}{args a : List AVal}{n : Nat}{x : List Nat}{m : SMem}{K : AVal → Option ABlk → Prop}(h : wr args = a) : DC P g args n x m K = DC P g a n x m K := by cases h; rfl
end Go.AE
end
