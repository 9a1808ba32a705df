/- Part 25 of the proof: Rs. -/
import Derived.Test.YtipeejpafgnjdaaGreatDoorH19
import Derived.Test.YtipeejpafgnjdaaGreatDoorH24
set_option linter.all false
namespace Go.Known
open Go Go.AE Go.Proofs
open Go.Plain
attribute [simp] Zbv Zdd Zcl Zcs Zch Zcw Zby Zcv Zbp P1 P3 Q7 P6 Q9 P4 Zdx Zbu Zbi Zdw Zd1 Zb8 Zd2 Zbn Zb2 Zdt Zbt Zbo Zdf Zdj Zco Zbx Zd4 Zdg Zdp Zde Zbj Zcu Zdk Zcf Zcy Zc2 Zbf Zc5 Zcq Zb3 Zdz Zdb Zc9 Zc1 Zd3 Zce Zc6 Zcb Zc0 Zbh Zda Zb1 Zd5 Zd0 Zbl Zci Zdy Zc8 Zdc Zdq Zcm Zcz Za2 Zc4 Zdl Env.get W9 SMem.at SMem.app SMem.get Z8 R6 T6 Q1 Zds Zb7 Zbw Zb9 Zbm Zbg Zcx Zbs Zcr Zdn Zdh Zct Zdr unA R5 U8 I4 M8 X9 aundef Zdi Zdm Zbk Zbz Zc3 Q3 V3 M6 M5 N9 I7 S1 J3 SubR SubRE SubRB InjK InjA qOf Zap AVal.ren Q0 Z3 ABlk.ren L9 S8 M2 V9 V8 FT.indep O8 Q8 K1 J2 in1 Zir I6 Zaa X4 Z46 Ybo Z86 Yaq Z1u Z4r Z0a Z3r Z40 Z6q Z0n Yc7 Zto Ybx Yac Ycm Z5a Z92 Yco Yad Z2e Ybc Ydt Z94 Z6s Z4o Z3b Yet Z3s Ybw xOf upX Z0q Ycr Z0k Z0y Ybn Znx Zi7 Ztn Ztj Ydi Yeo
@[simp] theorem ce_int(k : IntKind)(n : Int): AVal.cells (.int k n) = some [(.int k n)] := rfl
@[simp] theorem on_int(k : IntKind)(n : Int): AVal.one (.int k n) = true := rfl
@[simp] theorem Ygn(b : Bool): AVal.cells (.bool b) = some [(.bool b)] := rfl
@[simp] theorem Yg0(b : Bool): AVal.one (.bool b) = true := rfl
@[simp] theorem ce_ptr(a b c : Nat): AVal.cells (.ptr a b c) = some [(.ptr a b c)] := rfl
@[simp] theorem on_ptr(a b c : Nat): AVal.one (.ptr a b c) = true := rfl
@[simp] theorem Yfz(l : List (List AVal))(a b : Nat): AVal.cells (.iptr l a b) = some [(.iptr l a b)] := rfl
@[simp] theorem Yfm(l : List (List AVal))(a b : Nat): AVal.one (.iptr l a b) = true := rfl
@[simp] theorem ce_sl(a b c : Nat): AVal.cells (.sl a b c) = some [(.sl a b c)] := rfl
@[simp] theorem on_sl(a b c : Nat): AVal.one (.sl a b c) = true := rfl
@[simp] theorem ce_imm(l : List (List AVal)): AVal.cells (.imm l) = some [(.imm l)] := rfl
@[simp] theorem on_imm(l : List (List AVal)): AVal.one (.imm l) = true := rfl
@[simp] theorem ce_map(b : Nat): AVal.cells (.map b) = some [(.map b)] := rfl
@[simp] theorem on_map(b : Nat): AVal.one (.map b) = true := rfl
@[simp] theorem Yga(f : Fn)(a b : List AVal): AVal.cells (.func f a b) = some [(.func f a b)] := rfl
@[simp] theorem Ygu(f : Fn)(a b : List AVal): AVal.one (.func f a b) = true := rfl
@[simp] theorem ce_str(l : List UInt8): AVal.cells (.str l) = some [(.str l)] := rfl
@[simp] theorem on_str(l : List UInt8): AVal.one (.str l) = true := rfl
@[simp] theorem Yg2 : AVal.cells .nilSl = some [.nilSl] := rfl
@[simp] theorem Yfs : AVal.one .nilSl = true := rfl
@[simp] theorem Yfu : AVal.cells .nilPtr = some [.nilPtr] := rfl
@[simp] theorem Ygt : AVal.one .nilPtr = true := rfl
@[simp] theorem Yf0 : AVal.cells .nilMap = some [.nilMap] := rfl
@[simp] theorem Ygs : AVal.one .nilMap = true := rfl
@[simp] theorem Ygb : AVal.cells .nilFunc = some [.nilFunc] := rfl
@[simp] theorem Ygq : AVal.one .nilFunc = true := rfl
@[simp] theorem ce_agg(l : List AVal) : AVal.cells (.agg l) = some l := rfl
def L1(l:List (List Nat)):List (List AVal):=l.map fun w=>[.imm (Z0 w)]
theorem Znu(l:List (List Nat)):(L1 l).length=l.length:=by simp[L1]
theorem Zp8(l:List (List Nat))(w:List Nat):L1 (l++[w])=L1 l++[[.imm (Z0 w)]]:=by simp[L1]
theorem Zl7:∀ (l:List (List Nat)),X8 (L1 l)=true
 | []=>rfl
 | w :: r=>by
  have:=Zl7 r;simp only[L1,List.map_cons,X8,Y0,AVal.closed,G0,Bool.and_true,Bool.true_and]at this ⊢;exact this
theorem Zio(q:Nat→Nat)(l:List (List Nat)):Z3 q (L1 l)=L1 l:=Y6 q _ (Zl7 l)
theorem Z60{get:Nat→Option ABlk}{S:List Nat}{A:List (List AVal)}(hA:X8 A=true)(r:List AVal):D3 get S (A++[r])=A++[r.map (fzV get S)]:=by
 rw[Z1d,Zo4 hA]; rfl
@[simp] theorem Zkh(q : Nat → Nat)(a b : List (List AVal)) : Z3 q (a ++ b) = Z3 q a ++ Z3 q b := by simp [K7]
theorem Z7a{get:Nat→Option ABlk}{S:List Nat}{b:Nat}{l:List Nat}(hb:V3 b S=true)(hg:get b=if Z0 l=[]then none else some (.cells 1 (Z0 l))):fzV get S (slV b (Z0 l))=imV (Z0 l):=
 Ycq hb hg fun row hr x hx=>by
  obtain⟨i,_,rfl⟩:=List.mem_map.1 hr;rw[List.mem_singleton]at hx;subst hx;rfl
theorem Zhp{get:Nat→Option ABlk}{b k n:Nat}{rows:List (List AVal)}(h:get b=some (.cells k rows))(hs:∀ row,row∈rows → ∀ x,x∈row→X0 get n x=some x):X0 get (n+1) (.sl b 0 rows.length)=some (.imm rows):=by
 have h1:Nat.ble (0+rows.length) rows.length=true:=by rw[Nat.zero_add]; exact Nat.ble_self_eq_true _
 rw[X0];simp only[h,h1,cond_true,List.drop_zero,List.take_length,Zkg hs]
theorem Zlw{get:Nat→Option ABlk}{n:Nat}{rows:List (List AVal)}(hs:∀ row,row∈rows → ∀ x,x∈row→X0 get n x=some x):X0 get (n+1) (.imm rows)=some (.imm rows):=by
 rw[X0];simp only[Zkg hs]
theorem Zlr{get:Nat→Option ABlk}{n:Nat}(l:List Nat):∀ row,row∈Z0 l → ∀ x,x∈row→X0 get (n+1) x=some x:=by
 intro row hr x hx;obtain⟨i,_,rfl⟩:=List.mem_map.1 hr;rw[List.mem_singleton]at hx;subst hx;rfl
theorem Yal{get:Nat→Option ABlk}{n:Nat}(l:List (List Nat)):∀ row,row∈L1 l → ∀ x,x∈row→X0 get (n+2) x=some x:=by
 intro row hr x hx;obtain⟨w,_,rfl⟩:=List.mem_map.1 hr;rw[List.mem_singleton]at hx;subst hx;exact Zlw (Zlr w)
end Go.Known
