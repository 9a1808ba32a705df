/- Part 25 of the proof: Rs. -/
import Derived.Test.YtilmpmlkndfbjaaGreatDoorI19
import Derived.Test.YtilmpmlkndfbjaaGreatDoorI24
set_option linter.all false
namespace Go.Known
open Go Go.AE Go.Proofs
open Go.Plain
attribute [simp] Zb1 Zcg Zb5 Zc7 Zdf Zd8 Zen Zbx Zcz O4 P9 P7 O0 P6 P8 Zd0 Zbw Zb6 Zco Zeg Zbo Zc3 Zc0 Zdx Zbv Zem Zb8 Zd9 Zcl Zej Zbz Zcs Zdy Zec Zch Zck Zbu Zdd Zc8 Zb7 Zcw Zbt Zds Zdj Zdt Zc9 Zeb Zea Zcv Zcu Zby Zdz Zee Zc1 Zd4 Zcr Zeh Zek Zb0 Zel Zdq Zcn Zcx Zdo Zdg Zcj Zdp Zbj Zc6 Zc5 Env.get V2 SMem.at SMem.app SMem.get Z9 Q5 T9 Q8 Zd5 Zda Zei Zcq Zdk Zd7 Zcf Zb2 Zdl Zbq Zcp Zdm Zde unA R8 U8 G5 L4 W4 aundef Zdw Zct Zc4 Zb9 Zbs P3 V8 L5 L1 M8 G6 S3 H7 SubR SubRE SubRB InjK InjA qOf Zat AVal.ren Q4 Z4 ABlk.ren K5 R0 M7 U4 U3 FT.indep N6 P5 K9 H3 in1 Zjc G7 Zae X6 Yfe Ya5 Z78 Z52 Z6b Ybp Z3l Z8h Z67 Z8g Z4o Z70 Z06 Z53 Z7k Ya1 Yga Yhb Z79 Z43 Z93 Z7f Z7i Ybn Z4d Ycz Z2w Z9x Z98 Z6t xOf upX Z38 Z2j Z8u Yf6 Z44 Zqf Zi8 Ztk Z15 Z57 Yb7
@[simp] theorem ce_int(k : IntKind)(n : Int): AVal.cells (.int k n) = some [(.int k n)] := rfl
@[simp] theorem on_int(k : IntKind)(n : Int): AVal.one (.int k n) = true := rfl
@[simp] theorem Yh3(b : Bool): AVal.cells (.bool b) = some [(.bool b)] := rfl
@[simp] theorem Yin(b : Bool): AVal.one (.bool b) = true := rfl
@[simp] theorem ce_ptr(a b c : Nat): AVal.cells (.ptr a b c) = some [(.ptr a b c)] := rfl
@[simp] theorem on_ptr(a b c : Nat): AVal.one (.ptr a b c) = true := rfl
@[simp] theorem Yig(l : List (List AVal))(a b : Nat): AVal.cells (.iptr l a b) = some [(.iptr l a b)] := rfl
@[simp] theorem Yhy(l : List (List AVal))(a b : Nat): AVal.one (.iptr l a b) = true := rfl
@[simp] theorem ce_sl(a b c : Nat): AVal.cells (.sl a b c) = some [(.sl a b c)] := rfl
@[simp] theorem on_sl(a b c : Nat): AVal.one (.sl a b c) = true := rfl
@[simp] theorem ce_imm(l : List (List AVal)): AVal.cells (.imm l) = some [(.imm l)] := rfl
@[simp] theorem on_imm(l : List (List AVal)): AVal.one (.imm l) = true := rfl
@[simp] theorem ce_map(b : Nat): AVal.cells (.map b) = some [(.map b)] := rfl
@[simp] theorem on_map(b : Nat): AVal.one (.map b) = true := rfl
@[simp] theorem Yir(f : Fn)(a b : List AVal): AVal.cells (.func f a b) = some [(.func f a b)] := rfl
@[simp] theorem Yh5(f : Fn)(a b : List AVal): AVal.one (.func f a b) = true := rfl
@[simp] theorem ce_str(l : List UInt8): AVal.cells (.str l) = some [(.str l)] := rfl
@[simp] theorem on_str(l : List UInt8): AVal.one (.str l) = true := rfl
@[simp] theorem Yi1 : AVal.cells .nilSl = some [.nilSl] := rfl
@[simp] theorem Yiy : AVal.one .nilSl = true := rfl
@[simp] theorem Yhe : AVal.cells .nilPtr = some [.nilPtr] := rfl
@[simp] theorem Yiq : AVal.one .nilPtr = true := rfl
@[simp] theorem Yhz : AVal.cells .nilMap = some [.nilMap] := rfl
@[simp] theorem Yho : AVal.one .nilMap = true := rfl
@[simp] theorem Yhp : AVal.cells .nilFunc = some [.nilFunc] := rfl
@[simp] theorem Yhu : AVal.one .nilFunc = true := rfl
@[simp] theorem ce_agg(l : List AVal) : AVal.cells (.agg l) = some l := rfl
def L9(l:List (List Nat)):List (List AVal):=l.map fun w=>[.imm (Z2 w)]
theorem Zp0(l:List (List Nat)):(L9 l).length=l.length:=by simp[L9]
theorem Zpz(l:List (List Nat))(w:List Nat):L9 (l++[w])=L9 l++[[.imm (Z2 w)]]:=by simp[L9]
theorem Zk9:∀ (l:List (List Nat)),V3 (L9 l)=true
 | []=>rfl
 | w :: r=>by
  have:=Zk9 r;simp only[L9,List.map_cons,V3,Y7,AVal.closed,D5,Bool.and_true,Bool.true_and]at this ⊢;exact this
theorem Zii(q:Nat→Nat)(l:List (List Nat)):Z4 q (L9 l)=L9 l:=X1 q _ (Zk9 l)
theorem Ybs{get:Nat→Option ABlk}{S:List Nat}{A:List (List AVal)}(a:V3 A=true)(r:List AVal):C8 get S (A++[r])=A++[r.map (fzV get S)]:=by
 rw[Yc1,Zpt a]; rfl
@[simp] theorem Zn8(q : Nat → Nat)(a b : List (List AVal)) : Z4 q (a ++ b) = Z4 q a ++ Z4 q b := by simp [J3]
theorem Z2g{get:Nat→Option ABlk}{S:List Nat}{b:Nat}{l:List Nat}(c:V8 b S=true)(d:get b=if Z2 l=[]then none else some (.cells 1 (Z2 l))):fzV get S (slV b (Z2 l))=imV (Z2 l):=
 Z4e c d fun row e x a=>by
  obtain⟨i,_,rfl⟩:=List.mem_map.1 e;rw[List.mem_singleton]at a;subst a;rfl
theorem Zjs{get:Nat→Option ABlk}{b k n:Nat}{rows:List (List AVal)}(h:get b=some (.cells k rows))(c:∀ row,row∈rows → ∀ x,x∈row→X4 get n x=some x):X4 get (n+1) (.sl b 0 rows.length)=some (.imm rows):=by
 have a:Nat.ble (0+rows.length) rows.length=true:=by rw[Nat.zero_add]; exact Nat.ble_self_eq_true _
 rw[X4];simp only[h,a,cond_true,List.drop_zero,List.take_length,Zku c]
theorem Zle{get:Nat→Option ABlk}{n:Nat}{rows:List (List AVal)}(a:∀ row,row∈rows → ∀ x,x∈row→X4 get n x=some x):X4 get (n+1) (.imm rows)=some (.imm rows):=by
 rw[X4];simp only[Zku a]
theorem Zrm{get:Nat→Option ABlk}{n:Nat}(l:List Nat):∀ row,row∈Z2 l → ∀ x,x∈row→X4 get (n+1) x=some x:=by
 intro row b x a;obtain⟨i,_,rfl⟩:=List.mem_map.1 b;rw[List.mem_singleton]at a;subst a;rfl
theorem Z63{get:Nat→Option ABlk}{n:Nat}(l:List (List Nat)):∀ row,row∈L9 l → ∀ x,x∈row→X4 get (n+2) x=some x:=by
 intro row b x a;obtain⟨w,_,rfl⟩:=List.mem_map.1 b;rw[List.mem_singleton]at a;subst a;exact Zle (Zrm w)
end Go.Known
