/- Part 1 of the proof: AeTz, ShSo. -/
import Derived.WalkKit
import Derived.Shelf.SlSortCmp.NoneTotal
import Derived.Test.YtggclbeocekgkaaGreatDoorProg
set_option linter.all false
theorem oI{α}{a b:α}:(some a=some b)=(a=b):=Option.some.injEq a b
theorem Bm{α β}{a c:α}{b d:β}:((a,b)=(c,d))=(a=c∧b=d):=Prod.mk.injEq a b c d
theorem gE{α}{l:List α}{i:Nat}(h:i<l.length):l[i]?=some l[i]:=List.getElem?_eq_getElem h
theorem gS{α}{l:List α}{i:Nat}{a:α}:l[i]?=some a↔∃ h:i<l.length,l[i]=a:=List.getElem?_eq_some_iff
theorem bA(a b:Bool):((a&&b)=true)=(a=true∧b=true):=Bool.and_eq_true a b
theorem bF:(false=true)=False:=Bool.false_eq_true
theorem iN{c:Prop}{h:Decidable c}(hnc:¬c){α:Sort _}{t e:α}:ite c t e=e:=if_neg hnc
theorem iP{c:Prop}{h:Decidable c}(hc:c){α:Sort _}{t e:α}:ite c t e=t:=if_pos hc
theorem lR(n:Nat):n≤n:=Nat.le_refl n
theorem lM{α β}{asz:List α}(f:α→β):(asz.map f).length=asz.length:=List.length_map f
theorem gM{α β}{f:α→β}{l:List α}{i:Nat}:(l.map f)[i]?=(l[i]?).map f:=List.getElem?_map
theorem tL{α}{l:List α}{i:Nat}(h:l.length≤i):l.take i=l:=List.take_of_length_le h
theorem mC{α}{a b:α}{l:List α}:a∈b::l↔a=b∨a∈l:=List.mem_cons
theorem mM{α β}{b:β}{f:α→β}{l:List α}:b∈l.map f↔∃a,a∈l∧f a=b:=List.mem_map
theorem lA{α}{asz bs:List α}:(asz++bs).length=asz.length+bs.length:=List.length_append
theorem lC{α}{a:α}{asz:List α}:(a::asz).length=asz.length+1:=List.length_cons
theorem mR{m n:Nat}:m∈List.range n↔m<n:=List.mem_range
theorem lG(a b:Nat):a<b∨a≥b:=Nat.lt_or_ge a b
theorem lK{α}{i:Nat}{l:List α}:(l.take i).length=min i l.length:=List.length_take
theorem mO{α β}{x:Option α}{f:α→β}{b:β}:x.map f=some b↔∃a,x=some a∧f a=b:=Option.map_eq_some_iff
section
namespace Go.AE
open Go.RowKit
def T0(_:World):Prop:=True
theorem T0.keep{w w':World}(_:T0 w)(_:Below w.heap.size w w'):T0 w':=trivial
end Go.AE
end
section
namespace Go.Proofs
open Go.Shelf
def Tryz.CF:Go.Shelf.Ren:=⟨fun|6=>78 | 15=>118 | 14=>117 | 28=>186 | 29=>187 | 20=>178 | 21=>179 | 22=>180 | 23=>181 | 24=>182 | 25=>183 | 26=>184 | 27=>185 | 46=>254 | 47=>255 | 48=>256 | 49=>257 | 50=>258 | 57=>298 | n=>n,fun|22=>96 | 24=>149 | 25=>151 | 3=>3 | 39=>203 | 0=>0 | 53=>254 | 55=>256 | 4=>4 | 46=>248 | 45=>247 | 50=>134 | 5=>5 | 9=>9 | 66=>313 | 70=>317 | 76=>339 | 77=>180 | n=>n,fun|n=>n⟩
theorem Tryz.FF:Go.Proofs.SlLaysF0.n6 Tryz.prog Tryz.CF:={
 mixed:=by kernel_rfl
 f6:=⟨Tryz.f78.name,by decide,Tryz.func78.trans (congrArg some (by kernel_rfl))⟩
 f14:=⟨Tryz.f117.name,by decide,Tryz.func117.trans (congrArg some (by kernel_rfl))⟩
 f15:=Tryz.func118.trans (congrArg some (by kernel_rfl))
 f20:=⟨Tryz.f178.name,by decide,Tryz.func178.trans (congrArg some (by kernel_rfl))⟩
 f21:=⟨Tryz.f179.name,by decide,Tryz.func179.trans (congrArg some (by kernel_rfl))⟩
 f22:=⟨Tryz.f180.name,by decide,Tryz.func180.trans (congrArg some (by kernel_rfl))⟩
 f23:=⟨Tryz.f181.name,by decide,Tryz.func181.trans (congrArg some (by kernel_rfl))⟩
 f24:=⟨Tryz.f182.name,by decide,Tryz.func182.trans (congrArg some (by kernel_rfl))⟩
 f25:=⟨Tryz.f183.name,by decide,Tryz.func183.trans (congrArg some (by kernel_rfl))⟩
 f26:=⟨Tryz.f184.name,by decide,Tryz.func184.trans (congrArg some (by kernel_rfl))⟩
 f27:=⟨Tryz.f185.name,by decide,Tryz.func185.trans (congrArg some (by kernel_rfl))⟩
 f28:=Tryz.func186.trans (congrArg some (by kernel_rfl))
 f29:=Tryz.func187.trans (congrArg some (by kernel_rfl))
 f46:=⟨Tryz.f254.name,by decide,Tryz.func254.trans (congrArg some (by kernel_rfl))⟩
 f47:=Tryz.func255.trans (congrArg some (by kernel_rfl))
 f48:=Tryz.func256.trans (congrArg some (by kernel_rfl))
 f49:=⟨Tryz.f257.name,by decide,Tryz.func257.trans (congrArg some (by kernel_rfl))⟩
 f50:=⟨Tryz.f258.name,by decide,Tryz.func258.trans (congrArg some (by kernel_rfl))⟩
 f57:=⟨Tryz.f298.name,by decide,Tryz.func298.trans (congrArg some (by kernel_rfl))⟩
 t0:=Tryz.underlying0
 a0:=Tryz.isAgg0
 z0:=Tryz.sizeOf0
 v0:=Tryz.zeroValue0
 t3:=Tryz.underlying3
 a3:=Tryz.isAgg3
 z3:=Tryz.sizeOf3
 v3:=Tryz.zeroValue3
 t4:=Tryz.underlying4
 a4:=Tryz.isAgg4
 z4:=Tryz.sizeOf4
 v4:=Tryz.zeroValue4
 t5:=Tryz.underlying5
 a5:=Tryz.isAgg5
 z5:=Tryz.sizeOf5
 v5:=Tryz.zeroValue5
 t9:=Tryz.underlying9
 a9:=Tryz.isAgg9
 z9:=Tryz.sizeOf9
 v9:=Tryz.zeroValue9
 t22:=Tryz.underlying96
 a22:=Tryz.isAgg96
 z22:=Tryz.sizeOf96
 v22:=Tryz.zeroValue96
 t25:=Tryz.underlying151
 a25:=Tryz.isAgg151
 z25:=Tryz.sizeOf151
 v25:=Tryz.zeroValue151
 t39:=Tryz.underlying203
 a39:=Tryz.isAgg203
 z39:=Tryz.sizeOf203
 v39:=Tryz.zeroValue203
 t45:=Tryz.underlying247
 a45:=Tryz.isAgg247
 z45:=Tryz.sizeOf247
 v45:=Tryz.zeroValue247
 t46:=Tryz.underlying248
 a46:=Tryz.isAgg248
 z46:=Tryz.sizeOf248
 v46:=Tryz.zeroValue248
 t50:=Tryz.underlying134
 a50:=Tryz.isAgg134
 z50:=Tryz.sizeOf134
 v50:=Tryz.zeroValue134
 t53:=Tryz.underlying254
 a53:=Tryz.isAgg254
 z53:=Tryz.sizeOf254
 v53:=Tryz.zeroValue254
 t55:=Tryz.underlying256
 a55:=Tryz.isAgg256
 z55:=Tryz.sizeOf256
 v55:=Tryz.zeroValue256
 t66:=Tryz.underlying313
 a66:=Tryz.isAgg313
 z66:=Tryz.sizeOf313
 v66:=Tryz.zeroValue313
 t70:=Tryz.underlying317
 a70:=Tryz.isAgg317
 z70:=Tryz.sizeOf317
 v70:=Tryz.zeroValue317
 t76:=Tryz.underlying339
 a76:=Tryz.isAgg339
 z76:=Tryz.sizeOf339
 v76:=Tryz.zeroValue339
 t77:=Tryz.underlying180
 a77:=Tryz.isAgg180
 z77:=Tryz.sizeOf180
 v77:=Tryz.zeroValue180 }
end Go.Proofs
end
