/- Part 15 of the proof: Ka, Shelf. -/
import Derived.Test.YtipeejpafgnjdaaGreatDoorG10
import Derived.Test.YtipeejpafgnjdaaGreatDoorProg
import Derived.Shelf.Strings.Builder1
import Derived.Shelf.Strings.Builder2
import Derived.Shelf.Strings.OnBuilder
set_option linter.all false
section
namespace Go.Known
open Go Go.AE Go.Proofs
abbrev GD (n:Nat) (a:AFn):Prop:=Go.AE.Good Tryz.prog (n,a)
theorem gG {n:Nat} {f:Func} {a:AFn} (h:Tryz.prog.funcs[n]? = some f) (hc:cFn Tryz.prog f=some a) (hk:(Zfb a.ntmps a.body&&(Nat.ble a.ntmps bound&&Nat.ble (n+1) bound))=true):GD n a:=by
 simp only[Bool.and_eq_true]at hk
 exact⟨⟨_,h,hc⟩,hk.1,hk.2.1,hk.2.2⟩
abbrev oZ (d:Nat) (x:AOp):AOper:=⟨some d,x,none,[]⟩
abbrev pZ (x:AOp):AOper:=⟨none,x,none,[]⟩
abbrev gZ (d g:Nat) (b:Bool) (x:AOp):AOper:=⟨some d,x,some (g,b),[]⟩
abbrev tZ (i:Nat):AOpd:=.tmp i
abbrev kZ (n:Int):AOpd:=.const (.int .i64 n)
abbrev bZ (b:Bool):AOpd:=.const (.bool b)
abbrev mv (d s:Nat):AOper:=⟨some d,.mov (.tmp s),none,[]⟩
abbrev mk (d:Nat) (n:Int):AOper:=⟨some d,.mov (.const (.int .i64 n)),none,[]⟩
abbrev mtZ (d:Nat):AOper:=⟨some d,.mov (.const (.bool true)),none,[]⟩
abbrev mfZ (d:Nat):AOper:=⟨some d,.mov (.const (.bool false)),none,[]⟩
abbrev mnZ (d:Nat):AOper:=⟨some d,.mov (.const .nilSl),none,[]⟩
abbrev lo (d s:Nat):AOper:=⟨some d,.load none (.tmp s),none,[]⟩
abbrev lw (d n s:Nat):AOper:=⟨some d,.load (some n) (.tmp s),none,[]⟩
abbrev fa (d o s:Nat):AOper:=⟨some d,.fieldA o (.tmp s),none,[]⟩
abbrev so (n a x:Nat):AOper:=⟨none,.store n (.tmp a) (.tmp x),none,[]⟩
abbrev ix (d k a i:Nat):AOper:=⟨some d,.idxA k (.tmp a) (.tmp i),none,[]⟩
abbrev le (d s:Nat):AOper:=⟨some d,.lenSl (.tmp s),none,[]⟩
abbrev nc (d s:Nat):AOper:=⟨some d,.nilChk (.tmp s),none,[]⟩
abbrev ex (d s i:Nat):AOper:=⟨some d,.ext (.tmp s) i,none,[]⟩
abbrev bo (d s:Nat):AOper:=⟨some d,.box (.tmp s),none,[]⟩
abbrev no (d s:Nat):AOper:=⟨some d,.un .not (.tmp s),none,[]⟩
abbrev pk1 (d c s:Nat):AOper:=⟨some d,.pick (.tmp c) (.const (.bool true)) (.tmp s),none,[]⟩
abbrev pk0 (d c s:Nat):AOper:=⟨some d,.pick (.tmp c) (.tmp s) (.const (.bool false)),none,[]⟩
abbrev ca1 (d:Nat) (f:FuncId) (x:Nat):AOper:=⟨some d,.call (.fn f) [.tmp x],none,[]⟩
abbrev ca2 (d:Nat) (f:FuncId) (x y:Nat):AOper:=⟨some d,.call (.fn f) [.tmp x,.tmp y],none,[]⟩
abbrev ca3 (d:Nat) (f:FuncId) (x y z:Nat):AOper:=⟨some d,.call (.fn f) [.tmp x,.tmp y,.tmp z],none,[]⟩
abbrev aD (d x y:Nat):AOper:=⟨some d,.bin .add .num (.tmp x) (.tmp y),none,[]⟩
abbrev aDk (d x:Nat) (n:Int):AOper:=⟨some d,.bin .add .num (.tmp x) (.const (.int .i64 n)),none,[]⟩
abbrev aS (d x y:Nat):AOper:=⟨some d,.bin .sub .num (.tmp x) (.tmp y),none,[]⟩
abbrev aSk (d x:Nat) (n:Int):AOper:=⟨some d,.bin .sub .num (.tmp x) (.const (.int .i64 n)),none,[]⟩
abbrev aM (d x y:Nat):AOper:=⟨some d,.bin .mul .num (.tmp x) (.tmp y),none,[]⟩
abbrev aMk (d x:Nat) (n:Int):AOper:=⟨some d,.bin .mul .num (.tmp x) (.const (.int .i64 n)),none,[]⟩
abbrev aQk (d x:Nat) (n:Int):AOper:=⟨some d,.bin .quo .num (.tmp x) (.const (.int .i64 n)),none,[]⟩
abbrev aR (d x y:Nat):AOper:=⟨some d,.bin .rem .num (.tmp x) (.tmp y),none,[]⟩
abbrev aRk (d x:Nat) (n:Int):AOper:=⟨some d,.bin .rem .num (.tmp x) (.const (.int .i64 n)),none,[]⟩
abbrev cE (d x y:Nat):AOper:=⟨some d,.bin .eql .num (.tmp x) (.tmp y),none,[]⟩
abbrev cEk (d x:Nat) (n:Int):AOper:=⟨some d,.bin .eql .num (.tmp x) (.const (.int .i64 n)),none,[]⟩
abbrev cN (d x y:Nat):AOper:=⟨some d,.bin .neq .num (.tmp x) (.tmp y),none,[]⟩
abbrev cNk (d x:Nat) (n:Int):AOper:=⟨some d,.bin .neq .num (.tmp x) (.const (.int .i64 n)),none,[]⟩
abbrev cL (d x y:Nat):AOper:=⟨some d,.bin .lss .num (.tmp x) (.tmp y),none,[]⟩
abbrev cLk (d x:Nat) (n:Int):AOper:=⟨some d,.bin .lss .num (.tmp x) (.const (.int .i64 n)),none,[]⟩
abbrev cK (d x y:Nat):AOper:=⟨some d,.bin .leq .num (.tmp x) (.tmp y),none,[]⟩
abbrev cKk (d x:Nat) (n:Int):AOper:=⟨some d,.bin .leq .num (.tmp x) (.const (.int .i64 n)),none,[]⟩
abbrev cG (d x y:Nat):AOper:=⟨some d,.bin .gtr .num (.tmp x) (.tmp y),none,[]⟩
abbrev cGk (d x:Nat) (n:Int):AOper:=⟨some d,.bin .gtr .num (.tmp x) (.const (.int .i64 n)),none,[]⟩
abbrev cH (d x y:Nat):AOper:=⟨some d,.bin .geq .num (.tmp x) (.tmp y),none,[]⟩
abbrev cHk (d x:Nat) (n:Int):AOper:=⟨some d,.bin .geq .num (.tmp x) (.const (.int .i64 n)),none,[]⟩
abbrev gtl (d g s:Nat):AOper:=⟨some d,.load none (.tmp s),some (g,true),[]⟩
abbrev gtf (d g o s:Nat):AOper:=⟨some d,.fieldA o (.tmp s),some (g,true),[]⟩
abbrev gtm (d g s:Nat):AOper:=⟨some d,.mov (.tmp s),some (g,true),[]⟩
abbrev gfl (d g s:Nat):AOper:=⟨some d,.load none (.tmp s),some (g,false),[]⟩
abbrev gff (d g o s:Nat):AOper:=⟨some d,.fieldA o (.tmp s),some (g,false),[]⟩
abbrev gfm (d g s:Nat):AOper:=⟨some d,.mov (.tmp s),some (g,false),[]⟩
abbrev rf (l:List AOper):ACode:=.region false l
abbrev sr (l:List AOper) (c:ACode):ACode:=.seq (.region false l) c
theorem rQ (f:Func):cFn Tryz.prog f=cFn Tryz.prog f:=rfl
def oR {a b:Option AFn} (_:a=b):AFn:=match b with
 | some f=>f
 | none=>⟨0,[],.skip⟩
abbrev iV (n:Int):AVal:=.int .i64 n
abbrev bV (b:Bool):AVal:=.bool b
end Go.Known
end
section
namespace Go.Proofs
open Go.Shelf
def Tryz.lays156_ren:Go.Shelf.Ren:=⟨fun|156=>91 | 165=>138 | 166=>139 | 169=>140 | 240=>185 | 241=>186 | 276=>213 | 277=>214 | n=>n,fun|31=>81 | 9=>9 | 3=>3 | 4=>4 | 0=>0 | 20=>20 | 72=>186 | 76=>190 | 70=>183 | 37=>184 | 75=>189 | 127=>235 | 164=>264 | 5=>5 | 80=>192 | n=>n,fun|n=>n⟩
theorem Tryz.lays156:Go.Proofs.Lays.n156 Tryz.prog Tryz.lays156_ren:={
 mixed:=by kernel_rfl
 f156:=Tryz.func91.trans (congrArg some (by kernel_rfl))
 f165:=Tryz.func138.trans (congrArg some (by kernel_rfl))
 f166:=Tryz.func139.trans (congrArg some (by kernel_rfl))
 f169:=Tryz.func140.trans (congrArg some (by kernel_rfl))
 f240:=Tryz.func185.trans (congrArg some (by kernel_rfl))
 f241:=Tryz.func186.trans (congrArg some (by kernel_rfl))
 f276:=Tryz.func213.trans (congrArg some (by kernel_rfl))
 f277:=Tryz.func214.trans (congrArg some (by kernel_rfl))
 t0:=Tryz.underlying0
 a0:=Tryz.isAgg0
 z0:=Tryz.sizeOf0
 v0:=Tryz.zeroValue0
 t3:=Tryz.underlying3
 a3:=Tryz.isAgg3
 z3:=Tryz.sizeOf3
 v3:=Tryz.zeroValue3
 t4:=Tryz.underlying4
 a4:=Tryz.isAgg4
 z4:=Tryz.sizeOf4
 v4:=Tryz.zeroValue4
 t9:=Tryz.underlying9
 a9:=Tryz.isAgg9
 z9:=Tryz.sizeOf9
 v9:=Tryz.zeroValue9
 t20:=Tryz.underlying20
 a20:=Tryz.isAgg20
 z20:=Tryz.sizeOf20
 v20:=Tryz.zeroValue20
 t31:=Tryz.underlying81
 a31:=Tryz.isAgg81
 z31:=Tryz.sizeOf81
 v31:=Tryz.zeroValue81
 t37:=Tryz.underlying184
 a37:=Tryz.isAgg184
 z37:=Tryz.sizeOf184
 v37:=Tryz.zeroValue184
 t70:=Tryz.underlying183
 a70:=Tryz.isAgg183
 z70:=Tryz.sizeOf183
 v70:=Tryz.zeroValue183
 t72:=Tryz.underlying186
 a72:=Tryz.isAgg186
 z72:=Tryz.sizeOf186
 v72:=Tryz.zeroValue186
 t75:=Tryz.underlying189
 a75:=Tryz.isAgg189
 z75:=Tryz.sizeOf189
 v75:=Tryz.zeroValue189
 t76:=Tryz.underlying190
 a76:=Tryz.isAgg190
 z76:=Tryz.sizeOf190
 v76:=Tryz.zeroValue190
 t127:=Tryz.underlying235
 a127:=Tryz.isAgg235
 z127:=Tryz.sizeOf235
 v127:=Tryz.zeroValue235
 t164:=Tryz.underlying264
 a164:=Tryz.isAgg264
 z164:=Tryz.sizeOf264
 v164:=Tryz.zeroValue264 }
theorem Tryz.Builder_Extra_156:Builder.Extra Tryz.prog Tryz.lays156_ren:={
 sizeBuilder:=by kernel_rfl
 liesBuilder:=by kernel_rfl
 t5:=Tryz.underlying5
 a5:=Tryz.isAgg5
 z5:=Tryz.sizeOf5
 v5:=Tryz.zeroValue5
 infoByte:=by kernel_rfl
 cellsByte:=by kernel_rfl
 sizeByte:=by kernel_rfl
 neB5:=by decide }
open Go.RowKit in
theorem Tryz.strings_Join (bk o c:Nat) (xs:List ByteArray) (sep:ByteArray) (w:World) (hcells:∀ (j:Nat) x,xs[j]? = some x→w.cell? ⟨bk,o+j,none⟩=some (.string x)) (hbk:bk<w.heap.size) (hN:xs.length≤140737488355328) (hcap:xs.length≤c) (hlen:(Lib.join (xs.map (·.data.toList)) sep.data.toList).length≤140737488355328) :
 Calls Tryz.prog 91 #[.slice (some ⟨bk,o,none⟩) xs.length c,.string sep] w fun e w'=>e=.returned (.string ⟨(Lib.join (xs.map (·.data.toList)) sep.data.toList).toArray⟩)∧Below w.heap.size w w':=Any.strings_Join Tryz.lays156 Tryz.Builder_Extra_156 bk o c xs sep w hcells hbk hN hcap hlen
end Go.Proofs
end
