/- Part 14 of the proof: Ka. -/
import Derived.Test.YtmfdlchjaldclaaGreatDoorA10
import Derived.Test.YtmfdlchjaldclaaGreatDoorProg
set_option linter.all false
namespace Go.Known
open Go Go.AE Go.Proofs
abbrev GD (n:Nat) (a:AFn):Prop:=Go.AE.Good Tryz.prog (n,a)
theorem gG {n:Nat} {f:Func} {a:AFn} (h:Tryz.prog.funcs[n]? = some f) (hc:cFn Tryz.prog f=some a) (hk:(dstOk a.ntmps a.body&&(Nat.ble a.ntmps bound&&Nat.ble (n+1) bound))=true):GD n a:=by
 simp only [Bool.and_eq_true] at hk
 exact⟨⟨_,h,hc⟩,hk.1,hk.2.1,hk.2.2⟩
abbrev oZ (d:Nat) (x:AOp):AOper:=⟨some d,x,none,[]⟩
abbrev pZ (x:AOp):AOper:=⟨none,x,none,[]⟩
abbrev gZ (d g:Nat) (b:Bool) (x:AOp):AOper:=⟨some d,x,some (g,b),[]⟩
abbrev tZ (i:Nat):AOpd:=.tmp i
abbrev kZ (n:Int):AOpd:=.const (.int .i64 n)
abbrev bZ (b:Bool):AOpd:=.const (.bool b)
abbrev mv (d s:Nat):AOper:=⟨some d,.mov (.tmp s),none,[]⟩
abbrev mk (d:Nat) (n:Int):AOper:=⟨some d,.mov (.const (.int .i64 n)),none,[]⟩
abbrev mtZ (d:Nat):AOper:=⟨some d,.mov (.const (.bool true)),none,[]⟩
abbrev mfZ (d:Nat):AOper:=⟨some d,.mov (.const (.bool false)),none,[]⟩
abbrev mnZ (d:Nat):AOper:=⟨some d,.mov (.const .nilSl),none,[]⟩
abbrev lo (d s:Nat):AOper:=⟨some d,.load none (.tmp s),none,[]⟩
abbrev lw (d n s:Nat):AOper:=⟨some d,.load (some n) (.tmp s),none,[]⟩
abbrev fa (d o s:Nat):AOper:=⟨some d,.fieldA o (.tmp s),none,[]⟩
abbrev so (n a x:Nat):AOper:=⟨none,.store n (.tmp a) (.tmp x),none,[]⟩
abbrev ix (d k a i:Nat):AOper:=⟨some d,.idxA k (.tmp a) (.tmp i),none,[]⟩
abbrev le (d s:Nat):AOper:=⟨some d,.lenSl (.tmp s),none,[]⟩
abbrev nc (d s:Nat):AOper:=⟨some d,.nilChk (.tmp s),none,[]⟩
abbrev ex (d s i:Nat):AOper:=⟨some d,.ext (.tmp s) i,none,[]⟩
abbrev bo (d s:Nat):AOper:=⟨some d,.box (.tmp s),none,[]⟩
abbrev no (d s:Nat):AOper:=⟨some d,.un .not (.tmp s),none,[]⟩
abbrev pk1 (d c s:Nat):AOper:=⟨some d,.pick (.tmp c) (.const (.bool true)) (.tmp s),none,[]⟩
abbrev pk0 (d c s:Nat):AOper:=⟨some d,.pick (.tmp c) (.tmp s) (.const (.bool false)),none,[]⟩
abbrev ca1 (d:Nat) (f:FuncId) (x:Nat):AOper:=⟨some d,.call (.fn f) [.tmp x],none,[]⟩
abbrev ca2 (d:Nat) (f:FuncId) (x y:Nat):AOper:=⟨some d,.call (.fn f) [.tmp x,.tmp y],none,[]⟩
abbrev ca3 (d:Nat) (f:FuncId) (x y z:Nat):AOper:=⟨some d,.call (.fn f) [.tmp x,.tmp y,.tmp z],none,[]⟩
abbrev aD (d x y:Nat):AOper:=⟨some d,.bin .add .num (.tmp x) (.tmp y),none,[]⟩
abbrev aDk (d x:Nat) (n:Int):AOper:=⟨some d,.bin .add .num (.tmp x) (.const (.int .i64 n)),none,[]⟩
abbrev aS (d x y:Nat):AOper:=⟨some d,.bin .sub .num (.tmp x) (.tmp y),none,[]⟩
abbrev aSk (d x:Nat) (n:Int):AOper:=⟨some d,.bin .sub .num (.tmp x) (.const (.int .i64 n)),none,[]⟩
abbrev aM (d x y:Nat):AOper:=⟨some d,.bin .mul .num (.tmp x) (.tmp y),none,[]⟩
abbrev aMk (d x:Nat) (n:Int):AOper:=⟨some d,.bin .mul .num (.tmp x) (.const (.int .i64 n)),none,[]⟩
abbrev aQ (d x y:Nat):AOper:=⟨some d,.bin .quo .num (.tmp x) (.tmp y),none,[]⟩
abbrev aQk (d x:Nat) (n:Int):AOper:=⟨some d,.bin .quo .num (.tmp x) (.const (.int .i64 n)),none,[]⟩
abbrev aR (d x y:Nat):AOper:=⟨some d,.bin .rem .num (.tmp x) (.tmp y),none,[]⟩
abbrev aRk (d x:Nat) (n:Int):AOper:=⟨some d,.bin .rem .num (.tmp x) (.const (.int .i64 n)),none,[]⟩
abbrev cE (d x y:Nat):AOper:=⟨some d,.bin .eql .num (.tmp x) (.tmp y),none,[]⟩
abbrev cEk (d x:Nat) (n:Int):AOper:=⟨some d,.bin .eql .num (.tmp x) (.const (.int .i64 n)),none,[]⟩
abbrev cN (d x y:Nat):AOper:=⟨some d,.bin .neq .num (.tmp x) (.tmp y),none,[]⟩
abbrev cNk (d x:Nat) (n:Int):AOper:=⟨some d,.bin .neq .num (.tmp x) (.const (.int .i64 n)),none,[]⟩
abbrev cL (d x y:Nat):AOper:=⟨some d,.bin .lss .num (.tmp x) (.tmp y),none,[]⟩
abbrev cLk (d x:Nat) (n:Int):AOper:=⟨some d,.bin .lss .num (.tmp x) (.const (.int .i64 n)),none,[]⟩
abbrev cK (d x y:Nat):AOper:=⟨some d,.bin .leq .num (.tmp x) (.tmp y),none,[]⟩
abbrev cKk (d x:Nat) (n:Int):AOper:=⟨some d,.bin .leq .num (.tmp x) (.const (.int .i64 n)),none,[]⟩
abbrev cG (d x y:Nat):AOper:=⟨some d,.bin .gtr .num (.tmp x) (.tmp y),none,[]⟩
abbrev cGk (d x:Nat) (n:Int):AOper:=⟨some d,.bin .gtr .num (.tmp x) (.const (.int .i64 n)),none,[]⟩
abbrev cH (d x y:Nat):AOper:=⟨some d,.bin .geq .num (.tmp x) (.tmp y),none,[]⟩
abbrev cHk (d x:Nat) (n:Int):AOper:=⟨some d,.bin .geq .num (.tmp x) (.const (.int .i64 n)),none,[]⟩
abbrev gtl (d g s:Nat):AOper:=⟨some d,.load none (.tmp s),some (g,true),[]⟩
abbrev gtf (d g o s:Nat):AOper:=⟨some d,.fieldA o (.tmp s),some (g,true),[]⟩
abbrev gtm (d g s:Nat):AOper:=⟨some d,.mov (.tmp s),some (g,true),[]⟩
abbrev gfl (d g s:Nat):AOper:=⟨some d,.load none (.tmp s),some (g,false),[]⟩
abbrev gff (d g o s:Nat):AOper:=⟨some d,.fieldA o (.tmp s),some (g,false),[]⟩
abbrev gfm (d g s:Nat):AOper:=⟨some d,.mov (.tmp s),some (g,false),[]⟩
abbrev rf (l:List AOper):ACode:=.region false l
abbrev sr (l:List AOper) (c:ACode):ACode:=.seq (.region false l) c
end Go.Known
