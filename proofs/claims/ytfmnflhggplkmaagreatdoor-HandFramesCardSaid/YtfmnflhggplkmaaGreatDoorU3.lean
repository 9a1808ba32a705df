/- Part 3 of the proof: AeC. -/
import Derived.Test.YtfmnflhggplkmaaGreatDoorU2
set_option linter.all false
namespace Go.AE
open Go.RowKit
def absC:Value→Option AVal
 | .bool b=>some (.bool b)
 | .int k n=>some (.int k n)
 | .string s=>some (.str s.data.toList)
 | .pointer none=>some .nilPtr
 | .slice none 0 0=>some .nilSl
 | .map none=>some .nilMap
 | .nilFunc=>some .nilFunc
 | .nilIface=>some .nilIface
 | .tuple vs=>if vs.size=0 then some aundef else none
 | _=>none
def absCs:List Value→Option (List AVal)
 | []=>some []
 | v :: r=>match absC v,absCs r with
  | some x,some xs=>some (x :: xs)
  | _,_=>none
def absV:Value→Option AVal
 | .agg cs=>match absCs cs.toList with
  | some xs=>some (.agg xs)
  | none=>none
 | v=>absC v
section
variable (P:Program)
def cOpd:Operand→Option AOpd
 | .tmp t=>some (.tmp t)
 | .const v=>match absV v with
  | some x=>some (.const x)
  | none=>none
 | .func f=>some (.fn f)
 | .global _=>none
def cOpds:List Operand→Option (List AOpd)
 | []=>some []
 | x :: r=>match cOpd x,cOpds r with
  | some y,some ys=>some (y :: ys)
  | _,_=>none
def cSize (t:TypeId):Option Nat:=(P.info? t).map (·.size)
def cBytes (t:TypeId):Option Nat:=(P.info? t).map (·.bytes)
def cZero (t:TypeId):Option AVal:=
 match P.info? t with
 | some i=>match i.zero with
  | some z=>absV z
  | none=>none
 | none=>none
def cZeros (t:TypeId):Option (List AVal):=
 match cZero P t with
 | some z=>match z.cells with
  | some cs=>if cs.all AVal.one then some cs else none
  | none=>none
 | none=>none
def cLoad (t:TypeId):Option (Option Nat):=
 match P.underlying t,P.info? t with
 | some (.struct _),some i|some (.array _ _),some i=>some (some i.size)
 | some _,some _=>some none
 | _,_=>none
def cKey (t:TypeId):Option KeyT:=
 match P.underlying t with
 | some (.int _)=>some .int
 | some .string=>some .str
 | some .bool=>some .bool
 | _=>none
def flatFields:List Field→Nat→Option (List KeyT)
 | [],_=>some []
 | f :: r,i=>if f.name != "_" && f.offset == i then match cKey P f.type,flatFields r (i+1)with
  | some k,some ks=>some (k :: ks)
  | _,_=>none
  else none
def cEq (t:TypeId):Option EqT:=
 match P.underlying t with
 | some .bool=>some .bool
 | some (.slice _)=>some .slice
 | some (.func _ _ _)=>some .func
 | some (.map _ _)=>some .map
 | some (.pointer _)=>some .ptr
 | some (.int _)|some .string=>some .num
 | some (.struct fs)=>if P.stoodInHeld t||P.eqGuardType P.depth t then none else match flatFields P fs.toList 0 with
  | some ks=>some (.flat ks)
  | none=>none
 | _=>none
def cParts (fs:List Field):List (Nat×Operand)→Option (List (Nat×Nat×AOpd))
 | []=>some []
 | (i,x) :: r=>match fs[i]? with
  | some f=>match cSize P f.type,cOpd x,cParts fs r with
   | some n,some y,some ys=>some ((f.offset,n,y) :: ys)
   | _,_,_=>none
  | none=>none
def cPartsA (n:Nat):List (Nat×Operand)→Option (List (Nat×Nat×AOpd))
 | []=>some []
 | (i,x) :: r=>match cOpd x,cPartsA n r with
  | some y,some ys=>some ((i*n,n,y) :: ys)
  | _,_=>none
def cPartsS:List (Nat×Operand)→Option (List (Nat×AOpd))
 | []=>some []
 | (i,x) :: r=>match cOpd x,cPartsS r with
  | some y,some ys=>some ((i,y) :: ys)
  | _,_=>none
def cOpt:Option Operand→Option (Option AOpd)
 | none=>some none
 | some x=>match cOpd x with
  | some y=>some (some y)
  | none=>none
def cElem (t:TypeId):Option (Nat×Nat×List AVal):=
 match P.underlying t with
 | some (.slice e)=>match cSize P e,cBytes P e,cZeros P e with
  | some k,some b,some z=>if z.length=k∧0<k then some (k,b,z)else none
  | _,_,_=>none
 | _=>none
def cCall (c:Call):Option AOp:=
 match c.callee with
 | .value f=>match cOpd f,cOpds c.args.toList with
  | some g,some xs=>some (.call g xs)
  | _,_=>none
 | .builtin .append=>match c.args.toList,c.argTypes.toList with
  | [s,x],[t,u]=>match cElem P t,cOpd s,cOpd x with
   | some (k,b,z),some s',some x'=>match P.underlying u with
    | some (.int _)=>some (.appendZ k b z s' x')
    | some _=>some (.append k b z s' x')
    | none=>none
   | _,_,_=>none
  | _,_=>none
 | .builtin .copy=>match c.args.toList,c.argTypes.toList with
  | [d,s],[t,_]=>match cElem P t,cOpd d,cOpd s with
   | some (k,_,_),some d',some s'=>some (.copy k d' s')
   | _,_,_=>none
  | _,_=>none
 | .builtin .clear=>match c.args.toList,c.argTypes.toList with
  | [x],[t]=>match cElem P t,cOpd x with
   | some (k,_,z),some x'=>some (.clear k z x')
   | _,_=>none
  | _,_=>none
 | .builtin .len=>match c.args.toList,c.argTypes.toList with
  | [x],[t]=>match P.underlying t,cOpd x with
   | some (.array n _),_=>some (.lenArr n)
   | some .string,some y=>some (.lenStr y)
   | some (.slice _),some y=>some (.lenSl y)
   | some (.map _ _),some y=>some (.lenMap y)
   | _,_=>none
  | _,_=>none
 | .builtin .cap=>match c.args.toList,c.argTypes.toList with
  | [x],[t]=>match P.underlying t,cOpd x with
   | some (.slice _),some y=>some (.capSl y)
   | _,_=>none
  | _,_=>none
 | .builtin .min=>match cOpds c.args.toList with
  | some xs=>some (.minmax false xs)
  | none=>none
 | .builtin .max=>match cOpds c.args.toList with
  | some xs=>some (.minmax true xs)
  | none=>none
 | _=>none
def cOp (o:Oper):Option AOp:=
 match o.op with
 | .move x | .assign x=>(cOpd x).map .mov
 | .pick c a b=>match cOpd c,cOpd a,cOpd b with
  | some c',some a',some b'=>some (.pick c' a' b')
  | _,_,_=>none
 | .alloc t=>(cZeros P t).map .alloc
 | .box _ x=>(cOpd x).map .box
 | .build t ps=>match P.underlying t,cZeros P t with
  | some (.struct fs),some z=>if fs.toList.all fun f=>(P.info? f.type).isSome then match cParts P fs.toList ps.toList with
   | some qs=>some (.build z qs)
   | none=>none
   else none
  | some (.array _ e),some z=>match cSize P e with
   | some n=>match cPartsA n ps.toList with
    | some qs=>some (.build z qs)
    | none=>none
   | none=>none
  | _,_=>none
 | .buildSlice t len ps=>match cElem P t,cPartsS ps.toList with
  | some (k,_,z),some qs=>if len*k≤2 ^ 24 then some (.mkSl k len z qs)else none
  | _,_=>none
 | .load t x=>match cLoad P t,cOpd x with
  | some n,some y=>some (.load n y)
  | _,_=>none
 | .store t a x=>match cSize P t,cOpd a,cOpd x with
  | some n,some a',some x'=>some (.store n a' x')
  | _,_,_=>none
 | .nilCheck x=>(cOpd x).map .nilChk
 | .binOp op t x y _=>match cOpd x,cOpd y,cEq P t with
  | some x',some y',some e=>some (.bin op e x' y')
  | _,_,_=>none
 | .unOp op _ x=>(cOpd x).map (.un op)
 | .convert s d x=>match P.underlying s,P.underlying d,cOpd x with
  | some (.int _),some (.int k),some y=>some (.convInt k y)
  | some .string,some .string,some y=>some (.convId y)
  | some (.slice e),some .string,some y=>match P.underlying e with
   | some (.int .u8)=>some (.toStr y)
   | _=>none
  | _,_,_=>none
 | .makeFunc fn f c=>match cOpds f.toList,cOpds c.toList with
  | some f',some c'=>some (.mkFunc fn f' c')
  | _,_=>none
 | .makeMap _ none=>some .mkMap
 | .makeSlice t l c=>match cElem P t,cOpd l,cOpd c with
  | some (k,b,z),some l',some c'=>some (.makeSl k b z l' c')
  | _,_,_=>none
 | .slice t x lo hi mx=>match P.underlying t,cOpd x,cOpt lo,cOpt hi,cOpt mx with
  | some .string,some x',some l,some h,some none=>some (.slStr x' l h)
  | some (.slice e),some x',some l,some h,some m=>match cSize P e with
   | some k=>some (.slSl k x' l h m)
   | none=>none
  | some (.array n e),some x',some l,some h,some none=>match cSize P e with
   | some k=>some (.slArr n k x' l h)
   | none=>none
  | _,_,_,_,_=>none
 | .fieldAddr t x i=>match P.underlying t,cOpd x with
  | some (.struct fs),some y=>match fs[i]? with
   | some f=>match cSize P f.type with
    | some n=>if n≠0 then some (.fieldA f.offset y)else none
    | none=>none
   | none=>none
  | _,_=>none
 | .field t x i=>match P.underlying t,cOpd x with
  | some (.struct fs),some y=>match fs[i]? with
   | some f=>match cLoad P f.type with
    | some n=>some (.field f.offset n y)
    | none=>none
   | none=>none
  | _,_=>none
 | .indexAddr t x i=>match P.underlying t,cOpd x,cOpd i with
  | some (.slice e),some x',some i'=>match cSize P e with
   | some k=>some (.idxA k x' i')
   | none=>none
  | some (.array n e),some x',some i'=>match cSize P e with
   | some k=>some (.idxAA n k x' i')
   | none=>none
  | _,_,_=>none
 | .index t x i=>match P.underlying t,cOpd x,cOpd i with
  | some .string,some x',some i'=>some (.idxStr x' i')
  | some (.array n e),some x',some i'=>match cSize P e,cLoad P e with
   | some k,some sz=>some (.idxArr n k sz x' i')
   | _,_=>none
  | _,_,_=>none
 | .lookup t x i ok=>match P.underlying t,cOpd x,cOpd i with
  | some (.map kt e),some x',some i'=>match cKey P kt,cZero P e with
   | some q,some z=>some (.lookup q z ok x' i')
   | _,_=>none
  | _,_,_=>none
 | .mapUpdate t m k v | .insert t m k v=>match P.underlying t,cOpd m,cOpd k,cOpd v with
  | some (.map kt _),some m',some k',some v'=>match cKey P kt with
   | some q=>some (.mapUpd q m' k' v')
   | none=>none
  | _,_,_,_=>none
 | .extract x i=>match cOpd x with
  | some y=>some (.ext y i)
  | none=>none
 | .call c=>cCall P c
 | .range t x=>match P.underlying t with
  | some (.map _ _)=>(cOpd x).map .range
  | _=>none
 | .next x false=>(cOpd x).map .nextM
 | .entry x=>(cOpd x).map .nextS
 | _=>none
def cOp' (o:Oper):AOp:=(cOp P o).getD .dead
def cGuard (ops:Array Oper):Option (Nat×Bool)→Option (Option (Nat×Bool))
 | none=>some none
 | some (j,w)=>match (ops[j]?).bind (·.dst)with
  | some d=>some (some (d,w))
  | none=>none
def onceN:List Nat→List Nat→List Nat
 | acc,[]=>acc
 | acc,x :: r=>if acc.contains x then onceN acc r else onceN (x :: acc) r
theorem mem_onceN (j:Nat):∀ (l acc:List Nat),j∈onceN acc l↔j∈acc∨j∈l
 | [],acc=>by simp[onceN]
 | x :: r,acc=>by
  simp only[onceN]
  split
  ·rename_i h
   rw[mem_onceN j r acc,List.mem_cons]
   have hx:x∈acc:=by simpa using h
   constructor
   ·rintro(h|h)
    ·exact .inl h
    ·exact .inr (.inr h)
   ·rintro(h|rfl|h)
    ·exact .inl h
    ·exact .inl hx
    ·exact .inr h
  ·rw[mem_onceN j r (x :: acc),List.mem_cons,List.mem_cons]
   constructor
   ·rintro((h|h)|h)
    ·exact .inr (.inl h)
    ·exact .inl h
    ·exact .inr (.inr h)
   ·rintro(h|h|h)
    ·exact .inl (.inr h)
    ·exact .inl (.inl h)
    ·exact .inr h
def cPreds (ops:List Oper):List (List Nat):=
 ops.foldl (fun acc o=>acc++[onceN [] ((o.after.toList.filter (Region.binds .any)).flatMap fun e=>e.on :: acc.getD e.on [])]) []
def cOpers (ops:Array Oper):List Oper→Option (List AOper)
 | []=>some []
 | o :: r=>match cGuard ops o.guard,cOpers ops r with
  | some g,some as=>some (⟨o.dst,cOp' P o,g,[]⟩ :: as)
  | _,_=>none
def cUn (as:List AOper) (preds:List (List Nat)) (j:Nat) (a:AOp):List Nat:=
 (List.range j).filter fun i=>!((preds.getD j []).contains i)&&match as[i]? with
   | some x=>!(x.op.kind≤1&&a.kind≤1)&&x.op.kind != 0&&a.kind != 0
   | none=>false
def cUns (as:List AOper) (preds:List (List Nat)):Nat→List AOper→List AOper
 | _,[]=>[]
 | j,a :: r=>⟨a.dst,a.op,a.guard,cUn as preds j a.op⟩ :: cUns as preds (j+1) r
def AOper.looks (a:AOper):List Nat:=
 (a.op.opds.filterMap fun x=>match x with
   | .tmp i=>some i
   | _=>none)++match a.guard with
   | some (d,_)=>[d]
   | none=>[]
def AOper.apart (x y:AOper):Bool:=
 (match x.dst with
  | some d=>!(y.looks.contains d)&&y.dst != some d
  | none=>true) &&
 match y.dst with
 | some d=>!(x.looks.contains d)
 | none=>true
def cDrawOk (ops:Array Oper) (as:List AOper) (preds:List (List Nat)):Bool:=
 ((List.range ops.size).all fun i=>match ops[i]? with
   | some o=>o.after.toList.all fun e=>!Region.binds .any e||decide (e.on<i)
   | none=>true) &&
 ((List.range ops.size).all fun j=>(List.range j).all fun i=>(preds.getD j []).contains i||match as[i]?,as[j]? with
   | some x,some y=>x.apart y
   | _,_=>false)
def cCode:Code→ACode
 | .skip=>.skip
 | .region _ ops false=>match cOpers P ops ops.toList with
  | some as=>.region false as
  | none=>.bad
 | .region _ ops true=>match cOpers P ops ops.toList with
  | some as=>
   if cDrawOk ops as (cPreds ops.toList)then .region true (cUns as (cPreds ops.toList) 0 as)else .bad
  | none=>.bad
 | .seq a b=>.seq (cCode a) (cCode b)
 | .cond c a b=>match cOpd c with
  | some c'=>.cond c' (cCode a) (cCode b)
  | none=>.bad
 | .block id c=>.block id (cCode c)
 | .loop c=>.loop (cCode c)
 | .exit id=>.exit id
 | .scope c=>.scope (cCode c)
 | .label _=>.skip
 | .ret=>.ret
 | _=>.bad
def cResult:ResultVar→Option (Nat×Option (Option Nat))
 | .tmp t=>some (t,none)
 | .cell a t=>(cLoad P t).map fun n=>(a,some n)
def cResults:List ResultVar→Option (List (Nat×Option (Option Nat)))
 | []=>some []
 | x :: r=>match cResult P x,cResults r with
  | some y,some ys=>some (y :: ys)
  | _,_=>none
def cFn (f:Func):Option AFn:=
 match f.body with
 | some c=>match cResults P f.results.toList with
  | some rs=>if f.name == "runtime.NumGoroutine" then none else some ⟨f.ntmps,rs,cCode P c⟩
  | none=>none
 | none=>none
end
end Go.AE
