/- Part 4 of the proof: AeC, AeD, AeDl. -/
import Derived.Test.YtfmnflhggplkmaaGreatDoorO3
set_option linter.all false
section
namespace Go.AE
open Go.RowKit
def absC:Value→Option AVal
 | .bool b=>some (.bool b)
 | .int k n=>some (.int k n)
 | .string s=>some (.str s.data.toList)
 | .pointer none=>some .nilPtr
 | .slice none 0 0=>some .nilSl
 | .map none=>some .nilMap
 | .nilFunc=>some .nilFunc
 | .nilIface=>some .nilIface
 | .tuple vs=>if vs.size=0 then some aundef else none
 | _=>none
def absCs:List Value→Option (List AVal)
 | []=>some []
 | v :: r=>match absC v,absCs r with
  | some x,some xs=>some (x :: xs)
  | _,_=>none
def absV:Value→Option AVal
 | .agg cs=>match absCs cs.toList with
  | some xs=>some (.agg xs)
  | none=>none
 | v=>absC v
section
variable (P:Program)
def cOpd:Operand→Option AOpd
 | .tmp t=>some (.tmp t)
 | .const v=>match absV v with
  | some x=>some (.const x)
  | none=>none
 | .func f=>some (.fn f)
 | .global _=>none
def cOpds:List Operand→Option (List AOpd)
 | []=>some []
 | x :: r=>match cOpd x,cOpds r with
  | some y,some ys=>some (y :: ys)
  | _,_=>none
def cSize (t:TypeId):Option Nat:=(P.info? t).map (·.size)
def cBytes (t:TypeId):Option Nat:=(P.info? t).map (·.bytes)
def cZero (t:TypeId):Option AVal:=
 match P.info? t with
 | some i=>match i.zero with
  | some z=>absV z
  | none=>none
 | none=>none
def cZeros (t:TypeId):Option (List AVal):=
 match cZero P t with
 | some z=>match z.cells with
  | some cs=>if cs.all AVal.one then some cs else none
  | none=>none
 | none=>none
def cLoad (t:TypeId):Option (Option Nat):=
 match P.underlying t,P.info? t with
 | some (.struct _),some i|some (.array _ _),some i=>some (some i.size)
 | some _,some _=>some none
 | _,_=>none
def cKey (t:TypeId):Option KeyT:=
 match P.underlying t with
 | some (.int _)=>some .int
 | some .string=>some .str
 | some .bool=>some .bool
 | _=>none
def flatFields:List Field→Nat→Option (List KeyT)
 | [],_=>some []
 | f :: r,i=>if f.name != "_" && f.offset == i then match cKey P f.type,flatFields r (i+1)with
  | some k,some ks=>some (k :: ks)
  | _,_=>none
  else none
def flatN:List Field→Nat→Option (List KeyT)
 | [],_=>some []
 | f :: r,i=>if f.name != "_" && f.offset == i then match cKey P f.type with
  | some k=>match flatN r (i+1)with
   | some ks=>some (k :: ks)
   | none=>none
  | none=>match P.underlying f.type,P.info? f.type with
   | some (.struct fs),some nf=>if P.stoodInHeld f.type then none else match flatFields P fs.toList 0 with
    | some ks=>if nf.size=ks.length then match flatN r (i+ks.length)with
     | some ks'=>some (ks++ks')
     | none=>none
     else none
    | none=>none
   | _,_=>none
  else none
def cEq (t:TypeId):Option EqT:=
 match P.underlying t with
 | some .bool=>some .bool
 | some (.slice _)=>some .slice
 | some (.func _ _ _)=>some .func
 | some (.map _ _)=>some .map
 | some (.pointer _)=>some .ptr
 | some (.int _)|some .string=>some .num
 | some (.struct fs)=>if P.stoodInHeld t||P.eqGuardType P.depth t then none else match flatN P fs.toList 0 with
  | some ks=>some (.flat ks)
  | none=>none
 | _=>none
def cParts (fs:List Field):List (Nat×Operand)→Option (List (Nat×Nat×AOpd))
 | []=>some []
 | (i,x) :: r=>match fs[i]? with
  | some f=>match cSize P f.type,cOpd x,cParts fs r with
   | some n,some y,some ys=>some ((f.offset,n,y) :: ys)
   | _,_,_=>none
  | none=>none
def cPartsA (n:Nat):List (Nat×Operand)→Option (List (Nat×Nat×AOpd))
 | []=>some []
 | (i,x) :: r=>match cOpd x,cPartsA n r with
  | some y,some ys=>some ((i*n,n,y) :: ys)
  | _,_=>none
def cPartsS:List (Nat×Operand)→Option (List (Nat×AOpd))
 | []=>some []
 | (i,x) :: r=>match cOpd x,cPartsS r with
  | some y,some ys=>some ((i,y) :: ys)
  | _,_=>none
def cOpt:Option Operand→Option (Option AOpd)
 | none=>some none
 | some x=>match cOpd x with
  | some y=>some (some y)
  | none=>none
def cElem (t:TypeId):Option (Nat×Nat×List AVal):=
 match P.underlying t with
 | some (.slice e)=>match cSize P e,cBytes P e,cZeros P e with
  | some k,some b,some z=>if z.length=k∧0<k then some (k,b,z)else none
  | _,_,_=>none
 | _=>none
def cCall (c:Call):Option AOp:=
 match c.callee with
 | .value f=>match cOpd f,cOpds c.args.toList with
  | some g,some xs=>some (.call g xs)
  | _,_=>none
 | .builtin .append=>match c.args.toList,c.argTypes.toList with
  | [s,x],[t,u]=>match cElem P t,cOpd s,cOpd x with
   | some (k,b,z),some s',some x'=>match P.underlying u with
    | some (.int _)=>some (.appendZ k b z s' x')
    | some _=>some (.append k b z s' x')
    | none=>none
   | _,_,_=>none
  | _,_=>none
 | .builtin .copy=>match c.args.toList,c.argTypes.toList with
  | [d,s],[t,_]=>match cElem P t,cOpd d,cOpd s with
   | some (k,_,_),some d',some s'=>some (.copy k d' s')
   | _,_,_=>none
  | _,_=>none
 | .builtin .clear=>match c.args.toList,c.argTypes.toList with
  | [x],[t]=>match cElem P t,cOpd x with
   | some (k,_,z),some x'=>some (.clear k z x')
   | _,_=>none
  | _,_=>none
 | .builtin .len=>match c.args.toList,c.argTypes.toList with
  | [x],[t]=>match P.underlying t,cOpd x with
   | some (.array n _),_=>some (.lenArr n)
   | some .string,some y=>some (.lenStr y)
   | some (.slice _),some y=>some (.lenSl y)
   | some (.map _ _),some y=>some (.lenMap y)
   | _,_=>none
  | _,_=>none
 | .builtin .cap=>match c.args.toList,c.argTypes.toList with
  | [x],[t]=>match P.underlying t,cOpd x with
   | some (.slice _),some y=>some (.capSl y)
   | _,_=>none
  | _,_=>none
 | .builtin .min=>match cOpds c.args.toList with
  | some xs=>some (.minmax false xs)
  | none=>none
 | .builtin .max=>match cOpds c.args.toList with
  | some xs=>some (.minmax true xs)
  | none=>none
 | _=>none
def cOp (o:Oper):Option AOp:=
 match o.op with
 | .move x | .assign x=>(cOpd x).map .mov
 | .pick c a b=>match cOpd c,cOpd a,cOpd b with
  | some c',some a',some b'=>some (.pick c' a' b')
  | _,_,_=>none
 | .alloc t=>(cZeros P t).map .alloc
 | .box _ x=>(cOpd x).map .box
 | .build t ps=>match P.underlying t,cZeros P t with
  | some (.struct fs),some z=>if fs.toList.all fun f=>(P.info? f.type).isSome then match cParts P fs.toList ps.toList with
   | some qs=>some (.build z qs)
   | none=>none
   else none
  | some (.array _ e),some z=>match cSize P e with
   | some n=>match cPartsA n ps.toList with
    | some qs=>some (.build z qs)
    | none=>none
   | none=>none
  | _,_=>none
 | .buildSlice t len ps=>match cElem P t,cPartsS ps.toList with
  | some (k,_,z),some qs=>if len*k≤2 ^ 24 then some (.mkSl k len z qs)else none
  | _,_=>none
 | .load t x=>match cLoad P t,cOpd x with
  | some n,some y=>some (.load n y)
  | _,_=>none
 | .store t a x=>match cSize P t,cOpd a,cOpd x with
  | some n,some a',some x'=>some (.store n a' x')
  | _,_,_=>none
 | .nilCheck x=>(cOpd x).map .nilChk
 | .binOp op t x y _=>match cOpd x,cOpd y,cEq P t with
  | some x',some y',some e=>some (.bin op e x' y')
  | _,_,_=>none
 | .unOp op _ x=>(cOpd x).map (.un op)
 | .convert s d x=>match P.underlying s,P.underlying d,cOpd x with
  | some (.int _),some (.int k),some y=>some (.convInt k y)
  | some .string,some .string,some y=>some (.convId y)
  | some (.slice e),some .string,some y=>match P.underlying e with
   | some (.int .u8)=>some (.toStr y)
   | _=>none
  | _,_,_=>none
 | .makeFunc fn f c=>match cOpds f.toList,cOpds c.toList with
  | some f',some c'=>some (.mkFunc fn f' c')
  | _,_=>none
 | .makeMap _ none=>some .mkMap
 | .makeSlice t l c=>match cElem P t,cOpd l,cOpd c with
  | some (k,b,z),some l',some c'=>some (.makeSl k b z l' c')
  | _,_,_=>none
 | .slice t x lo hi mx=>match P.underlying t,cOpd x,cOpt lo,cOpt hi,cOpt mx with
  | some .string,some x',some l,some h,some none=>some (.slStr x' l h)
  | some (.slice e),some x',some l,some h,some m=>match cSize P e with
   | some k=>some (.slSl k x' l h m)
   | none=>none
  | some (.array n e),some x',some l,some h,some none=>match cSize P e with
   | some k=>some (.slArr n k x' l h)
   | none=>none
  | _,_,_,_,_=>none
 | .fieldAddr t x i=>match P.underlying t,cOpd x with
  | some (.struct fs),some y=>match fs[i]? with
   | some f=>match cSize P f.type with
    | some n=>if n≠0 then some (.fieldA f.offset y)else none
    | none=>none
   | none=>none
  | _,_=>none
 | .field t x i=>match P.underlying t,cOpd x with
  | some (.struct fs),some y=>match fs[i]? with
   | some f=>match cLoad P f.type with
    | some n=>some (.field f.offset n y)
    | none=>none
   | none=>none
  | _,_=>none
 | .indexAddr t x i=>match P.underlying t,cOpd x,cOpd i with
  | some (.slice e),some x',some i'=>match cSize P e with
   | some k=>some (.idxA k x' i')
   | none=>none
  | some (.array n e),some x',some i'=>match cSize P e with
   | some k=>some (.idxAA n k x' i')
   | none=>none
  | _,_,_=>none
 | .index t x i=>match P.underlying t,cOpd x,cOpd i with
  | some .string,some x',some i'=>some (.idxStr x' i')
  | some (.array n e),some x',some i'=>match cSize P e,cLoad P e with
   | some k,some sz=>some (.idxArr n k sz x' i')
   | _,_=>none
  | _,_,_=>none
 | .lookup t x i ok=>match P.underlying t,cOpd x,cOpd i with
  | some (.map kt e),some x',some i'=>match cKey P kt,cZero P e with
   | some q,some z=>some (.lookup q z ok x' i')
   | _,_=>none
  | _,_,_=>none
 | .mapUpdate t m k v | .insert t m k v=>match P.underlying t,cOpd m,cOpd k,cOpd v with
  | some (.map kt _),some m',some k',some v'=>match cKey P kt with
   | some q=>some (.mapUpd q m' k' v')
   | none=>none
  | _,_,_,_=>none
 | .extract x i=>match cOpd x with
  | some y=>some (.ext y i)
  | none=>none
 | .call c=>cCall P c
 | .range t x=>match P.underlying t with
  | some (.map _ _)=>(cOpd x).map .range
  | _=>none
 | .next x false=>(cOpd x).map .nextM
 | .entry x=>(cOpd x).map .nextS
 | _=>none
def cOp' (o:Oper):AOp:=(cOp P o).getD .dead
def cGuard (ops:Array Oper):Option (Nat×Bool)→Option (Option (Nat×Bool))
 | none=>some none
 | some (j,w)=>match (ops[j]?).bind (·.dst)with
  | some d=>some (some (d,w))
  | none=>none
def onceN:List Nat→List Nat→List Nat
 | acc,[]=>acc
 | acc,x :: r=>if acc.contains x then onceN acc r else onceN (x :: acc) r
theorem mem_onceN (j:Nat):∀ (l acc:List Nat),j∈onceN acc l↔j∈acc∨j∈l
 | [],acc=>by simp[onceN]
 | x :: r,acc=>by
  simp only[onceN]
  split
  ·rename_i h
   rw[mem_onceN j r acc,List.mem_cons]
   have hx:x∈acc:=by simpa using h
   constructor
   ·rintro(h|h)
    ·exact .inl h
    ·exact .inr (.inr h)
   ·rintro(h|rfl|h)
    ·exact .inl h
    ·exact .inl hx
    ·exact .inr h
  ·rw[mem_onceN j r (x :: acc),List.mem_cons,List.mem_cons]
   constructor
   ·rintro((h|h)|h)
    ·exact .inr (.inl h)
    ·exact .inl h
    ·exact .inr (.inr h)
   ·rintro(h|h|h)
    ·exact .inl (.inr h)
    ·exact .inl (.inl h)
    ·exact .inr h
def cPreds (ops:List Oper):List (List Nat):=
 ops.foldl (fun acc o=>acc++[onceN [] ((o.after.toList.filter (Region.binds .any)).flatMap fun e=>e.on :: acc.getD e.on [])]) []
def cOpers (ops:Array Oper):List Oper→Option (List AOper)
 | []=>some []
 | o :: r=>match cGuard ops o.guard,cOpers ops r with
  | some g,some as=>some (⟨o.dst,cOp' P o,g,[]⟩ :: as)
  | _,_=>none
def cUn (as:List AOper) (preds:List (List Nat)) (j:Nat) (a:AOp):List Nat:=
 (List.range j).filter fun i=>!((preds.getD j []).contains i)&&match as[i]? with
   | some x=>!(x.op.kind≤1&&a.kind≤1)&&x.op.kind != 0&&a.kind != 0
   | none=>false
def cUns (as:List AOper) (preds:List (List Nat)):Nat→List AOper→List AOper
 | _,[]=>[]
 | j,a :: r=>⟨a.dst,a.op,a.guard,cUn as preds j a.op⟩ :: cUns as preds (j+1) r
def AOper.looks (a:AOper):List Nat:=
 (a.op.opds.filterMap fun x=>match x with
   | .tmp i=>some i
   | _=>none)++match a.guard with
   | some (d,_)=>[d]
   | none=>[]
def AOper.apart (x y:AOper):Bool:=
 (match x.dst with
  | some d=>!(y.looks.contains d)&&y.dst != some d
  | none=>true) &&
 match y.dst with
 | some d=>!(x.looks.contains d)
 | none=>true
def cDrawOk (ops:Array Oper) (as:List AOper) (preds:List (List Nat)):Bool:=
 ((List.range ops.size).all fun i=>match ops[i]? with
   | some o=>o.after.toList.all fun e=>!Region.binds .any e||decide (e.on<i)
   | none=>true) &&
 ((List.range ops.size).all fun j=>(List.range j).all fun i=>(preds.getD j []).contains i||match as[i]?,as[j]? with
   | some x,some y=>x.apart y
   | _,_=>false)
def cCode:Code→ACode
 | .skip=>.skip
 | .region _ ops false=>match cOpers P ops ops.toList with
  | some as=>.region false as
  | none=>.bad
 | .region _ ops true=>match cOpers P ops ops.toList with
  | some as=>
   if cDrawOk ops as (cPreds ops.toList)then .region true (cUns as (cPreds ops.toList) 0 as)else .bad
  | none=>.bad
 | .seq a b=>.seq (cCode a) (cCode b)
 | .cond c a b=>match cOpd c with
  | some c'=>.cond c' (cCode a) (cCode b)
  | none=>.bad
 | .block id c=>.block id (cCode c)
 | .loop c=>.loop (cCode c)
 | .exit id=>.exit id
 | .scope c=>.scope (cCode c)
 | .label _=>.skip
 | .ret=>.ret
 | _=>.bad
def cResult:ResultVar→Option (Nat×Option (Option Nat))
 | .tmp t=>some (t,none)
 | .cell a t=>(cLoad P t).map fun n=>(a,some n)
def cResults:List ResultVar→Option (List (Nat×Option (Option Nat)))
 | []=>some []
 | x :: r=>match cResult P x,cResults r with
  | some y,some ys=>some (y :: ys)
  | _,_=>none
def cFn (f:Func):Option AFn:=
 match f.body with
 | some c=>match cResults P f.results.toList with
  | some rs=>if f.name == "runtime.NumGoroutine" then none else some ⟨f.ntmps,rs,cCode P c⟩
  | none=>none
 | none=>none
end
end Go.AE
end
section
namespace Go.AE
open Go.RowKit
def KeepN (n:Nat) (ρ ρ':Rho):Prop:=∀ b,b<n→ρ b=none→ρ' b=none
theorem KeepN.refl (n:Nat) (ρ:Rho):KeepN n ρ ρ:=fun _ _ h=>h
theorem KeepN.trans {n n':Nat} {ρ ρ' ρ'':Rho} (h:KeepN n ρ ρ') (h':KeepN n' ρ' ρ'') (hn:n≤n'):KeepN n ρ ρ'':=
 fun b hb h0=>h' b (Nat.lt_of_lt_of_le hb hn) (h b hb h0)
def HasBody (P:Program) (f:FuncId):Prop:=∃ fn,P.funcs[f]? = some fn∧(fn.name == "runtime.NumGoroutine")=false∧fn.body.isSome=true
def ACalls (P:Program) (f:FuncId) (args:List AVal) (m:Mem) (av:List Nat) (K:AVal→Mem→Prop):Prop:=
 HasBody P f ∧ ∀(W:Base) (Φ:Pers) (ρ:Rho) (vs:Array Value) (w:World),Rel W Φ ρ m w→RL Φ ρ args vs→(∀ b,b∈av→ρ b=none∧b<m.next) →
  Calls P f vs w fun e w'=>∃ v r m' Φ' ρ',e=.returned v∧Ext Φ ρ Φ' ρ'∧(∀ b,b<m.next→b∉av→ρ b=none→ρ' b=none) ∧
   Rel W Φ' ρ' m' w'∧R Φ' ρ' r v∧m.next≤m'.next∧K r m'
def Mem.less (m:Mem) (x:List Nat):Mem:={ m with get:=fun c=>if c∈x then none else m.get c }
def CallAt (P:Program) (f:FuncId) (args:List AVal) (id:Nat) (x:List Nat) (m:Mem) (v:AVal) (m':Mem) (wl:List Nat):Prop:=
 ∃ m3:Mem,id∉x∧(∀ c,c∈x→m3.get c=none)∧m.next≤m3.next∧m'.next=m3.next∧(∀ c,m'.get c=if c∈x then m.get c else m3.get c) ∧
  (∀ c,c∉wl→c<m.next→c∉x→m3.get c=m.get c)∧ACalls P f args (m.less x) [id] fun v' m''=>v'=v∧m''=m3
inductive FT where
 | ops (w r:List Nat)
 | call (wl x:List Nat) (nx:Nat)
def FT.W:FT→Nat→Bool
 | .ops w _,c=>w.contains c
 | .call wl _ nx,c=>wl.contains c||decide (nx≤c)
def FT.R:FT→Nat→Bool
 | .ops _ r,c=>r.contains c
 | .call _ x _,c=>!x.contains c
def FT.isC:FT→Bool
 | .ops _ _=>false
 | .call _ _ _=>true
def callee (t:List AVal) (f:AOpd) (xs:List AOpd):Option (FuncId×List AVal):=
 match ev t f with
 | .func (.func g) first cap=>some (g,first++xs.map (ev t)++cap)
 | _=>none
def wantedA (t:List AVal):Option (Nat×Bool)→Option Bool
 | none=>some true
 | some (d,w)=>match t.getD d aundef with
  | .bool b=>some (b == w)
  | .tuple []=>some false
  | _=>none
structure ASt where
 t:List AVal
 m:Mem
structure ASt.Weak (σ' σ:ASt):Prop where
 next:σ.m.next≤σ'.m.next
 rel:∀ (W:Base) (Φ:Pers) (ρ:Rho) (vs:Array Value) (w:World),Rel W Φ ρ σ.m w→RL Φ ρ σ.t vs → ∃ Φ',Ext Φ ρ Φ' ρ∧Rel W Φ' ρ σ'.m w∧RL Φ' ρ σ'.t vs
def wops (P:Program) (base:Nat):List AOper→Nat→(ASt→Prop)→List AVal→Mem→Prop
 | [],_,K,t,m=>K ⟨t,m⟩
 | o :: r,i,K,t,m=>
  match wantedA t o.guard with
  | some false=>wops P base r (i+1) K (put t o.dst aundef) m
  | some true=>
   match o.op with
   | .call f xs=>match callee t f xs with
    | some (g,args)=>ACalls P g args m [base+i] fun v m'=>wops P base r (i+1) K (put t o.dst v) m'
    | none=>False
   | op=>match stepA (base+i) t m op with
    | some (v,m')=>wops P base r (i+1) K (put t o.dst v) m'
    | none=>False
  | none=>False
def apart1 (x:Nat):List Nat→Prop
 | []=>True
 | y :: r=>x≠y∧apart1 x r
def apartL:List Nat→List Nat→Prop
 | [],_=>True
 | x :: r,l=>apart1 x l∧apartL r l
def belowL (n:Nat):List Nat→Prop
 | []=>True
 | x :: r=>x<n∧belowL n r
def in1 (x:Nat):List Nat→Prop
 | []=>False
 | y :: r=>x=y∨in1 x r
def subL:List Nat→List Nat→Prop
 | [],_=>True
 | x :: r,l=>in1 x l∧subL r l
def FT.indep:FT→FT→Prop
 | .ops w r,.ops w' r'=>apartL w (r'++w')∧apartL r w'
 | .ops w r,.call wl x nx=>apartL r wl∧belowL nx r∧apartL w wl∧belowL nx w∧subL w x
 | .call wl x nx,.ops w r=>apartL r wl∧belowL nx r∧apartL w wl∧belowL nx w∧subL w x
 | .call _ _ _,.call _ _ _=>False
def indepL (fs:List FT) (ft:FT):List Nat→Prop
 | []=>True
 | i :: r=>FT.indep (fs.getD i (.ops [] [])) ft∧indepL fs ft r
def dops (P:Program) (base:Nat):List AOper→List FT→(ASt→Prop)→List AVal→Mem→Prop
 | [],_,K,t,m=>K ⟨t,m⟩
 | o :: r,fs,K,t,m=>
  match wantedA t o.guard with
  | some false=>dops P base r (fs++[.ops [] []]) K (put t o.dst aundef) m
  | some true=>
   match o.op with
   | .call f xs=>match callee t f xs with
    | some (g,args)=>∃ wl x v m',CallAt P g args (base+fs.length) x m v m' wl∧indepL fs (.call wl x m.next) o.un∧dops P base r (fs++[.call wl x m.next]) K (put t o.dst v) m'
    | none=>False
   | op=>match stepA (base+fs.length) t m op with
    | some (v,m')=>indepL fs (.ops (footW (base+fs.length) t op) (footR t op)) o.un∧dops P base r (fs++[.ops (footW (base+fs.length) t op) (footR t op)]) K (put t o.dst v) m'
    | none=>False
  | none=>False
def thenA (next:ASt→Prop) (Q:Exit→ASt→Prop):Exit→ASt→Prop
 | .normal,σ=>next σ
 | e,σ=>Q e σ
def blockA (id:Nat) (Q:Exit→ASt→Prop):Exit→ASt→Prop
 | .exit id',σ=>if id'=id then Q .normal σ else Q (.exit id') σ
 | e,σ=>Q e σ
def noGotoA (Q:Exit→ASt→Prop):Exit→ASt→Prop
 | .goto _,_=>False
 | e,σ=>Q e σ
def wpc (P:Program):ACode→(Exit→ASt→Prop)→ASt→Prop
 | .skip,Q,σ=>Q .normal σ
 | .region false ops,Q,σ=>wops P σ.m.next ops 0 (Q .normal) σ.t (σ.m.at (σ.m.next+ops.length))
 | .region true ops,Q,σ=>dops P σ.m.next ops [] (Q .normal) σ.t (σ.m.at (σ.m.next+ops.length))
 | .seq a b,Q,σ=>wpc P a (thenA (wpc P b Q) Q) σ
 | .cond c a b,Q,σ=>match ev σ.t c with
  | .bool true=>wpc P a Q σ
  | .bool false=>wpc P b Q σ
  | _=>False
 | .block id c,Q,σ=>wpc P c (blockA id Q) σ
 | .loop c,Q,σ=>∃ (I:Nat→ASt→Prop),(∃ n σ0,ASt.Weak σ0 σ∧I n σ0) ∧ ∀ n σ1,I n σ1→wpc P c (thenA (fun σ'=>∃ k σ0,k<n∧ASt.Weak σ0 σ'∧I k σ0) Q) σ1
 | .exit id,Q,σ=>Q (.exit id) σ
 | .scope c,Q,σ=>wpc P c (noGotoA Q) σ
 | .label _,Q,σ=>Q .normal σ
 | .ret,Q,σ=>Q .ret σ
 | .bad,_,_=>False
def lift (W:Base) (Φ:Pers) (ρ:Rho) (n:Nat) (Q:Exit→ASt→Prop) (e:Exit) (a:Act) (w:World):Prop:=
 ∃ σ Φ' ρ',Ext Φ ρ Φ' ρ'∧KeepN n ρ ρ'∧n≤σ.m.next∧Rel W Φ' ρ' σ.m w∧RL Φ' ρ' σ.t a.tmps∧a.defers=[]∧Q e σ
def AWp (P:Program) (c:Code) (Q:Exit→ASt→Prop) (σ:ASt):Prop:=
 ∀(W:Base) (Φ:Pers) (ρ:Rho) (a:Act) (w:World),Rel W Φ ρ σ.m w→RL Φ ρ σ.t a.tmps→a.defers=[]→c.wp P (lift W Φ ρ σ.m.next Q) a w
end Go.AE
end
section
namespace Go.AE
open Go.RowKit
def rowAtD (get:Nat→Option ABlk):AVal→Option (List AVal×Nat)
 | .ptr b i j=>match get b with
  | some (.cells _ els)=>match els[i]? with
   | some row=>some (row,j)
   | none=>none
  | _=>none
 | .iptr els i j=>match els[i]? with
  | some row=>some (row,j)
  | none=>none
 | _=>none
def loadD (get:Nat→Option ABlk) (n:Option Nat) (x:AVal):Option AVal:=
 match rowAtD get x with
 | some (row,j)=>match n with
  | none=>row[j]?
  | some n=>if 0<n∧j+n≤row.length then some (.agg ((row.drop j).take n))else none
 | none=>none
def storeD (get:Nat→Option ABlk) (n:Nat) (x v:AVal):Option (List (Nat×Option ABlk)):=
 match x,v.cells with
 | .ptr b i j,some cs=>match get b with
  | some (.cells k els)=>match els[i]? with
   | some row=>if cs.length=n∧j+n≤row.length∧cs.all AVal.one then some [(b,some (.cells k (els.set i (setRow row j cs))))]else none
   | none=>none
  | _=>none
 | _,_=>none
def rowsOfD (get:Nat→Option ABlk) (k:Nat):AVal→Option (List (List AVal))
 | .nilSl | .emp=>some []
 | .imm els=>if els.all (·.length == k)then some els else none
 | .sl b off len=>match get b with
  | some (.cells k' els)=>if k'=k∧off+len≤els.length then some ((els.drop off).take len)else none
  | _=>if len=0 then some []else none
 | _=>none
def srcRowsD (get:Nat→Option ABlk) (k:Nat):AVal→Option (List (List AVal))
 | .str s=>if k=1 then some (s.map byteRow)else none
 | x=>rowsOfD get k x
def optNatD (e:AOpd→AVal) (d:Nat):Option AOpd→Option Nat
 | none=>some d
 | some x=>asNat (e x)
def appendRowsD (id k bytes:Nat) (get:Nat→Option ABlk) (s:AVal) (xs:List (List AVal)):Option (AVal×List (Nat×Option ABlk)):=
 match s with
 | .nilSl=>if xs=[]then some (.nilSl,[])else if xs.length≤room∧bytes≤room then some (.sl id 0 xs.length,[(id,some (.cells k xs))])else none
 | .emp=>if xs=[]then some (.emp,[])else if xs.length≤room∧bytes≤room then some (.sl id 0 xs.length,[(id,some (.cells k xs))])else none
 | .sl b off len=>match get b with
  | some (.cells k' els)=>
   if k'=k∧off+len≤els.length∧(els.length=off+len∨off+len+xs.length≤els.length)then
    if off+len+xs.length≤els.length then
     some (.sl b off (len+xs.length),[(b,some (.cells k (els.take (off+len)++xs++els.drop (off+len+xs.length))))])
    else if len+xs.length≤room∧bytes≤room then
     some (.sl id 0 (len+xs.length),[(b,none),(id,some (.cells k ((els.drop off).take len++xs)))])
    else none
   else none
  | _=>none
 | _=>none
def slBoundsD (e:AOpd→AVal) (len mxlen:Nat) (lo hi:Option AOpd):Option (Nat×Nat):=
 match optNatD e len hi with
 | some h=>if h≤mxlen then match optNatD e 0 lo with
  | some l=>if l≤h then some (l,h)else none
  | none=>none
  else none
 | none=>none
def stepD (id:Nat) (e:AOpd→AVal) (get:Nat→Option ABlk):AOp→Option (AVal×List (Nat×Option ABlk))
 | .mov x=>some (e x,[])
 | .pick c a b=>match e c with
  | .bool true=>some (e a,[])
  | .bool false=>some (e b,[])
  | _=>none
 | .box x=>match (e x).cells with
  | some cs=>if cs.all AVal.one then some (.ptr id 0 0,[(id,some (.cells cs.length [cs]))])else none
  | none=>none
 | .alloc zero=>some (.ptr id 0 0,[(id,some (.cells zero.length [zero]))])
 | .build zero parts=>match fillA zero (parts.map fun p=>(p.1,p.2.1,e p.2.2))with
  | some cs=>some (.agg cs,[])
  | none=>none
 | .mkSl k len zero parts=>match fillS k (List.replicate len zero) (parts.map fun p=>(p.1,e p.2))with
  | some els=>some (.sl id 0 len,[(id,some (.cells k els))])
  | none=>none
 | .load n x=>match loadD get n (e x)with
  | some v=>some (v,[])
  | none=>none
 | .store n a x=>match storeD get n (e a) (e x)with
  | some d=>some (aundef,d)
  | none=>none
 | .nilChk x=>match e x with
  | .ptr b i j=>some (.ptr b i j,[])
  | .iptr els i j=>some (.iptr els i j,[])
  | .func (.func f) a b=>some (.func (.func f) a b,[])
  | _=>none
 | .bin op q x y=>match binA op q (e x) (e y)with
  | some v=>some (v,[])
  | none=>none
 | .un op x=>match unA op (e x)with
  | some v=>some (v,[])
  | none=>none
 | .convInt k x=>match e x with
  | .int _ n=>some (.int k (k.wrap n),[])
  | _=>none
 | .convId x=>match e x with
  | .str s=>some (.str s,[])
  | _=>none
 | .toStr x=>match rowsOfD get 1 (e x)with
  | some rows=>match bytesOf rows with
   | some s=>some (.str s,[])
   | none=>none
  | none=>none
 | .mkFunc fn first captured=>some (.func fn (first.map e) (captured.map e),[])
 | .mkMap=>some (.map id,[(id,some (.map [] 0))])
 | .makeSl k bytes zero len cap=>match asNat (e len),asNat (e cap)with
  | some l,some c=>if l≤c∧c≤room∧bytes≤room then some (.sl id 0 l,[(id,some (.cells k (List.replicate c zero)))])else none
  | _,_=>none
 | .slStr x lo hi=>match e x with
  | .str s=>match slBoundsD e s.length s.length lo hi with
   | some (l,h)=>some (.str ((s.take h).drop l),[])
   | none=>none
  | _=>none
 | .slSl k x lo hi mx=>match mx with
  | some z=>match sliceLen (e x),optNatD e 0 (some z),optNatD e 0 lo,hi with
   | some n,some mx,some l,some h=>match asNat (e h)with
    | some h=>if l≤h∧h≤mx∧mx≤n then (if mx=0 then some (.emp,[])else some (.bot,[]))else none
    | none=>none
   | _,_,_,_=>none
  | none=>match e x with
   | .nilSl=>match slBoundsD e 0 0 lo hi with
    | some _=>some (.nilSl,[])
    | none=>none
   | .emp=>match slBoundsD e 0 0 lo hi with
    | some _=>some (.emp,[])
    | none=>none
   | .imm els=>if els.all (·.length == k)then match slBoundsD e els.length els.length lo hi with
    | some (l,h)=>some (.imm ((els.take h).drop l),[])
    | none=>none
    else none
   | .sl b off len=>match get b with
    | some (.cells k' els)=>if k'=k∧off+len≤els.length then match slBoundsD e len (els.length - off) lo hi with
     | some (l,h)=>some (.sl b (off+l) (h - l),[])
     | none=>none
     else none
    | _=>none
   | _=>none
 | .slArr ..=>none
 | .fieldA off x=>match addA off (e x)with
  | some v=>some (v,[])
  | none=>none
 | .field off n x=>match e x with
  | .agg cs=>match partA cs off n with
   | some v=>some (v,[])
   | none=>none
  | _=>none
 | .idxA k x i=>match e x,asNat (e i)with
  | .sl b off len,some i=>match get b with
   | some (.cells k' _)=>if k'=k∧i<len then some (.ptr b (off+i) 0,[])else none
   | _=>none
  | .imm els,some i=>match els[i]? with
   | some row=>if row.length=k then some (.iptr els i 0,[])else none
   | none=>none
  | _,_=>none
 | .idxAA n k x i=>match asNat (e i)with
  | some i=>if i<n then match addA (i*k) (e x)with
   | some v=>some (v,[])
   | none=>none
   else none
  | none=>none
 | .idxStr x i=>match e x,asNat (e i)with
  | .str s,some i=>match s[i]? with
   | some c=>some (.int .u8 c.toNat,[])
   | none=>none
  | _,_=>none
 | .idxArr n k sz x i=>match e x,asNat (e i)with
  | .agg cs,some i=>if i<n then match partA cs (i*k) sz with
   | some v=>some (v,[])
   | none=>none
   else none
  | _,_=>none
 | .lookup kt zero ok x i=>match (match e x with
  | .nilMap=>some []
  | .map b=>match get b with
   | some (.map es _)=>some es
   | _=>none
  | _=>none)with
  | some es=>match findA kt (e i) es with
   | some r=>
    let v:=match r with
     | some (_,v,_)=>v
     | none=>zero
    some (if ok then .tuple [v,.bool r.isSome]else v,[])
   | none=>none
  | none=>none
 | .mapUpd kt mp k v=>match e mp with
  | .map b=>match get b with
   | some (.map es clock)=>match findA kt (e k) es with
    | some (some (i,_,born))=>some (aundef,[(b,some (.map (es.set i (e k,e v,born)) clock))])
    | some none=>some (aundef,[(b,some (.map (es++[(e k,e v,clock)]) (clock+1)))])
    | none=>none
   | _=>none
  | _=>none
 | .mapEnt ..=>none
 | .entSt ..=>none
 | .delete ..=>none
 | .range _=>none
 | .nextS _=>none
 | .nextM _=>none
 | .ext x i=>match e x with
  | .tuple vs=>match vs[i]? with
   | some v=>some (v,[])
   | none=>none
  | _=>none
 | .call _ _=>none
 | .append k bytes _ s x=>match srcRowsD get k (e x)with
  | some xs=>appendRowsD id k bytes get (e s) xs
  | none=>none
 | .appendZ ..=>none
 | .copy k d s=>match e d,srcRowsD get k (e s)with
  | .sl b off len,some xs=>match get b with
   | some (.cells k' els)=>if k'=k∧off+len≤els.length then
    let n:=min xs.length len
    some (.int .i64 n,[(b,some (.cells k (els.take off++xs.take n++els.drop (off+n))))])
    else none
   | _=>none
  | _,_=>none
 | .clear k zero x=>match e x with
  | .sl b off len=>match get b with
   | some (.cells k' els)=>if k'=k∧off+len≤els.length then
    some (aundef,[(b,some (.cells k (els.take off++List.replicate len zero++els.drop (off+len))))])
    else none
   | _=>none
  | .nilSl=>some (aundef,[])
  | .emp=>some (aundef,[])
  | _=>none
 | .lenStr x=>match e x with
  | .str s=>some (.int .i64 s.length,[])
  | _=>none
 | .lenSl x=>match sliceLen (e x)with
  | some n=>some (.int .i64 n,[])
  | none=>none
 | .lenMap x=>match e x with
  | .nilMap=>some (.int .i64 0,[])
  | .map b=>match get b with
   | some (.map es _)=>some (.int .i64 es.length,[])
   | _=>none
  | _=>none
 | .lenArr n=>some (.int .i64 n,[])
 | .capSl _=>none
 | .minmax mx xs=>match xs with
  | []=>none
  | x :: r=>match minmaxA mx (e x) (r.map e)with
   | some v=>some (v,[])
   | none=>none
 | .iface ty x=>some (.iface ty (e x),[])
 | .dead=>none
def Mem.apply (m:Mem):List (Nat×Option ABlk)→Mem
 | []=>m
 | (b,some x) :: r=>(m.set b x).apply r
 | (b,none) :: r=>(m.del b).apply r
section
variable {m:Mem} {t:List AVal} {id:Nat}
theorem loadD_eq (n:Option Nat) (x:AVal):loadA m n x=loadD m.get n x:=by rfl
theorem rowsOfD_eq (k:Nat) (x:AVal):rowsOf m k x=rowsOfD m.get k x:=by cases x<;>rfl
theorem srcRowsD_eq (k:Nat) (x:AVal):srcRows m k x=srcRowsD m.get k x:=by rfl
theorem optNatD_eq (d:Nat) (o:Option AOpd):optNat t d o=optNatD (ev t) d o:=by cases o<;>rfl
theorem slBoundsD_eq (n mx:Nat) (lo hi:Option AOpd):slBounds t n mx lo hi=slBoundsD (ev t) n mx lo hi:=by
 rfl
theorem storeD_ok {n:Nat} {x v:AVal} {d:List (Nat×Option ABlk)} (h:storeD m.get n x v=some d):storeA m n x v=some (m.apply d):=by
 cases x<;>simp only[storeD]at h<;>first|(cases h; done)|skip
 rename_i b i j
 cases hc:v.cells with
 | none=>simp[hc]at h
 | some cs=>
  simp only[hc]at h
  cases hg:m.get b with
  | none=>simp[hg]at h
  | some blk=>
   cases blk<;>simp only[hg]at h<;>first|(cases h; done)|skip
   rename_i k els
   cases hr:els[i]? with
   | none=>simp[hr]at h
   | some row=>
    simp only[hr]at h
    split at h<;>first|(cases h; done)|skip
    rename_i hcond
    injection h with h
    subst h
    simp only[storeA,hc,hg,hr]
    rw[if_pos hcond]
    rfl
theorem appendRowsD_ok {k bytes:Nat} {s:AVal} {xs:List (List AVal)} {r:AVal} {d:List (Nat×Option ABlk)} (h:appendRowsD id k bytes m.get s xs=some (r,d)):appendRows id k bytes m s xs=some (r,m.apply d):=by
 cases s<;>simp only[appendRowsD]at h<;>first|(cases h; done)|skip
 ·split at h
  ·rename_i h0
   cases h
   simp only[appendRows,h0,if_true,Mem.apply]
  ·rename_i h0
   split at h<;>first|(cases h; done)|skip
   rename_i h1
   cases h
   simp only[appendRows,h0,if_false]
   rw[if_pos h1]
   rfl
 ·split at h
  ·rename_i h0
   cases h
   simp only[appendRows,h0,if_true,Mem.apply]
  ·rename_i h0
   split at h<;>first|(cases h; done)|skip
   rename_i h1
   cases h
   simp only[appendRows,h0,if_false]
   rw[if_pos h1]
   rfl
 ·rename_i b off len
  cases hg:m.get b with
  | none=>simp[hg]at h
  | some blk=>
   cases blk<;>simp only[hg]at h<;>first|(cases h; done)|skip
   rename_i k' els
   split at h<;>first|(cases h; done)|skip
   rename_i hc
   simp only[appendRows,hg]
   rw[if_pos hc]
   split at h
   ·rename_i h1
    rw[if_pos h1]
    cases h
    rfl
   ·rename_i h1
    rw[if_neg h1]
    split at h<;>first|(cases h; done)|skip
    rename_i h2
    rw[if_pos h2]
    cases h
    rfl
theorem stepD_ok {op:AOp} {v:AVal} {d:List (Nat×Option ABlk)} (h:stepD id (ev t) m.get op=some (v,d)):stepA id t m op=some (v,m.apply d):=by
 cases op with
 | store n a x=>
  simp only[stepD]at h
  split at h<;>first|(cases h; done)|skip
  rename_i d' hd
  cases h
  simp only[stepA,storeD_ok hd]
 | append k bytes z s x=>
  simp only[stepD]at h
  split at h<;>first|(cases h; done)|skip
  rename_i xs hxs
  simp only[stepA,srcRowsD_eq,hxs]
  exact appendRowsD_ok h
 | lookup kt z ok x i=>
  simp only[stepD]at h
  simp only[stepA]
  generalize ev t x=y at *
  cases y<;>simp only at h ⊢ <;> first|(cases h; done)|skip
  case map b=>
   cases hg:m.get b with
   | none=>simp[hg]at h
   | some blk=>
    cases blk<;>simp only[hg]at h ⊢ <;> first|(cases h; done)|skip
    split at h<;>first|(cases h; done)|skip
    rename_i hf
    cases h
    simp only[hf,Mem.apply]
    rfl
  all_goals
   split at h<;>first|(cases h; done)|skip
   rename_i hf
   cases h
   simp only[hf,Mem.apply]
   rfl
 | _=>
  simp only[stepD]at h
  first
   | (cases h; done)
   | (cases h; rfl)
   | ((repeat' (split at h<;>first|(cases h; done)|skip))<;>(cases h; simp_all[stepA,Mem.apply,loadD_eq,rowsOfD_eq,srcRowsD_eq,slBoundsD_eq,optNatD_eq]; try omega))
end
end Go.AE
end
