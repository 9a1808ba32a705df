/- Part 3 of the proof: AeB. -/
import Derived.Test.YtfmnflhggplkmaaGreatDoorO2
set_option linter.all false
namespace Go.AE
open Go.RowKit
inductive AOpd where
 | tmp (t:Nat)
 | const (v:AVal)
 | fn (f:FuncId)
 deriving Inhabited
inductive KeyT where
 | int
 | str
 | bool
 deriving DecidableEq,Inhabited
inductive EqT where
 | num
 | bool
 | slice
 | func
 | map
 | ptr
 | flat (ks:List KeyT)
 deriving Inhabited
inductive AOp where
 | mov (x:AOpd)
 | pick (c a b:AOpd)
 | box (x:AOpd)
 | alloc (zero:List AVal)
 | build (zero:List AVal) (parts:List (Nat×Nat×AOpd))
 | mkSl (k len:Nat) (zero:List AVal) (parts:List (Nat×AOpd))
 | load (n:Option Nat) (x:AOpd)
 | store (n:Nat) (a x:AOpd)
 | nilChk (x:AOpd)
 | bin (op:BinOp) (e:EqT) (x y:AOpd)
 | un (op:UnOp) (x:AOpd)
 | convInt (k:IntKind) (x:AOpd)
 | convId (x:AOpd)
 | toStr (x:AOpd)
 | mkFunc (fn:Fn) (first captured:List AOpd)
 | mkMap
 | makeSl (k bytes:Nat) (zero:List AVal) (len cap:AOpd)
 | slStr (x:AOpd) (lo hi:Option AOpd)
 | slSl (k:Nat) (x:AOpd) (lo hi mx:Option AOpd)
 | slArr (n k:Nat) (x:AOpd) (lo hi:Option AOpd)
 | fieldA (off:Nat) (x:AOpd)
 | field (off:Nat) (n:Option Nat) (x:AOpd)
 | idxA (k:Nat) (x i:AOpd)
 | idxAA (n k:Nat) (x i:AOpd)
 | idxStr (x i:AOpd)
 | idxArr (n k:Nat) (sz:Option Nat) (x i:AOpd)
 | lookup (kt:KeyT) (zero:AVal) (ok:Bool) (x i:AOpd)
 | mapUpd (kt:KeyT) (m k v:AOpd)
 | mapEnt (kt:KeyT) (zero:AVal) (m k:AOpd)
 | entSt (m s v:AOpd)
 | delete (kt:KeyT) (m k:AOpd)
 | range (x:AOpd)
 | nextS (x:AOpd)
 | nextM (x:AOpd)
 | ext (x:AOpd) (i:Nat)
 | call (f:AOpd) (args:List AOpd)
 | append (k bytes:Nat) (zero:List AVal) (s x:AOpd)
 | appendZ (k bytes:Nat) (zero:List AVal) (s x:AOpd)
 | copy (k:Nat) (d s:AOpd)
 | clear (k:Nat) (zero:List AVal) (x:AOpd)
 | lenStr (x:AOpd)
 | lenSl (x:AOpd)
 | lenMap (x:AOpd)
 | lenArr (n:Nat)
 | capSl (x:AOpd)
 | minmax (mx:Bool) (xs:List AOpd)
 | iface (t:TypeId) (x:AOpd)
 | dead
 deriving Inhabited
structure AOper where
 dst:Option Nat
 op:AOp
 guard:Option (Nat×Bool)
 un:List Nat
 deriving Inhabited
inductive ACode where
 | skip
 | region (draw:Bool) (ops:List AOper)
 | seq (a b:ACode)
 | cond (c:AOpd) (a b:ACode)
 | block (id:Nat) (c:ACode)
 | loop (c:ACode)
 | exit (id:Nat)
 | scope (c:ACode)
 | label (l:Nat)
 | ret
 | bad
 deriving Inhabited
structure AFn where
 ntmps:Nat
 results:List (Nat×Option (Option Nat))
 body:ACode
 deriving Inhabited
def AOp.opds:AOp→List AOpd
 | .mov x | .box x | .load _ x | .nilChk x | .un _ x | .convInt _ x | .convId x | .toStr x | .fieldA _ x | .field _ _ x | .range x | .nextS x | .nextM x | .ext x _ | .lenStr x | .lenSl x | .lenMap x | .iface _ x | .clear _ _ x | .capSl x=>[x]
 | .pick c a b=>[c,a,b]
 | .alloc _ | .mkMap | .lenArr _ | .dead=>[]
 | .build _ ps=>ps.map fun p=>p.2.2
 | .mkSl _ _ _ ps=>ps.map fun p=>p.2
 | .store _ a x | .bin _ _ a x | .makeSl _ _ _ a x | .idxA _ a x | .idxAA _ _ a x | .idxStr a x | .idxArr _ _ _ a x | .lookup _ _ _ a x | .mapEnt _ _ a x | .delete _ a x | .append _ _ _ a x | .appendZ _ _ _ a x | .copy _ a x=>[a,x]
 | .mkFunc _ a b=>a++b
 | .slStr x l h | .slArr _ _ x l h=>x :: (l.toList++h.toList)
 | .slSl _ x l h m=>x :: (l.toList++h.toList++m.toList)
 | .mapUpd _ a b c | .entSt a b c=>[a,b,c]
 | .call f xs=>f :: xs
 | .minmax _ xs=>xs
def AOp.kind:AOp→Nat
 | .mov _ | .pick _ _ _ | .build _ _ | .nilChk _ | .bin _ _ _ _ | .un _ _ | .convInt _ _ | .convId _ | .mkFunc _ _ _ | .slStr _ _ _ | .fieldA _ _ | .field _ _ _ | .idxAA _ _ _ _ | .idxStr _ _ | .idxArr _ _ _ _ _ | .ext _ _ | .lenStr _ | .lenSl _ | .lenArr _ | .minmax _ _ | .iface _ _ | .capSl _=>0
 | .load _ _ | .toStr _ | .slSl _ _ _ _ _ | .idxA _ _ _ | .lookup _ _ _ _ _ | .lenMap _=>1
 | .box _ | .alloc _ | .mkSl _ _ _ _ | .mkMap | .makeSl _ _ _ _ _=>2
 | _=>3
def aundef:AVal:=.tuple []
def ev (t:List AVal):AOpd→AVal
 | .tmp i=>t.getD i aundef
 | .const v=>v
 | .fn f=>.func (.func f) [] []
def put (t:List AVal) (d:Option Nat) (v:AVal):List AVal:=
 match d with
 | some d=>t.set d v
 | none=>t
def AVal.cells:AVal→Option (List AVal)
 | .agg cs=>some cs
 | .bot=>none
 | v=>some [v]
def AVal.one:AVal→Bool
 | .agg _ | .tuple _ | .bot=>false
 | _=>true
def setRow (row:List AVal) (j:Nat):List AVal→List AVal
 | []=>row
 | v :: r=>setRow (row.set j v) (j+1) r
def fillA:List AVal→List (Nat×Nat×AVal)→Option (List AVal)
 | cells,[]=>some cells
 | cells,(off,size,v) :: r=>
  match v.cells with
  | some cs=>if cs.length=size∧off+size≤cells.length then fillA (setRow cells off cs) r else none
  | none=>none
def fillS (k:Nat):List (List AVal)→List (Nat×AVal)→Option (List (List AVal))
 | els,[]=>some els
 | els,(i,v) :: r=>
  match v.cells with
  | some cs=>if cs.length=k∧i<els.length∧cs.all AVal.one then fillS k (els.set i cs) r else none
  | none=>none
def rowAt (m:Mem):AVal→Option (List AVal×Nat)
 | .ptr b i j=>match m.get b with
  | some (.cells _ els)=>match els[i]? with
   | some row=>some (row,j)
   | none=>none
  | _=>none
 | .iptr els i j=>match els[i]? with
  | some row=>some (row,j)
  | none=>none
 | _=>none
def loadA (m:Mem) (n:Option Nat) (x:AVal):Option AVal:=
 match rowAt m x with
 | some (row,j)=>match n with
  | none=>row[j]?
  | some n=>if 0<n∧j+n≤row.length then some (.agg ((row.drop j).take n))else none
 | none=>none
def storeA (m:Mem) (n:Nat) (x v:AVal):Option Mem:=
 match x,v.cells with
 | .ptr b i j,some cs=>match m.get b with
  | some (.cells k els)=>match els[i]? with
   | some row=>if cs.length=n∧j+n≤row.length∧cs.all AVal.one then some (m.set b (.cells k (els.set i (setRow row j cs))))else none
   | none=>none
  | _=>none
 | _,_=>none
def keyEq (kt:KeyT) (x y:AVal):Option Bool:=
 match kt,x,y with
 | .int,.int k a,.int k' b=>if k=k' then some (a == b)else none
 | .str,.str a,.str b=>some (a == b)
 | .bool,.bool a,.bool b=>some (a == b)
 | _,_,_=>none
def sameCells:List KeyT→List AVal→List AVal→Option Bool
 | [],[],[]=>some true
 | k :: ks,x :: xs,y :: ys=>match keyEq k x y with
  | some true=>sameCells ks xs ys
  | some false=>some false
  | none=>none
 | _,_,_=>none
def findA (kt:KeyT) (k:AVal):List (AVal×AVal×Nat)→Option (Option (Nat×AVal×Nat))
 | []=>some none
 | (k',v,born) :: es=>match keyEq kt k k' with
  | some true=>some (some (0,v,born))
  | some false=>match findA kt k es with
   | some (some (i,r))=>some (some (i+1,r))
   | some none=>some none
   | none=>none
  | none=>none
def rowsOf (m:Mem) (k:Nat):AVal→Option (List (List AVal))
 | .nilSl | .emp=>some []
 | .imm els=>if els.all (·.length == k)then some els else none
 | .sl b off len=>match m.get b with
  | some (.cells k' els)=>if k'=k∧off+len≤els.length then some ((els.drop off).take len)else none
  | _=>if len=0 then some []else none
 | _=>none
def byteRow (c:UInt8):List AVal:=[.int .u8 c.toNat]
def srcRows (m:Mem) (k:Nat):AVal→Option (List (List AVal))
 | .str s=>if k=1 then some (s.map byteRow)else none
 | x=>rowsOf m k x
def sliceLen:AVal→Option Nat
 | .nilSl | .emp=>some 0
 | .imm els=>some els.length
 | .sl _ _ len=>some len
 | _=>none
def asNat:AVal→Option Nat
 | .int _ n=>if 0≤n then some n.toNat else none
 | _=>none
def optNat (t:List AVal) (d:Nat):Option AOpd→Option Nat
 | none=>some d
 | some x=>asNat (ev t x)
def room:Nat:=1048576
def appendRows (id k bytes:Nat) (m:Mem) (s:AVal) (xs:List (List AVal)):Option (AVal×Mem):=
 match s with
 | .nilSl=>if xs=[]then some (.nilSl,m)else if xs.length≤room∧bytes≤room then some (.sl id 0 xs.length,m.set id (.cells k xs))else none
 | .emp=>if xs=[]then some (.emp,m)else if xs.length≤room∧bytes≤room then some (.sl id 0 xs.length,m.set id (.cells k xs))else none
 | .sl b off len=>match m.get b with
  | some (.cells k' els)=>
   if k'=k∧off+len≤els.length∧(els.length=off+len∨off+len+xs.length≤els.length)then
    if off+len+xs.length≤els.length then
     some (.sl b off (len+xs.length),m.set b (.cells k (els.take (off+len)++xs++els.drop (off+len+xs.length))))
    else if len+xs.length≤room∧bytes≤room then
     some (.sl id 0 (len+xs.length),(m.del b).set id (.cells k ((els.drop off).take len++xs)))
    else none
   else none
  | _=>none
 | _=>none
def binInt (op:BinOp) (k:IntKind) (a b:Int):Option AVal:=
 match op with
 | .add=>some (.int k (k.wrap (a+b)))
 | .sub=>some (.int k (k.wrap (a - b)))
 | .mul=>some (.int k (k.wrap (a*b)))
 | .quo=>if b=0 then none else some (.int k (k.wrap (a.tdiv b)))
 | .rem=>if b=0 then none else some (.int k (a.tmod b))
 | .and=>some (.int k (k.wrap (BitVec.ofInt k.bits a &&& BitVec.ofInt k.bits b).toNat))
 | .or=>some (.int k (k.wrap (BitVec.ofInt k.bits a ||| BitVec.ofInt k.bits b).toNat))
 | .xor=>some (.int k (k.wrap (BitVec.ofInt k.bits a ^^^ BitVec.ofInt k.bits b).toNat))
 | .andNot=>some (.int k (k.wrap (BitVec.ofInt k.bits a &&& ~~~(BitVec.ofInt k.bits b)).toNat))
 | .eql=>some (.bool (decide (a=b)))
 | .neq=>some (.bool (!decide (a=b)))
 | .lss=>some (.bool (decide (a<b)))
 | .leq=>some (.bool (decide (a≤b)))
 | .gtr=>some (.bool (decide (b<a)))
 | .geq=>some (.bool (decide (b≤a)))
 | _=>none
def binStr (op:BinOp) (a b:List UInt8):Option AVal:=
 match op with
 | .add=>if a.length+b.length≤1099511627776 then some (.str (a++b))else none
 | .eql=>some (.bool (a == b))
 | .neq=>some (.bool (!(a == b)))
 | .lss=>some (.bool (Op.bytesLess a b))
 | .leq=>some (.bool (Op.bytesLess a b||a == b))
 | .gtr=>some (.bool (!(Op.bytesLess a b||a == b)))
 | .geq=>some (.bool (!Op.bytesLess a b))
 | _=>none
def isNil:EqT→AVal→Option Bool
 | .slice,.nilSl=>some true
 | .slice,.sl _ _ _=>some false
 | .slice,.imm els=>if els.isEmpty then none else some false
 | .func,.nilFunc=>some true
 | .func,.func _ _ _=>some false
 | .map,.nilMap=>some true
 | .map,.map _=>some false
 | .ptr,.nilPtr=>some true
 | .ptr,.ptr _ _ _=>some false
 | .ptr,.iptr _ _ _=>some false
 | _,_=>none
def eqNil (e:EqT) (x y:AVal):Option Bool:=
 match isNil e y with
 | some true=>isNil e x
 | _=>match isNil e x with
  | some true=>isNil e y
  | _=>none
def eqA (e:EqT) (x y:AVal):Option Bool:=
 match e with
 | .num=>none
 | .bool=>match x,y with
  | .bool a,.bool b=>some (a == b)
  | _,_=>none
 | .flat ks=>match x,y with
  | .agg xs,.agg ys=>sameCells ks xs ys
  | _,_=>none
 | e=>eqNil e x y
def binA (op:BinOp) (e:EqT) (x y:AVal):Option AVal:=
 match op,x,y with
 | .shl,.int k a,.int _ b=>if b<0 then none else some (.int k (k.wrap (a*2 ^ (min b.toNat k.bits))))
 | .shr,.int k a,.int _ b=>if b<0 then none else some (.int k (a.fdiv (2 ^ (min b.toNat k.bits))))
 | op,.int k a,.int k' b=>if k=k' then binInt op k a b else none
 | op,.str a,.str b=>binStr op a b
 | .eql,x,y=>match eqA e x y with
  | some b=>some (.bool b)
  | none=>none
 | .neq,x,y=>match eqA e x y with
  | some b=>some (.bool (!b))
  | none=>none
 | _,_,_=>none
def unA (op:UnOp) (x:AVal):Option AVal:=
 match op,x with
 | .neg,.int k n=>some (.int k (k.wrap (0 - n)))
 | .not,.bool b=>some (.bool (!b))
 | .xor,.int k n=>some (.int k (k.wrap (BitVec.ofInt k.bits (if k.signed then -1 else k.max) ^^^ BitVec.ofInt k.bits n).toNat))
 | _,_=>none
def addA (off:Nat):AVal→Option AVal
 | .ptr b i j=>some (.ptr b i (j+off))
 | .iptr els i j=>some (.iptr els i (j+off))
 | _=>none
def partA (cs:List AVal) (off:Nat):Option Nat→Option AVal
 | none=>cs[off]?
 | some n=>if off+n≤cs.length then some (.agg ((cs.drop off).take n))else none
def minmaxA (mx:Bool):AVal→List AVal→Option AVal
 | x,[]=>some x
 | .int k a,.int _ b :: r=>minmaxA mx (.int k (if mx then (if b > a then b else a)else (if b<a then b else a))) r
 | _,_=>none
def bytesOf:List (List AVal)→Option (List UInt8)
 | []=>some []
 | [.int .u8 n] :: r=>match bytesOf r with
  | some l=>some (UInt8.ofNat n.toNat :: l)
  | none=>none
 | _=>none
def slBounds (t:List AVal) (len mxlen:Nat) (lo hi:Option AOpd):Option (Nat×Nat):=
 match optNat t len hi with
 | some h=>if h≤mxlen then match optNat t 0 lo with
  | some l=>if l≤h then some (l,h)else none
  | none=>none
  else none
 | none=>none
def blkOf:AVal→List Nat
 | .ptr b _ _ | .sl b _ _ | .map b=>[b]
 | _=>[]
def footW (id:Nat) (t:List AVal):AOp→List Nat
 | .append _ _ _ s _=>id :: blkOf (ev t s)
 | .copy _ d _=>blkOf (ev t d)
 | .store _ a _=>blkOf (ev t a)
 | .mapUpd _ m _ _=>blkOf (ev t m)
 | .clear _ _ x=>blkOf (ev t x)
 | .box _ | .alloc _ | .mkSl _ _ _ _ | .mkMap | .makeSl _ _ _ _ _=>[id]
 | _=>[]
def footR (t:List AVal):AOp→List Nat
 | .append _ _ _ _ x=>blkOf (ev t x)
 | .copy _ _ s=>blkOf (ev t s)
 | .load _ x | .toStr x | .lookup _ _ _ x _ | .lenMap x | .slSl _ x _ _ _ | .idxA _ x _=>blkOf (ev t x)
 | _=>[]
def stepA (id:Nat) (t:List AVal) (m:Mem):AOp→Option (AVal×Mem)
 | .mov x=>some (ev t x,m)
 | .pick c a b=>match ev t c with
  | .bool true=>some (ev t a,m)
  | .bool false=>some (ev t b,m)
  | _=>none
 | .box x=>match (ev t x).cells with
  | some cs=>if cs.all AVal.one then some (.ptr id 0 0,m.set id (.cells cs.length [cs]))else none
  | none=>none
 | .alloc zero=>some (.ptr id 0 0,m.set id (.cells zero.length [zero]))
 | .build zero parts=>match fillA zero (parts.map fun p=>(p.1,p.2.1,ev t p.2.2))with
  | some cs=>some (.agg cs,m)
  | none=>none
 | .mkSl k len zero parts=>match fillS k (List.replicate len zero) (parts.map fun p=>(p.1,ev t p.2))with
  | some els=>some (.sl id 0 len,m.set id (.cells k els))
  | none=>none
 | .load n x=>match loadA m n (ev t x)with
  | some v=>some (v,m)
  | none=>none
 | .store n a x=>match storeA m n (ev t a) (ev t x)with
  | some m'=>some (aundef,m')
  | none=>none
 | .nilChk x=>match ev t x with
  | .ptr b i j=>some (.ptr b i j,m)
  | .iptr els i j=>some (.iptr els i j,m)
  | .func (.func f) a b=>some (.func (.func f) a b,m)
  | _=>none
 | .bin op e x y=>match binA op e (ev t x) (ev t y)with
  | some v=>some (v,m)
  | none=>none
 | .un op x=>match unA op (ev t x)with
  | some v=>some (v,m)
  | none=>none
 | .convInt k x=>match ev t x with
  | .int _ n=>some (.int k (k.wrap n),m)
  | _=>none
 | .convId x=>match ev t x with
  | .str s=>some (.str s,m)
  | _=>none
 | .toStr x=>match rowsOf m 1 (ev t x)with
  | some rows=>match bytesOf rows with
   | some s=>some (.str s,m)
   | none=>none
  | none=>none
 | .mkFunc fn first captured=>some (.func fn (first.map (ev t)) (captured.map (ev t)),m)
 | .mkMap=>some (.map id,m.set id (.map [] 0))
 | .makeSl k bytes zero len cap=>match asNat (ev t len),asNat (ev t cap)with
  | some l,some c=>if l≤c∧c≤room∧bytes≤room then some (.sl id 0 l,m.set id (.cells k (List.replicate c zero)))else none
  | _,_=>none
 | .slStr x lo hi=>match ev t x with
  | .str s=>match slBounds t s.length s.length lo hi with
   | some (l,h)=>some (.str ((s.take h).drop l),m)
   | none=>none
  | _=>none
 | .slSl k x lo hi mx=>match mx with
  | some z=>match sliceLen (ev t x),optNat t 0 (some z),optNat t 0 lo,hi with
   | some n,some mx,some l,some h=>match asNat (ev t h)with
    | some h=>if l≤h∧h≤mx∧mx≤n then (if mx=0 then some (.emp,m)else some (.bot,m))else none
    | none=>none
   | _,_,_,_=>none
  | none=>match ev t x with
   | .nilSl=>match slBounds t 0 0 lo hi with
    | some _=>some (.nilSl,m)
    | none=>none
   | .emp=>match slBounds t 0 0 lo hi with
    | some _=>some (.emp,m)
    | none=>none
   | .imm els=>if els.all (·.length == k)then match slBounds t els.length els.length lo hi with
    | some (l,h)=>some (.imm ((els.take h).drop l),m)
    | none=>none
    else none
   | .sl b off len=>match m.get b with
    | some (.cells k' els)=>if k'=k∧off+len≤els.length then match slBounds t len (els.length - off) lo hi with
     | some (l,h)=>some (.sl b (off+l) (h - l),m)
     | none=>none
     else none
    | _=>none
   | _=>none
 | .slArr ..=>none
 | .fieldA off x=>match addA off (ev t x)with
  | some v=>some (v,m)
  | none=>none
 | .field off n x=>match ev t x with
  | .agg cs=>match partA cs off n with
   | some v=>some (v,m)
   | none=>none
  | _=>none
 | .idxA k x i=>match ev t x,asNat (ev t i)with
  | .sl b off len,some i=>match m.get b with
   | some (.cells k' _)=>if k'=k∧i<len then some (.ptr b (off+i) 0,m)else none
   | _=>none
  | .imm els,some i=>match els[i]? with
   | some row=>if row.length=k then some (.iptr els i 0,m)else none
   | none=>none
  | _,_=>none
 | .idxAA n k x i=>match asNat (ev t i)with
  | some i=>if i<n then match addA (i*k) (ev t x)with
   | some v=>some (v,m)
   | none=>none
   else none
  | none=>none
 | .idxStr x i=>match ev t x,asNat (ev t i)with
  | .str s,some i=>match s[i]? with
   | some c=>some (.int .u8 c.toNat,m)
   | none=>none
  | _,_=>none
 | .idxArr n k sz x i=>match ev t x,asNat (ev t i)with
  | .agg cs,some i=>if i<n then match partA cs (i*k) sz with
   | some v=>some (v,m)
   | none=>none
   else none
  | _,_=>none
 | .lookup kt zero ok x i=>match (match ev t x with
  | .nilMap=>some []
  | .map b=>match m.get b with
   | some (.map es _)=>some es
   | _=>none
  | _=>none)with
  | some es=>match findA kt (ev t i) es with
   | some r=>
    let v:=match r with
     | some (_,v,_)=>v
     | none=>zero
    some (if ok then .tuple [v,.bool r.isSome]else v,m)
   | none=>none
  | none=>none
 | .mapUpd kt mp k v=>match ev t mp with
  | .map b=>match m.get b with
   | some (.map es clock)=>match findA kt (ev t k) es with
    | some (some (i,_,born))=>some (aundef,m.set b (.map (es.set i (ev t k,ev t v,born)) clock))
    | some none=>some (aundef,m.set b (.map (es++[(ev t k,ev t v,clock)]) (clock+1)))
    | none=>none
   | _=>none
  | _=>none
 | .mapEnt ..=>none
 | .entSt ..=>none
 | .delete ..=>none
 | .range _=>none
 | .nextS _=>none
 | .nextM _=>none
 | .ext x i=>match ev t x with
  | .tuple vs=>match vs[i]? with
   | some v=>some (v,m)
   | none=>none
  | _=>none
 | .call _ _=>none
 | .append k bytes _ s x=>match srcRows m k (ev t x)with
  | some xs=>appendRows id k bytes m (ev t s) xs
  | none=>none
 | .appendZ ..=>none
 | .copy k d s=>match ev t d,srcRows m k (ev t s)with
  | .sl b off len,some xs=>match m.get b with
   | some (.cells k' els)=>if k'=k∧off+len≤els.length then
    let n:=min xs.length len
    some (.int .i64 n,m.set b (.cells k (els.take off++xs.take n++els.drop (off+n))))
    else none
   | _=>none
  | _,_=>none
 | .clear k zero x=>match ev t x with
  | .sl b off len=>match m.get b with
   | some (.cells k' els)=>if k'=k∧off+len≤els.length then
    some (aundef,m.set b (.cells k (els.take off++List.replicate len zero++els.drop (off+len))))
    else none
   | _=>none
  | .nilSl=>some (aundef,m)
  | .emp=>some (aundef,m)
  | _=>none
 | .lenStr x=>match ev t x with
  | .str s=>some (.int .i64 s.length,m)
  | _=>none
 | .lenSl x=>match sliceLen (ev t x)with
  | some n=>some (.int .i64 n,m)
  | none=>none
 | .lenMap x=>match ev t x with
  | .nilMap=>some (.int .i64 0,m)
  | .map b=>match m.get b with
   | some (.map es _)=>some (.int .i64 es.length,m)
   | _=>none
  | _=>none
 | .lenArr n=>some (.int .i64 n,m)
 | .capSl _=>none
 | .minmax mx xs=>match xs with
  | []=>none
  | x :: r=>match minmaxA mx (ev t x) (r.map (ev t))with
   | some v=>some (v,m)
   | none=>none
 | .iface ty x=>some (.iface ty (ev t x),m)
 | .dead=>none
end Go.AE
