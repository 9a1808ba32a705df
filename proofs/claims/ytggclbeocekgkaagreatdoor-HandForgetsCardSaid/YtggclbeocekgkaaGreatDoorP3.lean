/- Part 3 of the proof: AeC, AeD, AeDl. -/
import Derived.Test.YtggclbeocekgkaaGreatDoorP2
set_option linter.all false
section
namespace Go.AE
open Go.RowKit
def Hz:Value→Option Aa
 | .bool b=>some (.bool b)
 | .int k n=>some (.int k n)
 | .string s=>some (.str s.data.toList)
 | .pointer none=>some .nilPtr
 | .slice none 0 0=>some .Ae
 | .map none=>some .Av
 | .nilFunc=>some .nilFunc
 | .nilIface=>some .nilIface
 | .tuple vs=>if vs.size=0 then some Ag else none
 | _=>none
def RN:List Value→Option (List Aa)
 | []=>some []
 | v :: r=>match Hz v,RN r with
  | some x,some xs=>some (x :: xs)
  | _,_=>none
def HA:Value→Option Aa
 | .agg cs=>match RN cs.toList with
  | some xs=>some (.agg xs)
  | none=>none
 | v=>Hz v
section
variable (P:Program)
def X3:Operand→Option Ah
 | .tmp t=>some (.tmp t)
 | .const v=>match HA v with
  | some x=>some (.const x)
  | none=>none
 | .func f=>some (.fn f)
 | .global _=>none
def C7:List Operand→Option (List Ah)
 | []=>some []
 | x :: r=>match X3 x,C7 r with
  | some y,some ys=>some (y :: ys)
  | _,_=>none
def N8(t:TypeId):Option Nat:=(P.info? t).map (·.size)
def YX(t:TypeId):Option Nat:=(P.info? t).map (·.bytes)
def Tq(t:TypeId):Option Aa:=
 match P.info? t with
 | some i=>match i.zero with
  | some z=>HA z
  | none=>none
 | none=>none
def Kc(t:TypeId):Option (List Aa):=
 match Tq P t with
 | some z=>match z.cells with
  | some cs=>if cs.all Aa.one then some cs else none
  | none=>none
 | none=>none
def JR(t:TypeId):Option (Option Nat):=
 match P.underlying t,P.info? t with
 | some (.struct _),some i|some (.array _ _),some i=>some (some i.size)
 | some _,some _=>some none
 | _,_=>none
def K9(t:TypeId):Option Br:=
 match P.underlying t with
 | some (.int _)=>some .int
 | some .string=>some .str
 | some .bool=>some .bool
 | _=>none
def Od:List Field→Nat→Option (List Br)
 | [],_=>some []
 | f :: r,i=>if f.name != "_" && f.offset == i then match K9 P f.type,Od r (i+1)with
  | some k,some ks=>some (k :: ks)
  | _,_=>none
  else none
def LD:List Field→Nat→Option (List Br)
 | [],_=>some []
 | f :: r,i=>if f.name != "_" && f.offset == i then match K9 P f.type with
  | some k=>match LD r (i+1)with
   | some ks=>some (k :: ks)
   | none=>none
  | none=>match P.underlying f.type,P.info? f.type with
   | some (.struct fs),some nf=>if P.stoodInHeld f.type then none else match Od P fs.toList 0 with
    | some ks=>if nf.size=ks.length then match LD r (i+ks.length)with
     | some ks'=>some (ks++ks')
     | none=>none
     else none
    | none=>none
   | _,_=>none
  else none
def Xr(t:TypeId):Option Fp:=
 match P.underlying t with
 | some .bool=>some .bool
 | some (.slice _)=>some .slice
 | some (.func _ _ _)=>some .func
 | some (.map _ _)=>some .map
 | some (.pointer _)=>some .ptr
 | some (.int _)|some .string=>some .num
 | some (.struct fs)=>if P.stoodInHeld t||P.eqGuardType P.depth t then none else match LD P fs.toList 0 with
  | some ks=>some (.flat ks)
  | none=>none
 | _=>none
def Oe(fs:List Field):List (Nat×Operand)→Option (List (Nat×Nat×Ah))
 | []=>some []
 | (i,x) :: r=>match fs[i]? with
  | some f=>match N8 P f.type,X3 x,Oe fs r with
   | some n,some y,some ys=>some ((f.offset,n,y) :: ys)
   | _,_,_=>none
  | none=>none
def OB(n:Nat):List (Nat×Operand)→Option (List (Nat×Nat×Ah))
 | []=>some []
 | (i,x) :: r=>match X3 x,OB n r with
  | some y,some ys=>some ((i*n,n,y) :: ys)
  | _,_=>none
def NY:List (Nat×Operand)→Option (List (Nat×Ah))
 | []=>some []
 | (i,x) :: r=>match X3 x,NY r with
  | some y,some ys=>some ((i,y) :: ys)
  | _,_=>none
def I7:Option Operand→Option (Option Ah)
 | none=>some none
 | some x=>match X3 x with
  | some y=>some (some y)
  | none=>none
def D2(t:TypeId):Option (Nat×Nat×List Aa):=
 match P.underlying t with
 | some (.slice e)=>match N8 P e,YX P e,Kc P e with
  | some k,some b,some z=>if z.length=k∧0<k then some (k,b,z)else none
  | _,_,_=>none
 | _=>none
def MT(c:Call):Option AU:=
 match c.callee with
 | .value f=>match X3 f,C7 c.args.toList with
  | some g,some xs=>some (.call g xs)
  | _,_=>none
 | .builtin .append=>match c.args.toList,c.argTypes.toList with
  | [s,x],[t,u]=>match D2 P t,X3 s,X3 x with
   | some (k,b,z),some s',some x'=>match P.underlying u with
    | some (.int _)=>some (.CX k b z s' x')
    | some _=>some (.append k b z s' x')
    | none=>none
   | _,_,_=>none
  | _,_=>none
 | .builtin .copy=>match c.args.toList,c.argTypes.toList with
  | [d,s],[t,_]=>match D2 P t,X3 d,X3 s with
   | some (k,_,_),some d',some s'=>some (.copy k d' s')
   | _,_,_=>none
  | _,_=>none
 | .builtin .clear=>match c.args.toList,c.argTypes.toList with
  | [x],[t]=>match D2 P t,X3 x with
   | some (k,_,z),some x'=>some (.clear k z x')
   | _,_=>none
  | _,_=>none
 | .builtin .len=>match c.args.toList,c.argTypes.toList with
  | [x],[t]=>match P.underlying t,X3 x with
   | some (.array n _),_=>some (.Dq n)
   | some .string,some y=>some (.Dr y)
   | some (.slice _),some y=>some (.Ca y)
   | some (.map _ _),some y=>some (.Cp y)
   | _,_=>none
  | _,_=>none
 | .builtin .cap=>match c.args.toList,c.argTypes.toList with
  | [x],[t]=>match P.underlying t,X3 x with
   | some (.slice _),some y=>some (.El y)
   | _,_=>none
  | _,_=>none
 | .builtin .min=>match C7 c.args.toList with
  | some xs=>some (.Cq false xs)
  | none=>none
 | .builtin .max=>match C7 c.args.toList with
  | some xs=>some (.Cq true xs)
  | none=>none
 | _=>none
def Gf(o:Oper):Option AU:=
 match o.op with
 | .move x | .assign x=>(X3 x).map .Fz
 | .pick c a b=>match X3 c,X3 a,X3 b with
  | some c',some a',some b'=>some (.pick c' a' b')
  | _,_,_=>none
 | .alloc t=>(Kc P t).map .alloc
 | .box _ x=>(X3 x).map .box
 | .build t ps=>match P.underlying t,Kc P t with
  | some (.struct fs),some z=>if fs.toList.all fun f=>(P.info? f.type).isSome then match Oe P fs.toList ps.toList with
   | some qs=>some (.build z qs)
   | none=>none
   else none
  | some (.array _ e),some z=>match N8 P e with
   | some n=>match OB n ps.toList with
    | some qs=>some (.build z qs)
    | none=>none
   | none=>none
  | _,_=>none
 | .buildSlice t len ps=>match D2 P t,NY ps.toList with
  | some (k,_,z),some qs=>if len*k≤2 ^ 24 then some (.CO k len z qs)else none
  | _,_=>none
 | .load t x=>match JR P t,X3 x with
  | some n,some y=>some (.load n y)
  | _,_=>none
 | .store t a x=>match N8 P t,X3 a,X3 x with
  | some n,some a',some x'=>some (.store n a' x')
  | _,_,_=>none
 | .nilCheck x=>(X3 x).map .Cd
 | .binOp op t x y _=>match X3 x,X3 y,Xr P t with
  | some x',some y',some e=>some (.bin op e x' y')
  | _,_,_=>none
 | .unOp op _ x=>(X3 x).map (.un op)
 | .convert s d x=>match P.underlying s,P.underlying d,X3 x with
  | some (.int _),some (.int k),some y=>some (.CA k y)
  | some .string,some .string,some y=>some (.Dk y)
  | some (.slice e),some .string,some y=>match P.underlying e with
   | some (.int .u8)=>some (.toStr y)
   | _=>none
  | _,_,_=>none
 | .makeFunc fn f c=>match C7 f.toList,C7 c.toList with
  | some f',some c'=>some (.CW fn f' c')
  | _,_=>none
 | .makeMap _ none=>some .mkMap
 | .makeSlice t l c=>match D2 P t,X3 l,X3 c with
  | some (k,b,z),some l',some c'=>some (.Cb k b z l' c')
  | _,_,_=>none
 | .slice t x lo hi mx=>match P.underlying t,X3 x,I7 lo,I7 hi,I7 mx with
  | some .string,some x',some l,some h,some none=>some (.Es x' l h)
  | some (.slice e),some x',some l,some h,some m=>match N8 P e with
   | some k=>some (.DU k x' l h m)
   | none=>none
  | some (.array n e),some x',some l,some h,some none=>match N8 P e with
   | some k=>some (.Cl n k x' l h)
   | none=>none
  | _,_,_,_,_=>none
 | .fieldAddr t x i=>match P.underlying t,X3 x with
  | some (.struct fs),some y=>match fs[i]? with
   | some f=>match N8 P f.type with
    | some n=>if n≠0 then some (.Bw f.offset y)else none
    | none=>none
   | none=>none
  | _,_=>none
 | .field t x i=>match P.underlying t,X3 x with
  | some (.struct fs),some y=>match fs[i]? with
   | some f=>match JR P f.type with
    | some n=>some (.field f.offset n y)
    | none=>none
   | none=>none
  | _,_=>none
 | .indexAddr t x i=>match P.underlying t,X3 x,X3 i with
  | some (.slice e),some x',some i'=>match N8 P e with
   | some k=>some (.BZ k x' i')
   | none=>none
  | some (.array n e),some x',some i'=>match N8 P e with
   | some k=>some (.DW n k x' i')
   | none=>none
  | _,_,_=>none
 | .index t x i=>match P.underlying t,X3 x,X3 i with
  | some .string,some x',some i'=>some (.Dn x' i')
  | some (.array n e),some x',some i'=>match N8 P e,JR P e with
   | some k,some sz=>some (.CV n k sz x' i')
   | _,_=>none
  | _,_,_=>none
 | .lookup t x i ok=>match P.underlying t,X3 x,X3 i with
  | some (.map kt e),some x',some i'=>match K9 P kt,Tq P e with
   | some q,some z=>some (.lookup q z ok x' i')
   | _,_=>none
  | _,_,_=>none
 | .mapUpdate t m k v | .insert t m k v=>match P.underlying t,X3 m,X3 k,X3 v with
  | some (.map kt _),some m',some k',some v'=>match K9 P kt with
   | some q=>some (.Bx q m' k' v')
   | none=>none
  | _,_,_,_=>none
 | .extract x i=>match X3 x with
  | some y=>some (.ext y i)
  | none=>none
 | .call c=>MT P c
 | .range t x=>match P.underlying t with
  | some (.map _ _)=>(X3 x).map .range
  | _=>none
 | .next x false=>(X3 x).map .Cc
 | .entry x=>(X3 x).map .BL
 | _=>none
def O9(o:Oper):AU:=(Gf P o).getD .dead
def C1(ops:Array Oper):Option (Nat×Bool)→Option (Option (Nat×Bool))
 | none=>some none
 | some (j,w)=>match (ops[j]?).bind (·.dst)with
  | some d=>some (some (d,w))
  | none=>none
def MR:List Nat→List Nat→List Nat
 | acc,[]=>acc
 | acc,x :: r=>if acc.contains x then MR acc r else MR (x :: acc) r
theorem Zp(j:Nat):∀ (l acc:List Nat),j∈MR acc l↔j∈acc∨j∈l
 | [],acc=>by simp[MR]
 | x :: r,acc=>by
  simp only[MR];split
  ·rename_i h;rw[Zp j r acc,mC];have hx:x∈acc:=by simpa using h
   constructor
   ·rintro(h|h)
    ·exact .inl h
    ·exact .inr (.inr h)
   ·rintro(h|rfl|h)
    ·exact .inl h
    ·exact .inl hx
    ·exact .inr h
  ·rw[Zp j r (x :: acc),mC,mC];constructor
   ·rintro((h|h)|h)
    ·exact .inr (.inl h)
    ·exact .inl h
    ·exact .inr (.inr h)
   ·rintro(h|h|h)
    ·exact .inl (.inr h)
    ·exact .inl (.inl h)
    ·exact .inr h
def Hv(ops:List Oper):List (List Nat):=
 ops.foldl (fun acc o=>acc++[MR [] ((o.after.toList.filter (Region.binds .any)).flatMap fun e=>e.on :: acc.getD e.on [])]) []
def F2(ops:Array Oper):List Oper→Option (List Af)
 | []=>some []
 | o :: r=>match C1 ops o.guard,F2 ops r with
  | some g,some asz=>some (⟨o.dst,O9 P o,g,[]⟩ :: asz)
  | _,_=>none
def Xt(asz:List Af)(Bh:List (List Nat))(j:Nat)(a:AU):List Nat:=
 (List.range j).filter fun i=>!((Bh.getD j []).contains i)&&match asz[i]? with
   | some x=>!(x.op.kind≤1&&a.kind≤1)&&x.op.kind != 0&&a.kind != 0
   | none=>false
def EW(asz:List Af)(Bh:List (List Nat)):Nat→List Af→List Af
 | _,[]=>[]
 | j,a :: r=>⟨a.dst,a.op,a.guard,Xt asz Bh j a.op⟩ :: EW asz Bh (j+1) r
def Af.looks(a:Af):List Nat:=
 (a.op.AK.filterMap fun x=>match x with
   | .tmp i=>some i
   | _=>none)++match a.guard with
   | some (d,_)=>[d]
   | none=>[]
def Af.apart(x y:Af):Bool:=
 (match x.dst with
  | some d=>!(y.looks.contains d)&&y.dst != some d
  | none=>true) &&
 match y.dst with
 | some d=>!(x.looks.contains d)
 | none=>true
def SN(ops:Array Oper)(asz:List Af)(Bh:List (List Nat)):Bool:=
 ((List.range ops.size).all fun i=>match ops[i]? with
   | some o=>o.after.toList.all fun e=>!Region.binds .any e||decide (e.on<i)
   | none=>true) &&
 ((List.range ops.size).all fun j=>(List.range j).all fun i=>(Bh.getD j []).contains i||match asz[i]?,asz[j]? with
   | some x,some y=>x.apart y
   | _,_=>false)
def Y4:Code→An
 | .skip=>.skip
 | .region _ ops false=>match F2 P ops ops.toList with
  | some asz=>.region false asz
  | none=>.bad
 | .region _ ops true=>match F2 P ops ops.toList with
  | some asz=>
   if SN ops asz (Hv ops.toList)then .region true (EW asz (Hv ops.toList) 0 asz)else .bad
  | none=>.bad
 | .seq a b=>.seq (Y4 a) (Y4 b)
 | .cond c a b=>match X3 c with
  | some c'=>.cond c' (Y4 a) (Y4 b)
  | none=>.bad
 | .block id c=>.block id (Y4 c)
 | .loop c=>.loop (Y4 c)
 | .exit id=>.exit id
 | .scope c=>.scope (Y4 c)
 | .label _=>.skip
 | .ret=>.ret
 | _=>.bad
def SP:ResultVar→Option (Nat×Option (Option Nat))
 | .tmp t=>some (t,none)
 | .cell a t=>(JR P t).map fun n=>(a,some n)
def Ka:List ResultVar→Option (List (Nat×Option (Option Nat)))
 | []=>some []
 | x :: r=>match SP P x,Ka r with
  | some y,some ys=>some (y :: ys)
  | _,_=>none
def AS(f:Func):Option As:=
 match f.body with
 | some c=>match Ka P f.results.toList with
  | some rs=>if f.name == "runtime.NumGoroutine" then none else some ⟨f.ntmps,rs,Y4 P c⟩
  | none=>none
 | none=>none
end
end Go.AE
end
section
namespace Go.AE
open Go.RowKit
def BI(n:Nat)(ρ ρ':AD):Prop:=∀ b,b<n→ρ b=none→ρ' b=none
theorem BI.refl(n:Nat)(ρ:AD):BI n ρ ρ:=fun _ _ h=>h
theorem BI.trans{n n':Nat}{ρ ρ' DG:AD}(h:BI n ρ ρ')(h':BI n' ρ' DG)(hn:n≤n'):BI n ρ DG:=
 fun b hb h0=>h' b (Nat.lt_of_lt_of_le hb hn) (h b hb h0)
def Te(P:Program)(f:FuncId):Prop:=∃ fn,P.funcs[f]? = some fn∧(fn.name == "runtime.NumGoroutine")=false∧fn.body.isSome=true
def Au(P:Program)(f:FuncId)(args:List Aa)(m:Mem)(av:List Nat)(K:Aa→Mem→Prop):Prop:=
 Te P f ∧ ∀(W:AA) (Φ:Ao) (ρ:AD) (vs:Array Value) (w:World),Rel W Φ ρ m w→RL Φ ρ args vs→(∀ b,b∈av→ρ b=none∧b<m.next) →
  Calls P f vs w fun e w'=>∃ v r m' Ar ρ',e=.returned v∧Ext Φ ρ Ar ρ'∧(∀ b,b<m.next→b∉av→ρ b=none→ρ' b=none) ∧
   Rel W Ar ρ' m' w'∧R Ar ρ' r v∧m.next≤m'.next∧K r m'
def Mem.less(m:Mem)(x:List Nat):Mem:={ m with get:=fun c=>if c∈x then none else m.get c }
def MX(P:Program)(f:FuncId)(args:List Aa)(id:Nat)(x:List Nat)(m:Mem)(v:Aa)(m':Mem)(wl:List Nat):Prop:=
 ∃ m3:Mem,id∉x∧(∀ c,c∈x→m3.get c=none)∧m.next≤m3.next∧m'.next=m3.next∧(∀ c,m'.get c=if c∈x then m.get c else m3.get c) ∧
  (∀ c,c∉wl→c<m.next→c∉x→m3.get c=m.get c)∧Au P f args (m.less x) [id] fun v' m''=>v'=v∧m''=m3
inductive FT where
 | ops (w r:List Nat)
 | call (wl x:List Nat) (nx:Nat)
def FT.W:FT→Nat→Bool
 | .ops w _,c=>w.contains c
 | .call wl _ nx,c=>wl.contains c||decide (nx≤c)
def FT.R:FT→Nat→Bool
 | .ops _ r,c=>r.contains c
 | .call _ x _,c=>!x.contains c
def FT.Dp:FT→Bool
 | .ops _ _=>false
 | .call _ _ _=>true
def callee(t:List Aa)(f:Ah)(xs:List Ah):Option (FuncId×List Aa):=
 match ev t f with
 | .func (.func g) first cap=>some (g,first++xs.map (ev t)++cap)
 | _=>none
def T7(t:List Aa):Option (Nat×Bool)→Option Bool
 | none=>some true
 | some (d,w)=>match t.getD d Ag with
  | .bool b=>some (b == w)
  | .tuple []=>some false
  | _=>none
structure AY where
 t:List Aa
 m:Mem
structure AY.EF (σ' σ:AY):Prop where
 next:σ.m.next≤σ'.m.next
 rel:∀ (W:AA) (Φ:Ao) (ρ:AD) (vs:Array Value) (w:World),Rel W Φ ρ σ.m w→RL Φ ρ σ.t vs → ∃ Ar,Ext Φ ρ Ar ρ∧Rel W Ar ρ σ'.m w∧RL Ar ρ σ'.t vs
def N9(P:Program)(base:Nat):List Af→Nat→(AY→Prop)→List Aa→Mem→Prop
 | [],_,K,t,m=>K ⟨t,m⟩
 | o :: r,i,K,t,m=>
  match T7 t o.guard with
  | some false=>N9 P base r (i+1) K (put t o.dst Ag) m
  | some true=>
   match o.op with
   | .call f xs=>match callee t f xs with
    | some (g,args)=>Au P g args m [base+i] fun v m'=>N9 P base r (i+1) K (put t o.dst v) m'
    | none=>False
   | op=>match Z5 (base+i) t m op with
    | some (v,m')=>N9 P base r (i+1) K (put t o.dst v) m'
    | none=>False
  | none=>False
def GL(x:Nat):List Nat→Prop
 | []=>True
 | y :: r=>x≠y∧GL x r
def I9:List Nat→List Nat→Prop
 | [],_=>True
 | x :: r,l=>GL x l∧I9 r l
def D7(n:Nat):List Nat→Prop
 | []=>True
 | x :: r=>x<n∧D7 n r
def IS(x:Nat):List Nat→Prop
 | []=>False
 | y :: r=>x=y∨IS x r
def Ed:List Nat→List Nat→Prop
 | [],_=>True
 | x :: r,l=>IS x l∧Ed r l
def FT.indep:FT→FT→Prop
 | .ops w r,.ops w' r'=>I9 w (r'++w')∧I9 r w'
 | .ops w r,.call wl x nx=>I9 r wl∧D7 nx r∧I9 w wl∧D7 nx w∧Ed w x
 | .call wl x nx,.ops w r=>I9 r wl∧D7 nx r∧I9 w wl∧D7 nx w∧Ed w x
 | .call _ _ _,.call _ _ _=>False
def O6(fs:List FT)(ft:FT):List Nat→Prop
 | []=>True
 | i :: r=>FT.indep (fs.getD i (.ops [] [])) ft∧O6 fs ft r
def R9(P:Program)(base:Nat):List Af→List FT→(AY→Prop)→List Aa→Mem→Prop
 | [],_,K,t,m=>K ⟨t,m⟩
 | o :: r,fs,K,t,m=>
  match T7 t o.guard with
  | some false=>R9 P base r (fs++[.ops [] []]) K (put t o.dst Ag) m
  | some true=>
   match o.op with
   | .call f xs=>match callee t f xs with
    | some (g,args)=>∃ wl x v m',MX P g args (base+fs.length) x m v m' wl∧O6 fs (.call wl x m.next) o.un∧R9 P base r (fs++[.call wl x m.next]) K (put t o.dst v) m'
    | none=>False
   | op=>match Z5 (base+fs.length) t m op with
    | some (v,m')=>O6 fs (.ops (T8 (base+fs.length) t op) (L4 t op)) o.un∧R9 P base r (fs++[.ops (T8 (base+fs.length) t op) (L4 t op)]) K (put t o.dst v) m'
    | none=>False
  | none=>False
def SF(next:AY→Prop)(Q:Exit→AY→Prop):Exit→AY→Prop
 | .normal,σ=>next σ
 | e,σ=>Q e σ
def Hu(id:Nat)(Q:Exit→AY→Prop):Exit→AY→Prop
 | .exit id',σ=>if id'=id then Q .normal σ else Q (.exit id') σ
 | e,σ=>Q e σ
def Sn(Q:Exit→AY→Prop):Exit→AY→Prop
 | .goto _,_=>False
 | e,σ=>Q e σ
def BU(P:Program):An→(Exit→AY→Prop)→AY→Prop
 | .skip,Q,σ=>Q .normal σ
 | .region false ops,Q,σ=>N9 P σ.m.next ops 0 (Q .normal) σ.t (σ.m.at (σ.m.next+ops.length))
 | .region true ops,Q,σ=>R9 P σ.m.next ops [] (Q .normal) σ.t (σ.m.at (σ.m.next+ops.length))
 | .seq a b,Q,σ=>BU P a (SF (BU P b Q) Q) σ
 | .cond c a b,Q,σ=>match ev σ.t c with
  | .bool true=>BU P a Q σ
  | .bool false=>BU P b Q σ
  | _=>False
 | .block id c,Q,σ=>BU P c (Hu id Q) σ
 | .loop c,Q,σ=>∃ (I:Nat→AY→Prop),(∃ n GG,AY.EF GG σ∧I n GG) ∧ ∀ n σ1,I n σ1→BU P c (SF (fun σ'=>∃ k GG,k<n∧AY.EF GG σ'∧I k GG) Q) σ1
 | .exit id,Q,σ=>Q (.exit id) σ
 | .scope c,Q,σ=>BU P c (Sn Q) σ
 | .label _,Q,σ=>Q .normal σ
 | .ret,Q,σ=>Q .ret σ
 | .bad,_,_=>False
def J7(W:AA)(Φ:Ao)(ρ:AD)(n:Nat)(Q:Exit→AY→Prop)(e:Exit)(a:Act)(w:World):Prop:=
 ∃ σ Ar ρ',Ext Φ ρ Ar ρ'∧BI n ρ ρ'∧n≤σ.m.next∧Rel W Ar ρ' σ.m w∧RL Ar ρ' σ.t a.tmps∧a.defers=[]∧Q e σ
def DI(P:Program)(c:Code)(Q:Exit→AY→Prop)(σ:AY):Prop:=
 ∀(W:AA) (Φ:Ao) (ρ:AD) (a:Act) (w:World),Rel W Φ ρ σ.m w→RL Φ ρ σ.t a.tmps→a.defers=[]→c.wp P (J7 W Φ ρ σ.m.next Q) a w
end Go.AE
end
section
namespace Go.AE
open Go.RowKit
def D6(get:Nat→Option Ai):Aa→Option (List Aa×Nat)
 | .ptr b i j=>match get b with
  | some (.cells _ els)=>match els[i]? with
   | some row=>some (row,j)
   | none=>none
  | _=>none
 | .AW els i j=>match els[i]? with
  | some row=>some (row,j)
  | none=>none
 | _=>none
def J3(get:Nat→Option Ai)(n:Option Nat)(x:Aa):Option Aa:=
 match D6 get x with
 | some (row,j)=>match n with
  | none=>row[j]?
  | some n=>if 0<n∧j+n≤row.length then some (.agg ((row.drop j).take n))else none
 | none=>none
def F0(get:Nat→Option Ai)(n:Nat)(x v:Aa):Option (List (Nat×Option Ai)):=
 match x,v.cells with
 | .ptr b i j,some cs=>match get b with
  | some (.cells k els)=>match els[i]? with
   | some row=>if cs.length=n∧j+n≤row.length∧cs.all Aa.one then some [(b,some (.cells k (els.set i (M3 row j cs))))]else none
   | none=>none
  | _=>none
 | _,_=>none
def LS(get:Nat→Option Ai)(k:Nat):Aa→Option (List (List Aa))
 | .Ae | .emp=>some []
 | .Aj els=>if els.all (·.length == k)then some els else none
 | .sl b off len=>match get b with
  | some (.cells k' els)=>if k'=k∧off+len≤els.length then some ((els.drop off).take len)else none
  | _=>if len=0 then some []else none
 | _=>none
def C0(get:Nat→Option Ai)(k:Nat):Aa→Option (List (List Aa))
 | .str s=>if k=1 then some (s.map Vv)else none
 | x=>LS get k x
def Na(e:Ah→Aa)(d:Nat):Option Ah→Option Nat
 | none=>some d
 | some x=>P0 (e x)
def L1(id k bytes:Nat)(get:Nat→Option Ai)(s:Aa)(xs:List (List Aa)):Option (Aa×List (Nat×Option Ai)):=
 match s with
 | .Ae=>if xs=[]then some (.Ae,[])else if xs.length≤T5∧bytes≤T5 then some (.sl id 0 xs.length,[(id,some (.cells k xs))])else none
 | .emp=>if xs=[]then some (.emp,[])else if xs.length≤T5∧bytes≤T5 then some (.sl id 0 xs.length,[(id,some (.cells k xs))])else none
 | .sl b off len=>match get b with
  | some (.cells k' els)=>
   if k'=k∧off+len≤els.length∧(els.length=off+len∨off+len+xs.length≤els.length)then
    if off+len+xs.length≤els.length then
     some (.sl b off (len+xs.length),[(b,some (.cells k (els.take (off+len)++xs++els.drop (off+len+xs.length))))])
    else if len+xs.length≤T5∧bytes≤T5 then
     some (.sl id 0 (len+xs.length),[(b,none),(id,some (.cells k ((els.drop off).take len++xs)))])
    else none
   else none
  | _=>none
 | _=>none
def E2(e:Ah→Aa)(len Eo:Nat)(lo hi:Option Ah):Option (Nat×Nat):=
 match Na e len hi with
 | some h=>if h≤Eo then match Na e 0 lo with
  | some l=>if l≤h then some (l,h)else none
  | none=>none
  else none
 | none=>none
def Y6(id:Nat)(e:Ah→Aa)(get:Nat→Option Ai):AU→Option (Aa×List (Nat×Option Ai))
 | .Fz x=>some (e x,[])
 | .pick c a b=>match e c with
  | .bool true=>some (e a,[])
  | .bool false=>some (e b,[])
  | _=>none
 | .box x=>match (e x).cells with
  | some cs=>if cs.all Aa.one then some (.ptr id 0 0,[(id,some (.cells cs.length [cs]))])else none
  | none=>none
 | .alloc zero=>some (.ptr id 0 0,[(id,some (.cells zero.length [zero]))])
 | .build zero parts=>match J5 zero (parts.map fun p=>(p.1,p.2.1,e p.2.2))with
  | some cs=>some (.agg cs,[])
  | none=>none
 | .CO k len zero parts=>match I5 k (List.replicate len zero) (parts.map fun p=>(p.1,e p.2))with
  | some els=>some (.sl id 0 len,[(id,some (.cells k els))])
  | none=>none
 | .load n x=>match J3 get n (e x)with
  | some v=>some (v,[])
  | none=>none
 | .store n a x=>match F0 get n (e a) (e x)with
  | some d=>some (Ag,d)
  | none=>none
 | .Cd x=>match e x with
  | .ptr b i j=>some (.ptr b i j,[])
  | .AW els i j=>some (.AW els i j,[])
  | .func (.func f) a b=>some (.func (.func f) a b,[])
  | _=>none
 | .bin op q x y=>match U6 op q (e x) (e y)with
  | some v=>some (v,[])
  | none=>none
 | .un op x=>match Fo op (e x)with
  | some v=>some (v,[])
  | none=>none
 | .CA k x=>match e x with
  | .int _ n=>some (.int k (k.wrap n),[])
  | _=>none
 | .Dk x=>match e x with
  | .str s=>some (.str s,[])
  | _=>none
 | .toStr x=>match LS get 1 (e x)with
  | some rows=>match LR rows with
   | some s=>some (.str s,[])
   | none=>none
  | none=>none
 | .CW fn first captured=>some (.func fn (first.map e) (captured.map e),[])
 | .mkMap=>some (.map id,[(id,some (.map [] 0))])
 | .Cb k bytes zero len cap=>match P0 (e len),P0 (e cap)with
  | some l,some c=>if l≤c∧c≤T5∧bytes≤T5 then some (.sl id 0 l,[(id,some (.cells k (List.replicate c zero)))])else none
  | _,_=>none
 | .Es x lo hi=>match e x with
  | .str s=>match E2 e s.length s.length lo hi with
   | some (l,h)=>some (.str ((s.take h).drop l),[])
   | none=>none
  | _=>none
 | .DU k x lo hi mx=>match mx with
  | some z=>match I4 (e x),Na e 0 (some z),Na e 0 lo,hi with
   | some n,some mx,some l,some h=>match P0 (e h)with
    | some h=>if l≤h∧h≤mx∧mx≤n then (if mx=0 then some (.emp,[])else some (.bot,[]))else none
    | none=>none
   | _,_,_,_=>none
  | none=>match e x with
   | .Ae=>match E2 e 0 0 lo hi with
    | some _=>some (.Ae,[])
    | none=>none
   | .emp=>match E2 e 0 0 lo hi with
    | some _=>some (.emp,[])
    | none=>none
   | .Aj els=>if els.all (·.length == k)then match E2 e els.length els.length lo hi with
    | some (l,h)=>some (.Aj ((els.take h).drop l),[])
    | none=>none
    else none
   | .sl b off len=>match get b with
    | some (.cells k' els)=>if k'=k∧off+len≤els.length then match E2 e len (els.length - off) lo hi with
     | some (l,h)=>some (.sl b (off+l) (h - l),[])
     | none=>none
     else none
    | _=>none
   | _=>none
 | .Cl ..=>none
 | .Bw off x=>match G7 off (e x)with
  | some v=>some (v,[])
  | none=>none
 | .field off n x=>match e x with
  | .agg cs=>match D3 cs off n with
   | some v=>some (v,[])
   | none=>none
  | _=>none
 | .BZ k x i=>match e x,P0 (e i)with
  | .sl b off len,some i=>match get b with
   | some (.cells k' _)=>if k'=k∧i<len then some (.ptr b (off+i) 0,[])else none
   | _=>none
  | .Aj els,some i=>match els[i]? with
   | some row=>if row.length=k then some (.AW els i 0,[])else none
   | none=>none
  | _,_=>none
 | .DW n k x i=>match P0 (e i)with
  | some i=>if i<n then match G7 (i*k) (e x)with
   | some v=>some (v,[])
   | none=>none
   else none
  | none=>none
 | .Dn x i=>match e x,P0 (e i)with
  | .str s,some i=>match s[i]? with
   | some c=>some (.int .u8 c.toNat,[])
   | none=>none
  | _,_=>none
 | .CV n k sz x i=>match e x,P0 (e i)with
  | .agg cs,some i=>if i<n then match D3 cs (i*k) sz with
   | some v=>some (v,[])
   | none=>none
   else none
  | _,_=>none
 | .lookup kt zero ok x i=>match (match e x with
  | .Av=>some []
  | .map b=>match get b with
   | some (.map es _)=>some es
   | _=>none
  | _=>none)with
  | some es=>match L3 kt (e i) es with
   | some r=>
    let v:=match r with
     | some (_,v,_)=>v
     | none=>zero
    some (if ok then .tuple [v,.bool r.isSome]else v,[])
   | none=>none
  | none=>none
 | .Bx kt mp k v=>match e mp with
  | .map b=>match get b with
   | some (.map es clock)=>match L3 kt (e k) es with
    | some (some (i,_,born))=>some (Ag,[(b,some (.map (es.set i (e k,e v,born)) clock))])
    | some none=>some (Ag,[(b,some (.map (es++[(e k,e v,clock)]) (clock+1)))])
    | none=>none
   | _=>none
  | _=>none
 | .En ..=>none
 | .Ft ..=>none
 | .delete ..=>none
 | .range _=>none
 | .BL _=>none
 | .Cc _=>none
 | .ext x i=>match e x with
  | .tuple vs=>match vs[i]? with
   | some v=>some (v,[])
   | none=>none
  | _=>none
 | .call _ _=>none
 | .append k bytes _ s x=>match C0 get k (e x)with
  | some xs=>L1 id k bytes get (e s) xs
  | none=>none
 | .CX ..=>none
 | .copy k d s=>match e d,C0 get k (e s)with
  | .sl b off len,some xs=>match get b with
   | some (.cells k' els)=>if k'=k∧off+len≤els.length then
    let n:=min xs.length len
    some (.int .i64 n,[(b,some (.cells k (els.take off++xs.take n++els.drop (off+n))))])
    else none
   | _=>none
  | _,_=>none
 | .clear k zero x=>match e x with
  | .sl b off len=>match get b with
   | some (.cells k' els)=>if k'=k∧off+len≤els.length then
    some (Ag,[(b,some (.cells k (els.take off++List.replicate len zero++els.drop (off+len))))])
    else none
   | _=>none
  | .Ae=>some (Ag,[])
  | .emp=>some (Ag,[])
  | _=>none
 | .Dr x=>match e x with
  | .str s=>some (.int .i64 s.length,[])
  | _=>none
 | .Ca x=>match I4 (e x)with
  | some n=>some (.int .i64 n,[])
  | none=>none
 | .Cp x=>match e x with
  | .Av=>some (.int .i64 0,[])
  | .map b=>match get b with
   | some (.map es _)=>some (.int .i64 es.length,[])
   | _=>none
  | _=>none
 | .Dq n=>some (.int .i64 n,[])
 | .El _=>none
 | .Cq mx xs=>match xs with
  | []=>none
  | x :: r=>match LO mx (e x) (r.map e)with
   | some v=>some (v,[])
   | none=>none
 | .iface ty x=>some (.iface ty (e x),[])
 | .dead=>none
def Mem.apply(m:Mem):List (Nat×Option Ai)→Mem
 | []=>m
 | (b,some x) :: r=>(m.set b x).apply r
 | (b,none) :: r=>(m.del b).apply r
section
variable {m:Mem} {t:List Aa} {id:Nat}
theorem Zh(n:Option Nat)(x:Aa):LC m n x=J3 m.get n x:=by rfl
theorem Zzl(k:Nat)(x:Aa):H3 m k x=LS m.get k x:=by cases x<;>rfl
theorem tG(k:Nat)(x:Aa):M9 m k x=C0 m.get k x:=by rfl
theorem Z1x(d:Nat)(o:Option Ah):I1 t d o=Na (ev t) d o:=by cases o<;>rfl
theorem xN(n mx:Nat)(lo hi:Option Ah):L9 t n mx lo hi=E2 (ev t) n mx lo hi:=by
 rfl
theorem Z1g{n:Nat}{x v:Aa}{d:List (Nat×Option Ai)}(h:F0 m.get n x v=some d):LN m n x v=some (m.apply d):=by
 cases x<;>simp only[F0]at h<;>first|(cases h; done)|skip
 rename_i b i j;cases hc:v.cells with
 | none=>simp[hc]at h
 | some cs=>
  simp only[hc]at h;cases hg:m.get b with
  | none=>simp[hg]at h
  | some blk=>
   cases blk<;>simp only[hg]at h<;>first|(cases h; done)|skip
   rename_i k els;cases hr:els[i]? with
   | none=>simp[hr]at h
   | some row=>
    simp only[hr]at h;split at h<;>first|(cases h; done)|skip
    rename_i hcond;injection h with h
    subst h;simp only[LN,hc,hg,hr];rw[iP hcond];rfl
theorem Zzj{k bytes:Nat}{s:Aa}{xs:List (List Aa)}{r:Aa}{d:List (Nat×Option Ai)}(h:L1 id k bytes m.get s xs=some (r,d)):J2 id k bytes m s xs=some (r,m.apply d):=by
 cases s<;>simp only[L1]at h<;>first|(cases h; done)|skip
 ·split at h
  ·rename_i h0;cases h;simp only[J2,h0,if_true,Mem.apply]
  ·rename_i h0;split at h<;>first|(cases h; done)|skip
   rename_i h1;cases h;simp only[J2,h0,if_false];rw[iP h1];rfl
 ·split at h
  ·rename_i h0;cases h;simp only[J2,h0,if_true,Mem.apply]
  ·rename_i h0;split at h<;>first|(cases h; done)|skip
   rename_i h1;cases h;simp only[J2,h0,if_false];rw[iP h1];rfl
 ·rename_i b off len;cases hg:m.get b with
  | none=>simp[hg]at h
  | some blk=>
   cases blk<;>simp only[hg]at h<;>first|(cases h; done)|skip
   rename_i k' els;split at h<;>first|(cases h; done)|skip
   rename_i hc;simp only[J2,hg];rw[iP hc];split at h
   ·rename_i h1;rw[iP h1];cases h;rfl
   ·rename_i h1;rw[iN h1];split at h<;>first|(cases h; done)|skip
    rename_i h2;rw[iP h2];cases h;rfl
theorem OF{op:AU}{v:Aa}{d:List (Nat×Option Ai)}(h:Y6 id (ev t) m.get op=some (v,d)):Z5 id t m op=some (v,m.apply d):=by
 cases op with
 | store n a x=>
  simp only[Y6]at h;split at h<;>first|(cases h; done)|skip
  rename_i d' hd;cases h;simp only[Z5,Z1g hd]
 | append k bytes z s x=>
  simp only[Y6]at h;split at h<;>first|(cases h; done)|skip
  rename_i xs hxs;simp only[Z5,tG,hxs];exact Zzj h
 | lookup kt z ok x i=>
  simp only[Y6]at h;simp only[Z5];generalize ev t x=y at *;cases y<;>simp only at h ⊢ <;> first|(cases h; done)|skip
  case map b=>
   cases hg:m.get b with
   | none=>simp[hg]at h
   | some blk=>
    cases blk<;>simp only[hg]at h ⊢ <;> first|(cases h; done)|skip
    split at h<;>first|(cases h; done)|skip
    rename_i hf;cases h;simp only[hf,Mem.apply];rfl
  all_goals
   split at h<;>first|(cases h; done)|skip
   rename_i hf;cases h;simp only[hf,Mem.apply];rfl
 | _=>
  simp only[Y6]at h
  first
   | (cases h; done)
   | (cases h; rfl)
   | ((repeat' (split at h<;>first|(cases h; done)|skip))<;>(cases h; simp_all[Z5,Mem.apply,Zh,Zzl,tG,xN,Z1x]; try omega))
end
end Go.AE
end
