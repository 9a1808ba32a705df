/- Part 1 of the proof: AeA, AeB, AeC, AeD, AeE, AeF, AeG, AeH, AeI, AeJ, AeK, AeL, AeM, AeN, AeO, AeP, AeQ, AeR, AeS, AeLoc, AeT, AeU, AeFr. -/
import Derived.WalkKit
import Derived.Deep.LoopGhost
import Derived.Scope
import Derived.Laws.StructEq
import Derived.Lib.Strings
import Derived.IntWalk
import Derived.Laws.Small
set_option linter.all false
theorem oI{α}{a b:α}:(some a=some b)=(a=b):=Option.some.injEq a b
theorem pI2{α β}{a c:α}{b d:β}:((a,b)=(c,d))=(a=c∧b=d):=Prod.mk.injEq a b c d
theorem gE{α}{l:List α}{i:Nat}(h:i<l.length):l[i]?=some l[i]:=List.getElem?_eq_getElem h
theorem gS{α}{l:List α}{i:Nat}{a:α}:l[i]?=some a↔∃ h:i<l.length,l[i]=a:=List.getElem?_eq_some_iff
theorem bA(a b:Bool):((a&&b)=true)=(a=true∧b=true):=Bool.and_eq_true a b
theorem bF:(false=true)=False:=Bool.false_eq_true
section
namespace Go.AE
open Go.RowKit
inductive AVal where
 | bool (b:Bool)
 | int (k:IntKind) (n:Int)
 | str (s:List UInt8)
 | ptr (b i j:Nat)
 | iptr (els:List (List AVal)) (i j:Nat)
 | nilPtr
 | nilSl
 | emp
 | sl (b off len:Nat)
 | imm (els:List (List AVal))
 | map (b:Nat)
 | nilMap
 | func (fn:Fn) (first captured:List AVal)
 | nilFunc
 | yld (b:Nat)
 | atLeast (n:Nat)
 | iface (t:TypeId) (v:AVal)
 | nilIface
 | agg (cs:List AVal)
 | tuple (vs:List AVal)
 | bot
 deriving Inhabited
inductive ABlk where
 | cells (k:Nat) (els:List (List AVal))
 | map (es:List (AVal×AVal×Nat)) (clock:Nat)
 | siter (s:List UInt8) (pos:Nat)
 | miter (m:Option Nat) (since:Nat) (seen:List Nat) (stepped:Nat)
 deriving Inhabited
structure Mem where
 get:Nat→Option ABlk
 next:Nat
@[ext] theorem Mem.ext'{m m' : Mem}(h1 : ∀ b, m.get b = m'.get b)(h2 : m.next = m'.next) : m = m' := by
 cases m; cases m'; simp only[Mem.mk.injEq]; exact⟨funext h1,h2⟩
def Mem.set(m:Mem)(b:Nat)(x:ABlk):Mem:={ m with get:=fun c=>if c=b then some x else m.get c }
def Mem.del(m:Mem)(b:Nat):Mem:={ m with get:=fun c=>if c=b then none else m.get c }
def Mem.at(m:Mem)(n:Nat):Mem:={ m with next:=n }
@[simp] theorem Mem.get_set(m : Mem)(b c : Nat)(x : ABlk) : (m.set b x).get c = if c = b then some x else m.get c := rfl
@[simp] theorem Mem.get_del(m : Mem)(b c : Nat) : (m.del b).get c = if c = b then none else m.get c := rfl
@[simp] theorem Mem.get_at(m : Mem)(n c : Nat) : (m.at n).get c = m.get c := rfl
@[simp] theorem Mem.next_set(m : Mem)(b : Nat)(x : ABlk) : (m.set b x).next = m.next := rfl
@[simp] theorem Mem.next_del(m : Mem)(b : Nat) : (m.del b).next = m.next := rfl
@[simp] theorem Mem.next_at(m : Mem)(n : Nat) : (m.at n).next = n := rfl
@[simp] theorem Mem.at_at(m : Mem)(n k : Nat) : (m.at n).at k = m.at k := rfl
@[simp] theorem Mem.at_next(m : Mem) : m.at m.next = m := rfl
abbrev Pers:=Nat→Option (Array Value)
structure Loc where
 blk:Nat
 sh:Nat
 k:Nat
 n:Nat
abbrev Rho:=Nat→Option Loc
inductive R (Φ:Pers) (ρ:Rho):AVal→Value→Prop where
 | bool (b:Bool):R Φ ρ (.bool b) (.bool b)
 | int (k:IntKind) (n:Int):R Φ ρ (.int k n) (.int k n)
 | str (s:List UInt8):R Φ ρ (.str s) (.string ⟨⟨s⟩⟩)
 | ptr (b i j:Nat) (l:Loc) (h:ρ b=some l):R Φ ρ (.ptr b i j) (.pointer (some ⟨l.blk,(l.sh+i)*l.k+j,none⟩))
 | iptr (els:List (List AVal)) (i j B o k:Nat) (c:Array Value) (f:Nat→Nat→Value) (hB:Φ B=some c)
  (hk:∀ (i:Nat) (row:List AVal),els[i]? = some row→row.length=k)
  (hc:∀ (i:Nat) (row:List AVal) (j:Nat) (x:AVal),els[i]? = some row→row[j]? = some x→c[o+i*k+j]? = some (f i j)∧(f i j).oneCell'=true)
  (hr:∀ (i:Nat) (row:List AVal) (j:Nat) (x:AVal),els[i]? = some row→row[j]? = some x→R Φ ρ x (f i j)) :
  R Φ ρ (.iptr els i j) (.pointer (some ⟨B,o+i*k+j,none⟩))
 | nilPtr:R Φ ρ .nilPtr (.pointer none)
 | nilSl:R Φ ρ .nilSl (.slice none 0 0)
 | emp (a:Option Addr):R Φ ρ .emp (.slice a 0 0)
 | sl (b off len:Nat) (a:Option Addr) (cap:Nat) (l:Loc) (h:ρ b=some l) (hl:len≤cap) (hn:l.sh+off+cap=l.n)
  (hc:0<cap→a=some ⟨l.blk,(l.sh+off)*l.k,none⟩) (ha:a.isSome=true):R Φ ρ (.sl b off len) (.slice a len cap)
 | imm0 (a:Option Addr) (cap:Nat) (h:0<cap → ∃ B o,a=some ⟨B,o,none⟩):R Φ ρ (.imm []) (.slice a 0 cap)
 | imm (els:List (List AVal)) (B o k cap:Nat) (c:Array Value) (f:Nat→Nat→Value) (hne:els≠[]) (hcap:els.length≤cap) (hB:Φ B=some c)
  (hk:∀ (i:Nat) (row:List AVal),els[i]? = some row→row.length=k)
  (hc:∀ (i:Nat) (row:List AVal) (j:Nat) (x:AVal),els[i]? = some row→row[j]? = some x→c[o+i*k+j]? = some (f i j)∧(f i j).oneCell'=true)
  (hr:∀ (i:Nat) (row:List AVal) (j:Nat) (x:AVal),els[i]? = some row→row[j]? = some x→R Φ ρ x (f i j)) :
  R Φ ρ (.imm els) (.slice (some ⟨B,o,none⟩) els.length cap)
 | map (b:Nat) (l:Loc) (h:ρ b=some l):R Φ ρ (.map b) (.map (some l.blk))
 | nilMap:R Φ ρ .nilMap (.map none)
 | func (fn:Fn) (fs cs:List AVal) (vf vc:Array Value) (hf:vf.size=fs.length) (hc:vc.size=cs.length)
  (hfr:∀ (i:Nat) (x:AVal) (v:Value),fs[i]? = some x→vf[i]? = some v→R Φ ρ x v) (hcr:∀ (i:Nat) (x:AVal) (v:Value),cs[i]? = some x→vc[i]? = some v→R Φ ρ x v) :
  R Φ ρ (.func fn fs cs) (.func fn vf vc)
 | nilFunc:R Φ ρ .nilFunc .nilFunc
 | yld (b:Nat) (l:Loc) (h:ρ b=some l):R Φ ρ (.yld b) (.func (.yield l.blk) #[] #[])
 | atLeast (n c:Nat) (h:n≤c):R Φ ρ (.atLeast n) (.int .i64 c)
 | iface (t:TypeId) (x:AVal) (v:Value) (h:R Φ ρ x v):R Φ ρ (.iface t x) (.iface t v)
 | nilIface:R Φ ρ .nilIface .nilIface
 | agg (cs:List AVal) (vs:Array Value) (hs:vs.size=cs.length) (hr:∀ (i:Nat) (x:AVal) (v:Value),cs[i]? = some x→vs[i]? = some v→R Φ ρ x v):R Φ ρ (.agg cs) (.agg vs)
 | tuple (cs:List AVal) (vs:Array Value) (hs:vs.size=cs.length) (hr:∀ (i:Nat) (x:AVal) (v:Value),cs[i]? = some x→vs[i]? = some v→R Φ ρ x v):R Φ ρ (.tuple cs) (.tuple vs)
 | bot (v:Value):R Φ ρ .bot v
def RL(Φ:Pers)(ρ:Rho)(xs:List AVal)(vs:Array Value):Prop:=vs.size=xs.length ∧ ∀(i:Nat) (x:AVal) (v:Value),xs[i]? = some x→vs[i]? = some v→R Φ ρ x v
structure Ext (Φ:Pers) (ρ:Rho) (Φ':Pers) (ρ':Rho):Prop where
 pers:∀ B c,Φ B=some c→Φ' B=some c
 rho:∀ b l,ρ b=some l→ρ' b=some l
theorem Ext.refl(Φ:Pers)(ρ:Rho):Ext Φ ρ Φ ρ:=⟨fun _ _ h=>h,fun _ _ h=>h⟩
theorem Ext.trans{Φ Φ' Φ'':Pers}{ρ ρ' ρ'':Rho}(h:Ext Φ ρ Φ' ρ')(h':Ext Φ' ρ' Φ'' ρ''):Ext Φ ρ Φ'' ρ'':=
 ⟨fun B c x=>h'.pers B c (h.pers B c x),fun b l x=>h'.rho b l (h.rho b l x)⟩
theorem R.ext{Φ Φ':Pers}{ρ ρ':Rho}(he:Ext Φ ρ Φ' ρ'){x:AVal}{v:Value}(h:R Φ ρ x v):R Φ' ρ' x v:=by
 induction h with
 | bool b=>exact .bool b
 | int k n=>exact .int k n
 | str s=>exact .str s
 | ptr b i j l h=>exact .ptr b i j l (he.rho _ _ h)
 | iptr els i j B o k c f hB hk hc _ ih=>exact .iptr els i j B o k c f (he.pers _ _ hB) hk hc ih
 | nilPtr=>exact .nilPtr
 | nilSl=>exact .nilSl
 | emp a=>exact .emp a
 | sl b off len a cap l h hl hn hc ha=>exact .sl b off len a cap l (he.rho _ _ h) hl hn hc ha
 | imm0 a cap h=>exact .imm0 a cap h
 | imm els B o k cap c f hne hcap hB hk hc _ ih=>exact .imm els B o k cap c f hne hcap (he.pers _ _ hB) hk hc ih
 | map b l h=>exact .map b l (he.rho _ _ h)
 | nilMap=>exact .nilMap
 | func fn fs cs vf vc hf hc _ _ ih1 ih2=>exact .func fn fs cs vf vc hf hc ih1 ih2
 | nilFunc=>exact .nilFunc
 | yld b l h=>exact .yld b l (he.rho _ _ h)
 | atLeast n c h=>exact .atLeast n c h
 | iface t x v _ ih=>exact .iface t x v ih
 | nilIface=>exact .nilIface
 | agg cs vs hs _ ih=>exact .agg cs vs hs ih
 | tuple cs vs hs _ ih=>exact .tuple cs vs hs ih
 | bot v=>exact .bot v
theorem RL.ext{Φ Φ':Pers}{ρ ρ':Rho}(he:Ext Φ ρ Φ' ρ'){xs:List AVal}{vs:Array Value}(h:RL Φ ρ xs vs):RL Φ' ρ' xs vs:=
 ⟨h.1,fun i x v hx hv=>(h.2 i x v hx hv).ext he⟩
def RowsIn(Φ:Pers)(ρ:Rho)(els:List (List AVal))(sh k:Nat)(c:Array Value):Prop:=
 (∀(i:Nat) (row:List AVal),els[i]? = some row→row.length=k) ∧
 ∀(i:Nat) (row:List AVal) (j:Nat) (x:AVal),els[i]? = some row→row[j]? = some x → ∃ v,c[(sh+i)*k+j]? = some v∧v.oneCell'=true∧R Φ ρ x v
inductive BR (Φ:Pers) (ρ:Rho):ABlk→Loc→Obj→Prop where
 | cells (k:Nat) (els:List (List AVal)) (l:Loc) (c:Array Value) (e:TypeId) (hk:l.k=k) (hn:c.size=l.n*k) (hl:l.sh+els.length≤l.n)
  (hr:RowsIn Φ ρ els l.sh k c) (h1:∀ v,v∈c.toList→v.oneCell'=true):BR Φ ρ (.cells k els) l (.cells c e (0,0))
 | map (es:List (AVal×AVal×Nat)) (clock:Nat) (l:Loc) (en:Array MapEntry) (hs:en.size=es.length)
  (hr:∀ (i:Nat) (x:AVal×AVal×Nat),es[i]? = some x → ∃ y:MapEntry,en[i]? = some y∧R Φ ρ x.1 y.key∧R Φ ρ x.2.1 y.val∧y.born=x.2.2):BR Φ ρ (.map es clock) l (.map en clock)
 | siter (s:List UInt8) (pos:Nat) (l:Loc):BR Φ ρ (.siter s pos) l (.stringIter ⟨⟨s⟩⟩ pos)
 | miter0 (since:Nat) (seen:List Nat) (stepped:Nat) (l:Loc):BR Φ ρ (.miter none since seen stepped) l (.mapIter none since seen.toArray stepped)
 | miter (m:Nat) (lm:Loc) (since:Nat) (seen:List Nat) (stepped:Nat) (l:Loc) (h:ρ m=some lm) (h0:l.sh*l.k=0) :
  BR Φ ρ (.miter (some m) since seen stepped) l (.mapIter (some lm.blk) since seen.toArray stepped)
theorem RowsIn.ext{Φ Φ':Pers}{ρ ρ':Rho}(he:Ext Φ ρ Φ' ρ'){els:List (List AVal)}{sh k:Nat}{c:Array Value}(h:RowsIn Φ ρ els sh k c):RowsIn Φ' ρ' els sh k c:=
 ⟨h.1,fun i row j x h1 h2=>let ⟨v,h3,h5,h4⟩:=h.2 i row j x h1 h2; ⟨v,h3,h5,h4.ext he⟩⟩
theorem BR.ext{Φ Φ':Pers}{ρ ρ':Rho}(he:Ext Φ ρ Φ' ρ'){x:ABlk}{l:Loc}{o:Obj}(h:BR Φ ρ x l o):BR Φ' ρ' x l o:=by
 cases h with
 | cells k els l c e hk hn hl hr h1=>exact .cells k els l c e hk hn hl (hr.ext he) h1
 | map es clock l en hs hr=>exact .map es clock l en hs fun i x hx=>let ⟨y,h1,h2,h3,h4⟩:=hr i x hx; ⟨y,h1,h2.ext he,h3.ext he,h4⟩
 | siter s pos l=>exact .siter s pos l
 | miter0 a b c l=>exact .miter0 a b c l
 | miter m lm a b c l h h0=>exact .miter m lm a b c l (he.rho _ _ h) h0
structure Base where
 w:World
 g:Nat→Option Obj
 p:Pers
def Base.Free(W:Base)(B:Nat):Prop:=W.w.heap.size≤B∧W.g B=none
structure Base.Holds (W:Base) (w:World):Prop where
 below:Below W.w.heap.size W.w w
 prot:∀ B o,W.g B=some o→w.heap[B]? = some o
theorem B7{w:World}{B:Nat}{o:Obj}(h:w.heap[B]? = some o):B<w.heap.size:=by
 rcases Nat.lt_or_ge B w.heap.size with h'|h'
 ·exact h'
 ·rw[Array.getElem?_eq_none h']at h; cases h
theorem Base.Holds.trans{W:Base}{w w':World}(h:W.Holds w)(hb:Below w.heap.size w w'):W.Holds w':=
 ⟨h.below.trans (hb.mono h.below.size),fun B o hB=>by
  have ho:=h.prot B o hB;rw[hb.block B (B7 ho)]; exact ho⟩
theorem Base.Holds.drew{W:Base}{w:World}(h:W.Holds w):W.Holds w.drew:=⟨h.below.drew,h.prot⟩
structure Rel (W:Base) (Φ:Pers) (ρ:Rho) (m:Mem) (w:World):Prop where
 base:W.Holds w
 pers:∀ B c,Φ B=some c → ∃ e fz,w.heap[B]? = some (.cells c e fz)
 live:∀ b x,m.get b=some x → ∃ l o,ρ b=some l∧W.Free l.blk∧Φ l.blk=none∧w.heap[l.blk]? = some o∧BR Φ ρ x l o
 inj:∀ b b' x x' l l',m.get b=some x→m.get b'=some x'→ρ b=some l→ρ b'=some l'→l.blk=l'.blk→b=b'
 fresh:∀ b l,ρ b=some l→b<m.next
 newp:∀ B c,Φ B=some c→W.p B=some c∨W.Free B
theorem Rel.drew{W:Base}{Φ:Pers}{ρ:Rho}{m:Mem}{w:World}(h:Rel W Φ ρ m w):Rel W Φ ρ m w.drew:=
 ⟨h.base.drew,h.pers,h.live,h.inj,h.fresh,h.newp⟩
theorem Rel.below{W:Base}{Φ:Pers}{ρ:Rho}{m:Mem}{w w':World}(h:Rel W Φ ρ m w)(hb:Below w.heap.size w w'):Rel W Φ ρ m w':=by
 have hlt:∀ (B:Nat) (o:Obj),w.heap[B]? = some o→w'.heap[B]? = some o:=fun B o ho=>by
  have hB:B<w.heap.size:=by
   rcases Nat.lt_or_ge B w.heap.size with h'|h'
   ·exact h'
   ·rw[Array.getElem?_eq_none h']at ho; cases ho
  rw[hb.block B hB]; exact ho
 refine⟨h.base.trans hb,fun B c hB=>?_,fun b x hx=>?_,h.inj,h.fresh,h.newp⟩
 ·obtain⟨e,fz,ho⟩:=h.pers B c hB;exact⟨e,fz,hlt _ _ ho⟩
 ·obtain⟨l,o,h1,h2,h3,h4,h5⟩:=h.live b x hx;exact⟨l,o,h1,h2,h3,hlt _ _ h4,h5⟩
structure Mem.Sub (m' m:Mem):Prop where
 get:∀ b x,m'.get b=some x→m.get b=some x
 next:m.next≤m'.next
theorem Mem.Sub.refl(m:Mem):Mem.Sub m m:=⟨fun _ _ h=>h,Nat.le_refl _⟩
theorem Mem.Sub.trans{a b c:Mem}(h:Mem.Sub a b)(h':Mem.Sub b c):Mem.Sub a c:=⟨fun d x hd=>h'.get d x (h.get d x hd),Nat.le_trans h'.next h.next⟩
theorem Rel.sub{W:Base}{Φ:Pers}{ρ:Rho}{m m':Mem}{w:World}(h:Rel W Φ ρ m w)(hs:Mem.Sub m' m):Rel W Φ ρ m' w:=
 ⟨h.base,h.pers,fun b x hx=>h.live b x (hs.get b x hx),fun b b' x x' l l' h1 h2=>h.inj b b' x x' l l' (hs.get _ _ h1) (hs.get _ _ h2),fun b l hb=>Nat.lt_of_lt_of_le (h.fresh b l hb) hs.next,h.newp⟩
theorem Rel.cut{W:Base}{Φ:Pers}{ρ:Rho}{m m':Mem}{w:World}(h:Rel W Φ ρ m w)(ρ0:Rho)(h0:∀ b l,ρ0 b=some l→ρ b=some l)(hf:∀ b l,ρ0 b=some l→b<m'.next)
 (hg:∀ b x,m'.get b=some x → ∃ l o,ρ0 b=some l∧W.Free l.blk∧Φ l.blk=none∧w.heap[l.blk]? = some o∧BR Φ ρ0 x l o)
 (hs:∀ b x,m'.get b=some x → ∃ x',m.get b=some x'):Rel W Φ ρ0 m' w:=
 ⟨h.base,h.pers,hg,fun b b' x x' l l' h1 h2 h3 h4=>by
  obtain⟨y,hy⟩:=hs b x h1;obtain⟨y',hy'⟩:=hs b' x' h2;exact h.inj b b' y y' l l' hy hy' (h0 _ _ h3) (h0 _ _ h4),hf,h.newp⟩
end Go.AE
end
section
namespace Go.AE
open Go.RowKit
inductive AOpd where
 | tmp (t:Nat)
 | const (v:AVal)
 | fn (f:FuncId)
 deriving Inhabited
inductive KeyT where
 | int
 | str
 | bool
 deriving DecidableEq,Inhabited
inductive EqT where
 | num
 | bool
 | slice
 | func
 | map
 | ptr
 | flat (ks:List KeyT)
 deriving Inhabited
inductive AOp where
 | mov (x:AOpd)
 | pick (c a b:AOpd)
 | box (x:AOpd)
 | alloc (zero:List AVal)
 | build (zero:List AVal) (parts:List (Nat×Nat×AOpd))
 | mkSl (k len:Nat) (zero:List AVal) (parts:List (Nat×AOpd))
 | load (n:Option Nat) (x:AOpd)
 | store (n:Nat) (a x:AOpd)
 | nilChk (x:AOpd)
 | bin (op:BinOp) (e:EqT) (x y:AOpd)
 | un (op:UnOp) (x:AOpd)
 | convInt (k:IntKind) (x:AOpd)
 | convId (x:AOpd)
 | toStr (x:AOpd)
 | mkFunc (fn:Fn) (first captured:List AOpd)
 | mkMap
 | makeSl (k bytes:Nat) (zero:List AVal) (len cap:AOpd)
 | slStr (x:AOpd) (lo hi:Option AOpd)
 | slSl (k:Nat) (x:AOpd) (lo hi mx:Option AOpd)
 | slArr (n k:Nat) (x:AOpd) (lo hi:Option AOpd)
 | fieldA (off:Nat) (x:AOpd)
 | field (off:Nat) (n:Option Nat) (x:AOpd)
 | idxA (k:Nat) (x i:AOpd)
 | idxAA (n k:Nat) (x i:AOpd)
 | idxStr (x i:AOpd)
 | idxArr (n k:Nat) (sz:Option Nat) (x i:AOpd)
 | lookup (kt:KeyT) (zero:AVal) (ok:Bool) (x i:AOpd)
 | mapUpd (kt:KeyT) (m k v:AOpd)
 | mapEnt (kt:KeyT) (zero:AVal) (m k:AOpd)
 | entSt (m s v:AOpd)
 | delete (kt:KeyT) (m k:AOpd)
 | range (x:AOpd)
 | nextS (x:AOpd)
 | nextM (x:AOpd)
 | ext (x:AOpd) (i:Nat)
 | call (f:AOpd) (args:List AOpd)
 | append (k bytes:Nat) (zero:List AVal) (s x:AOpd)
 | appendZ (k bytes:Nat) (zero:List AVal) (s x:AOpd)
 | copy (k:Nat) (d s:AOpd)
 | clear (k:Nat) (zero:List AVal) (x:AOpd)
 | lenStr (x:AOpd)
 | lenSl (x:AOpd)
 | lenMap (x:AOpd)
 | lenArr (n:Nat)
 | capSl (x:AOpd)
 | minmax (mx:Bool) (xs:List AOpd)
 | iface (t:TypeId) (x:AOpd)
 | dead
 deriving Inhabited
structure AOper where
 dst:Option Nat
 op:AOp
 guard:Option (Nat×Bool)
 un:List Nat
 deriving Inhabited
inductive ACode where
 | skip
 | region (draw:Bool) (ops:List AOper)
 | seq (a b:ACode)
 | cond (c:AOpd) (a b:ACode)
 | block (id:Nat) (c:ACode)
 | loop (c:ACode)
 | exit (id:Nat)
 | scope (c:ACode)
 | label (l:Nat)
 | ret
 | bad
 deriving Inhabited
structure AFn where
 ntmps:Nat
 results:List (Nat×Option (Option Nat))
 body:ACode
 deriving Inhabited
def AOp.opds:AOp→List AOpd
 | .mov x | .box x | .load _ x | .nilChk x | .un _ x | .convInt _ x | .convId x | .toStr x | .fieldA _ x | .field _ _ x | .range x | .nextS x | .nextM x | .ext x _ | .lenStr x | .lenSl x | .lenMap x | .iface _ x | .clear _ _ x | .capSl x=>[x]
 | .pick c a b=>[c,a,b]
 | .alloc _ | .mkMap | .lenArr _ | .dead=>[]
 | .build _ ps=>ps.map fun p=>p.2.2
 | .mkSl _ _ _ ps=>ps.map fun p=>p.2
 | .store _ a x | .bin _ _ a x | .makeSl _ _ _ a x | .idxA _ a x | .idxAA _ _ a x | .idxStr a x | .idxArr _ _ _ a x | .lookup _ _ _ a x | .mapEnt _ _ a x | .delete _ a x | .append _ _ _ a x | .appendZ _ _ _ a x | .copy _ a x=>[a,x]
 | .mkFunc _ a b=>a++b
 | .slStr x l h | .slArr _ _ x l h=>x :: (l.toList++h.toList)
 | .slSl _ x l h m=>x :: (l.toList++h.toList++m.toList)
 | .mapUpd _ a b c | .entSt a b c=>[a,b,c]
 | .call f xs=>f :: xs
 | .minmax _ xs=>xs
def AOp.kind:AOp→Nat
 | .mov _ | .pick _ _ _ | .build _ _ | .nilChk _ | .bin _ _ _ _ | .un _ _ | .convInt _ _ | .convId _ | .mkFunc _ _ _ | .slStr _ _ _ | .fieldA _ _ | .field _ _ _ | .idxAA _ _ _ _ | .idxStr _ _ | .idxArr _ _ _ _ _ | .ext _ _ | .lenStr _ | .lenSl _ | .lenArr _ | .minmax _ _ | .iface _ _ | .capSl _=>0
 | .load _ _ | .toStr _ | .slSl _ _ _ _ _ | .idxA _ _ _ | .lookup _ _ _ _ _ | .lenMap _=>1
 | .box _ | .alloc _ | .mkSl _ _ _ _ | .mkMap | .makeSl _ _ _ _ _=>2
 | _=>3
def aundef:AVal:=.tuple []
def ev(t:List AVal):AOpd→AVal
 | .tmp i=>t.getD i aundef
 | .const v=>v
 | .fn f=>.func (.func f) [] []
def put(t:List AVal)(d:Option Nat)(v:AVal):List AVal:=
 match d with
 | some d=>t.set d v
 | none=>t
def AVal.cells:AVal→Option (List AVal)
 | .agg cs=>some cs
 | .bot=>none
 | v=>some [v]
def AVal.one:AVal→Bool
 | .agg _ | .tuple _ | .bot=>false
 | _=>true
def U8(row:List AVal)(j:Nat):List AVal→List AVal
 | []=>row
 | v :: r=>U8 (row.set j v) (j+1) r
def I4:List AVal→List (Nat×Nat×AVal)→Option (List AVal)
 | cells,[]=>some cells
 | cells,(off,size,v) :: r=>
  match v.cells with
  | some cs=>if cs.length=size∧off+size≤cells.length then I4 (U8 cells off cs) r else none
  | none=>none
def M8(k:Nat):List (List AVal)→List (Nat×AVal)→Option (List (List AVal))
 | els,[]=>some els
 | els,(i,v) :: r=>
  match v.cells with
  | some cs=>if cs.length=k∧i<els.length∧cs.all AVal.one then M8 k (els.set i cs) r else none
  | none=>none
def rowAt(m:Mem):AVal→Option (List AVal×Nat)
 | .ptr b i j=>match m.get b with
  | some (.cells _ els)=>match els[i]? with
   | some row=>some (row,j)
   | none=>none
  | _=>none
 | .iptr els i j=>match els[i]? with
  | some row=>some (row,j)
  | none=>none
 | _=>none
def Zb0(m:Mem)(n:Option Nat)(x:AVal):Option AVal:=
 match rowAt m x with
 | some (row,j)=>match n with
  | none=>row[j]?
  | some n=>if 0<n∧j+n≤row.length then some (.agg ((row.drop j).take n))else none
 | none=>none
def Zen(m:Mem)(n:Nat)(x v:AVal):Option Mem:=
 match x,v.cells with
 | .ptr b i j,some cs=>match m.get b with
  | some (.cells k els)=>match els[i]? with
   | some row=>if cs.length=n∧j+n≤row.length∧cs.all AVal.one then some (m.set b (.cells k (els.set i (U8 row j cs))))else none
   | none=>none
  | _=>none
 | _,_=>none
def C3(kt:KeyT)(x y:AVal):Option Bool:=
 match kt,x,y with
 | .int,.int k a,.int k' b=>if k=k' then some (a == b)else none
 | .str,.str a,.str b=>some (a == b)
 | .bool,.bool a,.bool b=>some (a == b)
 | _,_,_=>none
def Zca:List KeyT→List AVal→List AVal→Option Bool
 | [],[],[]=>some true
 | k :: ks,x :: xs,y :: ys=>match C3 k x y with
  | some true=>Zca ks xs ys
  | some false=>some false
  | none=>none
 | _,_,_=>none
def J5(kt:KeyT)(k:AVal):List (AVal×AVal×Nat)→Option (Option (Nat×AVal×Nat))
 | []=>some none
 | (k',v,born) :: es=>match C3 kt k k' with
  | some true=>some (some (0,v,born))
  | some false=>match J5 kt k es with
   | some (some (i,r))=>some (some (i+1,r))
   | some none=>some none
   | none=>none
  | none=>none
def L3(m:Mem)(k:Nat):AVal→Option (List (List AVal))
 | .nilSl | .emp=>some []
 | .imm els=>if els.all (·.length == k)then some els else none
 | .sl b off len=>match m.get b with
  | some (.cells k' els)=>if k'=k∧off+len≤els.length then some ((els.drop off).take len)else none
  | _=>if len=0 then some []else none
 | _=>none
def Zkb(c:UInt8):List AVal:=[.int .u8 c.toNat]
def O4(m:Mem)(k:Nat):AVal→Option (List (List AVal))
 | .str s=>if k=1 then some (s.map Zkb)else none
 | x=>L3 m k x
def U9:AVal→Option Nat
 | .nilSl | .emp=>some 0
 | .imm els=>some els.length
 | .sl _ _ len=>some len
 | _=>none
def V1:AVal→Option Nat
 | .int _ n=>if 0≤n then some n.toNat else none
 | _=>none
def H0(t:List AVal)(d:Nat):Option AOpd→Option Nat
 | none=>some d
 | some x=>V1 (ev t x)
def X4:Nat:=1048576
def J6(id k bytes:Nat)(m:Mem)(s:AVal)(xs:List (List AVal)):Option (AVal×Mem):=
 match s with
 | .nilSl=>if xs=[]then some (.nilSl,m)else if xs.length≤X4∧bytes≤X4 then some (.sl id 0 xs.length,m.set id (.cells k xs))else none
 | .emp=>if xs=[]then some (.emp,m)else if xs.length≤X4∧bytes≤X4 then some (.sl id 0 xs.length,m.set id (.cells k xs))else none
 | .sl b off len=>match m.get b with
  | some (.cells k' els)=>
   if k'=k∧off+len≤els.length∧(els.length=off+len∨off+len+xs.length≤els.length)then
    if off+len+xs.length≤els.length then
     some (.sl b off (len+xs.length),m.set b (.cells k (els.take (off+len)++xs++els.drop (off+len+xs.length))))
    else if len+xs.length≤X4∧bytes≤X4 then
     some (.sl id 0 (len+xs.length),(m.del b).set id (.cells k ((els.drop off).take len++xs)))
    else none
   else none
  | _=>none
 | _=>none
def V4(op:BinOp)(k:IntKind)(a b:Int):Option AVal:=
 match op with
 | .add=>some (.int k (k.wrap (a+b)))
 | .sub=>some (.int k (k.wrap (a - b)))
 | .mul=>some (.int k (k.wrap (a*b)))
 | .quo=>if b=0 then none else some (.int k (k.wrap (a.tdiv b)))
 | .rem=>if b=0 then none else some (.int k (a.tmod b))
 | .and=>some (.int k (k.wrap (BitVec.ofInt k.bits a &&& BitVec.ofInt k.bits b).toNat))
 | .or=>some (.int k (k.wrap (BitVec.ofInt k.bits a ||| BitVec.ofInt k.bits b).toNat))
 | .xor=>some (.int k (k.wrap (BitVec.ofInt k.bits a ^^^ BitVec.ofInt k.bits b).toNat))
 | .andNot=>some (.int k (k.wrap (BitVec.ofInt k.bits a &&& ~~~(BitVec.ofInt k.bits b)).toNat))
 | .eql=>some (.bool (decide (a=b)))
 | .neq=>some (.bool (!decide (a=b)))
 | .lss=>some (.bool (decide (a<b)))
 | .leq=>some (.bool (decide (a≤b)))
 | .gtr=>some (.bool (decide (b<a)))
 | .geq=>some (.bool (decide (b≤a)))
 | _=>none
def Zb4(op:BinOp)(a b:List UInt8):Option AVal:=
 match op with
 | .add=>if a.length+b.length≤1099511627776 then some (.str (a++b))else none
 | .eql=>some (.bool (a == b))
 | .neq=>some (.bool (!(a == b)))
 | .lss=>some (.bool (Op.bytesLess a b))
 | .leq=>some (.bool (Op.bytesLess a b||a == b))
 | .gtr=>some (.bool (!(Op.bytesLess a b||a == b)))
 | .geq=>some (.bool (!Op.bytesLess a b))
 | _=>none
def J1:EqT→AVal→Option Bool
 | .slice,.nilSl=>some true
 | .slice,.sl _ _ _=>some false
 | .slice,.imm els=>if els.isEmpty then none else some false
 | .func,.nilFunc=>some true
 | .func,.func _ _ _=>some false
 | .map,.nilMap=>some true
 | .map,.map _=>some false
 | .ptr,.nilPtr=>some true
 | .ptr,.ptr _ _ _=>some false
 | .ptr,.iptr _ _ _=>some false
 | _,_=>none
def Zay(e:EqT)(x y:AVal):Option Bool:=
 match J1 e y with
 | some true=>J1 e x
 | _=>match J1 e x with
  | some true=>J1 e y
  | _=>none
def eqA(e:EqT)(x y:AVal):Option Bool:=
 match e with
 | .num=>none
 | .bool=>match x,y with
  | .bool a,.bool b=>some (a == b)
  | _,_=>none
 | .flat ks=>match x,y with
  | .agg xs,.agg ys=>Zca ks xs ys
  | _,_=>none
 | e=>Zay e x y
def X6(op:BinOp)(e:EqT)(x y:AVal):Option AVal:=
 match op,x,y with
 | .shl,.int k a,.int _ b=>if b<0 then none else some (.int k (k.wrap (a*2 ^ (min b.toNat k.bits))))
 | .shr,.int k a,.int _ b=>if b<0 then none else some (.int k (a.fdiv (2 ^ (min b.toNat k.bits))))
 | op,.int k a,.int k' b=>if k=k' then V4 op k a b else none
 | op,.str a,.str b=>Zb4 op a b
 | .eql,x,y=>match eqA e x y with
  | some b=>some (.bool b)
  | none=>none
 | .neq,x,y=>match eqA e x y with
  | some b=>some (.bool (!b))
  | none=>none
 | _,_,_=>none
def unA(op:UnOp)(x:AVal):Option AVal:=
 match op,x with
 | .neg,.int k n=>some (.int k (k.wrap (0 - n)))
 | .not,.bool b=>some (.bool (!b))
 | .xor,.int k n=>some (.int k (k.wrap (BitVec.ofInt k.bits (if k.signed then -1 else k.max) ^^^ BitVec.ofInt k.bits n).toNat))
 | _,_=>none
def R4(off:Nat):AVal→Option AVal
 | .ptr b i j=>some (.ptr b i (j+off))
 | .iptr els i j=>some (.iptr els i (j+off))
 | _=>none
def Za1(cs:List AVal)(off:Nat):Option Nat→Option AVal
 | none=>cs[off]?
 | some n=>if off+n≤cs.length then some (.agg ((cs.drop off).take n))else none
def Zfj(mx:Bool):AVal→List AVal→Option AVal
 | x,[]=>some x
 | .int k a,.int _ b :: r=>Zfj mx (.int k (if mx then (if b > a then b else a)else (if b<a then b else a))) r
 | _,_=>none
def Zel:List (List AVal)→Option (List UInt8)
 | []=>some []
 | [.int .u8 n] :: r=>match Zel r with
  | some l=>some (UInt8.ofNat n.toNat :: l)
  | none=>none
 | _=>none
def D2(t:List AVal)(len mxlen:Nat)(lo hi:Option AOpd):Option (Nat×Nat):=
 match H0 t len hi with
 | some h=>if h≤mxlen then match H0 t 0 lo with
  | some l=>if l≤h then some (l,h)else none
  | none=>none
  else none
 | none=>none
def Y8:AVal→List Nat
 | .ptr b _ _ | .sl b _ _ | .map b=>[b]
 | _=>[]
def S5(id:Nat)(t:List AVal):AOp→List Nat
 | .append _ _ _ s _=>id :: Y8 (ev t s)
 | .copy _ d _=>Y8 (ev t d)
 | .store _ a _=>Y8 (ev t a)
 | .mapUpd _ m _ _=>Y8 (ev t m)
 | .clear _ _ x=>Y8 (ev t x)
 | .box _ | .alloc _ | .mkSl _ _ _ _ | .mkMap | .makeSl _ _ _ _ _=>[id]
 | _=>[]
def K3(t:List AVal):AOp→List Nat
 | .append _ _ _ _ x=>Y8 (ev t x)
 | .copy _ _ s=>Y8 (ev t s)
 | .load _ x | .toStr x | .lookup _ _ _ x _ | .lenMap x | .slSl _ x _ _ _ | .idxA _ x _=>Y8 (ev t x)
 | _=>[]
def stepA(id:Nat)(t:List AVal)(m:Mem):AOp→Option (AVal×Mem)
 | .mov x=>some (ev t x,m)
 | .pick c a b=>match ev t c with
  | .bool true=>some (ev t a,m)
  | .bool false=>some (ev t b,m)
  | _=>none
 | .box x=>match (ev t x).cells with
  | some cs=>if cs.all AVal.one then some (.ptr id 0 0,m.set id (.cells cs.length [cs]))else none
  | none=>none
 | .alloc zero=>some (.ptr id 0 0,m.set id (.cells zero.length [zero]))
 | .build zero parts=>match I4 zero (parts.map fun p=>(p.1,p.2.1,ev t p.2.2))with
  | some cs=>some (.agg cs,m)
  | none=>none
 | .mkSl k len zero parts=>match M8 k (List.replicate len zero) (parts.map fun p=>(p.1,ev t p.2))with
  | some els=>some (.sl id 0 len,m.set id (.cells k els))
  | none=>none
 | .load n x=>match Zb0 m n (ev t x)with
  | some v=>some (v,m)
  | none=>none
 | .store n a x=>match Zen m n (ev t a) (ev t x)with
  | some m'=>some (aundef,m')
  | none=>none
 | .nilChk x=>match ev t x with
  | .ptr b i j=>some (.ptr b i j,m)
  | .iptr els i j=>some (.iptr els i j,m)
  | .func (.func f) a b=>some (.func (.func f) a b,m)
  | _=>none
 | .bin op e x y=>match X6 op e (ev t x) (ev t y)with
  | some v=>some (v,m)
  | none=>none
 | .un op x=>match unA op (ev t x)with
  | some v=>some (v,m)
  | none=>none
 | .convInt k x=>match ev t x with
  | .int _ n=>some (.int k (k.wrap n),m)
  | _=>none
 | .convId x=>match ev t x with
  | .str s=>some (.str s,m)
  | _=>none
 | .toStr x=>match L3 m 1 (ev t x)with
  | some rows=>match Zel rows with
   | some s=>some (.str s,m)
   | none=>none
  | none=>none
 | .mkFunc fn first captured=>some (.func fn (first.map (ev t)) (captured.map (ev t)),m)
 | .mkMap=>some (.map id,m.set id (.map [] 0))
 | .makeSl k bytes zero len cap=>match V1 (ev t len),V1 (ev t cap)with
  | some l,some c=>if l≤c∧c≤X4∧bytes≤X4 then some (.sl id 0 l,m.set id (.cells k (List.replicate c zero)))else none
  | _,_=>none
 | .slStr x lo hi=>match ev t x with
  | .str s=>match D2 t s.length s.length lo hi with
   | some (l,h)=>some (.str ((s.take h).drop l),m)
   | none=>none
  | _=>none
 | .slSl k x lo hi mx=>match mx with
  | some z=>match U9 (ev t x),H0 t 0 (some z),H0 t 0 lo,hi with
   | some n,some mx,some l,some h=>match V1 (ev t h)with
    | some h=>if l≤h∧h≤mx∧mx≤n then (if mx=0 then some (.emp,m)else some (.bot,m))else none
    | none=>none
   | _,_,_,_=>none
  | none=>match ev t x with
   | .nilSl=>match D2 t 0 0 lo hi with
    | some _=>some (.nilSl,m)
    | none=>none
   | .emp=>match D2 t 0 0 lo hi with
    | some _=>some (.emp,m)
    | none=>none
   | .imm els=>if els.all (·.length == k)then match D2 t els.length els.length lo hi with
    | some (l,h)=>some (.imm ((els.take h).drop l),m)
    | none=>none
    else none
   | .sl b off len=>match m.get b with
    | some (.cells k' els)=>if k'=k∧off+len≤els.length then match D2 t len (els.length - off) lo hi with
     | some (l,h)=>some (.sl b (off+l) (h - l),m)
     | none=>none
     else none
    | _=>none
   | _=>none
 | .slArr ..=>none
 | .fieldA off x=>match R4 off (ev t x)with
  | some v=>some (v,m)
  | none=>none
 | .field off n x=>match ev t x with
  | .agg cs=>match Za1 cs off n with
   | some v=>some (v,m)
   | none=>none
  | _=>none
 | .idxA k x i=>match ev t x,V1 (ev t i)with
  | .sl b off len,some i=>match m.get b with
   | some (.cells k' _)=>if k'=k∧i<len then some (.ptr b (off+i) 0,m)else none
   | _=>none
  | .imm els,some i=>match els[i]? with
   | some row=>if row.length=k then some (.iptr els i 0,m)else none
   | none=>none
  | _,_=>none
 | .idxAA n k x i=>match V1 (ev t i)with
  | some i=>if i<n then match R4 (i*k) (ev t x)with
   | some v=>some (v,m)
   | none=>none
   else none
  | none=>none
 | .idxStr x i=>match ev t x,V1 (ev t i)with
  | .str s,some i=>match s[i]? with
   | some c=>some (.int .u8 c.toNat,m)
   | none=>none
  | _,_=>none
 | .idxArr n k sz x i=>match ev t x,V1 (ev t i)with
  | .agg cs,some i=>if i<n then match Za1 cs (i*k) sz with
   | some v=>some (v,m)
   | none=>none
   else none
  | _,_=>none
 | .lookup kt zero ok x i=>match (match ev t x with
  | .nilMap=>some []
  | .map b=>match m.get b with
   | some (.map es _)=>some es
   | _=>none
  | _=>none)with
  | some es=>match J5 kt (ev t i) es with
   | some r=>
    let v:=match r with
     | some (_,v,_)=>v
     | none=>zero
    some (if ok then .tuple [v,.bool r.isSome]else v,m)
   | none=>none
  | none=>none
 | .mapUpd kt mp k v=>match ev t mp with
  | .map b=>match m.get b with
   | some (.map es clock)=>match J5 kt (ev t k) es with
    | some (some (i,_,born))=>some (aundef,m.set b (.map (es.set i (ev t k,ev t v,born)) clock))
    | some none=>some (aundef,m.set b (.map (es++[(ev t k,ev t v,clock)]) (clock+1)))
    | none=>none
   | _=>none
  | _=>none
 | .mapEnt ..=>none
 | .entSt ..=>none
 | .delete ..=>none
 | .range _=>none
 | .nextS _=>none
 | .nextM _=>none
 | .ext x i=>match ev t x with
  | .tuple vs=>match vs[i]? with
   | some v=>some (v,m)
   | none=>none
  | _=>none
 | .call _ _=>none
 | .append k bytes _ s x=>match O4 m k (ev t x)with
  | some xs=>J6 id k bytes m (ev t s) xs
  | none=>none
 | .appendZ ..=>none
 | .copy k d s=>match ev t d,O4 m k (ev t s)with
  | .sl b off len,some xs=>match m.get b with
   | some (.cells k' els)=>if k'=k∧off+len≤els.length then
    let n:=min xs.length len
    some (.int .i64 n,m.set b (.cells k (els.take off++xs.take n++els.drop (off+n))))
    else none
   | _=>none
  | _,_=>none
 | .clear k zero x=>match ev t x with
  | .sl b off len=>match m.get b with
   | some (.cells k' els)=>if k'=k∧off+len≤els.length then
    some (aundef,m.set b (.cells k (els.take off++List.replicate len zero++els.drop (off+len))))
    else none
   | _=>none
  | .nilSl=>some (aundef,m)
  | .emp=>some (aundef,m)
  | _=>none
 | .lenStr x=>match ev t x with
  | .str s=>some (.int .i64 s.length,m)
  | _=>none
 | .lenSl x=>match U9 (ev t x)with
  | some n=>some (.int .i64 n,m)
  | none=>none
 | .lenMap x=>match ev t x with
  | .nilMap=>some (.int .i64 0,m)
  | .map b=>match m.get b with
   | some (.map es _)=>some (.int .i64 es.length,m)
   | _=>none
  | _=>none
 | .lenArr n=>some (.int .i64 n,m)
 | .capSl _=>none
 | .minmax mx xs=>match xs with
  | []=>none
  | x :: r=>match Zfj mx (ev t x) (r.map (ev t))with
   | some v=>some (v,m)
   | none=>none
 | .iface ty x=>some (.iface ty (ev t x),m)
 | .dead=>none
end Go.AE
end
section
namespace Go.AE
open Go.RowKit
def absC:Value→Option AVal
 | .bool b=>some (.bool b)
 | .int k n=>some (.int k n)
 | .string s=>some (.str s.data.toList)
 | .pointer none=>some .nilPtr
 | .slice none 0 0=>some .nilSl
 | .map none=>some .nilMap
 | .nilFunc=>some .nilFunc
 | .nilIface=>some .nilIface
 | .tuple vs=>if vs.size=0 then some aundef else none
 | _=>none
def Zg8:List Value→Option (List AVal)
 | []=>some []
 | v :: r=>match absC v,Zg8 r with
  | some x,some xs=>some (x :: xs)
  | _,_=>none
def absV:Value→Option AVal
 | .agg cs=>match Zg8 cs.toList with
  | some xs=>some (.agg xs)
  | none=>none
 | v=>absC v
section
variable (P:Program)
def Y5:Operand→Option AOpd
 | .tmp t=>some (.tmp t)
 | .const v=>match absV v with
  | some x=>some (.const x)
  | none=>none
 | .func f=>some (.fn f)
 | .global _=>none
def A5:List Operand→Option (List AOpd)
 | []=>some []
 | x :: r=>match Y5 x,A5 r with
  | some y,some ys=>some (y :: ys)
  | _,_=>none
def M1(t:TypeId):Option Nat:=(P.info? t).map (·.size)
def Zrr(t:TypeId):Option Nat:=(P.info? t).map (·.bytes)
def Zi1(t:TypeId):Option AVal:=
 match P.info? t with
 | some i=>match i.zero with
  | some z=>absV z
  | none=>none
 | none=>none
def Zcd(t:TypeId):Option (List AVal):=
 match Zi1 P t with
 | some z=>match z.cells with
  | some cs=>if cs.all AVal.one then some cs else none
  | none=>none
 | none=>none
def Zcp(t:TypeId):Option (Option Nat):=
 match P.underlying t,P.info? t with
 | some (.struct _),some i|some (.array _ _),some i=>some (some i.size)
 | some _,some _=>some none
 | _,_=>none
def F7(t:TypeId):Option KeyT:=
 match P.underlying t with
 | some (.int _)=>some .int
 | some .string=>some .str
 | some .bool=>some .bool
 | _=>none
def Zgb:List Field→Nat→Option (List KeyT)
 | [],_=>some []
 | f :: r,i=>if f.name != "_" && f.offset == i then match F7 P f.type,Zgb r (i+1)with
  | some k,some ks=>some (k :: ks)
  | _,_=>none
  else none
def cEq(t:TypeId):Option EqT:=
 match P.underlying t with
 | some .bool=>some .bool
 | some (.slice _)=>some .slice
 | some (.func _ _ _)=>some .func
 | some (.map _ _)=>some .map
 | some (.pointer _)=>some .ptr
 | some (.int _)|some .string=>some .num
 | some (.struct fs)=>if P.stoodInHeld t||P.eqGuardType P.depth t then none else match Zgb P fs.toList 0 with
  | some ks=>some (.flat ks)
  | none=>none
 | _=>none
def Zfz(fs:List Field):List (Nat×Operand)→Option (List (Nat×Nat×AOpd))
 | []=>some []
 | (i,x) :: r=>match fs[i]? with
  | some f=>match M1 P f.type,Y5 x,Zfz fs r with
   | some n,some y,some ys=>some ((f.offset,n,y) :: ys)
   | _,_,_=>none
  | none=>none
def Zf2(n:Nat):List (Nat×Operand)→Option (List (Nat×Nat×AOpd))
 | []=>some []
 | (i,x) :: r=>match Y5 x,Zf2 n r with
  | some y,some ys=>some ((i*n,n,y) :: ys)
  | _,_=>none
def Zf3:List (Nat×Operand)→Option (List (Nat×AOpd))
 | []=>some []
 | (i,x) :: r=>match Y5 x,Zf3 r with
  | some y,some ys=>some ((i,y) :: ys)
  | _,_=>none
def D8:Option Operand→Option (Option AOpd)
 | none=>some none
 | some x=>match Y5 x with
  | some y=>some (some y)
  | none=>none
def Zab(t:TypeId):Option (Nat×Nat×List AVal):=
 match P.underlying t with
 | some (.slice e)=>match M1 P e,Zrr P e,Zcd P e with
  | some k,some b,some z=>if z.length=k∧0<k then some (k,b,z)else none
  | _,_,_=>none
 | _=>none
def Zcn(c:Call):Option AOp:=
 match c.callee with
 | .value f=>match Y5 f,A5 c.args.toList with
  | some g,some xs=>some (.call g xs)
  | _,_=>none
 | .builtin .append=>match c.args.toList,c.argTypes.toList with
  | [s,x],[t,u]=>match Zab P t,Y5 s,Y5 x with
   | some (k,b,z),some s',some x'=>match P.underlying u with
    | some (.int _)=>some (.appendZ k b z s' x')
    | some _=>some (.append k b z s' x')
    | none=>none
   | _,_,_=>none
  | _,_=>none
 | .builtin .copy=>match c.args.toList,c.argTypes.toList with
  | [d,s],[t,_]=>match Zab P t,Y5 d,Y5 s with
   | some (k,_,_),some d',some s'=>some (.copy k d' s')
   | _,_,_=>none
  | _,_=>none
 | .builtin .clear=>match c.args.toList,c.argTypes.toList with
  | [x],[t]=>match Zab P t,Y5 x with
   | some (k,_,z),some x'=>some (.clear k z x')
   | _,_=>none
  | _,_=>none
 | .builtin .len=>match c.args.toList,c.argTypes.toList with
  | [x],[t]=>match P.underlying t,Y5 x with
   | some (.array n _),_=>some (.lenArr n)
   | some .string,some y=>some (.lenStr y)
   | some (.slice _),some y=>some (.lenSl y)
   | some (.map _ _),some y=>some (.lenMap y)
   | _,_=>none
  | _,_=>none
 | .builtin .cap=>match c.args.toList,c.argTypes.toList with
  | [x],[t]=>match P.underlying t,Y5 x with
   | some (.slice _),some y=>some (.capSl y)
   | _,_=>none
  | _,_=>none
 | .builtin .min=>match A5 c.args.toList with
  | some xs=>some (.minmax false xs)
  | none=>none
 | .builtin .max=>match A5 c.args.toList with
  | some xs=>some (.minmax true xs)
  | none=>none
 | _=>none
def cOp(o:Oper):Option AOp:=
 match o.op with
 | .move x | .assign x=>(Y5 x).map .mov
 | .pick c a b=>match Y5 c,Y5 a,Y5 b with
  | some c',some a',some b'=>some (.pick c' a' b')
  | _,_,_=>none
 | .alloc t=>(Zcd P t).map .alloc
 | .box _ x=>(Y5 x).map .box
 | .build t ps=>match P.underlying t,Zcd P t with
  | some (.struct fs),some z=>if fs.toList.all fun f=>(P.info? f.type).isSome then match Zfz P fs.toList ps.toList with
   | some qs=>some (.build z qs)
   | none=>none
   else none
  | some (.array _ e),some z=>match M1 P e with
   | some n=>match Zf2 n ps.toList with
    | some qs=>some (.build z qs)
    | none=>none
   | none=>none
  | _,_=>none
 | .buildSlice t len ps=>match Zab P t,Zf3 ps.toList with
  | some (k,_,z),some qs=>if len*k≤2 ^ 24 then some (.mkSl k len z qs)else none
  | _,_=>none
 | .load t x=>match Zcp P t,Y5 x with
  | some n,some y=>some (.load n y)
  | _,_=>none
 | .store t a x=>match M1 P t,Y5 a,Y5 x with
  | some n,some a',some x'=>some (.store n a' x')
  | _,_,_=>none
 | .nilCheck x=>(Y5 x).map .nilChk
 | .binOp op t x y _=>match Y5 x,Y5 y,cEq P t with
  | some x',some y',some e=>some (.bin op e x' y')
  | _,_,_=>none
 | .unOp op _ x=>(Y5 x).map (.un op)
 | .convert s d x=>match P.underlying s,P.underlying d,Y5 x with
  | some (.int _),some (.int k),some y=>some (.convInt k y)
  | some .string,some .string,some y=>some (.convId y)
  | some (.slice e),some .string,some y=>match P.underlying e with
   | some (.int .u8)=>some (.toStr y)
   | _=>none
  | _,_,_=>none
 | .makeFunc fn f c=>match A5 f.toList,A5 c.toList with
  | some f',some c'=>some (.mkFunc fn f' c')
  | _,_=>none
 | .makeMap _ none=>some .mkMap
 | .makeSlice t l c=>match Zab P t,Y5 l,Y5 c with
  | some (k,b,z),some l',some c'=>some (.makeSl k b z l' c')
  | _,_,_=>none
 | .slice t x lo hi mx=>match P.underlying t,Y5 x,D8 lo,D8 hi,D8 mx with
  | some .string,some x',some l,some h,some none=>some (.slStr x' l h)
  | some (.slice e),some x',some l,some h,some m=>match M1 P e with
   | some k=>some (.slSl k x' l h m)
   | none=>none
  | some (.array n e),some x',some l,some h,some none=>match M1 P e with
   | some k=>some (.slArr n k x' l h)
   | none=>none
  | _,_,_,_,_=>none
 | .fieldAddr t x i=>match P.underlying t,Y5 x with
  | some (.struct fs),some y=>match fs[i]? with
   | some f=>match M1 P f.type with
    | some n=>if n≠0 then some (.fieldA f.offset y)else none
    | none=>none
   | none=>none
  | _,_=>none
 | .field t x i=>match P.underlying t,Y5 x with
  | some (.struct fs),some y=>match fs[i]? with
   | some f=>match Zcp P f.type with
    | some n=>some (.field f.offset n y)
    | none=>none
   | none=>none
  | _,_=>none
 | .indexAddr t x i=>match P.underlying t,Y5 x,Y5 i with
  | some (.slice e),some x',some i'=>match M1 P e with
   | some k=>some (.idxA k x' i')
   | none=>none
  | some (.array n e),some x',some i'=>match M1 P e with
   | some k=>some (.idxAA n k x' i')
   | none=>none
  | _,_,_=>none
 | .index t x i=>match P.underlying t,Y5 x,Y5 i with
  | some .string,some x',some i'=>some (.idxStr x' i')
  | some (.array n e),some x',some i'=>match M1 P e,Zcp P e with
   | some k,some sz=>some (.idxArr n k sz x' i')
   | _,_=>none
  | _,_,_=>none
 | .lookup t x i ok=>match P.underlying t,Y5 x,Y5 i with
  | some (.map kt e),some x',some i'=>match F7 P kt,Zi1 P e with
   | some q,some z=>some (.lookup q z ok x' i')
   | _,_=>none
  | _,_,_=>none
 | .mapUpdate t m k v | .insert t m k v=>match P.underlying t,Y5 m,Y5 k,Y5 v with
  | some (.map kt _),some m',some k',some v'=>match F7 P kt with
   | some q=>some (.mapUpd q m' k' v')
   | none=>none
  | _,_,_,_=>none
 | .extract x i=>match Y5 x with
  | some y=>some (.ext y i)
  | none=>none
 | .call c=>Zcn P c
 | .range t x=>match P.underlying t with
  | some (.map _ _)=>(Y5 x).map .range
  | _=>none
 | .next x false=>(Y5 x).map .nextM
 | _=>none
def P8(o:Oper):AOp:=(cOp P o).getD .dead
def Zan(ops:Array Oper):Option (Nat×Bool)→Option (Option (Nat×Bool))
 | none=>some none
 | some (j,w)=>match (ops[j]?).bind (·.dst)with
  | some d=>some (some (d,w))
  | none=>none
def Zfh:List Nat→List Nat→List Nat
 | acc,[]=>acc
 | acc,x :: r=>if acc.contains x then Zfh acc r else Zfh (x :: acc) r
theorem Zp9(j:Nat):∀ (l acc:List Nat),j∈Zfh acc l↔j∈acc∨j∈l
 | [],acc=>by simp[Zfh]
 | x :: r,acc=>by
  simp only[Zfh];split
  ·rename_i h;rw[Zp9 j r acc,List.mem_cons];have hx:x∈acc:=by simpa using h
   constructor
   ·rintro(h|h)
    ·exact .inl h
    ·exact .inr (.inr h)
   ·rintro(h|rfl|h)
    ·exact .inl h
    ·exact .inl hx
    ·exact .inr h
  ·rw[Zp9 j r (x :: acc),List.mem_cons,List.mem_cons];constructor
   ·rintro((h|h)|h)
    ·exact .inr (.inl h)
    ·exact .inl h
    ·exact .inr (.inr h)
   ·rintro(h|h|h)
    ·exact .inl (.inr h)
    ·exact .inl (.inl h)
    ·exact .inr h
def Zbe(ops:List Oper):List (List Nat):=
 ops.foldl (fun acc o=>acc++[Zfh [] ((o.after.toList.filter (Region.binds .any)).flatMap fun e=>e.on :: acc.getD e.on [])]) []
def G8(ops:Array Oper):List Oper→Option (List AOper)
 | []=>some []
 | o :: r=>match Zan ops o.guard,G8 ops r with
  | some g,some as=>some (⟨o.dst,P8 P o,g,[]⟩ :: as)
  | _,_=>none
def cUn(as:List AOper)(preds:List (List Nat))(j:Nat)(a:AOp):List Nat:=
 (List.range j).filter fun i=>!((preds.getD j []).contains i)&&match as[i]? with
   | some x=>!(x.op.kind≤1&&a.kind≤1)&&x.op.kind != 0&&a.kind != 0
   | none=>false
def cUns(as:List AOper)(preds:List (List Nat)):Nat→List AOper→List AOper
 | _,[]=>[]
 | j,a :: r=>⟨a.dst,a.op,a.guard,cUn as preds j a.op⟩ :: cUns as preds (j+1) r
def AOper.looks(a:AOper):List Nat:=
 (a.op.opds.filterMap fun x=>match x with
   | .tmp i=>some i
   | _=>none)++match a.guard with
   | some (d,_)=>[d]
   | none=>[]
def AOper.apart(x y:AOper):Bool:=
 (match x.dst with
  | some d=>!(y.looks.contains d)&&y.dst != some d
  | none=>true) &&
 match y.dst with
 | some d=>!(x.looks.contains d)
 | none=>true
def Zh8(ops:Array Oper)(as:List AOper)(preds:List (List Nat)):Bool:=
 ((List.range ops.size).all fun i=>match ops[i]? with
   | some o=>o.after.toList.all fun e=>!Region.binds .any e||decide (e.on<i)
   | none=>true) &&
 ((List.range ops.size).all fun j=>(List.range j).all fun i=>(preds.getD j []).contains i||match as[i]?,as[j]? with
   | some x,some y=>x.apart y
   | _,_=>false)
def Y2:Code→ACode
 | .skip=>.skip
 | .region _ ops false=>match G8 P ops ops.toList with
  | some as=>.region false as
  | none=>.bad
 | .region _ ops true=>match G8 P ops ops.toList with
  | some as=>
   if Zh8 ops as (Zbe ops.toList)then .region true (cUns as (Zbe ops.toList) 0 as)else .bad
  | none=>.bad
 | .seq a b=>.seq (Y2 a) (Y2 b)
 | .cond c a b=>match Y5 c with
  | some c'=>.cond c' (Y2 a) (Y2 b)
  | none=>.bad
 | .block id c=>.block id (Y2 c)
 | .loop c=>.loop (Y2 c)
 | .exit id=>.exit id
 | .scope c=>.scope (Y2 c)
 | .label _=>.skip
 | .ret=>.ret
 | _=>.bad
def Zil:ResultVar→Option (Nat×Option (Option Nat))
 | .tmp t=>some (t,none)
 | .cell a t=>(Zcp P t).map fun n=>(a,some n)
def Zal:List ResultVar→Option (List (Nat×Option (Option Nat)))
 | []=>some []
 | x :: r=>match Zil P x,Zal r with
  | some y,some ys=>some (y :: ys)
  | _,_=>none
def cFn(f:Func):Option AFn:=
 match f.body with
 | some c=>match Zal P f.results.toList with
  | some rs=>if f.name == "runtime.NumGoroutine" then none else some ⟨f.ntmps,rs,Y2 P c⟩
  | none=>none
 | none=>none
end
end Go.AE
end
section
namespace Go.AE
open Go.RowKit
def KeepN(n:Nat)(ρ ρ':Rho):Prop:=∀ b,b<n→ρ b=none→ρ' b=none
theorem KeepN.refl(n:Nat)(ρ:Rho):KeepN n ρ ρ:=fun _ _ h=>h
theorem KeepN.trans{n n':Nat}{ρ ρ' ρ'':Rho}(h:KeepN n ρ ρ')(h':KeepN n' ρ' ρ'')(hn:n≤n'):KeepN n ρ ρ'':=
 fun b hb h0=>h' b (Nat.lt_of_lt_of_le hb hn) (h b hb h0)
def Zhg(P:Program)(f:FuncId):Prop:=∃ fn,P.funcs[f]? = some fn∧(fn.name == "runtime.NumGoroutine")=false∧fn.body.isSome=true
def ACalls(P:Program)(f:FuncId)(args:List AVal)(m:Mem)(av:List Nat)(K:AVal→Mem→Prop):Prop:=
 Zhg P f ∧ ∀(W:Base) (Φ:Pers) (ρ:Rho) (vs:Array Value) (w:World),Rel W Φ ρ m w→RL Φ ρ args vs→(∀ b,b∈av→ρ b=none∧b<m.next) →
  Calls P f vs w fun e w'=>∃ v r m' Φ' ρ',e=.returned v∧Ext Φ ρ Φ' ρ'∧(∀ b,b<m.next→b∉av→ρ b=none→ρ' b=none) ∧
   Rel W Φ' ρ' m' w'∧R Φ' ρ' r v∧m.next≤m'.next∧K r m'
def Mem.less(m:Mem)(x:List Nat):Mem:={ m with get:=fun c=>if c∈x then none else m.get c }
def Zfc(P:Program)(f:FuncId)(args:List AVal)(id:Nat)(x:List Nat)(m:Mem)(v:AVal)(m':Mem)(wl:List Nat):Prop:=
 ∃ m3:Mem,id∉x∧(∀ c,c∈x→m3.get c=none)∧m.next≤m3.next∧m'.next=m3.next∧(∀ c,m'.get c=if c∈x then m.get c else m3.get c) ∧
  (∀ c,c∉wl→c<m.next→c∉x→m3.get c=m.get c)∧ACalls P f args (m.less x) [id] fun v' m''=>v'=v∧m''=m3
inductive FT where
 | ops (w r:List Nat)
 | call (wl x:List Nat) (nx:Nat)
def FT.W:FT→Nat→Bool
 | .ops w _,c=>w.contains c
 | .call wl _ nx,c=>wl.contains c||decide (nx≤c)
def FT.R:FT→Nat→Bool
 | .ops _ r,c=>r.contains c
 | .call _ x _,c=>!x.contains c
def FT.isC:FT→Bool
 | .ops _ _=>false
 | .call _ _ _=>true
def callee(t:List AVal)(f:AOpd)(xs:List AOpd):Option (FuncId×List AVal):=
 match ev t f with
 | .func (.func g) first cap=>some (g,first++xs.map (ev t)++cap)
 | _=>none
def R7(t:List AVal):Option (Nat×Bool)→Option Bool
 | none=>some true
 | some (d,w)=>match t.getD d aundef with
  | .bool b=>some (b == w)
  | .tuple []=>some false
  | _=>none
structure ASt where
 t:List AVal
 m:Mem
structure ASt.Weak (σ' σ:ASt):Prop where
 next:σ.m.next≤σ'.m.next
 rel:∀ (W:Base) (Φ:Pers) (ρ:Rho) (vs:Array Value) (w:World),Rel W Φ ρ σ.m w→RL Φ ρ σ.t vs → ∃ Φ',Ext Φ ρ Φ' ρ∧Rel W Φ' ρ σ'.m w∧RL Φ' ρ σ'.t vs
def N6(P:Program)(base:Nat):List AOper→Nat→(ASt→Prop)→List AVal→Mem→Prop
 | [],_,K,t,m=>K ⟨t,m⟩
 | o :: r,i,K,t,m=>
  match R7 t o.guard with
  | some false=>N6 P base r (i+1) K (put t o.dst aundef) m
  | some true=>
   match o.op with
   | .call f xs=>match callee t f xs with
    | some (g,args)=>ACalls P g args m [base+i] fun v m'=>N6 P base r (i+1) K (put t o.dst v) m'
    | none=>False
   | op=>match stepA (base+i) t m op with
    | some (v,m')=>N6 P base r (i+1) K (put t o.dst v) m'
    | none=>False
  | none=>False
def Q8(x:Nat):List Nat→Prop
 | []=>True
 | y :: r=>x≠y∧Q8 x r
def O8:List Nat→List Nat→Prop
 | [],_=>True
 | x :: r,l=>Q8 x l∧O8 r l
def K1(n:Nat):List Nat→Prop
 | []=>True
 | x :: r=>x<n∧K1 n r
def in1(x:Nat):List Nat→Prop
 | []=>False
 | y :: r=>x=y∨in1 x r
def J2:List Nat→List Nat→Prop
 | [],_=>True
 | x :: r,l=>in1 x l∧J2 r l
def FT.indep:FT→FT→Prop
 | .ops w r,.ops w' r'=>O8 w (r'++w')∧O8 r w'
 | .ops w r,.call wl x nx=>O8 r wl∧K1 nx r∧O8 w wl∧K1 nx w∧J2 w x
 | .call wl x nx,.ops w r=>O8 r wl∧K1 nx r∧O8 w wl∧K1 nx w∧J2 w x
 | .call _ _ _,.call _ _ _=>False
def S3(fs:List FT)(ft:FT):List Nat→Prop
 | []=>True
 | i :: r=>FT.indep (fs.getD i (.ops [] [])) ft∧S3 fs ft r
def R3(P:Program)(base:Nat):List AOper→List FT→(ASt→Prop)→List AVal→Mem→Prop
 | [],_,K,t,m=>K ⟨t,m⟩
 | o :: r,fs,K,t,m=>
  match R7 t o.guard with
  | some false=>R3 P base r (fs++[.ops [] []]) K (put t o.dst aundef) m
  | some true=>
   match o.op with
   | .call f xs=>match callee t f xs with
    | some (g,args)=>∃ wl x v m',Zfc P g args (base+fs.length) x m v m' wl∧S3 fs (.call wl x m.next) o.un∧R3 P base r (fs++[.call wl x m.next]) K (put t o.dst v) m'
    | none=>False
   | op=>match stepA (base+fs.length) t m op with
    | some (v,m')=>S3 fs (.ops (S5 (base+fs.length) t op) (K3 t op)) o.un∧R3 P base r (fs++[.ops (S5 (base+fs.length) t op) (K3 t op)]) K (put t o.dst v) m'
    | none=>False
  | none=>False
def Zi4(next:ASt→Prop)(Q:Exit→ASt→Prop):Exit→ASt→Prop
 | .normal,σ=>next σ
 | e,σ=>Q e σ
def Zao(id:Nat)(Q:Exit→ASt→Prop):Exit→ASt→Prop
 | .exit id',σ=>if id'=id then Q .normal σ else Q (.exit id') σ
 | e,σ=>Q e σ
def Zp1(Q:Exit→ASt→Prop):Exit→ASt→Prop
 | .goto _,_=>False
 | e,σ=>Q e σ
def wpc(P:Program):ACode→(Exit→ASt→Prop)→ASt→Prop
 | .skip,Q,σ=>Q .normal σ
 | .region false ops,Q,σ=>N6 P σ.m.next ops 0 (Q .normal) σ.t (σ.m.at (σ.m.next+ops.length))
 | .region true ops,Q,σ=>R3 P σ.m.next ops [] (Q .normal) σ.t (σ.m.at (σ.m.next+ops.length))
 | .seq a b,Q,σ=>wpc P a (Zi4 (wpc P b Q) Q) σ
 | .cond c a b,Q,σ=>match ev σ.t c with
  | .bool true=>wpc P a Q σ
  | .bool false=>wpc P b Q σ
  | _=>False
 | .block id c,Q,σ=>wpc P c (Zao id Q) σ
 | .loop c,Q,σ=>∃ (I:Nat→ASt→Prop),(∃ n σ0,ASt.Weak σ0 σ∧I n σ0) ∧ ∀ n σ1,I n σ1→wpc P c (Zi4 (fun σ'=>∃ k σ0,k<n∧ASt.Weak σ0 σ'∧I k σ0) Q) σ1
 | .exit id,Q,σ=>Q (.exit id) σ
 | .scope c,Q,σ=>wpc P c (Zp1 Q) σ
 | .label _,Q,σ=>Q .normal σ
 | .ret,Q,σ=>Q .ret σ
 | .bad,_,_=>False
def lift(W:Base)(Φ:Pers)(ρ:Rho)(n:Nat)(Q:Exit→ASt→Prop)(e:Exit)(a:Act)(w:World):Prop:=
 ∃ σ Φ' ρ',Ext Φ ρ Φ' ρ'∧KeepN n ρ ρ'∧n≤σ.m.next∧Rel W Φ' ρ' σ.m w∧RL Φ' ρ' σ.t a.tmps∧a.defers=[]∧Q e σ
def AWp(P:Program)(c:Code)(Q:Exit→ASt→Prop)(σ:ASt):Prop:=
 ∀(W:Base) (Φ:Pers) (ρ:Rho) (a:Act) (w:World),Rel W Φ ρ σ.m w→RL Φ ρ σ.t a.tmps→a.defers=[]→c.wp P (lift W Φ ρ σ.m.next Q) a w
end Go.AE
end
section
namespace Go.AE
open Go.RowKit
theorem RL.sub{Φ:Pers}{ρ:Rho}{xs ys:List AVal}{vs:Array Value}(h:RL Φ ρ xs vs)(hl:ys.length=xs.length)(ht:∀ (i:Nat) (x:AVal),ys[i]? = some x→x=AVal.bot∨xs[i]? = some x):RL Φ ρ ys vs:=by
 refine⟨by rw[h.1,hl],fun i x v hx hv=>?_⟩
 rcases ht i x hx with rfl|h1
 ·exact .bot v
 ·exact h.2 i x v h1 hv
theorem ASt.Weak.refl(σ:ASt):ASt.Weak σ σ:=⟨Nat.le_refl _,fun _ Φ _ _ _ hr ht=>⟨Φ,.refl _ _,hr,ht⟩⟩
theorem ASt.Weak.trans{a b c:ASt}(h:ASt.Weak a b)(h':ASt.Weak b c):ASt.Weak a c:=
 ⟨Nat.le_trans h'.next h.next,fun W Φ ρ vs w hr ht=>by
  obtain⟨Φ1,e1,r1,t1⟩:=h'.rel W Φ ρ vs w hr ht;obtain⟨Φ2,e2,r2,t2⟩:=h.rel W Φ1 ρ vs w r1 t1;exact⟨Φ2,e1.trans e2,r2,t2⟩⟩
theorem ASt.Weak.of_sub{σ' σ:ASt}(hl:σ'.t.length=σ.t.length)(ht:∀ (i:Nat) (x:AVal),σ'.t[i]? = some x→x=AVal.bot∨σ.t[i]? = some x)(hm:Mem.Sub σ'.m σ.m):ASt.Weak σ' σ:=
 ⟨hm.next,fun _ Φ _ _ _ hr htt=>⟨Φ,.refl _ _,hr.sub hm,htt.sub hl ht⟩⟩
theorem Zzl{W:Base}{Φ Φ':Pers}{ρ ρ':Rho}{n n':Nat}{Q:Exit→ASt→Prop}{e:Exit}{a:Act}{w:World}(he:Ext Φ ρ Φ' ρ')(hk:KeepN n ρ ρ')(hn:n≤n')
 (h:lift W Φ' ρ' n' Q e a w):lift W Φ ρ n Q e a w:=by
 obtain⟨σ,Φ'',ρ'',h1,h2,h3,h4,h5,h6,h7⟩:=h;exact⟨σ,Φ'',ρ'',he.trans h1,hk.trans h2 hn,Nat.le_trans hn h3,h4,h5,h6,h7⟩
theorem Zus{W:Base}{Φ:Pers}{ρ:Rho}{n:Nat}{Q Q':Exit→ASt→Prop}{e:Exit}{a:Act}{w:World}(h:lift W Φ ρ n Q e a w)(hq:∀ σ,Q e σ→Q' e σ):lift W Φ ρ n Q' e a w:=by
 obtain⟨σ,Φ'',ρ'',h1,h2,h3,h4,h5,h6,h7⟩:=h;exact⟨σ,Φ'',ρ'',h1,h2,h3,h4,h5,h6,hq σ h7⟩
theorem RL.get{Φ:Pers}{ρ:Rho}{t:List AVal}{vs:Array Value}(h:RL Φ ρ t vs)(i:Nat):R Φ ρ (t.getD i aundef) (vs.getD i undef):=by
 rcases Nat.lt_or_ge i t.length with hi|hi
 ·have h1:t[i]? = some t[i]:=gE hi;have hi':i<vs.size:=by rw[h.1]; exact hi
  have h2:vs[i]? = some vs[i]:=Array.getElem?_eq_getElem hi';have:=h.2 i _ _ h1 h2;simpa[List.getD,h1,Array.getD,hi']using this
 ·have h1:t[i]? = none:=List.getElem?_eq_none hi;have hi':¬i<vs.size:=by rw[h.1]; omega
  have e1:t.getD i aundef=aundef:=by simp[List.getD,h1]
  have e2:vs.getD i undef=undef:=by simp[Array.getD,hi']
  rw[e1,e2];exact .tuple [] #[] rfl (fun i x v hx=>by simp at hx)
theorem Zyq{v:Value}{x:AVal}(Φ:Pers)(ρ:Rho)(h:absC v=some x):R Φ ρ x v:=by
 unfold absC at h;split at h<;>first|(cases h; done)|skip
 ·injection h with h; subst h; exact .bool _
 ·injection h with h; subst h; exact .int _ _
 ·injection h with h; subst h; rename_i s; cases s; rename_i d; cases d; exact .str _
 ·injection h with h; subst h; exact .nilPtr
 ·injection h with h; subst h; exact .nilSl
 ·injection h with h; subst h; exact .nilMap
 ·injection h with h; subst h; exact .nilFunc
 ·injection h with h; subst h; exact .nilIface
 ·rename_i vs;split at h
  ·rename_i h0;injection h with h; subst h
   exact .tuple [] vs (by simpa using h0) (fun i x v hx=>by simp at hx)
  ·cases h
theorem Zyt(Φ:Pers)(ρ:Rho):∀ (vs:List Value) (xs:List AVal),Zg8 vs=some xs→xs.length=vs.length ∧ ∀(i:Nat) (x:AVal) (v:Value),xs[i]? = some x→vs[i]? = some v→R Φ ρ x v
 | [],xs,h=>by
  simp only[Zg8,oI]at h;subst h;exact⟨rfl,fun i x v hx=>by simp at hx⟩
 | v :: r,xs,h=>by
  simp only[Zg8]at h;cases h1:absC v with
  | none=>simp[h1]at h
  | some y=>
   cases h2:Zg8 r with
   | none=>simp[h1,h2]at h
   | some ys=>
    simp only[h1,h2,oI]at h;subst h;obtain⟨h3,h4⟩:=Zyt Φ ρ r ys h2;refine⟨by simp[h3],fun i x v' hx hv=>?_⟩
    cases i with
    | zero=>
     simp only[List.getElem?_cons_zero,oI]at hx hv;subst hx; subst hv;exact Zyq Φ ρ h1
    | succ i=>
     simp only[List.getElem?_cons_succ]at hx hv;exact h4 i x v' hx hv
theorem Zro{v:Value}{x:AVal}(Φ:Pers)(ρ:Rho)(h:absV v=some x):R Φ ρ x v:=by
 unfold absV at h;split at h
 ·rename_i cs;split at h
  ·rename_i xs hxs;injection h with h
   subst h;obtain⟨h1,h2⟩:=Zyt Φ ρ _ _ hxs;exact .agg _ _ (by simp[h1]) (fun i x v hx hv=>h2 i x v hx (by simpa using hv))
  ·cases h
 ·exact Zyq Φ ρ h
theorem T4{Φ:Pers}{ρ:Rho}{t:List AVal}{a:Act}(h:RL Φ ρ t a.tmps){x:Operand}{y:AOpd}(hx:Y5 x=some y):R Φ ρ (ev t y) (a.eval x):=by
 cases x with
 | tmp i=>
  simp only[Y5,oI]at hx;subst hx;exact h.get i
 | const v=>
  simp only[Y5]at hx;split at hx
  ·rename_i z hz;injection hx with hx
   subst hx;exact Zro Φ ρ hz
  ·cases hx
 | global g=>simp[Y5]at hx
 | func f=>
  simp only[Y5,oI]at hx;subst hx;exact .func _ [] [] #[] #[] rfl rfl (fun i x v hx=>by simp at hx) (fun i x v hx=>by simp at hx)
theorem Zxu{Φ:Pers}{ρ:Rho}{t:List AVal}{a:Act}(h:RL Φ ρ t a.tmps):∀ (xs:List Operand) (ys:List AOpd),A5 xs=some ys →
 ys.length=xs.length ∧ ∀(i:Nat) (y:AOpd) (x:Operand),ys[i]? = some y→xs[i]? = some x→Y5 x=some y
 | [],ys,hx=>by
  simp only[A5,oI]at hx;subst hx;exact⟨rfl,fun i y x hy=>by simp at hy⟩
 | z :: r,ys,hx=>by
  simp only[A5]at hx;cases h1:Y5 z with
  | none=>simp[h1]at hx
  | some y=>
   cases h2:A5 r with
   | none=>simp[h1,h2]at hx
   | some ys'=>
    simp only[h1,h2,oI]at hx;subst hx;obtain⟨h3,h4⟩:=Zxu h r ys' h2;refine⟨by simp[h3],fun i y' x' hy hx'=>?_⟩
    cases i with
    | zero=>
     simp only[List.getElem?_cons_zero,oI]at hy hx';subst hy; subst hx';exact h1
    | succ i=>
     simp only[List.getElem?_cons_succ]at hy hx';exact h4 i y' x' hy hx'
theorem Z6g{P:Program}
 (hreg:∀ (id:Nat) (ops:Array Oper) (draw:Bool) (Q:Exit→ASt→Prop) (σ:ASt),wpc P (Y2 P (.region id ops draw)) Q σ→AWp P (.region id ops draw) Q σ) :
 ∀(c:Code) (Q:Exit→ASt→Prop) (σ:ASt),wpc P (Y2 P c) Q σ→AWp P c Q σ:=by
 intro c
 induction c with
 | skip=>exact fun Q σ h W Φ ρ a w hr ht hd=>wp_skip ⟨σ,Φ,ρ,.refl _ _,.refl _ _,Nat.le_refl _,hr,ht,hd,h⟩
 | region id ops draw=>exact fun Q σ h=>hreg id ops draw Q σ h
 | seq x y ihx ihy=>
  intro Q σ h W Φ ρ a w hr ht hd;simp only[Y2,wpc]at h;refine wp_seq (wp_mono (ihx _ _ h W Φ ρ a w hr ht hd) ?_);intro e a' w' hl;have key:∀ e',e=e'→e'≠.normal→lift W Φ ρ σ.m.next Q e a' w':=by
   intro e' he hne;refine Zus hl fun σ' hq=>?_
   subst he;cases e<;>first|exact absurd rfl hne|exact hq
  cases e with
  | normal=>
   obtain⟨σ',Φ',ρ',h1,h2,h3,h4,h5,h6,h7⟩:=hl;exact wp_mono (ihy _ _ h7 W Φ' ρ' a' w' h4 h5 h6) fun e a w hl'=>Zzl h1 h2 h3 hl'
  | exit i=>exact key _ rfl (by simp)
  | goto l=>exact key _ rfl (by simp)
  | ret=>exact key _ rfl (by simp)
  | panic ch=>exact key _ rfl (by simp)
  | outgrown=>exact key _ rfl (by simp)
 | cond c x y ihx ihy=>
  intro Q σ h W Φ ρ a w hr ht hd;simp only[Y2]at h;cases hc:Y5 c with
  | none=>simp[hc,wpc]at h
  | some c'=>
   simp only[hc,wpc]at h;have hv:=T4 ht hc;generalize ev σ.t c'=z at h hv;split at h
   ·generalize hz:a.eval c=v at hv;cases hv;exact wp_cond_true hz (ihx _ _ h W Φ ρ a w hr ht hd)
   ·generalize hz:a.eval c=v at hv;cases hv;exact wp_cond_false hz (ihy _ _ h W Φ ρ a w hr ht hd)
   ·exact h.elim
 | block id c ih=>
  intro Q σ h W Φ ρ a w hr ht hd;simp only[Y2,wpc]at h;refine wp_block (wp_mono (ih _ _ h W Φ ρ a w hr ht hd) ?_);intro e a' w' hl;cases e with
  | exit i=>
   simp only[Exit.inBlock];obtain⟨σ',Φ',ρ',h1,h2,h3,h4,h5,h6,h7⟩:=hl;simp only[Zao]at h7;split
   ·rename_i hi;rw[if_pos hi]at h7;exact⟨σ',Φ',ρ',h1,h2,h3,h4,h5,h6,h7⟩
   ·rename_i hi;rw[if_neg hi]at h7;exact⟨σ',Φ',ρ',h1,h2,h3,h4,h5,h6,h7⟩
  | normal=>exact hl
  | goto l=>exact hl
  | ret=>exact hl
  | panic ch=>exact hl
  | outgrown=>exact hl
 | loop c ih=>
  intro Q σ h W Φ ρ a w hr ht hd;simp only[Y2,wpc]at h;obtain⟨I,⟨n0,σ0,hs0,h0⟩,hround⟩:=h;obtain⟨Φ1,hE1,hr1,ht1⟩:=hs0.rel W Φ ρ a.tmps w hr ht;refine wp_loop_ghost (fun n a' w'=>∃ σ' Φ' ρ',Ext Φ ρ Φ' ρ'∧KeepN σ.m.next ρ ρ'∧σ.m.next≤σ'.m.next∧Rel W Φ' ρ' σ'.m w'∧RL Φ' ρ' σ'.t a'.tmps∧a'.defers=[]∧I n σ') n0
   ⟨σ0,Φ1,ρ,hE1,.refl _ _,hs0.next,hr1,ht1,hd,h0⟩ ?_
  rintro n a' w' ⟨σ',Φ',ρ',h1,h2,h3,h4,h5,h6,h7⟩;refine wp_mono (ih _ _ (hround n σ' h7) W Φ' ρ' a' w' h4 h5 h6) ?_;intro e a'' w'' hl;have key:∀ e',e=e'→e'≠.normal→lift W Φ ρ σ.m.next Q e a'' w'':=by
   intro e' he hne;refine Zzl h1 h2 h3 (Zus hl fun σ'' hq=>?_)
   subst he;cases e<;>first|exact absurd rfl hne|exact hq
  cases e with
  | normal=>
   obtain⟨σ'',Φ'',ρ'',g1,g2,g3,g4,g5,g6,k,σ0,g7,g8,g9⟩:=hl;obtain⟨Φ3,hE3,hr3,ht3⟩:=g8.rel W Φ'' ρ'' _ _ g4 g5;exact⟨k,g7,σ0,Φ3,ρ'',(h1.trans g1).trans hE3,h2.trans g2 h3,Nat.le_trans (Nat.le_trans h3 g3) g8.next,hr3,ht3,g6,g9⟩
  | exit i=>exact key _ rfl (by simp)
  | goto l=>exact key _ rfl (by simp)
  | ret=>exact key _ rfl (by simp)
  | panic ch=>exact key _ rfl (by simp)
  | outgrown=>exact key _ rfl (by simp)
 | exit id=>exact fun Q σ h W Φ ρ a w hr ht hd=>wp_exit ⟨σ,Φ,ρ,.refl _ _,.refl _ _,Nat.le_refl _,hr,ht,hd,h⟩
 | scope c ih=>
  intro Q σ h W Φ ρ a w hr ht hd;simp only[Y2,wpc]at h;refine wp_scope_straight (wp_mono (ih _ _ h W Φ ρ a w hr ht hd) ?_);intro e a' w' hl;cases e with
  | goto l=>
   obtain⟨σ',Φ',ρ',h1,h2,h3,h4,h5,h6,h7⟩:=hl;exact h7.elim
  | normal=>exact hl
  | exit i=>exact hl
  | ret=>exact hl
  | panic ch=>exact hl
  | outgrown=>exact hl
 | label l=>exact fun Q σ h W Φ ρ a w hr ht hd=>wp_label ⟨σ,Φ,ρ,.refl _ _,.refl _ _,Nat.le_refl _,hr,ht,hd,h⟩
 | ret=>exact fun Q σ h W Φ ρ a w hr ht hd=>wp_ret ⟨σ,Φ,ρ,.refl _ _,.refl _ _,Nat.le_refl _,hr,ht,hd,h⟩
 | rangeFunc f ps x y _ _=>exact fun Q σ h=>by simp[Y2,wpc]at h
 | goto l=>exact fun Q σ h=>by simp[Y2,wpc]at h
 | refuse s=>exact fun Q σ h=>by simp[Y2,wpc]at h
end Go.AE
end
section
namespace Go.AE
open Go.RowKit
section runs
variable {P:Program} {w:World}
theorem W8{t:TypeId}{d:TypeDesc}(h:P.underlying t=some d):(underlying t).run P w=.ok d w:=by simp[underlying,h]
theorem Zb5{t:TypeId}{i:TypeInfo}(h:P.info? t=some i):(typeInfo t).run P w=.ok i w:=by simp[typeInfo,h]
theorem E8{t:TypeId}{i:TypeInfo}(h:P.info? t=some i):(sizeOf t).run P w=.ok i.size w:=by simp[sizeOf,Zb5 h]
theorem Zdv{t:TypeId}{i:TypeInfo}{z:Value}(h:P.info? t=some i)(hz:i.zero=some z):(zeroValue t).run P w=.ok z w:=by simp[zeroValue,Zb5 h,hz]
end runs
theorem Addr.add_none(B o n:Nat):(Addr.add ⟨B,o,none⟩ n)=⟨B,o+n,none⟩:=by
 unfold Addr.add;split
 ·rename_i h; simp[h]
 ·rfl
def R8(w:World)(B:Nat)(o:Obj):World:={ w with heap:=w.heap.setIfInBounds B o }
theorem Zef(w:World)(B C:Nat)(o:Obj):(R8 w B o).heap[C]? = if B=C∧B<w.heap.size then some o else w.heap[C]?:=by
 unfold R8;simp only[Array.getElem?_setIfInBounds];by_cases h:B=C
 ·subst h;by_cases h2:B<w.heap.size<;>simp[h2]
 ·simp[h]
theorem Z61(w:World)(B:Nat)(o o':Obj):R8 (R8 w B o) B o'=R8 w B o':=by
 unfold R8;simp[Array.setIfInBounds_setIfInBounds]
theorem Zlf{w:World}{B:Nat}{o:Obj}(h:w.heap[B]? = some o):R8 w B o=w:=by
 unfold R8;have:w.heap.setIfInBounds B o=w.heap:=by
  apply Array.ext_getElem?;intro i;rw[Array.getElem?_setIfInBounds];by_cases hi:B=i
  ·subst hi;rw[if_pos rfl];have hB:B<w.heap.size:=by
    rcases Nat.lt_or_ge B w.heap.size with h'|h'
    ·exact h'
    ·rw[Array.getElem?_eq_none h']at h; cases h
   rw[if_pos hB,h]
  ·rw[if_neg hi]
 rw[this]
theorem Z5f{w:World}{B off:Nat}{c:Array Value}{e:TypeId}{fz:Nat×Nat}(h:w.heap[B]? = some (.cells c e fz))(v:Value) :
 w.setCell ⟨B,off,none⟩ v=R8 w B (.cells (c.setIfInBounds off v) e fz):=by
 unfold World.setCell R8
 congr 1
 apply Array.ext_getElem?;intro i;rw[Array.getElem?_modify,Array.getElem?_setIfInBounds];by_cases hi:B=i
 ·subst hi;have hB:B<w.heap.size:=by
   rcases Nat.lt_or_ge B w.heap.size with h'|h'
   ·exact h'
   ·rw[Array.getElem?_eq_none h']at h; cases h
  have hget:w.heap[B]=.cells c e fz:=by rw[Array.getElem?_eq_getElem hB]at h; injection h
  simp[hB,hget]
 ·simp[hi]
def O5(c:Array Value)(off:Nat):List Value→Array Value
 | []=>c
 | v :: r=>O5 (c.setIfInBounds off v) (off+1) r
theorem Ze0(vs:List Value):∀ (c:Array Value) (off:Nat),(O5 c off vs).size=c.size:=by
 induction vs with
 | nil=>intro c off; rfl
 | cons v r ih=>intro c off; simp[O5,ih]
theorem Zjp(vs:List Value):∀ (c:Array Value) (off:Nat),(∀ v,v∈c.toList→v.oneCell'=true)→(∀ v,v∈vs→v.oneCell'=true) → ∀ v,v∈(O5 c off vs).toList→v.oneCell'=true:=by
 induction vs with
 | nil=>intro c off h _; exact h
 | cons x r ih=>
  intro c off h h1;refine ih _ _ (fun v hv=>?_) (fun v hv=>h1 v (List.mem_cons_of_mem _ hv))
  rw[Array.toList_setIfInBounds]at hv;rcases List.mem_or_eq_of_mem_set hv with hv|hv
  ·exact h v hv
  ·subst hv; exact h1 _ (List.mem_cons_self ..)
theorem Zpc(vs:List Value):∀ (c:Array Value) (off p:Nat),(O5 c off vs)[p]? = if off≤p∧p<off+vs.length∧p<c.size then vs[p - off]? else c[p]?:=by
 induction vs with
 | nil=>intro c off p; simp[O5]; intro h1 h2; omega
 | cons v r ih=>
  intro c off p;simp only[O5,ih,Array.size_setIfInBounds,List.length_cons,Array.getElem?_setIfInBounds];by_cases h1:off+1≤p∧p<off+1+r.length∧p<c.size
  ·rw[if_pos h1,if_pos (by omega)]
   have:p - off=(p - (off+1))+1:=by omega
   rw[this,List.getElem?_cons_succ]
  ·rw[if_neg h1];by_cases h2:off=p
   ·subst h2;by_cases h3:off<c.size
    ·simp[h3]
    ·simp[h3]
   ·rw[if_neg h2,if_neg (by omega)]
theorem Zpf{P:Program}{B o:Nat}{e:TypeId}:∀ (vs:List Value) (i:Nat) (w:World) (c:Array Value),(∀ v,v∈vs→v.oneCell'=true)→w.heap[B]? = some (.cells c e (0,0))→o+i+vs.length≤c.size →
 (storeCells ⟨B,o,none⟩ vs i).run P w=.ok () (R8 w B (.cells (O5 c (o+i) vs) e (0,0)))
 | [],i,w,c,_,h,_=>by
  simp only[storeCells,O5,Sem.run_pure,Zlf h]
 | v :: r,i,w,c,hv,h,hl=>by
  simp only[List.length_cons]at hl;have hcell:w.cell? (Addr.add ⟨B,o,none⟩ i)=some c[o+i]:=by
   rw[Addr.add_none];simp only[World.cell?,h,Option.isSome_none,bF,if_false];exact Array.getElem?_eq_getElem (by omega)
  have hfz:w.frozen? (Addr.add ⟨B,o,none⟩ i)=false:=by
   rw[Addr.add_none];simp[World.frozen?,h]
  have hB:B<w.heap.size:=by
   rcases Nat.lt_or_ge B w.heap.size with h'|h'
   ·exact h'
   ·rw[Array.getElem?_eq_none h']at h; cases h
  have hset:=Z5f (off:=o+i) h v;have h2:(R8 w B (.cells (c.setIfInBounds (o+i) v) e (0,0))).heap[B]? = some (.cells (c.setIfInBounds (o+i) v) e (0,0)):=by
   rw[Zef]; simp[hB]
  have ih:=Zpf (P:=P) (B:=B) (o:=o) (e:=e) r (i+1) _ (c.setIfInBounds (o+i) v) (fun u hu=>hv u (List.mem_cons_of_mem _ hu)) h2 (by simp; omega)
  rw[storeCells,Sem.run_bind,run_store _ _ _ _ _ (hv v List.mem_cons_self),hcell,hfz];simp only[bF,if_false,Result.andThen_ok];rw[Addr.add_none,hset,ih,Z61];rfl
theorem Zxy{P:Program}{w:World}{B o:Nat}{c:Array Value}{e:TypeId}{fz:Nat×Nat}(h:w.heap[B]? = some (.cells c e fz)):∀ (n i:Nat) (acc:Array Value),o+i+n≤c.size →
 (loadCellsFrom ⟨B,o,none⟩ i n acc).run P w=.ok (acc++(c.extract (o+i) (o+i+n))) w
 | 0,i,acc,_=>by simp[loadCellsFrom]; omega
 | n+1,i,acc,hl=>by
  have hcell:w.cell? (Addr.add ⟨B,o,none⟩ i)=some c[o+i]:=by
   rw[Addr.add_none];simp only[World.cell?,h,Option.isSome_none,bF,if_false];exact Array.getElem?_eq_getElem (by omega)
  rw[loadCellsFrom,Sem.run_bind,run_load,hcell];simp only[Result.andThen_ok];rw[Zxy h n (i+1) _ (by omega)]
  congr 1
  apply Array.ext_getElem?;intro q;simp only[Array.getElem?_append,Array.size_push,Array.getElem?_extract,Array.getElem?_push];by_cases h1:q<acc.size
  ·rw[if_pos (by omega),if_neg (by omega),if_pos h1]
  ·rw[if_neg h1];by_cases h2:q=acc.size
   ·subst h2;have e0:o+i<c.size:=by omega
    simp[e0];omega
   ·rw[if_neg (by omega)]
    have e1:o+(i+1)+(q - (acc.size+1))=o+i+(q - acc.size):=by omega
    rw[e1];by_cases h3:q - acc.size<n+1
    ·rw[if_pos (by omega),if_pos (by omega)]
    ·rw[if_neg (by omega),if_neg (by omega)]
theorem Zrc{P:Program}{w:World}{B o n:Nat}{c:Array Value}{e:TypeId}{fz:Nat×Nat}(h:w.heap[B]? = some (.cells c e fz))(hl:o+n≤c.size) :
 (loadCells ⟨B,o,none⟩ n).run P w=.ok (c.extract o (o+n)) w:=by
 rw[loadCells,Zxy h n 0 #[] (by omega)]
 simp
theorem Base.Holds.put{W:Base}{w:World}{B:Nat}{o:Obj}(h:W.Holds w)(hB:W.Free B):W.Holds (R8 w B o):=by
 refine⟨h.below.trans ⟨rfl,rfl,rfl,by simp[R8],fun k hk=>?_⟩,fun k o' hk=>?_⟩
 ·have:=hB.1;rw[Zef,if_neg (by omega)]
 ·rw[Zef,if_neg]
  ·exact h.prot k o' hk
  ·rintro⟨rfl,_⟩;rw[hB.2]at hk; cases hk
theorem Base.Holds.alloc{W:Base}{w:World}(h:W.Holds w)(o:Obj):W.Holds (w.alloc o):=
 ⟨h.below.alloc h.below.size o,fun k o' hk=>by
  have ho:=h.prot k o' hk;rw[Below.heap_alloc w o k (B7 ho)]; exact ho⟩
theorem Base.Holds.next_free{W:Base}{w:World}(h:W.Holds w):W.Free w.heap.size:=by
 refine⟨h.below.size,?_⟩;cases hg:W.g w.heap.size with
 | none=>rfl
 | some o=>exact absurd (B7 (h.prot _ _ hg)) (Nat.lt_irrefl _)
theorem Zpn{W:Base}{Φ:Pers}{ρ:Rho}{m:Mem}{w:World}{b:Nat}{x x':ABlk}{l:Loc}{o':Obj}(h:Rel W Φ ρ m w)(hb:m.get b=some x)(hl:ρ b=some l)
 (hr:BR Φ ρ x' l o'):Rel W Φ ρ (m.set b x') (R8 w l.blk o'):=by
 obtain⟨l0,o,g1,g2,g3,g4,g5⟩:=h.live b x hb;rw[hl]at g1;injection g1 with g1
 subst g1;have hlt:l.blk<w.heap.size:=by
  rcases Nat.lt_or_ge l.blk w.heap.size with h'|h'
  ·exact h'
  ·rw[Array.getElem?_eq_none h']at g4; cases g4
 refine⟨?_,?_,?_,?_,h.fresh,h.newp⟩
 ·exact h.base.put g2
 ·intro B c hB;obtain⟨e,fz,ho⟩:=h.pers B c hB;refine⟨e,fz,?_⟩;rw[Zef,if_neg]
  ·exact ho
  ·rintro⟨rfl,_⟩;rw[hB]at g3; cases g3
 ·intro b' y hy;simp only[Mem.get_set]at hy;by_cases hbb:b'=b
  ·subst hbb;rw[if_pos rfl]at hy;injection hy with hy
   subst hy;exact⟨l,o',hl,g2,g3,by rw[Zef,if_pos ⟨rfl,hlt⟩],hr⟩
  ·rw[if_neg hbb]at hy;obtain⟨l',o'',k1,k2,k3,k4,k5⟩:=h.live b' y hy;refine⟨l',o'',k1,k2,k3,?_,k5⟩;rw[Zef,if_neg]
   ·exact k4
   ·rintro⟨he,_⟩;exact hbb (h.inj b' b y x l' l hy hb k1 hl he.symm)
 ·intro b1 b2 y1 y2 l1 l2 h1 h2 k1 k2 he;have e1:∃ y,m.get b1=some y:=by
   simp only[Mem.get_set]at h1;by_cases hbb:b1=b
   ·exact⟨x,by rw[hbb]; exact hb⟩
   ·rw[if_neg hbb]at h1; exact⟨_,h1⟩
  have e2:∃ y,m.get b2=some y:=by
   simp only[Mem.get_set]at h2;by_cases hbb:b2=b
   ·exact⟨x,by rw[hbb]; exact hb⟩
   ·rw[if_neg hbb]at h2; exact⟨_,h2⟩
  obtain⟨z1,e1⟩:=e1;obtain⟨z2,e2⟩:=e2;exact h.inj b1 b2 z1 z2 l1 l2 e1 e2 k1 k2 he
def Rho.put(ρ:Rho)(b:Nat)(l:Loc):Rho:=fun c=>if c=b then some l else ρ c
theorem Rho.ext_put{Φ:Pers}{ρ:Rho}{b:Nat}{l:Loc}(h:ρ b=none):Ext Φ ρ Φ (ρ.put b l):=
 ⟨fun _ _ h=>h,fun c k hc=>by
  unfold Rho.put;rw[if_neg]
  ·exact hc
  ·rintro rfl; rw[h]at hc; cases hc⟩
theorem Rho.put_same{ρ:Rho}{b:Nat}{l:Loc}:ρ.put b l b=some l:=by simp[Rho.put]
theorem Yfc{W:Base}{Φ:Pers}{ρ:Rho}{m:Mem}{w:World}{b:Nat}{x:ABlk}{l:Loc}{o:Obj}(h:Rel W Φ ρ m w)(hn:ρ b=none)(hlt:b<m.next)(hl:l.blk=w.heap.size)
 (hr:BR Φ (ρ.put b l) x l o):Rel W Φ (ρ.put b l) (m.set b x) (w.alloc o):=by
 have hx:=Rho.ext_put (Φ:=Φ) (l:=l) hn;have old:∀ k,k<w.heap.size→(w.alloc o).heap[k]? = w.heap[k]?:=fun k hk=>Below.heap_alloc w o k hk
 have some_lt:∀ (k:Nat) (o':Obj),w.heap[k]? = some o'→k<w.heap.size:=fun k o' ho=>by
  rcases Nat.lt_or_ge k w.heap.size with h'|h'
  ·exact h'
  ·rw[Array.getElem?_eq_none h']at ho; cases ho
 have hbm:m.get b=none:=by
  cases hg:m.get b with
  | none=>rfl
  | some y=>
   obtain⟨l',o',h1,_⟩:=h.live b y hg;rw[hn]at h1; cases h1
 have rne:∀ b' l',b'≠b→ρ.put b l b'=some l'→ρ b'=some l':=fun b' l' hb' he=>by
  unfold Rho.put at he; rw[if_neg hb']at he; exact he
 refine⟨h.base.alloc o,?_,?_,?_,?_,h.newp⟩
 ·intro B c hB;obtain⟨e,fz,ho⟩:=h.pers B c hB;exact⟨e,fz,by rw[old B (some_lt _ _ ho)]; exact ho⟩
 ·intro b' y hy;simp only[Mem.get_set]at hy;by_cases hbb:b'=b
  ·subst hbb;rw[if_pos rfl]at hy;injection hy with hy
   subst hy;refine⟨l,o,Rho.put_same,by rw[hl]; exact h.base.next_free,?_,?_,hr⟩
   ·cases hp:Φ l.blk with
    | none=>rfl
    | some c=>
     obtain⟨e,fz,ho⟩:=h.pers _ c hp;have:=some_lt _ _ ho;omega
   ·rw[hl];show(w.heap.push o)[w.heap.size]? = some o;rw[Array.getElem?_push,if_pos rfl]
  ·rw[if_neg hbb]at hy;obtain⟨l',o',k1,k2,k3,k4,k5⟩:=h.live b' y hy;exact⟨l',o',hx.rho _ _ k1,k2,k3,by rw[old _ (some_lt _ _ k4)]; exact k4,k5.ext hx⟩
 ·intro b1 b2 y1 y2 l1 l2 h1 h2 k1 k2 he;simp only[Mem.get_set]at h1 h2;by_cases hb1:b1=b
  ·by_cases hb2:b2=b
   ·rw[hb1,hb2]
   ·rw[if_neg hb2]at h2;have k2':=rne _ _ hb2 k2;obtain⟨l',o',g1,_,_,g4,_⟩:=h.live b2 y2 h2;rw[k2']at g1; injection g1 with g1; subst g1
    rw[hb1,Rho.put_same]at k1;injection k1 with k1; subst k1
    have:=some_lt _ _ g4;omega
  ·rw[if_neg hb1]at h1;have k1':=rne _ _ hb1 k1;obtain⟨l',o',g1,_,_,g4,_⟩:=h.live b1 y1 h1;rw[k1']at g1; injection g1 with g1; subst g1
   by_cases hb2:b2=b
   ·rw[hb2,Rho.put_same]at k2;injection k2 with k2; subst k2
    have:=some_lt _ _ g4;omega
   ·rw[if_neg hb2]at h2;exact h.inj b1 b2 y1 y2 l1 l2 h1 h2 k1' (rne _ _ hb2 k2) he
 ·intro b' l' hb';by_cases hbb:b'=b
  ·rw[hbb]; exact hlt
  ·exact h.fresh b' l' (rne _ _ hbb hb')
theorem Zrd{W:Base}{Φ:Pers}{ρ:Rho}{m:Mem}{w:World}(h:Rel W Φ ρ m w){x:AVal}{v:Value}(hx:R Φ ρ x v){row:List AVal}{j:Nat}(hr:rowAt m x=some (row,j)) :
 ∃ B o c e fz,v=.pointer (some ⟨B,o,none⟩)∧w.heap[B]? = some (.cells c e fz) ∧ ∀ i y,row[j+i]? = some y → ∃ u,c[o+i]? = some u∧R Φ ρ y u:=by
 cases hx with
 | ptr b i j' l hl=>
  simp only[rowAt]at hr;cases hg:m.get b with
  | none=>simp[hg]at hr
  | some y=>
   cases y with
   | cells k els=>
    simp only[hg]at hr;cases he:els[i]? with
    | none=>simp[he]at hr
    | some row'=>
     simp only[he,oI,pI2]at hr;obtain⟨rfl,rfl⟩:=hr;obtain⟨l',o,g1,g2,g3,g4,g5⟩:=h.live b _ hg;rw[hl]at g1; injection g1 with g1; subst g1
     cases g5 with
     | cells k els _ c e hk hn hlen hrow _=>
      subst hk;refine⟨_,_,c,e,(0,0),rfl,g4,fun q y hy=>?_⟩
      obtain⟨u,hu,_,hru⟩:=hrow.2 i row' (j'+q) y he hy;exact⟨u,by rw[← hu]; congr 1; omega,hru⟩
   | map es clock=>simp[hg]at hr
   | siter s pos=>simp[hg]at hr
   | miter a b c d=>simp[hg]at hr
 | iptr els i j' B o k c f hB hk hc hrr=>
  simp only[rowAt]at hr;cases he:els[i]? with
  | none=>simp[he]at hr
  | some row'=>
   simp only[he,oI,pI2]at hr;obtain⟨rfl,rfl⟩:=hr;obtain⟨e,fz,ho⟩:=h.pers B c hB;refine⟨B,_,c,e,fz,rfl,ho,fun q y hy=>?_⟩
   refine⟨f i (j'+q),?_,hrr i row' (j'+q) y he hy⟩;rw[← (hc i row' (j'+q) y he hy).1]
   congr 1; omega
 | _=>simp[rowAt]at hr
end Go.AE
end
section
namespace Go.AE
open Go.RowKit
def Done(P:Program)(s:Sem Next)(W:Base)(Φ:Pers)(ρ:Rho)(id:Nat)(w:World)(x:AVal)(m':Mem):Prop:=
 ∃ v w' Φ' ρ',(s.run P w=.ok (.value v) w'∨(s.run P w=.ok .skip w'∧v=undef))∧Ext Φ ρ Φ' ρ'∧(∀ b,b≠id→ρ b=none→ρ' b=none)∧Rel W Φ' ρ' m' w'∧R Φ' ρ' x v
section
variable {P:Program} {s:Sem Next} {W:Base} {Φ:Pers} {ρ:Rho} {id:Nat} {w w1:World} {m m':Mem} {x:AVal} {v:Value}
theorem Done.val(h:s.run P w=.ok (.value v) w)(hr:Rel W Φ ρ m w)(hR:R Φ ρ x v):Done P s W Φ ρ id w x m:=
 ⟨v,w,Φ,ρ,.inl h,.refl _ _,fun _ _ h=>h,hr,hR⟩
theorem Zeu(Φ:Pers)(ρ:Rho):R Φ ρ aundef undef:=.tuple [] #[] rfl (fun i x v hx=>by simp at hx)
theorem Done.upd{b:Nat}{x0 x':ABlk}{l:Loc}{o':Obj}(h:s.run P w=.ok .skip (R8 w l.blk o'))(hr:Rel W Φ ρ m w)(hb:m.get b=some x0)(hl:ρ b=some l)(hbr:BR Φ ρ x' l o') :
 Done P s W Φ ρ id w aundef (m.set b x'):=
 ⟨undef,_,Φ,ρ,.inr ⟨h,rfl⟩,.refl _ _,fun _ _ h=>h,Zpn hr hb hl hbr,Zeu _ _⟩
theorem Done.updV{b:Nat}{x0 x':ABlk}{l:Loc}{o':Obj}(h:s.run P w=.ok (.value v) (R8 w l.blk o'))(hr:Rel W Φ ρ m w)(hb:m.get b=some x0)(hl:ρ b=some l)(hbr:BR Φ ρ x' l o')(hR:R Φ ρ x v) :
 Done P s W Φ ρ id w x (m.set b x'):=
 ⟨v,_,Φ,ρ,.inl h,.refl _ _,fun _ _ h=>h,Zpn hr hb hl hbr,hR⟩
theorem Done.new{blk:ABlk}{l:Loc}{o:Obj}(h:s.run P w=.ok (.value v) (w1.alloc o))(hr:Rel W Φ ρ m w1)(hn:ρ id=none)(hlt:id<m.next)(hl:l.blk=w1.heap.size)
 (hbr:BR Φ (ρ.put id l) blk l o) (hR:R Φ (ρ.put id l) x v):Done P s W Φ ρ id w x (m.set id blk):=
 ⟨v,_,Φ,ρ.put id l,.inl h,Rho.ext_put hn,fun b hb h0=>by unfold Rho.put; rw[if_neg hb]; exact h0,Yfc hr hn hlt hl hbr,hR⟩
theorem R.cells_R{cs:List AVal}(h:R Φ ρ x v)(hc:x.cells=some cs):RL Φ ρ cs v.cells:=by
 have one:∀ (y:AVal) (u:Value),R Φ ρ y u→RL Φ ρ [y] #[u]:=fun y u hy=>⟨rfl,fun i x v hx hv=>by
  cases i with
  | zero=>
   simp only[List.getElem?_cons_zero,oI]at hx;have:u=v:=by simpa using hv
   subst hx; subst this;exact hy
  | succ i=>simp at hx⟩
 have h':=h;cases h<;>(try simp only[AVal.cells]at hc)<;>first|(cases hc; done)|skip
 all_goals (injection hc with hc; subst hc)
 case agg cs vs hs hr=>exact ⟨hs,hr⟩
 all_goals exact one _ _ h'
theorem Zjn{y:AVal}{u:Value}(h:R Φ ρ y u)(h1:y.one=true):u.oneCell'=true:=by
 cases h<;>simp_all[AVal.one,Value.oneCell']
theorem Zk4{cs:List AVal}{vs:Array Value}(h:RL Φ ρ cs vs)(h1:cs.all AVal.one=true):∀ v,v∈vs.toList→v.oneCell'=true:=by
 intro u hu;obtain⟨q,hq,rfl⟩:=List.getElem_of_mem hu;simp only[Array.length_toList]at hq;have hq':q<cs.length:=by rw[← h.1]; exact hq
 have h2:=h.2 q _ _ (gE hq') (Array.getElem?_eq_getElem hq);simpa using Zjn h2 (List.all_eq_true.1 h1 _ (List.getElem_mem hq'))
theorem Z72{cs:List AVal}{vs:Array Value}(h:RL Φ ρ cs vs)(h1:cs.all AVal.one=true):RowsIn Φ ρ [cs] 0 cs.length vs:=by
 refine⟨fun i row hi=>?_,fun i row j y hi hj=>?_⟩
 ·cases i with
  | zero=>simp at hi; rw[hi]
  | succ i=>simp at hi
 ·cases i with
  | zero=>
   simp only[List.getElem?_cons_zero,oI]at hi;subst hi;have hlt:j<cs.length:=(gS.1 hj).1;have hv:vs[j]? = some (vs[j]'(by rw[h.1]; exact hlt)):=Array.getElem?_eq_getElem _
   exact⟨_,by simpa using hv,Zjn (h.2 j y _ hj hv) (List.all_eq_true.1 h1 y (List.mem_of_getElem? hj)),h.2 j y _ hj hv⟩
  | succ i=>simp at hi
theorem BR.ext_put{blk:ABlk}{l l0:Loc}{o:Obj}(hn:ρ id=none)(h:BR Φ ρ blk l0 o):BR Φ (ρ.put id l) blk l0 o:=h.ext (Rho.ext_put hn)
theorem Zwp{e:TypeId}{cs:List AVal}{y:AVal}(hr:Rel W Φ ρ m w)(hn:ρ id=none)(hlt:id<m.next)(hy:R Φ ρ y v)(hc:y.cells=some cs)(h1:cs.all AVal.one=true)
 (h:s.run P w=.ok (.value (.pointer (some ⟨w.heap.size,0,none⟩))) (w.alloc (.cells v.cells e))) :
 Done P s W Φ ρ id w (.ptr id 0 0) (m.set id (.cells cs.length [cs])):=by
 have hcs:=hy.cells_R hc;refine Done.new (l:=⟨w.heap.size,0,cs.length,1⟩) h hr hn hlt rfl (BR.ext_put hn (.cells _ _ _ _ _ rfl (by simp[hcs.1]) (by simp) (Z72 hcs h1) (Zk4 hcs h1))) ?_
 have:=R.ptr (Φ:=Φ) (ρ:=ρ.put id ⟨w.heap.size,0,cs.length,1⟩) id 0 0 _ Rho.put_same;simpa using this
theorem Zeo{t:TypeId}{zs:List AVal}(h:Zcd P t=some zs)(Φ:Pers)(ρ:Rho):∃ i z y,P.info? t=some i∧i.zero=some z∧R Φ ρ y z∧y.cells=some zs∧zs.all AVal.one=true:=by
 unfold Zcd Zi1 at h;cases hi:P.info? t with
 | none=>simp[hi]at h
 | some i=>
  cases hz:i.zero with
  | none=>simp[hi,hz]at h
  | some z=>
   cases hy:absV z with
   | none=>simp[hi,hz,hy]at h
   | some y=>
    simp only[hi,hz,hy]at h;cases hc:y.cells with
    | none=>simp[hc]at h
    | some cs=>
     simp only[hc]at h;split at h
     ·rename_i h1;injection h with h; subst h
      exact⟨i,z,y,rfl,hz,Zro Φ ρ hy,hc,h1⟩
     ·cases h
def aggD:TypeDesc→Bool
 | .struct _ | .array _ _=>true
 | _=>false
theorem Zyv{t:TypeId}{n:Option Nat}(h:Zcp P t=some n):∃ d i,P.underlying t=some d∧P.info? t=some i ∧
 ((n=some i.size∧aggD d=true)∨(n=none∧aggD d=false)):=by
 unfold Zcp at h;cases hd:P.underlying t with
 | none=>simp[hd]at h
 | some d=>
  cases hi:P.info? t with
  | none=>cases d<;>simp[hd,hi]at h
  | some i=>
   refine⟨d,i,rfl,rfl,?_⟩;cases d<;>simp[hd,hi]at h<;>first|exact .inl ⟨h.symm,rfl⟩|exact .inr ⟨h.symm,rfl⟩
theorem Zrf{t:TypeId}{d:TypeDesc}(h:P.underlying t=some d):(isAgg t).run P w=.ok (aggD d) w:=by
 simp only[isAgg,Sem.run_bind,W8 h,Result.andThen_ok];cases d<;>rfl
theorem Zwn{t:TypeId}{n:Option Nat}{xa y:AVal}{va:Value}(hr:Rel W Φ ρ m w)(hx:R Φ ρ xa va)(hc:Zcp P t=some n)(hl:Zb0 m n xa=some y) :
 ∃ u,(Instr.loadAt t va).run P w=.ok u w∧R Φ ρ y u:=by
 unfold Zb0 at hl;cases hrow:rowAt m xa with
 | none=>simp[hrow]at hl
 | some rj=>
  obtain⟨row,j⟩:=rj;simp only[hrow]at hl;obtain⟨B,o,c,e,fz,rfl,hB,hcell⟩:=Zrd hr hx hrow;obtain⟨d,i,hd,hi,hcase⟩:=Zyv hc;have hagg:=Zrf (w:=w) hd;simp only[Instr.loadAt,Instr.sureAddr,Sem.run_bind,Sem.run_pure,Result.andThen_ok,loadVar,hagg];rcases hcase with⟨rfl,hd'⟩|⟨rfl,hd'⟩
  ·simp only at hl;split at hl
   ·rename_i hle;injection hl with hl
    subst hl;rw[hd'];simp only[if_true,Sem.run_bind,E8 hi,Result.andThen_ok];have hsz:o+i.size≤c.size:=by
     have hlt:j+(i.size - 1)<row.length:=by omega
     obtain⟨u,hu,_⟩:=hcell (i.size - 1) _ (gE hlt);have:=(Array.getElem?_eq_some_iff.1 hu).1;omega
    rw[Zrc hB hsz];refine⟨_,rfl,.agg _ _ (by simp; omega) fun q y v hy hv=>?_⟩
    have hq:q<i.size:=by
     have:=(gS.1 hy).1;simp at this; omega
    rw[List.getElem?_take,if_pos hq,List.getElem?_drop]at hy;obtain⟨u,hu,hru⟩:=hcell q y hy;rw[Array.getElem?_extract]at hv;split at hv
    ·rw[hu]at hv; injection hv with hv; subst hv; exact hru
    ·cases hv
   ·cases hl
  ·simp only at hl;rw[hd'];simp only[bF,if_false];obtain⟨u,hu,hru⟩:=hcell 0 y (by simpa using hl)
   have hcl:w.cell? ⟨B,o,none⟩=some u:=by
    simp only[World.cell?,hB,Option.isSome_none,bF,if_false];simpa using hu
   rw[run_load,hcl];exact⟨u,rfl,hru⟩
theorem Zyj(cs:List AVal):∀ (row:List AVal) (j:Nat),(U8 row j cs).length=row.length:=by
 induction cs with
 | nil=>intro row j; rfl
 | cons v r ih=>intro row j; simp[U8,ih]
theorem Zqm(cs:List AVal):∀ (row:List AVal) (j q:Nat),(U8 row j cs)[q]? = if j≤q∧q<j+cs.length∧q<row.length then cs[q - j]? else row[q]?:=by
 induction cs with
 | nil=>intro row j q; simp[U8]; intro h1 h2; omega
 | cons v r ih=>
  intro row j q;simp only[U8,ih,List.length_set,List.length_cons,List.getElem?_set];by_cases h1:j+1≤q∧q<j+1+r.length∧q<row.length
  ·rw[if_pos h1,if_pos (by omega)]
   have:q - j=(q - (j+1))+1:=by omega
   rw[this,List.getElem?_cons_succ]
  ·rw[if_neg h1];by_cases h2:j=q
   ·subst h2;by_cases h3:j<row.length
    ·simp[h3]
    ·simp[h3]
   ·rw[if_neg h2,if_neg (by omega)]
theorem Z0z{a b k j n q:Nat}(hne:a≠b)(hj:j+n≤k)(hq:q<k):¬(a*k+j≤b*k+q∧b*k+q<a*k+j+n):=by
 rcases Nat.lt_or_gt_of_ne hne with h|h
 ·have:(a+1)*k≤b*k:=Nat.mul_le_mul_right k h;rw[Nat.add_mul]at this;omega
 ·have:(b+1)*k≤a*k:=Nat.mul_le_mul_right k h;rw[Nat.add_mul]at this;omega
theorem Zed{a n k q:Nat}(h:a<n)(hq:q<k):a*k+q<n*k:=by
 have:(a+1)*k≤n*k:=Nat.mul_le_mul_right k h;rw[Nat.add_mul]at this;omega
theorem Zuh{els:List (List AVal)}{sh k n i j:Nat}{c:Array Value}{row cs:List AVal}{vs:Array Value}(hrow:RowsIn Φ ρ els sh k c)(hn:c.size=n*k)(hl:sh+els.length≤n)
 (hi:els[i]? = some row) (hcs:RL Φ ρ cs vs) (h1:cs.all AVal.one=true) (hj:j+cs.length≤row.length):RowsIn Φ ρ (els.set i (U8 row j cs)) sh k (O5 c ((sh+i)*k+j) vs.toList):=by
 have hk:=hrow.1 i row hi;have hil:i<els.length:=(gS.1 hi).1;refine⟨fun i' row' h'=>?_,fun i' row' q x h' hq=>?_⟩
 ·rw[List.getElem?_set]at h';by_cases hii:i=i'
  ·rw[if_pos hii,if_pos hil]at h';injection h' with h'; subst h'; rw[Zyj,hk]
  ·rw[if_neg hii]at h';exact hrow.1 i' row' h'
 ·rw[List.getElem?_set]at h';rw[Zpc];simp only[Array.length_toList,hcs.1];by_cases hii:i=i'
  ·subst hii;rw[if_pos rfl,if_pos hil]at h';injection h' with h'
   subst h';rw[Zqm]at hq;by_cases hin:j≤q∧q<j+cs.length∧q<row.length
   ·rw[if_pos hin]at hq;have hlt:=Zed (a:=sh+i) (n:=n) (k:=k) (q:=q) (by omega) (by omega)
    rw[if_pos ⟨by omega,by omega,by omega⟩]
    have e1:(sh+i)*k+q - ((sh+i)*k+j)=q - j:=by omega
    rw[e1];have hlt2:q - j<vs.size:=by rw[hcs.1]; omega
    have hrr:=hcs.2 (q - j) x _ hq (Array.getElem?_eq_getElem hlt2);refine⟨vs[q - j],by simp[hlt2],Zjn hrr (List.all_eq_true.1 h1 x (List.mem_of_getElem? hq)),hrr⟩
   ·rw[if_neg hin]at hq;have hqr:q<row.length:=(gS.1 hq).1;rw[if_neg (by omega)]
    exact hrow.2 i row q x hi hq
  ·rw[if_neg hii]at h';have hqk:q<k:=by
    have h1:=hrow.1 i' row' h';have h2:=(gS.1 hq).1;omega
   have hap:=Z0z (a:=sh+i) (b:=sh+i') (k:=k) (j:=j) (n:=cs.length) (q:=q) (by omega) (by omega) hqk
   rw[if_neg (fun h=>hap ⟨h.1,h.2.1⟩)]
   exact hrow.2 i' row' q x h' hq
theorem Z5e{t:TypeId}{i:TypeInfo}{B o:Nat}{c:Array Value}{e:TypeId}(hi:P.info? t=some i)(hB:w.heap[B]? = some (.cells c e (0,0)))(hs:v.cells.size=i.size)
 (h1:∀ u,u∈v.cells.toList→u.oneCell'=true) (hl:o+i.size≤c.size) :
 (Instr.storeAt t (.pointer (some ⟨B,o,none⟩)) v).run P w=.ok () (R8 w B (.cells (O5 c o v.cells.toList) e (0,0))):=by
 simp only[Instr.storeAt,Instr.sureAddr,Sem.run_bind,Sem.run_pure,Result.andThen_ok,storeVar,E8 hi];rw[if_neg (by simp[hs])]
 have:=Zpf (P:=P) (B:=B) (o:=o) (e:=e) v.cells.toList 0 w c h1 hB (by simp[hs]; omega)
 simpa using this
theorem Ydf{t:TypeId}{n:Nat}{xa xv:AVal}{va vv:Value}{m':Mem}(hr:Rel W Φ ρ m w)(hx:R Φ ρ xa va)(hv:R Φ ρ xv vv)(hc:M1 P t=some n)(hst:Zen m n xa xv=some m')
 (he:s.run P w=match (Instr.storeAt t va vv).run P w with | .ok _ w'=>.ok .skip w' | .halt h w'=>.halt h w'):Done P s W Φ ρ id w aundef m':=by
 unfold Zen at hst;cases xa with
 | ptr b i j=>
  cases hcs:xv.cells with
  | none=>simp[hcs]at hst
  | some cs=>
   simp only[hcs]at hst;cases hg:m.get b with
   | none=>simp[hg]at hst
   | some blk=>
    cases blk with
    | cells k els=>
     simp only[hg]at hst;cases hrow:els[i]? with
     | none=>simp[hrow]at hst
     | some row=>
      simp only[hrow]at hst;split at hst
      ·rename_i hcond;obtain⟨hc1,hc2,hc3⟩:=hcond;injection hst with hst
       subst hst;cases hx with
       | ptr _ _ _ l hl=>
        obtain⟨l',o,g1,g2,g3,g4,g5⟩:=hr.live b _ hg;rw[hl]at g1; injection g1 with g1; subst g1
        cases g5 with
        | cells _ _ _ c e hk hn hlen hrows h1c=>
         subst hk;have hcells:=hv.cells_R hcs;unfold M1 at hc;cases hi:P.info? t with
         | none=>simp[hi]at hc
         | some inf=>
          simp only[hi,Option.map_some,oI]at hc;have hk2:=hrows.1 i row hrow;have hil:i<els.length:=(gS.1 hrow).1;have hbound:(l.sh+i)*l.k+j+inf.size≤c.size:=by
           have:(l.sh+i+1)*l.k≤l.n*l.k:=Nat.mul_le_mul_right _ (by omega)
           rw[Nat.add_mul]at this;omega
          have hone:∀ u,u∈vv.cells.toList→u.oneCell'=true:=by
           intro u hu;obtain⟨q,hq,rfl⟩:=List.getElem_of_mem hu;simp only[Array.length_toList]at hq;have hq':q<cs.length:=by rw[← hcells.1]; exact hq
           have h1:=hcells.2 q _ _ (gE hq') (Array.getElem?_eq_getElem hq);have h2:(cs[q]).one=true:=List.all_eq_true.1 hc3 _ (List.getElem_mem hq');simpa using Zjn h1 h2
          have hrun:=Z5e (P:=P) (v:=vv) hi g4 (by rw[hcells.1,hc1,hc]) hone hbound
          rw[hrun]at he;exact Done.upd he hr hg hl (.cells _ _ _ _ _ rfl (by rw[Ze0,hn]) (by simpa using hlen) (Zuh hrows hn hlen hrow hcells hc3 (by omega)) (Zjp _ _ _ h1c hone))
      ·cases hst
    | map es clock=>simp[hg]at hst
    | siter s pos=>simp[hg]at hst
    | miter a b c d=>simp[hg]at hst
 | _=>simp at hst
end
end Go.AE
end
section
namespace Go.AE
open Go.RowKit
section
variable {P:Program} {s:Sem Next} {W:Base} {Φ:Pers} {ρ:Rho} {id:Nat} {w w1:World} {m m':Mem} {x:AVal} {v:Value}
theorem Ze5{y:AVal}{n:Nat}(h:R Φ ρ y v)(hn:V1 y=some n):∃ k,v=.int k (n:Int):=by
 cases h<;>simp only[V1]at hn<;>try (cases hn; done)
 split at hn
 ·rename_i k z h0;injection hn with hn
  subst hn;exact⟨k,by rw[Int.toNat_of_nonneg h0]⟩
 ·cases hn
theorem Zey{t:TypeId}{n:Nat}(h:M1 P t=some n):∃ i,P.info? t=some i∧i.size=n:=by
 unfold M1 at h;cases hi:P.info? t with
 | none=>simp[hi]at h
 | some i=>exact ⟨i,rfl,by simpa[hi]using h⟩
theorem Ztv{y z:AVal}{off:Nat}(h:R Φ ρ y v)(ha:R4 off y=some z):∃ B o,v=.pointer (some ⟨B,o,none⟩)∧R Φ ρ z (.pointer (some ⟨B,o+off,none⟩)):=by
 cases h with
 | ptr b i j l hl=>
  simp only[R4,oI]at ha;subst ha;refine⟨_,_,rfl,?_⟩;have:=R.ptr (Φ:=Φ) (ρ:=ρ) b i (j+off) l hl;rwa[← Nat.add_assoc]at this
 | iptr els i j B o k c f hB hk hc hr=>
  simp only[R4,oI]at ha;subst ha;refine⟨_,_,rfl,?_⟩;have:=R.iptr (Φ:=Φ) (ρ:=ρ) els i (j+off) B o k c f hB hk hc hr;rwa[← Nat.add_assoc]at this
 | _=>simp[R4]at ha
theorem Z1y{t:TypeId}{fs:Array Field}{i n:Nat}{f:Field}{y z:AVal}(ht:P.underlying t=some (.struct fs))(hf:fs[i]? = some f)(hn:M1 P f.type=some n)(h0:n≠0)
 (hy:R Φ ρ y v) (ha:R4 f.offset y=some z):∃ u,(Instr.fieldAt t v i).run P w=.ok u w∧R Φ ρ z u:=by
 obtain⟨B,o,rfl,hz⟩:=Ztv hy ha;obtain⟨inf,hi,hs⟩:=Zey hn;refine⟨_,?_,hz⟩;simp only[Instr.fieldAt,Sem.run_bind,W8 ht,Result.andThen_ok,hf,Instr.sureAddr,Sem.run_pure,fieldPlace,E8 hi,hs];rw[if_neg h0];simp[Addr.add_none]
theorem Zxb{t:TypeId}{n:Option Nat}{cs:List AVal}{vs:Array Value}{off:Nat}{z:AVal}(hc:Zcp P t=some n)(h:RL Φ ρ cs vs)(hp:Za1 cs off n=some z) :
 ∃ u,(part t vs off).run P w=.ok u w∧R Φ ρ z u:=by
 obtain⟨d,i,hd,hi,hcase⟩:=Zyv hc;have hagg:=Zrf (w:=w) hd;simp only[part,Sem.run_bind,hagg,Result.andThen_ok];rcases hcase with⟨rfl,hd'⟩|⟨rfl,hd'⟩
 ·rw[hd'];simp only[Za1]at hp;split at hp
  ·rename_i hle;injection hp with hp
   subst hp;simp only[if_true,Sem.run_bind,E8 hi,Result.andThen_ok,Sem.run_pure];refine⟨_,rfl,.agg _ _ (by simp[h.1]; omega) fun q y u hy hu=>?_⟩
   have hq:q<i.size:=by
    have:=(gS.1 hy).1;simp at this; omega
   rw[List.getElem?_take,if_pos hq,List.getElem?_drop]at hy;rw[Array.getElem?_extract]at hu;split at hu
   ·exact h.2 _ _ _ hy hu
   ·cases hu
  ·cases hp
 ·rw[hd'];simp only[Za1]at hp;simp only[bF,if_false];have hlt:=(gS.1 hp).1;have hv:vs[off]? = some (vs[off]'(by rw[h.1]; exact hlt)):=Array.getElem?_eq_getElem _
  rw[hv];exact⟨_,rfl,h.2 _ _ _ hp hv⟩
theorem Zj5{cs:List AVal}(h:R Φ ρ (.agg cs) v):∃ vs,v=.agg vs∧RL Φ ρ cs vs:=by
 cases h with
 | agg cs vs hs hr=>exact ⟨vs,rfl,hs,hr⟩
theorem Yfb{t:TypeId}{fs:Array Field}{i:Nat}{f:Field}{n:Option Nat}{cs:List AVal}{z:AVal}(ht:P.underlying t=some (.struct fs))(hf:fs[i]? = some f)(hn:Zcp P f.type=some n)
 (hy:R Φ ρ (.agg cs) v) (ha:Za1 cs f.offset n=some z):∃ u,(Instr.field t v i).run P w=.ok u w∧R Φ ρ z u:=by
 obtain⟨vs,rfl,h⟩:=Zj5 hy;obtain⟨u,hu,hz⟩:=Zxb (P:=P) (w:=w) hn h ha;refine⟨u,?_,hz⟩;simp only[Instr.field,Sem.run_bind,W8 ht,Result.andThen_ok,hf,asAgg,Sem.run_pure,hu]
theorem Zw4{t e:TypeId}{k i:Nat}{y:AVal}{z:AVal}{vi:Value}{ki:IntKind}(hr:Rel W Φ ρ m w)(ht:P.underlying t=some (.slice e))(hk:M1 P e=some k)(hy:R Φ ρ y v)(hi:vi=.int ki (i:Int))
 (h:(∃ b off len els,y=.sl b off len∧m.get b=some (.cells k els)∧i<len∧z=.ptr b (off+i) 0)∨(∃ els row,y=.imm els∧els[i]? = some row∧row.length=k∧z=.iptr els i 0)) :
 ∃ u,(Instr.indexAt t v vi).run P w=.ok u w∧R Φ ρ z u:=by
 subst hi;obtain⟨inf,hinf,hs⟩:=Zey hk;rcases h with⟨b,off,len,els,rfl,hb,hlt,rfl⟩|⟨els,row,rfl,hrow,hlen,rfl⟩
 ·cases hy with
  | sl _ _ _ a cap l hl hle hn hcap hav=>
   have ha:=hcap (by omega)
   subst ha;obtain⟨l',o,g1,g2,g3,g4,g5⟩:=hr.live b _ hb;rw[hl]at g1; injection g1 with g1; subst g1
   have hkl:l.k=k:=by cases g5 with|cells _ _ _ c e hk' _ _ _ _=>exact hk'
   refine⟨_,?_,R.ptr b (off+i) 0 l hl⟩;simp only[Instr.indexAt,asIntOf,Sem.run_bind,Sem.run_pure,Result.andThen_ok,W8 ht];rw[if_pos ⟨by omega,by omega⟩]
   simp only[Sem.run_bind,E8 hinf,Result.andThen_ok,Sem.run_pure,Int.toNat_natCast,Addr.add_none,hs]
   congr 4
   rw[hkl,← Nat.add_assoc,Nat.add_mul (l.sh+off) i];rfl
 ·cases hy with
  | imm0 a cap _=>simp at hrow
  | imm _ B o k' cap c f hne hcap hB hk' hc hrr=>
   have hlt:i<els.length:=(gS.1 hrow).1;have hkk:k'=k:=by rw[← hk' i row hrow,hlen]
   subst hkk;refine⟨_,?_,R.iptr els i 0 B o k' c f hB hk' hc hrr⟩;simp only[Instr.indexAt,asIntOf,Sem.run_bind,Sem.run_pure,Result.andThen_ok,W8 ht];rw[if_pos ⟨by omega,by omega⟩]
   simp only[Sem.run_bind,E8 hinf,Result.andThen_ok,Sem.run_pure,Int.toNat_natCast,Addr.add_none,hs];rfl
theorem Ybm{t e:TypeId}{n k i:Nat}{y z:AVal}{vi:Value}{ki:IntKind}(ht:P.underlying t=some (.array n e))(hk:M1 P e=some k)(hy:R Φ ρ y v)(hi:vi=.int ki (i:Int))(hlt:i<n)
 (ha:R4 (i*k) y=some z):∃ u,(Instr.indexAt t v vi).run P w=.ok u w∧R Φ ρ z u:=by
 subst hi;obtain⟨inf,hinf,hs⟩:=Zey hk;obtain⟨B,o,rfl,hz⟩:=Ztv hy ha;refine⟨_,?_,hz⟩;simp only[Instr.indexAt,asIntOf,Sem.run_bind,Sem.run_pure,Result.andThen_ok,W8 ht,Instr.sureAddr];rw[if_pos ⟨by omega,by omega⟩]
 simp only[Sem.run_bind,E8 hinf,Result.andThen_ok,Sem.run_pure,Int.toNat_natCast,Addr.add_none,hs]
theorem Z0i{t:TypeId}{l:List UInt8}{i:Nat}{c:UInt8}{vi:Value}{ki:IntKind}(ht:P.underlying t=some .string)(hy:R Φ ρ (.str l) v)(hi:vi=.int ki (i:Int))(hc:l[i]? = some c) :
 (Instr.index t v vi).run P w=.ok (.int .u8 c.toNat) w:=by
 subst hi;cases hy with
 | str _=>
  simp only[Instr.index,asIntOf,Sem.run_bind,Sem.run_pure,Result.andThen_ok,W8 ht];rw[if_pos (by omega)]
  have:(ByteArray.mk ⟨l⟩)[(i:Int).toNat]? = some c:=by
   simp only[Int.toNat_natCast];have hlt:=(gS.1 hc).1;have hlt':i<(ByteArray.mk ⟨l⟩).size:=hlt;rw[getElem?_pos (ByteArray.mk ⟨l⟩) i hlt'];rw[gE hlt]at hc;injection hc with hc
   subst hc;rfl
  rw[this];rfl
theorem Yeq{t e:TypeId}{n k i:Nat}{sz:Option Nat}{cs:List AVal}{z:AVal}{vi:Value}{ki:IntKind}(ht:P.underlying t=some (.array n e))(hk:M1 P e=some k)(hsz:Zcp P e=some sz)
 (hy:R Φ ρ (.agg cs) v) (hi:vi=.int ki (i:Int)) (hlt:i<n) (ha:Za1 cs (i*k) sz=some z):∃ u,(Instr.index t v vi).run P w=.ok u w∧R Φ ρ z u:=by
 subst hi;obtain⟨inf,hinf,hs⟩:=Zey hk;obtain⟨vs,rfl,h⟩:=Zj5 hy;obtain⟨u,hu,hz⟩:=Zxb (P:=P) (w:=w) hsz h ha;refine⟨u,?_,hz⟩;simp only[Instr.index,asIntOf,Sem.run_bind,Sem.run_pure,Result.andThen_ok,W8 ht];rw[if_pos ⟨by omega,by omega⟩]
 simp only[Sem.run_bind,E8 hinf,Result.andThen_ok,hs,Int.toNat_natCast];exact hu
end
end Go.AE
end
section
namespace Go.AE
open Go.RowKit
section
variable {P:Program} {s:Sem Next} {W:Base} {Φ:Pers} {ρ:Rho} {id:Nat} {w w1:World} {m m':Mem} {x:AVal} {v:Value}
theorem Zht{y:AVal}{n mx:Nat}{code:BoundsCode}(h:R Φ ρ y v)(hn:V1 y=some n)(hle:n≤mx):(Instr.sliceBound v mx code).run P w=.ok n w:=by
 obtain⟨k,rfl⟩:=Ze5 h hn;simp only[Instr.sliceBound,asIntOf,Sem.run_bind,Sem.run_pure,Result.andThen_ok];rw[if_pos ⟨by omega,by omega⟩]
 simp
def OptR(Φ:Pers)(ρ:Rho)(t:List AVal)(ao:Option AOpd)(vo:Option Value):Prop:=
 match ao,vo with
 | none,none=>True
 | some y,some u=>R Φ ρ (ev t y) u
 | _,_=>False
theorem Zki{t:List AVal}{a:Act}(h:RL Φ ρ t a.tmps){o:Option Operand}{ao:Option AOpd}(ho:D8 o=some ao):OptR Φ ρ t ao (o.map a.eval):=by
 cases o with
 | none=>
  simp only[D8,oI]at ho;subst ho;trivial
 | some y=>
  simp only[D8]at ho;cases hy:Y5 y with
  | none=>simp[hy]at ho
  | some z=>
   simp only[hy,oI]at ho;subst ho;exact T4 h hy
theorem Zi8{t:List AVal}{len mxlen cap l h:Nat}{lo hi:Option AOpd}{vlo vhi:Option Value}{b:Bool}(hlo:OptR Φ ρ t lo vlo)(hhi:OptR Φ ρ t hi vhi)(hs:D2 t len mxlen lo hi=some (l,h))
 (hc:mxlen≤cap):(Instr.sliceBounds b len cap vlo vhi none).run P w=.ok (l,h,cap) w∧l≤h∧h≤mxlen:=by
 unfold D2 at hs;cases hh:H0 t len hi with
 | none=>simp[hh]at hs
 | some h'=>
  simp only[hh]at hs;split at hs
  ·rename_i hle;cases hl:H0 t 0 lo with
   | none=>simp[hl]at hs
   | some l'=>
    simp only[hl]at hs;split at hs
    ·rename_i hle2;simp only[oI,pI2]at hs;obtain⟨rfl,rfl⟩:=hs;refine⟨?_,hle2,hle⟩;have e1:(vhi=none∧len=h') ∨ ∃ u,vhi=some u ∧ ∀(code:BoundsCode),(Instr.sliceBound u cap code).run P w=.ok h' w:=by
      cases hi with
      | none=>
       cases vhi with
       | none=>simp only[H0,oI]at hh; exact .inl ⟨rfl,hh⟩
       | some u=>exact hhi.elim
      | some y=>
       cases vhi with
       | none=>exact hhi.elim
       | some u=>exact .inr ⟨u,rfl,fun code=>Zht hhi hh (by omega)⟩
     have e2:(vlo=none∧0=l') ∨ ∃ u,vlo=some u ∧ ∀(code:BoundsCode),(Instr.sliceBound u h' code).run P w=.ok l' w:=by
      cases lo with
      | none=>
       cases vlo with
       | none=>simp only[H0,oI]at hl; exact .inl ⟨rfl,hl⟩
       | some u=>exact hlo.elim
      | some y=>
       cases vlo with
       | none=>exact hlo.elim
       | some u=>exact .inr ⟨u,rfl,fun code=>Zht hlo hl (by omega)⟩
     rcases e1 with⟨rfl,rfl⟩|⟨u1,rfl,e1⟩<;>rcases e2 with⟨rfl,rfl⟩|⟨u2,rfl,e2⟩ <;>
      simp only[Instr.sliceBounds,Sem.run_bind,Sem.run_pure,Result.andThen_ok, *]
    ·cases hs
  ·cases hs
theorem Zig{t e:TypeId}{k:Nat}{a:Option Addr}{len cap l h:Nat}{vlo vhi vmx:Option Value}{mc:Nat}(ht:P.underlying t=some (.slice e))(hk:M1 P e=some k)
 (hb:(Instr.sliceBounds true len cap vlo vhi vmx).run P w=.ok (l,h,mc) w) :
 (Instr.sliceAt t (.slice a len cap) vlo vhi vmx).run P w=.ok (.slice (if mc=l then a else a.map (·.add (l*k))) (h - l) (mc - l)) w:=by
 obtain⟨inf,hinf,hs⟩:=Zey hk;simp only[Instr.sliceAt,Instr.slice,Sem.run_bind,W8 ht,Result.andThen_ok,hb,E8 hinf,hs,Sem.run_pure]
theorem Zyr{els:List (List AVal)}{k:Nat}(h:(els.all fun r=>r.length == k)=true)(i:Nat)(row:List AVal)(hi:els[i]? = some row):row.length=k:=by
 have:=List.all_eq_true.1 h row (List.mem_of_getElem? hi);simpa using this
theorem Z06{els:List (List AVal)}{k l h len cap:Nat}{a:Option Addr}(hy:R Φ ρ (.imm els) (.slice a len cap))(hall:(els.all fun r=>r.length == k)=true)(hl:l≤h)(hh:h≤els.length) :
 R Φ ρ (.imm ((els.take h).drop l)) (.slice (if cap=l then a else a.map (·.add (l*k))) (h - l) (cap - l)):=by
 by_cases he:(els.take h).drop l=[]
 ·have hlen:h - l=0:=by
   have:=congrArg List.length he;simp at this;omega
  rw[he,hlen];refine .imm0 _ _ fun hp=>?_
  rw[if_neg (by omega)]
  cases hy with
  | imm0 a cap hz=>
   obtain⟨B,o,rfl⟩:=hz (by omega)
   exact⟨B,o+l*k,by simp only[Option.map_some,Addr.add_none]⟩
  | imm _ B o k' cap c f hne hcap hB hk' hc hrr=>exact ⟨B,o+l*k,by simp only[Option.map_some,Addr.add_none]⟩
 ·have hlt:l<h:=by
   rcases Nat.lt_or_ge l h with h1|h1
   ·exact h1
   ·exfalso;apply he;apply List.eq_nil_of_length_eq_zero;simp; omega
  cases hy with
  | imm0 a cap _=>simp at hh; omega
  | imm _ B o k' cap c f hne hcap hB hk' hc hrr=>
   have hkk:k'=k:=by
    have hpos:0<els.length:=by omega
    have e1:=hk' 0 _ (gE hpos);have e2:=Zyr hall 0 _ (gE hpos);omega
   subst hkk;rw[if_neg (by omega)]
   simp only[Option.map_some,Addr.add_none];have hget:∀ (i:Nat) (row:List AVal),((els.take h).drop l)[i]? = some row→els[l+i]? = some row:=by
    intro i row hi;rw[List.getElem?_drop,List.getElem?_take]at hi;split at hi
    ·exact hi
    ·cases hi
   have hlen:h - l=((els.take h).drop l).length:=by simp; omega
   rw[hlen];refine .imm _ B (o+l*k') k' (cap - l) c (fun i j=>f (l+i) j) he (by simp; omega) hB (fun i row hi=>hk' _ row (hget i row hi)) (fun i row j y hi hj=>?_) (fun i row j y hi hj=>hrr _ row j y (hget i row hi) hj)
   have:=hc (l+i) row j y (hget i row hi) hj;refine⟨?_,this.2⟩;rw[← this.1]
   congr 1
   rw[Nat.add_mul]; omega
theorem Zmw{t e:TypeId}{k:Nat}{tl:List AVal}{y:AVal}{lo hi:Option AOpd}{vlo vhi:Option Value}{z:AVal}{m2:Mem}(hr:Rel W Φ ρ m w)(ht:P.underlying t=some (.slice e))(hk:M1 P e=some k)(hy:R Φ ρ y v)
 (hlo:OptR Φ ρ tl lo vlo) (hhi:OptR Φ ρ tl hi vhi)
 (h:(y=.nilSl∧(∃ lh,D2 tl 0 0 lo hi=some lh)∧z=.nilSl∧m2=m)∨(y=.emp∧(∃ lh,D2 tl 0 0 lo hi=some lh)∧z=.emp∧m2=m) ∨
   (∃ els l h,y=.imm els∧(els.all fun r=>r.length == k)=true∧D2 tl els.length els.length lo hi=some (l,h)∧z=.imm ((els.take h).drop l)∧m2=m) ∨
   (∃ b off len els l h,y=.sl b off len∧m.get b=some (.cells k els)∧off+len≤els.length∧D2 tl len (els.length - off) lo hi=some (l,h)∧z=.sl b (off+l) (h - l)∧m2=m)) :
 m2=m ∧ ∃ u,(Instr.sliceAt t v vlo vhi none).run P w=.ok u w∧R Φ ρ z u:=by
 rcases h with⟨rfl,⟨⟨l,h⟩,hb⟩,rfl,rfl⟩|⟨rfl,⟨⟨l,h⟩,hb⟩,rfl,rfl⟩|⟨els,l,h,rfl,hall,hb,rfl,rfl⟩|⟨b,off,len,els,l,h,rfl,hg,hle,hb,rfl,rfl⟩
 ·refine⟨rfl,?_⟩;cases hy;obtain⟨hb1,h1,h2⟩:=Zi8 (P:=P) (w:=w) (b:=true) (cap:=0) hlo hhi hb (Nat.le_refl _);obtain rfl:h=0:=by omega
  obtain rfl:l=0:=by omega
  exact⟨_,Zig ht hk hb1,.nilSl⟩
 ·refine⟨rfl,?_⟩;cases hy with
  | emp a=>
   obtain⟨hb1,h1,h2⟩:=Zi8 (P:=P) (w:=w) (b:=true) (cap:=0) hlo hhi hb (Nat.le_refl _);obtain rfl:h=0:=by omega
   obtain rfl:l=0:=by omega
   exact⟨_,Zig ht hk hb1,.emp _⟩
 ·refine⟨rfl,?_⟩;have hv:∃ a cap,v=.slice a els.length cap∧els.length≤cap:=by
   cases hy with
   | imm0 a cap _=>exact ⟨_,_,rfl,Nat.zero_le _⟩
   | imm _ B o k' cap c f hne hcap hB hk' hc hrr=>exact ⟨_,_,rfl,hcap⟩
  obtain⟨a,cap,rfl,hcap⟩:=hv;obtain⟨hb1,h1,h2⟩:=Zi8 (P:=P) (w:=w) (b:=true) (cap:=cap) hlo hhi hb hcap;exact⟨_,Zig ht hk hb1,Z06 hy hall h1 h2⟩
 ·refine⟨rfl,?_⟩;cases hy with
  | sl _ _ _ a cap lc hl hlc hn2 hcap hav=>
   obtain⟨l',o,g1,g2,g3,g4,g5⟩:=hr.live b _ hg;rw[hl]at g1; injection g1 with g1; subst g1
   cases g5 with
   | cells _ _ _ c e' hk' hn hlen hrows _=>
    have hmx:els.length - off≤cap:=by omega
    obtain⟨hb1,h1,h2⟩:=Zi8 (P:=P) (w:=w) (b:=true) (cap:=cap) hlo hhi hb hmx;refine⟨_,Zig ht hk hb1,.sl b (off+l) (h - l) _ (cap - l) lc hl (by omega) (by omega) (fun hpos=>?_) (by split<;>simp[hav])⟩
    have ha:=hcap (by omega)
    subst ha;rw[if_neg (by omega)]
    simp only[Option.map_some,Addr.add_none]
    congr 2
    rw[← Nat.add_assoc,Nat.add_mul (lc.sh+off) l,hk']
theorem Zvz(l:List UInt8)(a b:Nat):(ByteArray.mk ⟨l⟩).extract a b=⟨⟨(l.take b).drop a⟩⟩:=by
 have h1:=Lib.extract_data (ByteArray.mk ⟨l⟩) a b;cases h:(ByteArray.mk ⟨l⟩).extract a b with
 | mk d=>
  rw[h]at h1;have h2:d.toList=(l.take b).drop a:=by rw[List.drop_take]; simpa using h1
  cases d;simp at h2;rw[h2]
theorem Z3w{t:TypeId}{tl:List AVal}{l:List UInt8}{lo hi:Option AOpd}{vlo vhi:Option Value}{a b:Nat}(ht:P.underlying t=some .string)(hy:R Φ ρ (.str l) v)
 (hlo:OptR Φ ρ tl lo vlo) (hhi:OptR Φ ρ tl hi vhi) (hb:D2 tl l.length l.length lo hi=some (a,b)) :
 ∃ u,(Instr.sliceAt t v vlo vhi none).run P w=.ok u w∧R Φ ρ (.str ((l.take b).drop a)) u:=by
 cases hy with
 | str _=>
  obtain⟨hb1,h1,h2⟩:=Zi8 (P:=P) (w:=w) (b:=false) (cap:=l.length) hlo hhi hb (Nat.le_refl _);refine⟨_,?_,.str _⟩;have hsz:(ByteArray.mk ⟨l⟩).size=l.length:=rfl;simp only[Instr.sliceAt,Instr.slice,Sem.run_bind,W8 ht,Result.andThen_ok,Option.isSome_none,bF,if_false,Sem.run_pure,hsz,hb1,Zvz]
end
end Go.AE
end
section
namespace Go.AE
open Go.RowKit
section
variable {P:Program} {s:Sem Next} {W:Base} {Φ:Pers} {ρ:Rho} {id:Nat} {w w1:World} {m m':Mem} {x:AVal} {v:Value}
theorem L4{k:IntKind}{n:Int}(h:R Φ ρ (.int k n) v):v=.int k n:=by cases h; rfl
theorem Zaq{l:List UInt8}(h:R Φ ρ (.str l) v):v=.string ⟨⟨l⟩⟩:=by cases h; rfl
theorem Za5{b:Bool}(h:R Φ ρ (.bool b) v):v=.bool b:=by cases h; rfl
theorem Zck(l:List UInt8):(ByteArray.mk ⟨l⟩).toList=l:=Lib.toList_data _
theorem Yc2{op:BinOp}{k:IntKind}{a b:Int}{z:AVal}{t:TypeId}(h:V4 op k a b=some z):∃ u,(binOp op t (.int k a) (.int k b)).run P w=.ok u w∧R Φ ρ z u:=by
 cases op
 case add=>simp only[V4,oI]at h; subst h; exact⟨.int k _,by simp[binOp,Op.intArith],.int _ _⟩
 case sub=>simp only[V4,oI]at h; subst h; exact⟨.int k _,by simp[binOp,Op.intArith],.int _ _⟩
 case mul=>simp only[V4,oI]at h; subst h; exact⟨.int k _,by simp[binOp,Op.intArith],.int _ _⟩
 case quo=>
  simp only[V4]at h;by_cases h0:b=0
  ·rw[if_pos h0]at h; cases h
  ·rw[if_neg h0]at h; injection h with h; subst h
   exact⟨.int k _,by simp[binOp,Op.intDiv,h0],.int _ _⟩
 case rem=>
  simp only[V4]at h;by_cases h0:b=0
  ·rw[if_pos h0]at h; cases h
  ·rw[if_neg h0]at h; injection h with h; subst h
   exact⟨.int k _,by simp[binOp,Op.intDiv,h0],.int _ _⟩
 case and=>simp only[V4,oI]at h; subst h; exact⟨.int k _,by simp only[binOp,Op.intBits]; simp,.int _ _⟩
 case or=>simp only[V4,oI]at h; subst h; exact⟨.int k _,by simp only[binOp,Op.intBits]; simp,.int _ _⟩
 case xor=>simp only[V4,oI]at h; subst h; exact⟨.int k _,by simp only[binOp,Op.intBits]; simp,.int _ _⟩
 case andNot=>simp only[V4,oI]at h; subst h; exact⟨.int k _,by simp only[binOp,Op.intBits]; simp,.int _ _⟩
 case eql=>simp only[V4,oI]at h; subst h; exact⟨.bool _,by simp only[binOp,Op.intCmp]; rw[if_neg (by simp)]; rfl,.bool _⟩
 case neq=>simp only[V4,oI]at h; subst h; exact⟨.bool _,by simp only[binOp,Op.intCmp]; rw[if_neg (by simp)]; rfl,.bool _⟩
 case lss=>simp only[V4,oI]at h; subst h; exact⟨.bool _,by simp only[binOp,Op.intCmp]; rw[if_neg (by simp)]; rfl,.bool _⟩
 case leq=>simp only[V4,oI]at h; subst h; exact⟨.bool _,by simp only[binOp,Op.intCmp]; rw[if_neg (by simp)]; rfl,.bool _⟩
 case gtr=>simp only[V4,oI]at h; subst h; exact⟨.bool _,by simp only[binOp,Op.intCmp]; rw[if_neg (by simp)]; rfl,.bool _⟩
 case geq=>simp only[V4,oI]at h; subst h; exact⟨.bool _,by simp only[binOp,Op.intCmp]; rw[if_neg (by simp)]; rfl,.bool _⟩
 all_goals (simp[V4]at h)
theorem Z25{op:BinOp}{a b:List UInt8}{z:AVal}{t:TypeId}(h:Zb4 op a b=some z):∃ u,(binOp op t (.string ⟨⟨a⟩⟩) (.string ⟨⟨b⟩⟩)).run P w=.ok u w∧R Φ ρ z u:=by
 cases op
 case add=>
  simp only[Zb4]at h;split at h
  ·rename_i hle;injection h with h; subst h
   refine⟨.string ⟨⟨a++b⟩⟩,?_,.str _⟩;have e:(ByteArray.mk ⟨a⟩++ByteArray.mk ⟨b⟩)=ByteArray.mk ⟨a++b⟩:=by
    have:=ByteArray.mk_append_mk a b;simpa using this
   simp only[binOp];rw[run_string_add_sum (w:=w) (P:=P) _ _ (by show a.length+b.length≤_; omega),e]
  ·cases h
 case eql=>simp only[Zb4,oI]at h; subst h; exact⟨.bool _,by simp only[binOp,Op.stringOp,Zck]; rfl,.bool _⟩
 case neq=>simp only[Zb4,oI]at h; subst h; exact⟨.bool _,by simp only[binOp,Op.stringOp,Zck]; rfl,.bool _⟩
 case lss=>simp only[Zb4,oI]at h; subst h; exact⟨.bool _,by simp only[binOp,Op.stringOp,Zck]; rfl,.bool _⟩
 case leq=>simp only[Zb4,oI]at h; subst h; exact⟨.bool _,by simp only[binOp,Op.stringOp,Zck]; rfl,.bool _⟩
 case gtr=>simp only[Zb4,oI]at h; subst h; exact⟨.bool _,by simp only[binOp,Op.stringOp,Zck]; rfl,.bool _⟩
 case geq=>simp only[Zb4,oI]at h; subst h; exact⟨.bool _,by simp only[binOp,Op.stringOp,Zck]; rfl,.bool _⟩
 all_goals (simp[Zb4]at h)
theorem Ycw{t:TypeId}{k:KeyT}{y z:AVal}{vy vz:Value}{b:Bool}(d:Nat)(hk:F7 P t=some k)(h:C3 k y z=some b)(hy:R Φ ρ y vy)(hz:R Φ ρ z vz) :
 (Op.equalIn (d+1) t vy vz).run P w=.ok b w:=by
 unfold F7 at hk;cases hu:P.underlying t with
 | none=>simp[hu]at hk
 | some ty=>
  cases ty<;>simp only[hu]at hk<;>first|(cases hk; done)|(injection hk with hk; subst hk)
  all_goals (cases y<;>cases z<;>simp only[C3]at h<;>first|(cases h; done)|skip)
  ·injection h with h; subst h
   rw[Za5 hy,Za5 hz];simp[Op.equalIn,W8 hu]
  ·split at h
   ·rename_i hkk;injection h with h; subst h; subst hkk
    rw[L4 hy,L4 hz];simp[Op.equalIn,W8 hu]
   ·cases h
  ·injection h with h; subst h
   rw[Zaq hy,Zaq hz];simp only[Op.equalIn,Sem.run_bind,W8 hu,Result.andThen_ok,Sem.run_pure];rw[beq_toListBytes,Zck,Zck]
theorem RL.at_{cs:List AVal}{vs:Array Value}(h:RL Φ ρ cs vs){i:Nat}{y:AVal}(hi:cs[i]? = some y):∃ u,vs[i]? = some u∧R Φ ρ y u:=by
 have hlt:=(gS.1 hi).1;have hv:vs[i]? = some (vs[i]'(by rw[h.1]; exact hlt)):=Array.getElem?_eq_getElem _
 exact⟨_,hv,h.2 _ _ _ hi hv⟩
theorem Zwf{t:TypeId}{k:KeyT}{cs:List AVal}{vs:Array Value}{i:Nat}{y:AVal}(hk:F7 P t=some k)(h:RL Φ ρ cs vs)(hi:cs[i]? = some y):∃ u,(part t vs i).run P w=.ok u w∧R Φ ρ y u:=by
 obtain⟨u,hu,hr⟩:=h.at_ hi;refine⟨u,?_,hr⟩;unfold F7 at hk;cases hty:P.underlying t with
 | none=>simp[hty]at hk
 | some ty=>
  have hagg:=Zrf (w:=w) hty;have hf:aggD ty=false:=by cases ty<;>simp[hty]at hk<;>rfl
  simp only[part,Sem.run_bind,hagg,Result.andThen_ok,hf,bF,if_false,hu,Sem.run_pure]
theorem Zxx(d:Nat){xs ys:List AVal}{vx vy:Array Value}(hx:RL Φ ρ xs vx)(hy:RL Φ ρ ys vy):∀ (fs:List Field) (i:Nat) (ks:List KeyT) (b:Bool),Zgb P fs i=some ks→Zca ks (xs.drop i) (ys.drop i)=some b →
 (Op.eqFields (d+1) vx vy fs).run P w=.ok b w
 | [],i,ks,b,hf,hs=>by
  simp only[Zgb,oI]at hf;subst hf;have hb:b=true:=by
   cases h1:xs.drop i<;>cases h2:ys.drop i<;>simp[h1,h2,Zca]at hs
   exact hs
  subst hb;rfl
 | f :: r,i,ks,b,hf,hs=>by
  simp only[Zgb]at hf;split at hf
  ·rename_i hcond;simp only[bA,bne_iff_ne,ne_eq,beq_iff_eq]at hcond;cases hk:F7 P f.type with
   | none=>simp[hk]at hf
   | some k=>
    cases hr:Zgb P r (i+1)with
    | none=>simp[hk,hr]at hf
    | some ks'=>
     simp only[hk,hr,oI]at hf;subst hf;cases h1:xs.drop i with
     | nil=>simp[h1,Zca]at hs
     | cons x xs'=>
      cases h2:ys.drop i with
      | nil=>simp[h1,h2,Zca]at hs
      | cons y ys'=>
       simp only[h1,h2,Zca]at hs;have hxi:xs[i]? = some x:=by
        have:=congrArg (fun l=>l[0]?) h1
        simpa[List.getElem?_drop]using this
       have hyi:ys[i]? = some y:=by
        have:=congrArg (fun l=>l[0]?) h2
        simpa[List.getElem?_drop]using this
       have hx':xs.drop (i+1)=xs':=by
        rw[← List.tail_drop,h1]; rfl
       have hy':ys.drop (i+1)=ys':=by
        rw[← List.tail_drop,h2]; rfl
       obtain⟨ux,hux,hrx⟩:=Zwf (P:=P) (w:=w) hk hx hxi;obtain⟨uy,huy,hry⟩:=Zwf (P:=P) (w:=w) hk hy hyi;rw[Op.eqFields,if_pos hcond.1,hcond.2];cases hkey:C3 k x y with
       | none=>simp[hkey]at hs
       | some b1=>
        have hrun:=Ycw (w:=w) d hk hkey hrx hry;simp only[Sem.run_bind,hux,huy,Result.andThen_ok,hrun];cases b1 with
        | false=>
         simp only[hkey,oI]at hs;subst hs;simp
        | true=>
         simp only[hkey]at hs;simp only[Bool.not_true,bF,if_false];exact Zxx d hx hy r (i+1) ks' b hr (by rw[hx',hy']; exact hs)
  ·cases hf
theorem Zmq{y:AVal}{b:Bool}(h:J1 .slice y=some b)(hy:R Φ ρ y v):∃ a n c,v=.slice a n c∧a.isNone=b:=by
 cases hy<;>simp only[J1]at h<;>try (cases h; done)
 ·injection h with h; subst h; exact⟨_,_,_,rfl,rfl⟩
 ·rename_i a _ _ _ _ _ _ ha;injection h with h; subst h
  refine⟨_,_,_,rfl,?_⟩;rw[← Option.not_isSome,ha]; rfl
 ·rename_i els _ _ _ _ _ _ hne _ _ _ _ _;have:els.isEmpty=false:=by cases els<;>simp_all
  simp only[this,bF,if_false,oI]at h;subst h;exact⟨_,_,_,rfl,rfl⟩
theorem Zkz{y:AVal}{b:Bool}(h:J1 .ptr y=some b)(hy:R Φ ρ y v):∃ a,v=.pointer a∧a.isNone=b:=by
 cases hy<;>simp only[J1]at h<;>try (cases h; done)
 all_goals (injection h with h; subst h; exact⟨_,rfl,rfl⟩)
theorem Zmy{y:AVal}{b:Bool}(h:J1 .map y=some b)(hy:R Φ ρ y v):∃ a,v=.map a∧a.isNone=b:=by
 cases hy<;>simp only[J1]at h<;>try (cases h; done)
 all_goals (injection h with h; subst h; exact⟨_,rfl,rfl⟩)
theorem Zkf{y:AVal}{b:Bool}(h:J1 .func y=some b)(hy:R Φ ρ y v):(v=.nilFunc∧b=true)∨(∃ f x c,v=.func f x c∧b=false):=by
 cases hy<;>simp only[J1]at h<;>try (cases h; done)
 ·injection h with h; subst h; exact .inr ⟨_,_,_,rfl,rfl⟩
 ·injection h with h; subst h; exact .inl ⟨rfl,rfl⟩
theorem Zzu{t el:TypeId}(d:Nat)(hu:P.underlying t=some (.pointer el))(a:Option Addr):(Op.equalIn (d+1) t (.pointer a) (.pointer none)).run P w=.ok a.isNone w∧(Op.equalIn (d+1) t (.pointer none) (.pointer a)).run P w=.ok a.isNone w:=by
 cases a<;>simp[Op.equalIn,W8 hu]
theorem Zys{t el:TypeId}(d:Nat)(hu:P.underlying t=some (.slice el))(a:Option Addr)(n c n' c':Nat):(Op.equalIn (d+1) t (.slice a n c) (.slice none n' c')).run P w=.ok a.isNone w∧(Op.equalIn (d+1) t (.slice none n' c') (.slice a n c)).run P w=.ok a.isNone w:=by
 cases a<;>simp[Op.equalIn,W8 hu]
theorem Zz5{t k el:TypeId}(d:Nat)(hu:P.underlying t=some (.map k el))(a:Option Nat):(Op.equalIn (d+1) t (.map a) (.map none)).run P w=.ok a.isNone w∧(Op.equalIn (d+1) t (.map none) (.map a)).run P w=.ok a.isNone w:=by
 cases a<;>simp[Op.equalIn,W8 hu]
theorem Zlh{t:TypeId}{a1 a2:Array TypeId}{a3:Bool}(d:Nat)(hu:P.underlying t=some (.func a1 a2 a3))(f:Fn)(x c:Array Value):(Op.equalIn (d+1) t .nilFunc .nilFunc).run P w=.ok true w∧(Op.equalIn (d+1) t (.func f x c) .nilFunc).run P w=.ok false w∧(Op.equalIn (d+1) t .nilFunc (.func f x c)).run P w=.ok false w:=by
 simp[Op.equalIn,W8 hu]
theorem Znr{e:EqT}{y z:AVal}{b:Bool}(h:Zay e y z=some b):(J1 e z=some true∧J1 e y=some b)∨(J1 e y=some true∧J1 e z=some b):=by
 unfold Zay at h;split at h
 ·rename_i h1; exact .inl ⟨h1,h⟩
 ·split at h
  ·rename_i h1; exact .inr ⟨h1,h⟩
  ·cases h
theorem Zsi{op:BinOp}{t:TypeId}{e:EqT}{y z:AVal}{vy vz:Value}{b:Bool}{ox oy:Operand}(he:cEq P t=some e)(h:eqA e y z=some b)(hy:R Φ ρ y vy)(hz:R Φ ρ z vz) :
 (eqGuard op t ox oy vy vz).run P w=.ok () w∧(Op.equal t vy vz).run P w=.ok b w∧(∀ k n,vy≠.int k n)∧(∀ s,vy≠.string s)∧(∀ k n,vz≠.int k n):=by
 unfold cEq at he;cases hu:P.underlying t with
 | none=>simp[hu]at he
 | some ty=>
  cases ty<;>simp only[hu]at he<;>first|(cases he; done)|skip
  case bool=>
   injection he with he; subst he
   simp only[eqA]at h;split at h
   ·injection h with h; subst h
    rw[Za5 hy,Za5 hz];exact⟨by cases op<;>rfl,run_equal_bool w t _ _ hu,by simp,by simp,by simp⟩
   ·cases h
  case int k=>injection he with he; subst he; simp[eqA]at h
  case string=>injection he with he; subst he; simp[eqA]at h
  case pointer el=>
   injection he with he; subst he
   rcases Znr h with⟨h1,h2⟩|⟨h1,h2⟩
   ·obtain⟨a2,rfl,hn2⟩:=Zkz h1 hz;obtain⟨a1,rfl,hn1⟩:=Zkz h2 hy;obtain rfl:a2=none:=by simpa using hn2
    subst hn1;exact⟨by cases op<;>rfl,(Zzu 9999 hu _).1,by simp,by simp,by simp⟩
   ·obtain⟨a2,rfl,hn2⟩:=Zkz h2 hz;obtain⟨a1,rfl,hn1⟩:=Zkz h1 hy;obtain rfl:a1=none:=by simpa using hn1
    subst hn2;exact⟨by cases op<;>rfl,(Zzu 9999 hu _).2,by simp,by simp,by simp⟩
  case slice el=>
   injection he with he; subst he
   rcases Znr h with⟨h1,h2⟩|⟨h1,h2⟩
   ·obtain⟨a2,n2,c2,rfl,hn2⟩:=Zmq h1 hz;obtain⟨a1,n1,c1,rfl,hn1⟩:=Zmq h2 hy;obtain rfl:a2=none:=by simpa using hn2
    subst hn1;exact⟨by cases op<;>rfl,(Zys 9999 hu _ _ _ _ _).1,by simp,by simp,by simp⟩
   ·obtain⟨a2,n2,c2,rfl,hn2⟩:=Zmq h2 hz;obtain⟨a1,n1,c1,rfl,hn1⟩:=Zmq h1 hy;obtain rfl:a1=none:=by simpa using hn1
    subst hn2;exact⟨by cases op<;>rfl,(Zys 9999 hu _ _ _ _ _).2,by simp,by simp,by simp⟩
  case map el e2=>
   injection he with he; subst he
   rcases Znr h with⟨h1,h2⟩|⟨h1,h2⟩
   ·obtain⟨a2,rfl,hn2⟩:=Zmy h1 hz;obtain⟨a1,rfl,hn1⟩:=Zmy h2 hy;obtain rfl:a2=none:=by simpa using hn2
    subst hn1;exact⟨by cases op<;>rfl,(Zz5 9999 hu _).1,by simp,by simp,by simp⟩
   ·obtain⟨a2,rfl,hn2⟩:=Zmy h2 hz;obtain⟨a1,rfl,hn1⟩:=Zmy h1 hy;obtain rfl:a1=none:=by simpa using hn1
    subst hn2;exact⟨by cases op<;>rfl,(Zz5 9999 hu _).2,by simp,by simp,by simp⟩
  case func a1 a2 a3=>
   injection he with he; subst he
   rcases Znr h with⟨h1,h2⟩|⟨h1,h2⟩
   ·rcases Zkf h1 hz with⟨rfl,_⟩|⟨f,x,c,rfl,hb⟩
    ·rcases Zkf h2 hy with⟨rfl,rfl⟩|⟨f,x,c,rfl,rfl⟩
     ·exact⟨by cases op<;>rfl,(Zlh 9999 hu (.func 0) #[] #[]).1,by simp,by simp,by simp⟩
     ·exact⟨by cases op<;>rfl,(Zlh 9999 hu _ _ _).2.1,by simp,by simp,by simp⟩
    ·cases hb
   ·rcases Zkf h1 hy with⟨rfl,_⟩|⟨f,x,c,rfl,hb⟩
    ·rcases Zkf h2 hz with⟨rfl,rfl⟩|⟨f,x,c,rfl,rfl⟩
     ·exact⟨by cases op<;>rfl,(Zlh 9999 hu (.func 0) #[] #[]).1,by simp,by simp,by simp⟩
     ·exact⟨by cases op<;>rfl,(Zlh 9999 hu _ _ _).2.2,by simp,by simp,by simp⟩
    ·cases hb
  case struct fs=>
   split at he
   ·cases he
   ·rename_i hcond;simp only[Bool.or_eq_true,not_or,Bool.not_eq_true]at hcond;cases hf:Zgb P fs.toList 0 with
    | none=>simp[hf]at he
    | some ks=>
     simp only[hf,oI]at he;subst he;simp only[eqA]at h;split at h
     ·rename_i xs ys;obtain⟨vx,rfl,hx⟩:=Zj5 hy;obtain⟨vy,rfl,hyy⟩:=Zj5 hz;refine⟨run_eqGuard_agg w op t ox oy vx vy hcond.2,?_,by simp,by simp,by simp⟩
      have hfo:P.fieldsOf t=fs:=by simp[Program.fieldsOf,hu]
      have:=run_equalIn_struct (P:=P) w 9999 t vx vy (by rw[hfo]; exact hu) hcond.1
      rw[Op.equal,Op.maxDepth,this,hfo];exact Zxx 9998 hx hyy fs.toList 0 ks b hf (by simpa using h)
     ·cases h
end
end Go.AE
end
section
namespace Go.AE
open Go.RowKit
section
variable {P:Program} {s:Sem Next} {W:Base} {Φ:Pers} {ρ:Rho} {id:Nat} {w w1:World} {m m':Mem} {x:AVal} {v:Value}
theorem Ybu{op:UnOp}{y z:AVal}(h:unA op y=some z)(hy:R Φ ρ y v):∃ u,(Op.unary op v).run P w=.ok u w∧R Φ ρ z u:=by
 unfold unA at h;split at h
 ·injection h with h; subst h
  rw[L4 hy];exact⟨.int _ _,by simp[Op.unary,Op.intArith],.int _ _⟩
 ·injection h with h; subst h
  rw[Za5 hy];exact⟨.bool _,by simp[Op.unary],.bool _⟩
 ·injection h with h; subst h
  rw[L4 hy];exact⟨.int _ _,by simp only[Op.unary,Op.intBits]; simp,.int _ _⟩
 ·cases h
theorem Zn8(place:Nat→Option (Nat×Nat)):∀ (ps:List (Nat×Value)) (as:List (Nat×Nat×AVal)) (cs:List AVal) (vs:Array Value) (cs':List AVal),RL Φ ρ cs vs→as.length=ps.length →
 (∀(q:Nat) (p:Nat×Value) (a:Nat×Nat×AVal),ps[q]? = some p→as[q]? = some a→place p.1=some (a.1,a.2.1)∧R Φ ρ a.2.2 p.2)→I4 cs as=some cs' →
 ∃ vs',Instr.fill place vs ps=some vs'∧RL Φ ρ cs' vs'
 | [],[],cs,vs,cs',h,_,_,hf=>by
  simp only[I4,oI]at hf;subst hf;exact⟨vs,rfl,h⟩
 | [],a :: as,cs,vs,cs',_,hl,_,_=>by simp at hl
 | p :: ps,[],cs,vs,cs',_,hl,_,_=>by simp at hl
 | (i,u) :: ps,(off,size,y) :: as,cs,vs,cs',h,hl,hr,hf=>by
  obtain⟨h1,h2⟩:=hr 0 (i,u) (off,size,y) rfl rfl;simp only[I4]at hf;cases hc:y.cells with
  | none=>simp[hc]at hf
  | some ys=>
   simp only[hc]at hf;split at hf
   ·rename_i hcond;have hcells:=h2.cells_R hc;have hnew:RL Φ ρ (U8 cs off ys) (u.cells.zipIdx.foldl (fun cs (c,j)=>cs.setIfInBounds (off+j) c) vs):=by
     have key:∀ (l:List Value) (k:Nat) (vs:Array Value),(l.zipIdx k).foldl (fun cs (x:Value×Nat)=>cs.setIfInBounds (off+x.2) x.1) vs=O5 vs (off+k) l:=by
      intro l
      induction l with
      | nil=>intro k vs; rfl
      | cons v r ih=>intro k vs; simp only[List.zipIdx_cons,List.foldl_cons,O5,ih]; rfl
     have e:u.cells.zipIdx.foldl (fun cs (c,j)=>cs.setIfInBounds (off+j) c) vs=O5 vs off u.cells.toList:=by
      rw[← Array.foldl_toList,Array.toList_zipIdx];exact key u.cells.toList 0 vs
     rw[e];refine⟨by rw[Ze0,Zyj,h.1],fun q z uz hz huz=>?_⟩
     rw[Zqm]at hz;rw[Zpc]at huz;simp only[Array.length_toList,hcells.1,h.1]at huz;split at hz
     ·rename_i hin;rw[if_pos hin]at huz;exact hcells.2 _ _ _ hz (by simpa using huz)
     ·rename_i hin;rw[if_neg hin]at huz;exact h.2 _ _ _ hz huz
    obtain⟨vs',hv1,hv2⟩:=Zn8 place ps as _ _ cs' hnew (by simpa using hl) (fun q p a hp ha=>hr (q+1) p a (by simpa using hp) (by simpa using ha)) hf
    refine⟨vs',?_,hv2⟩;rw[Instr.fill,h1];simp only;rw[if_neg (by simp[hcells.1,h.1]; omega)]
    exact hv1
   ·cases hf
theorem Zu1{α β:Type}{g:α→Sem β}{f:α→β}{w:World}:∀ (l:List α),(∀ x,x∈l→(g x).run P w=.ok (f x) w)→(l.mapM g).run P w=.ok (l.map f) w
 | [],_=>by simp
 | x :: l,h=>by
  rw[List.mapM_cons];simp only[Sem.run_bind,h x (by simp),Result.andThen_ok,Zu1 l (fun y hy=>h y (by simp[hy])),Sem.run_pure,List.map_cons]
theorem Z9z{α β:Type}{g:α→Sem β}{f:α→β}{w:World}(l:Array α)(h:∀ x,x∈l.toList→(g x).run P w=.ok (f x) w):(l.mapM g).run P w=.ok (l.map f) w:=by
 rw[Array.mapM_eq_mapM_toList];simp only[Sem.run_map,Zu1 l.toList h,Result.andThen_ok]
 congr 1
 cases l; simp
theorem Zv9{t:List AVal}{a:Act}(ht:RL Φ ρ t a.tmps)(fs:List Field):∀ (ps:List (Nat×Operand)) (as:List (Nat×Nat×AOpd)),Zfz P fs ps=some as →
 as.length=ps.length ∧ ∀(q:Nat) (p:Nat×Operand) (b:Nat×Nat×AOpd),ps[q]? = some p→as[q]? = some b→(∃ f,fs[p.1]? = some f∧b.1=f.offset∧M1 P f.type=some b.2.1)∧Y5 p.2=some b.2.2
 | [],as,h=>by
  simp only[Zfz,oI]at h;subst h;exact⟨rfl,fun q p b hp=>by simp at hp⟩
 | (i,y) :: ps,as,h=>by
  simp only[Zfz]at h;cases hf:fs[i]? with
  | none=>simp[hf]at h
  | some f=>
   cases hs:M1 P f.type with
   | none=>simp[hf,hs]at h
   | some n=>
    cases hy:Y5 y with
    | none=>simp[hf,hs,hy]at h
    | some z=>
     cases hr:Zfz P fs ps with
     | none=>simp[hf,hs,hy,hr]at h
     | some as'=>
      simp only[hf,hs,hy,hr,oI]at h;subst h;obtain⟨h1,h2⟩:=Zv9 ht fs ps as' hr;refine⟨by simp[h1],fun q p b hp hb=>?_⟩
      cases q with
      | zero=>
       simp only[List.getElem?_cons_zero,oI]at hp hb;subst hp; subst hb;exact⟨⟨f,hf,rfl,hs⟩,hy⟩
      | succ q=>
       simp only[List.getElem?_cons_succ]at hp hb;exact h2 q p b hp hb
theorem Zvh(n:Nat):∀ (ps:List (Nat×Operand)) (as:List (Nat×Nat×AOpd)),Zf2 n ps=some as →
 as.length=ps.length ∧ ∀(q:Nat) (p:Nat×Operand) (b:Nat×Nat×AOpd),ps[q]? = some p→as[q]? = some b→b.1=p.1*n∧b.2.1=n∧Y5 p.2=some b.2.2
 | [],as,h=>by
  simp only[Zf2,oI]at h;subst h;exact⟨rfl,fun q p b hp=>by simp at hp⟩
 | (i,y) :: ps,as,h=>by
  simp only[Zf2]at h;cases hy:Y5 y with
  | none=>simp[hy]at h
  | some z=>
   cases hr:Zf2 n ps with
   | none=>simp[hy,hr]at h
   | some as'=>
    simp only[hy,hr,oI]at h;subst h;obtain⟨h1,h2⟩:=Zvh n ps as' hr;refine⟨by simp[h1],fun q p b hp hb=>?_⟩
    cases q with
    | zero=>
     simp only[List.getElem?_cons_zero,oI]at hp hb;subst hp; subst hb;exact⟨rfl,rfl,hy⟩
    | succ q=>
     simp only[List.getElem?_cons_succ]at hp hb;exact h2 q p b hp hb
theorem Z2g{t:TypeId}{fs:Array Field}{zs cs:List AVal}{ps:Array (Nat×Operand)}{as:List (Nat×Nat×AOpd)}{tl:List AVal}{a:Act}(ht:RL Φ ρ tl a.tmps)(hu:P.underlying t=some (.struct fs))
 (hz:Zcd P t=some zs) (hp:Zfz P fs.toList ps.toList=some as) (hf:I4 zs (as.map fun p=>(p.1,p.2.1,ev tl p.2.2))=some cs) (hall:∀ f,f∈fs.toList → ∃ i,P.info? f.type=some i) :
 ∃ u,(Instr.build t (ps.map fun(i,x)=>(i,a.eval x))).run P w=.ok u w∧R Φ ρ (.agg cs) u:=by
 obtain⟨i,z,y,h1,h2,h3,h4,_⟩:=Zeo hz Φ ρ;have hzc:=h3.cells_R h4;obtain⟨hlen,hspec⟩:=Zv9 ht fs.toList ps.toList as hp;have hm:=Z9z (P:=P) (w:=w) (g:=fun f:Field=>do pure (f.offset,← sizeOf f.type)) (f:=fun f:Field=>(f.offset,P.cellsOf f.type)) fs (fun f hf=>by
  obtain⟨i,hi⟩:=hall f hf;simp only[Sem.run_bind,E8 hi,Result.andThen_ok,Sem.run_pure,Program.cellsOf,hi];rfl)
 obtain⟨vs',hv1,hv2⟩:=Zn8 (Φ:=Φ) (ρ:=ρ) (fun q=>(fs.map fun f:Field=>(f.offset,P.cellsOf f.type))[q]?) (ps.map fun(i,x)=>(i,a.eval x)).toList (as.map fun p=>(p.1,p.2.1,ev tl p.2.2)) zs z.cells cs hzc
  (by simp[hlen]) (fun q p b hq hb=>by
    simp only[Array.toList_map,List.getElem?_map,Option.map_eq_some_iff]at hq hb;obtain⟨p0,hp0,rfl⟩:=hq;obtain⟨b0,hb0,rfl⟩:=hb;obtain⟨⟨f,hf1,hf2,hf3⟩,hop⟩:=hspec q p0 b0 hp0 hb0;obtain⟨inf,hinf,hsz⟩:=Zey hf3;refine⟨?_,T4 ht hop⟩;simp only[Array.getElem?_map];have:fs[p0.1]? = some f:=by simpa using hf1
    rw[this];simp[Program.cellsOf,hinf,hsz,hf2]) hf
 refine⟨.agg vs',?_,.agg _ _ hv2.1 hv2.2⟩;simp only[Instr.build,Sem.run_bind,Zdv h1 h2,Result.andThen_ok,W8 hu,hm,hv1,Sem.run_pure]
theorem Z7v{t e:TypeId}{k n:Nat}{zs cs:List AVal}{ps:Array (Nat×Operand)}{as:List (Nat×Nat×AOpd)}{tl:List AVal}{a:Act}(ht:RL Φ ρ tl a.tmps)(hu:P.underlying t=some (.array k e))(hn:M1 P e=some n)
 (hz:Zcd P t=some zs) (hp:Zf2 n ps.toList=some as) (hf:I4 zs (as.map fun p=>(p.1,p.2.1,ev tl p.2.2))=some cs) :
 ∃ u,(Instr.build t (ps.map fun(i,x)=>(i,a.eval x))).run P w=.ok u w∧R Φ ρ (.agg cs) u:=by
 obtain⟨i,z,y,h1,h2,h3,h4,_⟩:=Zeo hz Φ ρ;have hzc:=h3.cells_R h4;obtain⟨inf,hinf,hsz⟩:=Zey hn;obtain⟨hlen,hspec⟩:=Zvh n ps.toList as hp;obtain⟨vs',hv1,hv2⟩:=Zn8 (Φ:=Φ) (ρ:=ρ) (fun q=>some (q*inf.size,inf.size)) (ps.map fun(i,x)=>(i,a.eval x)).toList (as.map fun p=>(p.1,p.2.1,ev tl p.2.2)) zs z.cells cs hzc
  (by simp[hlen]) (fun q p b hq hb=>by
    simp only[Array.toList_map,List.getElem?_map,Option.map_eq_some_iff]at hq hb;obtain⟨p0,hp0,rfl⟩:=hq;obtain⟨b0,hb0,rfl⟩:=hb;obtain⟨hf1,hf2,hop⟩:=hspec q p0 b0 hp0 hb0;refine⟨?_,T4 ht hop⟩;simp[hf1,hf2,hsz]) hf
 refine⟨.agg vs',?_,.agg _ _ hv2.1 hv2.2⟩;simp only[Instr.build,Sem.run_bind,Zdv h1 h2,Result.andThen_ok,W8 hu,E8 hinf,hv1,Sem.run_pure]
end
end Go.AE
end
section
namespace Go.AE
open Go.RowKit
section
variable {P:Program} {s:Sem Next} {W:Base} {Φ:Pers} {ρ:Rho} {id:Nat} {w w1:World} {m m':Mem} {x:AVal} {v:Value}
theorem Z50{cs row:List AVal}(h:cs.length=row.length):U8 row 0 cs=cs:=by
 apply List.ext_getElem?;intro q;rw[Zqm];by_cases hq:q<row.length
 ·rw[if_pos ⟨Nat.zero_le _,by omega,hq⟩]; rfl
 ·rw[if_neg (by omega),List.getElem?_eq_none (by omega),List.getElem?_eq_none (by omega)]
theorem mul_add_mod{i j k:Nat}(h:j<k):(i*k+j) % k=j:=by
 rw[Nat.mul_comm,Nat.mul_add_mod];exact Nat.mod_eq_of_lt h
theorem Zjb{zs:List AVal}{zc:Array Value}{k len:Nat}(h:RL Φ ρ zs zc)(h1:zs.all AVal.one=true)(hk:zs.length=k)(h0:0<k) :
 RowsIn Φ ρ (List.replicate len zs) 0 k ((Array.range (len*k)).map fun i=>zc[i % zc.size]!):=by
 refine⟨fun i row hi=>?_,fun i row j y hi hj=>?_⟩
 ·have:=List.mem_of_getElem? hi;rw[List.eq_of_mem_replicate this,hk]
 ·have hrow:=List.eq_of_mem_replicate (List.mem_of_getElem? hi);subst hrow;have hil:i<len:=by
   have:=(gS.1 hi).1;simpa using this
  have hjk:j<k:=by
   have:=(gS.1 hj).1;omega
  obtain⟨u,hu,hr⟩:=h.at_ hj;have hlt:=Zed hil hjk;refine⟨u,?_,Zjn hr (List.all_eq_true.1 h1 y (List.mem_of_getElem? hj)),hr⟩;rw[Nat.zero_add,Array.getElem?_map,Array.getElem?_range,if_pos hlt];simp only[Option.map_some,oI];have e:(i*k+j) % zc.size=j:=by rw[h.1,hk]; exact mul_add_mod hjk
  rw[e];have hj2:=(Array.getElem?_eq_some_iff.1 hu).1;rw[getElem!_pos zc j hj2];rw[Array.getElem?_eq_getElem hj2]at hu;injection hu
theorem Zgh{t:TypeId}{k b:Nat}{z:List AVal}(h:Zab P t=some (k,b,z)):∃ e i,P.underlying t=some (.slice e)∧P.info? e=some i∧i.size=k∧i.bytes=b∧Zcd P e=some z∧z.length=k∧0<k:=by
 unfold Zab at h;split at h
 ·rename_i e he;cases hs:M1 P e with
  | none=>simp[hs]at h
  | some k'=>
   cases hb:Zrr P e with
   | none=>simp[hs,hb]at h
   | some b'=>
    cases hz:Zcd P e with
    | none=>simp[hs,hb,hz]at h
    | some z'=>
     simp only[hs,hb,hz]at h;split at h
     ·rename_i hcond;simp only[oI,pI2]at h;obtain⟨rfl,rfl,rfl⟩:=h;obtain⟨i,hi,hsz⟩:=Zey hs;have hbb:i.bytes=b':=by simpa[Zrr,hi]using hb
      exact⟨e,i,he,hi,hsz,hbb,hz,hcond.1,hcond.2⟩
     ·cases h
 ·cases h
theorem Zsy{k:Nat}:∀ (ps:List (Nat×Value)) (as:List (Nat×AVal)) (els:List (List AVal)) (c:Array Value) (els':List (List AVal)),RowsIn Φ ρ els 0 k c→c.size=els.length*k→as.length=ps.length →
 (∀(q:Nat) (p:Nat×Value) (a:Nat×AVal),ps[q]? = some p→as[q]? = some a→p.1=a.1∧R Φ ρ a.2 p.2)→M8 k els as=some els' →
 ∃ c',Instr.fill (fun i=>some (i*k,k)) c ps=some c'∧RowsIn Φ ρ els' 0 k c'∧c'.size=c.size∧els'.length=els.length
 | [],[],els,c,els',h,_,_,_,hf=>by
  simp only[M8,oI]at hf;subst hf;exact⟨c,rfl,h,rfl,rfl⟩
 | [],a :: as,_,_,_,_,_,hl,_,_=>by simp at hl
 | p :: ps,[],_,_,_,_,_,hl,_,_=>by simp at hl
 | (i,u) :: ps,(i',y) :: as,els,c,els',h,hsz,hl,hr,hf=>by
  obtain⟨h1,h2⟩:=hr 0 (i,u) (i',y) rfl rfl;simp only at h1 h2;subst h1;simp only[M8]at hf;cases hc:y.cells with
  | none=>simp[hc]at hf
  | some ys=>
   simp only[hc]at hf;split at hf
   ·rename_i hcond;obtain⟨hc1,hc2,hc3⟩:=hcond;have hcells:=h2.cells_R hc;have key:∀ (l:List Value) (q:Nat) (vs:Array Value),(l.zipIdx q).foldl (fun cs (x:Value×Nat)=>cs.setIfInBounds (i*k+x.2) x.1) vs=O5 vs (i*k+q) l:=by
     intro l
     induction l with
     | nil=>intro q vs; rfl
     | cons v r ih=>intro q vs; simp only[List.zipIdx_cons,List.foldl_cons,O5,ih]; rfl
    have e:u.cells.zipIdx.foldl (fun cs (c,j)=>cs.setIfInBounds (i*k+j) c) c=O5 c (i*k) u.cells.toList:=by
     rw[← Array.foldl_toList,Array.toList_zipIdx];exact key u.cells.toList 0 c
    have hrow:els[i]? = some els[i]:=gE hc2;have hrl:=h.1 i _ hrow;have hnew:=Zuh (n:=els.length) (i:=i) (j:=0) (cs:=ys) (vs:=u.cells) h (by rw[hsz]) (by omega) hrow hcells hc3 (by omega)
    rw[Z50 (by omega)]at hnew
    simp only[Nat.zero_add,Nat.add_zero]at hnew;obtain⟨c',g1,g2,g3,g4⟩:=Zsy ps as _ _ els' hnew (by rw[Ze0]; simpa using hsz) (by simpa using hl) (fun q p a hp ha=>hr (q+1) p a (by simpa using hp) (by simpa using ha)) hf
    refine⟨c',?_,g2,by rw[g3,Ze0],by rw[g4]; simp⟩
    have hle:i*k+k≤c.size:=by
     rw[hsz];have:(i+1)*k≤els.length*k:=Nat.mul_le_mul_right k hc2;rw[Nat.add_mul]at this;omega
    rw[Instr.fill];simp only;rw[if_neg (by simp[hcells.1,hc1]; omega),e]
    exact g1
   ·cases hf
theorem Zt0:∀ (ps:List (Nat×Operand)) (as:List (Nat×AOpd)),Zf3 ps=some as →
 as.length=ps.length ∧ ∀(q:Nat) (p:Nat×Operand) (b:Nat×AOpd),ps[q]? = some p→as[q]? = some b→p.1=b.1∧Y5 p.2=some b.2
 | [],as,h=>by
  simp only[Zf3,oI]at h;subst h;exact⟨rfl,fun q p b hp=>by simp at hp⟩
 | (i,y) :: ps,as,h=>by
  simp only[Zf3]at h;cases hy:Y5 y with
  | none=>simp[hy]at h
  | some z=>
   cases hr:Zf3 ps with
   | none=>simp[hy,hr]at h
   | some as'=>
    simp only[hy,hr,oI]at h;subst h;obtain⟨h1,h2⟩:=Zt0 ps as' hr;refine⟨by simp[h1],fun q p b hp hb=>?_⟩
    cases q with
    | zero=>
     simp only[List.getElem?_cons_zero,oI]at hp hb;subst hp; subst hb;exact⟨rfl,hy⟩
    | succ q=>
     simp only[List.getElem?_cons_succ]at hp hb;exact h2 q p b hp hb
theorem Zae{els:List (List AVal)}{k:Nat}{c:Array Value}(h:RowsIn Φ ρ els 0 k c)(hsz:c.size=els.length*k)(hk:0<k):∀ u,u∈c.toList→u.oneCell'=true:=by
 intro u hu;obtain⟨p,hp,rfl⟩:=List.getElem_of_mem hu;simp only[Array.length_toList]at hp;have hi:p / k<els.length:=by
  rw[Nat.div_lt_iff_lt_mul hk]; omega
 have hrow:els[p / k]? = some els[p / k]:=gE hi;have hlen:=h.1 _ _ hrow;have hj:p % k<(els[p / k]).length:=by rw[hlen]; exact Nat.mod_lt _ hk
 obtain⟨u,hu1,hu2,_⟩:=h.2 (p / k) _ (p % k) _ hrow (gE hj);have e:(0+p / k)*k+p % k=p:=by rw[Nat.zero_add,Nat.mul_comm]; exact Nat.div_add_mod p k
 rw[e,Array.getElem?_eq_getElem hp]at hu1;injection hu1 with hu1
 simpa[hu1]using hu2
theorem Zkm{k len cap:Nat}{els:List (List AVal)}{c:Array Value}{e:TypeId}(hr:Rel W Φ ρ m w1)(hn:ρ id=none)(hlt:id<m.next)(hle:len≤cap)(hel:els.length≤cap)
 (hsz:c.size=cap*k) (hrows:RowsIn Φ ρ els 0 k c) (h1c:∀ v,v∈c.toList→v.oneCell'=true) (h:s.run P w=.ok (.value (.slice (some ⟨w1.heap.size,0,none⟩) len cap)) (w1.alloc (.cells c e))) :
 Done P s W Φ ρ id w (.sl id 0 len) (m.set id (.cells k els)):=by
 refine Done.new (l:=⟨w1.heap.size,0,k,cap⟩) h hr hn hlt rfl (BR.ext_put hn (.cells _ _ _ _ _ rfl hsz (by simpa using hel) hrows h1c)) ?_
 exact .sl id 0 len _ cap ⟨w1.heap.size,0,k,cap⟩ Rho.put_same hle (by simp) (fun _=>by simp) rfl
theorem Yaj{t:TypeId}{k b len:Nat}{z:List AVal}{ps:Array (Nat×Operand)}{as:List (Nat×AOpd)}{tl:List AVal}{a:Act}{els:List (List AVal)}(hr:Rel W Φ ρ m w)(ht:RL Φ ρ tl a.tmps)
 (hn:ρ id=none) (hlt:id<m.next) (he:Zab P t=some (k,b,z)) (hp:Zf3 ps.toList=some as) (hle:len*k≤2 ^ 24)
 (hf:M8 k (List.replicate len z) (as.map fun p=>(p.1,ev tl p.2))=some els)
 (hs:∀ u w',(Instr.buildSlice t len (ps.map fun(i,x)=>(i,a.eval x))).run P w=.ok u w'→s.run P w=.ok (.value u) w'):Done P s W Φ ρ id w (.sl id 0 len) (m.set id (.cells k els)):=by
 obtain⟨e,i,hu,hi,hsz,hb,hz,hzl,hk0⟩:=Zgh he;obtain⟨i',zv,y,h1,h2,h3,h4,h5⟩:=Zeo hz Φ ρ;rw[hi]at h1; injection h1 with h1; subst h1
 have hzc:=h3.cells_R h4;obtain⟨hlen,hspec⟩:=Zt0 ps.toList as hp;have hzero:=Zjb (len:=len) hzc h5 hzl hk0;obtain⟨c',g1,g2,g3,g4⟩:=Zsy (Φ:=Φ) (ρ:=ρ) (k:=k) (ps.map fun(i,x)=>(i,a.eval x)).toList (as.map fun p=>(p.1,ev tl p.2)) _ _ els hzero (by simp) (by simp[hlen]) (fun q p b hq hb=>by
  simp only[Array.toList_map,List.getElem?_map,Option.map_eq_some_iff]at hq hb;obtain⟨p0,hp0,rfl⟩:=hq;obtain⟨b0,hb0,rfl⟩:=hb;obtain⟨e1,e2⟩:=hspec q p0 b0 hp0 hb0;exact⟨e1,T4 ht e2⟩) hf
 refine Zkm (cap:=len) (c:=c') (e:=e) hr hn hlt (Nat.le_refl _) (by rw[g4]; simp) (by rw[g3]; simp) g2 (Zae g2 (by rw[g3,g4]; simp) hk0) (hs _ _ ?_)
 have g1':Instr.fill (fun q=>some (q*i.size,i.size)) ((Array.range (len*k)).map fun q=>zv.cells[q % zv.cells.size]!) (ps.map fun(i,x)=>(i,a.eval x)).toList=some c':=by rw[hsz]; exact g1
 simp only[Instr.buildSlice,Sem.run_bind,W8 hu,Result.andThen_ok,E8 hi];rw[if_neg (by rw[hsz]; omega)]
 by_cases h0:len*i.size=0
 ·rw[if_pos h0];have h00:len*k=0:=by rw[← hsz]; exact h0
  rw[h00]at g1';simp only[Sem.run_bind,Sem.run_pure,Result.andThen_ok,h0];have e0:((Array.range 0).map fun q=>(#[]:Array Value)[q % (#[]:Array Value).size]!)=(Array.range 0).map fun q=>zv.cells[q % zv.cells.size]!:=by simp
  rw[e0,g1'];rfl
 ·rw[if_neg h0];simp only[Sem.run_bind,Sem.run_pure,Result.andThen_ok,Zdv hi h2];have e0:len*i.size=len*k:=by rw[hsz]
  rw[e0,g1'];rfl
theorem Z9r{t:TypeId}{k b l c:Nat}{z:List AVal}{vl vc:Value}{kl kc:IntKind}(hr:Rel W Φ ρ m w)(hn:ρ id=none)(hlt:id<m.next)(he:Zab P t=some (k,b,z))
 (hl:vl=.int kl (l:Int)) (hc:vc=.int kc (c:Int)) (hle:l≤c) (hcr:c≤X4) (hbr:b≤X4)
 (hs:∀ u w',(Instr.makeSlice t vl vc).run P w=.ok u w'→s.run P w=.ok (.value u) w'):Done P s W Φ ρ id w (.sl id 0 l) (m.set id (.cells k (List.replicate c z))):=by
 obtain⟨e,i,hu,hi,hsz,hb,hz,hzl,hk0⟩:=Zgh he;obtain⟨i',zv,y,h1,h2,h3,h4,h5⟩:=Zeo hz Φ ρ;rw[hi]at h1; injection h1 with h1; subst h1
 have hzc:=h3.cells_R h4;subst hl; subst hc;unfold X4 at hcr hbr;refine Zkm (cap:=c) (c:=(Array.range (c*k)).map fun q=>zv.cells[q % zv.cells.size]!) (e:=e) hr hn hlt hle (by simp) (by simp) (Zjb hzc h5 hzl hk0) (Zae (Zjb hzc h5 hzl hk0) (by simp) hk0) (hs _ _ ?_)
 clear hs;have wl:IntKind.i64.wrap (l:Int)=l:=IntWalk.i64_in _ (by omega)
 have wc:IntKind.i64.wrap (c:Int)=c:=IntWalk.i64_in _ (by omega)
 have hmul:b*c≤1048576*1048576:=Nat.mul_le_mul hbr hcr;have hbig:¬((b:Int)*(c:Int) > 2 ^ 48):=by
  have h1:((b*c:Nat):Int)≤((1048576*1048576:Nat):Int):=Int.ofNat_le.2 hmul;rw[Int.natCast_mul]at h1;omega
 simp only[Instr.makeSlice,Sem.run_bind,W8 hu,Result.andThen_ok,asInt,asIntOf,Sem.run_pure,Zb5 hi,wl,wc];rw[hb];rw[if_neg (by
  simp only[Bool.or_eq_true,decide_eq_true_eq,not_or];exact⟨⟨⟨by omega,hbig⟩,by omega⟩,by omega⟩)]
 simp only[Sem.run_bind,run_askRoom,Result.andThen_ok,E8 hi,Int.toNat_natCast];by_cases h0:c*i.size=0
 ·rw[if_pos h0];have h00:c*k=0:=by rw[← hsz]; exact h0
  simp only[newRow,Sem.run_bind,run_newObj,Sem.run_pure,Result.andThen_ok,h0,h00];have e0:((Array.range 0).map fun q=>(#[]:Array Value)[q % (#[]:Array Value).size]!)=(Array.range 0).map fun q=>zv.cells[q % zv.cells.size]!:=by simp
  rw[e0];rfl
 ·rw[if_neg h0];simp only[newRow,Sem.run_bind,run_newObj,Sem.run_pure,Result.andThen_ok,Zdv hi h2];have e0:c*i.size=c*k:=by rw[hsz]
  rw[e0];rfl
end
end Go.AE
end
section
namespace Go.AE
open Go.RowKit
section
variable {P:Program} {s:Sem Next} {W:Base} {Φ:Pers} {ρ:Rho} {id:Nat} {w w1:World} {m m':Mem} {x:AVal} {v:Value}
theorem Z49(k:Nat)(a:Option Addr)(n c:Nat):(Builtin.firstCells k 0 (.slice a n c)).run P w=.ok #[] w:=by
 cases a with
 | none=>rfl
 | some a=>simp only[Builtin.firstCells,Nat.zero_mul]; rfl
theorem Z0r(k:Nat):RowsIn Φ ρ [] 0 k #[]:=⟨fun i row h=>by simp at h,fun i row j x h=>by simp at h⟩
theorem Zeh{k:Nat}{y:AVal}{xs:List (List AVal)}(hr:Rel W Φ ρ m w)(hy:R Φ ρ y v)(hs:O4 m k y=some xs)(hk:0<k) :
 ∃ arr:Array Value,(Builtin.lenOf v).run P w=.ok xs.length w∧(∀ q,q≤xs.length→(Builtin.firstCells k q v).run P w=.ok (arr.extract 0 (q*k)) w)∧arr.size=xs.length*k∧RowsIn Φ ρ xs 0 k arr:=by
 have empty:∀ (a:Option Addr) (cap:Nat),∃ arr:Array Value,(Builtin.lenOf (.slice a 0 cap)).run P w=.ok ([]:List (List AVal)).length w ∧
  (∀ q,q≤([]:List (List AVal)).length→(Builtin.firstCells k q (.slice a 0 cap)).run P w=.ok (arr.extract 0 (q*k)) w)∧arr.size=([]:List (List AVal)).length*k∧RowsIn Φ ρ [] 0 k arr:=by
  intro a cap;refine⟨#[],rfl,fun q hq=>?_,by simp,Z0r k⟩
  obtain rfl:q=0:=by simpa using hq
  rw[Z49]; simp
 cases hy with
 | str l=>
  simp only[O4]at hs;split at hs
  ·rename_i hk1;subst hk1;injection hs with hs
   subst hs;refine⟨(l.map fun b=>Value.int .u8 b.toNat).toArray,?_,fun q hq=>?_,by simp,fun i row hi=>?_,fun i row j y hi hj=>?_⟩
   ·simp only[Builtin.lenOf,Sem.run_pure,List.length_map]; rfl
   ·simp only[Builtin.firstCells,Sem.run_pure,Zvz]
    congr 1
    apply Array.ext';simp[List.map_take]
   ·rw[List.getElem?_map]at hi;cases hl:l[i]? with
    | none=>simp[hl]at hi
    | some c=>simp only[hl,Option.map_some,oI]at hi; subst hi; rfl
   ·rw[List.getElem?_map]at hi;cases hl:l[i]? with
    | none=>simp[hl]at hi
    | some c=>
     simp only[hl,Option.map_some,oI]at hi;subst hi;have hj0:j=0:=by
      have:=(gS.1 hj).1;simp[Zkb]at this; exact this
     subst hj0;simp only[Zkb,List.getElem?_cons_zero,oI]at hj;subst hj;exact⟨.int .u8 c.toNat,by simp[hl],rfl,.int _ _⟩
  ·cases hs
 | nilSl=>simp only[O4,L3,oI]at hs; subst hs; exact empty none 0
 | emp a=>simp only[O4,L3,oI]at hs; subst hs; exact empty a 0
 | imm0 a cap _=>simp only[O4,L3,List.all_nil,if_true,oI]at hs; subst hs; exact empty a cap
 | imm els B o k' cap c f hne hcap hB hk' hc hrr=>
  simp only[O4,L3]at hs;split at hs
  ·rename_i hall;injection hs with hs
   subst hs;have hpos:0<els.length:=List.length_pos_iff.2 hne;have hkk:k'=k:=by
    have e1:=hk' 0 _ (gE hpos);have e2:=Zyr hall 0 _ (gE hpos);omega
   subst hkk;obtain⟨e,fz,hB2⟩:=hr.pers B c hB;have hsize:o+els.length*k'≤c.size:=by
    have hlast:els[els.length - 1]? = some els[els.length - 1]:=gE (by omega)
    have hl:=hk' _ _ hlast;have hj:k' - 1<(els[els.length - 1]).length:=by omega
    have h1:=(hc _ _ _ _ hlast (gE hj)).1;have h2:=(Array.getElem?_eq_some_iff.1 h1).1;have e3:(els.length - 1+1)*k'=els.length*k':=by rw[Nat.sub_add_cancel hpos]
    rw[Nat.add_mul]at e3;omega
   refine⟨c.extract o (o+els.length*k'),rfl,fun q hq=>?_,by simp; omega,fun i row hi=>hk' i row hi,fun i row j y hi hj=>?_⟩
   ·simp only[Builtin.firstCells];have hqk:q*k'≤els.length*k':=Nat.mul_le_mul_right _ hq;rw[Zrc hB2 (by omega)]
    congr 1
    rw[Array.extract_extract]
    congr 1
    omega
   ·have hi2:=(gS.1 hi).1;have hj2:j<k':=by
     have:=(gS.1 hj).1;rw[hk' i row hi]at this; exact this
    have hlt:=Zed hi2 hj2;obtain⟨h1,h2⟩:=hc i row j y hi hj;refine⟨f i j,?_,h2,hrr i row j y hi hj⟩;rw[Nat.zero_add,Array.getElem?_extract,if_pos (by omega)]
    rw[← h1]; congr 1; omega
  ·cases hs
 | sl b off len a cap l hl hle hn hcap hav=>
  simp only[O4,L3]at hs;have dead:len=0→xs=[] → ∃ arr:Array Value,(Builtin.lenOf (.slice a len cap)).run P w=.ok xs.length w∧(∀ q,q≤xs.length→(Builtin.firstCells k q (.slice a len cap)).run P w=.ok (arr.extract 0 (q*k)) w)∧arr.size=xs.length*k∧RowsIn Φ ρ xs 0 k arr:=by
   intro h0 h1;subst h0; subst h1;exact empty a cap
  cases hg:m.get b with
  | none=>
   simp only[hg]at hs;split at hs
   ·rename_i h0;injection hs with hs
    exact dead h0 hs.symm
   ·cases hs
  | some blk=>
   cases blk with
   | cells k2 els=>
    simp only[hg]at hs;split at hs
    ·rename_i hcond;obtain⟨rfl,hol⟩:=hcond;injection hs with hs
     by_cases h0:len=0
     ·subst h0;exact dead rfl (by rw[← hs]; simp)
     ·have ha:=hcap (by omega)
      subst ha;obtain⟨l',ob,g1,g2,g3,g4,g5⟩:=hr.live b _ hg;rw[hl]at g1; injection g1 with g1; subst g1
      cases g5 with
      | cells _ _ _ c e hk2 hsz hlen hrows _=>
       subst hs;subst hk2;have hxl:((els.drop off).take len).length=len:=by simp; omega
       have hbound:(l.sh+off)*l.k+len*l.k≤c.size:=by
        rw[hsz,← Nat.add_mul];exact Nat.mul_le_mul_right _ (by omega)
       refine⟨c.extract ((l.sh+off)*l.k) ((l.sh+off)*l.k+len*l.k),by rw[hxl]; rfl,fun q hq=>?_,by rw[hxl]; simp; omega,fun i row hi=>?_,fun i row j y hi hj=>?_⟩
       ·rw[hxl]at hq;simp only[Builtin.firstCells];have hqk:q*l.k≤len*l.k:=Nat.mul_le_mul_right _ hq;rw[Zrc g4 (by omega)]
        congr 1
        rw[Array.extract_extract]
        congr 1
        omega
       ·rw[List.getElem?_take]at hi;split at hi
        ·rw[List.getElem?_drop]at hi;exact hrows.1 _ row hi
        ·cases hi
       ·rw[List.getElem?_take]at hi;split at hi
        ·rename_i hil;rw[List.getElem?_drop]at hi;obtain⟨u,h1,h2,h3⟩:=hrows.2 (off+i) row j y hi hj;have hj2:j<l.k:=by
          have:=(gS.1 hj).1;rw[hrows.1 _ row hi]at this; omega
         have hlt:=Zed hil hj2;refine⟨u,?_,h2,h3⟩;have hlen2:len*l.k=((els.drop off).take len).length*l.k:=by rw[hxl]
         rw[Nat.zero_add,Array.getElem?_extract,if_pos (by omega),← h1]
         congr 1
         rw[← Nat.add_assoc l.sh,Nat.add_mul (l.sh+off) i];omega
        ·cases hi
    ·cases hs
   | map es clock=>
    simp only[hg]at hs;split at hs
    ·rename_i h0;injection hs with hs
     exact dead h0 hs.symm
    ·cases hs
   | siter s' pos=>
    simp only[hg]at hs;split at hs
    ·rename_i h0;injection hs with hs
     exact dead h0 hs.symm
    ·cases hs
   | miter a' b' c' d'=>
    simp only[hg]at hs;split at hs
    ·rename_i h0;injection hs with hs
     exact dead h0 hs.symm
    ·cases hs
 | _=>simp[O4,L3]at hs
theorem Znj{els xs:List (List AVal)}{sh k n p:Nat}{c arr:Array Value}(h:RowsIn Φ ρ els sh k c)(hn:c.size=n*k)(hp:p≤els.length)(hl:sh+p+xs.length≤n)
 (hx:RowsIn Φ ρ xs 0 k arr) (hsz:arr.size=xs.length*k):RowsIn Φ ρ (els.take p++xs++els.drop (p+xs.length)) sh k (O5 c ((sh+p)*k) arr.toList):=by
 have hget:∀ (i:Nat) (row:List AVal),(els.take p++xs++els.drop (p+xs.length))[i]? = some row→(i<p∧els[i]? = some row)∨(p≤i∧i<p+xs.length∧xs[i - p]? = some row)∨(p+xs.length≤i∧els[i]? = some row):=by
  intro i row hi;rw[List.getElem?_append,List.getElem?_append]at hi;simp only[List.length_append,List.length_take,Nat.min_eq_left hp]at hi;split at hi
  ·rename_i h1;split at hi
   ·rename_i h2;rw[List.getElem?_take,if_pos h2]at hi;exact .inl ⟨h2,hi⟩
   ·rename_i h2;exact .inr (.inl ⟨by omega,h1,hi⟩)
  ·rename_i h1;rw[List.getElem?_drop]at hi;refine .inr (.inr ⟨by omega,?_⟩)
   rw[← hi]; congr 1; omega
 refine⟨fun i row hi=>?_,fun i row j y hi hj=>?_⟩
 ·rcases hget i row hi with⟨_,h1⟩|⟨_,_,h1⟩|⟨_,h1⟩
  ·exact h.1 _ _ h1
  ·exact hx.1 _ _ h1
  ·exact h.1 _ _ h1
 ·rw[Zpc];simp only[Array.length_toList,hsz];rcases hget i row hi with⟨h0,h1⟩|⟨h0,h00,h1⟩|⟨h0,h1⟩
  ·obtain⟨u,g1,g2,g3⟩:=h.2 i row j y h1 hj;have hj2:j<k:=by
    have:=(gS.1 hj).1;rw[h.1 _ row h1]at this; exact this
   have hlt:=Zed (a:=sh+i) (n:=sh+p) (by omega) hj2
   rw[if_neg (by omega)]
   exact⟨u,g1,g2,g3⟩
  ·obtain⟨u,g1,g2,g3⟩:=hx.2 (i - p) row j y h1 hj;have hj2:j<k:=by
    have:=(gS.1 hj).1;rw[hx.1 _ row h1]at this; exact this
   have e1:(sh+i)*k=(sh+p)*k+(i - p)*k:=by rw[← Nat.add_mul]; congr 1; omega
   have hlt:=Zed (a:=i - p) (n:=xs.length) (by omega) hj2
   have hlt2:(sh+p)*k+xs.length*k≤c.size:=by rw[hn,← Nat.add_mul]; exact Nat.mul_le_mul_right _ hl
   rw[e1,if_pos ⟨by omega,by omega,by omega⟩]
   rw[Nat.zero_add]at g1;refine⟨u,?_,g2,g3⟩;have e2:(sh+p)*k+(i - p)*k+j - (sh+p)*k=(i - p)*k+j:=by omega
   rw[e2];simpa using g1
  ·obtain⟨u,g1,g2,g3⟩:=h.2 i row j y h1 hj;have hle:(sh+p+xs.length)*k≤(sh+i)*k:=Nat.mul_le_mul_right _ (by omega)
   rw[Nat.add_mul (sh+p)]at hle;rw[if_neg (by omega)]
   exact⟨u,g1,g2,g3⟩
theorem Zwh{b:Nat}{x0 x':ABlk}{l l':Loc}{o':Obj}(h:Rel W Φ ρ m w)(hb:m.get b=some x0)(hl:ρ b=some l)(hid:ρ id=none)(hlt:id<m.next)(hl':l'.blk=l.blk)
 (hr:BR Φ (ρ.put id l') x' l' o'):Rel W Φ (ρ.put id l') ((m.del b).set id x') (R8 w l.blk o'):=by
 have hx:=Rho.ext_put (Φ:=Φ) (l:=l') hid;obtain⟨l0,o,g1,g2,g3,g4,g5⟩:=h.live b x0 hb;rw[hl]at g1; injection g1 with g1; subst g1
 have hblt:l.blk<w.heap.size:=by
  rcases Nat.lt_or_ge l.blk w.heap.size with h'|h'
  ·exact h'
  ·rw[Array.getElem?_eq_none h']at g4; cases g4
 have hbi:b≠id:=by rintro rfl; rw[hid]at hl; cases hl
 have rne:∀ b' k,b'≠id→ρ.put id l' b'=some k→ρ b'=some k:=fun b' k hb' he=>by
  unfold Rho.put at he; rw[if_neg hb']at he; exact he
 refine⟨?_,?_,?_,?_,?_,h.newp⟩
 ·exact h.base.put g2
 ·intro B c hB;obtain⟨e,fz,ho⟩:=h.pers B c hB;refine⟨e,fz,?_⟩;rw[Zef,if_neg]
  ·exact ho
  ·rintro⟨rfl,_⟩;rw[hB]at g3; cases g3
 ·intro b' y hy;simp only[Mem.get_set,Mem.get_del]at hy;by_cases hb1:b'=id
  ·subst hb1;rw[if_pos rfl]at hy;injection hy with hy
   subst hy;exact⟨l',o',Rho.put_same,by rw[hl']; exact g2,by rw[hl']; exact g3,by rw[hl',Zef,if_pos ⟨rfl,hblt⟩],hr⟩
  ·rw[if_neg hb1]at hy;by_cases hb2:b'=b
   ·rw[if_pos hb2]at hy; cases hy
   ·rw[if_neg hb2]at hy;obtain⟨k,o'',k1,k2,k3,k4,k5⟩:=h.live b' y hy;refine⟨k,o'',hx.rho _ _ k1,k2,k3,?_,k5.ext hx⟩;rw[Zef,if_neg]
    ·exact k4
    ·rintro⟨he,_⟩;exact hb2 (h.inj b' b y x0 k l hy hb k1 hl he.symm)
 ·intro b1 b2 y1 y2 l1 l2 h1 h2 k1 k2 he;simp only[Mem.get_set,Mem.get_del]at h1 h2;by_cases e1:b1=id
  ·by_cases e2:b2=id
   ·rw[e1,e2]
   ·rw[if_neg e2]at h2;by_cases e3:b2=b
    ·rw[if_pos e3]at h2; cases h2
    ·rw[if_neg e3]at h2;rw[e1,Rho.put_same]at k1;injection k1 with k1; subst k1
     exact absurd (h.inj b2 b y2 x0 l2 l h2 hb (rne _ _ e2 k2) hl (by rw[← he,hl'])) e3
  ·rw[if_neg e1]at h1;by_cases e3:b1=b
   ·rw[if_pos e3]at h1; cases h1
   ·rw[if_neg e3]at h1;by_cases e2:b2=id
    ·rw[e2,Rho.put_same]at k2;injection k2 with k2; subst k2
     exact absurd (h.inj b1 b y1 x0 l1 l h1 hb (rne _ _ e1 k1) hl (by rw[he,hl'])) e3
    ·rw[if_neg e2]at h2;by_cases e4:b2=b
     ·rw[if_pos e4]at h2; cases h2
     ·rw[if_neg e4]at h2;exact h.inj b1 b2 y1 y2 l1 l2 h1 h2 (rne _ _ e1 k1) (rne _ _ e2 k2) he
 ·intro b' k hb';by_cases hbb:b'=id
  ·rw[hbb]; exact hlt
  ·exact h.fresh b' k (rne _ _ hbb hb')
end
end Go.AE
end
section
namespace Go.AE
open Go.RowKit
section
variable {P:Program} {s:Sem Next} {W:Base} {Φ:Pers} {ρ:Rho} {id:Nat} {w w1:World} {m m':Mem} {x:AVal} {v:Value}
theorem Zxk(N:Nat):∀ (r c:Nat),Builtin.growBy N r c≤max c (N+(N+768) / 4)
 | 0,c=>by simp only[Builtin.growBy]; omega
 | r+1,c=>by
  simp only[Builtin.growBy];split
  ·omega
  ·have:=Zxk N r (c+(c+768) / 4);omega
theorem Zx1{need cap:Nat}(h:cap<need):Builtin.nextslicecap need cap≤2*need+768:=by
 unfold Builtin.nextslicecap;split
 ·omega
 ·split
  ·omega
  ·have:=Zxk need 4 cap;omega
theorem Zs3{A B:List (List AVal)}{k:Nat}{a b c:Array Value}(ha:RowsIn Φ ρ A 0 k a)(hsa:a.size=A.length*k)(hb:RowsIn Φ ρ B 0 k b)(hsb:b.size=B.length*k):RowsIn Φ ρ (A++B) 0 k (a++b++c):=by
 refine⟨fun i row hi=>?_,fun i row j y hi hj=>?_⟩
 ·rw[List.getElem?_append]at hi;split at hi
  ·exact ha.1 _ _ hi
  ·exact hb.1 _ _ hi
 ·rw[List.getElem?_append]at hi;split at hi
  ·rename_i h1;obtain⟨u,g1,g2,g3⟩:=ha.2 i row j y hi hj;have hj2:j<k:=by
    have:=(gS.1 hj).1;rw[ha.1 _ row hi]at this; exact this
   have hlt:=Zed h1 hj2;rw[Nat.zero_add]at g1 ⊢;refine⟨u,?_,g2,g3⟩;rw[Array.getElem?_append,if_pos (by simp; omega),Array.getElem?_append,if_pos (by omega)]
   exact g1
  ·rename_i h1;obtain⟨u,g1,g2,g3⟩:=hb.2 (i - A.length) row j y hi hj;have hi2:=(gS.1 hi).1;have hj2:j<k:=by
    have:=(gS.1 hj).1;rw[hb.1 _ row hi]at this; exact this
   have hlt:=Zed hi2 hj2;have e1:i*k=A.length*k+(i - A.length)*k:=by rw[← Nat.add_mul]; congr 1; omega
   rw[Nat.zero_add]at g1 ⊢;refine⟨u,?_,g2,g3⟩;rw[Array.getElem?_append,if_pos (by simp; omega),Array.getElem?_append,if_neg (by omega)]
   rw[← g1]
   congr 1
   omega
theorem Zqd{t e u ty:TypeId}{i:TypeInfo}{d:TypeDesc}{base:Option Addr}{len cap n:Nat}{vx:Value}{arr:Array Value}{w':World}(ht:P.underlying t=some (.slice e))(hi:P.info? e=some i)(hu:P.underlying u=some d)(hd:∀ k,d≠.int k)
 (hl:(Builtin.lenOf vx).run P w=.ok n w) (hf:(Builtin.firstCells i.size n vx).run P w=.ok arr w) (hle:len+n≤cap)
 (hst:match base with|some a=>(storeCells (a.add (len*i.size)) arr.toList).run P w=.ok () w'|none=>w'=w) :
 (Builtin.append_ #[t,u] ty #[.slice base len cap,vx]).run P w=.ok (.slice base (len+n) cap) w':=by
 have hz:(match d with | .int _=>true|_=>false)=false:=by cases d<;>first|rfl|exact absurd rfl (hd _)
 have e1:(Builtin.append_ #[t,u] ty #[.slice base len cap,vx]).run P w=((do
  let new ← Builtin.firstCells i.size n vx
  if let some a:=base then storeCells (a.add (len*i.size)) new.toList
  pure (Value.slice base (len+n) cap):Sem Value)).run P w:=by
  unfold Builtin.append_;simp only[Sem.run_bind,List.getElem?_toArray,List.getElem?_cons_zero,List.getElem?_cons_succ,W8 ht,Result.andThen_ok,E8 hi,W8 hu];cases d<;>first|(exact absurd rfl (hd _))|(simp only[Sem.run_bind,Sem.run_pure,Result.andThen_ok,bF,if_false,hl,hle,if_true,Bool.not_false]; rfl)
 rw[e1];simp only[Sem.run_bind,hf,Result.andThen_ok];cases base with
 | none=>simp only at hst; subst hst; rfl
 | some a=>simp only at hst; simp only[Sem.run_bind,hst,Result.andThen_ok,Sem.run_pure]
theorem Yb4{t e u ty:TypeId}{i:TypeInfo}{d:TypeDesc}{z:Value}{base:Option Addr}{len cap n:Nat}{vx:Value}{old arr:Array Value}(ht:P.underlying t=some (.slice e))(hi:P.info? e=some i)(hz:i.zero=some z)(hu:P.underlying u=some d)(hd:∀ k,d≠.int k)
 (hl:(Builtin.lenOf vx).run P w=.ok n w) (ho:(Builtin.firstCells i.size len (.slice base len cap)).run P w.drew=.ok old w.drew) (hf:(Builtin.firstCells i.size n vx).run P w.drew=.ok arr w.drew) (hlt:cap<len+n) (hroom:len+n≤X4) (hb:i.bytes≤X4) :
 ∃ nc,len+n≤nc∧(Builtin.append_ #[t,u] ty #[.slice base len cap,vx]).run P w =
  .ok (.slice (some ⟨w.drew.heap.size,0,none⟩) (len+n) nc) (w.drew.alloc (.cells (old++arr++Builtin.zeroCells z.cells (nc - (len+n))) e)):=by
 have hq:(Question.appendCap (len+n) cap e).forced=false:=rfl;refine⟨(Question.appendCap (len+n) cap e).cut (w.tape w.drawn (.appendCap (len+n) cap e)),by simp only[Question.cut]; omega,?_⟩
 generalize hnc:(Question.appendCap (len+n) cap e).cut (w.tape w.drawn (.appendCap (len+n) cap e))=nc;unfold X4 at hroom hb;have hcap:=Zx1 hlt;have hmul:Builtin.nextslicecap (len+n) cap*i.bytes≤(2*1048576+768)*1048576:=Nat.mul_le_mul (by omega) hb
 have hmax:IntKind.i64.max=9223372036854775807:=by decide
 have e1:(Builtin.append_ #[t,u] ty #[.slice base len cap,vx]).run P w=((do
  let newCap ← choose (.appendCap (len+n) cap e)
  askRoom (newCap*i.bytes)
  let old ← Builtin.firstCells i.size len (.slice base len cap)
  let new ← Builtin.firstCells i.size n vx
  let rest:=Builtin.zeroCells (← zeroValue e).cells (newCap - (len+n))
  pure (Value.slice (some (← newRow e (old++new++rest))) (len+n) newCap):Sem Value)).run P w:=by
  unfold Builtin.append_;simp only[Sem.run_bind,List.getElem?_toArray,List.getElem?_cons_zero,List.getElem?_cons_succ,W8 ht,Result.andThen_ok,E8 hi,W8 hu];cases d<;>first|(exact absurd rfl (hd _))|skip
  all_goals
   simp only[Sem.run_bind,Sem.run_pure,Result.andThen_ok,bF,if_false,hl,Bool.not_false,if_true];rw[if_neg (by omega)]
   simp only[Sem.run_bind,Zb5 hi,Result.andThen_ok,hmax];rw[if_neg (by omega)]
   simp only[Sem.run_bind,Zb5 hi,Result.andThen_ok];rw[if_neg (by omega)]
   simp only[Sem.run_bind,Zb5 hi,Result.andThen_ok];rfl
 rw[e1];simp only[Sem.run_bind,run_choose,hq,bF,if_false,Result.andThen_ok,run_askRoom,hnc];have hw:({ w with drawn:=w.drawn+1 }:World)=w.drew:=rfl
 rw[hw];simp only[ho,hf,Result.andThen_ok,Zdv hi hz,newRow,Sem.run_bind,run_newObj,Sem.run_pure];rfl
theorem Z5w(m:Mem)(b:Nat):Mem.Sub (m.del b) m:=⟨fun c x h=>by
 simp only[Mem.get_del]at h;split at h
 ·cases h
 ·exact h,Nat.le_refl _⟩
theorem Zww{len n nc k:Nat}{old arr z:Array Value}(ho:old.size=len*k)(ha:arr.size=n*k)(hz:z.size=k)(hle:len+n≤nc):(old++arr++Builtin.zeroCells z (nc - (len+n))).size=nc*k:=by
 simp only[Array.size_append,Builtin.zeroCells,Array.size_map,Array.size_range,ho,ha,hz];rw[← Nat.add_mul,← Nat.add_mul]
 congr 1
 omega
theorem Zya{els:List (List AVal)}{sh k off len:Nat}{c:Array Value}(h:RowsIn Φ ρ els sh k c):RowsIn Φ ρ ((els.drop off).take len) (sh+off) k c:=by
 refine⟨fun q row hq=>?_,fun q row j y hq hj=>?_⟩
 ·rw[List.getElem?_take]at hq;split at hq
  ·rw[List.getElem?_drop]at hq; exact h.1 _ _ hq
  ·cases hq
 ·rw[List.getElem?_take]at hq;split at hq
  ·rw[List.getElem?_drop]at hq;obtain⟨uu,k1,k2,k3⟩:=h.2 _ row j y hq hj;exact⟨uu,by rw[← k1,Nat.add_assoc sh],k2,k3⟩
  ·cases hq
theorem Zmi{l:Loc}{a:Option Addr}{off len cap n:Nat}{c arr:Array Value}{e':TypeId}{size:Nat}(hw:w.heap[l.blk]? = some (.cells c e' (0,0)))(hcs:c.size=l.n*l.k)(hcn:l.sh+off+cap=l.n)
 (hcap:0<cap→a=some ⟨l.blk,(l.sh+off)*l.k,none⟩) (hfit:len+n≤cap) (hsz:size=l.k) (harr:arr.size=n*l.k) (h1:∀ u,u∈arr.toList→u.oneCell'=true) :
 match a with
 | some a=>(storeCells (a.add (len*size)) arr.toList).run P w=.ok () (R8 w l.blk (.cells (O5 c ((l.sh+(off+len))*l.k) arr.toList) e' (0,0)))
 | none=>R8 w l.blk (.cells (O5 c ((l.sh+(off+len))*l.k) arr.toList) e' (0,0))=w:=by
 by_cases hc0:0<cap
 ·have hae:=hcap hc0;subst hae;simp only;rw[Addr.add_none,hsz];have e1:(l.sh+off)*l.k+len*l.k=(l.sh+(off+len))*l.k:=by rw[← Nat.add_mul]; congr 1; omega
  rw[e1];have hbound:(l.sh+(off+len))*l.k+n*l.k≤c.size:=by
   rw[hcs,← Nat.add_mul]; exact Nat.mul_le_mul_right _ (by omega)
  have:=Zpf (P:=P) (B:=l.blk) (o:=(l.sh+(off+len))*l.k) (e:=e') arr.toList 0 w c h1 hw (by simp[harr]; omega)
  simpa using this
 ·have hx0:n=0:=by omega
  have harr0:arr = #[]:=by
   apply Array.eq_empty_of_size_eq_zero;rw[harr,hx0]; simp
  subst harr0;have hself:=Zlf hw;cases a with
  | none=>simpa[O5]using hself
  | some a=>simp only[storeCells,Sem.run_pure,O5,hself]
section
variable {t e u ty:TypeId} {k:Nat} {i:TypeInfo} {d:TypeDesc} {zv:Value} {vx:Value} {xs:List (List AVal)} {yx:AVal} {a:Option Addr} {bb off len cap:Nat} {l:Loc} {els:List (List AVal)}
theorem Yab(hr:Rel W Φ ρ m w)(ht:P.underlying t=some (.slice e))(hi:P.info? e=some i)(hu:P.underlying u=some d)(hd:∀ k,d≠.int k)(hk0:0<i.size)(hx:R Φ ρ yx vx)(hsrc:O4 m i.size yx=some xs)
 (hl':ρ bb=some l) (hle:len≤cap) (hcn:l.sh+off+cap=l.n) (hcap:0<cap→a=some ⟨l.blk,(l.sh+off)*l.k,none⟩) (hav:a.isSome=true) (hg:m.get bb=some (.cells i.size els)) (hfit:off+len+xs.length≤els.length)
 (hs:∀ u' w',(Builtin.append_ #[t,u] ty #[.slice a len cap,vx]).run P w=.ok u' w'→s.run P w=.ok (.value u') w') :
 Done P s W Φ ρ id w (.sl bb off (len+xs.length)) (m.set bb (.cells i.size (els.take (off+len)++xs++els.drop (off+len+xs.length)))):=by
 obtain⟨arr,hl,hf,harr,hrows⟩:=Zeh hr hx hsrc hk0;have hfull:(Builtin.firstCells i.size xs.length vx).run P w=.ok arr w:=by
  rw[hf _ (Nat.le_refl _)]
  congr 1
  rw[← harr]; simp
 obtain⟨l',ob,g1,g2,g3,g4,g5⟩:=hr.live bb _ hg;rw[hl']at g1; injection g1 with g1; subst g1
 cases g5 with
 | cells _ _ _ c e' hk2 hcs hlen hrowsb h1b=>
  have hlc:len+xs.length≤cap:=by omega
  rw[← hk2]at harr hrowsb hcs;have hst:=Zmi (P:=P) (e':=e') (size:=i.size) (len:=len) g4 hcs hcn hcap hlc hk2.symm harr (Zae hrows (by rw[← hk2]; exact harr) hk0)
  have hrun:=Zqd (P:=P) (ty:=ty) (base:=a) (len:=len) (cap:=cap) (n:=xs.length) (arr:=arr) (w':=R8 w l.blk (.cells (O5 c ((l.sh+(off+len))*l.k) arr.toList) e' (0,0))) ht hi hu hd hl hfull hlc (by
   cases a with
   | none=>exact hst
   | some a=>exact hst)
  rw[← hk2]at hrows;have hsp:=Znj (p:=off+len) hrowsb hcs (by omega) (by omega) hrows harr
  refine Done.updV (hs _ _ hrun) hr hg hl' (.cells _ _ _ _ _ hk2 (by rw[Ze0,hcs,hk2]) ?_ (by rw[← hk2]; exact hsp) (Zjp _ _ _ h1b (Zae hrows harr (by omega)))) (.sl bb off (len+xs.length) a cap l hl' hlc hcn hcap hav)
  simp only[List.length_append,List.length_take,List.length_drop];omega
theorem Z93(hr:Rel W Φ ρ m w)(hn:ρ id=none)(hlt:id<m.next)(ht:P.underlying t=some (.slice e))(hi:P.info? e=some i)(hu:P.underlying u=some d)(hd:∀ k,d≠.int k)(hk0:0<i.size)(hx:R Φ ρ yx vx)(hsrc:O4 m i.size yx=some xs)
 (hl':ρ bb=some l) (hcn:l.sh+off+cap=l.n) (hcap:0<cap→a=some ⟨l.blk,(l.sh+off)*l.k,none⟩) (hav:a.isSome=true) (hg:m.get bb=some (.cells i.size els)) (hel:els.length=off+len) (hlc:len+xs.length≤cap)
 (hs:∀ u' w',(Builtin.append_ #[t,u] ty #[.slice a len cap,vx]).run P w=.ok u' w'→s.run P w=.ok (.value u') w') :
 Done P s W Φ ρ id w (.sl id 0 (len+xs.length)) ((m.del bb).set id (.cells i.size ((els.drop off).take len++xs))):=by
 obtain⟨arr,hl,hf,harr,hrows⟩:=Zeh hr hx hsrc hk0;have hfull:(Builtin.firstCells i.size xs.length vx).run P w=.ok arr w:=by
  rw[hf _ (Nat.le_refl _)]
  congr 1
  rw[← harr]; simp
 obtain⟨l',ob,g1,g2,g3,g4,g5⟩:=hr.live bb _ hg;rw[hl']at g1; injection g1 with g1; subst g1
 cases g5 with
 | cells _ _ _ c e' hk2 hcs hlen hrowsb h1b=>
  rw[← hk2]at harr hrowsb hcs;have hst:=Zmi (P:=P) (e':=e') (size:=i.size) (len:=len) g4 hcs hcn hcap hlc hk2.symm harr (Zae hrows (by rw[← hk2]; exact harr) hk0)
  have hrun:=Zqd (P:=P) (ty:=ty) (base:=a) (len:=len) (cap:=cap) (n:=xs.length) (arr:=arr) (w':=R8 w l.blk (.cells (O5 c ((l.sh+(off+len))*l.k) arr.toList) e' (0,0))) ht hi hu hd hl hfull hlc (by
   cases a with
   | none=>exact hst
   | some a=>exact hst)
  rw[← hk2]at hrows;have hsub:=Zya (off:=off) (len:=len) hrowsb;have hlen2:((els.drop off).take len).length=len:=by simp; omega
  generalize (els.drop off).take len=tk at hsub hlen2 ⊢;have hsp:=Znj (p:=len) (n:=l.n) hsub hcs (by omega) (by omega) hrows harr
  have e2:tk.take len++xs++tk.drop (len+xs.length)=tk++xs:=by
   rw[List.take_of_length_le (by omega),List.drop_eq_nil_of_le (by omega),List.append_nil]
  rw[e2,Nat.add_assoc l.sh]at hsp;refine⟨_,_,Φ,ρ.put id ⟨l.blk,l.sh+off,l.k,l.n⟩,.inl (hs _ _ hrun),Rho.ext_put hn,fun q hq h0=>by unfold Rho.put; rw[if_neg hq]; exact h0,
   Zwh hr hg hl' hn hlt rfl (BR.ext_put hn (.cells _ _ _ _ _ hk2 (by rw[Ze0,hcs,hk2]) (by simp only[List.length_append,hlen2]; omega) (by rw[← hk2]; exact hsp) (Zjp _ _ _ h1b (Zae hrows harr (by omega))))),?_⟩
  refine .sl id 0 (len+xs.length) a cap ⟨l.blk,l.sh+off,l.k,l.n⟩ Rho.put_same hlc (by simpa using hcn) (fun hc0=>?_) hav
  rw[hcap hc0];rfl
theorem Zqh{zc:Array Value}{k n:Nat}(h:∀ v,v∈zc.toList→v.oneCell'=true)(hs:zc.size=k)(hk:0<k):∀ v,v∈(Builtin.zeroCells zc n).toList→v.oneCell'=true:=by
 intro v hv;simp only[Builtin.zeroCells,Array.toList_map,List.mem_map]at hv;obtain⟨q,_,rfl⟩:=hv;have hlt:q % zc.size<zc.size:=Nat.mod_lt _ (by omega)
 rw[getElem!_pos zc _ hlt];exact h _ (by simp)
theorem Zo1(hr:Rel W Φ ρ m w)(hn:ρ id=none)(hlt:id<m.next)(ht:P.underlying t=some (.slice e))(hi:P.info? e=some i)(hz:i.zero=some zv)(hzs:zv.cells.size=i.size)(hz1:∀ v,v∈zv.cells.toList→v.oneCell'=true)(hu:P.underlying u=some d)(hd:∀ k,d≠.int k)(hk0:0<i.size)(hx:R Φ ρ yx vx)(hsrc:O4 m i.size yx=some xs)
 {ys:AVal} {olds:List (List AVal)} {m0:Mem} (hy:R Φ ρ ys (.slice a len cap)) (hold:O4 m i.size ys=some olds) (hol:olds.length=len) (hsub:Mem.Sub m0 m) (hnc:cap<len+xs.length) (hroom:len+xs.length≤X4) (hb:i.bytes≤X4)
 (hs:∀ u' w',(Builtin.append_ #[t,u] ty #[.slice a len cap,vx]).run P w=.ok u' w'→s.run P w=.ok (.value u') w') :
 Done P s W Φ ρ id w (.sl id 0 (len+xs.length)) (m0.set id (.cells i.size (olds++xs))):=by
 obtain⟨arr,hl,hf,harr,hrows⟩:=Zeh hr hx hsrc hk0;obtain⟨arr2,hl2,hf2,harr2,hrows2⟩:=Zeh hr.drew hx hsrc hk0;obtain⟨old,ho1,ho2,ho3,ho4⟩:=Zeh hr.drew hy hold hk0;have hfull2:(Builtin.firstCells i.size xs.length vx).run P w.drew=.ok arr2 w.drew:=by
  rw[hf2 _ (Nat.le_refl _)]
  congr 1
  rw[← harr2]; simp
 have hold2:(Builtin.firstCells i.size len (.slice a len cap)).run P w.drew=.ok old w.drew:=by
  rw[ho2 len (by omega)]
  congr 1
  have:old.size=len*i.size:=by rw[ho3,hol]
  rw[← this]; simp
 obtain⟨nc,hnc2,hrun⟩:=Yb4 (P:=P) (ty:=ty) (base:=a) (len:=len) (cap:=cap) (old:=old) ht hi hz hu hd hl hold2 hfull2 hnc hroom hb;refine Zkm (cap:=nc) (w1:=w.drew) (hr.drew.sub hsub) hn (Nat.lt_of_lt_of_le hlt hsub.next) hnc2 (by simp only[List.length_append,hol]; exact hnc2) ?_ ?_ ?_ (hs _ _ hrun)
 ·exact Zww (by rw[ho3,hol]) harr2 hzs hnc2
 ·exact Zs3 ho4 ho3 hrows2 harr2
 ·intro u hu;simp only[Array.toList_append,List.mem_append]at hu;rcases hu with(hu|hu)|hu
  ·exact Zae ho4 ho3 hk0 u hu
  ·exact Zae hrows2 harr2 hk0 u hu
  ·exact Zqh hz1 hzs hk0 u hu
end
theorem Yb7{t u ty:TypeId}{k b:Nat}{z:List AVal}{d:TypeDesc}{ys:AVal}{vs vx:Value}{xs:List (List AVal)}{yx:AVal}{r:AVal×Mem}(hr:Rel W Φ ρ m w)(hn:ρ id=none)(hlt:id<m.next)
 (he:Zab P t=some (k,b,z)) (hu:P.underlying u=some d) (hd:∀ k,d≠.int k) (hy:R Φ ρ ys vs) (hx:R Φ ρ yx vx) (hsrc:O4 m k yx=some xs) (ha:J6 id k b m ys xs=some r)
 (hs:∀ u' w',(Builtin.append_ #[t,u] ty #[vs,vx]).run P w=.ok u' w'→s.run P w=.ok (.value u') w'):Done P s W Φ ρ id w r.1 r.2:=by
 obtain⟨e,i,ht,hi,hsz,hb,hz,hzl,hk0⟩:=Zgh he;obtain⟨i',zv,y,h1,h2,h3,h4,h5⟩:=Zeo hz Φ ρ;rw[hi]at h1; injection h1 with h1; subst h1
 have hzc:=h3.cells_R h4;have hzsz:zv.cells.size=i.size:=by rw[hzc.1,hzl,hsz]
 have hz1:=Zk4 hzc h5;subst hsz; subst hb;have emptyCase:∀ (a:Option Addr) (y0:AVal),R Φ ρ y0 (.slice a 0 0)→O4 m i.size y0=some []→(xs=[]∧r=(y0,m))∨(xs≠[]∧xs.length≤X4∧i.bytes≤X4∧r=(.sl id 0 xs.length,m.set id (.cells i.size xs)))→vs=.slice a 0 0→Done P s W Φ ρ id w r.1 r.2:=by
  rintro a y0 hy0 hsy (⟨rfl,rfl⟩|⟨hne,hroom,hbr,rfl⟩) rfl
  ·obtain⟨arr,hl,hf,harr,hrows⟩:=Zeh hr hx hsrc hk0;have harr0:arr = #[]:=by
    apply Array.eq_empty_of_size_eq_zero;simpa using harr
   subst harr0;have hfull:=hf 0 (Nat.le_refl _);have:=Zqd (P:=P) (ty:=ty) (base:=a) (len:=0) (cap:=0) (arr:=#[]) (w':=w) ht hi hu hd hl (by simpa using hfull) (by simp) (by cases a<;>rfl)
   exact Done.val (hs _ _ this) hr hy0
  ·have hpos:0<xs.length:=List.length_pos_iff.2 hne;have:=Zo1 (id:=id) (ty:=ty) hr hn hlt ht hi h2 hzsz hz1 hu hd hk0 hx hsrc hy0 hsy rfl (Mem.Sub.refl m) (by omega) (by omega) hbr hs
   simpa using this
 cases hy with
 | nilSl=>
  refine emptyCase none .nilSl .nilSl rfl ?_ rfl;simp only[J6]at ha;split at ha
  ·injection ha with ha; exact .inl ⟨‹_›,ha.symm⟩
  ·split at ha
   ·rename_i h6 h7;injection ha with ha; exact .inr ⟨h6,h7.1,h7.2,ha.symm⟩
   ·cases ha
 | emp a=>
  refine emptyCase a .emp (.emp a) rfl ?_ rfl;simp only[J6]at ha;split at ha
  ·injection ha with ha; exact .inl ⟨‹_›,ha.symm⟩
  ·split at ha
   ·rename_i h6 h7;injection ha with ha; exact .inr ⟨h6,h7.1,h7.2,ha.symm⟩
   ·cases ha
 | sl bb off len a cap l hl' hle hcn hcap hav=>
  simp only[J6]at ha;cases hg:m.get bb with
  | none=>simp[hg]at ha
  | some blk=>
   cases blk with
   | cells k2 els=>
    simp only[hg]at ha;split at ha
    ·rename_i hcond;obtain⟨rfl,hol,hor⟩:=hcond;split at ha
     ·rename_i hfit;injection ha with ha
      subst ha;exact Yab hr ht hi hu hd hk0 hx hsrc hl' hle hcn hcap hav hg hfit hs
     ·rename_i hnofit;split at ha
      ·rename_i hroom;injection ha with ha
       subst ha;by_cases hlc:len+xs.length≤cap
       ·exact Z93 hr hn hlt ht hi hu hd hk0 hx hsrc hl' hcn hcap hav hg (by omega) hlc hs
       ·exact Zo1 hr hn hlt ht hi h2 hzsz hz1 hu hd hk0 hx hsrc (.sl bb off len a cap l hl' hle hcn hcap hav) (by
         show L3 m i.size (.sl bb off len)=some ((els.drop off).take len);simp[L3,hg,hol]) (by simp; omega) (Z5w m bb) (by omega) hroom.1 hroom.2 hs
      ·cases ha
    ·cases ha
   | map es clock=>simp[hg]at ha
   | siter s' pos=>simp[hg]at ha
   | miter a' b' c' d'=>simp[hg]at ha
 | _=>simp[J6]at ha
end
end Go.AE
end
section
namespace Go.AE
open Go.RowKit
section
variable {P:Program} {s:Sem Next} {W:Base} {Φ:Pers} {ρ:Rho} {id:Nat} {w w1:World} {m m':Mem} {x:AVal} {v:Value}
theorem Z4f{t ty:TypeId}{k:Nat}{b:Nat}{z:List AVal}{u:TypeId}{vd vs:Value}{xs:List (List AVal)}{yx:AVal}{bb off len:Nat}{els:List (List AVal)}(hr:Rel W Φ ρ m w)
 (he:Zab P t=some (k,b,z)) (hy:R Φ ρ (.sl bb off len) vd) (hx:R Φ ρ yx vs) (hsrc:O4 m k yx=some xs) (hg:m.get bb=some (.cells k els)) (hol:off+len≤els.length)
 (hs:∀ u' w',(Builtin.copy_ #[t,u] ty #[vd,vs]).run P w=.ok u' w'→s.run P w=.ok (.value u') w') :
 Done P s W Φ ρ id w (.int .i64 (min xs.length len:Nat)) (m.set bb (.cells k (els.take off++xs.take (min xs.length len)++els.drop (off+min xs.length len)))):=by
 obtain⟨e,i,ht,hi,hsz,hb,hz,hzl,hk0⟩:=Zgh he;subst hsz;obtain⟨arr,hl,hf,harr,hrows⟩:=Zeh hr hx hsrc hk0;cases hy with
 | sl _ _ _ a cap l hl' hle hcn hcap hav=>
  obtain⟨l',ob,g1,g2,g3,g4,g5⟩:=hr.live bb _ hg;rw[hl']at g1; injection g1 with g1; subst g1
  cases g5 with
  | cells _ _ _ c e' hk2 hcs hlen hrowsb h1b=>
   obtain⟨n,hn⟩:∃ n,min xs.length len=n:=⟨_,rfl⟩
   rw[hn];have hnx:n≤xs.length:=by omega
   have hnl:n≤len:=by omega
   have hfn:=hf n hnx;have harrn:(arr.extract 0 (n*i.size)).size=(xs.take n).length*i.size:=by
    have:n*i.size≤xs.length*i.size:=Nat.mul_le_mul_right _ hnx;simp only[Array.size_extract,harr,List.length_take];rw[Nat.min_eq_left hnx]; omega
   have hrown:RowsIn Φ ρ (xs.take n) 0 i.size (arr.extract 0 (n*i.size)):=by
    refine⟨fun q row hq=>?_,fun q row j y hq hj=>?_⟩
    ·rw[List.getElem?_take]at hq;split at hq
     ·exact hrows.1 _ _ hq
     ·cases hq
    ·rw[List.getElem?_take]at hq;split at hq
     ·rename_i hqn;obtain⟨uu,k1,k2,k3⟩:=hrows.2 _ row j y hq hj;have hj2:j<i.size:=by
       have:=(gS.1 hj).1;rw[hrows.1 _ row hq]at this; exact this
      have hlt:=Zed hqn hj2;have hle2:n*i.size≤xs.length*i.size:=Nat.mul_le_mul_right _ hnx;refine⟨uu,?_,k2,k3⟩;rw[Nat.zero_add]at k1 ⊢;rw[Array.getElem?_extract,if_pos (by omega),← k1]
      congr 1; omega
     ·cases hq
   have hnl2:(xs.take n).length=n:=by simp; omega
   have hst:=Zmi (P:=P) (a:=a) (len:=0) (cap:=cap) (n:=n) (off:=off) (e':=e') (size:=i.size) g4 (by rw[hcs,hk2]) hcn hcap (by omega) hk2.symm (by rw[harrn,hnl2,hk2]) (Zae hrown harrn hk0)
   simp only[Nat.add_zero,Nat.zero_mul]at hst;have hrun:(Builtin.copy_ #[t,u] ty #[.slice a len cap,vs]).run P w=.ok (.int .i64 (n:Nat)) (R8 w l.blk (.cells (O5 c ((l.sh+off)*l.k) (arr.extract 0 (n*i.size)).toList) e' (0,0))):=by
    unfold Builtin.copy_;simp only[Sem.run_bind,List.getElem?_toArray,List.getElem?_cons_zero,List.getElem?_cons_succ,W8 ht,Result.andThen_ok,E8 hi];rw[hl];have hmin:Nat.min xs.length len=n:=hn;simp only[Sem.run_bind,Result.andThen_ok,hmin,hfn];cases a with
    | none=>simp only at hst; rw[hst]; rfl
    | some a=>
     have ha0:a.add 0=a:=by simp[Addr.add]
     simp only at hst;rw[ha0]at hst;simp only[Sem.run_bind,hst,Result.andThen_ok]; rfl
   have hone:=Zae hrown harrn hk0;rw[← hk2]at hrown harrn hrowsb hcs;have hsp:=Znj (p:=off) hrowsb hcs (by omega) (by omega) hrown harrn
   rw[hnl2,hk2]at hsp;refine Done.updV (hs _ _ hrun) hr hg hl' (.cells _ _ _ _ _ hk2 (by rw[Ze0,hcs,hk2]) ?_ (by rw[hk2]; exact hsp) (Zjp _ _ _ h1b hone)) (.int _ _)
   simp only[List.length_append,List.length_take,List.length_drop];omega
theorem Zqe{t ty:TypeId}{k b:Nat}{z:List AVal}{vx:Value}{yx:AVal}{r:Mem}(hr:Rel W Φ ρ m w)(he:Zab P t=some (k,b,z))(hy:R Φ ρ yx vx)
 (h:(∃ bb off len els,yx=.sl bb off len∧m.get bb=some (.cells k els)∧off+len≤els.length∧r=m.set bb (.cells k (els.take off++List.replicate len z++els.drop (off+len))))∨((yx=.nilSl∨yx=.emp)∧r=m))
 (hs:∀ u' w',(Builtin.clear_ #[t] ty #[vx]).run P w=.ok u' w'→s.run P w=.ok (.value u') w'):Done P s W Φ ρ id w aundef r:=by
 obtain⟨e,i,ht,hi,hsz,hb,hz,hzl,hk0⟩:=Zgh he;subst hsz;obtain⟨i',zv,y,h1,h2,h3,h4,h5⟩:=Zeo hz Φ ρ;rw[hi]at h1; injection h1 with h1; subst h1
 have hzc:=h3.cells_R h4;rcases h with⟨bb,off,len,els,rfl,hg,hol,rfl⟩|⟨hy0,rfl⟩
 ·cases hy with
  | sl _ _ _ a cap l hl' hle hcn hcap hav=>
   obtain⟨l',ob,g1,g2,g3,g4,g5⟩:=hr.live bb _ hg;rw[hl']at g1; injection g1 with g1; subst g1
   cases g5 with
   | cells _ _ _ c e' hk2 hcs hlen hrowsb h1b=>
    have hzn:zv.cells.size=i.size:=by rw[hzc.1,hzl]
    have hrown:=Zjb (len:=len) hzc h5 hzl hk0;have hzsz:((Array.range (len*i.size)).map fun q=>zv.cells[q % zv.cells.size]!).size=(List.replicate len z).length*i.size:=by simp
    have hzero:Builtin.zeroCells zv.cells len=(Array.range (len*i.size)).map fun q=>zv.cells[q % zv.cells.size]!:=by simp only[Builtin.zeroCells,hzn]
    have hst:=Zmi (P:=P) (a:=a) (len:=0) (cap:=cap) (n:=len) (off:=off) (e':=e') (size:=i.size) g4 (by rw[hcs,hk2]) hcn hcap (by omega) hk2.symm (by rw[hzsz,hk2]; simp) (Zae hrown hzsz hk0)
    simp only[Nat.add_zero,Nat.zero_mul]at hst;have hone:=Zae hrown hzsz hk0;rw[← hk2]at hrown hzsz hrowsb hcs;have hsp:=Znj (p:=off) hrowsb hcs (by omega) (by simp; omega) hrown hzsz
    rw[List.length_replicate]at hsp;have hrun:(Builtin.clear_ #[t] ty #[.slice a len cap]).run P w=.ok (.tuple #[]) (R8 w l.blk (.cells (O5 c ((l.sh+off)*l.k) ((Array.range (len*i.size)).map fun q=>zv.cells[q % zv.cells.size]!).toList) e' (0,0))):=by
     unfold Builtin.clear_;simp only[Sem.run_bind,List.getElem?_toArray,List.getElem?_cons_zero,W8 ht,Result.andThen_ok];cases a with
     | none=>simp only at hst; rw[hst]; rfl
     | some a=>
      have ha0:a.add 0=a:=by simp[Addr.add]
      simp only at hst;rw[ha0]at hst;cases len with
      | zero=>
       have e0:((Array.range (0*i.size)).map fun q=>zv.cells[q % zv.cells.size]!) = #[]:=by simp
       rw[e0]at hst ⊢;simp only[O5,Zlf g4];rfl
      | succ n=>
       simp only[Sem.run_bind,Zdv hi h2,Result.andThen_ok,hzero,hst]; rfl
    have hfin:Done P s W Φ ρ id w aundef (m.set bb (.cells i.size (els.take off++List.replicate len z++els.drop (off+len)))):=by
     refine Done.updV (v:=.tuple #[]) (hs _ _ hrun) hr hg hl' (.cells _ _ _ _ _ hk2 (by rw[Ze0,hcs,hk2]) ?_ (by rw[← hk2]; exact hsp) (Zjp _ _ _ h1b hone)) (Zeu _ _)
     simp only[List.length_append,List.length_take,List.length_drop,List.length_replicate];omega
    exact hfin
 ·have hrun:(Builtin.clear_ #[t] ty #[vx]).run P w=.ok (.tuple #[]) w:=by
   unfold Builtin.clear_;simp only[Sem.run_bind,List.getElem?_toArray,List.getElem?_cons_zero,W8 ht,Result.andThen_ok];rcases hy0 with rfl|rfl
   ·cases hy; rfl
   ·cases hy with
    | emp a=>cases a<;>rfl
  exact Done.val (hs _ _ hrun) hr (Zeu _ _)
def EntR(Φ:Pers)(ρ:Rho)(es:List (AVal×AVal×Nat))(en:List MapEntry):Prop:=
 en.length=es.length ∧ ∀(i:Nat) (x:AVal×AVal×Nat),es[i]? = some x → ∃ y:MapEntry,en[i]? = some y∧R Φ ρ x.1 y.key∧R Φ ρ x.2.1 y.val∧y.born=x.2.2
theorem EntR.tail{x:AVal×AVal×Nat}{y:MapEntry}{es:List (AVal×AVal×Nat)}{en:List MapEntry}(h:EntR Φ ρ (x :: es) (y :: en)):EntR Φ ρ es en:=
 ⟨by simpa using h.1,fun i z hz=>by simpa using h.2 (i+1) z (by simpa using hz)⟩
theorem Z30{kt:KeyT}{key:TypeId}{d:TypeDesc}{y z:AVal}{vy vz:Value}{b:Bool}(hu:P.underlying key=some d)(hk:F7 P key=some kt)(hy:R Φ ρ y vy)(hz:R Φ ρ z vz)(h:C3 kt y z=some b):Instr.sameNow d vy vz=some b:=by
 unfold F7 at hk;rw[hu]at hk;cases d<;>simp only at hk<;>first|(cases hk; done)|(injection hk with hk; subst hk)
 all_goals (cases y<;>cases z<;>simp only[C3]at h<;>first|(cases h; done)|skip)
 ·injection h with h; subst h
  rw[Za5 hy,Za5 hz]; rfl
 ·split at h
  ·rename_i hkk;injection h with h; subst h; subst hkk
   rw[L4 hy,L4 hz];simp[Instr.sameNow]
  ·cases h
 ·injection h with h; subst h
  rw[Zaq hy,Zaq hz];simp only[Instr.sameNow];rw[beq_toListBytes,Zck,Zck]
theorem Zmj{kt:KeyT}{key:TypeId}{d:TypeDesc}{y:AVal}{vy:Value}(hu:P.underlying key=some d)(hk:F7 P key=some kt)(hy:R Φ ρ y vy):∀ (es:List (AVal×AVal×Nat)) (en:List MapEntry) (r:Option (Nat×AVal×Nat)) (q:Nat),EntR Φ ρ es en →
 J5 kt y es=some r→(r=none∧Instr.findNow d vy en q=some none)∨(∃ i z born e,r=some (i,z,born)∧en[i]? = some e∧(∃ kk,es[i]? = some (kk,z,born)∧C3 kt y kk=some true)∧Instr.findNow d vy en q=some (some (q+i,e.val)))
 | [],[],r,q,_,hf=>by
  simp only[J5,oI]at hf;exact .inl ⟨hf.symm,rfl⟩
 | [],e :: en,r,q,h,_=>by have:=h.1; simp at this
 | x :: es,[],r,q,h,_=>by have:=h.1; simp at this
 | (k0,z0,b0) :: es,e :: en,r,q,h,hf=>by
  obtain⟨e',h1,h2,h3,h4⟩:=h.2 0 (k0,z0,b0) rfl;simp only[List.getElem?_cons_zero,oI]at h1;subst h1;simp only[J5]at hf;cases hkey:C3 kt y k0 with
  | none=>simp[hkey]at hf
  | some b=>
   have hsn:=Z30 hu hk hy h2 hkey;cases b with
   | true=>
    simp only[hkey,oI]at hf;refine .inr ⟨0,z0,b0,e,hf.symm,rfl,⟨k0,rfl,hkey⟩,?_⟩;simp only[Instr.findNow,hsn];rfl
   | false=>
    simp only[hkey]at hf;cases hr:J5 kt y es with
    | none=>simp[hr]at hf
    | some r'=>
     rcases Zmj hu hk hy es en r' (q+1) h.tail hr with⟨rfl,hfn⟩|⟨i,z,born,e2,rfl,he2,⟨kk,hkk,hkq⟩,hfn⟩
     ·simp only[hr,oI]at hf;exact .inl ⟨hf.symm,by simp only[Instr.findNow,hsn,hfn]⟩
     ·simp only[hr,oI]at hf;refine .inr ⟨i+1,z,born,e2,hf.symm,by simpa using he2,⟨kk,by simpa using hkk,hkq⟩,?_⟩
      simp only[Instr.findNow,hsn,hfn]
      congr 3
      omega
theorem Zm5{kt:KeyT}{key:TypeId}{y:AVal}{vy:Value}(b:Bool)(hk:F7 P key=some kt):(Instr.checkKey b 10000 key vy).run P w=.ok () w:=by
 have e:∀ n,(Instr.checkKey b (n+1) key vy).run P w=.ok () w:=by
  intro n;unfold F7 at hk;cases hu:P.underlying key with
  | none=>simp[hu]at hk
  | some d=>
   cases d<;>simp only[hu]at hk<;>first|(cases hk; done)|(simp only[Instr.checkKey,Sem.run_bind,W8 hu,Result.andThen_ok]; rfl)
 exact e 9999
theorem Zx5{es:List (AVal×AVal×Nat)}{en:Array MapEntry}(hs:en.size=es.length)(hr:∀ (i:Nat) (x:AVal×AVal×Nat),es[i]? = some x → ∃ y:MapEntry,en[i]? = some y∧R Φ ρ x.1 y.key∧R Φ ρ x.2.1 y.val∧y.born=x.2.2):EntR Φ ρ es en.toList:=
 ⟨by simpa using hs,fun i x hx=>by simpa using hr i x hx⟩
theorem Z3c{t key e:TypeId}{kt:KeyT}{zero:AVal}{y yk:AVal}{vk:Value}{es:List (AVal×AVal×Nat)}{r:Option (Nat×AVal×Nat)}{ok:Bool}(hr:Rel W Φ ρ m w)(ht:P.underlying t=some (.map key e))(hk:F7 P key=some kt)(hz:Zi1 P e=some zero)
 (hy:R Φ ρ y v) (hyk:R Φ ρ yk vk) (hm:(y=.nilMap∧es=[])∨(∃ b c,y=.map b∧m.get b=some (.map es c))) (hf:J5 kt yk es=some r) :
 ∃ u,(Instr.lookup t v vk ok).run P w=.ok u w∧R Φ ρ (if ok then .tuple [match r with|some (_,z,_)=>z|none=>zero,.bool r.isSome]else match r with|some (_,z,_)=>z|none=>zero) u:=by
 have hzero:∃ i zv,P.info? e=some i∧i.zero=some zv∧R Φ ρ zero zv:=by
  unfold Zi1 at hz;cases hi:P.info? e with
  | none=>simp[hi]at hz
  | some i=>
   cases hzz:i.zero with
   | none=>simp[hi,hzz]at hz
   | some zv=>simp only[hi,hzz]at hz; exact⟨i,zv,rfl,hzz,Zro Φ ρ hz⟩
 obtain⟨i,zv,hi,hzz,hzr⟩:=hzero;cases hu:P.underlying key with
 | none=>simp[F7,hu]at hk
 | some d=>
  have main:∀ (en:Array MapEntry),EntR Φ ρ es en.toList → ∃ u,(do
   Instr.checkKey en.isEmpty 10000 key vk
   let (v,ok') ← match ← Instr.findKey key vk en.toList with
    | some (_,v)=>pure (v,true)
    | none=>pure (← zeroValue e,false)
   pure (if ok then Value.tuple #[v,.bool ok']else v):Sem Value).run P w=.ok u w∧R Φ ρ (if ok then .tuple [match r with|some (_,z,_)=>z|none=>zero,.bool r.isSome]else match r with|some (_,z,_)=>z|none=>zero) u:=by
   intro en hen;have two:∀ (a b:AVal) (va vb:Value),R Φ ρ a va→R Φ ρ b vb→R Φ ρ (.tuple [a,b]) (.tuple #[va,vb]):=fun a b va vb ha hb=>.tuple _ _ rfl fun i x u hx hu=>by
    cases i with
    | zero=>simp at hx hu; subst hx; subst hu; exact ha
    | succ i=>
     cases i with
     | zero=>simp at hx hu; subst hx; subst hu; exact hb
     | succ i=>simp at hx
   rcases Zmj hu hk hyk es en.toList r 0 hen hf with⟨rfl,hfn⟩|⟨q,z,born,e2,rfl,he2,⟨kk,hkk,_⟩,hfn⟩
   ·have hfk:(Instr.findKey key vk en.toList).run P w=.ok none w:=by
     simp only[Instr.findKey,Sem.run_bind,W8 hu,Result.andThen_ok,hfn,Sem.run_pure]
    simp only[Sem.run_bind,Zm5 (y:=yk) _ hk,Result.andThen_ok,hfk,Zdv hi hzz,Sem.run_pure];cases ok
    ·exact⟨_,rfl,hzr⟩
    ·exact⟨_,rfl,two _ _ _ _ hzr (.bool _)⟩
   ·have hfk:(Instr.findKey key vk en.toList).run P w=.ok (some (0+q,e2.val)) w:=by
     simp only[Instr.findKey,Sem.run_bind,W8 hu,Result.andThen_ok,hfn,Sem.run_pure]
    obtain⟨e3,h1,h2,h3,h4⟩:=hen.2 q _ hkk;rw[he2]at h1; injection h1 with h1; subst h1
    simp only[Sem.run_bind,Zm5 (y:=yk) _ hk,Result.andThen_ok,hfk,Sem.run_pure];cases ok
    ·exact⟨_,rfl,h3⟩
    ·exact⟨_,rfl,two _ _ _ _ h3 (.bool _)⟩
  rcases hm with⟨rfl,rfl⟩|⟨b,c,rfl,hg⟩
  ·cases hy;obtain⟨u,h1,h2⟩:=main #[] ⟨rfl,fun i x hx=>by simp at hx⟩
   exact⟨u,Eq.trans (by simp only[Instr.lookup,Sem.run_bind,W8 ht,Result.andThen_ok,Sem.run_pure]; rfl) h1,h2⟩
  ·cases hy with
   | map _ l hl=>
    obtain⟨l',ob,g1,g2,g3,g4,g5⟩:=hr.live b _ hg;rw[hl]at g1; injection g1 with g1; subst g1
    cases g5 with
    | map _ clock _ en hs hrr=>
     obtain⟨u,h1,h2⟩:=main en (Zx5 hs hrr);refine⟨u,?_,h2⟩;have hget:(getObj l.blk).run P w=.ok (.map en c) w:=by simp only[getObj,Sem.run,g4]
     exact Eq.trans (by simp only[Instr.lookup,Sem.run_bind,W8 ht,Result.andThen_ok,Sem.run_pure,hget]; rfl) h1
end
end Go.AE
end
section
namespace Go.AE
open Go.RowKit
section
variable {P:Program} {s:Sem Next} {W:Base} {Φ:Pers} {ρ:Rho} {id:Nat} {w w1:World} {m m':Mem} {x:AVal} {v:Value}
theorem Z3u{kt:KeyT}{y z:AVal}{vy vz:Value}(hy:R Φ ρ y vy)(hz:R Φ ρ z vz)(h:C3 kt y z=some true):Instr.sameBits 10000 vz vy=true:=by
 cases kt<;>cases y<;>cases z<;>simp only[C3]at h<;>first|(cases h; done)|skip
 ·split at h
  ·rename_i hk;subst hk;simp only[oI,beq_iff_eq]at h;subst h;rw[L4 hy,L4 hz];simp[Instr.sameBits]
  ·cases h
 ·simp only[oI,beq_iff_eq]at h;subst h;rw[Zaq hy,Zaq hz];simp only[Instr.sameBits];rw[beq_toListBytes]; simp
 ·simp only[oI,beq_iff_eq]at h;subst h;rw[Za5 hy,Za5 hz];simp[Instr.sameBits]
theorem Z8e{B:Nat}{o o':Obj}(h:w.heap[B]? = some o)(hn:∀ c e f,o≠.cells c e f):(setObj B o').run P w=.ok () (R8 w B o'):=by
 simp only[setObj,Sem.run,h];cases o<;>first|(exact absurd rfl (hn _ _ _))|rfl
theorem Zu5{t key e:TypeId}{kt:KeyT}{b:Nat}{yk yv:AVal}{vm vk vv:Value}{es es':List (AVal×AVal×Nat)}{clock clock':Nat}(hr:Rel W Φ ρ m w)(ht:P.underlying t=some (.map key e))(hk:F7 P key=some kt)
 (hm:R Φ ρ (.map b) vm) (hyk:R Φ ρ yk vk) (hyv:R Φ ρ yv vv) (hg:m.get b=some (.map es clock))
 (hf:(∃ i z born,J5 kt yk es=some (some (i,z,born))∧es'=es.set i (yk,yv,born)∧clock'=clock)∨(J5 kt yk es=some none∧es'=es++[(yk,yv,clock)]∧clock'=clock+1))
 (hs:∀ w',(Instr.mapUpdate t vm vk vv).run P w=.ok () w'→s.run P w=.ok .skip w'):Done P s W Φ ρ id w aundef (m.set b (.map es' clock')):=by
 cases hu:P.underlying key with
 | none=>simp[F7,hu]at hk
 | some d=>
  cases hm with
  | map _ l hl=>
   obtain⟨l',ob,g1,g2,g3,g4,g5⟩:=hr.live b _ hg;rw[hl]at g1; injection g1 with g1; subst g1
   cases g5 with
   | map _ _ _ en hsz hrr=>
    have hent:=Zx5 hsz hrr;have hget:(getObj l.blk).run P w=.ok (.map en clock) w:=by simp only[getObj,Sem.run,g4]
    have hset:∀ o',(setObj l.blk o').run P w=.ok () (R8 w l.blk o'):=fun o'=>Z8e g4 (by simp)
    rcases hf with⟨i,z,born,hf,hes',hcl'⟩|⟨hf,hes',hcl'⟩
    ·rcases Zmj hu hk hyk es en.toList _ 0 hent hf with⟨h0,_⟩|⟨i',z',born',e2,h0,he2,⟨kk,hkk,hkq⟩,hfn⟩
     ·cases h0
     ·simp only[oI,pI2]at h0;obtain⟨rfl,rfl,rfl⟩:=h0;have hfk:(Instr.findKey key vk en.toList).run P w=.ok (some (0+i,e2.val)) w:=by
       simp only[Instr.findKey,Sem.run_bind,W8 hu,Result.andThen_ok,hfn,Sem.run_pure]
      obtain⟨e3,h1,h2,h3,h4⟩:=hent.2 i _ hkk;rw[he2]at h1; injection h1 with h1; subst h1
      have hen:en[i]? = some e2:=by simpa using he2
      have hsb:=Z3u hyk h2 hkq;have hrun2:(Instr.mapUpdate t (.map (some l.blk)) vk vv).run P w=.ok () (R8 w l.blk (.map (en.modify i fun e=>{ e with key:=vk,val:=vv }) clock)):=by
       simp only[Instr.mapUpdate,Sem.run_bind,W8 ht,Result.andThen_ok,hget,Zm5 (y:=yk) _ hk,hfk,Nat.zero_add,hen,Option.map_some,Option.getD_some,Instr.keyThatStays,hsb,if_true,Sem.run_pure,hset]
      subst hes'; subst hcl';refine Done.upd (hs _ hrun2) hr hg hl (.map _ _ _ _ (by simp[hsz]) fun q y hq=>?_)
      rw[List.getElem?_set]at hq;by_cases hqi:i=q
      ·subst hqi;have hlt:i<es.length:=(gS.1 hkk).1;rw[if_pos rfl,if_pos hlt]at hq;injection hq with hq
       subst hq;exact⟨{ e2 with key:=vk,val:=vv },by simp[Array.getElem?_modify,hen],hyk,hyv,h4⟩
      ·rw[if_neg hqi]at hq;obtain⟨e4,k1,k2⟩:=hrr q y hq;exact⟨e4,by rw[Array.getElem?_modify,if_neg hqi]; exact k1,k2⟩
    ·rcases Zmj hu hk hyk es en.toList _ 0 hent hf with⟨_,hfn⟩|⟨i',z',born',e2,h0,_⟩
     ·have hfk:(Instr.findKey key vk en.toList).run P w=.ok none w:=by
       simp only[Instr.findKey,Sem.run_bind,W8 hu,Result.andThen_ok,hfn,Sem.run_pure]
      have hrun2:(Instr.mapUpdate t (.map (some l.blk)) vk vv).run P w=.ok () (R8 w l.blk (.map (en.push { key:=vk,val:=vv,born:=clock }) (clock+1))):=by
       simp only[Instr.mapUpdate,Sem.run_bind,W8 ht,Result.andThen_ok,hget,Zm5 (y:=yk) _ hk,hfk,hset]
      subst hes'; subst hcl';refine Done.upd (hs _ hrun2) hr hg hl (.map _ _ _ _ (by simp[hsz]) fun q y hq=>?_)
      rw[List.getElem?_append]at hq;split at hq
      ·rename_i hlt;obtain⟨e4,k1,k2⟩:=hrr q y hq;exact⟨e4,by rw[Array.getElem?_push,if_neg (by omega)]; exact k1,k2⟩
      ·rename_i hge;have hq0:q=es.length:=by
        have:=(gS.1 hq).1;simp at this; omega
       subst hq0;simp only[Nat.sub_self,List.getElem?_cons_zero,oI]at hq;subst hq;exact⟨{ key:=vk,val:=vv,born:=clock },by rw[Array.getElem?_push,if_pos (by omega)],hyk,hyv,rfl⟩
     ·cases h0
theorem Zhy{t ty:TypeId}{y:AVal}{n:Nat}(hr:Rel W Φ ρ m w)(hy:R Φ ρ y v)
 (h:(P.underlying t=some .string ∧ ∃ l,y=.str l∧n=l.length)∨((∃ e,P.underlying t=some (.slice e))∧U9 y=some n) ∨
   ((∃ k e,P.underlying t=some (.map k e))∧((y=.nilMap∧n=0) ∨ ∃ b es c,y=.map b∧m.get b=some (.map es c)∧n=es.length))) :
 (Builtin.len_ #[t] ty #[v]).run P w=.ok (.int .i64 n) w:=by
 rcases h with⟨ht,l,rfl,rfl⟩|⟨⟨e,ht⟩,hl⟩|⟨⟨k,e,ht⟩,hm⟩
 ·rw[Zaq hy];unfold Builtin.len_;simp only[Sem.run_bind,List.getElem?_toArray,List.getElem?_cons_zero,W8 ht,Result.andThen_ok];rfl
 ·have hv:∃ a c,v=.slice a n c:=by
   cases hy<;>simp only[U9]at hl<;>first|(cases hl; done)|(injection hl with hl; subst hl; exact⟨_,_,rfl⟩)
  obtain⟨a,c,rfl⟩:=hv;unfold Builtin.len_;simp only[Sem.run_bind,List.getElem?_toArray,List.getElem?_cons_zero,W8 ht,Result.andThen_ok];rfl
 ·rcases hm with⟨rfl,rfl⟩|⟨b,es,c,rfl,hg,rfl⟩
  ·cases hy;unfold Builtin.len_;simp only[Sem.run_bind,List.getElem?_toArray,List.getElem?_cons_zero,W8 ht,Result.andThen_ok];rfl
  ·cases hy with
   | map _ l hl=>
    obtain⟨l',ob,g1,g2,g3,g4,g5⟩:=hr.live b _ hg;rw[hl]at g1; injection g1 with g1; subst g1
    cases g5 with
    | map _ _ _ en hsz hrr=>
     have hget:(getObj l.blk).run P w=.ok (.map en c) w:=by simp only[getObj,Sem.run,g4]
     unfold Builtin.len_;simp only[Sem.run_bind,List.getElem?_toArray,List.getElem?_cons_zero,W8 ht,Result.andThen_ok,hget,Sem.run_pure,goInt,hsz]
theorem Zsq(mx:Bool):∀ (ys:List AVal) (vs:List Value) (y z:AVal) (vy:Value),R Φ ρ y vy→vs.length=ys.length→(∀(i:Nat) (x:AVal) (u:Value),ys[i]? = some x→vs[i]? = some u→R Φ ρ x u)→Zfj mx y ys=some z →
 ∃ u,((vs.foldlM (if mx then Builtin.max2 else Builtin.min2) vy)).run P w=.ok u w∧R Φ ρ z u
 | [],[],y,z,vy,hy,_,_,h=>by
  have:y=z:=by cases y<;>simpa[Zfj]using h
  subst this;exact⟨vy,rfl,hy⟩
 | [],u :: vs,_,_,_,_,hl,_,_=>by simp at hl
 | x :: ys,[],_,_,_,_,hl,_,_=>by simp at hl
 | x :: ys,u :: vs,y,z,vy,hy,hl,hr,h=>by
  cases y<;>cases x<;>simp only[Zfj]at h<;>first|(cases h; done)|skip
  rename_i k a k' b;rw[L4 hy];have hx:=hr 0 _ _ rfl rfl;rw[L4 hx];obtain⟨u',h1,h2⟩:=Zsq mx ys vs _ z (.int k (if mx then (if b > a then b else a)else (if b<a then b else a))) (.int _ _) (by simpa using hl) (fun i x u hx hu=>hr (i+1) x u (by simpa using hx) (by simpa using hu)) h
  refine⟨u',?_,h2⟩;rw[List.foldlM_cons];cases mx
  ·simp only[bF,if_false,Sem.run_bind,Builtin.min2,Sem.run_pure,Result.andThen_ok]at h1 ⊢;exact h1
  ·simp only[if_true,Sem.run_bind,Builtin.max2,Sem.run_pure,Result.andThen_ok]at h1 ⊢;exact h1
end
end Go.AE
end
section
namespace Go.AE
open Go.RowKit
section
variable {P:Program} {s:Sem Next} {W:Base} {Φ:Pers} {ρ:Rho} {id:Nat} {w w1:World} {m m':Mem} {x:AVal} {v:Value}
theorem A8{s:Sem Value}{u:Value}{w w':World}(h:s.run P w=.ok u w'):(do pure (Next.value (← s)):Sem Next).run P w=.ok (.value u) w':=by
 simp only[Sem.run_bind,h,Result.andThen_ok,Sem.run_pure]
theorem Zyb{s:Sem Unit}{w w':World}(h:s.run P w=.ok () w'):(do s; pure Next.skip:Sem Next).run P w=.ok .skip w':=by
 simp only[Sem.run_bind,h,Result.andThen_ok,Sem.run_pure]
theorem Done.ofV{s:Sem Value}(hr:Rel W Φ ρ m w)(h:∃ u,s.run P w=.ok u w∧R Φ ρ x u):Done P (do pure (Next.value (← s))) W Φ ρ id w x m:=by
 obtain⟨u,h1,h2⟩:=h;exact Done.val (A8 h1) hr h2
theorem Zvi(f:Value→ByteArray→Sem (ForInStep ByteArray))(hf:∀ n b,(f (.int .u8 n) b).run P w=.ok (.yield (b.push (UInt8.ofNat n.toNat))) w):∀ (rows:List (List AVal)) (vs:List Value) (l:List UInt8) (b:ByteArray),vs.length=rows.length→Zel rows=some l →
 (∀(i:Nat) (row:List AVal) (x:AVal),rows[i]? = some row→row[0]? = some x → ∃ v,vs[i]? = some v∧R Φ ρ x v) →
 (forIn vs b f).run P w=.ok ⟨⟨b.data.toList++l⟩⟩ w
 | [],[],l,b,_,h,_=>by
  simp only[Zel,oI]at h;subst h;simp[List.forIn_nil]
 | [],_ :: _,_,_,hl,_,_=>by simp at hl
 | _ :: _,[],_,_,hl,_,_=>by simp at hl
 | row :: rows,v :: vs,l,b,hl,h,hr=>by
  unfold Zel at h;split at h
  ·rename_i heq; cases heq
  ·rename_i n r heq;injection heq with e1 e2
   subst e1; subst e2;cases hb:Zel rows with
   | none=>simp[hb]at h
   | some l'=>
    simp only[hb,oI]at h;subst h;obtain⟨u,hu,hru⟩:=hr 0 _ _ rfl rfl;simp only[List.getElem?_cons_zero,oI]at hu;subst hu;rw[L4 hru];have ih:=Zvi f hf rows vs l' (b.push (UInt8.ofNat n.toNat)) (by simpa using hl) hb (fun i row x h1 h2=>by
     obtain⟨u,hu,hru⟩:=hr (i+1) row x (by simpa using h1) h2
     exact⟨u,by simpa using hu,hru⟩)
    simp only[List.forIn_cons,Sem.run_bind,hf,Result.andThen_ok];rw[ih];simp[ByteArray.push]
  ·cases h
theorem Yat{y:AVal}{rows:List (List AVal)}{l:List UInt8}(hr:Rel W Φ ρ m w)(hy:R Φ ρ y v)(hrow:L3 m 1 y=some rows)(hb:Zel rows=some l) :
 (Conv.bytesToString v).run P w=.ok (.string ⟨⟨l⟩⟩) w:=by
 have hsrc:O4 m 1 y=some rows:=by
  cases y<;>simp only[O4]<;>first|exact hrow|(simp[L3]at hrow)
 obtain⟨arr,h1,h2,h3,h4⟩:=Zeh (P:=P) hr hy hsrc (Nat.le_refl 1);have hv:∃ a n c,v=.slice a n c:=by
  cases hy<;>simp only[L3]at hrow<;>first|(cases hrow; done)|exact⟨_,_,_,rfl⟩
 obtain⟨a,n,c,rfl⟩:=hv;have hn:n=rows.length:=by
  simp[Builtin.lenOf]at h1;exact h1
 subst hn;cases a with
 | none=>
  have h5:=h2 rows.length (Nat.le_refl _);cases hrl:rows with
  | nil=>
   subst hrl;simp only[Zel,oI]at hb;subst hb;rfl
  | cons row rest=>
   rw[hrl]at h5;simp[Builtin.firstCells]at h5;rw[h5,hrl]at h3;simp at h3
 | some a=>
  have h5:=h2 rows.length (Nat.le_refl _);have h6:(loadCells a rows.length).run P w=.ok arr w:=by
   by_cases h0:rows.length=0
   ·rw[h0]at h3;have:arr = #[]:=by simpa using h3
    rw[h0,this];rfl
   ·have:arr.extract 0 (rows.length*1)=arr:=by rw[← h3]; simp
    rw[this]at h5;simpa[Builtin.firstCells,h0]using h5
  unfold Conv.bytesToString;simp only[Sem.run_bind,h6,Result.andThen_ok];rw[← Array.forIn_toList,Zvi (Φ:=Φ) (ρ:=ρ) _ (fun n b=>rfl) rows arr.toList l _ (by simpa using h3) hb (fun i row x hi hx=>by
   obtain⟨u,hu,_,hru⟩:=h4.2 i row 0 x hi hx;exact⟨u,by simpa using hu,hru⟩)]
  simp[ByteArray.empty,ByteArray.emptyWithCapacity];rfl
theorem Ybi{t:TypeId}{zs:List AVal}(hr:Rel W Φ ρ m w)(hn:ρ id=none)(hlt:id<m.next)(hz:Zcd P t=some zs) :
 Done P (do pure (Next.value (← Instr.alloc t true (.tuple #[])))) W Φ ρ id w (.ptr id 0 0) (m.set id (.cells zs.length [zs])):=by
 obtain⟨i,z,y,h1,h2,h3,h4,h5⟩:=Zeo hz Φ ρ;refine Zwp (v:=z) (e:=t) hr hn hlt h3 h4 h5 (A8 ?_);simp[Instr.alloc,Zdv h1 h2,newVar,newRow]
theorem Yc9{t:TypeId}{y:AVal}{cs:List AVal}(hr:Rel W Φ ρ m w)(hn:ρ id=none)(hlt:id<m.next)(hy:R Φ ρ y v)(hc:y.cells=some cs)(h1:cs.all AVal.one=true) :
 Done P (do pure (Next.value (← Instr.box t v))) W Φ ρ id w (.ptr id 0 0) (m.set id (.cells cs.length [cs])):=by
 refine Zwp (v:=v) (e:=t) hr hn hlt hy hc h1 (A8 ?_);simp[Instr.box,newVar,newRow]
theorem Z6i{t:TypeId}(hr:Rel W Φ ρ m w)(hn:ρ id=none)(hlt:id<m.next) :
 Done P (do pure (Next.value (← Instr.makeMap t none))) W Φ ρ id w (.map id) (m.set id (.map [] 0)):=by
 refine Done.new (l:=⟨w.heap.size,0,0,0⟩) (o:=.map #[] 0) (A8 ?_) hr hn hlt rfl (.map _ _ _ _ rfl fun i x h=>by simp at h) (.map id _ Rho.put_same)
 simp[Instr.makeMap]
theorem Yaw{vs:List AVal}{i:Nat}{z:AVal}(hy:R Φ ρ (.tuple vs) v)(hi:vs[i]? = some z):∃ u,(Instr.extract v i).run P w=.ok u w∧R Φ ρ z u:=by
 cases hy with
 | tuple _ us hs hr=>
  have hlt:i<us.size:=by rw[hs]; exact(gS.1 hi).1
  refine⟨us[i],?_,hr i z _ hi (Array.getElem?_eq_getElem hlt)⟩;simp[Instr.extract,hlt]
theorem Ztk(e:EqT):J1 e .bot=none:=by cases e<;>rfl
theorem Z7g(e:EqT)(z:AVal):Zay e .bot z=none:=by
 simp only[Zay,Ztk];split<;>rfl
theorem Z5i(e:EqT)(z:AVal):Zay e z .bot=none:=by
 simp only[Zay,Ztk];split<;>rfl
theorem Zli(e:EqT)(z:AVal):eqA e .bot z=none∧eqA e z .bot=none:=by
 cases e<;>simp[eqA,Z7g,Z5i]
theorem Zr6{op:BinOp}{t:TypeId}{e:EqT}{y z r:AVal}{vy vz:Value}{ox oy:Operand}(he:cEq P t=some e)(h:X6 op e y z=some r)(hy:R Φ ρ y vy)(hz:R Φ ρ z vz) :
 ∃ u,(do eqGuard op t ox oy vy vz; binOp op t vy vz:Sem Value).run P w=.ok u w∧R Φ ρ r u:=by
 have gint:∀ k a k' b,(eqGuard op t ox oy (.int k a) (.int k' b)).run P w=.ok () w:=by
  intro k a k' b;unfold eqGuard;cases op<;>simp
 have gstr:∀ a b,(eqGuard op t ox oy (.string a) (.string b)).run P w=.ok () w:=by
  intro a b;unfold eqGuard;cases op<;>simp
 have heq:∀ b,eqA e y z=some b→op=.eql→r=.bool b → ∃ u,(do eqGuard op t ox oy vy vz; binOp op t vy vz:Sem Value).run P w=.ok u w∧R Φ ρ r u:=by
  intro b hb ho hrb;subst ho; subst hrb;obtain⟨h1,h2,h3,h4,h5⟩:=Zsi (w:=w) (op:=.eql) (ox:=ox) (oy:=oy) he hb hy hz;refine⟨.bool b,?_,.bool b⟩;simp only[Sem.run_bind,h1,Result.andThen_ok];have:binOp .eql t vy vz=(do pure (.bool (← Op.equal t vy vz)):Sem Value):=by
   cases hy<;>first|(exact absurd rfl (h3 _ _))|(exact absurd rfl (h4 _))|skip
   all_goals first|(exfalso; rw[(Zli _ _).1]at hb; cases hb; done)|(cases hz<;>first|rfl|(exfalso; rw[(Zli _ _).2]at hb; cases hb; done))
  rw[this];simp only[Sem.run_bind,h2,Result.andThen_ok,Sem.run_pure]
 have hne:∀ b,eqA e y z=some b→op=.neq→r=.bool (!b) → ∃ u,(do eqGuard op t ox oy vy vz; binOp op t vy vz:Sem Value).run P w=.ok u w∧R Φ ρ r u:=by
  intro b hb ho hrb;subst ho; subst hrb;obtain⟨h1,h2,h3,h4,h5⟩:=Zsi (w:=w) (op:=.neq) (ox:=ox) (oy:=oy) he hb hy hz;refine⟨.bool (!b),?_,.bool _⟩;simp only[Sem.run_bind,h1,Result.andThen_ok];have:binOp .neq t vy vz=(do pure (.bool (!(← Op.equal t vy vz))):Sem Value):=by
   cases hy<;>first|(exact absurd rfl (h3 _ _))|(exact absurd rfl (h4 _))|skip
   all_goals first|(exfalso; rw[(Zli _ _).1]at hb; cases hb; done)|(cases hz<;>first|rfl|(exfalso; rw[(Zli _ _).2]at hb; cases hb; done))
  rw[this];simp only[Sem.run_bind,h2,Result.andThen_ok,Sem.run_pure]
 unfold X6 at h;split at h
 ·split at h
  ·cases h
  ·rename_i k a k' b hb;injection h with h
   subst h;rw[L4 hy,L4 hz];simp only[Sem.run_bind,gint,Result.andThen_ok];refine⟨_,?_,.int _ _⟩;simp[binOp,Op.shift,hb]
 ·split at h
  ·cases h
  ·rename_i k a k' b hb;injection h with h
   subst h;rw[L4 hy,L4 hz];simp only[Sem.run_bind,gint,Result.andThen_ok];refine⟨_,?_,.int _ _⟩;simp[binOp,Op.shift,hb]
 ·split at h
  ·rename_i hk;subst hk;rw[L4 hy,L4 hz];simp only[Sem.run_bind,gint,Result.andThen_ok];exact Yc2 h
  ·cases h
 ·rw[Zaq hy,Zaq hz];simp only[Sem.run_bind,gstr,Result.andThen_ok];exact Z25 h
 ·split at h
  ·rename_i b hb;injection h with h
   exact heq b hb rfl h.symm
  ·cases h
 ·split at h
  ·rename_i b hb;injection h with h
   exact hne b hb rfl h.symm
  ·cases h
 ·cases h
end
end Go.AE
end
section
namespace Go.AE
open Go.RowKit
section
variable {P:Program} {W:Base} {Φ:Pers} {ρ:Rho} {id:Nat} {w:World} {m m':Mem} {x:AVal} {a:Act} {t:List AVal}
theorem Zih(ht:RL Φ ρ t a.tmps){xs:Array Operand}{ys:List AOpd}(h:A5 xs.toList=some ys):RL Φ ρ (ys.map (ev t)) (xs.map a.eval):=by
 obtain⟨h1,h2⟩:=Zxu ht _ _ h;refine⟨by simp[h1],fun i x v hx hv=>?_⟩
 simp only[List.getElem?_map,Option.map_eq_some_iff]at hx;obtain⟨y,hy,rfl⟩:=hx;simp only[Array.getElem?_map,Option.map_eq_some_iff]at hv;obtain⟨z,hz,rfl⟩:=hv;exact T4 ht (h2 i y z hy (by simpa using hz))
theorem Ybe{s:Sem Next}{y:AVal}{v:Value}(hr:Rel W Φ ρ m w)
 (h:(match y with | .ptr b i j=>some (.ptr b i j,m) | .iptr els i j=>some (.iptr els i j,m) | .func (.func f) a b=>some (.func (.func f) a b,m)|_=>none)=some (x,m')) (hy:R Φ ρ y v)
 (hs:(∀ p,v=.pointer (some p)→s.run P w=.ok (.value v) w)∧(∀ f p q,v=.func (.func f) p q→s.run P w=.ok (.value v) w)):Done P s W Φ ρ id w x m':=by
 cases hy with
 | ptr b i j l hl=>
  simp only[oI,pI2]at h;obtain⟨h1,h2⟩:=h;subst h1; subst h2;exact Done.val (hs.1 _ rfl) hr (.ptr b i j l hl)
 | iptr els i j B o k c f hB hk hc hrr=>
  simp only[oI,pI2]at h;obtain⟨h1,h2⟩:=h;subst h1; subst h2;exact Done.val (hs.1 _ rfl) hr (.iptr els i j B o k c f hB hk hc hrr)
 | func fn fs cs vf vc hf hc h3 h4=>
  cases fn<;>simp only[oI,pI2,reduceCtorEq]at h
  obtain⟨h1,h2⟩:=h;subst h1; subst h2;exact Done.val (hs.2 _ _ _ rfl) hr (.func _ fs cs vf vc hf hc h3 h4)
 | _=>simp at h
theorem Yd8{y:AVal}{v:Value}{n:Nat}(hy:R Φ ρ y v)(hn:U9 y=some n):∃ p c,v=.slice p n c∧n≤c:=by
 cases hy<;>simp only[U9]at hn<;>first|(cases hn; done)|skip
 all_goals (injection hn with hn; subst hn)
 all_goals first|exact⟨_,_,rfl,by simp⟩|exact⟨_,_,rfl,by assumption⟩
theorem V7{α β:Type}{a c:α}{b d:β}(h:some (a,b)=some (c,d)):a=c∧b=d:=by
 injection h with h; injection h with h1 h2; exact⟨h1,h2⟩
theorem Zeb{b:Builtin}{c:Call}{o:Oper}{s:Sem Value}(ho:o.op=.call c)(hc:c.callee=.builtin b)
 (hb:∀ cs,builtin b c.argTypes o.type cs (c.args.map a.eval)=(do pure (Next.value (← s)))):∀ u w',s.run P w=.ok u w'→(execOp a.eval o).run P w=.ok (.value u) w':=by
 intro u w' h;unfold execOp;rw[ho];simp only[resolve,hc,Sem.run_bind,Sem.run_pure,Result.andThen_ok,invoke];rw[hb];exact A8 h
theorem Znc{c:Call}{p q:Operand}(h:c.args.toList=[p,q]):c.args.map a.eval = #[a.eval p,a.eval q]:=by
 have:c.args = #[p,q]:=by rw[← Array.toList_inj]; exact h
 rw[this]; simp
theorem Zo7{c:Call}{p:Operand}(h:c.args.toList=[p]):c.args.map a.eval = #[a.eval p]:=by
 have:c.args = #[p]:=by rw[← Array.toList_inj]; exact h
 rw[this]; simp
theorem Zzm(ht:RL Φ ρ t a.tmps)(hr:Rel W Φ ρ m w)(o:Oper)(c:Call)(ho:o.op=.call c)(mx:Bool)(hcal:c.callee=.builtin (if mx then .max else .min))
 (hs:∀ u w',(if mx then Builtin.max_ c.argTypes o.type (c.args.map a.eval)else Builtin.min_ c.argTypes o.type (c.args.map a.eval)).run P w=.ok u w'→(execOp a.eval o).run P w=.ok (.value u) w')
 {xs:List AOpd} (hxs:A5 c.args.toList=some xs) (h:stepA id t m (.minmax mx xs)=some (x,m')):Done P (execOp a.eval o) W Φ ρ id w x m':=by
 simp only[stepA]at h;have hrl:=Zih ht hxs;cases xs with
 | nil=>simp at h
 | cons y ys=>
  simp only at h;split at h<;>first|(cases h; done)|skip
  rename_i z hz;obtain⟨h1,h2⟩:=V7 h;subst h1; subst h2;generalize hvs:c.args.map a.eval=vs at hs hrl;obtain⟨l⟩:=vs;cases l with
  | nil=>simp[RL]at hrl
  | cons v l=>
   obtain⟨u,g1,g2⟩:=Zsq (P:=P) (w:=w) mx (ys.map (ev t)) l _ z v (hrl.2 0 _ _ rfl rfl) (by simpa[RL]using hrl.1) (fun i x u hx hu=>hrl.2 (i+1) x u (by simpa using hx) (by simpa using hu)) hz
   refine Done.val (hs u w ?_) hr g2;cases mx<;>exact g1
theorem Z9s(ht:RL Φ ρ t a.tmps)(hr:Rel W Φ ρ m w)(hn:ρ id=none)(hlt:id<m.next)(o:Oper)(c:Call)(ho:o.op=.call c)(op:AOp)
 (hc:Zcn P c=some op) (h:stepA id t m op=some (x,m')):Done P (execOp a.eval o) W Φ ρ id w x m':=by
 unfold Zcn at hc;split at hc
 ·split at hc
  ·injection hc with hc; subst hc; simp[stepA]at h
  ·cases hc
 ·rename_i hcal;split at hc<;>first|(cases hc; done)|skip
  rename_i s xx tt u hargs htys;split at hc<;>first|(cases hc; done)|skip
  rename_i k b z s' x' he hs' hx';split at hc<;>first|(cases hc; done)|skip
  ·injection hc with hc; subst hc; simp[stepA]at h
  ·rename_i d hd hdu;injection hc with hc
   subst hc;simp only[stepA]at h;split at h<;>first|(cases h; done)|skip
   rename_i xs hxs;have htys':c.argTypes = #[tt,u]:=by rw[← Array.toList_inj]; exact htys
   exact Yb7 (ty:=o.type) (r:=(x,m')) hr hn hlt he hdu (fun k hk=>hd k hk) (T4 ht hs') (T4 ht hx') hxs h
    (Zeb ho hcal fun cs=>by rw[Znc hargs,htys']; rfl)
 ·rename_i hcal;split at hc<;>first|(cases hc; done)|skip
  rename_i dd ss tt u hargs htys;split at hc<;>first|(cases hc; done)|skip
  rename_i k b z d' s' he hd' hs';injection hc with hc
  subst hc;simp only[stepA]at h;split at h<;>first|(cases h; done)|skip
  rename_i bb off len xs hsl hxs;split at h<;>first|(cases h; done)|skip
  rename_i k' els hg;split at h<;>first|(cases h; done)|skip
  rename_i hcond;obtain⟨rfl,hol⟩:=hcond;obtain⟨h1,h2⟩:=V7 h;subst h1; subst h2;have htys':c.argTypes = #[tt,u]:=by rw[← Array.toList_inj]; exact htys
  have hdv:=T4 ht hd';rw[hsl]at hdv;exact Z4f (ty:=o.type) (u:=u) hr he hdv (T4 ht hs') hxs hg hol (Zeb ho hcal fun cs=>by rw[Znc hargs,htys']; rfl)
 ·rename_i hcal;split at hc<;>first|(cases hc; done)|skip
  rename_i xx tt hargs htys;split at hc<;>first|(cases hc; done)|skip
  rename_i k b z x' he hx';injection hc with hc
  subst hc;simp only[stepA]at h;have htys':c.argTypes = #[tt]:=by rw[← Array.toList_inj]; exact htys
  have hrun:=Zeb (P:=P) (w:=w) (a:=a) (s:=Builtin.clear_ #[tt] o.type #[a.eval xx]) ho hcal (fun cs=>by rw[Zo7 hargs,htys']; rfl)
  split at h<;>first|(cases h; done)|skip
  ·rename_i b' off len hsl;split at h<;>first|(cases h; done)|skip
   rename_i k' els hg;split at h<;>first|(cases h; done)|skip
   rename_i hcond;obtain⟨rfl,hol⟩:=hcond;obtain⟨h1,h2⟩:=V7 h;subst h1; subst h2;exact Zqe hr he (T4 ht hx') (.inl ⟨_,_,_,_,hsl,hg,hol,rfl⟩) hrun
  ·rename_i hsl;obtain⟨h1,h2⟩:=V7 h;subst h1; subst h2;exact Zqe hr he (T4 ht hx') (.inr ⟨.inl hsl,rfl⟩) hrun
  ·rename_i hsl;obtain⟨h1,h2⟩:=V7 h;subst h1; subst h2;exact Zqe hr he (T4 ht hx') (.inr ⟨.inr hsl,rfl⟩) hrun
 ·rename_i hcal;split at hc<;>first|(cases hc; done)|skip
  rename_i xx tt hargs htys;have htys':c.argTypes = #[tt]:=by rw[← Array.toList_inj]; exact htys
  have hrun:=Zeb (P:=P) (w:=w) (a:=a) (s:=Builtin.len_ #[tt] o.type #[a.eval xx]) ho hcal (fun cs=>by rw[Zo7 hargs,htys']; rfl)
  have fin:∀ (y:AOpd) (n:Nat),Y5 xx=some y→x=.int .i64 n→m'=m →
   ((P.underlying tt=some .string ∧ ∃ l,ev t y=.str l∧n=l.length)∨((∃ e,P.underlying tt=some (.slice e))∧U9 (ev t y)=some n) ∨
   ((∃ k e,P.underlying tt=some (.map k e))∧((ev t y=.nilMap∧n=0) ∨ ∃ b es c,ev t y=.map b∧m.get b=some (.map es c)∧n=es.length)))→Done P (execOp a.eval o) W Φ ρ id w x m':=by
   intro y n hy h1 h2 h3;subst h1; subst h2;exact Done.val (hrun _ _ (Zhy hr (T4 ht hy) h3)) hr (.int _ _)
  split at hc<;>first|(cases hc; done)|skip
  ·rename_i n e hu;injection hc with hc
   subst hc;simp only[stepA]at h;obtain⟨h1,h2⟩:=V7 h;subst h1; subst h2;refine Done.val (hrun (.int .i64 n) w ?_) hr (.int _ _);unfold Builtin.len_;simp only[Sem.run_bind,List.getElem?_toArray,List.getElem?_cons_zero,W8 hu,Result.andThen_ok];rfl
  all_goals
   injection hc with hc
   subst hc;simp only[stepA]at h
  ·rename_i y hu hy;split at h<;>first|(cases h; done)|skip
   rename_i l hl;obtain⟨h1,h2⟩:=V7 h;exact fin y _ hy h1.symm h2.symm (.inl ⟨hu,l,hl,rfl⟩)
  ·rename_i e y hu hy;split at h<;>first|(cases h; done)|skip
   rename_i n hl;obtain⟨h1,h2⟩:=V7 h;exact fin y _ hy h1.symm h2.symm (.inr (.inl ⟨⟨_,hu⟩,hl⟩))
  ·rename_i k e y hu hy;split at h<;>first|(cases h; done)|skip
   ·rename_i hl;obtain⟨h1,h2⟩:=V7 h;exact fin y 0 hy h1.symm h2.symm (.inr (.inr ⟨⟨_,_,hu⟩,.inl ⟨hl,rfl⟩⟩))
   ·rename_i b hl;split at h<;>first|(cases h; done)|skip
    rename_i es c hg;obtain⟨h1,h2⟩:=V7 h;exact fin y _ hy h1.symm h2.symm (.inr (.inr ⟨⟨_,_,hu⟩,.inr ⟨b,es,c,hl,hg,rfl⟩⟩))
 ·split at hc<;>first|(cases hc; done)|skip
  split at hc<;>first|(cases hc; done)|skip
  injection hc with hc
  subst hc;simp[stepA]at h
 ·rename_i hcal;split at hc<;>first|(cases hc; done)|skip
  rename_i xs hxs;injection hc with hc
  subst hc;exact Zzm ht hr o c ho false hcal (Zeb ho hcal fun cs=>rfl) hxs h
 ·rename_i hcal;split at hc<;>first|(cases hc; done)|skip
  rename_i xs hxs;injection hc with hc
  subst hc;exact Zzm ht hr o c ho true hcal (Zeb ho hcal fun cs=>rfl) hxs h
 ·cases hc
end
end Go.AE
end
section
namespace Go.AE
open Go.RowKit
section
variable {P:Program} {W:Base} {Φ:Pers} {ρ:Rho} {id:Nat} {w:World} {m m':Mem} {x:AVal} {a:Act} {t:List AVal}
theorem Zth{y:AVal}{v:Value}{b:Bool}(hy:R Φ ρ y v)(h:y=.bool b):v=.bool b:=by subst h; exact Za5 hy
theorem Zuj(ht:RL Φ ρ t a.tmps)(hr:Rel W Φ ρ m w)(ty:TypeId)(om ok ov:Operand)(op:AOp)
 (hc:(match P.underlying ty,Y5 om,Y5 ok,Y5 ov with
 | some (.map kt _),some m',some k',some v'=>match F7 P kt with
  | some q=>some (AOp.mapUpd q m' k' v')
  | none=>none
 | _,_,_,_=>none)=some op) (h:stepA id t m op=some (x,m')) :
 Done P (do Instr.mapUpdate ty (a.eval om) (a.eval ok) (a.eval ov); pure Next.skip) W Φ ρ id w x m':=by
 split at hc<;>first|(cases hc; done)|skip
 rename_i kt e m1 k1 v1 hu hm hk hv;split at hc<;>first|(cases hc; done)|skip
 rename_i q hq;injection hc with hc
 subst hc;simp only[stepA]at h;split at h<;>first|(cases h; done)|skip
 rename_i b hb;split at h<;>first|(cases h; done)|skip
 rename_i es clock hg;have hmv:=T4 ht hm;rw[hb]at hmv;split at h<;>first|(cases h; done)|skip
 ·rename_i i z born hf;obtain⟨h1,h2⟩:=V7 h;subst h1; subst h2;exact Zu5 hr hu hq hmv (T4 ht hk) (T4 ht hv) hg (.inl ⟨_,_,_,hf,rfl,rfl⟩) fun w' hw=>Zyb hw
 ·rename_i hf;obtain⟨h1,h2⟩:=V7 h;subst h1; subst h2;exact Zu5 hr hu hq hmv (T4 ht hk) (T4 ht hv) hg (.inr ⟨hf,rfl,rfl⟩) fun w' hw=>Zyb hw
theorem Z9f(ht:RL Φ ρ t a.tmps)(hr:Rel W Φ ρ m w){ty e:TypeId}{k:Nat}{ox:Operand}{lo hi mx:Option Operand}{x':AOpd}{l h0 mx':Option AOpd}(hu:P.underlying ty=some (.slice e))(hk:M1 P e=some k)
 (hx:Y5 ox=some x') (hl:D8 lo=some l) (hh:D8 hi=some h0) (hmx:D8 mx=some mx') (h:stepA id t m (.slSl k x' l h0 mx')=some (x,m')) :
 Done P (do pure (Next.value (← Instr.sliceAt ty (a.eval ox) (lo.map a.eval) (hi.map a.eval) (mx.map a.eval)))) W Φ ρ id w x m':=by
 have hlo:=Zki ht hl;have hhi:=Zki ht hh;have hxv:=T4 ht hx;cases mx with
 | none=>
  simp only[D8,oI]at hmx;subst hmx;simp only[stepA]at h;have key:m'=m ∧ ∃ u,(Instr.sliceAt ty (a.eval ox) (lo.map a.eval) (hi.map a.eval) none).run P w=.ok u w∧R Φ ρ x u:=by
   split at h<;>first|(cases h; done)|skip
   ·rename_i hy;split at h<;>first|(cases h; done)|skip
    rename_i lh hb;obtain⟨h1,h2⟩:=V7 h;exact Zmw hr hu hk hxv hlo hhi (.inl ⟨hy,⟨_,hb⟩,h1.symm,h2.symm⟩)
   ·rename_i hy;split at h<;>first|(cases h; done)|skip
    rename_i lh hb;obtain⟨h1,h2⟩:=V7 h;exact Zmw hr hu hk hxv hlo hhi (.inr (.inl ⟨hy,⟨_,hb⟩,h1.symm,h2.symm⟩))
   ·rename_i els hy;split at h<;>first|(cases h; done)|skip
    rename_i hall;split at h<;>first|(cases h; done)|skip
    rename_i l1 l2 hb;obtain⟨h1,h2⟩:=V7 h;exact Zmw hr hu hk hxv hlo hhi (.inr (.inr (.inl ⟨_,_,_,hy,hall,hb,h1.symm,h2.symm⟩)))
   ·rename_i b off len hy;split at h<;>first|(cases h; done)|skip
    rename_i k' els hg;split at h<;>first|(cases h; done)|skip
    rename_i hcond;obtain⟨hk',hol⟩:=hcond;subst hk';split at h<;>first|(cases h; done)|skip
    rename_i l hq hb;obtain⟨h1,h2⟩:=V7 h;exact Zmw hr hu hk hxv hlo hhi (.inr (.inr (.inr ⟨_,_,_,_,_,_,hy,hg,hol,hb,h1.symm,h2.symm⟩)))
  obtain⟨h1,h2⟩:=key;subst h1;exact Done.ofV hr h2
 | some zx=>
  simp only[D8]at hmx;cases hz:Y5 zx with
  | none=>simp[hz]at hmx
  | some z=>
   simp only[hz,oI]at hmx;subst hmx;simp only[stepA]at h;split at h<;>first|(cases h; done)|skip
   rename_i n mx l' h' hn hmx hl';split at h<;>first|(cases h; done)|skip
   rename_i h'' hh'';split at h<;>first|(cases h; done)|skip
   rename_i hcond;obtain⟨c1,c2,c3⟩:=hcond;obtain⟨p,c,hv,hnc⟩:=Yd8 hxv hn;have e1:∀ code,(Instr.sliceBound (a.eval zx) c code).run P w=.ok mx w:=fun code=>Zht (T4 ht hz) (by simpa[H0]using hmx) (by omega)
   cases hi with
   | none=>simp[D8]at hh
   | some hx2=>
    simp only[D8]at hh;cases hz2:Y5 hx2 with
    | none=>simp[hz2]at hh
    | some z2=>
     simp only[hz2,oI]at hh;subst hh;have e2:∀ code,(Instr.sliceBound (a.eval hx2) mx code).run P w=.ok h'' w:=fun code=>Zht (T4 ht hz2) hh'' c2
     have e3:(Instr.sliceBounds true n c (lo.map a.eval) (some (a.eval hx2)) (some (a.eval zx))).run P w=.ok (l',h'',mx) w:=by
      unfold Instr.sliceBounds;simp only[Sem.run_bind,e1,e2,Result.andThen_ok];cases lo with
      | none=>
       simp only[D8,oI]at hl;subst hl;simp only[H0,oI]at hl';subst hl';rfl
      | some lx=>
       simp only[D8]at hl;cases hz3:Y5 lx with
       | none=>simp[hz3]at hl
       | some z3=>
        simp only[hz3,oI]at hl;subst hl;have e4:∀ code,(Instr.sliceBound (a.eval lx) h'' code).run P w=.ok l' w:=fun code=>Zht (T4 ht hz3) (by simpa[H0]using hl') c1
        simp only[Option.map_some,Sem.run_bind,e4,Result.andThen_ok,Sem.run_pure]
     have e5:=Zig (a:=p) hu hk e3;rw[← hv]at e5;split at h
     ·rename_i h0;obtain⟨h1,h2⟩:=V7 h;subst h1; subst h2;refine Done.val (A8 e5) hr ?_;have:h'' - l'=0:=by omega
      have h3:mx - l'=0:=by omega
      rw[this,h3];exact .emp _
     ·obtain⟨h1,h2⟩:=V7 h;subst h1; subst h2;exact Done.val (A8 e5) hr (.bot _)
theorem Z1i(ht:RL Φ ρ t a.tmps)(hr:Rel W Φ ρ m w)(hn:ρ id=none)(hlt:id<m.next)(o:Oper)(op:AOp)
 (hc:cOp P o=some op) (h:stepA id t m op=some (x,m')):Done P (execOp a.eval o) W Φ ρ id w x m':=by
 have mk:∀ {y:AOpd} {z:Operand},Y5 z=some y→R Φ ρ (ev t y) (a.eval z):=fun hz=>T4 ht hz
 unfold cOp at hc;unfold execOp;split at hc
 ·rename_i z ho;rw[ho];simp only[Option.map_eq_some_iff]at hc;obtain⟨y,hy,rfl⟩:=hc;simp only[stepA]at h;obtain⟨h1,h2⟩:=V7 h;subst h1; subst h2;exact Done.val (by simp) hr (mk hy)
 ·rename_i z ho;rw[ho];simp only[Option.map_eq_some_iff]at hc;obtain⟨y,hy,rfl⟩:=hc;simp only[stepA]at h;obtain⟨h1,h2⟩:=V7 h;subst h1; subst h2;exact Done.val (by simp) hr (mk hy)
 ·rename_i c1 a1 b1 ho;rw[ho];split at hc<;>first|(cases hc; done)|skip
  rename_i c' a' b' h1 h2 h3;injection hc with hc; subst hc
  simp only[stepA]at h;split at h<;>first|(cases h; done)|skip
  ·rename_i hb;obtain⟨e1,e2⟩:=V7 h;subst e1; subst e2;have:=Zth (mk h1) hb;exact Done.val (v:=a.eval a1) (by simp[this,asBool]) hr (mk h2)
  ·rename_i hb;obtain⟨e1,e2⟩:=V7 h;subst e1; subst e2;have:=Zth (mk h1) hb;exact Done.val (v:=a.eval b1) (by simp[this,asBool]) hr (mk h3)
 ·rename_i ty ho;rw[ho];simp only[Option.map_eq_some_iff]at hc;obtain⟨zs,hz,rfl⟩:=hc;simp only[stepA]at h;obtain⟨h1,h2⟩:=V7 h;subst h1; subst h2;exact Ybi hr hn hlt hz
 ·rename_i ty z ho;rw[ho];simp only[Option.map_eq_some_iff]at hc;obtain⟨y,hy,rfl⟩:=hc;simp only[stepA]at h;split at h<;>first|(cases h; done)|skip
  rename_i cs hcs;split at h<;>first|(cases h; done)|skip
  rename_i hall;obtain⟨h1,h2⟩:=V7 h;subst h1; subst h2;exact Yc9 hr hn hlt (mk hy) hcs hall
 ·rename_i ty ps ho;rw[ho];split at hc<;>first|(cases hc; done)|skip
  ·rename_i fs z hu hz;split at hc<;>first|(cases hc; done)|skip
   rename_i hall;split at hc<;>first|(cases hc; done)|skip
   rename_i qs hq;injection hc with hc; subst hc
   simp only[stepA]at h;split at h<;>first|(cases h; done)|skip
   rename_i cs hcs;obtain⟨h1,h2⟩:=V7 h;subst h1; subst h2;exact Done.ofV hr (Z2g ht hu hz hq hcs fun f hf=>Option.isSome_iff_exists.1 (List.all_eq_true.1 hall f hf))
  ·rename_i n e z hu hz;split at hc<;>first|(cases hc; done)|skip
   rename_i k hk;split at hc<;>first|(cases hc; done)|skip
   rename_i qs hq;injection hc with hc; subst hc
   simp only[stepA]at h;split at h<;>first|(cases h; done)|skip
   rename_i cs hcs;obtain⟨h1,h2⟩:=V7 h;subst h1; subst h2;exact Done.ofV hr (Z7v ht hu hk hz hq hcs)
 ·rename_i ty len ps ho;rw[ho];split at hc<;>first|(cases hc; done)|skip
  rename_i k b z qs he hq;split at hc<;>first|(cases hc; done)|skip
  rename_i hle;injection hc with hc; subst hc
  simp only[stepA]at h;split at h<;>first|(cases h; done)|skip
  rename_i els hels;obtain⟨h1,h2⟩:=V7 h;subst h1; subst h2;exact Yaj hr ht hn hlt he hq hle hels fun u w' hw=>A8 hw
 ·rename_i ty z ho;rw[ho];split at hc<;>first|(cases hc; done)|skip
  rename_i n y hl hy;injection hc with hc; subst hc
  simp only[stepA]at h;split at h<;>first|(cases h; done)|skip
  rename_i v hv;obtain⟨h1,h2⟩:=V7 h;subst h1; subst h2;exact Done.ofV hr (Zwn hr (mk hy) hl hv)
 ·rename_i ty z z2 ho;rw[ho];split at hc<;>first|(cases hc; done)|skip
  rename_i n a' x' hs ha hx;injection hc with hc; subst hc
  simp only[stepA]at h;split at h<;>first|(cases h; done)|skip
  rename_i m2 hst;obtain⟨h1,h2⟩:=V7 h;subst h1; subst h2;refine Ydf hr (mk ha) (mk hx) hs hst ?_;simp only[Sem.run_bind,Sem.run_pure];cases Sem.run P (Instr.storeAt ty (a.eval z) (a.eval z2)) w<;>rfl
 ·rename_i z ho;rw[ho];simp only[Option.map_eq_some_iff]at hc;obtain⟨y,hy,rfl⟩:=hc;simp only[stepA]at h;refine Ybe hr h (mk hy) ⟨fun p hp=>?_,fun f p q hp=>?_⟩
  ·simp only[hp]; rfl
  ·simp only[hp]; rfl
 ·rename_i op2 ty z z2 ty2 ho;rw[ho];split at hc<;>first|(cases hc; done)|skip
  rename_i x' y' e hx hy he;injection hc with hc; subst hc
  simp only[stepA]at h;split at h<;>first|(cases h; done)|skip
  rename_i v hv;obtain⟨h1,h2⟩:=V7 h;subst h1; subst h2;exact Done.ofV hr (Zr6 he hv (mk hx) (mk hy))
 ·rename_i op2 ty z ho;rw[ho];simp only[Option.map_eq_some_iff]at hc;obtain⟨y,hy,rfl⟩:=hc;simp only[stepA]at h;split at h<;>first|(cases h; done)|skip
  rename_i v hv;obtain⟨h1,h2⟩:=V7 h;subst h1; subst h2;exact Done.ofV hr (Ybu hv (mk hy))
 ·rename_i s d z ho;rw[ho];split at hc<;>first|(cases hc; done)|skip
  ·rename_i k0 k y hs hd hy;injection hc with hc; subst hc
   simp only[stepA]at h;split at h<;>first|(cases h; done)|skip
   rename_i k1 n hv;obtain⟨h1,h2⟩:=V7 h;subst h1; subst h2;have hyv:=mk hy;rw[hv]at hyv;refine Done.val (A8 ?_) hr (.int k _);rw[L4 hyv];simp only[convert,Sem.run_bind,W8 hs,W8 hd,Result.andThen_ok];rfl
  ·rename_i y hs hd hy;injection hc with hc; subst hc
   simp only[stepA]at h;split at h<;>first|(cases h; done)|skip
   rename_i l hv;obtain⟨h1,h2⟩:=V7 h;subst h1; subst h2;have hyv:=mk hy;rw[hv]at hyv;refine Done.val (A8 ?_) hr (.str _);rw[Zaq hyv];simp only[convert,Sem.run_bind,W8 hs,W8 hd,Result.andThen_ok];rfl
  ·rename_i e y hs hd hy;split at hc<;>first|(cases hc; done)|skip
   rename_i he;injection hc with hc; subst hc
   simp only[stepA]at h;split at h<;>first|(cases h; done)|skip
   rename_i rows hrows;split at h<;>first|(cases h; done)|skip
   rename_i l hl;obtain⟨h1,h2⟩:=V7 h;subst h1; subst h2;refine Done.val (A8 ?_) hr (.str _);have hb:=Yat (P:=P) hr (mk hy) hrows hl;have hv:∃ p n c,a.eval z=.slice p n c:=by
    have hyv:=mk hy;generalize ev t y=yy at hyv hrows;generalize a.eval z=vv at hyv;cases hyv<;>simp only[L3]at hrows<;>first|(cases hrows; done)|exact⟨_,_,_,rfl⟩
   obtain⟨p,n,c,hv⟩:=hv;rw[hv]at hb ⊢;simp only[convert,Sem.run_bind,W8 hs,W8 hd,W8 he,Result.andThen_ok];exact hb
 ·rename_i fn f1 c1 ho;rw[ho];split at hc<;>first|(cases hc; done)|skip
  rename_i f' c' hf hcc;injection hc with hc; subst hc
  simp only[stepA]at h;obtain⟨h1,h2⟩:=V7 h;subst h1; subst h2;have g1:=Zih ht hf;have g2:=Zih ht hcc;exact Done.val (A8 (by simp[Instr.makeFunc])) hr (.func fn _ _ _ _ g1.1 g2.1 g1.2 g2.2)
 ·rename_i ty ho;rw[ho];injection hc with hc; subst hc
  simp only[stepA]at h;obtain⟨h1,h2⟩:=V7 h;subst h1; subst h2;exact Z6i hr hn hlt
 ·rename_i ty z z2 ho;rw[ho];split at hc<;>first|(cases hc; done)|skip
  rename_i k b zz l' c' he hl hcc;injection hc with hc; subst hc
  simp only[stepA]at h;split at h<;>first|(cases h; done)|skip
  rename_i l c hl' hc';split at h<;>first|(cases h; done)|skip
  rename_i hcond;obtain⟨d1,d2,d3⟩:=hcond;obtain⟨h1,h2⟩:=V7 h;subst h1; subst h2;obtain⟨kl,hkl⟩:=Ze5 (mk hl) hl';obtain⟨kc,hkc⟩:=Ze5 (mk hcc) hc';exact Z9r hr hn hlt he hkl hkc d1 d2 d3 fun u w' hw=>A8 hw
 ·rename_i ty z lo hi mx ho;rw[ho];split at hc<;>first|(cases hc; done)|skip
  ·rename_i x' l h0 hu hx hl hh hm;injection hc with hc; subst hc
   have hmx:mx=none:=by
    cases mx with
    | none=>rfl
    | some q=>simp only[D8]at hm; split at hm<;>simp at hm
   subst hmx;simp only[stepA]at h;split at h<;>first|(cases h; done)|skip
   rename_i s hs;split at h<;>first|(cases h; done)|skip
   rename_i l1 h1 hb;obtain⟨e1,e2⟩:=V7 h;subst e1; subst e2;have hxv:=mk hx;rw[hs]at hxv;exact Done.ofV hr (Z3w hu hxv (Zki ht hl) (Zki ht hh) hb)
  ·rename_i e x' l h0 mm hu hx hl hh hm;split at hc<;>first|(cases hc; done)|skip
   rename_i k hk;injection hc with hc; subst hc
   exact Z9f ht hr hu hk hx hl hh hm h
  ·split at hc<;>first|(cases hc; done)|skip
   injection hc with hc; subst hc
   simp[stepA]at h
 ·rename_i ty z i ho;rw[ho];split at hc<;>first|(cases hc; done)|skip
  rename_i fs y hu hy;split at hc<;>first|(cases hc; done)|skip
  rename_i f hf;split at hc<;>first|(cases hc; done)|skip
  rename_i n hs;split at hc<;>first|(cases hc; done)|skip
  rename_i h0;injection hc with hc; subst hc
  simp only[stepA]at h;split at h<;>first|(cases h; done)|skip
  rename_i v hv;obtain⟨h1,h2⟩:=V7 h;subst h1; subst h2;exact Done.ofV hr (Z1y hu hf hs h0 (mk hy) hv)
 ·rename_i ty z i ho;rw[ho];split at hc<;>first|(cases hc; done)|skip
  rename_i fs y hu hy;split at hc<;>first|(cases hc; done)|skip
  rename_i f hf;split at hc<;>first|(cases hc; done)|skip
  rename_i n hs;injection hc with hc; subst hc
  simp only[stepA]at h;split at h<;>first|(cases h; done)|skip
  rename_i cs hcs;split at h<;>first|(cases h; done)|skip
  rename_i v hv;obtain⟨h1,h2⟩:=V7 h;subst h1; subst h2;have hyv:=mk hy;rw[hcs]at hyv;exact Done.ofV hr (Yfb hu hf hs hyv hv)
 ·rename_i ty z zi ho;rw[ho];split at hc<;>first|(cases hc; done)|skip
  ·rename_i e x' i' hu hx hi;split at hc<;>first|(cases hc; done)|skip
   rename_i k hk;injection hc with hc; subst hc
   simp only[stepA]at h;split at h<;>first|(cases h; done)|skip
   ·rename_i b off len i hs hii;obtain⟨ki,hki⟩:=Ze5 (mk hi) hii;split at h<;>first|(cases h; done)|skip
    rename_i k' els hg;split at h<;>first|(cases h; done)|skip
    rename_i hcond;obtain⟨d1,d2⟩:=hcond;subst d1;obtain⟨h1,h2⟩:=V7 h;subst h1; subst h2;exact Done.ofV hr (Zw4 hr hu hk (mk hx) hki (.inl ⟨_,_,_,_,hs,hg,d2,rfl⟩))
   ·rename_i els i hs hii;obtain⟨ki,hki⟩:=Ze5 (mk hi) hii;split at h<;>first|(cases h; done)|skip
    rename_i row hrow;split at h<;>first|(cases h; done)|skip
    rename_i hlen;obtain⟨h1,h2⟩:=V7 h;subst h1; subst h2;exact Done.ofV hr (Zw4 hr hu hk (mk hx) hki (.inr ⟨_,_,hs,hrow,hlen,rfl⟩))
  ·rename_i n e x' i' hu hx hi;split at hc<;>first|(cases hc; done)|skip
   rename_i k hk;injection hc with hc; subst hc
   simp only[stepA]at h;split at h<;>first|(cases h; done)|skip
   rename_i i hii;obtain⟨ki,hki⟩:=Ze5 (mk hi) hii;split at h<;>first|(cases h; done)|skip
   rename_i hlt2;split at h<;>first|(cases h; done)|skip
   rename_i v hv;obtain⟨h1,h2⟩:=V7 h;subst h1; subst h2;exact Done.ofV hr (Ybm hu hk (mk hx) hki hlt2 hv)
 ·rename_i ty z zi ho;rw[ho];split at hc<;>first|(cases hc; done)|skip
  ·rename_i x' i' hu hx hi;injection hc with hc; subst hc
   simp only[stepA]at h;split at h<;>first|(cases h; done)|skip
   rename_i s i hs hii;obtain⟨ki,hki⟩:=Ze5 (mk hi) hii;split at h<;>first|(cases h; done)|skip
   rename_i c hcc;obtain⟨h1,h2⟩:=V7 h;subst h1; subst h2;have hxv:=mk hx;rw[hs]at hxv;exact Done.val (A8 (Z0i hu hxv hki hcc)) hr (.int _ _)
  ·rename_i n e x' i' hu hx hi;split at hc<;>first|(cases hc; done)|skip
   rename_i k sz hk hsz;injection hc with hc; subst hc
   simp only[stepA]at h;split at h<;>first|(cases h; done)|skip
   rename_i cs i hcs hii;obtain⟨ki,hki⟩:=Ze5 (mk hi) hii;split at h<;>first|(cases h; done)|skip
   rename_i hlt2;split at h<;>first|(cases h; done)|skip
   rename_i v hv;obtain⟨h1,h2⟩:=V7 h;subst h1; subst h2;have hxv:=mk hx;rw[hcs]at hxv;exact Done.ofV hr (Yeq hu hk hsz hxv hki hlt2 hv)
 ·rename_i ty z zi ok ho;rw[ho];split at hc<;>first|(cases hc; done)|skip
  rename_i kt e x' i' hu hx hi;split at hc<;>first|(cases hc; done)|skip
  rename_i q zz hq hz;injection hc with hc; subst hc
  simp only[stepA]at h;split at h<;>first|(cases h; done)|skip
  rename_i es hes;split at h<;>first|(cases h; done)|skip
  rename_i r hf;obtain⟨h1,h2⟩:=V7 h;subst h1; subst h2;have hmm:(ev t x'=.nilMap∧es=[])∨(∃ b c,ev t x'=.map b∧m.get b=some (.map es c)):=by
   split at hes<;>first|(cases hes; done)|skip
   ·rename_i hy;injection hes with hes
    exact .inl ⟨hy,hes.symm⟩
   ·rename_i b hy;split at hes<;>first|(cases hes; done)|skip
    rename_i es' clock hg;injection hes with hes
    subst hes;exact .inr ⟨b,clock,hy,hg⟩
  ·obtain⟨u,g1,g2⟩:=Z3c (w:=w) (ok:=ok) hr hu hq hz (mk hx) (mk hi) hmm hf;refine Done.ofV hr ⟨u,g1,?_⟩;cases r with
   | none=>exact g2
   | some r=>obtain ⟨i,v,b⟩:=r; exact g2
 ·rename_i ty om ok ov ho;rw[ho];exact Zuj ht hr ty om ok ov op hc h
 ·rename_i ty om ok ov ho;rw[ho];exact Zuj ht hr ty om ok ov op hc h
 ·rename_i z i ho;rw[ho];split at hc<;>first|(cases hc; done)|skip
  rename_i y hy;injection hc with hc; subst hc
  simp only[stepA]at h;split at h<;>first|(cases h; done)|skip
  rename_i vs hvs;split at h<;>first|(cases h; done)|skip
  rename_i v hv;obtain⟨h1,h2⟩:=V7 h;subst h1; subst h2;have hyv:=mk hy;rw[hvs]at hyv;exact Done.ofV hr (Yaw hyv hv)
 ·rename_i c ho;have:=Z9s ht hr hn hlt o c ho op hc h;unfold execOp at this;exact this
 ·split at hc<;>first|(cases hc; done)|skip
  simp only[Option.map_eq_some_iff]at hc;obtain⟨y,_,rfl⟩:=hc;simp only[stepA]at h;cases h
 ·simp only[Option.map_eq_some_iff]at hc;obtain⟨y,_,rfl⟩:=hc;simp only[stepA]at h;cases h
 ·cases hc
end
end Go.AE
end
section
namespace Go.AE
open Go.RowKit
structure Same (ft:List Nat) (m m' m2 m2':Mem):Prop where
 n1:m'.next=m.next
 n2:m2'.next=m2.next
 out1:∀ b,b∉ft→m'.get b=m.get b
 out2:∀ b,b∉ft→m2'.get b=m2.get b
 ins:∀ b,b∈ft→m2'.get b=m'.get b
def Agr(ft:List Nat)(m m2:Mem):Prop:=∀ b,b∈ft→m2.get b=m.get b
section
variable {ft:List Nat} {m m2 m':Mem} {id:Nat} {t:List AVal} {v:AVal}
theorem Same.refl(h:Agr ft m m2):Same ft m m m2 m2:=⟨rfl,rfl,fun _ _=>rfl,fun _ _=>rfl,h⟩
theorem Same.set{m' m2':Mem}{b:Nat}{x:ABlk}(h:Same ft m m' m2 m2')(hb:b∈ft):Same ft m (m'.set b x) m2 (m2'.set b x):=by
 refine⟨h.n1,h.n2,fun c hc=>?_,fun c hc=>?_,fun c hc=>?_⟩
 ·have:c≠b:=fun e=>hc (e ▸ hb)
  simp[this,h.out1 c hc]
 ·have:c≠b:=fun e=>hc (e ▸ hb)
  simp[this,h.out2 c hc]
 ·simp only[Mem.get_set];split
  ·rfl
  ·exact h.ins c hc
theorem Same.del{m' m2':Mem}{b:Nat}(h:Same ft m m' m2 m2')(hb:b∈ft):Same ft m (m'.del b) m2 (m2'.del b):=by
 refine⟨h.n1,h.n2,fun c hc=>?_,fun c hc=>?_,fun c hc=>?_⟩
 ·have:c≠b:=fun e=>hc (e ▸ hb)
  simp[this,h.out1 c hc]
 ·have:c≠b:=fun e=>hc (e ▸ hb)
  simp[this,h.out2 c hc]
 ·simp only[Mem.get_del];split
  ·rfl
  ·exact h.ins c hc
theorem Z1n{x:AVal}(h:Agr (Y8 x) m m2):rowAt m2 x=rowAt m x:=by
 cases x<;>simp only[rowAt]
 rename_i b i j;rw[h b (by simp[Y8])]
theorem Z1f{x:AVal}{n:Option Nat}(h:Agr (Y8 x) m m2):Zb0 m2 n x=Zb0 m n x:=by
 simp only[Zb0,Z1n h]
theorem Zwe{x:AVal}{k:Nat}(h:Agr (Y8 x) m m2):L3 m2 k x=L3 m k x:=by
 cases x<;>simp only[L3]
 rename_i b off len;rw[h b (by simp[Y8])]
theorem Ztc{x:AVal}{k:Nat}(h:Agr (Y8 x) m m2):O4 m2 k x=O4 m k x:=by
 cases x<;>simp only[O4]<;>first|rfl|exact Zwe h
theorem Yck{x y:AVal}{n:Nat}(h:Agr ft m m2)(hx:∀ b,b∈Y8 x→b∈ft)(hs:Zen m n x y=some m'):∃ m2',Zen m2 n x y=some m2'∧Same ft m m' m2 m2':=by
 cases x<;>simp only[Zen]at hs<;>first|(cases hs; done)|skip
 rename_i b i j;have hb:b∈ft:=hx b (by simp[Y8])
 simp only[Zen,h b hb];split at hs<;>first|(cases hs; done)|skip
 rename_i b' i' j' cs heq hcs;injection heq with h1 h2 h3
 subst h1; subst h2; subst h3;split at hs<;>first|(cases hs; done)|skip
 rename_i k els hg;split at hs<;>first|(cases hs; done)|skip
 rename_i row hrow;split at hs<;>first|(cases hs; done)|skip
 rename_i hc;injection hs with hs
 subst hs;simp only[h b hb,hg,hrow];rw[if_pos hc];exact⟨_,rfl,(Same.refl h).set hb⟩
theorem Z6h{k bytes:Nat}{s:AVal}{xs:List (List AVal)}(h:Agr ft m m2)(hid:id∈ft)(hx:∀ b,b∈Y8 s→b∈ft)(hs:J6 id k bytes m s xs=some (v,m')) :
 ∃ m2',J6 id k bytes m2 s xs=some (v,m2')∧Same ft m m' m2 m2':=by
 cases s<;>simp only[J6]at hs<;>first|(cases hs; done)|skip
 ·split at hs
  ·rename_i h0;simp only[oI,pI2]at hs;obtain⟨h1,h2⟩:=hs;subst h1; subst h2;exact⟨m2,by simp[J6,h0],Same.refl h⟩
  ·rename_i h0;split at hs<;>first|(cases hs; done)|skip
   rename_i hc;simp only[oI,pI2]at hs;obtain⟨h1,h2⟩:=hs;subst h1; subst h2;exact⟨_,by simp only[J6,h0,if_false,hc]; rfl,(Same.refl h).set hid⟩
 ·split at hs
  ·rename_i h0;simp only[oI,pI2]at hs;obtain⟨h1,h2⟩:=hs;subst h1; subst h2;exact⟨m2,by simp[J6,h0],Same.refl h⟩
  ·rename_i h0;split at hs<;>first|(cases hs; done)|skip
   rename_i hc;simp only[oI,pI2]at hs;obtain⟨h1,h2⟩:=hs;subst h1; subst h2;exact⟨_,by simp only[J6,h0,if_false,hc]; rfl,(Same.refl h).set hid⟩
 ·rename_i b off len;have hb:b∈ft:=hx b (by simp[Y8])
  simp only[J6,h b hb];split at hs<;>first|(cases hs; done)|skip
  rename_i k' els hg;split at hs<;>first|(cases hs; done)|skip
  rename_i hc;rw[if_pos hc];split at hs
  ·rename_i hc2;rw[if_pos hc2];simp only[oI,pI2]at hs;obtain⟨h1,h2⟩:=hs;subst h1; subst h2;exact⟨_,rfl,(Same.refl h).set hb⟩
  ·rename_i hc2;rw[if_neg hc2];split at hs<;>first|(cases hs; done)|skip
   rename_i hc3;rw[if_pos hc3];simp only[oI,pI2]at hs;obtain⟨h1,h2⟩:=hs;subst h1; subst h2;exact⟨_,rfl,((Same.refl h).del hb).set hid⟩
theorem Zek{o:Option AVal}{m':Mem}(h:Agr ft m m2)(hs:(match o with|some v=>some (v,m)|none=>none)=some (v,m')) :
 ∃ m2',(match o with|some v=>some (v,m2)|none=>none)=some (v,m2')∧Same ft m m' m2 m2':=by
 cases o with
 | none=>cases hs
 | some w=>
  simp only[oI,pI2]at hs;obtain⟨h1,h2⟩:=hs;subst h1; subst h2;exact⟨m2,rfl,Same.refl h⟩
theorem Zpu{op:AOp}(hr:Agr (K3 t op) m m2)(h:Agr (S5 id t op) m m2)(hs:stepA id t m op=some (v,m')):∃ m2',stepA id t m2 op=some (v,m2')∧Same (S5 id t op) m m' m2 m2':=by
 have keep:∀ {o:Option (AVal×Mem)},o=some (v,m')→(∀ w n,o=some (w,n)→n=m∧stepA id t m2 op=some (w,m2)) → ∃ m2',stepA id t m2 op=some (v,m2')∧Same (S5 id t op) m m' m2 m2':=by
  intro o ho hw;obtain⟨h1,h2⟩:=hw v m' ho;subst h1;exact⟨m2,h2,Same.refl h⟩
 cases op with
 | mov x=>exact keep hs fun w n hh=>by simp only[stepA,oI,pI2]at hh ⊢; exact⟨hh.2.symm,hh.1,trivial⟩
 | pick c a b=>
  simp only[stepA]at hs ⊢;split at hs<;>first|(cases hs; done)|skip
  all_goals
   simp only[oI,pI2]at hs;obtain⟨h1,h2⟩:=hs;subst h1; subst h2;exact⟨m2,rfl,Same.refl h⟩
 | box x=>
  simp only[stepA]at hs ⊢;split at hs<;>first|(cases hs; done)|skip
  rename_i cs hcs;split at hs<;>first|(cases hs; done)|skip
  rename_i hall;simp only[oI,pI2]at hs;obtain⟨h1,h2⟩:=hs;subst h1; subst h2;simp only[hall,if_true];exact⟨_,rfl,(Same.refl h).set (by simp[S5])⟩
 | alloc z=>
  simp only[stepA,oI,pI2]at hs ⊢;obtain⟨h1,h2⟩:=hs;subst h1; subst h2;exact⟨_,⟨rfl,rfl⟩,(Same.refl h).set (by simp[S5])⟩
 | build z ps=>
  simp only[stepA]at hs ⊢;split at hs<;>first|(cases hs; done)|skip
  simp only[oI,pI2]at hs;obtain⟨h1,h2⟩:=hs;subst h1; subst h2;exact⟨m2,rfl,Same.refl h⟩
 | mkSl k len z ps=>
  simp only[stepA]at hs ⊢;split at hs<;>first|(cases hs; done)|skip
  simp only[oI,pI2]at hs;obtain⟨h1,h2⟩:=hs;subst h1; subst h2;exact⟨_,rfl,(Same.refl h).set (by simp[S5])⟩
 | load n x=>
  simp only[stepA]at hs ⊢;rw[Z1f hr];exact Zek h hs
 | store n a x=>
  simp only[stepA]at hs ⊢;split at hs<;>first|(cases hs; done)|skip
  rename_i m3 hst;simp only[oI,pI2]at hs;obtain⟨h1,h2⟩:=hs;subst h1; subst h2;obtain⟨m4,h3,h4⟩:=Yck h (fun _ hb=>hb) hst
  rw[h3];exact⟨m4,rfl,h4⟩
 | nilChk x=>
  simp only[stepA]at hs ⊢;split at hs<;>first|(cases hs; done)|skip
  all_goals
   simp only[oI,pI2]at hs;obtain⟨h1,h2⟩:=hs;subst h1; subst h2;exact⟨m2,rfl,Same.refl h⟩
 | bin op e x y=>simp only[stepA]at hs ⊢; exact Zek h hs
 | un op x=>simp only[stepA]at hs ⊢; exact Zek h hs
 | convInt k x=>
  simp only[stepA]at hs ⊢;split at hs<;>first|(cases hs; done)|skip
  simp only[oI,pI2]at hs;obtain⟨h1,h2⟩:=hs;subst h1; subst h2;exact⟨m2,rfl,Same.refl h⟩
 | convId x=>
  simp only[stepA]at hs ⊢;split at hs<;>first|(cases hs; done)|skip
  simp only[oI,pI2]at hs;obtain⟨h1,h2⟩:=hs;subst h1; subst h2;exact⟨m2,rfl,Same.refl h⟩
 | toStr x=>
  simp only[stepA]at hs ⊢;rw[Zwe hr];split at hs<;>first|(cases hs; done)|skip
  rename_i rows hrows;split at hs<;>first|(cases hs; done)|skip
  rename_i s hss;simp only[oI,pI2]at hs;obtain⟨h1,h2⟩:=hs;subst h1; subst h2;exact⟨m2,rfl,Same.refl h⟩
 | mkFunc fn a b=>exact keep hs fun w n hh=>by simp only[stepA,oI,pI2]at hh ⊢; exact⟨hh.2.symm,hh.1,trivial⟩
 | mkMap=>
  simp only[stepA,oI,pI2]at hs ⊢;obtain⟨h1,h2⟩:=hs;subst h1; subst h2;exact⟨_,⟨rfl,rfl⟩,(Same.refl h).set (by simp[S5])⟩
 | makeSl k b z len cap=>
  simp only[stepA]at hs ⊢;split at hs<;>first|(cases hs; done)|skip
  split at hs<;>first|(cases hs; done)|skip
  rename_i hc;simp only[oI,pI2]at hs;obtain⟨h1,h2⟩:=hs;subst h1; subst h2;simp only[hc,and_self,if_true];exact⟨_,rfl,(Same.refl h).set (by simp[S5])⟩
 | slStr x lo hi=>
  simp only[stepA]at hs ⊢;split at hs<;>first|(cases hs; done)|skip
  split at hs<;>first|(cases hs; done)|skip
  simp only[oI,pI2]at hs;obtain⟨h1,h2⟩:=hs;subst h1; subst h2;exact⟨m2,rfl,Same.refl h⟩
 | slSl k x lo hi mx=>
  have ha:Agr (Y8 (ev t x)) m m2:=hr;simp only[stepA]at hs ⊢;split at hs
  ·split at hs<;>first|(cases hs; done)|skip
   split at hs<;>first|(cases hs; done)|skip
   split at hs<;>first|(cases hs; done)|skip
   rename_i hc;simp only[hc,and_self,if_true];split at hs
   all_goals
    rename_i h0;simp only[oI,pI2]at hs;obtain⟨h1,h2⟩:=hs;subst h1; subst h2;simp only[h0,if_true,if_false];exact⟨m2,rfl,Same.refl h⟩
  ·generalize ev t x=y at *;cases y<;>simp only at hs ⊢ <;> first|(cases hs; done)|skip
   case sl b off len=>
    rw[ha b (by simp[Y8])]
    split at hs<;>first|(cases hs; done)|skip
    split at hs<;>first|(cases hs; done)|skip
    rename_i hc;simp only[hc,and_self,if_true];split at hs<;>first|(cases hs; done)|skip
    simp only[oI,pI2]at hs;obtain⟨h1,h2⟩:=hs;subst h1; subst h2;exact⟨m2,rfl,Same.refl h⟩
   case imm els=>
    split at hs<;>first|(cases hs; done)|skip
    rename_i hc;simp only[hc,if_true];split at hs<;>first|(cases hs; done)|skip
    simp only[oI,pI2]at hs;obtain⟨h1,h2⟩:=hs;subst h1; subst h2;exact⟨m2,rfl,Same.refl h⟩
   all_goals
    split at hs<;>first|(cases hs; done)|skip
    simp only[oI,pI2]at hs;obtain⟨h1,h2⟩:=hs;subst h1; subst h2;exact⟨m2,rfl,Same.refl h⟩
 | fieldA off x=>simp only[stepA]at hs ⊢; exact Zek h hs
 | field off n x=>
  simp only[stepA]at hs ⊢;split at hs<;>first|(cases hs; done)|skip
  exact Zek h hs
 | idxA k x i=>
  have ha:Agr (Y8 (ev t x)) m m2:=hr;simp only[stepA]at hs ⊢;generalize ev t x=y at *;split at hs<;>first|(cases hs; done)|skip
  ·rename_i b off len i' hi;rw[ha b (by simp[Y8])]
   split at hs<;>first|(cases hs; done)|skip
   split at hs<;>first|(cases hs; done)|skip
   rename_i hc;simp only[hc,and_self,if_true];simp only[oI,pI2]at hs;obtain⟨h1,h2⟩:=hs;subst h1; subst h2;exact⟨m2,rfl,Same.refl h⟩
  ·split at hs<;>first|(cases hs; done)|skip
   split at hs<;>first|(cases hs; done)|skip
   rename_i hc;simp only[hc,if_true];simp only[oI,pI2]at hs;obtain⟨h1,h2⟩:=hs;subst h1; subst h2;exact⟨m2,rfl,Same.refl h⟩
 | idxAA n k x i=>
  simp only[stepA]at hs ⊢;split at hs<;>first|(cases hs; done)|skip
  split at hs<;>first|(cases hs; done)|skip
  rename_i hc;simp only[hc,if_true];exact Zek h hs
 | idxStr x i=>
  simp only[stepA]at hs ⊢;split at hs<;>first|(cases hs; done)|skip
  split at hs<;>first|(cases hs; done)|skip
  simp only[oI,pI2]at hs;obtain⟨h1,h2⟩:=hs;subst h1; subst h2;exact⟨m2,rfl,Same.refl h⟩
 | idxArr n k sz x i=>
  simp only[stepA]at hs ⊢;split at hs<;>first|(cases hs; done)|skip
  split at hs<;>first|(cases hs; done)|skip
  rename_i hc;simp only[hc,if_true];exact Zek h hs
 | lookup kt z ok x i=>
  have ha:Agr (Y8 (ev t x)) m m2:=hr;simp only[stepA]at hs ⊢;generalize ev t x=y at *;cases y<;>simp only at hs ⊢ <;> first|(cases hs; done)|skip
  case map b=>
   rw[ha b (by simp[Y8])]
   split at hs<;>first|(cases hs; done)|skip
   rename_i es hes;split at hes<;>first|(cases hes; done)|skip
   rename_i hg;injection hes with hes
   subst hes;split at hs<;>first|(cases hs; done)|skip
   rename_i hf;simp only[oI,pI2]at hs;obtain⟨h1,h2⟩:=hs;subst h1; subst h2;exact⟨m2,by simp only[hf],Same.refl h⟩
  all_goals
   split at hs<;>first|(cases hs; done)|skip
   rename_i hf;simp only[oI,pI2]at hs;obtain⟨h1,h2⟩:=hs;subst h1; subst h2;exact⟨m2,by simp only[hf],Same.refl h⟩
 | mapUpd kt mp k w=>
  have ha:Agr (Y8 (ev t mp)) m m2:=h;have hi:∀ b,b∈Y8 (ev t mp)→b∈S5 id t (.mapUpd kt mp k w):=fun _ hb=>hb
  simp only[stepA]at hs ⊢;generalize ev t mp=y at *;cases y<;>simp only at hs ⊢ <;> first|(cases hs; done)|skip
  rename_i b;rw[ha b (by simp[Y8])]
  split at hs<;>first|(cases hs; done)|skip
  split at hs<;>first|(cases hs; done)|skip
  all_goals
   simp only[oI,pI2]at hs;obtain⟨h1,h2⟩:=hs;subst h1; subst h2;exact⟨_,rfl,(Same.refl h).set (hi b (by simp[Y8]))⟩
 | ext x i=>
  simp only[stepA]at hs ⊢;split at hs<;>first|(cases hs; done)|skip
  exact Zek h hs
 | append k bytes z s x=>
  have ha:Agr (Y8 (ev t x)) m m2:=hr;simp only[stepA]at hs ⊢;rw[Ztc ha];split at hs<;>first|(cases hs; done)|skip
  exact Z6h h (by simp[S5]) (fun b hb=>by simp[S5,hb]) hs
 | copy k d s=>
  have ha:Agr (Y8 (ev t d)) m m2:=h;have hi:∀ b,b∈Y8 (ev t d)→b∈S5 id t (.copy k d s):=fun _ hb=>hb
  have ha2:Agr (Y8 (ev t s)) m m2:=hr;simp only[stepA]at hs ⊢;rw[Ztc ha2];generalize ev t d=y at *;split at hs<;>first|(cases hs; done)|skip
  rename_i b off len xs hxs;rw[ha b (by simp[Y8])]
  split at hs<;>first|(cases hs; done)|skip
  split at hs<;>first|(cases hs; done)|skip
  rename_i hc;simp only[hc,and_self,if_true];simp only[oI,pI2]at hs;obtain⟨h1,h2⟩:=hs;subst h1; subst h2;exact⟨_,rfl,(Same.refl h).set (hi b (by simp[Y8]))⟩
 | clear k z x=>
  have ha:Agr (Y8 (ev t x)) m m2:=h;have hi:∀ b,b∈Y8 (ev t x)→b∈S5 id t (.clear k z x):=fun _ hb=>hb
  simp only[stepA]at hs ⊢;generalize ev t x=y at *;cases y<;>simp only at hs ⊢ <;> first|(cases hs; done)|skip
  case sl b off len=>
   rw[ha b (by simp[Y8])]
   split at hs<;>first|(cases hs; done)|skip
   split at hs<;>first|(cases hs; done)|skip
   rename_i hc;simp only[hc,and_self,if_true];simp only[oI,pI2]at hs;obtain⟨h1,h2⟩:=hs;subst h1; subst h2;exact⟨_,rfl,(Same.refl h).set (hi b (by simp[Y8]))⟩
  all_goals
   simp only[oI,pI2]at hs;obtain⟨h1,h2⟩:=hs;subst h1; subst h2;exact⟨m2,rfl,Same.refl h⟩
 | lenStr x=>
  simp only[stepA]at hs ⊢;split at hs<;>first|(cases hs; done)|skip
  simp only[oI,pI2]at hs;obtain⟨h1,h2⟩:=hs;subst h1; subst h2;exact⟨m2,rfl,Same.refl h⟩
 | lenSl x=>
  simp only[stepA]at hs ⊢;split at hs<;>first|(cases hs; done)|skip
  simp only[oI,pI2]at hs;obtain⟨h1,h2⟩:=hs;subst h1; subst h2;exact⟨m2,rfl,Same.refl h⟩
 | lenMap x=>
  have ha:Agr (Y8 (ev t x)) m m2:=hr;simp only[stepA]at hs ⊢;generalize ev t x=y at *;cases y<;>simp only at hs ⊢ <;> first|(cases hs; done)|skip
  case map b=>
   rw[ha b (by simp[Y8])]
   split at hs<;>first|(cases hs; done)|skip
   simp only[oI,pI2]at hs;obtain⟨h1,h2⟩:=hs;subst h1; subst h2;exact⟨m2,rfl,Same.refl h⟩
  all_goals
   simp only[oI,pI2]at hs;obtain⟨h1,h2⟩:=hs;subst h1; subst h2;exact⟨m2,rfl,Same.refl h⟩
 | lenArr n=>exact keep hs fun w n hh=>by simp only[stepA,oI,pI2]at hh ⊢; exact⟨hh.2.symm,hh.1,trivial⟩
 | minmax mx xs=>
  simp only[stepA]at hs ⊢;split at hs<;>first|(cases hs; done)|skip
  exact Zek h hs
 | iface ty x=>exact keep hs fun w n hh=>by simp only[stepA,oI,pI2]at hh ⊢; exact⟨hh.2.symm,hh.1,trivial⟩
 | mapEnt kt z mp k=>simp[stepA]at hs
 | entSt mp s w=>simp[stepA]at hs
 | delete kt mp k=>simp[stepA]at hs
 | range x=>simp[stepA]at hs
 | nextS x=>simp[stepA]at hs
 | nextM x=>simp[stepA]at hs
 | slArr n k x lo hi=>simp[stepA]at hs
 | appendZ k b z s x=>simp[stepA]at hs
 | call f xs=>simp[stepA]at hs
 | capSl x=>simp[stepA]at hs
 | dead=>simp[stepA]at hs
end
end Go.AE
end
section
namespace Go.AE
open Go.RowKit
section
variable {P:Program} {W:Base} {Φ:Pers} {ρ:Rho} {w:World} {m m':Mem} {x:AVal} {a:Act} {t:List AVal} {ops:Array Oper}
theorem RL.put{v:AVal}{u:Value}(d:Option Nat)(ht:RL Φ ρ t a.tmps)(hv:R Φ ρ v u):RL Φ ρ (put t d v) (a.put d u).tmps:=by
 cases d with
 | none=>exact ht
 | some d=>
  refine⟨by simp[AE.put,Act.put,ht.1],fun i x y hx hy=>?_⟩
  simp only[AE.put,Act.put]at hx hy;rw[List.getElem?_set]at hx;rw[Array.getElem?_setIfInBounds]at hy;by_cases h:d=i
  ·rw[if_pos h]at hx hy;subst h;split at hx
   ·split at hy
    ·injection hx with hx; injection hy with hy; subst hx; subst hy; exact hv
    ·cases hy
   ·cases hx
  ·rw[if_neg h]at hx hy;exact ht.2 i x y hx hy
theorem Zge(d:Option Nat)(u:Value):(a.put d u).defers=a.defers:=by
 cases d<;>rfl
theorem Zgf(ht:RL Φ ρ t a.tmps){o:Oper}{g:Option (Nat×Bool)}{b:Bool}(hg:Zan ops o.guard=some g)(h:R7 t g=some b):Region.wanted o (yielded ops a.tmps)=b:=by
 unfold Region.wanted;cases hog:o.guard with
 | none=>
  simp only[hog,Zan,oI]at hg;subst hg;simp only[R7,oI]at h;exact h
 | some jw=>
  obtain⟨j,want⟩:=jw;simp only[hog,Zan]at hg;split at hg<;>first|(cases hg; done)|skip
  rename_i d hd;injection hg with hg
  subst hg;simp only[yielded,hd,Option.bind_some];simp only[R7]at h;have hR:=ht.get d;split at h<;>first|(cases h; done)|skip
  ·rename_i b0 hb0;injection h with h
   subst h;rw[hb0]at hR;have hv:=Za5 hR;have:a.tmps[d]? = some (.bool b0):=by
    rcases Nat.lt_or_ge d a.tmps.size with hlt|hge
    ·rw[Array.getElem?_eq_getElem hlt];simpa[Array.getD,hlt]using hv
    ·simp[Array.getD,Nat.not_lt.2 hge,undef]at hv
   rw[this];simp
  ·rename_i hb0;injection h with h
   subst h;rw[hb0]at hR;have hne:∀ b,a.tmps[d]? ≠ some (.bool b):=by
    intro b hb;have:a.tmps.getD d undef=.bool b:=by
     have hlt:=(Array.getElem?_eq_some_iff.1 hb).1;have:=(Array.getElem?_eq_some_iff.1 hb).2;simpa[Array.getD,hlt]using this
    rw[this]at hR;cases hR
   cases hq:a.tmps[d]? with
   | none=>simp
   | some v=>
    cases v<;>first|(exact absurd hq (hne _))|simp
theorem Zq3{id:Nat}{K:Act→World→Prop}{Q:Exit→Act→World→Prop}(ht:RL Φ ρ t a.tmps)(hr:Rel W Φ ρ m w)(hn:ρ id=none)(hlt:id<m.next)(o:Oper)
 (h:stepA id t m (P8 P o)=some (x,m'))
 (hK:∀ Φ' ρ' u w',Ext Φ ρ Φ' ρ'→(∀ b,b≠id→ρ b=none→ρ' b=none)→Rel W Φ' ρ' m' w'→R Φ' ρ' x u→K (a.put o.dst u) w'):o.wp P a w K Q:=by
 unfold P8 at h;cases hc:cOp P o with
 | none=>simp[hc,stepA]at h
 | some op=>
  simp only[hc,Option.getD_some]at h;obtain⟨v,w',Φ',ρ',hrun,he,hk,hr',hx⟩:=Z1i ht hr hn hlt o op hc h;unfold Oper.wp;rcases hrun with hrun|⟨hrun,rfl⟩
  ·rw[hrun];exact hK _ _ _ _ he hk hr' hx
  ·rw[hrun];exact hK _ _ _ _ he hk hr' hx
theorem Zvd{id:Nat}{K:Act→World→Prop}{Q:Exit→Act→World→Prop}(ht:RL Φ ρ t a.tmps)(hr:Rel W Φ ρ m w)(hn:ρ id=none)(hlt:id<m.next)(o:Oper){f:AOpd}{xs:List AOpd}(ho:P8 P o=.call f xs){g:FuncId}{args:List AVal}(hg:callee t f xs=some (g,args))
 {KA:AVal→Mem→Prop} (h:ACalls P g args m [id] KA)
 (hK:∀ Φ' ρ' x m' u w',Ext Φ ρ Φ' ρ'→(∀ b,b<m.next→b≠id→ρ b=none→ρ' b=none)→Rel W Φ' ρ' m' w'→R Φ' ρ' x u→m.next≤m'.next→KA x m'→K (a.put o.dst u) w'):o.wp P a w K Q:=by
 have hcall:∃ c of,o.op=.call c∧c.callee=.value of∧Y5 of=some f∧A5 c.args.toList=some xs:=by
  unfold P8 at ho;cases hc:cOp P o with
  | none=>simp[hc]at ho
  | some op=>
   simp only[hc,Option.getD_some]at ho;subst ho;unfold cOp at hc;split at hc<;>first|(cases hc; done)|(simp only[Option.map_eq_some_iff]at hc; obtain⟨_,_,hc⟩:=hc; cases hc; done)|skip
   case h_26 c hoc=>
    unfold Zcn at hc;split at hc
    ·rename_i of hcal;split at hc
     ·rename_i g' xs' hg' hxs';injection hc with hc
      injection hc with h1 h2
      subst h1; subst h2;exact⟨c,of,hoc,hcal,hg',hxs'⟩
     ·cases hc
    all_goals (repeat' (split at hc<;>first|(cases hc; done)|skip))
    all_goals (first|(cases hc; done)|(simp only[Option.map_eq_some_iff]at hc; obtain⟨_,_,hc⟩:=hc; cases hc; done)|skip)
   all_goals (repeat' (split at hc<;>first|(cases hc; done)|skip))
   all_goals (first|(cases hc; done)|(simp only[Option.map_eq_some_iff]at hc; obtain⟨_,_,hc⟩:=hc; cases hc; done)|skip)
 obtain⟨c,of,hop,hcal,hof,hxs⟩:=hcall;have hfv:=T4 ht hof;unfold callee at hg;split at hg<;>first|(cases hg; done)|skip
 rename_i g' first cap hev;injection hg with hg
 injection hg with h1 h2
 subst h1; subst h2;rw[hev]at hfv;generalize hvv:a.eval of=vv at hfv;cases hfv with
 | func _ _ _ vf vc hf hc hfr hcr=>
  have hargs:=Zih ht hxs;have hRL:RL Φ ρ (first++xs.map (ev t)++cap) (vf++c.args.map a.eval++vc):=by
   refine⟨by simp only[Array.size_append,List.length_append]; rw[hf,hc,hargs.1],fun i y v hy hv=>?_⟩
   have hl2:(vf++c.args.map a.eval).size=(first++xs.map (ev t)).length:=by simp only[Array.size_append,List.length_append]; rw[hf,hargs.1]
   rw[List.getElem?_append]at hy;rw[Array.getElem?_append]at hv;rw[hl2]at hv;split at hy
   ·rename_i hlt';rw[if_pos hlt']at hv;rw[List.getElem?_append]at hy;rw[Array.getElem?_append,hf]at hv;split at hy
    ·rename_i h3;rw[if_pos h3]at hv;exact hfr i y v hy hv
    ·rename_i h3;rw[if_neg h3]at hv;exact hargs.2 _ y v hy hv
   ·rename_i hge;rw[if_neg hge]at hv;exact hcr _ y v hy hv
  have hC:=h.2 W Φ ρ _ w hr hRL (fun b hb=>by simp only[List.mem_singleton]at hb; subst hb; exact⟨hn,hlt⟩)
  obtain⟨fn,hfn,hname,hbody⟩:=h.1;unfold Oper.wp;have hrun:(execOp a.eval o).run P w=.ok (.enter g' (vf++c.args.map a.eval++vc)) w:=by
   unfold execOp;rw[hop];simp only[resolve,hcal,hvv,Deferred.ofValue,Sem.run_bind,Sem.run_pure,Result.andThen_ok,invoke,callFunc];cases hb:fn.body with
   | none=>rw[hb]at hbody; cases hbody
   | some b=>simp[program,Sem.run,hfn,hb]; simpa using hname
  rw[hrun];refine hC.mono fun e w' he=>?_
  obtain⟨v,r,m',Φ',ρ',rfl,h1,h2,h3,h4,h5,h6⟩:=he;exact hK Φ' ρ' r m' v w' h1 (fun b hb hne=>h2 b hb (by simpa using hne)) h3 h4 h5 h6
theorem Zj4(P:Program)(ops:Array Oper):∀ (l:List Oper) (as:List AOper),G8 P ops l=some as →
 as.length=l.length ∧ ∀(i:Nat) (o:Oper) (b:AOper),l[i]? = some o→as[i]? = some b→b.dst=o.dst∧b.op=P8 P o∧Zan ops o.guard=some b.guard
 | [],as,h=>by
  simp only[G8,oI]at h;subst h;exact⟨rfl,fun i o b hi=>by simp at hi⟩
 | o :: l,as,h=>by
  simp only[G8]at h;cases hg:Zan ops o.guard with
  | none=>simp[hg]at h
  | some g=>
   cases hr:G8 P ops l with
   | none=>simp[hg,hr]at h
   | some as'=>
    simp only[hg,hr,oI]at h;subst h;obtain⟨h1,h2⟩:=Zj4 P ops l as' hr;refine⟨by simp[h1],fun i o' b hi hb=>?_⟩
    cases i with
    | zero=>
     simp only[List.getElem?_cons_zero,oI]at hi hb;subst hi; subst hb;exact⟨rfl,rfl,hg⟩
    | succ i=>
     simp only[List.getElem?_cons_succ]at hi hb;exact h2 i o' b hi hb
theorem Ztd{base i:Nat}{b:AOper}{rest:List AOper}{K:ASt→Prop}(h:N6 P base (b :: rest) i K t m) :
 (R7 t b.guard=some false∧N6 P base rest (i+1) K (put t b.dst aundef) m) ∨
 (R7 t b.guard=some true∧((∃ f xs g args,b.op=.call f xs∧callee t f xs=some (g,args)∧ACalls P g args m [base+i] fun v m'=>N6 P base rest (i+1) K (put t b.dst v) m') ∨
   (∃ v m',stepA (base+i) t m b.op=some (v,m')∧N6 P base rest (i+1) K (put t b.dst v) m'))):=by
 simp only[N6]at h;cases hw:R7 t b.guard with
 | none=>simp[hw]at h
 | some q=>
  cases q with
  | false=>simp only[hw]at h; exact .inl ⟨rfl,h⟩
  | true=>
   simp only[hw]at h;refine .inr ⟨rfl,?_⟩;have other:∀ op,b.op=op→(match stepA (base+i) t m op with|some (v,m')=>N6 P base rest (i+1) K (put t b.dst v) m'|none=>False) →
    ∃ v m',stepA (base+i) t m op=some (v,m')∧N6 P base rest (i+1) K (put t b.dst v) m':=by
    intro op _ hh;cases hs:stepA (base+i) t m op with
    | none=>simp[hs]at hh
    | some r=>obtain ⟨v,m'⟩:=r; simp only[hs]at hh; exact⟨v,m',rfl,hh⟩
   cases hop:b.op with
   | call f xs=>
    simp only[hop]at h;cases hc:callee t f xs with
    | none=>simp[hc]at h
    | some r=>
     obtain⟨g,args⟩:=r;simp only[hc]at h;exact .inl ⟨f,xs,g,args,rfl,hc,h⟩
   | _=>rw[hop]at h; exact .inr (other _ hop h)
theorem Zyu{id:Nat}{op:AOp}{v:AVal}(h:stepA id t m op=some (v,m')):m'.next=m.next:=by
 obtain⟨_,_,h2⟩:=Zpu (m2:=m) (fun _ _=>rfl) (fun _ _=>rfl) h
 exact h2.n1
theorem Zku(W:Base)(base:Nat)(n0:Nat)(ops:Array Oper)(Q:Exit→ASt→Prop)(Φ0:Pers)(ρ0:Rho)(hb:n0≤base) :
 ∀(l:List Oper) (as:List AOper) (i:Nat) (t:List AVal) (m:Mem) (Φ:Pers) (ρ:Rho) (a:Act) (w:World),
  as.length=l.length→(∀(j:Nat) (o:Oper) (b:AOper),l[j]? = some o→as[j]? = some b→b.dst=o.dst∧b.op=P8 P o∧Zan ops o.guard=some b.guard) →
  N6 P base as i (Q .normal) t m→Rel W Φ ρ m w→RL Φ ρ t a.tmps→a.defers=[]→Ext Φ0 ρ0 Φ ρ→KeepN n0 ρ0 ρ→(∀ j,i≤j→j<i+as.length→ρ (base+j)=none)→base+i+as.length≤m.next→n0≤m.next →
  wpList P ops (lift W Φ0 ρ0 n0 Q) l a w
 | [],[],i,t,m,Φ,ρ,a,w,_,_,h,hr,ht,hd,he,hk,_,_,hn=>⟨⟨t,m⟩,Φ,ρ,he,hk,hn,hr,ht,hd,h⟩
 | [],_ :: _,_,_,_,_,_,_,_,hl,_,_,_,_,_,_,_,_,_,_=>by simp at hl
 | _ :: _,[],_,_,_,_,_,_,_,hl,_,_,_,_,_,_,_,_,_,_=>by simp at hl
 | o :: l,b :: as,i,t,m,Φ,ρ,a,w,hl,hg,h,hr,ht,hd,he,hk,hfree,hnx,hn=>by
  obtain⟨e1,e2,e3⟩:=hg 0 o b rfl rfl;have hg':∀ (j:Nat) (o:Oper) (b:AOper),l[j]? = some o→as[j]? = some b→b.dst=o.dst∧b.op=P8 P o∧Zan ops o.guard=some b.guard:=fun j o b ho hb=>hg (j+1) o b (by simpa using ho) (by simpa using hb)
  have hl':as.length=l.length:=by simpa using hl
  simp only[List.length_cons]at hnx hfree;have hlt:base+i<m.next:=by omega
  have hni:ρ (base+i)=none:=hfree i (Nat.le_refl _) (by omega)
  unfold wpList;rcases Ztd h with⟨hw,h'⟩|⟨hw,h'⟩
  ·rw[Zgf ht e3 hw,if_neg (by simp)]
   rw[← e1];exact Zku W base n0 ops Q Φ0 ρ0 hb l as (i+1) _ m Φ ρ _ w hl' hg' h' hr (ht.put b.dst (Zeu Φ ρ)) (by rw[Zge]; exact hd) he hk (fun j h1 h2=>hfree j (by omega) (by omega)) (by omega) hn
  ·rw[Zgf ht e3 hw,if_pos rfl];refine .inl ?_;rcases h' with⟨f,xs,g,args,hop,hcal,hA⟩|⟨v,m',hs,h'⟩
   ·refine Zvd ht hr hni hlt o (by rw[← e2]; exact hop) hcal hA fun Φ' ρ' x m' u w' hE hfr hr' hx hnx' hW=>?_
    rw[← e1];exact Zku W base n0 ops Q Φ0 ρ0 hb l as (i+1) _ m' Φ' ρ' _ w' hl' hg' hW hr' ((ht.ext hE).put b.dst hx) (by rw[Zge]; exact hd) (he.trans hE) (fun c hc h0=>hfr c (by omega) (by omega) (hk c hc h0))
     (fun j h1 h2=>hfr _ (by omega) (by omega) (hfree j (by omega) (by omega))) (by omega) (by omega)
   ·have hnx':=Zyu hs;rw[e2]at hs;refine Zq3 ht hr hni hlt o hs fun Φ' ρ' u w' hE hfr hr' hx=>?_
    rw[← e1];exact Zku W base n0 ops Q Φ0 ρ0 hb l as (i+1) _ m' Φ' ρ' _ w' hl' hg' h' hr' ((ht.ext hE).put b.dst hx) (by rw[Zge]; exact hd) (he.trans hE) (fun c hc h0=>hfr c (by omega) (hk c hc h0))
     (fun j h1 h2=>hfr _ (by omega) (hfree j (by omega) (by omega))) (by rw[hnx']; omega) (by rw[hnx']; exact hn)
theorem Rel.at_{n:Nat}(h:Rel W Φ ρ m w)(hn:m.next≤n):Rel W Φ ρ (m.at n) w:=
 ⟨h.base,h.pers,h.live,h.inj,fun b l hb=>by have:=h.fresh b l hb; simp only[Mem.next_at]; omega,h.newp⟩
theorem Zul{id:Nat}{Q:Exit→ASt→Prop}{σ:ASt}(h:wpc P (Y2 P (.region id ops false)) Q σ):AWp P (.region id ops false) Q σ:=by
 intro W Φ ρ a w hr ht hd;simp only[Y2]at h;cases hc:G8 P ops ops.toList with
 | none=>simp[hc,wpc]at h
 | some as=>
  simp only[hc,wpc]at h;obtain⟨h1,h2⟩:=Zj4 P ops _ _ hc;refine wp_region_list (Zku W σ.m.next σ.m.next ops Q Φ ρ (Nat.le_refl _) ops.toList as 0 σ.t _ Φ ρ a w h1 h2 h (hr.at_ (by omega)) ht hd (.refl _ _) (.refl _ _) ?_ (by simp) (by simp))
  intro j _ _;cases hq:ρ (σ.m.next+j)with
  | none=>rfl
  | some l=>have:=hr.fresh _ _ hq; omega
end
end Go.AE
end
section
namespace Go.AE
open Go.RowKit
theorem Znp{t t2:List AVal}{xs:List AOpd}(h:∀ x,x∈xs→ev t x=ev t2 x):xs.map (ev t)=xs.map (ev t2):=List.map_congr_left h
theorem Zl3{t t2:List AVal}{d:Nat}{o:Option AOpd}(h:∀ x,x∈o.toList→ev t x=ev t2 x):H0 t d o=H0 t2 d o:=by
 cases o with
 | none=>rfl
 | some x=>simp only[H0]; rw[h x (by simp)]
theorem Zvf{t t2:List AVal}{n mx:Nat}{lo hi:Option AOpd}(h1:∀ x,x∈lo.toList→ev t x=ev t2 x)(h2:∀ x,x∈hi.toList→ev t x=ev t2 x):D2 t n mx lo hi=D2 t2 n mx lo hi:=by
 simp only[D2,Zl3 h1,Zl3 h2]
theorem Zvx{id:Nat}{t:List AVal}{op:AOp}(h:op.kind=0):S5 id t op=[]∧K3 t op=[]:=by
 cases op<;>first|exact⟨rfl,rfl⟩|(exfalso; revert h; simp[AOp.kind]; done)
theorem Z3t{id:Nat}{t:List AVal}{op:AOp}(h:op.kind≤1):S5 id t op=[]:=by
 cases op<;>first|rfl|(exfalso; revert h; simp[AOp.kind]; done)
theorem Z4w{id:Nat}{t t2:List AVal}{m:Mem}{op:AOp}(h:∀ x,x∈op.opds→ev t x=ev t2 x):stepA id t m op=stepA id t2 m op:=by
 cases op with
 | build z ps=>
  have:(ps.map fun p=>(p.1,p.2.1,ev t p.2.2))=ps.map fun p=>(p.1,p.2.1,ev t2 p.2.2):=List.map_congr_left fun p hp=>by rw[h p.2.2 (List.mem_map.2 ⟨p,hp,rfl⟩)]
  simp only[stepA,this]
 | mkSl k len z ps=>
  have:(ps.map fun p=>(p.1,ev t p.2))=ps.map fun p=>(p.1,ev t2 p.2):=List.map_congr_left fun p hp=>by rw[h p.2 (List.mem_map.2 ⟨p,hp,rfl⟩)]
  simp only[stepA,this]
 | mkFunc fn a b=>
  simp only[stepA,Znp (fun x hx=>h x (List.mem_append_left _ hx)),Znp (fun x hx=>h x (List.mem_append_right _ hx))]
 | minmax mx xs=>
  cases xs with
  | nil=>rfl
  | cons x r=>
   simp only[stepA];rw[h x (by simp[AOp.opds]),Znp (fun y hy=>h y (by simp[AOp.opds,hy]))]
 | slStr x lo hi=>
  have h1:∀ y,y∈lo.toList→ev t y=ev t2 y:=fun y hy=>h y (by simp only[AOp.opds,List.mem_cons,List.mem_append]; exact .inr (.inl hy))
  have h2:∀ y,y∈hi.toList→ev t y=ev t2 y:=fun y hy=>h y (by simp only[AOp.opds,List.mem_cons,List.mem_append]; exact .inr (.inr hy))
  simp only[stepA,h x (by simp[AOp.opds]),Zvf h1 h2]
 | slSl k x lo hi mx=>
  have h1:∀ y,y∈lo.toList→ev t y=ev t2 y:=fun y hy=>h y (by simp only[AOp.opds,List.mem_cons,List.mem_append]; exact .inr (.inl (.inl hy)))
  have h2:∀ y,y∈hi.toList→ev t y=ev t2 y:=fun y hy=>h y (by simp only[AOp.opds,List.mem_cons,List.mem_append]; exact .inr (.inl (.inr hy)))
  have h3:∀ y,y∈mx.toList→ev t y=ev t2 y:=fun y hy=>h y (by simp only[AOp.opds,List.mem_cons,List.mem_append]; exact .inr (.inr hy))
  cases mx with
  | none=>
   simp only[stepA,h x (by simp[AOp.opds])]
   cases ev t2 x<;>simp only[Zvf h1 h2]
  | some z=>
   simp only[stepA,h x (by simp[AOp.opds]),Zl3 h1,Zl3 (o:=some z) (fun y hy=>h3 y hy)]
   cases hi with
   | none=>cases U9 (ev t2 x)<;>cases H0 t2 0 (some z)<;>cases H0 t2 0 lo<;>rfl
   | some q=>
    have hq:=h2 q (by simp)
    cases U9 (ev t2 x)<;>cases H0 t2 0 (some z)<;>cases H0 t2 0 lo<;>simp only[hq]
 | slArr n k x lo hi=>rfl
 | call f xs=>rfl
 | alloc z=>rfl
 | mkMap=>rfl
 | lenArr n=>rfl
 | capSl x=>rfl
 | dead=>rfl
 | mapEnt kt z a b=>rfl
 | entSt a b c=>rfl
 | delete kt a b=>rfl
 | range a=>rfl
 | nextS a=>rfl
 | nextM a=>rfl
 | appendZ k b z s x=>rfl
 | mov x=>simp only[stepA,h x (by simp[AOp.opds])]
 | box x=>simp only[stepA,h x (by simp[AOp.opds])]
 | load n x=>simp only[stepA,h x (by simp[AOp.opds])]
 | nilChk x=>simp only[stepA,h x (by simp[AOp.opds])]
 | un op x=>simp only[stepA,h x (by simp[AOp.opds])]
 | convInt k x=>simp only[stepA,h x (by simp[AOp.opds])]
 | convId x=>simp only[stepA,h x (by simp[AOp.opds])]
 | toStr x=>simp only[stepA,h x (by simp[AOp.opds])]
 | fieldA off x=>simp only[stepA,h x (by simp[AOp.opds])]
 | field off n x=>simp only[stepA,h x (by simp[AOp.opds])]
 | ext x i=>simp only[stepA,h x (by simp[AOp.opds])]
 | lenStr x=>simp only[stepA,h x (by simp[AOp.opds])]
 | lenSl x=>simp only[stepA,h x (by simp[AOp.opds])]
 | lenMap x=>simp only[stepA,h x (by simp[AOp.opds])]
 | iface ty x=>simp only[stepA,h x (by simp[AOp.opds])]
 | clear k z x=>simp only[stepA,h x (by simp[AOp.opds])]
 | pick c a b=>simp only[stepA,h c (by simp[AOp.opds]),h a (by simp[AOp.opds]),h b (by simp[AOp.opds])]
 | store n a x=>simp only[stepA,h a (by simp[AOp.opds]),h x (by simp[AOp.opds])]
 | bin op e a x=>simp only[stepA,h a (by simp[AOp.opds]),h x (by simp[AOp.opds])]
 | makeSl k b z a x=>simp only[stepA,h a (by simp[AOp.opds]),h x (by simp[AOp.opds])]
 | idxA k a x=>simp only[stepA,h a (by simp[AOp.opds]),h x (by simp[AOp.opds])]
 | idxAA n k a x=>simp only[stepA,h a (by simp[AOp.opds]),h x (by simp[AOp.opds])]
 | idxStr a x=>simp only[stepA,h a (by simp[AOp.opds]),h x (by simp[AOp.opds])]
 | idxArr n k sz a x=>simp only[stepA,h a (by simp[AOp.opds]),h x (by simp[AOp.opds])]
 | lookup kt z ok a x=>simp only[stepA,h a (by simp[AOp.opds]),h x (by simp[AOp.opds])]
 | append k b z a x=>simp only[stepA,h a (by simp[AOp.opds]),h x (by simp[AOp.opds])]
 | copy k a x=>simp only[stepA,h a (by simp[AOp.opds]),h x (by simp[AOp.opds])]
 | mapUpd kt a b c=>simp only[stepA,h a (by simp[AOp.opds]),h b (by simp[AOp.opds]),h c (by simp[AOp.opds])]
theorem Ybg{t t2:List AVal}{f:AOpd}{xs:List AOpd}(h:∀ x,x∈(AOp.call f xs).opds→ev t x=ev t2 x):callee t f xs=callee t2 f xs:=by
 have h1:xs.map (ev t)=xs.map (ev t2):=Znp fun y hy=>h y (by simp only[AOp.opds,List.mem_cons]; exact .inr hy)
 simp only[callee,h f (by simp[AOp.opds]),h1]
def B9(p:Nat→Bool):Nat→Option Nat
 | 0=>none
 | n+1=>if p n then some n else B9 p n
theorem Zfk{p q:Nat→Bool}:∀ (n:Nat),(∀ j,j<n→p j=q j)→B9 p n=B9 q n
 | 0,_=>rfl
 | n+1,h=>by
  simp only[B9];rw[h n (Nat.lt_succ_self n),Zfk n fun j hj=>h j (Nat.lt_succ_of_lt hj)]
theorem Zsa{p:Nat→Bool}{i:Nat}(hi:p i=true):∀ (n:Nat),i<n→(∀ j,i<j→j<n→p j=false)→B9 p n=some i
 | 0,h,_=>absurd h (Nat.not_lt_zero _)
 | n+1,h,hj=>by
  simp only[B9];by_cases hin:i=n
  ·subst hin; rw[if_pos hi]
  ·rw[hj n (by omega) (Nat.lt_succ_self n)]
   simp only[bF,if_false];exact Zsa hi n (by omega) fun j h1 h2=>hj j h1 (by omega)
end Go.AE
end
section
namespace Go.AE
open Go.RowKit
theorem Z3k{P:Program}{f:FuncId}{args:List AVal}{id:Nat}{x:List Nat}{m m3:Mem}{v:AVal}(hid:id∉x)(hx3:∀ c,c∈x→m3.get c=none)(hn:m.next≤m3.next)
 (h:ACalls P f args (m.less x) [id] fun v' m''=>v'=v∧m''=m3) {m2:Mem} (hag:∀ c,c∉x→m2.get c=m.get c) (hnx:m2.next=m.next) :
 ACalls P f args m2 [id] fun v' m''=>v'=v∧m''=⟨fun c=>if c∈x then m2.get c else m3.get c,m3.next⟩:=by
 refine⟨h.1,fun W Φ ρ vs w hr ha hav=>?_⟩
 have hfr:∀ B,(∃ c l,c∈x∧(∃ y,m2.get c=some y)∧ρ c=some l∧l.blk=B) ∨ ¬(∃ c l,c∈x∧(∃ y,m2.get c=some y)∧ρ c=some l∧l.blk=B):=fun B=>Classical.em _
 have hg:∃ g:Nat→Option Obj,∀ B,((∃ c l,c∈x∧(∃ y,m2.get c=some y)∧ρ c=some l∧l.blk=B)→g B=w.heap[B]?)∧(¬(∃ c l,c∈x∧(∃ y,m2.get c=some y)∧ρ c=some l∧l.blk=B)→g B=W.g B):=by
  refine⟨fun B=>@ite _ (∃ c l,c∈x∧(∃ y,m2.get c=some y)∧ρ c=some l∧l.blk=B) (Classical.propDecidable _) (w.heap[B]?) (W.g B),fun B=>⟨fun h=>?_,fun h=>?_⟩⟩
  ·simp only[h,if_true]
  ·simp only[h,if_false]
 obtain⟨g,hg⟩:=hg
 let W':Base:=⟨W.w,g,Φ⟩
 have hfree2:∀ B,W'.Free B→W.Free B:=by
  intro B hB;refine⟨hB.1,?_⟩;rcases hfr B with h1|h1
  ·obtain⟨c,l,hc,⟨y,hy⟩,hl,hlB⟩:=h1;obtain⟨l',o,g1,g2,_⟩:=hr.live c y hy;rw[hl]at g1; injection g1 with g1; subst g1
   rw[← hlB]; exact g2.2
  ·have:=(hg B).2 h1;have h2:g B=none:=hB.2;rw[this]at h2; exact h2
 have hprot:∀ B o,g B=some o→w.heap[B]? = some o:=by
  intro B o hB;rcases hfr B with h1|h1
  ·rw[(hg B).1 h1]at hB; exact hB
  ·rw[(hg B).2 h1]at hB; exact hr.base.prot B o hB
 have hr1:Rel W' Φ ρ (m.less x) w:=by
  refine⟨⟨hr.base.below,hprot⟩,hr.pers,fun b y hy=>?_,fun b b' y y' l l' h1 h2=>?_,fun b l hb=>by have:=hr.fresh b l hb; rw[hnx]at this; exact this,fun B c hB=>.inl hB⟩
  ·simp only[Mem.less]at hy;by_cases hbx:b∈x
   ·rw[if_pos hbx]at hy; cases hy
   ·rw[if_neg hbx,← hag b hbx]at hy;obtain⟨l,o,g1,g2,g3,g4,g5⟩:=hr.live b y hy;refine⟨l,o,g1,⟨g2.1,?_⟩,g3,g4,g5⟩;rcases hfr l.blk with h1|h1
    ·obtain⟨c,l',hc,⟨y',hy'⟩,hl,hlB⟩:=h1;have:=hr.inj c b y' y l' l hy' hy hl g1 hlB;exact absurd (this ▸ hc) hbx
    ·show g l.blk=none;rw[(hg _).2 h1]; exact g2.2
  ·simp only[Mem.less]at h1 h2;by_cases hbx:b∈x
   ·rw[if_pos hbx]at h1; cases h1
   ·by_cases hbx':b'∈x
    ·rw[if_pos hbx']at h2; cases h2
    ·rw[if_neg hbx,← hag b hbx]at h1;rw[if_neg hbx',← hag b' hbx']at h2;exact hr.inj b b' y y' l l' h1 h2
 refine(h.2 W' Φ ρ vs w hr1 ha (fun b hb=>⟨(hav b hb).1,by have:=(hav b hb).2; rw[hnx]at this; exact this⟩)).mono fun e w' he=>?_
 obtain⟨u,r,m4,Φ',ρ',e1,hE,hk,hr',hR,hn',hK1,hK2⟩:=he;subst hK2;refine⟨u,r,_,Φ',ρ',e1,hE,fun b hb=>hk b (by rw[hnx]at hb; exact hb),?_,hR,by rw[hnx]; exact hn,hK1,rfl⟩
 have hframed:∀ c l y,c∈x→m2.get c=some y→ρ c=some l→g l.blk=w.heap[l.blk]?:=fun c l y hc hy hl=>(hg _).1 ⟨c,l,hc,⟨y,hy⟩,hl,rfl⟩
 have hlive:∀ c y,c∈x→m2.get c=some y → ∃ l o,ρ' c=some l∧ρ c=some l∧W.Free l.blk∧g l.blk=some o∧Φ' l.blk=none∧w'.heap[l.blk]? = some o∧BR Φ' ρ' y l o:=by
  intro c y hc hy;obtain⟨l,o,g1,g2,g3,g4,g5⟩:=hr.live c y hy;have hgl:g l.blk=some o:=by rw[hframed c l y hc hy g1]; exact g4
  refine⟨l,o,hE.rho _ _ g1,g1,g2,hgl,?_,hr'.base.prot _ _ hgl,g5.ext hE⟩;cases hp:Φ' l.blk with
  | none=>rfl
  | some cc=>
   rcases hr'.newp _ _ hp with h1|h1
   ·have h1':Φ l.blk=some cc:=h1;rw[g3]at h1'; cases h1'
   ·have:g l.blk=none:=h1.2;rw[hgl]at this; cases this
 refine⟨⟨hr'.base.below,fun B o hB=>hr'.base.prot B o ?_⟩,hr'.pers,fun b y hy=>?_,fun b b' y y' l l' h1 h2 k1 k2 he=>?_,hr'.fresh,fun B c hB=>?_⟩
 ·rcases hfr B with h1|h1
  ·show g B=some o;rw[(hg B).1 h1]; exact hr.base.prot B o hB
  ·show g B=some o;rw[(hg B).2 h1]; exact hB
 ·simp only at hy;by_cases hbx:b∈x
  ·rw[if_pos hbx]at hy;obtain⟨l,o,q1,_,q3,_,q5,q6,q7⟩:=hlive b y hbx hy;exact⟨l,o,q1,q3,q5,q6,q7⟩
  ·rw[if_neg hbx]at hy;obtain⟨l,o,g1,g2,g3,g4,g5⟩:=hr'.live b y hy;exact⟨l,o,g1,hfree2 _ g2,g3,g4,g5⟩
 ·simp only at h1 h2;by_cases hbx:b∈x
  ·rw[if_pos hbx]at h1;obtain⟨l1,o1,q1,q2,_,q4,_⟩:=hlive b y hbx h1;rw[k1]at q1; injection q1 with q1; subst q1
   by_cases hbx':b'∈x
   ·rw[if_pos hbx']at h2;obtain⟨l2,o2,p1,p2,_,p4,_⟩:=hlive b' y' hbx' h2;rw[k2]at p1; injection p1 with p1; subst p1
    exact hr.inj b b' y y' l l' h1 h2 q2 p2 he
   ·rw[if_neg hbx']at h2;obtain⟨l2,o2,p1,p2,_,p4,_⟩:=hr'.live b' y' h2;rw[k2]at p1; injection p1 with p1; subst p1
    have:g l'.blk=none:=p2.2;rw[← he,q4]at this; cases this
  ·rw[if_neg hbx]at h1;obtain⟨l1,o1,q1,q2,_,q4,_⟩:=hr'.live b y h1;rw[k1]at q1; injection q1 with q1; subst q1
   by_cases hbx':b'∈x
   ·rw[if_pos hbx']at h2;obtain⟨l2,o2,p1,p2,_,p4,_⟩:=hlive b' y' hbx' h2;rw[k2]at p1; injection p1 with p1; subst p1
    have:g l.blk=none:=q2.2;rw[he,p4]at this; cases this
   ·rw[if_neg hbx']at h2;exact hr'.inj b b' y y' l l' h1 h2 k1 k2 he
 ·rcases hr'.newp B c hB with h1|h1
  ·exact hr.newp B c h1
  ·exact .inr (hfree2 B h1)
end Go.AE
end
