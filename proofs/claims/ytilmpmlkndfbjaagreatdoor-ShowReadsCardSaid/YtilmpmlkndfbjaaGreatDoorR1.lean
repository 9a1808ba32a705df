/- Part 1 of the proof: AeA, AeB, AeC, AeD, AeE, AeF, AeG, AeH, AeI, AeJ, AeK, AeL, AeM, AeN, AeO, AeP, AeQ, AeR, AeS, AeLoc, AeT, AeU, AeFr. -/
import Derived.WalkKit
import Derived.Deep.LoopGhost
import Derived.Scope
import Derived.Laws.StructEq
import Derived.Lib.Strings
import Derived.IntWalk
import Derived.Laws.Small
set_option linter.all false
theorem oI{α}{a b:α}:(some a=some b)=(a=b):=Option.some.injEq a b
theorem pI2{α β}{a c:α}{b d:β}:((a,b)=(c,d))=(a=c∧b=d):=Prod.mk.injEq a b c d
theorem gE{α}{l:List α}{i:Nat}(h:i<l.length):l[i]?=some l[i]:=List.getElem?_eq_getElem h
theorem gS{α}{l:List α}{i:Nat}{a:α}:l[i]?=some a↔∃ h:i<l.length,l[i]=a:=List.getElem?_eq_some_iff
theorem bA(a b:Bool):((a&&b)=true)=(a=true∧b=true):=Bool.and_eq_true a b
theorem bF:(false=true)=False:=Bool.false_eq_true
section
namespace Go.AE
open Go.RowKit
inductive AVal where
 | bool (b:Bool)
 | int (k:IntKind) (n:Int)
 | str (s:List UInt8)
 | ptr (b i j:Nat)
 | iptr (els:List (List AVal)) (i j:Nat)
 | nilPtr
 | nilSl
 | emp
 | sl (b off len:Nat)
 | imm (els:List (List AVal))
 | map (b:Nat)
 | nilMap
 | func (fn:Fn) (first captured:List AVal)
 | nilFunc
 | yld (b:Nat)
 | atLeast (n:Nat)
 | iface (t:TypeId) (v:AVal)
 | nilIface
 | agg (cs:List AVal)
 | tuple (vs:List AVal)
 | bot
 deriving Inhabited
inductive ABlk where
 | cells (k:Nat) (els:List (List AVal))
 | map (es:List (AVal×AVal×Nat)) (clock:Nat)
 | siter (s:List UInt8) (pos:Nat)
 | miter (m:Option Nat) (since:Nat) (seen:List Nat) (stepped:Nat)
 deriving Inhabited
structure Mem where
 get:Nat→Option ABlk
 next:Nat
@[ext] theorem Mem.ext'{m m' : Mem}(a : ∀ b, m.get b = m'.get b)(c : m.next = m'.next) : m = m' := by
 cases m; cases m'; simp only[Mem.mk.injEq]; exact⟨funext a,c⟩
def Mem.set(m:Mem)(b:Nat)(x:ABlk):Mem:={ m with get:=fun c=>if c=b then some x else m.get c }
def Mem.del(m:Mem)(b:Nat):Mem:={ m with get:=fun c=>if c=b then none else m.get c }
def Mem.at(m:Mem)(n:Nat):Mem:={ m with next:=n }
@[simp] theorem Mem.get_set(m : Mem)(b c : Nat)(x : ABlk) : (m.set b x).get c = if c = b then some x else m.get c := rfl
@[simp] theorem Mem.get_del(m : Mem)(b c : Nat) : (m.del b).get c = if c = b then none else m.get c := rfl
@[simp] theorem Mem.get_at(m : Mem)(n c : Nat) : (m.at n).get c = m.get c := rfl
@[simp] theorem Mem.next_set(m : Mem)(b : Nat)(x : ABlk) : (m.set b x).next = m.next := rfl
@[simp] theorem Mem.next_del(m : Mem)(b : Nat) : (m.del b).next = m.next := rfl
@[simp] theorem Mem.next_at(m : Mem)(n : Nat) : (m.at n).next = n := rfl
@[simp] theorem Mem.at_at(m : Mem)(n k : Nat) : (m.at n).at k = m.at k := rfl
@[simp] theorem Mem.at_next(m : Mem) : m.at m.next = m := rfl
abbrev Pers:=Nat→Option (Array Value)
structure Loc where
 blk:Nat
 sh:Nat
 k:Nat
 n:Nat
abbrev Rho:=Nat→Option Loc
inductive R (Φ:Pers) (ρ:Rho):AVal→Value→Prop where
 | bool (b:Bool):R Φ ρ (.bool b) (.bool b)
 | int (k:IntKind) (n:Int):R Φ ρ (.int k n) (.int k n)
 | str (s:List UInt8):R Φ ρ (.str s) (.string ⟨⟨s⟩⟩)
 | ptr (b i j:Nat) (l:Loc) (h:ρ b=some l):R Φ ρ (.ptr b i j) (.pointer (some ⟨l.blk,(l.sh+i)*l.k+j,none⟩))
 | iptr (els:List (List AVal)) (i j B o k:Nat) (c:Array Value) (f:Nat→Nat→Value) (hB:Φ B=some c)
  (hk:∀ (i:Nat) (row:List AVal),els[i]? = some row→row.length=k)
  (hc:∀ (i:Nat) (row:List AVal) (j:Nat) (x:AVal),els[i]? = some row→row[j]? = some x→c[o+i*k+j]? = some (f i j)∧(f i j).oneCell'=true)
  (hr:∀ (i:Nat) (row:List AVal) (j:Nat) (x:AVal),els[i]? = some row→row[j]? = some x→R Φ ρ x (f i j)) :
  R Φ ρ (.iptr els i j) (.pointer (some ⟨B,o+i*k+j,none⟩))
 | nilPtr:R Φ ρ .nilPtr (.pointer none)
 | nilSl:R Φ ρ .nilSl (.slice none 0 0)
 | emp (a:Option Addr):R Φ ρ .emp (.slice a 0 0)
 | sl (b off len:Nat) (a:Option Addr) (cap:Nat) (l:Loc) (h:ρ b=some l) (hl:len≤cap) (hn:l.sh+off+cap=l.n)
  (hc:0<cap→a=some ⟨l.blk,(l.sh+off)*l.k,none⟩) (ha:a.isSome=true):R Φ ρ (.sl b off len) (.slice a len cap)
 | imm0 (a:Option Addr) (cap:Nat) (h:0<cap → ∃ B o,a=some ⟨B,o,none⟩):R Φ ρ (.imm []) (.slice a 0 cap)
 | imm (els:List (List AVal)) (B o k cap:Nat) (c:Array Value) (f:Nat→Nat→Value) (hne:els≠[]) (hcap:els.length≤cap) (hB:Φ B=some c)
  (hk:∀ (i:Nat) (row:List AVal),els[i]? = some row→row.length=k)
  (hc:∀ (i:Nat) (row:List AVal) (j:Nat) (x:AVal),els[i]? = some row→row[j]? = some x→c[o+i*k+j]? = some (f i j)∧(f i j).oneCell'=true)
  (hr:∀ (i:Nat) (row:List AVal) (j:Nat) (x:AVal),els[i]? = some row→row[j]? = some x→R Φ ρ x (f i j)) :
  R Φ ρ (.imm els) (.slice (some ⟨B,o,none⟩) els.length cap)
 | map (b:Nat) (l:Loc) (h:ρ b=some l):R Φ ρ (.map b) (.map (some l.blk))
 | nilMap:R Φ ρ .nilMap (.map none)
 | func (fn:Fn) (fs cs:List AVal) (vf vc:Array Value) (hf:vf.size=fs.length) (hc:vc.size=cs.length)
  (hfr:∀ (i:Nat) (x:AVal) (v:Value),fs[i]? = some x→vf[i]? = some v→R Φ ρ x v) (hcr:∀ (i:Nat) (x:AVal) (v:Value),cs[i]? = some x→vc[i]? = some v→R Φ ρ x v) :
  R Φ ρ (.func fn fs cs) (.func fn vf vc)
 | nilFunc:R Φ ρ .nilFunc .nilFunc
 | yld (b:Nat) (l:Loc) (h:ρ b=some l):R Φ ρ (.yld b) (.func (.yield l.blk) #[] #[])
 | atLeast (n c:Nat) (h:n≤c):R Φ ρ (.atLeast n) (.int .i64 c)
 | iface (t:TypeId) (x:AVal) (v:Value) (h:R Φ ρ x v):R Φ ρ (.iface t x) (.iface t v)
 | nilIface:R Φ ρ .nilIface .nilIface
 | agg (cs:List AVal) (vs:Array Value) (hs:vs.size=cs.length) (hr:∀ (i:Nat) (x:AVal) (v:Value),cs[i]? = some x→vs[i]? = some v→R Φ ρ x v):R Φ ρ (.agg cs) (.agg vs)
 | tuple (cs:List AVal) (vs:Array Value) (hs:vs.size=cs.length) (hr:∀ (i:Nat) (x:AVal) (v:Value),cs[i]? = some x→vs[i]? = some v→R Φ ρ x v):R Φ ρ (.tuple cs) (.tuple vs)
 | bot (v:Value):R Φ ρ .bot v
def RL(Φ:Pers)(ρ:Rho)(xs:List AVal)(vs:Array Value):Prop:=vs.size=xs.length ∧ ∀(i:Nat) (x:AVal) (v:Value),xs[i]? = some x→vs[i]? = some v→R Φ ρ x v
structure Ext (Φ:Pers) (ρ:Rho) (Φ':Pers) (ρ':Rho):Prop where
 pers:∀ B c,Φ B=some c→Φ' B=some c
 rho:∀ b l,ρ b=some l→ρ' b=some l
theorem Ext.refl(Φ:Pers)(ρ:Rho):Ext Φ ρ Φ ρ:=⟨fun _ _ h=>h,fun _ _ h=>h⟩
theorem Ext.trans{Φ e a:Pers}{ρ ρ' d:Rho}(h:Ext Φ ρ e ρ')(f:Ext e ρ' a d):Ext Φ ρ a d:=
 ⟨fun B c x=>f.pers B c (h.pers B c x),fun b l x=>f.rho b l (h.rho b l x)⟩
theorem R.ext{Φ p:Pers}{ρ ρ':Rho}(g:Ext Φ ρ p ρ'){x:AVal}{v:Value}(h:R Φ ρ x v):R p ρ' x v:=by
 induction h with
 | bool b=>exact .bool b
 | int k n=>exact .int k n
 | str s=>exact .str s
 | ptr b i j l h=>exact .ptr b i j l (g.rho _ _ h)
 | iptr els i j B o k c f q r e _ d=>exact .iptr els i j B o k c f (g.pers _ _ q) r e d
 | nilPtr=>exact .nilPtr
 | nilSl=>exact .nilSl
 | emp a=>exact .emp a
 | sl b off len a cap l h E F e C=>exact .sl b off len a cap l (g.rho _ _ h) E F e C
 | imm0 a cap h=>exact .imm0 a cap h
 | imm els B o k cap c f u m q r e _ d=>exact .imm els B o k cap c f u m (g.pers _ _ q) r e d
 | map b l h=>exact .map b l (g.rho _ _ h)
 | nilMap=>exact .nilMap
 | func fn A cs H G D e _ _ y z=>exact .func fn A cs H G D e y z
 | nilFunc=>exact .nilFunc
 | yld b l h=>exact .yld b l (g.rho _ _ h)
 | atLeast n c h=>exact .atLeast n c h
 | iface t x v _ d=>exact .iface t x v d
 | nilIface=>exact .nilIface
 | agg cs vs w _ d=>exact .agg cs vs w d
 | tuple cs vs w _ d=>exact .tuple cs vs w d
 | bot v=>exact .bot v
theorem RL.ext{Φ a:Pers}{ρ ρ':Rho}(b:Ext Φ ρ a ρ'){xs:List AVal}{vs:Array Value}(h:RL Φ ρ xs vs):RL a ρ' xs vs:=
 ⟨h.1,fun i x v d c=>(h.2 i x v d c).ext b⟩
def RowsIn(Φ:Pers)(ρ:Rho)(els:List (List AVal))(sh k:Nat)(c:Array Value):Prop:=
 (∀(i:Nat) (row:List AVal),els[i]? = some row→row.length=k) ∧
 ∀(i:Nat) (row:List AVal) (j:Nat) (x:AVal),els[i]? = some row→row[j]? = some x → ∃ v,c[(sh+i)*k+j]? = some v∧v.oneCell'=true∧R Φ ρ x v
inductive BR (Φ:Pers) (ρ:Rho):ABlk→Loc→Obj→Prop where
 | cells (k:Nat) (els:List (List AVal)) (l:Loc) (c:Array Value) (e:TypeId) (hk:l.k=k) (hn:c.size=l.n*k) (hl:l.sh+els.length≤l.n)
  (hr:RowsIn Φ ρ els l.sh k c) (h1:∀ v,v∈c.toList→v.oneCell'=true):BR Φ ρ (.cells k els) l (.cells c e (0,0))
 | map (es:List (AVal×AVal×Nat)) (clock:Nat) (l:Loc) (en:Array MapEntry) (hs:en.size=es.length)
  (hr:∀ (i:Nat) (x:AVal×AVal×Nat),es[i]? = some x → ∃ y:MapEntry,en[i]? = some y∧R Φ ρ x.1 y.key∧R Φ ρ x.2.1 y.val∧y.born=x.2.2):BR Φ ρ (.map es clock) l (.map en clock)
 | siter (s:List UInt8) (pos:Nat) (l:Loc):BR Φ ρ (.siter s pos) l (.stringIter ⟨⟨s⟩⟩ pos)
 | miter0 (since:Nat) (seen:List Nat) (stepped:Nat) (l:Loc):BR Φ ρ (.miter none since seen stepped) l (.mapIter none since seen.toArray stepped)
 | miter (m:Nat) (lm:Loc) (since:Nat) (seen:List Nat) (stepped:Nat) (l:Loc) (h:ρ m=some lm) (h0:l.sh*l.k=0) :
  BR Φ ρ (.miter (some m) since seen stepped) l (.mapIter (some lm.blk) since seen.toArray stepped)
theorem RowsIn.ext{Φ a:Pers}{ρ ρ':Rho}(e:Ext Φ ρ a ρ'){els:List (List AVal)}{sh k:Nat}{c:Array Value}(h:RowsIn Φ ρ els sh k c):RowsIn a ρ' els sh k c:=
 ⟨h.1,fun i row j x b d=>let ⟨v,h3,h5,h4⟩:=h.2 i row j x b d; ⟨v,h3,h5,h4.ext e⟩⟩
theorem BR.ext{Φ f:Pers}{ρ ρ':Rho}(g:Ext Φ ρ f ρ'){x:ABlk}{l:Loc}{o:Obj}(h:BR Φ ρ x l o):BR f ρ' x l o:=by
 cases h with
 | cells k els l c e r u t n j=>exact .cells k els l c e r u t (n.ext g) j
 | map p d l en v n=>exact .map p d l en v fun i x w=>let ⟨y,j,h2,h3,h4⟩:=n i x w; ⟨y,j,h2.ext g,h3.ext g,h4⟩
 | siter s pos l=>exact .siter s pos l
 | miter0 a b c l=>exact .miter0 a b c l
 | miter m z a b c l h q=>exact .miter m z a b c l (g.rho _ _ h) q
structure Base where
 w:World
 g:Nat→Option Obj
 p:Pers
def Base.Free(W:Base)(B:Nat):Prop:=W.w.heap.size≤B∧W.g B=none
structure Base.Holds (W:Base) (w:World):Prop where
 below:Below W.w.heap.size W.w w
 prot:∀ B o,W.g B=some o→w.heap[B]? = some o
theorem D5{w:World}{B:Nat}{o:Obj}(h:w.heap[B]? = some o):B<w.heap.size:=by
 rcases Nat.lt_or_ge B w.heap.size with a|a
 ·exact a
 ·rw[Array.getElem?_eq_none a]at h; cases h
theorem Base.Holds.trans{W:Base}{w w':World}(h:W.Holds w)(a:Below w.heap.size w w'):W.Holds w':=
 ⟨h.below.trans (a.mono h.below.size),fun B o c=>by
  have b:=h.prot B o c;rw[a.block B (D5 b)]; exact b⟩
theorem Base.Holds.drew{W:Base}{w:World}(h:W.Holds w):W.Holds w.drew:=⟨h.below.drew,h.prot⟩
structure Rel (W:Base) (Φ:Pers) (ρ:Rho) (m:Mem) (w:World):Prop where
 base:W.Holds w
 pers:∀ B c,Φ B=some c → ∃ e fz,w.heap[B]? = some (.cells c e fz)
 live:∀ b x,m.get b=some x → ∃ l o,ρ b=some l∧W.Free l.blk∧Φ l.blk=none∧w.heap[l.blk]? = some o∧BR Φ ρ x l o
 inj:∀ b b' x x' l l',m.get b=some x→m.get b'=some x'→ρ b=some l→ρ b'=some l'→l.blk=l'.blk→b=b'
 fresh:∀ b l,ρ b=some l→b<m.next
 newp:∀ B c,Φ B=some c→W.p B=some c∨W.Free B
theorem Rel.drew{W:Base}{Φ:Pers}{ρ:Rho}{m:Mem}{w:World}(h:Rel W Φ ρ m w):Rel W Φ ρ m w.drew:=
 ⟨h.base.drew,h.pers,h.live,h.inj,h.fresh,h.newp⟩
theorem Rel.below{W:Base}{Φ:Pers}{ρ:Rho}{m:Mem}{w w':World}(h:Rel W Φ ρ m w)(i:Below w.heap.size w w'):Rel W Φ ρ m w':=by
 have a:∀ (B:Nat) (o:Obj),w.heap[B]? = some o→w'.heap[B]? = some o:=fun B o d=>by
  have g:B<w.heap.size:=by
   rcases Nat.lt_or_ge B w.heap.size with f|f
   ·exact f
   ·rw[Array.getElem?_eq_none f]at d; cases d
  rw[i.block B g]; exact d
 refine⟨h.base.trans i,fun B c g=>?_,fun b x r=>?_,h.inj,h.fresh,h.newp⟩
 ·obtain⟨e,fz,d⟩:=h.pers B c g;exact⟨e,fz,a _ _ d⟩
 ·obtain⟨l,o,j,k,n,p,q⟩:=h.live b x r;exact⟨l,o,j,k,n,a _ _ p,q⟩
structure Mem.Sub (m' m:Mem):Prop where
 get:∀ b x,m'.get b=some x→m.get b=some x
 next:m.next≤m'.next
theorem Mem.Sub.refl(m:Mem):Mem.Sub m m:=⟨fun _ _ h=>h,Nat.le_refl _⟩
theorem Mem.Sub.trans{a b c:Mem}(h:Mem.Sub a b)(e:Mem.Sub b c):Mem.Sub a c:=⟨fun d x f=>e.get d x (h.get d x f),Nat.le_trans e.next h.next⟩
theorem Rel.sub{W:Base}{Φ:Pers}{ρ:Rho}{m m':Mem}{w:World}(h:Rel W Φ ρ m w)(a:Mem.Sub m' m):Rel W Φ ρ m' w:=
 ⟨h.base,h.pers,fun b x f=>h.live b x (a.get b x f),fun b b' x g l l' c d=>h.inj b b' x g l l' (a.get _ _ c) (a.get _ _ d),fun b l e=>Nat.lt_of_lt_of_le (h.fresh b l e) a.next,h.newp⟩
theorem Rel.cut{W:Base}{Φ:Pers}{ρ:Rho}{m m':Mem}{w:World}(h:Rel W Φ ρ m w)(a:Rho)(e:∀ b l,a b=some l→ρ b=some l)(n:∀ b l,a b=some l→b<m'.next)
 (p:∀ b x,m'.get b=some x → ∃ l o,a b=some l∧W.Free l.blk∧Φ l.blk=none∧w.heap[l.blk]? = some o∧BR Φ a x l o)
 (f:∀ b x,m'.get b=some x → ∃ d,m.get b=some d):Rel W Φ a m' w:=
 ⟨h.base,h.pers,p,fun b b' x d l l' g i j k=>by
  obtain⟨y,q⟩:=f b x g;obtain⟨r,c⟩:=f b' d i;exact h.inj b b' y r l l' q c (e _ _ j) (e _ _ k),n,h.newp⟩
end Go.AE
end
section
namespace Go.AE
open Go.RowKit
inductive AOpd where
 | tmp (t:Nat)
 | const (v:AVal)
 | fn (f:FuncId)
 deriving Inhabited
inductive KeyT where
 | int
 | str
 | bool
 deriving DecidableEq,Inhabited
inductive EqT where
 | num
 | bool
 | slice
 | func
 | map
 | ptr
 | flat (ks:List KeyT)
 deriving Inhabited
inductive AOp where
 | mov (x:AOpd)
 | pick (c a b:AOpd)
 | box (x:AOpd)
 | alloc (zero:List AVal)
 | build (zero:List AVal) (parts:List (Nat×Nat×AOpd))
 | mkSl (k len:Nat) (zero:List AVal) (parts:List (Nat×AOpd))
 | load (n:Option Nat) (x:AOpd)
 | store (n:Nat) (a x:AOpd)
 | nilChk (x:AOpd)
 | bin (op:BinOp) (e:EqT) (x y:AOpd)
 | un (op:UnOp) (x:AOpd)
 | convInt (k:IntKind) (x:AOpd)
 | convId (x:AOpd)
 | toStr (x:AOpd)
 | mkFunc (fn:Fn) (first captured:List AOpd)
 | mkMap
 | makeSl (k bytes:Nat) (zero:List AVal) (len cap:AOpd)
 | slStr (x:AOpd) (lo hi:Option AOpd)
 | slSl (k:Nat) (x:AOpd) (lo hi mx:Option AOpd)
 | slArr (n k:Nat) (x:AOpd) (lo hi:Option AOpd)
 | fieldA (off:Nat) (x:AOpd)
 | field (off:Nat) (n:Option Nat) (x:AOpd)
 | idxA (k:Nat) (x i:AOpd)
 | idxAA (n k:Nat) (x i:AOpd)
 | idxStr (x i:AOpd)
 | idxArr (n k:Nat) (sz:Option Nat) (x i:AOpd)
 | lookup (kt:KeyT) (zero:AVal) (ok:Bool) (x i:AOpd)
 | mapUpd (kt:KeyT) (m k v:AOpd)
 | mapEnt (kt:KeyT) (zero:AVal) (m k:AOpd)
 | entSt (m s v:AOpd)
 | delete (kt:KeyT) (m k:AOpd)
 | range (x:AOpd)
 | nextS (x:AOpd)
 | nextM (x:AOpd)
 | ext (x:AOpd) (i:Nat)
 | call (f:AOpd) (args:List AOpd)
 | append (k bytes:Nat) (zero:List AVal) (s x:AOpd)
 | appendZ (k bytes:Nat) (zero:List AVal) (s x:AOpd)
 | copy (k:Nat) (d s:AOpd)
 | clear (k:Nat) (zero:List AVal) (x:AOpd)
 | lenStr (x:AOpd)
 | lenSl (x:AOpd)
 | lenMap (x:AOpd)
 | lenArr (n:Nat)
 | capSl (x:AOpd)
 | minmax (mx:Bool) (xs:List AOpd)
 | iface (t:TypeId) (x:AOpd)
 | dead
 deriving Inhabited
structure AOper where
 dst:Option Nat
 op:AOp
 guard:Option (Nat×Bool)
 un:List Nat
 deriving Inhabited
inductive ACode where
 | skip
 | region (draw:Bool) (ops:List AOper)
 | seq (a b:ACode)
 | cond (c:AOpd) (a b:ACode)
 | block (id:Nat) (c:ACode)
 | loop (c:ACode)
 | exit (id:Nat)
 | scope (c:ACode)
 | label (l:Nat)
 | ret
 | bad
 deriving Inhabited
structure AFn where
 ntmps:Nat
 results:List (Nat×Option (Option Nat))
 body:ACode
 deriving Inhabited
def AOp.opds:AOp→List AOpd
 | .mov x | .box x | .load _ x | .nilChk x | .un _ x | .convInt _ x | .convId x | .toStr x | .fieldA _ x | .field _ _ x | .range x | .nextS x | .nextM x | .ext x _ | .lenStr x | .lenSl x | .lenMap x | .iface _ x | .clear _ _ x | .capSl x=>[x]
 | .pick c a b=>[c,a,b]
 | .alloc _ | .mkMap | .lenArr _ | .dead=>[]
 | .build _ ps=>ps.map fun p=>p.2.2
 | .mkSl _ _ _ ps=>ps.map fun p=>p.2
 | .store _ a x | .bin _ _ a x | .makeSl _ _ _ a x | .idxA _ a x | .idxAA _ _ a x | .idxStr a x | .idxArr _ _ _ a x | .lookup _ _ _ a x | .mapEnt _ _ a x | .delete _ a x | .append _ _ _ a x | .appendZ _ _ _ a x | .copy _ a x=>[a,x]
 | .mkFunc _ a b=>a++b
 | .slStr x l h | .slArr _ _ x l h=>x :: (l.toList++h.toList)
 | .slSl _ x l h m=>x :: (l.toList++h.toList++m.toList)
 | .mapUpd _ a b c | .entSt a b c=>[a,b,c]
 | .call f xs=>f :: xs
 | .minmax _ xs=>xs
def AOp.kind:AOp→Nat
 | .mov _ | .pick _ _ _ | .build _ _ | .nilChk _ | .bin _ _ _ _ | .un _ _ | .convInt _ _ | .convId _ | .mkFunc _ _ _ | .slStr _ _ _ | .fieldA _ _ | .field _ _ _ | .idxAA _ _ _ _ | .idxStr _ _ | .idxArr _ _ _ _ _ | .ext _ _ | .lenStr _ | .lenSl _ | .lenArr _ | .minmax _ _ | .iface _ _ | .capSl _=>0
 | .load _ _ | .toStr _ | .slSl _ _ _ _ _ | .idxA _ _ _ | .lookup _ _ _ _ _ | .lenMap _=>1
 | .box _ | .alloc _ | .mkSl _ _ _ _ | .mkMap | .makeSl _ _ _ _ _=>2
 | _=>3
def aundef:AVal:=.tuple []
def ev(t:List AVal):AOpd→AVal
 | .tmp i=>t.getD i aundef
 | .const v=>v
 | .fn f=>.func (.func f) [] []
def put(t:List AVal)(d:Option Nat)(v:AVal):List AVal:=
 match d with
 | some d=>t.set d v
 | none=>t
def AVal.cells:AVal→Option (List AVal)
 | .agg cs=>some cs
 | .bot=>none
 | v=>some [v]
def AVal.one:AVal→Bool
 | .agg _ | .tuple _ | .bot=>false
 | _=>true
def T0(row:List AVal)(j:Nat):List AVal→List AVal
 | []=>row
 | v :: r=>T0 (row.set j v) (j+1) r
def H5:List AVal→List (Nat×Nat×AVal)→Option (List AVal)
 | cells,[]=>some cells
 | cells,(off,size,v) :: r=>
  match v.cells with
  | some cs=>if cs.length=size∧off+size≤cells.length then H5 (T0 cells off cs) r else none
  | none=>none
def L4(k:Nat):List (List AVal)→List (Nat×AVal)→Option (List (List AVal))
 | els,[]=>some els
 | els,(i,v) :: r=>
  match v.cells with
  | some cs=>if cs.length=k∧i<els.length∧cs.all AVal.one then L4 k (els.set i cs) r else none
  | none=>none
def Za9(m:Mem):AVal→Option (List AVal×Nat)
 | .ptr b i j=>match m.get b with
  | some (.cells _ els)=>match els[i]? with
   | some row=>some (row,j)
   | none=>none
  | _=>none
 | .iptr els i j=>match els[i]? with
  | some row=>some (row,j)
  | none=>none
 | _=>none
def Zc1(m:Mem)(n:Option Nat)(x:AVal):Option AVal:=
 match Za9 m x with
 | some (row,j)=>match n with
  | none=>row[j]?
  | some n=>if 0<n∧j+n≤row.length then some (.agg ((row.drop j).take n))else none
 | none=>none
def Ze6(m:Mem)(n:Nat)(x v:AVal):Option Mem:=
 match x,v.cells with
 | .ptr b i j,some cs=>match m.get b with
  | some (.cells k els)=>match els[i]? with
   | some row=>if cs.length=n∧j+n≤row.length∧cs.all AVal.one then some (m.set b (.cells k (els.set i (T0 row j cs))))else none
   | none=>none
  | _=>none
 | _,_=>none
def B3(kt:KeyT)(x y:AVal):Option Bool:=
 match kt,x,y with
 | .int,.int k a,.int k' b=>if k=k' then some (a == b)else none
 | .str,.str a,.str b=>some (a == b)
 | .bool,.bool a,.bool b=>some (a == b)
 | _,_,_=>none
def Zbl:List KeyT→List AVal→List AVal→Option Bool
 | [],[],[]=>some true
 | k :: ks,x :: xs,y :: ys=>match B3 k x y with
  | some true=>Zbl ks xs ys
  | some false=>some false
  | none=>none
 | _,_,_=>none
def D0(kt:KeyT)(k:AVal):List (AVal×AVal×Nat)→Option (Option (Nat×AVal×Nat))
 | []=>some none
 | (k',v,born) :: es=>match B3 kt k k' with
  | some true=>some (some (0,v,born))
  | some false=>match D0 kt k es with
   | some (some (i,r))=>some (some (i+1,r))
   | some none=>some none
   | none=>none
  | none=>none
def I1(m:Mem)(k:Nat):AVal→Option (List (List AVal))
 | .nilSl | .emp=>some []
 | .imm els=>if els.all (·.length == k)then some els else none
 | .sl b off len=>match m.get b with
  | some (.cells k' els)=>if k'=k∧off+len≤els.length then some ((els.drop off).take len)else none
  | _=>if len=0 then some []else none
 | _=>none
def Znc(c:UInt8):List AVal:=[.int .u8 c.toNat]
def N6(m:Mem)(k:Nat):AVal→Option (List (List AVal))
 | .str s=>if k=1 then some (s.map Znc)else none
 | x=>I1 m k x
def W2:AVal→Option Nat
 | .nilSl | .emp=>some 0
 | .imm els=>some els.length
 | .sl _ _ len=>some len
 | _=>none
def U5:AVal→Option Nat
 | .int _ n=>if 0≤n then some n.toNat else none
 | _=>none
def G8(t:List AVal)(d:Nat):Option AOpd→Option Nat
 | none=>some d
 | some x=>U5 (ev t x)
def W6:Nat:=1048576
def H2(id k bytes:Nat)(m:Mem)(s:AVal)(xs:List (List AVal)):Option (AVal×Mem):=
 match s with
 | .nilSl=>if xs=[]then some (.nilSl,m)else if xs.length≤W6∧bytes≤W6 then some (.sl id 0 xs.length,m.set id (.cells k xs))else none
 | .emp=>if xs=[]then some (.emp,m)else if xs.length≤W6∧bytes≤W6 then some (.sl id 0 xs.length,m.set id (.cells k xs))else none
 | .sl b off len=>match m.get b with
  | some (.cells k' els)=>
   if k'=k∧off+len≤els.length∧(els.length=off+len∨off+len+xs.length≤els.length)then
    if off+len+xs.length≤els.length then
     some (.sl b off (len+xs.length),m.set b (.cells k (els.take (off+len)++xs++els.drop (off+len+xs.length))))
    else if len+xs.length≤W6∧bytes≤W6 then
     some (.sl id 0 (len+xs.length),(m.del b).set id (.cells k ((els.drop off).take len++xs)))
    else none
   else none
  | _=>none
 | _=>none
def V6(op:BinOp)(k:IntKind)(a b:Int):Option AVal:=
 match op with
 | .add=>some (.int k (k.wrap (a+b)))
 | .sub=>some (.int k (k.wrap (a - b)))
 | .mul=>some (.int k (k.wrap (a*b)))
 | .quo=>if b=0 then none else some (.int k (k.wrap (a.tdiv b)))
 | .rem=>if b=0 then none else some (.int k (a.tmod b))
 | .and=>some (.int k (k.wrap (BitVec.ofInt k.bits a &&& BitVec.ofInt k.bits b).toNat))
 | .or=>some (.int k (k.wrap (BitVec.ofInt k.bits a ||| BitVec.ofInt k.bits b).toNat))
 | .xor=>some (.int k (k.wrap (BitVec.ofInt k.bits a ^^^ BitVec.ofInt k.bits b).toNat))
 | .andNot=>some (.int k (k.wrap (BitVec.ofInt k.bits a &&& ~~~(BitVec.ofInt k.bits b)).toNat))
 | .eql=>some (.bool (decide (a=b)))
 | .neq=>some (.bool (!decide (a=b)))
 | .lss=>some (.bool (decide (a<b)))
 | .leq=>some (.bool (decide (a≤b)))
 | .gtr=>some (.bool (decide (b<a)))
 | .geq=>some (.bool (decide (b≤a)))
 | _=>none
def Zbb(op:BinOp)(a b:List UInt8):Option AVal:=
 match op with
 | .add=>if a.length+b.length≤1099511627776 then some (.str (a++b))else none
 | .eql=>some (.bool (a == b))
 | .neq=>some (.bool (!(a == b)))
 | .lss=>some (.bool (Op.bytesLess a b))
 | .leq=>some (.bool (Op.bytesLess a b||a == b))
 | .gtr=>some (.bool (!(Op.bytesLess a b||a == b)))
 | .geq=>some (.bool (!Op.bytesLess a b))
 | _=>none
def G5:EqT→AVal→Option Bool
 | .slice,.nilSl=>some true
 | .slice,.sl _ _ _=>some false
 | .slice,.imm els=>if els.isEmpty then none else some false
 | .func,.nilFunc=>some true
 | .func,.func _ _ _=>some false
 | .map,.nilMap=>some true
 | .map,.map _=>some false
 | .ptr,.nilPtr=>some true
 | .ptr,.ptr _ _ _=>some false
 | .ptr,.iptr _ _ _=>some false
 | _,_=>none
def Zei(e:EqT)(x y:AVal):Option Bool:=
 match G5 e y with
 | some true=>G5 e x
 | _=>match G5 e x with
  | some true=>G5 e y
  | _=>none
def eqA(e:EqT)(x y:AVal):Option Bool:=
 match e with
 | .num=>none
 | .bool=>match x,y with
  | .bool a,.bool b=>some (a == b)
  | _,_=>none
 | .flat ks=>match x,y with
  | .agg xs,.agg ys=>Zbl ks xs ys
  | _,_=>none
 | e=>Zei e x y
def W7(op:BinOp)(e:EqT)(x y:AVal):Option AVal:=
 match op,x,y with
 | .shl,.int k a,.int _ b=>if b<0 then none else some (.int k (k.wrap (a*2 ^ (min b.toNat k.bits))))
 | .shr,.int k a,.int _ b=>if b<0 then none else some (.int k (a.fdiv (2 ^ (min b.toNat k.bits))))
 | op,.int k a,.int k' b=>if k=k' then V6 op k a b else none
 | op,.str a,.str b=>Zbb op a b
 | .eql,x,y=>match eqA e x y with
  | some b=>some (.bool b)
  | none=>none
 | .neq,x,y=>match eqA e x y with
  | some b=>some (.bool (!b))
  | none=>none
 | _,_,_=>none
def unA(op:UnOp)(x:AVal):Option AVal:=
 match op,x with
 | .neg,.int k n=>some (.int k (k.wrap (0 - n)))
 | .not,.bool b=>some (.bool (!b))
 | .xor,.int k n=>some (.int k (k.wrap (BitVec.ofInt k.bits (if k.signed then -1 else k.max) ^^^ BitVec.ofInt k.bits n).toNat))
 | _,_=>none
def Q5(off:Nat):AVal→Option AVal
 | .ptr b i j=>some (.ptr b i (j+off))
 | .iptr els i j=>some (.iptr els i (j+off))
 | _=>none
def Za7(cs:List AVal)(off:Nat):Option Nat→Option AVal
 | none=>cs[off]?
 | some n=>if off+n≤cs.length then some (.agg ((cs.drop off).take n))else none
def Zct(mx:Bool):AVal→List AVal→Option AVal
 | x,[]=>some x
 | .int k a,.int _ b :: r=>Zct mx (.int k (if mx then (if b > a then b else a)else (if b<a then b else a))) r
 | _,_=>none
def Zek:List (List AVal)→Option (List UInt8)
 | []=>some []
 | [.int .u8 n] :: r=>match Zek r with
  | some l=>some (UInt8.ofNat n.toNat :: l)
  | none=>none
 | _=>none
def K4(t:List AVal)(len mxlen:Nat)(lo hi:Option AOpd):Option (Nat×Nat):=
 match G8 t len hi with
 | some h=>if h≤mxlen then match G8 t 0 lo with
  | some l=>if l≤h then some (l,h)else none
  | none=>none
  else none
 | none=>none
def Y9:AVal→List Nat
 | .ptr b _ _ | .sl b _ _ | .map b=>[b]
 | _=>[]
def S4(id:Nat)(t:List AVal):AOp→List Nat
 | .append _ _ _ s _=>id :: Y9 (ev t s)
 | .copy _ d _=>Y9 (ev t d)
 | .store _ a _=>Y9 (ev t a)
 | .mapUpd _ m _ _=>Y9 (ev t m)
 | .clear _ _ x=>Y9 (ev t x)
 | .box _ | .alloc _ | .mkSl _ _ _ _ | .mkMap | .makeSl _ _ _ _ _=>[id]
 | _=>[]
def J0(t:List AVal):AOp→List Nat
 | .append _ _ _ _ x=>Y9 (ev t x)
 | .copy _ _ s=>Y9 (ev t s)
 | .load _ x | .toStr x | .lookup _ _ _ x _ | .lenMap x | .slSl _ x _ _ _ | .idxA _ x _=>Y9 (ev t x)
 | _=>[]
def stepA(id:Nat)(t:List AVal)(m:Mem):AOp→Option (AVal×Mem)
 | .mov x=>some (ev t x,m)
 | .pick c a b=>match ev t c with
  | .bool true=>some (ev t a,m)
  | .bool false=>some (ev t b,m)
  | _=>none
 | .box x=>match (ev t x).cells with
  | some cs=>if cs.all AVal.one then some (.ptr id 0 0,m.set id (.cells cs.length [cs]))else none
  | none=>none
 | .alloc zero=>some (.ptr id 0 0,m.set id (.cells zero.length [zero]))
 | .build zero parts=>match H5 zero (parts.map fun p=>(p.1,p.2.1,ev t p.2.2))with
  | some cs=>some (.agg cs,m)
  | none=>none
 | .mkSl k len zero parts=>match L4 k (List.replicate len zero) (parts.map fun p=>(p.1,ev t p.2))with
  | some els=>some (.sl id 0 len,m.set id (.cells k els))
  | none=>none
 | .load n x=>match Zc1 m n (ev t x)with
  | some v=>some (v,m)
  | none=>none
 | .store n a x=>match Ze6 m n (ev t a) (ev t x)with
  | some m'=>some (aundef,m')
  | none=>none
 | .nilChk x=>match ev t x with
  | .ptr b i j=>some (.ptr b i j,m)
  | .iptr els i j=>some (.iptr els i j,m)
  | .func (.func f) a b=>some (.func (.func f) a b,m)
  | _=>none
 | .bin op e x y=>match W7 op e (ev t x) (ev t y)with
  | some v=>some (v,m)
  | none=>none
 | .un op x=>match unA op (ev t x)with
  | some v=>some (v,m)
  | none=>none
 | .convInt k x=>match ev t x with
  | .int _ n=>some (.int k (k.wrap n),m)
  | _=>none
 | .convId x=>match ev t x with
  | .str s=>some (.str s,m)
  | _=>none
 | .toStr x=>match I1 m 1 (ev t x)with
  | some rows=>match Zek rows with
   | some s=>some (.str s,m)
   | none=>none
  | none=>none
 | .mkFunc fn first captured=>some (.func fn (first.map (ev t)) (captured.map (ev t)),m)
 | .mkMap=>some (.map id,m.set id (.map [] 0))
 | .makeSl k bytes zero len cap=>match U5 (ev t len),U5 (ev t cap)with
  | some l,some c=>if l≤c∧c≤W6∧bytes≤W6 then some (.sl id 0 l,m.set id (.cells k (List.replicate c zero)))else none
  | _,_=>none
 | .slStr x lo hi=>match ev t x with
  | .str s=>match K4 t s.length s.length lo hi with
   | some (l,h)=>some (.str ((s.take h).drop l),m)
   | none=>none
  | _=>none
 | .slSl k x lo hi mx=>match mx with
  | some z=>match W2 (ev t x),G8 t 0 (some z),G8 t 0 lo,hi with
   | some n,some mx,some l,some h=>match U5 (ev t h)with
    | some h=>if l≤h∧h≤mx∧mx≤n then (if mx=0 then some (.emp,m)else some (.bot,m))else none
    | none=>none
   | _,_,_,_=>none
  | none=>match ev t x with
   | .nilSl=>match K4 t 0 0 lo hi with
    | some _=>some (.nilSl,m)
    | none=>none
   | .emp=>match K4 t 0 0 lo hi with
    | some _=>some (.emp,m)
    | none=>none
   | .imm els=>if els.all (·.length == k)then match K4 t els.length els.length lo hi with
    | some (l,h)=>some (.imm ((els.take h).drop l),m)
    | none=>none
    else none
   | .sl b off len=>match m.get b with
    | some (.cells k' els)=>if k'=k∧off+len≤els.length then match K4 t len (els.length - off) lo hi with
     | some (l,h)=>some (.sl b (off+l) (h - l),m)
     | none=>none
     else none
    | _=>none
   | _=>none
 | .slArr ..=>none
 | .fieldA off x=>match Q5 off (ev t x)with
  | some v=>some (v,m)
  | none=>none
 | .field off n x=>match ev t x with
  | .agg cs=>match Za7 cs off n with
   | some v=>some (v,m)
   | none=>none
  | _=>none
 | .idxA k x i=>match ev t x,U5 (ev t i)with
  | .sl b off len,some i=>match m.get b with
   | some (.cells k' _)=>if k'=k∧i<len then some (.ptr b (off+i) 0,m)else none
   | _=>none
  | .imm els,some i=>match els[i]? with
   | some row=>if row.length=k then some (.iptr els i 0,m)else none
   | none=>none
  | _,_=>none
 | .idxAA n k x i=>match U5 (ev t i)with
  | some i=>if i<n then match Q5 (i*k) (ev t x)with
   | some v=>some (v,m)
   | none=>none
   else none
  | none=>none
 | .idxStr x i=>match ev t x,U5 (ev t i)with
  | .str s,some i=>match s[i]? with
   | some c=>some (.int .u8 c.toNat,m)
   | none=>none
  | _,_=>none
 | .idxArr n k sz x i=>match ev t x,U5 (ev t i)with
  | .agg cs,some i=>if i<n then match Za7 cs (i*k) sz with
   | some v=>some (v,m)
   | none=>none
   else none
  | _,_=>none
 | .lookup kt zero ok x i=>match (match ev t x with
  | .nilMap=>some []
  | .map b=>match m.get b with
   | some (.map es _)=>some es
   | _=>none
  | _=>none)with
  | some es=>match D0 kt (ev t i) es with
   | some r=>
    let v:=match r with
     | some (_,v,_)=>v
     | none=>zero
    some (if ok then .tuple [v,.bool r.isSome]else v,m)
   | none=>none
  | none=>none
 | .mapUpd kt mp k v=>match ev t mp with
  | .map b=>match m.get b with
   | some (.map es clock)=>match D0 kt (ev t k) es with
    | some (some (i,_,born))=>some (aundef,m.set b (.map (es.set i (ev t k,ev t v,born)) clock))
    | some none=>some (aundef,m.set b (.map (es++[(ev t k,ev t v,clock)]) (clock+1)))
    | none=>none
   | _=>none
  | _=>none
 | .mapEnt ..=>none
 | .entSt ..=>none
 | .delete ..=>none
 | .range _=>none
 | .nextS _=>none
 | .nextM _=>none
 | .ext x i=>match ev t x with
  | .tuple vs=>match vs[i]? with
   | some v=>some (v,m)
   | none=>none
  | _=>none
 | .call _ _=>none
 | .append k bytes _ s x=>match N6 m k (ev t x)with
  | some xs=>H2 id k bytes m (ev t s) xs
  | none=>none
 | .appendZ ..=>none
 | .copy k d s=>match ev t d,N6 m k (ev t s)with
  | .sl b off len,some xs=>match m.get b with
   | some (.cells k' els)=>if k'=k∧off+len≤els.length then
    let n:=min xs.length len
    some (.int .i64 n,m.set b (.cells k (els.take off++xs.take n++els.drop (off+n))))
    else none
   | _=>none
  | _,_=>none
 | .clear k zero x=>match ev t x with
  | .sl b off len=>match m.get b with
   | some (.cells k' els)=>if k'=k∧off+len≤els.length then
    some (aundef,m.set b (.cells k (els.take off++List.replicate len zero++els.drop (off+len))))
    else none
   | _=>none
  | .nilSl=>some (aundef,m)
  | .emp=>some (aundef,m)
  | _=>none
 | .lenStr x=>match ev t x with
  | .str s=>some (.int .i64 s.length,m)
  | _=>none
 | .lenSl x=>match W2 (ev t x)with
  | some n=>some (.int .i64 n,m)
  | none=>none
 | .lenMap x=>match ev t x with
  | .nilMap=>some (.int .i64 0,m)
  | .map b=>match m.get b with
   | some (.map es _)=>some (.int .i64 es.length,m)
   | _=>none
  | _=>none
 | .lenArr n=>some (.int .i64 n,m)
 | .capSl _=>none
 | .minmax mx xs=>match xs with
  | []=>none
  | x :: r=>match Zct mx (ev t x) (r.map (ev t))with
   | some v=>some (v,m)
   | none=>none
 | .iface ty x=>some (.iface ty (ev t x),m)
 | .dead=>none
end Go.AE
end
section
namespace Go.AE
open Go.RowKit
def absC:Value→Option AVal
 | .bool b=>some (.bool b)
 | .int k n=>some (.int k n)
 | .string s=>some (.str s.data.toList)
 | .pointer none=>some .nilPtr
 | .slice none 0 0=>some .nilSl
 | .map none=>some .nilMap
 | .nilFunc=>some .nilFunc
 | .nilIface=>some .nilIface
 | .tuple vs=>if vs.size=0 then some aundef else none
 | _=>none
def Zhp:List Value→Option (List AVal)
 | []=>some []
 | v :: r=>match absC v,Zhp r with
  | some x,some xs=>some (x :: xs)
  | _,_=>none
def absV:Value→Option AVal
 | .agg cs=>match Zhp cs.toList with
  | some xs=>some (.agg xs)
  | none=>none
 | v=>absC v
section
variable (P:Program)
def Y4:Operand→Option AOpd
 | .tmp t=>some (.tmp t)
 | .const v=>match absV v with
  | some x=>some (.const x)
  | none=>none
 | .func f=>some (.fn f)
 | .global _=>none
def Zaa:List Operand→Option (List AOpd)
 | []=>some []
 | x :: r=>match Y4 x,Zaa r with
  | some y,some ys=>some (y :: ys)
  | _,_=>none
def N7(t:TypeId):Option Nat:=(P.info? t).map (·.size)
def Zpw(t:TypeId):Option Nat:=(P.info? t).map (·.bytes)
def Zjp(t:TypeId):Option AVal:=
 match P.info? t with
 | some i=>match i.zero with
  | some z=>absV z
  | none=>none
 | none=>none
def Zcj(t:TypeId):Option (List AVal):=
 match Zjp P t with
 | some z=>match z.cells with
  | some cs=>if cs.all AVal.one then some cs else none
  | none=>none
 | none=>none
def Zd3(t:TypeId):Option (Option Nat):=
 match P.underlying t,P.info? t with
 | some (.struct _),some i|some (.array _ _),some i=>some (some i.size)
 | some _,some _=>some none
 | _,_=>none
def F6(t:TypeId):Option KeyT:=
 match P.underlying t with
 | some (.int _)=>some .int
 | some .string=>some .str
 | some .bool=>some .bool
 | _=>none
def Zgn:List Field→Nat→Option (List KeyT)
 | [],_=>some []
 | f :: r,i=>if f.name != "_" && f.offset == i then match F6 P f.type,Zgn r (i+1)with
  | some k,some ks=>some (k :: ks)
  | _,_=>none
  else none
def cEq(t:TypeId):Option EqT:=
 match P.underlying t with
 | some .bool=>some .bool
 | some (.slice _)=>some .slice
 | some (.func _ _ _)=>some .func
 | some (.map _ _)=>some .map
 | some (.pointer _)=>some .ptr
 | some (.int _)|some .string=>some .num
 | some (.struct fs)=>if P.stoodInHeld t||P.eqGuardType P.depth t then none else match Zgn P fs.toList 0 with
  | some ks=>some (.flat ks)
  | none=>none
 | _=>none
def Zg1(fs:List Field):List (Nat×Operand)→Option (List (Nat×Nat×AOpd))
 | []=>some []
 | (i,x) :: r=>match fs[i]? with
  | some f=>match N7 P f.type,Y4 x,Zg1 fs r with
   | some n,some y,some ys=>some ((f.offset,n,y) :: ys)
   | _,_,_=>none
  | none=>none
def Zg2(n:Nat):List (Nat×Operand)→Option (List (Nat×Nat×AOpd))
 | []=>some []
 | (i,x) :: r=>match Y4 x,Zg2 n r with
  | some y,some ys=>some ((i*n,n,y) :: ys)
  | _,_=>none
def Zgv:List (Nat×Operand)→Option (List (Nat×AOpd))
 | []=>some []
 | (i,x) :: r=>match Y4 x,Zgv r with
  | some y,some ys=>some ((i,y) :: ys)
  | _,_=>none
def H8:Option Operand→Option (Option AOpd)
 | none=>some none
 | some x=>match Y4 x with
  | some y=>some (some y)
  | none=>none
def A7(t:TypeId):Option (Nat×Nat×List AVal):=
 match P.underlying t with
 | some (.slice e)=>match N7 P e,Zpw P e,Zcj P e with
  | some k,some b,some z=>if z.length=k∧0<k then some (k,b,z)else none
  | _,_,_=>none
 | _=>none
def Za5(c:Call):Option AOp:=
 match c.callee with
 | .value f=>match Y4 f,Zaa c.args.toList with
  | some g,some xs=>some (.call g xs)
  | _,_=>none
 | .builtin .append=>match c.args.toList,c.argTypes.toList with
  | [s,x],[t,u]=>match A7 P t,Y4 s,Y4 x with
   | some (k,b,z),some s',some x'=>match P.underlying u with
    | some (.int _)=>some (.appendZ k b z s' x')
    | some _=>some (.append k b z s' x')
    | none=>none
   | _,_,_=>none
  | _,_=>none
 | .builtin .copy=>match c.args.toList,c.argTypes.toList with
  | [d,s],[t,_]=>match A7 P t,Y4 d,Y4 s with
   | some (k,_,_),some d',some s'=>some (.copy k d' s')
   | _,_,_=>none
  | _,_=>none
 | .builtin .clear=>match c.args.toList,c.argTypes.toList with
  | [x],[t]=>match A7 P t,Y4 x with
   | some (k,_,z),some x'=>some (.clear k z x')
   | _,_=>none
  | _,_=>none
 | .builtin .len=>match c.args.toList,c.argTypes.toList with
  | [x],[t]=>match P.underlying t,Y4 x with
   | some (.array n _),_=>some (.lenArr n)
   | some .string,some y=>some (.lenStr y)
   | some (.slice _),some y=>some (.lenSl y)
   | some (.map _ _),some y=>some (.lenMap y)
   | _,_=>none
  | _,_=>none
 | .builtin .cap=>match c.args.toList,c.argTypes.toList with
  | [x],[t]=>match P.underlying t,Y4 x with
   | some (.slice _),some y=>some (.capSl y)
   | _,_=>none
  | _,_=>none
 | .builtin .min=>match Zaa c.args.toList with
  | some xs=>some (.minmax false xs)
  | none=>none
 | .builtin .max=>match Zaa c.args.toList with
  | some xs=>some (.minmax true xs)
  | none=>none
 | _=>none
def cOp(o:Oper):Option AOp:=
 match o.op with
 | .move x | .assign x=>(Y4 x).map .mov
 | .pick c a b=>match Y4 c,Y4 a,Y4 b with
  | some c',some a',some b'=>some (.pick c' a' b')
  | _,_,_=>none
 | .alloc t=>(Zcj P t).map .alloc
 | .box _ x=>(Y4 x).map .box
 | .build t ps=>match P.underlying t,Zcj P t with
  | some (.struct fs),some z=>if fs.toList.all fun f=>(P.info? f.type).isSome then match Zg1 P fs.toList ps.toList with
   | some qs=>some (.build z qs)
   | none=>none
   else none
  | some (.array _ e),some z=>match N7 P e with
   | some n=>match Zg2 n ps.toList with
    | some qs=>some (.build z qs)
    | none=>none
   | none=>none
  | _,_=>none
 | .buildSlice t len ps=>match A7 P t,Zgv ps.toList with
  | some (k,_,z),some qs=>if len*k≤2 ^ 24 then some (.mkSl k len z qs)else none
  | _,_=>none
 | .load t x=>match Zd3 P t,Y4 x with
  | some n,some y=>some (.load n y)
  | _,_=>none
 | .store t a x=>match N7 P t,Y4 a,Y4 x with
  | some n,some a',some x'=>some (.store n a' x')
  | _,_,_=>none
 | .nilCheck x=>(Y4 x).map .nilChk
 | .binOp op t x y _=>match Y4 x,Y4 y,cEq P t with
  | some x',some y',some e=>some (.bin op e x' y')
  | _,_,_=>none
 | .unOp op _ x=>(Y4 x).map (.un op)
 | .convert s d x=>match P.underlying s,P.underlying d,Y4 x with
  | some (.int _),some (.int k),some y=>some (.convInt k y)
  | some .string,some .string,some y=>some (.convId y)
  | some (.slice e),some .string,some y=>match P.underlying e with
   | some (.int .u8)=>some (.toStr y)
   | _=>none
  | _,_,_=>none
 | .makeFunc fn f c=>match Zaa f.toList,Zaa c.toList with
  | some f',some c'=>some (.mkFunc fn f' c')
  | _,_=>none
 | .makeMap _ none=>some .mkMap
 | .makeSlice t l c=>match A7 P t,Y4 l,Y4 c with
  | some (k,b,z),some l',some c'=>some (.makeSl k b z l' c')
  | _,_,_=>none
 | .slice t x lo hi mx=>match P.underlying t,Y4 x,H8 lo,H8 hi,H8 mx with
  | some .string,some x',some l,some h,some none=>some (.slStr x' l h)
  | some (.slice e),some x',some l,some h,some m=>match N7 P e with
   | some k=>some (.slSl k x' l h m)
   | none=>none
  | some (.array n e),some x',some l,some h,some none=>match N7 P e with
   | some k=>some (.slArr n k x' l h)
   | none=>none
  | _,_,_,_,_=>none
 | .fieldAddr t x i=>match P.underlying t,Y4 x with
  | some (.struct fs),some y=>match fs[i]? with
   | some f=>match N7 P f.type with
    | some n=>if n≠0 then some (.fieldA f.offset y)else none
    | none=>none
   | none=>none
  | _,_=>none
 | .field t x i=>match P.underlying t,Y4 x with
  | some (.struct fs),some y=>match fs[i]? with
   | some f=>match Zd3 P f.type with
    | some n=>some (.field f.offset n y)
    | none=>none
   | none=>none
  | _,_=>none
 | .indexAddr t x i=>match P.underlying t,Y4 x,Y4 i with
  | some (.slice e),some x',some i'=>match N7 P e with
   | some k=>some (.idxA k x' i')
   | none=>none
  | some (.array n e),some x',some i'=>match N7 P e with
   | some k=>some (.idxAA n k x' i')
   | none=>none
  | _,_,_=>none
 | .index t x i=>match P.underlying t,Y4 x,Y4 i with
  | some .string,some x',some i'=>some (.idxStr x' i')
  | some (.array n e),some x',some i'=>match N7 P e,Zd3 P e with
   | some k,some sz=>some (.idxArr n k sz x' i')
   | _,_=>none
  | _,_,_=>none
 | .lookup t x i ok=>match P.underlying t,Y4 x,Y4 i with
  | some (.map kt e),some x',some i'=>match F6 P kt,Zjp P e with
   | some q,some z=>some (.lookup q z ok x' i')
   | _,_=>none
  | _,_,_=>none
 | .mapUpdate t m k v | .insert t m k v=>match P.underlying t,Y4 m,Y4 k,Y4 v with
  | some (.map kt _),some m',some k',some v'=>match F6 P kt with
   | some q=>some (.mapUpd q m' k' v')
   | none=>none
  | _,_,_,_=>none
 | .extract x i=>match Y4 x with
  | some y=>some (.ext y i)
  | none=>none
 | .call c=>Za5 P c
 | .range t x=>match P.underlying t with
  | some (.map _ _)=>(Y4 x).map .range
  | _=>none
 | .next x false=>(Y4 x).map .nextM
 | _=>none
def Q3(o:Oper):AOp:=(cOp P o).getD .dead
def Zab(ops:Array Oper):Option (Nat×Bool)→Option (Option (Nat×Bool))
 | none=>some none
 | some (j,w)=>match (ops[j]?).bind (·.dst)with
  | some d=>some (some (d,w))
  | none=>none
def Zfr:List Nat→List Nat→List Nat
 | acc,[]=>acc
 | acc,x :: r=>if acc.contains x then Zfr acc r else Zfr (x :: acc) r
theorem Zo5(j:Nat):∀ (l a:List Nat),j∈Zfr a l↔j∈a∨j∈l
 | [],a=>by simp[Zfr]
 | x :: r,a=>by
  simp only[Zfr];split
  ·rename_i h;rw[Zo5 j r a,List.mem_cons];have b:x∈a:=by simpa using h
   constructor
   ·rintro(h|h)
    ·exact .inl h
    ·exact .inr (.inr h)
   ·rintro(h|rfl|h)
    ·exact .inl h
    ·exact .inl b
    ·exact .inr h
  ·rw[Zo5 j r (x :: a),List.mem_cons,List.mem_cons];constructor
   ·rintro((h|h)|h)
    ·exact .inr (.inl h)
    ·exact .inl h
    ·exact .inr (.inr h)
   ·rintro(h|h|h)
    ·exact .inl (.inr h)
    ·exact .inl (.inl h)
    ·exact .inr h
def Zav(ops:List Oper):List (List Nat):=
 ops.foldl (fun acc o=>acc++[Zfr [] ((o.after.toList.filter (Region.binds .any)).flatMap fun e=>e.on :: acc.getD e.on [])]) []
def I9(ops:Array Oper):List Oper→Option (List AOper)
 | []=>some []
 | o :: r=>match Zab ops o.guard,I9 ops r with
  | some g,some as=>some (⟨o.dst,Q3 P o,g,[]⟩ :: as)
  | _,_=>none
def cUn(as:List AOper)(preds:List (List Nat))(j:Nat)(a:AOp):List Nat:=
 (List.range j).filter fun i=>!((preds.getD j []).contains i)&&match as[i]? with
   | some x=>!(x.op.kind≤1&&a.kind≤1)&&x.op.kind != 0&&a.kind != 0
   | none=>false
def cUns(as:List AOper)(preds:List (List Nat)):Nat→List AOper→List AOper
 | _,[]=>[]
 | j,a :: r=>⟨a.dst,a.op,a.guard,cUn as preds j a.op⟩ :: cUns as preds (j+1) r
def AOper.looks(a:AOper):List Nat:=
 (a.op.opds.filterMap fun x=>match x with
   | .tmp i=>some i
   | _=>none)++match a.guard with
   | some (d,_)=>[d]
   | none=>[]
def AOper.apart(x y:AOper):Bool:=
 (match x.dst with
  | some d=>!(y.looks.contains d)&&y.dst != some d
  | none=>true) &&
 match y.dst with
 | some d=>!(x.looks.contains d)
 | none=>true
def Zjn(ops:Array Oper)(as:List AOper)(preds:List (List Nat)):Bool:=
 ((List.range ops.size).all fun i=>match ops[i]? with
   | some o=>o.after.toList.all fun e=>!Region.binds .any e||decide (e.on<i)
   | none=>true) &&
 ((List.range ops.size).all fun j=>(List.range j).all fun i=>(preds.getD j []).contains i||match as[i]?,as[j]? with
   | some x,some y=>x.apart y
   | _,_=>false)
def Y1:Code→ACode
 | .skip=>.skip
 | .region _ ops false=>match I9 P ops ops.toList with
  | some as=>.region false as
  | none=>.bad
 | .region _ ops true=>match I9 P ops ops.toList with
  | some as=>
   if Zjn ops as (Zav ops.toList)then .region true (cUns as (Zav ops.toList) 0 as)else .bad
  | none=>.bad
 | .seq a b=>.seq (Y1 a) (Y1 b)
 | .cond c a b=>match Y4 c with
  | some c'=>.cond c' (Y1 a) (Y1 b)
  | none=>.bad
 | .block id c=>.block id (Y1 c)
 | .loop c=>.loop (Y1 c)
 | .exit id=>.exit id
 | .scope c=>.scope (Y1 c)
 | .label _=>.skip
 | .ret=>.ret
 | _=>.bad
def Zke:ResultVar→Option (Nat×Option (Option Nat))
 | .tmp t=>some (t,none)
 | .cell a t=>(Zd3 P t).map fun n=>(a,some n)
def Zad:List ResultVar→Option (List (Nat×Option (Option Nat)))
 | []=>some []
 | x :: r=>match Zke P x,Zad r with
  | some y,some ys=>some (y :: ys)
  | _,_=>none
def cFn(f:Func):Option AFn:=
 match f.body with
 | some c=>match Zad P f.results.toList with
  | some rs=>if f.name == "runtime.NumGoroutine" then none else some ⟨f.ntmps,rs,Y1 P c⟩
  | none=>none
 | none=>none
end
end Go.AE
end
section
namespace Go.AE
open Go.RowKit
def KeepN(n:Nat)(ρ ρ':Rho):Prop:=∀ b,b<n→ρ b=none→ρ' b=none
theorem KeepN.refl(n:Nat)(ρ:Rho):KeepN n ρ ρ:=fun _ _ h=>h
theorem KeepN.trans{n d:Nat}{ρ ρ' a:Rho}(h:KeepN n ρ ρ')(e:KeepN d ρ' a)(g:n≤d):KeepN n ρ a:=
 fun b c f=>e b (Nat.lt_of_lt_of_le c g) (h b c f)
def Zio(P:Program)(f:FuncId):Prop:=∃ fn,P.funcs[f]? = some fn∧(fn.name == "runtime.NumGoroutine")=false∧fn.body.isSome=true
def ACalls(P:Program)(f:FuncId)(args:List AVal)(m:Mem)(av:List Nat)(K:AVal→Mem→Prop):Prop:=
 Zio P f ∧ ∀(W:Base) (Φ:Pers) (ρ:Rho) (vs:Array Value) (w:World),Rel W Φ ρ m w→RL Φ ρ args vs→(∀ b,b∈av→ρ b=none∧b<m.next) →
  Calls P f vs w fun e w'=>∃ v r m' Φ' ρ',e=.returned v∧Ext Φ ρ Φ' ρ'∧(∀ b,b<m.next→b∉av→ρ b=none→ρ' b=none) ∧
   Rel W Φ' ρ' m' w'∧R Φ' ρ' r v∧m.next≤m'.next∧K r m'
def Mem.less(m:Mem)(x:List Nat):Mem:={ m with get:=fun c=>if c∈x then none else m.get c }
def Zfh(P:Program)(f:FuncId)(args:List AVal)(id:Nat)(x:List Nat)(m:Mem)(v:AVal)(m':Mem)(wl:List Nat):Prop:=
 ∃ m3:Mem,id∉x∧(∀ c,c∈x→m3.get c=none)∧m.next≤m3.next∧m'.next=m3.next∧(∀ c,m'.get c=if c∈x then m.get c else m3.get c) ∧
  (∀ c,c∉wl→c<m.next→c∉x→m3.get c=m.get c)∧ACalls P f args (m.less x) [id] fun v' m''=>v'=v∧m''=m3
inductive FT where
 | ops (w r:List Nat)
 | call (wl x:List Nat) (nx:Nat)
def FT.W:FT→Nat→Bool
 | .ops w _,c=>w.contains c
 | .call wl _ nx,c=>wl.contains c||decide (nx≤c)
def FT.R:FT→Nat→Bool
 | .ops _ r,c=>r.contains c
 | .call _ x _,c=>!x.contains c
def FT.isC:FT→Bool
 | .ops _ _=>false
 | .call _ _ _=>true
def callee(t:List AVal)(f:AOpd)(xs:List AOpd):Option (FuncId×List AVal):=
 match ev t f with
 | .func (.func g) first cap=>some (g,first++xs.map (ev t)++cap)
 | _=>none
def S6(t:List AVal):Option (Nat×Bool)→Option Bool
 | none=>some true
 | some (d,w)=>match t.getD d aundef with
  | .bool b=>some (b == w)
  | .tuple []=>some false
  | _=>none
structure ASt where
 t:List AVal
 m:Mem
structure ASt.Weak (σ' σ:ASt):Prop where
 next:σ.m.next≤σ'.m.next
 rel:∀ (W:Base) (Φ:Pers) (ρ:Rho) (vs:Array Value) (w:World),Rel W Φ ρ σ.m w→RL Φ ρ σ.t vs → ∃ Φ',Ext Φ ρ Φ' ρ∧Rel W Φ' ρ σ'.m w∧RL Φ' ρ σ'.t vs
def M6(P:Program)(base:Nat):List AOper→Nat→(ASt→Prop)→List AVal→Mem→Prop
 | [],_,K,t,m=>K ⟨t,m⟩
 | o :: r,i,K,t,m=>
  match S6 t o.guard with
  | some false=>M6 P base r (i+1) K (put t o.dst aundef) m
  | some true=>
   match o.op with
   | .call f xs=>match callee t f xs with
    | some (g,args)=>ACalls P g args m [base+i] fun v m'=>M6 P base r (i+1) K (put t o.dst v) m'
    | none=>False
   | op=>match stepA (base+i) t m op with
    | some (v,m')=>M6 P base r (i+1) K (put t o.dst v) m'
    | none=>False
  | none=>False
def O4(x:Nat):List Nat→Prop
 | []=>True
 | y :: r=>x≠y∧O4 x r
def N4:List Nat→List Nat→Prop
 | [],_=>True
 | x :: r,l=>O4 x l∧N4 r l
def I0(n:Nat):List Nat→Prop
 | []=>True
 | x :: r=>x<n∧I0 n r
def in1(x:Nat):List Nat→Prop
 | []=>False
 | y :: r=>x=y∨in1 x r
def H4:List Nat→List Nat→Prop
 | [],_=>True
 | x :: r,l=>in1 x l∧H4 r l
def FT.indep:FT→FT→Prop
 | .ops w r,.ops w' r'=>N4 w (r'++w')∧N4 r w'
 | .ops w r,.call wl x nx=>N4 r wl∧I0 nx r∧N4 w wl∧I0 nx w∧H4 w x
 | .call wl x nx,.ops w r=>N4 r wl∧I0 nx r∧N4 w wl∧I0 nx w∧H4 w x
 | .call _ _ _,.call _ _ _=>False
def S7(fs:List FT)(ft:FT):List Nat→Prop
 | []=>True
 | i :: r=>FT.indep (fs.getD i (.ops [] [])) ft∧S7 fs ft r
def Q4(P:Program)(base:Nat):List AOper→List FT→(ASt→Prop)→List AVal→Mem→Prop
 | [],_,K,t,m=>K ⟨t,m⟩
 | o :: r,fs,K,t,m=>
  match S6 t o.guard with
  | some false=>Q4 P base r (fs++[.ops [] []]) K (put t o.dst aundef) m
  | some true=>
   match o.op with
   | .call f xs=>match callee t f xs with
    | some (g,args)=>∃ wl x v m',Zfh P g args (base+fs.length) x m v m' wl∧S7 fs (.call wl x m.next) o.un∧Q4 P base r (fs++[.call wl x m.next]) K (put t o.dst v) m'
    | none=>False
   | op=>match stepA (base+fs.length) t m op with
    | some (v,m')=>S7 fs (.ops (S4 (base+fs.length) t op) (J0 t op)) o.un∧Q4 P base r (fs++[.ops (S4 (base+fs.length) t op) (J0 t op)]) K (put t o.dst v) m'
    | none=>False
  | none=>False
def Zkk(next:ASt→Prop)(Q:Exit→ASt→Prop):Exit→ASt→Prop
 | .normal,σ=>next σ
 | e,σ=>Q e σ
def Zaz(id:Nat)(Q:Exit→ASt→Prop):Exit→ASt→Prop
 | .exit id',σ=>if id'=id then Q .normal σ else Q (.exit id') σ
 | e,σ=>Q e σ
def Zoc(Q:Exit→ASt→Prop):Exit→ASt→Prop
 | .goto _,_=>False
 | e,σ=>Q e σ
def wpc(P:Program):ACode→(Exit→ASt→Prop)→ASt→Prop
 | .skip,Q,σ=>Q .normal σ
 | .region false ops,Q,σ=>M6 P σ.m.next ops 0 (Q .normal) σ.t (σ.m.at (σ.m.next+ops.length))
 | .region true ops,Q,σ=>Q4 P σ.m.next ops [] (Q .normal) σ.t (σ.m.at (σ.m.next+ops.length))
 | .seq a b,Q,σ=>wpc P a (Zkk (wpc P b Q) Q) σ
 | .cond c a b,Q,σ=>match ev σ.t c with
  | .bool true=>wpc P a Q σ
  | .bool false=>wpc P b Q σ
  | _=>False
 | .block id c,Q,σ=>wpc P c (Zaz id Q) σ
 | .loop c,Q,σ=>∃ (I:Nat→ASt→Prop),(∃ n σ0,ASt.Weak σ0 σ∧I n σ0) ∧ ∀ n σ1,I n σ1→wpc P c (Zkk (fun σ'=>∃ k σ0,k<n∧ASt.Weak σ0 σ'∧I k σ0) Q) σ1
 | .exit id,Q,σ=>Q (.exit id) σ
 | .scope c,Q,σ=>wpc P c (Zoc Q) σ
 | .label _,Q,σ=>Q .normal σ
 | .ret,Q,σ=>Q .ret σ
 | .bad,_,_=>False
def lift(W:Base)(Φ:Pers)(ρ:Rho)(n:Nat)(Q:Exit→ASt→Prop)(e:Exit)(a:Act)(w:World):Prop:=
 ∃ σ Φ' ρ',Ext Φ ρ Φ' ρ'∧KeepN n ρ ρ'∧n≤σ.m.next∧Rel W Φ' ρ' σ.m w∧RL Φ' ρ' σ.t a.tmps∧a.defers=[]∧Q e σ
def AWp(P:Program)(c:Code)(Q:Exit→ASt→Prop)(σ:ASt):Prop:=
 ∀(W:Base) (Φ:Pers) (ρ:Rho) (a:Act) (w:World),Rel W Φ ρ σ.m w→RL Φ ρ σ.t a.tmps→a.defers=[]→c.wp P (lift W Φ ρ σ.m.next Q) a w
end Go.AE
end
section
namespace Go.AE
open Go.RowKit
theorem RL.sub{Φ:Pers}{ρ:Rho}{xs a:List AVal}{vs:Array Value}(h:RL Φ ρ xs vs)(c:a.length=xs.length)(d:∀ (i:Nat) (x:AVal),a[i]? = some x→x=AVal.bot∨xs[i]? = some x):RL Φ ρ a vs:=by
 refine⟨by rw[h.1,c],fun i x v f e=>?_⟩
 rcases d i x f with rfl|b
 ·exact .bot v
 ·exact h.2 i x v b e
theorem ASt.Weak.refl(a:ASt):ASt.Weak a a:=⟨Nat.le_refl _,fun _ Φ _ _ _ b c=>⟨Φ,.refl _ _,b,c⟩⟩
theorem ASt.Weak.trans{a b c:ASt}(h:ASt.Weak a b)(f:ASt.Weak b c):ASt.Weak a c:=
 ⟨Nat.le_trans f.next h.next,fun W Φ ρ vs w j k=>by
  obtain⟨d,g,l,n⟩:=f.rel W Φ ρ vs w j k;obtain⟨e,i,m,t2⟩:=h.rel W d ρ vs w l n;exact⟨e,g.trans i,m,t2⟩⟩
theorem ASt.Weak.of_sub{a b:ASt}(d:a.t.length=b.t.length)(f:∀ (i:Nat) (x:AVal),a.t[i]? = some x→x=AVal.bot∨b.t[i]? = some x)(hm:Mem.Sub a.m b.m):ASt.Weak a b:=
 ⟨hm.next,fun _ Φ _ _ _ e c=>⟨Φ,.refl _ _,e.sub hm,c.sub d f⟩⟩
theorem Zua{W:Base}{Φ b:Pers}{ρ ρ':Rho}{n g:Nat}{Q:Exit→ASt→Prop}{e:Exit}{a:Act}{w:World}(q:Ext Φ ρ b ρ')(r:KeepN n ρ ρ')(f:n≤g)
 (h:lift W b ρ' g Q e a w):lift W Φ ρ n Q e a w:=by
 obtain⟨s,c,d,i,j,k,l,m,o,p⟩:=h;exact⟨s,c,d,q.trans i,r.trans j f,Nat.le_trans f k,l,m,o,p⟩
theorem Zu0{W:Base}{Φ:Pers}{ρ:Rho}{n:Nat}{Q f:Exit→ASt→Prop}{e:Exit}{a:Act}{w:World}(h:lift W Φ ρ n Q e a w)(p:∀ d,Q e d→f e d):lift W Φ ρ n f e a w:=by
 obtain⟨d,b,c,g,i,j,k,l,m,o⟩:=h;exact⟨d,b,c,g,i,j,k,l,m,p d o⟩
theorem RL.get{Φ:Pers}{ρ:Rho}{t:List AVal}{vs:Array Value}(h:RL Φ ρ t vs)(i:Nat):R Φ ρ (t.getD i aundef) (vs.getD i undef):=by
 rcases Nat.lt_or_ge i t.length with hi|hi
 ·have b:t[i]? = some t[i]:=gE hi;have a:i<vs.size:=by rw[h.1]; exact hi
  have e:vs[i]? = some vs[i]:=Array.getElem?_eq_getElem a;have:=h.2 i _ _ b e;simpa[List.getD,b,Array.getD,a]using this
 ·have b:t[i]? = none:=List.getElem?_eq_none hi;have a:¬i<vs.size:=by rw[h.1]; omega
  have c:t.getD i aundef=aundef:=by simp[List.getD,b]
  have d:vs.getD i undef=undef:=by simp[Array.getD,a]
  rw[c,d];exact .tuple [] #[] rfl (fun i x v f=>by simp at f)
theorem Zu5{v:Value}{x:AVal}(Φ:Pers)(ρ:Rho)(h:absC v=some x):R Φ ρ x v:=by
 unfold absC at h;split at h<;>first|(cases h; done)|skip
 ·injection h with h; subst h; exact .bool _
 ·injection h with h; subst h; exact .int _ _
 ·injection h with h; subst h; rename_i s; cases s; rename_i d; cases d; exact .str _
 ·injection h with h; subst h; exact .nilPtr
 ·injection h with h; subst h; exact .nilSl
 ·injection h with h; subst h; exact .nilMap
 ·injection h with h; subst h; exact .nilFunc
 ·injection h with h; subst h; exact .nilIface
 ·rename_i vs;split at h
  ·rename_i a;injection h with h; subst h
   exact .tuple [] vs (by simpa using a) (fun i x v b=>by simp at b)
  ·cases h
theorem Zvp(Φ:Pers)(ρ:Rho):∀ (vs:List Value) (xs:List AVal),Zhp vs=some xs→xs.length=vs.length ∧ ∀(i:Nat) (x:AVal) (v:Value),xs[i]? = some x→vs[i]? = some v→R Φ ρ x v
 | [],xs,h=>by
  simp only[Zhp,oI]at h;subst h;exact⟨rfl,fun i x v a=>by simp at a⟩
 | v :: r,xs,h=>by
  simp only[Zhp]at h;cases b:absC v with
  | none=>simp[b]at h
  | some y=>
   cases d:Zhp r with
   | none=>simp[b,d]at h
   | some j=>
    simp only[b,d,oI]at h;subst h;obtain⟨e,f⟩:=Zvp Φ ρ r j d;refine⟨by simp[e],fun i x g a c=>?_⟩
    cases i with
    | zero=>
     simp only[List.getElem?_cons_zero,oI]at a c;subst a; subst c;exact Zu5 Φ ρ b
    | succ i=>
     simp only[List.getElem?_cons_succ]at a c;exact f i x g a c
theorem Zq1{v:Value}{x:AVal}(Φ:Pers)(ρ:Rho)(h:absV v=some x):R Φ ρ x v:=by
 unfold absV at h;split at h
 ·rename_i cs;split at h
  ·rename_i xs a;injection h with h
   subst h;obtain⟨b,c⟩:=Zvp Φ ρ _ _ a;exact .agg _ _ (by simp[b]) (fun i x v e d=>c i x v e (by simpa using d))
  ·cases h
 ·exact Zu5 Φ ρ h
theorem T4{Φ:Pers}{ρ:Rho}{t:List AVal}{a:Act}(h:RL Φ ρ t a.tmps){x:Operand}{y:AOpd}(b:Y4 x=some y):R Φ ρ (ev t y) (a.eval x):=by
 cases x with
 | tmp i=>
  simp only[Y4,oI]at b;subst b;exact h.get i
 | const v=>
  simp only[Y4]at b;split at b
  ·rename_i z c;injection b with b
   subst b;exact Zq1 Φ ρ c
  ·cases b
 | global g=>simp[Y4]at b
 | func f=>
  simp only[Y4,oI]at b;subst b;exact .func _ [] [] #[] #[] rfl rfl (fun i x v b=>by simp at b) (fun i x v b=>by simp at b)
theorem Zzc{Φ:Pers}{ρ:Rho}{t:List AVal}{a:Act}(h:RL Φ ρ t a.tmps):∀ (xs:List Operand) (e:List AOpd),Zaa xs=some e →
 e.length=xs.length ∧ ∀(i:Nat) (y:AOpd) (x:Operand),e[i]? = some y→xs[i]? = some x→Y4 x=some y
 | [],e,c=>by
  simp only[Zaa,oI]at c;subst c;exact⟨rfl,fun i y x d=>by simp at d⟩
 | z :: r,e,c=>by
  simp only[Zaa]at c;cases f:Y4 z with
  | none=>simp[f]at c
  | some y=>
   cases g:Zaa r with
   | none=>simp[f,g]at c
   | some j=>
    simp only[f,g,oI]at c;subst c;obtain⟨k,l⟩:=Zzc h r j g;refine⟨by simp[k],fun i n m d b=>?_⟩
    cases i with
    | zero=>
     simp only[List.getElem?_cons_zero,oI]at d b;subst d; subst b;exact f
    | succ i=>
     simp only[List.getElem?_cons_succ]at d b;exact l i n m d b
theorem Yam{P:Program}
 (O:∀ (id:Nat) (ops:Array Oper) (r:Bool) (Q:Exit→ASt→Prop) (b:ASt),wpc P (Y1 P (.region id ops r)) Q b→AWp P (.region id ops r) Q b) :
 ∀(c:Code) (Q:Exit→ASt→Prop) (b:ASt),wpc P (Y1 P c) Q b→AWp P c Q b:=by
 intro c
 induction c with
 | skip=>exact fun Q b h W Φ ρ a w q o p=>wp_skip ⟨b,Φ,ρ,.refl _ _,.refl _ _,Nat.le_refl _,q,o,p,h⟩
 | region id ops r=>exact fun Q b h=>O id ops r Q b h
 | seq x y L M=>
  intro Q b h W Φ ρ a w q o p;simp only[Y1,wpc]at h;refine wp_seq (wp_mono (L _ _ h W Φ ρ a w q o p) ?_);intro e A w' j;have key:∀ e',e=e'→e'≠.normal→lift W Φ ρ b.m.next Q e A w':=by
   intro e' he K;refine Zu0 j fun d hq=>?_
   subst he;cases e<;>first|exact absurd rfl K|exact hq
  cases e with
  | normal=>
   obtain⟨d,g,ρ',D,E,B,G,H,J,u⟩:=j;exact wp_mono (M _ _ u W g ρ' A w' G H J) fun e a w ac=>Zua D E B ac
  | exit i=>exact key _ rfl (by simp)
  | goto l=>exact key _ rfl (by simp)
  | ret=>exact key _ rfl (by simp)
  | panic ch=>exact key _ rfl (by simp)
  | outgrown=>exact key _ rfl (by simp)
 | cond c x y L M=>
  intro Q b h W Φ ρ a w q o p;simp only[Y1]at h;cases hc:Y4 c with
  | none=>simp[hc,wpc]at h
  | some c'=>
   simp only[hc,wpc]at h;have U:=T4 o hc;generalize ev b.t c'=z at h U;split at h
   ·generalize hz:a.eval c=v at U;cases U;exact wp_cond_true hz (L _ _ h W Φ ρ a w q o p)
   ·generalize hz:a.eval c=v at U;cases U;exact wp_cond_false hz (M _ _ h W Φ ρ a w q o p)
   ·exact h.elim
 | block id c V=>
  intro Q b h W Φ ρ a w q o p;simp only[Y1,wpc]at h;refine wp_block (wp_mono (V _ _ h W Φ ρ a w q o p) ?_);intro e A w' j;cases e with
  | exit i=>
   simp only[Exit.inBlock];obtain⟨d,g,ρ',D,E,B,G,H,J,u⟩:=j;simp only[Zaz]at u;split
   ·rename_i hi;rw[if_pos hi]at u;exact⟨d,g,ρ',D,E,B,G,H,J,u⟩
   ·rename_i hi;rw[if_neg hi]at u;exact⟨d,g,ρ',D,E,B,G,H,J,u⟩
  | normal=>exact j
  | goto l=>exact j
  | ret=>exact j
  | panic ch=>exact j
  | outgrown=>exact j
 | loop c V=>
  intro Q b h W Φ ρ a w q o p;simp only[Y1,wpc]at h;obtain⟨I,⟨n0,N,S,h0⟩,C⟩:=h;obtain⟨ai,aa,ad,af⟩:=S.rel W Φ ρ a.tmps w q o;refine wp_loop_ghost (fun n A w'=>∃ d g ρ',Ext Φ ρ g ρ'∧KeepN b.m.next ρ ρ'∧b.m.next≤d.m.next∧Rel W g ρ' d.m w'∧RL g ρ' d.t A.tmps∧A.defers=[]∧I n d) n0
   ⟨N,ai,ρ,aa,.refl _ _,S.next,ad,af,p,h0⟩ ?_
  rintro n A w' ⟨d,g,ρ',D,E,B,G,H,J,u⟩;refine wp_mono (V _ _ (C n d u) W g ρ' A w' G H J) ?_;intro e Z ah j;have key:∀ e',e=e'→e'≠.normal→lift W Φ ρ b.m.next Q e Z ah:=by
   intro e' he K;refine Zua D E B (Zu0 j fun Y hq=>?_)
   subst he;cases e<;>first|exact absurd rfl K|exact hq
  cases e with
  | normal=>
   obtain⟨Y,X,F,g1,g2,g3,g4,g5,g6,k,N,g7,g8,g9⟩:=j;obtain⟨aj,ab,ae,ag⟩:=g8.rel W X F _ _ g4 g5;exact⟨k,g7,N,aj,F,(D.trans g1).trans ab,E.trans g2 B,Nat.le_trans (Nat.le_trans B g3) g8.next,ae,ag,g6,g9⟩
  | exit i=>exact key _ rfl (by simp)
  | goto l=>exact key _ rfl (by simp)
  | ret=>exact key _ rfl (by simp)
  | panic ch=>exact key _ rfl (by simp)
  | outgrown=>exact key _ rfl (by simp)
 | exit id=>exact fun Q b h W Φ ρ a w q o p=>wp_exit ⟨b,Φ,ρ,.refl _ _,.refl _ _,Nat.le_refl _,q,o,p,h⟩
 | scope c V=>
  intro Q b h W Φ ρ a w q o p;simp only[Y1,wpc]at h;refine wp_scope_straight (wp_mono (V _ _ h W Φ ρ a w q o p) ?_);intro e A w' j;cases e with
  | goto l=>
   obtain⟨d,g,ρ',D,E,B,G,H,J,u⟩:=j;exact u.elim
  | normal=>exact j
  | exit i=>exact j
  | ret=>exact j
  | panic ch=>exact j
  | outgrown=>exact j
 | label l=>exact fun Q b h W Φ ρ a w q o p=>wp_label ⟨b,Φ,ρ,.refl _ _,.refl _ _,Nat.le_refl _,q,o,p,h⟩
 | ret=>exact fun Q b h W Φ ρ a w q o p=>wp_ret ⟨b,Φ,ρ,.refl _ _,.refl _ _,Nat.le_refl _,q,o,p,h⟩
 | rangeFunc f ps x y _ _=>exact fun Q b h=>by simp[Y1,wpc]at h
 | goto l=>exact fun Q b h=>by simp[Y1,wpc]at h
 | refuse s=>exact fun Q b h=>by simp[Y1,wpc]at h
end Go.AE
end
section
namespace Go.AE
open Go.RowKit
section runs
variable {P:Program} {w:World}
theorem V3{t:TypeId}{d:TypeDesc}(h:P.underlying t=some d):(underlying t).run P w=.ok d w:=by simp[underlying,h]
theorem Zdu{t:TypeId}{i:TypeInfo}(h:P.info? t=some i):(typeInfo t).run P w=.ok i w:=by simp[typeInfo,h]
theorem E6{t:TypeId}{i:TypeInfo}(h:P.info? t=some i):(sizeOf t).run P w=.ok i.size w:=by simp[sizeOf,Zdu h]
theorem Zcc{t:TypeId}{i:TypeInfo}{z:Value}(h:P.info? t=some i)(a:i.zero=some z):(zeroValue t).run P w=.ok z w:=by simp[zeroValue,Zdu h,a]
end runs
theorem Addr.add_none(B o n:Nat):(Addr.add ⟨B,o,none⟩ n)=⟨B,o+n,none⟩:=by
 unfold Addr.add;split
 ·rename_i h; simp[h]
 ·rfl
def P3(w:World)(B:Nat)(o:Obj):World:={ w with heap:=w.heap.setIfInBounds B o }
theorem Zec(w:World)(B C:Nat)(o:Obj):(P3 w B o).heap[C]? = if B=C∧B<w.heap.size then some o else w.heap[C]?:=by
 unfold P3;simp only[Array.getElem?_setIfInBounds];by_cases h:B=C
 ·subst h;by_cases a:B<w.heap.size<;>simp[a]
 ·simp[h]
theorem Z0g(w:World)(B:Nat)(o a:Obj):P3 (P3 w B o) B a=P3 w B a:=by
 unfold P3;simp[Array.setIfInBounds_setIfInBounds]
theorem Zlx{w:World}{B:Nat}{o:Obj}(h:w.heap[B]? = some o):P3 w B o=w:=by
 unfold P3;have:w.heap.setIfInBounds B o=w.heap:=by
  apply Array.ext_getElem?;intro i;rw[Array.getElem?_setIfInBounds];by_cases hi:B=i
  ·subst hi;rw[if_pos rfl];have b:B<w.heap.size:=by
    rcases Nat.lt_or_ge B w.heap.size with a|a
    ·exact a
    ·rw[Array.getElem?_eq_none a]at h; cases h
   rw[if_pos b,h]
  ·rw[if_neg hi]
 rw[this]
theorem Z26{w:World}{B off:Nat}{c:Array Value}{e:TypeId}{fz:Nat×Nat}(h:w.heap[B]? = some (.cells c e fz))(v:Value) :
 w.setCell ⟨B,off,none⟩ v=P3 w B (.cells (c.setIfInBounds off v) e fz):=by
 unfold World.setCell P3
 congr 1
 apply Array.ext_getElem?;intro i;rw[Array.getElem?_modify,Array.getElem?_setIfInBounds];by_cases hi:B=i
 ·subst hi;have d:B<w.heap.size:=by
   rcases Nat.lt_or_ge B w.heap.size with b|b
   ·exact b
   ·rw[Array.getElem?_eq_none b]at h; cases h
  have a:w.heap[B]=.cells c e fz:=by rw[Array.getElem?_eq_getElem d]at h; injection h
  simp[d,a]
 ·simp[hi]
def O8(c:Array Value)(off:Nat):List Value→Array Value
 | []=>c
 | v :: r=>O8 (c.setIfInBounds off v) (off+1) r
theorem Zfi(vs:List Value):∀ (c:Array Value) (off:Nat),(O8 c off vs).size=c.size:=by
 induction vs with
 | nil=>intro c off; rfl
 | cons v r a=>intro c off; simp[O8,a]
theorem Zi5(vs:List Value):∀ (c:Array Value) (off:Nat),(∀ v,v∈c.toList→v.oneCell'=true)→(∀ v,v∈vs→v.oneCell'=true) → ∀ v,v∈(O8 c off vs).toList→v.oneCell'=true:=by
 induction vs with
 | nil=>intro c off h _; exact h
 | cons x r d=>
  intro c off h b;refine d _ _ (fun v a=>?_) (fun v a=>b v (List.mem_cons_of_mem _ a))
  rw[Array.toList_setIfInBounds]at a;rcases List.mem_or_eq_of_mem_set a with a|a
  ·exact h v a
  ·subst a; exact b _ (List.mem_cons_self ..)
theorem Zqt(vs:List Value):∀ (c:Array Value) (off p:Nat),(O8 c off vs)[p]? = if off≤p∧p<off+vs.length∧p<c.size then vs[p - off]? else c[p]?:=by
 induction vs with
 | nil=>intro c off p; simp[O8]; intro a b; omega
 | cons v r e=>
  intro c off p;simp only[O8,e,Array.size_setIfInBounds,List.length_cons,Array.getElem?_setIfInBounds];by_cases a:off+1≤p∧p<off+1+r.length∧p<c.size
  ·rw[if_pos a,if_pos (by omega)]
   have:p - off=(p - (off+1))+1:=by omega
   rw[this,List.getElem?_cons_succ]
  ·rw[if_neg a];by_cases b:off=p
   ·subst b;by_cases d:off<c.size
    ·simp[d]
    ·simp[d]
   ·rw[if_neg b,if_neg (by omega)]
theorem Zom{P:Program}{B o:Nat}{e:TypeId}:∀ (vs:List Value) (i:Nat) (w:World) (c:Array Value),(∀ v,v∈vs→v.oneCell'=true)→w.heap[B]? = some (.cells c e (0,0))→o+i+vs.length≤c.size →
 (storeCells ⟨B,o,none⟩ vs i).run P w=.ok () (P3 w B (.cells (O8 c (o+i) vs) e (0,0)))
 | [],i,w,c,_,h,_=>by
  simp only[storeCells,O8,Sem.run_pure,Zlx h]
 | v :: r,i,w,c,g,h,l=>by
  simp only[List.length_cons]at l;have a:w.cell? (Addr.add ⟨B,o,none⟩ i)=some c[o+i]:=by
   rw[Addr.add_none];simp only[World.cell?,h,Option.isSome_none,bF,if_false];exact Array.getElem?_eq_getElem (by omega)
  have f:w.frozen? (Addr.add ⟨B,o,none⟩ i)=false:=by
   rw[Addr.add_none];simp[World.frozen?,h]
  have k:B<w.heap.size:=by
   rcases Nat.lt_or_ge B w.heap.size with d|d
   ·exact d
   ·rw[Array.getElem?_eq_none d]at h; cases h
  have b:=Z26 (off:=o+i) h v;have j:(P3 w B (.cells (c.setIfInBounds (o+i) v) e (0,0))).heap[B]? = some (.cells (c.setIfInBounds (o+i) v) e (0,0)):=by
   rw[Zec]; simp[k]
  have n:=Zom (P:=P) (B:=B) (o:=o) (e:=e) r (i+1) _ (c.setIfInBounds (o+i) v) (fun u m=>g u (List.mem_cons_of_mem _ m)) j (by simp; omega)
  rw[storeCells,Sem.run_bind,run_store _ _ _ _ _ (g v List.mem_cons_self),a,f];simp only[bF,if_false,Result.andThen_ok];rw[Addr.add_none,b,n,Z0g];rfl
theorem Ztv{P:Program}{w:World}{B o:Nat}{c:Array Value}{e:TypeId}{fz:Nat×Nat}(h:w.heap[B]? = some (.cells c e fz)):∀ (n i:Nat) (a:Array Value),o+i+n≤c.size →
 (loadCellsFrom ⟨B,o,none⟩ i n a).run P w=.ok (a++(c.extract (o+i) (o+i+n))) w
 | 0,i,a,_=>by simp[loadCellsFrom]; omega
 | n+1,i,a,l=>by
  have b:w.cell? (Addr.add ⟨B,o,none⟩ i)=some c[o+i]:=by
   rw[Addr.add_none];simp only[World.cell?,h,Option.isSome_none,bF,if_false];exact Array.getElem?_eq_getElem (by omega)
  rw[loadCellsFrom,Sem.run_bind,run_load,b];simp only[Result.andThen_ok];rw[Ztv h n (i+1) _ (by omega)]
  congr 1
  apply Array.ext_getElem?;intro q;simp only[Array.getElem?_append,Array.size_push,Array.getElem?_extract,Array.getElem?_push];by_cases d:q<a.size
  ·rw[if_pos (by omega),if_neg (by omega),if_pos d]
  ·rw[if_neg d];by_cases j:q=a.size
   ·subst j;have f:o+i<c.size:=by omega
    simp[f];omega
   ·rw[if_neg (by omega)]
    have g:o+(i+1)+(q - (a.size+1))=o+i+(q - a.size):=by omega
    rw[g];by_cases k:q - a.size<n+1
    ·rw[if_pos (by omega),if_pos (by omega)]
    ·rw[if_neg (by omega),if_neg (by omega)]
theorem Zoa{P:Program}{w:World}{B o n:Nat}{c:Array Value}{e:TypeId}{fz:Nat×Nat}(h:w.heap[B]? = some (.cells c e fz))(a:o+n≤c.size) :
 (loadCells ⟨B,o,none⟩ n).run P w=.ok (c.extract o (o+n)) w:=by
 rw[loadCells,Ztv h n 0 #[] (by omega)]
 simp
theorem Base.Holds.put{W:Base}{w:World}{B:Nat}{o:Obj}(h:W.Holds w)(b:W.Free B):W.Holds (P3 w B o):=by
 refine⟨h.below.trans ⟨rfl,rfl,rfl,by simp[P3],fun k a=>?_⟩,fun k c a=>?_⟩
 ·have:=b.1;rw[Zec,if_neg (by omega)]
 ·rw[Zec,if_neg]
  ·exact h.prot k c a
  ·rintro⟨rfl,_⟩;rw[b.2]at a; cases a
theorem Base.Holds.alloc{W:Base}{w:World}(h:W.Holds w)(o:Obj):W.Holds (w.alloc o):=
 ⟨h.below.alloc h.below.size o,fun k c b=>by
  have a:=h.prot k c b;rw[Below.heap_alloc w o k (D5 a)]; exact a⟩
theorem Base.Holds.next_free{W:Base}{w:World}(h:W.Holds w):W.Free w.heap.size:=by
 refine⟨h.below.size,?_⟩;cases a:W.g w.heap.size with
 | none=>rfl
 | some o=>exact absurd (D5 (h.prot _ _ a)) (Nat.lt_irrefl _)
theorem Zwd{W:Base}{Φ:Pers}{ρ:Rho}{m:Mem}{w:World}{b:Nat}{x H:ABlk}{l:Loc}{C:Obj}(h:Rel W Φ ρ m w)(g:m.get b=some x)(v:ρ b=some l)
 (J:BR Φ ρ H l C):Rel W Φ ρ (m.set b H) (P3 w l.blk C):=by
 obtain⟨U,o,f,E,q,F,S⟩:=h.live b x g;rw[v]at f;injection f with f
 subst f;have z:l.blk<w.heap.size:=by
  rcases Nat.lt_or_ge l.blk w.heap.size with r|r
  ·exact r
  ·rw[Array.getElem?_eq_none r]at F; cases F
 refine⟨?_,?_,?_,?_,h.fresh,h.newp⟩
 ·exact h.base.put E
 ·intro B c G;obtain⟨e,fz,I⟩:=h.pers B c G;refine⟨e,fz,?_⟩;rw[Zec,if_neg]
  ·exact I
  ·rintro⟨rfl,_⟩;rw[G]at q; cases q
 ·intro b' y d;simp only[Mem.get_set]at d;by_cases a:b'=b
  ·subst a;rw[if_pos rfl]at d;injection d with d
   subst d;exact⟨l,C,v,E,q,by rw[Zec,if_pos ⟨rfl,z⟩],J⟩
  ·rw[if_neg a]at d;obtain⟨l',D,i,A,K,L,M⟩:=h.live b' y d;refine⟨l',D,i,A,K,?_,M⟩;rw[Zec,if_neg]
   ·exact L
   ·rintro⟨u,_⟩;exact a (h.inj b' b y x l' l d g i v u.symm)
 ·intro j k V X N O s t i A u;have n:∃ y,m.get j=some y:=by
   simp only[Mem.get_set]at s;by_cases a:j=b
   ·exact⟨x,by rw[a]; exact g⟩
   ·rw[if_neg a]at s; exact⟨_,s⟩
  have p:∃ y,m.get k=some y:=by
   simp only[Mem.get_set]at t;by_cases a:k=b
   ·exact⟨x,by rw[a]; exact g⟩
   ·rw[if_neg a]at t; exact⟨_,t⟩
  obtain⟨P,n⟩:=n;obtain⟨Q,p⟩:=p;exact h.inj j k P Q N O n p i A u
def Rho.put(ρ:Rho)(b:Nat)(l:Loc):Rho:=fun c=>if c=b then some l else ρ c
theorem Rho.ext_put{Φ:Pers}{ρ:Rho}{b:Nat}{l:Loc}(h:ρ b=none):Ext Φ ρ Φ (ρ.put b l):=
 ⟨fun _ _ h=>h,fun c k a=>by
  unfold Rho.put;rw[if_neg]
  ·exact a
  ·rintro rfl; rw[h]at a; cases a⟩
theorem Rho.put_same{ρ:Rho}{b:Nat}{l:Loc}:ρ.put b l b=some l:=by simp[Rho.put]
theorem Z59{W:Base}{Φ:Pers}{ρ:Rho}{m:Mem}{w:World}{b:Nat}{x:ABlk}{l:Loc}{o:Obj}(h:Rel W Φ ρ m w)(J:ρ b=none)(G:b<m.next)(I:l.blk=w.heap.size)
 (V:BR Φ (ρ.put b l) x l o):Rel W Φ (ρ.put b l) (m.set b x) (w.alloc o):=by
 have K:=Rho.ext_put (Φ:=Φ) (l:=l) J;have old:∀ k,k<w.heap.size→(w.alloc o).heap[k]? = w.heap[k]?:=fun k S=>Below.heap_alloc w o k S
 have a:∀ (k:Nat) (u:Obj),w.heap[k]? = some u→k<w.heap.size:=fun k u r=>by
  rcases Nat.lt_or_ge k w.heap.size with F|F
  ·exact F
  ·rw[Array.getElem?_eq_none F]at r; cases r
 have P:m.get b=none:=by
  cases Q:m.get b with
  | none=>rfl
  | some y=>
   obtain⟨l',u,p,_⟩:=h.live b y Q;rw[J]at p; cases p
 have j:∀ b' l',b'≠b→ρ.put b l b'=some l'→ρ b'=some l':=fun b' l' q z=>by
  unfold Rho.put at z; rw[if_neg q]at z; exact z
 refine⟨h.base.alloc o,?_,?_,?_,?_,h.newp⟩
 ·intro B c O;obtain⟨e,fz,r⟩:=h.pers B c O;exact⟨e,fz,by rw[old B (a _ _ r)]; exact r⟩
 ·intro b' y s;simp only[Mem.get_set]at s;by_cases f:b'=b
  ·subst f;rw[if_pos rfl]at s;injection s with s
   subst s;refine⟨l,o,Rho.put_same,by rw[I]; exact h.base.next_free,?_,?_,V⟩
   ·cases U:Φ l.blk with
    | none=>rfl
    | some c=>
     obtain⟨e,fz,r⟩:=h.pers _ c U;have:=a _ _ r;omega
   ·rw[I];show(w.heap.push o)[w.heap.size]? = some o;rw[Array.getElem?_push,if_pos rfl]
  ·rw[if_neg f]at s;obtain⟨l',u,t,n,X,L,Y⟩:=h.live b' y s;exact⟨l',u,K.rho _ _ t,n,X,by rw[old _ (a _ _ L)]; exact L,Y.ext K⟩
 ·intro D C M N Z l2 p v t n z;simp only[Mem.get_set]at p v;by_cases i:D=b
  ·by_cases d:C=b
   ·rw[i,d]
   ·rw[if_neg d]at v;have H:=j _ _ d n;obtain⟨l',u,g,_,_,E,_⟩:=h.live C N v;rw[H]at g; injection g with g; subst g
    rw[i,Rho.put_same]at t;injection t with t; subst t
    have:=a _ _ E;omega
  ·rw[if_neg i]at p;have A:=j _ _ i t;obtain⟨l',u,g,_,_,E,_⟩:=h.live D M p;rw[A]at g; injection g with g; subst g
   by_cases d:C=b
   ·rw[d,Rho.put_same]at n;injection n with n; subst n
    have:=a _ _ E;omega
   ·rw[if_neg d]at v;exact h.inj D C M N Z l2 p v A (j _ _ d n) z
 ·intro b' l' q;by_cases f:b'=b
  ·rw[f]; exact G
  ·exact h.fresh b' l' (j _ _ f q)
theorem Zzb{W:Base}{Φ:Pers}{ρ:Rho}{m:Mem}{w:World}(h:Rel W Φ ρ m w){x:AVal}{v:Value}(P:R Φ ρ x v){row:List AVal}{j:Nat}(g:Za9 m x=some (row,j)) :
 ∃ B o c e fz,v=.pointer (some ⟨B,o,none⟩)∧w.heap[B]? = some (.cells c e fz) ∧ ∀ i y,row[j+i]? = some y → ∃ u,c[o+i]? = some u∧R Φ ρ y u:=by
 cases P with
 | ptr b i z l M=>
  simp only[Za9]at g;cases r:m.get b with
  | none=>simp[r]at g
  | some y=>
   cases y with
   | cells k els=>
    simp only[r]at g;cases p:els[i]? with
    | none=>simp[p]at g
    | some n=>
     simp only[p,oI,pI2]at g;obtain⟨rfl,rfl⟩:=g;obtain⟨l',o,A,S,U,I,J⟩:=h.live b _ r;rw[M]at A; injection A with A; subst A
     cases J with
     | cells k els _ c e G V H t _=>
      subst G;refine⟨_,_,c,e,(0,0),rfl,I,fun q y C=>?_⟩
      obtain⟨u,O,_,F⟩:=t.2 i n (z+q) y p C;exact⟨u,by rw[← O]; congr 1; omega,F⟩
   | map Q D=>simp[r]at g
   | siter s pos=>simp[r]at g
   | miter a b c d=>simp[r]at g
 | iptr els i z B o k c f K G L E=>
  simp only[Za9]at g;cases p:els[i]? with
  | none=>simp[p]at g
  | some n=>
   simp only[p,oI,pI2]at g;obtain⟨rfl,rfl⟩:=g;obtain⟨e,fz,N⟩:=h.pers B c K;refine⟨B,_,c,e,fz,rfl,N,fun q y C=>?_⟩
   refine⟨f i (z+q),?_,E i n (z+q) y p C⟩;rw[← (L i n (z+q) y p C).1]
   congr 1; omega
 | _=>simp[Za9]at g
end Go.AE
end
section
namespace Go.AE
open Go.RowKit
def Done(P:Program)(s:Sem Next)(W:Base)(Φ:Pers)(ρ:Rho)(id:Nat)(w:World)(x:AVal)(m':Mem):Prop:=
 ∃ v w' Φ' ρ',(s.run P w=.ok (.value v) w'∨(s.run P w=.ok .skip w'∧v=undef))∧Ext Φ ρ Φ' ρ'∧(∀ b,b≠id→ρ b=none→ρ' b=none)∧Rel W Φ' ρ' m' w'∧R Φ' ρ' x v
section
variable {P:Program} {s:Sem Next} {W:Base} {Φ:Pers} {ρ:Rho} {id:Nat} {w w1:World} {m m':Mem} {x:AVal} {v:Value}
theorem Done.val(h:s.run P w=.ok (.value v) w)(b:Rel W Φ ρ m w)(a:R Φ ρ x v):Done P s W Φ ρ id w x m:=
 ⟨v,w,Φ,ρ,.inl h,.refl _ _,fun _ _ h=>h,b,a⟩
theorem Zfa(Φ:Pers)(ρ:Rho):R Φ ρ aundef undef:=.tuple [] #[] rfl (fun i x v a=>by simp at a)
theorem Done.upd{b:Nat}{x0 d:ABlk}{l:Loc}{c:Obj}(h:s.run P w=.ok .skip (P3 w l.blk c))(g:Rel W Φ ρ m w)(e:m.get b=some x0)(f:ρ b=some l)(a:BR Φ ρ d l c) :
 Done P s W Φ ρ id w aundef (m.set b d):=
 ⟨undef,_,Φ,ρ,.inr ⟨h,rfl⟩,.refl _ _,fun _ _ h=>h,Zwd g e f a,Zfa _ _⟩
theorem Done.updV{b:Nat}{x0 d:ABlk}{l:Loc}{c:Obj}(h:s.run P w=.ok (.value v) (P3 w l.blk c))(i:Rel W Φ ρ m w)(f:m.get b=some x0)(g:ρ b=some l)(a:BR Φ ρ d l c)(e:R Φ ρ x v) :
 Done P s W Φ ρ id w x (m.set b d):=
 ⟨v,_,Φ,ρ,.inl h,.refl _ _,fun _ _ h=>h,Zwd i f g a,e⟩
theorem Done.new{blk:ABlk}{l:Loc}{o:Obj}(h:s.run P w=.ok (.value v) (w1.alloc o))(j:Rel W Φ ρ m w1)(d:ρ id=none)(c:id<m.next)(i:l.blk=w1.heap.size)
 (a:BR Φ (ρ.put id l) blk l o) (f:R Φ (ρ.put id l) x v):Done P s W Φ ρ id w x (m.set id blk):=
 ⟨v,_,Φ,ρ.put id l,.inl h,Rho.ext_put d,fun b g e=>by unfold Rho.put; rw[if_neg g]; exact e,Z59 j d c i a,f⟩
theorem R.cells_R{cs:List AVal}(h:R Φ ρ x v)(a:x.cells=some cs):RL Φ ρ cs v.cells:=by
 have one:∀ (y:AVal) (u:Value),R Φ ρ y u→RL Φ ρ [y] #[u]:=fun y u e=>⟨rfl,fun i x v b d=>by
  cases i with
  | zero=>
   simp only[List.getElem?_cons_zero,oI]at b;have:u=v:=by simpa using d
   subst b; subst this;exact e
  | succ i=>simp at b⟩
 have c:=h;cases h<;>(try simp only[AVal.cells]at a)<;>first|(cases a; done)|skip
 all_goals (injection a with a; subst a)
 case agg cs vs hs hr=>exact ⟨hs,hr⟩
 all_goals exact one _ _ c
theorem Zik{y:AVal}{u:Value}(h:R Φ ρ y u)(a:y.one=true):u.oneCell'=true:=by
 cases h<;>simp_all[AVal.one,Value.oneCell']
theorem Zlv{cs:List AVal}{vs:Array Value}(h:RL Φ ρ cs vs)(c:cs.all AVal.one=true):∀ v,v∈vs.toList→v.oneCell'=true:=by
 intro u e;obtain⟨q,b,rfl⟩:=List.getElem_of_mem e;simp only[Array.length_toList]at b;have a:q<cs.length:=by rw[← h.1]; exact b
 have d:=h.2 q _ _ (gE a) (Array.getElem?_eq_getElem b);simpa using Zik d (List.all_eq_true.1 c _ (List.getElem_mem a))
theorem Z80{cs:List AVal}{vs:Array Value}(h:RL Φ ρ cs vs)(d:cs.all AVal.one=true):RowsIn Φ ρ [cs] 0 cs.length vs:=by
 refine⟨fun i row hi=>?_,fun i row j y hi a=>?_⟩
 ·cases i with
  | zero=>simp at hi; rw[hi]
  | succ i=>simp at hi
 ·cases i with
  | zero=>
   simp only[List.getElem?_cons_zero,oI]at hi;subst hi;have b:j<cs.length:=(gS.1 a).1;have c:vs[j]? = some (vs[j]'(by rw[h.1]; exact b)):=Array.getElem?_eq_getElem _
   exact⟨_,by simpa using c,Zik (h.2 j y _ a c) (List.all_eq_true.1 d y (List.mem_of_getElem? a)),h.2 j y _ a c⟩
  | succ i=>simp at hi
theorem BR.ext_put{blk:ABlk}{l a:Loc}{o:Obj}(b:ρ id=none)(h:BR Φ ρ blk a o):BR Φ (ρ.put id l) blk a o:=h.ext (Rho.ext_put b)
theorem Zv3{e:TypeId}{cs:List AVal}{y:AVal}(g:Rel W Φ ρ m w)(d:ρ id=none)(b:id<m.next)(i:R Φ ρ y v)(f:y.cells=some cs)(c:cs.all AVal.one=true)
 (h:s.run P w=.ok (.value (.pointer (some ⟨w.heap.size,0,none⟩))) (w.alloc (.cells v.cells e))) :
 Done P s W Φ ρ id w (.ptr id 0 0) (m.set id (.cells cs.length [cs])):=by
 have a:=i.cells_R f;refine Done.new (l:=⟨w.heap.size,0,cs.length,1⟩) h g d b rfl (BR.ext_put d (.cells _ _ _ _ _ rfl (by simp[a.1]) (by simp) (Z80 a c) (Zlv a c))) ?_
 have:=R.ptr (Φ:=Φ) (ρ:=ρ.put id ⟨w.heap.size,0,cs.length,1⟩) id 0 0 _ Rho.put_same;simpa using this
theorem Zeh{t:TypeId}{d:List AVal}(h:Zcj P t=some d)(Φ:Pers)(ρ:Rho):∃ i z y,P.info? t=some i∧i.zero=some z∧R Φ ρ y z∧y.cells=some d∧d.all AVal.one=true:=by
 unfold Zcj Zjp at h;cases hi:P.info? t with
 | none=>simp[hi]at h
 | some i=>
  cases a:i.zero with
  | none=>simp[hi,a]at h
  | some z=>
   cases c:absV z with
   | none=>simp[hi,a,c]at h
   | some y=>
    simp only[hi,a,c]at h;cases b:y.cells with
    | none=>simp[b]at h
    | some cs=>
     simp only[b]at h;split at h
     ·rename_i e;injection h with h; subst h
      exact⟨i,z,y,rfl,a,Zq1 Φ ρ c,b,e⟩
     ·cases h
def aggD:TypeDesc→Bool
 | .struct _ | .array _ _=>true
 | _=>false
theorem Zsl{t:TypeId}{n:Option Nat}(h:Zd3 P t=some n):∃ d i,P.underlying t=some d∧P.info? t=some i ∧
 ((n=some i.size∧aggD d=true)∨(n=none∧aggD d=false)):=by
 unfold Zd3 at h;cases a:P.underlying t with
 | none=>simp[a]at h
 | some d=>
  cases hi:P.info? t with
  | none=>cases d<;>simp[a,hi]at h
  | some i=>
   refine⟨d,i,rfl,rfl,?_⟩;cases d<;>simp[a,hi]at h<;>first|exact .inl ⟨h.symm,rfl⟩|exact .inr ⟨h.symm,rfl⟩
theorem Zn6{t:TypeId}{d:TypeDesc}(h:P.underlying t=some d):(isAgg t).run P w=.ok (aggD d) w:=by
 simp only[isAgg,Sem.run_bind,V3 h,Result.andThen_ok];cases d<;>rfl
theorem Zvg{t:TypeId}{n:Option Nat}{D y:AVal}{F:Value}(K:Rel W Φ ρ m w)(L:R Φ ρ D F)(G:Zd3 P t=some n)(b:Zc1 m n D=some y) :
 ∃ u,(Instr.loadAt t F).run P w=.ok u w∧R Φ ρ y u:=by
 unfold Zc1 at b;cases f:Za9 m D with
 | none=>simp[f]at b
 | some M=>
  obtain⟨row,j⟩:=M;simp only[f]at b;obtain⟨B,o,c,e,fz,rfl,E,a⟩:=Zzb K L f;obtain⟨d,i,H,hi,g⟩:=Zsl G;have p:=Zn6 (w:=w) H;simp only[Instr.loadAt,Instr.sureAddr,Sem.run_bind,Sem.run_pure,Result.andThen_ok,loadVar,p];rcases g with⟨rfl,h⟩|⟨rfl,h⟩
  ·simp only at b;split at b
   ·rename_i I;injection b with b
    subst b;rw[h];simp only[if_true,Sem.run_bind,E6 hi,Result.andThen_ok];have A:o+i.size≤c.size:=by
     have z:j+(i.size - 1)<row.length:=by omega
     obtain⟨u,r,_⟩:=a (i.size - 1) _ (gE z);have:=(Array.getElem?_eq_some_iff.1 r).1;omega
    rw[Zoa E A];refine⟨_,rfl,.agg _ _ (by simp; omega) fun q y v C l=>?_⟩
    have J:q<i.size:=by
     have:=(gS.1 C).1;simp at this; omega
    rw[List.getElem?_take,if_pos J,List.getElem?_drop]at C;obtain⟨u,r,k⟩:=a q y C;rw[Array.getElem?_extract]at l;split at l
    ·rw[r]at l; injection l with l; subst l; exact k
    ·cases l
   ·cases b
  ·simp only at b;rw[h];simp only[bF,if_false];obtain⟨u,r,k⟩:=a 0 y (by simpa using b)
   have s:w.cell? ⟨B,o,none⟩=some u:=by
    simp only[World.cell?,E,Option.isSome_none,bF,if_false];simpa using r
   rw[run_load,s];exact⟨u,rfl,k⟩
theorem Zt9(cs:List AVal):∀ (row:List AVal) (j:Nat),(T0 row j cs).length=row.length:=by
 induction cs with
 | nil=>intro row j; rfl
 | cons v r a=>intro row j; simp[T0,a]
theorem Zpt(cs:List AVal):∀ (row:List AVal) (j q:Nat),(T0 row j cs)[q]? = if j≤q∧q<j+cs.length∧q<row.length then cs[q - j]? else row[q]?:=by
 induction cs with
 | nil=>intro row j q; simp[T0]; intro a b; omega
 | cons v r d=>
  intro row j q;simp only[T0,d,List.length_set,List.length_cons,List.getElem?_set];by_cases a:j+1≤q∧q<j+1+r.length∧q<row.length
  ·rw[if_pos a,if_pos (by omega)]
   have:q - j=(q - (j+1))+1:=by omega
   rw[this,List.getElem?_cons_succ]
  ·rw[if_neg a];by_cases b:j=q
   ·subst b;by_cases c:j<row.length
    ·simp[c]
    ·simp[c]
   ·rw[if_neg b,if_neg (by omega)]
theorem Z09{a b k j n q:Nat}(c:a≠b)(d:j+n≤k)(e:q<k):¬(a*k+j≤b*k+q∧b*k+q<a*k+j+n):=by
 rcases Nat.lt_or_gt_of_ne c with h|h
 ·have:(a+1)*k≤b*k:=Nat.mul_le_mul_right k h;rw[Nat.add_mul]at this;omega
 ·have:(b+1)*k≤a*k:=Nat.mul_le_mul_right k h;rw[Nat.add_mul]at this;omega
theorem Zej{a n k q:Nat}(h:a<n)(b:q<k):a*k+q<n*k:=by
 have:(a+1)*k≤n*k:=Nat.mul_le_mul_right k h;rw[Nat.add_mul]at this;omega
theorem Zw8{els:List (List AVal)}{sh k n i j:Nat}{c:Array Value}{row cs:List AVal}{vs:Array Value}(d:RowsIn Φ ρ els sh k c)(F:c.size=n*k)(E:sh+els.length≤n)
 (hi:els[i]? = some row) (o:RL Φ ρ cs vs) (w:cs.all AVal.one=true) (D:j+cs.length≤row.length):RowsIn Φ ρ (els.set i (T0 row j cs)) sh k (O8 c ((sh+i)*k+j) vs.toList):=by
 have z:=d.1 i row hi;have r:i<els.length:=(gS.1 hi).1;refine⟨fun p f e=>?_,fun p f q x e l=>?_⟩
 ·rw[List.getElem?_set]at e;by_cases g:i=p
  ·rw[if_pos g,if_pos r]at e;injection e with e; subst e; rw[Zt9,z]
  ·rw[if_neg g]at e;exact d.1 p f e
 ·rw[List.getElem?_set]at e;rw[Zqt];simp only[Array.length_toList,o.1];by_cases g:i=p
  ·subst g;rw[if_pos rfl,if_pos r]at e;injection e with e
   subst e;rw[Zpt]at l;by_cases s:j≤q∧q<j+cs.length∧q<row.length
   ·rw[if_pos s]at l;have A:=Zej (a:=sh+i) (n:=n) (k:=k) (q:=q) (by omega) (by omega)
    rw[if_pos ⟨by omega,by omega,by omega⟩]
    have y:(sh+i)*k+q - ((sh+i)*k+j)=q - j:=by omega
    rw[y];have m:q - j<vs.size:=by rw[o.1]; omega
    have t:=o.2 (q - j) x _ l (Array.getElem?_eq_getElem m);refine⟨vs[q - j],by simp[m],Zik t (List.all_eq_true.1 w x (List.mem_of_getElem? l)),t⟩
   ·rw[if_neg s]at l;have B:q<row.length:=(gS.1 l).1;rw[if_neg (by omega)]
    exact d.2 i row q x hi l
  ·rw[if_neg g]at e;have v:q<k:=by
    have w:=d.1 p f e;have C:=(gS.1 l).1;omega
   have u:=Z09 (a:=sh+i) (b:=sh+p) (k:=k) (j:=j) (n:=cs.length) (q:=q) (by omega) (by omega) v
   rw[if_neg (fun h=>u ⟨h.1,h.2.1⟩)]
   exact d.2 p f q x e l
theorem Z9l{t:TypeId}{i:TypeInfo}{B o:Nat}{c:Array Value}{e:TypeId}(hi:P.info? t=some i)(d:w.heap[B]? = some (.cells c e (0,0)))(a:v.cells.size=i.size)
 (b:∀ u,u∈v.cells.toList→u.oneCell'=true) (f:o+i.size≤c.size) :
 (Instr.storeAt t (.pointer (some ⟨B,o,none⟩)) v).run P w=.ok () (P3 w B (.cells (O8 c o v.cells.toList) e (0,0))):=by
 simp only[Instr.storeAt,Instr.sureAddr,Sem.run_bind,Sem.run_pure,Result.andThen_ok,storeVar,E6 hi];rw[if_neg (by simp[a])]
 have:=Zom (P:=P) (B:=B) (o:=o) (e:=e) v.cells.toList 0 w c b d (by simp[a]; omega)
 simpa using this
theorem Z7f{t:TypeId}{n:Nat}{Q S:AVal}{Z J:Value}{m':Mem}(Y:Rel W Φ ρ m w)(hx:R Φ ρ Q Z)(hv:R Φ ρ S J)(I:N7 P t=some n)(f:Ze6 m n Q S=some m')
 (U:s.run P w=match (Instr.storeAt t Z J).run P w with | .ok _ w'=>.ok .skip w' | .halt h w'=>.halt h w'):Done P s W Φ ρ id w aundef m':=by
 unfold Ze6 at f;cases Q with
 | ptr b i j=>
  cases C:S.cells with
  | none=>simp[C]at f
  | some cs=>
   simp only[C]at f;cases D:m.get b with
   | none=>simp[D]at f
   | some blk=>
    cases blk with
    | cells k els=>
     simp only[D]at f;cases p:els[i]? with
     | none=>simp[p]at f
     | some row=>
      simp only[p]at f;split at f
      ·rename_i B;obtain⟨M,aa,E⟩:=B;injection f with f
       subst f;cases hx with
       | ptr _ _ _ l V=>
        obtain⟨l',o,H,g2,g3,g4,g5⟩:=Y.live b _ D;rw[V]at H; injection H with H; subst H
        cases g5 with
        | cells _ _ _ c e hk X z r L=>
         subst hk;have g:=hv.cells_R C;unfold N7 at I;cases hi:P.info? t with
         | none=>simp[hi]at I
         | some O=>
          simp only[hi,Option.map_some,oI]at I;have ac:=r.1 i row p;have ab:i<els.length:=(gS.1 p).1;have y:(l.sh+i)*l.k+j+O.size≤c.size:=by
           have:(l.sh+i+1)*l.k≤l.n*l.k:=Nat.mul_le_mul_right _ (by omega)
           rw[Nat.add_mul]at this;omega
          have A:∀ u,u∈J.cells.toList→u.oneCell'=true:=by
           intro u hu;obtain⟨q,N,rfl⟩:=List.getElem_of_mem hu;simp only[Array.length_toList]at N;have F:q<cs.length:=by rw[← g.1]; exact N
           have h1:=g.2 q _ _ (gE F) (Array.getElem?_eq_getElem N);have h2:(cs[q]).one=true:=List.all_eq_true.1 E _ (List.getElem_mem F);simpa using Zik h1 h2
          have G:=Z9l (P:=P) (v:=J) hi g4 (by rw[g.1,M,I]) A y
          rw[G]at U;exact Done.upd U Y D V (.cells _ _ _ _ _ rfl (by rw[Zfi,X]) (by simpa using z) (Zw8 r X z p g E (by omega)) (Zi5 _ _ _ L A))
      ·cases f
    | map es K=>simp[D]at f
    | siter s pos=>simp[D]at f
    | miter a b c d=>simp[D]at f
 | _=>simp at f
end
end Go.AE
end
section
namespace Go.AE
open Go.RowKit
section
variable {P:Program} {s:Sem Next} {W:Base} {Φ:Pers} {ρ:Rho} {id:Nat} {w w1:World} {m m':Mem} {x:AVal} {v:Value}
theorem Zfd{y:AVal}{n:Nat}(h:R Φ ρ y v)(a:U5 y=some n):∃ k,v=.int k (n:Int):=by
 cases h<;>simp only[U5]at a<;>try (cases a; done)
 split at a
 ·rename_i k z b;injection a with a
  subst a;exact⟨k,by rw[Int.toNat_of_nonneg b]⟩
 ·cases a
theorem Zeq{t:TypeId}{n:Nat}(h:N7 P t=some n):∃ i,P.info? t=some i∧i.size=n:=by
 unfold N7 at h;cases hi:P.info? t with
 | none=>simp[hi]at h
 | some i=>exact ⟨i,rfl,by simpa[hi]using h⟩
theorem Zs4{y z:AVal}{off:Nat}(h:R Φ ρ y v)(a:Q5 off y=some z):∃ B o,v=.pointer (some ⟨B,o,none⟩)∧R Φ ρ z (.pointer (some ⟨B,o+off,none⟩)):=by
 cases h with
 | ptr b i j l m=>
  simp only[Q5,oI]at a;subst a;refine⟨_,_,rfl,?_⟩;have:=R.ptr (Φ:=Φ) (ρ:=ρ) b i (j+off) l m;rwa[← Nat.add_assoc]at this
 | iptr els i j B o k c f d g e n=>
  simp only[Q5,oI]at a;subst a;refine⟨_,_,rfl,?_⟩;have:=R.iptr (Φ:=Φ) (ρ:=ρ) els i (j+off) B o k c f d g e n;rwa[← Nat.add_assoc]at this
 | _=>simp[Q5]at a
theorem Z8y{t:TypeId}{a:Array Field}{i n:Nat}{f:Field}{y z:AVal}(h:P.underlying t=some (.struct a))(d:a[i]? = some f)(e:N7 P f.type=some n)(b:n≠0)
 (j:R Φ ρ y v) (c:Q5 f.offset y=some z):∃ u,(Instr.fieldAt t v i).run P w=.ok u w∧R Φ ρ z u:=by
 obtain⟨B,o,rfl,k⟩:=Zs4 j c;obtain⟨l,hi,g⟩:=Zeq e;refine⟨_,?_,k⟩;simp only[Instr.fieldAt,Sem.run_bind,V3 h,Result.andThen_ok,d,Instr.sureAddr,Sem.run_pure,fieldPlace,E6 hi,g];rw[if_neg b];simp[Addr.add_none]
theorem Zr9{t:TypeId}{n:Option Nat}{cs:List AVal}{vs:Array Value}{off:Nat}{z:AVal}(l:Zd3 P t=some n)(h:RL Φ ρ cs vs)(a:Za7 cs off n=some z) :
 ∃ u,(part t vs off).run P w=.ok u w∧R Φ ρ z u:=by
 obtain⟨d,i,m,hi,b⟩:=Zsl l;have e:=Zn6 (w:=w) m;simp only[part,Sem.run_bind,e,Result.andThen_ok];rcases b with⟨rfl,c⟩|⟨rfl,c⟩
 ·rw[c];simp only[Za7]at a;split at a
  ·rename_i o;injection a with a
   subst a;simp only[if_true,Sem.run_bind,E6 hi,Result.andThen_ok,Sem.run_pure];refine⟨_,rfl,.agg _ _ (by simp[h.1]; omega) fun q y u j f=>?_⟩
   have p:q<i.size:=by
    have:=(gS.1 j).1;simp at this; omega
   rw[List.getElem?_take,if_pos p,List.getElem?_drop]at j;rw[Array.getElem?_extract]at f;split at f
   ·exact h.2 _ _ _ j f
   ·cases f
  ·cases a
 ·rw[c];simp only[Za7]at a;simp only[bF,if_false];have g:=(gS.1 a).1;have k:vs[off]? = some (vs[off]'(by rw[h.1]; exact g)):=Array.getElem?_eq_getElem _
  rw[k];exact⟨_,rfl,h.2 _ _ _ a k⟩
theorem Zky{cs:List AVal}(h:R Φ ρ (.agg cs) v):∃ vs,v=.agg vs∧RL Φ ρ cs vs:=by
 cases h with
 | agg cs vs b a=>exact ⟨vs,rfl,b,a⟩
theorem Z1p{t:TypeId}{a:Array Field}{i:Nat}{f:Field}{n:Option Nat}{cs:List AVal}{z:AVal}(e:P.underlying t=some (.struct a))(c:a[i]? = some f)(d:Zd3 P f.type=some n)
 (j:R Φ ρ (.agg cs) v) (b:Za7 cs f.offset n=some z):∃ u,(Instr.field t v i).run P w=.ok u w∧R Φ ρ z u:=by
 obtain⟨vs,rfl,h⟩:=Zky j;obtain⟨u,g,k⟩:=Zr9 (P:=P) (w:=w) d h b;refine⟨u,?_,k⟩;simp only[Instr.field,Sem.run_bind,V3 e,Result.andThen_ok,c,asAgg,Sem.run_pure,g]
theorem Zv7{t e:TypeId}{k i:Nat}{y:AVal}{z:AVal}{I:Value}{Y:IntKind}(V:Rel W Φ ρ m w)(F:P.underlying t=some (.slice e))(Q:N7 P e=some k)(G:R Φ ρ y v)(hi:I=.int Y (i:Int))
 (h:(∃ b off len els,y=.sl b off len∧m.get b=some (.cells k els)∧i<len∧z=.ptr b (off+i) 0)∨(∃ els row,y=.imm els∧els[i]? = some row∧row.length=k∧z=.iptr els i 0)) :
 ∃ u,(Instr.indexAt t v I).run P w=.ok u w∧R Φ ρ z u:=by
 subst hi;obtain⟨X,n,E⟩:=Zeq Q;rcases h with⟨b,off,len,els,rfl,N,A,rfl⟩|⟨els,row,rfl,d,p,rfl⟩
 ·cases G with
  | sl _ _ _ a cap l D S hn j M=>
   have L:=j (by omega)
   subst L;obtain⟨l',o,q,Z,g3,g4,J⟩:=V.live b _ N;rw[D]at q; injection q with q; subst q
   have s:l.k=k:=by cases J with|cells _ _ _ c e g _ _ _ _=>exact g
   refine⟨_,?_,R.ptr b (off+i) 0 l D⟩;simp only[Instr.indexAt,asIntOf,Sem.run_bind,Sem.run_pure,Result.andThen_ok,V3 F];rw[if_pos ⟨by omega,by omega⟩]
   simp only[Sem.run_bind,E6 n,Result.andThen_ok,Sem.run_pure,Int.toNat_natCast,Addr.add_none,E]
   congr 4
   rw[s,← Nat.add_assoc,Nat.add_mul (l.sh+off) i];rfl
 ·cases G with
  | imm0 a cap _=>simp at d
  | imm _ B o H cap c f U j K g O C=>
   have A:i<els.length:=(gS.1 d).1;have r:H=k:=by rw[← g i row d,p]
   subst r;refine⟨_,?_,R.iptr els i 0 B o H c f K g O C⟩;simp only[Instr.indexAt,asIntOf,Sem.run_bind,Sem.run_pure,Result.andThen_ok,V3 F];rw[if_pos ⟨by omega,by omega⟩]
   simp only[Sem.run_bind,E6 n,Result.andThen_ok,Sem.run_pure,Int.toNat_natCast,Addr.add_none,E];rfl
theorem Zz0{t e:TypeId}{n k i:Nat}{y z:AVal}{b:Value}{p:IntKind}(h:P.underlying t=some (.array n e))(d:N7 P e=some k)(j:R Φ ρ y v)(hi:b=.int p (i:Int))(f:i<n)
 (c:Q5 (i*k) y=some z):∃ u,(Instr.indexAt t v b).run P w=.ok u w∧R Φ ρ z u:=by
 subst hi;obtain⟨m,a,g⟩:=Zeq d;obtain⟨B,o,rfl,l⟩:=Zs4 j c;refine⟨_,?_,l⟩;simp only[Instr.indexAt,asIntOf,Sem.run_bind,Sem.run_pure,Result.andThen_ok,V3 h,Instr.sureAddr];rw[if_pos ⟨by omega,by omega⟩]
 simp only[Sem.run_bind,E6 a,Result.andThen_ok,Sem.run_pure,Int.toNat_natCast,Addr.add_none,g]
theorem Ycj{t:TypeId}{l:List UInt8}{i:Nat}{c:UInt8}{e:Value}{h:IntKind}(f:P.underlying t=some .string)(g:R Φ ρ (.str l) v)(hi:e=.int h (i:Int))(a:l[i]? = some c) :
 (Instr.index t v e).run P w=.ok (.int .u8 c.toNat) w:=by
 subst hi;cases g with
 | str _=>
  simp only[Instr.index,asIntOf,Sem.run_bind,Sem.run_pure,Result.andThen_ok,V3 f];rw[if_pos (by omega)]
  have:(ByteArray.mk ⟨l⟩)[(i:Int).toNat]? = some c:=by
   simp only[Int.toNat_natCast];have b:=(gS.1 a).1;have d:i<(ByteArray.mk ⟨l⟩).size:=b;rw[getElem?_pos (ByteArray.mk ⟨l⟩) i d];rw[gE b]at a;injection a with a
   subst a;rfl
  rw[this];rfl
theorem Z92{t e:TypeId}{n k i:Nat}{c:Option Nat}{cs:List AVal}{z:AVal}{d:Value}{s:IntKind}(m:P.underlying t=some (.array n e))(g:N7 P e=some k)(b:Zd3 P e=some c)
 (p:R Φ ρ (.agg cs) v) (hi:d=.int s (i:Int)) (j:i<n) (f:Za7 cs (i*k) c=some z):∃ u,(Instr.index t v d).run P w=.ok u w∧R Φ ρ z u:=by
 subst hi;obtain⟨r,a,l⟩:=Zeq g;obtain⟨vs,rfl,h⟩:=Zky p;obtain⟨u,o,q⟩:=Zr9 (P:=P) (w:=w) b h f;refine⟨u,?_,q⟩;simp only[Instr.index,asIntOf,Sem.run_bind,Sem.run_pure,Result.andThen_ok,V3 m];rw[if_pos ⟨by omega,by omega⟩]
 simp only[Sem.run_bind,E6 a,Result.andThen_ok,l,Int.toNat_natCast];exact o
end
end Go.AE
end
section
namespace Go.AE
open Go.RowKit
section
variable {P:Program} {s:Sem Next} {W:Base} {Φ:Pers} {ρ:Rho} {id:Nat} {w w1:World} {m m':Mem} {x:AVal} {v:Value}
theorem Zjs{y:AVal}{n b:Nat}{a:BoundsCode}(h:R Φ ρ y v)(d:U5 y=some n)(c:n≤b):(Instr.sliceBound v b a).run P w=.ok n w:=by
 obtain⟨k,rfl⟩:=Zfd h d;simp only[Instr.sliceBound,asIntOf,Sem.run_bind,Sem.run_pure,Result.andThen_ok];rw[if_pos ⟨by omega,by omega⟩]
 simp
def OptR(Φ:Pers)(ρ:Rho)(t:List AVal)(ao:Option AOpd)(vo:Option Value):Prop:=
 match ao,vo with
 | none,none=>True
 | some y,some u=>R Φ ρ (ev t y) u
 | _,_=>False
theorem Zhu{t:List AVal}{a:Act}(h:RL Φ ρ t a.tmps){o:Option Operand}{d:Option AOpd}(b:H8 o=some d):OptR Φ ρ t d (o.map a.eval):=by
 cases o with
 | none=>
  simp only[H8,oI]at b;subst b;trivial
 | some y=>
  simp only[H8]at b;cases c:Y4 y with
  | none=>simp[c]at b
  | some z=>
   simp only[c,oI]at b;subst b;exact T4 h c
theorem Zh2{t:List AVal}{len c cap l h:Nat}{lo hi:Option AOpd}{e d:Option Value}{b:Bool}(i:OptR Φ ρ t lo e)(g:OptR Φ ρ t hi d)(f:K4 t len c lo hi=some (l,h))
 (r:c≤cap):(Instr.sliceBounds b len cap e d none).run P w=.ok (l,h,cap) w∧l≤h∧h≤c:=by
 unfold K4 at f;cases j:G8 t len hi with
 | none=>simp[j]at f
 | some n=>
  simp only[j]at f;split at f
  ·rename_i o;cases k:G8 t 0 lo with
   | none=>simp[k]at f
   | some l'=>
    simp only[k]at f;split at f
    ·rename_i m;simp only[oI,pI2]at f;obtain⟨rfl,rfl⟩:=f;refine⟨?_,m,o⟩;have p:(d=none∧len=n) ∨ ∃ u,d=some u ∧ ∀(a:BoundsCode),(Instr.sliceBound u cap a).run P w=.ok n w:=by
      cases hi with
      | none=>
       cases d with
       | none=>simp only[G8,oI]at j; exact .inl ⟨rfl,j⟩
       | some u=>exact g.elim
      | some y=>
       cases d with
       | none=>exact g.elim
       | some u=>exact .inr ⟨u,rfl,fun a=>Zjs g j (by omega)⟩
     have q:(e=none∧0=l') ∨ ∃ u,e=some u ∧ ∀(a:BoundsCode),(Instr.sliceBound u n a).run P w=.ok l' w:=by
      cases lo with
      | none=>
       cases e with
       | none=>simp only[G8,oI]at k; exact .inl ⟨rfl,k⟩
       | some u=>exact i.elim
      | some y=>
       cases e with
       | none=>exact i.elim
       | some u=>exact .inr ⟨u,rfl,fun a=>Zjs i k (by omega)⟩
     rcases p with⟨rfl,rfl⟩|⟨s,rfl,p⟩<;>rcases q with⟨rfl,rfl⟩|⟨v,rfl,q⟩ <;>
      simp only[Instr.sliceBounds,Sem.run_bind,Sem.run_pure,Result.andThen_ok, *]
    ·cases f
  ·cases f
theorem Zij{t e:TypeId}{k:Nat}{a:Option Addr}{len cap l h:Nat}{d c f:Option Value}{g:Nat}(n:P.underlying t=some (.slice e))(j:N7 P e=some k)
 (i:(Instr.sliceBounds true len cap d c f).run P w=.ok (l,h,g) w) :
 (Instr.sliceAt t (.slice a len cap) d c f).run P w=.ok (.slice (if g=l then a else a.map (·.add (l*k))) (h - l) (g - l)) w:=by
 obtain⟨o,b,m⟩:=Zeq j;simp only[Instr.sliceAt,Instr.slice,Sem.run_bind,V3 n,Result.andThen_ok,i,E6 b,m,Sem.run_pure]
theorem Zy1{els:List (List AVal)}{k:Nat}(h:(els.all fun r=>r.length == k)=true)(i:Nat)(row:List AVal)(hi:els[i]? = some row):row.length=k:=by
 have:=List.all_eq_true.1 h row (List.mem_of_getElem? hi);simpa using this
theorem Z1b{els:List (List AVal)}{k l h len cap:Nat}{a:Option Addr}(C:R Φ ρ (.imm els) (.slice a len cap))(m:(els.all fun r=>r.length == k)=true)(I:l≤h)(D:h≤els.length) :
 R Φ ρ (.imm ((els.take h).drop l)) (.slice (if cap=l then a else a.map (·.add (l*k))) (h - l) (cap - l)):=by
 by_cases q:(els.take h).drop l=[]
 ·have d:h - l=0:=by
   have:=congrArg List.length q;simp at this;omega
  rw[q,d];refine .imm0 _ _ fun J=>?_
  rw[if_neg (by omega)]
  cases C with
  | imm0 a cap F=>
   obtain⟨B,o,rfl⟩:=F (by omega)
   exact⟨B,o+l*k,by simp only[Option.map_some,Addr.add_none]⟩
  | imm _ B o s cap c f v n z g A p=>exact ⟨B,o+l*k,by simp only[Option.map_some,Addr.add_none]⟩
 ·have E:l<h:=by
   rcases Nat.lt_or_ge l h with w|w
   ·exact w
   ·exfalso;apply q;apply List.eq_nil_of_length_eq_zero;simp; omega
  cases C with
  | imm0 a cap _=>simp at D; omega
  | imm _ B o s cap c f v n z g A p=>
   have u:s=k:=by
    have e:0<els.length:=by omega
    have G:=g 0 _ (gE e);have H:=Zy1 m 0 _ (gE e);omega
   subst u;rw[if_neg (by omega)]
   simp only[Option.map_some,Addr.add_none];have b:∀ (i:Nat) (row:List AVal),((els.take h).drop l)[i]? = some row→els[l+i]? = some row:=by
    intro i row hi;rw[List.getElem?_drop,List.getElem?_take]at hi;split at hi
    ·exact hi
    ·cases hi
   have d:h - l=((els.take h).drop l).length:=by simp; omega
   rw[d];refine .imm _ B (o+l*s) s (cap - l) c (fun i j=>f (l+i) j) q (by simp; omega) z (fun i row hi=>g _ row (b i row hi)) (fun i row j y hi t=>?_) (fun i row j y hi t=>p _ row j y (b i row hi) t)
   have:=A (l+i) row j y (b i row hi) t;refine⟨?_,this.2⟩;rw[← this.1]
   congr 1
   rw[Nat.add_mul]; omega
theorem Zk5{t e:TypeId}{k:Nat}{p:List AVal}{y:AVal}{lo hi:Option AOpd}{D C:Option Value}{z:AVal}{m2:Mem}(hr:Rel W Φ ρ m w)(I:P.underlying t=some (.slice e))(H:N7 P e=some k)(A:R Φ ρ y v)
 (j:OptR Φ ρ p lo D) (i:OptR Φ ρ p hi C)
 (h:(y=.nilSl∧(∃ M,K4 p 0 0 lo hi=some M)∧z=.nilSl∧m2=m)∨(y=.emp∧(∃ M,K4 p 0 0 lo hi=some M)∧z=.emp∧m2=m) ∨
   (∃ els l h,y=.imm els∧(els.all fun r=>r.length == k)=true∧K4 p els.length els.length lo hi=some (l,h)∧z=.imm ((els.take h).drop l)∧m2=m) ∨
   (∃ b off len els l h,y=.sl b off len∧m.get b=some (.cells k els)∧off+len≤els.length∧K4 p len (els.length - off) lo hi=some (l,h)∧z=.sl b (off+l) (h - l)∧m2=m)) :
 m2=m ∧ ∃ u,(Instr.sliceAt t v D C none).run P w=.ok u w∧R Φ ρ z u:=by
 rcases h with⟨rfl,⟨⟨l,h⟩,n⟩,rfl,rfl⟩|⟨rfl,⟨⟨l,h⟩,n⟩,rfl,rfl⟩|⟨els,l,h,rfl,q,n,rfl,rfl⟩|⟨b,off,len,els,l,h,rfl,X,Z,n,rfl,rfl⟩
 ·refine⟨rfl,?_⟩;cases A;obtain⟨g,F,G⟩:=Zh2 (P:=P) (w:=w) (b:=true) (cap:=0) j i n (Nat.le_refl _);obtain rfl:h=0:=by omega
  obtain rfl:l=0:=by omega
  exact⟨_,Zij I H g,.nilSl⟩
 ·refine⟨rfl,?_⟩;cases A with
  | emp a=>
   obtain⟨g,F,G⟩:=Zh2 (P:=P) (w:=w) (b:=true) (cap:=0) j i n (Nat.le_refl _);obtain rfl:h=0:=by omega
   obtain rfl:l=0:=by omega
   exact⟨_,Zij I H g,.emp _⟩
 ·refine⟨rfl,?_⟩;have hv:∃ a cap,v=.slice a els.length cap∧els.length≤cap:=by
   cases A with
   | imm0 a cap _=>exact ⟨_,_,rfl,Nat.zero_le _⟩
   | imm _ B o k' cap c f ab d hB s hc ac=>exact ⟨_,_,rfl,d⟩
  obtain⟨a,cap,rfl,d⟩:=hv;obtain⟨g,F,G⟩:=Zh2 (P:=P) (w:=w) (b:=true) (cap:=cap) j i n d;exact⟨_,Zij I H g,Z1b A q F G⟩
 ·refine⟨rfl,?_⟩;cases A with
  | sl _ _ _ a cap S N Y aa d J=>
   obtain⟨l',o,E,g2,g3,g4,U⟩:=hr.live b _ X;rw[N]at E; injection E with E; subst E
   cases U with
   | cells _ _ _ c e' s hn O L _=>
    have K:els.length - off≤cap:=by omega
    obtain⟨g,F,G⟩:=Zh2 (P:=P) (w:=w) (b:=true) (cap:=cap) j i n K;refine⟨_,Zij I H g,.sl b (off+l) (h - l) _ (cap - l) S N (by omega) (by omega) (fun Q=>?_) (by split<;>simp[J])⟩
    have V:=d (by omega)
    subst V;rw[if_neg (by omega)]
    simp only[Option.map_some,Addr.add_none]
    congr 2
    rw[← Nat.add_assoc,Nat.add_mul (S.sh+off) l,s]
theorem Zvz(l:List UInt8)(a b:Nat):(ByteArray.mk ⟨l⟩).extract a b=⟨⟨(l.take b).drop a⟩⟩:=by
 have c:=Lib.extract_data (ByteArray.mk ⟨l⟩) a b;cases h:(ByteArray.mk ⟨l⟩).extract a b with
 | mk d=>
  rw[h]at c;have e:d.toList=(l.take b).drop a:=by rw[List.drop_take]; simpa using c
  cases d;simp at e;rw[e]
theorem Z82{t:TypeId}{i:List AVal}{l:List UInt8}{lo hi:Option AOpd}{d c:Option Value}{a b:Nat}(k:P.underlying t=some .string)(m:R Φ ρ (.str l) v)
 (g:OptR Φ ρ i lo d) (f:OptR Φ ρ i hi c) (j:K4 i l.length l.length lo hi=some (a,b)) :
 ∃ u,(Instr.sliceAt t v d c none).run P w=.ok u w∧R Φ ρ (.str ((l.take b).drop a)) u:=by
 cases m with
 | str _=>
  obtain⟨e,n,o⟩:=Zh2 (P:=P) (w:=w) (b:=false) (cap:=l.length) g f j (Nat.le_refl _);refine⟨_,?_,.str _⟩;have h:(ByteArray.mk ⟨l⟩).size=l.length:=rfl;simp only[Instr.sliceAt,Instr.slice,Sem.run_bind,V3 k,Result.andThen_ok,Option.isSome_none,bF,if_false,Sem.run_pure,h,e,Zvz]
end
end Go.AE
end
section
namespace Go.AE
open Go.RowKit
section
variable {P:Program} {s:Sem Next} {W:Base} {Φ:Pers} {ρ:Rho} {id:Nat} {w w1:World} {m m':Mem} {x:AVal} {v:Value}
theorem F3{k:IntKind}{n:Int}(h:R Φ ρ (.int k n) v):v=.int k n:=by cases h; rfl
theorem Zat{l:List UInt8}(h:R Φ ρ (.str l) v):v=.string ⟨⟨l⟩⟩:=by cases h; rfl
theorem Zax{b:Bool}(h:R Φ ρ (.bool b) v):v=.bool b:=by cases h; rfl
theorem Zcs(l:List UInt8):(ByteArray.mk ⟨l⟩).toList=l:=Lib.toList_data _
theorem Yak{op:BinOp}{k:IntKind}{a b:Int}{z:AVal}{t:TypeId}(h:V6 op k a b=some z):∃ u,(binOp op t (.int k a) (.int k b)).run P w=.ok u w∧R Φ ρ z u:=by
 cases op
 case add=>simp only[V6,oI]at h; subst h; exact⟨.int k _,by simp[binOp,Op.intArith],.int _ _⟩
 case sub=>simp only[V6,oI]at h; subst h; exact⟨.int k _,by simp[binOp,Op.intArith],.int _ _⟩
 case mul=>simp only[V6,oI]at h; subst h; exact⟨.int k _,by simp[binOp,Op.intArith],.int _ _⟩
 case quo=>
  simp only[V6]at h;by_cases c:b=0
  ·rw[if_pos c]at h; cases h
  ·rw[if_neg c]at h; injection h with h; subst h
   exact⟨.int k _,by simp[binOp,Op.intDiv,c],.int _ _⟩
 case rem=>
  simp only[V6]at h;by_cases c:b=0
  ·rw[if_pos c]at h; cases h
  ·rw[if_neg c]at h; injection h with h; subst h
   exact⟨.int k _,by simp[binOp,Op.intDiv,c],.int _ _⟩
 case and=>simp only[V6,oI]at h; subst h; exact⟨.int k _,by simp only[binOp,Op.intBits]; simp,.int _ _⟩
 case or=>simp only[V6,oI]at h; subst h; exact⟨.int k _,by simp only[binOp,Op.intBits]; simp,.int _ _⟩
 case xor=>simp only[V6,oI]at h; subst h; exact⟨.int k _,by simp only[binOp,Op.intBits]; simp,.int _ _⟩
 case andNot=>simp only[V6,oI]at h; subst h; exact⟨.int k _,by simp only[binOp,Op.intBits]; simp,.int _ _⟩
 case eql=>simp only[V6,oI]at h; subst h; exact⟨.bool _,by simp only[binOp,Op.intCmp]; rw[if_neg (by simp)]; rfl,.bool _⟩
 case neq=>simp only[V6,oI]at h; subst h; exact⟨.bool _,by simp only[binOp,Op.intCmp]; rw[if_neg (by simp)]; rfl,.bool _⟩
 case lss=>simp only[V6,oI]at h; subst h; exact⟨.bool _,by simp only[binOp,Op.intCmp]; rw[if_neg (by simp)]; rfl,.bool _⟩
 case leq=>simp only[V6,oI]at h; subst h; exact⟨.bool _,by simp only[binOp,Op.intCmp]; rw[if_neg (by simp)]; rfl,.bool _⟩
 case gtr=>simp only[V6,oI]at h; subst h; exact⟨.bool _,by simp only[binOp,Op.intCmp]; rw[if_neg (by simp)]; rfl,.bool _⟩
 case geq=>simp only[V6,oI]at h; subst h; exact⟨.bool _,by simp only[binOp,Op.intCmp]; rw[if_neg (by simp)]; rfl,.bool _⟩
 all_goals (simp[V6]at h)
theorem Z86{op:BinOp}{a b:List UInt8}{z:AVal}{t:TypeId}(h:Zbb op a b=some z):∃ u,(binOp op t (.string ⟨⟨a⟩⟩) (.string ⟨⟨b⟩⟩)).run P w=.ok u w∧R Φ ρ z u:=by
 cases op
 case add=>
  simp only[Zbb]at h;split at h
  ·rename_i c;injection h with h; subst h
   refine⟨.string ⟨⟨a++b⟩⟩,?_,.str _⟩;have e:(ByteArray.mk ⟨a⟩++ByteArray.mk ⟨b⟩)=ByteArray.mk ⟨a++b⟩:=by
    have:=ByteArray.mk_append_mk a b;simpa using this
   simp only[binOp];rw[run_string_add_sum (w:=w) (P:=P) _ _ (by show a.length+b.length≤_; omega),e]
  ·cases h
 case eql=>simp only[Zbb,oI]at h; subst h; exact⟨.bool _,by simp only[binOp,Op.stringOp,Zcs]; rfl,.bool _⟩
 case neq=>simp only[Zbb,oI]at h; subst h; exact⟨.bool _,by simp only[binOp,Op.stringOp,Zcs]; rfl,.bool _⟩
 case lss=>simp only[Zbb,oI]at h; subst h; exact⟨.bool _,by simp only[binOp,Op.stringOp,Zcs]; rfl,.bool _⟩
 case leq=>simp only[Zbb,oI]at h; subst h; exact⟨.bool _,by simp only[binOp,Op.stringOp,Zcs]; rfl,.bool _⟩
 case gtr=>simp only[Zbb,oI]at h; subst h; exact⟨.bool _,by simp only[binOp,Op.stringOp,Zcs]; rfl,.bool _⟩
 case geq=>simp only[Zbb,oI]at h; subst h; exact⟨.bool _,by simp only[binOp,Op.stringOp,Zcs]; rfl,.bool _⟩
 all_goals (simp[Zbb]at h)
theorem Z06{t:TypeId}{k:KeyT}{y z:AVal}{i j:Value}{b:Bool}(d:Nat)(a:F6 P t=some k)(h:B3 k y z=some b)(f:R Φ ρ y i)(g:R Φ ρ z j) :
 (Op.equalIn (d+1) t i j).run P w=.ok b w:=by
 unfold F6 at a;cases c:P.underlying t with
 | none=>simp[c]at a
 | some ty=>
  cases ty<;>simp only[c]at a<;>first|(cases a; done)|(injection a with a; subst a)
  all_goals (cases y<;>cases z<;>simp only[B3]at h<;>first|(cases h; done)|skip)
  ·injection h with h; subst h
   rw[Zax f,Zax g];simp[Op.equalIn,V3 c]
  ·split at h
   ·rename_i e;injection h with h; subst h; subst e
    rw[F3 f,F3 g];simp[Op.equalIn,V3 c]
   ·cases h
  ·injection h with h; subst h
   rw[Zat f,Zat g];simp only[Op.equalIn,Sem.run_bind,V3 c,Result.andThen_ok,Sem.run_pure];rw[beq_toListBytes,Zcs,Zcs]
theorem RL.at_{cs:List AVal}{vs:Array Value}(h:RL Φ ρ cs vs){i:Nat}{y:AVal}(hi:cs[i]? = some y):∃ u,vs[i]? = some u∧R Φ ρ y u:=by
 have a:=(gS.1 hi).1;have b:vs[i]? = some (vs[i]'(by rw[h.1]; exact a)):=Array.getElem?_eq_getElem _
 exact⟨_,b,h.2 _ _ _ hi b⟩
theorem Zsg{t:TypeId}{k:KeyT}{cs:List AVal}{vs:Array Value}{i:Nat}{y:AVal}(c:F6 P t=some k)(h:RL Φ ρ cs vs)(hi:cs[i]? = some y):∃ u,(part t vs i).run P w=.ok u w∧R Φ ρ y u:=by
 obtain⟨u,f,e⟩:=h.at_ hi;refine⟨u,?_,e⟩;unfold F6 at c;cases a:P.underlying t with
 | none=>simp[a]at c
 | some ty=>
  have b:=Zn6 (w:=w) a;have d:aggD ty=false:=by cases ty<;>simp[a]at c<;>rfl
  simp only[part,Sem.run_bind,b,Result.andThen_ok,d,bF,if_false,f,Sem.run_pure]
theorem Zym(d:Nat){xs n:List AVal}{vx I:Array Value}(G:RL Φ ρ xs vx)(H:RL Φ ρ n I):∀ (F:List Field) (i:Nat) (ks:List KeyT) (b:Bool),Zgn P F i=some ks→Zbl ks (xs.drop i) (n.drop i)=some b →
 (Op.eqFields (d+1) vx I F).run P w=.ok b w
 | [],i,ks,b,g,e=>by
  simp only[Zgn,oI]at g;subst g;have K:b=true:=by
   cases h:xs.drop i<;>cases j:n.drop i<;>simp[h,j,Zbl]at e
   exact e
  subst K;rfl
 | f :: r,i,ks,b,g,e=>by
  simp only[Zgn]at g;split at g
  ·rename_i a;simp only[bA,bne_iff_ne,ne_eq,beq_iff_eq]at a;cases m:F6 P f.type with
   | none=>simp[m]at g
   | some k=>
    cases p:Zgn P r (i+1)with
    | none=>simp[m,p]at g
    | some C=>
     simp only[m,p,oI]at g;subst g;cases h:xs.drop i with
     | nil=>simp[h,Zbl]at e
     | cons x D=>
      cases j:n.drop i with
      | nil=>simp[h,j,Zbl]at e
      | cons y E=>
       simp only[h,j,Zbl]at e;have z:xs[i]? = some x:=by
        have:=congrArg (fun l=>l[0]?) h
        simpa[List.getElem?_drop]using this
       have B:n[i]? = some y:=by
        have:=congrArg (fun l=>l[0]?) j
        simpa[List.getElem?_drop]using this
       have v:xs.drop (i+1)=D:=by
        rw[← List.tail_drop,h]; rfl
       have A:n.drop (i+1)=E:=by
        rw[← List.tail_drop,j]; rfl
       obtain⟨L,t,q⟩:=Zsg (P:=P) (w:=w) m G z;obtain⟨M,u,s⟩:=Zsg (P:=P) (w:=w) m H B;rw[Op.eqFields,if_pos a.1,a.2];cases c:B3 k x y with
       | none=>simp[c]at e
       | some J=>
        have o:=Z06 (w:=w) d m c q s;simp only[Sem.run_bind,t,u,Result.andThen_ok,o];cases J with
        | false=>
         simp only[c,oI]at e;subst e;simp
        | true=>
         simp only[c]at e;simp only[Bool.not_true,bF,if_false];exact Zym d G H r (i+1) C b p (by rw[v,A]; exact e)
  ·cases g
theorem Zku{y:AVal}{b:Bool}(h:G5 .slice y=some b)(f:R Φ ρ y v):∃ a n c,v=.slice a n c∧a.isNone=b:=by
 cases f<;>simp only[G5]at h<;>try (cases h; done)
 ·injection h with h; subst h; exact⟨_,_,_,rfl,rfl⟩
 ·rename_i a _ _ _ _ _ _ d;injection h with h; subst h
  refine⟨_,_,_,rfl,?_⟩;rw[← Option.not_isSome,d]; rfl
 ·rename_i els _ _ _ _ _ _ e _ _ _ _ _;have:els.isEmpty=false:=by cases els<;>simp_all
  simp only[this,bF,if_false,oI]at h;subst h;exact⟨_,_,_,rfl,rfl⟩
theorem Znp{y:AVal}{b:Bool}(h:G5 .ptr y=some b)(c:R Φ ρ y v):∃ a,v=.pointer a∧a.isNone=b:=by
 cases c<;>simp only[G5]at h<;>try (cases h; done)
 all_goals (injection h with h; subst h; exact⟨_,rfl,rfl⟩)
theorem Zmk{y:AVal}{b:Bool}(h:G5 .map y=some b)(c:R Φ ρ y v):∃ a,v=.map a∧a.isNone=b:=by
 cases c<;>simp only[G5]at h<;>try (cases h; done)
 all_goals (injection h with h; subst h; exact⟨_,rfl,rfl⟩)
theorem Zly{y:AVal}{b:Bool}(h:G5 .func y=some b)(a:R Φ ρ y v):(v=.nilFunc∧b=true)∨(∃ f x c,v=.func f x c∧b=false):=by
 cases a<;>simp only[G5]at h<;>try (cases h; done)
 ·injection h with h; subst h; exact .inr ⟨_,_,_,rfl,rfl⟩
 ·injection h with h; subst h; exact .inl ⟨rfl,rfl⟩
theorem Zss{t b:TypeId}(d:Nat)(c:P.underlying t=some (.pointer b))(a:Option Addr):(Op.equalIn (d+1) t (.pointer a) (.pointer none)).run P w=.ok a.isNone w∧(Op.equalIn (d+1) t (.pointer none) (.pointer a)).run P w=.ok a.isNone w:=by
 cases a<;>simp[Op.equalIn,V3 c]
theorem Zur{t e:TypeId}(d:Nat)(f:P.underlying t=some (.slice e))(a:Option Addr)(n c b c':Nat):(Op.equalIn (d+1) t (.slice a n c) (.slice none b c')).run P w=.ok a.isNone w∧(Op.equalIn (d+1) t (.slice none b c') (.slice a n c)).run P w=.ok a.isNone w:=by
 cases a<;>simp[Op.equalIn,V3 f]
theorem Zzg{t k b:TypeId}(d:Nat)(c:P.underlying t=some (.map k b))(a:Option Nat):(Op.equalIn (d+1) t (.map a) (.map none)).run P w=.ok a.isNone w∧(Op.equalIn (d+1) t (.map none) (.map a)).run P w=.ok a.isNone w:=by
 cases a<;>simp[Op.equalIn,V3 c]
theorem Zml{t:TypeId}{a b:Array TypeId}{e:Bool}(d:Nat)(g:P.underlying t=some (.func a b e))(f:Fn)(x c:Array Value):(Op.equalIn (d+1) t .nilFunc .nilFunc).run P w=.ok true w∧(Op.equalIn (d+1) t (.func f x c) .nilFunc).run P w=.ok false w∧(Op.equalIn (d+1) t .nilFunc (.func f x c)).run P w=.ok false w:=by
 simp[Op.equalIn,V3 g]
theorem Znl{e:EqT}{y z:AVal}{b:Bool}(h:Zei e y z=some b):(G5 e z=some true∧G5 e y=some b)∨(G5 e y=some true∧G5 e z=some b):=by
 unfold Zei at h;split at h
 ·rename_i a; exact .inl ⟨a,h⟩
 ·split at h
  ·rename_i a; exact .inr ⟨a,h⟩
  ·cases h
theorem Ztx{op:BinOp}{t:TypeId}{e:EqT}{y z:AVal}{u A:Value}{b:Bool}{ox oy:Operand}(a:cEq P t=some e)(h:eqA e y z=some b)(o:R Φ ρ y u)(p:R Φ ρ z A) :
 (eqGuard op t ox oy u A).run P w=.ok () w∧(Op.equal t u A).run P w=.ok b w∧(∀ k n,u≠.int k n)∧(∀ s,u≠.string s)∧(∀ k n,A≠.int k n):=by
 unfold cEq at a;cases m:P.underlying t with
 | none=>simp[m]at a
 | some ty=>
  cases ty<;>simp only[m]at a<;>first|(cases a; done)|skip
  case bool=>
   injection a with a; subst a
   simp only[eqA]at h;split at h
   ·injection h with h; subst h
    rw[Zax o,Zax p];exact⟨by cases op<;>rfl,run_equal_bool w t _ _ m,by simp,by simp,by simp⟩
   ·cases h
  case int k=>injection a with a; subst a; simp[eqA]at h
  case string=>injection a with a; subst a; simp[eqA]at h
  case pointer el=>
   injection a with a; subst a
   rcases Znl h with⟨i,j⟩|⟨i,j⟩
   ·obtain⟨r,rfl,g⟩:=Znp i p;obtain⟨q,rfl,d⟩:=Znp j o;obtain rfl:r=none:=by simpa using g
    subst d;exact⟨by cases op<;>rfl,(Zss 9999 m _).1,by simp,by simp,by simp⟩
   ·obtain⟨r,rfl,g⟩:=Znp j p;obtain⟨q,rfl,d⟩:=Znp i o;obtain rfl:q=none:=by simpa using d
    subst g;exact⟨by cases op<;>rfl,(Zss 9999 m _).2,by simp,by simp,by simp⟩
  case slice el=>
   injection a with a; subst a
   rcases Znl h with⟨i,j⟩|⟨i,j⟩
   ·obtain⟨r,n2,F,rfl,g⟩:=Zku i p;obtain⟨q,n1,E,rfl,d⟩:=Zku j o;obtain rfl:r=none:=by simpa using g
    subst d;exact⟨by cases op<;>rfl,(Zur 9999 m _ _ _ _ _).1,by simp,by simp,by simp⟩
   ·obtain⟨r,n2,F,rfl,g⟩:=Zku j p;obtain⟨q,n1,E,rfl,d⟩:=Zku i o;obtain rfl:q=none:=by simpa using d
    subst g;exact⟨by cases op<;>rfl,(Zur 9999 m _ _ _ _ _).2,by simp,by simp,by simp⟩
  case map el e2=>
   injection a with a; subst a
   rcases Znl h with⟨i,j⟩|⟨i,j⟩
   ·obtain⟨r,rfl,g⟩:=Zmk i p;obtain⟨q,rfl,d⟩:=Zmk j o;obtain rfl:r=none:=by simpa using g
    subst d;exact⟨by cases op<;>rfl,(Zzg 9999 m _).1,by simp,by simp,by simp⟩
   ·obtain⟨r,rfl,g⟩:=Zmk j p;obtain⟨q,rfl,d⟩:=Zmk i o;obtain rfl:q=none:=by simpa using d
    subst g;exact⟨by cases op<;>rfl,(Zzg 9999 m _).2,by simp,by simp,by simp⟩
  case func q r a3=>
   injection a with a; subst a
   rcases Znl h with⟨i,j⟩|⟨i,j⟩
   ·rcases Zly i p with⟨rfl,_⟩|⟨f,x,c,rfl,B⟩
    ·rcases Zly j o with⟨rfl,rfl⟩|⟨f,x,c,rfl,rfl⟩
     ·exact⟨by cases op<;>rfl,(Zml 9999 m (.func 0) #[] #[]).1,by simp,by simp,by simp⟩
     ·exact⟨by cases op<;>rfl,(Zml 9999 m _ _ _).2.1,by simp,by simp,by simp⟩
    ·cases B
   ·rcases Zly i o with⟨rfl,_⟩|⟨f,x,c,rfl,B⟩
    ·rcases Zly j p with⟨rfl,rfl⟩|⟨f,x,c,rfl,rfl⟩
     ·exact⟨by cases op<;>rfl,(Zml 9999 m (.func 0) #[] #[]).1,by simp,by simp,by simp⟩
     ·exact⟨by cases op<;>rfl,(Zml 9999 m _ _ _).2.2,by simp,by simp,by simp⟩
    ·cases B
  case struct fs=>
   split at a
   ·cases a
   ·rename_i l;simp only[Bool.or_eq_true,not_or,Bool.not_eq_true]at l;cases C:Zgn P fs.toList 0 with
    | none=>simp[C]at a
    | some ks=>
     simp only[C,oI]at a;subst a;simp only[eqA]at h;split at h
     ·rename_i xs H;obtain⟨vx,rfl,G⟩:=Zky o;obtain⟨u,rfl,D⟩:=Zky p;refine⟨run_eqGuard_agg w op t ox oy vx u l.2,?_,by simp,by simp,by simp⟩
      have v:P.fieldsOf t=fs:=by simp[Program.fieldsOf,m]
      have:=run_equalIn_struct (P:=P) w 9999 t vx u (by rw[v]; exact m) l.1
      rw[Op.equal,Op.maxDepth,this,v];exact Zym 9998 G D fs.toList 0 ks b C (by simpa using h)
     ·cases h
end
end Go.AE
end
section
namespace Go.AE
open Go.RowKit
section
variable {P:Program} {s:Sem Next} {W:Base} {Φ:Pers} {ρ:Rho} {id:Nat} {w w1:World} {m m':Mem} {x:AVal} {v:Value}
theorem Z0q{op:UnOp}{y z:AVal}(h:unA op y=some z)(a:R Φ ρ y v):∃ u,(Op.unary op v).run P w=.ok u w∧R Φ ρ z u:=by
 unfold unA at h;split at h
 ·injection h with h; subst h
  rw[F3 a];exact⟨.int _ _,by simp[Op.unary,Op.intArith],.int _ _⟩
 ·injection h with h; subst h
  rw[Zax a];exact⟨.bool _,by simp[Op.unary],.bool _⟩
 ·injection h with h; subst h
  rw[F3 a];exact⟨.int _ _,by simp only[Op.unary,Op.intBits]; simp,.int _ _⟩
 ·cases h
theorem Zro(place:Nat→Option (Nat×Nat)):∀ (ps:List (Nat×Value)) (as:List (Nat×Nat×AVal)) (cs:List AVal) (vs:Array Value) (d:List AVal),RL Φ ρ cs vs→as.length=ps.length →
 (∀(q:Nat) (p:Nat×Value) (a:Nat×Nat×AVal),ps[q]? = some p→as[q]? = some a→place p.1=some (a.1,a.2.1)∧R Φ ρ a.2.2 p.2)→H5 cs as=some d →
 ∃ m,Instr.fill place vs ps=some m∧RL Φ ρ d m
 | [],[],cs,vs,d,h,_,_,g=>by
  simp only[H5,oI]at g;subst g;exact⟨vs,rfl,h⟩
 | [],a :: as,cs,vs,d,_,o,_,_=>by simp at o
 | p :: ps,[],cs,vs,d,_,o,_,_=>by simp at o
 | (i,u) :: ps,(off,size,y) :: as,cs,vs,d,h,o,D,g=>by
  obtain⟨E,F⟩:=D 0 (i,u) (off,size,y) rfl rfl;simp only[H5]at g;cases w:y.cells with
  | none=>simp[w]at g
  | some J=>
   simp only[w]at g;split at g
   ·rename_i A;have b:=F.cells_R w;have s:RL Φ ρ (T0 cs off J) (u.cells.zipIdx.foldl (fun cs (c,j)=>cs.setIfInBounds (off+j) c) vs):=by
     have key:∀ (l:List Value) (k:Nat) (vs:Array Value),(l.zipIdx k).foldl (fun cs (x:Value×Nat)=>cs.setIfInBounds (off+x.2) x.1) vs=O8 vs (off+k) l:=by
      intro l
      induction l with
      | nil=>intro k vs; rfl
      | cons v r I=>intro k vs; simp only[List.zipIdx_cons,List.foldl_cons,O8,I]; rfl
     have e:u.cells.zipIdx.foldl (fun cs (c,j)=>cs.setIfInBounds (off+j) c) vs=O8 vs off u.cells.toList:=by
      rw[← Array.foldl_toList,Array.toList_zipIdx];exact key u.cells.toList 0 vs
     rw[e];refine⟨by rw[Zfi,Zt9,h.1],fun q z K t f=>?_⟩
     rw[Zpt]at t;rw[Zqt]at f;simp only[Array.length_toList,b.1,h.1]at f;split at t
     ·rename_i n;rw[if_pos n]at f;exact b.2 _ _ _ t (by simpa using f)
     ·rename_i n;rw[if_neg n]at f;exact h.2 _ _ _ t f
    obtain⟨m,B,C⟩:=Zro place ps as _ _ d s (by simpa using o) (fun q p a H G=>D (q+1) p a (by simpa using H) (by simpa using G)) g
    refine⟨m,?_,C⟩;rw[Instr.fill,E];simp only;rw[if_neg (by simp[b.1,h.1]; omega)]
    exact B
   ·cases g
theorem Zwf{α a:Type}{g:α→Sem a}{f:α→a}{w:World}:∀ (l:List α),(∀ x,x∈l→(g x).run P w=.ok (f x) w)→(l.mapM g).run P w=.ok (l.map f) w
 | [],_=>by simp
 | x :: l,h=>by
  rw[List.mapM_cons];simp only[Sem.run_bind,h x (by simp),Result.andThen_ok,Zwf l (fun y b=>h y (by simp[b])),Sem.run_pure,List.map_cons]
theorem Z4j{α a:Type}{g:α→Sem a}{f:α→a}{w:World}(l:Array α)(h:∀ x,x∈l.toList→(g x).run P w=.ok (f x) w):(l.mapM g).run P w=.ok (l.map f) w:=by
 rw[Array.mapM_eq_mapM_toList];simp only[Sem.run_map,Zwf l.toList h,Result.andThen_ok]
 congr 1
 cases l; simp
theorem Zwt{t:List AVal}{a:Act}(s:RL Φ ρ t a.tmps)(e:List Field):∀ (ps:List (Nat×Operand)) (as:List (Nat×Nat×AOpd)),Zg1 P e ps=some as →
 as.length=ps.length ∧ ∀(q:Nat) (p:Nat×Operand) (b:Nat×Nat×AOpd),ps[q]? = some p→as[q]? = some b→(∃ f,e[p.1]? = some f∧b.1=f.offset∧N7 P f.type=some b.2.1)∧Y4 p.2=some b.2.2
 | [],as,h=>by
  simp only[Zg1,oI]at h;subst h;exact⟨rfl,fun q p b d=>by simp at d⟩
 | (i,y) :: ps,as,h=>by
  simp only[Zg1]at h;cases c:e[i]? with
  | none=>simp[c]at h
  | some f=>
   cases g:N7 P f.type with
   | none=>simp[c,g]at h
   | some n=>
    cases k:Y4 y with
    | none=>simp[c,g,k]at h
    | some z=>
     cases m:Zg1 P e ps with
     | none=>simp[c,g,k,m]at h
     | some l=>
      simp only[c,g,k,m,oI]at h;subst h;obtain⟨o,r⟩:=Zwt s e ps l m;refine⟨by simp[o],fun q p b d j=>?_⟩
      cases q with
      | zero=>
       simp only[List.getElem?_cons_zero,oI]at d j;subst d; subst j;exact⟨⟨f,c,rfl,g⟩,k⟩
      | succ q=>
       simp only[List.getElem?_cons_succ]at d j;exact r q p b d j
theorem Zzh(n:Nat):∀ (ps:List (Nat×Operand)) (as:List (Nat×Nat×AOpd)),Zg2 n ps=some as →
 as.length=ps.length ∧ ∀(q:Nat) (p:Nat×Operand) (b:Nat×Nat×AOpd),ps[q]? = some p→as[q]? = some b→b.1=p.1*n∧b.2.1=n∧Y4 p.2=some b.2.2
 | [],as,h=>by
  simp only[Zg2,oI]at h;subst h;exact⟨rfl,fun q p b a=>by simp at a⟩
 | (i,y) :: ps,as,h=>by
  simp only[Zg2]at h;cases d:Y4 y with
  | none=>simp[d]at h
  | some z=>
   cases f:Zg2 n ps with
   | none=>simp[d,f]at h
   | some e=>
    simp only[d,f,oI]at h;subst h;obtain⟨g,j⟩:=Zzh n ps e f;refine⟨by simp[g],fun q p b a c=>?_⟩
    cases q with
    | zero=>
     simp only[List.getElem?_cons_zero,oI]at a c;subst a; subst c;exact⟨rfl,rfl,d⟩
    | succ q=>
     simp only[List.getElem?_cons_succ]at a c;exact j q p b a c
theorem Z0i{t:TypeId}{c:Array Field}{F cs:List AVal}{ps:Array (Nat×Operand)}{as:List (Nat×Nat×AOpd)}{D:List AVal}{a:Act}(I:RL Φ ρ D a.tmps)(Q:P.underlying t=some (.struct c))
 (S:Zcj P t=some F) (O:Zg1 P c.toList ps.toList=some as) (m:H5 F (as.map fun p=>(p.1,p.2.1,ev D p.2.2))=some cs) (e:∀ f,f∈c.toList → ∃ i,P.info? f.type=some i) :
 ∃ u,(Instr.build t (ps.map fun(i,x)=>(i,a.eval x))).run P w=.ok u w∧R Φ ρ (.agg cs) u:=by
 obtain⟨i,z,y,K,L,M,N,_⟩:=Zeh S Φ ρ;have C:=M.cells_R N;obtain⟨j,d⟩:=Zwt I c.toList ps.toList as O;have hm:=Z4j (P:=P) (w:=w) (g:=fun f:Field=>do pure (f.offset,← sizeOf f.type)) (f:=fun f:Field=>(f.offset,P.cellsOf f.type)) c (fun f m=>by
  obtain⟨i,hi⟩:=e f m;simp only[Sem.run_bind,E6 hi,Result.andThen_ok,Sem.run_pure,Program.cellsOf,hi];rfl)
 obtain⟨E,B,k⟩:=Zro (Φ:=Φ) (ρ:=ρ) (fun q=>(c.map fun f:Field=>(f.offset,P.cellsOf f.type))[q]?) (ps.map fun(i,x)=>(i,a.eval x)).toList (as.map fun p=>(p.1,p.2.1,ev D p.2.2)) F z.cells cs C
  (by simp[j]) (fun q p b H G=>by
    simp only[Array.toList_map,List.getElem?_map,Option.map_eq_some_iff]at H G;obtain⟨J,v,rfl⟩:=H;obtain⟨b0,l,rfl⟩:=G;obtain⟨⟨f,n,o,r⟩,s⟩:=d q J b0 v l;obtain⟨U,h,A⟩:=Zeq r;refine⟨?_,T4 I s⟩;simp only[Array.getElem?_map];have:c[J.1]? = some f:=by simpa using n
    rw[this];simp[Program.cellsOf,h,A,o]) m
 refine⟨.agg E,?_,.agg _ _ k.1 k.2⟩;simp only[Instr.build,Sem.run_bind,Zcc K L,Result.andThen_ok,V3 Q,hm,B,Sem.run_pure]
theorem Ya1{t e:TypeId}{k n:Nat}{D cs:List AVal}{ps:Array (Nat×Operand)}{as:List (Nat×Nat×AOpd)}{B:List AVal}{a:Act}(N:RL Φ ρ B a.tmps)(O:P.underlying t=some (.array k e))(L:N7 P e=some n)
 (Q:Zcj P t=some D) (M:Zg2 n ps.toList=some as) (K:H5 D (as.map fun p=>(p.1,p.2.1,ev B p.2.2))=some cs) :
 ∃ u,(Instr.build t (ps.map fun(i,x)=>(i,a.eval x))).run P w=.ok u w∧R Φ ρ (.agg cs) u:=by
 obtain⟨i,z,y,G,H,I,J,_⟩:=Zeh Q Φ ρ;have A:=I.cells_R J;obtain⟨h,d,s⟩:=Zeq L;obtain⟨f,c⟩:=Zzh n ps.toList as M;obtain⟨C,v,g⟩:=Zro (Φ:=Φ) (ρ:=ρ) (fun q=>some (q*h.size,h.size)) (ps.map fun(i,x)=>(i,a.eval x)).toList (as.map fun p=>(p.1,p.2.1,ev B p.2.2)) D z.cells cs A
  (by simp[f]) (fun q p b F E=>by
    simp only[Array.toList_map,List.getElem?_map,Option.map_eq_some_iff]at F E;obtain⟨S,r,rfl⟩:=F;obtain⟨b0,j,rfl⟩:=E;obtain⟨l,m,o⟩:=c q S b0 r j;refine⟨?_,T4 N o⟩;simp[l,m,s]) K
 refine⟨.agg C,?_,.agg _ _ g.1 g.2⟩;simp only[Instr.build,Sem.run_bind,Zcc G H,Result.andThen_ok,V3 O,E6 d,v,Sem.run_pure]
end
end Go.AE
end
section
namespace Go.AE
open Go.RowKit
section
variable {P:Program} {s:Sem Next} {W:Base} {Φ:Pers} {ρ:Rho} {id:Nat} {w w1:World} {m m':Mem} {x:AVal} {v:Value}
theorem Z87{cs row:List AVal}(h:cs.length=row.length):T0 row 0 cs=cs:=by
 apply List.ext_getElem?;intro q;rw[Zpt];by_cases a:q<row.length
 ·rw[if_pos ⟨Nat.zero_le _,by omega,a⟩]; rfl
 ·rw[if_neg (by omega),List.getElem?_eq_none (by omega),List.getElem?_eq_none (by omega)]
theorem mul_add_mod{i j k:Nat}(h:j<k):(i*k+j) % k=j:=by
 rw[Nat.mul_comm,Nat.mul_add_mod];exact Nat.mod_eq_of_lt h
theorem Zjc{f:List AVal}{d:Array Value}{k len:Nat}(h:RL Φ ρ f d)(q:f.all AVal.one=true)(o:f.length=k)(r:0<k) :
 RowsIn Φ ρ (List.replicate len f) 0 k ((Array.range (len*k)).map fun i=>d[i % d.size]!):=by
 refine⟨fun i row hi=>?_,fun i row j y hi l=>?_⟩
 ·have:=List.mem_of_getElem? hi;rw[List.eq_of_mem_replicate this,o]
 ·have c:=List.eq_of_mem_replicate (List.mem_of_getElem? hi);subst c;have g:i<len:=by
   have:=(gS.1 hi).1;simpa using this
  have b:j<k:=by
   have:=(gS.1 l).1;omega
  obtain⟨u,n,p⟩:=h.at_ l;have m:=Zej g b;refine⟨u,?_,Zik p (List.all_eq_true.1 q y (List.mem_of_getElem? l)),p⟩;rw[Nat.zero_add,Array.getElem?_map,Array.getElem?_range,if_pos m];simp only[Option.map_some,oI];have e:(i*k+j) % d.size=j:=by rw[h.1,o]; exact mul_add_mod b
  rw[e];have a:=(Array.getElem?_eq_some_iff.1 n).1;rw[getElem!_pos d j a];rw[Array.getElem?_eq_getElem a]at n;injection n
theorem Zg9{t:TypeId}{k b:Nat}{z:List AVal}(h:A7 P t=some (k,b,z)):∃ e i,P.underlying t=some (.slice e)∧P.info? e=some i∧i.size=k∧i.bytes=b∧Zcj P e=some z∧z.length=k∧0<k:=by
 unfold A7 at h;split at h
 ·rename_i e l;cases c:N7 P e with
  | none=>simp[c]at h
  | some m=>
   cases d:Zpw P e with
   | none=>simp[c,d]at h
   | some b'=>
    cases j:Zcj P e with
    | none=>simp[c,d,j]at h
    | some n=>
     simp only[c,d,j]at h;split at h
     ·rename_i a;simp only[oI,pI2]at h;obtain⟨rfl,rfl,rfl⟩:=h;obtain⟨i,hi,g⟩:=Zeq c;have f:i.bytes=b':=by simpa[Zpw,hi]using d
      exact⟨e,i,l,hi,g,f,j,a.1,a.2⟩
     ·cases h
 ·cases h
theorem Zr3{k:Nat}:∀ (ps:List (Nat×Value)) (as:List (Nat×AVal)) (els:List (List AVal)) (c:Array Value) (b:List (List AVal)),RowsIn Φ ρ els 0 k c→c.size=els.length*k→as.length=ps.length →
 (∀(q:Nat) (p:Nat×Value) (a:Nat×AVal),ps[q]? = some p→as[q]? = some a→p.1=a.1∧R Φ ρ a.2 p.2)→L4 k els as=some b →
 ∃ c',Instr.fill (fun i=>some (i*k,k)) c ps=some c'∧RowsIn Φ ρ b 0 k c'∧c'.size=c.size∧b.length=els.length
 | [],[],els,c,b,h,_,_,_,g=>by
  simp only[L4,oI]at g;subst g;exact⟨c,rfl,h,rfl,rfl⟩
 | [],a :: as,_,_,_,_,_,w,_,_=>by simp at w
 | p :: ps,[],_,_,_,_,_,w,_,_=>by simp at w
 | (i,u) :: ps,(N,y) :: as,els,c,b,h,s,w,E,g=>by
  obtain⟨C,D⟩:=E 0 (i,u) (N,y) rfl rfl;simp only at C D;subst C;simp only[L4]at g;cases z:y.cells with
  | none=>simp[z]at g
  | some P=>
   simp only[z]at g;split at g
   ·rename_i o;obtain⟨A,t,B⟩:=o;have d:=D.cells_R z;have key:∀ (l:List Value) (q:Nat) (vs:Array Value),(l.zipIdx q).foldl (fun cs (x:Value×Nat)=>cs.setIfInBounds (i*k+x.2) x.1) vs=O8 vs (i*k+q) l:=by
     intro l
     induction l with
     | nil=>intro q vs; rfl
     | cons v r O=>intro q vs; simp only[List.zipIdx_cons,List.foldl_cons,O8,O]; rfl
    have e:u.cells.zipIdx.foldl (fun cs (c,j)=>cs.setIfInBounds (i*k+j) c) c=O8 c (i*k) u.cells.toList:=by
     rw[← Array.foldl_toList,Array.toList_zipIdx];exact key u.cells.toList 0 c
    have m:els[i]? = some els[i]:=gE t;have M:=h.1 i _ m;have f:=Zw8 (n:=els.length) (i:=i) (j:=0) (cs:=P) (vs:=u.cells) h (by rw[s]) (by omega) m d B (by omega)
    rw[Z87 (by omega)]at f
    simp only[Nat.zero_add,Nat.add_zero]at f;obtain⟨c',F,G,H,I⟩:=Zr3 ps as _ _ b f (by rw[Zfi]; simpa using s) (by simpa using w) (fun q p a L J=>E (q+1) p a (by simpa using L) (by simpa using J)) g
    refine⟨c',?_,G,by rw[H,Zfi],by rw[I]; simp⟩
    have K:i*k+k≤c.size:=by
     rw[s];have:(i+1)*k≤els.length*k:=Nat.mul_le_mul_right k t;rw[Nat.add_mul]at this;omega
    rw[Instr.fill];simp only;rw[if_neg (by simp[d.1,A]; omega),e]
    exact F
   ·cases g
theorem Zvy:∀ (ps:List (Nat×Operand)) (as:List (Nat×AOpd)),Zgv ps=some as →
 as.length=ps.length ∧ ∀(q:Nat) (p:Nat×Operand) (b:Nat×AOpd),ps[q]? = some p→as[q]? = some b→p.1=b.1∧Y4 p.2=some b.2
 | [],as,h=>by
  simp only[Zgv,oI]at h;subst h;exact⟨rfl,fun q p b a=>by simp at a⟩
 | (i,y) :: ps,as,h=>by
  simp only[Zgv]at h;cases d:Y4 y with
  | none=>simp[d]at h
  | some z=>
   cases f:Zgv ps with
   | none=>simp[d,f]at h
   | some e=>
    simp only[d,f,oI]at h;subst h;obtain⟨g,j⟩:=Zvy ps e f;refine⟨by simp[g],fun q p b a c=>?_⟩
    cases q with
    | zero=>
     simp only[List.getElem?_cons_zero,oI]at a c;subst a; subst c;exact⟨rfl,d⟩
    | succ q=>
     simp only[List.getElem?_cons_succ]at a c;exact j q p b a c
theorem Zae{els:List (List AVal)}{k:Nat}{c:Array Value}(h:RowsIn Φ ρ els 0 k c)(l:c.size=els.length*k)(g:0<k):∀ u,u∈c.toList→u.oneCell'=true:=by
 intro u m;obtain⟨p,i,rfl⟩:=List.getElem_of_mem m;simp only[Array.length_toList]at i;have hi:p / k<els.length:=by
  rw[Nat.div_lt_iff_lt_mul g]; omega
 have b:els[p / k]? = some els[p / k]:=gE hi;have d:=h.1 _ _ b;have j:p % k<(els[p / k]).length:=by rw[d]; exact Nat.mod_lt _ g
 obtain⟨u,a,f,_⟩:=h.2 (p / k) _ (p % k) _ b (gE j);have e:(0+p / k)*k+p % k=p:=by rw[Nat.zero_add,Nat.mul_comm]; exact Nat.div_add_mod p k
 rw[e,Array.getElem?_eq_getElem i]at a;injection a with a
 simpa[a]using f
theorem Zmo{k len cap:Nat}{els:List (List AVal)}{c:Array Value}{e:TypeId}(n:Rel W Φ ρ m w1)(j:ρ id=none)(g:id<m.next)(f:len≤cap)(d:els.length≤cap)
 (i:c.size=cap*k) (a:RowsIn Φ ρ els 0 k c) (b:∀ v,v∈c.toList→v.oneCell'=true) (h:s.run P w=.ok (.value (.slice (some ⟨w1.heap.size,0,none⟩) len cap)) (w1.alloc (.cells c e))) :
 Done P s W Φ ρ id w (.sl id 0 len) (m.set id (.cells k els)):=by
 refine Done.new (l:=⟨w1.heap.size,0,k,cap⟩) h n j g rfl (BR.ext_put j (.cells _ _ _ _ _ rfl i (by simpa using d) a b)) ?_
 exact .sl id 0 len _ cap ⟨w1.heap.size,0,k,cap⟩ Rho.put_same f (by simp) (fun _=>by simp) rfl
theorem Z3v{t:TypeId}{k b len:Nat}{z:List AVal}{ps:Array (Nat×Operand)}{as:List (Nat×AOpd)}{G:List AVal}{a:Act}{els:List (List AVal)}(hr:Rel W Φ ρ m w)(ht:RL Φ ρ G a.tmps)
 (Z:ρ id=none) (C:id<m.next) (V:A7 P t=some (k,b,z)) (hp:Zgv ps.toList=some as) (Y:len*k≤2 ^ 24)
 (X:L4 k (List.replicate len z) (as.map fun p=>(p.1,ev G p.2))=some els)
 (hs:∀ u w',(Instr.buildSlice t len (ps.map fun(i,x)=>(i,a.eval x))).run P w=.ok u w'→s.run P w=.ok (.value u) w'):Done P s W Φ ρ id w (.sl id 0 len) (m.set id (.cells k els)):=by
 obtain⟨e,i,hu,hi,d,A,hz,F,j⟩:=Zg9 V;obtain⟨i',zv,y,o,O,Q,S,U⟩:=Zeh hz Φ ρ;rw[hi]at o; injection o with o; subst o
 have E:=Q.cells_R S;obtain⟨l,g⟩:=Zvy ps.toList as hp;have h:=Zjc (len:=len) E U F j;obtain⟨c',N,H,I,J⟩:=Zr3 (Φ:=Φ) (ρ:=ρ) (k:=k) (ps.map fun(i,x)=>(i,a.eval x)).toList (as.map fun p=>(p.1,ev G p.2)) _ _ els h (by simp) (by simp[l]) (fun q p b K A=>by
  simp only[Array.toList_map,List.getElem?_map,Option.map_eq_some_iff]at K A;obtain⟨p0,D,rfl⟩:=K;obtain⟨b0,B,rfl⟩:=A;obtain⟨L,M⟩:=g q p0 b0 D B;exact⟨L,T4 ht M⟩) X
 refine Zmo (cap:=len) (c:=c') (e:=e) hr Z C (Nat.le_refl _) (by rw[J]; simp) (by rw[I]; simp) H (Zae H (by rw[I,J]; simp) j) (hs _ _ ?_)
 have f:Instr.fill (fun q=>some (q*i.size,i.size)) ((Array.range (len*k)).map fun q=>zv.cells[q % zv.cells.size]!) (ps.map fun(i,x)=>(i,a.eval x)).toList=some c':=by rw[d]; exact N
 simp only[Instr.buildSlice,Sem.run_bind,V3 hu,Result.andThen_ok,E6 hi];rw[if_neg (by rw[d]; omega)]
 by_cases n:len*i.size=0
 ·rw[if_pos n];have v:len*k=0:=by rw[← d]; exact n
  rw[v]at f;simp only[Sem.run_bind,Sem.run_pure,Result.andThen_ok,n];have r:((Array.range 0).map fun q=>(#[]:Array Value)[q % (#[]:Array Value).size]!)=(Array.range 0).map fun q=>zv.cells[q % zv.cells.size]!:=by simp
  rw[r,f];rfl
 ·rw[if_neg n];simp only[Sem.run_bind,Sem.run_pure,Result.andThen_ok,Zcc hi O];have r:len*i.size=len*k:=by rw[d]
  rw[r,f];rfl
theorem Z64{t:TypeId}{k b l c:Nat}{z:List AVal}{G F:Value}{X V:IntKind}(Q:Rel W Φ ρ m w)(O:ρ id=none)(C:id<m.next)(M:A7 P t=some (k,b,z))
 (N:G=.int X (l:Int)) (L:F=.int V (c:Int)) (B:l≤c) (h:c≤W6) (g:b≤W6)
 (E:∀ u w',(Instr.makeSlice t G F).run P w=.ok u w'→s.run P w=.ok (.value u) w'):Done P s W Φ ρ id w (.sl id 0 l) (m.set id (.cells k (List.replicate c z))):=by
 obtain⟨e,i,S,hi,n,K,U,p,a⟩:=Zg9 M;obtain⟨Z,zv,y,d,H,I,J,D⟩:=Zeh U Φ ρ;rw[hi]at d; injection d with d; subst d
 have o:=I.cells_R J;subst N; subst L;unfold W6 at h g;refine Zmo (cap:=c) (c:=(Array.range (c*k)).map fun q=>zv.cells[q % zv.cells.size]!) (e:=e) Q O C B (by simp) (by simp) (Zjc o D p a) (Zae (Zjc o D p a) (by simp) a) (E _ _ ?_)
 clear E;have wl:IntKind.i64.wrap (l:Int)=l:=IntWalk.i64_in _ (by omega)
 have Y:IntKind.i64.wrap (c:Int)=c:=IntWalk.i64_in _ (by omega)
 have j:b*c≤1048576*1048576:=Nat.mul_le_mul g h;have f:¬((b:Int)*(c:Int) > 2 ^ 48):=by
  have d:((b*c:Nat):Int)≤((1048576*1048576:Nat):Int):=Int.ofNat_le.2 j;rw[Int.natCast_mul]at d;omega
 simp only[Instr.makeSlice,Sem.run_bind,V3 S,Result.andThen_ok,asInt,asIntOf,Sem.run_pure,Zdu hi,wl,Y];rw[K];rw[if_neg (by
  simp only[Bool.or_eq_true,decide_eq_true_eq,not_or];exact⟨⟨⟨by omega,f⟩,by omega⟩,by omega⟩)]
 simp only[Sem.run_bind,run_askRoom,Result.andThen_ok,E6 hi,Int.toNat_natCast];by_cases r:c*i.size=0
 ·rw[if_pos r];have A:c*k=0:=by rw[← n]; exact r
  simp only[newRow,Sem.run_bind,run_newObj,Sem.run_pure,Result.andThen_ok,r,A];have v:((Array.range 0).map fun q=>(#[]:Array Value)[q % (#[]:Array Value).size]!)=(Array.range 0).map fun q=>zv.cells[q % zv.cells.size]!:=by simp
  rw[v];rfl
 ·rw[if_neg r];simp only[newRow,Sem.run_bind,run_newObj,Sem.run_pure,Result.andThen_ok,Zcc hi H];have v:c*i.size=c*k:=by rw[n]
  rw[v];rfl
end
end Go.AE
end
section
namespace Go.AE
open Go.RowKit
section
variable {P:Program} {s:Sem Next} {W:Base} {Φ:Pers} {ρ:Rho} {id:Nat} {w w1:World} {m m':Mem} {x:AVal} {v:Value}
theorem Z5i(k:Nat)(a:Option Addr)(n c:Nat):(Builtin.firstCells k 0 (.slice a n c)).run P w=.ok #[] w:=by
 cases a with
 | none=>rfl
 | some a=>simp only[Builtin.firstCells,Nat.zero_mul]; rfl
theorem Z94(k:Nat):RowsIn Φ ρ [] 0 k #[]:=⟨fun i row h=>by simp at h,fun i row j x h=>by simp at h⟩
theorem Zer{k:Nat}{y:AVal}{xs:List (List AVal)}(hr:Rel W Φ ρ m w)(hy:R Φ ρ y v)(d:N6 m k y=some xs)(hk:0<k) :
 ∃ arr:Array Value,(Builtin.lenOf v).run P w=.ok xs.length w∧(∀ q,q≤xs.length→(Builtin.firstCells k q v).run P w=.ok (arr.extract 0 (q*k)) w)∧arr.size=xs.length*k∧RowsIn Φ ρ xs 0 k arr:=by
 have g:∀ (a:Option Addr) (cap:Nat),∃ arr:Array Value,(Builtin.lenOf (.slice a 0 cap)).run P w=.ok ([]:List (List AVal)).length w ∧
  (∀ q,q≤([]:List (List AVal)).length→(Builtin.firstCells k q (.slice a 0 cap)).run P w=.ok (arr.extract 0 (q*k)) w)∧arr.size=([]:List (List AVal)).length*k∧RowsIn Φ ρ [] 0 k arr:=by
  intro a cap;refine⟨#[],rfl,fun q I=>?_,by simp,Z94 k⟩
  obtain rfl:q=0:=by simpa using I
  rw[Z5i]; simp
 cases hy with
 | str l=>
  simp only[N6]at d;split at d
  ·rename_i X;subst X;injection d with d
   subst d;refine⟨(l.map fun b=>Value.int .u8 b.toNat).toArray,?_,fun q I=>?_,by simp,fun i row hi=>?_,fun i row j y hi p=>?_⟩
   ·simp only[Builtin.lenOf,Sem.run_pure,List.length_map]; rfl
   ·simp only[Builtin.firstCells,Sem.run_pure,Zvz]
    congr 1
    apply Array.ext';simp[List.map_take]
   ·rw[List.getElem?_map]at hi;cases A:l[i]? with
    | none=>simp[A]at hi
    | some c=>simp only[A,Option.map_some,oI]at hi; subst hi; rfl
   ·rw[List.getElem?_map]at hi;cases A:l[i]? with
    | none=>simp[A]at hi
    | some c=>
     simp only[A,Option.map_some,oI]at hi;subst hi;have V:j=0:=by
      have:=(gS.1 p).1;simp[Znc]at this; exact this
     subst V;simp only[Znc,List.getElem?_cons_zero,oI]at p;subst p;exact⟨.int .u8 c.toNat,by simp[A],rfl,.int _ _⟩
  ·cases d
 | nilSl=>simp only[N6,I1,oI]at d; subst d; exact g none 0
 | emp a=>simp only[N6,I1,oI]at d; subst d; exact g a 0
 | imm0 a cap _=>simp only[N6,I1,List.all_nil,if_true,oI]at d; subst d; exact g a cap
 | imm els B o D cap c f ac E hB z hc ae=>
  simp only[N6,I1]at d;split at d
  ·rename_i K;injection d with d
   subst d;have t:0<els.length:=List.length_pos_iff.2 ac;have Z:D=k:=by
    have e1:=z 0 _ (gE t);have e2:=Zy1 K 0 _ (gE t);omega
   subst Z;obtain⟨e,fz,Q⟩:=hr.pers B c hB;have af:o+els.length*D≤c.size:=by
    have s:els[els.length - 1]? = some els[els.length - 1]:=gE (by omega)
    have A:=z _ _ s;have p:D - 1<(els[els.length - 1]).length:=by omega
    have F:=(hc _ _ _ _ s (gE p)).1;have M:=(Array.getElem?_eq_some_iff.1 F).1;have e3:(els.length - 1+1)*D=els.length*D:=by rw[Nat.sub_add_cancel t]
    rw[Nat.add_mul]at e3;omega
   refine⟨c.extract o (o+els.length*D),rfl,fun q I=>?_,by simp; omega,fun i row hi=>z i row hi,fun i row j y hi p=>?_⟩
   ·simp only[Builtin.firstCells];have ad:q*D≤els.length*D:=Nat.mul_le_mul_right _ I;rw[Zoa Q (by omega)]
    congr 1
    rw[Array.extract_extract]
    congr 1
    omega
   ·have S:=(gS.1 hi).1;have H:j<D:=by
     have:=(gS.1 p).1;rw[z i row hi]at this; exact this
    have ab:=Zej S H;obtain⟨F,M⟩:=hc i row j y hi p;refine⟨f i j,?_,M,ae i row j y hi p⟩;rw[Nat.zero_add,Array.getElem?_extract,if_pos (by omega)]
    rw[← F]; congr 1; omega
  ·cases d
 | sl b off len a cap l A aj hn E ai=>
  simp only[N6,I1]at d;have h:len=0→xs=[] → ∃ arr:Array Value,(Builtin.lenOf (.slice a len cap)).run P w=.ok xs.length w∧(∀ q,q≤xs.length→(Builtin.firstCells k q (.slice a len cap)).run P w=.ok (arr.extract 0 (q*k)) w)∧arr.size=xs.length*k∧RowsIn Φ ρ xs 0 k arr:=by
   intro r F;subst r; subst F;exact g a cap
  cases J:m.get b with
  | none=>
   simp only[J]at d;split at d
   ·rename_i r;injection d with d
    exact h r d.symm
   ·cases d
  | some blk=>
   cases blk with
   | cells k2 els=>
    simp only[J]at d;split at d
    ·rename_i G;obtain⟨rfl,ak⟩:=G;injection d with d
     by_cases r:len=0
     ·subst r;exact h rfl (by rw[← d]; simp)
     ·have ha:=E (by omega)
      subst ha;obtain⟨l',ob,L,g2,g3,g4,g5⟩:=hr.live b _ J;rw[A]at L; injection L with L; subst L
      cases g5 with
      | cells _ _ _ c e Y ag ah n _=>
       subst d;subst Y;have C:((els.drop off).take len).length=len:=by simp; omega
       have N:(l.sh+off)*l.k+len*l.k≤c.size:=by
        rw[ag,← Nat.add_mul];exact Nat.mul_le_mul_right _ (by omega)
       refine⟨c.extract ((l.sh+off)*l.k) ((l.sh+off)*l.k+len*l.k),by rw[C]; rfl,fun q I=>?_,by rw[C]; simp; omega,fun i row hi=>?_,fun i row j y hi p=>?_⟩
       ·rw[C]at I;simp only[Builtin.firstCells];have ad:q*l.k≤len*l.k:=Nat.mul_le_mul_right _ I;rw[Zoa g4 (by omega)]
        congr 1
        rw[Array.extract_extract]
        congr 1
        omega
       ·rw[List.getElem?_take]at hi;split at hi
        ·rw[List.getElem?_drop]at hi;exact n.1 _ row hi
        ·cases hi
       ·rw[List.getElem?_take]at hi;split at hi
        ·rename_i U;rw[List.getElem?_drop]at hi;obtain⟨u,F,M,h3⟩:=n.2 (off+i) row j y hi p;have H:j<l.k:=by
          have:=(gS.1 p).1;rw[n.1 _ row hi]at this; omega
         have ab:=Zej U H;refine⟨u,?_,M,h3⟩;have aa:len*l.k=((els.drop off).take len).length*l.k:=by rw[C]
         rw[Nat.zero_add,Array.getElem?_extract,if_pos (by omega),← F]
         congr 1
         rw[← Nat.add_assoc l.sh,Nat.add_mul (l.sh+off) i];omega
        ·cases hi
    ·cases d
   | map es O=>
    simp only[J]at d;split at d
    ·rename_i r;injection d with d
     exact h r d.symm
    ·cases d
   | siter s' pos=>
    simp only[J]at d;split at d
    ·rename_i r;injection d with d
     exact h r d.symm
    ·cases d
   | miter a' b' c' d'=>
    simp only[J]at d;split at d
    ·rename_i r;injection d with d
     exact h r d.symm
    ·cases d
 | _=>simp[N6,I1]at d
theorem Zm4{els xs:List (List AVal)}{sh k n p:Nat}{c arr:Array Value}(h:RowsIn Φ ρ els sh k c)(D:c.size=n*k)(E:p≤els.length)(C:sh+p+xs.length≤n)
 (t:RowsIn Φ ρ xs 0 k arr) (s:arr.size=xs.length*k):RowsIn Φ ρ (els.take p++xs++els.drop (p+xs.length)) sh k (O8 c ((sh+p)*k) arr.toList):=by
 have d:∀ (i:Nat) (row:List AVal),(els.take p++xs++els.drop (p+xs.length))[i]? = some row→(i<p∧els[i]? = some row)∨(p≤i∧i<p+xs.length∧xs[i - p]? = some row)∨(p+xs.length≤i∧els[i]? = some row):=by
  intro i row hi;rw[List.getElem?_append,List.getElem?_append]at hi;simp only[List.length_append,List.length_take,Nat.min_eq_left E]at hi;split at hi
  ·rename_i b;split at hi
   ·rename_i o;rw[List.getElem?_take,if_pos o]at hi;exact .inl ⟨o,hi⟩
   ·rename_i o;exact .inr (.inl ⟨by omega,b,hi⟩)
  ·rename_i b;rw[List.getElem?_drop]at hi;refine .inr (.inr ⟨by omega,?_⟩)
   rw[← hi]; congr 1; omega
 refine⟨fun i row hi=>?_,fun i row j y hi m=>?_⟩
 ·rcases d i row hi with⟨_,b⟩|⟨_,_,b⟩|⟨_,b⟩
  ·exact h.1 _ _ b
  ·exact t.1 _ _ b
  ·exact h.1 _ _ b
 ·rw[Zqt];simp only[Array.length_toList,s];rcases d i row hi with⟨v,b⟩|⟨v,B,b⟩|⟨v,b⟩
  ·obtain⟨u,f,g,l⟩:=h.2 i row j y b m;have e:j<k:=by
    have:=(gS.1 m).1;rw[h.1 _ row b]at this; exact this
   have r:=Zej (a:=sh+i) (n:=sh+p) (by omega) e
   rw[if_neg (by omega)]
   exact⟨u,f,g,l⟩
  ·obtain⟨u,f,g,l⟩:=t.2 (i - p) row j y b m;have e:j<k:=by
    have:=(gS.1 m).1;rw[t.1 _ row b]at this; exact this
   have z:(sh+i)*k=(sh+p)*k+(i - p)*k:=by rw[← Nat.add_mul]; congr 1; omega
   have r:=Zej (a:=i - p) (n:=xs.length) (by omega) e
   have w:(sh+p)*k+xs.length*k≤c.size:=by rw[D,← Nat.add_mul]; exact Nat.mul_le_mul_right _ C
   rw[z,if_pos ⟨by omega,by omega,by omega⟩]
   rw[Nat.zero_add]at f;refine⟨u,?_,g,l⟩;have A:(sh+p)*k+(i - p)*k+j - (sh+p)*k=(i - p)*k+j:=by omega
   rw[A];simpa using f
  ·obtain⟨u,f,g,l⟩:=h.2 i row j y b m;have q:(sh+p+xs.length)*k≤(sh+i)*k:=Nat.mul_le_mul_right _ (by omega)
   rw[Nat.add_mul (sh+p)]at q;rw[if_neg (by omega)]
   exact⟨u,f,g,l⟩
theorem Zsi{b:Nat}{x0 X:ABlk}{l l':Loc}{L:Obj}(h:Rel W Φ ρ m w)(H:m.get b=some x0)(v:ρ b=some l)(E:ρ id=none)(K:id<m.next)(d:l'.blk=l.blk)
 (hr:BR Φ (ρ.put id l') X l' L):Rel W Φ (ρ.put id l') ((m.del b).set id X) (P3 w l.blk L):=by
 have S:=Rho.ext_put (Φ:=Φ) (l:=l') E;obtain⟨l0,o,G,O,I,P,g5⟩:=h.live b x0 H;rw[v]at G; injection G with G; subst G
 have D:l.blk<w.heap.size:=by
  rcases Nat.lt_or_ge l.blk w.heap.size with J|J
  ·exact J
  ·rw[Array.getElem?_eq_none J]at P; cases P
 have aa:b≠id:=by rintro rfl; rw[E]at v; cases v
 have g:∀ b' k,b'≠id→ρ.put id l' b'=some k→ρ b'=some k:=fun b' k s i=>by
  unfold Rho.put at i; rw[if_neg s]at i; exact i
 refine⟨?_,?_,?_,?_,?_,h.newp⟩
 ·exact h.base.put O
 ·intro B c Q;obtain⟨e,fz,ho⟩:=h.pers B c Q;refine⟨e,fz,?_⟩;rw[Zec,if_neg]
  ·exact ho
  ·rintro⟨rfl,_⟩;rw[Q]at I; cases I
 ·intro b' y f;simp only[Mem.get_set,Mem.get_del]at f;by_cases A:b'=id
  ·subst A;rw[if_pos rfl]at f;injection f with f
   subst f;exact⟨l',L,Rho.put_same,by rw[d]; exact O,by rw[d]; exact I,by rw[d,Zec,if_pos ⟨rfl,D⟩],hr⟩
  ·rw[if_neg A]at f;by_cases t:b'=b
   ·rw[if_pos t]at f; cases f
   ·rw[if_neg t]at f;obtain⟨k,M,j,n,k3,k4,k5⟩:=h.live b' y f;refine⟨k,M,S.rho _ _ j,n,k3,?_,k5.ext S⟩;rw[Zec,if_neg]
    ·exact k4
    ·rintro⟨i,_⟩;exact t (h.inj b' b y x0 k l f H j v i.symm)
 ·intro F u Y Z U V r a j n i;simp only[Mem.get_set,Mem.get_del]at r a;by_cases z:F=id
  ·by_cases p:u=id
   ·rw[z,p]
   ·rw[if_neg p]at a;by_cases q:u=b
    ·rw[if_pos q]at a; cases a
    ·rw[if_neg q]at a;rw[z,Rho.put_same]at j;injection j with j; subst j
     exact absurd (h.inj u b Z x0 V l a H (g _ _ p n) v (by rw[← i,d])) q
  ·rw[if_neg z]at r;by_cases q:F=b
   ·rw[if_pos q]at r; cases r
   ·rw[if_neg q]at r;by_cases p:u=id
    ·rw[p,Rho.put_same]at n;injection n with n; subst n
     exact absurd (h.inj F b Y x0 U l r H (g _ _ z j) v (by rw[i,d])) q
    ·rw[if_neg p]at a;by_cases N:u=b
     ·rw[if_pos N]at a; cases a
     ·rw[if_neg N]at a;exact h.inj F u Y Z U V r a (g _ _ z j) (g _ _ p n) i
 ·intro b' k s;by_cases C:b'=id
  ·rw[C]; exact K
  ·exact h.fresh b' k (g _ _ C s)
end
end Go.AE
end
section
namespace Go.AE
open Go.RowKit
section
variable {P:Program} {s:Sem Next} {W:Base} {Φ:Pers} {ρ:Rho} {id:Nat} {w w1:World} {m m':Mem} {x:AVal} {v:Value}
theorem Zwe(N:Nat):∀ (r c:Nat),Builtin.growBy N r c≤max c (N+(N+768) / 4)
 | 0,c=>by simp only[Builtin.growBy]; omega
 | r+1,c=>by
  simp only[Builtin.growBy];split
  ·omega
  ·have:=Zwe N r (c+(c+768) / 4);omega
theorem Zr5{a cap:Nat}(h:cap<a):Builtin.nextslicecap a cap≤2*a+768:=by
 unfold Builtin.nextslicecap;split
 ·omega
 ·split
  ·omega
  ·have:=Zwe a 4 cap;omega
theorem Zta{A B:List (List AVal)}{k:Nat}{a b c:Array Value}(l:RowsIn Φ ρ A 0 k a)(q:a.size=A.length*k)(m:RowsIn Φ ρ B 0 k b)(r:b.size=B.length*k):RowsIn Φ ρ (A++B) 0 k (a++b++c):=by
 refine⟨fun i row hi=>?_,fun i row j y hi f=>?_⟩
 ·rw[List.getElem?_append]at hi;split at hi
  ·exact l.1 _ _ hi
  ·exact m.1 _ _ hi
 ·rw[List.getElem?_append]at hi;split at hi
  ·rename_i p;obtain⟨u,e,g,h⟩:=l.2 i row j y hi f;have d:j<k:=by
    have:=(gS.1 f).1;rw[l.1 _ row hi]at this; exact this
   have o:=Zej p d;rw[Nat.zero_add]at e ⊢;refine⟨u,?_,g,h⟩;rw[Array.getElem?_append,if_pos (by simp; omega),Array.getElem?_append,if_pos (by omega)]
   exact e
  ·rename_i p;obtain⟨u,e,g,h⟩:=m.2 (i - A.length) row j y hi f;have n:=(gS.1 hi).1;have d:j<k:=by
    have:=(gS.1 f).1;rw[m.1 _ row hi]at this; exact this
   have o:=Zej n d;have s:i*k=A.length*k+(i - A.length)*k:=by rw[← Nat.add_mul]; congr 1; omega
   rw[Nat.zero_add]at e ⊢;refine⟨u,?_,g,h⟩;rw[Array.getElem?_append,if_pos (by simp; omega),Array.getElem?_append,if_neg (by omega)]
   rw[← e]
   congr 1
   omega
theorem Zon{t e u ty:TypeId}{i:TypeInfo}{d:TypeDesc}{base:Option Addr}{len cap n:Nat}{vx:Value}{arr:Array Value}{w':World}(l:P.underlying t=some (.slice e))(hi:P.info? e=some i)(m:P.underlying u=some d)(f:∀ k,d≠.int k)
 (j:(Builtin.lenOf vx).run P w=.ok n w) (h:(Builtin.firstCells i.size n vx).run P w=.ok arr w) (c:len+n≤cap)
 (b:match base with|some a=>(storeCells (a.add (len*i.size)) arr.toList).run P w=.ok () w'|none=>w'=w) :
 (Builtin.append_ #[t,u] ty #[.slice base len cap,vx]).run P w=.ok (.slice base (len+n) cap) w':=by
 have o:(match d with | .int _=>true|_=>false)=false:=by cases d<;>first|rfl|exact absurd rfl (f _)
 have g:(Builtin.append_ #[t,u] ty #[.slice base len cap,vx]).run P w=((do
  let new ← Builtin.firstCells i.size n vx
  if let some a:=base then storeCells (a.add (len*i.size)) new.toList
  pure (Value.slice base (len+n) cap):Sem Value)).run P w:=by
  unfold Builtin.append_;simp only[Sem.run_bind,List.getElem?_toArray,List.getElem?_cons_zero,List.getElem?_cons_succ,V3 l,Result.andThen_ok,E6 hi,V3 m];cases d<;>first|(exact absurd rfl (f _))|(simp only[Sem.run_bind,Sem.run_pure,Result.andThen_ok,bF,if_false,j,c,if_true,Bool.not_false]; rfl)
 rw[g];simp only[Sem.run_bind,h,Result.andThen_ok];cases base with
 | none=>simp only at b; subst b; rfl
 | some a=>simp only at b; simp only[Sem.run_bind,b,Result.andThen_ok,Sem.run_pure]
theorem Z1d{t e u ty:TypeId}{i:TypeInfo}{d:TypeDesc}{z:Value}{base:Option Addr}{len cap n:Nat}{vx:Value}{old arr:Array Value}(y:P.underlying t=some (.slice e))(hi:P.info? e=some i)(C:i.zero=some z)(A:P.underlying u=some d)(p:∀ k,d≠.int k)
 (r:(Builtin.lenOf vx).run P w=.ok n w) (s:(Builtin.firstCells i.size len (.slice base len cap)).run P w.drew=.ok old w.drew) (q:(Builtin.firstCells i.size n vx).run P w.drew=.ok arr w.drew) (g:cap<len+n) (b:len+n≤W6) (j:i.bytes≤W6) :
 ∃ nc,len+n≤nc∧(Builtin.append_ #[t,u] ty #[.slice base len cap,vx]).run P w =
  .ok (.slice (some ⟨w.drew.heap.size,0,none⟩) (len+n) nc) (w.drew.alloc (.cells (old++arr++Builtin.zeroCells z.cells (nc - (len+n))) e)):=by
 have v:(Question.appendCap (len+n) cap e).forced=false:=rfl;refine⟨(Question.appendCap (len+n) cap e).cut (w.tape w.drawn (.appendCap (len+n) cap e)),by simp only[Question.cut]; omega,?_⟩
 generalize h:(Question.appendCap (len+n) cap e).cut (w.tape w.drawn (.appendCap (len+n) cap e))=nc;unfold W6 at b j;have l:=Zr5 g;have m:Builtin.nextslicecap (len+n) cap*i.bytes≤(2*1048576+768)*1048576:=Nat.mul_le_mul (by omega) j
 have c:IntKind.i64.max=9223372036854775807:=by decide
 have o:(Builtin.append_ #[t,u] ty #[.slice base len cap,vx]).run P w=((do
  let a ← choose (.appendCap (len+n) cap e)
  askRoom (a*i.bytes)
  let old ← Builtin.firstCells i.size len (.slice base len cap)
  let new ← Builtin.firstCells i.size n vx
  let f:=Builtin.zeroCells (← zeroValue e).cells (a - (len+n))
  pure (Value.slice (some (← newRow e (old++new++f))) (len+n) a):Sem Value)).run P w:=by
  unfold Builtin.append_;simp only[Sem.run_bind,List.getElem?_toArray,List.getElem?_cons_zero,List.getElem?_cons_succ,V3 y,Result.andThen_ok,E6 hi,V3 A];cases d<;>first|(exact absurd rfl (p _))|skip
  all_goals
   simp only[Sem.run_bind,Sem.run_pure,Result.andThen_ok,bF,if_false,r,Bool.not_false,if_true];rw[if_neg (by omega)]
   simp only[Sem.run_bind,Zdu hi,Result.andThen_ok,c];rw[if_neg (by omega)]
   simp only[Sem.run_bind,Zdu hi,Result.andThen_ok];rw[if_neg (by omega)]
   simp only[Sem.run_bind,Zdu hi,Result.andThen_ok];rfl
 rw[o];simp only[Sem.run_bind,run_choose,v,bF,if_false,Result.andThen_ok,run_askRoom,h];have B:({ w with drawn:=w.drawn+1 }:World)=w.drew:=rfl
 rw[B];simp only[s,q,Result.andThen_ok,Zcc hi C,newRow,Sem.run_bind,run_newObj,Sem.run_pure];rfl
theorem Z3q(m:Mem)(b:Nat):Mem.Sub (m.del b) m:=⟨fun c x h=>by
 simp only[Mem.get_del]at h;split at h
 ·cases h
 ·exact h,Nat.le_refl _⟩
theorem Zwn{len n nc k:Nat}{old arr z:Array Value}(c:old.size=len*k)(a:arr.size=n*k)(d:z.size=k)(b:len+n≤nc):(old++arr++Builtin.zeroCells z (nc - (len+n))).size=nc*k:=by
 simp only[Array.size_append,Builtin.zeroCells,Array.size_map,Array.size_range,c,a,d];rw[← Nat.add_mul,← Nat.add_mul]
 congr 1
 omega
theorem Zxw{els:List (List AVal)}{sh k off len:Nat}{c:Array Value}(h:RowsIn Φ ρ els sh k c):RowsIn Φ ρ ((els.drop off).take len) (sh+off) k c:=by
 refine⟨fun q row a=>?_,fun q row j y a b=>?_⟩
 ·rw[List.getElem?_take]at a;split at a
  ·rw[List.getElem?_drop]at a; exact h.1 _ _ a
  ·cases a
 ·rw[List.getElem?_take]at a;split at a
  ·rw[List.getElem?_drop]at a;obtain⟨g,d,e,f⟩:=h.2 _ row j y a b;exact⟨g,by rw[← d,Nat.add_assoc sh],e,f⟩
  ·cases a
theorem Zlp{l:Loc}{a:Option Addr}{off len cap n:Nat}{c arr:Array Value}{e':TypeId}{size:Nat}(s:w.heap[l.blk]? = some (.cells c e' (0,0)))(m:c.size=l.n*l.k)(y:l.sh+off+cap=l.n)
 (g:0<cap→a=some ⟨l.blk,(l.sh+off)*l.k,none⟩) (r:len+n≤cap) (p:size=l.k) (d:arr.size=n*l.k) (v:∀ u,u∈arr.toList→u.oneCell'=true) :
 match a with
 | some a=>(storeCells (a.add (len*size)) arr.toList).run P w=.ok () (P3 w l.blk (.cells (O8 c ((l.sh+(off+len))*l.k) arr.toList) e' (0,0)))
 | none=>P3 w l.blk (.cells (O8 c ((l.sh+(off+len))*l.k) arr.toList) e' (0,0))=w:=by
 by_cases j:0<cap
 ·have i:=g j;subst i;simp only;rw[Addr.add_none,p];have t:(l.sh+off)*l.k+len*l.k=(l.sh+(off+len))*l.k:=by rw[← Nat.add_mul]; congr 1; omega
  rw[t];have h:(l.sh+(off+len))*l.k+n*l.k≤c.size:=by
   rw[m,← Nat.add_mul]; exact Nat.mul_le_mul_right _ (by omega)
  have:=Zom (P:=P) (B:=l.blk) (o:=(l.sh+(off+len))*l.k) (e:=e') arr.toList 0 w c v s (by simp[d]; omega)
  simpa using this
 ·have q:n=0:=by omega
  have f:arr = #[]:=by
   apply Array.eq_empty_of_size_eq_zero;rw[d,q]; simp
  subst f;have b:=Zlx s;cases a with
  | none=>simpa[O8]using b
  | some a=>simp only[storeCells,Sem.run_pure,O8,b]
section
variable {t e u ty:TypeId} {k:Nat} {i:TypeInfo} {d:TypeDesc} {zv:Value} {vx:Value} {xs:List (List AVal)} {yx:AVal} {a:Option Addr} {bb off len cap:Nat} {l:Loc} {els:List (List AVal)}
theorem Z54(G:Rel W Φ ρ m w)(X:P.underlying t=some (.slice e))(hi:P.info? e=some i)(Y:P.underlying u=some d)(O:∀ k,d≠.int k)(z:0<i.size)(Z:R Φ ρ yx vx)(B:N6 m i.size yx=some xs)
 (r:ρ bb=some l) (U:len≤cap) (y:l.sh+off+cap=l.n) (o:0<cap→a=some ⟨l.blk,(l.sh+off)*l.k,none⟩) (F:a.isSome=true) (J:m.get bb=some (.cells i.size els)) (I:off+len+xs.length≤els.length)
 (V:∀ L w',(Builtin.append_ #[t,u] ty #[.slice a len cap,vx]).run P w=.ok L w'→s.run P w=.ok (.value L) w') :
 Done P s W Φ ρ id w (.sl bb off (len+xs.length)) (m.set bb (.cells i.size (els.take (off+len)++xs++els.drop (off+len+xs.length)))):=by
 obtain⟨arr,S,Q,b,f⟩:=Zer G Z B z;have q:(Builtin.firstCells i.size xs.length vx).run P w=.ok arr w:=by
  rw[Q _ (Nat.le_refl _)]
  congr 1
  rw[← b]; simp
 obtain⟨l',ob,D,g2,g3,M,N⟩:=G.live bb _ J;rw[r]at D; injection D with D; subst D
 cases N with
 | cells _ _ _ c e' g j K h E=>
  have v:len+xs.length≤cap:=by omega
  rw[← g]at b h j;have C:=Zlp (P:=P) (e':=e') (size:=i.size) (len:=len) M j y o v g.symm b (Zae f (by rw[← g]; exact b) z)
  have A:=Zon (P:=P) (ty:=ty) (base:=a) (len:=len) (cap:=cap) (n:=xs.length) (arr:=arr) (w':=P3 w l.blk (.cells (O8 c ((l.sh+(off+len))*l.k) arr.toList) e' (0,0))) X hi Y O S q v (by
   cases a with
   | none=>exact C
   | some a=>exact C)
  rw[← g]at f;have H:=Zm4 (p:=off+len) h j (by omega) (by omega) f b
  refine Done.updV (V _ _ A) G J r (.cells _ _ _ _ _ g (by rw[Zfi,j,g]) ?_ (by rw[← g]; exact H) (Zi5 _ _ _ E (Zae f b (by omega)))) (.sl bb off (len+xs.length) a cap l r v y o F)
  simp only[List.length_append,List.length_take,List.length_drop];omega
theorem Z47(N:Rel W Φ ρ m w)(M:ρ id=none)(L:id<m.next)(ht:P.underlying t=some (.slice e))(hi:P.info? e=some i)(hu:P.underlying u=some d)(hd:∀ k,d≠.int k)(B:0<i.size)(hx:R Φ ρ yx vx)(F:N6 m i.size yx=some xs)
 (C:ρ bb=some l) (A:l.sh+off+cap=l.n) (r:0<cap→a=some ⟨l.blk,(l.sh+off)*l.k,none⟩) (J:a.isSome=true) (Q:m.get bb=some (.cells i.size els)) (aa:els.length=off+len) (z:len+xs.length≤cap)
 (hs:∀ U w',(Builtin.append_ #[t,u] ty #[.slice a len cap,vx]).run P w=.ok U w'→s.run P w=.ok (.value U) w') :
 Done P s W Φ ρ id w (.sl id 0 (len+xs.length)) ((m.del bb).set id (.cells i.size ((els.drop off).take len++xs))):=by
 obtain⟨arr,hl,hf,b,f⟩:=Zer N hx F B;have y:(Builtin.firstCells i.size xs.length vx).run P w=.ok arr w:=by
  rw[hf _ (Nat.le_refl _)]
  congr 1
  rw[← b]; simp
 obtain⟨l',ob,H,g2,g3,X,Y⟩:=N.live bb _ Q;rw[C]at H; injection H with H; subst H
 cases Y with
 | cells _ _ _ c e' g o S h I=>
  rw[← g]at b h o;have G:=Zlp (P:=P) (e':=e') (size:=i.size) (len:=len) X o A r z g.symm b (Zae f (by rw[← g]; exact b) B)
  have D:=Zon (P:=P) (ty:=ty) (base:=a) (len:=len) (cap:=cap) (n:=xs.length) (arr:=arr) (w':=P3 w l.blk (.cells (O8 c ((l.sh+(off+len))*l.k) arr.toList) e' (0,0))) ht hi hu hd hl y z (by
   cases a with
   | none=>exact G
   | some a=>exact G)
  rw[← g]at f;have v:=Zxw (off:=off) (len:=len) h;have j:((els.drop off).take len).length=len:=by simp; omega
  generalize (els.drop off).take len=O at v j ⊢;have E:=Zm4 (p:=len) (n:=l.n) v o (by omega) (by omega) f b
  have V:O.take len++xs++O.drop (len+xs.length)=O++xs:=by
   rw[List.take_of_length_le (by omega),List.drop_eq_nil_of_le (by omega),List.append_nil]
  rw[V,Nat.add_assoc l.sh]at E;refine⟨_,_,Φ,ρ.put id ⟨l.blk,l.sh+off,l.k,l.n⟩,.inl (hs _ _ D),Rho.ext_put M,fun q hq Z=>by unfold Rho.put; rw[if_neg hq]; exact Z,
   Zsi N Q C M L rfl (BR.ext_put M (.cells _ _ _ _ _ g (by rw[Zfi,o,g]) (by simp only[List.length_append,j]; omega) (by rw[← g]; exact E) (Zi5 _ _ _ I (Zae f b (by omega))))),?_⟩
  refine .sl id 0 (len+xs.length) a cap ⟨l.blk,l.sh+off,l.k,l.n⟩ Rho.put_same z (by simpa using A) (fun K=>?_) J
  rw[r K];rfl
theorem Zol{a:Array Value}{k n:Nat}(h:∀ v,v∈a.toList→v.oneCell'=true)(e:a.size=k)(d:0<k):∀ v,v∈(Builtin.zeroCells a n).toList→v.oneCell'=true:=by
 intro v c;simp only[Builtin.zeroCells,Array.toList_map,List.mem_map]at c;obtain⟨q,_,rfl⟩:=c;have b:q % a.size<a.size:=Nat.mod_lt _ (by omega)
 rw[getElem!_pos a _ b];exact h _ (by simp)
theorem Zq5(E:Rel W Φ ρ m w)(X:ρ id=none)(G:id<m.next)(ht:P.underlying t=some (.slice e))(hi:P.info? e=some i)(hz:i.zero=some zv)(D:zv.cells.size=i.size)(K:∀ v,v∈zv.cells.toList→v.oneCell'=true)(j:P.underlying u=some d)(S:∀ k,d≠.int k)(f:0<i.size)(M:R Φ ρ yx vx)(o:N6 m i.size yx=some xs)
 {O:AVal} {h:List (List AVal)} {m0:Mem} (hy:R Φ ρ O (.slice a len cap)) (B:N6 m i.size O=some h) (q:h.length=len) (p:Mem.Sub m0 m) (H:cap<len+xs.length) (y:len+xs.length≤W6) (Q:i.bytes≤W6)
 (Z:∀ N w',(Builtin.append_ #[t,u] ty #[.slice a len cap,vx]).run P w=.ok N w'→s.run P w=.ok (.value N) w') :
 Done P s W Φ ρ id w (.sl id 0 (len+xs.length)) (m0.set id (.cells i.size (h++xs))):=by
 obtain⟨arr,U,hf,L,J⟩:=Zer E M o f;obtain⟨z,V,F,b,c⟩:=Zer E.drew M o f;obtain⟨old,Y,I,n,A⟩:=Zer E.drew hy B f;have l:(Builtin.firstCells i.size xs.length vx).run P w.drew=.ok z w.drew:=by
  rw[F _ (Nat.le_refl _)]
  congr 1
  rw[← b]; simp
 have r:(Builtin.firstCells i.size len (.slice a len cap)).run P w.drew=.ok old w.drew:=by
  rw[I len (by omega)]
  congr 1
  have:old.size=len*i.size:=by rw[n,q]
  rw[← this]; simp
 obtain⟨nc,g,C⟩:=Z1d (P:=P) (ty:=ty) (base:=a) (len:=len) (cap:=cap) (old:=old) ht hi hz j S U r l H y Q;refine Zmo (cap:=nc) (w1:=w.drew) (E.drew.sub p) X (Nat.lt_of_lt_of_le G p.next) g (by simp only[List.length_append,q]; exact g) ?_ ?_ ?_ (Z _ _ C)
 ·exact Zwn (by rw[n,q]) b D g
 ·exact Zta A n c b
 ·intro u j;simp only[Array.toList_append,List.mem_append]at j;rcases j with(j|j)|j
  ·exact Zae A n f u j
  ·exact Zae c b f u j
  ·exact Zol K D f u j
end
theorem Z1l{t u ty:TypeId}{k b:Nat}{z:List AVal}{d:TypeDesc}{ys:AVal}{vs vx:Value}{xs:List (List AVal)}{yx:AVal}{r:AVal×Mem}(F:Rel W Φ ρ m w)(hn:ρ id=none)(E:id<m.next)
 (he:A7 P t=some (k,b,z)) (O:P.underlying u=some d) (I:∀ k,d≠.int k) (hy:R Φ ρ ys vs) (Q:R Φ ρ yx vx) (g:N6 m k yx=some xs) (c:H2 id k b m ys xs=some r)
 (L:∀ u' w',(Builtin.append_ #[t,u] ty #[vs,vx]).run P w=.ok u' w'→s.run P w=.ok (.value u') w'):Done P s W Φ ρ id w r.1 r.2:=by
 obtain⟨e,i,N,hi,M,hb,hz,ah,n⟩:=Zg9 he;obtain⟨i',zv,y,X,h2,h3,h4,h5⟩:=Zeh hz Φ ρ;rw[hi]at X; injection X with X; subst X
 have V:=h3.cells_R h4;have p:zv.cells.size=i.size:=by rw[V.1,ah,M]
 have U:=Zlv V h5;subst M; subst hb;have f:∀ (a:Option Addr) (Z:AVal),R Φ ρ Z (.slice a 0 0)→N6 m i.size Z=some []→(xs=[]∧r=(Z,m))∨(xs≠[]∧xs.length≤W6∧i.bytes≤W6∧r=(.sl id 0 xs.length,m.set id (.cells i.size xs)))→vs=.slice a 0 0→Done P s W Φ ρ id w r.1 r.2:=by
  rintro a Z S ag (⟨rfl,rfl⟩|⟨ad,h,ab,rfl⟩) rfl
  ·obtain⟨arr,hl,hf,H,af⟩:=Zer F Q g n;have q:arr = #[]:=by
    apply Array.eq_empty_of_size_eq_zero;simpa using H
   subst q;have C:=hf 0 (Nat.le_refl _);have:=Zon (P:=P) (ty:=ty) (base:=a) (len:=0) (cap:=0) (arr:=#[]) (w':=w) N hi O I hl (by simpa using C) (by simp) (by cases a<;>rfl)
   exact Done.val (L _ _ this) F S
  ·have ai:0<xs.length:=List.length_pos_iff.2 ad;have:=Zq5 (id:=id) (ty:=ty) F hn E N hi h2 p U O I n Q g S ag rfl (Mem.Sub.refl m) (by omega) (by omega) ab L
   simpa using this
 cases hy with
 | nilSl=>
  refine f none .nilSl .nilSl rfl ?_ rfl;simp only[H2]at c;split at c
  ·injection c with c; exact .inl ⟨‹_›,c.symm⟩
  ·split at c
   ·rename_i h6 G;injection c with c; exact .inr ⟨h6,G.1,G.2,c.symm⟩
   ·cases c
 | emp a=>
  refine f a .emp (.emp a) rfl ?_ rfl;simp only[H2]at c;split at c
  ·injection c with c; exact .inl ⟨‹_›,c.symm⟩
  ·split at c
   ·rename_i h6 G;injection c with c; exact .inr ⟨h6,G.1,G.2,c.symm⟩
   ·cases c
 | sl bb off len a cap l D K A j v=>
  simp only[H2]at c;cases o:m.get bb with
  | none=>simp[o]at c
  | some blk=>
   cases blk with
   | cells k2 els=>
    simp only[o]at c;split at c
    ·rename_i B;obtain⟨rfl,ae,aj⟩:=B;split at c
     ·rename_i J;injection c with c
      subst c;exact Z54 F N hi O I n Q g D K A j v o J L
     ·rename_i Y;split at c
      ·rename_i h;injection c with c
       subst c;by_cases ac:len+xs.length≤cap
       ·exact Z47 F hn E N hi O I n Q g D A j v o (by omega) ac L
       ·exact Zq5 F hn E N hi h2 p U O I n Q g (.sl bb off len a cap l D K A j v) (by
         show I1 m i.size (.sl bb off len)=some ((els.drop off).take len);simp[I1,o,ae]) (by simp; omega) (Z3q m bb) (by omega) h.1 h.2 L
      ·cases c
    ·cases c
   | map es aa=>simp[o]at c
   | siter s' pos=>simp[o]at c
   | miter a' b' c' d'=>simp[o]at c
 | _=>simp[H2]at c
end
end Go.AE
end
section
namespace Go.AE
open Go.RowKit
section
variable {P:Program} {s:Sem Next} {W:Base} {Φ:Pers} {ρ:Rho} {id:Nat} {w w1:World} {m m':Mem} {x:AVal} {v:Value}
theorem Z44{t ty:TypeId}{k:Nat}{b:Nat}{z:List AVal}{u:TypeId}{vd vs:Value}{xs:List (List AVal)}{yx:AVal}{bb off len:Nat}{els:List (List AVal)}(X:Rel W Φ ρ m w)
 (he:A7 P t=some (k,b,z)) (hy:R Φ ρ (.sl bb off len) vd) (hx:R Φ ρ yx vs) (L:N6 m k yx=some xs) (Z:m.get bb=some (.cells k els)) (ag:off+len≤els.length)
 (hs:∀ u' w',(Builtin.copy_ #[t,u] ty #[vd,vs]).run P w=.ok u' w'→s.run P w=.ok (.value u') w') :
 Done P s W Φ ρ id w (.int .i64 (min xs.length len:Nat)) (m.set bb (.cells k (els.take off++xs.take (min xs.length len)++els.drop (off+min xs.length len)))):=by
 obtain⟨e,i,ht,hi,Y,hb,hz,ah,D⟩:=Zg9 he;subst Y;obtain⟨arr,hl,hf,E,h⟩:=Zer X hx L D;cases hy with
 | sl _ _ _ a cap l G ad Q F ac=>
  obtain⟨l',ob,M,g2,g3,g4,g5⟩:=X.live bb _ Z;rw[G]at M; injection M with M; subst M
  cases g5 with
  | cells _ _ _ c e' g A ab o N=>
   obtain⟨n,hn⟩:∃ n,min xs.length len=n:=⟨_,rfl⟩
   rw[hn];have B:n≤xs.length:=by omega
   have af:n≤len:=by omega
   have S:=hf n B;have d:(arr.extract 0 (n*i.size)).size=(xs.take n).length*i.size:=by
    have:n*i.size≤xs.length*i.size:=Nat.mul_le_mul_right _ B;simp only[Array.size_extract,E,List.length_take];rw[Nat.min_eq_left B]; omega
   have f:RowsIn Φ ρ (xs.take n) 0 i.size (arr.extract 0 (n*i.size)):=by
    refine⟨fun q row v=>?_,fun q row j y v hj=>?_⟩
    ·rw[List.getElem?_take]at v;split at v
     ·exact h.1 _ _ v
     ·cases v
    ·rw[List.getElem?_take]at v;split at v
     ·rename_i V;obtain⟨uu,k1,k2,k3⟩:=h.2 _ row j y v hj;have U:j<i.size:=by
       have:=(gS.1 hj).1;rw[h.1 _ row v]at this; exact this
      have ae:=Zej V U;have aa:n*i.size≤xs.length*i.size:=Nat.mul_le_mul_right _ B;refine⟨uu,?_,k2,k3⟩;rw[Nat.zero_add]at k1 ⊢;rw[Array.getElem?_extract,if_pos (by omega),← k1]
      congr 1; omega
     ·cases v
   have C:(xs.take n).length=n:=by simp; omega
   have r:=Zlp (P:=P) (a:=a) (len:=0) (cap:=cap) (n:=n) (off:=off) (e':=e') (size:=i.size) g4 (by rw[A,g]) Q F (by omega) g.symm (by rw[d,C,g]) (Zae f d D)
   simp only[Nat.add_zero,Nat.zero_mul]at r;have J:(Builtin.copy_ #[t,u] ty #[.slice a len cap,vs]).run P w=.ok (.int .i64 (n:Nat)) (P3 w l.blk (.cells (O8 c ((l.sh+off)*l.k) (arr.extract 0 (n*i.size)).toList) e' (0,0))):=by
    unfold Builtin.copy_;simp only[Sem.run_bind,List.getElem?_toArray,List.getElem?_cons_zero,List.getElem?_cons_succ,V3 ht,Result.andThen_ok,E6 hi];rw[hl];have H:Nat.min xs.length len=n:=hn;simp only[Sem.run_bind,Result.andThen_ok,H,S];cases a with
    | none=>simp only at r; rw[r]; rfl
    | some a=>
     have O:a.add 0=a:=by simp[Addr.add]
     simp only at r;rw[O]at r;simp only[Sem.run_bind,r,Result.andThen_ok]; rfl
   have I:=Zae f d D;rw[← g]at f d o A;have K:=Zm4 (p:=off) o A (by omega) (by omega) f d
   rw[C,g]at K;refine Done.updV (hs _ _ J) X Z G (.cells _ _ _ _ _ g (by rw[Zfi,A,g]) ?_ (by rw[g]; exact K) (Zi5 _ _ _ N I)) (.int _ _)
   simp only[List.length_append,List.length_take,List.length_drop];omega
theorem Zos{t ty:TypeId}{k b:Nat}{z:List AVal}{vx:Value}{yx:AVal}{r:Mem}(Q:Rel W Φ ρ m w)(he:A7 P t=some (k,b,z))(U:R Φ ρ yx vx)
 (h:(∃ bb off len els,yx=.sl bb off len∧m.get bb=some (.cells k els)∧off+len≤els.length∧r=m.set bb (.cells k (els.take off++List.replicate len z++els.drop (off+len))))∨((yx=.nilSl∨yx=.emp)∧r=m))
 (hs:∀ u' w',(Builtin.clear_ #[t] ty #[vx]).run P w=.ok u' w'→s.run P w=.ok (.value u') w'):Done P s W Φ ρ id w aundef r:=by
 obtain⟨e,i,ht,hi,S,hb,hz,J,B⟩:=Zg9 he;subst S;obtain⟨i',zv,y,L,h2,h3,h4,h5⟩:=Zeh hz Φ ρ;rw[hi]at L; injection L with L; subst L
 have I:=h3.cells_R h4;rcases h with⟨bb,off,len,els,rfl,Z,ad,rfl⟩|⟨V,rfl⟩
 ·cases U with
  | sl _ _ _ a cap l F ac O D ab=>
   obtain⟨l',ob,K,g2,g3,Y,g5⟩:=Q.live bb _ Z;rw[F]at K; injection K with K; subst K
   cases g5 with
   | cells _ _ _ c e' g A aa o M=>
    have X:zv.cells.size=i.size:=by rw[I.1,J]
    have d:=Zjc (len:=len) I h5 J B;have f:((Array.range (len*i.size)).map fun q=>zv.cells[q % zv.cells.size]!).size=(List.replicate len z).length*i.size:=by simp
    have C:Builtin.zeroCells zv.cells len=(Array.range (len*i.size)).map fun q=>zv.cells[q % zv.cells.size]!:=by simp only[Builtin.zeroCells,X]
    have j:=Zlp (P:=P) (a:=a) (len:=0) (cap:=cap) (n:=len) (off:=off) (e':=e') (size:=i.size) Y (by rw[A,g]) O D (by omega) g.symm (by rw[f,g]; simp) (Zae d f B)
    simp only[Nat.add_zero,Nat.zero_mul]at j;have G:=Zae d f B;rw[← g]at d f o A;have H:=Zm4 (p:=off) o A (by omega) (by simp; omega) d f
    rw[List.length_replicate]at H;have u:(Builtin.clear_ #[t] ty #[.slice a len cap]).run P w=.ok (.tuple #[]) (P3 w l.blk (.cells (O8 c ((l.sh+off)*l.k) ((Array.range (len*i.size)).map fun q=>zv.cells[q % zv.cells.size]!).toList) e' (0,0))):=by
     unfold Builtin.clear_;simp only[Sem.run_bind,List.getElem?_toArray,List.getElem?_cons_zero,V3 ht,Result.andThen_ok];cases a with
     | none=>simp only at j; rw[j]; rfl
     | some a=>
      have N:a.add 0=a:=by simp[Addr.add]
      simp only at j;rw[N]at j;cases len with
      | zero=>
       have e0:((Array.range (0*i.size)).map fun q=>zv.cells[q % zv.cells.size]!) = #[]:=by simp
       rw[e0]at j ⊢;simp only[O8,Zlx Y];rfl
      | succ n=>
       simp only[Sem.run_bind,Zcc hi h2,Result.andThen_ok,C,j]; rfl
    have E:Done P s W Φ ρ id w aundef (m.set bb (.cells i.size (els.take off++List.replicate len z++els.drop (off+len)))):=by
     refine Done.updV (v:=.tuple #[]) (hs _ _ u) Q Z F (.cells _ _ _ _ _ g (by rw[Zfi,A,g]) ?_ (by rw[← g]; exact H) (Zi5 _ _ _ M G)) (Zfa _ _)
     simp only[List.length_append,List.length_take,List.length_drop,List.length_replicate];omega
    exact E
 ·have u:(Builtin.clear_ #[t] ty #[vx]).run P w=.ok (.tuple #[]) w:=by
   unfold Builtin.clear_;simp only[Sem.run_bind,List.getElem?_toArray,List.getElem?_cons_zero,V3 ht,Result.andThen_ok];rcases V with rfl|rfl
   ·cases U; rfl
   ·cases U with
    | emp a=>cases a<;>rfl
  exact Done.val (hs _ _ u) Q (Zfa _ _)
def EntR(Φ:Pers)(ρ:Rho)(es:List (AVal×AVal×Nat))(en:List MapEntry):Prop:=
 en.length=es.length ∧ ∀(i:Nat) (x:AVal×AVal×Nat),es[i]? = some x → ∃ y:MapEntry,en[i]? = some y∧R Φ ρ x.1 y.key∧R Φ ρ x.2.1 y.val∧y.born=x.2.2
theorem EntR.tail{x:AVal×AVal×Nat}{y:MapEntry}{a:List (AVal×AVal×Nat)}{en:List MapEntry}(h:EntR Φ ρ (x :: a) (y :: en)):EntR Φ ρ a en:=
 ⟨by simpa using h.1,fun i z b=>by simpa using h.2 (i+1) z (by simpa using b)⟩
theorem Yc0{g:KeyT}{key:TypeId}{d:TypeDesc}{y z:AVal}{i j:Value}{b:Bool}(k:P.underlying key=some d)(a:F6 P key=some g)(e:R Φ ρ y i)(f:R Φ ρ z j)(h:B3 g y z=some b):Instr.sameNow d i j=some b:=by
 unfold F6 at a;rw[k]at a;cases d<;>simp only at a<;>first|(cases a; done)|(injection a with a; subst a)
 all_goals (cases y<;>cases z<;>simp only[B3]at h<;>first|(cases h; done)|skip)
 ·injection h with h; subst h
  rw[Zax e,Zax f]; rfl
 ·split at h
  ·rename_i c;injection h with h; subst h; subst c
   rw[F3 e,F3 f];simp[Instr.sameNow]
  ·cases h
 ·injection h with h; subst h
  rw[Zat e,Zat f];simp only[Instr.sameNow];rw[beq_toListBytes,Zcs,Zcs]
theorem Znb{k:KeyT}{key:TypeId}{d:TypeDesc}{y:AVal}{t:Value}(w:P.underlying key=some d)(v:F6 P key=some k)(A:R Φ ρ y t):∀ (f:List (AVal×AVal×Nat)) (en:List MapEntry) (r:Option (Nat×AVal×Nat)) (q:Nat),EntR Φ ρ f en →
 D0 k y f=some r→(r=none∧Instr.findNow d t en q=some none)∨(∃ i z born e,r=some (i,z,born)∧en[i]? = some e∧(∃ m,f[i]? = some (m,z,born)∧B3 k y m=some true)∧Instr.findNow d t en q=some (some (q+i,e.val)))
 | [],[],r,q,_,c=>by
  simp only[D0,oI]at c;exact .inl ⟨c.symm,rfl⟩
 | [],e :: en,r,q,h,_=>by have:=h.1; simp at this
 | x :: f,[],r,q,h,_=>by have:=h.1; simp at this
 | (s,B,b0) :: f,e :: en,r,q,h,c=>by
  obtain⟨e',u,D,F,G⟩:=h.2 0 (s,B,b0) rfl;simp only[List.getElem?_cons_zero,oI]at u;subst u;simp only[D0]at c;cases a:B3 k y s with
  | none=>simp[a]at c
  | some b=>
   have j:=Yc0 w v A D a;cases b with
   | true=>
    simp only[a,oI]at c;refine .inr ⟨0,B,b0,e,c.symm,rfl,⟨s,rfl,a⟩,?_⟩;simp only[Instr.findNow,j];rfl
   | false=>
    simp only[a]at c;cases l:D0 k y f with
    | none=>simp[l]at c
    | some E=>
     rcases Znb w v A f en E (q+1) h.tail l with⟨rfl,g⟩|⟨i,z,born,C,rfl,n,⟨m,o,p⟩,g⟩
     ·simp only[l,oI]at c;exact .inl ⟨c.symm,by simp only[Instr.findNow,j,g]⟩
     ·simp only[l,oI]at c;refine .inr ⟨i+1,z,born,C,c.symm,by simpa using n,⟨m,by simpa using o,p⟩,?_⟩
      simp only[Instr.findNow,j,g]
      congr 3
      omega
theorem Znd{g:KeyT}{key:TypeId}{y:AVal}{f:Value}(b:Bool)(a:F6 P key=some g):(Instr.checkKey b 10000 key f).run P w=.ok () w:=by
 have e:∀ n,(Instr.checkKey b (n+1) key f).run P w=.ok () w:=by
  intro n;unfold F6 at a;cases c:P.underlying key with
  | none=>simp[c]at a
  | some d=>
   cases d<;>simp only[c]at a<;>first|(cases a; done)|(simp only[Instr.checkKey,Sem.run_bind,V3 c,Result.andThen_ok]; rfl)
 exact e 9999
theorem Zs0{a:List (AVal×AVal×Nat)}{en:Array MapEntry}(c:en.size=a.length)(b:∀ (i:Nat) (x:AVal×AVal×Nat),a[i]? = some x → ∃ y:MapEntry,en[i]? = some y∧R Φ ρ x.1 y.key∧R Φ ρ x.2.1 y.val∧y.born=x.2.2):EntR Φ ρ a en.toList:=
 ⟨by simpa using c,fun i x d=>by simpa using b i x d⟩
theorem Z0u{t key e:TypeId}{Y:KeyT}{zero:AVal}{y J:AVal}{s:Value}{A:List (AVal×AVal×Nat)}{r:Option (Nat×AVal×Nat)}{ok:Bool}(hr:Rel W Φ ρ m w)(V:P.underlying t=some (.map key e))(I:F6 P key=some Y)(D:Zjp P e=some zero)
 (X:R Φ ρ y v) (O:R Φ ρ J s) (hm:(y=.nilMap∧A=[])∨(∃ b c,y=.map b∧m.get b=some (.map A c))) (hf:D0 Y J A=some r) :
 ∃ u,(Instr.lookup t v s ok).run P w=.ok u w∧R Φ ρ (if ok then .tuple [match r with|some (_,z,_)=>z|none=>zero,.bool r.isSome]else match r with|some (_,z,_)=>z|none=>zero) u:=by
 have p:∃ i zv,P.info? e=some i∧i.zero=some zv∧R Φ ρ zero zv:=by
  unfold Zjp at D;cases hi:P.info? e with
  | none=>simp[hi]at D
  | some i=>
   cases f:i.zero with
   | none=>simp[hi,f]at D
   | some zv=>simp only[hi,f]at D; exact⟨i,zv,rfl,f,Zq1 Φ ρ D⟩
 obtain⟨i,zv,hi,f,E⟩:=p;cases g:P.underlying key with
 | none=>simp[F6,g]at I
 | some d=>
  have j:∀ (en:Array MapEntry),EntR Φ ρ A en.toList → ∃ u,(do
   Instr.checkKey en.isEmpty 10000 key s
   let (v,ok') ← match ← Instr.findKey key s en.toList with
    | some (_,v)=>pure (v,true)
    | none=>pure (← zeroValue e,false)
   pure (if ok then Value.tuple #[v,.bool ok']else v):Sem Value).run P w=.ok u w∧R Φ ρ (if ok then .tuple [match r with|some (_,z,_)=>z|none=>zero,.bool r.isSome]else match r with|some (_,z,_)=>z|none=>zero) u:=by
   intro en B;have F:∀ (a b:AVal) (Q S:Value),R Φ ρ a Q→R Φ ρ b S→R Φ ρ (.tuple [a,b]) (.tuple #[Q,S]):=fun a b Q S ha hb=>.tuple _ _ rfl fun i x u o g=>by
    cases i with
    | zero=>simp at o g; subst o; subst g; exact ha
    | succ i=>
     cases i with
     | zero=>simp at o g; subst o; subst g; exact hb
     | succ i=>simp at o
   rcases Znb g I O A en.toList r 0 B hf with⟨rfl,n⟩|⟨q,z,born,Z,rfl,L,⟨kk,M,_⟩,n⟩
   ·have k:(Instr.findKey key s en.toList).run P w=.ok none w:=by
     simp only[Instr.findKey,Sem.run_bind,V3 g,Result.andThen_ok,n,Sem.run_pure]
    simp only[Sem.run_bind,Znd (y:=J) _ I,Result.andThen_ok,k,Zcc hi f,Sem.run_pure];cases ok
    ·exact⟨_,rfl,E⟩
    ·exact⟨_,rfl,F _ _ _ _ E (.bool _)⟩
   ·have k:(Instr.findKey key s en.toList).run P w=.ok (some (0+q,Z.val)) w:=by
     simp only[Instr.findKey,Sem.run_bind,V3 g,Result.andThen_ok,n,Sem.run_pure]
    obtain⟨e3,h,H,U,h4⟩:=B.2 q _ M;rw[L]at h; injection h with h; subst h
    simp only[Sem.run_bind,Znd (y:=J) _ I,Result.andThen_ok,k,Sem.run_pure];cases ok
    ·exact⟨_,rfl,U⟩
    ·exact⟨_,rfl,F _ _ _ _ U (.bool _)⟩
  rcases hm with⟨rfl,rfl⟩|⟨b,c,rfl,hg⟩
  ·cases X;obtain⟨u,h,H⟩:=j #[] ⟨rfl,fun i x o=>by simp at o⟩
   exact⟨u,Eq.trans (by simp only[Instr.lookup,Sem.run_bind,V3 V,Result.andThen_ok,Sem.run_pure]; rfl) h,H⟩
  ·cases X with
   | map _ l hl=>
    obtain⟨l',ob,G,g2,g3,g4,g5⟩:=hr.live b _ hg;rw[hl]at G; injection G with G; subst G
    cases g5 with
    | map _ K _ en hs N=>
     obtain⟨u,h,H⟩:=j en (Zs0 hs N);refine⟨u,?_,H⟩;have C:(getObj l.blk).run P w=.ok (.map en c) w:=by simp only[getObj,Sem.run,g4]
     exact Eq.trans (by simp only[Instr.lookup,Sem.run_bind,V3 V,Result.andThen_ok,Sem.run_pure,C]; rfl) h
end
end Go.AE
end
section
namespace Go.AE
open Go.RowKit
section
variable {P:Program} {s:Sem Next} {W:Base} {Φ:Pers} {ρ:Rho} {id:Nat} {w w1:World} {m m':Mem} {x:AVal} {v:Value}
theorem Z1r{c:KeyT}{y z:AVal}{d e:Value}(a:R Φ ρ y d)(b:R Φ ρ z e)(h:B3 c y z=some true):Instr.sameBits 10000 e d=true:=by
 cases c<;>cases y<;>cases z<;>simp only[B3]at h<;>first|(cases h; done)|skip
 ·split at h
  ·rename_i f;subst f;simp only[oI,beq_iff_eq]at h;subst h;rw[F3 a,F3 b];simp[Instr.sameBits]
  ·cases h
 ·simp only[oI,beq_iff_eq]at h;subst h;rw[Zat a,Zat b];simp only[Instr.sameBits];rw[beq_toListBytes]; simp
 ·simp only[oI,beq_iff_eq]at h;subst h;rw[Zax a,Zax b];simp[Instr.sameBits]
theorem Ybp{B:Nat}{o a:Obj}(h:w.heap[B]? = some o)(b:∀ c e f,o≠.cells c e f):(setObj B a).run P w=.ok () (P3 w B a):=by
 simp only[setObj,Sem.run,h];cases o<;>first|(exact absurd rfl (b _ _ _))|rfl
theorem Zy6{t key e:TypeId}{kt:KeyT}{b:Nat}{H yv:AVal}{vm o v:Value}{p B:List (AVal×AVal×Nat)}{a c:Nat}(hr:Rel W Φ ρ m w)(ht:P.underlying t=some (.map key e))(M:F6 P key=some kt)
 (hm:R Φ ρ (.map b) vm) (n:R Φ ρ H o) (S:R Φ ρ yv v) (Z:m.get b=some (.map p a))
 (L:(∃ i z born,D0 kt H p=some (some (i,z,born))∧B=p.set i (H,yv,born)∧c=a)∨(D0 kt H p=some none∧B=p++[(H,yv,a)]∧c=a+1))
 (hs:∀ w',(Instr.mapUpdate t vm o v).run P w=.ok () w'→s.run P w=.ok .skip w'):Done P s W Φ ρ id w aundef (m.set b (.map B c)):=by
 cases Q:P.underlying key with
 | none=>simp[F6,Q]at M
 | some d=>
  cases hm with
  | map _ l hl=>
   obtain⟨l',ob,V,g2,g3,g4,g5⟩:=hr.live b _ Z;rw[hl]at V; injection V with V; subst V
   cases g5 with
   | map _ _ _ en G F=>
    have j:=Zs0 G F;have r:(getObj l.blk).run P w=.ok (.map en a) w:=by simp only[getObj,Sem.run,g4]
    have u:∀ o',(setObj l.blk o').run P w=.ok () (P3 w l.blk o'):=fun o'=>Ybp g4 (by simp)
    rcases L with⟨i,z,born,L,k,h⟩|⟨L,k,h⟩
    ·rcases Znb Q M n p en.toList _ 0 j L with⟨I,_⟩|⟨i',z',A,U,I,J,⟨kk,N,aa⟩,D⟩
     ·cases I
     ·simp only[oI,pI2]at I;obtain⟨rfl,rfl,rfl⟩:=I;have C:(Instr.findKey key o en.toList).run P w=.ok (some (0+i,U.val)) w:=by
       simp only[Instr.findKey,Sem.run_bind,V3 Q,Result.andThen_ok,D,Sem.run_pure]
      obtain⟨e3,X,h2,h3,h4⟩:=j.2 i _ N;rw[J]at X; injection X with X; subst X
      have K:en[i]? = some U:=by simpa using J
      have ac:=Z1r n h2 aa;have f:(Instr.mapUpdate t (.map (some l.blk)) o v).run P w=.ok () (P3 w l.blk (.map (en.modify i fun e=>{ e with key:=o,val:=v }) a)):=by
       simp only[Instr.mapUpdate,Sem.run_bind,V3 ht,Result.andThen_ok,r,Znd (y:=H) _ M,C,Nat.zero_add,K,Option.map_some,Option.getD_some,Instr.keyThatStays,ac,if_true,Sem.run_pure,u]
      subst k; subst h;refine Done.upd (hs _ f) hr Z hl (.map _ _ _ _ (by simp[G]) fun q y g=>?_)
      rw[List.getElem?_set]at g;by_cases E:i=q
      ·subst E;have O:i<p.length:=(gS.1 N).1;rw[if_pos rfl,if_pos O]at g;injection g with g
       subst g;exact⟨{ U with key:=o,val:=v },by simp[Array.getElem?_modify,K],n,S,h4⟩
      ·rw[if_neg E]at g;obtain⟨Y,k1,k2⟩:=F q y g;exact⟨Y,by rw[Array.getElem?_modify,if_neg E]; exact k1,k2⟩
    ·rcases Znb Q M n p en.toList _ 0 j L with⟨_,D⟩|⟨i',z',A,U,I,_⟩
     ·have C:(Instr.findKey key o en.toList).run P w=.ok none w:=by
       simp only[Instr.findKey,Sem.run_bind,V3 Q,Result.andThen_ok,D,Sem.run_pure]
      have f:(Instr.mapUpdate t (.map (some l.blk)) o v).run P w=.ok () (P3 w l.blk (.map (en.push { key:=o,val:=v,born:=a }) (a+1))):=by
       simp only[Instr.mapUpdate,Sem.run_bind,V3 ht,Result.andThen_ok,r,Znd (y:=H) _ M,C,u]
      subst k; subst h;refine Done.upd (hs _ f) hr Z hl (.map _ _ _ _ (by simp[G]) fun q y g=>?_)
      rw[List.getElem?_append]at g;split at g
      ·rename_i O;obtain⟨Y,k1,k2⟩:=F q y g;exact⟨Y,by rw[Array.getElem?_push,if_neg (by omega)]; exact k1,k2⟩
      ·rename_i ad;have ab:q=p.length:=by
        have:=(gS.1 g).1;simp at this; omega
       subst ab;simp only[Nat.sub_self,List.getElem?_cons_zero,oI]at g;subst g;exact⟨{ key:=o,val:=v,born:=a },by rw[Array.getElem?_push,if_pos (by omega)],n,S,rfl⟩
     ·cases I
theorem Z69{t ty:TypeId}{y:AVal}{n:Nat}(u:Rel W Φ ρ m w)(j:R Φ ρ y v)
 (h:(P.underlying t=some .string ∧ ∃ l,y=.str l∧n=l.length)∨((∃ e,P.underlying t=some (.slice e))∧W2 y=some n) ∨
   ((∃ k e,P.underlying t=some (.map k e))∧((y=.nilMap∧n=0) ∨ ∃ b o c,y=.map b∧m.get b=some (.map o c)∧n=o.length))) :
 (Builtin.len_ #[t] ty #[v]).run P w=.ok (.int .i64 n) w:=by
 rcases h with⟨f,l,rfl,rfl⟩|⟨⟨e,f⟩,d⟩|⟨⟨k,e,f⟩,hm⟩
 ·rw[Zat j];unfold Builtin.len_;simp only[Sem.run_bind,List.getElem?_toArray,List.getElem?_cons_zero,V3 f,Result.andThen_ok];rfl
 ·have A:∃ a c,v=.slice a n c:=by
   cases j<;>simp only[W2]at d<;>first|(cases d; done)|(injection d with d; subst d; exact⟨_,_,rfl⟩)
  obtain⟨a,c,rfl⟩:=A;unfold Builtin.len_;simp only[Sem.run_bind,List.getElem?_toArray,List.getElem?_cons_zero,V3 f,Result.andThen_ok];rfl
 ·rcases hm with⟨rfl,rfl⟩|⟨b,o,c,rfl,s,rfl⟩
  ·cases j;unfold Builtin.len_;simp only[Sem.run_bind,List.getElem?_toArray,List.getElem?_cons_zero,V3 f,Result.andThen_ok];rfl
  ·cases j with
   | map _ l d=>
    obtain⟨l',D,i,B,C,q,r⟩:=u.live b _ s;rw[d]at i; injection i with i; subst i
    cases r with
    | map _ _ _ en p z=>
     have g:(getObj l.blk).run P w=.ok (.map en c) w:=by simp only[getObj,Sem.run,q]
     unfold Builtin.len_;simp only[Sem.run_bind,List.getElem?_toArray,List.getElem?_cons_zero,V3 f,Result.andThen_ok,g,Sem.run_pure,goInt,p]
theorem Zw6(e:Bool):∀ (c:List AVal) (vs:List Value) (y z:AVal) (f:Value),R Φ ρ y f→vs.length=c.length→(∀(i:Nat) (x:AVal) (u:Value),c[i]? = some x→vs[i]? = some u→R Φ ρ x u)→Zct e y c=some z →
 ∃ u,((vs.foldlM (if e then Builtin.max2 else Builtin.min2) f)).run P w=.ok u w∧R Φ ρ z u
 | [],[],y,z,f,l,_,_,h=>by
  have:y=z:=by cases y<;>simpa[Zct]using h
  subst this;exact⟨f,rfl,l⟩
 | [],u :: vs,_,_,_,_,d,_,_=>by simp at d
 | x :: c,[],_,_,_,_,d,_,_=>by simp at d
 | x :: c,u :: vs,y,z,f,l,d,m,h=>by
  cases y<;>cases x<;>simp only[Zct]at h<;>first|(cases h; done)|skip
  rename_i k a q b;rw[F3 l];have j:=m 0 _ _ rfl rfl;rw[F3 j];obtain⟨p,g,n⟩:=Zw6 e c vs _ z (.int k (if e then (if b > a then b else a)else (if b<a then b else a))) (.int _ _) (by simpa using d) (fun i x u j o=>m (i+1) x u (by simpa using j) (by simpa using o)) h
  refine⟨p,?_,n⟩;rw[List.foldlM_cons];cases e
  ·simp only[bF,if_false,Sem.run_bind,Builtin.min2,Sem.run_pure,Result.andThen_ok]at g ⊢;exact g
  ·simp only[if_true,Sem.run_bind,Builtin.max2,Sem.run_pure,Result.andThen_ok]at g ⊢;exact g
end
end Go.AE
end
section
namespace Go.AE
open Go.RowKit
section
variable {P:Program} {s:Sem Next} {W:Base} {Φ:Pers} {ρ:Rho} {id:Nat} {w w1:World} {m m':Mem} {x:AVal} {v:Value}
theorem A5{s:Sem Value}{u:Value}{w w':World}(h:s.run P w=.ok u w'):(do pure (Next.value (← s)):Sem Next).run P w=.ok (.value u) w':=by
 simp only[Sem.run_bind,h,Result.andThen_ok,Sem.run_pure]
theorem Zvt{s:Sem Unit}{w w':World}(h:s.run P w=.ok () w'):(do s; pure Next.skip:Sem Next).run P w=.ok .skip w':=by
 simp only[Sem.run_bind,h,Result.andThen_ok,Sem.run_pure]
theorem Done.ofV{s:Sem Value}(c:Rel W Φ ρ m w)(h:∃ u,s.run P w=.ok u w∧R Φ ρ x u):Done P (do pure (Next.value (← s))) W Φ ρ id w x m:=by
 obtain⟨u,a,b⟩:=h;exact Done.val (A5 a) c b
theorem Zt5(f:Value→ByteArray→Sem (ForInStep ByteArray))(j:∀ n b,(f (.int .u8 n) b).run P w=.ok (.yield (b.push (UInt8.ofNat n.toNat))) w):∀ (rows:List (List AVal)) (vs:List Value) (l:List UInt8) (b:ByteArray),vs.length=rows.length→Zek rows=some l →
 (∀(i:Nat) (row:List AVal) (x:AVal),rows[i]? = some row→row[0]? = some x → ∃ v,vs[i]? = some v∧R Φ ρ x v) →
 (forIn vs b f).run P w=.ok ⟨⟨b.data.toList++l⟩⟩ w
 | [],[],l,b,_,h,_=>by
  simp only[Zek,oI]at h;subst h;simp[List.forIn_nil]
 | [],_ :: _,_,_,d,_,_=>by simp at d
 | _ :: _,[],_,_,d,_,_=>by simp at d
 | row :: rows,v :: vs,l,b,d,h,k=>by
  unfold Zek at h;split at h
  ·rename_i a; cases a
  ·rename_i n r a;injection a with e1 e2
   subst e1; subst e2;cases g:Zek rows with
   | none=>simp[g]at h
   | some l'=>
    simp only[g,oI]at h;subst h;obtain⟨u,e,c⟩:=k 0 _ _ rfl rfl;simp only[List.getElem?_cons_zero,oI]at e;subst e;rw[F3 c];have p:=Zt5 f j rows vs l' (b.push (UInt8.ofNat n.toNat)) (by simpa using d) g (fun i row x m o=>by
     obtain⟨u,e,c⟩:=k (i+1) row x (by simpa using m) o
     exact⟨u,by simpa using e,c⟩)
    simp only[List.forIn_cons,Sem.run_bind,j,Result.andThen_ok];rw[p];simp[ByteArray.push]
  ·cases h
theorem Yby{y:AVal}{rows:List (List AVal)}{l:List UInt8}(B:Rel W Φ ρ m w)(r:R Φ ρ y v)(d:I1 m 1 y=some rows)(k:Zek rows=some l) :
 (Conv.bytesToString v).run P w=.ok (.string ⟨⟨l⟩⟩) w:=by
 have h:N6 m 1 y=some rows:=by
  cases y<;>simp only[N6]<;>first|exact d|(simp[I1]at d)
 obtain⟨arr,p,q,f,t⟩:=Zer (P:=P) B r h (Nat.le_refl 1);have D:∃ a n c,v=.slice a n c:=by
  cases r<;>simp only[I1]at d<;>first|(cases d; done)|exact⟨_,_,_,rfl⟩
 obtain⟨a,n,c,rfl⟩:=D;have A:n=rows.length:=by
  simp[Builtin.lenOf]at p;exact p
 subst A;cases a with
 | none=>
  have g:=q rows.length (Nat.le_refl _);cases e:rows with
  | nil=>
   subst e;simp only[Zek,oI]at k;subst k;rfl
  | cons row s=>
   rw[e]at g;simp[Builtin.firstCells]at g;rw[g,e]at f;simp at f
 | some a=>
  have g:=q rows.length (Nat.le_refl _);have z:(loadCells a rows.length).run P w=.ok arr w:=by
   by_cases j:rows.length=0
   ·rw[j]at f;have:arr = #[]:=by simpa using f
    rw[j,this];rfl
   ·have:arr.extract 0 (rows.length*1)=arr:=by rw[← f]; simp
    rw[this]at g;simpa[Builtin.firstCells,j]using g
  unfold Conv.bytesToString;simp only[Sem.run_bind,z,Result.andThen_ok];rw[← Array.forIn_toList,Zt5 (Φ:=Φ) (ρ:=ρ) _ (fun n b=>rfl) rows arr.toList l _ (by simpa using f) k (fun i row x hi E=>by
   obtain⟨u,C,_,o⟩:=t.2 i row 0 x hi E;exact⟨u,by simpa using C,o⟩)]
  simp[ByteArray.empty,ByteArray.emptyWithCapacity];rfl
theorem Z96{t:TypeId}{b:List AVal}(k:Rel W Φ ρ m w)(j:ρ id=none)(a:id<m.next)(l:Zcj P t=some b) :
 Done P (do pure (Next.value (← Instr.alloc t true (.tuple #[])))) W Φ ρ id w (.ptr id 0 0) (m.set id (.cells b.length [b])):=by
 obtain⟨i,z,y,c,d,f,g,h⟩:=Zeh l Φ ρ;refine Zv3 (v:=z) (e:=t) k j a f g h (A5 ?_);simp[Instr.alloc,Zcc c d,newVar,newRow]
theorem Z8n{t:TypeId}{y:AVal}{cs:List AVal}(f:Rel W Φ ρ m w)(d:ρ id=none)(a:id<m.next)(g:R Φ ρ y v)(c:y.cells=some cs)(b:cs.all AVal.one=true) :
 Done P (do pure (Next.value (← Instr.box t v))) W Φ ρ id w (.ptr id 0 0) (m.set id (.cells cs.length [cs])):=by
 refine Zv3 (v:=v) (e:=t) f d a g c b (A5 ?_);simp[Instr.box,newVar,newRow]
theorem Z5m{t:TypeId}(c:Rel W Φ ρ m w)(b:ρ id=none)(a:id<m.next) :
 Done P (do pure (Next.value (← Instr.makeMap t none))) W Φ ρ id w (.map id) (m.set id (.map [] 0)):=by
 refine Done.new (l:=⟨w.heap.size,0,0,0⟩) (o:=.map #[] 0) (A5 ?_) c b a rfl (.map _ _ _ _ rfl fun i x h=>by simp at h) (.map id _ Rho.put_same)
 simp[Instr.makeMap]
theorem Ybo{vs:List AVal}{i:Nat}{z:AVal}(e:R Φ ρ (.tuple vs) v)(hi:vs[i]? = some z):∃ u,(Instr.extract v i).run P w=.ok u w∧R Φ ρ z u:=by
 cases e with
 | tuple _ b d c=>
  have a:i<b.size:=by rw[d]; exact(gS.1 hi).1
  refine⟨b[i],?_,c i z _ hi (Array.getElem?_eq_getElem a)⟩;simp[Instr.extract,a]
theorem Zy0(e:EqT):G5 e .bot=none:=by cases e<;>rfl
theorem Z7a(e:EqT)(z:AVal):Zei e .bot z=none:=by
 simp only[Zei,Zy0];split<;>rfl
theorem Z75(e:EqT)(z:AVal):Zei e z .bot=none:=by
 simp only[Zei,Zy0];split<;>rfl
theorem Zl1(e:EqT)(z:AVal):eqA e .bot z=none∧eqA e z .bot=none:=by
 cases e<;>simp[eqA,Z7a,Z75]
theorem Zzd{op:BinOp}{t:TypeId}{e:EqT}{y z r:AVal}{f g:Value}{ox oy:Operand}(C:cEq P t=some e)(h:W7 op e y z=some r)(i:R Φ ρ y f)(j:R Φ ρ z g) :
 ∃ u,(do eqGuard op t ox oy f g; binOp op t f g:Sem Value).run P w=.ok u w∧R Φ ρ r u:=by
 have d:∀ k a n b,(eqGuard op t ox oy (.int k a) (.int n b)).run P w=.ok () w:=by
  intro k a n b;unfold eqGuard;cases op<;>simp
 have m:∀ a b,(eqGuard op t ox oy (.string a) (.string b)).run P w=.ok () w:=by
  intro a b;unfold eqGuard;cases op<;>simp
 have v:∀ b,eqA e y z=some b→op=.eql→r=.bool b → ∃ u,(do eqGuard op t ox oy f g; binOp op t f g:Sem Value).run P w=.ok u w∧R Φ ρ r u:=by
  intro b c B l;subst B; subst l;obtain⟨o,p,q,s,D⟩:=Ztx (w:=w) (op:=.eql) (ox:=ox) (oy:=oy) C c i j;refine⟨.bool b,?_,.bool b⟩;simp only[Sem.run_bind,o,Result.andThen_ok];have:binOp .eql t f g=(do pure (.bool (← Op.equal t f g)):Sem Value):=by
   cases i<;>first|(exact absurd rfl (q _ _))|(exact absurd rfl (s _))|skip
   all_goals first|(exfalso; rw[(Zl1 _ _).1]at c; cases c; done)|(cases j<;>first|rfl|(exfalso; rw[(Zl1 _ _).2]at c; cases c; done))
  rw[this];simp only[Sem.run_bind,p,Result.andThen_ok,Sem.run_pure]
 have A:∀ b,eqA e y z=some b→op=.neq→r=.bool (!b) → ∃ u,(do eqGuard op t ox oy f g; binOp op t f g:Sem Value).run P w=.ok u w∧R Φ ρ r u:=by
  intro b c B l;subst B; subst l;obtain⟨o,p,q,s,D⟩:=Ztx (w:=w) (op:=.neq) (ox:=ox) (oy:=oy) C c i j;refine⟨.bool (!b),?_,.bool _⟩;simp only[Sem.run_bind,o,Result.andThen_ok];have:binOp .neq t f g=(do pure (.bool (!(← Op.equal t f g))):Sem Value):=by
   cases i<;>first|(exact absurd rfl (q _ _))|(exact absurd rfl (s _))|skip
   all_goals first|(exfalso; rw[(Zl1 _ _).1]at c; cases c; done)|(cases j<;>first|rfl|(exfalso; rw[(Zl1 _ _).2]at c; cases c; done))
  rw[this];simp only[Sem.run_bind,p,Result.andThen_ok,Sem.run_pure]
 unfold W7 at h;split at h
 ·split at h
  ·cases h
  ·rename_i k a n b c;injection h with h
   subst h;rw[F3 i,F3 j];simp only[Sem.run_bind,d,Result.andThen_ok];refine⟨_,?_,.int _ _⟩;simp[binOp,Op.shift,c]
 ·split at h
  ·cases h
  ·rename_i k a n b c;injection h with h
   subst h;rw[F3 i,F3 j];simp only[Sem.run_bind,d,Result.andThen_ok];refine⟨_,?_,.int _ _⟩;simp[binOp,Op.shift,c]
 ·split at h
  ·rename_i E;subst E;rw[F3 i,F3 j];simp only[Sem.run_bind,d,Result.andThen_ok];exact Yak h
  ·cases h
 ·rw[Zat i,Zat j];simp only[Sem.run_bind,m,Result.andThen_ok];exact Z86 h
 ·split at h
  ·rename_i b c;injection h with h
   exact v b c rfl h.symm
  ·cases h
 ·split at h
  ·rename_i b c;injection h with h
   exact A b c rfl h.symm
  ·cases h
 ·cases h
end
end Go.AE
end
section
namespace Go.AE
open Go.RowKit
section
variable {P:Program} {W:Base} {Φ:Pers} {ρ:Rho} {id:Nat} {w:World} {m m':Mem} {x:AVal} {a:Act} {t:List AVal}
theorem Zir(b:RL Φ ρ t a.tmps){xs:Array Operand}{e:List AOpd}(h:Zaa xs.toList=some e):RL Φ ρ (e.map (ev t)) (xs.map a.eval):=by
 obtain⟨f,g⟩:=Zzc b _ _ h;refine⟨by simp[f],fun i x v d c=>?_⟩
 simp only[List.getElem?_map,Option.map_eq_some_iff]at d;obtain⟨y,j,rfl⟩:=d;simp only[Array.getElem?_map,Option.map_eq_some_iff]at c;obtain⟨z,k,rfl⟩:=c;exact T4 b (g i y z j (by simpa using k))
theorem Z4b{s:Sem Next}{y:AVal}{v:Value}(n:Rel W Φ ρ m w)
 (h:(match y with | .ptr b i j=>some (.ptr b i j,m) | .iptr els i j=>some (.iptr els i j,m) | .func (.func f) a b=>some (.func (.func f) a b,m)|_=>none)=some (x,m')) (G:R Φ ρ y v)
 (t:(∀ p,v=.pointer (some p)→s.run P w=.ok (.value v) w)∧(∀ f p q,v=.func (.func f) p q→s.run P w=.ok (.value v) w)):Done P s W Φ ρ id w x m':=by
 cases G with
 | ptr b i j l F=>
  simp only[oI,pI2]at h;obtain⟨d,e⟩:=h;subst d; subst e;exact Done.val (t.1 _ rfl) n (.ptr b i j l F)
 | iptr els i j B o k c f C E g r=>
  simp only[oI,pI2]at h;obtain⟨d,e⟩:=h;subst d; subst e;exact Done.val (t.1 _ rfl) n (.iptr els i j B o k c f C E g r)
 | func fn u cs I H D g z A=>
  cases fn<;>simp only[oI,pI2,reduceCtorEq]at h
  obtain⟨d,e⟩:=h;subst d; subst e;exact Done.val (t.2 _ _ _ rfl) n (.func _ u cs I H D g z A)
 | _=>simp at h
theorem Z21{y:AVal}{v:Value}{n:Nat}(b:R Φ ρ y v)(a:W2 y=some n):∃ p c,v=.slice p n c∧n≤c:=by
 cases b<;>simp only[W2]at a<;>first|(cases a; done)|skip
 all_goals (injection a with a; subst a)
 all_goals first|exact⟨_,_,rfl,by simp⟩|exact⟨_,_,rfl,by assumption⟩
theorem V9{α e:Type}{a c:α}{b d:e}(h:some (a,b)=some (c,d)):a=c∧b=d:=by
 injection h with h; injection h with h1 h2; exact⟨h1,h2⟩
theorem Zea{b:Builtin}{c:Call}{o:Oper}{s:Sem Value}(f:o.op=.call c)(e:c.callee=.builtin b)
 (d:∀ cs,builtin b c.argTypes o.type cs (c.args.map a.eval)=(do pure (Next.value (← s)))):∀ u w',s.run P w=.ok u w'→(execOp a.eval o).run P w=.ok (.value u) w':=by
 intro u w' h;unfold execOp;rw[f];simp only[resolve,e,Sem.run_bind,Sem.run_pure,Result.andThen_ok,invoke];rw[d];exact A5 h
theorem Zmd{c:Call}{p q:Operand}(h:c.args.toList=[p,q]):c.args.map a.eval = #[a.eval p,a.eval q]:=by
 have:c.args = #[p,q]:=by rw[← Array.toList_inj]; exact h
 rw[this]; simp
theorem Zp1{c:Call}{p:Operand}(h:c.args.toList=[p]):c.args.map a.eval = #[a.eval p]:=by
 have:c.args = #[p]:=by rw[← Array.toList_inj]; exact h
 rw[this]; simp
theorem Zse(r:RL Φ ρ t a.tmps)(q:Rel W Φ ρ m w)(o:Oper)(c:Call)(E:o.op=.call c)(d:Bool)(f:c.callee=.builtin (if d then .max else .min))
 (g:∀ u w',(if d then Builtin.max_ c.argTypes o.type (c.args.map a.eval)else Builtin.min_ c.argTypes o.type (c.args.map a.eval)).run P w=.ok u w'→(execOp a.eval o).run P w=.ok (.value u) w')
 {xs:List AOpd} (e:Zaa c.args.toList=some xs) (h:stepA id t m (.minmax d xs)=some (x,m')):Done P (execOp a.eval o) W Φ ρ id w x m':=by
 simp only[stepA]at h;have b:=Zir r e;cases xs with
 | nil=>simp at h
 | cons y D=>
  simp only at h;split at h<;>first|(cases h; done)|skip
  rename_i z C;obtain⟨n,p⟩:=V9 h;subst n; subst p;generalize A:c.args.map a.eval=vs at g b;obtain⟨l⟩:=vs;cases l with
  | nil=>simp[RL]at b
  | cons v l=>
   obtain⟨u,j,k⟩:=Zw6 (P:=P) (w:=w) d (D.map (ev t)) l _ z v (b.2 0 _ _ rfl rfl) (by simpa[RL]using b.1) (fun i x u B s=>b.2 (i+1) x u (by simpa using B) (by simpa using s)) C
   refine Done.val (g u w ?_) q k;cases d<;>exact j
theorem Z4d(H:RL Φ ρ t a.tmps)(G:Rel W Φ ρ m w)(hn:ρ id=none)(aa:id<m.next)(o:Oper)(c:Call)(J:o.op=.call c)(op:AOp)
 (f:Za5 P c=some op) (h:stepA id t m op=some (x,m')):Done P (execOp a.eval o) W Φ ρ id w x m':=by
 unfold Za5 at f;split at f
 ·split at f
  ·injection f with f; subst f; simp[stepA]at h
  ·cases f
 ·rename_i g;split at f<;>first|(cases f; done)|skip
  rename_i s V E u i p;split at f<;>first|(cases f; done)|skip
  rename_i k b z s' x' M Q F;split at f<;>first|(cases f; done)|skip
  ·injection f with f; subst f; simp[stepA]at h
  ·rename_i d hd Z;injection f with f
   subst f;simp only[stepA]at h;split at h<;>first|(cases h; done)|skip
   rename_i xs D;have j:c.argTypes = #[E,u]:=by rw[← Array.toList_inj]; exact p
   exact Z1l (ty:=o.type) (r:=(x,m')) G hn aa M Z (fun k hk=>hd k hk) (T4 H Q) (T4 H F) D h
    (Zea J g fun cs=>by rw[Zmd i,j]; rfl)
 ·rename_i g;split at f<;>first|(cases f; done)|skip
  rename_i dd ss E u i p;split at f<;>first|(cases f; done)|skip
  rename_i k b z d' s' M Y Q;injection f with f
  subst f;simp only[stepA]at h;split at h<;>first|(cases h; done)|skip
  rename_i bb off len xs C D;split at h<;>first|(cases h; done)|skip
  rename_i k' els U;split at h<;>first|(cases h; done)|skip
  rename_i B;obtain⟨rfl,O⟩:=B;obtain⟨v,A⟩:=V9 h;subst v; subst A;have j:c.argTypes = #[E,u]:=by rw[← Array.toList_inj]; exact p
  have S:=T4 H Y;rw[C]at S;exact Z44 (ty:=o.type) (u:=u) G M S (T4 H Q) D U O (Zea J g fun cs=>by rw[Zmd i,j]; rfl)
 ·rename_i g;split at f<;>first|(cases f; done)|skip
  rename_i V E i p;split at f<;>first|(cases f; done)|skip
  rename_i k b z x' M F;injection f with f
  subst f;simp only[stepA]at h;have j:c.argTypes = #[E]:=by rw[← Array.toList_inj]; exact p
  have q:=Zea (P:=P) (w:=w) (a:=a) (s:=Builtin.clear_ #[E] o.type #[a.eval V]) J g (fun cs=>by rw[Zp1 i,j]; rfl)
  split at h<;>first|(cases h; done)|skip
  ·rename_i b' off len C;split at h<;>first|(cases h; done)|skip
   rename_i k' els U;split at h<;>first|(cases h; done)|skip
   rename_i B;obtain⟨rfl,O⟩:=B;obtain⟨v,A⟩:=V9 h;subst v; subst A;exact Zos G M (T4 H F) (.inl ⟨_,_,_,_,C,U,O,rfl⟩) q
  ·rename_i C;obtain⟨v,A⟩:=V9 h;subst v; subst A;exact Zos G M (T4 H F) (.inr ⟨.inl C,rfl⟩) q
  ·rename_i C;obtain⟨v,A⟩:=V9 h;subst v; subst A;exact Zos G M (T4 H F) (.inr ⟨.inr C,rfl⟩) q
 ·rename_i g;split at f<;>first|(cases f; done)|skip
  rename_i V E i p;have j:c.argTypes = #[E]:=by rw[← Array.toList_inj]; exact p
  have q:=Zea (P:=P) (w:=w) (a:=a) (s:=Builtin.len_ #[E] o.type #[a.eval V]) J g (fun cs=>by rw[Zp1 i,j]; rfl)
  have I:∀ (y:AOpd) (n:Nat),Y4 V=some y→x=.int .i64 n→m'=m →
   ((P.underlying E=some .string ∧ ∃ l,ev t y=.str l∧n=l.length)∨((∃ e,P.underlying E=some (.slice e))∧W2 (ev t y)=some n) ∨
   ((∃ k e,P.underlying E=some (.map k e))∧((ev t y=.nilMap∧n=0) ∨ ∃ b X c,ev t y=.map b∧m.get b=some (.map X c)∧n=X.length)))→Done P (execOp a.eval o) W Φ ρ id w x m':=by
   intro y n L v A h3;subst v; subst A;exact Done.val (q _ _ (Z69 G (T4 H L) h3)) G (.int _ _)
  split at f<;>first|(cases f; done)|skip
  ·rename_i n e K;injection f with f
   subst f;simp only[stepA]at h;obtain⟨v,A⟩:=V9 h;subst v; subst A;refine Done.val (q (.int .i64 n) w ?_) G (.int _ _);unfold Builtin.len_;simp only[Sem.run_bind,List.getElem?_toArray,List.getElem?_cons_zero,V3 K,Result.andThen_ok];rfl
  all_goals
   injection f with f
   subst f;simp only[stepA]at h
  ·rename_i y K L;split at h<;>first|(cases h; done)|skip
   rename_i l N;obtain⟨v,A⟩:=V9 h;exact I y _ L v.symm A.symm (.inl ⟨K,l,N,rfl⟩)
  ·rename_i e y K L;split at h<;>first|(cases h; done)|skip
   rename_i n N;obtain⟨v,A⟩:=V9 h;exact I y _ L v.symm A.symm (.inr (.inl ⟨⟨_,K⟩,N⟩))
  ·rename_i k e y K L;split at h<;>first|(cases h; done)|skip
   ·rename_i N;obtain⟨v,A⟩:=V9 h;exact I y 0 L v.symm A.symm (.inr (.inr ⟨⟨_,_,K⟩,.inl ⟨N,rfl⟩⟩))
   ·rename_i b N;split at h<;>first|(cases h; done)|skip
    rename_i X c U;obtain⟨v,A⟩:=V9 h;exact I y _ L v.symm A.symm (.inr (.inr ⟨⟨_,_,K⟩,.inr ⟨b,X,c,N,U,rfl⟩⟩))
 ·split at f<;>first|(cases f; done)|skip
  split at f<;>first|(cases f; done)|skip
  injection f with f
  subst f;simp[stepA]at h
 ·rename_i g;split at f<;>first|(cases f; done)|skip
  rename_i xs D;injection f with f
  subst f;exact Zse H G o c J false g (Zea J g fun cs=>rfl) D h
 ·rename_i g;split at f<;>first|(cases f; done)|skip
  rename_i xs D;injection f with f
  subst f;exact Zse H G o c J true g (Zea J g fun cs=>rfl) D h
 ·cases f
end
end Go.AE
end
section
namespace Go.AE
open Go.RowKit
section
variable {P:Program} {W:Base} {Φ:Pers} {ρ:Rho} {id:Nat} {w:World} {m m':Mem} {x:AVal} {a:Act} {t:List AVal}
theorem Zyy{y:AVal}{v:Value}{b:Bool}(a:R Φ ρ y v)(h:y=.bool b):v=.bool b:=by subst h; exact Zax a
theorem Zso(f:RL Φ ρ t a.tmps)(s:Rel W Φ ρ m w)(ty:TypeId)(A ok ov:Operand)(op:AOp)
 (c:(match P.underlying ty,Y4 A,Y4 ok,Y4 ov with
 | some (.map y _),some m',some C,some D=>match F6 P y with
  | some q=>some (AOp.mapUpd q m' C D)
  | none=>none
 | _,_,_,_=>none)=some op) (h:stepA id t m op=some (x,m')) :
 Done P (do Instr.mapUpdate ty (a.eval A) (a.eval ok) (a.eval ov); pure Next.skip) W Φ ρ id w x m':=by
 split at c<;>first|(cases c; done)|skip
 rename_i y e G F H u hm p v;split at c<;>first|(cases c; done)|skip
 rename_i q r;injection c with c
 subst c;simp only[stepA]at h;split at h<;>first|(cases h; done)|skip
 rename_i b B;split at h<;>first|(cases h; done)|skip
 rename_i E g o;have d:=T4 f hm;rw[B]at d;split at h<;>first|(cases h; done)|skip
 ·rename_i i z born l;obtain⟨j,k⟩:=V9 h;subst j; subst k;exact Zy6 s u r d (T4 f p) (T4 f v) o (.inl ⟨_,_,_,l,rfl,rfl⟩) fun w' n=>Zvt n
 ·rename_i l;obtain⟨j,k⟩:=V9 h;subst j; subst k;exact Zy6 s u r d (T4 f p) (T4 f v) o (.inr ⟨l,rfl,rfl⟩) fun w' n=>Zvt n
theorem Z32(I:RL Φ ρ t a.tmps)(C:Rel W Φ ρ m w){ty e:TypeId}{k:Nat}{ox:Operand}{lo hi v:Option Operand}{Z:AOpd}{l Q N:Option AOpd}(M:P.underlying ty=some (.slice e))(L:N7 P e=some k)
 (hx:Y4 ox=some Z) (A:H8 lo=some l) (H:H8 hi=some Q) (f:H8 v=some N) (h:stepA id t m (.slSl k Z l Q N)=some (x,m')) :
 Done P (do pure (Next.value (← Instr.sliceAt ty (a.eval ox) (lo.map a.eval) (hi.map a.eval) (v.map a.eval)))) W Φ ρ id w x m':=by
 have s:=Zhu I A;have r:=Zhu I H;have o:=T4 I hx;cases v with
 | none=>
  simp only[H8,oI]at f;subst f;simp only[stepA]at h;have key:m'=m ∧ ∃ u,(Instr.sliceAt ty (a.eval ox) (lo.map a.eval) (hi.map a.eval) none).run P w=.ok u w∧R Φ ρ x u:=by
   split at h<;>first|(cases h; done)|skip
   ·rename_i E;split at h<;>first|(cases h; done)|skip
    rename_i lh y;obtain⟨i,j⟩:=V9 h;exact Zk5 C M L o s r (.inl ⟨E,⟨_,y⟩,i.symm,j.symm⟩)
   ·rename_i E;split at h<;>first|(cases h; done)|skip
    rename_i lh y;obtain⟨i,j⟩:=V9 h;exact Zk5 C M L o s r (.inr (.inl ⟨E,⟨_,y⟩,i.symm,j.symm⟩))
   ·rename_i els E;split at h<;>first|(cases h; done)|skip
    rename_i J;split at h<;>first|(cases h; done)|skip
    rename_i l1 l2 y;obtain⟨i,j⟩:=V9 h;exact Zk5 C M L o s r (.inr (.inr (.inl ⟨_,_,_,E,J,y,i.symm,j.symm⟩)))
   ·rename_i b off len E;split at h<;>first|(cases h; done)|skip
    rename_i k' els hg;split at h<;>first|(cases h; done)|skip
    rename_i g;obtain⟨S,U⟩:=g;subst S;split at h<;>first|(cases h; done)|skip
    rename_i l hq y;obtain⟨i,j⟩:=V9 h;exact Zk5 C M L o s r (.inr (.inr (.inr ⟨_,_,_,_,_,_,E,hg,U,y,i.symm,j.symm⟩)))
  obtain⟨i,j⟩:=key;subst i;exact Done.ofV C j
 | some X=>
  simp only[H8]at f;cases V:Y4 X with
  | none=>simp[V]at f
  | some z=>
   simp only[V,oI]at f;subst f;simp only[stepA]at h;split at h<;>first|(cases h; done)|skip
   rename_i n v l' h' hn f B;split at h<;>first|(cases h; done)|skip
   rename_i q K;split at h<;>first|(cases h; done)|skip
   rename_i g;obtain⟨c1,c2,c3⟩:=g;obtain⟨p,c,hv,aa⟩:=Z21 o hn;have e1:∀ d,(Instr.sliceBound (a.eval X) c d).run P w=.ok v w:=fun d=>Zjs (T4 I V) (by simpa[G8]using f) (by omega)
   cases hi with
   | none=>simp[H8]at H
   | some D=>
    simp only[H8]at H;cases F:Y4 D with
    | none=>simp[F]at H
    | some z2=>
     simp only[F,oI]at H;subst H;have e2:∀ d,(Instr.sliceBound (a.eval D) v d).run P w=.ok q w:=fun d=>Zjs (T4 I F) K c2
     have e3:(Instr.sliceBounds true n c (lo.map a.eval) (some (a.eval D)) (some (a.eval X))).run P w=.ok (l',q,v) w:=by
      unfold Instr.sliceBounds;simp only[Sem.run_bind,e1,e2,Result.andThen_ok];cases lo with
      | none=>
       simp only[H8,oI]at A;subst A;simp only[G8,oI]at B;subst B;rfl
      | some Y=>
       simp only[H8]at A;cases G:Y4 Y with
       | none=>simp[G]at A
       | some z3=>
        simp only[G,oI]at A;subst A;have e4:∀ d,(Instr.sliceBound (a.eval Y) q d).run P w=.ok l' w:=fun d=>Zjs (T4 I G) (by simpa[G8]using B) c1
        simp only[Option.map_some,Sem.run_bind,e4,Result.andThen_ok,Sem.run_pure]
     have O:=Zij (a:=p) M L e3;rw[← hv]at O;split at h
     ·rename_i Q;obtain⟨i,j⟩:=V9 h;subst i; subst j;refine Done.val (A5 O) C ?_;have:q - l'=0:=by omega
      have h3:v - l'=0:=by omega
      rw[this,h3];exact .emp _
     ·obtain⟨i,j⟩:=V9 h;subst i; subst j;exact Done.val (A5 O) C (.bot _)
theorem Z51(U:RL Φ ρ t a.tmps)(C:Rel W Φ ρ m w)(hn:ρ id=none)(S:id<m.next)(o:Oper)(op:AOp)
 (g:cOp P o=some op) (h:stepA id t m op=some (x,m')):Done P (execOp a.eval o) W Φ ρ id w x m':=by
 have mk:∀ {y:AOpd} {z:Operand},Y4 z=some y→R Φ ρ (ev t y) (a.eval z):=fun hz=>T4 U hz
 unfold cOp at g;unfold execOp;split at g
 ·rename_i z B;rw[B];simp only[Option.map_eq_some_iff]at g;obtain⟨y,E,rfl⟩:=g;simp only[stepA]at h;obtain⟨j,A⟩:=V9 h;subst j; subst A;exact Done.val (by simp) C (mk E)
 ·rename_i z B;rw[B];simp only[Option.map_eq_some_iff]at g;obtain⟨y,E,rfl⟩:=g;simp only[stepA]at h;obtain⟨j,A⟩:=V9 h;subst j; subst A;exact Done.val (by simp) C (mk E)
 ·rename_i c1 a1 b1 B;rw[B];split at g<;>first|(cases g; done)|skip
  rename_i c' a' b' j A h3;injection g with g; subst g
  simp only[stepA]at h;split at h<;>first|(cases h; done)|skip
  ·rename_i hb;obtain⟨e1,e2⟩:=V9 h;subst e1; subst e2;have:=Zyy (mk j) hb;exact Done.val (v:=a.eval a1) (by simp[this,asBool]) C (mk A)
  ·rename_i hb;obtain⟨e1,e2⟩:=V9 h;subst e1; subst e2;have:=Zyy (mk j) hb;exact Done.val (v:=a.eval b1) (by simp[this,asBool]) C (mk h3)
 ·rename_i ty B;rw[B];simp only[Option.map_eq_some_iff]at g;obtain⟨zs,hz,rfl⟩:=g;simp only[stepA]at h;obtain⟨j,A⟩:=V9 h;subst j; subst A;exact Z96 C hn S hz
 ·rename_i ty z B;rw[B];simp only[Option.map_eq_some_iff]at g;obtain⟨y,E,rfl⟩:=g;simp only[stepA]at h;split at h<;>first|(cases h; done)|skip
  rename_i cs I;split at h<;>first|(cases h; done)|skip
  rename_i V;obtain⟨j,A⟩:=V9 h;subst j; subst A;exact Z8n C hn S (mk E) I V
 ·rename_i ty ps B;rw[B];split at g<;>first|(cases g; done)|skip
  ·rename_i fs z G hz;split at g<;>first|(cases g; done)|skip
   rename_i V;split at g<;>first|(cases g; done)|skip
   rename_i qs hq;injection g with g; subst g
   simp only[stepA]at h;split at h<;>first|(cases h; done)|skip
   rename_i cs I;obtain⟨j,A⟩:=V9 h;subst j; subst A;exact Done.ofV C (Z0i U G hz hq I fun f hf=>Option.isSome_iff_exists.1 (List.all_eq_true.1 V f hf))
  ·rename_i n e z G hz;split at g<;>first|(cases g; done)|skip
   rename_i k Z;split at g<;>first|(cases g; done)|skip
   rename_i qs hq;injection g with g; subst g
   simp only[stepA]at h;split at h<;>first|(cases h; done)|skip
   rename_i cs I;obtain⟨j,A⟩:=V9 h;subst j; subst A;exact Done.ofV C (Ya1 U G Z hz hq I)
 ·rename_i ty len ps B;rw[B];split at g<;>first|(cases g; done)|skip
  rename_i k b z qs he hq;split at g<;>first|(cases g; done)|skip
  rename_i ai;injection g with g; subst g
  simp only[stepA]at h;split at h<;>first|(cases h; done)|skip
  rename_i els ab;obtain⟨j,A⟩:=V9 h;subst j; subst A;exact Z3v C U hn S he hq ai ab fun u w' hw=>A5 hw
 ·rename_i ty z B;rw[B];split at g<;>first|(cases g; done)|skip
  rename_i n y hl E;injection g with g; subst g
  simp only[stepA]at h;split at h<;>first|(cases h; done)|skip
  rename_i v F;obtain⟨j,A⟩:=V9 h;subst j; subst A;exact Done.ofV C (Zvg C (mk E) hl F)
 ·rename_i ty z z2 B;rw[B];split at g<;>first|(cases g; done)|skip
  rename_i n a' x' M ha N;injection g with g; subst g
  simp only[stepA]at h;split at h<;>first|(cases h; done)|skip
  rename_i m2 al;obtain⟨j,A⟩:=V9 h;subst j; subst A;refine Z7f C (mk ha) (mk N) M al ?_;simp only[Sem.run_bind,Sem.run_pure];cases Sem.run P (Instr.storeAt ty (a.eval z) (a.eval z2)) w<;>rfl
 ·rename_i z B;rw[B];simp only[Option.map_eq_some_iff]at g;obtain⟨y,E,rfl⟩:=g;simp only[stepA]at h;refine Z4b C h (mk E) ⟨fun p hp=>?_,fun f p q hp=>?_⟩
  ·simp only[hp]; rfl
  ·simp only[hp]; rfl
 ·rename_i ao ty z z2 ar B;rw[B];split at g<;>first|(cases g; done)|skip
  rename_i x' y' e N E he;injection g with g; subst g
  simp only[stepA]at h;split at h<;>first|(cases h; done)|skip
  rename_i v F;obtain⟨j,A⟩:=V9 h;subst j; subst A;exact Done.ofV C (Zzd he F (mk N) (mk E))
 ·rename_i ao ty z B;rw[B];simp only[Option.map_eq_some_iff]at g;obtain⟨y,E,rfl⟩:=g;simp only[stepA]at h;split at h<;>first|(cases h; done)|skip
  rename_i v F;obtain⟨j,A⟩:=V9 h;subst j; subst A;exact Done.ofV C (Z0q F (mk E))
 ·rename_i s d z B;rw[B];split at g<;>first|(cases g; done)|skip
  ·rename_i k0 k y M hd E;injection g with g; subst g
   simp only[stepA]at h;split at h<;>first|(cases h; done)|skip
   rename_i k1 n F;obtain⟨j,A⟩:=V9 h;subst j; subst A;have D:=mk E;rw[F]at D;refine Done.val (A5 ?_) C (.int k _);rw[F3 D];simp only[convert,Sem.run_bind,V3 M,V3 hd,Result.andThen_ok];rfl
  ·rename_i y M hd E;injection g with g; subst g
   simp only[stepA]at h;split at h<;>first|(cases h; done)|skip
   rename_i l F;obtain⟨j,A⟩:=V9 h;subst j; subst A;have D:=mk E;rw[F]at D;refine Done.val (A5 ?_) C (.str _);rw[Zat D];simp only[convert,Sem.run_bind,V3 M,V3 hd,Result.andThen_ok];rfl
  ·rename_i e y M hd E;split at g<;>first|(cases g; done)|skip
   rename_i he;injection g with g; subst g
   simp only[stepA]at h;split at h<;>first|(cases h; done)|skip
   rename_i rows L;split at h<;>first|(cases h; done)|skip
   rename_i l hl;obtain⟨j,A⟩:=V9 h;subst j; subst A;refine Done.val (A5 ?_) C (.str _);have hb:=Yby (P:=P) C (mk E) L hl;have F:∃ p n c,a.eval z=.slice p n c:=by
    have D:=mk E;generalize ev t y=yy at D L;generalize a.eval z=vv at D;cases D<;>simp only[I1]at L<;>first|(cases L; done)|exact⟨_,_,_,rfl⟩
   obtain⟨p,n,c,F⟩:=F;rw[F]at hb ⊢;simp only[convert,Sem.run_bind,V3 M,V3 hd,V3 he,Result.andThen_ok];exact hb
 ·rename_i fn f1 c1 B;rw[B];split at g<;>first|(cases g; done)|skip
  rename_i f' c' hf X;injection g with g; subst g
  simp only[stepA]at h;obtain⟨j,A⟩:=V9 h;subst j; subst A;have g1:=Zir U hf;have g2:=Zir U X;exact Done.val (A5 (by simp[Instr.makeFunc])) C (.func fn _ _ _ _ g1.1 g2.1 g1.2 g2.2)
 ·rename_i ty B;rw[B];injection g with g; subst g
  simp only[stepA]at h;obtain⟨j,A⟩:=V9 h;subst j; subst A;exact Z5m C hn S
 ·rename_i ty z z2 B;rw[B];split at g<;>first|(cases g; done)|skip
  rename_i k b zz l' c' he hl X;injection g with g; subst g
  simp only[stepA]at h;split at h<;>first|(cases h; done)|skip
  rename_i l c ah ae;split at h<;>first|(cases h; done)|skip
  rename_i Q;obtain⟨d1,d2,d3⟩:=Q;obtain⟨j,A⟩:=V9 h;subst j; subst A;obtain⟨kl,ag⟩:=Zfd (mk hl) ah;obtain⟨kc,af⟩:=Zfd (mk X) ae;exact Z64 C hn S he ag af d1 d2 d3 fun u w' hw=>A5 hw
 ·rename_i ty z lo hi mx B;rw[B];split at g<;>first|(cases g; done)|skip
  ·rename_i x' l h0 G N hl hh hm;injection g with g; subst g
   have ak:mx=none:=by
    cases mx with
    | none=>rfl
    | some q=>simp only[H8]at hm; split at hm<;>simp at hm
   subst ak;simp only[stepA]at h;split at h<;>first|(cases h; done)|skip
   rename_i s M;split at h<;>first|(cases h; done)|skip
   rename_i l1 j hb;obtain⟨e1,e2⟩:=V9 h;subst e1; subst e2;have O:=mk N;rw[M]at O;exact Done.ofV C (Z82 G O (Zhu U hl) (Zhu U hh) hb)
  ·rename_i e x' l h0 mm G N hl hh hm;split at g<;>first|(cases g; done)|skip
   rename_i k Z;injection g with g; subst g
   exact Z32 U C G Z N hl hh hm h
  ·split at g<;>first|(cases g; done)|skip
   injection g with g; subst g
   simp[stepA]at h
 ·rename_i ty z i B;rw[B];split at g<;>first|(cases g; done)|skip
  rename_i fs y G E;split at g<;>first|(cases g; done)|skip
  rename_i f hf;split at g<;>first|(cases g; done)|skip
  rename_i n M;split at g<;>first|(cases g; done)|skip
  rename_i h0;injection g with g; subst g
  simp only[stepA]at h;split at h<;>first|(cases h; done)|skip
  rename_i v F;obtain⟨j,A⟩:=V9 h;subst j; subst A;exact Done.ofV C (Z8y G hf M h0 (mk E) F)
 ·rename_i ty z i B;rw[B];split at g<;>first|(cases g; done)|skip
  rename_i fs y G E;split at g<;>first|(cases g; done)|skip
  rename_i f hf;split at g<;>first|(cases g; done)|skip
  rename_i n M;injection g with g; subst g
  simp only[stepA]at h;split at h<;>first|(cases h; done)|skip
  rename_i cs I;split at h<;>first|(cases h; done)|skip
  rename_i v F;obtain⟨j,A⟩:=V9 h;subst j; subst A;have D:=mk E;rw[I]at D;exact Done.ofV C (Z1p G hf M D F)
 ·rename_i ty z zi B;rw[B];split at g<;>first|(cases g; done)|skip
  ·rename_i e x' i' G N hi;split at g<;>first|(cases g; done)|skip
   rename_i k Z;injection g with g; subst g
   simp only[stepA]at h;split at h<;>first|(cases h; done)|skip
   ·rename_i b off len i M J;obtain⟨ki,K⟩:=Zfd (mk hi) J;split at h<;>first|(cases h; done)|skip
    rename_i k' els hg;split at h<;>first|(cases h; done)|skip
    rename_i Q;obtain⟨d1,d2⟩:=Q;subst d1;obtain⟨j,A⟩:=V9 h;subst j; subst A;exact Done.ofV C (Zv7 C G Z (mk N) K (.inl ⟨_,_,_,_,M,hg,d2,rfl⟩))
   ·rename_i els i M J;obtain⟨ki,K⟩:=Zfd (mk hi) J;split at h<;>first|(cases h; done)|skip
    rename_i row ad;split at h<;>first|(cases h; done)|skip
    rename_i ac;obtain⟨j,A⟩:=V9 h;subst j; subst A;exact Done.ofV C (Zv7 C G Z (mk N) K (.inr ⟨_,_,M,ad,ac,rfl⟩))
  ·rename_i n e x' i' G N hi;split at g<;>first|(cases g; done)|skip
   rename_i k Z;injection g with g; subst g
   simp only[stepA]at h;split at h<;>first|(cases h; done)|skip
   rename_i i J;obtain⟨ki,K⟩:=Zfd (mk hi) J;split at h<;>first|(cases h; done)|skip
   rename_i Y;split at h<;>first|(cases h; done)|skip
   rename_i v F;obtain⟨j,A⟩:=V9 h;subst j; subst A;exact Done.ofV C (Zz0 G Z (mk N) K Y F)
 ·rename_i ty z zi B;rw[B];split at g<;>first|(cases g; done)|skip
  ·rename_i x' i' G N hi;injection g with g; subst g
   simp only[stepA]at h;split at h<;>first|(cases h; done)|skip
   rename_i s i M J;obtain⟨ki,K⟩:=Zfd (mk hi) J;split at h<;>first|(cases h; done)|skip
   rename_i c X;obtain⟨j,A⟩:=V9 h;subst j; subst A;have O:=mk N;rw[M]at O;exact Done.val (A5 (Ycj G O K X)) C (.int _ _)
  ·rename_i n e x' i' G N hi;split at g<;>first|(cases g; done)|skip
   rename_i k sz Z am;injection g with g; subst g
   simp only[stepA]at h;split at h<;>first|(cases h; done)|skip
   rename_i cs i I J;obtain⟨ki,K⟩:=Zfd (mk hi) J;split at h<;>first|(cases h; done)|skip
   rename_i Y;split at h<;>first|(cases h; done)|skip
   rename_i v F;obtain⟨j,A⟩:=V9 h;subst j; subst A;have O:=mk N;rw[I]at O;exact Done.ofV C (Z92 G Z am O K Y F)
 ·rename_i ty z zi ok B;rw[B];split at g<;>first|(cases g; done)|skip
  rename_i kt e x' i' G N hi;split at g<;>first|(cases g; done)|skip
  rename_i q zz hq hz;injection g with g; subst g
  simp only[stepA]at h;split at h<;>first|(cases h; done)|skip
  rename_i es H;split at h<;>first|(cases h; done)|skip
  rename_i r hf;obtain⟨j,A⟩:=V9 h;subst j; subst A;have aj:(ev t x'=.nilMap∧es=[])∨(∃ b c,ev t x'=.map b∧m.get b=some (.map es c)):=by
   split at H<;>first|(cases H; done)|skip
   ·rename_i E;injection H with H
    exact .inl ⟨E,H.symm⟩
   ·rename_i b E;split at H<;>first|(cases H; done)|skip
    rename_i aq aa hg;injection H with H
    subst H;exact .inr ⟨b,aa,E,hg⟩
  ·obtain⟨u,g1,g2⟩:=Z0u (w:=w) (ok:=ok) C G hq hz (mk N) (mk hi) aj hf;refine Done.ofV C ⟨u,g1,?_⟩;cases r with
   | none=>exact g2
   | some r=>obtain ⟨i,v,b⟩:=r; exact g2
 ·rename_i ty om ok ov B;rw[B];exact Zso U C ty om ok ov op g h
 ·rename_i ty om ok ov B;rw[B];exact Zso U C ty om ok ov op g h
 ·rename_i z i B;rw[B];split at g<;>first|(cases g; done)|skip
  rename_i y E;injection g with g; subst g
  simp only[stepA]at h;split at h<;>first|(cases h; done)|skip
  rename_i vs an;split at h<;>first|(cases h; done)|skip
  rename_i v F;obtain⟨j,A⟩:=V9 h;subst j; subst A;have D:=mk E;rw[an]at D;exact Done.ofV C (Ybo D F)
 ·rename_i c B;have:=Z4d U C hn S o c B op g h;unfold execOp at this;exact this
 ·split at g<;>first|(cases g; done)|skip
  simp only[Option.map_eq_some_iff]at g;obtain⟨y,_,rfl⟩:=g;simp only[stepA]at h;cases h
 ·simp only[Option.map_eq_some_iff]at g;obtain⟨y,_,rfl⟩:=g;simp only[stepA]at h;cases h
 ·cases g
end
end Go.AE
end
section
namespace Go.AE
open Go.RowKit
structure Same (ft:List Nat) (m m' m2 m2':Mem):Prop where
 n1:m'.next=m.next
 n2:m2'.next=m2.next
 out1:∀ b,b∉ft→m'.get b=m.get b
 out2:∀ b,b∉ft→m2'.get b=m2.get b
 ins:∀ b,b∈ft→m2'.get b=m'.get b
def Agr(ft:List Nat)(m m2:Mem):Prop:=∀ b,b∈ft→m2.get b=m.get b
section
variable {ft:List Nat} {m m2 m':Mem} {id:Nat} {t:List AVal} {v:AVal}
theorem Same.refl(h:Agr ft m m2):Same ft m m m2 m2:=⟨rfl,rfl,fun _ _=>rfl,fun _ _=>rfl,h⟩
theorem Same.set{m' d:Mem}{b:Nat}{x:ABlk}(h:Same ft m m' m2 d)(f:b∈ft):Same ft m (m'.set b x) m2 (d.set b x):=by
 refine⟨h.n1,h.n2,fun c a=>?_,fun c a=>?_,fun c a=>?_⟩
 ·have:c≠b:=fun e=>a (e ▸ f)
  simp[this,h.out1 c a]
 ·have:c≠b:=fun e=>a (e ▸ f)
  simp[this,h.out2 c a]
 ·simp only[Mem.get_set];split
  ·rfl
  ·exact h.ins c a
theorem Same.del{m' d:Mem}{b:Nat}(h:Same ft m m' m2 d)(f:b∈ft):Same ft m (m'.del b) m2 (d.del b):=by
 refine⟨h.n1,h.n2,fun c a=>?_,fun c a=>?_,fun c a=>?_⟩
 ·have:c≠b:=fun e=>a (e ▸ f)
  simp[this,h.out1 c a]
 ·have:c≠b:=fun e=>a (e ▸ f)
  simp[this,h.out2 c a]
 ·simp only[Mem.get_del];split
  ·rfl
  ·exact h.ins c a
theorem Z5j{x:AVal}(h:Agr (Y9 x) m m2):Za9 m2 x=Za9 m x:=by
 cases x<;>simp only[Za9]
 rename_i b i j;rw[h b (by simp[Y9])]
theorem Z2j{x:AVal}{n:Option Nat}(h:Agr (Y9 x) m m2):Zc1 m2 n x=Zc1 m n x:=by
 simp only[Zc1,Z5j h]
theorem Zxl{x:AVal}{k:Nat}(h:Agr (Y9 x) m m2):I1 m2 k x=I1 m k x:=by
 cases x<;>simp only[I1]
 rename_i b off len;rw[h b (by simp[Y9])]
theorem Ztt{x:AVal}{k:Nat}(h:Agr (Y9 x) m m2):N6 m2 k x=N6 m k x:=by
 cases x<;>simp only[N6]<;>first|rfl|exact Zxl h
theorem Z0h{x y:AVal}{n:Nat}(h:Agr ft m m2)(p:∀ b,b∈Y9 x→b∈ft)(a:Ze6 m n x y=some m'):∃ d,Ze6 m2 n x y=some d∧Same ft m m' m2 d:=by
 cases x<;>simp only[Ze6]at a<;>first|(cases a; done)|skip
 rename_i b i j;have e:b∈ft:=p b (by simp[Y9])
 simp only[Ze6,h b e];split at a<;>first|(cases a; done)|skip
 rename_i b' q r cs f l;injection f with h1 h2 h3
 subst h1; subst h2; subst h3;split at a<;>first|(cases a; done)|skip
 rename_i k els o;split at a<;>first|(cases a; done)|skip
 rename_i row c;split at a<;>first|(cases a; done)|skip
 rename_i g;injection a with a
 subst a;simp only[h b e,o,c];rw[if_pos g];exact⟨_,rfl,(Same.refl h).set e⟩
theorem Ybb{k c:Nat}{s:AVal}{xs:List (List AVal)}(h:Agr ft m m2)(i:id∈ft)(p:∀ b,b∈Y9 s→b∈ft)(a:H2 id k c m s xs=some (v,m')) :
 ∃ l,H2 id k c m2 s xs=some (v,l)∧Same ft m m' m2 l:=by
 cases s<;>simp only[H2]at a<;>first|(cases a; done)|skip
 ·split at a
  ·rename_i f;simp only[oI,pI2]at a;obtain⟨d,e⟩:=a;subst d; subst e;exact⟨m2,by simp[H2,f],Same.refl h⟩
  ·rename_i f;split at a<;>first|(cases a; done)|skip
   rename_i j;simp only[oI,pI2]at a;obtain⟨d,e⟩:=a;subst d; subst e;exact⟨_,by simp only[H2,f,if_false,j]; rfl,(Same.refl h).set i⟩
 ·split at a
  ·rename_i f;simp only[oI,pI2]at a;obtain⟨d,e⟩:=a;subst d; subst e;exact⟨m2,by simp[H2,f],Same.refl h⟩
  ·rename_i f;split at a<;>first|(cases a; done)|skip
   rename_i j;simp only[oI,pI2]at a;obtain⟨d,e⟩:=a;subst d; subst e;exact⟨_,by simp only[H2,f,if_false,j]; rfl,(Same.refl h).set i⟩
 ·rename_i b off len;have n:b∈ft:=p b (by simp[Y9])
  simp only[H2,h b n];split at a<;>first|(cases a; done)|skip
  rename_i r els q;split at a<;>first|(cases a; done)|skip
  rename_i j;rw[if_pos j];split at a
  ·rename_i g;rw[if_pos g];simp only[oI,pI2]at a;obtain⟨d,e⟩:=a;subst d; subst e;exact⟨_,rfl,(Same.refl h).set n⟩
  ·rename_i g;rw[if_neg g];split at a<;>first|(cases a; done)|skip
   rename_i o;rw[if_pos o];simp only[oI,pI2]at a;obtain⟨d,e⟩:=a;subst d; subst e;exact⟨_,rfl,((Same.refl h).del n).set i⟩
theorem Zed{o:Option AVal}{m':Mem}(h:Agr ft m m2)(b:(match o with|some v=>some (v,m)|none=>none)=some (v,m')) :
 ∃ a,(match o with|some v=>some (v,m2)|none=>none)=some (v,a)∧Same ft m m' m2 a:=by
 cases o with
 | none=>cases b
 | some w=>
  simp only[oI,pI2]at b;obtain⟨c,d⟩:=b;subst c; subst d;exact⟨m2,rfl,Same.refl h⟩
theorem Zok{op:AOp}(C:Agr (J0 t op) m m2)(h:Agr (S4 id t op) m m2)(g:stepA id t m op=some (v,m')):∃ A,stepA id t m2 op=some (v,A)∧Same (S4 id t op) m m' m2 A:=by
 have keep:∀ {o:Option (AVal×Mem)},o=some (v,m')→(∀ w n,o=some (w,n)→n=m∧stepA id t m2 op=some (w,m2)) → ∃ A,stepA id t m2 op=some (v,A)∧Same (S4 id t op) m m' m2 A:=by
  intro o P S;obtain⟨j,l⟩:=S v m' P;subst j;exact⟨m2,l,Same.refl h⟩
 cases op with
 | mov x=>exact keep g fun w n r=>by simp only[stepA,oI,pI2]at r ⊢; exact⟨r.2.symm,r.1,trivial⟩
 | pick c a b=>
  simp only[stepA]at g ⊢;split at g<;>first|(cases g; done)|skip
  all_goals
   simp only[oI,pI2]at g;obtain⟨j,l⟩:=g;subst j; subst l;exact⟨m2,rfl,Same.refl h⟩
 | box x=>
  simp only[stepA]at g ⊢;split at g<;>first|(cases g; done)|skip
  rename_i cs O;split at g<;>first|(cases g; done)|skip
  rename_i E;simp only[oI,pI2]at g;obtain⟨j,l⟩:=g;subst j; subst l;simp only[E,if_true];exact⟨_,rfl,(Same.refl h).set (by simp[S4])⟩
 | alloc z=>
  simp only[stepA,oI,pI2]at g ⊢;obtain⟨j,l⟩:=g;subst j; subst l;exact⟨_,⟨rfl,rfl⟩,(Same.refl h).set (by simp[S4])⟩
 | build z ps=>
  simp only[stepA]at g ⊢;split at g<;>first|(cases g; done)|skip
  simp only[oI,pI2]at g;obtain⟨j,l⟩:=g;subst j; subst l;exact⟨m2,rfl,Same.refl h⟩
 | mkSl k len z ps=>
  simp only[stepA]at g ⊢;split at g<;>first|(cases g; done)|skip
  simp only[oI,pI2]at g;obtain⟨j,l⟩:=g;subst j; subst l;exact⟨_,rfl,(Same.refl h).set (by simp[S4])⟩
 | load n x=>
  simp only[stepA]at g ⊢;rw[Z2j C];exact Zed h g
 | store n a x=>
  simp only[stepA]at g ⊢;split at g<;>first|(cases g; done)|skip
  rename_i m3 K;simp only[oI,pI2]at g;obtain⟨j,l⟩:=g;subst j; subst l;obtain⟨V,M,N⟩:=Z0h h (fun _ B=>B) K
  rw[M];exact⟨V,rfl,N⟩
 | nilChk x=>
  simp only[stepA]at g ⊢;split at g<;>first|(cases g; done)|skip
  all_goals
   simp only[oI,pI2]at g;obtain⟨j,l⟩:=g;subst j; subst l;exact⟨m2,rfl,Same.refl h⟩
 | bin op e x y=>simp only[stepA]at g ⊢; exact Zed h g
 | un op x=>simp only[stepA]at g ⊢; exact Zed h g
 | convInt k x=>
  simp only[stepA]at g ⊢;split at g<;>first|(cases g; done)|skip
  simp only[oI,pI2]at g;obtain⟨j,l⟩:=g;subst j; subst l;exact⟨m2,rfl,Same.refl h⟩
 | convId x=>
  simp only[stepA]at g ⊢;split at g<;>first|(cases g; done)|skip
  simp only[oI,pI2]at g;obtain⟨j,l⟩:=g;subst j; subst l;exact⟨m2,rfl,Same.refl h⟩
 | toStr x=>
  simp only[stepA]at g ⊢;rw[Zxl C];split at g<;>first|(cases g; done)|skip
  rename_i rows J;split at g<;>first|(cases g; done)|skip
  rename_i s Q;simp only[oI,pI2]at g;obtain⟨j,l⟩:=g;subst j; subst l;exact⟨m2,rfl,Same.refl h⟩
 | mkFunc fn a b=>exact keep g fun w n r=>by simp only[stepA,oI,pI2]at r ⊢; exact⟨r.2.symm,r.1,trivial⟩
 | mkMap=>
  simp only[stepA,oI,pI2]at g ⊢;obtain⟨j,l⟩:=g;subst j; subst l;exact⟨_,⟨rfl,rfl⟩,(Same.refl h).set (by simp[S4])⟩
 | makeSl k b z len cap=>
  simp only[stepA]at g ⊢;split at g<;>first|(cases g; done)|skip
  split at g<;>first|(cases g; done)|skip
  rename_i p;simp only[oI,pI2]at g;obtain⟨j,l⟩:=g;subst j; subst l;simp only[p,and_self,if_true];exact⟨_,rfl,(Same.refl h).set (by simp[S4])⟩
 | slStr x lo hi=>
  simp only[stepA]at g ⊢;split at g<;>first|(cases g; done)|skip
  split at g<;>first|(cases g; done)|skip
  simp only[oI,pI2]at g;obtain⟨j,l⟩:=g;subst j; subst l;exact⟨m2,rfl,Same.refl h⟩
 | slSl k x lo hi X=>
  have q:Agr (Y9 (ev t x)) m m2:=C;simp only[stepA]at g ⊢;split at g
  ·split at g<;>first|(cases g; done)|skip
   split at g<;>first|(cases g; done)|skip
   split at g<;>first|(cases g; done)|skip
   rename_i p;simp only[p,and_self,if_true];split at g
   all_goals
    rename_i L;simp only[oI,pI2]at g;obtain⟨j,l⟩:=g;subst j; subst l;simp only[L,if_true,if_false];exact⟨m2,rfl,Same.refl h⟩
  ·generalize ev t x=y at *;cases y<;>simp only at g ⊢ <;> first|(cases g; done)|skip
   case sl b off len=>
    rw[q b (by simp[Y9])]
    split at g<;>first|(cases g; done)|skip
    split at g<;>first|(cases g; done)|skip
    rename_i p;simp only[p,and_self,if_true];split at g<;>first|(cases g; done)|skip
    simp only[oI,pI2]at g;obtain⟨j,l⟩:=g;subst j; subst l;exact⟨m2,rfl,Same.refl h⟩
   case imm els=>
    split at g<;>first|(cases g; done)|skip
    rename_i p;simp only[p,if_true];split at g<;>first|(cases g; done)|skip
    simp only[oI,pI2]at g;obtain⟨j,l⟩:=g;subst j; subst l;exact⟨m2,rfl,Same.refl h⟩
   all_goals
    split at g<;>first|(cases g; done)|skip
    simp only[oI,pI2]at g;obtain⟨j,l⟩:=g;subst j; subst l;exact⟨m2,rfl,Same.refl h⟩
 | fieldA off x=>simp only[stepA]at g ⊢; exact Zed h g
 | field off n x=>
  simp only[stepA]at g ⊢;split at g<;>first|(cases g; done)|skip
  exact Zed h g
 | idxA k x i=>
  have q:Agr (Y9 (ev t x)) m m2:=C;simp only[stepA]at g ⊢;generalize ev t x=y at *;split at g<;>first|(cases g; done)|skip
  ·rename_i b off len i' hi;rw[q b (by simp[Y9])]
   split at g<;>first|(cases g; done)|skip
   split at g<;>first|(cases g; done)|skip
   rename_i p;simp only[p,and_self,if_true];simp only[oI,pI2]at g;obtain⟨j,l⟩:=g;subst j; subst l;exact⟨m2,rfl,Same.refl h⟩
  ·split at g<;>first|(cases g; done)|skip
   split at g<;>first|(cases g; done)|skip
   rename_i p;simp only[p,if_true];simp only[oI,pI2]at g;obtain⟨j,l⟩:=g;subst j; subst l;exact⟨m2,rfl,Same.refl h⟩
 | idxAA n k x i=>
  simp only[stepA]at g ⊢;split at g<;>first|(cases g; done)|skip
  split at g<;>first|(cases g; done)|skip
  rename_i p;simp only[p,if_true];exact Zed h g
 | idxStr x i=>
  simp only[stepA]at g ⊢;split at g<;>first|(cases g; done)|skip
  split at g<;>first|(cases g; done)|skip
  simp only[oI,pI2]at g;obtain⟨j,l⟩:=g;subst j; subst l;exact⟨m2,rfl,Same.refl h⟩
 | idxArr n k sz x i=>
  simp only[stepA]at g ⊢;split at g<;>first|(cases g; done)|skip
  split at g<;>first|(cases g; done)|skip
  rename_i p;simp only[p,if_true];exact Zed h g
 | lookup F z ok x i=>
  have q:Agr (Y9 (ev t x)) m m2:=C;simp only[stepA]at g ⊢;generalize ev t x=y at *;cases y<;>simp only at g ⊢ <;> first|(cases g; done)|skip
  case map b=>
   rw[q b (by simp[Y9])]
   split at g<;>first|(cases g; done)|skip
   rename_i Y u;split at u<;>first|(cases u; done)|skip
   rename_i Z;injection u with u
   subst u;split at g<;>first|(cases g; done)|skip
   rename_i I;simp only[oI,pI2]at g;obtain⟨j,l⟩:=g;subst j; subst l;exact⟨m2,by simp only[I],Same.refl h⟩
  all_goals
   split at g<;>first|(cases g; done)|skip
   rename_i I;simp only[oI,pI2]at g;obtain⟨j,l⟩:=g;subst j; subst l;exact⟨m2,by simp only[I],Same.refl h⟩
 | mapUpd F D k w=>
  have q:Agr (Y9 (ev t D)) m m2:=h;have hi:∀ b,b∈Y9 (ev t D)→b∈S4 id t (.mapUpd F D k w):=fun _ B=>B
  simp only[stepA]at g ⊢;generalize ev t D=y at *;cases y<;>simp only at g ⊢ <;> first|(cases g; done)|skip
  rename_i b;rw[q b (by simp[Y9])]
  split at g<;>first|(cases g; done)|skip
  split at g<;>first|(cases g; done)|skip
  all_goals
   simp only[oI,pI2]at g;obtain⟨j,l⟩:=g;subst j; subst l;exact⟨_,rfl,(Same.refl h).set (hi b (by simp[Y9]))⟩
 | ext x i=>
  simp only[stepA]at g ⊢;split at g<;>first|(cases g; done)|skip
  exact Zed h g
 | append k G z s x=>
  have q:Agr (Y9 (ev t x)) m m2:=C;simp only[stepA]at g ⊢;rw[Ztt q];split at g<;>first|(cases g; done)|skip
  exact Ybb h (by simp[S4]) (fun b B=>by simp[S4,B]) g
 | copy k d s=>
  have q:Agr (Y9 (ev t d)) m m2:=h;have hi:∀ b,b∈Y9 (ev t d)→b∈S4 id t (.copy k d s):=fun _ B=>B
  have H:Agr (Y9 (ev t s)) m m2:=C;simp only[stepA]at g ⊢;rw[Ztt H];generalize ev t d=y at *;split at g<;>first|(cases g; done)|skip
  rename_i b off len xs U;rw[q b (by simp[Y9])]
  split at g<;>first|(cases g; done)|skip
  split at g<;>first|(cases g; done)|skip
  rename_i p;simp only[p,and_self,if_true];simp only[oI,pI2]at g;obtain⟨j,l⟩:=g;subst j; subst l;exact⟨_,rfl,(Same.refl h).set (hi b (by simp[Y9]))⟩
 | clear k z x=>
  have q:Agr (Y9 (ev t x)) m m2:=h;have hi:∀ b,b∈Y9 (ev t x)→b∈S4 id t (.clear k z x):=fun _ B=>B
  simp only[stepA]at g ⊢;generalize ev t x=y at *;cases y<;>simp only at g ⊢ <;> first|(cases g; done)|skip
  case sl b off len=>
   rw[q b (by simp[Y9])]
   split at g<;>first|(cases g; done)|skip
   split at g<;>first|(cases g; done)|skip
   rename_i p;simp only[p,and_self,if_true];simp only[oI,pI2]at g;obtain⟨j,l⟩:=g;subst j; subst l;exact⟨_,rfl,(Same.refl h).set (hi b (by simp[Y9]))⟩
  all_goals
   simp only[oI,pI2]at g;obtain⟨j,l⟩:=g;subst j; subst l;exact⟨m2,rfl,Same.refl h⟩
 | lenStr x=>
  simp only[stepA]at g ⊢;split at g<;>first|(cases g; done)|skip
  simp only[oI,pI2]at g;obtain⟨j,l⟩:=g;subst j; subst l;exact⟨m2,rfl,Same.refl h⟩
 | lenSl x=>
  simp only[stepA]at g ⊢;split at g<;>first|(cases g; done)|skip
  simp only[oI,pI2]at g;obtain⟨j,l⟩:=g;subst j; subst l;exact⟨m2,rfl,Same.refl h⟩
 | lenMap x=>
  have q:Agr (Y9 (ev t x)) m m2:=C;simp only[stepA]at g ⊢;generalize ev t x=y at *;cases y<;>simp only at g ⊢ <;> first|(cases g; done)|skip
  case map b=>
   rw[q b (by simp[Y9])]
   split at g<;>first|(cases g; done)|skip
   simp only[oI,pI2]at g;obtain⟨j,l⟩:=g;subst j; subst l;exact⟨m2,rfl,Same.refl h⟩
  all_goals
   simp only[oI,pI2]at g;obtain⟨j,l⟩:=g;subst j; subst l;exact⟨m2,rfl,Same.refl h⟩
 | lenArr n=>exact keep g fun w n r=>by simp only[stepA,oI,pI2]at r ⊢; exact⟨r.2.symm,r.1,trivial⟩
 | minmax X xs=>
  simp only[stepA]at g ⊢;split at g<;>first|(cases g; done)|skip
  exact Zed h g
 | iface ty x=>exact keep g fun w n r=>by simp only[stepA,oI,pI2]at r ⊢; exact⟨r.2.symm,r.1,trivial⟩
 | mapEnt F z D k=>simp[stepA]at g
 | entSt D s w=>simp[stepA]at g
 | delete F D k=>simp[stepA]at g
 | range x=>simp[stepA]at g
 | nextS x=>simp[stepA]at g
 | nextM x=>simp[stepA]at g
 | slArr n k x lo hi=>simp[stepA]at g
 | appendZ k b z s x=>simp[stepA]at g
 | call f xs=>simp[stepA]at g
 | capSl x=>simp[stepA]at g
 | dead=>simp[stepA]at g
end
end Go.AE
end
section
namespace Go.AE
open Go.RowKit
section
variable {P:Program} {W:Base} {Φ:Pers} {ρ:Rho} {w:World} {m m':Mem} {x:AVal} {a:Act} {t:List AVal} {ops:Array Oper}
theorem RL.put{v:AVal}{u:Value}(d:Option Nat)(e:RL Φ ρ t a.tmps)(f:R Φ ρ v u):RL Φ ρ (put t d v) (a.put d u).tmps:=by
 cases d with
 | none=>exact e
 | some d=>
  refine⟨by simp[AE.put,Act.put,e.1],fun i x y b c=>?_⟩
  simp only[AE.put,Act.put]at b c;rw[List.getElem?_set]at b;rw[Array.getElem?_setIfInBounds]at c;by_cases h:d=i
  ·rw[if_pos h]at b c;subst h;split at b
   ·split at c
    ·injection b with b; injection c with c; subst b; subst c; exact f
    ·cases c
   ·cases b
  ·rw[if_neg h]at b c;exact e.2 i x y b c
theorem Zaw(d:Option Nat)(u:Value):(a.put d u).defers=a.defers:=by
 cases d<;>rfl
theorem Ze2(u:RL Φ ρ t a.tmps){o:Oper}{g:Option (Nat×Bool)}{b:Bool}(e:Zab ops o.guard=some g)(h:S6 t g=some b):Region.wanted o (yielded ops a.tmps)=b:=by
 unfold Region.wanted;cases k:o.guard with
 | none=>
  simp only[k,Zab,oI]at e;subst e;simp only[S6,oI]at h;exact h
 | some w=>
  obtain⟨j,q⟩:=w;simp only[k,Zab]at e;split at e<;>first|(cases e; done)|skip
  rename_i d r;injection e with e
  subst e;simp only[yielded,r,Option.bind_some];simp only[S6]at h;have i:=u.get d;split at h<;>first|(cases h; done)|skip
  ·rename_i b0 f;injection h with h
   subst h;rw[f]at i;have p:=Zax i;have:a.tmps[d]? = some (.bool b0):=by
    rcases Nat.lt_or_ge d a.tmps.size with c|l
    ·rw[Array.getElem?_eq_getElem c];simpa[Array.getD,c]using p
    ·simp[Array.getD,Nat.not_lt.2 l,undef]at p
   rw[this];simp
  ·rename_i f;injection h with h
   subst h;rw[f]at i;have m:∀ b,a.tmps[d]? ≠ some (.bool b):=by
    intro b n;have:a.tmps.getD d undef=.bool b:=by
     have c:=(Array.getElem?_eq_some_iff.1 n).1;have:=(Array.getElem?_eq_some_iff.1 n).2;simpa[Array.getD,c]using this
    rw[this]at i;cases i
   cases s:a.tmps[d]? with
   | none=>simp
   | some v=>
    cases v<;>first|(exact absurd s (m _))|simp
theorem Zk1{id:Nat}{K:Act→World→Prop}{Q:Exit→Act→World→Prop}(q:RL Φ ρ t a.tmps)(p:Rel W Φ ρ m w)(n:ρ id=none)(g:id<m.next)(o:Oper)
 (h:stepA id t m (Q3 P o)=some (x,m'))
 (i:∀ d ρ' u w',Ext Φ ρ d ρ'→(∀ b,b≠id→ρ b=none→ρ' b=none)→Rel W d ρ' m' w'→R d ρ' x u→K (a.put o.dst u) w'):o.wp P a w K Q:=by
 unfold Q3 at h;cases f:cOp P o with
 | none=>simp[f,stepA]at h
 | some op=>
  simp only[f,Option.getD_some]at h;obtain⟨v,w',d,ρ',c,j,k,e,l⟩:=Z51 q p n g o op f h;unfold Oper.wp;rcases c with c|⟨c,rfl⟩
  ·rw[c];exact i _ _ _ _ j k e l
  ·rw[c];exact i _ _ _ _ j k e l
theorem Zri{id:Nat}{K:Act→World→Prop}{Q:Exit→Act→World→Prop}(ht:RL Φ ρ t a.tmps)(hr:Rel W Φ ρ m w)(hn:ρ id=none)(Z:id<m.next)(o:Oper){f:AOpd}{xs:List AOpd}(J:Q3 P o=.call f xs){g:FuncId}{args:List AVal}(C:callee t f xs=some (g,args))
 {KA:AVal→Mem→Prop} (h:ACalls P g args m [id] KA)
 (hK:∀ n ρ' x m' u w',Ext Φ ρ n ρ'→(∀ b,b<m.next→b≠id→ρ b=none→ρ' b=none)→Rel W n ρ' m' w'→R n ρ' x u→m.next≤m'.next→KA x m'→K (a.put o.dst u) w'):o.wp P a w K Q:=by
 have s:∃ c of,o.op=.call c∧c.callee=.value of∧Y4 of=some f∧Zaa c.args.toList=some xs:=by
  unfold Q3 at J;cases d:cOp P o with
  | none=>simp[d]at J
  | some op=>
   simp only[d,Option.getD_some]at J;subst J;unfold cOp at d;split at d<;>first|(cases d; done)|(simp only[Option.map_eq_some_iff]at d; obtain⟨_,_,d⟩:=d; cases d; done)|skip
   case h_26 c hoc=>
    unfold Za5 at d;split at d
    ·rename_i of l;split at d
     ·rename_i g' af V I;injection d with d
      injection d with D E
      subst D; subst E;exact⟨c,of,hoc,l,V,I⟩
     ·cases d
    all_goals (repeat' (split at d<;>first|(cases d; done)|skip))
    all_goals (first|(cases d; done)|(simp only[Option.map_eq_some_iff]at d; obtain⟨_,_,d⟩:=d; cases d; done)|skip)
   all_goals (repeat' (split at d<;>first|(cases d; done)|skip))
   all_goals (first|(cases d; done)|(simp only[Option.map_eq_some_iff]at d; obtain⟨_,_,d⟩:=d; cases d; done)|skip)
 obtain⟨c,of,ac,l,ab,ae⟩:=s;have z:=T4 ht ab;unfold callee at C;split at C<;>first|(cases C; done)|skip
 rename_i g' first cap N;injection C with C
 injection C with D E
 subst D; subst E;rw[N]at z;generalize ad:a.eval of=vv at z;cases z with
 | func _ _ _ vf vc O d U M=>
  have j:=Zir ht ae;have L:RL Φ ρ (first++xs.map (ev t)++cap) (vf++c.args.map a.eval++vc):=by
   refine⟨by simp only[Array.size_append,List.length_append]; rw[O,d,j.1],fun i y v B p=>?_⟩
   have Y:(vf++c.args.map a.eval).size=(first++xs.map (ev t)).length:=by simp only[Array.size_append,List.length_append]; rw[O,j.1]
   rw[List.getElem?_append]at B;rw[Array.getElem?_append]at p;rw[Y]at p;split at B
   ·rename_i G;rw[if_pos G]at p;rw[List.getElem?_append]at B;rw[Array.getElem?_append,O]at p;split at B
    ·rename_i F;rw[if_pos F]at p;exact U i y v B p
    ·rename_i F;rw[if_neg F]at p;exact j.2 _ y v B p
   ·rename_i X;rw[if_neg X]at p;exact M _ y v B p
  have hC:=h.2 W Φ ρ _ w hr L (fun b q=>by simp only[List.mem_singleton]at q; subst q; exact⟨hn,Z⟩)
  obtain⟨fn,S,A,k⟩:=h.1;unfold Oper.wp;have H:(execOp a.eval o).run P w=.ok (.enter g' (vf++c.args.map a.eval++vc)) w:=by
   unfold execOp;rw[ac];simp only[resolve,l,ad,Deferred.ofValue,Sem.run_bind,Sem.run_pure,Result.andThen_ok,invoke,callFunc];cases q:fn.body with
   | none=>rw[q]at k; cases k
   | some b=>simp[program,Sem.run,S,q]; simpa using A
  rw[H];refine hC.mono fun e w' he=>?_
  obtain⟨v,r,m',n,ρ',rfl,D,E,F,h4,h5,h6⟩:=he;exact hK n ρ' r m' v w' D (fun b q aa=>E b q (by simpa using aa)) F h4 h5 h6
theorem Zkh(P:Program)(ops:Array Oper):∀ (l:List Oper) (as:List AOper),I9 P ops l=some as →
 as.length=l.length ∧ ∀(i:Nat) (o:Oper) (b:AOper),l[i]? = some o→as[i]? = some b→b.dst=o.dst∧b.op=Q3 P o∧Zab ops o.guard=some b.guard
 | [],as,h=>by
  simp only[I9,oI]at h;subst h;exact⟨rfl,fun i o b hi=>by simp at hi⟩
 | o :: l,as,h=>by
  simp only[I9]at h;cases c:Zab ops o.guard with
  | none=>simp[c]at h
  | some g=>
   cases e:I9 P ops l with
   | none=>simp[c,e]at h
   | some d=>
    simp only[c,e,oI]at h;subst h;obtain⟨f,j⟩:=Zkh P ops l d e;refine⟨by simp[f],fun i k b hi a=>?_⟩
    cases i with
    | zero=>
     simp only[List.getElem?_cons_zero,oI]at hi a;subst hi; subst a;exact⟨rfl,rfl,c⟩
    | succ i=>
     simp only[List.getElem?_cons_succ]at hi a;exact j i k b hi a
theorem Zvc{base i:Nat}{b:AOper}{a:List AOper}{K:ASt→Prop}(h:M6 P base (b :: a) i K t m) :
 (S6 t b.guard=some false∧M6 P base a (i+1) K (put t b.dst aundef) m) ∨
 (S6 t b.guard=some true∧((∃ f xs g args,b.op=.call f xs∧callee t f xs=some (g,args)∧ACalls P g args m [base+i] fun v m'=>M6 P base a (i+1) K (put t b.dst v) m') ∨
   (∃ v m',stepA (base+i) t m b.op=some (v,m')∧M6 P base a (i+1) K (put t b.dst v) m'))):=by
 simp only[M6]at h;cases k:S6 t b.guard with
 | none=>simp[k]at h
 | some q=>
  cases q with
  | false=>simp only[k]at h; exact .inl ⟨rfl,h⟩
  | true=>
   simp only[k]at h;refine .inr ⟨rfl,?_⟩;have d:∀ op,b.op=op→(match stepA (base+i) t m op with|some (v,m')=>M6 P base a (i+1) K (put t b.dst v) m'|none=>False) →
    ∃ v m',stepA (base+i) t m op=some (v,m')∧M6 P base a (i+1) K (put t b.dst v) m':=by
    intro op _ j;cases l:stepA (base+i) t m op with
    | none=>simp[l]at j
    | some r=>obtain ⟨v,m'⟩:=r; simp only[l]at j; exact⟨v,m',rfl,j⟩
   cases c:b.op with
   | call f xs=>
    simp only[c]at h;cases e:callee t f xs with
    | none=>simp[e]at h
    | some r=>
     obtain⟨g,args⟩:=r;simp only[e]at h;exact .inl ⟨f,xs,g,args,rfl,e,h⟩
   | _=>rw[c]at h; exact .inr (d _ c h)
theorem Zoi{id:Nat}{op:AOp}{v:AVal}(h:stepA id t m op=some (v,m')):m'.next=m.next:=by
 obtain⟨_,_,a⟩:=Zok (m2:=m) (fun _ _=>rfl) (fun _ _=>rfl) h
 exact a.n1
theorem Zm1(W:Base)(base:Nat)(n0:Nat)(ops:Array Oper)(Q:Exit→ASt→Prop)(p:Pers)(e:Rho)(C:n0≤base) :
 ∀(l:List Oper) (as:List AOper) (i:Nat) (t:List AVal) (m:Mem) (Φ:Pers) (ρ:Rho) (a:Act) (w:World),
  as.length=l.length→(∀(j:Nat) (o:Oper) (b:AOper),l[j]? = some o→as[j]? = some b→b.dst=o.dst∧b.op=Q3 P o∧Zab ops o.guard=some b.guard) →
  M6 P base as i (Q .normal) t m→Rel W Φ ρ m w→RL Φ ρ t a.tmps→a.defers=[]→Ext p e Φ ρ→KeepN n0 e ρ→(∀ j,i≤j→j<i+as.length→ρ (base+j)=none)→base+i+as.length≤m.next→n0≤m.next →
  wpList P ops (lift W p e n0 Q) l a w
 | [],[],i,t,m,Φ,ρ,a,w,_,_,h,K,q,E,F,G,_,_,L=>⟨⟨t,m⟩,Φ,ρ,F,G,L,K,q,E,h⟩
 | [],_ :: _,_,_,_,_,_,_,_,H,_,_,_,_,_,_,_,_,_,_=>by simp at H
 | _ :: _,[],_,_,_,_,_,_,_,H,_,_,_,_,_,_,_,_,_,_=>by simp at H
 | o :: l,b :: as,i,t,m,Φ,ρ,a,w,H,hg,h,K,q,E,F,G,d,S,L=>by
  obtain⟨M,Z,e3⟩:=hg 0 o b rfl rfl;have r:∀ (j:Nat) (o:Oper) (b:AOper),l[j]? = some o→as[j]? = some b→b.dst=o.dst∧b.op=Q3 P o∧Zab ops o.guard=some b.guard:=fun j o b ho C=>hg (j+1) o b (by simpa using ho) (by simpa using C)
  have s:as.length=l.length:=by simpa using H
  simp only[List.length_cons]at S d;have I:base+i<m.next:=by omega
  have J:ρ (base+i)=none:=d i (Nat.le_refl _) (by omega)
  unfold wpList;rcases Zvc h with⟨X,A⟩|⟨X,A⟩
  ·rw[Ze2 q e3 X,if_neg (by simp)]
   rw[← M];exact Zm1 W base n0 ops Q p e C l as (i+1) _ m Φ ρ _ w s r A K (q.put b.dst (Zfa Φ ρ)) (by rw[Zaw]; exact E) F G (fun j h1 h2=>d j (by omega) (by omega)) (by omega) L
  ·rw[Ze2 q e3 X,if_pos rfl];refine .inl ?_;rcases A with⟨f,xs,g,args,U,D,hA⟩|⟨v,m',V,A⟩
   ·refine Zri q K J I o (by rw[← Z]; exact U) D hA fun z ρ' x m' u w' B k y Y n hW=>?_
    rw[← M];exact Zm1 W base n0 ops Q p e C l as (i+1) _ m' z ρ' _ w' s r hW y ((q.ext B).put b.dst Y) (by rw[Zaw]; exact E) (F.trans B) (fun c O N=>k c (by omega) (by omega) (G c O N))
     (fun j h1 h2=>k _ (by omega) (by omega) (d j (by omega) (by omega))) (by omega) (by omega)
   ·have n:=Zoi V;rw[Z]at V;refine Zk1 q K J I o V fun z ρ' u w' B k y Y=>?_
    rw[← M];exact Zm1 W base n0 ops Q p e C l as (i+1) _ m' z ρ' _ w' s r A y ((q.ext B).put b.dst Y) (by rw[Zaw]; exact E) (F.trans B) (fun c O N=>k c (by omega) (G c O N))
     (fun j h1 h2=>k _ (by omega) (d j (by omega) (by omega))) (by rw[n]; omega) (by rw[n]; exact L)
theorem Rel.at_{n:Nat}(h:Rel W Φ ρ m w)(c:m.next≤n):Rel W Φ ρ (m.at n) w:=
 ⟨h.base,h.pers,h.live,h.inj,fun b l a=>by have:=h.fresh b l a; simp only[Mem.next_at]; omega,h.newp⟩
theorem Zwz{id:Nat}{Q:Exit→ASt→Prop}{b:ASt}(h:wpc P (Y1 P (.region id ops false)) Q b):AWp P (.region id ops false) Q b:=by
 intro W Φ ρ a w d k g;simp only[Y1]at h;cases c:I9 P ops ops.toList with
 | none=>simp[c,wpc]at h
 | some as=>
  simp only[c,wpc]at h;obtain⟨e,f⟩:=Zkh P ops _ _ c;refine wp_region_list (Zm1 W b.m.next b.m.next ops Q Φ ρ (Nat.le_refl _) ops.toList as 0 b.t _ Φ ρ a w e f h (d.at_ (by omega)) k g (.refl _ _) (.refl _ _) ?_ (by simp) (by simp))
  intro j _ _;cases i:ρ (b.m.next+j)with
  | none=>rfl
  | some l=>have:=d.fresh _ _ i; omega
end
end Go.AE
end
section
namespace Go.AE
open Go.RowKit
theorem Zl7{t t2:List AVal}{xs:List AOpd}(h:∀ x,x∈xs→ev t x=ev t2 x):xs.map (ev t)=xs.map (ev t2):=List.map_congr_left h
theorem Znk{t t2:List AVal}{d:Nat}{o:Option AOpd}(h:∀ x,x∈o.toList→ev t x=ev t2 x):G8 t d o=G8 t2 d o:=by
 cases o with
 | none=>rfl
 | some x=>simp only[G8]; rw[h x (by simp)]
theorem Ztw{t t2:List AVal}{n a:Nat}{lo hi:Option AOpd}(b:∀ x,x∈lo.toList→ev t x=ev t2 x)(c:∀ x,x∈hi.toList→ev t x=ev t2 x):K4 t n a lo hi=K4 t2 n a lo hi:=by
 simp only[K4,Znk b,Znk c]
theorem Zut{id:Nat}{t:List AVal}{op:AOp}(h:op.kind=0):S4 id t op=[]∧J0 t op=[]:=by
 cases op<;>first|exact⟨rfl,rfl⟩|(exfalso; revert h; simp[AOp.kind]; done)
theorem Ydd{id:Nat}{t:List AVal}{op:AOp}(h:op.kind≤1):S4 id t op=[]:=by
 cases op<;>first|rfl|(exfalso; revert h; simp[AOp.kind]; done)
theorem Z8l{id:Nat}{t t2:List AVal}{m:Mem}{op:AOp}(h:∀ x,x∈op.opds→ev t x=ev t2 x):stepA id t m op=stepA id t2 m op:=by
 cases op with
 | build z ps=>
  have:(ps.map fun p=>(p.1,p.2.1,ev t p.2.2))=ps.map fun p=>(p.1,p.2.1,ev t2 p.2.2):=List.map_congr_left fun p l=>by rw[h p.2.2 (List.mem_map.2 ⟨p,l,rfl⟩)]
  simp only[stepA,this]
 | mkSl k len z ps=>
  have:(ps.map fun p=>(p.1,ev t p.2))=ps.map fun p=>(p.1,ev t2 p.2):=List.map_congr_left fun p l=>by rw[h p.2 (List.mem_map.2 ⟨p,l,rfl⟩)]
  simp only[stepA,this]
 | mkFunc fn a b=>
  simp only[stepA,Zl7 (fun x u=>h x (List.mem_append_left _ u)),Zl7 (fun x u=>h x (List.mem_append_right _ u))]
 | minmax w xs=>
  cases xs with
  | nil=>rfl
  | cons x r=>
   simp only[stepA];rw[h x (by simp[AOp.opds]),Zl7 (fun y d=>h y (by simp[AOp.opds,d]))]
 | slStr x lo hi=>
  have g:∀ y,y∈lo.toList→ev t y=ev t2 y:=fun y d=>h y (by simp only[AOp.opds,List.mem_cons,List.mem_append]; exact .inr (.inl d))
  have j:∀ y,y∈hi.toList→ev t y=ev t2 y:=fun y d=>h y (by simp only[AOp.opds,List.mem_cons,List.mem_append]; exact .inr (.inr d))
  simp only[stepA,h x (by simp[AOp.opds]),Ztw g j]
 | slSl k x lo hi w=>
  have g:∀ y,y∈lo.toList→ev t y=ev t2 y:=fun y d=>h y (by simp only[AOp.opds,List.mem_cons,List.mem_append]; exact .inr (.inl (.inl d)))
  have j:∀ y,y∈hi.toList→ev t y=ev t2 y:=fun y d=>h y (by simp only[AOp.opds,List.mem_cons,List.mem_append]; exact .inr (.inl (.inr d)))
  have A:∀ y,y∈w.toList→ev t y=ev t2 y:=fun y d=>h y (by simp only[AOp.opds,List.mem_cons,List.mem_append]; exact .inr (.inr d))
  cases w with
  | none=>
   simp only[stepA,h x (by simp[AOp.opds])]
   cases ev t2 x<;>simp only[Ztw g j]
  | some z=>
   simp only[stepA,h x (by simp[AOp.opds]),Znk g,Znk (o:=some z) (fun y d=>A y d)]
   cases hi with
   | none=>cases W2 (ev t2 x)<;>cases G8 t2 0 (some z)<;>cases G8 t2 0 lo<;>rfl
   | some q=>
    have B:=j q (by simp)
    cases W2 (ev t2 x)<;>cases G8 t2 0 (some z)<;>cases G8 t2 0 lo<;>simp only[B]
 | slArr n k x lo hi=>rfl
 | call f xs=>rfl
 | alloc z=>rfl
 | mkMap=>rfl
 | lenArr n=>rfl
 | capSl x=>rfl
 | dead=>rfl
 | mapEnt v z a b=>rfl
 | entSt a b c=>rfl
 | delete v a b=>rfl
 | range a=>rfl
 | nextS a=>rfl
 | nextM a=>rfl
 | appendZ k b z s x=>rfl
 | mov x=>simp only[stepA,h x (by simp[AOp.opds])]
 | box x=>simp only[stepA,h x (by simp[AOp.opds])]
 | load n x=>simp only[stepA,h x (by simp[AOp.opds])]
 | nilChk x=>simp only[stepA,h x (by simp[AOp.opds])]
 | un op x=>simp only[stepA,h x (by simp[AOp.opds])]
 | convInt k x=>simp only[stepA,h x (by simp[AOp.opds])]
 | convId x=>simp only[stepA,h x (by simp[AOp.opds])]
 | toStr x=>simp only[stepA,h x (by simp[AOp.opds])]
 | fieldA off x=>simp only[stepA,h x (by simp[AOp.opds])]
 | field off n x=>simp only[stepA,h x (by simp[AOp.opds])]
 | ext x i=>simp only[stepA,h x (by simp[AOp.opds])]
 | lenStr x=>simp only[stepA,h x (by simp[AOp.opds])]
 | lenSl x=>simp only[stepA,h x (by simp[AOp.opds])]
 | lenMap x=>simp only[stepA,h x (by simp[AOp.opds])]
 | iface ty x=>simp only[stepA,h x (by simp[AOp.opds])]
 | clear k z x=>simp only[stepA,h x (by simp[AOp.opds])]
 | pick c a b=>simp only[stepA,h c (by simp[AOp.opds]),h a (by simp[AOp.opds]),h b (by simp[AOp.opds])]
 | store n a x=>simp only[stepA,h a (by simp[AOp.opds]),h x (by simp[AOp.opds])]
 | bin op e a x=>simp only[stepA,h a (by simp[AOp.opds]),h x (by simp[AOp.opds])]
 | makeSl k b z a x=>simp only[stepA,h a (by simp[AOp.opds]),h x (by simp[AOp.opds])]
 | idxA k a x=>simp only[stepA,h a (by simp[AOp.opds]),h x (by simp[AOp.opds])]
 | idxAA n k a x=>simp only[stepA,h a (by simp[AOp.opds]),h x (by simp[AOp.opds])]
 | idxStr a x=>simp only[stepA,h a (by simp[AOp.opds]),h x (by simp[AOp.opds])]
 | idxArr n k C a x=>simp only[stepA,h a (by simp[AOp.opds]),h x (by simp[AOp.opds])]
 | lookup v z ok a x=>simp only[stepA,h a (by simp[AOp.opds]),h x (by simp[AOp.opds])]
 | append k b z a x=>simp only[stepA,h a (by simp[AOp.opds]),h x (by simp[AOp.opds])]
 | copy k a x=>simp only[stepA,h a (by simp[AOp.opds]),h x (by simp[AOp.opds])]
 | mapUpd v a b c=>simp only[stepA,h a (by simp[AOp.opds]),h b (by simp[AOp.opds]),h c (by simp[AOp.opds])]
theorem Zzs{t t2:List AVal}{f:AOpd}{xs:List AOpd}(h:∀ x,x∈(AOp.call f xs).opds→ev t x=ev t2 x):callee t f xs=callee t2 f xs:=by
 have a:xs.map (ev t)=xs.map (ev t2):=Zl7 fun y b=>h y (by simp only[AOp.opds,List.mem_cons]; exact .inr b)
 simp only[callee,h f (by simp[AOp.opds]),a]
def A0(p:Nat→Bool):Nat→Option Nat
 | 0=>none
 | n+1=>if p n then some n else A0 p n
theorem Zfj{p q:Nat→Bool}:∀ (n:Nat),(∀ j,j<n→p j=q j)→A0 p n=A0 q n
 | 0,_=>rfl
 | n+1,h=>by
  simp only[A0];rw[h n (Nat.lt_succ_self n),Zfj n fun j a=>h j (Nat.lt_succ_of_lt a)]
theorem Zxu{p:Nat→Bool}{i:Nat}(hi:p i=true):∀ (n:Nat),i<n→(∀ j,i<j→j<n→p j=false)→A0 p n=some i
 | 0,h,_=>absurd h (Nat.not_lt_zero _)
 | n+1,h,b=>by
  simp only[A0];by_cases a:i=n
  ·subst a; rw[if_pos hi]
  ·rw[b n (by omega) (Nat.lt_succ_self n)]
   simp only[bF,if_false];exact Zxu hi n (by omega) fun j c d=>b j c (by omega)
end Go.AE
end
section
namespace Go.AE
open Go.RowKit
theorem Z5o{P:Program}{f:FuncId}{args:List AVal}{id:Nat}{x:List Nat}{m m3:Mem}{v:AVal}(ae:id∉x)(ag:∀ c,c∈x→m3.get c=none)(hn:m.next≤m3.next)
 (h:ACalls P f args (m.less x) [id] fun v' O=>v'=v∧O=m3) {m2:Mem} (J:∀ c,c∉x→m2.get c=m.get c) (F:m2.next=m.next) :
 ACalls P f args m2 [id] fun v' O=>v'=v∧O=⟨fun c=>if c∈x then m2.get c else m3.get c,m3.next⟩:=by
 refine⟨h.1,fun W Φ ρ vs w z ha Z=>?_⟩
 have D:∀ B,(∃ c l,c∈x∧(∃ y,m2.get c=some y)∧ρ c=some l∧l.blk=B) ∨ ¬(∃ c l,c∈x∧(∃ y,m2.get c=some y)∧ρ c=some l∧l.blk=B):=fun B=>Classical.em _
 have E:∃ g:Nat→Option Obj,∀ B,((∃ c l,c∈x∧(∃ y,m2.get c=some y)∧ρ c=some l∧l.blk=B)→g B=w.heap[B]?)∧(¬(∃ c l,c∈x∧(∃ y,m2.get c=some y)∧ρ c=some l∧l.blk=B)→g B=W.g B):=by
  refine⟨fun B=>@ite _ (∃ c l,c∈x∧(∃ y,m2.get c=some y)∧ρ c=some l∧l.blk=B) (Classical.propDecidable _) (w.heap[B]?) (W.g B),fun B=>⟨fun h=>?_,fun h=>?_⟩⟩
  ·simp only[h,if_true]
  ·simp only[h,if_false]
 obtain⟨g,E⟩:=E
 let W':Base:=⟨W.w,g,Φ⟩
 have s:∀ B,W'.Free B→W.Free B:=by
  intro B q;refine⟨q.1,?_⟩;rcases D B with a|a
  ·obtain⟨c,l,Q,⟨y,p⟩,hl,M⟩:=a;obtain⟨l',o,t,I,_⟩:=z.live c y p;rw[hl]at t; injection t with t; subst t
   rw[← M]; exact I.2
  ·have:=(E B).2 a;have k:g B=none:=q.2;rw[this]at k; exact k
 have N:∀ B o,g B=some o→w.heap[B]? = some o:=by
  intro B o q;rcases D B with a|a
  ·rw[(E B).1 a]at q; exact q
  ·rw[(E B).2 a]at q; exact z.base.prot B o q
 have ac:Rel W' Φ ρ (m.less x) w:=by
  refine⟨⟨z.base.below,N⟩,z.pers,fun b y p=>?_,fun b b' y G l l' a k=>?_,fun b l K=>by have:=z.fresh b l K; rw[F]at this; exact this,fun B c q=>.inl q⟩
  ·simp only[Mem.less]at p;by_cases i:b∈x
   ·rw[if_pos i]at p; cases p
   ·rw[if_neg i,← J b i]at p;obtain⟨l,o,t,I,U,V,X⟩:=z.live b y p;refine⟨l,o,t,⟨I.1,?_⟩,U,V,X⟩;rcases D l.blk with a|a
    ·obtain⟨c,l',Q,⟨G,ad⟩,hl,M⟩:=a;have:=z.inj c b G y l' l ad p hl t M;exact absurd (this ▸ Q) i
    ·show g l.blk=none;rw[(E _).2 a]; exact I.2
  ·simp only[Mem.less]at a k;by_cases i:b∈x
   ·rw[if_pos i]at a; cases a
   ·by_cases d:b'∈x
    ·rw[if_pos d]at k; cases k
    ·rw[if_neg i,← J b i]at a;rw[if_neg d,← J b' d]at k;exact z.inj b b' y G l l' a k
 refine(h.2 W' Φ ρ vs w ac ha (fun b K=>⟨(Z b K).1,by have:=(Z b K).2; rw[F]at this; exact this⟩)).mono fun e w' S=>?_
 obtain⟨u,r,m4,H,ρ',e1,hE,hk,j,hR,af,aa,ab⟩:=S;subst ab;refine⟨u,r,_,H,ρ',e1,hE,fun b K=>hk b (by rw[F]at K; exact K),?_,hR,by rw[F]; exact hn,aa,rfl⟩
 have A:∀ c l y,c∈x→m2.get c=some y→ρ c=some l→g l.blk=w.heap[l.blk]?:=fun c l y Q p hl=>(E _).1 ⟨c,l,Q,⟨y,p⟩,hl,rfl⟩
 have n:∀ c y,c∈x→m2.get c=some y → ∃ l o,ρ' c=some l∧ρ c=some l∧W.Free l.blk∧g l.blk=some o∧H l.blk=none∧w'.heap[l.blk]? = some o∧BR H ρ' y l o:=by
  intro c y Q p;obtain⟨l,o,t,I,U,V,X⟩:=z.live c y p;have L:g l.blk=some o:=by rw[A c l y Q p t]; exact V
  refine⟨l,o,hE.rho _ _ t,t,I,L,?_,j.base.prot _ _ L,X.ext hE⟩;cases hp:H l.blk with
  | none=>rfl
  | some cc=>
   rcases j.newp _ _ hp with a|a
   ·have Y:Φ l.blk=some cc:=a;rw[U]at Y; cases Y
   ·have:g l.blk=none:=a.2;rw[L]at this; cases this
 refine⟨⟨j.base.below,fun B o q=>j.base.prot B o ?_⟩,j.pers,fun b y p=>?_,fun b b' y G l l' a k k1 k2 S=>?_,j.fresh,fun B c q=>?_⟩
 ·rcases D B with a|a
  ·show g B=some o;rw[(E B).1 a]; exact z.base.prot B o q
  ·show g B=some o;rw[(E B).2 a]; exact q
 ·simp only at p;by_cases i:b∈x
  ·rw[if_pos i]at p;obtain⟨l,o,C,_,q3,_,q5,q6,q7⟩:=n b y i p;exact⟨l,o,C,q3,q5,q6,q7⟩
  ·rw[if_neg i]at p;obtain⟨l,o,t,I,U,V,X⟩:=j.live b y p;exact⟨l,o,t,s _ I,U,V,X⟩
 ·simp only at a k;by_cases i:b∈x
  ·rw[if_pos i]at a;obtain⟨l1,o1,C,q2,_,q4,_⟩:=n b y i a;rw[k1]at C; injection C with C; subst C
   by_cases d:b'∈x
   ·rw[if_pos d]at k;obtain⟨l2,o2,p1,p2,_,p4,_⟩:=n b' G d k;rw[k2]at p1; injection p1 with p1; subst p1
    exact z.inj b b' y G l l' a k q2 p2 S
   ·rw[if_neg d]at k;obtain⟨l2,o2,p1,p2,_,p4,_⟩:=j.live b' G k;rw[k2]at p1; injection p1 with p1; subst p1
    have:g l'.blk=none:=p2.2;rw[← S,q4]at this; cases this
  ·rw[if_neg i]at a;obtain⟨l1,o1,C,q2,_,q4,_⟩:=j.live b y a;rw[k1]at C; injection C with C; subst C
   by_cases d:b'∈x
   ·rw[if_pos d]at k;obtain⟨l2,o2,p1,p2,_,p4,_⟩:=n b' G d k;rw[k2]at p1; injection p1 with p1; subst p1
    have:g l.blk=none:=q2.2;rw[S,p4]at this; cases this
   ·rw[if_neg d]at k;exact j.inj b b' y G l l' a k k1 k2 S
 ·rcases j.newp B c q with a|a
  ·exact z.newp B c a
  ·exact .inr (s B a)
end Go.AE
end
