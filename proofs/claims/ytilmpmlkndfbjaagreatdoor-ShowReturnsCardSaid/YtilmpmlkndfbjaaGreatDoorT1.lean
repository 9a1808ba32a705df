/- Part 1 -/
import Derived.WalkKit
import Derived.Deep.LoopGhost
import Derived.Scope
import Derived.Laws.StructEq
import Derived.Lib.Strings
import Derived.IntWalk
import Derived.Laws.Small
set_option linter.all false
open List (replicate getD getElem?_cons_zero getElem?_cons_succ mem_of_getElem? getElem?_take getElem?_drop getElem?_set getElem?_append getElem?_toArray length_drop mem_append)
open Nat (le_trans mul_le_mul_right add_mul add_assoc zero_add add_zero mod_lt zero_mul)
open Option (isSome_none map_some getD_some)
open Array (getElem?_eq_none getElem?_eq_getElem getElem?_setIfInBounds ext_getElem? getElem?_modify getElem?_extract getElem?_push length_toList toList_map getElem?_map size_append toList_inj)
theorem oI{α}{a b:α}:(some a=some b)=(a=b):=Option.some.injEq a b
theorem AT{α β}{a c:α}{b d:β}:((a,b)=(c,d))=(a=c/\b=d):=Prod.mk.injEq a b c d
theorem gE{α}{l:List α}{i:Nat}(h:i<l.length):l[i]?=some l[i]:=List.getElem?_eq_getElem h
theorem gS{α}{l:List α}{i:Nat}{a:α}:l[i]?=some a↔∃h:i<l.length,l[i]=a:=List.getElem?_eq_some_iff
theorem bA(a b:Bool):((a&&b)=true)=(a=true/\b=true):=Bool.and_eq_true a b
theorem bF:(false=true)=False:=Bool.false_eq_true
theorem iN{c:Prop}{h:Decidable c}(a:¬c){α:Sort _}{t e:α}:ite c t e=e:=if_neg a
theorem iP{c:Prop}{h:Decidable c}(a:c){α:Sort _}{t e:α}:ite c t e=t:=if_pos a
theorem lR(n:Nat):n<=n:=Nat.le_refl n
theorem lM{α β}{as:List α}(f:α->β):(as.map f).length=as.length:=List.length_map f
theorem gM{α β}{f:α->β}{l:List α}{i:Nat}:(l.map f)[i]?=(l[i]?).map f:=List.getElem?_map
theorem tL{α}{l:List α}{i:Nat}(h:l.length<=i):l.take i=l:=List.take_of_length_le h
theorem mC{α}{a b:α}{l:List α}:a∈b::l↔a=b\/a∈l:=List.mem_cons
theorem mM{α β}{b:β}{f:α->β}{l:List α}:b∈l.map f↔∃a,a∈l/\f a=b:=List.mem_map
theorem lA{α}{as a:List α}:(as++a).length=as.length+a.length:=List.length_append
theorem lC{α}{a:α}{as:List α}:(a::as).length=as.length+1:=List.length_cons
theorem mR{m n:Nat}:m∈List.range n↔m<n:=List.mem_range
theorem lG(a b:Nat):a<b\/a>=b:=Nat.lt_or_ge a b
theorem lK{α}{i:Nat}{l:List α}:(l.take i).length=min i l.length:=List.length_take
theorem mO{α β}{x:Option α}{f:α->β}{b:β}:x.map f=some b↔∃a,x=some a/\f a=b:=Option.map_eq_some_iff
namespace Go.AE
open Go.RowKit
inductive Aa where
 | bool (b:Bool)
 | int (k:IntKind) (n:Int)
 | str (s:List UInt8)
 | ptr (b i j:Nat)
 | Bc (els:List (List Aa)) (i j:Nat)
 | nilPtr
 | Aj
 | emp
 | sl (b off len:Nat)
 | Al (els:List (List Aa))
 | map (b:Nat)
 | AF
 | func (fn:Fn) (first captured:List Aa)
 | nilFunc
 | Dt (b:Nat)
 | atLeast (n:Nat)
 | iface (t:TypeId) (v:Aa)
 | nilIface
 | agg (cs:List Aa)
 | tuple (vs:List Aa)
 | bot
 deriving Inhabited
inductive Af where
 | cells (k:Nat) (els:List (List Aa))
 | map (es:List (Aa×Aa×Nat)) (clock:Nat)
 | Cr (s:List UInt8) (pos:Nat)
 | Ce (m:Option Nat) (since:Nat) (seen:List Nat) (stepped:Nat)
 deriving Inhabited
structure Mem where
 get:Nat→Option Af
 next:Nat
@[ext] theorem Mem.ext'{m m':Mem}(a:∀b, m.get b=m'.get b)(c:m.next=m'.next):m=m':=by
 cases m;cases m';simp only[Mem.mk.injEq];exact⟨funext a,c⟩
def Mem.set(m:Mem)(b:Nat)(x:Af):Mem:={ m with get:=fun c=>if c=b then some x else m.get c }
def Mem.del(m:Mem)(b:Nat):Mem:={ m with get:=fun c=>if c=b then none else m.get c }
def Mem.at(m:Mem)(n:Nat):Mem:={ m with next:=n }
@[simp] theorem Mem.AB(m:Mem)(b c:Nat)(x:Af):(m.set b x).get c=if c=b then some x else m.get c:=rfl
@[simp] theorem Mem.Bx(m:Mem)(b c:Nat):(m.del b).get c=if c=b then none else m.get c:=rfl
@[simp] theorem Mem.get_at(m:Mem)(n c:Nat):(m.at n).get c=m.get c:=rfl
@[simp] theorem Mem.Zx(m:Mem)(b:Nat)(x:Af):(m.set b x).next=m.next:=rfl
@[simp] theorem Mem.Hy(m:Mem)(b:Nat):(m.del b).next=m.next:=rfl
@[simp] theorem Mem.GQ(m:Mem)(n:Nat):(m.at n).next=n:=rfl
@[simp] theorem Mem.at_at(m:Mem)(n k:Nat):(m.at n).at k=m.at k:=rfl
@[simp] theorem Mem.gC(m:Mem):m.at m.next=m:=rfl
abbrev Ap:=Nat→Option (Array Value)
structure Loc where
 blk:Nat
 sh:Nat
 k:Nat
 n:Nat
abbrev AI:=Nat→Option Loc
inductive R (Φ:Ap) (ρ:AI):Aa→Value→Prop where
 | bool (b:Bool):R Φ ρ (.bool b) (.bool b)
 | int (k:IntKind) (n:Int):R Φ ρ (.int k n) (.int k n)
 | str (s:List UInt8):R Φ ρ (.str s) (.string ⟨⟨s⟩⟩)
 | ptr (b i j:Nat) (l:Loc) (h:ρ b=some l):R Φ ρ (.ptr b i j) (.pointer (some ⟨l.blk,(l.sh+i)*l.k+j,none⟩))
 | Bc (els:List (List Aa)) (i j B o k:Nat) (c:Array Value) (f:Nat→Nat→Value) (hB:Φ B=some c)
  (hk:∀ (i:Nat) (row:List Aa),els[i]? = some row→row.length=k)
  (hc:∀ (i:Nat) (row:List Aa) (j:Nat) (x:Aa),els[i]? = some row→row[j]? = some x→c[o+i*k+j]? = some (f i j)∧(f i j).oneCell'=true)
  (hr:∀ (i:Nat) (row:List Aa) (j:Nat) (x:Aa),els[i]? = some row→row[j]? = some x→R Φ ρ x (f i j)) :
  R Φ ρ (.Bc els i j) (.pointer (some ⟨B,o+i*k+j,none⟩))
 | nilPtr:R Φ ρ .nilPtr (.pointer none)
 | Aj:R Φ ρ .Aj (.slice none 0 0)
 | emp (a:Option Addr):R Φ ρ .emp (.slice a 0 0)
 | sl (b off len:Nat) (a:Option Addr) (cap:Nat) (l:Loc) (h:ρ b=some l) (hl:len≤cap) (hn:l.sh+off+cap=l.n)
  (hc:0<cap→a=some ⟨l.blk,(l.sh+off)*l.k,none⟩) (ha:a.isSome=true):R Φ ρ (.sl b off len) (.slice a len cap)
 | CA (a:Option Addr) (cap:Nat) (h:0<cap → ∃ B o,a=some ⟨B,o,none⟩):R Φ ρ (.Al []) (.slice a 0 cap)
 | Al (els:List (List Aa)) (B o k cap:Nat) (c:Array Value) (f:Nat→Nat→Value) (hne:els≠[]) (hcap:els.length≤cap) (hB:Φ B=some c)
  (hk:∀ (i:Nat) (row:List Aa),els[i]? = some row→row.length=k)
  (hc:∀ (i:Nat) (row:List Aa) (j:Nat) (x:Aa),els[i]? = some row→row[j]? = some x→c[o+i*k+j]? = some (f i j)∧(f i j).oneCell'=true)
  (hr:∀ (i:Nat) (row:List Aa) (j:Nat) (x:Aa),els[i]? = some row→row[j]? = some x→R Φ ρ x (f i j)) :
  R Φ ρ (.Al els) (.slice (some ⟨B,o,none⟩) els.length cap)
 | map (b:Nat) (l:Loc) (h:ρ b=some l):R Φ ρ (.map b) (.map (some l.blk))
 | AF:R Φ ρ .AF (.map none)
 | func (fn:Fn) (fs cs:List Aa) (vf vc:Array Value) (hf:vf.size=fs.length) (hc:vc.size=cs.length)
  (hfr:∀ (i:Nat) (x:Aa) (v:Value),fs[i]? = some x→vf[i]? = some v→R Φ ρ x v) (CG:∀ (i:Nat) (x:Aa) (v:Value),cs[i]? = some x→vc[i]? = some v→R Φ ρ x v) :
  R Φ ρ (.func fn fs cs) (.func fn vf vc)
 | nilFunc:R Φ ρ .nilFunc .nilFunc
 | Dt (b:Nat) (l:Loc) (h:ρ b=some l):R Φ ρ (.Dt b) (.func (.yield l.blk) #[] #[])
 | atLeast (n c:Nat) (h:n≤c):R Φ ρ (.atLeast n) (.int .i64 c)
 | iface (t:TypeId) (x:Aa) (v:Value) (h:R Φ ρ x v):R Φ ρ (.iface t x) (.iface t v)
 | nilIface:R Φ ρ .nilIface .nilIface
 | agg (cs:List Aa) (vs:Array Value) (hs:vs.size=cs.length) (hr:∀ (i:Nat) (x:Aa) (v:Value),cs[i]? = some x→vs[i]? = some v→R Φ ρ x v):R Φ ρ (.agg cs) (.agg vs)
 | tuple (cs:List Aa) (vs:Array Value) (hs:vs.size=cs.length) (hr:∀ (i:Nat) (x:Aa) (v:Value),cs[i]? = some x→vs[i]? = some v→R Φ ρ x v):R Φ ρ (.tuple cs) (.tuple vs)
 | bot (v:Value):R Φ ρ .bot v
def RL(Φ:Ap)(ρ:AI)(xs:List Aa)(vs:Array Value):Prop:=vs.size=xs.length ∧ ∀(i:Nat) (x:Aa) (v:Value),xs[i]? = some x→vs[i]? = some v→R Φ ρ x v
structure Ext (Φ:Ap) (ρ:AI) (Am:Ap) (ρ':AI):Prop where
 AX:∀ B c,Φ B=some c→Am B=some c
 CN:∀ b l,ρ b=some l→ρ' b=some l
theorem Ext.refl(Φ:Ap)(ρ:AI):Ext Φ ρ Φ ρ:=⟨λ_ _ h=>h,λ_ _ h=>h⟩
theorem Ext.trans{Φ a e:Ap}{ρ ρ' d:AI}(h:Ext Φ ρ a ρ')(f:Ext a ρ' e d):Ext Φ ρ e d:=
 ⟨λB c x=>f.AX B c (h.AX B c x),λb l x=>f.CN b l (h.CN b l x)⟩
theorem R.ext{Φ z:Ap}{ρ ρ':AI}(g:Ext Φ ρ z ρ'){x:Aa}{v:Value}(h:R Φ ρ x v):R z ρ' x v:=by
 induction h with
 |bool b=>exact .bool b
 |int k n=>exact .int k n
 |str s=>exact .str s
 |ptr b i j l h=>exact .ptr b i j l (g.CN _ _ h)
 |Bc els i j B o k c f p q e _ d=>exact .Bc els i j B o k c f (g.AX _ _ p) q e d
 |nilPtr=>exact .nilPtr
 |Aj=>exact .Aj
 |emp a=>exact .emp a
 |sl b off len a cap l h E F e C=>exact .sl b off len a cap l (g.CN _ _ h) E F e C
 |CA a cap h=>exact .CA a cap h
 |Al els B o k cap c f r m p q e _ d=>exact .Al els B o k cap c f r m (g.AX _ _ p) q e d
 |map b l h=>exact .map b l (g.CN _ _ h)
 |AF=>exact .AF
 |func fn A cs H G D e _ _ w y=>exact .func fn A cs H G D e w y
 |nilFunc=>exact .nilFunc
 |Dt b l h=>exact .Dt b l (g.CN _ _ h)
 |atLeast n c h=>exact .atLeast n c h
 |iface t x v _ d=>exact .iface t x v d
 |nilIface=>exact .nilIface
 |agg cs vs u _ d=>exact .agg cs vs u d
 |tuple cs vs u _ d=>exact .tuple cs vs u d
 |bot v=>exact .bot v
theorem RL.ext{Φ a:Ap}{ρ ρ':AI}(b:Ext Φ ρ a ρ'){xs:List Aa}{vs:Array Value}(h:RL Φ ρ xs vs):RL a ρ' xs vs:=
 ⟨h.1,λi x v d c=>(h.2 i x v d c).ext b⟩
def RowsIn(Φ:Ap)(ρ:AI)(els:List (List Aa))(sh k:Nat)(c:Array Value):Prop:=
 (∀(i:Nat) (row:List Aa),els[i]? = some row→row.length=k) ∧
 ∀(i:Nat) (row:List Aa) (j:Nat) (x:Aa),els[i]? = some row→row[j]? = some x → ∃ v,c[(sh+i)*k+j]? = some v∧v.oneCell'=true∧R Φ ρ x v
inductive BR (Φ:Ap) (ρ:AI):Af→Loc→Obj→Prop where
 | cells (k:Nat) (els:List (List Aa)) (l:Loc) (c:Array Value) (e:TypeId) (hk:l.k=k) (hn:c.size=l.n*k) (hl:l.sh+els.length≤l.n)
  (hr:RowsIn Φ ρ els l.sh k c) (h1:∀ v,v∈c.toList→v.oneCell'=true):BR Φ ρ (.cells k els) l (.cells c e (0,0))
 | map (es:List (Aa×Aa×Nat)) (clock:Nat) (l:Loc) (en:Array MapEntry) (hs:en.size=es.length)
  (hr:∀ (i:Nat) (x:Aa×Aa×Nat),es[i]? = some x → ∃ y:MapEntry,en[i]? = some y∧R Φ ρ x.1 y.key∧R Φ ρ x.2.1 y.val∧y.born=x.2.2):BR Φ ρ (.map es clock) l (.map en clock)
 | Cr (s:List UInt8) (pos:Nat) (l:Loc):BR Φ ρ (.Cr s pos) l (.stringIter ⟨⟨s⟩⟩ pos)
 | Em (since:Nat) (seen:List Nat) (stepped:Nat) (l:Loc):BR Φ ρ (.Ce none since seen stepped) l (.mapIter none since seen.toArray stepped)
 | Ce (m:Nat) (lm:Loc) (since:Nat) (seen:List Nat) (stepped:Nat) (l:Loc) (h:ρ m=some lm) (h0:l.sh*l.k=0) :
  BR Φ ρ (.Ce (some m) since seen stepped) l (.mapIter (some lm.blk) since seen.toArray stepped)
theorem RowsIn.ext{Φ a:Ap}{ρ ρ':AI}(e:Ext Φ ρ a ρ'){els:List (List Aa)}{sh k:Nat}{c:Array Value}(h:RowsIn Φ ρ els sh k c):RowsIn a ρ' els sh k c:=
 ⟨h.1,λi row j x b d=>let ⟨v,h3,h5,h4⟩:=h.2 i row j x b d;⟨v,h3,h5,h4.ext e⟩⟩
theorem BR.ext{Φ n:Ap}{ρ ρ':AI}(f:Ext Φ ρ n ρ'){x:Af}{l:Loc}{o:Obj}(h:BR Φ ρ x l o):BR n ρ' x l o:=by
 cases h with
 |cells k els l c e r u t j g=>exact .cells k els l c e r u t (j.ext f) g
 |map p d l en v j=>exact .map p d l en v λi x w=>let ⟨y,g,h2,h3,h4⟩:=j i x w;⟨y,g,h2.ext f,h3.ext f,h4⟩
 |Cr s pos l=>exact .Cr s pos l
 |Em a b c l=>exact .Em a b c l
 |Ce m z a b c l h q=>exact .Ce m z a b c l (f.CN _ _ h) q
structure Aq where
 w:World
 g:Nat→Option Obj
 p:Ap
def Aq.Cu(W:Aq)(B:Nat):Prop:=W.w.heap.size≤B∧W.g B=none
structure Aq.Holds (W:Aq) (w:World):Prop where
 below:Below W.w.heap.size W.w w
 Ci:∀ B o,W.g B=some o→w.heap[B]? = some o
theorem D9{w:World}{B:Nat}{o:Obj}(h:w.heap[B]?=some o):B<w.heap.size:=by
 rcases lG B w.heap.size with a|a
 ·exact a
 rw[getElem?_eq_none a]at h;cases h
theorem Aq.Holds.trans{W:Aq}{w w':World}(h:W.Holds w)(a:Below w.heap.size w w'):W.Holds w':=
 ⟨h.below.trans (a.mono h.below.size),λB o c=>by
  have b:=h.Ci B o c;rw[a.block B (D9 b)];exact b⟩
theorem Aq.Holds.drew{W:Aq}{w:World}(h:W.Holds w):W.Holds w.drew:=⟨h.below.drew,h.Ci⟩
structure Rel (W:Aq) (Φ:Ap) (ρ:AI) (m:Mem) (w:World):Prop where
 base:W.Holds w
 AX:∀ B c,Φ B=some c → ∃ e fz,w.heap[B]? = some (.cells c e fz)
 live:∀ b x,m.get b=some x → ∃ l o,ρ b=some l∧W.Cu l.blk∧Φ l.blk=none∧w.heap[l.blk]? = some o∧BR Φ ρ x l o
 inj:∀ b b' x x' l l',m.get b=some x→m.get b'=some x'→ρ b=some l→ρ b'=some l'→l.blk=l'.blk→b=b'
 fresh:∀ b l,ρ b=some l→b<m.next
 BH:∀ B c,Φ B=some c→W.p B=some c∨W.Cu B
theorem Rel.drew{W:Aq}{Φ:Ap}{ρ:AI}{m:Mem}{w:World}(h:Rel W Φ ρ m w):Rel W Φ ρ m w.drew:=
 ⟨h.base.drew,h.AX,h.live,h.inj,h.fresh,h.BH⟩
theorem Rel.below{W:Aq}{Φ:Ap}{ρ:AI}{m:Mem}{w w':World}(h:Rel W Φ ρ m w)(i:Below w.heap.size w w'):Rel W Φ ρ m w':=by
 have a:∀(B:Nat) (o:Obj),w.heap[B]?=some o->w'.heap[B]?=some o:=λB o d=>by
  have g:B<w.heap.size:=by
   rcases lG B w.heap.size with f|f
   ·exact f
   rw[getElem?_eq_none f]at d;cases d
  rw[i.block B g];exact d
 refine⟨h.base.trans i,λB c g=>?_,λb x r=>?_,h.inj,h.fresh,h.BH⟩
 ·obtain⟨e,fz,d⟩:=h.AX B c g;exact⟨e,fz,a _ _ d⟩
 obtain⟨l,o,j,k,n,p,q⟩:=h.live b x r;exact⟨l,o,j,k,n,a _ _ p,q⟩
structure Mem.Sub (m' m:Mem):Prop where
 get:∀ b x,m'.get b=some x→m.get b=some x
 next:m.next≤m'.next
theorem Mem.Sub.refl(m:Mem):Mem.Sub m m:=⟨λ_ _ h=>h,lR _⟩
theorem Rel.sub{W:Aq}{Φ:Ap}{ρ:AI}{m m':Mem}{w:World}(h:Rel W Φ ρ m w)(a:Mem.Sub m' m):Rel W Φ ρ m' w:=
 ⟨h.base,h.AX,λb x f=>h.live b x (a.get b x f),λb b' x g l l' c d=>h.inj b b' x g l l' (a.get _ _ c) (a.get _ _ d),λb l e=>Nat.lt_of_lt_of_le (h.fresh b l e) a.next,h.BH⟩
inductive Ah where
 | tmp (t:Nat)
 | const (v:Aa)
 | fn (f:FuncId)
 deriving Inhabited
inductive Cv where
 | int
 | str
 | bool
 deriving DecidableEq,Inhabited
inductive Fv where
 | num
 | bool
 | slice
 | func
 | map
 | ptr
 | flat (ks:List Cv)
 deriving Inhabited
inductive Ba where
 | Gl (x:Ah)
 | pick (c a b:Ah)
 | box (x:Ah)
 | alloc (zero:List Aa)
 | build (zero:List Aa) (parts:List (Nat×Nat×Ah))
 | Dq (k len:Nat) (zero:List Aa) (parts:List (Nat×Ah))
 | load (n:Option Nat) (x:Ah)
 | store (n:Nat) (a x:Ah)
 | CJ (x:Ah)
 | bin (op:BinOp) (e:Fv) (x y:Ah)
 | un (op:UnOp) (x:Ah)
 | Dp (k:IntKind) (x:Ah)
 | Ef (x:Ah)
 | toStr (x:Ah)
 | DL (fn:Fn) (first captured:List Ah)
 | mkMap
 | CI (k bytes:Nat) (zero:List Aa) (len cap:Ah)
 | FZ (x:Ah) (lo hi:Option Ah)
 | Er (k:Nat) (x:Ah) (lo hi mx:Option Ah)
 | CM (n k:Nat) (x:Ah) (lo hi:Option Ah)
 | Cg (off:Nat) (x:Ah)
 | field (off:Nat) (n:Option Nat) (x:Ah)
 | Dk (k:Nat) (x i:Ah)
 | Fi (n k:Nat) (x i:Ah)
 | Ej (x i:Ah)
 | Ei (n k:Nat) (sz:Option Nat) (x i:Ah)
 | lookup (kt:Cv) (zero:Aa) (ok:Bool) (x i:Ah)
 | BX (kt:Cv) (m k v:Ah)
 | FO (kt:Cv) (zero:Aa) (m k:Ah)
 | Hq (m s v:Ah)
 | delete (kt:Cv) (m k:Ah)
 | range (x:Ah)
 | Hx (x:Ah)
 | Gx (x:Ah)
 | ext (x:Ah) (i:Nat)
 | call (f:Ah) (args:List Ah)
 | append (k bytes:Nat) (zero:List Aa) (s x:Ah)
 | BI (k bytes:Nat) (zero:List Aa) (s x:Ah)
 | copy (k:Nat) (d s:Ah)
 | clear (k:Nat) (zero:List Aa) (x:Ah)
 | El (x:Ah)
 | BW (x:Ah)
 | CH (x:Ah)
 | Ek (n:Nat)
 | Dj (x:Ah)
 | Da (mx:Bool) (xs:List Ah)
 | iface (t:TypeId) (x:Ah)
 | dead
 deriving Inhabited
structure Ag where
 dst:Option Nat
 op:Ba
 guard:Option (Nat×Bool)
 un:List Nat
 deriving Inhabited
inductive An where
 | skip
 | region (draw:Bool) (ops:List Ag)
 | seq (a b:An)
 | cond (c:Ah) (a b:An)
 | block (id:Nat) (c:An)
 | loop (c:An)
 | exit (id:Nat)
 | scope (c:An)
 | label (l:Nat)
 | ret
 | bad
 deriving Inhabited
structure AD where
 ntmps:Nat
 results:List (Nat×Option (Option Nat))
 body:An
 deriving Inhabited
def Ba.AS:Ba→List Ah
 | .Gl x | .box x | .load _ x | .CJ x | .un _ x | .Dp _ x | .Ef x | .toStr x | .Cg _ x | .field _ _ x | .range x | .Hx x | .Gx x | .ext x _ | .El x | .BW x | .CH x | .iface _ x | .clear _ _ x | .Dj x=>[x]
 | .pick c a b=>[c,a,b]
 | .alloc _ | .mkMap | .Ek _ | .dead=>[]
 | .build _ ps=>ps.map fun p=>p.2.2
 | .Dq _ _ _ ps=>ps.map fun p=>p.2
 | .store _ a x | .bin _ _ a x | .CI _ _ _ a x | .Dk _ a x | .Fi _ _ a x | .Ej a x | .Ei _ _ _ a x | .lookup _ _ _ a x | .FO _ _ a x | .delete _ a x | .append _ _ _ a x | .BI _ _ _ a x | .copy _ a x=>[a,x]
 | .DL _ a b=>a++b
 | .FZ x l h | .CM _ _ x l h=>x :: (l.toList++h.toList)
 | .Er _ x l h m=>x :: (l.toList++h.toList++m.toList)
 | .BX _ a b c | .Hq a b c=>[a,b,c]
 | .call f xs=>f :: xs
 | .Da _ xs=>xs
def Ba.kind:Ba→Nat
 | .Gl _ | .pick _ _ _ | .build _ _ | .CJ _ | .bin _ _ _ _ | .un _ _ | .Dp _ _ | .Ef _ | .DL _ _ _ | .FZ _ _ _ | .Cg _ _ | .field _ _ _ | .Fi _ _ _ _ | .Ej _ _ | .Ei _ _ _ _ _ | .ext _ _ | .El _ | .BW _ | .Ek _ | .Da _ _ | .iface _ _ | .Dj _=>0
 | .load _ _ | .toStr _ | .Er _ _ _ _ _ | .Dk _ _ _ | .lookup _ _ _ _ _ | .CH _=>1
 | .box _ | .alloc _ | .Dq _ _ _ _ | .mkMap | .CI _ _ _ _ _=>2
 | _=>3
def Ai:Aa:=.tuple []
def ev(t:List Aa):Ah→Aa
 | .tmp i=>t.getD i Ai
 | .const v=>v
 | .fn f=>.func (.func f) [] []
def put(t:List Aa)(d:Option Nat)(v:Aa):List Aa:=
 match d with
 | some d=>t.set d v
 | none=>t
def Aa.cells:Aa→Option (List Aa)
 | .agg cs=>some cs
 | .bot=>none
 | v=>some [v]
def Aa.one:Aa→Bool
 | .agg _ | .tuple _ | .bot=>false
 | _=>true
def K5(row:List Aa)(j:Nat):List Aa→List Aa
 | []=>row
 | v :: r=>K5 (row.set j v) (j+1) r
def B0:List Aa→List (Nat×Nat×Aa)→Option (List Aa)
 | cells,[]=>some cells
 | cells,(off,size,v) :: r=>
  match v.cells with
  | some cs=>if cs.length=size∧off+size≤cells.length then B0 (K5 cells off cs) r else none
  | none=>none
def H3(k:Nat):List (List Aa)→List (Nat×Aa)→Option (List (List Aa))
 | els,[]=>some els
 | els,(i,v) :: r=>
  match v.cells with
  | some cs=>if cs.length=k∧i<els.length∧cs.all Aa.one then H3 k (els.set i cs) r else none
  | none=>none
def rowAt(m:Mem):Aa→Option (List Aa×Nat)
 | .ptr b i j=>match m.get b with
  | some (.cells _ els)=>match els[i]? with
   | some row=>some (row,j)
   | none=>none
  | _=>none
 | .Bc els i j=>match els[i]? with
  | some row=>some (row,j)
  | none=>none
 | _=>none
def Pu(m:Mem)(n:Option Nat)(x:Aa):Option Aa:=
 match rowAt m x with
 | some (row,j)=>match n with
  | none=>row[j]?
  | some n=>if 0<n∧j+n≤row.length then some (.agg ((row.drop j).take n))else none
 | none=>none
def Pn(m:Mem)(n:Nat)(x v:Aa):Option Mem:=
 match x,v.cells with
 | .ptr b i j,some cs=>match m.get b with
  | some (.cells k els)=>match els[i]? with
   | some row=>if cs.length=n∧j+n≤row.length∧cs.all Aa.one then some (m.set b (.cells k (els.set i (K5 row j cs))))else none
   | none=>none
  | _=>none
 | _,_=>none
def A7(kt:Cv)(x y:Aa):Option Bool:=
 match kt,x,y with
 | .int,.int k a,.int k' b=>if k=k' then some (a == b)else none
 | .str,.str a,.str b=>some (a == b)
 | .bool,.bool a,.bool b=>some (a == b)
 | _,_,_=>none
def KW:List Cv→List Aa→List Aa→Option Bool
 | [],[],[]=>some true
 | k :: ks,x :: xs,y :: ys=>match A7 k x y with
  | some true=>KW ks xs ys
  | some false=>some false
  | none=>none
 | _,_,_=>none
def D1(kt:Cv)(k:Aa):List (Aa×Aa×Nat)→Option (Option (Nat×Aa×Nat))
 | []=>some none
 | (k',v,born) :: es=>match A7 kt k k' with
  | some true=>some (some (0,v,born))
  | some false=>match D1 kt k es with
   | some (some (i,r))=>some (some (i+1,r))
   | some none=>some none
   | none=>none
  | none=>none
def G8(m:Mem)(k:Nat):Aa→Option (List (List Aa))
 | .Aj | .emp=>some []
 | .Al els=>if els.all (·.length == k)then some els else none
 | .sl b off len=>match m.get b with
  | some (.cells k' els)=>if k'=k∧off+len≤els.length then some ((els.drop off).take len)else none
  | _=>if len=0 then some []else none
 | _=>none
def aL(c:UInt8):List Aa:=[.int .u8 c.toNat]
def J0(m:Mem)(k:Nat):Aa→Option (List (List Aa))
 | .str s=>if k=1 then some (s.map aL)else none
 | x=>G8 m k x
def S7:Aa→Option Nat
 | .Aj | .emp=>some 0
 | .Al els=>some els.length
 | .sl _ _ len=>some len
 | _=>none
def S6:Aa→Option Nat
 | .int _ n=>if 0≤n then some n.toNat else none
 | _=>none
def C7(t:List Aa)(d:Nat):Option Ah→Option Nat
 | none=>some d
 | some x=>S6 (ev t x)
def W6:Nat:=1048576
def D5(id k bytes:Nat)(m:Mem)(s:Aa)(xs:List (List Aa)):Option (Aa×Mem):=
 match s with
 | .Aj=>if xs=[]then some (.Aj,m)else if xs.length≤W6∧bytes≤W6 then some (.sl id 0 xs.length,m.set id (.cells k xs))else none
 | .emp=>if xs=[]then some (.emp,m)else if xs.length≤W6∧bytes≤W6 then some (.sl id 0 xs.length,m.set id (.cells k xs))else none
 | .sl b off len=>match m.get b with
  | some (.cells k' els)=>
   if k'=k∧off+len≤els.length∧(els.length=off+len∨off+len+xs.length≤els.length)then
    if off+len+xs.length≤els.length then
     some (.sl b off (len+xs.length),m.set b (.cells k (els.take (off+len)++xs++els.drop (off+len+xs.length))))
    else if len+xs.length≤W6∧bytes≤W6 then
     some (.sl id 0 (len+xs.length),(m.del b).set id (.cells k ((els.drop off).take len++xs)))
    else none
   else none
  | _=>none
 | _=>none
def S5(op:BinOp)(k:IntKind)(a b:Int):Option Aa:=
 match op with
 | .add=>some (.int k (k.wrap (a+b)))
 | .sub=>some (.int k (k.wrap (a - b)))
 | .mul=>some (.int k (k.wrap (a*b)))
 | .quo=>if b=0 then none else some (.int k (k.wrap (a.tdiv b)))
 | .rem=>if b=0 then none else some (.int k (a.tmod b))
 | .and=>some (.int k (k.wrap (BitVec.ofInt k.bits a &&& BitVec.ofInt k.bits b).toNat))
 | .or=>some (.int k (k.wrap (BitVec.ofInt k.bits a ||| BitVec.ofInt k.bits b).toNat))
 | .xor=>some (.int k (k.wrap (BitVec.ofInt k.bits a ^^^ BitVec.ofInt k.bits b).toNat))
 | .andNot=>some (.int k (k.wrap (BitVec.ofInt k.bits a &&& ~~~(BitVec.ofInt k.bits b)).toNat))
 | .eql=>some (.bool (decide (a=b)))
 | .neq=>some (.bool (!decide (a=b)))
 | .lss=>some (.bool (decide (a<b)))
 | .leq=>some (.bool (decide (a≤b)))
 | .gtr=>some (.bool (decide (b<a)))
 | .geq=>some (.bool (decide (b≤a)))
 | _=>none
def ML(op:BinOp)(a b:List UInt8):Option Aa:=
 match op with
 | .add=>if a.length+b.length≤1099511627776 then some (.str (a++b))else none
 | .eql=>some (.bool (a == b))
 | .neq=>some (.bool (!(a == b)))
 | .lss=>some (.bool (Op.bytesLess a b))
 | .leq=>some (.bool (Op.bytesLess a b||a == b))
 | .gtr=>some (.bool (!(Op.bytesLess a b||a == b)))
 | .geq=>some (.bool (!Op.bytesLess a b))
 | _=>none
def G0:Fv→Aa→Option Bool
 | .slice,.Aj=>some true
 | .slice,.sl _ _ _=>some false
 | .slice,.Al els=>if els.isEmpty then none else some false
 | .func,.nilFunc=>some true
 | .func,.func _ _ _=>some false
 | .map,.AF=>some true
 | .map,.map _=>some false
 | .ptr,.nilPtr=>some true
 | .ptr,.ptr _ _ _=>some false
 | .ptr,.Bc _ _ _=>some false
 | _,_=>none
def JG(e:Fv)(x y:Aa):Option Bool:=
 match G0 e y with
 | some true=>G0 e x
 | _=>match G0 e x with
  | some true=>G0 e y
  | _=>none
def Ez(e:Fv)(x y:Aa):Option Bool:=
 match e with
 | .num=>none
 | .bool=>match x,y with
  | .bool a,.bool b=>some (a == b)
  | _,_=>none
 | .flat ks=>match x,y with
  | .agg xs,.agg ys=>KW ks xs ys
  | _,_=>none
 | e=>JG e x y
def W5(op:BinOp)(e:Fv)(x y:Aa):Option Aa:=
 match op,x,y with
 | .shl,.int k a,.int _ b=>if b<0 then none else some (.int k (k.wrap (a*2 ^ (min b.toNat k.bits))))
 | .shr,.int k a,.int _ b=>if b<0 then none else some (.int k (a.fdiv (2 ^ (min b.toNat k.bits))))
 | op,.int k a,.int k' b=>if k=k' then S5 op k a b else none
 | op,.str a,.str b=>ML op a b
 | .eql,x,y=>match Ez e x y with
  | some b=>some (.bool b)
  | none=>none
 | .neq,x,y=>match Ez e x y with
  | some b=>some (.bool (!b))
  | none=>none
 | _,_,_=>none
def Gy(op:UnOp)(x:Aa):Option Aa:=
 match op,x with
 | .neg,.int k n=>some (.int k (k.wrap (0 - n)))
 | .not,.bool b=>some (.bool (!b))
 | .xor,.int k n=>some (.int k (k.wrap (BitVec.ofInt k.bits (if k.signed then -1 else k.max) ^^^ BitVec.ofInt k.bits n).toNat))
 | _,_=>none
def I4(off:Nat):Aa→Option Aa
 | .ptr b i j=>some (.ptr b i (j+off))
 | .Bc els i j=>some (.Bc els i (j+off))
 | _=>none
def Ld(cs:List Aa)(off:Nat):Option Nat→Option Aa
 | none=>cs[off]?
 | some n=>if off+n≤cs.length then some (.agg ((cs.drop off).take n))else none
def Nk(mx:Bool):Aa→List Aa→Option Aa
 | x,[]=>some x
 | .int k a,.int _ b :: r=>Nk mx (.int k (if mx then (if b > a then b else a)else (if b<a then b else a))) r
 | _,_=>none
def OV:List (List Aa)→Option (List UInt8)
 | []=>some []
 | [.int .u8 n] :: r=>match OV r with
  | some l=>some (UInt8.ofNat n.toNat :: l)
  | none=>none
 | _=>none
def F0(t:List Aa)(len FR:Nat)(lo hi:Option Ah):Option (Nat×Nat):=
 match C7 t len hi with
 | some h=>if h≤FR then match C7 t 0 lo with
  | some l=>if l≤h then some (l,h)else none
  | none=>none
  else none
 | none=>none
def W9:Aa→List Nat
 | .ptr b _ _ | .sl b _ _ | .map b=>[b]
 | _=>[]
def P5(id:Nat)(t:List Aa):Ba→List Nat
 | .append _ _ _ s _=>id :: W9 (ev t s)
 | .copy _ d _=>W9 (ev t d)
 | .store _ a _=>W9 (ev t a)
 | .BX _ m _ _=>W9 (ev t m)
 | .clear _ _ x=>W9 (ev t x)
 | .box _ | .alloc _ | .Dq _ _ _ _ | .mkMap | .CI _ _ _ _ _=>[id]
 | _=>[]
def F7(t:List Aa):Ba→List Nat
 | .append _ _ _ _ x=>W9 (ev t x)
 | .copy _ _ s=>W9 (ev t s)
 | .load _ x | .toStr x | .lookup _ _ _ x _ | .CH x | .Er _ x _ _ _ | .Dk _ x _=>W9 (ev t x)
 | _=>[]
def Ae(id:Nat)(t:List Aa)(m:Mem):Ba→Option (Aa×Mem)
 | .Gl x=>some (ev t x,m)
 | .pick c a b=>match ev t c with
  | .bool true=>some (ev t a,m)
  | .bool false=>some (ev t b,m)
  | _=>none
 | .box x=>match (ev t x).cells with
  | some cs=>if cs.all Aa.one then some (.ptr id 0 0,m.set id (.cells cs.length [cs]))else none
  | none=>none
 | .alloc zero=>some (.ptr id 0 0,m.set id (.cells zero.length [zero]))
 | .build zero parts=>match B0 zero (parts.map fun p=>(p.1,p.2.1,ev t p.2.2))with
  | some cs=>some (.agg cs,m)
  | none=>none
 | .Dq k len zero parts=>match H3 k (replicate len zero) (parts.map fun p=>(p.1,ev t p.2))with
  | some els=>some (.sl id 0 len,m.set id (.cells k els))
  | none=>none
 | .load n x=>match Pu m n (ev t x)with
  | some v=>some (v,m)
  | none=>none
 | .store n a x=>match Pn m n (ev t a) (ev t x)with
  | some m'=>some (Ai,m')
  | none=>none
 | .CJ x=>match ev t x with
  | .ptr b i j=>some (.ptr b i j,m)
  | .Bc els i j=>some (.Bc els i j,m)
  | .func (.func f) a b=>some (.func (.func f) a b,m)
  | _=>none
 | .bin op e x y=>match W5 op e (ev t x) (ev t y)with
  | some v=>some (v,m)
  | none=>none
 | .un op x=>match Gy op (ev t x)with
  | some v=>some (v,m)
  | none=>none
 | .Dp k x=>match ev t x with
  | .int _ n=>some (.int k (k.wrap n),m)
  | _=>none
 | .Ef x=>match ev t x with
  | .str s=>some (.str s,m)
  | _=>none
 | .toStr x=>match G8 m 1 (ev t x)with
  | some rows=>match OV rows with
   | some s=>some (.str s,m)
   | none=>none
  | none=>none
 | .DL fn first captured=>some (.func fn (first.map (ev t)) (captured.map (ev t)),m)
 | .mkMap=>some (.map id,m.set id (.map [] 0))
 | .CI k bytes zero len cap=>match S6 (ev t len),S6 (ev t cap)with
  | some l,some c=>if l≤c∧c≤W6∧bytes≤W6 then some (.sl id 0 l,m.set id (.cells k (replicate c zero)))else none
  | _,_=>none
 | .FZ x lo hi=>match ev t x with
  | .str s=>match F0 t s.length s.length lo hi with
   | some (l,h)=>some (.str ((s.take h).drop l),m)
   | none=>none
  | _=>none
 | .Er k x lo hi mx=>match mx with
  | some z=>match S7 (ev t x),C7 t 0 (some z),C7 t 0 lo,hi with
   | some n,some mx,some l,some h=>match S6 (ev t h)with
    | some h=>if l≤h∧h≤mx∧mx≤n then (if mx=0 then some (.emp,m)else some (.bot,m))else none
    | none=>none
   | _,_,_,_=>none
  | none=>match ev t x with
   | .Aj=>match F0 t 0 0 lo hi with
    | some _=>some (.Aj,m)
    | none=>none
   | .emp=>match F0 t 0 0 lo hi with
    | some _=>some (.emp,m)
    | none=>none
   | .Al els=>if els.all (·.length == k)then match F0 t els.length els.length lo hi with
    | some (l,h)=>some (.Al ((els.take h).drop l),m)
    | none=>none
    else none
   | .sl b off len=>match m.get b with
    | some (.cells k' els)=>if k'=k∧off+len≤els.length then match F0 t len (els.length - off) lo hi with
     | some (l,h)=>some (.sl b (off+l) (h - l),m)
     | none=>none
     else none
    | _=>none
   | _=>none
 | .CM ..=>none
 | .Cg off x=>match I4 off (ev t x)with
  | some v=>some (v,m)
  | none=>none
 | .field off n x=>match ev t x with
  | .agg cs=>match Ld cs off n with
   | some v=>some (v,m)
   | none=>none
  | _=>none
 | .Dk k x i=>match ev t x,S6 (ev t i)with
  | .sl b off len,some i=>match m.get b with
   | some (.cells k' _)=>if k'=k∧i<len then some (.ptr b (off+i) 0,m)else none
   | _=>none
  | .Al els,some i=>match els[i]? with
   | some row=>if row.length=k then some (.Bc els i 0,m)else none
   | none=>none
  | _,_=>none
 | .Fi n k x i=>match S6 (ev t i)with
  | some i=>if i<n then match I4 (i*k) (ev t x)with
   | some v=>some (v,m)
   | none=>none
   else none
  | none=>none
 | .Ej x i=>match ev t x,S6 (ev t i)with
  | .str s,some i=>match s[i]? with
   | some c=>some (.int .u8 c.toNat,m)
   | none=>none
  | _,_=>none
 | .Ei n k sz x i=>match ev t x,S6 (ev t i)with
  | .agg cs,some i=>if i<n then match Ld cs (i*k) sz with
   | some v=>some (v,m)
   | none=>none
   else none
  | _,_=>none
 | .lookup kt zero ok x i=>match (match ev t x with
  | .AF=>some []
  | .map b=>match m.get b with
   | some (.map es _)=>some es
   | _=>none
  | _=>none)with
  | some es=>match D1 kt (ev t i) es with
   | some r=>
    let v:=match r with
     | some (_,v,_)=>v
     | none=>zero
    some (if ok then .tuple [v,.bool r.isSome]else v,m)
   | none=>none
  | none=>none
 | .BX kt mp k v=>match ev t mp with
  | .map b=>match m.get b with
   | some (.map es clock)=>match D1 kt (ev t k) es with
    | some (some (i,_,born))=>some (Ai,m.set b (.map (es.set i (ev t k,ev t v,born)) clock))
    | some none=>some (Ai,m.set b (.map (es++[(ev t k,ev t v,clock)]) (clock+1)))
    | none=>none
   | _=>none
  | _=>none
 | .FO ..=>none
 | .Hq ..=>none
 | .delete ..=>none
 | .range _=>none
 | .Hx _=>none
 | .Gx _=>none
 | .ext x i=>match ev t x with
  | .tuple vs=>match vs[i]? with
   | some v=>some (v,m)
   | none=>none
  | _=>none
 | .call _ _=>none
 | .append k bytes _ s x=>match J0 m k (ev t x)with
  | some xs=>D5 id k bytes m (ev t s) xs
  | none=>none
 | .BI ..=>none
 | .copy k d s=>match ev t d,J0 m k (ev t s)with
  | .sl b off len,some xs=>match m.get b with
   | some (.cells k' els)=>if k'=k∧off+len≤els.length then
    let n:=min xs.length len
    some (.int .i64 n,m.set b (.cells k (els.take off++xs.take n++els.drop (off+n))))
    else none
   | _=>none
  | _,_=>none
 | .clear k zero x=>match ev t x with
  | .sl b off len=>match m.get b with
   | some (.cells k' els)=>if k'=k∧off+len≤els.length then
    some (Ai,m.set b (.cells k (els.take off++replicate len zero++els.drop (off+len))))
    else none
   | _=>none
  | .Aj=>some (Ai,m)
  | .emp=>some (Ai,m)
  | _=>none
 | .El x=>match ev t x with
  | .str s=>some (.int .i64 s.length,m)
  | _=>none
 | .BW x=>match S7 (ev t x)with
  | some n=>some (.int .i64 n,m)
  | none=>none
 | .CH x=>match ev t x with
  | .AF=>some (.int .i64 0,m)
  | .map b=>match m.get b with
   | some (.map es _)=>some (.int .i64 es.length,m)
   | _=>none
  | _=>none
 | .Ek n=>some (.int .i64 n,m)
 | .Dj _=>none
 | .Da mx xs=>match xs with
  | []=>none
  | x :: r=>match Nk mx (ev t x) (r.map (ev t))with
   | some v=>some (v,m)
   | none=>none
 | .iface ty x=>some (.iface ty (ev t x),m)
 | .dead=>none
def Ls:Value→Option Aa
 | .bool b=>some (.bool b)
 | .int k n=>some (.int k n)
 | .string s=>some (.str s.data.toList)
 | .pointer none=>some .nilPtr
 | .slice none 0 0=>some .Aj
 | .map none=>some .AF
 | .nilFunc=>some .nilFunc
 | .nilIface=>some .nilIface
 | .tuple vs=>if vs.size=0 then some Ai else none
 | _=>none
def Vn:List Value→Option (List Aa)
 | []=>some []
 | v :: r=>match Ls v,Vn r with
  | some x,some xs=>some (x :: xs)
  | _,_=>none
def Lu:Value→Option Aa
 | .agg cs=>match Vn cs.toList with
  | some xs=>some (.agg xs)
  | none=>none
 | v=>Ls v
section
variable (P:Program)
def X5:Operand→Option Ah
 | .tmp t=>some (.tmp t)
 | .const v=>match Lu v with
  | some x=>some (.const x)
  | none=>none
 | .func f=>some (.fn f)
 | .global _=>none
def Jc:List Operand→Option (List Ah)
 | []=>some []
 | x :: r=>match X5 x,Jc r with
  | some y,some ys=>some (y :: ys)
  | _,_=>none
def J7(t:TypeId):Option Nat:=(P.info? t).map (·.size)
def nL(t:TypeId):Option Nat:=(P.info? t).map (·.bytes)
def Wc(t:TypeId):Option Aa:=
 match P.info? t with
 | some i=>match i.zero with
  | some z=>Lu z
  | none=>none
 | none=>none
def Nx(t:TypeId):Option (List Aa):=
 match Wc P t with
 | some z=>match z.cells with
  | some cs=>if cs.all Aa.one then some cs else none
  | none=>none
 | none=>none
def Ng(t:TypeId):Option (Option Nat):=
 match P.underlying t,P.info? t with
 | some (.struct _),some i|some (.array _ _),some i=>some (some i.size)
 | some _,some _=>some none
 | _,_=>none
def B6(t:TypeId):Option Cv:=
 match P.underlying t with
 | some (.int _)=>some .int
 | some .string=>some .str
 | some .bool=>some .bool
 | _=>none
def Sf:List Field→Nat→Option (List Cv)
 | [],_=>some []
 | f :: r,i=>if f.name != "_" && f.offset == i then match B6 P f.type,Sf r (i+1)with
  | some k,some ks=>some (k :: ks)
  | _,_=>none
  else none
def YT(t:TypeId):Option Fv:=
 match P.underlying t with
 | some .bool=>some .bool
 | some (.slice _)=>some .slice
 | some (.func _ _ _)=>some .func
 | some (.map _ _)=>some .map
 | some (.pointer _)=>some .ptr
 | some (.int _)|some .string=>some .num
 | some (.struct fs)=>if P.stoodInHeld t||P.eqGuardType P.depth t then none else match Sf P fs.toList 0 with
  | some ks=>some (.flat ks)
  | none=>none
 | _=>none
def Su(fs:List Field):List (Nat×Operand)→Option (List (Nat×Nat×Ah))
 | []=>some []
 | (i,x) :: r=>match fs[i]? with
  | some f=>match J7 P f.type,X5 x,Su fs r with
   | some n,some y,some ys=>some ((f.offset,n,y) :: ys)
   | _,_,_=>none
  | none=>none
def RT(n:Nat):List (Nat×Operand)→Option (List (Nat×Nat×Ah))
 | []=>some []
 | (i,x) :: r=>match X5 x,RT n r with
  | some y,some ys=>some ((i*n,n,y) :: ys)
  | _,_=>none
def Sk:List (Nat×Operand)→Option (List (Nat×Ah))
 | []=>some []
 | (i,x) :: r=>match X5 x,Sk r with
  | some y,some ys=>some ((i,y) :: ys)
  | _,_=>none
def B1:Option Operand→Option (Option Ah)
 | none=>some none
 | some x=>match X5 x with
  | some y=>some (some y)
  | none=>none
def Ja(t:TypeId):Option (Nat×Nat×List Aa):=
 match P.underlying t with
 | some (.slice e)=>match J7 P e,nL P e,Nx P e with
  | some k,some b,some z=>if z.length=k∧0<k then some (k,b,z)else none
  | _,_,_=>none
 | _=>none
def La(c:Call):Option Ba:=
 match c.callee with
 | .value f=>match X5 f,Jc c.args.toList with
  | some g,some xs=>some (.call g xs)
  | _,_=>none
 | .builtin .append=>match c.args.toList,c.argTypes.toList with
  | [s,x],[t,u]=>match Ja P t,X5 s,X5 x with
   | some (k,b,z),some s',some x'=>match P.underlying u with
    | some (.int _)=>some (.BI k b z s' x')
    | some _=>some (.append k b z s' x')
    | none=>none
   | _,_,_=>none
  | _,_=>none
 | .builtin .copy=>match c.args.toList,c.argTypes.toList with
  | [d,s],[t,_]=>match Ja P t,X5 d,X5 s with
   | some (k,_,_),some d',some s'=>some (.copy k d' s')
   | _,_,_=>none
  | _,_=>none
 | .builtin .clear=>match c.args.toList,c.argTypes.toList with
  | [x],[t]=>match Ja P t,X5 x with
   | some (k,_,z),some x'=>some (.clear k z x')
   | _,_=>none
  | _,_=>none
 | .builtin .len=>match c.args.toList,c.argTypes.toList with
  | [x],[t]=>match P.underlying t,X5 x with
   | some (.array n _),_=>some (.Ek n)
   | some .string,some y=>some (.El y)
   | some (.slice _),some y=>some (.BW y)
   | some (.map _ _),some y=>some (.CH y)
   | _,_=>none
  | _,_=>none
 | .builtin .cap=>match c.args.toList,c.argTypes.toList with
  | [x],[t]=>match P.underlying t,X5 x with
   | some (.slice _),some y=>some (.Dj y)
   | _,_=>none
  | _,_=>none
 | .builtin .min=>match Jc c.args.toList with
  | some xs=>some (.Da false xs)
  | none=>none
 | .builtin .max=>match Jc c.args.toList with
  | some xs=>some (.Da true xs)
  | none=>none
 | _=>none
def HM(o:Oper):Option Ba:=
 match o.op with
 | .move x | .assign x=>(X5 x).map .Gl
 | .pick c a b=>match X5 c,X5 a,X5 b with
  | some c',some a',some b'=>some (.pick c' a' b')
  | _,_,_=>none
 | .alloc t=>(Nx P t).map .alloc
 | .box _ x=>(X5 x).map .box
 | .build t ps=>match P.underlying t,Nx P t with
  | some (.struct fs),some z=>if fs.toList.all fun f=>(P.info? f.type).isSome then match Su P fs.toList ps.toList with
   | some qs=>some (.build z qs)
   | none=>none
   else none
  | some (.array _ e),some z=>match J7 P e with
   | some n=>match RT n ps.toList with
    | some qs=>some (.build z qs)
    | none=>none
   | none=>none
  | _,_=>none
 | .buildSlice t len ps=>match Ja P t,Sk ps.toList with
  | some (k,_,z),some qs=>if len*k≤2 ^ 24 then some (.Dq k len z qs)else none
  | _,_=>none
 | .load t x=>match Ng P t,X5 x with
  | some n,some y=>some (.load n y)
  | _,_=>none
 | .store t a x=>match J7 P t,X5 a,X5 x with
  | some n,some a',some x'=>some (.store n a' x')
  | _,_,_=>none
 | .nilCheck x=>(X5 x).map .CJ
 | .binOp op t x y _=>match X5 x,X5 y,YT P t with
  | some x',some y',some e=>some (.bin op e x' y')
  | _,_,_=>none
 | .unOp op _ x=>(X5 x).map (.un op)
 | .convert s d x=>match P.underlying s,P.underlying d,X5 x with
  | some (.int _),some (.int k),some y=>some (.Dp k y)
  | some .string,some .string,some y=>some (.Ef y)
  | some (.slice e),some .string,some y=>match P.underlying e with
   | some (.int .u8)=>some (.toStr y)
   | _=>none
  | _,_,_=>none
 | .makeFunc fn f c=>match Jc f.toList,Jc c.toList with
  | some f',some c'=>some (.DL fn f' c')
  | _,_=>none
 | .makeMap _ none=>some .mkMap
 | .makeSlice t l c=>match Ja P t,X5 l,X5 c with
  | some (k,b,z),some l',some c'=>some (.CI k b z l' c')
  | _,_,_=>none
 | .slice t x lo hi mx=>match P.underlying t,X5 x,B1 lo,B1 hi,B1 mx with
  | some .string,some x',some l,some h,some none=>some (.FZ x' l h)
  | some (.slice e),some x',some l,some h,some m=>match J7 P e with
   | some k=>some (.Er k x' l h m)
   | none=>none
  | some (.array n e),some x',some l,some h,some none=>match J7 P e with
   | some k=>some (.CM n k x' l h)
   | none=>none
  | _,_,_,_,_=>none
 | .fieldAddr t x i=>match P.underlying t,X5 x with
  | some (.struct fs),some y=>match fs[i]? with
   | some f=>match J7 P f.type with
    | some n=>if n≠0 then some (.Cg f.offset y)else none
    | none=>none
   | none=>none
  | _,_=>none
 | .field t x i=>match P.underlying t,X5 x with
  | some (.struct fs),some y=>match fs[i]? with
   | some f=>match Ng P f.type with
    | some n=>some (.field f.offset n y)
    | none=>none
   | none=>none
  | _,_=>none
 | .indexAddr t x i=>match P.underlying t,X5 x,X5 i with
  | some (.slice e),some x',some i'=>match J7 P e with
   | some k=>some (.Dk k x' i')
   | none=>none
  | some (.array n e),some x',some i'=>match J7 P e with
   | some k=>some (.Fi n k x' i')
   | none=>none
  | _,_,_=>none
 | .index t x i=>match P.underlying t,X5 x,X5 i with
  | some .string,some x',some i'=>some (.Ej x' i')
  | some (.array n e),some x',some i'=>match J7 P e,Ng P e with
   | some k,some sz=>some (.Ei n k sz x' i')
   | _,_=>none
  | _,_,_=>none
 | .lookup t x i ok=>match P.underlying t,X5 x,X5 i with
  | some (.map kt e),some x',some i'=>match B6 P kt,Wc P e with
   | some q,some z=>some (.lookup q z ok x' i')
   | _,_=>none
  | _,_,_=>none
 | .mapUpdate t m k v | .insert t m k v=>match P.underlying t,X5 m,X5 k,X5 v with
  | some (.map kt _),some m',some k',some v'=>match B6 P kt with
   | some q=>some (.BX q m' k' v')
   | none=>none
  | _,_,_,_=>none
 | .extract x i=>match X5 x with
  | some y=>some (.ext y i)
  | none=>none
 | .call c=>La P c
 | .range t x=>match P.underlying t with
  | some (.map _ _)=>(X5 x).map .range
  | _=>none
 | .next x false=>(X5 x).map .Gx
 | _=>none
def N8(o:Oper):Ba:=(HM P o).getD .dead
def IU(ops:Array Oper):Option (Nat×Bool)→Option (Option (Nat×Bool))
 | none=>some none
 | some (j,w)=>match (ops[j]?).bind (·.dst)with
  | some d=>some (some (d,w))
  | none=>none
def QM:List Nat→List Nat→List Nat
 | acc,[]=>acc
 | acc,x :: r=>if acc.contains x then QM acc r else QM (x :: acc) r
theorem iO(j:Nat):∀(l a:List Nat),j∈QM a l↔j∈a\/j∈l
 |[],a=>by simp[QM]
 |x::r,a=>by
  simp only[QM];split
  ·rename_i h;rw[iO j r a,mC];have b:x∈a:=by simpa using h
   constructor
   ·rintro(h|h)
    ·exact .inl h
    exact .inr (.inr h)
   rintro(h|rfl|h)
   ·exact .inl h
   ·exact .inl b
   exact .inr h
  rw[iO j r (x::a),mC,mC];constructor
  ·rintro((h|h)|h)
   ·exact .inr (.inl h)
   ·exact .inl h
   exact .inr (.inr h)
  rintro(h|h|h)
  ·exact .inl (.inr h)
  ·exact .inl (.inl h)
  exact .inr h
def Lq(ops:List Oper):List (List Nat):=
 ops.foldl (fun acc o=>acc++[QM [] ((o.after.toList.filter (Region.binds .any)).flatMap fun e=>e.on :: acc.getD e.on [])]) []
def D7(ops:Array Oper):List Oper→Option (List Ag)
 | []=>some []
 | o :: r=>match IU ops o.guard,D7 ops r with
  | some g,some as=>some (⟨o.dst,N8 P o,g,[]⟩ :: as)
  | _,_=>none
def gD(as:List Ag)(Br:List (List Nat))(j:Nat)(a:Ba):List Nat:=
 (List.range j).filter fun i=>!((Br.getD j []).contains i)&&match as[i]? with
   | some x=>!(x.op.kind≤1&&a.kind≤1)&&x.op.kind != 0&&a.kind != 0
   | none=>false
def GG(as:List Ag)(Br:List (List Nat)):Nat→List Ag→List Ag
 | _,[]=>[]
 | j,a :: r=>⟨a.dst,a.op,a.guard,gD as Br j a.op⟩ :: GG as Br (j+1) r
def Ag.looks(a:Ag):List Nat:=
 (a.op.AS.filterMap fun x=>match x with
   | .tmp i=>some i
   | _=>none)++match a.guard with
   | some (d,_)=>[d]
   | none=>[]
def Ag.apart(x y:Ag):Bool:=
 (match x.dst with
  | some d=>!(y.looks.contains d)&&y.dst != some d
  | none=>true) &&
 match y.dst with
 | some d=>!(x.looks.contains d)
 | none=>true
def VH(ops:Array Oper)(as:List Ag)(Br:List (List Nat)):Bool:=
 ((List.range ops.size).all fun i=>match ops[i]? with
   | some o=>o.after.toList.all fun e=>!Region.binds .any e||decide (e.on<i)
   | none=>true) &&
 ((List.range ops.size).all fun j=>(List.range j).all fun i=>(Br.getD j []).contains i||match as[i]?,as[j]? with
   | some x,some y=>x.apart y
   | _,_=>false)
def Y1:Code→An
 | .skip=>.skip
 | .region _ ops false=>match D7 P ops ops.toList with
  | some as=>.region false as
  | none=>.bad
 | .region _ ops true=>match D7 P ops ops.toList with
  | some as=>
   if VH ops as (Lq ops.toList)then .region true (GG as (Lq ops.toList) 0 as)else .bad
  | none=>.bad
 | .seq a b=>.seq (Y1 a) (Y1 b)
 | .cond c a b=>match X5 c with
  | some c'=>.cond c' (Y1 a) (Y1 b)
  | none=>.bad
 | .block id c=>.block id (Y1 c)
 | .loop c=>.loop (Y1 c)
 | .exit id=>.exit id
 | .scope c=>.scope (Y1 c)
 | .label _=>.skip
 | .ret=>.ret
 | _=>.bad
def WO:ResultVar→Option (Nat×Option (Option Nat))
 | .tmp t=>some (t,none)
 | .cell a t=>(Ng P t).map fun n=>(a,some n)
def KG:List ResultVar→Option (List (Nat×Option (Option Nat)))
 | []=>some []
 | x :: r=>match WO P x,KG r with
  | some y,some ys=>some (y :: ys)
  | _,_=>none
def Bk(f:Func):Option AD:=
 match f.body with
 | some c=>match KG P f.results.toList with
  | some rs=>if f.name == "runtime.NumGoroutine" then none else some ⟨f.ntmps,rs,Y1 P c⟩
  | none=>none
 | none=>none
end
def Bq(n:Nat)(ρ ρ':AI):Prop:=∀ b,b<n→ρ b=none→ρ' b=none
theorem Bq.refl(n:Nat)(ρ:AI):Bq n ρ ρ:=λ_ _ h=>h
theorem Bq.trans{n d:Nat}{ρ ρ' a:AI}(h:Bq n ρ ρ')(e:Bq d ρ' a)(g:n<=d):Bq n ρ a:=
 λb c f=>e b (Nat.lt_of_lt_of_le c g) (h b c f)
def Vl(P:Program)(f:FuncId):Prop:=∃ fn,P.funcs[f]? = some fn∧(fn.name == "runtime.NumGoroutine")=false∧fn.body.isSome=true
def Aw(P:Program)(f:FuncId)(args:List Aa)(m:Mem)(av:List Nat)(K:Aa→Mem→Prop):Prop:=
 Vl P f ∧ ∀(W:Aq) (Φ:Ap) (ρ:AI) (vs:Array Value) (w:World),Rel W Φ ρ m w→RL Φ ρ args vs→(∀ b,b∈av→ρ b=none∧b<m.next) →
  Calls P f vs w fun e w'=>∃ v r m' Am ρ',e=.returned v∧Ext Φ ρ Am ρ'∧(∀ b,b<m.next→b∉av→ρ b=none→ρ' b=none) ∧
   Rel W Am ρ' m' w'∧R Am ρ' r v∧m.next≤m'.next∧K r m'
def Mem.less(m:Mem)(x:List Nat):Mem:={ m with get:=fun c=>if c∈x then none else m.get c }
def QL(P:Program)(f:FuncId)(args:List Aa)(id:Nat)(x:List Nat)(m:Mem)(v:Aa)(m':Mem)(wl:List Nat):Prop:=
 ∃ m3:Mem,id∉x∧(∀ c,c∈x→m3.get c=none)∧m.next≤m3.next∧m'.next=m3.next∧(∀ c,m'.get c=if c∈x then m.get c else m3.get c) ∧
  (∀ c,c∉wl→c<m.next→c∉x→m3.get c=m.get c)∧Aw P f args (m.less x) [id] fun v' m''=>v'=v∧m''=m3
inductive FT where
 | ops (w r:List Nat)
 | call (wl x:List Nat) (nx:Nat)
def FT.W:FT→Nat→Bool
 | .ops w _,c=>w.contains c
 | .call wl _ nx,c=>wl.contains c||decide (nx≤c)
def FT.R:FT→Nat→Bool
 | .ops _ r,c=>r.contains c
 | .call _ x _,c=>!x.contains c
def FT.Dv:FT→Bool
 | .ops _ _=>false
 | .call _ _ _=>true
def callee(t:List Aa)(f:Ah)(xs:List Ah):Option (FuncId×List Aa):=
 match ev t f with
 | .func (.func g) first cap=>some (g,first++xs.map (ev t)++cap)
 | _=>none
def P7(t:List Aa):Option (Nat×Bool)→Option Bool
 | none=>some true
 | some (d,w)=>match t.getD d Ai with
  | .bool b=>some (b == w)
  | .tuple []=>some false
  | _=>none
structure AY where
 t:List Aa
 m:Mem
structure AY.Fm (σ' σ:AY):Prop where
 next:σ.m.next≤σ'.m.next
 rel:∀ (W:Aq) (Φ:Ap) (ρ:AI) (vs:Array Value) (w:World),Rel W Φ ρ σ.m w→RL Φ ρ σ.t vs → ∃ Am,Ext Φ ρ Am ρ∧Rel W Am ρ σ'.m w∧RL Am ρ σ'.t vs
def I7(P:Program)(base:Nat):List Ag→Nat→(AY→Prop)→List Aa→Mem→Prop
 | [],_,K,t,m=>K ⟨t,m⟩
 | o :: r,i,K,t,m=>
  match P7 t o.guard with
  | some false=>I7 P base r (i+1) K (put t o.dst Ai) m
  | some true=>
   match o.op with
   | .call f xs=>match callee t f xs with
    | some (g,args)=>Aw P g args m [base+i] fun v m'=>I7 P base r (i+1) K (put t o.dst v) m'
    | none=>False
   | op=>match Ae (base+i) t m op with
    | some (v,m')=>I7 P base r (i+1) K (put t o.dst v) m'
    | none=>False
  | none=>False
def B5(x:Nat):List Nat→Prop
 | []=>True
 | y :: r=>x≠y∧B5 x r
def G3:List Nat→List Nat→Prop
 | [],_=>True
 | x :: r,l=>B5 x l∧G3 r l
def Je(n:Nat):List Nat→Prop
 | []=>True
 | x :: r=>x<n∧Je n r
def Ma(x:Nat):List Nat→Prop
 | []=>False
 | y :: r=>x=y∨Ma x r
def Fs:List Nat→List Nat→Prop
 | [],_=>True
 | x :: r,l=>Ma x l∧Fs r l
def FT.indep:FT→FT→Prop
 | .ops w r,.ops w' r'=>G3 w (r'++w')∧G3 r w'
 | .ops w r,.call wl x nx=>G3 r wl∧Je nx r∧G3 w wl∧Je nx w∧Fs w x
 | .call wl x nx,.ops w r=>G3 r wl∧Je nx r∧G3 w wl∧Je nx w∧Fs w x
 | .call _ _ _,.call _ _ _=>False
def M7(fs:List FT)(ft:FT):List Nat→Prop
 | []=>True
 | i :: r=>FT.indep (fs.getD i (.ops [] [])) ft∧M7 fs ft r
def M2(P:Program)(base:Nat):List Ag→List FT→(AY→Prop)→List Aa→Mem→Prop
 | [],_,K,t,m=>K ⟨t,m⟩
 | o :: r,fs,K,t,m=>
  match P7 t o.guard with
  | some false=>M2 P base r (fs++[.ops [] []]) K (put t o.dst Ai) m
  | some true=>
   match o.op with
   | .call f xs=>match callee t f xs with
    | some (g,args)=>∃ wl x v m',QL P g args (base+fs.length) x m v m' wl∧M7 fs (.call wl x m.next) o.un∧M2 P base r (fs++[.call wl x m.next]) K (put t o.dst v) m'
    | none=>False
   | op=>match Ae (base+fs.length) t m op with
    | some (v,m')=>M7 fs (.ops (P5 (base+fs.length) t op) (F7 t op)) o.un∧M2 P base r (fs++[.ops (P5 (base+fs.length) t op) (F7 t op)]) K (put t o.dst v) m'
    | none=>False
  | none=>False
def XK(next:AY→Prop)(Q:Exit→AY→Prop):Exit→AY→Prop
 | .normal,σ=>next σ
 | e,σ=>Q e σ
def KD(id:Nat)(Q:Exit→AY→Prop):Exit→AY→Prop
 | .exit id',σ=>if id'=id then Q .normal σ else Q (.exit id') σ
 | e,σ=>Q e σ
def pK(Q:Exit→AY→Prop):Exit→AY→Prop
 | .goto _,_=>False
 | e,σ=>Q e σ
def CP(P:Program):An→(Exit→AY→Prop)→AY→Prop
 | .skip,Q,σ=>Q .normal σ
 | .region false ops,Q,σ=>I7 P σ.m.next ops 0 (Q .normal) σ.t (σ.m.at (σ.m.next+ops.length))
 | .region true ops,Q,σ=>M2 P σ.m.next ops [] (Q .normal) σ.t (σ.m.at (σ.m.next+ops.length))
 | .seq a b,Q,σ=>CP P a (XK (CP P b Q) Q) σ
 | .cond c a b,Q,σ=>match ev σ.t c with
  | .bool true=>CP P a Q σ
  | .bool false=>CP P b Q σ
  | _=>False
 | .block id c,Q,σ=>CP P c (KD id Q) σ
 | .loop c,Q,σ=>∃ (I:Nat→AY→Prop),(∃ n Ge,AY.Fm Ge σ∧I n Ge) ∧ ∀ n σ1,I n σ1→CP P c (XK (fun σ'=>∃ k Ge,k<n∧AY.Fm Ge σ'∧I k Ge) Q) σ1
 | .exit id,Q,σ=>Q (.exit id) σ
 | .scope c,Q,σ=>CP P c (pK Q) σ
 | .label _,Q,σ=>Q .normal σ
 | .ret,Q,σ=>Q .ret σ
 | .bad,_,_=>False
def lift(W:Aq)(Φ:Ap)(ρ:AI)(n:Nat)(Q:Exit→AY→Prop)(e:Exit)(a:Act)(w:World):Prop:=
 ∃ σ Am ρ',Ext Φ ρ Am ρ'∧Bq n ρ ρ'∧n≤σ.m.next∧Rel W Am ρ' σ.m w∧RL Am ρ' σ.t a.tmps∧a.defers=[]∧Q e σ
def KT(P:Program)(c:Code)(Q:Exit→AY→Prop)(σ:AY):Prop:=
 ∀(W:Aq) (Φ:Ap) (ρ:AI) (a:Act) (w:World),Rel W Φ ρ σ.m w→RL Φ ρ σ.t a.tmps→a.defers=[]→c.wp P (lift W Φ ρ σ.m.next Q) a w
theorem RL.sub{Φ:Ap}{ρ:AI}{xs a:List Aa}{vs:Array Value}(h:RL Φ ρ xs vs)(c:a.length=xs.length)(d:∀(i:Nat) (x:Aa),a[i]?=some x->x=Aa.bot\/xs[i]?=some x):RL Φ ρ a vs:=by
 refine⟨by rw[h.1,c],λi x v f e=>?_⟩;rcases d i x f with rfl|b
 ·exact .bot v
 exact h.2 i x v b e
theorem AY.Fm.refl(σ:AY):AY.Fm σ σ:=⟨lR _,λ_ Φ _ _ _ a b=>⟨Φ,.refl _ _,a,b⟩⟩
theorem AY.Fm.IF{a σ:AY}(c:a.t.length=σ.t.length)(e:∀(i:Nat) (x:Aa),a.t[i]?=some x->x=Aa.bot\/σ.t[i]?=some x)(hm:Mem.Sub a.m σ.m):AY.Fm a σ:=
 ⟨hm.next,λ_ Φ _ _ _ d b=>⟨Φ,.refl _ _,d.sub hm,b.sub c e⟩⟩
theorem Zz5{W:Aq}{Φ b:Ap}{ρ ρ':AI}{n d:Nat}{Q:Exit->AY->Prop}{e:Exit}{a:Act}{w:World}(q:Ext Φ ρ b ρ')(r:Bq n ρ ρ')(c:n<=d)
 (h:lift W b ρ' d Q e a w):lift W Φ ρ n Q e a w:=by
 obtain⟨σ,g,f,i,j,k,l,m,o,p⟩:=h;exact⟨σ,g,f,q.trans i,r.trans j c,le_trans c k,l,m,o,p⟩
theorem qx{W:Aq}{Φ:Ap}{ρ:AI}{n:Nat}{Q Q':Exit->AY->Prop}{e:Exit}{a:Act}{w:World}(h:lift W Φ ρ n Q e a w)(m:∀σ,Q e σ->Q' e σ):lift W Φ ρ n Q' e a w:=by
 obtain⟨σ,c,b,d,f,g,i,j,k,l⟩:=h;exact⟨σ,c,b,d,f,g,i,j,k,m σ l⟩
theorem RL.get{Φ:Ap}{ρ:AI}{t:List Aa}{vs:Array Value}(h:RL Φ ρ t vs)(i:Nat):R Φ ρ (t.getD i Ai) (vs.getD i undef):=by
 rcases lG i t.length with hi|hi
 ·have b:t[i]?=some t[i]:=gE hi;have a:i<vs.size:=by rw[h.1];exact hi
  have e:vs[i]?=some vs[i]:=getElem?_eq_getElem a;have:=h.2 i _ _ b e;simpa[getD,b,Array.getD,a]using this
 have b:t[i]?=none:=List.getElem?_eq_none hi;have a:¬i<vs.size:=by rw[h.1];omega
 have c:t.getD i Ai=Ai:=by simp[getD,b]
 have d:vs.getD i undef=undef:=by simp[Array.getD,a]
 rw[c,d];exact .tuple [] #[] rfl (λi x v f=>by simp at f)
theorem Z6f{v:Value}{x:Aa}(Φ:Ap)(ρ:AI)(h:Ls v=some x):R Φ ρ x v:=by
 unfold Ls at h;split at h<;>first|(cases h;done)|skip
 ·injection h with h;subst h;exact .bool _
 ·injection h with h;subst h;exact .int _ _
 ·injection h with h;subst h;rename_i s;cases s;rename_i d;cases d;exact .str _
 ·injection h with h;subst h;exact .nilPtr
 ·injection h with h;subst h;exact .Aj
 ·injection h with h;subst h;exact .AF
 ·injection h with h;subst h;exact .nilFunc
 ·injection h with h;subst h;exact .nilIface
 rename_i vs;split at h
 ·rename_i a;injection h with h;subst h
  exact .tuple [] vs (by simpa using a) (λi x v b=>by simp at b)
 cases h
theorem Z5g(Φ:Ap)(ρ:AI):∀(vs:List Value) (xs:List Aa),Vn vs=some xs->xs.length=vs.length /\ ∀(i:Nat) (x:Aa) (v:Value),xs[i]?=some x->vs[i]?=some v->R Φ ρ x v
 |[],xs,h=>by
  simp only[Vn,oI]at h;subst h;exact⟨rfl,λi x v a=>by simp at a⟩
 |v::r,xs,h=>by
  simp only[Vn]at h;cases b:Ls v with
  |none=>simp[b]at h
  |some y=>
   cases d:Vn r with
   |none=>simp[b,d]at h
   |some j=>
    simp only[b,d,oI]at h;subst h;obtain⟨e,f⟩:=Z5g Φ ρ r j d;refine⟨by simp[e],λi x g a c=>?_⟩;cases i with
    |zero=>
     simp only[getElem?_cons_zero,oI]at a c;subst a;subst c;exact Z6f Φ ρ b
    |succ i=>
     simp only[getElem?_cons_succ]at a c;exact f i x g a c
theorem qM{v:Value}{x:Aa}(Φ:Ap)(ρ:AI)(h:Lu v=some x):R Φ ρ x v:=by
 unfold Lu at h;split at h
 ·rename_i cs;split at h
  ·rename_i xs a;injection h with h
   subst h;obtain⟨b,c⟩:=Z5g Φ ρ _ _ a;exact .agg _ _ (by simp[b]) (λi x v e d=>c i x v e (by simpa using d))
  cases h
 exact Z6f Φ ρ h
theorem Q1{Φ:Ap}{ρ:AI}{t:List Aa}{a:Act}(h:RL Φ ρ t a.tmps){x:Operand}{y:Ah}(b:X5 x=some y):R Φ ρ (ev t y) (a.eval x):=by
 cases x with
 |tmp i=>
  simp only[X5,oI]at b;subst b;exact h.get i
 |const v=>
  simp only[X5]at b;split at b
  ·rename_i z c;injection b with b
   subst b;exact qM Φ ρ c
  cases b
 |global g=>simp[X5]at b
 |func f=>
  simp only[X5,oI]at b;subst b;exact .func _ [] [] #[] #[] rfl rfl (λi x v b=>by simp at b) (λi x v b=>by simp at b)
theorem Zy6{Φ:Ap}{ρ:AI}{t:List Aa}{a:Act}(h:RL Φ ρ t a.tmps):∀(xs:List Operand) (e:List Ah),Jc xs=some e ->
 e.length=xs.length /\ ∀(i:Nat) (y:Ah) (x:Operand),e[i]?=some y->xs[i]?=some x->X5 x=some y
 |[],e,c=>by
  simp only[Jc,oI]at c;subst c;exact⟨rfl,λi y x d=>by simp at d⟩
 |z::r,e,c=>by
  simp only[Jc]at c;cases f:X5 z with
  |none=>simp[f]at c
  |some y=>
   cases g:Jc r with
   |none=>simp[f,g]at c
   |some j=>
    simp only[f,g,oI]at c;subst c;obtain⟨k,l⟩:=Zy6 h r j g;refine⟨by simp[k],λi n m d b=>?_⟩;cases i with
    |zero=>
     simp only[getElem?_cons_zero,oI]at d b;subst d;subst b;exact f
    |succ i=>
     simp only[getElem?_cons_succ]at d b;exact l i n m d b
theorem Yer{P:Program}
 (Tx:∀(id:Nat) (ops:Array Oper) (p:Bool) (Q:Exit->AY->Prop) (σ:AY),CP P (Y1 P (.region id ops p)) Q σ->KT P (.region id ops p) Q σ) :
 ∀(c:Code) (Q:Exit->AY->Prop) (σ:AY),CP P (Y1 P c) Q σ->KT P c Q σ:=by
 intro c;induction c with
 |skip=>exact λQ σ h W Φ ρ a w o g j=>wp_skip ⟨σ,Φ,ρ,.refl _ _,.refl _ _,lR _,o,g,j,h⟩
 |region id ops p=>exact λQ σ h=>Tx id ops p Q σ h
 |seq x y J K=>
  intro Q σ h W Φ ρ a w o g j;simp only[Y1,CP]at h;refine wp_seq (wp_mono (J _ _ h W Φ ρ a w o g j) ?_);intro e u w' d;have key:∀e',e=e'->e'≠.normal->lift W Φ ρ σ.m.next Q e u w':=by
   intro e' Z H;refine qx d λb hq=>?_;subst Z;cases e<;>first|exact absurd rfl H|exact hq
  cases e with
  |normal=>
   obtain⟨b,q,ρ',C,D,A,E,F,G,r⟩:=d;exact wp_mono (K _ _ r W q ρ' u w' E F G) λe a w aa=>Zz5 C D A aa
  |exit i=>exact key _ rfl (by simp)
  |goto l=>exact key _ rfl (by simp)
  |ret=>exact key _ rfl (by simp)
  |panic U=>exact key _ rfl (by simp)
  |outgrown=>exact key _ rfl (by simp)
 |cond c x y J K=>
  intro Q σ h W Φ ρ a w o g j;simp only[Y1]at h;cases Y:X5 c with
  |none=>simp[Y,CP]at h
  |some c'=>
   simp only[Y,CP]at h;have M:=Q1 g Y;generalize ev σ.t c'=z at h M;split at h
   ·generalize hz:a.eval c=v at M;cases M;exact wp_cond_true hz (J _ _ h W Φ ρ a w o g j)
   ·generalize hz:a.eval c=v at M;cases M;exact wp_cond_false hz (K _ _ h W Φ ρ a w o g j)
   exact h.elim
 |block id c N=>
  intro Q σ h W Φ ρ a w o g j;simp only[Y1,CP]at h;refine wp_block (wp_mono (N _ _ h W Φ ρ a w o g j) ?_);intro e u w' d;cases e with
  |exit i=>
   simp only[Exit.inBlock];obtain⟨b,q,ρ',C,D,A,E,F,G,r⟩:=d;simp only[KD]at r;split
   ·rename_i hi;rw[iP hi]at r;exact⟨b,q,ρ',C,D,A,E,F,G,r⟩
   rename_i hi;rw[iN hi]at r;exact⟨b,q,ρ',C,D,A,E,F,G,r⟩
  |normal=>exact d
  |goto l=>exact d
  |ret=>exact d
  |panic U=>exact d
  |outgrown=>exact d
 |loop c N=>
  intro Q σ h W Φ ρ a w o g j;simp only[Y1,CP]at h;obtain⟨I,⟨n0,S,L,h0⟩,B⟩:=h;obtain⟨ag,V,ab,ad⟩:=L.rel W Φ ρ a.tmps w o g;refine wp_loop_ghost (λn u w'=>∃b q ρ',Ext Φ ρ q ρ'/\Bq σ.m.next ρ ρ'/\σ.m.next<=b.m.next/\Rel W q ρ' b.m w'/\RL q ρ' b.t u.tmps/\u.defers=[]/\I n b) n0
   ⟨S,ag,ρ,V,.refl _ _,L.next,ab,ad,j,h0⟩ ?_
  rintro n u w' ⟨b,q,ρ',C,D,A,E,F,G,r⟩;refine wp_mono (N _ _ (B n b r) W q ρ' u w' E F G) ?_;intro e T af d;have key:∀e',e=e'->e'≠.normal->lift W Φ ρ σ.m.next Q e T af:=by
   intro e' Z H;refine Zz5 C D A (qx d λO hq=>?_);subst Z;cases e<;>first|exact absurd rfl H|exact hq
  cases e with
  |normal=>
   obtain⟨O,EM,Du,g1,g2,g3,g4,g5,g6,k,S,g7,g8,g9⟩:=d;obtain⟨ah,X,ac,ae⟩:=g8.rel W EM Du _ _ g4 g5;exact⟨k,g7,S,ah,Du,(C.trans g1).trans X,D.trans g2 A,le_trans (le_trans A g3) g8.next,ac,ae,g6,g9⟩
  |exit i=>exact key _ rfl (by simp)
  |goto l=>exact key _ rfl (by simp)
  |ret=>exact key _ rfl (by simp)
  |panic U=>exact key _ rfl (by simp)
  |outgrown=>exact key _ rfl (by simp)
 |exit id=>exact λQ σ h W Φ ρ a w o g j=>wp_exit ⟨σ,Φ,ρ,.refl _ _,.refl _ _,lR _,o,g,j,h⟩
 |scope c N=>
  intro Q σ h W Φ ρ a w o g j;simp only[Y1,CP]at h;refine wp_scope_straight (wp_mono (N _ _ h W Φ ρ a w o g j) ?_);intro e u w' d;cases e with
  |goto l=>
   obtain⟨b,q,ρ',C,D,A,E,F,G,r⟩:=d;exact r.elim
  |normal=>exact d
  |exit i=>exact d
  |ret=>exact d
  |panic U=>exact d
  |outgrown=>exact d
 |label l=>exact λQ σ h W Φ ρ a w o g j=>wp_label ⟨σ,Φ,ρ,.refl _ _,.refl _ _,lR _,o,g,j,h⟩
 |ret=>exact λQ σ h W Φ ρ a w o g j=>wp_ret ⟨σ,Φ,ρ,.refl _ _,.refl _ _,lR _,o,g,j,h⟩
 |rangeFunc f ps x y _ _=>exact λQ σ h=>by simp[Y1,CP]at h
 |goto l=>exact λQ σ h=>by simp[Y1,CP]at h
 |refuse s=>exact λQ σ h=>by simp[Y1,CP]at h
section runs
variable {P:Program} {w:World}
theorem V8{t:TypeId}{d:TypeDesc}(h:P.underlying t=some d):(underlying t).run P w=.ok d w:=by simp[underlying,h]
theorem Oi{t:TypeId}{i:TypeInfo}(h:P.info? t=some i):(typeInfo t).run P w=.ok i w:=by simp[typeInfo,h]
theorem B8{t:TypeId}{i:TypeInfo}(h:P.info? t=some i):(sizeOf t).run P w=.ok i.size w:=by simp[sizeOf,Oi h]
theorem MC{t:TypeId}{i:TypeInfo}{z:Value}(h:P.info? t=some i)(a:i.zero=some z):(zeroValue t).run P w=.ok z w:=by simp[zeroValue,Oi h,a]
end runs
theorem Addr.Bd(B o n:Nat):(Addr.add ⟨B,o,none⟩ n)=⟨B,o+n,none⟩:=by
 unfold Addr.add;split
 ·rename_i h;simp[h]
 rfl
def M5(w:World)(B:Nat)(o:Obj):World:={ w with heap:=w.heap.setIfInBounds B o }
theorem Pa(w:World)(B C:Nat)(o:Obj):(M5 w B o).heap[C]?=if B=C/\B<w.heap.size then some o else w.heap[C]?:=by
 unfold M5;simp only[getElem?_setIfInBounds];by_cases h:B=C
 ·subst h;by_cases a:B<w.heap.size<;>simp[a]
 simp[h]
theorem Yai(w:World)(B:Nat)(o a:Obj):M5 (M5 w B o) B a=M5 w B a:=by
 unfold M5;simp[Array.setIfInBounds_setIfInBounds]
theorem dS{w:World}{B:Nat}{o:Obj}(h:w.heap[B]?=some o):M5 w B o=w:=by
 unfold M5;have:w.heap.setIfInBounds B o=w.heap:=by
  apply ext_getElem?;intro i;rw[getElem?_setIfInBounds];by_cases hi:B=i
  ·subst hi;rw[iP rfl];have b:B<w.heap.size:=by
    rcases lG B w.heap.size with a|a
    ·exact a
    rw[getElem?_eq_none a]at h;cases h
   rw[iP b,h]
  rw[iN hi]
 rw[this]
theorem Z9d{w:World}{B off:Nat}{c:Array Value}{e:TypeId}{fz:Nat×Nat}(h:w.heap[B]?=some (.cells c e fz))(v:Value) :
 w.setCell ⟨B,off,none⟩ v=M5 w B (.cells (c.setIfInBounds off v) e fz):=by
 unfold World.setCell M5
 congr 1
 apply ext_getElem?;intro i;rw[getElem?_modify,getElem?_setIfInBounds];by_cases hi:B=i
 ·subst hi;have d:B<w.heap.size:=by
   rcases lG B w.heap.size with b|b
   ·exact b
   rw[getElem?_eq_none b]at h;cases h
  have a:w.heap[B]=.cells c e fz:=by rw[getElem?_eq_getElem d]at h;injection h
  simp[d,a]
 simp[hi]
def K7(c:Array Value)(off:Nat):List Value→Array Value
 | []=>c
 | v :: r=>K7 (c.setIfInBounds off v) (off+1) r
theorem Ql(vs:List Value):∀(c:Array Value) (off:Nat),(K7 c off vs).size=c.size:=by
 induction vs with
 |nil=>intro c off;rfl
 |cons v r a=>intro c off;simp[K7,a]
theorem WJ(vs:List Value):∀(c:Array Value) (off:Nat),(∀v,v∈c.toList->v.oneCell'=true)->(∀v,v∈vs->v.oneCell'=true) -> ∀v,v∈(K7 c off vs).toList->v.oneCell'=true:=by
 induction vs with
 |nil=>intro c off h _;exact h
 |cons x r d=>
  intro c off h b;refine d _ _ (λv a=>?_) (λv a=>b v (List.mem_cons_of_mem _ a));rw[Array.toList_setIfInBounds]at a;rcases List.mem_or_eq_of_mem_set a with a|a
  ·exact h v a
  subst a;exact b _ (List.mem_cons_self ..)
theorem nA(vs:List Value):∀(c:Array Value) (off p:Nat),(K7 c off vs)[p]?=if off<=p/\p<off+vs.length/\p<c.size then vs[p-off]? else c[p]?:=by
 induction vs with
 |nil=>intro c off p;simp[K7];intro a b;omega
 |cons v r e=>
  intro c off p;simp only[K7,e,Array.size_setIfInBounds,lC,getElem?_setIfInBounds];by_cases a:off+1<=p/\p<off+1+r.length/\p<c.size
  ·rw[iP a,iP (by omega)];have:p-off=(p-(off+1))+1:=by omega
   rw[this,getElem?_cons_succ]
  rw[iN a];by_cases b:off=p
  ·subst b;by_cases d:off<c.size
   ·simp[d]
   simp[d]
  rw[iN b,iN (by omega)]
theorem lE{P:Program}{B o:Nat}{e:TypeId}:∀(vs:List Value) (i:Nat) (w:World) (c:Array Value),(∀v,v∈vs->v.oneCell'=true)->w.heap[B]?=some (.cells c e (0,0))->o+i+vs.length<=c.size ->
 (storeCells ⟨B,o,none⟩ vs i).run P w=.ok () (M5 w B (.cells (K7 c (o+i) vs) e (0,0)))
 |[],i,w,c,_,h,_=>by
  simp only[storeCells,K7,Sem.run_pure,dS h]
 |v::r,i,w,c,g,h,l=>by
  simp only[lC]at l;have a:w.cell? (Addr.add ⟨B,o,none⟩ i)=some c[o+i]:=by
   rw[Addr.Bd];simp only[World.cell?,h,isSome_none,bF,if_false];exact getElem?_eq_getElem (by omega)
  have f:w.frozen? (Addr.add ⟨B,o,none⟩ i)=false:=by
   rw[Addr.Bd];simp[World.frozen?,h]
  have k:B<w.heap.size:=by
   rcases lG B w.heap.size with d|d
   ·exact d
   rw[getElem?_eq_none d]at h;cases h
  have b:=Z9d (off:=o+i) h v;have j:(M5 w B (.cells (c.setIfInBounds (o+i) v) e (0,0))).heap[B]?=some (.cells (c.setIfInBounds (o+i) v) e (0,0)):=by
   rw[Pa];simp[k]
  have n:=lE (P:=P) (B:=B) (o:=o) (e:=e) r (i+1) _ (c.setIfInBounds (o+i) v) (λu m=>g u (List.mem_cons_of_mem _ m)) j (by simp;omega);rw[storeCells,Sem.run_bind,run_store _ _ _ _ _ (g v List.mem_cons_self),a,f];simp only[bF,if_false,Result.andThen_ok];rw[Addr.Bd,b,n,Yai];rfl
theorem Zyn{P:Program}{w:World}{B o:Nat}{c:Array Value}{e:TypeId}{fz:Nat×Nat}(h:w.heap[B]?=some (.cells c e fz)):∀(n i:Nat) (a:Array Value),o+i+n<=c.size ->
 (loadCellsFrom ⟨B,o,none⟩ i n a).run P w=.ok (a++(c.extract (o+i) (o+i+n))) w
 |0,i,a,_=>by simp[loadCellsFrom];omega
 |n+1,i,a,l=>by
  have b:w.cell? (Addr.add ⟨B,o,none⟩ i)=some c[o+i]:=by
   rw[Addr.Bd];simp only[World.cell?,h,isSome_none,bF,if_false];exact getElem?_eq_getElem (by omega)
  rw[loadCellsFrom,Sem.run_bind,run_load,b];simp only[Result.andThen_ok];rw[Zyn h n (i+1) _ (by omega)]
  congr 1
  apply ext_getElem?;intro q;simp only[Array.getElem?_append,Array.size_push,getElem?_extract,getElem?_push];by_cases d:q<a.size
  ·rw[iP (by omega),iN (by omega),iP d]
  rw[iN d];by_cases j:q=a.size
  ·subst j;have f:o+i<c.size:=by omega
   simp[f];omega
  rw[iN (by omega)];have g:o+(i+1)+(q-(a.size+1))=o+i+(q-a.size):=by omega
  rw[g];by_cases k:q-a.size<n+1
  ·rw[iP (by omega),iP (by omega)]
  rw[iN (by omega),iN (by omega)]
theorem nO{P:Program}{w:World}{B o n:Nat}{c:Array Value}{e:TypeId}{fz:Nat×Nat}(h:w.heap[B]?=some (.cells c e fz))(a:o+n<=c.size) :
 (loadCells ⟨B,o,none⟩ n).run P w=.ok (c.extract o (o+n)) w:=by
 rw[loadCells,Zyn h n 0 #[] (by omega)];simp
theorem Aq.Holds.put{W:Aq}{w:World}{B:Nat}{o:Obj}(h:W.Holds w)(b:W.Cu B):W.Holds (M5 w B o):=by
 refine⟨h.below.trans ⟨rfl,rfl,rfl,by simp[M5],λk a=>?_⟩,λk c a=>?_⟩
 ·have:=b.1;rw[Pa,iN (by omega)]
 rw[Pa,iN]
 ·exact h.Ci k c a
 rintro⟨rfl,_⟩;rw[b.2]at a;cases a
theorem Aq.Holds.alloc{W:Aq}{w:World}(h:W.Holds w)(o:Obj):W.Holds (w.alloc o):=
 ⟨h.below.alloc h.below.size o,λk c b=>by
  have a:=h.Ci k c b;rw[Below.heap_alloc w o k (D9 a)];exact a⟩
theorem Aq.Holds.Ko{W:Aq}{w:World}(h:W.Holds w):W.Cu w.heap.size:=by
 refine⟨h.below.size,?_⟩;cases a:W.g w.heap.size with
 |none=>rfl
 |some o=>exact absurd (D9 (h.Ci _ _ a)) (Nat.lt_irrefl _)
theorem pS{W:Aq}{Φ:Ap}{ρ:AI}{m:Mem}{w:World}{b:Nat}{x H:Af}{l:Loc}{C:Obj}(h:Rel W Φ ρ m w)(g:m.get b=some x)(v:ρ b=some l)
 (J:BR Φ ρ H l C):Rel W Φ ρ (m.set b H) (M5 w l.blk C):=by
 obtain⟨T,o,f,E,q,F,S⟩:=h.live b x g;rw[v]at f;injection f with f
 subst f;have z:l.blk<w.heap.size:=by
  rcases lG l.blk w.heap.size with r|r
  ·exact r
  rw[getElem?_eq_none r]at F;cases F
 refine⟨?_,?_,?_,?_,h.fresh,h.BH⟩
 ·exact h.base.put E
 ·intro B c G;obtain⟨e,fz,I⟩:=h.AX B c G;refine⟨e,fz,?_⟩;rw[Pa,iN]
  ·exact I
  rintro⟨rfl,_⟩;rw[G]at q;cases q
 ·intro b' y d;simp only[Mem.AB]at d;by_cases a:b'=b
  ·subst a;rw[iP rfl]at d;injection d with d
   subst d;exact⟨l,C,v,E,q,by rw[Pa,iP ⟨rfl,z⟩],J⟩
  rw[iN a]at d;obtain⟨l',D,i,A,K,L,M⟩:=h.live b' y d;refine⟨l',D,i,A,K,?_,M⟩;rw[Pa,iN]
  ·exact L
  rintro⟨u,_⟩;exact a (h.inj b' b y x l' l d g i v u.symm)
 intro j k U V N O s t i A u;have n:∃y,m.get j=some y:=by
  simp only[Mem.AB]at s;by_cases a:j=b
  ·exact⟨x,by rw[a];exact g⟩
  rw[iN a]at s;exact⟨_,s⟩
 have p:∃y,m.get k=some y:=by
  simp only[Mem.AB]at t;by_cases a:k=b
  ·exact⟨x,by rw[a];exact g⟩
  rw[iN a]at t;exact⟨_,t⟩
 obtain⟨P,n⟩:=n;obtain⟨Q,p⟩:=p;exact h.inj j k P Q N O n p i A u
def AI.put(ρ:AI)(b:Nat)(l:Loc):AI:=fun c=>if c=b then some l else ρ c
theorem AI.BU{Φ:Ap}{ρ:AI}{b:Nat}{l:Loc}(h:ρ b=none):Ext Φ ρ Φ (ρ.put b l):=
 ⟨λ_ _ h=>h,λc k a=>by
  unfold AI.put;rw[iN]
  ·exact a
  rintro rfl;rw[h]at a;cases a⟩
theorem AI.Bv{ρ:AI}{b:Nat}{l:Loc}:ρ.put b l b=some l:=by simp[AI.put]
theorem Yj9{W:Aq}{Φ:Ap}{ρ:AI}{m:Mem}{w:World}{b:Nat}{x:Af}{l:Loc}{o:Obj}(h:Rel W Φ ρ m w)(J:ρ b=none)(G:b<m.next)(I:l.blk=w.heap.size)
 (U:BR Φ (ρ.put b l) x l o):Rel W Φ (ρ.put b l) (m.set b x) (w.alloc o):=by
 have K:=AI.BU (Φ:=Φ) (l:=l) J;have old:∀k,k<w.heap.size->(w.alloc o).heap[k]?=w.heap[k]?:=λk S=>Below.heap_alloc w o k S;have a:∀(k:Nat) (t:Obj),w.heap[k]?=some t->k<w.heap.size:=λk t q=>by
  rcases lG k w.heap.size with F|F
  ·exact F
  rw[getElem?_eq_none F]at q;cases q
 have P:m.get b=none:=by
  cases Q:m.get b with
  |none=>rfl
  |some y=>
   obtain⟨l',t,n,_⟩:=h.live b y Q;rw[J]at n;cases n
 have g:∀b' l',b'≠b->ρ.put b l b'=some l'->ρ b'=some l':=λb' l' p v=>by
  unfold AI.put at v;rw[iN p]at v;exact v
 refine⟨h.base.alloc o,?_,?_,?_,?_,h.BH⟩
 ·intro B c O;obtain⟨e,fz,q⟩:=h.AX B c O;exact⟨e,fz,by rw[old B (a _ _ q)];exact q⟩
 ·intro b' y r;simp only[Mem.AB]at r;by_cases d:b'=b
  ·subst d;rw[iP rfl]at r;injection r with r
   subst r;refine⟨l,o,AI.Bv,by rw[I];exact h.base.Ko,?_,?_,U⟩
   ·cases T:Φ l.blk with
    |none=>rfl
    |some c=>
     obtain⟨e,fz,q⟩:=h.AX _ c T;have:=a _ _ q;omega
   rw[I];show(w.heap.push o)[w.heap.size]?=some o;rw[getElem?_push,iP rfl]
  rw[iN d]at r;obtain⟨l',t,s,i,V,L,X⟩:=h.live b' y r;exact⟨l',t,K.CN _ _ s,i,V,by rw[old _ (a _ _ L)];exact L,X.ext K⟩
 ·intro D C M N Y Z n u s i v;simp only[Mem.AB]at n u;by_cases A:D=b
  ·by_cases j:C=b
   ·rw[A,j]
   rw[iN j]at u;have H:=g _ _ j i;obtain⟨l',t,f,_,_,E,_⟩:=h.live C N u;rw[H]at f;injection f with f;subst f
   rw[A,AI.Bv]at s;injection s with s;subst s
   have:=a _ _ E;omega
  rw[iN A]at n;have z:=g _ _ A s;obtain⟨l',t,f,_,_,E,_⟩:=h.live D M n;rw[z]at f;injection f with f;subst f
  by_cases j:C=b
  ·rw[j,AI.Bv]at i;injection i with i;subst i
   have:=a _ _ E;omega
  rw[iN j]at u;exact h.inj D C M N Y Z n u z (g _ _ j i) v
 intro b' l' p;by_cases d:b'=b
 ·rw[d];exact G
 exact h.fresh b' l' (g _ _ d p)
theorem kW{W:Aq}{Φ:Ap}{ρ:AI}{m:Mem}{w:World}(h:Rel W Φ ρ m w){x:Aa}{v:Value}(P:R Φ ρ x v){row:List Aa}{j:Nat}(g:rowAt m x=some (row,j)) :
 ∃B o c e fz,v=.pointer (some ⟨B,o,none⟩)/\w.heap[B]?=some (.cells c e fz) /\ ∀i y,row[j+i]?=some y -> ∃u,c[o+i]?=some u/\R Φ ρ y u:=by
 cases P with
 |ptr b i z l M=>
  simp only[rowAt]at g;cases r:m.get b with
  |none=>simp[r]at g
  |some y=>
   cases y with
   |cells k els=>
    simp only[r]at g;cases p:els[i]? with
    |none=>simp[p]at g
    |some n=>
     simp only[p,oI,AT]at g;obtain⟨rfl,rfl⟩:=g;obtain⟨l',o,A,S,T,I,J⟩:=h.live b _ r;rw[M]at A;injection A with A;subst A
     cases J with
     |cells k els _ c e F U G t _=>
      subst F;refine⟨_,_,c,e,(0,0),rfl,I,λq y C=>?_⟩;obtain⟨u,O,_,E⟩:=t.2 i n (z+q) y p C;exact⟨u,by rw[<-O];congr 1;omega,E⟩
   |map Q D=>simp[r]at g
   |Cr s pos=>simp[r]at g
   |Ce a b c d=>simp[r]at g
 |Bc els i z B o k c f K F L H=>
  simp only[rowAt]at g;cases p:els[i]? with
  |none=>simp[p]at g
  |some n=>
   simp only[p,oI,AT]at g;obtain⟨rfl,rfl⟩:=g;obtain⟨e,fz,N⟩:=h.AX B c K;refine⟨B,_,c,e,fz,rfl,N,λq y C=>?_⟩;refine⟨f i (z+q),?_,H i n (z+q) y p C⟩;rw[<-(L i n (z+q) y p C).1]
   congr 1;omega
 |_=>simp[rowAt]at g
def AJ(P:Program)(s:Sem Next)(W:Aq)(Φ:Ap)(ρ:AI)(id:Nat)(w:World)(x:Aa)(m':Mem):Prop:=
 ∃ v w' Am ρ',(s.run P w=.ok (.value v) w'∨(s.run P w=.ok .skip w'∧v=undef))∧Ext Φ ρ Am ρ'∧(∀ b,b≠id→ρ b=none→ρ' b=none)∧Rel W Am ρ' m' w'∧R Am ρ' x v
section
variable {P:Program} {s:Sem Next} {W:Aq} {Φ:Ap} {ρ:AI} {id:Nat} {w w1:World} {m m':Mem} {x:Aa} {v:Value}
theorem AJ.val(h:s.run P w=.ok (.value v) w)(b:Rel W Φ ρ m w)(a:R Φ ρ x v):AJ P s W Φ ρ id w x m:=
 ⟨v,w,Φ,ρ,.inl h,.refl _ _,λ_ _ h=>h,b,a⟩
theorem MI(Φ:Ap)(ρ:AI):R Φ ρ Ai undef:=.tuple [] #[] rfl (λi x v a=>by simp at a)
theorem AJ.yD{b:Nat}{x0 c:Af}{l:Loc}{a:Obj}(h:s.run P w=.ok .skip (M5 w l.blk a))(g:Rel W Φ ρ m w)(e:m.get b=some x0)(f:ρ b=some l)(d:BR Φ ρ c l a) :
 AJ P s W Φ ρ id w Ai (m.set b c):=
 ⟨undef,_,Φ,ρ,.inr ⟨h,rfl⟩,.refl _ _,λ_ _ h=>h,pS g e f d,MI _ _⟩
theorem AJ.Uj{b:Nat}{x0 c:Af}{l:Loc}{a:Obj}(h:s.run P w=.ok (.value v) (M5 w l.blk a))(i:Rel W Φ ρ m w)(f:m.get b=some x0)(g:ρ b=some l)(d:BR Φ ρ c l a)(e:R Φ ρ x v) :
 AJ P s W Φ ρ id w x (m.set b c):=
 ⟨v,_,Φ,ρ,.inl h,.refl _ _,λ_ _ h=>h,pS i f g d,e⟩
theorem AJ.new{blk:Af}{l:Loc}{o:Obj}(h:s.run P w=.ok (.value v) (w1.alloc o))(j:Rel W Φ ρ m w1)(c:ρ id=none)(a:id<m.next)(i:l.blk=w1.heap.size)
 (d:BR Φ (ρ.put id l) blk l o) (f:R Φ (ρ.put id l) x v):AJ P s W Φ ρ id w x (m.set id blk):=
 ⟨v,_,Φ,ρ.put id l,.inl h,AI.BU c,λb g e=>by unfold AI.put;rw[iN g];exact e,Yj9 j c a i d,f⟩
theorem R.BJ{cs:List Aa}(h:R Φ ρ x v)(a:x.cells=some cs):RL Φ ρ cs v.cells:=by
 have one:∀(y:Aa) (u:Value),R Φ ρ y u->RL Φ ρ [y] #[u]:=λy u e=>⟨rfl,λi x v b d=>by
  cases i with
  |zero=>
   simp only[getElem?_cons_zero,oI]at b;have:u=v:=by simpa using d
   subst b;subst this;exact e
  |succ i=>simp at b⟩
 have c:=h;cases h<;>(try simp only[Aa.cells]at a)<;>first|(cases a;done)|skip
 all_goals (injection a with a;subst a)
 case agg cs vs hs hr=>exact ⟨hs,hr⟩
 all_goals exact one _ _ c
theorem WT{y:Aa}{u:Value}(h:R Φ ρ y u)(a:y.one=true):u.oneCell'=true:=by
 cases h<;>simp_all[Aa.one,Value.oneCell']
theorem aV{cs:List Aa}{vs:Array Value}(h:RL Φ ρ cs vs)(c:cs.all Aa.one=true):∀v,v∈vs.toList->v.oneCell'=true:=by
 intro u e;obtain⟨q,b,rfl⟩:=List.getElem_of_mem e;simp only[length_toList]at b;have a:q<cs.length:=by rw[<-h.1];exact b
 have d:=h.2 q _ _ (gE a) (getElem?_eq_getElem b);simpa using WT d (List.all_eq_true.1 c _ (List.getElem_mem a))
theorem Yez{cs:List Aa}{vs:Array Value}(h:RL Φ ρ cs vs)(d:cs.all Aa.one=true):RowsIn Φ ρ [cs] 0 cs.length vs:=by
 refine⟨λi row hi=>?_,λi row j y hi a=>?_⟩
 ·cases i with
  |zero=>simp at hi;rw[hi]
  |succ i=>simp at hi
 cases i with
 |zero=>
  simp only[getElem?_cons_zero,oI]at hi;subst hi;have b:j<cs.length:=(gS.1 a).1;have c:vs[j]?=some (vs[j]'(by rw[h.1];exact b)):=getElem?_eq_getElem _;exact⟨_,by simpa using c,WT (h.2 j y _ a c) (List.all_eq_true.1 d y (mem_of_getElem? a)),h.2 j y _ a c⟩
 |succ i=>simp at hi
theorem BR.BU{blk:Af}{l a:Loc}{o:Obj}(b:ρ id=none)(h:BR Φ ρ blk a o):BR Φ (ρ.put id l) blk a o:=h.ext (AI.BU b)
theorem Zwj{e:TypeId}{cs:List Aa}{y:Aa}(g:Rel W Φ ρ m w)(d:ρ id=none)(b:id<m.next)(i:R Φ ρ y v)(f:y.cells=some cs)(c:cs.all Aa.one=true)
 (h:s.run P w=.ok (.value (.pointer (some ⟨w.heap.size,0,none⟩))) (w.alloc (.cells v.cells e))) :
 AJ P s W Φ ρ id w (.ptr id 0 0) (m.set id (.cells cs.length [cs])):=by
 have a:=i.BJ f;refine AJ.new (l:=⟨w.heap.size,0,cs.length,1⟩) h g d b rfl (BR.BU d (.cells _ _ _ _ _ rfl (by simp[a.1]) (by simp) (Yez a c) (aV a c))) ?_;have:=R.ptr (Φ:=Φ) (ρ:=ρ.put id ⟨w.heap.size,0,cs.length,1⟩) id 0 0 _ AI.Bv;simpa using this
theorem OT{t:TypeId}{d:List Aa}(h:Nx P t=some d)(Φ:Ap)(ρ:AI):∃i z y,P.info? t=some i/\i.zero=some z/\R Φ ρ y z/\y.cells=some d/\d.all Aa.one=true:=by
 unfold Nx Wc at h;cases hi:P.info? t with
 |none=>simp[hi]at h
 |some i=>
  cases a:i.zero with
  |none=>simp[hi,a]at h
  |some z=>
   cases c:Lu z with
   |none=>simp[hi,a,c]at h
   |some y=>
    simp only[hi,a,c]at h;cases b:y.cells with
    |none=>simp[b]at h
    |some cs=>
     simp only[b]at h;split at h
     ·rename_i e;injection h with h;subst h
      exact⟨i,z,y,rfl,a,qM Φ ρ c,b,e⟩
     cases h
def Px:TypeDesc→Bool
 | .struct _ | .array _ _=>true
 | _=>false
theorem xz{t:TypeId}{n:Option Nat}(h:Ng P t=some n):∃d i,P.underlying t=some d/\P.info? t=some i /\
 ((n=some i.size/\Px d=true)\/(n=none/\Px d=false)):=by
 unfold Ng at h;cases a:P.underlying t with
 |none=>simp[a]at h
 |some d=>
  cases hi:P.info? t with
  |none=>cases d<;>simp[a,hi]at h
  |some i=>
   refine⟨d,i,rfl,rfl,?_⟩;cases d<;>simp[a,hi]at h<;>first|exact .inl ⟨h.symm,rfl⟩|exact .inr ⟨h.symm,rfl⟩
theorem jH{t:TypeId}{d:TypeDesc}(h:P.underlying t=some d):(isAgg t).run P w=.ok (Px d) w:=by
 simp only[isAgg,Sem.run_bind,V8 h,Result.andThen_ok];cases d<;>rfl
theorem Z6j{t:TypeId}{n:Option Nat}{C y:Aa}{E:Value}(K:Rel W Φ ρ m w)(L:R Φ ρ C E)(G:Ng P t=some n)(b:Pu m n C=some y) :
 ∃u,(Instr.loadAt t E).run P w=.ok u w/\R Φ ρ y u:=by
 unfold Pu at b;cases f:rowAt m C with
 |none=>simp[f]at b
 |some M=>
  obtain⟨row,j⟩:=M;simp only[f]at b;obtain⟨B,o,c,e,fz,rfl,D,a⟩:=kW K L f;obtain⟨d,i,H,hi,g⟩:=xz G;have p:=jH (w:=w) H;simp only[Instr.loadAt,Instr.sureAddr,Sem.run_bind,Sem.run_pure,Result.andThen_ok,loadVar,p];rcases g with⟨rfl,h⟩|⟨rfl,h⟩
  ·simp only at b;split at b
   ·rename_i I;injection b with b
    subst b;rw[h];simp only[if_true,Sem.run_bind,B8 hi,Result.andThen_ok];have z:o+i.size<=c.size:=by
     have s:j+(i.size-1)<row.length:=by omega
     obtain⟨u,r,_⟩:=a (i.size-1) _ (gE s);have:=(Array.getElem?_eq_some_iff.1 r).1;omega
    rw[nO D z];refine⟨_,rfl,.agg _ _ (by simp;omega) λq y v A l=>?_⟩;have J:q<i.size:=by
     have:=(gS.1 A).1;simp at this;omega
    rw[getElem?_take,iP J,getElem?_drop]at A;obtain⟨u,r,k⟩:=a q y A;rw[getElem?_extract]at l;split at l
    ·rw[r]at l;injection l with l;subst l;exact k
    cases l
   cases b
  simp only at b;rw[h];simp only[bF,if_false];obtain⟨u,r,k⟩:=a 0 y (by simpa using b);have F:w.cell? ⟨B,o,none⟩=some u:=by
   simp only[World.cell?,D,isSome_none,bF,if_false];simpa using r
  rw[run_load,F];exact⟨u,rfl,k⟩
theorem Zwh(cs:List Aa):∀(row:List Aa) (j:Nat),(K5 row j cs).length=row.length:=by
 induction cs with
 |nil=>intro row j;rfl
 |cons v r a=>intro row j;simp[K5,a]
theorem kG(cs:List Aa):∀(row:List Aa) (j q:Nat),(K5 row j cs)[q]?=if j<=q/\q<j+cs.length/\q<row.length then cs[q-j]? else row[q]?:=by
 induction cs with
 |nil=>intro row j q;simp[K5];intro a b;omega
 |cons v r d=>
  intro row j q;simp only[K5,d,List.length_set,lC,getElem?_set];by_cases a:j+1<=q/\q<j+1+r.length/\q<row.length
  ·rw[iP a,iP (by omega)];have:q-j=(q-(j+1))+1:=by omega
   rw[this,getElem?_cons_succ]
  rw[iN a];by_cases b:j=q
  ·subst b;by_cases c:j<row.length
   ·simp[c]
   simp[c]
  rw[iN b,iN (by omega)]
theorem Yht{a b k j n q:Nat}(c:a≠b)(d:j+n<=k)(e:q<k):¬(a*k+j<=b*k+q/\b*k+q<a*k+j+n):=by
 rcases Nat.lt_or_gt_of_ne c with h|h
 ·have:(a+1)*k<=b*k:=mul_le_mul_right k h;rw[add_mul]at this;omega
 have:(b+1)*k<=a*k:=mul_le_mul_right k h;rw[add_mul]at this;omega
theorem OU{a n k q:Nat}(h:a<n)(b:q<k):a*k+q<n*k:=by
 have:(a+1)*k<=n*k:=mul_le_mul_right k h;rw[add_mul]at this;omega
theorem Zzq{els:List (List Aa)}{sh k n i j:Nat}{c:Array Value}{row cs:List Aa}{vs:Array Value}(d:RowsIn Φ ρ els sh k c)(F:c.size=n*k)(E:sh+els.length<=n)
 (hi:els[i]?=some row) (o:RL Φ ρ cs vs) (w:cs.all Aa.one=true) (D:j+cs.length<=row.length):RowsIn Φ ρ (els.set i (K5 row j cs)) sh k (K7 c ((sh+i)*k+j) vs.toList):=by
 have z:=d.1 i row hi;have r:i<els.length:=(gS.1 hi).1;refine⟨λp f e=>?_,λp f q x e l=>?_⟩
 ·rw[getElem?_set]at e;by_cases g:i=p
  ·rw[iP g,iP r]at e;injection e with e;subst e;rw[Zwh,z]
  rw[iN g]at e;exact d.1 p f e
 rw[getElem?_set]at e;rw[nA];simp only[length_toList,o.1];by_cases g:i=p
 ·subst g;rw[iP rfl,iP r]at e;injection e with e
  subst e;rw[kG]at l;by_cases s:j<=q/\q<j+cs.length/\q<row.length
  ·rw[iP s]at l;have A:=OU (a:=sh+i) (n:=n) (k:=k) (q:=q) (by omega) (by omega);rw[iP ⟨by omega,by omega,by omega⟩];have y:(sh+i)*k+q-((sh+i)*k+j)=q-j:=by omega
   rw[y];have m:q-j<vs.size:=by rw[o.1];omega
   have v:=o.2 (q-j) x _ l (getElem?_eq_getElem m);refine⟨vs[q-j],by simp[m],WT v (List.all_eq_true.1 w x (mem_of_getElem? l)),v⟩
  rw[iN s]at l;have B:q<row.length:=(gS.1 l).1;rw[iN (by omega)];exact d.2 i row q x hi l
 rw[iN g]at e;have u:q<k:=by
  have w:=d.1 p f e;have C:=(gS.1 l).1;omega
 have t:=Yht (a:=sh+i) (b:=sh+p) (k:=k) (j:=j) (n:=cs.length) (q:=q) (by omega) (by omega) u;rw[iN (λh=>t ⟨h.1,h.2.1⟩)];exact d.2 p f q x e l
theorem Yfd{t:TypeId}{i:TypeInfo}{B o:Nat}{c:Array Value}{e:TypeId}(hi:P.info? t=some i)(d:w.heap[B]?=some (.cells c e (0,0)))(a:v.cells.size=i.size)
 (b:∀u,u∈v.cells.toList->u.oneCell'=true) (f:o+i.size<=c.size) :
 (Instr.storeAt t (.pointer (some ⟨B,o,none⟩)) v).run P w=.ok () (M5 w B (.cells (K7 c o v.cells.toList) e (0,0))):=by
 simp only[Instr.storeAt,Instr.sureAddr,Sem.run_bind,Sem.run_pure,Result.andThen_ok,storeVar,B8 hi];rw[iN (by simp[a])];have:=lE (P:=P) (B:=B) (o:=o) (e:=e) v.cells.toList 0 w c b d (by simp[a];omega);simpa using this
theorem Yi8{t:TypeId}{n:Nat}{Q S:Aa}{Y J:Value}{m':Mem}(X:Rel W Φ ρ m w)(hx:R Φ ρ Q Y)(hv:R Φ ρ S J)(I:J7 P t=some n)(f:Pn m n Q S=some m')
 (T:s.run P w=match (Instr.storeAt t Y J).run P w with | .ok _ w'=>.ok .skip w' | .halt h w'=>.halt h w'):AJ P s W Φ ρ id w Ai m':=by
 unfold Pn at f;cases Q with
 |ptr b i j=>
  cases C:S.cells with
  |none=>simp[C]at f
  |some cs=>
   simp only[C]at f;cases D:m.get b with
   |none=>simp[D]at f
   |some blk=>
    cases blk with
    |cells k els=>
     simp only[D]at f;cases p:els[i]? with
     |none=>simp[p]at f
     |some row=>
      simp only[p]at f;split at f
      ·rename_i B;obtain⟨M,aa,E⟩:=B;injection f with f
       subst f;cases hx with
       |ptr _ _ _ l U=>
        obtain⟨l',o,H,g2,g3,Z,g5⟩:=X.live b _ D;rw[U]at H;injection H with H;subst H
        cases g5 with
        |cells _ _ _ c e hk V z r L=>
         subst hk;have g:=hv.BJ C;unfold J7 at I;cases hi:P.info? t with
         |none=>simp[hi]at I
         |some O=>
          simp only[hi,map_some,oI]at I;have ac:=r.1 i row p;have ab:i<els.length:=(gS.1 p).1;have y:(l.sh+i)*l.k+j+O.size<=c.size:=by
           have:(l.sh+i+1)*l.k<=l.n*l.k:=mul_le_mul_right _ (by omega);rw[add_mul]at this;omega
          have A:∀u,u∈J.cells.toList->u.oneCell'=true:=by
           intro u hu;obtain⟨q,N,rfl⟩:=List.getElem_of_mem hu;simp only[length_toList]at N;have F:q<cs.length:=by rw[<-g.1];exact N
           have h1:=g.2 q _ _ (gE F) (getElem?_eq_getElem N);have h2:(cs[q]).one=true:=List.all_eq_true.1 E _ (List.getElem_mem F);simpa using WT h1 h2
          have G:=Yfd (P:=P) (v:=J) hi Z (by rw[g.1,M,I]) A y;rw[G]at T;exact AJ.yD T X D U (.cells _ _ _ _ _ rfl (by rw[Ql,V]) (by simpa using z) (Zzq r V z p g E (by omega)) (WJ _ _ _ L A))
      cases f
    |map es K=>simp[D]at f
    |Cr s pos=>simp[D]at f
    |Ce a b c d=>simp[D]at f
 |_=>simp at f
end
section
variable {P:Program} {s:Sem Next} {W:Aq} {Φ:Ap} {ρ:AI} {id:Nat} {w w1:World} {m m':Mem} {x:Aa} {v:Value}
theorem QD{y:Aa}{n:Nat}(h:R Φ ρ y v)(a:S6 y=some n):∃k,v=.int k (n:Int):=by
 cases h<;>simp only[S6]at a<;>try (cases a;done)
 split at a
 ·rename_i k z b;injection a with a
  subst a;exact⟨k,by rw[Int.toNat_of_nonneg b]⟩
 cases a
theorem Pq{t:TypeId}{n:Nat}(h:J7 P t=some n):∃i,P.info? t=some i/\i.size=n:=by
 unfold J7 at h;cases hi:P.info? t with
 |none=>simp[hi]at h
 |some i=>exact ⟨i,rfl,by simpa[hi]using h⟩
theorem Zw7{y z:Aa}{off:Nat}(h:R Φ ρ y v)(a:I4 off y=some z):∃B o,v=.pointer (some ⟨B,o,none⟩)/\R Φ ρ z (.pointer (some ⟨B,o+off,none⟩)):=by
 cases h with
 |ptr b i j l m=>
  simp only[I4,oI]at a;subst a;refine⟨_,_,rfl,?_⟩;have:=R.ptr (Φ:=Φ) (ρ:=ρ) b i (j+off) l m;rwa[<-add_assoc]at this
 |Bc els i j B o k c f d g e n=>
  simp only[I4,oI]at a;subst a;refine⟨_,_,rfl,?_⟩;have:=R.Bc (Φ:=Φ) (ρ:=ρ) els i (j+off) B o k c f d g e n;rwa[<-add_assoc]at this
 |_=>simp[I4]at a
theorem Ydr{t:TypeId}{a:Array Field}{i n:Nat}{f:Field}{y z:Aa}(h:P.underlying t=some (.struct a))(d:a[i]?=some f)(e:J7 P f.type=some n)(b:n≠0)
 (j:R Φ ρ y v) (c:I4 f.offset y=some z):∃u,(Instr.fieldAt t v i).run P w=.ok u w/\R Φ ρ z u:=by
 obtain⟨B,o,rfl,k⟩:=Zw7 j c;obtain⟨l,hi,g⟩:=Pq e;refine⟨_,?_,k⟩;simp only[Instr.fieldAt,Sem.run_bind,V8 h,Result.andThen_ok,d,Instr.sureAddr,Sem.run_pure,fieldPlace,B8 hi,g];rw[iN b];simp[Addr.Bd]
theorem uv{t:TypeId}{n:Option Nat}{cs:List Aa}{vs:Array Value}{off:Nat}{z:Aa}(l:Ng P t=some n)(h:RL Φ ρ cs vs)(a:Ld cs off n=some z) :
 ∃u,(part t vs off).run P w=.ok u w/\R Φ ρ z u:=by
 obtain⟨d,i,m,hi,b⟩:=xz l;have e:=jH (w:=w) m;simp only[part,Sem.run_bind,e,Result.andThen_ok];rcases b with⟨rfl,c⟩|⟨rfl,c⟩
 ·rw[c];simp only[Ld]at a;split at a
  ·rename_i o;injection a with a
   subst a;simp only[if_true,Sem.run_bind,B8 hi,Result.andThen_ok,Sem.run_pure];refine⟨_,rfl,.agg _ _ (by simp[h.1];omega) λq y u j f=>?_⟩;have p:q<i.size:=by
    have:=(gS.1 j).1;simp at this;omega
   rw[getElem?_take,iP p,getElem?_drop]at j;rw[getElem?_extract]at f;split at f
   ·exact h.2 _ _ _ j f
   cases f
  cases a
 rw[c];simp only[Ld]at a;simp only[bF,if_false];have g:=(gS.1 a).1;have k:vs[off]?=some (vs[off]'(by rw[h.1];exact g)):=getElem?_eq_getElem _;rw[k];exact⟨_,rfl,h.2 _ _ _ a k⟩
theorem dV{cs:List Aa}(h:R Φ ρ (.agg cs) v):∃vs,v=.agg vs/\RL Φ ρ cs vs:=by
 cases h with
 |agg cs vs b a=>exact ⟨vs,rfl,b,a⟩
theorem Yhs{t:TypeId}{a:Array Field}{i:Nat}{f:Field}{n:Option Nat}{cs:List Aa}{z:Aa}(e:P.underlying t=some (.struct a))(c:a[i]?=some f)(d:Ng P f.type=some n)
 (j:R Φ ρ (.agg cs) v) (b:Ld cs f.offset n=some z):∃u,(Instr.field t v i).run P w=.ok u w/\R Φ ρ z u:=by
 obtain⟨vs,rfl,h⟩:=dV j;obtain⟨u,g,k⟩:=uv (P:=P) (w:=w) d h b;refine⟨u,?_,k⟩;simp only[Instr.field,Sem.run_bind,V8 e,Result.andThen_ok,c,asAgg,Sem.run_pure,g]
theorem xe{t e:TypeId}{k i:Nat}{y:Aa}{z:Aa}{H:Value}{V:IntKind}(T:Rel W Φ ρ m w)(E:P.underlying t=some (.slice e))(O:J7 P e=some k)(F:R Φ ρ y v)(hi:H=.int V (i:Int))
 (h:(∃b off len els,y=.sl b off len/\m.get b=some (.cells k els)/\i<len/\z=.ptr b (off+i) 0)\/(∃els row,y=.Al els/\els[i]?=some row/\row.length=k/\z=.Bc els i 0)) :
 ∃u,(Instr.indexAt t v H).run P w=.ok u w/\R Φ ρ z u:=by
 subst hi;obtain⟨U,n,D⟩:=Pq O;rcases h with⟨b,off,len,els,rfl,M,A,rfl⟩|⟨els,row,rfl,d,p,rfl⟩
 ·cases F with
  |sl _ _ _ a cap l C Q hn j X=>
   have L:=j (by omega);subst L;obtain⟨l',o,q,Y,Z,g4,J⟩:=T.live b _ M;rw[C]at q;injection q with q;subst q
   have s:l.k=k:=by cases J with|cells _ _ _ c e g _ _ _ _=>exact g
   refine⟨_,?_,R.ptr b (off+i) 0 l C⟩;simp only[Instr.indexAt,asIntOf,Sem.run_bind,Sem.run_pure,Result.andThen_ok,V8 E];rw[iP ⟨by omega,by omega⟩];simp only[Sem.run_bind,B8 n,Result.andThen_ok,Sem.run_pure,Int.toNat_natCast,Addr.Bd,D]
   congr 4
   rw[s,<-add_assoc,add_mul (l.sh+off) i];rfl
 cases F with
 |CA a cap _=>simp at d
 |Al _ B o G cap c f S j K g N I=>
  have A:i<els.length:=(gS.1 d).1;have r:G=k:=by rw[<-g i row d,p]
  subst r;refine⟨_,?_,R.Bc els i 0 B o G c f K g N I⟩;simp only[Instr.indexAt,asIntOf,Sem.run_bind,Sem.run_pure,Result.andThen_ok,V8 E];rw[iP ⟨by omega,by omega⟩];simp only[Sem.run_bind,B8 n,Result.andThen_ok,Sem.run_pure,Int.toNat_natCast,Addr.Bd,D];rfl
theorem Z7c{t e:TypeId}{n k i:Nat}{y z:Aa}{b:Value}{p:IntKind}(h:P.underlying t=some (.array n e))(d:J7 P e=some k)(j:R Φ ρ y v)(hi:b=.int p (i:Int))(f:i<n)
 (c:I4 (i*k) y=some z):∃u,(Instr.indexAt t v b).run P w=.ok u w/\R Φ ρ z u:=by
 subst hi;obtain⟨m,a,g⟩:=Pq d;obtain⟨B,o,rfl,l⟩:=Zw7 j c;refine⟨_,?_,l⟩;simp only[Instr.indexAt,asIntOf,Sem.run_bind,Sem.run_pure,Result.andThen_ok,V8 h,Instr.sureAddr];rw[iP ⟨by omega,by omega⟩];simp only[Sem.run_bind,B8 a,Result.andThen_ok,Sem.run_pure,Int.toNat_natCast,Addr.Bd,g]
theorem Yhr{t:TypeId}{l:List UInt8}{i:Nat}{c:UInt8}{e:Value}{h:IntKind}(f:P.underlying t=some .string)(g:R Φ ρ (.str l) v)(hi:e=.int h (i:Int))(a:l[i]?=some c) :
 (Instr.index t v e).run P w=.ok (.int .u8 c.toNat) w:=by
 subst hi;cases g with
 |str _=>
  simp only[Instr.index,asIntOf,Sem.run_bind,Sem.run_pure,Result.andThen_ok,V8 f];rw[iP (by omega)];have:(ByteArray.mk ⟨l⟩)[(i:Int).toNat]?=some c:=by
   simp only[Int.toNat_natCast];have b:=(gS.1 a).1;have d:i<(ByteArray.mk ⟨l⟩).size:=b;rw[getElem?_pos (ByteArray.mk ⟨l⟩) i d];rw[gE b]at a;injection a with a
   subst a;rfl
  rw[this];rfl
theorem Z9v{t e:TypeId}{n k i:Nat}{c:Option Nat}{cs:List Aa}{z:Aa}{d:Value}{s:IntKind}(m:P.underlying t=some (.array n e))(g:J7 P e=some k)(b:Ng P e=some c)
 (p:R Φ ρ (.agg cs) v) (hi:d=.int s (i:Int)) (j:i<n) (f:Ld cs (i*k) c=some z):∃u,(Instr.index t v d).run P w=.ok u w/\R Φ ρ z u:=by
 subst hi;obtain⟨r,a,l⟩:=Pq g;obtain⟨vs,rfl,h⟩:=dV p;obtain⟨u,o,q⟩:=uv (P:=P) (w:=w) b h f;refine⟨u,?_,q⟩;simp only[Instr.index,asIntOf,Sem.run_bind,Sem.run_pure,Result.andThen_ok,V8 m];rw[iP ⟨by omega,by omega⟩];simp only[Sem.run_bind,B8 a,Result.andThen_ok,l,Int.toNat_natCast];exact o
end
section
variable {P:Program} {s:Sem Next} {W:Aq} {Φ:Ap} {ρ:AI} {id:Nat} {w w1:World} {m m':Mem} {x:Aa} {v:Value}
theorem Wj{y:Aa}{n b:Nat}{a:BoundsCode}(h:R Φ ρ y v)(d:S6 y=some n)(c:n<=b):(Instr.sliceBound v b a).run P w=.ok n w:=by
 obtain⟨k,rfl⟩:=QD h d;simp only[Instr.sliceBound,asIntOf,Sem.run_bind,Sem.run_pure,Result.andThen_ok];rw[iP ⟨by omega,by omega⟩];simp
def HZ(Φ:Ap)(ρ:AI)(t:List Aa)(ao:Option Ah)(vo:Option Value):Prop:=
 match ao,vo with
 | none,none=>True
 | some y,some u=>R Φ ρ (ev t y) u
 | _,_=>False
theorem Ut{t:List Aa}{a:Act}(h:RL Φ ρ t a.tmps){o:Option Operand}{d:Option Ah}(b:B1 o=some d):HZ Φ ρ t d (o.map a.eval):=by
 cases o with
 |none=>
  simp only[B1,oI]at b;subst b;trivial
 |some y=>
  simp only[B1]at b;cases c:X5 y with
  |none=>simp[c]at b
  |some z=>
   simp only[c,oI]at b;subst b;exact Q1 h c
theorem UQ{t:List Aa}{len m cap l h:Nat}{lo hi:Option Ah}{g f:Option Value}{b:Bool}(e:HZ Φ ρ t lo g)(d:HZ Φ ρ t hi f)(c:F0 t len m lo hi=some (l,h))
 (r:m<=cap):(Instr.sliceBounds b len cap g f none).run P w=.ok (l,h,cap) w/\l<=h/\h<=m:=by
 unfold F0 at c;cases i:C7 t len hi with
 |none=>simp[i]at c
 |some n=>
  simp only[i]at c;split at c
  ·rename_i o;cases j:C7 t 0 lo with
   |none=>simp[j]at c
   |some l'=>
    simp only[j]at c;split at c
    ·rename_i k;simp only[oI,AT]at c;obtain⟨rfl,rfl⟩:=c;refine⟨?_,k,o⟩;have p:(f=none/\len=n) \/ ∃u,f=some u /\ ∀(a:BoundsCode),(Instr.sliceBound u cap a).run P w=.ok n w:=by
      cases hi with
      |none=>
       cases f with
       |none=>simp only[C7,oI]at i;exact .inl ⟨rfl,i⟩
       |some u=>exact d.elim
      |some y=>
       cases f with
       |none=>exact d.elim
       |some u=>exact .inr ⟨u,rfl,λa=>Wj d i (by omega)⟩
     have q:(g=none/\0=l') \/ ∃u,g=some u /\ ∀(a:BoundsCode),(Instr.sliceBound u n a).run P w=.ok l' w:=by
      cases lo with
      |none=>
       cases g with
       |none=>simp only[C7,oI]at j;exact .inl ⟨rfl,j⟩
       |some u=>exact e.elim
      |some y=>
       cases g with
       |none=>exact e.elim
       |some u=>exact .inr ⟨u,rfl,λa=>Wj e j (by omega)⟩
     rcases p with⟨rfl,rfl⟩|⟨s,rfl,p⟩<;>rcases q with⟨rfl,rfl⟩|⟨v,rfl,q⟩ <;>
      simp only[Instr.sliceBounds,Sem.run_bind,Sem.run_pure,Result.andThen_ok, *]
    cases c
  cases c
theorem XJ{t e:TypeId}{k:Nat}{a:Option Addr}{len cap l h:Nat}{g f c:Option Value}{d:Nat}(n:P.underlying t=some (.slice e))(j:J7 P e=some k)
 (i:(Instr.sliceBounds true len cap g f c).run P w=.ok (l,h,d) w) :
 (Instr.sliceAt t (.slice a len cap) g f c).run P w=.ok (.slice (if d=l then a else a.map (·.add (l*k))) (h-l) (d-l)) w:=by
 obtain⟨o,b,m⟩:=Pq j;simp only[Instr.sliceAt,Instr.slice,Sem.run_bind,V8 n,Result.andThen_ok,i,B8 b,m,Sem.run_pure]
theorem zF{els:List (List Aa)}{k:Nat}(h:(els.all λr=>r.length == k)=true)(i:Nat)(row:List Aa)(hi:els[i]?=some row):row.length=k:=by
 have:=List.all_eq_true.1 h row (mem_of_getElem? hi);simpa using this
theorem Yjr{els:List (List Aa)}{k l h len cap:Nat}{a:Option Addr}(C:R Φ ρ (.Al els) (.slice a len cap))(m:(els.all λr=>r.length == k)=true)(I:l<=h)(D:h<=els.length) :
 R Φ ρ (.Al ((els.take h).drop l)) (.slice (if cap=l then a else a.map (·.add (l*k))) (h-l) (cap-l)):=by
 by_cases p:(els.take h).drop l=[]
 ·have d:h-l=0:=by
   have:=congrArg List.length p;simp at this;omega
  rw[p,d];refine .CA _ _ λJ=>?_;rw[iN (by omega)];cases C with
  |CA a cap F=>
   obtain⟨B,o,rfl⟩:=F (by omega);exact⟨B,o+l*k,by simp only[map_some,Addr.Bd]⟩
  |Al _ B o q cap c f u n z g A v=>exact ⟨B,o+l*k,by simp only[map_some,Addr.Bd]⟩
 have E:l<h:=by
  rcases lG l h with w|w
  ·exact w
  exfalso;apply p;apply List.eq_nil_of_length_eq_zero;simp;omega
 cases C with
 |CA a cap _=>simp at D;omega
 |Al _ B o q cap c f u n z g A v=>
  have t:q=k:=by
   have e:0<els.length:=by omega
   have G:=g 0 _ (gE e);have H:=zF m 0 _ (gE e);omega
  subst t;rw[iN (by omega)];simp only[map_some,Addr.Bd];have b:∀(i:Nat) (row:List Aa),((els.take h).drop l)[i]?=some row->els[l+i]?=some row:=by
   intro i row hi;rw[getElem?_drop,getElem?_take]at hi;split at hi
   ·exact hi
   cases hi
  have d:h-l=((els.take h).drop l).length:=by simp;omega
  rw[d];refine .Al _ B (o+l*q) q (cap-l) c (λi j=>f (l+i) j) p (by simp;omega) z (λi row hi=>g _ row (b i row hi)) (λi row j y hi s=>?_) (λi row j y hi s=>v _ row j y (b i row hi) s);have:=A (l+i) row j y (b i row hi) s;refine⟨?_,this.2⟩;rw[<-this.1]
  congr 1
  rw[add_mul];omega
theorem eB{t e:TypeId}{k:Nat}{tl:List Aa}{y:Aa}{lo hi:Option Ah}{J I:Option Value}{z:Aa}{m2:Mem}(hr:Rel W Φ ρ m w)(F:P.underlying t=some (.slice e))(E:J7 P e=some k)(s:R Φ ρ y v)
 (i:HZ Φ ρ tl lo J) (g:HZ Φ ρ tl hi I)
 (h:(y=.Aj/\(∃H,F0 tl 0 0 lo hi=some H)/\z=.Aj/\m2=m)\/(y=.emp/\(∃H,F0 tl 0 0 lo hi=some H)/\z=.emp/\m2=m) \/
   (∃els l h,y=.Al els/\(els.all λr=>r.length == k)=true/\F0 tl els.length els.length lo hi=some (l,h)/\z=.Al ((els.take h).drop l)/\m2=m) \/
   (∃b off len els l h,y=.sl b off len/\m.get b=some (.cells k els)/\off+len<=els.length/\F0 tl len (els.length-off) lo hi=some (l,h)/\z=.sl b (off+l) (h-l)/\m2=m)) :
 m2=m /\ ∃u,(Instr.sliceAt t v J I none).run P w=.ok u w/\R Φ ρ z u:=by
 rcases h with⟨rfl,⟨⟨l,h⟩,n⟩,rfl,rfl⟩|⟨rfl,⟨⟨l,h⟩,n⟩,rfl,rfl⟩|⟨els,l,h,rfl,p,n,rfl,rfl⟩|⟨b,off,len,els,l,h,rfl,U,X,n,rfl,rfl⟩
 ·refine⟨rfl,?_⟩;cases s;obtain⟨j,C,D⟩:=UQ (P:=P) (w:=w) (b:=true) (cap:=0) i g n (lR _);obtain rfl:h=0:=by omega
  obtain rfl:l=0:=by omega
  exact⟨_,XJ F E j,.Aj⟩
 ·refine⟨rfl,?_⟩;cases s with
  |emp a=>
   obtain⟨j,C,D⟩:=UQ (P:=P) (w:=w) (b:=true) (cap:=0) i g n (lR _);obtain rfl:h=0:=by omega
   obtain rfl:l=0:=by omega
   exact⟨_,XJ F E j,.emp _⟩
 ·refine⟨rfl,?_⟩;have hv:∃a cap,v=.slice a els.length cap/\els.length<=cap:=by
   cases s with
   |CA a cap _=>exact ⟨_,_,rfl,Nat.zero_le _⟩
   |Al _ B o k' cap c f Z d hB q hc Ao=>exact ⟨_,_,rfl,d⟩
  obtain⟨a,cap,rfl,d⟩:=hv;obtain⟨j,C,D⟩:=UQ (P:=P) (w:=w) (b:=true) (cap:=cap) i g n d;exact⟨_,XJ F E j,Yjr s p C D⟩
 refine⟨rfl,?_⟩;cases s with
 |sl _ _ _ a cap N K V Y d O=>
  obtain⟨l',o,A,g2,g3,g4,S⟩:=hr.live b _ U;rw[K]at A;injection A with A;subst A
  cases S with
  |cells _ _ _ c e' q hn L G _=>
   have Q:els.length-off<=cap:=by omega
   obtain⟨j,C,D⟩:=UQ (P:=P) (w:=w) (b:=true) (cap:=cap) i g n Q;refine⟨_,XJ F E j,.sl b (off+l) (h-l) _ (cap-l) N K (by omega) (by omega) (λM=>?_) (by split<;>simp[O])⟩;have T:=d (by omega);subst T;rw[iN (by omega)];simp only[map_some,Addr.Bd]
   congr 2
   rw[<-add_assoc,add_mul (N.sh+off) l,q]
theorem zb(l:List UInt8)(a b:Nat):(ByteArray.mk ⟨l⟩).extract a b=⟨⟨(l.take b).drop a⟩⟩:=by
 have c:=Lib.extract_data (ByteArray.mk ⟨l⟩) a b;cases h:(ByteArray.mk ⟨l⟩).extract a b with
 |mk d=>
  rw[h]at c;have e:d.toList=(l.take b).drop a:=by rw[List.drop_take];simpa using c
  cases d;simp at e;rw[e]
theorem Yh4{t:TypeId}{tl:List Aa}{l:List UInt8}{lo hi:Option Ah}{g f:Option Value}{a b:Nat}(j:P.underlying t=some .string)(k:R Φ ρ (.str l) v)
 (d:HZ Φ ρ tl lo g) (c:HZ Φ ρ tl hi f) (i:F0 tl l.length l.length lo hi=some (a,b)) :
 ∃u,(Instr.sliceAt t v g f none).run P w=.ok u w/\R Φ ρ (.str ((l.take b).drop a)) u:=by
 cases k with
 |str _=>
  obtain⟨h,m,n⟩:=UQ (P:=P) (w:=w) (b:=false) (cap:=l.length) d c i (lR _);refine⟨_,?_,.str _⟩;have e:(ByteArray.mk ⟨l⟩).size=l.length:=rfl;simp only[Instr.sliceAt,Instr.slice,Sem.run_bind,V8 j,Result.andThen_ok,isSome_none,bF,if_false,Sem.run_pure,e,h,zb]
end
section
variable {P:Program} {s:Sem Next} {W:Aq} {Φ:Ap} {ρ:AI} {id:Nat} {w w1:World} {m m':Mem} {x:Aa} {v:Value}
theorem F5{k:IntKind}{n:Int}(h:R Φ ρ (.int k n) v):v=.int k n:=by cases h;rfl
theorem Kx{l:List UInt8}(h:R Φ ρ (.str l) v):v=.string ⟨⟨l⟩⟩:=by cases h;rfl
theorem Lh{b:Bool}(h:R Φ ρ (.bool b) v):v=.bool b:=by cases h;rfl
theorem MG(l:List UInt8):(ByteArray.mk ⟨l⟩).toList=l:=Lib.toList_data _
theorem Z9x{op:BinOp}{k:IntKind}{a b:Int}{z:Aa}{t:TypeId}(h:S5 op k a b=some z):∃u,(binOp op t (.int k a) (.int k b)).run P w=.ok u w/\R Φ ρ z u:=by
 cases op
 case add=>simp only[S5,oI]at h;subst h;exact⟨.int k _,by simp[binOp,Op.intArith],.int _ _⟩
 case sub=>simp only[S5,oI]at h;subst h;exact⟨.int k _,by simp[binOp,Op.intArith],.int _ _⟩
 case mul=>simp only[S5,oI]at h;subst h;exact⟨.int k _,by simp[binOp,Op.intArith],.int _ _⟩
 case quo=>
  simp only[S5]at h;by_cases c:b=0
  ·rw[iP c]at h;cases h
  rw[iN c]at h;injection h with h;subst h
  exact⟨.int k _,by simp[binOp,Op.intDiv,c],.int _ _⟩
 case rem=>
  simp only[S5]at h;by_cases c:b=0
  ·rw[iP c]at h;cases h
  rw[iN c]at h;injection h with h;subst h
  exact⟨.int k _,by simp[binOp,Op.intDiv,c],.int _ _⟩
 case and=>simp only[S5,oI]at h;subst h;exact⟨.int k _,by simp only[binOp,Op.intBits];simp,.int _ _⟩
 case or=>simp only[S5,oI]at h;subst h;exact⟨.int k _,by simp only[binOp,Op.intBits];simp,.int _ _⟩
 case xor=>simp only[S5,oI]at h;subst h;exact⟨.int k _,by simp only[binOp,Op.intBits];simp,.int _ _⟩
 case andNot=>simp only[S5,oI]at h;subst h;exact⟨.int k _,by simp only[binOp,Op.intBits];simp,.int _ _⟩
 case eql=>simp only[S5,oI]at h;subst h;exact⟨.bool _,by simp only[binOp,Op.intCmp];rw[iN (by simp)];rfl,.bool _⟩
 case neq=>simp only[S5,oI]at h;subst h;exact⟨.bool _,by simp only[binOp,Op.intCmp];rw[iN (by simp)];rfl,.bool _⟩
 case lss=>simp only[S5,oI]at h;subst h;exact⟨.bool _,by simp only[binOp,Op.intCmp];rw[iN (by simp)];rfl,.bool _⟩
 case leq=>simp only[S5,oI]at h;subst h;exact⟨.bool _,by simp only[binOp,Op.intCmp];rw[iN (by simp)];rfl,.bool _⟩
 case gtr=>simp only[S5,oI]at h;subst h;exact⟨.bool _,by simp only[binOp,Op.intCmp];rw[iN (by simp)];rfl,.bool _⟩
 case geq=>simp only[S5,oI]at h;subst h;exact⟨.bool _,by simp only[binOp,Op.intCmp];rw[iN (by simp)];rfl,.bool _⟩
 all_goals (simp[S5]at h)
theorem Z6w{op:BinOp}{a b:List UInt8}{z:Aa}{t:TypeId}(h:ML op a b=some z):∃u,(binOp op t (.string ⟨⟨a⟩⟩) (.string ⟨⟨b⟩⟩)).run P w=.ok u w/\R Φ ρ z u:=by
 cases op
 case add=>
  simp only[ML]at h;split at h
  ·rename_i c;injection h with h;subst h
   refine⟨.string ⟨⟨a++b⟩⟩,?_,.str _⟩;have e:(ByteArray.mk ⟨a⟩++ByteArray.mk ⟨b⟩)=ByteArray.mk ⟨a++b⟩:=by
    have:=ByteArray.mk_append_mk a b;simpa using this
   simp only[binOp];rw[run_string_add_sum (w:=w) (P:=P) _ _ (by show a.length+b.length<=_;omega),e]
  cases h
 case eql=>simp only[ML,oI]at h;subst h;exact⟨.bool _,by simp only[binOp,Op.stringOp,MG];rfl,.bool _⟩
 case neq=>simp only[ML,oI]at h;subst h;exact⟨.bool _,by simp only[binOp,Op.stringOp,MG];rfl,.bool _⟩
 case lss=>simp only[ML,oI]at h;subst h;exact⟨.bool _,by simp only[binOp,Op.stringOp,MG];rfl,.bool _⟩
 case leq=>simp only[ML,oI]at h;subst h;exact⟨.bool _,by simp only[binOp,Op.stringOp,MG];rfl,.bool _⟩
 case gtr=>simp only[ML,oI]at h;subst h;exact⟨.bool _,by simp only[binOp,Op.stringOp,MG];rfl,.bool _⟩
 case geq=>simp only[ML,oI]at h;subst h;exact⟨.bool _,by simp only[binOp,Op.stringOp,MG];rfl,.bool _⟩
 all_goals (simp[ML]at h)
theorem Ycq{t:TypeId}{k:Cv}{y z:Aa}{i j:Value}{b:Bool}(d:Nat)(a:B6 P t=some k)(h:A7 k y z=some b)(f:R Φ ρ y i)(g:R Φ ρ z j) :
 (Op.equalIn (d+1) t i j).run P w=.ok b w:=by
 unfold B6 at a;cases c:P.underlying t with
 |none=>simp[c]at a
 |some ty=>
  cases ty<;>simp only[c]at a<;>first|(cases a;done)|(injection a with a;subst a)
  all_goals (cases y<;>cases z<;>simp only[A7]at h<;>first|(cases h;done)|skip)
  ·injection h with h;subst h
   rw[Lh f,Lh g];simp[Op.equalIn,V8 c]
  ·split at h
   ·rename_i e;injection h with h;subst h;subst e
    rw[F5 f,F5 g];simp[Op.equalIn,V8 c]
   cases h
  injection h with h;subst h
  rw[Kx f,Kx g];simp only[Op.equalIn,Sem.run_bind,V8 c,Result.andThen_ok,Sem.run_pure];rw[beq_toListBytes,MG,MG]
theorem RL.at_{cs:List Aa}{vs:Array Value}(h:RL Φ ρ cs vs){i:Nat}{y:Aa}(hi:cs[i]?=some y):∃u,vs[i]?=some u/\R Φ ρ y u:=by
 have a:=(gS.1 hi).1;have b:vs[i]?=some (vs[i]'(by rw[h.1];exact a)):=getElem?_eq_getElem _;exact⟨_,b,h.2 _ _ _ hi b⟩
theorem Zv7{t:TypeId}{k:Cv}{cs:List Aa}{vs:Array Value}{i:Nat}{y:Aa}(c:B6 P t=some k)(h:RL Φ ρ cs vs)(hi:cs[i]?=some y):∃u,(part t vs i).run P w=.ok u w/\R Φ ρ y u:=by
 obtain⟨u,f,e⟩:=h.at_ hi;refine⟨u,?_,e⟩;unfold B6 at c;cases a:P.underlying t with
 |none=>simp[a]at c
 |some ty=>
  have b:=jH (w:=w) a;have d:Px ty=false:=by cases ty<;>simp[a]at c<;>rfl
  simp only[part,Sem.run_bind,b,Result.andThen_ok,d,bF,if_false,f,Sem.run_pure]
theorem xk(d:Nat){xs n:List Aa}{vx J:Array Value}(H:RL Φ ρ xs vx)(I:RL Φ ρ n J):∀(G:List Field) (i:Nat) (p:List Cv) (b:Bool),Sf P G i=some p->KW p (xs.drop i) (n.drop i)=some b ->
 (Op.eqFields (d+1) vx J G).run P w=.ok b w
 |[],i,p,b,g,e=>by
  simp only[Sf,oI]at g;subst g;have L:b=true:=by
   cases h:xs.drop i<;>cases j:n.drop i<;>simp[h,j,KW]at e
   exact e
  subst L;rfl
 |f::r,i,p,b,g,e=>by
  simp only[Sf]at g;split at g
  ·rename_i a;simp only[bA,bne_iff_ne,ne_eq,beq_iff_eq]at a;cases m:B6 P f.type with
   |none=>simp[m]at g
   |some k=>
    cases q:Sf P r (i+1)with
    |none=>simp[m,q]at g
    |some D=>
     simp only[m,q,oI]at g;subst g;cases h:xs.drop i with
     |nil=>simp[h,KW]at e
     |cons x E=>
      cases j:n.drop i with
      |nil=>simp[h,j,KW]at e
      |cons y F=>
       simp only[h,j,KW]at e;have A:xs[i]?=some x:=by
        have:=congrArg (λl=>l[0]?) h;simpa[getElem?_drop]using this
       have C:n[i]?=some y:=by
        have:=congrArg (λl=>l[0]?) j;simpa[getElem?_drop]using this
       have z:xs.drop (i+1)=E:=by
        rw[<-List.tail_drop,h];rfl
       have B:n.drop (i+1)=F:=by
        rw[<-List.tail_drop,j];rfl
       obtain⟨M,u,s⟩:=Zv7 (P:=P) (w:=w) m H A;obtain⟨N,v,t⟩:=Zv7 (P:=P) (w:=w) m I C;rw[Op.eqFields,iP a.1,a.2];cases c:A7 k x y with
       |none=>simp[c]at e
       |some K=>
        have o:=Ycq (w:=w) d m c s t;simp only[Sem.run_bind,u,v,Result.andThen_ok,o];cases K with
        |false=>
         simp only[c,oI]at e;subst e;simp
        |true=>
         simp only[c]at e;simp only[Bool.not_true,bF,if_false];exact xk d H I r (i+1) D b q (by rw[z,B];exact e)
  cases g
theorem aB{y:Aa}{b:Bool}(h:G0 .slice y=some b)(f:R Φ ρ y v):∃a n c,v=.slice a n c/\a.isNone=b:=by
 cases f<;>simp only[G0]at h<;>try (cases h;done)
 ·injection h with h;subst h;exact⟨_,_,_,rfl,rfl⟩
 ·rename_i a _ _ _ _ _ _ d;injection h with h;subst h
  refine⟨_,_,_,rfl,?_⟩;rw[<-Option.not_isSome,d];rfl
 rename_i els _ _ _ _ _ _ e _ _ _ _ _;have:els.isEmpty=false:=by cases els<;>simp_all
 simp only[this,bF,if_false,oI]at h;subst h;exact⟨_,_,_,rfl,rfl⟩
theorem aK{y:Aa}{b:Bool}(h:G0 .ptr y=some b)(c:R Φ ρ y v):∃a,v=.pointer a/\a.isNone=b:=by
 cases c<;>simp only[G0]at h<;>try (cases h;done)
 all_goals (injection h with h;subst h;exact⟨_,rfl,rfl⟩)
theorem ZK{y:Aa}{b:Bool}(h:G0 .map y=some b)(c:R Φ ρ y v):∃a,v=.map a/\a.isNone=b:=by
 cases c<;>simp only[G0]at h<;>try (cases h;done)
 all_goals (injection h with h;subst h;exact⟨_,rfl,rfl⟩)
theorem cZ{y:Aa}{b:Bool}(h:G0 .func y=some b)(a:R Φ ρ y v):(v=.nilFunc/\b=true)\/(∃f x c,v=.func f x c/\b=false):=by
 cases a<;>simp only[G0]at h<;>try (cases h;done)
 ·injection h with h;subst h;exact .inr ⟨_,_,_,rfl,rfl⟩
 injection h with h;subst h;exact .inl ⟨rfl,rfl⟩
theorem Z6h{t b:TypeId}(d:Nat)(c:P.underlying t=some (.pointer b))(a:Option Addr):(Op.equalIn (d+1) t (.pointer a) (.pointer none)).run P w=.ok a.isNone w/\(Op.equalIn (d+1) t (.pointer none) (.pointer a)).run P w=.ok a.isNone w:=by
 cases a<;>simp[Op.equalIn,V8 c]
theorem Zxn{t e:TypeId}(d:Nat)(f:P.underlying t=some (.slice e))(a:Option Addr)(n c b c':Nat):(Op.equalIn (d+1) t (.slice a n c) (.slice none b c')).run P w=.ok a.isNone w/\(Op.equalIn (d+1) t (.slice none b c') (.slice a n c)).run P w=.ok a.isNone w:=by
 cases a<;>simp[Op.equalIn,V8 f]
theorem yJ{t k b:TypeId}(d:Nat)(c:P.underlying t=some (.map k b))(a:Option Nat):(Op.equalIn (d+1) t (.map a) (.map none)).run P w=.ok a.isNone w/\(Op.equalIn (d+1) t (.map none) (.map a)).run P w=.ok a.isNone w:=by
 cases a<;>simp[Op.equalIn,V8 c]
theorem bL{t:TypeId}{a b:Array TypeId}{e:Bool}(d:Nat)(g:P.underlying t=some (.func a b e))(f:Fn)(x c:Array Value):(Op.equalIn (d+1) t .nilFunc .nilFunc).run P w=.ok true w/\(Op.equalIn (d+1) t (.func f x c) .nilFunc).run P w=.ok false w/\(Op.equalIn (d+1) t .nilFunc (.func f x c)).run P w=.ok false w:=by
 simp[Op.equalIn,V8 g]
theorem eH{e:Fv}{y z:Aa}{b:Bool}(h:JG e y z=some b):(G0 e z=some true/\G0 e y=some b)\/(G0 e y=some true/\G0 e z=some b):=by
 unfold JG at h;split at h
 ·rename_i a;exact .inl ⟨a,h⟩
 split at h
 ·rename_i a;exact .inr ⟨a,h⟩
 cases h
theorem ym{op:BinOp}{t:TypeId}{e:Fv}{y z:Aa}{u A:Value}{b:Bool}{ox oy:Operand}(a:YT P t=some e)(h:Ez e y z=some b)(o:R Φ ρ y u)(p:R Φ ρ z A) :
 (eqGuard op t ox oy u A).run P w=.ok () w/\(Op.equal t u A).run P w=.ok b w/\(∀k n,u≠.int k n)/\(∀s,u≠.string s)/\(∀k n,A≠.int k n):=by
 unfold YT at a;cases l:P.underlying t with
 |none=>simp[l]at a
 |some ty=>
  cases ty<;>simp only[l]at a<;>first|(cases a;done)|skip
  case bool=>
   injection a with a;subst a
   simp only[Ez]at h;split at h
   ·injection h with h;subst h
    rw[Lh o,Lh p];exact⟨by cases op<;>rfl,run_equal_bool w t _ _ l,by simp,by simp,by simp⟩
   cases h
  case int k=>injection a with a;subst a;simp[Ez]at h
  case string=>injection a with a;subst a;simp[Ez]at h
  case pointer el=>
   injection a with a;subst a
   rcases eH h with⟨g,i⟩|⟨g,i⟩
   ·obtain⟨r,rfl,d⟩:=aK g p;obtain⟨q,rfl,m⟩:=aK i o;obtain rfl:r=none:=by simpa using d
    subst m;exact⟨by cases op<;>rfl,(Z6h 9999 l _).1,by simp,by simp,by simp⟩
   obtain⟨r,rfl,d⟩:=aK i p;obtain⟨q,rfl,m⟩:=aK g o;obtain rfl:q=none:=by simpa using m
   subst d;exact⟨by cases op<;>rfl,(Z6h 9999 l _).2,by simp,by simp,by simp⟩
  case slice el=>
   injection a with a;subst a
   rcases eH h with⟨g,i⟩|⟨g,i⟩
   ·obtain⟨r,n2,F,rfl,d⟩:=aB g p;obtain⟨q,n1,E,rfl,m⟩:=aB i o;obtain rfl:r=none:=by simpa using d
    subst m;exact⟨by cases op<;>rfl,(Zxn 9999 l _ _ _ _ _).1,by simp,by simp,by simp⟩
   obtain⟨r,n2,F,rfl,d⟩:=aB i p;obtain⟨q,n1,E,rfl,m⟩:=aB g o;obtain rfl:q=none:=by simpa using m
   subst d;exact⟨by cases op<;>rfl,(Zxn 9999 l _ _ _ _ _).2,by simp,by simp,by simp⟩
  case map el e2=>
   injection a with a;subst a
   rcases eH h with⟨g,i⟩|⟨g,i⟩
   ·obtain⟨r,rfl,d⟩:=ZK g p;obtain⟨q,rfl,m⟩:=ZK i o;obtain rfl:r=none:=by simpa using d
    subst m;exact⟨by cases op<;>rfl,(yJ 9999 l _).1,by simp,by simp,by simp⟩
   obtain⟨r,rfl,d⟩:=ZK i p;obtain⟨q,rfl,m⟩:=ZK g o;obtain rfl:q=none:=by simpa using m
   subst d;exact⟨by cases op<;>rfl,(yJ 9999 l _).2,by simp,by simp,by simp⟩
  case func q r a3=>
   injection a with a;subst a
   rcases eH h with⟨g,i⟩|⟨g,i⟩
   ·rcases cZ g p with⟨rfl,_⟩|⟨f,x,c,rfl,B⟩
    ·rcases cZ i o with⟨rfl,rfl⟩|⟨f,x,c,rfl,rfl⟩
     ·exact⟨by cases op<;>rfl,(bL 9999 l (.func 0) #[] #[]).1,by simp,by simp,by simp⟩
     exact⟨by cases op<;>rfl,(bL 9999 l _ _ _).2.1,by simp,by simp,by simp⟩
    cases B
   rcases cZ g o with⟨rfl,_⟩|⟨f,x,c,rfl,B⟩
   ·rcases cZ i p with⟨rfl,rfl⟩|⟨f,x,c,rfl,rfl⟩
    ·exact⟨by cases op<;>rfl,(bL 9999 l (.func 0) #[] #[]).1,by simp,by simp,by simp⟩
    exact⟨by cases op<;>rfl,(bL 9999 l _ _ _).2.2,by simp,by simp,by simp⟩
   cases B
  case struct fs=>
   split at a
   ·cases a
   rename_i j;simp only[Bool.or_eq_true,not_or,Bool.not_eq_true]at j;cases C:Sf P fs.toList 0 with
   |none=>simp[C]at a
   |some H=>
    simp only[C,oI]at a;subst a;simp only[Ez]at h;split at h
    ·rename_i xs I;obtain⟨vx,rfl,G⟩:=dV o;obtain⟨u,rfl,D⟩:=dV p;refine⟨run_eqGuard_agg w op t ox oy vx u j.2,?_,by simp,by simp,by simp⟩;have v:P.fieldsOf t=fs:=by simp[Program.fieldsOf,l]
     have:=run_equalIn_struct (P:=P) w 9999 t vx u (by rw[v];exact l) j.1;rw[Op.equal,Op.maxDepth,this,v];exact xk 9998 G D fs.toList 0 H b C (by simpa using h)
    cases h
end
section
variable {P:Program} {s:Sem Next} {W:Aq} {Φ:Ap} {ρ:AI} {id:Nat} {w w1:World} {m m':Mem} {x:Aa} {v:Value}
theorem Yfj{op:UnOp}{y z:Aa}(h:Gy op y=some z)(a:R Φ ρ y v):∃u,(Op.unary op v).run P w=.ok u w/\R Φ ρ z u:=by
 unfold Gy at h;split at h
 ·injection h with h;subst h
  rw[F5 a];exact⟨.int _ _,by simp[Op.unary,Op.intArith],.int _ _⟩
 ·injection h with h;subst h
  rw[Lh a];exact⟨.bool _,by simp[Op.unary],.bool _⟩
 ·injection h with h;subst h
  rw[F5 a];exact⟨.int _ _,by simp only[Op.unary,Op.intBits];simp,.int _ _⟩
 cases h
theorem iW(place:Nat->Option (Nat×Nat)):∀(ps:List (Nat×Value)) (as:List (Nat×Nat×Aa)) (cs:List Aa) (vs:Array Value) (d:List Aa),RL Φ ρ cs vs->as.length=ps.length ->
 (∀(q:Nat) (p:Nat×Value) (a:Nat×Nat×Aa),ps[q]?=some p->as[q]?=some a->place p.1=some (a.1,a.2.1)/\R Φ ρ a.2.2 p.2)->B0 cs as=some d ->
 ∃m,Instr.fill place vs ps=some m/\RL Φ ρ d m
 |[],[],cs,vs,d,h,_,_,g=>by
  simp only[B0,oI]at g;subst g;exact⟨vs,rfl,h⟩
 |[],a::as,cs,vs,d,_,o,_,_=>by simp at o
 |p::ps,[],cs,vs,d,_,o,_,_=>by simp at o
 | (i,u)::ps,(off,size,y)::as,cs,vs,d,h,o,C,g=>by
  obtain⟨E,F⟩:=C 0 (i,u) (off,size,y) rfl rfl;simp only[B0]at g;cases w:y.cells with
  |none=>simp[w]at g
  |some J=>
   simp only[w]at g;split at g
   ·rename_i A;have b:=F.BJ w;have s:RL Φ ρ (K5 cs off J) (u.cells.zipIdx.foldl (λcs (c,j)=>cs.setIfInBounds (off+j) c) vs):=by
     have key:∀(l:List Value) (k:Nat) (vs:Array Value),(l.zipIdx k).foldl (λcs (x:Value×Nat)=>cs.setIfInBounds (off+x.2) x.1) vs=K7 vs (off+k) l:=by
      intro l;induction l with
      |nil=>intro k vs;rfl
      |cons v r I=>intro k vs;simp only[List.zipIdx_cons,List.foldl_cons,K7,I];rfl
     have e:u.cells.zipIdx.foldl (λcs (c,j)=>cs.setIfInBounds (off+j) c) vs=K7 vs off u.cells.toList:=by
      rw[<-Array.foldl_toList,Array.toList_zipIdx];exact key u.cells.toList 0 vs
     rw[e];refine⟨by rw[Ql,Zwh,h.1],λq z K t f=>?_⟩;rw[kG]at t;rw[nA]at f;simp only[length_toList,b.1,h.1]at f;split at t
     ·rename_i n;rw[iP n]at f;exact b.2 _ _ _ t (by simpa using f)
     rename_i n;rw[iN n]at f;exact h.2 _ _ _ t f
    obtain⟨m,D,B⟩:=iW place ps as _ _ d s (by simpa using o) (λq p a H G=>C (q+1) p a (by simpa using H) (by simpa using G)) g;refine⟨m,?_,B⟩;rw[Instr.fill,E];simp only;rw[iN (by simp[b.1,h.1];omega)];exact D
   cases g
theorem Zw4{α a:Type}{g:α->Sem a}{f:α->a}{w:World}:∀(l:List α),(∀x,x∈l->(g x).run P w=.ok (f x) w)->(l.mapM g).run P w=.ok (l.map f) w
 |[],_=>by simp
 |x::l,h=>by
  rw[List.mapM_cons];simp only[Sem.run_bind,h x (by simp),Result.andThen_ok,Zw4 l (λy b=>h y (by simp[b])),Sem.run_pure,List.map_cons]
theorem Z9g{α a:Type}{g:α->Sem a}{f:α->a}{w:World}(l:Array α)(h:∀x,x∈l.toList->(g x).run P w=.ok (f x) w):(l.mapM g).run P w=.ok (l.map f) w:=by
 rw[Array.mapM_eq_mapM_toList];simp only[Sem.run_map,Zw4 l.toList h,Result.andThen_ok]
 congr 1
 cases l;simp
theorem Z5s{t:List Aa}{a:Act}(s:RL Φ ρ t a.tmps)(e:List Field):∀(ps:List (Nat×Operand)) (as:List (Nat×Nat×Ah)),Su P e ps=some as ->
 as.length=ps.length /\ ∀(q:Nat) (p:Nat×Operand) (b:Nat×Nat×Ah),ps[q]?=some p->as[q]?=some b->(∃f,e[p.1]?=some f/\b.1=f.offset/\J7 P f.type=some b.2.1)/\X5 p.2=some b.2.2
 |[],as,h=>by
  simp only[Su,oI]at h;subst h;exact⟨rfl,λq p b d=>by simp at d⟩
 | (i,y)::ps,as,h=>by
  simp only[Su]at h;cases c:e[i]? with
  |none=>simp[c]at h
  |some f=>
   cases g:J7 P f.type with
   |none=>simp[c,g]at h
   |some n=>
    cases k:X5 y with
    |none=>simp[c,g,k]at h
    |some z=>
     cases m:Su P e ps with
     |none=>simp[c,g,k,m]at h
     |some l=>
      simp only[c,g,k,m,oI]at h;subst h;obtain⟨o,r⟩:=Z5s s e ps l m;refine⟨by simp[o],λq p b d j=>?_⟩;cases q with
      |zero=>
       simp only[getElem?_cons_zero,oI]at d j;subst d;subst j;exact⟨⟨f,c,rfl,g⟩,k⟩
      |succ q=>
       simp only[getElem?_cons_succ]at d j;exact r q p b d j
theorem Zzc(n:Nat):∀(ps:List (Nat×Operand)) (as:List (Nat×Nat×Ah)),RT n ps=some as ->
 as.length=ps.length /\ ∀(q:Nat) (p:Nat×Operand) (b:Nat×Nat×Ah),ps[q]?=some p->as[q]?=some b->b.1=p.1*n/\b.2.1=n/\X5 p.2=some b.2.2
 |[],as,h=>by
  simp only[RT,oI]at h;subst h;exact⟨rfl,λq p b a=>by simp at a⟩
 | (i,y)::ps,as,h=>by
  simp only[RT]at h;cases d:X5 y with
  |none=>simp[d]at h
  |some z=>
   cases f:RT n ps with
   |none=>simp[d,f]at h
   |some e=>
    simp only[d,f,oI]at h;subst h;obtain⟨g,j⟩:=Zzc n ps e f;refine⟨by simp[g],λq p b a c=>?_⟩;cases q with
    |zero=>
     simp only[getElem?_cons_zero,oI]at a c;subst a;subst c;exact⟨rfl,rfl,d⟩
    |succ q=>
     simp only[getElem?_cons_succ]at a c;exact j q p b a c
theorem Ykj{t:TypeId}{c:Array Field}{A cs:List Aa}{ps:Array (Nat×Operand)}{as:List (Nat×Nat×Ah)}{tl:List Aa}{a:Act}(D:RL Φ ρ tl a.tmps)(N:P.underlying t=some (.struct c))
 (O:Nx P t=some A) (M:Su P c.toList ps.toList=some as) (m:B0 A (as.map λp=>(p.1,p.2.1,ev tl p.2.2))=some cs) (e:∀f,f∈c.toList -> ∃i,P.info? f.type=some i) :
 ∃u,(Instr.build t (ps.map λ(i,x)=>(i,a.eval x))).run P w=.ok u w/\R Φ ρ (.agg cs) u:=by
 obtain⟨i,z,y,I,J,K,L,_⟩:=OT O Φ ρ;have F:=K.BJ L;obtain⟨j,d⟩:=Z5s D c.toList ps.toList as M;have hm:=Z9g (P:=P) (w:=w) (g:=λf:Field=>do pure (f.offset,<-sizeOf f.type)) (f:=λf:Field=>(f.offset,P.cellsOf f.type)) c (λf m=>by
  obtain⟨i,hi⟩:=e f m;simp only[Sem.run_bind,B8 hi,Result.andThen_ok,Sem.run_pure,Program.cellsOf,hi];rfl)
 obtain⟨v,G,k⟩:=iW (Φ:=Φ) (ρ:=ρ) (λq=>(c.map λf:Field=>(f.offset,P.cellsOf f.type))[q]?) (ps.map λ(i,x)=>(i,a.eval x)).toList (as.map λp=>(p.1,p.2.1,ev tl p.2.2)) A z.cells cs F
  (by simp[j]) (λq p b C B=>by
    simp only[toList_map,gM,mO]at C B;obtain⟨p0,H,rfl⟩:=C;obtain⟨b0,l,rfl⟩:=B;obtain⟨⟨f,E,n,o⟩,r⟩:=d q p0 b0 H l;obtain⟨Q,h,s⟩:=Pq o;refine⟨?_,Q1 D r⟩;simp only[getElem?_map];have:c[p0.1]?=some f:=by simpa using E
    rw[this];simp[Program.cellsOf,h,s,n]) m
 refine⟨.agg v,?_,.agg _ _ k.1 k.2⟩;simp only[Instr.build,Sem.run_bind,MC I J,Result.andThen_ok,V8 N,hm,G,Sem.run_pure]
theorem Ybj{t e:TypeId}{k n:Nat}{s cs:List Aa}{ps:Array (Nat×Operand)}{as:List (Nat×Nat×Ah)}{tl:List Aa}{a:Act}(M:RL Φ ρ tl a.tmps)(N:P.underlying t=some (.array k e))(K:J7 P e=some n)
 (O:Nx P t=some s) (L:RT n ps.toList=some as) (J:B0 s (as.map λp=>(p.1,p.2.1,ev tl p.2.2))=some cs) :
 ∃u,(Instr.build t (ps.map λ(i,x)=>(i,a.eval x))).run P w=.ok u w/\R Φ ρ (.agg cs) u:=by
 obtain⟨i,z,y,F,G,H,I,_⟩:=OT O Φ ρ;have C:=H.BJ I;obtain⟨h,d,o⟩:=Pq K;obtain⟨f,c⟩:=Zzc n ps.toList as L;obtain⟨r,D,g⟩:=iW (Φ:=Φ) (ρ:=ρ) (λq=>some (q*h.size,h.size)) (ps.map λ(i,x)=>(i,a.eval x)).toList (as.map λp=>(p.1,p.2.1,ev tl p.2.2)) s z.cells cs C
  (by simp[f]) (λq p b A v=>by
    simp only[toList_map,gM,mO]at A v;obtain⟨p0,E,rfl⟩:=A;obtain⟨b0,j,rfl⟩:=v;obtain⟨B,l,m⟩:=c q p0 b0 E j;refine⟨?_,Q1 M m⟩;simp[B,l,o]) J
 refine⟨.agg r,?_,.agg _ _ g.1 g.2⟩;simp only[Instr.build,Sem.run_bind,MC F G,Result.andThen_ok,V8 N,B8 d,D,Sem.run_pure]
end
section
variable {P:Program} {s:Sem Next} {W:Aq} {Φ:Ap} {ρ:AI} {id:Nat} {w w1:World} {m m':Mem} {x:Aa} {v:Value}
theorem Yg6{cs row:List Aa}(h:cs.length=row.length):K5 row 0 cs=cs:=by
 apply List.ext_getElem?;intro q;rw[kG];by_cases a:q<row.length
 ·rw[iP ⟨Nat.zero_le _,by omega,a⟩];rfl
 rw[iN (by omega),List.getElem?_eq_none (by omega),List.getElem?_eq_none (by omega)]
theorem mul_add_mod{i j k:Nat}(h:j<k):(i*k+j)%k=j:=by
 rw[Nat.mul_comm,Nat.mul_add_mod];exact Nat.mod_eq_of_lt h
theorem VE{f:List Aa}{d:Array Value}{k len:Nat}(h:RL Φ ρ f d)(q:f.all Aa.one=true)(o:f.length=k)(r:0<k) :
 RowsIn Φ ρ (replicate len f) 0 k ((Array.range (len*k)).map λi=>d[i%d.size]!):=by
 refine⟨λi row hi=>?_,λi row j y hi l=>?_⟩
 ·have:=mem_of_getElem? hi;rw[List.eq_of_mem_replicate this,o]
 have c:=List.eq_of_mem_replicate (mem_of_getElem? hi);subst c;have g:i<len:=by
  have:=(gS.1 hi).1;simpa using this
 have b:j<k:=by
  have:=(gS.1 l).1;omega
 obtain⟨u,n,p⟩:=h.at_ l;have m:=OU g b;refine⟨u,?_,WT p (List.all_eq_true.1 q y (mem_of_getElem? l)),p⟩;rw[zero_add,getElem?_map,Array.getElem?_range,iP m];simp only[map_some,oI];have e:(i*k+j)%d.size=j:=by rw[h.1,o];exact mul_add_mod b
 rw[e];have a:=(Array.getElem?_eq_some_iff.1 n).1;rw[getElem!_pos d j a];rw[getElem?_eq_getElem a]at n;injection n
theorem RW{t:TypeId}{k b:Nat}{z:List Aa}(h:Ja P t=some (k,b,z)):∃e i,P.underlying t=some (.slice e)/\P.info? e=some i/\i.size=k/\i.bytes=b/\Nx P e=some z/\z.length=k/\0<k:=by
 unfold Ja at h;split at h
 ·rename_i e l;cases c:J7 P e with
  |none=>simp[c]at h
  |some m=>
   cases d:nL P e with
   |none=>simp[c,d]at h
   |some b'=>
    cases j:Nx P e with
    |none=>simp[c,d,j]at h
    |some n=>
     simp only[c,d,j]at h;split at h
     ·rename_i a;simp only[oI,AT]at h;obtain⟨rfl,rfl,rfl⟩:=h;obtain⟨i,hi,g⟩:=Pq c;have f:i.bytes=b':=by simpa[nL,hi]using d
      exact⟨e,i,l,hi,g,f,j,a.1,a.2⟩
     cases h
 cases h
theorem Zy8{k:Nat}:∀(ps:List (Nat×Value)) (as:List (Nat×Aa)) (els:List (List Aa)) (c:Array Value) (b:List (List Aa)),RowsIn Φ ρ els 0 k c->c.size=els.length*k->as.length=ps.length ->
 (∀(q:Nat) (p:Nat×Value) (a:Nat×Aa),ps[q]?=some p->as[q]?=some a->p.1=a.1/\R Φ ρ a.2 p.2)->H3 k els as=some b ->
 ∃c',Instr.fill (λi=>some (i*k,k)) c ps=some c'/\RowsIn Φ ρ b 0 k c'/\c'.size=c.size/\b.length=els.length
 |[],[],els,c,b,h,_,_,_,g=>by
  simp only[H3,oI]at g;subst g;exact⟨c,rfl,h,rfl,rfl⟩
 |[],a::as,_,_,_,_,_,w,_,_=>by simp at w
 |p::ps,[],_,_,_,_,_,w,_,_=>by simp at w
 | (i,u)::ps,(N,y)::as,els,c,b,h,s,w,E,g=>by
  obtain⟨C,D⟩:=E 0 (i,u) (N,y) rfl rfl;simp only at C D;subst C;simp only[H3]at g;cases z:y.cells with
  |none=>simp[z]at g
  |some P=>
   simp only[z]at g;split at g
   ·rename_i o;obtain⟨A,t,B⟩:=o;have d:=D.BJ z;have key:∀(l:List Value) (q:Nat) (vs:Array Value),(l.zipIdx q).foldl (λcs (x:Value×Nat)=>cs.setIfInBounds (i*k+x.2) x.1) vs=K7 vs (i*k+q) l:=by
     intro l;induction l with
     |nil=>intro q vs;rfl
     |cons v r O=>intro q vs;simp only[List.zipIdx_cons,List.foldl_cons,K7,O];rfl
    have e:u.cells.zipIdx.foldl (λcs (c,j)=>cs.setIfInBounds (i*k+j) c) c=K7 c (i*k) u.cells.toList:=by
     rw[<-Array.foldl_toList,Array.toList_zipIdx];exact key u.cells.toList 0 c
    have m:els[i]?=some els[i]:=gE t;have M:=h.1 i _ m;have f:=Zzq (n:=els.length) (i:=i) (j:=0) (cs:=P) (vs:=u.cells) h (by rw[s]) (by omega) m d B (by omega);rw[Yg6 (by omega)]at f;simp only[zero_add,add_zero]at f;obtain⟨c',F,G,H,I⟩:=Zy8 ps as _ _ b f (by rw[Ql];simpa using s) (by simpa using w) (λq p a L J=>E (q+1) p a (by simpa using L) (by simpa using J)) g;refine⟨c',?_,G,by rw[H,Ql],by rw[I];simp⟩;have K:i*k+k<=c.size:=by
     rw[s];have:(i+1)*k<=els.length*k:=mul_le_mul_right k t;rw[add_mul]at this;omega
    rw[Instr.fill];simp only;rw[iN (by simp[d.1,A];omega),e];exact F
   cases g
theorem xo:∀(ps:List (Nat×Operand)) (as:List (Nat×Ah)),Sk ps=some as ->
 as.length=ps.length /\ ∀(q:Nat) (p:Nat×Operand) (b:Nat×Ah),ps[q]?=some p->as[q]?=some b->p.1=b.1/\X5 p.2=some b.2
 |[],as,h=>by
  simp only[Sk,oI]at h;subst h;exact⟨rfl,λq p b a=>by simp at a⟩
 | (i,y)::ps,as,h=>by
  simp only[Sk]at h;cases d:X5 y with
  |none=>simp[d]at h
  |some z=>
   cases f:Sk ps with
   |none=>simp[d,f]at h
   |some e=>
    simp only[d,f,oI]at h;subst h;obtain⟨g,j⟩:=xo ps e f;refine⟨by simp[g],λq p b a c=>?_⟩;cases q with
    |zero=>
     simp only[getElem?_cons_zero,oI]at a c;subst a;subst c;exact⟨rfl,d⟩
    |succ q=>
     simp only[getElem?_cons_succ]at a c;exact j q p b a c
theorem JD{els:List (List Aa)}{k:Nat}{c:Array Value}(h:RowsIn Φ ρ els 0 k c)(l:c.size=els.length*k)(g:0<k):∀u,u∈c.toList->u.oneCell'=true:=by
 intro u m;obtain⟨p,i,rfl⟩:=List.getElem_of_mem m;simp only[length_toList]at i;have hi:p / k<els.length:=by
  rw[Nat.div_lt_iff_lt_mul g];omega
 have b:els[p / k]?=some els[p / k]:=gE hi;have d:=h.1 _ _ b;have j:p%k<(els[p / k]).length:=by rw[d];exact mod_lt _ g
 obtain⟨u,a,f,_⟩:=h.2 (p / k) _ (p%k) _ b (gE j);have e:(0+p / k)*k+p%k=p:=by rw[zero_add,Nat.mul_comm];exact Nat.div_add_mod p k
 rw[e,getElem?_eq_getElem i]at a;injection a with a
 simpa[a]using f
theorem dH{k len cap:Nat}{els:List (List Aa)}{c:Array Value}{e:TypeId}(n:Rel W Φ ρ m w1)(j:ρ id=none)(g:id<m.next)(f:len<=cap)(d:els.length<=cap)
 (i:c.size=cap*k) (a:RowsIn Φ ρ els 0 k c) (b:∀v,v∈c.toList->v.oneCell'=true) (h:s.run P w=.ok (.value (.slice (some ⟨w1.heap.size,0,none⟩) len cap)) (w1.alloc (.cells c e))) :
 AJ P s W Φ ρ id w (.sl id 0 len) (m.set id (.cells k els)):=by
 refine AJ.new (l:=⟨w1.heap.size,0,k,cap⟩) h n j g rfl (BR.BU j (.cells _ _ _ _ _ rfl i (by simpa using d) a b)) ?_;exact .sl id 0 len _ cap ⟨w1.heap.size,0,k,cap⟩ AI.Bv f (by simp) (λ_=>by simp) rfl
theorem Ygf{t:TypeId}{k b len:Nat}{z:List Aa}{ps:Array (Nat×Operand)}{as:List (Nat×Ah)}{tl:List Aa}{a:Act}{els:List (List Aa)}(Z:Rel W Φ ρ m w)(ht:RL Φ ρ tl a.tmps)
 (X:ρ id=none) (C:id<m.next) (T:Ja P t=some (k,b,z)) (Y:Sk ps.toList=some as) (V:len*k<=2 ^ 24)
 (U:H3 k (replicate len z) (as.map λp=>(p.1,ev tl p.2))=some els)
 (hs:∀u w',(Instr.buildSlice t len (ps.map λ(i,x)=>(i,a.eval x))).run P w=.ok u w'->s.run P w=.ok (.value u) w'):AJ P s W Φ ρ id w (.sl id 0 len) (m.set id (.cells k els)):=by
 obtain⟨e,i,hu,hi,d,A,hz,D,j⟩:=RW T;obtain⟨i',zv,y,o,N,O,Q,S⟩:=OT hz Φ ρ;rw[hi]at o;injection o with o;subst o
 have I:=O.BJ Q;obtain⟨l,g⟩:=xo ps.toList as Y;have h:=VE (len:=len) I S D j;obtain⟨c',M,E,F,G⟩:=Zy8 (Φ:=Φ) (ρ:=ρ) (k:=k) (ps.map λ(i,x)=>(i,a.eval x)).toList (as.map λp=>(p.1,ev tl p.2)) _ _ els h (by simp) (by simp[l]) (λq p b H A=>by
  simp only[toList_map,gM,mO]at H A;obtain⟨p0,J,rfl⟩:=H;obtain⟨b0,B,rfl⟩:=A;obtain⟨K,L⟩:=g q p0 b0 J B;exact⟨K,Q1 ht L⟩) U
 refine dH (cap:=len) (c:=c') (e:=e) Z X C (lR _) (by rw[G];simp) (by rw[F];simp) E (JD E (by rw[F,G];simp) j) (hs _ _ ?_);have f:Instr.fill (λq=>some (q*i.size,i.size)) ((Array.range (len*k)).map λq=>zv.cells[q%zv.cells.size]!) (ps.map λ(i,x)=>(i,a.eval x)).toList=some c':=by rw[d];exact M
 simp only[Instr.buildSlice,Sem.run_bind,V8 hu,Result.andThen_ok,B8 hi];rw[iN (by rw[d];omega)];by_cases n:len*i.size=0
 ·rw[iP n];have v:len*k=0:=by rw[<-d];exact n
  rw[v]at f;simp only[Sem.run_bind,Sem.run_pure,Result.andThen_ok,n];have r:((Array.range 0).map λq=>(#[]:Array Value)[q%(#[]:Array Value).size]!)=(Array.range 0).map λq=>zv.cells[q%zv.cells.size]!:=by simp
  rw[r,f];rfl
 rw[iN n];simp only[Sem.run_bind,Sem.run_pure,Result.andThen_ok,MC hi N];have r:len*i.size=len*k:=by rw[d]
 rw[r,f];rfl
theorem Yel{t:TypeId}{k b l c:Nat}{z:List Aa}{G F:Value}{V U:IntKind}(Q:Rel W Φ ρ m w)(O:ρ id=none)(v:id<m.next)(M:Ja P t=some (k,b,z))
 (N:G=.int V (l:Int)) (L:F=.int U (c:Int)) (r:l<=c) (A:c<=W6) (C:b<=W6)
 (E:∀u w',(Instr.makeSlice t G F).run P w=.ok u w'->s.run P w=.ok (.value u) w'):AJ P s W Φ ρ id w (.sl id 0 l) (m.set id (.cells k (replicate c z))):=by
 obtain⟨e,i,S,hi,h,K,T,j,a⟩:=RW M;obtain⟨Y,zv,y,d,H,I,J,D⟩:=OT T Φ ρ;rw[hi]at d;injection d with d;subst d
 have B:=I.BJ J;subst N;subst L;unfold W6 at A C;refine dH (cap:=c) (c:=(Array.range (c*k)).map λq=>zv.cells[q%zv.cells.size]!) (e:=e) Q O v r (by simp) (by simp) (VE B D j a) (JD (VE B D j a) (by simp) a) (E _ _ ?_);clear E;have wl:IntKind.i64.wrap (l:Int)=l:=IntWalk.i64_in _ (by omega);have X:IntKind.i64.wrap (c:Int)=c:=IntWalk.i64_in _ (by omega);have g:b*c<=1048576*1048576:=Nat.mul_le_mul C A;have f:¬((b:Int)*(c:Int) > 2 ^ 48):=by
  have d:((b*c:Nat):Int)<=((1048576*1048576:Nat):Int):=Int.ofNat_le.2 g;rw[Int.natCast_mul]at d;omega
 simp only[Instr.makeSlice,Sem.run_bind,V8 S,Result.andThen_ok,asInt,asIntOf,Sem.run_pure,Oi hi,wl,X];rw[K];rw[iN (by
  simp only[Bool.or_eq_true,decide_eq_true_eq,not_or];exact⟨⟨⟨by omega,f⟩,by omega⟩,by omega⟩)]
 simp only[Sem.run_bind,run_askRoom,Result.andThen_ok,B8 hi,Int.toNat_natCast];by_cases n:c*i.size=0
 ·rw[iP n];have p:c*k=0:=by rw[<-h];exact n
  simp only[newRow,Sem.run_bind,run_newObj,Sem.run_pure,Result.andThen_ok,n,p];have o:((Array.range 0).map λq=>(#[]:Array Value)[q%(#[]:Array Value).size]!)=(Array.range 0).map λq=>zv.cells[q%zv.cells.size]!:=by simp
  rw[o];rfl
 rw[iN n];simp only[newRow,Sem.run_bind,run_newObj,Sem.run_pure,Result.andThen_ok,MC hi H];have o:c*i.size=c*k:=by rw[h]
 rw[o];rfl
end
section
variable {P:Program} {s:Sem Next} {W:Aq} {Φ:Ap} {ρ:AI} {id:Nat} {w w1:World} {m m':Mem} {x:Aa} {v:Value}
theorem Yc5(k:Nat)(a:Option Addr)(n c:Nat):(Builtin.firstCells k 0 (.slice a n c)).run P w=.ok #[] w:=by
 cases a with
 |none=>rfl
 |some a=>simp only[Builtin.firstCells,zero_mul];rfl
theorem Yef(k:Nat):RowsIn Φ ρ [] 0 k #[]:=⟨λi row h=>by simp at h,λi row j x h=>by simp at h⟩
theorem Pm{k:Nat}{y:Aa}{xs:List (List Aa)}(hr:Rel W Φ ρ m w)(hy:R Φ ρ y v)(d:J0 m k y=some xs)(hk:0<k) :
 ∃arr:Array Value,(Builtin.lenOf v).run P w=.ok xs.length w/\(∀q,q<=xs.length->(Builtin.firstCells k q v).run P w=.ok (arr.extract 0 (q*k)) w)/\arr.size=xs.length*k/\RowsIn Φ ρ xs 0 k arr:=by
 have g:∀(a:Option Addr) (cap:Nat),∃arr:Array Value,(Builtin.lenOf (.slice a 0 cap)).run P w=.ok ([]:List (List Aa)).length w /\
  (∀q,q<=([]:List (List Aa)).length->(Builtin.firstCells k q (.slice a 0 cap)).run P w=.ok (arr.extract 0 (q*k)) w)/\arr.size=([]:List (List Aa)).length*k/\RowsIn Φ ρ [] 0 k arr:=by
  intro a cap;refine⟨#[],rfl,λq I=>?_,by simp,Yef k⟩;obtain rfl:q=0:=by simpa using I
  rw[Yc5];simp
 cases hy with
 |str l=>
  simp only[J0]at d;split at d
  ·rename_i U;subst U;injection d with d
   subst d;refine⟨(l.map λb=>Value.int .u8 b.toNat).toArray,?_,λq I=>?_,by simp,λi row hi=>?_,λi row j y hi p=>?_⟩
   ·simp only[Builtin.lenOf,Sem.run_pure,lM];rfl
   ·simp only[Builtin.firstCells,Sem.run_pure,zb]
    congr 1
    apply Array.ext';simp[List.map_take]
   ·rw[gM]at hi;cases A:l[i]? with
    |none=>simp[A]at hi
    |some c=>simp only[A,map_some,oI]at hi;subst hi;rfl
   rw[gM]at hi;cases A:l[i]? with
   |none=>simp[A]at hi
   |some c=>
    simp only[A,map_some,oI]at hi;subst hi;have T:j=0:=by
     have:=(gS.1 p).1;simp[aL]at this;exact this
    subst T;simp only[aL,getElem?_cons_zero,oI]at p;subst p;exact⟨.int .u8 c.toNat,by simp[A],rfl,.int _ _⟩
  cases d
 |Aj=>simp only[J0,G8,oI]at d;subst d;exact g none 0
 |emp a=>simp only[J0,G8,oI]at d;subst d;exact g a 0
 |CA a cap _=>simp only[J0,G8,List.all_nil,if_true,oI]at d;subst d;exact g a cap
 |Al els B o D cap c f aa E hB z hc Ao=>
  simp only[J0,G8]at d;split at d
  ·rename_i K;injection d with d
   subst d;have t:0<els.length:=List.length_pos_iff.2 aa;have X:D=k:=by
    have e1:=z 0 _ (gE t);have e2:=zF K 0 _ (gE t);omega
   subst X;obtain⟨e,fz,Hr⟩:=hr.AX B c hB;have ac:o+els.length*D<=c.size:=by
    have s:els[els.length-1]?=some els[els.length-1]:=gE (by omega);have A:=z _ _ s;have p:D-1<(els[els.length-1]).length:=by omega
    have F:=(hc _ _ _ _ s (gE p)).1;have M:=(Array.getElem?_eq_some_iff.1 F).1;have e3:(els.length-1+1)*D=els.length*D:=by rw[Nat.sub_add_cancel t]
    rw[add_mul]at e3;omega
   refine⟨c.extract o (o+els.length*D),rfl,λq I=>?_,by simp;omega,λi row hi=>z i row hi,λi row j y hi p=>?_⟩
   ·simp only[Builtin.firstCells];have ab:q*D<=els.length*D:=mul_le_mul_right _ I;rw[nO Hr (by omega)]
    congr 1
    rw[Array.extract_extract]
    congr 1
    omega
   have Q:=(gS.1 hi).1;have H:j<D:=by
    have:=(gS.1 p).1;rw[z i row hi]at this;exact this
   have Z:=OU Q H;obtain⟨F,M⟩:=hc i row j y hi p;refine⟨f i j,?_,M,Ao i row j y hi p⟩;rw[zero_add,getElem?_extract,iP (by omega)];rw[<-F];congr 1;omega
  cases d
 |sl b off len a cap l A af hn E BE=>
  simp only[J0,G8]at d;have h:len=0->xs=[] -> ∃arr:Array Value,(Builtin.lenOf (.slice a len cap)).run P w=.ok xs.length w/\(∀q,q<=xs.length->(Builtin.firstCells k q (.slice a len cap)).run P w=.ok (arr.extract 0 (q*k)) w)/\arr.size=xs.length*k/\RowsIn Φ ρ xs 0 k arr:=by
   intro r F;subst r;subst F;exact g a cap
  cases J:m.get b with
  |none=>
   simp only[J]at d;split at d
   ·rename_i r;injection d with d
    exact h r d.symm
   cases d
  |some blk=>
   cases blk with
   |cells k2 els=>
    simp only[J]at d;split at d
    ·rename_i G;obtain⟨rfl,EC⟩:=G;injection d with d
     by_cases r:len=0
     ·subst r;exact h rfl (by rw[<-d];simp)
     have ha:=E (by omega);subst ha;obtain⟨l',ob,L,g2,g3,g4,g5⟩:=hr.live b _ J;rw[A]at L;injection L with L;subst L
     cases g5 with
     |cells _ _ _ c e V ad ae n _=>
      subst d;subst V;have C:((els.drop off).take len).length=len:=by simp;omega
      have N:(l.sh+off)*l.k+len*l.k<=c.size:=by
       rw[ad,<-add_mul];exact mul_le_mul_right _ (by omega)
      refine⟨c.extract ((l.sh+off)*l.k) ((l.sh+off)*l.k+len*l.k),by rw[C];rfl,λq I=>?_,by rw[C];simp;omega,λi row hi=>?_,λi row j y hi p=>?_⟩
      ·rw[C]at I;simp only[Builtin.firstCells];have ab:q*l.k<=len*l.k:=mul_le_mul_right _ I;rw[nO g4 (by omega)]
       congr 1
       rw[Array.extract_extract]
       congr 1
       omega
      ·rw[getElem?_take]at hi;split at hi
       ·rw[getElem?_drop]at hi;exact n.1 _ row hi
       cases hi
      rw[getElem?_take]at hi;split at hi
      ·rename_i S;rw[getElem?_drop]at hi;obtain⟨u,F,M,h3⟩:=n.2 (off+i) row j y hi p;have H:j<l.k:=by
        have:=(gS.1 p).1;rw[n.1 _ row hi]at this;omega
       have Z:=OU S H;refine⟨u,?_,M,h3⟩;have Y:len*l.k=((els.drop off).take len).length*l.k:=by rw[C]
       rw[zero_add,getElem?_extract,iP (by omega),<-F]
       congr 1
       rw[<-add_assoc l.sh,add_mul (l.sh+off) i];omega
      cases hi
    cases d
   |map es O=>
    simp only[J]at d;split at d
    ·rename_i r;injection d with d
     exact h r d.symm
    cases d
   |Cr s' pos=>
    simp only[J]at d;split at d
    ·rename_i r;injection d with d
     exact h r d.symm
    cases d
   |Ce a' b' c' d'=>
    simp only[J]at d;split at d
    ·rename_i r;injection d with d
     exact h r d.symm
    cases d
 |_=>simp[J0,G8]at d
theorem bQ{els xs:List (List Aa)}{sh k n p:Nat}{c arr:Array Value}(h:RowsIn Φ ρ els sh k c)(D:c.size=n*k)(E:p<=els.length)(C:sh+p+xs.length<=n)
 (t:RowsIn Φ ρ xs 0 k arr) (s:arr.size=xs.length*k):RowsIn Φ ρ (els.take p++xs++els.drop (p+xs.length)) sh k (K7 c ((sh+p)*k) arr.toList):=by
 have d:∀(i:Nat) (row:List Aa),(els.take p++xs++els.drop (p+xs.length))[i]?=some row->(i<p/\els[i]?=some row)\/(p<=i/\i<p+xs.length/\xs[i-p]?=some row)\/(p+xs.length<=i/\els[i]?=some row):=by
  intro i row hi;rw[getElem?_append,getElem?_append]at hi;simp only[lA,lK,Nat.min_eq_left E]at hi;split at hi
  ·rename_i b;split at hi
   ·rename_i o;rw[getElem?_take,iP o]at hi;exact .inl ⟨o,hi⟩
   rename_i o;exact .inr (.inl ⟨by omega,b,hi⟩)
  rename_i b;rw[getElem?_drop]at hi;refine .inr (.inr ⟨by omega,?_⟩);rw[<-hi];congr 1;omega
 refine⟨λi row hi=>?_,λi row j y hi m=>?_⟩
 ·rcases d i row hi with⟨_,b⟩|⟨_,_,b⟩|⟨_,b⟩
  ·exact h.1 _ _ b
  ·exact t.1 _ _ b
  exact h.1 _ _ b
 rw[nA];simp only[length_toList,s];rcases d i row hi with⟨v,b⟩|⟨v,B,b⟩|⟨v,b⟩
 ·obtain⟨u,f,g,l⟩:=h.2 i row j y b m;have e:j<k:=by
   have:=(gS.1 m).1;rw[h.1 _ row b]at this;exact this
  have r:=OU (a:=sh+i) (n:=sh+p) (by omega) e;rw[iN (by omega)];exact⟨u,f,g,l⟩
 ·obtain⟨u,f,g,l⟩:=t.2 (i-p) row j y b m;have e:j<k:=by
   have:=(gS.1 m).1;rw[t.1 _ row b]at this;exact this
  have z:(sh+i)*k=(sh+p)*k+(i-p)*k:=by rw[<-add_mul];congr 1;omega
  have r:=OU (a:=i-p) (n:=xs.length) (by omega) e;have w:(sh+p)*k+xs.length*k<=c.size:=by rw[D,<-add_mul];exact mul_le_mul_right _ C
  rw[z,iP ⟨by omega,by omega,by omega⟩];rw[zero_add]at f;refine⟨u,?_,g,l⟩;have A:(sh+p)*k+(i-p)*k+j-(sh+p)*k=(i-p)*k+j:=by omega
  rw[A];simpa using f
 obtain⟨u,f,g,l⟩:=h.2 i row j y b m;have q:(sh+p+xs.length)*k<=(sh+i)*k:=mul_le_mul_right _ (by omega);rw[add_mul (sh+p)]at q;rw[iN (by omega)];exact⟨u,f,g,l⟩
theorem vt{b:Nat}{x0 V:Af}{l l':Loc}{K:Obj}(h:Rel W Φ ρ m w)(F:m.get b=some x0)(u:ρ b=some l)(C:ρ id=none)(J:id<m.next)(d:l'.blk=l.blk)
 (hr:BR Φ (ρ.put id l') V l' K):Rel W Φ (ρ.put id l') ((m.del b).set id V) (M5 w l.blk K):=by
 have S:=AI.BU (Φ:=Φ) (l:=l') C;obtain⟨l0,o,E,O,H,P,g5⟩:=h.live b x0 F;rw[u]at E;injection E with E;subst E
 have A:l.blk<w.heap.size:=by
  rcases lG l.blk w.heap.size with I|I
  ·exact I
  rw[getElem?_eq_none I]at P;cases P
 have Z:b≠id:=by rintro rfl;rw[C]at u;cases u
 have g:∀b' k,b'≠id->ρ.put id l' b'=some k->ρ b'=some k:=λb' k s i=>by
  unfold AI.put at i;rw[iN s]at i;exact i
 refine⟨?_,?_,?_,?_,?_,h.BH⟩
 ·exact h.base.put O
 ·intro B c Q;obtain⟨e,fz,ho⟩:=h.AX B c Q;refine⟨e,fz,?_⟩;rw[Pa,iN]
  ·exact ho
  rintro⟨rfl,_⟩;rw[Q]at H;cases H
 ·intro b' y f;simp only[Mem.AB,Mem.Bx]at f;by_cases M:b'=id
  ·subst M;rw[iP rfl]at f;injection f with f
   subst f;exact⟨l',K,AI.Bv,by rw[d];exact O,by rw[d];exact H,by rw[d,Pa,iP ⟨rfl,A⟩],hr⟩
  rw[iN M]at f;by_cases G:b'=b
  ·rw[iP G]at f;cases f
  rw[iN G]at f;obtain⟨k,L,j,n,k3,k4,k5⟩:=h.live b' y f;refine⟨k,L,S.CN _ _ j,n,k3,?_,k5.ext S⟩;rw[Pa,iN]
  ·exact k4
  rintro⟨i,_⟩;exact G (h.inj b' b y x0 k l f F j u i.symm)
 ·intro D t X Y T U r a j n i;simp only[Mem.AB,Mem.Bx]at r a;by_cases v:D=id
  ·by_cases p:t=id
   ·rw[v,p]
   rw[iN p]at a;by_cases q:t=b
   ·rw[iP q]at a;cases a
   rw[iN q]at a;rw[v,AI.Bv]at j;injection j with j;subst j
   exact absurd (h.inj t b Y x0 U l a F (g _ _ p n) u (by rw[<-i,d])) q
  rw[iN v]at r;by_cases q:D=b
  ·rw[iP q]at r;cases r
  rw[iN q]at r;by_cases p:t=id
  ·rw[p,AI.Bv]at n;injection n with n;subst n
   exact absurd (h.inj D b X x0 T l r F (g _ _ v j) u (by rw[i,d])) q
  rw[iN p]at a;by_cases N:t=b
  ·rw[iP N]at a;cases a
  rw[iN N]at a;exact h.inj D t X Y T U r a (g _ _ v j) (g _ _ p n) i
 intro b' k s;by_cases z:b'=id
 ·rw[z];exact J
 exact h.fresh b' k (g _ _ z s)
end
section
variable {P:Program} {s:Sem Next} {W:Aq} {Φ:Ap} {ρ:AI} {id:Nat} {w w1:World} {m m':Mem} {x:Aa} {v:Value}
theorem s7(N:Nat):∀(r c:Nat),Builtin.growBy N r c<=max c (N+(N+768) / 4)
 |0,c=>by simp only[Builtin.growBy];omega
 |r+1,c=>by
  simp only[Builtin.growBy];split
  ·omega
  have:=s7 N r (c+(c+768) / 4);omega
theorem Zyq{a cap:Nat}(h:cap<a):Builtin.nextslicecap a cap<=2*a+768:=by
 unfold Builtin.nextslicecap;split
 ·omega
 split
 ·omega
 have:=s7 a 4 cap;omega
theorem Zza{A B:List (List Aa)}{k:Nat}{a b c:Array Value}(l:RowsIn Φ ρ A 0 k a)(q:a.size=A.length*k)(m:RowsIn Φ ρ B 0 k b)(r:b.size=B.length*k):RowsIn Φ ρ (A++B) 0 k (a++b++c):=by
 refine⟨λi row hi=>?_,λi row j y hi f=>?_⟩
 ·rw[getElem?_append]at hi;split at hi
  ·exact l.1 _ _ hi
  exact m.1 _ _ hi
 rw[getElem?_append]at hi;split at hi
 ·rename_i p;obtain⟨u,e,g,h⟩:=l.2 i row j y hi f;have d:j<k:=by
   have:=(gS.1 f).1;rw[l.1 _ row hi]at this;exact this
  have o:=OU p d;rw[zero_add]at e ⊢;refine⟨u,?_,g,h⟩;rw[Array.getElem?_append,iP (by simp;omega),Array.getElem?_append,iP (by omega)];exact e
 rename_i p;obtain⟨u,e,g,h⟩:=m.2 (i-A.length) row j y hi f;have n:=(gS.1 hi).1;have d:j<k:=by
  have:=(gS.1 f).1;rw[m.1 _ row hi]at this;exact this
 have o:=OU n d;have s:i*k=A.length*k+(i-A.length)*k:=by rw[<-add_mul];congr 1;omega
 rw[zero_add]at e ⊢;refine⟨u,?_,g,h⟩;rw[Array.getElem?_append,iP (by simp;omega),Array.getElem?_append,iN (by omega)];rw[<-e]
 congr 1
 omega
theorem mY{t e u ty:TypeId}{i:TypeInfo}{d:TypeDesc}{base:Option Addr}{len cap n:Nat}{vx:Value}{arr:Array Value}{w':World}(l:P.underlying t=some (.slice e))(hi:P.info? e=some i)(m:P.underlying u=some d)(f:∀k,d≠.int k)
 (j:(Builtin.lenOf vx).run P w=.ok n w) (h:(Builtin.firstCells i.size n vx).run P w=.ok arr w) (c:len+n<=cap)
 (b:match base with|some a=>(storeCells (a.add (len*i.size)) arr.toList).run P w=.ok () w'|none=>w'=w) :
 (Builtin.append_ #[t,u] ty #[.slice base len cap,vx]).run P w=.ok (.slice base (len+n) cap) w':=by
 have o:(match d with | .int _=>true|_=>false)=false:=by cases d<;>first|rfl|exact absurd rfl (f _)
 have g:(Builtin.append_ #[t,u] ty #[.slice base len cap,vx]).run P w=((do
  let new <-Builtin.firstCells i.size n vx
  if let some a:=base then storeCells (a.add (len*i.size)) new.toList
  pure (Value.slice base (len+n) cap):Sem Value)).run P w:=by
  unfold Builtin.append_;simp only[Sem.run_bind,getElem?_toArray,getElem?_cons_zero,getElem?_cons_succ,V8 l,Result.andThen_ok,B8 hi,V8 m];cases d<;>first|(exact absurd rfl (f _))|(simp only[Sem.run_bind,Sem.run_pure,Result.andThen_ok,bF,if_false,j,c,if_true,Bool.not_false];rfl)
 rw[g];simp only[Sem.run_bind,h,Result.andThen_ok];cases base with
 |none=>simp only at b;subst b;rfl
 |some a=>simp only at b;simp only[Sem.run_bind,b,Result.andThen_ok,Sem.run_pure]
theorem Yf3{t e u ty:TypeId}{i:TypeInfo}{d:TypeDesc}{z:Value}{base:Option Addr}{len cap n:Nat}{vx:Value}{old arr:Array Value}(y:P.underlying t=some (.slice e))(hi:P.info? e=some i)(C:i.zero=some z)(A:P.underlying u=some d)(p:∀k,d≠.int k)
 (r:(Builtin.lenOf vx).run P w=.ok n w) (s:(Builtin.firstCells i.size len (.slice base len cap)).run P w.drew=.ok old w.drew) (q:(Builtin.firstCells i.size n vx).run P w.drew=.ok arr w.drew) (g:cap<len+n) (b:len+n<=W6) (j:i.bytes<=W6) :
 ∃nc,len+n<=nc/\(Builtin.append_ #[t,u] ty #[.slice base len cap,vx]).run P w =
  .ok (.slice (some ⟨w.drew.heap.size,0,none⟩) (len+n) nc) (w.drew.alloc (.cells (old++arr++Builtin.zeroCells z.cells (nc-(len+n))) e)):=by
 have v:(Question.appendCap (len+n) cap e).forced=false:=rfl;refine⟨(Question.appendCap (len+n) cap e).cut (w.tape w.drawn (.appendCap (len+n) cap e)),by simp only[Question.cut];omega,?_⟩;generalize h:(Question.appendCap (len+n) cap e).cut (w.tape w.drawn (.appendCap (len+n) cap e))=nc;unfold W6 at b j;have l:=Zyq g;have m:Builtin.nextslicecap (len+n) cap*i.bytes<=(2*1048576+768)*1048576:=Nat.mul_le_mul (by omega) j;have c:IntKind.i64.max=9223372036854775807:=by decide
 have o:(Builtin.append_ #[t,u] ty #[.slice base len cap,vx]).run P w=((do
  let a <-choose (.appendCap (len+n) cap e)
  askRoom (a*i.bytes)
  let old <-Builtin.firstCells i.size len (.slice base len cap)
  let new <-Builtin.firstCells i.size n vx
  let f:=Builtin.zeroCells (<-zeroValue e).cells (a-(len+n))
  pure (Value.slice (some (<-newRow e (old++new++f))) (len+n) a):Sem Value)).run P w:=by
  unfold Builtin.append_;simp only[Sem.run_bind,getElem?_toArray,getElem?_cons_zero,getElem?_cons_succ,V8 y,Result.andThen_ok,B8 hi,V8 A];cases d<;>first|(exact absurd rfl (p _))|skip
  all_goals
   simp only[Sem.run_bind,Sem.run_pure,Result.andThen_ok,bF,if_false,r,Bool.not_false,if_true];rw[iN (by omega)];simp only[Sem.run_bind,Oi hi,Result.andThen_ok,c];rw[iN (by omega)];simp only[Sem.run_bind,Oi hi,Result.andThen_ok];rw[iN (by omega)];simp only[Sem.run_bind,Oi hi,Result.andThen_ok];rfl
 rw[o];simp only[Sem.run_bind,run_choose,v,bF,if_false,Result.andThen_ok,run_askRoom,h];have B:({ w with drawn:=w.drawn+1 }:World)=w.drew:=rfl;rw[B];simp only[s,q,Result.andThen_ok,MC hi C,newRow,Sem.run_bind,run_newObj,Sem.run_pure];rfl
theorem Ykh(m:Mem)(b:Nat):Mem.Sub (m.del b) m:=⟨λc x h=>by
 simp only[Mem.Bx]at h;split at h
 ·cases h
 exact h,lR _⟩
theorem we{len n nc k:Nat}{old arr z:Array Value}(c:old.size=len*k)(a:arr.size=n*k)(d:z.size=k)(b:len+n<=nc):(old++arr++Builtin.zeroCells z (nc-(len+n))).size=nc*k:=by
 simp only[size_append,Builtin.zeroCells,Array.size_map,Array.size_range,c,a,d];rw[<-add_mul,<-add_mul]
 congr 1
 omega
theorem sk{els:List (List Aa)}{sh k off len:Nat}{c:Array Value}(h:RowsIn Φ ρ els sh k c):RowsIn Φ ρ ((els.drop off).take len) (sh+off) k c:=by
 refine⟨λq row a=>?_,λq row j y a b=>?_⟩
 ·rw[getElem?_take]at a;split at a
  ·rw[getElem?_drop]at a;exact h.1 _ _ a
  cases a
 rw[getElem?_take]at a;split at a
 ·rw[getElem?_drop]at a;obtain⟨g,d,e,f⟩:=h.2 _ row j y a b;exact⟨g,by rw[<-d,add_assoc sh],e,f⟩
 cases a
theorem aA{l:Loc}{a:Option Addr}{off len cap n:Nat}{c arr:Array Value}{e':TypeId}{size:Nat}(s:w.heap[l.blk]?=some (.cells c e' (0,0)))(j:c.size=l.n*l.k)(y:l.sh+off+cap=l.n)
 (f:0<cap->a=some ⟨l.blk,(l.sh+off)*l.k,none⟩) (r:len+n<=cap) (m:size=l.k) (q:arr.size=n*l.k) (v:∀u,u∈arr.toList->u.oneCell'=true) :
 match a with
 |some a=>(storeCells (a.add (len*size)) arr.toList).run P w=.ok () (M5 w l.blk (.cells (K7 c ((l.sh+(off+len))*l.k) arr.toList) e' (0,0)))
 |none=>M5 w l.blk (.cells (K7 c ((l.sh+(off+len))*l.k) arr.toList) e' (0,0))=w:=by
 by_cases i:0<cap
 ·have h:=f i;subst h;simp only;rw[Addr.Bd,m];have t:(l.sh+off)*l.k+len*l.k=(l.sh+(off+len))*l.k:=by rw[<-add_mul];congr 1;omega
  rw[t];have g:(l.sh+(off+len))*l.k+n*l.k<=c.size:=by
   rw[j,<-add_mul];exact mul_le_mul_right _ (by omega)
  have:=lE (P:=P) (B:=l.blk) (o:=(l.sh+(off+len))*l.k) (e:=e') arr.toList 0 w c v s (by simp[q];omega);simpa using this
 have p:n=0:=by omega
 have d:arr = #[]:=by
  apply Array.eq_empty_of_size_eq_zero;rw[q,p];simp
 subst d;have b:=dS s;cases a with
 |none=>simpa[K7]using b
 |some a=>simp only[storeCells,Sem.run_pure,K7,b]
section
variable {t e u ty:TypeId} {k:Nat} {i:TypeInfo} {d:TypeDesc} {zv:Value} {vx:Value} {xs:List (List Aa)} {yx:Aa} {a:Option Addr} {bb off len cap:Nat} {l:Loc} {els:List (List Aa)}
theorem Yhw(E:Rel W Φ ρ m w)(V:P.underlying t=some (.slice e))(hi:P.info? e=some i)(X:P.underlying u=some d)(O:∀k,d≠.int k)(y:0<i.size)(Y:R Φ ρ yx vx)(A:J0 m i.size yx=some xs)
 (q:ρ bb=some l) (T:len<=cap) (G:l.sh+off+cap=l.n) (j:0<cap->a=some ⟨l.blk,(l.sh+off)*l.k,none⟩) (L:a.isSome=true) (I:m.get bb=some (.cells i.size els)) (H:off+len+xs.length<=els.length)
 (U:∀K w',(Builtin.append_ #[t,u] ty #[.slice a len cap,vx]).run P w=.ok K w'->s.run P w=.ok (.value K) w') :
 AJ P s W Φ ρ id w (.sl bb off (len+xs.length)) (m.set bb (.cells i.size (els.take (off+len)++xs++els.drop (off+len+xs.length)))):=by
 obtain⟨arr,S,Q,v,b⟩:=Pm E Y A y;have o:(Builtin.firstCells i.size xs.length vx).run P w=.ok arr w:=by
  rw[Q _ (lR _)]
  congr 1
  rw[<-v];simp
 obtain⟨l',ob,C,Z,g3,M,N⟩:=E.live bb _ I;rw[q]at C;injection C with C;subst C
 cases N with
 |cells _ _ _ c e' f h J g D=>
  have r:len+xs.length<=cap:=by omega
  rw[<-f]at v g h;have B:=aA (P:=P) (e':=e') (size:=i.size) (len:=len) M h G j r f.symm v (JD b (by rw[<-f];exact v) y);have z:=mY (P:=P) (ty:=ty) (base:=a) (len:=len) (cap:=cap) (n:=xs.length) (arr:=arr) (w':=M5 w l.blk (.cells (K7 c ((l.sh+(off+len))*l.k) arr.toList) e' (0,0))) V hi X O S o r (by
   cases a with
   |none=>exact B
   |some a=>exact B)
  rw[<-f]at b;have F:=bQ (p:=off+len) g h (by omega) (by omega) b v;refine AJ.Uj (U _ _ z) E I q (.cells _ _ _ _ _ f (by rw[Ql,h,f]) ?_ (by rw[<-f];exact F) (WJ _ _ _ D (JD b v (by omega)))) (.sl bb off (len+xs.length) a cap l q r G j L);simp only[lA,lK,length_drop];omega
theorem Yf6(L:Rel W Φ ρ m w)(K:ρ id=none)(J:id<m.next)(ht:P.underlying t=some (.slice e))(hi:P.info? e=some i)(hu:P.underlying u=some d)(Z:∀k,d≠.int k)(A:0<i.size)(hx:R Φ ρ yx vx)(E:J0 m i.size yx=some xs)
 (B:ρ bb=some l) (N:l.sh+off+cap=l.n) (o:0<cap->a=some ⟨l.blk,(l.sh+off)*l.k,none⟩) (T:a.isSome=true) (O:m.get bb=some (.cells i.size els)) (aa:els.length=off+len) (y:len+xs.length<=cap)
 (hs:∀S w',(Builtin.append_ #[t,u] ty #[.slice a len cap,vx]).run P w=.ok S w'->s.run P w=.ok (.value S) w') :
 AJ P s W Φ ρ id w (.sl id 0 (len+xs.length)) ((m.del bb).set id (.cells i.size ((els.drop off).take len++xs))):=by
 obtain⟨arr,hl,hf,z,b⟩:=Pm L hx E A;have v:(Builtin.firstCells i.size xs.length vx).run P w=.ok arr w:=by
  rw[hf _ (lR _)]
  congr 1
  rw[<-z];simp
 obtain⟨l',ob,G,g2,g3,V,X⟩:=L.live bb _ O;rw[B]at G;injection G with G;subst G
 cases X with
 |cells _ _ _ c e' f j Q g H=>
  rw[<-f]at z g j;have F:=aA (P:=P) (e':=e') (size:=i.size) (len:=len) V j N o y f.symm z (JD b (by rw[<-f];exact z) A);have C:=mY (P:=P) (ty:=ty) (base:=a) (len:=len) (cap:=cap) (n:=xs.length) (arr:=arr) (w':=M5 w l.blk (.cells (K7 c ((l.sh+(off+len))*l.k) arr.toList) e' (0,0))) ht hi hu Z hl v y (by
   cases a with
   |none=>exact F
   |some a=>exact F)
  rw[<-f]at b;have r:=sk (off:=off) (len:=len) g;have h:((els.drop off).take len).length=len:=by simp;omega
  generalize (els.drop off).take len=M at r h ⊢;have D:=bQ (p:=len) (n:=l.n) r j (by omega) (by omega) b z;have U:M.take len++xs++M.drop (len+xs.length)=M++xs:=by
   rw[tL (by omega),List.drop_eq_nil_of_le (by omega),List.append_nil]
  rw[U,add_assoc l.sh]at D;refine⟨_,_,Φ,ρ.put id ⟨l.blk,l.sh+off,l.k,l.n⟩,.inl (hs _ _ C),AI.BU K,λq hq Y=>by unfold AI.put;rw[iN hq];exact Y,
   vt L O B K J rfl (BR.BU K (.cells _ _ _ _ _ f (by rw[Ql,j,f]) (by simp only[lA,h];omega) (by rw[<-f];exact D) (WJ _ _ _ H (JD b z (by omega))))),?_⟩
  refine .sl id 0 (len+xs.length) a cap ⟨l.blk,l.sh+off,l.k,l.n⟩ AI.Bv y (by simpa using N) (λI=>?_) T;rw[o I];rfl
theorem kR{a:Array Value}{k n:Nat}(h:∀v,v∈a.toList->v.oneCell'=true)(e:a.size=k)(d:0<k):∀v,v∈(Builtin.zeroCells a n).toList->v.oneCell'=true:=by
 intro v c;simp only[Builtin.zeroCells,toList_map,mM]at c;obtain⟨q,_,rfl⟩:=c;have b:q%a.size<a.size:=mod_lt _ (by omega);rw[getElem!_pos a _ b];exact h _ (by simp)
theorem nS(D:Rel W Φ ρ m w)(U:ρ id=none)(G:id<m.next)(Y:P.underlying t=some (.slice e))(hi:P.info? e=some i)(hz:i.zero=some zv)(C:zv.cells.size=i.size)(N:∀v,v∈zv.cells.toList->v.oneCell'=true)(j:P.underlying u=some d)(Q:∀k,d≠.int k)(f:0<i.size)(K:R Φ ρ yx vx)(o:J0 m i.size yx=some xs)
 {M:Aa}{h:List (List Aa)}{m0:Mem}(Z:R Φ ρ M (.slice a len cap)) (A:J0 m i.size M=some h) (E:h.length=len) (p:Mem.Sub m0 m) (H:cap<len+xs.length) (r:len+xs.length<=W6) (O:i.bytes<=W6)
 (X:∀L w',(Builtin.append_ #[t,u] ty #[.slice a len cap,vx]).run P w=.ok L w'->s.run P w=.ok (.value L) w') :
 AJ P s W Φ ρ id w (.sl id 0 (len+xs.length)) (m0.set id (.cells i.size (h++xs))):=by
 obtain⟨arr,S,hf,CZ,J⟩:=Pm D K o f;obtain⟨y,T,F,b,c⟩:=Pm D.drew K o f;obtain⟨old,V,I,n,z⟩:=Pm D.drew Z A f;have l:(Builtin.firstCells i.size xs.length vx).run P w.drew=.ok y w.drew:=by
  rw[F _ (lR _)]
  congr 1
  rw[<-b];simp
 have q:(Builtin.firstCells i.size len (.slice a len cap)).run P w.drew=.ok old w.drew:=by
  rw[I len (by omega)]
  congr 1
  have:old.size=len*i.size:=by rw[n,E]
  rw[<-this];simp
 obtain⟨nc,g,B⟩:=Yf3 (P:=P) (ty:=ty) (base:=a) (len:=len) (cap:=cap) (old:=old) Y hi hz j Q S q l H r O;refine dH (cap:=nc) (w1:=w.drew) (D.drew.sub p) U (Nat.lt_of_lt_of_le G p.next) g (by simp only[lA,E];exact g) ?_ ?_ ?_ (X _ _ B)
 ·exact we (by rw[n,E]) b C g
 ·exact Zza z n c b
 intro u j;simp only[Array.toList_append,mem_append]at j;rcases j with(j|j)|j
 ·exact JD z n f u j
 ·exact JD c b f u j
 exact kR N C f u j
end
theorem Ydu{t u ty:TypeId}{k b:Nat}{z:List Aa}{d:TypeDesc}{ys:Aa}{vs vx:Value}{xs:List (List Aa)}{yx:Aa}{r:Aa×Mem}(D:Rel W Φ ρ m w)(Z:ρ id=none)(C:id<m.next)
 (he:Ja P t=some (k,b,z)) (L:P.underlying u=some d) (F:∀k,d≠.int k) (hy:R Φ ρ ys vs) (M:R Φ ρ yx vx) (g:J0 m k yx=some xs) (c:D5 id k b m ys xs=some r)
 (I:∀u' w',(Builtin.append_ #[t,u] ty #[vs,vx]).run P w=.ok u' w'->s.run P w=.ok (.value u') w'):AJ P s W Φ ρ id w r.1 r.2:=by
 obtain⟨e,i,K,hi,J,hb,hz,ad,n⟩:=RW he;obtain⟨i',zv,y,O,h2,h3,h4,h5⟩:=OT hz Φ ρ;rw[hi]at O;injection O with O;subst O
 have FN:=h3.BJ h4;have p:zv.cells.size=i.size:=by rw[FN.1,ad,J]
 have EN:=aV FN h5;subst J;subst hb;have f:∀(a:Option Addr) (S:Aa),R Φ ρ S (.slice a 0 0)->J0 m i.size S=some []->(xs=[]/\r=(S,m))\/(xs≠[]/\xs.length<=W6/\i.bytes<=W6/\r=(.sl id 0 xs.length,m.set id (.cells i.size xs)))->vs=.slice a 0 0->AJ P s W Φ ρ id w r.1 r.2:=by
  rintro a S N ac (⟨rfl,rfl⟩|⟨aa,h,HP,rfl⟩) rfl
  ·obtain⟨arr,hl,hf,CZ,ab⟩:=Pm D M g n;have q:arr = #[]:=by
    apply Array.eq_empty_of_size_eq_zero;simpa using CZ
   subst q;have A:=hf 0 (lR _);have:=mY (P:=P) (ty:=ty) (base:=a) (len:=0) (cap:=0) (arr:=#[]) (w':=w) K hi L F hl (by simpa using A) (by simp) (by cases a<;>rfl);exact AJ.val (I _ _ this) D N
  have ae:0<xs.length:=List.length_pos_iff.2 aa;have:=nS (id:=id) (ty:=ty) D Z C K hi h2 p EN L F n M g N ac rfl (Mem.Sub.refl m) (by omega) (by omega) HP I;simpa using this
 cases hy with
 |Aj=>
  refine f none .Aj .Aj rfl ?_ rfl;simp only[D5]at c;split at c
  ·injection c with c;exact .inl ⟨‹_›,c.symm⟩
  split at c
  ·rename_i X E;injection c with c;exact .inr ⟨X,E.1,E.2,c.symm⟩
  cases c
 |emp a=>
  refine f a .emp (.emp a) rfl ?_ rfl;simp only[D5]at c;split at c
  ·injection c with c;exact .inl ⟨‹_›,c.symm⟩
  split at c
  ·rename_i X E;injection c with c;exact .inr ⟨X,E.1,E.2,c.symm⟩
  cases c
 |sl bb off len a cap l B H U j T=>
  simp only[D5]at c;cases o:m.get bb with
  |none=>simp[o]at c
  |some blk=>
   cases blk with
   |cells k2 els=>
    simp only[o]at c;split at c
    ·rename_i v;obtain⟨rfl,EC,af⟩:=v;split at c
     ·rename_i G;injection c with c
      subst c;exact Yhw D K hi L F n M g B H U j T o G I
     rename_i Q;split at c
     ·rename_i h;injection c with c
      subst c;by_cases Y:len+xs.length<=cap
      ·exact Yf6 D Z C K hi L F n M g B U j T o (by omega) Y I
      exact nS D Z C K hi h2 p EN L F n M g (.sl bb off len a cap l B H U j T) (by
       show G8 m i.size (.sl bb off len)=some ((els.drop off).take len);simp[G8,o,EC]) (by simp;omega) (Ykh m bb) (by omega) h.1 h.2 I
     cases c
    cases c
   |map es V=>simp[o]at c
   |Cr s' pos=>simp[o]at c
   |Ce a' b' c' d'=>simp[o]at c
 |_=>simp[D5]at c
end
section
variable {P:Program} {s:Sem Next} {W:Aq} {Φ:Ap} {ρ:AI} {id:Nat} {w w1:World} {m m':Mem} {x:Aa} {v:Value}
theorem Yee{t ty:TypeId}{k:Nat}{b:Nat}{z:List Aa}{u:TypeId}{vd vs:Value}{xs:List (List Aa)}{yx:Aa}{bb off len:Nat}{els:List (List Aa)}(T:Rel W Φ ρ m w)
 (he:Ja P t=some (k,b,z)) (hy:R Φ ρ (.sl bb off len) vd) (hx:R Φ ρ yx vs) (J:J0 m k yx=some xs) (V:m.get bb=some (.cells k els)) (EC:off+len<=els.length)
 (hs:∀u' w',(Builtin.copy_ #[t,u] ty #[vd,vs]).run P w=.ok u' w'->s.run P w=.ok (.value u') w') :
 AJ P s W Φ ρ id w (.int .i64 (min xs.length len:Nat)) (m.set bb (.cells k (els.take off++xs.take (min xs.length len)++els.drop (off+min xs.length len)))):=by
 obtain⟨e,i,ht,hi,U,hb,hz,ad,C⟩:=RW he;subst U;obtain⟨arr,hl,hf,CZ,h⟩:=Pm T hx J C;cases hy with
 |sl _ _ _ a cap l E aa FM D BE=>
  obtain⟨l',ob,L,g2,g3,g4,g5⟩:=T.live bb _ V;rw[E]at L;injection L with L;subst L
  cases g5 with
  |cells _ _ _ c e' g A Z o M=>
   obtain⟨n,hn⟩:∃n,min xs.length len=n:=⟨_,rfl⟩;rw[hn];obtain⟨K,ac⟩:n<=xs.length/\n<=len:=by omega
   have O:=hf n K;have d:(arr.extract 0 (n*i.size)).size=(xs.take n).length*i.size:=by
    have:n*i.size<=xs.length*i.size:=mul_le_mul_right _ K;simp only[Array.size_extract,CZ,lK];rw[Nat.min_eq_left K];omega
   have f:RowsIn Φ ρ (xs.take n) 0 i.size (arr.extract 0 (n*i.size)):=by
    refine⟨λq row v=>?_,λq row j y v X=>?_⟩
    ·rw[getElem?_take]at v;split at v
     ·exact h.1 _ _ v
     cases v
    rw[getElem?_take]at v;split at v
    ·rename_i S;obtain⟨uu,k1,k2,k3⟩:=h.2 _ row j y v X;have Q:j<i.size:=by
      have:=(gS.1 X).1;rw[h.1 _ row v]at this;exact this
     have ab:=OU S Q;have Y:n*i.size<=xs.length*i.size:=mul_le_mul_right _ K;refine⟨uu,?_,k2,k3⟩;rw[zero_add]at k1 ⊢;rw[getElem?_extract,iP (by omega),<-k1]
     congr 1;omega
    cases v
   have B:(xs.take n).length=n:=by simp;omega
   have r:=aA (P:=P) (a:=a) (len:=0) (cap:=cap) (n:=n) (off:=off) (e':=e') (size:=i.size) g4 (by rw[A,g]) FM D (by omega) g.symm (by rw[d,B,g]) (JD f d C);simp only[add_zero,zero_mul]at r;have H:(Builtin.copy_ #[t,u] ty #[.slice a len cap,vs]).run P w=.ok (.int .i64 (n:Nat)) (M5 w l.blk (.cells (K7 c ((l.sh+off)*l.k) (arr.extract 0 (n*i.size)).toList) e' (0,0))):=by
    unfold Builtin.copy_;simp only[Sem.run_bind,getElem?_toArray,getElem?_cons_zero,getElem?_cons_succ,V8 ht,Result.andThen_ok,B8 hi];rw[hl];have F:Nat.min xs.length len=n:=hn;simp only[Sem.run_bind,Result.andThen_ok,F,O];cases a with
    |none=>simp only at r;rw[r];rfl
    |some a=>
     have N:a.add 0=a:=by simp[Addr.add]
     simp only at r;rw[N]at r;simp only[Sem.run_bind,r,Result.andThen_ok];rfl
   have G:=JD f d C;rw[<-g]at f d o A;have I:=bQ (p:=off) o A (by omega) (by omega) f d;rw[B,g]at I;refine AJ.Uj (hs _ _ H) T V E (.cells _ _ _ _ _ g (by rw[Ql,A,g]) ?_ (by rw[g];exact I) (WJ _ _ _ M G)) (.int _ _);simp only[lA,lK,length_drop];omega
theorem iC{t ty:TypeId}{k b:Nat}{z:List Aa}{vx:Value}{yx:Aa}{r:Mem}(N:Rel W Φ ρ m w)(he:Ja P t=some (k,b,z))(Q:R Φ ρ yx vx)
 (h:(∃bb off len els,yx=.sl bb off len/\m.get bb=some (.cells k els)/\off+len<=els.length/\r=m.set bb (.cells k (els.take off++replicate len z++els.drop (off+len))))\/((yx=.Aj\/yx=.emp)/\r=m))
 (Z:∀u' w',(Builtin.clear_ #[t] ty #[vx]).run P w=.ok u' w'->s.run P w=.ok (.value u') w'):AJ P s W Φ ρ id w Ai r:=by
 obtain⟨e,i,ht,hi,O,hb,hz,I,B⟩:=RW he;subst O;obtain⟨i',zv,y,K,h2,h3,h4,h5⟩:=OT hz Φ ρ;rw[hi]at K;injection K with K;subst K
 have U:=h3.BJ h4;rcases h with⟨bb,off,len,els,rfl,X,EC,rfl⟩|⟨S,rfl⟩
 ·cases Q with
  |sl _ _ _ a cap l F aa FM D BE=>
   obtain⟨l',ob,J,g2,g3,V,g5⟩:=N.live bb _ X;rw[F]at J;injection J with J;subst J
   cases g5 with
   |cells _ _ _ c e' g A Y o L=>
    have T:zv.cells.size=i.size:=by rw[U.1,I]
    have d:=VE (len:=len) U h5 I B;have f:((Array.range (len*i.size)).map λq=>zv.cells[q%zv.cells.size]!).size=(replicate len z).length*i.size:=by simp
    have C:Builtin.zeroCells zv.cells len=(Array.range (len*i.size)).map λq=>zv.cells[q%zv.cells.size]!:=by simp only[Builtin.zeroCells,T]
    have j:=aA (P:=P) (a:=a) (len:=0) (cap:=cap) (n:=len) (off:=off) (e':=e') (size:=i.size) V (by rw[A,g]) FM D (by omega) g.symm (by rw[f,g];simp) (JD d f B);simp only[add_zero,zero_mul]at j;have G:=JD d f B;rw[<-g]at d f o A;have H:=bQ (p:=off) o A (by omega) (by simp;omega) d f;rw[List.length_replicate]at H;have u:(Builtin.clear_ #[t] ty #[.slice a len cap]).run P w=.ok (.tuple #[]) (M5 w l.blk (.cells (K7 c ((l.sh+off)*l.k) ((Array.range (len*i.size)).map λq=>zv.cells[q%zv.cells.size]!).toList) e' (0,0))):=by
     unfold Builtin.clear_;simp only[Sem.run_bind,getElem?_toArray,getElem?_cons_zero,V8 ht,Result.andThen_ok];cases a with
     |none=>simp only at j;rw[j];rfl
     |some a=>
      have M:a.add 0=a:=by simp[Addr.add]
      simp only at j;rw[M]at j;cases len with
      |zero=>
       have e0:((Array.range (0*i.size)).map λq=>zv.cells[q%zv.cells.size]!) = #[]:=by simp
       rw[e0]at j ⊢;simp only[K7,dS V];rfl
      |succ n=>
       simp only[Sem.run_bind,MC hi h2,Result.andThen_ok,C,j];rfl
    have E:AJ P s W Φ ρ id w Ai (m.set bb (.cells i.size (els.take off++replicate len z++els.drop (off+len)))):=by
     refine AJ.Uj (v:=.tuple #[]) (Z _ _ u) N X F (.cells _ _ _ _ _ g (by rw[Ql,A,g]) ?_ (by rw[<-g];exact H) (WJ _ _ _ L G)) (MI _ _);simp only[lA,lK,length_drop,List.length_replicate];omega
    exact E
 have u:(Builtin.clear_ #[t] ty #[vx]).run P w=.ok (.tuple #[]) w:=by
  unfold Builtin.clear_;simp only[Sem.run_bind,getElem?_toArray,getElem?_cons_zero,V8 ht,Result.andThen_ok];rcases S with rfl|rfl
  ·cases Q;rfl
  cases Q with
  |emp a=>cases a<;>rfl
 exact AJ.val (Z _ _ u) N (MI _ _)
def Jx(Φ:Ap)(ρ:AI)(es:List (Aa×Aa×Nat))(en:List MapEntry):Prop:=
 en.length=es.length ∧ ∀(i:Nat) (x:Aa×Aa×Nat),es[i]? = some x → ∃ y:MapEntry,en[i]? = some y∧R Φ ρ x.1 y.key∧R Φ ρ x.2.1 y.val∧y.born=x.2.2
theorem Jx.tail{x:Aa×Aa×Nat}{y:MapEntry}{a:List (Aa×Aa×Nat)}{en:List MapEntry}(h:Jx Φ ρ (x::a) (y::en)):Jx Φ ρ a en:=
 ⟨by simpa using h.1,λi z b=>by simpa using h.2 (i+1) z (by simpa using b)⟩
theorem Yd7{g:Cv}{key:TypeId}{d:TypeDesc}{y z:Aa}{i j:Value}{b:Bool}(k:P.underlying key=some d)(a:B6 P key=some g)(e:R Φ ρ y i)(f:R Φ ρ z j)(h:A7 g y z=some b):Instr.sameNow d i j=some b:=by
 unfold B6 at a;rw[k]at a;cases d<;>simp only at a<;>first|(cases a;done)|(injection a with a;subst a)
 all_goals (cases y<;>cases z<;>simp only[A7]at h<;>first|(cases h;done)|skip)
 ·injection h with h;subst h
  rw[Lh e,Lh f];rfl
 ·split at h
  ·rename_i c;injection h with h;subst h;subst c
   rw[F5 e,F5 f];simp[Instr.sameNow]
  cases h
 injection h with h;subst h
 rw[Kx e,Kx f];simp only[Instr.sameNow];rw[beq_toListBytes,MG,MG]
theorem ZY{k:Cv}{key:TypeId}{d:TypeDesc}{y:Aa}{t:Value}(w:P.underlying key=some d)(v:B6 P key=some k)(A:R Φ ρ y t):∀(f:List (Aa×Aa×Nat)) (en:List MapEntry) (r:Option (Nat×Aa×Nat)) (q:Nat),Jx Φ ρ f en ->
 D1 k y f=some r->(r=none/\Instr.findNow d t en q=some none)\/(∃i z born e,r=some (i,z,born)/\en[i]?=some e/\(∃m,f[i]?=some (m,z,born)/\A7 k y m=some true)/\Instr.findNow d t en q=some (some (q+i,e.val)))
 |[],[],r,q,_,c=>by
  simp only[D1,oI]at c;exact .inl ⟨c.symm,rfl⟩
 |[],e::en,r,q,h,_=>by have:=h.1;simp at this
 |x::f,[],r,q,h,_=>by have:=h.1;simp at this
 | (s,B,b0)::f,e::en,r,q,h,c=>by
  obtain⟨e',u,D,F,G⟩:=h.2 0 (s,B,b0) rfl;simp only[getElem?_cons_zero,oI]at u;subst u;simp only[D1]at c;cases a:A7 k y s with
  |none=>simp[a]at c
  |some b=>
   have j:=Yd7 w v A D a;cases b with
   |true=>
    simp only[a,oI]at c;refine .inr ⟨0,B,b0,e,c.symm,rfl,⟨s,rfl,a⟩,?_⟩;simp only[Instr.findNow,j];rfl
   |false=>
    simp only[a]at c;cases l:D1 k y f with
    |none=>simp[l]at c
    |some E=>
     rcases ZY w v A f en E (q+1) h.tail l with⟨rfl,g⟩|⟨i,z,born,C,rfl,n,⟨m,o,p⟩,g⟩
     ·simp only[l,oI]at c;exact .inl ⟨c.symm,by simp only[Instr.findNow,j,g]⟩
     simp only[l,oI]at c;refine .inr ⟨i+1,z,born,C,c.symm,by simpa using n,⟨m,by simpa using o,p⟩,?_⟩;simp only[Instr.findNow,j,g]
     congr 3
     omega
theorem dI{g:Cv}{key:TypeId}{y:Aa}{f:Value}(b:Bool)(a:B6 P key=some g):(Instr.checkKey b 10000 key f).run P w=.ok () w:=by
 have e:∀n,(Instr.checkKey b (n+1) key f).run P w=.ok () w:=by
  intro n;unfold B6 at a;cases c:P.underlying key with
  |none=>simp[c]at a
  |some d=>
   cases d<;>simp only[c]at a<;>first|(cases a;done)|(simp only[Instr.checkKey,Sem.run_bind,V8 c,Result.andThen_ok];rfl)
 exact e 9999
theorem Zzd{a:List (Aa×Aa×Nat)}{en:Array MapEntry}(c:en.size=a.length)(b:∀(i:Nat) (x:Aa×Aa×Nat),a[i]?=some x -> ∃y:MapEntry,en[i]?=some y/\R Φ ρ x.1 y.key/\R Φ ρ x.2.1 y.val/\y.born=x.2.2):Jx Φ ρ a en.toList:=
 ⟨by simpa using c,λi x d=>by simpa using b i x d⟩
theorem Z7v{t key e:TypeId}{U:Cv}{zero:Aa}{y J:Aa}{s:Value}{A:List (Aa×Aa×Nat)}{r:Option (Nat×Aa×Nat)}{ok:Bool}(hr:Rel W Φ ρ m w)(S:P.underlying t=some (.map key e))(I:B6 P key=some U)(D:Wc P e=some zero)
 (T:R Φ ρ y v) (X:R Φ ρ J s) (hm:(y=.AF/\A=[])\/(∃b c,y=.map b/\m.get b=some (.map A c))) (hf:D1 U J A=some r) :
 ∃u,(Instr.lookup t v s ok).run P w=.ok u w/\R Φ ρ (if ok then .tuple [match r with|some (_,z,_)=>z|none=>zero,.bool r.isSome]else match r with|some (_,z,_)=>z|none=>zero) u:=by
 have p:∃i zv,P.info? e=some i/\i.zero=some zv/\R Φ ρ zero zv:=by
  unfold Wc at D;cases hi:P.info? e with
  |none=>simp[hi]at D
  |some i=>
   cases f:i.zero with
   |none=>simp[hi,f]at D
   |some zv=>simp only[hi,f]at D;exact⟨i,zv,rfl,f,qM Φ ρ D⟩
 obtain⟨i,zv,hi,f,E⟩:=p;cases g:P.underlying key with
 |none=>simp[B6,g]at I
 |some d=>
  have j:∀(en:Array MapEntry),Jx Φ ρ A en.toList -> ∃u,(do
   Instr.checkKey en.isEmpty 10000 key s
   let (v,ok') <-match <-Instr.findKey key s en.toList with
    |some (_,v)=>pure (v,true)
    |none=>pure (<-zeroValue e,false)
   pure (if ok then Value.tuple #[v,.bool ok']else v):Sem Value).run P w=.ok u w/\R Φ ρ (if ok then .tuple [match r with|some (_,z,_)=>z|none=>zero,.bool r.isSome]else match r with|some (_,z,_)=>z|none=>zero) u:=by
   intro en B;have F:∀(a b:Aa) (N O:Value),R Φ ρ a N->R Φ ρ b O->R Φ ρ (.tuple [a,b]) (.tuple #[N,O]):=λa b N O ha hb=>.tuple _ _ rfl λi x u o g=>by
    cases i with
    |zero=>simp at o g;subst o;subst g;exact ha
    |succ i=>
     cases i with
     |zero=>simp at o g;subst o;subst g;exact hb
     |succ i=>simp at o
   rcases ZY g I X A en.toList r 0 B hf with⟨rfl,n⟩|⟨q,z,born,Y,rfl,L,⟨kk,M,_⟩,n⟩
   ·have k:(Instr.findKey key s en.toList).run P w=.ok none w:=by
     simp only[Instr.findKey,Sem.run_bind,V8 g,Result.andThen_ok,n,Sem.run_pure]
    simp only[Sem.run_bind,dI (y:=J) _ I,Result.andThen_ok,k,MC hi f,Sem.run_pure];cases ok
    ·exact⟨_,rfl,E⟩
    exact⟨_,rfl,F _ _ _ _ E (.bool _)⟩
   have k:(Instr.findKey key s en.toList).run P w=.ok (some (0+q,Y.val)) w:=by
    simp only[Instr.findKey,Sem.run_bind,V8 g,Result.andThen_ok,n,Sem.run_pure]
   obtain⟨e3,h,H,Q,h4⟩:=B.2 q _ M;rw[L]at h;injection h with h;subst h
   simp only[Sem.run_bind,dI (y:=J) _ I,Result.andThen_ok,k,Sem.run_pure];cases ok
   ·exact⟨_,rfl,Q⟩
   exact⟨_,rfl,F _ _ _ _ Q (.bool _)⟩
  rcases hm with⟨rfl,rfl⟩|⟨b,c,rfl,hg⟩
  ·cases T;obtain⟨u,h,H⟩:=j #[] ⟨rfl,λi x o=>by simp at o⟩;exact⟨u,Eq.trans (by simp only[Instr.lookup,Sem.run_bind,V8 S,Result.andThen_ok,Sem.run_pure];rfl) h,H⟩
  cases T with
  |map _ l hl=>
   obtain⟨l',ob,G,g2,g3,Z,g5⟩:=hr.live b _ hg;rw[hl]at G;injection G with G;subst G
   cases g5 with
   |map _ K _ en hs V=>
    obtain⟨u,h,H⟩:=j en (Zzd hs V);refine⟨u,?_,H⟩;have C:(getObj l.blk).run P w=.ok (.map en c) w:=by simp only[getObj,Sem.run,Z]
    exact Eq.trans (by simp only[Instr.lookup,Sem.run_bind,V8 S,Result.andThen_ok,Sem.run_pure,C];rfl) h
end
section
variable {P:Program} {s:Sem Next} {W:Aq} {Φ:Ap} {ρ:AI} {id:Nat} {w w1:World} {m m':Mem} {x:Aa} {v:Value}
theorem Ydl{c:Cv}{y z:Aa}{d e:Value}(a:R Φ ρ y d)(b:R Φ ρ z e)(h:A7 c y z=some true):Instr.sameBits 10000 e d=true:=by
 cases c<;>cases y<;>cases z<;>simp only[A7]at h<;>first|(cases h;done)|skip
 ·split at h
  ·rename_i f;subst f;simp only[oI,beq_iff_eq]at h;subst h;rw[F5 a,F5 b];simp[Instr.sameBits]
  cases h
 ·simp only[oI,beq_iff_eq]at h;subst h;rw[Kx a,Kx b];simp only[Instr.sameBits];rw[beq_toListBytes];simp
 simp only[oI,beq_iff_eq]at h;subst h;rw[Lh a,Lh b];simp[Instr.sameBits]
theorem Yk7{B:Nat}{o a:Obj}(h:w.heap[B]?=some o)(b:∀c e f,o≠.cells c e f):(setObj B a).run P w=.ok () (M5 w B a):=by
 simp only[setObj,Sem.run,h];cases o<;>first|(exact absurd rfl (b _ _ _))|rfl
theorem zn{t key e:TypeId}{kt:Cv}{b:Nat}{F yv:Aa}{vm n u:Value}{o A:List (Aa×Aa×Nat)}{a c:Nat}(hr:Rel W Φ ρ m w)(ht:P.underlying t=some (.map key e))(L:B6 P key=some kt)
 (hm:R Φ ρ (.map b) vm) (H:R Φ ρ F n) (Hg:R Φ ρ yv u) (X:m.get b=some (.map o a))
 (K:(∃i z born,D1 kt F o=some (some (i,z,born))/\A=o.set i (F,yv,born)/\c=a)\/(D1 kt F o=some none/\A=o++[(F,yv,a)]/\c=a+1))
 (hs:∀w',(Instr.mapUpdate t vm n u).run P w=.ok () w'->s.run P w=.ok .skip w'):AJ P s W Φ ρ id w Ai (m.set b (.map A c)):=by
 cases O:P.underlying key with
 |none=>simp[B6,O]at L
 |some d=>
  cases hm with
  |map _ l Z=>
   obtain⟨l',ob,S,g2,g3,g4,g5⟩:=hr.live b _ X;rw[Z]at S;injection S with S;subst S
   cases g5 with
   |map _ _ _ en E U=>
    have j:=Zzd E U;have p:(getObj l.blk).run P w=.ok (.map en a) w:=by simp only[getObj,Sem.run,g4]
    have r:∀o',(setObj l.blk o').run P w=.ok () (M5 w l.blk o'):=λo'=>Yk7 g4 (by simp);rcases K with⟨i,z,born,K,k,h⟩|⟨K,k,h⟩
    ·rcases ZY O L H o en.toList _ 0 j K with⟨G,_⟩|⟨i',z',v,Q,G,I,⟨kk,M,Y⟩,C⟩
     ·cases G
     simp only[oI,AT]at G;obtain⟨rfl,rfl,rfl⟩:=G;have B:(Instr.findKey key n en.toList).run P w=.ok (some (0+i,Q.val)) w:=by
      simp only[Instr.findKey,Sem.run_bind,V8 O,Result.andThen_ok,C,Sem.run_pure]
     obtain⟨e3,T,h2,h3,h4⟩:=j.2 i _ M;rw[I]at T;injection T with T;subst T
     have J:en[i]?=some Q:=by simpa using I
     have ab:=Ydl H h2 Y;have f:(Instr.mapUpdate t (.map (some l.blk)) n u).run P w=.ok () (M5 w l.blk (.map (en.modify i λe=>{ e with key:=n,val:=u }) a)):=by
      simp only[Instr.mapUpdate,Sem.run_bind,V8 ht,Result.andThen_ok,p,dI (y:=F) _ L,B,zero_add,J,map_some,getD_some,Instr.keyThatStays,ab,if_true,Sem.run_pure,r]
     subst k;subst h;refine AJ.yD (hs _ f) hr X Z (.map _ _ _ _ (by simp[E]) λq y g=>?_);rw[getElem?_set]at g;by_cases D:i=q
     ·subst D;have N:i<o.length:=(gS.1 M).1;rw[iP rfl,iP N]at g;injection g with g
      subst g;exact⟨{ Q with key:=n,val:=u },by simp[getElem?_modify,J],H,Hg,h4⟩
     rw[iN D]at g;obtain⟨V,k1,k2⟩:=U q y g;exact⟨V,by rw[getElem?_modify,iN D];exact k1,k2⟩
    rcases ZY O L H o en.toList _ 0 j K with⟨_,C⟩|⟨i',z',v,Q,G,_⟩
    ·have B:(Instr.findKey key n en.toList).run P w=.ok none w:=by
      simp only[Instr.findKey,Sem.run_bind,V8 O,Result.andThen_ok,C,Sem.run_pure]
     have f:(Instr.mapUpdate t (.map (some l.blk)) n u).run P w=.ok () (M5 w l.blk (.map (en.push { key:=n,val:=u,born:=a }) (a+1))):=by
      simp only[Instr.mapUpdate,Sem.run_bind,V8 ht,Result.andThen_ok,p,dI (y:=F) _ L,B,r]
     subst k;subst h;refine AJ.yD (hs _ f) hr X Z (.map _ _ _ _ (by simp[E]) λq y g=>?_);rw[getElem?_append]at g;split at g
     ·rename_i N;obtain⟨V,k1,k2⟩:=U q y g;exact⟨V,by rw[getElem?_push,iN (by omega)];exact k1,k2⟩
     rename_i ac;have aa:q=o.length:=by
      have:=(gS.1 g).1;simp at this;omega
     subst aa;simp only[Nat.sub_self,getElem?_cons_zero,oI]at g;subst g;exact⟨{ key:=n,val:=u,born:=a },by rw[getElem?_push,iP (by omega)],H,Hg,rfl⟩
    cases G
theorem Yat{t ty:TypeId}{y:Aa}{n:Nat}(u:Rel W Φ ρ m w)(j:R Φ ρ y v)
 (h:(P.underlying t=some .string /\ ∃l,y=.str l/\n=l.length)\/((∃e,P.underlying t=some (.slice e))/\S7 y=some n) \/
   ((∃k e,P.underlying t=some (.map k e))/\((y=.AF/\n=0) \/ ∃b o c,y=.map b/\m.get b=some (.map o c)/\n=o.length))) :
 (Builtin.len_ #[t] ty #[v]).run P w=.ok (.int .i64 n) w:=by
 rcases h with⟨f,l,rfl,rfl⟩|⟨⟨e,f⟩,d⟩|⟨⟨k,e,f⟩,hm⟩
 ·rw[Kx j];unfold Builtin.len_;simp only[Sem.run_bind,getElem?_toArray,getElem?_cons_zero,V8 f,Result.andThen_ok];rfl
 ·have z:∃a c,v=.slice a n c:=by
   cases j<;>simp only[S7]at d<;>first|(cases d;done)|(injection d with d;subst d;exact⟨_,_,rfl⟩)
  obtain⟨a,c,rfl⟩:=z;unfold Builtin.len_;simp only[Sem.run_bind,getElem?_toArray,getElem?_cons_zero,V8 f,Result.andThen_ok];rfl
 rcases hm with⟨rfl,rfl⟩|⟨b,o,c,rfl,s,rfl⟩
 ·cases j;unfold Builtin.len_;simp only[Sem.run_bind,getElem?_toArray,getElem?_cons_zero,V8 f,Result.andThen_ok];rfl
 cases j with
 |map _ l d=>
  obtain⟨l',D,i,B,C,q,r⟩:=u.live b _ s;rw[d]at i;injection i with i;subst i
  cases r with
  |map _ _ _ en p A=>
   have g:(getObj l.blk).run P w=.ok (.map en c) w:=by simp only[getObj,Sem.run,q]
   unfold Builtin.len_;simp only[Sem.run_bind,getElem?_toArray,getElem?_cons_zero,V8 f,Result.andThen_ok,g,Sem.run_pure,goInt,p]
theorem Z6m(e:Bool):∀(c:List Aa) (vs:List Value) (y z:Aa) (f:Value),R Φ ρ y f->vs.length=c.length->(∀(i:Nat) (x:Aa) (u:Value),c[i]?=some x->vs[i]?=some u->R Φ ρ x u)->Nk e y c=some z ->
 ∃u,((vs.foldlM (if e then Builtin.max2 else Builtin.min2) f)).run P w=.ok u w/\R Φ ρ z u
 |[],[],y,z,f,l,_,_,h=>by
  have:y=z:=by cases y<;>simpa[Nk]using h
  subst this;exact⟨f,rfl,l⟩
 |[],u::vs,_,_,_,_,d,_,_=>by simp at d
 |x::c,[],_,_,_,_,d,_,_=>by simp at d
 |x::c,u::vs,y,z,f,l,d,m,h=>by
  cases y<;>cases x<;>simp only[Nk]at h<;>first|(cases h;done)|skip
  rename_i k a q b;rw[F5 l];have j:=m 0 _ _ rfl rfl;rw[F5 j];obtain⟨p,g,n⟩:=Z6m e c vs _ z (.int k (if e then (if b > a then b else a)else (if b<a then b else a))) (.int _ _) (by simpa using d) (λi x u j o=>m (i+1) x u (by simpa using j) (by simpa using o)) h;refine⟨p,?_,n⟩;rw[List.foldlM_cons];cases e
  ·simp only[bF,if_false,Sem.run_bind,Builtin.min2,Sem.run_pure,Result.andThen_ok]at g ⊢;exact g
  simp only[if_true,Sem.run_bind,Builtin.max2,Sem.run_pure,Result.andThen_ok]at g ⊢;exact g
end
section
variable {P:Program} {s:Sem Next} {W:Aq} {Φ:Ap} {ρ:AI} {id:Nat} {w w1:World} {m m':Mem} {x:Aa} {v:Value}
theorem IW{s:Sem Value}{u:Value}{w w':World}(h:s.run P w=.ok u w'):(do pure (Next.value (<-s)):Sem Next).run P w=.ok (.value u) w':=by
 simp only[Sem.run_bind,h,Result.andThen_ok,Sem.run_pure]
theorem Z5k{s:Sem Unit}{w w':World}(h:s.run P w=.ok () w'):(do s;pure Next.skip:Sem Next).run P w=.ok .skip w':=by
 simp only[Sem.run_bind,h,Result.andThen_ok,Sem.run_pure]
theorem AJ.HT{s:Sem Value}(c:Rel W Φ ρ m w)(h:∃u,s.run P w=.ok u w/\R Φ ρ x u):AJ P (do pure (Next.value (<-s))) W Φ ρ id w x m:=by
 obtain⟨u,a,b⟩:=h;exact AJ.val (IW a) c b
theorem x7(f:Value->ByteArray->Sem (ForInStep ByteArray))(j:∀n b,(f (.int .u8 n) b).run P w=.ok (.yield (b.push (UInt8.ofNat n.toNat))) w):∀(rows:List (List Aa)) (vs:List Value) (l:List UInt8) (b:ByteArray),vs.length=rows.length->OV rows=some l ->
 (∀(i:Nat) (row:List Aa) (x:Aa),rows[i]?=some row->row[0]?=some x -> ∃v,vs[i]?=some v/\R Φ ρ x v) ->
 (forIn vs b f).run P w=.ok ⟨⟨b.data.toList++l⟩⟩ w
 |[],[],l,b,_,h,_=>by
  simp only[OV,oI]at h;subst h;simp[List.forIn_nil]
 |[],_::_,_,_,d,_,_=>by simp at d
 |_::_,[],_,_,d,_,_=>by simp at d
 |row::rows,v::vs,l,b,d,h,k=>by
  unfold OV at h;split at h
  ·rename_i a;cases a
  ·rename_i n r a;injection a with e1 e2
   subst e1;subst e2;cases g:OV rows with
   |none=>simp[g]at h
   |some l'=>
    simp only[g,oI]at h;subst h;obtain⟨u,e,c⟩:=k 0 _ _ rfl rfl;simp only[getElem?_cons_zero,oI]at e;subst e;rw[F5 c];have p:=x7 f j rows vs l' (b.push (UInt8.ofNat n.toNat)) (by simpa using d) g (λi row x m o=>by
     obtain⟨u,e,c⟩:=k (i+1) row x (by simpa using m) o;exact⟨u,by simpa using e,c⟩)
    simp only[List.forIn_cons,Sem.run_bind,j,Result.andThen_ok];rw[p];simp[ByteArray.push]
  cases h
theorem Yg9{y:Aa}{rows:List (List Aa)}{l:List UInt8}(B:Rel W Φ ρ m w)(r:R Φ ρ y v)(d:G8 m 1 y=some rows)(k:OV rows=some l) :
 (Conv.bytesToString v).run P w=.ok (.string ⟨⟨l⟩⟩) w:=by
 have h:J0 m 1 y=some rows:=by
  cases y<;>simp only[J0]<;>first|exact d|(simp[G8]at d)
 obtain⟨arr,p,q,f,t⟩:=Pm (P:=P) B r h (lR 1);have D:∃a n c,v=.slice a n c:=by
  cases r<;>simp only[G8]at d<;>first|(cases d;done)|exact⟨_,_,_,rfl⟩
 obtain⟨a,n,c,rfl⟩:=D;have A:n=rows.length:=by
  simp[Builtin.lenOf]at p;exact p
 subst A;cases a with
 |none=>
  have g:=q rows.length (lR _);cases e:rows with
  |nil=>
   subst e;simp only[OV,oI]at k;subst k;rfl
  |cons row s=>
   rw[e]at g;simp[Builtin.firstCells]at g;rw[g,e]at f;simp at f
 |some a=>
  have g:=q rows.length (lR _);have z:(loadCells a rows.length).run P w=.ok arr w:=by
   by_cases j:rows.length=0
   ·rw[j]at f;have:arr = #[]:=by simpa using f
    rw[j,this];rfl
   have:arr.extract 0 (rows.length*1)=arr:=by rw[<-f];simp
   rw[this]at g;simpa[Builtin.firstCells,j]using g
  unfold Conv.bytesToString;simp only[Sem.run_bind,z,Result.andThen_ok];rw[<-Array.forIn_toList,x7 (Φ:=Φ) (ρ:=ρ) _ (λn b=>rfl) rows arr.toList l _ (by simpa using f) k (λi row x hi E=>by
   obtain⟨u,C,_,o⟩:=t.2 i row 0 x hi E;exact⟨u,by simpa using C,o⟩)]
  simp[ByteArray.empty,ByteArray.emptyWithCapacity];rfl
theorem Yi3{t:TypeId}{b:List Aa}(k:Rel W Φ ρ m w)(j:ρ id=none)(a:id<m.next)(l:Nx P t=some b) :
 AJ P (do pure (Next.value (<-Instr.alloc t true (.tuple #[])))) W Φ ρ id w (.ptr id 0 0) (m.set id (.cells b.length [b])):=by
 obtain⟨i,z,y,c,d,f,g,h⟩:=OT l Φ ρ;refine Zwj (v:=z) (e:=t) k j a f g h (IW ?_);simp[Instr.alloc,MC c d,newVar,newRow]
theorem Yku{t:TypeId}{y:Aa}{cs:List Aa}(f:Rel W Φ ρ m w)(d:ρ id=none)(a:id<m.next)(g:R Φ ρ y v)(c:y.cells=some cs)(b:cs.all Aa.one=true) :
 AJ P (do pure (Next.value (<-Instr.box t v))) W Φ ρ id w (.ptr id 0 0) (m.set id (.cells cs.length [cs])):=by
 refine Zwj (v:=v) (e:=t) f d a g c b (IW ?_);simp[Instr.box,newVar,newRow]
theorem Yb9{t:TypeId}(c:Rel W Φ ρ m w)(b:ρ id=none)(a:id<m.next) :
 AJ P (do pure (Next.value (<-Instr.makeMap t none))) W Φ ρ id w (.map id) (m.set id (.map [] 0)):=by
 refine AJ.new (l:=⟨w.heap.size,0,0,0⟩) (o:=.map #[] 0) (IW ?_) c b a rfl (.map _ _ _ _ rfl λi x h=>by simp at h) (.map id _ AI.Bv);simp[Instr.makeMap]
theorem Z62{vs:List Aa}{i:Nat}{z:Aa}(e:R Φ ρ (.tuple vs) v)(hi:vs[i]?=some z):∃u,(Instr.extract v i).run P w=.ok u w/\R Φ ρ z u:=by
 cases e with
 |tuple _ b d c=>
  have a:i<b.size:=by rw[d];exact(gS.1 hi).1
  refine⟨b[i],?_,c i z _ hi (getElem?_eq_getElem a)⟩;simp[Instr.extract,a]
theorem Zz7(e:Fv):G0 e .bot=none:=by cases e<;>rfl
theorem Ycn(e:Fv)(z:Aa):JG e .bot z=none:=by
 simp only[JG,Zz7];split<;>rfl
theorem Yep(e:Fv)(z:Aa):JG e z .bot=none:=by
 simp only[JG,Zz7];split<;>rfl
theorem cQ(e:Fv)(z:Aa):Ez e .bot z=none/\Ez e z .bot=none:=by
 cases e<;>simp[Ez,Ycn,Yep]
theorem Zyu{op:BinOp}{t:TypeId}{e:Fv}{y z r:Aa}{f g:Value}{ox oy:Operand}(C:YT P t=some e)(h:W5 op e y z=some r)(i:R Φ ρ y f)(j:R Φ ρ z g) :
 ∃u,(do eqGuard op t ox oy f g;binOp op t f g:Sem Value).run P w=.ok u w/\R Φ ρ r u:=by
 have d:∀k a n b,(eqGuard op t ox oy (.int k a) (.int n b)).run P w=.ok () w:=by
  intro k a n b;unfold eqGuard;cases op<;>simp
 have m:∀a b,(eqGuard op t ox oy (.string a) (.string b)).run P w=.ok () w:=by
  intro a b;unfold eqGuard;cases op<;>simp
 have v:∀b,Ez e y z=some b->op=.eql->r=.bool b -> ∃u,(do eqGuard op t ox oy f g;binOp op t f g:Sem Value).run P w=.ok u w/\R Φ ρ r u:=by
  intro b c B l;subst B;subst l;obtain⟨o,p,q,s,D⟩:=ym (w:=w) (op:=.eql) (ox:=ox) (oy:=oy) C c i j;refine⟨.bool b,?_,.bool b⟩;simp only[Sem.run_bind,o,Result.andThen_ok];have:binOp .eql t f g=(do pure (.bool (<-Op.equal t f g)):Sem Value):=by
   cases i<;>first|(exact absurd rfl (q _ _))|(exact absurd rfl (s _))|skip
   all_goals first|(exfalso;rw[(cQ _ _).1]at c;cases c;done)|(cases j<;>first|rfl|(exfalso;rw[(cQ _ _).2]at c;cases c;done))
  rw[this];simp only[Sem.run_bind,p,Result.andThen_ok,Sem.run_pure]
 have A:∀b,Ez e y z=some b->op=.neq->r=.bool (!b) -> ∃u,(do eqGuard op t ox oy f g;binOp op t f g:Sem Value).run P w=.ok u w/\R Φ ρ r u:=by
  intro b c B l;subst B;subst l;obtain⟨o,p,q,s,D⟩:=ym (w:=w) (op:=.neq) (ox:=ox) (oy:=oy) C c i j;refine⟨.bool (!b),?_,.bool _⟩;simp only[Sem.run_bind,o,Result.andThen_ok];have:binOp .neq t f g=(do pure (.bool (!(<-Op.equal t f g))):Sem Value):=by
   cases i<;>first|(exact absurd rfl (q _ _))|(exact absurd rfl (s _))|skip
   all_goals first|(exfalso;rw[(cQ _ _).1]at c;cases c;done)|(cases j<;>first|rfl|(exfalso;rw[(cQ _ _).2]at c;cases c;done))
  rw[this];simp only[Sem.run_bind,p,Result.andThen_ok,Sem.run_pure]
 unfold W5 at h;split at h
 ·split at h
  ·cases h
  rename_i k a n b c;injection h with h
  subst h;rw[F5 i,F5 j];simp only[Sem.run_bind,d,Result.andThen_ok];refine⟨_,?_,.int _ _⟩;simp[binOp,Op.shift,c]
 ·split at h
  ·cases h
  rename_i k a n b c;injection h with h
  subst h;rw[F5 i,F5 j];simp only[Sem.run_bind,d,Result.andThen_ok];refine⟨_,?_,.int _ _⟩;simp[binOp,Op.shift,c]
 ·split at h
  ·rename_i E;subst E;rw[F5 i,F5 j];simp only[Sem.run_bind,d,Result.andThen_ok];exact Z9x h
  cases h
 ·rw[Kx i,Kx j];simp only[Sem.run_bind,m,Result.andThen_ok];exact Z6w h
 ·split at h
  ·rename_i b c;injection h with h
   exact v b c rfl h.symm
  cases h
 ·split at h
  ·rename_i b c;injection h with h
   exact A b c rfl h.symm
  cases h
 cases h
end
section
variable {P:Program} {W:Aq} {Φ:Ap} {ρ:AI} {id:Nat} {w:World} {m m':Mem} {x:Aa} {a:Act} {t:List Aa}
theorem Wq(b:RL Φ ρ t a.tmps){xs:Array Operand}{e:List Ah}(h:Jc xs.toList=some e):RL Φ ρ (e.map (ev t)) (xs.map a.eval):=by
 obtain⟨f,g⟩:=Zy6 b _ _ h;refine⟨by simp[f],λi x v d c=>?_⟩;simp only[gM,mO]at d;obtain⟨y,j,rfl⟩:=d;simp only[getElem?_map,mO]at c;obtain⟨z,k,rfl⟩:=c;exact Q1 b (g i y z j (by simpa using k))
theorem Yfb{s:Sem Next}{y:Aa}{v:Value}(n:Rel W Φ ρ m w)
 (h:(match y with | .ptr b i j=>some (.ptr b i j,m) | .Bc els i j=>some (.Bc els i j,m) | .func (.func f) a b=>some (.func (.func f) a b,m)|_=>none)=some (x,m')) (G:R Φ ρ y v)
 (r:(∀p,v=.pointer (some p)->s.run P w=.ok (.value v) w)/\(∀f p q,v=.func (.func f) p q->s.run P w=.ok (.value v) w)):AJ P s W Φ ρ id w x m':=by
 cases G with
 |ptr b i j l F=>
  simp only[oI,AT]at h;obtain⟨d,e⟩:=h;subst d;subst e;exact AJ.val (r.1 _ rfl) n (.ptr b i j l F)
 |Bc els i j B o k c f C E g t=>
  simp only[oI,AT]at h;obtain⟨d,e⟩:=h;subst d;subst e;exact AJ.val (r.1 _ rfl) n (.Bc els i j B o k c f C E g t)
 |func fn u cs I H D g z A=>
  cases fn<;>simp only[oI,AT,reduceCtorEq]at h
  obtain⟨d,e⟩:=h;subst d;subst e;exact AJ.val (r.2 _ _ _ rfl) n (.func _ u cs I H D g z A)
 |_=>simp at h
theorem Ygx{y:Aa}{v:Value}{n:Nat}(b:R Φ ρ y v)(a:S7 y=some n):∃p c,v=.slice p n c/\n<=c:=by
 cases b<;>simp only[S7]at a<;>first|(cases a;done)|skip
 all_goals (injection a with a;subst a)
 all_goals first|exact⟨_,_,rfl,by simp⟩|exact⟨_,_,rfl,by assumption⟩
theorem U7{α e:Type}{a c:α}{b d:e}(h:some (a,b)=some (c,d)):a=c/\b=d:=by
 injection h with h;injection h with h1 h2;exact⟨h1,h2⟩
theorem Pe{b:Builtin}{c:Call}{o:Oper}{s:Sem Value}(f:o.op=.call c)(e:c.callee=.builtin b)
 (d:∀cs,builtin b c.argTypes o.type cs (c.args.map a.eval)=(do pure (Next.value (<-s)))):∀u w',s.run P w=.ok u w'->(execOp a.eval o).run P w=.ok (.value u) w':=by
 intro u w' h;unfold execOp;rw[f];simp only[resolve,e,Sem.run_bind,Sem.run_pure,Result.andThen_ok,invoke];rw[d];exact IW h
theorem aQ{c:Call}{p q:Operand}(h:c.args.toList=[p,q]):c.args.map a.eval = #[a.eval p,a.eval q]:=by
 have:c.args = #[p,q]:=by rw[<-toList_inj];exact h
 rw[this];simp
theorem jP{c:Call}{p:Operand}(h:c.args.toList=[p]):c.args.map a.eval = #[a.eval p]:=by
 have:c.args = #[p]:=by rw[<-toList_inj];exact h
 rw[this];simp
theorem Zyx(q:RL Φ ρ t a.tmps)(p:Rel W Φ ρ m w)(o:Oper)(c:Call)(E:o.op=.call c)(d:Bool)(D:c.callee=.builtin (if d then .max else .min))
 (f:∀u w',(if d then Builtin.max_ c.argTypes o.type (c.args.map a.eval)else Builtin.min_ c.argTypes o.type (c.args.map a.eval)).run P w=.ok u w'->(execOp a.eval o).run P w=.ok (.value u) w')
 {xs:List Ah}(e:Jc c.args.toList=some xs) (h:Ae id t m (.Da d xs)=some (x,m')):AJ P (execOp a.eval o) W Φ ρ id w x m':=by
 simp only[Ae]at h;have b:=Wq q e;cases xs with
 |nil=>simp at h
 |cons y C=>
  simp only at h;split at h<;>first|(cases h;done)|skip
  rename_i z B;obtain⟨k,n⟩:=U7 h;subst k;subst n;generalize s:c.args.map a.eval=vs at f b;obtain⟨l⟩:=vs;cases l with
  |nil=>simp[RL]at b
  |cons v l=>
   obtain⟨u,g,j⟩:=Z6m (P:=P) (w:=w) d (C.map (ev t)) l _ z v (b.2 0 _ _ rfl rfl) (by simpa[RL]using b.1) (λi x u A r=>b.2 (i+1) x u (by simpa using A) (by simpa using r)) B;refine AJ.val (f u w ?_) p j;cases d<;>exact g
theorem Yjf(H:RL Φ ρ t a.tmps)(G:Rel W Φ ρ m w)(hn:ρ id=none)(Z:id<m.next)(o:Oper)(c:Call)(J:o.op=.call c)(op:Ba)
 (f:La P c=some op) (h:Ae id t m op=some (x,m')):AJ P (execOp a.eval o) W Φ ρ id w x m':=by
 unfold La at f;split at f
 ·split at f
  ·injection f with f;subst f;simp[Ae]at h
  cases f
 ·rename_i D;split at f<;>first|(cases f;done)|skip
  rename_i s T E u g j;split at f<;>first|(cases f;done)|skip
  rename_i k b z s' x' M O F;split at f<;>first|(cases f;done)|skip
  ·injection f with f;subst f;simp[Ae]at h
  rename_i d hd Y;injection f with f
  subst f;simp only[Ae]at h;split at h<;>first|(cases h;done)|skip
  rename_i xs C;have i:c.argTypes = #[E,u]:=by rw[<-toList_inj];exact j
  exact Ydu (ty:=o.type) (r:=(x,m')) G hn Z M Y (λk hk=>hd k hk) (Q1 H O) (Q1 H F) C h
   (Pe J D λcs=>by rw[aQ g,i];rfl)
 ·rename_i D;split at f<;>first|(cases f;done)|skip
  rename_i dd ss E u g j;split at f<;>first|(cases f;done)|skip
  rename_i k b z d' s' M X O;injection f with f
  subst f;simp only[Ae]at h;split at h<;>first|(cases h;done)|skip
  rename_i bb off len xs B C;split at h<;>first|(cases h;done)|skip
  rename_i k' els S;split at h<;>first|(cases h;done)|skip
  rename_i A;obtain⟨rfl,V⟩:=A;obtain⟨q,v⟩:=U7 h;subst q;subst v;have i:c.argTypes = #[E,u]:=by rw[<-toList_inj];exact j
  have Q:=Q1 H X;rw[B]at Q;exact Yee (ty:=o.type) (u:=u) G M Q (Q1 H O) C S V (Pe J D λcs=>by rw[aQ g,i];rfl)
 ·rename_i D;split at f<;>first|(cases f;done)|skip
  rename_i T E g j;split at f<;>first|(cases f;done)|skip
  rename_i k b z x' M F;injection f with f
  subst f;simp only[Ae]at h;have i:c.argTypes = #[E]:=by rw[<-toList_inj];exact j
  have p:=Pe (P:=P) (w:=w) (a:=a) (s:=Builtin.clear_ #[E] o.type #[a.eval T]) J D (λcs=>by rw[jP g,i];rfl);split at h<;>first|(cases h;done)|skip
  ·rename_i b' off len B;split at h<;>first|(cases h;done)|skip
   rename_i k' els S;split at h<;>first|(cases h;done)|skip
   rename_i A;obtain⟨rfl,V⟩:=A;obtain⟨q,v⟩:=U7 h;subst q;subst v;exact iC G M (Q1 H F) (.inl ⟨_,_,_,_,B,S,V,rfl⟩) p
  ·rename_i B;obtain⟨q,v⟩:=U7 h;subst q;subst v;exact iC G M (Q1 H F) (.inr ⟨.inl B,rfl⟩) p
  rename_i B;obtain⟨q,v⟩:=U7 h;subst q;subst v;exact iC G M (Q1 H F) (.inr ⟨.inr B,rfl⟩) p
 ·rename_i D;split at f<;>first|(cases f;done)|skip
  rename_i T E g j;have i:c.argTypes = #[E]:=by rw[<-toList_inj];exact j
  have p:=Pe (P:=P) (w:=w) (a:=a) (s:=Builtin.len_ #[E] o.type #[a.eval T]) J D (λcs=>by rw[jP g,i];rfl);have I:∀(y:Ah) (n:Nat),X5 T=some y->x=.int .i64 n->m'=m ->
   ((P.underlying E=some .string /\ ∃l,ev t y=.str l/\n=l.length)\/((∃e,P.underlying E=some (.slice e))/\S7 (ev t y)=some n) \/
   ((∃k e,P.underlying E=some (.map k e))/\((ev t y=.AF/\n=0) \/ ∃b U c,ev t y=.map b/\m.get b=some (.map U c)/\n=U.length)))->AJ P (execOp a.eval o) W Φ ρ id w x m':=by
   intro y n L q v h3;subst q;subst v;exact AJ.val (p _ _ (Yat G (Q1 H L) h3)) G (.int _ _)
  split at f<;>first|(cases f;done)|skip
  ·rename_i n e K;injection f with f
   subst f;simp only[Ae]at h;obtain⟨q,v⟩:=U7 h;subst q;subst v;refine AJ.val (p (.int .i64 n) w ?_) G (.int _ _);unfold Builtin.len_;simp only[Sem.run_bind,getElem?_toArray,getElem?_cons_zero,V8 K,Result.andThen_ok];rfl
  all_goals
   injection f with f
   subst f;simp only[Ae]at h
  ·rename_i y K L;split at h<;>first|(cases h;done)|skip
   rename_i l N;obtain⟨q,v⟩:=U7 h;exact I y _ L q.symm v.symm (.inl ⟨K,l,N,rfl⟩)
  ·rename_i e y K L;split at h<;>first|(cases h;done)|skip
   rename_i n N;obtain⟨q,v⟩:=U7 h;exact I y _ L q.symm v.symm (.inr (.inl ⟨⟨_,K⟩,N⟩))
  rename_i k e y K L;split at h<;>first|(cases h;done)|skip
  ·rename_i N;obtain⟨q,v⟩:=U7 h;exact I y 0 L q.symm v.symm (.inr (.inr ⟨⟨_,_,K⟩,.inl ⟨N,rfl⟩⟩))
  rename_i b N;split at h<;>first|(cases h;done)|skip
  rename_i U c S;obtain⟨q,v⟩:=U7 h;exact I y _ L q.symm v.symm (.inr (.inr ⟨⟨_,_,K⟩,.inr ⟨b,U,c,N,S,rfl⟩⟩))
 ·split at f<;>first|(cases f;done)|skip
  split at f<;>first|(cases f;done)|skip
  injection f with f
  subst f;simp[Ae]at h
 ·rename_i D;split at f<;>first|(cases f;done)|skip
  rename_i xs C;injection f with f
  subst f;exact Zyx H G o c J false D (Pe J D λcs=>rfl) C h
 ·rename_i D;split at f<;>first|(cases f;done)|skip
  rename_i xs C;injection f with f
  subst f;exact Zyx H G o c J true D (Pe J D λcs=>rfl) C h
 cases f
end
section
variable {P:Program} {W:Aq} {Φ:Ap} {ρ:AI} {id:Nat} {w:World} {m m':Mem} {x:Aa} {a:Act} {t:List Aa}
theorem zQ{y:Aa}{v:Value}{b:Bool}(a:R Φ ρ y v)(h:y=.bool b):v=.bool b:=by subst h;exact Lh a
theorem Z6p(f:RL Φ ρ t a.tmps)(s:Rel W Φ ρ m w)(ty:TypeId)(A ok ov:Operand)(op:Ba)
 (c:(match P.underlying ty,X5 A,X5 ok,X5 ov with
 |some (.map y _),some m',some C,some D=>match B6 P y with
  |some q=>some (Ba.BX q m' C D)
  |none=>none
 |_,_,_,_=>none)=some op) (h:Ae id t m op=some (x,m')) :
 AJ P (do Instr.mapUpdate ty (a.eval A) (a.eval ok) (a.eval ov);pure Next.skip) W Φ ρ id w x m':=by
 split at c<;>first|(cases c;done)|skip
 rename_i y e G F v1 u hm p v;split at c<;>first|(cases c;done)|skip
 rename_i q r;injection c with c
 subst c;simp only[Ae]at h;split at h<;>first|(cases h;done)|skip
 rename_i b B;split at h<;>first|(cases h;done)|skip
 rename_i E g o;have d:=Q1 f hm;rw[B]at d;split at h<;>first|(cases h;done)|skip
 ·rename_i i z born l;obtain⟨j,k⟩:=U7 h;subst j;subst k;exact zn s u r d (Q1 f p) (Q1 f v) o (.inl ⟨_,_,_,l,rfl,rfl⟩) λw' n=>Z5k n
 rename_i l;obtain⟨j,k⟩:=U7 h;subst j;subst k;exact zn s u r d (Q1 f p) (Q1 f v) o (.inr ⟨l,rfl,rfl⟩) λw' n=>Z5k n
theorem Yjb(I:RL Φ ρ t a.tmps)(C:Rel W Φ ρ m w){ty e:TypeId}{k:Nat}{ox:Operand}{lo hi v:Option Operand}{X:Ah}{l Q N:Option Ah}(M:P.underlying ty=some (.slice e))(L:J7 P e=some k)
 (hx:X5 ox=some X) (A:B1 lo=some l) (H:B1 hi=some Q) (s:B1 v=some N) (h:Ae id t m (.Er k X l Q N)=some (x,m')) :
 AJ P (do pure (Next.value (<-Instr.sliceAt ty (a.eval ox) (lo.map a.eval) (hi.map a.eval) (v.map a.eval)))) W Φ ρ id w x m':=by
 have r:=Ut I A;have q:=Ut I H;have j:=Q1 I hx;cases v with
 |none=>
  simp only[B1,oI]at s;subst s;simp only[Ae]at h;have key:m'=m /\ ∃u,(Instr.sliceAt ty (a.eval ox) (lo.map a.eval) (hi.map a.eval) none).run P w=.ok u w/\R Φ ρ x u:=by
   split at h<;>first|(cases h;done)|skip
   ·rename_i E;split at h<;>first|(cases h;done)|skip
    rename_i lh y;obtain⟨g,i⟩:=U7 h;exact eB C M L j r q (.inl ⟨E,⟨_,y⟩,g.symm,i.symm⟩)
   ·rename_i E;split at h<;>first|(cases h;done)|skip
    rename_i lh y;obtain⟨g,i⟩:=U7 h;exact eB C M L j r q (.inr (.inl ⟨E,⟨_,y⟩,g.symm,i.symm⟩))
   ·rename_i els E;split at h<;>first|(cases h;done)|skip
    rename_i J;split at h<;>first|(cases h;done)|skip
    rename_i l1 l2 y;obtain⟨g,i⟩:=U7 h;exact eB C M L j r q (.inr (.inr (.inl ⟨_,_,_,E,J,y,g.symm,i.symm⟩)))
   rename_i b off len E;split at h<;>first|(cases h;done)|skip
   rename_i k' els hg;split at h<;>first|(cases h;done)|skip
   rename_i f;obtain⟨S,Y⟩:=f;subst S;split at h<;>first|(cases h;done)|skip
   rename_i l hq y;obtain⟨g,i⟩:=U7 h;exact eB C M L j r q (.inr (.inr (.inr ⟨_,_,_,_,_,_,E,hg,Y,y,g.symm,i.symm⟩)))
  obtain⟨g,i⟩:=key;subst g;exact AJ.HT C i
 |some U=>
  simp only[B1]at s;cases T:X5 U with
  |none=>simp[T]at s
  |some z=>
   simp only[T,oI]at s;subst s;simp only[Ae]at h;split at h<;>first|(cases h;done)|skip
   rename_i n v l' h' hn s B;split at h<;>first|(cases h;done)|skip
   rename_i o K;split at h<;>first|(cases h;done)|skip
   rename_i f;obtain⟨Z,c2,c3⟩:=f;obtain⟨p,c,hv,aa⟩:=Ygx j hn;have e1:∀d,(Instr.sliceBound (a.eval U) c d).run P w=.ok v w:=λd=>Wj (Q1 I T) (by simpa[C7]using s) (by omega);cases hi with
   |none=>simp[B1]at H
   |some D=>
    simp only[B1]at H;cases F:X5 D with
    |none=>simp[F]at H
    |some z2=>
     simp only[F,oI]at H;subst H;have e2:∀d,(Instr.sliceBound (a.eval D) v d).run P w=.ok o w:=λd=>Wj (Q1 I F) K c2;have e3:(Instr.sliceBounds true n c (lo.map a.eval) (some (a.eval D)) (some (a.eval U))).run P w=.ok (l',o,v) w:=by
      unfold Instr.sliceBounds;simp only[Sem.run_bind,e1,e2,Result.andThen_ok];cases lo with
      |none=>
       simp only[B1,oI]at A;subst A;simp only[C7,oI]at B;subst B;rfl
      |some V=>
       simp only[B1]at A;cases G:X5 V with
       |none=>simp[G]at A
       |some z3=>
        simp only[G,oI]at A;subst A;have e4:∀d,(Instr.sliceBound (a.eval V) o d).run P w=.ok l' w:=λd=>Wj (Q1 I G) (by simpa[C7]using B) Z;simp only[map_some,Sem.run_bind,e4,Result.andThen_ok,Sem.run_pure]
     have O:=XJ (a:=p) M L e3;rw[<-hv]at O;split at h
     ·rename_i Q;obtain⟨g,i⟩:=U7 h;subst g;subst i;refine AJ.val (IW O) C ?_;have:o-l'=0:=by omega
      have h3:v-l'=0:=by omega
      rw[this,h3];exact .emp _
     obtain⟨g,i⟩:=U7 h;subst g;subst i;exact AJ.val (IW O) C (.bot _)
theorem Z61(T:RL Φ ρ t a.tmps)(C:Rel W Φ ρ m w)(hn:ρ id=none)(S:id<m.next)(o:Oper)(op:Ba)
 (g:HM P o=some op) (h:Ae id t m op=some (x,m')):AJ P (execOp a.eval o) W Φ ρ id w x m':=by
 have mk:∀{y:Ah}{z:Operand},X5 z=some y->R Φ ρ (ev t y) (a.eval z):=λhz=>Q1 T hz;unfold HM at g;unfold execOp;split at g
 ·rename_i z B;rw[B];simp only[mO]at g;obtain⟨y,D,rfl⟩:=g;simp only[Ae]at h;obtain⟨j,A⟩:=U7 h;subst j;subst A;exact AJ.val (by simp) C (mk D)
 ·rename_i z B;rw[B];simp only[mO]at g;obtain⟨y,D,rfl⟩:=g;simp only[Ae]at h;obtain⟨j,A⟩:=U7 h;subst j;subst A;exact AJ.val (by simp) C (mk D)
 ·rename_i c1 a1 b1 B;rw[B];split at g<;>first|(cases g;done)|skip
  rename_i c' a' b' j A h3;injection g with g;subst g
  simp only[Ae]at h;split at h<;>first|(cases h;done)|skip
  ·rename_i hb;obtain⟨e1,e2⟩:=U7 h;subst e1;subst e2;have:=zQ (mk j) hb;exact AJ.val (v:=a.eval a1) (by simp[this,asBool]) C (mk A)
  rename_i hb;obtain⟨e1,e2⟩:=U7 h;subst e1;subst e2;have:=zQ (mk j) hb;exact AJ.val (v:=a.eval b1) (by simp[this,asBool]) C (mk h3)
 ·rename_i ty B;rw[B];simp only[mO]at g;obtain⟨zs,hz,rfl⟩:=g;simp only[Ae]at h;obtain⟨j,A⟩:=U7 h;subst j;subst A;exact Yi3 C hn S hz
 ·rename_i ty z B;rw[B];simp only[mO]at g;obtain⟨y,D,rfl⟩:=g;simp only[Ae]at h;split at h<;>first|(cases h;done)|skip
  rename_i cs H;split at h<;>first|(cases h;done)|skip
  rename_i U;obtain⟨j,A⟩:=U7 h;subst j;subst A;exact Yku C hn S (mk D) H U
 ·rename_i ty ps B;rw[B];split at g<;>first|(cases g;done)|skip
  ·rename_i fs z F hz;split at g<;>first|(cases g;done)|skip
   rename_i U;split at g<;>first|(cases g;done)|skip
   rename_i qs hq;injection g with g;subst g
   simp only[Ae]at h;split at h<;>first|(cases h;done)|skip
   rename_i cs H;obtain⟨j,A⟩:=U7 h;subst j;subst A;exact AJ.HT C (Ykj T F hz hq H λf Z=>Option.isSome_iff_exists.1 (List.all_eq_true.1 U f Z))
  rename_i n e z F hz;split at g<;>first|(cases g;done)|skip
  rename_i k X;split at g<;>first|(cases g;done)|skip
  rename_i qs hq;injection g with g;subst g
  simp only[Ae]at h;split at h<;>first|(cases h;done)|skip
  rename_i cs H;obtain⟨j,A⟩:=U7 h;subst j;subst A;exact AJ.HT C (Ybj T F X hz hq H)
 ·rename_i ty len ps B;rw[B];split at g<;>first|(cases g;done)|skip
  rename_i k b z qs he hq;split at g<;>first|(cases g;done)|skip
  rename_i ai;injection g with g;subst g
  simp only[Ae]at h;split at h<;>first|(cases h;done)|skip
  rename_i els ab;obtain⟨j,A⟩:=U7 h;subst j;subst A;exact Ygf C T hn S he hq ai ab λu w' hw=>IW hw
 ·rename_i ty z B;rw[B];split at g<;>first|(cases g;done)|skip
  rename_i n y hl D;injection g with g;subst g
  simp only[Ae]at h;split at h<;>first|(cases h;done)|skip
  rename_i v E;obtain⟨j,A⟩:=U7 h;subst j;subst A;exact AJ.HT C (Z6j C (mk D) hl E)
 ·rename_i ty z z2 B;rw[B];split at g<;>first|(cases g;done)|skip
  rename_i n a' Y L ha M;injection g with g;subst g
  simp only[Ae]at h;split at h<;>first|(cases h;done)|skip
  rename_i m2 ak;obtain⟨j,A⟩:=U7 h;subst j;subst A;refine Yi8 C (mk ha) (mk M) L ak ?_;simp only[Sem.run_bind,Sem.run_pure];cases Sem.run P (Instr.storeAt ty (a.eval z) (a.eval z2)) w<;>rfl
 ·rename_i z B;rw[B];simp only[mO]at g;obtain⟨y,D,rfl⟩:=g;simp only[Ae]at h;refine Yfb C h (mk D) ⟨λp hp=>?_,λf p q hp=>?_⟩
  ·simp only[hp];rfl
  simp only[hp];rfl
 ·rename_i an ty z z2 aq B;rw[B];split at g<;>first|(cases g;done)|skip
  rename_i Y y' e M D he;injection g with g;subst g
  simp only[Ae]at h;split at h<;>first|(cases h;done)|skip
  rename_i v E;obtain⟨j,A⟩:=U7 h;subst j;subst A;exact AJ.HT C (Zyu he E (mk M) (mk D))
 ·rename_i an ty z B;rw[B];simp only[mO]at g;obtain⟨y,D,rfl⟩:=g;simp only[Ae]at h;split at h<;>first|(cases h;done)|skip
  rename_i v E;obtain⟨j,A⟩:=U7 h;subst j;subst A;exact AJ.HT C (Yfj E (mk D))
 ·rename_i s d z B;rw[B];split at g<;>first|(cases g;done)|skip
  ·rename_i k0 k y L hd D;injection g with g;subst g
   simp only[Ae]at h;split at h<;>first|(cases h;done)|skip
   rename_i k1 n E;obtain⟨j,A⟩:=U7 h;subst j;subst A;have O:=mk D;rw[E]at O;refine AJ.val (IW ?_) C (.int k _);rw[F5 O];simp only[convert,Sem.run_bind,V8 L,V8 hd,Result.andThen_ok];rfl
  ·rename_i y L hd D;injection g with g;subst g
   simp only[Ae]at h;split at h<;>first|(cases h;done)|skip
   rename_i l E;obtain⟨j,A⟩:=U7 h;subst j;subst A;have O:=mk D;rw[E]at O;refine AJ.val (IW ?_) C (.str _);rw[Kx O];simp only[convert,Sem.run_bind,V8 L,V8 hd,Result.andThen_ok];rfl
  rename_i e y L hd D;split at g<;>first|(cases g;done)|skip
  rename_i he;injection g with g;subst g
  simp only[Ae]at h;split at h<;>first|(cases h;done)|skip
  rename_i rows K;split at h<;>first|(cases h;done)|skip
  rename_i l hl;obtain⟨j,A⟩:=U7 h;subst j;subst A;refine AJ.val (IW ?_) C (.str _);have hb:=Yg9 (P:=P) C (mk D) K hl;have E:∃p n c,a.eval z=.slice p n c:=by
   have O:=mk D;generalize ev t y=yy at O K;generalize a.eval z=vv at O;cases O<;>simp only[G8]at K<;>first|(cases K;done)|exact⟨_,_,_,rfl⟩
  obtain⟨p,n,c,E⟩:=E;rw[E]at hb ⊢;simp only[convert,Sem.run_bind,V8 L,V8 hd,V8 he,Result.andThen_ok];exact hb
 ·rename_i fn f1 c1 B;rw[B];split at g<;>first|(cases g;done)|skip
  rename_i f' c' Z CC;injection g with g;subst g
  simp only[Ae]at h;obtain⟨j,A⟩:=U7 h;subst j;subst A;have g1:=Wq T Z;have g2:=Wq T CC;exact AJ.val (IW (by simp[Instr.makeFunc])) C (.func fn _ _ _ _ g1.1 g2.1 g1.2 g2.2)
 ·rename_i ty B;rw[B];injection g with g;subst g
  simp only[Ae]at h;obtain⟨j,A⟩:=U7 h;subst j;subst A;exact Yb9 C hn S
 ·rename_i ty z z2 B;rw[B];split at g<;>first|(cases g;done)|skip
  rename_i k b zz l' c' he hl CC;injection g with g;subst g
  simp only[Ae]at h;split at h<;>first|(cases h;done)|skip
  rename_i l c ah ae;split at h<;>first|(cases h;done)|skip
  rename_i Q;obtain⟨d1,d2,d3⟩:=Q;obtain⟨j,A⟩:=U7 h;subst j;subst A;obtain⟨kl,ag⟩:=QD (mk hl) ah;obtain⟨kc,af⟩:=QD (mk CC) ae;exact Yel C hn S he ag af d1 d2 d3 λu w' hw=>IW hw
 ·rename_i ty z lo hi mx B;rw[B];split at g<;>first|(cases g;done)|skip
  ·rename_i Y l h0 F M hl hh hm;injection g with g;subst g
   have Gg:mx=none:=by
    cases mx with
    |none=>rfl
    |some q=>simp only[B1]at hm;split at hm<;>simp at hm
   subst Gg;simp only[Ae]at h;split at h<;>first|(cases h;done)|skip
   rename_i s L;split at h<;>first|(cases h;done)|skip
   rename_i l1 j hb;obtain⟨e1,e2⟩:=U7 h;subst e1;subst e2;have N:=mk M;rw[L]at N;exact AJ.HT C (Yh4 F N (Ut T hl) (Ut T hh) hb)
  ·rename_i e Y l h0 mm F M hl hh hm;split at g<;>first|(cases g;done)|skip
   rename_i k X;injection g with g;subst g
   exact Yjb T C F X M hl hh hm h
  split at g<;>first|(cases g;done)|skip
  injection g with g;subst g
  simp[Ae]at h
 ·rename_i ty z i B;rw[B];split at g<;>first|(cases g;done)|skip
  rename_i fs y F D;split at g<;>first|(cases g;done)|skip
  rename_i f Z;split at g<;>first|(cases g;done)|skip
  rename_i n L;split at g<;>first|(cases g;done)|skip
  rename_i h0;injection g with g;subst g
  simp only[Ae]at h;split at h<;>first|(cases h;done)|skip
  rename_i v E;obtain⟨j,A⟩:=U7 h;subst j;subst A;exact AJ.HT C (Ydr F Z L h0 (mk D) E)
 ·rename_i ty z i B;rw[B];split at g<;>first|(cases g;done)|skip
  rename_i fs y F D;split at g<;>first|(cases g;done)|skip
  rename_i f Z;split at g<;>first|(cases g;done)|skip
  rename_i n L;injection g with g;subst g
  simp only[Ae]at h;split at h<;>first|(cases h;done)|skip
  rename_i cs H;split at h<;>first|(cases h;done)|skip
  rename_i v E;obtain⟨j,A⟩:=U7 h;subst j;subst A;have O:=mk D;rw[H]at O;exact AJ.HT C (Yhs F Z L O E)
 ·rename_i ty z zi B;rw[B];split at g<;>first|(cases g;done)|skip
  ·rename_i e Y i' F M hi;split at g<;>first|(cases g;done)|skip
   rename_i k X;injection g with g;subst g
   simp only[Ae]at h;split at h<;>first|(cases h;done)|skip
   ·rename_i b off len i L I;obtain⟨ki,J⟩:=QD (mk hi) I;split at h<;>first|(cases h;done)|skip
    rename_i k' els hg;split at h<;>first|(cases h;done)|skip
    rename_i Q;obtain⟨d1,d2⟩:=Q;subst d1;obtain⟨j,A⟩:=U7 h;subst j;subst A;exact AJ.HT C (xe C F X (mk M) J (.inl ⟨_,_,_,_,L,hg,d2,rfl⟩))
   rename_i els i L I;obtain⟨ki,J⟩:=QD (mk hi) I;split at h<;>first|(cases h;done)|skip
   rename_i row ad;split at h<;>first|(cases h;done)|skip
   rename_i ac;obtain⟨j,A⟩:=U7 h;subst j;subst A;exact AJ.HT C (xe C F X (mk M) J (.inr ⟨_,_,L,ad,ac,rfl⟩))
  rename_i n e Y i' F M hi;split at g<;>first|(cases g;done)|skip
  rename_i k X;injection g with g;subst g
  simp only[Ae]at h;split at h<;>first|(cases h;done)|skip
  rename_i i I;obtain⟨ki,J⟩:=QD (mk hi) I;split at h<;>first|(cases h;done)|skip
  rename_i V;split at h<;>first|(cases h;done)|skip
  rename_i v E;obtain⟨j,A⟩:=U7 h;subst j;subst A;exact AJ.HT C (Z7c F X (mk M) J V E)
 ·rename_i ty z zi B;rw[B];split at g<;>first|(cases g;done)|skip
  ·rename_i Y i' F M hi;injection g with g;subst g
   simp only[Ae]at h;split at h<;>first|(cases h;done)|skip
   rename_i s i L I;obtain⟨ki,J⟩:=QD (mk hi) I;split at h<;>first|(cases h;done)|skip
   rename_i c CC;obtain⟨j,A⟩:=U7 h;subst j;subst A;have N:=mk M;rw[L]at N;exact AJ.val (IW (Yhr F N J CC)) C (.int _ _)
  rename_i n e Y i' F M hi;split at g<;>first|(cases g;done)|skip
  rename_i k sz X al;injection g with g;subst g
  simp only[Ae]at h;split at h<;>first|(cases h;done)|skip
  rename_i cs i H I;obtain⟨ki,J⟩:=QD (mk hi) I;split at h<;>first|(cases h;done)|skip
  rename_i V;split at h<;>first|(cases h;done)|skip
  rename_i v E;obtain⟨j,A⟩:=U7 h;subst j;subst A;have N:=mk M;rw[H]at N;exact AJ.HT C (Z9v F X al N J V E)
 ·rename_i ty z zi ok B;rw[B];split at g<;>first|(cases g;done)|skip
  rename_i kt e Y i' F M hi;split at g<;>first|(cases g;done)|skip
  rename_i q zz hq hz;injection g with g;subst g
  simp only[Ae]at h;split at h<;>first|(cases h;done)|skip
  rename_i es G;split at h<;>first|(cases h;done)|skip
  rename_i r Z;obtain⟨j,A⟩:=U7 h;subst j;subst A;have aj:(ev t Y=.AF/\es=[])\/(∃b c,ev t Y=.map b/\m.get b=some (.map es c)):=by
   split at G<;>first|(cases G;done)|skip
   ·rename_i D;injection G with G
    exact .inl ⟨D,G.symm⟩
   rename_i b D;split at G<;>first|(cases G;done)|skip
   rename_i ao aa hg;injection G with G
   subst G;exact .inr ⟨b,aa,D,hg⟩
  obtain⟨u,g1,g2⟩:=Z7v (w:=w) (ok:=ok) C F hq hz (mk M) (mk hi) aj Z;refine AJ.HT C ⟨u,g1,?_⟩;cases r with
  |none=>exact g2
  |some r=>obtain ⟨i,v,b⟩:=r;exact g2
 ·rename_i ty om ok ov B;rw[B];exact Z6p T C ty om ok ov op g h
 ·rename_i ty om ok ov B;rw[B];exact Z6p T C ty om ok ov op g h
 ·rename_i z i B;rw[B];split at g<;>first|(cases g;done)|skip
  rename_i y D;injection g with g;subst g
  simp only[Ae]at h;split at h<;>first|(cases h;done)|skip
  rename_i vs am;split at h<;>first|(cases h;done)|skip
  rename_i v E;obtain⟨j,A⟩:=U7 h;subst j;subst A;have O:=mk D;rw[am]at O;exact AJ.HT C (Z62 O E)
 ·rename_i c B;have:=Yjf T C hn S o c B op g h;unfold execOp at this;exact this
 ·split at g<;>first|(cases g;done)|skip
  simp only[mO]at g;obtain⟨y,_,rfl⟩:=g;simp only[Ae]at h;cases h
 ·simp only[mO]at g;obtain⟨y,_,rfl⟩:=g;simp only[Ae]at h;cases h
 cases g
end
structure Bb (ft:List Nat) (m m' m2 FA:Mem):Prop where
 n1:m'.next=m.next
 n2:FA.next=m2.next
 TX:∀ b,b∉ft→m'.get b=m.get b
 TY:∀ b,b∉ft→FA.get b=m2.get b
 ins:∀ b,b∈ft→FA.get b=m'.get b
def Gz(ft:List Nat)(m m2:Mem):Prop:=∀ b,b∈ft→m2.get b=m.get b
section
variable {ft:List Nat} {m m2 m':Mem} {id:Nat} {t:List Aa} {v:Aa}
theorem Bb.refl(h:Gz ft m m2):Bb ft m m m2 m2:=⟨rfl,rfl,λ_ _=>rfl,λ_ _=>rfl,h⟩
theorem Bb.set{m' d:Mem}{b:Nat}{x:Af}(h:Bb ft m m' m2 d)(f:b∈ft):Bb ft m (m'.set b x) m2 (d.set b x):=by
 refine⟨h.n1,h.n2,λc a=>?_,λc a=>?_,λc a=>?_⟩
 ·have:c≠b:=λe=>a (e ▸ f);simp[this,h.TX c a]
 ·have:c≠b:=λe=>a (e ▸ f);simp[this,h.TY c a]
 simp only[Mem.AB];split
 ·rfl
 exact h.ins c a
theorem Bb.del{m' d:Mem}{b:Nat}(h:Bb ft m m' m2 d)(f:b∈ft):Bb ft m (m'.del b) m2 (d.del b):=by
 refine⟨h.n1,h.n2,λc a=>?_,λc a=>?_,λc a=>?_⟩
 ·have:c≠b:=λe=>a (e ▸ f);simp[this,h.TX c a]
 ·have:c≠b:=λe=>a (e ▸ f);simp[this,h.TY c a]
 simp only[Mem.Bx];split
 ·rfl
 exact h.ins c a
theorem Yl7{x:Aa}(h:Gz (W9 x) m m2):rowAt m2 x=rowAt m x:=by
 cases x<;>simp only[rowAt]
 rename_i b i j;rw[h b (by simp[W9])]
theorem Ybt{x:Aa}{n:Option Nat}(h:Gz (W9 x) m m2):Pu m2 n x=Pu m n x:=by
 simp only[Pu,Yl7 h]
theorem Zym{x:Aa}{k:Nat}(h:Gz (W9 x) m m2):G8 m2 k x=G8 m k x:=by
 cases x<;>simp only[G8]
 rename_i b off len;rw[h b (by simp[W9])]
theorem Z5v{x:Aa}{k:Nat}(h:Gz (W9 x) m m2):J0 m2 k x=J0 m k x:=by
 cases x<;>simp only[J0]<;>first|rfl|exact Zym h
theorem Z9t{x y:Aa}{n:Nat}(h:Gz ft m m2)(p:∀b,b∈W9 x->b∈ft)(a:Pn m n x y=some m'):∃f,Pn m2 n x y=some f/\Bb ft m m' m2 f:=by
 cases x<;>simp only[Pn]at a<;>first|(cases a;done)|skip
 rename_i b i j;have d:b∈ft:=p b (by simp[W9]);simp only[Pn,h b d];split at a<;>first|(cases a;done)|skip
 rename_i b' q r cs e l;injection e with h1 h2 h3
 subst h1;subst h2;subst h3;split at a<;>first|(cases a;done)|skip
 rename_i k els o;split at a<;>first|(cases a;done)|skip
 rename_i row c;split at a<;>first|(cases a;done)|skip
 rename_i g;injection a with a
 subst a;simp only[h b d,o,c];rw[iP g];exact⟨_,rfl,(Bb.refl h).set d⟩
theorem Yfs{k c:Nat}{s:Aa}{xs:List (List Aa)}(h:Gz ft m m2)(i:id∈ft)(p:∀b,b∈W9 s->b∈ft)(a:D5 id k c m s xs=some (v,m')) :
 ∃o,D5 id k c m2 s xs=some (v,o)/\Bb ft m m' m2 o:=by
 cases s<;>simp only[D5]at a<;>first|(cases a;done)|skip
 ·split at a
  ·rename_i f;simp only[oI,AT]at a;obtain⟨d,e⟩:=a;subst d;subst e;exact⟨m2,by simp[D5,f],Bb.refl h⟩
  rename_i f;split at a<;>first|(cases a;done)|skip
  rename_i j;simp only[oI,AT]at a;obtain⟨d,e⟩:=a;subst d;subst e;exact⟨_,by simp only[D5,f,if_false,j];rfl,(Bb.refl h).set i⟩
 ·split at a
  ·rename_i f;simp only[oI,AT]at a;obtain⟨d,e⟩:=a;subst d;subst e;exact⟨m2,by simp[D5,f],Bb.refl h⟩
  rename_i f;split at a<;>first|(cases a;done)|skip
  rename_i j;simp only[oI,AT]at a;obtain⟨d,e⟩:=a;subst d;subst e;exact⟨_,by simp only[D5,f,if_false,j];rfl,(Bb.refl h).set i⟩
 rename_i b off len;have l:b∈ft:=p b (by simp[W9]);simp only[D5,h b l];split at a<;>first|(cases a;done)|skip
 rename_i r els q;split at a<;>first|(cases a;done)|skip
 rename_i j;rw[iP j];split at a
 ·rename_i g;rw[iP g];simp only[oI,AT]at a;obtain⟨d,e⟩:=a;subst d;subst e;exact⟨_,rfl,(Bb.refl h).set l⟩
 rename_i g;rw[iN g];split at a<;>first|(cases a;done)|skip
 rename_i n;rw[iP n];simp only[oI,AT]at a;obtain⟨d,e⟩:=a;subst d;subst e;exact⟨_,rfl,((Bb.refl h).del l).set i⟩
theorem OM{o:Option Aa}{m':Mem}(h:Gz ft m m2)(a:(match o with|some v=>some (v,m)|none=>none)=some (v,m')) :
 ∃b,(match o with|some v=>some (v,m2)|none=>none)=some (v,b)/\Bb ft m m' m2 b:=by
 cases o with
 |none=>cases a
 |some w=>
  simp only[oI,AT]at a;obtain⟨c,d⟩:=a;subst c;subst d;exact⟨m2,rfl,Bb.refl h⟩
theorem mW{op:Ba}(B:Gz (F7 t op) m m2)(h:Gz (P5 id t op) m m2)(g:Ae id t m op=some (v,m')):∃D,Ae id t m2 op=some (v,D)/\Bb (P5 id t op) m m' m2 D:=by
 have keep:∀{o:Option (Aa×Mem)},o=some (v,m')->(∀w n,o=some (w,n)->n=m/\Ae id t m2 op=some (w,m2)) -> ∃D,Ae id t m2 op=some (v,D)/\Bb (P5 id t op) m m' m2 D:=by
  intro o P S;obtain⟨j,l⟩:=S v m' P;subst j;exact⟨m2,l,Bb.refl h⟩
 cases op with
 |Gl x=>exact keep g λw n r=>by simp only[Ae,oI,AT]at r ⊢; exact⟨r.2.symm,r.1,trivial⟩
 |pick c a b=>
  simp only[Ae]at g ⊢;split at g<;>first|(cases g;done)|skip
  all_goals
   simp only[oI,AT]at g;obtain⟨j,l⟩:=g;subst j;subst l;exact⟨m2,rfl,Bb.refl h⟩
 |box x=>
  simp only[Ae]at g ⊢;split at g<;>first|(cases g;done)|skip
  rename_i cs O;split at g<;>first|(cases g;done)|skip
  rename_i E;simp only[oI,AT]at g;obtain⟨j,l⟩:=g;subst j;subst l;simp only[E,if_true];exact⟨_,rfl,(Bb.refl h).set (by simp[P5])⟩
 |alloc z=>
  simp only[Ae,oI,AT]at g ⊢;obtain⟨j,l⟩:=g;subst j;subst l;exact⟨_,⟨rfl,rfl⟩,(Bb.refl h).set (by simp[P5])⟩
 |build z ps=>
  simp only[Ae]at g ⊢;split at g<;>first|(cases g;done)|skip
  simp only[oI,AT]at g;obtain⟨j,l⟩:=g;subst j;subst l;exact⟨m2,rfl,Bb.refl h⟩
 |Dq k len z ps=>
  simp only[Ae]at g ⊢;split at g<;>first|(cases g;done)|skip
  simp only[oI,AT]at g;obtain⟨j,l⟩:=g;subst j;subst l;exact⟨_,rfl,(Bb.refl h).set (by simp[P5])⟩
 |load n x=>
  simp only[Ae]at g ⊢;rw[Ybt B];exact OM h g
 |store n a x=>
  simp only[Ae]at g ⊢;split at g<;>first|(cases g;done)|skip
  rename_i m3 K;simp only[oI,AT]at g;obtain⟨j,l⟩:=g;subst j;subst l;obtain⟨U,M,N⟩:=Z9t h (λ_ A=>A) K;rw[M];exact⟨U,rfl,N⟩
 |CJ x=>
  simp only[Ae]at g ⊢;split at g<;>first|(cases g;done)|skip
  all_goals
   simp only[oI,AT]at g;obtain⟨j,l⟩:=g;subst j;subst l;exact⟨m2,rfl,Bb.refl h⟩
 |bin op e x y=>simp only[Ae]at g ⊢; exact OM h g
 |un op x=>simp only[Ae]at g ⊢; exact OM h g
 |Dp k x=>
  simp only[Ae]at g ⊢;split at g<;>first|(cases g;done)|skip
  simp only[oI,AT]at g;obtain⟨j,l⟩:=g;subst j;subst l;exact⟨m2,rfl,Bb.refl h⟩
 |Ef x=>
  simp only[Ae]at g ⊢;split at g<;>first|(cases g;done)|skip
  simp only[oI,AT]at g;obtain⟨j,l⟩:=g;subst j;subst l;exact⟨m2,rfl,Bb.refl h⟩
 |toStr x=>
  simp only[Ae]at g ⊢;rw[Zym B];split at g<;>first|(cases g;done)|skip
  rename_i rows J;split at g<;>first|(cases g;done)|skip
  rename_i s Q;simp only[oI,AT]at g;obtain⟨j,l⟩:=g;subst j;subst l;exact⟨m2,rfl,Bb.refl h⟩
 |DL fn a b=>exact keep g λw n r=>by simp only[Ae,oI,AT]at r ⊢; exact⟨r.2.symm,r.1,trivial⟩
 |mkMap=>
  simp only[Ae,oI,AT]at g ⊢;obtain⟨j,l⟩:=g;subst j;subst l;exact⟨_,⟨rfl,rfl⟩,(Bb.refl h).set (by simp[P5])⟩
 |CI k b z len cap=>
  simp only[Ae]at g ⊢;split at g<;>first|(cases g;done)|skip
  split at g<;>first|(cases g;done)|skip
  rename_i p;simp only[oI,AT]at g;obtain⟨j,l⟩:=g;subst j;subst l;simp only[p,and_self,if_true];exact⟨_,rfl,(Bb.refl h).set (by simp[P5])⟩
 |FZ x lo hi=>
  simp only[Ae]at g ⊢;split at g<;>first|(cases g;done)|skip
  split at g<;>first|(cases g;done)|skip
  simp only[oI,AT]at g;obtain⟨j,l⟩:=g;subst j;subst l;exact⟨m2,rfl,Bb.refl h⟩
 |Er k x lo hi V=>
  have q:Gz (W9 (ev t x)) m m2:=B;simp only[Ae]at g ⊢;split at g
  ·split at g<;>first|(cases g;done)|skip
   split at g<;>first|(cases g;done)|skip
   split at g<;>first|(cases g;done)|skip
   rename_i p;simp only[p,and_self,if_true];split at g
   all_goals
    rename_i L;simp only[oI,AT]at g;obtain⟨j,l⟩:=g;subst j;subst l;simp only[L,if_true,if_false];exact⟨m2,rfl,Bb.refl h⟩
  generalize ev t x=y at *;cases y<;>simp only at g ⊢ <;> first|(cases g;done)|skip
  case sl b off len=>
   rw[q b (by simp[W9])];split at g<;>first|(cases g;done)|skip
   split at g<;>first|(cases g;done)|skip
   rename_i p;simp only[p,and_self,if_true];split at g<;>first|(cases g;done)|skip
   simp only[oI,AT]at g;obtain⟨j,l⟩:=g;subst j;subst l;exact⟨m2,rfl,Bb.refl h⟩
  case Al els=>
   split at g<;>first|(cases g;done)|skip
   rename_i p;simp only[p,if_true];split at g<;>first|(cases g;done)|skip
   simp only[oI,AT]at g;obtain⟨j,l⟩:=g;subst j;subst l;exact⟨m2,rfl,Bb.refl h⟩
  all_goals
   split at g<;>first|(cases g;done)|skip
   simp only[oI,AT]at g;obtain⟨j,l⟩:=g;subst j;subst l;exact⟨m2,rfl,Bb.refl h⟩
 |Cg off x=>simp only[Ae]at g ⊢; exact OM h g
 |field off n x=>
  simp only[Ae]at g ⊢;split at g<;>first|(cases g;done)|skip
  exact OM h g
 |Dk k x i=>
  have q:Gz (W9 (ev t x)) m m2:=B;simp only[Ae]at g ⊢;generalize ev t x=y at *;split at g<;>first|(cases g;done)|skip
  ·rename_i b off len Z hi;rw[q b (by simp[W9])];split at g<;>first|(cases g;done)|skip
   split at g<;>first|(cases g;done)|skip
   rename_i p;simp only[p,and_self,if_true];simp only[oI,AT]at g;obtain⟨j,l⟩:=g;subst j;subst l;exact⟨m2,rfl,Bb.refl h⟩
  split at g<;>first|(cases g;done)|skip
  split at g<;>first|(cases g;done)|skip
  rename_i p;simp only[p,if_true];simp only[oI,AT]at g;obtain⟨j,l⟩:=g;subst j;subst l;exact⟨m2,rfl,Bb.refl h⟩
 |Fi n k x i=>
  simp only[Ae]at g ⊢;split at g<;>first|(cases g;done)|skip
  split at g<;>first|(cases g;done)|skip
  rename_i p;simp only[p,if_true];exact OM h g
 |Ej x i=>
  simp only[Ae]at g ⊢;split at g<;>first|(cases g;done)|skip
  split at g<;>first|(cases g;done)|skip
  simp only[oI,AT]at g;obtain⟨j,l⟩:=g;subst j;subst l;exact⟨m2,rfl,Bb.refl h⟩
 |Ei n k sz x i=>
  simp only[Ae]at g ⊢;split at g<;>first|(cases g;done)|skip
  split at g<;>first|(cases g;done)|skip
  rename_i p;simp only[p,if_true];exact OM h g
 |lookup F z ok x i=>
  have q:Gz (W9 (ev t x)) m m2:=B;simp only[Ae]at g ⊢;generalize ev t x=y at *;cases y<;>simp only at g ⊢ <;> first|(cases g;done)|skip
  case map b=>
   rw[q b (by simp[W9])];split at g<;>first|(cases g;done)|skip
   rename_i X u;split at u<;>first|(cases u;done)|skip
   rename_i Y;injection u with u
   subst u;split at g<;>first|(cases g;done)|skip
   rename_i I;simp only[oI,AT]at g;obtain⟨j,l⟩:=g;subst j;subst l;exact⟨m2,by simp only[I],Bb.refl h⟩
  all_goals
   split at g<;>first|(cases g;done)|skip
   rename_i I;simp only[oI,AT]at g;obtain⟨j,l⟩:=g;subst j;subst l;exact⟨m2,by simp only[I],Bb.refl h⟩
 |BX F C k w=>
  have q:Gz (W9 (ev t C)) m m2:=h;have hi:∀b,b∈W9 (ev t C)->b∈P5 id t (.BX F C k w):=λ_ A=>A;simp only[Ae]at g ⊢;generalize ev t C=y at *;cases y<;>simp only at g ⊢ <;> first|(cases g;done)|skip
  rename_i b;rw[q b (by simp[W9])];split at g<;>first|(cases g;done)|skip
  split at g<;>first|(cases g;done)|skip
  all_goals
   simp only[oI,AT]at g;obtain⟨j,l⟩:=g;subst j;subst l;exact⟨_,rfl,(Bb.refl h).set (hi b (by simp[W9]))⟩
 |ext x i=>
  simp only[Ae]at g ⊢;split at g<;>first|(cases g;done)|skip
  exact OM h g
 |append k G z s x=>
  have q:Gz (W9 (ev t x)) m m2:=B;simp only[Ae]at g ⊢;rw[Z5v q];split at g<;>first|(cases g;done)|skip
  exact Yfs h (by simp[P5]) (λb A=>by simp[P5,A]) g
 |copy k d s=>
  have q:Gz (W9 (ev t d)) m m2:=h;have hi:∀b,b∈W9 (ev t d)->b∈P5 id t (.copy k d s):=λ_ A=>A;have H:Gz (W9 (ev t s)) m m2:=B;simp only[Ae]at g ⊢;rw[Z5v H];generalize ev t d=y at *;split at g<;>first|(cases g;done)|skip
  rename_i b off len xs T;rw[q b (by simp[W9])];split at g<;>first|(cases g;done)|skip
  split at g<;>first|(cases g;done)|skip
  rename_i p;simp only[p,and_self,if_true];simp only[oI,AT]at g;obtain⟨j,l⟩:=g;subst j;subst l;exact⟨_,rfl,(Bb.refl h).set (hi b (by simp[W9]))⟩
 |clear k z x=>
  have q:Gz (W9 (ev t x)) m m2:=h;have hi:∀b,b∈W9 (ev t x)->b∈P5 id t (.clear k z x):=λ_ A=>A;simp only[Ae]at g ⊢;generalize ev t x=y at *;cases y<;>simp only at g ⊢ <;> first|(cases g;done)|skip
  case sl b off len=>
   rw[q b (by simp[W9])];split at g<;>first|(cases g;done)|skip
   split at g<;>first|(cases g;done)|skip
   rename_i p;simp only[p,and_self,if_true];simp only[oI,AT]at g;obtain⟨j,l⟩:=g;subst j;subst l;exact⟨_,rfl,(Bb.refl h).set (hi b (by simp[W9]))⟩
  all_goals
   simp only[oI,AT]at g;obtain⟨j,l⟩:=g;subst j;subst l;exact⟨m2,rfl,Bb.refl h⟩
 |El x=>
  simp only[Ae]at g ⊢;split at g<;>first|(cases g;done)|skip
  simp only[oI,AT]at g;obtain⟨j,l⟩:=g;subst j;subst l;exact⟨m2,rfl,Bb.refl h⟩
 |BW x=>
  simp only[Ae]at g ⊢;split at g<;>first|(cases g;done)|skip
  simp only[oI,AT]at g;obtain⟨j,l⟩:=g;subst j;subst l;exact⟨m2,rfl,Bb.refl h⟩
 |CH x=>
  have q:Gz (W9 (ev t x)) m m2:=B;simp only[Ae]at g ⊢;generalize ev t x=y at *;cases y<;>simp only at g ⊢ <;> first|(cases g;done)|skip
  case map b=>
   rw[q b (by simp[W9])];split at g<;>first|(cases g;done)|skip
   simp only[oI,AT]at g;obtain⟨j,l⟩:=g;subst j;subst l;exact⟨m2,rfl,Bb.refl h⟩
  all_goals
   simp only[oI,AT]at g;obtain⟨j,l⟩:=g;subst j;subst l;exact⟨m2,rfl,Bb.refl h⟩
 |Ek n=>exact keep g λw n r=>by simp only[Ae,oI,AT]at r ⊢; exact⟨r.2.symm,r.1,trivial⟩
 |Da V xs=>
  simp only[Ae]at g ⊢;split at g<;>first|(cases g;done)|skip
  exact OM h g
 |iface ty x=>exact keep g λw n r=>by simp only[Ae,oI,AT]at r ⊢; exact⟨r.2.symm,r.1,trivial⟩
 |FO F z C k=>simp[Ae]at g
 |Hq C s w=>simp[Ae]at g
 |delete F C k=>simp[Ae]at g
 |range x=>simp[Ae]at g
 |Hx x=>simp[Ae]at g
 |Gx x=>simp[Ae]at g
 |CM n k x lo hi=>simp[Ae]at g
 |BI k b z s x=>simp[Ae]at g
 |call f xs=>simp[Ae]at g
 |Dj x=>simp[Ae]at g
 |dead=>simp[Ae]at g
end
section
variable {P:Program} {W:Aq} {Φ:Ap} {ρ:AI} {w:World} {m m':Mem} {x:Aa} {a:Act} {t:List Aa} {ops:Array Oper}
theorem RL.put{v:Aa}{u:Value}(d:Option Nat)(e:RL Φ ρ t a.tmps)(f:R Φ ρ v u):RL Φ ρ (put t d v) (a.put d u).tmps:=by
 cases d with
 |none=>exact e
 |some d=>
  refine⟨by simp[AE.put,Act.put,e.1],λi x y b c=>?_⟩;simp only[AE.put,Act.put]at b c;rw[getElem?_set]at b;rw[getElem?_setIfInBounds]at c;by_cases h:d=i
  ·rw[iP h]at b c;subst h;split at b
   ·split at c
    ·injection b with b;injection c with c;subst b;subst c;exact f
    cases c
   cases b
  rw[iN h]at b c;exact e.2 i x y b c
theorem KZ(d:Option Nat)(u:Value):(a.put d u).defers=a.defers:=by
 cases d<;>rfl
theorem OR(u:RL Φ ρ t a.tmps){o:Oper}{g:Option (Nat×Bool)}{b:Bool}(e:IU ops o.guard=some g)(h:P7 t g=some b):Region.wanted o (yielded ops a.tmps)=b:=by
 unfold Region.wanted;cases k:o.guard with
 |none=>
  simp only[k,IU,oI]at e;subst e;simp only[P7,oI]at h;exact h
 |some w=>
  obtain⟨j,q⟩:=w;simp only[k,IU]at e;split at e<;>first|(cases e;done)|skip
  rename_i d r;injection e with e
  subst e;simp only[yielded,r,Option.bind_some];simp only[P7]at h;have i:=u.get d;split at h<;>first|(cases h;done)|skip
  ·rename_i b0 f;injection h with h
   subst h;rw[f]at i;have p:=Lh i;have:a.tmps[d]?=some (.bool b0):=by
    rcases lG d a.tmps.size with c|l
    ·rw[getElem?_eq_getElem c];simpa[Array.getD,c]using p
    simp[Array.getD,Nat.not_lt.2 l,undef]at p
   rw[this];simp
  rename_i f;injection h with h
  subst h;rw[f]at i;have m:∀b,a.tmps[d]? ≠ some (.bool b):=by
   intro b n;have:a.tmps.getD d undef=.bool b:=by
    have c:=(Array.getElem?_eq_some_iff.1 n).1;have:=(Array.getElem?_eq_some_iff.1 n).2;simpa[Array.getD,c]using this
   rw[this]at i;cases i
  cases s:a.tmps[d]? with
  |none=>simp
  |some v=>
   cases v<;>first|(exact absurd s (m _))|simp
theorem dN{id:Nat}{K:Act->World->Prop}{Q:Exit->Act->World->Prop}(q:RL Φ ρ t a.tmps)(p:Rel W Φ ρ m w)(n:ρ id=none)(g:id<m.next)(o:Oper)
 (h:Ae id t m (N8 P o)=some (x,m'))
 (i:∀e ρ' u w',Ext Φ ρ e ρ'->(∀b,b≠id->ρ b=none->ρ' b=none)->Rel W e ρ' m' w'->R e ρ' x u->K (a.put o.dst u) w'):o.wp P a w K Q:=by
 unfold N8 at h;cases f:HM P o with
 |none=>simp[f,Ae]at h
 |some op=>
  simp only[f,getD_some]at h;obtain⟨v,w',e,ρ',c,j,k,d,l⟩:=Z61 q p n g o op f h;unfold Oper.wp;rcases c with c|⟨c,rfl⟩
  ·rw[c];exact i _ _ _ _ j k d l
  rw[c];exact i _ _ _ _ j k d l
theorem nG{id:Nat}{K:Act->World->Prop}{Q:Exit->Act->World->Prop}(ht:RL Φ ρ t a.tmps)(hr:Rel W Φ ρ m w)(hn:ρ id=none)(V:id<m.next)(o:Oper){f:Ah}{xs:List Ah}(H:N8 P o=.call f xs){g:FuncId}{args:List Aa}(z:callee t f xs=some (g,args))
 {KA:Aa->Mem->Prop}(h:Aw P g args m [id] KA)
 (hK:∀A ρ' x m' u w',Ext Φ ρ A ρ'->(∀b,b<m.next->b≠id->ρ b=none->ρ' b=none)->Rel W A ρ' m' w'->R A ρ' x u->m.next<=m'.next->KA x m'->K (a.put o.dst u) w'):o.wp P a w K Q:=by
 have Az:∃c of,o.op=.call c/\c.callee=.value of/\X5 of=some f/\Jc c.args.toList=some xs:=by
  unfold N8 at H;cases d:HM P o with
  |none=>simp[d]at H
  |some op=>
   simp only[d,getD_some]at H;subst H;unfold HM at d;split at d<;>first|(cases d;done)|(simp only[mO]at d;obtain⟨_,_,d⟩:=d;cases d;done)|skip
   case h_26 c hoc=>
    unfold La at d;split at d
    ·rename_i of I;split at d
     ·rename_i g' ac S G;injection d with d
      injection d with B C
      subst B;subst C;exact⟨c,of,hoc,I,S,G⟩
     cases d
    all_goals (repeat' (split at d<;>first|(cases d;done)|skip))
    all_goals (first|(cases d;done)|(simp only[mO]at d;obtain⟨_,_,d⟩:=d;cases d;done)|skip)
   all_goals (repeat' (split at d<;>first|(cases d;done)|skip))
   all_goals (first|(cases d;done)|(simp only[mO]at d;obtain⟨_,_,d⟩:=d;cases d;done)|skip)
 obtain⟨c,of,Z,I,Y,ab⟩:=Az;have p:=Q1 ht Y;unfold callee at z;split at z<;>first|(cases z;done)|skip
 rename_i g' first cap L;injection z with z
 injection z with B C
 subst B;subst C;rw[L]at p;generalize aa:a.eval of=vv at p;cases p with
 |func _ _ _ vf vc M d O CG=>
  have j:=Wq ht ab;have J:RL Φ ρ (first++xs.map (ev t)++cap) (vf++c.args.map a.eval++vc):=by
   refine⟨by simp only[size_append,lA];rw[M,d,j.1],λi y v s l=>?_⟩;have U:(vf++c.args.map a.eval).size=(first++xs.map (ev t)).length:=by simp only[size_append,lA];rw[M,j.1]
   rw[getElem?_append]at s;rw[Array.getElem?_append]at l;rw[U]at l;split at s
   ·rename_i E;rw[iP E]at l;rw[getElem?_append]at s;rw[Array.getElem?_append,M]at l;split at s
    ·rename_i D;rw[iP D]at l;exact O i y v s l
    rename_i D;rw[iN D]at l;exact j.2 _ y v s l
   rename_i T;rw[iN T]at l;exact CG _ y v s l
  have hC:=h.2 W Φ ρ _ w hr J (λb n=>by simp only[List.mem_singleton]at n;subst n;exact⟨hn,V⟩);obtain⟨fn,N,q,k⟩:=h.1;unfold Oper.wp;have F:(execOp a.eval o).run P w=.ok (.enter g' (vf++c.args.map a.eval++vc)) w:=by
   unfold execOp;rw[Z];simp only[resolve,I,aa,Deferred.ofValue,Sem.run_bind,Sem.run_pure,Result.andThen_ok,invoke,callFunc];cases n:fn.body with
   |none=>rw[n]at k;cases k
   |some b=>simp[program,Sem.run,N,n];simpa using q
  rw[F];refine hC.mono λe w' he=>?_;obtain⟨v,r,m',A,ρ',rfl,B,C,D,h4,h5,h6⟩:=he;exact hK A ρ' r m' v w' B (λb n X=>C b n (by simpa using X)) D h4 h5 h6
theorem VO(P:Program)(ops:Array Oper):∀(l:List Oper) (as:List Ag),D7 P ops l=some as ->
 as.length=l.length /\ ∀(i:Nat) (o:Oper) (b:Ag),l[i]?=some o->as[i]?=some b->b.dst=o.dst/\b.op=N8 P o/\IU ops o.guard=some b.guard
 |[],as,h=>by
  simp only[D7,oI]at h;subst h;exact⟨rfl,λi o b hi=>by simp at hi⟩
 |o::l,as,h=>by
  simp only[D7]at h;cases c:IU ops o.guard with
  |none=>simp[c]at h
  |some g=>
   cases e:D7 P ops l with
   |none=>simp[c,e]at h
   |some d=>
    simp only[c,e,oI]at h;subst h;obtain⟨f,j⟩:=VO P ops l d e;refine⟨by simp[f],λi k b hi a=>?_⟩;cases i with
    |zero=>
     simp only[getElem?_cons_zero,oI]at hi a;subst hi;subst a;exact⟨rfl,rfl,c⟩
    |succ i=>
     simp only[getElem?_cons_succ]at hi a;exact j i k b hi a
theorem yq{base i:Nat}{b:Ag}{a:List Ag}{K:AY->Prop}(h:I7 P base (b::a) i K t m) :
 (P7 t b.guard=some false/\I7 P base a (i+1) K (put t b.dst Ai) m) \/
 (P7 t b.guard=some true/\((∃f xs g args,b.op=.call f xs/\callee t f xs=some (g,args)/\Aw P g args m [base+i] λv m'=>I7 P base a (i+1) K (put t b.dst v) m') \/
   (∃v m',Ae (base+i) t m b.op=some (v,m')/\I7 P base a (i+1) K (put t b.dst v) m'))):=by
 simp only[I7]at h;cases k:P7 t b.guard with
 |none=>simp[k]at h
 |some q=>
  cases q with
  |false=>simp only[k]at h;exact .inl ⟨rfl,h⟩
  |true=>
   simp only[k]at h;refine .inr ⟨rfl,?_⟩;have d:∀op,b.op=op->(match Ae (base+i) t m op with|some (v,m')=>I7 P base a (i+1) K (put t b.dst v) m'|none=>False) ->
    ∃v m',Ae (base+i) t m op=some (v,m')/\I7 P base a (i+1) K (put t b.dst v) m':=by
    intro op _ j;cases l:Ae (base+i) t m op with
    |none=>simp[l]at j
    |some r=>obtain ⟨v,m'⟩:=r;simp only[l]at j;exact⟨v,m',rfl,j⟩
   cases c:b.op with
   |call f xs=>
    simp only[c]at h;cases e:callee t f xs with
    |none=>simp[e]at h
    |some r=>
     obtain⟨g,args⟩:=r;simp only[e]at h;exact .inl ⟨f,xs,g,args,rfl,e,h⟩
   |_=>rw[c]at h;exact .inr (d _ c h)
theorem iH{id:Nat}{op:Ba}{v:Aa}(h:Ae id t m op=some (v,m')):m'.next=m.next:=by
 obtain⟨_,_,a⟩:=mW (m2:=m) (λ_ _=>rfl) (λ_ _=>rfl) h;exact a.n1
theorem fJ(W:Aq)(base:Nat)(n0:Nat)(ops:Array Oper)(Q:Exit->AY->Prop)(y:Ap)(s:AI)(B:n0<=base) :
 ∀(l:List Oper) (as:List Ag) (i:Nat) (t:List Aa) (m:Mem) (Φ:Ap) (ρ:AI) (a:Act) (w:World),
  as.length=l.length->(∀(j:Nat) (o:Oper) (b:Ag),l[j]?=some o->as[j]?=some b->b.dst=o.dst/\b.op=N8 P o/\IU ops o.guard=some b.guard) ->
  I7 P base as i (Q .normal) t m->Rel W Φ ρ m w->RL Φ ρ t a.tmps->a.defers=[]->Ext y s Φ ρ->Bq n0 s ρ->(∀j,i<=j->j<i+as.length->ρ (base+j)=none)->base+i+as.length<=m.next->n0<=m.next ->
  wpList P ops (lift W y s n0 Q) l a w
 |[],[],i,t,m,Φ,ρ,a,w,_,_,h,I,n,C,D,E,_,_,J=>⟨⟨t,m⟩,Φ,ρ,D,E,J,I,n,C,h⟩
 |[],_::_,_,_,_,_,_,_,_,F,_,_,_,_,_,_,_,_,_,_=>by simp at F
 |_::_,[],_,_,_,_,_,_,_,F,_,_,_,_,_,_,_,_,_,_=>by simp at F
 |o::l,b::as,i,t,m,Φ,ρ,a,w,F,hg,h,I,n,C,D,E,d,DB,J=>by
  obtain⟨L,V,X⟩:=hg 0 o b rfl rfl;have p:∀(j:Nat) (o:Oper) (b:Ag),l[j]?=some o->as[j]?=some b->b.dst=o.dst/\b.op=N8 P o/\IU ops o.guard=some b.guard:=λj o b ho B=>hg (j+1) o b (by simpa using ho) (by simpa using B);have q:as.length=l.length:=by simpa using F
  simp only[lC]at DB d;have G:base+i<m.next:=by omega
  have H:ρ (base+i)=none:=d i (lR _) (by omega);unfold wpList;rcases yq h with⟨T,z⟩|⟨T,z⟩
  ·rw[OR n X T,iN (by simp)];rw[<-L];exact fJ W base n0 ops Q y s B l as (i+1) _ m Φ ρ _ w q p z I (n.put b.dst (MI Φ ρ)) (by rw[KZ];exact C) D E (λj Y Z=>d j (by omega) (by omega)) (by omega) J
  rw[OR n X T,iP rfl];refine .inl ?_;rcases z with⟨f,xs,g,args,O,Bn,hA⟩|⟨v,m',S,z⟩
  ·refine nG n I H G o (by rw[<-V];exact O) Bn hA λK ρ' x m' u w' A e r U k hW=>?_;rw[<-L];exact fJ W base n0 ops Q y s B l as (i+1) _ m' K ρ' _ w' q p hW r ((n.ext A).put b.dst U) (by rw[KZ];exact C) (D.trans A) (λc N M=>e c (by omega) (by omega) (E c N M))
    (λj Y Z=>e _ (by omega) (by omega) (d j (by omega) (by omega))) (by omega) (by omega)
  have k:=iH S;rw[V]at S;refine dN n I H G o S λK ρ' u w' A e r U=>?_;rw[<-L];exact fJ W base n0 ops Q y s B l as (i+1) _ m' K ρ' _ w' q p z r ((n.ext A).put b.dst U) (by rw[KZ];exact C) (D.trans A) (λc N M=>e c (by omega) (E c N M))
   (λj Y Z=>e _ (by omega) (d j (by omega) (by omega))) (by rw[k];omega) (by rw[k];exact J)
theorem Rel.at_{n:Nat}(h:Rel W Φ ρ m w)(c:m.next<=n):Rel W Φ ρ (m.at n) w:=
 ⟨h.base,h.AX,h.live,h.inj,λb l a=>by have:=h.fresh b l a;simp only[Mem.GQ];omega,h.BH⟩
theorem vn{id:Nat}{Q:Exit->AY->Prop}{σ:AY}(h:CP P (Y1 P (.region id ops false)) Q σ):KT P (.region id ops false) Q σ:=by
 intro W Φ ρ a w c i f;simp only[Y1]at h;cases b:D7 P ops ops.toList with
 |none=>simp[b,CP]at h
 |some as=>
  simp only[b,CP]at h;obtain⟨d,e⟩:=VO P ops _ _ b;refine wp_region_list (fJ W σ.m.next σ.m.next ops Q Φ ρ (lR _) ops.toList as 0 σ.t _ Φ ρ a w d e h (c.at_ (by omega)) i f (.refl _ _) (.refl _ _) ?_ (by simp) (by simp));intro j _ _;cases g:ρ (σ.m.next+j)with
  |none=>rfl
  |some l=>have:=c.fresh _ _ g;omega
end
theorem bG{t t2:List Aa}{xs:List Ah}(h:∀x,x∈xs->ev t x=ev t2 x):xs.map (ev t)=xs.map (ev t2):=List.map_congr_left h
theorem fW{t t2:List Aa}{d:Nat}{o:Option Ah}(h:∀x,x∈o.toList->ev t x=ev t2 x):C7 t d o=C7 t2 d o:=by
 cases o with
 |none=>rfl
 |some x=>simp only[C7];rw[h x (by simp)]
theorem yQ{t t2:List Aa}{n a:Nat}{lo hi:Option Ah}(b:∀x,x∈lo.toList->ev t x=ev t2 x)(c:∀x,x∈hi.toList->ev t x=ev t2 x):F0 t n a lo hi=F0 t2 n a lo hi:=by
 simp only[F0,fW b,fW c]
theorem Zx9{id:Nat}{t:List Aa}{op:Ba}(h:op.kind=0):P5 id t op=[]/\F7 t op=[]:=by
 cases op<;>first|exact⟨rfl,rfl⟩|(exfalso;revert h;simp[Ba.kind];done)
theorem Yhc{id:Nat}{t:List Aa}{op:Ba}(h:op.kind<=1):P5 id t op=[]:=by
 cases op<;>first|rfl|(exfalso;revert h;simp[Ba.kind];done)
theorem Yam{id:Nat}{t t2:List Aa}{m:Mem}{op:Ba}(h:∀x,x∈op.AS->ev t x=ev t2 x):Ae id t m op=Ae id t2 m op:=by
 cases op with
 |build z ps=>
  have:(ps.map λp=>(p.1,p.2.1,ev t p.2.2))=ps.map λp=>(p.1,p.2.1,ev t2 p.2.2):=List.map_congr_left λp l=>by rw[h p.2.2 (mM.2 ⟨p,l,rfl⟩)]
  simp only[Ae,this]
 |Dq k len z ps=>
  have:(ps.map λp=>(p.1,ev t p.2))=ps.map λp=>(p.1,ev t2 p.2):=List.map_congr_left λp l=>by rw[h p.2 (mM.2 ⟨p,l,rfl⟩)]
  simp only[Ae,this]
 |DL fn a b=>
  simp only[Ae,bG (λx u=>h x (List.mem_append_left _ u)),bG (λx u=>h x (List.mem_append_right _ u))]
 |Da w xs=>
  cases xs with
  |nil=>rfl
  |cons x r=>
   simp only[Ae];rw[h x (by simp[Ba.AS]),bG (λy d=>h y (by simp[Ba.AS,d]))]
 |FZ x lo hi=>
  have g:∀y,y∈lo.toList->ev t y=ev t2 y:=λy d=>h y (by simp only[Ba.AS,mC,mem_append];exact .inr (.inl d));have j:∀y,y∈hi.toList->ev t y=ev t2 y:=λy d=>h y (by simp only[Ba.AS,mC,mem_append];exact .inr (.inr d));simp only[Ae,h x (by simp[Ba.AS]),yQ g j]
 |Er k x lo hi w=>
  have g:∀y,y∈lo.toList->ev t y=ev t2 y:=λy d=>h y (by simp only[Ba.AS,mC,mem_append];exact .inr (.inl (.inl d)));have j:∀y,y∈hi.toList->ev t y=ev t2 y:=λy d=>h y (by simp only[Ba.AS,mC,mem_append];exact .inr (.inl (.inr d)));have A:∀y,y∈w.toList->ev t y=ev t2 y:=λy d=>h y (by simp only[Ba.AS,mC,mem_append];exact .inr (.inr d));cases w with
  |none=>
   simp only[Ae,h x (by simp[Ba.AS])];cases ev t2 x<;>simp only[yQ g j]
  |some z=>
   simp only[Ae,h x (by simp[Ba.AS]),fW g,fW (o:=some z) (λy d=>A y d)];cases hi with
   |none=>cases S7 (ev t2 x)<;>cases C7 t2 0 (some z)<;>cases C7 t2 0 lo<;>rfl
   |some q=>
    have B:=j q (by simp);cases S7 (ev t2 x)<;>cases C7 t2 0 (some z)<;>cases C7 t2 0 lo<;>simp only[B]
 |CM n k x lo hi=>rfl
 |call f xs=>rfl
 |alloc z=>rfl
 |mkMap=>rfl
 |Ek n=>rfl
 |Dj x=>rfl
 |dead=>rfl
 |FO v z a b=>rfl
 |Hq a b c=>rfl
 |delete v a b=>rfl
 |range a=>rfl
 |Hx a=>rfl
 |Gx a=>rfl
 |BI k b z s x=>rfl
 |Gl x=>simp only[Ae,h x (by simp[Ba.AS])]
 |box x=>simp only[Ae,h x (by simp[Ba.AS])]
 |load n x=>simp only[Ae,h x (by simp[Ba.AS])]
 |CJ x=>simp only[Ae,h x (by simp[Ba.AS])]
 |un op x=>simp only[Ae,h x (by simp[Ba.AS])]
 |Dp k x=>simp only[Ae,h x (by simp[Ba.AS])]
 |Ef x=>simp only[Ae,h x (by simp[Ba.AS])]
 |toStr x=>simp only[Ae,h x (by simp[Ba.AS])]
 |Cg off x=>simp only[Ae,h x (by simp[Ba.AS])]
 |field off n x=>simp only[Ae,h x (by simp[Ba.AS])]
 |ext x i=>simp only[Ae,h x (by simp[Ba.AS])]
 |El x=>simp only[Ae,h x (by simp[Ba.AS])]
 |BW x=>simp only[Ae,h x (by simp[Ba.AS])]
 |CH x=>simp only[Ae,h x (by simp[Ba.AS])]
 |iface ty x=>simp only[Ae,h x (by simp[Ba.AS])]
 |clear k z x=>simp only[Ae,h x (by simp[Ba.AS])]
 |pick c a b=>simp only[Ae,h c (by simp[Ba.AS]),h a (by simp[Ba.AS]),h b (by simp[Ba.AS])]
 |store n a x=>simp only[Ae,h a (by simp[Ba.AS]),h x (by simp[Ba.AS])]
 |bin op e a x=>simp only[Ae,h a (by simp[Ba.AS]),h x (by simp[Ba.AS])]
 |CI k b z a x=>simp only[Ae,h a (by simp[Ba.AS]),h x (by simp[Ba.AS])]
 |Dk k a x=>simp only[Ae,h a (by simp[Ba.AS]),h x (by simp[Ba.AS])]
 |Fi n k a x=>simp only[Ae,h a (by simp[Ba.AS]),h x (by simp[Ba.AS])]
 |Ej a x=>simp only[Ae,h a (by simp[Ba.AS]),h x (by simp[Ba.AS])]
 |Ei n k C a x=>simp only[Ae,h a (by simp[Ba.AS]),h x (by simp[Ba.AS])]
 |lookup v z ok a x=>simp only[Ae,h a (by simp[Ba.AS]),h x (by simp[Ba.AS])]
 |append k b z a x=>simp only[Ae,h a (by simp[Ba.AS]),h x (by simp[Ba.AS])]
 |copy k a x=>simp only[Ae,h a (by simp[Ba.AS]),h x (by simp[Ba.AS])]
 |BX v a b c=>simp only[Ae,h a (by simp[Ba.AS]),h b (by simp[Ba.AS]),h c (by simp[Ba.AS])]
theorem Yen{t t2:List Aa}{f:Ah}{xs:List Ah}(h:∀x,x∈(Ba.call f xs).AS->ev t x=ev t2 x):callee t f xs=callee t2 f xs:=by
 have a:xs.map (ev t)=xs.map (ev t2):=bG λy b=>h y (by simp only[Ba.AS,mC];exact .inr b);simp only[callee,h f (by simp[Ba.AS]),a]
def Ij(p:Nat→Bool):Nat→Option Nat
 | 0=>none
 | n+1=>if p n then some n else Ij p n
theorem Qm{p q:Nat->Bool}:∀(n:Nat),(∀j,j<n->p j=q j)->Ij p n=Ij q n
 |0,_=>rfl
 |n+1,h=>by
  simp only[Ij];rw[h n (Nat.lt_succ_self n),Qm n λj a=>h j (Nat.lt_succ_of_lt a)]
theorem Z5j{p:Nat->Bool}{i:Nat}(hi:p i=true):∀(n:Nat),i<n->(∀j,i<j->j<n->p j=false)->Ij p n=some i
 |0,h,_=>absurd h (Nat.not_lt_zero _)
 |n+1,h,b=>by
  simp only[Ij];by_cases a:i=n
  ·subst a;rw[iP hi]
  rw[b n (by omega) (Nat.lt_succ_self n)];simp only[bF,if_false];exact Z5j hi n (by omega) λj c d=>b j c (by omega)
theorem Ykl{P:Program}{f:FuncId}{args:List Aa}{id:Nat}{x:List Nat}{m U:Mem}{v:Aa}(ae:id∉x)(wN:∀c,c∈x->U.get c=none)(hn:m.next<=U.next)
 (h:Aw P f args (m.less x) [id] λv' K=>v'=v/\K=U) {m2:Mem}(G:∀c,c∉x->m2.get c=m.get c) (X:m2.next=m.next) :
 Aw P f args m2 [id] λv' K=>v'=v/\K=⟨λc=>if c∈x then m2.get c else U.get c,U.next⟩:=by
 refine⟨h.1,λW Φ ρ vs w t ha BE=>?_⟩;have C:∀B,(∃c l,c∈x/\(∃y,m2.get c=some y)/\ρ c=some l/\l.blk=B) \/ ¬(∃c l,c∈x/\(∃y,m2.get c=some y)/\ρ c=some l/\l.blk=B):=λB=>Classical.em _;have D:∃g:Nat->Option Obj,∀B,((∃c l,c∈x/\(∃y,m2.get c=some y)/\ρ c=some l/\l.blk=B)->g B=w.heap[B]?)/\(¬(∃c l,c∈x/\(∃y,m2.get c=some y)/\ρ c=some l/\l.blk=B)->g B=W.g B):=by
  refine⟨λB=>@ite _ (∃c l,c∈x/\(∃y,m2.get c=some y)/\ρ c=some l/\l.blk=B) (Classical.propDecidable _) (w.heap[B]?) (W.g B),λB=>⟨λh=>?_,λh=>?_⟩⟩
  ·simp only[h,if_true]
  simp only[h,if_false]
 obtain⟨g,D⟩:=D
 let W':Aq:=⟨W.w,g,Φ⟩
 have q:∀B,W'.Cu B->W.Cu B:=by
  intro B p;refine⟨p.1,?_⟩;rcases C B with a|a
  ·obtain⟨c,l,L,⟨y,n⟩,T,I⟩:=a;obtain⟨l',o,s,F,_⟩:=t.live c y n;rw[T]at s;injection s with s;subst s
   rw[<-I];exact F.2
  have:=(D B).2 a;have k:g B=none:=p.2;rw[this]at k;exact k
 have J:∀B o,g B=some o->w.heap[B]?=some o:=by
  intro B o p;rcases C B with a|a
  ·rw[(D B).1 a]at p;exact p
  rw[(D B).2 a]at p;exact t.base.Ci B o p
 have ac:Rel W' Φ ρ (m.less x) w:=by
  refine⟨⟨t.base.below,J⟩,t.AX,λb y n=>?_,λb b' y E l l' a k=>?_,λb l H=>by have:=t.fresh b l H;rw[X]at this;exact this,λB c p=>.inl p⟩
  ·simp only[Mem.less]at n;by_cases i:b∈x
   ·rw[iP i]at n;cases n
   rw[iN i,<-G b i]at n;obtain⟨l,o,s,F,N,O,Q⟩:=t.live b y n;refine⟨l,o,s,⟨F.1,?_⟩,N,O,Q⟩;rcases C l.blk with a|a
   ·obtain⟨c,l',L,⟨E,ad⟩,T,I⟩:=a;have:=t.inj c b E y l' l ad n T s I;exact absurd (this ▸ L) i
   show g l.blk=none;rw[(D _).2 a];exact F.2
  simp only[Mem.less]at a k;by_cases i:b∈x
  ·rw[iP i]at a;cases a
  by_cases d:b'∈x
  ·rw[iP d]at k;cases k
  rw[iN i,<-G b i]at a;rw[iN d,<-G b' d]at k;exact t.inj b b' y E l l' a k
 refine(h.2 W' Φ ρ vs w ac ha (λb H=>⟨(BE b H).1,by have:=(BE b H).2;rw[X]at this;exact this⟩)).mono λe w' M=>?_;obtain⟨u,r,m4,V,ρ',e1,hE,hk,j,hR,af,aa,ab⟩:=M;subst ab;refine⟨u,r,_,V,ρ',e1,hE,λb H=>hk b (by rw[X]at H;exact H),?_,hR,by rw[X];exact hn,aa,rfl⟩;have z:∀c l y,c∈x->m2.get c=some y->ρ c=some l->g l.blk=w.heap[l.blk]?:=λc l y L n T=>(D _).1 ⟨c,l,L,⟨y,n⟩,T,rfl⟩;have Y:∀c y,c∈x->m2.get c=some y -> ∃l o,ρ' c=some l/\ρ c=some l/\W.Cu l.blk/\g l.blk=some o/\V l.blk=none/\w'.heap[l.blk]?=some o/\BR V ρ' y l o:=by
  intro c y L n;obtain⟨l,o,s,F,N,O,Q⟩:=t.live c y n;have DT:g l.blk=some o:=by rw[z c l y L n s];exact O
  refine⟨l,o,hE.CN _ _ s,s,F,DT,?_,j.base.Ci _ _ DT,Q.ext hE⟩;cases hp:V l.blk with
  |none=>rfl
  |some cc=>
   rcases j.BH _ _ hp with a|a
   ·have S:Φ l.blk=some cc:=a;rw[N]at S;cases S
   have:g l.blk=none:=a.2;rw[DT]at this;cases this
 refine⟨⟨j.base.below,λB o p=>j.base.Ci B o ?_⟩,j.AX,λb y n=>?_,λb b' y E l l' a k k1 Z M=>?_,j.fresh,λB c p=>?_⟩
 ·rcases C B with a|a
  ·show g B=some o;rw[(D B).1 a];exact t.base.Ci B o p
  show g B=some o;rw[(D B).2 a];exact p
 ·simp only at n;by_cases i:b∈x
  ·rw[iP i]at n;obtain⟨l,o,A,_,q3,_,q5,q6,q7⟩:=Y b y i n;exact⟨l,o,A,q3,q5,q6,q7⟩
  rw[iN i]at n;obtain⟨l,o,s,F,N,O,Q⟩:=j.live b y n;exact⟨l,o,s,q _ F,N,O,Q⟩
 ·simp only at a k;by_cases i:b∈x
  ·rw[iP i]at a;obtain⟨l1,o1,A,q2,_,q4,_⟩:=Y b y i a;rw[k1]at A;injection A with A;subst A
   by_cases d:b'∈x
   ·rw[iP d]at k;obtain⟨l2,o2,p1,p2,_,p4,_⟩:=Y b' E d k;rw[Z]at p1;injection p1 with p1;subst p1
    exact t.inj b b' y E l l' a k q2 p2 M
   rw[iN d]at k;obtain⟨l2,o2,p1,p2,_,p4,_⟩:=j.live b' E k;rw[Z]at p1;injection p1 with p1;subst p1
   have:g l'.blk=none:=p2.2;rw[<-M,q4]at this;cases this
  rw[iN i]at a;obtain⟨l1,o1,A,q2,_,q4,_⟩:=j.live b y a;rw[k1]at A;injection A with A;subst A
  by_cases d:b'∈x
  ·rw[iP d]at k;obtain⟨l2,o2,p1,p2,_,p4,_⟩:=Y b' E d k;rw[Z]at p1;injection p1 with p1;subst p1
   have:g l.blk=none:=q2.2;rw[M,p4]at this;cases this
  rw[iN d]at k;exact j.inj b b' y E l l' a k k1 Z M
 rcases j.BH B c p with a|a
 ·exact t.BH B c a
 exact .inr (q B a)
end Go.AE
