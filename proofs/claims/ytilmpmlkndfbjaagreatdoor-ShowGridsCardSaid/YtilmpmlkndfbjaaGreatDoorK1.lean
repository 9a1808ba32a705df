/- Part 1 of the proof: AeA, AeB, AeC, AeD, AeE, AeF, AeG, AeH, AeI, AeJ, AeK, AeL, AeM, AeN, AeO, AeP, AeQ, AeR, AeS, AeLoc, AeT, AeU, AeFr. -/
import Derived.WalkKit
import Derived.Deep.LoopGhost
import Derived.Scope
import Derived.Laws.StructEq
import Derived.Lib.Strings
import Derived.IntWalk
import Derived.Laws.Small
set_option linter.all false
theorem oI{α}{a b:α}:(some a=some b)=(a=b):=Option.some.injEq a b
theorem AP{α β}{a c:α}{b d:β}:((a,b)=(c,d))=(a=c∧b=d):=Prod.mk.injEq a b c d
theorem gE{α}{l:List α}{i:Nat}(h:i<l.length):l[i]?=some l[i]:=List.getElem?_eq_getElem h
theorem gS{α}{l:List α}{i:Nat}{a:α}:l[i]?=some a↔∃ h:i<l.length,l[i]=a:=List.getElem?_eq_some_iff
theorem bA(a b:Bool):((a&&b)=true)=(a=true∧b=true):=Bool.and_eq_true a b
theorem bF:(false=true)=False:=Bool.false_eq_true
theorem iN{c:Prop}{h:Decidable c}(hnc:¬c){α:Sort _}{t e:α}:ite c t e=e:=if_neg hnc
theorem iP{c:Prop}{h:Decidable c}(hc:c){α:Sort _}{t e:α}:ite c t e=t:=if_pos hc
theorem lR(n:Nat):n≤n:=Nat.le_refl n
theorem lM{α β}{as:List α}(f:α→β):(as.map f).length=as.length:=List.length_map f
theorem gM{α β}{f:α→β}{l:List α}{i:Nat}:(l.map f)[i]?=(l[i]?).map f:=List.getElem?_map
theorem tL{α}{l:List α}{i:Nat}(h:l.length≤i):l.take i=l:=List.take_of_length_le h
theorem mC{α}{a b:α}{l:List α}:a∈b::l↔a=b∨a∈l:=List.mem_cons
theorem mM{α β}{b:β}{f:α→β}{l:List α}:b∈l.map f↔∃a,a∈l∧f a=b:=List.mem_map
theorem lA{α}{as bs:List α}:(as++bs).length=as.length+bs.length:=List.length_append
theorem lC{α}{a:α}{as:List α}:(a::as).length=as.length+1:=List.length_cons
theorem mR{m n:Nat}:m∈List.range n↔m<n:=List.mem_range
theorem lG(a b:Nat):a<b∨a≥b:=Nat.lt_or_ge a b
theorem lK{α}{i:Nat}{l:List α}:(l.take i).length=min i l.length:=List.length_take
theorem mO{α β}{x:Option α}{f:α→β}{b:β}:x.map f=some b↔∃a,x=some a∧f a=b:=Option.map_eq_some_iff
section
namespace Go.AE
open Go.RowKit
inductive Aa where
 | bool (b:Bool)
 | int (k:IntKind) (n:Int)
 | str (s:List UInt8)
 | ptr (b i j:Nat)
 | AW (els:List (List Aa)) (i j:Nat)
 | nilPtr
 | Ai
 | emp
 | sl (b off len:Nat)
 | An (els:List (List Aa))
 | map (b:Nat)
 | Ay
 | func (fn:Fn) (first captured:List Aa)
 | nilFunc
 | DU (b:Nat)
 | atLeast (n:Nat)
 | iface (t:TypeId) (v:Aa)
 | nilIface
 | agg (cs:List Aa)
 | tuple (vs:List Aa)
 | bot
 deriving Inhabited
inductive Ag where
 | cells (k:Nat) (els:List (List Aa))
 | map (es:List (Aa×Aa×Nat)) (clock:Nat)
 | Cl (s:List UInt8) (pos:Nat)
 | Ca (m:Option Nat) (since:Nat) (seen:List Nat) (stepped:Nat)
 deriving Inhabited
structure Mem where
 get:Nat→Option Ag
 next:Nat
@[ext] theorem Mem.ext'{m m' : Mem}(h1 : ∀ b, m.get b = m'.get b)(h2 : m.next = m'.next) : m = m' := by
 cases m; cases m'; simp only[Mem.mk.injEq]; exact⟨funext h1,h2⟩
def Mem.set(m:Mem)(b:Nat)(x:Ag):Mem:={ m with get:=fun c=>if c=b then some x else m.get c }
def Mem.del(m:Mem)(b:Nat):Mem:={ m with get:=fun c=>if c=b then none else m.get c }
def Mem.at(m:Mem)(n:Nat):Mem:={ m with next:=n }
@[simp] theorem Mem.Ax(m : Mem)(b c : Nat)(x : Ag) : (m.set b x).get c = if c = b then some x else m.get c := rfl
@[simp] theorem Mem.Bo(m : Mem)(b c : Nat) : (m.del b).get c = if c = b then none else m.get c := rfl
@[simp] theorem Mem.get_at(m : Mem)(n c : Nat) : (m.at n).get c = m.get c := rfl
@[simp] theorem Mem.Vm(m : Mem)(b : Nat)(x : Ag) : (m.set b x).next = m.next := rfl
@[simp] theorem Mem.Gn(m : Mem)(b : Nat) : (m.del b).next = m.next := rfl
@[simp] theorem Mem.FV(m : Mem)(n : Nat) : (m.at n).next = n := rfl
@[simp] theorem Mem.xF(m : Mem)(n k : Nat) : (m.at n).at k = m.at k := rfl
@[simp] theorem Mem.XD(m : Mem) : m.at m.next = m := rfl
abbrev Ao:=Nat→Option (Array Value)
structure Loc where
 blk:Nat
 sh:Nat
 k:Nat
 n:Nat
abbrev AD:=Nat→Option Loc
inductive R (Φ:Ao) (ρ:AD):Aa→Value→Prop where
 | bool (b:Bool):R Φ ρ (.bool b) (.bool b)
 | int (k:IntKind) (n:Int):R Φ ρ (.int k n) (.int k n)
 | str (s:List UInt8):R Φ ρ (.str s) (.string ⟨⟨s⟩⟩)
 | ptr (b i j:Nat) (l:Loc) (h:ρ b=some l):R Φ ρ (.ptr b i j) (.pointer (some ⟨l.blk,(l.sh+i)*l.k+j,none⟩))
 | AW (els:List (List Aa)) (i j B o k:Nat) (c:Array Value) (f:Nat→Nat→Value) (hB:Φ B=some c)
  (hk:∀ (i:Nat) (row:List Aa),els[i]? = some row→row.length=k)
  (hc:∀ (i:Nat) (row:List Aa) (j:Nat) (x:Aa),els[i]? = some row→row[j]? = some x→c[o+i*k+j]? = some (f i j)∧(f i j).oneCell'=true)
  (hr:∀ (i:Nat) (row:List Aa) (j:Nat) (x:Aa),els[i]? = some row→row[j]? = some x→R Φ ρ x (f i j)) :
  R Φ ρ (.AW els i j) (.pointer (some ⟨B,o+i*k+j,none⟩))
 | nilPtr:R Φ ρ .nilPtr (.pointer none)
 | Ai:R Φ ρ .Ai (.slice none 0 0)
 | emp (a:Option Addr):R Φ ρ .emp (.slice a 0 0)
 | sl (b off len:Nat) (a:Option Addr) (cap:Nat) (l:Loc) (h:ρ b=some l) (hl:len≤cap) (hn:l.sh+off+cap=l.n)
  (hc:0<cap→a=some ⟨l.blk,(l.sh+off)*l.k,none⟩) (ha:a.isSome=true):R Φ ρ (.sl b off len) (.slice a len cap)
 | CQ (a:Option Addr) (cap:Nat) (h:0<cap → ∃ B o,a=some ⟨B,o,none⟩):R Φ ρ (.An []) (.slice a 0 cap)
 | An (els:List (List Aa)) (B o k cap:Nat) (c:Array Value) (f:Nat→Nat→Value) (hne:els≠[]) (hcap:els.length≤cap) (hB:Φ B=some c)
  (hk:∀ (i:Nat) (row:List Aa),els[i]? = some row→row.length=k)
  (hc:∀ (i:Nat) (row:List Aa) (j:Nat) (x:Aa),els[i]? = some row→row[j]? = some x→c[o+i*k+j]? = some (f i j)∧(f i j).oneCell'=true)
  (hr:∀ (i:Nat) (row:List Aa) (j:Nat) (x:Aa),els[i]? = some row→row[j]? = some x→R Φ ρ x (f i j)) :
  R Φ ρ (.An els) (.slice (some ⟨B,o,none⟩) els.length cap)
 | map (b:Nat) (l:Loc) (h:ρ b=some l):R Φ ρ (.map b) (.map (some l.blk))
 | Ay:R Φ ρ .Ay (.map none)
 | func (fn:Fn) (fs cs:List Aa) (vf vc:Array Value) (hf:vf.size=fs.length) (hc:vc.size=cs.length)
  (hfr:∀ (i:Nat) (x:Aa) (v:Value),fs[i]? = some x→vf[i]? = some v→R Φ ρ x v) (Dx:∀ (i:Nat) (x:Aa) (v:Value),cs[i]? = some x→vc[i]? = some v→R Φ ρ x v) :
  R Φ ρ (.func fn fs cs) (.func fn vf vc)
 | nilFunc:R Φ ρ .nilFunc .nilFunc
 | DU (b:Nat) (l:Loc) (h:ρ b=some l):R Φ ρ (.DU b) (.func (.yield l.blk) #[] #[])
 | atLeast (n c:Nat) (h:n≤c):R Φ ρ (.atLeast n) (.int .i64 c)
 | iface (t:TypeId) (x:Aa) (v:Value) (h:R Φ ρ x v):R Φ ρ (.iface t x) (.iface t v)
 | nilIface:R Φ ρ .nilIface .nilIface
 | agg (cs:List Aa) (vs:Array Value) (hs:vs.size=cs.length) (hr:∀ (i:Nat) (x:Aa) (v:Value),cs[i]? = some x→vs[i]? = some v→R Φ ρ x v):R Φ ρ (.agg cs) (.agg vs)
 | tuple (cs:List Aa) (vs:Array Value) (hs:vs.size=cs.length) (hr:∀ (i:Nat) (x:Aa) (v:Value),cs[i]? = some x→vs[i]? = some v→R Φ ρ x v):R Φ ρ (.tuple cs) (.tuple vs)
 | bot (v:Value):R Φ ρ .bot v
def RL(Φ:Ao)(ρ:AD)(xs:List Aa)(vs:Array Value):Prop:=vs.size=xs.length ∧ ∀(i:Nat) (x:Aa) (v:Value),xs[i]? = some x→vs[i]? = some v→R Φ ρ x v
structure Ext (Φ:Ao) (ρ:AD) (Am:Ao) (ρ':AD):Prop where
 AX:∀ B c,Φ B=some c→Am B=some c
 Fy:∀ b l,ρ b=some l→ρ' b=some l
theorem Ext.refl(Φ:Ao)(ρ:AD):Ext Φ ρ Φ ρ:=⟨fun _ _ h=>h,fun _ _ h=>h⟩
theorem Ext.trans{Φ Am Ec:Ao}{ρ ρ' CZ:AD}(h:Ext Φ ρ Am ρ')(h':Ext Am ρ' Ec CZ):Ext Φ ρ Ec CZ:=
 ⟨fun B c x=>h'.AX B c (h.AX B c x),fun b l x=>h'.Fy b l (h.Fy b l x)⟩
theorem R.ext{Φ Am:Ao}{ρ ρ':AD}(he:Ext Φ ρ Am ρ'){x:Aa}{v:Value}(h:R Φ ρ x v):R Am ρ' x v:=by
 induction h with
 | bool b=>exact .bool b
 | int k n=>exact .int k n
 | str s=>exact .str s
 | ptr b i j l h=>exact .ptr b i j l (he.Fy _ _ h)
 | AW els i j B o k c f hB hk hc _ ih=>exact .AW els i j B o k c f (he.AX _ _ hB) hk hc ih
 | nilPtr=>exact .nilPtr
 | Ai=>exact .Ai
 | emp a=>exact .emp a
 | sl b off len a cap l h hl hn hc ha=>exact .sl b off len a cap l (he.Fy _ _ h) hl hn hc ha
 | CQ a cap h=>exact .CQ a cap h
 | An els B o k cap c f hne hcap hB hk hc _ ih=>exact .An els B o k cap c f hne hcap (he.AX _ _ hB) hk hc ih
 | map b l h=>exact .map b l (he.Fy _ _ h)
 | Ay=>exact .Ay
 | func fn fs cs vf vc hf hc _ _ ih1 ih2=>exact .func fn fs cs vf vc hf hc ih1 ih2
 | nilFunc=>exact .nilFunc
 | DU b l h=>exact .DU b l (he.Fy _ _ h)
 | atLeast n c h=>exact .atLeast n c h
 | iface t x v _ ih=>exact .iface t x v ih
 | nilIface=>exact .nilIface
 | agg cs vs hs _ ih=>exact .agg cs vs hs ih
 | tuple cs vs hs _ ih=>exact .tuple cs vs hs ih
 | bot v=>exact .bot v
theorem RL.ext{Φ Am:Ao}{ρ ρ':AD}(he:Ext Φ ρ Am ρ'){xs:List Aa}{vs:Array Value}(h:RL Φ ρ xs vs):RL Am ρ' xs vs:=
 ⟨h.1,fun i x v hx hv=>(h.2 i x v hx hv).ext he⟩
def RowsIn(Φ:Ao)(ρ:AD)(els:List (List Aa))(sh k:Nat)(c:Array Value):Prop:=
 (∀(i:Nat) (row:List Aa),els[i]? = some row→row.length=k) ∧
 ∀(i:Nat) (row:List Aa) (j:Nat) (x:Aa),els[i]? = some row→row[j]? = some x → ∃ v,c[(sh+i)*k+j]? = some v∧v.oneCell'=true∧R Φ ρ x v
inductive BR (Φ:Ao) (ρ:AD):Ag→Loc→Obj→Prop where
 | cells (k:Nat) (els:List (List Aa)) (l:Loc) (c:Array Value) (e:TypeId) (hk:l.k=k) (hn:c.size=l.n*k) (hl:l.sh+els.length≤l.n)
  (hr:RowsIn Φ ρ els l.sh k c) (h1:∀ v,v∈c.toList→v.oneCell'=true):BR Φ ρ (.cells k els) l (.cells c e (0,0))
 | map (es:List (Aa×Aa×Nat)) (clock:Nat) (l:Loc) (en:Array MapEntry) (hs:en.size=es.length)
  (hr:∀ (i:Nat) (x:Aa×Aa×Nat),es[i]? = some x → ∃ y:MapEntry,en[i]? = some y∧R Φ ρ x.1 y.key∧R Φ ρ x.2.1 y.val∧y.born=x.2.2):BR Φ ρ (.map es clock) l (.map en clock)
 | Cl (s:List UInt8) (pos:Nat) (l:Loc):BR Φ ρ (.Cl s pos) l (.stringIter ⟨⟨s⟩⟩ pos)
 | DO (since:Nat) (seen:List Nat) (stepped:Nat) (l:Loc):BR Φ ρ (.Ca none since seen stepped) l (.mapIter none since seen.toArray stepped)
 | Ca (m:Nat) (lm:Loc) (since:Nat) (seen:List Nat) (stepped:Nat) (l:Loc) (h:ρ m=some lm) (h0:l.sh*l.k=0) :
  BR Φ ρ (.Ca (some m) since seen stepped) l (.mapIter (some lm.blk) since seen.toArray stepped)
theorem RowsIn.ext{Φ Am:Ao}{ρ ρ':AD}(he:Ext Φ ρ Am ρ'){els:List (List Aa)}{sh k:Nat}{c:Array Value}(h:RowsIn Φ ρ els sh k c):RowsIn Am ρ' els sh k c:=
 ⟨h.1,fun i row j x h1 h2=>let ⟨v,h3,h5,h4⟩:=h.2 i row j x h1 h2; ⟨v,h3,h5,h4.ext he⟩⟩
theorem BR.ext{Φ Am:Ao}{ρ ρ':AD}(he:Ext Φ ρ Am ρ'){x:Ag}{l:Loc}{o:Obj}(h:BR Φ ρ x l o):BR Am ρ' x l o:=by
 cases h with
 | cells k els l c e hk hn hl hr h1=>exact .cells k els l c e hk hn hl (hr.ext he) h1
 | map es clock l en hs hr=>exact .map es clock l en hs fun i x hx=>let ⟨y,h1,h2,h3,h4⟩:=hr i x hx; ⟨y,h1,h2.ext he,h3.ext he,h4⟩
 | Cl s pos l=>exact .Cl s pos l
 | DO a b c l=>exact .DO a b c l
 | Ca m lm a b c l h h0=>exact .Ca m lm a b c l (he.Fy _ _ h) h0
structure Ap where
 w:World
 g:Nat→Option Obj
 p:Ao
def Ap.Cd(W:Ap)(B:Nat):Prop:=W.w.heap.size≤B∧W.g B=none
structure Ap.Holds (W:Ap) (w:World):Prop where
 below:Below W.w.heap.size W.w w
 BU:∀ B o,W.g B=some o→w.heap[B]? = some o
theorem G4{w:World}{B:Nat}{o:Obj}(h:w.heap[B]? = some o):B<w.heap.size:=by
 rcases lG B w.heap.size with h'|h'
 ·exact h'
 ·rw[Array.getElem?_eq_none h']at h; cases h
theorem Ap.Holds.trans{W:Ap}{w w':World}(h:W.Holds w)(hb:Below w.heap.size w w'):W.Holds w':=
 ⟨h.below.trans (hb.mono h.below.size),fun B o hB=>by
  have ho:=h.BU B o hB;rw[hb.block B (G4 ho)]; exact ho⟩
theorem Ap.Holds.drew{W:Ap}{w:World}(h:W.Holds w):W.Holds w.drew:=⟨h.below.drew,h.BU⟩
structure Rel (W:Ap) (Φ:Ao) (ρ:AD) (m:Mem) (w:World):Prop where
 base:W.Holds w
 AX:∀ B c,Φ B=some c → ∃ e fz,w.heap[B]? = some (.cells c e fz)
 live:∀ b x,m.get b=some x → ∃ l o,ρ b=some l∧W.Cd l.blk∧Φ l.blk=none∧w.heap[l.blk]? = some o∧BR Φ ρ x l o
 inj:∀ b b' x x' l l',m.get b=some x→m.get b'=some x'→ρ b=some l→ρ b'=some l'→l.blk=l'.blk→b=b'
 fresh:∀ b l,ρ b=some l→b<m.next
 By:∀ B c,Φ B=some c→W.p B=some c∨W.Cd B
theorem Rel.drew{W:Ap}{Φ:Ao}{ρ:AD}{m:Mem}{w:World}(h:Rel W Φ ρ m w):Rel W Φ ρ m w.drew:=
 ⟨h.base.drew,h.AX,h.live,h.inj,h.fresh,h.By⟩
theorem Rel.below{W:Ap}{Φ:Ao}{ρ:AD}{m:Mem}{w w':World}(h:Rel W Φ ρ m w)(hb:Below w.heap.size w w'):Rel W Φ ρ m w':=by
 have hlt:∀ (B:Nat) (o:Obj),w.heap[B]? = some o→w'.heap[B]? = some o:=fun B o ho=>by
  have hB:B<w.heap.size:=by
   rcases lG B w.heap.size with h'|h'
   ·exact h'
   ·rw[Array.getElem?_eq_none h']at ho; cases ho
  rw[hb.block B hB]; exact ho
 refine⟨h.base.trans hb,fun B c hB=>?_,fun b x hx=>?_,h.inj,h.fresh,h.By⟩
 ·obtain⟨e,fz,ho⟩:=h.AX B c hB;exact⟨e,fz,hlt _ _ ho⟩
 ·obtain⟨l,o,h1,h2,h3,h4,h5⟩:=h.live b x hx;exact⟨l,o,h1,h2,h3,hlt _ _ h4,h5⟩
structure Mem.Sub (m' m:Mem):Prop where
 get:∀ b x,m'.get b=some x→m.get b=some x
 next:m.next≤m'.next
theorem Mem.Sub.refl(m:Mem):Mem.Sub m m:=⟨fun _ _ h=>h,lR _⟩
theorem Rel.sub{W:Ap}{Φ:Ao}{ρ:AD}{m m':Mem}{w:World}(h:Rel W Φ ρ m w)(hs:Mem.Sub m' m):Rel W Φ ρ m' w:=
 ⟨h.base,h.AX,fun b x hx=>h.live b x (hs.get b x hx),fun b b' x x' l l' h1 h2=>h.inj b b' x x' l l' (hs.get _ _ h1) (hs.get _ _ h2),fun b l hb=>Nat.lt_of_lt_of_le (h.fresh b l hb) hs.next,h.By⟩
end Go.AE
end
section
namespace Go.AE
open Go.RowKit
inductive Ah where
 | tmp (t:Nat)
 | const (v:Aa)
 | fn (f:FuncId)
 deriving Inhabited
inductive Ce where
 | int
 | str
 | bool
 deriving DecidableEq,Inhabited
inductive Fi where
 | num
 | bool
 | slice
 | func
 | map
 | ptr
 | flat (ks:List Ce)
 deriving Inhabited
inductive AQ where
 | Fp (x:Ah)
 | pick (c a b:Ah)
 | box (x:Ah)
 | alloc (zero:List Aa)
 | build (zero:List Aa) (parts:List (Nat×Nat×Ah))
 | CB (k len:Nat) (zero:List Aa) (parts:List (Nat×Ah))
 | load (n:Option Nat) (x:Ah)
 | store (n:Nat) (a x:Ah)
 | Ct (x:Ah)
 | bin (op:BinOp) (e:Fi) (x y:Ah)
 | un (op:UnOp) (x:Ah)
 | CF (k:IntKind) (x:Ah)
 | DH (x:Ah)
 | toStr (x:Ah)
 | Du (fn:Fn) (first captured:List Ah)
 | mkMap
 | Cf (k bytes:Nat) (zero:List Aa) (len cap:Ah)
 | Ew (x:Ah) (lo hi:Option Ah)
 | DB (k:Nat) (x:Ah) (lo hi mx:Option Ah)
 | Cv (n k:Nat) (x:Ah) (lo hi:Option Ah)
 | BH (off:Nat) (x:Ah)
 | field (off:Nat) (n:Option Nat) (x:Ah)
 | BI (k:Nat) (x i:Ah)
 | Er (n k:Nat) (x i:Ah)
 | DL (x i:Ah)
 | DK (n k:Nat) (sz:Option Nat) (x i:Ah)
 | lookup (kt:Ce) (zero:Aa) (ok:Bool) (x i:Ah)
 | BJ (kt:Ce) (m k v:Ah)
 | EV (kt:Ce) (zero:Aa) (m k:Ah)
 | Gh (m s v:Ah)
 | delete (kt:Ce) (m k:Ah)
 | range (x:Ah)
 | Gm (x:Ah)
 | FI (x:Ah)
 | ext (x:Ah) (i:Nat)
 | call (f:Ah) (args:List Ah)
 | append (k bytes:Nat) (zero:List Aa) (s x:Ah)
 | Bs (k bytes:Nat) (zero:List Aa) (s x:Ah)
 | copy (k:Nat) (d s:Ah)
 | clear (k:Nat) (zero:List Aa) (x:Ah)
 | DN (x:Ah)
 | BC (x:Ah)
 | Cs (x:Ah)
 | DM (n:Nat)
 | CO (x:Ah)
 | CK (mx:Bool) (xs:List Ah)
 | iface (t:TypeId) (x:Ah)
 | dead
 deriving Inhabited
structure Af where
 dst:Option Nat
 op:AQ
 guard:Option (Nat×Bool)
 un:List Nat
 deriving Inhabited
inductive Aq where
 | skip
 | region (draw:Bool) (ops:List Af)
 | seq (a b:Aq)
 | cond (c:Ah) (a b:Aq)
 | block (id:Nat) (c:Aq)
 | loop (c:Aq)
 | exit (id:Nat)
 | scope (c:Aq)
 | label (l:Nat)
 | ret
 | bad
 deriving Inhabited
structure Av where
 ntmps:Nat
 results:List (Nat×Option (Option Nat))
 body:Aq
 deriving Inhabited
def AQ.AJ:AQ→List Ah
 | .Fp x | .box x | .load _ x | .Ct x | .un _ x | .CF _ x | .DH x | .toStr x | .BH _ x | .field _ _ x | .range x | .Gm x | .FI x | .ext x _ | .DN x | .BC x | .Cs x | .iface _ x | .clear _ _ x | .CO x=>[x]
 | .pick c a b=>[c,a,b]
 | .alloc _ | .mkMap | .DM _ | .dead=>[]
 | .build _ ps=>ps.map fun p=>p.2.2
 | .CB _ _ _ ps=>ps.map fun p=>p.2
 | .store _ a x | .bin _ _ a x | .Cf _ _ _ a x | .BI _ a x | .Er _ _ a x | .DL a x | .DK _ _ _ a x | .lookup _ _ _ a x | .EV _ _ a x | .delete _ a x | .append _ _ _ a x | .Bs _ _ _ a x | .copy _ a x=>[a,x]
 | .Du _ a b=>a++b
 | .Ew x l h | .Cv _ _ x l h=>x :: (l.toList++h.toList)
 | .DB _ x l h m=>x :: (l.toList++h.toList++m.toList)
 | .BJ _ a b c | .Gh a b c=>[a,b,c]
 | .call f xs=>f :: xs
 | .CK _ xs=>xs
def AQ.kind:AQ→Nat
 | .Fp _ | .pick _ _ _ | .build _ _ | .Ct _ | .bin _ _ _ _ | .un _ _ | .CF _ _ | .DH _ | .Du _ _ _ | .Ew _ _ _ | .BH _ _ | .field _ _ _ | .Er _ _ _ _ | .DL _ _ | .DK _ _ _ _ _ | .ext _ _ | .DN _ | .BC _ | .DM _ | .CK _ _ | .iface _ _ | .CO _=>0
 | .load _ _ | .toStr _ | .DB _ _ _ _ _ | .BI _ _ _ | .lookup _ _ _ _ _ | .Cs _=>1
 | .box _ | .alloc _ | .CB _ _ _ _ | .mkMap | .Cf _ _ _ _ _=>2
 | _=>3
def Aj:Aa:=.tuple []
def ev(t:List Aa):Ah→Aa
 | .tmp i=>t.getD i Aj
 | .const v=>v
 | .fn f=>.func (.func f) [] []
def put(t:List Aa)(d:Option Nat)(v:Aa):List Aa:=
 match d with
 | some d=>t.set d v
 | none=>t
def Aa.cells:Aa→Option (List Aa)
 | .agg cs=>some cs
 | .bot=>none
 | v=>some [v]
def Aa.one:Aa→Bool
 | .agg _ | .tuple _ | .bot=>false
 | _=>true
def N6(row:List Aa)(j:Nat):List Aa→List Aa
 | []=>row
 | v :: r=>N6 (row.set j v) (j+1) r
def H9:List Aa→List (Nat×Nat×Aa)→Option (List Aa)
 | cells,[]=>some cells
 | cells,(off,size,v) :: r=>
  match v.cells with
  | some cs=>if cs.length=size∧off+size≤cells.length then H9 (N6 cells off cs) r else none
  | none=>none
def I8(k:Nat):List (List Aa)→List (Nat×Aa)→Option (List (List Aa))
 | els,[]=>some els
 | els,(i,v) :: r=>
  match v.cells with
  | some cs=>if cs.length=k∧i<els.length∧cs.all Aa.one then I8 k (els.set i cs) r else none
  | none=>none
def IB(m:Mem):Aa→Option (List Aa×Nat)
 | .ptr b i j=>match m.get b with
  | some (.cells _ els)=>match els[i]? with
   | some row=>some (row,j)
   | none=>none
  | _=>none
 | .AW els i j=>match els[i]? with
  | some row=>some (row,j)
  | none=>none
 | _=>none
def JJ(m:Mem)(n:Option Nat)(x:Aa):Option Aa:=
 match IB m x with
 | some (row,j)=>match n with
  | none=>row[j]?
  | some n=>if 0<n∧j+n≤row.length then some (.agg ((row.drop j).take n))else none
 | none=>none
def Lu(m:Mem)(n:Nat)(x v:Aa):Option Mem:=
 match x,v.cells with
 | .ptr b i j,some cs=>match m.get b with
  | some (.cells k els)=>match els[i]? with
   | some row=>if cs.length=n∧j+n≤row.length∧cs.all Aa.one then some (m.set b (.cells k (els.set i (N6 row j cs))))else none
   | none=>none
  | _=>none
 | _,_=>none
def A9(kt:Ce)(x y:Aa):Option Bool:=
 match kt,x,y with
 | .int,.int k a,.int k' b=>if k=k' then some (a == b)else none
 | .str,.str a,.str b=>some (a == b)
 | .bool,.bool a,.bool b=>some (a == b)
 | _,_,_=>none
def Nf:List Ce→List Aa→List Aa→Option Bool
 | [],[],[]=>some true
 | k :: ks,x :: xs,y :: ys=>match A9 k x y with
  | some true=>Nf ks xs ys
  | some false=>some false
  | none=>none
 | _,_,_=>none
def G3(kt:Ce)(k:Aa):List (Aa×Aa×Nat)→Option (Option (Nat×Aa×Nat))
 | []=>some none
 | (k',v,born) :: es=>match A9 kt k k' with
  | some true=>some (some (0,v,born))
  | some false=>match G3 kt k es with
   | some (some (i,r))=>some (some (i+1,r))
   | some none=>some none
   | none=>none
  | none=>none
def J7(m:Mem)(k:Nat):Aa→Option (List (List Aa))
 | .Ai | .emp=>some []
 | .An els=>if els.all (·.length == k)then some els else none
 | .sl b off len=>match m.get b with
  | some (.cells k' els)=>if k'=k∧off+len≤els.length then some ((els.drop off).take len)else none
  | _=>if len=0 then some []else none
 | _=>none
def WY(c:UInt8):List Aa:=[.int .u8 c.toNat]
def O9(m:Mem)(k:Nat):Aa→Option (List (List Aa))
 | .str s=>if k=1 then some (s.map WY)else none
 | x=>J7 m k x
def V9:Aa→Option Nat
 | .Ai | .emp=>some 0
 | .An els=>some els.length
 | .sl _ _ len=>some len
 | _=>none
def P7:Aa→Option Nat
 | .int _ n=>if 0≤n then some n.toNat else none
 | _=>none
def H1(t:List Aa)(d:Nat):Option Ah→Option Nat
 | none=>some d
 | some x=>P7 (ev t x)
def W6:Nat:=1048576
def I3(id k bytes:Nat)(m:Mem)(s:Aa)(xs:List (List Aa)):Option (Aa×Mem):=
 match s with
 | .Ai=>if xs=[]then some (.Ai,m)else if xs.length≤W6∧bytes≤W6 then some (.sl id 0 xs.length,m.set id (.cells k xs))else none
 | .emp=>if xs=[]then some (.emp,m)else if xs.length≤W6∧bytes≤W6 then some (.sl id 0 xs.length,m.set id (.cells k xs))else none
 | .sl b off len=>match m.get b with
  | some (.cells k' els)=>
   if k'=k∧off+len≤els.length∧(els.length=off+len∨off+len+xs.length≤els.length)then
    if off+len+xs.length≤els.length then
     some (.sl b off (len+xs.length),m.set b (.cells k (els.take (off+len)++xs++els.drop (off+len+xs.length))))
    else if len+xs.length≤W6∧bytes≤W6 then
     some (.sl id 0 (len+xs.length),(m.del b).set id (.cells k ((els.drop off).take len++xs)))
    else none
   else none
  | _=>none
 | _=>none
def S7(op:BinOp)(k:IntKind)(a b:Int):Option Aa:=
 match op with
 | .add=>some (.int k (k.wrap (a+b)))
 | .sub=>some (.int k (k.wrap (a - b)))
 | .mul=>some (.int k (k.wrap (a*b)))
 | .quo=>if b=0 then none else some (.int k (k.wrap (a.tdiv b)))
 | .rem=>if b=0 then none else some (.int k (a.tmod b))
 | .and=>some (.int k (k.wrap (BitVec.ofInt k.bits a &&& BitVec.ofInt k.bits b).toNat))
 | .or=>some (.int k (k.wrap (BitVec.ofInt k.bits a ||| BitVec.ofInt k.bits b).toNat))
 | .xor=>some (.int k (k.wrap (BitVec.ofInt k.bits a ^^^ BitVec.ofInt k.bits b).toNat))
 | .andNot=>some (.int k (k.wrap (BitVec.ofInt k.bits a &&& ~~~(BitVec.ofInt k.bits b)).toNat))
 | .eql=>some (.bool (decide (a=b)))
 | .neq=>some (.bool (!decide (a=b)))
 | .lss=>some (.bool (decide (a<b)))
 | .leq=>some (.bool (decide (a≤b)))
 | .gtr=>some (.bool (decide (b<a)))
 | .geq=>some (.bool (decide (b≤a)))
 | _=>none
def Hx(op:BinOp)(a b:List UInt8):Option Aa:=
 match op with
 | .add=>if a.length+b.length≤1099511627776 then some (.str (a++b))else none
 | .eql=>some (.bool (a == b))
 | .neq=>some (.bool (!(a == b)))
 | .lss=>some (.bool (Op.bytesLess a b))
 | .leq=>some (.bool (Op.bytesLess a b||a == b))
 | .gtr=>some (.bool (!(Op.bytesLess a b||a == b)))
 | .geq=>some (.bool (!Op.bytesLess a b))
 | _=>none
def H2:Fi→Aa→Option Bool
 | .slice,.Ai=>some true
 | .slice,.sl _ _ _=>some false
 | .slice,.An els=>if els.isEmpty then none else some false
 | .func,.nilFunc=>some true
 | .func,.func _ _ _=>some false
 | .map,.Ay=>some true
 | .map,.map _=>some false
 | .ptr,.nilPtr=>some true
 | .ptr,.ptr _ _ _=>some false
 | .ptr,.AW _ _ _=>some false
 | _,_=>none
def Lv(e:Fi)(x y:Aa):Option Bool:=
 match H2 e y with
 | some true=>H2 e x
 | _=>match H2 e x with
  | some true=>H2 e y
  | _=>none
def FG(e:Fi)(x y:Aa):Option Bool:=
 match e with
 | .num=>none
 | .bool=>match x,y with
  | .bool a,.bool b=>some (a == b)
  | _,_=>none
 | .flat ks=>match x,y with
  | .agg xs,.agg ys=>Nf ks xs ys
  | _,_=>none
 | e=>Lv e x y
def X4(op:BinOp)(e:Fi)(x y:Aa):Option Aa:=
 match op,x,y with
 | .shl,.int k a,.int _ b=>if b<0 then none else some (.int k (k.wrap (a*2 ^ (min b.toNat k.bits))))
 | .shr,.int k a,.int _ b=>if b<0 then none else some (.int k (a.fdiv (2 ^ (min b.toNat k.bits))))
 | op,.int k a,.int k' b=>if k=k' then S7 op k a b else none
 | op,.str a,.str b=>Hx op a b
 | .eql,x,y=>match FG e x y with
  | some b=>some (.bool b)
  | none=>none
 | .neq,x,y=>match FG e x y with
  | some b=>some (.bool (!b))
  | none=>none
 | _,_,_=>none
def Ga(op:UnOp)(x:Aa):Option Aa:=
 match op,x with
 | .neg,.int k n=>some (.int k (k.wrap (0 - n)))
 | .not,.bool b=>some (.bool (!b))
 | .xor,.int k n=>some (.int k (k.wrap (BitVec.ofInt k.bits (if k.signed then -1 else k.max) ^^^ BitVec.ofInt k.bits n).toNat))
 | _,_=>none
def F1(off:Nat):Aa→Option Aa
 | .ptr b i j=>some (.ptr b i (j+off))
 | .AW els i j=>some (.AW els i (j+off))
 | _=>none
def Iw(cs:List Aa)(off:Nat):Option Nat→Option Aa
 | none=>cs[off]?
 | some n=>if off+n≤cs.length then some (.agg ((cs.drop off).take n))else none
def KG(mx:Bool):Aa→List Aa→Option Aa
 | x,[]=>some x
 | .int k a,.int _ b :: r=>KG mx (.int k (if mx then (if b > a then b else a)else (if b<a then b else a))) r
 | _,_=>none
def LU:List (List Aa)→Option (List UInt8)
 | []=>some []
 | [.int .u8 n] :: r=>match LU r with
  | some l=>some (UInt8.ofNat n.toNat :: l)
  | none=>none
 | _=>none
def M9(t:List Aa)(len EY:Nat)(lo hi:Option Ah):Option (Nat×Nat):=
 match H1 t len hi with
 | some h=>if h≤EY then match H1 t 0 lo with
  | some l=>if l≤h then some (l,h)else none
  | none=>none
  else none
 | none=>none
def W2:Aa→List Nat
 | .ptr b _ _ | .sl b _ _ | .map b=>[b]
 | _=>[]
def T8(id:Nat)(t:List Aa):AQ→List Nat
 | .append _ _ _ s _=>id :: W2 (ev t s)
 | .copy _ d _=>W2 (ev t d)
 | .store _ a _=>W2 (ev t a)
 | .BJ _ m _ _=>W2 (ev t m)
 | .clear _ _ x=>W2 (ev t x)
 | .box _ | .alloc _ | .CB _ _ _ _ | .mkMap | .Cf _ _ _ _ _=>[id]
 | _=>[]
def L8(t:List Aa):AQ→List Nat
 | .append _ _ _ _ x=>W2 (ev t x)
 | .copy _ _ s=>W2 (ev t s)
 | .load _ x | .toStr x | .lookup _ _ _ x _ | .Cs x | .DB _ x _ _ _ | .BI _ x _=>W2 (ev t x)
 | _=>[]
def Ae(id:Nat)(t:List Aa)(m:Mem):AQ→Option (Aa×Mem)
 | .Fp x=>some (ev t x,m)
 | .pick c a b=>match ev t c with
  | .bool true=>some (ev t a,m)
  | .bool false=>some (ev t b,m)
  | _=>none
 | .box x=>match (ev t x).cells with
  | some cs=>if cs.all Aa.one then some (.ptr id 0 0,m.set id (.cells cs.length [cs]))else none
  | none=>none
 | .alloc zero=>some (.ptr id 0 0,m.set id (.cells zero.length [zero]))
 | .build zero parts=>match H9 zero (parts.map fun p=>(p.1,p.2.1,ev t p.2.2))with
  | some cs=>some (.agg cs,m)
  | none=>none
 | .CB k len zero parts=>match I8 k (List.replicate len zero) (parts.map fun p=>(p.1,ev t p.2))with
  | some els=>some (.sl id 0 len,m.set id (.cells k els))
  | none=>none
 | .load n x=>match JJ m n (ev t x)with
  | some v=>some (v,m)
  | none=>none
 | .store n a x=>match Lu m n (ev t a) (ev t x)with
  | some m'=>some (Aj,m')
  | none=>none
 | .Ct x=>match ev t x with
  | .ptr b i j=>some (.ptr b i j,m)
  | .AW els i j=>some (.AW els i j,m)
  | .func (.func f) a b=>some (.func (.func f) a b,m)
  | _=>none
 | .bin op e x y=>match X4 op e (ev t x) (ev t y)with
  | some v=>some (v,m)
  | none=>none
 | .un op x=>match Ga op (ev t x)with
  | some v=>some (v,m)
  | none=>none
 | .CF k x=>match ev t x with
  | .int _ n=>some (.int k (k.wrap n),m)
  | _=>none
 | .DH x=>match ev t x with
  | .str s=>some (.str s,m)
  | _=>none
 | .toStr x=>match J7 m 1 (ev t x)with
  | some rows=>match LU rows with
   | some s=>some (.str s,m)
   | none=>none
  | none=>none
 | .Du fn first captured=>some (.func fn (first.map (ev t)) (captured.map (ev t)),m)
 | .mkMap=>some (.map id,m.set id (.map [] 0))
 | .Cf k bytes zero len cap=>match P7 (ev t len),P7 (ev t cap)with
  | some l,some c=>if l≤c∧c≤W6∧bytes≤W6 then some (.sl id 0 l,m.set id (.cells k (List.replicate c zero)))else none
  | _,_=>none
 | .Ew x lo hi=>match ev t x with
  | .str s=>match M9 t s.length s.length lo hi with
   | some (l,h)=>some (.str ((s.take h).drop l),m)
   | none=>none
  | _=>none
 | .DB k x lo hi mx=>match mx with
  | some z=>match V9 (ev t x),H1 t 0 (some z),H1 t 0 lo,hi with
   | some n,some mx,some l,some h=>match P7 (ev t h)with
    | some h=>if l≤h∧h≤mx∧mx≤n then (if mx=0 then some (.emp,m)else some (.bot,m))else none
    | none=>none
   | _,_,_,_=>none
  | none=>match ev t x with
   | .Ai=>match M9 t 0 0 lo hi with
    | some _=>some (.Ai,m)
    | none=>none
   | .emp=>match M9 t 0 0 lo hi with
    | some _=>some (.emp,m)
    | none=>none
   | .An els=>if els.all (·.length == k)then match M9 t els.length els.length lo hi with
    | some (l,h)=>some (.An ((els.take h).drop l),m)
    | none=>none
    else none
   | .sl b off len=>match m.get b with
    | some (.cells k' els)=>if k'=k∧off+len≤els.length then match M9 t len (els.length - off) lo hi with
     | some (l,h)=>some (.sl b (off+l) (h - l),m)
     | none=>none
     else none
    | _=>none
   | _=>none
 | .Cv ..=>none
 | .BH off x=>match F1 off (ev t x)with
  | some v=>some (v,m)
  | none=>none
 | .field off n x=>match ev t x with
  | .agg cs=>match Iw cs off n with
   | some v=>some (v,m)
   | none=>none
  | _=>none
 | .BI k x i=>match ev t x,P7 (ev t i)with
  | .sl b off len,some i=>match m.get b with
   | some (.cells k' _)=>if k'=k∧i<len then some (.ptr b (off+i) 0,m)else none
   | _=>none
  | .An els,some i=>match els[i]? with
   | some row=>if row.length=k then some (.AW els i 0,m)else none
   | none=>none
  | _,_=>none
 | .Er n k x i=>match P7 (ev t i)with
  | some i=>if i<n then match F1 (i*k) (ev t x)with
   | some v=>some (v,m)
   | none=>none
   else none
  | none=>none
 | .DL x i=>match ev t x,P7 (ev t i)with
  | .str s,some i=>match s[i]? with
   | some c=>some (.int .u8 c.toNat,m)
   | none=>none
  | _,_=>none
 | .DK n k sz x i=>match ev t x,P7 (ev t i)with
  | .agg cs,some i=>if i<n then match Iw cs (i*k) sz with
   | some v=>some (v,m)
   | none=>none
   else none
  | _,_=>none
 | .lookup kt zero ok x i=>match (match ev t x with
  | .Ay=>some []
  | .map b=>match m.get b with
   | some (.map es _)=>some es
   | _=>none
  | _=>none)with
  | some es=>match G3 kt (ev t i) es with
   | some r=>
    let v:=match r with
     | some (_,v,_)=>v
     | none=>zero
    some (if ok then .tuple [v,.bool r.isSome]else v,m)
   | none=>none
  | none=>none
 | .BJ kt mp k v=>match ev t mp with
  | .map b=>match m.get b with
   | some (.map es clock)=>match G3 kt (ev t k) es with
    | some (some (i,_,born))=>some (Aj,m.set b (.map (es.set i (ev t k,ev t v,born)) clock))
    | some none=>some (Aj,m.set b (.map (es++[(ev t k,ev t v,clock)]) (clock+1)))
    | none=>none
   | _=>none
  | _=>none
 | .EV ..=>none
 | .Gh ..=>none
 | .delete ..=>none
 | .range _=>none
 | .Gm _=>none
 | .FI _=>none
 | .ext x i=>match ev t x with
  | .tuple vs=>match vs[i]? with
   | some v=>some (v,m)
   | none=>none
  | _=>none
 | .call _ _=>none
 | .append k bytes _ s x=>match O9 m k (ev t x)with
  | some xs=>I3 id k bytes m (ev t s) xs
  | none=>none
 | .Bs ..=>none
 | .copy k d s=>match ev t d,O9 m k (ev t s)with
  | .sl b off len,some xs=>match m.get b with
   | some (.cells k' els)=>if k'=k∧off+len≤els.length then
    let n:=min xs.length len
    some (.int .i64 n,m.set b (.cells k (els.take off++xs.take n++els.drop (off+n))))
    else none
   | _=>none
  | _,_=>none
 | .clear k zero x=>match ev t x with
  | .sl b off len=>match m.get b with
   | some (.cells k' els)=>if k'=k∧off+len≤els.length then
    some (Aj,m.set b (.cells k (els.take off++List.replicate len zero++els.drop (off+len))))
    else none
   | _=>none
  | .Ai=>some (Aj,m)
  | .emp=>some (Aj,m)
  | _=>none
 | .DN x=>match ev t x with
  | .str s=>some (.int .i64 s.length,m)
  | _=>none
 | .BC x=>match V9 (ev t x)with
  | some n=>some (.int .i64 n,m)
  | none=>none
 | .Cs x=>match ev t x with
  | .Ay=>some (.int .i64 0,m)
  | .map b=>match m.get b with
   | some (.map es _)=>some (.int .i64 es.length,m)
   | _=>none
  | _=>none
 | .DM n=>some (.int .i64 n,m)
 | .CO _=>none
 | .CK mx xs=>match xs with
  | []=>none
  | x :: r=>match KG mx (ev t x) (r.map (ev t))with
   | some v=>some (v,m)
   | none=>none
 | .iface ty x=>some (.iface ty (ev t x),m)
 | .dead=>none
end Go.AE
end
section
namespace Go.AE
open Go.RowKit
def II:Value→Option Aa
 | .bool b=>some (.bool b)
 | .int k n=>some (.int k n)
 | .string s=>some (.str s.data.toList)
 | .pointer none=>some .nilPtr
 | .slice none 0 0=>some .Ai
 | .map none=>some .Ay
 | .nilFunc=>some .nilFunc
 | .nilIface=>some .nilIface
 | .tuple vs=>if vs.size=0 then some Aj else none
 | _=>none
def QN:List Value→Option (List Aa)
 | []=>some []
 | v :: r=>match II v,QN r with
  | some x,some xs=>some (x :: xs)
  | _,_=>none
def IJ:Value→Option Aa
 | .agg cs=>match QN cs.toList with
  | some xs=>some (.agg xs)
  | none=>none
 | v=>II v
section
variable (P:Program)
def Y7:Operand→Option Ah
 | .tmp t=>some (.tmp t)
 | .const v=>match IJ v with
  | some x=>some (.const x)
  | none=>none
 | .func f=>some (.fn f)
 | .global _=>none
def A5:List Operand→Option (List Ah)
 | []=>some []
 | x :: r=>match Y7 x,A5 r with
  | some y,some ys=>some (y :: ys)
  | _,_=>none
def O8(t:TypeId):Option Nat:=(P.info? t).map (·.size)
def bD(t:TypeId):Option Nat:=(P.info? t).map (·.bytes)
def Ta(t:TypeId):Option Aa:=
 match P.info? t with
 | some i=>match i.zero with
  | some z=>IJ z
  | none=>none
 | none=>none
def Jr(t:TypeId):Option (List Aa):=
 match Ta P t with
 | some z=>match z.cells with
  | some cs=>if cs.all Aa.one then some cs else none
  | none=>none
 | none=>none
def JV(t:TypeId):Option (Option Nat):=
 match P.underlying t,P.info? t with
 | some (.struct _),some i|some (.array _ _),some i=>some (some i.size)
 | some _,some _=>some none
 | _,_=>none
def G7(t:TypeId):Option Ce:=
 match P.underlying t with
 | some (.int _)=>some .int
 | some .string=>some .str
 | some .bool=>some .bool
 | _=>none
def Ou:List Field→Nat→Option (List Ce)
 | [],_=>some []
 | f :: r,i=>if f.name != "_" && f.offset == i then match G7 P f.type,Ou r (i+1)with
  | some k,some ks=>some (k :: ks)
  | _,_=>none
  else none
def UL(t:TypeId):Option Fi:=
 match P.underlying t with
 | some .bool=>some .bool
 | some (.slice _)=>some .slice
 | some (.func _ _ _)=>some .func
 | some (.map _ _)=>some .map
 | some (.pointer _)=>some .ptr
 | some (.int _)|some .string=>some .num
 | some (.struct fs)=>if P.stoodInHeld t||P.eqGuardType P.depth t then none else match Ou P fs.toList 0 with
  | some ks=>some (.flat ks)
  | none=>none
 | _=>none
def OP(fs:List Field):List (Nat×Operand)→Option (List (Nat×Nat×Ah))
 | []=>some []
 | (i,x) :: r=>match fs[i]? with
  | some f=>match O8 P f.type,Y7 x,OP fs r with
   | some n,some y,some ys=>some ((f.offset,n,y) :: ys)
   | _,_,_=>none
  | none=>none
def OB(n:Nat):List (Nat×Operand)→Option (List (Nat×Nat×Ah))
 | []=>some []
 | (i,x) :: r=>match Y7 x,OB n r with
  | some y,some ys=>some ((i*n,n,y) :: ys)
  | _,_=>none
def Ox:List (Nat×Operand)→Option (List (Nat×Ah))
 | []=>some []
 | (i,x) :: r=>match Y7 x,Ox r with
  | some y,some ys=>some ((i,y) :: ys)
  | _,_=>none
def H8:Option Operand→Option (Option Ah)
 | none=>some none
 | some x=>match Y7 x with
  | some y=>some (some y)
  | none=>none
def A6(t:TypeId):Option (Nat×Nat×List Aa):=
 match P.underlying t with
 | some (.slice e)=>match O8 P e,bD P e,Jr P e with
  | some k,some b,some z=>if z.length=k∧0<k then some (k,b,z)else none
  | _,_,_=>none
 | _=>none
def Ix(c:Call):Option AQ:=
 match c.callee with
 | .value f=>match Y7 f,A5 c.args.toList with
  | some g,some xs=>some (.call g xs)
  | _,_=>none
 | .builtin .append=>match c.args.toList,c.argTypes.toList with
  | [s,x],[t,u]=>match A6 P t,Y7 s,Y7 x with
   | some (k,b,z),some s',some x'=>match P.underlying u with
    | some (.int _)=>some (.Bs k b z s' x')
    | some _=>some (.append k b z s' x')
    | none=>none
   | _,_,_=>none
  | _,_=>none
 | .builtin .copy=>match c.args.toList,c.argTypes.toList with
  | [d,s],[t,_]=>match A6 P t,Y7 d,Y7 s with
   | some (k,_,_),some d',some s'=>some (.copy k d' s')
   | _,_,_=>none
  | _,_=>none
 | .builtin .clear=>match c.args.toList,c.argTypes.toList with
  | [x],[t]=>match A6 P t,Y7 x with
   | some (k,_,z),some x'=>some (.clear k z x')
   | _,_=>none
  | _,_=>none
 | .builtin .len=>match c.args.toList,c.argTypes.toList with
  | [x],[t]=>match P.underlying t,Y7 x with
   | some (.array n _),_=>some (.DM n)
   | some .string,some y=>some (.DN y)
   | some (.slice _),some y=>some (.BC y)
   | some (.map _ _),some y=>some (.Cs y)
   | _,_=>none
  | _,_=>none
 | .builtin .cap=>match c.args.toList,c.argTypes.toList with
  | [x],[t]=>match P.underlying t,Y7 x with
   | some (.slice _),some y=>some (.CO y)
   | _,_=>none
  | _,_=>none
 | .builtin .min=>match A5 c.args.toList with
  | some xs=>some (.CK false xs)
  | none=>none
 | .builtin .max=>match A5 c.args.toList with
  | some xs=>some (.CK true xs)
  | none=>none
 | _=>none
def Gu(o:Oper):Option AQ:=
 match o.op with
 | .move x | .assign x=>(Y7 x).map .Fp
 | .pick c a b=>match Y7 c,Y7 a,Y7 b with
  | some c',some a',some b'=>some (.pick c' a' b')
  | _,_,_=>none
 | .alloc t=>(Jr P t).map .alloc
 | .box _ x=>(Y7 x).map .box
 | .build t ps=>match P.underlying t,Jr P t with
  | some (.struct fs),some z=>if fs.toList.all fun f=>(P.info? f.type).isSome then match OP P fs.toList ps.toList with
   | some qs=>some (.build z qs)
   | none=>none
   else none
  | some (.array _ e),some z=>match O8 P e with
   | some n=>match OB n ps.toList with
    | some qs=>some (.build z qs)
    | none=>none
   | none=>none
  | _,_=>none
 | .buildSlice t len ps=>match A6 P t,Ox ps.toList with
  | some (k,_,z),some qs=>if len*k≤2 ^ 24 then some (.CB k len z qs)else none
  | _,_=>none
 | .load t x=>match JV P t,Y7 x with
  | some n,some y=>some (.load n y)
  | _,_=>none
 | .store t a x=>match O8 P t,Y7 a,Y7 x with
  | some n,some a',some x'=>some (.store n a' x')
  | _,_,_=>none
 | .nilCheck x=>(Y7 x).map .Ct
 | .binOp op t x y _=>match Y7 x,Y7 y,UL P t with
  | some x',some y',some e=>some (.bin op e x' y')
  | _,_,_=>none
 | .unOp op _ x=>(Y7 x).map (.un op)
 | .convert s d x=>match P.underlying s,P.underlying d,Y7 x with
  | some (.int _),some (.int k),some y=>some (.CF k y)
  | some .string,some .string,some y=>some (.DH y)
  | some (.slice e),some .string,some y=>match P.underlying e with
   | some (.int .u8)=>some (.toStr y)
   | _=>none
  | _,_,_=>none
 | .makeFunc fn f c=>match A5 f.toList,A5 c.toList with
  | some f',some c'=>some (.Du fn f' c')
  | _,_=>none
 | .makeMap _ none=>some .mkMap
 | .makeSlice t l c=>match A6 P t,Y7 l,Y7 c with
  | some (k,b,z),some l',some c'=>some (.Cf k b z l' c')
  | _,_,_=>none
 | .slice t x lo hi mx=>match P.underlying t,Y7 x,H8 lo,H8 hi,H8 mx with
  | some .string,some x',some l,some h,some none=>some (.Ew x' l h)
  | some (.slice e),some x',some l,some h,some m=>match O8 P e with
   | some k=>some (.DB k x' l h m)
   | none=>none
  | some (.array n e),some x',some l,some h,some none=>match O8 P e with
   | some k=>some (.Cv n k x' l h)
   | none=>none
  | _,_,_,_,_=>none
 | .fieldAddr t x i=>match P.underlying t,Y7 x with
  | some (.struct fs),some y=>match fs[i]? with
   | some f=>match O8 P f.type with
    | some n=>if n≠0 then some (.BH f.offset y)else none
    | none=>none
   | none=>none
  | _,_=>none
 | .field t x i=>match P.underlying t,Y7 x with
  | some (.struct fs),some y=>match fs[i]? with
   | some f=>match JV P f.type with
    | some n=>some (.field f.offset n y)
    | none=>none
   | none=>none
  | _,_=>none
 | .indexAddr t x i=>match P.underlying t,Y7 x,Y7 i with
  | some (.slice e),some x',some i'=>match O8 P e with
   | some k=>some (.BI k x' i')
   | none=>none
  | some (.array n e),some x',some i'=>match O8 P e with
   | some k=>some (.Er n k x' i')
   | none=>none
  | _,_,_=>none
 | .index t x i=>match P.underlying t,Y7 x,Y7 i with
  | some .string,some x',some i'=>some (.DL x' i')
  | some (.array n e),some x',some i'=>match O8 P e,JV P e with
   | some k,some sz=>some (.DK n k sz x' i')
   | _,_=>none
  | _,_,_=>none
 | .lookup t x i ok=>match P.underlying t,Y7 x,Y7 i with
  | some (.map kt e),some x',some i'=>match G7 P kt,Ta P e with
   | some q,some z=>some (.lookup q z ok x' i')
   | _,_=>none
  | _,_,_=>none
 | .mapUpdate t m k v | .insert t m k v=>match P.underlying t,Y7 m,Y7 k,Y7 v with
  | some (.map kt _),some m',some k',some v'=>match G7 P kt with
   | some q=>some (.BJ q m' k' v')
   | none=>none
  | _,_,_,_=>none
 | .extract x i=>match Y7 x with
  | some y=>some (.ext y i)
  | none=>none
 | .call c=>Ix P c
 | .range t x=>match P.underlying t with
  | some (.map _ _)=>(Y7 x).map .range
  | _=>none
 | .next x false=>(Y7 x).map .FI
 | _=>none
def Q0(o:Oper):AQ:=(Gu P o).getD .dead
def A3(ops:Array Oper):Option (Nat×Bool)→Option (Option (Nat×Bool))
 | none=>some none
 | some (j,w)=>match (ops[j]?).bind (·.dst)with
  | some d=>some (some (d,w))
  | none=>none
def MO:List Nat→List Nat→List Nat
 | acc,[]=>acc
 | acc,x :: r=>if acc.contains x then MO acc r else MO (x :: acc) r
theorem Zf(j:Nat):∀ (l acc:List Nat),j∈MO acc l↔j∈acc∨j∈l
 | [],acc=>by simp[MO]
 | x :: r,acc=>by
  simp only[MO];split
  ·rename_i h;rw[Zf j r acc,mC];have hx:x∈acc:=by simpa using h
   constructor
   ·rintro(h|h)
    ·exact .inl h
    ·exact .inr (.inr h)
   ·rintro(h|rfl|h)
    ·exact .inl h
    ·exact .inl hx
    ·exact .inr h
  ·rw[Zf j r (x :: acc),mC,mC];constructor
   ·rintro((h|h)|h)
    ·exact .inr (.inl h)
    ·exact .inl h
    ·exact .inr (.inr h)
   ·rintro(h|h|h)
    ·exact .inl (.inr h)
    ·exact .inl (.inl h)
    ·exact .inr h
def IF(ops:List Oper):List (List Nat):=
 ops.foldl (fun acc o=>acc++[MO [] ((o.after.toList.filter (Region.binds .any)).flatMap fun e=>e.on :: acc.getD e.on [])]) []
def I1(ops:Array Oper):List Oper→Option (List Af)
 | []=>some []
 | o :: r=>match A3 ops o.guard,I1 ops r with
  | some g,some as=>some (⟨o.dst,Q0 P o,g,[]⟩ :: as)
  | _,_=>none
def XE(as:List Af)(Bj:List (List Nat))(j:Nat)(a:AQ):List Nat:=
 (List.range j).filter fun i=>!((Bj.getD j []).contains i)&&match as[i]? with
   | some x=>!(x.op.kind≤1&&a.kind≤1)&&x.op.kind != 0&&a.kind != 0
   | none=>false
def FO(as:List Af)(Bj:List (List Nat)):Nat→List Af→List Af
 | _,[]=>[]
 | j,a :: r=>⟨a.dst,a.op,a.guard,XE as Bj j a.op⟩ :: FO as Bj (j+1) r
def Af.looks(a:Af):List Nat:=
 (a.op.AJ.filterMap fun x=>match x with
   | .tmp i=>some i
   | _=>none)++match a.guard with
   | some (d,_)=>[d]
   | none=>[]
def Af.apart(x y:Af):Bool:=
 (match x.dst with
  | some d=>!(y.looks.contains d)&&y.dst != some d
  | none=>true) &&
 match y.dst with
 | some d=>!(x.looks.contains d)
 | none=>true
def SZ(ops:Array Oper)(as:List Af)(Bj:List (List Nat)):Bool:=
 ((List.range ops.size).all fun i=>match ops[i]? with
   | some o=>o.after.toList.all fun e=>!Region.binds .any e||decide (e.on<i)
   | none=>true) &&
 ((List.range ops.size).all fun j=>(List.range j).all fun i=>(Bj.getD j []).contains i||match as[i]?,as[j]? with
   | some x,some y=>x.apart y
   | _,_=>false)
def Y5:Code→Aq
 | .skip=>.skip
 | .region _ ops false=>match I1 P ops ops.toList with
  | some as=>.region false as
  | none=>.bad
 | .region _ ops true=>match I1 P ops ops.toList with
  | some as=>
   if SZ ops as (IF ops.toList)then .region true (FO as (IF ops.toList) 0 as)else .bad
  | none=>.bad
 | .seq a b=>.seq (Y5 a) (Y5 b)
 | .cond c a b=>match Y7 c with
  | some c'=>.cond c' (Y5 a) (Y5 b)
  | none=>.bad
 | .block id c=>.block id (Y5 c)
 | .loop c=>.loop (Y5 c)
 | .exit id=>.exit id
 | .scope c=>.scope (Y5 c)
 | .label _=>.skip
 | .ret=>.ret
 | _=>.bad
def Sr:ResultVar→Option (Nat×Option (Option Nat))
 | .tmp t=>some (t,none)
 | .cell a t=>(JV P t).map fun n=>(a,some n)
def Hu:List ResultVar→Option (List (Nat×Option (Option Nat)))
 | []=>some []
 | x :: r=>match Sr P x,Hu r with
  | some y,some ys=>some (y :: ys)
  | _,_=>none
def Bt(f:Func):Option Av:=
 match f.body with
 | some c=>match Hu P f.results.toList with
  | some rs=>if f.name == "runtime.NumGoroutine" then none else some ⟨f.ntmps,rs,Y5 P c⟩
  | none=>none
 | none=>none
end
end Go.AE
end
section
namespace Go.AE
open Go.RowKit
def Bl(n:Nat)(ρ ρ':AD):Prop:=∀ b,b<n→ρ b=none→ρ' b=none
theorem Bl.refl(n:Nat)(ρ:AD):Bl n ρ ρ:=fun _ _ h=>h
theorem Bl.trans{n n':Nat}{ρ ρ' CZ:AD}(h:Bl n ρ ρ')(h':Bl n' ρ' CZ)(hn:n≤n'):Bl n ρ CZ:=
 fun b hb h0=>h' b (Nat.lt_of_lt_of_le hb hn) (h b hb h0)
def Sa(P:Program)(f:FuncId):Prop:=∃ fn,P.funcs[f]? = some fn∧(fn.name == "runtime.NumGoroutine")=false∧fn.body.isSome=true
def Az(P:Program)(f:FuncId)(args:List Aa)(m:Mem)(av:List Nat)(K:Aa→Mem→Prop):Prop:=
 Sa P f ∧ ∀(W:Ap) (Φ:Ao) (ρ:AD) (vs:Array Value) (w:World),Rel W Φ ρ m w→RL Φ ρ args vs→(∀ b,b∈av→ρ b=none∧b<m.next) →
  Calls P f vs w fun e w'=>∃ v r m' Am ρ',e=.returned v∧Ext Φ ρ Am ρ'∧(∀ b,b<m.next→b∉av→ρ b=none→ρ' b=none) ∧
   Rel W Am ρ' m' w'∧R Am ρ' r v∧m.next≤m'.next∧K r m'
def Mem.less(m:Mem)(x:List Nat):Mem:={ m with get:=fun c=>if c∈x then none else m.get c }
def Nl(P:Program)(f:FuncId)(args:List Aa)(id:Nat)(x:List Nat)(m:Mem)(v:Aa)(m':Mem)(wl:List Nat):Prop:=
 ∃ m3:Mem,id∉x∧(∀ c,c∈x→m3.get c=none)∧m.next≤m3.next∧m'.next=m3.next∧(∀ c,m'.get c=if c∈x then m.get c else m3.get c) ∧
  (∀ c,c∉wl→c<m.next→c∉x→m3.get c=m.get c)∧Az P f args (m.less x) [id] fun v' m''=>v'=v∧m''=m3
inductive FT where
 | ops (w r:List Nat)
 | call (wl x:List Nat) (nx:Nat)
def FT.W:FT→Nat→Bool
 | .ops w _,c=>w.contains c
 | .call wl _ nx,c=>wl.contains c||decide (nx≤c)
def FT.R:FT→Nat→Bool
 | .ops _ r,c=>r.contains c
 | .call _ x _,c=>!x.contains c
def FT.Dy:FT→Bool
 | .ops _ _=>false
 | .call _ _ _=>true
def callee(t:List Aa)(f:Ah)(xs:List Ah):Option (FuncId×List Aa):=
 match ev t f with
 | .func (.func g) first cap=>some (g,first++xs.map (ev t)++cap)
 | _=>none
def T9(t:List Aa):Option (Nat×Bool)→Option Bool
 | none=>some true
 | some (d,w)=>match t.getD d Aj with
  | .bool b=>some (b == w)
  | .tuple []=>some false
  | _=>none
structure AO where
 t:List Aa
 m:Mem
structure AO.Ex (σ' σ:AO):Prop where
 next:σ.m.next≤σ'.m.next
 rel:∀ (W:Ap) (Φ:Ao) (ρ:AD) (vs:Array Value) (w:World),Rel W Φ ρ σ.m w→RL Φ ρ σ.t vs → ∃ Am,Ext Φ ρ Am ρ∧Rel W Am ρ σ'.m w∧RL Am ρ σ'.t vs
def N7(P:Program)(base:Nat):List Af→Nat→(AO→Prop)→List Aa→Mem→Prop
 | [],_,K,t,m=>K ⟨t,m⟩
 | o :: r,i,K,t,m=>
  match T9 t o.guard with
  | some false=>N7 P base r (i+1) K (put t o.dst Aj) m
  | some true=>
   match o.op with
   | .call f xs=>match callee t f xs with
    | some (g,args)=>Az P g args m [base+i] fun v m'=>N7 P base r (i+1) K (put t o.dst v) m'
    | none=>False
   | op=>match Ae (base+i) t m op with
    | some (v,m')=>N7 P base r (i+1) K (put t o.dst v) m'
    | none=>False
  | none=>False
def Iz(x:Nat):List Nat→Prop
 | []=>True
 | y :: r=>x≠y∧Iz x r
def E4:List Nat→List Nat→Prop
 | [],_=>True
 | x :: r,l=>Iz x l∧E4 r l
def A0(n:Nat):List Nat→Prop
 | []=>True
 | x :: r=>x<n∧A0 n r
def Jg(x:Nat):List Nat→Prop
 | []=>False
 | y :: r=>x=y∨Jg x r
def EC:List Nat→List Nat→Prop
 | [],_=>True
 | x :: r,l=>Jg x l∧EC r l
def FT.indep:FT→FT→Prop
 | .ops w r,.ops w' r'=>E4 w (r'++w')∧E4 r w'
 | .ops w r,.call wl x nx=>E4 r wl∧A0 nx r∧E4 w wl∧A0 nx w∧EC w x
 | .call wl x nx,.ops w r=>E4 r wl∧A0 nx r∧E4 w wl∧A0 nx w∧EC w x
 | .call _ _ _,.call _ _ _=>False
def O0(fs:List FT)(ft:FT):List Nat→Prop
 | []=>True
 | i :: r=>FT.indep (fs.getD i (.ops [] [])) ft∧O0 fs ft r
def R8(P:Program)(base:Nat):List Af→List FT→(AO→Prop)→List Aa→Mem→Prop
 | [],_,K,t,m=>K ⟨t,m⟩
 | o :: r,fs,K,t,m=>
  match T9 t o.guard with
  | some false=>R8 P base r (fs++[.ops [] []]) K (put t o.dst Aj) m
  | some true=>
   match o.op with
   | .call f xs=>match callee t f xs with
    | some (g,args)=>∃ wl x v m',Nl P g args (base+fs.length) x m v m' wl∧O0 fs (.call wl x m.next) o.un∧R8 P base r (fs++[.call wl x m.next]) K (put t o.dst v) m'
    | none=>False
   | op=>match Ae (base+fs.length) t m op with
    | some (v,m')=>O0 fs (.ops (T8 (base+fs.length) t op) (L8 t op)) o.un∧R8 P base r (fs++[.ops (T8 (base+fs.length) t op) (L8 t op)]) K (put t o.dst v) m'
    | none=>False
  | none=>False
def SB(next:AO→Prop)(Q:Exit→AO→Prop):Exit→AO→Prop
 | .normal,σ=>next σ
 | e,σ=>Q e σ
def Is(id:Nat)(Q:Exit→AO→Prop):Exit→AO→Prop
 | .exit id',σ=>if id'=id then Q .normal σ else Q (.exit id') σ
 | e,σ=>Q e σ
def Zn(Q:Exit→AO→Prop):Exit→AO→Prop
 | .goto _,_=>False
 | e,σ=>Q e σ
def Cy(P:Program):Aq→(Exit→AO→Prop)→AO→Prop
 | .skip,Q,σ=>Q .normal σ
 | .region false ops,Q,σ=>N7 P σ.m.next ops 0 (Q .normal) σ.t (σ.m.at (σ.m.next+ops.length))
 | .region true ops,Q,σ=>R8 P σ.m.next ops [] (Q .normal) σ.t (σ.m.at (σ.m.next+ops.length))
 | .seq a b,Q,σ=>Cy P a (SB (Cy P b Q) Q) σ
 | .cond c a b,Q,σ=>match ev σ.t c with
  | .bool true=>Cy P a Q σ
  | .bool false=>Cy P b Q σ
  | _=>False
 | .block id c,Q,σ=>Cy P c (Is id Q) σ
 | .loop c,Q,σ=>∃ (I:Nat→AO→Prop),(∃ n Fh,AO.Ex Fh σ∧I n Fh) ∧ ∀ n σ1,I n σ1→Cy P c (SB (fun σ'=>∃ k Fh,k<n∧AO.Ex Fh σ'∧I k Fh) Q) σ1
 | .exit id,Q,σ=>Q (.exit id) σ
 | .scope c,Q,σ=>Cy P c (Zn Q) σ
 | .label _,Q,σ=>Q .normal σ
 | .ret,Q,σ=>Q .ret σ
 | .bad,_,_=>False
def lift(W:Ap)(Φ:Ao)(ρ:AD)(n:Nat)(Q:Exit→AO→Prop)(e:Exit)(a:Act)(w:World):Prop:=
 ∃ σ Am ρ',Ext Φ ρ Am ρ'∧Bl n ρ ρ'∧n≤σ.m.next∧Rel W Am ρ' σ.m w∧RL Am ρ' σ.t a.tmps∧a.defers=[]∧Q e σ
def Ip(P:Program)(c:Code)(Q:Exit→AO→Prop)(σ:AO):Prop:=
 ∀(W:Ap) (Φ:Ao) (ρ:AD) (a:Act) (w:World),Rel W Φ ρ σ.m w→RL Φ ρ σ.t a.tmps→a.defers=[]→c.wp P (lift W Φ ρ σ.m.next Q) a w
end Go.AE
end
section
namespace Go.AE
open Go.RowKit
theorem RL.sub{Φ:Ao}{ρ:AD}{xs ys:List Aa}{vs:Array Value}(h:RL Φ ρ xs vs)(hl:ys.length=xs.length)(ht:∀ (i:Nat) (x:Aa),ys[i]? = some x→x=Aa.bot∨xs[i]? = some x):RL Φ ρ ys vs:=by
 refine⟨by rw[h.1,hl],fun i x v hx hv=>?_⟩
 rcases ht i x hx with rfl|h1
 ·exact .bot v
 ·exact h.2 i x v h1 hv
theorem AO.Ex.refl(σ:AO):AO.Ex σ σ:=⟨lR _,fun _ Φ _ _ _ hr ht=>⟨Φ,.refl _ _,hr,ht⟩⟩
theorem AO.Ex.GM{σ' σ:AO}(hl:σ'.t.length=σ.t.length)(ht:∀ (i:Nat) (x:Aa),σ'.t[i]? = some x→x=Aa.bot∨σ.t[i]? = some x)(hm:Mem.Sub σ'.m σ.m):AO.Ex σ' σ:=
 ⟨hm.next,fun _ Φ _ _ _ hr htt=>⟨Φ,.refl _ _,hr.sub hm,htt.sub hl ht⟩⟩
theorem rX{W:Ap}{Φ Am:Ao}{ρ ρ':AD}{n n':Nat}{Q:Exit→AO→Prop}{e:Exit}{a:Act}{w:World}(he:Ext Φ ρ Am ρ')(hk:Bl n ρ ρ')(hn:n≤n')
 (h:lift W Am ρ' n' Q e a w):lift W Φ ρ n Q e a w:=by
 obtain⟨σ,Ec,CZ,h1,h2,h3,h4,h5,h6,h7⟩:=h;exact⟨σ,Ec,CZ,he.trans h1,hk.trans h2 hn,Nat.le_trans hn h3,h4,h5,h6,h7⟩
theorem lH{W:Ap}{Φ:Ao}{ρ:AD}{n:Nat}{Q Q':Exit→AO→Prop}{e:Exit}{a:Act}{w:World}(h:lift W Φ ρ n Q e a w)(hq:∀ σ,Q e σ→Q' e σ):lift W Φ ρ n Q' e a w:=by
 obtain⟨σ,Ec,CZ,h1,h2,h3,h4,h5,h6,h7⟩:=h;exact⟨σ,Ec,CZ,h1,h2,h3,h4,h5,h6,hq σ h7⟩
theorem RL.get{Φ:Ao}{ρ:AD}{t:List Aa}{vs:Array Value}(h:RL Φ ρ t vs)(i:Nat):R Φ ρ (t.getD i Aj) (vs.getD i undef):=by
 rcases lG i t.length with hi|hi
 ·have h1:t[i]? = some t[i]:=gE hi;have hi':i<vs.size:=by rw[h.1]; exact hi
  have h2:vs[i]? = some vs[i]:=Array.getElem?_eq_getElem hi';have:=h.2 i _ _ h1 h2;simpa[List.getD,h1,Array.getD,hi']using this
 ·have h1:t[i]? = none:=List.getElem?_eq_none hi;have hi':¬i<vs.size:=by rw[h.1]; omega
  have e1:t.getD i Aj=Aj:=by simp[List.getD,h1]
  have e2:vs.getD i undef=undef:=by simp[Array.getD,hi']
  rw[e1,e2];exact .tuple [] #[] rfl (fun i x v hx=>by simp at hx)
theorem lP{v:Value}{x:Aa}(Φ:Ao)(ρ:AD)(h:II v=some x):R Φ ρ x v:=by
 unfold II at h;split at h<;>first|(cases h; done)|skip
 ·injection h with h; subst h; exact .bool _
 ·injection h with h; subst h; exact .int _ _
 ·injection h with h; subst h; rename_i s; cases s; rename_i d; cases d; exact .str _
 ·injection h with h; subst h; exact .nilPtr
 ·injection h with h; subst h; exact .Ai
 ·injection h with h; subst h; exact .Ay
 ·injection h with h; subst h; exact .nilFunc
 ·injection h with h; subst h; exact .nilIface
 ·rename_i vs;split at h
  ·rename_i h0;injection h with h; subst h
   exact .tuple [] vs (by simpa using h0) (fun i x v hx=>by simp at hx)
  ·cases h
theorem wQ(Φ:Ao)(ρ:AD):∀ (vs:List Value) (xs:List Aa),QN vs=some xs→xs.length=vs.length ∧ ∀(i:Nat) (x:Aa) (v:Value),xs[i]? = some x→vs[i]? = some v→R Φ ρ x v
 | [],xs,h=>by
  simp only[QN,oI]at h;subst h;exact⟨rfl,fun i x v hx=>by simp at hx⟩
 | v :: r,xs,h=>by
  simp only[QN]at h;cases h1:II v with
  | none=>simp[h1]at h
  | some y=>
   cases h2:QN r with
   | none=>simp[h1,h2]at h
   | some ys=>
    simp only[h1,h2,oI]at h;subst h;obtain⟨h3,h4⟩:=wQ Φ ρ r ys h2;refine⟨by simp[h3],fun i x v' hx hv=>?_⟩
    cases i with
    | zero=>
     simp only[List.getElem?_cons_zero,oI]at hx hv;subst hx; subst hv;exact lP Φ ρ h1
    | succ i=>
     simp only[List.getElem?_cons_succ]at hx hv;exact h4 i x v' hx hv
theorem ZB{v:Value}{x:Aa}(Φ:Ao)(ρ:AD)(h:IJ v=some x):R Φ ρ x v:=by
 unfold IJ at h;split at h
 ·rename_i cs;split at h
  ·rename_i xs hxs;injection h with h
   subst h;obtain⟨h1,h2⟩:=wQ Φ ρ _ _ hxs;exact .agg _ _ (by simp[h1]) (fun i x v hx hv=>h2 i x v hx (by simpa using hv))
  ·cases h
 ·exact lP Φ ρ h
theorem U8{Φ:Ao}{ρ:AD}{t:List Aa}{a:Act}(h:RL Φ ρ t a.tmps){x:Operand}{y:Ah}(hx:Y7 x=some y):R Φ ρ (ev t y) (a.eval x):=by
 cases x with
 | tmp i=>
  simp only[Y7,oI]at hx;subst hx;exact h.get i
 | const v=>
  simp only[Y7]at hx;split at hx
  ·rename_i z hz;injection hx with hx
   subst hx;exact ZB Φ ρ hz
  ·cases hx
 | global g=>simp[Y7]at hx
 | func f=>
  simp only[Y7,oI]at hx;subst hx;exact .func _ [] [] #[] #[] rfl rfl (fun i x v hx=>by simp at hx) (fun i x v hx=>by simp at hx)
theorem nS{Φ:Ao}{ρ:AD}{t:List Aa}{a:Act}(h:RL Φ ρ t a.tmps):∀ (xs:List Operand) (ys:List Ah),A5 xs=some ys →
 ys.length=xs.length ∧ ∀(i:Nat) (y:Ah) (x:Operand),ys[i]? = some y→xs[i]? = some x→Y7 x=some y
 | [],ys,hx=>by
  simp only[A5,oI]at hx;subst hx;exact⟨rfl,fun i y x hy=>by simp at hy⟩
 | z :: r,ys,hx=>by
  simp only[A5]at hx;cases h1:Y7 z with
  | none=>simp[h1]at hx
  | some y=>
   cases h2:A5 r with
   | none=>simp[h1,h2]at hx
   | some ys'=>
    simp only[h1,h2,oI]at hx;subst hx;obtain⟨h3,h4⟩:=nS h r ys' h2;refine⟨by simp[h3],fun i y' x' hy hx'=>?_⟩
    cases i with
    | zero=>
     simp only[List.getElem?_cons_zero,oI]at hy hx';subst hy; subst hx';exact h1
    | succ i=>
     simp only[List.getElem?_cons_succ]at hy hx';exact h4 i y' x' hy hx'
theorem Z6v{P:Program}
 (Pz:∀ (id:Nat) (ops:Array Oper) (draw:Bool) (Q:Exit→AO→Prop) (σ:AO),Cy P (Y5 P (.region id ops draw)) Q σ→Ip P (.region id ops draw) Q σ) :
 ∀(c:Code) (Q:Exit→AO→Prop) (σ:AO),Cy P (Y5 P c) Q σ→Ip P c Q σ:=by
 intro c
 induction c with
 | skip=>exact fun Q σ h W Φ ρ a w hr ht hd=>wp_skip ⟨σ,Φ,ρ,.refl _ _,.refl _ _,lR _,hr,ht,hd,h⟩
 | region id ops draw=>exact fun Q σ h=>Pz id ops draw Q σ h
 | seq x y ihx ihy=>
  intro Q σ h W Φ ρ a w hr ht hd;simp only[Y5,Cy]at h;refine wp_seq (wp_mono (ihx _ _ h W Φ ρ a w hr ht hd) ?_);intro e a' w' hl;have key:∀ e',e=e'→e'≠.normal→lift W Φ ρ σ.m.next Q e a' w':=by
   intro e' he hne;refine lH hl fun σ' hq=>?_
   subst he;cases e<;>first|exact absurd rfl hne|exact hq
  cases e with
  | normal=>
   obtain⟨σ',Am,ρ',h1,h2,h3,h4,h5,h6,h7⟩:=hl;exact wp_mono (ihy _ _ h7 W Am ρ' a' w' h4 h5 h6) fun e a w hl'=>rX h1 h2 h3 hl'
  | exit i=>exact key _ rfl (by simp)
  | goto l=>exact key _ rfl (by simp)
  | ret=>exact key _ rfl (by simp)
  | panic ch=>exact key _ rfl (by simp)
  | outgrown=>exact key _ rfl (by simp)
 | cond c x y ihx ihy=>
  intro Q σ h W Φ ρ a w hr ht hd;simp only[Y5]at h;cases hc:Y7 c with
  | none=>simp[hc,Cy]at h
  | some c'=>
   simp only[hc,Cy]at h;have hv:=U8 ht hc;generalize ev σ.t c'=z at h hv;split at h
   ·generalize hz:a.eval c=v at hv;cases hv;exact wp_cond_true hz (ihx _ _ h W Φ ρ a w hr ht hd)
   ·generalize hz:a.eval c=v at hv;cases hv;exact wp_cond_false hz (ihy _ _ h W Φ ρ a w hr ht hd)
   ·exact h.elim
 | block id c ih=>
  intro Q σ h W Φ ρ a w hr ht hd;simp only[Y5,Cy]at h;refine wp_block (wp_mono (ih _ _ h W Φ ρ a w hr ht hd) ?_);intro e a' w' hl;cases e with
  | exit i=>
   simp only[Exit.inBlock];obtain⟨σ',Am,ρ',h1,h2,h3,h4,h5,h6,h7⟩:=hl;simp only[Is]at h7;split
   ·rename_i hi;rw[iP hi]at h7;exact⟨σ',Am,ρ',h1,h2,h3,h4,h5,h6,h7⟩
   ·rename_i hi;rw[iN hi]at h7;exact⟨σ',Am,ρ',h1,h2,h3,h4,h5,h6,h7⟩
  | normal=>exact hl
  | goto l=>exact hl
  | ret=>exact hl
  | panic ch=>exact hl
  | outgrown=>exact hl
 | loop c ih=>
  intro Q σ h W Φ ρ a w hr ht hd;simp only[Y5,Cy]at h;obtain⟨I,⟨n0,Fh,hs0,h0⟩,hround⟩:=h;obtain⟨Φ1,hE1,hr1,ht1⟩:=hs0.rel W Φ ρ a.tmps w hr ht;refine wp_loop_ghost (fun n a' w'=>∃ σ' Am ρ',Ext Φ ρ Am ρ'∧Bl σ.m.next ρ ρ'∧σ.m.next≤σ'.m.next∧Rel W Am ρ' σ'.m w'∧RL Am ρ' σ'.t a'.tmps∧a'.defers=[]∧I n σ') n0
   ⟨Fh,Φ1,ρ,hE1,.refl _ _,hs0.next,hr1,ht1,hd,h0⟩ ?_
  rintro n a' w' ⟨σ',Am,ρ',h1,h2,h3,h4,h5,h6,h7⟩;refine wp_mono (ih _ _ (hround n σ' h7) W Am ρ' a' w' h4 h5 h6) ?_;intro e a'' w'' hl;have key:∀ e',e=e'→e'≠.normal→lift W Φ ρ σ.m.next Q e a'' w'':=by
   intro e' he hne;refine rX h1 h2 h3 (lH hl fun σ'' hq=>?_)
   subst he;cases e<;>first|exact absurd rfl hne|exact hq
  cases e with
  | normal=>
   obtain⟨σ'',Ec,CZ,g1,g2,g3,g4,g5,g6,k,Fh,g7,g8,g9⟩:=hl;obtain⟨Φ3,hE3,hr3,ht3⟩:=g8.rel W Ec CZ _ _ g4 g5;exact⟨k,g7,Fh,Φ3,CZ,(h1.trans g1).trans hE3,h2.trans g2 h3,Nat.le_trans (Nat.le_trans h3 g3) g8.next,hr3,ht3,g6,g9⟩
  | exit i=>exact key _ rfl (by simp)
  | goto l=>exact key _ rfl (by simp)
  | ret=>exact key _ rfl (by simp)
  | panic ch=>exact key _ rfl (by simp)
  | outgrown=>exact key _ rfl (by simp)
 | exit id=>exact fun Q σ h W Φ ρ a w hr ht hd=>wp_exit ⟨σ,Φ,ρ,.refl _ _,.refl _ _,lR _,hr,ht,hd,h⟩
 | scope c ih=>
  intro Q σ h W Φ ρ a w hr ht hd;simp only[Y5,Cy]at h;refine wp_scope_straight (wp_mono (ih _ _ h W Φ ρ a w hr ht hd) ?_);intro e a' w' hl;cases e with
  | goto l=>
   obtain⟨σ',Am,ρ',h1,h2,h3,h4,h5,h6,h7⟩:=hl;exact h7.elim
  | normal=>exact hl
  | exit i=>exact hl
  | ret=>exact hl
  | panic ch=>exact hl
  | outgrown=>exact hl
 | label l=>exact fun Q σ h W Φ ρ a w hr ht hd=>wp_label ⟨σ,Φ,ρ,.refl _ _,.refl _ _,lR _,hr,ht,hd,h⟩
 | ret=>exact fun Q σ h W Φ ρ a w hr ht hd=>wp_ret ⟨σ,Φ,ρ,.refl _ _,.refl _ _,lR _,hr,ht,hd,h⟩
 | rangeFunc f ps x y _ _=>exact fun Q σ h=>by simp[Y5,Cy]at h
 | goto l=>exact fun Q σ h=>by simp[Y5,Cy]at h
 | refuse s=>exact fun Q σ h=>by simp[Y5,Cy]at h
end Go.AE
end
section
namespace Go.AE
open Go.RowKit
section runs
variable {P:Program} {w:World}
theorem V1{t:TypeId}{d:TypeDesc}(h:P.underlying t=some d):(underlying t).run P w=.ok d w:=by simp[underlying,h]
theorem Ju{t:TypeId}{i:TypeInfo}(h:P.info? t=some i):(typeInfo t).run P w=.ok i w:=by simp[typeInfo,h]
theorem G8{t:TypeId}{i:TypeInfo}(h:P.info? t=some i):(sizeOf t).run P w=.ok i.size w:=by simp[sizeOf,Ju h]
theorem Kh{t:TypeId}{i:TypeInfo}{z:Value}(h:P.info? t=some i)(hz:i.zero=some z):(zeroValue t).run P w=.ok z w:=by simp[zeroValue,Ju h,hz]
end runs
theorem Addr.Ba(B o n:Nat):(Addr.add ⟨B,o,none⟩ n)=⟨B,o+n,none⟩:=by
 unfold Addr.add;split
 ·rename_i h; simp[h]
 ·rfl
def P2(w:World)(B:Nat)(o:Obj):World:={ w with heap:=w.heap.setIfInBounds B o }
theorem LZ(w:World)(B C:Nat)(o:Obj):(P2 w B o).heap[C]? = if B=C∧B<w.heap.size then some o else w.heap[C]?:=by
 unfold P2;simp only[Array.getElem?_setIfInBounds];by_cases h:B=C
 ·subst h;by_cases h2:B<w.heap.size<;>simp[h2]
 ·simp[h]
theorem Z9r(w:World)(B:Nat)(o o':Obj):P2 (P2 w B o) B o'=P2 w B o':=by
 unfold P2;simp[Array.setIfInBounds_setIfInBounds]
theorem Ws{w:World}{B:Nat}{o:Obj}(h:w.heap[B]? = some o):P2 w B o=w:=by
 unfold P2;have:w.heap.setIfInBounds B o=w.heap:=by
  apply Array.ext_getElem?;intro i;rw[Array.getElem?_setIfInBounds];by_cases hi:B=i
  ·subst hi;rw[iP rfl];have hB:B<w.heap.size:=by
    rcases lG B w.heap.size with h'|h'
    ·exact h'
    ·rw[Array.getElem?_eq_none h']at h; cases h
   rw[iP hB,h]
  ·rw[iN hi]
 rw[this]
theorem wh{w:World}{B off:Nat}{c:Array Value}{e:TypeId}{fz:Nat×Nat}(h:w.heap[B]? = some (.cells c e fz))(v:Value) :
 w.setCell ⟨B,off,none⟩ v=P2 w B (.cells (c.setIfInBounds off v) e fz):=by
 unfold World.setCell P2
 congr 1
 apply Array.ext_getElem?;intro i;rw[Array.getElem?_modify,Array.getElem?_setIfInBounds];by_cases hi:B=i
 ·subst hi;have hB:B<w.heap.size:=by
   rcases lG B w.heap.size with h'|h'
   ·exact h'
   ·rw[Array.getElem?_eq_none h']at h; cases h
  have hget:w.heap[B]=.cells c e fz:=by rw[Array.getElem?_eq_getElem hB]at h; injection h
  simp[hB,hget]
 ·simp[hi]
def O1(c:Array Value)(off:Nat):List Value→Array Value
 | []=>c
 | v :: r=>O1 (c.setIfInBounds off v) (off+1) r
theorem Nb(vs:List Value):∀ (c:Array Value) (off:Nat),(O1 c off vs).size=c.size:=by
 induction vs with
 | nil=>intro c off; rfl
 | cons v r ih=>intro c off; simp[O1,ih]
theorem Ss(vs:List Value):∀ (c:Array Value) (off:Nat),(∀ v,v∈c.toList→v.oneCell'=true)→(∀ v,v∈vs→v.oneCell'=true) → ∀ v,v∈(O1 c off vs).toList→v.oneCell'=true:=by
 induction vs with
 | nil=>intro c off h _; exact h
 | cons x r ih=>
  intro c off h h1;refine ih _ _ (fun v hv=>?_) (fun v hv=>h1 v (List.mem_cons_of_mem _ hv))
  rw[Array.toList_setIfInBounds]at hv;rcases List.mem_or_eq_of_mem_set hv with hv|hv
  ·exact h v hv
  ·subst hv; exact h1 _ (List.mem_cons_self ..)
theorem YQ(vs:List Value):∀ (c:Array Value) (off p:Nat),(O1 c off vs)[p]? = if off≤p∧p<off+vs.length∧p<c.size then vs[p - off]? else c[p]?:=by
 induction vs with
 | nil=>intro c off p; simp[O1]; intro h1 h2; omega
 | cons v r ih=>
  intro c off p;simp only[O1,ih,Array.size_setIfInBounds,lC,Array.getElem?_setIfInBounds];by_cases h1:off+1≤p∧p<off+1+r.length∧p<c.size
  ·rw[iP h1,iP (by omega)]
   have:p - off=(p - (off+1))+1:=by omega
   rw[this,List.getElem?_cons_succ]
  ·rw[iN h1];by_cases h2:off=p
   ·subst h2;by_cases h3:off<c.size
    ·simp[h3]
    ·simp[h3]
   ·rw[iN h2,iN (by omega)]
theorem bK{P:Program}{B o:Nat}{e:TypeId}:∀ (vs:List Value) (i:Nat) (w:World) (c:Array Value),(∀ v,v∈vs→v.oneCell'=true)→w.heap[B]? = some (.cells c e (0,0))→o+i+vs.length≤c.size →
 (storeCells ⟨B,o,none⟩ vs i).run P w=.ok () (P2 w B (.cells (O1 c (o+i) vs) e (0,0)))
 | [],i,w,c,_,h,_=>by
  simp only[storeCells,O1,Sem.run_pure,Ws h]
 | v :: r,i,w,c,hv,h,hl=>by
  simp only[lC]at hl;have hcell:w.cell? (Addr.add ⟨B,o,none⟩ i)=some c[o+i]:=by
   rw[Addr.Ba];simp only[World.cell?,h,Option.isSome_none,bF,if_false];exact Array.getElem?_eq_getElem (by omega)
  have hfz:w.frozen? (Addr.add ⟨B,o,none⟩ i)=false:=by
   rw[Addr.Ba];simp[World.frozen?,h]
  have hB:B<w.heap.size:=by
   rcases lG B w.heap.size with h'|h'
   ·exact h'
   ·rw[Array.getElem?_eq_none h']at h; cases h
  have hset:=wh (off:=o+i) h v;have h2:(P2 w B (.cells (c.setIfInBounds (o+i) v) e (0,0))).heap[B]? = some (.cells (c.setIfInBounds (o+i) v) e (0,0)):=by
   rw[LZ]; simp[hB]
  have ih:=bK (P:=P) (B:=B) (o:=o) (e:=e) r (i+1) _ (c.setIfInBounds (o+i) v) (fun u hu=>hv u (List.mem_cons_of_mem _ hu)) h2 (by simp; omega)
  rw[storeCells,Sem.run_bind,run_store _ _ _ _ _ (hv v List.mem_cons_self),hcell,hfz];simp only[bF,if_false,Result.andThen_ok];rw[Addr.Ba,hset,ih,Z9r];rfl
theorem pT{P:Program}{w:World}{B o:Nat}{c:Array Value}{e:TypeId}{fz:Nat×Nat}(h:w.heap[B]? = some (.cells c e fz)):∀ (n i:Nat) (acc:Array Value),o+i+n≤c.size →
 (loadCellsFrom ⟨B,o,none⟩ i n acc).run P w=.ok (acc++(c.extract (o+i) (o+i+n))) w
 | 0,i,acc,_=>by simp[loadCellsFrom]; omega
 | n+1,i,acc,hl=>by
  have hcell:w.cell? (Addr.add ⟨B,o,none⟩ i)=some c[o+i]:=by
   rw[Addr.Ba];simp only[World.cell?,h,Option.isSome_none,bF,if_false];exact Array.getElem?_eq_getElem (by omega)
  rw[loadCellsFrom,Sem.run_bind,run_load,hcell];simp only[Result.andThen_ok];rw[pT h n (i+1) _ (by omega)]
  congr 1
  apply Array.ext_getElem?;intro q;simp only[Array.getElem?_append,Array.size_push,Array.getElem?_extract,Array.getElem?_push];by_cases h1:q<acc.size
  ·rw[iP (by omega),iN (by omega),iP h1]
  ·rw[iN h1];by_cases h2:q=acc.size
   ·subst h2;have e0:o+i<c.size:=by omega
    simp[e0];omega
   ·rw[iN (by omega)]
    have e1:o+(i+1)+(q - (acc.size+1))=o+i+(q - acc.size):=by omega
    rw[e1];by_cases h3:q - acc.size<n+1
    ·rw[iP (by omega),iP (by omega)]
    ·rw[iN (by omega),iN (by omega)]
theorem Yv{P:Program}{w:World}{B o n:Nat}{c:Array Value}{e:TypeId}{fz:Nat×Nat}(h:w.heap[B]? = some (.cells c e fz))(hl:o+n≤c.size) :
 (loadCells ⟨B,o,none⟩ n).run P w=.ok (c.extract o (o+n)) w:=by
 rw[loadCells,pT h n 0 #[] (by omega)]
 simp
theorem Ap.Holds.put{W:Ap}{w:World}{B:Nat}{o:Obj}(h:W.Holds w)(hB:W.Cd B):W.Holds (P2 w B o):=by
 refine⟨h.below.trans ⟨rfl,rfl,rfl,by simp[P2],fun k hk=>?_⟩,fun k o' hk=>?_⟩
 ·have:=hB.1;rw[LZ,iN (by omega)]
 ·rw[LZ,iN]
  ·exact h.BU k o' hk
  ·rintro⟨rfl,_⟩;rw[hB.2]at hk; cases hk
theorem Ap.Holds.alloc{W:Ap}{w:World}(h:W.Holds w)(o:Obj):W.Holds (w.alloc o):=
 ⟨h.below.alloc h.below.size o,fun k o' hk=>by
  have ho:=h.BU k o' hk;rw[Below.heap_alloc w o k (G4 ho)]; exact ho⟩
theorem Ap.Holds.HZ{W:Ap}{w:World}(h:W.Holds w):W.Cd w.heap.size:=by
 refine⟨h.below.size,?_⟩;cases hg:W.g w.heap.size with
 | none=>rfl
 | some o=>exact absurd (G4 (h.BU _ _ hg)) (Nat.lt_irrefl _)
theorem vW{W:Ap}{Φ:Ao}{ρ:AD}{m:Mem}{w:World}{b:Nat}{x x':Ag}{l:Loc}{o':Obj}(h:Rel W Φ ρ m w)(hb:m.get b=some x)(hl:ρ b=some l)
 (hr:BR Φ ρ x' l o'):Rel W Φ ρ (m.set b x') (P2 w l.blk o'):=by
 obtain⟨l0,o,g1,g2,g3,g4,g5⟩:=h.live b x hb;rw[hl]at g1;injection g1 with g1
 subst g1;have hlt:l.blk<w.heap.size:=by
  rcases lG l.blk w.heap.size with h'|h'
  ·exact h'
  ·rw[Array.getElem?_eq_none h']at g4; cases g4
 refine⟨?_,?_,?_,?_,h.fresh,h.By⟩
 ·exact h.base.put g2
 ·intro B c hB;obtain⟨e,fz,ho⟩:=h.AX B c hB;refine⟨e,fz,?_⟩;rw[LZ,iN]
  ·exact ho
  ·rintro⟨rfl,_⟩;rw[hB]at g3; cases g3
 ·intro b' y hy;simp only[Mem.Ax]at hy;by_cases hbb:b'=b
  ·subst hbb;rw[iP rfl]at hy;injection hy with hy
   subst hy;exact⟨l,o',hl,g2,g3,by rw[LZ,iP ⟨rfl,hlt⟩],hr⟩
  ·rw[iN hbb]at hy;obtain⟨l',o'',k1,k2,k3,k4,k5⟩:=h.live b' y hy;refine⟨l',o'',k1,k2,k3,?_,k5⟩;rw[LZ,iN]
   ·exact k4
   ·rintro⟨he,_⟩;exact hbb (h.inj b' b y x l' l hy hb k1 hl he.symm)
 ·intro b1 b2 y1 y2 l1 l2 h1 h2 k1 k2 he;have e1:∃ y,m.get b1=some y:=by
   simp only[Mem.Ax]at h1;by_cases hbb:b1=b
   ·exact⟨x,by rw[hbb]; exact hb⟩
   ·rw[iN hbb]at h1; exact⟨_,h1⟩
  have e2:∃ y,m.get b2=some y:=by
   simp only[Mem.Ax]at h2;by_cases hbb:b2=b
   ·exact⟨x,by rw[hbb]; exact hb⟩
   ·rw[iN hbb]at h2; exact⟨_,h2⟩
  obtain⟨z1,e1⟩:=e1;obtain⟨z2,e2⟩:=e2;exact h.inj b1 b2 z1 z2 l1 l2 e1 e2 k1 k2 he
def AD.put(ρ:AD)(b:Nat)(l:Loc):AD:=fun c=>if c=b then some l else ρ c
theorem AD.BG{Φ:Ao}{ρ:AD}{b:Nat}{l:Loc}(h:ρ b=none):Ext Φ ρ Φ (ρ.put b l):=
 ⟨fun _ _ h=>h,fun c k hc=>by
  unfold AD.put;rw[iN]
  ·exact hc
  ·rintro rfl; rw[h]at hc; cases hc⟩
theorem AD.Bm{ρ:AD}{b:Nat}{l:Loc}:ρ.put b l b=some l:=by simp[AD.put]
theorem Z4c{W:Ap}{Φ:Ao}{ρ:AD}{m:Mem}{w:World}{b:Nat}{x:Ag}{l:Loc}{o:Obj}(h:Rel W Φ ρ m w)(hn:ρ b=none)(hlt:b<m.next)(hl:l.blk=w.heap.size)
 (hr:BR Φ (ρ.put b l) x l o):Rel W Φ (ρ.put b l) (m.set b x) (w.alloc o):=by
 have hx:=AD.BG (Φ:=Φ) (l:=l) hn;have old:∀ k,k<w.heap.size→(w.alloc o).heap[k]? = w.heap[k]?:=fun k hk=>Below.heap_alloc w o k hk
 have some_lt:∀ (k:Nat) (o':Obj),w.heap[k]? = some o'→k<w.heap.size:=fun k o' ho=>by
  rcases lG k w.heap.size with h'|h'
  ·exact h'
  ·rw[Array.getElem?_eq_none h']at ho; cases ho
 have hbm:m.get b=none:=by
  cases hg:m.get b with
  | none=>rfl
  | some y=>
   obtain⟨l',o',h1,_⟩:=h.live b y hg;rw[hn]at h1; cases h1
 have rne:∀ b' l',b'≠b→ρ.put b l b'=some l'→ρ b'=some l':=fun b' l' hb' he=>by
  unfold AD.put at he; rw[iN hb']at he; exact he
 refine⟨h.base.alloc o,?_,?_,?_,?_,h.By⟩
 ·intro B c hB;obtain⟨e,fz,ho⟩:=h.AX B c hB;exact⟨e,fz,by rw[old B (some_lt _ _ ho)]; exact ho⟩
 ·intro b' y hy;simp only[Mem.Ax]at hy;by_cases hbb:b'=b
  ·subst hbb;rw[iP rfl]at hy;injection hy with hy
   subst hy;refine⟨l,o,AD.Bm,by rw[hl]; exact h.base.HZ,?_,?_,hr⟩
   ·cases hp:Φ l.blk with
    | none=>rfl
    | some c=>
     obtain⟨e,fz,ho⟩:=h.AX _ c hp;have:=some_lt _ _ ho;omega
   ·rw[hl];show(w.heap.push o)[w.heap.size]? = some o;rw[Array.getElem?_push,iP rfl]
  ·rw[iN hbb]at hy;obtain⟨l',o',k1,k2,k3,k4,k5⟩:=h.live b' y hy;exact⟨l',o',hx.Fy _ _ k1,k2,k3,by rw[old _ (some_lt _ _ k4)]; exact k4,k5.ext hx⟩
 ·intro b1 b2 y1 y2 l1 l2 h1 h2 k1 k2 he;simp only[Mem.Ax]at h1 h2;by_cases Bg:b1=b
  ·by_cases Cq:b2=b
   ·rw[Bg,Cq]
   ·rw[iN Cq]at h2;have k2':=rne _ _ Cq k2;obtain⟨l',o',g1,_,_,g4,_⟩:=h.live b2 y2 h2;rw[k2']at g1; injection g1 with g1; subst g1
    rw[Bg,AD.Bm]at k1;injection k1 with k1; subst k1
    have:=some_lt _ _ g4;omega
  ·rw[iN Bg]at h1;have k1':=rne _ _ Bg k1;obtain⟨l',o',g1,_,_,g4,_⟩:=h.live b1 y1 h1;rw[k1']at g1; injection g1 with g1; subst g1
   by_cases Cq:b2=b
   ·rw[Cq,AD.Bm]at k2;injection k2 with k2; subst k2
    have:=some_lt _ _ g4;omega
   ·rw[iN Cq]at h2;exact h.inj b1 b2 y1 y2 l1 l2 h1 h2 k1' (rne _ _ Cq k2) he
 ·intro b' l' hb';by_cases hbb:b'=b
  ·rw[hbb]; exact hlt
  ·exact h.fresh b' l' (rne _ _ hbb hb')
theorem qR{W:Ap}{Φ:Ao}{ρ:AD}{m:Mem}{w:World}(h:Rel W Φ ρ m w){x:Aa}{v:Value}(hx:R Φ ρ x v){row:List Aa}{j:Nat}(hr:IB m x=some (row,j)) :
 ∃ B o c e fz,v=.pointer (some ⟨B,o,none⟩)∧w.heap[B]? = some (.cells c e fz) ∧ ∀ i y,row[j+i]? = some y → ∃ u,c[o+i]? = some u∧R Φ ρ y u:=by
 cases hx with
 | ptr b i j' l hl=>
  simp only[IB]at hr;cases hg:m.get b with
  | none=>simp[hg]at hr
  | some y=>
   cases y with
   | cells k els=>
    simp only[hg]at hr;cases he:els[i]? with
    | none=>simp[he]at hr
    | some row'=>
     simp only[he,oI,AP]at hr;obtain⟨rfl,rfl⟩:=hr;obtain⟨l',o,g1,g2,g3,g4,g5⟩:=h.live b _ hg;rw[hl]at g1; injection g1 with g1; subst g1
     cases g5 with
     | cells k els _ c e hk hn hlen hrow _=>
      subst hk;refine⟨_,_,c,e,(0,0),rfl,g4,fun q y hy=>?_⟩
      obtain⟨u,hu,_,hru⟩:=hrow.2 i row' (j'+q) y he hy;exact⟨u,by rw[← hu]; congr 1; omega,hru⟩
   | map es clock=>simp[hg]at hr
   | Cl s pos=>simp[hg]at hr
   | Ca a b c d=>simp[hg]at hr
 | AW els i j' B o k c f hB hk hc As=>
  simp only[IB]at hr;cases he:els[i]? with
  | none=>simp[he]at hr
  | some row'=>
   simp only[he,oI,AP]at hr;obtain⟨rfl,rfl⟩:=hr;obtain⟨e,fz,ho⟩:=h.AX B c hB;refine⟨B,_,c,e,fz,rfl,ho,fun q y hy=>?_⟩
   refine⟨f i (j'+q),?_,As i row' (j'+q) y he hy⟩;rw[← (hc i row' (j'+q) y he hy).1]
   congr 1; omega
 | _=>simp[IB]at hr
end Go.AE
end
section
namespace Go.AE
open Go.RowKit
def AB(P:Program)(s:Sem Next)(W:Ap)(Φ:Ao)(ρ:AD)(id:Nat)(w:World)(x:Aa)(m':Mem):Prop:=
 ∃ v w' Am ρ',(s.run P w=.ok (.value v) w'∨(s.run P w=.ok .skip w'∧v=undef))∧Ext Φ ρ Am ρ'∧(∀ b,b≠id→ρ b=none→ρ' b=none)∧Rel W Am ρ' m' w'∧R Am ρ' x v
section
variable {P:Program} {s:Sem Next} {W:Ap} {Φ:Ao} {ρ:AD} {id:Nat} {w w1:World} {m m':Mem} {x:Aa} {v:Value}
theorem AB.val(h:s.run P w=.ok (.value v) w)(hr:Rel W Φ ρ m w)(hR:R Φ ρ x v):AB P s W Φ ρ id w x m:=
 ⟨v,w,Φ,ρ,.inl h,.refl _ _,fun _ _ h=>h,hr,hR⟩
theorem LP(Φ:Ao)(ρ:AD):R Φ ρ Aj undef:=.tuple [] #[] rfl (fun i x v hx=>by simp at hx)
theorem AB.kR{b:Nat}{x0 x':Ag}{l:Loc}{o':Obj}(h:s.run P w=.ok .skip (P2 w l.blk o'))(hr:Rel W Φ ρ m w)(hb:m.get b=some x0)(hl:ρ b=some l)(Gv:BR Φ ρ x' l o') :
 AB P s W Φ ρ id w Aj (m.set b x'):=
 ⟨undef,_,Φ,ρ,.inr ⟨h,rfl⟩,.refl _ _,fun _ _ h=>h,vW hr hb hl Gv,LP _ _⟩
theorem AB.Qw{b:Nat}{x0 x':Ag}{l:Loc}{o':Obj}(h:s.run P w=.ok (.value v) (P2 w l.blk o'))(hr:Rel W Φ ρ m w)(hb:m.get b=some x0)(hl:ρ b=some l)(Gv:BR Φ ρ x' l o')(hR:R Φ ρ x v) :
 AB P s W Φ ρ id w x (m.set b x'):=
 ⟨v,_,Φ,ρ,.inl h,.refl _ _,fun _ _ h=>h,vW hr hb hl Gv,hR⟩
theorem AB.new{blk:Ag}{l:Loc}{o:Obj}(h:s.run P w=.ok (.value v) (w1.alloc o))(hr:Rel W Φ ρ m w1)(hn:ρ id=none)(hlt:id<m.next)(hl:l.blk=w1.heap.size)
 (Gv:BR Φ (ρ.put id l) blk l o) (hR:R Φ (ρ.put id l) x v):AB P s W Φ ρ id w x (m.set id blk):=
 ⟨v,_,Φ,ρ.put id l,.inl h,AD.BG hn,fun b hb h0=>by unfold AD.put; rw[iN hb]; exact h0,Z4c hr hn hlt hl Gv,hR⟩
theorem R.Bu{cs:List Aa}(h:R Φ ρ x v)(hc:x.cells=some cs):RL Φ ρ cs v.cells:=by
 have one:∀ (y:Aa) (u:Value),R Φ ρ y u→RL Φ ρ [y] #[u]:=fun y u hy=>⟨rfl,fun i x v hx hv=>by
  cases i with
  | zero=>
   simp only[List.getElem?_cons_zero,oI]at hx;have:u=v:=by simpa using hv
   subst hx; subst this;exact hy
  | succ i=>simp at hx⟩
 have h':=h;cases h<;>(try simp only[Aa.cells]at hc)<;>first|(cases hc; done)|skip
 all_goals (injection hc with hc; subst hc)
 case agg cs vs hs hr=>exact ⟨hs,hr⟩
 all_goals exact one _ _ h'
theorem Sh{y:Aa}{u:Value}(h:R Φ ρ y u)(h1:y.one=true):u.oneCell'=true:=by
 cases h<;>simp_all[Aa.one,Value.oneCell']
theorem WR{cs:List Aa}{vs:Array Value}(h:RL Φ ρ cs vs)(h1:cs.all Aa.one=true):∀ v,v∈vs.toList→v.oneCell'=true:=by
 intro u hu;obtain⟨q,hq,rfl⟩:=List.getElem_of_mem hu;simp only[Array.length_toList]at hq;have EI:q<cs.length:=by rw[← h.1]; exact hq
 have h2:=h.2 q _ _ (gE EI) (Array.getElem?_eq_getElem hq);simpa using Sh h2 (List.all_eq_true.1 h1 _ (List.getElem_mem EI))
theorem ug{cs:List Aa}{vs:Array Value}(h:RL Φ ρ cs vs)(h1:cs.all Aa.one=true):RowsIn Φ ρ [cs] 0 cs.length vs:=by
 refine⟨fun i row hi=>?_,fun i row j y hi hj=>?_⟩
 ·cases i with
  | zero=>simp at hi; rw[hi]
  | succ i=>simp at hi
 ·cases i with
  | zero=>
   simp only[List.getElem?_cons_zero,oI]at hi;subst hi;have hlt:j<cs.length:=(gS.1 hj).1;have hv:vs[j]? = some (vs[j]'(by rw[h.1]; exact hlt)):=Array.getElem?_eq_getElem _
   exact⟨_,by simpa using hv,Sh (h.2 j y _ hj hv) (List.all_eq_true.1 h1 y (List.mem_of_getElem? hj)),h.2 j y _ hj hv⟩
  | succ i=>simp at hi
theorem BR.BG{blk:Ag}{l l0:Loc}{o:Obj}(hn:ρ id=none)(h:BR Φ ρ blk l0 o):BR Φ (ρ.put id l) blk l0 o:=h.ext (AD.BG hn)
theorem wU{e:TypeId}{cs:List Aa}{y:Aa}(hr:Rel W Φ ρ m w)(hn:ρ id=none)(hlt:id<m.next)(hy:R Φ ρ y v)(hc:y.cells=some cs)(h1:cs.all Aa.one=true)
 (h:s.run P w=.ok (.value (.pointer (some ⟨w.heap.size,0,none⟩))) (w.alloc (.cells v.cells e))) :
 AB P s W Φ ρ id w (.ptr id 0 0) (m.set id (.cells cs.length [cs])):=by
 have hcs:=hy.Bu hc;refine AB.new (l:=⟨w.heap.size,0,cs.length,1⟩) h hr hn hlt rfl (BR.BG hn (.cells _ _ _ _ _ rfl (by simp[hcs.1]) (by simp) (ug hcs h1) (WR hcs h1))) ?_
 have:=R.ptr (Φ:=Φ) (ρ:=ρ.put id ⟨w.heap.size,0,cs.length,1⟩) id 0 0 _ AD.Bm;simpa using this
theorem LY{t:TypeId}{zs:List Aa}(h:Jr P t=some zs)(Φ:Ao)(ρ:AD):∃ i z y,P.info? t=some i∧i.zero=some z∧R Φ ρ y z∧y.cells=some zs∧zs.all Aa.one=true:=by
 unfold Jr Ta at h;cases hi:P.info? t with
 | none=>simp[hi]at h
 | some i=>
  cases hz:i.zero with
  | none=>simp[hi,hz]at h
  | some z=>
   cases hy:IJ z with
   | none=>simp[hi,hz,hy]at h
   | some y=>
    simp only[hi,hz,hy]at h;cases hc:y.cells with
    | none=>simp[hc]at h
    | some cs=>
     simp only[hc]at h;split at h
     ·rename_i h1;injection h with h; subst h
      exact⟨i,z,y,rfl,hz,ZB Φ ρ hy,hc,h1⟩
     ·cases h
def Ma:TypeDesc→Bool
 | .struct _ | .array _ _=>true
 | _=>false
theorem oK{t:TypeId}{n:Option Nat}(h:JV P t=some n):∃ d i,P.underlying t=some d∧P.info? t=some i ∧
 ((n=some i.size∧Ma d=true)∨(n=none∧Ma d=false)):=by
 unfold JV at h;cases hd:P.underlying t with
 | none=>simp[hd]at h
 | some d=>
  cases hi:P.info? t with
  | none=>cases d<;>simp[hd,hi]at h
  | some i=>
   refine⟨d,i,rfl,rfl,?_⟩;cases d<;>simp[hd,hi]at h<;>first|exact .inl ⟨h.symm,rfl⟩|exact .inr ⟨h.symm,rfl⟩
theorem YN{t:TypeId}{d:TypeDesc}(h:P.underlying t=some d):(isAgg t).run P w=.ok (Ma d) w:=by
 simp only[isAgg,Sem.run_bind,V1 h,Result.andThen_ok];cases d<;>rfl
theorem mD{t:TypeId}{n:Option Nat}{xa y:Aa}{va:Value}(hr:Rel W Φ ρ m w)(hx:R Φ ρ xa va)(hc:JV P t=some n)(hl:JJ m n xa=some y) :
 ∃ u,(Instr.loadAt t va).run P w=.ok u w∧R Φ ρ y u:=by
 unfold JJ at hl;cases hrow:IB m xa with
 | none=>simp[hrow]at hl
 | some rj=>
  obtain⟨row,j⟩:=rj;simp only[hrow]at hl;obtain⟨B,o,c,e,fz,rfl,hB,hcell⟩:=qR hr hx hrow;obtain⟨d,i,hd,hi,hcase⟩:=oK hc;have hagg:=YN (w:=w) hd;simp only[Instr.loadAt,Instr.sureAddr,Sem.run_bind,Sem.run_pure,Result.andThen_ok,loadVar,hagg];rcases hcase with⟨rfl,hd'⟩|⟨rfl,hd'⟩
  ·simp only at hl;split at hl
   ·rename_i hle;injection hl with hl
    subst hl;rw[hd'];simp only[if_true,Sem.run_bind,G8 hi,Result.andThen_ok];have hsz:o+i.size≤c.size:=by
     have hlt:j+(i.size - 1)<row.length:=by omega
     obtain⟨u,hu,_⟩:=hcell (i.size - 1) _ (gE hlt);have:=(Array.getElem?_eq_some_iff.1 hu).1;omega
    rw[Yv hB hsz];refine⟨_,rfl,.agg _ _ (by simp; omega) fun q y v hy hv=>?_⟩
    have hq:q<i.size:=by
     have:=(gS.1 hy).1;simp at this; omega
    rw[List.getElem?_take,iP hq,List.getElem?_drop]at hy;obtain⟨u,hu,hru⟩:=hcell q y hy;rw[Array.getElem?_extract]at hv;split at hv
    ·rw[hu]at hv; injection hv with hv; subst hv; exact hru
    ·cases hv
   ·cases hl
  ·simp only at hl;rw[hd'];simp only[bF,if_false];obtain⟨u,hu,hru⟩:=hcell 0 y (by simpa using hl)
   have Cm:w.cell? ⟨B,o,none⟩=some u:=by
    simp only[World.cell?,hB,Option.isSome_none,bF,if_false];simpa using hu
   rw[run_load,Cm];exact⟨u,rfl,hru⟩
theorem sI(cs:List Aa):∀ (row:List Aa) (j:Nat),(N6 row j cs).length=row.length:=by
 induction cs with
 | nil=>intro row j; rfl
 | cons v r ih=>intro row j; simp[N6,ih]
theorem cB(cs:List Aa):∀ (row:List Aa) (j q:Nat),(N6 row j cs)[q]? = if j≤q∧q<j+cs.length∧q<row.length then cs[q - j]? else row[q]?:=by
 induction cs with
 | nil=>intro row j q; simp[N6]; intro h1 h2; omega
 | cons v r ih=>
  intro row j q;simp only[N6,ih,List.length_set,lC,List.getElem?_set];by_cases h1:j+1≤q∧q<j+1+r.length∧q<row.length
  ·rw[iP h1,iP (by omega)]
   have:q - j=(q - (j+1))+1:=by omega
   rw[this,List.getElem?_cons_succ]
  ·rw[iN h1];by_cases h2:j=q
   ·subst h2;by_cases h3:j<row.length
    ·simp[h3]
    ·simp[h3]
   ·rw[iN h2,iN (by omega)]
theorem zA{a b k j n q:Nat}(hne:a≠b)(hj:j+n≤k)(hq:q<k):¬(a*k+j≤b*k+q∧b*k+q<a*k+j+n):=by
 rcases Nat.lt_or_gt_of_ne hne with h|h
 ·have:(a+1)*k≤b*k:=Nat.mul_le_mul_right k h;rw[Nat.add_mul]at this;omega
 ·have:(b+1)*k≤a*k:=Nat.mul_le_mul_right k h;rw[Nat.add_mul]at this;omega
theorem LM{a n k q:Nat}(h:a<n)(hq:q<k):a*k+q<n*k:=by
 have:(a+1)*k≤n*k:=Nat.mul_le_mul_right k h;rw[Nat.add_mul]at this;omega
theorem sK{els:List (List Aa)}{sh k n i j:Nat}{c:Array Value}{row cs:List Aa}{vs:Array Value}(hrow:RowsIn Φ ρ els sh k c)(hn:c.size=n*k)(hl:sh+els.length≤n)
 (hi:els[i]? = some row) (hcs:RL Φ ρ cs vs) (h1:cs.all Aa.one=true) (hj:j+cs.length≤row.length):RowsIn Φ ρ (els.set i (N6 row j cs)) sh k (O1 c ((sh+i)*k+j) vs.toList):=by
 have hk:=hrow.1 i row hi;have hil:i<els.length:=(gS.1 hi).1;refine⟨fun i' row' h'=>?_,fun i' row' q x h' hq=>?_⟩
 ·rw[List.getElem?_set]at h';by_cases hii:i=i'
  ·rw[iP hii,iP hil]at h';injection h' with h'; subst h'; rw[sI,hk]
  ·rw[iN hii]at h';exact hrow.1 i' row' h'
 ·rw[List.getElem?_set]at h';rw[YQ];simp only[Array.length_toList,hcs.1];by_cases hii:i=i'
  ·subst hii;rw[iP rfl,iP hil]at h';injection h' with h'
   subst h';rw[cB]at hq;by_cases hin:j≤q∧q<j+cs.length∧q<row.length
   ·rw[iP hin]at hq;have hlt:=LM (a:=sh+i) (n:=n) (k:=k) (q:=q) (by omega) (by omega)
    rw[iP ⟨by omega,by omega,by omega⟩]
    have e1:(sh+i)*k+q - ((sh+i)*k+j)=q - j:=by omega
    rw[e1];have hlt2:q - j<vs.size:=by rw[hcs.1]; omega
    have As:=hcs.2 (q - j) x _ hq (Array.getElem?_eq_getElem hlt2);refine⟨vs[q - j],by simp[hlt2],Sh As (List.all_eq_true.1 h1 x (List.mem_of_getElem? hq)),As⟩
   ·rw[iN hin]at hq;have hqr:q<row.length:=(gS.1 hq).1;rw[iN (by omega)]
    exact hrow.2 i row q x hi hq
  ·rw[iN hii]at h';have hqk:q<k:=by
    have h1:=hrow.1 i' row' h';have h2:=(gS.1 hq).1;omega
   have hap:=zA (a:=sh+i) (b:=sh+i') (k:=k) (j:=j) (n:=cs.length) (q:=q) (by omega) (by omega) hqk
   rw[iN (fun h=>hap ⟨h.1,h.2.1⟩)]
   exact hrow.2 i' row' q x h' hq
theorem Z30{t:TypeId}{i:TypeInfo}{B o:Nat}{c:Array Value}{e:TypeId}(hi:P.info? t=some i)(hB:w.heap[B]? = some (.cells c e (0,0)))(hs:v.cells.size=i.size)
 (h1:∀ u,u∈v.cells.toList→u.oneCell'=true) (hl:o+i.size≤c.size) :
 (Instr.storeAt t (.pointer (some ⟨B,o,none⟩)) v).run P w=.ok () (P2 w B (.cells (O1 c o v.cells.toList) e (0,0))):=by
 simp only[Instr.storeAt,Instr.sureAddr,Sem.run_bind,Sem.run_pure,Result.andThen_ok,storeVar,G8 hi];rw[iN (by simp[hs])]
 have:=bK (P:=P) (B:=B) (o:=o) (e:=e) v.cells.toList 0 w c h1 hB (by simp[hs]; omega)
 simpa using this
theorem Z5z{t:TypeId}{n:Nat}{xa xv:Aa}{va vv:Value}{m':Mem}(hr:Rel W Φ ρ m w)(hx:R Φ ρ xa va)(hv:R Φ ρ xv vv)(hc:O8 P t=some n)(hst:Lu m n xa xv=some m')
 (he:s.run P w=match (Instr.storeAt t va vv).run P w with | .ok _ w'=>.ok .skip w' | .halt h w'=>.halt h w'):AB P s W Φ ρ id w Aj m':=by
 unfold Lu at hst;cases xa with
 | ptr b i j=>
  cases hcs:xv.cells with
  | none=>simp[hcs]at hst
  | some cs=>
   simp only[hcs]at hst;cases hg:m.get b with
   | none=>simp[hg]at hst
   | some blk=>
    cases blk with
    | cells k els=>
     simp only[hg]at hst;cases hrow:els[i]? with
     | none=>simp[hrow]at hst
     | some row=>
      simp only[hrow]at hst;split at hst
      ·rename_i hcond;obtain⟨hc1,hc2,hc3⟩:=hcond;injection hst with hst
       subst hst;cases hx with
       | ptr _ _ _ l hl=>
        obtain⟨l',o,g1,g2,g3,g4,g5⟩:=hr.live b _ hg;rw[hl]at g1; injection g1 with g1; subst g1
        cases g5 with
        | cells _ _ _ c e hk hn hlen hrows h1c=>
         subst hk;have hcells:=hv.Bu hcs;unfold O8 at hc;cases hi:P.info? t with
         | none=>simp[hi]at hc
         | some inf=>
          simp only[hi,Option.map_some,oI]at hc;have hk2:=hrows.1 i row hrow;have hil:i<els.length:=(gS.1 hrow).1;have hbound:(l.sh+i)*l.k+j+inf.size≤c.size:=by
           have:(l.sh+i+1)*l.k≤l.n*l.k:=Nat.mul_le_mul_right _ (by omega)
           rw[Nat.add_mul]at this;omega
          have hone:∀ u,u∈vv.cells.toList→u.oneCell'=true:=by
           intro u hu;obtain⟨q,hq,rfl⟩:=List.getElem_of_mem hu;simp only[Array.length_toList]at hq;have EI:q<cs.length:=by rw[← hcells.1]; exact hq
           have h1:=hcells.2 q _ _ (gE EI) (Array.getElem?_eq_getElem hq);have h2:(cs[q]).one=true:=List.all_eq_true.1 hc3 _ (List.getElem_mem EI);simpa using Sh h1 h2
          have hrun:=Z30 (P:=P) (v:=vv) hi g4 (by rw[hcells.1,hc1,hc]) hone hbound
          rw[hrun]at he;exact AB.kR he hr hg hl (.cells _ _ _ _ _ rfl (by rw[Nb,hn]) (by simpa using hlen) (sK hrows hn hlen hrow hcells hc3 (by omega)) (Ss _ _ _ h1c hone))
      ·cases hst
    | map es clock=>simp[hg]at hst
    | Cl s pos=>simp[hg]at hst
    | Ca a b c d=>simp[hg]at hst
 | _=>simp at hst
end
end Go.AE
end
section
namespace Go.AE
open Go.RowKit
section
variable {P:Program} {s:Sem Next} {W:Ap} {Φ:Ao} {ρ:AD} {id:Nat} {w w1:World} {m m':Mem} {x:Aa} {v:Value}
theorem MY{y:Aa}{n:Nat}(h:R Φ ρ y v)(hn:P7 y=some n):∃ k,v=.int k (n:Int):=by
 cases h<;>simp only[P7]at hn<;>try (cases hn; done)
 split at hn
 ·rename_i k z h0;injection hn with hn
  subst hn;exact⟨k,by rw[Int.toNat_of_nonneg h0]⟩
 ·cases hn
theorem LI{t:TypeId}{n:Nat}(h:O8 P t=some n):∃ i,P.info? t=some i∧i.size=n:=by
 unfold O8 at h;cases hi:P.info? t with
 | none=>simp[hi]at h
 | some i=>exact ⟨i,rfl,by simpa[hi]using h⟩
theorem uB{y z:Aa}{off:Nat}(h:R Φ ρ y v)(ha:F1 off y=some z):∃ B o,v=.pointer (some ⟨B,o,none⟩)∧R Φ ρ z (.pointer (some ⟨B,o+off,none⟩)):=by
 cases h with
 | ptr b i j l hl=>
  simp only[F1,oI]at ha;subst ha;refine⟨_,_,rfl,?_⟩;have:=R.ptr (Φ:=Φ) (ρ:=ρ) b i (j+off) l hl;rwa[← Nat.add_assoc]at this
 | AW els i j B o k c f hB hk hc hr=>
  simp only[F1,oI]at ha;subst ha;refine⟨_,_,rfl,?_⟩;have:=R.AW (Φ:=Φ) (ρ:=ρ) els i (j+off) B o k c f hB hk hc hr;rwa[← Nat.add_assoc]at this
 | _=>simp[F1]at ha
theorem Z6e{t:TypeId}{fs:Array Field}{i n:Nat}{f:Field}{y z:Aa}(ht:P.underlying t=some (.struct fs))(hf:fs[i]? = some f)(hn:O8 P f.type=some n)(h0:n≠0)
 (hy:R Φ ρ y v) (ha:F1 f.offset y=some z):∃ u,(Instr.fieldAt t v i).run P w=.ok u w∧R Φ ρ z u:=by
 obtain⟨B,o,rfl,hz⟩:=uB hy ha;obtain⟨inf,hi,hs⟩:=LI hn;refine⟨_,?_,hz⟩;simp only[Instr.fieldAt,Sem.run_bind,V1 ht,Result.andThen_ok,hf,Instr.sureAddr,Sem.run_pure,fieldPlace,G8 hi,hs];rw[iN h0];simp[Addr.Ba]
theorem mB{t:TypeId}{n:Option Nat}{cs:List Aa}{vs:Array Value}{off:Nat}{z:Aa}(hc:JV P t=some n)(h:RL Φ ρ cs vs)(hp:Iw cs off n=some z) :
 ∃ u,(part t vs off).run P w=.ok u w∧R Φ ρ z u:=by
 obtain⟨d,i,hd,hi,hcase⟩:=oK hc;have hagg:=YN (w:=w) hd;simp only[part,Sem.run_bind,hagg,Result.andThen_ok];rcases hcase with⟨rfl,hd'⟩|⟨rfl,hd'⟩
 ·rw[hd'];simp only[Iw]at hp;split at hp
  ·rename_i hle;injection hp with hp
   subst hp;simp only[if_true,Sem.run_bind,G8 hi,Result.andThen_ok,Sem.run_pure];refine⟨_,rfl,.agg _ _ (by simp[h.1]; omega) fun q y u hy hu=>?_⟩
   have hq:q<i.size:=by
    have:=(gS.1 hy).1;simp at this; omega
   rw[List.getElem?_take,iP hq,List.getElem?_drop]at hy;rw[Array.getElem?_extract]at hu;split at hu
   ·exact h.2 _ _ _ hy hu
   ·cases hu
  ·cases hp
 ·rw[hd'];simp only[Iw]at hp;simp only[bF,if_false];have hlt:=(gS.1 hp).1;have hv:vs[off]? = some (vs[off]'(by rw[h.1]; exact hlt)):=Array.getElem?_eq_getElem _
  rw[hv];exact⟨_,rfl,h.2 _ _ _ hp hv⟩
theorem Xt{cs:List Aa}(h:R Φ ρ (.agg cs) v):∃ vs,v=.agg vs∧RL Φ ρ cs vs:=by
 cases h with
 | agg cs vs hs hr=>exact ⟨vs,rfl,hs,hr⟩
theorem Z6b{t:TypeId}{fs:Array Field}{i:Nat}{f:Field}{n:Option Nat}{cs:List Aa}{z:Aa}(ht:P.underlying t=some (.struct fs))(hf:fs[i]? = some f)(hn:JV P f.type=some n)
 (hy:R Φ ρ (.agg cs) v) (ha:Iw cs f.offset n=some z):∃ u,(Instr.field t v i).run P w=.ok u w∧R Φ ρ z u:=by
 obtain⟨vs,rfl,h⟩:=Xt hy;obtain⟨u,hu,hz⟩:=mB (P:=P) (w:=w) hn h ha;refine⟨u,?_,hz⟩;simp only[Instr.field,Sem.run_bind,V1 ht,Result.andThen_ok,hf,asAgg,Sem.run_pure,hu]
theorem mH{t e:TypeId}{k i:Nat}{y:Aa}{z:Aa}{vi:Value}{ki:IntKind}(hr:Rel W Φ ρ m w)(ht:P.underlying t=some (.slice e))(hk:O8 P e=some k)(hy:R Φ ρ y v)(hi:vi=.int ki (i:Int))
 (h:(∃ b off len els,y=.sl b off len∧m.get b=some (.cells k els)∧i<len∧z=.ptr b (off+i) 0)∨(∃ els row,y=.An els∧els[i]? = some row∧row.length=k∧z=.AW els i 0)) :
 ∃ u,(Instr.indexAt t v vi).run P w=.ok u w∧R Φ ρ z u:=by
 subst hi;obtain⟨inf,hinf,hs⟩:=LI hk;rcases h with⟨b,off,len,els,rfl,hb,hlt,rfl⟩|⟨els,row,rfl,hrow,hlen,rfl⟩
 ·cases hy with
  | sl _ _ _ a cap l hl hle hn hcap Ch=>
   have ha:=hcap (by omega)
   subst ha;obtain⟨l',o,g1,g2,g3,g4,g5⟩:=hr.live b _ hb;rw[hl]at g1; injection g1 with g1; subst g1
   have hkl:l.k=k:=by cases g5 with|cells _ _ _ c e hk' _ _ _ _=>exact hk'
   refine⟨_,?_,R.ptr b (off+i) 0 l hl⟩;simp only[Instr.indexAt,asIntOf,Sem.run_bind,Sem.run_pure,Result.andThen_ok,V1 ht];rw[iP ⟨by omega,by omega⟩]
   simp only[Sem.run_bind,G8 hinf,Result.andThen_ok,Sem.run_pure,Int.toNat_natCast,Addr.Ba,hs]
   congr 4
   rw[hkl,← Nat.add_assoc,Nat.add_mul (l.sh+off) i];rfl
 ·cases hy with
  | CQ a cap _=>simp at hrow
  | An _ B o k' cap c f hne hcap hB hk' hc As=>
   have hlt:i<els.length:=(gS.1 hrow).1;have hkk:k'=k:=by rw[← hk' i row hrow,hlen]
   subst hkk;refine⟨_,?_,R.AW els i 0 B o k' c f hB hk' hc As⟩;simp only[Instr.indexAt,asIntOf,Sem.run_bind,Sem.run_pure,Result.andThen_ok,V1 ht];rw[iP ⟨by omega,by omega⟩]
   simp only[Sem.run_bind,G8 hinf,Result.andThen_ok,Sem.run_pure,Int.toNat_natCast,Addr.Ba,hs];rfl
theorem xu{t e:TypeId}{n k i:Nat}{y z:Aa}{vi:Value}{ki:IntKind}(ht:P.underlying t=some (.array n e))(hk:O8 P e=some k)(hy:R Φ ρ y v)(hi:vi=.int ki (i:Int))(hlt:i<n)
 (ha:F1 (i*k) y=some z):∃ u,(Instr.indexAt t v vi).run P w=.ok u w∧R Φ ρ z u:=by
 subst hi;obtain⟨inf,hinf,hs⟩:=LI hk;obtain⟨B,o,rfl,hz⟩:=uB hy ha;refine⟨_,?_,hz⟩;simp only[Instr.indexAt,asIntOf,Sem.run_bind,Sem.run_pure,Result.andThen_ok,V1 ht,Instr.sureAddr];rw[iP ⟨by omega,by omega⟩]
 simp only[Sem.run_bind,G8 hinf,Result.andThen_ok,Sem.run_pure,Int.toNat_natCast,Addr.Ba,hs]
theorem Zz1{t:TypeId}{l:List UInt8}{i:Nat}{c:UInt8}{vi:Value}{ki:IntKind}(ht:P.underlying t=some .string)(hy:R Φ ρ (.str l) v)(hi:vi=.int ki (i:Int))(hc:l[i]? = some c) :
 (Instr.index t v vi).run P w=.ok (.int .u8 c.toNat) w:=by
 subst hi;cases hy with
 | str _=>
  simp only[Instr.index,asIntOf,Sem.run_bind,Sem.run_pure,Result.andThen_ok,V1 ht];rw[iP (by omega)]
  have:(ByteArray.mk ⟨l⟩)[(i:Int).toNat]? = some c:=by
   simp only[Int.toNat_natCast];have hlt:=(gS.1 hc).1;have hlt':i<(ByteArray.mk ⟨l⟩).size:=hlt;rw[getElem?_pos (ByteArray.mk ⟨l⟩) i hlt'];rw[gE hlt]at hc;injection hc with hc
   subst hc;rfl
  rw[this];rfl
theorem Z6p{t e:TypeId}{n k i:Nat}{sz:Option Nat}{cs:List Aa}{z:Aa}{vi:Value}{ki:IntKind}(ht:P.underlying t=some (.array n e))(hk:O8 P e=some k)(hsz:JV P e=some sz)
 (hy:R Φ ρ (.agg cs) v) (hi:vi=.int ki (i:Int)) (hlt:i<n) (ha:Iw cs (i*k) sz=some z):∃ u,(Instr.index t v vi).run P w=.ok u w∧R Φ ρ z u:=by
 subst hi;obtain⟨inf,hinf,hs⟩:=LI hk;obtain⟨vs,rfl,h⟩:=Xt hy;obtain⟨u,hu,hz⟩:=mB (P:=P) (w:=w) hsz h ha;refine⟨u,?_,hz⟩;simp only[Instr.index,asIntOf,Sem.run_bind,Sem.run_pure,Result.andThen_ok,V1 ht];rw[iP ⟨by omega,by omega⟩]
 simp only[Sem.run_bind,G8 hinf,Result.andThen_ok,hs,Int.toNat_natCast];exact hu
end
end Go.AE
end
section
namespace Go.AE
open Go.RowKit
section
variable {P:Program} {s:Sem Next} {W:Ap} {Φ:Ao} {ρ:AD} {id:Nat} {w w1:World} {m m':Mem} {x:Aa} {v:Value}
theorem Tp{y:Aa}{n mx:Nat}{code:BoundsCode}(h:R Φ ρ y v)(hn:P7 y=some n)(hle:n≤mx):(Instr.sliceBound v mx code).run P w=.ok n w:=by
 obtain⟨k,rfl⟩:=MY h hn;simp only[Instr.sliceBound,asIntOf,Sem.run_bind,Sem.run_pure,Result.andThen_ok];rw[iP ⟨by omega,by omega⟩]
 simp
def Gz(Φ:Ao)(ρ:AD)(t:List Aa)(ao:Option Ah)(vo:Option Value):Prop:=
 match ao,vo with
 | none,none=>True
 | some y,some u=>R Φ ρ (ev t y) u
 | _,_=>False
theorem QZ{t:List Aa}{a:Act}(h:RL Φ ρ t a.tmps){o:Option Operand}{ao:Option Ah}(ho:H8 o=some ao):Gz Φ ρ t ao (o.map a.eval):=by
 cases o with
 | none=>
  simp only[H8,oI]at ho;subst ho;trivial
 | some y=>
  simp only[H8]at ho;cases hy:Y7 y with
  | none=>simp[hy]at ho
  | some z=>
   simp only[hy,oI]at ho;subst ho;exact U8 h hy
theorem QC{t:List Aa}{len EY cap l h:Nat}{lo hi:Option Ah}{GQ GP:Option Value}{b:Bool}(hlo:Gz Φ ρ t lo GQ)(hhi:Gz Φ ρ t hi GP)(hs:M9 t len EY lo hi=some (l,h))
 (hc:EY≤cap):(Instr.sliceBounds b len cap GQ GP none).run P w=.ok (l,h,cap) w∧l≤h∧h≤EY:=by
 unfold M9 at hs;cases hh:H1 t len hi with
 | none=>simp[hh]at hs
 | some h'=>
  simp only[hh]at hs;split at hs
  ·rename_i hle;cases hl:H1 t 0 lo with
   | none=>simp[hl]at hs
   | some l'=>
    simp only[hl]at hs;split at hs
    ·rename_i hle2;simp only[oI,AP]at hs;obtain⟨rfl,rfl⟩:=hs;refine⟨?_,hle2,hle⟩;have e1:(GP=none∧len=h') ∨ ∃ u,GP=some u ∧ ∀(code:BoundsCode),(Instr.sliceBound u cap code).run P w=.ok h' w:=by
      cases hi with
      | none=>
       cases GP with
       | none=>simp only[H1,oI]at hh; exact .inl ⟨rfl,hh⟩
       | some u=>exact hhi.elim
      | some y=>
       cases GP with
       | none=>exact hhi.elim
       | some u=>exact .inr ⟨u,rfl,fun code=>Tp hhi hh (by omega)⟩
     have e2:(GQ=none∧0=l') ∨ ∃ u,GQ=some u ∧ ∀(code:BoundsCode),(Instr.sliceBound u h' code).run P w=.ok l' w:=by
      cases lo with
      | none=>
       cases GQ with
       | none=>simp only[H1,oI]at hl; exact .inl ⟨rfl,hl⟩
       | some u=>exact hlo.elim
      | some y=>
       cases GQ with
       | none=>exact hlo.elim
       | some u=>exact .inr ⟨u,rfl,fun code=>Tp hlo hl (by omega)⟩
     rcases e1 with⟨rfl,rfl⟩|⟨u1,rfl,e1⟩<;>rcases e2 with⟨rfl,rfl⟩|⟨u2,rfl,e2⟩ <;>
      simp only[Instr.sliceBounds,Sem.run_bind,Sem.run_pure,Result.andThen_ok, *]
    ·cases hs
  ·cases hs
theorem Sw{t e:TypeId}{k:Nat}{a:Option Addr}{len cap l h:Nat}{GQ GP xY:Option Value}{mc:Nat}(ht:P.underlying t=some (.slice e))(hk:O8 P e=some k)
 (hb:(Instr.sliceBounds true len cap GQ GP xY).run P w=.ok (l,h,mc) w) :
 (Instr.sliceAt t (.slice a len cap) GQ GP xY).run P w=.ok (.slice (if mc=l then a else a.map (·.add (l*k))) (h - l) (mc - l)) w:=by
 obtain⟨inf,hinf,hs⟩:=LI hk;simp only[Instr.sliceAt,Instr.slice,Sem.run_bind,V1 ht,Result.andThen_ok,hb,G8 hinf,hs,Sem.run_pure]
theorem qC{els:List (List Aa)}{k:Nat}(h:(els.all fun r=>r.length == k)=true)(i:Nat)(row:List Aa)(hi:els[i]? = some row):row.length=k:=by
 have:=List.all_eq_true.1 h row (List.mem_of_getElem? hi);simpa using this
theorem Z40{els:List (List Aa)}{k l h len cap:Nat}{a:Option Addr}(hy:R Φ ρ (.An els) (.slice a len cap))(hall:(els.all fun r=>r.length == k)=true)(hl:l≤h)(hh:h≤els.length) :
 R Φ ρ (.An ((els.take h).drop l)) (.slice (if cap=l then a else a.map (·.add (l*k))) (h - l) (cap - l)):=by
 by_cases he:(els.take h).drop l=[]
 ·have hlen:h - l=0:=by
   have:=congrArg List.length he;simp at this;omega
  rw[he,hlen];refine .CQ _ _ fun hp=>?_
  rw[iN (by omega)]
  cases hy with
  | CQ a cap hz=>
   obtain⟨B,o,rfl⟩:=hz (by omega)
   exact⟨B,o+l*k,by simp only[Option.map_some,Addr.Ba]⟩
  | An _ B o k' cap c f hne hcap hB hk' hc As=>exact ⟨B,o+l*k,by simp only[Option.map_some,Addr.Ba]⟩
 ·have hlt:l<h:=by
   rcases lG l h with h1|h1
   ·exact h1
   ·exfalso;apply he;apply List.eq_nil_of_length_eq_zero;simp; omega
  cases hy with
  | CQ a cap _=>simp at hh; omega
  | An _ B o k' cap c f hne hcap hB hk' hc As=>
   have hkk:k'=k:=by
    have hpos:0<els.length:=by omega
    have e1:=hk' 0 _ (gE hpos);have e2:=qC hall 0 _ (gE hpos);omega
   subst hkk;rw[iN (by omega)]
   simp only[Option.map_some,Addr.Ba];have hget:∀ (i:Nat) (row:List Aa),((els.take h).drop l)[i]? = some row→els[l+i]? = some row:=by
    intro i row hi;rw[List.getElem?_drop,List.getElem?_take]at hi;split at hi
    ·exact hi
    ·cases hi
   have hlen:h - l=((els.take h).drop l).length:=by simp; omega
   rw[hlen];refine .An _ B (o+l*k') k' (cap - l) c (fun i j=>f (l+i) j) he (by simp; omega) hB (fun i row hi=>hk' _ row (hget i row hi)) (fun i row j y hi hj=>?_) (fun i row j y hi hj=>As _ row j y (hget i row hi) hj)
   have:=hc (l+i) row j y (hget i row hi) hj;refine⟨?_,this.2⟩;rw[← this.1]
   congr 1
   rw[Nat.add_mul]; omega
theorem Wr{t e:TypeId}{k:Nat}{tl:List Aa}{y:Aa}{lo hi:Option Ah}{GQ GP:Option Value}{z:Aa}{m2:Mem}(hr:Rel W Φ ρ m w)(ht:P.underlying t=some (.slice e))(hk:O8 P e=some k)(hy:R Φ ρ y v)
 (hlo:Gz Φ ρ tl lo GQ) (hhi:Gz Φ ρ tl hi GP)
 (h:(y=.Ai∧(∃ lh,M9 tl 0 0 lo hi=some lh)∧z=.Ai∧m2=m)∨(y=.emp∧(∃ lh,M9 tl 0 0 lo hi=some lh)∧z=.emp∧m2=m) ∨
   (∃ els l h,y=.An els∧(els.all fun r=>r.length == k)=true∧M9 tl els.length els.length lo hi=some (l,h)∧z=.An ((els.take h).drop l)∧m2=m) ∨
   (∃ b off len els l h,y=.sl b off len∧m.get b=some (.cells k els)∧off+len≤els.length∧M9 tl len (els.length - off) lo hi=some (l,h)∧z=.sl b (off+l) (h - l)∧m2=m)) :
 m2=m ∧ ∃ u,(Instr.sliceAt t v GQ GP none).run P w=.ok u w∧R Φ ρ z u:=by
 rcases h with⟨rfl,⟨⟨l,h⟩,hb⟩,rfl,rfl⟩|⟨rfl,⟨⟨l,h⟩,hb⟩,rfl,rfl⟩|⟨els,l,h,rfl,hall,hb,rfl,rfl⟩|⟨b,off,len,els,l,h,rfl,hg,hle,hb,rfl,rfl⟩
 ·refine⟨rfl,?_⟩;cases hy;obtain⟨Bg,h1,h2⟩:=QC (P:=P) (w:=w) (b:=true) (cap:=0) hlo hhi hb (lR _);obtain rfl:h=0:=by omega
  obtain rfl:l=0:=by omega
  exact⟨_,Sw ht hk Bg,.Ai⟩
 ·refine⟨rfl,?_⟩;cases hy with
  | emp a=>
   obtain⟨Bg,h1,h2⟩:=QC (P:=P) (w:=w) (b:=true) (cap:=0) hlo hhi hb (lR _);obtain rfl:h=0:=by omega
   obtain rfl:l=0:=by omega
   exact⟨_,Sw ht hk Bg,.emp _⟩
 ·refine⟨rfl,?_⟩;have hv:∃ a cap,v=.slice a els.length cap∧els.length≤cap:=by
   cases hy with
   | CQ a cap _=>exact ⟨_,_,rfl,Nat.zero_le _⟩
   | An _ B o k' cap c f hne hcap hB hk' hc As=>exact ⟨_,_,rfl,hcap⟩
  obtain⟨a,cap,rfl,hcap⟩:=hv;obtain⟨Bg,h1,h2⟩:=QC (P:=P) (w:=w) (b:=true) (cap:=cap) hlo hhi hb hcap;exact⟨_,Sw ht hk Bg,Z40 hy hall h1 h2⟩
 ·refine⟨rfl,?_⟩;cases hy with
  | sl _ _ _ a cap lc hl hlc hn2 hcap Ch=>
   obtain⟨l',o,g1,g2,g3,g4,g5⟩:=hr.live b _ hg;rw[hl]at g1; injection g1 with g1; subst g1
   cases g5 with
   | cells _ _ _ c e' hk' hn hlen hrows _=>
    have Fm:els.length - off≤cap:=by omega
    obtain⟨Bg,h1,h2⟩:=QC (P:=P) (w:=w) (b:=true) (cap:=cap) hlo hhi hb Fm;refine⟨_,Sw ht hk Bg,.sl b (off+l) (h - l) _ (cap - l) lc hl (by omega) (by omega) (fun hpos=>?_) (by split<;>simp[Ch])⟩
    have ha:=hcap (by omega)
    subst ha;rw[iN (by omega)]
    simp only[Option.map_some,Addr.Ba]
    congr 2
    rw[← Nat.add_assoc,Nat.add_mul (lc.sh+off) l,hk']
theorem nX(l:List UInt8)(a b:Nat):(ByteArray.mk ⟨l⟩).extract a b=⟨⟨(l.take b).drop a⟩⟩:=by
 have h1:=Lib.extract_data (ByteArray.mk ⟨l⟩) a b;cases h:(ByteArray.mk ⟨l⟩).extract a b with
 | mk d=>
  rw[h]at h1;have h2:d.toList=(l.take b).drop a:=by rw[List.drop_take]; simpa using h1
  cases d;simp at h2;rw[h2]
theorem zY{t:TypeId}{tl:List Aa}{l:List UInt8}{lo hi:Option Ah}{GQ GP:Option Value}{a b:Nat}(ht:P.underlying t=some .string)(hy:R Φ ρ (.str l) v)
 (hlo:Gz Φ ρ tl lo GQ) (hhi:Gz Φ ρ tl hi GP) (hb:M9 tl l.length l.length lo hi=some (a,b)) :
 ∃ u,(Instr.sliceAt t v GQ GP none).run P w=.ok u w∧R Φ ρ (.str ((l.take b).drop a)) u:=by
 cases hy with
 | str _=>
  obtain⟨Bg,h1,h2⟩:=QC (P:=P) (w:=w) (b:=false) (cap:=l.length) hlo hhi hb (lR _);refine⟨_,?_,.str _⟩;have hsz:(ByteArray.mk ⟨l⟩).size=l.length:=rfl;simp only[Instr.sliceAt,Instr.slice,Sem.run_bind,V1 ht,Result.andThen_ok,Option.isSome_none,bF,if_false,Sem.run_pure,hsz,Bg,nX]
end
end Go.AE
end
section
namespace Go.AE
open Go.RowKit
section
variable {P:Program} {s:Sem Next} {W:Ap} {Φ:Ao} {ρ:AD} {id:Nat} {w w1:World} {m m':Mem} {x:Aa} {v:Value}
theorem G0{k:IntKind}{n:Int}(h:R Φ ρ (.int k n) v):v=.int k n:=by cases h; rfl
theorem B8{l:List UInt8}(h:R Φ ρ (.str l) v):v=.string ⟨⟨l⟩⟩:=by cases h; rfl
theorem IE{b:Bool}(h:R Φ ρ (.bool b) v):v=.bool b:=by cases h; rfl
theorem JD(l:List UInt8):(ByteArray.mk ⟨l⟩).toList=l:=Lib.toList_data _
theorem Z7i{op:BinOp}{k:IntKind}{a b:Int}{z:Aa}{t:TypeId}(h:S7 op k a b=some z):∃ u,(binOp op t (.int k a) (.int k b)).run P w=.ok u w∧R Φ ρ z u:=by
 cases op
 case add=>simp only[S7,oI]at h; subst h; exact⟨.int k _,by simp[binOp,Op.intArith],.int _ _⟩
 case sub=>simp only[S7,oI]at h; subst h; exact⟨.int k _,by simp[binOp,Op.intArith],.int _ _⟩
 case mul=>simp only[S7,oI]at h; subst h; exact⟨.int k _,by simp[binOp,Op.intArith],.int _ _⟩
 case quo=>
  simp only[S7]at h;by_cases h0:b=0
  ·rw[iP h0]at h; cases h
  ·rw[iN h0]at h; injection h with h; subst h
   exact⟨.int k _,by simp[binOp,Op.intDiv,h0],.int _ _⟩
 case rem=>
  simp only[S7]at h;by_cases h0:b=0
  ·rw[iP h0]at h; cases h
  ·rw[iN h0]at h; injection h with h; subst h
   exact⟨.int k _,by simp[binOp,Op.intDiv,h0],.int _ _⟩
 case and=>simp only[S7,oI]at h; subst h; exact⟨.int k _,by simp only[binOp,Op.intBits]; simp,.int _ _⟩
 case or=>simp only[S7,oI]at h; subst h; exact⟨.int k _,by simp only[binOp,Op.intBits]; simp,.int _ _⟩
 case xor=>simp only[S7,oI]at h; subst h; exact⟨.int k _,by simp only[binOp,Op.intBits]; simp,.int _ _⟩
 case andNot=>simp only[S7,oI]at h; subst h; exact⟨.int k _,by simp only[binOp,Op.intBits]; simp,.int _ _⟩
 case eql=>simp only[S7,oI]at h; subst h; exact⟨.bool _,by simp only[binOp,Op.intCmp]; rw[iN (by simp)]; rfl,.bool _⟩
 case neq=>simp only[S7,oI]at h; subst h; exact⟨.bool _,by simp only[binOp,Op.intCmp]; rw[iN (by simp)]; rfl,.bool _⟩
 case lss=>simp only[S7,oI]at h; subst h; exact⟨.bool _,by simp only[binOp,Op.intCmp]; rw[iN (by simp)]; rfl,.bool _⟩
 case leq=>simp only[S7,oI]at h; subst h; exact⟨.bool _,by simp only[binOp,Op.intCmp]; rw[iN (by simp)]; rfl,.bool _⟩
 case gtr=>simp only[S7,oI]at h; subst h; exact⟨.bool _,by simp only[binOp,Op.intCmp]; rw[iN (by simp)]; rfl,.bool _⟩
 case geq=>simp only[S7,oI]at h; subst h; exact⟨.bool _,by simp only[binOp,Op.intCmp]; rw[iN (by simp)]; rfl,.bool _⟩
 all_goals (simp[S7]at h)
theorem s5{op:BinOp}{a b:List UInt8}{z:Aa}{t:TypeId}(h:Hx op a b=some z):∃ u,(binOp op t (.string ⟨⟨a⟩⟩) (.string ⟨⟨b⟩⟩)).run P w=.ok u w∧R Φ ρ z u:=by
 cases op
 case add=>
  simp only[Hx]at h;split at h
  ·rename_i hle;injection h with h; subst h
   refine⟨.string ⟨⟨a++b⟩⟩,?_,.str _⟩;have e:(ByteArray.mk ⟨a⟩++ByteArray.mk ⟨b⟩)=ByteArray.mk ⟨a++b⟩:=by
    have:=ByteArray.mk_append_mk a b;simpa using this
   simp only[binOp];rw[run_string_add_sum (w:=w) (P:=P) _ _ (by show a.length+b.length≤_; omega),e]
  ·cases h
 case eql=>simp only[Hx,oI]at h; subst h; exact⟨.bool _,by simp only[binOp,Op.stringOp,JD]; rfl,.bool _⟩
 case neq=>simp only[Hx,oI]at h; subst h; exact⟨.bool _,by simp only[binOp,Op.stringOp,JD]; rfl,.bool _⟩
 case lss=>simp only[Hx,oI]at h; subst h; exact⟨.bool _,by simp only[binOp,Op.stringOp,JD]; rfl,.bool _⟩
 case leq=>simp only[Hx,oI]at h; subst h; exact⟨.bool _,by simp only[binOp,Op.stringOp,JD]; rfl,.bool _⟩
 case gtr=>simp only[Hx,oI]at h; subst h; exact⟨.bool _,by simp only[binOp,Op.stringOp,JD]; rfl,.bool _⟩
 case geq=>simp only[Hx,oI]at h; subst h; exact⟨.bool _,by simp only[binOp,Op.stringOp,JD]; rfl,.bool _⟩
 all_goals (simp[Hx]at h)
theorem Zzp{t:TypeId}{k:Ce}{y z:Aa}{vy vz:Value}{b:Bool}(d:Nat)(hk:G7 P t=some k)(h:A9 k y z=some b)(hy:R Φ ρ y vy)(hz:R Φ ρ z vz) :
 (Op.equalIn (d+1) t vy vz).run P w=.ok b w:=by
 unfold G7 at hk;cases hu:P.underlying t with
 | none=>simp[hu]at hk
 | some ty=>
  cases ty<;>simp only[hu]at hk<;>first|(cases hk; done)|(injection hk with hk; subst hk)
  all_goals (cases y<;>cases z<;>simp only[A9]at h<;>first|(cases h; done)|skip)
  ·injection h with h; subst h
   rw[IE hy,IE hz];simp[Op.equalIn,V1 hu]
  ·split at h
   ·rename_i hkk;injection h with h; subst h; subst hkk
    rw[G0 hy,G0 hz];simp[Op.equalIn,V1 hu]
   ·cases h
  ·injection h with h; subst h
   rw[B8 hy,B8 hz];simp only[Op.equalIn,Sem.run_bind,V1 hu,Result.andThen_ok,Sem.run_pure];rw[beq_toListBytes,JD,JD]
theorem RL.at_{cs:List Aa}{vs:Array Value}(h:RL Φ ρ cs vs){i:Nat}{y:Aa}(hi:cs[i]? = some y):∃ u,vs[i]? = some u∧R Φ ρ y u:=by
 have hlt:=(gS.1 hi).1;have hv:vs[i]? = some (vs[i]'(by rw[h.1]; exact hlt)):=Array.getElem?_eq_getElem _
 exact⟨_,hv,h.2 _ _ _ hi hv⟩
theorem oQ{t:TypeId}{k:Ce}{cs:List Aa}{vs:Array Value}{i:Nat}{y:Aa}(hk:G7 P t=some k)(h:RL Φ ρ cs vs)(hi:cs[i]? = some y):∃ u,(part t vs i).run P w=.ok u w∧R Φ ρ y u:=by
 obtain⟨u,hu,hr⟩:=h.at_ hi;refine⟨u,?_,hr⟩;unfold G7 at hk;cases hty:P.underlying t with
 | none=>simp[hty]at hk
 | some ty=>
  have hagg:=YN (w:=w) hty;have hf:Ma ty=false:=by cases ty<;>simp[hty]at hk<;>rfl
  simp only[part,Sem.run_bind,hagg,Result.andThen_ok,hf,bF,if_false,hu,Sem.run_pure]
theorem pV(d:Nat){xs ys:List Aa}{vx vy:Array Value}(hx:RL Φ ρ xs vx)(hy:RL Φ ρ ys vy):∀ (fs:List Field) (i:Nat) (ks:List Ce) (b:Bool),Ou P fs i=some ks→Nf ks (xs.drop i) (ys.drop i)=some b →
 (Op.eqFields (d+1) vx vy fs).run P w=.ok b w
 | [],i,ks,b,hf,hs=>by
  simp only[Ou,oI]at hf;subst hf;have hb:b=true:=by
   cases h1:xs.drop i<;>cases h2:ys.drop i<;>simp[h1,h2,Nf]at hs
   exact hs
  subst hb;rfl
 | f :: r,i,ks,b,hf,hs=>by
  simp only[Ou]at hf;split at hf
  ·rename_i hcond;simp only[bA,bne_iff_ne,ne_eq,beq_iff_eq]at hcond;cases hk:G7 P f.type with
   | none=>simp[hk]at hf
   | some k=>
    cases hr:Ou P r (i+1)with
    | none=>simp[hk,hr]at hf
    | some ks'=>
     simp only[hk,hr,oI]at hf;subst hf;cases h1:xs.drop i with
     | nil=>simp[h1,Nf]at hs
     | cons x xs'=>
      cases h2:ys.drop i with
      | nil=>simp[h1,h2,Nf]at hs
      | cons y ys'=>
       simp only[h1,h2,Nf]at hs;have hxi:xs[i]? = some x:=by
        have:=congrArg (fun l=>l[0]?) h1
        simpa[List.getElem?_drop]using this
       have hyi:ys[i]? = some y:=by
        have:=congrArg (fun l=>l[0]?) h2
        simpa[List.getElem?_drop]using this
       have hx':xs.drop (i+1)=xs':=by
        rw[← List.tail_drop,h1]; rfl
       have hy':ys.drop (i+1)=ys':=by
        rw[← List.tail_drop,h2]; rfl
       obtain⟨ux,hux,hrx⟩:=oQ (P:=P) (w:=w) hk hx hxi;obtain⟨uy,huy,hry⟩:=oQ (P:=P) (w:=w) hk hy hyi;rw[Op.eqFields,iP hcond.1,hcond.2];cases hkey:A9 k x y with
       | none=>simp[hkey]at hs
       | some b1=>
        have hrun:=Zzp (w:=w) d hk hkey hrx hry;simp only[Sem.run_bind,hux,huy,Result.andThen_ok,hrun];cases b1 with
        | false=>
         simp only[hkey,oI]at hs;subst hs;simp
        | true=>
         simp only[hkey]at hs;simp only[Bool.not_true,bF,if_false];exact pV d hx hy r (i+1) ks' b hr (by rw[hx',hy']; exact hs)
  ·cases hf
theorem Wi{y:Aa}{b:Bool}(h:H2 .slice y=some b)(hy:R Φ ρ y v):∃ a n c,v=.slice a n c∧a.isNone=b:=by
 cases hy<;>simp only[H2]at h<;>try (cases h; done)
 ·injection h with h; subst h; exact⟨_,_,_,rfl,rfl⟩
 ·rename_i a _ _ _ _ _ _ ha;injection h with h; subst h
  refine⟨_,_,_,rfl,?_⟩;rw[← Option.not_isSome,ha]; rfl
 ·rename_i els _ _ _ _ _ _ hne _ _ _ _ _;have:els.isEmpty=false:=by cases els<;>simp_all
  simp only[this,bF,if_false,oI]at h;subst h;exact⟨_,_,_,rfl,rfl⟩
theorem VE{y:Aa}{b:Bool}(h:H2 .ptr y=some b)(hy:R Φ ρ y v):∃ a,v=.pointer a∧a.isNone=b:=by
 cases hy<;>simp only[H2]at h<;>try (cases h; done)
 all_goals (injection h with h; subst h; exact⟨_,rfl,rfl⟩)
theorem WB{y:Aa}{b:Bool}(h:H2 .map y=some b)(hy:R Φ ρ y v):∃ a,v=.map a∧a.isNone=b:=by
 cases hy<;>simp only[H2]at h<;>try (cases h; done)
 all_goals (injection h with h; subst h; exact⟨_,rfl,rfl⟩)
theorem Xi{y:Aa}{b:Bool}(h:H2 .func y=some b)(hy:R Φ ρ y v):(v=.nilFunc∧b=true)∨(∃ f x c,v=.func f x c∧b=false):=by
 cases hy<;>simp only[H2]at h<;>try (cases h; done)
 ·injection h with h; subst h; exact .inr ⟨_,_,_,rfl,rfl⟩
 ·injection h with h; subst h; exact .inl ⟨rfl,rfl⟩
theorem rW{t el:TypeId}(d:Nat)(hu:P.underlying t=some (.pointer el))(a:Option Addr):(Op.equalIn (d+1) t (.pointer a) (.pointer none)).run P w=.ok a.isNone w∧(Op.equalIn (d+1) t (.pointer none) (.pointer a)).run P w=.ok a.isNone w:=by
 cases a<;>simp[Op.equalIn,V1 hu]
theorem nT{t el:TypeId}(d:Nat)(hu:P.underlying t=some (.slice el))(a:Option Addr)(n c n' c':Nat):(Op.equalIn (d+1) t (.slice a n c) (.slice none n' c')).run P w=.ok a.isNone w∧(Op.equalIn (d+1) t (.slice none n' c') (.slice a n c)).run P w=.ok a.isNone w:=by
 cases a<;>simp[Op.equalIn,V1 hu]
theorem qJ{t k el:TypeId}(d:Nat)(hu:P.underlying t=some (.map k el))(a:Option Nat):(Op.equalIn (d+1) t (.map a) (.map none)).run P w=.ok a.isNone w∧(Op.equalIn (d+1) t (.map none) (.map a)).run P w=.ok a.isNone w:=by
 cases a<;>simp[Op.equalIn,V1 hu]
theorem VC{t:TypeId}{a1 a2:Array TypeId}{a3:Bool}(d:Nat)(hu:P.underlying t=some (.func a1 a2 a3))(f:Fn)(x c:Array Value):(Op.equalIn (d+1) t .nilFunc .nilFunc).run P w=.ok true w∧(Op.equalIn (d+1) t (.func f x c) .nilFunc).run P w=.ok false w∧(Op.equalIn (d+1) t .nilFunc (.func f x c)).run P w=.ok false w:=by
 simp[Op.equalIn,V1 hu]
theorem WZ{e:Fi}{y z:Aa}{b:Bool}(h:Lv e y z=some b):(H2 e z=some true∧H2 e y=some b)∨(H2 e y=some true∧H2 e z=some b):=by
 unfold Lv at h;split at h
 ·rename_i h1; exact .inl ⟨h1,h⟩
 ·split at h
  ·rename_i h1; exact .inr ⟨h1,h⟩
  ·cases h
theorem oU{op:BinOp}{t:TypeId}{e:Fi}{y z:Aa}{vy vz:Value}{b:Bool}{ox oy:Operand}(he:UL P t=some e)(h:FG e y z=some b)(hy:R Φ ρ y vy)(hz:R Φ ρ z vz) :
 (eqGuard op t ox oy vy vz).run P w=.ok () w∧(Op.equal t vy vz).run P w=.ok b w∧(∀ k n,vy≠.int k n)∧(∀ s,vy≠.string s)∧(∀ k n,vz≠.int k n):=by
 unfold UL at he;cases hu:P.underlying t with
 | none=>simp[hu]at he
 | some ty=>
  cases ty<;>simp only[hu]at he<;>first|(cases he; done)|skip
  case bool=>
   injection he with he; subst he
   simp only[FG]at h;split at h
   ·injection h with h; subst h
    rw[IE hy,IE hz];exact⟨by cases op<;>rfl,run_equal_bool w t _ _ hu,by simp,by simp,by simp⟩
   ·cases h
  case int k=>injection he with he; subst he; simp[FG]at h
  case string=>injection he with he; subst he; simp[FG]at h
  case pointer el=>
   injection he with he; subst he
   rcases WZ h with⟨h1,h2⟩|⟨h1,h2⟩
   ·obtain⟨a2,rfl,hn2⟩:=VE h1 hz;obtain⟨a1,rfl,DF⟩:=VE h2 hy;obtain rfl:a2=none:=by simpa using hn2
    subst DF;exact⟨by cases op<;>rfl,(rW 9999 hu _).1,by simp,by simp,by simp⟩
   ·obtain⟨a2,rfl,hn2⟩:=VE h2 hz;obtain⟨a1,rfl,DF⟩:=VE h1 hy;obtain rfl:a1=none:=by simpa using DF
    subst hn2;exact⟨by cases op<;>rfl,(rW 9999 hu _).2,by simp,by simp,by simp⟩
  case slice el=>
   injection he with he; subst he
   rcases WZ h with⟨h1,h2⟩|⟨h1,h2⟩
   ·obtain⟨a2,n2,c2,rfl,hn2⟩:=Wi h1 hz;obtain⟨a1,n1,c1,rfl,DF⟩:=Wi h2 hy;obtain rfl:a2=none:=by simpa using hn2
    subst DF;exact⟨by cases op<;>rfl,(nT 9999 hu _ _ _ _ _).1,by simp,by simp,by simp⟩
   ·obtain⟨a2,n2,c2,rfl,hn2⟩:=Wi h2 hz;obtain⟨a1,n1,c1,rfl,DF⟩:=Wi h1 hy;obtain rfl:a1=none:=by simpa using DF
    subst hn2;exact⟨by cases op<;>rfl,(nT 9999 hu _ _ _ _ _).2,by simp,by simp,by simp⟩
  case map el e2=>
   injection he with he; subst he
   rcases WZ h with⟨h1,h2⟩|⟨h1,h2⟩
   ·obtain⟨a2,rfl,hn2⟩:=WB h1 hz;obtain⟨a1,rfl,DF⟩:=WB h2 hy;obtain rfl:a2=none:=by simpa using hn2
    subst DF;exact⟨by cases op<;>rfl,(qJ 9999 hu _).1,by simp,by simp,by simp⟩
   ·obtain⟨a2,rfl,hn2⟩:=WB h2 hz;obtain⟨a1,rfl,DF⟩:=WB h1 hy;obtain rfl:a1=none:=by simpa using DF
    subst hn2;exact⟨by cases op<;>rfl,(qJ 9999 hu _).2,by simp,by simp,by simp⟩
  case func a1 a2 a3=>
   injection he with he; subst he
   rcases WZ h with⟨h1,h2⟩|⟨h1,h2⟩
   ·rcases Xi h1 hz with⟨rfl,_⟩|⟨f,x,c,rfl,hb⟩
    ·rcases Xi h2 hy with⟨rfl,rfl⟩|⟨f,x,c,rfl,rfl⟩
     ·exact⟨by cases op<;>rfl,(VC 9999 hu (.func 0) #[] #[]).1,by simp,by simp,by simp⟩
     ·exact⟨by cases op<;>rfl,(VC 9999 hu _ _ _).2.1,by simp,by simp,by simp⟩
    ·cases hb
   ·rcases Xi h1 hy with⟨rfl,_⟩|⟨f,x,c,rfl,hb⟩
    ·rcases Xi h2 hz with⟨rfl,rfl⟩|⟨f,x,c,rfl,rfl⟩
     ·exact⟨by cases op<;>rfl,(VC 9999 hu (.func 0) #[] #[]).1,by simp,by simp,by simp⟩
     ·exact⟨by cases op<;>rfl,(VC 9999 hu _ _ _).2.2,by simp,by simp,by simp⟩
    ·cases hb
  case struct fs=>
   split at he
   ·cases he
   ·rename_i hcond;simp only[Bool.or_eq_true,not_or,Bool.not_eq_true]at hcond;cases hf:Ou P fs.toList 0 with
    | none=>simp[hf]at he
    | some ks=>
     simp only[hf,oI]at he;subst he;simp only[FG]at h;split at h
     ·rename_i xs ys;obtain⟨vx,rfl,hx⟩:=Xt hy;obtain⟨vy,rfl,hyy⟩:=Xt hz;refine⟨run_eqGuard_agg w op t ox oy vx vy hcond.2,?_,by simp,by simp,by simp⟩
      have hfo:P.fieldsOf t=fs:=by simp[Program.fieldsOf,hu]
      have:=run_equalIn_struct (P:=P) w 9999 t vx vy (by rw[hfo]; exact hu) hcond.1
      rw[Op.equal,Op.maxDepth,this,hfo];exact pV 9998 hx hyy fs.toList 0 ks b hf (by simpa using h)
     ·cases h
end
end Go.AE
end
section
namespace Go.AE
open Go.RowKit
section
variable {P:Program} {s:Sem Next} {W:Ap} {Φ:Ao} {ρ:AD} {id:Nat} {w w1:World} {m m':Mem} {x:Aa} {v:Value}
theorem Z4s{op:UnOp}{y z:Aa}(h:Ga op y=some z)(hy:R Φ ρ y v):∃ u,(Op.unary op v).run P w=.ok u w∧R Φ ρ z u:=by
 unfold Ga at h;split at h
 ·injection h with h; subst h
  rw[G0 hy];exact⟨.int _ _,by simp[Op.unary,Op.intArith],.int _ _⟩
 ·injection h with h; subst h
  rw[IE hy];exact⟨.bool _,by simp[Op.unary],.bool _⟩
 ·injection h with h; subst h
  rw[G0 hy];exact⟨.int _ _,by simp only[Op.unary,Op.intBits]; simp,.int _ _⟩
 ·cases h
theorem Zc(place:Nat→Option (Nat×Nat)):∀ (ps:List (Nat×Value)) (as:List (Nat×Nat×Aa)) (cs:List Aa) (vs:Array Value) (cs':List Aa),RL Φ ρ cs vs→as.length=ps.length →
 (∀(q:Nat) (p:Nat×Value) (a:Nat×Nat×Aa),ps[q]? = some p→as[q]? = some a→place p.1=some (a.1,a.2.1)∧R Φ ρ a.2.2 p.2)→H9 cs as=some cs' →
 ∃ vs',Instr.fill place vs ps=some vs'∧RL Φ ρ cs' vs'
 | [],[],cs,vs,cs',h,_,_,hf=>by
  simp only[H9,oI]at hf;subst hf;exact⟨vs,rfl,h⟩
 | [],a :: as,cs,vs,cs',_,hl,_,_=>by simp at hl
 | p :: ps,[],cs,vs,cs',_,hl,_,_=>by simp at hl
 | (i,u) :: ps,(off,size,y) :: as,cs,vs,cs',h,hl,hr,hf=>by
  obtain⟨h1,h2⟩:=hr 0 (i,u) (off,size,y) rfl rfl;simp only[H9]at hf;cases hc:y.cells with
  | none=>simp[hc]at hf
  | some ys=>
   simp only[hc]at hf;split at hf
   ·rename_i hcond;have hcells:=h2.Bu hc;have hnew:RL Φ ρ (N6 cs off ys) (u.cells.zipIdx.foldl (fun cs (c,j)=>cs.setIfInBounds (off+j) c) vs):=by
     have key:∀ (l:List Value) (k:Nat) (vs:Array Value),(l.zipIdx k).foldl (fun cs (x:Value×Nat)=>cs.setIfInBounds (off+x.2) x.1) vs=O1 vs (off+k) l:=by
      intro l
      induction l with
      | nil=>intro k vs; rfl
      | cons v r ih=>intro k vs; simp only[List.zipIdx_cons,List.foldl_cons,O1,ih]; rfl
     have e:u.cells.zipIdx.foldl (fun cs (c,j)=>cs.setIfInBounds (off+j) c) vs=O1 vs off u.cells.toList:=by
      rw[← Array.foldl_toList,Array.toList_zipIdx];exact key u.cells.toList 0 vs
     rw[e];refine⟨by rw[Nb,sI,h.1],fun q z uz hz huz=>?_⟩
     rw[cB]at hz;rw[YQ]at huz;simp only[Array.length_toList,hcells.1,h.1]at huz;split at hz
     ·rename_i hin;rw[iP hin]at huz;exact hcells.2 _ _ _ hz (by simpa using huz)
     ·rename_i hin;rw[iN hin]at huz;exact h.2 _ _ _ hz huz
    obtain⟨vs',hv1,hv2⟩:=Zc place ps as _ _ cs' hnew (by simpa using hl) (fun q p a hp ha=>hr (q+1) p a (by simpa using hp) (by simpa using ha)) hf
    refine⟨vs',?_,hv2⟩;rw[Instr.fill,h1];simp only;rw[iN (by simp[hcells.1,h.1]; omega)]
    exact hv1
   ·cases hf
theorem uC{α β:Type}{g:α→Sem β}{f:α→β}{w:World}:∀ (l:List α),(∀ x,x∈l→(g x).run P w=.ok (f x) w)→(l.mapM g).run P w=.ok (l.map f) w
 | [],_=>by simp
 | x :: l,h=>by
  rw[List.mapM_cons];simp only[Sem.run_bind,h x (by simp),Result.andThen_ok,uC l (fun y hy=>h y (by simp[hy])),Sem.run_pure,List.map_cons]
theorem Z80{α β:Type}{g:α→Sem β}{f:α→β}{w:World}(l:Array α)(h:∀ x,x∈l.toList→(g x).run P w=.ok (f x) w):(l.mapM g).run P w=.ok (l.map f) w:=by
 rw[Array.mapM_eq_mapM_toList];simp only[Sem.run_map,uC l.toList h,Result.andThen_ok]
 congr 1
 cases l; simp
theorem vB{t:List Aa}{a:Act}(ht:RL Φ ρ t a.tmps)(fs:List Field):∀ (ps:List (Nat×Operand)) (as:List (Nat×Nat×Ah)),OP P fs ps=some as →
 as.length=ps.length ∧ ∀(q:Nat) (p:Nat×Operand) (b:Nat×Nat×Ah),ps[q]? = some p→as[q]? = some b→(∃ f,fs[p.1]? = some f∧b.1=f.offset∧O8 P f.type=some b.2.1)∧Y7 p.2=some b.2.2
 | [],as,h=>by
  simp only[OP,oI]at h;subst h;exact⟨rfl,fun q p b hp=>by simp at hp⟩
 | (i,y) :: ps,as,h=>by
  simp only[OP]at h;cases hf:fs[i]? with
  | none=>simp[hf]at h
  | some f=>
   cases hs:O8 P f.type with
   | none=>simp[hf,hs]at h
   | some n=>
    cases hy:Y7 y with
    | none=>simp[hf,hs,hy]at h
    | some z=>
     cases hr:OP P fs ps with
     | none=>simp[hf,hs,hy,hr]at h
     | some as'=>
      simp only[hf,hs,hy,hr,oI]at h;subst h;obtain⟨h1,h2⟩:=vB ht fs ps as' hr;refine⟨by simp[h1],fun q p b hp hb=>?_⟩
      cases q with
      | zero=>
       simp only[List.getElem?_cons_zero,oI]at hp hb;subst hp; subst hb;exact⟨⟨f,hf,rfl,hs⟩,hy⟩
      | succ q=>
       simp only[List.getElem?_cons_succ]at hp hb;exact h2 q p b hp hb
theorem mN(n:Nat):∀ (ps:List (Nat×Operand)) (as:List (Nat×Nat×Ah)),OB n ps=some as →
 as.length=ps.length ∧ ∀(q:Nat) (p:Nat×Operand) (b:Nat×Nat×Ah),ps[q]? = some p→as[q]? = some b→b.1=p.1*n∧b.2.1=n∧Y7 p.2=some b.2.2
 | [],as,h=>by
  simp only[OB,oI]at h;subst h;exact⟨rfl,fun q p b hp=>by simp at hp⟩
 | (i,y) :: ps,as,h=>by
  simp only[OB]at h;cases hy:Y7 y with
  | none=>simp[hy]at h
  | some z=>
   cases hr:OB n ps with
   | none=>simp[hy,hr]at h
   | some as'=>
    simp only[hy,hr,oI]at h;subst h;obtain⟨h1,h2⟩:=mN n ps as' hr;refine⟨by simp[h1],fun q p b hp hb=>?_⟩
    cases q with
    | zero=>
     simp only[List.getElem?_cons_zero,oI]at hp hb;subst hp; subst hb;exact⟨rfl,rfl,hy⟩
    | succ q=>
     simp only[List.getElem?_cons_succ]at hp hb;exact h2 q p b hp hb
theorem Z3d{t:TypeId}{fs:Array Field}{zs cs:List Aa}{ps:Array (Nat×Operand)}{as:List (Nat×Nat×Ah)}{tl:List Aa}{a:Act}(ht:RL Φ ρ tl a.tmps)(hu:P.underlying t=some (.struct fs))
 (hz:Jr P t=some zs) (hp:OP P fs.toList ps.toList=some as) (hf:H9 zs (as.map fun p=>(p.1,p.2.1,ev tl p.2.2))=some cs) (hall:∀ f,f∈fs.toList → ∃ i,P.info? f.type=some i) :
 ∃ u,(Instr.build t (ps.map fun(i,x)=>(i,a.eval x))).run P w=.ok u w∧R Φ ρ (.agg cs) u:=by
 obtain⟨i,z,y,h1,h2,h3,h4,_⟩:=LY hz Φ ρ;have EU:=h3.Bu h4;obtain⟨hlen,hspec⟩:=vB ht fs.toList ps.toList as hp;have hm:=Z80 (P:=P) (w:=w) (g:=fun f:Field=>do pure (f.offset,← sizeOf f.type)) (f:=fun f:Field=>(f.offset,P.cellsOf f.type)) fs (fun f hf=>by
  obtain⟨i,hi⟩:=hall f hf;simp only[Sem.run_bind,G8 hi,Result.andThen_ok,Sem.run_pure,Program.cellsOf,hi];rfl)
 obtain⟨vs',hv1,hv2⟩:=Zc (Φ:=Φ) (ρ:=ρ) (fun q=>(fs.map fun f:Field=>(f.offset,P.cellsOf f.type))[q]?) (ps.map fun(i,x)=>(i,a.eval x)).toList (as.map fun p=>(p.1,p.2.1,ev tl p.2.2)) zs z.cells cs EU
  (by simp[hlen]) (fun q p b hq hb=>by
    simp only[Array.toList_map,gM,mO]at hq hb;obtain⟨p0,Mr,rfl⟩:=hq;obtain⟨b0,hb0,rfl⟩:=hb;obtain⟨⟨f,hf1,hf2,hf3⟩,hop⟩:=hspec q p0 b0 Mr hb0;obtain⟨inf,hinf,hsz⟩:=LI hf3;refine⟨?_,U8 ht hop⟩;simp only[Array.getElem?_map];have:fs[p0.1]? = some f:=by simpa using hf1
    rw[this];simp[Program.cellsOf,hinf,hsz,hf2]) hf
 refine⟨.agg vs',?_,.agg _ _ hv2.1 hv2.2⟩;simp only[Instr.build,Sem.run_bind,Kh h1 h2,Result.andThen_ok,V1 hu,hm,hv1,Sem.run_pure]
theorem Z3x{t e:TypeId}{k n:Nat}{zs cs:List Aa}{ps:Array (Nat×Operand)}{as:List (Nat×Nat×Ah)}{tl:List Aa}{a:Act}(ht:RL Φ ρ tl a.tmps)(hu:P.underlying t=some (.array k e))(hn:O8 P e=some n)
 (hz:Jr P t=some zs) (hp:OB n ps.toList=some as) (hf:H9 zs (as.map fun p=>(p.1,p.2.1,ev tl p.2.2))=some cs) :
 ∃ u,(Instr.build t (ps.map fun(i,x)=>(i,a.eval x))).run P w=.ok u w∧R Φ ρ (.agg cs) u:=by
 obtain⟨i,z,y,h1,h2,h3,h4,_⟩:=LY hz Φ ρ;have EU:=h3.Bu h4;obtain⟨inf,hinf,hsz⟩:=LI hn;obtain⟨hlen,hspec⟩:=mN n ps.toList as hp;obtain⟨vs',hv1,hv2⟩:=Zc (Φ:=Φ) (ρ:=ρ) (fun q=>some (q*inf.size,inf.size)) (ps.map fun(i,x)=>(i,a.eval x)).toList (as.map fun p=>(p.1,p.2.1,ev tl p.2.2)) zs z.cells cs EU
  (by simp[hlen]) (fun q p b hq hb=>by
    simp only[Array.toList_map,gM,mO]at hq hb;obtain⟨p0,Mr,rfl⟩:=hq;obtain⟨b0,hb0,rfl⟩:=hb;obtain⟨hf1,hf2,hop⟩:=hspec q p0 b0 Mr hb0;refine⟨?_,U8 ht hop⟩;simp[hf1,hf2,hsz]) hf
 refine⟨.agg vs',?_,.agg _ _ hv2.1 hv2.2⟩;simp only[Instr.build,Sem.run_bind,Kh h1 h2,Result.andThen_ok,V1 hu,G8 hinf,hv1,Sem.run_pure]
end
end Go.AE
end
section
namespace Go.AE
open Go.RowKit
section
variable {P:Program} {s:Sem Next} {W:Ap} {Φ:Ao} {ρ:AD} {id:Nat} {w w1:World} {m m':Mem} {x:Aa} {v:Value}
theorem Z5e{cs row:List Aa}(h:cs.length=row.length):N6 row 0 cs=cs:=by
 apply List.ext_getElem?;intro q;rw[cB];by_cases hq:q<row.length
 ·rw[iP ⟨Nat.zero_le _,by omega,hq⟩]; rfl
 ·rw[iN (by omega),List.getElem?_eq_none (by omega),List.getElem?_eq_none (by omega)]
theorem mul_add_mod{i j k:Nat}(h:j<k):(i*k+j) % k=j:=by
 rw[Nat.mul_comm,Nat.mul_add_mod];exact Nat.mod_eq_of_lt h
theorem Sm{zs:List Aa}{zc:Array Value}{k len:Nat}(h:RL Φ ρ zs zc)(h1:zs.all Aa.one=true)(hk:zs.length=k)(h0:0<k) :
 RowsIn Φ ρ (List.replicate len zs) 0 k ((Array.range (len*k)).map fun i=>zc[i % zc.size]!):=by
 refine⟨fun i row hi=>?_,fun i row j y hi hj=>?_⟩
 ·have:=List.mem_of_getElem? hi;rw[List.eq_of_mem_replicate this,hk]
 ·have hrow:=List.eq_of_mem_replicate (List.mem_of_getElem? hi);subst hrow;have hil:i<len:=by
   have:=(gS.1 hi).1;simpa using this
  have hjk:j<k:=by
   have:=(gS.1 hj).1;omega
  obtain⟨u,hu,hr⟩:=h.at_ hj;have hlt:=LM hil hjk;refine⟨u,?_,Sh hr (List.all_eq_true.1 h1 y (List.mem_of_getElem? hj)),hr⟩;rw[Nat.zero_add,Array.getElem?_map,Array.getElem?_range,iP hlt];simp only[Option.map_some,oI];have e:(i*k+j) % zc.size=j:=by rw[h.1,hk]; exact mul_add_mod hjk
  rw[e];have hj2:=(Array.getElem?_eq_some_iff.1 hu).1;rw[getElem!_pos zc j hj2];rw[Array.getElem?_eq_getElem hj2]at hu;injection hu
theorem OG{t:TypeId}{k b:Nat}{z:List Aa}(h:A6 P t=some (k,b,z)):∃ e i,P.underlying t=some (.slice e)∧P.info? e=some i∧i.size=k∧i.bytes=b∧Jr P e=some z∧z.length=k∧0<k:=by
 unfold A6 at h;split at h
 ·rename_i e he;cases hs:O8 P e with
  | none=>simp[hs]at h
  | some k'=>
   cases hb:bD P e with
   | none=>simp[hs,hb]at h
   | some b'=>
    cases hz:Jr P e with
    | none=>simp[hs,hb,hz]at h
    | some z'=>
     simp only[hs,hb,hz]at h;split at h
     ·rename_i hcond;simp only[oI,AP]at h;obtain⟨rfl,rfl,rfl⟩:=h;obtain⟨i,hi,hsz⟩:=LI hs;have hbb:i.bytes=b':=by simpa[bD,hi]using hb
      exact⟨e,i,he,hi,hsz,hbb,hz,hcond.1,hcond.2⟩
     ·cases h
 ·cases h
theorem rJ{k:Nat}:∀ (ps:List (Nat×Value)) (as:List (Nat×Aa)) (els:List (List Aa)) (c:Array Value) (els':List (List Aa)),RowsIn Φ ρ els 0 k c→c.size=els.length*k→as.length=ps.length →
 (∀(q:Nat) (p:Nat×Value) (a:Nat×Aa),ps[q]? = some p→as[q]? = some a→p.1=a.1∧R Φ ρ a.2 p.2)→I8 k els as=some els' →
 ∃ c',Instr.fill (fun i=>some (i*k,k)) c ps=some c'∧RowsIn Φ ρ els' 0 k c'∧c'.size=c.size∧els'.length=els.length
 | [],[],els,c,els',h,_,_,_,hf=>by
  simp only[I8,oI]at hf;subst hf;exact⟨c,rfl,h,rfl,rfl⟩
 | [],a :: as,_,_,_,_,_,hl,_,_=>by simp at hl
 | p :: ps,[],_,_,_,_,_,hl,_,_=>by simp at hl
 | (i,u) :: ps,(i',y) :: as,els,c,els',h,hsz,hl,hr,hf=>by
  obtain⟨h1,h2⟩:=hr 0 (i,u) (i',y) rfl rfl;simp only at h1 h2;subst h1;simp only[I8]at hf;cases hc:y.cells with
  | none=>simp[hc]at hf
  | some ys=>
   simp only[hc]at hf;split at hf
   ·rename_i hcond;obtain⟨hc1,hc2,hc3⟩:=hcond;have hcells:=h2.Bu hc;have key:∀ (l:List Value) (q:Nat) (vs:Array Value),(l.zipIdx q).foldl (fun cs (x:Value×Nat)=>cs.setIfInBounds (i*k+x.2) x.1) vs=O1 vs (i*k+q) l:=by
     intro l
     induction l with
     | nil=>intro q vs; rfl
     | cons v r ih=>intro q vs; simp only[List.zipIdx_cons,List.foldl_cons,O1,ih]; rfl
    have e:u.cells.zipIdx.foldl (fun cs (c,j)=>cs.setIfInBounds (i*k+j) c) c=O1 c (i*k) u.cells.toList:=by
     rw[← Array.foldl_toList,Array.toList_zipIdx];exact key u.cells.toList 0 c
    have hrow:els[i]? = some els[i]:=gE hc2;have hrl:=h.1 i _ hrow;have hnew:=sK (n:=els.length) (i:=i) (j:=0) (cs:=ys) (vs:=u.cells) h (by rw[hsz]) (by omega) hrow hcells hc3 (by omega)
    rw[Z5e (by omega)]at hnew
    simp only[Nat.zero_add,Nat.add_zero]at hnew;obtain⟨c',g1,g2,g3,g4⟩:=rJ ps as _ _ els' hnew (by rw[Nb]; simpa using hsz) (by simpa using hl) (fun q p a hp ha=>hr (q+1) p a (by simpa using hp) (by simpa using ha)) hf
    refine⟨c',?_,g2,by rw[g3,Nb],by rw[g4]; simp⟩
    have hle:i*k+k≤c.size:=by
     rw[hsz];have:(i+1)*k≤els.length*k:=Nat.mul_le_mul_right k hc2;rw[Nat.add_mul]at this;omega
    rw[Instr.fill];simp only;rw[iN (by simp[hcells.1,hc1]; omega),e]
    exact g1
   ·cases hf
theorem sO:∀ (ps:List (Nat×Operand)) (as:List (Nat×Ah)),Ox ps=some as →
 as.length=ps.length ∧ ∀(q:Nat) (p:Nat×Operand) (b:Nat×Ah),ps[q]? = some p→as[q]? = some b→p.1=b.1∧Y7 p.2=some b.2
 | [],as,h=>by
  simp only[Ox,oI]at h;subst h;exact⟨rfl,fun q p b hp=>by simp at hp⟩
 | (i,y) :: ps,as,h=>by
  simp only[Ox]at h;cases hy:Y7 y with
  | none=>simp[hy]at h
  | some z=>
   cases hr:Ox ps with
   | none=>simp[hy,hr]at h
   | some as'=>
    simp only[hy,hr,oI]at h;subst h;obtain⟨h1,h2⟩:=sO ps as' hr;refine⟨by simp[h1],fun q p b hp hb=>?_⟩
    cases q with
    | zero=>
     simp only[List.getElem?_cons_zero,oI]at hp hb;subst hp; subst hb;exact⟨rfl,hy⟩
    | succ q=>
     simp only[List.getElem?_cons_succ]at hp hb;exact h2 q p b hp hb
theorem Ht{els:List (List Aa)}{k:Nat}{c:Array Value}(h:RowsIn Φ ρ els 0 k c)(hsz:c.size=els.length*k)(hk:0<k):∀ u,u∈c.toList→u.oneCell'=true:=by
 intro u hu;obtain⟨p,hp,rfl⟩:=List.getElem_of_mem hu;simp only[Array.length_toList]at hp;have hi:p / k<els.length:=by
  rw[Nat.div_lt_iff_lt_mul hk]; omega
 have hrow:els[p / k]? = some els[p / k]:=gE hi;have hlen:=h.1 _ _ hrow;have hj:p % k<(els[p / k]).length:=by rw[hlen]; exact Nat.mod_lt _ hk
 obtain⟨u,hu1,hu2,_⟩:=h.2 (p / k) _ (p % k) _ hrow (gE hj);have e:(0+p / k)*k+p % k=p:=by rw[Nat.zero_add,Nat.mul_comm]; exact Nat.div_add_mod p k
 rw[e,Array.getElem?_eq_getElem hp]at hu1;injection hu1 with hu1
 simpa[hu1]using hu2
theorem Wc{k len cap:Nat}{els:List (List Aa)}{c:Array Value}{e:TypeId}(hr:Rel W Φ ρ m w1)(hn:ρ id=none)(hlt:id<m.next)(hle:len≤cap)(hel:els.length≤cap)
 (hsz:c.size=cap*k) (hrows:RowsIn Φ ρ els 0 k c) (h1c:∀ v,v∈c.toList→v.oneCell'=true) (h:s.run P w=.ok (.value (.slice (some ⟨w1.heap.size,0,none⟩) len cap)) (w1.alloc (.cells c e))) :
 AB P s W Φ ρ id w (.sl id 0 len) (m.set id (.cells k els)):=by
 refine AB.new (l:=⟨w1.heap.size,0,k,cap⟩) h hr hn hlt rfl (BR.BG hn (.cells _ _ _ _ _ rfl hsz (by simpa using hel) hrows h1c)) ?_
 exact .sl id 0 len _ cap ⟨w1.heap.size,0,k,cap⟩ AD.Bm hle (by simp) (fun _=>by simp) rfl
theorem zo{t:TypeId}{k b len:Nat}{z:List Aa}{ps:Array (Nat×Operand)}{as:List (Nat×Ah)}{tl:List Aa}{a:Act}{els:List (List Aa)}(hr:Rel W Φ ρ m w)(ht:RL Φ ρ tl a.tmps)
 (hn:ρ id=none) (hlt:id<m.next) (he:A6 P t=some (k,b,z)) (hp:Ox ps.toList=some as) (hle:len*k≤2 ^ 24)
 (hf:I8 k (List.replicate len z) (as.map fun p=>(p.1,ev tl p.2))=some els)
 (hs:∀ u w',(Instr.buildSlice t len (ps.map fun(i,x)=>(i,a.eval x))).run P w=.ok u w'→s.run P w=.ok (.value u) w'):AB P s W Φ ρ id w (.sl id 0 len) (m.set id (.cells k els)):=by
 obtain⟨e,i,hu,hi,hsz,hb,hz,hzl,hk0⟩:=OG he;obtain⟨i',zv,y,h1,h2,h3,h4,h5⟩:=LY hz Φ ρ;rw[hi]at h1; injection h1 with h1; subst h1
 have EU:=h3.Bu h4;obtain⟨hlen,hspec⟩:=sO ps.toList as hp;have hzero:=Sm (len:=len) EU h5 hzl hk0;obtain⟨c',g1,g2,g3,g4⟩:=rJ (Φ:=Φ) (ρ:=ρ) (k:=k) (ps.map fun(i,x)=>(i,a.eval x)).toList (as.map fun p=>(p.1,ev tl p.2)) _ _ els hzero (by simp) (by simp[hlen]) (fun q p b hq hb=>by
  simp only[Array.toList_map,gM,mO]at hq hb;obtain⟨p0,Mr,rfl⟩:=hq;obtain⟨b0,hb0,rfl⟩:=hb;obtain⟨e1,e2⟩:=hspec q p0 b0 Mr hb0;exact⟨e1,U8 ht e2⟩) hf
 refine Wc (cap:=len) (c:=c') (e:=e) hr hn hlt (lR _) (by rw[g4]; simp) (by rw[g3]; simp) g2 (Ht g2 (by rw[g3,g4]; simp) hk0) (hs _ _ ?_)
 have g1':Instr.fill (fun q=>some (q*i.size,i.size)) ((Array.range (len*k)).map fun q=>zv.cells[q % zv.cells.size]!) (ps.map fun(i,x)=>(i,a.eval x)).toList=some c':=by rw[hsz]; exact g1
 simp only[Instr.buildSlice,Sem.run_bind,V1 hu,Result.andThen_ok,G8 hi];rw[iN (by rw[hsz]; omega)]
 by_cases h0:len*i.size=0
 ·rw[iP h0];have h00:len*k=0:=by rw[← hsz]; exact h0
  rw[h00]at g1';simp only[Sem.run_bind,Sem.run_pure,Result.andThen_ok,h0];have e0:((Array.range 0).map fun q=>(#[]:Array Value)[q % (#[]:Array Value).size]!)=(Array.range 0).map fun q=>zv.cells[q % zv.cells.size]!:=by simp
  rw[e0,g1'];rfl
 ·rw[iN h0];simp only[Sem.run_bind,Sem.run_pure,Result.andThen_ok,Kh hi h2];have e0:len*i.size=len*k:=by rw[hsz]
  rw[e0,g1'];rfl
theorem zl{t:TypeId}{k b l c:Nat}{z:List Aa}{vl vc:Value}{kl kc:IntKind}(hr:Rel W Φ ρ m w)(hn:ρ id=none)(hlt:id<m.next)(he:A6 P t=some (k,b,z))
 (hl:vl=.int kl (l:Int)) (hc:vc=.int kc (c:Int)) (hle:l≤c) (Dx:c≤W6) (Gv:b≤W6)
 (hs:∀ u w',(Instr.makeSlice t vl vc).run P w=.ok u w'→s.run P w=.ok (.value u) w'):AB P s W Φ ρ id w (.sl id 0 l) (m.set id (.cells k (List.replicate c z))):=by
 obtain⟨e,i,hu,hi,hsz,hb,hz,hzl,hk0⟩:=OG he;obtain⟨i',zv,y,h1,h2,h3,h4,h5⟩:=LY hz Φ ρ;rw[hi]at h1; injection h1 with h1; subst h1
 have EU:=h3.Bu h4;subst hl; subst hc;unfold W6 at Dx Gv;refine Wc (cap:=c) (c:=(Array.range (c*k)).map fun q=>zv.cells[q % zv.cells.size]!) (e:=e) hr hn hlt hle (by simp) (by simp) (Sm EU h5 hzl hk0) (Ht (Sm EU h5 hzl hk0) (by simp) hk0) (hs _ _ ?_)
 clear hs;have wl:IntKind.i64.wrap (l:Int)=l:=IntWalk.i64_in _ (by omega)
 have wc:IntKind.i64.wrap (c:Int)=c:=IntWalk.i64_in _ (by omega)
 have hmul:b*c≤1048576*1048576:=Nat.mul_le_mul Gv Dx;have hbig:¬((b:Int)*(c:Int) > 2 ^ 48):=by
  have h1:((b*c:Nat):Int)≤((1048576*1048576:Nat):Int):=Int.ofNat_le.2 hmul;rw[Int.natCast_mul]at h1;omega
 simp only[Instr.makeSlice,Sem.run_bind,V1 hu,Result.andThen_ok,asInt,asIntOf,Sem.run_pure,Ju hi,wl,wc];rw[hb];rw[iN (by
  simp only[Bool.or_eq_true,decide_eq_true_eq,not_or];exact⟨⟨⟨by omega,hbig⟩,by omega⟩,by omega⟩)]
 simp only[Sem.run_bind,run_askRoom,Result.andThen_ok,G8 hi,Int.toNat_natCast];by_cases h0:c*i.size=0
 ·rw[iP h0];have h00:c*k=0:=by rw[← hsz]; exact h0
  simp only[newRow,Sem.run_bind,run_newObj,Sem.run_pure,Result.andThen_ok,h0,h00];have e0:((Array.range 0).map fun q=>(#[]:Array Value)[q % (#[]:Array Value).size]!)=(Array.range 0).map fun q=>zv.cells[q % zv.cells.size]!:=by simp
  rw[e0];rfl
 ·rw[iN h0];simp only[newRow,Sem.run_bind,run_newObj,Sem.run_pure,Result.andThen_ok,Kh hi h2];have e0:c*i.size=c*k:=by rw[hsz]
  rw[e0];rfl
end
end Go.AE
end
section
namespace Go.AE
open Go.RowKit
section
variable {P:Program} {s:Sem Next} {W:Ap} {Φ:Ao} {ρ:AD} {id:Nat} {w w1:World} {m m':Mem} {x:Aa} {v:Value}
theorem sw(k:Nat)(a:Option Addr)(n c:Nat):(Builtin.firstCells k 0 (.slice a n c)).run P w=.ok #[] w:=by
 cases a with
 | none=>rfl
 | some a=>simp only[Builtin.firstCells,Nat.zero_mul]; rfl
theorem zZ(k:Nat):RowsIn Φ ρ [] 0 k #[]:=⟨fun i row h=>by simp at h,fun i row j x h=>by simp at h⟩
theorem Lw{k:Nat}{y:Aa}{xs:List (List Aa)}(hr:Rel W Φ ρ m w)(hy:R Φ ρ y v)(hs:O9 m k y=some xs)(hk:0<k) :
 ∃ arr:Array Value,(Builtin.lenOf v).run P w=.ok xs.length w∧(∀ q,q≤xs.length→(Builtin.firstCells k q v).run P w=.ok (arr.extract 0 (q*k)) w)∧arr.size=xs.length*k∧RowsIn Φ ρ xs 0 k arr:=by
 have empty:∀ (a:Option Addr) (cap:Nat),∃ arr:Array Value,(Builtin.lenOf (.slice a 0 cap)).run P w=.ok ([]:List (List Aa)).length w ∧
  (∀ q,q≤([]:List (List Aa)).length→(Builtin.firstCells k q (.slice a 0 cap)).run P w=.ok (arr.extract 0 (q*k)) w)∧arr.size=([]:List (List Aa)).length*k∧RowsIn Φ ρ [] 0 k arr:=by
  intro a cap;refine⟨#[],rfl,fun q hq=>?_,by simp,zZ k⟩
  obtain rfl:q=0:=by simpa using hq
  rw[sw]; simp
 cases hy with
 | str l=>
  simp only[O9]at hs;split at hs
  ·rename_i hk1;subst hk1;injection hs with hs
   subst hs;refine⟨(l.map fun b=>Value.int .u8 b.toNat).toArray,?_,fun q hq=>?_,by simp,fun i row hi=>?_,fun i row j y hi hj=>?_⟩
   ·simp only[Builtin.lenOf,Sem.run_pure,lM]; rfl
   ·simp only[Builtin.firstCells,Sem.run_pure,nX]
    congr 1
    apply Array.ext';simp[List.map_take]
   ·rw[gM]at hi;cases hl:l[i]? with
    | none=>simp[hl]at hi
    | some c=>simp only[hl,Option.map_some,oI]at hi; subst hi; rfl
   ·rw[gM]at hi;cases hl:l[i]? with
    | none=>simp[hl]at hi
    | some c=>
     simp only[hl,Option.map_some,oI]at hi;subst hi;have hj0:j=0:=by
      have:=(gS.1 hj).1;simp[WY]at this; exact this
     subst hj0;simp only[WY,List.getElem?_cons_zero,oI]at hj;subst hj;exact⟨.int .u8 c.toNat,by simp[hl],rfl,.int _ _⟩
  ·cases hs
 | Ai=>simp only[O9,J7,oI]at hs; subst hs; exact empty none 0
 | emp a=>simp only[O9,J7,oI]at hs; subst hs; exact empty a 0
 | CQ a cap _=>simp only[O9,J7,List.all_nil,if_true,oI]at hs; subst hs; exact empty a cap
 | An els B o k' cap c f hne hcap hB hk' hc As=>
  simp only[O9,J7]at hs;split at hs
  ·rename_i hall;injection hs with hs
   subst hs;have hpos:0<els.length:=List.length_pos_iff.2 hne;have hkk:k'=k:=by
    have e1:=hk' 0 _ (gE hpos);have e2:=qC hall 0 _ (gE hpos);omega
   subst hkk;obtain⟨e,fz,hB2⟩:=hr.AX B c hB;have hsize:o+els.length*k'≤c.size:=by
    have hlast:els[els.length - 1]? = some els[els.length - 1]:=gE (by omega)
    have hl:=hk' _ _ hlast;have hj:k' - 1<(els[els.length - 1]).length:=by omega
    have h1:=(hc _ _ _ _ hlast (gE hj)).1;have h2:=(Array.getElem?_eq_some_iff.1 h1).1;have e3:(els.length - 1+1)*k'=els.length*k':=by rw[Nat.sub_add_cancel hpos]
    rw[Nat.add_mul]at e3;omega
   refine⟨c.extract o (o+els.length*k'),rfl,fun q hq=>?_,by simp; omega,fun i row hi=>hk' i row hi,fun i row j y hi hj=>?_⟩
   ·simp only[Builtin.firstCells];have hqk:q*k'≤els.length*k':=Nat.mul_le_mul_right _ hq;rw[Yv hB2 (by omega)]
    congr 1
    rw[Array.extract_extract]
    congr 1
    omega
   ·have hi2:=(gS.1 hi).1;have hj2:j<k':=by
     have:=(gS.1 hj).1;rw[hk' i row hi]at this; exact this
    have hlt:=LM hi2 hj2;obtain⟨h1,h2⟩:=hc i row j y hi hj;refine⟨f i j,?_,h2,As i row j y hi hj⟩;rw[Nat.zero_add,Array.getElem?_extract,iP (by omega)]
    rw[← h1]; congr 1; omega
  ·cases hs
 | sl b off len a cap l hl hle hn hcap Ch=>
  simp only[O9,J7]at hs;have dead:len=0→xs=[] → ∃ arr:Array Value,(Builtin.lenOf (.slice a len cap)).run P w=.ok xs.length w∧(∀ q,q≤xs.length→(Builtin.firstCells k q (.slice a len cap)).run P w=.ok (arr.extract 0 (q*k)) w)∧arr.size=xs.length*k∧RowsIn Φ ρ xs 0 k arr:=by
   intro h0 h1;subst h0; subst h1;exact empty a cap
  cases hg:m.get b with
  | none=>
   simp only[hg]at hs;split at hs
   ·rename_i h0;injection hs with hs
    exact dead h0 hs.symm
   ·cases hs
  | some blk=>
   cases blk with
   | cells k2 els=>
    simp only[hg]at hs;split at hs
    ·rename_i hcond;obtain⟨rfl,DR⟩:=hcond;injection hs with hs
     by_cases h0:len=0
     ·subst h0;exact dead rfl (by rw[← hs]; simp)
     ·have ha:=hcap (by omega)
      subst ha;obtain⟨l',ob,g1,g2,g3,g4,g5⟩:=hr.live b _ hg;rw[hl]at g1; injection g1 with g1; subst g1
      cases g5 with
      | cells _ _ _ c e hk2 hsz hlen hrows _=>
       subst hs;subst hk2;have hxl:((els.drop off).take len).length=len:=by simp; omega
       have hbound:(l.sh+off)*l.k+len*l.k≤c.size:=by
        rw[hsz,← Nat.add_mul];exact Nat.mul_le_mul_right _ (by omega)
       refine⟨c.extract ((l.sh+off)*l.k) ((l.sh+off)*l.k+len*l.k),by rw[hxl]; rfl,fun q hq=>?_,by rw[hxl]; simp; omega,fun i row hi=>?_,fun i row j y hi hj=>?_⟩
       ·rw[hxl]at hq;simp only[Builtin.firstCells];have hqk:q*l.k≤len*l.k:=Nat.mul_le_mul_right _ hq;rw[Yv g4 (by omega)]
        congr 1
        rw[Array.extract_extract]
        congr 1
        omega
       ·rw[List.getElem?_take]at hi;split at hi
        ·rw[List.getElem?_drop]at hi;exact hrows.1 _ row hi
        ·cases hi
       ·rw[List.getElem?_take]at hi;split at hi
        ·rename_i hil;rw[List.getElem?_drop]at hi;obtain⟨u,h1,h2,h3⟩:=hrows.2 (off+i) row j y hi hj;have hj2:j<l.k:=by
          have:=(gS.1 hj).1;rw[hrows.1 _ row hi]at this; omega
         have hlt:=LM hil hj2;refine⟨u,?_,h2,h3⟩;have hlen2:len*l.k=((els.drop off).take len).length*l.k:=by rw[hxl]
         rw[Nat.zero_add,Array.getElem?_extract,iP (by omega),← h1]
         congr 1
         rw[← Nat.add_assoc l.sh,Nat.add_mul (l.sh+off) i];omega
        ·cases hi
    ·cases hs
   | map es clock=>
    simp only[hg]at hs;split at hs
    ·rename_i h0;injection hs with hs
     exact dead h0 hs.symm
    ·cases hs
   | Cl s' pos=>
    simp only[hg]at hs;split at hs
    ·rename_i h0;injection hs with hs
     exact dead h0 hs.symm
    ·cases hs
   | Ca a' b' c' d'=>
    simp only[hg]at hs;split at hs
    ·rename_i h0;injection hs with hs
     exact dead h0 hs.symm
    ·cases hs
 | _=>simp[O9,J7]at hs
theorem WH{els xs:List (List Aa)}{sh k n p:Nat}{c arr:Array Value}(h:RowsIn Φ ρ els sh k c)(hn:c.size=n*k)(hp:p≤els.length)(hl:sh+p+xs.length≤n)
 (hx:RowsIn Φ ρ xs 0 k arr) (hsz:arr.size=xs.length*k):RowsIn Φ ρ (els.take p++xs++els.drop (p+xs.length)) sh k (O1 c ((sh+p)*k) arr.toList):=by
 have hget:∀ (i:Nat) (row:List Aa),(els.take p++xs++els.drop (p+xs.length))[i]? = some row→(i<p∧els[i]? = some row)∨(p≤i∧i<p+xs.length∧xs[i - p]? = some row)∨(p+xs.length≤i∧els[i]? = some row):=by
  intro i row hi;rw[List.getElem?_append,List.getElem?_append]at hi;simp only[lA,lK,Nat.min_eq_left hp]at hi;split at hi
  ·rename_i h1;split at hi
   ·rename_i h2;rw[List.getElem?_take,iP h2]at hi;exact .inl ⟨h2,hi⟩
   ·rename_i h2;exact .inr (.inl ⟨by omega,h1,hi⟩)
  ·rename_i h1;rw[List.getElem?_drop]at hi;refine .inr (.inr ⟨by omega,?_⟩)
   rw[← hi]; congr 1; omega
 refine⟨fun i row hi=>?_,fun i row j y hi hj=>?_⟩
 ·rcases hget i row hi with⟨_,h1⟩|⟨_,_,h1⟩|⟨_,h1⟩
  ·exact h.1 _ _ h1
  ·exact hx.1 _ _ h1
  ·exact h.1 _ _ h1
 ·rw[YQ];simp only[Array.length_toList,hsz];rcases hget i row hi with⟨h0,h1⟩|⟨h0,h00,h1⟩|⟨h0,h1⟩
  ·obtain⟨u,g1,g2,g3⟩:=h.2 i row j y h1 hj;have hj2:j<k:=by
    have:=(gS.1 hj).1;rw[h.1 _ row h1]at this; exact this
   have hlt:=LM (a:=sh+i) (n:=sh+p) (by omega) hj2
   rw[iN (by omega)]
   exact⟨u,g1,g2,g3⟩
  ·obtain⟨u,g1,g2,g3⟩:=hx.2 (i - p) row j y h1 hj;have hj2:j<k:=by
    have:=(gS.1 hj).1;rw[hx.1 _ row h1]at this; exact this
   have e1:(sh+i)*k=(sh+p)*k+(i - p)*k:=by rw[← Nat.add_mul]; congr 1; omega
   have hlt:=LM (a:=i - p) (n:=xs.length) (by omega) hj2
   have hlt2:(sh+p)*k+xs.length*k≤c.size:=by rw[hn,← Nat.add_mul]; exact Nat.mul_le_mul_right _ hl
   rw[e1,iP ⟨by omega,by omega,by omega⟩]
   rw[Nat.zero_add]at g1;refine⟨u,?_,g2,g3⟩;have e2:(sh+p)*k+(i - p)*k+j - (sh+p)*k=(i - p)*k+j:=by omega
   rw[e2];simpa using g1
  ·obtain⟨u,g1,g2,g3⟩:=h.2 i row j y h1 hj;have hle:(sh+p+xs.length)*k≤(sh+i)*k:=Nat.mul_le_mul_right _ (by omega)
   rw[Nat.add_mul (sh+p)]at hle;rw[iN (by omega)]
   exact⟨u,g1,g2,g3⟩
theorem wE{b:Nat}{x0 x':Ag}{l l':Loc}{o':Obj}(h:Rel W Φ ρ m w)(hb:m.get b=some x0)(hl:ρ b=some l)(hid:ρ id=none)(hlt:id<m.next)(hl':l'.blk=l.blk)
 (hr:BR Φ (ρ.put id l') x' l' o'):Rel W Φ (ρ.put id l') ((m.del b).set id x') (P2 w l.blk o'):=by
 have hx:=AD.BG (Φ:=Φ) (l:=l') hid;obtain⟨l0,o,g1,g2,g3,g4,g5⟩:=h.live b x0 hb;rw[hl]at g1; injection g1 with g1; subst g1
 have hblt:l.blk<w.heap.size:=by
  rcases lG l.blk w.heap.size with h'|h'
  ·exact h'
  ·rw[Array.getElem?_eq_none h']at g4; cases g4
 have hbi:b≠id:=by rintro rfl; rw[hid]at hl; cases hl
 have rne:∀ b' k,b'≠id→ρ.put id l' b'=some k→ρ b'=some k:=fun b' k hb' he=>by
  unfold AD.put at he; rw[iN hb']at he; exact he
 refine⟨?_,?_,?_,?_,?_,h.By⟩
 ·exact h.base.put g2
 ·intro B c hB;obtain⟨e,fz,ho⟩:=h.AX B c hB;refine⟨e,fz,?_⟩;rw[LZ,iN]
  ·exact ho
  ·rintro⟨rfl,_⟩;rw[hB]at g3; cases g3
 ·intro b' y hy;simp only[Mem.Ax,Mem.Bo]at hy;by_cases Bg:b'=id
  ·subst Bg;rw[iP rfl]at hy;injection hy with hy
   subst hy;exact⟨l',o',AD.Bm,by rw[hl']; exact g2,by rw[hl']; exact g3,by rw[hl',LZ,iP ⟨rfl,hblt⟩],hr⟩
  ·rw[iN Bg]at hy;by_cases Cq:b'=b
   ·rw[iP Cq]at hy; cases hy
   ·rw[iN Cq]at hy;obtain⟨k,o'',k1,k2,k3,k4,k5⟩:=h.live b' y hy;refine⟨k,o'',hx.Fy _ _ k1,k2,k3,?_,k5.ext hx⟩;rw[LZ,iN]
    ·exact k4
    ·rintro⟨he,_⟩;exact Cq (h.inj b' b y x0 k l hy hb k1 hl he.symm)
 ·intro b1 b2 y1 y2 l1 l2 h1 h2 k1 k2 he;simp only[Mem.Ax,Mem.Bo]at h1 h2;by_cases e1:b1=id
  ·by_cases e2:b2=id
   ·rw[e1,e2]
   ·rw[iN e2]at h2;by_cases e3:b2=b
    ·rw[iP e3]at h2; cases h2
    ·rw[iN e3]at h2;rw[e1,AD.Bm]at k1;injection k1 with k1; subst k1
     exact absurd (h.inj b2 b y2 x0 l2 l h2 hb (rne _ _ e2 k2) hl (by rw[← he,hl'])) e3
  ·rw[iN e1]at h1;by_cases e3:b1=b
   ·rw[iP e3]at h1; cases h1
   ·rw[iN e3]at h1;by_cases e2:b2=id
    ·rw[e2,AD.Bm]at k2;injection k2 with k2; subst k2
     exact absurd (h.inj b1 b y1 x0 l1 l h1 hb (rne _ _ e1 k1) hl (by rw[he,hl'])) e3
    ·rw[iN e2]at h2;by_cases e4:b2=b
     ·rw[iP e4]at h2; cases h2
     ·rw[iN e4]at h2;exact h.inj b1 b2 y1 y2 l1 l2 h1 h2 (rne _ _ e1 k1) (rne _ _ e2 k2) he
 ·intro b' k hb';by_cases hbb:b'=id
  ·rw[hbb]; exact hlt
  ·exact h.fresh b' k (rne _ _ hbb hb')
end
end Go.AE
end
section
namespace Go.AE
open Go.RowKit
section
variable {P:Program} {s:Sem Next} {W:Ap} {Φ:Ao} {ρ:AD} {id:Nat} {w w1:World} {m m':Mem} {x:Aa} {v:Value}
theorem rV(N:Nat):∀ (r c:Nat),Builtin.growBy N r c≤max c (N+(N+768) / 4)
 | 0,c=>by simp only[Builtin.growBy]; omega
 | r+1,c=>by
  simp only[Builtin.growBy];split
  ·omega
  ·have:=rV N r (c+(c+768) / 4);omega
theorem vL{need cap:Nat}(h:cap<need):Builtin.nextslicecap need cap≤2*need+768:=by
 unfold Builtin.nextslicecap;split
 ·omega
 ·split
  ·omega
  ·have:=rV need 4 cap;omega
theorem tX{A B:List (List Aa)}{k:Nat}{a b c:Array Value}(ha:RowsIn Φ ρ A 0 k a)(hsa:a.size=A.length*k)(hb:RowsIn Φ ρ B 0 k b)(hsb:b.size=B.length*k):RowsIn Φ ρ (A++B) 0 k (a++b++c):=by
 refine⟨fun i row hi=>?_,fun i row j y hi hj=>?_⟩
 ·rw[List.getElem?_append]at hi;split at hi
  ·exact ha.1 _ _ hi
  ·exact hb.1 _ _ hi
 ·rw[List.getElem?_append]at hi;split at hi
  ·rename_i h1;obtain⟨u,g1,g2,g3⟩:=ha.2 i row j y hi hj;have hj2:j<k:=by
    have:=(gS.1 hj).1;rw[ha.1 _ row hi]at this; exact this
   have hlt:=LM h1 hj2;rw[Nat.zero_add]at g1 ⊢;refine⟨u,?_,g2,g3⟩;rw[Array.getElem?_append,iP (by simp; omega),Array.getElem?_append,iP (by omega)]
   exact g1
  ·rename_i h1;obtain⟨u,g1,g2,g3⟩:=hb.2 (i - A.length) row j y hi hj;have hi2:=(gS.1 hi).1;have hj2:j<k:=by
    have:=(gS.1 hj).1;rw[hb.1 _ row hi]at this; exact this
   have hlt:=LM hi2 hj2;have e1:i*k=A.length*k+(i - A.length)*k:=by rw[← Nat.add_mul]; congr 1; omega
   rw[Nat.zero_add]at g1 ⊢;refine⟨u,?_,g2,g3⟩;rw[Array.getElem?_append,iP (by simp; omega),Array.getElem?_append,iN (by omega)]
   rw[← g1]
   congr 1
   omega
theorem Yk{t e u ty:TypeId}{i:TypeInfo}{d:TypeDesc}{base:Option Addr}{len cap n:Nat}{vx:Value}{arr:Array Value}{w':World}(ht:P.underlying t=some (.slice e))(hi:P.info? e=some i)(hu:P.underlying u=some d)(hd:∀ k,d≠.int k)
 (hl:(Builtin.lenOf vx).run P w=.ok n w) (hf:(Builtin.firstCells i.size n vx).run P w=.ok arr w) (hle:len+n≤cap)
 (hst:match base with|some a=>(storeCells (a.add (len*i.size)) arr.toList).run P w=.ok () w'|none=>w'=w) :
 (Builtin.append_ #[t,u] ty #[.slice base len cap,vx]).run P w=.ok (.slice base (len+n) cap) w':=by
 have hz:(match d with | .int _=>true|_=>false)=false:=by cases d<;>first|rfl|exact absurd rfl (hd _)
 have e1:(Builtin.append_ #[t,u] ty #[.slice base len cap,vx]).run P w=((do
  let new ← Builtin.firstCells i.size n vx
  if let some a:=base then storeCells (a.add (len*i.size)) new.toList
  pure (Value.slice base (len+n) cap):Sem Value)).run P w:=by
  unfold Builtin.append_;simp only[Sem.run_bind,List.getElem?_toArray,List.getElem?_cons_zero,List.getElem?_cons_succ,V1 ht,Result.andThen_ok,G8 hi,V1 hu];cases d<;>first|(exact absurd rfl (hd _))|(simp only[Sem.run_bind,Sem.run_pure,Result.andThen_ok,bF,if_false,hl,hle,if_true,Bool.not_false]; rfl)
 rw[e1];simp only[Sem.run_bind,hf,Result.andThen_ok];cases base with
 | none=>simp only at hst; subst hst; rfl
 | some a=>simp only at hst; simp only[Sem.run_bind,hst,Result.andThen_ok,Sem.run_pure]
theorem ur{t e u ty:TypeId}{i:TypeInfo}{d:TypeDesc}{z:Value}{base:Option Addr}{len cap n:Nat}{vx:Value}{old arr:Array Value}(ht:P.underlying t=some (.slice e))(hi:P.info? e=some i)(hz:i.zero=some z)(hu:P.underlying u=some d)(hd:∀ k,d≠.int k)
 (hl:(Builtin.lenOf vx).run P w=.ok n w) (ho:(Builtin.firstCells i.size len (.slice base len cap)).run P w.drew=.ok old w.drew) (hf:(Builtin.firstCells i.size n vx).run P w.drew=.ok arr w.drew) (hlt:cap<len+n) (hroom:len+n≤W6) (hb:i.bytes≤W6) :
 ∃ nc,len+n≤nc∧(Builtin.append_ #[t,u] ty #[.slice base len cap,vx]).run P w =
  .ok (.slice (some ⟨w.drew.heap.size,0,none⟩) (len+n) nc) (w.drew.alloc (.cells (old++arr++Builtin.zeroCells z.cells (nc - (len+n))) e)):=by
 have hq:(Question.appendCap (len+n) cap e).forced=false:=rfl;refine⟨(Question.appendCap (len+n) cap e).cut (w.tape w.drawn (.appendCap (len+n) cap e)),by simp only[Question.cut]; omega,?_⟩
 generalize hnc:(Question.appendCap (len+n) cap e).cut (w.tape w.drawn (.appendCap (len+n) cap e))=nc;unfold W6 at hroom hb;have hcap:=vL hlt;have hmul:Builtin.nextslicecap (len+n) cap*i.bytes≤(2*1048576+768)*1048576:=Nat.mul_le_mul (by omega) hb
 have hmax:IntKind.i64.max=9223372036854775807:=by decide
 have e1:(Builtin.append_ #[t,u] ty #[.slice base len cap,vx]).run P w=((do
  let newCap ← choose (.appendCap (len+n) cap e)
  askRoom (newCap*i.bytes)
  let old ← Builtin.firstCells i.size len (.slice base len cap)
  let new ← Builtin.firstCells i.size n vx
  let rest:=Builtin.zeroCells (← zeroValue e).cells (newCap - (len+n))
  pure (Value.slice (some (← newRow e (old++new++rest))) (len+n) newCap):Sem Value)).run P w:=by
  unfold Builtin.append_;simp only[Sem.run_bind,List.getElem?_toArray,List.getElem?_cons_zero,List.getElem?_cons_succ,V1 ht,Result.andThen_ok,G8 hi,V1 hu];cases d<;>first|(exact absurd rfl (hd _))|skip
  all_goals
   simp only[Sem.run_bind,Sem.run_pure,Result.andThen_ok,bF,if_false,hl,Bool.not_false,if_true];rw[iN (by omega)]
   simp only[Sem.run_bind,Ju hi,Result.andThen_ok,hmax];rw[iN (by omega)]
   simp only[Sem.run_bind,Ju hi,Result.andThen_ok];rw[iN (by omega)]
   simp only[Sem.run_bind,Ju hi,Result.andThen_ok];rfl
 rw[e1];simp only[Sem.run_bind,run_choose,hq,bF,if_false,Result.andThen_ok,run_askRoom,hnc];have hw:({ w with drawn:=w.drawn+1 }:World)=w.drew:=rfl
 rw[hw];simp only[ho,hf,Result.andThen_ok,Kh hi hz,newRow,Sem.run_bind,run_newObj,Sem.run_pure];rfl
theorem zV(m:Mem)(b:Nat):Mem.Sub (m.del b) m:=⟨fun c x h=>by
 simp only[Mem.Bo]at h;split at h
 ·cases h
 ·exact h,lR _⟩
theorem wT{len n nc k:Nat}{old arr z:Array Value}(ho:old.size=len*k)(ha:arr.size=n*k)(hz:z.size=k)(hle:len+n≤nc):(old++arr++Builtin.zeroCells z (nc - (len+n))).size=nc*k:=by
 simp only[Array.size_append,Builtin.zeroCells,Array.size_map,Array.size_range,ho,ha,hz];rw[← Nat.add_mul,← Nat.add_mul]
 congr 1
 omega
theorem wY{els:List (List Aa)}{sh k off len:Nat}{c:Array Value}(h:RowsIn Φ ρ els sh k c):RowsIn Φ ρ ((els.drop off).take len) (sh+off) k c:=by
 refine⟨fun q row hq=>?_,fun q row j y hq hj=>?_⟩
 ·rw[List.getElem?_take]at hq;split at hq
  ·rw[List.getElem?_drop]at hq; exact h.1 _ _ hq
  ·cases hq
 ·rw[List.getElem?_take]at hq;split at hq
  ·rw[List.getElem?_drop]at hq;obtain⟨uu,k1,k2,k3⟩:=h.2 _ row j y hq hj;exact⟨uu,by rw[← k1,Nat.add_assoc sh],k2,k3⟩
  ·cases hq
theorem VL{l:Loc}{a:Option Addr}{off len cap n:Nat}{c arr:Array Value}{e':TypeId}{size:Nat}(hw:w.heap[l.blk]? = some (.cells c e' (0,0)))(hcs:c.size=l.n*l.k)(ES:l.sh+off+cap=l.n)
 (hcap:0<cap→a=some ⟨l.blk,(l.sh+off)*l.k,none⟩) (hfit:len+n≤cap) (hsz:size=l.k) (CJ:arr.size=n*l.k) (h1:∀ u,u∈arr.toList→u.oneCell'=true) :
 match a with
 | some a=>(storeCells (a.add (len*size)) arr.toList).run P w=.ok () (P2 w l.blk (.cells (O1 c ((l.sh+(off+len))*l.k) arr.toList) e' (0,0)))
 | none=>P2 w l.blk (.cells (O1 c ((l.sh+(off+len))*l.k) arr.toList) e' (0,0))=w:=by
 by_cases hc0:0<cap
 ·have hae:=hcap hc0;subst hae;simp only;rw[Addr.Ba,hsz];have e1:(l.sh+off)*l.k+len*l.k=(l.sh+(off+len))*l.k:=by rw[← Nat.add_mul]; congr 1; omega
  rw[e1];have hbound:(l.sh+(off+len))*l.k+n*l.k≤c.size:=by
   rw[hcs,← Nat.add_mul]; exact Nat.mul_le_mul_right _ (by omega)
  have:=bK (P:=P) (B:=l.blk) (o:=(l.sh+(off+len))*l.k) (e:=e') arr.toList 0 w c h1 hw (by simp[CJ]; omega)
  simpa using this
 ·have hx0:n=0:=by omega
  have harr0:arr = #[]:=by
   apply Array.eq_empty_of_size_eq_zero;rw[CJ,hx0]; simp
  subst harr0;have hself:=Ws hw;cases a with
  | none=>simpa[O1]using hself
  | some a=>simp only[storeCells,Sem.run_pure,O1,hself]
section
variable {t e u ty:TypeId} {k:Nat} {i:TypeInfo} {d:TypeDesc} {zv:Value} {vx:Value} {xs:List (List Aa)} {yx:Aa} {a:Option Addr} {bb off len cap:Nat} {l:Loc} {els:List (List Aa)}
theorem Z6q(hr:Rel W Φ ρ m w)(ht:P.underlying t=some (.slice e))(hi:P.info? e=some i)(hu:P.underlying u=some d)(hd:∀ k,d≠.int k)(hk0:0<i.size)(hx:R Φ ρ yx vx)(hsrc:O9 m i.size yx=some xs)
 (hl':ρ bb=some l) (hle:len≤cap) (ES:l.sh+off+cap=l.n) (hcap:0<cap→a=some ⟨l.blk,(l.sh+off)*l.k,none⟩) (Ch:a.isSome=true) (hg:m.get bb=some (.cells i.size els)) (hfit:off+len+xs.length≤els.length)
 (hs:∀ u' w',(Builtin.append_ #[t,u] ty #[.slice a len cap,vx]).run P w=.ok u' w'→s.run P w=.ok (.value u') w') :
 AB P s W Φ ρ id w (.sl bb off (len+xs.length)) (m.set bb (.cells i.size (els.take (off+len)++xs++els.drop (off+len+xs.length)))):=by
 obtain⟨arr,hl,hf,CJ,hrows⟩:=Lw hr hx hsrc hk0;have hfull:(Builtin.firstCells i.size xs.length vx).run P w=.ok arr w:=by
  rw[hf _ (lR _)]
  congr 1
  rw[← CJ]; simp
 obtain⟨l',ob,g1,g2,g3,g4,g5⟩:=hr.live bb _ hg;rw[hl']at g1; injection g1 with g1; subst g1
 cases g5 with
 | cells _ _ _ c e' hk2 hcs hlen hrowsb h1b=>
  have hlc:len+xs.length≤cap:=by omega
  rw[← hk2]at CJ hrowsb hcs;have hst:=VL (P:=P) (e':=e') (size:=i.size) (len:=len) g4 hcs ES hcap hlc hk2.symm CJ (Ht hrows (by rw[← hk2]; exact CJ) hk0)
  have hrun:=Yk (P:=P) (ty:=ty) (base:=a) (len:=len) (cap:=cap) (n:=xs.length) (arr:=arr) (w':=P2 w l.blk (.cells (O1 c ((l.sh+(off+len))*l.k) arr.toList) e' (0,0))) ht hi hu hd hl hfull hlc (by
   cases a with
   | none=>exact hst
   | some a=>exact hst)
  rw[← hk2]at hrows;have hsp:=WH (p:=off+len) hrowsb hcs (by omega) (by omega) hrows CJ
  refine AB.Qw (hs _ _ hrun) hr hg hl' (.cells _ _ _ _ _ hk2 (by rw[Nb,hcs,hk2]) ?_ (by rw[← hk2]; exact hsp) (Ss _ _ _ h1b (Ht hrows CJ (by omega)))) (.sl bb off (len+xs.length) a cap l hl' hlc ES hcap Ch)
  simp only[lA,lK,List.length_drop];omega
theorem Z3b(hr:Rel W Φ ρ m w)(hn:ρ id=none)(hlt:id<m.next)(ht:P.underlying t=some (.slice e))(hi:P.info? e=some i)(hu:P.underlying u=some d)(hd:∀ k,d≠.int k)(hk0:0<i.size)(hx:R Φ ρ yx vx)(hsrc:O9 m i.size yx=some xs)
 (hl':ρ bb=some l) (ES:l.sh+off+cap=l.n) (hcap:0<cap→a=some ⟨l.blk,(l.sh+off)*l.k,none⟩) (Ch:a.isSome=true) (hg:m.get bb=some (.cells i.size els)) (hel:els.length=off+len) (hlc:len+xs.length≤cap)
 (hs:∀ u' w',(Builtin.append_ #[t,u] ty #[.slice a len cap,vx]).run P w=.ok u' w'→s.run P w=.ok (.value u') w') :
 AB P s W Φ ρ id w (.sl id 0 (len+xs.length)) ((m.del bb).set id (.cells i.size ((els.drop off).take len++xs))):=by
 obtain⟨arr,hl,hf,CJ,hrows⟩:=Lw hr hx hsrc hk0;have hfull:(Builtin.firstCells i.size xs.length vx).run P w=.ok arr w:=by
  rw[hf _ (lR _)]
  congr 1
  rw[← CJ]; simp
 obtain⟨l',ob,g1,g2,g3,g4,g5⟩:=hr.live bb _ hg;rw[hl']at g1; injection g1 with g1; subst g1
 cases g5 with
 | cells _ _ _ c e' hk2 hcs hlen hrowsb h1b=>
  rw[← hk2]at CJ hrowsb hcs;have hst:=VL (P:=P) (e':=e') (size:=i.size) (len:=len) g4 hcs ES hcap hlc hk2.symm CJ (Ht hrows (by rw[← hk2]; exact CJ) hk0)
  have hrun:=Yk (P:=P) (ty:=ty) (base:=a) (len:=len) (cap:=cap) (n:=xs.length) (arr:=arr) (w':=P2 w l.blk (.cells (O1 c ((l.sh+(off+len))*l.k) arr.toList) e' (0,0))) ht hi hu hd hl hfull hlc (by
   cases a with
   | none=>exact hst
   | some a=>exact hst)
  rw[← hk2]at hrows;have hsub:=wY (off:=off) (len:=len) hrowsb;have hlen2:((els.drop off).take len).length=len:=by simp; omega
  generalize (els.drop off).take len=tk at hsub hlen2 ⊢;have hsp:=WH (p:=len) (n:=l.n) hsub hcs (by omega) (by omega) hrows CJ
  have e2:tk.take len++xs++tk.drop (len+xs.length)=tk++xs:=by
   rw[tL (by omega),List.drop_eq_nil_of_le (by omega),List.append_nil]
  rw[e2,Nat.add_assoc l.sh]at hsp;refine⟨_,_,Φ,ρ.put id ⟨l.blk,l.sh+off,l.k,l.n⟩,.inl (hs _ _ hrun),AD.BG hn,fun q hq h0=>by unfold AD.put; rw[iN hq]; exact h0,
   wE hr hg hl' hn hlt rfl (BR.BG hn (.cells _ _ _ _ _ hk2 (by rw[Nb,hcs,hk2]) (by simp only[lA,hlen2]; omega) (by rw[← hk2]; exact hsp) (Ss _ _ _ h1b (Ht hrows CJ (by omega))))),?_⟩
  refine .sl id 0 (len+xs.length) a cap ⟨l.blk,l.sh+off,l.k,l.n⟩ AD.Bm hlc (by simpa using ES) (fun hc0=>?_) Ch
  rw[hcap hc0];rfl
theorem Zo{zc:Array Value}{k n:Nat}(h:∀ v,v∈zc.toList→v.oneCell'=true)(hs:zc.size=k)(hk:0<k):∀ v,v∈(Builtin.zeroCells zc n).toList→v.oneCell'=true:=by
 intro v hv;simp only[Builtin.zeroCells,Array.toList_map,mM]at hv;obtain⟨q,_,rfl⟩:=hv;have hlt:q % zc.size<zc.size:=Nat.mod_lt _ (by omega)
 rw[getElem!_pos zc _ hlt];exact h _ (by simp)
theorem aJ(hr:Rel W Φ ρ m w)(hn:ρ id=none)(hlt:id<m.next)(ht:P.underlying t=some (.slice e))(hi:P.info? e=some i)(hz:i.zero=some zv)(hzs:zv.cells.size=i.size)(DJ:∀ v,v∈zv.cells.toList→v.oneCell'=true)(hu:P.underlying u=some d)(hd:∀ k,d≠.int k)(hk0:0<i.size)(hx:R Φ ρ yx vx)(hsrc:O9 m i.size yx=some xs)
 {ys:Aa} {olds:List (List Aa)} {m0:Mem} (hy:R Φ ρ ys (.slice a len cap)) (hold:O9 m i.size ys=some olds) (DR:olds.length=len) (hsub:Mem.Sub m0 m) (hnc:cap<len+xs.length) (hroom:len+xs.length≤W6) (hb:i.bytes≤W6)
 (hs:∀ u' w',(Builtin.append_ #[t,u] ty #[.slice a len cap,vx]).run P w=.ok u' w'→s.run P w=.ok (.value u') w') :
 AB P s W Φ ρ id w (.sl id 0 (len+xs.length)) (m0.set id (.cells i.size (olds++xs))):=by
 obtain⟨arr,hl,hf,CJ,hrows⟩:=Lw hr hx hsrc hk0;obtain⟨arr2,hl2,hf2,harr2,hrows2⟩:=Lw hr.drew hx hsrc hk0;obtain⟨old,ho1,ho2,ho3,ho4⟩:=Lw hr.drew hy hold hk0;have hfull2:(Builtin.firstCells i.size xs.length vx).run P w.drew=.ok arr2 w.drew:=by
  rw[hf2 _ (lR _)]
  congr 1
  rw[← harr2]; simp
 have hold2:(Builtin.firstCells i.size len (.slice a len cap)).run P w.drew=.ok old w.drew:=by
  rw[ho2 len (by omega)]
  congr 1
  have:old.size=len*i.size:=by rw[ho3,DR]
  rw[← this]; simp
 obtain⟨nc,hnc2,hrun⟩:=ur (P:=P) (ty:=ty) (base:=a) (len:=len) (cap:=cap) (old:=old) ht hi hz hu hd hl hold2 hfull2 hnc hroom hb;refine Wc (cap:=nc) (w1:=w.drew) (hr.drew.sub hsub) hn (Nat.lt_of_lt_of_le hlt hsub.next) hnc2 (by simp only[lA,DR]; exact hnc2) ?_ ?_ ?_ (hs _ _ hrun)
 ·exact wT (by rw[ho3,DR]) harr2 hzs hnc2
 ·exact tX ho4 ho3 hrows2 harr2
 ·intro u hu;simp only[Array.toList_append,List.mem_append]at hu;rcases hu with(hu|hu)|hu
  ·exact Ht ho4 ho3 hk0 u hu
  ·exact Ht hrows2 harr2 hk0 u hu
  ·exact Zo DJ hzs hk0 u hu
end
theorem zy{t u ty:TypeId}{k b:Nat}{z:List Aa}{d:TypeDesc}{ys:Aa}{vs vx:Value}{xs:List (List Aa)}{yx:Aa}{r:Aa×Mem}(hr:Rel W Φ ρ m w)(hn:ρ id=none)(hlt:id<m.next)
 (he:A6 P t=some (k,b,z)) (hu:P.underlying u=some d) (hd:∀ k,d≠.int k) (hy:R Φ ρ ys vs) (hx:R Φ ρ yx vx) (hsrc:O9 m k yx=some xs) (ha:I3 id k b m ys xs=some r)
 (hs:∀ u' w',(Builtin.append_ #[t,u] ty #[vs,vx]).run P w=.ok u' w'→s.run P w=.ok (.value u') w'):AB P s W Φ ρ id w r.1 r.2:=by
 obtain⟨e,i,ht,hi,hsz,hb,hz,hzl,hk0⟩:=OG he;obtain⟨i',zv,y,h1,h2,h3,h4,h5⟩:=LY hz Φ ρ;rw[hi]at h1; injection h1 with h1; subst h1
 have EU:=h3.Bu h4;have hzsz:zv.cells.size=i.size:=by rw[EU.1,hzl,hsz]
 have DJ:=WR EU h5;subst hsz; subst hb;have emptyCase:∀ (a:Option Addr) (y0:Aa),R Φ ρ y0 (.slice a 0 0)→O9 m i.size y0=some []→(xs=[]∧r=(y0,m))∨(xs≠[]∧xs.length≤W6∧i.bytes≤W6∧r=(.sl id 0 xs.length,m.set id (.cells i.size xs)))→vs=.slice a 0 0→AB P s W Φ ρ id w r.1 r.2:=by
  rintro a y0 hy0 hsy (⟨rfl,rfl⟩|⟨hne,hroom,Gv,rfl⟩) rfl
  ·obtain⟨arr,hl,hf,CJ,hrows⟩:=Lw hr hx hsrc hk0;have harr0:arr = #[]:=by
    apply Array.eq_empty_of_size_eq_zero;simpa using CJ
   subst harr0;have hfull:=hf 0 (lR _);have:=Yk (P:=P) (ty:=ty) (base:=a) (len:=0) (cap:=0) (arr:=#[]) (w':=w) ht hi hu hd hl (by simpa using hfull) (by simp) (by cases a<;>rfl)
   exact AB.val (hs _ _ this) hr hy0
  ·have hpos:0<xs.length:=List.length_pos_iff.2 hne;have:=aJ (id:=id) (ty:=ty) hr hn hlt ht hi h2 hzsz DJ hu hd hk0 hx hsrc hy0 hsy rfl (Mem.Sub.refl m) (by omega) (by omega) Gv hs
   simpa using this
 cases hy with
 | Ai=>
  refine emptyCase none .Ai .Ai rfl ?_ rfl;simp only[I3]at ha;split at ha
  ·injection ha with ha; exact .inl ⟨‹_›,ha.symm⟩
  ·split at ha
   ·rename_i h6 h7;injection ha with ha; exact .inr ⟨h6,h7.1,h7.2,ha.symm⟩
   ·cases ha
 | emp a=>
  refine emptyCase a .emp (.emp a) rfl ?_ rfl;simp only[I3]at ha;split at ha
  ·injection ha with ha; exact .inl ⟨‹_›,ha.symm⟩
  ·split at ha
   ·rename_i h6 h7;injection ha with ha; exact .inr ⟨h6,h7.1,h7.2,ha.symm⟩
   ·cases ha
 | sl bb off len a cap l hl' hle ES hcap Ch=>
  simp only[I3]at ha;cases hg:m.get bb with
  | none=>simp[hg]at ha
  | some blk=>
   cases blk with
   | cells k2 els=>
    simp only[hg]at ha;split at ha
    ·rename_i hcond;obtain⟨rfl,DR,hor⟩:=hcond;split at ha
     ·rename_i hfit;injection ha with ha
      subst ha;exact Z6q hr ht hi hu hd hk0 hx hsrc hl' hle ES hcap Ch hg hfit hs
     ·rename_i hnofit;split at ha
      ·rename_i hroom;injection ha with ha
       subst ha;by_cases hlc:len+xs.length≤cap
       ·exact Z3b hr hn hlt ht hi hu hd hk0 hx hsrc hl' ES hcap Ch hg (by omega) hlc hs
       ·exact aJ hr hn hlt ht hi h2 hzsz DJ hu hd hk0 hx hsrc (.sl bb off len a cap l hl' hle ES hcap Ch) (by
         show J7 m i.size (.sl bb off len)=some ((els.drop off).take len);simp[J7,hg,DR]) (by simp; omega) (zV m bb) (by omega) hroom.1 hroom.2 hs
      ·cases ha
    ·cases ha
   | map es clock=>simp[hg]at ha
   | Cl s' pos=>simp[hg]at ha
   | Ca a' b' c' d'=>simp[hg]at ha
 | _=>simp[I3]at ha
end
end Go.AE
end
section
namespace Go.AE
open Go.RowKit
section
variable {P:Program} {s:Sem Next} {W:Ap} {Φ:Ao} {ρ:AD} {id:Nat} {w w1:World} {m m':Mem} {x:Aa} {v:Value}
theorem Z44{t ty:TypeId}{k:Nat}{b:Nat}{z:List Aa}{u:TypeId}{vd vs:Value}{xs:List (List Aa)}{yx:Aa}{bb off len:Nat}{els:List (List Aa)}(hr:Rel W Φ ρ m w)
 (he:A6 P t=some (k,b,z)) (hy:R Φ ρ (.sl bb off len) vd) (hx:R Φ ρ yx vs) (hsrc:O9 m k yx=some xs) (hg:m.get bb=some (.cells k els)) (DR:off+len≤els.length)
 (hs:∀ u' w',(Builtin.copy_ #[t,u] ty #[vd,vs]).run P w=.ok u' w'→s.run P w=.ok (.value u') w') :
 AB P s W Φ ρ id w (.int .i64 (min xs.length len:Nat)) (m.set bb (.cells k (els.take off++xs.take (min xs.length len)++els.drop (off+min xs.length len)))):=by
 obtain⟨e,i,ht,hi,hsz,hb,hz,hzl,hk0⟩:=OG he;subst hsz;obtain⟨arr,hl,hf,CJ,hrows⟩:=Lw hr hx hsrc hk0;cases hy with
 | sl _ _ _ a cap l hl' hle ES hcap Ch=>
  obtain⟨l',ob,g1,g2,g3,g4,g5⟩:=hr.live bb _ hg;rw[hl']at g1; injection g1 with g1; subst g1
  cases g5 with
  | cells _ _ _ c e' hk2 hcs hlen hrowsb h1b=>
   obtain⟨n,hn⟩:∃ n,min xs.length len=n:=⟨_,rfl⟩
   rw[hn];have Dz:n≤xs.length:=by omega
   have hnl:n≤len:=by omega
   have hfn:=hf n Dz;have harrn:(arr.extract 0 (n*i.size)).size=(xs.take n).length*i.size:=by
    have:n*i.size≤xs.length*i.size:=Nat.mul_le_mul_right _ Dz;simp only[Array.size_extract,CJ,lK];rw[Nat.min_eq_left Dz]; omega
   have hrown:RowsIn Φ ρ (xs.take n) 0 i.size (arr.extract 0 (n*i.size)):=by
    refine⟨fun q row hq=>?_,fun q row j y hq hj=>?_⟩
    ·rw[List.getElem?_take]at hq;split at hq
     ·exact hrows.1 _ _ hq
     ·cases hq
    ·rw[List.getElem?_take]at hq;split at hq
     ·rename_i hqn;obtain⟨uu,k1,k2,k3⟩:=hrows.2 _ row j y hq hj;have hj2:j<i.size:=by
       have:=(gS.1 hj).1;rw[hrows.1 _ row hq]at this; exact this
      have hlt:=LM hqn hj2;have hle2:n*i.size≤xs.length*i.size:=Nat.mul_le_mul_right _ Dz;refine⟨uu,?_,k2,k3⟩;rw[Nat.zero_add]at k1 ⊢;rw[Array.getElem?_extract,iP (by omega),← k1]
      congr 1; omega
     ·cases hq
   have hnl2:(xs.take n).length=n:=by simp; omega
   have hst:=VL (P:=P) (a:=a) (len:=0) (cap:=cap) (n:=n) (off:=off) (e':=e') (size:=i.size) g4 (by rw[hcs,hk2]) ES hcap (by omega) hk2.symm (by rw[harrn,hnl2,hk2]) (Ht hrown harrn hk0)
   simp only[Nat.add_zero,Nat.zero_mul]at hst;have hrun:(Builtin.copy_ #[t,u] ty #[.slice a len cap,vs]).run P w=.ok (.int .i64 (n:Nat)) (P2 w l.blk (.cells (O1 c ((l.sh+off)*l.k) (arr.extract 0 (n*i.size)).toList) e' (0,0))):=by
    unfold Builtin.copy_;simp only[Sem.run_bind,List.getElem?_toArray,List.getElem?_cons_zero,List.getElem?_cons_succ,V1 ht,Result.andThen_ok,G8 hi];rw[hl];have hmin:Nat.min xs.length len=n:=hn;simp only[Sem.run_bind,Result.andThen_ok,hmin,hfn];cases a with
    | none=>simp only at hst; rw[hst]; rfl
    | some a=>
     have ha0:a.add 0=a:=by simp[Addr.add]
     simp only at hst;rw[ha0]at hst;simp only[Sem.run_bind,hst,Result.andThen_ok]; rfl
   have hone:=Ht hrown harrn hk0;rw[← hk2]at hrown harrn hrowsb hcs;have hsp:=WH (p:=off) hrowsb hcs (by omega) (by omega) hrown harrn
   rw[hnl2,hk2]at hsp;refine AB.Qw (hs _ _ hrun) hr hg hl' (.cells _ _ _ _ _ hk2 (by rw[Nb,hcs,hk2]) ?_ (by rw[hk2]; exact hsp) (Ss _ _ _ h1b hone)) (.int _ _)
   simp only[lA,lK,List.length_drop];omega
theorem aM{t ty:TypeId}{k b:Nat}{z:List Aa}{vx:Value}{yx:Aa}{r:Mem}(hr:Rel W Φ ρ m w)(he:A6 P t=some (k,b,z))(hy:R Φ ρ yx vx)
 (h:(∃ bb off len els,yx=.sl bb off len∧m.get bb=some (.cells k els)∧off+len≤els.length∧r=m.set bb (.cells k (els.take off++List.replicate len z++els.drop (off+len))))∨((yx=.Ai∨yx=.emp)∧r=m))
 (hs:∀ u' w',(Builtin.clear_ #[t] ty #[vx]).run P w=.ok u' w'→s.run P w=.ok (.value u') w'):AB P s W Φ ρ id w Aj r:=by
 obtain⟨e,i,ht,hi,hsz,hb,hz,hzl,hk0⟩:=OG he;subst hsz;obtain⟨i',zv,y,h1,h2,h3,h4,h5⟩:=LY hz Φ ρ;rw[hi]at h1; injection h1 with h1; subst h1
 have EU:=h3.Bu h4;rcases h with⟨bb,off,len,els,rfl,hg,DR,rfl⟩|⟨hy0,rfl⟩
 ·cases hy with
  | sl _ _ _ a cap l hl' hle ES hcap Ch=>
   obtain⟨l',ob,g1,g2,g3,g4,g5⟩:=hr.live bb _ hg;rw[hl']at g1; injection g1 with g1; subst g1
   cases g5 with
   | cells _ _ _ c e' hk2 hcs hlen hrowsb h1b=>
    have hzn:zv.cells.size=i.size:=by rw[EU.1,hzl]
    have hrown:=Sm (len:=len) EU h5 hzl hk0;have hzsz:((Array.range (len*i.size)).map fun q=>zv.cells[q % zv.cells.size]!).size=(List.replicate len z).length*i.size:=by simp
    have hzero:Builtin.zeroCells zv.cells len=(Array.range (len*i.size)).map fun q=>zv.cells[q % zv.cells.size]!:=by simp only[Builtin.zeroCells,hzn]
    have hst:=VL (P:=P) (a:=a) (len:=0) (cap:=cap) (n:=len) (off:=off) (e':=e') (size:=i.size) g4 (by rw[hcs,hk2]) ES hcap (by omega) hk2.symm (by rw[hzsz,hk2]; simp) (Ht hrown hzsz hk0)
    simp only[Nat.add_zero,Nat.zero_mul]at hst;have hone:=Ht hrown hzsz hk0;rw[← hk2]at hrown hzsz hrowsb hcs;have hsp:=WH (p:=off) hrowsb hcs (by omega) (by simp; omega) hrown hzsz
    rw[List.length_replicate]at hsp;have hrun:(Builtin.clear_ #[t] ty #[.slice a len cap]).run P w=.ok (.tuple #[]) (P2 w l.blk (.cells (O1 c ((l.sh+off)*l.k) ((Array.range (len*i.size)).map fun q=>zv.cells[q % zv.cells.size]!).toList) e' (0,0))):=by
     unfold Builtin.clear_;simp only[Sem.run_bind,List.getElem?_toArray,List.getElem?_cons_zero,V1 ht,Result.andThen_ok];cases a with
     | none=>simp only at hst; rw[hst]; rfl
     | some a=>
      have ha0:a.add 0=a:=by simp[Addr.add]
      simp only at hst;rw[ha0]at hst;cases len with
      | zero=>
       have e0:((Array.range (0*i.size)).map fun q=>zv.cells[q % zv.cells.size]!) = #[]:=by simp
       rw[e0]at hst ⊢;simp only[O1,Ws g4];rfl
      | succ n=>
       simp only[Sem.run_bind,Kh hi h2,Result.andThen_ok,hzero,hst]; rfl
    have hfin:AB P s W Φ ρ id w Aj (m.set bb (.cells i.size (els.take off++List.replicate len z++els.drop (off+len)))):=by
     refine AB.Qw (v:=.tuple #[]) (hs _ _ hrun) hr hg hl' (.cells _ _ _ _ _ hk2 (by rw[Nb,hcs,hk2]) ?_ (by rw[← hk2]; exact hsp) (Ss _ _ _ h1b hone)) (LP _ _)
     simp only[lA,lK,List.length_drop,List.length_replicate];omega
    exact hfin
 ·have hrun:(Builtin.clear_ #[t] ty #[vx]).run P w=.ok (.tuple #[]) w:=by
   unfold Builtin.clear_;simp only[Sem.run_bind,List.getElem?_toArray,List.getElem?_cons_zero,V1 ht,Result.andThen_ok];rcases hy0 with rfl|rfl
   ·cases hy; rfl
   ·cases hy with
    | emp a=>cases a<;>rfl
  exact AB.val (hs _ _ hrun) hr (LP _ _)
def Hr(Φ:Ao)(ρ:AD)(es:List (Aa×Aa×Nat))(en:List MapEntry):Prop:=
 en.length=es.length ∧ ∀(i:Nat) (x:Aa×Aa×Nat),es[i]? = some x → ∃ y:MapEntry,en[i]? = some y∧R Φ ρ x.1 y.key∧R Φ ρ x.2.1 y.val∧y.born=x.2.2
theorem Hr.tail{x:Aa×Aa×Nat}{y:MapEntry}{es:List (Aa×Aa×Nat)}{en:List MapEntry}(h:Hr Φ ρ (x :: es) (y :: en)):Hr Φ ρ es en:=
 ⟨by simpa using h.1,fun i z hz=>by simpa using h.2 (i+1) z (by simpa using hz)⟩
theorem Z7o{kt:Ce}{key:TypeId}{d:TypeDesc}{y z:Aa}{vy vz:Value}{b:Bool}(hu:P.underlying key=some d)(hk:G7 P key=some kt)(hy:R Φ ρ y vy)(hz:R Φ ρ z vz)(h:A9 kt y z=some b):Instr.sameNow d vy vz=some b:=by
 unfold G7 at hk;rw[hu]at hk;cases d<;>simp only at hk<;>first|(cases hk; done)|(injection hk with hk; subst hk)
 all_goals (cases y<;>cases z<;>simp only[A9]at h<;>first|(cases h; done)|skip)
 ·injection h with h; subst h
  rw[IE hy,IE hz]; rfl
 ·split at h
  ·rename_i hkk;injection h with h; subst h; subst hkk
   rw[G0 hy,G0 hz];simp[Instr.sameNow]
  ·cases h
 ·injection h with h; subst h
  rw[B8 hy,B8 hz];simp only[Instr.sameNow];rw[beq_toListBytes,JD,JD]
theorem VD{kt:Ce}{key:TypeId}{d:TypeDesc}{y:Aa}{vy:Value}(hu:P.underlying key=some d)(hk:G7 P key=some kt)(hy:R Φ ρ y vy):∀ (es:List (Aa×Aa×Nat)) (en:List MapEntry) (r:Option (Nat×Aa×Nat)) (q:Nat),Hr Φ ρ es en →
 G3 kt y es=some r→(r=none∧Instr.findNow d vy en q=some none)∨(∃ i z born e,r=some (i,z,born)∧en[i]? = some e∧(∃ kk,es[i]? = some (kk,z,born)∧A9 kt y kk=some true)∧Instr.findNow d vy en q=some (some (q+i,e.val)))
 | [],[],r,q,_,hf=>by
  simp only[G3,oI]at hf;exact .inl ⟨hf.symm,rfl⟩
 | [],e :: en,r,q,h,_=>by have:=h.1; simp at this
 | x :: es,[],r,q,h,_=>by have:=h.1; simp at this
 | (k0,z0,b0) :: es,e :: en,r,q,h,hf=>by
  obtain⟨e',h1,h2,h3,h4⟩:=h.2 0 (k0,z0,b0) rfl;simp only[List.getElem?_cons_zero,oI]at h1;subst h1;simp only[G3]at hf;cases hkey:A9 kt y k0 with
  | none=>simp[hkey]at hf
  | some b=>
   have hsn:=Z7o hu hk hy h2 hkey;cases b with
   | true=>
    simp only[hkey,oI]at hf;refine .inr ⟨0,z0,b0,e,hf.symm,rfl,⟨k0,rfl,hkey⟩,?_⟩;simp only[Instr.findNow,hsn];rfl
   | false=>
    simp only[hkey]at hf;cases hr:G3 kt y es with
    | none=>simp[hr]at hf
    | some r'=>
     rcases VD hu hk hy es en r' (q+1) h.tail hr with⟨rfl,hfn⟩|⟨i,z,born,e2,rfl,he2,⟨kk,hkk,hkq⟩,hfn⟩
     ·simp only[hr,oI]at hf;exact .inl ⟨hf.symm,by simp only[Instr.findNow,hsn,hfn]⟩
     ·simp only[hr,oI]at hf;refine .inr ⟨i+1,z,born,e2,hf.symm,by simpa using he2,⟨kk,by simpa using hkk,hkq⟩,?_⟩
      simp only[Instr.findNow,hsn,hfn]
      congr 3
      omega
theorem Wn{kt:Ce}{key:TypeId}{y:Aa}{vy:Value}(b:Bool)(hk:G7 P key=some kt):(Instr.checkKey b 10000 key vy).run P w=.ok () w:=by
 have e:∀ n,(Instr.checkKey b (n+1) key vy).run P w=.ok () w:=by
  intro n;unfold G7 at hk;cases hu:P.underlying key with
  | none=>simp[hu]at hk
  | some d=>
   cases d<;>simp only[hu]at hk<;>first|(cases hk; done)|(simp only[Instr.checkKey,Sem.run_bind,V1 hu,Result.andThen_ok]; rfl)
 exact e 9999
theorem vY{es:List (Aa×Aa×Nat)}{en:Array MapEntry}(hs:en.size=es.length)(hr:∀ (i:Nat) (x:Aa×Aa×Nat),es[i]? = some x → ∃ y:MapEntry,en[i]? = some y∧R Φ ρ x.1 y.key∧R Φ ρ x.2.1 y.val∧y.born=x.2.2):Hr Φ ρ es en.toList:=
 ⟨by simpa using hs,fun i x hx=>by simpa using hr i x hx⟩
theorem um{t key e:TypeId}{kt:Ce}{zero:Aa}{y yk:Aa}{vk:Value}{es:List (Aa×Aa×Nat)}{r:Option (Nat×Aa×Nat)}{ok:Bool}(hr:Rel W Φ ρ m w)(ht:P.underlying t=some (.map key e))(hk:G7 P key=some kt)(hz:Ta P e=some zero)
 (hy:R Φ ρ y v) (PB:R Φ ρ yk vk) (hm:(y=.Ay∧es=[])∨(∃ b c,y=.map b∧m.get b=some (.map es c))) (hf:G3 kt yk es=some r) :
 ∃ u,(Instr.lookup t v vk ok).run P w=.ok u w∧R Φ ρ (if ok then .tuple [match r with|some (_,z,_)=>z|none=>zero,.bool r.isSome]else match r with|some (_,z,_)=>z|none=>zero) u:=by
 have hzero:∃ i zv,P.info? e=some i∧i.zero=some zv∧R Φ ρ zero zv:=by
  unfold Ta at hz;cases hi:P.info? e with
  | none=>simp[hi]at hz
  | some i=>
   cases hzz:i.zero with
   | none=>simp[hi,hzz]at hz
   | some zv=>simp only[hi,hzz]at hz; exact⟨i,zv,rfl,hzz,ZB Φ ρ hz⟩
 obtain⟨i,zv,hi,hzz,hzr⟩:=hzero;cases hu:P.underlying key with
 | none=>simp[G7,hu]at hk
 | some d=>
  have main:∀ (en:Array MapEntry),Hr Φ ρ es en.toList → ∃ u,(do
   Instr.checkKey en.isEmpty 10000 key vk
   let (v,ok') ← match ← Instr.findKey key vk en.toList with
    | some (_,v)=>pure (v,true)
    | none=>pure (← zeroValue e,false)
   pure (if ok then Value.tuple #[v,.bool ok']else v):Sem Value).run P w=.ok u w∧R Φ ρ (if ok then .tuple [match r with|some (_,z,_)=>z|none=>zero,.bool r.isSome]else match r with|some (_,z,_)=>z|none=>zero) u:=by
   intro en hen;have two:∀ (a b:Aa) (va vb:Value),R Φ ρ a va→R Φ ρ b vb→R Φ ρ (.tuple [a,b]) (.tuple #[va,vb]):=fun a b va vb ha hb=>.tuple _ _ rfl fun i x u hx hu=>by
    cases i with
    | zero=>simp at hx hu; subst hx; subst hu; exact ha
    | succ i=>
     cases i with
     | zero=>simp at hx hu; subst hx; subst hu; exact hb
     | succ i=>simp at hx
   rcases VD hu hk PB es en.toList r 0 hen hf with⟨rfl,hfn⟩|⟨q,z,born,e2,rfl,he2,⟨kk,hkk,_⟩,hfn⟩
   ·have hfk:(Instr.findKey key vk en.toList).run P w=.ok none w:=by
     simp only[Instr.findKey,Sem.run_bind,V1 hu,Result.andThen_ok,hfn,Sem.run_pure]
    simp only[Sem.run_bind,Wn (y:=yk) _ hk,Result.andThen_ok,hfk,Kh hi hzz,Sem.run_pure];cases ok
    ·exact⟨_,rfl,hzr⟩
    ·exact⟨_,rfl,two _ _ _ _ hzr (.bool _)⟩
   ·have hfk:(Instr.findKey key vk en.toList).run P w=.ok (some (0+q,e2.val)) w:=by
     simp only[Instr.findKey,Sem.run_bind,V1 hu,Result.andThen_ok,hfn,Sem.run_pure]
    obtain⟨e3,h1,h2,h3,h4⟩:=hen.2 q _ hkk;rw[he2]at h1; injection h1 with h1; subst h1
    simp only[Sem.run_bind,Wn (y:=yk) _ hk,Result.andThen_ok,hfk,Sem.run_pure];cases ok
    ·exact⟨_,rfl,h3⟩
    ·exact⟨_,rfl,two _ _ _ _ h3 (.bool _)⟩
  rcases hm with⟨rfl,rfl⟩|⟨b,c,rfl,hg⟩
  ·cases hy;obtain⟨u,h1,h2⟩:=main #[] ⟨rfl,fun i x hx=>by simp at hx⟩
   exact⟨u,Eq.trans (by simp only[Instr.lookup,Sem.run_bind,V1 ht,Result.andThen_ok,Sem.run_pure]; rfl) h1,h2⟩
  ·cases hy with
   | map _ l hl=>
    obtain⟨l',ob,g1,g2,g3,g4,g5⟩:=hr.live b _ hg;rw[hl]at g1; injection g1 with g1; subst g1
    cases g5 with
    | map _ clock _ en hs As=>
     obtain⟨u,h1,h2⟩:=main en (vY hs As);refine⟨u,?_,h2⟩;have hget:(getObj l.blk).run P w=.ok (.map en c) w:=by simp only[getObj,Sem.run,g4]
     exact Eq.trans (by simp only[Instr.lookup,Sem.run_bind,V1 ht,Result.andThen_ok,Sem.run_pure,hget]; rfl) h1
end
end Go.AE
end
section
namespace Go.AE
open Go.RowKit
section
variable {P:Program} {s:Sem Next} {W:Ap} {Φ:Ao} {ρ:AD} {id:Nat} {w w1:World} {m m':Mem} {x:Aa} {v:Value}
theorem Z90{kt:Ce}{y z:Aa}{vy vz:Value}(hy:R Φ ρ y vy)(hz:R Φ ρ z vz)(h:A9 kt y z=some true):Instr.sameBits 10000 vz vy=true:=by
 cases kt<;>cases y<;>cases z<;>simp only[A9]at h<;>first|(cases h; done)|skip
 ·split at h
  ·rename_i hk;subst hk;simp only[oI,beq_iff_eq]at h;subst h;rw[G0 hy,G0 hz];simp[Instr.sameBits]
  ·cases h
 ·simp only[oI,beq_iff_eq]at h;subst h;rw[B8 hy,B8 hz];simp only[Instr.sameBits];rw[beq_toListBytes]; simp
 ·simp only[oI,beq_iff_eq]at h;subst h;rw[IE hy,IE hz];simp[Instr.sameBits]
theorem zJ{B:Nat}{o o':Obj}(h:w.heap[B]? = some o)(hn:∀ c e f,o≠.cells c e f):(setObj B o').run P w=.ok () (P2 w B o'):=by
 simp only[setObj,Sem.run,h];cases o<;>first|(exact absurd rfl (hn _ _ _))|rfl
theorem nE{t key e:TypeId}{kt:Ce}{b:Nat}{yk yv:Aa}{vm vk vv:Value}{es es':List (Aa×Aa×Nat)}{clock clock':Nat}(hr:Rel W Φ ρ m w)(ht:P.underlying t=some (.map key e))(hk:G7 P key=some kt)
 (hm:R Φ ρ (.map b) vm) (PB:R Φ ρ yk vk) (FY:R Φ ρ yv vv) (hg:m.get b=some (.map es clock))
 (hf:(∃ i z born,G3 kt yk es=some (some (i,z,born))∧es'=es.set i (yk,yv,born)∧clock'=clock)∨(G3 kt yk es=some none∧es'=es++[(yk,yv,clock)]∧clock'=clock+1))
 (hs:∀ w',(Instr.mapUpdate t vm vk vv).run P w=.ok () w'→s.run P w=.ok .skip w'):AB P s W Φ ρ id w Aj (m.set b (.map es' clock')):=by
 cases hu:P.underlying key with
 | none=>simp[G7,hu]at hk
 | some d=>
  cases hm with
  | map _ l hl=>
   obtain⟨l',ob,g1,g2,g3,g4,g5⟩:=hr.live b _ hg;rw[hl]at g1; injection g1 with g1; subst g1
   cases g5 with
   | map _ _ _ en hsz As=>
    have hent:=vY hsz As;have hget:(getObj l.blk).run P w=.ok (.map en clock) w:=by simp only[getObj,Sem.run,g4]
    have hset:∀ o',(setObj l.blk o').run P w=.ok () (P2 w l.blk o'):=fun o'=>zJ g4 (by simp)
    rcases hf with⟨i,z,born,hf,hes',hcl'⟩|⟨hf,hes',hcl'⟩
    ·rcases VD hu hk PB es en.toList _ 0 hent hf with⟨h0,_⟩|⟨i',z',born',e2,h0,he2,⟨kk,hkk,hkq⟩,hfn⟩
     ·cases h0
     ·simp only[oI,AP]at h0;obtain⟨rfl,rfl,rfl⟩:=h0;have hfk:(Instr.findKey key vk en.toList).run P w=.ok (some (0+i,e2.val)) w:=by
       simp only[Instr.findKey,Sem.run_bind,V1 hu,Result.andThen_ok,hfn,Sem.run_pure]
      obtain⟨e3,h1,h2,h3,h4⟩:=hent.2 i _ hkk;rw[he2]at h1; injection h1 with h1; subst h1
      have hen:en[i]? = some e2:=by simpa using he2
      have hsb:=Z90 PB h2 hkq;have hrun2:(Instr.mapUpdate t (.map (some l.blk)) vk vv).run P w=.ok () (P2 w l.blk (.map (en.modify i fun e=>{ e with key:=vk,val:=vv }) clock)):=by
       simp only[Instr.mapUpdate,Sem.run_bind,V1 ht,Result.andThen_ok,hget,Wn (y:=yk) _ hk,hfk,Nat.zero_add,hen,Option.map_some,Option.getD_some,Instr.keyThatStays,hsb,if_true,Sem.run_pure,hset]
      subst hes'; subst hcl';refine AB.kR (hs _ hrun2) hr hg hl (.map _ _ _ _ (by simp[hsz]) fun q y hq=>?_)
      rw[List.getElem?_set]at hq;by_cases hqi:i=q
      ·subst hqi;have hlt:i<es.length:=(gS.1 hkk).1;rw[iP rfl,iP hlt]at hq;injection hq with hq
       subst hq;exact⟨{ e2 with key:=vk,val:=vv },by simp[Array.getElem?_modify,hen],PB,FY,h4⟩
      ·rw[iN hqi]at hq;obtain⟨e4,k1,k2⟩:=As q y hq;exact⟨e4,by rw[Array.getElem?_modify,iN hqi]; exact k1,k2⟩
    ·rcases VD hu hk PB es en.toList _ 0 hent hf with⟨_,hfn⟩|⟨i',z',born',e2,h0,_⟩
     ·have hfk:(Instr.findKey key vk en.toList).run P w=.ok none w:=by
       simp only[Instr.findKey,Sem.run_bind,V1 hu,Result.andThen_ok,hfn,Sem.run_pure]
      have hrun2:(Instr.mapUpdate t (.map (some l.blk)) vk vv).run P w=.ok () (P2 w l.blk (.map (en.push { key:=vk,val:=vv,born:=clock }) (clock+1))):=by
       simp only[Instr.mapUpdate,Sem.run_bind,V1 ht,Result.andThen_ok,hget,Wn (y:=yk) _ hk,hfk,hset]
      subst hes'; subst hcl';refine AB.kR (hs _ hrun2) hr hg hl (.map _ _ _ _ (by simp[hsz]) fun q y hq=>?_)
      rw[List.getElem?_append]at hq;split at hq
      ·rename_i hlt;obtain⟨e4,k1,k2⟩:=As q y hq;exact⟨e4,by rw[Array.getElem?_push,iN (by omega)]; exact k1,k2⟩
      ·rename_i hge;have hq0:q=es.length:=by
        have:=(gS.1 hq).1;simp at this; omega
       subst hq0;simp only[Nat.sub_self,List.getElem?_cons_zero,oI]at hq;subst hq;exact⟨{ key:=vk,val:=vv,born:=clock },by rw[Array.getElem?_push,iP (by omega)],PB,FY,rfl⟩
     ·cases h0
theorem Z8k{t ty:TypeId}{y:Aa}{n:Nat}(hr:Rel W Φ ρ m w)(hy:R Φ ρ y v)
 (h:(P.underlying t=some .string ∧ ∃ l,y=.str l∧n=l.length)∨((∃ e,P.underlying t=some (.slice e))∧V9 y=some n) ∨
   ((∃ k e,P.underlying t=some (.map k e))∧((y=.Ay∧n=0) ∨ ∃ b es c,y=.map b∧m.get b=some (.map es c)∧n=es.length))) :
 (Builtin.len_ #[t] ty #[v]).run P w=.ok (.int .i64 n) w:=by
 rcases h with⟨ht,l,rfl,rfl⟩|⟨⟨e,ht⟩,hl⟩|⟨⟨k,e,ht⟩,hm⟩
 ·rw[B8 hy];unfold Builtin.len_;simp only[Sem.run_bind,List.getElem?_toArray,List.getElem?_cons_zero,V1 ht,Result.andThen_ok];rfl
 ·have hv:∃ a c,v=.slice a n c:=by
   cases hy<;>simp only[V9]at hl<;>first|(cases hl; done)|(injection hl with hl; subst hl; exact⟨_,_,rfl⟩)
  obtain⟨a,c,rfl⟩:=hv;unfold Builtin.len_;simp only[Sem.run_bind,List.getElem?_toArray,List.getElem?_cons_zero,V1 ht,Result.andThen_ok];rfl
 ·rcases hm with⟨rfl,rfl⟩|⟨b,es,c,rfl,hg,rfl⟩
  ·cases hy;unfold Builtin.len_;simp only[Sem.run_bind,List.getElem?_toArray,List.getElem?_cons_zero,V1 ht,Result.andThen_ok];rfl
  ·cases hy with
   | map _ l hl=>
    obtain⟨l',ob,g1,g2,g3,g4,g5⟩:=hr.live b _ hg;rw[hl]at g1; injection g1 with g1; subst g1
    cases g5 with
    | map _ _ _ en hsz As=>
     have hget:(getObj l.blk).run P w=.ok (.map en c) w:=by simp only[getObj,Sem.run,g4]
     unfold Builtin.len_;simp only[Sem.run_bind,List.getElem?_toArray,List.getElem?_cons_zero,V1 ht,Result.andThen_ok,hget,Sem.run_pure,goInt,hsz]
theorem wK(mx:Bool):∀ (ys:List Aa) (vs:List Value) (y z:Aa) (vy:Value),R Φ ρ y vy→vs.length=ys.length→(∀(i:Nat) (x:Aa) (u:Value),ys[i]? = some x→vs[i]? = some u→R Φ ρ x u)→KG mx y ys=some z →
 ∃ u,((vs.foldlM (if mx then Builtin.max2 else Builtin.min2) vy)).run P w=.ok u w∧R Φ ρ z u
 | [],[],y,z,vy,hy,_,_,h=>by
  have:y=z:=by cases y<;>simpa[KG]using h
  subst this;exact⟨vy,rfl,hy⟩
 | [],u :: vs,_,_,_,_,hl,_,_=>by simp at hl
 | x :: ys,[],_,_,_,_,hl,_,_=>by simp at hl
 | x :: ys,u :: vs,y,z,vy,hy,hl,hr,h=>by
  cases y<;>cases x<;>simp only[KG]at h<;>first|(cases h; done)|skip
  rename_i k a k' b;rw[G0 hy];have hx:=hr 0 _ _ rfl rfl;rw[G0 hx];obtain⟨u',h1,h2⟩:=wK mx ys vs _ z (.int k (if mx then (if b > a then b else a)else (if b<a then b else a))) (.int _ _) (by simpa using hl) (fun i x u hx hu=>hr (i+1) x u (by simpa using hx) (by simpa using hu)) h
  refine⟨u',?_,h2⟩;rw[List.foldlM_cons];cases mx
  ·simp only[bF,if_false,Sem.run_bind,Builtin.min2,Sem.run_pure,Result.andThen_ok]at h1 ⊢;exact h1
  ·simp only[if_true,Sem.run_bind,Builtin.max2,Sem.run_pure,Result.andThen_ok]at h1 ⊢;exact h1
end
end Go.AE
end
section
namespace Go.AE
open Go.RowKit
section
variable {P:Program} {s:Sem Next} {W:Ap} {Φ:Ao} {ρ:AD} {id:Nat} {w w1:World} {m m':Mem} {x:Aa} {v:Value}
theorem A4{s:Sem Value}{u:Value}{w w':World}(h:s.run P w=.ok u w'):(do pure (Next.value (← s)):Sem Next).run P w=.ok (.value u) w':=by
 simp only[Sem.run_bind,h,Result.andThen_ok,Sem.run_pure]
theorem qW{s:Sem Unit}{w w':World}(h:s.run P w=.ok () w'):(do s; pure Next.skip:Sem Next).run P w=.ok .skip w':=by
 simp only[Sem.run_bind,h,Result.andThen_ok,Sem.run_pure]
theorem AB.Gx{s:Sem Value}(hr:Rel W Φ ρ m w)(h:∃ u,s.run P w=.ok u w∧R Φ ρ x u):AB P (do pure (Next.value (← s))) W Φ ρ id w x m:=by
 obtain⟨u,h1,h2⟩:=h;exact AB.val (A4 h1) hr h2
theorem sJ(f:Value→ByteArray→Sem (ForInStep ByteArray))(hf:∀ n b,(f (.int .u8 n) b).run P w=.ok (.yield (b.push (UInt8.ofNat n.toNat))) w):∀ (rows:List (List Aa)) (vs:List Value) (l:List UInt8) (b:ByteArray),vs.length=rows.length→LU rows=some l →
 (∀(i:Nat) (row:List Aa) (x:Aa),rows[i]? = some row→row[0]? = some x → ∃ v,vs[i]? = some v∧R Φ ρ x v) →
 (forIn vs b f).run P w=.ok ⟨⟨b.data.toList++l⟩⟩ w
 | [],[],l,b,_,h,_=>by
  simp only[LU,oI]at h;subst h;simp[List.forIn_nil]
 | [],_ :: _,_,_,hl,_,_=>by simp at hl
 | _ :: _,[],_,_,hl,_,_=>by simp at hl
 | row :: rows,v :: vs,l,b,hl,h,hr=>by
  unfold LU at h;split at h
  ·rename_i heq; cases heq
  ·rename_i n r heq;injection heq with e1 e2
   subst e1; subst e2;cases hb:LU rows with
   | none=>simp[hb]at h
   | some l'=>
    simp only[hb,oI]at h;subst h;obtain⟨u,hu,hru⟩:=hr 0 _ _ rfl rfl;simp only[List.getElem?_cons_zero,oI]at hu;subst hu;rw[G0 hru];have ih:=sJ f hf rows vs l' (b.push (UInt8.ofNat n.toNat)) (by simpa using hl) hb (fun i row x h1 h2=>by
     obtain⟨u,hu,hru⟩:=hr (i+1) row x (by simpa using h1) h2
     exact⟨u,by simpa using hu,hru⟩)
    simp only[List.forIn_cons,Sem.run_bind,hf,Result.andThen_ok];rw[ih];simp[ByteArray.push]
  ·cases h
theorem Z63{y:Aa}{rows:List (List Aa)}{l:List UInt8}(hr:Rel W Φ ρ m w)(hy:R Φ ρ y v)(hrow:J7 m 1 y=some rows)(hb:LU rows=some l) :
 (Conv.bytesToString v).run P w=.ok (.string ⟨⟨l⟩⟩) w:=by
 have hsrc:O9 m 1 y=some rows:=by
  cases y<;>simp only[O9]<;>first|exact hrow|(simp[J7]at hrow)
 obtain⟨arr,h1,h2,h3,h4⟩:=Lw (P:=P) hr hy hsrc (lR 1);have hv:∃ a n c,v=.slice a n c:=by
  cases hy<;>simp only[J7]at hrow<;>first|(cases hrow; done)|exact⟨_,_,_,rfl⟩
 obtain⟨a,n,c,rfl⟩:=hv;have hn:n=rows.length:=by
  simp[Builtin.lenOf]at h1;exact h1
 subst hn;cases a with
 | none=>
  have h5:=h2 rows.length (lR _);cases hrl:rows with
  | nil=>
   subst hrl;simp only[LU,oI]at hb;subst hb;rfl
  | cons row rest=>
   rw[hrl]at h5;simp[Builtin.firstCells]at h5;rw[h5,hrl]at h3;simp at h3
 | some a=>
  have h5:=h2 rows.length (lR _);have h6:(loadCells a rows.length).run P w=.ok arr w:=by
   by_cases h0:rows.length=0
   ·rw[h0]at h3;have:arr = #[]:=by simpa using h3
    rw[h0,this];rfl
   ·have:arr.extract 0 (rows.length*1)=arr:=by rw[← h3]; simp
    rw[this]at h5;simpa[Builtin.firstCells,h0]using h5
  unfold Conv.bytesToString;simp only[Sem.run_bind,h6,Result.andThen_ok];rw[← Array.forIn_toList,sJ (Φ:=Φ) (ρ:=ρ) _ (fun n b=>rfl) rows arr.toList l _ (by simpa using h3) hb (fun i row x hi hx=>by
   obtain⟨u,hu,_,hru⟩:=h4.2 i row 0 x hi hx;exact⟨u,by simpa using hu,hru⟩)]
  simp[ByteArray.empty,ByteArray.emptyWithCapacity];rfl
theorem Z5f{t:TypeId}{zs:List Aa}(hr:Rel W Φ ρ m w)(hn:ρ id=none)(hlt:id<m.next)(hz:Jr P t=some zs) :
 AB P (do pure (Next.value (← Instr.alloc t true (.tuple #[])))) W Φ ρ id w (.ptr id 0 0) (m.set id (.cells zs.length [zs])):=by
 obtain⟨i,z,y,h1,h2,h3,h4,h5⟩:=LY hz Φ ρ;refine wU (v:=z) (e:=t) hr hn hlt h3 h4 h5 (A4 ?_);simp[Instr.alloc,Kh h1 h2,newVar,newRow]
theorem vr{t:TypeId}{y:Aa}{cs:List Aa}(hr:Rel W Φ ρ m w)(hn:ρ id=none)(hlt:id<m.next)(hy:R Φ ρ y v)(hc:y.cells=some cs)(h1:cs.all Aa.one=true) :
 AB P (do pure (Next.value (← Instr.box t v))) W Φ ρ id w (.ptr id 0 0) (m.set id (.cells cs.length [cs])):=by
 refine wU (v:=v) (e:=t) hr hn hlt hy hc h1 (A4 ?_);simp[Instr.box,newVar,newRow]
theorem u5{t:TypeId}(hr:Rel W Φ ρ m w)(hn:ρ id=none)(hlt:id<m.next) :
 AB P (do pure (Next.value (← Instr.makeMap t none))) W Φ ρ id w (.map id) (m.set id (.map [] 0)):=by
 refine AB.new (l:=⟨w.heap.size,0,0,0⟩) (o:=.map #[] 0) (A4 ?_) hr hn hlt rfl (.map _ _ _ _ rfl fun i x h=>by simp at h) (.map id _ AD.Bm)
 simp[Instr.makeMap]
theorem Z9l{vs:List Aa}{i:Nat}{z:Aa}(hy:R Φ ρ (.tuple vs) v)(hi:vs[i]? = some z):∃ u,(Instr.extract v i).run P w=.ok u w∧R Φ ρ z u:=by
 cases hy with
 | tuple _ us hs hr=>
  have hlt:i<us.size:=by rw[hs]; exact(gS.1 hi).1
  refine⟨us[i],?_,hr i z _ hi (Array.getElem?_eq_getElem hlt)⟩;simp[Instr.extract,hlt]
theorem wP(e:Fi):H2 e .bot=none:=by cases e<;>rfl
theorem Z74(e:Fi)(z:Aa):Lv e .bot z=none:=by
 simp only[Lv,wP];split<;>rfl
theorem Z5o(e:Fi)(z:Aa):Lv e z .bot=none:=by
 simp only[Lv,wP];split<;>rfl
theorem Wg(e:Fi)(z:Aa):FG e .bot z=none∧FG e z .bot=none:=by
 cases e<;>simp[FG,Z74,Z5o]
theorem lQ{op:BinOp}{t:TypeId}{e:Fi}{y z r:Aa}{vy vz:Value}{ox oy:Operand}(he:UL P t=some e)(h:X4 op e y z=some r)(hy:R Φ ρ y vy)(hz:R Φ ρ z vz) :
 ∃ u,(do eqGuard op t ox oy vy vz; binOp op t vy vz:Sem Value).run P w=.ok u w∧R Φ ρ r u:=by
 have gint:∀ k a k' b,(eqGuard op t ox oy (.int k a) (.int k' b)).run P w=.ok () w:=by
  intro k a k' b;unfold eqGuard;cases op<;>simp
 have gstr:∀ a b,(eqGuard op t ox oy (.string a) (.string b)).run P w=.ok () w:=by
  intro a b;unfold eqGuard;cases op<;>simp
 have heq:∀ b,FG e y z=some b→op=.eql→r=.bool b → ∃ u,(do eqGuard op t ox oy vy vz; binOp op t vy vz:Sem Value).run P w=.ok u w∧R Φ ρ r u:=by
  intro b hb ho hrb;subst ho; subst hrb;obtain⟨h1,h2,h3,h4,h5⟩:=oU (w:=w) (op:=.eql) (ox:=ox) (oy:=oy) he hb hy hz;refine⟨.bool b,?_,.bool b⟩;simp only[Sem.run_bind,h1,Result.andThen_ok];have:binOp .eql t vy vz=(do pure (.bool (← Op.equal t vy vz)):Sem Value):=by
   cases hy<;>first|(exact absurd rfl (h3 _ _))|(exact absurd rfl (h4 _))|skip
   all_goals first|(exfalso; rw[(Wg _ _).1]at hb; cases hb; done)|(cases hz<;>first|rfl|(exfalso; rw[(Wg _ _).2]at hb; cases hb; done))
  rw[this];simp only[Sem.run_bind,h2,Result.andThen_ok,Sem.run_pure]
 have hne:∀ b,FG e y z=some b→op=.neq→r=.bool (!b) → ∃ u,(do eqGuard op t ox oy vy vz; binOp op t vy vz:Sem Value).run P w=.ok u w∧R Φ ρ r u:=by
  intro b hb ho hrb;subst ho; subst hrb;obtain⟨h1,h2,h3,h4,h5⟩:=oU (w:=w) (op:=.neq) (ox:=ox) (oy:=oy) he hb hy hz;refine⟨.bool (!b),?_,.bool _⟩;simp only[Sem.run_bind,h1,Result.andThen_ok];have:binOp .neq t vy vz=(do pure (.bool (!(← Op.equal t vy vz))):Sem Value):=by
   cases hy<;>first|(exact absurd rfl (h3 _ _))|(exact absurd rfl (h4 _))|skip
   all_goals first|(exfalso; rw[(Wg _ _).1]at hb; cases hb; done)|(cases hz<;>first|rfl|(exfalso; rw[(Wg _ _).2]at hb; cases hb; done))
  rw[this];simp only[Sem.run_bind,h2,Result.andThen_ok,Sem.run_pure]
 unfold X4 at h;split at h
 ·split at h
  ·cases h
  ·rename_i k a k' b hb;injection h with h
   subst h;rw[G0 hy,G0 hz];simp only[Sem.run_bind,gint,Result.andThen_ok];refine⟨_,?_,.int _ _⟩;simp[binOp,Op.shift,hb]
 ·split at h
  ·cases h
  ·rename_i k a k' b hb;injection h with h
   subst h;rw[G0 hy,G0 hz];simp only[Sem.run_bind,gint,Result.andThen_ok];refine⟨_,?_,.int _ _⟩;simp[binOp,Op.shift,hb]
 ·split at h
  ·rename_i hk;subst hk;rw[G0 hy,G0 hz];simp only[Sem.run_bind,gint,Result.andThen_ok];exact Z7i h
  ·cases h
 ·rw[B8 hy,B8 hz];simp only[Sem.run_bind,gstr,Result.andThen_ok];exact s5 h
 ·split at h
  ·rename_i b hb;injection h with h
   exact heq b hb rfl h.symm
  ·cases h
 ·split at h
  ·rename_i b hb;injection h with h
   exact hne b hb rfl h.symm
  ·cases h
 ·cases h
end
end Go.AE
end
section
namespace Go.AE
open Go.RowKit
section
variable {P:Program} {W:Ap} {Φ:Ao} {ρ:AD} {id:Nat} {w:World} {m m':Mem} {x:Aa} {a:Act} {t:List Aa}
theorem RZ(ht:RL Φ ρ t a.tmps){xs:Array Operand}{ys:List Ah}(h:A5 xs.toList=some ys):RL Φ ρ (ys.map (ev t)) (xs.map a.eval):=by
 obtain⟨h1,h2⟩:=nS ht _ _ h;refine⟨by simp[h1],fun i x v hx hv=>?_⟩
 simp only[gM,mO]at hx;obtain⟨y,hy,rfl⟩:=hx;simp only[Array.getElem?_map,mO]at hv;obtain⟨z,hz,rfl⟩:=hv;exact U8 ht (h2 i y z hy (by simpa using hz))
theorem xy{s:Sem Next}{y:Aa}{v:Value}(hr:Rel W Φ ρ m w)
 (h:(match y with | .ptr b i j=>some (.ptr b i j,m) | .AW els i j=>some (.AW els i j,m) | .func (.func f) a b=>some (.func (.func f) a b,m)|_=>none)=some (x,m')) (hy:R Φ ρ y v)
 (hs:(∀ p,v=.pointer (some p)→s.run P w=.ok (.value v) w)∧(∀ f p q,v=.func (.func f) p q→s.run P w=.ok (.value v) w)):AB P s W Φ ρ id w x m':=by
 cases hy with
 | ptr b i j l hl=>
  simp only[oI,AP]at h;obtain⟨h1,h2⟩:=h;subst h1; subst h2;exact AB.val (hs.1 _ rfl) hr (.ptr b i j l hl)
 | AW els i j B o k c f hB hk hc As=>
  simp only[oI,AP]at h;obtain⟨h1,h2⟩:=h;subst h1; subst h2;exact AB.val (hs.1 _ rfl) hr (.AW els i j B o k c f hB hk hc As)
 | func fn fs cs vf vc hf hc h3 h4=>
  cases fn<;>simp only[oI,AP,reduceCtorEq]at h
  obtain⟨h1,h2⟩:=h;subst h1; subst h2;exact AB.val (hs.2 _ _ _ rfl) hr (.func _ fs cs vf vc hf hc h3 h4)
 | _=>simp at h
theorem vw{y:Aa}{v:Value}{n:Nat}(hy:R Φ ρ y v)(hn:V9 y=some n):∃ p c,v=.slice p n c∧n≤c:=by
 cases hy<;>simp only[V9]at hn<;>first|(cases hn; done)|skip
 all_goals (injection hn with hn; subst hn)
 all_goals first|exact⟨_,_,rfl,by simp⟩|exact⟨_,_,rfl,by assumption⟩
theorem V6{α β:Type}{a c:α}{b d:β}(h:some (a,b)=some (c,d)):a=c∧b=d:=by
 injection h with h; injection h with h1 h2; exact⟨h1,h2⟩
theorem LN{b:Builtin}{c:Call}{o:Oper}{s:Sem Value}(ho:o.op=.call c)(hc:c.callee=.builtin b)
 (hb:∀ cs,builtin b c.argTypes o.type cs (c.args.map a.eval)=(do pure (Next.value (← s)))):∀ u w',s.run P w=.ok u w'→(execOp a.eval o).run P w=.ok (.value u) w':=by
 intro u w' h;unfold execOp;rw[ho];simp only[resolve,hc,Sem.run_bind,Sem.run_pure,Result.andThen_ok,invoke];rw[hb];exact A4 h
theorem VN{c:Call}{p q:Operand}(h:c.args.toList=[p,q]):c.args.map a.eval = #[a.eval p,a.eval q]:=by
 have:c.args = #[p,q]:=by rw[← Array.toList_inj]; exact h
 rw[this]; simp
theorem cD{c:Call}{p:Operand}(h:c.args.toList=[p]):c.args.map a.eval = #[a.eval p]:=by
 have:c.args = #[p]:=by rw[← Array.toList_inj]; exact h
 rw[this]; simp
theorem wB(ht:RL Φ ρ t a.tmps)(hr:Rel W Φ ρ m w)(o:Oper)(c:Call)(ho:o.op=.call c)(mx:Bool)(Bf:c.callee=.builtin (if mx then .max else .min))
 (hs:∀ u w',(if mx then Builtin.max_ c.argTypes o.type (c.args.map a.eval)else Builtin.min_ c.argTypes o.type (c.args.map a.eval)).run P w=.ok u w'→(execOp a.eval o).run P w=.ok (.value u) w')
 {xs:List Ah} (hxs:A5 c.args.toList=some xs) (h:Ae id t m (.CK mx xs)=some (x,m')):AB P (execOp a.eval o) W Φ ρ id w x m':=by
 simp only[Ae]at h;have hrl:=RZ ht hxs;cases xs with
 | nil=>simp at h
 | cons y ys=>
  simp only at h;split at h<;>first|(cases h; done)|skip
  rename_i z hz;obtain⟨h1,h2⟩:=V6 h;subst h1; subst h2;generalize hvs:c.args.map a.eval=vs at hs hrl;obtain⟨l⟩:=vs;cases l with
  | nil=>simp[RL]at hrl
  | cons v l=>
   obtain⟨u,g1,g2⟩:=wK (P:=P) (w:=w) mx (ys.map (ev t)) l _ z v (hrl.2 0 _ _ rfl rfl) (by simpa[RL]using hrl.1) (fun i x u hx hu=>hrl.2 (i+1) x u (by simpa using hx) (by simpa using hu)) hz
   refine AB.val (hs u w ?_) hr g2;cases mx<;>exact g1
theorem Z9d(ht:RL Φ ρ t a.tmps)(hr:Rel W Φ ρ m w)(hn:ρ id=none)(hlt:id<m.next)(o:Oper)(c:Call)(ho:o.op=.call c)(op:AQ)
 (hc:Ix P c=some op) (h:Ae id t m op=some (x,m')):AB P (execOp a.eval o) W Φ ρ id w x m':=by
 unfold Ix at hc;split at hc
 ·split at hc
  ·injection hc with hc; subst hc; simp[Ae]at h
  ·cases hc
 ·rename_i Bf;split at hc<;>first|(cases hc; done)|skip
  rename_i s xx tt u hargs htys;split at hc<;>first|(cases hc; done)|skip
  rename_i k b z s' x' he hs' hx';split at hc<;>first|(cases hc; done)|skip
  ·injection hc with hc; subst hc; simp[Ae]at h
  ·rename_i d hd hdu;injection hc with hc
   subst hc;simp only[Ae]at h;split at h<;>first|(cases h; done)|skip
   rename_i xs hxs;have htys':c.argTypes = #[tt,u]:=by rw[← Array.toList_inj]; exact htys
   exact zy (ty:=o.type) (r:=(x,m')) hr hn hlt he hdu (fun k hk=>hd k hk) (U8 ht hs') (U8 ht hx') hxs h
    (LN ho Bf fun cs=>by rw[VN hargs,htys']; rfl)
 ·rename_i Bf;split at hc<;>first|(cases hc; done)|skip
  rename_i dd ss tt u hargs htys;split at hc<;>first|(cases hc; done)|skip
  rename_i k b z d' s' he hd' hs';injection hc with hc
  subst hc;simp only[Ae]at h;split at h<;>first|(cases h; done)|skip
  rename_i bb off len xs hsl hxs;split at h<;>first|(cases h; done)|skip
  rename_i k' els hg;split at h<;>first|(cases h; done)|skip
  rename_i hcond;obtain⟨rfl,DR⟩:=hcond;obtain⟨h1,h2⟩:=V6 h;subst h1; subst h2;have htys':c.argTypes = #[tt,u]:=by rw[← Array.toList_inj]; exact htys
  have hdv:=U8 ht hd';rw[hsl]at hdv;exact Z44 (ty:=o.type) (u:=u) hr he hdv (U8 ht hs') hxs hg DR (LN ho Bf fun cs=>by rw[VN hargs,htys']; rfl)
 ·rename_i Bf;split at hc<;>first|(cases hc; done)|skip
  rename_i xx tt hargs htys;split at hc<;>first|(cases hc; done)|skip
  rename_i k b z x' he hx';injection hc with hc
  subst hc;simp only[Ae]at h;have htys':c.argTypes = #[tt]:=by rw[← Array.toList_inj]; exact htys
  have hrun:=LN (P:=P) (w:=w) (a:=a) (s:=Builtin.clear_ #[tt] o.type #[a.eval xx]) ho Bf (fun cs=>by rw[cD hargs,htys']; rfl)
  split at h<;>first|(cases h; done)|skip
  ·rename_i b' off len hsl;split at h<;>first|(cases h; done)|skip
   rename_i k' els hg;split at h<;>first|(cases h; done)|skip
   rename_i hcond;obtain⟨rfl,DR⟩:=hcond;obtain⟨h1,h2⟩:=V6 h;subst h1; subst h2;exact aM hr he (U8 ht hx') (.inl ⟨_,_,_,_,hsl,hg,DR,rfl⟩) hrun
  ·rename_i hsl;obtain⟨h1,h2⟩:=V6 h;subst h1; subst h2;exact aM hr he (U8 ht hx') (.inr ⟨.inl hsl,rfl⟩) hrun
  ·rename_i hsl;obtain⟨h1,h2⟩:=V6 h;subst h1; subst h2;exact aM hr he (U8 ht hx') (.inr ⟨.inr hsl,rfl⟩) hrun
 ·rename_i Bf;split at hc<;>first|(cases hc; done)|skip
  rename_i xx tt hargs htys;have htys':c.argTypes = #[tt]:=by rw[← Array.toList_inj]; exact htys
  have hrun:=LN (P:=P) (w:=w) (a:=a) (s:=Builtin.len_ #[tt] o.type #[a.eval xx]) ho Bf (fun cs=>by rw[cD hargs,htys']; rfl)
  have fin:∀ (y:Ah) (n:Nat),Y7 xx=some y→x=.int .i64 n→m'=m →
   ((P.underlying tt=some .string ∧ ∃ l,ev t y=.str l∧n=l.length)∨((∃ e,P.underlying tt=some (.slice e))∧V9 (ev t y)=some n) ∨
   ((∃ k e,P.underlying tt=some (.map k e))∧((ev t y=.Ay∧n=0) ∨ ∃ b es c,ev t y=.map b∧m.get b=some (.map es c)∧n=es.length)))→AB P (execOp a.eval o) W Φ ρ id w x m':=by
   intro y n hy h1 h2 h3;subst h1; subst h2;exact AB.val (hrun _ _ (Z8k hr (U8 ht hy) h3)) hr (.int _ _)
  split at hc<;>first|(cases hc; done)|skip
  ·rename_i n e hu;injection hc with hc
   subst hc;simp only[Ae]at h;obtain⟨h1,h2⟩:=V6 h;subst h1; subst h2;refine AB.val (hrun (.int .i64 n) w ?_) hr (.int _ _);unfold Builtin.len_;simp only[Sem.run_bind,List.getElem?_toArray,List.getElem?_cons_zero,V1 hu,Result.andThen_ok];rfl
  all_goals
   injection hc with hc
   subst hc;simp only[Ae]at h
  ·rename_i y hu hy;split at h<;>first|(cases h; done)|skip
   rename_i l hl;obtain⟨h1,h2⟩:=V6 h;exact fin y _ hy h1.symm h2.symm (.inl ⟨hu,l,hl,rfl⟩)
  ·rename_i e y hu hy;split at h<;>first|(cases h; done)|skip
   rename_i n hl;obtain⟨h1,h2⟩:=V6 h;exact fin y _ hy h1.symm h2.symm (.inr (.inl ⟨⟨_,hu⟩,hl⟩))
  ·rename_i k e y hu hy;split at h<;>first|(cases h; done)|skip
   ·rename_i hl;obtain⟨h1,h2⟩:=V6 h;exact fin y 0 hy h1.symm h2.symm (.inr (.inr ⟨⟨_,_,hu⟩,.inl ⟨hl,rfl⟩⟩))
   ·rename_i b hl;split at h<;>first|(cases h; done)|skip
    rename_i es c hg;obtain⟨h1,h2⟩:=V6 h;exact fin y _ hy h1.symm h2.symm (.inr (.inr ⟨⟨_,_,hu⟩,.inr ⟨b,es,c,hl,hg,rfl⟩⟩))
 ·split at hc<;>first|(cases hc; done)|skip
  split at hc<;>first|(cases hc; done)|skip
  injection hc with hc
  subst hc;simp[Ae]at h
 ·rename_i Bf;split at hc<;>first|(cases hc; done)|skip
  rename_i xs hxs;injection hc with hc
  subst hc;exact wB ht hr o c ho false Bf (LN ho Bf fun cs=>rfl) hxs h
 ·rename_i Bf;split at hc<;>first|(cases hc; done)|skip
  rename_i xs hxs;injection hc with hc
  subst hc;exact wB ht hr o c ho true Bf (LN ho Bf fun cs=>rfl) hxs h
 ·cases hc
end
end Go.AE
end
section
namespace Go.AE
open Go.RowKit
section
variable {P:Program} {W:Ap} {Φ:Ao} {ρ:AD} {id:Nat} {w:World} {m m':Mem} {x:Aa} {a:Act} {t:List Aa}
theorem qX{y:Aa}{v:Value}{b:Bool}(hy:R Φ ρ y v)(h:y=.bool b):v=.bool b:=by subst h; exact IE hy
theorem tC(ht:RL Φ ρ t a.tmps)(hr:Rel W Φ ρ m w)(ty:TypeId)(om ok ov:Operand)(op:AQ)
 (hc:(match P.underlying ty,Y7 om,Y7 ok,Y7 ov with
 | some (.map kt _),some m',some k',some v'=>match G7 P kt with
  | some q=>some (AQ.BJ q m' k' v')
  | none=>none
 | _,_,_,_=>none)=some op) (h:Ae id t m op=some (x,m')) :
 AB P (do Instr.mapUpdate ty (a.eval om) (a.eval ok) (a.eval ov); pure Next.skip) W Φ ρ id w x m':=by
 split at hc<;>first|(cases hc; done)|skip
 rename_i kt e m1 k1 v1 hu hm hk hv;split at hc<;>first|(cases hc; done)|skip
 rename_i q hq;injection hc with hc
 subst hc;simp only[Ae]at h;split at h<;>first|(cases h; done)|skip
 rename_i b hb;split at h<;>first|(cases h; done)|skip
 rename_i es clock hg;have hmv:=U8 ht hm;rw[hb]at hmv;split at h<;>first|(cases h; done)|skip
 ·rename_i i z born hf;obtain⟨h1,h2⟩:=V6 h;subst h1; subst h2;exact nE hr hu hq hmv (U8 ht hk) (U8 ht hv) hg (.inl ⟨_,_,_,hf,rfl,rfl⟩) fun w' hw=>qW hw
 ·rename_i hf;obtain⟨h1,h2⟩:=V6 h;subst h1; subst h2;exact nE hr hu hq hmv (U8 ht hk) (U8 ht hv) hg (.inr ⟨hf,rfl,rfl⟩) fun w' hw=>qW hw
theorem Z7r(ht:RL Φ ρ t a.tmps)(hr:Rel W Φ ρ m w){ty e:TypeId}{k:Nat}{ox:Operand}{lo hi mx:Option Operand}{x':Ah}{l h0 xQ:Option Ah}(hu:P.underlying ty=some (.slice e))(hk:O8 P e=some k)
 (hx:Y7 ox=some x') (hl:H8 lo=some l) (hh:H8 hi=some h0) (Fm:H8 mx=some xQ) (h:Ae id t m (.DB k x' l h0 xQ)=some (x,m')) :
 AB P (do pure (Next.value (← Instr.sliceAt ty (a.eval ox) (lo.map a.eval) (hi.map a.eval) (mx.map a.eval)))) W Φ ρ id w x m':=by
 have hlo:=QZ ht hl;have hhi:=QZ ht hh;have hxv:=U8 ht hx;cases mx with
 | none=>
  simp only[H8,oI]at Fm;subst Fm;simp only[Ae]at h;have key:m'=m ∧ ∃ u,(Instr.sliceAt ty (a.eval ox) (lo.map a.eval) (hi.map a.eval) none).run P w=.ok u w∧R Φ ρ x u:=by
   split at h<;>first|(cases h; done)|skip
   ·rename_i hy;split at h<;>first|(cases h; done)|skip
    rename_i lh hb;obtain⟨h1,h2⟩:=V6 h;exact Wr hr hu hk hxv hlo hhi (.inl ⟨hy,⟨_,hb⟩,h1.symm,h2.symm⟩)
   ·rename_i hy;split at h<;>first|(cases h; done)|skip
    rename_i lh hb;obtain⟨h1,h2⟩:=V6 h;exact Wr hr hu hk hxv hlo hhi (.inr (.inl ⟨hy,⟨_,hb⟩,h1.symm,h2.symm⟩))
   ·rename_i els hy;split at h<;>first|(cases h; done)|skip
    rename_i hall;split at h<;>first|(cases h; done)|skip
    rename_i l1 l2 hb;obtain⟨h1,h2⟩:=V6 h;exact Wr hr hu hk hxv hlo hhi (.inr (.inr (.inl ⟨_,_,_,hy,hall,hb,h1.symm,h2.symm⟩)))
   ·rename_i b off len hy;split at h<;>first|(cases h; done)|skip
    rename_i k' els hg;split at h<;>first|(cases h; done)|skip
    rename_i hcond;obtain⟨hk',DR⟩:=hcond;subst hk';split at h<;>first|(cases h; done)|skip
    rename_i l hq hb;obtain⟨h1,h2⟩:=V6 h;exact Wr hr hu hk hxv hlo hhi (.inr (.inr (.inr ⟨_,_,_,_,_,_,hy,hg,DR,hb,h1.symm,h2.symm⟩)))
  obtain⟨h1,h2⟩:=key;subst h1;exact AB.Gx hr h2
 | some zx=>
  simp only[H8]at Fm;cases hz:Y7 zx with
  | none=>simp[hz]at Fm
  | some z=>
   simp only[hz,oI]at Fm;subst Fm;simp only[Ae]at h;split at h<;>first|(cases h; done)|skip
   rename_i n mx l' h' hn Fm hl';split at h<;>first|(cases h; done)|skip
   rename_i h'' hh'';split at h<;>first|(cases h; done)|skip
   rename_i hcond;obtain⟨c1,c2,c3⟩:=hcond;obtain⟨p,c,hv,hnc⟩:=vw hxv hn;have e1:∀ code,(Instr.sliceBound (a.eval zx) c code).run P w=.ok mx w:=fun code=>Tp (U8 ht hz) (by simpa[H1]using Fm) (by omega)
   cases hi with
   | none=>simp[H8]at hh
   | some hx2=>
    simp only[H8]at hh;cases hz2:Y7 hx2 with
    | none=>simp[hz2]at hh
    | some z2=>
     simp only[hz2,oI]at hh;subst hh;have e2:∀ code,(Instr.sliceBound (a.eval hx2) mx code).run P w=.ok h'' w:=fun code=>Tp (U8 ht hz2) hh'' c2
     have e3:(Instr.sliceBounds true n c (lo.map a.eval) (some (a.eval hx2)) (some (a.eval zx))).run P w=.ok (l',h'',mx) w:=by
      unfold Instr.sliceBounds;simp only[Sem.run_bind,e1,e2,Result.andThen_ok];cases lo with
      | none=>
       simp only[H8,oI]at hl;subst hl;simp only[H1,oI]at hl';subst hl';rfl
      | some lx=>
       simp only[H8]at hl;cases hz3:Y7 lx with
       | none=>simp[hz3]at hl
       | some z3=>
        simp only[hz3,oI]at hl;subst hl;have e4:∀ code,(Instr.sliceBound (a.eval lx) h'' code).run P w=.ok l' w:=fun code=>Tp (U8 ht hz3) (by simpa[H1]using hl') c1
        simp only[Option.map_some,Sem.run_bind,e4,Result.andThen_ok,Sem.run_pure]
     have e5:=Sw (a:=p) hu hk e3;rw[← hv]at e5;split at h
     ·rename_i h0;obtain⟨h1,h2⟩:=V6 h;subst h1; subst h2;refine AB.val (A4 e5) hr ?_;have:h'' - l'=0:=by omega
      have h3:mx - l'=0:=by omega
      rw[this,h3];exact .emp _
     ·obtain⟨h1,h2⟩:=V6 h;subst h1; subst h2;exact AB.val (A4 e5) hr (.bot _)
theorem Z9i(ht:RL Φ ρ t a.tmps)(hr:Rel W Φ ρ m w)(hn:ρ id=none)(hlt:id<m.next)(o:Oper)(op:AQ)
 (hc:Gu P o=some op) (h:Ae id t m op=some (x,m')):AB P (execOp a.eval o) W Φ ρ id w x m':=by
 have mk:∀ {y:Ah} {z:Operand},Y7 z=some y→R Φ ρ (ev t y) (a.eval z):=fun hz=>U8 ht hz
 unfold Gu at hc;unfold execOp;split at hc
 ·rename_i z ho;rw[ho];simp only[mO]at hc;obtain⟨y,hy,rfl⟩:=hc;simp only[Ae]at h;obtain⟨h1,h2⟩:=V6 h;subst h1; subst h2;exact AB.val (by simp) hr (mk hy)
 ·rename_i z ho;rw[ho];simp only[mO]at hc;obtain⟨y,hy,rfl⟩:=hc;simp only[Ae]at h;obtain⟨h1,h2⟩:=V6 h;subst h1; subst h2;exact AB.val (by simp) hr (mk hy)
 ·rename_i c1 a1 b1 ho;rw[ho];split at hc<;>first|(cases hc; done)|skip
  rename_i c' a' b' h1 h2 h3;injection hc with hc; subst hc
  simp only[Ae]at h;split at h<;>first|(cases h; done)|skip
  ·rename_i hb;obtain⟨e1,e2⟩:=V6 h;subst e1; subst e2;have:=qX (mk h1) hb;exact AB.val (v:=a.eval a1) (by simp[this,asBool]) hr (mk h2)
  ·rename_i hb;obtain⟨e1,e2⟩:=V6 h;subst e1; subst e2;have:=qX (mk h1) hb;exact AB.val (v:=a.eval b1) (by simp[this,asBool]) hr (mk h3)
 ·rename_i ty ho;rw[ho];simp only[mO]at hc;obtain⟨zs,hz,rfl⟩:=hc;simp only[Ae]at h;obtain⟨h1,h2⟩:=V6 h;subst h1; subst h2;exact Z5f hr hn hlt hz
 ·rename_i ty z ho;rw[ho];simp only[mO]at hc;obtain⟨y,hy,rfl⟩:=hc;simp only[Ae]at h;split at h<;>first|(cases h; done)|skip
  rename_i cs hcs;split at h<;>first|(cases h; done)|skip
  rename_i hall;obtain⟨h1,h2⟩:=V6 h;subst h1; subst h2;exact vr hr hn hlt (mk hy) hcs hall
 ·rename_i ty ps ho;rw[ho];split at hc<;>first|(cases hc; done)|skip
  ·rename_i fs z hu hz;split at hc<;>first|(cases hc; done)|skip
   rename_i hall;split at hc<;>first|(cases hc; done)|skip
   rename_i qs hq;injection hc with hc; subst hc
   simp only[Ae]at h;split at h<;>first|(cases h; done)|skip
   rename_i cs hcs;obtain⟨h1,h2⟩:=V6 h;subst h1; subst h2;exact AB.Gx hr (Z3d ht hu hz hq hcs fun f hf=>Option.isSome_iff_exists.1 (List.all_eq_true.1 hall f hf))
  ·rename_i n e z hu hz;split at hc<;>first|(cases hc; done)|skip
   rename_i k hk;split at hc<;>first|(cases hc; done)|skip
   rename_i qs hq;injection hc with hc; subst hc
   simp only[Ae]at h;split at h<;>first|(cases h; done)|skip
   rename_i cs hcs;obtain⟨h1,h2⟩:=V6 h;subst h1; subst h2;exact AB.Gx hr (Z3x ht hu hk hz hq hcs)
 ·rename_i ty len ps ho;rw[ho];split at hc<;>first|(cases hc; done)|skip
  rename_i k b z qs he hq;split at hc<;>first|(cases hc; done)|skip
  rename_i hle;injection hc with hc; subst hc
  simp only[Ae]at h;split at h<;>first|(cases h; done)|skip
  rename_i els hels;obtain⟨h1,h2⟩:=V6 h;subst h1; subst h2;exact zo hr ht hn hlt he hq hle hels fun u w' hw=>A4 hw
 ·rename_i ty z ho;rw[ho];split at hc<;>first|(cases hc; done)|skip
  rename_i n y hl hy;injection hc with hc; subst hc
  simp only[Ae]at h;split at h<;>first|(cases h; done)|skip
  rename_i v hv;obtain⟨h1,h2⟩:=V6 h;subst h1; subst h2;exact AB.Gx hr (mD hr (mk hy) hl hv)
 ·rename_i ty z z2 ho;rw[ho];split at hc<;>first|(cases hc; done)|skip
  rename_i n a' x' hs ha hx;injection hc with hc; subst hc
  simp only[Ae]at h;split at h<;>first|(cases h; done)|skip
  rename_i m2 hst;obtain⟨h1,h2⟩:=V6 h;subst h1; subst h2;refine Z5z hr (mk ha) (mk hx) hs hst ?_;simp only[Sem.run_bind,Sem.run_pure];cases Sem.run P (Instr.storeAt ty (a.eval z) (a.eval z2)) w<;>rfl
 ·rename_i z ho;rw[ho];simp only[mO]at hc;obtain⟨y,hy,rfl⟩:=hc;simp only[Ae]at h;refine xy hr h (mk hy) ⟨fun p hp=>?_,fun f p q hp=>?_⟩
  ·simp only[hp]; rfl
  ·simp only[hp]; rfl
 ·rename_i op2 ty z z2 ty2 ho;rw[ho];split at hc<;>first|(cases hc; done)|skip
  rename_i x' y' e hx hy he;injection hc with hc; subst hc
  simp only[Ae]at h;split at h<;>first|(cases h; done)|skip
  rename_i v hv;obtain⟨h1,h2⟩:=V6 h;subst h1; subst h2;exact AB.Gx hr (lQ he hv (mk hx) (mk hy))
 ·rename_i op2 ty z ho;rw[ho];simp only[mO]at hc;obtain⟨y,hy,rfl⟩:=hc;simp only[Ae]at h;split at h<;>first|(cases h; done)|skip
  rename_i v hv;obtain⟨h1,h2⟩:=V6 h;subst h1; subst h2;exact AB.Gx hr (Z4s hv (mk hy))
 ·rename_i s d z ho;rw[ho];split at hc<;>first|(cases hc; done)|skip
  ·rename_i k0 k y hs hd hy;injection hc with hc; subst hc
   simp only[Ae]at h;split at h<;>first|(cases h; done)|skip
   rename_i k1 n hv;obtain⟨h1,h2⟩:=V6 h;subst h1; subst h2;have FY:=mk hy;rw[hv]at FY;refine AB.val (A4 ?_) hr (.int k _);rw[G0 FY];simp only[convert,Sem.run_bind,V1 hs,V1 hd,Result.andThen_ok];rfl
  ·rename_i y hs hd hy;injection hc with hc; subst hc
   simp only[Ae]at h;split at h<;>first|(cases h; done)|skip
   rename_i l hv;obtain⟨h1,h2⟩:=V6 h;subst h1; subst h2;have FY:=mk hy;rw[hv]at FY;refine AB.val (A4 ?_) hr (.str _);rw[B8 FY];simp only[convert,Sem.run_bind,V1 hs,V1 hd,Result.andThen_ok];rfl
  ·rename_i e y hs hd hy;split at hc<;>first|(cases hc; done)|skip
   rename_i he;injection hc with hc; subst hc
   simp only[Ae]at h;split at h<;>first|(cases h; done)|skip
   rename_i rows hrows;split at h<;>first|(cases h; done)|skip
   rename_i l hl;obtain⟨h1,h2⟩:=V6 h;subst h1; subst h2;refine AB.val (A4 ?_) hr (.str _);have hb:=Z63 (P:=P) hr (mk hy) hrows hl;have hv:∃ p n c,a.eval z=.slice p n c:=by
    have FY:=mk hy;generalize ev t y=yy at FY hrows;generalize a.eval z=vv at FY;cases FY<;>simp only[J7]at hrows<;>first|(cases hrows; done)|exact⟨_,_,_,rfl⟩
   obtain⟨p,n,c,hv⟩:=hv;rw[hv]at hb ⊢;simp only[convert,Sem.run_bind,V1 hs,V1 hd,V1 he,Result.andThen_ok];exact hb
 ·rename_i fn f1 c1 ho;rw[ho];split at hc<;>first|(cases hc; done)|skip
  rename_i f' c' hf CM;injection hc with hc; subst hc
  simp only[Ae]at h;obtain⟨h1,h2⟩:=V6 h;subst h1; subst h2;have g1:=RZ ht hf;have g2:=RZ ht CM;exact AB.val (A4 (by simp[Instr.makeFunc])) hr (.func fn _ _ _ _ g1.1 g2.1 g1.2 g2.2)
 ·rename_i ty ho;rw[ho];injection hc with hc; subst hc
  simp only[Ae]at h;obtain⟨h1,h2⟩:=V6 h;subst h1; subst h2;exact u5 hr hn hlt
 ·rename_i ty z z2 ho;rw[ho];split at hc<;>first|(cases hc; done)|skip
  rename_i k b zz l' c' he hl CM;injection hc with hc; subst hc
  simp only[Ae]at h;split at h<;>first|(cases h; done)|skip
  rename_i l c hl' hc';split at h<;>first|(cases h; done)|skip
  rename_i hcond;obtain⟨d1,d2,d3⟩:=hcond;obtain⟨h1,h2⟩:=V6 h;subst h1; subst h2;obtain⟨kl,hkl⟩:=MY (mk hl) hl';obtain⟨kc,hkc⟩:=MY (mk CM) hc';exact zl hr hn hlt he hkl hkc d1 d2 d3 fun u w' hw=>A4 hw
 ·rename_i ty z lo hi mx ho;rw[ho];split at hc<;>first|(cases hc; done)|skip
  ·rename_i x' l h0 hu hx hl hh hm;injection hc with hc; subst hc
   have Fm:mx=none:=by
    cases mx with
    | none=>rfl
    | some q=>simp only[H8]at hm; split at hm<;>simp at hm
   subst Fm;simp only[Ae]at h;split at h<;>first|(cases h; done)|skip
   rename_i s hs;split at h<;>first|(cases h; done)|skip
   rename_i l1 h1 hb;obtain⟨e1,e2⟩:=V6 h;subst e1; subst e2;have hxv:=mk hx;rw[hs]at hxv;exact AB.Gx hr (zY hu hxv (QZ ht hl) (QZ ht hh) hb)
  ·rename_i e x' l h0 mm hu hx hl hh hm;split at hc<;>first|(cases hc; done)|skip
   rename_i k hk;injection hc with hc; subst hc
   exact Z7r ht hr hu hk hx hl hh hm h
  ·split at hc<;>first|(cases hc; done)|skip
   injection hc with hc; subst hc
   simp[Ae]at h
 ·rename_i ty z i ho;rw[ho];split at hc<;>first|(cases hc; done)|skip
  rename_i fs y hu hy;split at hc<;>first|(cases hc; done)|skip
  rename_i f hf;split at hc<;>first|(cases hc; done)|skip
  rename_i n hs;split at hc<;>first|(cases hc; done)|skip
  rename_i h0;injection hc with hc; subst hc
  simp only[Ae]at h;split at h<;>first|(cases h; done)|skip
  rename_i v hv;obtain⟨h1,h2⟩:=V6 h;subst h1; subst h2;exact AB.Gx hr (Z6e hu hf hs h0 (mk hy) hv)
 ·rename_i ty z i ho;rw[ho];split at hc<;>first|(cases hc; done)|skip
  rename_i fs y hu hy;split at hc<;>first|(cases hc; done)|skip
  rename_i f hf;split at hc<;>first|(cases hc; done)|skip
  rename_i n hs;injection hc with hc; subst hc
  simp only[Ae]at h;split at h<;>first|(cases h; done)|skip
  rename_i cs hcs;split at h<;>first|(cases h; done)|skip
  rename_i v hv;obtain⟨h1,h2⟩:=V6 h;subst h1; subst h2;have FY:=mk hy;rw[hcs]at FY;exact AB.Gx hr (Z6b hu hf hs FY hv)
 ·rename_i ty z zi ho;rw[ho];split at hc<;>first|(cases hc; done)|skip
  ·rename_i e x' i' hu hx hi;split at hc<;>first|(cases hc; done)|skip
   rename_i k hk;injection hc with hc; subst hc
   simp only[Ae]at h;split at h<;>first|(cases h; done)|skip
   ·rename_i b off len i hs hii;obtain⟨ki,hki⟩:=MY (mk hi) hii;split at h<;>first|(cases h; done)|skip
    rename_i k' els hg;split at h<;>first|(cases h; done)|skip
    rename_i hcond;obtain⟨d1,d2⟩:=hcond;subst d1;obtain⟨h1,h2⟩:=V6 h;subst h1; subst h2;exact AB.Gx hr (mH hr hu hk (mk hx) hki (.inl ⟨_,_,_,_,hs,hg,d2,rfl⟩))
   ·rename_i els i hs hii;obtain⟨ki,hki⟩:=MY (mk hi) hii;split at h<;>first|(cases h; done)|skip
    rename_i row hrow;split at h<;>first|(cases h; done)|skip
    rename_i hlen;obtain⟨h1,h2⟩:=V6 h;subst h1; subst h2;exact AB.Gx hr (mH hr hu hk (mk hx) hki (.inr ⟨_,_,hs,hrow,hlen,rfl⟩))
  ·rename_i n e x' i' hu hx hi;split at hc<;>first|(cases hc; done)|skip
   rename_i k hk;injection hc with hc; subst hc
   simp only[Ae]at h;split at h<;>first|(cases h; done)|skip
   rename_i i hii;obtain⟨ki,hki⟩:=MY (mk hi) hii;split at h<;>first|(cases h; done)|skip
   rename_i hlt2;split at h<;>first|(cases h; done)|skip
   rename_i v hv;obtain⟨h1,h2⟩:=V6 h;subst h1; subst h2;exact AB.Gx hr (xu hu hk (mk hx) hki hlt2 hv)
 ·rename_i ty z zi ho;rw[ho];split at hc<;>first|(cases hc; done)|skip
  ·rename_i x' i' hu hx hi;injection hc with hc; subst hc
   simp only[Ae]at h;split at h<;>first|(cases h; done)|skip
   rename_i s i hs hii;obtain⟨ki,hki⟩:=MY (mk hi) hii;split at h<;>first|(cases h; done)|skip
   rename_i c CM;obtain⟨h1,h2⟩:=V6 h;subst h1; subst h2;have hxv:=mk hx;rw[hs]at hxv;exact AB.val (A4 (Zz1 hu hxv hki CM)) hr (.int _ _)
  ·rename_i n e x' i' hu hx hi;split at hc<;>first|(cases hc; done)|skip
   rename_i k sz hk hsz;injection hc with hc; subst hc
   simp only[Ae]at h;split at h<;>first|(cases h; done)|skip
   rename_i cs i hcs hii;obtain⟨ki,hki⟩:=MY (mk hi) hii;split at h<;>first|(cases h; done)|skip
   rename_i hlt2;split at h<;>first|(cases h; done)|skip
   rename_i v hv;obtain⟨h1,h2⟩:=V6 h;subst h1; subst h2;have hxv:=mk hx;rw[hcs]at hxv;exact AB.Gx hr (Z6p hu hk hsz hxv hki hlt2 hv)
 ·rename_i ty z zi ok ho;rw[ho];split at hc<;>first|(cases hc; done)|skip
  rename_i kt e x' i' hu hx hi;split at hc<;>first|(cases hc; done)|skip
  rename_i q zz hq hz;injection hc with hc; subst hc
  simp only[Ae]at h;split at h<;>first|(cases h; done)|skip
  rename_i es hes;split at h<;>first|(cases h; done)|skip
  rename_i r hf;obtain⟨h1,h2⟩:=V6 h;subst h1; subst h2;have hmm:(ev t x'=.Ay∧es=[])∨(∃ b c,ev t x'=.map b∧m.get b=some (.map es c)):=by
   split at hes<;>first|(cases hes; done)|skip
   ·rename_i hy;injection hes with hes
    exact .inl ⟨hy,hes.symm⟩
   ·rename_i b hy;split at hes<;>first|(cases hes; done)|skip
    rename_i es' clock hg;injection hes with hes
    subst hes;exact .inr ⟨b,clock,hy,hg⟩
  ·obtain⟨u,g1,g2⟩:=um (w:=w) (ok:=ok) hr hu hq hz (mk hx) (mk hi) hmm hf;refine AB.Gx hr ⟨u,g1,?_⟩;cases r with
   | none=>exact g2
   | some r=>obtain ⟨i,v,b⟩:=r; exact g2
 ·rename_i ty om ok ov ho;rw[ho];exact tC ht hr ty om ok ov op hc h
 ·rename_i ty om ok ov ho;rw[ho];exact tC ht hr ty om ok ov op hc h
 ·rename_i z i ho;rw[ho];split at hc<;>first|(cases hc; done)|skip
  rename_i y hy;injection hc with hc; subst hc
  simp only[Ae]at h;split at h<;>first|(cases h; done)|skip
  rename_i vs hvs;split at h<;>first|(cases h; done)|skip
  rename_i v hv;obtain⟨h1,h2⟩:=V6 h;subst h1; subst h2;have FY:=mk hy;rw[hvs]at FY;exact AB.Gx hr (Z9l FY hv)
 ·rename_i c ho;have:=Z9d ht hr hn hlt o c ho op hc h;unfold execOp at this;exact this
 ·split at hc<;>first|(cases hc; done)|skip
  simp only[mO]at hc;obtain⟨y,_,rfl⟩:=hc;simp only[Ae]at h;cases h
 ·simp only[mO]at hc;obtain⟨y,_,rfl⟩:=hc;simp only[Ae]at h;cases h
 ·cases hc
end
end Go.AE
end
section
namespace Go.AE
open Go.RowKit
structure AU (ft:List Nat) (m m' m2 EJ:Mem):Prop where
 n1:m'.next=m.next
 n2:EJ.next=m2.next
 Qn:∀ b,b∉ft→m'.get b=m.get b
 Qo:∀ b,b∉ft→EJ.get b=m2.get b
 ins:∀ b,b∈ft→EJ.get b=m'.get b
def FL(ft:List Nat)(m m2:Mem):Prop:=∀ b,b∈ft→m2.get b=m.get b
section
variable {ft:List Nat} {m m2 m':Mem} {id:Nat} {t:List Aa} {v:Aa}
theorem AU.refl(h:FL ft m m2):AU ft m m m2 m2:=⟨rfl,rfl,fun _ _=>rfl,fun _ _=>rfl,h⟩
theorem AU.set{m' EJ:Mem}{b:Nat}{x:Ag}(h:AU ft m m' m2 EJ)(hb:b∈ft):AU ft m (m'.set b x) m2 (EJ.set b x):=by
 refine⟨h.n1,h.n2,fun c hc=>?_,fun c hc=>?_,fun c hc=>?_⟩
 ·have:c≠b:=fun e=>hc (e ▸ hb)
  simp[this,h.Qn c hc]
 ·have:c≠b:=fun e=>hc (e ▸ hb)
  simp[this,h.Qo c hc]
 ·simp only[Mem.Ax];split
  ·rfl
  ·exact h.ins c hc
theorem AU.del{m' EJ:Mem}{b:Nat}(h:AU ft m m' m2 EJ)(hb:b∈ft):AU ft m (m'.del b) m2 (EJ.del b):=by
 refine⟨h.n1,h.n2,fun c hc=>?_,fun c hc=>?_,fun c hc=>?_⟩
 ·have:c≠b:=fun e=>hc (e ▸ hb)
  simp[this,h.Qn c hc]
 ·have:c≠b:=fun e=>hc (e ▸ hb)
  simp[this,h.Qo c hc]
 ·simp only[Mem.Bo];split
  ·rfl
  ·exact h.ins c hc
theorem qa{x:Aa}(h:FL (W2 x) m m2):IB m2 x=IB m x:=by
 cases x<;>simp only[IB]
 rename_i b i j;rw[h b (by simp[W2])]
theorem Z7q{x:Aa}{n:Option Nat}(h:FL (W2 x) m m2):JJ m2 n x=JJ m n x:=by
 simp only[JJ,qa h]
theorem lD{x:Aa}{k:Nat}(h:FL (W2 x) m m2):J7 m2 k x=J7 m k x:=by
 cases x<;>simp only[J7]
 rename_i b off len;rw[h b (by simp[W2])]
theorem nF{x:Aa}{k:Nat}(h:FL (W2 x) m m2):O9 m2 k x=O9 m k x:=by
 cases x<;>simp only[O9]<;>first|rfl|exact lD h
theorem Z61{x y:Aa}{n:Nat}(h:FL ft m m2)(hx:∀ b,b∈W2 x→b∈ft)(hs:Lu m n x y=some m'):∃ EJ,Lu m2 n x y=some EJ∧AU ft m m' m2 EJ:=by
 cases x<;>simp only[Lu]at hs<;>first|(cases hs; done)|skip
 rename_i b i j;have hb:b∈ft:=hx b (by simp[W2])
 simp only[Lu,h b hb];split at hs<;>first|(cases hs; done)|skip
 rename_i b' i' j' cs heq hcs;injection heq with h1 h2 h3
 subst h1; subst h2; subst h3;split at hs<;>first|(cases hs; done)|skip
 rename_i k els hg;split at hs<;>first|(cases hs; done)|skip
 rename_i row hrow;split at hs<;>first|(cases hs; done)|skip
 rename_i hc;injection hs with hs
 subst hs;simp only[h b hb,hg,hrow];rw[iP hc];exact⟨_,rfl,(AU.refl h).set hb⟩
theorem Z7x{k bytes:Nat}{s:Aa}{xs:List (List Aa)}(h:FL ft m m2)(hid:id∈ft)(hx:∀ b,b∈W2 s→b∈ft)(hs:I3 id k bytes m s xs=some (v,m')) :
 ∃ EJ,I3 id k bytes m2 s xs=some (v,EJ)∧AU ft m m' m2 EJ:=by
 cases s<;>simp only[I3]at hs<;>first|(cases hs; done)|skip
 ·split at hs
  ·rename_i h0;simp only[oI,AP]at hs;obtain⟨h1,h2⟩:=hs;subst h1; subst h2;exact⟨m2,by simp[I3,h0],AU.refl h⟩
  ·rename_i h0;split at hs<;>first|(cases hs; done)|skip
   rename_i hc;simp only[oI,AP]at hs;obtain⟨h1,h2⟩:=hs;subst h1; subst h2;exact⟨_,by simp only[I3,h0,if_false,hc]; rfl,(AU.refl h).set hid⟩
 ·split at hs
  ·rename_i h0;simp only[oI,AP]at hs;obtain⟨h1,h2⟩:=hs;subst h1; subst h2;exact⟨m2,by simp[I3,h0],AU.refl h⟩
  ·rename_i h0;split at hs<;>first|(cases hs; done)|skip
   rename_i hc;simp only[oI,AP]at hs;obtain⟨h1,h2⟩:=hs;subst h1; subst h2;exact⟨_,by simp only[I3,h0,if_false,hc]; rfl,(AU.refl h).set hid⟩
 ·rename_i b off len;have hb:b∈ft:=hx b (by simp[W2])
  simp only[I3,h b hb];split at hs<;>first|(cases hs; done)|skip
  rename_i k' els hg;split at hs<;>first|(cases hs; done)|skip
  rename_i hc;rw[iP hc];split at hs
  ·rename_i hc2;rw[iP hc2];simp only[oI,AP]at hs;obtain⟨h1,h2⟩:=hs;subst h1; subst h2;exact⟨_,rfl,(AU.refl h).set hb⟩
  ·rename_i hc2;rw[iN hc2];split at hs<;>first|(cases hs; done)|skip
   rename_i hc3;rw[iP hc3];simp only[oI,AP]at hs;obtain⟨h1,h2⟩:=hs;subst h1; subst h2;exact⟨_,rfl,((AU.refl h).del hb).set hid⟩
theorem LS{o:Option Aa}{m':Mem}(h:FL ft m m2)(hs:(match o with|some v=>some (v,m)|none=>none)=some (v,m')) :
 ∃ EJ,(match o with|some v=>some (v,m2)|none=>none)=some (v,EJ)∧AU ft m m' m2 EJ:=by
 cases o with
 | none=>cases hs
 | some w=>
  simp only[oI,AP]at hs;obtain⟨h1,h2⟩:=hs;subst h1; subst h2;exact⟨m2,rfl,AU.refl h⟩
theorem aY{op:AQ}(hr:FL (L8 t op) m m2)(h:FL (T8 id t op) m m2)(hs:Ae id t m op=some (v,m')):∃ EJ,Ae id t m2 op=some (v,EJ)∧AU (T8 id t op) m m' m2 EJ:=by
 have keep:∀ {o:Option (Aa×Mem)},o=some (v,m')→(∀ w n,o=some (w,n)→n=m∧Ae id t m2 op=some (w,m2)) → ∃ EJ,Ae id t m2 op=some (v,EJ)∧AU (T8 id t op) m m' m2 EJ:=by
  intro o ho hw;obtain⟨h1,h2⟩:=hw v m' ho;subst h1;exact⟨m2,h2,AU.refl h⟩
 cases op with
 | Fp x=>exact keep hs fun w n hh=>by simp only[Ae,oI,AP]at hh ⊢; exact⟨hh.2.symm,hh.1,trivial⟩
 | pick c a b=>
  simp only[Ae]at hs ⊢;split at hs<;>first|(cases hs; done)|skip
  all_goals
   simp only[oI,AP]at hs;obtain⟨h1,h2⟩:=hs;subst h1; subst h2;exact⟨m2,rfl,AU.refl h⟩
 | box x=>
  simp only[Ae]at hs ⊢;split at hs<;>first|(cases hs; done)|skip
  rename_i cs hcs;split at hs<;>first|(cases hs; done)|skip
  rename_i hall;simp only[oI,AP]at hs;obtain⟨h1,h2⟩:=hs;subst h1; subst h2;simp only[hall,if_true];exact⟨_,rfl,(AU.refl h).set (by simp[T8])⟩
 | alloc z=>
  simp only[Ae,oI,AP]at hs ⊢;obtain⟨h1,h2⟩:=hs;subst h1; subst h2;exact⟨_,⟨rfl,rfl⟩,(AU.refl h).set (by simp[T8])⟩
 | build z ps=>
  simp only[Ae]at hs ⊢;split at hs<;>first|(cases hs; done)|skip
  simp only[oI,AP]at hs;obtain⟨h1,h2⟩:=hs;subst h1; subst h2;exact⟨m2,rfl,AU.refl h⟩
 | CB k len z ps=>
  simp only[Ae]at hs ⊢;split at hs<;>first|(cases hs; done)|skip
  simp only[oI,AP]at hs;obtain⟨h1,h2⟩:=hs;subst h1; subst h2;exact⟨_,rfl,(AU.refl h).set (by simp[T8])⟩
 | load n x=>
  simp only[Ae]at hs ⊢;rw[Z7q hr];exact LS h hs
 | store n a x=>
  simp only[Ae]at hs ⊢;split at hs<;>first|(cases hs; done)|skip
  rename_i m3 hst;simp only[oI,AP]at hs;obtain⟨h1,h2⟩:=hs;subst h1; subst h2;obtain⟨m4,h3,h4⟩:=Z61 h (fun _ hb=>hb) hst
  rw[h3];exact⟨m4,rfl,h4⟩
 | Ct x=>
  simp only[Ae]at hs ⊢;split at hs<;>first|(cases hs; done)|skip
  all_goals
   simp only[oI,AP]at hs;obtain⟨h1,h2⟩:=hs;subst h1; subst h2;exact⟨m2,rfl,AU.refl h⟩
 | bin op e x y=>simp only[Ae]at hs ⊢; exact LS h hs
 | un op x=>simp only[Ae]at hs ⊢; exact LS h hs
 | CF k x=>
  simp only[Ae]at hs ⊢;split at hs<;>first|(cases hs; done)|skip
  simp only[oI,AP]at hs;obtain⟨h1,h2⟩:=hs;subst h1; subst h2;exact⟨m2,rfl,AU.refl h⟩
 | DH x=>
  simp only[Ae]at hs ⊢;split at hs<;>first|(cases hs; done)|skip
  simp only[oI,AP]at hs;obtain⟨h1,h2⟩:=hs;subst h1; subst h2;exact⟨m2,rfl,AU.refl h⟩
 | toStr x=>
  simp only[Ae]at hs ⊢;rw[lD hr];split at hs<;>first|(cases hs; done)|skip
  rename_i rows hrows;split at hs<;>first|(cases hs; done)|skip
  rename_i s hss;simp only[oI,AP]at hs;obtain⟨h1,h2⟩:=hs;subst h1; subst h2;exact⟨m2,rfl,AU.refl h⟩
 | Du fn a b=>exact keep hs fun w n hh=>by simp only[Ae,oI,AP]at hh ⊢; exact⟨hh.2.symm,hh.1,trivial⟩
 | mkMap=>
  simp only[Ae,oI,AP]at hs ⊢;obtain⟨h1,h2⟩:=hs;subst h1; subst h2;exact⟨_,⟨rfl,rfl⟩,(AU.refl h).set (by simp[T8])⟩
 | Cf k b z len cap=>
  simp only[Ae]at hs ⊢;split at hs<;>first|(cases hs; done)|skip
  split at hs<;>first|(cases hs; done)|skip
  rename_i hc;simp only[oI,AP]at hs;obtain⟨h1,h2⟩:=hs;subst h1; subst h2;simp only[hc,and_self,if_true];exact⟨_,rfl,(AU.refl h).set (by simp[T8])⟩
 | Ew x lo hi=>
  simp only[Ae]at hs ⊢;split at hs<;>first|(cases hs; done)|skip
  split at hs<;>first|(cases hs; done)|skip
  simp only[oI,AP]at hs;obtain⟨h1,h2⟩:=hs;subst h1; subst h2;exact⟨m2,rfl,AU.refl h⟩
 | DB k x lo hi mx=>
  have ha:FL (W2 (ev t x)) m m2:=hr;simp only[Ae]at hs ⊢;split at hs
  ·split at hs<;>first|(cases hs; done)|skip
   split at hs<;>first|(cases hs; done)|skip
   split at hs<;>first|(cases hs; done)|skip
   rename_i hc;simp only[hc,and_self,if_true];split at hs
   all_goals
    rename_i h0;simp only[oI,AP]at hs;obtain⟨h1,h2⟩:=hs;subst h1; subst h2;simp only[h0,if_true,if_false];exact⟨m2,rfl,AU.refl h⟩
  ·generalize ev t x=y at *;cases y<;>simp only at hs ⊢ <;> first|(cases hs; done)|skip
   case sl b off len=>
    rw[ha b (by simp[W2])]
    split at hs<;>first|(cases hs; done)|skip
    split at hs<;>first|(cases hs; done)|skip
    rename_i hc;simp only[hc,and_self,if_true];split at hs<;>first|(cases hs; done)|skip
    simp only[oI,AP]at hs;obtain⟨h1,h2⟩:=hs;subst h1; subst h2;exact⟨m2,rfl,AU.refl h⟩
   case An els=>
    split at hs<;>first|(cases hs; done)|skip
    rename_i hc;simp only[hc,if_true];split at hs<;>first|(cases hs; done)|skip
    simp only[oI,AP]at hs;obtain⟨h1,h2⟩:=hs;subst h1; subst h2;exact⟨m2,rfl,AU.refl h⟩
   all_goals
    split at hs<;>first|(cases hs; done)|skip
    simp only[oI,AP]at hs;obtain⟨h1,h2⟩:=hs;subst h1; subst h2;exact⟨m2,rfl,AU.refl h⟩
 | BH off x=>simp only[Ae]at hs ⊢; exact LS h hs
 | field off n x=>
  simp only[Ae]at hs ⊢;split at hs<;>first|(cases hs; done)|skip
  exact LS h hs
 | BI k x i=>
  have ha:FL (W2 (ev t x)) m m2:=hr;simp only[Ae]at hs ⊢;generalize ev t x=y at *;split at hs<;>first|(cases hs; done)|skip
  ·rename_i b off len i' hi;rw[ha b (by simp[W2])]
   split at hs<;>first|(cases hs; done)|skip
   split at hs<;>first|(cases hs; done)|skip
   rename_i hc;simp only[hc,and_self,if_true];simp only[oI,AP]at hs;obtain⟨h1,h2⟩:=hs;subst h1; subst h2;exact⟨m2,rfl,AU.refl h⟩
  ·split at hs<;>first|(cases hs; done)|skip
   split at hs<;>first|(cases hs; done)|skip
   rename_i hc;simp only[hc,if_true];simp only[oI,AP]at hs;obtain⟨h1,h2⟩:=hs;subst h1; subst h2;exact⟨m2,rfl,AU.refl h⟩
 | Er n k x i=>
  simp only[Ae]at hs ⊢;split at hs<;>first|(cases hs; done)|skip
  split at hs<;>first|(cases hs; done)|skip
  rename_i hc;simp only[hc,if_true];exact LS h hs
 | DL x i=>
  simp only[Ae]at hs ⊢;split at hs<;>first|(cases hs; done)|skip
  split at hs<;>first|(cases hs; done)|skip
  simp only[oI,AP]at hs;obtain⟨h1,h2⟩:=hs;subst h1; subst h2;exact⟨m2,rfl,AU.refl h⟩
 | DK n k sz x i=>
  simp only[Ae]at hs ⊢;split at hs<;>first|(cases hs; done)|skip
  split at hs<;>first|(cases hs; done)|skip
  rename_i hc;simp only[hc,if_true];exact LS h hs
 | lookup kt z ok x i=>
  have ha:FL (W2 (ev t x)) m m2:=hr;simp only[Ae]at hs ⊢;generalize ev t x=y at *;cases y<;>simp only at hs ⊢ <;> first|(cases hs; done)|skip
  case map b=>
   rw[ha b (by simp[W2])]
   split at hs<;>first|(cases hs; done)|skip
   rename_i es hes;split at hes<;>first|(cases hes; done)|skip
   rename_i hg;injection hes with hes
   subst hes;split at hs<;>first|(cases hs; done)|skip
   rename_i hf;simp only[oI,AP]at hs;obtain⟨h1,h2⟩:=hs;subst h1; subst h2;exact⟨m2,by simp only[hf],AU.refl h⟩
  all_goals
   split at hs<;>first|(cases hs; done)|skip
   rename_i hf;simp only[oI,AP]at hs;obtain⟨h1,h2⟩:=hs;subst h1; subst h2;exact⟨m2,by simp only[hf],AU.refl h⟩
 | BJ kt mp k w=>
  have ha:FL (W2 (ev t mp)) m m2:=h;have hi:∀ b,b∈W2 (ev t mp)→b∈T8 id t (.BJ kt mp k w):=fun _ hb=>hb
  simp only[Ae]at hs ⊢;generalize ev t mp=y at *;cases y<;>simp only at hs ⊢ <;> first|(cases hs; done)|skip
  rename_i b;rw[ha b (by simp[W2])]
  split at hs<;>first|(cases hs; done)|skip
  split at hs<;>first|(cases hs; done)|skip
  all_goals
   simp only[oI,AP]at hs;obtain⟨h1,h2⟩:=hs;subst h1; subst h2;exact⟨_,rfl,(AU.refl h).set (hi b (by simp[W2]))⟩
 | ext x i=>
  simp only[Ae]at hs ⊢;split at hs<;>first|(cases hs; done)|skip
  exact LS h hs
 | append k bytes z s x=>
  have ha:FL (W2 (ev t x)) m m2:=hr;simp only[Ae]at hs ⊢;rw[nF ha];split at hs<;>first|(cases hs; done)|skip
  exact Z7x h (by simp[T8]) (fun b hb=>by simp[T8,hb]) hs
 | copy k d s=>
  have ha:FL (W2 (ev t d)) m m2:=h;have hi:∀ b,b∈W2 (ev t d)→b∈T8 id t (.copy k d s):=fun _ hb=>hb
  have ha2:FL (W2 (ev t s)) m m2:=hr;simp only[Ae]at hs ⊢;rw[nF ha2];generalize ev t d=y at *;split at hs<;>first|(cases hs; done)|skip
  rename_i b off len xs hxs;rw[ha b (by simp[W2])]
  split at hs<;>first|(cases hs; done)|skip
  split at hs<;>first|(cases hs; done)|skip
  rename_i hc;simp only[hc,and_self,if_true];simp only[oI,AP]at hs;obtain⟨h1,h2⟩:=hs;subst h1; subst h2;exact⟨_,rfl,(AU.refl h).set (hi b (by simp[W2]))⟩
 | clear k z x=>
  have ha:FL (W2 (ev t x)) m m2:=h;have hi:∀ b,b∈W2 (ev t x)→b∈T8 id t (.clear k z x):=fun _ hb=>hb
  simp only[Ae]at hs ⊢;generalize ev t x=y at *;cases y<;>simp only at hs ⊢ <;> first|(cases hs; done)|skip
  case sl b off len=>
   rw[ha b (by simp[W2])]
   split at hs<;>first|(cases hs; done)|skip
   split at hs<;>first|(cases hs; done)|skip
   rename_i hc;simp only[hc,and_self,if_true];simp only[oI,AP]at hs;obtain⟨h1,h2⟩:=hs;subst h1; subst h2;exact⟨_,rfl,(AU.refl h).set (hi b (by simp[W2]))⟩
  all_goals
   simp only[oI,AP]at hs;obtain⟨h1,h2⟩:=hs;subst h1; subst h2;exact⟨m2,rfl,AU.refl h⟩
 | DN x=>
  simp only[Ae]at hs ⊢;split at hs<;>first|(cases hs; done)|skip
  simp only[oI,AP]at hs;obtain⟨h1,h2⟩:=hs;subst h1; subst h2;exact⟨m2,rfl,AU.refl h⟩
 | BC x=>
  simp only[Ae]at hs ⊢;split at hs<;>first|(cases hs; done)|skip
  simp only[oI,AP]at hs;obtain⟨h1,h2⟩:=hs;subst h1; subst h2;exact⟨m2,rfl,AU.refl h⟩
 | Cs x=>
  have ha:FL (W2 (ev t x)) m m2:=hr;simp only[Ae]at hs ⊢;generalize ev t x=y at *;cases y<;>simp only at hs ⊢ <;> first|(cases hs; done)|skip
  case map b=>
   rw[ha b (by simp[W2])]
   split at hs<;>first|(cases hs; done)|skip
   simp only[oI,AP]at hs;obtain⟨h1,h2⟩:=hs;subst h1; subst h2;exact⟨m2,rfl,AU.refl h⟩
  all_goals
   simp only[oI,AP]at hs;obtain⟨h1,h2⟩:=hs;subst h1; subst h2;exact⟨m2,rfl,AU.refl h⟩
 | DM n=>exact keep hs fun w n hh=>by simp only[Ae,oI,AP]at hh ⊢; exact⟨hh.2.symm,hh.1,trivial⟩
 | CK mx xs=>
  simp only[Ae]at hs ⊢;split at hs<;>first|(cases hs; done)|skip
  exact LS h hs
 | iface ty x=>exact keep hs fun w n hh=>by simp only[Ae,oI,AP]at hh ⊢; exact⟨hh.2.symm,hh.1,trivial⟩
 | EV kt z mp k=>simp[Ae]at hs
 | Gh mp s w=>simp[Ae]at hs
 | delete kt mp k=>simp[Ae]at hs
 | range x=>simp[Ae]at hs
 | Gm x=>simp[Ae]at hs
 | FI x=>simp[Ae]at hs
 | Cv n k x lo hi=>simp[Ae]at hs
 | Bs k b z s x=>simp[Ae]at hs
 | call f xs=>simp[Ae]at hs
 | CO x=>simp[Ae]at hs
 | dead=>simp[Ae]at hs
end
end Go.AE
end
section
namespace Go.AE
open Go.RowKit
section
variable {P:Program} {W:Ap} {Φ:Ao} {ρ:AD} {w:World} {m m':Mem} {x:Aa} {a:Act} {t:List Aa} {ops:Array Oper}
theorem RL.put{v:Aa}{u:Value}(d:Option Nat)(ht:RL Φ ρ t a.tmps)(hv:R Φ ρ v u):RL Φ ρ (put t d v) (a.put d u).tmps:=by
 cases d with
 | none=>exact ht
 | some d=>
  refine⟨by simp[AE.put,Act.put,ht.1],fun i x y hx hy=>?_⟩
  simp only[AE.put,Act.put]at hx hy;rw[List.getElem?_set]at hx;rw[Array.getElem?_setIfInBounds]at hy;by_cases h:d=i
  ·rw[iP h]at hx hy;subst h;split at hx
   ·split at hy
    ·injection hx with hx; injection hy with hy; subst hx; subst hy; exact hv
    ·cases hy
   ·cases hx
  ·rw[iN h]at hx hy;exact ht.2 i x y hx hy
theorem Iv(d:Option Nat)(u:Value):(a.put d u).defers=a.defers:=by
 cases d<;>rfl
theorem Ly(ht:RL Φ ρ t a.tmps){o:Oper}{g:Option (Nat×Bool)}{b:Bool}(hg:A3 ops o.guard=some g)(h:T9 t g=some b):Region.wanted o (yielded ops a.tmps)=b:=by
 unfold Region.wanted;cases hog:o.guard with
 | none=>
  simp only[hog,A3,oI]at hg;subst hg;simp only[T9,oI]at h;exact h
 | some jw=>
  obtain⟨j,want⟩:=jw;simp only[hog,A3]at hg;split at hg<;>first|(cases hg; done)|skip
  rename_i d hd;injection hg with hg
  subst hg;simp only[yielded,hd,Option.bind_some];simp only[T9]at h;have hR:=ht.get d;split at h<;>first|(cases h; done)|skip
  ·rename_i b0 hb0;injection h with h
   subst h;rw[hb0]at hR;have hv:=IE hR;have:a.tmps[d]? = some (.bool b0):=by
    rcases lG d a.tmps.size with hlt|hge
    ·rw[Array.getElem?_eq_getElem hlt];simpa[Array.getD,hlt]using hv
    ·simp[Array.getD,Nat.not_lt.2 hge,undef]at hv
   rw[this];simp
  ·rename_i hb0;injection h with h
   subst h;rw[hb0]at hR;have hne:∀ b,a.tmps[d]? ≠ some (.bool b):=by
    intro b hb;have:a.tmps.getD d undef=.bool b:=by
     have hlt:=(Array.getElem?_eq_some_iff.1 hb).1;have:=(Array.getElem?_eq_some_iff.1 hb).2;simpa[Array.getD,hlt]using this
    rw[this]at hR;cases hR
   cases hq:a.tmps[d]? with
   | none=>simp
   | some v=>
    cases v<;>first|(exact absurd hq (hne _))|simp
theorem Wx{id:Nat}{K:Act→World→Prop}{Q:Exit→Act→World→Prop}(ht:RL Φ ρ t a.tmps)(hr:Rel W Φ ρ m w)(hn:ρ id=none)(hlt:id<m.next)(o:Oper)
 (h:Ae id t m (Q0 P o)=some (x,m'))
 (hK:∀ Am ρ' u w',Ext Φ ρ Am ρ'→(∀ b,b≠id→ρ b=none→ρ' b=none)→Rel W Am ρ' m' w'→R Am ρ' x u→K (a.put o.dst u) w'):o.wp P a w K Q:=by
 unfold Q0 at h;cases hc:Gu P o with
 | none=>simp[hc,Ae]at h
 | some op=>
  simp only[hc,Option.getD_some]at h;obtain⟨v,w',Am,ρ',hrun,he,hk,hr',hx⟩:=Z9i ht hr hn hlt o op hc h;unfold Oper.wp;rcases hrun with hrun|⟨hrun,rfl⟩
  ·rw[hrun];exact hK _ _ _ _ he hk hr' hx
  ·rw[hrun];exact hK _ _ _ _ he hk hr' hx
theorem cM{id:Nat}{K:Act→World→Prop}{Q:Exit→Act→World→Prop}(ht:RL Φ ρ t a.tmps)(hr:Rel W Φ ρ m w)(hn:ρ id=none)(hlt:id<m.next)(o:Oper){f:Ah}{xs:List Ah}(ho:Q0 P o=.call f xs){g:FuncId}{args:List Aa}(hg:callee t f xs=some (g,args))
 {KA:Aa→Mem→Prop} (h:Az P g args m [id] KA)
 (hK:∀ Am ρ' x m' u w',Ext Φ ρ Am ρ'→(∀ b,b<m.next→b≠id→ρ b=none→ρ' b=none)→Rel W Am ρ' m' w'→R Am ρ' x u→m.next≤m'.next→KA x m'→K (a.put o.dst u) w'):o.wp P a w K Q:=by
 have Aw:∃ c of,o.op=.call c∧c.callee=.value of∧Y7 of=some f∧A5 c.args.toList=some xs:=by
  unfold Q0 at ho;cases hc:Gu P o with
  | none=>simp[hc]at ho
  | some op=>
   simp only[hc,Option.getD_some]at ho;subst ho;unfold Gu at hc;split at hc<;>first|(cases hc; done)|(simp only[mO]at hc; obtain⟨_,_,hc⟩:=hc; cases hc; done)|skip
   case h_26 c hoc=>
    unfold Ix at hc;split at hc
    ·rename_i of Bf;split at hc
     ·rename_i g' xs' hg' hxs';injection hc with hc
      injection hc with h1 h2
      subst h1; subst h2;exact⟨c,of,hoc,Bf,hg',hxs'⟩
     ·cases hc
    all_goals (repeat' (split at hc<;>first|(cases hc; done)|skip))
    all_goals (first|(cases hc; done)|(simp only[mO]at hc; obtain⟨_,_,hc⟩:=hc; cases hc; done)|skip)
   all_goals (repeat' (split at hc<;>first|(cases hc; done)|skip))
   all_goals (first|(cases hc; done)|(simp only[mO]at hc; obtain⟨_,_,hc⟩:=hc; cases hc; done)|skip)
 obtain⟨c,of,hop,Bf,hof,hxs⟩:=Aw;have hfv:=U8 ht hof;unfold callee at hg;split at hg<;>first|(cases hg; done)|skip
 rename_i g' first cap hev;injection hg with hg
 injection hg with h1 h2
 subst h1; subst h2;rw[hev]at hfv;generalize hvv:a.eval of=vv at hfv;cases hfv with
 | func _ _ _ vf vc hf hc hfr Dx=>
  have hargs:=RZ ht hxs;have hRL:RL Φ ρ (first++xs.map (ev t)++cap) (vf++c.args.map a.eval++vc):=by
   refine⟨by simp only[Array.size_append,lA]; rw[hf,hc,hargs.1],fun i y v hy hv=>?_⟩
   have hl2:(vf++c.args.map a.eval).size=(first++xs.map (ev t)).length:=by simp only[Array.size_append,lA]; rw[hf,hargs.1]
   rw[List.getElem?_append]at hy;rw[Array.getElem?_append]at hv;rw[hl2]at hv;split at hy
   ·rename_i hlt';rw[iP hlt']at hv;rw[List.getElem?_append]at hy;rw[Array.getElem?_append,hf]at hv;split at hy
    ·rename_i h3;rw[iP h3]at hv;exact hfr i y v hy hv
    ·rename_i h3;rw[iN h3]at hv;exact hargs.2 _ y v hy hv
   ·rename_i hge;rw[iN hge]at hv;exact Dx _ y v hy hv
  have hC:=h.2 W Φ ρ _ w hr hRL (fun b hb=>by simp only[List.mem_singleton]at hb; subst hb; exact⟨hn,hlt⟩)
  obtain⟨fn,hfn,hname,hbody⟩:=h.1;unfold Oper.wp;have hrun:(execOp a.eval o).run P w=.ok (.enter g' (vf++c.args.map a.eval++vc)) w:=by
   unfold execOp;rw[hop];simp only[resolve,Bf,hvv,Deferred.ofValue,Sem.run_bind,Sem.run_pure,Result.andThen_ok,invoke,callFunc];cases hb:fn.body with
   | none=>rw[hb]at hbody; cases hbody
   | some b=>simp[program,Sem.run,hfn,hb]; simpa using hname
  rw[hrun];refine hC.mono fun e w' he=>?_
  obtain⟨v,r,m',Am,ρ',rfl,h1,h2,h3,h4,h5,h6⟩:=he;exact hK Am ρ' r m' v w' h1 (fun b hb hne=>h2 b hb (by simpa using hne)) h3 h4 h5 h6
theorem Tk(P:Program)(ops:Array Oper):∀ (l:List Oper) (as:List Af),I1 P ops l=some as →
 as.length=l.length ∧ ∀(i:Nat) (o:Oper) (b:Af),l[i]? = some o→as[i]? = some b→b.dst=o.dst∧b.op=Q0 P o∧A3 ops o.guard=some b.guard
 | [],as,h=>by
  simp only[I1,oI]at h;subst h;exact⟨rfl,fun i o b hi=>by simp at hi⟩
 | o :: l,as,h=>by
  simp only[I1]at h;cases hg:A3 ops o.guard with
  | none=>simp[hg]at h
  | some g=>
   cases hr:I1 P ops l with
   | none=>simp[hg,hr]at h
   | some as'=>
    simp only[hg,hr,oI]at h;subst h;obtain⟨h1,h2⟩:=Tk P ops l as' hr;refine⟨by simp[h1],fun i o' b hi hb=>?_⟩
    cases i with
    | zero=>
     simp only[List.getElem?_cons_zero,oI]at hi hb;subst hi; subst hb;exact⟨rfl,rfl,hg⟩
    | succ i=>
     simp only[List.getElem?_cons_succ]at hi hb;exact h2 i o' b hi hb
theorem rN{base i:Nat}{b:Af}{rest:List Af}{K:AO→Prop}(h:N7 P base (b :: rest) i K t m) :
 (T9 t b.guard=some false∧N7 P base rest (i+1) K (put t b.dst Aj) m) ∨
 (T9 t b.guard=some true∧((∃ f xs g args,b.op=.call f xs∧callee t f xs=some (g,args)∧Az P g args m [base+i] fun v m'=>N7 P base rest (i+1) K (put t b.dst v) m') ∨
   (∃ v m',Ae (base+i) t m b.op=some (v,m')∧N7 P base rest (i+1) K (put t b.dst v) m'))):=by
 simp only[N7]at h;cases hw:T9 t b.guard with
 | none=>simp[hw]at h
 | some q=>
  cases q with
  | false=>simp only[hw]at h; exact .inl ⟨rfl,h⟩
  | true=>
   simp only[hw]at h;refine .inr ⟨rfl,?_⟩;have other:∀ op,b.op=op→(match Ae (base+i) t m op with|some (v,m')=>N7 P base rest (i+1) K (put t b.dst v) m'|none=>False) →
    ∃ v m',Ae (base+i) t m op=some (v,m')∧N7 P base rest (i+1) K (put t b.dst v) m':=by
    intro op _ hh;cases hs:Ae (base+i) t m op with
    | none=>simp[hs]at hh
    | some r=>obtain ⟨v,m'⟩:=r; simp only[hs]at hh; exact⟨v,m',rfl,hh⟩
   cases hop:b.op with
   | call f xs=>
    simp only[hop]at h;cases hc:callee t f xs with
    | none=>simp[hc]at h
    | some r=>
     obtain⟨g,args⟩:=r;simp only[hc]at h;exact .inl ⟨f,xs,g,args,rfl,hc,h⟩
   | _=>rw[hop]at h; exact .inr (other _ hop h)
theorem YE{id:Nat}{op:AQ}{v:Aa}(h:Ae id t m op=some (v,m')):m'.next=m.next:=by
 obtain⟨_,_,h2⟩:=aY (m2:=m) (fun _ _=>rfl) (fun _ _=>rfl) h
 exact h2.n1
theorem VF(W:Ap)(base:Nat)(n0:Nat)(ops:Array Oper)(Q:Exit→AO→Prop)(Ed:Ao)(Da:AD)(hb:n0≤base) :
 ∀(l:List Oper) (as:List Af) (i:Nat) (t:List Aa) (m:Mem) (Φ:Ao) (ρ:AD) (a:Act) (w:World),
  as.length=l.length→(∀(j:Nat) (o:Oper) (b:Af),l[j]? = some o→as[j]? = some b→b.dst=o.dst∧b.op=Q0 P o∧A3 ops o.guard=some b.guard) →
  N7 P base as i (Q .normal) t m→Rel W Φ ρ m w→RL Φ ρ t a.tmps→a.defers=[]→Ext Ed Da Φ ρ→Bl n0 Da ρ→(∀ j,i≤j→j<i+as.length→ρ (base+j)=none)→base+i+as.length≤m.next→n0≤m.next →
  wpList P ops (lift W Ed Da n0 Q) l a w
 | [],[],i,t,m,Φ,ρ,a,w,_,_,h,hr,ht,hd,he,hk,_,_,hn=>⟨⟨t,m⟩,Φ,ρ,he,hk,hn,hr,ht,hd,h⟩
 | [],_ :: _,_,_,_,_,_,_,_,hl,_,_,_,_,_,_,_,_,_,_=>by simp at hl
 | _ :: _,[],_,_,_,_,_,_,_,hl,_,_,_,_,_,_,_,_,_,_=>by simp at hl
 | o :: l,b :: as,i,t,m,Φ,ρ,a,w,hl,hg,h,hr,ht,hd,he,hk,hfree,Dz,hn=>by
  obtain⟨e1,e2,e3⟩:=hg 0 o b rfl rfl;have hg':∀ (j:Nat) (o:Oper) (b:Af),l[j]? = some o→as[j]? = some b→b.dst=o.dst∧b.op=Q0 P o∧A3 ops o.guard=some b.guard:=fun j o b ho hb=>hg (j+1) o b (by simpa using ho) (by simpa using hb)
  have hl':as.length=l.length:=by simpa using hl
  simp only[lC]at Dz hfree;have hlt:base+i<m.next:=by omega
  have hni:ρ (base+i)=none:=hfree i (lR _) (by omega)
  unfold wpList;rcases rN h with⟨hw,h'⟩|⟨hw,h'⟩
  ·rw[Ly ht e3 hw,iN (by simp)]
   rw[← e1];exact VF W base n0 ops Q Ed Da hb l as (i+1) _ m Φ ρ _ w hl' hg' h' hr (ht.put b.dst (LP Φ ρ)) (by rw[Iv]; exact hd) he hk (fun j h1 h2=>hfree j (by omega) (by omega)) (by omega) hn
  ·rw[Ly ht e3 hw,iP rfl];refine .inl ?_;rcases h' with⟨f,xs,g,args,hop,Bf,hA⟩|⟨v,m',hs,h'⟩
   ·refine cM ht hr hni hlt o (by rw[← e2]; exact hop) Bf hA fun Am ρ' x m' u w' hE hfr hr' hx hnx' hW=>?_
    rw[← e1];exact VF W base n0 ops Q Ed Da hb l as (i+1) _ m' Am ρ' _ w' hl' hg' hW hr' ((ht.ext hE).put b.dst hx) (by rw[Iv]; exact hd) (he.trans hE) (fun c hc h0=>hfr c (by omega) (by omega) (hk c hc h0))
     (fun j h1 h2=>hfr _ (by omega) (by omega) (hfree j (by omega) (by omega))) (by omega) (by omega)
   ·have hnx':=YE hs;rw[e2]at hs;refine Wx ht hr hni hlt o hs fun Am ρ' u w' hE hfr hr' hx=>?_
    rw[← e1];exact VF W base n0 ops Q Ed Da hb l as (i+1) _ m' Am ρ' _ w' hl' hg' h' hr' ((ht.ext hE).put b.dst hx) (by rw[Iv]; exact hd) (he.trans hE) (fun c hc h0=>hfr c (by omega) (hk c hc h0))
     (fun j h1 h2=>hfr _ (by omega) (hfree j (by omega) (by omega))) (by rw[hnx']; omega) (by rw[hnx']; exact hn)
theorem Rel.at_{n:Nat}(h:Rel W Φ ρ m w)(hn:m.next≤n):Rel W Φ ρ (m.at n) w:=
 ⟨h.base,h.AX,h.live,h.inj,fun b l hb=>by have:=h.fresh b l hb; simp only[Mem.FV]; omega,h.By⟩
theorem rC{id:Nat}{Q:Exit→AO→Prop}{σ:AO}(h:Cy P (Y5 P (.region id ops false)) Q σ):Ip P (.region id ops false) Q σ:=by
 intro W Φ ρ a w hr ht hd;simp only[Y5]at h;cases hc:I1 P ops ops.toList with
 | none=>simp[hc,Cy]at h
 | some as=>
  simp only[hc,Cy]at h;obtain⟨h1,h2⟩:=Tk P ops _ _ hc;refine wp_region_list (VF W σ.m.next σ.m.next ops Q Φ ρ (lR _) ops.toList as 0 σ.t _ Φ ρ a w h1 h2 h (hr.at_ (by omega)) ht hd (.refl _ _) (.refl _ _) ?_ (by simp) (by simp))
  intro j _ _;cases hq:ρ (σ.m.next+j)with
  | none=>rfl
  | some l=>have:=hr.fresh _ _ hq; omega
end
end Go.AE
end
section
namespace Go.AE
open Go.RowKit
theorem WO{t t2:List Aa}{xs:List Ah}(h:∀ x,x∈xs→ev t x=ev t2 x):xs.map (ev t)=xs.map (ev t2):=List.map_congr_left h
theorem Vz{t t2:List Aa}{d:Nat}{o:Option Ah}(h:∀ x,x∈o.toList→ev t x=ev t2 x):H1 t d o=H1 t2 d o:=by
 cases o with
 | none=>rfl
 | some x=>simp only[H1]; rw[h x (by simp)]
theorem oE{t t2:List Aa}{n mx:Nat}{lo hi:Option Ah}(h1:∀ x,x∈lo.toList→ev t x=ev t2 x)(h2:∀ x,x∈hi.toList→ev t x=ev t2 x):M9 t n mx lo hi=M9 t2 n mx lo hi:=by
 simp only[M9,Vz h1,Vz h2]
theorem uX{id:Nat}{t:List Aa}{op:AQ}(h:op.kind=0):T8 id t op=[]∧L8 t op=[]:=by
 cases op<;>first|exact⟨rfl,rfl⟩|(exfalso; revert h; simp[AQ.kind]; done)
theorem ry{id:Nat}{t:List Aa}{op:AQ}(h:op.kind≤1):T8 id t op=[]:=by
 cases op<;>first|rfl|(exfalso; revert h; simp[AQ.kind]; done)
theorem uh{id:Nat}{t t2:List Aa}{m:Mem}{op:AQ}(h:∀ x,x∈op.AJ→ev t x=ev t2 x):Ae id t m op=Ae id t2 m op:=by
 cases op with
 | build z ps=>
  have:(ps.map fun p=>(p.1,p.2.1,ev t p.2.2))=ps.map fun p=>(p.1,p.2.1,ev t2 p.2.2):=List.map_congr_left fun p hp=>by rw[h p.2.2 (mM.2 ⟨p,hp,rfl⟩)]
  simp only[Ae,this]
 | CB k len z ps=>
  have:(ps.map fun p=>(p.1,ev t p.2))=ps.map fun p=>(p.1,ev t2 p.2):=List.map_congr_left fun p hp=>by rw[h p.2 (mM.2 ⟨p,hp,rfl⟩)]
  simp only[Ae,this]
 | Du fn a b=>
  simp only[Ae,WO (fun x hx=>h x (List.mem_append_left _ hx)),WO (fun x hx=>h x (List.mem_append_right _ hx))]
 | CK mx xs=>
  cases xs with
  | nil=>rfl
  | cons x r=>
   simp only[Ae];rw[h x (by simp[AQ.AJ]),WO (fun y hy=>h y (by simp[AQ.AJ,hy]))]
 | Ew x lo hi=>
  have h1:∀ y,y∈lo.toList→ev t y=ev t2 y:=fun y hy=>h y (by simp only[AQ.AJ,mC,List.mem_append]; exact .inr (.inl hy))
  have h2:∀ y,y∈hi.toList→ev t y=ev t2 y:=fun y hy=>h y (by simp only[AQ.AJ,mC,List.mem_append]; exact .inr (.inr hy))
  simp only[Ae,h x (by simp[AQ.AJ]),oE h1 h2]
 | DB k x lo hi mx=>
  have h1:∀ y,y∈lo.toList→ev t y=ev t2 y:=fun y hy=>h y (by simp only[AQ.AJ,mC,List.mem_append]; exact .inr (.inl (.inl hy)))
  have h2:∀ y,y∈hi.toList→ev t y=ev t2 y:=fun y hy=>h y (by simp only[AQ.AJ,mC,List.mem_append]; exact .inr (.inl (.inr hy)))
  have h3:∀ y,y∈mx.toList→ev t y=ev t2 y:=fun y hy=>h y (by simp only[AQ.AJ,mC,List.mem_append]; exact .inr (.inr hy))
  cases mx with
  | none=>
   simp only[Ae,h x (by simp[AQ.AJ])]
   cases ev t2 x<;>simp only[oE h1 h2]
  | some z=>
   simp only[Ae,h x (by simp[AQ.AJ]),Vz h1,Vz (o:=some z) (fun y hy=>h3 y hy)]
   cases hi with
   | none=>cases V9 (ev t2 x)<;>cases H1 t2 0 (some z)<;>cases H1 t2 0 lo<;>rfl
   | some q=>
    have hq:=h2 q (by simp)
    cases V9 (ev t2 x)<;>cases H1 t2 0 (some z)<;>cases H1 t2 0 lo<;>simp only[hq]
 | Cv n k x lo hi=>rfl
 | call f xs=>rfl
 | alloc z=>rfl
 | mkMap=>rfl
 | DM n=>rfl
 | CO x=>rfl
 | dead=>rfl
 | EV kt z a b=>rfl
 | Gh a b c=>rfl
 | delete kt a b=>rfl
 | range a=>rfl
 | Gm a=>rfl
 | FI a=>rfl
 | Bs k b z s x=>rfl
 | Fp x=>simp only[Ae,h x (by simp[AQ.AJ])]
 | box x=>simp only[Ae,h x (by simp[AQ.AJ])]
 | load n x=>simp only[Ae,h x (by simp[AQ.AJ])]
 | Ct x=>simp only[Ae,h x (by simp[AQ.AJ])]
 | un op x=>simp only[Ae,h x (by simp[AQ.AJ])]
 | CF k x=>simp only[Ae,h x (by simp[AQ.AJ])]
 | DH x=>simp only[Ae,h x (by simp[AQ.AJ])]
 | toStr x=>simp only[Ae,h x (by simp[AQ.AJ])]
 | BH off x=>simp only[Ae,h x (by simp[AQ.AJ])]
 | field off n x=>simp only[Ae,h x (by simp[AQ.AJ])]
 | ext x i=>simp only[Ae,h x (by simp[AQ.AJ])]
 | DN x=>simp only[Ae,h x (by simp[AQ.AJ])]
 | BC x=>simp only[Ae,h x (by simp[AQ.AJ])]
 | Cs x=>simp only[Ae,h x (by simp[AQ.AJ])]
 | iface ty x=>simp only[Ae,h x (by simp[AQ.AJ])]
 | clear k z x=>simp only[Ae,h x (by simp[AQ.AJ])]
 | pick c a b=>simp only[Ae,h c (by simp[AQ.AJ]),h a (by simp[AQ.AJ]),h b (by simp[AQ.AJ])]
 | store n a x=>simp only[Ae,h a (by simp[AQ.AJ]),h x (by simp[AQ.AJ])]
 | bin op e a x=>simp only[Ae,h a (by simp[AQ.AJ]),h x (by simp[AQ.AJ])]
 | Cf k b z a x=>simp only[Ae,h a (by simp[AQ.AJ]),h x (by simp[AQ.AJ])]
 | BI k a x=>simp only[Ae,h a (by simp[AQ.AJ]),h x (by simp[AQ.AJ])]
 | Er n k a x=>simp only[Ae,h a (by simp[AQ.AJ]),h x (by simp[AQ.AJ])]
 | DL a x=>simp only[Ae,h a (by simp[AQ.AJ]),h x (by simp[AQ.AJ])]
 | DK n k sz a x=>simp only[Ae,h a (by simp[AQ.AJ]),h x (by simp[AQ.AJ])]
 | lookup kt z ok a x=>simp only[Ae,h a (by simp[AQ.AJ]),h x (by simp[AQ.AJ])]
 | append k b z a x=>simp only[Ae,h a (by simp[AQ.AJ]),h x (by simp[AQ.AJ])]
 | copy k a x=>simp only[Ae,h a (by simp[AQ.AJ]),h x (by simp[AQ.AJ])]
 | BJ kt a b c=>simp only[Ae,h a (by simp[AQ.AJ]),h b (by simp[AQ.AJ]),h c (by simp[AQ.AJ])]
theorem Z3w{t t2:List Aa}{f:Ah}{xs:List Ah}(h:∀ x,x∈(AQ.call f xs).AJ→ev t x=ev t2 x):callee t f xs=callee t2 f xs:=by
 have h1:xs.map (ev t)=xs.map (ev t2):=WO fun y hy=>h y (by simp only[AQ.AJ,mC]; exact .inr hy)
 simp only[callee,h f (by simp[AQ.AJ]),h1]
def B3(p:Nat→Bool):Nat→Option Nat
 | 0=>none
 | n+1=>if p n then some n else B3 p n
theorem Nc{p q:Nat→Bool}:∀ (n:Nat),(∀ j,j<n→p j=q j)→B3 p n=B3 q n
 | 0,_=>rfl
 | n+1,h=>by
  simp only[B3];rw[h n (Nat.lt_succ_self n),Nc n fun j hj=>h j (Nat.lt_succ_of_lt hj)]
theorem rY{p:Nat→Bool}{i:Nat}(hi:p i=true):∀ (n:Nat),i<n→(∀ j,i<j→j<n→p j=false)→B3 p n=some i
 | 0,h,_=>absurd h (Nat.not_lt_zero _)
 | n+1,h,hj=>by
  simp only[B3];by_cases hin:i=n
  ·subst hin; rw[iP hi]
  ·rw[hj n (by omega) (Nat.lt_succ_self n)]
   simp only[bF,if_false];exact rY hi n (by omega) fun j h1 h2=>hj j h1 (by omega)
end Go.AE
end
section
namespace Go.AE
open Go.RowKit
theorem tf{P:Program}{f:FuncId}{args:List Aa}{id:Nat}{x:List Nat}{m m3:Mem}{v:Aa}(hid:id∉x)(Vh:∀ c,c∈x→m3.get c=none)(hn:m.next≤m3.next)
 (h:Az P f args (m.less x) [id] fun v' m''=>v'=v∧m''=m3) {m2:Mem} (hag:∀ c,c∉x→m2.get c=m.get c) (Dz:m2.next=m.next) :
 Az P f args m2 [id] fun v' m''=>v'=v∧m''=⟨fun c=>if c∈x then m2.get c else m3.get c,m3.next⟩:=by
 refine⟨h.1,fun W Φ ρ vs w hr ha Ch=>?_⟩
 have hfr:∀ B,(∃ c l,c∈x∧(∃ y,m2.get c=some y)∧ρ c=some l∧l.blk=B) ∨ ¬(∃ c l,c∈x∧(∃ y,m2.get c=some y)∧ρ c=some l∧l.blk=B):=fun B=>Classical.em _
 have hg:∃ g:Nat→Option Obj,∀ B,((∃ c l,c∈x∧(∃ y,m2.get c=some y)∧ρ c=some l∧l.blk=B)→g B=w.heap[B]?)∧(¬(∃ c l,c∈x∧(∃ y,m2.get c=some y)∧ρ c=some l∧l.blk=B)→g B=W.g B):=by
  refine⟨fun B=>@ite _ (∃ c l,c∈x∧(∃ y,m2.get c=some y)∧ρ c=some l∧l.blk=B) (Classical.propDecidable _) (w.heap[B]?) (W.g B),fun B=>⟨fun h=>?_,fun h=>?_⟩⟩
  ·simp only[h,if_true]
  ·simp only[h,if_false]
 obtain⟨g,hg⟩:=hg
 let W':Ap:=⟨W.w,g,Φ⟩
 have hfree2:∀ B,W'.Cd B→W.Cd B:=by
  intro B hB;refine⟨hB.1,?_⟩;rcases hfr B with h1|h1
  ·obtain⟨c,l,hc,⟨y,hy⟩,hl,hlB⟩:=h1;obtain⟨l',o,g1,g2,_⟩:=hr.live c y hy;rw[hl]at g1; injection g1 with g1; subst g1
   rw[← hlB]; exact g2.2
  ·have:=(hg B).2 h1;have h2:g B=none:=hB.2;rw[this]at h2; exact h2
 have hprot:∀ B o,g B=some o→w.heap[B]? = some o:=by
  intro B o hB;rcases hfr B with h1|h1
  ·rw[(hg B).1 h1]at hB; exact hB
  ·rw[(hg B).2 h1]at hB; exact hr.base.BU B o hB
 have hr1:Rel W' Φ ρ (m.less x) w:=by
  refine⟨⟨hr.base.below,hprot⟩,hr.AX,fun b y hy=>?_,fun b b' y y' l l' h1 h2=>?_,fun b l hb=>by have:=hr.fresh b l hb; rw[Dz]at this; exact this,fun B c hB=>.inl hB⟩
  ·simp only[Mem.less]at hy;by_cases hbx:b∈x
   ·rw[iP hbx]at hy; cases hy
   ·rw[iN hbx,← hag b hbx]at hy;obtain⟨l,o,g1,g2,g3,g4,g5⟩:=hr.live b y hy;refine⟨l,o,g1,⟨g2.1,?_⟩,g3,g4,g5⟩;rcases hfr l.blk with h1|h1
    ·obtain⟨c,l',hc,⟨y',hy'⟩,hl,hlB⟩:=h1;have:=hr.inj c b y' y l' l hy' hy hl g1 hlB;exact absurd (this ▸ hc) hbx
    ·show g l.blk=none;rw[(hg _).2 h1]; exact g2.2
  ·simp only[Mem.less]at h1 h2;by_cases hbx:b∈x
   ·rw[iP hbx]at h1; cases h1
   ·by_cases hbx':b'∈x
    ·rw[iP hbx']at h2; cases h2
    ·rw[iN hbx,← hag b hbx]at h1;rw[iN hbx',← hag b' hbx']at h2;exact hr.inj b b' y y' l l' h1 h2
 refine(h.2 W' Φ ρ vs w hr1 ha (fun b hb=>⟨(Ch b hb).1,by have:=(Ch b hb).2; rw[Dz]at this; exact this⟩)).mono fun e w' he=>?_
 obtain⟨u,r,m4,Am,ρ',e1,hE,hk,hr',hR,hn',hK1,hK2⟩:=he;subst hK2;refine⟨u,r,_,Am,ρ',e1,hE,fun b hb=>hk b (by rw[Dz]at hb; exact hb),?_,hR,by rw[Dz]; exact hn,hK1,rfl⟩
 have hframed:∀ c l y,c∈x→m2.get c=some y→ρ c=some l→g l.blk=w.heap[l.blk]?:=fun c l y hc hy hl=>(hg _).1 ⟨c,l,hc,⟨y,hy⟩,hl,rfl⟩
 have Ds:∀ c y,c∈x→m2.get c=some y → ∃ l o,ρ' c=some l∧ρ c=some l∧W.Cd l.blk∧g l.blk=some o∧Am l.blk=none∧w'.heap[l.blk]? = some o∧BR Am ρ' y l o:=by
  intro c y hc hy;obtain⟨l,o,g1,g2,g3,g4,g5⟩:=hr.live c y hy;have Dd:g l.blk=some o:=by rw[hframed c l y hc hy g1]; exact g4
  refine⟨l,o,hE.Fy _ _ g1,g1,g2,Dd,?_,hr'.base.BU _ _ Dd,g5.ext hE⟩;cases hp:Am l.blk with
  | none=>rfl
  | some cc=>
   rcases hr'.By _ _ hp with h1|h1
   ·have h1':Φ l.blk=some cc:=h1;rw[g3]at h1'; cases h1'
   ·have:g l.blk=none:=h1.2;rw[Dd]at this; cases this
 refine⟨⟨hr'.base.below,fun B o hB=>hr'.base.BU B o ?_⟩,hr'.AX,fun b y hy=>?_,fun b b' y y' l l' h1 h2 k1 k2 he=>?_,hr'.fresh,fun B c hB=>?_⟩
 ·rcases hfr B with h1|h1
  ·show g B=some o;rw[(hg B).1 h1]; exact hr.base.BU B o hB
  ·show g B=some o;rw[(hg B).2 h1]; exact hB
 ·simp only at hy;by_cases hbx:b∈x
  ·rw[iP hbx]at hy;obtain⟨l,o,q1,_,q3,_,q5,q6,q7⟩:=Ds b y hbx hy;exact⟨l,o,q1,q3,q5,q6,q7⟩
  ·rw[iN hbx]at hy;obtain⟨l,o,g1,g2,g3,g4,g5⟩:=hr'.live b y hy;exact⟨l,o,g1,hfree2 _ g2,g3,g4,g5⟩
 ·simp only at h1 h2;by_cases hbx:b∈x
  ·rw[iP hbx]at h1;obtain⟨l1,o1,q1,q2,_,q4,_⟩:=Ds b y hbx h1;rw[k1]at q1; injection q1 with q1; subst q1
   by_cases hbx':b'∈x
   ·rw[iP hbx']at h2;obtain⟨l2,o2,p1,p2,_,p4,_⟩:=Ds b' y' hbx' h2;rw[k2]at p1; injection p1 with p1; subst p1
    exact hr.inj b b' y y' l l' h1 h2 q2 p2 he
   ·rw[iN hbx']at h2;obtain⟨l2,o2,p1,p2,_,p4,_⟩:=hr'.live b' y' h2;rw[k2]at p1; injection p1 with p1; subst p1
    have:g l'.blk=none:=p2.2;rw[← he,q4]at this; cases this
  ·rw[iN hbx]at h1;obtain⟨l1,o1,q1,q2,_,q4,_⟩:=hr'.live b y h1;rw[k1]at q1; injection q1 with q1; subst q1
   by_cases hbx':b'∈x
   ·rw[iP hbx']at h2;obtain⟨l2,o2,p1,p2,_,p4,_⟩:=Ds b' y' hbx' h2;rw[k2]at p1; injection p1 with p1; subst p1
    have:g l.blk=none:=q2.2;rw[he,p4]at this; cases this
   ·rw[iN hbx']at h2;exact hr'.inj b b' y y' l l' h1 h2 k1 k2 he
 ·rcases hr'.By B c hB with h1|h1
  ·exact hr.By B c h1
  ·exact .inr (hfree2 B h1)
end Go.AE
end
