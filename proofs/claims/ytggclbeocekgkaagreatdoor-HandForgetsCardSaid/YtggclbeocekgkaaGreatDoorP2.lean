/- Part 2 of the proof: AeA, AeB. -/
import Derived.Test.YtggclbeocekgkaaGreatDoorP1
import Derived.WalkKit
set_option linter.all false
section
namespace Go.AE
open Go.RowKit
inductive Aa where
 | bool (b:Bool)
 | int (k:IntKind) (n:Int)
 | str (s:List UInt8)
 | ptr (b i j:Nat)
 | AW (els:List (List Aa)) (i j:Nat)
 | nilPtr
 | Ae
 | emp
 | sl (b off len:Nat)
 | Aj (els:List (List Aa))
 | map (b:Nat)
 | Av
 | func (fn:Fn) (first captured:List Aa)
 | nilFunc
 | FH (b:Nat)
 | atLeast (n:Nat)
 | iface (t:TypeId) (v:Aa)
 | nilIface
 | agg (cs:List Aa)
 | tuple (vs:List Aa)
 | bot
 deriving Inhabited
inductive Ai where
 | cells (k:Nat) (els:List (List Aa))
 | map (es:List (Aa×Aa×Nat)) (clock:Nat)
 | Cg (s:List UInt8) (pos:Nat)
 | AJ (m:Option Nat) (since:Nat) (seen:List Nat) (stepped:Nat)
 deriving Inhabited
structure Mem where
 get:Nat→Option Ai
 next:Nat
@[ext] theorem Mem.ext'{m m' : Mem}(h1 : ∀ b, m.get b = m'.get b)(h2 : m.next = m'.next) : m = m' := by
 cases m; cases m'; simp only[Mem.mk.injEq]; exact⟨funext h1,h2⟩
def Mem.set(m:Mem)(b:Nat)(x:Ai):Mem:={ m with get:=fun c=>if c=b then some x else m.get c }
def Mem.del(m:Mem)(b:Nat):Mem:={ m with get:=fun c=>if c=b then none else m.get c }
def Mem.at(m:Mem)(n:Nat):Mem:={ m with next:=n }
@[simp] theorem Mem.AH(m : Mem)(b c : Nat)(x : Ai) : (m.set b x).get c = if c = b then some x else m.get c := rfl
@[simp] theorem Mem.BB(m : Mem)(b c : Nat) : (m.del b).get c = if c = b then none else m.get c := rfl
@[simp] theorem Mem.get_at(m : Mem)(n c : Nat) : (m.at n).get c = m.get c := rfl
@[simp] theorem Mem.UT(m : Mem)(b : Nat)(x : Ai) : (m.set b x).next = m.next := rfl
@[simp] theorem Mem.FA(m : Mem)(b : Nat) : (m.del b).next = m.next := rfl
@[simp] theorem Mem.Mv(m : Mem)(n : Nat) : (m.at n).next = n := rfl
@[simp] theorem Mem.qa(m : Mem)(n k : Nat) : (m.at n).at k = m.at k := rfl
@[simp] theorem Mem.Xp(m : Mem) : m.at m.next = m := rfl
abbrev Ao:=Nat→Option (Array Value)
structure Loc where
 blk:Nat
 sh:Nat
 k:Nat
 n:Nat
abbrev AD:=Nat→Option Loc
inductive R (Φ:Ao) (ρ:AD):Aa→Value→Prop where
 | bool (b:Bool):R Φ ρ (.bool b) (.bool b)
 | int (k:IntKind) (n:Int):R Φ ρ (.int k n) (.int k n)
 | str (s:List UInt8):R Φ ρ (.str s) (.string ⟨⟨s⟩⟩)
 | ptr (b i j:Nat) (l:Loc) (h:ρ b=some l):R Φ ρ (.ptr b i j) (.pointer (some ⟨l.blk,(l.sh+i)*l.k+j,none⟩))
 | AW (els:List (List Aa)) (i j B o k:Nat) (c:Array Value) (f:Nat→Nat→Value) (hB:Φ B=some c)
  (hk:∀ (i:Nat) (row:List Aa),els[i]? = some row→row.length=k)
  (hc:∀ (i:Nat) (row:List Aa) (j:Nat) (x:Aa),els[i]? = some row→row[j]? = some x→c[o+i*k+j]? = some (f i j)∧(f i j).oneCell'=true)
  (hr:∀ (i:Nat) (row:List Aa) (j:Nat) (x:Aa),els[i]? = some row→row[j]? = some x→R Φ ρ x (f i j)) :
  R Φ ρ (.AW els i j) (.pointer (some ⟨B,o+i*k+j,none⟩))
 | nilPtr:R Φ ρ .nilPtr (.pointer none)
 | Ae:R Φ ρ .Ae (.slice none 0 0)
 | emp (a:Option Addr):R Φ ρ .emp (.slice a 0 0)
 | sl (b off len:Nat) (a:Option Addr) (cap:Nat) (l:Loc) (h:ρ b=some l) (hl:len≤cap) (hn:l.sh+off+cap=l.n)
  (hc:0<cap→a=some ⟨l.blk,(l.sh+off)*l.k,none⟩) (ha:a.isSome=true):R Φ ρ (.sl b off len) (.slice a len cap)
 | BS (a:Option Addr) (cap:Nat) (h:0<cap → ∃ B o,a=some ⟨B,o,none⟩):R Φ ρ (.Aj []) (.slice a 0 cap)
 | Aj (els:List (List Aa)) (B o k cap:Nat) (c:Array Value) (f:Nat→Nat→Value) (hne:els≠[]) (hcap:els.length≤cap) (hB:Φ B=some c)
  (hk:∀ (i:Nat) (row:List Aa),els[i]? = some row→row.length=k)
  (hc:∀ (i:Nat) (row:List Aa) (j:Nat) (x:Aa),els[i]? = some row→row[j]? = some x→c[o+i*k+j]? = some (f i j)∧(f i j).oneCell'=true)
  (hr:∀ (i:Nat) (row:List Aa) (j:Nat) (x:Aa),els[i]? = some row→row[j]? = some x→R Φ ρ x (f i j)) :
  R Φ ρ (.Aj els) (.slice (some ⟨B,o,none⟩) els.length cap)
 | map (b:Nat) (l:Loc) (h:ρ b=some l):R Φ ρ (.map b) (.map (some l.blk))
 | Av:R Φ ρ .Av (.map none)
 | func (fn:Fn) (fs cs:List Aa) (vf vc:Array Value) (hf:vf.size=fs.length) (hc:vc.size=cs.length)
  (hfr:∀ (i:Nat) (x:Aa) (v:Value),fs[i]? = some x→vf[i]? = some v→R Φ ρ x v) (Cx:∀ (i:Nat) (x:Aa) (v:Value),cs[i]? = some x→vc[i]? = some v→R Φ ρ x v) :
  R Φ ρ (.func fn fs cs) (.func fn vf vc)
 | nilFunc:R Φ ρ .nilFunc .nilFunc
 | FH (b:Nat) (l:Loc) (h:ρ b=some l):R Φ ρ (.FH b) (.func (.yield l.blk) #[] #[])
 | atLeast (n c:Nat) (h:n≤c):R Φ ρ (.atLeast n) (.int .i64 c)
 | iface (t:TypeId) (x:Aa) (v:Value) (h:R Φ ρ x v):R Φ ρ (.iface t x) (.iface t v)
 | nilIface:R Φ ρ .nilIface .nilIface
 | agg (cs:List Aa) (vs:Array Value) (hs:vs.size=cs.length) (hr:∀ (i:Nat) (x:Aa) (v:Value),cs[i]? = some x→vs[i]? = some v→R Φ ρ x v):R Φ ρ (.agg cs) (.agg vs)
 | tuple (cs:List Aa) (vs:Array Value) (hs:vs.size=cs.length) (hr:∀ (i:Nat) (x:Aa) (v:Value),cs[i]? = some x→vs[i]? = some v→R Φ ρ x v):R Φ ρ (.tuple cs) (.tuple vs)
 | bot (v:Value):R Φ ρ .bot v
def RL(Φ:Ao)(ρ:AD)(xs:List Aa)(vs:Array Value):Prop:=vs.size=xs.length ∧ ∀(i:Nat) (x:Aa) (v:Value),xs[i]? = some x→vs[i]? = some v→R Φ ρ x v
structure Ext (Φ:Ao) (ρ:AD) (Ar:Ao) (ρ':AD):Prop where
 Bn:∀ B c,Φ B=some c→Ar B=some c
 Gl:∀ b l,ρ b=some l→ρ' b=some l
theorem Ext.refl(Φ:Ao)(ρ:AD):Ext Φ ρ Φ ρ:=⟨fun _ _ h=>h,fun _ _ h=>h⟩
theorem Ext.trans{Φ Ar EN:Ao}{ρ ρ' DG:AD}(h:Ext Φ ρ Ar ρ')(h':Ext Ar ρ' EN DG):Ext Φ ρ EN DG:=
 ⟨fun B c x=>h'.Bn B c (h.Bn B c x),fun b l x=>h'.Gl b l (h.Gl b l x)⟩
theorem R.ext{Φ Ar:Ao}{ρ ρ':AD}(he:Ext Φ ρ Ar ρ'){x:Aa}{v:Value}(h:R Φ ρ x v):R Ar ρ' x v:=by
 induction h with
 | bool b=>exact .bool b
 | int k n=>exact .int k n
 | str s=>exact .str s
 | ptr b i j l h=>exact .ptr b i j l (he.Gl _ _ h)
 | AW els i j B o k c f hB hk hc _ ih=>exact .AW els i j B o k c f (he.Bn _ _ hB) hk hc ih
 | nilPtr=>exact .nilPtr
 | Ae=>exact .Ae
 | emp a=>exact .emp a
 | sl b off len a cap l h hl hn hc ha=>exact .sl b off len a cap l (he.Gl _ _ h) hl hn hc ha
 | BS a cap h=>exact .BS a cap h
 | Aj els B o k cap c f hne hcap hB hk hc _ ih=>exact .Aj els B o k cap c f hne hcap (he.Bn _ _ hB) hk hc ih
 | map b l h=>exact .map b l (he.Gl _ _ h)
 | Av=>exact .Av
 | func fn fs cs vf vc hf hc _ _ ih1 ih2=>exact .func fn fs cs vf vc hf hc ih1 ih2
 | nilFunc=>exact .nilFunc
 | FH b l h=>exact .FH b l (he.Gl _ _ h)
 | atLeast n c h=>exact .atLeast n c h
 | iface t x v _ ih=>exact .iface t x v ih
 | nilIface=>exact .nilIface
 | agg cs vs hs _ ih=>exact .agg cs vs hs ih
 | tuple cs vs hs _ ih=>exact .tuple cs vs hs ih
 | bot v=>exact .bot v
theorem RL.ext{Φ Ar:Ao}{ρ ρ':AD}(he:Ext Φ ρ Ar ρ'){xs:List Aa}{vs:Array Value}(h:RL Φ ρ xs vs):RL Ar ρ' xs vs:=
 ⟨h.1,fun i x v hx hv=>(h.2 i x v hx hv).ext he⟩
def RowsIn(Φ:Ao)(ρ:AD)(els:List (List Aa))(sh k:Nat)(c:Array Value):Prop:=
 (∀(i:Nat) (row:List Aa),els[i]? = some row→row.length=k) ∧
 ∀(i:Nat) (row:List Aa) (j:Nat) (x:Aa),els[i]? = some row→row[j]? = some x → ∃ v,c[(sh+i)*k+j]? = some v∧v.oneCell'=true∧R Φ ρ x v
inductive BR (Φ:Ao) (ρ:AD):Ai→Loc→Obj→Prop where
 | cells (k:Nat) (els:List (List Aa)) (l:Loc) (c:Array Value) (e:TypeId) (hk:l.k=k) (hn:c.size=l.n*k) (hl:l.sh+els.length≤l.n)
  (hr:RowsIn Φ ρ els l.sh k c) (h1:∀ v,v∈c.toList→v.oneCell'=true):BR Φ ρ (.cells k els) l (.cells c e (0,0))
 | map (es:List (Aa×Aa×Nat)) (clock:Nat) (l:Loc) (en:Array MapEntry) (hs:en.size=es.length)
  (hr:∀ (i:Nat) (x:Aa×Aa×Nat),es[i]? = some x → ∃ y:MapEntry,en[i]? = some y∧R Φ ρ x.1 y.key∧R Φ ρ x.2.1 y.val∧y.born=x.2.2):BR Φ ρ (.map es clock) l (.map en clock)
 | Cg (s:List UInt8) (pos:Nat) (l:Loc):BR Φ ρ (.Cg s pos) l (.stringIter ⟨⟨s⟩⟩ pos)
 | DQ (since:Nat) (seen:List Nat) (stepped:Nat) (l:Loc):BR Φ ρ (.AJ none since seen stepped) l (.mapIter none since seen.toArray stepped)
 | AJ (m:Nat) (lm:Loc) (since:Nat) (seen:List Nat) (stepped:Nat) (l:Loc) (h:ρ m=some lm) (h0:l.sh*l.k=0) :
  BR Φ ρ (.AJ (some m) since seen stepped) l (.mapIter (some lm.blk) since seen.toArray stepped)
theorem RowsIn.ext{Φ Ar:Ao}{ρ ρ':AD}(he:Ext Φ ρ Ar ρ'){els:List (List Aa)}{sh k:Nat}{c:Array Value}(h:RowsIn Φ ρ els sh k c):RowsIn Ar ρ' els sh k c:=
 ⟨h.1,fun i row j x h1 h2=>let ⟨v,h3,h5,h4⟩:=h.2 i row j x h1 h2; ⟨v,h3,h5,h4.ext he⟩⟩
theorem BR.ext{Φ Ar:Ao}{ρ ρ':AD}(he:Ext Φ ρ Ar ρ'){x:Ai}{l:Loc}{o:Obj}(h:BR Φ ρ x l o):BR Ar ρ' x l o:=by
 cases h with
 | cells k els l c e hk hn hl hr h1=>exact .cells k els l c e hk hn hl (hr.ext he) h1
 | map es clock l en hs hr=>exact .map es clock l en hs fun i x hx=>let ⟨y,h1,h2,h3,h4⟩:=hr i x hx; ⟨y,h1,h2.ext he,h3.ext he,h4⟩
 | Cg s pos l=>exact .Cg s pos l
 | DQ a b c l=>exact .DQ a b c l
 | AJ m lm a b c l h h0=>exact .AJ m lm a b c l (he.Gl _ _ h) h0
structure AA where
 w:World
 g:Nat→Option Obj
 p:Ao
 t:T0 w
def AA.CR(W:AA)(B:Nat):Prop:=W.w.heap.size≤B∧W.g B=none
structure AA.Holds (W:AA) (w:World):Prop where
 below:Below W.w.heap.size W.w w
 DB:∀ B o,W.g B=some o→w.heap[B]? = some o
theorem Lx{w:World}{B:Nat}{o:Obj}(h:w.heap[B]? = some o):B<w.heap.size:=by
 rcases lG B w.heap.size with h'|h'
 ·exact h'
 ·rw[Array.getElem?_eq_none h']at h; cases h
theorem AA.Holds.trans{W:AA}{w w':World}(h:W.Holds w)(hb:Below w.heap.size w w'):W.Holds w':=
 ⟨h.below.trans (hb.mono h.below.size),fun B o hB=>by
  have ho:=h.DB B o hB;rw[hb.block B (Lx ho)]; exact ho⟩
theorem AA.Holds.drew{W:AA}{w:World}(h:W.Holds w):W.Holds w.drew:=⟨h.below.drew,h.DB⟩
structure Rel (W:AA) (Φ:Ao) (ρ:AD) (m:Mem) (w:World):Prop where
 base:W.Holds w
 Bn:∀ B c,Φ B=some c → ∃ e fz,w.heap[B]? = some (.cells c e fz)
 live:∀ b x,m.get b=some x → ∃ l o,ρ b=some l∧W.CR l.blk∧Φ l.blk=none∧w.heap[l.blk]? = some o∧BR Φ ρ x l o
 inj:∀ b b' x x' l l',m.get b=some x→m.get b'=some x'→ρ b=some l→ρ b'=some l'→l.blk=l'.blk→b=b'
 fresh:∀ b l,ρ b=some l→b<m.next
 Cr:∀ B c,Φ B=some c→W.p B=some c∨W.CR B
theorem Rel.Ds{W:AA}{Φ:Ao}{ρ:AD}{m:Mem}{w:World}(h:Rel W Φ ρ m w):T0 w:=W.t.keep h.base.below
theorem Rel.drew{W:AA}{Φ:Ao}{ρ:AD}{m:Mem}{w:World}(h:Rel W Φ ρ m w):Rel W Φ ρ m w.drew:=
 ⟨h.base.drew,h.Bn,h.live,h.inj,h.fresh,h.Cr⟩
theorem Rel.below{W:AA}{Φ:Ao}{ρ:AD}{m:Mem}{w w':World}(h:Rel W Φ ρ m w)(hb:Below w.heap.size w w'):Rel W Φ ρ m w':=by
 have hlt:∀ (B:Nat) (o:Obj),w.heap[B]? = some o→w'.heap[B]? = some o:=fun B o ho=>by
  have hB:B<w.heap.size:=by
   rcases lG B w.heap.size with h'|h'
   ·exact h'
   ·rw[Array.getElem?_eq_none h']at ho; cases ho
  rw[hb.block B hB]; exact ho
 refine⟨h.base.trans hb,fun B c hB=>?_,fun b x hx=>?_,h.inj,h.fresh,h.Cr⟩
 ·obtain⟨e,fz,ho⟩:=h.Bn B c hB;exact⟨e,fz,hlt _ _ ho⟩
 ·obtain⟨l,o,h1,h2,h3,h4,h5⟩:=h.live b x hx;exact⟨l,o,h1,h2,h3,hlt _ _ h4,h5⟩
structure Mem.Sub (m' m:Mem):Prop where
 get:∀ b x,m'.get b=some x→m.get b=some x
 next:m.next≤m'.next
theorem Mem.Sub.refl(m:Mem):Mem.Sub m m:=⟨fun _ _ h=>h,lR _⟩
theorem Rel.sub{W:AA}{Φ:Ao}{ρ:AD}{m m':Mem}{w:World}(h:Rel W Φ ρ m w)(hs:Mem.Sub m' m):Rel W Φ ρ m' w:=
 ⟨h.base,h.Bn,fun b x hx=>h.live b x (hs.get b x hx),fun b b' x x' l l' h1 h2=>h.inj b b' x x' l l' (hs.get _ _ h1) (hs.get _ _ h2),fun b l hb=>Nat.lt_of_lt_of_le (h.fresh b l hb) hs.next,h.Cr⟩
end Go.AE
end
section
namespace Go.AE
open Go.RowKit
inductive Ah where
 | tmp (t:Nat)
 | const (v:Aa)
 | fn (f:FuncId)
 deriving Inhabited
inductive Br where
 | int
 | str
 | bool
 deriving DecidableEq,Inhabited
inductive Fp where
 | num
 | bool
 | slice
 | func
 | map
 | ptr
 | flat (ks:List Br)
 deriving Inhabited
inductive AU where
 | Fz (x:Ah)
 | pick (c a b:Ah)
 | box (x:Ah)
 | alloc (zero:List Aa)
 | build (zero:List Aa) (parts:List (Nat×Nat×Ah))
 | CO (k len:Nat) (zero:List Aa) (parts:List (Nat×Ah))
 | load (n:Option Nat) (x:Ah)
 | store (n:Nat) (a x:Ah)
 | Cd (x:Ah)
 | bin (op:BinOp) (e:Fp) (x y:Ah)
 | un (op:UnOp) (x:Ah)
 | CA (k:IntKind) (x:Ah)
 | Dk (x:Ah)
 | toStr (x:Ah)
 | CW (fn:Fn) (first captured:List Ah)
 | mkMap
 | Cb (k bytes:Nat) (zero:List Aa) (len cap:Ah)
 | Es (x:Ah) (lo hi:Option Ah)
 | DU (k:Nat) (x:Ah) (lo hi mx:Option Ah)
 | Cl (n k:Nat) (x:Ah) (lo hi:Option Ah)
 | Bw (off:Nat) (x:Ah)
 | field (off:Nat) (n:Option Nat) (x:Ah)
 | BZ (k:Nat) (x i:Ah)
 | DW (n k:Nat) (x i:Ah)
 | Dn (x i:Ah)
 | CV (n k:Nat) (sz:Option Nat) (x i:Ah)
 | lookup (kt:Br) (zero:Aa) (ok:Bool) (x i:Ah)
 | Bx (kt:Br) (m k v:Ah)
 | En (kt:Br) (zero:Aa) (m k:Ah)
 | Ft (m s v:Ah)
 | delete (kt:Br) (m k:Ah)
 | range (x:Ah)
 | BL (x:Ah)
 | Cc (x:Ah)
 | ext (x:Ah) (i:Nat)
 | call (f:Ah) (args:List Ah)
 | append (k bytes:Nat) (zero:List Aa) (s x:Ah)
 | CX (k bytes:Nat) (zero:List Aa) (s x:Ah)
 | copy (k:Nat) (d s:Ah)
 | clear (k:Nat) (zero:List Aa) (x:Ah)
 | Dr (x:Ah)
 | Ca (x:Ah)
 | Cp (x:Ah)
 | Dq (n:Nat)
 | El (x:Ah)
 | Cq (mx:Bool) (xs:List Ah)
 | iface (t:TypeId) (x:Ah)
 | dead
 deriving Inhabited
structure Af where
 dst:Option Nat
 op:AU
 guard:Option (Nat×Bool)
 un:List Nat
 deriving Inhabited
inductive An where
 | skip
 | region (draw:Bool) (ops:List Af)
 | seq (a b:An)
 | cond (c:Ah) (a b:An)
 | block (id:Nat) (c:An)
 | loop (c:An)
 | exit (id:Nat)
 | scope (c:An)
 | label (l:Nat)
 | ret
 | bad
 deriving Inhabited
structure As where
 ntmps:Nat
 results:List (Nat×Option (Option Nat))
 body:An
 deriving Inhabited
def AU.AK:AU→List Ah
 | .Fz x | .box x | .load _ x | .Cd x | .un _ x | .CA _ x | .Dk x | .toStr x | .Bw _ x | .field _ _ x | .range x | .BL x | .Cc x | .ext x _ | .Dr x | .Ca x | .Cp x | .iface _ x | .clear _ _ x | .El x=>[x]
 | .pick c a b=>[c,a,b]
 | .alloc _ | .mkMap | .Dq _ | .dead=>[]
 | .build _ ps=>ps.map fun p=>p.2.2
 | .CO _ _ _ ps=>ps.map fun p=>p.2
 | .store _ a x | .bin _ _ a x | .Cb _ _ _ a x | .BZ _ a x | .DW _ _ a x | .Dn a x | .CV _ _ _ a x | .lookup _ _ _ a x | .En _ _ a x | .delete _ a x | .append _ _ _ a x | .CX _ _ _ a x | .copy _ a x=>[a,x]
 | .CW _ a b=>a++b
 | .Es x l h | .Cl _ _ x l h=>x :: (l.toList++h.toList)
 | .DU _ x l h m=>x :: (l.toList++h.toList++m.toList)
 | .Bx _ a b c | .Ft a b c=>[a,b,c]
 | .call f xs=>f :: xs
 | .Cq _ xs=>xs
def AU.kind:AU→Nat
 | .Fz _ | .pick _ _ _ | .build _ _ | .Cd _ | .bin _ _ _ _ | .un _ _ | .CA _ _ | .Dk _ | .CW _ _ _ | .Es _ _ _ | .Bw _ _ | .field _ _ _ | .DW _ _ _ _ | .Dn _ _ | .CV _ _ _ _ _ | .ext _ _ | .Dr _ | .Ca _ | .Dq _ | .Cq _ _ | .iface _ _ | .El _=>0
 | .load _ _ | .toStr _ | .DU _ _ _ _ _ | .BZ _ _ _ | .lookup _ _ _ _ _ | .Cp _=>1
 | .box _ | .alloc _ | .CO _ _ _ _ | .mkMap | .Cb _ _ _ _ _=>2
 | _=>3
def Ag:Aa:=.tuple []
def ev(t:List Aa):Ah→Aa
 | .tmp i=>t.getD i Ag
 | .const v=>v
 | .fn f=>.func (.func f) [] []
def put(t:List Aa)(d:Option Nat)(v:Aa):List Aa:=
 match d with
 | some d=>t.set d v
 | none=>t
def Aa.cells:Aa→Option (List Aa)
 | .agg cs=>some cs
 | .bot=>none
 | v=>some [v]
def Aa.one:Aa→Bool
 | .agg _ | .tuple _ | .bot=>false
 | _=>true
def M3(row:List Aa)(j:Nat):List Aa→List Aa
 | []=>row
 | v :: r=>M3 (row.set j v) (j+1) r
def J5:List Aa→List (Nat×Nat×Aa)→Option (List Aa)
 | cells,[]=>some cells
 | cells,(off,size,v) :: r=>
  match v.cells with
  | some cs=>if cs.length=size∧off+size≤cells.length then J5 (M3 cells off cs) r else none
  | none=>none
def I5(k:Nat):List (List Aa)→List (Nat×Aa)→Option (List (List Aa))
 | els,[]=>some els
 | els,(i,v) :: r=>
  match v.cells with
  | some cs=>if cs.length=k∧i<els.length∧cs.all Aa.one then I5 k (els.set i cs) r else none
  | none=>none
def rowAt(m:Mem):Aa→Option (List Aa×Nat)
 | .ptr b i j=>match m.get b with
  | some (.cells _ els)=>match els[i]? with
   | some row=>some (row,j)
   | none=>none
  | _=>none
 | .AW els i j=>match els[i]? with
  | some row=>some (row,j)
  | none=>none
 | _=>none
def LC(m:Mem)(n:Option Nat)(x:Aa):Option Aa:=
 match rowAt m x with
 | some (row,j)=>match n with
  | none=>row[j]?
  | some n=>if 0<n∧j+n≤row.length then some (.agg ((row.drop j).take n))else none
 | none=>none
def LN(m:Mem)(n:Nat)(x v:Aa):Option Mem:=
 match x,v.cells with
 | .ptr b i j,some cs=>match m.get b with
  | some (.cells k els)=>match els[i]? with
   | some row=>if cs.length=n∧j+n≤row.length∧cs.all Aa.one then some (m.set b (.cells k (els.set i (M3 row j cs))))else none
   | none=>none
  | _=>none
 | _,_=>none
def G0(kt:Br)(x y:Aa):Option Bool:=
 match kt,x,y with
 | .int,.int k a,.int k' b=>if k=k' then some (a == b)else none
 | .str,.str a,.str b=>some (a == b)
 | .bool,.bool a,.bool b=>some (a == b)
 | _,_,_=>none
def L2:List Br→List Aa→List Aa→Option Bool
 | [],[],[]=>some true
 | k :: ks,x :: xs,y :: ys=>match G0 k x y with
  | some true=>L2 ks xs ys
  | some false=>some false
  | none=>none
 | _,_,_=>none
def L3(kt:Br)(k:Aa):List (Aa×Aa×Nat)→Option (Option (Nat×Aa×Nat))
 | []=>some none
 | (k',v,born) :: es=>match G0 kt k k' with
  | some true=>some (some (0,v,born))
  | some false=>match L3 kt k es with
   | some (some (i,r))=>some (some (i+1,r))
   | some none=>some none
   | none=>none
  | none=>none
def H3(m:Mem)(k:Nat):Aa→Option (List (List Aa))
 | .Ae | .emp=>some []
 | .Aj els=>if els.all (·.length == k)then some els else none
 | .sl b off len=>match m.get b with
  | some (.cells k' els)=>if k'=k∧off+len≤els.length then some ((els.drop off).take len)else none
  | _=>if len=0 then some []else none
 | _=>none
def Vv(c:UInt8):List Aa:=[.int .u8 c.toNat]
def M9(m:Mem)(k:Nat):Aa→Option (List (List Aa))
 | .str s=>if k=1 then some (s.map Vv)else none
 | x=>H3 m k x
def I4:Aa→Option Nat
 | .Ae | .emp=>some 0
 | .Aj els=>some els.length
 | .sl _ _ len=>some len
 | _=>none
def P0:Aa→Option Nat
 | .int _ n=>if 0≤n then some n.toNat else none
 | _=>none
def I1(t:List Aa)(d:Nat):Option Ah→Option Nat
 | none=>some d
 | some x=>P0 (ev t x)
def T5:Nat:=1048576
def J2(id k bytes:Nat)(m:Mem)(s:Aa)(xs:List (List Aa)):Option (Aa×Mem):=
 match s with
 | .Ae=>if xs=[]then some (.Ae,m)else if xs.length≤T5∧bytes≤T5 then some (.sl id 0 xs.length,m.set id (.cells k xs))else none
 | .emp=>if xs=[]then some (.emp,m)else if xs.length≤T5∧bytes≤T5 then some (.sl id 0 xs.length,m.set id (.cells k xs))else none
 | .sl b off len=>match m.get b with
  | some (.cells k' els)=>
   if k'=k∧off+len≤els.length∧(els.length=off+len∨off+len+xs.length≤els.length)then
    if off+len+xs.length≤els.length then
     some (.sl b off (len+xs.length),m.set b (.cells k (els.take (off+len)++xs++els.drop (off+len+xs.length))))
    else if len+xs.length≤T5∧bytes≤T5 then
     some (.sl id 0 (len+xs.length),(m.del b).set id (.cells k ((els.drop off).take len++xs)))
    else none
   else none
  | _=>none
 | _=>none
def R8(op:BinOp)(k:IntKind)(a b:Int):Option Aa:=
 match op with
 | .add=>some (.int k (k.wrap (a+b)))
 | .sub=>some (.int k (k.wrap (a - b)))
 | .mul=>some (.int k (k.wrap (a*b)))
 | .quo=>if b=0 then none else some (.int k (k.wrap (a.tdiv b)))
 | .rem=>if b=0 then none else some (.int k (a.tmod b))
 | .and=>some (.int k (k.wrap (BitVec.ofInt k.bits a &&& BitVec.ofInt k.bits b).toNat))
 | .or=>some (.int k (k.wrap (BitVec.ofInt k.bits a ||| BitVec.ofInt k.bits b).toNat))
 | .xor=>some (.int k (k.wrap (BitVec.ofInt k.bits a ^^^ BitVec.ofInt k.bits b).toNat))
 | .andNot=>some (.int k (k.wrap (BitVec.ofInt k.bits a &&& ~~~(BitVec.ofInt k.bits b)).toNat))
 | .eql=>some (.bool (decide (a=b)))
 | .neq=>some (.bool (!decide (a=b)))
 | .lss=>some (.bool (decide (a<b)))
 | .leq=>some (.bool (decide (a≤b)))
 | .gtr=>some (.bool (decide (b<a)))
 | .geq=>some (.bool (decide (b≤a)))
 | _=>none
def KZ(op:BinOp)(a b:List UInt8):Option Aa:=
 match op with
 | .add=>if a.length+b.length≤1099511627776 then some (.str (a++b))else none
 | .eql=>some (.bool (a == b))
 | .neq=>some (.bool (!(a == b)))
 | .lss=>some (.bool (Op.bytesLess a b))
 | .leq=>some (.bool (Op.bytesLess a b||a == b))
 | .gtr=>some (.bool (!(Op.bytesLess a b||a == b)))
 | .geq=>some (.bool (!Op.bytesLess a b))
 | _=>none
def K8:Fp→Aa→Option Bool
 | .slice,.Ae=>some true
 | .slice,.sl _ _ _=>some false
 | .slice,.Aj els=>if els.isEmpty then none else some false
 | .func,.nilFunc=>some true
 | .func,.func _ _ _=>some false
 | .map,.Av=>some true
 | .map,.map _=>some false
 | .ptr,.nilPtr=>some true
 | .ptr,.ptr _ _ _=>some false
 | .ptr,.AW _ _ _=>some false
 | _,_=>none
def Kl(e:Fp)(x y:Aa):Option Bool:=
 match K8 e y with
 | some true=>K8 e x
 | _=>match K8 e x with
  | some true=>K8 e y
  | _=>none
def EJ(e:Fp)(x y:Aa):Option Bool:=
 match e with
 | .num=>none
 | .bool=>match x,y with
  | .bool a,.bool b=>some (a == b)
  | _,_=>none
 | .flat ks=>match x,y with
  | .agg xs,.agg ys=>L2 ks xs ys
  | _,_=>none
 | e=>Kl e x y
def U6(op:BinOp)(e:Fp)(x y:Aa):Option Aa:=
 match op,x,y with
 | .shl,.int k a,.int _ b=>if b<0 then none else some (.int k (k.wrap (a*2 ^ (min b.toNat k.bits))))
 | .shr,.int k a,.int _ b=>if b<0 then none else some (.int k (a.fdiv (2 ^ (min b.toNat k.bits))))
 | op,.int k a,.int k' b=>if k=k' then R8 op k a b else none
 | op,.str a,.str b=>KZ op a b
 | .eql,x,y=>match EJ e x y with
  | some b=>some (.bool b)
  | none=>none
 | .neq,x,y=>match EJ e x y with
  | some b=>some (.bool (!b))
  | none=>none
 | _,_,_=>none
def Fo(op:UnOp)(x:Aa):Option Aa:=
 match op,x with
 | .neg,.int k n=>some (.int k (k.wrap (0 - n)))
 | .not,.bool b=>some (.bool (!b))
 | .xor,.int k n=>some (.int k (k.wrap (BitVec.ofInt k.bits (if k.signed then -1 else k.max) ^^^ BitVec.ofInt k.bits n).toNat))
 | _,_=>none
def G7(off:Nat):Aa→Option Aa
 | .ptr b i j=>some (.ptr b i (j+off))
 | .AW els i j=>some (.AW els i (j+off))
 | _=>none
def D3(cs:List Aa)(off:Nat):Option Nat→Option Aa
 | none=>cs[off]?
 | some n=>if off+n≤cs.length then some (.agg ((cs.drop off).take n))else none
def LO(mx:Bool):Aa→List Aa→Option Aa
 | x,[]=>some x
 | .int k a,.int _ b :: r=>LO mx (.int k (if mx then (if b > a then b else a)else (if b<a then b else a))) r
 | _,_=>none
def LR:List (List Aa)→Option (List UInt8)
 | []=>some []
 | [.int .u8 n] :: r=>match LR r with
  | some l=>some (UInt8.ofNat n.toNat :: l)
  | none=>none
 | _=>none
def L9(t:List Aa)(len Eo:Nat)(lo hi:Option Ah):Option (Nat×Nat):=
 match I1 t len hi with
 | some h=>if h≤Eo then match I1 t 0 lo with
  | some l=>if l≤h then some (l,h)else none
  | none=>none
  else none
 | none=>none
def W2:Aa→List Nat
 | .ptr b _ _ | .sl b _ _ | .map b=>[b]
 | _=>[]
def T8(id:Nat)(t:List Aa):AU→List Nat
 | .append _ _ _ s _=>id :: W2 (ev t s)
 | .copy _ d _=>W2 (ev t d)
 | .store _ a _=>W2 (ev t a)
 | .Bx _ m _ _=>W2 (ev t m)
 | .clear _ _ x=>W2 (ev t x)
 | .box _ | .alloc _ | .CO _ _ _ _ | .mkMap | .Cb _ _ _ _ _=>[id]
 | _=>[]
def L4(t:List Aa):AU→List Nat
 | .append _ _ _ _ x=>W2 (ev t x)
 | .copy _ _ s=>W2 (ev t s)
 | .load _ x | .toStr x | .lookup _ _ _ x _ | .Cp x | .DU _ x _ _ _ | .BZ _ x _=>W2 (ev t x)
 | _=>[]
def Z5(id:Nat)(t:List Aa)(m:Mem):AU→Option (Aa×Mem)
 | .Fz x=>some (ev t x,m)
 | .pick c a b=>match ev t c with
  | .bool true=>some (ev t a,m)
  | .bool false=>some (ev t b,m)
  | _=>none
 | .box x=>match (ev t x).cells with
  | some cs=>if cs.all Aa.one then some (.ptr id 0 0,m.set id (.cells cs.length [cs]))else none
  | none=>none
 | .alloc zero=>some (.ptr id 0 0,m.set id (.cells zero.length [zero]))
 | .build zero parts=>match J5 zero (parts.map fun p=>(p.1,p.2.1,ev t p.2.2))with
  | some cs=>some (.agg cs,m)
  | none=>none
 | .CO k len zero parts=>match I5 k (List.replicate len zero) (parts.map fun p=>(p.1,ev t p.2))with
  | some els=>some (.sl id 0 len,m.set id (.cells k els))
  | none=>none
 | .load n x=>match LC m n (ev t x)with
  | some v=>some (v,m)
  | none=>none
 | .store n a x=>match LN m n (ev t a) (ev t x)with
  | some m'=>some (Ag,m')
  | none=>none
 | .Cd x=>match ev t x with
  | .ptr b i j=>some (.ptr b i j,m)
  | .AW els i j=>some (.AW els i j,m)
  | .func (.func f) a b=>some (.func (.func f) a b,m)
  | _=>none
 | .bin op e x y=>match U6 op e (ev t x) (ev t y)with
  | some v=>some (v,m)
  | none=>none
 | .un op x=>match Fo op (ev t x)with
  | some v=>some (v,m)
  | none=>none
 | .CA k x=>match ev t x with
  | .int _ n=>some (.int k (k.wrap n),m)
  | _=>none
 | .Dk x=>match ev t x with
  | .str s=>some (.str s,m)
  | _=>none
 | .toStr x=>match H3 m 1 (ev t x)with
  | some rows=>match LR rows with
   | some s=>some (.str s,m)
   | none=>none
  | none=>none
 | .CW fn first captured=>some (.func fn (first.map (ev t)) (captured.map (ev t)),m)
 | .mkMap=>some (.map id,m.set id (.map [] 0))
 | .Cb k bytes zero len cap=>match P0 (ev t len),P0 (ev t cap)with
  | some l,some c=>if l≤c∧c≤T5∧bytes≤T5 then some (.sl id 0 l,m.set id (.cells k (List.replicate c zero)))else none
  | _,_=>none
 | .Es x lo hi=>match ev t x with
  | .str s=>match L9 t s.length s.length lo hi with
   | some (l,h)=>some (.str ((s.take h).drop l),m)
   | none=>none
  | _=>none
 | .DU k x lo hi mx=>match mx with
  | some z=>match I4 (ev t x),I1 t 0 (some z),I1 t 0 lo,hi with
   | some n,some mx,some l,some h=>match P0 (ev t h)with
    | some h=>if l≤h∧h≤mx∧mx≤n then (if mx=0 then some (.emp,m)else some (.bot,m))else none
    | none=>none
   | _,_,_,_=>none
  | none=>match ev t x with
   | .Ae=>match L9 t 0 0 lo hi with
    | some _=>some (.Ae,m)
    | none=>none
   | .emp=>match L9 t 0 0 lo hi with
    | some _=>some (.emp,m)
    | none=>none
   | .Aj els=>if els.all (·.length == k)then match L9 t els.length els.length lo hi with
    | some (l,h)=>some (.Aj ((els.take h).drop l),m)
    | none=>none
    else none
   | .sl b off len=>match m.get b with
    | some (.cells k' els)=>if k'=k∧off+len≤els.length then match L9 t len (els.length - off) lo hi with
     | some (l,h)=>some (.sl b (off+l) (h - l),m)
     | none=>none
     else none
    | _=>none
   | _=>none
 | .Cl ..=>none
 | .Bw off x=>match G7 off (ev t x)with
  | some v=>some (v,m)
  | none=>none
 | .field off n x=>match ev t x with
  | .agg cs=>match D3 cs off n with
   | some v=>some (v,m)
   | none=>none
  | _=>none
 | .BZ k x i=>match ev t x,P0 (ev t i)with
  | .sl b off len,some i=>match m.get b with
   | some (.cells k' _)=>if k'=k∧i<len then some (.ptr b (off+i) 0,m)else none
   | _=>none
  | .Aj els,some i=>match els[i]? with
   | some row=>if row.length=k then some (.AW els i 0,m)else none
   | none=>none
  | _,_=>none
 | .DW n k x i=>match P0 (ev t i)with
  | some i=>if i<n then match G7 (i*k) (ev t x)with
   | some v=>some (v,m)
   | none=>none
   else none
  | none=>none
 | .Dn x i=>match ev t x,P0 (ev t i)with
  | .str s,some i=>match s[i]? with
   | some c=>some (.int .u8 c.toNat,m)
   | none=>none
  | _,_=>none
 | .CV n k sz x i=>match ev t x,P0 (ev t i)with
  | .agg cs,some i=>if i<n then match D3 cs (i*k) sz with
   | some v=>some (v,m)
   | none=>none
   else none
  | _,_=>none
 | .lookup kt zero ok x i=>match (match ev t x with
  | .Av=>some []
  | .map b=>match m.get b with
   | some (.map es _)=>some es
   | _=>none
  | _=>none)with
  | some es=>match L3 kt (ev t i) es with
   | some r=>
    let v:=match r with
     | some (_,v,_)=>v
     | none=>zero
    some (if ok then .tuple [v,.bool r.isSome]else v,m)
   | none=>none
  | none=>none
 | .Bx kt mp k v=>match ev t mp with
  | .map b=>match m.get b with
   | some (.map es clock)=>match L3 kt (ev t k) es with
    | some (some (i,_,born))=>some (Ag,m.set b (.map (es.set i (ev t k,ev t v,born)) clock))
    | some none=>some (Ag,m.set b (.map (es++[(ev t k,ev t v,clock)]) (clock+1)))
    | none=>none
   | _=>none
  | _=>none
 | .En ..=>none
 | .Ft ..=>none
 | .delete ..=>none
 | .range _=>none
 | .BL _=>none
 | .Cc _=>none
 | .ext x i=>match ev t x with
  | .tuple vs=>match vs[i]? with
   | some v=>some (v,m)
   | none=>none
  | _=>none
 | .call _ _=>none
 | .append k bytes _ s x=>match M9 m k (ev t x)with
  | some xs=>J2 id k bytes m (ev t s) xs
  | none=>none
 | .CX ..=>none
 | .copy k d s=>match ev t d,M9 m k (ev t s)with
  | .sl b off len,some xs=>match m.get b with
   | some (.cells k' els)=>if k'=k∧off+len≤els.length then
    let n:=min xs.length len
    some (.int .i64 n,m.set b (.cells k (els.take off++xs.take n++els.drop (off+n))))
    else none
   | _=>none
  | _,_=>none
 | .clear k zero x=>match ev t x with
  | .sl b off len=>match m.get b with
   | some (.cells k' els)=>if k'=k∧off+len≤els.length then
    some (Ag,m.set b (.cells k (els.take off++List.replicate len zero++els.drop (off+len))))
    else none
   | _=>none
  | .Ae=>some (Ag,m)
  | .emp=>some (Ag,m)
  | _=>none
 | .Dr x=>match ev t x with
  | .str s=>some (.int .i64 s.length,m)
  | _=>none
 | .Ca x=>match I4 (ev t x)with
  | some n=>some (.int .i64 n,m)
  | none=>none
 | .Cp x=>match ev t x with
  | .Av=>some (.int .i64 0,m)
  | .map b=>match m.get b with
   | some (.map es _)=>some (.int .i64 es.length,m)
   | _=>none
  | _=>none
 | .Dq n=>some (.int .i64 n,m)
 | .El _=>none
 | .Cq mx xs=>match xs with
  | []=>none
  | x :: r=>match LO mx (ev t x) (r.map (ev t))with
   | some v=>some (v,m)
   | none=>none
 | .iface ty x=>some (.iface ty (ev t x),m)
 | .dead=>none
end Go.AE
end
