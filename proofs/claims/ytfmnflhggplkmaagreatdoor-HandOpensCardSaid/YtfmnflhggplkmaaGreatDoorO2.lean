/- Part 2 of the proof: AeA. -/
import Derived.Test.YtfmnflhggplkmaaGreatDoorO1
import Derived.WalkKit
set_option linter.all false
namespace Go.AE
open Go.RowKit
inductive AVal where
 | bool (b:Bool)
 | int (k:IntKind) (n:Int)
 | str (s:List UInt8)
 | ptr (b i j:Nat)
 | iptr (els:List (List AVal)) (i j:Nat)
 | nilPtr
 | nilSl
 | emp
 | sl (b off len:Nat)
 | imm (els:List (List AVal))
 | map (b:Nat)
 | nilMap
 | func (fn:Fn) (first captured:List AVal)
 | nilFunc
 | yld (b:Nat)
 | atLeast (n:Nat)
 | iface (t:TypeId) (v:AVal)
 | nilIface
 | agg (cs:List AVal)
 | tuple (vs:List AVal)
 | bot
 deriving Inhabited
inductive ABlk where
 | cells (k:Nat) (els:List (List AVal))
 | map (es:List (AVal×AVal×Nat)) (clock:Nat)
 | siter (s:List UInt8) (pos:Nat)
 | miter (m:Option Nat) (since:Nat) (seen:List Nat) (stepped:Nat)
 deriving Inhabited
structure Mem where
 get:Nat→Option ABlk
 next:Nat
@[ext] theorem Mem.ext' {m m' : Mem} (h1 : ∀ b, m.get b = m'.get b) (h2 : m.next = m'.next) : m = m' := by
 cases m; cases m'; simp only[Mem.mk.injEq]; exact⟨funext h1,h2⟩
def Mem.set (m:Mem) (b:Nat) (x:ABlk):Mem:={ m with get:=fun c=>if c=b then some x else m.get c }
def Mem.del (m:Mem) (b:Nat):Mem:={ m with get:=fun c=>if c=b then none else m.get c }
def Mem.at (m:Mem) (n:Nat):Mem:={ m with next:=n }
@[simp] theorem Mem.get_set (m : Mem) (b c : Nat) (x : ABlk) : (m.set b x).get c = if c = b then some x else m.get c := rfl
@[simp] theorem Mem.get_del (m : Mem) (b c : Nat) : (m.del b).get c = if c = b then none else m.get c := rfl
@[simp] theorem Mem.get_at (m : Mem) (n c : Nat) : (m.at n).get c = m.get c := rfl
@[simp] theorem Mem.next_set (m : Mem) (b : Nat) (x : ABlk) : (m.set b x).next = m.next := rfl
@[simp] theorem Mem.next_del (m : Mem) (b : Nat) : (m.del b).next = m.next := rfl
@[simp] theorem Mem.next_at (m : Mem) (n : Nat) : (m.at n).next = n := rfl
@[simp] theorem Mem.at_at (m : Mem) (n k : Nat) : (m.at n).at k = m.at k := rfl
@[simp] theorem Mem.at_next (m : Mem) : m.at m.next = m := rfl
abbrev Pers:=Nat→Option (Array Value)
structure Loc where
 blk:Nat
 sh:Nat
 k:Nat
 n:Nat
abbrev Rho:=Nat→Option Loc
inductive R (Φ:Pers) (ρ:Rho):AVal→Value→Prop where
 | bool (b:Bool):R Φ ρ (.bool b) (.bool b)
 | int (k:IntKind) (n:Int):R Φ ρ (.int k n) (.int k n)
 | str (s:List UInt8):R Φ ρ (.str s) (.string ⟨⟨s⟩⟩)
 | ptr (b i j:Nat) (l:Loc) (h:ρ b=some l):R Φ ρ (.ptr b i j) (.pointer (some ⟨l.blk,(l.sh+i)*l.k+j,none⟩))
 | iptr (els:List (List AVal)) (i j B o k:Nat) (c:Array Value) (f:Nat→Nat→Value) (hB:Φ B=some c)
  (hk:∀ (i:Nat) (row:List AVal),els[i]? = some row→row.length=k)
  (hc:∀ (i:Nat) (row:List AVal) (j:Nat) (x:AVal),els[i]? = some row→row[j]? = some x→c[o+i*k+j]? = some (f i j)∧(f i j).oneCell'=true)
  (hr:∀ (i:Nat) (row:List AVal) (j:Nat) (x:AVal),els[i]? = some row→row[j]? = some x→R Φ ρ x (f i j)) :
  R Φ ρ (.iptr els i j) (.pointer (some ⟨B,o+i*k+j,none⟩))
 | nilPtr:R Φ ρ .nilPtr (.pointer none)
 | nilSl:R Φ ρ .nilSl (.slice none 0 0)
 | emp (a:Option Addr):R Φ ρ .emp (.slice a 0 0)
 | sl (b off len:Nat) (a:Option Addr) (cap:Nat) (l:Loc) (h:ρ b=some l) (hl:len≤cap) (hn:l.sh+off+cap=l.n)
  (hc:0<cap→a=some ⟨l.blk,(l.sh+off)*l.k,none⟩) (ha:a.isSome=true):R Φ ρ (.sl b off len) (.slice a len cap)
 | imm0 (a:Option Addr) (cap:Nat) (h:0<cap → ∃ B o,a=some ⟨B,o,none⟩):R Φ ρ (.imm []) (.slice a 0 cap)
 | imm (els:List (List AVal)) (B o k cap:Nat) (c:Array Value) (f:Nat→Nat→Value) (hne:els≠[]) (hcap:els.length≤cap) (hB:Φ B=some c)
  (hk:∀ (i:Nat) (row:List AVal),els[i]? = some row→row.length=k)
  (hc:∀ (i:Nat) (row:List AVal) (j:Nat) (x:AVal),els[i]? = some row→row[j]? = some x→c[o+i*k+j]? = some (f i j)∧(f i j).oneCell'=true)
  (hr:∀ (i:Nat) (row:List AVal) (j:Nat) (x:AVal),els[i]? = some row→row[j]? = some x→R Φ ρ x (f i j)) :
  R Φ ρ (.imm els) (.slice (some ⟨B,o,none⟩) els.length cap)
 | map (b:Nat) (l:Loc) (h:ρ b=some l):R Φ ρ (.map b) (.map (some l.blk))
 | nilMap:R Φ ρ .nilMap (.map none)
 | func (fn:Fn) (fs cs:List AVal) (vf vc:Array Value) (hf:vf.size=fs.length) (hc:vc.size=cs.length)
  (hfr:∀ (i:Nat) (x:AVal) (v:Value),fs[i]? = some x→vf[i]? = some v→R Φ ρ x v) (hcr:∀ (i:Nat) (x:AVal) (v:Value),cs[i]? = some x→vc[i]? = some v→R Φ ρ x v) :
  R Φ ρ (.func fn fs cs) (.func fn vf vc)
 | nilFunc:R Φ ρ .nilFunc .nilFunc
 | yld (b:Nat) (l:Loc) (h:ρ b=some l):R Φ ρ (.yld b) (.func (.yield l.blk) #[] #[])
 | atLeast (n c:Nat) (h:n≤c):R Φ ρ (.atLeast n) (.int .i64 c)
 | iface (t:TypeId) (x:AVal) (v:Value) (h:R Φ ρ x v):R Φ ρ (.iface t x) (.iface t v)
 | nilIface:R Φ ρ .nilIface .nilIface
 | agg (cs:List AVal) (vs:Array Value) (hs:vs.size=cs.length) (hr:∀ (i:Nat) (x:AVal) (v:Value),cs[i]? = some x→vs[i]? = some v→R Φ ρ x v):R Φ ρ (.agg cs) (.agg vs)
 | tuple (cs:List AVal) (vs:Array Value) (hs:vs.size=cs.length) (hr:∀ (i:Nat) (x:AVal) (v:Value),cs[i]? = some x→vs[i]? = some v→R Φ ρ x v):R Φ ρ (.tuple cs) (.tuple vs)
 | bot (v:Value):R Φ ρ .bot v
def RL (Φ:Pers) (ρ:Rho) (xs:List AVal) (vs:Array Value):Prop:=vs.size=xs.length ∧ ∀(i:Nat) (x:AVal) (v:Value),xs[i]? = some x→vs[i]? = some v→R Φ ρ x v
structure Ext (Φ:Pers) (ρ:Rho) (Φ':Pers) (ρ':Rho):Prop where
 pers:∀ B c,Φ B=some c→Φ' B=some c
 rho:∀ b l,ρ b=some l→ρ' b=some l
theorem Ext.refl (Φ:Pers) (ρ:Rho):Ext Φ ρ Φ ρ:=⟨fun _ _ h=>h,fun _ _ h=>h⟩
theorem Ext.trans {Φ Φ' Φ'':Pers} {ρ ρ' ρ'':Rho} (h:Ext Φ ρ Φ' ρ') (h':Ext Φ' ρ' Φ'' ρ''):Ext Φ ρ Φ'' ρ'':=
 ⟨fun B c x=>h'.pers B c (h.pers B c x),fun b l x=>h'.rho b l (h.rho b l x)⟩
theorem R.ext {Φ Φ':Pers} {ρ ρ':Rho} (he:Ext Φ ρ Φ' ρ') {x:AVal} {v:Value} (h:R Φ ρ x v):R Φ' ρ' x v:=by
 induction h with
 | bool b=>exact .bool b
 | int k n=>exact .int k n
 | str s=>exact .str s
 | ptr b i j l h=>exact .ptr b i j l (he.rho _ _ h)
 | iptr els i j B o k c f hB hk hc _ ih=>exact .iptr els i j B o k c f (he.pers _ _ hB) hk hc ih
 | nilPtr=>exact .nilPtr
 | nilSl=>exact .nilSl
 | emp a=>exact .emp a
 | sl b off len a cap l h hl hn hc ha=>exact .sl b off len a cap l (he.rho _ _ h) hl hn hc ha
 | imm0 a cap h=>exact .imm0 a cap h
 | imm els B o k cap c f hne hcap hB hk hc _ ih=>exact .imm els B o k cap c f hne hcap (he.pers _ _ hB) hk hc ih
 | map b l h=>exact .map b l (he.rho _ _ h)
 | nilMap=>exact .nilMap
 | func fn fs cs vf vc hf hc _ _ ih1 ih2=>exact .func fn fs cs vf vc hf hc ih1 ih2
 | nilFunc=>exact .nilFunc
 | yld b l h=>exact .yld b l (he.rho _ _ h)
 | atLeast n c h=>exact .atLeast n c h
 | iface t x v _ ih=>exact .iface t x v ih
 | nilIface=>exact .nilIface
 | agg cs vs hs _ ih=>exact .agg cs vs hs ih
 | tuple cs vs hs _ ih=>exact .tuple cs vs hs ih
 | bot v=>exact .bot v
theorem RL.ext {Φ Φ':Pers} {ρ ρ':Rho} (he:Ext Φ ρ Φ' ρ') {xs:List AVal} {vs:Array Value} (h:RL Φ ρ xs vs):RL Φ' ρ' xs vs:=
 ⟨h.1,fun i x v hx hv=>(h.2 i x v hx hv).ext he⟩
def RowsIn (Φ:Pers) (ρ:Rho) (els:List (List AVal)) (sh k:Nat) (c:Array Value):Prop:=
 (∀(i:Nat) (row:List AVal),els[i]? = some row→row.length=k) ∧
 ∀(i:Nat) (row:List AVal) (j:Nat) (x:AVal),els[i]? = some row→row[j]? = some x → ∃ v,c[(sh+i)*k+j]? = some v∧v.oneCell'=true∧R Φ ρ x v
inductive BR (Φ:Pers) (ρ:Rho):ABlk→Loc→Obj→Prop where
 | cells (k:Nat) (els:List (List AVal)) (l:Loc) (c:Array Value) (e:TypeId) (hk:l.k=k) (hn:c.size=l.n*k) (hl:l.sh+els.length≤l.n)
  (hr:RowsIn Φ ρ els l.sh k c) (h1:∀ v,v∈c.toList→v.oneCell'=true):BR Φ ρ (.cells k els) l (.cells c e (0,0))
 | map (es:List (AVal×AVal×Nat)) (clock:Nat) (l:Loc) (en:Array MapEntry) (hs:en.size=es.length)
  (hr:∀ (i:Nat) (x:AVal×AVal×Nat),es[i]? = some x → ∃ y:MapEntry,en[i]? = some y∧R Φ ρ x.1 y.key∧R Φ ρ x.2.1 y.val∧y.born=x.2.2):BR Φ ρ (.map es clock) l (.map en clock)
 | siter (s:List UInt8) (pos:Nat) (l:Loc):BR Φ ρ (.siter s pos) l (.stringIter ⟨⟨s⟩⟩ pos)
 | miter0 (since:Nat) (seen:List Nat) (stepped:Nat) (l:Loc):BR Φ ρ (.miter none since seen stepped) l (.mapIter none since seen.toArray stepped)
 | miter (m:Nat) (lm:Loc) (since:Nat) (seen:List Nat) (stepped:Nat) (l:Loc) (h:ρ m=some lm) (h0:l.sh*l.k=0) :
  BR Φ ρ (.miter (some m) since seen stepped) l (.mapIter (some lm.blk) since seen.toArray stepped)
theorem RowsIn.ext {Φ Φ':Pers} {ρ ρ':Rho} (he:Ext Φ ρ Φ' ρ') {els:List (List AVal)} {sh k:Nat} {c:Array Value} (h:RowsIn Φ ρ els sh k c):RowsIn Φ' ρ' els sh k c:=
 ⟨h.1,fun i row j x h1 h2=>let ⟨v,h3,h5,h4⟩:=h.2 i row j x h1 h2; ⟨v,h3,h5,h4.ext he⟩⟩
theorem BR.ext {Φ Φ':Pers} {ρ ρ':Rho} (he:Ext Φ ρ Φ' ρ') {x:ABlk} {l:Loc} {o:Obj} (h:BR Φ ρ x l o):BR Φ' ρ' x l o:=by
 cases h with
 | cells k els l c e hk hn hl hr h1=>exact .cells k els l c e hk hn hl (hr.ext he) h1
 | map es clock l en hs hr=>exact .map es clock l en hs fun i x hx=>let ⟨y,h1,h2,h3,h4⟩:=hr i x hx; ⟨y,h1,h2.ext he,h3.ext he,h4⟩
 | siter s pos l=>exact .siter s pos l
 | miter0 a b c l=>exact .miter0 a b c l
 | miter m lm a b c l h h0=>exact .miter m lm a b c l (he.rho _ _ h) h0
structure Base where
 w:World
 g:Nat→Option Obj
 p:Pers
 t:T0 w
def Base.Free (W:Base) (B:Nat):Prop:=W.w.heap.size≤B∧W.g B=none
structure Base.Holds (W:Base) (w:World):Prop where
 below:Below W.w.heap.size W.w w
 prot:∀ B o,W.g B=some o→w.heap[B]? = some o
theorem heap_lt {w:World} {B:Nat} {o:Obj} (h:w.heap[B]? = some o):B<w.heap.size:=by
 rcases Nat.lt_or_ge B w.heap.size with h'|h'
 ·exact h'
 ·rw[Array.getElem?_eq_none h']at h; cases h
theorem Base.Holds.trans {W:Base} {w w':World} (h:W.Holds w) (hb:Below w.heap.size w w'):W.Holds w':=
 ⟨h.below.trans (hb.mono h.below.size),fun B o hB=>by
  have ho:=h.prot B o hB
  rw[hb.block B (heap_lt ho)]; exact ho⟩
theorem Base.Holds.drew {W:Base} {w:World} (h:W.Holds w):W.Holds w.drew:=⟨h.below.drew,h.prot⟩
structure Rel (W:Base) (Φ:Pers) (ρ:Rho) (m:Mem) (w:World):Prop where
 base:W.Holds w
 pers:∀ B c,Φ B=some c → ∃ e fz,w.heap[B]? = some (.cells c e fz)
 live:∀ b x,m.get b=some x → ∃ l o,ρ b=some l∧W.Free l.blk∧Φ l.blk=none∧w.heap[l.blk]? = some o∧BR Φ ρ x l o
 inj:∀ b b' x x' l l',m.get b=some x→m.get b'=some x'→ρ b=some l→ρ b'=some l'→l.blk=l'.blk→b=b'
 fresh:∀ b l,ρ b=some l→b<m.next
 newp:∀ B c,Φ B=some c→W.p B=some c∨W.Free B
theorem Rel.tab {W:Base} {Φ:Pers} {ρ:Rho} {m:Mem} {w:World} (h:Rel W Φ ρ m w):T0 w:=W.t.keep h.base.below
theorem Rel.drew {W:Base} {Φ:Pers} {ρ:Rho} {m:Mem} {w:World} (h:Rel W Φ ρ m w):Rel W Φ ρ m w.drew:=
 ⟨h.base.drew,h.pers,h.live,h.inj,h.fresh,h.newp⟩
theorem Rel.below {W:Base} {Φ:Pers} {ρ:Rho} {m:Mem} {w w':World} (h:Rel W Φ ρ m w) (hb:Below w.heap.size w w'):Rel W Φ ρ m w':=by
 have hlt:∀ (B:Nat) (o:Obj),w.heap[B]? = some o→w'.heap[B]? = some o:=fun B o ho=>by
  have hB:B<w.heap.size:=by
   rcases Nat.lt_or_ge B w.heap.size with h'|h'
   ·exact h'
   ·rw[Array.getElem?_eq_none h']at ho; cases ho
  rw[hb.block B hB]; exact ho
 refine⟨h.base.trans hb,fun B c hB=>?_,fun b x hx=>?_,h.inj,h.fresh,h.newp⟩
 ·obtain⟨e,fz,ho⟩:=h.pers B c hB
  exact⟨e,fz,hlt _ _ ho⟩
 ·obtain⟨l,o,h1,h2,h3,h4,h5⟩:=h.live b x hx
  exact⟨l,o,h1,h2,h3,hlt _ _ h4,h5⟩
structure Mem.Sub (m' m:Mem):Prop where
 get:∀ b x,m'.get b=some x→m.get b=some x
 next:m.next≤m'.next
theorem Mem.Sub.refl (m:Mem):Mem.Sub m m:=⟨fun _ _ h=>h,Nat.le_refl _⟩
theorem Mem.Sub.trans {a b c:Mem} (h:Mem.Sub a b) (h':Mem.Sub b c):Mem.Sub a c:=⟨fun d x hd=>h'.get d x (h.get d x hd),Nat.le_trans h'.next h.next⟩
theorem Rel.sub {W:Base} {Φ:Pers} {ρ:Rho} {m m':Mem} {w:World} (h:Rel W Φ ρ m w) (hs:Mem.Sub m' m):Rel W Φ ρ m' w:=
 ⟨h.base,h.pers,fun b x hx=>h.live b x (hs.get b x hx),fun b b' x x' l l' h1 h2=>h.inj b b' x x' l l' (hs.get _ _ h1) (hs.get _ _ h2),fun b l hb=>Nat.lt_of_lt_of_le (h.fresh b l hb) hs.next,h.newp⟩
theorem Rel.cut {W:Base} {Φ:Pers} {ρ:Rho} {m m':Mem} {w:World} (h:Rel W Φ ρ m w) (ρ0:Rho) (h0:∀ b l,ρ0 b=some l→ρ b=some l) (hf:∀ b l,ρ0 b=some l→b<m'.next)
 (hg:∀ b x,m'.get b=some x → ∃ l o,ρ0 b=some l∧W.Free l.blk∧Φ l.blk=none∧w.heap[l.blk]? = some o∧BR Φ ρ0 x l o)
 (hs:∀ b x,m'.get b=some x → ∃ x',m.get b=some x'):Rel W Φ ρ0 m' w:=
 ⟨h.base,h.pers,hg,fun b b' x x' l l' h1 h2 h3 h4=>by
  obtain⟨y,hy⟩:=hs b x h1
  obtain⟨y',hy'⟩:=hs b' x' h2
  exact h.inj b b' y y' l l' hy hy' (h0 _ _ h3) (h0 _ _ h4),hf,h.newp⟩
end Go.AE
