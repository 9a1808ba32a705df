/- Part 44 of the proof: Hn, AeNl, AeYd. -/
import Derived.Test.YtfmnflhggplkmaaGreatDoorO19
import Derived.Test.YtfmnflhggplkmaaGreatDoorO25
import Derived.Test.YtfmnflhggplkmaaGreatDoorO33
import Derived.Test.YtfmnflhggplkmaaGreatDoorO36
import Derived.Test.YtfmnflhggplkmaaGreatDoorO43
set_option linter.all false
section
namespace Go.Known
open Go Go.AE Go.Proofs
open Go.Plain
theorem c12zH:PCall Tryz.prog 21 [.agg [.int .i64 0,.nilSl],.agg [.int .i64 0,.nilSl]] (.bool true):=by
 refine PCall_1 hm Tryz.func21 cf12 rfl rfl rfl trivial fun K hK=>?_
 simp
 refine wZ_loop (α:=Unit) (fun _=>[(5,.int .i64 0),(2,.ptr 1 0 0)]) (fun _=>⟨[(1,.cells 2 [[.int .i64 0,.nilSl]])],2⟩) (fun _=>0) (fun _=>True) () [] (by simp) trivial ?_
 intro _ _ N hN
 simp
 exact endK hK [] (by simp)
theorem Wk_imV (rows:List (List AVal)):Wk (imV rows) (.imm rows):=by
 unfold imV
 split
 ·rename_i h; subst h; exact Wk_nil
 ·exact Wk.refl _
theorem cHangV (fs:List Fg) (re lo:Int) (xs:List Int) (h:fs.length≤1000) (hx:xs.length≤1000) (h1:frB fs re lo=true) (h2:incB fs.length 0 xs=true) :
 PCall Tryz.prog 19 [frV fs re lo,.imm (irow xs)] (.tuple [cV fs.length (hgL (-1) xs),.int .i64 0]):=by
 have:=cHang fs re lo xs h hx
 unfold hangT at this
 rw[if_pos ⟨h1,h2⟩]at this
 exact this.wk (Wk_tuple ⟨Wk_agg ⟨Wk.refl _,Wk_imV _,trivial⟩,Wk.refl _,trivial⟩)
theorem cRHangV (n:Nat) (xs:List Int) (h:n≤1000) (hx:xs.length≤1000) (h2:incB n 0 xs=true) :
 PCall Tryz.prog 20 [.int .i64 n,.imm (irow xs)] (.tuple [cV n (hgL (-1) xs),.bool true]):=by
 have:=cRHang n xs h hx
 unfold hangR at this
 rw[if_pos h2]at this
 exact this.wk (Wk_tuple ⟨Wk_agg ⟨Wk.refl _,Wk_imV _,trivial⟩,Wk.refl _,trivial⟩)
end Go.Known
end
section
namespace Go.AE
open Go.RowKit
def fzBk (get:Nat→Option ABlk) (S:List Nat):ABlk→ABlk
 | .cells k els=>.cells k (fzLL get S els)
 | x=>x
def fzBl (get:Nat→Option ABlk) (S:List Nat):List (Nat×ABlk)→List (Nat×ABlk)
 | []=>[]
 | (b,x) :: r=>(b,fzBk get S x) :: fzBl get S r
theorem lookB_fzBl {get:Nat→Option ABlk} {S:List Nat} {b:Nat} {x:ABlk}:∀ {l:List (Nat×ABlk)},lookB (fzBl get S l) b=some x → ∃ y,lookB l b=some y∧x=fzBk get S y
 | [],h=>by simp[fzBl,lookB]at h
 | (c,y) :: r,h=>by
  simp only[fzBl,lookB]at h ⊢
  split at h
  ·rename_i e
   injection h with h
   exact⟨y,by rw[if_pos e],h.symm⟩
  ·rename_i e
   obtain⟨z,h1,h2⟩:=lookB_fzBl h
   exact⟨z,by rw[if_neg e]; exact h1,h2⟩
def fzW (get:Nat→Option ABlk) (S:List Nat):Nat→AVal→AVal
 | 0,x=>x
 | n+1,x=>match x with
  | .agg cs=>.agg (cs.map (fzW get S n))
  | .tuple cs=>.tuple (cs.map (fzW get S n))
  | x=>fzV get S x
theorem fzW_R {Φ Φs:Pers} {ρ:Rho} {get:Nat→Option ABlk} {S:List Nat} (hE:Ext Φ ρ Φs ρ) (hf:∀ x v,R Φ ρ x v→R Φs ρ (fzV get S x) v):∀ (n:Nat) (x:AVal) (v:Value),R Φ ρ x v→R Φs ρ (fzW get S n x) v
 | 0,x,v,h=>h.ext hE
 | n+1,x,v,h=>by
  have hmap:∀ (cs:List AVal) (vs:Array Value),(∀(i:Nat) (x:AVal) (v:Value),cs[i]? = some x→vs[i]? = some v→R Φ ρ x v) → ∀(i:Nat) (x:AVal) (v:Value),(cs.map (fzW get S n))[i]? = some x→vs[i]? = some v→R Φs ρ x v:=by
   intro cs vs hr i x v hx hv
   rw[List.getElem?_map]at hx
   cases h0:cs[i]? with
   | none=>rw[h0]at hx; cases hx
   | some y=>
    rw[h0]at hx
    injection hx with hx
    rw[← hx]
    exact fzW_R hE hf n y v (hr i y v h0 hv)
  unfold fzW
  split
  ·cases h with
   | agg cs vs hs hr=>exact .agg _ vs (by rw[List.length_map]; exact hs) (hmap _ vs hr)
  ·cases h with
   | tuple cs vs hs hr=>exact .tuple _ vs (by rw[List.length_map]; exact hs) (hmap _ vs hr)
  ·exact hf _ _ h
theorem Ctr.freezeB {P:Program} {g:FuncId} {args:List AVal} {m:SMem} {K K':AVal→SMem→Prop} (h:Ctr P g args m K) (hk:∀ r sm,K r sm → ∃ S,K' (fzW sm.get S 3 r) ⟨fzBl sm.get S (lessB S sm.bl),sm.next⟩):Ctr P g args m K':=by
 refine⟨h.1,fun W Φ ρ vs w hr ha hav=>(h.2 W Φ ρ vs w hr ha hav).mono fun e w' he=>?_⟩
 obtain⟨u,r,m1,Φ',ρ',e1,hE,hk1,hr',hR,hn,sm,rfl,hK⟩:=he
 obtain⟨S,hS⟩:=hk r sm hK
 obtain⟨Φs,f0,f1,f2,f3,f4⟩:=freezeS S hr'
 refine⟨u,fzW sm.get S 3 r,SMem.mem ⟨fzBl sm.get S (lessB S sm.bl),sm.next⟩,Φs,ρ',e1,hE.trans f0,hk1,⟨hr'.base,f1,fun b x hx=>?_,fun b b' x x' l l' h1 h2=>?_,hr'.fresh,f2⟩,fzW_R f0 f4 3 _ _ hR,hn,_,rfl,hS⟩
 ·obtain⟨y,hy,rfl⟩:=lookB_fzBl hx
  obtain⟨h1,h2⟩:=lookB_less hy
  obtain⟨l',o,g1,g2,g3,g4,g5⟩:=hr'.live b y h1
  have hm0:memN b S=false:=by
   cases hb:memN b S with
   | false=>rfl
   | true=>exact absurd (memN_iff.1 hb) h2
  refine⟨l',o,g1,g2,f3 b y l' h1 g1 hm0,g4,?_⟩
  cases y with
  | cells k els=>exact g5.fz f4
  | map es c=>exact g5.ext f0
  | siter s p=>exact g5.ext f0
  | miter a b c d=>exact g5.ext f0
 ·obtain⟨y,hy,rfl⟩:=lookB_fzBl h1
  obtain⟨y',hy',rfl⟩:=lookB_fzBl h2
  exact hr'.inj b b' y y' l l' (lookB_less hy).1 (lookB_less hy').1
end Go.AE
end
section
namespace Go.AE
open Go.RowKit
section
variable {P:Program} {n base:Nat}
theorem zops_wopsG {cw:CallW} (hcw:∀ fn args m id K,cwFn P fn args m id K→cw fn args m id K) {K:Env→SMem→Prop} {K':ASt→Prop} (hk:∀ e m,K e m→K' ⟨toE n e,m.mem⟩):∀ (ops:List AOper) (i:Nat) (e:Env) (m:SMem),
 zops P false n base ops i K e m→wopsG stepA cw base ops i K' (toE n e) m.mem
 | [],_,_,_,h=>hk _ _ h
 | o :: r,i,e,m,h=>by
  simp only[zops]at h
  simp only[wopsG,wantedE_eq]
  cases hw:wantedE n e o.guard with
  | none=>rw[hw]at h; exact h
  | some q=>
   rw[hw]at h
   cases q with
   | false=>
    simp only[toE_put]
    exact zops_wopsG hcw hk r _ _ _ h
   | true=>
    simp only[gdK]at h
    simp only
    have other:∀ op,stK (stepD (base+i) (evE n e) m.get op) (fun v d=>zops P false n base r (i+1) K (putE e o.dst v) (m.app d)) →
     (match stepA (base+i) (toE n e) m.mem op with|some (v,m')=>wopsG stepA cw base r (i+1) K' (put (toE n e) o.dst v) m'|none=>False):=by
     intro op hh
     cases hs:stepD (base+i) (evE n e) m.get op with
     | none=>rw[hs]at hh; exact hh.elim
     | some vd=>
      obtain⟨v,d⟩:=vd
      rw[hs]at hh
      have:=stepD_ok (t:=toE n e) (m:=m.mem) (op:=op) (v:=v) (d:=d) (id:=base+i) (by rw[ev_toE]; exact hs)
      rw[this]
      simp only[toE_put]
      rw[← SMem.app_mem]
      exact zops_wopsG hcw hk r _ _ _ hh
    cases hop:o.op with
    | call f xs=>
     simp only[hop]at h
     simp only
     cases hc:calleeE n e f xs with
     | none=>rw[hc]at h; exact h.elim
     | some ga=>
      obtain⟨g,args⟩:=ga
      rw[hc]at h
      rw[calleeF_E hc]
      simp only
      refine hcw _ _ _ _ _ ⟨g,rfl,?_⟩
      refine ACalls.mono (h:SC P g args m (base+i) _) fun v m'' hh=>?_
      obtain⟨m',rfl,hk'⟩:=hh
      simp only[toE_put]
      exact zops_wopsG hcw hk r _ _ _ hk'
    | _=>rw[hop]at h; exact other _ h
def wpR (P:Program) (n:Nat):ACode→(Exit→Env→SMem→Prop)→Env→SMem→Prop
 | .skip,Q,e,m=>Q .normal e m
 | .region false ops,Q,e,m=>zops P false n m.next ops 0 (Q .normal) e (m.at (m.next+ops.length))
 | .seq x y,Q,e,m=>wpR P n x (thenS (wpR P n y Q) Q) e m
 | .cond c x y,Q,e,m=>condK (evE n e c) (wpR P n x Q e m) (wpR P n y Q e m)
 | .block id c,Q,e,m=>wpR P n c (blockS id Q) e m
 | .ret,Q,e,m=>Q .ret e m
 | _,_,_,_=>False
def setE (e:Env):List (Nat×AVal)→Env
 | []=>e
 | (i,x) :: r=>setE ((i,x) :: e) r
end
structure Yd where
 b:Nat
 n:Nat
 ps:List Nat
 e:Env
 A:ACode
 B:ACode
 wr:List FuncId:=[]
def YC (P:Program) (y:Yd) (args:List AVal) (m:SMem) (K:AVal→SMem→Prop):Prop:=
 args.length=y.ps.length∧wpR P y.n y.A (fun x e m=>match x with
  | .normal=>wpR P y.n y.B (fun x _ m=>match x with
   | .normal=>K (.bool true) m
   | _=>False) e m
  | _=>False) (setE y.e (y.ps.zip args)) m
section
variable {P:Program} {y:Yd} {n n0 base:Nat}
def yops (P:Program) (y:Yd) (n base:Nat):List AOper→Nat→(Env→SMem→Prop)→Env→SMem→Prop
 | [],_,K,e,m=>K e m
 | o :: r,i,K,e,m=>gdK (wantedE n e o.guard)
  (match o.op with
  | .call f xs=>(match evE n e f with
   | .yld b=>b=y.b∧YC P y (xs.map (evE n e)) m fun v m'=>yops P y n base r (i+1) K (putE e o.dst v) m'
   | _=>False)
  | op=>stK (stepD (base+i) (evE n e) m.get op) fun v d=>yops P y n base r (i+1) K (putE e o.dst v) (m.app d))
  (yops P y n base r (i+1) K (putE e o.dst aundef) m)
def WC (P:Program) (g:FuncId) (args:List AVal) (k:Nat) (x:List Nat) (m:SMem) (K:List Nat→AVal→SMem→Prop):Prop:=
 ∃ wl v,∃ m':SMem,CallAt P g args k x m.mem v m'.mem wl∧K wl v m'
def xAf (base i n:Nat):List Nat:=upX n (base+i+1)
def xdw (P:Program) (keep:List Nat) (n base:Nat):List AOper→Nat→List (Nat×FT)→(Env→SMem→Prop)→Env→SMem→Prop
 | [],_,_,K,e,m=>K e m
 | o :: r,i,fs,K,e,m=>match wantedE n e o.guard with
  | some true=>(match o.op with
   | .call f xs=>(match calleeE n e f xs with
    | some (g,args)=>WC P g args (base+i) (xAf base i r.length) m fun wl v m'=>indF fs (.call wl (xAf base i r.length) m.next) o.un∧xdw P keep n base r (i+1) (recF keep i (.call wl (xAf base i r.length) m.next) fs) K (putE e o.dst v) m'
    | none=>False)
   | op=>(match stepD (base+i) (evE n e) m.get op with
    | some (v,d)=>indF fs (.ops (footWD (base+i) (evE n e) op) (footRD (evE n e) op)) o.un∧xdw P keep n base r (i+1) (recF keep i (.ops (footWD (base+i) (evE n e) op) (footRD (evE n e) op)) fs) K (putE e o.dst v) (m.app d)
    | none=>False))
  | some false=>xdw P keep n base r (i+1) (recF keep i (.ops [] []) fs) K (putE e o.dst aundef) m
  | none=>False
theorem xdw_dops {keep:List Nat} {K:Env→SMem→Prop}:∀ (ops:List AOper) (fs:List (Nat×FT)) (gs:List FT) (e:Env) (m:SMem),
 (∀ j f,lookF fs j=some f→gs.getD j (.ops [] [])=f∧j<gs.length)→xdw P keep n base ops gs.length fs K e m→dops P base ops gs (fun σ=>∃ e m,σ=⟨toE n e,SMem.mem m⟩∧K e m) (toE n e) m.mem
 | [],_,_,e,m,_,h=>⟨e,m,rfl,h⟩
 | o :: r,fs,gs,e,m,hr,h=>by
  have hl:∀ f:FT,(gs++[f]).length=gs.length+1:=fun f=>by simp
  have hrec:∀ f,∀ j g,lookF (recF keep gs.length f fs) j=some g→(gs++[f]).getD j (.ops [] [])=g∧j<(gs++[f]).length:=by
   intro f j g hj
   have old:∀ j g,lookF fs j=some g→(gs++[f]).getD j (.ops [] [])=g∧j<(gs++[f]).length:=fun j g h1=>by
    grind
   unfold recF at hj
   cases hm:memN gs.length keep with
   | false=>grind
   | true=>
    rw[hm]at hj
    simp only[cond_true,lookF]at hj
    grind
  simp only[xdw]at h
  simp only[dops,wantedE_eq]
  cases hw:wantedE n e o.guard with
  | none=>grind
  | some b=>
   rw[hw]at h
   cases b with
   | false=>
    simp only[toE_put]
    exact xdw_dops r _ _ _ _ (hrec _) (by rw[hl]; exact h)
   | true=>
    simp only at h ⊢
    have other:∀ op,(match stepD (base+gs.length) (evE n e) m.get op with
     | some (v,d)=>indF fs (.ops (footWD (base+gs.length) (evE n e) op) (footRD (evE n e) op)) o.un∧xdw P keep n base r (gs.length+1) (recF keep gs.length (.ops (footWD (base+gs.length) (evE n e) op) (footRD (evE n e) op)) fs) K (putE e o.dst v) (m.app d)
     | none=>False) →
     (match stepA (base+gs.length) (toE n e) m.mem op with|some (v,m')=>indepL gs (.ops (footW (base+gs.length) (toE n e) op) (footR (toE n e) op)) o.un∧dops P base r (gs++[.ops (footW (base+gs.length) (toE n e) op) (footR (toE n e) op)]) (fun σ=>∃ e m,σ=⟨toE n e,SMem.mem m⟩∧K e m) (put (toE n e) o.dst v) m'|none=>False):=by
     intro op hh
     cases hs:stepD (base+gs.length) (evE n e) m.get op with
     | none=>grind
     | some vd=>
      obtain⟨v,d⟩:=vd
      rw[hs]at hh
      have:=stepD_ok (m:=m.mem) (t:=toE n e) (id:=base+gs.length) (op:=op) (v:=v) (d:=d) (by rw[ev_toE]; exact hs)
      rw[this]
      simp only[toE_put,footWD_eq,footRD_eq,ev_toE]
      rw[← SMem.app_mem]
      exact⟨indF_L (fun j f hj=>(hr j f hj).1) hh.1,xdw_dops r _ _ _ _ (hrec _) (by rw[hl]; exact hh.2)⟩
    cases hop:o.op with
    | call f xs=>
     simp only[hop]at h
     simp only[calleeE_eq]
     cases hc:calleeE n e f xs with
     | none=>grind
     | some ga=>
      obtain⟨g,args⟩:=ga
      rw[hc]at h
      obtain⟨wl,v,m',h1,h0,h2⟩:=h
      refine⟨wl,_,v,_,h1,indF_L (fun j f hj=>(hr j f hj).1) h0,?_⟩
      simp only[toE_put]
      exact xdw_dops r _ _ _ _ (hrec _) (by rw[hl]; exact h2)
    | _=>(have hh:=other o.op; rw[hop]at h hh; exact hh h)
def isWo (l:List FuncId):AOp→Bool
 | .call (.fn g) _=>memN g l
 | _=>false
def isW (l:List FuncId):AOper→Bool
 | ⟨_,op,_,_⟩=>isWo l op
def isYo:AOp→Bool
 | .call (.tmp _) _=>true
 | _=>false
def isY:AOper→Bool
 | ⟨_,op,_,_⟩=>isYo op
def HB (H:HypW) (n0:Nat):HypW:=fun W Φ ρ=>∃ Φ0 ρ0,H W Φ0 ρ0∧(∀ b l,ρ0 b=some l→b<n0)∧(∀ B c,Φ0 B=some c→Φ B=some c) ∧ ∀ b,b<n0→ρ b=ρ0 b
theorem HB.get {H:HypW} (hM:H.Mono) {n0:Nat} {W:Base} {Φ:Pers} {ρ:Rho} (h:HB H n0 W Φ ρ):H W Φ ρ:=by
 obtain⟨Φ0,ρ0,h1,h2,h3,h4⟩:=h
 exact hM W Φ0 ρ0 Φ ρ h1 ⟨h3,fun b l hb=>by grind⟩
theorem ACallsH.mono {H:HypW} {f:FuncId} {args:List AVal} {m:Mem} {K K':AVal→Mem→Prop} (h:ACallsH H P f args m K) (hk:∀ r m',K r m'→K' r m'):ACallsH H P f args m K':=by
 refine⟨h.1,fun W Φ ρ hH vs w hr ha=>(h.2 W Φ ρ hH vs w hr ha).mono ?_⟩
 grind
def lessG (get:Nat→Option ABlk) (x:List Nat) (c:Nat):Option ABlk:=bif memN c x then none else get c
variable {Q:Exit→Env→SMem→Prop} {K:Env→SMem→Prop} {e:Env} {m:SMem}
theorem xdw_nil {keep:List Nat} {i:Nat} {fs:List (Nat×FT)}:xdw P keep n base [] i fs K e m=K e m:=propext Iff.rfl
theorem xdw_one {keep:List Nat} {i:Nat} {fs:List (Nat×FT)} (d:Option Nat) (op:AOp) (un:List Nat) (r:List AOper):xdw P keep n base (⟨d,op,none,un⟩ :: r) i fs K e m=match op with
 | .call f xs=>(match calleeE n e f xs with
  | some (g,args)=>WC P g args (base+i) (xAf base i r.length) m fun wl v m'=>indF fs (.call wl (xAf base i r.length) m.next) un∧xdw P keep n base r (i+1) (recF keep i (.call wl (xAf base i r.length) m.next) fs) K (putE e d v) m'
  | none=>False)
 | op=>(match stepD (base+i) (evE n e) m.get op with
  | some (v,w)=>indF fs (.ops (footWD (base+i) (evE n e) op) (footRD (evE n e) op)) un∧xdw P keep n base r (i+1) (recF keep i (.ops (footWD (base+i) (evE n e) op) (footRD (evE n e) op)) fs) K (putE e d v) (m.app w)
  | none=>False):=by
 cases op<;>rfl
@[congr] theorem WC_congr {g : FuncId} {args args' : List AVal} {k : Nat} {x : List Nat} {m : SMem} {K : List Nat → AVal → SMem → Prop} (h : args = args') : WC P g args k x m K = WC P g args' k x m K := by rw [h]
end
section
theorem isY_mk (d:Option Nat) (op:AOp) (g:Option (Nat×Bool)) (un:List Nat):isY ⟨d,op,g,un⟩=isYo op:=rfl
theorem isYo_fn (f:FuncId) (xs:List AOpd):isYo (.call (.fn f) xs)=false:=rfl
theorem isYo_tmp (t:Nat) (xs:List AOpd):isYo (.call (.tmp t) xs)=true:=rfl
theorem isW_mk (l:List FuncId) (d:Option Nat) (op:AOp) (g:Option (Nat×Bool)) (un:List Nat):isW l ⟨d,op,g,un⟩=isWo l op:=rfl
theorem isWo_fn (l:List FuncId) (f:FuncId) (xs:List AOpd):isWo l (.call (.fn f) xs)=memN f l:=rfl
theorem isWo_tmp (l:List FuncId) (t:Nat) (xs:List AOpd):isWo l (.call (.tmp t) xs)=false:=rfl
theorem isYo_mov (x:AOpd):isYo (.mov x)=false:=rfl
theorem isWo_mov (l:List FuncId) (x:AOpd):isWo l (.mov x)=false:=rfl
theorem isYo_load (n:Option Nat) (x:AOpd):isYo (.load n x)=false:=rfl
theorem isWo_load (l:List FuncId) (n:Option Nat) (x:AOpd):isWo l (.load n x)=false:=rfl
theorem isYo_store (n:Nat) (a x:AOpd):isYo (.store n a x)=false:=rfl
theorem isWo_store (l:List FuncId) (n:Nat) (a x:AOpd):isWo l (.store n a x)=false:=rfl
theorem isYo_fieldA (o:Nat) (x:AOpd):isYo (.fieldA o x)=false:=rfl
theorem isWo_fieldA (l:List FuncId) (o:Nat) (x:AOpd):isWo l (.fieldA o x)=false:=rfl
theorem isYo_idxA (k:Nat) (x i:AOpd):isYo (.idxA k x i)=false:=rfl
theorem isWo_idxA (l:List FuncId) (k:Nat) (x i:AOpd):isWo l (.idxA k x i)=false:=rfl
theorem isYo_lenSl (x:AOpd):isYo (.lenSl x)=false:=rfl
theorem isWo_lenSl (l:List FuncId) (x:AOpd):isWo l (.lenSl x)=false:=rfl
theorem isYo_nilChk (x:AOpd):isYo (.nilChk x)=false:=rfl
theorem isWo_nilChk (l:List FuncId) (x:AOpd):isWo l (.nilChk x)=false:=rfl
theorem isYo_un (o:UnOp) (x:AOpd):isYo (.un o x)=false:=rfl
theorem isWo_un (l:List FuncId) (o:UnOp) (x:AOpd):isWo l (.un o x)=false:=rfl
theorem isYo_pick (c a b:AOpd):isYo (.pick c a b)=false:=rfl
theorem isWo_pick (l:List FuncId) (c a b:AOpd):isWo l (.pick c a b)=false:=rfl
theorem isYo_bin (o:BinOp) (q:EqT) (x y:AOpd):isYo (.bin o q x y)=false:=rfl
theorem isWo_bin (l:List FuncId) (o:BinOp) (q:EqT) (x y:AOpd):isWo l (.bin o q x y)=false:=rfl
theorem isYo_alloc (z:List AVal):isYo (.alloc z)=false:=rfl
theorem isWo_alloc (l:List FuncId) (z:List AVal):isWo l (.alloc z)=false:=rfl
theorem isYo_build (z:List AVal) (p:List (Nat×Nat×AOpd)):isYo (.build z p)=false:=rfl
theorem isWo_build (l:List FuncId) (z:List AVal) (p:List (Nat×Nat×AOpd)):isWo l (.build z p)=false:=rfl
theorem isYo_mkSl (k n:Nat) (z:List AVal) (p:List (Nat×AOpd)):isYo (.mkSl k n z p)=false:=rfl
theorem isWo_mkSl (l:List FuncId) (k n:Nat) (z:List AVal) (p:List (Nat×AOpd)):isWo l (.mkSl k n z p)=false:=rfl
theorem isYo_append (k b:Nat) (z:List AVal) (s x:AOpd):isYo (.append k b z s x)=false:=rfl
theorem isWo_append (l:List FuncId) (k b:Nat) (z:List AVal) (s x:AOpd):isWo l (.append k b z s x)=false:=rfl
theorem isYo_lookup (t:KeyT) (z:AVal) (o:Bool) (x i:AOpd):isYo (.lookup t z o x i)=false:=rfl
theorem isWo_lookup (l:List FuncId) (t:KeyT) (z:AVal) (o:Bool) (x i:AOpd):isWo l (.lookup t z o x i)=false:=rfl
theorem isYo_mapUpd (t:KeyT) (a b c:AOpd):isYo (.mapUpd t a b c)=false:=rfl
theorem isWo_mapUpd (l:List FuncId) (t:KeyT) (a b c:AOpd):isWo l (.mapUpd t a b c)=false:=rfl
theorem isYo_mkMap:isYo (.mkMap)=false:=rfl
theorem isWo_mkMap (l:List FuncId):isWo l (.mkMap)=false:=rfl
attribute [simp] isY_mk isYo_fn isYo_tmp isW_mk isWo_fn isWo_tmp isYo_mov isWo_mov isYo_load isWo_load isYo_store isWo_store isYo_fieldA isWo_fieldA isYo_idxA isWo_idxA isYo_lenSl isWo_lenSl isYo_nilChk isWo_nilChk isYo_un isWo_un isYo_pick isWo_pick isYo_bin isWo_bin isYo_alloc isWo_alloc isYo_build isWo_build isYo_mkSl isWo_mkSl isYo_append isWo_append isYo_lookup isWo_lookup isYo_mapUpd isWo_mapUpd isYo_mkMap isWo_mkMap
end
end Go.AE
end
