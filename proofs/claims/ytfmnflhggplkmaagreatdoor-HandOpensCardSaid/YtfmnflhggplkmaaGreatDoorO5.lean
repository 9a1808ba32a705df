/- Part 5 of the proof: AeE, AeF. -/
import Derived.Test.YtfmnflhggplkmaaGreatDoorO4
import Derived.Deep.LoopGhost
import Derived.Scope
set_option linter.all false
section
namespace Go.AE
open Go.RowKit
theorem RL.sub {Φ:Pers} {ρ:Rho} {xs ys:List AVal} {vs:Array Value} (h:RL Φ ρ xs vs) (hl:ys.length=xs.length) (ht:∀ (i:Nat) (x:AVal),ys[i]? = some x→x=AVal.bot∨xs[i]? = some x):RL Φ ρ ys vs:=by
 refine⟨by rw[h.1,hl],fun i x v hx hv=>?_⟩
 rcases ht i x hx with rfl|h1
 ·exact .bot v
 ·exact h.2 i x v h1 hv
theorem ASt.Weak.refl (σ:ASt):ASt.Weak σ σ:=⟨Nat.le_refl _,fun _ Φ _ _ _ hr ht=>⟨Φ,.refl _ _,hr,ht⟩⟩
theorem ASt.Weak.trans {a b c:ASt} (h:ASt.Weak a b) (h':ASt.Weak b c):ASt.Weak a c:=
 ⟨Nat.le_trans h'.next h.next,fun W Φ ρ vs w hr ht=>by
  obtain⟨Φ1,e1,r1,t1⟩:=h'.rel W Φ ρ vs w hr ht
  obtain⟨Φ2,e2,r2,t2⟩:=h.rel W Φ1 ρ vs w r1 t1
  exact⟨Φ2,e1.trans e2,r2,t2⟩⟩
theorem ASt.Weak.of_sub {σ' σ:ASt} (hl:σ'.t.length=σ.t.length) (ht:∀ (i:Nat) (x:AVal),σ'.t[i]? = some x→x=AVal.bot∨σ.t[i]? = some x) (hm:Mem.Sub σ'.m σ.m):ASt.Weak σ' σ:=
 ⟨hm.next,fun _ Φ _ _ _ hr htt=>⟨Φ,.refl _ _,hr.sub hm,htt.sub hl ht⟩⟩
theorem lift_trans {W:Base} {Φ Φ':Pers} {ρ ρ':Rho} {n n':Nat} {Q:Exit→ASt→Prop} {e:Exit} {a:Act} {w:World} (he:Ext Φ ρ Φ' ρ') (hk:KeepN n ρ ρ') (hn:n≤n')
 (h:lift W Φ' ρ' n' Q e a w):lift W Φ ρ n Q e a w:=by
 obtain⟨σ,Φ'',ρ'',h1,h2,h3,h4,h5,h6,h7⟩:=h
 exact⟨σ,Φ'',ρ'',he.trans h1,hk.trans h2 hn,Nat.le_trans hn h3,h4,h5,h6,h7⟩
theorem lift_mono {W:Base} {Φ:Pers} {ρ:Rho} {n:Nat} {Q Q':Exit→ASt→Prop} {e:Exit} {a:Act} {w:World} (h:lift W Φ ρ n Q e a w) (hq:∀ σ,Q e σ→Q' e σ):lift W Φ ρ n Q' e a w:=by
 obtain⟨σ,Φ'',ρ'',h1,h2,h3,h4,h5,h6,h7⟩:=h
 exact⟨σ,Φ'',ρ'',h1,h2,h3,h4,h5,h6,hq σ h7⟩
theorem RL.get {Φ:Pers} {ρ:Rho} {t:List AVal} {vs:Array Value} (h:RL Φ ρ t vs) (i:Nat):R Φ ρ (t.getD i aundef) (vs.getD i undef):=by
 rcases Nat.lt_or_ge i t.length with hi|hi
 ·have h1:t[i]? = some t[i]:=List.getElem?_eq_getElem hi
  have hi':i<vs.size:=by rw[h.1]; exact hi
  have h2:vs[i]? = some vs[i]:=Array.getElem?_eq_getElem hi'
  have:=h.2 i _ _ h1 h2
  simpa[List.getD,h1,Array.getD,hi']using this
 ·have h1:t[i]? = none:=List.getElem?_eq_none hi
  have hi':¬i<vs.size:=by rw[h.1]; omega
  have e1:t.getD i aundef=aundef:=by simp[List.getD,h1]
  have e2:vs.getD i undef=undef:=by simp[Array.getD,hi']
  rw[e1,e2]
  exact .tuple [] #[] rfl (fun i x v hx=>by simp at hx)
theorem absC_R {v:Value} {x:AVal} (Φ:Pers) (ρ:Rho) (h:absC v=some x):R Φ ρ x v:=by
 unfold absC at h
 split at h<;>first|(cases h; done)|skip
 ·injection h with h; subst h; exact .bool _
 ·injection h with h; subst h; exact .int _ _
 ·injection h with h; subst h; rename_i s; cases s; rename_i d; cases d; exact .str _
 ·injection h with h; subst h; exact .nilPtr
 ·injection h with h; subst h; exact .nilSl
 ·injection h with h; subst h; exact .nilMap
 ·injection h with h; subst h; exact .nilFunc
 ·injection h with h; subst h; exact .nilIface
 ·rename_i vs
  split at h
  ·rename_i h0
   injection h with h; subst h
   exact .tuple [] vs (by simpa using h0) (fun i x v hx=>by simp at hx)
  ·cases h
theorem absCs_R (Φ:Pers) (ρ:Rho):∀ (vs:List Value) (xs:List AVal),absCs vs=some xs→xs.length=vs.length ∧ ∀(i:Nat) (x:AVal) (v:Value),xs[i]? = some x→vs[i]? = some v→R Φ ρ x v
 | [],xs,h=>by
  simp only[absCs,Option.some.injEq]at h
  subst h
  exact⟨rfl,fun i x v hx=>by simp at hx⟩
 | v :: r,xs,h=>by
  simp only[absCs]at h
  cases h1:absC v with
  | none=>simp[h1]at h
  | some y=>
   cases h2:absCs r with
   | none=>simp[h1,h2]at h
   | some ys=>
    simp only[h1,h2,Option.some.injEq]at h
    subst h
    obtain⟨h3,h4⟩:=absCs_R Φ ρ r ys h2
    refine⟨by simp[h3],fun i x v' hx hv=>?_⟩
    cases i with
    | zero=>
     simp only[List.getElem?_cons_zero,Option.some.injEq]at hx hv
     subst hx; subst hv
     exact absC_R Φ ρ h1
    | succ i=>
     simp only[List.getElem?_cons_succ]at hx hv
     exact h4 i x v' hx hv
theorem absV_R {v:Value} {x:AVal} (Φ:Pers) (ρ:Rho) (h:absV v=some x):R Φ ρ x v:=by
 unfold absV at h
 split at h
 ·rename_i cs
  split at h
  ·rename_i xs hxs
   injection h with h
   subst h
   obtain⟨h1,h2⟩:=absCs_R Φ ρ _ _ hxs
   exact .agg _ _ (by simp[h1]) (fun i x v hx hv=>h2 i x v hx (by simpa using hv))
  ·cases h
 ·exact absC_R Φ ρ h
theorem ev_R {Φ:Pers} {ρ:Rho} {t:List AVal} {a:Act} (h:RL Φ ρ t a.tmps) {x:Operand} {y:AOpd} (hx:cOpd x=some y):R Φ ρ (ev t y) (a.eval x):=by
 cases x with
 | tmp i=>
  simp only[cOpd,Option.some.injEq]at hx
  subst hx
  exact h.get i
 | const v=>
  simp only[cOpd]at hx
  split at hx
  ·rename_i z hz
   injection hx with hx
   subst hx
   exact absV_R Φ ρ hz
  ·cases hx
 | global g=>simp[cOpd]at hx
 | func f=>
  simp only[cOpd,Option.some.injEq]at hx
  subst hx
  exact .func _ [] [] #[] #[] rfl rfl (fun i x v hx=>by simp at hx) (fun i x v hx=>by simp at hx)
theorem cOpds_R {Φ:Pers} {ρ:Rho} {t:List AVal} {a:Act} (h:RL Φ ρ t a.tmps):∀ (xs:List Operand) (ys:List AOpd),cOpds xs=some ys →
 ys.length=xs.length ∧ ∀(i:Nat) (y:AOpd) (x:Operand),ys[i]? = some y→xs[i]? = some x→cOpd x=some y
 | [],ys,hx=>by
  simp only[cOpds,Option.some.injEq]at hx
  subst hx
  exact⟨rfl,fun i y x hy=>by simp at hy⟩
 | z :: r,ys,hx=>by
  simp only[cOpds]at hx
  cases h1:cOpd z with
  | none=>simp[h1]at hx
  | some y=>
   cases h2:cOpds r with
   | none=>simp[h1,h2]at hx
   | some ys'=>
    simp only[h1,h2,Option.some.injEq]at hx
    subst hx
    obtain⟨h3,h4⟩:=cOpds_R h r ys' h2
    refine⟨by simp[h3],fun i y' x' hy hx'=>?_⟩
    cases i with
    | zero=>
     simp only[List.getElem?_cons_zero,Option.some.injEq]at hy hx'
     subst hy; subst hx'
     exact h1
    | succ i=>
     simp only[List.getElem?_cons_succ]at hy hx'
     exact h4 i y' x' hy hx'
theorem sound_of {P:Program}
 (hreg:∀ (id:Nat) (ops:Array Oper) (draw:Bool) (Q:Exit→ASt→Prop) (σ:ASt),wpc P (cCode P (.region id ops draw)) Q σ→AWp P (.region id ops draw) Q σ) :
 ∀(c:Code) (Q:Exit→ASt→Prop) (σ:ASt),wpc P (cCode P c) Q σ→AWp P c Q σ:=by
 intro c
 induction c with
 | skip=>exact fun Q σ h W Φ ρ a w hr ht hd=>wp_skip ⟨σ,Φ,ρ,.refl _ _,.refl _ _,Nat.le_refl _,hr,ht,hd,h⟩
 | region id ops draw=>exact fun Q σ h=>hreg id ops draw Q σ h
 | seq x y ihx ihy=>
  intro Q σ h W Φ ρ a w hr ht hd
  simp only[cCode,wpc]at h
  refine wp_seq (wp_mono (ihx _ _ h W Φ ρ a w hr ht hd) ?_)
  intro e a' w' hl
  have key:∀ e',e=e'→e'≠.normal→lift W Φ ρ σ.m.next Q e a' w':=by
   intro e' he hne
   refine lift_mono hl fun σ' hq=>?_
   subst he
   cases e<;>first|exact absurd rfl hne|exact hq
  cases e with
  | normal=>
   obtain⟨σ',Φ',ρ',h1,h2,h3,h4,h5,h6,h7⟩:=hl
   exact wp_mono (ihy _ _ h7 W Φ' ρ' a' w' h4 h5 h6) fun e a w hl'=>lift_trans h1 h2 h3 hl'
  | exit i=>exact key _ rfl (by simp)
  | goto l=>exact key _ rfl (by simp)
  | ret=>exact key _ rfl (by simp)
  | panic ch=>exact key _ rfl (by simp)
  | outgrown=>exact key _ rfl (by simp)
 | cond c x y ihx ihy=>
  intro Q σ h W Φ ρ a w hr ht hd
  simp only[cCode]at h
  cases hc:cOpd c with
  | none=>simp[hc,wpc]at h
  | some c'=>
   simp only[hc,wpc]at h
   have hv:=ev_R ht hc
   generalize ev σ.t c'=z at h hv
   split at h
   ·generalize hz:a.eval c=v at hv
    cases hv
    exact wp_cond_true hz (ihx _ _ h W Φ ρ a w hr ht hd)
   ·generalize hz:a.eval c=v at hv
    cases hv
    exact wp_cond_false hz (ihy _ _ h W Φ ρ a w hr ht hd)
   ·exact h.elim
 | block id c ih=>
  intro Q σ h W Φ ρ a w hr ht hd
  simp only[cCode,wpc]at h
  refine wp_block (wp_mono (ih _ _ h W Φ ρ a w hr ht hd) ?_)
  intro e a' w' hl
  cases e with
  | exit i=>
   simp only[Exit.inBlock]
   obtain⟨σ',Φ',ρ',h1,h2,h3,h4,h5,h6,h7⟩:=hl
   simp only[blockA]at h7
   split
   ·rename_i hi
    rw[if_pos hi]at h7
    exact⟨σ',Φ',ρ',h1,h2,h3,h4,h5,h6,h7⟩
   ·rename_i hi
    rw[if_neg hi]at h7
    exact⟨σ',Φ',ρ',h1,h2,h3,h4,h5,h6,h7⟩
  | normal=>exact hl
  | goto l=>exact hl
  | ret=>exact hl
  | panic ch=>exact hl
  | outgrown=>exact hl
 | loop c ih=>
  intro Q σ h W Φ ρ a w hr ht hd
  simp only[cCode,wpc]at h
  obtain⟨I,⟨n0,σ0,hs0,h0⟩,hround⟩:=h
  obtain⟨Φ1,hE1,hr1,ht1⟩:=hs0.rel W Φ ρ a.tmps w hr ht
  refine wp_loop_ghost (fun n a' w'=>∃ σ' Φ' ρ',Ext Φ ρ Φ' ρ'∧KeepN σ.m.next ρ ρ'∧σ.m.next≤σ'.m.next∧Rel W Φ' ρ' σ'.m w'∧RL Φ' ρ' σ'.t a'.tmps∧a'.defers=[]∧I n σ') n0
   ⟨σ0,Φ1,ρ,hE1,.refl _ _,hs0.next,hr1,ht1,hd,h0⟩ ?_
  rintro n a' w' ⟨σ',Φ',ρ',h1,h2,h3,h4,h5,h6,h7⟩
  refine wp_mono (ih _ _ (hround n σ' h7) W Φ' ρ' a' w' h4 h5 h6) ?_
  intro e a'' w'' hl
  have key:∀ e',e=e'→e'≠.normal→lift W Φ ρ σ.m.next Q e a'' w'':=by
   intro e' he hne
   refine lift_trans h1 h2 h3 (lift_mono hl fun σ'' hq=>?_)
   subst he
   cases e<;>first|exact absurd rfl hne|exact hq
  cases e with
  | normal=>
   obtain⟨σ'',Φ'',ρ'',g1,g2,g3,g4,g5,g6,k,σ0,g7,g8,g9⟩:=hl
   obtain⟨Φ3,hE3,hr3,ht3⟩:=g8.rel W Φ'' ρ'' _ _ g4 g5
   exact⟨k,g7,σ0,Φ3,ρ'',(h1.trans g1).trans hE3,h2.trans g2 h3,Nat.le_trans (Nat.le_trans h3 g3) g8.next,hr3,ht3,g6,g9⟩
  | exit i=>exact key _ rfl (by simp)
  | goto l=>exact key _ rfl (by simp)
  | ret=>exact key _ rfl (by simp)
  | panic ch=>exact key _ rfl (by simp)
  | outgrown=>exact key _ rfl (by simp)
 | exit id=>exact fun Q σ h W Φ ρ a w hr ht hd=>wp_exit ⟨σ,Φ,ρ,.refl _ _,.refl _ _,Nat.le_refl _,hr,ht,hd,h⟩
 | scope c ih=>
  intro Q σ h W Φ ρ a w hr ht hd
  simp only[cCode,wpc]at h
  refine wp_scope_straight (wp_mono (ih _ _ h W Φ ρ a w hr ht hd) ?_)
  intro e a' w' hl
  cases e with
  | goto l=>
   obtain⟨σ',Φ',ρ',h1,h2,h3,h4,h5,h6,h7⟩:=hl
   exact h7.elim
  | normal=>exact hl
  | exit i=>exact hl
  | ret=>exact hl
  | panic ch=>exact hl
  | outgrown=>exact hl
 | label l=>exact fun Q σ h W Φ ρ a w hr ht hd=>wp_label ⟨σ,Φ,ρ,.refl _ _,.refl _ _,Nat.le_refl _,hr,ht,hd,h⟩
 | ret=>exact fun Q σ h W Φ ρ a w hr ht hd=>wp_ret ⟨σ,Φ,ρ,.refl _ _,.refl _ _,Nat.le_refl _,hr,ht,hd,h⟩
 | rangeFunc f ps x y _ _=>exact fun Q σ h=>by simp[cCode,wpc]at h
 | goto l=>exact fun Q σ h=>by simp[cCode,wpc]at h
 | refuse s=>exact fun Q σ h=>by simp[cCode,wpc]at h
end Go.AE
end
section
namespace Go.AE
open Go.RowKit
section runs
variable {P:Program} {w:World}
theorem r_und {t:TypeId} {d:TypeDesc} (h:P.underlying t=some d):(underlying t).run P w=.ok d w:=by simp[underlying,h]
theorem r_info {t:TypeId} {i:TypeInfo} (h:P.info? t=some i):(typeInfo t).run P w=.ok i w:=by simp[typeInfo,h]
theorem r_size {t:TypeId} {i:TypeInfo} (h:P.info? t=some i):(sizeOf t).run P w=.ok i.size w:=by simp[sizeOf,r_info h]
theorem r_zero {t:TypeId} {i:TypeInfo} {z:Value} (h:P.info? t=some i) (hz:i.zero=some z):(zeroValue t).run P w=.ok z w:=by simp[zeroValue,r_info h,hz]
end runs
theorem Addr.add_none (B o n:Nat):(Addr.add ⟨B,o,none⟩ n)=⟨B,o+n,none⟩:=by
 unfold Addr.add
 split
 ·rename_i h; simp[h]
 ·rfl
def putBlk (w:World) (B:Nat) (o:Obj):World:={ w with heap:=w.heap.setIfInBounds B o }
theorem putBlk_get (w:World) (B C:Nat) (o:Obj):(putBlk w B o).heap[C]? = if B=C∧B<w.heap.size then some o else w.heap[C]?:=by
 unfold putBlk
 simp only[Array.getElem?_setIfInBounds]
 by_cases h:B=C
 ·subst h
  by_cases h2:B<w.heap.size<;>simp[h2]
 ·simp[h]
theorem putBlk_putBlk (w:World) (B:Nat) (o o':Obj):putBlk (putBlk w B o) B o'=putBlk w B o':=by
 unfold putBlk
 simp[Array.setIfInBounds_setIfInBounds]
theorem putBlk_self {w:World} {B:Nat} {o:Obj} (h:w.heap[B]? = some o):putBlk w B o=w:=by
 unfold putBlk
 have:w.heap.setIfInBounds B o=w.heap:=by
  apply Array.ext_getElem?
  intro i
  rw[Array.getElem?_setIfInBounds]
  by_cases hi:B=i
  ·subst hi
   rw[if_pos rfl]
   have hB:B<w.heap.size:=by
    rcases Nat.lt_or_ge B w.heap.size with h'|h'
    ·exact h'
    ·rw[Array.getElem?_eq_none h']at h; cases h
   rw[if_pos hB,h]
  ·rw[if_neg hi]
 rw[this]
theorem setCell_put {w:World} {B off:Nat} {c:Array Value} {e:TypeId} {fz:Nat×Nat} (h:w.heap[B]? = some (.cells c e fz)) (v:Value) :
 w.setCell ⟨B,off,none⟩ v=putBlk w B (.cells (c.setIfInBounds off v) e fz):=by
 unfold World.setCell putBlk
 congr 1
 apply Array.ext_getElem?
 intro i
 rw[Array.getElem?_modify,Array.getElem?_setIfInBounds]
 by_cases hi:B=i
 ·subst hi
  have hB:B<w.heap.size:=by
   rcases Nat.lt_or_ge B w.heap.size with h'|h'
   ·exact h'
   ·rw[Array.getElem?_eq_none h']at h; cases h
  have hget:w.heap[B]=.cells c e fz:=by rw[Array.getElem?_eq_getElem hB]at h; injection h
  simp[hB,hget]
 ·simp[hi]
def setFrom (c:Array Value) (off:Nat):List Value→Array Value
 | []=>c
 | v :: r=>setFrom (c.setIfInBounds off v) (off+1) r
theorem setFrom_size (vs:List Value):∀ (c:Array Value) (off:Nat),(setFrom c off vs).size=c.size:=by
 induction vs with
 | nil=>intro c off; rfl
 | cons v r ih=>intro c off; simp[setFrom,ih]
theorem setFrom_one (vs:List Value):∀ (c:Array Value) (off:Nat),(∀ v,v∈c.toList→v.oneCell'=true)→(∀ v,v∈vs→v.oneCell'=true) → ∀ v,v∈(setFrom c off vs).toList→v.oneCell'=true:=by
 induction vs with
 | nil=>intro c off h _; exact h
 | cons x r ih=>
  intro c off h h1
  refine ih _ _ (fun v hv=>?_) (fun v hv=>h1 v (List.mem_cons_of_mem _ hv))
  rw[Array.toList_setIfInBounds]at hv
  rcases List.mem_or_eq_of_mem_set hv with hv|hv
  ·exact h v hv
  ·subst hv; exact h1 _ (List.mem_cons_self ..)
theorem setFrom_get (vs:List Value):∀ (c:Array Value) (off p:Nat),(setFrom c off vs)[p]? = if off≤p∧p<off+vs.length∧p<c.size then vs[p - off]? else c[p]?:=by
 induction vs with
 | nil=>intro c off p; simp[setFrom]; intro h1 h2; omega
 | cons v r ih=>
  intro c off p
  simp only[setFrom,ih,Array.size_setIfInBounds,List.length_cons,Array.getElem?_setIfInBounds]
  by_cases h1:off+1≤p∧p<off+1+r.length∧p<c.size
  ·rw[if_pos h1,if_pos (by omega)]
   have:p - off=(p - (off+1))+1:=by omega
   rw[this,List.getElem?_cons_succ]
  ·rw[if_neg h1]
   by_cases h2:off=p
   ·subst h2
    by_cases h3:off<c.size
    ·simp[h3]
    ·simp[h3]
   ·rw[if_neg h2,if_neg (by omega)]
theorem run_storeCells {P:Program} {B o:Nat} {e:TypeId}:∀ (vs:List Value) (i:Nat) (w:World) (c:Array Value),(∀ v,v∈vs→v.oneCell'=true)→w.heap[B]? = some (.cells c e (0,0))→o+i+vs.length≤c.size →
 (storeCells ⟨B,o,none⟩ vs i).run P w=.ok () (putBlk w B (.cells (setFrom c (o+i) vs) e (0,0)))
 | [],i,w,c,_,h,_=>by
  simp only[storeCells,setFrom,Sem.run_pure,putBlk_self h]
 | v :: r,i,w,c,hv,h,hl=>by
  simp only[List.length_cons]at hl
  have hcell:w.cell? (Addr.add ⟨B,o,none⟩ i)=some c[o+i]:=by
   rw[Addr.add_none]
   simp only[World.cell?,h,Option.isSome_none,Bool.false_eq_true,if_false]
   exact Array.getElem?_eq_getElem (by omega)
  have hfz:w.frozen? (Addr.add ⟨B,o,none⟩ i)=false:=by
   rw[Addr.add_none]
   simp[World.frozen?,h]
  have hB:B<w.heap.size:=by
   rcases Nat.lt_or_ge B w.heap.size with h'|h'
   ·exact h'
   ·rw[Array.getElem?_eq_none h']at h; cases h
  have hset:=setCell_put (off:=o+i) h v
  have h2:(putBlk w B (.cells (c.setIfInBounds (o+i) v) e (0,0))).heap[B]? = some (.cells (c.setIfInBounds (o+i) v) e (0,0)):=by
   rw[putBlk_get]; simp[hB]
  have ih:=run_storeCells (P:=P) (B:=B) (o:=o) (e:=e) r (i+1) _ (c.setIfInBounds (o+i) v) (fun u hu=>hv u (List.mem_cons_of_mem _ hu)) h2 (by simp; omega)
  rw[storeCells,Sem.run_bind,run_store _ _ _ _ _ (hv v List.mem_cons_self),hcell,hfz]
  simp only[Bool.false_eq_true,if_false,Result.andThen_ok]
  rw[Addr.add_none,hset,ih,putBlk_putBlk]
  rfl
theorem run_loadCellsFrom {P:Program} {w:World} {B o:Nat} {c:Array Value} {e:TypeId} {fz:Nat×Nat} (h:w.heap[B]? = some (.cells c e fz)):∀ (n i:Nat) (acc:Array Value),o+i+n≤c.size →
 (loadCellsFrom ⟨B,o,none⟩ i n acc).run P w=.ok (acc++(c.extract (o+i) (o+i+n))) w
 | 0,i,acc,_=>by simp[loadCellsFrom]; omega
 | n+1,i,acc,hl=>by
  have hcell:w.cell? (Addr.add ⟨B,o,none⟩ i)=some c[o+i]:=by
   rw[Addr.add_none]
   simp only[World.cell?,h,Option.isSome_none,Bool.false_eq_true,if_false]
   exact Array.getElem?_eq_getElem (by omega)
  rw[loadCellsFrom,Sem.run_bind,run_load,hcell]
  simp only[Result.andThen_ok]
  rw[run_loadCellsFrom h n (i+1) _ (by omega)]
  congr 1
  apply Array.ext_getElem?
  intro q
  simp only[Array.getElem?_append,Array.size_push,Array.getElem?_extract,Array.getElem?_push]
  by_cases h1:q<acc.size
  ·rw[if_pos (by omega),if_neg (by omega),if_pos h1]
  ·rw[if_neg h1]
   by_cases h2:q=acc.size
   ·subst h2
    have e0:o+i<c.size:=by omega
    simp[e0]
    omega
   ·rw[if_neg (by omega)]
    have e1:o+(i+1)+(q - (acc.size+1))=o+i+(q - acc.size):=by omega
    rw[e1]
    by_cases h3:q - acc.size<n+1
    ·rw[if_pos (by omega),if_pos (by omega)]
    ·rw[if_neg (by omega),if_neg (by omega)]
theorem run_loadCells {P:Program} {w:World} {B o n:Nat} {c:Array Value} {e:TypeId} {fz:Nat×Nat} (h:w.heap[B]? = some (.cells c e fz)) (hl:o+n≤c.size) :
 (loadCells ⟨B,o,none⟩ n).run P w=.ok (c.extract o (o+n)) w:=by
 rw[loadCells,run_loadCellsFrom h n 0 #[] (by omega)]
 simp
theorem Base.Holds.put {W:Base} {w:World} {B:Nat} {o:Obj} (h:W.Holds w) (hB:W.Free B):W.Holds (putBlk w B o):=by
 refine⟨h.below.trans ⟨rfl,rfl,rfl,by simp[putBlk],fun k hk=>?_⟩,fun k o' hk=>?_⟩
 ·have:=hB.1
  rw[putBlk_get,if_neg (by omega)]
 ·rw[putBlk_get,if_neg]
  ·exact h.prot k o' hk
  ·rintro⟨rfl,_⟩
   rw[hB.2]at hk; cases hk
theorem Base.Holds.alloc {W:Base} {w:World} (h:W.Holds w) (o:Obj):W.Holds (w.alloc o):=
 ⟨h.below.alloc h.below.size o,fun k o' hk=>by
  have ho:=h.prot k o' hk
  rw[Below.heap_alloc w o k (heap_lt ho)]; exact ho⟩
theorem Base.Holds.next_free {W:Base} {w:World} (h:W.Holds w):W.Free w.heap.size:=by
 refine⟨h.below.size,?_⟩
 cases hg:W.g w.heap.size with
 | none=>rfl
 | some o=>exact absurd (heap_lt (h.prot _ _ hg)) (Nat.lt_irrefl _)
theorem rel_put {W:Base} {Φ:Pers} {ρ:Rho} {m:Mem} {w:World} {b:Nat} {x x':ABlk} {l:Loc} {o':Obj} (h:Rel W Φ ρ m w) (hb:m.get b=some x) (hl:ρ b=some l)
 (hr:BR Φ ρ x' l o'):Rel W Φ ρ (m.set b x') (putBlk w l.blk o'):=by
 obtain⟨l0,o,g1,g2,g3,g4,g5⟩:=h.live b x hb
 rw[hl]at g1
 injection g1 with g1
 subst g1
 have hlt:l.blk<w.heap.size:=by
  rcases Nat.lt_or_ge l.blk w.heap.size with h'|h'
  ·exact h'
  ·rw[Array.getElem?_eq_none h']at g4; cases g4
 refine⟨?_,?_,?_,?_,h.fresh,h.newp⟩
 ·exact h.base.put g2
 ·intro B c hB
  obtain⟨e,fz,ho⟩:=h.pers B c hB
  refine⟨e,fz,?_⟩
  rw[putBlk_get,if_neg]
  ·exact ho
  ·rintro⟨rfl,_⟩
   rw[hB]at g3; cases g3
 ·intro b' y hy
  simp only[Mem.get_set]at hy
  by_cases hbb:b'=b
  ·subst hbb
   rw[if_pos rfl]at hy
   injection hy with hy
   subst hy
   exact⟨l,o',hl,g2,g3,by rw[putBlk_get,if_pos ⟨rfl,hlt⟩],hr⟩
  ·rw[if_neg hbb]at hy
   obtain⟨l',o'',k1,k2,k3,k4,k5⟩:=h.live b' y hy
   refine⟨l',o'',k1,k2,k3,?_,k5⟩
   rw[putBlk_get,if_neg]
   ·exact k4
   ·rintro⟨he,_⟩
    exact hbb (h.inj b' b y x l' l hy hb k1 hl he.symm)
 ·intro b1 b2 y1 y2 l1 l2 h1 h2 k1 k2 he
  have e1:∃ y,m.get b1=some y:=by
   simp only[Mem.get_set]at h1
   by_cases hbb:b1=b
   ·exact⟨x,by rw[hbb]; exact hb⟩
   ·rw[if_neg hbb]at h1; exact⟨_,h1⟩
  have e2:∃ y,m.get b2=some y:=by
   simp only[Mem.get_set]at h2
   by_cases hbb:b2=b
   ·exact⟨x,by rw[hbb]; exact hb⟩
   ·rw[if_neg hbb]at h2; exact⟨_,h2⟩
  obtain⟨z1,e1⟩:=e1
  obtain⟨z2,e2⟩:=e2
  exact h.inj b1 b2 z1 z2 l1 l2 e1 e2 k1 k2 he
def Rho.put (ρ:Rho) (b:Nat) (l:Loc):Rho:=fun c=>if c=b then some l else ρ c
theorem Rho.ext_put {Φ:Pers} {ρ:Rho} {b:Nat} {l:Loc} (h:ρ b=none):Ext Φ ρ Φ (ρ.put b l):=
 ⟨fun _ _ h=>h,fun c k hc=>by
  unfold Rho.put
  rw[if_neg]
  ·exact hc
  ·rintro rfl; rw[h]at hc; cases hc⟩
theorem Rho.put_same {ρ:Rho} {b:Nat} {l:Loc}:ρ.put b l b=some l:=by simp[Rho.put]
theorem rel_new {W:Base} {Φ:Pers} {ρ:Rho} {m:Mem} {w:World} {b:Nat} {x:ABlk} {l:Loc} {o:Obj} (h:Rel W Φ ρ m w) (hn:ρ b=none) (hlt:b<m.next) (hl:l.blk=w.heap.size)
 (hr:BR Φ (ρ.put b l) x l o):Rel W Φ (ρ.put b l) (m.set b x) (w.alloc o):=by
 have hx:=Rho.ext_put (Φ:=Φ) (l:=l) hn
 have old:∀ k,k<w.heap.size→(w.alloc o).heap[k]? = w.heap[k]?:=fun k hk=>Below.heap_alloc w o k hk
 have some_lt:∀ (k:Nat) (o':Obj),w.heap[k]? = some o'→k<w.heap.size:=fun k o' ho=>by
  rcases Nat.lt_or_ge k w.heap.size with h'|h'
  ·exact h'
  ·rw[Array.getElem?_eq_none h']at ho; cases ho
 have hbm:m.get b=none:=by
  cases hg:m.get b with
  | none=>rfl
  | some y=>
   obtain⟨l',o',h1,_⟩:=h.live b y hg
   rw[hn]at h1; cases h1
 have rne:∀ b' l',b'≠b→ρ.put b l b'=some l'→ρ b'=some l':=fun b' l' hb' he=>by
  unfold Rho.put at he; rw[if_neg hb']at he; exact he
 refine⟨h.base.alloc o,?_,?_,?_,?_,h.newp⟩
 ·intro B c hB
  obtain⟨e,fz,ho⟩:=h.pers B c hB
  exact⟨e,fz,by rw[old B (some_lt _ _ ho)]; exact ho⟩
 ·intro b' y hy
  simp only[Mem.get_set]at hy
  by_cases hbb:b'=b
  ·subst hbb
   rw[if_pos rfl]at hy
   injection hy with hy
   subst hy
   refine⟨l,o,Rho.put_same,by rw[hl]; exact h.base.next_free,?_,?_,hr⟩
   ·cases hp:Φ l.blk with
    | none=>rfl
    | some c=>
     obtain⟨e,fz,ho⟩:=h.pers _ c hp
     have:=some_lt _ _ ho
     omega
   ·rw[hl]
    show(w.heap.push o)[w.heap.size]? = some o
    rw[Array.getElem?_push,if_pos rfl]
  ·rw[if_neg hbb]at hy
   obtain⟨l',o',k1,k2,k3,k4,k5⟩:=h.live b' y hy
   exact⟨l',o',hx.rho _ _ k1,k2,k3,by rw[old _ (some_lt _ _ k4)]; exact k4,k5.ext hx⟩
 ·intro b1 b2 y1 y2 l1 l2 h1 h2 k1 k2 he
  simp only[Mem.get_set]at h1 h2
  by_cases hb1:b1=b
  ·by_cases hb2:b2=b
   ·rw[hb1,hb2]
   ·rw[if_neg hb2]at h2
    have k2':=rne _ _ hb2 k2
    obtain⟨l',o',g1,_,_,g4,_⟩:=h.live b2 y2 h2
    rw[k2']at g1; injection g1 with g1; subst g1
    rw[hb1,Rho.put_same]at k1
    injection k1 with k1; subst k1
    have:=some_lt _ _ g4
    omega
  ·rw[if_neg hb1]at h1
   have k1':=rne _ _ hb1 k1
   obtain⟨l',o',g1,_,_,g4,_⟩:=h.live b1 y1 h1
   rw[k1']at g1; injection g1 with g1; subst g1
   by_cases hb2:b2=b
   ·rw[hb2,Rho.put_same]at k2
    injection k2 with k2; subst k2
    have:=some_lt _ _ g4
    omega
   ·rw[if_neg hb2]at h2
    exact h.inj b1 b2 y1 y2 l1 l2 h1 h2 k1' (rne _ _ hb2 k2) he
 ·intro b' l' hb'
  by_cases hbb:b'=b
  ·rw[hbb]; exact hlt
  ·exact h.fresh b' l' (rne _ _ hbb hb')
theorem row_cells {W:Base} {Φ:Pers} {ρ:Rho} {m:Mem} {w:World} (h:Rel W Φ ρ m w) {x:AVal} {v:Value} (hx:R Φ ρ x v) {row:List AVal} {j:Nat} (hr:rowAt m x=some (row,j)) :
 ∃ B o c e fz,v=.pointer (some ⟨B,o,none⟩)∧w.heap[B]? = some (.cells c e fz) ∧ ∀ i y,row[j+i]? = some y → ∃ u,c[o+i]? = some u∧R Φ ρ y u:=by
 cases hx with
 | ptr b i j' l hl=>
  simp only[rowAt]at hr
  cases hg:m.get b with
  | none=>simp[hg]at hr
  | some y=>
   cases y with
   | cells k els=>
    simp only[hg]at hr
    cases he:els[i]? with
    | none=>simp[he]at hr
    | some row'=>
     simp only[he,Option.some.injEq,Prod.mk.injEq]at hr
     obtain⟨rfl,rfl⟩:=hr
     obtain⟨l',o,g1,g2,g3,g4,g5⟩:=h.live b _ hg
     rw[hl]at g1; injection g1 with g1; subst g1
     cases g5 with
     | cells k els _ c e hk hn hlen hrow _=>
      subst hk
      refine⟨_,_,c,e,(0,0),rfl,g4,fun q y hy=>?_⟩
      obtain⟨u,hu,_,hru⟩:=hrow.2 i row' (j'+q) y he hy
      exact⟨u,by rw[← hu]; congr 1; omega,hru⟩
   | map es clock=>simp[hg]at hr
   | siter s pos=>simp[hg]at hr
   | miter a b c d=>simp[hg]at hr
 | iptr els i j' B o k c f hB hk hc hrr=>
  simp only[rowAt]at hr
  cases he:els[i]? with
  | none=>simp[he]at hr
  | some row'=>
   simp only[he,Option.some.injEq,Prod.mk.injEq]at hr
   obtain⟨rfl,rfl⟩:=hr
   obtain⟨e,fz,ho⟩:=h.pers B c hB
   refine⟨B,_,c,e,fz,rfl,ho,fun q y hy=>?_⟩
   refine⟨f i (j'+q),?_,hrr i row' (j'+q) y he hy⟩
   rw[← (hc i row' (j'+q) y he hy).1]
   congr 1; omega
 | _=>simp[rowAt]at hr
end Go.AE
end
