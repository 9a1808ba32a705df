/- Part 4 of the proof: AeE, AeF, AeG, AeH, AeI. -/
import Derived.Test.YtggclbeocekgkaaGreatDoorP3
import Derived.Deep.LoopGhost
import Derived.Scope
import Derived.Laws.StructEq
import Derived.Lib.Strings
set_option linter.all false
section
namespace Go.AE
open Go.RowKit
theorem RL.sub{Φ:Ao}{ρ:AD}{xs ys:List Aa}{vs:Array Value}(h:RL Φ ρ xs vs)(hl:ys.length=xs.length)(ht:∀ (i:Nat) (x:Aa),ys[i]? = some x→x=Aa.bot∨xs[i]? = some x):RL Φ ρ ys vs:=by
 refine⟨by rw[h.1,hl],fun i x v hx hv=>?_⟩
 rcases ht i x hx with rfl|h1
 ·exact .bot v
 ·exact h.2 i x v h1 hv
theorem AY.EF.refl(σ:AY):AY.EF σ σ:=⟨lR _,fun _ Φ _ _ _ hr ht=>⟨Φ,.refl _ _,hr,ht⟩⟩
theorem AY.EF.FY{σ' σ:AY}(hl:σ'.t.length=σ.t.length)(ht:∀ (i:Nat) (x:Aa),σ'.t[i]? = some x→x=Aa.bot∨σ.t[i]? = some x)(hm:Mem.Sub σ'.m σ.m):AY.EF σ' σ:=
 ⟨hm.next,fun _ Φ _ _ _ hr htt=>⟨Φ,.refl _ _,hr.sub hm,htt.sub hl ht⟩⟩
theorem Xf{W:AA}{Φ Ar:Ao}{ρ ρ':AD}{n n':Nat}{Q:Exit→AY→Prop}{e:Exit}{a:Act}{w:World}(he:Ext Φ ρ Ar ρ')(hk:BI n ρ ρ')(hn:n≤n')
 (h:J7 W Ar ρ' n' Q e a w):J7 W Φ ρ n Q e a w:=by
 obtain⟨σ,EN,DG,h1,h2,h3,h4,h5,h6,h7⟩:=h;exact⟨σ,EN,DG,he.trans h1,hk.trans h2 hn,Nat.le_trans hn h3,h4,h5,h6,h7⟩
theorem VH{W:AA}{Φ:Ao}{ρ:AD}{n:Nat}{Q Q':Exit→AY→Prop}{e:Exit}{a:Act}{w:World}(h:J7 W Φ ρ n Q e a w)(hq:∀ σ,Q e σ→Q' e σ):J7 W Φ ρ n Q' e a w:=by
 obtain⟨σ,EN,DG,h1,h2,h3,h4,h5,h6,h7⟩:=h;exact⟨σ,EN,DG,h1,h2,h3,h4,h5,h6,hq σ h7⟩
theorem RL.get{Φ:Ao}{ρ:AD}{t:List Aa}{vs:Array Value}(h:RL Φ ρ t vs)(i:Nat):R Φ ρ (t.getD i Ag) (vs.getD i undef):=by
 rcases lG i t.length with hi|hi
 ·have h1:t[i]? = some t[i]:=gE hi;have hi':i<vs.size:=by rw[h.1]; exact hi
  have h2:vs[i]? = some vs[i]:=Array.getElem?_eq_getElem hi';have:=h.2 i _ _ h1 h2;simpa[List.getD,h1,Array.getD,hi']using this
 ·have h1:t[i]? = none:=List.getElem?_eq_none hi;have hi':¬i<vs.size:=by rw[h.1]; omega
  have e1:t.getD i Ag=Ag:=by simp[List.getD,h1]
  have e2:vs.getD i undef=undef:=by simp[Array.getD,hi']
  rw[e1,e2];exact .tuple [] #[] rfl (fun i x v hx=>by simp at hx)
theorem nT{v:Value}{x:Aa}(Φ:Ao)(ρ:AD)(h:Hz v=some x):R Φ ρ x v:=by
 unfold Hz at h;split at h<;>first|(cases h; done)|skip
 ·injection h with h; subst h; exact .bool _
 ·injection h with h; subst h; exact .int _ _
 ·injection h with h; subst h; rename_i s; cases s; rename_i d; cases d; exact .str _
 ·injection h with h; subst h; exact .nilPtr
 ·injection h with h; subst h; exact .Ae
 ·injection h with h; subst h; exact .Av
 ·injection h with h; subst h; exact .nilFunc
 ·injection h with h; subst h; exact .nilIface
 ·rename_i vs;split at h
  ·rename_i h0;injection h with h; subst h
   exact .tuple [] vs (by simpa using h0) (fun i x v hx=>by simp at hx)
  ·cases h
theorem nS(Φ:Ao)(ρ:AD):∀ (vs:List Value) (xs:List Aa),RN vs=some xs→xs.length=vs.length ∧ ∀(i:Nat) (x:Aa) (v:Value),xs[i]? = some x→vs[i]? = some v→R Φ ρ x v
 | [],xs,h=>by
  simp only[RN,oI]at h;subst h;exact⟨rfl,fun i x v hx=>by simp at hx⟩
 | v :: r,xs,h=>by
  simp only[RN]at h;cases h1:Hz v with
  | none=>simp[h1]at h
  | some y=>
   cases h2:RN r with
   | none=>simp[h1,h2]at h
   | some ys=>
    simp only[h1,h2,oI]at h;subst h;obtain⟨h3,h4⟩:=nS Φ ρ r ys h2;refine⟨by simp[h3],fun i x v' hx hv=>?_⟩
    cases i with
    | zero=>
     simp only[List.getElem?_cons_zero,oI]at hx hv;subst hx; subst hv;exact nT Φ ρ h1
    | succ i=>
     simp only[List.getElem?_cons_succ]at hx hv;exact h4 i x v' hx hv
theorem Yx{v:Value}{x:Aa}(Φ:Ao)(ρ:AD)(h:HA v=some x):R Φ ρ x v:=by
 unfold HA at h;split at h
 ·rename_i cs;split at h
  ·rename_i xs hxs;injection h with h
   subst h;obtain⟨h1,h2⟩:=nS Φ ρ _ _ hxs;exact .agg _ _ (by simp[h1]) (fun i x v hx hv=>h2 i x v hx (by simpa using hv))
  ·cases h
 ·exact nT Φ ρ h
theorem R4{Φ:Ao}{ρ:AD}{t:List Aa}{a:Act}(h:RL Φ ρ t a.tmps){x:Operand}{y:Ah}(hx:X3 x=some y):R Φ ρ (ev t y) (a.eval x):=by
 cases x with
 | tmp i=>
  simp only[X3,oI]at hx;subst hx;exact h.get i
 | const v=>
  simp only[X3]at hx;split at hx
  ·rename_i z hz;injection hx with hx
   subst hx;exact Yx Φ ρ hz
  ·cases hx
 | global g=>simp[X3]at hx
 | func f=>
  simp only[X3,oI]at hx;subst hx;exact .func _ [] [] #[] #[] rfl rfl (fun i x v hx=>by simp at hx) (fun i x v hx=>by simp at hx)
theorem oT{Φ:Ao}{ρ:AD}{t:List Aa}{a:Act}(h:RL Φ ρ t a.tmps):∀ (xs:List Operand) (ys:List Ah),C7 xs=some ys →
 ys.length=xs.length ∧ ∀(i:Nat) (y:Ah) (x:Operand),ys[i]? = some y→xs[i]? = some x→X3 x=some y
 | [],ys,hx=>by
  simp only[C7,oI]at hx;subst hx;exact⟨rfl,fun i y x hy=>by simp at hy⟩
 | z :: r,ys,hx=>by
  simp only[C7]at hx;cases h1:X3 z with
  | none=>simp[h1]at hx
  | some y=>
   cases h2:C7 r with
   | none=>simp[h1,h2]at hx
   | some ys'=>
    simp only[h1,h2,oI]at hx;subst hx;obtain⟨h3,h4⟩:=oT h r ys' h2;refine⟨by simp[h3],fun i y' x' hy hx'=>?_⟩
    cases i with
    | zero=>
     simp only[List.getElem?_cons_zero,oI]at hy hx';subst hy; subst hx';exact h1
    | succ i=>
     simp only[List.getElem?_cons_succ]at hy hx';exact h4 i y' x' hy hx'
theorem Z9u{P:Program}
 (Pm:∀ (id:Nat) (ops:Array Oper) (draw:Bool) (Q:Exit→AY→Prop) (σ:AY),BU P (Y4 P (.region id ops draw)) Q σ→DI P (.region id ops draw) Q σ) :
 ∀(c:Code) (Q:Exit→AY→Prop) (σ:AY),BU P (Y4 P c) Q σ→DI P c Q σ:=by
 intro c
 induction c with
 | skip=>exact fun Q σ h W Φ ρ a w hr ht hd=>wp_skip ⟨σ,Φ,ρ,.refl _ _,.refl _ _,lR _,hr,ht,hd,h⟩
 | region id ops draw=>exact fun Q σ h=>Pm id ops draw Q σ h
 | seq x y ihx ihy=>
  intro Q σ h W Φ ρ a w hr ht hd;simp only[Y4,BU]at h;refine wp_seq (wp_mono (ihx _ _ h W Φ ρ a w hr ht hd) ?_);intro e a' w' hl;have key:∀ e',e=e'→e'≠.normal→J7 W Φ ρ σ.m.next Q e a' w':=by
   intro e' he hne;refine VH hl fun σ' hq=>?_
   subst he;cases e<;>first|exact absurd rfl hne|exact hq
  cases e with
  | normal=>
   obtain⟨σ',Ar,ρ',h1,h2,h3,h4,h5,h6,h7⟩:=hl;exact wp_mono (ihy _ _ h7 W Ar ρ' a' w' h4 h5 h6) fun e a w hl'=>Xf h1 h2 h3 hl'
  | exit i=>exact key _ rfl (by simp)
  | goto l=>exact key _ rfl (by simp)
  | ret=>exact key _ rfl (by simp)
  | panic ch=>exact key _ rfl (by simp)
  | outgrown=>exact key _ rfl (by simp)
 | cond c x y ihx ihy=>
  intro Q σ h W Φ ρ a w hr ht hd;simp only[Y4]at h;cases hc:X3 c with
  | none=>simp[hc,BU]at h
  | some c'=>
   simp only[hc,BU]at h;have hv:=R4 ht hc;generalize ev σ.t c'=z at h hv;split at h
   ·generalize hz:a.eval c=v at hv;cases hv;exact wp_cond_true hz (ihx _ _ h W Φ ρ a w hr ht hd)
   ·generalize hz:a.eval c=v at hv;cases hv;exact wp_cond_false hz (ihy _ _ h W Φ ρ a w hr ht hd)
   ·exact h.elim
 | block id c ih=>
  intro Q σ h W Φ ρ a w hr ht hd;simp only[Y4,BU]at h;refine wp_block (wp_mono (ih _ _ h W Φ ρ a w hr ht hd) ?_);intro e a' w' hl;cases e with
  | exit i=>
   simp only[Exit.inBlock];obtain⟨σ',Ar,ρ',h1,h2,h3,h4,h5,h6,h7⟩:=hl;simp only[Hu]at h7;split
   ·rename_i hi;rw[iP hi]at h7;exact⟨σ',Ar,ρ',h1,h2,h3,h4,h5,h6,h7⟩
   ·rename_i hi;rw[iN hi]at h7;exact⟨σ',Ar,ρ',h1,h2,h3,h4,h5,h6,h7⟩
  | normal=>exact hl
  | goto l=>exact hl
  | ret=>exact hl
  | panic ch=>exact hl
  | outgrown=>exact hl
 | loop c ih=>
  intro Q σ h W Φ ρ a w hr ht hd;simp only[Y4,BU]at h;obtain⟨I,⟨n0,GG,hs0,h0⟩,Dm⟩:=h;obtain⟨Φ1,hE1,hr1,ht1⟩:=hs0.rel W Φ ρ a.tmps w hr ht;refine wp_loop_ghost (fun n a' w'=>∃ σ' Ar ρ',Ext Φ ρ Ar ρ'∧BI σ.m.next ρ ρ'∧σ.m.next≤σ'.m.next∧Rel W Ar ρ' σ'.m w'∧RL Ar ρ' σ'.t a'.tmps∧a'.defers=[]∧I n σ') n0
   ⟨GG,Φ1,ρ,hE1,.refl _ _,hs0.next,hr1,ht1,hd,h0⟩ ?_
  rintro n a' w' ⟨σ',Ar,ρ',h1,h2,h3,h4,h5,h6,h7⟩;refine wp_mono (ih _ _ (Dm n σ' h7) W Ar ρ' a' w' h4 h5 h6) ?_;intro e a'' w'' hl;have key:∀ e',e=e'→e'≠.normal→J7 W Φ ρ σ.m.next Q e a'' w'':=by
   intro e' he hne;refine Xf h1 h2 h3 (VH hl fun σ'' hq=>?_)
   subst he;cases e<;>first|exact absurd rfl hne|exact hq
  cases e with
  | normal=>
   obtain⟨σ'',EN,DG,g1,g2,g3,g4,g5,g6,k,GG,g7,g8,g9⟩:=hl;obtain⟨Φ3,hE3,hr3,ht3⟩:=g8.rel W EN DG _ _ g4 g5;exact⟨k,g7,GG,Φ3,DG,(h1.trans g1).trans hE3,h2.trans g2 h3,Nat.le_trans (Nat.le_trans h3 g3) g8.next,hr3,ht3,g6,g9⟩
  | exit i=>exact key _ rfl (by simp)
  | goto l=>exact key _ rfl (by simp)
  | ret=>exact key _ rfl (by simp)
  | panic ch=>exact key _ rfl (by simp)
  | outgrown=>exact key _ rfl (by simp)
 | exit id=>exact fun Q σ h W Φ ρ a w hr ht hd=>wp_exit ⟨σ,Φ,ρ,.refl _ _,.refl _ _,lR _,hr,ht,hd,h⟩
 | scope c ih=>
  intro Q σ h W Φ ρ a w hr ht hd;simp only[Y4,BU]at h;refine wp_scope_straight (wp_mono (ih _ _ h W Φ ρ a w hr ht hd) ?_);intro e a' w' hl;cases e with
  | goto l=>
   obtain⟨σ',Ar,ρ',h1,h2,h3,h4,h5,h6,h7⟩:=hl;exact h7.elim
  | normal=>exact hl
  | exit i=>exact hl
  | ret=>exact hl
  | panic ch=>exact hl
  | outgrown=>exact hl
 | label l=>exact fun Q σ h W Φ ρ a w hr ht hd=>wp_label ⟨σ,Φ,ρ,.refl _ _,.refl _ _,lR _,hr,ht,hd,h⟩
 | ret=>exact fun Q σ h W Φ ρ a w hr ht hd=>wp_ret ⟨σ,Φ,ρ,.refl _ _,.refl _ _,lR _,hr,ht,hd,h⟩
 | rangeFunc f ps x y _ _=>exact fun Q σ h=>by simp[Y4,BU]at h
 | goto l=>exact fun Q σ h=>by simp[Y4,BU]at h
 | refuse s=>exact fun Q σ h=>by simp[Y4,BU]at h
end Go.AE
end
section
namespace Go.AE
open Go.RowKit
section runs
variable {P:Program} {w:World}
theorem V1{t:TypeId}{d:TypeDesc}(h:P.underlying t=some d):(underlying t).run P w=.ok d w:=by simp[underlying,h]
theorem RV{t:TypeId}{i:TypeInfo}(h:P.info? t=some i):(typeInfo t).run P w=.ok i w:=by simp[typeInfo,h]
theorem H8{t:TypeId}{i:TypeInfo}(h:P.info? t=some i):(sizeOf t).run P w=.ok i.size w:=by simp[sizeOf,RV h]
theorem MO{t:TypeId}{i:TypeInfo}{z:Value}(h:P.info? t=some i)(hz:i.zero=some z):(zeroValue t).run P w=.ok z w:=by simp[zeroValue,RV h,hz]
end runs
theorem Addr.AZ(B o n:Nat):(Addr.add ⟨B,o,none⟩ n)=⟨B,o+n,none⟩:=by
 unfold Addr.add;split
 ·rename_i h; simp[h]
 ·rfl
def R5(w:World)(B:Nat)(o:Obj):World:={ w with heap:=w.heap.setIfInBounds B o }
theorem LI(w:World)(B C:Nat)(o:Obj):(R5 w B o).heap[C]? = if B=C∧B<w.heap.size then some o else w.heap[C]?:=by
 unfold R5;simp only[Array.getElem?_setIfInBounds];by_cases h:B=C
 ·subst h;by_cases h2:B<w.heap.size<;>simp[h2]
 ·simp[h]
theorem Z99(w:World)(B:Nat)(o o':Obj):R5 (R5 w B o) B o'=R5 w B o':=by
 unfold R5;simp[Array.setIfInBounds_setIfInBounds]
theorem YA{w:World}{B:Nat}{o:Obj}(h:w.heap[B]? = some o):R5 w B o=w:=by
 unfold R5;have:w.heap.setIfInBounds B o=w.heap:=by
  apply Array.ext_getElem?;intro i;rw[Array.getElem?_setIfInBounds];by_cases hi:B=i
  ·subst hi;rw[iP rfl];have hB:B<w.heap.size:=by
    rcases lG B w.heap.size with h'|h'
    ·exact h'
    ·rw[Array.getElem?_eq_none h']at h; cases h
   rw[iP hB,h]
  ·rw[iN hi]
 rw[this]
theorem Z15{w:World}{B off:Nat}{c:Array Value}{e:TypeId}{fz:Nat×Nat}(h:w.heap[B]? = some (.cells c e fz))(v:Value) :
 w.setCell ⟨B,off,none⟩ v=R5 w B (.cells (c.setIfInBounds off v) e fz):=by
 unfold World.setCell R5
 congr 1
 apply Array.ext_getElem?;intro i;rw[Array.getElem?_modify,Array.getElem?_setIfInBounds];by_cases hi:B=i
 ·subst hi;have hB:B<w.heap.size:=by
   rcases lG B w.heap.size with h'|h'
   ·exact h'
   ·rw[Array.getElem?_eq_none h']at h; cases h
  have hget:w.heap[B]=.cells c e fz:=by rw[Array.getElem?_eq_getElem hB]at h; injection h
  simp[hB,hget]
 ·simp[hi]
def O3(c:Array Value)(off:Nat):List Value→Array Value
 | []=>c
 | v :: r=>O3 (c.setIfInBounds off v) (off+1) r
theorem MZ(vs:List Value):∀ (c:Array Value) (off:Nat),(O3 c off vs).size=c.size:=by
 induction vs with
 | nil=>intro c off; rfl
 | cons v r ih=>intro c off; simp[O3,ih]
theorem Ta(vs:List Value):∀ (c:Array Value) (off:Nat),(∀ v,v∈c.toList→v.oneCell'=true)→(∀ v,v∈vs→v.oneCell'=true) → ∀ v,v∈(O3 c off vs).toList→v.oneCell'=true:=by
 induction vs with
 | nil=>intro c off h _; exact h
 | cons x r ih=>
  intro c off h h1;refine ih _ _ (fun v hv=>?_) (fun v hv=>h1 v (List.mem_cons_of_mem _ hv))
  rw[Array.toList_setIfInBounds]at hv;rcases List.mem_or_eq_of_mem_set hv with hv|hv
  ·exact h v hv
  ·subst hv; exact h1 _ (List.mem_cons_self ..)
theorem YG(vs:List Value):∀ (c:Array Value) (off p:Nat),(O3 c off vs)[p]? = if off≤p∧p<off+vs.length∧p<c.size then vs[p - off]? else c[p]?:=by
 induction vs with
 | nil=>intro c off p; simp[O3]; intro h1 h2; omega
 | cons v r ih=>
  intro c off p;simp only[O3,ih,Array.size_setIfInBounds,lC,Array.getElem?_setIfInBounds];by_cases h1:off+1≤p∧p<off+1+r.length∧p<c.size
  ·rw[iP h1,iP (by omega)]
   have:p - off=(p - (off+1))+1:=by omega
   rw[this,List.getElem?_cons_succ]
  ·rw[iN h1];by_cases h2:off=p
   ·subst h2;by_cases h3:off<c.size
    ·simp[h3]
    ·simp[h3]
   ·rw[iN h2,iN (by omega)]
theorem YW{P:Program}{B o:Nat}{e:TypeId}:∀ (vs:List Value) (i:Nat) (w:World) (c:Array Value),(∀ v,v∈vs→v.oneCell'=true)→w.heap[B]? = some (.cells c e (0,0))→o+i+vs.length≤c.size →
 (storeCells ⟨B,o,none⟩ vs i).run P w=.ok () (R5 w B (.cells (O3 c (o+i) vs) e (0,0)))
 | [],i,w,c,_,h,_=>by
  simp only[storeCells,O3,Sem.run_pure,YA h]
 | v :: r,i,w,c,hv,h,hl=>by
  simp only[lC]at hl;have hcell:w.cell? (Addr.add ⟨B,o,none⟩ i)=some c[o+i]:=by
   rw[Addr.AZ];simp only[World.cell?,h,Option.isSome_none,bF,if_false];exact Array.getElem?_eq_getElem (by omega)
  have hfz:w.frozen? (Addr.add ⟨B,o,none⟩ i)=false:=by
   rw[Addr.AZ];simp[World.frozen?,h]
  have hB:B<w.heap.size:=by
   rcases lG B w.heap.size with h'|h'
   ·exact h'
   ·rw[Array.getElem?_eq_none h']at h; cases h
  have hset:=Z15 (off:=o+i) h v;have h2:(R5 w B (.cells (c.setIfInBounds (o+i) v) e (0,0))).heap[B]? = some (.cells (c.setIfInBounds (o+i) v) e (0,0)):=by
   rw[LI]; simp[hB]
  have ih:=YW (P:=P) (B:=B) (o:=o) (e:=e) r (i+1) _ (c.setIfInBounds (o+i) v) (fun u hu=>hv u (List.mem_cons_of_mem _ hu)) h2 (by simp; omega)
  rw[storeCells,Sem.run_bind,run_store _ _ _ _ _ (hv v List.mem_cons_self),hcell,hfz];simp only[bF,if_false,Result.andThen_ok];rw[Addr.AZ,hset,ih,Z99];rfl
theorem xP{P:Program}{w:World}{B o:Nat}{c:Array Value}{e:TypeId}{fz:Nat×Nat}(h:w.heap[B]? = some (.cells c e fz)):∀ (n i:Nat) (acc:Array Value),o+i+n≤c.size →
 (loadCellsFrom ⟨B,o,none⟩ i n acc).run P w=.ok (acc++(c.extract (o+i) (o+i+n))) w
 | 0,i,acc,_=>by simp[loadCellsFrom]; omega
 | n+1,i,acc,hl=>by
  have hcell:w.cell? (Addr.add ⟨B,o,none⟩ i)=some c[o+i]:=by
   rw[Addr.AZ];simp only[World.cell?,h,Option.isSome_none,bF,if_false];exact Array.getElem?_eq_getElem (by omega)
  rw[loadCellsFrom,Sem.run_bind,run_load,hcell];simp only[Result.andThen_ok];rw[xP h n (i+1) _ (by omega)]
  congr 1
  apply Array.ext_getElem?;intro q;simp only[Array.getElem?_append,Array.size_push,Array.getElem?_extract,Array.getElem?_push];by_cases h1:q<acc.size
  ·rw[iP (by omega),iN (by omega),iP h1]
  ·rw[iN h1];by_cases h2:q=acc.size
   ·subst h2;have e0:o+i<c.size:=by omega
    simp[e0];omega
   ·rw[iN (by omega)]
    have e1:o+(i+1)+(q - (acc.size+1))=o+i+(q - acc.size):=by omega
    rw[e1];by_cases h3:q - acc.size<n+1
    ·rw[iP (by omega),iP (by omega)]
    ·rw[iN (by omega),iN (by omega)]
theorem Zj{P:Program}{w:World}{B o n:Nat}{c:Array Value}{e:TypeId}{fz:Nat×Nat}(h:w.heap[B]? = some (.cells c e fz))(hl:o+n≤c.size) :
 (loadCells ⟨B,o,none⟩ n).run P w=.ok (c.extract o (o+n)) w:=by
 rw[loadCells,xP h n 0 #[] (by omega)]
 simp
theorem AA.Holds.put{W:AA}{w:World}{B:Nat}{o:Obj}(h:W.Holds w)(hB:W.CR B):W.Holds (R5 w B o):=by
 refine⟨h.below.trans ⟨rfl,rfl,rfl,by simp[R5],fun k hk=>?_⟩,fun k o' hk=>?_⟩
 ·have:=hB.1;rw[LI,iN (by omega)]
 ·rw[LI,iN]
  ·exact h.DB k o' hk
  ·rintro⟨rfl,_⟩;rw[hB.2]at hk; cases hk
theorem AA.Holds.alloc{W:AA}{w:World}(h:W.Holds w)(o:Obj):W.Holds (w.alloc o):=
 ⟨h.below.alloc h.below.size o,fun k o' hk=>by
  have ho:=h.DB k o' hk;rw[Below.heap_alloc w o k (Lx ho)]; exact ho⟩
theorem AA.Holds.Gx{W:AA}{w:World}(h:W.Holds w):W.CR w.heap.size:=by
 refine⟨h.below.size,?_⟩;cases hg:W.g w.heap.size with
 | none=>rfl
 | some o=>exact absurd (Lx (h.DB _ _ hg)) (Nat.lt_irrefl _)
theorem Wj{W:AA}{Φ:Ao}{ρ:AD}{m:Mem}{w:World}{b:Nat}{x x':Ai}{l:Loc}{o':Obj}(h:Rel W Φ ρ m w)(hb:m.get b=some x)(hl:ρ b=some l)
 (hr:BR Φ ρ x' l o'):Rel W Φ ρ (m.set b x') (R5 w l.blk o'):=by
 obtain⟨l0,o,g1,g2,g3,g4,g5⟩:=h.live b x hb;rw[hl]at g1;injection g1 with g1
 subst g1;have hlt:l.blk<w.heap.size:=by
  rcases lG l.blk w.heap.size with h'|h'
  ·exact h'
  ·rw[Array.getElem?_eq_none h']at g4; cases g4
 refine⟨?_,?_,?_,?_,h.fresh,h.Cr⟩
 ·exact h.base.put g2
 ·intro B c hB;obtain⟨e,fz,ho⟩:=h.Bn B c hB;refine⟨e,fz,?_⟩;rw[LI,iN]
  ·exact ho
  ·rintro⟨rfl,_⟩;rw[hB]at g3; cases g3
 ·intro b' y hy;simp only[Mem.AH]at hy;by_cases hbb:b'=b
  ·subst hbb;rw[iP rfl]at hy;injection hy with hy
   subst hy;exact⟨l,o',hl,g2,g3,by rw[LI,iP ⟨rfl,hlt⟩],hr⟩
  ·rw[iN hbb]at hy;obtain⟨l',o'',k1,k2,k3,k4,k5⟩:=h.live b' y hy;refine⟨l',o'',k1,k2,k3,?_,k5⟩;rw[LI,iN]
   ·exact k4
   ·rintro⟨he,_⟩;exact hbb (h.inj b' b y x l' l hy hb k1 hl he.symm)
 ·intro b1 b2 y1 y2 l1 l2 h1 h2 k1 k2 he;have e1:∃ y,m.get b1=some y:=by
   simp only[Mem.AH]at h1;by_cases hbb:b1=b
   ·exact⟨x,by rw[hbb]; exact hb⟩
   ·rw[iN hbb]at h1; exact⟨_,h1⟩
  have e2:∃ y,m.get b2=some y:=by
   simp only[Mem.AH]at h2;by_cases hbb:b2=b
   ·exact⟨x,by rw[hbb]; exact hb⟩
   ·rw[iN hbb]at h2; exact⟨_,h2⟩
  obtain⟨z1,e1⟩:=e1;obtain⟨z2,e2⟩:=e2;exact h.inj b1 b2 z1 z2 l1 l2 e1 e2 k1 k2 he
def AD.put(ρ:AD)(b:Nat)(l:Loc):AD:=fun c=>if c=b then some l else ρ c
theorem AD.BP{Φ:Ao}{ρ:AD}{b:Nat}{l:Loc}(h:ρ b=none):Ext Φ ρ Φ (ρ.put b l):=
 ⟨fun _ _ h=>h,fun c k hc=>by
  unfold AD.put;rw[iN]
  ·exact hc
  ·rintro rfl; rw[h]at hc; cases hc⟩
theorem AD.Bj{ρ:AD}{b:Nat}{l:Loc}:ρ.put b l b=some l:=by simp[AD.put]
theorem Z9l{W:AA}{Φ:Ao}{ρ:AD}{m:Mem}{w:World}{b:Nat}{x:Ai}{l:Loc}{o:Obj}(h:Rel W Φ ρ m w)(hn:ρ b=none)(hlt:b<m.next)(hl:l.blk=w.heap.size)
 (hr:BR Φ (ρ.put b l) x l o):Rel W Φ (ρ.put b l) (m.set b x) (w.alloc o):=by
 have hx:=AD.BP (Φ:=Φ) (l:=l) hn;have old:∀ k,k<w.heap.size→(w.alloc o).heap[k]? = w.heap[k]?:=fun k hk=>Below.heap_alloc w o k hk
 have some_lt:∀ (k:Nat) (o':Obj),w.heap[k]? = some o'→k<w.heap.size:=fun k o' ho=>by
  rcases lG k w.heap.size with h'|h'
  ·exact h'
  ·rw[Array.getElem?_eq_none h']at ho; cases ho
 have hbm:m.get b=none:=by
  cases hg:m.get b with
  | none=>rfl
  | some y=>
   obtain⟨l',o',h1,_⟩:=h.live b y hg;rw[hn]at h1; cases h1
 have rne:∀ b' l',b'≠b→ρ.put b l b'=some l'→ρ b'=some l':=fun b' l' hb' he=>by
  unfold AD.put at he; rw[iN hb']at he; exact he
 refine⟨h.base.alloc o,?_,?_,?_,?_,h.Cr⟩
 ·intro B c hB;obtain⟨e,fz,ho⟩:=h.Bn B c hB;exact⟨e,fz,by rw[old B (some_lt _ _ ho)]; exact ho⟩
 ·intro b' y hy;simp only[Mem.AH]at hy;by_cases hbb:b'=b
  ·subst hbb;rw[iP rfl]at hy;injection hy with hy
   subst hy;refine⟨l,o,AD.Bj,by rw[hl]; exact h.base.Gx,?_,?_,hr⟩
   ·cases hp:Φ l.blk with
    | none=>rfl
    | some c=>
     obtain⟨e,fz,ho⟩:=h.Bn _ c hp;have:=some_lt _ _ ho;omega
   ·rw[hl];show(w.heap.push o)[w.heap.size]? = some o;rw[Array.getElem?_push,iP rfl]
  ·rw[iN hbb]at hy;obtain⟨l',o',k1,k2,k3,k4,k5⟩:=h.live b' y hy;exact⟨l',o',hx.Gl _ _ k1,k2,k3,by rw[old _ (some_lt _ _ k4)]; exact k4,k5.ext hx⟩
 ·intro b1 b2 y1 y2 l1 l2 h1 h2 k1 k2 he;simp only[Mem.AH]at h1 h2;by_cases DN:b1=b
  ·by_cases Ci:b2=b
   ·rw[DN,Ci]
   ·rw[iN Ci]at h2;have k2':=rne _ _ Ci k2;obtain⟨l',o',g1,_,_,g4,_⟩:=h.live b2 y2 h2;rw[k2']at g1; injection g1 with g1; subst g1
    rw[DN,AD.Bj]at k1;injection k1 with k1; subst k1
    have:=some_lt _ _ g4;omega
  ·rw[iN DN]at h1;have k1':=rne _ _ DN k1;obtain⟨l',o',g1,_,_,g4,_⟩:=h.live b1 y1 h1;rw[k1']at g1; injection g1 with g1; subst g1
   by_cases Ci:b2=b
   ·rw[Ci,AD.Bj]at k2;injection k2 with k2; subst k2
    have:=some_lt _ _ g4;omega
   ·rw[iN Ci]at h2;exact h.inj b1 b2 y1 y2 l1 l2 h1 h2 k1' (rne _ _ Ci k2) he
 ·intro b' l' hb';by_cases hbb:b'=b
  ·rw[hbb]; exact hlt
  ·exact h.fresh b' l' (rne _ _ hbb hb')
theorem bO{W:AA}{Φ:Ao}{ρ:AD}{m:Mem}{w:World}(h:Rel W Φ ρ m w){x:Aa}{v:Value}(hx:R Φ ρ x v){row:List Aa}{j:Nat}(hr:rowAt m x=some (row,j)) :
 ∃ B o c e fz,v=.pointer (some ⟨B,o,none⟩)∧w.heap[B]? = some (.cells c e fz) ∧ ∀ i y,row[j+i]? = some y → ∃ u,c[o+i]? = some u∧R Φ ρ y u:=by
 cases hx with
 | ptr b i j' l hl=>
  simp only[rowAt]at hr;cases hg:m.get b with
  | none=>simp[hg]at hr
  | some y=>
   cases y with
   | cells k els=>
    simp only[hg]at hr;cases he:els[i]? with
    | none=>simp[he]at hr
    | some row'=>
     simp only[he,oI,Bm]at hr;obtain⟨rfl,rfl⟩:=hr;obtain⟨l',o,g1,g2,g3,g4,g5⟩:=h.live b _ hg;rw[hl]at g1; injection g1 with g1; subst g1
     cases g5 with
     | cells k els _ c e hk hn hlen hrow _=>
      subst hk;refine⟨_,_,c,e,(0,0),rfl,g4,fun q y hy=>?_⟩
      obtain⟨u,hu,_,hru⟩:=hrow.2 i row' (j'+q) y he hy;exact⟨u,by rw[← hu]; congr 1; omega,hru⟩
   | map es clock=>simp[hg]at hr
   | Cg s pos=>simp[hg]at hr
   | AJ a b c d=>simp[hg]at hr
 | AW els i j' B o k c f hB hk hc Ak=>
  simp only[rowAt]at hr;cases he:els[i]? with
  | none=>simp[he]at hr
  | some row'=>
   simp only[he,oI,Bm]at hr;obtain⟨rfl,rfl⟩:=hr;obtain⟨e,fz,ho⟩:=h.Bn B c hB;refine⟨B,_,c,e,fz,rfl,ho,fun q y hy=>?_⟩
   refine⟨f i (j'+q),?_,Ak i row' (j'+q) y he hy⟩;rw[← (hc i row' (j'+q) y he hy).1]
   congr 1; omega
 | _=>simp[rowAt]at hr
end Go.AE
end
section
namespace Go.AE
open Go.RowKit
def Az(P:Program)(s:Sem Next)(W:AA)(Φ:Ao)(ρ:AD)(id:Nat)(w:World)(x:Aa)(m':Mem):Prop:=
 ∃ v w' Ar ρ',(s.run P w=.ok (.value v) w'∨(s.run P w=.ok .skip w'∧v=undef))∧Ext Φ ρ Ar ρ'∧(∀ b,b≠id→ρ b=none→ρ' b=none)∧Rel W Ar ρ' m' w'∧R Ar ρ' x v
section
variable {P:Program} {s:Sem Next} {W:AA} {Φ:Ao} {ρ:AD} {id:Nat} {w w1:World} {m m':Mem} {x:Aa} {v:Value}
theorem Az.val(h:s.run P w=.ok (.value v) w)(hr:Rel W Φ ρ m w)(hR:R Φ ρ x v):Az P s W Φ ρ id w x m:=
 ⟨v,w,Φ,ρ,.inl h,.refl _ _,fun _ _ h=>h,hr,hR⟩
theorem GM(Φ:Ao)(ρ:AD):R Φ ρ Ag undef:=.tuple [] #[] rfl (fun i x v hx=>by simp at hx)
theorem Az.lT{b:Nat}{x0 x':Ai}{l:Loc}{o':Obj}(h:s.run P w=.ok .skip (R5 w l.blk o'))(hr:Rel W Φ ρ m w)(hb:m.get b=some x0)(hl:ρ b=some l)(FQ:BR Φ ρ x' l o') :
 Az P s W Φ ρ id w Ag (m.set b x'):=
 ⟨undef,_,Φ,ρ,.inr ⟨h,rfl⟩,.refl _ _,fun _ _ h=>h,Wj hr hb hl FQ,GM _ _⟩
theorem Az.Rc{b:Nat}{x0 x':Ai}{l:Loc}{o':Obj}(h:s.run P w=.ok (.value v) (R5 w l.blk o'))(hr:Rel W Φ ρ m w)(hb:m.get b=some x0)(hl:ρ b=some l)(FQ:BR Φ ρ x' l o')(hR:R Φ ρ x v) :
 Az P s W Φ ρ id w x (m.set b x'):=
 ⟨v,_,Φ,ρ,.inl h,.refl _ _,fun _ _ h=>h,Wj hr hb hl FQ,hR⟩
theorem Az.new{blk:Ai}{l:Loc}{o:Obj}(h:s.run P w=.ok (.value v) (w1.alloc o))(hr:Rel W Φ ρ m w1)(hn:ρ id=none)(hlt:id<m.next)(hl:l.blk=w1.heap.size)
 (FQ:BR Φ (ρ.put id l) blk l o) (hR:R Φ (ρ.put id l) x v):Az P s W Φ ρ id w x (m.set id blk):=
 ⟨v,_,Φ,ρ.put id l,.inl h,AD.BP hn,fun b hb h0=>by unfold AD.put; rw[iN hb]; exact h0,Z9l hr hn hlt hl FQ,hR⟩
theorem R.BA{cs:List Aa}(h:R Φ ρ x v)(hc:x.cells=some cs):RL Φ ρ cs v.cells:=by
 have one:∀ (y:Aa) (u:Value),R Φ ρ y u→RL Φ ρ [y] #[u]:=fun y u hy=>⟨rfl,fun i x v hx hv=>by
  cases i with
  | zero=>
   simp only[List.getElem?_cons_zero,oI]at hx;have:u=v:=by simpa using hv
   subst hx; subst this;exact hy
  | succ i=>simp at hx⟩
 have h':=h;cases h<;>(try simp only[Aa.cells]at hc)<;>first|(cases hc; done)|skip
 all_goals (injection hc with hc; subst hc)
 case agg cs vs hs hr=>exact ⟨hs,hr⟩
 all_goals exact one _ _ h'
theorem SY{y:Aa}{u:Value}(h:R Φ ρ y u)(h1:y.one=true):u.oneCell'=true:=by
 cases h<;>simp_all[Aa.one,Value.oneCell']
theorem nD{cs:List Aa}{vs:Array Value}(h:RL Φ ρ cs vs)(h1:cs.all Aa.one=true):∀ v,v∈vs.toList→v.oneCell'=true:=by
 intro u hu;obtain⟨q,hq,rfl⟩:=List.getElem_of_mem hu;simp only[Array.length_toList]at hq;have hq':q<cs.length:=by rw[← h.1]; exact hq
 have h2:=h.2 q _ _ (gE hq') (Array.getElem?_eq_getElem hq);simpa using SY h2 (List.all_eq_true.1 h1 _ (List.getElem_mem hq'))
theorem zd{cs:List Aa}{vs:Array Value}(h:RL Φ ρ cs vs)(h1:cs.all Aa.one=true):RowsIn Φ ρ [cs] 0 cs.length vs:=by
 refine⟨fun i row hi=>?_,fun i row j y hi hj=>?_⟩
 ·cases i with
  | zero=>simp at hi; rw[hi]
  | succ i=>simp at hi
 ·cases i with
  | zero=>
   simp only[List.getElem?_cons_zero,oI]at hi;subst hi;have hlt:j<cs.length:=(gS.1 hj).1;have hv:vs[j]? = some (vs[j]'(by rw[h.1]; exact hlt)):=Array.getElem?_eq_getElem _
   exact⟨_,by simpa using hv,SY (h.2 j y _ hj hv) (List.all_eq_true.1 h1 y (List.mem_of_getElem? hj)),h.2 j y _ hj hv⟩
  | succ i=>simp at hi
theorem BR.BP{blk:Ai}{l l0:Loc}{o:Obj}(hn:ρ id=none)(h:BR Φ ρ blk l0 o):BR Φ (ρ.put id l) blk l0 o:=h.ext (AD.BP hn)
theorem mL{e:TypeId}{cs:List Aa}{y:Aa}(hr:Rel W Φ ρ m w)(hn:ρ id=none)(hlt:id<m.next)(hy:R Φ ρ y v)(hc:y.cells=some cs)(h1:cs.all Aa.one=true)
 (h:s.run P w=.ok (.value (.pointer (some ⟨w.heap.size,0,none⟩))) (w.alloc (.cells v.cells e))) :
 Az P s W Φ ρ id w (.ptr id 0 0) (m.set id (.cells cs.length [cs])):=by
 have hcs:=hy.BA hc;refine Az.new (l:=⟨w.heap.size,0,cs.length,1⟩) h hr hn hlt rfl (BR.BP hn (.cells _ _ _ _ _ rfl (by simp[hcs.1]) (by simp) (zd hcs h1) (nD hcs h1))) ?_
 have:=R.ptr (Φ:=Φ) (ρ:=ρ.put id ⟨w.heap.size,0,cs.length,1⟩) id 0 0 _ AD.Bj;simpa using this
theorem Oy{t:TypeId}{zs:List Aa}(h:Kc P t=some zs)(Φ:Ao)(ρ:AD):∃ i z y,P.info? t=some i∧i.zero=some z∧R Φ ρ y z∧y.cells=some zs∧zs.all Aa.one=true:=by
 unfold Kc Tq at h;cases hi:P.info? t with
 | none=>simp[hi]at h
 | some i=>
  cases hz:i.zero with
  | none=>simp[hi,hz]at h
  | some z=>
   cases hy:HA z with
   | none=>simp[hi,hz,hy]at h
   | some y=>
    simp only[hi,hz,hy]at h;cases hc:y.cells with
    | none=>simp[hc]at h
    | some cs=>
     simp only[hc]at h;split at h
     ·rename_i h1;injection h with h; subst h
      exact⟨i,z,y,rfl,hz,Yx Φ ρ hy,hc,h1⟩
     ·cases h
def HZ:TypeDesc→Bool
 | .struct _ | .array _ _=>true
 | _=>false
theorem qS{t:TypeId}{n:Option Nat}(h:JR P t=some n):∃ d i,P.underlying t=some d∧P.info? t=some i ∧
 ((n=some i.size∧HZ d=true)∨(n=none∧HZ d=false)):=by
 unfold JR at h;cases hd:P.underlying t with
 | none=>simp[hd]at h
 | some d=>
  cases hi:P.info? t with
  | none=>cases d<;>simp[hd,hi]at h
  | some i=>
   refine⟨d,i,rfl,rfl,?_⟩;cases d<;>simp[hd,hi]at h<;>first|exact .inl ⟨h.symm,rfl⟩|exact .inr ⟨h.symm,rfl⟩
theorem Ws{t:TypeId}{d:TypeDesc}(h:P.underlying t=some d):(isAgg t).run P w=.ok (HZ d) w:=by
 simp only[isAgg,Sem.run_bind,V1 h,Result.andThen_ok];cases d<;>rfl
theorem pP{t:TypeId}{n:Option Nat}{xa y:Aa}{va:Value}(hr:Rel W Φ ρ m w)(hx:R Φ ρ xa va)(hc:JR P t=some n)(hl:LC m n xa=some y) :
 ∃ u,(Instr.loadAt t va).run P w=.ok u w∧R Φ ρ y u:=by
 unfold LC at hl;cases hrow:rowAt m xa with
 | none=>simp[hrow]at hl
 | some rj=>
  obtain⟨row,j⟩:=rj;simp only[hrow]at hl;obtain⟨B,o,c,e,fz,rfl,hB,hcell⟩:=bO hr hx hrow;obtain⟨d,i,hd,hi,hcase⟩:=qS hc;have hagg:=Ws (w:=w) hd;simp only[Instr.loadAt,Instr.sureAddr,Sem.run_bind,Sem.run_pure,Result.andThen_ok,loadVar,hagg];rcases hcase with⟨rfl,hd'⟩|⟨rfl,hd'⟩
  ·simp only at hl;split at hl
   ·rename_i hle;injection hl with hl
    subst hl;rw[hd'];simp only[if_true,Sem.run_bind,H8 hi,Result.andThen_ok];have hsz:o+i.size≤c.size:=by
     have hlt:j+(i.size - 1)<row.length:=by omega
     obtain⟨u,hu,_⟩:=hcell (i.size - 1) _ (gE hlt);have:=(Array.getElem?_eq_some_iff.1 hu).1;omega
    rw[Zj hB hsz];refine⟨_,rfl,.agg _ _ (by simp; omega) fun q y v hy hv=>?_⟩
    have hq:q<i.size:=by
     have:=(gS.1 hy).1;simp at this; omega
    rw[List.getElem?_take,iP hq,List.getElem?_drop]at hy;obtain⟨u,hu,hru⟩:=hcell q y hy;rw[Array.getElem?_extract]at hv;split at hv
    ·rw[hu]at hv; injection hv with hv; subst hv; exact hru
    ·cases hv
   ·cases hl
  ·simp only at hl;rw[hd'];simp only[bF,if_false];obtain⟨u,hu,hru⟩:=hcell 0 y (by simpa using hl)
   have BT:w.cell? ⟨B,o,none⟩=some u:=by
    simp only[World.cell?,hB,Option.isSome_none,bF,if_false];simpa using hu
   rw[run_load,BT];exact⟨u,rfl,hru⟩
theorem qF(cs:List Aa):∀ (row:List Aa) (j:Nat),(M3 row j cs).length=row.length:=by
 induction cs with
 | nil=>intro row j; rfl
 | cons v r ih=>intro row j; simp[M3,ih]
theorem bJ(cs:List Aa):∀ (row:List Aa) (j q:Nat),(M3 row j cs)[q]? = if j≤q∧q<j+cs.length∧q<row.length then cs[q - j]? else row[q]?:=by
 induction cs with
 | nil=>intro row j q; simp[M3]; intro h1 h2; omega
 | cons v r ih=>
  intro row j q;simp only[M3,ih,List.length_set,lC,List.getElem?_set];by_cases h1:j+1≤q∧q<j+1+r.length∧q<row.length
  ·rw[iP h1,iP (by omega)]
   have:q - j=(q - (j+1))+1:=by omega
   rw[this,List.getElem?_cons_succ]
  ·rw[iN h1];by_cases h2:j=q
   ·subst h2;by_cases h3:j<row.length
    ·simp[h3]
    ·simp[h3]
   ·rw[iN h2,iN (by omega)]
theorem uw{a b k j n q:Nat}(hne:a≠b)(hj:j+n≤k)(hq:q<k):¬(a*k+j≤b*k+q∧b*k+q<a*k+j+n):=by
 rcases Nat.lt_or_gt_of_ne hne with h|h
 ·have:(a+1)*k≤b*k:=Nat.mul_le_mul_right k h;rw[Nat.add_mul]at this;omega
 ·have:(b+1)*k≤a*k:=Nat.mul_le_mul_right k h;rw[Nat.add_mul]at this;omega
theorem LA{a n k q:Nat}(h:a<n)(hq:q<k):a*k+q<n*k:=by
 have:(a+1)*k≤n*k:=Nat.mul_le_mul_right k h;rw[Nat.add_mul]at this;omega
theorem xE{els:List (List Aa)}{sh k n i j:Nat}{c:Array Value}{row cs:List Aa}{vs:Array Value}(hrow:RowsIn Φ ρ els sh k c)(hn:c.size=n*k)(hl:sh+els.length≤n)
 (hi:els[i]? = some row) (hcs:RL Φ ρ cs vs) (h1:cs.all Aa.one=true) (hj:j+cs.length≤row.length):RowsIn Φ ρ (els.set i (M3 row j cs)) sh k (O3 c ((sh+i)*k+j) vs.toList):=by
 have hk:=hrow.1 i row hi;have hil:i<els.length:=(gS.1 hi).1;refine⟨fun i' row' h'=>?_,fun i' row' q x h' hq=>?_⟩
 ·rw[List.getElem?_set]at h';by_cases hii:i=i'
  ·rw[iP hii,iP hil]at h';injection h' with h'; subst h'; rw[qF,hk]
  ·rw[iN hii]at h';exact hrow.1 i' row' h'
 ·rw[List.getElem?_set]at h';rw[YG];simp only[Array.length_toList,hcs.1];by_cases hii:i=i'
  ·subst hii;rw[iP rfl,iP hil]at h';injection h' with h'
   subst h';rw[bJ]at hq;by_cases hin:j≤q∧q<j+cs.length∧q<row.length
   ·rw[iP hin]at hq;have hlt:=LA (a:=sh+i) (n:=n) (k:=k) (q:=q) (by omega) (by omega)
    rw[iP ⟨by omega,by omega,by omega⟩]
    have e1:(sh+i)*k+q - ((sh+i)*k+j)=q - j:=by omega
    rw[e1];have hlt2:q - j<vs.size:=by rw[hcs.1]; omega
    have Ak:=hcs.2 (q - j) x _ hq (Array.getElem?_eq_getElem hlt2);refine⟨vs[q - j],by simp[hlt2],SY Ak (List.all_eq_true.1 h1 x (List.mem_of_getElem? hq)),Ak⟩
   ·rw[iN hin]at hq;have hqr:q<row.length:=(gS.1 hq).1;rw[iN (by omega)]
    exact hrow.2 i row q x hi hq
  ·rw[iN hii]at h';have hqk:q<k:=by
    have h1:=hrow.1 i' row' h';have h2:=(gS.1 hq).1;omega
   have hap:=uw (a:=sh+i) (b:=sh+i') (k:=k) (j:=j) (n:=cs.length) (q:=q) (by omega) (by omega) hqk
   rw[iN (fun h=>hap ⟨h.1,h.2.1⟩)]
   exact hrow.2 i' row' q x h' hq
theorem Z9v{t:TypeId}{i:TypeInfo}{B o:Nat}{c:Array Value}{e:TypeId}(hi:P.info? t=some i)(hB:w.heap[B]? = some (.cells c e (0,0)))(hs:v.cells.size=i.size)
 (h1:∀ u,u∈v.cells.toList→u.oneCell'=true) (hl:o+i.size≤c.size) :
 (Instr.storeAt t (.pointer (some ⟨B,o,none⟩)) v).run P w=.ok () (R5 w B (.cells (O3 c o v.cells.toList) e (0,0))):=by
 simp only[Instr.storeAt,Instr.sureAddr,Sem.run_bind,Sem.run_pure,Result.andThen_ok,storeVar,H8 hi];rw[iN (by simp[hs])]
 have:=YW (P:=P) (B:=B) (o:=o) (e:=e) v.cells.toList 0 w c h1 hB (by simp[hs]; omega)
 simpa using this
theorem Zz7{t:TypeId}{n:Nat}{xa xv:Aa}{va vv:Value}{m':Mem}(hr:Rel W Φ ρ m w)(hx:R Φ ρ xa va)(hv:R Φ ρ xv vv)(hc:N8 P t=some n)(hst:LN m n xa xv=some m')
 (he:s.run P w=match (Instr.storeAt t va vv).run P w with | .ok _ w'=>.ok .skip w' | .halt h w'=>.halt h w'):Az P s W Φ ρ id w Ag m':=by
 unfold LN at hst;cases xa with
 | ptr b i j=>
  cases hcs:xv.cells with
  | none=>simp[hcs]at hst
  | some cs=>
   simp only[hcs]at hst;cases hg:m.get b with
   | none=>simp[hg]at hst
   | some blk=>
    cases blk with
    | cells k els=>
     simp only[hg]at hst;cases hrow:els[i]? with
     | none=>simp[hrow]at hst
     | some row=>
      simp only[hrow]at hst;split at hst
      ·rename_i hcond;obtain⟨hc1,hc2,hc3⟩:=hcond;injection hst with hst
       subst hst;cases hx with
       | ptr _ _ _ l hl=>
        obtain⟨l',o,g1,g2,g3,g4,g5⟩:=hr.live b _ hg;rw[hl]at g1; injection g1 with g1; subst g1
        cases g5 with
        | cells _ _ _ c e hk hn hlen hrows h1c=>
         subst hk;have hcells:=hv.BA hcs;unfold N8 at hc;cases hi:P.info? t with
         | none=>simp[hi]at hc
         | some inf=>
          simp only[hi,Option.map_some,oI]at hc;have hk2:=hrows.1 i row hrow;have hil:i<els.length:=(gS.1 hrow).1;have hbound:(l.sh+i)*l.k+j+inf.size≤c.size:=by
           have:(l.sh+i+1)*l.k≤l.n*l.k:=Nat.mul_le_mul_right _ (by omega)
           rw[Nat.add_mul]at this;omega
          have hone:∀ u,u∈vv.cells.toList→u.oneCell'=true:=by
           intro u hu;obtain⟨q,hq,rfl⟩:=List.getElem_of_mem hu;simp only[Array.length_toList]at hq;have hq':q<cs.length:=by rw[← hcells.1]; exact hq
           have h1:=hcells.2 q _ _ (gE hq') (Array.getElem?_eq_getElem hq);have h2:(cs[q]).one=true:=List.all_eq_true.1 hc3 _ (List.getElem_mem hq');simpa using SY h1 h2
          have hrun:=Z9v (P:=P) (v:=vv) hi g4 (by rw[hcells.1,hc1,hc]) hone hbound
          rw[hrun]at he;exact Az.lT he hr hg hl (.cells _ _ _ _ _ rfl (by rw[MZ,hn]) (by simpa using hlen) (xE hrows hn hlen hrow hcells hc3 (by omega)) (Ta _ _ _ h1c hone))
      ·cases hst
    | map es clock=>simp[hg]at hst
    | Cg s pos=>simp[hg]at hst
    | AJ a b c d=>simp[hg]at hst
 | _=>simp at hst
end
end Go.AE
end
section
namespace Go.AE
open Go.RowKit
section
variable {P:Program} {s:Sem Next} {W:AA} {Φ:Ao} {ρ:AD} {id:Nat} {w w1:World} {m m':Mem} {x:Aa} {v:Value}
theorem MY{y:Aa}{n:Nat}(h:R Φ ρ y v)(hn:P0 y=some n):∃ k,v=.int k (n:Int):=by
 cases h<;>simp only[P0]at hn<;>try (cases hn; done)
 split at hn
 ·rename_i k z h0;injection hn with hn
  subst hn;exact⟨k,by rw[Int.toNat_of_nonneg h0]⟩
 ·cases hn
theorem Lw{t:TypeId}{n:Nat}(h:N8 P t=some n):∃ i,P.info? t=some i∧i.size=n:=by
 unfold N8 at h;cases hi:P.info? t with
 | none=>simp[hi]at h
 | some i=>exact ⟨i,rfl,by simpa[hi]using h⟩
theorem uJ{y z:Aa}{off:Nat}(h:R Φ ρ y v)(ha:G7 off y=some z):∃ B o,v=.pointer (some ⟨B,o,none⟩)∧R Φ ρ z (.pointer (some ⟨B,o+off,none⟩)):=by
 cases h with
 | ptr b i j l hl=>
  simp only[G7,oI]at ha;subst ha;refine⟨_,_,rfl,?_⟩;have:=R.ptr (Φ:=Φ) (ρ:=ρ) b i (j+off) l hl;rwa[← Nat.add_assoc]at this
 | AW els i j B o k c f hB hk hc hr=>
  simp only[G7,oI]at ha;subst ha;refine⟨_,_,rfl,?_⟩;have:=R.AW (Φ:=Φ) (ρ:=ρ) els i (j+off) B o k c f hB hk hc hr;rwa[← Nat.add_assoc]at this
 | _=>simp[G7]at ha
theorem Z85{t:TypeId}{fs:Array Field}{i n:Nat}{f:Field}{y z:Aa}(ht:P.underlying t=some (.struct fs))(hf:fs[i]? = some f)(hn:N8 P f.type=some n)(h0:n≠0)
 (hy:R Φ ρ y v) (ha:G7 f.offset y=some z):∃ u,(Instr.fieldAt t v i).run P w=.ok u w∧R Φ ρ z u:=by
 obtain⟨B,o,rfl,hz⟩:=uJ hy ha;obtain⟨inf,hi,hs⟩:=Lw hn;refine⟨_,?_,hz⟩;simp only[Instr.fieldAt,Sem.run_bind,V1 ht,Result.andThen_ok,hf,Instr.sureAddr,Sem.run_pure,fieldPlace,H8 hi,hs];rw[iN h0];simp[Addr.AZ]
theorem oD{t:TypeId}{n:Option Nat}{cs:List Aa}{vs:Array Value}{off:Nat}{z:Aa}(hc:JR P t=some n)(h:RL Φ ρ cs vs)(hp:D3 cs off n=some z) :
 ∃ u,(part t vs off).run P w=.ok u w∧R Φ ρ z u:=by
 obtain⟨d,i,hd,hi,hcase⟩:=qS hc;have hagg:=Ws (w:=w) hd;simp only[part,Sem.run_bind,hagg,Result.andThen_ok];rcases hcase with⟨rfl,hd'⟩|⟨rfl,hd'⟩
 ·rw[hd'];simp only[D3]at hp;split at hp
  ·rename_i hle;injection hp with hp
   subst hp;simp only[if_true,Sem.run_bind,H8 hi,Result.andThen_ok,Sem.run_pure];refine⟨_,rfl,.agg _ _ (by simp[h.1]; omega) fun q y u hy hu=>?_⟩
   have hq:q<i.size:=by
    have:=(gS.1 hy).1;simp at this; omega
   rw[List.getElem?_take,iP hq,List.getElem?_drop]at hy;rw[Array.getElem?_extract]at hu;split at hu
   ·exact h.2 _ _ _ hy hu
   ·cases hu
  ·cases hp
 ·rw[hd'];simp only[D3]at hp;simp only[bF,if_false];have hlt:=(gS.1 hp).1;have hv:vs[off]? = some (vs[off]'(by rw[h.1]; exact hlt)):=Array.getElem?_eq_getElem _
  rw[hv];exact⟨_,rfl,h.2 _ _ _ hp hv⟩
theorem WH{cs:List Aa}(h:R Φ ρ (.agg cs) v):∃ vs,v=.agg vs∧RL Φ ρ cs vs:=by
 cases h with
 | agg cs vs hs hr=>exact ⟨vs,rfl,hs,hr⟩
theorem Z3w{t:TypeId}{fs:Array Field}{i:Nat}{f:Field}{n:Option Nat}{cs:List Aa}{z:Aa}(ht:P.underlying t=some (.struct fs))(hf:fs[i]? = some f)(hn:JR P f.type=some n)
 (hy:R Φ ρ (.agg cs) v) (ha:D3 cs f.offset n=some z):∃ u,(Instr.field t v i).run P w=.ok u w∧R Φ ρ z u:=by
 obtain⟨vs,rfl,h⟩:=WH hy;obtain⟨u,hu,hz⟩:=oD (P:=P) (w:=w) hn h ha;refine⟨u,?_,hz⟩;simp only[Instr.field,Sem.run_bind,V1 ht,Result.andThen_ok,hf,asAgg,Sem.run_pure,hu]
theorem mX{t e:TypeId}{k i:Nat}{y:Aa}{z:Aa}{vi:Value}{ki:IntKind}(hr:Rel W Φ ρ m w)(ht:P.underlying t=some (.slice e))(hk:N8 P e=some k)(hy:R Φ ρ y v)(hi:vi=.int ki (i:Int))
 (h:(∃ b off len els,y=.sl b off len∧m.get b=some (.cells k els)∧i<len∧z=.ptr b (off+i) 0)∨(∃ els row,y=.Aj els∧els[i]? = some row∧row.length=k∧z=.AW els i 0)) :
 ∃ u,(Instr.indexAt t v vi).run P w=.ok u w∧R Φ ρ z u:=by
 subst hi;obtain⟨inf,hinf,hs⟩:=Lw hk;rcases h with⟨b,off,len,els,rfl,hb,hlt,rfl⟩|⟨els,row,rfl,hrow,hlen,rfl⟩
 ·cases hy with
  | sl _ _ _ a cap l hl hle hn hcap CN=>
   have ha:=hcap (by omega)
   subst ha;obtain⟨l',o,g1,g2,g3,g4,g5⟩:=hr.live b _ hb;rw[hl]at g1; injection g1 with g1; subst g1
   have hkl:l.k=k:=by cases g5 with|cells _ _ _ c e hk' _ _ _ _=>exact hk'
   refine⟨_,?_,R.ptr b (off+i) 0 l hl⟩;simp only[Instr.indexAt,asIntOf,Sem.run_bind,Sem.run_pure,Result.andThen_ok,V1 ht];rw[iP ⟨by omega,by omega⟩]
   simp only[Sem.run_bind,H8 hinf,Result.andThen_ok,Sem.run_pure,Int.toNat_natCast,Addr.AZ,hs]
   congr 4
   rw[hkl,← Nat.add_assoc,Nat.add_mul (l.sh+off) i];rfl
 ·cases hy with
  | BS a cap _=>simp at hrow
  | Aj _ B o k' cap c f hne hcap hB hk' hc Ak=>
   have hlt:i<els.length:=(gS.1 hrow).1;have hkk:k'=k:=by rw[← hk' i row hrow,hlen]
   subst hkk;refine⟨_,?_,R.AW els i 0 B o k' c f hB hk' hc Ak⟩;simp only[Instr.indexAt,asIntOf,Sem.run_bind,Sem.run_pure,Result.andThen_ok,V1 ht];rw[iP ⟨by omega,by omega⟩]
   simp only[Sem.run_bind,H8 hinf,Result.andThen_ok,Sem.run_pure,Int.toNat_natCast,Addr.AZ,hs];rfl
theorem Z3a{t e:TypeId}{n k i:Nat}{y z:Aa}{vi:Value}{ki:IntKind}(ht:P.underlying t=some (.array n e))(hk:N8 P e=some k)(hy:R Φ ρ y v)(hi:vi=.int ki (i:Int))(hlt:i<n)
 (ha:G7 (i*k) y=some z):∃ u,(Instr.indexAt t v vi).run P w=.ok u w∧R Φ ρ z u:=by
 subst hi;obtain⟨inf,hinf,hs⟩:=Lw hk;obtain⟨B,o,rfl,hz⟩:=uJ hy ha;refine⟨_,?_,hz⟩;simp only[Instr.indexAt,asIntOf,Sem.run_bind,Sem.run_pure,Result.andThen_ok,V1 ht,Instr.sureAddr];rw[iP ⟨by omega,by omega⟩]
 simp only[Sem.run_bind,H8 hinf,Result.andThen_ok,Sem.run_pure,Int.toNat_natCast,Addr.AZ,hs]
theorem Zze{t:TypeId}{l:List UInt8}{i:Nat}{c:UInt8}{vi:Value}{ki:IntKind}(ht:P.underlying t=some .string)(hy:R Φ ρ (.str l) v)(hi:vi=.int ki (i:Int))(hc:l[i]? = some c) :
 (Instr.index t v vi).run P w=.ok (.int .u8 c.toNat) w:=by
 subst hi;cases hy with
 | str _=>
  simp only[Instr.index,asIntOf,Sem.run_bind,Sem.run_pure,Result.andThen_ok,V1 ht];rw[iP (by omega)]
  have:(ByteArray.mk ⟨l⟩)[(i:Int).toNat]? = some c:=by
   simp only[Int.toNat_natCast];have hlt:=(gS.1 hc).1;have hlt':i<(ByteArray.mk ⟨l⟩).size:=hlt;rw[getElem?_pos (ByteArray.mk ⟨l⟩) i hlt'];rw[gE hlt]at hc;injection hc with hc
   subst hc;rfl
  rw[this];rfl
theorem x6{t e:TypeId}{n k i:Nat}{sz:Option Nat}{cs:List Aa}{z:Aa}{vi:Value}{ki:IntKind}(ht:P.underlying t=some (.array n e))(hk:N8 P e=some k)(hsz:JR P e=some sz)
 (hy:R Φ ρ (.agg cs) v) (hi:vi=.int ki (i:Int)) (hlt:i<n) (ha:D3 cs (i*k) sz=some z):∃ u,(Instr.index t v vi).run P w=.ok u w∧R Φ ρ z u:=by
 subst hi;obtain⟨inf,hinf,hs⟩:=Lw hk;obtain⟨vs,rfl,h⟩:=WH hy;obtain⟨u,hu,hz⟩:=oD (P:=P) (w:=w) hsz h ha;refine⟨u,?_,hz⟩;simp only[Instr.index,asIntOf,Sem.run_bind,Sem.run_pure,Result.andThen_ok,V1 ht];rw[iP ⟨by omega,by omega⟩]
 simp only[Sem.run_bind,H8 hinf,Result.andThen_ok,hs,Int.toNat_natCast];exact hu
end
end Go.AE
end
section
namespace Go.AE
open Go.RowKit
section
variable {P:Program} {s:Sem Next} {W:AA} {Φ:Ao} {ρ:AD} {id:Nat} {w w1:World} {m m':Mem} {x:Aa} {v:Value}
theorem Sj{y:Aa}{n mx:Nat}{code:BoundsCode}(h:R Φ ρ y v)(hn:P0 y=some n)(hle:n≤mx):(Instr.sliceBound v mx code).run P w=.ok n w:=by
 obtain⟨k,rfl⟩:=MY h hn;simp only[Instr.sliceBound,asIntOf,Sem.run_bind,Sem.run_pure,Result.andThen_ok];rw[iP ⟨by omega,by omega⟩]
 simp
def FK(Φ:Ao)(ρ:AD)(t:List Aa)(ao:Option Ah)(vo:Option Value):Prop:=
 match ao,vo with
 | none,none=>True
 | some y,some u=>R Φ ρ (ev t y) u
 | _,_=>False
theorem RX{t:List Aa}{a:Act}(h:RL Φ ρ t a.tmps){o:Option Operand}{ao:Option Ah}(ho:I7 o=some ao):FK Φ ρ t ao (o.map a.eval):=by
 cases o with
 | none=>
  simp only[I7,oI]at ho;subst ho;trivial
 | some y=>
  simp only[I7]at ho;cases hy:X3 y with
  | none=>simp[hy]at ho
  | some z=>
   simp only[hy,oI]at ho;subst ho;exact R4 h hy
theorem RP{t:List Aa}{len Eo cap l h:Nat}{lo hi:Option Ah}{Gc Gb:Option Value}{b:Bool}(hlo:FK Φ ρ t lo Gc)(hhi:FK Φ ρ t hi Gb)(hs:L9 t len Eo lo hi=some (l,h))
 (hc:Eo≤cap):(Instr.sliceBounds b len cap Gc Gb none).run P w=.ok (l,h,cap) w∧l≤h∧h≤Eo:=by
 unfold L9 at hs;cases hh:I1 t len hi with
 | none=>simp[hh]at hs
 | some h'=>
  simp only[hh]at hs;split at hs
  ·rename_i hle;cases hl:I1 t 0 lo with
   | none=>simp[hl]at hs
   | some l'=>
    simp only[hl]at hs;split at hs
    ·rename_i hle2;simp only[oI,Bm]at hs;obtain⟨rfl,rfl⟩:=hs;refine⟨?_,hle2,hle⟩;have e1:(Gb=none∧len=h') ∨ ∃ u,Gb=some u ∧ ∀(code:BoundsCode),(Instr.sliceBound u cap code).run P w=.ok h' w:=by
      cases hi with
      | none=>
       cases Gb with
       | none=>simp only[I1,oI]at hh; exact .inl ⟨rfl,hh⟩
       | some u=>exact hhi.elim
      | some y=>
       cases Gb with
       | none=>exact hhi.elim
       | some u=>exact .inr ⟨u,rfl,fun code=>Sj hhi hh (by omega)⟩
     have e2:(Gc=none∧0=l') ∨ ∃ u,Gc=some u ∧ ∀(code:BoundsCode),(Instr.sliceBound u h' code).run P w=.ok l' w:=by
      cases lo with
      | none=>
       cases Gc with
       | none=>simp only[I1,oI]at hl; exact .inl ⟨rfl,hl⟩
       | some u=>exact hlo.elim
      | some y=>
       cases Gc with
       | none=>exact hlo.elim
       | some u=>exact .inr ⟨u,rfl,fun code=>Sj hlo hl (by omega)⟩
     rcases e1 with⟨rfl,rfl⟩|⟨u1,rfl,e1⟩<;>rcases e2 with⟨rfl,rfl⟩|⟨u2,rfl,e2⟩ <;>
      simp only[Instr.sliceBounds,Sem.run_bind,Sem.run_pure,Result.andThen_ok, *]
    ·cases hs
  ·cases hs
theorem Tb{t e:TypeId}{k:Nat}{a:Option Addr}{len cap l h:Nat}{Gc Gb sq:Option Value}{mc:Nat}(ht:P.underlying t=some (.slice e))(hk:N8 P e=some k)
 (hb:(Instr.sliceBounds true len cap Gc Gb sq).run P w=.ok (l,h,mc) w) :
 (Instr.sliceAt t (.slice a len cap) Gc Gb sq).run P w=.ok (.slice (if mc=l then a else a.map (·.add (l*k))) (h - l) (mc - l)) w:=by
 obtain⟨inf,hinf,hs⟩:=Lw hk;simp only[Instr.sliceAt,Instr.slice,Sem.run_bind,V1 ht,Result.andThen_ok,hb,H8 hinf,hs,Sem.run_pure]
theorem yT{els:List (List Aa)}{k:Nat}(h:(els.all fun r=>r.length == k)=true)(i:Nat)(row:List Aa)(hi:els[i]? = some row):row.length=k:=by
 have:=List.all_eq_true.1 h row (List.mem_of_getElem? hi);simpa using this
theorem z8{els:List (List Aa)}{k l h len cap:Nat}{a:Option Addr}(hy:R Φ ρ (.Aj els) (.slice a len cap))(hall:(els.all fun r=>r.length == k)=true)(hl:l≤h)(hh:h≤els.length) :
 R Φ ρ (.Aj ((els.take h).drop l)) (.slice (if cap=l then a else a.map (·.add (l*k))) (h - l) (cap - l)):=by
 by_cases he:(els.take h).drop l=[]
 ·have hlen:h - l=0:=by
   have:=congrArg List.length he;simp at this;omega
  rw[he,hlen];refine .BS _ _ fun hp=>?_
  rw[iN (by omega)]
  cases hy with
  | BS a cap hz=>
   obtain⟨B,o,rfl⟩:=hz (by omega)
   exact⟨B,o+l*k,by simp only[Option.map_some,Addr.AZ]⟩
  | Aj _ B o k' cap c f hne hcap hB hk' hc Ak=>exact ⟨B,o+l*k,by simp only[Option.map_some,Addr.AZ]⟩
 ·have hlt:l<h:=by
   rcases lG l h with h1|h1
   ·exact h1
   ·exfalso;apply he;apply List.eq_nil_of_length_eq_zero;simp; omega
  cases hy with
  | BS a cap _=>simp at hh; omega
  | Aj _ B o k' cap c f hne hcap hB hk' hc Ak=>
   have hkk:k'=k:=by
    have hpos:0<els.length:=by omega
    have e1:=hk' 0 _ (gE hpos);have e2:=yT hall 0 _ (gE hpos);omega
   subst hkk;rw[iN (by omega)]
   simp only[Option.map_some,Addr.AZ];have hget:∀ (i:Nat) (row:List Aa),((els.take h).drop l)[i]? = some row→els[l+i]? = some row:=by
    intro i row hi;rw[List.getElem?_drop,List.getElem?_take]at hi;split at hi
    ·exact hi
    ·cases hi
   have hlen:h - l=((els.take h).drop l).length:=by simp; omega
   rw[hlen];refine .Aj _ B (o+l*k') k' (cap - l) c (fun i j=>f (l+i) j) he (by simp; omega) hB (fun i row hi=>hk' _ row (hget i row hi)) (fun i row j y hi hj=>?_) (fun i row j y hi hj=>Ak _ row j y (hget i row hi) hj)
   have:=hc (l+i) row j y (hget i row hi) hj;refine⟨?_,this.2⟩;rw[← this.1]
   congr 1
   rw[Nat.add_mul]; omega
theorem Vr{t e:TypeId}{k:Nat}{tl:List Aa}{y:Aa}{lo hi:Option Ah}{Gc Gb:Option Value}{z:Aa}{m2:Mem}(hr:Rel W Φ ρ m w)(ht:P.underlying t=some (.slice e))(hk:N8 P e=some k)(hy:R Φ ρ y v)
 (hlo:FK Φ ρ tl lo Gc) (hhi:FK Φ ρ tl hi Gb)
 (h:(y=.Ae∧(∃ lh,L9 tl 0 0 lo hi=some lh)∧z=.Ae∧m2=m)∨(y=.emp∧(∃ lh,L9 tl 0 0 lo hi=some lh)∧z=.emp∧m2=m) ∨
   (∃ els l h,y=.Aj els∧(els.all fun r=>r.length == k)=true∧L9 tl els.length els.length lo hi=some (l,h)∧z=.Aj ((els.take h).drop l)∧m2=m) ∨
   (∃ b off len els l h,y=.sl b off len∧m.get b=some (.cells k els)∧off+len≤els.length∧L9 tl len (els.length - off) lo hi=some (l,h)∧z=.sl b (off+l) (h - l)∧m2=m)) :
 m2=m ∧ ∃ u,(Instr.sliceAt t v Gc Gb none).run P w=.ok u w∧R Φ ρ z u:=by
 rcases h with⟨rfl,⟨⟨l,h⟩,hb⟩,rfl,rfl⟩|⟨rfl,⟨⟨l,h⟩,hb⟩,rfl,rfl⟩|⟨els,l,h,rfl,hall,hb,rfl,rfl⟩|⟨b,off,len,els,l,h,rfl,hg,hle,hb,rfl,rfl⟩
 ·refine⟨rfl,?_⟩;cases hy;obtain⟨DN,h1,h2⟩:=RP (P:=P) (w:=w) (b:=true) (cap:=0) hlo hhi hb (lR _);obtain rfl:h=0:=by omega
  obtain rfl:l=0:=by omega
  exact⟨_,Tb ht hk DN,.Ae⟩
 ·refine⟨rfl,?_⟩;cases hy with
  | emp a=>
   obtain⟨DN,h1,h2⟩:=RP (P:=P) (w:=w) (b:=true) (cap:=0) hlo hhi hb (lR _);obtain rfl:h=0:=by omega
   obtain rfl:l=0:=by omega
   exact⟨_,Tb ht hk DN,.emp _⟩
 ·refine⟨rfl,?_⟩;have hv:∃ a cap,v=.slice a els.length cap∧els.length≤cap:=by
   cases hy with
   | BS a cap _=>exact ⟨_,_,rfl,Nat.zero_le _⟩
   | Aj _ B o k' cap c f hne hcap hB hk' hc Ak=>exact ⟨_,_,rfl,hcap⟩
  obtain⟨a,cap,rfl,hcap⟩:=hv;obtain⟨DN,h1,h2⟩:=RP (P:=P) (w:=w) (b:=true) (cap:=cap) hlo hhi hb hcap;exact⟨_,Tb ht hk DN,z8 hy hall h1 h2⟩
 ·refine⟨rfl,?_⟩;cases hy with
  | sl _ _ _ a cap lc hl hlc hn2 hcap CN=>
   obtain⟨l',o,g1,g2,g3,g4,g5⟩:=hr.live b _ hg;rw[hl]at g1; injection g1 with g1; subst g1
   cases g5 with
   | cells _ _ _ c e' hk' hn hlen hrows _=>
    have Dl:els.length - off≤cap:=by omega
    obtain⟨DN,h1,h2⟩:=RP (P:=P) (w:=w) (b:=true) (cap:=cap) hlo hhi hb Dl;refine⟨_,Tb ht hk DN,.sl b (off+l) (h - l) _ (cap - l) lc hl (by omega) (by omega) (fun hpos=>?_) (by split<;>simp[CN])⟩
    have ha:=hcap (by omega)
    subst ha;rw[iN (by omega)]
    simp only[Option.map_some,Addr.AZ]
    congr 2
    rw[← Nat.add_assoc,Nat.add_mul (lc.sh+off) l,hk']
theorem rB(l:List UInt8)(a b:Nat):(ByteArray.mk ⟨l⟩).extract a b=⟨⟨(l.take b).drop a⟩⟩:=by
 have h1:=Lib.extract_data (ByteArray.mk ⟨l⟩) a b;cases h:(ByteArray.mk ⟨l⟩).extract a b with
 | mk d=>
  rw[h]at h1;have h2:d.toList=(l.take b).drop a:=by rw[List.drop_take]; simpa using h1
  cases d;simp at h2;rw[h2]
theorem Z5n{t:TypeId}{tl:List Aa}{l:List UInt8}{lo hi:Option Ah}{Gc Gb:Option Value}{a b:Nat}(ht:P.underlying t=some .string)(hy:R Φ ρ (.str l) v)
 (hlo:FK Φ ρ tl lo Gc) (hhi:FK Φ ρ tl hi Gb) (hb:L9 tl l.length l.length lo hi=some (a,b)) :
 ∃ u,(Instr.sliceAt t v Gc Gb none).run P w=.ok u w∧R Φ ρ (.str ((l.take b).drop a)) u:=by
 cases hy with
 | str _=>
  obtain⟨DN,h1,h2⟩:=RP (P:=P) (w:=w) (b:=false) (cap:=l.length) hlo hhi hb (lR _);refine⟨_,?_,.str _⟩;have hsz:(ByteArray.mk ⟨l⟩).size=l.length:=rfl;simp only[Instr.sliceAt,Instr.slice,Sem.run_bind,V1 ht,Result.andThen_ok,Option.isSome_none,bF,if_false,Sem.run_pure,hsz,DN,rB]
end
end Go.AE
end
