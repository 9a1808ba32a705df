/- Part 20 of the proof: AeIa, Pb. -/
import Derived.Test.YtfmnflhggplkmaaGreatDoorO14
import Derived.Test.YtfmnflhggplkmaaGreatDoorO19
set_option linter.all false
section
namespace Go.AE
open Go.RowKit
theorem freeze_some {W:Base} {Φ:Pers} {ρ:Rho} {m:Mem} {w:World} (hr:Rel W Φ ρ m w):∃ Φs:Pers,Ext Φ ρ Φs ρ∧(∀ B c,Φs B=some c → ∃ e fz,w.heap[B]? = some (.cells c e fz)) ∧
 (∀ B c,Φs B=some c→W.p B=some c∨W.Free B)∧(∀ b l k els c e fz,m.get b=some (.cells k els)→ρ b=some l→w.heap[l.blk]? = some (.cells c e fz)→Φs l.blk=some c) ∧
 ∀ B,Φs B=Φ B ∨ ∃ b l y,m.get b=some y∧ρ b=some l∧l.blk=B:=by
 have hlv:∀ B,(∃ b l y,m.get b=some y∧ρ b=some l∧l.blk=B)→Φ B=none∧W.Free B:=by
  rintro B ⟨b,l,y,h1,h2,rfl⟩
  obtain⟨l',o,g1,g2,g3,_⟩:=hr.live b y h1
  rw[h2]at g1; injection g1 with g1; subst g1
  exact⟨g3,g2⟩
 refine⟨fun B=>@ite _ (∃ b l y,m.get b=some y∧ρ b=some l∧l.blk=B) (Classical.propDecidable _) (match w.heap[B]? with|some (.cells c _ _)=>some c|_=>none) (Φ B),⟨fun B c hB=>?_,fun b l h=>h⟩,fun B c hB=>?_,fun B c hB=>?_,fun b l k els c e fz hg hl hw=>?_,fun B=>?_⟩
 ·by_cases hL:∃ b l y,m.get b=some y∧ρ b=some l∧l.blk=B
  ·rw[(hlv B hL).1]at hB; cases hB
  ·simp only[hL,if_false]; exact hB
 ·by_cases hL:∃ b l y,m.get b=some y∧ρ b=some l∧l.blk=B
  ·simp only[hL,if_true]at hB
   split at hB<;>first|(cases hB; done)|skip
   rename_i c' e fz hw
   injection hB with hB; subst hB
   exact⟨e,fz,hw⟩
  ·simp only[hL,if_false]at hB
   exact hr.pers B c hB
 ·by_cases hL:∃ b l y,m.get b=some y∧ρ b=some l∧l.blk=B
  ·exact .inr (hlv B hL).2
  ·simp only[hL,if_false]at hB
   exact hr.newp B c hB
 ·have hL:∃ b' l' y,m.get b'=some y∧ρ b'=some l'∧l'.blk=l.blk:=⟨b,l,_,hg,hl,rfl⟩
  simp only[hL,if_true,hw]
 ·by_cases hL:∃ b l y,m.get b=some y∧ρ b=some l∧l.blk=B
  ·exact .inr hL
  ·exact .inl (by simp only[hL,if_false])
mutual
def AVal.scalar:AVal→Bool
 | .bool _ | .int _ _ | .str _ | .nilPtr | .nilSl | .emp | .nilMap | .nilFunc | .nilIface=>true
 | .agg cs=>scalarL cs
 | .tuple cs=>scalarL cs
 | _=>false
def scalarL:List AVal→Bool
 | []=>true
 | x :: r=>x.scalar&&scalarL r
end
theorem scalarL_get:∀ {l:List AVal} {i:Nat} {x:AVal},scalarL l=true→l[i]? = some x→x.scalar=true
 | [],i,x,_,h=>by simp at h
 | y :: r,i,x,h,hx=>by
  simp only[scalarL,Bool.and_eq_true]at h
  cases i with
  | zero=>simp only[List.getElem?_cons_zero,Option.some.injEq]at hx; subst hx; exact h.1
  | succ i=>simp only[List.getElem?_cons_succ]at hx; exact scalarL_get h.2 hx
theorem R.scalar {Φ Φ':Pers} {ρ ρ':Rho} {x:AVal} {v:Value} (h:R Φ ρ x v) (hc:x.scalar=true):R Φ' ρ' x v:=by
 induction h with
 | bool b=>exact .bool b
 | int k n=>exact .int k n
 | str s=>exact .str s
 | nilPtr=>exact .nilPtr
 | nilSl=>exact .nilSl
 | emp a=>exact .emp a
 | nilMap=>exact .nilMap
 | nilFunc=>exact .nilFunc
 | nilIface=>exact .nilIface
 | agg cs vs hs _ ih=>
  simp only[AVal.scalar]at hc
  exact .agg cs vs hs fun i x v h1 h2=>ih i x v h1 h2 (scalarL_get hc h1)
 | tuple cs vs hs _ ih=>
  simp only[AVal.scalar]at hc
  exact .tuple cs vs hs fun i x v h1 h2=>ih i x v h1 h2 (scalarL_get hc h1)
 | _=>simp[AVal.scalar]at hc
def Mem.part (m:Mem) (L:List Nat):Mem:=⟨fun c=>bif mem1 c L then m.get c else none,m.next⟩
theorem part_sub (m:Mem) (L:List Nat):Mem.Sub (m.part L) m:=by
 refine⟨fun b x h=>?_,Nat.le_refl _⟩
 simp only[Mem.part]at h
 cases hb:mem1 b L with
 | true=>rw[hb]at h; exact h
 | false=>rw[hb]at h; cases h
theorem mem1_iff {x:Nat}:∀ {l:List Nat},mem1 x l=true↔x∈l
 | []=>by simp[mem1]
 | y :: r=>by
  simp only[mem1,List.mem_cons]
  cases h:Nat.beq x y with
  | true=>simp[Nat.eq_of_beq_eq_true h]
  | false=>
   simp only[cond_false]
   rw[mem1_iff]
   have:x≠y:=fun e=>by subst e; rw[Nat.beq_refl]at h; cases h
   simp[this]
section
variable {P:Program}
theorem freezeL_R {W:Base} {Φ Φs:Pers} {ρ:Rho} {m:Mem} {w:World} {n:Nat} {args args':List AVal} {vs:Array Value} (hr:Rel W Φ ρ m w) (hE:Ext Φ ρ Φs ρ) (hs:∀ b l k els c e fz,m.get b=some (.cells k els)→ρ b=some l→w.heap[l.blk]? = some (.cells c e fz)→Φs l.blk=some c)
 (h:mapO (freezeV m.get n) args=some args') (ha:RL Φ ρ args vs):RL Φs ρ args' vs:=
 rl_freeze (fun x y v hxy hx=>freeze_R hr hE hs n x y v hxy hx) ha h
theorem memo_scalar {e:Memo} (he:e.Ok P) (hs:e.v.scalar=true) {m:Mem} {L:List Nat} {n:Nat} {args:List AVal} (hf:mapO (freezeV (m.part L).get n) args=some e.args) (av:List Nat) :
 ACalls P e.g args m av fun r m'=>r=e.v∧m'=m:=by
 refine⟨(he m []).1,fun W Φ ρ vs w hr ha hav=>?_⟩
 have hrp:=hr.sub (part_sub m L)
 obtain⟨Φs,f1,f2,f3,f4,f5⟩:=freeze_some hrp
 have ha':=freezeL_R hrp f1 f4 hf ha
 let W0:Base:=⟨w,fun _=>none,Φs,hr.tab⟩
 have hr0:Rel W0 Φs ρ ⟨fun _=>none,m.next⟩ w:=
  ⟨⟨Below.refl _ _,fun B o hB=>(by cases hB)⟩,f2,fun b x hx=>(by cases hx),fun b b' x x' l l' h1=>(by cases h1),hr.fresh,fun B c hB=>.inl hB⟩
 refine((he ⟨fun _=>none,m.next⟩ []).2 W0 Φs ρ vs w hr0 ha' (fun b hb=>by cases hb)).mono ?_
 rintro e' w' ⟨u,r,m',Φ',ρ',rfl,h1,h2,h3,h4,h5,rfl,rfl⟩
 exact⟨u,e.v,m,Φ,ρ,rfl,.refl _ _,fun b _ _ h=>h,hr.below h3.base.below,h4.scalar hs,Nat.le_refl _,rfl,rfl⟩
theorem memo_frozen {e:Memo} (he:e.Ok P) {m:Mem} {L:List Nat} {n:Nat} {args:List AVal} (hf:mapO (freezeV (m.part L).get n) args=some e.args) (av:List Nat) :
 ACalls P e.g args m av fun r m'=>r=e.v∧m'=m.less L:=by
 refine⟨(he m []).1,fun W Φ ρ vs w hr ha hav=>?_⟩
 have hrp:=hr.sub (part_sub m L)
 obtain⟨Φs,f1,f2,f3,f4,f5⟩:=freeze_some hrp
 have ha':=freezeL_R hrp f1 f4 hf ha
 have hless:∀ b x,(m.less L).get b=some x→b∉L∧m.get b=some x:=fun b x h=>by
  simp only[Mem.less]at h
  split at h
  ·cases h
  ·exact⟨‹_›,h⟩
 have hr2:Rel W Φs ρ (m.less L) w:=by
  refine⟨hr.base,f2,fun b x hx=>?_,fun b b' x x' l l' h1 h2=>hr.inj b b' x x' l l' (hless _ _ h1).2 (hless _ _ h2).2,hr.fresh,f3⟩
  obtain⟨hb,hx⟩:=hless b x hx
  obtain⟨l,o,g1,g2,g3,g4,g5⟩:=hr.live b x hx
  refine⟨l,o,g1,g2,?_,g4,g5.ext f1⟩
  rcases f5 l.blk with h|⟨b2,l2,y,k1,k2,k3⟩
  ·rw[h]; exact g3
  ·exfalso
   have:=hr.inj b b2 x y l l2 hx ((part_sub m L).get _ _ k1) g1 k2 k3.symm
   subst this
   simp only[Mem.part]at k1
   cases hq:mem1 b L with
   | false=>rw[hq]at k1; cases k1
   | true=>exact hb (mem1_iff.1 hq)
 refine((he (m.less L) []).2 W Φs ρ vs w hr2 ha' (fun b hb=>by cases hb)).mono ?_
 rintro e' w' ⟨u,r,m',Φ',ρ',rfl,h1,h2,h3,h4,h5,rfl,rfl⟩
 exact⟨u,e.v,_,Φ',ρ',rfl,f1.trans h1,fun b hb hn h0=>h2 b hb (by simp) h0,h3,h4,Nat.le_refl _,rfl,rfl⟩
def blksV (get:Nat→Option ABlk):Nat→AVal→List Nat
 | 0,_=>[]
 | n+1,x=>match x with
  | .sl b _ _=>b :: (match get b with
   | some (.cells _ els)=>els.flatMap fun r=>r.flatMap (blksV get n)
   | _=>[])
  | .agg cs=>cs.flatMap (blksV get n)
  | .tuple cs=>cs.flatMap (blksV get n)
  | .imm els=>els.flatMap fun r=>r.flatMap (blksV get n)
  | _=>[]
def hasG (g:Nat):List Memo→Bool
 | []=>false
 | e :: r=>Nat.beq e.g g||hasG g r
def findM (g:Nat) (args:List AVal):List Memo→Option Memo
 | []=>none
 | e :: r=>bif Nat.beq e.g g then (bif beqL args e.args then some e else findM g args r)else findM g args r
theorem findM_spec {g:Nat} {args:List AVal}:∀ {l:List Memo} {e:Memo},Memo.All P l→findM g args l=some e→e.Ok P∧e.g=g∧args=e.args
 | [],e,_,h=>by simp[findM]at h
 | a :: r,e,ha,h=>by
  simp only[findM]at h
  cases h1:Nat.beq a.g g with
  | false=>rw[h1]at h; exact findM_spec ha.2 h
  | true=>
   rw[h1]at h
   simp only[cond_true]at h
   cases h2:beqL args a.args with
   | false=>rw[h2]at h; exact findM_spec ha.2 h
   | true=>
    rw[h2]at h
    simp only[cond_true,Option.some.injEq]at h
    subst h
    exact⟨ha.1,Nat.eq_of_beq_eq_true h1,beqL_eq _ _ h2⟩
def frzC (l:List Memo):Caller:=fun g args m=>
 bif hasG g l then
  let L:=args.flatMap (blksV m.tr.get 8)
  match mapO (freezeV (fun c=>bif mem1 c L then m.tr.get c else none) 8) args with
  | some args'=>match findM g args' l with
   | some e=>bif e.v.scalar then some (e.v,m,[])else bif L.all fun b=>Nat.ble (b+1) bound then some (e.v,lessT m L,L)else none
   | none=>none
  | none=>none
 else none
theorem lessT_mem:∀ (L:List Nat) (m:TM),(L.all fun b=>Nat.ble (b+1) bound)=true→(lessT m L).mem=m.mem.less L∧(lessT m L).next=m.next
 | [],m,_=>⟨Mem.ext' (fun c=>by simp[lessT,Mem.less]) rfl,rfl⟩
 | b :: r,m,h=>by
  simp only[List.all_cons,Bool.and_eq_true]at h
  obtain⟨h1,h2⟩:=lessT_mem r (m.set b none) h.2
  simp only[lessT]
  refine⟨?_,by rw[h2]; rfl⟩
  rw[h1,TM.set_mem_none (Nat.le_of_ble_eq_true h.1)]
  refine Mem.ext' (fun c=>?_) rfl
  simp only[Mem.less,Mem.get_del,List.mem_cons]
  by_cases hc:c=b
  ·simp[hc]
  ·simp[hc]
theorem frzC_ok {l:List Memo} (hl:Memo.All P l):CallerOk P (frzC l):=by
 intro g args m v m' wl h
 unfold frzC at h
 cases hg:hasG g l with
 | false=>rw[hg]at h; cases h
 | true=>
  rw[hg]at h
  simp only[cond_true]at h
  cases hf:mapO (freezeV (fun c=>bif mem1 c (args.flatMap (blksV m.tr.get 8))then m.tr.get c else none) 8) args with
  | none=>simp[hf]at h
  | some args'=>
   simp only[hf]at h
   cases hm:findM g args' l with
   | none=>simp[hm]at h
   | some e=>
    simp only[hm]at h
    obtain⟨h1,h2,h3⟩:=findM_spec hl hm
    subst h2; subst h3
    cases hs:e.v.scalar with
    | true=>
     rw[hs]at h
     simp only[cond_true,Option.some.injEq,Prod.mk.injEq]at h
     obtain⟨rfl,rfl,rfl⟩:=h
     exact⟨Nat.le_refl _,fun _ _ _=>rfl,fun id=>memo_scalar (m:=m.mem) (L:=args.flatMap (blksV m.tr.get 8)) (n:=8) h1 hs hf [id]⟩
    | false=>
     rw[hs]at h
     simp only[cond_false]at h
     cases hb:(args.flatMap (blksV m.tr.get 8)).all fun b=>Nat.ble (b+1) bound with
     | false=>rw[hb]at h; cases h
     | true=>
      rw[hb]at h
      simp only[cond_true,Option.some.injEq,Prod.mk.injEq]at h
      obtain⟨rfl,rfl,rfl⟩:=h
      obtain⟨k1,k2⟩:=lessT_mem _ m hb
      refine⟨by rw[k2]; exact Nat.le_refl _,fun c _ hc=>?_,fun id=>?_⟩
      ·rw[k1]
       simp only[Mem.less]
       rw[if_neg hc]
      ·rw[k1]
       exact memo_frozen (m:=m.mem) (L:=args.flatMap (blksV m.tr.get 8)) (n:=8) h1 hf [id]
end
end Go.AE
end
section
namespace Go.Plain
theorem cntP_le_one {p:Lt→Bool} {ls:List Lt}:cntP p ls≤ls.length:=List.length_filter_le _ _
def keyLt (a b:Lt):Bool:=decide (a.g<b.g)||(a.g == b.g&&decide (a.r<b.r))
def at' (ls:List Lt) (i:Nat):Lt:=ls.getD i default
def ins (ls:List Lt) (i:Nat):List Nat→List Nat
 | []=>[i]
 | j :: r=>if keyLt (at' ls j) (at' ls i)then j :: ins ls i r else i :: j :: r
def axisN (ls:List Lt):Nat→List Nat
 | 0=>[]
 | k+1=>if isP (at' ls k)then ins ls k (axisN ls k)else axisN ls k
def axis (ls:List Lt):List Nat:=axisN ls ls.length
theorem ins_perm (ls:List Lt) (i:Nat):∀ (l:List Nat),(ins ls i l).Perm (i :: l)
 | []=>List.Perm.refl _
 | j :: r=>by
  simp only[ins]
  split
  ·exact((ins_perm ls i r).cons j).trans (List.Perm.swap i j r)
  grind
theorem axisN_perm (ls:List Lt):∀ k,(axisN ls k).Perm ((List.range k).filter fun j=>isP (at' ls j))
 | 0=>List.Perm.refl _
 | k+1=>by
  rw[List.range_succ,List.filter_append]
  simp only[axisN,List.filter_cons,List.filter_nil]
  split
  ·exact((ins_perm ls k _).trans ((axisN_perm ls k).cons k)).trans (List.perm_append_comm (l₁:=[k]))
  ·simpa using axisN_perm ls k
theorem range_at (ls:List Lt):(List.range ls.length).map (at' ls)=ls:=by
 apply List.ext_getElem?
 intro i
 rw[List.getElem?_map]
 by_cases h:i<ls.length
 ·simp[h,at']
 ·simp[h]
theorem range_filter (ls:List Lt) (p:Lt→Bool):((List.range ls.length).filter fun j=>p (at' ls j)).length=cntP p ls:=by
 have h:(((List.range ls.length).map (at' ls)).filter p).length=((List.range ls.length).filter fun j=>p (at' ls j)).length:=by
  rw[List.filter_map,List.length_map]; rfl
 rw[← h,range_at]
 rfl
theorem axis_length (ls:List Lt):(axis ls).length=passes ls:=by
 rw[axis,(axisN_perm ls _).length_eq,range_filter]; rfl
theorem mem_axis {ls:List Lt} {j:Nat}:j∈axis ls↔j<ls.length∧isP (at' ls j)=true:=by
 rw[axis,(axisN_perm ls _).mem_iff]
 simp
def pos (ls:List Lt) (l:Lt):Nat:=cntP (fun o=>isP o&&decide (o.g<l.g)) ls+(l.r - 1).toNat
end Go.Plain
end
