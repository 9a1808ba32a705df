/- Part 21 of the proof: AeIa, Pb. -/
import Derived.Test.YtfmnflhggplkmaaGreatDoorV15
import Derived.Test.YtfmnflhggplkmaaGreatDoorV20
set_option linter.all false
section
namespace Go.AE
open Go.RowKit
theorem freeze_some {W:Base} {Φ:Pers} {ρ:Rho} {m:Mem} {w:World} (hr:Rel W Φ ρ m w):∃ Φs:Pers,Ext Φ ρ Φs ρ∧(∀ B c,Φs B=some c → ∃ e fz,w.heap[B]? = some (.cells c e fz)) ∧
 (∀ B c,Φs B=some c→W.p B=some c∨W.Free B)∧(∀ b l k els c e fz,m.get b=some (.cells k els)→ρ b=some l→w.heap[l.blk]? = some (.cells c e fz)→Φs l.blk=some c) ∧
 ∀ B,Φs B=Φ B ∨ ∃ b l y,m.get b=some y∧ρ b=some l∧l.blk=B:=by
 have hlv:∀ B,(∃ b l y,m.get b=some y∧ρ b=some l∧l.blk=B)→Φ B=none∧W.Free B:=by
  rintro B ⟨b,l,y,h1,h2,rfl⟩
  obtain⟨l',o,g1,g2,g3,_⟩:=hr.live b y h1
  rw[h2]at g1; injection g1 with g1; subst g1
  exact⟨g3,g2⟩
 refine⟨fun B=>@ite _ (∃ b l y,m.get b=some y∧ρ b=some l∧l.blk=B) (Classical.propDecidable _) (match w.heap[B]? with|some (.cells c _ _)=>some c|_=>none) (Φ B),⟨fun B c hB=>?_,fun b l h=>h⟩,fun B c hB=>?_,fun B c hB=>?_,fun b l k els c e fz hg hl hw=>?_,fun B=>?_⟩
 ·by_cases hL:∃ b l y,m.get b=some y∧ρ b=some l∧l.blk=B
  ·rw[(hlv B hL).1]at hB; cases hB
  ·simp only[hL,if_false]; exact hB
 ·by_cases hL:∃ b l y,m.get b=some y∧ρ b=some l∧l.blk=B
  ·simp only[hL,if_true]at hB
   split at hB<;>first|(cases hB; done)|skip
   rename_i c' e fz hw
   injection hB with hB; subst hB
   exact⟨e,fz,hw⟩
  ·simp only[hL,if_false]at hB
   exact hr.pers B c hB
 ·by_cases hL:∃ b l y,m.get b=some y∧ρ b=some l∧l.blk=B
  ·exact .inr (hlv B hL).2
  ·simp only[hL,if_false]at hB
   exact hr.newp B c hB
 ·have hL:∃ b' l' y,m.get b'=some y∧ρ b'=some l'∧l'.blk=l.blk:=⟨b,l,_,hg,hl,rfl⟩
  simp only[hL,if_true,hw]
 ·by_cases hL:∃ b l y,m.get b=some y∧ρ b=some l∧l.blk=B
  ·exact .inr hL
  ·exact .inl (by simp only[hL,if_false])
mutual
def AVal.scalar:AVal→Bool
 | .bool _ | .int _ _ | .str _ | .nilPtr | .nilSl | .emp | .nilMap | .nilFunc | .nilIface=>true
 | .agg cs=>scalarL cs
 | .tuple cs=>scalarL cs
 | _=>false
def scalarL:List AVal→Bool
 | []=>true
 | x :: r=>x.scalar&&scalarL r
end
theorem scalarL_get:∀ {l:List AVal} {i:Nat} {x:AVal},scalarL l=true→l[i]? = some x→x.scalar=true
 | [],i,x,_,h=>by simp at h
 | y :: r,i,x,h,hx=>by
  simp only[scalarL,Bool.and_eq_true]at h
  cases i with
  | zero=>simp only[List.getElem?_cons_zero,Option.some.injEq]at hx; subst hx; exact h.1
  | succ i=>simp only[List.getElem?_cons_succ]at hx; exact scalarL_get h.2 hx
theorem R.scalar {Φ Φ':Pers} {ρ ρ':Rho} {x:AVal} {v:Value} (h:R Φ ρ x v) (hc:x.scalar=true):R Φ' ρ' x v:=by
 induction h with
 | bool b=>exact .bool b
 | int k n=>exact .int k n
 | str s=>exact .str s
 | nilPtr=>exact .nilPtr
 | nilSl=>exact .nilSl
 | emp a=>exact .emp a
 | nilMap=>exact .nilMap
 | nilFunc=>exact .nilFunc
 | nilIface=>exact .nilIface
 | agg cs vs hs _ ih=>
  simp only[AVal.scalar]at hc
  exact .agg cs vs hs fun i x v h1 h2=>ih i x v h1 h2 (scalarL_get hc h1)
 | tuple cs vs hs _ ih=>
  simp only[AVal.scalar]at hc
  exact .tuple cs vs hs fun i x v h1 h2=>ih i x v h1 h2 (scalarL_get hc h1)
 | _=>simp[AVal.scalar]at hc
def Mem.part (m:Mem) (L:List Nat):Mem:=⟨fun c=>bif mem1 c L then m.get c else none,m.next⟩
theorem part_sub (m:Mem) (L:List Nat):Mem.Sub (m.part L) m:=by
 refine⟨fun b x h=>?_,Nat.le_refl _⟩
 simp only[Mem.part]at h
 cases hb:mem1 b L with
 | true=>rw[hb]at h; exact h
 | false=>rw[hb]at h; cases h
theorem mem1_iff {x:Nat}:∀ {l:List Nat},mem1 x l=true↔x∈l
 | []=>by simp[mem1]
 | y :: r=>by
  simp only[mem1,List.mem_cons]
  cases h:Nat.beq x y with
  | true=>simp[Nat.eq_of_beq_eq_true h]
  | false=>
   simp only[cond_false]
   rw[mem1_iff]
   have:x≠y:=fun e=>by subst e; rw[Nat.beq_refl]at h; cases h
   simp[this]
section
variable {P:Program}
theorem freezeL_R {W:Base} {Φ Φs:Pers} {ρ:Rho} {m:Mem} {w:World} {n:Nat} {args args':List AVal} {vs:Array Value} (hr:Rel W Φ ρ m w) (hE:Ext Φ ρ Φs ρ) (hs:∀ b l k els c e fz,m.get b=some (.cells k els)→ρ b=some l→w.heap[l.blk]? = some (.cells c e fz)→Φs l.blk=some c)
 (h:mapO (freezeV m.get n) args=some args') (ha:RL Φ ρ args vs):RL Φs ρ args' vs:=
 rl_freeze (fun x y v hxy hx=>freeze_R hr hE hs n x y v hxy hx) ha h
theorem memo_scalar {e:Memo} (he:e.Ok P) (hs:e.v.scalar=true) {m:Mem} {L:List Nat} {n:Nat} {args:List AVal} (hf:mapO (freezeV (m.part L).get n) args=some e.args) (av:List Nat) :
 ACalls P e.g args m av fun r m'=>r=e.v∧m'=m:=by
 refine⟨(he m []).1,fun W Φ ρ vs w hr ha hav=>?_⟩
 have hrp:=hr.sub (part_sub m L)
 obtain⟨Φs,f1,f2,f3,f4,f5⟩:=freeze_some hrp
 have ha':=freezeL_R hrp f1 f4 hf ha
 let W0:Base:=⟨w,fun _=>none,Φs⟩
 have hr0:Rel W0 Φs ρ ⟨fun _=>none,m.next⟩ w:=
  ⟨⟨Below.refl _ _,fun B o hB=>(by cases hB)⟩,f2,fun b x hx=>(by cases hx),fun b b' x x' l l' h1=>(by cases h1),hr.fresh,fun B c hB=>.inl hB⟩
 refine((he ⟨fun _=>none,m.next⟩ []).2 W0 Φs ρ vs w hr0 ha' (fun b hb=>by cases hb)).mono ?_
 rintro e' w' ⟨u,r,m',Φ',ρ',rfl,h1,h2,h3,h4,h5,rfl,rfl⟩
 exact⟨u,e.v,m,Φ,ρ,rfl,.refl _ _,fun b _ _ h=>h,hr.below h3.base.below,h4.scalar hs,Nat.le_refl _,rfl,rfl⟩
theorem memo_frozen {e:Memo} (he:e.Ok P) {m:Mem} {L:List Nat} {n:Nat} {args:List AVal} (hf:mapO (freezeV (m.part L).get n) args=some e.args) (av:List Nat) :
 ACalls P e.g args m av fun r m'=>r=e.v∧m'=m.less L:=by
 refine⟨(he m []).1,fun W Φ ρ vs w hr ha hav=>?_⟩
 have hrp:=hr.sub (part_sub m L)
 obtain⟨Φs,f1,f2,f3,f4,f5⟩:=freeze_some hrp
 have ha':=freezeL_R hrp f1 f4 hf ha
 have hless:∀ b x,(m.less L).get b=some x→b∉L∧m.get b=some x:=fun b x h=>by
  simp only[Mem.less]at h
  split at h
  ·cases h
  ·exact⟨‹_›,h⟩
 have hr2:Rel W Φs ρ (m.less L) w:=by
  refine⟨hr.base,f2,fun b x hx=>?_,fun b b' x x' l l' h1 h2=>hr.inj b b' x x' l l' (hless _ _ h1).2 (hless _ _ h2).2,hr.fresh,f3⟩
  obtain⟨hb,hx⟩:=hless b x hx
  obtain⟨l,o,g1,g2,g3,g4,g5⟩:=hr.live b x hx
  refine⟨l,o,g1,g2,?_,g4,g5.ext f1⟩
  rcases f5 l.blk with h|⟨b2,l2,y,k1,k2,k3⟩
  ·rw[h]; exact g3
  ·exfalso
   have:=hr.inj b b2 x y l l2 hx ((part_sub m L).get _ _ k1) g1 k2 k3.symm
   subst this
   simp only[Mem.part]at k1
   cases hq:mem1 b L with
   | false=>rw[hq]at k1; cases k1
   | true=>exact hb (mem1_iff.1 hq)
 refine((he (m.less L) []).2 W Φs ρ vs w hr2 ha' (fun b hb=>by cases hb)).mono ?_
 rintro e' w' ⟨u,r,m',Φ',ρ',rfl,h1,h2,h3,h4,h5,rfl,rfl⟩
 exact⟨u,e.v,_,Φ',ρ',rfl,f1.trans h1,fun b hb hn h0=>h2 b hb (by simp) h0,h3,h4,Nat.le_refl _,rfl,rfl⟩
def blksV (get:Nat→Option ABlk):Nat→AVal→List Nat
 | 0,_=>[]
 | n+1,x=>match x with
  | .sl b _ _=>b :: (match get b with
   | some (.cells _ els)=>els.flatMap fun r=>r.flatMap (blksV get n)
   | _=>[])
  | .agg cs=>cs.flatMap (blksV get n)
  | .tuple cs=>cs.flatMap (blksV get n)
  | .imm els=>els.flatMap fun r=>r.flatMap (blksV get n)
  | _=>[]
def hasG (g:Nat):List Memo→Bool
 | []=>false
 | e :: r=>Nat.beq e.g g||hasG g r
def findM (g:Nat) (args:List AVal):List Memo→Option Memo
 | []=>none
 | e :: r=>bif Nat.beq e.g g then (bif beqL args e.args then some e else findM g args r)else findM g args r
theorem findM_spec {g:Nat} {args:List AVal}:∀ {l:List Memo} {e:Memo},Memo.All P l→findM g args l=some e→e.Ok P∧e.g=g∧args=e.args
 | [],e,_,h=>by simp[findM]at h
 | a :: r,e,ha,h=>by
  simp only[findM]at h
  cases h1:Nat.beq a.g g with
  | false=>rw[h1]at h; exact findM_spec ha.2 h
  | true=>
   rw[h1]at h
   simp only[cond_true]at h
   cases h2:beqL args a.args with
   | false=>rw[h2]at h; exact findM_spec ha.2 h
   | true=>
    rw[h2]at h
    simp only[cond_true,Option.some.injEq]at h
    subst h
    exact⟨ha.1,Nat.eq_of_beq_eq_true h1,beqL_eq _ _ h2⟩
def frzC (l:List Memo):Caller:=fun g args m=>
 bif hasG g l then
  let L:=args.flatMap (blksV m.tr.get 8)
  match mapO (freezeV (fun c=>bif mem1 c L then m.tr.get c else none) 8) args with
  | some args'=>match findM g args' l with
   | some e=>bif e.v.scalar then some (e.v,m,[])else bif L.all fun b=>Nat.ble (b+1) bound then some (e.v,lessT m L,L)else none
   | none=>none
  | none=>none
 else none
theorem lessT_mem:∀ (L:List Nat) (m:TM),(L.all fun b=>Nat.ble (b+1) bound)=true→(lessT m L).mem=m.mem.less L∧(lessT m L).next=m.next
 | [],m,_=>⟨Mem.ext' (fun c=>by simp[lessT,Mem.less]) rfl,rfl⟩
 | b :: r,m,h=>by
  simp only[List.all_cons,Bool.and_eq_true]at h
  obtain⟨h1,h2⟩:=lessT_mem r (m.set b none) h.2
  simp only[lessT]
  refine⟨?_,by rw[h2]; rfl⟩
  rw[h1,TM.set_mem_none (Nat.le_of_ble_eq_true h.1)]
  refine Mem.ext' (fun c=>?_) rfl
  simp only[Mem.less,Mem.get_del,List.mem_cons]
  by_cases hc:c=b
  ·simp[hc]
  ·simp[hc]
theorem frzC_ok {l:List Memo} (hl:Memo.All P l):CallerOk P (frzC l):=by
 intro g args m v m' wl h
 unfold frzC at h
 cases hg:hasG g l with
 | false=>rw[hg]at h; cases h
 | true=>
  rw[hg]at h
  simp only[cond_true]at h
  cases hf:mapO (freezeV (fun c=>bif mem1 c (args.flatMap (blksV m.tr.get 8))then m.tr.get c else none) 8) args with
  | none=>simp[hf]at h
  | some args'=>
   simp only[hf]at h
   cases hm:findM g args' l with
   | none=>simp[hm]at h
   | some e=>
    simp only[hm]at h
    obtain⟨h1,h2,h3⟩:=findM_spec hl hm
    subst h2; subst h3
    cases hs:e.v.scalar with
    | true=>
     rw[hs]at h
     simp only[cond_true,Option.some.injEq,Prod.mk.injEq]at h
     obtain⟨rfl,rfl,rfl⟩:=h
     exact⟨Nat.le_refl _,fun _ _ _=>rfl,fun id=>memo_scalar (m:=m.mem) (L:=args.flatMap (blksV m.tr.get 8)) (n:=8) h1 hs hf [id]⟩
    | false=>
     rw[hs]at h
     simp only[cond_false]at h
     cases hb:(args.flatMap (blksV m.tr.get 8)).all fun b=>Nat.ble (b+1) bound with
     | false=>rw[hb]at h; cases h
     | true=>
      rw[hb]at h
      simp only[cond_true,Option.some.injEq,Prod.mk.injEq]at h
      obtain⟨rfl,rfl,rfl⟩:=h
      obtain⟨k1,k2⟩:=lessT_mem _ m hb
      refine⟨by rw[k2]; exact Nat.le_refl _,fun c _ hc=>?_,fun id=>?_⟩
      ·rw[k1]
       simp only[Mem.less]
       rw[if_neg hc]
      ·rw[k1]
       exact memo_frozen (m:=m.mem) (L:=args.flatMap (blksV m.tr.get 8)) (n:=8) h1 hf [id]
end
end Go.AE
end
section
namespace Go.Plain
theorem cntP_append (p:Lt→Bool) (a b:List Lt):cntP p (a++b)=cntP p a+cntP p b:=by simp[cntP]
theorem cntP_cons (p:Lt→Bool) (l:Lt) (b:List Lt):cntP p (l :: b)=(if p l then 1 else 0)+cntP p b:=by
 simp only[cntP,List.filter_cons]
 grind
theorem cntP_split (p q:Lt→Bool) (ls:List Lt):cntP p ls=cntP (fun l=>p l&&q l) ls+cntP (fun l=>p l && !q l) ls:=by
 induction ls with
 | nil=>rfl
 | cons l r ih=>
  simp only[cntP_cons,ih]
  grind
theorem cntP_congr {p q:Lt→Bool} {ls:List Lt} (h:∀ l,l∈ls→p l=q l):cntP p ls=cntP q ls:=by
 unfold cntP
 rw[List.filter_congr h]
theorem cntP_le_one {p:Lt→Bool} {ls:List Lt}:cntP p ls≤ls.length:=List.length_filter_le _ _
theorem ranks_below {ls:List Lt} {q:Lt→Bool} (h1:∀ l,l∈ls→q l=true→1≤l.r∧l.r≤(cntP q ls:Nat)) (h2:∀ t:Int,cntP (fun l=>q l&&l.r == t) ls≤1) :
 ∀ t:Nat,t≤cntP q ls→cntP (fun l=>q l&&decide (l.r≤(t:Int))) ls=t:=by
 have step:∀ t:Nat,cntP (fun l=>q l&&decide (l.r≤((t+1:Nat):Int))) ls≤cntP (fun l=>q l&&decide (l.r≤(t:Int))) ls+1:=by
  intro t
  rw[cntP_split (fun l=>q l&&decide (l.r≤((t+1:Nat):Int))) (fun l=>decide (l.r≤(t:Int)))]
  have e1:cntP (fun l=>q l&&decide (l.r≤((t+1:Nat):Int))&&decide (l.r≤(t:Int))) ls=cntP (fun l=>q l&&decide (l.r≤(t:Int))) ls:=by
   apply cntP_congr
   intro l _
   cases q l with
   | false=>simp
   | true=>rw[Bool.eq_iff_iff]; simp; omega
  have e2:cntP (fun l=>q l&&decide (l.r≤((t+1:Nat):Int)) && !decide (l.r≤(t:Int))) ls=cntP (fun l=>q l&&l.r == ((t+1:Nat):Int)) ls:=by
   apply cntP_congr
   intro l _
   cases q l with
   | false=>simp
   | true=>rw[Bool.eq_iff_iff]; simp; omega
  simp_all
 have zero:cntP (fun l=>q l&&decide (l.r≤((0:Nat):Int))) ls=0:=by
  unfold cntP
  rw[List.length_eq_zero_iff,List.filter_eq_nil_iff]
  grind
 have full:cntP (fun l=>q l&&decide (l.r≤((cntP q ls:Nat):Int))) ls=cntP q ls:=by
  apply cntP_congr
  simp_all
 have up:∀ t:Nat,cntP (fun l=>q l&&decide (l.r≤(t:Int))) ls≤t:=by
  intro t
  induction t with
  | zero=>omega
  | succ t ih=>have:=step t; omega
 have down:∀ k t:Nat,t+k=cntP q ls→cntP q ls≤cntP (fun l=>q l&&decide (l.r≤(t:Int))) ls+k:=by
  intro k
  induction k with
  | zero=>grind
  | succ k ih=>
   intro t ht
   have h1:=ih (t+1) (by omega)
   have h2:=step t
   omega
 intro t ht
 have h1:=up t
 have h2:=down (cntP q ls - t) t (by omega)
 omega
def keyLt (a b:Lt):Bool:=decide (a.g<b.g)||(a.g == b.g&&decide (a.r<b.r))
theorem keyLt_irrefl (a:Lt):keyLt a a=false:=by simp[keyLt]
theorem keyLt_asymm {a b:Lt} (h:keyLt a b=true):keyLt b a=false:=by
 simp only[keyLt,Bool.or_eq_true,Bool.and_eq_true,decide_eq_true_eq,beq_iff_eq,Bool.or_eq_false_iff,Bool.and_eq_false_iff,decide_eq_false_iff_not,beq_eq_false_iff_ne]at *
 omega
theorem keyLt_total {a b:Lt} (h:¬(a.g=b.g∧a.r=b.r)):keyLt a b=true∨keyLt b a=true:=by
 simp only[keyLt,Bool.or_eq_true,Bool.and_eq_true,decide_eq_true_eq,beq_iff_eq]
 omega
theorem keyLt_trans {a b c:Lt} (h:keyLt a b=true) (h':keyLt b c=true):keyLt a c=true:=by
 simp only[keyLt,Bool.or_eq_true,Bool.and_eq_true,decide_eq_true_eq,beq_iff_eq]at *
 omega
def at' (ls:List Lt) (i:Nat):Lt:=ls.getD i default
def ins (ls:List Lt) (i:Nat):List Nat→List Nat
 | []=>[i]
 | j :: r=>if keyLt (at' ls j) (at' ls i)then j :: ins ls i r else i :: j :: r
def axisN (ls:List Lt):Nat→List Nat
 | 0=>[]
 | k+1=>if isP (at' ls k)then ins ls k (axisN ls k)else axisN ls k
def axis (ls:List Lt):List Nat:=axisN ls ls.length
theorem ins_perm (ls:List Lt) (i:Nat):∀ (l:List Nat),(ins ls i l).Perm (i :: l)
 | []=>List.Perm.refl _
 | j :: r=>by
  simp only[ins]
  split
  ·exact((ins_perm ls i r).cons j).trans (List.Perm.swap i j r)
  grind
theorem axisN_perm (ls:List Lt):∀ k,(axisN ls k).Perm ((List.range k).filter fun j=>isP (at' ls j))
 | 0=>List.Perm.refl _
 | k+1=>by
  rw[List.range_succ,List.filter_append]
  simp only[axisN,List.filter_cons,List.filter_nil]
  split
  ·exact((ins_perm ls k _).trans ((axisN_perm ls k).cons k)).trans (List.perm_append_comm (l₁:=[k]))
  ·simpa using axisN_perm ls k
theorem range_at (ls:List Lt):(List.range ls.length).map (at' ls)=ls:=by
 apply List.ext_getElem?
 intro i
 rw[List.getElem?_map]
 by_cases h:i<ls.length
 ·simp[h,at']
 ·simp[h]
theorem range_filter (ls:List Lt) (p:Lt→Bool):((List.range ls.length).filter fun j=>p (at' ls j)).length=cntP p ls:=by
 have h:(((List.range ls.length).map (at' ls)).filter p).length=((List.range ls.length).filter fun j=>p (at' ls j)).length:=by
  rw[List.filter_map,List.length_map]; rfl
 rw[← h,range_at]
 rfl
theorem axis_length (ls:List Lt):(axis ls).length=passes ls:=by
 rw[axis,(axisN_perm ls _).length_eq,range_filter]; rfl
theorem mem_axis {ls:List Lt} {j:Nat}:j∈axis ls↔j<ls.length∧isP (at' ls j)=true:=by
 rw[axis,(axisN_perm ls _).mem_iff]
 simp
def Apart (ls:List Lt):Prop:=∀ i j,i<ls.length→j<ls.length→isP (at' ls i)=true→isP (at' ls j)=true→(at' ls i).g=(at' ls j).g→(at' ls i).r=(at' ls j).r→i=j
theorem ins_sorted {ls:List Lt} {i:Nat}:∀ {l:List Nat},l.Pairwise (fun a b=>keyLt (at' ls a) (at' ls b)=true)→(∀ j,j∈l→keyLt (at' ls j) (at' ls i)=true∨keyLt (at' ls i) (at' ls j)=true) →
 (ins ls i l).Pairwise (fun a b=>keyLt (at' ls a) (at' ls b)=true)
 | [],_,_=>List.pairwise_singleton _ _
 | j :: r,h,ht=>by
  rw[List.pairwise_cons]at h
  simp only[ins]
  split
  ·rename_i hlt
   rw[List.pairwise_cons]
   refine⟨fun x hx=>?_,ins_sorted h.2 fun k hk=>ht k (List.mem_cons_of_mem _ hk)⟩
   have:=(ins_perm ls i r).mem_iff.1 hx
   grind
  ·rename_i hlt
   have hij:keyLt (at' ls i) (at' ls j)=true:=(ht j (List.mem_cons_self ..)).resolve_left hlt
   rw[List.pairwise_cons,List.pairwise_cons]
   refine⟨fun x hx=>?_,h.1,h.2⟩
   rcases List.mem_cons.1 hx with rfl|hx
   ·exact hij
   ·exact keyLt_trans hij (h.1 x hx)
theorem axisN_sorted {ls:List Lt} (ha:Apart ls):∀ k,k≤ls.length→(axisN ls k).Pairwise (fun a b=>keyLt (at' ls a) (at' ls b)=true)
 | 0,_=>List.Pairwise.nil
 | k+1,hk=>by
  simp only[axisN]
  split
  ·rename_i hp
   refine ins_sorted (axisN_sorted ha k (by omega)) fun j hj=>?_
   have:=(axisN_perm ls k).mem_iff.1 hj
   simp only[List.mem_filter,List.mem_range]at this
   apply keyLt_total
   rintro⟨h1,h2⟩
   have:=ha j k (by omega) (by omega) this.2 hp h1 h2
   omega
  ·exact axisN_sorted ha k (by omega)
theorem sorted_index {ls:List Lt}:∀ {l:List Nat} {p i:Nat},l.Pairwise (fun a b=>keyLt (at' ls a) (at' ls b)=true)→l[p]? = some i→(l.filter fun j=>keyLt (at' ls j) (at' ls i)).length=p
 | [],p,i,_,h=>by simp at h
 | j :: r,p,i,hs,h=>by
  rw[List.pairwise_cons]at hs
  cases p with
  | zero=>
   simp only[List.getElem?_cons_zero,Option.some.injEq]at h
   subst h
   rw[List.length_eq_zero_iff,List.filter_eq_nil_iff]
   intro x hx
   rcases List.mem_cons.1 hx with rfl|hx
   ·simp[keyLt_irrefl]
   ·rw[keyLt_asymm (hs.1 x hx)]; simp
  | succ p=>
   simp only[List.getElem?_cons_succ]at h
   rw[List.filter_cons,if_pos (hs.1 i (List.mem_of_getElem? h)),List.length_cons,sorted_index hs.2 h]
def pos (ls:List Lt) (l:Lt):Nat:=cntP (fun o=>isP o&&decide (o.g<l.g)) ls+(l.r - 1).toNat
def Ranked (ls:List Lt):Prop:=∀ l,l∈ls→isP l=true→1≤l.r∧l.r≤(inG l.g ls:Nat)
theorem at'_mem {ls:List Lt} {i:Nat} (h:i<ls.length):at' ls i∈ls:=by
 rw[at',List.getD,List.getElem?_eq_getElem h]
 grind
theorem apart_count {ls:List Lt} (ha:Apart ls) (g r:Int):cntP (fun l=>(isP l&&l.g == g)&&l.r == r) ls≤1:=by
 rw[← range_filter]
 have hn:((List.range ls.length).filter fun j=>(isP (at' ls j)&&(at' ls j).g == g)&&(at' ls j).r == r).Nodup:=(List.nodup_range).filter _
 rcases hl:(List.range ls.length).filter (fun j=>(isP (at' ls j)&&(at' ls j).g == g)&&(at' ls j).r == r)with _|⟨a,_|⟨b,t⟩⟩
 ·simp
 ·simp
 ·exfalso
  rw[hl]at hn
  have hma:a∈(List.range ls.length).filter (fun j=>(isP (at' ls j)&&(at' ls j).g == g)&&(at' ls j).r == r):=by rw[hl]; simp
  have hmb:b∈(List.range ls.length).filter (fun j=>(isP (at' ls j)&&(at' ls j).g == g)&&(at' ls j).r == r):=by rw[hl]; simp
  simp only[List.mem_filter,List.mem_range,Bool.and_eq_true,beq_iff_eq]at hma hmb
  have:=ha a b hma.1 hmb.1 hma.2.1.1 hmb.2.1.1 (by rw[hma.2.1.2,hmb.2.1.2]) (by rw[hma.2.2,hmb.2.2])
  grind
theorem below_count {ls:List Lt} (ha:Apart ls) (hr:Ranked ls) {l:Lt} (hl:l∈ls) (hp:isP l=true):cntP (fun o=>isP o&&keyLt o l) ls=pos ls l:=by
 obtain⟨h1,h2⟩:=hr l hl hp
 have hb:=ranks_below (ls:=ls) (q:=fun o=>isP o&&o.g == l.g) (fun o ho hq=>by
  simp only[Bool.and_eq_true,beq_iff_eq]at hq
  have:=hr o ho hq.1
  rw[hq.2]at this
  exact this) (fun t=>apart_count ha l.g t) (l.r - 1).toNat (by
   have h3:((cntP (fun o=>isP o&&o.g == l.g) ls:Nat):Int)=(inG l.g ls:Nat):=rfl
   omega)
 rw[cntP_split (fun o=>isP o&&keyLt o l) (fun o=>decide (o.g<l.g))]
 unfold pos
 congr 1
 ·apply cntP_congr
  intro o _
  by_cases h:o.g<l.g
  ·simp[keyLt,h]
  ·simp[h]
 ·rw[← hb]
  apply cntP_congr
  intro o _
  by_cases hg:o.g=l.g
  ·have e:(o.r<l.r)↔(o.r≤((l.r - 1).toNat:Int)):=by omega
   simp[keyLt,hg,e]
  ·by_cases h:o.g<l.g
   ·grind
   ·rw[Bool.eq_iff_iff]; simp[keyLt,h,hg]
theorem axis_at {ls:List Lt} (ha:Apart ls) (hr:Ranked ls) {i:Nat} (hi:i<ls.length) (hp:isP (at' ls i)=true):(axis ls)[pos ls (at' ls i)]? = some i:=by
 have hm:i∈axis ls:=mem_axis.2 ⟨hi,hp⟩
 obtain⟨p,hpl,hpe⟩:=List.getElem_of_mem hm
 have hpe':(axis ls)[p]? = some i:=by grind
 have hidx:=sorted_index (axisN_sorted ha _ (Nat.le_refl _)) hpe'
 have hcount:((axis ls).filter fun j=>keyLt (at' ls j) (at' ls i)).length=cntP (fun o=>isP o&&keyLt o (at' ls i)) ls:=by
  rw[axis,((axisN_perm ls ls.length).filter _).length_eq,List.filter_filter,← range_filter]
  grind
 have hidx':((axis ls).filter fun j=>keyLt (at' ls j) (at' ls i)).length=p:=hidx
 rw[hcount,below_count ha hr (at'_mem hi) hp]at hidx'
 rw[hidx']
 exact hpe'
end Go.Plain
end
