/- Part 33 of the proof: Rn, Rq, Rr, Rv, Pq, Rx, AeNj, AeNk, AeRm. -/
import Derived.Test.YtfmnflhggplkmaaGreatDoorO21
import Derived.Test.YtfmnflhggplkmaaGreatDoorO23
import Derived.Test.YtfmnflhggplkmaaGreatDoorO24
import Derived.Test.YtfmnflhggplkmaaGreatDoorO26
import Derived.Test.YtfmnflhggplkmaaGreatDoorO30
import Derived.Test.YtfmnflhggplkmaaGreatDoorO31
import Derived.Test.YtfmnflhggplkmaaGreatDoorO32
set_option linter.all false
section
namespace Go.Known
open Go Go.AE Go.Proofs
open Go.Plain
theorem imV_ne {rows:List (List AVal)} (h:¬rows=[]):imV rows=.imm rows:=by simp[imV,h]
end Go.Known
end
section
namespace Go.Known
open Go Go.AE Go.Proofs
open Go.Plain
theorem FRow.one {w:List Nat×Bool} {row:List AVal} (h:FRow w row):∀ x,x∈row→x.one=true:=by
 obtain⟨ab,o,P,G,rfl,_⟩:=h
 have hi:∀ rows:List (List AVal),(imV rows).one=true:=fun rows=>by unfold imV; split<;>rfl
 intro x hx
 simp only[List.mem_cons,List.not_mem_nil,or_false]at hx
 rcases hx with rfl|rfl|rfl|rfl|rfl<;>first|rfl|exact hi _
end Go.Known
end
section
namespace Go.Known
open Go Go.AE Go.Proofs
open Go.Plain
theorem w00:IntKind.i64.wrap 0=0:=by decide
attribute [local simp] w00
theorem tr_lt {T:Nat→Nat} {N:Nat} (hT:∀ d,d<N→T d<N):∀ (k:Nat) (seen:List Bool) (x:Nat),x<N → ∀ y,y∈tr T k seen x→y<N
 | 0,_,_,_,y,h=>by simp[tr]at h
 | k+1,seen,x,hx,y,h=>by
  simp only[tr]at h
  split at h
  ·simp at h
  ·rcases List.mem_cons.1 h with rfl|h
   ·exact hx
   ·exact tr_lt hT k _ _ (hT x hx) y h
theorem wks_all {T:Nat→Nat} {N:Nat} (hT:∀ d,d<N→T d<N):∀ (k:Nat) (seen:List Bool),k≤N→(wks T N k seen).length≤k ∧ ∀ w,w∈wks T N k seen→w.length≤N+1 ∧ ∀ x,x∈w→x<N
 | 0,_,_=>by simp[wks]
 | k+1,seen,hk=>by
  simp only[wks]
  split
  ·have:=wks_all hT k seen (by omega)
   exact⟨by omega,this.2⟩
  ·have:=wks_all hT k (Plain.mark T (N+1) seen (N - (k+1))) (by omega)
   refine⟨by simp; omega,fun w hw=>?_⟩
   rcases List.mem_cons.1 hw with rfl|hw
   ·exact⟨tr_length T _ _ _,tr_lt hT _ _ _ (by omega)⟩
   ·exact this.2 w hw
theorem wks_head {T:Nat→Nat} {n N:Nat} (hn:n≤N) (hA:∀ z,n≤z→z<N→T z<n) (hT:∀ d,d<N→T d<N) (hI:∀ y y',y<n→y'<n→n≤T y→T y=T y'→y=y') (hS:∀ z,n≤z→z<N → ∃ y,y<n∧T y=z) :
 ∀(k:Nat) (seen:List Bool),k≤n→seen.length=N→(∀ y,y<n - k→seen.getD y true=true)→(∀ y,y<n→n≤T y→seen.getD (T y) true=seen.getD y true) →
  ∀ w,w∈wks T N (k+(N - n)) seen → ∃ d r,w=d :: r∧d<n
 | 0,seen,_,hs,hd,hJ=>by
  rw[wks_none]
  ·intro w hw; simp at hw
  ·intro x
   rcases Nat.lt_or_ge x n with h1|h1
   ·exact hd x (by omega)
   ·rcases Nat.lt_or_ge x N with h2|h2
    ·obtain⟨y,hy,rfl⟩:=hS x h1 h2
     rw[hJ y hy h1]
     exact hd y (by omega)
    ·rw[List.getD_eq_getElem?_getD,List.getElem?_eq_none (by omega)]; rfl
 | k+1,seen,hk,hs,hd,hJ=>by
  have e:k+1+(N - n)=(k+(N - n))+1:=by omega
  have e2:N - (k+(N - n)+1)=n - (k+1):=by omega
  rw[e]
  simp only[wks,e2]
  have hstep:∀ seen':List Bool,(∀ y,seen.getD y true=true→seen'.getD y true=true)→seen'.getD (n - (k+1)) true=true → ∀ y,y<n - k→seen'.getD y true=true:=fun seen' h1 h2 y hy=>by
   rcases Nat.lt_or_ge y (n - (k+1))with h3|h3
   ·exact h1 y (hd y h3)
   ·have:y=n - (k+1):=by omega
    rw[this]; exact h2
  cases hx:seen.getD (n - (k+1)) true with
  | true=>
   simp only[if_true]
   exact wks_head hn hA hT hI hS k seen (by omega) hs (hstep seen (fun _ h=>h) hx) hJ
  | false=>
   have hul:=unseen_le (l:=seen)
   have hul2:=unseen_le (l:=seen.take n)
   rw[List.length_take]at hul2
   obtain⟨_,_,h3⟩:=walk_sim hn hA hT hI (N+1) (2*n+2) seen (n - (k+1)) hs (by omega) (by omega) (by rw[if_neg (by omega)]; omega)
    (fun y hy hTy=>by
      rw[hJ y hy hTy]
      have:T y≠n - (k+1):=by omega
      simp[this]) (fun h=>by omega)
   simp only[Bool.false_eq_true,if_false]
   intro w hw
   rcases List.mem_cons.1 hw with rfl|hw
   ·refine⟨n - (k+1),tr T N (seen.set (n - (k+1)) true) (T (n - (k+1))),?_,by omega⟩
    simp only[tr,hx,Bool.false_eq_true,if_false]
   ·refine wks_head hn hA hT hI hS k _ (by omega) (by rw[mark_length]; exact hs) (hstep _ (fun y hy=>mark_mono _ _ _ hy) ?_) h3 w hw
    simp only[Plain.mark,hx,Bool.false_eq_true,if_false]
    exact mark_mono _ _ _ (by rw[getD_set (by omega)]; simp)
theorem walks_head {T:Nat→Nat} {n N:Nat} (hn:n≤N) (hA:∀ z,n≤z→z<N→T z<n) (hT:∀ d,d<N→T d<N) (hI:∀ y y',y<n→y'<n→n≤T y→T y=T y'→y=y') (hS:∀ z,n≤z→z<N → ∃ y,y<n∧T y=z) :
 ∀ w,w∈walks T N → ∃ d r,w=d :: r∧d<n:=by
 have h:=wks_head hn hA hT hI hS n (List.replicate N false) (Nat.le_refl _) (by simp) (fun y hy=>by omega) (fun y hy hTy=>by
  have h1:∀ y,y<N→(List.replicate N false).getD y true=false:=fun y hy=>by rw[List.getD_eq_getElem?_getD,List.getElem?_replicate,if_pos hy]; rfl
  rw[h1 y (by omega),h1 (T y) (hT y (by omega))])
 rw[Nat.add_sub_cancel' hn]at h
 exact h
structure ValidC (f:Int) (ls:List Lt):Prop where
 fill:Filled ls (crE ls ls.length)
 pas:0<passes ls
 kin:∀ v,v<ls.length→(at' ls v).k≠2→(at' ls v).k=1
 axi:∀ v,v∈axis ls→v<ls.length∧0≤(at' ls v).g∧(at' ls v).g≤40
section
variable {f:Int} {ls:List Lt}
abbrev wksC (ls:List Lt):List (List Nat):=walks (turnN ls (axis ls)) (2*ls.length+2*passes ls)
theorem ValidC.wk (h:ValidC f ls):(wksC ls).length≤4000 ∧ ∀ w,w∈wksC ls → ∃ d r,w=d :: r∧d<2*ls.length∧w.length≤4001 ∧ ∀ x,x∈w→x<2*ls.length+2*passes ls:=by
 obtain⟨h1,h2,h3,h4⟩:=turn_rule h.pas h.kin
 have hpl:passes ls≤ls.length:=cntP_le_one
 have hs:=h.fill.small
 obtain⟨a1,a2⟩:=wks_all h2 (2*ls.length+2*passes ls) (List.replicate (2*ls.length+2*passes ls) false) (Nat.le_refl _)
 refine⟨Nat.le_trans a1 (by omega),fun w hw=>?_⟩
 obtain⟨d,r,e,hd⟩:=walks_head (by omega) h1 h2 h3 h4 w hw
 obtain⟨b1,b2⟩:=a2 w hw
 exact⟨d,r,e,hd,by omega,b2⟩
theorem ValidC.T (h:ValidC f ls):(∀ d,d<2*ls.length+2*(axis ls).length→turnN ls (axis ls) d<2*ls.length+2*(axis ls).length) ∧
 ∀ d,2*ls.length≤d→d<2*ls.length+2*(axis ls).length→turnN ls (axis ls) d<2*ls.length:=by
 obtain⟨h1,h2,_,_⟩:=turn_rule h.pas h.kin
 rw[axis_length]
 exact⟨h2,h1⟩
end
end Go.Known
end
section
namespace Go.Known
open Go Go.AE Go.Proofs
open Go.Plain
@[simp] theorem sd_slSl (id : Nat) (f : AOpd → AVal) (get : Nat → Option ABlk) (k : Nat) (x : AOpd) (lo hi : Option AOpd) : stepD id f get (.slSl k x lo hi none) = match f x with
 | .nilSl=>match slBoundsD f 0 0 lo hi with
  | some _=>some (.nilSl,[])
  | none=>none
 | .emp=>match slBoundsD f 0 0 lo hi with
  | some _=>some (.emp,[])
  | none=>none
 | .imm els=>if els.all (·.length == k)then match slBoundsD f els.length els.length lo hi with
  | some (l,h)=>some (.imm ((els.take h).drop l),[])
  | none=>none
  else none
 | .sl b off len=>match get b with
  | some (.cells k' els)=>if k'=k∧off+len≤els.length then match slBoundsD f len (els.length - off) lo hi with
   | some (l,h)=>some (.sl b (off+l) (h - l),[])
   | none=>none
   else none
  | _=>none
 | _=>none:=rfl
end Go.Known
end
section
namespace Go.Known
open Go.Plain
def rotL (a:Nat) (ls:List Lt):List Lt:=ls.drop a++ls.take a
section
variable {f:Int} {ls:List Lt}
end
end Go.Known
end
section
namespace Go.Known
open Go Go.AE Go.Proofs
open Go.Plain
theorem scal_rows {get:Nat→Option ABlk} {n:Nat} (l:List Lt):∀ row,row∈l.map rowL → ∀ x,x∈row→freezeV get (n+1) x=some x:=by
 intro row hr x hx
 obtain⟨i,_,rfl⟩:=List.mem_map.1 hr
 simp only[rowL,List.mem_cons,List.not_mem_nil,or_false]at hx
 rcases hx with rfl|rfl|rfl|rfl|rfl|rfl<;>rfl
end Go.Known
end
section
namespace Go.AE
open Go.RowKit
variable {P:Program}
def EqRB (q:Nat→Nat):List (Nat×ABlk)→SMem→Prop
 | [],_=>True
 | (b,x) :: r,m=>m.get (q b)=some (x.ren q)∧EqRB q r m
theorem EqRB.get {q:Nat→Nat}:∀ {l:List (Nat×ABlk)} {m:SMem},EqRB q l m → ∀ c x,lookB l c=some x→m.get (q c)=some (x.ren q)
 | [],_,_,c,x,h=>by simp[lookB]at h
 | (b,y) :: r,m,hs,c,x,h=>by
  simp only[lookB]at h
  split at h
  ·rename_i e; subst e; injection h with h; subst h; exact hs.1
  ·exact hs.2.get c x h
theorem DC_new {g:FuncId} {args:List AVal} {m:SMem} {len nx n:Nat} {blk:ABlk} {x:List Nat} {K:AVal→Option ABlk→Prop} (hca:closedL args=true) (hb:∀ q,blk.ren q=blk)
 (h:Ctr P g args ⟨[],1⟩ fun r sm=>r=.sl 1 0 len∧sm=⟨[(1,blk)],nx⟩) (hK:K (.sl n 0 len) (some blk)):DC P g args n x m K:=by
 refine⟨_,some blk,?_,hK⟩
 show ACalls P g args (m.mem.less x) [n] fun r m'=>r=.sl n 0 len∧m'=(m.mem.less x).set n blk
 refine⟨h.1,fun W Φ ρ vs w hr hargs hav=>?_⟩
 obtain⟨hn0,hnn⟩:=hav n (List.mem_singleton.2 rfl)
 refine(h.2 ⟨w,fun _=>none,Φ,hr.tab⟩ Φ (fun _=>none) vs w ⟨⟨Below.refl _ _,fun B o hB=>(by cases hB)⟩,hr.pers,fun b y hy=>(by cases hy),fun b b' y y' l l' h1=>(by cases h1),fun b l hl=>(by cases hl),fun B c hB=>.inl hB⟩
  (hargs.closed hca) (fun b hb=>by simp at hb)).mono fun e w' he=>?_
 obtain⟨u,r,m1,Φ',ρ1,e1,hE,hk,hr',hR,hn,sm,rfl,rfl,rfl⟩:=he
 obtain⟨l1,o1,p1,p2,p3,p4,p5⟩:=hr'.live 1 blk rfl
 have hext:∀ b l,ρ b=some l→(if b=n then ρ1 1 else ρ b)=some l:=fun b l hl=>by
  grind
 have hold:∀ b y,(m.mem.less x).get b=some y→b≠n ∧ ∃ l o,ρ b=some l∧W.Free l.blk∧Φ' l.blk=none∧w'.heap[l.blk]? = some o∧l.blk<w.heap.size∧BR Φ ρ y l o:=by
  intro b y hy
  obtain⟨l,o,g1,g2,g3,g4,g5⟩:=hr.live b y hy
  have hlt:=heap_lt g4
  refine⟨(fun e=>by grind),l,o,g1,g2,?_,?_,hlt,g5⟩
  ·cases hpz:Φ' l.blk with
   | none=>rfl
   | some c=>
    rcases hr'.newp _ _ hpz with h1|h1
    ·grind
    ·exact absurd h1.1 (Nat.not_le.2 hlt)
  ·rw[hr'.base.below.block _ hlt]; exact g4
 refine⟨u,.sl n 0 len,(m.mem.less x).set n blk,Φ',fun b=>if b=n then ρ1 1 else ρ b,e1,⟨hE.pers,hext⟩,fun b hb hb2 h0=>?_,⟨hr.base.trans hr'.base.below,hr'.pers,fun b y hy=>?_,fun b b' y y' l l' g1 g2 g3 g4 he=>?_,fun b l hl=>?_,fun B c hB=>?_⟩,?_,Nat.le_refl _,rfl,rfl⟩
 ·grind
 ·simp only[Mem.get_set]at hy
  by_cases hbn:b=n
  ·rw[if_pos hbn]at hy
   injection hy with hy
   subst hy
   refine⟨l1,o1,by grind,⟨Nat.le_trans hr.base.below.size p2.1,?_⟩,p3,p4,?_⟩
   ·cases hg:W.g l1.blk with
    | none=>rfl
    | some o=>exact absurd (heap_lt (hr.base.prot _ _ hg)) (Nat.not_lt.2 p2.1)
   ·rw[← hb fun _=>0]at p5
    exact BR.unren (fun b l hl=>by rw[hk 0 (Nat.lt_succ_self 0) (by simp) rfl]at hl; cases hl) p5
  ·rw[if_neg hbn]at hy
   obtain⟨_,l,o,q1,q2,q3,q4,q5,q6⟩:=hold b y hy
   exact⟨l,o,hext _ _ q1,q2,q3,q4,q6.ext ⟨hE.pers,hext⟩⟩
 ·have g3':(if b=n then ρ1 1 else ρ b)=some l:=g3
  have g4':(if b'=n then ρ1 1 else ρ b')=some l':=g4
  simp only[Mem.get_set]at g1 g2
  by_cases hb1:b=n
  ·by_cases hb2:b'=n
   ·rw[hb1,hb2]
   ·rw[if_neg hb2]at g2 g4'
    rw[if_pos hb1,p1]at g3'
    injection g3' with g3'
    obtain⟨_,l0,o,q1,q2,q3,q4,q5,q6⟩:=hold b' y' g2
    rw[g4']at q1; injection q1 with q1
    rw[← q1,← he,← g3']at q5
    exact absurd q5 (Nat.not_lt.2 p2.1)
  ·rw[if_neg hb1]at g1 g3'
   obtain⟨_,l0,o,q1,q2,q3,q4,q5,q6⟩:=hold b y g1
   rw[g3']at q1; injection q1 with q1
   by_cases hb2:b'=n
   ·rw[if_pos hb2,p1]at g4'
    injection g4' with g4'
    rw[← q1,he,← g4']at q5
    exact absurd q5 (Nat.not_lt.2 p2.1)
   ·rw[if_neg hb2]at g2 g4'
    exact hr.inj b b' y y' l l' g1 g2 g3' g4' he
 ·have hl':(if b=n then ρ1 1 else ρ b)=some l:=hl
  show b<m.next
  by_cases hb1:b=n
  ·rw[hb1]; exact hnn
  ·rw[if_neg hb1]at hl'
   exact hr.fresh b l hl'
 ·rcases hr'.newp B c hB with h1|h1
  ·exact hr.newp B c h1
  ·refine .inr ⟨Nat.le_trans hr.base.below.size h1.1,?_⟩
   cases hg:W.g B with
   | none=>rfl
   | some o=>exact absurd (heap_lt (hr.base.prot _ _ hg)) (Nat.not_lt.2 h1.1)
 ·cases hR with
  | sl _ _ _ a cap l hl hlc hn2 hcap hav1=>exact .sl n 0 len a cap l (by grind) hlc hn2 hcap hav1
end Go.AE
end
section
namespace Go.AE
open Go.RowKit
variable {P:Program}
def E0 (v:AVal):Prop:=∀ (Φ:Pers) (ρ:Rho) (u:Value),R Φ ρ v u → ∀(Φ':Pers) (ρ':Rho),R Φ' ρ' (.imm []) u
theorem E0_nil:E0 .nilSl:=fun Φ ρ u h Φ' ρ'=>by
 cases h
 exact .imm0 _ _ fun hp=>absurd hp (by omega)
end Go.AE
end
section
namespace Go.AE
open Go.RowKit
section
variable {P:Program} {b N G n base:Nat}
theorem calleeF_E {e:Env} {f:AOpd} {xs:List AOpd} {g:FuncId} {args:List AVal} (h:calleeE n e f xs=some (g,args)):calleeF (toE n e) f xs=some (.func g,args):=by
 unfold calleeE at h
 unfold calleeF
 rw[ev_toE]
 grind
theorem BR.pref {Φ:Pers} {ρ:Rho} {k:Nat} {els rest:List (List AVal)} {l:Loc} {o:Obj} (h:BR Φ ρ (.cells k (els++rest)) l o):BR Φ ρ (.cells k els) l o:=by
 cases h with
 | cells k els' l c e hk hn hll hr h1=>
  have hg:∀ (i:Nat) (row:List AVal),els[i]? = some row→(els++rest)[i]? = some row:=fun i row hi=>by
   grind
  refine .cells k els l c e hk hn (by simp at hll; omega) ⟨fun i row hi=>hr.1 i row (hg i row hi),fun i row j x hi hj=>hr.2 i row j x (hg i row hi) hj⟩ h1
def Trim (mt m:SMem):Prop:=m.next=mt.next ∧ ∀ b x,mt.get b=some x→m.get b=some x ∨ ∃ k els rest,x=.cells k els∧m.get b=some (.cells k (els++rest))
theorem Trim.rel {mt m:SMem} (ht:Trim mt m) {W:Base} {Φ:Pers} {ρ:Rho} {w:World} (h:Rel W Φ ρ m.mem w):Rel W Φ ρ mt.mem w:=by
 refine⟨h.base,h.pers,fun b x hx=>?_,fun b b' x x' l l' h1 h2 h3 h4 h5=>?_,fun b l hb=>?_,h.newp⟩
 ·rcases ht.2 b x hx with g|⟨k,els,rest,rfl,g⟩
  ·exact h.live b x g
  ·obtain⟨l,o,g1,g2,g3,g4,g5⟩:=h.live b _ g
   exact⟨l,o,g1,g2,g3,g4,g5.pref⟩
 ·have hex:∀ b x,mt.get b=some x → ∃ y,m.get b=some y:=fun b x hx=>by
   rcases ht.2 b x hx with g|⟨_,_,_,_,g⟩<;>exact ⟨_,g⟩
  obtain⟨y,hy⟩:=hex _ _ h1
  obtain⟨y',hy'⟩:=hex _ _ h2
  exact h.inj b b' y y' l l' hy hy' h3 h4 h5
 ·have:=h.fresh b l hb
  show b<mt.next
  rw[← ht.1]
  exact this
theorem Trim.refl (m:SMem):Trim m m:=⟨rfl,fun _ _ h=>.inl h⟩
variable {K:Env→SMem→Prop} {Q:Exit→Env→SMem→Prop} {e:Env} {m:SMem}
variable {id:Nat} {f:AOpd→AVal} {get:Nat→Option ABlk}
end
end Go.AE
end
