/- Part 31 of the proof: Po, AeNj, AeNk. -/
import Derived.Test.YtipeejpafgnjdaaGreatDoorF14
import Derived.Test.YtipeejpafgnjdaaGreatDoorF29
import Derived.Test.YtipeejpafgnjdaaGreatDoorF30
set_option linter.all false
section
namespace Go.Known
open Go.Plain
theorem cntP_map (p:Lt→Bool) (f:Lt→Lt) (ls:List Lt):cntP p (ls.map f)=cntP (fun l=>p (f l)) ls:=by
 unfold cntP
 rw [List.filter_map,List.length_map]
 rfl
theorem at'_map (f:Lt→Lt) {ls:List Lt} {v:Nat} (hv:v<ls.length):at' (ls.map f) v=f (at' ls v):=by
 unfold at'
 rw [List.getD,List.getD,List.getElem?_map,List.getElem?_eq_getElem hv]
 rfl
theorem okR_pass {f:Int} {ls:List Lt} {l:Lt} (hk:l.k=1):okR f ls l=true↔l.i=0∧l.s=0∧l.o=false∧0≤l.g∧l.g≤f∧1≤l.r∧l.r≤inG l.g ls∧same l ls=1:=by
 unfold okR
 rw [if_pos hk]
 simp [and_assoc]
theorem okR_cross {f:Int} {ls:List Lt} {l:Lt} (hk:l.k=2):okR f ls l=true↔l.g=0∧l.r=0∧(l.s=1∨l.s = -1)∧1≤l.i∧l.i≤(visits ls / 2:Nat)∧pairs l ls=1∧times l.i ls=2:=by
 unfold okR
 rw [if_neg (by omega),if_pos hk]
 simp [and_assoc]
theorem okR_kind {f:Int} {ls:List Lt} {l:Lt} (h:okR f ls l=true):l.k=1∨l.k=2:=by
 unfold okR at h
 split at h
 · exact .inl ‹_›
 · split at h
   · exact .inr ‹_›
   · cases h
structure ValR (f:Int) (ls:List Lt):Prop where
 len:ls.length≤400
 vis:visits ls≤200
 lo:0≤f
 hi:f≤40
 fst:(at' ls 0).k=1
 evn:passes ls % 2=0
 okr:∀ l,l∈ls→okR f ls l=true
 cyc:cycles (turnN ls (axis ls)) (2*ls.length+2*passes ls)=passes ls+visits ls / 2+2
theorem valR_of {f:Int} {ls:List Lt} (he:errC f ls=0) (h0:ls≠[]):ValR f ls:=by
 obtain⟨hf0,hf1,h1,h2,h3,h4,h5,h6⟩:=okAll_of he h0
 have hF:((f.toNat:Nat):Int)=f:=by omega
 have h7:¬(400<ls.length∨200<visits ls):=fun h=>by
  unfold errC at he
  rw [if_pos h] at he
  cases he
 have hb:=letters_back h1 h4 h5
 rw [hF] at hb
 refine⟨by omega,by omega,hf0,hf1,h2,h3,List.all_eq_true.1 hb,?_⟩
 rw [axis_length] at h6
 rw [h6,h5.2.2]
theorem ValR.to {f:Int} {ls:List Lt} (h:ValR f ls):errC f ls=0:=by
 have hF:((f.toNat:Nat):Int)=f:=by have:=h.lo; omega
 obtain⟨q1,q2,q3⟩:=letters_to (F:=f.toNat) (ls:=ls) (by rw [hF]; exact List.all_eq_true.2 h.okr)
 have a:=h.len
 have b:=h.vis
 have c:=h.lo
 have d:=h.hi
 unfold errC
 rw [if_neg (by omega),if_neg (by omega),if_pos]
 refine .inr ⟨q1,h.fst,h.evn,q2,q3,?_⟩
 rw [axis_length,q3.2.2]
 exact h.cyc
theorem ValR.ranks {f:Int} {ls:List Lt} (hlo:0≤f) (h:∀ l,l∈ls→okR f ls l=true):Ranked ls∧Apart ls∧CrOk ls:=by
 have hF:((f.toNat:Nat):Int)=f:=by omega
 obtain⟨q1,q2,q3⟩:=letters_to (F:=f.toNat) (ls:=ls) (by rw [hF]; exact List.all_eq_true.2 h)
 obtain⟨r1,r2⟩:=ranked_of (gated_of q1) q2
 exact⟨r1,r2,q3⟩
theorem otherN_congr {ls ls':List Lt} {v v':Nat} (h:∀ j,j<ls.length→isX (at' ls' j)=isX (at' ls j)∧(at' ls' j).i=(at' ls j).i) (hv:v<ls.length):∀ k s,s+k≤ls.length→otherN ls' v k s=otherN ls v k s
 | 0,_,_=>rfl
 | k+1,s,hs=>by
  simp only [otherN]
  rw [(h s (by omega)).1,(h s (by omega)).2,(h v hv).2,otherN_congr (v':=v') h hv k (s+1) (by omega)]
theorem down_congr {ls ls':List Lt} {f:Lt→Lt} (he:ls'=ls.map f) (hp:∀ l,isP (f l)=isP l) (v:Nat):down ls' v=down ls v:=by
 unfold down passes
 rw [he,← List.map_take,cntP_map]
 simp only [hp]
end Go.Known
end
section
namespace Go.AE
open Go.RowKit
variable {P:Program}
def EqRB (q:Nat→Nat):List (Nat×ABlk)→SMem→Prop
 | [],_=>True
 | (b,x) :: r,m=>m.get (q b)=some (x.ren q)∧EqRB q r m
theorem EqRB.get {q:Nat→Nat}:∀ {l:List (Nat×ABlk)} {m:SMem},EqRB q l m → ∀ c x,lookB l c=some x→m.get (q c)=some (x.ren q)
 | [],_,_,c,x,h=>by simp [lookB] at h
 | (b,y) :: r,m,hs,c,x,h=>by
  simp only [lookB] at h
  split at h
  · rename_i e; subst e; injection h with h; subst h; exact hs.1
  · exact hs.2.get c x h
theorem DC_new {g:FuncId} {args:List AVal} {m:SMem} {len nx n:Nat} {blk:ABlk} {x:List Nat} {K:AVal→Option ABlk→Prop} (hca:closedL args=true) (hb:∀ q,blk.ren q=blk)
 (h:Ctr P g args ⟨[],1⟩ fun r sm=>r=.sl 1 0 len∧sm=⟨[(1,blk)],nx⟩) (hK:K (.sl n 0 len) (some blk)):DC P g args n x m K:=by
 refine⟨_,some blk,?_,hK⟩
 show ACalls P g args (m.mem.less x) [n] fun r m'=>r=.sl n 0 len∧m'=(m.mem.less x).set n blk
 refine⟨h.1,fun W Φ ρ vs w hr hargs hav=>?_⟩
 obtain⟨hn0,hnn⟩:=hav n (List.mem_singleton.2 rfl)
 refine(h.2 ⟨w,fun _=>none,Φ⟩ Φ (fun _=>none) vs w ⟨⟨Below.refl _ _,fun B o hB=>(by cases hB)⟩,hr.pers,fun b y hy=>(by cases hy),fun b b' y y' l l' h1=>(by cases h1),fun b l hl=>(by cases hl),fun B c hB=>.inl hB⟩
  (hargs.closed hca) (fun b hb=>by simp at hb)).mono fun e w' he=>?_
 obtain⟨u,r,m1,Φ',ρ1,e1,hE,hk,hr',hR,hn,sm,rfl,rfl,rfl⟩:=he
 obtain⟨l1,o1,p1,p2,p3,p4,p5⟩:=hr'.live 1 blk rfl
 have hext:∀ b l,ρ b=some l→(if b=n then ρ1 1 else ρ b)=some l:=fun b l hl=>by
  rw [if_neg]
  · exact hl
  · rintro rfl; rw [hn0] at hl; cases hl
 have hold:∀ b y,(m.mem.less x).get b=some y→b≠n ∧ ∃ l o,ρ b=some l∧W.Free l.blk∧Φ' l.blk=none∧w'.heap[l.blk]? = some o∧l.blk<w.heap.size∧BR Φ ρ y l o:=by
  intro b y hy
  obtain⟨l,o,g1,g2,g3,g4,g5⟩:=hr.live b y hy
  have hlt:=heap_lt g4
  refine⟨(fun e=>by rw [e,hn0] at g1; cases g1),l,o,g1,g2,?_,?_,hlt,g5⟩
  · cases hpz:Φ' l.blk with
    | none=>rfl
    | some c=>
     rcases hr'.newp _ _ hpz with h1 | h1
     · have h1':Φ l.blk=some c:=h1
       rw [g3] at h1'; cases h1'
     · exact absurd h1.1 (Nat.not_le.2 hlt)
  · rw [hr'.base.below.block _ hlt]; exact g4
 refine⟨u,.sl n 0 len,(m.mem.less x).set n blk,Φ',fun b=>if b=n then ρ1 1 else ρ b,e1,⟨hE.pers,hext⟩,fun b hb hb2 h0=>?_,⟨hr.base.trans hr'.base.below,hr'.pers,fun b y hy=>?_,fun b b' y y' l l' g1 g2 g3 g4 he=>?_,fun b l hl=>?_,fun B c hB=>?_⟩,?_,Nat.le_refl _,rfl,rfl⟩
 · show(if b=n then ρ1 1 else ρ b)=none
   rw [if_neg (fun e=>hb2 (by rw [e]; exact List.mem_singleton.2 rfl))]
   exact h0
 · simp only [Mem.get_set] at hy
   by_cases hbn:b=n
   · rw [if_pos hbn] at hy
     injection hy with hy
     subst hy
     refine⟨l1,o1,by show(if b=n then ρ1 1 else ρ b)=some l1; rw [if_pos hbn]; exact p1,⟨Nat.le_trans hr.base.below.size p2.1,?_⟩,p3,p4,?_⟩
     · cases hg:W.g l1.blk with
       | none=>rfl
       | some o=>exact absurd (heap_lt (hr.base.prot _ _ hg)) (Nat.not_lt.2 p2.1)
     · rw [← hb fun _=>0] at p5
       exact BR.unren (fun b l hl=>by rw [hk 0 (Nat.lt_succ_self 0) (by simp) rfl] at hl; cases hl) p5
   · rw [if_neg hbn] at hy
     obtain⟨_,l,o,q1,q2,q3,q4,q5,q6⟩:=hold b y hy
     exact⟨l,o,hext _ _ q1,q2,q3,q4,q6.ext ⟨hE.pers,hext⟩⟩
 · have g3':(if b=n then ρ1 1 else ρ b)=some l:=g3
   have g4':(if b'=n then ρ1 1 else ρ b')=some l':=g4
   simp only [Mem.get_set] at g1 g2
   by_cases hb1:b=n
   · by_cases hb2:b'=n
     · rw [hb1,hb2]
     · rw [if_neg hb2] at g2 g4'
       rw [if_pos hb1,p1] at g3'
       injection g3' with g3'
       obtain⟨_,l0,o,q1,q2,q3,q4,q5,q6⟩:=hold b' y' g2
       rw [g4'] at q1; injection q1 with q1
       rw [← q1,← he,← g3'] at q5
       exact absurd q5 (Nat.not_lt.2 p2.1)
   · rw [if_neg hb1] at g1 g3'
     obtain⟨_,l0,o,q1,q2,q3,q4,q5,q6⟩:=hold b y g1
     rw [g3'] at q1; injection q1 with q1
     by_cases hb2:b'=n
     · rw [if_pos hb2,p1] at g4'
       injection g4' with g4'
       rw [← q1,he,← g4'] at q5
       exact absurd q5 (Nat.not_lt.2 p2.1)
     · rw [if_neg hb2] at g2 g4'
       exact hr.inj b b' y y' l l' g1 g2 g3' g4' he
 · have hl':(if b=n then ρ1 1 else ρ b)=some l:=hl
   show b<m.next
   by_cases hb1:b=n
   · rw [hb1]; exact hnn
   · rw [if_neg hb1] at hl'
     exact hr.fresh b l hl'
 · rcases hr'.newp B c hB with h1 | h1
   · exact hr.newp B c h1
   · refine .inr ⟨Nat.le_trans hr.base.below.size h1.1,?_⟩
     cases hg:W.g B with
     | none=>rfl
     | some o=>exact absurd (heap_lt (hr.base.prot _ _ hg)) (Nat.not_lt.2 h1.1)
 · cases hR with
   | sl _ _ _ a cap l hl hlc hn2 hcap hav1=>exact .sl n 0 len a cap l (by show(if n=n then ρ1 1 else ρ n)=some l; rw [if_pos rfl]; exact hl) hlc hn2 hcap hav1
end Go.AE
end
section
namespace Go.AE
open Go.RowKit
variable {P:Program}
def E0 (v:AVal):Prop:=∀ (Φ:Pers) (ρ:Rho) (u:Value),R Φ ρ v u → ∀(Φ':Pers) (ρ':Rho),R Φ' ρ' (.imm []) u
theorem E0_nil:E0 .nilSl:=fun Φ ρ u h Φ' ρ'=>by
 cases h
 exact .imm0 _ _ fun hp=>absurd hp (by omega)
theorem E0_sl (b off:Nat):E0 (.sl b off 0):=fun Φ ρ u h Φ' ρ'=>by
 cases h with
 | sl _ _ _ a cap l h hl hn hc ha=>exact .imm0 _ _ fun hp=>⟨_,_,hc hp⟩
theorem PCall.weak {g:FuncId} {args:List AVal} {v:AVal} (h:PCall P g args v) (hv:E0 v):PCall P g args (.imm []):=by
 intro m av
 refine⟨(h m av).1,fun W Φ ρ vs w hr ha hav=>((h m av).2 W Φ ρ vs w hr ha hav).mono fun e w' he=>?_⟩
 obtain⟨u,r,m',Φ',ρ',e1,hE,hk,hr',hR,hn,rfl,rfl⟩:=he
 exact⟨u,_,_,Φ',ρ',e1,hE,hk,hr',hv _ _ _ hR _ _,hn,rfl,rfl⟩
theorem PCall_emp {g:FuncId} {v1:AVal} (h1:PCall P g [.nilSl] v1) (hv1:E0 v1) (h2:Ctr P g [.sl 1 0 0] ⟨[],2⟩ fun r _=>E0 r):PCall P g [.imm []] (.imm []):=by
 intro m av
 refine⟨h2.1,fun W Φ ρ vs w hr ha hav=>?_⟩
 obtain⟨u,rfl⟩:∃ u,vs = #[u]:=by
  have hs:=ha.1
  obtain⟨l⟩:=vs
  match l,hs with
  | [u],_=>exact ⟨u,rfl⟩
 have hu:R Φ ρ (.imm []) u:=ha.2 0 _ _ rfl rfl
 have hz:∃ (a:Option Addr) (cap:Nat),u=.slice a 0 cap∧(0<cap → ∃ B o,a=some ⟨B,o,none⟩):=by
  cases hu with
  | imm0 a cap hz=>exact ⟨a,cap,rfl,hz⟩
  | imm _ B o k cap c f hne=>exact absurd rfl hne
 obtain⟨a,cap,rfl,hz⟩:=hz
 cases a with
 | none=>
  have hc:cap=0:=by
   rcases Nat.eq_zero_or_pos cap with h | h
   · exact h
   · obtain⟨_,_,h⟩:=hz h
     cases h
  subst hc
  refine((h1.weak hv1) m av).2 W Φ ρ #[.slice none 0 0] w hr ⟨rfl,fun i x v hx hv=>?_⟩ hav
  match i,hx,hv with
  | 0,hx,hv=>cases hx; cases hv; exact .nilSl
  | i+1,hx,hv=>simp at hx
 | some A=>
  refine(h2.2 ⟨w,fun _=>none,Φ⟩ Φ (fun b=>if b=1 then some ⟨A.block,A.off,1,A.off+cap⟩ else none) #[.slice (some A) 0 cap] w
   ⟨⟨Below.refl _ _,fun B o hB=>(by cases hB)⟩,hr.pers,fun b x hx=>(by cases hx),fun b b' x x' l l' h1=>(by cases h1),fun b l hb=>?_,fun B c hB=>.inl hB⟩
   ⟨rfl,fun i x v hx hv=>?_⟩ (fun b hb=>by simp at hb)).mono fun e w' he=>?_
  · show b<2
    split at hb
    · omega
    · cases hb
  · match i,hx,hv with
    | 0,hx,hv=>
     cases hx; cases hv
     refine .sl 1 0 0 _ cap ⟨A.block,A.off,1,A.off+cap⟩ rfl (Nat.zero_le _) (by simp) (fun hp=>?_) rfl
     obtain⟨B,o,h⟩:=hz hp
     injection h with h
     subst h
     simp
    | i+1,hx,hv=>simp at hx
  · obtain⟨u,r,m',Φ',ρ',rfl,hE,hk,hr',hR,hn,sm,rfl,hE0⟩:=he
    exact⟨u,_,m,Φ,ρ,rfl,Ext.refl _ _,fun b _ _ h=>h,hr.below hr'.base.below,hE0 _ _ _ hR _ _,Nat.le_refl _,rfl,rfl⟩
end Go.AE
end
