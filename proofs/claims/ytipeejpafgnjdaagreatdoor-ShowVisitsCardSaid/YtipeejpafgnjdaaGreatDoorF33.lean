/- Part 33 of the proof: We, AeEm. -/
import Derived.Test.YtipeejpafgnjdaaGreatDoorF31
import Derived.Test.YtipeejpafgnjdaaGreatDoorF32
set_option linter.all false
section
namespace Go.Known
open Go.Plain
def inL (g a:Int) (l:Lt):Lt:=if l.k=1∧(g<l.g∨l.g=g∧a<l.r) then { l with g:=l.g+1,r:=if l.g=g then l.r - a else l.r } else l
def inN (g a:Int) (ls:List Lt):List Lt:=ls.map (inL g a)
section
variable {g a:Int} {ls:List Lt}
theorem in_k (l:Lt):(inL g a l).k=l.k:=by unfold inL; split<;>rfl
theorem in_i (l:Lt):(inL g a l).i=l.i:=by unfold inL; split<;>rfl
theorem in_o (l:Lt):(inL g a l).o=l.o:=by unfold inL; split<;>rfl
theorem in_s (l:Lt):(inL g a l).s=l.s:=by unfold inL; split<;>rfl
theorem in_isP (l:Lt):isP (inL g a l)=isP l:=by unfold isP; rw [in_k]
theorem in_isX (l:Lt):isX (inL g a l)=isX l:=by unfold isX; rw [in_k]
theorem in_cross {l:Lt} (h:¬l.k=1):inL g a l=l:=by unfold inL; rw [if_neg (fun e=>h e.1)]
theorem in_vals {l:Lt} (h:l.k=1):(g<l.g→(inL g a l).g=l.g+1)∧(l.g<g→(inL g a l).g=l.g)∧(¬l.g=g→(inL g a l).r=l.r) ∧
 (l.g=g→a<l.r→(inL g a l).g=l.g+1∧(inL g a l).r=l.r - a)∧(l.g=g → ¬a<l.r→(inL g a l).g=l.g∧(inL g a l).r=l.r):=by
 unfold inL
 by_cases h1:g<l.g∨l.g=g∧a<l.r
 · rw [if_pos ⟨h,h1⟩]
   by_cases h2:l.g=g
   · rw [if_pos h2]
     refine⟨fun _=>rfl,fun _=>by omega,fun _=>by omega,fun _ _=>⟨rfl,rfl⟩,fun _ _=>by omega⟩
   · rw [if_neg h2]
     refine⟨fun _=>rfl,fun _=>by omega,fun _=>rfl,fun _ _=>by omega,fun _ _=>by omega⟩
 · rw [if_neg (fun e=>h1 e.2)]
   omega
theorem in_key {x y:Lt} (hx:x.k=1) (hy:y.k=1):keyLt (inL g a x) (inL g a y)=keyLt x y:=by
 obtain⟨a1,a2,a3,a4,a5⟩:=in_vals (g:=g) (a:=a) hx
 obtain⟨b1,b2,b3,b4,b5⟩:=in_vals (g:=g) (a:=a) hy
 unfold keyLt
 rw [Bool.eq_iff_iff]
 simp only [Bool.or_eq_true,Bool.and_eq_true,decide_eq_true_eq,beq_iff_eq]
 generalize (inL g a x).g=xg at *
 generalize (inL g a x).r=xr at *
 generalize (inL g a y).g=yg at *
 generalize (inL g a y).r=yr at *
 omega
theorem in_eq {x y:Lt} (hx:x.k=1) (hy:y.k=1):((inL g a x).g=(inL g a y).g∧(inL g a x).r=(inL g a y).r)↔(x.g=y.g∧x.r=y.r):=by
 obtain⟨a1,a2,a3,a4,a5⟩:=in_vals (g:=g) (a:=a) hx
 obtain⟨b1,b2,b3,b4,b5⟩:=in_vals (g:=g) (a:=a) hy
 generalize (inL g a x).g=xg at *
 generalize (inL g a x).r=xr at *
 generalize (inL g a y).g=yg at *
 generalize (inL g a y).r=yr at *
 omega
end
theorem in_axis {g a:Int} {ls:List Lt}:axis (inN g a ls)=axis ls:=by
 unfold axis
 rw [show (inN g a ls).length=ls.length by simp [inN]]
 exact axisN_congr2 in_isP (fun x hx y hy px py=>in_key (by simpa [isP] using px) (by simpa [isP] using py)) _ (Nat.le_refl _)
theorem ValR.below {f:Int} {ls:List Lt} (h:ValR f ls) {g:Int} {a:Nat} (ha:a≤inG g ls):cntP (fun l=>(isP l&&l.g == g)&&decide (l.r≤(a:Int))) ls=a:=by
 obtain⟨hr,hap,_⟩:=ValR.ranks h.lo h.okr
 refine ranks_below (fun l hl hq=>?_) (fun t=>apart_count hap g t) a ha
 simp only [Bool.and_eq_true,beq_iff_eq] at hq
 have:=hr l hl hq.1
 rw [hq.2] at this
 exact this
theorem in_inG {f:Int} {ls:List Lt} (h:ValR f ls) {g:Int} {a:Nat} (ha:a≤inG g ls) (j:Int) :
 (inG j (inN g a ls):Int)=if j<g then (inG j ls:Int) else if j=g then (a:Int) else if j=g+1 then (inG g ls:Int) - a else (inG (j - 1) ls:Int):=by
 have hb:=h.below ha
 have hsp:=cntP_split (fun l=>isP l&&l.g == g) (fun l=>decide (l.r≤(a:Int))) ls
 rw [hb] at hsp
 have hG:inG g ls=cntP (fun l=>isP l&&l.g == g) ls:=rfl
 rw [← hG] at hsp
 have key:∀ P:Lt→Bool,(∀ o,isP o=true→((inL g a o).g == j)=P o)→inG j (inN g a ls)=cntP (fun l=>isP l&&P l) ls:=fun P hP=>by
  unfold inG inN
  rw [cntP_map]
  refine cntP_congr fun o ho=>?_
  rw [in_isP]
  cases hp:isP o with
  | false=>rfl
  | true=>rw [hP o hp]
 have hv:∀ o,isP o=true→o.k=1:=fun o hp=>by simpa [isP] using hp
 by_cases h1:j<g
 · rw [if_pos h1,key (fun o=>o.g == j) fun o hp=>by
    obtain⟨a1,a2,a3,a4,a5⟩:=in_vals (g:=g) (a:=a) (hv o hp)
    rw [Bool.eq_iff_iff]
    simp only [beq_iff_eq]
    omega]
   rfl
 · rw [if_neg h1]
   by_cases h2:j=g
   · rw [if_pos h2,key (fun o=>o.g == g&&decide (o.r≤(a:Int))) fun o hp=>by
      obtain⟨a1,a2,a3,a4,a5⟩:=in_vals (g:=g) (a:=a) (hv o hp)
      rw [Bool.eq_iff_iff]
      simp only [beq_iff_eq,Bool.and_eq_true,decide_eq_true_eq]
      omega]
     congr 1
     rw [← hb]
     exact cntP_congr fun o _=>by rw [hb,Bool.and_assoc]
   · rw [if_neg h2]
     by_cases h3:j=g+1
     · rw [if_pos h3,key (fun o=>o.g == g && !decide (o.r≤(a:Int))) fun o hp=>by
        obtain⟨a1,a2,a3,a4,a5⟩:=in_vals (g:=g) (a:=a) (hv o hp)
        rw [Bool.eq_iff_iff]
        simp only [beq_iff_eq,Bool.and_eq_true,Bool.not_eq_true',decide_eq_false_iff_not]
        omega]
       rw [show (inG g ls:Int) - a=((inG g ls - a:Nat):Int) by omega]
       congr 1
       have:inG g ls - a=cntP (fun l=>(isP l&&l.g == g) && !decide (l.r≤(a:Int))) ls:=by omega
       rw [this]
       exact cntP_congr fun o _=>by rw [Bool.and_assoc]
     · rw [if_neg h3,key (fun o=>o.g == j - 1) fun o hp=>by
        obtain⟨a1,a2,a3,a4,a5⟩:=in_vals (g:=g) (a:=a) (hv o hp)
        rw [Bool.eq_iff_iff]
        simp only [beq_iff_eq]
        omega]
       rfl
theorem ValR.insert {f:Int} {ls:List Lt} (h:ValR f ls) (h0:ls≠[]) {g:Int} {a:Nat} (h1:0≤g) (h2:g≤f) (h3:f+1≤40) (ha:a≤inG g ls):ValR (f+1) (inN g a ls):=by
 have hpos:0<ls.length:=List.length_pos_iff.2 h0
 have hl:(inN g a ls).length=ls.length:=by simp [inN]
 have hv:visits (inN g a ls)=visits ls:=by unfold visits inN; rw [cntP_map]; exact cntP_congr fun l _=>in_isX l
 have hp:passes (inN g a ls)=passes ls:=by unfold passes inN; rw [cntP_map]; exact cntP_congr fun l _=>in_isP l
 have hT:turnN (inN g a ls) (axis (inN g a ls))=turnN ls (axis ls):=by
  rw [in_axis]
  exact funext fun d=>turn_congr in_k in_i in_o in_s _ d
 refine⟨by rw [hl]; exact h.len,by rw [hv]; exact h.vis,by have:=h.lo; omega,h3,?_,by rw [hp]; exact h.evn,fun l hm=>?_,?_⟩
 · have:at' (inN g a ls) 0=inL g a (at' ls 0):=at'_map _ hpos
   rw [this,in_k]; exact h.fst
 · obtain⟨l0,m0,rfl⟩:=List.mem_map.1 hm
   have hok:=h.okr _ m0
   rcases okR_kind hok with hk | hk
   · obtain⟨q1,q2,q3,d,e,e1,e2,e3⟩:=(okR_pass hk).1 hok
     obtain⟨a1,a2,a3,a4,a5⟩:=in_vals (g:=g) (a:=a) hk
     have hG:=in_inG h ha (inL g a l0).g
     refine(okR_pass (by rw [in_k]; exact hk)).2 ⟨by rw [in_i]; exact q1,by rw [in_s]; exact q2,by rw [in_o]; exact q3,by omega,by omega,by omega,?_,?_⟩
     · rw [hG]
       by_cases c1:(inL g a l0).g<g
       · rw [if_pos c1,a3 (by omega),a2 (by omega)]; exact e2
       · rw [if_neg c1]
         by_cases c2:(inL g a l0).g=g
         · rw [if_pos c2]; omega
         · rw [if_neg c2]
           by_cases c3:(inL g a l0).g=g+1
           · rw [if_pos c3]
             have:l0.g=g:=by omega
             rw [this] at e2
             omega
           · rw [if_neg c3,a3 (by omega),a1 (by omega),show l0.g+1 - 1=l0.g by omega]; exact e2
     · unfold same inN
       rw [cntP_map]
       unfold same at e3
       rw [← e3]
       refine cntP_congr fun o ho=>?_
       rw [in_k,in_k]
       by_cases hko:o.k=1
       · have:=in_eq (g:=g) (a:=a) hko hk
         rw [Bool.eq_iff_iff]
         simp only [Bool.and_eq_true,beq_iff_eq,and_assoc]
         exact⟨fun⟨x,y⟩=>⟨x,this.1 y⟩,fun⟨x,y⟩=>⟨x,this.2 y⟩⟩
       · have:(o.k == l0.k)=false:=by rw [hk]; simpa using hko
         simp [this]
   · obtain⟨q1,b,c,d,e,e1,e2⟩:=(okR_cross hk).1 hok
     rw [in_cross (by omega)]
     refine(okR_cross hk).2 ⟨q1,b,c,d,by rw [hv]; exact e,?_,?_⟩
     · unfold pairs inN
       rw [cntP_map,cntP_congr (q:=fun o=>o.k == l0.k&&o.i == l0.i&&o.s == l0.s&&o.o != l0.o) fun o _=>by rw [in_k,in_i,in_s,in_o]]
       exact e1
     · unfold times inN
       rw [cntP_map,cntP_congr (q:=fun o=>isX o&&o.i == l0.i) fun o _=>by rw [in_isX,in_i]]
       exact e2
 · rw [hT,hl,hp,hv]; exact h.cyc
end Go.Known
end
section
namespace Go.AE
open Go.RowKit
variable {P:Program}
theorem BR.cell0 {Φ:Pers} {ρ ρ':Rho} {k:Nat} {x y:AVal} {vs:List AVal} {l:Loc} {o:Obj} (he:Ext Φ ρ Φ ρ') (h:BR Φ ρ (.cells k [x :: vs]) l o) (hy:∀ u,R Φ ρ x u→(∃ c e,o=.cells c e (0,0)∧c[(l.sh+0)*k+0]? = some u)→R Φ ρ' y u):BR Φ ρ' (.cells k [y :: vs]) l o:=by
 cases h with
 | cells _ _ _ c e q1 q2 q3 q4 q5=>
  refine .cells k _ l c e q1 q2 (by simpa using q3) ⟨fun i row hi=>?_,fun i row j z hi hj=>?_⟩ q5
  · match i,hi with
    | 0,hi=>
     cases hi
     have:=q4.1 0 _ rfl
     simpa using this
    | i+1,hi=>simp at hi
  · match i,hi with
    | 0,hi=>
     cases hi
     match j,hj with
     | 0,hj=>
      cases hj
      obtain⟨v,g1,g2,g3⟩:=q4.2 0 _ 0 _ rfl rfl
      exact⟨v,g1,g2,hy v g3 ⟨c,e,rfl,g1⟩⟩
     | j+1,hj=>
      obtain⟨v,g1,g2,g3⟩:=q4.2 0 _ (j+1) z rfl hj
      exact⟨v,g1,g2,g3.ext he⟩
    | i+1,hi=>simp at hi
theorem Ctr_cell0 {g:FuncId} {k:Nat} {vs:List AVal} {K:AVal→SMem→Prop} (h1:Ctr P g [.ptr 1 0 0] ⟨[(1,.cells k [.nilSl :: vs])],2⟩ K) (h2:Ctr P g [.ptr 1 0 0] ⟨[(1,.cells k [.sl 2 0 0 :: vs])],3⟩ K) :
 Ctr P g [.ptr 1 0 0] ⟨[(1,.cells k [.imm [] :: vs])],2⟩ K:=by
 refine⟨h1.1,fun W Φ ρ us w hr ha hav=>?_⟩
 obtain⟨l,o,g1,g2,g3,g4,g5⟩:=hr.live 1 _ rfl
 have hu:∃ u,R Φ ρ (.imm []) u ∧ ∀ v,(∃ c e,o=.cells c e (0,0)∧c[(l.sh+0)*k+0]? = some v)→v=u:=by
  cases g5 with
  | cells _ _ _ c e q1 q2 q3 q4 q5=>
   obtain⟨u,c1,_,c3⟩:=q4.2 0 _ 0 _ rfl rfl
   refine⟨u,c3,?_⟩
   rintro v ⟨c',e',h,hv⟩
   cases h
   rw [c1] at hv
   cases hv
   rfl
 obtain⟨u,hu,huq⟩:=hu
 have hz:∃ (a:Option Addr) (cap:Nat),u=.slice a 0 cap∧(0<cap → ∃ B o,a=some ⟨B,o,none⟩):=by
  cases hu with
  | imm0 a cap hz=>exact ⟨a,cap,rfl,hz⟩
  | imm _ B o k cap c f hne=>exact absurd rfl hne
 obtain⟨a,cap,rfl,hz⟩:=hz
 have hget:∀ (z:AVal) (n:Nat) b x,(SMem.mem ⟨[(1,.cells k [z :: vs])],n⟩).get b=some x→b=1∧x=.cells k [z :: vs]:=fun z n b x h=>by
  simp only [SMem.mem,SMem.get,lookB] at h
  split at h
  · cases h; exact⟨‹_›,rfl⟩
  · cases h
 have hR:∀ (z:AVal) (n:Nat) (ρ':Rho),Ext Φ ρ Φ ρ'→(∀ b l,ρ' b=some l→b<n)→R Φ ρ' z (.slice a 0 cap)→Rel W Φ ρ' (SMem.mem ⟨[(1,.cells k [z :: vs])],n⟩) w:=fun z n ρ' he hf hz'=>by
  refine⟨hr.base,hr.pers,fun b x hx=>?_,fun b b' x x' l l' e1 e2 _ _ _=>?_,hf,hr.newp⟩
  · obtain⟨rfl,rfl⟩:=hget _ _ _ _ hx
    exact⟨l,o,he.rho _ _ g1,g2,g3,g4,g5.cell0 he fun v _ hv=>by rw [huq v hv]; exact hz'⟩
  · rw [(hget _ _ _ _ e1).1,(hget _ _ _ _ e2).1]
 cases a with
 | none=>
  have hc:cap=0:=by
   rcases Nat.eq_zero_or_pos cap with h | h
   · exact h
   · obtain⟨_,_,h⟩:=hz h
     cases h
  subst hc
  exact h1.2 W Φ ρ us w (hR .nilSl 2 ρ (Ext.refl _ _) (fun b l hb=>hr.fresh b l hb) .nilSl) ha hav
 | some A=>
  have h2n:ρ 2=none:=by
   cases hq:ρ 2 with
   | none=>rfl
   | some l=>
    have:2<2:=hr.fresh 2 l hq
    omega
  obtain⟨ρ',hρ⟩:∃ ρ':Rho,ρ'=fun b=>if b=2 then some ⟨A.block,A.off,1,A.off+cap⟩ else ρ b:=⟨_,rfl⟩
  have he:Ext Φ ρ Φ ρ':=⟨fun _ _ h=>h,fun b l hb=>by
   rw [hρ]
   by_cases h:b=2
   · subst h; rw [h2n] at hb; cases hb
   · simp only; rw [if_neg h]; exact hb⟩
  have hsl:R Φ ρ' (.sl 2 0 0) (.slice (some A) 0 cap):=by
   refine .sl 2 0 0 _ cap ⟨A.block,A.off,1,A.off+cap⟩ (by rw [hρ]; simp) (Nat.zero_le _) (by simp) (fun hp=>?_) rfl
   obtain⟨B,o,h⟩:=hz hp
   injection h with h
   subst h
   simp
  have hr2:=hR (.sl 2 0 0) 3 ρ' he (fun b l hb=>by
   rw [hρ] at hb
   simp only at hb
   split at hb
   · omega
   · have:b<2:=hr.fresh b l hb
     omega) hsl
  refine(h2.2 W Φ ρ' us w hr2 ⟨ha.1,fun i x v hx hv=>(ha.2 i x v hx hv).ext he⟩ (fun b hb=>by simp at hb)).mono fun e w' hh=>?_
  obtain⟨v,r,m',Φ',ρ2,rfl,hE,hk,hr',hR',hn,hK⟩:=hh
  refine⟨v,r,m',Φ',ρ2,rfl,he.trans hE,fun b hb hnb h0=>?_,hr',hR',Nat.le_trans (show 2≤3 by omega) hn,hK⟩
  have hb2:b<2:=hb
  refine hk b (show b<3 by omega) hnb ?_
  rw [hρ]
  simp only
  rw [if_neg (by omega)]
  exact h0
theorem PCall_sl0 {g:FuncId} (h:Ctr P g [.sl 1 0 0] ⟨[],2⟩ fun r _=>r=.emp) (b off:Nat):PCall P g [.sl b off 0] .emp:=by
 intro m av
 refine⟨h.1,fun W Φ ρ vs w hr ha hav=>?_⟩
 obtain⟨u,rfl⟩:∃ u,vs = #[u]:=by
  have hs:=ha.1
  obtain⟨l⟩:=vs
  match l,hs with
  | [u],_=>exact ⟨u,rfl⟩
 have hu:R Φ ρ (.sl b off 0) u:=ha.2 0 _ _ rfl rfl
 cases hu with
 | sl _ _ _ a cap l hl hle hn hc hav'=>
  refine(h.2 ⟨w,fun _=>none,Φ⟩ Φ (fun b'=>if b'=1 then some ⟨l.blk,l.sh+off,l.k,l.n⟩ else none) #[.slice a 0 cap] w
   ⟨⟨Below.refl _ _,fun B o hB=>(by cases hB)⟩,hr.pers,fun b x hx=>(by cases hx),fun b b' x x' l l' h1=>(by cases h1),fun b l hb=>?_,fun B c hB=>.inl hB⟩
   ⟨rfl,fun i x v hx hv=>?_⟩ (fun b hb=>by simp at hb)).mono fun e w' he=>?_
  · show b<2
    split at hb
    · omega
    · cases hb
  · match i,hx,hv with
    | 0,hx,hv=>
     cases hx; cases hv
     exact .sl 1 0 0 _ cap ⟨l.blk,l.sh+off,l.k,l.n⟩ rfl (Nat.zero_le _) (by simpa using hn) (fun hp=>by simpa using hc hp) hav'
    | i+1,hx,hv=>simp at hx
  · obtain⟨u,r,m',Φ',ρ',rfl,hE,hk,hr',hR,hn,sm,rfl,rfl⟩:=he
    refine⟨u,_,m,Φ,ρ,rfl,Ext.refl _ _,fun b _ _ h=>h,hr.below hr'.base.below,?_,Nat.le_refl _,rfl,rfl⟩
    cases hR
    exact .emp _
theorem DC_new0 {g:FuncId} {b0 f0:Nat} {m:SMem} {len nx n:Nat} {blk:ABlk} {x:List Nat} {K:AVal→Option ABlk→Prop} (hb:∀ q,blk.ren q=blk)
 (h:Ctr P g [.sl 1 0 0] ⟨[],2⟩ fun r sm=>r=.sl 2 0 len∧sm=⟨[(2,blk)],nx⟩) (hK:K (.sl n 0 len) (some blk)):DC P g [.sl b0 f0 0] n x m K:=by
 refine⟨_,some blk,?_,hK⟩
 show ACalls P g [.sl b0 f0 0] (m.mem.less x) [n] fun r m'=>r=.sl n 0 len∧m'=(m.mem.less x).set n blk
 refine⟨h.1,fun W Φ ρ vs w hr hargs hav=>?_⟩
 obtain⟨hn0,hnn⟩:=hav n (List.mem_singleton.2 rfl)
 obtain⟨u0,rfl⟩:∃ u,vs = #[u]:=by
  have hs:=hargs.1
  obtain⟨l⟩:=vs
  match l,hs with
  | [u],_=>exact ⟨u,rfl⟩
 have hu0:R Φ ρ (.sl b0 f0 0) u0:=hargs.2 0 _ _ rfl rfl
 obtain⟨ρ0,hρ0,hρ1,hu1⟩:∃ ρ0:Rho,ρ0 0=none∧(∀ b l,ρ0 b=some l→b<2)∧R Φ ρ0 (.sl 1 0 0) u0:=by
  cases hu0 with
  | sl _ _ _ a cap l hl hle hn hc hav'=>
   refine⟨fun b'=>if b'=1 then some ⟨l.blk,l.sh+f0,l.k,l.n⟩ else none,rfl,fun b l hb=>?_,.sl 1 0 0 _ cap ⟨l.blk,l.sh+f0,l.k,l.n⟩ rfl (Nat.zero_le _) (by simpa using hn) (fun hp=>by simpa using hc hp) hav'⟩
   simp only at hb
   split at hb
   · omega
   · cases hb
 refine(h.2 ⟨w,fun _=>none,Φ⟩ Φ ρ0 #[u0] w ⟨⟨Below.refl _ _,fun B o hB=>(by cases hB)⟩,hr.pers,fun b y hy=>(by cases hy),fun b b' y y' l l' h1=>(by cases h1),fun b l hl=>hρ1 b l hl,fun B c hB=>.inl hB⟩
  ⟨rfl,fun i x v hx hv=>by
   match i,hx,hv with
   | 0,hx,hv=>cases hx; cases hv; exact hu1
   | i+1,hx,hv=>simp at hx⟩ (fun b hb=>by simp at hb)).mono fun e w' he=>?_
 obtain⟨u,r,m1,Φ',ρ1,e1,hE,hk,hr',hR,hn,sm,rfl,rfl,rfl⟩:=he
 obtain⟨l1,o1,p1,p2,p3,p4,p5⟩:=hr'.live 2 blk rfl
 have hext:∀ b l,ρ b=some l→(if b=n then ρ1 2 else ρ b)=some l:=fun b l hl=>by
  rw [if_neg]
  · exact hl
  · rintro rfl; rw [hn0] at hl; cases hl
 have hold:∀ b y,(m.mem.less x).get b=some y→b≠n ∧ ∃ l o,ρ b=some l∧W.Free l.blk∧Φ' l.blk=none∧w'.heap[l.blk]? = some o∧l.blk<w.heap.size∧BR Φ ρ y l o:=by
  intro b y hy
  obtain⟨l,o,g1,g2,g3,g4,g5⟩:=hr.live b y hy
  have hlt:=heap_lt g4
  refine⟨(fun e=>by rw [e,hn0] at g1; cases g1),l,o,g1,g2,?_,?_,hlt,g5⟩
  · cases hpz:Φ' l.blk with
    | none=>rfl
    | some c=>
     rcases hr'.newp _ _ hpz with h1 | h1
     · have h1':Φ l.blk=some c:=h1
       rw [g3] at h1'; cases h1'
     · exact absurd h1.1 (Nat.not_le.2 hlt)
  · rw [hr'.base.below.block _ hlt]; exact g4
 refine⟨u,.sl n 0 len,(m.mem.less x).set n blk,Φ',fun b=>if b=n then ρ1 2 else ρ b,e1,⟨hE.pers,hext⟩,fun b hb hb2 h0=>?_,⟨hr.base.trans hr'.base.below,hr'.pers,fun b y hy=>?_,fun b b' y y' l l' g1 g2 g3 g4 he=>?_,fun b l hl=>?_,fun B c hB=>?_⟩,?_,Nat.le_refl _,rfl,rfl⟩
 · show(if b=n then ρ1 2 else ρ b)=none
   rw [if_neg (fun e=>hb2 (by rw [e]; exact List.mem_singleton.2 rfl))]
   exact h0
 · simp only [Mem.get_set] at hy
   by_cases hbn:b=n
   · rw [if_pos hbn] at hy
     injection hy with hy
     subst hy
     refine⟨l1,o1,by show(if b=n then ρ1 2 else ρ b)=some l1; rw [if_pos hbn]; exact p1,⟨Nat.le_trans hr.base.below.size p2.1,?_⟩,p3,p4,?_⟩
     · cases hg:W.g l1.blk with
       | none=>rfl
       | some o=>exact absurd (heap_lt (hr.base.prot _ _ hg)) (Nat.not_lt.2 p2.1)
     · rw [← hb fun _=>0] at p5
       exact BR.unren (fun b l hl=>by rw [hk 0 (show 0<2 by omega) (by simp) hρ0] at hl; cases hl) p5
   · rw [if_neg hbn] at hy
     obtain⟨_,l,o,q1,q2,q3,q4,q5,q6⟩:=hold b y hy
     exact⟨l,o,hext _ _ q1,q2,q3,q4,q6.ext ⟨hE.pers,hext⟩⟩
 · have g3':(if b=n then ρ1 2 else ρ b)=some l:=g3
   have g4':(if b'=n then ρ1 2 else ρ b')=some l':=g4
   simp only [Mem.get_set] at g1 g2
   by_cases hb1:b=n
   · by_cases hb2:b'=n
     · rw [hb1,hb2]
     · rw [if_neg hb2] at g2 g4'
       rw [if_pos hb1,p1] at g3'
       injection g3' with g3'
       obtain⟨_,l0,o,q1,q2,q3,q4,q5,q6⟩:=hold b' y' g2
       rw [g4'] at q1; injection q1 with q1
       rw [← q1,← he,← g3'] at q5
       exact absurd q5 (Nat.not_lt.2 p2.1)
   · rw [if_neg hb1] at g1 g3'
     obtain⟨_,l0,o,q1,q2,q3,q4,q5,q6⟩:=hold b y g1
     rw [g3'] at q1; injection q1 with q1
     by_cases hb2:b'=n
     · rw [if_pos hb2,p1] at g4'
       injection g4' with g4'
       rw [← q1,he,← g4'] at q5
       exact absurd q5 (Nat.not_lt.2 p2.1)
     · rw [if_neg hb2] at g2 g4'
       exact hr.inj b b' y y' l l' g1 g2 g3' g4' he
 · have hl':(if b=n then ρ1 2 else ρ b)=some l:=hl
   show b<m.next
   by_cases hb1:b=n
   · rw [hb1]; exact hnn
   · rw [if_neg hb1] at hl'
     exact hr.fresh b l hl'
 · rcases hr'.newp B c hB with h1 | h1
   · exact hr.newp B c h1
   · refine .inr ⟨Nat.le_trans hr.base.below.size h1.1,?_⟩
     cases hg:W.g B with
     | none=>rfl
     | some o=>exact absurd (heap_lt (hr.base.prot _ _ hg)) (Nat.not_lt.2 h1.1)
 · cases hR with
   | sl _ _ _ a cap l hl hlc hn2 hcap hav1=>exact .sl n 0 len a cap l (by show(if n=n then ρ1 2 else ρ n)=some l; rw [if_pos rfl]; exact hl) hlc hn2 hcap hav1
end Go.AE
end
