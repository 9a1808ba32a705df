/- Part 32 of the proof: Pz, Km0, Km1, Km2. -/
import Derived.Test.YtipeejpafgnjdaaGreatDoorF17
import Derived.Test.YtipeejpafgnjdaaGreatDoorF31
set_option linter.all false
section
namespace Go.Known
open Go.Plain
def foL (n:Int) (ls:List Lt) (l:Lt):Lt:=if l.k=1∧n≤l.g then { l with g:=l.g - 1,r:=if l.g=n then l.r+inG (n - 1) ls else l.r } else l
def foN (n:Int) (ls:List Lt):List Lt:=ls.map (foL n ls)
section
variable {n:Int} {ls:List Lt}
theorem fo_k (l:Lt):(foL n ls l).k=l.k:=by unfold foL; split<;>rfl
theorem fo_i (l:Lt):(foL n ls l).i=l.i:=by unfold foL; split<;>rfl
theorem fo_o (l:Lt):(foL n ls l).o=l.o:=by unfold foL; split<;>rfl
theorem fo_s (l:Lt):(foL n ls l).s=l.s:=by unfold foL; split<;>rfl
theorem fo_isP (l:Lt):isP (foL n ls l)=isP l:=by unfold isP; rw [fo_k]
theorem fo_isX (l:Lt):isX (foL n ls l)=isX l:=by unfold isX; rw [fo_k]
theorem fo_cross {l:Lt} (h:¬l.k=1):foL n ls l=l:=by unfold foL; rw [if_neg (fun e=>h e.1)]
theorem fo_g {l:Lt} (h:l.k=1):(foL n ls l).g=if n≤l.g then l.g - 1 else l.g:=by
 unfold foL
 by_cases hg:n≤l.g
 · rw [if_pos ⟨h,hg⟩,if_pos hg]
 · rw [if_neg (fun e=>hg e.2),if_neg hg]
theorem fo_r {l:Lt} (h:l.k=1):(foL n ls l).r=if l.g=n then l.r+inG (n - 1) ls else l.r:=by
 unfold foL
 by_cases hg:n≤l.g
 · rw [if_pos ⟨h,hg⟩]
 · rw [if_neg (fun e=>hg e.2),if_neg (by omega)]
theorem fo_vals {a:Lt} (ha:a.k=1) (ha1:1≤a.r) (ha2:a.r≤inG a.g ls):∃ c:Int,(inG (n - 1) ls:Int)=c∧(n≤a.g→(foL n ls a).g=a.g - 1)∧(¬n≤a.g→(foL n ls a).g=a.g)∧(a.g=n→(foL n ls a).r=a.r+c)∧(¬a.g=n→(foL n ls a).r=a.r)∧(a.g=n - 1→a.r≤c):=by
 refine⟨_,rfl,fun h=>?_,fun h=>?_,fun h=>?_,fun h=>?_,fun e=>by rw [← e]; exact ha2⟩
 · rw [fo_g ha,if_pos h]
 · rw [fo_g ha,if_neg h]
 · rw [fo_r ha,if_pos h]
 · rw [fo_r ha,if_neg h]
theorem fo_key {a b:Lt} (ha:a.k=1) (hb:b.k=1) (ha1:1≤a.r) (hb1:1≤b.r) (ha2:a.r≤inG a.g ls) (hb2:b.r≤inG b.g ls):keyLt (foL n ls a) (foL n ls b)=keyLt a b:=by
 obtain⟨c,hc,a1,a2,a3,a4,a5⟩:=fo_vals (n:=n) ha ha1 ha2
 obtain⟨c',hc',b1,b2,b3,b4,b5⟩:=fo_vals (n:=n) hb hb1 hb2
 rw [hc] at hc'
 subst hc'
 unfold keyLt
 rw [Bool.eq_iff_iff]
 simp only [Bool.or_eq_true,Bool.and_eq_true,decide_eq_true_eq,beq_iff_eq]
 generalize (foL n ls a).g=ag at *
 generalize (foL n ls a).r=ar at *
 generalize (foL n ls b).g=bg at *
 generalize (foL n ls b).r=br at *
 clear ha2 hb2 hc
 omega
theorem fo_eq {a b:Lt} (ha:a.k=1) (hb:b.k=1) (ha1:1≤a.r) (hb1:1≤b.r) (ha2:a.r≤inG a.g ls) (hb2:b.r≤inG b.g ls):((foL n ls a).g=(foL n ls b).g∧(foL n ls a).r=(foL n ls b).r)↔(a.g=b.g∧a.r=b.r):=by
 obtain⟨c,hc,a1,a2,a3,a4,a5⟩:=fo_vals (n:=n) ha ha1 ha2
 obtain⟨c',hc',b1,b2,b3,b4,b5⟩:=fo_vals (n:=n) hb hb1 hb2
 rw [hc] at hc'
 subst hc'
 generalize (foL n ls a).g=ag at *
 generalize (foL n ls a).r=ar at *
 generalize (foL n ls b).g=bg at *
 generalize (foL n ls b).r=br at *
 clear ha2 hb2 hc
 omega
end
theorem axisN_congr2 {ls:List Lt} {f:Lt→Lt} (hp:∀ l,isP (f l)=isP l) (hk:∀ a,a∈ls → ∀ b,b∈ls→isP a=true→isP b=true→keyLt (f a) (f b)=keyLt a b):∀ k,k≤ls.length→axisN (ls.map f) k=axisN ls k
 | 0,_=>rfl
 | k+1,h=>by
  have hins:isP (at' ls k)=true → ∀ l:List Nat,(∀ x,x∈l→x<ls.length∧isP (at' ls x)=true)→ins (ls.map f) k l=ins ls k l:=by
   intro hpk l
   induction l with
   | nil=>intro _; rfl
   | cons a l ih=>
    intro hl
    obtain⟨a1,a2⟩:=hl a (List.mem_cons_self ..)
    simp only [ins]
    rw [at'_map f a1,at'_map f (show k<ls.length by omega),ih fun x hx=>hl x (List.mem_cons_of_mem _ hx)]
    rw [hk _ (at'_mem a1) _ (at'_mem (show k<ls.length by omega)) a2 hpk]
  simp only [axisN]
  rw [at'_map f (show k<ls.length by omega),hp,axisN_congr2 hp hk k (by omega)]
  by_cases hpk:isP (at' ls k)=true
  · rw [if_pos hpk,if_pos hpk]
    refine hins hpk _ fun x hx=>?_
    have:=(axisN_perm ls k).mem_iff.1 hx
    obtain⟨h1,h2⟩:=List.mem_filter.1 this
    simp at h1
    exact⟨by omega,h2⟩
  · rw [if_neg hpk,if_neg hpk]
theorem ValR.key {f:Int} {ls:List Lt} (h:ValR f ls) {l:Lt} (hm:l∈ls) (hp:isP l=true):l.k=1∧1≤l.r∧l.r≤inG l.g ls∧0≤l.g∧l.g≤f:=by
 have hk:l.k=1:=by simpa [isP] using hp
 obtain⟨_,_,_,a,b,c,d,_⟩:=(okR_pass hk).1 (h.okr l hm)
 exact⟨hk,c,d,a,b⟩
theorem fo_axis {f n:Int} {ls:List Lt} (h:ValR f ls):axis (foN n ls)=axis ls:=by
 unfold axis
 rw [show (foN n ls).length=ls.length by simp [foN]]
 refine axisN_congr2 fo_isP (fun a ha b hb pa pb=>?_) _ (Nat.le_refl _)
 obtain⟨a1,a2,a3,_⟩:=h.key ha pa
 obtain⟨b1,b2,b3,_⟩:=h.key hb pb
 exact fo_key a1 b1 a2 b2 a3 b3
theorem turn_congr {ls:List Lt} {f:Lt→Lt} (hk:∀ l,(f l).k=l.k) (hi:∀ l,(f l).i=l.i) (ho:∀ l,(f l).o=l.o) (hs:∀ l,(f l).s=l.s) (ax:List Nat) (d:Nat):turnN (ls.map f) ax d=turnN ls ax d:=by
 have hl:(ls.map f).length=ls.length:=List.length_map _
 have hpp:∀ l,isP (f l)=isP l:=fun l=>by unfold isP; rw [hk]
 have hxx:∀ l,isX (f l)=isX l:=fun l=>by unfold isX; rw [hk]
 have hd:∀ v,down (ls.map f) v=down ls v:=down_congr rfl hpp
 unfold turnN
 rw [hl]
 simp only [hd]
 split
 · rfl
 · rename_i hs2
   have hh:(if d % 2=0 then (d / 2+1) % ls.length else d / 2)<ls.length:=by
    split
    · exact Nat.mod_lt _ (by omega)
    · omega
   generalize (if d % 2=0 then (d / 2+1) % ls.length else d / 2)=v at *
   rw [at'_map f hh,hk,ho,hs]
   have hoN:otherN (ls.map f) v ls.length 0=otherN ls v ls.length 0:=otherN_congr (v':=v) (fun j hj=>by
    rw [at'_map f hj,hxx,hi]; exact⟨rfl,rfl⟩) hh _ _ (by omega)
   rw [hoN]
theorem fo_inG {f n:Int} {ls:List Lt} (h:ValR f ls) (g:Int):inG g (foN n ls)=if g=n - 1 then inG (n - 1) ls+inG n ls else if g<n - 1 then inG g ls else inG (g+1) ls:=by
 have hsum:∀ (p q:Lt→Bool) (l:List Lt),(∀ x,x∈l→(p x&&q x)=false)→cntP (fun x=>p x||q x) l=cntP p l+cntP q l:=by
  intro p q l
  induction l with
  | nil=>intro _; rfl
  | cons x l ih=>
   intro hx
   rw [cntP_cons,cntP_cons,cntP_cons,ih fun y hy=>hx y (List.mem_cons_of_mem _ hy)]
   have:=hx x (List.mem_cons_self ..)
   cases hp:p x<;>cases hq:q x<;>rw [hp,hq] at this
   · simp
   · simp only [Bool.false_or,if_true,Bool.false_eq_true,if_false]; omega
   · simp only [Bool.or_false,if_true,Bool.false_eq_true,if_false]; omega
   · cases this
 have hv:∀ o,o∈ls→isP o=true→(n≤o.g→(foL n ls o).g=o.g - 1)∧(¬n≤o.g→(foL n ls o).g=o.g):=fun o ho hp=>by
  obtain⟨k1,k2,k3,_⟩:=h.key ho hp
  obtain⟨c,_,a1,a2,_⟩:=fo_vals (n:=n) k1 k2 k3
  exact⟨a1,a2⟩
 unfold inG foN
 rw [cntP_map]
 have key:∀ P:Lt→Bool,(∀ o,o∈ls→isP o=true→((foL n ls o).g == g)=P o)→cntP (fun l=>isP (foL n ls l)&&(foL n ls l).g == g) ls=cntP (fun l=>isP l&&P l) ls:=fun P hP=>cntP_congr fun o ho=>by
  rw [fo_isP]
  cases hp:isP o with
  | false=>rfl
  | true=>rw [hP o ho hp]
 by_cases h1:g=n - 1
 · rw [if_pos h1,key (fun o=>o.g == n - 1||o.g == n) fun o ho hp=>by
    obtain⟨a1,a2⟩:=hv o ho hp
    rw [Bool.eq_iff_iff]
    simp only [Bool.or_eq_true,beq_iff_eq]
    omega]
   rw [← hsum]
   · refine cntP_congr fun o _=>?_
     cases isP o<;>simp
   · intro o _
     cases isP o<;>simp
     omega
 · rw [if_neg h1]
   by_cases h2:g<n - 1
   · rw [if_pos h2,key (fun o=>o.g == g) fun o ho hp=>by
      obtain⟨a1,a2⟩:=hv o ho hp
      rw [Bool.eq_iff_iff]
      simp only [beq_iff_eq]
      omega]
   · rw [if_neg h2,key (fun o=>o.g == g+1) fun o ho hp=>by
      obtain⟨a1,a2⟩:=hv o ho hp
      rw [Bool.eq_iff_iff]
      simp only [beq_iff_eq]
      omega]
theorem ValR.forget {f n:Int} {ls:List Lt} (h:ValR f ls) (h0:ls≠[]) (h1:1≤n) (h2:n≤f):ValR (f - 1) (foN n ls):=by
 have hpos:0<ls.length:=List.length_pos_iff.2 h0
 have hl:(foN n ls).length=ls.length:=by simp [foN]
 have hv:visits (foN n ls)=visits ls:=by unfold visits foN; rw [cntP_map]; exact cntP_congr fun l _=>fo_isX l
 have hp:passes (foN n ls)=passes ls:=by unfold passes foN; rw [cntP_map]; exact cntP_congr fun l _=>fo_isP l
 have hT:turnN (foN n ls) (axis (foN n ls))=turnN ls (axis ls):=by
  rw [fo_axis h]
  exact funext fun d=>turn_congr fo_k fo_i fo_o fo_s _ d
 refine⟨by rw [hl]; exact h.len,by rw [hv]; exact h.vis,by omega,by have:=h.hi; omega,?_,by rw [hp]; exact h.evn,fun l hm=>?_,?_⟩
 · have:at' (foN n ls) 0=foL n ls (at' ls 0):=at'_map _ hpos
   rw [this,fo_k]; exact h.fst
 · obtain⟨l0,m0,rfl⟩:=List.mem_map.1 hm
   have hok:=h.okr _ m0
   rcases okR_kind hok with hk | hk
   · obtain⟨a,b,c,d,e,e1,e2,e3⟩:=(okR_pass hk).1 hok
     obtain⟨cc,hcc,q1,q2,q3,q4,q5⟩:=fo_vals (n:=n) hk e1 e2
     have hG:=fo_inG (n:=n) h (foL n ls l0).g
     refine(okR_pass (by rw [fo_k]; exact hk)).2 ⟨by rw [fo_i]; exact a,by rw [fo_s]; exact b,by rw [fo_o]; exact c,?_,?_,?_,?_,?_⟩
     · by_cases hg:n≤l0.g
       · rw [q1 hg]; omega
       · rw [q2 hg]; exact d
     · by_cases hg:n≤l0.g
       · rw [q1 hg]; omega
       · rw [q2 hg]; omega
     · by_cases hg:l0.g=n
       · rw [q3 hg]; omega
       · rw [q4 hg]; exact e1
     · by_cases hg:l0.g=n
       · rw [q3 hg,q1 (by omega),fo_inG h,if_pos (by omega)]
         rw [hg] at e2
         omega
       · rw [q4 hg]
         by_cases hg2:n≤l0.g
         · rw [q1 hg2,fo_inG h,if_neg (by omega),if_neg (by omega),show l0.g - 1+1=l0.g by omega]
           exact e2
         · rw [q2 hg2,fo_inG h]
           by_cases hg3:l0.g=n - 1
           · rw [if_pos hg3]
             rw [hg3] at e2
             omega
           · rw [if_neg hg3,if_pos (by omega)]
             exact e2
     · unfold same foN
       rw [cntP_map]
       unfold same at e3
       rw [← e3]
       refine cntP_congr fun o ho=>?_
       rw [fo_k,fo_k]
       by_cases hko:o.k=1
       · obtain⟨k1,k2,k3,_⟩:=h.key ho (by simp [isP,hko])
         have:=fo_eq (n:=n) k1 hk k2 e1 k3 e2
         rw [Bool.eq_iff_iff]
         simp only [Bool.and_eq_true,beq_iff_eq,and_assoc]
         exact⟨fun⟨x,y⟩=>⟨x,this.1 y⟩,fun⟨x,y⟩=>⟨x,this.2 y⟩⟩
       · have:(o.k == l0.k)=false:=by rw [hk]; simpa using hko
         simp [this]
   · obtain⟨a,b,c,d,e,e1,e2⟩:=(okR_cross hk).1 hok
     rw [fo_cross (by omega)]
     refine(okR_cross hk).2 ⟨a,b,c,d,by rw [hv]; exact e,?_,?_⟩
     · unfold pairs foN
       rw [cntP_map,cntP_congr (q:=fun o=>o.k == l0.k&&o.i == l0.i&&o.s == l0.s&&o.o != l0.o) fun o _=>by rw [fo_k,fo_i,fo_s,fo_o]]
       exact e1
     · unfold times foN
       rw [cntP_map,cntP_congr (q:=fun o=>isX o&&o.i == l0.i) fun o _=>by rw [fo_isX,fo_i]]
       exact e2
 · rw [hT,hl,hp,hv]; exact h.cyc
end Go.Known
end
section
namespace Go.Known
open Go Go.AE Go.Proofs
def mm1:Memo:=⟨44,[],(.tuple [(.agg [(.imm [[(.int .i64 1),(.bool false),(.int .i64 1)],[(.int .i64 1),(.bool true),(.int .i64 1)]]),(.int .i64 6),(.int .i64 4)]),(.agg [(.int .i64 2),(.imm [[(.int .i64 1),(.int .i64 0),(.int .i64 1),(.int .i64 0),(.int .i64 0),(.bool false)],[(.int .i64 1),(.int .i64 1),(.int .i64 1),(.int .i64 0),(.int .i64 0),(.bool false)],[(.int .i64 1),(.int .i64 1),(.int .i64 2),(.int .i64 0),(.int .i64 0),(.bool false)],[(.int .i64 1),(.int .i64 2),(.int .i64 1),(.int .i64 0),(.int .i64 0),(.bool false)]])])])⟩
theorem mo1:mm1.Ok Tryz.prog:=known_of (l:=[]) trivial mm1 (by kernel_rfl)
def mm2:Memo:=⟨28,[(.agg [(.int .i64 2),(.imm [[(.int .i64 1),(.int .i64 0),(.int .i64 1),(.int .i64 0),(.int .i64 0),(.bool false)],[(.int .i64 1),(.int .i64 1),(.int .i64 1),(.int .i64 0),(.int .i64 0),(.bool false)],[(.int .i64 1),(.int .i64 1),(.int .i64 2),(.int .i64 0),(.int .i64 0),(.bool false)],[(.int .i64 1),(.int .i64 2),(.int .i64 1),(.int .i64 0),(.int .i64 0),(.bool false)]])])],(.tuple [(.agg [(.int .i64 2),(.imm [[(.int .i64 1),(.int .i64 1),(.int .i64 1),(.int .i64 0),(.int .i64 0),(.bool false)],[(.int .i64 1),(.int .i64 1),(.int .i64 2),(.int .i64 0),(.int .i64 0),(.bool false)],[(.int .i64 1),(.int .i64 2),(.int .i64 1),(.int .i64 0),(.int .i64 0),(.bool false)],[(.int .i64 1),(.int .i64 0),(.int .i64 1),(.int .i64 0),(.int .i64 0),(.bool false)]])]),(.int .i64 0)])⟩
theorem mo2:mm2.Ok Tryz.prog:=known_of (l:=[]) trivial mm2 (by kernel_rfl)
def mm3:Memo:=⟨14,[(.agg [(.int .i64 2),(.imm [[(.int .i64 1),(.int .i64 0),(.int .i64 1),(.int .i64 0),(.int .i64 0),(.bool false)],[(.int .i64 1),(.int .i64 1),(.int .i64 1),(.int .i64 0),(.int .i64 0),(.bool false)],[(.int .i64 1),(.int .i64 1),(.int .i64 2),(.int .i64 0),(.int .i64 0),(.bool false)],[(.int .i64 1),(.int .i64 2),(.int .i64 1),(.int .i64 0),(.int .i64 0),(.bool false)]])])],(.tuple [(.agg [(.int .i64 2),(.imm [[(.int .i64 1)],[(.int .i64 2)],[(.int .i64 1)]]),(.imm [[(.int .i64 1),(.int .i64 1),(.int .i64 0),(.bool false)],[(.int .i64 1),(.int .i64 0),(.int .i64 0),(.bool false)]]),(.imm [[(.int .i64 1),(.int .i64 0),(.int .i64 0),(.bool false)],[(.int .i64 1),(.int .i64 0),(.int .i64 0),(.bool false)]])]),(.int .i64 0)])⟩
theorem mo3:mm3.Ok Tryz.prog:=known_of (l:=[mm2]) ⟨mo2,trivial⟩ mm3 (by kernel_rfl)
def mm4:Memo:=⟨56,[(.agg [(.int .i64 2),(.imm [[(.int .i64 1),(.int .i64 0),(.int .i64 1),(.int .i64 0),(.int .i64 0),(.bool false)],[(.int .i64 1),(.int .i64 1),(.int .i64 1),(.int .i64 0),(.int .i64 0),(.bool false)],[(.int .i64 1),(.int .i64 1),(.int .i64 2),(.int .i64 0),(.int .i64 0),(.bool false)],[(.int .i64 1),(.int .i64 2),(.int .i64 1),(.int .i64 0),(.int .i64 0),(.bool false)]])])],(.int .i64 0)⟩
theorem mo4:mm4.Ok Tryz.prog:=known_of (l:=[]) trivial mm4 (by kernel_rfl)
def mm5:Memo:=⟨46,[(.agg [(.int .i64 2),(.imm [[(.int .i64 1)],[(.int .i64 2)],[(.int .i64 1)]]),(.imm [[(.int .i64 1),(.int .i64 1),(.int .i64 0),(.bool false)],[(.int .i64 1),(.int .i64 0),(.int .i64 0),(.bool false)]]),(.imm [[(.int .i64 1),(.int .i64 0),(.int .i64 0),(.bool false)],[(.int .i64 1),(.int .i64 0),(.int .i64 0),(.bool false)]])])],(.tuple [(.agg [(.int .i64 2),(.imm [[(.int .i64 1),(.int .i64 0),(.int .i64 1),(.int .i64 0),(.int .i64 0),(.bool false)],[(.int .i64 1),(.int .i64 1),(.int .i64 1),(.int .i64 0),(.int .i64 0),(.bool false)],[(.int .i64 1),(.int .i64 1),(.int .i64 2),(.int .i64 0),(.int .i64 0),(.bool false)],[(.int .i64 1),(.int .i64 2),(.int .i64 1),(.int .i64 0),(.int .i64 0),(.bool false)]])]),(.int .i64 0)])⟩
theorem mo5:mm5.Ok Tryz.prog:=known_of (l:=[mm4]) ⟨mo4,trivial⟩ mm5 (by kernel_rfl)
def mm6:Memo:=⟨45,[(.agg [(.int .i64 2),(.imm [[(.int .i64 1)],[(.int .i64 2)],[(.int .i64 1)]]),(.imm [[(.int .i64 1),(.int .i64 1),(.int .i64 0),(.bool false)],[(.int .i64 1),(.int .i64 0),(.int .i64 0),(.bool false)]]),(.imm [[(.int .i64 1),(.int .i64 0),(.int .i64 0),(.bool false)],[(.int .i64 1),(.int .i64 0),(.int .i64 0),(.bool false)]])])],(.tuple [(.imm [[(.str [94,32,94])],[(.str [124,32,94,32,94,32,124])],[(.str [124,32,49,32,124,32,124,32,50,32,124])],[(.str [118,32,118,32,124,32,124])],[(.str [118,32,118])]]),(.int .i64 0)])⟩
theorem mo6:mm6.Ok Tryz.prog:=known_of (l:=[mm5]) ⟨mo5,trivial⟩ mm6 (by kernel_rfl)
def mm7:Memo:=⟨95,[(.agg [(.int .i64 2),(.imm [[(.int .i64 1),(.int .i64 0),(.int .i64 1),(.int .i64 0),(.int .i64 0),(.bool false)],[(.int .i64 1),(.int .i64 1),(.int .i64 1),(.int .i64 0),(.int .i64 0),(.bool false)],[(.int .i64 1),(.int .i64 1),(.int .i64 2),(.int .i64 0),(.int .i64 0),(.bool false)],[(.int .i64 1),(.int .i64 2),(.int .i64 1),(.int .i64 0),(.int .i64 0),(.bool false)]])])],(.agg [(.int .i64 2),(.imm [[(.int .i64 1),(.int .i64 0),(.int .i64 1),(.int .i64 0),(.int .i64 0),(.bool false)],[(.int .i64 1),(.int .i64 1),(.int .i64 1),(.int .i64 0),(.int .i64 0),(.bool false)],[(.int .i64 1),(.int .i64 1),(.int .i64 2),(.int .i64 0),(.int .i64 0),(.bool false)],[(.int .i64 1),(.int .i64 2),(.int .i64 1),(.int .i64 0),(.int .i64 0),(.bool false)]])])⟩
theorem mo7:mm7.Ok Tryz.prog:=known_of (l:=[]) trivial mm7 (by kernel_rfl)
def mm8:Memo:=⟨48,[(.agg [(.int .i64 2),(.imm [[(.int .i64 1),(.int .i64 0),(.int .i64 1),(.int .i64 0),(.int .i64 0),(.bool false)],[(.int .i64 1),(.int .i64 1),(.int .i64 1),(.int .i64 0),(.int .i64 0),(.bool false)],[(.int .i64 1),(.int .i64 1),(.int .i64 2),(.int .i64 0),(.int .i64 0),(.bool false)],[(.int .i64 1),(.int .i64 2),(.int .i64 1),(.int .i64 0),(.int .i64 0),(.bool false)]])]),(.agg [(.int .i64 2),(.imm [[(.int .i64 1),(.int .i64 0),(.int .i64 1),(.int .i64 0),(.int .i64 0),(.bool false)],[(.int .i64 1),(.int .i64 1),(.int .i64 1),(.int .i64 0),(.int .i64 0),(.bool false)],[(.int .i64 1),(.int .i64 1),(.int .i64 2),(.int .i64 0),(.int .i64 0),(.bool false)],[(.int .i64 1),(.int .i64 2),(.int .i64 1),(.int .i64 0),(.int .i64 0),(.bool false)]])])],(.bool true)⟩
theorem mo8:mm8.Ok Tryz.prog:=known_of (l:=[mm7]) ⟨mo7,trivial⟩ mm8 (by kernel_rfl)
def mm9:Memo:=⟨28,[(.agg [(.int .i64 2),(.imm [[(.int .i64 1),(.int .i64 0),(.int .i64 1),(.int .i64 0),(.int .i64 0),(.bool false)],[(.int .i64 2),(.int .i64 0),(.int .i64 0),(.int .i64 1),(.int .i64 1),(.bool false)],[(.int .i64 2),(.int .i64 0),(.int .i64 0),(.int .i64 1),(.int .i64 1),(.bool true)],[(.int .i64 1),(.int .i64 1),(.int .i64 1),(.int .i64 0),(.int .i64 0),(.bool false)]])])],(.tuple [(.agg [(.int .i64 2),(.imm [[(.int .i64 1),(.int .i64 1),(.int .i64 1),(.int .i64 0),(.int .i64 0),(.bool false)],[(.int .i64 1),(.int .i64 0),(.int .i64 1),(.int .i64 0),(.int .i64 0),(.bool false)],[(.int .i64 2),(.int .i64 0),(.int .i64 0),(.int .i64 1),(.int .i64 1),(.bool true)],[(.int .i64 2),(.int .i64 0),(.int .i64 0),(.int .i64 1),(.int .i64 1),(.bool false)]])]),(.int .i64 0)])⟩
theorem mo9:mm9.Ok Tryz.prog:=known_of (l:=[]) trivial mm9 (by kernel_rfl)
def mm10:Memo:=⟨14,[(.agg [(.int .i64 2),(.imm [[(.int .i64 1),(.int .i64 0),(.int .i64 1),(.int .i64 0),(.int .i64 0),(.bool false)],[(.int .i64 2),(.int .i64 0),(.int .i64 0),(.int .i64 1),(.int .i64 1),(.bool false)],[(.int .i64 2),(.int .i64 0),(.int .i64 0),(.int .i64 1),(.int .i64 1),(.bool true)],[(.int .i64 1),(.int .i64 1),(.int .i64 1),(.int .i64 0),(.int .i64 0),(.bool false)]])])],(.tuple [(.agg [(.int .i64 2),(.imm [[(.int .i64 1)],[(.int .i64 1)],[(.int .i64 0)]]),(.imm [[(.int .i64 1),(.int .i64 0),(.int .i64 0),(.bool false)]]),(.imm [[(.int .i64 2),(.int .i64 0),(.int .i64 1),(.bool true)],[(.int .i64 1),(.int .i64 1),(.int .i64 0),(.bool false)],[(.int .i64 1),(.int .i64 0),(.int .i64 0),(.bool false)]])]),(.int .i64 0)])⟩
theorem mo10:mm10.Ok Tryz.prog:=known_of (l:=[mm9]) ⟨mo9,trivial⟩ mm10 (by kernel_rfl)
def mm11:Memo:=⟨127,[(.agg [(.int .i64 2),(.imm [[(.int .i64 1),(.int .i64 0),(.int .i64 1),(.int .i64 0),(.int .i64 0),(.bool false)],[(.int .i64 1),(.int .i64 1),(.int .i64 1),(.int .i64 0),(.int .i64 0),(.bool false)],[(.int .i64 1),(.int .i64 1),(.int .i64 2),(.int .i64 0),(.int .i64 0),(.bool false)],[(.int .i64 1),(.int .i64 2),(.int .i64 1),(.int .i64 0),(.int .i64 0),(.bool false)]])]),(.agg [(.int .i64 1),(.int .i64 1)])],(.tuple [(.agg [(.int .i64 3),(.imm [[(.int .i64 1),(.int .i64 0),(.int .i64 1),(.int .i64 0),(.int .i64 0),(.bool false)],[(.int .i64 1),(.int .i64 1),(.int .i64 1),(.int .i64 0),(.int .i64 0),(.bool false)],[(.int .i64 1),(.int .i64 2),(.int .i64 1),(.int .i64 0),(.int .i64 0),(.bool false)],[(.int .i64 1),(.int .i64 3),(.int .i64 1),(.int .i64 0),(.int .i64 0),(.bool false)]])]),(.int .i64 0)])⟩
theorem mo11:mm11.Ok Tryz.prog:=known_of (l:=[]) trivial mm11 (by kernel_rfl)
def mm12:Memo:=⟨56,[(.agg [(.int .i64 3),(.imm [[(.int .i64 1),(.int .i64 0),(.int .i64 1),(.int .i64 0),(.int .i64 0),(.bool false)],[(.int .i64 1),(.int .i64 1),(.int .i64 1),(.int .i64 0),(.int .i64 0),(.bool false)],[(.int .i64 1),(.int .i64 2),(.int .i64 1),(.int .i64 0),(.int .i64 0),(.bool false)],[(.int .i64 1),(.int .i64 3),(.int .i64 1),(.int .i64 0),(.int .i64 0),(.bool false)]])])],(.int .i64 0)⟩
theorem mo12:mm12.Ok Tryz.prog:=known_of (l:=[]) trivial mm12 (by kernel_rfl)
end Go.Known
end
section
namespace Go.Known
open Go Go.AE Go.Proofs
def mm13:Memo:=⟨18,[(.agg [(.int .i64 2),(.imm [[(.int .i64 1),(.int .i64 0),(.int .i64 1),(.int .i64 0),(.int .i64 0),(.bool false)],[(.int .i64 1),(.int .i64 1),(.int .i64 1),(.int .i64 0),(.int .i64 0),(.bool false)],[(.int .i64 1),(.int .i64 1),(.int .i64 2),(.int .i64 0),(.int .i64 0),(.bool false)],[(.int .i64 1),(.int .i64 2),(.int .i64 1),(.int .i64 0),(.int .i64 0),(.bool false)]])]),(.agg [(.bool false),(.bool false),(.bool false)])],(.tuple [(.agg [(.int .i64 2),(.imm [[(.int .i64 1),(.int .i64 0),(.int .i64 1),(.int .i64 0),(.int .i64 0),(.bool false)],[(.int .i64 1),(.int .i64 1),(.int .i64 1),(.int .i64 0),(.int .i64 0),(.bool false)],[(.int .i64 1),(.int .i64 1),(.int .i64 2),(.int .i64 0),(.int .i64 0),(.bool false)],[(.int .i64 1),(.int .i64 2),(.int .i64 1),(.int .i64 0),(.int .i64 0),(.bool false)]])]),(.int .i64 0)])⟩
theorem mo13:mm13.Ok Tryz.prog:=known_of (l:=[mm4]) ⟨mo4,trivial⟩ mm13 (by kernel_rfl)
def mm14:Memo:=⟨30,[(.agg [(.int .i64 2),(.imm [[(.int .i64 1),(.int .i64 0),(.int .i64 1),(.int .i64 0),(.int .i64 0),(.bool false)],[(.int .i64 1),(.int .i64 1),(.int .i64 1),(.int .i64 0),(.int .i64 0),(.bool false)],[(.int .i64 1),(.int .i64 1),(.int .i64 2),(.int .i64 0),(.int .i64 0),(.bool false)],[(.int .i64 1),(.int .i64 2),(.int .i64 1),(.int .i64 0),(.int .i64 0),(.bool false)]])])],(.tuple [(.agg [(.int .i64 2),(.imm [[(.int .i64 1),(.int .i64 0),(.int .i64 1),(.int .i64 0),(.int .i64 0),(.bool false)],[(.int .i64 1),(.int .i64 1),(.int .i64 1),(.int .i64 0),(.int .i64 0),(.bool false)],[(.int .i64 1),(.int .i64 1),(.int .i64 2),(.int .i64 0),(.int .i64 0),(.bool false)],[(.int .i64 1),(.int .i64 2),(.int .i64 1),(.int .i64 0),(.int .i64 0),(.bool false)]])]),(.int .i64 0)])⟩
theorem mo14:mm14.Ok Tryz.prog:=known_of (l:=[]) trivial mm14 (by kernel_rfl)
def mm15:Memo:=⟨59,[(.agg [(.int .i64 2),(.imm [[(.int .i64 1),(.int .i64 0),(.int .i64 1),(.int .i64 0),(.int .i64 0),(.bool false)],[(.int .i64 1),(.int .i64 1),(.int .i64 1),(.int .i64 0),(.int .i64 0),(.bool false)],[(.int .i64 1),(.int .i64 1),(.int .i64 2),(.int .i64 0),(.int .i64 0),(.bool false)],[(.int .i64 1),(.int .i64 2),(.int .i64 1),(.int .i64 0),(.int .i64 0),(.bool false)]])]),(.agg [(.int .i64 2),(.imm [[(.int .i64 1),(.int .i64 0),(.int .i64 1),(.int .i64 0),(.int .i64 0),(.bool false)],[(.int .i64 1),(.int .i64 1),(.int .i64 1),(.int .i64 0),(.int .i64 0),(.bool false)],[(.int .i64 1),(.int .i64 1),(.int .i64 2),(.int .i64 0),(.int .i64 0),(.bool false)],[(.int .i64 1),(.int .i64 2),(.int .i64 1),(.int .i64 0),(.int .i64 0),(.bool false)]])])],(.tuple [(.bool true),(.int .i64 0)])⟩
theorem mo15:mm15.Ok Tryz.prog:=known_of (l:=[mm14]) ⟨mo14,trivial⟩ mm15 (by kernel_rfl)
def mm16:Memo:=⟨18,[(.agg [(.int .i64 2),(.imm [[(.int .i64 1),(.int .i64 0),(.int .i64 1),(.int .i64 0),(.int .i64 0),(.bool false)],[(.int .i64 1),(.int .i64 1),(.int .i64 1),(.int .i64 0),(.int .i64 0),(.bool false)],[(.int .i64 1),(.int .i64 1),(.int .i64 2),(.int .i64 0),(.int .i64 0),(.bool false)],[(.int .i64 1),(.int .i64 2),(.int .i64 1),(.int .i64 0),(.int .i64 0),(.bool false)]])]),(.agg [(.bool false),(.bool false),(.bool true)])],(.tuple [(.agg [(.int .i64 2),(.imm [[(.int .i64 1),(.int .i64 1),(.int .i64 1),(.int .i64 0),(.int .i64 0),(.bool false)],[(.int .i64 1),(.int .i64 1),(.int .i64 2),(.int .i64 0),(.int .i64 0),(.bool false)],[(.int .i64 1),(.int .i64 2),(.int .i64 1),(.int .i64 0),(.int .i64 0),(.bool false)],[(.int .i64 1),(.int .i64 0),(.int .i64 1),(.int .i64 0),(.int .i64 0),(.bool false)]])]),(.int .i64 0)])⟩
theorem mo16:mm16.Ok Tryz.prog:=known_of (l:=[mm4,mm2]) ⟨mo4,mo2,trivial⟩ mm16 (by kernel_rfl)
def mm17:Memo:=⟨30,[(.agg [(.int .i64 2),(.imm [[(.int .i64 1),(.int .i64 1),(.int .i64 1),(.int .i64 0),(.int .i64 0),(.bool false)],[(.int .i64 1),(.int .i64 1),(.int .i64 2),(.int .i64 0),(.int .i64 0),(.bool false)],[(.int .i64 1),(.int .i64 2),(.int .i64 1),(.int .i64 0),(.int .i64 0),(.bool false)],[(.int .i64 1),(.int .i64 0),(.int .i64 1),(.int .i64 0),(.int .i64 0),(.bool false)]])])],(.tuple [(.agg [(.int .i64 2),(.imm [[(.int .i64 1),(.int .i64 0),(.int .i64 1),(.int .i64 0),(.int .i64 0),(.bool false)],[(.int .i64 1),(.int .i64 2),(.int .i64 1),(.int .i64 0),(.int .i64 0),(.bool false)],[(.int .i64 1),(.int .i64 1),(.int .i64 2),(.int .i64 0),(.int .i64 0),(.bool false)],[(.int .i64 1),(.int .i64 1),(.int .i64 1),(.int .i64 0),(.int .i64 0),(.bool false)]])]),(.int .i64 0)])⟩
theorem mo17:mm17.Ok Tryz.prog:=known_of (l:=[]) trivial mm17 (by kernel_rfl)
def mm18:Memo:=⟨59,[(.agg [(.int .i64 2),(.imm [[(.int .i64 1),(.int .i64 0),(.int .i64 1),(.int .i64 0),(.int .i64 0),(.bool false)],[(.int .i64 1),(.int .i64 1),(.int .i64 1),(.int .i64 0),(.int .i64 0),(.bool false)],[(.int .i64 1),(.int .i64 1),(.int .i64 2),(.int .i64 0),(.int .i64 0),(.bool false)],[(.int .i64 1),(.int .i64 2),(.int .i64 1),(.int .i64 0),(.int .i64 0),(.bool false)]])]),(.agg [(.int .i64 2),(.imm [[(.int .i64 1),(.int .i64 1),(.int .i64 1),(.int .i64 0),(.int .i64 0),(.bool false)],[(.int .i64 1),(.int .i64 1),(.int .i64 2),(.int .i64 0),(.int .i64 0),(.bool false)],[(.int .i64 1),(.int .i64 2),(.int .i64 1),(.int .i64 0),(.int .i64 0),(.bool false)],[(.int .i64 1),(.int .i64 0),(.int .i64 1),(.int .i64 0),(.int .i64 0),(.bool false)]])])],(.tuple [(.bool false),(.int .i64 0)])⟩
theorem mo18:mm18.Ok Tryz.prog:=known_of (l:=[mm14,mm17]) ⟨mo14,mo17,trivial⟩ mm18 (by kernel_rfl)
def mm19:Memo:=⟨58,[(.agg [(.int .i64 2),(.imm [[(.int .i64 1),(.int .i64 0),(.int .i64 1),(.int .i64 0),(.int .i64 0),(.bool false)],[(.int .i64 1),(.int .i64 1),(.int .i64 1),(.int .i64 0),(.int .i64 0),(.bool false)],[(.int .i64 1),(.int .i64 1),(.int .i64 2),(.int .i64 0),(.int .i64 0),(.bool false)],[(.int .i64 1),(.int .i64 2),(.int .i64 1),(.int .i64 0),(.int .i64 0),(.bool false)]])])],(.tuple [(.agg [(.int .i64 2),(.imm [[(.int .i64 1),(.int .i64 2),(.int .i64 1),(.int .i64 0),(.int .i64 0),(.bool false)],[(.int .i64 1),(.int .i64 1),(.int .i64 2),(.int .i64 0),(.int .i64 0),(.bool false)],[(.int .i64 1),(.int .i64 1),(.int .i64 1),(.int .i64 0),(.int .i64 0),(.bool false)],[(.int .i64 1),(.int .i64 0),(.int .i64 1),(.int .i64 0),(.int .i64 0),(.bool false)]])]),(.int .i64 0)])⟩
theorem mo19:mm19.Ok Tryz.prog:=known_of (l:=[]) trivial mm19 (by kernel_rfl)
def mm20:Memo:=⟨18,[(.agg [(.int .i64 2),(.imm [[(.int .i64 1),(.int .i64 0),(.int .i64 1),(.int .i64 0),(.int .i64 0),(.bool false)],[(.int .i64 1),(.int .i64 1),(.int .i64 1),(.int .i64 0),(.int .i64 0),(.bool false)],[(.int .i64 1),(.int .i64 1),(.int .i64 2),(.int .i64 0),(.int .i64 0),(.bool false)],[(.int .i64 1),(.int .i64 2),(.int .i64 1),(.int .i64 0),(.int .i64 0),(.bool false)]])]),(.agg [(.bool false),(.bool true),(.bool false)])],(.tuple [(.agg [(.int .i64 2),(.imm [[(.int .i64 1),(.int .i64 2),(.int .i64 1),(.int .i64 0),(.int .i64 0),(.bool false)],[(.int .i64 1),(.int .i64 1),(.int .i64 2),(.int .i64 0),(.int .i64 0),(.bool false)],[(.int .i64 1),(.int .i64 1),(.int .i64 1),(.int .i64 0),(.int .i64 0),(.bool false)],[(.int .i64 1),(.int .i64 0),(.int .i64 1),(.int .i64 0),(.int .i64 0),(.bool false)]])]),(.int .i64 0)])⟩
theorem mo20:mm20.Ok Tryz.prog:=known_of (l:=[mm4,mm19]) ⟨mo4,mo19,trivial⟩ mm20 (by kernel_rfl)
def mm21:Memo:=⟨30,[(.agg [(.int .i64 2),(.imm [[(.int .i64 1),(.int .i64 2),(.int .i64 1),(.int .i64 0),(.int .i64 0),(.bool false)],[(.int .i64 1),(.int .i64 1),(.int .i64 2),(.int .i64 0),(.int .i64 0),(.bool false)],[(.int .i64 1),(.int .i64 1),(.int .i64 1),(.int .i64 0),(.int .i64 0),(.bool false)],[(.int .i64 1),(.int .i64 0),(.int .i64 1),(.int .i64 0),(.int .i64 0),(.bool false)]])])],(.tuple [(.agg [(.int .i64 2),(.imm [[(.int .i64 1),(.int .i64 0),(.int .i64 1),(.int .i64 0),(.int .i64 0),(.bool false)],[(.int .i64 1),(.int .i64 1),(.int .i64 1),(.int .i64 0),(.int .i64 0),(.bool false)],[(.int .i64 1),(.int .i64 1),(.int .i64 2),(.int .i64 0),(.int .i64 0),(.bool false)],[(.int .i64 1),(.int .i64 2),(.int .i64 1),(.int .i64 0),(.int .i64 0),(.bool false)]])]),(.int .i64 0)])⟩
theorem mo21:mm21.Ok Tryz.prog:=known_of (l:=[]) trivial mm21 (by kernel_rfl)
def mm22:Memo:=⟨59,[(.agg [(.int .i64 2),(.imm [[(.int .i64 1),(.int .i64 0),(.int .i64 1),(.int .i64 0),(.int .i64 0),(.bool false)],[(.int .i64 1),(.int .i64 1),(.int .i64 1),(.int .i64 0),(.int .i64 0),(.bool false)],[(.int .i64 1),(.int .i64 1),(.int .i64 2),(.int .i64 0),(.int .i64 0),(.bool false)],[(.int .i64 1),(.int .i64 2),(.int .i64 1),(.int .i64 0),(.int .i64 0),(.bool false)]])]),(.agg [(.int .i64 2),(.imm [[(.int .i64 1),(.int .i64 2),(.int .i64 1),(.int .i64 0),(.int .i64 0),(.bool false)],[(.int .i64 1),(.int .i64 1),(.int .i64 2),(.int .i64 0),(.int .i64 0),(.bool false)],[(.int .i64 1),(.int .i64 1),(.int .i64 1),(.int .i64 0),(.int .i64 0),(.bool false)],[(.int .i64 1),(.int .i64 0),(.int .i64 1),(.int .i64 0),(.int .i64 0),(.bool false)]])])],(.tuple [(.bool true),(.int .i64 0)])⟩
theorem mo22:mm22.Ok Tryz.prog:=known_of (l:=[mm14,mm21]) ⟨mo14,mo21,trivial⟩ mm22 (by kernel_rfl)
end Go.Known
end
section
namespace Go.Known
open Go Go.AE Go.Proofs
def mm23:Memo:=⟨28,[(.agg [(.int .i64 2),(.imm [[(.int .i64 1),(.int .i64 2),(.int .i64 1),(.int .i64 0),(.int .i64 0),(.bool false)],[(.int .i64 1),(.int .i64 1),(.int .i64 2),(.int .i64 0),(.int .i64 0),(.bool false)],[(.int .i64 1),(.int .i64 1),(.int .i64 1),(.int .i64 0),(.int .i64 0),(.bool false)],[(.int .i64 1),(.int .i64 0),(.int .i64 1),(.int .i64 0),(.int .i64 0),(.bool false)]])])],(.tuple [(.agg [(.int .i64 2),(.imm [[(.int .i64 1),(.int .i64 1),(.int .i64 2),(.int .i64 0),(.int .i64 0),(.bool false)],[(.int .i64 1),(.int .i64 1),(.int .i64 1),(.int .i64 0),(.int .i64 0),(.bool false)],[(.int .i64 1),(.int .i64 0),(.int .i64 1),(.int .i64 0),(.int .i64 0),(.bool false)],[(.int .i64 1),(.int .i64 2),(.int .i64 1),(.int .i64 0),(.int .i64 0),(.bool false)]])]),(.int .i64 0)])⟩
theorem mo23:mm23.Ok Tryz.prog:=known_of (l:=[]) trivial mm23 (by kernel_rfl)
def mm24:Memo:=⟨18,[(.agg [(.int .i64 2),(.imm [[(.int .i64 1),(.int .i64 0),(.int .i64 1),(.int .i64 0),(.int .i64 0),(.bool false)],[(.int .i64 1),(.int .i64 1),(.int .i64 1),(.int .i64 0),(.int .i64 0),(.bool false)],[(.int .i64 1),(.int .i64 1),(.int .i64 2),(.int .i64 0),(.int .i64 0),(.bool false)],[(.int .i64 1),(.int .i64 2),(.int .i64 1),(.int .i64 0),(.int .i64 0),(.bool false)]])]),(.agg [(.bool false),(.bool true),(.bool true)])],(.tuple [(.agg [(.int .i64 2),(.imm [[(.int .i64 1),(.int .i64 1),(.int .i64 2),(.int .i64 0),(.int .i64 0),(.bool false)],[(.int .i64 1),(.int .i64 1),(.int .i64 1),(.int .i64 0),(.int .i64 0),(.bool false)],[(.int .i64 1),(.int .i64 0),(.int .i64 1),(.int .i64 0),(.int .i64 0),(.bool false)],[(.int .i64 1),(.int .i64 2),(.int .i64 1),(.int .i64 0),(.int .i64 0),(.bool false)]])]),(.int .i64 0)])⟩
theorem mo24:mm24.Ok Tryz.prog:=known_of (l:=[mm4,mm19,mm23]) ⟨mo4,mo19,mo23,trivial⟩ mm24 (by kernel_rfl)
def mm25:Memo:=⟨30,[(.agg [(.int .i64 2),(.imm [[(.int .i64 1),(.int .i64 1),(.int .i64 2),(.int .i64 0),(.int .i64 0),(.bool false)],[(.int .i64 1),(.int .i64 1),(.int .i64 1),(.int .i64 0),(.int .i64 0),(.bool false)],[(.int .i64 1),(.int .i64 0),(.int .i64 1),(.int .i64 0),(.int .i64 0),(.bool false)],[(.int .i64 1),(.int .i64 2),(.int .i64 1),(.int .i64 0),(.int .i64 0),(.bool false)]])])],(.tuple [(.agg [(.int .i64 2),(.imm [[(.int .i64 1),(.int .i64 0),(.int .i64 1),(.int .i64 0),(.int .i64 0),(.bool false)],[(.int .i64 1),(.int .i64 2),(.int .i64 1),(.int .i64 0),(.int .i64 0),(.bool false)],[(.int .i64 1),(.int .i64 1),(.int .i64 2),(.int .i64 0),(.int .i64 0),(.bool false)],[(.int .i64 1),(.int .i64 1),(.int .i64 1),(.int .i64 0),(.int .i64 0),(.bool false)]])]),(.int .i64 0)])⟩
theorem mo25:mm25.Ok Tryz.prog:=known_of (l:=[]) trivial mm25 (by kernel_rfl)
def mm26:Memo:=⟨59,[(.agg [(.int .i64 2),(.imm [[(.int .i64 1),(.int .i64 0),(.int .i64 1),(.int .i64 0),(.int .i64 0),(.bool false)],[(.int .i64 1),(.int .i64 1),(.int .i64 1),(.int .i64 0),(.int .i64 0),(.bool false)],[(.int .i64 1),(.int .i64 1),(.int .i64 2),(.int .i64 0),(.int .i64 0),(.bool false)],[(.int .i64 1),(.int .i64 2),(.int .i64 1),(.int .i64 0),(.int .i64 0),(.bool false)]])]),(.agg [(.int .i64 2),(.imm [[(.int .i64 1),(.int .i64 1),(.int .i64 2),(.int .i64 0),(.int .i64 0),(.bool false)],[(.int .i64 1),(.int .i64 1),(.int .i64 1),(.int .i64 0),(.int .i64 0),(.bool false)],[(.int .i64 1),(.int .i64 0),(.int .i64 1),(.int .i64 0),(.int .i64 0),(.bool false)],[(.int .i64 1),(.int .i64 2),(.int .i64 1),(.int .i64 0),(.int .i64 0),(.bool false)]])])],(.tuple [(.bool false),(.int .i64 0)])⟩
theorem mo26:mm26.Ok Tryz.prog:=known_of (l:=[mm14,mm25]) ⟨mo14,mo25,trivial⟩ mm26 (by kernel_rfl)
def mm27:Memo:=⟨27,[(.agg [(.int .i64 2),(.imm [[(.int .i64 1),(.int .i64 0),(.int .i64 1),(.int .i64 0),(.int .i64 0),(.bool false)],[(.int .i64 1),(.int .i64 1),(.int .i64 1),(.int .i64 0),(.int .i64 0),(.bool false)],[(.int .i64 1),(.int .i64 1),(.int .i64 2),(.int .i64 0),(.int .i64 0),(.bool false)],[(.int .i64 1),(.int .i64 2),(.int .i64 1),(.int .i64 0),(.int .i64 0),(.bool false)]])])],(.tuple [(.agg [(.int .i64 2),(.imm [[(.int .i64 1),(.int .i64 0),(.int .i64 1),(.int .i64 0),(.int .i64 0),(.bool false)],[(.int .i64 1),(.int .i64 1),(.int .i64 1),(.int .i64 0),(.int .i64 0),(.bool false)],[(.int .i64 1),(.int .i64 1),(.int .i64 2),(.int .i64 0),(.int .i64 0),(.bool false)],[(.int .i64 1),(.int .i64 2),(.int .i64 1),(.int .i64 0),(.int .i64 0),(.bool false)]])]),(.int .i64 0)])⟩
theorem mo27:mm27.Ok Tryz.prog:=known_of (l:=[]) trivial mm27 (by kernel_rfl)
def mm28:Memo:=⟨18,[(.agg [(.int .i64 2),(.imm [[(.int .i64 1),(.int .i64 0),(.int .i64 1),(.int .i64 0),(.int .i64 0),(.bool false)],[(.int .i64 1),(.int .i64 1),(.int .i64 1),(.int .i64 0),(.int .i64 0),(.bool false)],[(.int .i64 1),(.int .i64 1),(.int .i64 2),(.int .i64 0),(.int .i64 0),(.bool false)],[(.int .i64 1),(.int .i64 2),(.int .i64 1),(.int .i64 0),(.int .i64 0),(.bool false)]])]),(.agg [(.bool true),(.bool false),(.bool false)])],(.tuple [(.agg [(.int .i64 2),(.imm [[(.int .i64 1),(.int .i64 0),(.int .i64 1),(.int .i64 0),(.int .i64 0),(.bool false)],[(.int .i64 1),(.int .i64 1),(.int .i64 1),(.int .i64 0),(.int .i64 0),(.bool false)],[(.int .i64 1),(.int .i64 1),(.int .i64 2),(.int .i64 0),(.int .i64 0),(.bool false)],[(.int .i64 1),(.int .i64 2),(.int .i64 1),(.int .i64 0),(.int .i64 0),(.bool false)]])]),(.int .i64 0)])⟩
theorem mo28:mm28.Ok Tryz.prog:=known_of (l:=[mm4,mm27]) ⟨mo4,mo27,trivial⟩ mm28 (by kernel_rfl)
def mm29:Memo:=⟨18,[(.agg [(.int .i64 2),(.imm [[(.int .i64 1),(.int .i64 0),(.int .i64 1),(.int .i64 0),(.int .i64 0),(.bool false)],[(.int .i64 1),(.int .i64 1),(.int .i64 1),(.int .i64 0),(.int .i64 0),(.bool false)],[(.int .i64 1),(.int .i64 1),(.int .i64 2),(.int .i64 0),(.int .i64 0),(.bool false)],[(.int .i64 1),(.int .i64 2),(.int .i64 1),(.int .i64 0),(.int .i64 0),(.bool false)]])]),(.agg [(.bool true),(.bool false),(.bool true)])],(.tuple [(.agg [(.int .i64 2),(.imm [[(.int .i64 1),(.int .i64 1),(.int .i64 1),(.int .i64 0),(.int .i64 0),(.bool false)],[(.int .i64 1),(.int .i64 1),(.int .i64 2),(.int .i64 0),(.int .i64 0),(.bool false)],[(.int .i64 1),(.int .i64 2),(.int .i64 1),(.int .i64 0),(.int .i64 0),(.bool false)],[(.int .i64 1),(.int .i64 0),(.int .i64 1),(.int .i64 0),(.int .i64 0),(.bool false)]])]),(.int .i64 0)])⟩
theorem mo29:mm29.Ok Tryz.prog:=known_of (l:=[mm4,mm27,mm2]) ⟨mo4,mo27,mo2,trivial⟩ mm29 (by kernel_rfl)
def mm30:Memo:=⟨18,[(.agg [(.int .i64 2),(.imm [[(.int .i64 1),(.int .i64 0),(.int .i64 1),(.int .i64 0),(.int .i64 0),(.bool false)],[(.int .i64 1),(.int .i64 1),(.int .i64 1),(.int .i64 0),(.int .i64 0),(.bool false)],[(.int .i64 1),(.int .i64 1),(.int .i64 2),(.int .i64 0),(.int .i64 0),(.bool false)],[(.int .i64 1),(.int .i64 2),(.int .i64 1),(.int .i64 0),(.int .i64 0),(.bool false)]])]),(.agg [(.bool true),(.bool true),(.bool false)])],(.tuple [(.agg [(.int .i64 2),(.imm [[(.int .i64 1),(.int .i64 2),(.int .i64 1),(.int .i64 0),(.int .i64 0),(.bool false)],[(.int .i64 1),(.int .i64 1),(.int .i64 2),(.int .i64 0),(.int .i64 0),(.bool false)],[(.int .i64 1),(.int .i64 1),(.int .i64 1),(.int .i64 0),(.int .i64 0),(.bool false)],[(.int .i64 1),(.int .i64 0),(.int .i64 1),(.int .i64 0),(.int .i64 0),(.bool false)]])]),(.int .i64 0)])⟩
theorem mo30:mm30.Ok Tryz.prog:=known_of (l:=[mm4,mm27,mm19]) ⟨mo4,mo27,mo19,trivial⟩ mm30 (by kernel_rfl)
def mm31:Memo:=⟨18,[(.agg [(.int .i64 2),(.imm [[(.int .i64 1),(.int .i64 0),(.int .i64 1),(.int .i64 0),(.int .i64 0),(.bool false)],[(.int .i64 1),(.int .i64 1),(.int .i64 1),(.int .i64 0),(.int .i64 0),(.bool false)],[(.int .i64 1),(.int .i64 1),(.int .i64 2),(.int .i64 0),(.int .i64 0),(.bool false)],[(.int .i64 1),(.int .i64 2),(.int .i64 1),(.int .i64 0),(.int .i64 0),(.bool false)]])]),(.agg [(.bool true),(.bool true),(.bool true)])],(.tuple [(.agg [(.int .i64 2),(.imm [[(.int .i64 1),(.int .i64 1),(.int .i64 2),(.int .i64 0),(.int .i64 0),(.bool false)],[(.int .i64 1),(.int .i64 1),(.int .i64 1),(.int .i64 0),(.int .i64 0),(.bool false)],[(.int .i64 1),(.int .i64 0),(.int .i64 1),(.int .i64 0),(.int .i64 0),(.bool false)],[(.int .i64 1),(.int .i64 2),(.int .i64 1),(.int .i64 0),(.int .i64 0),(.bool false)]])]),(.int .i64 0)])⟩
theorem mo31:mm31.Ok Tryz.prog:=known_of (l:=[mm4,mm27,mm19,mm23]) ⟨mo4,mo27,mo19,mo23,trivial⟩ mm31 (by kernel_rfl)
def mm32:Memo:=⟨19,[(.agg [(.int .i64 2),(.imm [[(.int .i64 1),(.int .i64 0),(.int .i64 1),(.int .i64 0),(.int .i64 0),(.bool false)],[(.int .i64 1),(.int .i64 1),(.int .i64 1),(.int .i64 0),(.int .i64 0),(.bool false)],[(.int .i64 1),(.int .i64 1),(.int .i64 2),(.int .i64 0),(.int .i64 0),(.bool false)],[(.int .i64 1),(.int .i64 2),(.int .i64 1),(.int .i64 0),(.int .i64 0),(.bool false)]])])],(.tuple [(.imm [[(.bool false),(.bool false),(.bool false)],[(.bool false),(.bool true),(.bool false)],[(.bool true),(.bool false),(.bool false)],[(.bool true),(.bool true),(.bool false)]]),(.int .i64 0)])⟩
theorem mo32:mm32.Ok Tryz.prog:=known_of (l:=[mm4,mm13,mm15,mm16,mm18,mm20,mm22,mm24,mm26,mm28,mm29,mm30,mm31]) ⟨mo4,mo13,mo15,mo16,mo18,mo20,mo22,mo24,mo26,mo28,mo29,mo30,mo31,trivial⟩ mm32 (by kernel_rfl)
def mm33:Memo:=⟨13,[],(.bool true)⟩
theorem mo33:mm33.Ok Tryz.prog:=known_of (l:=[mm1,mm3,mm6,mm5,mm8,mm10,mm4,mm11,mm12,mm32]) ⟨mo1,mo3,mo6,mo5,mo8,mo10,mo4,mo11,mo12,mo32,trivial⟩ mm33 (by kernel_rfl)
end Go.Known
end
