/- Part 10 of the proof: AeV. -/
import Derived.Test.YtfmnflhggplkmaaGreatDoorO9
set_option linter.all false
namespace Go.AE
open Go.RowKit
structure Trace (P:Program) (base:Nat) (as:List AOper) (t0:List AVal) (m0:Mem) (T:Nat→List AVal) (M:Nat→Mem) (V:Nat→AVal) (F:Nat→FT):Prop where
 t0:T 0=t0
 m0:M 0=m0
 step:∀ i b,as[i]? = some b→T (i+1)=put (T i) b.dst (V i) ∧
  ((wantedA (T i) b.guard=some false∧V i=aundef∧M (i+1)=M i∧F i=.ops [] []) ∨
   (wantedA (T i) b.guard=some true∧(∀ j,j∈b.un→j<i→FT.indep (F j) (F i)) ∧
     ((∃ f xs g args wl x,b.op=.call f xs∧callee (T i) f xs=some (g,args)∧F i=.call wl x (M i).next∧CallAt P g args (base+i) x (M i) (V i) (M (i+1)) wl) ∨
      (stepA (base+i) (T i) (M i) b.op=some (V i,M (i+1))∧F i=.ops (footW (base+i) (T i) b.op) (footR (T i) b.op)))))
theorem apart1_spec {x:Nat}:∀ {l:List Nat},apart1 x l→x∉l
 | [],_=>by simp
 | y :: r,h=>by
  simp only[List.mem_cons,not_or]
  exact⟨h.1,apart1_spec h.2⟩
theorem apartL_spec {l:List Nat}:∀ {xs:List Nat},apartL xs l → ∀ c,c∈xs→c∉l
 | [],_,c,hc=>by simp at hc
 | x :: r,h,c,hc=>by
  simp only[List.mem_cons]at hc
  rcases hc with rfl|hc
  ·exact apart1_spec h.1
  ·exact apartL_spec h.2 c hc
theorem belowL_spec {n:Nat}:∀ {l:List Nat},belowL n l → ∀ c,c∈l→c<n
 | [],_,c,hc=>by simp at hc
 | x :: r,h,c,hc=>by
  simp only[List.mem_cons]at hc
  rcases hc with rfl|hc
  ·exact h.1
  ·exact belowL_spec h.2 c hc
theorem in1_spec {x:Nat}:∀ {l:List Nat},in1 x l→x∈l
 | [],h=>h.elim
 | y :: r,h=>by
  rcases h with rfl|h
  ·simp
  ·exact List.mem_cons_of_mem _ (in1_spec h)
theorem subL_spec {l:List Nat}:∀ {xs:List Nat},subL xs l → ∀ c,c∈xs→c∈l
 | [],_,c,hc=>by simp at hc
 | x :: r,h,c,hc=>by
  simp only[List.mem_cons]at hc
  rcases hc with rfl|hc
  ·exact in1_spec h.1
  ·exact subL_spec h.2 c hc
theorem FT.indep_spec {f g:FT} (h:FT.indep f g):(∀ c,f.W c=true→g.R c=false∧g.W c=false)∧(∀ c,f.R c=true→g.W c=false)∧(f.isC=true→g.isC=false):=by
 cases f with
 | ops w r=>
  cases g with
  | ops w' r'=>
   obtain⟨h1,h2⟩:=h
   refine⟨fun c hc=>?_,fun c hc=>?_,fun h=>by cases h⟩
   ·simp only[FT.W,List.contains_iff_mem]at hc
    have:=apartL_spec h1 c hc
    simp only[List.mem_append,not_or]at this
    simp[FT.W,FT.R,this.1,this.2]
   ·simp only[FT.R,List.contains_iff_mem]at hc
    have:=apartL_spec h2 c hc
    simp[FT.W,this]
  | call wl x nx=>
   obtain⟨h1,h2,h3,h4,h5⟩:=h
   refine⟨fun c hc=>?_,fun c hc=>?_,fun h=>by cases h⟩
   ·simp only[FT.W,List.contains_iff_mem]at hc
    have e1:=apartL_spec h3 c hc
    have e2:=belowL_spec h4 c hc
    have e3:=subL_spec h5 c hc
    simp[FT.W,FT.R,e1,e3,Nat.not_le.2 e2]
   ·simp only[FT.R,List.contains_iff_mem]at hc
    have e1:=apartL_spec h1 c hc
    have e2:=belowL_spec h2 c hc
    simp[FT.W,e1,Nat.not_le.2 e2]
 | call wl x nx=>
  cases g with
  | ops w r=>
   obtain⟨h1,h2,h3,h4,h5⟩:=h
   refine⟨fun c hc=>⟨?_,?_⟩,fun c hc=>?_,fun _=>rfl⟩
   ·cases hq:(FT.ops w r).R c with
    | false=>rfl
    | true=>
     simp only[FT.R,List.contains_iff_mem]at hq
     have e1:=apartL_spec h1 c hq
     have e2:=belowL_spec h2 c hq
     simp[FT.W,e1,Nat.not_le.2 e2]at hc
   ·cases hq:(FT.ops w r).W c with
    | false=>rfl
    | true=>
     simp only[FT.W,List.contains_iff_mem]at hq
     have e1:=apartL_spec h3 c hq
     have e2:=belowL_spec h4 c hq
     simp[FT.W,e1,Nat.not_le.2 e2]at hc
   ·cases hq:(FT.ops w r).W c with
    | false=>rfl
    | true=>
     simp only[FT.W,List.contains_iff_mem]at hq
     have e3:=subL_spec h5 c hq
     simp[FT.R,e3]at hc
  | call wl' x' nx'=>exact h.elim
theorem indepL_spec {fs:List FT} {ft:FT}:∀ {un:List Nat},indepL fs ft un → ∀ j,j∈un→FT.indep (fs.getD j (.ops [] [])) ft
 | [],_,j,hj=>by simp at hj
 | i :: r,h,j,hj=>by
  simp only[List.mem_cons]at hj
  rcases hj with rfl|hj
  ·exact h.1
  ·exact indepL_spec h.2 j hj
theorem dops_cons {P:Program} {base:Nat} {b:AOper} {rest:List AOper} {fs:List FT} {K:ASt→Prop} {t:List AVal} {m:Mem} (h:dops P base (b :: rest) fs K t m) :
 (wantedA t b.guard=some false∧dops P base rest (fs++[.ops [] []]) K (put t b.dst aundef) m) ∨
 (wantedA t b.guard=some true∧((∃ f xs g args wl x v m',b.op=.call f xs∧callee t f xs=some (g,args)∧CallAt P g args (base+fs.length) x m v m' wl∧indepL fs (.call wl x m.next) b.un∧dops P base rest (fs++[.call wl x m.next]) K (put t b.dst v) m') ∨
   (∃ v m',stepA (base+fs.length) t m b.op=some (v,m')∧indepL fs (.ops (footW (base+fs.length) t b.op) (footR t b.op)) b.un∧dops P base rest (fs++[.ops (footW (base+fs.length) t b.op) (footR t b.op)]) K (put t b.dst v) m'))):=by
 simp only[dops]at h
 cases hw:wantedA t b.guard with
 | none=>simp[hw]at h
 | some q=>
  cases q with
  | false=>simp only[hw]at h; exact .inl ⟨rfl,h⟩
  | true=>
   simp only[hw]at h
   refine .inr ⟨rfl,?_⟩
   have other:∀ op,b.op=op→(match stepA (base+fs.length) t m op with
    | some (v,m')=>indepL fs (.ops (footW (base+fs.length) t op) (footR t op)) b.un∧dops P base rest (fs++[.ops (footW (base+fs.length) t op) (footR t op)]) K (put t b.dst v) m'
    | none=>False) →
    ∃ v m',stepA (base+fs.length) t m op=some (v,m')∧indepL fs (.ops (footW (base+fs.length) t op) (footR t op)) b.un∧dops P base rest (fs++[.ops (footW (base+fs.length) t op) (footR t op)]) K (put t b.dst v) m':=by
    intro op _ hh
    cases hs:stepA (base+fs.length) t m op with
    | none=>simp[hs]at hh
    | some r=>obtain ⟨v,m'⟩:=r; simp only[hs]at hh; exact⟨v,m',rfl,hh⟩
   cases hop:b.op with
   | call f xs=>
    simp only[hop]at h
    cases hc:callee t f xs with
    | none=>simp[hc]at h
    | some r=>
     obtain⟨g,args⟩:=r
     simp only[hc]at h
     obtain⟨wl,x,v,m',h1,h2,h3⟩:=h
     exact .inl ⟨f,xs,g,args,wl,x,v,m',rfl,hc,h1,h2,h3⟩
   | _=>rw[hop]at h; exact .inr (other _ hop h)
theorem getD_append_lt {fs:List FT} {x d:FT} {j:Nat} (h:j<fs.length):(fs++[x]).getD j d=fs.getD j d:=by
 simp[List.getD,List.getElem?_append_left h]
theorem trace_of {P:Program} {base:Nat} {K:ASt→Prop}:∀ (as:List AOper) (fs:List FT) (t:List AVal) (m:Mem),dops P base as fs K t m →
 ∃(T:Nat→List AVal) (M:Nat→Mem) (V:Nat→AVal) (F:Nat→FT),T fs.length=t∧M fs.length=m∧(∀ j,j<fs.length→F j=fs.getD j (.ops [] [])) ∧
  (∀ i b,as[i]? = some b→T (fs.length+i+1)=put (T (fs.length+i)) b.dst (V (fs.length+i)) ∧
    ((wantedA (T (fs.length+i)) b.guard=some false∧V (fs.length+i)=aundef∧M (fs.length+i+1)=M (fs.length+i)∧F (fs.length+i)=.ops [] []) ∨
     (wantedA (T (fs.length+i)) b.guard=some true∧(∀ j,j∈b.un→j<fs.length+i→FT.indep (F j) (F (fs.length+i))) ∧
       ((∃ f xs g args wl x,b.op=.call f xs∧callee (T (fs.length+i)) f xs=some (g,args)∧F (fs.length+i)=.call wl x (M (fs.length+i)).next∧CallAt P g args (base+(fs.length+i)) x (M (fs.length+i)) (V (fs.length+i)) (M (fs.length+i+1)) wl) ∨
        (stepA (base+(fs.length+i)) (T (fs.length+i)) (M (fs.length+i)) b.op=some (V (fs.length+i),M (fs.length+i+1))∧F (fs.length+i)=.ops (footW (base+(fs.length+i)) (T (fs.length+i)) b.op) (footR (T (fs.length+i)) b.op)))))) ∧
  K ⟨T (fs.length+as.length),M (fs.length+as.length)⟩
 | [],fs,t,m,h=>⟨fun _=>t,fun _=>m,fun _=>aundef,fun j=>fs.getD j (.ops [] []),rfl,rfl,fun _ _=>rfl,fun i b hb=>by simp at hb,h⟩
 | b :: rest,fs,t,m,h=>by
  have key:∃ (ft:FT) (v:AVal) (m':Mem),dops P base rest (fs++[ft]) K (put t b.dst v) m' ∧
   ((wantedA t b.guard=some false∧v=aundef∧m'=m∧ft=.ops [] [])∨(wantedA t b.guard=some true∧indepL fs ft b.un ∧
     ((∃ f xs g args wl x,b.op=.call f xs∧callee t f xs=some (g,args)∧ft=.call wl x m.next∧CallAt P g args (base+fs.length) x m v m' wl)∨(stepA (base+fs.length) t m b.op=some (v,m')∧ft=.ops (footW (base+fs.length) t b.op) (footR t b.op))))):=by
   rcases dops_cons h with⟨hw,h'⟩|⟨hw,⟨f,xs,g,args,wl,x,v,m',h1,h2,h3,h4,h5⟩|⟨v,m',h1,h2,h3⟩⟩
   ·exact⟨.ops [] [],aundef,m,h',.inl ⟨hw,rfl,rfl,rfl⟩⟩
   ·exact⟨_,v,m',h5,.inr ⟨hw,h4,.inl ⟨f,xs,g,args,wl,x,h1,h2,rfl,h3⟩⟩⟩
   ·exact⟨_,v,m',h3,.inr ⟨hw,h2,.inr ⟨h1,rfl⟩⟩⟩
  obtain⟨ft,v,m',hrest,hstep⟩:=key
  obtain⟨T,M,V,F,h1,h2,h3,h4,h5⟩:=trace_of rest (fs++[ft]) _ _ hrest
  have hl:(fs++[ft]).length=fs.length+1:=by simp
  rw[hl]at h1 h2 h3 h4 h5
  have hF:F fs.length=ft:=by rw[h3 _ (Nat.lt_succ_self _)]; simp[List.getD]
  have hFj:∀ j,j<fs.length→F j=fs.getD j (.ops [] []):=fun j hj=>by rw[h3 j (by omega),getD_append_lt hj]
  refine⟨fun k=>if k=fs.length then t else T k,fun k=>if k=fs.length then m else M k,fun k=>if k=fs.length then v else V k,F,by simp,by simp,hFj,?_,?_⟩
  ·intro i b' hb'
   cases i with
   | zero=>
    simp only[List.getElem?_cons_zero,Option.some.injEq]at hb'
    subst hb'
    simp only[Nat.add_zero,if_true,show fs.length+1≠fs.length by omega,if_false,h1,h2,hF]
    refine⟨trivial,?_⟩
    rcases hstep with⟨g1,g2,g3,g4⟩|⟨g1,g2,g3⟩
    ·exact .inl ⟨g1,g2,g3,g4⟩
    ·refine .inr ⟨g1,fun j hj hlt=>?_,g3⟩
     rw[hFj j hlt]
     exact indepL_spec g2 j hj
   | succ i=>
    simp only[List.getElem?_cons_succ]at hb'
    have:=h4 i b' hb'
    have e1:fs.length+1+i=fs.length+(i+1):=by omega
    rw[e1]at this
    simp only[show fs.length+(i+1)≠fs.length by omega,show fs.length+(i+1)+1≠fs.length by omega,if_false]
    exact this
  ·have e1:fs.length+(b :: rest).length=fs.length+1+rest.length:=by simp; omega
   simp only[e1,show fs.length+1+rest.length≠fs.length by omega,if_false]
   exact h5
theorem trace_of' {P:Program} {base:Nat} {as:List AOper} {K:ASt→Prop} {t:List AVal} {m:Mem} (h:dops P base as [] K t m) :
 ∃ T M V F,Trace P base as t m T M V F∧K ⟨T as.length,M as.length⟩:=by
 obtain⟨T,M,V,F,h1,h2,h3,h4,h5⟩:=trace_of as [] t m h
 refine⟨T,M,V,F,⟨h1,h2,fun i b hb=>?_⟩,by simpa using h5⟩
 have:=h4 i b hb
 simpa using this
section
variable {P:Program} {base:Nat} {as:List AOper} {t0:List AVal} {m0:Mem} {T:Nat→List AVal} {M:Nat→Mem} {V:Nat→AVal} {F:Nat→FT}
def dstIs (as:List AOper) (x j:Nat):Bool:=
 match as[j]? with
 | some b=>b.dst == some x
 | none=>false
structure StateIs (as:List AOper) (t0:List AVal) (m0:Mem) (M:Nat→Mem) (V:Nat→AVal) (F:Nat→FT) (D:Nat→Bool) (t:List AVal) (m:Mem):Prop where
 len:t.length=t0.length
 tmp:∀ x,x<t0.length→t[x]? = match lastW (fun j=>D j&&dstIs as x j) as.length with|some j=>some (V j)|none=>t0[x]?
 mem:∀ c,m.get c=match lastW (fun j=>D j&&(F j).W c) as.length with|some j=>(M (j+1)).get c|none=>m0.get c
 next:m.next=match lastW (fun j=>D j&&(F j).isC) as.length with|some j=>(M (j+1)).next|none=>m0.next
theorem lastW_false (n:Nat):lastW (fun _=>false) n=none:=by
 induction n with
 | zero=>rfl
 | succ n ih=>simp[lastW,ih]
theorem lastW_lt {p:Nat→Bool} {j:Nat}:∀ {n:Nat},lastW p n=some j→j<n
 | 0,h=>by cases h
 | n+1,h=>by
  simp only[lastW]at h
  split at h
  ·injection h with h; omega
  ·have:=lastW_lt h; omega
theorem state_start:StateIs as t0 m0 M V F (fun _=>false) t0 m0:=by
 refine⟨rfl,fun x _=>?_,fun c=>?_,?_⟩<;>simp only[Bool.false_and,lastW_false]
theorem state_congr {D D':Nat→Bool} {t:List AVal} {m:Mem} (h:StateIs as t0 m0 M V F D t m) (hd:∀ j,j<as.length→D j=D' j):StateIs as t0 m0 M V F D' t m:=by
 refine⟨h.len,fun x hx=>?_,fun c=>?_,?_⟩
 ·rw[h.tmp x hx,lastW_congr as.length fun j hj=>by rw[hd j hj]]
 ·rw[h.mem c,lastW_congr as.length fun j hj=>by rw[hd j hj]]
 ·rw[h.next,lastW_congr as.length fun j hj=>by rw[hd j hj]]
theorem lastW_add {D q:Nat→Bool} {i n:Nat} (hi:i<n) (h:∀ j,i<j→j<n→D j=true→q i=true→q j=false) :
 lastW (fun j=>(D j||j == i)&&q j) n=if q i=true then some i else lastW (fun j=>D j&&q j) n:=by
 cases hq:q i with
 | true=>
  rw[if_pos rfl]
  refine lastW_top (by simp[hq]) n hi fun j h1 h2=>?_
  cases hD:D j with
  | false=>simp; intro h3; omega
  | true=>simp[h j h1 h2 hD hq]
 | false=>
  simp only[Bool.false_eq_true,if_false]
  refine lastW_congr n fun j _=>?_
  by_cases hji:j=i
  ·subst hji; simp[hq]
  ·simp[beq_false_of_ne hji]
theorem state_adv {D:Nat→Bool} {t:List AVal} {m m':Mem} {i:Nat} {b:AOper} (h:StateIs as t0 m0 M V F D t m) (hb:as[i]? = some b)
 (hdst:∀ j c,i<j→D j=true→as[j]? = some c → ∀ d,b.dst=some d→c.dst≠some d)
 (hwr:∀ j c,i<j→j<as.length→D j=true→(F i).W c=true→(F j).W c=false)
 (hcc:∀ j,i<j→j<as.length→D j=true→(F i).isC=true→(F j).isC=false)
 (hout:∀ c,(F i).W c=false→m'.get c=m.get c) (hin:∀ c,(F i).W c=true→m'.get c=(M (i+1)).get c)
 (hn1:(F i).isC=true→m'.next=(M (i+1)).next) (hn0:(F i).isC=false→m'.next=m.next) :
 StateIs as t0 m0 M V F (fun j=>D j||j == i) (put t b.dst (V i)) m':=by
 have hi:i<as.length:=(List.getElem?_eq_some_iff.1 hb).1
 refine⟨?_,fun x hx=>?_,fun c=>?_,?_⟩
 ·cases hd:b.dst<;>simp[put,h.len]
 ·rw[lastW_add hi (q:=fun j=>dstIs as x j) (fun j h1 h2 hD hq=>by
   simp only[dstIs,hb,beq_iff_eq]at hq
   have:=hdst j (as[j]) h1 hD (List.getElem?_eq_getElem h2) x hq
   simp[dstIs,List.getElem?_eq_getElem h2,this])]
  by_cases hxd:b.dst=some x
  ·rw[if_pos (by simp[dstIs,hb,hxd])]
   simp only[hxd,put]
   rw[List.getElem?_set]
   simp[h.len,hx]
  ·rw[if_neg (by simp[dstIs,hb,hxd]),← h.tmp x hx]
   cases hd:b.dst with
   | none=>rfl
   | some d=>
    simp only[put]
    rw[List.getElem?_set]
    have:d≠x:=fun e=>hxd (by rw[hd,e])
    rw[if_neg this]
 ·rw[lastW_add hi (q:=fun j=>(F j).W c) (fun j h1 h2 hD hq=>hwr j c h1 h2 hD hq)]
  cases hq:(F i).W c with
  | true=>simp only[if_true]; exact hin c hq
  | false=>simp only[Bool.false_eq_true,if_false]; rw[hout c hq,h.mem c]
 ·rw[lastW_add hi (q:=fun j=>(F j).isC) (fun j h1 h2 hD hq=>hcc j h1 h2 hD hq)]
  cases hq:(F i).isC with
  | true=>simp only[if_true]; exact hn1 hq
  | false=>simp only[Bool.false_eq_true,if_false]; rw[hn0 hq,h.next]
theorem step_mem (h:Trace P base as t0 m0 T M V F) {i:Nat} {b:AOper} (hb:as[i]? = some b) :
 (∀ c,(F i).W c=false→(M (i+1)).get c=(M i).get c)∧((F i).isC=false→(M (i+1)).next=(M i).next)∧(M i).next≤(M (i+1)).next ∧
 (b.op.kind=0→F i=.ops [] [])∧(b.op.kind≤1 → ∀ c,(F i).W c=false):=by
 obtain⟨_,hs⟩:=h.step i b hb
 rcases hs with⟨_,_,h1,h2⟩|⟨_,_,⟨f,xs,g,args,wl,x,ho,_,hF,m3,c0,c1,c2,c3,c4,c5,_⟩|⟨hs,hF⟩⟩
 ·rw[h1,h2]
  exact⟨fun _ _=>rfl,fun _=>rfl,Nat.le_refl _,fun _=>rfl,fun _ _=>rfl⟩
 ·rw[hF]
  refine⟨fun c hc=>?_,fun hc=>(by cases hc),by omega,fun hk=>(by rw[ho]at hk; simp[AOp.kind]at hk),fun hk=>(by rw[ho]at hk; simp[AOp.kind]at hk)⟩
  simp only[FT.W,Bool.or_eq_false_iff,decide_eq_false_iff_not,Nat.not_le]at hc
  have hw:c∉wl:=fun hm=>by rw[List.contains_iff_mem.2 hm]at hc; cases hc.1
  rw[c4 c]
  by_cases hcx:c∈x
  ·rw[if_pos hcx]
  ·rw[if_neg hcx]; exact c5 c hw hc.2 hcx
 ·obtain⟨_,_,h2⟩:=stepA_local (m2:=M i) (fun _ _=>rfl) (fun _ _=>rfl) hs
  rw[hF]
  refine⟨fun c hc=>h2.out1 c (fun hm=>?_),fun _=>h2.n1,Nat.le_of_eq h2.n1.symm,fun hk=>by rw[(foot_kind0 hk).1,(foot_kind0 (id:=base+i) hk).2],fun hk c=>by rw[foot_kind1 hk]; rfl⟩
  simp only[FT.W]at hc
  rw[List.contains_iff_mem.2 hm]at hc; cases hc
theorem state_seq (h:Trace P base as t0 m0 T M V F):∀ i,i≤as.length→StateIs as t0 m0 M V F (fun j=>decide (j<i)) (T i) (M i)
 | 0,_=>by
  rw[h.t0,h.m0]
  exact state_congr state_start fun j _=>by simp
 | i+1,hi=>by
  have ih:=state_seq h i (by omega)
  have hb:as[i]? = some as[i]:=List.getElem?_eq_getElem (by omega)
  obtain⟨h1,h2,_⟩:=step_mem h hb
  rw[(h.step i _ hb).1]
  refine state_congr (state_adv ih hb (fun j c hij hD=>by simp at hD; omega) (fun j c hij _ hD=>by simp at hD; omega) (fun j hij _ hD=>by simp at hD; omega) h1 (fun _ _=>rfl) (fun _=>rfl) h2) fun j _=>?_
  by_cases hji:j=i
  ·subst hji; simp
  ·have:(decide (j<i+1))=decide (j<i):=by
    by_cases hl:j<i
    ·simp[hl,show j<i+1 by omega]
    ·simp[hl,show ¬j<i+1 by omega]
   simp[hji,this]
theorem next_mono (h:Trace P base as t0 m0 T M V F):∀ i,i≤as.length→m0.next≤(M i).next
 | 0,_=>by rw[h.m0]; exact Nat.le_refl _
 | i+1,hi=>by
  have hb:as[i]? = some as[i]:=List.getElem?_eq_getElem (by omega)
  obtain⟨_,_,h3,_⟩:=step_mem h hb
  exact Nat.le_trans (next_mono h i (by omega)) h3
theorem state_next (h:Trace P base as t0 m0 T M V F) {D:Nat→Bool} {t:List AVal} {m:Mem} (hs:StateIs as t0 m0 M V F D t m):m0.next≤m.next:=by
 rw[hs.next]
 split
 ·rename_i j hj
  exact next_mono h (j+1) (lastW_lt hj)
 ·exact Nat.le_refl _
theorem state_agree {D:Nat→Bool} {t:List AVal} {m:Mem} {i:Nat} {b:AOper} (hs:StateIs as t0 m0 M V F D t m) (hq:StateIs as t0 m0 M V F (fun j=>decide (j<i)) (T i) (M i)) (hD:D i=false)
 (hl:∀ j c,j≠i→D j≠decide (j<i)→as[j]? = some c → ∀ d,c.dst=some d→d∉b.looks)
 (hm:∀ j c,j<as.length→j≠i→D j≠decide (j<i)→((F i).R c=true∨(F i).W c=true)→(F j).W c=false)
 (hc:∀ j,j<as.length→j≠i→D j≠decide (j<i)→(F i).isC=true→(F j).isC=false) :
 (∀ x,x∈b.looks→t.getD x aundef=(T i).getD x aundef)∧(∀ c,(F i).R c=true∨(F i).W c=true→m.get c=(M i).get c)∧((F i).isC=true→m.next=(M i).next):=by
 refine⟨fun x hx=>?_,fun c hcc=>?_,fun hic=>?_⟩
 ·have:t[x]? = (T i)[x]?:=by
   rcases Nat.lt_or_ge x t0.length with hlt|hge
   ·rw[hs.tmp x hlt,hq.tmp x hlt]
    rw[lastW_congr (q:=fun j=>decide (j<i)&&dstIs as x j) as.length fun j hj=>?_]
    by_cases hji:j=i
    ·subst hji; simp[hD]
    ·by_cases hd:D j=decide (j<i)
     ·rw[hd]
     ·have:dstIs as x j=false:=by
       simp only[dstIs,List.getElem?_eq_getElem hj]
       cases hdd:(as[j]).dst with
       | none=>rfl
       | some d=>
        have:=hl j _ hji hd (List.getElem?_eq_getElem hj) d hdd
        have:d≠x:=fun e=>this (e ▸ hx)
        simp[this]
      simp[this]
   ·rw[List.getElem?_eq_none (by rw[hs.len]; exact hge),List.getElem?_eq_none (by rw[hq.len]; exact hge)]
  simp only[List.getD,this]
 ·rw[hs.mem c,hq.mem c]
  rw[lastW_congr (q:=fun j=>decide (j<i)&&(F j).W c) as.length fun j hj=>?_]
  by_cases hji:j=i
  ·subst hji; simp[hD]
  ·by_cases hd:D j=decide (j<i)
   ·rw[hd]
   ·simp[hm j c hj hji hd hcc]
 ·rw[hs.next,hq.next]
  rw[lastW_congr (q:=fun j=>decide (j<i)&&(F j).isC) as.length fun j hj=>?_]
  by_cases hji:j=i
  ·subst hji; simp[hD]
  ·by_cases hd:D j=decide (j<i)
   ·rw[hd]
   ·simp[hc j hj hji hd hic]
end
end Go.AE
