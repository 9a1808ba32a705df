/- Part 2 of the proof: AeV, AeW, AeX, AeY, AeGa, AeGb, AeGc, AeGd, AeDl, AeRun, AeRunS, AeRunP, AeRunD, AeRunC, AeRunF, AeMemo, AeFz, AeOr. -/
import Derived.Test.YtilmpmlkndfbjaaGreatDoorK1
import Derived.Orders
import Derived.Deep.LoopGhost
import Derived.RangeFuncRecord
set_option linter.all false
section
namespace Go.AE
open Go.RowKit
structure Trace (P:Program) (base:Nat) (as:List Af) (t0:List Aa) (m0:Mem) (T:Nat→List Aa) (M:Nat→Mem) (V:Nat→Aa) (F:Nat→FT):Prop where
 t0:T 0=t0
 m0:M 0=m0
 step:∀ i b,as[i]? = some b→T (i+1)=put (T i) b.dst (V i) ∧
  ((T9 (T i) b.guard=some false∧V i=Aj∧M (i+1)=M i∧F i=.ops [] []) ∨
   (T9 (T i) b.guard=some true∧(∀ j,j∈b.un→j<i→FT.indep (F j) (F i)) ∧
     ((∃ f xs g args wl x,b.op=.call f xs∧callee (T i) f xs=some (g,args)∧F i=.call wl x (M i).next∧Nl P g args (base+i) x (M i) (V i) (M (i+1)) wl) ∨
      (Ae (base+i) (T i) (M i) b.op=some (V i,M (i+1))∧F i=.ops (T8 (base+i) (T i) b.op) (L8 (T i) b.op)))))
theorem uZ{x:Nat}:∀ {l:List Nat},Iz x l→x∉l
 | [],_=>by simp
 | y :: r,h=>by
  simp only[mC,not_or];exact⟨h.1,uZ h.2⟩
theorem OM{l:List Nat}:∀ {xs:List Nat},E4 xs l → ∀ c,c∈xs→c∉l
 | [],_,c,hc=>by simp at hc
 | x :: r,h,c,hc=>by
  simp only[mC]at hc;rcases hc with rfl|hc
  ·exact uZ h.1
  ·exact OM h.2 c hc
theorem Sp{n:Nat}:∀ {l:List Nat},A0 n l → ∀ c,c∈l→c<n
 | [],_,c,hc=>by simp at hc
 | x :: r,h,c,hc=>by
  simp only[mC]at hc;rcases hc with rfl|hc
  ·exact h.1
  ·exact Sp h.2 c hc
theorem oN{x:Nat}:∀ {l:List Nat},Jg x l→x∈l
 | [],h=>h.elim
 | y :: r,h=>by
  rcases h with rfl|h
  ·simp
  ·exact List.mem_cons_of_mem _ (oN h)
theorem cI{l:List Nat}:∀ {xs:List Nat},EC xs l → ∀ c,c∈xs→c∈l
 | [],_,c,hc=>by simp at hc
 | x :: r,h,c,hc=>by
  simp only[mC]at hc;rcases hc with rfl|hc
  ·exact oN h.1
  ·exact cI h.2 c hc
theorem FT.GJ{f g:FT}(h:FT.indep f g):(∀ c,f.W c=true→g.R c=false∧g.W c=false)∧(∀ c,f.R c=true→g.W c=false)∧(f.Dy=true→g.Dy=false):=by
 cases f with
 | ops w r=>
  cases g with
  | ops w' r'=>
   obtain⟨h1,h2⟩:=h;refine⟨fun c hc=>?_,fun c hc=>?_,fun h=>by cases h⟩
   ·simp only[FT.W,List.contains_iff_mem]at hc;have:=OM h1 c hc;simp only[List.mem_append,not_or]at this;simp[FT.W,FT.R,this.1,this.2]
   ·simp only[FT.R,List.contains_iff_mem]at hc;have:=OM h2 c hc;simp[FT.W,this]
  | call wl x nx=>
   obtain⟨h1,h2,h3,h4,h5⟩:=h;refine⟨fun c hc=>?_,fun c hc=>?_,fun h=>by cases h⟩
   ·simp only[FT.W,List.contains_iff_mem]at hc;have e1:=OM h3 c hc;have e2:=Sp h4 c hc;have e3:=cI h5 c hc;simp[FT.W,FT.R,e1,e3,Nat.not_le.2 e2]
   ·simp only[FT.R,List.contains_iff_mem]at hc;have e1:=OM h1 c hc;have e2:=Sp h2 c hc;simp[FT.W,e1,Nat.not_le.2 e2]
 | call wl x nx=>
  cases g with
  | ops w r=>
   obtain⟨h1,h2,h3,h4,h5⟩:=h;refine⟨fun c hc=>⟨?_,?_⟩,fun c hc=>?_,fun _=>rfl⟩
   ·cases hq:(FT.ops w r).R c with
    | false=>rfl
    | true=>
     simp only[FT.R,List.contains_iff_mem]at hq;have e1:=OM h1 c hq;have e2:=Sp h2 c hq;simp[FT.W,e1,Nat.not_le.2 e2]at hc
   ·cases hq:(FT.ops w r).W c with
    | false=>rfl
    | true=>
     simp only[FT.W,List.contains_iff_mem]at hq;have e1:=OM h3 c hq;have e2:=Sp h4 c hq;simp[FT.W,e1,Nat.not_le.2 e2]at hc
   ·cases hq:(FT.ops w r).W c with
    | false=>rfl
    | true=>
     simp only[FT.W,List.contains_iff_mem]at hq;have e3:=cI h5 c hq;simp[FT.R,e3]at hc
  | call wl' x' Qj=>exact h.elim
theorem wI{fs:List FT}{ft:FT}:∀ {un:List Nat},O0 fs ft un → ∀ j,j∈un→FT.indep (fs.getD j (.ops [] [])) ft
 | [],_,j,hj=>by simp at hj
 | i :: r,h,j,hj=>by
  simp only[mC]at hj;rcases hj with rfl|hj
  ·exact h.1
  ·exact wI h.2 j hj
theorem x7{P:Program}{base:Nat}{b:Af}{rest:List Af}{fs:List FT}{K:AO→Prop}{t:List Aa}{m:Mem}(h:R8 P base (b :: rest) fs K t m) :
 (T9 t b.guard=some false∧R8 P base rest (fs++[.ops [] []]) K (put t b.dst Aj) m) ∨
 (T9 t b.guard=some true∧((∃ f xs g args wl x v m',b.op=.call f xs∧callee t f xs=some (g,args)∧Nl P g args (base+fs.length) x m v m' wl∧O0 fs (.call wl x m.next) b.un∧R8 P base rest (fs++[.call wl x m.next]) K (put t b.dst v) m') ∨
   (∃ v m',Ae (base+fs.length) t m b.op=some (v,m')∧O0 fs (.ops (T8 (base+fs.length) t b.op) (L8 t b.op)) b.un∧R8 P base rest (fs++[.ops (T8 (base+fs.length) t b.op) (L8 t b.op)]) K (put t b.dst v) m'))):=by
 simp only[R8]at h;cases hw:T9 t b.guard with
 | none=>simp[hw]at h
 | some q=>
  cases q with
  | false=>simp only[hw]at h; exact .inl ⟨rfl,h⟩
  | true=>
   simp only[hw]at h;refine .inr ⟨rfl,?_⟩;have other:∀ op,b.op=op→(match Ae (base+fs.length) t m op with
    | some (v,m')=>O0 fs (.ops (T8 (base+fs.length) t op) (L8 t op)) b.un∧R8 P base rest (fs++[.ops (T8 (base+fs.length) t op) (L8 t op)]) K (put t b.dst v) m'
    | none=>False) →
    ∃ v m',Ae (base+fs.length) t m op=some (v,m')∧O0 fs (.ops (T8 (base+fs.length) t op) (L8 t op)) b.un∧R8 P base rest (fs++[.ops (T8 (base+fs.length) t op) (L8 t op)]) K (put t b.dst v) m':=by
    intro op _ hh;cases hs:Ae (base+fs.length) t m op with
    | none=>simp[hs]at hh
    | some r=>obtain ⟨v,m'⟩:=r; simp only[hs]at hh; exact⟨v,m',rfl,hh⟩
   cases hop:b.op with
   | call f xs=>
    simp only[hop]at h;cases hc:callee t f xs with
    | none=>simp[hc]at h
    | some r=>
     obtain⟨g,args⟩:=r;simp only[hc]at h;obtain⟨wl,x,v,m',h1,h2,h3⟩:=h;exact .inl ⟨f,xs,g,args,wl,x,v,m',rfl,hc,h1,h2,h3⟩
   | _=>rw[hop]at h; exact .inr (other _ hop h)
theorem yd{fs:List FT}{x d:FT}{j:Nat}(h:j<fs.length):(fs++[x]).getD j d=fs.getD j d:=by
 simp[List.getD,List.getElem?_append_left h]
theorem sF{P:Program}{base:Nat}{K:AO→Prop}:∀ (as:List Af) (fs:List FT) (t:List Aa) (m:Mem),R8 P base as fs K t m →
 ∃(T:Nat→List Aa) (M:Nat→Mem) (V:Nat→Aa) (F:Nat→FT),T fs.length=t∧M fs.length=m∧(∀ j,j<fs.length→F j=fs.getD j (.ops [] [])) ∧
  (∀ i b,as[i]? = some b→T (fs.length+i+1)=put (T (fs.length+i)) b.dst (V (fs.length+i)) ∧
    ((T9 (T (fs.length+i)) b.guard=some false∧V (fs.length+i)=Aj∧M (fs.length+i+1)=M (fs.length+i)∧F (fs.length+i)=.ops [] []) ∨
     (T9 (T (fs.length+i)) b.guard=some true∧(∀ j,j∈b.un→j<fs.length+i→FT.indep (F j) (F (fs.length+i))) ∧
       ((∃ f xs g args wl x,b.op=.call f xs∧callee (T (fs.length+i)) f xs=some (g,args)∧F (fs.length+i)=.call wl x (M (fs.length+i)).next∧Nl P g args (base+(fs.length+i)) x (M (fs.length+i)) (V (fs.length+i)) (M (fs.length+i+1)) wl) ∨
        (Ae (base+(fs.length+i)) (T (fs.length+i)) (M (fs.length+i)) b.op=some (V (fs.length+i),M (fs.length+i+1))∧F (fs.length+i)=.ops (T8 (base+(fs.length+i)) (T (fs.length+i)) b.op) (L8 (T (fs.length+i)) b.op)))))) ∧
  K ⟨T (fs.length+as.length),M (fs.length+as.length)⟩
 | [],fs,t,m,h=>⟨fun _=>t,fun _=>m,fun _=>Aj,fun j=>fs.getD j (.ops [] []),rfl,rfl,fun _ _=>rfl,fun i b hb=>by simp at hb,h⟩
 | b :: rest,fs,t,m,h=>by
  have key:∃ (ft:FT) (v:Aa) (m':Mem),R8 P base rest (fs++[ft]) K (put t b.dst v) m' ∧
   ((T9 t b.guard=some false∧v=Aj∧m'=m∧ft=.ops [] [])∨(T9 t b.guard=some true∧O0 fs ft b.un ∧
     ((∃ f xs g args wl x,b.op=.call f xs∧callee t f xs=some (g,args)∧ft=.call wl x m.next∧Nl P g args (base+fs.length) x m v m' wl)∨(Ae (base+fs.length) t m b.op=some (v,m')∧ft=.ops (T8 (base+fs.length) t b.op) (L8 t b.op))))):=by
   rcases x7 h with⟨hw,h'⟩|⟨hw,⟨f,xs,g,args,wl,x,v,m',h1,h2,h3,h4,h5⟩|⟨v,m',h1,h2,h3⟩⟩
   ·exact⟨.ops [] [],Aj,m,h',.inl ⟨hw,rfl,rfl,rfl⟩⟩
   ·exact⟨_,v,m',h5,.inr ⟨hw,h4,.inl ⟨f,xs,g,args,wl,x,h1,h2,rfl,h3⟩⟩⟩
   ·exact⟨_,v,m',h3,.inr ⟨hw,h2,.inr ⟨h1,rfl⟩⟩⟩
  obtain⟨ft,v,m',hrest,hstep⟩:=key;obtain⟨T,M,V,F,h1,h2,h3,h4,h5⟩:=sF rest (fs++[ft]) _ _ hrest;have hl:(fs++[ft]).length=fs.length+1:=by simp
  rw[hl]at h1 h2 h3 h4 h5;have hF:F fs.length=ft:=by rw[h3 _ (Nat.lt_succ_self _)]; simp[List.getD]
  have hFj:∀ j,j<fs.length→F j=fs.getD j (.ops [] []):=fun j hj=>by rw[h3 j (by omega),yd hj]
  refine⟨fun k=>if k=fs.length then t else T k,fun k=>if k=fs.length then m else M k,fun k=>if k=fs.length then v else V k,F,by simp,by simp,hFj,?_,?_⟩
  ·intro i b' hb';cases i with
   | zero=>
    simp only[List.getElem?_cons_zero,oI]at hb';subst hb';simp only[Nat.add_zero,if_true,show fs.length+1≠fs.length by omega,if_false,h1,h2,hF]
    refine⟨trivial,?_⟩;rcases hstep with⟨g1,g2,g3,g4⟩|⟨g1,g2,g3⟩
    ·exact .inl ⟨g1,g2,g3,g4⟩
    ·refine .inr ⟨g1,fun j hj hlt=>?_,g3⟩
     rw[hFj j hlt];exact wI g2 j hj
   | succ i=>
    simp only[List.getElem?_cons_succ]at hb';have:=h4 i b' hb';have e1:fs.length+1+i=fs.length+(i+1):=by omega
    rw[e1]at this;simp only[show fs.length+(i+1)≠fs.length by omega,show fs.length+(i+1)+1≠fs.length by omega,if_false]
    exact this
  ·have e1:fs.length+(b :: rest).length=fs.length+1+rest.length:=by simp; omega
   simp only[e1,show fs.length+1+rest.length≠fs.length by omega,if_false]
   exact h5
theorem zI{P:Program}{base:Nat}{as:List Af}{K:AO→Prop}{t:List Aa}{m:Mem}(h:R8 P base as [] K t m) :
 ∃ T M V F,Trace P base as t m T M V F∧K ⟨T as.length,M as.length⟩:=by
 obtain⟨T,M,V,F,h1,h2,h3,h4,h5⟩:=sF as [] t m h;refine⟨T,M,V,F,⟨h1,h2,fun i b hb=>?_⟩,by simpa using h5⟩
 have:=h4 i b hb;simpa using this
section
variable {P:Program} {base:Nat} {as:List Af} {t0:List Aa} {m0:Mem} {T:Nat→List Aa} {M:Nat→Mem} {V:Nat→Aa} {F:Nat→FT}
def Ls(as:List Af)(x j:Nat):Bool:=
 match as[j]? with
 | some b=>b.dst == some x
 | none=>false
structure BF (as:List Af) (t0:List Aa) (m0:Mem) (M:Nat→Mem) (V:Nat→Aa) (F:Nat→FT) (D:Nat→Bool) (t:List Aa) (m:Mem):Prop where
 len:t.length=t0.length
 tmp:∀ x,x<t0.length→t[x]? = match B3 (fun j=>D j&&Ls as x j) as.length with|some j=>some (V j)|none=>t0[x]?
 mem:∀ c,m.get c=match B3 (fun j=>D j&&(F j).W c) as.length with|some j=>(M (j+1)).get c|none=>m0.get c
 next:m.next=match B3 (fun j=>D j&&(F j).Dy) as.length with|some j=>(M (j+1)).next|none=>m0.next
theorem Z6n(n:Nat):B3 (fun _=>false) n=none:=by
 induction n with
 | zero=>rfl
 | succ n ih=>simp[B3,ih]
theorem pR{p:Nat→Bool}{j:Nat}:∀ {n:Nat},B3 p n=some j→j<n
 | 0,h=>by cases h
 | n+1,h=>by
  simp only[B3]at h;split at h
  ·injection h with h; omega
  ·have:=pR h; omega
theorem wM:BF as t0 m0 M V F (fun _=>false) t0 m0:=by
 refine⟨rfl,fun x _=>?_,fun c=>?_,?_⟩<;>simp only[Bool.false_and,Z6n]
theorem Sl{D D':Nat→Bool}{t:List Aa}{m:Mem}(h:BF as t0 m0 M V F D t m)(hd:∀ j,j<as.length→D j=D' j):BF as t0 m0 M V F D' t m:=by
 refine⟨h.len,fun x hx=>?_,fun c=>?_,?_⟩
 ·rw[h.tmp x hx,Nc as.length fun j hj=>by rw[hd j hj]]
 ·rw[h.mem c,Nc as.length fun j hj=>by rw[hd j hj]]
 ·rw[h.next,Nc as.length fun j hj=>by rw[hd j hj]]
theorem aQ{D q:Nat→Bool}{i n:Nat}(hi:i<n)(h:∀ j,i<j→j<n→D j=true→q i=true→q j=false) :
 B3 (fun j=>(D j||j == i)&&q j) n=if q i=true then some i else B3 (fun j=>D j&&q j) n:=by
 cases hq:q i with
 | true=>
  rw[iP rfl];refine rY (by simp[hq]) n hi fun j h1 h2=>?_
  cases hD:D j with
  | false=>simp; intro h3; omega
  | true=>simp[h j h1 h2 hD hq]
 | false=>
  simp only[bF,if_false];refine Nc n fun j _=>?_
  by_cases hji:j=i
  ·subst hji; simp[hq]
  ·simp[beq_false_of_ne hji]
theorem rG{D:Nat→Bool}{t:List Aa}{m m':Mem}{i:Nat}{b:Af}(h:BF as t0 m0 M V F D t m)(hb:as[i]? = some b)
 (Ej:∀ j c,i<j→D j=true→as[j]? = some c → ∀ d,b.dst=some d→c.dst≠some d)
 (hwr:∀ j c,i<j→j<as.length→D j=true→(F i).W c=true→(F j).W c=false)
 (CM:∀ j,i<j→j<as.length→D j=true→(F i).Dy=true→(F j).Dy=false)
 (hout:∀ c,(F i).W c=false→m'.get c=m.get c) (hin:∀ c,(F i).W c=true→m'.get c=(M (i+1)).get c)
 (DF:(F i).Dy=true→m'.next=(M (i+1)).next) (hn0:(F i).Dy=false→m'.next=m.next) :
 BF as t0 m0 M V F (fun j=>D j||j == i) (put t b.dst (V i)) m':=by
 have hi:i<as.length:=(gS.1 hb).1;refine⟨?_,fun x hx=>?_,fun c=>?_,?_⟩
 ·cases hd:b.dst<;>simp[put,h.len]
 ·rw[aQ hi (q:=fun j=>Ls as x j) (fun j h1 h2 hD hq=>by
   simp only[Ls,hb,beq_iff_eq]at hq;have:=Ej j (as[j]) h1 hD (gE h2) x hq;simp[Ls,gE h2,this])]
  by_cases hxd:b.dst=some x
  ·rw[iP (by simp[Ls,hb,hxd])]
   simp only[hxd,put];rw[List.getElem?_set];simp[h.len,hx]
  ·rw[iN (by simp[Ls,hb,hxd]),← h.tmp x hx]
   cases hd:b.dst with
   | none=>rfl
   | some d=>
    simp only[put];rw[List.getElem?_set];have:d≠x:=fun e=>hxd (by rw[hd,e])
    rw[iN this]
 ·rw[aQ hi (q:=fun j=>(F j).W c) (fun j h1 h2 hD hq=>hwr j c h1 h2 hD hq)]
  cases hq:(F i).W c with
  | true=>simp only[if_true]; exact hin c hq
  | false=>simp only[bF,if_false]; rw[hout c hq,h.mem c]
 ·rw[aQ hi (q:=fun j=>(F j).Dy) (fun j h1 h2 hD hq=>CM j h1 h2 hD hq)]
  cases hq:(F i).Dy with
  | true=>simp only[if_true]; exact DF hq
  | false=>simp only[bF,if_false]; rw[hn0 hq,h.next]
theorem Xg(h:Trace P base as t0 m0 T M V F){i:Nat}{b:Af}(hb:as[i]? = some b) :
 (∀ c,(F i).W c=false→(M (i+1)).get c=(M i).get c)∧((F i).Dy=false→(M (i+1)).next=(M i).next)∧(M i).next≤(M (i+1)).next ∧
 (b.op.kind=0→F i=.ops [] [])∧(b.op.kind≤1 → ∀ c,(F i).W c=false):=by
 obtain⟨_,hs⟩:=h.step i b hb;rcases hs with⟨_,_,h1,h2⟩|⟨_,_,⟨f,xs,g,args,wl,x,ho,_,hF,m3,c0,c1,c2,c3,c4,c5,_⟩|⟨hs,hF⟩⟩
 ·rw[h1,h2];exact⟨fun _ _=>rfl,fun _=>rfl,lR _,fun _=>rfl,fun _ _=>rfl⟩
 ·rw[hF];refine⟨fun c hc=>?_,fun hc=>(by cases hc),by omega,fun hk=>(by rw[ho]at hk; simp[AQ.kind]at hk),fun hk=>(by rw[ho]at hk; simp[AQ.kind]at hk)⟩
  simp only[FT.W,Bool.or_eq_false_iff,decide_eq_false_iff_not,Nat.not_le]at hc;have hw:c∉wl:=fun hm=>by rw[List.contains_iff_mem.2 hm]at hc; cases hc.1
  rw[c4 c];by_cases hcx:c∈x
  ·rw[iP hcx]
  ·rw[iN hcx]; exact c5 c hw hc.2 hcx
 ·obtain⟨_,_,h2⟩:=aY (m2:=M i) (fun _ _=>rfl) (fun _ _=>rfl) hs
  rw[hF];refine⟨fun c hc=>h2.Qn c (fun hm=>?_),fun _=>h2.n1,Nat.le_of_eq h2.n1.symm,fun hk=>by rw[(uX hk).1,(uX (id:=base+i) hk).2],fun hk c=>by rw[ry hk]; rfl⟩
  simp only[FT.W]at hc;rw[List.contains_iff_mem.2 hm]at hc; cases hc
theorem Yh(h:Trace P base as t0 m0 T M V F):∀ i,i≤as.length→BF as t0 m0 M V F (fun j=>decide (j<i)) (T i) (M i)
 | 0,_=>by
  rw[h.t0,h.m0];exact Sl wM fun j _=>by simp
 | i+1,hi=>by
  have ih:=Yh h i (by omega)
  have hb:as[i]? = some as[i]:=gE (by omega)
  obtain⟨h1,h2,_⟩:=Xg h hb;rw[(h.step i _ hb).1];refine Sl (rG ih hb (fun j c hij hD=>by simp at hD; omega) (fun j c hij _ hD=>by simp at hD; omega) (fun j hij _ hD=>by simp at hD; omega) h1 (fun _ _=>rfl) (fun _=>rfl) h2) fun j _=>?_
  by_cases hji:j=i
  ·subst hji; simp
  ·have:(decide (j<i+1))=decide (j<i):=by
    by_cases hl:j<i
    ·simp[hl,show j<i+1 by omega]
    ·simp[hl,show ¬j<i+1 by omega]
   simp[hji,this]
theorem tY(h:Trace P base as t0 m0 T M V F):∀ i,i≤as.length→m0.next≤(M i).next
 | 0,_=>by rw[h.m0]; exact lR _
 | i+1,hi=>by
  have hb:as[i]? = some as[i]:=gE (by omega)
  obtain⟨_,_,h3,_⟩:=Xg h hb;exact Nat.le_trans (tY h i (by omega)) h3
theorem mQ(h:Trace P base as t0 m0 T M V F){D:Nat→Bool}{t:List Aa}{m:Mem}(hs:BF as t0 m0 M V F D t m):m0.next≤m.next:=by
 rw[hs.next];split
 ·rename_i j hj;exact tY h (j+1) (pR hj)
 ·exact lR _
theorem Z9f{D:Nat→Bool}{t:List Aa}{m:Mem}{i:Nat}{b:Af}(hs:BF as t0 m0 M V F D t m)(hq:BF as t0 m0 M V F (fun j=>decide (j<i)) (T i) (M i))(hD:D i=false)
 (hl:∀ j c,j≠i→D j≠decide (j<i)→as[j]? = some c → ∀ d,c.dst=some d→d∉b.looks)
 (hm:∀ j c,j<as.length→j≠i→D j≠decide (j<i)→((F i).R c=true∨(F i).W c=true)→(F j).W c=false)
 (hc:∀ j,j<as.length→j≠i→D j≠decide (j<i)→(F i).Dy=true→(F j).Dy=false) :
 (∀ x,x∈b.looks→t.getD x Aj=(T i).getD x Aj)∧(∀ c,(F i).R c=true∨(F i).W c=true→m.get c=(M i).get c)∧((F i).Dy=true→m.next=(M i).next):=by
 refine⟨fun x hx=>?_,fun c CM=>?_,fun hic=>?_⟩
 ·have:t[x]? = (T i)[x]?:=by
   rcases lG x t0.length with hlt|hge
   ·rw[hs.tmp x hlt,hq.tmp x hlt];rw[Nc (q:=fun j=>decide (j<i)&&Ls as x j) as.length fun j hj=>?_]
    by_cases hji:j=i
    ·subst hji; simp[hD]
    ·by_cases hd:D j=decide (j<i)
     ·rw[hd]
     ·have:Ls as x j=false:=by
       simp only[Ls,gE hj];cases hdd:(as[j]).dst with
       | none=>rfl
       | some d=>
        have:=hl j _ hji hd (gE hj) d hdd;have:d≠x:=fun e=>this (e ▸ hx)
        simp[this]
      simp[this]
   ·rw[List.getElem?_eq_none (by rw[hs.len]; exact hge),List.getElem?_eq_none (by rw[hq.len]; exact hge)]
  simp only[List.getD,this]
 ·rw[hs.mem c,hq.mem c];rw[Nc (q:=fun j=>decide (j<i)&&(F j).W c) as.length fun j hj=>?_]
  by_cases hji:j=i
  ·subst hji; simp[hD]
  ·by_cases hd:D j=decide (j<i)
   ·rw[hd]
   ·simp[hm j c hj hji hd CM]
 ·rw[hs.next,hq.next];rw[Nc (q:=fun j=>decide (j<i)&&(F j).Dy) as.length fun j hj=>?_]
  by_cases hji:j=i
  ·subst hji; simp[hD]
  ·by_cases hd:D j=decide (j<i)
   ·rw[hd]
   ·simp[hc j hj hji hd hic]
end
end Go.AE
end
section
namespace Go.AE
open Go.RowKit
theorem tE{α β:Type}(f:List β→α→β):∀ (l:List α) (acc:List β),(l.foldl (fun acc o=>acc++[f acc o]) acc).length=acc.length+l.length ∧
 (∀ i,i<acc.length→(l.foldl (fun acc o=>acc++[f acc o]) acc)[i]? = acc[i]?) ∧
 ∀ i o,l[i]? = some o→(l.foldl (fun acc o=>acc++[f acc o]) acc)[acc.length+i]? = some (f ((l.foldl (fun acc o=>acc++[f acc o]) acc).take (acc.length+i)) o)
 | [],acc=>⟨by simp,fun _ _=>rfl,fun i o h=>by simp at h⟩
 | x :: l,acc=>by
  obtain⟨h1,h2,h3⟩:=tE f l (acc++[f acc x]);simp only[List.foldl_cons];simp only[lA,lC,List.length_nil,Nat.zero_add]at h1 h2 h3;refine⟨by rw[h1,lC]; omega,fun i hi=>by rw[h2 i (by omega),List.getElem?_append_left hi],fun i o ho=>?_⟩
  cases i with
  | zero=>
   simp only[List.getElem?_cons_zero,oI]at ho;subst ho;rw[Nat.add_zero,h2 _ (by omega)]
   have:(l.foldl (fun acc o=>acc++[f acc o]) (acc++[f acc x])).take acc.length=acc:=by
    apply List.ext_getElem?;intro k;rw[List.getElem?_take];split
    ·rename_i hk;rw[h2 k (by omega),List.getElem?_append_left hk]
    ·rename_i hk;rw[List.getElem?_eq_none (by omega)]
   rw[this];simp
  | succ i=>
   simp only[List.getElem?_cons_succ]at ho;have:=h3 i o ho;rw[show acc.length+1+i=acc.length+(i+1) by omega]at this
   exact this
theorem yc{ops:List Oper}{i j:Nat}{o:Oper}(ho:ops[i]? = some o)(hj:j∈(IF ops).getD i []):∃ e,e∈o.after.toList∧Region.binds .any e=true∧(e.on=j∨j∈(IF ops).getD e.on []):=by
 unfold IF at hj ⊢;obtain⟨h1,_,h3⟩:=tE (fun acc (o:Oper)=>MO [] ((o.after.toList.filter (Region.binds .any)).flatMap fun e=>e.on :: acc.getD e.on [])) ops []
 have h:=h3 i o ho;simp only[List.length_nil,Nat.zero_add]at h;generalize hL:ops.foldl (fun acc o=>acc++[MO [] ((o.after.toList.filter (Region.binds .any)).flatMap fun e=>e.on :: acc.getD e.on [])]) []=L at *
 rw[List.getD,h]at hj;simp only[Option.getD_some,Zf,List.not_mem_nil,false_or,List.mem_flatMap,List.mem_filter,mC]at hj;obtain⟨e,⟨he1,he2⟩,hjj⟩:=hj;refine⟨e,he1,he2,?_⟩;rcases hjj with hjj|hjj
 ·exact .inl hjj.symm
 ·refine .inr ?_;simp only[List.getD]at hjj ⊢;rw[List.getElem?_take]at hjj;split at hjj
  ·exact hjj
  ·simp at hjj
theorem oP{as:List Af}{Bj:List (List Nat)}:∀ (l:List Af) (k i:Nat),(FO as Bj k l)[i]? = (l[i]?).map fun a=>⟨a.dst,a.op,a.guard,XE as Bj (k+i) a.op⟩
 | [],k,i=>by simp[FO]
 | a :: l,k,i=>by
  cases i with
  | zero=>simp[FO]
  | succ i=>
   simp only[FO,List.getElem?_cons_succ];rw[oP l (k+1) i,show k+1+i=k+(i+1) by omega]
theorem sC{as:List Af}{Bj:List (List Nat)}:∀ (l:List Af) (k:Nat),(FO as Bj k l).length=l.length
 | [],_=>rfl
 | _ :: l,k=>by simp[FO,sC l (k+1)]
theorem YX{ops:Array Oper}{listed:Array Bool}(hs:listed.size=ops.size){i:Nat}:i∈Region.ready .any ops listed ↔
 i<ops.size∧listed.getD i false=false ∧ ∀ o,ops[i]? = some o → ∀ e,e∈o.after.toList→Region.binds .any e=true→listed.getD e.on false=true:=by
 unfold Region.ready;rw[List.mem_filter,mR];constructor
 ·rintro⟨h1,h2⟩;have hl:i<listed.size:=by rw[hs]; exact h1
  have ho:ops[i]? = some ops[i]:=Array.getElem?_eq_getElem h1;rw[ho]at h2;simp only[Option.map_some,Option.getD_some,bA,Bool.not_eq_true',Array.all_eq_true',Bool.or_eq_true]at h2;refine⟨h1,by simpa[Array.getD,hl]using h2.1,fun o ho' e he hb=>?_⟩
  rw[ho]at ho'; injection ho' with ho'; subst ho'
  rcases h2.2 e (by simpa using he)with h|h
  ·rw[hb]at h; cases h
  ·exact h
 ·rintro⟨h1,h2,h3⟩;have hl:i<listed.size:=by rw[hs]; exact h1
  have ho:ops[i]? = some ops[i]:=Array.getElem?_eq_getElem h1;refine⟨h1,?_⟩;rw[ho];simp only[Option.map_some,Option.getD_some,bA,Bool.not_eq_true',Array.all_eq_true',Bool.or_eq_true];refine⟨by simpa[Array.getD,hl]using h2,fun e he=>?_⟩
  cases hb:Region.binds .any e with
  | false=>exact .inl rfl
  | true=>exact .inr (h3 _ ho e (by simpa using he) hb)
theorem zW{ops:Array Oper}{listed:Array Bool}(hs:listed.size=ops.size)(hlt:∀ (i:Nat) (o:Oper),ops[i]? = some o → ∀ e,e∈o.after.toList→Region.binds .any e=true→e.on<i)
 (hr:Region.ready .any ops listed=[]):∀ i,i<ops.size→listed.getD i false=true:=by
 intro i
 induction i using Nat.strongRecOn with
 | ind i ih=>
  intro hi;cases hl:listed.getD i false with
  | true=>rfl
  | false=>
   have:i∈Region.ready .any ops listed:=(YX hs).2 ⟨hi,hl,fun o ho e he hb=>ih e.on (hlt i o ho e he hb) (by have:=hlt i o ho e he hb; omega)⟩
   rw[hr]at this;simp at this
theorem Nj{listed:Array Bool}{i:Nat}(hs:i<listed.size)(j:Nat):(listed.setIfInBounds i true).getD j false=if i=j then true else listed.getD j false:=by
 rw[Array.getD_eq_getD_getElem?,Array.getD_eq_getD_getElem?,Array.getElem?_setIfInBounds];by_cases h:i=j
 ·subst h; simp[hs]
 ·simp[h]
theorem x9{listed:Array Bool}{n i:Nat}(hi:i<n)(hs:i<listed.size)(hl:listed.getD i false=false) :
 ((List.range n).filter fun j=>!(listed.setIfInBounds i true).getD j false).length<((List.range n).filter fun j=>!listed.getD j false).length:=by
 have e1:((List.range n).filter fun j=>!(listed.setIfInBounds i true).getD j false)=(((List.range n).filter fun j=>!listed.getD j false).filter fun j=>!(listed.setIfInBounds i true).getD j false):=by
  rw[List.filter_filter];refine List.filter_congr fun j _=>?_
  rw[Nj hs];by_cases hji:i=j
  ·subst hji;simp
  ·simp[hji]
 rw[e1];refine List.length_filter_lt_length_iff_exists.2 ⟨i,?_,?_⟩
 ·rw[List.mem_filter,mR];exact⟨hi,by simp[hl]⟩
 ·rw[Nj hs]; simp
section
variable {P:Program} {base:Nat} {as:List Af} {t0:List Aa} {m0:Mem} {T:Nat→List Aa} {M:Nat→Mem} {V:Nat→Aa} {F:Nat→FT} {ops:Array Oper} {Bj:List (List Nat)}
structure MA (as:List Af) (F:Nat→FT) (Bj:List (List Nat)):Prop where
 slots:∀ i j x y,j<i→as[i]? = some x→as[j]? = some y→j∉Bj.getD i []→(∀ d,y.dst=some d→d∉x.looks∧x.dst≠some d) ∧ ∀ d,x.dst=some d→d∉y.looks
 mem:∀ i j x y,j<i→as[i]? = some x→as[j]? = some y→j∉Bj.getD i []→(∀ c,(F j).W c=true→(F i).R c=false∧(F i).W c=false)∧(∀ c,(F j).R c=true→(F i).W c=false)∧((F j).Dy=true→(F i).Dy=false)
theorem pX{b:Af}{x:Ah}{t t':List Aa}(h:∀ s,s∈b.looks→t.getD s Aj=t'.getD s Aj)(hx:x∈b.op.AJ):ev t x=ev t' x:=by
 cases x with
 | tmp i=>
  simp only[ev];refine h i ?_;unfold Af.looks;exact List.mem_append_left _ (List.mem_filterMap.2 ⟨_,hx,rfl⟩)
 | const v=>rfl
 | fn f=>rfl
theorem bL{b:Af}{t t':List Aa}(h:∀ s,s∈b.looks→t.getD s Aj=t'.getD s Aj):T9 t b.guard=T9 t' b.guard:=by
 unfold T9;cases hg:b.guard with
 | none=>rfl
 | some dw=>
  obtain⟨d,w⟩:=dw;simp only;rw[h d (by unfold Af.looks; rw[hg]; simp)]
theorem Z8i(W:Ap)(n0:Nat)(Q:Exit→AO→Prop)(Ed:Ao)(Da:AD)(hb0:n0≤base)(hsz:as.length=ops.size)
 (hres:∀ (i:Nat) (o:Oper) (b:Af),ops[i]? = some o→as[i]? = some b→b.dst=o.dst∧b.op=Q0 P o∧A3 ops o.guard=some b.guard)
 (hlt:∀ (i:Nat) (o:Oper),ops[i]? = some o → ∀ e,e∈o.after.toList→Region.binds .any e=true→e.on<i)
 (hpre:∀ (i j:Nat) (o:Oper),ops[i]? = some o→j∈Bj.getD i [] → ∃ e,e∈o.after.toList∧Region.binds .any e=true∧(e.on=j∨j∈Bj.getD e.on []))
 (htr:Trace P base as t0 m0 T M V F) (hlo:MA as F Bj) (hQ:Q .normal ⟨T as.length,M as.length⟩) (Dz:base+as.length≤m0.next) :
 ∀(fuel:Nat) (listed:Array Bool) (t:List Aa) (m:Mem) (Φ:Ao) (ρ:AD) (a:Act) (w:World),listed.size=ops.size →
  ((List.range ops.size).filter fun j=>!listed.getD j false).length≤fuel→(∀ i j,listed.getD i false=true→j∈Bj.getD i []→listed.getD j false=true) →
  BF as t0 m0 M V F (fun j=>listed.getD j false) t m→Rel W Φ ρ m w→RL Φ ρ t a.tmps→a.defers=[]→Ext Ed Da Φ ρ→Bl n0 Da ρ →
  (∀ i,i<as.length→listed.getD i false=false→ρ (base+i)=none)→wpAny P .any ops (lift W Ed Da n0 Q) fuel listed a w:=by
 have fin:∀ (listed:Array Bool) (t:List Aa) (m:Mem) (Φ:Ao) (ρ:AD) (a:Act) (w:World),listed.size=ops.size→Region.ready .any ops listed=[] →
  BF as t0 m0 M V F (fun j=>listed.getD j false) t m→Rel W Φ ρ m w→RL Φ ρ t a.tmps→a.defers=[]→Ext Ed Da Φ ρ→Bl n0 Da ρ→lift W Ed Da n0 Q .normal a w:=by
  intro listed t m Φ ρ a w hs hr hst hrel ht hd he hk;have hall:=zW hs hlt hr;have h1:=Sl hst (D':=fun j=>decide (j<as.length)) fun j hj=>by rw[hall j (by rw[← hsz]; exact hj)]; simp[hj]
  have h2:=Yh htr as.length (lR _);have e1:t=T as.length:=by
   apply List.ext_getElem?;intro x;rcases lG x t0.length with hx|hx
   ·rw[h1.tmp x hx,h2.tmp x hx]
   ·rw[List.getElem?_eq_none (by rw[h1.len]; exact hx),List.getElem?_eq_none (by rw[h2.len]; exact hx)]
  have e2:m=M as.length:=Mem.ext' (fun c=>by rw[h1.mem c,h2.mem c]) (by rw[h1.next,h2.next])
  subst e1; subst e2;have:=mQ htr h2;exact⟨_,Φ,ρ,he,hk,by show n0≤(M as.length).next; omega,hrel,ht,hd,hQ⟩
 intro fuel
 induction fuel with
 | zero=>
  intro listed t m Φ ρ a w hs hc Cm hst hrel ht hd he hk hfr;have hnil:Region.ready .any ops listed=[]:=by
   cases hr:Region.ready .any ops listed with
   | nil=>rfl
   | cons i r=>
    exfalso;obtain⟨h1,h2,_⟩:=(YX hs).1 (by rw[hr]; simp:i∈Region.ready .any ops listed)
    have:i∈(List.range ops.size).filter fun j=>!listed.getD j false:=List.mem_filter.2 ⟨mR.2 h1,by simp[h2]⟩
    have:=List.length_pos_of_mem this;omega
  exact⟨hnil,fin listed t m Φ ρ a w hs hnil hst hrel ht hd he hk⟩
 | succ fuel ih=>
  intro listed t m Φ ρ a w hs hc Cm hst hrel ht hd he hk hfr;refine⟨fun hnil=>fin listed t m Φ ρ a w hs hnil hst hrel ht hd he hk,fun i hi=>?_⟩
  obtain⟨hi1,hi2,hi3⟩:=(YX hs).1 hi;have hia:i<as.length:=by rw[hsz]; exact hi1
  have ho:ops[i]? = some ops[i]:=Array.getElem?_eq_getElem hi1;have hb:as[i]? = some as[i]:=gE hia;generalize ops[i]=o at ho;generalize as[i]=b at hb;obtain⟨e1,e2,e3⟩:=hres i o b ho hb;have hpin:∀ j,j∈Bj.getD i []→listed.getD j false=true:=by
   intro j hj;obtain⟨e,he1,he2,hej⟩:=hpre i j o ho hj;have hon:=hi3 o ho e he1 he2;rcases hej with rfl|hej
   ·exact hon
   ·exact Cm _ _ hon hej
  have hl:∀ (j:Nat) (c:Af),j≠i→listed.getD j false≠decide (j<i)→as[j]? = some c → ∀ d,c.dst=some d→d∉b.looks:=by
   intro j c hji hD hcj d hdj;rcases Nat.lt_or_gt_of_ne hji with hlt'|hgt
   ·have hDj:listed.getD j false=false:=by
     cases hq:listed.getD j false with
     | false=>rfl
     | true=>rw[hq]at hD; simp[hlt']at hD
    exact((hlo.slots i j b c hlt' hb hcj (fun hp=>by rw[hpin j hp]at hDj; cases hDj)).1 d hdj).1
   ·have hDj:listed.getD j false=true:=by
     cases hq:listed.getD j false with
     | true=>rfl
     | false=>rw[hq]at hD; simp[show ¬j<i by omega]at hD
    exact(hlo.slots j i c b hgt hcj hb (fun hp=>by rw[Cm j i hDj hp]at hi2; cases hi2)).2 d hdj
  have out:∀ (j:Nat),j<as.length→j≠i→listed.getD j false≠decide (j<i) →
   (∀ c,(F j).W c=true→(F i).R c=false∧(F i).W c=false)∧((F j).Dy=true→(F i).Dy=false):=by
   intro j hj hji hD;have hy:as[j]? = some as[j]:=gE hj;rcases Nat.lt_or_gt_of_ne hji with hlt'|hgt
   ·have hDj:listed.getD j false=false:=by
     cases hq:listed.getD j false with
     | false=>rfl
     | true=>rw[hq]at hD; simp[hlt']at hD
    obtain⟨h1,_,h3⟩:=hlo.mem i j b _ hlt' hb hy (fun hp=>by rw[hpin j hp]at hDj; cases hDj)
    exact⟨h1,h3⟩
   ·have hDj:listed.getD j false=true:=by
     cases hq:listed.getD j false with
     | true=>rfl
     | false=>rw[hq]at hD; simp[show ¬j<i by omega]at hD
    obtain⟨h1,h2,h3⟩:=hlo.mem j i _ b hgt hy hb (fun hp=>by rw[Cm j i hDj hp]at hi2; cases hi2)
    refine⟨fun c hc=>⟨?_,?_⟩,fun hc=>?_⟩
    ·cases hq:(F i).R c with
     | false=>rfl
     | true=>rw[h2 c hq]at hc; cases hc
    ·cases hq:(F i).W c with
     | false=>rfl
     | true=>rw[(h1 c hq).2]at hc; cases hc
    ·cases hq:(F i).Dy with
     | false=>rfl
     | true=>rw[h3 hq]at hc; cases hc
  have hm:∀ (j c:Nat),j<as.length→j≠i→listed.getD j false≠decide (j<i)→((F i).R c=true∨(F i).W c=true)→(F j).W c=false:=by
   intro j c hj hji hD He;cases hw:(F j).W c with
   | false=>rfl
   | true=>
    obtain⟨h1,h2⟩:=(out j hj hji hD).1 c hw;rcases He with h|h
    ·rw[h1]at h; cases h
    ·rw[h2]at h; cases h
  have CM:∀ (j:Nat),j<as.length→j≠i→listed.getD j false≠decide (j<i)→(F i).Dy=true→(F j).Dy=false:=by
   intro j hj hji hD hc;cases hw:(F j).Dy with
   | false=>rfl
   | true=>rw[(out j hj hji hD).2 hw]at hc; cases hc
  have hseq:=Yh htr i (by omega)
  obtain⟨hag,hmm,hnn⟩:=Z9f hst hseq hi2 hl hm CM;have hadv1:∀ (j:Nat) (c:Af),i<j→listed.getD j false=true→as[j]? = some c → ∀ d,b.dst=some d→c.dst≠some d:=fun j c hij hDj hcj d hd'=>
   ((hlo.slots j i c b hij hcj hb (fun hp=>by rw[Cm j i hDj hp]at hi2; cases hi2)).1 d hd').2
  have hadv2:∀ (j c:Nat),i<j→j<as.length→listed.getD j false=true→(F i).W c=true→(F j).W c=false:=fun j c hij hj hDj He=>hm j c hj (by omega) (by rw[hDj]; simp; omega) (.inr He)
  have hadv3:∀ (j:Nat),i<j→j<as.length→listed.getD j false=true→(F i).Dy=true→(F j).Dy=false:=fun j hij hj hDj He=>CM j hj (by omega) (by rw[hDj]; simp; omega) He
  have hmn:=mQ htr hst;obtain⟨_,hstep⟩:=htr.step i b hb;have hls:i<listed.size:=by rw[hs]; exact hi1
  have hset:∀ j,(listed.setIfInBounds i true).getD j false=(listed.getD j false||j == i):=by
   intro j;rw[Nj hls];by_cases hji:i=j
   ·subst hji; simp
   ·have:(j == i)=false:=beq_false_of_ne fun e=>hji e.symm
    simp[hji,this]
  have hcnt:((List.range ops.size).filter fun j=>!(listed.setIfInBounds i true).getD j false).length≤fuel:=by
   have:=x9 (listed:=listed) (n:=ops.size) hi1 hls hi2;omega
  have hcl':∀ i' j,(listed.setIfInBounds i true).getD i' false=true→j∈Bj.getD i' []→(listed.setIfInBounds i true).getD j false=true:=by
   intro i' j h1 h2;rw[hset]at h1 ⊢;by_cases hii:i'=i
   ·subst hii;rw[hpin j h2]; rfl
   ·rw[beq_false_of_ne hii,Bool.or_false]at h1;rw[Cm i' j h1 h2]; rfl
  have hfr':∀ (ρ':AD),(∀ c,c<m.next→c≠base+i→ρ c=none→ρ' c=none) → ∀ i',i'<as.length→(listed.setIfInBounds i true).getD i' false=false→ρ' (base+i')=none:=by
   intro ρ' hρ i' hi' hl';rw[hset]at hl';have hne:i'≠i:=fun e=>by subst e; simp at hl'
   rw[beq_false_of_ne hne,Bool.or_false]at hl';exact hρ _ (by omega) (by omega) (hfr i' hi' hl')
  have next:∀ (m':Mem) (Am:Ao) (ρ':AD) (u:Value) (w':World),Ext Φ ρ Am ρ'→(∀ c,c<m.next→c≠base+i→ρ c=none→ρ' c=none)→Rel W Am ρ' m' w'→R Am ρ' (V i) u →
   (∀ c,(F i).W c=false→m'.get c=m.get c)→(∀ c,(F i).W c=true→m'.get c=(M (i+1)).get c)→((F i).Dy=true→m'.next=(M (i+1)).next)→((F i).Dy=false→m'.next=m.next) →
   wpAny P .any ops (lift W Ed Da n0 Q) fuel (listed.setIfInBounds i true) (a.put o.dst u) w':=by
   intro m' Am ρ' u w' hE hρ hr' hx hout hin hnx1 hnx0;refine ih (listed.setIfInBounds i true) (put t b.dst (V i)) m' Am ρ' _ w' (by simpa using hs) hcnt hcl' ?_ hr' (by rw[← e1]; exact(ht.ext hE).put b.dst hx) (by rw[Iv]; exact hd) (he.trans hE)
    (fun c hc h0=>hρ c (by omega) (by omega) (hk c hc h0)) (hfr' ρ' hρ)
   exact Sl (rG hst hb hadv1 hadv2 hadv3 hout hin hnx1 hnx0) fun j _=>(hset j).symm
  have hni:=hfr i hia hi2;have hlt':base+i<m.next:=by omega
  unfold wpOp;rw[ho];simp only;rcases hstep with⟨hw,hV,hM,hF⟩|⟨hw,_,⟨f,xs,g,args,wl,x,hop,Bf,hF,m3,hid,c1,c2,c3,c4,c5,hA⟩|⟨hs',hF⟩⟩
  ·rw[Ly ht e3 (by rw[bL hag]; exact hw),iN (by simp)]
   exact next m Φ ρ undef w (.refl _ _) (fun _ _ _ h=>h) hrel (by rw[hV]; exact LP _ _) (fun _ _=>rfl) (fun c hc=>by rw[hF]at hc; cases hc) (fun hc=>by rw[hF]at hc; cases hc) (fun _=>rfl)
  ·rw[Ly ht e3 (by rw[bL hag]; exact hw),iP rfl]
   refine .inl ?_;have hcal':callee t f xs=some (g,args):=by
    rw[Z3w (t2:=T i) fun x hx=>pX hag (by rw[hop]; exact hx)]
    exact Bf
   have hnn':m.next=(M i).next:=hnn (by rw[hF]; rfl)
   have Fm:∀ c,c∉x→m.get c=(M i).get c:=fun c hc=>hmm c (.inl (by rw[hF]; simp[FT.R,hc]))
   ·have hA2:=tf hid c1 c2 hA Fm hnn';refine cM ht hrel hni hlt' o (by rw[← e2]; exact hop) hcal' hA2 fun Am ρ' y m' u w' hE hfr2 hr' hx hnx' hK=>?_
    obtain⟨rfl,rfl⟩:=hK;refine next _ Am ρ' u w' hE hfr2 hr' hx (fun c hc=>?_) (fun c hc=>?_) (fun _=>c3.symm) (fun hc=>by rw[hF]at hc; cases hc)
    ·simp only;by_cases hcx:c∈x
     ·rw[iP hcx]
     ·rw[iN hcx,Fm c hcx];rw[hF]at hc;simp only[FT.W,Bool.or_eq_false_iff,decide_eq_false_iff_not,Nat.not_le]at hc;exact c5 c (fun hm=>by rw[List.contains_iff_mem.2 hm]at hc; cases hc.1) hc.2 hcx
    ·simp only;rw[c4 c];by_cases hcx:c∈x
     ·rw[iP hcx,iP hcx]; exact hmm c (.inr hc)
     ·rw[iN hcx,iN hcx]
  ·rw[Ly ht e3 (by rw[bL hag]; exact hw),iP rfl]
   refine .inl ?_;have hev:∀ x,x∈b.op.AJ→ev t x=ev (T i) x:=fun x hx=>pX hag hx
   obtain⟨m2,hs2,hsame⟩:=aY (m2:=m) (fun c hc=>hmm c (.inl (by rw[hF]; simp[FT.R,hc]))) (fun c hc=>hmm c (.inr (by rw[hF]; simp[FT.W,hc]))) hs'
   rw[← uh hev,e2]at hs2;refine Wx ht hrel hni hlt' o hs2 fun Am ρ' u w' hE hfr2 hr' hx=>?_
   refine next m2 Am ρ' u w' hE (fun c _ hne h0=>hfr2 c hne h0) hr' hx (fun c hc=>hsame.Qo c fun hm=>?_) (fun c hc=>hsame.ins c ?_) (fun hc=>by rw[hF]at hc; cases hc) (fun _=>hsame.n2)
   ·rw[hF]at hc; simp only[FT.W]at hc; rw[List.contains_iff_mem.2 hm]at hc; cases hc
   ·rw[hF]at hc; simp only[FT.W,List.contains_iff_mem]at hc; exact hc
end
end Go.AE
end
section
namespace Go.AE
open Go.RowKit
variable {P:Program}
theorem xk{ops:Array Oper}{as:List Af}{Bj:List (List Nat)}(h:SZ ops as Bj=true) :
 (∀(i:Nat) (o:Oper),ops[i]? = some o → ∀ e,e∈o.after.toList→Region.binds .any e=true→e.on<i) ∧
 ∀(i j:Nat) (x y:Af),j<i→i<ops.size→as[i]? = some x→as[j]? = some y→j∉Bj.getD i []→y.apart x=true:=by
 unfold SZ at h;simp only[bA,List.all_eq_true,mR]at h;obtain⟨h1,h2⟩:=h;refine⟨fun i o ho e he hb=>?_,fun i j x y hji hi hx hy hp=>?_⟩
 ·have hi:i<ops.size:=(Array.getElem?_eq_some_iff.1 ho).1;have:=h1 i hi;rw[ho]at this;simp only[List.all_eq_true,Bool.or_eq_true,Bool.not_eq_true',decide_eq_true_eq]at this;rcases this e he with h|h
  ·rw[hb]at h; cases h
  ·exact h
 ·have:=h2 i hi j hji;simp only[Bool.or_eq_true,List.contains_iff_mem]at this;rcases this with h|h
  ·exact absurd h hp
  ·rw[hx,hy]at h;exact h
theorem Z7s{x y:Af}(h:x.apart y=true):(∀ d,x.dst=some d→d∉y.looks∧y.dst≠some d) ∧ ∀ d,y.dst=some d→d∉x.looks:=by
 unfold Af.apart at h;simp only[bA]at h;obtain⟨h1,h2⟩:=h;refine⟨fun d hd=>?_,fun d hd=>?_⟩
 ·rw[hd]at h1;simp only[bA,Bool.not_eq_true',bne_iff_ne]at h1;exact⟨fun hm=>by rw[List.contains_iff_mem.2 hm]at h1; exact absurd h1.1 (by simp),h1.2⟩
 ·rw[hd]at h2;simp only[Bool.not_eq_true']at h2;exact fun hm=>by rw[List.contains_iff_mem.2 hm]at h2; cases h2
theorem YK(hm:P.follows .mixedOrders=true){id:Nat}{ops:Array Oper}{Q:Exit→AO→Prop}{σ:AO}(h:Cy P (Y5 P (.region id ops true)) Q σ):Ip P (.region id ops true) Q σ:=by
 intro W Φ ρ a w hr ht hd;simp only[Y5]at h;cases hc:I1 P ops ops.toList with
 | none=>simp[hc,Cy]at h
 | some as0=>
  simp only[hc]at h;split at h
  ·rename_i hok;simp only[Cy]at h;obtain⟨h1,h2⟩:=Tk P ops _ _ hc;obtain⟨hlt,hap⟩:=xk hok;generalize has:FO as0 (IF ops.toList) 0 as0=as at h;have hlen:as.length=ops.size:=by rw[← has,sC,h1]; simp
   have hget:∀ (i:Nat) (b:Af),as[i]? = some b → ∃ b0,as0[i]? = some b0∧b=⟨b0.dst,b0.op,b0.guard,XE as0 (IF ops.toList) i b0.op⟩:=by
    intro i b hb;rw[← has,oP,Nat.zero_add]at hb;cases h0:as0[i]? with
    | none=>rw[h0]at hb; cases hb
    | some b0=>
     rw[h0]at hb;injection hb with hb
     exact⟨b0,rfl,hb.symm⟩
   obtain⟨T,M,V,F,htr,hQ⟩:=zI h;have hlo:MA as F (IF ops.toList):=by
    refine⟨fun i j x y hji hx hy hp=>?_,fun i j x y hji hx hy hp=>?_⟩
    ·obtain⟨x0,hx0,rfl⟩:=hget i x hx;obtain⟨y0,hy0,rfl⟩:=hget j y hy;have hi:i<ops.size:=by rw[← hlen]; exact(gS.1 hx).1
     exact Z7s (hap i j x0 y0 hji hi hx0 hy0 hp)
    ·obtain⟨_,_,_,hky,hky1⟩:=Xg htr hy;obtain⟨_,_,_,hkx,hkx1⟩:=Xg htr hx;have quietL:F j=.ops [] []→(∀ c,(F j).W c=true→(F i).R c=false∧(F i).W c=false)∧(∀ c,(F j).R c=true→(F i).W c=false)∧((F j).Dy=true→(F i).Dy=false):=by
      intro e; rw[e];exact⟨fun c hc=>(by cases hc),fun c hc=>(by cases hc),fun hc=>(by cases hc)⟩
     have quietR:F i=.ops [] []→(∀ c,(F j).W c=true→(F i).R c=false∧(F i).W c=false)∧(∀ c,(F j).R c=true→(F i).W c=false)∧((F j).Dy=true→(F i).Dy=false):=by
      intro e; rw[e];exact⟨fun c _=>⟨rfl,rfl⟩,fun c _=>rfl,fun _=>rfl⟩
     by_cases hk:y.op.kind≤1∧x.op.kind≤1
     ·refine⟨fun c hc=>?_,fun c _=>hkx1 hk.2 c,fun hc=>?_⟩
      ·rw[hky1 hk.1 c]at hc; cases hc
      ·cases hq:(F i).Dy with
       | false=>rfl
       | true=>
        cases hF:F i with
        | ops w r=>rw[hF]at hq; cases hq
        | call wl xx nx=>
         have:=hkx1 hk.2 nx;rw[hF]at this;simp[FT.W]at this
     ·by_cases hy0:y.op.kind=0
      ·exact quietL (hky hy0)
      ·by_cases hx0:x.op.kind=0
       ·exact quietR (hkx hx0)
       ·obtain⟨_,hs⟩:=htr.step i x hx;rcases hs with⟨_,_,_,hF⟩|⟨_,hun,_⟩
        ·exact quietR hF
        ·refine FT.GJ (hun j ?_ hji);obtain⟨x1,hx1,rfl⟩:=hget i x hx;obtain⟨y1,hy1,rfl⟩:=hget j y hy;simp only at hk hy0 hx0 ⊢;unfold XE;rw[List.mem_filter,mR];refine⟨hji,?_⟩;rw[hy1];simp only[bA,Bool.not_eq_true',bne_iff_ne,ne_eq];refine⟨?_,⟨?_,hy0⟩,hx0⟩
         ·cases hq:((IF ops.toList).getD i []).contains j with
          | false=>rfl
          | true=>exact absurd (List.contains_iff_mem.1 hq) hp
         ·cases hq:(decide (y1.op.kind≤1)&&decide (x1.op.kind≤1))with
          | false=>rfl
          | true=>simp at hq; exact absurd hq hk
   have hres:∀ (i:Nat) (o:Oper) (b:Af),ops[i]? = some o→as[i]? = some b→b.dst=o.dst∧b.op=Q0 P o∧A3 ops o.guard=some b.guard:=by
    intro i o b ho hb;obtain⟨b0,hb0,rfl⟩:=hget i b hb;exact h2 i o b0 (by simpa using ho) hb0
   refine wp_region_any hm (Z8i W σ.m.next Q Φ ρ (lR _) hlen hres hlt (fun i j o ho hj=>yc (by simpa using ho) hj) htr hlo hQ (by simp) ops.size (Array.replicate ops.size false) σ.t _ Φ ρ a _
    (by simp) ?_ ?_ ?_ ((hr.at_ (n:=σ.m.next+as.length) (by omega)).drew) ht hd (.refl _ _) (.refl _ _) ?_)
   ·have:=List.length_filter_le (fun j=>!(Array.replicate ops.size false).getD j false) (List.range ops.size)
    simpa using this
   ·intro i j hi;simp[Array.getD]at hi
   ·refine Sl wM fun j _=>?_
    simp[Array.getD]
   ·intro j _ _;cases hq:ρ (σ.m.next+j)with
    | none=>rfl
    | some l=>have:=hr.fresh _ _ hq; omega
  ·simp[Cy]at h
theorem SV(hm:P.follows .mixedOrders=true)(c:Code)(Q:Exit→AO→Prop)(σ:AO)(h:Cy P (Y5 P c) Q σ):Ip P c Q σ:=
 Z6v (fun _ _ draw _ _ h=>match draw,h with|false,h=>rC h|true,h=>YK hm h) c Q σ h
end Go.AE
end
section
namespace Go.AE
open Go.RowKit
variable {P:Program}
def A7(t:List Aa)(m:Mem):Nat×Option (Option Nat)→Option Aa
 | (i,none)=>some (t.getD i Aj)
 | (i,some n)=>JJ m n (t.getD i Aj)
def E7(t:List Aa)(m:Mem):List (Nat×Option (Option Nat))→Option (List Aa)
 | []=>some []
 | x :: r=>match A7 t m x,E7 t m r with
  | some y,some ys=>some (y :: ys)
  | _,_=>none
def M2(t:List Aa)(m:Mem):List (Nat×Option (Option Nat))→Option Aa
 | [x]=>A7 t m x
 | xs=>match E7 t m xs with
  | some ys=>some (.tuple ys)
  | none=>none
def Fb(rs:List (Nat×Option (Option Nat)))(K:Aa→Mem→Prop):Exit→AO→Prop
 | .normal,σ=>match M2 σ.t σ.m rs with
  | some r=>K r σ.m
  | none=>False
 | .ret,σ=>match M2 σ.t σ.m rs with
  | some r=>K r σ.m
  | none=>False
 | _,_=>False
section
variable {W:Ap} {Φ:Ao} {ρ:AD} {w:World} {m:Mem} {t:List Aa} {vs:Array Value}
theorem zP(hr:Rel W Φ ρ m w)(ht:RL Φ ρ t vs){x:ResultVar}{y:Nat×Option (Option Nat)}(hx:Sr P x=some y){z:Aa}(hz:A7 t m y=some z) :
 ∃ u,(match x with | .tmp t=>pure (vs.getD t undef) | .cell a t=>do loadVar t (← asAddr (vs.getD a undef)):Sem Value).run P w=.ok u w∧R Φ ρ z u:=by
 cases x with
 | tmp i=>
  simp only[Sr,oI]at hx;subst hx;simp only[A7,oI]at hz;subst hz;exact⟨_,rfl,ht.get i⟩
 | cell a ty=>
  simp only[Sr,mO]at hx;obtain⟨n,hn,rfl⟩:=hx;simp only[A7]at hz;have hR:=ht.get a;obtain⟨u,h1,h2⟩:=mD hr hR hn hz;refine⟨u,?_,h2⟩;unfold JJ at hz;cases hrow:IB m (t.getD a Aj)with
  | none=>rw[hrow]at hz; cases hz
  | some rj=>
   obtain⟨row,j⟩:=rj;obtain⟨B,o,c,e,fz,hv,hB,_⟩:=qR hr hR hrow;simp only[hv,Instr.loadAt,Instr.sureAddr,Sem.run_bind,Sem.run_pure,Result.andThen_ok,asAddr]at h1 ⊢;exact h1
def SN(vs:Array Value)(x:ResultVar):Sem Value:=
 match x with
 | .tmp t=>pure (vs.getD t undef)
 | .cell a t=>do loadVar t (← asAddr (vs.getD a undef))
theorem vI(hr:Rel W Φ ρ m w)(ht:RL Φ ρ t vs):∀ (xs:List ResultVar) (ys:List (Nat×Option (Option Nat))) (zs:List Aa),Hu P xs=some ys→E7 t m ys=some zs →
 ∃ us:List Value,(xs.mapM (SN vs)).run P w=.ok us w∧us.length=zs.length∧zs.length=ys.length ∧ ∀(i:Nat) (z:Aa) (u:Value),zs[i]? = some z→us[i]? = some u→R Φ ρ z u
 | [],ys,zs,hx,hz=>by
  simp only[Hu,oI]at hx;subst hx;simp only[E7,oI]at hz;subst hz;exact⟨[],rfl,rfl,rfl,fun i z u h=>by simp at h⟩
 | x :: xs,ys,zs,hx,hz=>by
  simp only[Hu]at hx;cases hy:Sr P x with
  | none=>simp[hy]at hx
  | some y=>
   cases hys:Hu P xs with
   | none=>simp[hy,hys]at hx
   | some ys'=>
    simp only[hy,hys,oI]at hx;subst hx;simp only[E7]at hz;cases DJ:A7 t m y with
    | none=>simp[DJ]at hz
    | some z=>
     cases hz2:E7 t m ys' with
     | none=>simp[DJ,hz2]at hz
     | some zs'=>
      simp only[DJ,hz2,oI]at hz;subst hz;obtain⟨u,h1,h2⟩:=zP hr ht hy DJ;obtain⟨us,h3,h4,h5,h6⟩:=vI hr ht xs ys' zs' hys hz2;refine⟨u :: us,?_,by simp[h4],by simp[h5],fun i z' u' hz' PA=>?_⟩
      ·rw[List.mapM_cons];have h1':(SN vs x).run P w=.ok u w:=h1;simp only[Sem.run_bind,h1',h3,Result.andThen_ok,Sem.run_pure]
      ·cases i with
       | zero=>
        simp only[List.getElem?_cons_zero,oI]at hz' PA;subst hz'; subst PA;exact h2
       | succ i=>
        simp only[List.getElem?_cons_succ]at hz' PA;exact h6 i z' u' hz' PA
theorem QB(hr:Rel W Φ ρ m w)(ht:RL Φ ρ t vs){fn:Func}{ys:List (Nat×Option (Option Nat))}{z:Aa}(hx:Hu P fn.results.toList=some ys)(hz:M2 t m ys=some z) :
 ∃ u,(results fn vs).run P w=.ok u w∧R Φ ρ z u:=by
 have hrun:∀ us:List Value,(fn.results.toList.mapM (SN vs)).run P w=.ok us w→(results fn vs).run P w=.ok (if h:us.toArray.size=1 then us.toArray[0]else .tuple us.toArray) w:=by
  intro us h;have he:results fn vs=(do let us ← fn.results.mapM (SN vs); pure (if h:us.size=1 then us[0]else .tuple us):Sem Value):=by
   unfold results;have:(fun x:ResultVar=>(match x with | .tmp t=>pure (vs.getD t undef) | .cell a t=>do loadVar t (← asAddr (vs.getD a undef)):Sem Value))=SN vs:=by
    funext x; cases x<;>rfl
   rw[← this];rfl
  rw[he,Array.mapM_eq_mapM_toList];simp only[Sem.run_bind,Sem.run_map,h,Result.andThen_ok,Sem.run_pure]
 have hz':∃ zs,E7 t m ys=some zs∧(z=match zs with|[x]=>x|_=>.tuple zs):=by
  unfold M2 at hz;split at hz
  ·rename_i x;exact⟨[z],by simp[E7,hz],rfl⟩
  ·split at hz<;>first|(cases hz; done)|skip
   rename_i hne _ zs hzs;injection hz with hz
   refine⟨zs,hzs,?_⟩;subst hz;cases zs with
   | nil=>rfl
   | cons a r=>
    cases r with
    | nil=>
     exfalso;have hl:ys.length=1:=by
      have:∀ (l:List (Nat×Option (Option Nat))) (zs:List Aa),E7 t m l=some zs→zs.length=l.length:=by
       intro l
       induction l with
       | nil=>intro zs h; simp only[E7,oI]at h; subst h; rfl
       | cons x l ih=>
        intro zs h;simp only[E7]at h;split at h<;>first|(cases h; done)|skip
        rename_i y ys h1 h2;injection h with h; subst h
        simp[ih _ h2]
      simpa using (this _ _ hzs).symm
     cases ys with
     | nil=>simp at hl
     | cons y r=>cases r with
      | nil=>exact hne y rfl
      | cons _ _=>simp at hl
    | cons b r=>rfl
 obtain⟨zs,hzs,hze⟩:=hz';obtain⟨us,h1,h2,h3,h4⟩:=vI hr ht _ _ zs hx hzs;refine⟨_,hrun us h1,?_⟩;cases zs with
 | nil=>
  have:us=[]:=by simpa using h2
  subst this;subst hze;exact .tuple [] _ rfl fun i x v h=>by simp at h
 | cons z0 r=>
  cases r with
  | nil=>
   cases us with
   | nil=>simp at h2
   | cons u r=>
    cases r with
    | cons _ _=>simp at h2
    | nil=>
     subst hze;exact h4 0 _ u rfl rfl
  | cons z1 r=>
   subst hze;have hne:¬us.toArray.size=1:=by simp[h2]
   rw[dif_neg hne];exact .tuple _ _ (by simp[h2]) fun i x v hx hv=>h4 i x v hx (by simpa using hv)
end
theorem wm(hm:P.follows .mixedOrders=true){f:FuncId}{fn:Func}{af:Av}{args:List Aa}{m:Mem}{av:List Nat}{K:Aa→Mem→Prop}(hf:P.funcs[f]? = some fn)(hc:Bt P fn=some af)
 (h:Cy P af.body (Fb af.results K) ⟨args++List.replicate (af.ntmps - args.length) Aj,m⟩):Az P f args m av K:=by
 unfold Bt at hc;cases hb:fn.body with
 | none=>simp[hb]at hc
 | some c=>
  cases Ck:Hu P fn.results.toList with
  | none=>simp[hb,Ck]at hc
  | some rs=>
   simp only[hb,Ck]at hc;split at hc<;>first|(cases hc; done)|skip
   rename_i hname;injection hc with hc
   subst hc;refine⟨⟨fn,hf,by simpa using hname,by rw[hb]; rfl⟩,fun W Φ ρ vs w hr ha Ch=>?_⟩
   have ht:RL Φ ρ (args++List.replicate (fn.ntmps - args.length) Aj) (vs++Array.replicate (fn.ntmps - vs.size) undef):=by
    refine⟨by simp[ha.1],fun i x v hx hv=>?_⟩
    rw[List.getElem?_append]at hx;rw[Array.getElem?_append,ha.1]at hv;split at hx
    ·rename_i hlt;rw[iP hlt]at hv;exact ha.2 i x v hx hv
    ·rename_i hge;rw[iN hge]at hv;have e1:x=Aj:=by
      have:=gS.1 hx;obtain⟨_,hh⟩:=this;simpa using hh.symm
     have e2:v=undef:=by
      have:=Array.getElem?_eq_some_iff.1 hv;obtain⟨_,hh⟩:=this;simpa using hh.symm
     subst e1; subst e2;exact LP _ _
   have hs:=SV hm c (Fb rs K) ⟨_,m⟩ h W Φ ρ { tmps:=vs++Array.replicate (fn.ntmps - vs.size) undef,defers:=[] } w hr ht rfl;refine calls_of_wp hf hb (wp_mono hs fun e a w' hl=>?_)
   obtain⟨σ,Am,ρ',h1,h2,h3,h4,h5,h6,h7⟩:=hl;have fin:(match M2 σ.t σ.m rs with|some r=>K r σ.m|none=>False)→a.defers=[] ∧ ∃ v,(results fn a.tmps).run P w'=.ok v w' ∧
    ∃ v' r m' Am ρ',Ending.returned v=.returned v'∧Ext Φ ρ Am ρ'∧(∀ b,b<m.next→b∉av→ρ b=none→ρ' b=none)∧Rel W Am ρ' m' w'∧R Am ρ' r v'∧m.next≤m'.next∧K r m':=by
    intro hh;cases hz:M2 σ.t σ.m rs with
    | none=>simp[hz]at hh
    | some r=>
     simp only[hz]at hh;obtain⟨u,g1,g2⟩:=QB h4 h5 Ck hz;exact⟨h6,u,g1,u,r,σ.m,Am,ρ',rfl,h1,fun b hb _ h0=>h2 b hb h0,h4,g2,h3,hh⟩
   cases e with
   | normal=>exact fin h7
   | ret=>exact fin h7
   | exit i=>exact h7.elim
   | goto l=>exact h7.elim
   | panic ch=>exact h7.elim
   | outgrown=>exact h7.elim
theorem Az.mono{f:FuncId}{args:List Aa}{m:Mem}{av:List Nat}{K K':Aa→Mem→Prop}(h:Az P f args m av K)(hk:∀ r m',K r m'→K' r m'):Az P f args m av K':=
 ⟨h.1,fun W Φ ρ vs w hr ha Ch=>(h.2 W Φ ρ vs w hr ha Ch).mono fun e w' he=>by
  obtain⟨v,r,m',Am,ρ',h1,h2,h3,h4,h5,h6,h7⟩:=he;exact⟨v,r,m',Am,ρ',h1,h2,h3,h4,h5,h6,hk _ _ h7⟩⟩
end Go.AE
end
section
namespace Go.AE
open Go.RowKit
abbrev Of:=Bool→List Af→(AO→Prop)→AO→Prop
def U6(wr:Of)(sc:Bool):Aq→(Exit→AO→Prop)→AO→Prop
 | .skip,Q,σ=>Q .normal σ
 | .region d ops,Q,σ=>wr d ops (Q .normal) σ
 | .seq a b,Q,σ=>U6 wr sc a (SB (U6 wr sc b Q) Q) σ
 | .cond c a b,Q,σ=>match ev σ.t c with
  | .bool true=>U6 wr sc a Q σ
  | .bool false=>U6 wr sc b Q σ
  | _=>False
 | .block id c,Q,σ=>U6 wr sc c (Is id Q) σ
 | .loop c,Q,σ=>∃ (I:Nat→AO→Prop),(∃ n Fh,AO.Ex Fh σ∧I n Fh) ∧ ∀ n σ1,I n σ1→U6 wr sc c (SB (fun σ'=>∃ k Fh,k<n∧AO.Ex Fh σ'∧I k Fh) Q) σ1
 | .exit id,Q,σ=>Q (.exit id) σ
 | .scope c,Q,σ=>sc=true∧U6 wr sc c (Zn Q) σ
 | .label _,Q,σ=>Q .normal σ
 | .ret,Q,σ=>Q .ret σ
 | .bad,_,_=>False
def MQ(W:Ap)(D:List Deferred)(Φ:Ao)(ρ:AD)(n:Nat)(Q:Exit→AO→Prop)(e:Exit)(a:Act)(w:World):Prop:=
 ∃ σ Am ρ',Ext Φ ρ Am ρ'∧Bl n ρ ρ'∧n≤σ.m.next∧Rel W Am ρ' σ.m w∧RL Am ρ' σ.t a.tmps∧a.defers=D∧Q e σ
theorem sQ{W:Ap}{D:List Deferred}{Φ Am:Ao}{ρ ρ':AD}{n n':Nat}{Q:Exit→AO→Prop}{e:Exit}{a:Act}{w:World}(he:Ext Φ ρ Am ρ')(hk:Bl n ρ ρ')(hn:n≤n')
 (h:MQ W D Am ρ' n' Q e a w):MQ W D Φ ρ n Q e a w:=by
 obtain⟨σ,Ec,CZ,h1,h2,h3,h4,h5,h6,h7⟩:=h;exact⟨σ,Ec,CZ,he.trans h1,hk.trans h2 hn,Nat.le_trans hn h3,h4,h5,h6,h7⟩
theorem lE{W:Ap}{D:List Deferred}{Φ:Ao}{ρ:AD}{n:Nat}{Q Q':Exit→AO→Prop}{e:Exit}{a:Act}{w:World}(h:MQ W D Φ ρ n Q e a w)(hq:∀ σ,Q e σ→Q' e σ):MQ W D Φ ρ n Q' e a w:=by
 obtain⟨σ,Ec,CZ,h1,h2,h3,h4,h5,h6,h7⟩:=h;exact⟨σ,Ec,CZ,h1,h2,h3,h4,h5,h6,hq σ h7⟩
structure Open (F:Fence):Prop where
 fn:∀ f,F.fn f
 depth:F.depth=none
 alive:F.alive=false
theorem Open.wide:Open Fence.wide:=⟨fun _=>trivial,rfl,rfl⟩
theorem Open.round{F:Fence}(h:Open F)(l:Nat):Open (F.inRound l):=⟨h.fn,h.depth,h.alive⟩
abbrev Dn:=Ap→Ao→AD→Prop
def Dn.Gc(H:Dn):Prop:=∀ W Φ ρ Am ρ',H W Φ ρ→Ext Φ ρ Am ρ'→H W Am ρ'
def Gb(F:Fence)(n:Nat)(H:Dn)(D:List Deferred)(P:Program)(c:Code)(Q:Exit→AO→Prop)(σ:AO):Prop:=
 ∀(W:Ap) (Φ:Ao) (ρ:AD),H W Φ ρ → ∀(a:Act) (w:World),Rel W Φ ρ σ.m w→RL Φ ρ σ.t a.tmps→a.defers=D→c.wpIn F n P (MQ W D Φ ρ σ.m.next Q) a w
theorem Gb.Mx{n:Nat}{H:Dn}{P:Program}{c:Code}{Q:Exit→AO→Prop}{σ:AO}(h:Ip P c Q σ):Gb Fence.wide n H [] P c Q σ:=
 fun W Φ ρ _ a w hr ht hd=>wpIn_wide.2 (h W Φ ρ a w hr ht hd)
theorem vq{F:Fence}{rm:Nat}{P:Program}{Q:Exit→Act→World→Prop}{a:Act}{w:World}{c:Code}(I:Nat→Act→World→Prop)(k:Nat)(hk:I k a w)
 (step:∀ k a w,I k a w→c.wpIn F rm P (Exit.then (fun a' w'=>∃ j,j<k∧I j a' w') Q) a w):(Code.loop c).wpIn F rm P Q a w:=by
 have hl:∀ a w,(∃ k,I k a w)→I (leastOf fun k=>I k a w) a w ∧ ∀ j,I j a w→leastOf (fun k=>I k a w)≤j:=fun a w h=>leastOf_spec h
 apply wpIn_loop (fun a w=>∃ k,I k a w) (fun a w=>leastOf fun k=>I k a w) ⟨k,hk⟩
 intro a w h;apply wpIn_mono (step _ a w (hl a w h).1);rintro(_|_|_|_|_|_) a' w' hq<;>try exact hq
 obtain⟨j,hj,hI⟩:=hq;have:=(hl a' w' ⟨j,hI⟩).2 j hI;exact⟨⟨j,hI⟩,show leastOf (fun k=>I k a' w')<leastOf (fun k=>I k a w) by omega⟩
section
variable {F:Fence} {n:Nat} {H:Dn} {D:List Deferred} {P:Program} {wr:Of} {sc:Bool}
theorem qH(BQ:H.Gc)(hsc:sc=true → ∀(c:Code) (Q:Exit→Act→World→Prop) (a:Act) (w:World),c.wpIn F n P (Exit.noGoto Q) a w→(Code.scope c).wpIn F n P Q a w)
 (Pz:∀ (id:Nat) (ops:Array Oper) (draw:Bool) (Q:Exit→AO→Prop) (σ:AO),U6 wr sc (Y5 P (.region id ops draw)) Q σ→Gb F n H D P (.region id ops draw) Q σ) :
 ∀(c:Code) (Q:Exit→AO→Prop) (σ:AO),U6 wr sc (Y5 P c) Q σ→Gb F n H D P c Q σ:=by
 intro c
 induction c with
 | skip=>exact fun Q σ h W Φ ρ hH a w hr ht hd=>wpIn_skip ⟨σ,Φ,ρ,.refl _ _,.refl _ _,lR _,hr,ht,hd,h⟩
 | region id ops draw=>exact fun Q σ h=>Pz id ops draw Q σ h
 | seq x y ihx ihy=>
  intro Q σ h W Φ ρ hH a w hr ht hd;simp only[Y5,U6]at h;refine wpIn_seq (wpIn_mono (ihx _ _ h W Φ ρ hH a w hr ht hd) ?_);intro e a' w' hl;have key:∀ e',e=e'→e'≠.normal→MQ W D Φ ρ σ.m.next Q e a' w':=by
   intro e' he hne;refine lE hl fun σ' hq=>?_
   subst he;cases e<;>first|exact absurd rfl hne|exact hq
  cases e with
  | normal=>
   obtain⟨σ',Am,ρ',h1,h2,h3,h4,h5,h6,h7⟩:=hl;exact wpIn_mono (ihy _ _ h7 W Am ρ' (BQ _ _ _ _ _ hH h1) a' w' h4 h5 h6) fun e a w hl'=>sQ h1 h2 h3 hl'
  | exit i=>exact key _ rfl (by simp)
  | goto l=>exact key _ rfl (by simp)
  | ret=>exact key _ rfl (by simp)
  | panic ch=>exact key _ rfl (by simp)
  | outgrown=>exact key _ rfl (by simp)
 | cond c x y ihx ihy=>
  intro Q σ h W Φ ρ hH a w hr ht hd;simp only[Y5]at h;cases hc:Y7 c with
  | none=>simp[hc,U6]at h
  | some c'=>
   simp only[hc,U6]at h;have hv:=U8 ht hc;generalize ev σ.t c'=z at h hv;split at h
   ·generalize hz:a.eval c=v at hv;cases hv;exact wpIn_cond_true hz (ihx _ _ h W Φ ρ hH a w hr ht hd)
   ·generalize hz:a.eval c=v at hv;cases hv;exact wpIn_cond_false hz (ihy _ _ h W Φ ρ hH a w hr ht hd)
   ·exact h.elim
 | block id c ih=>
  intro Q σ h W Φ ρ hH a w hr ht hd;simp only[Y5,U6]at h;refine wpIn_block (wpIn_mono (ih _ _ h W Φ ρ hH a w hr ht hd) ?_);intro e a' w' hl;cases e with
  | exit i=>
   simp only[Exit.inBlock];obtain⟨σ',Am,ρ',h1,h2,h3,h4,h5,h6,h7⟩:=hl;simp only[Is]at h7;split
   ·rename_i hi;rw[iP hi]at h7;exact⟨σ',Am,ρ',h1,h2,h3,h4,h5,h6,h7⟩
   ·rename_i hi;rw[iN hi]at h7;exact⟨σ',Am,ρ',h1,h2,h3,h4,h5,h6,h7⟩
  | normal=>exact hl
  | goto l=>exact hl
  | ret=>exact hl
  | panic ch=>exact hl
  | outgrown=>exact hl
 | loop c ih=>
  intro Q σ h W Φ ρ hH a w hr ht hd;simp only[Y5,U6]at h;obtain⟨I,⟨n0,Fh,hs0,h0⟩,hround⟩:=h;obtain⟨Φ1,hE1,hr1,ht1⟩:=hs0.rel W Φ ρ a.tmps w hr ht;refine vq (fun n a' w'=>∃ σ' Am ρ',Ext Φ ρ Am ρ'∧Bl σ.m.next ρ ρ'∧σ.m.next≤σ'.m.next∧Rel W Am ρ' σ'.m w'∧RL Am ρ' σ'.t a'.tmps∧a'.defers=D∧I n σ') n0
   ⟨Fh,Φ1,ρ,hE1,.refl _ _,hs0.next,hr1,ht1,hd,h0⟩ ?_
  rintro n a' w' ⟨σ',Am,ρ',h1,h2,h3,h4,h5,h6,h7⟩;refine wpIn_mono (ih _ _ (hround n σ' h7) W Am ρ' (BQ _ _ _ _ _ hH h1) a' w' h4 h5 h6) ?_;intro e a'' w'' hl;have key:∀ e',e=e'→e'≠.normal→MQ W D Φ ρ σ.m.next Q e a'' w'':=by
   intro e' he hne;refine sQ h1 h2 h3 (lE hl fun σ'' hq=>?_)
   subst he;cases e<;>first|exact absurd rfl hne|exact hq
  cases e with
  | normal=>
   obtain⟨σ'',Ec,CZ,g1,g2,g3,g4,g5,g6,k,Fh,g7,g8,g9⟩:=hl;obtain⟨Φ3,hE3,hr3,ht3⟩:=g8.rel W Ec CZ _ _ g4 g5;exact⟨k,g7,Fh,Φ3,CZ,(h1.trans g1).trans hE3,h2.trans g2 h3,Nat.le_trans (Nat.le_trans h3 g3) g8.next,hr3,ht3,g6,g9⟩
  | exit i=>exact key _ rfl (by simp)
  | goto l=>exact key _ rfl (by simp)
  | ret=>exact key _ rfl (by simp)
  | panic ch=>exact key _ rfl (by simp)
  | outgrown=>exact key _ rfl (by simp)
 | exit id=>exact fun Q σ h W Φ ρ hH a w hr ht hd=>wpIn_exit ⟨σ,Φ,ρ,.refl _ _,.refl _ _,lR _,hr,ht,hd,h⟩
 | scope c ih=>
  intro Q σ h W Φ ρ hH a w hr ht hd;simp only[Y5,U6]at h;refine hsc h.1 _ _ _ _ (wpIn_mono (ih _ _ h.2 W Φ ρ hH a w hr ht hd) ?_);intro e a' w' hl;cases e with
  | goto l=>
   obtain⟨σ',Am,ρ',h1,h2,h3,h4,h5,h6,h7⟩:=hl;exact h7.elim
  | normal=>exact hl
  | exit i=>exact hl
  | ret=>exact hl
  | panic ch=>exact hl
  | outgrown=>exact hl
 | label l=>exact fun Q σ h W Φ ρ hH a w hr ht hd=>wpIn_label ⟨σ,Φ,ρ,.refl _ _,.refl _ _,lR _,hr,ht,hd,h⟩
 | ret=>exact fun Q σ h W Φ ρ hH a w hr ht hd=>wpIn_ret ⟨σ,Φ,ρ,.refl _ _,.refl _ _,lR _,hr,ht,hd,h⟩
 | rangeFunc f ps x y _ _=>exact fun Q σ h=>by simp[Y5,U6]at h
 | goto l=>exact fun Q σ h=>by simp[Y5,U6]at h
 | refuse s=>exact fun Q σ h=>by simp[Y5,U6]at h
theorem zQ(c:Code)(Q:Exit→Act→World→Prop)(a:Act)(w:World)(h:c.wpIn Fence.wide n P (Exit.noGoto Q) a w):(Code.scope c).wpIn Fence.wide n P Q a w:=
 wpIn_wide.2 (wp_scope_straight (wpIn_wide.1 h))
theorem Open.fenced(hF:Open F)(m:Machine):m.fenced P F:=by
 intro g _;refine⟨fun hh=>?_,Or.inl (hF.fn _),fun f _=>hF.fn f,fun d hd=>?_⟩
 ·rw[hF.alive]at hh; cases hh
 ·rw[hF.depth]at hd; cases hd
theorem nQ(hF:Open F){o:Oper}(ho:∀ c,o.op≠.defer c){a:Act}{w:World}{K:Act→World→Prop}{Q:Exit→Act→World→Prop}(h:o.wp P a w K Q):o.wpIn F n P a w K Q:=by
 refine⟨fun f _=>hF.fn f,?_⟩
 rw[Oper.semAt_eq _ _ _ ho];unfold Oper.wp at h;have hne:F.depth.isSome=true→1≤n:=fun hh=>by rw[hF.depth]at hh; cases hh
 have hCI:∀ (f:FuncId) (args:Array Value) (w':World) (R:Ending→World→Prop),Calls P f args w' R→CallsIn F (n - 1) P f args w' R:=by
  intro f args w' R hc;refine⟨hF.fn f,fun cs _=>?_⟩
  obtain⟨e,w'',fr,r,s,x⟩:=hc cs;refine⟨e,w'',fr,r,?_,x⟩;cases e with
  | returned v=>exact (StepsIn.of_steps s).mono fun m _=>hF.fenced m
  | panicked ch=>exact (StepsIn.of_steps s).mono fun m _=>hF.fenced m
  | outgrown=>exact s
 have hRI:∀ (row:String) (args:Array Value) (w':World) (R:Value→World→Prop),Rows P row args w' R→Go.RowsIn F (n - 1) P row args w' R:=by
  intro row args w' R hc c cs _;obtain⟨v,w'',r,s⟩:=hc c cs;exact⟨v,w'',r,(StepsIn.of_steps s).mono fun m _=>hF.fenced m⟩
 generalize (execOp a.eval o).run P w=r at h ⊢;unfold Oper.upon at h;unfold Oper.uponIn;split at h
 ·exact h
 ·exact h
 ·exact h
 ·exact⟨hne,hCI _ _ _ _ h⟩
 ·exact⟨hne,hRI _ _ _ _ h⟩
 ·exact h
 ·exact h.elim
end
end Go.AE
end
section
namespace Go.AE
open Go.RowKit
def MS(t:List Aa)(f:Ah)(xs:List Ah):Option (Fn×List Aa):=
 match ev t f with
 | .func (.func g) first cap=>some (.func g,first++xs.map (ev t)++cap)
 | .DU b=>some (.yield b,xs.map (ev t))
 | _=>none
abbrev BX:=Fn→List Aa→Mem→Nat→(Aa→Mem→Prop)→Prop
abbrev CN:=Nat→List Aa→Mem→AQ→Option (Aa×Mem)
def J5(st:CN)(cw:BX)(base:Nat):List Af→Nat→(AO→Prop)→List Aa→Mem→Prop
 | [],_,K,t,m=>K ⟨t,m⟩
 | o :: r,i,K,t,m=>
  match T9 t o.guard with
  | some false=>J5 st cw base r (i+1) K (put t o.dst Aj) m
  | some true=>
   match o.op with
   | .call f xs=>match MS t f xs with
    | some (fn,args)=>cw fn args m (base+i) fun v m'=>J5 st cw base r (i+1) K (put t o.dst v) m'
    | none=>False
   | op=>match st (base+i) t m op with
    | some (v,m')=>J5 st cw base r (i+1) K (put t o.dst v) m'
    | none=>False
  | none=>False
def vt(Φ:Ao)(ρ:AD)(W:Ap)(m:Mem)(id:Nat)(K:Aa→Mem→Prop)(e:Ending)(w':World):Prop:=
 ∃ v r m' Am ρ',e=.returned v∧Ext Φ ρ Am ρ'∧(∀ b,b<m.next→b≠id→ρ b=none→ρ' b=none)∧Rel W Am ρ' m' w'∧R Am ρ' r v∧m.next≤m'.next∧K r m'
def EO(F:Fence)(n:Nat)(P:Program)(ρ:AD)(fn:Fn)(vs:Array Value)(w:World)(S:Ending→World→Prop):Prop:=
 (∃ g,fn=.func g∧Sa P g∧CallsIn F n P g vs w S) ∨
 (∃ b l f tmps assign body,fn=.yield b∧ρ b=some l∧(Instr.yield l.blk vs).run P w=.ok (.round l.blk f tmps assign body) w∧RoundIn F n P l.blk f tmps assign body w S) ∨
 (∃ g v w',fn=.func g∧(callFunc g vs).run P w=.ok (.value v) w'∧S (.returned v) w')
def GA(F:Fence)(n:Nat)(H:Dn)(P:Program)(st:CN):Prop:=
 ∀(o:Oper) (id:Nat) (t:List Aa) (m:Mem) (x:Aa) (m':Mem),st id t m (Q0 P o)=some (x,m')→m'.next=m.next ∧
  ∀(W:Ap) (Φ:Ao) (ρ:AD) (a:Act) (w:World) (K:Act→World→Prop) (Q:Exit→Act→World→Prop),H W Φ ρ→RL Φ ρ t a.tmps→Rel W Φ ρ m w→ρ id=none→id<m.next →
   (∀ Am ρ' u w',Ext Φ ρ Am ρ'→(∀ b,b≠id→ρ b=none→ρ' b=none)→Rel W Am ρ' m' w'→R Am ρ' x u→K (a.put o.dst u) w')→o.wpIn F n P a w K Q
def LW(F:Fence)(n:Nat)(H:Dn)(P:Program)(cw:BX):Prop:=
 ∀ fn args m id K,cw fn args m id K → ∀ W Φ ρ,H W Φ ρ → ∀ vs w,Rel W Φ ρ m w→RL Φ ρ args vs→ρ id=none→id<m.next→EO F n P ρ fn vs w (vt Φ ρ W m id K)
theorem Z77{F:Fence}{n:Nat}{P:Program}(hF:Open F){f:FuncId}{args:Array Value}{w:World}{S:Ending→World→Prop}(hc:Calls P f args w S):CallsIn F n P f args w S:=by
 refine⟨hF.fn f,fun cs _=>?_⟩
 obtain⟨e,w'',fr,r,s,x⟩:=hc cs;refine⟨e,w'',fr,r,?_,x⟩;cases e with
 | returned v=>exact (StepsIn.of_steps s).mono fun m _=>hF.fenced m
 | panicked ch=>exact (StepsIn.of_steps s).mono fun m _=>hF.fenced m
 | outgrown=>exact s
def FP(P:Program):BX:=fun fn args m id K=>∃ g,fn=.func g∧Az P g args m [id] K
theorem SX{F:Fence}{n:Nat}{H:Dn}{P:Program}(hF:Open F):LW F n H P (FP P):=by
 rintro fn args m id K ⟨g,rfl,hA⟩ W Φ ρ _ vs w hr ha hn hlt;refine .inl ⟨g,rfl,hA.1,Z77 hF ?_⟩;refine(hA.2 W Φ ρ vs w hr ha (fun b hb=>by simp only[List.mem_singleton]at hb; subst hb; exact⟨hn,hlt⟩)).mono ?_
 rintro e w' ⟨v,r,m',Am,ρ',rfl,h1,h2,h3,h4,h5,h6⟩;exact⟨v,r,m',Am,ρ',rfl,h1,fun b hb hne=>h2 b hb (by simpa using hne),h3,h4,h5,h6⟩
section
variable {F:Fence} {n:Nat} {H:Dn} {D:List Deferred} {P:Program} {W:Ap} {Φ:Ao} {ρ:AD} {w:World} {m m':Mem} {x:Aa} {a:Act} {t:List Aa} {ops:Array Oper}
theorem EO.mono{fn:Fn}{vs:Array Value}{S S':Ending→World→Prop}(h:EO F n P ρ fn vs w S)(hs:∀ e w,S e w→S' e w):EO F n P ρ fn vs w S':=by
 rcases h with⟨g,h1,h2,h3,h4⟩|⟨b,l,f,tm,as,bd,h1,h0,h2,h3⟩|⟨g,v,w',h1,h2,h3⟩
 ·exact .inl ⟨g,h1,h2,h3,fun cs hroom=>let ⟨e,w',fr,r,s,x⟩:=h4 cs hroom; ⟨e,w',fr,hs _ _ r,s,x⟩⟩
 ·exact .inr (.inl ⟨b,l,f,tm,as,bd,h1,h0,h2,h3.mono hs⟩)
 ·exact .inr (.inr ⟨g,v,w',h1,h2,hs _ _ h3⟩)
theorem Z4y{o:Oper}{f:Ah}{xs:List Ah}(ho:Q0 P o=.call f xs):∃ c of,o.op=.call c∧c.callee=.value of∧Y7 of=some f∧A5 c.args.toList=some xs:=by
 unfold Q0 at ho;cases hc:Gu P o with
 | none=>simp[hc]at ho
 | some op=>
  simp only[hc,Option.getD_some]at ho;subst ho;unfold Gu at hc;split at hc<;>first|(cases hc; done)|(simp only[mO]at hc; obtain⟨_,_,hc⟩:=hc; cases hc; done)|skip
  case h_26 c hoc=>
   unfold Ix at hc;split at hc
   ·rename_i of Bf;split at hc
    ·rename_i g' xs' hg' hxs';injection hc with hc
     injection hc with h1 h2
     subst h1; subst h2;exact⟨c,of,hoc,Bf,hg',hxs'⟩
    ·cases hc
   all_goals (repeat' (split at hc<;>first|(cases hc; done)|skip))
   all_goals (first|(cases hc; done)|(simp only[mO]at hc; obtain⟨_,_,hc⟩:=hc; cases hc; done)|skip)
  all_goals (repeat' (split at hc<;>first|(cases hc; done)|skip))
  all_goals (first|(cases hc; done)|(simp only[mO]at hc; obtain⟨_,_,hc⟩:=hc; cases hc; done)|skip)
theorem Z69{o:Oper}{id:Nat}{r:Aa×Mem}(h:Ae id t m (Q0 P o)=some r):∀ c,o.op≠.defer c:=by
 intro c hc;unfold Q0 at h;have:Gu P o=none:=by
  unfold Gu;rw[hc]
 rw[this]at h;simp[Ae]at h
theorem yY(hF:Open F){id:Nat}{K:Act→World→Prop}{Q:Exit→Act→World→Prop}(ht:RL Φ ρ t a.tmps)(hr:Rel W Φ ρ m w)(hn:ρ id=none)(hlt:id<m.next)(o:Oper){f:Ah}{xs:List Ah}(ho:Q0 P o=.call f xs)
 {fn:Fn} {args:List Aa} (hg:MS t f xs=some (fn,args)) {cw:BX} (DQ:LW F (n - 1) H P cw) (hH:H W Φ ρ) {KA:Aa→Mem→Prop} (h:cw fn args m id KA)
 (hK:∀ Am ρ' x m' u w',Ext Φ ρ Am ρ'→(∀ b,b<m.next→b≠id→ρ b=none→ρ' b=none)→Rel W Am ρ' m' w'→R Am ρ' x u→m.next≤m'.next→KA x m'→K (a.put o.dst u) w'):o.wpIn F n P a w K Q:=by
 obtain⟨c,of,hop,Bf,hof,hxs⟩:=Z4y ho;have hfv:=U8 ht hof;have hargs:=RZ ht hxs;refine⟨fun f _=>hF.fn f,?_⟩
 rw[Oper.semAt_eq _ _ _ (fun c' hc'=>by rw[hop]at hc'; cases hc')]
 have hne:F.depth.isSome=true→1≤n:=fun hh=>by rw[hF.depth]at hh; cases hh
 have fin:∀ vs,RL Φ ρ args vs→EO F (n - 1) P ρ fn vs w (fun e w'=>match e with
  | .returned v=>K (a.put o.dst v) w'
  | .panicked chain=>Q (.panic chain) a w'
  | .outgrown=>LetsOut Q):=fun vs hRL=>by
  refine(DQ fn args m id KA h W Φ ρ hH vs w hr hRL hn hlt).mono ?_;rintro e w' ⟨v,r,m',Am,ρ',rfl,h1,h2,h3,h4,h5,h6⟩;exact hK Am ρ' r m' v w' h1 h2 h3 h4 h5 h6
 unfold MS at hg;split at hg<;>first|(cases hg; done)|skip
 ·rename_i g' first cap hev;injection hg with hg
  injection hg with h1 h2
  subst h1; subst h2;rw[hev]at hfv;generalize hvv:a.eval of=vv at hfv;cases hfv with
  | func _ _ _ vf vc hf hc hfr Dx=>
   have hRL:RL Φ ρ (first++xs.map (ev t)++cap) (vf++c.args.map a.eval++vc):=by
    refine⟨by simp only[Array.size_append,lA]; rw[hf,hc,hargs.1],fun i y v hy hv=>?_⟩
    have hl2:(vf++c.args.map a.eval).size=(first++xs.map (ev t)).length:=by simp only[Array.size_append,lA]; rw[hf,hargs.1]
    rw[List.getElem?_append]at hy;rw[Array.getElem?_append]at hv;rw[hl2]at hv;split at hy
    ·rename_i hlt';rw[iP hlt']at hv;rw[List.getElem?_append]at hy;rw[Array.getElem?_append,hf]at hv;split at hy
     ·rename_i h3;rw[iP h3]at hv;exact hfr i y v hy hv
     ·rename_i h3;rw[iN h3]at hv;exact hargs.2 _ y v hy hv
    ·rename_i hge;rw[iN hge]at hv;exact Dx _ y v hy hv
   rcases fin _ hRL with⟨g,hg,⟨fn',hfn,hname,hbody⟩,hC⟩|⟨b,l,_,_,_,_,hl,_⟩|⟨g,v,w',hg,hrun,hS⟩
   ·cases hg;have hrun:(execOp a.eval o).run P w=.ok (.enter g' (vf++c.args.map a.eval++vc)) w:=by
     unfold execOp;rw[hop];simp only[resolve,Bf,hvv,Deferred.ofValue,Sem.run_bind,Sem.run_pure,Result.andThen_ok,invoke,callFunc];cases hb:fn'.body with
     | none=>rw[hb]at hbody; cases hbody
     | some b=>simp[program,Sem.run,hfn,hb]; simpa using hname
    rw[hrun];refine⟨hne,⟨hC.1,fun cs hroom=>?_⟩⟩
    obtain⟨e,w',fr,r,s,x⟩:=hC.2 cs hroom;refine⟨e,w',fr,?_,s,x⟩;cases e<;>exact r
   ·cases hl
   ·cases hg;have hrun':(execOp a.eval o).run P w=.ok (.value v) w':=by
     unfold execOp;rw[hop];simp only[resolve,Bf,hvv,Deferred.ofValue,Sem.run_bind,Sem.run_pure,Result.andThen_ok,invoke];exact hrun
    rw[hrun'];exact hS
 ·rename_i b hev;injection hg with hg
  injection hg with h1 h2
  subst h1; subst h2;rw[hev]at hfv;generalize hvv:a.eval of=vv at hfv;cases hfv with
  | DU _ l hl=>
   have hRL:RL Φ ρ (xs.map (ev t)) (#[]++c.args.map a.eval):=by simpa using hargs
   rcases fin _ hRL with⟨g,hg,_⟩|⟨b',l',f',tm,as,bd,hb',hl',hy,hC⟩|⟨g,_,_,hg,_⟩
   ·cases hg
   ·cases hb';rw[hl]at hl';cases hl';have hrun:(execOp a.eval o).run P w=.ok (.round l.blk f' tm as bd) w:=by
     unfold execOp;rw[hop];simp only[resolve,Bf,hvv,Deferred.ofValue,Sem.run_bind,Sem.run_pure,Result.andThen_ok,invoke];exact hy
    rw[hrun];refine⟨hne,hC.mono fun e w' r=>?_⟩
    cases e<;>exact r
   ·cases hg
theorem yN{st:CN}{cw:BX}{base i:Nat}{b:Af}{rest:List Af}{K:AO→Prop}(h:J5 st cw base (b :: rest) i K t m) :
 (T9 t b.guard=some false∧J5 st cw base rest (i+1) K (put t b.dst Aj) m) ∨
 (T9 t b.guard=some true∧((∃ f xs fn args,b.op=.call f xs∧MS t f xs=some (fn,args)∧cw fn args m (base+i) fun v m'=>J5 st cw base rest (i+1) K (put t b.dst v) m') ∨
   (∃ v m',st (base+i) t m b.op=some (v,m')∧J5 st cw base rest (i+1) K (put t b.dst v) m'))):=by
 simp only[J5]at h;cases hw:T9 t b.guard with
 | none=>simp[hw]at h
 | some q=>
  cases q with
  | false=>simp only[hw]at h; exact .inl ⟨rfl,h⟩
  | true=>
   simp only[hw]at h;refine .inr ⟨rfl,?_⟩;have other:∀ op,b.op=op→(match st (base+i) t m op with|some (v,m')=>J5 st cw base rest (i+1) K (put t b.dst v) m'|none=>False) →
    ∃ v m',st (base+i) t m op=some (v,m')∧J5 st cw base rest (i+1) K (put t b.dst v) m':=by
    intro op _ hh;cases hs:st (base+i) t m op with
    | none=>simp[hs]at hh
    | some r=>obtain ⟨v,m'⟩:=r; simp only[hs]at hh; exact⟨v,m',rfl,hh⟩
   cases hop:b.op with
   | call f xs=>
    simp only[hop]at h;cases hc:MS t f xs with
    | none=>simp[hc]at h
    | some r=>
     obtain⟨fn,args⟩:=r;simp only[hc]at h;exact .inl ⟨f,xs,fn,args,rfl,hc,h⟩
   | _=>rw[hop]at h; exact .inr (other _ hop h)
theorem WD(hF:Open F)(BQ:H.Gc){st:CN}(hst:GA F n H P st){cw:BX}(DQ:LW F (n - 1) H P cw)(W:Ap)(base:Nat)(n0:Nat)(ops:Array Oper)(Q:Exit→AO→Prop)(Ed:Ao)(Da:AD)(hb:n0≤base) :
 ∀(l:List Oper) (as:List Af) (i:Nat) (t:List Aa) (m:Mem) (Φ:Ao) (ρ:AD) (a:Act) (w:World),
  as.length=l.length→(∀(j:Nat) (o:Oper) (b:Af),l[j]? = some o→as[j]? = some b→b.dst=o.dst∧b.op=Q0 P o∧A3 ops o.guard=some b.guard) →
  J5 st cw base as i (Q .normal) t m→H W Φ ρ→Rel W Φ ρ m w→RL Φ ρ t a.tmps→a.defers=D→Ext Ed Da Φ ρ→Bl n0 Da ρ→(∀ j,i≤j→j<i+as.length→ρ (base+j)=none)→base+i+as.length≤m.next→n0≤m.next →
  wpListIn F n P ops (MQ W D Ed Da n0 Q) l a w
 | [],[],i,t,m,Φ,ρ,a,w,_,_,h,_,hr,ht,hd,he,hk,_,_,hn=>⟨⟨t,m⟩,Φ,ρ,he,hk,hn,hr,ht,hd,h⟩
 | [],_ :: _,_,_,_,_,_,_,_,hl,_,_,_,_,_,_,_,_,_,_,_=>by simp at hl
 | _ :: _,[],_,_,_,_,_,_,_,hl,_,_,_,_,_,_,_,_,_,_,_=>by simp at hl
 | o :: l,b :: as,i,t,m,Φ,ρ,a,w,hl,hg,h,hH,hr,ht,hd,he,hk,hfree,Dz,hn=>by
  obtain⟨e1,e2,e3⟩:=hg 0 o b rfl rfl;have hg':∀ (j:Nat) (o:Oper) (b:Af),l[j]? = some o→as[j]? = some b→b.dst=o.dst∧b.op=Q0 P o∧A3 ops o.guard=some b.guard:=fun j o b ho hb=>hg (j+1) o b (by simpa using ho) (by simpa using hb)
  have hl':as.length=l.length:=by simpa using hl
  simp only[lC]at Dz hfree;have hlt:base+i<m.next:=by omega
  have hni:ρ (base+i)=none:=hfree i (lR _) (by omega)
  unfold wpListIn;rcases yN h with⟨hw,h'⟩|⟨hw,h'⟩
  ·rw[Ly ht e3 hw,iN (by simp)]
   rw[← e1];exact⟨fun f _=>hF.fn f,WD hF BQ hst DQ W base n0 ops Q Ed Da hb l as (i+1) _ m Φ ρ _ w hl' hg' h' hH hr (ht.put b.dst (LP Φ ρ)) (by rw[Iv]; exact hd) he hk (fun j h1 h2=>hfree j (by omega) (by omega)) (by omega) hn⟩
  ·rw[Ly ht e3 hw,iP rfl];rcases h' with⟨f,xs,g,args,hop,Bf,hA⟩|⟨v,m',hs,h'⟩
   ·refine yY hF ht hr hni hlt o (by rw[← e2]; exact hop) Bf DQ hH hA fun Am ρ' x m' u w' hE hfr hr' hx hnx' hW=>?_
    rw[← e1];exact WD hF BQ hst DQ W base n0 ops Q Ed Da hb l as (i+1) _ m' Am ρ' _ w' hl' hg' hW (BQ _ _ _ _ _ hH hE) hr' ((ht.ext hE).put b.dst hx) (by rw[Iv]; exact hd) (he.trans hE) (fun c hc h0=>hfr c (by omega) (by omega) (hk c hc h0))
     (fun j h1 h2=>hfr _ (by omega) (by omega) (hfree j (by omega) (by omega))) (by omega) (by omega)
   ·rw[e2]at hs;obtain⟨hnx',hop⟩:=hst o _ t m v m' hs;refine hop W Φ ρ a w _ _ hH ht hr hni hlt fun Am ρ' u w' hE hfr hr' hx=>?_
    rw[← e1];exact WD hF BQ hst DQ W base n0 ops Q Ed Da hb l as (i+1) _ m' Am ρ' _ w' hl' hg' h' (BQ _ _ _ _ _ hH hE) hr' ((ht.ext hE).put b.dst hx) (by rw[Iv]; exact hd) (he.trans hE) (fun c hc h0=>hfr c (by omega) (hk c hc h0))
     (fun j h1 h2=>hfr _ (by omega) (hfree j (by omega) (by omega))) (by rw[hnx']; omega) (by rw[hnx']; exact hn)
theorem pN(hF:Open F)(BQ:H.Gc){st:CN}(hst:GA F n H P st){cw:BX}(DQ:LW F (n - 1) H P cw){id:Nat}{ops:Array Oper}{Q:Exit→AO→Prop}{σ:AO}{as:List Af}(hc:I1 P ops ops.toList=some as)
 (h:J5 st cw σ.m.next as 0 (Q .normal) σ.t (σ.m.at (σ.m.next+as.length))):Gb F n H D P (.region id ops false) Q σ:=by
 intro W Φ ρ hH a w hr ht hd;obtain⟨h1,h2⟩:=Tk P ops _ _ hc;refine wpIn_region_list (WD hF BQ hst DQ W σ.m.next σ.m.next ops Q Φ ρ (lR _) ops.toList as 0 σ.t _ Φ ρ a w h1 h2 h hH (hr.at_ (by omega)) ht hd (.refl _ _) (.refl _ _) ?_ (by simp) (by simp))
 intro j _ _;cases hq:ρ (σ.m.next+j)with
 | none=>rfl
 | some l=>have:=hr.fresh _ _ hq; omega
theorem SH(hF:Open F):GA F n H P Ae:=fun _ _ _ _ _ _ hs=>
 ⟨YE hs,fun _ _ _ _ _ _ _ _ ht hr hn hlt hK=>nQ hF (Z69 hs) (Wx ht hr hn hlt _ hs hK)⟩
end
def Im(P:Program)(dr:Bool)(st:CN)(cw:BX):Of
 | false,ops,K,σ=>J5 st cw σ.m.next ops 0 K σ.t (σ.m.at (σ.m.next+ops.length))
 | true,ops,K,σ=>dr=true∧R8 P σ.m.next ops [] K σ.t (σ.m.at (σ.m.next+ops.length))
section
variable {n:Nat} {H:Dn} {D:List Deferred} {P:Program}
theorem zL(hm:P.follows .mixedOrders=true)(BQ:H.Gc){st:CN}(hst:GA Fence.wide n H P st){cw:BX}(DQ:LW Fence.wide (n - 1) H P cw)(c:Code)(Q:Exit→AO→Prop)(σ:AO)(h:U6 (Im P true st cw) true (Y5 P c) Q σ):Gb Fence.wide n H [] P c Q σ:=by
 refine qH BQ (fun _=>zQ) (fun id ops draw Q σ h=>?_) c Q σ h
 cases draw with
 | false=>
  simp only[Y5]at h;cases hc:I1 P ops ops.toList with
  | none=>simp[hc,U6]at h
  | some as=>
   simp only[hc,U6,Im]at h;exact pN Open.wide BQ hst DQ hc h
 | true=>
  refine Gb.Mx (YK hm ?_);simp only[Y5]at h ⊢;cases hc:I1 P ops ops.toList with
  | none=>simp[hc,U6]at h
  | some as=>
   simp only[hc]at h ⊢;split at h
   ·rename_i hok;simp only[U6,Im]at h;rw[iP hok];simp only[Cy];exact h.2
   ·simp[U6]at h
theorem aI{F:Fence}(hF:Open F)(BQ:H.Gc){st:CN}(hst:GA F n H P st){cw:BX}(DQ:LW F (n - 1) H P cw)(c:Code)(Q:Exit→AO→Prop)(σ:AO)(h:U6 (Im P false st cw) false (Y5 P c) Q σ):Gb F n H D P c Q σ:=by
 refine qH BQ (fun hh=>by cases hh) (fun id ops draw Q σ h=>?_) c Q σ h
 cases draw with
 | false=>
  simp only[Y5]at h;cases hc:I1 P ops ops.toList with
  | none=>simp[hc,U6]at h
  | some as=>
   simp only[hc,U6,Im]at h;exact pN hF BQ hst DQ hc h
 | true=>
  simp only[Y5]at h;cases hc:I1 P ops ops.toList with
  | none=>simp[hc,U6]at h
  | some as=>
   simp only[hc]at h;split at h
   ·simp[U6,Im]at h
   ·simp[U6]at h
end
end Go.AE
end
section
namespace Go.AE
open Go.RowKit
def Ap.Cu(W:Ap)(l:Nat)(o:Obj):Ap:={ W with g:=fun B=>if B=l then some o else W.g B }
theorem Ap.Eo(W:Ap)(l:Nat)(o o':Obj):(W.Cu l o).Cu l o'=W.Cu l o':=by
 unfold Ap.Cu
 congr 1
 funext B
 by_cases h:B=l<;>simp[h]
theorem Ap.Ie{W:Ap}{l:Nat}{o:Obj}(h:W.g l=some o):W.Cu l o=W:=by
 unfold Ap.Cu;cases W
 congr 1
 funext B
 by_cases hb:B=l
 ·subst hb; simp; exact h.symm
 ·simp[hb]
theorem Ap.CL(W:Ap)(l:Nat)(o:Obj):(W.Cu l o).g l=some o:=by simp[Ap.Cu]
theorem Ap.BA{W:Ap}{l B:Nat}{o:Obj}(h:B≠l):(W.Cu l o).g B=W.g B:=by simp[Ap.Cu,h]
def Xr(D:Nat):Deferred:={ target:=.collected D,args:=#[] }
section
variable {P:Program} {W:Ap} {Φ:Ao} {ρ:AD} {w:World} {m m':Mem}
theorem Z37{B:Nat}{a w:World}{l:Nat}{o:Obj}(h:Below B a w)(hl:B≤l):Below B a (w.putObj l o):=
 ⟨h.os,h.tape,h.output,by rw[World.putObj_size]; exact h.size,fun k hk=>by rw[World.putObj_heap_other (by omega)]; exact h.block k hk⟩
theorem Rel.My(h:Rel W Φ ρ m w){l:Nat}{o:Obj}(hg:W.g l=some o)(hl:W.w.heap.size≤l)(hno:∀ c e fz,o≠.cells c e fz)(o':Obj):Rel (W.Cu l o') Φ ρ m (w.putObj l o'):=by
 have ho:=h.base.BU l o hg;have hlt:=G4 ho;have hfree:∀ B,W.Cd B→B≠l∧(W.Cu l o').Cd B:=fun B hB=>by
  have hne:B≠l:=fun e=>by subst e; have:=hB.2; rw[hg]at this; cases this
  exact⟨hne,hB.1,by rw[Ap.BA hne]; exact hB.2⟩
 have hpers:∀ B c,Φ B=some c→B≠l:=fun B c hB e=>by
  subst e;obtain⟨e',fz,h'⟩:=h.AX _ c hB;rw[ho]at h';injection h' with h'
  exact hno _ _ _ h'
 refine⟨⟨Z37 h.base.below hl,fun B ob hB=>?_⟩,fun B c hB=>?_,fun b x hx=>?_,h.inj,h.fresh,fun B c hB=>?_⟩
 ·by_cases e:B=l
  ·subst e;rw[Ap.CL]at hB;injection hB with hB
   subst hB;exact World.putObj_heap_same hlt
  ·rw[Ap.BA e]at hB;rw[World.putObj_heap_other e];exact h.base.BU B ob hB
 ·obtain⟨e',fz,h'⟩:=h.AX B c hB;exact⟨e',fz,by rw[World.putObj_heap_other (hpers B c hB)]; exact h'⟩
 ·obtain⟨lo,ob,h1,h2,h3,h4,h5⟩:=h.live b x hx;obtain⟨g1,g2⟩:=hfree _ h2;exact⟨lo,ob,h1,g2,h3,by rw[World.putObj_heap_other g1]; exact h4,h5⟩
 ·rcases h.By B c hB with h'|h'
  ·exact .inl h'
  ·exact .inr (hfree B h').2
theorem Rel.TF(h:Rel W Φ ρ m w)(o:Obj):Rel (W.Cu w.heap.size o) Φ ρ m (w.alloc o):=by
 have hfree:∀ B,B<w.heap.size→W.Cd B→(W.Cu w.heap.size o).Cd B:=fun B hlt hB=>
  ⟨hB.1,by rw[Ap.BA (by omega)]; exact hB.2⟩
 have hold:∀ (B:Nat) (ob:Obj),w.heap[B]? = some ob→(w.alloc o).heap[B]? = some ob:=fun B ob hB=>(Below.heap_alloc w o B (G4 hB)).trans hB
 refine⟨⟨h.base.below.alloc h.base.below.size o,fun B ob hB=>?_⟩,fun B c hB=>?_,fun b x hx=>?_,h.inj,h.fresh,fun B c hB=>?_⟩
 ·by_cases e:B=w.heap.size
  ·subst e;rw[Ap.CL]at hB;injection hB with hB
   subst hB;exact World.alloc_heap_new w o
  ·rw[Ap.BA e]at hB;exact hold _ _ (h.base.BU B ob hB)
 ·obtain⟨e',fz,h'⟩:=h.AX B c hB;exact⟨e',fz,hold _ _ h'⟩
 ·obtain⟨lo,ob,h1,h2,h3,h4,h5⟩:=h.live b x hx;exact⟨lo,ob,h1,hfree _ (G4 h4) h2,h3,hold _ _ h4,h5⟩
 ·rcases h.By B c hB with h'|h'
  ·exact .inl h'
  ·obtain⟨e',fz,h2⟩:=h.AX B c hB;exact .inr (hfree B (G4 h2) h')
theorem Rel.NZ(h:Rel W Φ ρ m w){B:Nat}(hB:w.heap.size≤B):W.g B=none:=by
 cases hg:W.g B with
 | none=>rfl
 | some o=>have:=G4 (h.base.BU B o hg); omega
theorem Rel.NY{l:Nat}{o:Obj}(h:Rel (W.Cu l o) Φ ρ m w)(hg:W.g l=none):Rel W Φ ρ m w:=by
 have hfree:∀ B,(W.Cu l o).Cd B→W.Cd B:=fun B hB=>by
  have hne:B≠l:=fun e=>by subst e; have:=hB.2; rw[Ap.CL]at this; cases this
  exact⟨hB.1,by have:=hB.2; rw[Ap.BA hne]at this; exact this⟩
 refine⟨⟨h.base.below,fun B ob hB=>?_⟩,h.AX,fun b x hx=>?_,h.inj,h.fresh,fun B c hB=>?_⟩
 ·refine h.base.BU B ob ?_;rw[Ap.BA (fun e=>by subst e; rw[hg]at hB; cases hB)]
  exact hB
 ·obtain⟨lo,ob,h1,h2,h3,h4,h5⟩:=h.live b x hx;exact⟨lo,ob,h1,hfree _ h2,h3,h4,h5⟩
 ·rcases h.By B c hB with h'|h'
  ·exact .inl h'
  ·exact .inr (hfree B h')
def LD(t:List Aa):List (Nat×Aa)→List Aa
 | []=>t
 | (i,x) :: r=>LD (t.set i x) r
theorem nK:∀ (ps:List Nat) (xs:List Aa) (vs:List Value) (t:List Aa) (us:Array Value),xs.length=vs.length→(∀(i:Nat) (x:Aa) (v:Value),xs[i]? = some x→vs[i]? = some v→R Φ ρ x v)→RL Φ ρ t us →
 RL Φ ρ (LD t (ps.zip xs)) ((ps.zip vs).foldl (fun tmps (p:Nat×Value)=>tmps.setIfInBounds p.1 p.2) us)
 | [],xs,vs,t,us,_,_,ht=>by simpa[LD]using ht
 | p :: ps,[],[],t,us,_,_,ht=>by simpa[LD]using ht
 | p :: ps,[],v :: vs,t,us,hl,_,_=>by simp at hl
 | p :: ps,x :: xs,[],t,us,hl,_,_=>by simp at hl
 | p :: ps,x :: xs,v :: vs,t,us,hl,hx,ht=>by
  simp only[List.zip_cons_cons,LD,List.foldl_cons];refine nK ps xs vs _ _ (by simpa using hl) (fun i y u hy hu=>hx (i+1) y u (by simpa using hy) (by simpa using hu)) ?_
  have:=RL.put (a:=⟨us,[]⟩) (some p) ht (hx 0 x v rfl rfl);exact this
def FB(b l:Nat)(r:Loop)(tR:List Aa):Dn:=fun W Φ ρ=>W.w.heap.size≤l∧W.g l=some (.loop r)∧RL Φ ρ tR r.tmps∧ρ b=some ⟨l,0,0,0⟩
theorem FB.mono{b l:Nat}{r:Loop}{tR:List Aa}:(FB b l r tR).Gc:=fun _ _ _ _ _ h he=>⟨h.1,h.2.1,h.2.2.1.ext he,he.Fy _ _ h.2.2.2⟩
def Z5v(P:Program)(ps:List Nat)(tR:List Aa)(A B:Aq)(args:List Aa)(m:Mem)(K:Aa→Mem→Prop):Prop:=
 args.length=ps.length∧U6 (Im P false Ae (FP P)) false A (fun e σ1=>match e with
  | .normal=>U6 (Im P false Ae (FP P)) false B (fun e σ2=>match e with
   | .normal=>K (.bool true) σ2.m
   | _=>False) σ1
  | _=>False) ⟨LD tR (ps.zip args),m⟩
def xI(P:Program)(b:Nat)(ps:List Nat)(tR:List Aa)(A B:Aq):BX:=fun fn args m id K=>FP P fn args m id K∨(fn=.yield b∧Z5v P ps tR A B args m K)
theorem Z9y{n:Nat}{b l:Nat}{r:Loop}{tR:List Aa}(hst:r.state=.ready)(hpe:r.pending=none):LW Fence.wide n (FB b l r tR) P (xI P b r.params.toList tR (Y5 P r.assign) (Y5 P r.body)):=by
 intro fn args m id K DQ W Φ ρ hH vs w hr ha hn hlt;rcases DQ with DQ|⟨rfl,hlen,hround⟩
 ·exact SX Open.wide fn args m id K DQ W Φ ρ hH vs w hr ha hn hlt
 ·obtain⟨hl,hg,htR,hb0⟩:=hH;have hw:=hr.base.BU _ _ hg;have hsz:vs.size=r.params.size:=by rw[ha.1,hlen]; simp
  refine .inr (.inl ⟨b,⟨l,0,0,0⟩,r.fn,_,r.assign,r.body,rfl,hb0,run_yield hw hsz,roundIn_of_wpIn trivial ?_⟩);have htmps:RL Φ ρ (LD tR (r.params.toList.zip args)) ((r.params.zip vs).foldl (fun tmps (t,a)=>tmps.setIfInBounds t a) r.tmps):=by
   have:=nK (Φ:=Φ) (ρ:=ρ) r.params.toList args vs.toList tR r.tmps (by simp[ha.1]) (fun i x v hx hv=>ha.2 i x v hx (by simpa using hv)) htR
   rw[← Array.foldl_toList,Array.toList_zip];exact this
  have hO:=Open.round Open.wide l;have hA:=aI (P:=P) (n:=n) (D:=[]) hO (H:=fun _ _ _=>True) (fun _ _ _ _ _ _ _=>trivial) (SH hO) (SX hO) r.assign _ _ hround W Φ ρ trivial
   { tmps:=(r.params.zip vs).foldl (fun tmps (t,a)=>tmps.setIfInBounds t a) r.tmps,defers:=[] } w hr htmps rfl
  refine wpIn_mono hA ?_;rintro e a1 w1 ⟨σ1,Φ1,ρ1,e1,k1,n1,r1,t1,d1,q1⟩;cases e with
  | normal=>
   have hw1:=r1.base.BU _ _ hg;refine⟨_,run_beginRound hw1 hst,?_⟩;have r2:=r1.My hg hl (by intro c e fz h; cases h) (.loop { r with state:=.busy })
   have hB:=aI (P:=P) (n:=n) (D:=[]) hO (H:=fun _ _ _=>True) (fun _ _ _ _ _ _ _=>trivial) (SH hO) (SX hO) r.body _ _ q1 (W.Cu l (.loop { r with state:=.busy })) Φ1 ρ1 trivial a1 _ r2 t1 d1
   refine wpIn_mono hB ?_;rintro e a2 w2 ⟨σ2,Φ2,ρ2,e2,k2,n2,r3,t2,d2,q2⟩;cases e with
   | normal=>
    have hw2:=r3.base.BU _ _ (Ap.CL _ _ _);refine⟨_,_,run_endRound none hw2,?_⟩;have r4:=r3.My (Ap.CL _ _ _) hl (by intro c e fz h; cases h) (.loop { r with state:=.ready,pending:=none })
    rw[Ap.Eo]at r4;have hreq:({ r with state:=.ready,pending:=none }:Loop)=r:=by
     cases r; simp only at hst hpe; subst hst; subst hpe; rfl
    rw[hreq,Ap.Ie hg]at r4;refine⟨.bool true,.bool true,σ2.m,Φ2,ρ2,rfl,e1.trans e2,fun b hb _ h0=>?_,?_,.bool true,Nat.le_trans n1 n2,q2⟩
    ·exact k2 b (Nat.lt_of_lt_of_le hb n1) (k1 b hb h0)
    ·have:(if (none:Option Code).isNone=true then LoopState.ready else LoopState.done)=.ready:=rfl
     simp only[Option.isNone_none,if_true];rw[hreq];exact r4
   | exit i=>exact q2.elim
   | goto i=>exact q2.elim
   | ret=>exact q2.elim
   | panic ch=>exact q2.elim
   | outgrown=>exact q2.elim
  | exit i=>exact q1.elim
  | goto i=>exact q1.elim
  | ret=>exact q1.elim
  | panic ch=>exact q1.elim
  | outgrown=>exact q1.elim
def ZW(H:Dn)(P:Program)(f:FuncId)(args:List Aa)(m:Mem)(K:Aa→Mem→Prop):Prop:=
 Sa P f ∧ ∀(W:Ap) (Φ:Ao) (ρ:AD),H W Φ ρ → ∀(vs:Array Value) (w:World),Rel W Φ ρ m w→RL Φ ρ args vs →
  Calls P f vs w fun e w'=>∃ v r m' Am ρ',e=.returned v∧Ext Φ ρ Am ρ'∧Bl m.next ρ ρ'∧Rel W Am ρ' m' w'∧R Am ρ' r v∧m.next≤m'.next∧K r m'
theorem Ty{args:List Aa}{vs:Array Value}{k:Nat}(ha:RL Φ ρ args vs):RL Φ ρ (args++List.replicate (k - args.length) Aj) (vs++Array.replicate (k - vs.size) undef):=by
 refine⟨by simp[ha.1],fun i x v hx hv=>?_⟩
 rw[List.getElem?_append]at hx;rw[Array.getElem?_append,ha.1]at hv;split at hx
 ·rename_i hlt;rw[iP hlt]at hv;exact ha.2 i x v hx hv
 ·rename_i hge;rw[iN hge]at hv;have e1:x=Aj:=by
   have:=gS.1 hx;obtain⟨_,hh⟩:=this;simpa using hh.symm
  have e2:v=undef:=by
   have:=Array.getElem?_eq_some_iff.1 hv;obtain⟨_,hh⟩:=this;simpa using hh.symm
  subst e1; subst e2;exact LP _ _
theorem Xb{fn:Func}{af:Av}(hc:Bt P fn=some af):∃ c,fn.body=some c∧af.body=Y5 P c∧Hu P fn.results.toList=some af.results∧af.ntmps=fn.ntmps∧(fn.name == "runtime.NumGoroutine")=false:=by
 unfold Bt at hc;cases hb:fn.body with
 | none=>simp[hb]at hc
 | some c=>
  cases Ck:Hu P fn.results.toList with
  | none=>simp[hb,Ck]at hc
  | some rs=>
   simp only[hb,Ck]at hc;split at hc<;>first|(cases hc; done)|skip
   rename_i hname;injection hc with hc
   subst hc;exact⟨c,rfl,rfl,rfl,rfl,by simpa using hname⟩
theorem sP(hm:P.follows .mixedOrders=true){H:Dn}(BQ:H.Gc){st:CN}(hst:GA Fence.wide 0 H P st){cw:BX}(DQ:LW Fence.wide 0 H P cw){f:FuncId}{fn:Func}{af:Av}{args:List Aa}{m:Mem}{K:Aa→Mem→Prop}(hf:P.funcs[f]? = some fn)(hc:Bt P fn=some af)
 (h:U6 (Im P true st cw) true af.body (Fb af.results K) ⟨args++List.replicate (af.ntmps - args.length) Aj,m⟩):ZW H P f args m K:=by
 obtain⟨c,hb,hbody,Ck,hnt,hname⟩:=Xb hc;refine⟨⟨fn,hf,hname,by rw[hb]; rfl⟩,fun W Φ ρ hH vs w hr ha=>?_⟩
 rw[hbody,hnt]at h;have hs:=zL (n:=0) hm BQ hst DQ c _ _ h W Φ ρ hH { tmps:=vs++Array.replicate (fn.ntmps - vs.size) undef,defers:=[] } w hr (Ty ha) rfl;refine calls_of_wp hf hb (wp_mono (wpIn_wide.1 hs) fun e a w' hl=>?_)
 obtain⟨σ,Am,ρ',h1,h2,h3,h4,h5,h6,h7⟩:=hl;have fin:(match M2 σ.t σ.m af.results with|some r=>K r σ.m|none=>False)→a.defers=[] ∧ ∃ v,(results fn a.tmps).run P w'=.ok v w' ∧
  ∃ v' r m' Am ρ',Ending.returned v=.returned v'∧Ext Φ ρ Am ρ'∧Bl m.next ρ ρ'∧Rel W Am ρ' m' w'∧R Am ρ' r v'∧m.next≤m'.next∧K r m':=by
  intro hh;cases hz:M2 σ.t σ.m af.results with
  | none=>simp[hz]at hh
  | some r=>
   simp only[hz]at hh;obtain⟨u,g1,g2⟩:=QB h4 h5 Ck hz;exact⟨h6,u,g1,u,r,σ.m,Am,ρ',rfl,h1,h2,h4,g2,h3,hh⟩
 cases e with
 | normal=>exact fin h7
 | ret=>exact fin h7
 | exit i=>exact h7.elim
 | goto l=>exact h7.elim
 | panic ch=>exact h7.elim
 | outgrown=>exact h7.elim
end
end Go.AE
end
section
namespace Go.AE
open Go.RowKit
def Ml(W:Ap)(Φ:Ao)(ρ:AD)(n:Nat)(K:AO→Prop)(e:Exit)(a:Act)(w:World):Prop:=
 (e=.normal∨e=.ret) ∧ ∃ σ Am ρ',Ext Φ ρ Am ρ'∧Bl n ρ ρ'∧n≤σ.m.next∧RL Am ρ' σ.t a.tmps∧K σ ∧
   ((a.defers=[]∧Rel W Am ρ' σ.m w) ∨ ∃ D,a.defers=[Xr D]∧W.w.heap.size≤D∧W.g D=none∧Rel (W.Cu D (.deferred (some []))) Am ρ' σ.m w)
def AR(P:Program)(c:Code)(K:AO→Prop)(σ:AO):Prop:=
 ∀(W:Ap) (Φ:Ao) (ρ:AD) (a:Act) (w:World),Rel W Φ ρ σ.m w→RL Φ ρ σ.t a.tmps→a.defers=[]→c.wpIn Fence.wide 0 P (Ml W Φ ρ σ.m.next K) a w
section
variable {P:Program}
theorem Z83{W:Ap}{Φ Am:Ao}{ρ ρ':AD}{n n':Nat}{K:AO→Prop}{e:Exit}{a:Act}{w:World}(he:Ext Φ ρ Am ρ')(hk:Bl n ρ ρ')(hn:n≤n')(h:Ml W Am ρ' n' K e a w):Ml W Φ ρ n K e a w:=by
 obtain⟨h1,σ,Φ2,ρ2,h2,h3,h4,h5⟩:=h;exact⟨h1,σ,Φ2,ρ2,he.trans h2,hk.trans h3 hn,Nat.le_trans hn h4,h5⟩
def Ic(K K':AO→Prop):Exit→AO→Prop
 | .normal,σ=>K' σ
 | .ret,σ=>K σ
 | _,_=>False
theorem wV{x y:Code}{K:AO→Prop}{σ:AO}(h:Ip P x (Ic K (AR P y K)) σ):AR P (.seq x y) K σ:=by
 intro W Φ ρ a w hr ht hd;refine wpIn_seq (wpIn_mono (wpIn_wide.2 (h W Φ ρ a w hr ht hd)) ?_);rintro e a1 w1 ⟨σ1,Φ1,ρ1,e1,k1,n1,r1,t1,d1,q1⟩;cases e with
 | normal=>exact wpIn_mono (q1 W Φ1 ρ1 a1 w1 r1 t1 d1) fun e a w hl=>Z83 e1 k1 n1 hl
 | ret=>exact ⟨.inr rfl,σ1,Φ1,ρ1,e1,k1,n1,t1,q1,.inl ⟨d1,r1⟩⟩
 | exit i=>exact q1.elim
 | goto l=>exact q1.elim
 | panic ch=>exact q1.elim
 | outgrown=>exact q1.elim
def Z8h(P:Program)(g:Ah)(ps:Array Tmp)(Fj bd y:Code)(K:AO→Prop)(σ:AO):Prop:=
 ∃ gf first cap,ev σ.t g=.func (.func gf) first cap ∧ ∀(l:Nat) (r:Loop),r.state=.ready→r.pending=none→r.params=ps→r.assign=Fj→r.body=bd →
  ZW (FB σ.m.next l r σ.t) P gf (first++[.DU σ.m.next]++cap) (σ.m.at (σ.m.next+1)) fun _ m2=>U6 (Im P false Ae (FP P)) false (Y5 P y) (Ic K K) ⟨σ.t,m2⟩
theorem Z38{x y Fj bd:Code}{b:Nat}{g:Operand}{g':Ah}{ps:Array Tmp}{K:AO→Prop}{σ:AO}(hg:Y7 g=some g')(h:Ip P x (Ic K (Z8h P g' ps Fj bd y K)) σ) :
 AR P (.seq (.seq x (.block b (.rangeFunc g ps Fj bd))) y) K σ:=by
 intro W Φ ρ a w hr ht hd;refine wpIn_seq (wpIn_seq (wpIn_mono (wpIn_wide.2 (h W Φ ρ a w hr ht hd)) ?_));rintro e a1 w1 ⟨σ1,Φ1,ρ1,e1,k1,n1,r1,t1,d1,q1⟩;cases e with
 | ret=>exact ⟨.inr rfl,σ1,Φ1,ρ1,e1,k1,n1,t1,q1,.inl ⟨d1,r1⟩⟩
 | exit i=>exact q1.elim
 | goto l=>exact q1.elim
 | panic ch=>exact q1.elim
 | outgrown=>exact q1.elim
 | normal=>
  obtain⟨gf,first,cap,hev,hit⟩:=q1;have hgv:=U8 t1 hg;rw[hev]at hgv;refine wpIn_block (wpIn_rangeFunc ?_);intro fn hfn;generalize hvv:a1.eval g=vv at hgv;cases hgv with
  | func _ _ _ vf vc hf hc hfr Dx=>
   obtain⟨rec,hrec⟩:∃ rec:Loop,rec={ state:=.ready,pending:=none,fn,tmps:=a1.tmps,params:=ps,assign:=Fj,body:=bd,defers:=w1.heap.size }:=⟨_,rfl⟩
   have Aw:=hit (w1.heap.size+1) rec (by rw[hrec]) (by rw[hrec]) (by rw[hrec]) (by rw[hrec]) (by rw[hrec])
   have r2:=r1.TF (.deferred (some []));have r30:=r2.TF (.loop rec);have hsz:(w1.alloc (.deferred (some []))).heap.size=w1.heap.size+1:=by simp
   rw[hsz]at r30;obtain⟨ρL,hρL⟩:∃ ρL:AD,ρL=fun b=>if b=σ1.m.next then some ⟨w1.heap.size+1,0,0,0⟩ else ρ1 b:=⟨_,rfl⟩
   have hnew:ρL σ1.m.next=some ⟨w1.heap.size+1,0,0,0⟩:=by rw[hρL]; simp
   have hold:∀ b,b≠σ1.m.next→ρL b=ρ1 b:=fun b hb=>by rw[hρL]; simp[hb]
   have eL:Ext Φ1 ρ1 Φ1 ρL:=⟨fun _ _ h=>h,fun b lo hb=>by
    rw[hold b (fun e=>by subst e; have:=r1.fresh _ _ hb; omega)]; exact hb⟩
   have Ds:∀ b x,σ1.m.get b=some x→ρL b=ρ1 b:=fun b x hx=>by
    obtain⟨lo,_,hb,_⟩:=r1.live b x hx;exact hold b (fun e=>by subst e; have:=r1.fresh _ _ hb; omega)
   have r3:Rel ((W.Cu w1.heap.size (.deferred (some []))).Cu (w1.heap.size+1) (.loop rec)) Φ1 ρL (σ1.m.at (σ1.m.next+1)) ((w1.alloc (.deferred (some []))).alloc (.loop rec)):=by
    refine⟨r30.base,r30.AX,fun b x hx=>?_,fun b b' x x' lo lo' h1 h2 h3 h4=>?_,fun b lo hb=>?_,r30.By⟩
    ·obtain⟨lo,ob,g1,g2,g3,g4,g5⟩:=r30.live b x hx;exact⟨lo,ob,by rw[Ds b x hx]; exact g1,g2,g3,g4,g5.ext eL⟩
    ·rw[Ds b x h1]at h3;rw[Ds b' x' h2]at h4;exact r30.inj b b' x x' lo lo' h1 h2 h3 h4
    ·simp only[Mem.FV];by_cases e:b=σ1.m.next
     ·omega
     ·rw[hold b e]at hb;have:=r1.fresh b lo hb;omega
   obtain⟨⟨fb,hfb,hname,hbody⟩,hC⟩:=Aw;have hRL:RL Φ1 ρL (first++[.DU σ1.m.next]++cap) (vf ++ #[.func (.yield (w1.heap.size+1)) #[] #[]]++vc):=by
    refine⟨by simp only[Array.size_append,lA,hf,hc]; rfl,fun i y v hy hv=>?_⟩
    rw[List.getElem?_append]at hy;rw[Array.getElem?_append]at hv;have hl2:(vf ++ #[Value.func (.yield (w1.heap.size+1)) #[] #[]]).size=(first++[Aa.DU σ1.m.next]).length:=by simp[hf]
    rw[hl2]at hv;split at hy
    ·rename_i h1;rw[iP h1]at hv;rw[List.getElem?_append]at hy;rw[Array.getElem?_append,hf]at hv;split at hy
     ·rename_i h3;rw[iP h3]at hv;exact(hfr i y v hy hv).ext eL
     ·rename_i h3;rw[iN h3]at hv;obtain⟨j,hj⟩:∃ j,j=i - first.length:=⟨_,rfl⟩
      rw[← hj]at hy hv;cases j with
      | zero=>
       simp only[List.getElem?_cons_zero,oI]at hy;have Hf:Value.func (.yield (w1.heap.size+1)) #[] #[]=v:=by simpa using hv
       subst hy; subst Hf;exact .DU _ ⟨w1.heap.size+1,0,0,0⟩ hnew
      | succ j=>simp at hy
    ·rename_i h1;rw[iN h1]at hv;exact(Dx _ y v hy hv).ext eL
   have hH:FB σ1.m.next (w1.heap.size+1) rec σ1.t ((W.Cu w1.heap.size (.deferred (some []))).Cu (w1.heap.size+1) (.loop rec)) Φ1 ρL:=
    ⟨Nat.le_trans r1.base.below.size (Nat.le_succ _),Ap.CL _ _ _,by rw[hrec]; exact t1.ext eL,hnew⟩
   have hcalls:=hC _ Φ1 ρL hH _ _ r3 hRL;refine⟨w1.heap.size+1,[Xr w1.heap.size],(w1.alloc (.deferred (some []))).alloc (.loop rec),{ target:=.fn (.func gf) vc,args:=vf ++ #[.func (.yield (w1.heap.size+1)) #[] #[]] },(w1.alloc (.deferred (some []))).alloc (.loop rec),gf,vf ++ #[.func (.yield (w1.heap.size+1)) #[] #[]]++vc,(w1.alloc (.deferred (some []))).alloc (.loop rec),?_,?_,fun _ _=>trivial,?_,(fun hh=>absurd hh (by simp[Fence.wide])),?_⟩
   ·have:=run_enterLoop_outer (P:=P) (w:=w1) fn a1.tmps ps Fj bd;rw[← hrec]at this;exact this
   ·simp only[resolve,rangeCall,hvv,Deferred.ofValue,Sem.run_pure];have he:(#[Operand.const (Value.func (.yield (w1.heap.size+1)) #[] #[])]:Array Operand).map a1.eval = #[.func (.yield (w1.heap.size+1)) #[] #[]]:=by
     simp[Act.eval]
    rw[he]
   ·simp only[invoke,callFunc];cases hb:fb.body with
    | none=>rw[hb]at hbody; cases hbody
    | some b=>simp[program,Sem.run,hfb,hb]; simpa using hname
   ·refine(callsIn_wide.2 hcalls:CallsIn Fence.wide (0 - 1) P gf _ _ _) |> fun hci=>⟨hci.1,fun cs hroom=>?_⟩
    obtain⟨e,w',fr,hS,s,x⟩:=hci.2 cs hroom;refine⟨e,w',fr,?_,s,x⟩;obtain⟨v,rr,m2,Φ2,ρ2,rfl,e2,k2,r4,_,n2,hy⟩:=hS;have kL:Bl σ1.m.next ρ1 ρL:=fun b hb h0=>by rw[hold b (by omega)]; exact h0
    have n1':σ.m.next≤(σ1.m.at (σ1.m.next+1)).next:=by simp only[Mem.FV]; omega
    have hw:=r4.base.BU _ _ (Ap.CL _ _ _);have hrun:=run_endLoop (P:=P) hw (by rw[hrec]; simp)
    have hpend:rec.pending=none:=by rw[hrec]
    refine⟨none,w'.putObj (w1.heap.size+1) (.loop { rec with state:=.exhausted }),by rw[hrun,hpend],?_⟩
    have r5:=r4.My (Ap.CL _ _ _) hH.1 (by intro c e fz h; cases h) (.loop { rec with state:=.exhausted })
    rw[Ap.Eo]at r5;have r6:=r5.NY (by rw[Ap.BA (by omega)]; exact r1.NZ (by omega))
    have hw1:=aI (P:=P) (n:=0) (D:=[Xr w1.heap.size]) Open.wide (H:=fun _ _ _=>True) (fun _ _ _ _ _ _ _=>trivial) (SH Open.wide) (SX Open.wide) y _ _ hy (W.Cu w1.heap.size (.deferred (some []))) Φ2 ρ2 trivial
     { a1 with defers:=[Xr w1.heap.size]++a1.defers } _ r6 ((t1.ext eL).ext e2) (by simp[d1])
    refine wpIn_mono hw1 ?_;rintro e a3 w3 ⟨σ3,Φ3,ρ3,e3,k3,n3,r7,t3,d3,q3⟩;have fin:K σ3→(e=.normal∨e=.ret)→Ml W Φ ρ σ.m.next K e a3 w3:=fun hk he=>
     ⟨he,σ3,Φ3,ρ3,((e1.trans eL).trans e2).trans e3,((k1.trans kL n1).trans k2 n1').trans k3 (Nat.le_trans n1' n2),Nat.le_trans n1' (Nat.le_trans n2 n3),t3,hk,
      .inr ⟨w1.heap.size,d3,r1.base.below.size,r1.NZ (lR _),r7⟩⟩
    cases e with
    | normal=>exact fin q3 (.inl rfl)
    | ret=>exact fin q3 (.inr rfl)
    | exit i=>exact q3.elim
    | goto l=>exact q3.elim
    | panic ch=>exact q3.elim
    | outgrown=>exact q3.elim
theorem Z5d{f:FuncId}{fn:Func}{c:Code}{rs:List (Nat×Option (Option Nat))}{args:List Aa}{m:Mem}{av:List Nat}{K:Aa→Mem→Prop}(hf:P.funcs[f]? = some fn)(hb:fn.body=some c)
 (hname:(fn.name == "runtime.NumGoroutine")=false) (Ck:Hu P fn.results.toList=some rs)
 (h:AR P c (fun σ=>match M2 σ.t σ.m rs with|some r=>K r σ.m|none=>False) ⟨args++List.replicate (fn.ntmps - args.length) Aj,m⟩):Az P f args m av K:=by
 refine⟨⟨fn,hf,hname,by rw[hb]; rfl⟩,fun W Φ ρ vs w hr ha Ch=>?_⟩
 have hs:=h W Φ ρ { tmps:=vs++Array.replicate (fn.ntmps - vs.size) undef,defers:=[] } w hr (Ty ha) rfl;refine callsIn_wide.1 (callsIn_of_wp_marks (n:=0) hf hb trivial (wpIn_mono hs ?_));rintro e a w' ⟨he,σ,Am,ρ',h1,h2,h3,h5,h7,hcase⟩;have fin:∀ w2,Rel W Am ρ' σ.m w2→LeavesInM Fence.wide 0 P fn a.tmps (fun e w'=>∃ v r m' Am ρ',e=.returned v∧Ext Φ ρ Am ρ'∧(∀ b,b<m.next→b∉av→ρ b=none→ρ' b=none) ∧
  Rel W Am ρ' m' w'∧R Am ρ' r v∧m.next≤m'.next∧K r m') [] .returning w2:=by
  intro w2 h4;cases hz:M2 σ.t σ.m rs with
  | none=>simp[hz]at h7
  | some r=>
   simp only[hz]at h7;obtain⟨u,g1,g2⟩:=QB h4 h5 Ck hz;exact⟨u,g1,u,r,σ.m,Am,ρ',rfl,h1,fun b hb _ h0=>h2 b hb h0,h4,g2,h3,h7⟩
 have all:LeavesInM Fence.wide 0 P fn a.tmps (fun e w'=>∃ v r m' Am ρ',e=.returned v∧Ext Φ ρ Am ρ'∧(∀ b,b<m.next→b∉av→ρ b=none→ρ' b=none) ∧
  Rel W Am ρ' m' w'∧R Am ρ' r v∧m.next≤m'.next∧K r m') a.defers .returning w':=by
  rcases hcase with⟨hd,h4⟩|⟨D,hd,hD,hg,h4⟩
  ·rw[hd]; exact fin w' h4
  ·rw[hd];have hw:=h4.base.BU _ _ (Ap.CL _ _ _);have r5:=(h4.My (Ap.CL _ _ _) hD (by intro c e fz h; cases h) (.deferred none))
   rw[Ap.Eo]at r5;exact⟨by simp,.inl ⟨D,_,rfl,run_takeDeferred hw,fin _ (r5.NY hg)⟩⟩
 rcases he with rfl|rfl
 ·exact all
 ·exact all
end
end Go.AE
end
section
namespace Go.AE
open Go.RowKit
def C0(get:Nat→Option Ag):Aa→Option (List Aa×Nat)
 | .ptr b i j=>match get b with
  | some (.cells _ els)=>match els[i]? with
   | some row=>some (row,j)
   | none=>none
  | _=>none
 | .AW els i j=>match els[i]? with
  | some row=>some (row,j)
  | none=>none
 | _=>none
def J4(get:Nat→Option Ag)(n:Option Nat)(x:Aa):Option Aa:=
 match C0 get x with
 | some (row,j)=>match n with
  | none=>row[j]?
  | some n=>if 0<n∧j+n≤row.length then some (.agg ((row.drop j).take n))else none
 | none=>none
def F5(get:Nat→Option Ag)(n:Nat)(x v:Aa):Option (List (Nat×Option Ag)):=
 match x,v.cells with
 | .ptr b i j,some cs=>match get b with
  | some (.cells k els)=>match els[i]? with
   | some row=>if cs.length=n∧j+n≤row.length∧cs.all Aa.one then some [(b,some (.cells k (els.set i (N6 row j cs))))]else none
   | none=>none
  | _=>none
 | _,_=>none
def Q3(get:Nat→Option Ag)(k:Nat):Aa→Option (List (List Aa))
 | .Ai | .emp=>some []
 | .An els=>if els.all (·.length == k)then some els else none
 | .sl b off len=>match get b with
  | some (.cells k' els)=>if k'=k∧off+len≤els.length then some ((els.drop off).take len)else none
  | _=>if len=0 then some []else none
 | _=>none
def T7(get:Nat→Option Ag)(k:Nat):Aa→Option (List (List Aa))
 | .str s=>if k=1 then some (s.map WY)else none
 | x=>Q3 get k x
def MF(e:Ah→Aa)(d:Nat):Option Ah→Option Nat
 | none=>some d
 | some x=>P7 (e x)
def Z8(id k bytes:Nat)(get:Nat→Option Ag)(s:Aa)(xs:List (List Aa)):Option (Aa×List (Nat×Option Ag)):=
 match s with
 | .Ai=>if xs=[]then some (.Ai,[])else if xs.length≤W6∧bytes≤W6 then some (.sl id 0 xs.length,[(id,some (.cells k xs))])else none
 | .emp=>if xs=[]then some (.emp,[])else if xs.length≤W6∧bytes≤W6 then some (.sl id 0 xs.length,[(id,some (.cells k xs))])else none
 | .sl b off len=>match get b with
  | some (.cells k' els)=>
   if k'=k∧off+len≤els.length∧(els.length=off+len∨off+len+xs.length≤els.length)then
    if off+len+xs.length≤els.length then
     some (.sl b off (len+xs.length),[(b,some (.cells k (els.take (off+len)++xs++els.drop (off+len+xs.length))))])
    else if len+xs.length≤W6∧bytes≤W6 then
     some (.sl id 0 (len+xs.length),[(b,none),(id,some (.cells k ((els.drop off).take len++xs)))])
    else none
   else none
  | _=>none
 | _=>none
def I2(e:Ah→Aa)(len EY:Nat)(lo hi:Option Ah):Option (Nat×Nat):=
 match MF e len hi with
 | some h=>if h≤EY then match MF e 0 lo with
  | some l=>if l≤h then some (l,h)else none
  | none=>none
  else none
 | none=>none
def Ak(id:Nat)(e:Ah→Aa)(get:Nat→Option Ag):AQ→Option (Aa×List (Nat×Option Ag))
 | .Fp x=>some (e x,[])
 | .pick c a b=>match e c with
  | .bool true=>some (e a,[])
  | .bool false=>some (e b,[])
  | _=>none
 | .box x=>match (e x).cells with
  | some cs=>if cs.all Aa.one then some (.ptr id 0 0,[(id,some (.cells cs.length [cs]))])else none
  | none=>none
 | .alloc zero=>some (.ptr id 0 0,[(id,some (.cells zero.length [zero]))])
 | .build zero parts=>match H9 zero (parts.map fun p=>(p.1,p.2.1,e p.2.2))with
  | some cs=>some (.agg cs,[])
  | none=>none
 | .CB k len zero parts=>match I8 k (List.replicate len zero) (parts.map fun p=>(p.1,e p.2))with
  | some els=>some (.sl id 0 len,[(id,some (.cells k els))])
  | none=>none
 | .load n x=>match J4 get n (e x)with
  | some v=>some (v,[])
  | none=>none
 | .store n a x=>match F5 get n (e a) (e x)with
  | some d=>some (Aj,d)
  | none=>none
 | .Ct x=>match e x with
  | .ptr b i j=>some (.ptr b i j,[])
  | .AW els i j=>some (.AW els i j,[])
  | .func (.func f) a b=>some (.func (.func f) a b,[])
  | _=>none
 | .bin op q x y=>match X4 op q (e x) (e y)with
  | some v=>some (v,[])
  | none=>none
 | .un op x=>match Ga op (e x)with
  | some v=>some (v,[])
  | none=>none
 | .CF k x=>match e x with
  | .int _ n=>some (.int k (k.wrap n),[])
  | _=>none
 | .DH x=>match e x with
  | .str s=>some (.str s,[])
  | _=>none
 | .toStr x=>match Q3 get 1 (e x)with
  | some rows=>match LU rows with
   | some s=>some (.str s,[])
   | none=>none
  | none=>none
 | .Du fn first captured=>some (.func fn (first.map e) (captured.map e),[])
 | .mkMap=>some (.map id,[(id,some (.map [] 0))])
 | .Cf k bytes zero len cap=>match P7 (e len),P7 (e cap)with
  | some l,some c=>if l≤c∧c≤W6∧bytes≤W6 then some (.sl id 0 l,[(id,some (.cells k (List.replicate c zero)))])else none
  | _,_=>none
 | .Ew x lo hi=>match e x with
  | .str s=>match I2 e s.length s.length lo hi with
   | some (l,h)=>some (.str ((s.take h).drop l),[])
   | none=>none
  | _=>none
 | .DB k x lo hi mx=>match mx with
  | some z=>match V9 (e x),MF e 0 (some z),MF e 0 lo,hi with
   | some n,some mx,some l,some h=>match P7 (e h)with
    | some h=>if l≤h∧h≤mx∧mx≤n then (if mx=0 then some (.emp,[])else some (.bot,[]))else none
    | none=>none
   | _,_,_,_=>none
  | none=>match e x with
   | .Ai=>match I2 e 0 0 lo hi with
    | some _=>some (.Ai,[])
    | none=>none
   | .emp=>match I2 e 0 0 lo hi with
    | some _=>some (.emp,[])
    | none=>none
   | .An els=>if els.all (·.length == k)then match I2 e els.length els.length lo hi with
    | some (l,h)=>some (.An ((els.take h).drop l),[])
    | none=>none
    else none
   | .sl b off len=>match get b with
    | some (.cells k' els)=>if k'=k∧off+len≤els.length then match I2 e len (els.length - off) lo hi with
     | some (l,h)=>some (.sl b (off+l) (h - l),[])
     | none=>none
     else none
    | _=>none
   | _=>none
 | .Cv ..=>none
 | .BH off x=>match F1 off (e x)with
  | some v=>some (v,[])
  | none=>none
 | .field off n x=>match e x with
  | .agg cs=>match Iw cs off n with
   | some v=>some (v,[])
   | none=>none
  | _=>none
 | .BI k x i=>match e x,P7 (e i)with
  | .sl b off len,some i=>match get b with
   | some (.cells k' _)=>if k'=k∧i<len then some (.ptr b (off+i) 0,[])else none
   | _=>none
  | .An els,some i=>match els[i]? with
   | some row=>if row.length=k then some (.AW els i 0,[])else none
   | none=>none
  | _,_=>none
 | .Er n k x i=>match P7 (e i)with
  | some i=>if i<n then match F1 (i*k) (e x)with
   | some v=>some (v,[])
   | none=>none
   else none
  | none=>none
 | .DL x i=>match e x,P7 (e i)with
  | .str s,some i=>match s[i]? with
   | some c=>some (.int .u8 c.toNat,[])
   | none=>none
  | _,_=>none
 | .DK n k sz x i=>match e x,P7 (e i)with
  | .agg cs,some i=>if i<n then match Iw cs (i*k) sz with
   | some v=>some (v,[])
   | none=>none
   else none
  | _,_=>none
 | .lookup kt zero ok x i=>match (match e x with
  | .Ay=>some []
  | .map b=>match get b with
   | some (.map es _)=>some es
   | _=>none
  | _=>none)with
  | some es=>match G3 kt (e i) es with
   | some r=>
    let v:=match r with
     | some (_,v,_)=>v
     | none=>zero
    some (if ok then .tuple [v,.bool r.isSome]else v,[])
   | none=>none
  | none=>none
 | .BJ kt mp k v=>match e mp with
  | .map b=>match get b with
   | some (.map es clock)=>match G3 kt (e k) es with
    | some (some (i,_,born))=>some (Aj,[(b,some (.map (es.set i (e k,e v,born)) clock))])
    | some none=>some (Aj,[(b,some (.map (es++[(e k,e v,clock)]) (clock+1)))])
    | none=>none
   | _=>none
  | _=>none
 | .EV ..=>none
 | .Gh ..=>none
 | .delete ..=>none
 | .range _=>none
 | .Gm _=>none
 | .FI _=>none
 | .ext x i=>match e x with
  | .tuple vs=>match vs[i]? with
   | some v=>some (v,[])
   | none=>none
  | _=>none
 | .call _ _=>none
 | .append k bytes _ s x=>match T7 get k (e x)with
  | some xs=>Z8 id k bytes get (e s) xs
  | none=>none
 | .Bs ..=>none
 | .copy k d s=>match e d,T7 get k (e s)with
  | .sl b off len,some xs=>match get b with
   | some (.cells k' els)=>if k'=k∧off+len≤els.length then
    let n:=min xs.length len
    some (.int .i64 n,[(b,some (.cells k (els.take off++xs.take n++els.drop (off+n))))])
    else none
   | _=>none
  | _,_=>none
 | .clear k zero x=>match e x with
  | .sl b off len=>match get b with
   | some (.cells k' els)=>if k'=k∧off+len≤els.length then
    some (Aj,[(b,some (.cells k (els.take off++List.replicate len zero++els.drop (off+len))))])
    else none
   | _=>none
  | .Ai=>some (Aj,[])
  | .emp=>some (Aj,[])
  | _=>none
 | .DN x=>match e x with
  | .str s=>some (.int .i64 s.length,[])
  | _=>none
 | .BC x=>match V9 (e x)with
  | some n=>some (.int .i64 n,[])
  | none=>none
 | .Cs x=>match e x with
  | .Ay=>some (.int .i64 0,[])
  | .map b=>match get b with
   | some (.map es _)=>some (.int .i64 es.length,[])
   | _=>none
  | _=>none
 | .DM n=>some (.int .i64 n,[])
 | .CO _=>none
 | .CK mx xs=>match xs with
  | []=>none
  | x :: r=>match KG mx (e x) (r.map e)with
   | some v=>some (v,[])
   | none=>none
 | .iface ty x=>some (.iface ty (e x),[])
 | .dead=>none
def Mem.apply(m:Mem):List (Nat×Option Ag)→Mem
 | []=>m
 | (b,some x) :: r=>(m.set b x).apply r
 | (b,none) :: r=>(m.del b).apply r
section
variable {m:Mem} {t:List Aa} {id:Nat}
theorem ve(x:Aa):IB m x=C0 m.get x:=by cases x<;>rfl
theorem Zu(n:Option Nat)(x:Aa):JJ m n x=J4 m.get n x:=by simp only[JJ,J4,ve]; rfl
theorem Zr(k:Nat)(x:Aa):J7 m k x=Q3 m.get k x:=by cases x<;>rfl
theorem ZS(k:Nat)(x:Aa):O9 m k x=T7 m.get k x:=by cases x<;>first|rfl|exact Zr _ _
theorem rR(d:Nat)(o:Option Ah):H1 t d o=MF (ev t) d o:=by cases o<;>rfl
theorem tJ(n mx:Nat)(lo hi:Option Ah):M9 t n mx lo hi=I2 (ev t) n mx lo hi:=by
 simp only[M9,I2,rR]; rfl
theorem q8{n:Nat}{x v:Aa}{d:List (Nat×Option Ag)}(h:F5 m.get n x v=some d):Lu m n x v=some (m.apply d):=by
 cases x<;>simp only[F5]at h<;>first|(cases h; done)|skip
 rename_i b i j;cases hc:v.cells with
 | none=>simp[hc]at h
 | some cs=>
  simp only[hc]at h;cases hg:m.get b with
  | none=>simp[hg]at h
  | some blk=>
   cases blk<;>simp only[hg]at h<;>first|(cases h; done)|skip
   rename_i k els;cases hr:els[i]? with
   | none=>simp[hr]at h
   | some row=>
    simp only[hr]at h;split at h<;>first|(cases h; done)|skip
    rename_i hcond;injection h with h
    subst h;simp only[Lu,hc,hg,hr];rw[iP hcond];rfl
theorem tc{k bytes:Nat}{s:Aa}{xs:List (List Aa)}{r:Aa}{d:List (Nat×Option Ag)}(h:Z8 id k bytes m.get s xs=some (r,d)):I3 id k bytes m s xs=some (r,m.apply d):=by
 cases s<;>simp only[Z8]at h<;>first|(cases h; done)|skip
 ·split at h
  ·rename_i h0;cases h;simp only[I3,h0,if_true,Mem.apply]
  ·rename_i h0;split at h<;>first|(cases h; done)|skip
   rename_i h1;cases h;simp only[I3,h0,if_false];rw[iP h1];rfl
 ·split at h
  ·rename_i h0;cases h;simp only[I3,h0,if_true,Mem.apply]
  ·rename_i h0;split at h<;>first|(cases h; done)|skip
   rename_i h1;cases h;simp only[I3,h0,if_false];rw[iP h1];rfl
 ·rename_i b off len;cases hg:m.get b with
  | none=>simp[hg]at h
  | some blk=>
   cases blk<;>simp only[hg]at h<;>first|(cases h; done)|skip
   rename_i k' els;split at h<;>first|(cases h; done)|skip
   rename_i hc;simp only[I3,hg];rw[iP hc];split at h
   ·rename_i h1;rw[iP h1];cases h;rfl
   ·rename_i h1;rw[iN h1];split at h<;>first|(cases h; done)|skip
    rename_i h2;rw[iP h2];cases h;rfl
theorem Ow{op:AQ}{v:Aa}{d:List (Nat×Option Ag)}(h:Ak id (ev t) m.get op=some (v,d)):Ae id t m op=some (v,m.apply d):=by
 cases op with
 | store n a x=>
  simp only[Ak]at h;split at h<;>first|(cases h; done)|skip
  rename_i d' hd;cases h;simp only[Ae,q8 hd]
 | append k bytes z s x=>
  simp only[Ak]at h;split at h<;>first|(cases h; done)|skip
  rename_i xs hxs;simp only[Ae,ZS,hxs];exact tc h
 | lookup kt z ok x i=>
  simp only[Ak]at h;simp only[Ae];generalize ev t x=y at *;cases y<;>simp only at h ⊢ <;> first|(cases h; done)|skip
  case map b=>
   cases hg:m.get b with
   | none=>simp[hg]at h
   | some blk=>
    cases blk<;>simp only[hg]at h ⊢ <;> first|(cases h; done)|skip
    split at h<;>first|(cases h; done)|skip
    rename_i hf;cases h;simp only[hf,Mem.apply];rfl
  all_goals
   split at h<;>first|(cases h; done)|skip
   rename_i hf;cases h;simp only[hf,Mem.apply];rfl
 | _=>
  simp only[Ak]at h
  first
   | (cases h; done)
   | (cases h; rfl)
   | ((repeat' (split at h<;>first|(cases h; done)|skip))<;>(cases h; simp_all[Ae,Mem.apply,Zu,Zr,ZS,tJ,rR]; try omega))
end
end Go.AE
end
section
namespace Go.AE
open Go.RowKit
inductive Tr (α:Type) where
 | nil
 | node (l:Tr α) (v:Option α) (r:Tr α)
def Tr.get{α:Type}:Tr α→Nat→Option α
 | .nil,_=>none
 | .node l v r,n=>bif Nat.beq n 0 then v else bif Nat.beq (Nat.mod n 2) 1 then l.get (Nat.div n 2)else r.get (Nat.sub (Nat.div n 2) 1)
def Tr.set{α:Type}:Nat→Tr α→Nat→Option α→Tr α
 | 0,t,_,_=>t
 | d+1,.nil,n,x=>bif Nat.beq n 0 then .node .nil x .nil else bif Nat.beq (Nat.mod n 2) 1 then .node (Tr.set d .nil (Nat.div n 2) x) none .nil else .node .nil none (Tr.set d .nil (Nat.sub (Nat.div n 2) 1) x)
 | d+1,.node l v r,n,x=>bif Nat.beq n 0 then .node l x r else bif Nat.beq (Nat.mod n 2) 1 then .node (Tr.set d l (Nat.div n 2) x) v r else .node l v (Tr.set d r (Nat.sub (Nat.div n 2) 1) x)
abbrev depth:Nat:=22
abbrev bound:Nat:=1000000
structure TM where
 tr:Tr Ag
 next:Nat
def TM.mem(m:TM):Mem:=⟨m.tr.get,m.next⟩
def TM.set(m:TM)(b:Nat)(x:Option Ag):TM:=⟨m.tr.set depth b x,m.next⟩
def TM.apply(m:TM):List (Nat×Option Ag)→TM
 | []=>m
 | (b,x) :: r=>(m.set b x).apply r
def CA(t:Tr Aa):Ah→Aa
 | .tmp i=>match t.get i with
  | some v=>v
  | none=>Aj
 | .const v=>v
 | .fn f=>.func (.func f) [] []
def S9(t:Tr Aa)(d:Option Nat)(v:Aa):Tr Aa:=
 match d with
 | some d=>t.set depth d (some v)
 | none=>t
def MD(t:Tr Aa):Option (Nat×Bool)→Option Bool
 | none=>some true
 | some (d,w)=>match CA t (.tmp d)with
  | .bool b=>some (b == w)
  | .tuple []=>some false
  | _=>none
def Rj(t:Tr Aa)(f:Ah)(xs:List Ah):Option (FuncId×List Aa):=
 match CA t f with
 | .func (.func g) first cap=>some (g,first++xs.map (CA t)++cap)
 | _=>none
structure RS where
 t:Tr Aa
 m:TM
 wl:List Nat
def FZ:List (Nat×Option Ag)→Bool
 | []=>true
 | (b,_) :: r=>bif Nat.ble bound b then false else FZ r
def Vn(id:Nat):List Nat→Bool
 | []=>true
 | c :: r=>bif Nat.ble bound c then false else bif Nat.beq c id then false else Vn id r
def Eh(lim:Nat)(wl:List Nat):List (Nat×Option Ag)→List Nat
 | []=>wl
 | (b,_) :: r=>bif Nat.ble lim b then Eh lim wl r else Eh lim (b :: wl) r
def Ge(lim:Nat)(wl:List Nat):List Nat→List Nat
 | []=>wl
 | b :: r=>bif Nat.ble lim b then Ge lim wl r else Ge lim (b :: wl) r
abbrev Au:=FuncId→List Aa→TM→Option (Aa×TM×List Nat)
def F3(x:Nat):List Nat→Bool
 | []=>false
 | y :: r=>bif Nat.beq x y then true else F3 x r
def LH:List Nat→List Nat→Bool
 | [],_=>true
 | x :: r,l=>bif F3 x l then false else LH r l
def On(n:Nat):List Nat→Bool
 | []=>true
 | x :: r=>bif Nat.ble n x then false else On n r
def Jn:List Nat→List Nat→Bool
 | [],_=>true
 | x :: r,l=>bif F3 x l then Jn r l else false
def FT.GI:FT→FT→Bool
 | .ops w r,.ops w' r'=>LH w (r'++w')&&LH r w'
 | .ops w r,.call wl x nx=>LH r wl&&On nx r&&LH w wl&&On nx w&&Jn w x
 | .call wl x nx,.ops w r=>LH r wl&&On nx r&&LH w wl&&On nx w&&Jn w x
 | .call _ _ _,.call _ _ _=>false
def MW(fs:List FT)(ft:FT):List Nat→Bool
 | []=>true
 | i :: r=>FT.GI (fs.getD i (.ops [] [])) ft&&MW fs ft r
def En(call:Au)(lim base:Nat):List Af→Nat→RS→Option RS
 | [],_,s=>some s
 | o :: r,i,s=>
  match MD s.t o.guard with
  | some false=>En call lim base r (i+1) { s with t:=S9 s.t o.dst Aj }
  | some true=>
   match o.op with
   | .call f xs=>match Rj s.t f xs with
    | some (g,args)=>match call g args s.m with
     | some (v,m',wl)=>En call lim base r (i+1) ⟨S9 s.t o.dst v,m',Ge lim s.wl wl⟩
     | none=>none
    | none=>none
   | op=>match Ak (base+i) (CA s.t) s.m.tr.get op with
    | some (v,[])=>En call lim base r (i+1) ⟨S9 s.t o.dst v,s.m,s.wl⟩
    | some (v,d)=>bif FZ d then En call lim base r (i+1) ⟨S9 s.t o.dst v,s.m.apply d,Eh lim s.wl d⟩ else none
    | none=>none
  | none=>none
def Vx(base i:Nat):List Af→Nat→List Nat
 | [],_=>[]
 | o :: r,j=>bif F3 i o.un then (base+j) :: Vx base i r (j+1)else Vx base i r (j+1)
def Hw(m:TM):List Nat→TM
 | []=>m
 | c :: r=>Hw (m.set c none) r
def KO(m0:TM):TM→List Nat→TM
 | m,[]=>m
 | m,c :: r=>KO m0 (m.set c (m0.tr.get c)) r
def SU(m:TM):List Nat→Bool
 | []=>true
 | c :: r=>match m.tr.get c with
  | none=>SU m r
  | some _=>false
def U9(id:Nat)(e:Ah→Aa):AQ→List Nat
 | .append _ _ _ s _=>id :: W2 (e s)
 | .copy _ d _=>W2 (e d)
 | .store _ a _=>W2 (e a)
 | .BJ _ m _ _=>W2 (e m)
 | .clear _ _ x=>W2 (e x)
 | .box _ | .alloc _ | .CB _ _ _ _ | .mkMap | .Cf _ _ _ _ _=>[id]
 | _=>[]
def T2(e:Ah→Aa):AQ→List Nat
 | .append _ _ _ _ x=>W2 (e x)
 | .copy _ _ s=>W2 (e s)
 | .load _ x | .toStr x | .lookup _ _ _ x _ | .Cs x | .DB _ x _ _ _ | .BI _ x _=>W2 (e x)
 | _=>[]
def Fc(call:Au)(lim base:Nat):List Af→List FT→RS→Option RS
 | [],_,s=>some s
 | o :: r,fs,s=>
  match MD s.t o.guard with
  | some false=>Fc call lim base r (fs++[.ops [] []]) { s with t:=S9 s.t o.dst Aj }
  | some true=>
   match o.op with
   | .call f xs=>match Rj s.t f xs with
    | some (g,args)=>
     let x:=o.un.map (base + ·)++Vx base fs.length r (fs.length+1)
     match call g args (Hw s.m x)with
     | some (v,m',wl)=>bif MW fs (.call wl x s.m.next) o.un&&Vn (base+fs.length) x&&SU m' x then Fc call lim base r (fs++[.call wl x s.m.next]) ⟨S9 s.t o.dst v,KO s.m m' x,Ge lim s.wl wl⟩ else none
     | none=>none
    | none=>none
   | op=>match Ak (base+fs.length) (CA s.t) s.m.tr.get op with
    | some (v,d)=>
     let ft:=FT.ops (U9 (base+fs.length) (CA s.t) op) (T2 (CA s.t) op)
     bif MW fs ft o.un&&FZ d then Fc call lim base r (fs++[ft]) ⟨S9 s.t o.dst v,s.m.apply d,Eh lim s.wl d⟩ else none
    | none=>none
  | none=>none
inductive CV where
 | normal
 | exit (n:Nat)
 | ret
def T4(call:Au)(lim:Nat):Nat→Aq→RS→Option (CV×RS)
 | 0,_,_=>none
 | f+1,c,s=>
  match c with
  | .skip | .label _=>some (.normal,s)
  | .region false ops=>
   bif Nat.ble (s.m.next+ops.length) bound then match En call lim s.m.next ops 0 ⟨s.t,⟨s.m.tr,s.m.next+ops.length⟩,s.wl⟩ with
    | some s'=>some (.normal,s')
    | none=>none
   else none
  | .region true ops=>
   bif Nat.ble (s.m.next+ops.length) bound then match Fc call lim s.m.next ops [] ⟨s.t,⟨s.m.tr,s.m.next+ops.length⟩,s.wl⟩ with
    | some s'=>some (.normal,s')
    | none=>none
   else none
  | .seq a b=>match T4 call lim f a s with
   | some (.normal,s')=>T4 call lim f b s'
   | r=>r
  | .cond c a b=>match CA s.t c with
   | .bool true=>T4 call lim f a s
   | .bool false=>T4 call lim f b s
   | _=>none
  | .block id c=>match T4 call lim f c s with
   | some (.exit n,s')=>bif Nat.beq n id then some (.normal,s')else some (.exit n,s')
   | r=>r
  | .loop c=>match T4 call lim f c s with
   | some (.normal,s')=>T4 call lim f (.loop c) s'
   | r=>r
  | .exit n=>some (.exit n,s)
  | .scope c=>T4 call lim f c s
  | .ret=>some (.ret,s)
  | .bad=>none
def Tb(t:Tr Aa)(m:TM):Nat×Option (Option Nat)→Option Aa
 | (i,none)=>some (CA t (.tmp i))
 | (i,some n)=>J4 m.tr.get n (CA t (.tmp i))
def WQ(t:Tr Aa)(m:TM):List (Nat×Option (Option Nat))→Option (List Aa)
 | []=>some []
 | x :: r=>match Tb t m x,WQ t m r with
  | some y,some ys=>some (y :: ys)
  | _,_=>none
def DZ(t:Tr Aa)(m:TM):List (Nat×Option (Option Nat))→Option Aa
 | [x]=>Tb t m x
 | xs=>match WQ t m xs with
  | some ys=>some (.tuple ys)
  | none=>none
def I4:Tr Aa→Nat→List Aa→Tr Aa
 | t,_,[]=>t
 | t,i,x :: r=>I4 (t.set depth i (some x)) (i+1) r
def Fz(BE:Nat→Option Av)(Hl:Au):Nat→Au
 | 0,_,_,_=>none
 | f+1,g,args,m=>
  match Hl g args m with
  | some r=>some r
  | none=>match BE g with
   | some af=>bif Nat.ble args.length af.ntmps then match T4 (Fz BE Hl f) m.next 1000 af.body ⟨I4 .nil 0 args,m,[]⟩ with
    | some (.exit _,_)=>none
    | some (_,s)=>match DZ s.t s.m af.results with
     | some v=>some (v,s.m,s.wl)
     | none=>none
    | none=>none
    else none
   | none=>none
def O2(n:Nat):Aq→Bool
 | .region _ ops=>ops.all fun o=>match o.dst with
  | some d=>decide (d<n)
  | none=>true
 | .seq a b | .cond _ a b=>O2 n a&&O2 n b
 | .block _ c | .loop c | .scope c=>O2 n c
 | _=>true
end Go.AE
end
section
namespace Go.AE
open Go.RowKit
theorem Tr.get_nil{α:Type}(n:Nat):(Tr.nil:Tr α).get n=none:=rfl
theorem Tr.Cp{α:Type}(l:Tr α)(v:Option α)(r:Tr α)(n:Nat):(Tr.node l v r).get n=if n=0 then v else if n % 2=1 then l.get (n / 2)else r.get (n / 2 - 1):=by
 show(bif Nat.beq n 0 then v else bif Nat.beq (n % 2) 1 then l.get (n / 2)else r.get (n / 2 - 1))=_
 by_cases h0:n=0
 ·subst h0; rfl
 ·have e0:Nat.beq n 0=false:=by
   cases hq:Nat.beq n 0 with
   | false=>rfl
   | true=>exact absurd (Nat.eq_of_beq_eq_true hq) h0
  rw[iN h0,e0];simp only[cond_false];by_cases h1:n % 2=1
  ·rw[iP h1,h1]; rfl
  ·rw[iN h1];have:Nat.beq (n % 2) 1=false:=by
    cases hq:Nat.beq (n % 2) 1 with
    | false=>rfl
    | true=>exact absurd (Nat.eq_of_beq_eq_true hq) h1
   rw[this]; rfl
theorem Tr.set_nil{α:Type}(d n:Nat)(x:Option α):Tr.set (d+1) .nil n x=if n=0 then .node .nil x .nil else if n % 2=1 then .node (Tr.set d .nil (n / 2) x) none .nil else .node .nil none (Tr.set d .nil (n / 2 - 1) x):=by
 show(bif Nat.beq n 0 then _ else bif Nat.beq (n % 2) 1 then _ else _)=_
 by_cases h0:n=0
 ·subst h0; rfl
 ·have e0:Nat.beq n 0=false:=by
   cases hq:Nat.beq n 0 with
   | false=>rfl
   | true=>exact absurd (Nat.eq_of_beq_eq_true hq) h0
  rw[iN h0,e0];simp only[cond_false];by_cases h1:n % 2=1
  ·rw[iP h1,h1]; rfl
  ·have e1:Nat.beq (n % 2) 1=false:=by
    cases hq:Nat.beq (n % 2) 1 with
    | false=>rfl
    | true=>exact absurd (Nat.eq_of_beq_eq_true hq) h1
   rw[iN h1,e1]; rfl
theorem Tr.Jl{α:Type}(d n:Nat)(l:Tr α)(v:Option α)(r:Tr α)(x:Option α):Tr.set (d+1) (.node l v r) n x=if n=0 then .node l x r else if n % 2=1 then .node (Tr.set d l (n / 2) x) v r else .node l v (Tr.set d r (n / 2 - 1) x):=by
 show(bif Nat.beq n 0 then _ else bif Nat.beq (n % 2) 1 then _ else _)=_
 by_cases h0:n=0
 ·subst h0; rfl
 ·have e0:Nat.beq n 0=false:=by
   cases hq:Nat.beq n 0 with
   | false=>rfl
   | true=>exact absurd (Nat.eq_of_beq_eq_true hq) h0
  rw[iN h0,e0];simp only[cond_false];by_cases h1:n % 2=1
  ·rw[iP h1,h1]; rfl
  ·have e1:Nat.beq (n % 2) 1=false:=by
    cases hq:Nat.beq (n % 2) 1 with
    | false=>rfl
    | true=>exact absurd (Nat.eq_of_beq_eq_true hq) h1
   rw[iN h1,e1]; rfl
theorem Tr.Ax{α:Type}:∀ (d:Nat) (t:Tr α) (n:Nat) (x:Option α) (k:Nat),n+1<2 ^ d→(Tr.set d t n x).get k=if k=n then x else t.get k
 | 0,_,n,_,_,h=>by simp at h
 | d+1,t,n,x,k,h=>by
  rw[Nat.pow_succ]at h;cases t with
  | nil=>
   rw[Tr.set_nil,Tr.get_nil];by_cases h0:n=0
   ·subst h0;rw[iP rfl,Tr.Cp,Tr.get_nil,Tr.get_nil];split<;>simp
   ·rw[iN h0];by_cases h1:n % 2=1
    ·rw[iP h1,Tr.Cp,Tr.get_nil];by_cases hk0:k=0
     ·subst hk0; rw[iP rfl,iN (by omega)]
     ·rw[iN hk0];by_cases hk1:k % 2=1
      ·rw[iP hk1,Tr.Ax d .nil (n / 2) x (k / 2) (by omega),Tr.get_nil]
       by_cases hkn:k=n
       ·subst hkn; simp
       ·rw[iN hkn,iN (by omega)]
      ·rw[iN hk1,iN (by omega)]
    ·rw[iN h1,Tr.Cp,Tr.get_nil];by_cases hk0:k=0
     ·subst hk0; rw[iP rfl,iN (by omega)]
     ·rw[iN hk0];by_cases hk1:k % 2=1
      ·rw[iP hk1,iN (by omega)]
      ·rw[iN hk1,Tr.Ax d .nil (n / 2 - 1) x (k / 2 - 1) (by omega),Tr.get_nil]
       by_cases hkn:k=n
       ·subst hkn; simp
       ·rw[iN hkn,iN (by omega)]
  | node l v r=>
   rw[Tr.Jl,Tr.Cp];by_cases h0:n=0
   ·subst h0;rw[iP rfl,Tr.Cp];by_cases hk0:k=0<;>simp[hk0]
   ·rw[iN h0];by_cases h1:n % 2=1
    ·rw[iP h1,Tr.Cp];by_cases hk0:k=0
     ·subst hk0; rw[iP rfl,iP rfl,iN (by omega)]
     ·rw[iN hk0,iN hk0];by_cases hk1:k % 2=1
      ·rw[iP hk1,iP hk1,Tr.Ax d l (n / 2) x (k / 2) (by omega)]
       by_cases hkn:k=n
       ·subst hkn; simp
       ·rw[iN hkn,iN (by omega)]
      ·rw[iN hk1,iN hk1,iN (by omega)]
    ·rw[iN h1,Tr.Cp];by_cases hk0:k=0
     ·subst hk0; rw[iP rfl,iP rfl,iN (by omega)]
     ·rw[iN hk0,iN hk0];by_cases hk1:k % 2=1
      ·rw[iP hk1,iP hk1,iN (by omega)]
      ·rw[iN hk1,iN hk1,Tr.Ax d r (n / 2 - 1) x (k / 2 - 1) (by omega)]
       by_cases hkn:k=n
       ·subst hkn; simp
       ·rw[iN hkn,iN (by omega)]
theorem MT{b:Nat}(h:b<bound):b+1<2 ^ depth:=by
 simp only[bound,depth]at *;omega
theorem TM.Ea{m:TM}{b:Nat}{x:Ag}(h:b<bound):(m.set b (some x)).mem=m.mem.set b x:=
 Mem.ext' (fun c=>by simp only[TM.mem,TM.set,Mem.Ax,Tr.Ax depth _ b _ c (MT h)]) rfl
theorem TM.CY{m:TM}{b:Nat}(h:b<bound):(m.set b none).mem=m.mem.del b:=
 Mem.ext' (fun c=>by simp only[TM.mem,TM.set,Mem.Bo,Tr.Ax depth _ b _ c (MT h)]) rfl
theorem RK{a b:Nat}(h:Nat.ble a b=false):b<a:=by
 rcases lG b a with h'|h'
 ·exact h'
 ·rw[Nat.ble_eq_true_of_le h']at h; cases h
theorem mV{b:Nat}{x:Option Ag}{r:List (Nat×Option Ag)}(h:FZ ((b,x) :: r)=true):b<bound∧FZ r=true:=by
 simp only[FZ]at h;cases hb:Nat.ble bound b with
 | true=>rw[hb]at h; cases h
 | false=>rw[hb]at h; exact⟨RK hb,h⟩
theorem TM.BS:∀ (d:List (Nat×Option Ag)) (m:TM),FZ d=true→(m.apply d).mem=m.mem.apply d
 | [],m,_=>rfl
 | (b,none) :: r,m,h=>by
  obtain⟨h1,h2⟩:=mV h;simp only[TM.apply,Mem.apply];rw[TM.BS r _ h2,TM.CY h1]
 | (b,some x) :: r,m,h=>by
  obtain⟨h1,h2⟩:=mV h;simp only[TM.apply,Mem.apply];rw[TM.BS r _ h2,TM.Ea h1]
theorem TM.Bw:∀ (d:List (Nat×Option Ag)) (m:TM),(m.apply d).next=m.next
 | [],_=>rfl
 | (b,x) :: r,m=>by simp only[TM.apply]; rw[TM.Bw r]; rfl
theorem Oz{lim:Nat}:∀ (d:List (Nat×Option Ag)) (wl:List Nat) (m:Mem) (c:Nat),c<lim→c∉Eh lim wl d→c∉wl∧(m.apply d).get c=m.get c
 | [],wl,m,c,_,h=>⟨h,rfl⟩
 | (b,x) :: r,wl,m,c,hc,h=>by
  simp only[Eh]at h;have key:∀ m':Mem,(c≠b→m'.get c=m.get c)→c≠b→(m'.apply r).get c=m'.get c→(m'.apply r).get c=m.get c:=fun m' h1 h2 h3=>by rw[h3,h1 h2]
  cases hb:Nat.ble lim b with
  | true=>
   rw[hb]at h;have hne:c≠b:=by
    have:=Nat.le_of_ble_eq_true hb;omega
   cases x with
   | none=>
    obtain⟨h1,h2⟩:=Oz r wl (m.del b) c hc h;exact⟨h1,by simp only[Mem.apply]; rw[h2]; simp[hne]⟩
   | some y=>
    obtain⟨h1,h2⟩:=Oz r wl (m.set b y) c hc h;exact⟨h1,by simp only[Mem.apply]; rw[h2]; simp[hne]⟩
  | false=>
   rw[hb]at h;cases x with
   | none=>
    obtain⟨h1,h2⟩:=Oz r (b :: wl) (m.del b) c hc h;simp only[mC,not_or]at h1;exact⟨h1.2,by simp only[Mem.apply]; rw[h2]; simp[h1.1]⟩
   | some y=>
    obtain⟨h1,h2⟩:=Oz r (b :: wl) (m.set b y) c hc h;simp only[mC,not_or]at h1;exact⟨h1.2,by simp only[Mem.apply]; rw[h2]; simp[h1.1]⟩
theorem Tu{lim:Nat}:∀ (d wl:List Nat) (c:Nat),c<lim→c∉Ge lim wl d→c∉wl∧c∉d
 | [],wl,c,_,h=>⟨h,by simp⟩
 | b :: r,wl,c,hc,h=>by
  simp only[Ge]at h;cases hb:Nat.ble lim b with
  | true=>
   rw[hb]at h;have:=Nat.le_of_ble_eq_true hb;obtain⟨h1,h2⟩:=Tu r wl c hc h;exact⟨h1,by simp only[mC,not_or]; exact⟨by omega,h2⟩⟩
  | false=>
   rw[hb]at h;obtain⟨h1,h2⟩:=Tu r (b :: wl) c hc h;simp only[mC,not_or]at h1;exact⟨h1.2,by simp only[mC,not_or]; exact⟨h1.1,h2⟩⟩
def Cg(n:Nat)(t:Tr Aa):List Aa:=(List.range n).map fun i=>CA t (.tmp i)
def EE(n:Nat)(t:Tr Aa):Prop:=∀ i,n≤i→t.get i=none
theorem SI(n:Nat)(t:Tr Aa):(Cg n t).length=n:=by simp[Cg]
theorem Xq{n:Nat}{t:Tr Aa}{i:Nat}(h:i<n):(Cg n t)[i]? = some (CA t (.tmp i)):=by
 simp[Cg,h]
theorem Js{n:Nat}{t:Tr Aa}(ht:EE n t):ev (Cg n t)=CA t:=by
 funext x
 cases x with
 | tmp i=>
  rcases lG i n with h|h
  ·simp only[ev,List.getD,Xq h,Option.getD_some]
  ·have e1:(Cg n t)[i]? = none:=List.getElem?_eq_none (by rw[SI]; exact h)
   simp only[ev,List.getD,e1,CA,ht i h,Option.getD_none]
 | const v=>rfl
 | fn f=>rfl
theorem JN{n:Nat}{t:Tr Aa}{d:Option Nat}{v:Aa}(hn:n≤bound)(ht:EE n t)(hd:∀ k,d=some k→k<n):EE n (S9 t d v)∧Cg n (S9 t d v)=put (Cg n t) d v:=by
 cases d with
 | none=>exact ⟨ht,rfl⟩
 | some k=>
  have hk:=hd k rfl;have hs:=Tr.Ax depth t k (some v);have hb:k+1<2 ^ depth:=MT (by omega)
  refine⟨fun i hi=>?_,?_⟩
  ·simp only[S9];rw[hs i hb,iN (by omega)]
   exact ht i hi
  ·apply List.ext_getElem?;intro i;simp only[put];rw[List.getElem?_set];rcases lG i n with h|h
   ·rw[Xq h,Xq h];by_cases hki:k=i
    ·subst hki;rw[iP rfl,iP (by rw[SI]; exact hk)]
     simp only[S9,CA];rw[hs k hb,iP rfl]
    ·rw[iN hki];simp only[S9,CA];rw[hs i hb,iN (fun e=>hki e.symm)]
   ·rw[List.getElem?_eq_none (by rw[SI]; exact h),List.getElem?_eq_none (by rw[SI]; exact h)]
    rw[iN (by omega)]
end Go.AE
end
section
namespace Go.AE
open Go.RowKit
variable {P:Program}
def P4(P:Program)(call:Au):Prop:=
 ∀ g args m v m' wl,call g args m=some (v,m',wl)→m.next≤m'.next∧(∀ c,c<m.next→c∉wl→m'.mem.get c=m.mem.get c) ∧
  ∀ id,Az P g args m.mem [id] fun r m''=>r=v∧m''=m'.mem
theorem bM{n:Nat}{t:Tr Aa}(ht:EE n t)(g:Option (Nat×Bool)):T9 (Cg n t) g=MD t g:=by
 cases g with
 | none=>rfl
 | some dw=>
  obtain⟨d,w⟩:=dw;have:(Cg n t).getD d Aj=CA t (.tmp d):=by
   have:=congrFun (Js ht) (.tmp d);exact this
  simp only[T9,MD,this];rfl
theorem qM{n:Nat}{t:Tr Aa}(ht:EE n t)(f:Ah)(xs:List Ah):callee (Cg n t) f xs=Rj t f xs:=by
 simp only[callee,Rj,Js ht];rfl
theorem SP{n id:Nat}{t:Tr Aa}{m:TM}{op:AQ}{v:Aa}{d:List (Nat×Option Ag)}(ht:EE n t)(h:Ak id (CA t) m.tr.get op=some (v,d))(hd:FZ d=true) :
 Ae id (Cg n t) m.mem op=some (v,(m.apply d).mem):=by
 rw[TM.BS d m hd];refine Ow ?_;rw[Js ht];exact h
def RS.st(n:Nat)(s:RS):AO:=⟨Cg n s.t,s.m.mem⟩
structure BP (n lim:Nat) (s s':RS):Prop where
 t:EE n s'.t
 next:s.m.next≤s'.m.next
 keep:∀ c,c<lim→c∉s'.wl→c∉s.wl∧s'.m.mem.get c=s.m.mem.get c
theorem BP.trans{n lim:Nat}{a b c:RS}(h:BP n lim a b)(h':BP n lim b c):BP n lim a c:=
 ⟨h'.t,Nat.le_trans h.next h'.next,fun x hx hw=>by
  obtain⟨h1,h2⟩:=h'.keep x hx hw;obtain⟨h3,h4⟩:=h.keep x hx h1;exact⟨h3,h2.trans h4⟩⟩
theorem ZV{n:Nat}{o:Af}(h:(match o.dst with|some d=>decide (d<n)|none=>true)=true):∀ k,o.dst=some k→k<n:=by
 intro k hk;rw[hk]at h;simpa using h
theorem Sc{call:Au}(Aw:P4 P call){n lim base:Nat}(hn:n≤bound):∀ (ops:List Af) (i:Nat) (s s':RS),EE n s.t→lim≤s.m.next →
 (ops.all fun o=>match o.dst with|some d=>decide (d<n)|none=>true)=true→En call lim base ops i s=some s' →
 BP n lim s s' ∧ ∀ K:AO→Prop,K (s'.st n)→N7 P base ops i K (Cg n s.t) s.m.mem
 | [],i,s,s',ht,_,_,h=>by
  simp only[En,oI]at h;subst h;exact⟨⟨ht,lR _,fun c _ hw=>⟨hw,rfl⟩⟩,fun K hK=>hK⟩
 | o :: r,i,s,s',ht,hlim,hd,h=>by
  simp only[List.all_cons,bA]at hd;obtain⟨hd1,hd2⟩:=hd;have Ej:=ZV hd1;simp only[En]at h;cases hw:MD s.t o.guard with
  | none=>simp[hw]at h
  | some q=>
   have hwA:T9 (Cg n s.t) o.guard=some q:=by rw[bM ht]; exact hw
   cases q with
   | false=>
    simp only[hw]at h;obtain⟨p1,p2⟩:=JN (v:=Aj) hn ht Ej;obtain⟨h1,h2⟩:=Sc Aw hn r (i+1) ⟨S9 s.t o.dst Aj,s.m,s.wl⟩ s' p1 hlim hd2 h;refine⟨⟨h1.t,h1.next,h1.keep⟩,fun K hK=>?_⟩
    simp only[N7,hwA];rw[← p2];exact h2 K hK
   | true=>
    simp only[hw]at h;have other:(∀ f xs,o.op≠.call f xs)→(match Ak (base+i) (CA s.t) s.m.tr.get o.op with
     | some (v,[])=>En call lim base r (i+1) ⟨S9 s.t o.dst v,s.m,s.wl⟩
     | some (v,d)=>bif FZ d then En call lim base r (i+1) ⟨S9 s.t o.dst v,s.m.apply d,Eh lim s.wl d⟩ else none
     | none=>none)=some s'→BP n lim s s' ∧ ∀ K:AO→Prop,K (s'.st n) → ∃ v m',Ae (base+i) (Cg n s.t) s.m.mem o.op=some (v,m')∧N7 P base r (i+1) K (put (Cg n s.t) o.dst v) m':=by
     intro hne hh;cases hs:Ak (base+i) (CA s.t) s.m.tr.get o.op with
     | none=>simp[hs]at hh
     | some vd=>
      obtain⟨v,d⟩:=vd;obtain⟨p1,p2⟩:=JN (v:=v) hn ht Ej;cases d with
      | nil=>
       simp only[hs]at hh;obtain⟨h1,h2⟩:=Sc Aw hn r (i+1) ⟨S9 s.t o.dst v,s.m,s.wl⟩ s' p1 hlim hd2 hh;exact⟨⟨h1.t,h1.next,h1.keep⟩,fun K hK=>⟨v,s.m.mem,SP ht hs rfl,by rw[← p2]; exact h2 K hK⟩⟩
      | cons e d=>
       simp only[hs]at hh;cases ho:FZ (e :: d)with
       | false=>rw[ho]at hh; cases hh
       | true=>
        rw[ho]at hh;simp only[cond_true]at hh;obtain⟨h1,h2⟩:=Sc Aw hn r (i+1) _ s' p1 (by rw[TM.Bw]; exact hlim) hd2 hh
        refine⟨⟨h1.t,by have:=h1.next; rw[TM.Bw]at this; exact this,fun c hc hw'=>?_⟩,fun K hK=>⟨v,_,SP ht hs ho,by rw[← p2]; exact h2 K hK⟩⟩
        obtain⟨k1,k2⟩:=h1.keep c hc hw';obtain⟨k3,k4⟩:=Oz (e :: d) s.wl s.m.mem c hc k1;exact⟨k3,by rw[k2,TM.BS _ _ ho]; exact k4⟩
    by_cases Cm:∃ f xs,o.op=.call f xs
    ·obtain⟨f,xs,hop⟩:=Cm;simp only[hop]at h;cases hc:Rj s.t f xs with
     | none=>simp[hc]at h
     | some ga=>
      obtain⟨g,args⟩:=ga;simp only[hc]at h;cases CM:call g args s.m with
      | none=>simp[CM]at h
      | some vmw=>
       obtain⟨v,m',wl⟩:=vmw;simp only[CM]at h;obtain⟨q1,q2,q3⟩:=Aw g args s.m v m' wl CM;obtain⟨p1,p2⟩:=JN (v:=v) hn ht Ej;obtain⟨h1,h2⟩:=Sc Aw hn r (i+1) _ s' p1 (Nat.le_trans hlim q1) hd2 h;refine⟨⟨h1.t,Nat.le_trans q1 h1.next,fun c hc' hw'=>?_⟩,fun K hK=>?_⟩
       ·obtain⟨k1,k2⟩:=h1.keep c hc' hw';obtain⟨k3,k4⟩:=Tu wl s.wl c hc' k1;exact⟨k3,by rw[k2]; exact q2 c (by omega) k4⟩
       ·have hcA:callee (Cg n s.t) f xs=some (g,args):=by rw[qM ht]; exact hc
        simp only[N7,hwA,hop,hcA];refine(q3 (base+i)).mono fun y m'' hy=>?_
        obtain⟨rfl,rfl⟩:=hy;rw[← p2];exact h2 K hK
    ·have hne:∀ f xs,o.op≠.call f xs:=fun f xs he=>Cm ⟨f,xs,he⟩
     have h':(match Ak (base+i) (CA s.t) s.m.tr.get o.op with
      | some (v,[])=>En call lim base r (i+1) ⟨S9 s.t o.dst v,s.m,s.wl⟩
      | some (v,d)=>bif FZ d then En call lim base r (i+1) ⟨S9 s.t o.dst v,s.m.apply d,Eh lim s.wl d⟩ else none
      | none=>none)=some s':=by
      cases hop:o.op<;>rw[hop]at h<;>first|(exact absurd hop (hne _ _))|exact h
     obtain⟨h1,h2⟩:=other hne h';refine⟨h1,fun K hK=>?_⟩
     obtain⟨v,m',h3,h4⟩:=h2 K hK;simp only[N7,hwA];cases hop:o.op<;>rw[hop]at h3<;>first|(exact absurd hop (hne _ _))|(simp only[h3]; exact h4)
end Go.AE
end
section
namespace Go.AE
open Go.RowKit
variable {P:Program}
theorem El{x:Nat}:∀ {l:List Nat},(F3 x l=true→Jg x l∧x∈l)∧(F3 x l=false→Iz x l∧x∉l)
 | []=>⟨fun h=>(by cases h),fun _=>⟨trivial,by simp⟩⟩
 | y :: r=>by
  have ih:=El (x:=x) (l:=r);simp only[F3];cases hb:Nat.beq x y with
  | true=>
   have:=Nat.eq_of_beq_eq_true hb;exact⟨fun _=>⟨.inl this,by simp[this]⟩,fun h=>(by cases h)⟩
  | false=>
   have hne:x≠y:=fun e=>by subst e; rw[Nat.beq_refl]at hb; cases hb
   refine⟨fun h=>?_,fun h=>?_⟩
   ·obtain⟨h1,h2⟩:=ih.1 h;exact⟨.inr h1,List.mem_cons_of_mem _ h2⟩
   ·obtain⟨h1,h2⟩:=ih.2 h;exact⟨⟨hne,h1⟩,by simp[hne,h2]⟩
theorem OU:∀ {xs l:List Nat},LH xs l=true→E4 xs l
 | [],_,_=>trivial
 | x :: r,l,h=>by
  simp only[LH]at h;cases hb:F3 x l with
  | true=>rw[hb]at h; cases h
  | false=>rw[hb]at h; exact⟨(El.2 hb).1,OU h⟩
theorem SQ{n:Nat}:∀ {l:List Nat},On n l=true→A0 n l
 | [],_=>trivial
 | x :: r,h=>by
  simp only[On]at h;cases hb:Nat.ble n x with
  | true=>rw[hb]at h; cases h
  | false=>rw[hb]at h; exact⟨RK hb,SQ h⟩
theorem bP:∀ {xs l:List Nat},Jn xs l=true→EC xs l
 | [],_,_=>trivial
 | x :: r,l,h=>by
  simp only[Jn]at h;cases hb:F3 x l with
  | false=>rw[hb]at h; cases h
  | true=>rw[hb]at h; exact⟨(El.1 hb).1,bP h⟩
theorem FT.Gj{f g:FT}(h:FT.GI f g=true):FT.indep f g:=by
 cases f<;>cases g<;>simp only[FT.GI,bA]at h
 ·exact⟨OU h.1,OU h.2⟩
 ·exact⟨OU h.1.1.1.1,SQ h.1.1.1.2,OU h.1.1.2,SQ h.1.2,bP h.2⟩
 ·exact⟨OU h.1.1.1.1,SQ h.1.1.1.2,OU h.1.1.2,SQ h.1.2,bP h.2⟩
 ·cases h
theorem Ys{fs:List FT}{ft:FT}:∀ {un:List Nat},MW fs ft un=true→O0 fs ft un
 | [],_=>trivial
 | i :: r,h=>by
  simp only[MW,bA]at h;exact⟨FT.Gj h.1,Ys h.2⟩
theorem uV{id:Nat}:∀ {x:List Nat},Vn id x=true→id∉x ∧ ∀ c,c∈x→c<bound
 | [],_=>⟨by simp,fun c hc=>by simp at hc⟩
 | c :: r,h=>by
  simp only[Vn]at h;cases hb:Nat.ble bound c with
  | true=>rw[hb]at h; cases h
  | false=>
   rw[hb]at h;simp only[cond_false]at h;cases hq:Nat.beq c id with
   | true=>rw[hq]at h; cases h
   | false=>
    rw[hq]at h;obtain⟨h1,h2⟩:=uV (x:=r) h;have hne:id≠c:=fun e=>by subst e; rw[Nat.beq_refl]at hq; cases hq
    exact⟨by simp[hne,h1],fun b hb'=>by
     simp only[mC]at hb';rcases hb' with rfl|hb'
     ·exact RK hb
     ·exact h2 b hb'⟩
theorem vD:∀ (x:List Nat) (m:TM),(∀ c,c∈x→c<bound)→(Hw m x).mem=m.mem.less x∧(Hw m x).next=m.next
 | [],m,_=>⟨Mem.ext' (fun c=>by simp[Hw,Mem.less]) rfl,rfl⟩
 | b :: r,m,h=>by
  obtain⟨h1,h2⟩:=vD r (m.set b none) (fun c hc=>h c (List.mem_cons_of_mem _ hc))
  simp only[Hw];refine⟨?_,h2⟩;rw[h1,TM.CY (h b (by simp))]
  refine Mem.ext' (fun c=>?_) rfl
  simp only[Mem.less,Mem.Bo,mC];by_cases hc:c=b
  ·subst hc; simp
  ·by_cases Dx:c∈r<;>simp[hc,Dx]
theorem tG(m0:TM):∀ (x:List Nat) (m:TM),(∀ c,c∈x→c<bound)→(KO m0 m x).next=m.next∧(∀ c,(KO m0 m x).tr.get c=if c∈x then m0.tr.get c else m.tr.get c)
 | [],m,_=>⟨rfl,fun c=>by simp[KO]⟩
 | b :: r,m,hx=>by
  obtain⟨h1,h2⟩:=tG m0 r (m.set b (m0.tr.get b)) (fun c hc=>hx c (List.mem_cons_of_mem _ hc))
  simp only[KO];refine⟨h1,fun c=>?_⟩
  rw[h2 c];have hset:(m.set b (m0.tr.get b)).tr.get c=if c=b then m0.tr.get b else m.tr.get c:=Tr.Ax depth _ b _ c (MT (hx b (by simp)))
  by_cases Dx:c∈r
  ·rw[iP Dx,iP (List.mem_cons_of_mem _ Dx)]
  ·rw[iN Dx,hset];by_cases hcb:c=b
   ·subst hcb; simp
   ·rw[iN hcb,iN (by simp[hcb,Dx])]
theorem qE{m:TM}:∀ {x:List Nat},SU m x=true → ∀ c,c∈x→m.tr.get c=none
 | [],_,c,hc=>by simp at hc
 | b :: r,h,c,hc=>by
  simp only[SU]at h;split at h<;>first|(cases h; done)|skip
  rename_i hb;simp only[mC]at hc;rcases hc with rfl|hc
  ·exact hb
  ·exact qE h c hc
theorem Wq(id:Nat)(t:List Aa)(op:AQ):T8 id t op=U9 id (ev t) op:=by cases op<;>rfl
theorem Xz(t:List Aa)(op:AQ):L8 t op=T2 (ev t) op:=by cases op<;>rfl
theorem Tw{call:Au}(Aw:P4 P call){n lim base:Nat}(hn:n≤bound):∀ (ops:List Af) (fs:List FT) (s s':RS),EE n s.t→lim≤s.m.next →
 (ops.all fun o=>match o.dst with|some d=>decide (d<n)|none=>true)=true→Fc call lim base ops fs s=some s' →
 BP n lim s s' ∧ ∀ K:AO→Prop,K (s'.st n)→R8 P base ops fs K (Cg n s.t) s.m.mem
 | [],fs,s,s',ht,_,_,h=>by
  simp only[Fc,oI]at h;subst h;exact⟨⟨ht,lR _,fun c _ hw=>⟨hw,rfl⟩⟩,fun K hK=>hK⟩
 | o :: r,fs,s,s',ht,hlim,hd,h=>by
  simp only[List.all_cons,bA]at hd;obtain⟨hd1,hd2⟩:=hd;have Ej:=ZV hd1;simp only[Fc]at h;cases hw:MD s.t o.guard with
  | none=>simp[hw]at h
  | some q=>
   have hwA:T9 (Cg n s.t) o.guard=some q:=by rw[bM ht]; exact hw
   cases q with
   | false=>
    simp only[hw]at h;obtain⟨p1,p2⟩:=JN (v:=Aj) hn ht Ej;obtain⟨h1,h2⟩:=Tw Aw hn r _ ⟨S9 s.t o.dst Aj,s.m,s.wl⟩ s' p1 hlim hd2 h;refine⟨⟨h1.t,h1.next,h1.keep⟩,fun K hK=>?_⟩
    simp only[R8,hwA];rw[← p2];exact h2 K hK
   | true=>
    simp only[hw]at h;by_cases Cm:∃ f xs,o.op=.call f xs
    ·obtain⟨f,xs,hop⟩:=Cm;simp only[hop]at h;cases hc:Rj s.t f xs with
     | none=>simp[hc]at h
     | some ga=>
      obtain⟨g,args⟩:=ga;simp only[hc]at h;generalize hx:o.un.map (base + ·)++Vx base fs.length r (fs.length+1)=x at h;cases CM:call g args (Hw s.m x)with
      | none=>simp[CM]at h
      | some vmw=>
       obtain⟨v,m',wl⟩:=vmw;simp only[CM]at h;cases hchk:(MW fs (.call wl x s.m.next) o.un&&Vn (base+fs.length) x&&SU m' x)with
       | false=>rw[hchk]at h; cases h
       | true=>
        rw[hchk]at h;simp only[cond_true]at h;simp only[bA]at hchk;obtain⟨⟨hi,hX⟩,hN⟩:=hchk;obtain⟨hid,hbx⟩:=uV hX;obtain⟨l1,l2⟩:=vD x s.m hbx;obtain⟨q1,q2,q3⟩:=Aw g args _ v m' wl CM;obtain⟨b1,b2⟩:=tG s.m x m' hbx;obtain⟨p1,p2⟩:=JN (v:=v) hn ht Ej;rw[l2]at q1 q2;obtain⟨h1,h2⟩:=Tw Aw hn r _ ⟨S9 s.t o.dst v,KO s.m m' x,Ge lim s.wl wl⟩ s' p1 (by show lim≤(KO s.m m' x).next; rw[b1]; omega) hd2 h
        have hless:∀ c,c∉x→(Hw s.m x).mem.get c=s.m.mem.get c:=fun c hcx=>by rw[l1]; simp[Mem.less,hcx]
        refine⟨⟨h1.t,by have:=h1.next; simp only[b1]at this; omega,fun c hc' hw'=>?_⟩,fun K hK=>?_⟩
        ·obtain⟨k1,k2⟩:=h1.keep c hc' hw';obtain⟨k3,k4⟩:=Tu wl s.wl c hc' k1;refine⟨k3,?_⟩;rw[k2];show(KO s.m m' x).tr.get c=s.m.tr.get c;rw[b2 c];by_cases hcx:c∈x
         ·rw[iP hcx]
         ·rw[iN hcx];have:=q2 c (by omega) k4
          rw[hless c hcx]at this;exact this
        ·have hcA:callee (Cg n s.t) f xs=some (g,args):=by rw[qM ht]; exact hc
         simp only[R8,hwA,hop,hcA];refine⟨wl,x,v,(KO s.m m' x).mem,⟨m'.mem,hid,fun c hc'=>qE hN c hc',q1,b1,fun c=>?_,fun c c1 c2 c3=>?_,by rw[← l1]; exact q3 (base+fs.length)⟩,Ys hi,?_⟩
         ·exact b2 c
         ·have:=q2 c c2 c1;rw[hless c c3]at this;exact this
         ·rw[← p2];exact h2 K hK
    ·have hne:∀ f xs,o.op≠.call f xs:=fun f xs he=>Cm ⟨f,xs,he⟩
     have h':(match Ak (base+fs.length) (CA s.t) s.m.tr.get o.op with
      | some (v,d)=>bif MW fs (FT.ops (U9 (base+fs.length) (CA s.t) o.op) (T2 (CA s.t) o.op)) o.un&&FZ d then Fc call lim base r (fs++[FT.ops (U9 (base+fs.length) (CA s.t) o.op) (T2 (CA s.t) o.op)]) ⟨S9 s.t o.dst v,s.m.apply d,Eh lim s.wl d⟩ else none
      | none=>none)=some s':=by
      cases hop:o.op<;>rw[hop]at h<;>first|(exact absurd hop (hne _ _))|exact h
     cases hs:Ak (base+fs.length) (CA s.t) s.m.tr.get o.op with
     | none=>simp[hs]at h'
     | some vd=>
      obtain⟨v,d⟩:=vd;simp only[hs]at h';cases hchk:(MW fs (FT.ops (U9 (base+fs.length) (CA s.t) o.op) (T2 (CA s.t) o.op)) o.un&&FZ d)with
      | false=>rw[hchk]at h'; cases h'
      | true=>
       rw[hchk]at h';simp only[cond_true]at h';simp only[bA]at hchk;obtain⟨hi,ho⟩:=hchk;obtain⟨p1,p2⟩:=JN (v:=v) hn ht Ej;obtain⟨h1,h2⟩:=Tw Aw hn r _ ⟨S9 s.t o.dst v,s.m.apply d,Eh lim s.wl d⟩ s' p1 (by show lim≤(s.m.apply d).next; rw[TM.Bw]; exact hlim) hd2 h'
       refine⟨⟨h1.t,by have:=h1.next; simp only[TM.Bw]at this; exact this,fun c hc hw'=>?_⟩,fun K hK=>?_⟩
       ·obtain⟨k1,k2⟩:=h1.keep c hc hw';obtain⟨k3,k4⟩:=Oz d s.wl s.m.mem c hc k1;exact⟨k3,by rw[k2]; show(s.m.apply d).mem.get c=_; rw[TM.BS _ _ ho]; exact k4⟩
       ·have h3:=SP (n:=n) ht hs ho;have h4:O0 fs (.ops (T8 (base+fs.length) (Cg n s.t) o.op) (L8 (Cg n s.t) o.op)) o.un∧R8 P base r (fs++[.ops (T8 (base+fs.length) (Cg n s.t) o.op) (L8 (Cg n s.t) o.op)]) K (put (Cg n s.t) o.dst v) (s.m.apply d).mem:=by
         rw[Wq,Xz,Js ht,← p2];exact⟨Ys hi,h2 K hK⟩
        simp only[R8,hwA];cases hop:o.op<;>rw[hop]at h3 h4<;>first|(exact absurd hop (hne _ _))|(simp only[h3]; exact h4)
end Go.AE
end
section
namespace Go.AE
open Go.RowKit
variable {P:Program}
def CV.exit':CV→Exit
 | .normal=>.normal
 | .exit n=>.exit n
 | .ret=>.ret
theorem Wf{a b:Nat}(h:Nat.ble a b=true):a≤b:=Nat.le_of_ble_eq_true h
theorem Xy(m:TM)(k:Nat):(⟨m.tr,k⟩:TM).mem=m.mem.at k:=rfl
theorem YB{call:Au}(Aw:P4 P call){n lim:Nat}(hn:n≤bound):∀ (f:Nat) (c:Aq) (s s':RS) (e:CV),EE n s.t→lim≤s.m.next→O2 n c=true→T4 call lim f c s=some (e,s') →
 BP n lim s s' ∧ ∀ Q:Exit→AO→Prop,Q e.exit' (s'.st n)→Cy P c Q (s.st n):=by
 intro f
 induction f using Nat.strongRecOn with
 | ind f ih=>
  intro c s s' e ht hlim hd h;cases f with
  | zero=>simp[T4]at h
  | succ f=>
   have same:BP n lim s s:=⟨ht,lR _,fun c _ hw=>⟨hw,rfl⟩⟩
   cases c with
   | skip=>
    simp only[T4,oI,AP]at h;obtain⟨rfl,rfl⟩:=h;exact⟨same,fun Q hQ=>hQ⟩
   | label l=>
    simp only[T4,oI,AP]at h;obtain⟨rfl,rfl⟩:=h;exact⟨same,fun Q hQ=>hQ⟩
   | exit i=>
    simp only[T4,oI,AP]at h;obtain⟨rfl,rfl⟩:=h;exact⟨same,fun Q hQ=>hQ⟩
   | ret=>
    simp only[T4,oI,AP]at h;obtain⟨rfl,rfl⟩:=h;exact⟨same,fun Q hQ=>hQ⟩
   | bad=>simp[T4]at h
   | region draw ops=>
    cases draw with
    | false=>
     simp only[T4]at h;cases hb:Nat.ble (s.m.next+ops.length) bound with
     | false=>rw[hb]at h; cases h
     | true=>
      rw[hb]at h;simp only[cond_true]at h;cases hr:En call lim s.m.next ops 0 ⟨s.t,⟨s.m.tr,s.m.next+ops.length⟩,s.wl⟩ with
      | none=>simp[hr]at h
      | some s2=>
       simp only[hr,oI,AP]at h;obtain⟨rfl,rfl⟩:=h;obtain⟨h1,h2⟩:=Sc Aw hn ops 0 ⟨s.t,⟨s.m.tr,s.m.next+ops.length⟩,s.wl⟩ s2 ht (by show lim≤s.m.next+ops.length; omega) hd hr
       refine⟨⟨h1.t,Nat.le_trans (Nat.le_add_right _ _) h1.next,h1.keep⟩,fun Q hQ=>?_⟩
       exact h2 (Q .normal) hQ
    | true=>
     simp only[T4]at h;cases hb:Nat.ble (s.m.next+ops.length) bound with
     | false=>rw[hb]at h; cases h
     | true=>
      rw[hb]at h;simp only[cond_true]at h;cases hr:Fc call lim s.m.next ops [] ⟨s.t,⟨s.m.tr,s.m.next+ops.length⟩,s.wl⟩ with
      | none=>simp[hr]at h
      | some s2=>
       simp only[hr,oI,AP]at h;obtain⟨rfl,rfl⟩:=h;obtain⟨h1,h2⟩:=Tw Aw hn ops [] ⟨s.t,⟨s.m.tr,s.m.next+ops.length⟩,s.wl⟩ s2 ht (by show lim≤s.m.next+ops.length; omega) hd hr
       refine⟨⟨h1.t,Nat.le_trans (Nat.le_add_right _ _) h1.next,h1.keep⟩,fun Q hQ=>?_⟩
       exact h2 (Q .normal) hQ
   | seq a b=>
    simp only[O2,bA]at hd;simp only[T4]at h;cases hr:T4 call lim f a s with
    | none=>simp[hr]at h
    | some es=>
     obtain⟨e2,s2⟩:=es;obtain⟨h1,h2⟩:=ih f (Nat.lt_succ_self f) a s s2 e2 ht hlim hd.1 hr;cases e2 with
     | normal=>
      simp only[hr]at h;obtain⟨h3,h4⟩:=ih f (Nat.lt_succ_self f) b s2 s' e h1.t (Nat.le_trans hlim h1.next) hd.2 h;exact⟨h1.trans h3,fun Q hQ=>h2 _ (h4 Q hQ)⟩
     | exit i=>
      simp only[hr,oI,AP]at h;obtain⟨rfl,rfl⟩:=h;exact⟨h1,fun Q hQ=>h2 _ hQ⟩
     | ret=>
      simp only[hr,oI,AP]at h;obtain⟨rfl,rfl⟩:=h;exact⟨h1,fun Q hQ=>h2 _ hQ⟩
   | cond x a b=>
    simp only[O2,bA]at hd;simp only[T4]at h;have hx:ev (Cg n s.t) x=CA s.t x:=congrFun (Js ht) x;split at h
    ·rename_i hb;obtain⟨h1,h2⟩:=ih f (Nat.lt_succ_self f) a s s' e ht hlim hd.1 h;refine⟨h1,fun Q hQ=>?_⟩
     simp only[Cy,RS.st,hx,hb];exact h2 Q hQ
    ·rename_i hb;obtain⟨h1,h2⟩:=ih f (Nat.lt_succ_self f) b s s' e ht hlim hd.2 h;refine⟨h1,fun Q hQ=>?_⟩
     simp only[Cy,RS.st,hx,hb];exact h2 Q hQ
    ·cases h
   | block i c=>
    simp only[O2]at hd;simp only[T4]at h;cases hr:T4 call lim f c s with
    | none=>simp[hr]at h
    | some es=>
     obtain⟨e2,s2⟩:=es;obtain⟨h1,h2⟩:=ih f (Nat.lt_succ_self f) c s s2 e2 ht hlim hd hr;cases e2 with
     | normal=>
      simp only[hr,oI,AP]at h;obtain⟨rfl,rfl⟩:=h;exact⟨h1,fun Q hQ=>h2 _ hQ⟩
     | ret=>
      simp only[hr,oI,AP]at h;obtain⟨rfl,rfl⟩:=h;exact⟨h1,fun Q hQ=>h2 _ hQ⟩
     | exit k=>
      simp only[hr]at h;cases hb:Nat.beq k i with
      | true=>
       rw[hb]at h;simp only[cond_true,oI,AP]at h;obtain⟨rfl,rfl⟩:=h;have:=Nat.eq_of_beq_eq_true hb;subst this;exact⟨h1,fun Q hQ=>h2 _ (by simp only[CV.exit',Is,if_true]; exact hQ)⟩
      | false=>
       rw[hb]at h;simp only[cond_false,oI,AP]at h;obtain⟨rfl,rfl⟩:=h;have hne:k≠i:=fun e=>by subst e; rw[Nat.beq_refl]at hb; cases hb
       exact⟨h1,fun Q hQ=>h2 _ (by simp only[CV.exit',Is,iN hne]; exact hQ)⟩
   | scope c=>
    simp only[O2]at hd;simp only[T4]at h;obtain⟨h1,h2⟩:=ih f (Nat.lt_succ_self f) c s s' e ht hlim hd h;refine⟨h1,fun Q hQ=>h2 _ ?_⟩
    cases e<;>exact hQ
   | loop c=>
    have hdl:=hd;simp only[O2]at hd;have hfin:BP n lim s s':=by
     simp only[T4]at h;cases hr:T4 call lim f c s with
     | none=>simp[hr]at h
     | some es=>
      obtain⟨e2,s2⟩:=es;obtain⟨h1,_⟩:=ih f (Nat.lt_succ_self f) c s s2 e2 ht hlim hd hr;cases e2 with
      | normal=>
       simp only[hr]at h;exact h1.trans (ih f (Nat.lt_succ_self f) (.loop c) s2 s' e h1.t (Nat.le_trans hlim h1.next) hdl h).1
      | exit i=>
       simp only[hr,oI,AP]at h;obtain⟨rfl,rfl⟩:=h;exact h1
      | ret=>
       simp only[hr,oI,AP]at h;obtain⟨rfl,rfl⟩:=h;exact h1
    refine⟨hfin,fun Q hQ=>?_⟩
    refine⟨fun k σ=>k≤f ∧ ∃ s1,σ=s1.st n∧EE n s1.t∧lim≤s1.m.next∧T4 call lim (k+1) (.loop c) s1=some (e,s'),⟨f,_,.refl _,lR _,s,rfl,ht,hlim,h⟩,?_⟩
    rintro k σ ⟨hkf,s1,rfl,ht1,hl1,hr1⟩;simp only[T4]at hr1;cases hr:T4 call lim k c s1 with
    | none=>simp[hr]at hr1
    | some es=>
     obtain⟨e2,s2⟩:=es;obtain⟨h1,h2⟩:=ih k (by omega) c s1 s2 e2 ht1 hl1 hd hr
     refine h2 _ ?_;cases e2 with
     | normal=>
      simp only[hr]at hr1;cases k with
      | zero=>simp[T4]at hr1
      | succ k=>exact ⟨k,s2.st n,Nat.lt_succ_self k,.refl _,by omega,s2,rfl,h1.t,Nat.le_trans hl1 h1.next,hr1⟩
     | exit i=>
      simp only[hr,oI,AP]at hr1;obtain⟨rfl,rfl⟩:=hr1;exact hQ
     | ret=>
      simp only[hr,oI,AP]at hr1;obtain⟨rfl,rfl⟩:=hr1;exact hQ
end Go.AE
end
section
namespace Go.AE
open Go.RowKit
variable {P:Program}
def LJ(P:Program)(BE:Nat→Option Av):Prop:=
 ∀ g af,BE g=some af→(∃ fn,P.funcs[g]? = some fn∧Bt P fn=some af)∧O2 af.ntmps af.body=true∧af.ntmps≤bound
theorem tQ:∀ (args:List Aa) (t:Tr Aa) (i k:Nat),i+args.length≤bound→(I4 t i args).get k=if i≤k∧k<i+args.length then args[k - i]? else t.get k
 | [],t,i,k,_=>by simp[I4]; intro h1 h2; omega
 | x :: r,t,i,k,h=>by
  simp only[lC]at h ⊢;simp only[I4];rw[tQ r _ (i+1) k (by omega),Tr.Ax depth t i (some x) k (MT (by omega))]
  by_cases h1:i+1≤k∧k<i+1+r.length
  ·rw[iP h1,iP (by omega)]
   have:k - i=(k - (i+1))+1:=by omega
   rw[this,List.getElem?_cons_succ]
  ·rw[iN h1];by_cases h2:k=i
   ·subst h2;rw[iP rfl,iP (by omega)]
    simp
   ·rw[iN h2,iN (by omega)]
theorem WG{n:Nat}{args:List Aa}(hn:n≤bound)(hl:args.length≤n):EE n (I4 .nil 0 args)∧Cg n (I4 .nil 0 args)=args++List.replicate (n - args.length) Aj:=by
 have hg:=fun k=>tQ args .nil 0 k (by omega)
 refine⟨fun i hi=>?_,?_⟩
 ·rw[hg i,iN (by omega)]; rfl
 ·apply List.ext_getElem?;intro i;rcases lG i n with h|h
  ·rw[Xq h];simp only[CA];rw[hg i];rw[List.getElem?_append];by_cases h2:i<args.length
   ·rw[iP (by omega),iP h2]
    simp[h2]
   ·rw[iN (by omega),iN h2]
    simp only[Tr.get_nil];rw[List.getElem?_replicate,iP (by omega)]
  ·rw[List.getElem?_eq_none (by rw[SI]; exact h),List.getElem?_eq_none (by simp; omega)]
theorem nG{n:Nat}{t:Tr Aa}{m:TM}(ht:EE n t)(x:Nat×Option (Option Nat)):A7 (Cg n t) m.mem x=Tb t m x:=by
 obtain⟨i,o⟩:=x;have h:(Cg n t).getD i Aj=CA t (.tmp i):=congrFun (Js ht) (.tmp i);cases o with
 | none=>simp only[A7,Tb,h]
 | some k=>simp only[A7,Tb,h,Zu]; rfl
theorem oV{n:Nat}{t:Tr Aa}{m:TM}(ht:EE n t):∀ (xs:List (Nat×Option (Option Nat))),E7 (Cg n t) m.mem xs=WQ t m xs
 | []=>rfl
 | x :: r=>by
  simp only[E7,WQ,nG ht,oV ht r]
  try rfl
theorem VQ{n:Nat}{t:Tr Aa}{m:TM}(ht:EE n t)(xs:List (Nat×Option (Option Nat))):M2 (Cg n t) m.mem xs=DZ t m xs:=by
 cases xs with
 | nil=>rfl
 | cons x r=>
  cases r with
  | nil=>exact nG ht x
  | cons y r=>simp only[M2,DZ,oV ht]; try rfl
theorem Wm(hm:P.follows .mixedOrders=true){BE:Nat→Option Av}{Hl:Au}(DI:LJ P BE)(Mq:P4 P Hl):∀ f,P4 P (Fz BE Hl f)
 | 0,g,args,m,v,m',wl,h=>by simp[Fz]at h
 | f+1,g,args,m,v,m',wl,h=>by
  have ih:=Wm hm DI Mq f;simp only[Fz]at h;cases ho:Hl g args m with
  | some r=>
   simp only[ho,oI]at h;subst h;exact Mq g args m v m' wl ho
  | none=>
   simp only[ho]at h;cases ht:BE g with
   | none=>simp[ht]at h
   | some af=>
    simp only[ht]at h;obtain⟨⟨fn,hf1,hf2⟩,hd,hb⟩:=DI g af ht;cases hl:Nat.ble args.length af.ntmps with
    | false=>rw[hl]at h; cases h
    | true=>
     rw[hl]at h;simp only[cond_true]at h;obtain⟨a1,a2⟩:=WG hb (Wf hl);have fin:∀ (e:CV) (s:RS),(∀ i,e≠.exit i)→T4 (Fz BE Hl f) m.next 1000 af.body ⟨I4 .nil 0 args,m,[]⟩=some (e,s)→(match DZ s.t s.m af.results with|some v=>some (v,s.m,s.wl)|none=>none)=some (v,m',wl) →
      m.next≤m'.next∧(∀ c,c<m.next→c∉wl→m'.mem.get c=m.mem.get c) ∧ ∀ id,Az P g args m.mem [id] fun r m''=>r=v∧m''=m'.mem:=by
      intro e s hne hrun hret;obtain⟨h1,h2⟩:=YB ih hb 1000 af.body ⟨I4 .nil 0 args,m,[]⟩ s e a1 (lR _) hd hrun;cases hr:DZ s.t s.m af.results with
      | none=>simp[hr]at hret
      | some r=>
       simp only[hr,oI,AP]at hret;obtain⟨rfl,rfl,rfl⟩:=hret;refine⟨h1.next,fun c hc hw=>(h1.keep c hc hw).2,fun id=>wm hm hf1 hf2 ?_⟩
       rw[← a2];refine h2 _ ?_;have hrA:M2 (Cg af.ntmps s.t) s.m.mem af.results=some r:=by rw[VQ h1.t]; exact hr
       cases e with
       | normal=>simp only[CV.exit',Fb,RS.st,hrA]; exact⟨trivial,trivial⟩
       | ret=>simp only[CV.exit',Fb,RS.st,hrA]; exact⟨trivial,trivial⟩
       | exit i=>exact absurd rfl (hne i)
     cases hrun:T4 (Fz BE Hl f) m.next 1000 af.body ⟨I4 .nil 0 args,m,[]⟩ with
     | none=>simp[hrun]at h
     | some es=>
      obtain⟨e,s⟩:=es;cases e with
      | exit i=>simp[hrun]at h
      | normal=>simp only[hrun]at h; exact fin .normal s (by simp) hrun h
      | ret=>simp only[hrun]at h; exact fin .ret s (by simp) hrun h
end Go.AE
end
section
namespace Go.AE
open Go.RowKit
mutual
def Aa.closed:Aa→Bool
 | .bool _ | .int _ _ | .str _ | .nilPtr | .Ai | .emp | .Ay | .nilFunc | .nilIface | .bot=>true
 | .An els=>V3 els
 | .agg cs=>W9 cs
 | .tuple cs=>W9 cs
 | .func _ a b=>W9 a&&W9 b
 | .AW els _ _=>V3 els
 | _=>false
def W9:List Aa→Bool
 | []=>true
 | x :: r=>x.closed&&W9 r
def V3:List (List Aa)→Bool
 | []=>true
 | x :: r=>W9 x&&V3 r
end
theorem MC:∀ {l:List Aa} {i:Nat} {x:Aa},W9 l=true→l[i]? = some x→x.closed=true
 | [],i,x,_,h=>by simp at h
 | y :: r,i,x,h,hx=>by
  simp only[W9,bA]at h;cases i with
  | zero=>simp only[List.getElem?_cons_zero,oI]at hx; subst hx; exact h.1
  | succ i=>simp only[List.getElem?_cons_succ]at hx; exact MC h.2 hx
theorem bC:∀ {l:List (List Aa)} {i:Nat} {x:List Aa},V3 l=true→l[i]? = some x→W9 x=true
 | [],i,x,_,h=>by simp at h
 | y :: r,i,x,h,hx=>by
  simp only[V3,bA]at h;cases i with
  | zero=>simp only[List.getElem?_cons_zero,oI]at hx; subst hx; exact h.1
  | succ i=>simp only[List.getElem?_cons_succ]at hx; exact bC h.2 hx
theorem R.closed{Φ:Ao}{ρ ρ':AD}{x:Aa}{v:Value}(h:R Φ ρ x v)(hc:x.closed=true):R Φ ρ' x v:=by
 induction h with
 | bool b=>exact .bool b
 | int k n=>exact .int k n
 | str s=>exact .str s
 | ptr b i j l h=>simp[Aa.closed]at hc
 | AW els i j B o k c f hB hk CM _ ih=>
  simp only[Aa.closed]at hc;exact .AW els i j B o k c f hB hk CM fun i row j x h1 h2=>ih i row j x h1 h2 (MC (bC hc h1) h2)
 | nilPtr=>exact .nilPtr
 | Ai=>exact .Ai
 | emp a=>exact .emp a
 | sl b off len a cap l h hl hn CM ha=>simp[Aa.closed]at hc
 | CQ a cap h=>exact .CQ a cap h
 | An els B o k cap c f hne hcap hB hk CM _ ih=>
  simp only[Aa.closed]at hc;exact .An els B o k cap c f hne hcap hB hk CM fun i row j x h1 h2=>ih i row j x h1 h2 (MC (bC hc h1) h2)
 | map b l h=>simp[Aa.closed]at hc
 | Ay=>exact .Ay
 | func fn fs cs vf vc hf hcs _ _ ih1 ih2=>
  simp only[Aa.closed,bA]at hc;exact .func fn fs cs vf vc hf hcs (fun i x v h1 h2=>ih1 i x v h1 h2 (MC hc.1 h1)) (fun i x v h1 h2=>ih2 i x v h1 h2 (MC hc.2 h1))
 | nilFunc=>exact .nilFunc
 | DU b l h=>simp[Aa.closed]at hc
 | atLeast n c h=>simp[Aa.closed]at hc
 | iface t x v _ ih=>simp[Aa.closed]at hc
 | nilIface=>exact .nilIface
 | agg cs vs hs _ ih=>
  simp only[Aa.closed]at hc;exact .agg cs vs hs fun i x v h1 h2=>ih i x v h1 h2 (MC hc h1)
 | tuple cs vs hs _ ih=>
  simp only[Aa.closed]at hc;exact .tuple cs vs hs fun i x v h1 h2=>ih i x v h1 h2 (MC hc h1)
 | bot v=>exact .bot v
theorem RL.closed{Φ:Ao}{ρ ρ':AD}{xs:List Aa}{vs:Array Value}(h:RL Φ ρ xs vs)(hc:W9 xs=true):RL Φ ρ' xs vs:=
 ⟨h.1,fun i x v hx hv=>(h.2 i x v hx hv).closed (MC hc hx)⟩
theorem y6{P:Program}{g:FuncId}{args:List Aa}{v:Aa}{m0:Mem}{K:Aa→Mem→Prop}(hca:W9 args=true)(Jd:v.closed=true)(h0:∀ c,m0.get c=none)(h1:0<m0.next)
 (h:Az P g args m0 [0] K) (hK:∀ r m',K r m'→r=v) (m:Mem) (av:List Nat):Az P g args m av fun r m'=>r=v∧m'=m:=by
 refine⟨h.1,fun W Φ ρ vs w hr ha Ch=>?_⟩
 let W0:Ap:=⟨w,fun _=>none,Φ⟩
 have hr0:Rel W0 Φ (fun _=>none) m0 w:=
  ⟨⟨Below.refl _ _,fun B o hB=>(by cases hB)⟩,hr.AX,fun b x hx=>(by rw[h0 b]at hx; cases hx),fun b b' x x' l l' h1=>(by rw[h0 b]at h1; cases h1),fun b l hb=>(by cases hb),fun B c hB=>.inl hB⟩
 refine(h.2 W0 Φ (fun _=>none) vs w hr0 (ha.closed hca) (fun b hb=>by simp only[List.mem_singleton]at hb; subst hb; exact⟨rfl,h1⟩)).mono fun e w' he=>?_
 obtain⟨u,r,m1,Am,ρ',e1,hE,_,hr',hR,_,hKr⟩:=he;have hrv:=hK r m1 hKr;subst hrv;have hb:Below w.heap.size w w':=hr'.base.below;have hr2:=hr.below hb;have hE2:Ext Φ ρ Am ρ:=⟨hE.AX,fun b l h=>h⟩
 refine⟨u,r,m,Am,ρ,e1,hE2,fun b _ _ h=>h,⟨hr2.base,hr'.AX,fun b x hx=>?_,hr2.inj,hr2.fresh,fun B c hB=>?_⟩,hR.closed Jd,lR _,rfl,rfl⟩
 ·obtain⟨l,o,g1,g2,g3,g4,g5⟩:=hr.live b x hx;obtain⟨l',o',k1,k2,k3,k4,k5⟩:=hr2.live b x hx;refine⟨l',o',k1,k2,?_,k4,k5.ext hE2⟩;rw[g1]at k1; injection k1 with k1; subst k1
  cases hp:Am l.blk with
  | none=>rfl
  | some c=>
   rcases hr'.By _ _ hp with h1|h1
   ·have h1':Φ l.blk=some c:=h1;rw[g3]at h1'; cases h1'
   ·have h2:w.heap.size≤l.blk:=h1.1;have:=G4 g4;omega
 ·rcases hr'.By B c hB with h1|h1
  ·exact hr.By B c h1
  ·have h2:w.heap.size≤B:=h1.1;refine .inr ⟨Nat.le_trans hr.base.below.size h2,?_⟩;cases hg:W.g B with
   | none=>rfl
   | some o=>
    have:=G4 (hr.base.BU B o hg);omega
end Go.AE
end
section
namespace Go.AE
open Go.RowKit
def T5{α β:Type}(f:α→Option β):List α→Option (List β)
 | []=>some []
 | x :: r=>match f x,T5 f r with
  | some y,some ys=>some (y :: ys)
  | _,_=>none
theorem QF{α β:Type}{f:α→Option β}:∀ {l:List α} {l':List β},T5 f l=some l'→l'.length=l.length ∧ ∀(i:Nat) (y:β),l'[i]? = some y → ∃ x,l[i]? = some x∧f x=some y
 | [],l',h=>by
  simp only[T5,oI]at h;subst h;exact⟨rfl,fun i y h=>by simp at h⟩
 | x :: r,l',h=>by
  simp only[T5]at h;cases h1:f x with
  | none=>simp[h1]at h
  | some y=>
   cases h2:T5 f r with
   | none=>simp[h1,h2]at h
   | some ys=>
    simp only[h1,h2,oI]at h;subst h;obtain⟨h3,h4⟩:=QF h2;refine⟨by simp[h3],fun i z hz=>?_⟩
    cases i with
    | zero=>
     simp only[List.getElem?_cons_zero,oI]at hz;subst hz;exact⟨x,rfl,h1⟩
    | succ i=>
     simp only[List.getElem?_cons_succ]at hz ⊢;exact h4 i z hz
def W3(get:Nat→Option Ag):Nat→Aa→Option Aa
 | 0,_=>none
 | n+1,x=>match x with
  | .sl b off len=>match get b with
   | some (.cells _ els)=>bif Nat.ble (off+len) els.length then match T5 (T5 (W3 get n)) ((els.drop off).take len)with
    | some rows=>some (.An rows)
    | none=>none
    else none
   | _=>none
  | .agg cs=>match T5 (W3 get n) cs with
   | some ds=>some (.agg ds)
   | none=>none
  | .tuple cs=>match T5 (W3 get n) cs with
   | some ds=>some (.tuple ds)
   | none=>none
  | .An els=>match T5 (T5 (W3 get n)) els with
   | some rows=>some (.An rows)
   | none=>none
  | .bool b=>some (.bool b)
  | .int k i=>some (.int k i)
  | .str s=>some (.str s)
  | .nilPtr=>some .nilPtr
  | .Ai=>some .Ai
  | .emp=>some .emp
  | .Ay=>some .Ay
  | .nilFunc=>some .nilFunc
  | .nilIface=>some .nilIface
  | .bot=>some .bot
  | _=>none
section
variable {W:Ap} {Φ Bp:Ao} {ρ:AD} {m:Mem} {w:World}
theorem YJ{f:Aa→Option Aa}(hf:∀ x y v,f x=some y→R Φ ρ x v→R Bp ρ y v){cs ds:List Aa}{vs:Array Value}(h:RL Φ ρ cs vs)(hm:T5 f cs=some ds):RL Bp ρ ds vs:=by
 obtain⟨h1,h2⟩:=QF hm;refine⟨by rw[h.1,h1],fun i y v hy hv=>?_⟩
 obtain⟨x,hx,hxy⟩:=h2 i y hy;exact hf x y v hxy (h.2 i x v hx hv)
theorem Zy(hr:Rel W Φ ρ m w)(hE:Ext Φ ρ Bp ρ)(hs:∀ b l k els c e fz,m.get b=some (.cells k els)→ρ b=some l→w.heap[l.blk]? = some (.cells c e fz)→Bp l.blk=some c) :
 ∀(n:Nat) (x y:Aa) (v:Value),W3 m.get n x=some y→R Φ ρ x v→R Bp ρ y v:=by
 intro n
 induction n with
 | zero=>intro x y v h; simp[W3]at h
 | succ n ih=>
  intro x y v h hR;simp only[W3]at h;cases hR with
  | bool b=>injection h with h; subst h; exact .bool b
  | int k i=>injection h with h; subst h; exact .int k i
  | str s=>injection h with h; subst h; exact .str s
  | nilPtr=>injection h with h; subst h; exact .nilPtr
  | Ai=>injection h with h; subst h; exact .Ai
  | emp a=>injection h with h; subst h; exact .emp a
  | Ay=>injection h with h; subst h; exact .Ay
  | nilFunc=>injection h with h; subst h; exact .nilFunc
  | nilIface=>injection h with h; subst h; exact .nilIface
  | ptr b i j l h1=>simp at h
  | AW els i j B o k c f hB hk CM As=>simp at h
  | map b l h1=>simp at h
  | DU b l h1=>simp at h
  | atLeast n' c' h1=>simp at h
  | func fn fs cs vf vc hf hc h1 h2=>simp at h
  | iface t x v h1=>simp at h
  | bot v=>injection h with h; subst h; exact .bot v
  | agg cs vs hsz As=>
   simp only at h;cases hm:T5 (W3 m.get n) cs with
   | none=>simp[hm]at h
   | some ds=>
    simp only[hm,oI]at h;subst h;have:=YJ (Bp:=Bp) (fun x y v hxy hx=>ih x y v hxy hx) ⟨hsz,As⟩ hm
    exact .agg _ _ this.1 this.2
  | tuple cs vs hsz As=>
   simp only at h;cases hm:T5 (W3 m.get n) cs with
   | none=>simp[hm]at h
   | some ds=>
    simp only[hm,oI]at h;subst h;have:=YJ (Bp:=Bp) (fun x y v hxy hx=>ih x y v hxy hx) ⟨hsz,As⟩ hm
    exact .tuple _ _ this.1 this.2
  | CQ a cap hz=>
   simp only[T5,oI]at h;subst h;exact .CQ a cap hz
  | An els B o k cap c f hne hcap hB hk CM As=>
   simp only at h;cases hm:T5 (T5 (W3 m.get n)) els with
   | none=>simp[hm]at h
   | some rows=>
    simp only[hm,oI]at h;subst h;obtain⟨h1,h2⟩:=QF hm;have hrow:∀ (i:Nat) (row':List Aa),rows[i]? = some row' → ∃ row,els[i]? = some row∧row'.length=row.length ∧ ∀(j:Nat) (y:Aa),row'[j]? = some y → ∃ x,row[j]? = some x∧W3 m.get n x=some y:=by
     intro i row' hi;obtain⟨row,g1,g2⟩:=h2 i row' hi;obtain⟨g3,g4⟩:=QF g2;exact⟨row,g1,g3,g4⟩
    rw[← h1];refine .An rows B o k cap c f (fun e=>hne ?_) (by rw[h1]; exact hcap) (hE.AX _ _ hB) (fun i row' hi=>?_) (fun i row' j y hi hj=>?_) (fun i row' j y hi hj=>?_)
    ·rw[e]at h1;exact List.length_eq_zero_iff.1 h1.symm
    ·obtain⟨row,g1,g2,_⟩:=hrow i row' hi;rw[g2]; exact hk i row g1
    ·obtain⟨row,g1,_,g3⟩:=hrow i row' hi;obtain⟨x,g4,_⟩:=g3 j y hj;exact CM i row j x g1 g4
    ·obtain⟨row,g1,_,g3⟩:=hrow i row' hi;obtain⟨x,g4,g5⟩:=g3 j y hj;exact ih x y _ g5 (As i row j x g1 g4)
  | sl b off len a cap l hl hle hn hc ha=>
   simp only at h;cases hg:m.get b with
   | none=>simp[hg]at h
   | some blk=>
    cases blk<;>simp only[hg]at h<;>first|(cases h; done)|skip
    rename_i k els;cases hb:Nat.ble (off+len) els.length with
    | false=>rw[hb]at h; cases h
    | true=>
     rw[hb]at h;simp only[cond_true]at h;have DR:=Nat.le_of_ble_eq_true hb;cases hm:T5 (T5 (W3 m.get n)) ((els.drop off).take len)with
     | none=>simp[hm]at h
     | some rows=>
      simp only[hm,oI]at h;subst h;obtain⟨h1,h2⟩:=QF hm;have hlen:rows.length=len:=by rw[h1]; simp; omega
      obtain⟨l',o,g1,g2,g3,g4,g5⟩:=hr.live b _ hg;rw[hl]at g1; injection g1 with g1; subst g1
      cases g5 with
      | cells _ _ _ c e hk hsz hsl hrows _=>
       by_cases h0:len=0
       ·subst h0;have:rows=[]:=List.length_eq_zero_iff.1 hlen;subst this;exact .CQ a cap fun hp=>⟨_,_,hc hp⟩
       ·have hae:=hc (by omega)
        subst hae;have hrow:∀ (i:Nat) (row':List Aa),rows[i]? = some row' → ∃ row,els[off+i]? = some row∧row'.length=row.length ∧ ∀(j:Nat) (y:Aa),row'[j]? = some y → ∃ x,row[j]? = some x∧W3 m.get n x=some y:=by
         intro i row' hi;obtain⟨row,q1,q2⟩:=h2 i row' hi;obtain⟨q3,q4⟩:=QF q2;have hil:i<len:=by
          have:=(gS.1 hi).1;omega
         rw[List.getElem?_take,iP hil,List.getElem?_drop]at q1;exact⟨row,q1,q3,q4⟩
        have hcell:∀ (i:Nat) (row:List Aa) (j:Nat) (x:Aa),els[off+i]? = some row→row[j]? = some x → ∃ u,c[(l.sh+off)*l.k+i*l.k+j]? = some u∧u.oneCell'=true∧R Φ ρ x u:=by
         intro i row j x hi hj;obtain⟨u,q1,q2,q3⟩:=hrows.2 (off+i) row j x hi hj;refine⟨u,?_,q2,q3⟩;rw[← q1,hk]
         congr 1
         rw[← Nat.add_assoc,Nat.add_mul (l.sh+off) i]
        rw[← hlen];refine .An rows l.blk ((l.sh+off)*l.k) k cap c (fun i j=>(c[(l.sh+off)*l.k+i*k+j]?).getD undef) (fun e=>h0 (by rw[← hlen,e]; rfl)) (by omega) (hs b l k els c e (0,0) hg hl g4)
         (fun i row' hi=>?_) (fun i row' j y hi hj=>?_) (fun i row' j y hi hj=>?_)
        ·obtain⟨row,q1,q2,_⟩:=hrow i row' hi;rw[q2]; exact hrows.1 (off+i) row q1
        ·obtain⟨row,q1,_,q3⟩:=hrow i row' hi;obtain⟨x,q4,_⟩:=q3 j y hj;obtain⟨u,p1,p2,_⟩:=hcell i row j x q1 q4;rw[hk]at p1 ⊢;simp only[p1,Option.getD_some];exact⟨trivial,p2⟩
        ·obtain⟨row,q1,_,q3⟩:=hrow i row' hi;obtain⟨x,q4,q5⟩:=q3 j y hj;obtain⟨u,p1,_,p3⟩:=hcell i row j x q1 q4;rw[hk]at p1 ⊢;simp only[p1,Option.getD_some];exact ih x y u q5 p3
end
theorem si{W:Ap}{Φ:Ao}{ρ:AD}{m:Mem}{w:World}(hr:Rel W Φ ρ m w):∃ Bp:Ao,Ext Φ ρ Bp ρ∧(∀ B c,Bp B=some c → ∃ e fz,w.heap[B]? = some (.cells c e fz)) ∧
 (∀ B c,Bp B=some c→W.p B=some c∨W.Cd B) ∧ ∀ b l k els c e fz,m.get b=some (.cells k els)→ρ b=some l→w.heap[l.blk]? = some (.cells c e fz)→Bp l.blk=some c:=by
 have hlv:∀ B,(∃ b l y,m.get b=some y∧ρ b=some l∧l.blk=B)→Φ B=none∧W.Cd B:=by
  rintro B ⟨b,l,y,h1,h2,rfl⟩;obtain⟨l',o,g1,g2,g3,_⟩:=hr.live b y h1;rw[h2]at g1; injection g1 with g1; subst g1
  exact⟨g3,g2⟩
 refine⟨fun B=>@ite _ (∃ b l y,m.get b=some y∧ρ b=some l∧l.blk=B) (Classical.propDecidable _) (match w.heap[B]? with|some (.cells c _ _)=>some c|_=>none) (Φ B),⟨fun B c hB=>?_,fun b l h=>h⟩,fun B c hB=>?_,fun B c hB=>?_,fun b l k els c e fz hg hl hw=>?_⟩
 ·by_cases hL:∃ b l y,m.get b=some y∧ρ b=some l∧l.blk=B
  ·rw[(hlv B hL).1]at hB; cases hB
  ·simp only[hL,if_false]; exact hB
 ·by_cases hL:∃ b l y,m.get b=some y∧ρ b=some l∧l.blk=B
  ·simp only[hL,if_true]at hB;split at hB<;>first|(cases hB; done)|skip
   rename_i c' e fz hw;injection hB with hB; subst hB
   exact⟨e,fz,hw⟩
  ·simp only[hL,if_false]at hB;exact hr.AX B c hB
 ·by_cases hL:∃ b l y,m.get b=some y∧ρ b=some l∧l.blk=B
  ·exact .inr (hlv B hL).2
  ·simp only[hL,if_false]at hB;exact hr.By B c hB
 ·have hL:∃ b' l' y,m.get b'=some y∧ρ b'=some l'∧l'.blk=l.blk:=⟨b,l,_,hg,hl,rfl⟩
  simp only[hL,if_true,hw]
theorem aK{P:Program}{g:FuncId}{args:List Aa}{v:Aa}{m0:Mem}{K:Aa→Mem→Prop}(hca:W9 args=true)(Jd:v.closed=true)(h0:∀ c,m0.get c=none)(h1:0<m0.next)
 (h:Az P g args m0 [0] K) (hK:∀ r m',K r m' → ∃ n,W3 m'.get n r=some v) (m:Mem) (av:List Nat):Az P g args m av fun r m'=>r=v∧m'=m:=by
 refine y6 (K:=fun r _=>r=v) (m0:=m0) hca Jd h0 h1 ⟨h.1,fun W Φ ρ vs w hr ha Ch=>(h.2 W Φ ρ vs w hr ha Ch).mono fun e w' he=>?_⟩ (fun r m' h=>h) m av
 obtain⟨u,r,m1,Am,ρ',e1,hE,hk,hr',hR,hn,hKr⟩:=he;obtain⟨n,hn2⟩:=hK r m1 hKr;obtain⟨Bp,f1,f2,f3,f4⟩:=si hr';have hR2:=Zy hr' f1 f4 n r v u hn2 hR;refine⟨u,v,⟨fun _=>none,m1.next⟩,Bp,ρ',e1,hE.trans f1,hk,⟨hr'.base,f2,fun b x hx=>(by cases hx),fun b b' x x' l l' h1=>(by cases h1),hr'.fresh,f3⟩,hR2,hn,rfl⟩
end Go.AE
end
section
namespace Go.AE
open Go.RowKit
def WA:List UInt8→List UInt8→Bool
 | [],[]=>true
 | a :: r,b :: s=>Nat.beq a.toNat b.toNat&&WA r s
 | _,_=>false
theorem mF:∀ {a b:List UInt8},WA a b=true→a=b
 | [],[],_=>rfl
 | a :: r,b :: s,h=>by
  simp only[WA,bA]at h;have h1:=Nat.eq_of_beq_eq_true h.1;rw[UInt8.toNat_inj.1 h1,mF h.2]
 | [],_ :: _,h=>by cases h
 | _ :: _,[],h=>by cases h
def YO:Int→Int→Bool
 | .ofNat a,.ofNat b=>Nat.beq a b
 | .negSucc a,.negSucc b=>Nat.beq a b
 | _,_=>false
theorem sx{a b:Int}(h:YO a b=true):a=b:=by
 cases a<;>cases b<;>simp only[YO]at h<;>first|(cases h; done)|(rw[Nat.eq_of_beq_eq_true h])
mutual
def O7:Aa→Aa→Bool
 | .bool a,.bool b=>a == b
 | .int k a,.int k' b=>k == k'&&YO a b
 | .str a,.str b=>WA a b
 | .nilPtr,.nilPtr=>true
 | .Ai,.Ai=>true
 | .emp,.emp=>true
 | .Ay,.Ay=>true
 | .nilFunc,.nilFunc=>true
 | .nilIface,.nilIface=>true
 | .An a,.An b=>Nh a b
 | .agg a,.agg b=>Fs a b
 | .tuple a,.tuple b=>Fs a b
 | _,_=>false
def Fs:List Aa→List Aa→Bool
 | [],[]=>true
 | x :: r,y :: s=>O7 x y&&Fs r s
 | _,_=>false
def Nh:List (List Aa)→List (List Aa)→Bool
 | [],[]=>true
 | x :: r,y :: s=>Fs x y&&Nh r s
 | _,_=>false
end
mutual
theorem lY:∀ (x y:Aa),O7 x y=true→x=y
 | .bool a,y,h=>by cases y<;>simp only[O7]at h<;>first|(cases h; done)|(simp at h; rw[h])
 | .int k a,y,h=>by
  cases y<;>simp only[O7]at h<;>first|(cases h; done)|skip
  simp only[bA,beq_iff_eq]at h;rw[h.1,sx h.2]
 | .str a,y,h=>by cases y<;>simp only[O7]at h<;>first|(cases h; done)|(rw[mF h])
 | .nilPtr,y,h=>by cases y<;>simp only[O7]at h<;>first|(cases h; done)|rfl
 | .Ai,y,h=>by cases y<;>simp only[O7]at h<;>first|(cases h; done)|rfl
 | .emp,y,h=>by cases y<;>simp only[O7]at h<;>first|(cases h; done)|rfl
 | .Ay,y,h=>by cases y<;>simp only[O7]at h<;>first|(cases h; done)|rfl
 | .nilFunc,y,h=>by cases y<;>simp only[O7]at h<;>first|(cases h; done)|rfl
 | .nilIface,y,h=>by cases y<;>simp only[O7]at h<;>first|(cases h; done)|rfl
 | .An a,y,h=>by cases y<;>simp only[O7]at h<;>first|(cases h; done)|(rw[YZ _ _ h])
 | .agg a,y,h=>by cases y<;>simp only[O7]at h<;>first|(cases h; done)|(rw[Tq _ _ h])
 | .ptr _ _ _,y,h=>by simp[O7]at h
 | .AW _ _ _,y,h=>by simp[O7]at h
 | .sl _ _ _,y,h=>by simp[O7]at h
 | .map _,y,h=>by simp[O7]at h
 | .DU _,y,h=>by simp[O7]at h
 | .atLeast _,y,h=>by simp[O7]at h
 | .func _ _ _,y,h=>by simp[O7]at h
 | .iface _ _,y,h=>by simp[O7]at h
 | .tuple a,y,h=>by
  cases y<;>simp only[O7]at h<;>first|(cases h; done)|(rw[Tq _ _ h])
 | .bot,y,h=>by simp[O7]at h
theorem Tq:∀ (x y:List Aa),Fs x y=true→x=y
 | [],[],_=>rfl
 | a :: r,b :: s,h=>by
  simp only[Fs,bA]at h;rw[lY a b h.1,Tq r s h.2]
 | [],_ :: _,h=>by simp[Fs]at h
 | _ :: _,[],h=>by simp[Fs]at h
theorem YZ:∀ (x y:List (List Aa)),Nh x y=true→x=y
 | [],[],_=>rfl
 | a :: r,b :: s,h=>by
  simp only[Nh,bA]at h;rw[Tq a b h.1,YZ r s h.2]
 | [],_ :: _,h=>by simp[Nh]at h
 | _ :: _,[],h=>by simp[Nh]at h
end
structure AN where
 g:FuncId
 args:List Aa
 v:Aa
def AN.Ok(P:Program)(e:AN):Prop:=∀ m av,Az P e.g e.args m av fun r m'=>r=e.v∧m'=m
def AN.Rz(P:Program):List AN→Prop
 | []=>True
 | e :: r=>e.Ok P∧AN.Rz P r
def Te(a b:Au):Au:=fun g args m=>match a g args m with
 | some r=>some r
 | none=>b g args m
theorem Zs{P:Program}{a b:Au}(ha:P4 P a)(hb:P4 P b):P4 P (Te a b):=by
 intro g args m v m' wl h;unfold Te at h;cases h1:a g args m with
 | some r=>
  rw[h1]at h;injection h with h
  subst h;exact ha g args m v m' wl h1
 | none=>rw[h1]at h; exact hb g args m v m' wl h
def runM(BE:Nat→Option Av)(Hl:Au)(g:FuncId)(args:List Aa):Option Aa:=
 match Fz BE Hl 1000 g args ⟨.nil,1⟩ with
 | some (r,m,_)=>W3 m.tr.get 1000 r
 | none=>none
theorem Z98{P:Program}(hm:P.follows .mixedOrders=true){BE:Nat→Option Av}{Hl:Au}(DI:LJ P BE)(Mq:P4 P Hl)(e:AN)
 (h:(match runM BE Hl e.g e.args with|some r=>O7 r e.v&&(W9 e.args&&e.v.closed)|none=>false)=true):e.Ok P:=by
 intro m av;unfold runM at h;cases hr:Fz BE Hl 1000 e.g e.args ⟨.nil,1⟩ with
 | none=>simp[hr]at h
 | some rmw=>
  obtain⟨r,m1,wl⟩:=rmw;simp only[hr]at h;cases hf:W3 m1.tr.get 1000 r with
  | none=>simp[hf]at h
  | some y=>
   simp only[hf,bA]at h;obtain⟨h1,h2,h3⟩:=h;have hy:=lY _ _ h1;subst hy;obtain⟨_,_,hA⟩:=Wm hm DI Mq 1000 e.g e.args ⟨.nil,1⟩ r m1 wl hr;exact aK h2 h3 (m0:=(⟨.nil,1⟩:TM).mem) (fun c=>rfl) (Nat.lt_succ_self 0) (hA 0) (fun r' m' hk=>⟨1000,by obtain⟨rfl,rfl⟩:=hk; exact hf⟩) m av
end Go.AE
end
