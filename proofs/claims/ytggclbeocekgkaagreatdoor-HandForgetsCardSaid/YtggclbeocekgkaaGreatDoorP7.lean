/- Part 7 of the proof: AeV, AeW. -/
import Derived.Test.YtggclbeocekgkaaGreatDoorP6
import Derived.Orders
set_option linter.all false
section
namespace Go.AE
open Go.RowKit
structure Trace (P:Program) (base:Nat) (asz:List Af) (t0:List Aa) (m0:Mem) (T:Nat→List Aa) (M:Nat→Mem) (V:Nat→Aa) (F:Nat→FT):Prop where
 t0:T 0=t0
 m0:M 0=m0
 step:∀ i b,asz[i]? = some b→T (i+1)=put (T i) b.dst (V i) ∧
  ((T7 (T i) b.guard=some false∧V i=Ag∧M (i+1)=M i∧F i=.ops [] []) ∨
   (T7 (T i) b.guard=some true∧(∀ j,j∈b.un→j<i→FT.indep (F j) (F i)) ∧
     ((∃ f xs g args wl x,b.op=.call f xs∧callee (T i) f xs=some (g,args)∧F i=.call wl x (M i).next∧MX P g args (base+i) x (M i) (V i) (M (i+1)) wl) ∨
      (Z5 (base+i) (T i) (M i) b.op=some (V i,M (i+1))∧F i=.ops (T8 (base+i) (T i) b.op) (L4 (T i) b.op)))))
theorem rC{x:Nat}:∀ {l:List Nat},GL x l→x∉l
 | [],_=>by simp
 | y :: r,h=>by
  simp only[mC,not_or];exact⟨h.1,rC h.2⟩
theorem Ot{l:List Nat}:∀ {xs:List Nat},I9 xs l → ∀ c,c∈xs→c∉l
 | [],_,c,hc=>by simp at hc
 | x :: r,h,c,hc=>by
  simp only[mC]at hc;rcases hc with rfl|hc
  ·exact rC h.1
  ·exact Ot h.2 c hc
theorem SE{n:Nat}:∀ {l:List Nat},D7 n l → ∀ c,c∈l→c<n
 | [],_,c,hc=>by simp at hc
 | x :: r,h,c,hc=>by
  simp only[mC]at hc;rcases hc with rfl|hc
  ·exact h.1
  ·exact SE h.2 c hc
theorem rY{x:Nat}:∀ {l:List Nat},IS x l→x∈l
 | [],h=>h.elim
 | y :: r,h=>by
  rcases h with rfl|h
  ·simp
  ·exact List.mem_cons_of_mem _ (rY h)
theorem Ys{l:List Nat}:∀ {xs:List Nat},Ed xs l → ∀ c,c∈xs→c∈l
 | [],_,c,hc=>by simp at hc
 | x :: r,h,c,hc=>by
  simp only[mC]at hc;rcases hc with rfl|hc
  ·exact rY h.1
  ·exact Ys h.2 c hc
theorem FT.FV{f g:FT}(h:FT.indep f g):(∀ c,f.W c=true→g.R c=false∧g.W c=false)∧(∀ c,f.R c=true→g.W c=false)∧(f.Dp=true→g.Dp=false):=by
 cases f with
 | ops w r=>
  cases g with
  | ops w' r'=>
   obtain⟨h1,h2⟩:=h;refine⟨fun c hc=>?_,fun c hc=>?_,fun h=>by cases h⟩
   ·simp only[FT.W,List.contains_iff_mem]at hc;have:=Ot h1 c hc;simp only[List.mem_append,not_or]at this;simp[FT.W,FT.R,this.1,this.2]
   ·simp only[FT.R,List.contains_iff_mem]at hc;have:=Ot h2 c hc;simp[FT.W,this]
  | call wl x nx=>
   obtain⟨h1,h2,h3,h4,h5⟩:=h;refine⟨fun c hc=>?_,fun c hc=>?_,fun h=>by cases h⟩
   ·simp only[FT.W,List.contains_iff_mem]at hc;have e1:=Ot h3 c hc;have e2:=SE h4 c hc;have e3:=Ys h5 c hc;simp[FT.W,FT.R,e1,e3,Nat.not_le.2 e2]
   ·simp only[FT.R,List.contains_iff_mem]at hc;have e1:=Ot h1 c hc;have e2:=SE h2 c hc;simp[FT.W,e1,Nat.not_le.2 e2]
 | call wl x nx=>
  cases g with
  | ops w r=>
   obtain⟨h1,h2,h3,h4,h5⟩:=h;refine⟨fun c hc=>⟨?_,?_⟩,fun c hc=>?_,fun _=>rfl⟩
   ·cases hq:(FT.ops w r).R c with
    | false=>rfl
    | true=>
     simp only[FT.R,List.contains_iff_mem]at hq;have e1:=Ot h1 c hq;have e2:=SE h2 c hq;simp[FT.W,e1,Nat.not_le.2 e2]at hc
   ·cases hq:(FT.ops w r).W c with
    | false=>rfl
    | true=>
     simp only[FT.W,List.contains_iff_mem]at hq;have e1:=Ot h3 c hq;have e2:=SE h4 c hq;simp[FT.W,e1,Nat.not_le.2 e2]at hc
   ·cases hq:(FT.ops w r).W c with
    | false=>rfl
    | true=>
     simp only[FT.W,List.contains_iff_mem]at hq;have e3:=Ys h5 c hq;simp[FT.R,e3]at hc
  | call wl' x' nx'=>exact h.elim
theorem pV{fs:List FT}{ft:FT}:∀ {un:List Nat},O6 fs ft un → ∀ j,j∈un→FT.indep (fs.getD j (.ops [] [])) ft
 | [],_,j,hj=>by simp at hj
 | i :: r,h,j,hj=>by
  simp only[mC]at hj;rcases hj with rfl|hj
  ·exact h.1
  ·exact pV h.2 j hj
theorem Z75{P:Program}{base:Nat}{b:Af}{rest:List Af}{fs:List FT}{K:AY→Prop}{t:List Aa}{m:Mem}(h:R9 P base (b :: rest) fs K t m) :
 (T7 t b.guard=some false∧R9 P base rest (fs++[.ops [] []]) K (put t b.dst Ag) m) ∨
 (T7 t b.guard=some true∧((∃ f xs g args wl x v m',b.op=.call f xs∧callee t f xs=some (g,args)∧MX P g args (base+fs.length) x m v m' wl∧O6 fs (.call wl x m.next) b.un∧R9 P base rest (fs++[.call wl x m.next]) K (put t b.dst v) m') ∨
   (∃ v m',Z5 (base+fs.length) t m b.op=some (v,m')∧O6 fs (.ops (T8 (base+fs.length) t b.op) (L4 t b.op)) b.un∧R9 P base rest (fs++[.ops (T8 (base+fs.length) t b.op) (L4 t b.op)]) K (put t b.dst v) m'))):=by
 simp only[R9]at h;cases hw:T7 t b.guard with
 | none=>simp[hw]at h
 | some q=>
  cases q with
  | false=>simp only[hw]at h; exact .inl ⟨rfl,h⟩
  | true=>
   simp only[hw]at h;refine .inr ⟨rfl,?_⟩;have other:∀ op,b.op=op→(match Z5 (base+fs.length) t m op with
    | some (v,m')=>O6 fs (.ops (T8 (base+fs.length) t op) (L4 t op)) b.un∧R9 P base rest (fs++[.ops (T8 (base+fs.length) t op) (L4 t op)]) K (put t b.dst v) m'
    | none=>False) →
    ∃ v m',Z5 (base+fs.length) t m op=some (v,m')∧O6 fs (.ops (T8 (base+fs.length) t op) (L4 t op)) b.un∧R9 P base rest (fs++[.ops (T8 (base+fs.length) t op) (L4 t op)]) K (put t b.dst v) m':=by
    intro op _ hh;cases hs:Z5 (base+fs.length) t m op with
    | none=>simp[hs]at hh
    | some r=>obtain ⟨v,m'⟩:=r; simp only[hs]at hh; exact⟨v,m',rfl,hh⟩
   cases hop:b.op with
   | call f xs=>
    simp only[hop]at h;cases hc:callee t f xs with
    | none=>simp[hc]at h
    | some r=>
     obtain⟨g,args⟩:=r;simp only[hc]at h;obtain⟨wl,x,v,m',h1,h2,h3⟩:=h;exact .inl ⟨f,xs,g,args,wl,x,v,m',rfl,hc,h1,h2,h3⟩
   | _=>rw[hop]at h; exact .inr (other _ hop h)
theorem Z33{fs:List FT}{x d:FT}{j:Nat}(h:j<fs.length):(fs++[x]).getD j d=fs.getD j d:=by
 simp[List.getD,List.getElem?_append_left h]
theorem rG{P:Program}{base:Nat}{K:AY→Prop}:∀ (asz:List Af) (fs:List FT) (t:List Aa) (m:Mem),R9 P base asz fs K t m →
 ∃(T:Nat→List Aa) (M:Nat→Mem) (V:Nat→Aa) (F:Nat→FT),T fs.length=t∧M fs.length=m∧(∀ j,j<fs.length→F j=fs.getD j (.ops [] [])) ∧
  (∀ i b,asz[i]? = some b→T (fs.length+i+1)=put (T (fs.length+i)) b.dst (V (fs.length+i)) ∧
    ((T7 (T (fs.length+i)) b.guard=some false∧V (fs.length+i)=Ag∧M (fs.length+i+1)=M (fs.length+i)∧F (fs.length+i)=.ops [] []) ∨
     (T7 (T (fs.length+i)) b.guard=some true∧(∀ j,j∈b.un→j<fs.length+i→FT.indep (F j) (F (fs.length+i))) ∧
       ((∃ f xs g args wl x,b.op=.call f xs∧callee (T (fs.length+i)) f xs=some (g,args)∧F (fs.length+i)=.call wl x (M (fs.length+i)).next∧MX P g args (base+(fs.length+i)) x (M (fs.length+i)) (V (fs.length+i)) (M (fs.length+i+1)) wl) ∨
        (Z5 (base+(fs.length+i)) (T (fs.length+i)) (M (fs.length+i)) b.op=some (V (fs.length+i),M (fs.length+i+1))∧F (fs.length+i)=.ops (T8 (base+(fs.length+i)) (T (fs.length+i)) b.op) (L4 (T (fs.length+i)) b.op)))))) ∧
  K ⟨T (fs.length+asz.length),M (fs.length+asz.length)⟩
 | [],fs,t,m,h=>⟨fun _=>t,fun _=>m,fun _=>Ag,fun j=>fs.getD j (.ops [] []),rfl,rfl,fun _ _=>rfl,fun i b hb=>by simp at hb,h⟩
 | b :: rest,fs,t,m,h=>by
  have key:∃ (ft:FT) (v:Aa) (m':Mem),R9 P base rest (fs++[ft]) K (put t b.dst v) m' ∧
   ((T7 t b.guard=some false∧v=Ag∧m'=m∧ft=.ops [] [])∨(T7 t b.guard=some true∧O6 fs ft b.un ∧
     ((∃ f xs g args wl x,b.op=.call f xs∧callee t f xs=some (g,args)∧ft=.call wl x m.next∧MX P g args (base+fs.length) x m v m' wl)∨(Z5 (base+fs.length) t m b.op=some (v,m')∧ft=.ops (T8 (base+fs.length) t b.op) (L4 t b.op))))):=by
   rcases Z75 h with⟨hw,h'⟩|⟨hw,⟨f,xs,g,args,wl,x,v,m',h1,h2,h3,h4,h5⟩|⟨v,m',h1,h2,h3⟩⟩
   ·exact⟨.ops [] [],Ag,m,h',.inl ⟨hw,rfl,rfl,rfl⟩⟩
   ·exact⟨_,v,m',h5,.inr ⟨hw,h4,.inl ⟨f,xs,g,args,wl,x,h1,h2,rfl,h3⟩⟩⟩
   ·exact⟨_,v,m',h3,.inr ⟨hw,h2,.inr ⟨h1,rfl⟩⟩⟩
  obtain⟨ft,v,m',hrest,hstep⟩:=key;obtain⟨T,M,V,F,h1,h2,h3,h4,h5⟩:=rG rest (fs++[ft]) _ _ hrest;have hl:(fs++[ft]).length=fs.length+1:=by simp
  rw[hl]at h1 h2 h3 h4 h5;have hF:F fs.length=ft:=by rw[h3 _ (Nat.lt_succ_self _)]; simp[List.getD]
  have hFj:∀ j,j<fs.length→F j=fs.getD j (.ops [] []):=fun j hj=>by rw[h3 j (by omega),Z33 hj]
  refine⟨fun k=>if k=fs.length then t else T k,fun k=>if k=fs.length then m else M k,fun k=>if k=fs.length then v else V k,F,by simp,by simp,hFj,?_,?_⟩
  ·intro i b' hb';cases i with
   | zero=>
    simp only[List.getElem?_cons_zero,oI]at hb';subst hb';simp only[Nat.add_zero,if_true,show fs.length+1≠fs.length by omega,if_false,h1,h2,hF]
    refine⟨trivial,?_⟩;rcases hstep with⟨g1,g2,g3,g4⟩|⟨g1,g2,g3⟩
    ·exact .inl ⟨g1,g2,g3,g4⟩
    ·refine .inr ⟨g1,fun j hj hlt=>?_,g3⟩
     rw[hFj j hlt];exact pV g2 j hj
   | succ i=>
    simp only[List.getElem?_cons_succ]at hb';have:=h4 i b' hb';have e1:fs.length+1+i=fs.length+(i+1):=by omega
    rw[e1]at this;simp only[show fs.length+(i+1)≠fs.length by omega,show fs.length+(i+1)+1≠fs.length by omega,if_false]
    exact this
  ·have e1:fs.length+(b :: rest).length=fs.length+1+rest.length:=by simp; omega
   simp only[e1,show fs.length+1+rest.length≠fs.length by omega,if_false]
   exact h5
theorem Z6t{P:Program}{base:Nat}{asz:List Af}{K:AY→Prop}{t:List Aa}{m:Mem}(h:R9 P base asz [] K t m) :
 ∃ T M V F,Trace P base asz t m T M V F∧K ⟨T asz.length,M asz.length⟩:=by
 obtain⟨T,M,V,F,h1,h2,h3,h4,h5⟩:=rG asz [] t m h;refine⟨T,M,V,F,⟨h1,h2,fun i b hb=>?_⟩,by simpa using h5⟩
 have:=h4 i b hb;simpa using this
section
variable {P:Program} {base:Nat} {asz:List Af} {t0:List Aa} {m0:Mem} {T:Nat→List Aa} {M:Nat→Mem} {V:Nat→Aa} {F:Nat→FT}
def LJ(asz:List Af)(x j:Nat):Bool:=
 match asz[j]? with
 | some b=>b.dst == some x
 | none=>false
structure Bu (asz:List Af) (t0:List Aa) (m0:Mem) (M:Nat→Mem) (V:Nat→Aa) (F:Nat→FT) (D:Nat→Bool) (t:List Aa) (m:Mem):Prop where
 len:t.length=t0.length
 tmp:∀ x,x<t0.length→t[x]? = match E4 (fun j=>D j&&LJ asz x j) asz.length with|some j=>some (V j)|none=>t0[x]?
 mem:∀ c,m.get c=match E4 (fun j=>D j&&(F j).W c) asz.length with|some j=>(M (j+1)).get c|none=>m0.get c
 next:m.next=match E4 (fun j=>D j&&(F j).Dp) asz.length with|some j=>(M (j+1)).next|none=>m0.next
theorem Z9c(n:Nat):E4 (fun _=>false) n=none:=by
 induction n with
 | zero=>rfl
 | succ n ih=>simp[E4,ih]
theorem oO{p:Nat→Bool}{j:Nat}:∀ {n:Nat},E4 p n=some j→j<n
 | 0,h=>by cases h
 | n+1,h=>by
  simp only[E4]at h;split at h
  ·injection h with h; omega
  ·have:=oO h; omega
theorem oE:Bu asz t0 m0 M V F (fun _=>false) t0 m0:=by
 refine⟨rfl,fun x _=>?_,fun c=>?_,?_⟩<;>simp only[Bool.false_and,Z9c]
theorem SQ{D D':Nat→Bool}{t:List Aa}{m:Mem}(h:Bu asz t0 m0 M V F D t m)(hd:∀ j,j<asz.length→D j=D' j):Bu asz t0 m0 M V F D' t m:=by
 refine⟨h.len,fun x hx=>?_,fun c=>?_,?_⟩
 ·rw[h.tmp x hx,Nf asz.length fun j hj=>by rw[hd j hj]]
 ·rw[h.mem c,Nf asz.length fun j hj=>by rw[hd j hj]]
 ·rw[h.next,Nf asz.length fun j hj=>by rw[hd j hj]]
theorem bK{D q:Nat→Bool}{i n:Nat}(hi:i<n)(h:∀ j,i<j→j<n→D j=true→q i=true→q j=false) :
 E4 (fun j=>(D j||j == i)&&q j) n=if q i=true then some i else E4 (fun j=>D j&&q j) n:=by
 cases hq:q i with
 | true=>
  rw[iP rfl];refine sV (by simp[hq]) n hi fun j h1 h2=>?_
  cases hD:D j with
  | false=>simp; intro h3; omega
  | true=>simp[h j h1 h2 hD hq]
 | false=>
  simp only[bF,if_false];refine Nf n fun j _=>?_
  by_cases hji:j=i
  ·subst hji; simp[hq]
  ·simp[beq_false_of_ne hji]
theorem qU{D:Nat→Bool}{t:List Aa}{m m':Mem}{i:Nat}{b:Af}(h:Bu asz t0 m0 M V F D t m)(hb:asz[i]? = some b)
 (CU:∀ j c,i<j→D j=true→asz[j]? = some c → ∀ d,b.dst=some d→c.dst≠some d)
 (hwr:∀ j c,i<j→j<asz.length→D j=true→(F i).W c=true→(F j).W c=false)
 (Ck:∀ j,i<j→j<asz.length→D j=true→(F i).Dp=true→(F j).Dp=false)
 (hout:∀ c,(F i).W c=false→m'.get c=m.get c) (hin:∀ c,(F i).W c=true→m'.get c=(M (i+1)).get c)
 (Fk:(F i).Dp=true→m'.next=(M (i+1)).next) (hn0:(F i).Dp=false→m'.next=m.next) :
 Bu asz t0 m0 M V F (fun j=>D j||j == i) (put t b.dst (V i)) m':=by
 have hi:i<asz.length:=(gS.1 hb).1;refine⟨?_,fun x hx=>?_,fun c=>?_,?_⟩
 ·cases hd:b.dst<;>simp[put,h.len]
 ·rw[bK hi (q:=fun j=>LJ asz x j) (fun j h1 h2 hD hq=>by
   simp only[LJ,hb,beq_iff_eq]at hq;have:=CU j (asz[j]) h1 hD (gE h2) x hq;simp[LJ,gE h2,this])]
  by_cases hxd:b.dst=some x
  ·rw[iP (by simp[LJ,hb,hxd])]
   simp only[hxd,put];rw[List.getElem?_set];simp[h.len,hx]
  ·rw[iN (by simp[LJ,hb,hxd]),← h.tmp x hx]
   cases hd:b.dst with
   | none=>rfl
   | some d=>
    simp only[put];rw[List.getElem?_set];have:d≠x:=fun e=>hxd (by rw[hd,e])
    rw[iN this]
 ·rw[bK hi (q:=fun j=>(F j).W c) (fun j h1 h2 hD hq=>hwr j c h1 h2 hD hq)]
  cases hq:(F i).W c with
  | true=>simp only[if_true]; exact hin c hq
  | false=>simp only[bF,if_false]; rw[hout c hq,h.mem c]
 ·rw[bK hi (q:=fun j=>(F j).Dp) (fun j h1 h2 hD hq=>Ck j h1 h2 hD hq)]
  cases hq:(F i).Dp with
  | true=>simp only[if_true]; exact Fk hq
  | false=>simp only[bF,if_false]; rw[hn0 hq,h.next]
theorem WU(h:Trace P base asz t0 m0 T M V F){i:Nat}{b:Af}(hb:asz[i]? = some b) :
 (∀ c,(F i).W c=false→(M (i+1)).get c=(M i).get c)∧((F i).Dp=false→(M (i+1)).next=(M i).next)∧(M i).next≤(M (i+1)).next ∧
 (b.op.kind=0→F i=.ops [] [])∧(b.op.kind≤1 → ∀ c,(F i).W c=false):=by
 obtain⟨_,hs⟩:=h.step i b hb;rcases hs with⟨_,_,h1,h2⟩|⟨_,_,⟨f,xs,g,args,wl,x,ho,_,hF,m3,c0,c1,c2,c3,c4,c5,_⟩|⟨hs,hF⟩⟩
 ·rw[h1,h2];exact⟨fun _ _=>rfl,fun _=>rfl,lR _,fun _=>rfl,fun _ _=>rfl⟩
 ·rw[hF];refine⟨fun c hc=>?_,fun hc=>(by cases hc),by omega,fun hk=>(by rw[ho]at hk; simp[AU.kind]at hk),fun hk=>(by rw[ho]at hk; simp[AU.kind]at hk)⟩
  simp only[FT.W,Bool.or_eq_false_iff,decide_eq_false_iff_not,Nat.not_le]at hc;have hw:c∉wl:=fun hm=>by rw[List.contains_iff_mem.2 hm]at hc; cases hc.1
  rw[c4 c];by_cases hcx:c∈x
  ·rw[iP hcx]
  ·rw[iN hcx]; exact c5 c hw hc.2 hcx
 ·obtain⟨_,_,h2⟩:=ZM (m2:=M i) (fun _ _=>rfl) (fun _ _=>rfl) hs
  rw[hF];refine⟨fun c hc=>h2.QV c (fun hm=>?_),fun _=>h2.n1,Nat.le_of_eq h2.n1.symm,fun hk=>by rw[(vI hk).1,(vI (id:=base+i) hk).2],fun hk c=>by rw[Z7k hk]; rfl⟩
  simp only[FT.W]at hc;rw[List.contains_iff_mem.2 hm]at hc; cases hc
theorem YF(h:Trace P base asz t0 m0 T M V F):∀ i,i≤asz.length→Bu asz t0 m0 M V F (fun j=>decide (j<i)) (T i) (M i)
 | 0,_=>by
  rw[h.t0,h.m0];exact SQ oE fun j _=>by simp
 | i+1,hi=>by
  have ih:=YF h i (by omega)
  have hb:asz[i]? = some asz[i]:=gE (by omega)
  obtain⟨h1,h2,_⟩:=WU h hb;rw[(h.step i _ hb).1];refine SQ (qU ih hb (fun j c hij hD=>by simp at hD; omega) (fun j c hij _ hD=>by simp at hD; omega) (fun j hij _ hD=>by simp at hD; omega) h1 (fun _ _=>rfl) (fun _=>rfl) h2) fun j _=>?_
  by_cases hji:j=i
  ·subst hji; simp
  ·have:(decide (j<i+1))=decide (j<i):=by
    by_cases hl:j<i
    ·simp[hl,show j<i+1 by omega]
    ·simp[hl,show ¬j<i+1 by omega]
   simp[hji,this]
theorem mV(h:Trace P base asz t0 m0 T M V F):∀ i,i≤asz.length→m0.next≤(M i).next
 | 0,_=>by rw[h.m0]; exact lR _
 | i+1,hi=>by
  have hb:asz[i]? = some asz[i]:=gE (by omega)
  obtain⟨_,_,h3,_⟩:=WU h hb;exact Nat.le_trans (mV h i (by omega)) h3
theorem pL(h:Trace P base asz t0 m0 T M V F){D:Nat→Bool}{t:List Aa}{m:Mem}(hs:Bu asz t0 m0 M V F D t m):m0.next≤m.next:=by
 rw[hs.next];split
 ·rename_i j hj;exact mV h (j+1) (oO hj)
 ·exact lR _
theorem Zz2{D:Nat→Bool}{t:List Aa}{m:Mem}{i:Nat}{b:Af}(hs:Bu asz t0 m0 M V F D t m)(hq:Bu asz t0 m0 M V F (fun j=>decide (j<i)) (T i) (M i))(hD:D i=false)
 (hl:∀ j c,j≠i→D j≠decide (j<i)→asz[j]? = some c → ∀ d,c.dst=some d→d∉b.looks)
 (hm:∀ j c,j<asz.length→j≠i→D j≠decide (j<i)→((F i).R c=true∨(F i).W c=true)→(F j).W c=false)
 (hc:∀ j,j<asz.length→j≠i→D j≠decide (j<i)→(F i).Dp=true→(F j).Dp=false) :
 (∀ x,x∈b.looks→t.getD x Ag=(T i).getD x Ag)∧(∀ c,(F i).R c=true∨(F i).W c=true→m.get c=(M i).get c)∧((F i).Dp=true→m.next=(M i).next):=by
 refine⟨fun x hx=>?_,fun c Ck=>?_,fun hic=>?_⟩
 ·have:t[x]? = (T i)[x]?:=by
   rcases lG x t0.length with hlt|hge
   ·rw[hs.tmp x hlt,hq.tmp x hlt];rw[Nf (q:=fun j=>decide (j<i)&&LJ asz x j) asz.length fun j hj=>?_]
    by_cases hji:j=i
    ·subst hji; simp[hD]
    ·by_cases hd:D j=decide (j<i)
     ·rw[hd]
     ·have:LJ asz x j=false:=by
       simp only[LJ,gE hj];cases hdd:(asz[j]).dst with
       | none=>rfl
       | some d=>
        have:=hl j _ hji hd (gE hj) d hdd;have:d≠x:=fun e=>this (e ▸ hx)
        simp[this]
      simp[this]
   ·rw[List.getElem?_eq_none (by rw[hs.len]; exact hge),List.getElem?_eq_none (by rw[hq.len]; exact hge)]
  simp only[List.getD,this]
 ·rw[hs.mem c,hq.mem c];rw[Nf (q:=fun j=>decide (j<i)&&(F j).W c) asz.length fun j hj=>?_]
  by_cases hji:j=i
  ·subst hji; simp[hD]
  ·by_cases hd:D j=decide (j<i)
   ·rw[hd]
   ·simp[hm j c hj hji hd Ck]
 ·rw[hs.next,hq.next];rw[Nf (q:=fun j=>decide (j<i)&&(F j).Dp) asz.length fun j hj=>?_]
  by_cases hji:j=i
  ·subst hji; simp[hD]
  ·by_cases hd:D j=decide (j<i)
   ·rw[hd]
   ·simp[hc j hj hji hd hic]
end
end Go.AE
end
section
namespace Go.AE
open Go.RowKit
theorem zM{α β:Type}(f:List β→α→β):∀ (l:List α) (acc:List β),(l.foldl (fun acc o=>acc++[f acc o]) acc).length=acc.length+l.length ∧
 (∀ i,i<acc.length→(l.foldl (fun acc o=>acc++[f acc o]) acc)[i]? = acc[i]?) ∧
 ∀ i o,l[i]? = some o→(l.foldl (fun acc o=>acc++[f acc o]) acc)[acc.length+i]? = some (f ((l.foldl (fun acc o=>acc++[f acc o]) acc).take (acc.length+i)) o)
 | [],acc=>⟨by simp,fun _ _=>rfl,fun i o h=>by simp at h⟩
 | x :: l,acc=>by
  obtain⟨h1,h2,h3⟩:=zM f l (acc++[f acc x]);simp only[List.foldl_cons];simp only[lA,lC,List.length_nil,Nat.zero_add]at h1 h2 h3;refine⟨by rw[h1,lC]; omega,fun i hi=>by rw[h2 i (by omega),List.getElem?_append_left hi],fun i o ho=>?_⟩
  cases i with
  | zero=>
   simp only[List.getElem?_cons_zero,oI]at ho;subst ho;rw[Nat.add_zero,h2 _ (by omega)]
   have:(l.foldl (fun acc o=>acc++[f acc o]) (acc++[f acc x])).take acc.length=acc:=by
    apply List.ext_getElem?;intro k;rw[List.getElem?_take];split
    ·rename_i hk;rw[h2 k (by omega),List.getElem?_append_left hk]
    ·rename_i hk;rw[List.getElem?_eq_none (by omega)]
   rw[this];simp
  | succ i=>
   simp only[List.getElem?_cons_succ]at ho;have:=h3 i o ho;rw[show acc.length+1+i=acc.length+(i+1) by omega]at this
   exact this
theorem Z2y{ops:List Oper}{i j:Nat}{o:Oper}(ho:ops[i]? = some o)(hj:j∈(Hv ops).getD i []):∃ e,e∈o.after.toList∧Region.binds .any e=true∧(e.on=j∨j∈(Hv ops).getD e.on []):=by
 unfold Hv at hj ⊢;obtain⟨h1,_,h3⟩:=zM (fun acc (o:Oper)=>MR [] ((o.after.toList.filter (Region.binds .any)).flatMap fun e=>e.on :: acc.getD e.on [])) ops []
 have h:=h3 i o ho;simp only[List.length_nil,Nat.zero_add]at h;generalize hL:ops.foldl (fun acc o=>acc++[MR [] ((o.after.toList.filter (Region.binds .any)).flatMap fun e=>e.on :: acc.getD e.on [])]) []=L at *
 rw[List.getD,h]at hj;simp only[Option.getD_some,Zp,List.not_mem_nil,false_or,List.mem_flatMap,List.mem_filter,mC]at hj;obtain⟨e,⟨he1,he2⟩,hjj⟩:=hj;refine⟨e,he1,he2,?_⟩;rcases hjj with hjj|hjj
 ·exact .inl hjj.symm
 ·refine .inr ?_;simp only[List.getD]at hjj ⊢;rw[List.getElem?_take]at hjj;split at hjj
  ·exact hjj
  ·simp at hjj
theorem xG{asz:List Af}{Bh:List (List Nat)}:∀ (l:List Af) (k i:Nat),(EW asz Bh k l)[i]? = (l[i]?).map fun a=>⟨a.dst,a.op,a.guard,Xt asz Bh (k+i) a.op⟩
 | [],k,i=>by simp[EW]
 | a :: l,k,i=>by
  cases i with
  | zero=>simp[EW]
  | succ i=>
   simp only[EW,List.getElem?_cons_succ];rw[xG l (k+1) i,show k+1+i=k+(i+1) by omega]
theorem yE{asz:List Af}{Bh:List (List Nat)}:∀ (l:List Af) (k:Nat),(EW asz Bh k l).length=l.length
 | [],_=>rfl
 | _ :: l,k=>by simp[EW,yE l (k+1)]
theorem F4{ops:Array Oper}{listed:Array Bool}(hs:listed.size=ops.size){i:Nat}:i∈Region.ready .any ops listed ↔
 i<ops.size∧listed.getD i false=false ∧ ∀ o,ops[i]? = some o → ∀ e,e∈o.after.toList→Region.binds .any e=true→listed.getD e.on false=true:=by
 unfold Region.ready;rw[List.mem_filter,mR];constructor
 ·rintro⟨h1,h2⟩;have hl:i<listed.size:=by rw[hs]; exact h1
  have ho:ops[i]? = some ops[i]:=Array.getElem?_eq_getElem h1;rw[ho]at h2;simp only[Option.map_some,Option.getD_some,bA,Bool.not_eq_true',Array.all_eq_true',Bool.or_eq_true]at h2;refine⟨h1,by simpa[Array.getD,hl]using h2.1,fun o ho' e he hb=>?_⟩
  rw[ho]at ho'; injection ho' with ho'; subst ho'
  rcases h2.2 e (by simpa using he)with h|h
  ·rw[hb]at h; cases h
  ·exact h
 ·rintro⟨h1,h2,h3⟩;have hl:i<listed.size:=by rw[hs]; exact h1
  have ho:ops[i]? = some ops[i]:=Array.getElem?_eq_getElem h1;refine⟨h1,?_⟩;rw[ho];simp only[Option.map_some,Option.getD_some,bA,Bool.not_eq_true',Array.all_eq_true',Bool.or_eq_true];refine⟨by simpa[Array.getD,hl]using h2,fun e he=>?_⟩
  cases hb:Region.binds .any e with
  | false=>exact .inl rfl
  | true=>exact .inr (h3 _ ho e (by simpa using he) hb)
theorem Z4r{ops:Array Oper}{listed:Array Bool}(hs:listed.size=ops.size)(hlt:∀ (i:Nat) (o:Oper),ops[i]? = some o → ∀ e,e∈o.after.toList→Region.binds .any e=true→e.on<i)
 (hr:Region.ready .any ops listed=[]):∀ i,i<ops.size→listed.getD i false=true:=by
 intro i
 induction i using Nat.strongRecOn with
 | ind i ih=>
  intro hi;cases hl:listed.getD i false with
  | true=>rfl
  | false=>
   have:i∈Region.ready .any ops listed:=(F4 hs).2 ⟨hi,hl,fun o ho e he hb=>ih e.on (hlt i o ho e he hb) (by have:=hlt i o ho e he hb; omega)⟩
   rw[hr]at this;simp at this
theorem H1{listed:Array Bool}{i:Nat}(hs:i<listed.size)(j:Nat):(listed.setIfInBounds i true).getD j false=if i=j then true else listed.getD j false:=by
 rw[Array.getD_eq_getD_getElem?,Array.getD_eq_getD_getElem?,Array.getElem?_setIfInBounds];by_cases h:i=j
 ·subst h; simp[hs]
 ·simp[h]
theorem aY{listed:Array Bool}{n i:Nat}(hi:i<n)(hs:i<listed.size)(hl:listed.getD i false=false) :
 ((List.range n).filter fun j=>!(listed.setIfInBounds i true).getD j false).length<((List.range n).filter fun j=>!listed.getD j false).length:=by
 have e1:((List.range n).filter fun j=>!(listed.setIfInBounds i true).getD j false)=(((List.range n).filter fun j=>!listed.getD j false).filter fun j=>!(listed.setIfInBounds i true).getD j false):=by
  rw[List.filter_filter];refine List.filter_congr fun j _=>?_
  rw[H1 hs];by_cases hji:i=j
  ·subst hji;simp
  ·simp[hji]
 rw[e1];refine List.length_filter_lt_length_iff_exists.2 ⟨i,?_,?_⟩
 ·rw[List.mem_filter,mR];exact⟨hi,by simp[hl]⟩
 ·rw[H1 hs]; simp
section
variable {P:Program} {base:Nat} {asz:List Af} {t0:List Aa} {m0:Mem} {T:Nat→List Aa} {M:Nat→Mem} {V:Nat→Aa} {F:Nat→FT} {ops:Array Oper} {Bh:List (List Nat)}
structure MB (asz:List Af) (F:Nat→FT) (Bh:List (List Nat)):Prop where
 slots:∀ i j x y,j<i→asz[i]? = some x→asz[j]? = some y→j∉Bh.getD i []→(∀ d,y.dst=some d→d∉x.looks∧x.dst≠some d) ∧ ∀ d,x.dst=some d→d∉y.looks
 mem:∀ i j x y,j<i→asz[i]? = some x→asz[j]? = some y→j∉Bh.getD i []→(∀ c,(F j).W c=true→(F i).R c=false∧(F i).W c=false)∧(∀ c,(F j).R c=true→(F i).W c=false)∧((F j).Dp=true→(F i).Dp=false)
theorem vB{b:Af}{x:Ah}{t t':List Aa}(h:∀ s,s∈b.looks→t.getD s Ag=t'.getD s Ag)(hx:x∈b.op.AK):ev t x=ev t' x:=by
 cases x with
 | tmp i=>
  simp only[ev];refine h i ?_;unfold Af.looks;exact List.mem_append_left _ (List.mem_filterMap.2 ⟨_,hx,rfl⟩)
 | const v=>rfl
 | fn f=>rfl
theorem Yf{b:Af}{t t':List Aa}(h:∀ s,s∈b.looks→t.getD s Ag=t'.getD s Ag):T7 t b.guard=T7 t' b.guard:=by
 unfold T7;cases hg:b.guard with
 | none=>rfl
 | some dw=>
  obtain⟨d,w⟩:=dw;simp only;rw[h d (by unfold Af.looks; rw[hg]; simp)]
theorem Z94(W:AA)(n0:Nat)(Q:Exit→AY→Prop)(Dh:Ao)(CQ:AD)(hb0:n0≤base)(hsz:asz.length=ops.size)
 (hres:∀ (i:Nat) (o:Oper) (b:Af),ops[i]? = some o→asz[i]? = some b→b.dst=o.dst∧b.op=O9 P o∧C1 ops o.guard=some b.guard)
 (hlt:∀ (i:Nat) (o:Oper),ops[i]? = some o → ∀ e,e∈o.after.toList→Region.binds .any e=true→e.on<i)
 (hpre:∀ (i j:Nat) (o:Oper),ops[i]? = some o→j∈Bh.getD i [] → ∃ e,e∈o.after.toList∧Region.binds .any e=true∧(e.on=j∨j∈Bh.getD e.on []))
 (htr:Trace P base asz t0 m0 T M V F) (hlo:MB asz F Bh) (hQ:Q .normal ⟨T asz.length,M asz.length⟩) (CY:base+asz.length≤m0.next) :
 ∀(fuel:Nat) (listed:Array Bool) (t:List Aa) (m:Mem) (Φ:Ao) (ρ:AD) (a:Act) (w:World),listed.size=ops.size →
  ((List.range ops.size).filter fun j=>!listed.getD j false).length≤fuel→(∀ i j,listed.getD i false=true→j∈Bh.getD i []→listed.getD j false=true) →
  Bu asz t0 m0 M V F (fun j=>listed.getD j false) t m→Rel W Φ ρ m w→RL Φ ρ t a.tmps→a.defers=[]→Ext Dh CQ Φ ρ→BI n0 CQ ρ →
  (∀ i,i<asz.length→listed.getD i false=false→ρ (base+i)=none)→wpAny P .any ops (J7 W Dh CQ n0 Q) fuel listed a w:=by
 have fin:∀ (listed:Array Bool) (t:List Aa) (m:Mem) (Φ:Ao) (ρ:AD) (a:Act) (w:World),listed.size=ops.size→Region.ready .any ops listed=[] →
  Bu asz t0 m0 M V F (fun j=>listed.getD j false) t m→Rel W Φ ρ m w→RL Φ ρ t a.tmps→a.defers=[]→Ext Dh CQ Φ ρ→BI n0 CQ ρ→J7 W Dh CQ n0 Q .normal a w:=by
  intro listed t m Φ ρ a w hs hr hst hrel ht hd he hk;have hall:=Z4r hs hlt hr;have h1:=SQ hst (D':=fun j=>decide (j<asz.length)) fun j hj=>by rw[hall j (by rw[← hsz]; exact hj)]; simp[hj]
  have h2:=YF htr asz.length (lR _);have e1:t=T asz.length:=by
   apply List.ext_getElem?;intro x;rcases lG x t0.length with hx|hx
   ·rw[h1.tmp x hx,h2.tmp x hx]
   ·rw[List.getElem?_eq_none (by rw[h1.len]; exact hx),List.getElem?_eq_none (by rw[h2.len]; exact hx)]
  have e2:m=M asz.length:=Mem.ext' (fun c=>by rw[h1.mem c,h2.mem c]) (by rw[h1.next,h2.next])
  subst e1; subst e2;have:=pL htr h2;exact⟨_,Φ,ρ,he,hk,by show n0≤(M asz.length).next; omega,hrel,ht,hd,hQ⟩
 intro fuel
 induction fuel with
 | zero=>
  intro listed t m Φ ρ a w hs hc BT hst hrel ht hd he hk hfr;have hnil:Region.ready .any ops listed=[]:=by
   cases hr:Region.ready .any ops listed with
   | nil=>rfl
   | cons i r=>
    exfalso;obtain⟨h1,h2,_⟩:=(F4 hs).1 (by rw[hr]; simp:i∈Region.ready .any ops listed)
    have:i∈(List.range ops.size).filter fun j=>!listed.getD j false:=List.mem_filter.2 ⟨mR.2 h1,by simp[h2]⟩
    have:=List.length_pos_of_mem this;omega
  exact⟨hnil,fin listed t m Φ ρ a w hs hnil hst hrel ht hd he hk⟩
 | succ fuel ih=>
  intro listed t m Φ ρ a w hs hc BT hst hrel ht hd he hk hfr;refine⟨fun hnil=>fin listed t m Φ ρ a w hs hnil hst hrel ht hd he hk,fun i hi=>?_⟩
  obtain⟨hi1,hi2,hi3⟩:=(F4 hs).1 hi;have hia:i<asz.length:=by rw[hsz]; exact hi1
  have ho:ops[i]? = some ops[i]:=Array.getElem?_eq_getElem hi1;have hb:asz[i]? = some asz[i]:=gE hia;generalize ops[i]=o at ho;generalize asz[i]=b at hb;obtain⟨e1,e2,e3⟩:=hres i o b ho hb;have hpin:∀ j,j∈Bh.getD i []→listed.getD j false=true:=by
   intro j hj;obtain⟨e,he1,he2,hej⟩:=hpre i j o ho hj;have hon:=hi3 o ho e he1 he2;rcases hej with rfl|hej
   ·exact hon
   ·exact BT _ _ hon hej
  have hl:∀ (j:Nat) (c:Af),j≠i→listed.getD j false≠decide (j<i)→asz[j]? = some c → ∀ d,c.dst=some d→d∉b.looks:=by
   intro j c hji hD hcj d hdj;rcases Nat.lt_or_gt_of_ne hji with hlt'|hgt
   ·have hDj:listed.getD j false=false:=by
     cases hq:listed.getD j false with
     | false=>rfl
     | true=>rw[hq]at hD; simp[hlt']at hD
    exact((hlo.slots i j b c hlt' hb hcj (fun hp=>by rw[hpin j hp]at hDj; cases hDj)).1 d hdj).1
   ·have hDj:listed.getD j false=true:=by
     cases hq:listed.getD j false with
     | true=>rfl
     | false=>rw[hq]at hD; simp[show ¬j<i by omega]at hD
    exact(hlo.slots j i c b hgt hcj hb (fun hp=>by rw[BT j i hDj hp]at hi2; cases hi2)).2 d hdj
  have out:∀ (j:Nat),j<asz.length→j≠i→listed.getD j false≠decide (j<i) →
   (∀ c,(F j).W c=true→(F i).R c=false∧(F i).W c=false)∧((F j).Dp=true→(F i).Dp=false):=by
   intro j hj hji hD;have hy:asz[j]? = some asz[j]:=gE hj;rcases Nat.lt_or_gt_of_ne hji with hlt'|hgt
   ·have hDj:listed.getD j false=false:=by
     cases hq:listed.getD j false with
     | false=>rfl
     | true=>rw[hq]at hD; simp[hlt']at hD
    obtain⟨h1,_,h3⟩:=hlo.mem i j b _ hlt' hb hy (fun hp=>by rw[hpin j hp]at hDj; cases hDj)
    exact⟨h1,h3⟩
   ·have hDj:listed.getD j false=true:=by
     cases hq:listed.getD j false with
     | true=>rfl
     | false=>rw[hq]at hD; simp[show ¬j<i by omega]at hD
    obtain⟨h1,h2,h3⟩:=hlo.mem j i _ b hgt hy hb (fun hp=>by rw[BT j i hDj hp]at hi2; cases hi2)
    refine⟨fun c hc=>⟨?_,?_⟩,fun hc=>?_⟩
    ·cases hq:(F i).R c with
     | false=>rfl
     | true=>rw[h2 c hq]at hc; cases hc
    ·cases hq:(F i).W c with
     | false=>rfl
     | true=>rw[(h1 c hq).2]at hc; cases hc
    ·cases hq:(F i).Dp with
     | false=>rfl
     | true=>rw[h3 hq]at hc; cases hc
  have hm:∀ (j c:Nat),j<asz.length→j≠i→listed.getD j false≠decide (j<i)→((F i).R c=true∨(F i).W c=true)→(F j).W c=false:=by
   intro j c hj hji hD hcF;cases hw:(F j).W c with
   | false=>rfl
   | true=>
    obtain⟨h1,h2⟩:=(out j hj hji hD).1 c hw;rcases hcF with h|h
    ·rw[h1]at h; cases h
    ·rw[h2]at h; cases h
  have Ck:∀ (j:Nat),j<asz.length→j≠i→listed.getD j false≠decide (j<i)→(F i).Dp=true→(F j).Dp=false:=by
   intro j hj hji hD hc;cases hw:(F j).Dp with
   | false=>rfl
   | true=>rw[(out j hj hji hD).2 hw]at hc; cases hc
  have hseq:=YF htr i (by omega)
  obtain⟨hag,hmm,GX⟩:=Zz2 hst hseq hi2 hl hm Ck;have hadv1:∀ (j:Nat) (c:Af),i<j→listed.getD j false=true→asz[j]? = some c → ∀ d,b.dst=some d→c.dst≠some d:=fun j c hij hDj hcj d hd'=>
   ((hlo.slots j i c b hij hcj hb (fun hp=>by rw[BT j i hDj hp]at hi2; cases hi2)).1 d hd').2
  have hadv2:∀ (j c:Nat),i<j→j<asz.length→listed.getD j false=true→(F i).W c=true→(F j).W c=false:=fun j c hij hj hDj hcF=>hm j c hj (by omega) (by rw[hDj]; simp; omega) (.inr hcF)
  have hadv3:∀ (j:Nat),i<j→j<asz.length→listed.getD j false=true→(F i).Dp=true→(F j).Dp=false:=fun j hij hj hDj hcF=>Ck j hj (by omega) (by rw[hDj]; simp; omega) hcF
  have hmn:=pL htr hst;obtain⟨_,hstep⟩:=htr.step i b hb;have hls:i<listed.size:=by rw[hs]; exact hi1
  have hset:∀ j,(listed.setIfInBounds i true).getD j false=(listed.getD j false||j == i):=by
   intro j;rw[H1 hls];by_cases hji:i=j
   ·subst hji; simp
   ·have:(j == i)=false:=beq_false_of_ne fun e=>hji e.symm
    simp[hji,this]
  have hcnt:((List.range ops.size).filter fun j=>!(listed.setIfInBounds i true).getD j false).length≤fuel:=by
   have:=aY (listed:=listed) (n:=ops.size) hi1 hls hi2;omega
  have hcl':∀ i' j,(listed.setIfInBounds i true).getD i' false=true→j∈Bh.getD i' []→(listed.setIfInBounds i true).getD j false=true:=by
   intro i' j h1 h2;rw[hset]at h1 ⊢;by_cases hii:i'=i
   ·subst hii;rw[hpin j h2]; rfl
   ·rw[beq_false_of_ne hii,Bool.or_false]at h1;rw[BT i' j h1 h2]; rfl
  have hfr':∀ (ρ':AD),(∀ c,c<m.next→c≠base+i→ρ c=none→ρ' c=none) → ∀ i',i'<asz.length→(listed.setIfInBounds i true).getD i' false=false→ρ' (base+i')=none:=by
   intro ρ' hρ i' hi' hl';rw[hset]at hl';have hne:i'≠i:=fun e=>by subst e; simp at hl'
   rw[beq_false_of_ne hne,Bool.or_false]at hl';exact hρ _ (by omega) (by omega) (hfr i' hi' hl')
  have next:∀ (m':Mem) (Ar:Ao) (ρ':AD) (u:Value) (w':World),Ext Φ ρ Ar ρ'→(∀ c,c<m.next→c≠base+i→ρ c=none→ρ' c=none)→Rel W Ar ρ' m' w'→R Ar ρ' (V i) u →
   (∀ c,(F i).W c=false→m'.get c=m.get c)→(∀ c,(F i).W c=true→m'.get c=(M (i+1)).get c)→((F i).Dp=true→m'.next=(M (i+1)).next)→((F i).Dp=false→m'.next=m.next) →
   wpAny P .any ops (J7 W Dh CQ n0 Q) fuel (listed.setIfInBounds i true) (a.put o.dst u) w':=by
   intro m' Ar ρ' u w' hE hρ hr' hx hout hin hnx1 hnx0;refine ih (listed.setIfInBounds i true) (put t b.dst (V i)) m' Ar ρ' _ w' (by simpa using hs) hcnt hcl' ?_ hr' (by rw[← e1]; exact(ht.ext hE).put b.dst hx) (by rw[D9]; exact hd) (he.trans hE)
    (fun c hc h0=>hρ c (by omega) (by omega) (hk c hc h0)) (hfr' ρ' hρ)
   exact SQ (qU hst hb hadv1 hadv2 hadv3 hout hin hnx1 hnx0) fun j _=>(hset j).symm
  have hni:=hfr i hia hi2;have hlt':base+i<m.next:=by omega
  unfold wpOp;rw[ho];simp only;rcases hstep with⟨hw,hV,hM,hF⟩|⟨hw,_,⟨f,xs,g,args,wl,x,hop,BD,hF,m3,hid,c1,c2,c3,c4,c5,hA⟩|⟨hs',hF⟩⟩
  ·rw[LB ht e3 (by rw[Yf hag]; exact hw),iN (by simp)]
   exact next m Φ ρ undef w (.refl _ _) (fun _ _ _ h=>h) hrel (by rw[hV]; exact GM _ _) (fun _ _=>rfl) (fun c hc=>by rw[hF]at hc; cases hc) (fun hc=>by rw[hF]at hc; cases hc) (fun _=>rfl)
  ·rw[LB ht e3 (by rw[Yf hag]; exact hw),iP rfl]
   refine .inl ?_;have hcal':callee t f xs=some (g,args):=by
    rw[Z71 (t2:=T i) fun x hx=>vB hag (by rw[hop]; exact hx)]
    exact BD
   have hnn':m.next=(M i).next:=GX (by rw[hF]; rfl)
   have Dl:∀ c,c∉x→m.get c=(M i).get c:=fun c hc=>hmm c (.inl (by rw[hF]; simp[FT.R,hc]))
   ·have hA2:=Zzn hid c1 c2 hA Dl hnn';refine VO ht hrel hni hlt' o (by rw[← e2]; exact hop) hcal' hA2 fun Ar ρ' y m' u w' hE hfr2 hr' hx hnx' hK=>?_
    obtain⟨rfl,rfl⟩:=hK;refine next _ Ar ρ' u w' hE hfr2 hr' hx (fun c hc=>?_) (fun c hc=>?_) (fun _=>c3.symm) (fun hc=>by rw[hF]at hc; cases hc)
    ·simp only;by_cases hcx:c∈x
     ·rw[iP hcx]
     ·rw[iN hcx,Dl c hcx];rw[hF]at hc;simp only[FT.W,Bool.or_eq_false_iff,decide_eq_false_iff_not,Nat.not_le]at hc;exact c5 c (fun hm=>by rw[List.contains_iff_mem.2 hm]at hc; cases hc.1) hc.2 hcx
    ·simp only;rw[c4 c];by_cases hcx:c∈x
     ·rw[iP hcx,iP hcx]; exact hmm c (.inr hc)
     ·rw[iN hcx,iN hcx]
  ·rw[LB ht e3 (by rw[Yf hag]; exact hw),iP rfl]
   refine .inl ?_;have hev:∀ x,x∈b.op.AK→ev t x=ev (T i) x:=fun x hx=>vB hag hx
   obtain⟨m2,hs2,hsame⟩:=ZM (m2:=m) (fun c hc=>hmm c (.inl (by rw[hF]; simp[FT.R,hc]))) (fun c hc=>hmm c (.inr (by rw[hF]; simp[FT.W,hc]))) hs'
   rw[← Z3k hev,e2]at hs2;refine Vp ht hrel hni hlt' o hs2 fun Ar ρ' u w' hE hfr2 hr' hx=>?_
   refine next m2 Ar ρ' u w' hE (fun c _ hne h0=>hfr2 c hne h0) hr' hx (fun c hc=>hsame.QW c fun hm=>?_) (fun c hc=>hsame.ins c ?_) (fun hc=>by rw[hF]at hc; cases hc) (fun _=>hsame.n2)
   ·rw[hF]at hc; simp only[FT.W]at hc; rw[List.contains_iff_mem.2 hm]at hc; cases hc
   ·rw[hF]at hc; simp only[FT.W,List.contains_iff_mem]at hc; exact hc
end
end Go.AE
end
