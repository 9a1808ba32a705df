/- Part 2 of the proof: AeV, AeW, AeX, AeY, AeGa, AeGb, AeGc, AeGd, AeDl, AeRun, AeRunS, AeRunP, AeRunD, AeRunC, AeRunF, AeMemo, AeFz, AeOr. -/
import Derived.Test.YtipeejpafgnjdaaGreatDoorH1
import Derived.Orders
import Derived.Deep.LoopGhost
import Derived.RangeFuncRecord
set_option linter.all false
section
namespace Go.AE
open Go.RowKit
structure Trace (P:Program) (base:Nat) (as:List AOper) (t0:List AVal) (m0:Mem) (T:Nat→List AVal) (M:Nat→Mem) (V:Nat→AVal) (F:Nat→FT):Prop where
 t0:T 0=t0
 m0:M 0=m0
 step:∀ i b,as[i]? = some b→T (i+1)=put (T i) b.dst (V i) ∧
  ((R7 (T i) b.guard=some false∧V i=aundef∧M (i+1)=M i∧F i=.ops [] []) ∨
   (R7 (T i) b.guard=some true∧(∀ j,j∈b.un→j<i→FT.indep (F j) (F i)) ∧
     ((∃ f xs g args wl x,b.op=.call f xs∧callee (T i) f xs=some (g,args)∧F i=.call wl x (M i).next∧Zfc P g args (base+i) x (M i) (V i) (M (i+1)) wl) ∨
      (stepA (base+i) (T i) (M i) b.op=some (V i,M (i+1))∧F i=.ops (S5 (base+i) (T i) b.op) (K3 (T i) b.op)))))
theorem Zun{x:Nat}:∀ {l:List Nat},Q8 x l→x∉l
 | [],_=>by simp
 | y :: r,h=>by
  simp only[List.mem_cons,not_or];exact⟨h.1,Zun h.2⟩
theorem Zgu{l:List Nat}:∀ {xs:List Nat},O8 xs l → ∀ c,c∈xs→c∉l
 | [],_,c,hc=>by simp at hc
 | x :: r,h,c,hc=>by
  simp only[List.mem_cons]at hc;rcases hc with rfl|hc
  ·exact Zun h.1
  ·exact Zgu h.2 c hc
theorem Ziu{n:Nat}:∀ {l:List Nat},K1 n l → ∀ c,c∈l→c<n
 | [],_,c,hc=>by simp at hc
 | x :: r,h,c,hc=>by
  simp only[List.mem_cons]at hc;rcases hc with rfl|hc
  ·exact h.1
  ·exact Ziu h.2 c hc
theorem Zti{x:Nat}:∀ {l:List Nat},in1 x l→x∈l
 | [],h=>h.elim
 | y :: r,h=>by
  rcases h with rfl|h
  ·simp
  ·exact List.mem_cons_of_mem _ (Zti h)
theorem Zqj{l:List Nat}:∀ {xs:List Nat},J2 xs l → ∀ c,c∈xs→c∈l
 | [],_,c,hc=>by simp at hc
 | x :: r,h,c,hc=>by
  simp only[List.mem_cons]at hc;rcases hc with rfl|hc
  ·exact Zti h.1
  ·exact Zqj h.2 c hc
theorem FT.indep_spec{f g:FT}(h:FT.indep f g):(∀ c,f.W c=true→g.R c=false∧g.W c=false)∧(∀ c,f.R c=true→g.W c=false)∧(f.isC=true→g.isC=false):=by
 cases f with
 | ops w r=>
  cases g with
  | ops w' r'=>
   obtain⟨h1,h2⟩:=h;refine⟨fun c hc=>?_,fun c hc=>?_,fun h=>by cases h⟩
   ·simp only[FT.W,List.contains_iff_mem]at hc;have:=Zgu h1 c hc;simp only[List.mem_append,not_or]at this;simp[FT.W,FT.R,this.1,this.2]
   ·simp only[FT.R,List.contains_iff_mem]at hc;have:=Zgu h2 c hc;simp[FT.W,this]
  | call wl x nx=>
   obtain⟨h1,h2,h3,h4,h5⟩:=h;refine⟨fun c hc=>?_,fun c hc=>?_,fun h=>by cases h⟩
   ·simp only[FT.W,List.contains_iff_mem]at hc;have e1:=Zgu h3 c hc;have e2:=Ziu h4 c hc;have e3:=Zqj h5 c hc;simp[FT.W,FT.R,e1,e3,Nat.not_le.2 e2]
   ·simp only[FT.R,List.contains_iff_mem]at hc;have e1:=Zgu h1 c hc;have e2:=Ziu h2 c hc;simp[FT.W,e1,Nat.not_le.2 e2]
 | call wl x nx=>
  cases g with
  | ops w r=>
   obtain⟨h1,h2,h3,h4,h5⟩:=h;refine⟨fun c hc=>⟨?_,?_⟩,fun c hc=>?_,fun _=>rfl⟩
   ·cases hq:(FT.ops w r).R c with
    | false=>rfl
    | true=>
     simp only[FT.R,List.contains_iff_mem]at hq;have e1:=Zgu h1 c hq;have e2:=Ziu h2 c hq;simp[FT.W,e1,Nat.not_le.2 e2]at hc
   ·cases hq:(FT.ops w r).W c with
    | false=>rfl
    | true=>
     simp only[FT.W,List.contains_iff_mem]at hq;have e1:=Zgu h3 c hq;have e2:=Ziu h4 c hq;simp[FT.W,e1,Nat.not_le.2 e2]at hc
   ·cases hq:(FT.ops w r).W c with
    | false=>rfl
    | true=>
     simp only[FT.W,List.contains_iff_mem]at hq;have e3:=Zqj h5 c hq;simp[FT.R,e3]at hc
  | call wl' x' nx'=>exact h.elim
theorem Zs8{fs:List FT}{ft:FT}:∀ {un:List Nat},S3 fs ft un → ∀ j,j∈un→FT.indep (fs.getD j (.ops [] [])) ft
 | [],_,j,hj=>by simp at hj
 | i :: r,h,j,hj=>by
  simp only[List.mem_cons]at hj;rcases hj with rfl|hj
  ·exact h.1
  ·exact Zs8 h.2 j hj
theorem Z1s{P:Program}{base:Nat}{b:AOper}{rest:List AOper}{fs:List FT}{K:ASt→Prop}{t:List AVal}{m:Mem}(h:R3 P base (b :: rest) fs K t m) :
 (R7 t b.guard=some false∧R3 P base rest (fs++[.ops [] []]) K (put t b.dst aundef) m) ∨
 (R7 t b.guard=some true∧((∃ f xs g args wl x v m',b.op=.call f xs∧callee t f xs=some (g,args)∧Zfc P g args (base+fs.length) x m v m' wl∧S3 fs (.call wl x m.next) b.un∧R3 P base rest (fs++[.call wl x m.next]) K (put t b.dst v) m') ∨
   (∃ v m',stepA (base+fs.length) t m b.op=some (v,m')∧S3 fs (.ops (S5 (base+fs.length) t b.op) (K3 t b.op)) b.un∧R3 P base rest (fs++[.ops (S5 (base+fs.length) t b.op) (K3 t b.op)]) K (put t b.dst v) m'))):=by
 simp only[R3]at h;cases hw:R7 t b.guard with
 | none=>simp[hw]at h
 | some q=>
  cases q with
  | false=>simp only[hw]at h; exact .inl ⟨rfl,h⟩
  | true=>
   simp only[hw]at h;refine .inr ⟨rfl,?_⟩;have other:∀ op,b.op=op→(match stepA (base+fs.length) t m op with
    | some (v,m')=>S3 fs (.ops (S5 (base+fs.length) t op) (K3 t op)) b.un∧R3 P base rest (fs++[.ops (S5 (base+fs.length) t op) (K3 t op)]) K (put t b.dst v) m'
    | none=>False) →
    ∃ v m',stepA (base+fs.length) t m op=some (v,m')∧S3 fs (.ops (S5 (base+fs.length) t op) (K3 t op)) b.un∧R3 P base rest (fs++[.ops (S5 (base+fs.length) t op) (K3 t op)]) K (put t b.dst v) m':=by
    intro op _ hh;cases hs:stepA (base+fs.length) t m op with
    | none=>simp[hs]at hh
    | some r=>obtain ⟨v,m'⟩:=r; simp only[hs]at hh; exact⟨v,m',rfl,hh⟩
   cases hop:b.op with
   | call f xs=>
    simp only[hop]at h;cases hc:callee t f xs with
    | none=>simp[hc]at h
    | some r=>
     obtain⟨g,args⟩:=r;simp only[hc]at h;obtain⟨wl,x,v,m',h1,h2,h3⟩:=h;exact .inl ⟨f,xs,g,args,wl,x,v,m',rfl,hc,h1,h2,h3⟩
   | _=>rw[hop]at h; exact .inr (other _ hop h)
theorem Z1a{fs:List FT}{x d:FT}{j:Nat}(h:j<fs.length):(fs++[x]).getD j d=fs.getD j d:=by
 simp[List.getD,List.getElem?_append_left h]
theorem Zzc{P:Program}{base:Nat}{K:ASt→Prop}:∀ (as:List AOper) (fs:List FT) (t:List AVal) (m:Mem),R3 P base as fs K t m →
 ∃(T:Nat→List AVal) (M:Nat→Mem) (V:Nat→AVal) (F:Nat→FT),T fs.length=t∧M fs.length=m∧(∀ j,j<fs.length→F j=fs.getD j (.ops [] [])) ∧
  (∀ i b,as[i]? = some b→T (fs.length+i+1)=put (T (fs.length+i)) b.dst (V (fs.length+i)) ∧
    ((R7 (T (fs.length+i)) b.guard=some false∧V (fs.length+i)=aundef∧M (fs.length+i+1)=M (fs.length+i)∧F (fs.length+i)=.ops [] []) ∨
     (R7 (T (fs.length+i)) b.guard=some true∧(∀ j,j∈b.un→j<fs.length+i→FT.indep (F j) (F (fs.length+i))) ∧
       ((∃ f xs g args wl x,b.op=.call f xs∧callee (T (fs.length+i)) f xs=some (g,args)∧F (fs.length+i)=.call wl x (M (fs.length+i)).next∧Zfc P g args (base+(fs.length+i)) x (M (fs.length+i)) (V (fs.length+i)) (M (fs.length+i+1)) wl) ∨
        (stepA (base+(fs.length+i)) (T (fs.length+i)) (M (fs.length+i)) b.op=some (V (fs.length+i),M (fs.length+i+1))∧F (fs.length+i)=.ops (S5 (base+(fs.length+i)) (T (fs.length+i)) b.op) (K3 (T (fs.length+i)) b.op)))))) ∧
  K ⟨T (fs.length+as.length),M (fs.length+as.length)⟩
 | [],fs,t,m,h=>⟨fun _=>t,fun _=>m,fun _=>aundef,fun j=>fs.getD j (.ops [] []),rfl,rfl,fun _ _=>rfl,fun i b hb=>by simp at hb,h⟩
 | b :: rest,fs,t,m,h=>by
  have key:∃ (ft:FT) (v:AVal) (m':Mem),R3 P base rest (fs++[ft]) K (put t b.dst v) m' ∧
   ((R7 t b.guard=some false∧v=aundef∧m'=m∧ft=.ops [] [])∨(R7 t b.guard=some true∧S3 fs ft b.un ∧
     ((∃ f xs g args wl x,b.op=.call f xs∧callee t f xs=some (g,args)∧ft=.call wl x m.next∧Zfc P g args (base+fs.length) x m v m' wl)∨(stepA (base+fs.length) t m b.op=some (v,m')∧ft=.ops (S5 (base+fs.length) t b.op) (K3 t b.op))))):=by
   rcases Z1s h with⟨hw,h'⟩|⟨hw,⟨f,xs,g,args,wl,x,v,m',h1,h2,h3,h4,h5⟩|⟨v,m',h1,h2,h3⟩⟩
   ·exact⟨.ops [] [],aundef,m,h',.inl ⟨hw,rfl,rfl,rfl⟩⟩
   ·exact⟨_,v,m',h5,.inr ⟨hw,h4,.inl ⟨f,xs,g,args,wl,x,h1,h2,rfl,h3⟩⟩⟩
   ·exact⟨_,v,m',h3,.inr ⟨hw,h2,.inr ⟨h1,rfl⟩⟩⟩
  obtain⟨ft,v,m',hrest,hstep⟩:=key;obtain⟨T,M,V,F,h1,h2,h3,h4,h5⟩:=Zzc rest (fs++[ft]) _ _ hrest;have hl:(fs++[ft]).length=fs.length+1:=by simp
  rw[hl]at h1 h2 h3 h4 h5;have hF:F fs.length=ft:=by rw[h3 _ (Nat.lt_succ_self _)]; simp[List.getD]
  have hFj:∀ j,j<fs.length→F j=fs.getD j (.ops [] []):=fun j hj=>by rw[h3 j (by omega),Z1a hj]
  refine⟨fun k=>if k=fs.length then t else T k,fun k=>if k=fs.length then m else M k,fun k=>if k=fs.length then v else V k,F,by simp,by simp,hFj,?_,?_⟩
  ·intro i b' hb';cases i with
   | zero=>
    simp only[List.getElem?_cons_zero,oI]at hb';subst hb';simp only[Nat.add_zero,if_true,show fs.length+1≠fs.length by omega,if_false,h1,h2,hF]
    refine⟨trivial,?_⟩;rcases hstep with⟨g1,g2,g3,g4⟩|⟨g1,g2,g3⟩
    ·exact .inl ⟨g1,g2,g3,g4⟩
    ·refine .inr ⟨g1,fun j hj hlt=>?_,g3⟩
     rw[hFj j hlt];exact Zs8 g2 j hj
   | succ i=>
    simp only[List.getElem?_cons_succ]at hb';have:=h4 i b' hb';have e1:fs.length+1+i=fs.length+(i+1):=by omega
    rw[e1]at this;simp only[show fs.length+(i+1)≠fs.length by omega,show fs.length+(i+1)+1≠fs.length by omega,if_false]
    exact this
  ·have e1:fs.length+(b :: rest).length=fs.length+1+rest.length:=by simp; omega
   simp only[e1,show fs.length+1+rest.length≠fs.length by omega,if_false]
   exact h5
theorem Z75{P:Program}{base:Nat}{as:List AOper}{K:ASt→Prop}{t:List AVal}{m:Mem}(h:R3 P base as [] K t m) :
 ∃ T M V F,Trace P base as t m T M V F∧K ⟨T as.length,M as.length⟩:=by
 obtain⟨T,M,V,F,h1,h2,h3,h4,h5⟩:=Zzc as [] t m h;refine⟨T,M,V,F,⟨h1,h2,fun i b hb=>?_⟩,by simpa using h5⟩
 have:=h4 i b hb;simpa using this
section
variable {P:Program} {base:Nat} {as:List AOper} {t0:List AVal} {m0:Mem} {T:Nat→List AVal} {M:Nat→Mem} {V:Nat→AVal} {F:Nat→FT}
def Zd6(as:List AOper)(x j:Nat):Bool:=
 match as[j]? with
 | some b=>b.dst == some x
 | none=>false
structure StateIs (as:List AOper) (t0:List AVal) (m0:Mem) (M:Nat→Mem) (V:Nat→AVal) (F:Nat→FT) (D:Nat→Bool) (t:List AVal) (m:Mem):Prop where
 len:t.length=t0.length
 tmp:∀ x,x<t0.length→t[x]? = match B9 (fun j=>D j&&Zd6 as x j) as.length with|some j=>some (V j)|none=>t0[x]?
 mem:∀ c,m.get c=match B9 (fun j=>D j&&(F j).W c) as.length with|some j=>(M (j+1)).get c|none=>m0.get c
 next:m.next=match B9 (fun j=>D j&&(F j).isC) as.length with|some j=>(M (j+1)).next|none=>m0.next
theorem Z7o(n:Nat):B9 (fun _=>false) n=none:=by
 induction n with
 | zero=>rfl
 | succ n ih=>simp[B9,ih]
theorem Zxr{p:Nat→Bool}{j:Nat}:∀ {n:Nat},B9 p n=some j→j<n
 | 0,h=>by cases h
 | n+1,h=>by
  simp only[B9]at h;split at h
  ·injection h with h; omega
  ·have:=Zxr h; omega
theorem Ztx:StateIs as t0 m0 M V F (fun _=>false) t0 m0:=by
 refine⟨rfl,fun x _=>?_,fun c=>?_,?_⟩<;>simp only[Bool.false_and,Z7o]
theorem Ziw{D D':Nat→Bool}{t:List AVal}{m:Mem}(h:StateIs as t0 m0 M V F D t m)(hd:∀ j,j<as.length→D j=D' j):StateIs as t0 m0 M V F D' t m:=by
 refine⟨h.len,fun x hx=>?_,fun c=>?_,?_⟩
 ·rw[h.tmp x hx,Zfk as.length fun j hj=>by rw[hd j hj]]
 ·rw[h.mem c,Zfk as.length fun j hj=>by rw[hd j hj]]
 ·rw[h.next,Zfk as.length fun j hj=>by rw[hd j hj]]
theorem Zra{D q:Nat→Bool}{i n:Nat}(hi:i<n)(h:∀ j,i<j→j<n→D j=true→q i=true→q j=false) :
 B9 (fun j=>(D j||j == i)&&q j) n=if q i=true then some i else B9 (fun j=>D j&&q j) n:=by
 cases hq:q i with
 | true=>
  rw[if_pos rfl];refine Zsa (by simp[hq]) n hi fun j h1 h2=>?_
  cases hD:D j with
  | false=>simp; intro h3; omega
  | true=>simp[h j h1 h2 hD hq]
 | false=>
  simp only[bF,if_false];refine Zfk n fun j _=>?_
  by_cases hji:j=i
  ·subst hji; simp[hq]
  ·simp[beq_false_of_ne hji]
theorem Ztp{D:Nat→Bool}{t:List AVal}{m m':Mem}{i:Nat}{b:AOper}(h:StateIs as t0 m0 M V F D t m)(hb:as[i]? = some b)
 (hdst:∀ j c,i<j→D j=true→as[j]? = some c → ∀ d,b.dst=some d→c.dst≠some d)
 (hwr:∀ j c,i<j→j<as.length→D j=true→(F i).W c=true→(F j).W c=false)
 (hcc:∀ j,i<j→j<as.length→D j=true→(F i).isC=true→(F j).isC=false)
 (hout:∀ c,(F i).W c=false→m'.get c=m.get c) (hin:∀ c,(F i).W c=true→m'.get c=(M (i+1)).get c)
 (hn1:(F i).isC=true→m'.next=(M (i+1)).next) (hn0:(F i).isC=false→m'.next=m.next) :
 StateIs as t0 m0 M V F (fun j=>D j||j == i) (put t b.dst (V i)) m':=by
 have hi:i<as.length:=(gS.1 hb).1;refine⟨?_,fun x hx=>?_,fun c=>?_,?_⟩
 ·cases hd:b.dst<;>simp[put,h.len]
 ·rw[Zra hi (q:=fun j=>Zd6 as x j) (fun j h1 h2 hD hq=>by
   simp only[Zd6,hb,beq_iff_eq]at hq;have:=hdst j (as[j]) h1 hD (gE h2) x hq;simp[Zd6,gE h2,this])]
  by_cases hxd:b.dst=some x
  ·rw[if_pos (by simp[Zd6,hb,hxd])]
   simp only[hxd,put];rw[List.getElem?_set];simp[h.len,hx]
  ·rw[if_neg (by simp[Zd6,hb,hxd]),← h.tmp x hx]
   cases hd:b.dst with
   | none=>rfl
   | some d=>
    simp only[put];rw[List.getElem?_set];have:d≠x:=fun e=>hxd (by rw[hd,e])
    rw[if_neg this]
 ·rw[Zra hi (q:=fun j=>(F j).W c) (fun j h1 h2 hD hq=>hwr j c h1 h2 hD hq)]
  cases hq:(F i).W c with
  | true=>simp only[if_true]; exact hin c hq
  | false=>simp only[bF,if_false]; rw[hout c hq,h.mem c]
 ·rw[Zra hi (q:=fun j=>(F j).isC) (fun j h1 h2 hD hq=>hcc j h1 h2 hD hq)]
  cases hq:(F i).isC with
  | true=>simp only[if_true]; exact hn1 hq
  | false=>simp only[bF,if_false]; rw[hn0 hq,h.next]
theorem Zj2(h:Trace P base as t0 m0 T M V F){i:Nat}{b:AOper}(hb:as[i]? = some b) :
 (∀ c,(F i).W c=false→(M (i+1)).get c=(M i).get c)∧((F i).isC=false→(M (i+1)).next=(M i).next)∧(M i).next≤(M (i+1)).next ∧
 (b.op.kind=0→F i=.ops [] [])∧(b.op.kind≤1 → ∀ c,(F i).W c=false):=by
 obtain⟨_,hs⟩:=h.step i b hb;rcases hs with⟨_,_,h1,h2⟩|⟨_,_,⟨f,xs,g,args,wl,x,ho,_,hF,m3,c0,c1,c2,c3,c4,c5,_⟩|⟨hs,hF⟩⟩
 ·rw[h1,h2];exact⟨fun _ _=>rfl,fun _=>rfl,Nat.le_refl _,fun _=>rfl,fun _ _=>rfl⟩
 ·rw[hF];refine⟨fun c hc=>?_,fun hc=>(by cases hc),by omega,fun hk=>(by rw[ho]at hk; simp[AOp.kind]at hk),fun hk=>(by rw[ho]at hk; simp[AOp.kind]at hk)⟩
  simp only[FT.W,Bool.or_eq_false_iff,decide_eq_false_iff_not,Nat.not_le]at hc;have hw:c∉wl:=fun hm=>by rw[List.contains_iff_mem.2 hm]at hc; cases hc.1
  rw[c4 c];by_cases hcx:c∈x
  ·rw[if_pos hcx]
  ·rw[if_neg hcx]; exact c5 c hw hc.2 hcx
 ·obtain⟨_,_,h2⟩:=Zpu (m2:=M i) (fun _ _=>rfl) (fun _ _=>rfl) hs
  rw[hF];refine⟨fun c hc=>h2.out1 c (fun hm=>?_),fun _=>h2.n1,Nat.le_of_eq h2.n1.symm,fun hk=>by rw[(Zvx hk).1,(Zvx (id:=base+i) hk).2],fun hk c=>by rw[Z3t hk]; rfl⟩
  simp only[FT.W]at hc;rw[List.contains_iff_mem.2 hm]at hc; cases hc
theorem Zoz(h:Trace P base as t0 m0 T M V F):∀ i,i≤as.length→StateIs as t0 m0 M V F (fun j=>decide (j<i)) (T i) (M i)
 | 0,_=>by
  rw[h.t0,h.m0];exact Ziw Ztx fun j _=>by simp
 | i+1,hi=>by
  have ih:=Zoz h i (by omega)
  have hb:as[i]? = some as[i]:=gE (by omega)
  obtain⟨h1,h2,_⟩:=Zj2 h hb;rw[(h.step i _ hb).1];refine Ziw (Ztp ih hb (fun j c hij hD=>by simp at hD; omega) (fun j c hij _ hD=>by simp at hD; omega) (fun j hij _ hD=>by simp at hD; omega) h1 (fun _ _=>rfl) (fun _=>rfl) h2) fun j _=>?_
  by_cases hji:j=i
  ·subst hji; simp
  ·have:(decide (j<i+1))=decide (j<i):=by
    by_cases hl:j<i
    ·simp[hl,show j<i+1 by omega]
    ·simp[hl,show ¬j<i+1 by omega]
   simp[hji,this]
theorem Zzi(h:Trace P base as t0 m0 T M V F):∀ i,i≤as.length→m0.next≤(M i).next
 | 0,_=>by rw[h.m0]; exact Nat.le_refl _
 | i+1,hi=>by
  have hb:as[i]? = some as[i]:=gE (by omega)
  obtain⟨_,_,h3,_⟩:=Zj2 h hb;exact Nat.le_trans (Zzi h i (by omega)) h3
theorem Zs1(h:Trace P base as t0 m0 T M V F){D:Nat→Bool}{t:List AVal}{m:Mem}(hs:StateIs as t0 m0 M V F D t m):m0.next≤m.next:=by
 rw[hs.next];split
 ·rename_i j hj;exact Zzi h (j+1) (Zxr hj)
 ·exact Nat.le_refl _
theorem Yc1{D:Nat→Bool}{t:List AVal}{m:Mem}{i:Nat}{b:AOper}(hs:StateIs as t0 m0 M V F D t m)(hq:StateIs as t0 m0 M V F (fun j=>decide (j<i)) (T i) (M i))(hD:D i=false)
 (hl:∀ j c,j≠i→D j≠decide (j<i)→as[j]? = some c → ∀ d,c.dst=some d→d∉b.looks)
 (hm:∀ j c,j<as.length→j≠i→D j≠decide (j<i)→((F i).R c=true∨(F i).W c=true)→(F j).W c=false)
 (hc:∀ j,j<as.length→j≠i→D j≠decide (j<i)→(F i).isC=true→(F j).isC=false) :
 (∀ x,x∈b.looks→t.getD x aundef=(T i).getD x aundef)∧(∀ c,(F i).R c=true∨(F i).W c=true→m.get c=(M i).get c)∧((F i).isC=true→m.next=(M i).next):=by
 refine⟨fun x hx=>?_,fun c hcc=>?_,fun hic=>?_⟩
 ·have:t[x]? = (T i)[x]?:=by
   rcases Nat.lt_or_ge x t0.length with hlt|hge
   ·rw[hs.tmp x hlt,hq.tmp x hlt];rw[Zfk (q:=fun j=>decide (j<i)&&Zd6 as x j) as.length fun j hj=>?_]
    by_cases hji:j=i
    ·subst hji; simp[hD]
    ·by_cases hd:D j=decide (j<i)
     ·rw[hd]
     ·have:Zd6 as x j=false:=by
       simp only[Zd6,gE hj];cases hdd:(as[j]).dst with
       | none=>rfl
       | some d=>
        have:=hl j _ hji hd (gE hj) d hdd;have:d≠x:=fun e=>this (e ▸ hx)
        simp[this]
      simp[this]
   ·rw[List.getElem?_eq_none (by rw[hs.len]; exact hge),List.getElem?_eq_none (by rw[hq.len]; exact hge)]
  simp only[List.getD,this]
 ·rw[hs.mem c,hq.mem c];rw[Zfk (q:=fun j=>decide (j<i)&&(F j).W c) as.length fun j hj=>?_]
  by_cases hji:j=i
  ·subst hji; simp[hD]
  ·by_cases hd:D j=decide (j<i)
   ·rw[hd]
   ·simp[hm j c hj hji hd hcc]
 ·rw[hs.next,hq.next];rw[Zfk (q:=fun j=>decide (j<i)&&(F j).isC) as.length fun j hj=>?_]
  by_cases hji:j=i
  ·subst hji; simp[hD]
  ·by_cases hd:D j=decide (j<i)
   ·rw[hd]
   ·simp[hc j hj hji hd hic]
end
end Go.AE
end
section
namespace Go.AE
open Go.RowKit
theorem Zzb{α β:Type}(f:List β→α→β):∀ (l:List α) (acc:List β),(l.foldl (fun acc o=>acc++[f acc o]) acc).length=acc.length+l.length ∧
 (∀ i,i<acc.length→(l.foldl (fun acc o=>acc++[f acc o]) acc)[i]? = acc[i]?) ∧
 ∀ i o,l[i]? = some o→(l.foldl (fun acc o=>acc++[f acc o]) acc)[acc.length+i]? = some (f ((l.foldl (fun acc o=>acc++[f acc o]) acc).take (acc.length+i)) o)
 | [],acc=>⟨by simp,fun _ _=>rfl,fun i o h=>by simp at h⟩
 | x :: l,acc=>by
  obtain⟨h1,h2,h3⟩:=Zzb f l (acc++[f acc x]);simp only[List.foldl_cons];simp only[List.length_append,List.length_cons,List.length_nil,Nat.zero_add]at h1 h2 h3;refine⟨by rw[h1,List.length_cons]; omega,fun i hi=>by rw[h2 i (by omega),List.getElem?_append_left hi],fun i o ho=>?_⟩
  cases i with
  | zero=>
   simp only[List.getElem?_cons_zero,oI]at ho;subst ho;rw[Nat.add_zero,h2 _ (by omega)]
   have:(l.foldl (fun acc o=>acc++[f acc o]) (acc++[f acc x])).take acc.length=acc:=by
    apply List.ext_getElem?;intro k;rw[List.getElem?_take];split
    ·rename_i hk;rw[h2 k (by omega),List.getElem?_append_left hk]
    ·rename_i hk;rw[List.getElem?_eq_none (by omega)]
   rw[this];simp
  | succ i=>
   simp only[List.getElem?_cons_succ]at ho;have:=h3 i o ho;rw[show acc.length+1+i=acc.length+(i+1) by omega]at this
   exact this
theorem Yah{ops:List Oper}{i j:Nat}{o:Oper}(ho:ops[i]? = some o)(hj:j∈(Zbe ops).getD i []):∃ e,e∈o.after.toList∧Region.binds .any e=true∧(e.on=j∨j∈(Zbe ops).getD e.on []):=by
 unfold Zbe at hj ⊢;obtain⟨h1,_,h3⟩:=Zzb (fun acc (o:Oper)=>Zfh [] ((o.after.toList.filter (Region.binds .any)).flatMap fun e=>e.on :: acc.getD e.on [])) ops []
 have h:=h3 i o ho;simp only[List.length_nil,Nat.zero_add]at h;generalize hL:ops.foldl (fun acc o=>acc++[Zfh [] ((o.after.toList.filter (Region.binds .any)).flatMap fun e=>e.on :: acc.getD e.on [])]) []=L at *
 rw[List.getD,h]at hj;simp only[Option.getD_some,Zp9,List.not_mem_nil,false_or,List.mem_flatMap,List.mem_filter,List.mem_cons]at hj;obtain⟨e,⟨he1,he2⟩,hjj⟩:=hj;refine⟨e,he1,he2,?_⟩;rcases hjj with hjj|hjj
 ·exact .inl hjj.symm
 ·refine .inr ?_;simp only[List.getD]at hjj ⊢;rw[List.getElem?_take]at hjj;split at hjj
  ·exact hjj
  ·simp at hjj
theorem Zta{as:List AOper}{preds:List (List Nat)}:∀ (l:List AOper) (k i:Nat),(cUns as preds k l)[i]? = (l[i]?).map fun a=>⟨a.dst,a.op,a.guard,cUn as preds (k+i) a.op⟩
 | [],k,i=>by simp[cUns]
 | a :: l,k,i=>by
  cases i with
  | zero=>simp[cUns]
  | succ i=>
   simp only[cUns,List.getElem?_cons_succ];rw[Zta l (k+1) i,show k+1+i=k+(i+1) by omega]
theorem Ztq{as:List AOper}{preds:List (List Nat)}:∀ (l:List AOper) (k:Nat),(cUns as preds k l).length=l.length
 | [],_=>rfl
 | _ :: l,k=>by simp[cUns,Ztq l (k+1)]
theorem Zri{ops:Array Oper}{listed:Array Bool}(hs:listed.size=ops.size){i:Nat}:i∈Region.ready .any ops listed ↔
 i<ops.size∧listed.getD i false=false ∧ ∀ o,ops[i]? = some o → ∀ e,e∈o.after.toList→Region.binds .any e=true→listed.getD e.on false=true:=by
 unfold Region.ready;rw[List.mem_filter,List.mem_range];constructor
 ·rintro⟨h1,h2⟩;have hl:i<listed.size:=by rw[hs]; exact h1
  have ho:ops[i]? = some ops[i]:=Array.getElem?_eq_getElem h1;rw[ho]at h2;simp only[Option.map_some,Option.getD_some,bA,Bool.not_eq_true',Array.all_eq_true',Bool.or_eq_true]at h2;refine⟨h1,by simpa[Array.getD,hl]using h2.1,fun o ho' e he hb=>?_⟩
  rw[ho]at ho'; injection ho' with ho'; subst ho'
  rcases h2.2 e (by simpa using he)with h|h
  ·rw[hb]at h; cases h
  ·exact h
 ·rintro⟨h1,h2,h3⟩;have hl:i<listed.size:=by rw[hs]; exact h1
  have ho:ops[i]? = some ops[i]:=Array.getElem?_eq_getElem h1;refine⟨h1,?_⟩;rw[ho];simp only[Option.map_some,Option.getD_some,bA,Bool.not_eq_true',Array.all_eq_true',Bool.or_eq_true];refine⟨by simpa[Array.getD,hl]using h2,fun e he=>?_⟩
  cases hb:Region.binds .any e with
  | false=>exact .inl rfl
  | true=>exact .inr (h3 _ ho e (by simpa using he) hb)
theorem Z22{ops:Array Oper}{listed:Array Bool}(hs:listed.size=ops.size)(hlt:∀ (i:Nat) (o:Oper),ops[i]? = some o → ∀ e,e∈o.after.toList→Region.binds .any e=true→e.on<i)
 (hr:Region.ready .any ops listed=[]):∀ i,i<ops.size→listed.getD i false=true:=by
 intro i
 induction i using Nat.strongRecOn with
 | ind i ih=>
  intro hi;cases hl:listed.getD i false with
  | true=>rfl
  | false=>
   have:i∈Region.ready .any ops listed:=(Zri hs).2 ⟨hi,hl,fun o ho e he hb=>ih e.on (hlt i o ho e he hb) (by have:=hlt i o ho e he hb; omega)⟩
   rw[hr]at this;simp at this
theorem C8{listed:Array Bool}{i:Nat}(hs:i<listed.size)(j:Nat):(listed.setIfInBounds i true).getD j false=if i=j then true else listed.getD j false:=by
 rw[Array.getD_eq_getD_getElem?,Array.getD_eq_getD_getElem?,Array.getElem?_setIfInBounds];by_cases h:i=j
 ·subst h; simp[hs]
 ·simp[h]
theorem Z7m{listed:Array Bool}{n i:Nat}(hi:i<n)(hs:i<listed.size)(hl:listed.getD i false=false) :
 ((List.range n).filter fun j=>!(listed.setIfInBounds i true).getD j false).length<((List.range n).filter fun j=>!listed.getD j false).length:=by
 have e1:((List.range n).filter fun j=>!(listed.setIfInBounds i true).getD j false)=(((List.range n).filter fun j=>!listed.getD j false).filter fun j=>!(listed.setIfInBounds i true).getD j false):=by
  rw[List.filter_filter];refine List.filter_congr fun j _=>?_
  rw[C8 hs];by_cases hji:i=j
  ·subst hji;simp
  ·simp[hji]
 rw[e1];refine List.length_filter_lt_length_iff_exists.2 ⟨i,?_,?_⟩
 ·rw[List.mem_filter,List.mem_range];exact⟨hi,by simp[hl]⟩
 ·rw[C8 hs]; simp
section
variable {P:Program} {base:Nat} {as:List AOper} {t0:List AVal} {m0:Mem} {T:Nat→List AVal} {M:Nat→Mem} {V:Nat→AVal} {F:Nat→FT} {ops:Array Oper} {preds:List (List Nat)}
structure Loose (as:List AOper) (F:Nat→FT) (preds:List (List Nat)):Prop where
 slots:∀ i j x y,j<i→as[i]? = some x→as[j]? = some y→j∉preds.getD i []→(∀ d,y.dst=some d→d∉x.looks∧x.dst≠some d) ∧ ∀ d,x.dst=some d→d∉y.looks
 mem:∀ i j x y,j<i→as[i]? = some x→as[j]? = some y→j∉preds.getD i []→(∀ c,(F j).W c=true→(F i).R c=false∧(F i).W c=false)∧(∀ c,(F j).R c=true→(F i).W c=false)∧((F j).isC=true→(F i).isC=false)
theorem Zz7{b:AOper}{x:AOpd}{t t':List AVal}(h:∀ s,s∈b.looks→t.getD s aundef=t'.getD s aundef)(hx:x∈b.op.opds):ev t x=ev t' x:=by
 cases x with
 | tmp i=>
  simp only[ev];refine h i ?_;unfold AOper.looks;exact List.mem_append_left _ (List.mem_filterMap.2 ⟨_,hx,rfl⟩)
 | const v=>rfl
 | fn f=>rfl
theorem Zof{b:AOper}{t t':List AVal}(h:∀ s,s∈b.looks→t.getD s aundef=t'.getD s aundef):R7 t b.guard=R7 t' b.guard:=by
 unfold R7;cases hg:b.guard with
 | none=>rfl
 | some dw=>
  obtain⟨d,w⟩:=dw;simp only;rw[h d (by unfold AOper.looks; rw[hg]; simp)]
theorem Z26(W:Base)(n0:Nat)(Q:Exit→ASt→Prop)(Φ0:Pers)(ρ0:Rho)(hb0:n0≤base)(hsz:as.length=ops.size)
 (hres:∀ (i:Nat) (o:Oper) (b:AOper),ops[i]? = some o→as[i]? = some b→b.dst=o.dst∧b.op=P8 P o∧Zan ops o.guard=some b.guard)
 (hlt:∀ (i:Nat) (o:Oper),ops[i]? = some o → ∀ e,e∈o.after.toList→Region.binds .any e=true→e.on<i)
 (hpre:∀ (i j:Nat) (o:Oper),ops[i]? = some o→j∈preds.getD i [] → ∃ e,e∈o.after.toList∧Region.binds .any e=true∧(e.on=j∨j∈preds.getD e.on []))
 (htr:Trace P base as t0 m0 T M V F) (hlo:Loose as F preds) (hQ:Q .normal ⟨T as.length,M as.length⟩) (hnx:base+as.length≤m0.next) :
 ∀(fuel:Nat) (listed:Array Bool) (t:List AVal) (m:Mem) (Φ:Pers) (ρ:Rho) (a:Act) (w:World),listed.size=ops.size →
  ((List.range ops.size).filter fun j=>!listed.getD j false).length≤fuel→(∀ i j,listed.getD i false=true→j∈preds.getD i []→listed.getD j false=true) →
  StateIs as t0 m0 M V F (fun j=>listed.getD j false) t m→Rel W Φ ρ m w→RL Φ ρ t a.tmps→a.defers=[]→Ext Φ0 ρ0 Φ ρ→KeepN n0 ρ0 ρ →
  (∀ i,i<as.length→listed.getD i false=false→ρ (base+i)=none)→wpAny P .any ops (lift W Φ0 ρ0 n0 Q) fuel listed a w:=by
 have fin:∀ (listed:Array Bool) (t:List AVal) (m:Mem) (Φ:Pers) (ρ:Rho) (a:Act) (w:World),listed.size=ops.size→Region.ready .any ops listed=[] →
  StateIs as t0 m0 M V F (fun j=>listed.getD j false) t m→Rel W Φ ρ m w→RL Φ ρ t a.tmps→a.defers=[]→Ext Φ0 ρ0 Φ ρ→KeepN n0 ρ0 ρ→lift W Φ0 ρ0 n0 Q .normal a w:=by
  intro listed t m Φ ρ a w hs hr hst hrel ht hd he hk;have hall:=Z22 hs hlt hr;have h1:=Ziw hst (D':=fun j=>decide (j<as.length)) fun j hj=>by rw[hall j (by rw[← hsz]; exact hj)]; simp[hj]
  have h2:=Zoz htr as.length (Nat.le_refl _);have e1:t=T as.length:=by
   apply List.ext_getElem?;intro x;rcases Nat.lt_or_ge x t0.length with hx|hx
   ·rw[h1.tmp x hx,h2.tmp x hx]
   ·rw[List.getElem?_eq_none (by rw[h1.len]; exact hx),List.getElem?_eq_none (by rw[h2.len]; exact hx)]
  have e2:m=M as.length:=Mem.ext' (fun c=>by rw[h1.mem c,h2.mem c]) (by rw[h1.next,h2.next])
  subst e1; subst e2;have:=Zs1 htr h2;exact⟨_,Φ,ρ,he,hk,by show n0≤(M as.length).next; omega,hrel,ht,hd,hQ⟩
 intro fuel
 induction fuel with
 | zero=>
  intro listed t m Φ ρ a w hs hc hcl hst hrel ht hd he hk hfr;have hnil:Region.ready .any ops listed=[]:=by
   cases hr:Region.ready .any ops listed with
   | nil=>rfl
   | cons i r=>
    exfalso;obtain⟨h1,h2,_⟩:=(Zri hs).1 (by rw[hr]; simp:i∈Region.ready .any ops listed)
    have:i∈(List.range ops.size).filter fun j=>!listed.getD j false:=List.mem_filter.2 ⟨List.mem_range.2 h1,by simp[h2]⟩
    have:=List.length_pos_of_mem this;omega
  exact⟨hnil,fin listed t m Φ ρ a w hs hnil hst hrel ht hd he hk⟩
 | succ fuel ih=>
  intro listed t m Φ ρ a w hs hc hcl hst hrel ht hd he hk hfr;refine⟨fun hnil=>fin listed t m Φ ρ a w hs hnil hst hrel ht hd he hk,fun i hi=>?_⟩
  obtain⟨hi1,hi2,hi3⟩:=(Zri hs).1 hi;have hia:i<as.length:=by rw[hsz]; exact hi1
  have ho:ops[i]? = some ops[i]:=Array.getElem?_eq_getElem hi1;have hb:as[i]? = some as[i]:=gE hia;generalize ops[i]=o at ho;generalize as[i]=b at hb;obtain⟨e1,e2,e3⟩:=hres i o b ho hb;have hpin:∀ j,j∈preds.getD i []→listed.getD j false=true:=by
   intro j hj;obtain⟨e,he1,he2,hej⟩:=hpre i j o ho hj;have hon:=hi3 o ho e he1 he2;rcases hej with rfl|hej
   ·exact hon
   ·exact hcl _ _ hon hej
  have hl:∀ (j:Nat) (c:AOper),j≠i→listed.getD j false≠decide (j<i)→as[j]? = some c → ∀ d,c.dst=some d→d∉b.looks:=by
   intro j c hji hD hcj d hdj;rcases Nat.lt_or_gt_of_ne hji with hlt'|hgt
   ·have hDj:listed.getD j false=false:=by
     cases hq:listed.getD j false with
     | false=>rfl
     | true=>rw[hq]at hD; simp[hlt']at hD
    exact((hlo.slots i j b c hlt' hb hcj (fun hp=>by rw[hpin j hp]at hDj; cases hDj)).1 d hdj).1
   ·have hDj:listed.getD j false=true:=by
     cases hq:listed.getD j false with
     | true=>rfl
     | false=>rw[hq]at hD; simp[show ¬j<i by omega]at hD
    exact(hlo.slots j i c b hgt hcj hb (fun hp=>by rw[hcl j i hDj hp]at hi2; cases hi2)).2 d hdj
  have out:∀ (j:Nat),j<as.length→j≠i→listed.getD j false≠decide (j<i) →
   (∀ c,(F j).W c=true→(F i).R c=false∧(F i).W c=false)∧((F j).isC=true→(F i).isC=false):=by
   intro j hj hji hD;have hy:as[j]? = some as[j]:=gE hj;rcases Nat.lt_or_gt_of_ne hji with hlt'|hgt
   ·have hDj:listed.getD j false=false:=by
     cases hq:listed.getD j false with
     | false=>rfl
     | true=>rw[hq]at hD; simp[hlt']at hD
    obtain⟨h1,_,h3⟩:=hlo.mem i j b _ hlt' hb hy (fun hp=>by rw[hpin j hp]at hDj; cases hDj)
    exact⟨h1,h3⟩
   ·have hDj:listed.getD j false=true:=by
     cases hq:listed.getD j false with
     | true=>rfl
     | false=>rw[hq]at hD; simp[show ¬j<i by omega]at hD
    obtain⟨h1,h2,h3⟩:=hlo.mem j i _ b hgt hy hb (fun hp=>by rw[hcl j i hDj hp]at hi2; cases hi2)
    refine⟨fun c hc=>⟨?_,?_⟩,fun hc=>?_⟩
    ·cases hq:(F i).R c with
     | false=>rfl
     | true=>rw[h2 c hq]at hc; cases hc
    ·cases hq:(F i).W c with
     | false=>rfl
     | true=>rw[(h1 c hq).2]at hc; cases hc
    ·cases hq:(F i).isC with
     | false=>rfl
     | true=>rw[h3 hq]at hc; cases hc
  have hm:∀ (j c:Nat),j<as.length→j≠i→listed.getD j false≠decide (j<i)→((F i).R c=true∨(F i).W c=true)→(F j).W c=false:=by
   intro j c hj hji hD hcF;cases hw:(F j).W c with
   | false=>rfl
   | true=>
    obtain⟨h1,h2⟩:=(out j hj hji hD).1 c hw;rcases hcF with h|h
    ·rw[h1]at h; cases h
    ·rw[h2]at h; cases h
  have hcc:∀ (j:Nat),j<as.length→j≠i→listed.getD j false≠decide (j<i)→(F i).isC=true→(F j).isC=false:=by
   intro j hj hji hD hc;cases hw:(F j).isC with
   | false=>rfl
   | true=>rw[(out j hj hji hD).2 hw]at hc; cases hc
  have hseq:=Zoz htr i (by omega)
  obtain⟨hag,hmm,hnn⟩:=Yc1 hst hseq hi2 hl hm hcc;have hadv1:∀ (j:Nat) (c:AOper),i<j→listed.getD j false=true→as[j]? = some c → ∀ d,b.dst=some d→c.dst≠some d:=fun j c hij hDj hcj d hd'=>
   ((hlo.slots j i c b hij hcj hb (fun hp=>by rw[hcl j i hDj hp]at hi2; cases hi2)).1 d hd').2
  have hadv2:∀ (j c:Nat),i<j→j<as.length→listed.getD j false=true→(F i).W c=true→(F j).W c=false:=fun j c hij hj hDj hcF=>hm j c hj (by omega) (by rw[hDj]; simp; omega) (.inr hcF)
  have hadv3:∀ (j:Nat),i<j→j<as.length→listed.getD j false=true→(F i).isC=true→(F j).isC=false:=fun j hij hj hDj hcF=>hcc j hj (by omega) (by rw[hDj]; simp; omega) hcF
  have hmn:=Zs1 htr hst;obtain⟨_,hstep⟩:=htr.step i b hb;have hls:i<listed.size:=by rw[hs]; exact hi1
  have hset:∀ j,(listed.setIfInBounds i true).getD j false=(listed.getD j false||j == i):=by
   intro j;rw[C8 hls];by_cases hji:i=j
   ·subst hji; simp
   ·have:(j == i)=false:=beq_false_of_ne fun e=>hji e.symm
    simp[hji,this]
  have hcnt:((List.range ops.size).filter fun j=>!(listed.setIfInBounds i true).getD j false).length≤fuel:=by
   have:=Z7m (listed:=listed) (n:=ops.size) hi1 hls hi2;omega
  have hcl':∀ i' j,(listed.setIfInBounds i true).getD i' false=true→j∈preds.getD i' []→(listed.setIfInBounds i true).getD j false=true:=by
   intro i' j h1 h2;rw[hset]at h1 ⊢;by_cases hii:i'=i
   ·subst hii;rw[hpin j h2]; rfl
   ·rw[beq_false_of_ne hii,Bool.or_false]at h1;rw[hcl i' j h1 h2]; rfl
  have hfr':∀ (ρ':Rho),(∀ c,c<m.next→c≠base+i→ρ c=none→ρ' c=none) → ∀ i',i'<as.length→(listed.setIfInBounds i true).getD i' false=false→ρ' (base+i')=none:=by
   intro ρ' hρ i' hi' hl';rw[hset]at hl';have hne:i'≠i:=fun e=>by subst e; simp at hl'
   rw[beq_false_of_ne hne,Bool.or_false]at hl';exact hρ _ (by omega) (by omega) (hfr i' hi' hl')
  have next:∀ (m':Mem) (Φ':Pers) (ρ':Rho) (u:Value) (w':World),Ext Φ ρ Φ' ρ'→(∀ c,c<m.next→c≠base+i→ρ c=none→ρ' c=none)→Rel W Φ' ρ' m' w'→R Φ' ρ' (V i) u →
   (∀ c,(F i).W c=false→m'.get c=m.get c)→(∀ c,(F i).W c=true→m'.get c=(M (i+1)).get c)→((F i).isC=true→m'.next=(M (i+1)).next)→((F i).isC=false→m'.next=m.next) →
   wpAny P .any ops (lift W Φ0 ρ0 n0 Q) fuel (listed.setIfInBounds i true) (a.put o.dst u) w':=by
   intro m' Φ' ρ' u w' hE hρ hr' hx hout hin hnx1 hnx0;refine ih (listed.setIfInBounds i true) (put t b.dst (V i)) m' Φ' ρ' _ w' (by simpa using hs) hcnt hcl' ?_ hr' (by rw[← e1]; exact(ht.ext hE).put b.dst hx) (by rw[Zge]; exact hd) (he.trans hE)
    (fun c hc h0=>hρ c (by omega) (by omega) (hk c hc h0)) (hfr' ρ' hρ)
   exact Ziw (Ztp hst hb hadv1 hadv2 hadv3 hout hin hnx1 hnx0) fun j _=>(hset j).symm
  have hni:=hfr i hia hi2;have hlt':base+i<m.next:=by omega
  unfold wpOp;rw[ho];simp only;rcases hstep with⟨hw,hV,hM,hF⟩|⟨hw,_,⟨f,xs,g,args,wl,x,hop,hcal,hF,m3,hid,c1,c2,c3,c4,c5,hA⟩|⟨hs',hF⟩⟩
  ·rw[Zgf ht e3 (by rw[Zof hag]; exact hw),if_neg (by simp)]
   exact next m Φ ρ undef w (.refl _ _) (fun _ _ _ h=>h) hrel (by rw[hV]; exact Zeu _ _) (fun _ _=>rfl) (fun c hc=>by rw[hF]at hc; cases hc) (fun hc=>by rw[hF]at hc; cases hc) (fun _=>rfl)
  ·rw[Zgf ht e3 (by rw[Zof hag]; exact hw),if_pos rfl]
   refine .inl ?_;have hcal':callee t f xs=some (g,args):=by
    rw[Ybg (t2:=T i) fun x hx=>Zz7 hag (by rw[hop]; exact hx)]
    exact hcal
   have hnn':m.next=(M i).next:=hnn (by rw[hF]; rfl)
   have hmx:∀ c,c∉x→m.get c=(M i).get c:=fun c hc=>hmm c (.inl (by rw[hF]; simp[FT.R,hc]))
   ·have hA2:=Z3k hid c1 c2 hA hmx hnn';refine Zvd ht hrel hni hlt' o (by rw[← e2]; exact hop) hcal' hA2 fun Φ' ρ' y m' u w' hE hfr2 hr' hx hnx' hK=>?_
    obtain⟨rfl,rfl⟩:=hK;refine next _ Φ' ρ' u w' hE hfr2 hr' hx (fun c hc=>?_) (fun c hc=>?_) (fun _=>c3.symm) (fun hc=>by rw[hF]at hc; cases hc)
    ·simp only;by_cases hcx:c∈x
     ·rw[if_pos hcx]
     ·rw[if_neg hcx,hmx c hcx];rw[hF]at hc;simp only[FT.W,Bool.or_eq_false_iff,decide_eq_false_iff_not,Nat.not_le]at hc;exact c5 c (fun hm=>by rw[List.contains_iff_mem.2 hm]at hc; cases hc.1) hc.2 hcx
    ·simp only;rw[c4 c];by_cases hcx:c∈x
     ·rw[if_pos hcx,if_pos hcx]; exact hmm c (.inr hc)
     ·rw[if_neg hcx,if_neg hcx]
  ·rw[Zgf ht e3 (by rw[Zof hag]; exact hw),if_pos rfl]
   refine .inl ?_;have hev:∀ x,x∈b.op.opds→ev t x=ev (T i) x:=fun x hx=>Zz7 hag hx
   obtain⟨m2,hs2,hsame⟩:=Zpu (m2:=m) (fun c hc=>hmm c (.inl (by rw[hF]; simp[FT.R,hc]))) (fun c hc=>hmm c (.inr (by rw[hF]; simp[FT.W,hc]))) hs'
   rw[← Z4w hev,e2]at hs2;refine Zq3 ht hrel hni hlt' o hs2 fun Φ' ρ' u w' hE hfr2 hr' hx=>?_
   refine next m2 Φ' ρ' u w' hE (fun c _ hne h0=>hfr2 c hne h0) hr' hx (fun c hc=>hsame.out2 c fun hm=>?_) (fun c hc=>hsame.ins c ?_) (fun hc=>by rw[hF]at hc; cases hc) (fun _=>hsame.n2)
   ·rw[hF]at hc; simp only[FT.W]at hc; rw[List.contains_iff_mem.2 hm]at hc; cases hc
   ·rw[hF]at hc; simp only[FT.W,List.contains_iff_mem]at hc; exact hc
end
end Go.AE
end
section
namespace Go.AE
open Go.RowKit
variable {P:Program}
theorem Z12{ops:Array Oper}{as:List AOper}{preds:List (List Nat)}(h:Zh8 ops as preds=true) :
 (∀(i:Nat) (o:Oper),ops[i]? = some o → ∀ e,e∈o.after.toList→Region.binds .any e=true→e.on<i) ∧
 ∀(i j:Nat) (x y:AOper),j<i→i<ops.size→as[i]? = some x→as[j]? = some y→j∉preds.getD i []→y.apart x=true:=by
 unfold Zh8 at h;simp only[bA,List.all_eq_true,List.mem_range]at h;obtain⟨h1,h2⟩:=h;refine⟨fun i o ho e he hb=>?_,fun i j x y hji hi hx hy hp=>?_⟩
 ·have hi:i<ops.size:=(Array.getElem?_eq_some_iff.1 ho).1;have:=h1 i hi;rw[ho]at this;simp only[List.all_eq_true,Bool.or_eq_true,Bool.not_eq_true',decide_eq_true_eq]at this;rcases this e he with h|h
  ·rw[hb]at h; cases h
  ·exact h
 ·have:=h2 i hi j hji;simp only[Bool.or_eq_true,List.contains_iff_mem]at this;rcases this with h|h
  ·exact absurd h hp
  ·rw[hx,hy]at h;exact h
theorem Ybj{x y:AOper}(h:x.apart y=true):(∀ d,x.dst=some d→d∉y.looks∧y.dst≠some d) ∧ ∀ d,y.dst=some d→d∉x.looks:=by
 unfold AOper.apart at h;simp only[bA]at h;obtain⟨h1,h2⟩:=h;refine⟨fun d hd=>?_,fun d hd=>?_⟩
 ·rw[hd]at h1;simp only[bA,Bool.not_eq_true',bne_iff_ne]at h1;exact⟨fun hm=>by rw[List.contains_iff_mem.2 hm]at h1; exact absurd h1.1 (by simp),h1.2⟩
 ·rw[hd]at h2;simp only[Bool.not_eq_true']at h2;exact fun hm=>by rw[List.contains_iff_mem.2 hm]at h2; cases h2
theorem Zqn(hm:P.follows .mixedOrders=true){id:Nat}{ops:Array Oper}{Q:Exit→ASt→Prop}{σ:ASt}(h:wpc P (Y2 P (.region id ops true)) Q σ):AWp P (.region id ops true) Q σ:=by
 intro W Φ ρ a w hr ht hd;simp only[Y2]at h;cases hc:G8 P ops ops.toList with
 | none=>simp[hc,wpc]at h
 | some as0=>
  simp only[hc]at h;split at h
  ·rename_i hok;simp only[wpc]at h;obtain⟨h1,h2⟩:=Zj4 P ops _ _ hc;obtain⟨hlt,hap⟩:=Z12 hok;generalize has:cUns as0 (Zbe ops.toList) 0 as0=as at h;have hlen:as.length=ops.size:=by rw[← has,Ztq,h1]; simp
   have hget:∀ (i:Nat) (b:AOper),as[i]? = some b → ∃ b0,as0[i]? = some b0∧b=⟨b0.dst,b0.op,b0.guard,cUn as0 (Zbe ops.toList) i b0.op⟩:=by
    intro i b hb;rw[← has,Zta,Nat.zero_add]at hb;cases h0:as0[i]? with
    | none=>rw[h0]at hb; cases hb
    | some b0=>
     rw[h0]at hb;injection hb with hb
     exact⟨b0,rfl,hb.symm⟩
   obtain⟨T,M,V,F,htr,hQ⟩:=Z75 h;have hlo:Loose as F (Zbe ops.toList):=by
    refine⟨fun i j x y hji hx hy hp=>?_,fun i j x y hji hx hy hp=>?_⟩
    ·obtain⟨x0,hx0,rfl⟩:=hget i x hx;obtain⟨y0,hy0,rfl⟩:=hget j y hy;have hi:i<ops.size:=by rw[← hlen]; exact(gS.1 hx).1
     exact Ybj (hap i j x0 y0 hji hi hx0 hy0 hp)
    ·obtain⟨_,_,_,hky,hky1⟩:=Zj2 htr hy;obtain⟨_,_,_,hkx,hkx1⟩:=Zj2 htr hx;have quietL:F j=.ops [] []→(∀ c,(F j).W c=true→(F i).R c=false∧(F i).W c=false)∧(∀ c,(F j).R c=true→(F i).W c=false)∧((F j).isC=true→(F i).isC=false):=by
      intro e; rw[e];exact⟨fun c hc=>(by cases hc),fun c hc=>(by cases hc),fun hc=>(by cases hc)⟩
     have quietR:F i=.ops [] []→(∀ c,(F j).W c=true→(F i).R c=false∧(F i).W c=false)∧(∀ c,(F j).R c=true→(F i).W c=false)∧((F j).isC=true→(F i).isC=false):=by
      intro e; rw[e];exact⟨fun c _=>⟨rfl,rfl⟩,fun c _=>rfl,fun _=>rfl⟩
     by_cases hk:y.op.kind≤1∧x.op.kind≤1
     ·refine⟨fun c hc=>?_,fun c _=>hkx1 hk.2 c,fun hc=>?_⟩
      ·rw[hky1 hk.1 c]at hc; cases hc
      ·cases hq:(F i).isC with
       | false=>rfl
       | true=>
        cases hF:F i with
        | ops w r=>rw[hF]at hq; cases hq
        | call wl xx nx=>
         have:=hkx1 hk.2 nx;rw[hF]at this;simp[FT.W]at this
     ·by_cases hy0:y.op.kind=0
      ·exact quietL (hky hy0)
      ·by_cases hx0:x.op.kind=0
       ·exact quietR (hkx hx0)
       ·obtain⟨_,hs⟩:=htr.step i x hx;rcases hs with⟨_,_,_,hF⟩|⟨_,hun,_⟩
        ·exact quietR hF
        ·refine FT.indep_spec (hun j ?_ hji);obtain⟨x1,hx1,rfl⟩:=hget i x hx;obtain⟨y1,hy1,rfl⟩:=hget j y hy;simp only at hk hy0 hx0 ⊢;unfold cUn;rw[List.mem_filter,List.mem_range];refine⟨hji,?_⟩;rw[hy1];simp only[bA,Bool.not_eq_true',bne_iff_ne,ne_eq];refine⟨?_,⟨?_,hy0⟩,hx0⟩
         ·cases hq:((Zbe ops.toList).getD i []).contains j with
          | false=>rfl
          | true=>exact absurd (List.contains_iff_mem.1 hq) hp
         ·cases hq:(decide (y1.op.kind≤1)&&decide (x1.op.kind≤1))with
          | false=>rfl
          | true=>simp at hq; exact absurd hq hk
   have hres:∀ (i:Nat) (o:Oper) (b:AOper),ops[i]? = some o→as[i]? = some b→b.dst=o.dst∧b.op=P8 P o∧Zan ops o.guard=some b.guard:=by
    intro i o b ho hb;obtain⟨b0,hb0,rfl⟩:=hget i b hb;exact h2 i o b0 (by simpa using ho) hb0
   refine wp_region_any hm (Z26 W σ.m.next Q Φ ρ (Nat.le_refl _) hlen hres hlt (fun i j o ho hj=>Yah (by simpa using ho) hj) htr hlo hQ (by simp) ops.size (Array.replicate ops.size false) σ.t _ Φ ρ a _
    (by simp) ?_ ?_ ?_ ((hr.at_ (n:=σ.m.next+as.length) (by omega)).drew) ht hd (.refl _ _) (.refl _ _) ?_)
   ·have:=List.length_filter_le (fun j=>!(Array.replicate ops.size false).getD j false) (List.range ops.size)
    simpa using this
   ·intro i j hi;simp[Array.getD]at hi
   ·refine Ziw Ztx fun j _=>?_
    simp[Array.getD]
   ·intro j _ _;cases hq:ρ (σ.m.next+j)with
    | none=>rfl
    | some l=>have:=hr.fresh _ _ hq; omega
  ·simp[wpc]at h
theorem Zgi(hm:P.follows .mixedOrders=true)(c:Code)(Q:Exit→ASt→Prop)(σ:ASt)(h:wpc P (Y2 P c) Q σ):AWp P c Q σ:=
 Z6g (fun _ _ draw _ _ h=>match draw,h with|false,h=>Zul h|true,h=>Zqn hm h) c Q σ h
end Go.AE
end
section
namespace Go.AE
open Go.RowKit
variable {P:Program}
def A9(t:List AVal)(m:Mem):Nat×Option (Option Nat)→Option AVal
 | (i,none)=>some (t.getD i aundef)
 | (i,some n)=>Zb0 m n (t.getD i aundef)
def D9(t:List AVal)(m:Mem):List (Nat×Option (Option Nat))→Option (List AVal)
 | []=>some []
 | x :: r=>match A9 t m x,D9 t m r with
  | some y,some ys=>some (y :: ys)
  | _,_=>none
def N7(t:List AVal)(m:Mem):List (Nat×Option (Option Nat))→Option AVal
 | [x]=>A9 t m x
 | xs=>match D9 t m xs with
  | some ys=>some (.tuple ys)
  | none=>none
def retK(rs:List (Nat×Option (Option Nat)))(K:AVal→Mem→Prop):Exit→ASt→Prop
 | .normal,σ=>match N7 σ.t σ.m rs with
  | some r=>K r σ.m
  | none=>False
 | .ret,σ=>match N7 σ.t σ.m rs with
  | some r=>K r σ.m
  | none=>False
 | _,_=>False
section
variable {W:Base} {Φ:Pers} {ρ:Rho} {w:World} {m:Mem} {t:List AVal} {vs:Array Value}
theorem Z4v(hr:Rel W Φ ρ m w)(ht:RL Φ ρ t vs){x:ResultVar}{y:Nat×Option (Option Nat)}(hx:Zil P x=some y){z:AVal}(hz:A9 t m y=some z) :
 ∃ u,(match x with | .tmp t=>pure (vs.getD t undef) | .cell a t=>do loadVar t (← asAddr (vs.getD a undef)):Sem Value).run P w=.ok u w∧R Φ ρ z u:=by
 cases x with
 | tmp i=>
  simp only[Zil,oI]at hx;subst hx;simp only[A9,oI]at hz;subst hz;exact⟨_,rfl,ht.get i⟩
 | cell a ty=>
  simp only[Zil,Option.map_eq_some_iff]at hx;obtain⟨n,hn,rfl⟩:=hx;simp only[A9]at hz;have hR:=ht.get a;obtain⟨u,h1,h2⟩:=Zwn hr hR hn hz;refine⟨u,?_,h2⟩;unfold Zb0 at hz;cases hrow:rowAt m (t.getD a aundef)with
  | none=>rw[hrow]at hz; cases hz
  | some rj=>
   obtain⟨row,j⟩:=rj;obtain⟨B,o,c,e,fz,hv,hB,_⟩:=Zrd hr hR hrow;simp only[hv,Instr.loadAt,Instr.sureAddr,Sem.run_bind,Sem.run_pure,Result.andThen_ok,asAddr]at h1 ⊢;exact h1
def Zjd(vs:Array Value)(x:ResultVar):Sem Value:=
 match x with
 | .tmp t=>pure (vs.getD t undef)
 | .cell a t=>do loadVar t (← asAddr (vs.getD a undef))
theorem Zxw(hr:Rel W Φ ρ m w)(ht:RL Φ ρ t vs):∀ (xs:List ResultVar) (ys:List (Nat×Option (Option Nat))) (zs:List AVal),Zal P xs=some ys→D9 t m ys=some zs →
 ∃ us:List Value,(xs.mapM (Zjd vs)).run P w=.ok us w∧us.length=zs.length∧zs.length=ys.length ∧ ∀(i:Nat) (z:AVal) (u:Value),zs[i]? = some z→us[i]? = some u→R Φ ρ z u
 | [],ys,zs,hx,hz=>by
  simp only[Zal,oI]at hx;subst hx;simp only[D9,oI]at hz;subst hz;exact⟨[],rfl,rfl,rfl,fun i z u h=>by simp at h⟩
 | x :: xs,ys,zs,hx,hz=>by
  simp only[Zal]at hx;cases hy:Zil P x with
  | none=>simp[hy]at hx
  | some y=>
   cases hys:Zal P xs with
   | none=>simp[hy,hys]at hx
   | some ys'=>
    simp only[hy,hys,oI]at hx;subst hx;simp only[D9]at hz;cases hz1:A9 t m y with
    | none=>simp[hz1]at hz
    | some z=>
     cases hz2:D9 t m ys' with
     | none=>simp[hz1,hz2]at hz
     | some zs'=>
      simp only[hz1,hz2,oI]at hz;subst hz;obtain⟨u,h1,h2⟩:=Z4v hr ht hy hz1;obtain⟨us,h3,h4,h5,h6⟩:=Zxw hr ht xs ys' zs' hys hz2;refine⟨u :: us,?_,by simp[h4],by simp[h5],fun i z' u' hz' hu'=>?_⟩
      ·rw[List.mapM_cons];have h1':(Zjd vs x).run P w=.ok u w:=h1;simp only[Sem.run_bind,h1',h3,Result.andThen_ok,Sem.run_pure]
      ·cases i with
       | zero=>
        simp only[List.getElem?_cons_zero,oI]at hz' hu';subst hz'; subst hu';exact h2
       | succ i=>
        simp only[List.getElem?_cons_succ]at hz' hu';exact h6 i z' u' hz' hu'
theorem Zf1(hr:Rel W Φ ρ m w)(ht:RL Φ ρ t vs){fn:Func}{ys:List (Nat×Option (Option Nat))}{z:AVal}(hx:Zal P fn.results.toList=some ys)(hz:N7 t m ys=some z) :
 ∃ u,(results fn vs).run P w=.ok u w∧R Φ ρ z u:=by
 have hrun:∀ us:List Value,(fn.results.toList.mapM (Zjd vs)).run P w=.ok us w→(results fn vs).run P w=.ok (if h:us.toArray.size=1 then us.toArray[0]else .tuple us.toArray) w:=by
  intro us h;have he:results fn vs=(do let us ← fn.results.mapM (Zjd vs); pure (if h:us.size=1 then us[0]else .tuple us):Sem Value):=by
   unfold results;have:(fun x:ResultVar=>(match x with | .tmp t=>pure (vs.getD t undef) | .cell a t=>do loadVar t (← asAddr (vs.getD a undef)):Sem Value))=Zjd vs:=by
    funext x; cases x<;>rfl
   rw[← this];rfl
  rw[he,Array.mapM_eq_mapM_toList];simp only[Sem.run_bind,Sem.run_map,h,Result.andThen_ok,Sem.run_pure]
 have hz':∃ zs,D9 t m ys=some zs∧(z=match zs with|[x]=>x|_=>.tuple zs):=by
  unfold N7 at hz;split at hz
  ·rename_i x;exact⟨[z],by simp[D9,hz],rfl⟩
  ·split at hz<;>first|(cases hz; done)|skip
   rename_i hne _ zs hzs;injection hz with hz
   refine⟨zs,hzs,?_⟩;subst hz;cases zs with
   | nil=>rfl
   | cons a r=>
    cases r with
    | nil=>
     exfalso;have hl:ys.length=1:=by
      have:∀ (l:List (Nat×Option (Option Nat))) (zs:List AVal),D9 t m l=some zs→zs.length=l.length:=by
       intro l
       induction l with
       | nil=>intro zs h; simp only[D9,oI]at h; subst h; rfl
       | cons x l ih=>
        intro zs h;simp only[D9]at h;split at h<;>first|(cases h; done)|skip
        rename_i y ys h1 h2;injection h with h; subst h
        simp[ih _ h2]
      simpa using (this _ _ hzs).symm
     cases ys with
     | nil=>simp at hl
     | cons y r=>cases r with
      | nil=>exact hne y rfl
      | cons _ _=>simp at hl
    | cons b r=>rfl
 obtain⟨zs,hzs,hze⟩:=hz';obtain⟨us,h1,h2,h3,h4⟩:=Zxw hr ht _ _ zs hx hzs;refine⟨_,hrun us h1,?_⟩;cases zs with
 | nil=>
  have:us=[]:=by simpa using h2
  subst this;subst hze;exact .tuple [] _ rfl fun i x v h=>by simp at h
 | cons z0 r=>
  cases r with
  | nil=>
   cases us with
   | nil=>simp at h2
   | cons u r=>
    cases r with
    | cons _ _=>simp at h2
    | nil=>
     subst hze;exact h4 0 _ u rfl rfl
  | cons z1 r=>
   subst hze;have hne:¬us.toArray.size=1:=by simp[h2]
   rw[dif_neg hne];exact .tuple _ _ (by simp[h2]) fun i x v hx hv=>h4 i x v hx (by simpa using hv)
end
theorem Z4m(hm:P.follows .mixedOrders=true){f:FuncId}{fn:Func}{af:AFn}{args:List AVal}{m:Mem}{av:List Nat}{K:AVal→Mem→Prop}(hf:P.funcs[f]? = some fn)(hc:cFn P fn=some af)
 (h:wpc P af.body (retK af.results K) ⟨args++List.replicate (af.ntmps - args.length) aundef,m⟩):ACalls P f args m av K:=by
 unfold cFn at hc;cases hb:fn.body with
 | none=>simp[hb]at hc
 | some c=>
  cases hrs:Zal P fn.results.toList with
  | none=>simp[hb,hrs]at hc
  | some rs=>
   simp only[hb,hrs]at hc;split at hc<;>first|(cases hc; done)|skip
   rename_i hname;injection hc with hc
   subst hc;refine⟨⟨fn,hf,by simpa using hname,by rw[hb]; rfl⟩,fun W Φ ρ vs w hr ha hav=>?_⟩
   have ht:RL Φ ρ (args++List.replicate (fn.ntmps - args.length) aundef) (vs++Array.replicate (fn.ntmps - vs.size) undef):=by
    refine⟨by simp[ha.1],fun i x v hx hv=>?_⟩
    rw[List.getElem?_append]at hx;rw[Array.getElem?_append,ha.1]at hv;split at hx
    ·rename_i hlt;rw[if_pos hlt]at hv;exact ha.2 i x v hx hv
    ·rename_i hge;rw[if_neg hge]at hv;have e1:x=aundef:=by
      have:=gS.1 hx;obtain⟨_,hh⟩:=this;simpa using hh.symm
     have e2:v=undef:=by
      have:=Array.getElem?_eq_some_iff.1 hv;obtain⟨_,hh⟩:=this;simpa using hh.symm
     subst e1; subst e2;exact Zeu _ _
   have hs:=Zgi hm c (retK rs K) ⟨_,m⟩ h W Φ ρ { tmps:=vs++Array.replicate (fn.ntmps - vs.size) undef,defers:=[] } w hr ht rfl;refine calls_of_wp hf hb (wp_mono hs fun e a w' hl=>?_)
   obtain⟨σ,Φ',ρ',h1,h2,h3,h4,h5,h6,h7⟩:=hl;have fin:(match N7 σ.t σ.m rs with|some r=>K r σ.m|none=>False)→a.defers=[] ∧ ∃ v,(results fn a.tmps).run P w'=.ok v w' ∧
    ∃ v' r m' Φ' ρ',Ending.returned v=.returned v'∧Ext Φ ρ Φ' ρ'∧(∀ b,b<m.next→b∉av→ρ b=none→ρ' b=none)∧Rel W Φ' ρ' m' w'∧R Φ' ρ' r v'∧m.next≤m'.next∧K r m':=by
    intro hh;cases hz:N7 σ.t σ.m rs with
    | none=>simp[hz]at hh
    | some r=>
     simp only[hz]at hh;obtain⟨u,g1,g2⟩:=Zf1 h4 h5 hrs hz;exact⟨h6,u,g1,u,r,σ.m,Φ',ρ',rfl,h1,fun b hb _ h0=>h2 b hb h0,h4,g2,h3,hh⟩
   cases e with
   | normal=>exact fin h7
   | ret=>exact fin h7
   | exit i=>exact h7.elim
   | goto l=>exact h7.elim
   | panic ch=>exact h7.elim
   | outgrown=>exact h7.elim
theorem ACalls.mono{f:FuncId}{args:List AVal}{m:Mem}{av:List Nat}{K K':AVal→Mem→Prop}(h:ACalls P f args m av K)(hk:∀ r m',K r m'→K' r m'):ACalls P f args m av K':=
 ⟨h.1,fun W Φ ρ vs w hr ha hav=>(h.2 W Φ ρ vs w hr ha hav).mono fun e w' he=>by
  obtain⟨v,r,m',Φ',ρ',h1,h2,h3,h4,h5,h6,h7⟩:=he;exact⟨v,r,m',Φ',ρ',h1,h2,h3,h4,h5,h6,hk _ _ h7⟩⟩
theorem ACalls.weak{f:FuncId}{args:List AVal}{m:Mem}{av:List Nat}{K:AVal→Mem→Prop}(h:ACalls P f args m av fun r m1=>∃ r' m',ASt.Weak ⟨[r'],m'⟩ ⟨[r],m1⟩∧K r' m'):ACalls P f args m av K:=
 ⟨h.1,fun W Φ ρ vs w hr ha hav=>(h.2 W Φ ρ vs w hr ha hav).mono fun e w' he=>by
  obtain⟨v,r,m1,Φ',ρ',h1,h2,h3,h4,h5,h6,r',m',hw,hk⟩:=he;obtain⟨Φ2,e1,r1,t1⟩:=hw.rel W Φ' ρ' #[v] w' h4 ⟨rfl,fun i x u hx hu=>by
   cases i with
   | zero=>
    simp only[List.getElem?_cons_zero,oI]at hx;have:v=u:=by simpa using hu
    subst hx; subst this; exact h5
   | succ i=>simp at hx⟩
  exact⟨v,r',m',Φ2,ρ',h1,h2.trans e1,h3,r1,t1.2 0 r' v rfl rfl,Nat.le_trans h6 hw.next,hk⟩⟩
end Go.AE
end
section
namespace Go.AE
open Go.RowKit
abbrev RegW:=Bool→List AOper→(ASt→Prop)→ASt→Prop
def U2(wr:RegW)(sc:Bool):ACode→(Exit→ASt→Prop)→ASt→Prop
 | .skip,Q,σ=>Q .normal σ
 | .region d ops,Q,σ=>wr d ops (Q .normal) σ
 | .seq a b,Q,σ=>U2 wr sc a (Zi4 (U2 wr sc b Q) Q) σ
 | .cond c a b,Q,σ=>match ev σ.t c with
  | .bool true=>U2 wr sc a Q σ
  | .bool false=>U2 wr sc b Q σ
  | _=>False
 | .block id c,Q,σ=>U2 wr sc c (Zao id Q) σ
 | .loop c,Q,σ=>∃ (I:Nat→ASt→Prop),(∃ n σ0,ASt.Weak σ0 σ∧I n σ0) ∧ ∀ n σ1,I n σ1→U2 wr sc c (Zi4 (fun σ'=>∃ k σ0,k<n∧ASt.Weak σ0 σ'∧I k σ0) Q) σ1
 | .exit id,Q,σ=>Q (.exit id) σ
 | .scope c,Q,σ=>sc=true∧U2 wr sc c (Zp1 Q) σ
 | .label _,Q,σ=>Q .normal σ
 | .ret,Q,σ=>Q .ret σ
 | .bad,_,_=>False
def Zfo(W:Base)(D:List Deferred)(Φ:Pers)(ρ:Rho)(n:Nat)(Q:Exit→ASt→Prop)(e:Exit)(a:Act)(w:World):Prop:=
 ∃ σ Φ' ρ',Ext Φ ρ Φ' ρ'∧KeepN n ρ ρ'∧n≤σ.m.next∧Rel W Φ' ρ' σ.m w∧RL Φ' ρ' σ.t a.tmps∧a.defers=D∧Q e σ
theorem Zwx{W:Base}{D:List Deferred}{Φ Φ':Pers}{ρ ρ':Rho}{n n':Nat}{Q:Exit→ASt→Prop}{e:Exit}{a:Act}{w:World}(he:Ext Φ ρ Φ' ρ')(hk:KeepN n ρ ρ')(hn:n≤n')
 (h:Zfo W D Φ' ρ' n' Q e a w):Zfo W D Φ ρ n Q e a w:=by
 obtain⟨σ,Φ'',ρ'',h1,h2,h3,h4,h5,h6,h7⟩:=h;exact⟨σ,Φ'',ρ'',he.trans h1,hk.trans h2 hn,Nat.le_trans hn h3,h4,h5,h6,h7⟩
theorem Zyk{W:Base}{D:List Deferred}{Φ:Pers}{ρ:Rho}{n:Nat}{Q Q':Exit→ASt→Prop}{e:Exit}{a:Act}{w:World}(h:Zfo W D Φ ρ n Q e a w)(hq:∀ σ,Q e σ→Q' e σ):Zfo W D Φ ρ n Q' e a w:=by
 obtain⟨σ,Φ'',ρ'',h1,h2,h3,h4,h5,h6,h7⟩:=h;exact⟨σ,Φ'',ρ'',h1,h2,h3,h4,h5,h6,hq σ h7⟩
structure Open (F:Fence):Prop where
 fn:∀ f,F.fn f
 depth:F.depth=none
 alive:F.alive=false
theorem Open.wide:Open Fence.wide:=⟨fun _=>trivial,rfl,rfl⟩
theorem Open.round{F:Fence}(h:Open F)(l:Nat):Open (F.inRound l):=⟨h.fn,h.depth,h.alive⟩
abbrev HypW:=Base→Pers→Rho→Prop
def HypW.Mono(H:HypW):Prop:=∀ W Φ ρ Φ' ρ',H W Φ ρ→Ext Φ ρ Φ' ρ'→H W Φ' ρ'
def AWpF(F:Fence)(n:Nat)(H:HypW)(D:List Deferred)(P:Program)(c:Code)(Q:Exit→ASt→Prop)(σ:ASt):Prop:=
 ∀(W:Base) (Φ:Pers) (ρ:Rho),H W Φ ρ → ∀(a:Act) (w:World),Rel W Φ ρ σ.m w→RL Φ ρ σ.t a.tmps→a.defers=D→c.wpIn F n P (Zfo W D Φ ρ σ.m.next Q) a w
theorem AWpF.of_wide{n:Nat}{H:HypW}{P:Program}{c:Code}{Q:Exit→ASt→Prop}{σ:ASt}(h:AWp P c Q σ):AWpF Fence.wide n H [] P c Q σ:=
 fun W Φ ρ _ a w hr ht hd=>wpIn_wide.2 (h W Φ ρ a w hr ht hd)
theorem Z4j{F:Fence}{rm:Nat}{P:Program}{Q:Exit→Act→World→Prop}{a:Act}{w:World}{c:Code}(I:Nat→Act→World→Prop)(k:Nat)(hk:I k a w)
 (step:∀ k a w,I k a w→c.wpIn F rm P (Exit.then (fun a' w'=>∃ j,j<k∧I j a' w') Q) a w):(Code.loop c).wpIn F rm P Q a w:=by
 have hl:∀ a w,(∃ k,I k a w)→I (leastOf fun k=>I k a w) a w ∧ ∀ j,I j a w→leastOf (fun k=>I k a w)≤j:=fun a w h=>leastOf_spec h
 apply wpIn_loop (fun a w=>∃ k,I k a w) (fun a w=>leastOf fun k=>I k a w) ⟨k,hk⟩
 intro a w h;apply wpIn_mono (step _ a w (hl a w h).1);rintro(_|_|_|_|_|_) a' w' hq<;>try exact hq
 obtain⟨j,hj,hI⟩:=hq;have:=(hl a' w' ⟨j,hI⟩).2 j hI;exact⟨⟨j,hI⟩,show leastOf (fun k=>I k a' w')<leastOf (fun k=>I k a w) by omega⟩
section
variable {F:Fence} {n:Nat} {H:HypW} {D:List Deferred} {P:Program} {wr:RegW} {sc:Bool}
theorem Zt1(hMono:H.Mono)(hsc:sc=true → ∀(c:Code) (Q:Exit→Act→World→Prop) (a:Act) (w:World),c.wpIn F n P (Exit.noGoto Q) a w→(Code.scope c).wpIn F n P Q a w)
 (hreg:∀ (id:Nat) (ops:Array Oper) (draw:Bool) (Q:Exit→ASt→Prop) (σ:ASt),U2 wr sc (Y2 P (.region id ops draw)) Q σ→AWpF F n H D P (.region id ops draw) Q σ) :
 ∀(c:Code) (Q:Exit→ASt→Prop) (σ:ASt),U2 wr sc (Y2 P c) Q σ→AWpF F n H D P c Q σ:=by
 intro c
 induction c with
 | skip=>exact fun Q σ h W Φ ρ hH a w hr ht hd=>wpIn_skip ⟨σ,Φ,ρ,.refl _ _,.refl _ _,Nat.le_refl _,hr,ht,hd,h⟩
 | region id ops draw=>exact fun Q σ h=>hreg id ops draw Q σ h
 | seq x y ihx ihy=>
  intro Q σ h W Φ ρ hH a w hr ht hd;simp only[Y2,U2]at h;refine wpIn_seq (wpIn_mono (ihx _ _ h W Φ ρ hH a w hr ht hd) ?_);intro e a' w' hl;have key:∀ e',e=e'→e'≠.normal→Zfo W D Φ ρ σ.m.next Q e a' w':=by
   intro e' he hne;refine Zyk hl fun σ' hq=>?_
   subst he;cases e<;>first|exact absurd rfl hne|exact hq
  cases e with
  | normal=>
   obtain⟨σ',Φ',ρ',h1,h2,h3,h4,h5,h6,h7⟩:=hl;exact wpIn_mono (ihy _ _ h7 W Φ' ρ' (hMono _ _ _ _ _ hH h1) a' w' h4 h5 h6) fun e a w hl'=>Zwx h1 h2 h3 hl'
  | exit i=>exact key _ rfl (by simp)
  | goto l=>exact key _ rfl (by simp)
  | ret=>exact key _ rfl (by simp)
  | panic ch=>exact key _ rfl (by simp)
  | outgrown=>exact key _ rfl (by simp)
 | cond c x y ihx ihy=>
  intro Q σ h W Φ ρ hH a w hr ht hd;simp only[Y2]at h;cases hc:Y5 c with
  | none=>simp[hc,U2]at h
  | some c'=>
   simp only[hc,U2]at h;have hv:=T4 ht hc;generalize ev σ.t c'=z at h hv;split at h
   ·generalize hz:a.eval c=v at hv;cases hv;exact wpIn_cond_true hz (ihx _ _ h W Φ ρ hH a w hr ht hd)
   ·generalize hz:a.eval c=v at hv;cases hv;exact wpIn_cond_false hz (ihy _ _ h W Φ ρ hH a w hr ht hd)
   ·exact h.elim
 | block id c ih=>
  intro Q σ h W Φ ρ hH a w hr ht hd;simp only[Y2,U2]at h;refine wpIn_block (wpIn_mono (ih _ _ h W Φ ρ hH a w hr ht hd) ?_);intro e a' w' hl;cases e with
  | exit i=>
   simp only[Exit.inBlock];obtain⟨σ',Φ',ρ',h1,h2,h3,h4,h5,h6,h7⟩:=hl;simp only[Zao]at h7;split
   ·rename_i hi;rw[if_pos hi]at h7;exact⟨σ',Φ',ρ',h1,h2,h3,h4,h5,h6,h7⟩
   ·rename_i hi;rw[if_neg hi]at h7;exact⟨σ',Φ',ρ',h1,h2,h3,h4,h5,h6,h7⟩
  | normal=>exact hl
  | goto l=>exact hl
  | ret=>exact hl
  | panic ch=>exact hl
  | outgrown=>exact hl
 | loop c ih=>
  intro Q σ h W Φ ρ hH a w hr ht hd;simp only[Y2,U2]at h;obtain⟨I,⟨n0,σ0,hs0,h0⟩,hround⟩:=h;obtain⟨Φ1,hE1,hr1,ht1⟩:=hs0.rel W Φ ρ a.tmps w hr ht;refine Z4j (fun n a' w'=>∃ σ' Φ' ρ',Ext Φ ρ Φ' ρ'∧KeepN σ.m.next ρ ρ'∧σ.m.next≤σ'.m.next∧Rel W Φ' ρ' σ'.m w'∧RL Φ' ρ' σ'.t a'.tmps∧a'.defers=D∧I n σ') n0
   ⟨σ0,Φ1,ρ,hE1,.refl _ _,hs0.next,hr1,ht1,hd,h0⟩ ?_
  rintro n a' w' ⟨σ',Φ',ρ',h1,h2,h3,h4,h5,h6,h7⟩;refine wpIn_mono (ih _ _ (hround n σ' h7) W Φ' ρ' (hMono _ _ _ _ _ hH h1) a' w' h4 h5 h6) ?_;intro e a'' w'' hl;have key:∀ e',e=e'→e'≠.normal→Zfo W D Φ ρ σ.m.next Q e a'' w'':=by
   intro e' he hne;refine Zwx h1 h2 h3 (Zyk hl fun σ'' hq=>?_)
   subst he;cases e<;>first|exact absurd rfl hne|exact hq
  cases e with
  | normal=>
   obtain⟨σ'',Φ'',ρ'',g1,g2,g3,g4,g5,g6,k,σ0,g7,g8,g9⟩:=hl;obtain⟨Φ3,hE3,hr3,ht3⟩:=g8.rel W Φ'' ρ'' _ _ g4 g5;exact⟨k,g7,σ0,Φ3,ρ'',(h1.trans g1).trans hE3,h2.trans g2 h3,Nat.le_trans (Nat.le_trans h3 g3) g8.next,hr3,ht3,g6,g9⟩
  | exit i=>exact key _ rfl (by simp)
  | goto l=>exact key _ rfl (by simp)
  | ret=>exact key _ rfl (by simp)
  | panic ch=>exact key _ rfl (by simp)
  | outgrown=>exact key _ rfl (by simp)
 | exit id=>exact fun Q σ h W Φ ρ hH a w hr ht hd=>wpIn_exit ⟨σ,Φ,ρ,.refl _ _,.refl _ _,Nat.le_refl _,hr,ht,hd,h⟩
 | scope c ih=>
  intro Q σ h W Φ ρ hH a w hr ht hd;simp only[Y2,U2]at h;refine hsc h.1 _ _ _ _ (wpIn_mono (ih _ _ h.2 W Φ ρ hH a w hr ht hd) ?_);intro e a' w' hl;cases e with
  | goto l=>
   obtain⟨σ',Φ',ρ',h1,h2,h3,h4,h5,h6,h7⟩:=hl;exact h7.elim
  | normal=>exact hl
  | exit i=>exact hl
  | ret=>exact hl
  | panic ch=>exact hl
  | outgrown=>exact hl
 | label l=>exact fun Q σ h W Φ ρ hH a w hr ht hd=>wpIn_label ⟨σ,Φ,ρ,.refl _ _,.refl _ _,Nat.le_refl _,hr,ht,hd,h⟩
 | ret=>exact fun Q σ h W Φ ρ hH a w hr ht hd=>wpIn_ret ⟨σ,Φ,ρ,.refl _ _,.refl _ _,Nat.le_refl _,hr,ht,hd,h⟩
 | rangeFunc f ps x y _ _=>exact fun Q σ h=>by simp[Y2,U2]at h
 | goto l=>exact fun Q σ h=>by simp[Y2,U2]at h
 | refuse s=>exact fun Q σ h=>by simp[Y2,U2]at h
theorem Z2w(c:Code)(Q:Exit→Act→World→Prop)(a:Act)(w:World)(h:c.wpIn Fence.wide n P (Exit.noGoto Q) a w):(Code.scope c).wpIn Fence.wide n P Q a w:=
 wpIn_wide.2 (wp_scope_straight (wpIn_wide.1 h))
theorem Open.fenced(hF:Open F)(m:Machine):m.fenced P F:=by
 intro g _;refine⟨fun hh=>?_,Or.inl (hF.fn _),fun f _=>hF.fn f,fun d hd=>?_⟩
 ·rw[hF.alive]at hh; cases hh
 ·rw[hF.depth]at hd; cases hd
theorem Zzz(hF:Open F){o:Oper}(ho:∀ c,o.op≠.defer c){a:Act}{w:World}{K:Act→World→Prop}{Q:Exit→Act→World→Prop}(h:o.wp P a w K Q):o.wpIn F n P a w K Q:=by
 refine⟨fun f _=>hF.fn f,?_⟩
 rw[Oper.semAt_eq _ _ _ ho];unfold Oper.wp at h;have hne:F.depth.isSome=true→1≤n:=fun hh=>by rw[hF.depth]at hh; cases hh
 have hCI:∀ (f:FuncId) (args:Array Value) (w':World) (R:Ending→World→Prop),Calls P f args w' R→CallsIn F (n - 1) P f args w' R:=by
  intro f args w' R hc;refine⟨hF.fn f,fun cs _=>?_⟩
  obtain⟨e,w'',fr,r,s,x⟩:=hc cs;refine⟨e,w'',fr,r,?_,x⟩;cases e with
  | returned v=>exact (StepsIn.of_steps s).mono fun m _=>hF.fenced m
  | panicked ch=>exact (StepsIn.of_steps s).mono fun m _=>hF.fenced m
  | outgrown=>exact s
 have hRI:∀ (row:String) (args:Array Value) (w':World) (R:Value→World→Prop),Rows P row args w' R→Go.RowsIn F (n - 1) P row args w' R:=by
  intro row args w' R hc c cs _;obtain⟨v,w'',r,s⟩:=hc c cs;exact⟨v,w'',r,(StepsIn.of_steps s).mono fun m _=>hF.fenced m⟩
 generalize (execOp a.eval o).run P w=r at h ⊢;unfold Oper.upon at h;unfold Oper.uponIn;split at h
 ·exact h
 ·exact h
 ·exact h
 ·exact⟨hne,hCI _ _ _ _ h⟩
 ·exact⟨hne,hRI _ _ _ _ h⟩
 ·exact h
 ·exact h.elim
end
end Go.AE
end
section
namespace Go.AE
open Go.RowKit
def Zaw(t:List AVal)(f:AOpd)(xs:List AOpd):Option (Fn×List AVal):=
 match ev t f with
 | .func (.func g) first cap=>some (.func g,first++xs.map (ev t)++cap)
 | .yld b=>some (.yield b,xs.map (ev t))
 | _=>none
abbrev CallW:=Fn→List AVal→Mem→Nat→(AVal→Mem→Prop)→Prop
abbrev StepA:=Nat→List AVal→Mem→AOp→Option (AVal×Mem)
def O7(st:StepA)(cw:CallW)(base:Nat):List AOper→Nat→(ASt→Prop)→List AVal→Mem→Prop
 | [],_,K,t,m=>K ⟨t,m⟩
 | o :: r,i,K,t,m=>
  match R7 t o.guard with
  | some false=>O7 st cw base r (i+1) K (put t o.dst aundef) m
  | some true=>
   match o.op with
   | .call f xs=>match Zaw t f xs with
    | some (fn,args)=>cw fn args m (base+i) fun v m'=>O7 st cw base r (i+1) K (put t o.dst v) m'
    | none=>False
   | op=>match st (base+i) t m op with
    | some (v,m')=>O7 st cw base r (i+1) K (put t o.dst v) m'
    | none=>False
  | none=>False
def Ybv(Φ:Pers)(ρ:Rho)(W:Base)(m:Mem)(id:Nat)(K:AVal→Mem→Prop)(e:Ending)(w':World):Prop:=
 ∃ v r m' Φ' ρ',e=.returned v∧Ext Φ ρ Φ' ρ'∧(∀ b,b<m.next→b≠id→ρ b=none→ρ' b=none)∧Rel W Φ' ρ' m' w'∧R Φ' ρ' r v∧m.next≤m'.next∧K r m'
def FnCall(F:Fence)(n:Nat)(P:Program)(ρ:Rho)(fn:Fn)(vs:Array Value)(w:World)(S:Ending→World→Prop):Prop:=
 (∃ g,fn=.func g∧Zhg P g∧CallsIn F n P g vs w S) ∨
 (∃ b l f tmps assign body,fn=.yield b∧ρ b=some l∧(Instr.yield l.blk vs).run P w=.ok (.round l.blk f tmps assign body) w∧RoundIn F n P l.blk f tmps assign body w S) ∨
 (∃ g v w',fn=.func g∧(callFunc g vs).run P w=.ok (.value v) w'∧S (.returned v) w')
def StOk(F:Fence)(n:Nat)(H:HypW)(P:Program)(st:StepA):Prop:=
 ∀(o:Oper) (id:Nat) (t:List AVal) (m:Mem) (x:AVal) (m':Mem),st id t m (P8 P o)=some (x,m')→m'.next=m.next ∧
  ∀(W:Base) (Φ:Pers) (ρ:Rho) (a:Act) (w:World) (K:Act→World→Prop) (Q:Exit→Act→World→Prop),H W Φ ρ→RL Φ ρ t a.tmps→Rel W Φ ρ m w→ρ id=none→id<m.next →
   (∀ Φ' ρ' u w',Ext Φ ρ Φ' ρ'→(∀ b,b≠id→ρ b=none→ρ' b=none)→Rel W Φ' ρ' m' w'→R Φ' ρ' x u→K (a.put o.dst u) w')→o.wpIn F n P a w K Q
def Za6(F:Fence)(n:Nat)(H:HypW)(P:Program)(cw:CallW):Prop:=
 ∀ fn args m id K,cw fn args m id K → ∀ W Φ ρ,H W Φ ρ → ∀ vs w,Rel W Φ ρ m w→RL Φ ρ args vs→ρ id=none→id<m.next→FnCall F n P ρ fn vs w (Ybv Φ ρ W m id K)
theorem Yb2{F:Fence}{n:Nat}{P:Program}(hF:Open F){f:FuncId}{args:Array Value}{w:World}{S:Ending→World→Prop}(hc:Calls P f args w S):CallsIn F n P f args w S:=by
 refine⟨hF.fn f,fun cs _=>?_⟩
 obtain⟨e,w'',fr,r,s,x⟩:=hc cs;refine⟨e,w'',fr,r,?_,x⟩;cases e with
 | returned v=>exact (StepsIn.of_steps s).mono fun m _=>hF.fenced m
 | panicked ch=>exact (StepsIn.of_steps s).mono fun m _=>hF.fenced m
 | outgrown=>exact s
def cwFn(P:Program):CallW:=fun fn args m id K=>∃ g,fn=.func g∧ACalls P g args m [id] K
theorem Zjl{F:Fence}{n:Nat}{H:HypW}{P:Program}(hF:Open F):Za6 F n H P (cwFn P):=by
 rintro fn args m id K ⟨g,rfl,hA⟩ W Φ ρ _ vs w hr ha hn hlt;refine .inl ⟨g,rfl,hA.1,Yb2 hF ?_⟩;refine(hA.2 W Φ ρ vs w hr ha (fun b hb=>by simp only[List.mem_singleton]at hb; subst hb; exact⟨hn,hlt⟩)).mono ?_
 rintro e w' ⟨v,r,m',Φ',ρ',rfl,h1,h2,h3,h4,h5,h6⟩;exact⟨v,r,m',Φ',ρ',rfl,h1,fun b hb hne=>h2 b hb (by simpa using hne),h3,h4,h5,h6⟩
section
variable {F:Fence} {n:Nat} {H:HypW} {D:List Deferred} {P:Program} {W:Base} {Φ:Pers} {ρ:Rho} {w:World} {m m':Mem} {x:AVal} {a:Act} {t:List AVal} {ops:Array Oper}
theorem FnCall.mono{fn:Fn}{vs:Array Value}{S S':Ending→World→Prop}(h:FnCall F n P ρ fn vs w S)(hs:∀ e w,S e w→S' e w):FnCall F n P ρ fn vs w S':=by
 rcases h with⟨g,h1,h2,h3,h4⟩|⟨b,l,f,tm,as,bd,h1,h0,h2,h3⟩|⟨g,v,w',h1,h2,h3⟩
 ·exact .inl ⟨g,h1,h2,h3,fun cs hroom=>let ⟨e,w',fr,r,s,x⟩:=h4 cs hroom; ⟨e,w',fr,hs _ _ r,s,x⟩⟩
 ·exact .inr (.inl ⟨b,l,f,tm,as,bd,h1,h0,h2,h3.mono hs⟩)
 ·exact .inr (.inr ⟨g,v,w',h1,h2,hs _ _ h3⟩)
theorem Z1v{o:Oper}{f:AOpd}{xs:List AOpd}(ho:P8 P o=.call f xs):∃ c of,o.op=.call c∧c.callee=.value of∧Y5 of=some f∧A5 c.args.toList=some xs:=by
 unfold P8 at ho;cases hc:cOp P o with
 | none=>simp[hc]at ho
 | some op=>
  simp only[hc,Option.getD_some]at ho;subst ho;unfold cOp at hc;split at hc<;>first|(cases hc; done)|(simp only[Option.map_eq_some_iff]at hc; obtain⟨_,_,hc⟩:=hc; cases hc; done)|skip
  case h_26 c hoc=>
   unfold Zcn at hc;split at hc
   ·rename_i of hcal;split at hc
    ·rename_i g' xs' hg' hxs';injection hc with hc
     injection hc with h1 h2
     subst h1; subst h2;exact⟨c,of,hoc,hcal,hg',hxs'⟩
    ·cases hc
   all_goals (repeat' (split at hc<;>first|(cases hc; done)|skip))
   all_goals (first|(cases hc; done)|(simp only[Option.map_eq_some_iff]at hc; obtain⟨_,_,hc⟩:=hc; cases hc; done)|skip)
  all_goals (repeat' (split at hc<;>first|(cases hc; done)|skip))
  all_goals (first|(cases hc; done)|(simp only[Option.map_eq_some_iff]at hc; obtain⟨_,_,hc⟩:=hc; cases hc; done)|skip)
theorem Z5m{o:Oper}{id:Nat}{r:AVal×Mem}(h:stepA id t m (P8 P o)=some r):∀ c,o.op≠.defer c:=by
 intro c hc;unfold P8 at h;have:cOp P o=none:=by
  unfold cOp;rw[hc]
 rw[this]at h;simp[stepA]at h
theorem Z6j(hF:Open F){id:Nat}{K:Act→World→Prop}{Q:Exit→Act→World→Prop}(ht:RL Φ ρ t a.tmps)(hr:Rel W Φ ρ m w)(hn:ρ id=none)(hlt:id<m.next)(o:Oper){f:AOpd}{xs:List AOpd}(ho:P8 P o=.call f xs)
 {fn:Fn} {args:List AVal} (hg:Zaw t f xs=some (fn,args)) {cw:CallW} (hcw:Za6 F (n - 1) H P cw) (hH:H W Φ ρ) {KA:AVal→Mem→Prop} (h:cw fn args m id KA)
 (hK:∀ Φ' ρ' x m' u w',Ext Φ ρ Φ' ρ'→(∀ b,b<m.next→b≠id→ρ b=none→ρ' b=none)→Rel W Φ' ρ' m' w'→R Φ' ρ' x u→m.next≤m'.next→KA x m'→K (a.put o.dst u) w'):o.wpIn F n P a w K Q:=by
 obtain⟨c,of,hop,hcal,hof,hxs⟩:=Z1v ho;have hfv:=T4 ht hof;have hargs:=Zih ht hxs;refine⟨fun f _=>hF.fn f,?_⟩
 rw[Oper.semAt_eq _ _ _ (fun c' hc'=>by rw[hop]at hc'; cases hc')]
 have hne:F.depth.isSome=true→1≤n:=fun hh=>by rw[hF.depth]at hh; cases hh
 have fin:∀ vs,RL Φ ρ args vs→FnCall F (n - 1) P ρ fn vs w (fun e w'=>match e with
  | .returned v=>K (a.put o.dst v) w'
  | .panicked chain=>Q (.panic chain) a w'
  | .outgrown=>LetsOut Q):=fun vs hRL=>by
  refine(hcw fn args m id KA h W Φ ρ hH vs w hr hRL hn hlt).mono ?_;rintro e w' ⟨v,r,m',Φ',ρ',rfl,h1,h2,h3,h4,h5,h6⟩;exact hK Φ' ρ' r m' v w' h1 h2 h3 h4 h5 h6
 unfold Zaw at hg;split at hg<;>first|(cases hg; done)|skip
 ·rename_i g' first cap hev;injection hg with hg
  injection hg with h1 h2
  subst h1; subst h2;rw[hev]at hfv;generalize hvv:a.eval of=vv at hfv;cases hfv with
  | func _ _ _ vf vc hf hc hfr hcr=>
   have hRL:RL Φ ρ (first++xs.map (ev t)++cap) (vf++c.args.map a.eval++vc):=by
    refine⟨by simp only[Array.size_append,List.length_append]; rw[hf,hc,hargs.1],fun i y v hy hv=>?_⟩
    have hl2:(vf++c.args.map a.eval).size=(first++xs.map (ev t)).length:=by simp only[Array.size_append,List.length_append]; rw[hf,hargs.1]
    rw[List.getElem?_append]at hy;rw[Array.getElem?_append]at hv;rw[hl2]at hv;split at hy
    ·rename_i hlt';rw[if_pos hlt']at hv;rw[List.getElem?_append]at hy;rw[Array.getElem?_append,hf]at hv;split at hy
     ·rename_i h3;rw[if_pos h3]at hv;exact hfr i y v hy hv
     ·rename_i h3;rw[if_neg h3]at hv;exact hargs.2 _ y v hy hv
    ·rename_i hge;rw[if_neg hge]at hv;exact hcr _ y v hy hv
   rcases fin _ hRL with⟨g,hg,⟨fn',hfn,hname,hbody⟩,hC⟩|⟨b,l,_,_,_,_,hl,_⟩|⟨g,v,w',hg,hrun,hS⟩
   ·cases hg;have hrun:(execOp a.eval o).run P w=.ok (.enter g' (vf++c.args.map a.eval++vc)) w:=by
     unfold execOp;rw[hop];simp only[resolve,hcal,hvv,Deferred.ofValue,Sem.run_bind,Sem.run_pure,Result.andThen_ok,invoke,callFunc];cases hb:fn'.body with
     | none=>rw[hb]at hbody; cases hbody
     | some b=>simp[program,Sem.run,hfn,hb]; simpa using hname
    rw[hrun];refine⟨hne,⟨hC.1,fun cs hroom=>?_⟩⟩
    obtain⟨e,w',fr,r,s,x⟩:=hC.2 cs hroom;refine⟨e,w',fr,?_,s,x⟩;cases e<;>exact r
   ·cases hl
   ·cases hg;have hrun':(execOp a.eval o).run P w=.ok (.value v) w':=by
     unfold execOp;rw[hop];simp only[resolve,hcal,hvv,Deferred.ofValue,Sem.run_bind,Sem.run_pure,Result.andThen_ok,invoke];exact hrun
    rw[hrun'];exact hS
 ·rename_i b hev;injection hg with hg
  injection hg with h1 h2
  subst h1; subst h2;rw[hev]at hfv;generalize hvv:a.eval of=vv at hfv;cases hfv with
  | yld _ l hl=>
   have hRL:RL Φ ρ (xs.map (ev t)) (#[]++c.args.map a.eval):=by simpa using hargs
   rcases fin _ hRL with⟨g,hg,_⟩|⟨b',l',f',tm,as,bd,hb',hl',hy,hC⟩|⟨g,_,_,hg,_⟩
   ·cases hg
   ·cases hb';rw[hl]at hl';cases hl';have hrun:(execOp a.eval o).run P w=.ok (.round l.blk f' tm as bd) w:=by
     unfold execOp;rw[hop];simp only[resolve,hcal,hvv,Deferred.ofValue,Sem.run_bind,Sem.run_pure,Result.andThen_ok,invoke];exact hy
    rw[hrun];refine⟨hne,hC.mono fun e w' r=>?_⟩
    cases e<;>exact r
   ·cases hg
theorem Z0m{st:StepA}{cw:CallW}{base i:Nat}{b:AOper}{rest:List AOper}{K:ASt→Prop}(h:O7 st cw base (b :: rest) i K t m) :
 (R7 t b.guard=some false∧O7 st cw base rest (i+1) K (put t b.dst aundef) m) ∨
 (R7 t b.guard=some true∧((∃ f xs fn args,b.op=.call f xs∧Zaw t f xs=some (fn,args)∧cw fn args m (base+i) fun v m'=>O7 st cw base rest (i+1) K (put t b.dst v) m') ∨
   (∃ v m',st (base+i) t m b.op=some (v,m')∧O7 st cw base rest (i+1) K (put t b.dst v) m'))):=by
 simp only[O7]at h;cases hw:R7 t b.guard with
 | none=>simp[hw]at h
 | some q=>
  cases q with
  | false=>simp only[hw]at h; exact .inl ⟨rfl,h⟩
  | true=>
   simp only[hw]at h;refine .inr ⟨rfl,?_⟩;have other:∀ op,b.op=op→(match st (base+i) t m op with|some (v,m')=>O7 st cw base rest (i+1) K (put t b.dst v) m'|none=>False) →
    ∃ v m',st (base+i) t m op=some (v,m')∧O7 st cw base rest (i+1) K (put t b.dst v) m':=by
    intro op _ hh;cases hs:st (base+i) t m op with
    | none=>simp[hs]at hh
    | some r=>obtain ⟨v,m'⟩:=r; simp only[hs]at hh; exact⟨v,m',rfl,hh⟩
   cases hop:b.op with
   | call f xs=>
    simp only[hop]at h;cases hc:Zaw t f xs with
    | none=>simp[hc]at h
    | some r=>
     obtain⟨fn,args⟩:=r;simp only[hc]at h;exact .inl ⟨f,xs,fn,args,rfl,hc,h⟩
   | _=>rw[hop]at h; exact .inr (other _ hop h)
theorem Zmo(hF:Open F)(hMono:H.Mono){st:StepA}(hst:StOk F n H P st){cw:CallW}(hcw:Za6 F (n - 1) H P cw)(W:Base)(base:Nat)(n0:Nat)(ops:Array Oper)(Q:Exit→ASt→Prop)(Φ0:Pers)(ρ0:Rho)(hb:n0≤base) :
 ∀(l:List Oper) (as:List AOper) (i:Nat) (t:List AVal) (m:Mem) (Φ:Pers) (ρ:Rho) (a:Act) (w:World),
  as.length=l.length→(∀(j:Nat) (o:Oper) (b:AOper),l[j]? = some o→as[j]? = some b→b.dst=o.dst∧b.op=P8 P o∧Zan ops o.guard=some b.guard) →
  O7 st cw base as i (Q .normal) t m→H W Φ ρ→Rel W Φ ρ m w→RL Φ ρ t a.tmps→a.defers=D→Ext Φ0 ρ0 Φ ρ→KeepN n0 ρ0 ρ→(∀ j,i≤j→j<i+as.length→ρ (base+j)=none)→base+i+as.length≤m.next→n0≤m.next →
  wpListIn F n P ops (Zfo W D Φ0 ρ0 n0 Q) l a w
 | [],[],i,t,m,Φ,ρ,a,w,_,_,h,_,hr,ht,hd,he,hk,_,_,hn=>⟨⟨t,m⟩,Φ,ρ,he,hk,hn,hr,ht,hd,h⟩
 | [],_ :: _,_,_,_,_,_,_,_,hl,_,_,_,_,_,_,_,_,_,_,_=>by simp at hl
 | _ :: _,[],_,_,_,_,_,_,_,hl,_,_,_,_,_,_,_,_,_,_,_=>by simp at hl
 | o :: l,b :: as,i,t,m,Φ,ρ,a,w,hl,hg,h,hH,hr,ht,hd,he,hk,hfree,hnx,hn=>by
  obtain⟨e1,e2,e3⟩:=hg 0 o b rfl rfl;have hg':∀ (j:Nat) (o:Oper) (b:AOper),l[j]? = some o→as[j]? = some b→b.dst=o.dst∧b.op=P8 P o∧Zan ops o.guard=some b.guard:=fun j o b ho hb=>hg (j+1) o b (by simpa using ho) (by simpa using hb)
  have hl':as.length=l.length:=by simpa using hl
  simp only[List.length_cons]at hnx hfree;have hlt:base+i<m.next:=by omega
  have hni:ρ (base+i)=none:=hfree i (Nat.le_refl _) (by omega)
  unfold wpListIn;rcases Z0m h with⟨hw,h'⟩|⟨hw,h'⟩
  ·rw[Zgf ht e3 hw,if_neg (by simp)]
   rw[← e1];exact⟨fun f _=>hF.fn f,Zmo hF hMono hst hcw W base n0 ops Q Φ0 ρ0 hb l as (i+1) _ m Φ ρ _ w hl' hg' h' hH hr (ht.put b.dst (Zeu Φ ρ)) (by rw[Zge]; exact hd) he hk (fun j h1 h2=>hfree j (by omega) (by omega)) (by omega) hn⟩
  ·rw[Zgf ht e3 hw,if_pos rfl];rcases h' with⟨f,xs,g,args,hop,hcal,hA⟩|⟨v,m',hs,h'⟩
   ·refine Z6j hF ht hr hni hlt o (by rw[← e2]; exact hop) hcal hcw hH hA fun Φ' ρ' x m' u w' hE hfr hr' hx hnx' hW=>?_
    rw[← e1];exact Zmo hF hMono hst hcw W base n0 ops Q Φ0 ρ0 hb l as (i+1) _ m' Φ' ρ' _ w' hl' hg' hW (hMono _ _ _ _ _ hH hE) hr' ((ht.ext hE).put b.dst hx) (by rw[Zge]; exact hd) (he.trans hE) (fun c hc h0=>hfr c (by omega) (by omega) (hk c hc h0))
     (fun j h1 h2=>hfr _ (by omega) (by omega) (hfree j (by omega) (by omega))) (by omega) (by omega)
   ·rw[e2]at hs;obtain⟨hnx',hop⟩:=hst o _ t m v m' hs;refine hop W Φ ρ a w _ _ hH ht hr hni hlt fun Φ' ρ' u w' hE hfr hr' hx=>?_
    rw[← e1];exact Zmo hF hMono hst hcw W base n0 ops Q Φ0 ρ0 hb l as (i+1) _ m' Φ' ρ' _ w' hl' hg' h' (hMono _ _ _ _ _ hH hE) hr' ((ht.ext hE).put b.dst hx) (by rw[Zge]; exact hd) (he.trans hE) (fun c hc h0=>hfr c (by omega) (hk c hc h0))
     (fun j h1 h2=>hfr _ (by omega) (hfree j (by omega) (by omega))) (by rw[hnx']; omega) (by rw[hnx']; exact hn)
theorem Ztg(hF:Open F)(hMono:H.Mono){st:StepA}(hst:StOk F n H P st){cw:CallW}(hcw:Za6 F (n - 1) H P cw){id:Nat}{ops:Array Oper}{Q:Exit→ASt→Prop}{σ:ASt}{as:List AOper}(hc:G8 P ops ops.toList=some as)
 (h:O7 st cw σ.m.next as 0 (Q .normal) σ.t (σ.m.at (σ.m.next+as.length))):AWpF F n H D P (.region id ops false) Q σ:=by
 intro W Φ ρ hH a w hr ht hd;obtain⟨h1,h2⟩:=Zj4 P ops _ _ hc;refine wpIn_region_list (Zmo hF hMono hst hcw W σ.m.next σ.m.next ops Q Φ ρ (Nat.le_refl _) ops.toList as 0 σ.t _ Φ ρ a w h1 h2 h hH (hr.at_ (by omega)) ht hd (.refl _ _) (.refl _ _) ?_ (by simp) (by simp))
 intro j _ _;cases hq:ρ (σ.m.next+j)with
 | none=>rfl
 | some l=>have:=hr.fresh _ _ hq; omega
theorem Zg0(hF:Open F):StOk F n H P stepA:=fun _ _ _ _ _ _ hs=>
 ⟨Zyu hs,fun _ _ _ _ _ _ _ _ ht hr hn hlt hK=>Zzz hF (Z5m hs) (Zq3 ht hr hn hlt _ hs hK)⟩
end
def wrG(P:Program)(dr:Bool)(st:StepA)(cw:CallW):RegW
 | false,ops,K,σ=>O7 st cw σ.m.next ops 0 K σ.t (σ.m.at (σ.m.next+ops.length))
 | true,ops,K,σ=>dr=true∧R3 P σ.m.next ops [] K σ.t (σ.m.at (σ.m.next+ops.length))
section
variable {n:Nat} {H:HypW} {D:List Deferred} {P:Program}
theorem Zqk(hm:P.follows .mixedOrders=true)(hMono:H.Mono){st:StepA}(hst:StOk Fence.wide n H P st){cw:CallW}(hcw:Za6 Fence.wide (n - 1) H P cw)(c:Code)(Q:Exit→ASt→Prop)(σ:ASt)(h:U2 (wrG P true st cw) true (Y2 P c) Q σ):AWpF Fence.wide n H [] P c Q σ:=by
 refine Zt1 hMono (fun _=>Z2w) (fun id ops draw Q σ h=>?_) c Q σ h
 cases draw with
 | false=>
  simp only[Y2]at h;cases hc:G8 P ops ops.toList with
  | none=>simp[hc,U2]at h
  | some as=>
   simp only[hc,U2,wrG]at h;exact Ztg Open.wide hMono hst hcw hc h
 | true=>
  refine AWpF.of_wide (Zqn hm ?_);simp only[Y2]at h ⊢;cases hc:G8 P ops ops.toList with
  | none=>simp[hc,U2]at h
  | some as=>
   simp only[hc]at h ⊢;split at h
   ·rename_i hok;simp only[U2,wrG]at h;rw[if_pos hok];simp only[wpc];exact h.2
   ·simp[U2]at h
theorem Zpi{F:Fence}(hF:Open F)(hMono:H.Mono){st:StepA}(hst:StOk F n H P st){cw:CallW}(hcw:Za6 F (n - 1) H P cw)(c:Code)(Q:Exit→ASt→Prop)(σ:ASt)(h:U2 (wrG P false st cw) false (Y2 P c) Q σ):AWpF F n H D P c Q σ:=by
 refine Zt1 hMono (fun hh=>by cases hh) (fun id ops draw Q σ h=>?_) c Q σ h
 cases draw with
 | false=>
  simp only[Y2]at h;cases hc:G8 P ops ops.toList with
  | none=>simp[hc,U2]at h
  | some as=>
   simp only[hc,U2,wrG]at h;exact Ztg hF hMono hst hcw hc h
 | true=>
  simp only[Y2]at h;cases hc:G8 P ops ops.toList with
  | none=>simp[hc,U2]at h
  | some as=>
   simp only[hc]at h;split at h
   ·simp[U2,wrG]at h
   ·simp[U2]at h
end
end Go.AE
end
section
namespace Go.AE
open Go.RowKit
def Base.setG(W:Base)(l:Nat)(o:Obj):Base:={ W with g:=fun B=>if B=l then some o else W.g B }
theorem Base.setG_setG(W:Base)(l:Nat)(o o':Obj):(W.setG l o).setG l o'=W.setG l o':=by
 unfold Base.setG
 congr 1
 funext B
 by_cases h:B=l<;>simp[h]
theorem Base.setG_same{W:Base}{l:Nat}{o:Obj}(h:W.g l=some o):W.setG l o=W:=by
 unfold Base.setG;cases W
 congr 1
 funext B
 by_cases hb:B=l
 ·subst hb; simp; exact h.symm
 ·simp[hb]
theorem Base.setG_g(W:Base)(l:Nat)(o:Obj):(W.setG l o).g l=some o:=by simp[Base.setG]
theorem Base.setG_other{W:Base}{l B:Nat}{o:Obj}(h:B≠l):(W.setG l o).g B=W.g B:=by simp[Base.setG,h]
def Zm3(D:Nat):Deferred:={ target:=.collected D,args:=#[] }
section
variable {P:Program} {W:Base} {Φ:Pers} {ρ:Rho} {w:World} {m m':Mem}
theorem Z3h{B:Nat}{a w:World}{l:Nat}{o:Obj}(h:Below B a w)(hl:B≤l):Below B a (w.putObj l o):=
 ⟨h.os,h.tape,h.output,by rw[World.putObj_size]; exact h.size,fun k hk=>by rw[World.putObj_heap_other (by omega)]; exact h.block k hk⟩
theorem Rel.putG(h:Rel W Φ ρ m w){l:Nat}{o:Obj}(hg:W.g l=some o)(hl:W.w.heap.size≤l)(hno:∀ c e fz,o≠.cells c e fz)(o':Obj):Rel (W.setG l o') Φ ρ m (w.putObj l o'):=by
 have ho:=h.base.prot l o hg;have hlt:=B7 ho;have hfree:∀ B,W.Free B→B≠l∧(W.setG l o').Free B:=fun B hB=>by
  have hne:B≠l:=fun e=>by subst e; have:=hB.2; rw[hg]at this; cases this
  exact⟨hne,hB.1,by rw[Base.setG_other hne]; exact hB.2⟩
 have hpers:∀ B c,Φ B=some c→B≠l:=fun B c hB e=>by
  subst e;obtain⟨e',fz,h'⟩:=h.pers _ c hB;rw[ho]at h';injection h' with h'
  exact hno _ _ _ h'
 refine⟨⟨Z3h h.base.below hl,fun B ob hB=>?_⟩,fun B c hB=>?_,fun b x hx=>?_,h.inj,h.fresh,fun B c hB=>?_⟩
 ·by_cases e:B=l
  ·subst e;rw[Base.setG_g]at hB;injection hB with hB
   subst hB;exact World.putObj_heap_same hlt
  ·rw[Base.setG_other e]at hB;rw[World.putObj_heap_other e];exact h.base.prot B ob hB
 ·obtain⟨e',fz,h'⟩:=h.pers B c hB;exact⟨e',fz,by rw[World.putObj_heap_other (hpers B c hB)]; exact h'⟩
 ·obtain⟨lo,ob,h1,h2,h3,h4,h5⟩:=h.live b x hx;obtain⟨g1,g2⟩:=hfree _ h2;exact⟨lo,ob,h1,g2,h3,by rw[World.putObj_heap_other g1]; exact h4,h5⟩
 ·rcases h.newp B c hB with h'|h'
  ·exact .inl h'
  ·exact .inr (hfree B h').2
theorem Rel.addG(h:Rel W Φ ρ m w)(o:Obj):Rel (W.setG w.heap.size o) Φ ρ m (w.alloc o):=by
 have hfree:∀ B,B<w.heap.size→W.Free B→(W.setG w.heap.size o).Free B:=fun B hlt hB=>
  ⟨hB.1,by rw[Base.setG_other (by omega)]; exact hB.2⟩
 have hold:∀ (B:Nat) (ob:Obj),w.heap[B]? = some ob→(w.alloc o).heap[B]? = some ob:=fun B ob hB=>(Below.heap_alloc w o B (B7 hB)).trans hB
 refine⟨⟨h.base.below.alloc h.base.below.size o,fun B ob hB=>?_⟩,fun B c hB=>?_,fun b x hx=>?_,h.inj,h.fresh,fun B c hB=>?_⟩
 ·by_cases e:B=w.heap.size
  ·subst e;rw[Base.setG_g]at hB;injection hB with hB
   subst hB;exact World.alloc_heap_new w o
  ·rw[Base.setG_other e]at hB;exact hold _ _ (h.base.prot B ob hB)
 ·obtain⟨e',fz,h'⟩:=h.pers B c hB;exact⟨e',fz,hold _ _ h'⟩
 ·obtain⟨lo,ob,h1,h2,h3,h4,h5⟩:=h.live b x hx;exact⟨lo,ob,h1,hfree _ (B7 h4) h2,h3,hold _ _ h4,h5⟩
 ·rcases h.newp B c hB with h'|h'
  ·exact .inl h'
  ·obtain⟨e',fz,h2⟩:=h.pers B c hB;exact .inr (hfree B (B7 h2) h')
theorem Rel.g_new(h:Rel W Φ ρ m w){B:Nat}(hB:w.heap.size≤B):W.g B=none:=by
 cases hg:W.g B with
 | none=>rfl
 | some o=>have:=B7 (h.base.prot B o hg); omega
theorem Rel.dropG{l:Nat}{o:Obj}(h:Rel (W.setG l o) Φ ρ m w)(hg:W.g l=none):Rel W Φ ρ m w:=by
 have hfree:∀ B,(W.setG l o).Free B→W.Free B:=fun B hB=>by
  have hne:B≠l:=fun e=>by subst e; have:=hB.2; rw[Base.setG_g]at this; cases this
  exact⟨hB.1,by have:=hB.2; rw[Base.setG_other hne]at this; exact this⟩
 refine⟨⟨h.base.below,fun B ob hB=>?_⟩,h.pers,fun b x hx=>?_,h.inj,h.fresh,fun B c hB=>?_⟩
 ·refine h.base.prot B ob ?_;rw[Base.setG_other (fun e=>by subst e; rw[hg]at hB; cases hB)]
  exact hB
 ·obtain⟨lo,ob,h1,h2,h3,h4,h5⟩:=h.live b x hx;exact⟨lo,ob,h1,hfree _ h2,h3,h4,h5⟩
 ·rcases h.newp B c hB with h'|h'
  ·exact .inl h'
  ·exact .inr (hfree B h')
def Za3(t:List AVal):List (Nat×AVal)→List AVal
 | []=>t
 | (i,x) :: r=>Za3 (t.set i x) r
theorem Zty:∀ (ps:List Nat) (xs:List AVal) (vs:List Value) (t:List AVal) (us:Array Value),xs.length=vs.length→(∀(i:Nat) (x:AVal) (v:Value),xs[i]? = some x→vs[i]? = some v→R Φ ρ x v)→RL Φ ρ t us →
 RL Φ ρ (Za3 t (ps.zip xs)) ((ps.zip vs).foldl (fun tmps (p:Nat×Value)=>tmps.setIfInBounds p.1 p.2) us)
 | [],xs,vs,t,us,_,_,ht=>by simpa[Za3]using ht
 | p :: ps,[],[],t,us,_,_,ht=>by simpa[Za3]using ht
 | p :: ps,[],v :: vs,t,us,hl,_,_=>by simp at hl
 | p :: ps,x :: xs,[],t,us,hl,_,_=>by simp at hl
 | p :: ps,x :: xs,v :: vs,t,us,hl,hx,ht=>by
  simp only[List.zip_cons_cons,Za3,List.foldl_cons];refine Zty ps xs vs _ _ (by simpa using hl) (fun i y u hy hu=>hx (i+1) y u (by simpa using hy) (by simpa using hu)) ?_
  have:=RL.put (a:=⟨us,[]⟩) (some p) ht (hx 0 x v rfl rfl);exact this
def HLoop(b l:Nat)(r:Loop)(tR:List AVal):HypW:=fun W Φ ρ=>W.w.heap.size≤l∧W.g l=some (.loop r)∧RL Φ ρ tR r.tmps∧ρ b=some ⟨l,0,0,0⟩
theorem HLoop.mono{b l:Nat}{r:Loop}{tR:List AVal}:(HLoop b l r tR).Mono:=fun _ _ _ _ _ h he=>⟨h.1,h.2.1,h.2.2.1.ext he,he.rho _ _ h.2.2.2⟩
def Zt2(P:Program)(ps:List Nat)(tR:List AVal)(A B:ACode)(args:List AVal)(m:Mem)(K:AVal→Mem→Prop):Prop:=
 args.length=ps.length∧U2 (wrG P false stepA (cwFn P)) false A (fun e σ1=>match e with
  | .normal=>U2 (wrG P false stepA (cwFn P)) false B (fun e σ2=>match e with
   | .normal=>K (.bool true) σ2.m
   | _=>False) σ1
  | _=>False) ⟨Za3 tR (ps.zip args),m⟩
def cwY(P:Program)(b:Nat)(ps:List Nat)(tR:List AVal)(A B:ACode):CallW:=fun fn args m id K=>cwFn P fn args m id K∨(fn=.yield b∧Zt2 P ps tR A B args m K)
theorem Zt3{n:Nat}{b l:Nat}{r:Loop}{tR:List AVal}(hst:r.state=.ready)(hpe:r.pending=none):Za6 Fence.wide n (HLoop b l r tR) P (cwY P b r.params.toList tR (Y2 P r.assign) (Y2 P r.body)):=by
 intro fn args m id K hcw W Φ ρ hH vs w hr ha hn hlt;rcases hcw with hcw|⟨rfl,hlen,hround⟩
 ·exact Zjl Open.wide fn args m id K hcw W Φ ρ hH vs w hr ha hn hlt
 ·obtain⟨hl,hg,htR,hb0⟩:=hH;have hw:=hr.base.prot _ _ hg;have hsz:vs.size=r.params.size:=by rw[ha.1,hlen]; simp
  refine .inr (.inl ⟨b,⟨l,0,0,0⟩,r.fn,_,r.assign,r.body,rfl,hb0,run_yield hw hsz,roundIn_of_wpIn trivial ?_⟩);have htmps:RL Φ ρ (Za3 tR (r.params.toList.zip args)) ((r.params.zip vs).foldl (fun tmps (t,a)=>tmps.setIfInBounds t a) r.tmps):=by
   have:=Zty (Φ:=Φ) (ρ:=ρ) r.params.toList args vs.toList tR r.tmps (by simp[ha.1]) (fun i x v hx hv=>ha.2 i x v hx (by simpa using hv)) htR
   rw[← Array.foldl_toList,Array.toList_zip];exact this
  have hO:=Open.round Open.wide l;have hA:=Zpi (P:=P) (n:=n) (D:=[]) hO (H:=fun _ _ _=>True) (fun _ _ _ _ _ _ _=>trivial) (Zg0 hO) (Zjl hO) r.assign _ _ hround W Φ ρ trivial
   { tmps:=(r.params.zip vs).foldl (fun tmps (t,a)=>tmps.setIfInBounds t a) r.tmps,defers:=[] } w hr htmps rfl
  refine wpIn_mono hA ?_;rintro e a1 w1 ⟨σ1,Φ1,ρ1,e1,k1,n1,r1,t1,d1,q1⟩;cases e with
  | normal=>
   have hw1:=r1.base.prot _ _ hg;refine⟨_,run_beginRound hw1 hst,?_⟩;have r2:=r1.putG hg hl (by intro c e fz h; cases h) (.loop { r with state:=.busy })
   have hB:=Zpi (P:=P) (n:=n) (D:=[]) hO (H:=fun _ _ _=>True) (fun _ _ _ _ _ _ _=>trivial) (Zg0 hO) (Zjl hO) r.body _ _ q1 (W.setG l (.loop { r with state:=.busy })) Φ1 ρ1 trivial a1 _ r2 t1 d1
   refine wpIn_mono hB ?_;rintro e a2 w2 ⟨σ2,Φ2,ρ2,e2,k2,n2,r3,t2,d2,q2⟩;cases e with
   | normal=>
    have hw2:=r3.base.prot _ _ (Base.setG_g _ _ _);refine⟨_,_,run_endRound none hw2,?_⟩;have r4:=r3.putG (Base.setG_g _ _ _) hl (by intro c e fz h; cases h) (.loop { r with state:=.ready,pending:=none })
    rw[Base.setG_setG]at r4;have hreq:({ r with state:=.ready,pending:=none }:Loop)=r:=by
     cases r; simp only at hst hpe; subst hst; subst hpe; rfl
    rw[hreq,Base.setG_same hg]at r4;refine⟨.bool true,.bool true,σ2.m,Φ2,ρ2,rfl,e1.trans e2,fun b hb _ h0=>?_,?_,.bool true,Nat.le_trans n1 n2,q2⟩
    ·exact k2 b (Nat.lt_of_lt_of_le hb n1) (k1 b hb h0)
    ·have:(if (none:Option Code).isNone=true then LoopState.ready else LoopState.done)=.ready:=rfl
     simp only[Option.isNone_none,if_true];rw[hreq];exact r4
   | exit i=>exact q2.elim
   | goto i=>exact q2.elim
   | ret=>exact q2.elim
   | panic ch=>exact q2.elim
   | outgrown=>exact q2.elim
  | exit i=>exact q1.elim
  | goto i=>exact q1.elim
  | ret=>exact q1.elim
  | panic ch=>exact q1.elim
  | outgrown=>exact q1.elim
def ACallsH(H:HypW)(P:Program)(f:FuncId)(args:List AVal)(m:Mem)(K:AVal→Mem→Prop):Prop:=
 Zhg P f ∧ ∀(W:Base) (Φ:Pers) (ρ:Rho),H W Φ ρ → ∀(vs:Array Value) (w:World),Rel W Φ ρ m w→RL Φ ρ args vs →
  Calls P f vs w fun e w'=>∃ v r m' Φ' ρ',e=.returned v∧Ext Φ ρ Φ' ρ'∧KeepN m.next ρ ρ'∧Rel W Φ' ρ' m' w'∧R Φ' ρ' r v∧m.next≤m'.next∧K r m'
theorem Zhh{args:List AVal}{vs:Array Value}{k:Nat}(ha:RL Φ ρ args vs):RL Φ ρ (args++List.replicate (k - args.length) aundef) (vs++Array.replicate (k - vs.size) undef):=by
 refine⟨by simp[ha.1],fun i x v hx hv=>?_⟩
 rw[List.getElem?_append]at hx;rw[Array.getElem?_append,ha.1]at hv;split at hx
 ·rename_i hlt;rw[if_pos hlt]at hv;exact ha.2 i x v hx hv
 ·rename_i hge;rw[if_neg hge]at hv;have e1:x=aundef:=by
   have:=gS.1 hx;obtain⟨_,hh⟩:=this;simpa using hh.symm
  have e2:v=undef:=by
   have:=Array.getElem?_eq_some_iff.1 hv;obtain⟨_,hh⟩:=this;simpa using hh.symm
  subst e1; subst e2;exact Zeu _ _
theorem Zjt{fn:Func}{af:AFn}(hc:cFn P fn=some af):∃ c,fn.body=some c∧af.body=Y2 P c∧Zal P fn.results.toList=some af.results∧af.ntmps=fn.ntmps∧(fn.name == "runtime.NumGoroutine")=false:=by
 unfold cFn at hc;cases hb:fn.body with
 | none=>simp[hb]at hc
 | some c=>
  cases hrs:Zal P fn.results.toList with
  | none=>simp[hb,hrs]at hc
  | some rs=>
   simp only[hb,hrs]at hc;split at hc<;>first|(cases hc; done)|skip
   rename_i hname;injection hc with hc
   subst hc;exact⟨c,rfl,rfl,rfl,rfl,by simpa using hname⟩
theorem Zs7(hm:P.follows .mixedOrders=true){H:HypW}(hMono:H.Mono){st:StepA}(hst:StOk Fence.wide 0 H P st){cw:CallW}(hcw:Za6 Fence.wide 0 H P cw){f:FuncId}{fn:Func}{af:AFn}{args:List AVal}{m:Mem}{K:AVal→Mem→Prop}(hf:P.funcs[f]? = some fn)(hc:cFn P fn=some af)
 (h:U2 (wrG P true st cw) true af.body (retK af.results K) ⟨args++List.replicate (af.ntmps - args.length) aundef,m⟩):ACallsH H P f args m K:=by
 obtain⟨c,hb,hbody,hrs,hnt,hname⟩:=Zjt hc;refine⟨⟨fn,hf,hname,by rw[hb]; rfl⟩,fun W Φ ρ hH vs w hr ha=>?_⟩
 rw[hbody,hnt]at h;have hs:=Zqk (n:=0) hm hMono hst hcw c _ _ h W Φ ρ hH { tmps:=vs++Array.replicate (fn.ntmps - vs.size) undef,defers:=[] } w hr (Zhh ha) rfl;refine calls_of_wp hf hb (wp_mono (wpIn_wide.1 hs) fun e a w' hl=>?_)
 obtain⟨σ,Φ',ρ',h1,h2,h3,h4,h5,h6,h7⟩:=hl;have fin:(match N7 σ.t σ.m af.results with|some r=>K r σ.m|none=>False)→a.defers=[] ∧ ∃ v,(results fn a.tmps).run P w'=.ok v w' ∧
  ∃ v' r m' Φ' ρ',Ending.returned v=.returned v'∧Ext Φ ρ Φ' ρ'∧KeepN m.next ρ ρ'∧Rel W Φ' ρ' m' w'∧R Φ' ρ' r v'∧m.next≤m'.next∧K r m':=by
  intro hh;cases hz:N7 σ.t σ.m af.results with
  | none=>simp[hz]at hh
  | some r=>
   simp only[hz]at hh;obtain⟨u,g1,g2⟩:=Zf1 h4 h5 hrs hz;exact⟨h6,u,g1,u,r,σ.m,Φ',ρ',rfl,h1,h2,h4,g2,h3,hh⟩
 cases e with
 | normal=>exact fin h7
 | ret=>exact fin h7
 | exit i=>exact h7.elim
 | goto l=>exact h7.elim
 | panic ch=>exact h7.elim
 | outgrown=>exact h7.elim
end
end Go.AE
end
section
namespace Go.AE
open Go.RowKit
def endP(W:Base)(Φ:Pers)(ρ:Rho)(n:Nat)(K:ASt→Prop)(e:Exit)(a:Act)(w:World):Prop:=
 (e=.normal∨e=.ret) ∧ ∃ σ Φ' ρ',Ext Φ ρ Φ' ρ'∧KeepN n ρ ρ'∧n≤σ.m.next∧RL Φ' ρ' σ.t a.tmps∧K σ ∧
   ((a.defers=[]∧Rel W Φ' ρ' σ.m w) ∨ ∃ D,a.defers=[Zm3 D]∧W.w.heap.size≤D∧W.g D=none∧Rel (W.setG D (.deferred (some []))) Φ' ρ' σ.m w)
def AR(P:Program)(c:Code)(K:ASt→Prop)(σ:ASt):Prop:=
 ∀(W:Base) (Φ:Pers) (ρ:Rho) (a:Act) (w:World),Rel W Φ ρ σ.m w→RL Φ ρ σ.t a.tmps→a.defers=[]→c.wpIn Fence.wide 0 P (endP W Φ ρ σ.m.next K) a w
section
variable {P:Program}
theorem Yc0{W:Base}{Φ Φ':Pers}{ρ ρ':Rho}{n n':Nat}{K:ASt→Prop}{e:Exit}{a:Act}{w:World}(he:Ext Φ ρ Φ' ρ')(hk:KeepN n ρ ρ')(hn:n≤n')(h:endP W Φ' ρ' n' K e a w):endP W Φ ρ n K e a w:=by
 obtain⟨h1,σ,Φ2,ρ2,h2,h3,h4,h5⟩:=h;exact⟨h1,σ,Φ2,ρ2,he.trans h2,hk.trans h3 hn,Nat.le_trans hn h4,h5⟩
def seqQ(K K':ASt→Prop):Exit→ASt→Prop
 | .normal,σ=>K' σ
 | .ret,σ=>K σ
 | _,_=>False
theorem Zpg{x y:Code}{K:ASt→Prop}{σ:ASt}(h:AWp P x (seqQ K (AR P y K)) σ):AR P (.seq x y) K σ:=by
 intro W Φ ρ a w hr ht hd;refine wpIn_seq (wpIn_mono (wpIn_wide.2 (h W Φ ρ a w hr ht hd)) ?_);rintro e a1 w1 ⟨σ1,Φ1,ρ1,e1,k1,n1,r1,t1,d1,q1⟩;cases e with
 | normal=>exact wpIn_mono (q1 W Φ1 ρ1 a1 w1 r1 t1 d1) fun e a w hl=>Yc0 e1 k1 n1 hl
 | ret=>exact ⟨.inr rfl,σ1,Φ1,ρ1,e1,k1,n1,t1,q1,.inl ⟨d1,r1⟩⟩
 | exit i=>exact q1.elim
 | goto l=>exact q1.elim
 | panic ch=>exact q1.elim
 | outgrown=>exact q1.elim
def Ya5(P:Program)(g:AOpd)(ps:Array Tmp)(asn bd y:Code)(K:ASt→Prop)(σ:ASt):Prop:=
 ∃ gf first cap,ev σ.t g=.func (.func gf) first cap ∧ ∀(l:Nat) (r:Loop),r.state=.ready→r.pending=none→r.params=ps→r.assign=asn→r.body=bd →
  ACallsH (HLoop σ.m.next l r σ.t) P gf (first++[.yld σ.m.next]++cap) (σ.m.at (σ.m.next+1)) fun _ m2=>U2 (wrG P false stepA (cwFn P)) false (Y2 P y) (seqQ K K) ⟨σ.t,m2⟩
theorem Zy8{x y asn bd:Code}{b:Nat}{g:Operand}{g':AOpd}{ps:Array Tmp}{K:ASt→Prop}{σ:ASt}(hg:Y5 g=some g')(h:AWp P x (seqQ K (Ya5 P g' ps asn bd y K)) σ) :
 AR P (.seq (.seq x (.block b (.rangeFunc g ps asn bd))) y) K σ:=by
 intro W Φ ρ a w hr ht hd;refine wpIn_seq (wpIn_seq (wpIn_mono (wpIn_wide.2 (h W Φ ρ a w hr ht hd)) ?_));rintro e a1 w1 ⟨σ1,Φ1,ρ1,e1,k1,n1,r1,t1,d1,q1⟩;cases e with
 | ret=>exact ⟨.inr rfl,σ1,Φ1,ρ1,e1,k1,n1,t1,q1,.inl ⟨d1,r1⟩⟩
 | exit i=>exact q1.elim
 | goto l=>exact q1.elim
 | panic ch=>exact q1.elim
 | outgrown=>exact q1.elim
 | normal=>
  obtain⟨gf,first,cap,hev,hit⟩:=q1;have hgv:=T4 t1 hg;rw[hev]at hgv;refine wpIn_block (wpIn_rangeFunc ?_);intro fn hfn;generalize hvv:a1.eval g=vv at hgv;cases hgv with
  | func _ _ _ vf vc hf hc hfr hcr=>
   obtain⟨rec,hrec⟩:∃ rec:Loop,rec={ state:=.ready,pending:=none,fn,tmps:=a1.tmps,params:=ps,assign:=asn,body:=bd,defers:=w1.heap.size }:=⟨_,rfl⟩
   have hcall:=hit (w1.heap.size+1) rec (by rw[hrec]) (by rw[hrec]) (by rw[hrec]) (by rw[hrec]) (by rw[hrec])
   have r2:=r1.addG (.deferred (some []));have r30:=r2.addG (.loop rec);have hsz:(w1.alloc (.deferred (some []))).heap.size=w1.heap.size+1:=by simp
   rw[hsz]at r30;obtain⟨ρL,hρL⟩:∃ ρL:Rho,ρL=fun b=>if b=σ1.m.next then some ⟨w1.heap.size+1,0,0,0⟩ else ρ1 b:=⟨_,rfl⟩
   have hnew:ρL σ1.m.next=some ⟨w1.heap.size+1,0,0,0⟩:=by rw[hρL]; simp
   have hold:∀ b,b≠σ1.m.next→ρL b=ρ1 b:=fun b hb=>by rw[hρL]; simp[hb]
   have eL:Ext Φ1 ρ1 Φ1 ρL:=⟨fun _ _ h=>h,fun b lo hb=>by
    rw[hold b (fun e=>by subst e; have:=r1.fresh _ _ hb; omega)]; exact hb⟩
   have hlive:∀ b x,σ1.m.get b=some x→ρL b=ρ1 b:=fun b x hx=>by
    obtain⟨lo,_,hb,_⟩:=r1.live b x hx;exact hold b (fun e=>by subst e; have:=r1.fresh _ _ hb; omega)
   have r3:Rel ((W.setG w1.heap.size (.deferred (some []))).setG (w1.heap.size+1) (.loop rec)) Φ1 ρL (σ1.m.at (σ1.m.next+1)) ((w1.alloc (.deferred (some []))).alloc (.loop rec)):=by
    refine⟨r30.base,r30.pers,fun b x hx=>?_,fun b b' x x' lo lo' h1 h2 h3 h4=>?_,fun b lo hb=>?_,r30.newp⟩
    ·obtain⟨lo,ob,g1,g2,g3,g4,g5⟩:=r30.live b x hx;exact⟨lo,ob,by rw[hlive b x hx]; exact g1,g2,g3,g4,g5.ext eL⟩
    ·rw[hlive b x h1]at h3;rw[hlive b' x' h2]at h4;exact r30.inj b b' x x' lo lo' h1 h2 h3 h4
    ·simp only[Mem.next_at];by_cases e:b=σ1.m.next
     ·omega
     ·rw[hold b e]at hb;have:=r1.fresh b lo hb;omega
   obtain⟨⟨fb,hfb,hname,hbody⟩,hC⟩:=hcall;have hRL:RL Φ1 ρL (first++[.yld σ1.m.next]++cap) (vf ++ #[.func (.yield (w1.heap.size+1)) #[] #[]]++vc):=by
    refine⟨by simp only[Array.size_append,List.length_append,hf,hc]; rfl,fun i y v hy hv=>?_⟩
    rw[List.getElem?_append]at hy;rw[Array.getElem?_append]at hv;have hl2:(vf ++ #[Value.func (.yield (w1.heap.size+1)) #[] #[]]).size=(first++[AVal.yld σ1.m.next]).length:=by simp[hf]
    rw[hl2]at hv;split at hy
    ·rename_i h1;rw[if_pos h1]at hv;rw[List.getElem?_append]at hy;rw[Array.getElem?_append,hf]at hv;split at hy
     ·rename_i h3;rw[if_pos h3]at hv;exact(hfr i y v hy hv).ext eL
     ·rename_i h3;rw[if_neg h3]at hv;obtain⟨j,hj⟩:∃ j,j=i - first.length:=⟨_,rfl⟩
      rw[← hj]at hy hv;cases j with
      | zero=>
       simp only[List.getElem?_cons_zero,oI]at hy;have hv':Value.func (.yield (w1.heap.size+1)) #[] #[]=v:=by simpa using hv
       subst hy; subst hv';exact .yld _ ⟨w1.heap.size+1,0,0,0⟩ hnew
      | succ j=>simp at hy
    ·rename_i h1;rw[if_neg h1]at hv;exact(hcr _ y v hy hv).ext eL
   have hH:HLoop σ1.m.next (w1.heap.size+1) rec σ1.t ((W.setG w1.heap.size (.deferred (some []))).setG (w1.heap.size+1) (.loop rec)) Φ1 ρL:=
    ⟨Nat.le_trans r1.base.below.size (Nat.le_succ _),Base.setG_g _ _ _,by rw[hrec]; exact t1.ext eL,hnew⟩
   have hcalls:=hC _ Φ1 ρL hH _ _ r3 hRL;refine⟨w1.heap.size+1,[Zm3 w1.heap.size],(w1.alloc (.deferred (some []))).alloc (.loop rec),{ target:=.fn (.func gf) vc,args:=vf ++ #[.func (.yield (w1.heap.size+1)) #[] #[]] },(w1.alloc (.deferred (some []))).alloc (.loop rec),gf,vf ++ #[.func (.yield (w1.heap.size+1)) #[] #[]]++vc,(w1.alloc (.deferred (some []))).alloc (.loop rec),?_,?_,fun _ _=>trivial,?_,(fun hh=>absurd hh (by simp[Fence.wide])),?_⟩
   ·have:=run_enterLoop_outer (P:=P) (w:=w1) fn a1.tmps ps asn bd;rw[← hrec]at this;exact this
   ·simp only[resolve,rangeCall,hvv,Deferred.ofValue,Sem.run_pure];have he:(#[Operand.const (Value.func (.yield (w1.heap.size+1)) #[] #[])]:Array Operand).map a1.eval = #[.func (.yield (w1.heap.size+1)) #[] #[]]:=by
     simp[Act.eval]
    rw[he]
   ·simp only[invoke,callFunc];cases hb:fb.body with
    | none=>rw[hb]at hbody; cases hbody
    | some b=>simp[program,Sem.run,hfb,hb]; simpa using hname
   ·refine(callsIn_wide.2 hcalls:CallsIn Fence.wide (0 - 1) P gf _ _ _) |> fun hci=>⟨hci.1,fun cs hroom=>?_⟩
    obtain⟨e,w',fr,hS,s,x⟩:=hci.2 cs hroom;refine⟨e,w',fr,?_,s,x⟩;obtain⟨v,rr,m2,Φ2,ρ2,rfl,e2,k2,r4,_,n2,hy⟩:=hS;have kL:KeepN σ1.m.next ρ1 ρL:=fun b hb h0=>by rw[hold b (by omega)]; exact h0
    have n1':σ.m.next≤(σ1.m.at (σ1.m.next+1)).next:=by simp only[Mem.next_at]; omega
    have hw:=r4.base.prot _ _ (Base.setG_g _ _ _);have hrun:=run_endLoop (P:=P) hw (by rw[hrec]; simp)
    have hpend:rec.pending=none:=by rw[hrec]
    refine⟨none,w'.putObj (w1.heap.size+1) (.loop { rec with state:=.exhausted }),by rw[hrun,hpend],?_⟩
    have r5:=r4.putG (Base.setG_g _ _ _) hH.1 (by intro c e fz h; cases h) (.loop { rec with state:=.exhausted })
    rw[Base.setG_setG]at r5;have r6:=r5.dropG (by rw[Base.setG_other (by omega)]; exact r1.g_new (by omega))
    have hw1:=Zpi (P:=P) (n:=0) (D:=[Zm3 w1.heap.size]) Open.wide (H:=fun _ _ _=>True) (fun _ _ _ _ _ _ _=>trivial) (Zg0 Open.wide) (Zjl Open.wide) y _ _ hy (W.setG w1.heap.size (.deferred (some []))) Φ2 ρ2 trivial
     { a1 with defers:=[Zm3 w1.heap.size]++a1.defers } _ r6 ((t1.ext eL).ext e2) (by simp[d1])
    refine wpIn_mono hw1 ?_;rintro e a3 w3 ⟨σ3,Φ3,ρ3,e3,k3,n3,r7,t3,d3,q3⟩;have fin:K σ3→(e=.normal∨e=.ret)→endP W Φ ρ σ.m.next K e a3 w3:=fun hk he=>
     ⟨he,σ3,Φ3,ρ3,((e1.trans eL).trans e2).trans e3,((k1.trans kL n1).trans k2 n1').trans k3 (Nat.le_trans n1' n2),Nat.le_trans n1' (Nat.le_trans n2 n3),t3,hk,
      .inr ⟨w1.heap.size,d3,r1.base.below.size,r1.g_new (Nat.le_refl _),r7⟩⟩
    cases e with
    | normal=>exact fin q3 (.inl rfl)
    | ret=>exact fin q3 (.inr rfl)
    | exit i=>exact q3.elim
    | goto l=>exact q3.elim
    | panic ch=>exact q3.elim
    | outgrown=>exact q3.elim
theorem Zte{f:FuncId}{fn:Func}{c:Code}{rs:List (Nat×Option (Option Nat))}{args:List AVal}{m:Mem}{av:List Nat}{K:AVal→Mem→Prop}(hf:P.funcs[f]? = some fn)(hb:fn.body=some c)
 (hname:(fn.name == "runtime.NumGoroutine")=false) (hrs:Zal P fn.results.toList=some rs)
 (h:AR P c (fun σ=>match N7 σ.t σ.m rs with|some r=>K r σ.m|none=>False) ⟨args++List.replicate (fn.ntmps - args.length) aundef,m⟩):ACalls P f args m av K:=by
 refine⟨⟨fn,hf,hname,by rw[hb]; rfl⟩,fun W Φ ρ vs w hr ha hav=>?_⟩
 have hs:=h W Φ ρ { tmps:=vs++Array.replicate (fn.ntmps - vs.size) undef,defers:=[] } w hr (Zhh ha) rfl;refine callsIn_wide.1 (callsIn_of_wp_marks (n:=0) hf hb trivial (wpIn_mono hs ?_));rintro e a w' ⟨he,σ,Φ',ρ',h1,h2,h3,h5,h7,hcase⟩;have fin:∀ w2,Rel W Φ' ρ' σ.m w2→LeavesInM Fence.wide 0 P fn a.tmps (fun e w'=>∃ v r m' Φ' ρ',e=.returned v∧Ext Φ ρ Φ' ρ'∧(∀ b,b<m.next→b∉av→ρ b=none→ρ' b=none) ∧
  Rel W Φ' ρ' m' w'∧R Φ' ρ' r v∧m.next≤m'.next∧K r m') [] .returning w2:=by
  intro w2 h4;cases hz:N7 σ.t σ.m rs with
  | none=>simp[hz]at h7
  | some r=>
   simp only[hz]at h7;obtain⟨u,g1,g2⟩:=Zf1 h4 h5 hrs hz;exact⟨u,g1,u,r,σ.m,Φ',ρ',rfl,h1,fun b hb _ h0=>h2 b hb h0,h4,g2,h3,h7⟩
 have all:LeavesInM Fence.wide 0 P fn a.tmps (fun e w'=>∃ v r m' Φ' ρ',e=.returned v∧Ext Φ ρ Φ' ρ'∧(∀ b,b<m.next→b∉av→ρ b=none→ρ' b=none) ∧
  Rel W Φ' ρ' m' w'∧R Φ' ρ' r v∧m.next≤m'.next∧K r m') a.defers .returning w':=by
  rcases hcase with⟨hd,h4⟩|⟨D,hd,hD,hg,h4⟩
  ·rw[hd]; exact fin w' h4
  ·rw[hd];have hw:=h4.base.prot _ _ (Base.setG_g _ _ _);have r5:=(h4.putG (Base.setG_g _ _ _) hD (by intro c e fz h; cases h) (.deferred none))
   rw[Base.setG_setG]at r5;exact⟨by simp,.inl ⟨D,_,rfl,run_takeDeferred hw,fin _ (r5.dropG hg)⟩⟩
 rcases he with rfl|rfl
 ·exact all
 ·exact all
end
end Go.AE
end
section
namespace Go.AE
open Go.RowKit
def Q1(get:Nat→Option ABlk):AVal→Option (List AVal×Nat)
 | .ptr b i j=>match get b with
  | some (.cells _ els)=>match els[i]? with
   | some row=>some (row,j)
   | none=>none
  | _=>none
 | .iptr els i j=>match els[i]? with
  | some row=>some (row,j)
  | none=>none
 | _=>none
def T6(get:Nat→Option ABlk)(n:Option Nat)(x:AVal):Option AVal:=
 match Q1 get x with
 | some (row,j)=>match n with
  | none=>row[j]?
  | some n=>if 0<n∧j+n≤row.length then some (.agg ((row.drop j).take n))else none
 | none=>none
def R5(get:Nat→Option ABlk)(n:Nat)(x v:AVal):Option (List (Nat×Option ABlk)):=
 match x,v.cells with
 | .ptr b i j,some cs=>match get b with
  | some (.cells k els)=>match els[i]? with
   | some row=>if cs.length=n∧j+n≤row.length∧cs.all AVal.one then some [(b,some (.cells k (els.set i (U8 row j cs))))]else none
   | none=>none
  | _=>none
 | _,_=>none
def R2(get:Nat→Option ABlk)(k:Nat):AVal→Option (List (List AVal))
 | .nilSl | .emp=>some []
 | .imm els=>if els.all (·.length == k)then some els else none
 | .sl b off len=>match get b with
  | some (.cells k' els)=>if k'=k∧off+len≤els.length then some ((els.drop off).take len)else none
  | _=>if len=0 then some []else none
 | _=>none
def P9(get:Nat→Option ABlk)(k:Nat):AVal→Option (List (List AVal))
 | .str s=>if k=1 then some (s.map Zkb)else none
 | x=>R2 get k x
def Zaa(e:AOpd→AVal)(d:Nat):Option AOpd→Option Nat
 | none=>some d
 | some x=>V1 (e x)
def P7(id k bytes:Nat)(get:Nat→Option ABlk)(s:AVal)(xs:List (List AVal)):Option (AVal×List (Nat×Option ABlk)):=
 match s with
 | .nilSl=>if xs=[]then some (.nilSl,[])else if xs.length≤X4∧bytes≤X4 then some (.sl id 0 xs.length,[(id,some (.cells k xs))])else none
 | .emp=>if xs=[]then some (.emp,[])else if xs.length≤X4∧bytes≤X4 then some (.sl id 0 xs.length,[(id,some (.cells k xs))])else none
 | .sl b off len=>match get b with
  | some (.cells k' els)=>
   if k'=k∧off+len≤els.length∧(els.length=off+len∨off+len+xs.length≤els.length)then
    if off+len+xs.length≤els.length then
     some (.sl b off (len+xs.length),[(b,some (.cells k (els.take (off+len)++xs++els.drop (off+len+xs.length))))])
    else if len+xs.length≤X4∧bytes≤X4 then
     some (.sl id 0 (len+xs.length),[(b,none),(id,some (.cells k ((els.drop off).take len++xs)))])
    else none
   else none
  | _=>none
 | _=>none
def I6(e:AOpd→AVal)(len mxlen:Nat)(lo hi:Option AOpd):Option (Nat×Nat):=
 match Zaa e len hi with
 | some h=>if h≤mxlen then match Zaa e 0 lo with
  | some l=>if l≤h then some (l,h)else none
  | none=>none
  else none
 | none=>none
def stepD(id:Nat)(e:AOpd→AVal)(get:Nat→Option ABlk):AOp→Option (AVal×List (Nat×Option ABlk))
 | .mov x=>some (e x,[])
 | .pick c a b=>match e c with
  | .bool true=>some (e a,[])
  | .bool false=>some (e b,[])
  | _=>none
 | .box x=>match (e x).cells with
  | some cs=>if cs.all AVal.one then some (.ptr id 0 0,[(id,some (.cells cs.length [cs]))])else none
  | none=>none
 | .alloc zero=>some (.ptr id 0 0,[(id,some (.cells zero.length [zero]))])
 | .build zero parts=>match I4 zero (parts.map fun p=>(p.1,p.2.1,e p.2.2))with
  | some cs=>some (.agg cs,[])
  | none=>none
 | .mkSl k len zero parts=>match M8 k (List.replicate len zero) (parts.map fun p=>(p.1,e p.2))with
  | some els=>some (.sl id 0 len,[(id,some (.cells k els))])
  | none=>none
 | .load n x=>match T6 get n (e x)with
  | some v=>some (v,[])
  | none=>none
 | .store n a x=>match R5 get n (e a) (e x)with
  | some d=>some (aundef,d)
  | none=>none
 | .nilChk x=>match e x with
  | .ptr b i j=>some (.ptr b i j,[])
  | .iptr els i j=>some (.iptr els i j,[])
  | .func (.func f) a b=>some (.func (.func f) a b,[])
  | _=>none
 | .bin op q x y=>match X6 op q (e x) (e y)with
  | some v=>some (v,[])
  | none=>none
 | .un op x=>match unA op (e x)with
  | some v=>some (v,[])
  | none=>none
 | .convInt k x=>match e x with
  | .int _ n=>some (.int k (k.wrap n),[])
  | _=>none
 | .convId x=>match e x with
  | .str s=>some (.str s,[])
  | _=>none
 | .toStr x=>match R2 get 1 (e x)with
  | some rows=>match Zel rows with
   | some s=>some (.str s,[])
   | none=>none
  | none=>none
 | .mkFunc fn first captured=>some (.func fn (first.map e) (captured.map e),[])
 | .mkMap=>some (.map id,[(id,some (.map [] 0))])
 | .makeSl k bytes zero len cap=>match V1 (e len),V1 (e cap)with
  | some l,some c=>if l≤c∧c≤X4∧bytes≤X4 then some (.sl id 0 l,[(id,some (.cells k (List.replicate c zero)))])else none
  | _,_=>none
 | .slStr x lo hi=>match e x with
  | .str s=>match I6 e s.length s.length lo hi with
   | some (l,h)=>some (.str ((s.take h).drop l),[])
   | none=>none
  | _=>none
 | .slSl k x lo hi mx=>match mx with
  | some z=>match U9 (e x),Zaa e 0 (some z),Zaa e 0 lo,hi with
   | some n,some mx,some l,some h=>match V1 (e h)with
    | some h=>if l≤h∧h≤mx∧mx≤n then (if mx=0 then some (.emp,[])else some (.bot,[]))else none
    | none=>none
   | _,_,_,_=>none
  | none=>match e x with
   | .nilSl=>match I6 e 0 0 lo hi with
    | some _=>some (.nilSl,[])
    | none=>none
   | .emp=>match I6 e 0 0 lo hi with
    | some _=>some (.emp,[])
    | none=>none
   | .imm els=>if els.all (·.length == k)then match I6 e els.length els.length lo hi with
    | some (l,h)=>some (.imm ((els.take h).drop l),[])
    | none=>none
    else none
   | .sl b off len=>match get b with
    | some (.cells k' els)=>if k'=k∧off+len≤els.length then match I6 e len (els.length - off) lo hi with
     | some (l,h)=>some (.sl b (off+l) (h - l),[])
     | none=>none
     else none
    | _=>none
   | _=>none
 | .slArr ..=>none
 | .fieldA off x=>match R4 off (e x)with
  | some v=>some (v,[])
  | none=>none
 | .field off n x=>match e x with
  | .agg cs=>match Za1 cs off n with
   | some v=>some (v,[])
   | none=>none
  | _=>none
 | .idxA k x i=>match e x,V1 (e i)with
  | .sl b off len,some i=>match get b with
   | some (.cells k' _)=>if k'=k∧i<len then some (.ptr b (off+i) 0,[])else none
   | _=>none
  | .imm els,some i=>match els[i]? with
   | some row=>if row.length=k then some (.iptr els i 0,[])else none
   | none=>none
  | _,_=>none
 | .idxAA n k x i=>match V1 (e i)with
  | some i=>if i<n then match R4 (i*k) (e x)with
   | some v=>some (v,[])
   | none=>none
   else none
  | none=>none
 | .idxStr x i=>match e x,V1 (e i)with
  | .str s,some i=>match s[i]? with
   | some c=>some (.int .u8 c.toNat,[])
   | none=>none
  | _,_=>none
 | .idxArr n k sz x i=>match e x,V1 (e i)with
  | .agg cs,some i=>if i<n then match Za1 cs (i*k) sz with
   | some v=>some (v,[])
   | none=>none
   else none
  | _,_=>none
 | .lookup kt zero ok x i=>match (match e x with
  | .nilMap=>some []
  | .map b=>match get b with
   | some (.map es _)=>some es
   | _=>none
  | _=>none)with
  | some es=>match J5 kt (e i) es with
   | some r=>
    let v:=match r with
     | some (_,v,_)=>v
     | none=>zero
    some (if ok then .tuple [v,.bool r.isSome]else v,[])
   | none=>none
  | none=>none
 | .mapUpd kt mp k v=>match e mp with
  | .map b=>match get b with
   | some (.map es clock)=>match J5 kt (e k) es with
    | some (some (i,_,born))=>some (aundef,[(b,some (.map (es.set i (e k,e v,born)) clock))])
    | some none=>some (aundef,[(b,some (.map (es++[(e k,e v,clock)]) (clock+1)))])
    | none=>none
   | _=>none
  | _=>none
 | .mapEnt ..=>none
 | .entSt ..=>none
 | .delete ..=>none
 | .range _=>none
 | .nextS _=>none
 | .nextM _=>none
 | .ext x i=>match e x with
  | .tuple vs=>match vs[i]? with
   | some v=>some (v,[])
   | none=>none
  | _=>none
 | .call _ _=>none
 | .append k bytes _ s x=>match P9 get k (e x)with
  | some xs=>P7 id k bytes get (e s) xs
  | none=>none
 | .appendZ ..=>none
 | .copy k d s=>match e d,P9 get k (e s)with
  | .sl b off len,some xs=>match get b with
   | some (.cells k' els)=>if k'=k∧off+len≤els.length then
    let n:=min xs.length len
    some (.int .i64 n,[(b,some (.cells k (els.take off++xs.take n++els.drop (off+n))))])
    else none
   | _=>none
  | _,_=>none
 | .clear k zero x=>match e x with
  | .sl b off len=>match get b with
   | some (.cells k' els)=>if k'=k∧off+len≤els.length then
    some (aundef,[(b,some (.cells k (els.take off++List.replicate len zero++els.drop (off+len))))])
    else none
   | _=>none
  | .nilSl=>some (aundef,[])
  | .emp=>some (aundef,[])
  | _=>none
 | .lenStr x=>match e x with
  | .str s=>some (.int .i64 s.length,[])
  | _=>none
 | .lenSl x=>match U9 (e x)with
  | some n=>some (.int .i64 n,[])
  | none=>none
 | .lenMap x=>match e x with
  | .nilMap=>some (.int .i64 0,[])
  | .map b=>match get b with
   | some (.map es _)=>some (.int .i64 es.length,[])
   | _=>none
  | _=>none
 | .lenArr n=>some (.int .i64 n,[])
 | .capSl _=>none
 | .minmax mx xs=>match xs with
  | []=>none
  | x :: r=>match Zfj mx (e x) (r.map e)with
   | some v=>some (v,[])
   | none=>none
 | .iface ty x=>some (.iface ty (e x),[])
 | .dead=>none
def Mem.apply(m:Mem):List (Nat×Option ABlk)→Mem
 | []=>m
 | (b,some x) :: r=>(m.set b x).apply r
 | (b,none) :: r=>(m.del b).apply r
section
variable {m:Mem} {t:List AVal} {id:Nat}
theorem Yew(x:AVal):rowAt m x=Q1 m.get x:=by cases x<;>rfl
theorem Zpz(n:Option Nat)(x:AVal):Zb0 m n x=T6 m.get n x:=by simp only[Zb0,T6,Yew]; rfl
theorem Zon(k:Nat)(x:AVal):L3 m k x=R2 m.get k x:=by cases x<;>rfl
theorem Zpo(k:Nat)(x:AVal):O4 m k x=P9 m.get k x:=by cases x<;>first|rfl|exact Zon _ _
theorem Zua(d:Nat)(o:Option AOpd):H0 t d o=Zaa (ev t) d o:=by cases o<;>rfl
theorem Z1k(n mx:Nat)(lo hi:Option AOpd):D2 t n mx lo hi=I6 (ev t) n mx lo hi:=by
 simp only[D2,I6,Zua]; rfl
theorem Z3i{n:Nat}{x v:AVal}{d:List (Nat×Option ABlk)}(h:R5 m.get n x v=some d):Zen m n x v=some (m.apply d):=by
 cases x<;>simp only[R5]at h<;>first|(cases h; done)|skip
 rename_i b i j;cases hc:v.cells with
 | none=>simp[hc]at h
 | some cs=>
  simp only[hc]at h;cases hg:m.get b with
  | none=>simp[hg]at h
  | some blk=>
   cases blk<;>simp only[hg]at h<;>first|(cases h; done)|skip
   rename_i k els;cases hr:els[i]? with
   | none=>simp[hr]at h
   | some row=>
    simp only[hr]at h;split at h<;>first|(cases h; done)|skip
    rename_i hcond;injection h with h
    subst h;simp only[Zen,hc,hg,hr];rw[if_pos hcond];rfl
theorem Z7s{k bytes:Nat}{s:AVal}{xs:List (List AVal)}{r:AVal}{d:List (Nat×Option ABlk)}(h:P7 id k bytes m.get s xs=some (r,d)):J6 id k bytes m s xs=some (r,m.apply d):=by
 cases s<;>simp only[P7]at h<;>first|(cases h; done)|skip
 ·split at h
  ·rename_i h0;cases h;simp only[J6,h0,if_true,Mem.apply]
  ·rename_i h0;split at h<;>first|(cases h; done)|skip
   rename_i h1;cases h;simp only[J6,h0,if_false];rw[if_pos h1];rfl
 ·split at h
  ·rename_i h0;cases h;simp only[J6,h0,if_true,Mem.apply]
  ·rename_i h0;split at h<;>first|(cases h; done)|skip
   rename_i h1;cases h;simp only[J6,h0,if_false];rw[if_pos h1];rfl
 ·rename_i b off len;cases hg:m.get b with
  | none=>simp[hg]at h
  | some blk=>
   cases blk<;>simp only[hg]at h<;>first|(cases h; done)|skip
   rename_i k' els;split at h<;>first|(cases h; done)|skip
   rename_i hc;simp only[J6,hg];rw[if_pos hc];split at h
   ·rename_i h1;rw[if_pos h1];cases h;rfl
   ·rename_i h1;rw[if_neg h1];split at h<;>first|(cases h; done)|skip
    rename_i h2;rw[if_pos h2];cases h;rfl
theorem Zam{op:AOp}{v:AVal}{d:List (Nat×Option ABlk)}(h:stepD id (ev t) m.get op=some (v,d)):stepA id t m op=some (v,m.apply d):=by
 cases op with
 | store n a x=>
  simp only[stepD]at h;split at h<;>first|(cases h; done)|skip
  rename_i d' hd;cases h;simp only[stepA,Z3i hd]
 | append k bytes z s x=>
  simp only[stepD]at h;split at h<;>first|(cases h; done)|skip
  rename_i xs hxs;simp only[stepA,Zpo,hxs];exact Z7s h
 | lookup kt z ok x i=>
  simp only[stepD]at h;simp only[stepA];generalize ev t x=y at *;cases y<;>simp only at h ⊢ <;> first|(cases h; done)|skip
  case map b=>
   cases hg:m.get b with
   | none=>simp[hg]at h
   | some blk=>
    cases blk<;>simp only[hg]at h ⊢ <;> first|(cases h; done)|skip
    split at h<;>first|(cases h; done)|skip
    rename_i hf;cases h;simp only[hf,Mem.apply];rfl
  all_goals
   split at h<;>first|(cases h; done)|skip
   rename_i hf;cases h;simp only[hf,Mem.apply];rfl
 | _=>
  simp only[stepD]at h
  first
   | (cases h; done)
   | (cases h; rfl)
   | ((repeat' (split at h<;>first|(cases h; done)|skip))<;>(cases h; simp_all[stepA,Mem.apply,Zpz,Zon,Zpo,Z1k,Zua]; try omega))
end
end Go.AE
end
section
namespace Go.AE
open Go.RowKit
inductive Tr (α:Type) where
 | nil
 | node (l:Tr α) (v:Option α) (r:Tr α)
def Tr.get{α:Type}:Tr α→Nat→Option α
 | .nil,_=>none
 | .node l v r,n=>bif Nat.beq n 0 then v else bif Nat.beq (Nat.mod n 2) 1 then l.get (Nat.div n 2)else r.get (Nat.sub (Nat.div n 2) 1)
def Tr.set{α:Type}:Nat→Tr α→Nat→Option α→Tr α
 | 0,t,_,_=>t
 | d+1,.nil,n,x=>bif Nat.beq n 0 then .node .nil x .nil else bif Nat.beq (Nat.mod n 2) 1 then .node (Tr.set d .nil (Nat.div n 2) x) none .nil else .node .nil none (Tr.set d .nil (Nat.sub (Nat.div n 2) 1) x)
 | d+1,.node l v r,n,x=>bif Nat.beq n 0 then .node l x r else bif Nat.beq (Nat.mod n 2) 1 then .node (Tr.set d l (Nat.div n 2) x) v r else .node l v (Tr.set d r (Nat.sub (Nat.div n 2) 1) x)
abbrev depth:Nat:=22
abbrev bound:Nat:=1000000
structure TM where
 tr:Tr ABlk
 next:Nat
def TM.mem(m:TM):Mem:=⟨m.tr.get,m.next⟩
def TM.set(m:TM)(b:Nat)(x:Option ABlk):TM:=⟨m.tr.set depth b x,m.next⟩
def TM.apply(m:TM):List (Nat×Option ABlk)→TM
 | []=>m
 | (b,x) :: r=>(m.set b x).apply r
def evT(t:Tr AVal):AOpd→AVal
 | .tmp i=>match t.get i with
  | some v=>v
  | none=>aundef
 | .const v=>v
 | .fn f=>.func (.func f) [] []
def R0(t:Tr AVal)(d:Option Nat)(v:AVal):Tr AVal:=
 match d with
 | some d=>t.set depth d (some v)
 | none=>t
def Zfw(t:Tr AVal):Option (Nat×Bool)→Option Bool
 | none=>some true
 | some (d,w)=>match evT t (.tmp d)with
  | .bool b=>some (b == w)
  | .tuple []=>some false
  | _=>none
def Zg5(t:Tr AVal)(f:AOpd)(xs:List AOpd):Option (FuncId×List AVal):=
 match evT t f with
 | .func (.func g) first cap=>some (g,first++xs.map (evT t)++cap)
 | _=>none
structure RS where
 t:Tr AVal
 m:TM
 wl:List Nat
def okD:List (Nat×Option ABlk)→Bool
 | []=>true
 | (b,_) :: r=>bif Nat.ble bound b then false else okD r
def okX(id:Nat):List Nat→Bool
 | []=>true
 | c :: r=>bif Nat.ble bound c then false else bif Nat.beq c id then false else okX id r
def addW(lim:Nat)(wl:List Nat):List (Nat×Option ABlk)→List Nat
 | []=>wl
 | (b,_) :: r=>bif Nat.ble lim b then addW lim wl r else addW lim (b :: wl) r
def addL(lim:Nat)(wl:List Nat):List Nat→List Nat
 | []=>wl
 | b :: r=>bif Nat.ble lim b then addL lim wl r else addL lim (b :: wl) r
abbrev Caller:=FuncId→List AVal→TM→Option (AVal×TM×List Nat)
def E9(x:Nat):List Nat→Bool
 | []=>false
 | y :: r=>bif Nat.beq x y then true else E9 x r
def Zev:List Nat→List Nat→Bool
 | [],_=>true
 | x :: r,l=>bif E9 x l then false else Zev r l
def Zf0(n:Nat):List Nat→Bool
 | []=>true
 | x :: r=>bif Nat.ble n x then false else Zf0 n r
def subB:List Nat→List Nat→Bool
 | [],_=>true
 | x :: r,l=>bif E9 x l then subB r l else false
def FT.indepB:FT→FT→Bool
 | .ops w r,.ops w' r'=>Zev w (r'++w')&&Zev r w'
 | .ops w r,.call wl x nx=>Zev r wl&&Zf0 nx r&&Zev w wl&&Zf0 nx w&&subB w x
 | .call wl x nx,.ops w r=>Zev r wl&&Zf0 nx r&&Zev w wl&&Zf0 nx w&&subB w x
 | .call _ _ _,.call _ _ _=>false
def Zfr(fs:List FT)(ft:FT):List Nat→Bool
 | []=>true
 | i :: r=>FT.indepB (fs.getD i (.ops [] [])) ft&&Zfr fs ft r
def runP(call:Caller)(lim base:Nat):List AOper→Nat→RS→Option RS
 | [],_,s=>some s
 | o :: r,i,s=>
  match Zfw s.t o.guard with
  | some false=>runP call lim base r (i+1) { s with t:=R0 s.t o.dst aundef }
  | some true=>
   match o.op with
   | .call f xs=>match Zg5 s.t f xs with
    | some (g,args)=>match call g args s.m with
     | some (v,m',wl)=>runP call lim base r (i+1) ⟨R0 s.t o.dst v,m',addL lim s.wl wl⟩
     | none=>none
    | none=>none
   | op=>match stepD (base+i) (evT s.t) s.m.tr.get op with
    | some (v,[])=>runP call lim base r (i+1) ⟨R0 s.t o.dst v,s.m,s.wl⟩
    | some (v,d)=>bif okD d then runP call lim base r (i+1) ⟨R0 s.t o.dst v,s.m.apply d,addW lim s.wl d⟩ else none
    | none=>none
  | none=>none
def Zlv(base i:Nat):List AOper→Nat→List Nat
 | [],_=>[]
 | o :: r,j=>bif E9 i o.un then (base+j) :: Zlv base i r (j+1)else Zlv base i r (j+1)
def Zaf(m:TM):List Nat→TM
 | []=>m
 | c :: r=>Zaf (m.set c none) r
def Zdu(m0:TM):TM→List Nat→TM
 | m,[]=>m
 | m,c :: r=>Zdu m0 (m.set c (m0.tr.get c)) r
def Zjf(m:TM):List Nat→Bool
 | []=>true
 | c :: r=>match m.tr.get c with
  | none=>Zjf m r
  | some _=>false
def V9(id:Nat)(e:AOpd→AVal):AOp→List Nat
 | .append _ _ _ s _=>id :: Y8 (e s)
 | .copy _ d _=>Y8 (e d)
 | .store _ a _=>Y8 (e a)
 | .mapUpd _ m _ _=>Y8 (e m)
 | .clear _ _ x=>Y8 (e x)
 | .box _ | .alloc _ | .mkSl _ _ _ _ | .mkMap | .makeSl _ _ _ _ _=>[id]
 | _=>[]
def V8(e:AOpd→AVal):AOp→List Nat
 | .append _ _ _ _ x=>Y8 (e x)
 | .copy _ _ s=>Y8 (e s)
 | .load _ x | .toStr x | .lookup _ _ _ x _ | .lenMap x | .slSl _ x _ _ _ | .idxA _ x _=>Y8 (e x)
 | _=>[]
def runD(call:Caller)(lim base:Nat):List AOper→List FT→RS→Option RS
 | [],_,s=>some s
 | o :: r,fs,s=>
  match Zfw s.t o.guard with
  | some false=>runD call lim base r (fs++[.ops [] []]) { s with t:=R0 s.t o.dst aundef }
  | some true=>
   match o.op with
   | .call f xs=>match Zg5 s.t f xs with
    | some (g,args)=>
     let x:=o.un.map (base + ·)++Zlv base fs.length r (fs.length+1)
     match call g args (Zaf s.m x)with
     | some (v,m',wl)=>bif Zfr fs (.call wl x s.m.next) o.un&&okX (base+fs.length) x&&Zjf m' x then runD call lim base r (fs++[.call wl x s.m.next]) ⟨R0 s.t o.dst v,Zdu s.m m' x,addL lim s.wl wl⟩ else none
     | none=>none
    | none=>none
   | op=>match stepD (base+fs.length) (evT s.t) s.m.tr.get op with
    | some (v,d)=>
     let ft:=FT.ops (V9 (base+fs.length) (evT s.t) op) (V8 (evT s.t) op)
     bif Zfr fs ft o.un&&okD d then runD call lim base r (fs++[ft]) ⟨R0 s.t o.dst v,s.m.apply d,addW lim s.wl d⟩ else none
    | none=>none
  | none=>none
inductive REnd where
 | normal
 | exit (n:Nat)
 | ret
def T7(call:Caller)(lim:Nat):Nat→ACode→RS→Option (REnd×RS)
 | 0,_,_=>none
 | f+1,c,s=>
  match c with
  | .skip | .label _=>some (.normal,s)
  | .region false ops=>
   bif Nat.ble (s.m.next+ops.length) bound then match runP call lim s.m.next ops 0 ⟨s.t,⟨s.m.tr,s.m.next+ops.length⟩,s.wl⟩ with
    | some s'=>some (.normal,s')
    | none=>none
   else none
  | .region true ops=>
   bif Nat.ble (s.m.next+ops.length) bound then match runD call lim s.m.next ops [] ⟨s.t,⟨s.m.tr,s.m.next+ops.length⟩,s.wl⟩ with
    | some s'=>some (.normal,s')
    | none=>none
   else none
  | .seq a b=>match T7 call lim f a s with
   | some (.normal,s')=>T7 call lim f b s'
   | r=>r
  | .cond c a b=>match evT s.t c with
   | .bool true=>T7 call lim f a s
   | .bool false=>T7 call lim f b s
   | _=>none
  | .block id c=>match T7 call lim f c s with
   | some (.exit n,s')=>bif Nat.beq n id then some (.normal,s')else some (.exit n,s')
   | r=>r
  | .loop c=>match T7 call lim f c s with
   | some (.normal,s')=>T7 call lim f (.loop c) s'
   | r=>r
  | .exit n=>some (.exit n,s)
  | .scope c=>T7 call lim f c s
  | .ret=>some (.ret,s)
  | .bad=>none
def Zi3(t:Tr AVal)(m:TM):Nat×Option (Option Nat)→Option AVal
 | (i,none)=>some (evT t (.tmp i))
 | (i,some n)=>T6 m.tr.get n (evT t (.tmp i))
def Zl1(t:Tr AVal)(m:TM):List (Nat×Option (Option Nat))→Option (List AVal)
 | []=>some []
 | x :: r=>match Zi3 t m x,Zl1 t m r with
  | some y,some ys=>some (y :: ys)
  | _,_=>none
def A7(t:Tr AVal)(m:TM):List (Nat×Option (Option Nat))→Option AVal
 | [x]=>Zi3 t m x
 | xs=>match Zl1 t m xs with
  | some ys=>some (.tuple ys)
  | none=>none
def J8:Tr AVal→Nat→List AVal→Tr AVal
 | t,_,[]=>t
 | t,i,x :: r=>J8 (t.set depth i (some x)) (i+1) r
def runF(tab:Nat→Option AFn)(orc:Caller):Nat→Caller
 | 0,_,_,_=>none
 | f+1,g,args,m=>
  match orc g args m with
  | some r=>some r
  | none=>match tab g with
   | some af=>bif Nat.ble args.length af.ntmps then match T7 (runF tab orc f) m.next 1000 af.body ⟨J8 .nil 0 args,m,[]⟩ with
    | some (.exit _,_)=>none
    | some (_,s)=>match A7 s.t s.m af.results with
     | some v=>some (v,s.m,s.wl)
     | none=>none
    | none=>none
    else none
   | none=>none
def O9(n:Nat):ACode→Bool
 | .region _ ops=>ops.all fun o=>match o.dst with
  | some d=>decide (d<n)
  | none=>true
 | .seq a b | .cond _ a b=>O9 n a&&O9 n b
 | .block _ c | .loop c | .scope c=>O9 n c
 | _=>true
end Go.AE
end
section
namespace Go.AE
open Go.RowKit
theorem Tr.get_nil{α:Type}(n:Nat):(Tr.nil:Tr α).get n=none:=rfl
theorem Tr.get_node{α:Type}(l:Tr α)(v:Option α)(r:Tr α)(n:Nat):(Tr.node l v r).get n=if n=0 then v else if n % 2=1 then l.get (n / 2)else r.get (n / 2 - 1):=by
 show(bif Nat.beq n 0 then v else bif Nat.beq (n % 2) 1 then l.get (n / 2)else r.get (n / 2 - 1))=_
 by_cases h0:n=0
 ·subst h0; rfl
 ·have e0:Nat.beq n 0=false:=by
   cases hq:Nat.beq n 0 with
   | false=>rfl
   | true=>exact absurd (Nat.eq_of_beq_eq_true hq) h0
  rw[if_neg h0,e0];simp only[cond_false];by_cases h1:n % 2=1
  ·rw[if_pos h1,h1]; rfl
  ·rw[if_neg h1];have:Nat.beq (n % 2) 1=false:=by
    cases hq:Nat.beq (n % 2) 1 with
    | false=>rfl
    | true=>exact absurd (Nat.eq_of_beq_eq_true hq) h1
   rw[this]; rfl
theorem Tr.set_nil{α:Type}(d n:Nat)(x:Option α):Tr.set (d+1) .nil n x=if n=0 then .node .nil x .nil else if n % 2=1 then .node (Tr.set d .nil (n / 2) x) none .nil else .node .nil none (Tr.set d .nil (n / 2 - 1) x):=by
 show(bif Nat.beq n 0 then _ else bif Nat.beq (n % 2) 1 then _ else _)=_
 by_cases h0:n=0
 ·subst h0; rfl
 ·have e0:Nat.beq n 0=false:=by
   cases hq:Nat.beq n 0 with
   | false=>rfl
   | true=>exact absurd (Nat.eq_of_beq_eq_true hq) h0
  rw[if_neg h0,e0];simp only[cond_false];by_cases h1:n % 2=1
  ·rw[if_pos h1,h1]; rfl
  ·have e1:Nat.beq (n % 2) 1=false:=by
    cases hq:Nat.beq (n % 2) 1 with
    | false=>rfl
    | true=>exact absurd (Nat.eq_of_beq_eq_true hq) h1
   rw[if_neg h1,e1]; rfl
theorem Tr.set_node{α:Type}(d n:Nat)(l:Tr α)(v:Option α)(r:Tr α)(x:Option α):Tr.set (d+1) (.node l v r) n x=if n=0 then .node l x r else if n % 2=1 then .node (Tr.set d l (n / 2) x) v r else .node l v (Tr.set d r (n / 2 - 1) x):=by
 show(bif Nat.beq n 0 then _ else bif Nat.beq (n % 2) 1 then _ else _)=_
 by_cases h0:n=0
 ·subst h0; rfl
 ·have e0:Nat.beq n 0=false:=by
   cases hq:Nat.beq n 0 with
   | false=>rfl
   | true=>exact absurd (Nat.eq_of_beq_eq_true hq) h0
  rw[if_neg h0,e0];simp only[cond_false];by_cases h1:n % 2=1
  ·rw[if_pos h1,h1]; rfl
  ·have e1:Nat.beq (n % 2) 1=false:=by
    cases hq:Nat.beq (n % 2) 1 with
    | false=>rfl
    | true=>exact absurd (Nat.eq_of_beq_eq_true hq) h1
   rw[if_neg h1,e1]; rfl
theorem Tr.get_set{α:Type}:∀ (d:Nat) (t:Tr α) (n:Nat) (x:Option α) (k:Nat),n+1<2 ^ d→(Tr.set d t n x).get k=if k=n then x else t.get k
 | 0,_,n,_,_,h=>by simp at h
 | d+1,t,n,x,k,h=>by
  rw[Nat.pow_succ]at h;cases t with
  | nil=>
   rw[Tr.set_nil,Tr.get_nil];by_cases h0:n=0
   ·subst h0;rw[if_pos rfl,Tr.get_node,Tr.get_nil,Tr.get_nil];split<;>simp
   ·rw[if_neg h0];by_cases h1:n % 2=1
    ·rw[if_pos h1,Tr.get_node,Tr.get_nil];by_cases hk0:k=0
     ·subst hk0; rw[if_pos rfl,if_neg (by omega)]
     ·rw[if_neg hk0];by_cases hk1:k % 2=1
      ·rw[if_pos hk1,Tr.get_set d .nil (n / 2) x (k / 2) (by omega),Tr.get_nil]
       by_cases hkn:k=n
       ·subst hkn; simp
       ·rw[if_neg hkn,if_neg (by omega)]
      ·rw[if_neg hk1,if_neg (by omega)]
    ·rw[if_neg h1,Tr.get_node,Tr.get_nil];by_cases hk0:k=0
     ·subst hk0; rw[if_pos rfl,if_neg (by omega)]
     ·rw[if_neg hk0];by_cases hk1:k % 2=1
      ·rw[if_pos hk1,if_neg (by omega)]
      ·rw[if_neg hk1,Tr.get_set d .nil (n / 2 - 1) x (k / 2 - 1) (by omega),Tr.get_nil]
       by_cases hkn:k=n
       ·subst hkn; simp
       ·rw[if_neg hkn,if_neg (by omega)]
  | node l v r=>
   rw[Tr.set_node,Tr.get_node];by_cases h0:n=0
   ·subst h0;rw[if_pos rfl,Tr.get_node];by_cases hk0:k=0<;>simp[hk0]
   ·rw[if_neg h0];by_cases h1:n % 2=1
    ·rw[if_pos h1,Tr.get_node];by_cases hk0:k=0
     ·subst hk0; rw[if_pos rfl,if_pos rfl,if_neg (by omega)]
     ·rw[if_neg hk0,if_neg hk0];by_cases hk1:k % 2=1
      ·rw[if_pos hk1,if_pos hk1,Tr.get_set d l (n / 2) x (k / 2) (by omega)]
       by_cases hkn:k=n
       ·subst hkn; simp
       ·rw[if_neg hkn,if_neg (by omega)]
      ·rw[if_neg hk1,if_neg hk1,if_neg (by omega)]
    ·rw[if_neg h1,Tr.get_node];by_cases hk0:k=0
     ·subst hk0; rw[if_pos rfl,if_pos rfl,if_neg (by omega)]
     ·rw[if_neg hk0,if_neg hk0];by_cases hk1:k % 2=1
      ·rw[if_pos hk1,if_pos hk1,if_neg (by omega)]
      ·rw[if_neg hk1,if_neg hk1,Tr.get_set d r (n / 2 - 1) x (k / 2 - 1) (by omega)]
       by_cases hkn:k=n
       ·subst hkn; simp
       ·rw[if_neg hkn,if_neg (by omega)]
theorem Ze8{b:Nat}(h:b<bound):b+1<2 ^ depth:=by
 simp only[bound,depth]at *;omega
theorem TM.set_mem_some{m:TM}{b:Nat}{x:ABlk}(h:b<bound):(m.set b (some x)).mem=m.mem.set b x:=
 Mem.ext' (fun c=>by simp only[TM.mem,TM.set,Mem.get_set,Tr.get_set depth _ b _ c (Ze8 h)]) rfl
theorem TM.set_mem_none{m:TM}{b:Nat}(h:b<bound):(m.set b none).mem=m.mem.del b:=
 Mem.ext' (fun c=>by simp only[TM.mem,TM.set,Mem.get_del,Tr.get_set depth _ b _ c (Ze8 h)]) rfl
theorem Zid{a b:Nat}(h:Nat.ble a b=false):b<a:=by
 rcases Nat.lt_or_ge b a with h'|h'
 ·exact h'
 ·rw[Nat.ble_eq_true_of_le h']at h; cases h
theorem Zux{b:Nat}{x:Option ABlk}{r:List (Nat×Option ABlk)}(h:okD ((b,x) :: r)=true):b<bound∧okD r=true:=by
 simp only[okD]at h;cases hb:Nat.ble bound b with
 | true=>rw[hb]at h; cases h
 | false=>rw[hb]at h; exact⟨Zid hb,h⟩
theorem TM.apply_mem:∀ (d:List (Nat×Option ABlk)) (m:TM),okD d=true→(m.apply d).mem=m.mem.apply d
 | [],m,_=>rfl
 | (b,none) :: r,m,h=>by
  obtain⟨h1,h2⟩:=Zux h;simp only[TM.apply,Mem.apply];rw[TM.apply_mem r _ h2,TM.set_mem_none h1]
 | (b,some x) :: r,m,h=>by
  obtain⟨h1,h2⟩:=Zux h;simp only[TM.apply,Mem.apply];rw[TM.apply_mem r _ h2,TM.set_mem_some h1]
theorem TM.apply_next:∀ (d:List (Nat×Option ABlk)) (m:TM),(m.apply d).next=m.next
 | [],_=>rfl
 | (b,x) :: r,m=>by simp only[TM.apply]; rw[TM.apply_next r]; rfl
theorem Zgt{lim:Nat}:∀ (d:List (Nat×Option ABlk)) (wl:List Nat) (m:Mem) (c:Nat),c<lim→c∉addW lim wl d→c∉wl∧(m.apply d).get c=m.get c
 | [],wl,m,c,_,h=>⟨h,rfl⟩
 | (b,x) :: r,wl,m,c,hc,h=>by
  simp only[addW]at h;have key:∀ m':Mem,(c≠b→m'.get c=m.get c)→c≠b→(m'.apply r).get c=m'.get c→(m'.apply r).get c=m.get c:=fun m' h1 h2 h3=>by rw[h3,h1 h2]
  cases hb:Nat.ble lim b with
  | true=>
   rw[hb]at h;have hne:c≠b:=by
    have:=Nat.le_of_ble_eq_true hb;omega
   cases x with
   | none=>
    obtain⟨h1,h2⟩:=Zgt r wl (m.del b) c hc h;exact⟨h1,by simp only[Mem.apply]; rw[h2]; simp[hne]⟩
   | some y=>
    obtain⟨h1,h2⟩:=Zgt r wl (m.set b y) c hc h;exact⟨h1,by simp only[Mem.apply]; rw[h2]; simp[hne]⟩
  | false=>
   rw[hb]at h;cases x with
   | none=>
    obtain⟨h1,h2⟩:=Zgt r (b :: wl) (m.del b) c hc h;simp only[List.mem_cons,not_or]at h1;exact⟨h1.2,by simp only[Mem.apply]; rw[h2]; simp[h1.1]⟩
   | some y=>
    obtain⟨h1,h2⟩:=Zgt r (b :: wl) (m.set b y) c hc h;simp only[List.mem_cons,not_or]at h1;exact⟨h1.2,by simp only[Mem.apply]; rw[h2]; simp[h1.1]⟩
theorem Zh6{lim:Nat}:∀ (d wl:List Nat) (c:Nat),c<lim→c∉addL lim wl d→c∉wl∧c∉d
 | [],wl,c,_,h=>⟨h,by simp⟩
 | b :: r,wl,c,hc,h=>by
  simp only[addL]at h;cases hb:Nat.ble lim b with
  | true=>
   rw[hb]at h;have:=Nat.le_of_ble_eq_true hb;obtain⟨h1,h2⟩:=Zh6 r wl c hc h;exact⟨h1,by simp only[List.mem_cons,not_or]; exact⟨by omega,h2⟩⟩
  | false=>
   rw[hb]at h;obtain⟨h1,h2⟩:=Zh6 r (b :: wl) c hc h;simp only[List.mem_cons,not_or]at h1;exact⟨h1.2,by simp only[List.mem_cons,not_or]; exact⟨h1.1,h2⟩⟩
def toL(n:Nat)(t:Tr AVal):List AVal:=(List.range n).map fun i=>evT t (.tmp i)
def TOk(n:Nat)(t:Tr AVal):Prop:=∀ i,n≤i→t.get i=none
theorem Zi6(n:Nat)(t:Tr AVal):(toL n t).length=n:=by simp[toL]
theorem Zmk{n:Nat}{t:Tr AVal}{i:Nat}(h:i<n):(toL n t)[i]? = some (evT t (.tmp i)):=by
 simp[toL,h]
theorem Zbq{n:Nat}{t:Tr AVal}(ht:TOk n t):ev (toL n t)=evT t:=by
 funext x
 cases x with
 | tmp i=>
  rcases Nat.lt_or_ge i n with h|h
  ·simp only[ev,List.getD,Zmk h,Option.getD_some]
  ·have e1:(toL n t)[i]? = none:=List.getElem?_eq_none (by rw[Zi6]; exact h)
   simp only[ev,List.getD,e1,evT,ht i h,Option.getD_none]
 | const v=>rfl
 | fn f=>rfl
theorem Zdo{n:Nat}{t:Tr AVal}{d:Option Nat}{v:AVal}(hn:n≤bound)(ht:TOk n t)(hd:∀ k,d=some k→k<n):TOk n (R0 t d v)∧toL n (R0 t d v)=put (toL n t) d v:=by
 cases d with
 | none=>exact ⟨ht,rfl⟩
 | some k=>
  have hk:=hd k rfl;have hs:=Tr.get_set depth t k (some v);have hb:k+1<2 ^ depth:=Ze8 (by omega)
  refine⟨fun i hi=>?_,?_⟩
  ·simp only[R0];rw[hs i hb,if_neg (by omega)]
   exact ht i hi
  ·apply List.ext_getElem?;intro i;simp only[put];rw[List.getElem?_set];rcases Nat.lt_or_ge i n with h|h
   ·rw[Zmk h,Zmk h];by_cases hki:k=i
    ·subst hki;rw[if_pos rfl,if_pos (by rw[Zi6]; exact hk)]
     simp only[R0,evT];rw[hs k hb,if_pos rfl]
    ·rw[if_neg hki];simp only[R0,evT];rw[hs i hb,if_neg (fun e=>hki e.symm)]
   ·rw[List.getElem?_eq_none (by rw[Zi6]; exact h),List.getElem?_eq_none (by rw[Zi6]; exact h)]
    rw[if_neg (by omega)]
end Go.AE
end
section
namespace Go.AE
open Go.RowKit
variable {P:Program}
def P5(P:Program)(call:Caller):Prop:=
 ∀ g args m v m' wl,call g args m=some (v,m',wl)→m.next≤m'.next∧(∀ c,c<m.next→c∉wl→m'.mem.get c=m.mem.get c) ∧
  ∀ id,ACalls P g args m.mem [id] fun r m''=>r=v∧m''=m'.mem
theorem Zoj{n:Nat}{t:Tr AVal}(ht:TOk n t)(g:Option (Nat×Bool)):R7 (toL n t) g=Zfw t g:=by
 cases g with
 | none=>rfl
 | some dw=>
  obtain⟨d,w⟩:=dw;have:(toL n t).getD d aundef=evT t (.tmp d):=by
   have:=congrFun (Zbq ht) (.tmp d);exact this
  simp only[R7,Zfw,this];rfl
theorem Zxa{n:Nat}{t:Tr AVal}(ht:TOk n t)(f:AOpd)(xs:List AOpd):callee (toL n t) f xs=Zg5 t f xs:=by
 simp only[callee,Zg5,Zbq ht];rfl
theorem Ziq{n id:Nat}{t:Tr AVal}{m:TM}{op:AOp}{v:AVal}{d:List (Nat×Option ABlk)}(ht:TOk n t)(h:stepD id (evT t) m.tr.get op=some (v,d))(hd:okD d=true) :
 stepA id (toL n t) m.mem op=some (v,(m.apply d).mem):=by
 rw[TM.apply_mem d m hd];refine Zam ?_;rw[Zbq ht];exact h
def RS.st(n:Nat)(s:RS):ASt:=⟨toL n s.t,s.m.mem⟩
structure RunOk (n lim:Nat) (s s':RS):Prop where
 t:TOk n s'.t
 next:s.m.next≤s'.m.next
 keep:∀ c,c<lim→c∉s'.wl→c∉s.wl∧s'.m.mem.get c=s.m.mem.get c
theorem RunOk.trans{n lim:Nat}{a b c:RS}(h:RunOk n lim a b)(h':RunOk n lim b c):RunOk n lim a c:=
 ⟨h'.t,Nat.le_trans h.next h'.next,fun x hx hw=>by
  obtain⟨h1,h2⟩:=h'.keep x hx hw;obtain⟨h3,h4⟩:=h.keep x hx h1;exact⟨h3,h2.trans h4⟩⟩
theorem Zq9{n:Nat}{o:AOper}(h:(match o.dst with|some d=>decide (d<n)|none=>true)=true):∀ k,o.dst=some k→k<n:=by
 intro k hk;rw[hk]at h;simpa using h
theorem Zi0{call:Caller}(hcall:P5 P call){n lim base:Nat}(hn:n≤bound):∀ (ops:List AOper) (i:Nat) (s s':RS),TOk n s.t→lim≤s.m.next →
 (ops.all fun o=>match o.dst with|some d=>decide (d<n)|none=>true)=true→runP call lim base ops i s=some s' →
 RunOk n lim s s' ∧ ∀ K:ASt→Prop,K (s'.st n)→N6 P base ops i K (toL n s.t) s.m.mem
 | [],i,s,s',ht,_,_,h=>by
  simp only[runP,oI]at h;subst h;exact⟨⟨ht,Nat.le_refl _,fun c _ hw=>⟨hw,rfl⟩⟩,fun K hK=>hK⟩
 | o :: r,i,s,s',ht,hlim,hd,h=>by
  simp only[List.all_cons,bA]at hd;obtain⟨hd1,hd2⟩:=hd;have hdst:=Zq9 hd1;simp only[runP]at h;cases hw:Zfw s.t o.guard with
  | none=>simp[hw]at h
  | some q=>
   have hwA:R7 (toL n s.t) o.guard=some q:=by rw[Zoj ht]; exact hw
   cases q with
   | false=>
    simp only[hw]at h;obtain⟨p1,p2⟩:=Zdo (v:=aundef) hn ht hdst;obtain⟨h1,h2⟩:=Zi0 hcall hn r (i+1) ⟨R0 s.t o.dst aundef,s.m,s.wl⟩ s' p1 hlim hd2 h;refine⟨⟨h1.t,h1.next,h1.keep⟩,fun K hK=>?_⟩
    simp only[N6,hwA];rw[← p2];exact h2 K hK
   | true=>
    simp only[hw]at h;have other:(∀ f xs,o.op≠.call f xs)→(match stepD (base+i) (evT s.t) s.m.tr.get o.op with
     | some (v,[])=>runP call lim base r (i+1) ⟨R0 s.t o.dst v,s.m,s.wl⟩
     | some (v,d)=>bif okD d then runP call lim base r (i+1) ⟨R0 s.t o.dst v,s.m.apply d,addW lim s.wl d⟩ else none
     | none=>none)=some s'→RunOk n lim s s' ∧ ∀ K:ASt→Prop,K (s'.st n) → ∃ v m',stepA (base+i) (toL n s.t) s.m.mem o.op=some (v,m')∧N6 P base r (i+1) K (put (toL n s.t) o.dst v) m':=by
     intro hne hh;cases hs:stepD (base+i) (evT s.t) s.m.tr.get o.op with
     | none=>simp[hs]at hh
     | some vd=>
      obtain⟨v,d⟩:=vd;obtain⟨p1,p2⟩:=Zdo (v:=v) hn ht hdst;cases d with
      | nil=>
       simp only[hs]at hh;obtain⟨h1,h2⟩:=Zi0 hcall hn r (i+1) ⟨R0 s.t o.dst v,s.m,s.wl⟩ s' p1 hlim hd2 hh;exact⟨⟨h1.t,h1.next,h1.keep⟩,fun K hK=>⟨v,s.m.mem,Ziq ht hs rfl,by rw[← p2]; exact h2 K hK⟩⟩
      | cons e d=>
       simp only[hs]at hh;cases ho:okD (e :: d)with
       | false=>rw[ho]at hh; cases hh
       | true=>
        rw[ho]at hh;simp only[cond_true]at hh;obtain⟨h1,h2⟩:=Zi0 hcall hn r (i+1) _ s' p1 (by rw[TM.apply_next]; exact hlim) hd2 hh
        refine⟨⟨h1.t,by have:=h1.next; rw[TM.apply_next]at this; exact this,fun c hc hw'=>?_⟩,fun K hK=>⟨v,_,Ziq ht hs ho,by rw[← p2]; exact h2 K hK⟩⟩
        obtain⟨k1,k2⟩:=h1.keep c hc hw';obtain⟨k3,k4⟩:=Zgt (e :: d) s.wl s.m.mem c hc k1;exact⟨k3,by rw[k2,TM.apply_mem _ _ ho]; exact k4⟩
    by_cases hcl:∃ f xs,o.op=.call f xs
    ·obtain⟨f,xs,hop⟩:=hcl;simp only[hop]at h;cases hc:Zg5 s.t f xs with
     | none=>simp[hc]at h
     | some ga=>
      obtain⟨g,args⟩:=ga;simp only[hc]at h;cases hcc:call g args s.m with
      | none=>simp[hcc]at h
      | some vmw=>
       obtain⟨v,m',wl⟩:=vmw;simp only[hcc]at h;obtain⟨q1,q2,q3⟩:=hcall g args s.m v m' wl hcc;obtain⟨p1,p2⟩:=Zdo (v:=v) hn ht hdst;obtain⟨h1,h2⟩:=Zi0 hcall hn r (i+1) _ s' p1 (Nat.le_trans hlim q1) hd2 h;refine⟨⟨h1.t,Nat.le_trans q1 h1.next,fun c hc' hw'=>?_⟩,fun K hK=>?_⟩
       ·obtain⟨k1,k2⟩:=h1.keep c hc' hw';obtain⟨k3,k4⟩:=Zh6 wl s.wl c hc' k1;exact⟨k3,by rw[k2]; exact q2 c (by omega) k4⟩
       ·have hcA:callee (toL n s.t) f xs=some (g,args):=by rw[Zxa ht]; exact hc
        simp only[N6,hwA,hop,hcA];refine(q3 (base+i)).mono fun y m'' hy=>?_
        obtain⟨rfl,rfl⟩:=hy;rw[← p2];exact h2 K hK
    ·have hne:∀ f xs,o.op≠.call f xs:=fun f xs he=>hcl ⟨f,xs,he⟩
     have h':(match stepD (base+i) (evT s.t) s.m.tr.get o.op with
      | some (v,[])=>runP call lim base r (i+1) ⟨R0 s.t o.dst v,s.m,s.wl⟩
      | some (v,d)=>bif okD d then runP call lim base r (i+1) ⟨R0 s.t o.dst v,s.m.apply d,addW lim s.wl d⟩ else none
      | none=>none)=some s':=by
      cases hop:o.op<;>rw[hop]at h<;>first|(exact absurd hop (hne _ _))|exact h
     obtain⟨h1,h2⟩:=other hne h';refine⟨h1,fun K hK=>?_⟩
     obtain⟨v,m',h3,h4⟩:=h2 K hK;simp only[N6,hwA];cases hop:o.op<;>rw[hop]at h3<;>first|(exact absurd hop (hne _ _))|(simp only[h3]; exact h4)
end Go.AE
end
section
namespace Go.AE
open Go.RowKit
variable {P:Program}
theorem mem1_spec{x:Nat}:∀ {l:List Nat},(E9 x l=true→in1 x l∧x∈l)∧(E9 x l=false→Q8 x l∧x∉l)
 | []=>⟨fun h=>(by cases h),fun _=>⟨trivial,by simp⟩⟩
 | y :: r=>by
  have ih:=mem1_spec (x:=x) (l:=r);simp only[E9];cases hb:Nat.beq x y with
  | true=>
   have:=Nat.eq_of_beq_eq_true hb;exact⟨fun _=>⟨.inl this,by simp[this]⟩,fun h=>(by cases h)⟩
  | false=>
   have hne:x≠y:=fun e=>by subst e; rw[Nat.beq_refl]at hb; cases hb
   refine⟨fun h=>?_,fun h=>?_⟩
   ·obtain⟨h1,h2⟩:=ih.1 h;exact⟨.inr h1,List.mem_cons_of_mem _ h2⟩
   ·obtain⟨h1,h2⟩:=ih.2 h;exact⟨⟨hne,h1⟩,by simp[hne,h2]⟩
theorem Zgc:∀ {xs l:List Nat},Zev xs l=true→O8 xs l
 | [],_,_=>trivial
 | x :: r,l,h=>by
  simp only[Zev]at h;cases hb:E9 x l with
  | true=>rw[hb]at h; cases h
  | false=>rw[hb]at h; exact⟨(mem1_spec.2 hb).1,Zgc h⟩
theorem Zh0{n:Nat}:∀ {l:List Nat},Zf0 n l=true→K1 n l
 | [],_=>trivial
 | x :: r,h=>by
  simp only[Zf0]at h;cases hb:Nat.ble n x with
  | true=>rw[hb]at h; cases h
  | false=>rw[hb]at h; exact⟨Zid hb,Zh0 h⟩
theorem Zpb:∀ {xs l:List Nat},subB xs l=true→J2 xs l
 | [],_,_=>trivial
 | x :: r,l,h=>by
  simp only[subB]at h;cases hb:E9 x l with
  | false=>rw[hb]at h; cases h
  | true=>rw[hb]at h; exact⟨(mem1_spec.1 hb).1,Zpb h⟩
theorem FT.indepB_spec{f g:FT}(h:FT.indepB f g=true):FT.indep f g:=by
 cases f<;>cases g<;>simp only[FT.indepB,bA]at h
 ·exact⟨Zgc h.1,Zgc h.2⟩
 ·exact⟨Zgc h.1.1.1.1,Zh0 h.1.1.1.2,Zgc h.1.1.2,Zh0 h.1.2,Zpb h.2⟩
 ·exact⟨Zgc h.1.1.1.1,Zh0 h.1.1.1.2,Zgc h.1.1.2,Zh0 h.1.2,Zpb h.2⟩
 ·cases h
theorem Zoh{fs:List FT}{ft:FT}:∀ {un:List Nat},Zfr fs ft un=true→S3 fs ft un
 | [],_=>trivial
 | i :: r,h=>by
  simp only[Zfr,bA]at h;exact⟨FT.indepB_spec h.1,Zoh h.2⟩
theorem Zrz{id:Nat}:∀ {x:List Nat},okX id x=true→id∉x ∧ ∀ c,c∈x→c<bound
 | [],_=>⟨by simp,fun c hc=>by simp at hc⟩
 | c :: r,h=>by
  simp only[okX]at h;cases hb:Nat.ble bound c with
  | true=>rw[hb]at h; cases h
  | false=>
   rw[hb]at h;simp only[cond_false]at h;cases hq:Nat.beq c id with
   | true=>rw[hq]at h; cases h
   | false=>
    rw[hq]at h;obtain⟨h1,h2⟩:=Zrz (x:=r) h;have hne:id≠c:=fun e=>by subst e; rw[Nat.beq_refl]at hq; cases hq
    exact⟨by simp[hne,h1],fun b hb'=>by
     simp only[List.mem_cons]at hb';rcases hb' with rfl|hb'
     ·exact Zid hb
     ·exact h2 b hb'⟩
theorem Zxd:∀ (x:List Nat) (m:TM),(∀ c,c∈x→c<bound)→(Zaf m x).mem=m.mem.less x∧(Zaf m x).next=m.next
 | [],m,_=>⟨Mem.ext' (fun c=>by simp[Zaf,Mem.less]) rfl,rfl⟩
 | b :: r,m,h=>by
  obtain⟨h1,h2⟩:=Zxd r (m.set b none) (fun c hc=>h c (List.mem_cons_of_mem _ hc))
  simp only[Zaf];refine⟨?_,h2⟩;rw[h1,TM.set_mem_none (h b (by simp))]
  refine Mem.ext' (fun c=>?_) rfl
  simp only[Mem.less,Mem.get_del,List.mem_cons];by_cases hc:c=b
  ·subst hc; simp
  ·by_cases hcr:c∈r<;>simp[hc,hcr]
theorem Zsj(m0:TM):∀ (x:List Nat) (m:TM),(∀ c,c∈x→c<bound)→(Zdu m0 m x).next=m.next∧(∀ c,(Zdu m0 m x).tr.get c=if c∈x then m0.tr.get c else m.tr.get c)
 | [],m,_=>⟨rfl,fun c=>by simp[Zdu]⟩
 | b :: r,m,hx=>by
  obtain⟨h1,h2⟩:=Zsj m0 r (m.set b (m0.tr.get b)) (fun c hc=>hx c (List.mem_cons_of_mem _ hc))
  simp only[Zdu];refine⟨h1,fun c=>?_⟩
  rw[h2 c];have hset:(m.set b (m0.tr.get b)).tr.get c=if c=b then m0.tr.get b else m.tr.get c:=Tr.get_set depth _ b _ c (Ze8 (hx b (by simp)))
  by_cases hcr:c∈r
  ·rw[if_pos hcr,if_pos (List.mem_cons_of_mem _ hcr)]
  ·rw[if_neg hcr,hset];by_cases hcb:c=b
   ·subst hcb; simp
   ·rw[if_neg hcb,if_neg (by simp[hcb,hcr])]
theorem Zue{m:TM}:∀ {x:List Nat},Zjf m x=true → ∀ c,c∈x→m.tr.get c=none
 | [],_,c,hc=>by simp at hc
 | b :: r,h,c,hc=>by
  simp only[Zjf]at h;split at h<;>first|(cases h; done)|skip
  rename_i hb;simp only[List.mem_cons]at hc;rcases hc with rfl|hc
  ·exact hb
  ·exact Zue h c hc
theorem Zl8(id:Nat)(t:List AVal)(op:AOp):S5 id t op=V9 id (ev t) op:=by cases op<;>rfl
theorem Zlz(t:List AVal)(op:AOp):K3 t op=V8 (ev t) op:=by cases op<;>rfl
theorem Zib{call:Caller}(hcall:P5 P call){n lim base:Nat}(hn:n≤bound):∀ (ops:List AOper) (fs:List FT) (s s':RS),TOk n s.t→lim≤s.m.next →
 (ops.all fun o=>match o.dst with|some d=>decide (d<n)|none=>true)=true→runD call lim base ops fs s=some s' →
 RunOk n lim s s' ∧ ∀ K:ASt→Prop,K (s'.st n)→R3 P base ops fs K (toL n s.t) s.m.mem
 | [],fs,s,s',ht,_,_,h=>by
  simp only[runD,oI]at h;subst h;exact⟨⟨ht,Nat.le_refl _,fun c _ hw=>⟨hw,rfl⟩⟩,fun K hK=>hK⟩
 | o :: r,fs,s,s',ht,hlim,hd,h=>by
  simp only[List.all_cons,bA]at hd;obtain⟨hd1,hd2⟩:=hd;have hdst:=Zq9 hd1;simp only[runD]at h;cases hw:Zfw s.t o.guard with
  | none=>simp[hw]at h
  | some q=>
   have hwA:R7 (toL n s.t) o.guard=some q:=by rw[Zoj ht]; exact hw
   cases q with
   | false=>
    simp only[hw]at h;obtain⟨p1,p2⟩:=Zdo (v:=aundef) hn ht hdst;obtain⟨h1,h2⟩:=Zib hcall hn r _ ⟨R0 s.t o.dst aundef,s.m,s.wl⟩ s' p1 hlim hd2 h;refine⟨⟨h1.t,h1.next,h1.keep⟩,fun K hK=>?_⟩
    simp only[R3,hwA];rw[← p2];exact h2 K hK
   | true=>
    simp only[hw]at h;by_cases hcl:∃ f xs,o.op=.call f xs
    ·obtain⟨f,xs,hop⟩:=hcl;simp only[hop]at h;cases hc:Zg5 s.t f xs with
     | none=>simp[hc]at h
     | some ga=>
      obtain⟨g,args⟩:=ga;simp only[hc]at h;generalize hx:o.un.map (base + ·)++Zlv base fs.length r (fs.length+1)=x at h;cases hcc:call g args (Zaf s.m x)with
      | none=>simp[hcc]at h
      | some vmw=>
       obtain⟨v,m',wl⟩:=vmw;simp only[hcc]at h;cases hchk:(Zfr fs (.call wl x s.m.next) o.un&&okX (base+fs.length) x&&Zjf m' x)with
       | false=>rw[hchk]at h; cases h
       | true=>
        rw[hchk]at h;simp only[cond_true]at h;simp only[bA]at hchk;obtain⟨⟨hi,hX⟩,hN⟩:=hchk;obtain⟨hid,hbx⟩:=Zrz hX;obtain⟨l1,l2⟩:=Zxd x s.m hbx;obtain⟨q1,q2,q3⟩:=hcall g args _ v m' wl hcc;obtain⟨b1,b2⟩:=Zsj s.m x m' hbx;obtain⟨p1,p2⟩:=Zdo (v:=v) hn ht hdst;rw[l2]at q1 q2;obtain⟨h1,h2⟩:=Zib hcall hn r _ ⟨R0 s.t o.dst v,Zdu s.m m' x,addL lim s.wl wl⟩ s' p1 (by show lim≤(Zdu s.m m' x).next; rw[b1]; omega) hd2 h
        have hless:∀ c,c∉x→(Zaf s.m x).mem.get c=s.m.mem.get c:=fun c hcx=>by rw[l1]; simp[Mem.less,hcx]
        refine⟨⟨h1.t,by have:=h1.next; simp only[b1]at this; omega,fun c hc' hw'=>?_⟩,fun K hK=>?_⟩
        ·obtain⟨k1,k2⟩:=h1.keep c hc' hw';obtain⟨k3,k4⟩:=Zh6 wl s.wl c hc' k1;refine⟨k3,?_⟩;rw[k2];show(Zdu s.m m' x).tr.get c=s.m.tr.get c;rw[b2 c];by_cases hcx:c∈x
         ·rw[if_pos hcx]
         ·rw[if_neg hcx];have:=q2 c (by omega) k4
          rw[hless c hcx]at this;exact this
        ·have hcA:callee (toL n s.t) f xs=some (g,args):=by rw[Zxa ht]; exact hc
         simp only[R3,hwA,hop,hcA];refine⟨wl,x,v,(Zdu s.m m' x).mem,⟨m'.mem,hid,fun c hc'=>Zue hN c hc',q1,b1,fun c=>?_,fun c c1 c2 c3=>?_,by rw[← l1]; exact q3 (base+fs.length)⟩,Zoh hi,?_⟩
         ·exact b2 c
         ·have:=q2 c c2 c1;rw[hless c c3]at this;exact this
         ·rw[← p2];exact h2 K hK
    ·have hne:∀ f xs,o.op≠.call f xs:=fun f xs he=>hcl ⟨f,xs,he⟩
     have h':(match stepD (base+fs.length) (evT s.t) s.m.tr.get o.op with
      | some (v,d)=>bif Zfr fs (FT.ops (V9 (base+fs.length) (evT s.t) o.op) (V8 (evT s.t) o.op)) o.un&&okD d then runD call lim base r (fs++[FT.ops (V9 (base+fs.length) (evT s.t) o.op) (V8 (evT s.t) o.op)]) ⟨R0 s.t o.dst v,s.m.apply d,addW lim s.wl d⟩ else none
      | none=>none)=some s':=by
      cases hop:o.op<;>rw[hop]at h<;>first|(exact absurd hop (hne _ _))|exact h
     cases hs:stepD (base+fs.length) (evT s.t) s.m.tr.get o.op with
     | none=>simp[hs]at h'
     | some vd=>
      obtain⟨v,d⟩:=vd;simp only[hs]at h';cases hchk:(Zfr fs (FT.ops (V9 (base+fs.length) (evT s.t) o.op) (V8 (evT s.t) o.op)) o.un&&okD d)with
      | false=>rw[hchk]at h'; cases h'
      | true=>
       rw[hchk]at h';simp only[cond_true]at h';simp only[bA]at hchk;obtain⟨hi,ho⟩:=hchk;obtain⟨p1,p2⟩:=Zdo (v:=v) hn ht hdst;obtain⟨h1,h2⟩:=Zib hcall hn r _ ⟨R0 s.t o.dst v,s.m.apply d,addW lim s.wl d⟩ s' p1 (by show lim≤(s.m.apply d).next; rw[TM.apply_next]; exact hlim) hd2 h'
       refine⟨⟨h1.t,by have:=h1.next; simp only[TM.apply_next]at this; exact this,fun c hc hw'=>?_⟩,fun K hK=>?_⟩
       ·obtain⟨k1,k2⟩:=h1.keep c hc hw';obtain⟨k3,k4⟩:=Zgt d s.wl s.m.mem c hc k1;exact⟨k3,by rw[k2]; show(s.m.apply d).mem.get c=_; rw[TM.apply_mem _ _ ho]; exact k4⟩
       ·have h3:=Ziq (n:=n) ht hs ho;have h4:S3 fs (.ops (S5 (base+fs.length) (toL n s.t) o.op) (K3 (toL n s.t) o.op)) o.un∧R3 P base r (fs++[.ops (S5 (base+fs.length) (toL n s.t) o.op) (K3 (toL n s.t) o.op)]) K (put (toL n s.t) o.dst v) (s.m.apply d).mem:=by
         rw[Zl8,Zlz,Zbq ht,← p2];exact⟨Zoh hi,h2 K hK⟩
        simp only[R3,hwA];cases hop:o.op<;>rw[hop]at h3 h4<;>first|(exact absurd hop (hne _ _))|(simp only[h3]; exact h4)
end Go.AE
end
section
namespace Go.AE
open Go.RowKit
variable {P:Program}
def REnd.exit':REnd→Exit
 | .normal=>.normal
 | .exit n=>.exit n
 | .ret=>.ret
theorem Zmh{a b:Nat}(h:Nat.ble a b=true):a≤b:=Nat.le_of_ble_eq_true h
theorem Zfn(m:TM)(k:Nat):(⟨m.tr,k⟩:TM).mem=m.mem.at k:=rfl
theorem Zqb{call:Caller}(hcall:P5 P call){n lim:Nat}(hn:n≤bound):∀ (f:Nat) (c:ACode) (s s':RS) (e:REnd),TOk n s.t→lim≤s.m.next→O9 n c=true→T7 call lim f c s=some (e,s') →
 RunOk n lim s s' ∧ ∀ Q:Exit→ASt→Prop,Q e.exit' (s'.st n)→wpc P c Q (s.st n):=by
 intro f
 induction f using Nat.strongRecOn with
 | ind f ih=>
  intro c s s' e ht hlim hd h;cases f with
  | zero=>simp[T7]at h
  | succ f=>
   have same:RunOk n lim s s:=⟨ht,Nat.le_refl _,fun c _ hw=>⟨hw,rfl⟩⟩
   cases c with
   | skip=>
    simp only[T7,oI,pI2]at h;obtain⟨rfl,rfl⟩:=h;exact⟨same,fun Q hQ=>hQ⟩
   | label l=>
    simp only[T7,oI,pI2]at h;obtain⟨rfl,rfl⟩:=h;exact⟨same,fun Q hQ=>hQ⟩
   | exit i=>
    simp only[T7,oI,pI2]at h;obtain⟨rfl,rfl⟩:=h;exact⟨same,fun Q hQ=>hQ⟩
   | ret=>
    simp only[T7,oI,pI2]at h;obtain⟨rfl,rfl⟩:=h;exact⟨same,fun Q hQ=>hQ⟩
   | bad=>simp[T7]at h
   | region draw ops=>
    cases draw with
    | false=>
     simp only[T7]at h;cases hb:Nat.ble (s.m.next+ops.length) bound with
     | false=>rw[hb]at h; cases h
     | true=>
      rw[hb]at h;simp only[cond_true]at h;cases hr:runP call lim s.m.next ops 0 ⟨s.t,⟨s.m.tr,s.m.next+ops.length⟩,s.wl⟩ with
      | none=>simp[hr]at h
      | some s2=>
       simp only[hr,oI,pI2]at h;obtain⟨rfl,rfl⟩:=h;obtain⟨h1,h2⟩:=Zi0 hcall hn ops 0 ⟨s.t,⟨s.m.tr,s.m.next+ops.length⟩,s.wl⟩ s2 ht (by show lim≤s.m.next+ops.length; omega) hd hr
       refine⟨⟨h1.t,Nat.le_trans (Nat.le_add_right _ _) h1.next,h1.keep⟩,fun Q hQ=>?_⟩
       exact h2 (Q .normal) hQ
    | true=>
     simp only[T7]at h;cases hb:Nat.ble (s.m.next+ops.length) bound with
     | false=>rw[hb]at h; cases h
     | true=>
      rw[hb]at h;simp only[cond_true]at h;cases hr:runD call lim s.m.next ops [] ⟨s.t,⟨s.m.tr,s.m.next+ops.length⟩,s.wl⟩ with
      | none=>simp[hr]at h
      | some s2=>
       simp only[hr,oI,pI2]at h;obtain⟨rfl,rfl⟩:=h;obtain⟨h1,h2⟩:=Zib hcall hn ops [] ⟨s.t,⟨s.m.tr,s.m.next+ops.length⟩,s.wl⟩ s2 ht (by show lim≤s.m.next+ops.length; omega) hd hr
       refine⟨⟨h1.t,Nat.le_trans (Nat.le_add_right _ _) h1.next,h1.keep⟩,fun Q hQ=>?_⟩
       exact h2 (Q .normal) hQ
   | seq a b=>
    simp only[O9,bA]at hd;simp only[T7]at h;cases hr:T7 call lim f a s with
    | none=>simp[hr]at h
    | some es=>
     obtain⟨e2,s2⟩:=es;obtain⟨h1,h2⟩:=ih f (Nat.lt_succ_self f) a s s2 e2 ht hlim hd.1 hr;cases e2 with
     | normal=>
      simp only[hr]at h;obtain⟨h3,h4⟩:=ih f (Nat.lt_succ_self f) b s2 s' e h1.t (Nat.le_trans hlim h1.next) hd.2 h;exact⟨h1.trans h3,fun Q hQ=>h2 _ (h4 Q hQ)⟩
     | exit i=>
      simp only[hr,oI,pI2]at h;obtain⟨rfl,rfl⟩:=h;exact⟨h1,fun Q hQ=>h2 _ hQ⟩
     | ret=>
      simp only[hr,oI,pI2]at h;obtain⟨rfl,rfl⟩:=h;exact⟨h1,fun Q hQ=>h2 _ hQ⟩
   | cond x a b=>
    simp only[O9,bA]at hd;simp only[T7]at h;have hx:ev (toL n s.t) x=evT s.t x:=congrFun (Zbq ht) x;split at h
    ·rename_i hb;obtain⟨h1,h2⟩:=ih f (Nat.lt_succ_self f) a s s' e ht hlim hd.1 h;refine⟨h1,fun Q hQ=>?_⟩
     simp only[wpc,RS.st,hx,hb];exact h2 Q hQ
    ·rename_i hb;obtain⟨h1,h2⟩:=ih f (Nat.lt_succ_self f) b s s' e ht hlim hd.2 h;refine⟨h1,fun Q hQ=>?_⟩
     simp only[wpc,RS.st,hx,hb];exact h2 Q hQ
    ·cases h
   | block i c=>
    simp only[O9]at hd;simp only[T7]at h;cases hr:T7 call lim f c s with
    | none=>simp[hr]at h
    | some es=>
     obtain⟨e2,s2⟩:=es;obtain⟨h1,h2⟩:=ih f (Nat.lt_succ_self f) c s s2 e2 ht hlim hd hr;cases e2 with
     | normal=>
      simp only[hr,oI,pI2]at h;obtain⟨rfl,rfl⟩:=h;exact⟨h1,fun Q hQ=>h2 _ hQ⟩
     | ret=>
      simp only[hr,oI,pI2]at h;obtain⟨rfl,rfl⟩:=h;exact⟨h1,fun Q hQ=>h2 _ hQ⟩
     | exit k=>
      simp only[hr]at h;cases hb:Nat.beq k i with
      | true=>
       rw[hb]at h;simp only[cond_true,oI,pI2]at h;obtain⟨rfl,rfl⟩:=h;have:=Nat.eq_of_beq_eq_true hb;subst this;exact⟨h1,fun Q hQ=>h2 _ (by simp only[REnd.exit',Zao,if_true]; exact hQ)⟩
      | false=>
       rw[hb]at h;simp only[cond_false,oI,pI2]at h;obtain⟨rfl,rfl⟩:=h;have hne:k≠i:=fun e=>by subst e; rw[Nat.beq_refl]at hb; cases hb
       exact⟨h1,fun Q hQ=>h2 _ (by simp only[REnd.exit',Zao,if_neg hne]; exact hQ)⟩
   | scope c=>
    simp only[O9]at hd;simp only[T7]at h;obtain⟨h1,h2⟩:=ih f (Nat.lt_succ_self f) c s s' e ht hlim hd h;refine⟨h1,fun Q hQ=>h2 _ ?_⟩
    cases e<;>exact hQ
   | loop c=>
    have hdl:=hd;simp only[O9]at hd;have hfin:RunOk n lim s s':=by
     simp only[T7]at h;cases hr:T7 call lim f c s with
     | none=>simp[hr]at h
     | some es=>
      obtain⟨e2,s2⟩:=es;obtain⟨h1,_⟩:=ih f (Nat.lt_succ_self f) c s s2 e2 ht hlim hd hr;cases e2 with
      | normal=>
       simp only[hr]at h;exact h1.trans (ih f (Nat.lt_succ_self f) (.loop c) s2 s' e h1.t (Nat.le_trans hlim h1.next) hdl h).1
      | exit i=>
       simp only[hr,oI,pI2]at h;obtain⟨rfl,rfl⟩:=h;exact h1
      | ret=>
       simp only[hr,oI,pI2]at h;obtain⟨rfl,rfl⟩:=h;exact h1
    refine⟨hfin,fun Q hQ=>?_⟩
    refine⟨fun k σ=>k≤f ∧ ∃ s1,σ=s1.st n∧TOk n s1.t∧lim≤s1.m.next∧T7 call lim (k+1) (.loop c) s1=some (e,s'),⟨f,_,.refl _,Nat.le_refl _,s,rfl,ht,hlim,h⟩,?_⟩
    rintro k σ ⟨hkf,s1,rfl,ht1,hl1,hr1⟩;simp only[T7]at hr1;cases hr:T7 call lim k c s1 with
    | none=>simp[hr]at hr1
    | some es=>
     obtain⟨e2,s2⟩:=es;obtain⟨h1,h2⟩:=ih k (by omega) c s1 s2 e2 ht1 hl1 hd hr
     refine h2 _ ?_;cases e2 with
     | normal=>
      simp only[hr]at hr1;cases k with
      | zero=>simp[T7]at hr1
      | succ k=>exact ⟨k,s2.st n,Nat.lt_succ_self k,.refl _,by omega,s2,rfl,h1.t,Nat.le_trans hl1 h1.next,hr1⟩
     | exit i=>
      simp only[hr,oI,pI2]at hr1;obtain⟨rfl,rfl⟩:=hr1;exact hQ
     | ret=>
      simp only[hr,oI,pI2]at hr1;obtain⟨rfl,rfl⟩:=hr1;exact hQ
end Go.AE
end
section
namespace Go.AE
open Go.RowKit
variable {P:Program}
def Zd8(P:Program)(tab:Nat→Option AFn):Prop:=
 ∀ g af,tab g=some af→(∃ fn,P.funcs[g]? = some fn∧cFn P fn=some af)∧O9 af.ntmps af.body=true∧af.ntmps≤bound
theorem Zuo:∀ (args:List AVal) (t:Tr AVal) (i k:Nat),i+args.length≤bound→(J8 t i args).get k=if i≤k∧k<i+args.length then args[k - i]? else t.get k
 | [],t,i,k,_=>by simp[J8]; intro h1 h2; omega
 | x :: r,t,i,k,h=>by
  simp only[List.length_cons]at h ⊢;simp only[J8];rw[Zuo r _ (i+1) k (by omega),Tr.get_set depth t i (some x) k (Ze8 (by omega))]
  by_cases h1:i+1≤k∧k<i+1+r.length
  ·rw[if_pos h1,if_pos (by omega)]
   have:k - i=(k - (i+1))+1:=by omega
   rw[this,List.getElem?_cons_succ]
  ·rw[if_neg h1];by_cases h2:k=i
   ·subst h2;rw[if_pos rfl,if_pos (by omega)]
    simp
   ·rw[if_neg h2,if_neg (by omega)]
theorem Zl0{n:Nat}{args:List AVal}(hn:n≤bound)(hl:args.length≤n):TOk n (J8 .nil 0 args)∧toL n (J8 .nil 0 args)=args++List.replicate (n - args.length) aundef:=by
 have hg:=fun k=>Zuo args .nil 0 k (by omega)
 refine⟨fun i hi=>?_,?_⟩
 ·rw[hg i,if_neg (by omega)]; rfl
 ·apply List.ext_getElem?;intro i;rcases Nat.lt_or_ge i n with h|h
  ·rw[Zmk h];simp only[evT];rw[hg i];rw[List.getElem?_append];by_cases h2:i<args.length
   ·rw[if_pos (by omega),if_pos h2]
    simp[h2]
   ·rw[if_neg (by omega),if_neg h2]
    simp only[Tr.get_nil];rw[List.getElem?_replicate,if_pos (by omega)]
  ·rw[List.getElem?_eq_none (by rw[Zi6]; exact h),List.getElem?_eq_none (by simp; omega)]
theorem Zsg{n:Nat}{t:Tr AVal}{m:TM}(ht:TOk n t)(x:Nat×Option (Option Nat)):A9 (toL n t) m.mem x=Zi3 t m x:=by
 obtain⟨i,o⟩:=x;have h:(toL n t).getD i aundef=evT t (.tmp i):=congrFun (Zbq ht) (.tmp i);cases o with
 | none=>simp only[A9,Zi3,h]
 | some k=>simp only[A9,Zi3,h,Zpz]; rfl
theorem Zx9{n:Nat}{t:Tr AVal}{m:TM}(ht:TOk n t):∀ (xs:List (Nat×Option (Option Nat))),D9 (toL n t) m.mem xs=Zl1 t m xs
 | []=>rfl
 | x :: r=>by
  simp only[D9,Zl1,Zsg ht,Zx9 ht r]
  try rfl
theorem Zlb{n:Nat}{t:Tr AVal}{m:TM}(ht:TOk n t)(xs:List (Nat×Option (Option Nat))):N7 (toL n t) m.mem xs=A7 t m xs:=by
 cases xs with
 | nil=>rfl
 | cons x r=>
  cases r with
  | nil=>exact Zsg ht x
  | cons y r=>simp only[N7,A7,Zx9 ht]; try rfl
theorem Zk9(hm:P.follows .mixedOrders=true){tab:Nat→Option AFn}{orc:Caller}(htab:Zd8 P tab)(horc:P5 P orc):∀ f,P5 P (runF tab orc f)
 | 0,g,args,m,v,m',wl,h=>by simp[runF]at h
 | f+1,g,args,m,v,m',wl,h=>by
  have ih:=Zk9 hm htab horc f;simp only[runF]at h;cases ho:orc g args m with
  | some r=>
   simp only[ho,oI]at h;subst h;exact horc g args m v m' wl ho
  | none=>
   simp only[ho]at h;cases ht:tab g with
   | none=>simp[ht]at h
   | some af=>
    simp only[ht]at h;obtain⟨⟨fn,hf1,hf2⟩,hd,hb⟩:=htab g af ht;cases hl:Nat.ble args.length af.ntmps with
    | false=>rw[hl]at h; cases h
    | true=>
     rw[hl]at h;simp only[cond_true]at h;obtain⟨a1,a2⟩:=Zl0 hb (Zmh hl);have fin:∀ (e:REnd) (s:RS),(∀ i,e≠.exit i)→T7 (runF tab orc f) m.next 1000 af.body ⟨J8 .nil 0 args,m,[]⟩=some (e,s)→(match A7 s.t s.m af.results with|some v=>some (v,s.m,s.wl)|none=>none)=some (v,m',wl) →
      m.next≤m'.next∧(∀ c,c<m.next→c∉wl→m'.mem.get c=m.mem.get c) ∧ ∀ id,ACalls P g args m.mem [id] fun r m''=>r=v∧m''=m'.mem:=by
      intro e s hne hrun hret;obtain⟨h1,h2⟩:=Zqb ih hb 1000 af.body ⟨J8 .nil 0 args,m,[]⟩ s e a1 (Nat.le_refl _) hd hrun;cases hr:A7 s.t s.m af.results with
      | none=>simp[hr]at hret
      | some r=>
       simp only[hr,oI,pI2]at hret;obtain⟨rfl,rfl,rfl⟩:=hret;refine⟨h1.next,fun c hc hw=>(h1.keep c hc hw).2,fun id=>Z4m hm hf1 hf2 ?_⟩
       rw[← a2];refine h2 _ ?_;have hrA:N7 (toL af.ntmps s.t) s.m.mem af.results=some r:=by rw[Zlb h1.t]; exact hr
       cases e with
       | normal=>simp only[REnd.exit',retK,RS.st,hrA]; exact⟨trivial,trivial⟩
       | ret=>simp only[REnd.exit',retK,RS.st,hrA]; exact⟨trivial,trivial⟩
       | exit i=>exact absurd rfl (hne i)
     cases hrun:T7 (runF tab orc f) m.next 1000 af.body ⟨J8 .nil 0 args,m,[]⟩ with
     | none=>simp[hrun]at h
     | some es=>
      obtain⟨e,s⟩:=es;cases e with
      | exit i=>simp[hrun]at h
      | normal=>simp only[hrun]at h; exact fin .normal s (by simp) hrun h
      | ret=>simp only[hrun]at h; exact fin .ret s (by simp) hrun h
end Go.AE
end
section
namespace Go.AE
open Go.RowKit
mutual
def AVal.closed:AVal→Bool
 | .bool _ | .int _ _ | .str _ | .nilPtr | .nilSl | .emp | .nilMap | .nilFunc | .nilIface | .bot=>true
 | .imm els=>X8 els
 | .agg cs=>Y0 cs
 | .tuple cs=>Y0 cs
 | .func _ a b=>Y0 a&&Y0 b
 | .iptr els _ _=>X8 els
 | _=>false
def Y0:List AVal→Bool
 | []=>true
 | x :: r=>x.closed&&Y0 r
def X8:List (List AVal)→Bool
 | []=>true
 | x :: r=>Y0 x&&X8 r
end
theorem Zfx:∀ {l:List AVal} {i:Nat} {x:AVal},Y0 l=true→l[i]? = some x→x.closed=true
 | [],i,x,_,h=>by simp at h
 | y :: r,i,x,h,hx=>by
  simp only[Y0,bA]at h;cases i with
  | zero=>simp only[List.getElem?_cons_zero,oI]at hx; subst hx; exact h.1
  | succ i=>simp only[List.getElem?_cons_succ]at hx; exact Zfx h.2 hx
theorem Zp6:∀ {l:List (List AVal)} {i:Nat} {x:List AVal},X8 l=true→l[i]? = some x→Y0 x=true
 | [],i,x,_,h=>by simp at h
 | y :: r,i,x,h,hx=>by
  simp only[X8,bA]at h;cases i with
  | zero=>simp only[List.getElem?_cons_zero,oI]at hx; subst hx; exact h.1
  | succ i=>simp only[List.getElem?_cons_succ]at hx; exact Zp6 h.2 hx
theorem R.closed{Φ:Pers}{ρ ρ':Rho}{x:AVal}{v:Value}(h:R Φ ρ x v)(hc:x.closed=true):R Φ ρ' x v:=by
 induction h with
 | bool b=>exact .bool b
 | int k n=>exact .int k n
 | str s=>exact .str s
 | ptr b i j l h=>simp[AVal.closed]at hc
 | iptr els i j B o k c f hB hk hcc _ ih=>
  simp only[AVal.closed]at hc;exact .iptr els i j B o k c f hB hk hcc fun i row j x h1 h2=>ih i row j x h1 h2 (Zfx (Zp6 hc h1) h2)
 | nilPtr=>exact .nilPtr
 | nilSl=>exact .nilSl
 | emp a=>exact .emp a
 | sl b off len a cap l h hl hn hcc ha=>simp[AVal.closed]at hc
 | imm0 a cap h=>exact .imm0 a cap h
 | imm els B o k cap c f hne hcap hB hk hcc _ ih=>
  simp only[AVal.closed]at hc;exact .imm els B o k cap c f hne hcap hB hk hcc fun i row j x h1 h2=>ih i row j x h1 h2 (Zfx (Zp6 hc h1) h2)
 | map b l h=>simp[AVal.closed]at hc
 | nilMap=>exact .nilMap
 | func fn fs cs vf vc hf hcs _ _ ih1 ih2=>
  simp only[AVal.closed,bA]at hc;exact .func fn fs cs vf vc hf hcs (fun i x v h1 h2=>ih1 i x v h1 h2 (Zfx hc.1 h1)) (fun i x v h1 h2=>ih2 i x v h1 h2 (Zfx hc.2 h1))
 | nilFunc=>exact .nilFunc
 | yld b l h=>simp[AVal.closed]at hc
 | atLeast n c h=>simp[AVal.closed]at hc
 | iface t x v _ ih=>simp[AVal.closed]at hc
 | nilIface=>exact .nilIface
 | agg cs vs hs _ ih=>
  simp only[AVal.closed]at hc;exact .agg cs vs hs fun i x v h1 h2=>ih i x v h1 h2 (Zfx hc h1)
 | tuple cs vs hs _ ih=>
  simp only[AVal.closed]at hc;exact .tuple cs vs hs fun i x v h1 h2=>ih i x v h1 h2 (Zfx hc h1)
 | bot v=>exact .bot v
theorem RL.closed{Φ:Pers}{ρ ρ':Rho}{xs:List AVal}{vs:Array Value}(h:RL Φ ρ xs vs)(hc:Y0 xs=true):RL Φ ρ' xs vs:=
 ⟨h.1,fun i x v hx hv=>(h.2 i x v hx hv).closed (Zfx hc hx)⟩
theorem Yed{P:Program}{g:FuncId}{args:List AVal}{v:AVal}{m0:Mem}{K:AVal→Mem→Prop}(hca:Y0 args=true)(hcv:v.closed=true)(h0:∀ c,m0.get c=none)(h1:0<m0.next)
 (h:ACalls P g args m0 [0] K) (hK:∀ r m',K r m'→r=v) (m:Mem) (av:List Nat):ACalls P g args m av fun r m'=>r=v∧m'=m:=by
 refine⟨h.1,fun W Φ ρ vs w hr ha hav=>?_⟩
 let W0:Base:=⟨w,fun _=>none,Φ⟩
 have hr0:Rel W0 Φ (fun _=>none) m0 w:=
  ⟨⟨Below.refl _ _,fun B o hB=>(by cases hB)⟩,hr.pers,fun b x hx=>(by rw[h0 b]at hx; cases hx),fun b b' x x' l l' h1=>(by rw[h0 b]at h1; cases h1),fun b l hb=>(by cases hb),fun B c hB=>.inl hB⟩
 refine(h.2 W0 Φ (fun _=>none) vs w hr0 (ha.closed hca) (fun b hb=>by simp only[List.mem_singleton]at hb; subst hb; exact⟨rfl,h1⟩)).mono fun e w' he=>?_
 obtain⟨u,r,m1,Φ',ρ',e1,hE,_,hr',hR,_,hKr⟩:=he;have hrv:=hK r m1 hKr;subst hrv;have hb:Below w.heap.size w w':=hr'.base.below;have hr2:=hr.below hb;have hE2:Ext Φ ρ Φ' ρ:=⟨hE.pers,fun b l h=>h⟩
 refine⟨u,r,m,Φ',ρ,e1,hE2,fun b _ _ h=>h,⟨hr2.base,hr'.pers,fun b x hx=>?_,hr2.inj,hr2.fresh,fun B c hB=>?_⟩,hR.closed hcv,Nat.le_refl _,rfl,rfl⟩
 ·obtain⟨l,o,g1,g2,g3,g4,g5⟩:=hr.live b x hx;obtain⟨l',o',k1,k2,k3,k4,k5⟩:=hr2.live b x hx;refine⟨l',o',k1,k2,?_,k4,k5.ext hE2⟩;rw[g1]at k1; injection k1 with k1; subst k1
  cases hp:Φ' l.blk with
  | none=>rfl
  | some c=>
   rcases hr'.newp _ _ hp with h1|h1
   ·have h1':Φ l.blk=some c:=h1;rw[g3]at h1'; cases h1'
   ·have h2:w.heap.size≤l.blk:=h1.1;have:=B7 g4;omega
 ·rcases hr'.newp B c hB with h1|h1
  ·exact hr.newp B c h1
  ·have h2:w.heap.size≤B:=h1.1;refine .inr ⟨Nat.le_trans hr.base.below.size h2,?_⟩;cases hg:W.g B with
   | none=>rfl
   | some o=>
    have:=B7 (hr.base.prot B o hg);omega
end Go.AE
end
section
namespace Go.AE
open Go.RowKit
def W6{α β:Type}(f:α→Option β):List α→Option (List β)
 | []=>some []
 | x :: r=>match f x,W6 f r with
  | some y,some ys=>some (y :: ys)
  | _,_=>none
theorem Zgz{α β:Type}{f:α→Option β}:∀ {l:List α} {l':List β},W6 f l=some l'→l'.length=l.length ∧ ∀(i:Nat) (y:β),l'[i]? = some y → ∃ x,l[i]? = some x∧f x=some y
 | [],l',h=>by
  simp only[W6,oI]at h;subst h;exact⟨rfl,fun i y h=>by simp at h⟩
 | x :: r,l',h=>by
  simp only[W6]at h;cases h1:f x with
  | none=>simp[h1]at h
  | some y=>
   cases h2:W6 f r with
   | none=>simp[h1,h2]at h
   | some ys=>
    simp only[h1,h2,oI]at h;subst h;obtain⟨h3,h4⟩:=Zgz h2;refine⟨by simp[h3],fun i z hz=>?_⟩
    cases i with
    | zero=>
     simp only[List.getElem?_cons_zero,oI]at hz;subst hz;exact⟨x,rfl,h1⟩
    | succ i=>
     simp only[List.getElem?_cons_succ]at hz ⊢;exact h4 i z hz
def X0(get:Nat→Option ABlk):Nat→AVal→Option AVal
 | 0,_=>none
 | n+1,x=>match x with
  | .sl b off len=>match get b with
   | some (.cells _ els)=>bif Nat.ble (off+len) els.length then match W6 (W6 (X0 get n)) ((els.drop off).take len)with
    | some rows=>some (.imm rows)
    | none=>none
    else none
   | _=>none
  | .agg cs=>match W6 (X0 get n) cs with
   | some ds=>some (.agg ds)
   | none=>none
  | .tuple cs=>match W6 (X0 get n) cs with
   | some ds=>some (.tuple ds)
   | none=>none
  | .imm els=>match W6 (W6 (X0 get n)) els with
   | some rows=>some (.imm rows)
   | none=>none
  | .bool b=>some (.bool b)
  | .int k i=>some (.int k i)
  | .str s=>some (.str s)
  | .nilPtr=>some .nilPtr
  | .nilSl=>some .nilSl
  | .emp=>some .emp
  | .nilMap=>some .nilMap
  | .nilFunc=>some .nilFunc
  | .nilIface=>some .nilIface
  | .bot=>some .bot
  | _=>none
section
variable {W:Base} {Φ Φs:Pers} {ρ:Rho} {m:Mem} {w:World}
theorem Zo9{f:AVal→Option AVal}(hf:∀ x y v,f x=some y→R Φ ρ x v→R Φs ρ y v){cs ds:List AVal}{vs:Array Value}(h:RL Φ ρ cs vs)(hm:W6 f cs=some ds):RL Φs ρ ds vs:=by
 obtain⟨h1,h2⟩:=Zgz hm;refine⟨by rw[h.1,h1],fun i y v hy hv=>?_⟩
 obtain⟨x,hx,hxy⟩:=h2 i y hy;exact hf x y v hxy (h.2 i x v hx hv)
theorem Zqq(hr:Rel W Φ ρ m w)(hE:Ext Φ ρ Φs ρ)(hs:∀ b l k els c e fz,m.get b=some (.cells k els)→ρ b=some l→w.heap[l.blk]? = some (.cells c e fz)→Φs l.blk=some c) :
 ∀(n:Nat) (x y:AVal) (v:Value),X0 m.get n x=some y→R Φ ρ x v→R Φs ρ y v:=by
 intro n
 induction n with
 | zero=>intro x y v h; simp[X0]at h
 | succ n ih=>
  intro x y v h hR;simp only[X0]at h;cases hR with
  | bool b=>injection h with h; subst h; exact .bool b
  | int k i=>injection h with h; subst h; exact .int k i
  | str s=>injection h with h; subst h; exact .str s
  | nilPtr=>injection h with h; subst h; exact .nilPtr
  | nilSl=>injection h with h; subst h; exact .nilSl
  | emp a=>injection h with h; subst h; exact .emp a
  | nilMap=>injection h with h; subst h; exact .nilMap
  | nilFunc=>injection h with h; subst h; exact .nilFunc
  | nilIface=>injection h with h; subst h; exact .nilIface
  | ptr b i j l h1=>simp at h
  | iptr els i j B o k c f hB hk hcc hrr=>simp at h
  | map b l h1=>simp at h
  | yld b l h1=>simp at h
  | atLeast n' c' h1=>simp at h
  | func fn fs cs vf vc hf hc h1 h2=>simp at h
  | iface t x v h1=>simp at h
  | bot v=>injection h with h; subst h; exact .bot v
  | agg cs vs hsz hrr=>
   simp only at h;cases hm:W6 (X0 m.get n) cs with
   | none=>simp[hm]at h
   | some ds=>
    simp only[hm,oI]at h;subst h;have:=Zo9 (Φs:=Φs) (fun x y v hxy hx=>ih x y v hxy hx) ⟨hsz,hrr⟩ hm
    exact .agg _ _ this.1 this.2
  | tuple cs vs hsz hrr=>
   simp only at h;cases hm:W6 (X0 m.get n) cs with
   | none=>simp[hm]at h
   | some ds=>
    simp only[hm,oI]at h;subst h;have:=Zo9 (Φs:=Φs) (fun x y v hxy hx=>ih x y v hxy hx) ⟨hsz,hrr⟩ hm
    exact .tuple _ _ this.1 this.2
  | imm0 a cap hz=>
   simp only[W6,oI]at h;subst h;exact .imm0 a cap hz
  | imm els B o k cap c f hne hcap hB hk hcc hrr=>
   simp only at h;cases hm:W6 (W6 (X0 m.get n)) els with
   | none=>simp[hm]at h
   | some rows=>
    simp only[hm,oI]at h;subst h;obtain⟨h1,h2⟩:=Zgz hm;have hrow:∀ (i:Nat) (row':List AVal),rows[i]? = some row' → ∃ row,els[i]? = some row∧row'.length=row.length ∧ ∀(j:Nat) (y:AVal),row'[j]? = some y → ∃ x,row[j]? = some x∧X0 m.get n x=some y:=by
     intro i row' hi;obtain⟨row,g1,g2⟩:=h2 i row' hi;obtain⟨g3,g4⟩:=Zgz g2;exact⟨row,g1,g3,g4⟩
    rw[← h1];refine .imm rows B o k cap c f (fun e=>hne ?_) (by rw[h1]; exact hcap) (hE.pers _ _ hB) (fun i row' hi=>?_) (fun i row' j y hi hj=>?_) (fun i row' j y hi hj=>?_)
    ·rw[e]at h1;exact List.length_eq_zero_iff.1 h1.symm
    ·obtain⟨row,g1,g2,_⟩:=hrow i row' hi;rw[g2]; exact hk i row g1
    ·obtain⟨row,g1,_,g3⟩:=hrow i row' hi;obtain⟨x,g4,_⟩:=g3 j y hj;exact hcc i row j x g1 g4
    ·obtain⟨row,g1,_,g3⟩:=hrow i row' hi;obtain⟨x,g4,g5⟩:=g3 j y hj;exact ih x y _ g5 (hrr i row j x g1 g4)
  | sl b off len a cap l hl hle hn hc ha=>
   simp only at h;cases hg:m.get b with
   | none=>simp[hg]at h
   | some blk=>
    cases blk<;>simp only[hg]at h<;>first|(cases h; done)|skip
    rename_i k els;cases hb:Nat.ble (off+len) els.length with
    | false=>rw[hb]at h; cases h
    | true=>
     rw[hb]at h;simp only[cond_true]at h;have hol:=Nat.le_of_ble_eq_true hb;cases hm:W6 (W6 (X0 m.get n)) ((els.drop off).take len)with
     | none=>simp[hm]at h
     | some rows=>
      simp only[hm,oI]at h;subst h;obtain⟨h1,h2⟩:=Zgz hm;have hlen:rows.length=len:=by rw[h1]; simp; omega
      obtain⟨l',o,g1,g2,g3,g4,g5⟩:=hr.live b _ hg;rw[hl]at g1; injection g1 with g1; subst g1
      cases g5 with
      | cells _ _ _ c e hk hsz hsl hrows _=>
       by_cases h0:len=0
       ·subst h0;have:rows=[]:=List.length_eq_zero_iff.1 hlen;subst this;exact .imm0 a cap fun hp=>⟨_,_,hc hp⟩
       ·have hae:=hc (by omega)
        subst hae;have hrow:∀ (i:Nat) (row':List AVal),rows[i]? = some row' → ∃ row,els[off+i]? = some row∧row'.length=row.length ∧ ∀(j:Nat) (y:AVal),row'[j]? = some y → ∃ x,row[j]? = some x∧X0 m.get n x=some y:=by
         intro i row' hi;obtain⟨row,q1,q2⟩:=h2 i row' hi;obtain⟨q3,q4⟩:=Zgz q2;have hil:i<len:=by
          have:=(gS.1 hi).1;omega
         rw[List.getElem?_take,if_pos hil,List.getElem?_drop]at q1;exact⟨row,q1,q3,q4⟩
        have hcell:∀ (i:Nat) (row:List AVal) (j:Nat) (x:AVal),els[off+i]? = some row→row[j]? = some x → ∃ u,c[(l.sh+off)*l.k+i*l.k+j]? = some u∧u.oneCell'=true∧R Φ ρ x u:=by
         intro i row j x hi hj;obtain⟨u,q1,q2,q3⟩:=hrows.2 (off+i) row j x hi hj;refine⟨u,?_,q2,q3⟩;rw[← q1,hk]
         congr 1
         rw[← Nat.add_assoc,Nat.add_mul (l.sh+off) i]
        rw[← hlen];refine .imm rows l.blk ((l.sh+off)*l.k) k cap c (fun i j=>(c[(l.sh+off)*l.k+i*k+j]?).getD undef) (fun e=>h0 (by rw[← hlen,e]; rfl)) (by omega) (hs b l k els c e (0,0) hg hl g4)
         (fun i row' hi=>?_) (fun i row' j y hi hj=>?_) (fun i row' j y hi hj=>?_)
        ·obtain⟨row,q1,q2,_⟩:=hrow i row' hi;rw[q2]; exact hrows.1 (off+i) row q1
        ·obtain⟨row,q1,_,q3⟩:=hrow i row' hi;obtain⟨x,q4,_⟩:=q3 j y hj;obtain⟨u,p1,p2,_⟩:=hcell i row j x q1 q4;rw[hk]at p1 ⊢;simp only[p1,Option.getD_some];exact⟨trivial,p2⟩
        ·obtain⟨row,q1,_,q3⟩:=hrow i row' hi;obtain⟨x,q4,q5⟩:=q3 j y hj;obtain⟨u,p1,_,p3⟩:=hcell i row j x q1 q4;rw[hk]at p1 ⊢;simp only[p1,Option.getD_some];exact ih x y u q5 p3
end
theorem Ye3{W:Base}{Φ:Pers}{ρ:Rho}{m:Mem}{w:World}(hr:Rel W Φ ρ m w):∃ Φs:Pers,Ext Φ ρ Φs ρ∧(∀ B c,Φs B=some c → ∃ e fz,w.heap[B]? = some (.cells c e fz)) ∧
 (∀ B c,Φs B=some c→W.p B=some c∨W.Free B) ∧ ∀ b l k els c e fz,m.get b=some (.cells k els)→ρ b=some l→w.heap[l.blk]? = some (.cells c e fz)→Φs l.blk=some c:=by
 have hlv:∀ B,(∃ b l y,m.get b=some y∧ρ b=some l∧l.blk=B)→Φ B=none∧W.Free B:=by
  rintro B ⟨b,l,y,h1,h2,rfl⟩;obtain⟨l',o,g1,g2,g3,_⟩:=hr.live b y h1;rw[h2]at g1; injection g1 with g1; subst g1
  exact⟨g3,g2⟩
 refine⟨fun B=>@ite _ (∃ b l y,m.get b=some y∧ρ b=some l∧l.blk=B) (Classical.propDecidable _) (match w.heap[B]? with|some (.cells c _ _)=>some c|_=>none) (Φ B),⟨fun B c hB=>?_,fun b l h=>h⟩,fun B c hB=>?_,fun B c hB=>?_,fun b l k els c e fz hg hl hw=>?_⟩
 ·by_cases hL:∃ b l y,m.get b=some y∧ρ b=some l∧l.blk=B
  ·rw[(hlv B hL).1]at hB; cases hB
  ·simp only[hL,if_false]; exact hB
 ·by_cases hL:∃ b l y,m.get b=some y∧ρ b=some l∧l.blk=B
  ·simp only[hL,if_true]at hB;split at hB<;>first|(cases hB; done)|skip
   rename_i c' e fz hw;injection hB with hB; subst hB
   exact⟨e,fz,hw⟩
  ·simp only[hL,if_false]at hB;exact hr.pers B c hB
 ·by_cases hL:∃ b l y,m.get b=some y∧ρ b=some l∧l.blk=B
  ·exact .inr (hlv B hL).2
  ·simp only[hL,if_false]at hB;exact hr.newp B c hB
 ·have hL:∃ b' l' y,m.get b'=some y∧ρ b'=some l'∧l'.blk=l.blk:=⟨b,l,_,hg,hl,rfl⟩
  simp only[hL,if_true,hw]
theorem Zk5{P:Program}{g:FuncId}{args:List AVal}{v:AVal}{m0:Mem}{K:AVal→Mem→Prop}(hca:Y0 args=true)(hcv:v.closed=true)(h0:∀ c,m0.get c=none)(h1:0<m0.next)
 (h:ACalls P g args m0 [0] K) (hK:∀ r m',K r m' → ∃ n,X0 m'.get n r=some v) (m:Mem) (av:List Nat):ACalls P g args m av fun r m'=>r=v∧m'=m:=by
 refine Yed (K:=fun r _=>r=v) (m0:=m0) hca hcv h0 h1 ⟨h.1,fun W Φ ρ vs w hr ha hav=>(h.2 W Φ ρ vs w hr ha hav).mono fun e w' he=>?_⟩ (fun r m' h=>h) m av
 obtain⟨u,r,m1,Φ',ρ',e1,hE,hk,hr',hR,hn,hKr⟩:=he;obtain⟨n,hn2⟩:=hK r m1 hKr;obtain⟨Φs,f1,f2,f3,f4⟩:=Ye3 hr';have hR2:=Zqq hr' f1 f4 n r v u hn2 hR;refine⟨u,v,⟨fun _=>none,m1.next⟩,Φs,ρ',e1,hE.trans f1,hk,⟨hr'.base,f2,fun b x hx=>(by cases hx),fun b b' x x' l l' h1=>(by cases h1),hr'.fresh,f3⟩,hR2,hn,rfl⟩
end Go.AE
end
section
namespace Go.AE
open Go.RowKit
def Zmm:List UInt8→List UInt8→Bool
 | [],[]=>true
 | a :: r,b :: s=>Nat.beq a.toNat b.toNat&&Zmm r s
 | _,_=>false
theorem Zzy:∀ {a b:List UInt8},Zmm a b=true→a=b
 | [],[],_=>rfl
 | a :: r,b :: s,h=>by
  simp only[Zmm,bA]at h;have h1:=Nat.eq_of_beq_eq_true h.1;rw[UInt8.toNat_inj.1 h1,Zzy h.2]
 | [],_ :: _,h=>by cases h
 | _ :: _,[],h=>by cases h
def Zq5:Int→Int→Bool
 | .ofNat a,.ofNat b=>Nat.beq a b
 | .negSucc a,.negSucc b=>Nat.beq a b
 | _,_=>false
theorem Z6b{a b:Int}(h:Zq5 a b=true):a=b:=by
 cases a<;>cases b<;>simp only[Zq5]at h<;>first|(cases h; done)|(rw[Nat.eq_of_beq_eq_true h])
mutual
def M3:AVal→AVal→Bool
 | .bool a,.bool b=>a == b
 | .int k a,.int k' b=>k == k'&&Zq5 a b
 | .str a,.str b=>Zmm a b
 | .nilPtr,.nilPtr=>true
 | .nilSl,.nilSl=>true
 | .emp,.emp=>true
 | .nilMap,.nilMap=>true
 | .nilFunc,.nilFunc=>true
 | .nilIface,.nilIface=>true
 | .imm a,.imm b=>Zfs a b
 | .agg a,.agg b=>beqL a b
 | .tuple a,.tuple b=>beqL a b
 | _,_=>false
def beqL:List AVal→List AVal→Bool
 | [],[]=>true
 | x :: r,y :: s=>M3 x y&&beqL r s
 | _,_=>false
def Zfs:List (List AVal)→List (List AVal)→Bool
 | [],[]=>true
 | x :: r,y :: s=>beqL x y&&Zfs r s
 | _,_=>false
end
mutual
theorem Zwc:∀ (x y:AVal),M3 x y=true→x=y
 | .bool a,y,h=>by cases y<;>simp only[M3]at h<;>first|(cases h; done)|(simp at h; rw[h])
 | .int k a,y,h=>by
  cases y<;>simp only[M3]at h<;>first|(cases h; done)|skip
  simp only[bA,beq_iff_eq]at h;rw[h.1,Z6b h.2]
 | .str a,y,h=>by cases y<;>simp only[M3]at h<;>first|(cases h; done)|(rw[Zzy h])
 | .nilPtr,y,h=>by cases y<;>simp only[M3]at h<;>first|(cases h; done)|rfl
 | .nilSl,y,h=>by cases y<;>simp only[M3]at h<;>first|(cases h; done)|rfl
 | .emp,y,h=>by cases y<;>simp only[M3]at h<;>first|(cases h; done)|rfl
 | .nilMap,y,h=>by cases y<;>simp only[M3]at h<;>first|(cases h; done)|rfl
 | .nilFunc,y,h=>by cases y<;>simp only[M3]at h<;>first|(cases h; done)|rfl
 | .nilIface,y,h=>by cases y<;>simp only[M3]at h<;>first|(cases h; done)|rfl
 | .imm a,y,h=>by cases y<;>simp only[M3]at h<;>first|(cases h; done)|(rw[Zpj _ _ h])
 | .agg a,y,h=>by cases y<;>simp only[M3]at h<;>first|(cases h; done)|(rw[Zie _ _ h])
 | .ptr _ _ _,y,h=>by simp[M3]at h
 | .iptr _ _ _,y,h=>by simp[M3]at h
 | .sl _ _ _,y,h=>by simp[M3]at h
 | .map _,y,h=>by simp[M3]at h
 | .yld _,y,h=>by simp[M3]at h
 | .atLeast _,y,h=>by simp[M3]at h
 | .func _ _ _,y,h=>by simp[M3]at h
 | .iface _ _,y,h=>by simp[M3]at h
 | .tuple a,y,h=>by
  cases y<;>simp only[M3]at h<;>first|(cases h; done)|(rw[Zie _ _ h])
 | .bot,y,h=>by simp[M3]at h
theorem Zie:∀ (x y:List AVal),beqL x y=true→x=y
 | [],[],_=>rfl
 | a :: r,b :: s,h=>by
  simp only[beqL,bA]at h;rw[Zwc a b h.1,Zie r s h.2]
 | [],_ :: _,h=>by simp[beqL]at h
 | _ :: _,[],h=>by simp[beqL]at h
theorem Zpj:∀ (x y:List (List AVal)),Zfs x y=true→x=y
 | [],[],_=>rfl
 | a :: r,b :: s,h=>by
  simp only[Zfs,bA]at h;rw[Zie a b h.1,Zpj r s h.2]
 | [],_ :: _,h=>by simp[Zfs]at h
 | _ :: _,[],h=>by simp[Zfs]at h
end
structure Memo where
 g:FuncId
 args:List AVal
 v:AVal
def Memo.Ok(P:Program)(e:Memo):Prop:=∀ m av,ACalls P e.g e.args m av fun r m'=>r=e.v∧m'=m
def Memo.All(P:Program):List Memo→Prop
 | []=>True
 | e :: r=>e.Ok P∧Memo.All P r
def Zhx(a b:Caller):Caller:=fun g args m=>match a g args m with
 | some r=>some r
 | none=>b g args m
theorem Zql{P:Program}{a b:Caller}(ha:P5 P a)(hb:P5 P b):P5 P (Zhx a b):=by
 intro g args m v m' wl h;unfold Zhx at h;cases h1:a g args m with
 | some r=>
  rw[h1]at h;injection h with h
  subst h;exact ha g args m v m' wl h1
 | none=>rw[h1]at h; exact hb g args m v m' wl h
def runM(tab:Nat→Option AFn)(orc:Caller)(g:FuncId)(args:List AVal):Option AVal:=
 match runF tab orc 1000 g args ⟨.nil,1⟩ with
 | some (r,m,_)=>X0 m.tr.get 1000 r
 | none=>none
theorem Z9o{P:Program}(hm:P.follows .mixedOrders=true){tab:Nat→Option AFn}{orc:Caller}(htab:Zd8 P tab)(horc:P5 P orc)(e:Memo)
 (h:(match runM tab orc e.g e.args with|some r=>M3 r e.v&&(Y0 e.args&&e.v.closed)|none=>false)=true):e.Ok P:=by
 intro m av;unfold runM at h;cases hr:runF tab orc 1000 e.g e.args ⟨.nil,1⟩ with
 | none=>simp[hr]at h
 | some rmw=>
  obtain⟨r,m1,wl⟩:=rmw;simp only[hr]at h;cases hf:X0 m1.tr.get 1000 r with
  | none=>simp[hf]at h
  | some y=>
   simp only[hf,bA]at h;obtain⟨h1,h2,h3⟩:=h;have hy:=Zwc _ _ h1;subst hy;obtain⟨_,_,hA⟩:=Zk9 hm htab horc 1000 e.g e.args ⟨.nil,1⟩ r m1 wl hr;exact Zk5 h2 h3 (m0:=(⟨.nil,1⟩:TM).mem) (fun c=>rfl) (Nat.lt_succ_self 0) (hA 0) (fun r' m' hk=>⟨1000,by obtain⟨rfl,rfl⟩:=hk; exact hf⟩) m av
end Go.AE
end
