/- Part 2 of the proof: AeV, AeW, AeX, AeY, AeGa, AeGb, AeGc, AeGd, AeDl, AeRun, AeRunS, AeRunP, AeRunD, AeRunC, AeRunF, AeMemo, AeFz, AeOr. -/
import Derived.Test.YtilmpmlkndfbjaaGreatDoorR1
import Derived.Orders
import Derived.Deep.LoopGhost
import Derived.RangeFuncRecord
set_option linter.all false
section
namespace Go.AE
open Go.RowKit
structure Trace (P:Program) (base:Nat) (as:List AOper) (t0:List AVal) (m0:Mem) (T:Nat→List AVal) (M:Nat→Mem) (V:Nat→AVal) (F:Nat→FT):Prop where
 t0:T 0=t0
 m0:M 0=m0
 step:∀ i b,as[i]? = some b→T (i+1)=put (T i) b.dst (V i) ∧
  ((S6 (T i) b.guard=some false∧V i=aundef∧M (i+1)=M i∧F i=.ops [] []) ∨
   (S6 (T i) b.guard=some true∧(∀ j,j∈b.un→j<i→FT.indep (F j) (F i)) ∧
     ((∃ f xs g args wl x,b.op=.call f xs∧callee (T i) f xs=some (g,args)∧F i=.call wl x (M i).next∧Zfh P g args (base+i) x (M i) (V i) (M (i+1)) wl) ∨
      (stepA (base+i) (T i) (M i) b.op=some (V i,M (i+1))∧F i=.ops (S4 (base+i) (T i) b.op) (J0 (T i) b.op)))))
theorem Zvm{x:Nat}:∀ {l:List Nat},O4 x l→x∉l
 | [],_=>by simp
 | y :: r,h=>by
  simp only[List.mem_cons,not_or];exact⟨h.1,Zvm h.2⟩
theorem Zgf{l:List Nat}:∀ {b:List Nat},N4 b l → ∀ c,c∈b→c∉l
 | [],_,c,a=>by simp at a
 | x :: r,h,c,a=>by
  simp only[List.mem_cons]at a;rcases a with rfl|a
  ·exact Zvm h.1
  ·exact Zgf h.2 c a
theorem Zj2{n:Nat}:∀ {l:List Nat},I0 n l → ∀ c,c∈l→c<n
 | [],_,c,a=>by simp at a
 | x :: r,h,c,a=>by
  simp only[List.mem_cons]at a;rcases a with rfl|a
  ·exact h.1
  ·exact Zj2 h.2 c a
theorem Zxi{x:Nat}:∀ {l:List Nat},in1 x l→x∈l
 | [],h=>h.elim
 | y :: r,h=>by
  rcases h with rfl|h
  ·simp
  ·exact List.mem_cons_of_mem _ (Zxi h)
theorem Zo4{l:List Nat}:∀ {b:List Nat},H4 b l → ∀ c,c∈b→c∈l
 | [],_,c,a=>by simp at a
 | x :: r,h,c,a=>by
  simp only[List.mem_cons]at a;rcases a with rfl|a
  ·exact Zxi h.1
  ·exact Zo4 h.2 c a
theorem FT.indep_spec{f g:FT}(h:FT.indep f g):(∀ c,f.W c=true→g.R c=false∧g.W c=false)∧(∀ c,f.R c=true→g.W c=false)∧(f.isC=true→g.isC=false):=by
 cases f with
 | ops w r=>
  cases g with
  | ops w' s=>
   obtain⟨i,j⟩:=h;refine⟨fun c a=>?_,fun c a=>?_,fun h=>by cases h⟩
   ·simp only[FT.W,List.contains_iff_mem]at a;have:=Zgf i c a;simp only[List.mem_append,not_or]at this;simp[FT.W,FT.R,this.1,this.2]
   ·simp only[FT.R,List.contains_iff_mem]at a;have:=Zgf j c a;simp[FT.W,this]
  | call wl x o=>
   obtain⟨i,j,l,m,n⟩:=h;refine⟨fun c a=>?_,fun c a=>?_,fun h=>by cases h⟩
   ·simp only[FT.W,List.contains_iff_mem]at a;have d:=Zgf l c a;have e:=Zj2 m c a;have k:=Zo4 n c a;simp[FT.W,FT.R,d,k,Nat.not_le.2 e]
   ·simp only[FT.R,List.contains_iff_mem]at a;have d:=Zgf i c a;have e:=Zj2 j c a;simp[FT.W,d,Nat.not_le.2 e]
 | call wl x o=>
  cases g with
  | ops w r=>
   obtain⟨i,j,l,m,n⟩:=h;refine⟨fun c a=>⟨?_,?_⟩,fun c a=>?_,fun _=>rfl⟩
   ·cases b:(FT.ops w r).R c with
    | false=>rfl
    | true=>
     simp only[FT.R,List.contains_iff_mem]at b;have d:=Zgf i c b;have e:=Zj2 j c b;simp[FT.W,d,Nat.not_le.2 e]at a
   ·cases b:(FT.ops w r).W c with
    | false=>rfl
    | true=>
     simp only[FT.W,List.contains_iff_mem]at b;have d:=Zgf l c b;have e:=Zj2 m c b;simp[FT.W,d,Nat.not_le.2 e]at a
   ·cases b:(FT.ops w r).W c with
    | false=>rfl
    | true=>
     simp only[FT.W,List.contains_iff_mem]at b;have k:=Zo4 n c b;simp[FT.R,k]at a
  | call q t p=>exact h.elim
theorem Zuz{b:List FT}{c:FT}:∀ {un:List Nat},S7 b c un → ∀ j,j∈un→FT.indep (b.getD j (.ops [] [])) c
 | [],_,j,a=>by simp at a
 | i :: r,h,j,a=>by
  simp only[List.mem_cons]at a;rcases a with rfl|a
  ·exact h.1
  ·exact Zuz h.2 j a
theorem Z6p{P:Program}{base:Nat}{b:AOper}{c:List AOper}{a:List FT}{K:ASt→Prop}{t:List AVal}{m:Mem}(h:Q4 P base (b :: c) a K t m) :
 (S6 t b.guard=some false∧Q4 P base c (a++[.ops [] []]) K (put t b.dst aundef) m) ∨
 (S6 t b.guard=some true∧((∃ f i g args wl x v m',b.op=.call f i∧callee t f i=some (g,args)∧Zfh P g args (base+a.length) x m v m' wl∧S7 a (.call wl x m.next) b.un∧Q4 P base c (a++[.call wl x m.next]) K (put t b.dst v) m') ∨
   (∃ v m',stepA (base+a.length) t m b.op=some (v,m')∧S7 a (.ops (S4 (base+a.length) t b.op) (J0 t b.op)) b.un∧Q4 P base c (a++[.ops (S4 (base+a.length) t b.op) (J0 t b.op)]) K (put t b.dst v) m'))):=by
 simp only[Q4]at h;cases l:S6 t b.guard with
 | none=>simp[l]at h
 | some q=>
  cases q with
  | false=>simp only[l]at h; exact .inl ⟨rfl,h⟩
  | true=>
   simp only[l]at h;refine .inr ⟨rfl,?_⟩;have e:∀ op,b.op=op→(match stepA (base+a.length) t m op with
    | some (v,m')=>S7 a (.ops (S4 (base+a.length) t op) (J0 t op)) b.un∧Q4 P base c (a++[.ops (S4 (base+a.length) t op) (J0 t op)]) K (put t b.dst v) m'
    | none=>False) →
    ∃ v m',stepA (base+a.length) t m op=some (v,m')∧S7 a (.ops (S4 (base+a.length) t op) (J0 t op)) b.un∧Q4 P base c (a++[.ops (S4 (base+a.length) t op) (J0 t op)]) K (put t b.dst v) m':=by
    intro op _ k;cases n:stepA (base+a.length) t m op with
    | none=>simp[n]at k
    | some r=>obtain ⟨v,m'⟩:=r; simp only[n]at k; exact⟨v,m',rfl,k⟩
   cases d:b.op with
   | call f i=>
    simp only[d]at h;cases j:callee t f i with
    | none=>simp[j]at h
    | some r=>
     obtain⟨g,args⟩:=r;simp only[j]at h;obtain⟨wl,x,v,m',o,p,s⟩:=h;exact .inl ⟨f,i,g,args,wl,x,v,m',rfl,j,o,p,s⟩
   | _=>rw[d]at h; exact .inr (e _ d h)
theorem Z5w{a:List FT}{x d:FT}{j:Nat}(h:j<a.length):(a++[x]).getD j d=a.getD j d:=by
 simp[List.getD,List.getElem?_append_left h]
theorem Zyq{P:Program}{base:Nat}{K:ASt→Prop}:∀ (as:List AOper) (a:List FT) (t:List AVal) (m:Mem),Q4 P base as a K t m →
 ∃(T:Nat→List AVal) (M:Nat→Mem) (V:Nat→AVal) (F:Nat→FT),T a.length=t∧M a.length=m∧(∀ j,j<a.length→F j=a.getD j (.ops [] [])) ∧
  (∀ i b,as[i]? = some b→T (a.length+i+1)=put (T (a.length+i)) b.dst (V (a.length+i)) ∧
    ((S6 (T (a.length+i)) b.guard=some false∧V (a.length+i)=aundef∧M (a.length+i+1)=M (a.length+i)∧F (a.length+i)=.ops [] []) ∨
     (S6 (T (a.length+i)) b.guard=some true∧(∀ j,j∈b.un→j<a.length+i→FT.indep (F j) (F (a.length+i))) ∧
       ((∃ f p g args wl x,b.op=.call f p∧callee (T (a.length+i)) f p=some (g,args)∧F (a.length+i)=.call wl x (M (a.length+i)).next∧Zfh P g args (base+(a.length+i)) x (M (a.length+i)) (V (a.length+i)) (M (a.length+i+1)) wl) ∨
        (stepA (base+(a.length+i)) (T (a.length+i)) (M (a.length+i)) b.op=some (V (a.length+i),M (a.length+i+1))∧F (a.length+i)=.ops (S4 (base+(a.length+i)) (T (a.length+i)) b.op) (J0 (T (a.length+i)) b.op)))))) ∧
  K ⟨T (a.length+as.length),M (a.length+as.length)⟩
 | [],a,t,m,h=>⟨fun _=>t,fun _=>m,fun _=>aundef,fun j=>a.getD j (.ops [] []),rfl,rfl,fun _ _=>rfl,fun i b J=>by simp at J,h⟩
 | b :: c,a,t,m,h=>by
  have key:∃ (d:FT) (v:AVal) (m':Mem),Q4 P base c (a++[d]) K (put t b.dst v) m' ∧
   ((S6 t b.guard=some false∧v=aundef∧m'=m∧d=.ops [] [])∨(S6 t b.guard=some true∧S7 a d b.un ∧
     ((∃ f p g args wl x,b.op=.call f p∧callee t f p=some (g,args)∧d=.call wl x m.next∧Zfh P g args (base+a.length) x m v m' wl)∨(stepA (base+a.length) t m b.op=some (v,m')∧d=.ops (S4 (base+a.length) t b.op) (J0 t b.op))))):=by
   rcases Z6p h with⟨y,H⟩|⟨y,⟨f,p,g,args,wl,x,v,m',q,r,l,u,w⟩|⟨v,m',q,r,l⟩⟩
   ·exact⟨.ops [] [],aundef,m,H,.inl ⟨y,rfl,rfl,rfl⟩⟩
   ·exact⟨_,v,m',w,.inr ⟨y,u,.inl ⟨f,p,g,args,wl,x,q,r,rfl,l⟩⟩⟩
   ·exact⟨_,v,m',l,.inr ⟨y,r,.inr ⟨q,rfl⟩⟩⟩
  obtain⟨d,v,m',n,o⟩:=key;obtain⟨T,M,V,F,q,r,l,u,w⟩:=Zyq c (a++[d]) _ _ n;have L:(a++[d]).length=a.length+1:=by simp
  rw[L]at q r l u w;have I:F a.length=d:=by rw[l _ (Nat.lt_succ_self _)]; simp[List.getD]
  have s:∀ j,j<a.length→F j=a.getD j (.ops [] []):=fun j D=>by rw[l j (by omega),Z5w D]
  refine⟨fun k=>if k=a.length then t else T k,fun k=>if k=a.length then m else M k,fun k=>if k=a.length then v else V k,F,by simp,by simp,s,?_,?_⟩
  ·intro i b' e;cases i with
   | zero=>
    simp only[List.getElem?_cons_zero,oI]at e;subst e;simp only[Nat.add_zero,if_true,show a.length+1≠a.length by omega,if_false,q,r,I]
    refine⟨trivial,?_⟩;rcases o with⟨A,B,C,G⟩|⟨A,B,C⟩
    ·exact .inl ⟨A,B,C,G⟩
    ·refine .inr ⟨A,fun j D E=>?_,C⟩
     rw[s j E];exact Zuz B j D
   | succ i=>
    simp only[List.getElem?_cons_succ]at e;have:=u i b' e;have z:a.length+1+i=a.length+(i+1):=by omega
    rw[z]at this;simp only[show a.length+(i+1)≠a.length by omega,show a.length+(i+1)+1≠a.length by omega,if_false]
    exact this
  ·have z:a.length+(b :: c).length=a.length+1+c.length:=by simp; omega
   simp only[z,show a.length+1+c.length≠a.length by omega,if_false]
   exact w
theorem Z9b{P:Program}{base:Nat}{as:List AOper}{K:ASt→Prop}{t:List AVal}{m:Mem}(h:Q4 P base as [] K t m) :
 ∃ T M V F,Trace P base as t m T M V F∧K ⟨T as.length,M as.length⟩:=by
 obtain⟨T,M,V,F,a,c,g,d,e⟩:=Zyq as [] t m h;refine⟨T,M,V,F,⟨a,c,fun i b f=>?_⟩,by simpa using e⟩
 have:=d i b f;simpa using this
section
variable {P:Program} {base:Nat} {as:List AOper} {t0:List AVal} {m0:Mem} {T:Nat→List AVal} {M:Nat→Mem} {V:Nat→AVal} {F:Nat→FT}
def Zeg(as:List AOper)(x j:Nat):Bool:=
 match as[j]? with
 | some b=>b.dst == some x
 | none=>false
structure StateIs (as:List AOper) (t0:List AVal) (m0:Mem) (M:Nat→Mem) (V:Nat→AVal) (F:Nat→FT) (D:Nat→Bool) (t:List AVal) (m:Mem):Prop where
 len:t.length=t0.length
 tmp:∀ x,x<t0.length→t[x]? = match A0 (fun j=>D j&&Zeg as x j) as.length with|some j=>some (V j)|none=>t0[x]?
 mem:∀ c,m.get c=match A0 (fun j=>D j&&(F j).W c) as.length with|some j=>(M (j+1)).get c|none=>m0.get c
 next:m.next=match A0 (fun j=>D j&&(F j).isC) as.length with|some j=>(M (j+1)).next|none=>m0.next
theorem Z6j(n:Nat):A0 (fun _=>false) n=none:=by
 induction n with
 | zero=>rfl
 | succ n a=>simp[A0,a]
theorem Zxr{p:Nat→Bool}{j:Nat}:∀ {n:Nat},A0 p n=some j→j<n
 | 0,h=>by cases h
 | n+1,h=>by
  simp only[A0]at h;split at h
  ·injection h with h; omega
  ·have:=Zxr h; omega
theorem Zwr:StateIs as t0 m0 M V F (fun _=>false) t0 m0:=by
 refine⟨rfl,fun x _=>?_,fun c=>?_,?_⟩<;>simp only[Bool.false_and,Z6j]
theorem Zkd{D D':Nat→Bool}{t:List AVal}{m:Mem}(h:StateIs as t0 m0 M V F D t m)(b:∀ j,j<as.length→D j=D' j):StateIs as t0 m0 M V F D' t m:=by
 refine⟨h.len,fun x d=>?_,fun c=>?_,?_⟩
 ·rw[h.tmp x d,Zfj as.length fun j a=>by rw[b j a]]
 ·rw[h.mem c,Zfj as.length fun j a=>by rw[b j a]]
 ·rw[h.next,Zfj as.length fun j a=>by rw[b j a]]
theorem Zov{D q:Nat→Bool}{i n:Nat}(hi:i<n)(h:∀ j,i<j→j<n→D j=true→q i=true→q j=false) :
 A0 (fun j=>(D j||j == i)&&q j) n=if q i=true then some i else A0 (fun j=>D j&&q j) n:=by
 cases b:q i with
 | true=>
  rw[if_pos rfl];refine Zxu (by simp[b]) n hi fun j c d=>?_
  cases e:D j with
  | false=>simp; intro f; omega
  | true=>simp[h j c d e b]
 | false=>
  simp only[bF,if_false];refine Zfj n fun j _=>?_
  by_cases a:j=i
  ·subst a; simp[b]
  ·simp[beq_false_of_ne a]
theorem Zum{D:Nat→Bool}{t:List AVal}{m m':Mem}{i:Nat}{b:AOper}(h:StateIs as t0 m0 M V F D t m)(p:as[i]? = some b)
 (n:∀ j c,i<j→D j=true→as[j]? = some c → ∀ d,b.dst=some d→c.dst≠some d)
 (w:∀ j c,i<j→j<as.length→D j=true→(F i).W c=true→(F j).W c=false)
 (r:∀ j,i<j→j<as.length→D j=true→(F i).isC=true→(F j).isC=false)
 (o:∀ c,(F i).W c=false→m'.get c=m.get c) (s:∀ c,(F i).W c=true→m'.get c=(M (i+1)).get c)
 (v:(F i).isC=true→m'.next=(M (i+1)).next) (u:(F i).isC=false→m'.next=m.next) :
 StateIs as t0 m0 M V F (fun j=>D j||j == i) (put t b.dst (V i)) m':=by
 have hi:i<as.length:=(gS.1 p).1;refine⟨?_,fun x z=>?_,fun c=>?_,?_⟩
 ·cases y:b.dst<;>simp[put,h.len]
 ·rw[Zov hi (q:=fun j=>Zeg as x j) (fun j k g l a=>by
   simp only[Zeg,p,beq_iff_eq]at a;have:=n j (as[j]) k l (gE g) x a;simp[Zeg,gE g,this])]
  by_cases f:b.dst=some x
  ·rw[if_pos (by simp[Zeg,p,f])]
   simp only[f,put];rw[List.getElem?_set];simp[h.len,z]
  ·rw[if_neg (by simp[Zeg,p,f]),← h.tmp x z]
   cases y:b.dst with
   | none=>rfl
   | some d=>
    simp only[put];rw[List.getElem?_set];have:d≠x:=fun e=>f (by rw[y,e])
    rw[if_neg this]
 ·rw[Zov hi (q:=fun j=>(F j).W c) (fun j k g l a=>w j c k g l a)]
  cases a:(F i).W c with
  | true=>simp only[if_true]; exact s c a
  | false=>simp only[bF,if_false]; rw[o c a,h.mem c]
 ·rw[Zov hi (q:=fun j=>(F j).isC) (fun j k g l a=>r j k g l a)]
  cases a:(F i).isC with
  | true=>simp only[if_true]; exact v a
  | false=>simp only[bF,if_false]; rw[u a,h.next]
theorem Znn(h:Trace P base as t0 m0 T M V F){i:Nat}{b:AOper}(p:as[i]? = some b) :
 (∀ c,(F i).W c=false→(M (i+1)).get c=(M i).get c)∧((F i).isC=false→(M (i+1)).next=(M i).next)∧(M i).next≤(M (i+1)).next ∧
 (b.op.kind=0→F i=.ops [] [])∧(b.op.kind≤1 → ∀ c,(F i).W c=false):=by
 obtain⟨_,l⟩:=h.step i b p;rcases l with⟨_,_,o,j⟩|⟨_,_,⟨f,w,g,args,wl,x,m,_,k,v,r,s,t,u,c4,n,_⟩|⟨l,k⟩⟩
 ·rw[o,j];exact⟨fun _ _=>rfl,fun _=>rfl,Nat.le_refl _,fun _=>rfl,fun _ _=>rfl⟩
 ·rw[k];refine⟨fun c a=>?_,fun a=>(by cases a),by omega,fun d=>(by rw[m]at d; simp[AOp.kind]at d),fun d=>(by rw[m]at d; simp[AOp.kind]at d)⟩
  simp only[FT.W,Bool.or_eq_false_iff,decide_eq_false_iff_not,Nat.not_le]at a;have q:c∉wl:=fun hm=>by rw[List.contains_iff_mem.2 hm]at a; cases a.1
  rw[c4 c];by_cases e:c∈x
  ·rw[if_pos e]
  ·rw[if_neg e]; exact n c q a.2 e
 ·obtain⟨_,_,j⟩:=Zok (m2:=M i) (fun _ _=>rfl) (fun _ _=>rfl) l
  rw[k];refine⟨fun c a=>j.out1 c (fun hm=>?_),fun _=>j.n1,Nat.le_of_eq j.n1.symm,fun d=>by rw[(Zut d).1,(Zut (id:=base+i) d).2],fun d c=>by rw[Ydd d]; rfl⟩
  simp only[FT.W]at a;rw[List.contains_iff_mem.2 hm]at a; cases a
theorem Zpr(h:Trace P base as t0 m0 T M V F):∀ i,i≤as.length→StateIs as t0 m0 M V F (fun j=>decide (j<i)) (T i) (M i)
 | 0,_=>by
  rw[h.t0,h.m0];exact Zkd Zwr fun j _=>by simp
 | i+1,hi=>by
  have l:=Zpr h i (by omega)
  have e:as[i]? = some as[i]:=gE (by omega)
  obtain⟨g,k,_⟩:=Znn h e;rw[(h.step i _ e).1];refine Zkd (Zum l e (fun j c b a=>by simp at a; omega) (fun j c b _ a=>by simp at a; omega) (fun j b _ a=>by simp at a; omega) g (fun _ _=>rfl) (fun _=>rfl) k) fun j _=>?_
  by_cases d:j=i
  ·subst d; simp
  ·have:(decide (j<i+1))=decide (j<i):=by
    by_cases f:j<i
    ·simp[f,show j<i+1 by omega]
    ·simp[f,show ¬j<i+1 by omega]
   simp[d,this]
theorem Zsv(h:Trace P base as t0 m0 T M V F):∀ i,i≤as.length→m0.next≤(M i).next
 | 0,_=>by rw[h.m0]; exact Nat.le_refl _
 | i+1,hi=>by
  have b:as[i]? = some as[i]:=gE (by omega)
  obtain⟨_,_,a,_⟩:=Znn h b;exact Nat.le_trans (Zsv h i (by omega)) a
theorem Zxg(h:Trace P base as t0 m0 T M V F){D:Nat→Bool}{t:List AVal}{m:Mem}(b:StateIs as t0 m0 M V F D t m):m0.next≤m.next:=by
 rw[b.next];split
 ·rename_i j a;exact Zsv h (j+1) (Zxr a)
 ·exact Nat.le_refl _
theorem Z4x{D:Nat→Bool}{t:List AVal}{m:Mem}{i:Nat}{b:AOper}(n:StateIs as t0 m0 M V F D t m)(l:StateIs as t0 m0 M V F (fun j=>decide (j<i)) (T i) (M i))(o:D i=false)
 (v:∀ j c,j≠i→D j≠decide (j<i)→as[j]? = some c → ∀ d,c.dst=some d→d∉b.looks)
 (hm:∀ j c,j<as.length→j≠i→D j≠decide (j<i)→((F i).R c=true∨(F i).W c=true)→(F j).W c=false)
 (u:∀ j,j<as.length→j≠i→D j≠decide (j<i)→(F i).isC=true→(F j).isC=false) :
 (∀ x,x∈b.looks→t.getD x aundef=(T i).getD x aundef)∧(∀ c,(F i).R c=true∨(F i).W c=true→m.get c=(M i).get c)∧((F i).isC=true→m.next=(M i).next):=by
 refine⟨fun x w=>?_,fun c p=>?_,fun s=>?_⟩
 ·have:t[x]? = (T i)[x]?:=by
   rcases Nat.lt_or_ge x t0.length with k|h
   ·rw[n.tmp x k,l.tmp x k];rw[Zfj (q:=fun j=>decide (j<i)&&Zeg as x j) as.length fun j g=>?_]
    by_cases a:j=i
    ·subst a; simp[o]
    ·by_cases f:D j=decide (j<i)
     ·rw[f]
     ·have:Zeg as x j=false:=by
       simp only[Zeg,gE g];cases r:(as[j]).dst with
       | none=>rfl
       | some d=>
        have:=v j _ a f (gE g) d r;have:d≠x:=fun e=>this (e ▸ w)
        simp[this]
      simp[this]
   ·rw[List.getElem?_eq_none (by rw[n.len]; exact h),List.getElem?_eq_none (by rw[l.len]; exact h)]
  simp only[List.getD,this]
 ·rw[n.mem c,l.mem c];rw[Zfj (q:=fun j=>decide (j<i)&&(F j).W c) as.length fun j g=>?_]
  by_cases a:j=i
  ·subst a; simp[o]
  ·by_cases f:D j=decide (j<i)
   ·rw[f]
   ·simp[hm j c g a f p]
 ·rw[n.next,l.next];rw[Zfj (q:=fun j=>decide (j<i)&&(F j).isC) as.length fun j g=>?_]
  by_cases a:j=i
  ·subst a; simp[o]
  ·by_cases f:D j=decide (j<i)
   ·rw[f]
   ·simp[u j g a f s]
end
end Go.AE
end
section
namespace Go.AE
open Go.RowKit
theorem Zxp{α d:Type}(f:List d→α→d):∀ (l:List α) (a:List d),(l.foldl (fun a o=>a++[f a o]) a).length=a.length+l.length ∧
 (∀ i,i<a.length→(l.foldl (fun a o=>a++[f a o]) a)[i]? = a[i]?) ∧
 ∀ i o,l[i]? = some o→(l.foldl (fun a o=>a++[f a o]) a)[a.length+i]? = some (f ((l.foldl (fun a o=>a++[f a o]) a).take (a.length+i)) o)
 | [],a=>⟨by simp,fun _ _=>rfl,fun i o h=>by simp at h⟩
 | x :: l,a=>by
  obtain⟨e,b,g⟩:=Zxp f l (a++[f a x]);simp only[List.foldl_cons];simp only[List.length_append,List.length_cons,List.length_nil,Nat.zero_add]at e b g;refine⟨by rw[e,List.length_cons]; omega,fun i hi=>by rw[b i (by omega),List.getElem?_append_left hi],fun i o c=>?_⟩
  cases i with
  | zero=>
   simp only[List.getElem?_cons_zero,oI]at c;subst c;rw[Nat.add_zero,b _ (by omega)]
   have:(l.foldl (fun a o=>a++[f a o]) (a++[f a x])).take a.length=a:=by
    apply List.ext_getElem?;intro k;rw[List.getElem?_take];split
    ·rename_i j;rw[b k (by omega),List.getElem?_append_left j]
    ·rename_i j;rw[List.getElem?_eq_none (by omega)]
   rw[this];simp
  | succ i=>
   simp only[List.getElem?_cons_succ]at c;have:=g i o c;rw[show a.length+1+i=a.length+(i+1) by omega]at this
   exact this
theorem Yba{ops:List Oper}{i j:Nat}{o:Oper}(k:ops[i]? = some o)(c:j∈(Zav ops).getD i []):∃ e,e∈o.after.toList∧Region.binds .any e=true∧(e.on=j∨j∈(Zav ops).getD e.on []):=by
 unfold Zav at c ⊢;obtain⟨l,_,g⟩:=Zxp (fun b (o:Oper)=>Zfr [] ((o.after.toList.filter (Region.binds .any)).flatMap fun e=>e.on :: b.getD e.on [])) ops []
 have h:=g i o k;simp only[List.length_nil,Nat.zero_add]at h;generalize m:ops.foldl (fun b o=>b++[Zfr [] ((o.after.toList.filter (Region.binds .any)).flatMap fun e=>e.on :: b.getD e.on [])]) []=L at *
 rw[List.getD,h]at c;simp only[Option.getD_some,Zo5,List.not_mem_nil,false_or,List.mem_flatMap,List.mem_filter,List.mem_cons]at c;obtain⟨e,⟨d,f⟩,a⟩:=c;refine⟨e,d,f,?_⟩;rcases a with a|a
 ·exact .inl a.symm
 ·refine .inr ?_;simp only[List.getD]at a ⊢;rw[List.getElem?_take]at a;split at a
  ·exact a
  ·simp at a
theorem Zv8{as:List AOper}{preds:List (List Nat)}:∀ (l:List AOper) (k i:Nat),(cUns as preds k l)[i]? = (l[i]?).map fun a=>⟨a.dst,a.op,a.guard,cUn as preds (k+i) a.op⟩
 | [],k,i=>by simp[cUns]
 | a :: l,k,i=>by
  cases i with
  | zero=>simp[cUns]
  | succ i=>
   simp only[cUns,List.getElem?_cons_succ];rw[Zv8 l (k+1) i,show k+1+i=k+(i+1) by omega]
theorem Zws{as:List AOper}{preds:List (List Nat)}:∀ (l:List AOper) (k:Nat),(cUns as preds k l).length=l.length
 | [],_=>rfl
 | _ :: l,k=>by simp[cUns,Zws l (k+1)]
theorem Zpu{ops:Array Oper}{listed:Array Bool}(k:listed.size=ops.size){i:Nat}:i∈Region.ready .any ops listed ↔
 i<ops.size∧listed.getD i false=false ∧ ∀ o,ops[i]? = some o → ∀ e,e∈o.after.toList→Region.binds .any e=true→listed.getD e.on false=true:=by
 unfold Region.ready;rw[List.mem_filter,List.mem_range];constructor
 ·rintro⟨b,c⟩;have j:i<listed.size:=by rw[k]; exact b
  have d:ops[i]? = some ops[i]:=Array.getElem?_eq_getElem b;rw[d]at c;simp only[Option.map_some,Option.getD_some,bA,Bool.not_eq_true',Array.all_eq_true',Bool.or_eq_true]at c;refine⟨b,by simpa[Array.getD,j]using c.1,fun o a e g f=>?_⟩
  rw[d]at a; injection a with a; subst a
  rcases c.2 e (by simpa using g)with h|h
  ·rw[f]at h; cases h
  ·exact h
 ·rintro⟨b,c,l⟩;have j:i<listed.size:=by rw[k]; exact b
  have d:ops[i]? = some ops[i]:=Array.getElem?_eq_getElem b;refine⟨b,?_⟩;rw[d];simp only[Option.map_some,Option.getD_some,bA,Bool.not_eq_true',Array.all_eq_true',Bool.or_eq_true];refine⟨by simpa[Array.getD,j]using c,fun e g=>?_⟩
  cases f:Region.binds .any e with
  | false=>exact .inl rfl
  | true=>exact .inr (l _ d e (by simpa using g) f)
theorem Z1v{ops:Array Oper}{listed:Array Bool}(h:listed.size=ops.size)(a:∀ (i:Nat) (o:Oper),ops[i]? = some o → ∀ e,e∈o.after.toList→Region.binds .any e=true→e.on<i)
 (g:Region.ready .any ops listed=[]):∀ i,i<ops.size→listed.getD i false=true:=by
 intro i
 induction i using Nat.strongRecOn with
 | ind i j=>
  intro hi;cases f:listed.getD i false with
  | true=>rfl
  | false=>
   have:i∈Region.ready .any ops listed:=(Zpu h).2 ⟨hi,f,fun o d e c b=>j e.on (a i o d e c b) (by have:=a i o d e c b; omega)⟩
   rw[g]at this;simp at this
theorem B1{listed:Array Bool}{i:Nat}(a:i<listed.size)(j:Nat):(listed.setIfInBounds i true).getD j false=if i=j then true else listed.getD j false:=by
 rw[Array.getD_eq_getD_getElem?,Array.getD_eq_getD_getElem?,Array.getElem?_setIfInBounds];by_cases h:i=j
 ·subst h; simp[a]
 ·simp[h]
theorem Z8b{listed:Array Bool}{n i:Nat}(hi:i<n)(b:i<listed.size)(d:listed.getD i false=false) :
 ((List.range n).filter fun j=>!(listed.setIfInBounds i true).getD j false).length<((List.range n).filter fun j=>!listed.getD j false).length:=by
 have c:((List.range n).filter fun j=>!(listed.setIfInBounds i true).getD j false)=(((List.range n).filter fun j=>!listed.getD j false).filter fun j=>!(listed.setIfInBounds i true).getD j false):=by
  rw[List.filter_filter];refine List.filter_congr fun j _=>?_
  rw[B1 b];by_cases a:i=j
  ·subst a;simp
  ·simp[a]
 rw[c];refine List.length_filter_lt_length_iff_exists.2 ⟨i,?_,?_⟩
 ·rw[List.mem_filter,List.mem_range];exact⟨hi,by simp[d]⟩
 ·rw[B1 b]; simp
section
variable {P:Program} {base:Nat} {as:List AOper} {t0:List AVal} {m0:Mem} {T:Nat→List AVal} {M:Nat→Mem} {V:Nat→AVal} {F:Nat→FT} {ops:Array Oper} {preds:List (List Nat)}
structure Loose (as:List AOper) (F:Nat→FT) (preds:List (List Nat)):Prop where
 slots:∀ i j x y,j<i→as[i]? = some x→as[j]? = some y→j∉preds.getD i []→(∀ d,y.dst=some d→d∉x.looks∧x.dst≠some d) ∧ ∀ d,x.dst=some d→d∉y.looks
 mem:∀ i j x y,j<i→as[i]? = some x→as[j]? = some y→j∉preds.getD i []→(∀ c,(F j).W c=true→(F i).R c=false∧(F i).W c=false)∧(∀ c,(F j).R c=true→(F i).W c=false)∧((F j).isC=true→(F i).isC=false)
theorem Zy9{b:AOper}{x:AOpd}{t a:List AVal}(h:∀ s,s∈b.looks→t.getD s aundef=a.getD s aundef)(c:x∈b.op.opds):ev t x=ev a x:=by
 cases x with
 | tmp i=>
  simp only[ev];refine h i ?_;unfold AOper.looks;exact List.mem_append_left _ (List.mem_filterMap.2 ⟨_,c,rfl⟩)
 | const v=>rfl
 | fn f=>rfl
theorem Zqn{b:AOper}{t a:List AVal}(h:∀ s,s∈b.looks→t.getD s aundef=a.getD s aundef):S6 t b.guard=S6 a b.guard:=by
 unfold S6;cases e:b.guard with
 | none=>rfl
 | some c=>
  obtain⟨d,w⟩:=c;simp only;rw[h d (by unfold AOper.looks; rw[e]; simp)]
theorem Z9i(W:Base)(n0:Nat)(Q:Exit→ASt→Prop)(ae:Pers)(G:Rho)(b2:n0≤base)(bl:as.length=ops.size)
 (bh:∀ (i:Nat) (o:Oper) (b:AOper),ops[i]? = some o→as[i]? = some b→b.dst=o.dst∧b.op=Q3 P o∧Zab ops o.guard=some b.guard)
 (bx:∀ (i:Nat) (o:Oper),ops[i]? = some o → ∀ e,e∈o.after.toList→Region.binds .any e=true→e.on<i)
 (bg:∀ (i j:Nat) (o:Oper),ops[i]? = some o→j∈preds.getD i [] → ∃ e,e∈o.after.toList∧Region.binds .any e=true∧(e.on=j∨j∈preds.getD e.on []))
 (ad:Trace P base as t0 m0 T M V F) (Z:Loose as F preds) (hQ:Q .normal ⟨T as.length,M as.length⟩) (b4:base+as.length≤m0.next) :
 ∀(fuel:Nat) (listed:Array Bool) (t:List AVal) (m:Mem) (Φ:Pers) (ρ:Rho) (a:Act) (w:World),listed.size=ops.size →
  ((List.range ops.size).filter fun j=>!listed.getD j false).length≤fuel→(∀ i j,listed.getD i false=true→j∈preds.getD i []→listed.getD j false=true) →
  StateIs as t0 m0 M V F (fun j=>listed.getD j false) t m→Rel W Φ ρ m w→RL Φ ρ t a.tmps→a.defers=[]→Ext ae G Φ ρ→KeepN n0 G ρ →
  (∀ i,i<as.length→listed.getD i false=false→ρ (base+i)=none)→wpAny P .any ops (lift W ae G n0 Q) fuel listed a w:=by
 have ax:∀ (listed:Array Bool) (t:List AVal) (m:Mem) (Φ:Pers) (ρ:Rho) (a:Act) (w:World),listed.size=ops.size→Region.ready .any ops listed=[] →
  StateIs as t0 m0 M V F (fun j=>listed.getD j false) t m→Rel W Φ ρ m w→RL Φ ρ t a.tmps→a.defers=[]→Ext ae G Φ ρ→KeepN n0 G ρ→lift W ae G n0 Q .normal a w:=by
  intro listed t m Φ ρ a w hs hr B q ht hd he hk;have ay:=Z1v hs bx hr;have C:=Zkd B (D':=fun j=>decide (j<as.length)) fun j I=>by rw[ay j (by rw[← bl]; exact I)]; simp[I]
  have H:=Zpr ad as.length (Nat.le_refl _);have e1:t=T as.length:=by
   apply List.ext_getElem?;intro x;rcases Nat.lt_or_ge x t0.length with E|E
   ·rw[C.tmp x E,H.tmp x E]
   ·rw[List.getElem?_eq_none (by rw[C.len]; exact E),List.getElem?_eq_none (by rw[H.len]; exact E)]
  have e2:m=M as.length:=Mem.ext' (fun c=>by rw[C.mem c,H.mem c]) (by rw[C.next,H.next])
  subst e1; subst e2;have:=Zxg ad H;exact⟨_,Φ,ρ,he,hk,by show n0≤(M as.length).next; omega,q,ht,hd,hQ⟩
 intro fuel
 induction fuel with
 | zero=>
  intro listed t m Φ ρ a w hs k N B q ht hd he hk aq;have J:Region.ready .any ops listed=[]:=by
   cases hr:Region.ready .any ops listed with
   | nil=>rfl
   | cons i r=>
    exfalso;obtain⟨C,H,_⟩:=(Zpu hs).1 (by rw[hr]; simp:i∈Region.ready .any ops listed)
    have:i∈(List.range ops.size).filter fun j=>!listed.getD j false:=List.mem_filter.2 ⟨List.mem_range.2 C,by simp[H]⟩
    have:=List.length_pos_of_mem this;omega
  exact⟨J,ax listed t m Φ ρ a w hs J B q ht hd he hk⟩
 | succ fuel ih=>
  intro listed t m Φ ρ a w hs k N B q ht hd he hk aq;refine⟨fun J=>ax listed t m Φ ρ a w hs J B q ht hd he hk,fun i hi=>?_⟩
  obtain⟨ag,z,bu⟩:=(Zpu hs).1 hi;have a5:i<as.length:=by rw[bl]; exact ag
  have ho:ops[i]? = some ops[i]:=Array.getElem?_eq_getElem ag;have hb:as[i]? = some as[i]:=gE a5;generalize ops[i]=o at ho;generalize as[i]=b at hb;obtain⟨e1,e2,e3⟩:=bh i o b ho hb;have aa:∀ j,j∈preds.getD i []→listed.getD j false=true:=by
   intro j I;obtain⟨e,bq,br,ao⟩:=bg i j o ho I;have bd:=bu o ho e bq br;rcases ao with rfl|ao
   ·exact bd
   ·exact N _ _ bd ao
  have hl:∀ (j:Nat) (c:AOper),j≠i→listed.getD j false≠decide (j<i)→as[j]? = some c → ∀ d,c.dst=some d→d∉b.looks:=by
   intro j c s K af d a3;rcases Nat.lt_or_gt_of_ne s with p|ar
   ·have l:listed.getD j false=false:=by
     cases O:listed.getD j false with
     | false=>rfl
     | true=>rw[O]at K; simp[p]at K
    exact((Z.slots i j b c p hb af (fun hp=>by rw[aa j hp]at l; cases l)).1 d a3).1
   ·have l:listed.getD j false=true:=by
     cases O:listed.getD j false with
     | true=>rfl
     | false=>rw[O]at K; simp[show ¬j<i by omega]at K
    exact(Z.slots j i c b ar af hb (fun hp=>by rw[N j i l hp]at z; cases z)).2 d a3
  have bm:∀ (j:Nat),j<as.length→j≠i→listed.getD j false≠decide (j<i) →
   (∀ c,(F j).W c=true→(F i).R c=false∧(F i).W c=false)∧((F j).isC=true→(F i).isC=false):=by
   intro j I s K;have hy:as[j]? = some as[j]:=gE I;rcases Nat.lt_or_gt_of_ne s with p|ar
   ·have l:listed.getD j false=false:=by
     cases O:listed.getD j false with
     | false=>rfl
     | true=>rw[O]at K; simp[p]at K
    obtain⟨C,_,h3⟩:=Z.mem i j b _ p hb hy (fun hp=>by rw[aa j hp]at l; cases l)
    exact⟨C,h3⟩
   ·have l:listed.getD j false=true:=by
     cases O:listed.getD j false with
     | true=>rfl
     | false=>rw[O]at K; simp[show ¬j<i by omega]at K
    obtain⟨C,H,h3⟩:=Z.mem j i _ b ar hy hb (fun hp=>by rw[N j i l hp]at z; cases z)
    refine⟨fun c k=>⟨?_,?_⟩,fun k=>?_⟩
    ·cases O:(F i).R c with
     | false=>rfl
     | true=>rw[H c O]at k; cases k
    ·cases O:(F i).W c with
     | false=>rfl
     | true=>rw[(C c O).2]at k; cases k
    ·cases O:(F i).isC with
     | false=>rfl
     | true=>rw[h3 O]at k; cases k
  have hm:∀ (j c:Nat),j<as.length→j≠i→listed.getD j false≠decide (j<i)→((F i).R c=true∨(F i).W c=true)→(F j).W c=false:=by
   intro j c I s K X;cases hw:(F j).W c with
   | false=>rfl
   | true=>
    obtain⟨C,H⟩:=(bm j I s K).1 c hw;rcases X with h|h
    ·rw[C]at h; cases h
    ·rw[H]at h; cases h
  have a0:∀ (j:Nat),j<as.length→j≠i→listed.getD j false≠decide (j<i)→(F i).isC=true→(F j).isC=false:=by
   intro j I s K k;cases hw:(F j).isC with
   | false=>rfl
   | true=>rw[(bm j I s K).2 hw]at k; cases k
  have bj:=Zpr ad i (by omega)
  obtain⟨U,ai,bz⟩:=Z4x B bj z hl hm a0;have ak:∀ (j:Nat) (c:AOper),i<j→listed.getD j false=true→as[j]? = some c → ∀ d,b.dst=some d→c.dst≠some d:=fun j c au l af d bp=>
   ((Z.slots j i c b au af hb (fun hp=>by rw[N j i l hp]at z; cases z)).1 d bp).2
  have al:∀ (j c:Nat),i<j→j<as.length→listed.getD j false=true→(F i).W c=true→(F j).W c=false:=fun j c au I l X=>hm j c I (by omega) (by rw[l]; simp; omega) (.inr X)
  have am:∀ (j:Nat),i<j→j<as.length→listed.getD j false=true→(F i).isC=true→(F j).isC=false:=fun j au I l X=>a0 j I (by omega) (by rw[l]; simp; omega) X
  have b3:=Zxg ad B;obtain⟨_,aw⟩:=ad.step i b hb;have a7:i<listed.size:=by rw[hs]; exact ag
  have ac:∀ j,(listed.setIfInBounds i true).getD j false=(listed.getD j false||j == i):=by
   intro j;rw[B1 a7];by_cases s:i=j
   ·subst s; simp
   ·have:(j == i)=false:=beq_false_of_ne fun e=>s e.symm
    simp[s,this]
  have a2:((List.range ops.size).filter fun j=>!(listed.setIfInBounds i true).getD j false).length≤fuel:=by
   have:=Z8b (listed:=listed) (n:=ops.size) ag a7 z;omega
  have a1:∀ S j,(listed.setIfInBounds i true).getD S false=true→j∈preds.getD S []→(listed.setIfInBounds i true).getD j false=true:=by
   intro S j C H;rw[ac]at C ⊢;by_cases a6:S=i
   ·subst a6;rw[aa j H]; rfl
   ·rw[beq_false_of_ne a6,Bool.or_false]at C;rw[N S j C H]; rfl
  have a4:∀ (ρ':Rho),(∀ c,c<m.next→c≠base+i→ρ c=none→ρ' c=none) → ∀ S,S<as.length→(listed.setIfInBounds i true).getD S false=false→ρ' (base+S)=none:=by
   intro ρ' aj S bt ah;rw[ac]at ah;have av:S≠i:=fun e=>by subst e; simp at ah
   rw[beq_false_of_ne av,Bool.or_false]at ah;exact aj _ (by omega) (by omega) (aq S bt ah)
  have next:∀ (m':Mem) (A:Pers) (ρ':Rho) (u:Value) (w':World),Ext Φ ρ A ρ'→(∀ c,c<m.next→c≠base+i→ρ c=none→ρ' c=none)→Rel W A ρ' m' w'→R A ρ' (V i) u →
   (∀ c,(F i).W c=false→m'.get c=m.get c)→(∀ c,(F i).W c=true→m'.get c=(M (i+1)).get c)→((F i).isC=true→m'.next=(M (i+1)).next)→((F i).isC=false→m'.next=m.next) →
   wpAny P .any ops (lift W ae G n0 Q) fuel (listed.setIfInBounds i true) (a.put o.dst u) w':=by
   intro m' A ρ' u w' hE aj ab E bf bw bc bb;refine ih (listed.setIfInBounds i true) (put t b.dst (V i)) m' A ρ' _ w' (by simpa using hs) a2 a1 ?_ ab (by rw[← e1]; exact(ht.ext hE).put b.dst E) (by rw[Zaw]; exact hd) (he.trans hE)
    (fun c k h0=>aj c (by omega) (by omega) (hk c k h0)) (a4 ρ' aj)
   exact Zkd (Zum B hb ak al am bf bw bc bb) fun j _=>(ac j).symm
  have a9:=aq i a5 z;have p:base+i<m.next:=by omega
  unfold wpOp;rw[ho];simp only;rcases aw with⟨hw,hV,hM,L⟩|⟨hw,_,⟨f,xs,g,args,wl,x,be,az,L,m3,bv,c1,c2,c3,c4,c5,hA⟩|⟨b0,L⟩⟩
  ·rw[Ze2 ht e3 (by rw[Zqn U]; exact hw),if_neg (by simp)]
   exact next m Φ ρ undef w (.refl _ _) (fun _ _ _ h=>h) q (by rw[hV]; exact Zfa _ _) (fun _ _=>rfl) (fun c k=>by rw[L]at k; cases k) (fun k=>by rw[L]at k; cases k) (fun _=>rfl)
  ·rw[Ze2 ht e3 (by rw[Zqn U]; exact hw),if_pos rfl]
   refine .inl ?_;have an:callee t f xs=some (g,args):=by
    rw[Zzs (t2:=T i) fun x E=>Zy9 U (by rw[be]; exact E)]
    exact az
   have ba:m.next=(M i).next:=bz (by rw[L]; rfl)
   have a8:∀ c,c∉x→m.get c=(M i).get c:=fun c k=>ai c (.inl (by rw[L]; simp[FT.R,k]))
   ·have bn:=Z5o bv c1 c2 hA a8 ba;refine Zri ht q a9 p o (by rw[← e2]; exact be) an bn fun A ρ' y m' u w' hE Y ab E b1 hK=>?_
    obtain⟨rfl,rfl⟩:=hK;refine next _ A ρ' u w' hE Y ab E (fun c k=>?_) (fun c k=>?_) (fun _=>c3.symm) (fun k=>by rw[L]at k; cases k)
    ·simp only;by_cases v:c∈x
     ·rw[if_pos v]
     ·rw[if_neg v,a8 c v];rw[L]at k;simp only[FT.W,Bool.or_eq_false_iff,decide_eq_false_iff_not,Nat.not_le]at k;exact c5 c (fun hm=>by rw[List.contains_iff_mem.2 hm]at k; cases k.1) k.2 v
    ·simp only;rw[c4 c];by_cases v:c∈x
     ·rw[if_pos v,if_pos v]; exact ai c (.inr k)
     ·rw[if_neg v,if_neg v]
  ·rw[Ze2 ht e3 (by rw[Zqn U]; exact hw),if_pos rfl]
   refine .inl ?_;have bs:∀ x,x∈b.op.opds→ev t x=ev (T i) x:=fun x E=>Zy9 U E
   obtain⟨m2,bi,D⟩:=Zok (m2:=m) (fun c k=>ai c (.inl (by rw[L]; simp[FT.R,k]))) (fun c k=>ai c (.inr (by rw[L]; simp[FT.W,k]))) b0
   rw[← Z8l bs,e2]at bi;refine Zk1 ht q a9 p o bi fun A ρ' u w' hE Y ab E=>?_
   refine next m2 A ρ' u w' hE (fun c _ av h0=>Y c av h0) ab E (fun c k=>D.out2 c fun hm=>?_) (fun c k=>D.ins c ?_) (fun k=>by rw[L]at k; cases k) (fun _=>D.n2)
   ·rw[L]at k; simp only[FT.W]at k; rw[List.contains_iff_mem.2 hm]at k; cases k
   ·rw[L]at k; simp only[FT.W,List.contains_iff_mem]at k; exact k
end
end Go.AE
end
section
namespace Go.AE
open Go.RowKit
variable {P:Program}
theorem Yag{ops:Array Oper}{as:List AOper}{preds:List (List Nat)}(h:Zjn ops as preds=true) :
 (∀(i:Nat) (o:Oper),ops[i]? = some o → ∀ e,e∈o.after.toList→Region.binds .any e=true→e.on<i) ∧
 ∀(i j:Nat) (x y:AOper),j<i→i<ops.size→as[i]? = some x→as[j]? = some y→j∉preds.getD i []→y.apart x=true:=by
 unfold Zjn at h;simp only[bA,List.all_eq_true,List.mem_range]at h;obtain⟨c,d⟩:=h;refine⟨fun i o b e g f=>?_,fun i j x y a hi l m k=>?_⟩
 ·have hi:i<ops.size:=(Array.getElem?_eq_some_iff.1 b).1;have:=c i hi;rw[b]at this;simp only[List.all_eq_true,Bool.or_eq_true,Bool.not_eq_true',decide_eq_true_eq]at this;rcases this e g with h|h
  ·rw[f]at h; cases h
  ·exact h
 ·have:=d i hi j a;simp only[Bool.or_eq_true,List.contains_iff_mem]at this;rcases this with h|h
  ·exact absurd h k
  ·rw[l,m]at h;exact h
theorem Z8u{x y:AOper}(h:x.apart y=true):(∀ d,x.dst=some d→d∉y.looks∧y.dst≠some d) ∧ ∀ d,y.dst=some d→d∉x.looks:=by
 unfold AOper.apart at h;simp only[bA]at h;obtain⟨a,b⟩:=h;refine⟨fun d c=>?_,fun d c=>?_⟩
 ·rw[c]at a;simp only[bA,Bool.not_eq_true',bne_iff_ne]at a;exact⟨fun hm=>by rw[List.contains_iff_mem.2 hm]at a; exact absurd a.1 (by simp),a.2⟩
 ·rw[c]at b;simp only[Bool.not_eq_true']at b;exact fun hm=>by rw[List.contains_iff_mem.2 hm]at b; cases b
theorem Zq2(hm:P.follows .mixedOrders=true){id:Nat}{ops:Array Oper}{Q:Exit→ASt→Prop}{E:ASt}(h:wpc P (Y1 P (.region id ops true)) Q E):AWp P (.region id ops true) Q E:=by
 intro W Φ ρ a w hr ht hd;simp only[Y1]at h;cases g:I9 P ops ops.toList with
 | none=>simp[g,wpc]at h
 | some k=>
  simp only[g]at h;split at h
  ·rename_i aa;simp only[wpc]at h;obtain⟨h1,h2⟩:=Zkh P ops _ _ g;obtain⟨Y,N⟩:=Yag aa;generalize G:cUns k (Zav ops.toList) 0 k=as at h;have C:as.length=ops.size:=by rw[← G,Zws,h1]; simp
   have d:∀ (i:Nat) (b:AOper),as[i]? = some b → ∃ b0,k[i]? = some b0∧b=⟨b0.dst,b0.op,b0.guard,cUn k (Zav ops.toList) i b0.op⟩:=by
    intro i b s;rw[← G,Zv8,Nat.zero_add]at s;cases h0:k[i]? with
    | none=>rw[h0]at s; cases s
    | some b0=>
     rw[h0]at s;injection s with s
     exact⟨b0,rfl,s.symm⟩
   obtain⟨T,M,V,F,z,hQ⟩:=Z9b h;have X:Loose as F (Zav ops.toList):=by
    refine⟨fun i j x y u D L hp=>?_,fun i j x y u D L hp=>?_⟩
    ·obtain⟨x0,p,rfl⟩:=d i x D;obtain⟨y0,q,rfl⟩:=d j y L;have hi:i<ops.size:=by rw[← C]; exact(gS.1 D).1
     exact Z8u (N i j x0 y0 u hi p q hp)
    ·obtain⟨_,_,_,U,I⟩:=Znn z L;obtain⟨_,_,_,S,B⟩:=Znn z D;have A:F j=.ops [] []→(∀ c,(F j).W c=true→(F i).R c=false∧(F i).W c=false)∧(∀ c,(F j).R c=true→(F i).W c=false)∧((F j).isC=true→(F i).isC=false):=by
      intro e; rw[e];exact⟨fun c g=>(by cases g),fun c g=>(by cases g),fun g=>(by cases g)⟩
     have f:F i=.ops [] []→(∀ c,(F j).W c=true→(F i).R c=false∧(F i).W c=false)∧(∀ c,(F j).R c=true→(F i).W c=false)∧((F j).isC=true→(F i).isC=false):=by
      intro e; rw[e];exact⟨fun c _=>⟨rfl,rfl⟩,fun c _=>rfl,fun _=>rfl⟩
     by_cases H:y.op.kind≤1∧x.op.kind≤1
     ·refine⟨fun c g=>?_,fun c _=>B H.2 c,fun g=>?_⟩
      ·rw[I H.1 c]at g; cases g
      ·cases v:(F i).isC with
       | false=>rfl
       | true=>
        cases K:F i with
        | ops w r=>rw[K]at v; cases v
        | call wl xx nx=>
         have:=B H.2 nx;rw[K]at this;simp[FT.W]at this
     ·by_cases q:y.op.kind=0
      ·exact A (U q)
      ·by_cases p:x.op.kind=0
       ·exact f (S p)
       ·obtain⟨_,hs⟩:=z.step i x D;rcases hs with⟨_,_,_,K⟩|⟨_,ab,_⟩
        ·exact f K
        ·refine FT.indep_spec (ab j ?_ u);obtain⟨x1,ad,rfl⟩:=d i x D;obtain⟨y1,ac,rfl⟩:=d j y L;simp only at H q p ⊢;unfold cUn;rw[List.mem_filter,List.mem_range];refine⟨u,?_⟩;rw[ac];simp only[bA,Bool.not_eq_true',bne_iff_ne,ne_eq];refine⟨?_,⟨?_,q⟩,p⟩
         ·cases v:((Zav ops.toList).getD i []).contains j with
          | false=>rfl
          | true=>exact absurd (List.contains_iff_mem.1 v) hp
         ·cases v:(decide (y1.op.kind≤1)&&decide (x1.op.kind≤1))with
          | false=>rfl
          | true=>simp at v; exact absurd v H
   have J:∀ (i:Nat) (o:Oper) (b:AOper),ops[i]? = some o→as[i]? = some b→b.dst=o.dst∧b.op=Q3 P o∧Zab ops o.guard=some b.guard:=by
    intro i o b Z s;obtain⟨b0,O,rfl⟩:=d i b s;exact h2 i o b0 (by simpa using Z) O
   refine wp_region_any hm (Z9i W E.m.next Q Φ ρ (Nat.le_refl _) C J Y (fun i j o Z hj=>Yba (by simpa using Z) hj) z X hQ (by simp) ops.size (Array.replicate ops.size false) E.t _ Φ ρ a _
    (by simp) ?_ ?_ ?_ ((hr.at_ (n:=E.m.next+as.length) (by omega)).drew) ht hd (.refl _ _) (.refl _ _) ?_)
   ·have:=List.length_filter_le (fun j=>!(Array.replicate ops.size false).getD j false) (List.range ops.size)
    simpa using this
   ·intro i j hi;simp[Array.getD]at hi
   ·refine Zkd Zwr fun j _=>?_
    simp[Array.getD]
   ·intro j _ _;cases v:ρ (E.m.next+j)with
    | none=>rfl
    | some l=>have:=hr.fresh _ _ v; omega
  ·simp[wpc]at h
theorem Zjr(hm:P.follows .mixedOrders=true)(c:Code)(Q:Exit→ASt→Prop)(b:ASt)(h:wpc P (Y1 P c) Q b):AWp P c Q b:=
 Yam (fun _ _ a _ _ h=>match a,h with|false,h=>Zwz h|true,h=>Zq2 hm h) c Q b h
end Go.AE
end
section
namespace Go.AE
open Go.RowKit
variable {P:Program}
def Zac(t:List AVal)(m:Mem):Nat×Option (Option Nat)→Option AVal
 | (i,none)=>some (t.getD i aundef)
 | (i,some n)=>Zc1 m n (t.getD i aundef)
def D8(t:List AVal)(m:Mem):List (Nat×Option (Option Nat))→Option (List AVal)
 | []=>some []
 | x :: r=>match Zac t m x,D8 t m r with
  | some y,some ys=>some (y :: ys)
  | _,_=>none
def L6(t:List AVal)(m:Mem):List (Nat×Option (Option Nat))→Option AVal
 | [x]=>Zac t m x
 | xs=>match D8 t m xs with
  | some ys=>some (.tuple ys)
  | none=>none
def retK(rs:List (Nat×Option (Option Nat)))(K:AVal→Mem→Prop):Exit→ASt→Prop
 | .normal,σ=>match L6 σ.t σ.m rs with
  | some r=>K r σ.m
  | none=>False
 | .ret,σ=>match L6 σ.t σ.m rs with
  | some r=>K r σ.m
  | none=>False
 | _,_=>False
section
variable {W:Base} {Φ:Pers} {ρ:Rho} {w:World} {m:Mem} {t:List AVal} {vs:Array Value}
theorem Z6u(k:Rel W Φ ρ m w)(l:RL Φ ρ t vs){x:ResultVar}{y:Nat×Option (Option Nat)}(f:Zke P x=some y){z:AVal}(d:Zac t m y=some z) :
 ∃ u,(match x with | .tmp t=>pure (vs.getD t undef) | .cell a t=>do loadVar t (← asAddr (vs.getD a undef)):Sem Value).run P w=.ok u w∧R Φ ρ z u:=by
 cases x with
 | tmp i=>
  simp only[Zke,oI]at f;subst f;simp only[Zac,oI]at d;subst d;exact⟨_,rfl,l.get i⟩
 | cell a ty=>
  simp only[Zke,Option.map_eq_some_iff]at f;obtain⟨n,q,rfl⟩:=f;simp only[Zac]at d;have h:=l.get a;obtain⟨u,g,p⟩:=Zvg k h q d;refine⟨u,?_,p⟩;unfold Zc1 at d;cases b:Za9 m (t.getD a aundef)with
  | none=>rw[b]at d; cases d
  | some s=>
   obtain⟨row,j⟩:=s;obtain⟨B,o,c,e,fz,r,v,_⟩:=Zzb k h b;simp only[r,Instr.loadAt,Instr.sureAddr,Sem.run_bind,Sem.run_pure,Result.andThen_ok,asAddr]at g ⊢;exact g
def Zi8(vs:Array Value)(x:ResultVar):Sem Value:=
 match x with
 | .tmp t=>pure (vs.getD t undef)
 | .cell a t=>do loadVar t (← asAddr (vs.getD a undef))
theorem Zrz(s:Rel W Φ ρ m w)(v:RL Φ ρ t vs):∀ (l:List ResultVar) (n:List (Nat×Option (Option Nat))) (j:List AVal),Zad P l=some n→D8 t m n=some j →
 ∃ k:List Value,(l.mapM (Zi8 vs)).run P w=.ok k w∧k.length=j.length∧j.length=n.length ∧ ∀(i:Nat) (z:AVal) (u:Value),j[i]? = some z→k[i]? = some u→R Φ ρ z u
 | [],n,j,d,e=>by
  simp only[Zad,oI]at d;subst d;simp only[D8,oI]at e;subst e;exact⟨[],rfl,rfl,rfl,fun i z u h=>by simp at h⟩
 | x :: l,n,j,d,e=>by
  simp only[Zad]at d;cases p:Zke P x with
  | none=>simp[p]at d
  | some y=>
   cases f:Zad P l with
   | none=>simp[p,f]at d
   | some o=>
    simp only[p,f,oI]at d;subst d;simp only[D8]at e;cases c:Zac t m y with
    | none=>simp[c]at e
    | some z=>
     cases g:D8 t m o with
     | none=>simp[c,g]at e
     | some r=>
      simp only[c,g,oI]at e;subst e;obtain⟨u,A,B⟩:=Z6u s v p c;obtain⟨k,C,D,E,F⟩:=Zrz s v l o r f g;refine⟨u :: k,?_,by simp[D],by simp[E],fun i H G b a=>?_⟩
      ·rw[List.mapM_cons];have q:(Zi8 vs x).run P w=.ok u w:=A;simp only[Sem.run_bind,q,C,Result.andThen_ok,Sem.run_pure]
      ·cases i with
       | zero=>
        simp only[List.getElem?_cons_zero,oI]at b a;subst b; subst a;exact B
       | succ i=>
        simp only[List.getElem?_cons_succ]at b a;exact F i H G b a
theorem Zh3(D:Rel W Φ ρ m w)(E:RL Φ ρ t vs){fn:Func}{n:List (Nat×Option (Option Nat))}{z:AVal}(p:Zad P fn.results.toList=some n)(f:L6 t m n=some z) :
 ∃ u,(results fn vs).run P w=.ok u w∧R Φ ρ z u:=by
 have o:∀ c:List Value,(fn.results.toList.mapM (Zi8 vs)).run P w=.ok c w→(results fn vs).run P w=.ok (if h:c.toArray.size=1 then c.toArray[0]else .tuple c.toArray) w:=by
  intro c h;have C:results fn vs=(do let c ← fn.results.mapM (Zi8 vs); pure (if h:c.size=1 then c[0]else .tuple c):Sem Value):=by
   unfold results;have:(fun x:ResultVar=>(match x with | .tmp t=>pure (vs.getD t undef) | .cell a t=>do loadVar t (← asAddr (vs.getD a undef)):Sem Value))=Zi8 vs:=by
    funext x; cases x<;>rfl
   rw[← this];rfl
  rw[C,Array.mapM_eq_mapM_toList];simp only[Sem.run_bind,Sem.run_map,h,Result.andThen_ok,Sem.run_pure]
 have q:∃ d,D8 t m n=some d∧(z=match d with|[x]=>x|_=>.tuple d):=by
  unfold L6 at f;split at f
  ·rename_i x;exact⟨[z],by simp[D8,f],rfl⟩
  ·split at f<;>first|(cases f; done)|skip
   rename_i j _ d e;injection f with f
   refine⟨d,e,?_⟩;subst f;cases d with
   | nil=>rfl
   | cons a r=>
    cases r with
    | nil=>
     exfalso;have B:n.length=1:=by
      have:∀ (l:List (Nat×Option (Option Nat))) (d:List AVal),D8 t m l=some d→d.length=l.length:=by
       intro l
       induction l with
       | nil=>intro d h; simp only[D8,oI]at h; subst h; rfl
       | cons x l G=>
        intro d h;simp only[D8]at h;split at h<;>first|(cases h; done)|skip
        rename_i y n s g;injection h with h; subst h
        simp[G _ g]
      simpa using (this _ _ e).symm
     cases n with
     | nil=>simp at B
     | cons y r=>cases r with
      | nil=>exact j y rfl
      | cons _ _=>simp at B
    | cons b r=>rfl
 obtain⟨d,e,k⟩:=q;obtain⟨c,s,g,H,A⟩:=Zrz D E _ _ d p e;refine⟨_,o c s,?_⟩;cases d with
 | nil=>
  have:c=[]:=by simpa using g
  subst this;subst k;exact .tuple [] _ rfl fun i x v h=>by simp at h
 | cons I r=>
  cases r with
  | nil=>
   cases c with
   | nil=>simp at g
   | cons u r=>
    cases r with
    | cons _ _=>simp at g
    | nil=>
     subst k;exact A 0 _ u rfl rfl
  | cons J r=>
   subst k;have j:¬c.toArray.size=1:=by simp[g]
   rw[dif_neg j];exact .tuple _ _ (by simp[g]) fun i x v p F=>A i x v p (by simpa using F)
end
theorem Z2i(hm:P.follows .mixedOrders=true){f:FuncId}{fn:Func}{z:AFn}{args:List AVal}{m:Mem}{G:List Nat}{K:AVal→Mem→Prop}(I:P.funcs[f]? = some fn)(g:cFn P fn=some z)
 (h:wpc P z.body (retK z.results K) ⟨args++List.replicate (z.ntmps - args.length) aundef,m⟩):ACalls P f args m G K:=by
 unfold cFn at g;cases j:fn.body with
 | none=>simp[j]at g
 | some c=>
  cases o:Zad P fn.results.toList with
  | none=>simp[j,o]at g
  | some F=>
   simp only[j,o]at g;split at g<;>first|(cases g; done)|skip
   rename_i n;injection g with g
   subst g;refine⟨⟨fn,I,by simpa using n,by rw[j]; rfl⟩,fun W Φ ρ vs w hr B Z=>?_⟩
   have ht:RL Φ ρ (args++List.replicate (fn.ntmps - args.length) aundef) (vs++Array.replicate (fn.ntmps - vs.size) undef):=by
    refine⟨by simp[B.1],fun i x v A y=>?_⟩
    rw[List.getElem?_append]at A;rw[Array.getElem?_append,B.1]at y;split at A
    ·rename_i D;rw[if_pos D]at y;exact B.2 i x v A y
    ·rename_i C;rw[if_neg C]at y;have L:x=aundef:=by
      have:=gS.1 A;obtain⟨_,k⟩:=this;simpa using k.symm
     have M:v=undef:=by
      have:=Array.getElem?_eq_some_iff.1 y;obtain⟨_,k⟩:=this;simpa using k.symm
     subst L; subst M;exact Zfa _ _
   have hs:=Zjr hm c (retK F K) ⟨_,m⟩ h W Φ ρ { tmps:=vs++Array.replicate (fn.ntmps - vs.size) undef,defers:=[] } w hr ht rfl;refine calls_of_wp I j (wp_mono hs fun e a w' hl=>?_)
   obtain⟨q,d,ρ',S,U,V,H,X,Y,p⟩:=hl;have s:(match L6 q.t q.m F with|some r=>K r q.m|none=>False)→a.defers=[] ∧ ∃ v,(results fn a.tmps).run P w'=.ok v w' ∧
    ∃ J r m' d ρ',Ending.returned v=.returned J∧Ext Φ ρ d ρ'∧(∀ b,b<m.next→b∉G→ρ b=none→ρ' b=none)∧Rel W d ρ' m' w'∧R d ρ' r J∧m.next≤m'.next∧K r m':=by
    intro k;cases E:L6 q.t q.m F with
    | none=>simp[E]at k
    | some r=>
     simp only[E]at k;obtain⟨u,N,O⟩:=Zh3 H X o E;exact⟨Y,u,N,u,r,q.m,d,ρ',rfl,S,fun b j _ Q=>U b j Q,H,O,V,k⟩
   cases e with
   | normal=>exact s p
   | ret=>exact s p
   | exit i=>exact p.elim
   | goto l=>exact p.elim
   | panic ch=>exact p.elim
   | outgrown=>exact p.elim
theorem ACalls.mono{f:FuncId}{args:List AVal}{m:Mem}{d:List Nat}{K c:AVal→Mem→Prop}(h:ACalls P f args m d K)(s:∀ r m',K r m'→c r m'):ACalls P f args m d c:=
 ⟨h.1,fun W Φ ρ vs w t p a=>(h.2 W Φ ρ vs w t p a).mono fun e w' q=>by
  obtain⟨v,r,m',b,ρ',g,i,j,k,l,n,o⟩:=q;exact⟨v,r,m',b,ρ',g,i,j,k,l,n,s _ _ o⟩⟩
theorem ACalls.weak{f:FuncId}{args:List AVal}{m:Mem}{j:List Nat}{K:AVal→Mem→Prop}(h:ACalls P f args m j fun r l=>∃ a m',ASt.Weak ⟨[a],m'⟩ ⟨[r],l⟩∧K a m'):ACalls P f args m j K:=
 ⟨h.1,fun W Φ ρ vs w C z b=>(h.2 W Φ ρ vs w C z b).mono fun e w' A=>by
  obtain⟨v,r,l,d,ρ',o,p,q,s,t,y,a,m',k,B⟩:=A;obtain⟨g,n,E,F⟩:=k.rel W d ρ' #[v] w' s ⟨rfl,fun i x u c D=>by
   cases i with
   | zero=>
    simp only[List.getElem?_cons_zero,oI]at c;have:v=u:=by simpa using D
    subst c; subst this; exact t
   | succ i=>simp at c⟩
  exact⟨v,a,m',g,ρ',o,p.trans n,q,E,F.2 0 a v rfl rfl,Nat.le_trans y k.next,B⟩⟩
end Go.AE
end
section
namespace Go.AE
open Go.RowKit
abbrev RegW:=Bool→List AOper→(ASt→Prop)→ASt→Prop
def T3(wr:RegW)(sc:Bool):ACode→(Exit→ASt→Prop)→ASt→Prop
 | .skip,Q,σ=>Q .normal σ
 | .region d ops,Q,σ=>wr d ops (Q .normal) σ
 | .seq a b,Q,σ=>T3 wr sc a (Zkk (T3 wr sc b Q) Q) σ
 | .cond c a b,Q,σ=>match ev σ.t c with
  | .bool true=>T3 wr sc a Q σ
  | .bool false=>T3 wr sc b Q σ
  | _=>False
 | .block id c,Q,σ=>T3 wr sc c (Zaz id Q) σ
 | .loop c,Q,σ=>∃ (I:Nat→ASt→Prop),(∃ n σ0,ASt.Weak σ0 σ∧I n σ0) ∧ ∀ n σ1,I n σ1→T3 wr sc c (Zkk (fun σ'=>∃ k σ0,k<n∧ASt.Weak σ0 σ'∧I k σ0) Q) σ1
 | .exit id,Q,σ=>Q (.exit id) σ
 | .scope c,Q,σ=>sc=true∧T3 wr sc c (Zoc Q) σ
 | .label _,Q,σ=>Q .normal σ
 | .ret,Q,σ=>Q .ret σ
 | .bad,_,_=>False
def Zfb(W:Base)(D:List Deferred)(Φ:Pers)(ρ:Rho)(n:Nat)(Q:Exit→ASt→Prop)(e:Exit)(a:Act)(w:World):Prop:=
 ∃ σ Φ' ρ',Ext Φ ρ Φ' ρ'∧KeepN n ρ ρ'∧n≤σ.m.next∧Rel W Φ' ρ' σ.m w∧RL Φ' ρ' σ.t a.tmps∧a.defers=D∧Q e σ
theorem Zy5{W:Base}{D:List Deferred}{Φ b:Pers}{ρ ρ':Rho}{n g:Nat}{Q:Exit→ASt→Prop}{e:Exit}{a:Act}{w:World}(q:Ext Φ ρ b ρ')(r:KeepN n ρ ρ')(f:n≤g)
 (h:Zfb W D b ρ' g Q e a w):Zfb W D Φ ρ n Q e a w:=by
 obtain⟨s,c,d,i,j,k,l,m,o,p⟩:=h;exact⟨s,c,d,q.trans i,r.trans j f,Nat.le_trans f k,l,m,o,p⟩
theorem Zrs{W:Base}{D:List Deferred}{Φ:Pers}{ρ:Rho}{n:Nat}{Q f:Exit→ASt→Prop}{e:Exit}{a:Act}{w:World}(h:Zfb W D Φ ρ n Q e a w)(p:∀ d,Q e d→f e d):Zfb W D Φ ρ n f e a w:=by
 obtain⟨d,b,c,g,i,j,k,l,m,o⟩:=h;exact⟨d,b,c,g,i,j,k,l,m,p d o⟩
structure Open (F:Fence):Prop where
 fn:∀ f,F.fn f
 depth:F.depth=none
 alive:F.alive=false
theorem Open.wide:Open Fence.wide:=⟨fun _=>trivial,rfl,rfl⟩
theorem Open.round{F:Fence}(h:Open F)(l:Nat):Open (F.inRound l):=⟨h.fn,h.depth,h.alive⟩
abbrev HypW:=Base→Pers→Rho→Prop
def HypW.Mono(H:HypW):Prop:=∀ W Φ ρ Φ' ρ',H W Φ ρ→Ext Φ ρ Φ' ρ'→H W Φ' ρ'
def AWpF(F:Fence)(n:Nat)(H:HypW)(D:List Deferred)(P:Program)(c:Code)(Q:Exit→ASt→Prop)(σ:ASt):Prop:=
 ∀(W:Base) (Φ:Pers) (ρ:Rho),H W Φ ρ → ∀(a:Act) (w:World),Rel W Φ ρ σ.m w→RL Φ ρ σ.t a.tmps→a.defers=D→c.wpIn F n P (Zfb W D Φ ρ σ.m.next Q) a w
theorem AWpF.of_wide{n:Nat}{H:HypW}{P:Program}{c:Code}{Q:Exit→ASt→Prop}{b:ASt}(h:AWp P c Q b):AWpF Fence.wide n H [] P c Q b:=
 fun W Φ ρ _ a w e f d=>wpIn_wide.2 (h W Φ ρ a w e f d)
theorem Z5t{F:Fence}{g:Nat}{P:Program}{Q:Exit→Act→World→Prop}{a:Act}{w:World}{c:Code}(I:Nat→Act→World→Prop)(k:Nat)(i:I k a w)
 (step:∀ k a w,I k a w→c.wpIn F g P (Exit.then (fun b w'=>∃ j,j<k∧I j b w') Q) a w):(Code.loop c).wpIn F g P Q a w:=by
 have e:∀ a w,(∃ k,I k a w)→I (leastOf fun k=>I k a w) a w ∧ ∀ j,I j a w→leastOf (fun k=>I k a w)≤j:=fun a w h=>leastOf_spec h
 apply wpIn_loop (fun a w=>∃ k,I k a w) (fun a w=>leastOf fun k=>I k a w) ⟨k,i⟩
 intro a w h;apply wpIn_mono (step _ a w (e a w h).1);rintro(_|_|_|_|_|_) b w' f<;>try exact f
 obtain⟨j,l,d⟩:=f;have:=(e b w' ⟨j,d⟩).2 j d;exact⟨⟨j,d⟩,show leastOf (fun k=>I k b w')<leastOf (fun k=>I k a w) by omega⟩
section
variable {F:Fence} {n:Nat} {H:HypW} {D:List Deferred} {P:Program} {wr:RegW} {sc:Bool}
theorem Ztu(B:H.Mono)(ai:sc=true → ∀(c:Code) (Q:Exit→Act→World→Prop) (a:Act) (w:World),c.wpIn F n P (Exit.noGoto Q) a w→(Code.scope c).wpIn F n P Q a w)
 (Y:∀ (id:Nat) (ops:Array Oper) (u:Bool) (Q:Exit→ASt→Prop) (b:ASt),T3 wr sc (Y1 P (.region id ops u)) Q b→AWpF F n H D P (.region id ops u) Q b) :
 ∀(c:Code) (Q:Exit→ASt→Prop) (b:ASt),T3 wr sc (Y1 P c) Q b→AWpF F n H D P c Q b:=by
 intro c
 induction c with
 | skip=>exact fun Q b h W Φ ρ r a w q o p=>wpIn_skip ⟨b,Φ,ρ,.refl _ _,.refl _ _,Nat.le_refl _,q,o,p,h⟩
 | region id ops u=>exact fun Q b h=>Y id ops u Q b h
 | seq x y U V=>
  intro Q b h W Φ ρ r a w q o p;simp only[Y1,T3]at h;refine wpIn_seq (wpIn_mono (U _ _ h W Φ ρ r a w q o p) ?_);intro e E w' j;have key:∀ e',e=e'→e'≠.normal→Zfb W D Φ ρ b.m.next Q e E w':=by
   intro e' he S;refine Zrs j fun d hq=>?_
   subst he;cases e<;>first|exact absurd rfl S|exact hq
  cases e with
  | normal=>
   obtain⟨d,g,ρ',C,K,G,M,N,O,A⟩:=j;exact wpIn_mono (V _ _ A W g ρ' (B _ _ _ _ _ r C) E w' M N O) fun e a w af=>Zy5 C K G af
  | exit i=>exact key _ rfl (by simp)
  | goto l=>exact key _ rfl (by simp)
  | ret=>exact key _ rfl (by simp)
  | panic ch=>exact key _ rfl (by simp)
  | outgrown=>exact key _ rfl (by simp)
 | cond c x y U V=>
  intro Q b h W Φ ρ r a w q o p;simp only[Y1]at h;cases hc:Y4 c with
  | none=>simp[hc,T3]at h
  | some c'=>
   simp only[hc,T3]at h;have hv:=T4 o hc;generalize ev b.t c'=z at h hv;split at h
   ·generalize hz:a.eval c=v at hv;cases hv;exact wpIn_cond_true hz (U _ _ h W Φ ρ r a w q o p)
   ·generalize hz:a.eval c=v at hv;cases hv;exact wpIn_cond_false hz (V _ _ h W Φ ρ r a w q o p)
   ·exact h.elim
 | block id c ih=>
  intro Q b h W Φ ρ r a w q o p;simp only[Y1,T3]at h;refine wpIn_block (wpIn_mono (ih _ _ h W Φ ρ r a w q o p) ?_);intro e E w' j;cases e with
  | exit i=>
   simp only[Exit.inBlock];obtain⟨d,g,ρ',C,K,G,M,N,O,A⟩:=j;simp only[Zaz]at A;split
   ·rename_i hi;rw[if_pos hi]at A;exact⟨d,g,ρ',C,K,G,M,N,O,A⟩
   ·rename_i hi;rw[if_neg hi]at A;exact⟨d,g,ρ',C,K,G,M,N,O,A⟩
  | normal=>exact j
  | goto l=>exact j
  | ret=>exact j
  | panic ch=>exact j
  | outgrown=>exact j
 | loop c ih=>
  intro Q b h W Φ ρ r a w q o p;simp only[Y1,T3]at h;obtain⟨I,⟨n0,X,Z,h0⟩,J⟩:=h;obtain⟨am,ad,ag,aj⟩:=Z.rel W Φ ρ a.tmps w q o;refine Z5t (fun n E w'=>∃ d g ρ',Ext Φ ρ g ρ'∧KeepN b.m.next ρ ρ'∧b.m.next≤d.m.next∧Rel W g ρ' d.m w'∧RL g ρ' d.t E.tmps∧E.defers=D∧I n d) n0
   ⟨X,am,ρ,ad,.refl _ _,Z.next,ag,aj,p,h0⟩ ?_
  rintro n E w' ⟨d,g,ρ',C,K,G,M,N,O,A⟩;refine wpIn_mono (ih _ _ (J n d A) W g ρ' (B _ _ _ _ _ r C) E w' M N O) ?_;intro e ac al j;have key:∀ e',e=e'→e'≠.normal→Zfb W D Φ ρ b.m.next Q e ac al:=by
   intro e' he S;refine Zy5 C K G (Zrs j fun ab hq=>?_)
   subst he;cases e<;>first|exact absurd rfl S|exact hq
  cases e with
  | normal=>
   obtain⟨ab,aa,L,g1,g2,g3,g4,g5,g6,k,X,g7,g8,g9⟩:=j;obtain⟨an,ae,ah,ak⟩:=g8.rel W aa L _ _ g4 g5;exact⟨k,g7,X,an,L,(C.trans g1).trans ae,K.trans g2 G,Nat.le_trans (Nat.le_trans G g3) g8.next,ah,ak,g6,g9⟩
  | exit i=>exact key _ rfl (by simp)
  | goto l=>exact key _ rfl (by simp)
  | ret=>exact key _ rfl (by simp)
  | panic ch=>exact key _ rfl (by simp)
  | outgrown=>exact key _ rfl (by simp)
 | exit id=>exact fun Q b h W Φ ρ r a w q o p=>wpIn_exit ⟨b,Φ,ρ,.refl _ _,.refl _ _,Nat.le_refl _,q,o,p,h⟩
 | scope c ih=>
  intro Q b h W Φ ρ r a w q o p;simp only[Y1,T3]at h;refine ai h.1 _ _ _ _ (wpIn_mono (ih _ _ h.2 W Φ ρ r a w q o p) ?_);intro e E w' j;cases e with
  | goto l=>
   obtain⟨d,g,ρ',C,K,G,M,N,O,A⟩:=j;exact A.elim
  | normal=>exact j
  | exit i=>exact j
  | ret=>exact j
  | panic ch=>exact j
  | outgrown=>exact j
 | label l=>exact fun Q b h W Φ ρ r a w q o p=>wpIn_label ⟨b,Φ,ρ,.refl _ _,.refl _ _,Nat.le_refl _,q,o,p,h⟩
 | ret=>exact fun Q b h W Φ ρ r a w q o p=>wpIn_ret ⟨b,Φ,ρ,.refl _ _,.refl _ _,Nat.le_refl _,q,o,p,h⟩
 | rangeFunc f ps x y _ _=>exact fun Q b h=>by simp[Y1,T3]at h
 | goto l=>exact fun Q b h=>by simp[Y1,T3]at h
 | refuse s=>exact fun Q b h=>by simp[Y1,T3]at h
theorem Ycv(c:Code)(Q:Exit→Act→World→Prop)(a:Act)(w:World)(h:c.wpIn Fence.wide n P (Exit.noGoto Q) a w):(Code.scope c).wpIn Fence.wide n P Q a w:=
 wpIn_wide.2 (wp_scope_straight (wpIn_wide.1 h))
theorem Open.fenced(a:Open F)(m:Machine):m.fenced P F:=by
 intro g _;refine⟨fun c=>?_,Or.inl (a.fn _),fun f _=>a.fn f,fun d b=>?_⟩
 ·rw[a.alive]at c; cases c
 ·rw[a.depth]at b; cases b
theorem Zyt(d:Open F){o:Oper}(q:∀ c,o.op≠.defer c){a:Act}{w:World}{K:Act→World→Prop}{Q:Exit→Act→World→Prop}(h:o.wp P a w K Q):o.wpIn F n P a w K Q:=by
 refine⟨fun f _=>d.fn f,?_⟩
 rw[Oper.semAt_eq _ _ _ q];unfold Oper.wp at h;have g:F.depth.isSome=true→1≤n:=fun l=>by rw[d.depth]at l; cases l
 have i:∀ (f:FuncId) (args:Array Value) (w':World) (R:Ending→World→Prop),Calls P f args w' R→CallsIn F (n - 1) P f args w' R:=by
  intro f args w' R k;refine⟨d.fn f,fun cs _=>?_⟩
  obtain⟨e,b,p,r,s,x⟩:=k cs;refine⟨e,b,p,r,?_,x⟩;cases e with
  | returned v=>exact (StepsIn.of_steps s).mono fun m _=>d.fenced m
  | panicked t=>exact (StepsIn.of_steps s).mono fun m _=>d.fenced m
  | outgrown=>exact s
 have j:∀ (row:String) (args:Array Value) (w':World) (R:Value→World→Prop),Rows P row args w' R→Go.RowsIn F (n - 1) P row args w' R:=by
  intro row args w' R k c cs _;obtain⟨v,b,r,s⟩:=k c cs;exact⟨v,b,r,(StepsIn.of_steps s).mono fun m _=>d.fenced m⟩
 generalize (execOp a.eval o).run P w=r at h ⊢;unfold Oper.upon at h;unfold Oper.uponIn;split at h
 ·exact h
 ·exact h
 ·exact h
 ·exact⟨g,i _ _ _ _ h⟩
 ·exact⟨g,j _ _ _ _ h⟩
 ·exact h
 ·exact h.elim
end
end Go.AE
end
section
namespace Go.AE
open Go.RowKit
def Zdt(t:List AVal)(f:AOpd)(xs:List AOpd):Option (Fn×List AVal):=
 match ev t f with
 | .func (.func g) first cap=>some (.func g,first++xs.map (ev t)++cap)
 | .yld b=>some (.yield b,xs.map (ev t))
 | _=>none
abbrev CallW:=Fn→List AVal→Mem→Nat→(AVal→Mem→Prop)→Prop
abbrev StepA:=Nat→List AVal→Mem→AOp→Option (AVal×Mem)
def I4(st:StepA)(cw:CallW)(base:Nat):List AOper→Nat→(ASt→Prop)→List AVal→Mem→Prop
 | [],_,K,t,m=>K ⟨t,m⟩
 | o :: r,i,K,t,m=>
  match S6 t o.guard with
  | some false=>I4 st cw base r (i+1) K (put t o.dst aundef) m
  | some true=>
   match o.op with
   | .call f xs=>match Zdt t f xs with
    | some (fn,args)=>cw fn args m (base+i) fun v m'=>I4 st cw base r (i+1) K (put t o.dst v) m'
    | none=>False
   | op=>match st (base+i) t m op with
    | some (v,m')=>I4 st cw base r (i+1) K (put t o.dst v) m'
    | none=>False
  | none=>False
def Ycs(Φ:Pers)(ρ:Rho)(W:Base)(m:Mem)(id:Nat)(K:AVal→Mem→Prop)(e:Ending)(w':World):Prop:=
 ∃ v r m' Φ' ρ',e=.returned v∧Ext Φ ρ Φ' ρ'∧(∀ b,b<m.next→b≠id→ρ b=none→ρ' b=none)∧Rel W Φ' ρ' m' w'∧R Φ' ρ' r v∧m.next≤m'.next∧K r m'
def FnCall(F:Fence)(n:Nat)(P:Program)(ρ:Rho)(fn:Fn)(vs:Array Value)(w:World)(S:Ending→World→Prop):Prop:=
 (∃ g,fn=.func g∧Zio P g∧CallsIn F n P g vs w S) ∨
 (∃ b l f tmps assign body,fn=.yield b∧ρ b=some l∧(Instr.yield l.blk vs).run P w=.ok (.round l.blk f tmps assign body) w∧RoundIn F n P l.blk f tmps assign body w S) ∨
 (∃ g v w',fn=.func g∧(callFunc g vs).run P w=.ok (.value v) w'∧S (.returned v) w')
def StOk(F:Fence)(n:Nat)(H:HypW)(P:Program)(st:StepA):Prop:=
 ∀(o:Oper) (id:Nat) (t:List AVal) (m:Mem) (x:AVal) (m':Mem),st id t m (Q3 P o)=some (x,m')→m'.next=m.next ∧
  ∀(W:Base) (Φ:Pers) (ρ:Rho) (a:Act) (w:World) (K:Act→World→Prop) (Q:Exit→Act→World→Prop),H W Φ ρ→RL Φ ρ t a.tmps→Rel W Φ ρ m w→ρ id=none→id<m.next →
   (∀ Φ' ρ' u w',Ext Φ ρ Φ' ρ'→(∀ b,b≠id→ρ b=none→ρ' b=none)→Rel W Φ' ρ' m' w'→R Φ' ρ' x u→K (a.put o.dst u) w')→o.wpIn F n P a w K Q
def Zem(F:Fence)(n:Nat)(H:HypW)(P:Program)(cw:CallW):Prop:=
 ∀ fn args m id K,cw fn args m id K → ∀ W Φ ρ,H W Φ ρ → ∀ vs w,Rel W Φ ρ m w→RL Φ ρ args vs→ρ id=none→id<m.next→FnCall F n P ρ fn vs w (Ycs Φ ρ W m id K)
theorem Z3u{F:Fence}{n:Nat}{P:Program}(a:Open F){f:FuncId}{args:Array Value}{w:World}{S:Ending→World→Prop}(d:Calls P f args w S):CallsIn F n P f args w S:=by
 refine⟨a.fn f,fun cs _=>?_⟩
 obtain⟨e,b,c,r,s,x⟩:=d cs;refine⟨e,b,c,r,?_,x⟩;cases e with
 | returned v=>exact (StepsIn.of_steps s).mono fun m _=>a.fenced m
 | panicked g=>exact (StepsIn.of_steps s).mono fun m _=>a.fenced m
 | outgrown=>exact s
def cwFn(P:Program):CallW:=fun fn args m id K=>∃ g,fn=.func g∧ACalls P g args m [id] K
theorem Zj0{F:Fence}{n:Nat}{H:HypW}{P:Program}(q:Open F):Zem F n H P (cwFn P):=by
 rintro fn args m id K ⟨g,rfl,h⟩ W Φ ρ _ vs w u s t c;refine .inl ⟨g,rfl,h.1,Z3u q ?_⟩;refine(h.2 W Φ ρ vs w u s (fun b a=>by simp only[List.mem_singleton]at a; subst a; exact⟨t,c⟩)).mono ?_
 rintro e w' ⟨v,r,m',f,ρ',rfl,i,j,k,l,o,p⟩;exact⟨v,r,m',f,ρ',rfl,i,fun b a d=>j b a (by simpa using d),k,l,o,p⟩
section
variable {F:Fence} {n:Nat} {H:HypW} {D:List Deferred} {P:Program} {W:Base} {Φ:Pers} {ρ:Rho} {w:World} {m m':Mem} {x:AVal} {a:Act} {t:List AVal} {ops:Array Oper}
theorem FnCall.mono{fn:Fn}{vs:Array Value}{S k:Ending→World→Prop}(h:FnCall F n P ρ fn vs w S)(j:∀ e w,S e w→k e w):FnCall F n P ρ fn vs w k:=by
 rcases h with⟨g,c,d,i,o⟩|⟨b,l,f,p,as,bd,c,m,d,i⟩|⟨g,v,w',c,d,i⟩
 ·exact .inl ⟨g,c,d,i,fun cs a=>let ⟨e,w',fr,r,s,x⟩:=o cs a; ⟨e,w',fr,j _ _ r,s,x⟩⟩
 ·exact .inr (.inl ⟨b,l,f,p,as,bd,c,m,d,i.mono j⟩)
 ·exact .inr (.inr ⟨g,v,w',c,d,j _ _ i⟩)
theorem Z5d{o:Oper}{f:AOpd}{h:List AOpd}(e:Q3 P o=.call f h):∃ c of,o.op=.call c∧c.callee=.value of∧Y4 of=some f∧Zaa c.args.toList=some h:=by
 unfold Q3 at e;cases a:cOp P o with
 | none=>simp[a]at e
 | some op=>
  simp only[a,Option.getD_some]at e;subst e;unfold cOp at a;split at a<;>first|(cases a; done)|(simp only[Option.map_eq_some_iff]at a; obtain⟨_,_,a⟩:=a; cases a; done)|skip
  case h_26 c hoc=>
   unfold Za5 at a;split at a
   ·rename_i of b;split at a
    ·rename_i j i g d;injection a with a
     injection a with h1 h2
     subst h1; subst h2;exact⟨c,of,hoc,b,g,d⟩
    ·cases a
   all_goals (repeat' (split at a<;>first|(cases a; done)|skip))
   all_goals (first|(cases a; done)|(simp only[Option.map_eq_some_iff]at a; obtain⟨_,_,a⟩:=a; cases a; done)|skip)
  all_goals (repeat' (split at a<;>first|(cases a; done)|skip))
  all_goals (first|(cases a; done)|(simp only[Option.map_eq_some_iff]at a; obtain⟨_,_,a⟩:=a; cases a; done)|skip)
theorem Yap{o:Oper}{id:Nat}{r:AVal×Mem}(h:stepA id t m (Q3 P o)=some r):∀ c,o.op≠.defer c:=by
 intro c a;unfold Q3 at h;have:cOp P o=none:=by
  unfold cOp;rw[a]
 rw[this]at h;simp[stepA]at h
theorem Z93(hF:Open F){id:Nat}{K:Act→World→Prop}{Q:Exit→Act→World→Prop}(ht:RL Φ ρ t a.tmps)(hr:Rel W Φ ρ m w)(hn:ρ id=none)(aj:id<m.next)(o:Oper){f:AOpd}{xs:List AOpd}(ho:Q3 P o=.call f xs)
 {fn:Fn} {args:List AVal} (j:Zdt t f xs=some (fn,args)) {cw:CallW} (ae:Zem F (n - 1) H P cw) (hH:H W Φ ρ) {KA:AVal→Mem→Prop} (h:cw fn args m id KA)
 (hK:∀ B ρ' x m' u w',Ext Φ ρ B ρ'→(∀ b,b<m.next→b≠id→ρ b=none→ρ' b=none)→Rel W B ρ' m' w'→R B ρ' x u→m.next≤m'.next→KA x m'→K (a.put o.dst u) w'):o.wpIn F n P a w K Q:=by
 obtain⟨c,of,D,A,ak,al⟩:=Z5d ho;have p:=T4 ht ak;have d:=Zir ht al;refine⟨fun f _=>hF.fn f,?_⟩
 rw[Oper.semAt_eq _ _ _ (fun c' X=>by rw[D]at X; cases X)]
 have aa:F.depth.isSome=true→1≤n:=fun hh=>by rw[hF.depth]at hh; cases hh
 have O:∀ vs,RL Φ ρ args vs→FnCall F (n - 1) P ρ fn vs w (fun e w'=>match e with
  | .returned v=>K (a.put o.dst v) w'
  | .panicked I=>Q (.panic I) a w'
  | .outgrown=>LetsOut Q):=fun vs q=>by
  refine(ae fn args m id KA h W Φ ρ hH vs w hr q hn aj).mono ?_;rintro e w' ⟨v,r,m',B,ρ',rfl,S,U,V,h4,h5,h6⟩;exact hK B ρ' r m' v w' S U V h4 h5 h6
 unfold Zdt at j;split at j<;>first|(cases j; done)|skip
 ·rename_i g' first cap J;injection j with j
  injection j with S U
  subst S; subst U;rw[J]at p;generalize E:a.eval of=vv at p;cases p with
  | func _ _ _ vf vc hf hc ag ad=>
   have q:RL Φ ρ (first++xs.map (ev t)++cap) (vf++c.args.map a.eval++vc):=by
    refine⟨by simp only[Array.size_append,List.length_append]; rw[hf,hc,d.1],fun i y v G C=>?_⟩
    have ai:(vf++c.args.map a.eval).size=(first++xs.map (ev t)).length:=by simp only[Array.size_append,List.length_append]; rw[hf,d.1]
    rw[List.getElem?_append]at G;rw[Array.getElem?_append]at C;rw[ai]at C;split at G
    ·rename_i Z;rw[if_pos Z]at C;rw[List.getElem?_append]at G;rw[Array.getElem?_append,hf]at C;split at G
     ·rename_i V;rw[if_pos V]at C;exact ag i y v G C
     ·rename_i V;rw[if_neg V]at C;exact d.2 _ y v G C
    ·rename_i ah;rw[if_neg ah]at C;exact ad _ y v G C
   rcases O _ q with⟨g,j,⟨ab,af,L,z⟩,hC⟩|⟨b,l,_,_,_,_,hl,_⟩|⟨g,v,w',j,k,hS⟩
   ·cases j;have k:(execOp a.eval o).run P w=.ok (.enter g' (vf++c.args.map a.eval++vc)) w:=by
     unfold execOp;rw[D];simp only[resolve,A,E,Deferred.ofValue,Sem.run_bind,Sem.run_pure,Result.andThen_ok,invoke,callFunc];cases hb:ab.body with
     | none=>rw[hb]at z; cases z
     | some b=>simp[program,Sem.run,af,hb]; simpa using L
    rw[k];refine⟨aa,⟨hC.1,fun cs M=>?_⟩⟩
    obtain⟨e,w',fr,r,s,x⟩:=hC.2 cs M;refine⟨e,w',fr,?_,s,x⟩;cases e<;>exact r
   ·cases hl
   ·cases j;have N:(execOp a.eval o).run P w=.ok (.value v) w':=by
     unfold execOp;rw[D];simp only[resolve,A,E,Deferred.ofValue,Sem.run_bind,Sem.run_pure,Result.andThen_ok,invoke];exact k
    rw[N];exact hS
 ·rename_i b J;injection j with j
  injection j with S U
  subst S; subst U;rw[J]at p;generalize E:a.eval of=vv at p;cases p with
  | yld _ l hl=>
   have q:RL Φ ρ (xs.map (ev t)) (#[]++c.args.map a.eval):=by simpa using d
   rcases O _ q with⟨g,j,_⟩|⟨b',l',f',tm,as,bd,ac,Y,G,hC⟩|⟨g,_,_,j,_⟩
   ·cases j
   ·cases ac;rw[hl]at Y;cases Y;have k:(execOp a.eval o).run P w=.ok (.round l.blk f' tm as bd) w:=by
     unfold execOp;rw[D];simp only[resolve,A,E,Deferred.ofValue,Sem.run_bind,Sem.run_pure,Result.andThen_ok,invoke];exact G
    rw[k];refine⟨aa,hC.mono fun e w' r=>?_⟩
    cases e<;>exact r
   ·cases j
theorem Z3g{st:StepA}{c:CallW}{base i:Nat}{b:AOper}{a:List AOper}{K:ASt→Prop}(h:I4 st c base (b :: a) i K t m) :
 (S6 t b.guard=some false∧I4 st c base a (i+1) K (put t b.dst aundef) m) ∨
 (S6 t b.guard=some true∧((∃ f g fn args,b.op=.call f g∧Zdt t f g=some (fn,args)∧c fn args m (base+i) fun v m'=>I4 st c base a (i+1) K (put t b.dst v) m') ∨
   (∃ v m',st (base+i) t m b.op=some (v,m')∧I4 st c base a (i+1) K (put t b.dst v) m'))):=by
 simp only[I4]at h;cases l:S6 t b.guard with
 | none=>simp[l]at h
 | some q=>
  cases q with
  | false=>simp only[l]at h; exact .inl ⟨rfl,h⟩
  | true=>
   simp only[l]at h;refine .inr ⟨rfl,?_⟩;have e:∀ op,b.op=op→(match st (base+i) t m op with|some (v,m')=>I4 st c base a (i+1) K (put t b.dst v) m'|none=>False) →
    ∃ v m',st (base+i) t m op=some (v,m')∧I4 st c base a (i+1) K (put t b.dst v) m':=by
    intro op _ k;cases n:st (base+i) t m op with
    | none=>simp[n]at k
    | some r=>obtain ⟨v,m'⟩:=r; simp only[n]at k; exact⟨v,m',rfl,k⟩
   cases d:b.op with
   | call f g=>
    simp only[d]at h;cases j:Zdt t f g with
    | none=>simp[j]at h
    | some r=>
     obtain⟨fn,args⟩:=r;simp only[j]at h;exact .inl ⟨f,g,fn,args,rfl,j,h⟩
   | _=>rw[d]at h; exact .inr (e _ d h)
theorem Zmp(K:Open F)(d:H.Mono){st:StepA}(y:StOk F n H P st){cw:CallW}(s:Zem F (n - 1) H P cw)(W:Base)(base:Nat)(n0:Nat)(ops:Array Oper)(Q:Exit→ASt→Prop)(r:Pers)(k:Rho)(M:n0≤base) :
 ∀(l:List Oper) (as:List AOper) (i:Nat) (t:List AVal) (m:Mem) (Φ:Pers) (ρ:Rho) (a:Act) (w:World),
  as.length=l.length→(∀(j:Nat) (o:Oper) (b:AOper),l[j]? = some o→as[j]? = some b→b.dst=o.dst∧b.op=Q3 P o∧Zab ops o.guard=some b.guard) →
  I4 st cw base as i (Q .normal) t m→H W Φ ρ→Rel W Φ ρ m w→RL Φ ρ t a.tmps→a.defers=D→Ext r k Φ ρ→KeepN n0 k ρ→(∀ j,i≤j→j<i+as.length→ρ (base+j)=none)→base+i+as.length≤m.next→n0≤m.next →
  wpListIn F n P ops (Zfb W D r k n0 Q) l a w
 | [],[],i,t,m,Φ,ρ,a,w,_,_,h,_,Z,z,O,S,U,_,_,hn=>⟨⟨t,m⟩,Φ,ρ,S,U,hn,Z,z,O,h⟩
 | [],_ :: _,_,_,_,_,_,_,_,V,_,_,_,_,_,_,_,_,_,_,_=>by simp at V
 | _ :: _,[],_,_,_,_,_,_,_,V,_,_,_,_,_,_,_,_,_,_,_=>by simp at V
 | o :: l,b :: as,i,t,m,Φ,ρ,a,w,V,hg,h,L,Z,z,O,S,U,e,aa,hn=>by
  obtain⟨e1,e2,e3⟩:=hg 0 o b rfl rfl;have B:∀ (j:Nat) (o:Oper) (b:AOper),l[j]? = some o→as[j]? = some b→b.dst=o.dst∧b.op=Q3 P o∧Zab ops o.guard=some b.guard:=fun j o b ho M=>hg (j+1) o b (by simpa using ho) (by simpa using M)
  have C:as.length=l.length:=by simpa using V
  simp only[List.length_cons]at aa e;have X:base+i<m.next:=by omega
  have Y:ρ (base+i)=none:=e i (Nat.le_refl _) (by omega)
  unfold wpListIn;rcases Z3g h with⟨hw,J⟩|⟨hw,J⟩
  ·rw[Ze2 z e3 hw,if_neg (by simp)]
   rw[← e1];exact⟨fun f _=>K.fn f,Zmp K d y s W base n0 ops Q r k M l as (i+1) _ m Φ ρ _ w C B J L Z (z.put b.dst (Zfa Φ ρ)) (by rw[Zaw]; exact O) S U (fun j h1 h2=>e j (by omega) (by omega)) (by omega) hn⟩
  ·rw[Ze2 z e3 hw,if_pos rfl];rcases J with⟨f,xs,g,args,E,N,hA⟩|⟨v,m',hs,J⟩
   ·refine Z93 K z Z Y X o (by rw[← e2]; exact E) N s L hA fun I ρ' x m' u w' A p G hx q hW=>?_
    rw[← e1];exact Zmp K d y s W base n0 ops Q r k M l as (i+1) _ m' I ρ' _ w' C B hW (d _ _ _ _ _ L A) G ((z.ext A).put b.dst hx) (by rw[Zaw]; exact O) (S.trans A) (fun c hc h0=>p c (by omega) (by omega) (U c hc h0))
     (fun j h1 h2=>p _ (by omega) (by omega) (e j (by omega) (by omega))) (by omega) (by omega)
   ·rw[e2]at hs;obtain⟨q,E⟩:=y o _ t m v m' hs;refine E W Φ ρ a w _ _ L z Z Y X fun I ρ' u w' A p G hx=>?_
    rw[← e1];exact Zmp K d y s W base n0 ops Q r k M l as (i+1) _ m' I ρ' _ w' C B J (d _ _ _ _ _ L A) G ((z.ext A).put b.dst hx) (by rw[Zaw]; exact O) (S.trans A) (fun c hc h0=>p c (by omega) (U c hc h0))
     (fun j h1 h2=>p _ (by omega) (e j (by omega) (by omega))) (by rw[q]; omega) (by rw[q]; exact hn)
theorem Zr2(o:Open F)(c:H.Mono){st:StepA}(e:StOk F n H P st){f:CallW}(d:Zem F (n - 1) H P f){id:Nat}{ops:Array Oper}{Q:Exit→ASt→Prop}{b:ASt}{as:List AOper}(q:I9 P ops ops.toList=some as)
 (h:I4 st f b.m.next as 0 (Q .normal) b.t (b.m.at (b.m.next+as.length))):AWpF F n H D P (.region id ops false) Q b:=by
 intro W Φ ρ p a w g u r;obtain⟨i,k⟩:=Zkh P ops _ _ q;refine wpIn_region_list (Zmp o c e d W b.m.next b.m.next ops Q Φ ρ (Nat.le_refl _) ops.toList as 0 b.t _ Φ ρ a w i k h p (g.at_ (by omega)) u r (.refl _ _) (.refl _ _) ?_ (by simp) (by simp))
 intro j _ _;cases s:ρ (b.m.next+j)with
 | none=>rfl
 | some l=>have:=g.fresh _ _ s; omega
theorem Zj7(c:Open F):StOk F n H P stepA:=fun _ _ _ _ _ _ b=>
 ⟨Zoi b,fun _ _ _ _ _ _ _ _ g f e a d=>Zyt c (Yap b) (Zk1 g f e a _ b d)⟩
end
def wrG(P:Program)(dr:Bool)(st:StepA)(cw:CallW):RegW
 | false,ops,K,σ=>I4 st cw σ.m.next ops 0 K σ.t (σ.m.at (σ.m.next+ops.length))
 | true,ops,K,σ=>dr=true∧Q4 P σ.m.next ops [] K σ.t (σ.m.at (σ.m.next+ops.length))
section
variable {n:Nat} {H:HypW} {D:List Deferred} {P:Program}
theorem Z7g(hm:P.follows .mixedOrders=true)(a:H.Mono){st:StepA}(i:StOk Fence.wide n H P st){j:CallW}(f:Zem Fence.wide (n - 1) H P j)(c:Code)(Q:Exit→ASt→Prop)(e:ASt)(h:T3 (wrG P true st j) true (Y1 P c) Q e):AWpF Fence.wide n H [] P c Q e:=by
 refine Ztu a (fun _=>Ycv) (fun id ops d Q e h=>?_) c Q e h
 cases d with
 | false=>
  simp only[Y1]at h;cases b:I9 P ops ops.toList with
  | none=>simp[b,T3]at h
  | some as=>
   simp only[b,T3,wrG]at h;exact Zr2 Open.wide a i f b h
 | true=>
  refine AWpF.of_wide (Zq2 hm ?_);simp only[Y1]at h ⊢;cases b:I9 P ops ops.toList with
  | none=>simp[b,T3]at h
  | some as=>
   simp only[b]at h ⊢;split at h
   ·rename_i g;simp only[T3,wrG]at h;rw[if_pos g];simp only[wpc];exact h.2
   ·simp[T3]at h
theorem Zow{F:Fence}(j:Open F)(a:H.Mono){st:StepA}(g:StOk F n H P st){i:CallW}(f:Zem F (n - 1) H P i)(c:Code)(Q:Exit→ASt→Prop)(e:ASt)(h:T3 (wrG P false st i) false (Y1 P c) Q e):AWpF F n H D P c Q e:=by
 refine Ztu a (fun k=>by cases k) (fun id ops d Q e h=>?_) c Q e h
 cases d with
 | false=>
  simp only[Y1]at h;cases b:I9 P ops ops.toList with
  | none=>simp[b,T3]at h
  | some as=>
   simp only[b,T3,wrG]at h;exact Zr2 j a g f b h
 | true=>
  simp only[Y1]at h;cases b:I9 P ops ops.toList with
  | none=>simp[b,T3]at h
  | some as=>
   simp only[b]at h;split at h
   ·simp[T3,wrG]at h
   ·simp[T3]at h
end
end Go.AE
end
section
namespace Go.AE
open Go.RowKit
def Base.setG(W:Base)(l:Nat)(o:Obj):Base:={ W with g:=fun B=>if B=l then some o else W.g B }
theorem Base.setG_setG(W:Base)(l:Nat)(o a:Obj):(W.setG l o).setG l a=W.setG l a:=by
 unfold Base.setG
 congr 1
 funext B
 by_cases h:B=l<;>simp[h]
theorem Base.setG_same{W:Base}{l:Nat}{o:Obj}(h:W.g l=some o):W.setG l o=W:=by
 unfold Base.setG;cases W
 congr 1
 funext B
 by_cases a:B=l
 ·subst a; simp; exact h.symm
 ·simp[a]
theorem Base.setG_g(W:Base)(l:Nat)(o:Obj):(W.setG l o).g l=some o:=by simp[Base.setG]
theorem Base.setG_other{W:Base}{l B:Nat}{o:Obj}(h:B≠l):(W.setG l o).g B=W.g B:=by simp[Base.setG,h]
def Zk0(D:Nat):Deferred:={ target:=.collected D,args:=#[] }
section
variable {P:Program} {W:Base} {Φ:Pers} {ρ:Rho} {w:World} {m m':Mem}
theorem Yay{B:Nat}{a w:World}{l:Nat}{o:Obj}(h:Below B a w)(c:B≤l):Below B a (w.putObj l o):=
 ⟨h.os,h.tape,h.output,by rw[World.putObj_size]; exact h.size,fun k b=>by rw[World.putObj_heap_other (by omega)]; exact h.block k b⟩
theorem Rel.putG(h:Rel W Φ ρ m w){l:Nat}{o:Obj}(r:W.g l=some o)(D:W.w.heap.size≤l)(n:∀ c e fz,o≠.cells c e fz)(p:Obj):Rel (W.setG l p) Φ ρ m (w.putObj l p):=by
 have s:=h.base.prot l o r;have k:=D5 s;have d:∀ B,W.Free B→B≠l∧(W.setG l p).Free B:=fun B a=>by
  have j:B≠l:=fun e=>by subst e; have:=a.2; rw[r]at this; cases this
  exact⟨j,a.1,by rw[Base.setG_other j]; exact a.2⟩
 have i:∀ B c,Φ B=some c→B≠l:=fun B c a e=>by
  subst e;obtain⟨e',fz,f⟩:=h.pers _ c a;rw[s]at f;injection f with f
  exact n _ _ _ f
 refine⟨⟨Yay h.base.below D,fun B q a=>?_⟩,fun B c a=>?_,fun b x E=>?_,h.inj,h.fresh,fun B c a=>?_⟩
 ·by_cases e:B=l
  ·subst e;rw[Base.setG_g]at a;injection a with a
   subst a;exact World.putObj_heap_same k
  ·rw[Base.setG_other e]at a;rw[World.putObj_heap_other e];exact h.base.prot B q a
 ·obtain⟨e',fz,f⟩:=h.pers B c a;exact⟨e',fz,by rw[World.putObj_heap_other (i B c a)]; exact f⟩
 ·obtain⟨lo,q,v,y,z,A,C⟩:=h.live b x E;obtain⟨t,u⟩:=d _ y;exact⟨lo,q,v,u,z,by rw[World.putObj_heap_other t]; exact A,C⟩
 ·rcases h.newp B c a with f|f
  ·exact .inl f
  ·exact .inr (d B f).2
theorem Rel.addG(h:Rel W Φ ρ m w)(o:Obj):Rel (W.setG w.heap.size o) Φ ρ m (w.alloc o):=by
 have d:∀ B,B<w.heap.size→W.Free B→(W.setG w.heap.size o).Free B:=fun B q a=>
  ⟨a.1,by rw[Base.setG_other (by omega)]; exact a.2⟩
 have f:∀ (B:Nat) (g:Obj),w.heap[B]? = some g→(w.alloc o).heap[B]? = some g:=fun B g a=>(Below.heap_alloc w o B (D5 a)).trans a
 refine⟨⟨h.base.below.alloc h.base.below.size o,fun B g a=>?_⟩,fun B c a=>?_,fun b x r=>?_,h.inj,h.fresh,fun B c a=>?_⟩
 ·by_cases e:B=w.heap.size
  ·subst e;rw[Base.setG_g]at a;injection a with a
   subst a;exact World.alloc_heap_new w o
  ·rw[Base.setG_other e]at a;exact f _ _ (h.base.prot B g a)
 ·obtain⟨e',fz,i⟩:=h.pers B c a;exact⟨e',fz,f _ _ i⟩
 ·obtain⟨lo,g,l,j,n,k,p⟩:=h.live b x r;exact⟨lo,g,l,d _ (D5 k) j,n,f _ _ k,p⟩
 ·rcases h.newp B c a with i|i
  ·exact .inl i
  ·obtain⟨e',fz,j⟩:=h.pers B c a;exact .inr (d B (D5 j) i)
theorem Rel.g_new(h:Rel W Φ ρ m w){B:Nat}(b:w.heap.size≤B):W.g B=none:=by
 cases a:W.g B with
 | none=>rfl
 | some o=>have:=D5 (h.base.prot B o a); omega
theorem Rel.dropG{l:Nat}{o:Obj}(h:Rel (W.setG l o) Φ ρ m w)(s:W.g l=none):Rel W Φ ρ m w:=by
 have a:∀ B,(W.setG l o).Free B→W.Free B:=fun B d=>by
  have i:B≠l:=fun e=>by subst e; have:=d.2; rw[Base.setG_g]at this; cases this
  exact⟨d.1,by have:=d.2; rw[Base.setG_other i]at this; exact this⟩
 refine⟨⟨h.base.below,fun B j d=>?_⟩,h.pers,fun b x t=>?_,h.inj,h.fresh,fun B c d=>?_⟩
 ·refine h.base.prot B j ?_;rw[Base.setG_other (fun e=>by subst e; rw[s]at d; cases d)]
  exact d
 ·obtain⟨lo,j,k,n,p,q,r⟩:=h.live b x t;exact⟨lo,j,k,a _ n,p,q,r⟩
 ·rcases h.newp B c d with f|f
  ·exact .inl f
  ·exact .inr (a B f)
def Zd7(t:List AVal):List (Nat×AVal)→List AVal
 | []=>t
 | (i,x) :: r=>Zd7 (t.set i x) r
theorem Zt1:∀ (ps:List Nat) (c:List AVal) (vs:List Value) (t:List AVal) (b:Array Value),c.length=vs.length→(∀(i:Nat) (x:AVal) (v:Value),c[i]? = some x→vs[i]? = some v→R Φ ρ x v)→RL Φ ρ t b →
 RL Φ ρ (Zd7 t (ps.zip c)) ((ps.zip vs).foldl (fun tmps (p:Nat×Value)=>tmps.setIfInBounds p.1 p.2) b)
 | [],c,vs,t,b,_,_,e=>by simpa[Zd7]using e
 | p :: ps,[],[],t,b,_,_,e=>by simpa[Zd7]using e
 | p :: ps,[],v :: vs,t,b,d,_,_=>by simp at d
 | p :: ps,x :: c,[],t,b,d,_,_=>by simp at d
 | p :: ps,x :: c,v :: vs,t,b,d,f,e=>by
  simp only[List.zip_cons_cons,Zd7,List.foldl_cons];refine Zt1 ps c vs _ _ (by simpa using d) (fun i y u h g=>f (i+1) y u (by simpa using h) (by simpa using g)) ?_
  have:=RL.put (a:=⟨b,[]⟩) (some p) e (f 0 x v rfl rfl);exact this
def HLoop(b l:Nat)(r:Loop)(tR:List AVal):HypW:=fun W Φ ρ=>W.w.heap.size≤l∧W.g l=some (.loop r)∧RL Φ ρ tR r.tmps∧ρ b=some ⟨l,0,0,0⟩
theorem HLoop.mono{b l:Nat}{r:Loop}{tR:List AVal}:(HLoop b l r tR).Mono:=fun _ _ _ _ _ h a=>⟨h.1,h.2.1,h.2.2.1.ext a,a.rho _ _ h.2.2.2⟩
def Ybr(P:Program)(ps:List Nat)(tR:List AVal)(A B:ACode)(args:List AVal)(m:Mem)(K:AVal→Mem→Prop):Prop:=
 args.length=ps.length∧T3 (wrG P false stepA (cwFn P)) false A (fun e σ1=>match e with
  | .normal=>T3 (wrG P false stepA (cwFn P)) false B (fun e σ2=>match e with
   | .normal=>K (.bool true) σ2.m
   | _=>False) σ1
  | _=>False) ⟨Zd7 tR (ps.zip args),m⟩
def cwY(P:Program)(b:Nat)(ps:List Nat)(tR:List AVal)(A B:ACode):CallW:=fun fn args m id K=>cwFn P fn args m id K∨(fn=.yield b∧Ybr P ps tR A B args m K)
theorem Z0c{n:Nat}{b l:Nat}{r:Loop}{tR:List AVal}(j:r.state=.ready)(u:r.pending=none):Zem Fence.wide n (HLoop b l r tR) P (cwY P b r.params.toList tR (Y1 P r.assign) (Y1 P r.body)):=by
 intro fn args m id K g W Φ ρ S vs w C y hn B;rcases g with g|⟨rfl,s,d⟩
 ·exact Zj0 Open.wide fn args m id K g W Φ ρ S vs w C y hn B
 ·obtain⟨V,z,F,A⟩:=S;have hw:=C.base.prot _ _ z;have E:vs.size=r.params.size:=by rw[y.1,s]; simp
  refine .inr (.inl ⟨b,⟨l,0,0,0⟩,r.fn,_,r.assign,r.body,rfl,A,run_yield hw E,roundIn_of_wpIn trivial ?_⟩);have k:RL Φ ρ (Zd7 tR (r.params.toList.zip args)) ((r.params.zip vs).foldl (fun tmps (t,a)=>tmps.setIfInBounds t a) r.tmps):=by
   have:=Zt1 (Φ:=Φ) (ρ:=ρ) r.params.toList args vs.toList tR r.tmps (by simp[y.1]) (fun i x v hx hv=>y.2 i x v hx (by simpa using hv)) F
   rw[← Array.foldl_toList,Array.toList_zip];exact this
  have o:=Open.round Open.wide l;have hA:=Zow (P:=P) (n:=n) (D:=[]) o (H:=fun _ _ _=>True) (fun _ _ _ _ _ _ _=>trivial) (Zj7 o) (Zj0 o) r.assign _ _ d W Φ ρ trivial
   { tmps:=(r.params.zip vs).foldl (fun tmps (t,a)=>tmps.setIfInBounds t a) r.tmps,defers:=[] } w C k rfl
  refine wpIn_mono hA ?_;rintro e Z w1 ⟨aa,L,N,e1,k1,n1,X,t1,d1,p⟩;cases e with
  | normal=>
   have G:=X.base.prot _ _ z;refine⟨_,run_beginRound G j,?_⟩;have r2:=X.putG z V (by intro c e fz h; cases h) (.loop { r with state:=.busy })
   have hB:=Zow (P:=P) (n:=n) (D:=[]) o (H:=fun _ _ _=>True) (fun _ _ _ _ _ _ _=>trivial) (Zj7 o) (Zj0 o) r.body _ _ p (W.setG l (.loop { r with state:=.busy })) L N trivial Z _ r2 t1 d1
   refine wpIn_mono hB ?_;rintro e a2 w2 ⟨Q,M,O,e2,k2,n2,Y,t2,d2,q⟩;cases e with
   | normal=>
    have I:=Y.base.prot _ _ (Base.setG_g _ _ _);refine⟨_,_,run_endRound none I,?_⟩;have J:=Y.putG (Base.setG_g _ _ _) V (by intro c e fz h; cases h) (.loop { r with state:=.ready,pending:=none })
    rw[Base.setG_setG]at J;have f:({ r with state:=.ready,pending:=none }:Loop)=r:=by
     cases r; simp only at j u; subst j; subst u; rfl
    rw[f,Base.setG_same z]at J;refine⟨.bool true,.bool true,Q.m,M,O,rfl,e1.trans e2,fun b U _ h0=>?_,?_,.bool true,Nat.le_trans n1 n2,q⟩
    ·exact k2 b (Nat.lt_of_lt_of_le U n1) (k1 b U h0)
    ·have:(if (none:Option Code).isNone=true then LoopState.ready else LoopState.done)=.ready:=rfl
     simp only[Option.isNone_none,if_true];rw[f];exact J
   | exit i=>exact q.elim
   | goto i=>exact q.elim
   | ret=>exact q.elim
   | panic ch=>exact q.elim
   | outgrown=>exact q.elim
  | exit i=>exact p.elim
  | goto i=>exact p.elim
  | ret=>exact p.elim
  | panic ch=>exact p.elim
  | outgrown=>exact p.elim
def ACallsH(H:HypW)(P:Program)(f:FuncId)(args:List AVal)(m:Mem)(K:AVal→Mem→Prop):Prop:=
 Zio P f ∧ ∀(W:Base) (Φ:Pers) (ρ:Rho),H W Φ ρ → ∀(vs:Array Value) (w:World),Rel W Φ ρ m w→RL Φ ρ args vs →
  Calls P f vs w fun e w'=>∃ v r m' Φ' ρ',e=.returned v∧Ext Φ ρ Φ' ρ'∧KeepN m.next ρ ρ'∧Rel W Φ' ρ' m' w'∧R Φ' ρ' r v∧m.next≤m'.next∧K r m'
theorem Zis{args:List AVal}{vs:Array Value}{k:Nat}(c:RL Φ ρ args vs):RL Φ ρ (args++List.replicate (k - args.length) aundef) (vs++Array.replicate (k - vs.size) undef):=by
 refine⟨by simp[c.1],fun i x v b a=>?_⟩
 rw[List.getElem?_append]at b;rw[Array.getElem?_append,c.1]at a;split at b
 ·rename_i f;rw[if_pos f]at a;exact c.2 i x v b a
 ·rename_i d;rw[if_neg d]at a;have g:x=aundef:=by
   have:=gS.1 b;obtain⟨_,e⟩:=this;simpa using e.symm
  have h:v=undef:=by
   have:=Array.getElem?_eq_some_iff.1 a;obtain⟨_,e⟩:=this;simpa using e.symm
  subst g; subst h;exact Zfa _ _
theorem Zmh{fn:Func}{e:AFn}(a:cFn P fn=some e):∃ c,fn.body=some c∧e.body=Y1 P c∧Zad P fn.results.toList=some e.results∧e.ntmps=fn.ntmps∧(fn.name == "runtime.NumGoroutine")=false:=by
 unfold cFn at a;cases f:fn.body with
 | none=>simp[f]at a
 | some c=>
  cases d:Zad P fn.results.toList with
  | none=>simp[f,d]at a
  | some g=>
   simp only[f,d]at a;split at a<;>first|(cases a; done)|skip
   rename_i b;injection a with a
   subst a;exact⟨c,rfl,rfl,rfl,rfl,by simpa using b⟩
theorem Zr7(hm:P.follows .mixedOrders=true){H:HypW}(d:H.Mono){st:StepA}(B:StOk Fence.wide 0 H P st){D:CallW}(s:Zem Fence.wide 0 H P D){f:FuncId}{fn:Func}{k:AFn}{args:List AVal}{m:Mem}{K:AVal→Mem→Prop}(G:P.funcs[f]? = some fn)(X:cFn P fn=some k)
 (h:T3 (wrG P true st D) true k.body (retK k.results K) ⟨args++List.replicate (k.ntmps - args.length) aundef,m⟩):ACallsH H P f args m K:=by
 obtain⟨c,F,g,A,z,j⟩:=Zmh X;refine⟨⟨fn,G,j,by rw[F]; rfl⟩,fun W Φ ρ U vs w Z V=>?_⟩
 rw[g,z]at h;have hs:=Z7g (n:=0) hm d B s c _ _ h W Φ ρ U { tmps:=vs++Array.replicate (fn.ntmps - vs.size) undef,defers:=[] } w Z (Zis V) rfl;refine calls_of_wp G F (wp_mono (wpIn_wide.1 hs) fun e a w' Y=>?_)
 obtain⟨p,b,ρ',M,N,O,E,Q,S,o⟩:=Y;have q:(match L6 p.t p.m k.results with|some r=>K r p.m|none=>False)→a.defers=[] ∧ ∃ v,(results fn a.tmps).run P w'=.ok v w' ∧
  ∃ I r m' b ρ',Ending.returned v=.returned I∧Ext Φ ρ b ρ'∧KeepN m.next ρ ρ'∧Rel W b ρ' m' w'∧R b ρ' r I∧m.next≤m'.next∧K r m':=by
  intro y;cases C:L6 p.t p.m k.results with
  | none=>simp[C]at y
  | some r=>
   simp only[C]at y;obtain⟨u,J,L⟩:=Zh3 E Q A C;exact⟨S,u,J,u,r,p.m,b,ρ',rfl,M,N,E,L,O,y⟩
 cases e with
 | normal=>exact q o
 | ret=>exact q o
 | exit i=>exact o.elim
 | goto l=>exact o.elim
 | panic ch=>exact o.elim
 | outgrown=>exact o.elim
end
end Go.AE
end
section
namespace Go.AE
open Go.RowKit
def endP(W:Base)(Φ:Pers)(ρ:Rho)(n:Nat)(K:ASt→Prop)(e:Exit)(a:Act)(w:World):Prop:=
 (e=.normal∨e=.ret) ∧ ∃ σ Φ' ρ',Ext Φ ρ Φ' ρ'∧KeepN n ρ ρ'∧n≤σ.m.next∧RL Φ' ρ' σ.t a.tmps∧K σ ∧
   ((a.defers=[]∧Rel W Φ' ρ' σ.m w) ∨ ∃ D,a.defers=[Zk0 D]∧W.w.heap.size≤D∧W.g D=none∧Rel (W.setG D (.deferred (some []))) Φ' ρ' σ.m w)
def AR(P:Program)(c:Code)(K:ASt→Prop)(σ:ASt):Prop:=
 ∀(W:Base) (Φ:Pers) (ρ:Rho) (a:Act) (w:World),Rel W Φ ρ σ.m w→RL Φ ρ σ.t a.tmps→a.defers=[]→c.wpIn Fence.wide 0 P (endP W Φ ρ σ.m.next K) a w
section
variable {P:Program}
theorem Yc2{W:Base}{Φ b:Pers}{ρ ρ':Rho}{n g:Nat}{K:ASt→Prop}{e:Exit}{a:Act}{w:World}(o:Ext Φ ρ b ρ')(p:KeepN n ρ ρ')(f:n≤g)(h:endP W b ρ' g K e a w):endP W Φ ρ n K e a w:=by
 obtain⟨i,q,c,d,j,k,l,m⟩:=h;exact⟨i,q,c,d,o.trans j,p.trans k f,Nat.le_trans f l,m⟩
def seqQ(K K':ASt→Prop):Exit→ASt→Prop
 | .normal,σ=>K' σ
 | .ret,σ=>K σ
 | _,_=>False
theorem Zxn{x y:Code}{K:ASt→Prop}{o:ASt}(h:AWp P x (seqQ K (AR P y K)) o):AR P (.seq x y) K o:=by
 intro W Φ ρ a w s t q;refine wpIn_seq (wpIn_mono (wpIn_wide.2 (h W Φ ρ a w s t q)) ?_);rintro e p w1 ⟨f,c,d,j,k,n1,m,n,g,b⟩;cases e with
 | normal=>exact wpIn_mono (b W c d p w1 m n g) fun e a w r=>Yc2 j k n1 r
 | ret=>exact ⟨.inr rfl,f,c,d,j,k,n1,n,b,.inl ⟨g,m⟩⟩
 | exit i=>exact b.elim
 | goto l=>exact b.elim
 | panic u=>exact b.elim
 | outgrown=>exact b.elim
def Z2r(P:Program)(g:AOpd)(ps:Array Tmp)(asn bd y:Code)(K:ASt→Prop)(σ:ASt):Prop:=
 ∃ gf first cap,ev σ.t g=.func (.func gf) first cap ∧ ∀(l:Nat) (r:Loop),r.state=.ready→r.pending=none→r.params=ps→r.assign=asn→r.body=bd →
  ACallsH (HLoop σ.m.next l r σ.t) P gf (first++[.yld σ.m.next]++cap) (σ.m.at (σ.m.next+1)) fun _ m2=>T3 (wrG P false stepA (cwFn P)) false (Y1 P y) (seqQ K K) ⟨σ.t,m2⟩
theorem Z8g{x y asn bd:Code}{b:Nat}{g:Operand}{g':AOpd}{ps:Array Tmp}{K:ASt→Prop}{σ:ASt}(hg:Y4 g=some g')(h:AWp P x (seqQ K (Z2r P g' ps asn bd y K)) σ) :
 AR P (.seq (.seq x (.block b (.rangeFunc g ps asn bd))) y) K σ:=by
 intro W Φ ρ a w hr ht hd;refine wpIn_seq (wpIn_seq (wpIn_mono (wpIn_wide.2 (h W Φ ρ a w hr ht hd)) ?_));rintro e S w1 ⟨d,p,z,e1,k1,n1,E,t1,d1,Y⟩;cases e with
 | ret=>exact ⟨.inr rfl,d,p,z,e1,k1,n1,t1,Y,.inl ⟨d1,E⟩⟩
 | exit i=>exact Y.elim
 | goto l=>exact Y.elim
 | panic ch=>exact Y.elim
 | outgrown=>exact Y.elim
 | normal=>
  obtain⟨gf,first,cap,ag,aj⟩:=Y;have L:=T4 t1 hg;rw[ag]at L;refine wpIn_block (wpIn_rangeFunc ?_);intro fn ax;generalize an:S.eval g=vv at L;cases L with
  | func _ _ _ vf vc hf hc ai af=>
   obtain⟨rec,f⟩:∃ rec:Loop,rec={ state:=.ready,pending:=none,fn,tmps:=S.tmps,params:=ps,assign:=asn,body:=bd,defers:=w1.heap.size }:=⟨_,rfl⟩
   have J:=aj (w1.heap.size+1) rec (by rw[f]) (by rw[f]) (by rw[f]) (by rw[f]) (by rw[f])
   have r2:=E.addG (.deferred (some []));have u:=r2.addG (.loop rec);have al:(w1.alloc (.deferred (some []))).heap.size=w1.heap.size+1:=by simp
   rw[al]at u;obtain⟨k,I⟩:∃ k:Rho,k=fun b=>if b=d.m.next then some ⟨w1.heap.size+1,0,0,0⟩ else z b:=⟨_,rfl⟩
   have G:k d.m.next=some ⟨w1.heap.size+1,0,0,0⟩:=by rw[I]; simp
   have q:∀ b,b≠d.m.next→k b=z b:=fun b r=>by rw[I]; simp[r]
   have U:Ext p z p k:=⟨fun _ _ h=>h,fun b lo r=>by
    rw[q b (fun e=>by subst e; have:=E.fresh _ _ r; omega)]; exact r⟩
   have o:∀ b x,d.m.get b=some x→k b=z b:=fun b x hx=>by
    obtain⟨lo,_,r,_⟩:=E.live b x hx;exact q b (fun e=>by subst e; have:=E.fresh _ _ r; omega)
   have r3:Rel ((W.setG w1.heap.size (.deferred (some []))).setG (w1.heap.size+1) (.loop rec)) p k (d.m.at (d.m.next+1)) ((w1.alloc (.deferred (some []))).alloc (.loop rec)):=by
    refine⟨u.base,u.pers,fun b x hx=>?_,fun b b' x x' lo aq V h2 X h4=>?_,fun b lo r=>?_,u.newp⟩
    ·obtain⟨lo,ob,g1,g2,g3,g4,g5⟩:=u.live b x hx;exact⟨lo,ob,by rw[o b x hx]; exact g1,g2,g3,g4,g5.ext U⟩
    ·rw[o b x V]at X;rw[o b' x' h2]at h4;exact u.inj b b' x x' lo aq V h2 X h4
    ·simp only[Mem.next_at];by_cases e:b=d.m.next
     ·omega
     ·rw[q b e]at r;have:=E.fresh b lo r;omega
   obtain⟨⟨fb,ah,M,B⟩,hC⟩:=J;have ae:RL p k (first++[.yld d.m.next]++cap) (vf ++ #[.func (.yield (w1.heap.size+1)) #[] #[]]++vc):=by
    refine⟨by simp only[Array.size_append,List.length_append,hf,hc]; rfl,fun i y v A C=>?_⟩
    rw[List.getElem?_append]at A;rw[Array.getElem?_append]at C;have ak:(vf ++ #[Value.func (.yield (w1.heap.size+1)) #[] #[]]).size=(first++[AVal.yld d.m.next]).length:=by simp[hf]
    rw[ak]at C;split at A
    ·rename_i V;rw[if_pos V]at C;rw[List.getElem?_append]at A;rw[Array.getElem?_append,hf]at C;split at A
     ·rename_i X;rw[if_pos X]at C;exact(ai i y v A C).ext U
     ·rename_i X;rw[if_neg X]at C;obtain⟨j,hj⟩:∃ j,j=i - first.length:=⟨_,rfl⟩
      rw[← hj]at A C;cases j with
      | zero=>
       simp only[List.getElem?_cons_zero,oI]at A;have am:Value.func (.yield (w1.heap.size+1)) #[] #[]=v:=by simpa using C
       subst A; subst am;exact .yld _ ⟨w1.heap.size+1,0,0,0⟩ G
      | succ j=>simp at A
    ·rename_i V;rw[if_neg V]at C;exact(af _ y v A C).ext U
   have hH:HLoop d.m.next (w1.heap.size+1) rec d.t ((W.setG w1.heap.size (.deferred (some []))).setG (w1.heap.size+1) (.loop rec)) p k:=
    ⟨Nat.le_trans E.base.below.size (Nat.le_succ _),Base.setG_g _ _ _,by rw[f]; exact t1.ext U,G⟩
   have F:=hC _ p k hH _ _ r3 ae;refine⟨w1.heap.size+1,[Zk0 w1.heap.size],(w1.alloc (.deferred (some []))).alloc (.loop rec),{ target:=.fn (.func gf) vc,args:=vf ++ #[.func (.yield (w1.heap.size+1)) #[] #[]] },(w1.alloc (.deferred (some []))).alloc (.loop rec),gf,vf ++ #[.func (.yield (w1.heap.size+1)) #[] #[]]++vc,(w1.alloc (.deferred (some []))).alloc (.loop rec),?_,?_,fun _ _=>trivial,?_,(fun hh=>absurd hh (by simp[Fence.wide])),?_⟩
   ·have:=run_enterLoop_outer (P:=P) (w:=w1) fn S.tmps ps asn bd;rw[← f]at this;exact this
   ·simp only[resolve,rangeCall,an,Deferred.ofValue,Sem.run_pure];have he:(#[Operand.const (Value.func (.yield (w1.heap.size+1)) #[] #[])]:Array Operand).map S.eval = #[.func (.yield (w1.heap.size+1)) #[] #[]]:=by
     simp[Act.eval]
    rw[he]
   ·simp only[invoke,callFunc];cases r:fb.body with
    | none=>rw[r]at B; cases B
    | some b=>simp[program,Sem.run,ah,r]; simpa using M
   ·refine(callsIn_wide.2 F:CallsIn Fence.wide (0 - 1) P gf _ _ _) |> fun ab=>⟨ab.1,fun cs O=>?_⟩
    obtain⟨e,w',fr,hS,s,x⟩:=ab.2 cs O;refine⟨e,w',fr,?_,s,x⟩;obtain⟨v,rr,m2,ar,av,rfl,e2,k2,r4,_,n2,A⟩:=hS;have kL:KeepN d.m.next z k:=fun b r h0=>by rw[q b (by omega)]; exact h0
    have Q:σ.m.next≤(d.m.at (d.m.next+1)).next:=by simp only[Mem.next_at]; omega
    have hw:=r4.base.prot _ _ (Base.setG_g _ _ _);have ac:=run_endLoop (P:=P) hw (by rw[f]; simp)
    have N:rec.pending=none:=by rw[f]
    refine⟨none,w'.putObj (w1.heap.size+1) (.loop { rec with state:=.exhausted }),by rw[ac,N],?_⟩
    have r5:=r4.putG (Base.setG_g _ _ _) hH.1 (by intro c e fz h; cases h) (.loop { rec with state:=.exhausted })
    rw[Base.setG_setG]at r5;have r6:=r5.dropG (by rw[Base.setG_other (by omega)]; exact E.g_new (by omega))
    have ao:=Zow (P:=P) (n:=0) (D:=[Zk0 w1.heap.size]) Open.wide (H:=fun _ _ _=>True) (fun _ _ _ _ _ _ _=>trivial) (Zj7 Open.wide) (Zj0 Open.wide) y _ _ A (W.setG w1.heap.size (.deferred (some []))) ar av trivial
     { S with defers:=[Zk0 w1.heap.size]++S.defers } _ r6 ((t1.ext U).ext e2) (by simp[d1])
    refine wpIn_mono ao ?_;rintro e a3 w3 ⟨ad,au,aw,e3,k3,n3,r7,t3,d3,Z⟩;have aa:K ad→(e=.normal∨e=.ret)→endP W Φ ρ σ.m.next K e a3 w3:=fun hk he=>
     ⟨he,ad,au,aw,((e1.trans U).trans e2).trans e3,((k1.trans kL n1).trans k2 Q).trans k3 (Nat.le_trans Q n2),Nat.le_trans Q (Nat.le_trans n2 n3),t3,hk,
      .inr ⟨w1.heap.size,d3,E.base.below.size,E.g_new (Nat.le_refl _),r7⟩⟩
    cases e with
    | normal=>exact aa Z (.inl rfl)
    | ret=>exact aa Z (.inr rfl)
    | exit i=>exact Z.elim
    | goto l=>exact Z.elim
    | panic ch=>exact Z.elim
    | outgrown=>exact Z.elim
theorem Z3f{f:FuncId}{fn:Func}{c:Code}{B:List (Nat×Option (Option Nat))}{args:List AVal}{m:Mem}{q:List Nat}{K:AVal→Mem→Prop}(E:P.funcs[f]? = some fn)(p:fn.body=some c)
 (k:(fn.name == "runtime.NumGoroutine")=false) (z:Zad P fn.results.toList=some B)
 (h:AR P c (fun g=>match L6 g.t g.m B with|some r=>K r g.m|none=>False) ⟨args++List.replicate (fn.ntmps - args.length) aundef,m⟩):ACalls P f args m q K:=by
 refine⟨⟨fn,E,k,by rw[p]; rfl⟩,fun W Φ ρ vs w X Q S=>?_⟩
 have Y:=h W Φ ρ { tmps:=vs++Array.replicate (fn.ntmps - vs.size) undef,defers:=[] } w X (Zis Q) rfl;refine callsIn_wide.1 (callsIn_of_wp_marks (n:=0) E p trivial (wpIn_mono Y ?_));rintro e a w' ⟨U,g,d,ρ',J,L,M,N,s,j⟩;have o:∀ C,Rel W d ρ' g.m C→LeavesInM Fence.wide 0 P fn a.tmps (fun e w'=>∃ v r m' d ρ',e=.returned v∧Ext Φ ρ d ρ'∧(∀ b,b<m.next→b∉q→ρ b=none→ρ' b=none) ∧
  Rel W d ρ' m' w'∧R d ρ' r v∧m.next≤m'.next∧K r m') [] .returning C:=by
  intro C i;cases A:L6 g.t g.m B with
  | none=>simp[A]at s
  | some r=>
   simp only[A]at s;obtain⟨u,G,H⟩:=Zh3 i N z A;exact⟨u,G,u,r,g.m,d,ρ',rfl,J,fun b p _ I=>L b p I,i,H,M,s⟩
 have l:LeavesInM Fence.wide 0 P fn a.tmps (fun e w'=>∃ v r m' d ρ',e=.returned v∧Ext Φ ρ d ρ'∧(∀ b,b<m.next→b∉q→ρ b=none→ρ' b=none) ∧
  Rel W d ρ' m' w'∧R d ρ' r v∧m.next≤m'.next∧K r m') a.defers .returning w':=by
  rcases j with⟨y,i⟩|⟨D,y,O,V,i⟩
  ·rw[y]; exact o w' i
  ·rw[y];have Z:=i.base.prot _ _ (Base.setG_g _ _ _);have F:=(i.putG (Base.setG_g _ _ _) O (by intro c e fz h; cases h) (.deferred none))
   rw[Base.setG_setG]at F;exact⟨by simp,.inl ⟨D,_,rfl,run_takeDeferred Z,o _ (F.dropG V)⟩⟩
 rcases U with rfl|rfl
 ·exact l
 ·exact l
end
end Go.AE
end
section
namespace Go.AE
open Go.RowKit
def P0(get:Nat→Option ABlk):AVal→Option (List AVal×Nat)
 | .ptr b i j=>match get b with
  | some (.cells _ els)=>match els[i]? with
   | some row=>some (row,j)
   | none=>none
  | _=>none
 | .iptr els i j=>match els[i]? with
  | some row=>some (row,j)
  | none=>none
 | _=>none
def T7(get:Nat→Option ABlk)(n:Option Nat)(x:AVal):Option AVal:=
 match P0 get x with
 | some (row,j)=>match n with
  | none=>row[j]?
  | some n=>if 0<n∧j+n≤row.length then some (.agg ((row.drop j).take n))else none
 | none=>none
def Q7(get:Nat→Option ABlk)(n:Nat)(x v:AVal):Option (List (Nat×Option ABlk)):=
 match x,v.cells with
 | .ptr b i j,some cs=>match get b with
  | some (.cells k els)=>match els[i]? with
   | some row=>if cs.length=n∧j+n≤row.length∧cs.all AVal.one then some [(b,some (.cells k (els.set i (T0 row j cs))))]else none
   | none=>none
  | _=>none
 | _,_=>none
def C3(get:Nat→Option ABlk)(k:Nat):AVal→Option (List (List AVal))
 | .nilSl | .emp=>some []
 | .imm els=>if els.all (·.length == k)then some els else none
 | .sl b off len=>match get b with
  | some (.cells k' els)=>if k'=k∧off+len≤els.length then some ((els.drop off).take len)else none
  | _=>if len=0 then some []else none
 | _=>none
def I7(get:Nat→Option ABlk)(k:Nat):AVal→Option (List (List AVal))
 | .str s=>if k=1 then some (s.map Znc)else none
 | x=>C3 get k x
def Zaf(e:AOpd→AVal)(d:Nat):Option AOpd→Option Nat
 | none=>some d
 | some x=>U5 (e x)
def X5(id k bytes:Nat)(get:Nat→Option ABlk)(s:AVal)(xs:List (List AVal)):Option (AVal×List (Nat×Option ABlk)):=
 match s with
 | .nilSl=>if xs=[]then some (.nilSl,[])else if xs.length≤W6∧bytes≤W6 then some (.sl id 0 xs.length,[(id,some (.cells k xs))])else none
 | .emp=>if xs=[]then some (.emp,[])else if xs.length≤W6∧bytes≤W6 then some (.sl id 0 xs.length,[(id,some (.cells k xs))])else none
 | .sl b off len=>match get b with
  | some (.cells k' els)=>
   if k'=k∧off+len≤els.length∧(els.length=off+len∨off+len+xs.length≤els.length)then
    if off+len+xs.length≤els.length then
     some (.sl b off (len+xs.length),[(b,some (.cells k (els.take (off+len)++xs++els.drop (off+len+xs.length))))])
    else if len+xs.length≤W6∧bytes≤W6 then
     some (.sl id 0 (len+xs.length),[(b,none),(id,some (.cells k ((els.drop off).take len++xs)))])
    else none
   else none
  | _=>none
 | _=>none
def J8(e:AOpd→AVal)(len mxlen:Nat)(lo hi:Option AOpd):Option (Nat×Nat):=
 match Zaf e len hi with
 | some h=>if h≤mxlen then match Zaf e 0 lo with
  | some l=>if l≤h then some (l,h)else none
  | none=>none
  else none
 | none=>none
def stepD(id:Nat)(e:AOpd→AVal)(get:Nat→Option ABlk):AOp→Option (AVal×List (Nat×Option ABlk))
 | .mov x=>some (e x,[])
 | .pick c a b=>match e c with
  | .bool true=>some (e a,[])
  | .bool false=>some (e b,[])
  | _=>none
 | .box x=>match (e x).cells with
  | some cs=>if cs.all AVal.one then some (.ptr id 0 0,[(id,some (.cells cs.length [cs]))])else none
  | none=>none
 | .alloc zero=>some (.ptr id 0 0,[(id,some (.cells zero.length [zero]))])
 | .build zero parts=>match H5 zero (parts.map fun p=>(p.1,p.2.1,e p.2.2))with
  | some cs=>some (.agg cs,[])
  | none=>none
 | .mkSl k len zero parts=>match L4 k (List.replicate len zero) (parts.map fun p=>(p.1,e p.2))with
  | some els=>some (.sl id 0 len,[(id,some (.cells k els))])
  | none=>none
 | .load n x=>match T7 get n (e x)with
  | some v=>some (v,[])
  | none=>none
 | .store n a x=>match Q7 get n (e a) (e x)with
  | some d=>some (aundef,d)
  | none=>none
 | .nilChk x=>match e x with
  | .ptr b i j=>some (.ptr b i j,[])
  | .iptr els i j=>some (.iptr els i j,[])
  | .func (.func f) a b=>some (.func (.func f) a b,[])
  | _=>none
 | .bin op q x y=>match W7 op q (e x) (e y)with
  | some v=>some (v,[])
  | none=>none
 | .un op x=>match unA op (e x)with
  | some v=>some (v,[])
  | none=>none
 | .convInt k x=>match e x with
  | .int _ n=>some (.int k (k.wrap n),[])
  | _=>none
 | .convId x=>match e x with
  | .str s=>some (.str s,[])
  | _=>none
 | .toStr x=>match C3 get 1 (e x)with
  | some rows=>match Zek rows with
   | some s=>some (.str s,[])
   | none=>none
  | none=>none
 | .mkFunc fn first captured=>some (.func fn (first.map e) (captured.map e),[])
 | .mkMap=>some (.map id,[(id,some (.map [] 0))])
 | .makeSl k bytes zero len cap=>match U5 (e len),U5 (e cap)with
  | some l,some c=>if l≤c∧c≤W6∧bytes≤W6 then some (.sl id 0 l,[(id,some (.cells k (List.replicate c zero)))])else none
  | _,_=>none
 | .slStr x lo hi=>match e x with
  | .str s=>match J8 e s.length s.length lo hi with
   | some (l,h)=>some (.str ((s.take h).drop l),[])
   | none=>none
  | _=>none
 | .slSl k x lo hi mx=>match mx with
  | some z=>match W2 (e x),Zaf e 0 (some z),Zaf e 0 lo,hi with
   | some n,some mx,some l,some h=>match U5 (e h)with
    | some h=>if l≤h∧h≤mx∧mx≤n then (if mx=0 then some (.emp,[])else some (.bot,[]))else none
    | none=>none
   | _,_,_,_=>none
  | none=>match e x with
   | .nilSl=>match J8 e 0 0 lo hi with
    | some _=>some (.nilSl,[])
    | none=>none
   | .emp=>match J8 e 0 0 lo hi with
    | some _=>some (.emp,[])
    | none=>none
   | .imm els=>if els.all (·.length == k)then match J8 e els.length els.length lo hi with
    | some (l,h)=>some (.imm ((els.take h).drop l),[])
    | none=>none
    else none
   | .sl b off len=>match get b with
    | some (.cells k' els)=>if k'=k∧off+len≤els.length then match J8 e len (els.length - off) lo hi with
     | some (l,h)=>some (.sl b (off+l) (h - l),[])
     | none=>none
     else none
    | _=>none
   | _=>none
 | .slArr ..=>none
 | .fieldA off x=>match Q5 off (e x)with
  | some v=>some (v,[])
  | none=>none
 | .field off n x=>match e x with
  | .agg cs=>match Za7 cs off n with
   | some v=>some (v,[])
   | none=>none
  | _=>none
 | .idxA k x i=>match e x,U5 (e i)with
  | .sl b off len,some i=>match get b with
   | some (.cells k' _)=>if k'=k∧i<len then some (.ptr b (off+i) 0,[])else none
   | _=>none
  | .imm els,some i=>match els[i]? with
   | some row=>if row.length=k then some (.iptr els i 0,[])else none
   | none=>none
  | _,_=>none
 | .idxAA n k x i=>match U5 (e i)with
  | some i=>if i<n then match Q5 (i*k) (e x)with
   | some v=>some (v,[])
   | none=>none
   else none
  | none=>none
 | .idxStr x i=>match e x,U5 (e i)with
  | .str s,some i=>match s[i]? with
   | some c=>some (.int .u8 c.toNat,[])
   | none=>none
  | _,_=>none
 | .idxArr n k sz x i=>match e x,U5 (e i)with
  | .agg cs,some i=>if i<n then match Za7 cs (i*k) sz with
   | some v=>some (v,[])
   | none=>none
   else none
  | _,_=>none
 | .lookup kt zero ok x i=>match (match e x with
  | .nilMap=>some []
  | .map b=>match get b with
   | some (.map es _)=>some es
   | _=>none
  | _=>none)with
  | some es=>match D0 kt (e i) es with
   | some r=>
    let v:=match r with
     | some (_,v,_)=>v
     | none=>zero
    some (if ok then .tuple [v,.bool r.isSome]else v,[])
   | none=>none
  | none=>none
 | .mapUpd kt mp k v=>match e mp with
  | .map b=>match get b with
   | some (.map es clock)=>match D0 kt (e k) es with
    | some (some (i,_,born))=>some (aundef,[(b,some (.map (es.set i (e k,e v,born)) clock))])
    | some none=>some (aundef,[(b,some (.map (es++[(e k,e v,clock)]) (clock+1)))])
    | none=>none
   | _=>none
  | _=>none
 | .mapEnt ..=>none
 | .entSt ..=>none
 | .delete ..=>none
 | .range _=>none
 | .nextS _=>none
 | .nextM _=>none
 | .ext x i=>match e x with
  | .tuple vs=>match vs[i]? with
   | some v=>some (v,[])
   | none=>none
  | _=>none
 | .call _ _=>none
 | .append k bytes _ s x=>match I7 get k (e x)with
  | some xs=>X5 id k bytes get (e s) xs
  | none=>none
 | .appendZ ..=>none
 | .copy k d s=>match e d,I7 get k (e s)with
  | .sl b off len,some xs=>match get b with
   | some (.cells k' els)=>if k'=k∧off+len≤els.length then
    let n:=min xs.length len
    some (.int .i64 n,[(b,some (.cells k (els.take off++xs.take n++els.drop (off+n))))])
    else none
   | _=>none
  | _,_=>none
 | .clear k zero x=>match e x with
  | .sl b off len=>match get b with
   | some (.cells k' els)=>if k'=k∧off+len≤els.length then
    some (aundef,[(b,some (.cells k (els.take off++List.replicate len zero++els.drop (off+len))))])
    else none
   | _=>none
  | .nilSl=>some (aundef,[])
  | .emp=>some (aundef,[])
  | _=>none
 | .lenStr x=>match e x with
  | .str s=>some (.int .i64 s.length,[])
  | _=>none
 | .lenSl x=>match W2 (e x)with
  | some n=>some (.int .i64 n,[])
  | none=>none
 | .lenMap x=>match e x with
  | .nilMap=>some (.int .i64 0,[])
  | .map b=>match get b with
   | some (.map es _)=>some (.int .i64 es.length,[])
   | _=>none
  | _=>none
 | .lenArr n=>some (.int .i64 n,[])
 | .capSl _=>none
 | .minmax mx xs=>match xs with
  | []=>none
  | x :: r=>match Zct mx (e x) (r.map e)with
   | some v=>some (v,[])
   | none=>none
 | .iface ty x=>some (.iface ty (e x),[])
 | .dead=>none
def Mem.apply(m:Mem):List (Nat×Option ABlk)→Mem
 | []=>m
 | (b,some x) :: r=>(m.set b x).apply r
 | (b,none) :: r=>(m.del b).apply r
section
variable {m:Mem} {t:List AVal} {id:Nat}
theorem Z1j(x:AVal):Za9 m x=P0 m.get x:=by cases x<;>rfl
theorem Znw(n:Option Nat)(x:AVal):Zc1 m n x=T7 m.get n x:=by simp only[Zc1,T7,Z1j]; rfl
theorem Zql(k:Nat)(x:AVal):I1 m k x=C3 m.get k x:=by cases x<;>rfl
theorem Zo3(k:Nat)(x:AVal):N6 m k x=I7 m.get k x:=by cases x<;>first|rfl|exact Zql _ _
theorem Zyr(d:Nat)(o:Option AOpd):G8 t d o=Zaf (ev t) d o:=by cases o<;>rfl
theorem Zsz(n a:Nat)(lo hi:Option AOpd):K4 t n a lo hi=J8 (ev t) n a lo hi:=by
 simp only[K4,J8,Zyr]; rfl
theorem Z99{n:Nat}{x v:AVal}{d:List (Nat×Option ABlk)}(h:Q7 m.get n x v=some d):Ze6 m n x v=some (m.apply d):=by
 cases x<;>simp only[Q7]at h<;>first|(cases h; done)|skip
 rename_i b i j;cases c:v.cells with
 | none=>simp[c]at h
 | some cs=>
  simp only[c]at h;cases e:m.get b with
  | none=>simp[e]at h
  | some blk=>
   cases blk<;>simp only[e]at h<;>first|(cases h; done)|skip
   rename_i k els;cases f:els[i]? with
   | none=>simp[f]at h
   | some row=>
    simp only[f]at h;split at h<;>first|(cases h; done)|skip
    rename_i a;injection h with h
    subst h;simp only[Ze6,c,e,f];rw[if_pos a];rfl
theorem Ycn{k a:Nat}{s:AVal}{g:List (List AVal)}{r:AVal}{d:List (Nat×Option ABlk)}(h:X5 id k a m.get s g=some (r,d)):H2 id k a m s g=some (r,m.apply d):=by
 cases s<;>simp only[X5]at h<;>first|(cases h; done)|skip
 ·split at h
  ·rename_i c;cases h;simp only[H2,c,if_true,Mem.apply]
  ·rename_i c;split at h<;>first|(cases h; done)|skip
   rename_i e;cases h;simp only[H2,c,if_false];rw[if_pos e];rfl
 ·split at h
  ·rename_i c;cases h;simp only[H2,c,if_true,Mem.apply]
  ·rename_i c;split at h<;>first|(cases h; done)|skip
   rename_i e;cases h;simp only[H2,c,if_false];rw[if_pos e];rfl
 ·rename_i b off len;cases f:m.get b with
  | none=>simp[f]at h
  | some blk=>
   cases blk<;>simp only[f]at h<;>first|(cases h; done)|skip
   rename_i l els;split at h<;>first|(cases h; done)|skip
   rename_i j;simp only[H2,f];rw[if_pos j];split at h
   ·rename_i e;rw[if_pos e];cases h;rfl
   ·rename_i e;rw[if_neg e];split at h<;>first|(cases h; done)|skip
    rename_i i;rw[if_pos i];cases h;rfl
theorem Zgw{op:AOp}{v:AVal}{d:List (Nat×Option ABlk)}(h:stepD id (ev t) m.get op=some (v,d)):stepA id t m op=some (v,m.apply d):=by
 cases op with
 | store n a x=>
  simp only[stepD]at h;split at h<;>first|(cases h; done)|skip
  rename_i l j;cases h;simp only[stepA,Z99 j]
 | append k c z s x=>
  simp only[stepD]at h;split at h<;>first|(cases h; done)|skip
  rename_i p f;simp only[stepA,Zo3,f];exact Ycn h
 | lookup o z ok x i=>
  simp only[stepD]at h;simp only[stepA];generalize ev t x=y at *;cases y<;>simp only at h ⊢ <;> first|(cases h; done)|skip
  case map b=>
   cases g:m.get b with
   | none=>simp[g]at h
   | some blk=>
    cases blk<;>simp only[g]at h ⊢ <;> first|(cases h; done)|skip
    split at h<;>first|(cases h; done)|skip
    rename_i e;cases h;simp only[e,Mem.apply];rfl
  all_goals
   split at h<;>first|(cases h; done)|skip
   rename_i e;cases h;simp only[e,Mem.apply];rfl
 | _=>
  simp only[stepD]at h
  first
   | (cases h; done)
   | (cases h; rfl)
   | ((repeat' (split at h<;>first|(cases h; done)|skip))<;>(cases h; simp_all[stepA,Mem.apply,Znw,Zql,Zo3,Zsz,Zyr]; try omega))
end
end Go.AE
end
section
namespace Go.AE
open Go.RowKit
inductive Tr (α:Type) where
 | nil
 | node (l:Tr α) (v:Option α) (r:Tr α)
def Tr.get{α:Type}:Tr α→Nat→Option α
 | .nil,_=>none
 | .node l v r,n=>bif Nat.beq n 0 then v else bif Nat.beq (Nat.mod n 2) 1 then l.get (Nat.div n 2)else r.get (Nat.sub (Nat.div n 2) 1)
def Tr.set{α:Type}:Nat→Tr α→Nat→Option α→Tr α
 | 0,t,_,_=>t
 | d+1,.nil,n,x=>bif Nat.beq n 0 then .node .nil x .nil else bif Nat.beq (Nat.mod n 2) 1 then .node (Tr.set d .nil (Nat.div n 2) x) none .nil else .node .nil none (Tr.set d .nil (Nat.sub (Nat.div n 2) 1) x)
 | d+1,.node l v r,n,x=>bif Nat.beq n 0 then .node l x r else bif Nat.beq (Nat.mod n 2) 1 then .node (Tr.set d l (Nat.div n 2) x) v r else .node l v (Tr.set d r (Nat.sub (Nat.div n 2) 1) x)
abbrev depth:Nat:=22
abbrev bound:Nat:=1000000
structure TM where
 tr:Tr ABlk
 next:Nat
def TM.mem(m:TM):Mem:=⟨m.tr.get,m.next⟩
def TM.set(m:TM)(b:Nat)(x:Option ABlk):TM:=⟨m.tr.set depth b x,m.next⟩
def TM.apply(m:TM):List (Nat×Option ABlk)→TM
 | []=>m
 | (b,x) :: r=>(m.set b x).apply r
def evT(t:Tr AVal):AOpd→AVal
 | .tmp i=>match t.get i with
  | some v=>v
  | none=>aundef
 | .const v=>v
 | .fn f=>.func (.func f) [] []
def S9(t:Tr AVal)(d:Option Nat)(v:AVal):Tr AVal:=
 match d with
 | some d=>t.set depth d (some v)
 | none=>t
def Zfm(t:Tr AVal):Option (Nat×Bool)→Option Bool
 | none=>some true
 | some (d,w)=>match evT t (.tmp d)with
  | .bool b=>some (b == w)
  | .tuple []=>some false
  | _=>none
def Zhm(t:Tr AVal)(f:AOpd)(xs:List AOpd):Option (FuncId×List AVal):=
 match evT t f with
 | .func (.func g) first cap=>some (g,first++xs.map (evT t)++cap)
 | _=>none
structure RS where
 t:Tr AVal
 m:TM
 wl:List Nat
def okD:List (Nat×Option ABlk)→Bool
 | []=>true
 | (b,_) :: r=>bif Nat.ble bound b then false else okD r
def okX(id:Nat):List Nat→Bool
 | []=>true
 | c :: r=>bif Nat.ble bound c then false else bif Nat.beq c id then false else okX id r
def addW(lim:Nat)(wl:List Nat):List (Nat×Option ABlk)→List Nat
 | []=>wl
 | (b,_) :: r=>bif Nat.ble lim b then addW lim wl r else addW lim (b :: wl) r
def addL(lim:Nat)(wl:List Nat):List Nat→List Nat
 | []=>wl
 | b :: r=>bif Nat.ble lim b then addL lim wl r else addL lim (b :: wl) r
abbrev Caller:=FuncId→List AVal→TM→Option (AVal×TM×List Nat)
def D3(x:Nat):List Nat→Bool
 | []=>false
 | y :: r=>bif Nat.beq x y then true else D3 x r
def Zey:List Nat→List Nat→Bool
 | [],_=>true
 | x :: r,l=>bif D3 x l then false else Zey r l
def Zgg(n:Nat):List Nat→Bool
 | []=>true
 | x :: r=>bif Nat.ble n x then false else Zgg n r
def subB:List Nat→List Nat→Bool
 | [],_=>true
 | x :: r,l=>bif D3 x l then subB r l else false
def FT.indepB:FT→FT→Bool
 | .ops w r,.ops w' r'=>Zey w (r'++w')&&Zey r w'
 | .ops w r,.call wl x nx=>Zey r wl&&Zgg nx r&&Zey w wl&&Zgg nx w&&subB w x
 | .call wl x nx,.ops w r=>Zey r wl&&Zgg nx r&&Zey w wl&&Zgg nx w&&subB w x
 | .call _ _ _,.call _ _ _=>false
def Zft(fs:List FT)(ft:FT):List Nat→Bool
 | []=>true
 | i :: r=>FT.indepB (fs.getD i (.ops [] [])) ft&&Zft fs ft r
def runP(call:Caller)(lim base:Nat):List AOper→Nat→RS→Option RS
 | [],_,s=>some s
 | o :: r,i,s=>
  match Zfm s.t o.guard with
  | some false=>runP call lim base r (i+1) { s with t:=S9 s.t o.dst aundef }
  | some true=>
   match o.op with
   | .call f xs=>match Zhm s.t f xs with
    | some (g,args)=>match call g args s.m with
     | some (v,m',wl)=>runP call lim base r (i+1) ⟨S9 s.t o.dst v,m',addL lim s.wl wl⟩
     | none=>none
    | none=>none
   | op=>match stepD (base+i) (evT s.t) s.m.tr.get op with
    | some (v,[])=>runP call lim base r (i+1) ⟨S9 s.t o.dst v,s.m,s.wl⟩
    | some (v,d)=>bif okD d then runP call lim base r (i+1) ⟨S9 s.t o.dst v,s.m.apply d,addW lim s.wl d⟩ else none
    | none=>none
  | none=>none
def Zk4(base i:Nat):List AOper→Nat→List Nat
 | [],_=>[]
 | o :: r,j=>bif D3 i o.un then (base+j) :: Zk4 base i r (j+1)else Zk4 base i r (j+1)
def Zag(m:TM):List Nat→TM
 | []=>m
 | c :: r=>Zag (m.set c none) r
def Zb6(m0:TM):TM→List Nat→TM
 | m,[]=>m
 | m,c :: r=>Zb6 m0 (m.set c (m0.tr.get c)) r
def Zjo(m:TM):List Nat→Bool
 | []=>true
 | c :: r=>match m.tr.get c with
  | none=>Zjo m r
  | some _=>false
def V7(id:Nat)(e:AOpd→AVal):AOp→List Nat
 | .append _ _ _ s _=>id :: Y9 (e s)
 | .copy _ d _=>Y9 (e d)
 | .store _ a _=>Y9 (e a)
 | .mapUpd _ m _ _=>Y9 (e m)
 | .clear _ _ x=>Y9 (e x)
 | .box _ | .alloc _ | .mkSl _ _ _ _ | .mkMap | .makeSl _ _ _ _ _=>[id]
 | _=>[]
def V8(e:AOpd→AVal):AOp→List Nat
 | .append _ _ _ _ x=>Y9 (e x)
 | .copy _ _ s=>Y9 (e s)
 | .load _ x | .toStr x | .lookup _ _ _ x _ | .lenMap x | .slSl _ x _ _ _ | .idxA _ x _=>Y9 (e x)
 | _=>[]
def runD(call:Caller)(lim base:Nat):List AOper→List FT→RS→Option RS
 | [],_,s=>some s
 | o :: r,fs,s=>
  match Zfm s.t o.guard with
  | some false=>runD call lim base r (fs++[.ops [] []]) { s with t:=S9 s.t o.dst aundef }
  | some true=>
   match o.op with
   | .call f xs=>match Zhm s.t f xs with
    | some (g,args)=>
     let x:=o.un.map (base + ·)++Zk4 base fs.length r (fs.length+1)
     match call g args (Zag s.m x)with
     | some (v,m',wl)=>bif Zft fs (.call wl x s.m.next) o.un&&okX (base+fs.length) x&&Zjo m' x then runD call lim base r (fs++[.call wl x s.m.next]) ⟨S9 s.t o.dst v,Zb6 s.m m' x,addL lim s.wl wl⟩ else none
     | none=>none
    | none=>none
   | op=>match stepD (base+fs.length) (evT s.t) s.m.tr.get op with
    | some (v,d)=>
     let ft:=FT.ops (V7 (base+fs.length) (evT s.t) op) (V8 (evT s.t) op)
     bif Zft fs ft o.un&&okD d then runD call lim base r (fs++[ft]) ⟨S9 s.t o.dst v,s.m.apply d,addW lim s.wl d⟩ else none
    | none=>none
  | none=>none
inductive REnd where
 | normal
 | exit (n:Nat)
 | ret
def T9(call:Caller)(lim:Nat):Nat→ACode→RS→Option (REnd×RS)
 | 0,_,_=>none
 | f+1,c,s=>
  match c with
  | .skip | .label _=>some (.normal,s)
  | .region false ops=>
   bif Nat.ble (s.m.next+ops.length) bound then match runP call lim s.m.next ops 0 ⟨s.t,⟨s.m.tr,s.m.next+ops.length⟩,s.wl⟩ with
    | some s'=>some (.normal,s')
    | none=>none
   else none
  | .region true ops=>
   bif Nat.ble (s.m.next+ops.length) bound then match runD call lim s.m.next ops [] ⟨s.t,⟨s.m.tr,s.m.next+ops.length⟩,s.wl⟩ with
    | some s'=>some (.normal,s')
    | none=>none
   else none
  | .seq a b=>match T9 call lim f a s with
   | some (.normal,s')=>T9 call lim f b s'
   | r=>r
  | .cond c a b=>match evT s.t c with
   | .bool true=>T9 call lim f a s
   | .bool false=>T9 call lim f b s
   | _=>none
  | .block id c=>match T9 call lim f c s with
   | some (.exit n,s')=>bif Nat.beq n id then some (.normal,s')else some (.exit n,s')
   | r=>r
  | .loop c=>match T9 call lim f c s with
   | some (.normal,s')=>T9 call lim f (.loop c) s'
   | r=>r
  | .exit n=>some (.exit n,s)
  | .scope c=>T9 call lim f c s
  | .ret=>some (.ret,s)
  | .bad=>none
def Zjd(t:Tr AVal)(m:TM):Nat×Option (Option Nat)→Option AVal
 | (i,none)=>some (evT t (.tmp i))
 | (i,some n)=>T7 m.tr.get n (evT t (.tmp i))
def Zmu(t:Tr AVal)(m:TM):List (Nat×Option (Option Nat))→Option (List AVal)
 | []=>some []
 | x :: r=>match Zjd t m x,Zmu t m r with
  | some y,some ys=>some (y :: ys)
  | _,_=>none
def A2(t:Tr AVal)(m:TM):List (Nat×Option (Option Nat))→Option AVal
 | [x]=>Zjd t m x
 | xs=>match Zmu t m xs with
  | some ys=>some (.tuple ys)
  | none=>none
def H0:Tr AVal→Nat→List AVal→Tr AVal
 | t,_,[]=>t
 | t,i,x :: r=>H0 (t.set depth i (some x)) (i+1) r
def runF(tab:Nat→Option AFn)(orc:Caller):Nat→Caller
 | 0,_,_,_=>none
 | f+1,g,args,m=>
  match orc g args m with
  | some r=>some r
  | none=>match tab g with
   | some af=>bif Nat.ble args.length af.ntmps then match T9 (runF tab orc f) m.next 1000 af.body ⟨H0 .nil 0 args,m,[]⟩ with
    | some (.exit _,_)=>none
    | some (_,s)=>match A2 s.t s.m af.results with
     | some v=>some (v,s.m,s.wl)
     | none=>none
    | none=>none
    else none
   | none=>none
def N8(n:Nat):ACode→Bool
 | .region _ ops=>ops.all fun o=>match o.dst with
  | some d=>decide (d<n)
  | none=>true
 | .seq a b | .cond _ a b=>N8 n a&&N8 n b
 | .block _ c | .loop c | .scope c=>N8 n c
 | _=>true
end Go.AE
end
section
namespace Go.AE
open Go.RowKit
theorem Tr.get_nil{α:Type}(n:Nat):(Tr.nil:Tr α).get n=none:=rfl
theorem Tr.get_node{α:Type}(l:Tr α)(v:Option α)(r:Tr α)(n:Nat):(Tr.node l v r).get n=if n=0 then v else if n % 2=1 then l.get (n / 2)else r.get (n / 2 - 1):=by
 show(bif Nat.beq n 0 then v else bif Nat.beq (n % 2) 1 then l.get (n / 2)else r.get (n / 2 - 1))=_
 by_cases b:n=0
 ·subst b; rfl
 ·have d:Nat.beq n 0=false:=by
   cases c:Nat.beq n 0 with
   | false=>rfl
   | true=>exact absurd (Nat.eq_of_beq_eq_true c) b
  rw[if_neg b,d];simp only[cond_false];by_cases a:n % 2=1
  ·rw[if_pos a,a]; rfl
  ·rw[if_neg a];have:Nat.beq (n % 2) 1=false:=by
    cases c:Nat.beq (n % 2) 1 with
    | false=>rfl
    | true=>exact absurd (Nat.eq_of_beq_eq_true c) a
   rw[this]; rfl
theorem Tr.set_nil{α:Type}(d n:Nat)(x:Option α):Tr.set (d+1) .nil n x=if n=0 then .node .nil x .nil else if n % 2=1 then .node (Tr.set d .nil (n / 2) x) none .nil else .node .nil none (Tr.set d .nil (n / 2 - 1) x):=by
 show(bif Nat.beq n 0 then _ else bif Nat.beq (n % 2) 1 then _ else _)=_
 by_cases b:n=0
 ·subst b; rfl
 ·have e:Nat.beq n 0=false:=by
   cases c:Nat.beq n 0 with
   | false=>rfl
   | true=>exact absurd (Nat.eq_of_beq_eq_true c) b
  rw[if_neg b,e];simp only[cond_false];by_cases a:n % 2=1
  ·rw[if_pos a,a]; rfl
  ·have f:Nat.beq (n % 2) 1=false:=by
    cases c:Nat.beq (n % 2) 1 with
    | false=>rfl
    | true=>exact absurd (Nat.eq_of_beq_eq_true c) a
   rw[if_neg a,f]; rfl
theorem Tr.set_node{α:Type}(d n:Nat)(l:Tr α)(v:Option α)(r:Tr α)(x:Option α):Tr.set (d+1) (.node l v r) n x=if n=0 then .node l x r else if n % 2=1 then .node (Tr.set d l (n / 2) x) v r else .node l v (Tr.set d r (n / 2 - 1) x):=by
 show(bif Nat.beq n 0 then _ else bif Nat.beq (n % 2) 1 then _ else _)=_
 by_cases b:n=0
 ·subst b; rfl
 ·have e:Nat.beq n 0=false:=by
   cases c:Nat.beq n 0 with
   | false=>rfl
   | true=>exact absurd (Nat.eq_of_beq_eq_true c) b
  rw[if_neg b,e];simp only[cond_false];by_cases a:n % 2=1
  ·rw[if_pos a,a]; rfl
  ·have f:Nat.beq (n % 2) 1=false:=by
    cases c:Nat.beq (n % 2) 1 with
    | false=>rfl
    | true=>exact absurd (Nat.eq_of_beq_eq_true c) a
   rw[if_neg a,f]; rfl
theorem Tr.get_set{α:Type}:∀ (d:Nat) (t:Tr α) (n:Nat) (x:Option α) (k:Nat),n+1<2 ^ d→(Tr.set d t n x).get k=if k=n then x else t.get k
 | 0,_,n,_,_,h=>by simp at h
 | d+1,t,n,x,k,h=>by
  rw[Nat.pow_succ]at h;cases t with
  | nil=>
   rw[Tr.set_nil,Tr.get_nil];by_cases e:n=0
   ·subst e;rw[if_pos rfl,Tr.get_node,Tr.get_nil,Tr.get_nil];split<;>simp
   ·rw[if_neg e];by_cases f:n % 2=1
    ·rw[if_pos f,Tr.get_node,Tr.get_nil];by_cases a:k=0
     ·subst a; rw[if_pos rfl,if_neg (by omega)]
     ·rw[if_neg a];by_cases b:k % 2=1
      ·rw[if_pos b,Tr.get_set d .nil (n / 2) x (k / 2) (by omega),Tr.get_nil]
       by_cases c:k=n
       ·subst c; simp
       ·rw[if_neg c,if_neg (by omega)]
      ·rw[if_neg b,if_neg (by omega)]
    ·rw[if_neg f,Tr.get_node,Tr.get_nil];by_cases a:k=0
     ·subst a; rw[if_pos rfl,if_neg (by omega)]
     ·rw[if_neg a];by_cases b:k % 2=1
      ·rw[if_pos b,if_neg (by omega)]
      ·rw[if_neg b,Tr.get_set d .nil (n / 2 - 1) x (k / 2 - 1) (by omega),Tr.get_nil]
       by_cases c:k=n
       ·subst c; simp
       ·rw[if_neg c,if_neg (by omega)]
  | node l v r=>
   rw[Tr.set_node,Tr.get_node];by_cases e:n=0
   ·subst e;rw[if_pos rfl,Tr.get_node];by_cases a:k=0<;>simp[a]
   ·rw[if_neg e];by_cases f:n % 2=1
    ·rw[if_pos f,Tr.get_node];by_cases a:k=0
     ·subst a; rw[if_pos rfl,if_pos rfl,if_neg (by omega)]
     ·rw[if_neg a,if_neg a];by_cases b:k % 2=1
      ·rw[if_pos b,if_pos b,Tr.get_set d l (n / 2) x (k / 2) (by omega)]
       by_cases c:k=n
       ·subst c; simp
       ·rw[if_neg c,if_neg (by omega)]
      ·rw[if_neg b,if_neg b,if_neg (by omega)]
    ·rw[if_neg f,Tr.get_node];by_cases a:k=0
     ·subst a; rw[if_pos rfl,if_pos rfl,if_neg (by omega)]
     ·rw[if_neg a,if_neg a];by_cases b:k % 2=1
      ·rw[if_pos b,if_pos b,if_neg (by omega)]
      ·rw[if_neg b,if_neg b,Tr.get_set d r (n / 2 - 1) x (k / 2 - 1) (by omega)]
       by_cases c:k=n
       ·subst c; simp
       ·rw[if_neg c,if_neg (by omega)]
theorem Zfw{b:Nat}(h:b<bound):b+1<2 ^ depth:=by
 simp only[bound,depth]at *;omega
theorem TM.set_mem_some{m:TM}{b:Nat}{x:ABlk}(h:b<bound):(m.set b (some x)).mem=m.mem.set b x:=
 Mem.ext' (fun c=>by simp only[TM.mem,TM.set,Mem.get_set,Tr.get_set depth _ b _ c (Zfw h)]) rfl
theorem TM.set_mem_none{m:TM}{b:Nat}(h:b<bound):(m.set b none).mem=m.mem.del b:=
 Mem.ext' (fun c=>by simp only[TM.mem,TM.set,Mem.get_del,Tr.get_set depth _ b _ c (Zfw h)]) rfl
theorem Ziy{a b:Nat}(h:Nat.ble a b=false):b<a:=by
 rcases Nat.lt_or_ge b a with c|c
 ·exact c
 ·rw[Nat.ble_eq_true_of_le c]at h; cases h
theorem Zst{b:Nat}{x:Option ABlk}{r:List (Nat×Option ABlk)}(h:okD ((b,x) :: r)=true):b<bound∧okD r=true:=by
 simp only[okD]at h;cases a:Nat.ble bound b with
 | true=>rw[a]at h; cases h
 | false=>rw[a]at h; exact⟨Ziy a,h⟩
theorem TM.apply_mem:∀ (d:List (Nat×Option ABlk)) (m:TM),okD d=true→(m.apply d).mem=m.mem.apply d
 | [],m,_=>rfl
 | (b,none) :: r,m,h=>by
  obtain⟨a,c⟩:=Zst h;simp only[TM.apply,Mem.apply];rw[TM.apply_mem r _ c,TM.set_mem_none a]
 | (b,some x) :: r,m,h=>by
  obtain⟨a,c⟩:=Zst h;simp only[TM.apply,Mem.apply];rw[TM.apply_mem r _ c,TM.set_mem_some a]
theorem TM.apply_next:∀ (d:List (Nat×Option ABlk)) (m:TM),(m.apply d).next=m.next
 | [],_=>rfl
 | (b,x) :: r,m=>by simp only[TM.apply]; rw[TM.apply_next r]; rfl
theorem Zgc{lim:Nat}:∀ (d:List (Nat×Option ABlk)) (wl:List Nat) (m:Mem) (c:Nat),c<lim→c∉addW lim wl d→c∉wl∧(m.apply d).get c=m.get c
 | [],wl,m,c,_,h=>⟨h,rfl⟩
 | (b,x) :: r,wl,m,c,g,h=>by
  simp only[addW]at h;have key:∀ m':Mem,(c≠b→m'.get c=m.get c)→c≠b→(m'.apply r).get c=m'.get c→(m'.apply r).get c=m.get c:=fun m' a e j=>by rw[j,a e]
  cases i:Nat.ble lim b with
  | true=>
   rw[i]at h;have f:c≠b:=by
    have:=Nat.le_of_ble_eq_true i;omega
   cases x with
   | none=>
    obtain⟨a,e⟩:=Zgc r wl (m.del b) c g h;exact⟨a,by simp only[Mem.apply]; rw[e]; simp[f]⟩
   | some y=>
    obtain⟨a,e⟩:=Zgc r wl (m.set b y) c g h;exact⟨a,by simp only[Mem.apply]; rw[e]; simp[f]⟩
  | false=>
   rw[i]at h;cases x with
   | none=>
    obtain⟨a,e⟩:=Zgc r (b :: wl) (m.del b) c g h;simp only[List.mem_cons,not_or]at a;exact⟨a.2,by simp only[Mem.apply]; rw[e]; simp[a.1]⟩
   | some y=>
    obtain⟨a,e⟩:=Zgc r (b :: wl) (m.set b y) c g h;simp only[List.mem_cons,not_or]at a;exact⟨a.2,by simp only[Mem.apply]; rw[e]; simp[a.1]⟩
theorem Zjj{lim:Nat}:∀ (d wl:List Nat) (c:Nat),c<lim→c∉addL lim wl d→c∉wl∧c∉d
 | [],wl,c,_,h=>⟨h,by simp⟩
 | b :: r,wl,c,g,h=>by
  simp only[addL]at h;cases f:Nat.ble lim b with
  | true=>
   rw[f]at h;have:=Nat.le_of_ble_eq_true f;obtain⟨a,e⟩:=Zjj r wl c g h;exact⟨a,by simp only[List.mem_cons,not_or]; exact⟨by omega,e⟩⟩
  | false=>
   rw[f]at h;obtain⟨a,e⟩:=Zjj r (b :: wl) c g h;simp only[List.mem_cons,not_or]at a;exact⟨a.2,by simp only[List.mem_cons,not_or]; exact⟨a.1,e⟩⟩
def toL(n:Nat)(t:Tr AVal):List AVal:=(List.range n).map fun i=>evT t (.tmp i)
def TOk(n:Nat)(t:Tr AVal):Prop:=∀ i,n≤i→t.get i=none
theorem Zim(n:Nat)(t:Tr AVal):(toL n t).length=n:=by simp[toL]
theorem Zmc{n:Nat}{t:Tr AVal}{i:Nat}(h:i<n):(toL n t)[i]? = some (evT t (.tmp i)):=by
 simp[toL,h]
theorem Zds{n:Nat}{t:Tr AVal}(b:TOk n t):ev (toL n t)=evT t:=by
 funext x
 cases x with
 | tmp i=>
  rcases Nat.lt_or_ge i n with h|h
  ·simp only[ev,List.getD,Zmc h,Option.getD_some]
  ·have a:(toL n t)[i]? = none:=List.getElem?_eq_none (by rw[Zim]; exact h)
   simp only[ev,List.getD,a,evT,b i h,Option.getD_none]
 | const v=>rfl
 | fn f=>rfl
theorem Zbd{n:Nat}{t:Tr AVal}{d:Option Nat}{v:AVal}(l:n≤bound)(f:TOk n t)(g:∀ k,d=some k→k<n):TOk n (S9 t d v)∧toL n (S9 t d v)=put (toL n t) d v:=by
 cases d with
 | none=>exact ⟨f,rfl⟩
 | some k=>
  have j:=g k rfl;have c:=Tr.get_set depth t k (some v);have b:k+1<2 ^ depth:=Zfw (by omega)
  refine⟨fun i hi=>?_,?_⟩
  ·simp only[S9];rw[c i b,if_neg (by omega)]
   exact f i hi
  ·apply List.ext_getElem?;intro i;simp only[put];rw[List.getElem?_set];rcases Nat.lt_or_ge i n with h|h
   ·rw[Zmc h,Zmc h];by_cases a:k=i
    ·subst a;rw[if_pos rfl,if_pos (by rw[Zim]; exact j)]
     simp only[S9,evT];rw[c k b,if_pos rfl]
    ·rw[if_neg a];simp only[S9,evT];rw[c i b,if_neg (fun e=>a e.symm)]
   ·rw[List.getElem?_eq_none (by rw[Zim]; exact h),List.getElem?_eq_none (by rw[Zim]; exact h)]
    rw[if_neg (by omega)]
end Go.AE
end
section
namespace Go.AE
open Go.RowKit
variable {P:Program}
def O2(P:Program)(call:Caller):Prop:=
 ∀ g args m v m' wl,call g args m=some (v,m',wl)→m.next≤m'.next∧(∀ c,c<m.next→c∉wl→m'.mem.get c=m.mem.get c) ∧
  ∀ id,ACalls P g args m.mem [id] fun r m''=>r=v∧m''=m'.mem
theorem Zrm{n:Nat}{t:Tr AVal}(b:TOk n t)(g:Option (Nat×Bool)):S6 (toL n t) g=Zfm t g:=by
 cases g with
 | none=>rfl
 | some a=>
  obtain⟨d,w⟩:=a;have:(toL n t).getD d aundef=evT t (.tmp d):=by
   have:=congrFun (Zds b) (.tmp d);exact this
  simp only[S6,Zfm,this];rfl
theorem Zxj{n:Nat}{t:Tr AVal}(b:TOk n t)(f:AOpd)(a:List AOpd):callee (toL n t) f a=Zhm t f a:=by
 simp only[callee,Zhm,Zds b];rfl
theorem Zjh{n id:Nat}{t:Tr AVal}{m:TM}{op:AOp}{v:AVal}{d:List (Nat×Option ABlk)}(b:TOk n t)(h:stepD id (evT t) m.tr.get op=some (v,d))(a:okD d=true) :
 stepA id (toL n t) m.mem op=some (v,(m.apply d).mem):=by
 rw[TM.apply_mem d m a];refine Zgw ?_;rw[Zds b];exact h
def RS.st(n:Nat)(s:RS):ASt:=⟨toL n s.t,s.m.mem⟩
structure RunOk (n lim:Nat) (s s':RS):Prop where
 t:TOk n s'.t
 next:s.m.next≤s'.m.next
 keep:∀ c,c<lim→c∉s'.wl→c∉s.wl∧s'.m.mem.get c=s.m.mem.get c
theorem RunOk.trans{n lim:Nat}{a b c:RS}(h:RunOk n lim a b)(d:RunOk n lim b c):RunOk n lim a c:=
 ⟨d.t,Nat.le_trans h.next d.next,fun x e k=>by
  obtain⟨f,g⟩:=d.keep x e k;obtain⟨i,j⟩:=h.keep x e f;exact⟨i,g.trans j⟩⟩
theorem Zpp{n:Nat}{o:AOper}(h:(match o.dst with|some d=>decide (d<n)|none=>true)=true):∀ k,o.dst=some k→k<n:=by
 intro k a;rw[a]at h;simpa using h
theorem Zjw{a:Caller}(b:O2 P a){n lim base:Nat}(G:n≤bound):∀ (ops:List AOper) (i:Nat) (s p:RS),TOk n s.t→lim≤s.m.next →
 (ops.all fun o=>match o.dst with|some d=>decide (d<n)|none=>true)=true→runP a lim base ops i s=some p →
 RunOk n lim s p ∧ ∀ K:ASt→Prop,K (p.st n)→M6 P base ops i K (toL n s.t) s.m.mem
 | [],i,s,p,E,_,_,h=>by
  simp only[runP,oI]at h;subst h;exact⟨⟨E,Nat.le_refl _,fun c _ M=>⟨M,rfl⟩⟩,fun K u=>u⟩
 | o :: r,i,s,p,E,l,hd,h=>by
  simp only[List.all_cons,bA]at hd;obtain⟨X,B⟩:=hd;have w:=Zpp X;simp only[runP]at h;cases M:Zfm s.t o.guard with
  | none=>simp[M]at h
  | some q=>
   have I:S6 (toL n s.t) o.guard=some q:=by rw[Zrm E]; exact M
   cases q with
   | false=>
    simp only[M]at h;obtain⟨p1,N⟩:=Zbd (v:=aundef) G E w;obtain⟨j,A⟩:=Zjw b G r (i+1) ⟨S9 s.t o.dst aundef,s.m,s.wl⟩ p p1 l B h;refine⟨⟨j.t,j.next,j.keep⟩,fun K u=>?_⟩
    simp only[M6,I];rw[← N];exact A K u
   | true=>
    simp only[M]at h;have J:(∀ f z,o.op≠.call f z)→(match stepD (base+i) (evT s.t) s.m.tr.get o.op with
     | some (v,[])=>runP a lim base r (i+1) ⟨S9 s.t o.dst v,s.m,s.wl⟩
     | some (v,d)=>bif okD d then runP a lim base r (i+1) ⟨S9 s.t o.dst v,s.m.apply d,addW lim s.wl d⟩ else none
     | none=>none)=some p→RunOk n lim s p ∧ ∀ K:ASt→Prop,K (p.st n) → ∃ v m',stepA (base+i) (toL n s.t) s.m.mem o.op=some (v,m')∧M6 P base r (i+1) K (put (toL n s.t) o.dst v) m':=by
     intro D C;cases S:stepD (base+i) (evT s.t) s.m.tr.get o.op with
     | none=>simp[S]at C
     | some vd=>
      obtain⟨v,d⟩:=vd;obtain⟨p1,N⟩:=Zbd (v:=v) G E w;cases d with
      | nil=>
       simp only[S]at C;obtain⟨j,A⟩:=Zjw b G r (i+1) ⟨S9 s.t o.dst v,s.m,s.wl⟩ p p1 l B C;exact⟨⟨j.t,j.next,j.keep⟩,fun K u=>⟨v,s.m.mem,Zjh E S rfl,by rw[← N]; exact A K u⟩⟩
      | cons e d=>
       simp only[S]at C;cases U:okD (e :: d)with
       | false=>rw[U]at C; cases C
       | true=>
        rw[U]at C;simp only[cond_true]at C;obtain⟨j,A⟩:=Zjw b G r (i+1) _ p p1 (by rw[TM.apply_next]; exact l) B C
        refine⟨⟨j.t,by have:=j.next; rw[TM.apply_next]at this; exact this,fun c L H=>?_⟩,fun K u=>⟨v,_,Zjh E S U,by rw[← N]; exact A K u⟩⟩
        obtain⟨Y,Z⟩:=j.keep c L H;obtain⟨k3,k4⟩:=Zgc (e :: d) s.wl s.m.mem c L Y;exact⟨k3,by rw[Z,TM.apply_mem _ _ U]; exact k4⟩
    by_cases Q:∃ f z,o.op=.call f z
    ·obtain⟨f,z,k⟩:=Q;simp only[k]at h;cases L:Zhm s.t f z with
     | none=>simp[L]at h
     | some ga=>
      obtain⟨g,args⟩:=ga;simp only[L]at h;cases F:a g args s.m with
      | none=>simp[F]at h
      | some aa=>
       obtain⟨v,m',wl⟩:=aa;simp only[F]at h;obtain⟨q1,q2,q3⟩:=b g args s.m v m' wl F;obtain⟨p1,N⟩:=Zbd (v:=v) G E w;obtain⟨j,A⟩:=Zjw b G r (i+1) _ p p1 (Nat.le_trans l q1) B h;refine⟨⟨j.t,Nat.le_trans q1 j.next,fun c O H=>?_⟩,fun K u=>?_⟩
       ·obtain⟨Y,Z⟩:=j.keep c O H;obtain⟨k3,k4⟩:=Zjj wl s.wl c O Y;exact⟨k3,by rw[Z]; exact q2 c (by omega) k4⟩
       ·have V:callee (toL n s.t) f z=some (g,args):=by rw[Zxj E]; exact L
        simp only[M6,I,k,V];refine(q3 (base+i)).mono fun y ab hy=>?_
        obtain⟨rfl,rfl⟩:=hy;rw[← N];exact A K u
    ·have D:∀ f z,o.op≠.call f z:=fun f z he=>Q ⟨f,z,he⟩
     have h':(match stepD (base+i) (evT s.t) s.m.tr.get o.op with
      | some (v,[])=>runP a lim base r (i+1) ⟨S9 s.t o.dst v,s.m,s.wl⟩
      | some (v,d)=>bif okD d then runP a lim base r (i+1) ⟨S9 s.t o.dst v,s.m.apply d,addW lim s.wl d⟩ else none
      | none=>none)=some p:=by
      cases k:o.op<;>rw[k]at h<;>first|(exact absurd k (D _ _))|exact h
     obtain⟨j,A⟩:=J D h';refine⟨j,fun K u=>?_⟩
     obtain⟨v,m',h3,h4⟩:=A K u;simp only[M6,I];cases k:o.op<;>rw[k]at h3<;>first|(exact absurd k (D _ _))|(simp only[h3]; exact h4)
end Go.AE
end
section
namespace Go.AE
open Go.RowKit
variable {P:Program}
theorem mem1_spec{x:Nat}:∀ {l:List Nat},(D3 x l=true→in1 x l∧x∈l)∧(D3 x l=false→O4 x l∧x∉l)
 | []=>⟨fun h=>(by cases h),fun _=>⟨trivial,by simp⟩⟩
 | y :: r=>by
  have f:=mem1_spec (x:=x) (l:=r);simp only[D3];cases d:Nat.beq x y with
  | true=>
   have:=Nat.eq_of_beq_eq_true d;exact⟨fun _=>⟨.inl this,by simp[this]⟩,fun h=>(by cases h)⟩
  | false=>
   have a:x≠y:=fun e=>by subst e; rw[Nat.beq_refl]at d; cases d
   refine⟨fun h=>?_,fun h=>?_⟩
   ·obtain⟨b,c⟩:=f.1 h;exact⟨.inr b,List.mem_cons_of_mem _ c⟩
   ·obtain⟨b,c⟩:=f.2 h;exact⟨⟨a,b⟩,by simp[a,c]⟩
theorem Zgx:∀ {b l:List Nat},Zey b l=true→N4 b l
 | [],_,_=>trivial
 | x :: r,l,h=>by
  simp only[Zey]at h;cases a:D3 x l with
  | true=>rw[a]at h; cases h
  | false=>rw[a]at h; exact⟨(mem1_spec.2 a).1,Zgx h⟩
theorem Zj6{n:Nat}:∀ {l:List Nat},Zgg n l=true→I0 n l
 | [],_=>trivial
 | x :: r,h=>by
  simp only[Zgg]at h;cases a:Nat.ble n x with
  | true=>rw[a]at h; cases h
  | false=>rw[a]at h; exact⟨Ziy a,Zj6 h⟩
theorem Zo8:∀ {b l:List Nat},subB b l=true→H4 b l
 | [],_,_=>trivial
 | x :: r,l,h=>by
  simp only[subB]at h;cases a:D3 x l with
  | false=>rw[a]at h; cases h
  | true=>rw[a]at h; exact⟨(mem1_spec.1 a).1,Zo8 h⟩
theorem FT.indepB_spec{f g:FT}(h:FT.indepB f g=true):FT.indep f g:=by
 cases f<;>cases g<;>simp only[FT.indepB,bA]at h
 ·exact⟨Zgx h.1,Zgx h.2⟩
 ·exact⟨Zgx h.1.1.1.1,Zj6 h.1.1.1.2,Zgx h.1.1.2,Zj6 h.1.2,Zo8 h.2⟩
 ·exact⟨Zgx h.1.1.1.1,Zj6 h.1.1.1.2,Zgx h.1.1.2,Zj6 h.1.2,Zo8 h.2⟩
 ·cases h
theorem Zqc{a:List FT}{b:FT}:∀ {un:List Nat},Zft a b un=true→S7 a b un
 | [],_=>trivial
 | i :: r,h=>by
  simp only[Zft,bA]at h;exact⟨FT.indepB_spec h.1,Zqc h.2⟩
theorem Zub{id:Nat}:∀ {x:List Nat},okX id x=true→id∉x ∧ ∀ c,c∈x→c<bound
 | [],_=>⟨by simp,fun c k=>by simp at k⟩
 | c :: r,h=>by
  simp only[okX]at h;cases f:Nat.ble bound c with
  | true=>rw[f]at h; cases h
  | false=>
   rw[f]at h;simp only[cond_false]at h;cases d:Nat.beq c id with
   | true=>rw[d]at h; cases h
   | false=>
    rw[d]at h;obtain⟨i,j⟩:=Zub (x:=r) h;have g:id≠c:=fun e=>by subst e; rw[Nat.beq_refl]at d; cases d
    exact⟨by simp[g,i],fun b a=>by
     simp only[List.mem_cons]at a;rcases a with rfl|a
     ·exact Ziy f
     ·exact j b a⟩
theorem Ztp:∀ (x:List Nat) (m:TM),(∀ c,c∈x→c<bound)→(Zag m x).mem=m.mem.less x∧(Zag m x).next=m.next
 | [],m,_=>⟨Mem.ext' (fun c=>by simp[Zag,Mem.less]) rfl,rfl⟩
 | b :: r,m,h=>by
  obtain⟨e,f⟩:=Ztp r (m.set b none) (fun c a=>h c (List.mem_cons_of_mem _ a))
  simp only[Zag];refine⟨?_,f⟩;rw[e,TM.set_mem_none (h b (by simp))]
  refine Mem.ext' (fun c=>?_) rfl
  simp only[Mem.less,Mem.get_del,List.mem_cons];by_cases a:c=b
  ·subst a; simp
  ·by_cases d:c∈r<;>simp[a,d]
theorem Zxk(m0:TM):∀ (x:List Nat) (m:TM),(∀ c,c∈x→c<bound)→(Zb6 m0 m x).next=m.next∧(∀ c,(Zb6 m0 m x).tr.get c=if c∈x then m0.tr.get c else m.tr.get c)
 | [],m,_=>⟨rfl,fun c=>by simp[Zb6]⟩
 | b :: r,m,f=>by
  obtain⟨g,h⟩:=Zxk m0 r (m.set b (m0.tr.get b)) (fun c i=>f c (List.mem_cons_of_mem _ i))
  simp only[Zb6];refine⟨g,fun c=>?_⟩
  rw[h c];have e:(m.set b (m0.tr.get b)).tr.get c=if c=b then m0.tr.get b else m.tr.get c:=Tr.get_set depth _ b _ c (Zfw (f b (by simp)))
  by_cases a:c∈r
  ·rw[if_pos a,if_pos (List.mem_cons_of_mem _ a)]
  ·rw[if_neg a,e];by_cases d:c=b
   ·subst d; simp
   ·rw[if_neg d,if_neg (by simp[d,a])]
theorem Zt2{m:TM}:∀ {x:List Nat},Zjo m x=true → ∀ c,c∈x→m.tr.get c=none
 | [],_,c,a=>by simp at a
 | b :: r,h,c,a=>by
  simp only[Zjo]at h;split at h<;>first|(cases h; done)|skip
  rename_i d;simp only[List.mem_cons]at a;rcases a with rfl|a
  ·exact d
  ·exact Zt2 h c a
theorem Zkv(id:Nat)(t:List AVal)(op:AOp):S4 id t op=V7 id (ev t) op:=by cases op<;>rfl
theorem Zl5(t:List AVal)(op:AOp):J0 t op=V8 (ev t) op:=by cases op<;>rfl
theorem Zkc{j:Caller}(e:O2 P j){n lim base:Nat}(J:n≤bound):∀ (ops:List AOper) (b:List FT) (s z:RS),TOk n s.t→lim≤s.m.next →
 (ops.all fun o=>match o.dst with|some d=>decide (d<n)|none=>true)=true→runD j lim base ops b s=some z →
 RunOk n lim s z ∧ ∀ K:ASt→Prop,K (z.st n)→Q4 P base ops b K (toL n s.t) s.m.mem
 | [],b,s,z,y,_,_,h=>by
  simp only[runD,oI]at h;subst h;exact⟨⟨y,Nat.le_refl _,fun c _ L=>⟨L,rfl⟩⟩,fun K D=>D⟩
 | o :: r,b,s,z,y,A,hd,h=>by
  simp only[List.all_cons,bA]at hd;obtain⟨X,F⟩:=hd;have p:=Zpp X;simp only[runD]at h;cases L:Zfm s.t o.guard with
  | none=>simp[L]at h
  | some q=>
   have H:S6 (toL n s.t) o.guard=some q:=by rw[Zrm y]; exact L
   cases q with
   | false=>
    simp only[L]at h;obtain⟨p1,S⟩:=Zbd (v:=aundef) J y p;obtain⟨k,M⟩:=Zkc e J r _ ⟨S9 s.t o.dst aundef,s.m,s.wl⟩ z p1 A F h;refine⟨⟨k.t,k.next,k.keep⟩,fun K D=>?_⟩
    simp only[Q4,H];rw[← S];exact M K D
   | true=>
    simp only[L]at h;by_cases O:∃ f B,o.op=.call f B
    ·obtain⟨f,B,i⟩:=O;simp only[i]at h;cases I:Zhm s.t f B with
     | none=>simp[I]at h
     | some ga=>
      obtain⟨g,args⟩:=ga;simp only[I]at h;generalize hx:o.un.map (base + ·)++Zk4 base b.length r (b.length+1)=x at h;cases E:j g args (Zag s.m x)with
      | none=>simp[E]at h
      | some aa=>
       obtain⟨v,m',wl⟩:=aa;simp only[E]at h;cases a:(Zft b (.call wl x s.m.next) o.un&&okX (base+b.length) x&&Zjo m' x)with
       | false=>rw[a]at h; cases h
       | true=>
        rw[a]at h;simp only[cond_true]at h;simp only[bA]at a;obtain⟨⟨hi,hX⟩,hN⟩:=a;obtain⟨Y,N⟩:=Zub hX;obtain⟨l1,l2⟩:=Ztp x s.m N;obtain⟨q1,q2,q3⟩:=e g args _ v m' wl E;obtain⟨U,b2⟩:=Zxk s.m x m' N;obtain⟨p1,S⟩:=Zbd (v:=v) J y p;rw[l2]at q1 q2;obtain⟨k,M⟩:=Zkc e J r _ ⟨S9 s.t o.dst v,Zb6 s.m m' x,addL lim s.wl wl⟩ z p1 (by show lim≤(Zb6 s.m m' x).next; rw[U]; omega) F h
        have u:∀ c,c∉x→(Zag s.m x).mem.get c=s.m.mem.get c:=fun c l=>by rw[l1]; simp[Mem.less,l]
        refine⟨⟨k.t,by have:=k.next; simp only[U]at this; omega,fun c w G=>?_⟩,fun K D=>?_⟩
        ·obtain⟨k1,k2⟩:=k.keep c w G;obtain⟨k3,k4⟩:=Zjj wl s.wl c w k1;refine⟨k3,?_⟩;rw[k2];show(Zb6 s.m m' x).tr.get c=s.m.tr.get c;rw[b2 c];by_cases l:c∈x
         ·rw[if_pos l]
         ·rw[if_neg l];have:=q2 c (by omega) k4
          rw[u c l]at this;exact this
        ·have V:callee (toL n s.t) f B=some (g,args):=by rw[Zxj y]; exact I
         simp only[Q4,H,i,V];refine⟨wl,x,v,(Zb6 s.m m' x).mem,⟨m'.mem,Y,fun c w=>Zt2 hN c w,q1,U,fun c=>?_,fun c c1 c2 c3=>?_,by rw[← l1]; exact q3 (base+b.length)⟩,Zqc hi,?_⟩
         ·exact b2 c
         ·have:=q2 c c2 c1;rw[u c c3]at this;exact this
         ·rw[← S];exact M K D
    ·have Q:∀ f B,o.op≠.call f B:=fun f B he=>O ⟨f,B,he⟩
     have C:(match stepD (base+b.length) (evT s.t) s.m.tr.get o.op with
      | some (v,d)=>bif Zft b (FT.ops (V7 (base+b.length) (evT s.t) o.op) (V8 (evT s.t) o.op)) o.un&&okD d then runD j lim base r (b++[FT.ops (V7 (base+b.length) (evT s.t) o.op) (V8 (evT s.t) o.op)]) ⟨S9 s.t o.dst v,s.m.apply d,addW lim s.wl d⟩ else none
      | none=>none)=some z:=by
      cases i:o.op<;>rw[i]at h<;>first|(exact absurd i (Q _ _))|exact h
     cases Z:stepD (base+b.length) (evT s.t) s.m.tr.get o.op with
     | none=>simp[Z]at C
     | some vd=>
      obtain⟨v,d⟩:=vd;simp only[Z]at C;cases a:(Zft b (FT.ops (V7 (base+b.length) (evT s.t) o.op) (V8 (evT s.t) o.op)) o.un&&okD d)with
      | false=>rw[a]at C; cases C
      | true=>
       rw[a]at C;simp only[cond_true]at C;simp only[bA]at a;obtain⟨hi,ho⟩:=a;obtain⟨p1,S⟩:=Zbd (v:=v) J y p;obtain⟨k,M⟩:=Zkc e J r _ ⟨S9 s.t o.dst v,s.m.apply d,addW lim s.wl d⟩ z p1 (by show lim≤(s.m.apply d).next; rw[TM.apply_next]; exact A) F C
       refine⟨⟨k.t,by have:=k.next; simp only[TM.apply_next]at this; exact this,fun c I G=>?_⟩,fun K D=>?_⟩
       ·obtain⟨k1,k2⟩:=k.keep c I G;obtain⟨k3,k4⟩:=Zgc d s.wl s.m.mem c I k1;exact⟨k3,by rw[k2]; show(s.m.apply d).mem.get c=_; rw[TM.apply_mem _ _ ho]; exact k4⟩
       ·have h3:=Zjh (n:=n) y Z ho;have h4:S7 b (.ops (S4 (base+b.length) (toL n s.t) o.op) (J0 (toL n s.t) o.op)) o.un∧Q4 P base r (b++[.ops (S4 (base+b.length) (toL n s.t) o.op) (J0 (toL n s.t) o.op)]) K (put (toL n s.t) o.dst v) (s.m.apply d).mem:=by
         rw[Zkv,Zl5,Zds y,← S];exact⟨Zqc hi,M K D⟩
        simp only[Q4,H];cases i:o.op<;>rw[i]at h3 h4<;>first|(exact absurd i (Q _ _))|(simp only[h3]; exact h4)
end Go.AE
end
section
namespace Go.AE
open Go.RowKit
variable {P:Program}
def REnd.exit':REnd→Exit
 | .normal=>.normal
 | .exit n=>.exit n
 | .ret=>.ret
theorem Zk8{a b:Nat}(h:Nat.ble a b=true):a≤b:=Nat.le_of_ble_eq_true h
theorem Zfs(m:TM)(k:Nat):(⟨m.tr,k⟩:TM).mem=m.mem.at k:=rfl
theorem Zqd{o:Caller}(z:O2 P o){n lim:Nat}(L:n≤bound):∀ (f:Nat) (c:ACode) (s B:RS) (e:REnd),TOk n s.t→lim≤s.m.next→N8 n c=true→T9 o lim f c s=some (e,B) →
 RunOk n lim s B ∧ ∀ Q:Exit→ASt→Prop,Q e.exit' (B.st n)→wpc P c Q (s.st n):=by
 intro f
 induction f using Nat.strongRecOn with
 | ind f C=>
  intro c s B e A p u h;cases f with
  | zero=>simp[T9]at h
  | succ f=>
   have same:RunOk n lim s s:=⟨A,Nat.le_refl _,fun c _ V=>⟨V,rfl⟩⟩
   cases c with
   | skip=>
    simp only[T9,oI,pI2]at h;obtain⟨rfl,rfl⟩:=h;exact⟨same,fun Q d=>d⟩
   | label l=>
    simp only[T9,oI,pI2]at h;obtain⟨rfl,rfl⟩:=h;exact⟨same,fun Q d=>d⟩
   | exit i=>
    simp only[T9,oI,pI2]at h;obtain⟨rfl,rfl⟩:=h;exact⟨same,fun Q d=>d⟩
   | ret=>
    simp only[T9,oI,pI2]at h;obtain⟨rfl,rfl⟩:=h;exact⟨same,fun Q d=>d⟩
   | bad=>simp[T9]at h
   | region F ops=>
    cases F with
    | false=>
     simp only[T9]at h;cases v:Nat.ble (s.m.next+ops.length) bound with
     | false=>rw[v]at h; cases h
     | true=>
      rw[v]at h;simp only[cond_true]at h;cases j:runP o lim s.m.next ops 0 ⟨s.t,⟨s.m.tr,s.m.next+ops.length⟩,s.wl⟩ with
      | none=>simp[j]at h
      | some w=>
       simp only[j,oI,pI2]at h;obtain⟨rfl,rfl⟩:=h;obtain⟨g,q⟩:=Zjw z L ops 0 ⟨s.t,⟨s.m.tr,s.m.next+ops.length⟩,s.wl⟩ w A (by show lim≤s.m.next+ops.length; omega) u j
       refine⟨⟨g.t,Nat.le_trans (Nat.le_add_right _ _) g.next,g.keep⟩,fun Q d=>?_⟩
       exact q (Q .normal) d
    | true=>
     simp only[T9]at h;cases v:Nat.ble (s.m.next+ops.length) bound with
     | false=>rw[v]at h; cases h
     | true=>
      rw[v]at h;simp only[cond_true]at h;cases j:runD o lim s.m.next ops [] ⟨s.t,⟨s.m.tr,s.m.next+ops.length⟩,s.wl⟩ with
      | none=>simp[j]at h
      | some w=>
       simp only[j,oI,pI2]at h;obtain⟨rfl,rfl⟩:=h;obtain⟨g,q⟩:=Zkc z L ops [] ⟨s.t,⟨s.m.tr,s.m.next+ops.length⟩,s.wl⟩ w A (by show lim≤s.m.next+ops.length; omega) u j
       refine⟨⟨g.t,Nat.le_trans (Nat.le_add_right _ _) g.next,g.keep⟩,fun Q d=>?_⟩
       exact q (Q .normal) d
   | seq a b=>
    simp only[N8,bA]at u;simp only[T9]at h;cases j:T9 o lim f a s with
    | none=>simp[j]at h
    | some D=>
     obtain⟨y,w⟩:=D;obtain⟨g,q⟩:=C f (Nat.lt_succ_self f) a s w y A p u.1 j;cases y with
     | normal=>
      simp only[j]at h;obtain⟨O,S⟩:=C f (Nat.lt_succ_self f) b w B e g.t (Nat.le_trans p g.next) u.2 h;exact⟨g.trans O,fun Q d=>q _ (S Q d)⟩
     | exit i=>
      simp only[j,oI,pI2]at h;obtain⟨rfl,rfl⟩:=h;exact⟨g,fun Q d=>q _ d⟩
     | ret=>
      simp only[j,oI,pI2]at h;obtain⟨rfl,rfl⟩:=h;exact⟨g,fun Q d=>q _ d⟩
   | cond x a b=>
    simp only[N8,bA]at u;simp only[T9]at h;have M:ev (toL n s.t) x=evT s.t x:=congrFun (Zds A) x;split at h
    ·rename_i v;obtain⟨g,q⟩:=C f (Nat.lt_succ_self f) a s B e A p u.1 h;refine⟨g,fun Q d=>?_⟩
     simp only[wpc,RS.st,M,v];exact q Q d
    ·rename_i v;obtain⟨g,q⟩:=C f (Nat.lt_succ_self f) b s B e A p u.2 h;refine⟨g,fun Q d=>?_⟩
     simp only[wpc,RS.st,M,v];exact q Q d
    ·cases h
   | block i c=>
    simp only[N8]at u;simp only[T9]at h;cases j:T9 o lim f c s with
    | none=>simp[j]at h
    | some D=>
     obtain⟨y,w⟩:=D;obtain⟨g,q⟩:=C f (Nat.lt_succ_self f) c s w y A p u j;cases y with
     | normal=>
      simp only[j,oI,pI2]at h;obtain⟨rfl,rfl⟩:=h;exact⟨g,fun Q d=>q _ d⟩
     | ret=>
      simp only[j,oI,pI2]at h;obtain⟨rfl,rfl⟩:=h;exact⟨g,fun Q d=>q _ d⟩
     | exit k=>
      simp only[j]at h;cases v:Nat.beq k i with
      | true=>
       rw[v]at h;simp only[cond_true,oI,pI2]at h;obtain⟨rfl,rfl⟩:=h;have:=Nat.eq_of_beq_eq_true v;subst this;exact⟨g,fun Q d=>q _ (by simp only[REnd.exit',Zaz,if_true]; exact d)⟩
      | false=>
       rw[v]at h;simp only[cond_false,oI,pI2]at h;obtain⟨rfl,rfl⟩:=h;have J:k≠i:=fun e=>by subst e; rw[Nat.beq_refl]at v; cases v
       exact⟨g,fun Q d=>q _ (by simp only[REnd.exit',Zaz,if_neg J]; exact d)⟩
   | scope c=>
    simp only[N8]at u;simp only[T9]at h;obtain⟨g,q⟩:=C f (Nat.lt_succ_self f) c s B e A p u h;refine⟨g,fun Q d=>q _ ?_⟩
    cases e<;>exact d
   | loop c=>
    have I:=u;simp only[N8]at u;have G:RunOk n lim s B:=by
     simp only[T9]at h;cases j:T9 o lim f c s with
     | none=>simp[j]at h
     | some D=>
      obtain⟨y,w⟩:=D;obtain⟨g,_⟩:=C f (Nat.lt_succ_self f) c s w y A p u j;cases y with
      | normal=>
       simp only[j]at h;exact g.trans (C f (Nat.lt_succ_self f) (.loop c) w B e g.t (Nat.le_trans p g.next) I h).1
      | exit i=>
       simp only[j,oI,pI2]at h;obtain⟨rfl,rfl⟩:=h;exact g
      | ret=>
       simp only[j,oI,pI2]at h;obtain⟨rfl,rfl⟩:=h;exact g
    refine⟨G,fun Q d=>?_⟩
    refine⟨fun k N=>k≤f ∧ ∃ E,N=E.st n∧TOk n E.t∧lim≤E.m.next∧T9 o lim (k+1) (.loop c) E=some (e,B),⟨f,_,.refl _,Nat.le_refl _,s,rfl,A,p,h⟩,?_⟩
    rintro k N ⟨U,E,rfl,K,H,r⟩;simp only[T9]at r;cases j:T9 o lim k c E with
    | none=>simp[j]at r
    | some D=>
     obtain⟨y,w⟩:=D;obtain⟨g,q⟩:=C k (by omega) c E w y K H u j
     refine q _ ?_;cases y with
     | normal=>
      simp only[j]at r;cases k with
      | zero=>simp[T9]at r
      | succ k=>exact ⟨k,w.st n,Nat.lt_succ_self k,.refl _,by omega,w,rfl,g.t,Nat.le_trans H g.next,r⟩
     | exit i=>
      simp only[j,oI,pI2]at r;obtain⟨rfl,rfl⟩:=r;exact d
     | ret=>
      simp only[j,oI,pI2]at r;obtain⟨rfl,rfl⟩:=r;exact d
end Go.AE
end
section
namespace Go.AE
open Go.RowKit
variable {P:Program}
def Ze5(P:Program)(tab:Nat→Option AFn):Prop:=
 ∀ g af,tab g=some af→(∃ fn,P.funcs[g]? = some fn∧cFn P fn=some af)∧N8 af.ntmps af.body=true∧af.ntmps≤bound
theorem Zyg:∀ (args:List AVal) (t:Tr AVal) (i k:Nat),i+args.length≤bound→(H0 t i args).get k=if i≤k∧k<i+args.length then args[k - i]? else t.get k
 | [],t,i,k,_=>by simp[H0]; intro a b; omega
 | x :: r,t,i,k,h=>by
  simp only[List.length_cons]at h ⊢;simp only[H0];rw[Zyg r _ (i+1) k (by omega),Tr.get_set depth t i (some x) k (Zfw (by omega))]
  by_cases a:i+1≤k∧k<i+1+r.length
  ·rw[if_pos a,if_pos (by omega)]
   have:k - i=(k - (i+1))+1:=by omega
   rw[this,List.getElem?_cons_succ]
  ·rw[if_neg a];by_cases b:k=i
   ·subst b;rw[if_pos rfl,if_pos (by omega)]
    simp
   ·rw[if_neg b,if_neg (by omega)]
theorem Zlg{n:Nat}{args:List AVal}(d:n≤bound)(c:args.length≤n):TOk n (H0 .nil 0 args)∧toL n (H0 .nil 0 args)=args++List.replicate (n - args.length) aundef:=by
 have b:=fun k=>Zyg args .nil 0 k (by omega)
 refine⟨fun i hi=>?_,?_⟩
 ·rw[b i,if_neg (by omega)]; rfl
 ·apply List.ext_getElem?;intro i;rcases Nat.lt_or_ge i n with h|h
  ·rw[Zmc h];simp only[evT];rw[b i];rw[List.getElem?_append];by_cases a:i<args.length
   ·rw[if_pos (by omega),if_pos a]
    simp[a]
   ·rw[if_neg (by omega),if_neg a]
    simp only[Tr.get_nil];rw[List.getElem?_replicate,if_pos (by omega)]
  ·rw[List.getElem?_eq_none (by rw[Zim]; exact h),List.getElem?_eq_none (by simp; omega)]
theorem Zvk{n:Nat}{t:Tr AVal}{m:TM}(a:TOk n t)(x:Nat×Option (Option Nat)):Zac (toL n t) m.mem x=Zjd t m x:=by
 obtain⟨i,o⟩:=x;have h:(toL n t).getD i aundef=evT t (.tmp i):=congrFun (Zds a) (.tmp i);cases o with
 | none=>simp only[Zac,Zjd,h]
 | some k=>simp only[Zac,Zjd,h,Znw]; rfl
theorem Zt8{n:Nat}{t:Tr AVal}{m:TM}(a:TOk n t):∀ (b:List (Nat×Option (Option Nat))),D8 (toL n t) m.mem b=Zmu t m b
 | []=>rfl
 | x :: r=>by
  simp only[D8,Zmu,Zvk a,Zt8 a r]
  try rfl
theorem Znh{n:Nat}{t:Tr AVal}{m:TM}(b:TOk n t)(a:List (Nat×Option (Option Nat))):L6 (toL n t) m.mem a=A2 t m a:=by
 cases a with
 | nil=>rfl
 | cons x r=>
  cases r with
  | nil=>exact Zvk b x
  | cons y r=>simp only[L6,A2,Zt8 b]; try rfl
theorem Zks(hm:P.follows .mixedOrders=true){tab:Nat→Option AFn}{d:Caller}(l:Ze5 P tab)(k:O2 P d):∀ f,O2 P (runF tab d f)
 | 0,g,args,m,v,m',wl,h=>by simp[runF]at h
 | f+1,g,args,m,v,m',wl,h=>by
  have L:=Zks hm l k f;simp only[runF]at h;cases z:d g args m with
  | some r=>
   simp only[z,oI]at h;subst h;exact k g args m v m' wl z
  | none=>
   simp only[z]at h;cases B:tab g with
   | none=>simp[B]at h
   | some j=>
    simp only[B]at h;obtain⟨⟨fn,q,u⟩,J,D⟩:=l g j B;cases w:Nat.ble args.length j.ntmps with
    | false=>rw[w]at h; cases h
    | true=>
     rw[w]at h;simp only[cond_true]at h;obtain⟨E,F⟩:=Zlg D (Zk8 w);have n:∀ (e:REnd) (s:RS),(∀ i,e≠.exit i)→T9 (runF tab d f) m.next 1000 j.body ⟨H0 .nil 0 args,m,[]⟩=some (e,s)→(match A2 s.t s.m j.results with|some v=>some (v,s.m,s.wl)|none=>none)=some (v,m',wl) →
      m.next≤m'.next∧(∀ c,c<m.next→c∉wl→m'.mem.get c=m.mem.get c) ∧ ∀ id,ACalls P g args m.mem [id] fun r C=>r=v∧C=m'.mem:=by
      intro e s y a b;obtain⟨p,H⟩:=Zqd L D 1000 j.body ⟨H0 .nil 0 args,m,[]⟩ s e E (Nat.le_refl _) J a;cases A:A2 s.t s.m j.results with
      | none=>simp[A]at b
      | some r=>
       simp only[A,oI,pI2]at b;obtain⟨rfl,rfl,rfl⟩:=b;refine⟨p.next,fun c I K=>(p.keep c I K).2,fun id=>Z2i hm q u ?_⟩
       rw[← F];refine H _ ?_;have o:L6 (toL j.ntmps s.t) s.m.mem j.results=some r:=by rw[Znh p.t]; exact A
       cases e with
       | normal=>simp only[REnd.exit',retK,RS.st,o]; exact⟨trivial,trivial⟩
       | ret=>simp only[REnd.exit',retK,RS.st,o]; exact⟨trivial,trivial⟩
       | exit i=>exact absurd rfl (y i)
     cases a:T9 (runF tab d f) m.next 1000 j.body ⟨H0 .nil 0 args,m,[]⟩ with
     | none=>simp[a]at h
     | some G=>
      obtain⟨e,s⟩:=G;cases e with
      | exit i=>simp[a]at h
      | normal=>simp only[a]at h; exact n .normal s (by simp) a h
      | ret=>simp only[a]at h; exact n .ret s (by simp) a h
end Go.AE
end
section
namespace Go.AE
open Go.RowKit
mutual
def AVal.closed:AVal→Bool
 | .bool _ | .int _ _ | .str _ | .nilPtr | .nilSl | .emp | .nilMap | .nilFunc | .nilIface | .bot=>true
 | .imm els=>W5 els
 | .agg cs=>X4 cs
 | .tuple cs=>X4 cs
 | .func _ a b=>X4 a&&X4 b
 | .iptr els _ _=>W5 els
 | _=>false
def X4:List AVal→Bool
 | []=>true
 | x :: r=>x.closed&&X4 r
def W5:List (List AVal)→Bool
 | []=>true
 | x :: r=>X4 x&&W5 r
end
theorem Zfg:∀ {l:List AVal} {i:Nat} {x:AVal},X4 l=true→l[i]? = some x→x.closed=true
 | [],i,x,_,h=>by simp at h
 | y :: r,i,x,h,a=>by
  simp only[X4,bA]at h;cases i with
  | zero=>simp only[List.getElem?_cons_zero,oI]at a; subst a; exact h.1
  | succ i=>simp only[List.getElem?_cons_succ]at a; exact Zfg h.2 a
theorem Zqb:∀ {l:List (List AVal)} {i:Nat} {x:List AVal},W5 l=true→l[i]? = some x→X4 x=true
 | [],i,x,_,h=>by simp at h
 | y :: r,i,x,h,a=>by
  simp only[W5,bA]at h;cases i with
  | zero=>simp only[List.getElem?_cons_zero,oI]at a; subst a; exact h.1
  | succ i=>simp only[List.getElem?_cons_succ]at a; exact Zqb h.2 a
theorem R.closed{Φ:Pers}{ρ ρ':Rho}{x:AVal}{v:Value}(h:R Φ ρ x v)(e:x.closed=true):R Φ ρ' x v:=by
 induction h with
 | bool b=>exact .bool b
 | int k n=>exact .int k n
 | str s=>exact .str s
 | ptr b i j l h=>simp[AVal.closed]at e
 | iptr els i j B o k c f r w m _ p=>
  simp only[AVal.closed]at e;exact .iptr els i j B o k c f r w m fun i row j x d g=>p i row j x d g (Zfg (Zqb e d) g)
 | nilPtr=>exact .nilPtr
 | nilSl=>exact .nilSl
 | emp a=>exact .emp a
 | sl b off len a cap l h I J m H=>simp[AVal.closed]at e
 | imm0 a cap h=>exact .imm0 a cap h
 | imm els B o k cap c f y q r w m _ p=>
  simp only[AVal.closed]at e;exact .imm els B o k cap c f y q r w m fun i row j x d g=>p i row j x d g (Zfg (Zqb e d) g)
 | map b l h=>simp[AVal.closed]at e
 | nilMap=>exact .nilMap
 | func fn D cs G F E u _ _ A C=>
  simp only[AVal.closed,bA]at e;exact .func fn D cs G F E u (fun i x v d g=>A i x v d g (Zfg e.1 d)) (fun i x v d g=>C i x v d g (Zfg e.2 d))
 | nilFunc=>exact .nilFunc
 | yld b l h=>simp[AVal.closed]at e
 | atLeast n c h=>simp[AVal.closed]at e
 | iface t x v _ p=>simp[AVal.closed]at e
 | nilIface=>exact .nilIface
 | agg cs vs z _ p=>
  simp only[AVal.closed]at e;exact .agg cs vs z fun i x v d g=>p i x v d g (Zfg e d)
 | tuple cs vs z _ p=>
  simp only[AVal.closed]at e;exact .tuple cs vs z fun i x v d g=>p i x v d g (Zfg e d)
 | bot v=>exact .bot v
theorem RL.closed{Φ:Pers}{ρ ρ':Rho}{a:List AVal}{vs:Array Value}(h:RL Φ ρ a vs)(c:X4 a=true):RL Φ ρ' a vs:=
 ⟨h.1,fun i x v b d=>(h.2 i x v b d).closed (Zfg c b)⟩
theorem Ya0{P:Program}{g:FuncId}{args:List AVal}{v:AVal}{m0:Mem}{K:AVal→Mem→Prop}(z:X4 args=true)(A:v.closed=true)(F:∀ c,m0.get c=none)(a:0<m0.next)
 (h:ACalls P g args m0 [0] K) (O:∀ r m',K r m'→r=v) (m:Mem) (H:List Nat):ACalls P g args m H fun r m'=>r=v∧m'=m:=by
 refine⟨h.1,fun W Φ ρ vs w k S U=>?_⟩
 let E:Base:=⟨w,fun _=>none,Φ⟩
 have C:Rel E Φ (fun _=>none) m0 w:=
  ⟨⟨Below.refl _ _,fun B o p=>(by cases p)⟩,k.pers,fun b x s=>(by rw[F b]at s; cases s),fun b b' x x' l l' a=>(by rw[F b]at a; cases a),fun b l j=>(by cases j),fun B c p=>.inl p⟩
 refine(h.2 E Φ (fun _=>none) vs w C (S.closed z) (fun b j=>by simp only[List.mem_singleton]at j; subst j; exact⟨rfl,a⟩)).mono fun e w' V=>?_
 obtain⟨u,r,m1,i,ρ',I,N,_,d,Q,_,y⟩:=V;have D:=O r m1 y;subst D;have j:Below w.heap.size w w':=d.base.below;have f:=k.below j;have q:Ext Φ ρ i ρ:=⟨N.pers,fun b l h=>h⟩
 refine⟨u,r,m,i,ρ,I,q,fun b _ _ h=>h,⟨f.base,d.pers,fun b x s=>?_,f.inj,f.fresh,fun B c p=>?_⟩,Q.closed A,Nat.le_refl _,rfl,rfl⟩
 ·obtain⟨l,o,J,g2,L,M,g5⟩:=k.live b x s;obtain⟨l',o',t,Z,k3,k4,k5⟩:=f.live b x s;refine⟨l',o',t,Z,?_,k4,k5.ext q⟩;rw[J]at t; injection t with t; subst t
  cases Y:i l.blk with
  | none=>rfl
  | some c=>
   rcases d.newp _ _ Y with a|a
   ·have n:Φ l.blk=some c:=a;rw[L]at n; cases n
   ·have G:w.heap.size≤l.blk:=a.1;have:=D5 M;omega
 ·rcases d.newp B c p with a|a
  ·exact k.newp B c a
  ·have G:w.heap.size≤B:=a.1;refine .inr ⟨Nat.le_trans k.base.below.size G,?_⟩;cases X:W.g B with
   | none=>rfl
   | some o=>
    have:=D5 (k.base.prot B o X);omega
end Go.AE
end
section
namespace Go.AE
open Go.RowKit
def V4{α β:Type}(f:α→Option β):List α→Option (List β)
 | []=>some []
 | x :: r=>match f x,V4 f r with
  | some y,some ys=>some (y :: ys)
  | _,_=>none
theorem Zhg{α d:Type}{f:α→Option d}:∀ {l:List α} {l':List d},V4 f l=some l'→l'.length=l.length ∧ ∀(i:Nat) (y:d),l'[i]? = some y → ∃ x,l[i]? = some x∧f x=some y
 | [],l',h=>by
  simp only[V4,oI]at h;subst h;exact⟨rfl,fun i y h=>by simp at h⟩
 | x :: r,l',h=>by
  simp only[V4]at h;cases a:f x with
  | none=>simp[a]at h
  | some y=>
   cases c:V4 f r with
   | none=>simp[a,c]at h
   | some j=>
    simp only[a,c,oI]at h;subst h;obtain⟨e,g⟩:=Zhg c;refine⟨by simp[e],fun i z b=>?_⟩
    cases i with
    | zero=>
     simp only[List.getElem?_cons_zero,oI]at b;subst b;exact⟨x,rfl,a⟩
    | succ i=>
     simp only[List.getElem?_cons_succ]at b ⊢;exact g i z b
def X3(get:Nat→Option ABlk):Nat→AVal→Option AVal
 | 0,_=>none
 | n+1,x=>match x with
  | .sl b off len=>match get b with
   | some (.cells _ els)=>bif Nat.ble (off+len) els.length then match V4 (V4 (X3 get n)) ((els.drop off).take len)with
    | some rows=>some (.imm rows)
    | none=>none
    else none
   | _=>none
  | .agg cs=>match V4 (X3 get n) cs with
   | some ds=>some (.agg ds)
   | none=>none
  | .tuple cs=>match V4 (X3 get n) cs with
   | some ds=>some (.tuple ds)
   | none=>none
  | .imm els=>match V4 (V4 (X3 get n)) els with
   | some rows=>some (.imm rows)
   | none=>none
  | .bool b=>some (.bool b)
  | .int k i=>some (.int k i)
  | .str s=>some (.str s)
  | .nilPtr=>some .nilPtr
  | .nilSl=>some .nilSl
  | .emp=>some .emp
  | .nilMap=>some .nilMap
  | .nilFunc=>some .nilFunc
  | .nilIface=>some .nilIface
  | .bot=>some .bot
  | _=>none
section
variable {W:Base} {Φ Φs:Pers} {ρ:Rho} {m:Mem} {w:World}
theorem Zqi{f:AVal→Option AVal}(e:∀ x y v,f x=some y→R Φ ρ x v→R Φs ρ y v){cs b:List AVal}{vs:Array Value}(h:RL Φ ρ cs vs)(hm:V4 f cs=some b):RL Φs ρ b vs:=by
 obtain⟨c,d⟩:=Zhg hm;refine⟨by rw[h.1,c],fun i y v k g=>?_⟩
 obtain⟨x,j,a⟩:=d i y k;exact e x y v a (h.2 i x v j g)
theorem Zph(hr:Rel W Φ ρ m w)(hE:Ext Φ ρ Φs ρ)(hs:∀ b l k els c e fz,m.get b=some (.cells k els)→ρ b=some l→w.heap[l.blk]? = some (.cells c e fz)→Φs l.blk=some c) :
 ∀(n:Nat) (x y:AVal) (v:Value),X3 m.get n x=some y→R Φ ρ x v→R Φs ρ y v:=by
 intro n
 induction n with
 | zero=>intro x y v h; simp[X3]at h
 | succ n U=>
  intro x y v h hR;simp only[X3]at h;cases hR with
  | bool b=>injection h with h; subst h; exact .bool b
  | int k i=>injection h with h; subst h; exact .int k i
  | str s=>injection h with h; subst h; exact .str s
  | nilPtr=>injection h with h; subst h; exact .nilPtr
  | nilSl=>injection h with h; subst h; exact .nilSl
  | emp a=>injection h with h; subst h; exact .emp a
  | nilMap=>injection h with h; subst h; exact .nilMap
  | nilFunc=>injection h with h; subst h; exact .nilFunc
  | nilIface=>injection h with h; subst h; exact .nilIface
  | ptr b i j l r=>simp at h
  | iptr els i j B o k c f hB K M p=>simp at h
  | map b l r=>simp at h
  | yld b l r=>simp at h
  | atLeast n' c' r=>simp at h
  | func fn fs cs vf vc hf Z r Q=>simp at h
  | iface t x v r=>simp at h
  | bot v=>injection h with h; subst h; exact .bot v
  | agg cs vs F p=>
   simp only at h;cases hm:V4 (X3 m.get n) cs with
   | none=>simp[hm]at h
   | some ds=>
    simp only[hm,oI]at h;subst h;have:=Zqi (Φs:=Φs) (fun x y v H hx=>U x y v H hx) ⟨F,p⟩ hm
    exact .agg _ _ this.1 this.2
  | tuple cs vs F p=>
   simp only at h;cases hm:V4 (X3 m.get n) cs with
   | none=>simp[hm]at h
   | some ds=>
    simp only[hm,oI]at h;subst h;have:=Zqi (Φs:=Φs) (fun x y v H hx=>U x y v H hx) ⟨F,p⟩ hm
    exact .tuple _ _ this.1 this.2
  | imm0 a cap hz=>
   simp only[V4,oI]at h;subst h;exact .imm0 a cap hz
  | imm els B o k cap c f ab L hB K M p=>
   simp only at h;cases hm:V4 (V4 (X3 m.get n)) els with
   | none=>simp[hm]at h
   | some rows=>
    simp only[hm,oI]at h;subst h;obtain⟨r,Q⟩:=Zhg hm;have g:∀ (i:Nat) (d:List AVal),rows[i]? = some d → ∃ row,els[i]? = some row∧d.length=row.length ∧ ∀(j:Nat) (y:AVal),d[j]? = some y → ∃ x,row[j]? = some x∧X3 m.get n x=some y:=by
     intro i d hi;obtain⟨row,q,P⟩:=Q i d hi;obtain⟨J,G⟩:=Zhg P;exact⟨row,q,J,G⟩
    rw[← r];refine .imm rows B o k cap c f (fun e=>ab ?_) (by rw[r]; exact L) (hE.pers _ _ hB) (fun i d hi=>?_) (fun i d j y hi E=>?_) (fun i d j y hi E=>?_)
    ·rw[e]at r;exact List.length_eq_zero_iff.1 r.symm
    ·obtain⟨row,q,P,_⟩:=g i d hi;rw[P]; exact K i row q
    ·obtain⟨row,q,_,J⟩:=g i d hi;obtain⟨x,G,_⟩:=J j y E;exact M i row j x q G
    ·obtain⟨row,q,_,J⟩:=g i d hi;obtain⟨x,G,V⟩:=J j y E;exact U x y _ V (p i row j x q G)
  | sl b off len a cap l hl ac hn Z ha=>
   simp only at h;cases S:m.get b with
   | none=>simp[S]at h
   | some blk=>
    cases blk<;>simp only[S]at h<;>first|(cases h; done)|skip
    rename_i k els;cases Y:Nat.ble (off+len) els.length with
    | false=>rw[Y]at h; cases h
    | true=>
     rw[Y]at h;simp only[cond_true]at h;have ad:=Nat.le_of_ble_eq_true Y;cases hm:V4 (V4 (X3 m.get n)) ((els.drop off).take len)with
     | none=>simp[hm]at h
     | some rows=>
      simp only[hm,oI]at h;subst h;obtain⟨r,Q⟩:=Zhg hm;have A:rows.length=len:=by rw[r]; simp; omega
      obtain⟨l',o,q,P,J,G,V⟩:=hr.live b _ S;rw[hl]at q; injection q with q; subst q
      cases V with
      | cells _ _ _ c e K F ae C _=>
       by_cases h0:len=0
       ·subst h0;have:rows=[]:=List.length_eq_zero_iff.1 A;subst this;exact .imm0 a cap fun hp=>⟨_,_,Z hp⟩
       ·have X:=Z (by omega)
        subst X;have g:∀ (i:Nat) (d:List AVal),rows[i]? = some d → ∃ row,els[off+i]? = some row∧d.length=row.length ∧ ∀(j:Nat) (y:AVal),d[j]? = some y → ∃ x,row[j]? = some x∧X3 m.get n x=some y:=by
         intro i d hi;obtain⟨row,D,N⟩:=Q i d hi;obtain⟨I,O⟩:=Zhg N;have aa:i<len:=by
          have:=(gS.1 hi).1;omega
         rw[List.getElem?_take,if_pos aa,List.getElem?_drop]at D;exact⟨row,D,I,O⟩
        have z:∀ (i:Nat) (row:List AVal) (j:Nat) (x:AVal),els[off+i]? = some row→row[j]? = some x → ∃ u,c[(l.sh+off)*l.k+i*l.k+j]? = some u∧u.oneCell'=true∧R Φ ρ x u:=by
         intro i row j x hi E;obtain⟨u,D,N,I⟩:=C.2 (off+i) row j x hi E;refine⟨u,?_,N,I⟩;rw[← D,K]
         congr 1
         rw[← Nat.add_assoc,Nat.add_mul (l.sh+off) i]
        rw[← A];refine .imm rows l.blk ((l.sh+off)*l.k) k cap c (fun i j=>(c[(l.sh+off)*l.k+i*k+j]?).getD undef) (fun e=>h0 (by rw[← A,e]; rfl)) (by omega) (hs b l k els c e (0,0) S hl G)
         (fun i d hi=>?_) (fun i d j y hi E=>?_) (fun i d j y hi E=>?_)
        ·obtain⟨row,D,N,_⟩:=g i d hi;rw[N]; exact C.1 (off+i) row D
        ·obtain⟨row,D,_,I⟩:=g i d hi;obtain⟨x,O,_⟩:=I j y E;obtain⟨u,p1,p2,_⟩:=z i row j x D O;rw[K]at p1 ⊢;simp only[p1,Option.getD_some];exact⟨trivial,p2⟩
        ·obtain⟨row,D,_,I⟩:=g i d hi;obtain⟨x,O,q5⟩:=I j y E;obtain⟨u,p1,_,p3⟩:=z i row j x D O;rw[K]at p1 ⊢;simp only[p1,Option.getD_some];exact U x y u q5 p3
end
theorem Z90{W:Base}{Φ:Pers}{ρ:Rho}{m:Mem}{w:World}(i:Rel W Φ ρ m w):∃ Φs:Pers,Ext Φ ρ Φs ρ∧(∀ B c,Φs B=some c → ∃ e fz,w.heap[B]? = some (.cells c e fz)) ∧
 (∀ B c,Φs B=some c→W.p B=some c∨W.Free B) ∧ ∀ b l k els c e fz,m.get b=some (.cells k els)→ρ b=some l→w.heap[l.blk]? = some (.cells c e fz)→Φs l.blk=some c:=by
 have f:∀ B,(∃ b l y,m.get b=some y∧ρ b=some l∧l.blk=B)→Φ B=none∧W.Free B:=by
  rintro B ⟨b,l,y,r,s,rfl⟩;obtain⟨l',o,g,n,q,_⟩:=i.live b y r;rw[s]at g; injection g with g; subst g
  exact⟨q,n⟩
 refine⟨fun B=>@ite _ (∃ b l y,m.get b=some y∧ρ b=some l∧l.blk=B) (Classical.propDecidable _) (match w.heap[B]? with|some (.cells c _ _)=>some c|_=>none) (Φ B),⟨fun B c a=>?_,fun b l h=>h⟩,fun B c a=>?_,fun B c a=>?_,fun b l k els c e fz t u j=>?_⟩
 ·by_cases d:∃ b l y,m.get b=some y∧ρ b=some l∧l.blk=B
  ·rw[(f B d).1]at a; cases a
  ·simp only[d,if_false]; exact a
 ·by_cases d:∃ b l y,m.get b=some y∧ρ b=some l∧l.blk=B
  ·simp only[d,if_true]at a;split at a<;>first|(cases a; done)|skip
   rename_i c' e fz j;injection a with a; subst a
   exact⟨e,fz,j⟩
  ·simp only[d,if_false]at a;exact i.pers B c a
 ·by_cases d:∃ b l y,m.get b=some y∧ρ b=some l∧l.blk=B
  ·exact .inr (f B d).2
  ·simp only[d,if_false]at a;exact i.newp B c a
 ·have d:∃ b' l' y,m.get b'=some y∧ρ b'=some l'∧l'.blk=l.blk:=⟨b,l,_,t,u,rfl⟩
  simp only[d,if_true,j]
theorem Zmz{P:Program}{g:FuncId}{args:List AVal}{v:AVal}{m0:Mem}{K:AVal→Mem→Prop}(k:X4 args=true)(o:v.closed=true)(C:∀ c,m0.get c=none)(d:0<m0.next)
 (h:ACalls P g args m0 [0] K) (E:∀ r m',K r m' → ∃ n,X3 m'.get n r=some v) (m:Mem) (q:List Nat):ACalls P g args m q fun r m'=>r=v∧m'=m:=by
 refine Ya0 (K:=fun r _=>r=v) (m0:=m0) k o C d ⟨h.1,fun W Φ ρ vs w L G j=>(h.2 W Φ ρ vs w L G j).mono fun e w' H=>?_⟩ (fun r m' h=>h) m q
 obtain⟨u,r,t,N,ρ',y,D,I,a,F,J,f⟩:=H;obtain⟨n,p⟩:=E r t f;obtain⟨Φs,s,z,A,B⟩:=Z90 a;have i:=Zph a s B n r v u p F;refine⟨u,v,⟨fun _=>none,t.next⟩,Φs,ρ',y,D.trans s,I,⟨a.base,z,fun b x M=>(by cases M),fun b b' x O l l' d=>(by cases d),a.fresh,A⟩,i,J,rfl⟩
end Go.AE
end
section
namespace Go.AE
open Go.RowKit
def Zlc:List UInt8→List UInt8→Bool
 | [],[]=>true
 | a :: r,b :: s=>Nat.beq a.toNat b.toNat&&Zlc r s
 | _,_=>false
theorem Zxx:∀ {a b:List UInt8},Zlc a b=true→a=b
 | [],[],_=>rfl
 | a :: r,b :: s,h=>by
  simp only[Zlc,bA]at h;have c:=Nat.eq_of_beq_eq_true h.1;rw[UInt8.toNat_inj.1 c,Zxx h.2]
 | [],_ :: _,h=>by cases h
 | _ :: _,[],h=>by cases h
def Zn1:Int→Int→Bool
 | .ofNat a,.ofNat b=>Nat.beq a b
 | .negSucc a,.negSucc b=>Nat.beq a b
 | _,_=>false
theorem Yb9{a b:Int}(h:Zn1 a b=true):a=b:=by
 cases a<;>cases b<;>simp only[Zn1]at h<;>first|(cases h; done)|(rw[Nat.eq_of_beq_eq_true h])
mutual
def M3:AVal→AVal→Bool
 | .bool a,.bool b=>a == b
 | .int k a,.int k' b=>k == k'&&Zn1 a b
 | .str a,.str b=>Zlc a b
 | .nilPtr,.nilPtr=>true
 | .nilSl,.nilSl=>true
 | .emp,.emp=>true
 | .nilMap,.nilMap=>true
 | .nilFunc,.nilFunc=>true
 | .nilIface,.nilIface=>true
 | .imm a,.imm b=>Zf3 a b
 | .agg a,.agg b=>beqL a b
 | .tuple a,.tuple b=>beqL a b
 | _,_=>false
def beqL:List AVal→List AVal→Bool
 | [],[]=>true
 | x :: r,y :: s=>M3 x y&&beqL r s
 | _,_=>false
def Zf3:List (List AVal)→List (List AVal)→Bool
 | [],[]=>true
 | x :: r,y :: s=>beqL x y&&Zf3 r s
 | _,_=>false
end
mutual
theorem Zvv:∀ (x y:AVal),M3 x y=true→x=y
 | .bool a,y,h=>by cases y<;>simp only[M3]at h<;>first|(cases h; done)|(simp at h; rw[h])
 | .int k a,y,h=>by
  cases y<;>simp only[M3]at h<;>first|(cases h; done)|skip
  simp only[bA,beq_iff_eq]at h;rw[h.1,Yb9 h.2]
 | .str a,y,h=>by cases y<;>simp only[M3]at h<;>first|(cases h; done)|(rw[Zxx h])
 | .nilPtr,y,h=>by cases y<;>simp only[M3]at h<;>first|(cases h; done)|rfl
 | .nilSl,y,h=>by cases y<;>simp only[M3]at h<;>first|(cases h; done)|rfl
 | .emp,y,h=>by cases y<;>simp only[M3]at h<;>first|(cases h; done)|rfl
 | .nilMap,y,h=>by cases y<;>simp only[M3]at h<;>first|(cases h; done)|rfl
 | .nilFunc,y,h=>by cases y<;>simp only[M3]at h<;>first|(cases h; done)|rfl
 | .nilIface,y,h=>by cases y<;>simp only[M3]at h<;>first|(cases h; done)|rfl
 | .imm a,y,h=>by cases y<;>simp only[M3]at h<;>first|(cases h; done)|(rw[Zre _ _ h])
 | .agg a,y,h=>by cases y<;>simp only[M3]at h<;>first|(cases h; done)|(rw[Zid _ _ h])
 | .ptr _ _ _,y,h=>by simp[M3]at h
 | .iptr _ _ _,y,h=>by simp[M3]at h
 | .sl _ _ _,y,h=>by simp[M3]at h
 | .map _,y,h=>by simp[M3]at h
 | .yld _,y,h=>by simp[M3]at h
 | .atLeast _,y,h=>by simp[M3]at h
 | .func _ _ _,y,h=>by simp[M3]at h
 | .iface _ _,y,h=>by simp[M3]at h
 | .tuple a,y,h=>by
  cases y<;>simp only[M3]at h<;>first|(cases h; done)|(rw[Zid _ _ h])
 | .bot,y,h=>by simp[M3]at h
theorem Zid:∀ (x y:List AVal),beqL x y=true→x=y
 | [],[],_=>rfl
 | a :: r,b :: s,h=>by
  simp only[beqL,bA]at h;rw[Zvv a b h.1,Zid r s h.2]
 | [],_ :: _,h=>by simp[beqL]at h
 | _ :: _,[],h=>by simp[beqL]at h
theorem Zre:∀ (x y:List (List AVal)),Zf3 x y=true→x=y
 | [],[],_=>rfl
 | a :: r,b :: s,h=>by
  simp only[Zf3,bA]at h;rw[Zid a b h.1,Zre r s h.2]
 | [],_ :: _,h=>by simp[Zf3]at h
 | _ :: _,[],h=>by simp[Zf3]at h
end
structure Memo where
 g:FuncId
 args:List AVal
 v:AVal
def Memo.Ok(P:Program)(e:Memo):Prop:=∀ m av,ACalls P e.g e.args m av fun r m'=>r=e.v∧m'=m
def Memo.All(P:Program):List Memo→Prop
 | []=>True
 | e :: r=>e.Ok P∧Memo.All P r
def Zib(a b:Caller):Caller:=fun g args m=>match a g args m with
 | some r=>some r
 | none=>b g args m
theorem Zrc{P:Program}{a b:Caller}(d:O2 P a)(e:O2 P b):O2 P (Zib a b):=by
 intro g args m v m' wl h;unfold Zib at h;cases c:a g args m with
 | some r=>
  rw[c]at h;injection h with h
  subst h;exact d g args m v m' wl c
 | none=>rw[c]at h; exact e g args m v m' wl h
def runM(tab:Nat→Option AFn)(orc:Caller)(g:FuncId)(args:List AVal):Option AVal:=
 match runF tab orc 1000 g args ⟨.nil,1⟩ with
 | some (r,m,_)=>X3 m.tr.get 1000 r
 | none=>none
theorem Yb8{P:Program}(hm:P.follows .mixedOrders=true){tab:Nat→Option AFn}{a:Caller}(d:Ze5 P tab)(b:O2 P a)(e:Memo)
 (h:(match runM tab a e.g e.args with|some r=>M3 r e.v&&(X4 e.args&&e.v.closed)|none=>false)=true):e.Ok P:=by
 intro m l;unfold runM at h;cases i:runF tab a 1000 e.g e.args ⟨.nil,1⟩ with
 | none=>simp[i]at h
 | some j=>
  obtain⟨r,k,wl⟩:=j;simp only[i]at h;cases f:X3 k.tr.get 1000 r with
  | none=>simp[f]at h
  | some y=>
   simp only[f,bA]at h;obtain⟨n,o,p⟩:=h;have t:=Zvv _ _ n;subst t;obtain⟨_,_,q⟩:=Zks hm d b 1000 e.g e.args ⟨.nil,1⟩ r k wl i;exact Zmz o p (m0:=(⟨.nil,1⟩:TM).mem) (fun c=>rfl) (Nat.lt_succ_self 0) (q 0) (fun u m' s=>⟨1000,by obtain⟨rfl,rfl⟩:=s; exact f⟩) m l
end Go.AE
end
