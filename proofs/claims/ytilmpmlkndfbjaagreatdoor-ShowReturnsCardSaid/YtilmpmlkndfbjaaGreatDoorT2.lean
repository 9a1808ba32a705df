/- Part 2 -/
import Derived.Test.YtilmpmlkndfbjaaGreatDoorT1
import Derived.Orders
import Derived.Deep.LoopGhost
import Derived.RangeFuncRecord
set_option linter.all false
open List (mem_cons_of_mem contains_iff_mem getD getElem?_cons_zero getElem?_cons_succ getElem?_set getElem?_eq_none ext_getElem? mem_filter range replicate getElem?_append all_cons)
open Nat (lt_succ_self not_le le_trans zero_add beq mod div ble eq_of_beq_eq_true beq_refl)
open Option (getD_some map_some)
open Bool (not_eq_true' or_eq_true)
namespace Go.AE
open Go.RowKit
structure Trace (P:Program) (base:Nat) (as:List Ag) (t0:List Aa) (m0:Mem) (T:Nat→List Aa) (M:Nat→Mem) (V:Nat→Aa) (F:Nat→FT):Prop where
 t0:T 0=t0
 m0:M 0=m0
 step:∀ i b,as[i]? = some b→T (i+1)=put (T i) b.dst (V i) ∧
  ((P7 (T i) b.guard=some false∧V i=Ai∧M (i+1)=M i∧F i=.ops [] []) ∨
   (P7 (T i) b.guard=some true∧(∀ j,j∈b.un→j<i→FT.indep (F j) (F i)) ∧
     ((∃ f xs g args wl x,b.op=.call f xs∧callee (T i) f xs=some (g,args)∧F i=.call wl x (M i).next∧QL P g args (base+i) x (M i) (V i) (M (i+1)) wl) ∨
      (Ae (base+i) (T i) (M i) b.op=some (V i,M (i+1))∧F i=.ops (P5 (base+i) (T i) b.op) (F7 (T i) b.op)))))
theorem Zxz{x:Nat}:∀{l:List Nat},B5 x l->x∉l
 |[],_=>by simp
 |y::r,h=>by
  simp only[mC,not_or];exact⟨h.1,Zxz h.2⟩
theorem RY{l:List Nat}:∀{xs:List Nat},G3 xs l -> ∀c,c∈xs->c∉l
 |[],_,c,a=>by simp at a
 |x::r,h,c,a=>by
  simp only[mC]at a;rcases a with rfl|a
  ·exact Zxz h.1
  exact RY h.2 c a
theorem Wg{n:Nat}:∀{l:List Nat},Je n l -> ∀c,c∈l->c<n
 |[],_,c,a=>by simp at a
 |x::r,h,c,a=>by
  simp only[mC]at a;rcases a with rfl|a
  ·exact h.1
  exact Wg h.2 c a
theorem Zz2{x:Nat}:∀{l:List Nat},Ma x l->x∈l
 |[],h=>h.elim
 |y::r,h=>by
  rcases h with rfl|h
  ·simp
  exact mem_cons_of_mem _ (Zz2 h)
theorem kN{l:List Nat}:∀{xs:List Nat},Fs xs l -> ∀c,c∈xs->c∈l
 |[],_,c,a=>by simp at a
 |x::r,h,c,a=>by
  simp only[mC]at a;rcases a with rfl|a
  ·exact Zz2 h.1
  exact kN h.2 c a
theorem FT.Iz{f g:FT}(h:FT.indep f g):(∀c,f.W c=true->g.R c=false/\g.W c=false)/\(∀c,f.R c=true->g.W c=false)/\(f.Dv=true->g.Dv=false):=by
 cases f with
 |ops w r=>
  cases g with
  |ops w' q=>
   obtain⟨i,j⟩:=h;refine⟨λc a=>?_,λc a=>?_,λh=>by cases h⟩
   ·simp only[FT.W,contains_iff_mem]at a;have:=RY i c a;simp only[List.mem_append,not_or]at this;simp[FT.W,FT.R,this.1,this.2]
   simp only[FT.R,contains_iff_mem]at a;have:=RY j c a;simp[FT.W,this]
  |call wl x nx=>
   obtain⟨i,j,l,m,n⟩:=h;refine⟨λc a=>?_,λc a=>?_,λh=>by cases h⟩
   ·simp only[FT.W,contains_iff_mem]at a;have d:=RY l c a;have e:=Wg m c a;have k:=kN n c a;simp[FT.W,FT.R,d,k,Nat.not_le.2 e]
   simp only[FT.R,contains_iff_mem]at a;have d:=RY i c a;have e:=Wg j c a;simp[FT.W,d,Nat.not_le.2 e]
 |call wl x nx=>
  cases g with
  |ops w r=>
   obtain⟨i,j,l,m,n⟩:=h;refine⟨λc a=>⟨?_,?_⟩,λc a=>?_,λ_=>rfl⟩
   ·cases b:(FT.ops w r).R c with
    |false=>rfl
    |true=>
     simp only[FT.R,contains_iff_mem]at b;have d:=RY i c b;have e:=Wg j c b;simp[FT.W,d,Nat.not_le.2 e]at a
   ·cases b:(FT.ops w r).W c with
    |false=>rfl
    |true=>
     simp only[FT.W,contains_iff_mem]at b;have d:=RY l c b;have e:=Wg m c b;simp[FT.W,d,Nat.not_le.2 e]at a
   cases b:(FT.ops w r).W c with
   |false=>rfl
   |true=>
    simp only[FT.W,contains_iff_mem]at b;have k:=kN n c b;simp[FT.R,k]at a
  |call o s p=>exact h.elim
theorem Zzo{b:List FT}{c:FT}:∀{un:List Nat},M7 b c un -> ∀j,j∈un->FT.indep (b.getD j (.ops [] [])) c
 |[],_,j,a=>by simp at a
 |i::r,h,j,a=>by
  simp only[mC]at a;rcases a with rfl|a
  ·exact h.1
  exact Zzo h.2 j a
theorem Yll{P:Program}{base:Nat}{b:Ag}{c:List Ag}{a:List FT}{K:AY->Prop}{t:List Aa}{m:Mem}(h:M2 P base (b::c) a K t m) :
 (P7 t b.guard=some false/\M2 P base c (a++[.ops [] []]) K (put t b.dst Ai) m) \/
 (P7 t b.guard=some true/\((∃f xs g args wl x v m',b.op=.call f xs/\callee t f xs=some (g,args)/\QL P g args (base+a.length) x m v m' wl/\M7 a (.call wl x m.next) b.un/\M2 P base c (a++[.call wl x m.next]) K (put t b.dst v) m') \/
   (∃v m',Ae (base+a.length) t m b.op=some (v,m')/\M7 a (.ops (P5 (base+a.length) t b.op) (F7 t b.op)) b.un/\M2 P base c (a++[.ops (P5 (base+a.length) t b.op) (F7 t b.op)]) K (put t b.dst v) m'))):=by
 simp only[M2]at h;cases k:P7 t b.guard with
 |none=>simp[k]at h
 |some q=>
  cases q with
  |false=>simp only[k]at h;exact .inl ⟨rfl,h⟩
  |true=>
   simp only[k]at h;refine .inr ⟨rfl,?_⟩;have e:∀op,b.op=op->(match Ae (base+a.length) t m op with
    |some (v,m')=>M7 a (.ops (P5 (base+a.length) t op) (F7 t op)) b.un/\M2 P base c (a++[.ops (P5 (base+a.length) t op) (F7 t op)]) K (put t b.dst v) m'
    |none=>False) ->
    ∃v m',Ae (base+a.length) t m op=some (v,m')/\M7 a (.ops (P5 (base+a.length) t op) (F7 t op)) b.un/\M2 P base c (a++[.ops (P5 (base+a.length) t op) (F7 t op)]) K (put t b.dst v) m':=by
    intro op _ j;cases l:Ae (base+a.length) t m op with
    |none=>simp[l]at j
    |some r=>obtain ⟨v,m'⟩:=r;simp only[l]at j;exact⟨v,m',rfl,j⟩
   cases d:b.op with
   |call f xs=>
    simp only[d]at h;cases i:callee t f xs with
    |none=>simp[i]at h
    |some r=>
     obtain⟨g,args⟩:=r;simp only[i]at h;obtain⟨wl,x,v,m',n,o,p⟩:=h;exact .inl ⟨f,xs,g,args,wl,x,v,m',rfl,i,n,o,p⟩
   |_=>rw[d]at h;exact .inr (e _ d h)
theorem Ylh{a:List FT}{x d:FT}{j:Nat}(h:j<a.length):(a++[x]).getD j d=a.getD j d:=by
 simp[getD,List.getElem?_append_left h]
theorem sx{P:Program}{base:Nat}{K:AY->Prop}:∀(as:List Ag) (a:List FT) (t:List Aa) (m:Mem),M2 P base as a K t m ->
 ∃(T:Nat->List Aa) (M:Nat->Mem) (V:Nat->Aa) (F:Nat->FT),T a.length=t/\M a.length=m/\(∀j,j<a.length->F j=a.getD j (.ops [] [])) /\
  (∀i b,as[i]?=some b->T (a.length+i+1)=put (T (a.length+i)) b.dst (V (a.length+i)) /\
    ((P7 (T (a.length+i)) b.guard=some false/\V (a.length+i)=Ai/\M (a.length+i+1)=M (a.length+i)/\F (a.length+i)=.ops [] []) \/
     (P7 (T (a.length+i)) b.guard=some true/\(∀j,j∈b.un->j<a.length+i->FT.indep (F j) (F (a.length+i))) /\
       ((∃f xs g args wl x,b.op=.call f xs/\callee (T (a.length+i)) f xs=some (g,args)/\F (a.length+i)=.call wl x (M (a.length+i)).next/\QL P g args (base+(a.length+i)) x (M (a.length+i)) (V (a.length+i)) (M (a.length+i+1)) wl) \/
        (Ae (base+(a.length+i)) (T (a.length+i)) (M (a.length+i)) b.op=some (V (a.length+i),M (a.length+i+1))/\F (a.length+i)=.ops (P5 (base+(a.length+i)) (T (a.length+i)) b.op) (F7 (T (a.length+i)) b.op)))))) /\
  K ⟨T (a.length+as.length),M (a.length+as.length)⟩
 |[],a,t,m,h=>⟨λ_=>t,λ_=>m,λ_=>Ai,λj=>a.getD j (.ops [] []),rfl,rfl,λ_ _=>rfl,λi b I=>by simp at I,h⟩
 |b::c,a,t,m,h=>by
  have key:∃(d:FT) (v:Aa) (m':Mem),M2 P base c (a++[d]) K (put t b.dst v) m' /\
   ((P7 t b.guard=some false/\v=Ai/\m'=m/\d=.ops [] [])\/(P7 t b.guard=some true/\M7 a d b.un /\
     ((∃f xs g args wl x,b.op=.call f xs/\callee t f xs=some (g,args)/\d=.call wl x m.next/\QL P g args (base+a.length) x m v m' wl)\/(Ae (base+a.length) t m b.op=some (v,m')/\d=.ops (P5 (base+a.length) t b.op) (F7 t b.op))))):=by
   rcases Yll h with⟨w,G⟩|⟨w,⟨f,xs,g,args,wl,x,v,m',p,q,l,s,u⟩|⟨v,m',p,q,l⟩⟩
   ·exact⟨.ops [] [],Ai,m,G,.inl ⟨w,rfl,rfl,rfl⟩⟩
   ·exact⟨_,v,m',u,.inr ⟨w,s,.inl ⟨f,xs,g,args,wl,x,p,q,rfl,l⟩⟩⟩
   exact⟨_,v,m',l,.inr ⟨w,q,.inr ⟨p,rfl⟩⟩⟩
  obtain⟨d,v,m',n,o⟩:=key;obtain⟨T,M,V,F,p,q,l,s,u⟩:=sx c (a++[d]) _ _ n;have J:(a++[d]).length=a.length+1:=by simp
  rw[J]at p q l s u;have H:F a.length=d:=by rw[l _ (lt_succ_self _)];simp[getD]
  have r:∀j,j<a.length->F j=a.getD j (.ops [] []):=λj C=>by rw[l j (by omega),Ylh C]
  refine⟨λk=>if k=a.length then t else T k,λk=>if k=a.length then m else M k,λk=>if k=a.length then v else V k,F,by simp,by simp,r,?_,?_⟩
  ·intro i b' e;cases i with
   |zero=>
    simp only[getElem?_cons_zero,oI]at e;subst e;simp only[Nat.add_zero,if_true,show a.length+1≠a.length by omega,if_false,p,q,H];refine⟨trivial,?_⟩;rcases o with⟨z,A,B,E⟩|⟨z,A,B⟩
    ·exact .inl ⟨z,A,B,E⟩
    refine .inr ⟨z,λj C D=>?_,B⟩;rw[r j D];exact Zzo A j C
   |succ i=>
    simp only[getElem?_cons_succ]at e;have:=s i b' e;have y:a.length+1+i=a.length+(i+1):=by omega
    rw[y]at this;simp only[show a.length+(i+1)≠a.length by omega,show a.length+(i+1)+1≠a.length by omega,if_false];exact this
  have y:a.length+(b::c).length=a.length+1+c.length:=by simp;omega
  simp only[y,show a.length+1+c.length≠a.length by omega,if_false];exact u
theorem Yf2{P:Program}{base:Nat}{as:List Ag}{K:AY->Prop}{t:List Aa}{m:Mem}(h:M2 P base as [] K t m) :
 ∃T M V F,Trace P base as t m T M V F/\K ⟨T as.length,M as.length⟩:=by
 obtain⟨T,M,V,F,a,c,g,d,e⟩:=sx as [] t m h;refine⟨T,M,V,F,⟨a,c,λi b f=>?_⟩,by simpa using e⟩;have:=d i b f;simpa using this
section
variable {P:Program} {base:Nat} {as:List Ag} {t0:List Aa} {m0:Mem} {T:Nat→List Aa} {M:Nat→Mem} {V:Nat→Aa} {F:Nat→FT}
def OQ(as:List Ag)(x j:Nat):Bool:=
 match as[j]? with
 | some b=>b.dst == some x
 | none=>false
structure BT (as:List Ag) (t0:List Aa) (m0:Mem) (M:Nat→Mem) (V:Nat→Aa) (F:Nat→FT) (D:Nat→Bool) (t:List Aa) (m:Mem):Prop where
 len:t.length=t0.length
 tmp:∀ x,x<t0.length→t[x]? = match Ij (fun j=>D j&&OQ as x j) as.length with|some j=>some (V j)|none=>t0[x]?
 mem:∀ c,m.get c=match Ij (fun j=>D j&&(F j).W c) as.length with|some j=>(M (j+1)).get c|none=>m0.get c
 next:m.next=match Ij (fun j=>D j&&(F j).Dv) as.length with|some j=>(M (j+1)).next|none=>m0.next
theorem Ycb(n:Nat):Ij (λ_=>false) n=none:=by
 induction n with
 |zero=>rfl
 |succ n a=>simp[Ij,a]
theorem Zx7{p:Nat->Bool}{j:Nat}:∀{n:Nat},Ij p n=some j->j<n
 |0,h=>by cases h
 |n+1,h=>by
  simp only[Ij]at h;split at h
  ·injection h with h;omega
  have:=Zx7 h;omega
theorem yI:BT as t0 m0 M V F (λ_=>false) t0 m0:=by
 refine⟨rfl,λx _=>?_,λc=>?_,?_⟩<;>simp only[Bool.false_and,Ycb]
theorem Xs{D D':Nat->Bool}{t:List Aa}{m:Mem}(h:BT as t0 m0 M V F D t m)(b:∀j,j<as.length->D j=D' j):BT as t0 m0 M V F D' t m:=by
 refine⟨h.len,λx d=>?_,λc=>?_,?_⟩
 ·rw[h.tmp x d,Qm as.length λj a=>by rw[b j a]]
 ·rw[h.mem c,Qm as.length λj a=>by rw[b j a]]
 rw[h.next,Qm as.length λj a=>by rw[b j a]]
theorem jA{D q:Nat->Bool}{i n:Nat}(hi:i<n)(h:∀j,i<j->j<n->D j=true->q i=true->q j=false) :
 Ij (λj=>(D j||j == i)&&q j) n=if q i=true then some i else Ij (λj=>D j&&q j) n:=by
 cases b:q i with
 |true=>
  rw[iP rfl];refine Z5j (by simp[b]) n hi λj c d=>?_;cases e:D j with
  |false=>simp;intro f;omega
  |true=>simp[h j c d e b]
 |false=>
  simp only[bF,if_false];refine Qm n λj _=>?_;by_cases a:j=i
  ·subst a;simp[b]
  simp[beq_false_of_ne a]
theorem Zyw{D:Nat->Bool}{t:List Aa}{m m':Mem}{i:Nat}{b:Ag}(h:BT as t0 m0 M V F D t m)(o:as[i]?=some b)
 (z:∀j c,i<j->D j=true->as[j]?=some c -> ∀d,b.dst=some d->c.dst≠some d)
 (s:∀j c,i<j->j<as.length->D j=true->(F i).W c=true->(F j).W c=false)
 (w:∀j,i<j->j<as.length->D j=true->(F i).Dv=true->(F j).Dv=false)
 (n:∀c,(F i).W c=false->m'.get c=m.get c) (p:∀c,(F i).W c=true->m'.get c=(M (i+1)).get c)
 (y:(F i).Dv=true->m'.next=(M (i+1)).next) (r:(F i).Dv=false->m'.next=m.next) :
 BT as t0 m0 M V F (λj=>D j||j == i) (put t b.dst (V i)) m':=by
 have hi:i<as.length:=(gS.1 o).1;refine⟨?_,λx v=>?_,λc=>?_,?_⟩
 ·cases u:b.dst<;>simp[put,h.len]
 ·rw[jA hi (q:=λj=>OQ as x j) (λj k g l a=>by
   simp only[OQ,o,beq_iff_eq]at a;have:=z j (as[j]) k l (gE g) x a;simp[OQ,gE g,this])]
  by_cases f:b.dst=some x
  ·rw[iP (by simp[OQ,o,f])];simp only[f,put];rw[getElem?_set];simp[h.len,v]
  rw[iN (by simp[OQ,o,f]),<-h.tmp x v];cases u:b.dst with
  |none=>rfl
  |some d=>
   simp only[put];rw[getElem?_set];have:d≠x:=λe=>f (by rw[u,e]);rw[iN this]
 ·rw[jA hi (q:=λj=>(F j).W c) (λj k g l a=>s j c k g l a)];cases a:(F i).W c with
  |true=>simp only[if_true];exact p c a
  |false=>simp only[bF,if_false];rw[n c a,h.mem c]
 rw[jA hi (q:=λj=>(F j).Dv) (λj k g l a=>w j k g l a)];cases a:(F i).Dv with
 |true=>simp only[if_true];exact y a
 |false=>simp only[bF,if_false];rw[r a,h.next]
theorem fL(h:Trace P base as t0 m0 T M V F){i:Nat}{b:Ag}(p:as[i]?=some b) :
 (∀c,(F i).W c=false->(M (i+1)).get c=(M i).get c)/\((F i).Dv=false->(M (i+1)).next=(M i).next)/\(M i).next<=(M (i+1)).next /\
 (b.op.kind=0->F i=.ops [] [])/\(b.op.kind<=1 -> ∀c,(F i).W c=false):=by
 obtain⟨_,l⟩:=h.step i b p;rcases l with⟨_,_,o,j⟩|⟨_,_,⟨f,xs,g,args,wl,x,m,_,k,v,r,s,t,u,c4,n,_⟩|⟨l,k⟩⟩
 ·rw[o,j];exact⟨λ_ _=>rfl,λ_=>rfl,lR _,λ_=>rfl,λ_ _=>rfl⟩
 ·rw[k];refine⟨λc a=>?_,λa=>(by cases a),by omega,λd=>(by rw[m]at d;simp[Ba.kind]at d),λd=>(by rw[m]at d;simp[Ba.kind]at d)⟩;simp only[FT.W,Bool.or_eq_false_iff,decide_eq_false_iff_not,not_le]at a;have q:c∉wl:=λhm=>by rw[List.contains_iff_mem.2 hm]at a;cases a.1
  rw[c4 c];by_cases e:c∈x
  ·rw[iP e]
  rw[iN e];exact n c q a.2 e
 obtain⟨_,_,j⟩:=mW (m2:=M i) (λ_ _=>rfl) (λ_ _=>rfl) l;rw[k];refine⟨λc a=>j.TX c (λhm=>?_),λ_=>j.n1,Nat.le_of_eq j.n1.symm,λd=>by rw[(Zx9 d).1,(Zx9 (id:=base+i) d).2],λd c=>by rw[Yhc d];rfl⟩;simp only[FT.W]at a;rw[List.contains_iff_mem.2 hm]at a;cases a
theorem qI(h:Trace P base as t0 m0 T M V F):∀i,i<=as.length->BT as t0 m0 M V F (λj=>decide (j<i)) (T i) (M i)
 |0,_=>by
  rw[h.t0,h.m0];exact Xs yI λj _=>by simp
 |i+1,hi=>by
  have l:=qI h i (by omega);have e:as[i]?=some as[i]:=gE (by omega);obtain⟨g,k,_⟩:=fL h e;rw[(h.step i _ e).1];refine Xs (Zyw l e (λj c b a=>by simp at a;omega) (λj c b _ a=>by simp at a;omega) (λj b _ a=>by simp at a;omega) g (λ_ _=>rfl) (λ_=>rfl) k) λj _=>?_;by_cases d:j=i
  ·subst d;simp
  have:(decide (j<i+1))=decide (j<i):=by
   by_cases f:j<i
   ·simp[f,show j<i+1 by omega]
   simp[f,show ¬j<i+1 by omega]
  simp[d,this]
theorem Zwc(h:Trace P base as t0 m0 T M V F):∀i,i<=as.length->m0.next<=(M i).next
 |0,_=>by rw[h.m0];exact lR _
 |i+1,hi=>by
  have b:as[i]?=some as[i]:=gE (by omega);obtain⟨_,_,a,_⟩:=fL h b;exact le_trans (Zwc h i (by omega)) a
theorem Z5x(h:Trace P base as t0 m0 T M V F){D:Nat->Bool}{t:List Aa}{m:Mem}(b:BT as t0 m0 M V F D t m):m0.next<=m.next:=by
 rw[b.next];split
 ·rename_i j a;exact Zwc h (j+1) (Zx7 a)
 exact lR _
theorem Yiu{D:Nat->Bool}{t:List Aa}{m:Mem}{i:Nat}{b:Ag}(n:BT as t0 m0 M V F D t m)(l:BT as t0 m0 M V F (λj=>decide (j<i)) (T i) (M i))(o:D i=false)
 (v:∀j c,j≠i->D j≠decide (j<i)->as[j]?=some c -> ∀d,c.dst=some d->d∉b.looks)
 (hm:∀j c,j<as.length->j≠i->D j≠decide (j<i)->((F i).R c=true\/(F i).W c=true)->(F j).W c=false)
 (u:∀j,j<as.length->j≠i->D j≠decide (j<i)->(F i).Dv=true->(F j).Dv=false) :
 (∀x,x∈b.looks->t.getD x Ai=(T i).getD x Ai)/\(∀c,(F i).R c=true\/(F i).W c=true->m.get c=(M i).get c)/\((F i).Dv=true->m.next=(M i).next):=by
 refine⟨λx w=>?_,λc s=>?_,λr=>?_⟩
 ·have:t[x]?=(T i)[x]?:=by
   rcases lG x t0.length with k|h
   ·rw[n.tmp x k,l.tmp x k];rw[Qm (q:=λj=>decide (j<i)&&OQ as x j) as.length λj g=>?_];by_cases a:j=i
    ·subst a;simp[o]
    by_cases f:D j=decide (j<i)
    ·rw[f]
    have:OQ as x j=false:=by
     simp only[OQ,gE g];cases p:(as[j]).dst with
     |none=>rfl
     |some d=>
      have:=v j _ a f (gE g) d p;have:d≠x:=λe=>this (e ▸ w);simp[this]
    simp[this]
   rw[getElem?_eq_none (by rw[n.len];exact h),getElem?_eq_none (by rw[l.len];exact h)]
  simp only[getD,this]
 ·rw[n.mem c,l.mem c];rw[Qm (q:=λj=>decide (j<i)&&(F j).W c) as.length λj g=>?_];by_cases a:j=i
  ·subst a;simp[o]
  by_cases f:D j=decide (j<i)
  ·rw[f]
  simp[hm j c g a f s]
 rw[n.next,l.next];rw[Qm (q:=λj=>decide (j<i)&&(F j).Dv) as.length λj g=>?_];by_cases a:j=i
 ·subst a;simp[o]
 by_cases f:D j=decide (j<i)
 ·rw[f]
 simp[u j g a f r]
end
theorem qd{α d:Type}(f:List d->α->d):∀(l:List α) (a:List d),(l.foldl (λa o=>a++[f a o]) a).length=a.length+l.length /\
 (∀i,i<a.length->(l.foldl (λa o=>a++[f a o]) a)[i]?=a[i]?) /\
 ∀i o,l[i]?=some o->(l.foldl (λa o=>a++[f a o]) a)[a.length+i]?=some (f ((l.foldl (λa o=>a++[f a o]) a).take (a.length+i)) o)
 |[],a=>⟨by simp,λ_ _=>rfl,λi o h=>by simp at h⟩
 |x::l,a=>by
  obtain⟨e,b,g⟩:=qd f l (a++[f a x]);simp only[List.foldl_cons];simp only[lA,lC,List.length_nil,zero_add]at e b g;refine⟨by rw[e,lC];omega,λi hi=>by rw[b i (by omega),List.getElem?_append_left hi],λi o c=>?_⟩;cases i with
  |zero=>
   simp only[getElem?_cons_zero,oI]at c;subst c;rw[Nat.add_zero,b _ (by omega)];have:(l.foldl (λa o=>a++[f a o]) (a++[f a x])).take a.length=a:=by
    apply ext_getElem?;intro k;rw[List.getElem?_take];split
    ·rename_i j;rw[b k (by omega),List.getElem?_append_left j]
    rename_i j;rw[getElem?_eq_none (by omega)]
   rw[this];simp
  |succ i=>
   simp only[getElem?_cons_succ]at c;have:=g i o c;rw[show a.length+1+i=a.length+(i+1) by omega]at this;exact this
theorem Yik{ops:List Oper}{i j:Nat}{o:Oper}(k:ops[i]?=some o)(c:j∈(Lq ops).getD i []):∃e,e∈o.after.toList/\Region.binds .any e=true/\(e.on=j\/j∈(Lq ops).getD e.on []):=by
 unfold Lq at c ⊢;obtain⟨l,_,g⟩:=qd (λb (o:Oper)=>QM [] ((o.after.toList.filter (Region.binds .any)).flatMap λe=>e.on::b.getD e.on [])) ops [];have h:=g i o k;simp only[List.length_nil,zero_add]at h;generalize m:ops.foldl (λb o=>b++[QM [] ((o.after.toList.filter (Region.binds .any)).flatMap λe=>e.on::b.getD e.on [])]) []=L at *;rw[getD,h]at c;simp only[getD_some,iO,List.not_mem_nil,false_or,List.mem_flatMap,mem_filter,mC]at c;obtain⟨e,⟨d,f⟩,a⟩:=c;refine⟨e,d,f,?_⟩;rcases a with a|a
 ·exact .inl a.symm
 refine .inr ?_;simp only[getD]at a ⊢;rw[List.getElem?_take]at a;split at a
 ·exact a
 simp at a
theorem Zzs{as:List Ag}{Br:List (List Nat)}:∀(l:List Ag) (k i:Nat),(GG as Br k l)[i]?=(l[i]?).map λa=>⟨a.dst,a.op,a.guard,gD as Br (k+i) a.op⟩
 |[],k,i=>by simp[GG]
 |a::l,k,i=>by
  cases i with
  |zero=>simp[GG]
  |succ i=>
   simp only[GG,getElem?_cons_succ];rw[Zzs l (k+1) i,show k+1+i=k+(i+1) by omega]
theorem qw{as:List Ag}{Br:List (List Nat)}:∀(l:List Ag) (k:Nat),(GG as Br k l).length=l.length
 |[],_=>rfl
 |_::l,k=>by simp[GG,qw l (k+1)]
theorem nU{ops:Array Oper}{listed:Array Bool}(k:listed.size=ops.size){i:Nat}:i∈Region.ready .any ops listed ↔
 i<ops.size/\listed.getD i false=false /\ ∀o,ops[i]?=some o -> ∀e,e∈o.after.toList->Region.binds .any e=true->listed.getD e.on false=true:=by
 unfold Region.ready;rw[mem_filter,mR];constructor
 ·rintro⟨b,c⟩;have j:i<listed.size:=by rw[k];exact b
  have d:ops[i]?=some ops[i]:=Array.getElem?_eq_getElem b;rw[d]at c;simp only[map_some,getD_some,bA,not_eq_true',Array.all_eq_true',or_eq_true]at c;refine⟨b,by simpa[Array.getD,j]using c.1,λo a e g f=>?_⟩;rw[d]at a;injection a with a;subst a
  rcases c.2 e (by simpa using g)with h|h
  ·rw[f]at h;cases h
  exact h
 rintro⟨b,c,l⟩;have j:i<listed.size:=by rw[k];exact b
 have d:ops[i]?=some ops[i]:=Array.getElem?_eq_getElem b;refine⟨b,?_⟩;rw[d];simp only[map_some,getD_some,bA,not_eq_true',Array.all_eq_true',or_eq_true];refine⟨by simpa[Array.getD,j]using c,λe g=>?_⟩;cases f:Region.binds .any e with
 |false=>exact .inl rfl
 |true=>exact .inr (l _ d e (by simpa using g) f)
theorem Z75{ops:Array Oper}{listed:Array Bool}(h:listed.size=ops.size)(a:∀(i:Nat) (o:Oper),ops[i]?=some o -> ∀e,e∈o.after.toList->Region.binds .any e=true->e.on<i)
 (g:Region.ready .any ops listed=[]):∀i,i<ops.size->listed.getD i false=true:=by
 intro i;induction i using Nat.strongRecOn with
 |ind i j=>
  intro hi;cases f:listed.getD i false with
  |true=>rfl
  |false=>
   have:i∈Region.ready .any ops listed:=(nU h).2 ⟨hi,f,λo d e c b=>j e.on (a i o d e c b) (by have:=a i o d e c b;omega)⟩;rw[g]at this;simp at this
theorem JC{listed:Array Bool}{i:Nat}(a:i<listed.size)(j:Nat):(listed.setIfInBounds i true).getD j false=if i=j then true else listed.getD j false:=by
 rw[Array.getD_eq_getD_getElem?,Array.getD_eq_getD_getElem?,Array.getElem?_setIfInBounds];by_cases h:i=j
 ·subst h;simp[a]
 simp[h]
theorem Z84{listed:Array Bool}{n i:Nat}(hi:i<n)(b:i<listed.size)(d:listed.getD i false=false) :
 ((range n).filter λj=>!(listed.setIfInBounds i true).getD j false).length<((range n).filter λj=>!listed.getD j false).length:=by
 have c:((range n).filter λj=>!(listed.setIfInBounds i true).getD j false)=(((range n).filter λj=>!listed.getD j false).filter λj=>!(listed.setIfInBounds i true).getD j false):=by
  rw[List.filter_filter];refine List.filter_congr λj _=>?_;rw[JC b];by_cases a:i=j
  ·subst a;simp
  simp[a]
 rw[c];refine List.length_filter_lt_length_iff_exists.2 ⟨i,?_,?_⟩
 ·rw[mem_filter,mR];exact⟨hi,by simp[d]⟩
 rw[JC b];simp
section
variable {P:Program} {base:Nat} {as:List Ag} {t0:List Aa} {m0:Mem} {T:Nat→List Aa} {M:Nat→Mem} {V:Nat→Aa} {F:Nat→FT} {ops:Array Oper} {Br:List (List Nat)}
structure Qg (as:List Ag) (F:Nat→FT) (Br:List (List Nat)):Prop where
 slots:∀ i j x y,j<i→as[i]? = some x→as[j]? = some y→j∉Br.getD i []→(∀ d,y.dst=some d→d∉x.looks∧x.dst≠some d) ∧ ∀ d,x.dst=some d→d∉y.looks
 mem:∀ i j x y,j<i→as[i]? = some x→as[j]? = some y→j∉Br.getD i []→(∀ c,(F j).W c=true→(F i).R c=false∧(F i).W c=false)∧(∀ c,(F j).R c=true→(F i).W c=false)∧((F j).Dv=true→(F i).Dv=false)
theorem Zyh{b:Ag}{x:Ah}{t a:List Aa}(h:∀s,s∈b.looks->t.getD s Ai=a.getD s Ai)(c:x∈b.op.AS):ev t x=ev a x:=by
 cases x with
 |tmp i=>
  simp only[ev];refine h i ?_;unfold Ag.looks;exact List.mem_append_left _ (List.mem_filterMap.2 ⟨_,c,rfl⟩)
 |const v=>rfl
 |fn f=>rfl
theorem qJ{b:Ag}{t a:List Aa}(h:∀s,s∈b.looks->t.getD s Ai=a.getD s Ai):P7 t b.guard=P7 a b.guard:=by
 unfold P7;cases e:b.guard with
 |none=>rfl
 |some c=>
  obtain⟨d,w⟩:=c;simp only;rw[h d (by unfold Ag.looks;rw[e];simp)]
theorem Z83(W:Aq)(n0:Nat)(Q:Exit->AY->Prop)(DY:Ap)(Dd:AI)(bv:n0<=base)(be:as.length=ops.size)
 (bb:∀(i:Nat) (o:Oper) (b:Ag),ops[i]?=some o->as[i]?=some b->b.dst=o.dst/\b.op=N8 P o/\IU ops o.guard=some b.guard)
 (br:∀(i:Nat) (o:Oper),ops[i]?=some o -> ∀e,e∈o.after.toList->Region.binds .any e=true->e.on<i)
 (ba:∀(i j:Nat) (o:Oper),ops[i]?=some o->j∈Br.getD i [] -> ∃e,e∈o.after.toList/\Region.binds .any e=true/\(e.on=j\/j∈Br.getD e.on []))
 (aa:Trace P base as t0 m0 T M V F) (S:Qg as F Br) (hQ:Q .normal ⟨T as.length,M as.length⟩) (DB:base+as.length<=m0.next) :
 ∀(fuel:Nat) (listed:Array Bool) (t:List Aa) (m:Mem) (Φ:Ap) (ρ:AI) (a:Act) (w:World),listed.size=ops.size ->
  ((range ops.size).filter λj=>!listed.getD j false).length<=fuel->(∀i j,listed.getD i false=true->j∈Br.getD i []->listed.getD j false=true) ->
  BT as t0 m0 M V F (λj=>listed.getD j false) t m->Rel W Φ ρ m w->RL Φ ρ t a.tmps->a.defers=[]->Ext DY Dd Φ ρ->Bq n0 Dd ρ ->
  (∀i,i<as.length->listed.getD i false=false->ρ (base+i)=none)->wpAny P .any ops (lift W DY Dd n0 Q) fuel listed a w:=by
 have au:∀(listed:Array Bool) (t:List Aa) (m:Mem) (Φ:Ap) (ρ:AI) (a:Act) (w:World),listed.size=ops.size->Region.ready .any ops listed=[] ->
  BT as t0 m0 M V F (λj=>listed.getD j false) t m->Rel W Φ ρ m w->RL Φ ρ t a.tmps->a.defers=[]->Ext DY Dd Φ ρ->Bq n0 Dd ρ->lift W DY Dd n0 Q .normal a w:=by
  intro listed t m Φ ρ a w hs hr A q Z hd he hk;have av:=Z75 hs br hr;have B:=Xs A (D':=λj=>decide (j<as.length)) λj G=>by rw[av j (by rw[<-be];exact G)];simp[G]
  have E:=qI aa as.length (lR _);have e1:t=T as.length:=by
   apply ext_getElem?;intro x;rcases lG x t0.length with D|D
   ·rw[B.tmp x D,E.tmp x D]
   rw[getElem?_eq_none (by rw[B.len];exact D),getElem?_eq_none (by rw[E.len];exact D)]
  have e2:m=M as.length:=Mem.ext' (λc=>by rw[B.mem c,E.mem c]) (by rw[B.next,E.next]);subst e1;subst e2;have:=Z5x aa E;exact⟨_,Φ,ρ,he,hk,by show n0<=(M as.length).next;omega,q,Z,hd,hQ⟩
 intro fuel;induction fuel with
 |zero=>
  intro listed t m Φ ρ a w hs k Ch A q Z hd he hk al;have H:Region.ready .any ops listed=[]:=by
   cases hr:Region.ready .any ops listed with
   |nil=>rfl
   |cons i r=>
    exfalso;obtain⟨B,E,_⟩:=(nU hs).1 (by rw[hr];simp:i∈Region.ready .any ops listed);have:i∈(range ops.size).filter λj=>!listed.getD j false:=List.mem_filter.2 ⟨mR.2 B,by simp[E]⟩;have:=List.length_pos_of_mem this;omega
  exact⟨H,au listed t m Φ ρ a w hs H A q Z hd he hk⟩
 |succ fuel ih=>
  intro listed t m Φ ρ a w hs k Ch A q Z hd he hk al;refine⟨λH=>au listed t m Φ ρ a w hs H A q Z hd he hk,λi hi=>?_⟩;obtain⟨ac,z,bn⟩:=(nU hs).1 hi;have a0:i<as.length:=by rw[be];exact ac
  have ho:ops[i]?=some ops[i]:=Array.getElem?_eq_getElem ac;have hb:as[i]?=some as[i]:=gE a0;generalize ops[i]=o at ho;generalize as[i]=b at hb;obtain⟨e1,e2,e3⟩:=bb i o b ho hb;have U:∀j,j∈Br.getD i []->listed.getD j false=true:=by
   intro j G;obtain⟨e,bi,bj,ak⟩:=ba i j o ho G;have a7:=bn o ho e bi bj;rcases ak with rfl|ak
   ·exact a7
   exact Ch _ _ a7 ak
  have hl:∀(j:Nat) (c:Ag),j≠i->listed.getD j false≠decide (j<i)->as[j]?=some c -> ∀d,c.dst=some d->d∉b.looks:=by
   intro j c s I ab d ay;rcases Nat.lt_or_gt_of_ne s with p|am
   ·have l:listed.getD j false=false:=by
     cases K:listed.getD j false with
     |false=>rfl
     |true=>rw[K]at I;simp[p]at I
    exact((S.slots i j b c p hb ab (λhp=>by rw[U j hp]at l;cases l)).1 d ay).1
   have l:listed.getD j false=true:=by
    cases K:listed.getD j false with
    |true=>rfl
    |false=>rw[K]at I;simp[show ¬j<i by omega]at I
   exact(S.slots j i c b am ab hb (λhp=>by rw[Ch j i l hp]at z;cases z)).2 d ay
  have bf:∀(j:Nat),j<as.length->j≠i->listed.getD j false≠decide (j<i) ->
   (∀c,(F j).W c=true->(F i).R c=false/\(F i).W c=false)/\((F j).Dv=true->(F i).Dv=false):=by
   intro j G s I;have hy:as[j]?=some as[j]:=gE G;rcases Nat.lt_or_gt_of_ne s with p|am
   ·have l:listed.getD j false=false:=by
     cases K:listed.getD j false with
     |false=>rfl
     |true=>rw[K]at I;simp[p]at I
    obtain⟨B,_,h3⟩:=S.mem i j b _ p hb hy (λhp=>by rw[U j hp]at l;cases l);exact⟨B,h3⟩
   have l:listed.getD j false=true:=by
    cases K:listed.getD j false with
    |true=>rfl
    |false=>rw[K]at I;simp[show ¬j<i by omega]at I
   obtain⟨B,E,h3⟩:=S.mem j i _ b am hy hb (λhp=>by rw[Ch j i l hp]at z;cases z);refine⟨λc k=>⟨?_,?_⟩,λk=>?_⟩
   ·cases K:(F i).R c with
    |false=>rfl
    |true=>rw[E c K]at k;cases k
   ·cases K:(F i).W c with
    |false=>rfl
    |true=>rw[(B c K).2]at k;cases k
   cases K:(F i).Dv with
   |false=>rfl
   |true=>rw[h3 K]at k;cases k
  have hm:∀(j c:Nat),j<as.length->j≠i->listed.getD j false≠decide (j<i)->((F i).R c=true\/(F i).W c=true)->(F j).W c=false:=by
   intro j c G s I Jm;cases hw:(F j).W c with
   |false=>rfl
   |true=>
    obtain⟨B,E⟩:=(bf j G s I).1 c hw;rcases Jm with h|h
    ·rw[B]at h;cases h
    rw[E]at h;cases h
  have CC:∀(j:Nat),j<as.length->j≠i->listed.getD j false≠decide (j<i)->(F i).Dv=true->(F j).Dv=false:=by
   intro j G s I k;cases hw:(F j).Dv with
   |false=>rfl
   |true=>rw[(bf j G s I).2 hw]at k;cases k
  have bd:=qI aa i (by omega);obtain⟨N,ae,bs⟩:=Yiu A bd z hl hm CC;have ag:∀(j:Nat) (c:Ag),i<j->listed.getD j false=true->as[j]?=some c -> ∀d,b.dst=some d->c.dst≠some d:=λj c an l ab d bh=>
   ((S.slots j i c b an ab hb (λhp=>by rw[Ch j i l hp]at z;cases z)).1 d bh).2
  have ah:∀(j c:Nat),i<j->j<as.length->listed.getD j false=true->(F i).W c=true->(F j).W c=false:=λj c an G l Jm=>hm j c G (by omega) (by rw[l];simp;omega) (.inr Jm);have ai:∀(j:Nat),i<j->j<as.length->listed.getD j false=true->(F i).Dv=true->(F j).Dv=false:=λj an G l Jm=>CC j G (by omega) (by rw[l];simp;omega) Jm;have bw:=Z5x aa A;obtain⟨_,aq⟩:=aa.step i b hb;have a2:i<listed.size:=by rw[hs];exact ac
  have Y:∀j,(listed.setIfInBounds i true).getD j false=(listed.getD j false||j == i):=by
   intro j;rw[JC a2];by_cases s:i=j
   ·subst s;simp
   have:(j == i)=false:=beq_false_of_ne λe=>s e.symm;simp[s,this]
  have ax:((range ops.size).filter λj=>!(listed.setIfInBounds i true).getD j false).length<=fuel:=by
   have:=Z84 (listed:=listed) (n:=ops.size) ac a2 z;omega
  have aw:∀L j,(listed.setIfInBounds i true).getD L false=true->j∈Br.getD L []->(listed.setIfInBounds i true).getD j false=true:=by
   intro L j B E;rw[Y]at B ⊢;by_cases a1:L=i
   ·subst a1;rw[U j E];rfl
   rw[beq_false_of_ne a1,Bool.or_false]at B;rw[Ch L j B E];rfl
  have az:∀(ρ':AI),(∀c,c<m.next->c≠base+i->ρ c=none->ρ' c=none) -> ∀L,L<as.length->(listed.setIfInBounds i true).getD L false=false->ρ' (base+L)=none:=by
   intro ρ' af L bm ad;rw[Y]at ad;have ao:L≠i:=λe=>by subst e;simp at ad
   rw[beq_false_of_ne ao,Bool.or_false]at ad;exact af _ (by omega) (by omega) (al L bm ad)
  have next:∀(m':Mem) (Am:Ap) (ρ':AI) (u:Value) (w':World),Ext Φ ρ Am ρ'->(∀c,c<m.next->c≠base+i->ρ c=none->ρ' c=none)->Rel W Am ρ' m' w'->R Am ρ' (V i) u ->
   (∀c,(F i).W c=false->m'.get c=m.get c)->(∀c,(F i).W c=true->m'.get c=(M (i+1)).get c)->((F i).Dv=true->m'.next=(M (i+1)).next)->((F i).Dv=false->m'.next=m.next) ->
   wpAny P .any ops (lift W DY Dd n0 Q) fuel (listed.setIfInBounds i true) (a.put o.dst u) w':=by
   intro m' Am ρ' u w' hE af X D a9 bq a6 a5;refine ih (listed.setIfInBounds i true) (put t b.dst (V i)) m' Am ρ' _ w' (by simpa using hs) ax aw ?_ X (by rw[<-e1];exact(Z.ext hE).put b.dst D) (by rw[KZ];exact hd) (he.trans hE)
    (λc k h0=>af c (by omega) (by omega) (hk c k h0)) (az ρ' af)
   exact Xs (Zyw A hb ag ah ai a9 bq a6 a5) λj _=>(Y j).symm
  have a3:=al i a0 z;have p:base+i<m.next:=by omega
  unfold wpOp;rw[ho];simp only;rcases aq with⟨hw,hV,hM,J⟩|⟨hw,_,⟨f,xs,g,args,wl,x,a8,Bn,J,m3,bp,c1,c2,c3,c4,c5,hA⟩|⟨bt,J⟩⟩
  ·rw[OR Z e3 (by rw[qJ N];exact hw),iN (by simp)];exact next m Φ ρ undef w (.refl _ _) (λ_ _ _ h=>h) q (by rw[hV];exact MI _ _) (λ_ _=>rfl) (λc k=>by rw[J]at k;cases k) (λk=>by rw[J]at k;cases k) (λ_=>rfl)
  ·rw[OR Z e3 (by rw[qJ N];exact hw),iP rfl];refine .inl ?_;have aj:callee t f xs=some (g,args):=by
    rw[Yen (t2:=T i) λx D=>Zyh N (by rw[a8];exact D)];exact Bn
   have a4:m.next=(M i).next:=bs (by rw[J];rfl);have Gg:∀c,c∉x->m.get c=(M i).get c:=λc k=>ae c (.inl (by rw[J];simp[FT.R,k]));have bg:=Ykl bp c1 c2 hA Gg a4;refine nG Z q a3 p o (by rw[<-e2];exact a8) aj bg λAm ρ' y m' u w' hE O X D bu hK=>?_;obtain⟨rfl,rfl⟩:=hK;refine next _ Am ρ' u w' hE O X D (λc k=>?_) (λc k=>?_) (λ_=>c3.symm) (λk=>by rw[J]at k;cases k)
   ·simp only;by_cases v:c∈x
    ·rw[iP v]
    rw[iN v,Gg c v];rw[J]at k;simp only[FT.W,Bool.or_eq_false_iff,decide_eq_false_iff_not,not_le]at k;exact c5 c (λhm=>by rw[List.contains_iff_mem.2 hm]at k;cases k.1) k.2 v
   simp only;rw[c4 c];by_cases v:c∈x
   ·rw[iP v,iP v];exact ae c (.inr k)
   rw[iN v,iN v]
  rw[OR Z e3 (by rw[qJ N];exact hw),iP rfl];refine .inl ?_;have bl:∀x,x∈b.op.AS->ev t x=ev (T i) x:=λx D=>Zyh N D;obtain⟨m2,bc,C⟩:=mW (m2:=m) (λc k=>ae c (.inl (by rw[J];simp[FT.R,k]))) (λc k=>ae c (.inr (by rw[J];simp[FT.W,k]))) bt;rw[<-Yam bl,e2]at bc;refine dN Z q a3 p o bc λAm ρ' u w' hE O X D=>?_;refine next m2 Am ρ' u w' hE (λc _ ao h0=>O c ao h0) X D (λc k=>C.TY c λhm=>?_) (λc k=>C.ins c ?_) (λk=>by rw[J]at k;cases k) (λ_=>C.n2)
  ·rw[J]at k;simp only[FT.W]at k;rw[List.contains_iff_mem.2 hm]at k;cases k
  rw[J]at k;simp only[FT.W,contains_iff_mem]at k;exact k
end
section
variable {P:Program}
theorem Z6r{ops:Array Oper}{as:List Ag}{Br:List (List Nat)}(h:VH ops as Br=true) :
 (∀(i:Nat) (o:Oper),ops[i]?=some o -> ∀e,e∈o.after.toList->Region.binds .any e=true->e.on<i) /\
 ∀(i j:Nat) (x y:Ag),j<i->i<ops.size->as[i]?=some x->as[j]?=some y->j∉Br.getD i []->y.apart x=true:=by
 unfold VH at h;simp only[bA,List.all_eq_true,mR]at h;obtain⟨c,d⟩:=h;refine⟨λi o b e g f=>?_,λi j x y a hi l m k=>?_⟩
 ·have hi:i<ops.size:=(Array.getElem?_eq_some_iff.1 b).1;have:=c i hi;rw[b]at this;simp only[List.all_eq_true,or_eq_true,not_eq_true',decide_eq_true_eq]at this;rcases this e g with h|h
  ·rw[f]at h;cases h
  exact h
 have:=d i hi j a;simp only[or_eq_true,contains_iff_mem]at this;rcases this with h|h
 ·exact absurd h k
 rw[l,m]at h;exact h
theorem Yki{x y:Ag}(h:x.apart y=true):(∀d,x.dst=some d->d∉y.looks/\y.dst≠some d) /\ ∀d,y.dst=some d->d∉x.looks:=by
 unfold Ag.apart at h;simp only[bA]at h;obtain⟨a,b⟩:=h;refine⟨λd c=>?_,λd c=>?_⟩
 ·rw[c]at a;simp only[bA,not_eq_true',bne_iff_ne]at a;exact⟨λhm=>by rw[List.contains_iff_mem.2 hm]at a;exact absurd a.1 (by simp),a.2⟩
 rw[c]at b;simp only[not_eq_true']at b;exact λhm=>by rw[List.contains_iff_mem.2 hm]at b;cases b
theorem mZ(hm:P.follows .mixedOrders=true){id:Nat}{ops:Array Oper}{Q:Exit->AY->Prop}{σ:AY}(h:CP P (Y1 P (.region id ops true)) Q σ):KT P (.region id ops true) Q σ:=by
 intro W Φ ρ a w hr ht hd;simp only[Y1]at h;cases g:D7 P ops ops.toList with
 |none=>simp[g,CP]at h
 |some k=>
  simp only[g]at h;split at h
  ·rename_i Z;simp only[CP]at h;obtain⟨h1,h2⟩:=VO P ops _ _ g;obtain⟨X,L⟩:=Z6r Z;generalize E:GG k (Lq ops.toList) 0 k=as at h;have C:as.length=ops.size:=by rw[<-E,qw,h1];simp
   have d:∀(i:Nat) (b:Ag),as[i]?=some b -> ∃b0,k[i]?=some b0/\b=⟨b0.dst,b0.op,b0.guard,gD k (Lq ops.toList) i b0.op⟩:=by
    intro i b s;rw[<-E,Zzs,zero_add]at s;cases h0:k[i]? with
    |none=>rw[h0]at s;cases s
    |some b0=>
     rw[h0]at s;injection s with s
     exact⟨b0,rfl,s.symm⟩
   obtain⟨T,M,V,F,z,hQ⟩:=Yf2 h;have U:Qg as F (Lq ops.toList):=by
    refine⟨λi j x y u D K hp=>?_,λi j x y u D K hp=>?_⟩
    ·obtain⟨x0,p,rfl⟩:=d i x D;obtain⟨y0,q,rfl⟩:=d j y K;have hi:i<ops.size:=by rw[<-C];exact(gS.1 D).1
     exact Yki (L i j x0 y0 u hi p q hp)
    obtain⟨_,_,_,S,H⟩:=fL z K;obtain⟨_,_,_,O,B⟩:=fL z D;have A:F j=.ops [] []->(∀c,(F j).W c=true->(F i).R c=false/\(F i).W c=false)/\(∀c,(F j).R c=true->(F i).W c=false)/\((F j).Dv=true->(F i).Dv=false):=by
     intro e;rw[e];exact⟨λc g=>(by cases g),λc g=>(by cases g),λg=>(by cases g)⟩
    have f:F i=.ops [] []->(∀c,(F j).W c=true->(F i).R c=false/\(F i).W c=false)/\(∀c,(F j).R c=true->(F i).W c=false)/\((F j).Dv=true->(F i).Dv=false):=by
     intro e;rw[e];exact⟨λc _=>⟨rfl,rfl⟩,λc _=>rfl,λ_=>rfl⟩
    by_cases G:y.op.kind<=1/\x.op.kind<=1
    ·refine⟨λc g=>?_,λc _=>B G.2 c,λg=>?_⟩
     ·rw[H G.1 c]at g;cases g
     cases v:(F i).Dv with
     |false=>rfl
     |true=>
      cases J:F i with
      |ops w r=>rw[J]at v;cases v
      |call wl xx nx=>
       have:=B G.2 nx;rw[J]at this;simp[FT.W]at this
    by_cases q:y.op.kind=0
    ·exact A (S q)
    by_cases p:x.op.kind=0
    ·exact f (O p)
    obtain⟨_,hs⟩:=z.step i x D;rcases hs with⟨_,_,_,J⟩|⟨_,aa,_⟩
    ·exact f J
    refine FT.Iz (aa j ?_ u);obtain⟨x1,ac,rfl⟩:=d i x D;obtain⟨y1,ab,rfl⟩:=d j y K;simp only at G q p ⊢;unfold gD;rw[mem_filter,mR];refine⟨u,?_⟩;rw[ab];simp only[bA,not_eq_true',bne_iff_ne,ne_eq];refine⟨?_,⟨?_,q⟩,p⟩
    ·cases v:((Lq ops.toList).getD i []).contains j with
     |false=>rfl
     |true=>exact absurd (List.contains_iff_mem.1 v) hp
    cases v:(decide (y1.op.kind<=1)&&decide (x1.op.kind<=1))with
    |false=>rfl
    |true=>simp at v;exact absurd v G
   have I:∀(i:Nat) (o:Oper) (b:Ag),ops[i]?=some o->as[i]?=some b->b.dst=o.dst/\b.op=N8 P o/\IU ops o.guard=some b.guard:=by
    intro i o b Y s;obtain⟨b0,N,rfl⟩:=d i b s;exact h2 i o b0 (by simpa using Y) N
   refine wp_region_any hm (Z83 W σ.m.next Q Φ ρ (lR _) C I X (λi j o Y hj=>Yik (by simpa using Y) hj) z U hQ (by simp) ops.size (Array.replicate ops.size false) σ.t _ Φ ρ a _
    (by simp) ?_ ?_ ?_ ((hr.at_ (n:=σ.m.next+as.length) (by omega)).drew) ht hd (.refl _ _) (.refl _ _) ?_)
   ·have:=List.length_filter_le (λj=>!(Array.replicate ops.size false).getD j false) (range ops.size);simpa using this
   ·intro i j hi;simp[Array.getD]at hi
   ·refine Xs yI λj _=>?_;simp[Array.getD]
   intro j _ _;cases v:ρ (σ.m.next+j)with
   |none=>rfl
   |some l=>have:=hr.fresh _ _ v;omega
  simp[CP]at h
theorem St(hm:P.follows .mixedOrders=true)(c:Code)(Q:Exit->AY->Prop)(σ:AY)(h:CP P (Y1 P c) Q σ):KT P c Q σ:=
 Yer (λ_ _ a _ _ h=>match a,h with|false,h=>vn h|true,h=>mZ hm h) c Q σ h
end
section
variable {P:Program}
def Jg(t:List Aa)(m:Mem):Nat×Option (Option Nat)→Option Aa
 | (i,none)=>some (t.getD i Ai)
 | (i,some n)=>Pu m n (t.getD i Ai)
def HH(t:List Aa)(m:Mem):List (Nat×Option (Option Nat))→Option (List Aa)
 | []=>some []
 | x :: r=>match Jg t m x,HH t m r with
  | some y,some ys=>some (y :: ys)
  | _,_=>none
def I6(t:List Aa)(m:Mem):List (Nat×Option (Option Nat))→Option Aa
 | [x]=>Jg t m x
 | xs=>match HH t m xs with
  | some ys=>some (.tuple ys)
  | none=>none
def FX(rs:List (Nat×Option (Option Nat)))(K:Aa→Mem→Prop):Exit→AY→Prop
 | .normal,σ=>match I6 σ.t σ.m rs with
  | some r=>K r σ.m
  | none=>False
 | .ret,σ=>match I6 σ.t σ.m rs with
  | some r=>K r σ.m
  | none=>False
 | _,_=>False
section
variable {W:Aq} {Φ:Ap} {ρ:AI} {w:World} {m:Mem} {t:List Aa} {vs:Array Value}
theorem Ye3(k:Rel W Φ ρ m w)(l:RL Φ ρ t vs){x:ResultVar}{y:Nat×Option (Option Nat)}(f:WO P x=some y){z:Aa}(d:Jg t m y=some z) :
 ∃u,(match x with | .tmp t=>pure (vs.getD t undef) | .cell a t=>do loadVar t (<-asAddr (vs.getD a undef)):Sem Value).run P w=.ok u w/\R Φ ρ z u:=by
 cases x with
 |tmp i=>
  simp only[WO,oI]at f;subst f;simp only[Jg,oI]at d;subst d;exact⟨_,rfl,l.get i⟩
 |cell a ty=>
  simp only[WO,mO]at f;obtain⟨n,q,rfl⟩:=f;simp only[Jg]at d;have h:=l.get a;obtain⟨u,g,p⟩:=Z6j k h q d;refine⟨u,?_,p⟩;unfold Pu at d;cases b:rowAt m (t.getD a Ai)with
  |none=>rw[b]at d;cases d
  |some s=>
   obtain⟨row,j⟩:=s;obtain⟨B,o,c,e,fz,r,v,_⟩:=kW k h b;simp only[r,Instr.loadAt,Instr.sureAddr,Sem.run_bind,Sem.run_pure,Result.andThen_ok,asAddr]at g ⊢;exact g
def XE(vs:Array Value)(x:ResultVar):Sem Value:=
 match x with
 | .tmp t=>pure (vs.getD t undef)
 | .cell a t=>do loadVar t (← asAddr (vs.getD a undef))
theorem wq(r:Rel W Φ ρ m w)(s:RL Φ ρ t vs):∀(xs:List ResultVar) (j:List (Nat×Option (Option Nat))) (f:List Aa),KG P xs=some j->HH t m j=some f ->
 ∃g:List Value,(xs.mapM (XE vs)).run P w=.ok g w/\g.length=f.length/\f.length=j.length /\ ∀(i:Nat) (z:Aa) (u:Value),f[i]?=some z->g[i]?=some u->R Φ ρ z u
 |[],j,f,b,c=>by
  simp only[KG,oI]at b;subst b;simp only[HH,oI]at c;subst c;exact⟨[],rfl,rfl,rfl,λi z u h=>by simp at h⟩
 |x::xs,j,f,b,c=>by
  simp only[KG]at b;cases o:WO P x with
  |none=>simp[o]at b
  |some y=>
   cases d:KG P xs with
   |none=>simp[o,d]at b
   |some k=>
    simp only[o,d,oI]at b;subst b;simp only[HH]at c;cases l:Jg t m y with
    |none=>simp[l]at c
    |some z=>
     cases e:HH t m k with
     |none=>simp[l,e]at c
     |some q=>
      simp only[l,e,oI]at c;subst c;obtain⟨u,v,A⟩:=Ye3 r s o l;obtain⟨g,B,C,D,E⟩:=wq r s xs k q d e;refine⟨u::g,?_,by simp[C],by simp[D],λi G F a n=>?_⟩
      ·rw[List.mapM_cons];have p:(XE vs x).run P w=.ok u w:=v;simp only[Sem.run_bind,p,B,Result.andThen_ok,Sem.run_pure]
      cases i with
      |zero=>
       simp only[getElem?_cons_zero,oI]at a n;subst a;subst n;exact A
      |succ i=>
       simp only[getElem?_cons_succ]at a n;exact E i G F a n
theorem QO(D:Rel W Φ ρ m w)(E:RL Φ ρ t vs){fn:Func}{n:List (Nat×Option (Option Nat))}{z:Aa}(p:KG P fn.results.toList=some n)(f:I6 t m n=some z) :
 ∃u,(results fn vs).run P w=.ok u w/\R Φ ρ z u:=by
 have o:∀c:List Value,(fn.results.toList.mapM (XE vs)).run P w=.ok c w->(results fn vs).run P w=.ok (if h:c.toArray.size=1 then c.toArray[0]else .tuple c.toArray) w:=by
  intro c h;have C:results fn vs=(do let c <-fn.results.mapM (XE vs);pure (if h:c.size=1 then c[0]else .tuple c):Sem Value):=by
   unfold results;have:(λx:ResultVar=>(match x with | .tmp t=>pure (vs.getD t undef) | .cell a t=>do loadVar t (<-asAddr (vs.getD a undef)):Sem Value))=XE vs:=by
    funext x;cases x<;>rfl
   rw[<-this];rfl
  rw[C,Array.mapM_eq_mapM_toList];simp only[Sem.run_bind,Sem.run_map,h,Result.andThen_ok,Sem.run_pure]
 have q:∃d,HH t m n=some d/\(z=match d with|[x]=>x|_=>.tuple d):=by
  unfold I6 at f;split at f
  ·rename_i x;exact⟨[z],by simp[HH,f],rfl⟩
  split at f<;>first|(cases f;done)|skip
  rename_i j _ d e;injection f with f
  refine⟨d,e,?_⟩;subst f;cases d with
  |nil=>rfl
  |cons a r=>
   cases r with
   |nil=>
    exfalso;have B:n.length=1:=by
     have:∀(l:List (Nat×Option (Option Nat))) (d:List Aa),HH t m l=some d->d.length=l.length:=by
      intro l;induction l with
      |nil=>intro d h;simp only[HH,oI]at h;subst h;rfl
      |cons x l G=>
       intro d h;simp only[HH]at h;split at h<;>first|(cases h;done)|skip
       rename_i y n s g;injection h with h;subst h
       simp[G _ g]
     simpa using (this _ _ e).symm
    cases n with
    |nil=>simp at B
    |cons y r=>cases r with
     |nil=>exact j y rfl
     |cons _ _=>simp at B
   |cons b r=>rfl
 obtain⟨d,e,k⟩:=q;obtain⟨c,s,g,H,A⟩:=wq D E _ _ d p e;refine⟨_,o c s,?_⟩;cases d with
 |nil=>
  have:c=[]:=by simpa using g
  subst this;subst k;exact .tuple [] _ rfl λi x v h=>by simp at h
 |cons I r=>
  cases r with
  |nil=>
   cases c with
   |nil=>simp at g
   |cons u r=>
    cases r with
    |cons _ _=>simp at g
    |nil=>
     subst k;exact A 0 _ u rfl rfl
  |cons J r=>
   subst k;have j:¬c.toArray.size=1:=by simp[g]
   rw[dif_neg j];exact .tuple _ _ (by simp[g]) λi x v p F=>A i x v p (by simpa using F)
end
theorem Yiv(hm:P.follows .mixedOrders=true){f:FuncId}{fn:Func}{s:AD}{args:List Aa}{m:Mem}{F:List Nat}{K:Aa->Mem->Prop}(H:P.funcs[f]?=some fn)(d:Bk P fn=some s)
 (h:CP P s.body (FX s.results K) ⟨args++replicate (s.ntmps-args.length) Ai,m⟩):Aw P f args m F K:=by
 unfold Bk at d;cases g:fn.body with
 |none=>simp[g]at d
 |some c=>
  cases z:KG P fn.results.toList with
  |none=>simp[g,z]at d
  |some E=>
   simp only[g,z]at d;split at d<;>first|(cases d;done)|skip
   rename_i k;injection d with d
   subst d;refine⟨⟨fn,H,by simpa using k,by rw[g];rfl⟩,λW Φ ρ vs w Y A BE=>?_⟩;have ht:RL Φ ρ (args++replicate (fn.ntmps-args.length) Ai) (vs++Array.replicate (fn.ntmps-vs.size) undef):=by
    refine⟨by simp[A.1],λi x v y q=>?_⟩;rw[getElem?_append]at y;rw[Array.getElem?_append,A.1]at q;split at y
    ·rename_i C;rw[iP C]at q;exact A.2 i x v y q
    rename_i B;rw[iN B]at q;have J:x=Ai:=by
     have:=gS.1 y;obtain⟨_,j⟩:=this;simpa using j.symm
    have L:v=undef:=by
     have:=Array.getElem?_eq_some_iff.1 q;obtain⟨_,j⟩:=this;simpa using j.symm
    subst J;subst L;exact MI _ _
   have Z:=St hm c (FX E K) ⟨_,m⟩ h W Φ ρ { tmps:=vs++Array.replicate (fn.ntmps-vs.size) undef,defers:=[] } w Y ht rfl;refine calls_of_wp H g (wp_mono Z λe a w' X=>?_);obtain⟨σ,o,ρ',Q,S,T,G,U,V,n⟩:=X;have p:(match I6 σ.t σ.m E with|some r=>K r σ.m|none=>False)->a.defers=[] /\ ∃v,(results fn a.tmps).run P w'=.ok v w' /\
    ∃I r m' o ρ',Ending.returned v=.returned I/\Ext Φ ρ o ρ'/\(∀b,b<m.next->b∉F->ρ b=none->ρ' b=none)/\Rel W o ρ' m' w'/\R o ρ' r I/\m.next<=m'.next/\K r m':=by
    intro j;cases D:I6 σ.t σ.m E with
    |none=>simp[D]at j
    |some r=>
     simp only[D]at j;obtain⟨u,M,N⟩:=QO G U z D;exact⟨V,u,M,u,r,σ.m,o,ρ',rfl,Q,λb g _ O=>S b g O,G,N,T,j⟩
   cases e with
   |normal=>exact p n
   |ret=>exact p n
   |exit i=>exact n.elim
   |goto l=>exact n.elim
   |panic ch=>exact n.elim
   |outgrown=>exact n.elim
theorem Aw.mono{f:FuncId}{args:List Aa}{m:Mem}{a:List Nat}{K K':Aa->Mem->Prop}(h:Aw P f args m a K)(q:∀r m',K r m'->K' r m'):Aw P f args m a K':=
 ⟨h.1,λW Φ ρ vs w s o c=>(h.2 W Φ ρ vs w s o c).mono λe w' p=>by
  obtain⟨v,r,m',b,ρ',d,g,i,j,k,l,n⟩:=p;exact⟨v,r,m',b,ρ',d,g,i,j,k,l,q _ _ n⟩⟩
end
abbrev RM:=Bool→List Ag→(AY→Prop)→AY→Prop
def S4(wr:RM)(sc:Bool):An→(Exit→AY→Prop)→AY→Prop
 | .skip,Q,σ=>Q .normal σ
 | .region d ops,Q,σ=>wr d ops (Q .normal) σ
 | .seq a b,Q,σ=>S4 wr sc a (XK (S4 wr sc b Q) Q) σ
 | .cond c a b,Q,σ=>match ev σ.t c with
  | .bool true=>S4 wr sc a Q σ
  | .bool false=>S4 wr sc b Q σ
  | _=>False
 | .block id c,Q,σ=>S4 wr sc c (KD id Q) σ
 | .loop c,Q,σ=>∃ (I:Nat→AY→Prop),(∃ n Ge,AY.Fm Ge σ∧I n Ge) ∧ ∀ n σ1,I n σ1→S4 wr sc c (XK (fun σ'=>∃ k Ge,k<n∧AY.Fm Ge σ'∧I k Ge) Q) σ1
 | .exit id,Q,σ=>Q (.exit id) σ
 | .scope c,Q,σ=>sc=true∧S4 wr sc c (pK Q) σ
 | .label _,Q,σ=>Q .normal σ
 | .ret,Q,σ=>Q .ret σ
 | .bad,_,_=>False
def QF(W:Aq)(D:List Deferred)(Φ:Ap)(ρ:AI)(n:Nat)(Q:Exit→AY→Prop)(e:Exit)(a:Act)(w:World):Prop:=
 ∃ σ Am ρ',Ext Φ ρ Am ρ'∧Bq n ρ ρ'∧n≤σ.m.next∧Rel W Am ρ' σ.m w∧RL Am ρ' σ.t a.tmps∧a.defers=D∧Q e σ
theorem vh{W:Aq}{D:List Deferred}{Φ b:Ap}{ρ ρ':AI}{n d:Nat}{Q:Exit->AY->Prop}{e:Exit}{a:Act}{w:World}(q:Ext Φ ρ b ρ')(r:Bq n ρ ρ')(c:n<=d)
 (h:QF W D b ρ' d Q e a w):QF W D Φ ρ n Q e a w:=by
 obtain⟨σ,g,f,i,j,k,l,m,o,p⟩:=h;exact⟨σ,g,f,q.trans i,r.trans j c,le_trans c k,l,m,o,p⟩
theorem xh{W:Aq}{D:List Deferred}{Φ:Ap}{ρ:AI}{n:Nat}{Q Q':Exit->AY->Prop}{e:Exit}{a:Act}{w:World}(h:QF W D Φ ρ n Q e a w)(m:∀σ,Q e σ->Q' e σ):QF W D Φ ρ n Q' e a w:=by
 obtain⟨σ,c,b,d,f,g,i,j,k,l⟩:=h;exact⟨σ,c,b,d,f,g,i,j,k,m σ l⟩
structure Open (F:Fence):Prop where
 fn:∀ f,F.fn f
 depth:F.depth=none
 alive:F.alive=false
theorem Open.wide:Open Fence.wide:=⟨λ_=>trivial,rfl,rfl⟩
theorem Open.round{F:Fence}(h:Open F)(l:Nat):Open (F.inRound l):=⟨h.fn,h.depth,h.alive⟩
abbrev CD:=Aq→Ap→AI→Prop
def CD.FG(H:CD):Prop:=∀ W Φ ρ Am ρ',H W Φ ρ→Ext Φ ρ Am ρ'→H W Am ρ'
def Hl(F:Fence)(n:Nat)(H:CD)(D:List Deferred)(P:Program)(c:Code)(Q:Exit→AY→Prop)(σ:AY):Prop:=
 ∀(W:Aq) (Φ:Ap) (ρ:AI),H W Φ ρ → ∀(a:Act) (w:World),Rel W Φ ρ σ.m w→RL Φ ρ σ.t a.tmps→a.defers=D→c.wpIn F n P (QF W D Φ ρ σ.m.next Q) a w
theorem Hl.PZ{n:Nat}{H:CD}{P:Program}{c:Code}{Q:Exit->AY->Prop}{σ:AY}(h:KT P c Q σ):Hl Fence.wide n H [] P c Q σ:=
 λW Φ ρ _ a w d e b=>wpIn_wide.2 (h W Φ ρ a w d e b)
theorem Yky{F:Fence}{g:Nat}{P:Program}{Q:Exit->Act->World->Prop}{a:Act}{w:World}{c:Code}(I:Nat->Act->World->Prop)(k:Nat)(i:I k a w)
 (step:∀k a w,I k a w->c.wpIn F g P (Exit.then (λb w'=>∃j,j<k/\I j b w') Q) a w):(Code.loop c).wpIn F g P Q a w:=by
 have e:∀a w,(∃k,I k a w)->I (leastOf λk=>I k a w) a w /\ ∀j,I j a w->leastOf (λk=>I k a w)<=j:=λa w h=>leastOf_spec h;apply wpIn_loop (λa w=>∃k,I k a w) (λa w=>leastOf λk=>I k a w) ⟨k,i⟩;intro a w h;apply wpIn_mono (step _ a w (e a w h).1);rintro(_|_|_|_|_|_) b w' f<;>try exact f
 obtain⟨j,l,d⟩:=f;have:=(e b w' ⟨j,d⟩).2 j d;exact⟨⟨j,d⟩,show leastOf (λk=>I k b w')<leastOf (λk=>I k a w) by omega⟩
section
variable {F:Fence} {n:Nat} {H:CD} {D:List Deferred} {P:Program} {wr:RM} {sc:Bool}
theorem r9(Cd:H.FG)(af:sc=true -> ∀(c:Code) (Q:Exit->Act->World->Prop) (a:Act) (w:World),c.wpIn F n P (Exit.noGoto Q) a w->(Code.scope c).wpIn F n P Q a w)
 (Tx:∀(id:Nat) (ops:Array Oper) (q:Bool) (Q:Exit->AY->Prop) (σ:AY),S4 wr sc (Y1 P (.region id ops q)) Q σ->Hl F n H D P (.region id ops q) Q σ) :
 ∀(c:Code) (Q:Exit->AY->Prop) (σ:AY),S4 wr sc (Y1 P c) Q σ->Hl F n H D P c Q σ:=by
 intro c;induction c with
 |skip=>exact λQ σ h W Φ ρ p a w o g j=>wpIn_skip ⟨σ,Φ,ρ,.refl _ _,.refl _ _,lR _,o,g,j,h⟩
 |region id ops q=>exact λQ σ h=>Tx id ops q Q σ h
 |seq x y N O=>
  intro Q σ h W Φ ρ p a w o g j;simp only[Y1,S4]at h;refine wpIn_seq (wpIn_mono (N _ _ h W Φ ρ p a w o g j) ?_);intro e B w' d;have key:∀e',e=e'->e'≠.normal->QF W D Φ ρ σ.m.next Q e B w':=by
   intro e' he M;refine xh d λb hq=>?_;subst he;cases e<;>first|exact absurd rfl M|exact hq
  cases e with
  |normal=>
   obtain⟨b,r,ρ',A,G,C,J,K,L,u⟩:=d;exact wpIn_mono (O _ _ u W r ρ' (Cd _ _ _ _ _ p A) B w' J K L) λe a w ac=>vh A G C ac
  |exit i=>exact key _ rfl (by simp)
  |goto l=>exact key _ rfl (by simp)
  |ret=>exact key _ rfl (by simp)
  |panic Z=>exact key _ rfl (by simp)
  |outgrown=>exact key _ rfl (by simp)
 |cond c x y N O=>
  intro Q σ h W Φ ρ p a w o g j;simp only[Y1]at h;cases hc:X5 c with
  |none=>simp[hc,S4]at h
  |some c'=>
   simp only[hc,S4]at h;have T:=Q1 g hc;generalize ev σ.t c'=z at h T;split at h
   ·generalize hz:a.eval c=v at T;cases T;exact wpIn_cond_true hz (N _ _ h W Φ ρ p a w o g j)
   ·generalize hz:a.eval c=v at T;cases T;exact wpIn_cond_false hz (O _ _ h W Φ ρ p a w o g j)
   exact h.elim
 |block id c U=>
  intro Q σ h W Φ ρ p a w o g j;simp only[Y1,S4]at h;refine wpIn_block (wpIn_mono (U _ _ h W Φ ρ p a w o g j) ?_);intro e B w' d;cases e with
  |exit i=>
   simp only[Exit.inBlock];obtain⟨b,r,ρ',A,G,C,J,K,L,u⟩:=d;simp only[KD]at u;split
   ·rename_i hi;rw[iP hi]at u;exact⟨b,r,ρ',A,G,C,J,K,L,u⟩
   rename_i hi;rw[iN hi]at u;exact⟨b,r,ρ',A,G,C,J,K,L,u⟩
  |normal=>exact d
  |goto l=>exact d
  |ret=>exact d
  |panic Z=>exact d
  |outgrown=>exact d
 |loop c U=>
  intro Q σ h W Φ ρ p a w o g j;simp only[Y1,S4]at h;obtain⟨I,⟨n0,X,S,h0⟩,E⟩:=h;obtain⟨aj,aa,ad,ag⟩:=S.rel W Φ ρ a.tmps w o g;refine Yky (λn B w'=>∃b r ρ',Ext Φ ρ r ρ'/\Bq σ.m.next ρ ρ'/\σ.m.next<=b.m.next/\Rel W r ρ' b.m w'/\RL r ρ' b.t B.tmps/\B.defers=D/\I n b) n0
   ⟨X,aj,ρ,aa,.refl _ _,S.next,ad,ag,j,h0⟩ ?_
  rintro n B w' ⟨b,r,ρ',A,G,C,J,K,L,u⟩;refine wpIn_mono (U _ _ (E n b u) W r ρ' (Cd _ _ _ _ _ p A) B w' J K L) ?_;intro e Y ai d;have key:∀e',e=e'->e'≠.normal->QF W D Φ ρ σ.m.next Q e Y ai:=by
   intro e' he M;refine vh A G C (xh d λV hq=>?_);subst he;cases e<;>first|exact absurd rfl M|exact hq
  cases e with
  |normal=>
   obtain⟨V,EM,Du,g1,g2,g3,g4,g5,g6,k,X,g7,g8,g9⟩:=d;obtain⟨ak,ab,ae,ah⟩:=g8.rel W EM Du _ _ g4 g5;exact⟨k,g7,X,ak,Du,(A.trans g1).trans ab,G.trans g2 C,le_trans (le_trans C g3) g8.next,ae,ah,g6,g9⟩
  |exit i=>exact key _ rfl (by simp)
  |goto l=>exact key _ rfl (by simp)
  |ret=>exact key _ rfl (by simp)
  |panic Z=>exact key _ rfl (by simp)
  |outgrown=>exact key _ rfl (by simp)
 |exit id=>exact λQ σ h W Φ ρ p a w o g j=>wpIn_exit ⟨σ,Φ,ρ,.refl _ _,.refl _ _,lR _,o,g,j,h⟩
 |scope c U=>
  intro Q σ h W Φ ρ p a w o g j;simp only[Y1,S4]at h;refine af h.1 _ _ _ _ (wpIn_mono (U _ _ h.2 W Φ ρ p a w o g j) ?_);intro e B w' d;cases e with
  |goto l=>
   obtain⟨b,r,ρ',A,G,C,J,K,L,u⟩:=d;exact u.elim
  |normal=>exact d
  |exit i=>exact d
  |ret=>exact d
  |panic Z=>exact d
  |outgrown=>exact d
 |label l=>exact λQ σ h W Φ ρ p a w o g j=>wpIn_label ⟨σ,Φ,ρ,.refl _ _,.refl _ _,lR _,o,g,j,h⟩
 |ret=>exact λQ σ h W Φ ρ p a w o g j=>wpIn_ret ⟨σ,Φ,ρ,.refl _ _,.refl _ _,lR _,o,g,j,h⟩
 |rangeFunc f ps x y _ _=>exact λQ σ h=>by simp[Y1,S4]at h
 |goto l=>exact λQ σ h=>by simp[Y1,S4]at h
 |refuse s=>exact λQ σ h=>by simp[Y1,S4]at h
theorem Yct(c:Code)(Q:Exit->Act->World->Prop)(a:Act)(w:World)(h:c.wpIn Fence.wide n P (Exit.noGoto Q) a w):(Code.scope c).wpIn Fence.wide n P Q a w:=
 wpIn_wide.2 (wp_scope_straight (wpIn_wide.1 h))
theorem Open.fenced(a:Open F)(m:Machine):m.fenced P F:=by
 intro g _;refine⟨λc=>?_,Or.inl (a.fn _),λf _=>a.fn f,λd b=>?_⟩
 ·rw[a.alive]at c;cases c
 rw[a.depth]at b;cases b
theorem Zw3(d:Open F){o:Oper}(p:∀c,o.op≠.defer c){a:Act}{w:World}{K:Act->World->Prop}{Q:Exit->Act->World->Prop}(h:o.wp P a w K Q):o.wpIn F n P a w K Q:=by
 refine⟨λf _=>d.fn f,?_⟩;rw[Oper.semAt_eq _ _ _ p];unfold Oper.wp at h;have g:F.depth.isSome=true->1<=n:=λl=>by rw[d.depth]at l;cases l
 have i:∀(f:FuncId) (args:Array Value) (w':World) (R:Ending->World->Prop),Calls P f args w' R->CallsIn F (n-1) P f args w' R:=by
  intro f args w' R k;refine⟨d.fn f,λcs _=>?_⟩;obtain⟨e,b,fr,r,s,x⟩:=k cs;refine⟨e,b,fr,r,?_,x⟩;cases e with
  |returned v=>exact (StepsIn.of_steps s).mono λm _=>d.fenced m
  |panicked q=>exact (StepsIn.of_steps s).mono λm _=>d.fenced m
  |outgrown=>exact s
 have j:∀(row:String) (args:Array Value) (w':World) (R:Value->World->Prop),Rows P row args w' R->Go.RowsIn F (n-1) P row args w' R:=by
  intro row args w' R k c cs _;obtain⟨v,b,r,s⟩:=k c cs;exact⟨v,b,r,(StepsIn.of_steps s).mono λm _=>d.fenced m⟩
 generalize (execOp a.eval o).run P w=r at h ⊢;unfold Oper.upon at h;unfold Oper.uponIn;split at h
 ·exact h
 ·exact h
 ·exact h
 ·exact⟨g,i _ _ _ _ h⟩
 ·exact⟨g,j _ _ _ _ h⟩
 ·exact h
 exact h.elim
end
def KE(t:List Aa)(f:Ah)(xs:List Ah):Option (Fn×List Aa):=
 match ev t f with
 | .func (.func g) first cap=>some (.func g,first++xs.map (ev t)++cap)
 | .Dt b=>some (.yield b,xs.map (ev t))
 | _=>none
abbrev Ck:=Fn→List Aa→Mem→Nat→(Aa→Mem→Prop)→Prop
abbrev Dh:=Nat→List Aa→Mem→Ba→Option (Aa×Mem)
def K6(st:Dh)(cw:Ck)(base:Nat):List Ag→Nat→(AY→Prop)→List Aa→Mem→Prop
 | [],_,K,t,m=>K ⟨t,m⟩
 | o :: r,i,K,t,m=>
  match P7 t o.guard with
  | some false=>K6 st cw base r (i+1) K (put t o.dst Ai) m
  | some true=>
   match o.op with
   | .call f xs=>match KE t f xs with
    | some (fn,args)=>cw fn args m (base+i) fun v m'=>K6 st cw base r (i+1) K (put t o.dst v) m'
    | none=>False
   | op=>match st (base+i) t m op with
    | some (v,m')=>K6 st cw base r (i+1) K (put t o.dst v) m'
    | none=>False
  | none=>False
def Yix(Φ:Ap)(ρ:AI)(W:Aq)(m:Mem)(id:Nat)(K:Aa→Mem→Prop)(e:Ending)(w':World):Prop:=
 ∃ v r m' Am ρ',e=.returned v∧Ext Φ ρ Am ρ'∧(∀ b,b<m.next→b≠id→ρ b=none→ρ' b=none)∧Rel W Am ρ' m' w'∧R Am ρ' r v∧m.next≤m'.next∧K r m'
def FE(F:Fence)(n:Nat)(P:Program)(ρ:AI)(fn:Fn)(vs:Array Value)(w:World)(S:Ending→World→Prop):Prop:=
 (∃ g,fn=.func g∧Vl P g∧CallsIn F n P g vs w S) ∨
 (∃ b l f tmps assign body,fn=.yield b∧ρ b=some l∧(Instr.yield l.blk vs).run P w=.ok (.round l.blk f tmps assign body) w∧RoundIn F n P l.blk f tmps assign body w S) ∨
 (∃ g v w',fn=.func g∧(callFunc g vs).run P w=.ok (.value v) w'∧S (.returned v) w')
def Ia(F:Fence)(n:Nat)(H:CD)(P:Program)(st:Dh):Prop:=
 ∀(o:Oper) (id:Nat) (t:List Aa) (m:Mem) (x:Aa) (m':Mem),st id t m (N8 P o)=some (x,m')→m'.next=m.next ∧
  ∀(W:Aq) (Φ:Ap) (ρ:AI) (a:Act) (w:World) (K:Act→World→Prop) (Q:Exit→Act→World→Prop),H W Φ ρ→RL Φ ρ t a.tmps→Rel W Φ ρ m w→ρ id=none→id<m.next →
   (∀ Am ρ' u w',Ext Φ ρ Am ρ'→(∀ b,b≠id→ρ b=none→ρ' b=none)→Rel W Am ρ' m' w'→R Am ρ' x u→K (a.put o.dst u) w')→o.wpIn F n P a w K Q
def Lb(F:Fence)(n:Nat)(H:CD)(P:Program)(cw:Ck):Prop:=
 ∀ fn args m id K,cw fn args m id K → ∀ W Φ ρ,H W Φ ρ → ∀ vs w,Rel W Φ ρ m w→RL Φ ρ args vs→ρ id=none→id<m.next→FE F n P ρ fn vs w (Yix Φ ρ W m id K)
theorem Ygr{F:Fence}{n:Nat}{P:Program}(a:Open F){f:FuncId}{args:Array Value}{w:World}{S:Ending->World->Prop}(c:Calls P f args w S):CallsIn F n P f args w S:=by
 refine⟨a.fn f,λcs _=>?_⟩;obtain⟨e,b,fr,r,s,x⟩:=c cs;refine⟨e,b,fr,r,?_,x⟩;cases e with
 |returned v=>exact (StepsIn.of_steps s).mono λm _=>a.fenced m
 |panicked d=>exact (StepsIn.of_steps s).mono λm _=>a.fenced m
 |outgrown=>exact s
def Gi(P:Program):Ck:=fun fn args m id K=>∃ g,fn=.func g∧Aw P g args m [id] K
theorem VD{F:Fence}{n:Nat}{H:CD}{P:Program}(q:Open F):Lb F n H P (Gi P):=by
 rintro fn args m id K ⟨g,rfl,f⟩ W Φ ρ _ vs w u s t c;refine .inl ⟨g,rfl,f.1,Ygr q ?_⟩;refine(f.2 W Φ ρ vs w u s (λb a=>by simp only[List.mem_singleton]at a;subst a;exact⟨t,c⟩)).mono ?_;rintro e w' ⟨v,r,m',h,ρ',rfl,i,j,k,l,o,p⟩;exact⟨v,r,m',h,ρ',rfl,i,λb a d=>j b a (by simpa using d),k,l,o,p⟩
section
variable {F:Fence} {n:Nat} {H:CD} {D:List Deferred} {P:Program} {W:Aq} {Φ:Ap} {ρ:AI} {w:World} {m m':Mem} {x:Aa} {a:Act} {t:List Aa} {ops:Array Oper}
theorem FE.mono{fn:Fn}{vs:Array Value}{S k:Ending->World->Prop}(h:FE F n P ρ fn vs w S)(j:∀e w,S e w->k e w):FE F n P ρ fn vs w k:=by
 rcases h with⟨g,c,d,i,o⟩|⟨b,l,f,p,as,bd,c,m,d,i⟩|⟨g,v,w',c,d,i⟩
 ·exact .inl ⟨g,c,d,i,λcs a=>let ⟨e,w',fr,r,s,x⟩:=o cs a;⟨e,w',fr,j _ _ r,s,x⟩⟩
 ·exact .inr (.inl ⟨b,l,f,p,as,bd,c,m,d,i.mono j⟩)
 exact .inr (.inr ⟨g,v,w',c,d,j _ _ i⟩)
theorem Z7z{o:Oper}{f:Ah}{xs:List Ah}(d:N8 P o=.call f xs):∃c of,o.op=.call c/\c.callee=.value of/\X5 of=some f/\Jc c.args.toList=some xs:=by
 unfold N8 at d;cases a:HM P o with
 |none=>simp[a]at d
 |some op=>
  simp only[a,getD_some]at d;subst d;unfold HM at a;split at a<;>first|(cases a;done)|(simp only[mO]at a;obtain⟨_,_,a⟩:=a;cases a;done)|skip
  case h_26 c hoc=>
   unfold La at a;split at a
   ·rename_i of g;split at a
    ·rename_i i h e b;injection a with a
     injection a with h1 h2
     subst h1;subst h2;exact⟨c,of,hoc,g,e,b⟩
    cases a
   all_goals (repeat' (split at a<;>first|(cases a;done)|skip))
   all_goals (first|(cases a;done)|(simp only[mO]at a;obtain⟨_,_,a⟩:=a;cases a;done)|skip)
  all_goals (repeat' (split at a<;>first|(cases a;done)|skip))
  all_goals (first|(cases a;done)|(simp only[mO]at a;obtain⟨_,_,a⟩:=a;cases a;done)|skip)
theorem Yc4{o:Oper}{id:Nat}{r:Aa×Mem}(h:Ae id t m (N8 P o)=some r):∀c,o.op≠.defer c:=by
 intro c a;unfold N8 at h;have:HM P o=none:=by
  unfold HM;rw[a]
 rw[this]at h;simp[Ae]at h
theorem Ydm(hF:Open F){id:Nat}{K:Act->World->Prop}{Q:Exit->Act->World->Prop}(ht:RL Φ ρ t a.tmps)(hr:Rel W Φ ρ m w)(hn:ρ id=none)(ag:id<m.next)(o:Oper){f:Ah}{xs:List Ah}(ho:N8 P o=.call f xs)
 {fn:Fn}{args:List Aa}(j:KE t f xs=some (fn,args)) {cw:Ck}(DA:Lb F (n-1) H P cw) (hH:H W Φ ρ) {KA:Aa->Mem->Prop}(h:cw fn args m id KA)
 (hK:∀M ρ' x m' u w',Ext Φ ρ M ρ'->(∀b,b<m.next->b≠id->ρ b=none->ρ' b=none)->Rel W M ρ' m' w'->R M ρ' x u->m.next<=m'.next->KA x m'->K (a.put o.dst u) w'):o.wpIn F n P a w K Q:=by
 obtain⟨c,of,B,Bn,ah,ai⟩:=Z7z ho;have p:=Q1 ht ah;have d:=Wq ht ai;refine⟨λf _=>hF.fn f,?_⟩;rw[Oper.semAt_eq _ _ _ (λc' U=>by rw[B]at U;cases U)];have Y:F.depth.isSome=true->1<=n:=λhh=>by rw[hF.depth]at hh;cases hh
 have N:∀vs,RL Φ ρ args vs->FE F (n-1) P ρ fn vs w (λe w'=>match e with
  |.returned v=>K (a.put o.dst v) w'
  |.panicked E=>Q (.panic E) a w'
  |.outgrown=>LetsOut Q):=λvs q=>by
  refine(DA fn args m id KA h W Φ ρ hH vs w hr q hn ag).mono ?_;rintro e w' ⟨v,r,m',M,ρ',rfl,O,S,T,h4,h5,h6⟩;exact hK M ρ' r m' v w' O S T h4 h5 h6
 unfold KE at j;split at j<;>first|(cases j;done)|skip
 ·rename_i g' first cap G;injection j with j
  injection j with O S
  subst O;subst S;rw[G]at p;generalize C:a.eval of=vv at p;cases p with
  |func _ _ _ vf vc hf hc ad CG=>
   have q:RL Φ ρ (first++xs.map (ev t)++cap) (vf++c.args.map a.eval++vc):=by
    refine⟨by simp only[Array.size_append,lA];rw[hf,hc,d.1],λi y v D A=>?_⟩;have af:(vf++c.args.map a.eval).size=(first++xs.map (ev t)).length:=by simp only[Array.size_append,lA];rw[hf,d.1]
    rw[getElem?_append]at D;rw[Array.getElem?_append]at A;rw[af]at A;split at D
    ·rename_i X;rw[iP X]at A;rw[getElem?_append]at D;rw[Array.getElem?_append,hf]at A;split at D
     ·rename_i T;rw[iP T]at A;exact ad i y v D A
     rename_i T;rw[iN T]at A;exact d.2 _ y v D A
    rename_i ae;rw[iN ae]at A;exact CG _ y v D A
   rcases N _ q with⟨g,j,⟨aa,ac,I,z⟩,Z⟩|⟨b,l,_,_,_,_,hl,_⟩|⟨g,v,w',j,k,hS⟩
   ·cases j;have k:(execOp a.eval o).run P w=.ok (.enter g' (vf++c.args.map a.eval++vc)) w:=by
     unfold execOp;rw[B];simp only[resolve,Bn,C,Deferred.ofValue,Sem.run_bind,Sem.run_pure,Result.andThen_ok,invoke,callFunc];cases hb:aa.body with
     |none=>rw[hb]at z;cases z
     |some b=>simp[program,Sem.run,ac,hb];simpa using I
    rw[k];refine⟨Y,⟨Z.1,λcs J=>?_⟩⟩;obtain⟨e,w',fr,r,s,x⟩:=Z.2 cs J;refine⟨e,w',fr,?_,s,x⟩;cases e<;>exact r
   ·cases hl
   cases j;have L:(execOp a.eval o).run P w=.ok (.value v) w':=by
    unfold execOp;rw[B];simp only[resolve,Bn,C,Deferred.ofValue,Sem.run_bind,Sem.run_pure,Result.andThen_ok,invoke];exact k
   rw[L];exact hS
 rename_i b G;injection j with j
 injection j with O S
 subst O;subst S;rw[G]at p;generalize C:a.eval of=vv at p;cases p with
 |Dt _ l hl=>
  have q:RL Φ ρ (xs.map (ev t)) (#[]++c.args.map a.eval):=by simpa using d
  rcases N _ q with⟨g,j,_⟩|⟨b',l',f',tm,as,bd,ab,V,D,Z⟩|⟨g,_,_,j,_⟩
  ·cases j
  ·cases ab;rw[hl]at V;cases V;have k:(execOp a.eval o).run P w=.ok (.round l.blk f' tm as bd) w:=by
    unfold execOp;rw[B];simp only[resolve,Bn,C,Deferred.ofValue,Sem.run_bind,Sem.run_pure,Result.andThen_ok,invoke];exact D
   rw[k];refine⟨Y,Z.mono λe w' r=>?_⟩;cases e<;>exact r
  cases j
theorem Z60{st:Dh}{c:Ck}{base i:Nat}{b:Ag}{a:List Ag}{K:AY->Prop}(h:K6 st c base (b::a) i K t m) :
 (P7 t b.guard=some false/\K6 st c base a (i+1) K (put t b.dst Ai) m) \/
 (P7 t b.guard=some true/\((∃f xs fn args,b.op=.call f xs/\KE t f xs=some (fn,args)/\c fn args m (base+i) λv m'=>K6 st c base a (i+1) K (put t b.dst v) m') \/
   (∃v m',st (base+i) t m b.op=some (v,m')/\K6 st c base a (i+1) K (put t b.dst v) m'))):=by
 simp only[K6]at h;cases k:P7 t b.guard with
 |none=>simp[k]at h
 |some q=>
  cases q with
  |false=>simp only[k]at h;exact .inl ⟨rfl,h⟩
  |true=>
   simp only[k]at h;refine .inr ⟨rfl,?_⟩;have e:∀op,b.op=op->(match st (base+i) t m op with|some (v,m')=>K6 st c base a (i+1) K (put t b.dst v) m'|none=>False) ->
    ∃v m',st (base+i) t m op=some (v,m')/\K6 st c base a (i+1) K (put t b.dst v) m':=by
    intro op _ j;cases l:st (base+i) t m op with
    |none=>simp[l]at j
    |some r=>obtain ⟨v,m'⟩:=r;simp only[l]at j;exact⟨v,m',rfl,j⟩
   cases d:b.op with
   |call f xs=>
    simp only[d]at h;cases g:KE t f xs with
    |none=>simp[g]at h
    |some r=>
     obtain⟨fn,args⟩:=r;simp only[g]at h;exact .inl ⟨f,xs,fn,args,rfl,g,h⟩
   |_=>rw[d]at h;exact .inr (e _ d h)
theorem dA(I:Open F)(C:H.FG){st:Dh}(p:Ia F n H P st){cw:Ck}(V:Lb F (n-1) H P cw)(W:Aq)(base:Nat)(n0:Nat)(ops:Array Oper)(Q:Exit->AY->Prop)(E:Ap)(B:AI)(K:n0<=base) :
 ∀(l:List Oper) (as:List Ag) (i:Nat) (t:List Aa) (m:Mem) (Φ:Ap) (ρ:AI) (a:Act) (w:World),
  as.length=l.length->(∀(j:Nat) (o:Oper) (b:Ag),l[j]?=some o->as[j]?=some b->b.dst=o.dst/\b.op=N8 P o/\IU ops o.guard=some b.guard) ->
  K6 st cw base as i (Q .normal) t m->H W Φ ρ->Rel W Φ ρ m w->RL Φ ρ t a.tmps->a.defers=D->Ext E B Φ ρ->Bq n0 B ρ->(∀j,i<=j->j<i+as.length->ρ (base+j)=none)->base+i+as.length<=m.next->n0<=m.next ->
  wpListIn F n P ops (QF W D E B n0 Q) l a w
 |[],[],i,t,m,Φ,ρ,a,w,_,_,h,_,U,q,L,M,N,_,_,X=>⟨⟨t,m⟩,Φ,ρ,M,N,X,U,q,L,h⟩
 |[],_::_,_,_,_,_,_,_,_,O,_,_,_,_,_,_,_,_,_,_,_=>by simp at O
 |_::_,[],_,_,_,_,_,_,_,O,_,_,_,_,_,_,_,_,_,_,_=>by simp at O
 |o::l,b::as,i,t,m,Φ,ρ,a,w,O,hg,h,J,U,q,L,M,N,d,DB,X=>by
  obtain⟨Z,e2,e3⟩:=hg 0 o b rfl rfl;have s:∀(j:Nat) (o:Oper) (b:Ag),l[j]?=some o->as[j]?=some b->b.dst=o.dst/\b.op=N8 P o/\IU ops o.guard=some b.guard:=λj o b ho K=>hg (j+1) o b (by simpa using ho) (by simpa using K);have y:as.length=l.length:=by simpa using O
  simp only[lC]at DB d;have S:base+i<m.next:=by omega
  have T:ρ (base+i)=none:=d i (lR _) (by omega);unfold wpListIn;rcases Z60 h with⟨hw,G⟩|⟨hw,G⟩
  ·rw[OR q e3 hw,iN (by simp)];rw[<-Z];exact⟨λf _=>I.fn f,dA I C p V W base n0 ops Q E B K l as (i+1) _ m Φ ρ _ w y s G J U (q.put b.dst (MI Φ ρ)) (by rw[KZ];exact L) M N (λj h1 h2=>d j (by omega) (by omega)) (by omega) X⟩
  rw[OR q e3 hw,iP rfl];rcases G with⟨f,xs,g,args,z,Bn,hA⟩|⟨v,m',hs,G⟩
  ·refine Ydm I q U T S o (by rw[<-e2];exact z) Bn V J hA λY ρ' x m' u w' r e A hx k hW=>?_;rw[<-Z];exact dA I C p V W base n0 ops Q E B K l as (i+1) _ m' Y ρ' _ w' y s hW (C _ _ _ _ _ J r) A ((q.ext r).put b.dst hx) (by rw[KZ];exact L) (M.trans r) (λc hc h0=>e c (by omega) (by omega) (N c hc h0))
    (λj h1 h2=>e _ (by omega) (by omega) (d j (by omega) (by omega))) (by omega) (by omega)
  rw[e2]at hs;obtain⟨k,z⟩:=p o _ t m v m' hs;refine z W Φ ρ a w _ _ J q U T S λY ρ' u w' r e A hx=>?_;rw[<-Z];exact dA I C p V W base n0 ops Q E B K l as (i+1) _ m' Y ρ' _ w' y s G (C _ _ _ _ _ J r) A ((q.ext r).put b.dst hx) (by rw[KZ];exact L) (M.trans r) (λc hc h0=>e c (by omega) (N c hc h0))
   (λj h1 h2=>e _ (by omega) (d j (by omega) (by omega))) (by rw[k];omega) (by rw[k];exact X)
theorem s9(k:Open F)(e:H.FG){st:Dh}(b:Ia F n H P st){c:Ck}(f:Lb F (n-1) H P c){id:Nat}{ops:Array Oper}{Q:Exit->AY->Prop}{σ:AY}{as:List Ag}(p:D7 P ops ops.toList=some as)
 (h:K6 st c σ.m.next as 0 (Q .normal) σ.t (σ.m.at (σ.m.next+as.length))):Hl F n H D P (.region id ops false) Q σ:=by
 intro W Φ ρ o a w d s q;obtain⟨g,i⟩:=VO P ops _ _ p;refine wpIn_region_list (dA k e b f W σ.m.next σ.m.next ops Q Φ ρ (lR _) ops.toList as 0 σ.t _ Φ ρ a w g i h o (d.at_ (by omega)) s q (.refl _ _) (.refl _ _) ?_ (by simp) (by simp));intro j _ _;cases r:ρ (σ.m.next+j)with
 |none=>rfl
 |some l=>have:=d.fresh _ _ r;omega
theorem Ve(c:Open F):Ia F n H P Ae:=λ_ _ _ _ _ _ b=>
 ⟨iH b,λ_ _ _ _ _ _ _ _ g f e a d=>Zw3 c (Yc4 b) (dN g f e a _ b d)⟩
end
def IQ(P:Program)(dr:Bool)(st:Dh)(cw:Ck):RM
 | false,ops,K,σ=>K6 st cw σ.m.next ops 0 K σ.t (σ.m.at (σ.m.next+ops.length))
 | true,ops,K,σ=>dr=true∧M2 P σ.m.next ops [] K σ.t (σ.m.at (σ.m.next+ops.length))
section
variable {n:Nat} {H:CD} {D:List Deferred} {P:Program}
theorem kE(hm:P.follows .mixedOrders=true)(f:H.FG){st:Dh}(e:Ia Fence.wide n H P st){g:Ck}(i:Lb Fence.wide (n-1) H P g)(c:Code)(Q:Exit->AY->Prop)(σ:AY)(h:S4 (IQ P true st g) true (Y1 P c) Q σ):Hl Fence.wide n H [] P c Q σ:=by
 refine r9 f (λ_=>Yct) (λid ops b Q σ h=>?_) c Q σ h;cases b with
 |false=>
  simp only[Y1]at h;cases a:D7 P ops ops.toList with
  |none=>simp[a,S4]at h
  |some as=>
   simp only[a,S4,IQ]at h;exact s9 Open.wide f e i a h
 |true=>
  refine Hl.PZ (mZ hm ?_);simp only[Y1]at h ⊢;cases a:D7 P ops ops.toList with
  |none=>simp[a,S4]at h
  |some as=>
   simp only[a]at h ⊢;split at h
   ·rename_i d;simp only[S4,IQ]at h;rw[iP d];simp only[CP];exact h.2
   simp[S4]at h
theorem mP{F:Fence}(i:Open F)(e:H.FG){st:Dh}(d:Ia F n H P st){f:Ck}(g:Lb F (n-1) H P f)(c:Code)(Q:Exit->AY->Prop)(σ:AY)(h:S4 (IQ P false st f) false (Y1 P c) Q σ):Hl F n H D P c Q σ:=by
 refine r9 e (λj=>by cases j) (λid ops b Q σ h=>?_) c Q σ h;cases b with
 |false=>
  simp only[Y1]at h;cases a:D7 P ops ops.toList with
  |none=>simp[a,S4]at h
  |some as=>
   simp only[a,S4,IQ]at h;exact s9 i e d g a h
 |true=>
  simp only[Y1]at h;cases a:D7 P ops ops.toList with
  |none=>simp[a,S4]at h
  |some as=>
   simp only[a]at h;split at h
   ·simp[S4,IQ]at h
   simp[S4]at h
end
def Aq.CL(W:Aq)(l:Nat)(o:Obj):Aq:={ W with g:=fun B=>if B=l then some o else W.g B }
theorem Aq.Fb(W:Aq)(l:Nat)(o a:Obj):(W.CL l o).CL l a=W.CL l a:=by
 unfold Aq.CL;grind
theorem Aq.Kr{W:Aq}{l:Nat}{o:Obj}(h:W.g l=some o):W.CL l o=W:=by
 unfold Aq.CL;cases W
 congr 1
 grind
theorem Aq.Dc(W:Aq)(l:Nat)(o:Obj):(W.CL l o).g l=some o:=by simp[Aq.CL]
theorem Aq.BN{W:Aq}{l B:Nat}{o:Obj}(h:B≠l):(W.CL l o).g B=W.g B:=by simp[Aq.CL,h]
def fP(D:Nat):Deferred:={ target:=.collected D,args:=#[] }
section
variable {P:Program} {W:Aq} {Φ:Ap} {ρ:AI} {w:World} {m m':Mem}
theorem Yjz{B:Nat}{a w:World}{l:Nat}{o:Obj}(h:Below B a w)(c:B<=l):Below B a (w.putObj l o):=
 ⟨h.os,h.tape,h.output,by rw[World.putObj_size];exact h.size,λk b=>by rw[World.putObj_heap_other (by omega)];exact h.block k b⟩
theorem Rel.Qc(h:Rel W Φ ρ m w){l:Nat}{o:Obj}(z:W.g l=some o)(A:W.w.heap.size<=l)(C:∀c e fz,o≠.cells c e fz)(n:Obj):Rel (W.CL l n) Φ ρ m (w.putObj l n):=by
 have D:=h.base.Ci l o z;have k:=D9 D;have d:∀B,W.Cu B->B≠l/\(W.CL l n).Cu B:=λB a=>by
  have j:B≠l:=λe=>by subst e;have:=a.2;grind
  exact⟨j,a.1,by rw[Aq.BN j];exact a.2⟩
 have f:∀B c,Φ B=some c->B≠l:=λB c a e=>by
  subst e;obtain⟨e',fz,i⟩:=h.AX _ c a;grind
 refine⟨⟨Yjz h.base.below A,λB p a=>?_⟩,λB c a=>?_,λb x E=>?_,h.inj,h.fresh,λB c a=>?_⟩
 ·by_cases e:B=l
  ·subst e;rw[Aq.Dc]at a;injection a with a
   subst a;exact World.putObj_heap_same k
  rw[Aq.BN e]at a;rw[World.putObj_heap_other e];exact h.base.Ci B p a
 ·obtain⟨e',fz,i⟩:=h.AX B c a;exact⟨e',fz,by rw[World.putObj_heap_other (f B c a)];exact i⟩
 ·obtain⟨lo,p,s,t,u,v,y⟩:=h.live b x E;obtain⟨q,r⟩:=d _ t;exact⟨lo,p,s,r,u,by rw[World.putObj_heap_other q];exact v,y⟩
 rcases h.BH B c a with i|i
 ·exact .inl i
 grind
theorem Rel.XL(h:Rel W Φ ρ m w)(o:Obj):Rel (W.CL w.heap.size o) Φ ρ m (w.alloc o):=by
 have i:∀B,B<w.heap.size->W.Cu B->(W.CL w.heap.size o).Cu B:=λB k a=>
  ⟨a.1,by rw[Aq.BN (by omega)];exact a.2⟩
 have f:∀(B:Nat) (d:Obj),w.heap[B]?=some d->(w.alloc o).heap[B]?=some d:=λB d a=>(Below.heap_alloc w o B (D9 a)).trans a;refine⟨⟨h.base.below.alloc h.base.below.size o,λB d a=>?_⟩,λB c a=>?_,λb x l=>?_,h.inj,h.fresh,λB c a=>?_⟩
 ·by_cases e:B=w.heap.size
  ·subst e;rw[Aq.Dc]at a;injection a with a
   subst a;exact World.alloc_heap_new w o
  rw[Aq.BN e]at a;exact f _ _ (h.base.Ci B d a)
 ·obtain⟨e',fz,g⟩:=h.AX B c a;grind
 ·obtain⟨lo,d,n,j,p,q,r⟩:=h.live b x l;grind
 rcases h.BH B c a with g|g
 ·exact .inl g
 obtain⟨e',fz,j⟩:=h.AX B c a;grind
theorem Rel.RD(h:Rel W Φ ρ m w){B:Nat}(b:w.heap.size<=B):W.g B=none:=by
 cases a:W.g B with
 |none=>rfl
 |some o=>have:=D9 (h.base.Ci B o a);omega
theorem Rel.RC{l:Nat}{o:Obj}(h:Rel (W.CL l o) Φ ρ m w)(t:W.g l=none):Rel W Φ ρ m w:=by
 have d:∀B,(W.CL l o).Cu B->W.Cu B:=λB a=>by
  have f:B≠l:=λe=>by subst e;have:=a.2;rw[Aq.Dc]at this;cases this
  exact⟨a.1,by have:=a.2;rw[Aq.BN f]at this;exact this⟩
 refine⟨⟨h.base.below,λB j a=>?_⟩,h.AX,λb x k=>?_,h.inj,h.fresh,λB c a=>?_⟩
 ·refine h.base.Ci B j ?_;rw[Aq.BN (λe=>by grind)];exact a
 ·obtain⟨lo,j,n,p,q,r,s⟩:=h.live b x k;grind
 rcases h.BH B c a with i|i
 ·exact .inl i
 grind
def Le(t:List Aa):List (Nat×Aa)→List Aa
 | []=>t
 | (i,x) :: r=>Le (t.set i x) r
theorem vg:∀(ps:List Nat) (xs:List Aa) (vs:List Value) (t:List Aa) (b:Array Value),xs.length=vs.length->(∀(i:Nat) (x:Aa) (v:Value),xs[i]?=some x->vs[i]?=some v->R Φ ρ x v)->RL Φ ρ t b ->
 RL Φ ρ (Le t (ps.zip xs)) ((ps.zip vs).foldl (λtmps (p:Nat×Value)=>tmps.setIfInBounds p.1 p.2) b)
 |[],xs,vs,t,b,_,_,d=>by simpa[Le]using d
 |p::ps,[],[],t,b,_,_,d=>by simpa[Le]using d
 |p::ps,[],v::vs,t,b,c,_,_=>by simp at c
 |p::ps,x::xs,[],t,b,c,_,_=>by simp at c
 |p::ps,x::xs,v::vs,t,b,c,e,d=>by
  simp only[List.zip_cons_cons,Le,List.foldl_cons];refine vg ps xs vs _ _ (by simpa using c) (λi y u g f=>e (i+1) y u (by simpa using g) (by simpa using f)) ?_;have:=RL.put (a:=⟨b,[]⟩) (some p) d (e 0 x v rfl rfl);exact this
def Fc(b l:Nat)(r:Loop)(tR:List Aa):CD:=fun W Φ ρ=>W.w.heap.size≤l∧W.g l=some (.loop r)∧RL Φ ρ tR r.tmps∧ρ b=some ⟨l,0,0,0⟩
theorem Fc.mono{b l:Nat}{r:Loop}{tR:List Aa}:(Fc b l r tR).FG:=λ_ _ _ _ _ h a=>⟨h.1,h.2.1,h.2.2.1.ext a,a.CN _ _ h.2.2.2⟩
def zH(P:Program)(ps:List Nat)(tR:List Aa)(A B:An)(args:List Aa)(m:Mem)(K:Aa→Mem→Prop):Prop:=
 args.length=ps.length∧S4 (IQ P false Ae (Gi P)) false A (fun e σ1=>match e with
  | .normal=>S4 (IQ P false Ae (Gi P)) false B (fun e σ2=>match e with
   | .normal=>K (.bool true) σ2.m
   | _=>False) σ1
  | _=>False) ⟨Le tR (ps.zip args),m⟩
def Tm(P:Program)(b:Nat)(ps:List Nat)(tR:List Aa)(A B:An):Ck:=fun fn args m id K=>Gi P fn args m id K∨(fn=.yield b∧zH P ps tR A B args m K)
theorem yl{n:Nat}{b l:Nat}{r:Loop}{tR:List Aa}(f:r.state=.ready)(q:r.pending=none):Lb Fence.wide n (Fc b l r tR) P (Tm P b r.params.toList tR (Y1 P r.assign) (Y1 P r.body)):=by
 intro fn args m id K z W Φ ρ Q vs w C u hn B;rcases z with z|⟨rfl,p,d⟩
 ·exact VD Open.wide fn args m id K z W Φ ρ Q vs w C u hn B
 obtain⟨T,y,F,A⟩:=Q;have hw:=C.base.Ci _ _ y;have E:vs.size=r.params.size:=by rw[u.1,p];simp
 refine .inr (.inl ⟨b,⟨l,0,0,0⟩,r.fn,_,r.assign,r.body,rfl,A,run_yield hw E,roundIn_of_wpIn trivial ?_⟩);have g:RL Φ ρ (Le tR (r.params.toList.zip args)) ((r.params.zip vs).foldl (λtmps (t,a)=>tmps.setIfInBounds t a) r.tmps):=by
  have:=vg (Φ:=Φ) (ρ:=ρ) r.params.toList args vs.toList tR r.tmps (by simp[u.1]) (λi x v hx hv=>u.2 i x v hx (by simpa using hv)) F;rw[<-Array.foldl_toList,Array.toList_zip];exact this
 have j:=Open.round Open.wide l;have hA:=mP (P:=P) (n:=n) (D:=[]) j (H:=λ_ _ _=>True) (λ_ _ _ _ _ _ _=>trivial) (Ve j) (VD j) r.assign _ _ d W Φ ρ trivial
  { tmps:=(r.params.zip vs).foldl (λtmps (t,a)=>tmps.setIfInBounds t a) r.tmps,defers:=[] } w C g rfl
 refine wpIn_mono hA ?_;rintro e Y w1 ⟨aa,J,M,e1,k1,n1,U,t1,d1,k⟩;cases e with
 |normal=>
  have G:=U.base.Ci _ _ y;refine⟨_,run_beginRound G f,?_⟩;have r2:=U.Qc y T (by grind) (.loop { r with state:=.busy });have hB:=mP (P:=P) (n:=n) (D:=[]) j (H:=λ_ _ _=>True) (λ_ _ _ _ _ _ _=>trivial) (Ve j) (VD j) r.body _ _ k (W.CL l (.loop { r with state:=.busy })) J M trivial Y _ r2 t1 d1;refine wpIn_mono hB ?_;rintro e a2 w2 ⟨O,L,N,e2,k2,n2,V,t2,d2,o⟩;cases e with
  |normal=>
   have I:=V.base.Ci _ _ (Aq.Dc _ _ _);refine⟨_,_,run_endRound none I,?_⟩;have X:=V.Qc (Aq.Dc _ _ _) T (by intro c e fz h;cases h) (.loop { r with state:=.ready,pending:=none });rw[Aq.Fb]at X;have s:({ r with state:=.ready,pending:=none }:Loop)=r:=by
    cases r;simp only at f q;subst f;subst q;rfl
   rw[s,Aq.Kr y]at X;refine⟨.bool true,.bool true,O.m,L,N,rfl,e1.trans e2,λb S _ h0=>?_,?_,.bool true,le_trans n1 n2,o⟩
   ·exact k2 b (Nat.lt_of_lt_of_le S n1) (k1 b S h0)
   grind
  |exit i=>exact o.elim
  |goto i=>exact o.elim
  |ret=>exact o.elim
  |panic Z=>exact o.elim
  |outgrown=>exact o.elim
 |exit i=>exact k.elim
 |goto i=>exact k.elim
 |ret=>exact k.elim
 |panic Z=>exact k.elim
 |outgrown=>exact k.elim
def Dm(H:CD)(P:Program)(f:FuncId)(args:List Aa)(m:Mem)(K:Aa→Mem→Prop):Prop:=
 Vl P f ∧ ∀(W:Aq) (Φ:Ap) (ρ:AI),H W Φ ρ → ∀(vs:Array Value) (w:World),Rel W Φ ρ m w→RL Φ ρ args vs →
  Calls P f vs w fun e w'=>∃ v r m' Am ρ',e=.returned v∧Ext Φ ρ Am ρ'∧Bq m.next ρ ρ'∧Rel W Am ρ' m' w'∧R Am ρ' r v∧m.next≤m'.next∧K r m'
theorem Ss{args:List Aa}{vs:Array Value}{k:Nat}(b:RL Φ ρ args vs):RL Φ ρ (args++replicate (k-args.length) Ai) (vs++Array.replicate (k-vs.size) undef):=by
 refine⟨by simp[b.1],λi x v e a=>?_⟩;rw[getElem?_append]at e;rw[Array.getElem?_append,b.1]at a;split at e
 ·rename_i d;rw[iP d]at a;exact b.2 i x v e a
 rename_i c;rw[iN c]at a;have f:x=Ai:=by
  grind
 have g:v=undef:=by
  grind
 subst f;subst g;exact MI _ _
theorem UE{fn:Func}{a:AD}(b:Bk P fn=some a):∃c,fn.body=some c/\a.body=Y1 P c/\KG P fn.results.toList=some a.results/\a.ntmps=fn.ntmps/\(fn.name == "runtime.NumGoroutine")=false:=by
 unfold Bk at b;grind
theorem v7(hm:P.follows .mixedOrders=true){H:CD}(D:H.FG){st:Dh}(q:Ia Fence.wide 0 H P st){y:Ck}(F:Lb Fence.wide 0 H P y){f:FuncId}{fn:Func}{g:AD}{args:List Aa}{m:Mem}{K:Aa->Mem->Prop}(A:P.funcs[f]?=some fn)(M:Bk P fn=some g)
 (h:S4 (IQ P true st y) true g.body (FX g.results K) ⟨args++replicate (g.ntmps-args.length) Ai,m⟩):Dm H P f args m K:=by
 obtain⟨c,z,b,E,p,d⟩:=UE M;refine⟨⟨fn,A,d,by rw[z];rfl⟩,λW Φ ρ J vs w O L=>?_⟩;rw[b,p]at h;have Q:=kE (n:=0) hm D q F c _ _ h W Φ ρ J { tmps:=vs++Array.replicate (fn.ntmps-vs.size) undef,defers:=[] } w O (Ss L) rfl;refine calls_of_wp A z (wp_mono (wpIn_wide.1 Q) λe a w' N=>?_);obtain⟨σ,o,ρ',V,X,Y,G,I,Z,j⟩:=N;have k:(match I6 σ.t σ.m g.results with|some r=>K r σ.m|none=>False)->a.defers=[] /\ ∃v,(results fn a.tmps).run P w'=.ok v w' /\
  ∃C r m' o ρ',Ending.returned v=.returned C/\Ext Φ ρ o ρ'/\Bq m.next ρ ρ'/\Rel W o ρ' m' w'/\R o ρ' r C/\m.next<=m'.next/\K r m':=by
  intro B;cases s:I6 σ.t σ.m g.results with
  |none=>simp[s]at B
  |some r=>
   simp only[s]at B;obtain⟨u,T,U⟩:=QO G I E s;grind
 cases e with
 |normal=>exact k j
 |ret=>exact k j
 |exit i=>exact j.elim
 |goto l=>exact j.elim
 |panic S=>exact j.elim
 |outgrown=>exact j.elim
end
def PF(W:Aq)(Φ:Ap)(ρ:AI)(n:Nat)(K:AY→Prop)(e:Exit)(a:Act)(w:World):Prop:=
 (e=.normal∨e=.ret) ∧ ∃ σ Am ρ',Ext Φ ρ Am ρ'∧Bq n ρ ρ'∧n≤σ.m.next∧RL Am ρ' σ.t a.tmps∧K σ ∧
   ((a.defers=[]∧Rel W Am ρ' σ.m w) ∨ ∃ D,a.defers=[fP D]∧W.w.heap.size≤D∧W.g D=none∧Rel (W.CL D (.deferred (some []))) Am ρ' σ.m w)
def AR(P:Program)(c:Code)(K:AY→Prop)(σ:AY):Prop:=
 ∀(W:Aq) (Φ:Ap) (ρ:AI) (a:Act) (w:World),Rel W Φ ρ σ.m w→RL Φ ρ σ.t a.tmps→a.defers=[]→c.wpIn Fence.wide 0 P (PF W Φ ρ σ.m.next K) a w
section
variable {P:Program}
theorem Ylm{W:Aq}{Φ d:Ap}{ρ ρ':AI}{n g:Nat}{K:AY->Prop}{e:Exit}{a:Act}{w:World}(o:Ext Φ ρ d ρ')(p:Bq n ρ ρ')(f:n<=g)(h:PF W d ρ' g K e a w):PF W Φ ρ n K e a w:=by
 obtain⟨i,σ,b,c,j,k,l,m⟩:=h;exact⟨i,σ,b,c,o.trans j,p.trans k f,le_trans f l,m⟩
def Kq(K K':AY→Prop):Exit→AY→Prop
 | .normal,σ=>K' σ
 | .ret,σ=>K σ
 | _,_=>False
theorem iX{x y:Code}{K:AY->Prop}{σ:AY}(h:KT P x (Kq K (AR P y K)) σ):AR P (.seq x y) K σ:=by
 intro W Φ ρ a w r s p;refine wpIn_seq (wpIn_mono (wpIn_wide.2 (h W Φ ρ a w r s p)) ?_);rintro e o w1 ⟨f,c,d,j,k,n1,m,n,g,b⟩;cases e with
 |normal=>exact wpIn_mono (b W c d o w1 m n g) λe a w q=>Ylm j k n1 q
 |ret=>exact ⟨.inr rfl,f,c,d,j,k,n1,n,b,.inl ⟨g,m⟩⟩
 |exit i=>exact b.elim
 |goto l=>exact b.elim
 |panic t=>exact b.elim
 |outgrown=>exact b.elim
def Z88(P:Program)(g:Ah)(ps:Array Tmp)(Ed bd y:Code)(K:AY→Prop)(σ:AY):Prop:=
 ∃ gf first cap,ev σ.t g=.func (.func gf) first cap ∧ ∀(l:Nat) (r:Loop),r.state=.ready→r.pending=none→r.params=ps→r.assign=Ed→r.body=bd →
  Dm (Fc σ.m.next l r σ.t) P gf (first++[.Dt σ.m.next]++cap) (σ.m.at (σ.m.next+1)) fun _ m2=>S4 (IQ P false Ae (Gi P)) false (Y1 P y) (Kq K K) ⟨σ.t,m2⟩
theorem Zx1{x y Ed bd:Code}{b:Nat}{g:Operand}{g':Ah}{ps:Array Tmp}{K:AY->Prop}{σ:AY}(hg:X5 g=some g')(h:KT P x (Kq K (Z88 P g' ps Ed bd y K)) σ) :
 AR P (.seq (.seq x (.block b (.rangeFunc g ps Ed bd))) y) K σ:=by
 intro W Φ ρ a w hr ht hd;refine wpIn_seq (wpIn_seq (wpIn_mono (wpIn_wide.2 (h W Φ ρ a w hr ht hd)) ?_));rintro e L w1 ⟨c,k,p,e1,k1,n1,A,t1,d1,Q⟩;cases e with
 |ret=>exact ⟨.inr rfl,c,k,p,e1,k1,n1,t1,Q,.inl ⟨d1,A⟩⟩
 |exit i=>exact Q.elim
 |goto l=>exact Q.elim
 |panic ch=>exact Q.elim
 |outgrown=>exact Q.elim
 |normal=>
  obtain⟨gf,first,cap,ac,af⟩:=Q;have E:=Q1 t1 hg;rw[ac]at E;refine wpIn_block (wpIn_rangeFunc ?_);intro fn aq;generalize ai:L.eval g=vv at E;cases E with
  |func _ _ _ vf vc hf hc ae CG=>
   obtain⟨rec,d⟩:∃rec:Loop,rec={ state:=.ready,pending:=none,fn,tmps:=L.tmps,params:=ps,assign:=Ed,body:=bd,defers:=w1.heap.size }:=⟨_,rfl⟩;have Az:=af (w1.heap.size+1) rec (by rw[d]) (by rw[d]) (by rw[d]) (by rw[d]) (by rw[d]);have r2:=A.XL (.deferred (some []));have o:=r2.XL (.loop rec);have ah:(w1.alloc (.deferred (some []))).heap.size=w1.heap.size+1:=by simp
   rw[ah]at o;obtain⟨f,X⟩:∃f:AI,f=λb=>if b=c.m.next then some ⟨w1.heap.size+1,0,0,0⟩ else p b:=⟨_,rfl⟩
   have C:f c.m.next=some ⟨w1.heap.size+1,0,0,0⟩:=by rw[X];simp
   have u:∀b,b≠c.m.next->f b=p b:=λb r=>by grind
   have M:Ext k p k f:=⟨λ_ _ h=>h,λb lo r=>by
    rw[u b (λe=>by subst e;have:=A.fresh _ _ r;omega)];exact r⟩
   have DK:∀b x,c.m.get b=some x->f b=p b:=λb x Z=>by
    obtain⟨lo,_,r,_⟩:=A.live b x Z;exact u b (λe=>by subst e;have:=A.fresh _ _ r;omega)
   have r3:Rel ((W.CL w1.heap.size (.deferred (some []))).CL (w1.heap.size+1) (.loop rec)) k f (c.m.at (c.m.next+1)) ((w1.alloc (.deferred (some []))).alloc (.loop rec)):=by
    refine⟨o.base,o.AX,λb x Z=>?_,λb b' x x' lo ak N h2 O h4=>?_,λb lo r=>?_,o.BH⟩
    ·obtain⟨lo,ob,g1,g2,g3,g4,g5⟩:=o.live b x Z;exact⟨lo,ob,by rw[DK b x Z];exact g1,g2,g3,g4,g5.ext M⟩
    ·rw[DK b x N]at O;rw[DK b' x' h2]at h4;exact o.inj b b' x x' lo ak N h2 O h4
    simp only[Mem.GQ];by_cases e:b=c.m.next
    ·omega
    rw[u b e]at r;have:=A.fresh b lo r;omega
   obtain⟨⟨fb,ad,F,ab⟩,hC⟩:=Az;have aa:RL k f (first++[.Dt c.m.next]++cap) (vf ++ #[.func (.yield (w1.heap.size+1)) #[] #[]]++vc):=by
    refine⟨by grind,λi y v q z=>?_⟩;rw[getElem?_append]at q;rw[Array.getElem?_append]at z;have ag:(vf ++ #[Value.func (.yield (w1.heap.size+1)) #[] #[]]).size=(first++[Aa.Dt c.m.next]).length:=by simp[hf]
    rw[ag]at z;split at q
    ·rename_i N;rw[iP N]at z;rw[getElem?_append]at q;rw[Array.getElem?_append,hf]at z;split at q
     ·rename_i O;rw[iP O]at z;exact(ae i y v q z).ext M
     rename_i O;rw[iN O]at z;obtain⟨j,hj⟩:∃j,j=i-first.length:=⟨_,rfl⟩
     rw[<-hj]at q z;cases j with
     |zero=>
      simp only[getElem?_cons_zero,oI]at q;have Fh:Value.func (.yield (w1.heap.size+1)) #[] #[]=v:=by simpa using z
      subst q;subst Fh;exact .Dt _ ⟨w1.heap.size+1,0,0,0⟩ C
     |succ j=>simp at q
    rename_i N;rw[iN N]at z;exact(CG _ y v q z).ext M
   have hH:Fc c.m.next (w1.heap.size+1) rec c.t ((W.CL w1.heap.size (.deferred (some []))).CL (w1.heap.size+1) (.loop rec)) k f:=
    ⟨le_trans A.base.below.size (Nat.le_succ _),Aq.Dc _ _ _,by rw[d];exact t1.ext M,C⟩
   have B:=hC _ k f hH _ _ r3 aa;refine⟨w1.heap.size+1,[fP w1.heap.size],(w1.alloc (.deferred (some []))).alloc (.loop rec),{ target:=.fn (.func gf) vc,args:=vf ++ #[.func (.yield (w1.heap.size+1)) #[] #[]] },(w1.alloc (.deferred (some []))).alloc (.loop rec),gf,vf ++ #[.func (.yield (w1.heap.size+1)) #[] #[]]++vc,(w1.alloc (.deferred (some []))).alloc (.loop rec),?_,?_,λ_ _=>trivial,?_,(λhh=>absurd hh (by simp[Fence.wide])),?_⟩
   ·have:=run_enterLoop_outer (P:=P) (w:=w1) fn L.tmps ps Ed bd;rw[<-d]at this;exact this
   ·simp only[resolve,rangeCall,ai,Deferred.ofValue,Sem.run_pure];have he:(#[Operand.const (Value.func (.yield (w1.heap.size+1)) #[] #[])]:Array Operand).map L.eval = #[.func (.yield (w1.heap.size+1)) #[] #[]]:=by
     simp[Act.eval]
    rw[he]
   ·simp only[invoke,callFunc];cases r:fb.body with
    |none=>grind
    |some b=>simp[program,Sem.run,ad,r];simpa using F
   refine(callsIn_wide.2 B:CallsIn Fence.wide (0-1) P gf _ _ _) |> λU=>⟨U.1,λcs I=>?_⟩;obtain⟨e,w',fr,hS,s,x⟩:=U.2 cs I;refine⟨e,w',fr,?_,s,x⟩;obtain⟨v,rr,m2,al,an,rfl,e2,k2,r4,_,n2,q⟩:=hS;have kL:Bq c.m.next p f:=λb r h0=>by grind
   have J:σ.m.next<=(c.m.at (c.m.next+1)).next:=by simp only[Mem.GQ];omega
   have hw:=r4.base.Ci _ _ (Aq.Dc _ _ _);have V:=run_endLoop (P:=P) hw (by rw[d];simp);have G:rec.pending=none:=by rw[d]
   refine⟨none,w'.putObj (w1.heap.size+1) (.loop { rec with state:=.exhausted }),by rw[V,G],?_⟩;have r5:=r4.Qc (Aq.Dc _ _ _) hH.1 (by grind) (.loop { rec with state:=.exhausted });rw[Aq.Fb]at r5;have r6:=r5.RC (by rw[Aq.BN (by omega)];exact A.RD (by omega));have aj:=mP (P:=P) (n:=0) (D:=[fP w1.heap.size]) Open.wide (H:=λ_ _ _=>True) (λ_ _ _ _ _ _ _=>trivial) (Ve Open.wide) (VD Open.wide) y _ _ q (W.CL w1.heap.size (.deferred (some []))) al an trivial
    { L with defers:=[fP w1.heap.size]++L.defers } _ r6 ((t1.ext M).ext e2) (by simp[d1])
   refine wpIn_mono aj ?_;rintro e a3 w3 ⟨Y,am,ao,e3,k3,n3,r7,t3,d3,S⟩;have T:K Y->(e=.normal\/e=.ret)->PF W Φ ρ σ.m.next K e a3 w3:=λhk he=>
    ⟨he,Y,am,ao,((e1.trans M).trans e2).trans e3,((k1.trans kL n1).trans k2 J).trans k3 (le_trans J n2),le_trans J (le_trans n2 n3),t3,hk,
     .inr ⟨w1.heap.size,d3,A.base.below.size,A.RD (lR _),r7⟩⟩
   cases e with
   |normal=>exact T S (.inl rfl)
   |ret=>exact T S (.inr rfl)
   |exit i=>exact S.elim
   |goto l=>exact S.elim
   |panic ch=>exact S.elim
   |outgrown=>exact S.elim
theorem Zxt{f:FuncId}{fn:Func}{c:Code}{y:List (Nat×Option (Option Nat))}{args:List Aa}{m:Mem}{o:List Nat}{K:Aa->Mem->Prop}(A:P.funcs[f]?=some fn)(l:fn.body=some c)
 (i:(fn.name == "runtime.NumGoroutine")=false) (C:KG P fn.results.toList=some y)
 (h:AR P c (λσ=>match I6 σ.t σ.m y with|some r=>K r σ.m|none=>False) ⟨args++replicate (fn.ntmps-args.length) Ai,m⟩):Aw P f args m o K:=by
 refine⟨⟨fn,A,i,by rw[l];rfl⟩,λW Φ ρ vs w S N V=>?_⟩;have T:=h W Φ ρ { tmps:=vs++Array.replicate (fn.ntmps-vs.size) undef,defers:=[] } w S (Ss N) rfl;refine callsIn_wide.1 (callsIn_of_wp_marks (n:=0) A l trivial (wpIn_mono T ?_));rintro e a w' ⟨O,σ,d,ρ',H,I,J,L,q,g⟩;have p:∀w2,Rel W d ρ' σ.m w2->LeavesInM Fence.wide 0 P fn a.tmps (λe w'=>∃v r m' d ρ',e=.returned v/\Ext Φ ρ d ρ'/\(∀b,b<m.next->b∉o->ρ b=none->ρ' b=none) /\
  Rel W d ρ' m' w'/\R d ρ' r v/\m.next<=m'.next/\K r m') [] .returning w2:=by
  intro w2 j;cases s:I6 σ.t σ.m y with
  |none=>simp[s]at q
  |some r=>
   simp only[s]at q;obtain⟨u,E,F⟩:=QO j L C s;exact⟨u,E,u,r,σ.m,d,ρ',rfl,H,λb l _ G=>I b l G,j,F,J,q⟩
 have k:LeavesInM Fence.wide 0 P fn a.tmps (λe w'=>∃v r m' d ρ',e=.returned v/\Ext Φ ρ d ρ'/\(∀b,b<m.next->b∉o->ρ b=none->ρ' b=none) /\
  Rel W d ρ' m' w'/\R d ρ' r v/\m.next<=m'.next/\K r m') a.defers .returning w':=by
  rcases g with⟨z,j⟩|⟨D,z,M,Q,j⟩
  ·grind
  rw[z];have U:=j.base.Ci _ _ (Aq.Dc _ _ _);have B:=(j.Qc (Aq.Dc _ _ _) M (by grind) (.deferred none));rw[Aq.Fb]at B;exact⟨by simp,.inl ⟨D,_,rfl,run_takeDeferred U,p _ (B.RC Q)⟩⟩
 rcases O with rfl|rfl
 ·exact k
 exact k
end
def H9(get:Nat→Option Af):Aa→Option (List Aa×Nat)
 | .ptr b i j=>match get b with
  | some (.cells _ els)=>match els[i]? with
   | some row=>some (row,j)
   | none=>none
  | _=>none
 | .Bc els i j=>match els[i]? with
  | some row=>some (row,j)
  | none=>none
 | _=>none
def K4(get:Nat→Option Af)(n:Option Nat)(x:Aa):Option Aa:=
 match H9 get x with
 | some (row,j)=>match n with
  | none=>row[j]?
  | some n=>if 0<n∧j+n≤row.length then some (.agg ((row.drop j).take n))else none
 | none=>none
def C3(get:Nat→Option Af)(n:Nat)(x v:Aa):Option (List (Nat×Option Af)):=
 match x,v.cells with
 | .ptr b i j,some cs=>match get b with
  | some (.cells k els)=>match els[i]? with
   | some row=>if cs.length=n∧j+n≤row.length∧cs.all Aa.one then some [(b,some (.cells k (els.set i (K5 row j cs))))]else none
   | none=>none
  | _=>none
 | _,_=>none
def N7(get:Nat→Option Af)(k:Nat):Aa→Option (List (List Aa))
 | .Aj | .emp=>some []
 | .Al els=>if els.all (·.length == k)then some els else none
 | .sl b off len=>match get b with
  | some (.cells k' els)=>if k'=k∧off+len≤els.length then some ((els.drop off).take len)else none
  | _=>if len=0 then some []else none
 | _=>none
def I1(get:Nat→Option Af)(k:Nat):Aa→Option (List (List Aa))
 | .str s=>if k=1 then some (s.map aL)else none
 | x=>N7 get k x
def JF(e:Ah→Aa)(d:Nat):Option Ah→Option Nat
 | none=>some d
 | some x=>S6 (e x)
def W4(id k bytes:Nat)(get:Nat→Option Af)(s:Aa)(xs:List (List Aa)):Option (Aa×List (Nat×Option Af)):=
 match s with
 | .Aj=>if xs=[]then some (.Aj,[])else if xs.length≤W6∧bytes≤W6 then some (.sl id 0 xs.length,[(id,some (.cells k xs))])else none
 | .emp=>if xs=[]then some (.emp,[])else if xs.length≤W6∧bytes≤W6 then some (.sl id 0 xs.length,[(id,some (.cells k xs))])else none
 | .sl b off len=>match get b with
  | some (.cells k' els)=>
   if k'=k∧off+len≤els.length∧(els.length=off+len∨off+len+xs.length≤els.length)then
    if off+len+xs.length≤els.length then
     some (.sl b off (len+xs.length),[(b,some (.cells k (els.take (off+len)++xs++els.drop (off+len+xs.length))))])
    else if len+xs.length≤W6∧bytes≤W6 then
     some (.sl id 0 (len+xs.length),[(b,none),(id,some (.cells k ((els.drop off).take len++xs)))])
    else none
   else none
  | _=>none
 | _=>none
def F8(e:Ah→Aa)(len FR:Nat)(lo hi:Option Ah):Option (Nat×Nat):=
 match JF e len hi with
 | some h=>if h≤FR then match JF e 0 lo with
  | some l=>if l≤h then some (l,h)else none
  | none=>none
  else none
 | none=>none
def Ak(id:Nat)(e:Ah→Aa)(get:Nat→Option Af):Ba→Option (Aa×List (Nat×Option Af))
 | .Gl x=>some (e x,[])
 | .pick c a b=>match e c with
  | .bool true=>some (e a,[])
  | .bool false=>some (e b,[])
  | _=>none
 | .box x=>match (e x).cells with
  | some cs=>if cs.all Aa.one then some (.ptr id 0 0,[(id,some (.cells cs.length [cs]))])else none
  | none=>none
 | .alloc zero=>some (.ptr id 0 0,[(id,some (.cells zero.length [zero]))])
 | .build zero parts=>match B0 zero (parts.map fun p=>(p.1,p.2.1,e p.2.2))with
  | some cs=>some (.agg cs,[])
  | none=>none
 | .Dq k len zero parts=>match H3 k (replicate len zero) (parts.map fun p=>(p.1,e p.2))with
  | some els=>some (.sl id 0 len,[(id,some (.cells k els))])
  | none=>none
 | .load n x=>match K4 get n (e x)with
  | some v=>some (v,[])
  | none=>none
 | .store n a x=>match C3 get n (e a) (e x)with
  | some d=>some (Ai,d)
  | none=>none
 | .CJ x=>match e x with
  | .ptr b i j=>some (.ptr b i j,[])
  | .Bc els i j=>some (.Bc els i j,[])
  | .func (.func f) a b=>some (.func (.func f) a b,[])
  | _=>none
 | .bin op q x y=>match W5 op q (e x) (e y)with
  | some v=>some (v,[])
  | none=>none
 | .un op x=>match Gy op (e x)with
  | some v=>some (v,[])
  | none=>none
 | .Dp k x=>match e x with
  | .int _ n=>some (.int k (k.wrap n),[])
  | _=>none
 | .Ef x=>match e x with
  | .str s=>some (.str s,[])
  | _=>none
 | .toStr x=>match N7 get 1 (e x)with
  | some rows=>match OV rows with
   | some s=>some (.str s,[])
   | none=>none
  | none=>none
 | .DL fn first captured=>some (.func fn (first.map e) (captured.map e),[])
 | .mkMap=>some (.map id,[(id,some (.map [] 0))])
 | .CI k bytes zero len cap=>match S6 (e len),S6 (e cap)with
  | some l,some c=>if l≤c∧c≤W6∧bytes≤W6 then some (.sl id 0 l,[(id,some (.cells k (replicate c zero)))])else none
  | _,_=>none
 | .FZ x lo hi=>match e x with
  | .str s=>match F8 e s.length s.length lo hi with
   | some (l,h)=>some (.str ((s.take h).drop l),[])
   | none=>none
  | _=>none
 | .Er k x lo hi mx=>match mx with
  | some z=>match S7 (e x),JF e 0 (some z),JF e 0 lo,hi with
   | some n,some mx,some l,some h=>match S6 (e h)with
    | some h=>if l≤h∧h≤mx∧mx≤n then (if mx=0 then some (.emp,[])else some (.bot,[]))else none
    | none=>none
   | _,_,_,_=>none
  | none=>match e x with
   | .Aj=>match F8 e 0 0 lo hi with
    | some _=>some (.Aj,[])
    | none=>none
   | .emp=>match F8 e 0 0 lo hi with
    | some _=>some (.emp,[])
    | none=>none
   | .Al els=>if els.all (·.length == k)then match F8 e els.length els.length lo hi with
    | some (l,h)=>some (.Al ((els.take h).drop l),[])
    | none=>none
    else none
   | .sl b off len=>match get b with
    | some (.cells k' els)=>if k'=k∧off+len≤els.length then match F8 e len (els.length - off) lo hi with
     | some (l,h)=>some (.sl b (off+l) (h - l),[])
     | none=>none
     else none
    | _=>none
   | _=>none
 | .CM ..=>none
 | .Cg off x=>match I4 off (e x)with
  | some v=>some (v,[])
  | none=>none
 | .field off n x=>match e x with
  | .agg cs=>match Ld cs off n with
   | some v=>some (v,[])
   | none=>none
  | _=>none
 | .Dk k x i=>match e x,S6 (e i)with
  | .sl b off len,some i=>match get b with
   | some (.cells k' _)=>if k'=k∧i<len then some (.ptr b (off+i) 0,[])else none
   | _=>none
  | .Al els,some i=>match els[i]? with
   | some row=>if row.length=k then some (.Bc els i 0,[])else none
   | none=>none
  | _,_=>none
 | .Fi n k x i=>match S6 (e i)with
  | some i=>if i<n then match I4 (i*k) (e x)with
   | some v=>some (v,[])
   | none=>none
   else none
  | none=>none
 | .Ej x i=>match e x,S6 (e i)with
  | .str s,some i=>match s[i]? with
   | some c=>some (.int .u8 c.toNat,[])
   | none=>none
  | _,_=>none
 | .Ei n k sz x i=>match e x,S6 (e i)with
  | .agg cs,some i=>if i<n then match Ld cs (i*k) sz with
   | some v=>some (v,[])
   | none=>none
   else none
  | _,_=>none
 | .lookup kt zero ok x i=>match (match e x with
  | .AF=>some []
  | .map b=>match get b with
   | some (.map es _)=>some es
   | _=>none
  | _=>none)with
  | some es=>match D1 kt (e i) es with
   | some r=>
    let v:=match r with
     | some (_,v,_)=>v
     | none=>zero
    some (if ok then .tuple [v,.bool r.isSome]else v,[])
   | none=>none
  | none=>none
 | .BX kt mp k v=>match e mp with
  | .map b=>match get b with
   | some (.map es clock)=>match D1 kt (e k) es with
    | some (some (i,_,born))=>some (Ai,[(b,some (.map (es.set i (e k,e v,born)) clock))])
    | some none=>some (Ai,[(b,some (.map (es++[(e k,e v,clock)]) (clock+1)))])
    | none=>none
   | _=>none
  | _=>none
 | .FO ..=>none
 | .Hq ..=>none
 | .delete ..=>none
 | .range _=>none
 | .Hx _=>none
 | .Gx _=>none
 | .ext x i=>match e x with
  | .tuple vs=>match vs[i]? with
   | some v=>some (v,[])
   | none=>none
  | _=>none
 | .call _ _=>none
 | .append k bytes _ s x=>match I1 get k (e x)with
  | some xs=>W4 id k bytes get (e s) xs
  | none=>none
 | .BI ..=>none
 | .copy k d s=>match e d,I1 get k (e s)with
  | .sl b off len,some xs=>match get b with
   | some (.cells k' els)=>if k'=k∧off+len≤els.length then
    let n:=min xs.length len
    some (.int .i64 n,[(b,some (.cells k (els.take off++xs.take n++els.drop (off+n))))])
    else none
   | _=>none
  | _,_=>none
 | .clear k zero x=>match e x with
  | .sl b off len=>match get b with
   | some (.cells k' els)=>if k'=k∧off+len≤els.length then
    some (Ai,[(b,some (.cells k (els.take off++replicate len zero++els.drop (off+len))))])
    else none
   | _=>none
  | .Aj=>some (Ai,[])
  | .emp=>some (Ai,[])
  | _=>none
 | .El x=>match e x with
  | .str s=>some (.int .i64 s.length,[])
  | _=>none
 | .BW x=>match S7 (e x)with
  | some n=>some (.int .i64 n,[])
  | none=>none
 | .CH x=>match e x with
  | .AF=>some (.int .i64 0,[])
  | .map b=>match get b with
   | some (.map es _)=>some (.int .i64 es.length,[])
   | _=>none
  | _=>none
 | .Ek n=>some (.int .i64 n,[])
 | .Dj _=>none
 | .Da mx xs=>match xs with
  | []=>none
  | x :: r=>match Nk mx (e x) (r.map e)with
   | some v=>some (v,[])
   | none=>none
 | .iface ty x=>some (.iface ty (e x),[])
 | .dead=>none
def Mem.apply(m:Mem):List (Nat×Option Af)→Mem
 | []=>m
 | (b,some x) :: r=>(m.set b x).apply r
 | (b,none) :: r=>(m.del b).apply r
section
variable {m:Mem} {t:List Aa} {id:Nat}
theorem Ymn(x:Aa):rowAt m x=H9 m.get x:=by cases x<;>rfl
theorem mT(n:Option Nat)(x:Aa):Pu m n x=K4 m.get n x:=by rfl
theorem Zxq(k:Nat)(x:Aa):G8 m k x=N7 m.get k x:=by cases x<;>rfl
theorem oC(k:Nat)(x:Aa):J0 m k x=I1 m.get k x:=by rfl
theorem Yjl(d:Nat)(o:Option Ah):C7 t d o=JF (ev t) d o:=by cases o<;>rfl
theorem zf(n a:Nat)(lo hi:Option Ah):F0 t n a lo hi=F8 (ev t) n a lo hi:=by
 rfl
theorem Z87{n:Nat}{x v:Aa}{d:List (Nat×Option Af)}(h:C3 m.get n x v=some d):Pn m n x v=some (m.apply d):=by
 cases x<;>simp only[C3]at h<;>first|(cases h;done)|skip
 rename_i b i j;cases c:v.cells with
 |none=>simp[c]at h
 |some cs=>
  simp only[c]at h;cases e:m.get b with
  |none=>simp[e]at h
  |some blk=>
   cases blk<;>simp only[e]at h<;>first|(cases h;done)|skip
   rename_i k els;cases f:els[i]? with
   |none=>simp[f]at h
   |some row=>
    simp only[f]at h;split at h<;>first|(cases h;done)|skip
    rename_i a;injection h with h
    subst h;simp only[Pn,c,e,f];rw[iP a];rfl
theorem Ydv{k a:Nat}{s:Aa}{xs:List (List Aa)}{r:Aa}{d:List (Nat×Option Af)}(h:W4 id k a m.get s xs=some (r,d)):D5 id k a m s xs=some (r,m.apply d):=by
 cases s<;>simp only[W4]at h<;>first|(cases h;done)|skip
 ·split at h
  ·rename_i c;cases h;simp only[D5,c,if_true,Mem.apply]
  rename_i c;split at h<;>first|(cases h;done)|skip
  rename_i e;cases h;simp only[D5,c,if_false];rw[iP e];rfl
 ·split at h
  ·rename_i c;cases h;simp only[D5,c,if_true,Mem.apply]
  rename_i c;split at h<;>first|(cases h;done)|skip
  rename_i e;cases h;simp only[D5,c,if_false];rw[iP e];rfl
 rename_i b off len;cases f:m.get b with
 |none=>simp[f]at h
 |some blk=>
  cases blk<;>simp only[f]at h<;>first|(cases h;done)|skip
  rename_i j els;split at h<;>first|(cases h;done)|skip
  rename_i i;simp only[D5,f];rw[iP i];split at h
  ·rename_i e;rw[iP e];cases h;rfl
  rename_i e;rw[iN e];split at h<;>first|(cases h;done)|skip
  rename_i g;rw[iP g];cases h;rfl
theorem JO{op:Ba}{v:Aa}{d:List (Nat×Option Af)}(h:Ak id (ev t) m.get op=some (v,d)):Ae id t m op=some (v,m.apply d):=by
 cases op with
 |store n a x=>
  simp only[Ak]at h;split at h<;>first|(cases h;done)|skip
  rename_i l j;cases h;simp only[Ae,Z87 j]
 |append k c z s x=>
  simp only[Ak]at h;split at h<;>first|(cases h;done)|skip
  rename_i xs f;simp only[Ae,oC,f];exact Ydv h
 |lookup o z ok x i=>
  simp only[Ak]at h;simp only[Ae];generalize ev t x=y at *;cases y<;>simp only at h ⊢ <;> first|(cases h;done)|skip
  case map b=>
   cases g:m.get b with
   |none=>simp[g]at h
   |some blk=>
    cases blk<;>simp only[g]at h ⊢ <;> first|(cases h;done)|skip
    split at h<;>first|(cases h;done)|skip
    rename_i e;cases h;simp only[e,Mem.apply];rfl
  all_goals
   split at h<;>first|(cases h;done)|skip
   rename_i e;cases h;simp only[e,Mem.apply];rfl
 |_=>
  simp only[Ak]at h
  first
   | (cases h;done)
   | (cases h;rfl)
   | ((repeat' (split at h<;>first|(cases h;done)|skip))<;>(cases h;simp_all[Ae,Mem.apply,mT,Zxq,oC,zf,Yjl];try omega))
end
inductive Tr (α:Type) where
 | nil
 | node (l:Tr α) (v:Option α) (r:Tr α)
def Tr.get{α:Type}:Tr α→Nat→Option α
 | .nil,_=>none
 | .node l v r,n=>bif beq n 0 then v else bif beq (mod n 2) 1 then l.get (div n 2)else r.get (Nat.sub (div n 2) 1)
def Tr.set{α:Type}:Nat→Tr α→Nat→Option α→Tr α
 | 0,t,_,_=>t
 | d+1,.nil,n,x=>bif beq n 0 then .node .nil x .nil else bif beq (mod n 2) 1 then .node (Tr.set d .nil (div n 2) x) none .nil else .node .nil none (Tr.set d .nil (Nat.sub (div n 2) 1) x)
 | d+1,.node l v r,n,x=>bif beq n 0 then .node l x r else bif beq (mod n 2) 1 then .node (Tr.set d l (div n 2) x) v r else .node l v (Tr.set d r (Nat.sub (div n 2) 1) x)
abbrev depth:Nat:=22
abbrev bound:Nat:=1000000
structure TM where
 tr:Tr Af
 next:Nat
def TM.mem(m:TM):Mem:=⟨m.tr.get,m.next⟩
def TM.set(m:TM)(b:Nat)(x:Option Af):TM:=⟨m.tr.set depth b x,m.next⟩
def TM.apply(m:TM):List (Nat×Option Af)→TM
 | []=>m
 | (b,x) :: r=>(m.set b x).apply r
def CS(t:Tr Aa):Ah→Aa
 | .tmp i=>match t.get i with
  | some v=>v
  | none=>Ai
 | .const v=>v
 | .fn f=>.func (.func f) [] []
def O9(t:Tr Aa)(d:Option Nat)(v:Aa):Tr Aa:=
 match d with
 | some d=>t.set depth d (some v)
 | none=>t
def QN(t:Tr Aa):Option (Nat×Bool)→Option Bool
 | none=>some true
 | some (d,w)=>match CS t (.tmp d)with
  | .bool b=>some (b == w)
  | .tuple []=>some false
  | _=>none
def UA(t:Tr Aa)(f:Ah)(xs:List Ah):Option (FuncId×List Aa):=
 match CS t f with
 | .func (.func g) first cap=>some (g,first++xs.map (CS t)++cap)
 | _=>none
structure RS where
 t:Tr Aa
 m:TM
 wl:List Nat
def Hi:List (Nat×Option Af)→Bool
 | []=>true
 | (b,_) :: r=>bif ble bound b then false else Hi r
def Zy(id:Nat):List Nat→Bool
 | []=>true
 | c :: r=>bif ble bound c then false else bif beq c id then false else Zy id r
def ES(lim:Nat)(wl:List Nat):List (Nat×Option Af)→List Nat
 | []=>wl
 | (b,_) :: r=>bif ble lim b then ES lim wl r else ES lim (b :: wl) r
def Hp(lim:Nat)(wl:List Nat):List Nat→List Nat
 | []=>wl
 | b :: r=>bif ble lim b then Hp lim wl r else Hp lim (b :: wl) r
abbrev Ax:=FuncId→List Aa→TM→Option (Aa×TM×List Nat)
def A3(x:Nat):List Nat→Bool
 | []=>false
 | y :: r=>bif beq x y then true else A3 x r
def Pg:List Nat→List Nat→Bool
 | [],_=>true
 | x :: r,l=>bif A3 x l then false else Pg r l
def SG(n:Nat):List Nat→Bool
 | []=>true
 | x :: r=>bif ble n x then false else SG n r
def Ml:List Nat→List Nat→Bool
 | [],_=>true
 | x :: r,l=>bif A3 x l then Ml r l else false
def FT.Iy:FT→FT→Bool
 | .ops w r,.ops w' r'=>Pg w (r'++w')&&Pg r w'
 | .ops w r,.call wl x nx=>Pg r wl&&SG nx r&&Pg w wl&&SG nx w&&Ml w x
 | .call wl x nx,.ops w r=>Pg r wl&&SG nx r&&Pg w wl&&SG nx w&&Ml w x
 | .call _ _ _,.call _ _ _=>false
def QJ(fs:List FT)(ft:FT):List Nat→Bool
 | []=>true
 | i :: r=>FT.Iy (fs.getD i (.ops [] [])) ft&&QJ fs ft r
def Fa(call:Ax)(lim base:Nat):List Ag→Nat→RS→Option RS
 | [],_,s=>some s
 | o :: r,i,s=>
  match QN s.t o.guard with
  | some false=>Fa call lim base r (i+1) { s with t:=O9 s.t o.dst Ai }
  | some true=>
   match o.op with
   | .call f xs=>match UA s.t f xs with
    | some (g,args)=>match call g args s.m with
     | some (v,m',wl)=>Fa call lim base r (i+1) ⟨O9 s.t o.dst v,m',Hp lim s.wl wl⟩
     | none=>none
    | none=>none
   | op=>match Ak (base+i) (CS s.t) s.m.tr.get op with
    | some (v,[])=>Fa call lim base r (i+1) ⟨O9 s.t o.dst v,s.m,s.wl⟩
    | some (v,d)=>bif Hi d then Fa call lim base r (i+1) ⟨O9 s.t o.dst v,s.m.apply d,ES lim s.wl d⟩ else none
    | none=>none
  | none=>none
def aM(base i:Nat):List Ag→Nat→List Nat
 | [],_=>[]
 | o :: r,j=>bif A3 i o.un then (base+j) :: aM base i r (j+1)else aM base i r (j+1)
def JT(m:TM):List Nat→TM
 | []=>m
 | c :: r=>JT (m.set c none) r
def Mu(m0:TM):TM→List Nat→TM
 | m,[]=>m
 | m,c :: r=>Mu m0 (m.set c (m0.tr.get c)) r
def Xn(m:TM):List Nat→Bool
 | []=>true
 | c :: r=>match m.tr.get c with
  | none=>Xn m r
  | some _=>false
def S9(id:Nat)(e:Ah→Aa):Ba→List Nat
 | .append _ _ _ s _=>id :: W9 (e s)
 | .copy _ d _=>W9 (e d)
 | .store _ a _=>W9 (e a)
 | .BX _ m _ _=>W9 (e m)
 | .clear _ _ x=>W9 (e x)
 | .box _ | .alloc _ | .Dq _ _ _ _ | .mkMap | .CI _ _ _ _ _=>[id]
 | _=>[]
def S8(e:Ah→Aa):Ba→List Nat
 | .append _ _ _ _ x=>W9 (e x)
 | .copy _ _ s=>W9 (e s)
 | .load _ x | .toStr x | .lookup _ _ _ x _ | .CH x | .Er _ x _ _ _ | .Dk _ x _=>W9 (e x)
 | _=>[]
def FY(call:Ax)(lim base:Nat):List Ag→List FT→RS→Option RS
 | [],_,s=>some s
 | o :: r,fs,s=>
  match QN s.t o.guard with
  | some false=>FY call lim base r (fs++[.ops [] []]) { s with t:=O9 s.t o.dst Ai }
  | some true=>
   match o.op with
   | .call f xs=>match UA s.t f xs with
    | some (g,args)=>
     let x:=o.un.map (base + ·)++aM base fs.length r (fs.length+1)
     match call g args (JT s.m x)with
     | some (v,m',wl)=>bif QJ fs (.call wl x s.m.next) o.un&&Zy (base+fs.length) x&&Xn m' x then FY call lim base r (fs++[.call wl x s.m.next]) ⟨O9 s.t o.dst v,Mu s.m m' x,Hp lim s.wl wl⟩ else none
     | none=>none
    | none=>none
   | op=>match Ak (base+fs.length) (CS s.t) s.m.tr.get op with
    | some (v,d)=>
     let ft:=FT.ops (S9 (base+fs.length) (CS s.t) op) (S8 (CS s.t) op)
     bif QJ fs ft o.un&&Hi d then FY call lim base r (fs++[ft]) ⟨O9 s.t o.dst v,s.m.apply d,ES lim s.wl d⟩ else none
    | none=>none
  | none=>none
inductive Dn where
 | normal
 | exit (n:Nat)
 | ret
def P3(call:Ax)(lim:Nat):Nat→An→RS→Option (Dn×RS)
 | 0,_,_=>none
 | f+1,c,s=>
  match c with
  | .skip | .label _=>some (.normal,s)
  | .region false ops=>
   bif ble (s.m.next+ops.length) bound then match Fa call lim s.m.next ops 0 ⟨s.t,⟨s.m.tr,s.m.next+ops.length⟩,s.wl⟩ with
    | some s'=>some (.normal,s')
    | none=>none
   else none
  | .region true ops=>
   bif ble (s.m.next+ops.length) bound then match FY call lim s.m.next ops [] ⟨s.t,⟨s.m.tr,s.m.next+ops.length⟩,s.wl⟩ with
    | some s'=>some (.normal,s')
    | none=>none
   else none
  | .seq a b=>match P3 call lim f a s with
   | some (.normal,s')=>P3 call lim f b s'
   | r=>r
  | .cond c a b=>match CS s.t c with
   | .bool true=>P3 call lim f a s
   | .bool false=>P3 call lim f b s
   | _=>none
  | .block id c=>match P3 call lim f c s with
   | some (.exit n,s')=>bif beq n id then some (.normal,s')else some (.exit n,s')
   | r=>r
  | .loop c=>match P3 call lim f c s with
   | some (.normal,s')=>P3 call lim f (.loop c) s'
   | r=>r
  | .exit n=>some (.exit n,s)
  | .scope c=>P3 call lim f c s
  | .ret=>some (.ret,s)
  | .bad=>none
def WX(t:Tr Aa)(m:TM):Nat×Option (Option Nat)→Option Aa
 | (i,none)=>some (CS t (.tmp i))
 | (i,some n)=>K4 m.tr.get n (CS t (.tmp i))
def cF(t:Tr Aa)(m:TM):List (Nat×Option (Option Nat))→Option (List Aa)
 | []=>some []
 | x :: r=>match WX t m x,cF t m r with
  | some y,some ys=>some (y :: ys)
  | _,_=>none
def EH(t:Tr Aa)(m:TM):List (Nat×Option (Option Nat))→Option Aa
 | [x]=>WX t m x
 | xs=>match cF t m xs with
  | some ys=>some (.tuple ys)
  | none=>none
def D8:Tr Aa→Nat→List Aa→Tr Aa
 | t,_,[]=>t
 | t,i,x :: r=>D8 (t.set depth i (some x)) (i+1) r
def Gp(BS:Nat→Option AD)(Jq:Ax):Nat→Ax
 | 0,_,_,_=>none
 | f+1,g,args,m=>
  match Jq g args m with
  | some r=>some r
  | none=>match BS g with
   | some af=>bif ble args.length af.ntmps then match P3 (Gp BS Jq f) m.next 1000 af.body ⟨D8 .nil 0 args,m,[]⟩ with
    | some (.exit _,_)=>none
    | some (_,s)=>match EH s.t s.m af.results with
     | some v=>some (v,s.m,s.wl)
     | none=>none
    | none=>none
    else none
   | none=>none
def I0(n:Nat):An→Bool
 | .region _ ops=>ops.all fun o=>match o.dst with
  | some d=>decide (d<n)
  | none=>true
 | .seq a b | .cond _ a b=>I0 n a&&I0 n b
 | .block _ c | .loop c | .scope c=>I0 n c
 | _=>true
theorem Tr.get_nil{α:Type}(n:Nat):(Tr.nil:Tr α).get n=none:=rfl
theorem Tr.CF{α:Type}(l:Tr α)(v:Option α)(r:Tr α)(n:Nat):(Tr.node l v r).get n=if n=0 then v else if n%2=1 then l.get (n / 2)else r.get (n / 2-1):=by
 show(bif beq n 0 then v else bif beq (n%2) 1 then l.get (n / 2)else r.get (n / 2-1))=_;by_cases b:n=0
 ·subst b;rfl
 have d:beq n 0=false:=by
  cases c:beq n 0 with
  |false=>rfl
  |true=>exact absurd (eq_of_beq_eq_true c) b
 rw[iN b,d];simp only[cond_false];by_cases a:n%2=1
 ·rw[iP a,a];rfl
 rw[iN a];have:beq (n%2) 1=false:=by
  cases c:beq (n%2) 1 with
  |false=>rfl
  |true=>exact absurd (eq_of_beq_eq_true c) a
 rw[this];rfl
theorem Tr.set_nil{α:Type}(d n:Nat)(x:Option α):Tr.set (d+1) .nil n x=if n=0 then .node .nil x .nil else if n%2=1 then .node (Tr.set d .nil (n / 2) x) none .nil else .node .nil none (Tr.set d .nil (n / 2-1) x):=by
 show(bif beq n 0 then _ else bif beq (n%2) 1 then _ else _)=_;by_cases b:n=0
 ·subst b;rfl
 have e:beq n 0=false:=by
  cases c:beq n 0 with
  |false=>rfl
  |true=>exact absurd (eq_of_beq_eq_true c) b
 rw[iN b,e];simp only[cond_false];by_cases a:n%2=1
 ·rw[iP a,a];rfl
 have f:beq (n%2) 1=false:=by
  cases c:beq (n%2) 1 with
  |false=>rfl
  |true=>exact absurd (eq_of_beq_eq_true c) a
 rw[iN a,f];rfl
theorem Tr.Mj{α:Type}(d n:Nat)(l:Tr α)(v:Option α)(r:Tr α)(x:Option α):Tr.set (d+1) (.node l v r) n x=if n=0 then .node l x r else if n%2=1 then .node (Tr.set d l (n / 2) x) v r else .node l v (Tr.set d r (n / 2-1) x):=by
 show(bif beq n 0 then _ else bif beq (n%2) 1 then _ else _)=_;by_cases b:n=0
 ·subst b;rfl
 have e:beq n 0=false:=by
  cases c:beq n 0 with
  |false=>rfl
  |true=>exact absurd (eq_of_beq_eq_true c) b
 rw[iN b,e];simp only[cond_false];by_cases a:n%2=1
 ·rw[iP a,a];rfl
 have f:beq (n%2) 1=false:=by
  cases c:beq (n%2) 1 with
  |false=>rfl
  |true=>exact absurd (eq_of_beq_eq_true c) a
 rw[iN a,f];rfl
theorem Tr.AB{α:Type}:∀(d:Nat) (t:Tr α) (n:Nat) (x:Option α) (k:Nat),n+1<2 ^ d->(Tr.set d t n x).get k=if k=n then x else t.get k
 |0,_,n,_,_,h=>by simp at h
 |d+1,t,n,x,k,h=>by
  rw[Nat.pow_succ]at h;cases t with
  |nil=>
   rw[Tr.set_nil,Tr.get_nil];by_cases e:n=0
   ·subst e;rw[iP rfl,Tr.CF,Tr.get_nil,Tr.get_nil];split<;>simp
   rw[iN e];by_cases f:n%2=1
   ·rw[iP f,Tr.CF,Tr.get_nil];by_cases a:k=0
    ·subst a;rw[iP rfl,iN (by omega)]
    rw[iN a];by_cases b:k%2=1
    ·rw[iP b,Tr.AB d .nil (n / 2) x (k / 2) (by omega),Tr.get_nil];by_cases c:k=n
     ·subst c;simp
     rw[iN c,iN (by omega)]
    rw[iN b,iN (by omega)]
   rw[iN f,Tr.CF,Tr.get_nil];by_cases a:k=0
   ·subst a;rw[iP rfl,iN (by omega)]
   rw[iN a];by_cases b:k%2=1
   ·rw[iP b,iN (by omega)]
   rw[iN b,Tr.AB d .nil (n / 2-1) x (k / 2-1) (by omega),Tr.get_nil];by_cases c:k=n
   ·subst c;simp
   rw[iN c,iN (by omega)]
  |node l v r=>
   rw[Tr.Mj,Tr.CF];by_cases e:n=0
   ·subst e;rw[iP rfl,Tr.CF];by_cases a:k=0<;>simp[a]
   rw[iN e];by_cases f:n%2=1
   ·rw[iP f,Tr.CF];by_cases a:k=0
    ·subst a;rw[iP rfl,iP rfl,iN (by omega)]
    rw[iN a,iN a];by_cases b:k%2=1
    ·rw[iP b,iP b,Tr.AB d l (n / 2) x (k / 2) (by omega)];by_cases c:k=n
     ·subst c;simp
     rw[iN c,iN (by omega)]
    rw[iN b,iN b,iN (by omega)]
   rw[iN f,Tr.CF];by_cases a:k=0
   ·subst a;rw[iP rfl,iP rfl,iN (by omega)]
   rw[iN a,iN a];by_cases b:k%2=1
   ·rw[iP b,iP b,iN (by omega)]
   rw[iN b,iN b,Tr.AB d r (n / 2-1) x (k / 2-1) (by omega)];by_cases c:k=n
   ·subst c;simp
   rw[iN c,iN (by omega)]
theorem Qj{b:Nat}(h:b<bound):b+1<2 ^ depth:=by
 simp only[bound,depth]at *;omega
theorem TM.EJ{m:TM}{b:Nat}{x:Af}(h:b<bound):(m.set b (some x)).mem=m.mem.set b x:=
 Mem.ext' (λc=>by simp only[TM.mem,TM.set,Mem.AB,Tr.AB depth _ b _ c (Qj h)]) rfl
theorem TM.Ds{m:TM}{b:Nat}(h:b<bound):(m.set b none).mem=m.mem.del b:=
 Mem.ext' (λc=>by simp only[TM.mem,TM.set,Mem.Bx,Tr.AB depth _ b _ c (Qj h)]) rfl
theorem Xg{a b:Nat}(h:ble a b=false):b<a:=by
 rcases lG b a with c|c
 ·exact c
 rw[Nat.ble_eq_true_of_le c]at h;cases h
theorem yu{b:Nat}{x:Option Af}{r:List (Nat×Option Af)}(h:Hi ((b,x)::r)=true):b<bound/\Hi r=true:=by
 simp only[Hi]at h;cases a:ble bound b with
 |true=>rw[a]at h;cases h
 |false=>rw[a]at h;exact⟨Xg a,h⟩
theorem TM.Cf:∀(d:List (Nat×Option Af)) (m:TM),Hi d=true->(m.apply d).mem=m.mem.apply d
 |[],m,_=>rfl
 | (b,none)::r,m,h=>by
  obtain⟨a,c⟩:=yu h;simp only[TM.apply,Mem.apply];rw[TM.Cf r _ c,TM.Ds a]
 | (b,some x)::r,m,h=>by
  obtain⟨a,c⟩:=yu h;simp only[TM.apply,Mem.apply];rw[TM.Cf r _ c,TM.EJ a]
theorem TM.BM:∀(d:List (Nat×Option Af)) (m:TM),(m.apply d).next=m.next
 |[],_=>rfl
 | (b,x)::r,m=>by simp only[TM.apply];rw[TM.BM r];rfl
theorem Sv{lim:Nat}:∀(d:List (Nat×Option Af)) (wl:List Nat) (m:Mem) (c:Nat),c<lim->c∉ES lim wl d->c∉wl/\(m.apply d).get c=m.get c
 |[],wl,m,c,_,h=>⟨h,rfl⟩
 | (b,x)::r,wl,m,c,g,h=>by
  simp only[ES]at h;have key:∀m':Mem,(c≠b->m'.get c=m.get c)->c≠b->(m'.apply r).get c=m'.get c->(m'.apply r).get c=m.get c:=λm' a e j=>by rw[j,a e]
  cases i:ble lim b with
  |true=>
   rw[i]at h;have f:c≠b:=by
    have:=Nat.le_of_ble_eq_true i;omega
   cases x with
   |none=>
    obtain⟨a,e⟩:=Sv r wl (m.del b) c g h;exact⟨a,by simp only[Mem.apply];rw[e];simp[f]⟩
   |some y=>
    obtain⟨a,e⟩:=Sv r wl (m.set b y) c g h;exact⟨a,by simp only[Mem.apply];rw[e];simp[f]⟩
  |false=>
   rw[i]at h;cases x with
   |none=>
    obtain⟨a,e⟩:=Sv r (b::wl) (m.del b) c g h;simp only[mC,not_or]at a;exact⟨a.2,by simp only[Mem.apply];rw[e];simp[a.1]⟩
   |some y=>
    obtain⟨a,e⟩:=Sv r (b::wl) (m.set b y) c g h;simp only[mC,not_or]at a;exact⟨a.2,by simp only[Mem.apply];rw[e];simp[a.1]⟩
theorem WI{lim:Nat}:∀(d wl:List Nat) (c:Nat),c<lim->c∉Hp lim wl d->c∉wl/\c∉d
 |[],wl,c,_,h=>⟨h,by simp⟩
 |b::r,wl,c,g,h=>by
  simp only[Hp]at h;cases f:ble lim b with
  |true=>
   rw[f]at h;have:=Nat.le_of_ble_eq_true f;obtain⟨a,e⟩:=WI r wl c g h;exact⟨a,by simp only[mC,not_or];exact⟨by omega,e⟩⟩
  |false=>
   rw[f]at h;obtain⟨a,e⟩:=WI r (b::wl) c g h;simp only[mC,not_or]at a;exact⟨a.2,by simp only[mC,not_or];exact⟨a.1,e⟩⟩
def Cx(n:Nat)(t:Tr Aa):List Aa:=(range n).map fun i=>CS t (.tmp i)
def Fx(n:Nat)(t:Tr Aa):Prop:=∀ i,n≤i→t.get i=none
theorem VZ(n:Nat)(t:Tr Aa):(Cx n t).length=n:=by simp[Cx]
theorem bB{n:Nat}{t:Tr Aa}{i:Nat}(h:i<n):(Cx n t)[i]?=some (CS t (.tmp i)):=by
 simp[Cx,h]
theorem MZ{n:Nat}{t:Tr Aa}(b:Fx n t):ev (Cx n t)=CS t:=by
 funext x
 cases x with
 |tmp i=>
  rcases lG i n with h|h
  ·simp only[ev,getD,bB h,getD_some]
  have a:(Cx n t)[i]?=none:=getElem?_eq_none (by rw[VZ];exact h);simp only[ev,getD,a,CS,b i h,Option.getD_none]
 |const v=>rfl
 |fn f=>rfl
theorem MK{n:Nat}{t:Tr Aa}{d:Option Nat}{v:Aa}(l:n<=bound)(f:Fx n t)(g:∀k,d=some k->k<n):Fx n (O9 t d v)/\Cx n (O9 t d v)=put (Cx n t) d v:=by
 cases d with
 |none=>exact ⟨f,rfl⟩
 |some k=>
  have j:=g k rfl;have c:=Tr.AB depth t k (some v);have b:k+1<2 ^ depth:=Qj (by omega);refine⟨λi hi=>?_,?_⟩
  ·simp only[O9];rw[c i b,iN (by omega)];exact f i hi
  apply ext_getElem?;intro i;simp only[put];rw[getElem?_set];rcases lG i n with h|h
  ·rw[bB h,bB h];by_cases a:k=i
   ·subst a;rw[iP rfl,iP (by rw[VZ];exact j)];simp only[O9,CS];rw[c k b,iP rfl]
   rw[iN a];simp only[O9,CS];rw[c i b,iN (λe=>a e.symm)]
  rw[getElem?_eq_none (by rw[VZ];exact h),getElem?_eq_none (by rw[VZ];exact h)];rw[iN (by omega)]
section
variable {P:Program}
def K2(P:Program)(call:Ax):Prop:=
 ∀ g args m v m' wl,call g args m=some (v,m',wl)→m.next≤m'.next∧(∀ c,c<m.next→c∉wl→m'.mem.get c=m.mem.get c) ∧
  ∀ id,Aw P g args m.mem [id] fun r m''=>r=v∧m''=m'.mem
theorem kU{n:Nat}{t:Tr Aa}(b:Fx n t)(g:Option (Nat×Bool)):P7 (Cx n t) g=QN t g:=by
 cases g with
 |none=>rfl
 |some a=>
  obtain⟨d,w⟩:=a;have:(Cx n t).getD d Ai=CS t (.tmp d):=by
   have:=congrFun (MZ b) (.tmp d);exact this
  simp only[P7,QN,this];rfl
theorem tj{n:Nat}{t:Tr Aa}(a:Fx n t)(f:Ah)(xs:List Ah):callee (Cx n t) f xs=UA t f xs:=by
 simp only[callee,UA,MZ a];rfl
theorem WW{n id:Nat}{t:Tr Aa}{m:TM}{op:Ba}{v:Aa}{d:List (Nat×Option Af)}(b:Fx n t)(h:Ak id (CS t) m.tr.get op=some (v,d))(a:Hi d=true) :
 Ae id (Cx n t) m.mem op=some (v,(m.apply d).mem):=by
 rw[TM.Cf d m a];refine JO ?_;rw[MZ b];exact h
def RS.st(n:Nat)(s:RS):AY:=⟨Cx n s.t,s.m.mem⟩
structure Cc (n lim:Nat) (s s':RS):Prop where
 t:Fx n s'.t
 next:s.m.next≤s'.m.next
 keep:∀ c,c<lim→c∉s'.wl→c∉s.wl∧s'.m.mem.get c=s.m.mem.get c
theorem Cc.trans{n lim:Nat}{a b c:RS}(h:Cc n lim a b)(d:Cc n lim b c):Cc n lim a c:=
 ⟨d.t,le_trans h.next d.next,λx e k=>by
  obtain⟨f,g⟩:=d.keep x e k;obtain⟨i,j⟩:=h.keep x e f;exact⟨i,g.trans j⟩⟩
theorem kP{n:Nat}{o:Ag}(h:(match o.dst with|some d=>decide (d<n)|none=>true)=true):∀k,o.dst=some k->k<n:=by
 intro k a;rw[a]at h;simpa using h
theorem Xk{a:Ax}(J:K2 P a){n lim base:Nat}(C:n<=bound):∀(ops:List Ag) (i:Nat) (s l:RS),Fx n s.t->lim<=s.m.next ->
 (ops.all λo=>match o.dst with|some d=>decide (d<n)|none=>true)=true->Fa a lim base ops i s=some l ->
 Cc n lim s l /\ ∀K:AY->Prop,K (l.st n)->I7 P base ops i K (Cx n s.t) s.m.mem
 |[],i,s,l,B,_,_,h=>by
  simp only[Fa,oI]at h;subst h;exact⟨⟨B,lR _,λc _ H=>⟨H,rfl⟩⟩,λK p=>p⟩
 |o::r,i,s,l,B,k,hd,h=>by
  simp only[all_cons,bA]at hd;obtain⟨HQ,w⟩:=hd;have Q:=kP HQ;simp only[Fa]at h;cases H:QN s.t o.guard with
  |none=>simp[H]at h
  |some q=>
   have E:P7 (Cx n s.t) o.guard=some q:=by rw[kU B];exact H
   cases q with
   |false=>
    simp only[H]at h;obtain⟨p1,I⟩:=MK (v:=Ai) C B Q;obtain⟨b,u⟩:=Xk J C r (i+1) ⟨O9 s.t o.dst Ai,s.m,s.wl⟩ l p1 k w h;refine⟨⟨b.t,b.next,b.keep⟩,λK p=>?_⟩;simp only[I7,E];rw[<-I];exact u K p
   |true=>
    simp only[H]at h;have F:(∀f xs,o.op≠.call f xs)->(match Ak (base+i) (CS s.t) s.m.tr.get o.op with
     |some (v,[])=>Fa a lim base r (i+1) ⟨O9 s.t o.dst v,s.m,s.wl⟩
     |some (v,d)=>bif Hi d then Fa a lim base r (i+1) ⟨O9 s.t o.dst v,s.m.apply d,ES lim s.wl d⟩ else none
     |none=>none)=some l->Cc n lim s l /\ ∀K:AY->Prop,K (l.st n) -> ∃v m',Ae (base+i) (Cx n s.t) s.m.mem o.op=some (v,m')/\I7 P base r (i+1) K (put (Cx n s.t) o.dst v) m':=by
     intro A z;cases M:Ak (base+i) (CS s.t) s.m.tr.get o.op with
     |none=>simp[M]at z
     |some vd=>
      obtain⟨v,d⟩:=vd;obtain⟨p1,I⟩:=MK (v:=v) C B Q;cases d with
      |nil=>
       simp only[M]at z;obtain⟨b,u⟩:=Xk J C r (i+1) ⟨O9 s.t o.dst v,s.m,s.wl⟩ l p1 k w z;exact⟨⟨b.t,b.next,b.keep⟩,λK p=>⟨v,s.m.mem,WW B M rfl,by rw[<-I];exact u K p⟩⟩
      |cons e d=>
       simp only[M]at z;cases N:Hi (e::d)with
       |false=>rw[N]at z;cases z
       |true=>
        rw[N]at z;simp only[cond_true]at z;obtain⟨b,u⟩:=Xk J C r (i+1) _ l p1 (by rw[TM.BM];exact k) w z;refine⟨⟨b.t,by have:=b.next;rw[TM.BM]at this;exact this,λc G D=>?_⟩,λK p=>⟨v,_,WW B M N,by rw[<-I];exact u K p⟩⟩;obtain⟨S,T⟩:=b.keep c G D;obtain⟨U,V⟩:=Sv (e::d) s.wl s.m.mem c G S;exact⟨U,by rw[T,TM.Cf _ _ N];exact V⟩
    by_cases Y:∃f xs,o.op=.call f xs
    ·obtain⟨f,xs,j⟩:=Y;simp only[j]at h;cases G:UA s.t f xs with
     |none=>simp[G]at h
     |some ga=>
      obtain⟨g,args⟩:=ga;simp only[G]at h;cases O:a g args s.m with
      |none=>simp[O]at h
      |some X=>
       obtain⟨v,m',wl⟩:=X;simp only[O]at h;obtain⟨q1,q2,q3⟩:=J g args s.m v m' wl O;obtain⟨p1,I⟩:=MK (v:=v) C B Q;obtain⟨b,u⟩:=Xk J C r (i+1) _ l p1 (le_trans k q1) w h;refine⟨⟨b.t,le_trans q1 b.next,λc L D=>?_⟩,λK p=>?_⟩
       ·obtain⟨S,T⟩:=b.keep c L D;obtain⟨U,V⟩:=WI wl s.wl c L S;exact⟨U,by rw[T];exact q2 c (by omega) V⟩
       have Ki:callee (Cx n s.t) f xs=some (g,args):=by rw[tj B];exact G
       simp only[I7,E,j,Ki];refine(q3 (base+i)).mono λy aa hy=>?_;obtain⟨rfl,rfl⟩:=hy;rw[<-I];exact u K p
    have A:∀f xs,o.op≠.call f xs:=λf xs he=>Y ⟨f,xs,he⟩;have h':(match Ak (base+i) (CS s.t) s.m.tr.get o.op with
     |some (v,[])=>Fa a lim base r (i+1) ⟨O9 s.t o.dst v,s.m,s.wl⟩
     |some (v,d)=>bif Hi d then Fa a lim base r (i+1) ⟨O9 s.t o.dst v,s.m.apply d,ES lim s.wl d⟩ else none
     |none=>none)=some l:=by
     cases j:o.op<;>rw[j]at h<;>first|(exact absurd j (A _ _))|exact h
    obtain⟨b,u⟩:=F A h';refine⟨b,λK p=>?_⟩;obtain⟨v,m',Z,h4⟩:=u K p;simp only[I7,E];cases j:o.op<;>rw[j]at Z<;>first|(exact absurd j (A _ _))|(simp only[Z];exact h4)
end
section
variable {P:Program}
theorem EY{x:Nat}:∀{l:List Nat},(A3 x l=true->Ma x l/\x∈l)/\(A3 x l=false->B5 x l/\x∉l)
 |[]=>⟨λh=>(by cases h),λ_=>⟨trivial,by simp⟩⟩
 |y::r=>by
  have f:=EY (x:=x) (l:=r);simp only[A3];cases d:beq x y with
  |true=>
   have:=eq_of_beq_eq_true d;exact⟨λ_=>⟨.inl this,by simp[this]⟩,λh=>(by cases h)⟩
  |false=>
   have a:x≠y:=λe=>by subst e;rw[beq_refl]at d;cases d
   refine⟨λh=>?_,λh=>?_⟩
   ·obtain⟨b,c⟩:=f.1 h;exact⟨.inr b,mem_cons_of_mem _ c⟩
   obtain⟨b,c⟩:=f.2 h;exact⟨⟨a,b⟩,by simp[a,c]⟩
theorem SF:∀{xs l:List Nat},Pg xs l=true->G3 xs l
 |[],_,_=>trivial
 |x::r,l,h=>by
  simp only[Pg]at h;cases a:A3 x l with
  |true=>rw[a]at h;cases h
  |false=>rw[a]at h;exact⟨(EY.2 a).1,SF h⟩
theorem XC{n:Nat}:∀{l:List Nat},SG n l=true->Je n l
 |[],_=>trivial
 |x::r,h=>by
  simp only[SG]at h;cases a:ble n x with
  |true=>rw[a]at h;cases h
  |false=>rw[a]at h;exact⟨Xg a,XC h⟩
theorem iI:∀{xs l:List Nat},Ml xs l=true->Fs xs l
 |[],_,_=>trivial
 |x::r,l,h=>by
  simp only[Ml]at h;cases a:A3 x l with
  |false=>rw[a]at h;cases h
  |true=>rw[a]at h;exact⟨(EY.1 a).1,iI h⟩
theorem FT.Ht{f g:FT}(h:FT.Iy f g=true):FT.indep f g:=by
 cases f<;>cases g<;>simp only[FT.Iy,bA]at h
 ·exact⟨SF h.1,SF h.2⟩
 ·exact⟨SF h.1.1.1.1,XC h.1.1.1.2,SF h.1.1.2,XC h.1.2,iI h.2⟩
 ·exact⟨SF h.1.1.1.1,XC h.1.1.1.2,SF h.1.1.2,XC h.1.2,iI h.2⟩
 cases h
theorem mA{a:List FT}{b:FT}:∀{un:List Nat},QJ a b un=true->M7 a b un
 |[],_=>trivial
 |i::r,h=>by
  simp only[QJ,bA]at h;exact⟨FT.Ht h.1,mA h.2⟩
theorem xy{id:Nat}:∀{x:List Nat},Zy id x=true->id∉x /\ ∀c,c∈x->c<bound
 |[],_=>⟨by simp,λc k=>by simp at k⟩
 |c::r,h=>by
  simp only[Zy]at h;cases f:ble bound c with
  |true=>rw[f]at h;cases h
  |false=>
   rw[f]at h;simp only[cond_false]at h;cases d:beq c id with
   |true=>rw[d]at h;cases h
   |false=>
    rw[d]at h;obtain⟨i,j⟩:=xy (x:=r) h;have g:id≠c:=λe=>by subst e;rw[beq_refl]at d;cases d
    exact⟨by simp[g,i],λb a=>by
     simp only[mC]at a;rcases a with rfl|a
     ·exact Xg f
     exact j b a⟩
theorem Zzh:∀(x:List Nat) (m:TM),(∀c,c∈x->c<bound)->(JT m x).mem=m.mem.less x/\(JT m x).next=m.next
 |[],m,_=>⟨Mem.ext' (λc=>by simp[JT,Mem.less]) rfl,rfl⟩
 |b::r,m,h=>by
  obtain⟨e,f⟩:=Zzh r (m.set b none) (λc a=>h c (mem_cons_of_mem _ a));simp only[JT];refine⟨?_,f⟩;rw[e,TM.Ds (h b (by simp))];refine Mem.ext' (λc=>?_) rfl;simp only[Mem.less,Mem.Bx,mC];by_cases a:c=b
  ·subst a;simp
  by_cases d:c∈r<;>simp[a,d]
theorem Zz0(m0:TM):∀(x:List Nat) (m:TM),(∀c,c∈x->c<bound)->(Mu m0 m x).next=m.next/\(∀c,(Mu m0 m x).tr.get c=if c∈x then m0.tr.get c else m.tr.get c)
 |[],m,_=>⟨rfl,λc=>by simp[Mu]⟩
 |b::r,m,f=>by
  obtain⟨g,h⟩:=Zz0 m0 r (m.set b (m0.tr.get b)) (λc i=>f c (mem_cons_of_mem _ i));simp only[Mu];refine⟨g,λc=>?_⟩;rw[h c];have d:(m.set b (m0.tr.get b)).tr.get c=if c=b then m0.tr.get b else m.tr.get c:=Tr.AB depth _ b _ c (Qj (f b (by simp)))
  by_cases e:c∈r
  ·rw[iP e,iP (mem_cons_of_mem _ e)]
  rw[iN e,d];by_cases a:c=b
  ·subst a;simp
  rw[iN a,iN (by simp[a,e])]
theorem zy{m:TM}:∀{x:List Nat},Xn m x=true -> ∀c,c∈x->m.tr.get c=none
 |[],_,c,a=>by simp at a
 |b::r,h,c,a=>by
  simp only[Xn]at h;split at h<;>first|(cases h;done)|skip
  rename_i d;simp only[mC]at a;rcases a with rfl|a
  ·exact d
  exact zy h c a
theorem fF(id:Nat)(t:List Aa)(op:Ba):P5 id t op=S9 id (ev t) op:=by cases op<;>rfl
theorem dW(t:List Aa)(op:Ba):F7 t op=S8 (ev t) op:=by cases op<;>rfl
theorem WD{i:Ax}(M:K2 P i){n lim base:Nat}(F:n<=bound):∀(ops:List Ag) (b:List FT) (s w:RS),Fx n s.t->lim<=s.m.next ->
 (ops.all λo=>match o.dst with|some d=>decide (d<n)|none=>true)=true->FY i lim base ops b s=some w ->
 Cc n lim s w /\ ∀K:AY->Prop,K (w.st n)->M2 P base ops b K (Cx n s.t) s.m.mem
 |[],b,s,w,u,_,_,h=>by
  simp only[FY,oI]at h;subst h;exact⟨⟨u,lR _,λc _ G=>⟨G,rfl⟩⟩,λK A=>A⟩
 |o::r,b,s,w,u,y,hd,h=>by
  simp only[all_cons,bA]at hd;obtain⟨HQ,B⟩:=hd;have O:=kP HQ;simp only[FY]at h;cases G:QN s.t o.guard with
  |none=>simp[G]at h
  |some q=>
   have D:P7 (Cx n s.t) o.guard=some q:=by rw[kU u];exact G
   cases q with
   |false=>
    simp only[G]at h;obtain⟨p1,L⟩:=MK (v:=Ai) F u O;obtain⟨j,H⟩:=WD M F r _ ⟨O9 s.t o.dst Ai,s.m,s.wl⟩ w p1 y B h;refine⟨⟨j.t,j.next,j.keep⟩,λK A=>?_⟩;simp only[M2,D];rw[<-L];exact H K A
   |true=>
    simp only[G]at h;by_cases Ch:∃f xs,o.op=.call f xs
    ·obtain⟨f,xs,e⟩:=Ch;simp only[e]at h;cases E:UA s.t f xs with
     |none=>simp[E]at h
     |some ga=>
      obtain⟨g,args⟩:=ga;simp only[E]at h;generalize hx:o.un.map (base + ·)++aM base b.length r (b.length+1)=x at h;cases N:i g args (JT s.m x)with
      |none=>simp[N]at h
      |some aa=>
       obtain⟨v,m',wl⟩:=aa;simp only[N]at h;cases a:(QJ b (.call wl x s.m.next) o.un&&Zy (base+b.length) x&&Xn m' x)with
       |false=>rw[a]at h;cases h
       |true=>
        rw[a]at h;simp only[cond_true]at h;simp only[bA]at a;obtain⟨⟨hi,hX⟩,hN⟩:=a;obtain⟨S,I⟩:=xy hX;obtain⟨l1,l2⟩:=Zzh x s.m I;obtain⟨q1,Z,q3⟩:=M g args _ v m' wl N;obtain⟨Q,b2⟩:=Zz0 s.m x m' I;obtain⟨p1,L⟩:=MK (v:=v) F u O;rw[l2]at q1 Z;obtain⟨j,H⟩:=WD M F r _ ⟨O9 s.t o.dst v,Mu s.m m' x,Hp lim s.wl wl⟩ w p1 (by show lim<=(Mu s.m m' x).next;rw[Q];omega) B h;have l:∀c,c∉x->(JT s.m x).mem.get c=s.m.mem.get c:=λc k=>by rw[l1];simp[Mem.less,k]
        refine⟨⟨j.t,by have:=j.next;simp only[Q]at this;omega,λc p C=>?_⟩,λK A=>?_⟩
        ·obtain⟨U,V⟩:=j.keep c p C;obtain⟨X,Y⟩:=WI wl s.wl c p U;refine⟨X,?_⟩;rw[V];show(Mu s.m m' x).tr.get c=s.m.tr.get c;rw[b2 c];by_cases k:c∈x
         ·rw[iP k]
         rw[iN k];have:=Z c (by omega) Y;rw[l c k]at this;exact this
        have Ki:callee (Cx n s.t) f xs=some (g,args):=by rw[tj u];exact E
        simp only[M2,D,e,Ki];refine⟨wl,x,v,(Mu s.m m' x).mem,⟨m'.mem,S,λc p=>zy hN c p,q1,Q,λc=>?_,λc c1 c2 c3=>?_,by rw[<-l1];exact q3 (base+b.length)⟩,mA hi,?_⟩
        ·exact b2 c
        ·have:=Z c c2 c1;rw[l c c3]at this;exact this
        rw[<-L];exact H K A
    have J:∀f xs,o.op≠.call f xs:=λf xs he=>Ch ⟨f,xs,he⟩;have z:(match Ak (base+b.length) (CS s.t) s.m.tr.get o.op with
     |some (v,d)=>bif QJ b (FT.ops (S9 (base+b.length) (CS s.t) o.op) (S8 (CS s.t) o.op)) o.un&&Hi d then FY i lim base r (b++[FT.ops (S9 (base+b.length) (CS s.t) o.op) (S8 (CS s.t) o.op)]) ⟨O9 s.t o.dst v,s.m.apply d,ES lim s.wl d⟩ else none
     |none=>none)=some w:=by
     cases e:o.op<;>rw[e]at h<;>first|(exact absurd e (J _ _))|exact h
    cases T:Ak (base+b.length) (CS s.t) s.m.tr.get o.op with
    |none=>simp[T]at z
    |some vd=>
     obtain⟨v,d⟩:=vd;simp only[T]at z;cases a:(QJ b (FT.ops (S9 (base+b.length) (CS s.t) o.op) (S8 (CS s.t) o.op)) o.un&&Hi d)with
     |false=>rw[a]at z;cases z
     |true=>
      rw[a]at z;simp only[cond_true]at z;simp only[bA]at a;obtain⟨hi,ho⟩:=a;obtain⟨p1,L⟩:=MK (v:=v) F u O;obtain⟨j,H⟩:=WD M F r _ ⟨O9 s.t o.dst v,s.m.apply d,ES lim s.wl d⟩ w p1 (by show lim<=(s.m.apply d).next;rw[TM.BM];exact y) B z;refine⟨⟨j.t,by have:=j.next;simp only[TM.BM]at this;exact this,λc E C=>?_⟩,λK A=>?_⟩
      ·obtain⟨U,V⟩:=j.keep c E C;obtain⟨X,Y⟩:=Sv d s.wl s.m.mem c E U;exact⟨X,by rw[V];show(s.m.apply d).mem.get c=_;rw[TM.Cf _ _ ho];exact Y⟩
      have h3:=WW (n:=n) u T ho;have h4:M7 b (.ops (P5 (base+b.length) (Cx n s.t) o.op) (F7 (Cx n s.t) o.op)) o.un/\M2 P base r (b++[.ops (P5 (base+b.length) (Cx n s.t) o.op) (F7 (Cx n s.t) o.op)]) K (put (Cx n s.t) o.dst v) (s.m.apply d).mem:=by
       rw[fF,dW,MZ u,<-L];exact⟨mA hi,H K A⟩
      simp only[M2,D];cases e:o.op<;>rw[e]at h3 h4<;>first|(exact absurd e (J _ _))|(simp only[h3];exact h4)
end
section
variable {P:Program}
def Dn.exit':Dn→Exit
 | .normal=>.normal
 | .exit n=>.exit n
 | .ret=>.ret
theorem fM{a b:Nat}(h:ble a b=true):a<=b:=Nat.le_of_ble_eq_true h
theorem KV(m:TM)(k:Nat):(⟨m.tr,k⟩:TM).mem=m.mem.at k:=rfl
theorem oL{o:Ax}(K:K2 P o){n lim:Nat}(L:n<=bound):∀(f:Nat) (c:An) (s A:RS) (e:Dn),Fx n s.t->lim<=s.m.next->I0 n c=true->P3 o lim f c s=some (e,A) ->
 Cc n lim s A /\ ∀Q:Exit->AY->Prop,Q e.exit' (A.st n)->CP P c Q (s.st n):=by
 intro f;induction f using Nat.strongRecOn with
 |ind f B=>
  intro c s A e z p u h;cases f with
  |zero=>simp[P3]at h
  |succ f=>
   have same:Cc n lim s s:=⟨z,lR _,λc _ T=>⟨T,rfl⟩⟩;cases c with
   |skip=>
    simp only[P3,oI,AT]at h;obtain⟨rfl,rfl⟩:=h;exact⟨same,λQ d=>d⟩
   |label l=>
    simp only[P3,oI,AT]at h;obtain⟨rfl,rfl⟩:=h;exact⟨same,λQ d=>d⟩
   |exit i=>
    simp only[P3,oI,AT]at h;obtain⟨rfl,rfl⟩:=h;exact⟨same,λQ d=>d⟩
   |ret=>
    simp only[P3,oI,AT]at h;obtain⟨rfl,rfl⟩:=h;exact⟨same,λQ d=>d⟩
   |bad=>simp[P3]at h
   |region E ops=>
    cases E with
    |false=>
     simp only[P3]at h;cases v:ble (s.m.next+ops.length) bound with
     |false=>rw[v]at h;cases h
     |true=>
      rw[v]at h;simp only[cond_true]at h;cases j:Fa o lim s.m.next ops 0 ⟨s.t,⟨s.m.tr,s.m.next+ops.length⟩,s.wl⟩ with
      |none=>simp[j]at h
      |some w=>
       simp only[j,oI,AT]at h;obtain⟨rfl,rfl⟩:=h;obtain⟨g,q⟩:=Xk K L ops 0 ⟨s.t,⟨s.m.tr,s.m.next+ops.length⟩,s.wl⟩ w z (by show lim<=s.m.next+ops.length;omega) u j;refine⟨⟨g.t,le_trans (Nat.le_add_right _ _) g.next,g.keep⟩,λQ d=>?_⟩;exact q (Q .normal) d
    |true=>
     simp only[P3]at h;cases v:ble (s.m.next+ops.length) bound with
     |false=>rw[v]at h;cases h
     |true=>
      rw[v]at h;simp only[cond_true]at h;cases j:FY o lim s.m.next ops [] ⟨s.t,⟨s.m.tr,s.m.next+ops.length⟩,s.wl⟩ with
      |none=>simp[j]at h
      |some w=>
       simp only[j,oI,AT]at h;obtain⟨rfl,rfl⟩:=h;obtain⟨g,q⟩:=WD K L ops [] ⟨s.t,⟨s.m.tr,s.m.next+ops.length⟩,s.wl⟩ w z (by show lim<=s.m.next+ops.length;omega) u j;refine⟨⟨g.t,le_trans (Nat.le_add_right _ _) g.next,g.keep⟩,λQ d=>?_⟩;exact q (Q .normal) d
   |seq a b=>
    simp only[I0,bA]at u;simp only[P3]at h;cases j:P3 o lim f a s with
    |none=>simp[j]at h
    |some C=>
     obtain⟨y,w⟩:=C;obtain⟨g,q⟩:=B f (lt_succ_self f) a s w y z p u.1 j;cases y with
     |normal=>
      simp only[j]at h;obtain⟨N,O⟩:=B f (lt_succ_self f) b w A e g.t (le_trans p g.next) u.2 h;exact⟨g.trans N,λQ d=>q _ (O Q d)⟩
     |exit i=>
      simp only[j,oI,AT]at h;obtain⟨rfl,rfl⟩:=h;exact⟨g,λQ d=>q _ d⟩
     |ret=>
      simp only[j,oI,AT]at h;obtain⟨rfl,rfl⟩:=h;exact⟨g,λQ d=>q _ d⟩
   |cond x a b=>
    simp only[I0,bA]at u;simp only[P3]at h;have M:ev (Cx n s.t) x=CS s.t x:=congrFun (MZ z) x;split at h
    ·rename_i v;obtain⟨g,q⟩:=B f (lt_succ_self f) a s A e z p u.1 h;refine⟨g,λQ d=>?_⟩;simp only[CP,RS.st,M,v];exact q Q d
    ·rename_i v;obtain⟨g,q⟩:=B f (lt_succ_self f) b s A e z p u.2 h;refine⟨g,λQ d=>?_⟩;simp only[CP,RS.st,M,v];exact q Q d
    cases h
   |block i c=>
    simp only[I0]at u;simp only[P3]at h;cases j:P3 o lim f c s with
    |none=>simp[j]at h
    |some C=>
     obtain⟨y,w⟩:=C;obtain⟨g,q⟩:=B f (lt_succ_self f) c s w y z p u j;cases y with
     |normal=>
      simp only[j,oI,AT]at h;obtain⟨rfl,rfl⟩:=h;exact⟨g,λQ d=>q _ d⟩
     |ret=>
      simp only[j,oI,AT]at h;obtain⟨rfl,rfl⟩:=h;exact⟨g,λQ d=>q _ d⟩
     |exit k=>
      simp only[j]at h;cases v:beq k i with
      |true=>
       rw[v]at h;simp only[cond_true,oI,AT]at h;obtain⟨rfl,rfl⟩:=h;have:=eq_of_beq_eq_true v;subst this;exact⟨g,λQ d=>q _ (by simp only[Dn.exit',KD,if_true];exact d)⟩
      |false=>
       rw[v]at h;simp only[cond_false,oI,AT]at h;obtain⟨rfl,rfl⟩:=h;have I:k≠i:=λe=>by subst e;rw[beq_refl]at v;cases v
       exact⟨g,λQ d=>q _ (by simp only[Dn.exit',KD,iN I];exact d)⟩
   |scope c=>
    simp only[I0]at u;simp only[P3]at h;obtain⟨g,q⟩:=B f (lt_succ_self f) c s A e z p u h;refine⟨g,λQ d=>q _ ?_⟩;cases e<;>exact d
   |loop c=>
    have H:=u;simp only[I0]at u;have F:Cc n lim s A:=by
     simp only[P3]at h;cases j:P3 o lim f c s with
     |none=>simp[j]at h
     |some C=>
      obtain⟨y,w⟩:=C;obtain⟨g,_⟩:=B f (lt_succ_self f) c s w y z p u j;cases y with
      |normal=>
       simp only[j]at h;exact g.trans (B f (lt_succ_self f) (.loop c) w A e g.t (le_trans p g.next) H h).1
      |exit i=>
       simp only[j,oI,AT]at h;obtain⟨rfl,rfl⟩:=h;exact g
      |ret=>
       simp only[j,oI,AT]at h;obtain⟨rfl,rfl⟩:=h;exact g
    refine⟨F,λQ d=>?_⟩;refine⟨λk σ=>k<=f /\ ∃D,σ=D.st n/\Fx n D.t/\lim<=D.m.next/\P3 o lim (k+1) (.loop c) D=some (e,A),⟨f,_,.refl _,lR _,s,rfl,z,p,h⟩,?_⟩;rintro k σ ⟨S,D,rfl,J,G,r⟩;simp only[P3]at r;cases j:P3 o lim k c D with
    |none=>simp[j]at r
    |some C=>
     obtain⟨y,w⟩:=C;obtain⟨g,q⟩:=B k (by omega) c D w y J G u j;refine q _ ?_;cases y with
     |normal=>
      simp only[j]at r;cases k with
      |zero=>simp[P3]at r
      |succ k=>exact ⟨k,w.st n,lt_succ_self k,.refl _,by omega,w,rfl,g.t,le_trans G g.next,r⟩
     |exit i=>
      simp only[j,oI,AT]at r;obtain⟨rfl,rfl⟩:=r;exact d
     |ret=>
      simp only[j,oI,AT]at r;obtain⟨rfl,rfl⟩:=r;exact d
end
section
variable {P:Program}
def Ph(P:Program)(BS:Nat→Option AD):Prop:=
 ∀ g af,BS g=some af→(∃ fn,P.funcs[g]? = some fn∧Bk P fn=some af)∧I0 af.ntmps af.body=true∧af.ntmps≤bound
theorem Z5u:∀(args:List Aa) (t:Tr Aa) (i k:Nat),i+args.length<=bound->(D8 t i args).get k=if i<=k/\k<i+args.length then args[k-i]? else t.get k
 |[],t,i,k,_=>by simp[D8];intro a b;omega
 |x::r,t,i,k,h=>by
  simp only[lC]at h ⊢;simp only[D8];rw[Z5u r _ (i+1) k (by omega),Tr.AB depth t i (some x) k (Qj (by omega))];by_cases a:i+1<=k/\k<i+1+r.length
  ·rw[iP a,iP (by omega)];have:k-i=(k-(i+1))+1:=by omega
   rw[this,getElem?_cons_succ]
  rw[iN a];by_cases b:k=i
  ·subst b;rw[iP rfl,iP (by omega)];simp
  rw[iN b,iN (by omega)]
theorem aJ{n:Nat}{args:List Aa}(d:n<=bound)(c:args.length<=n):Fx n (D8 .nil 0 args)/\Cx n (D8 .nil 0 args)=args++replicate (n-args.length) Ai:=by
 have b:=λk=>Z5u args .nil 0 k (by omega);refine⟨λi hi=>?_,?_⟩
 ·rw[b i,iN (by omega)];rfl
 apply ext_getElem?;intro i;rcases lG i n with h|h
 ·rw[bB h];simp only[CS];rw[b i];rw[getElem?_append];by_cases a:i<args.length
  ·rw[iP (by omega),iP a];simp[a]
  rw[iN (by omega),iN a];simp only[Tr.get_nil];rw[List.getElem?_replicate,iP (by omega)]
 rw[getElem?_eq_none (by rw[VZ];exact h),getElem?_eq_none (by simp;omega)]
theorem zT{n:Nat}{t:Tr Aa}{m:TM}(a:Fx n t)(x:Nat×Option (Option Nat)):Jg (Cx n t) m.mem x=WX t m x:=by
 obtain⟨i,o⟩:=x;have h:(Cx n t).getD i Ai=CS t (.tmp i):=congrFun (MZ a) (.tmp i);cases o with
 |none=>simp only[Jg,WX,h]
 |some k=>simp only[Jg,WX,h,mT];rfl
theorem xd{n:Nat}{t:Tr Aa}{m:TM}(a:Fx n t):∀(xs:List (Nat×Option (Option Nat))),HH (Cx n t) m.mem xs=cF t m xs
 |[]=>rfl
 |x::r=>by
  simp only[HH,cF,zT a,xd a r]
  try rfl
theorem bR{n:Nat}{t:Tr Aa}{m:TM}(a:Fx n t)(xs:List (Nat×Option (Option Nat))):I6 (Cx n t) m.mem xs=EH t m xs:=by
 cases xs with
 |nil=>rfl
 |cons x r=>
  cases r with
  |nil=>exact zT a x
  |cons y r=>simp only[I6,EH,xd a];try rfl
theorem bK(hm:P.follows .mixedOrders=true){BS:Nat->Option AD}{j:Ax}(A:Ph P BS)(B:K2 P j):∀f,K2 P (Gp BS j f)
 |0,g,args,m,v,m',wl,h=>by simp[Gp]at h
 |f+1,g,args,m,v,m',wl,h=>by
  have L:=bK hm A B f;simp only[Gp]at h;cases u:j g args m with
  |some r=>
   simp only[u,oI]at h;subst h;exact B g args m v m' wl u
  |none=>
   simp only[u]at h;cases y:BS g with
   |none=>simp[y]at h
   |some d=>
    simp only[y]at h;obtain⟨⟨fn,D,o⟩,J,C⟩:=A g d y;cases p:ble args.length d.ntmps with
    |false=>rw[p]at h;cases h
    |true=>
     rw[p]at h;simp only[cond_true]at h;obtain⟨E,F⟩:=aJ C (fM p);have k:∀(e:Dn) (s:RS),(∀i,e≠.exit i)->P3 (Gp BS j f) m.next 1000 d.body ⟨D8 .nil 0 args,m,[]⟩=some (e,s)->(match EH s.t s.m d.results with|some v=>some (v,s.m,s.wl)|none=>none)=some (v,m',wl) ->
      m.next<=m'.next/\(∀c,c<m.next->c∉wl->m'.mem.get c=m.mem.get c) /\ ∀id,Aw P g args m.mem [id] λr z=>r=v/\z=m'.mem:=by
      intro e s q a b;obtain⟨n,H⟩:=oL L C 1000 d.body ⟨D8 .nil 0 args,m,[]⟩ s e E (lR _) J a;cases w:EH s.t s.m d.results with
      |none=>simp[w]at b
      |some r=>
       simp only[w,oI,AT]at b;obtain⟨rfl,rfl,rfl⟩:=b;refine⟨n.next,λc I K=>(n.keep c I K).2,λid=>Yiv hm D o ?_⟩;rw[<-F];refine H _ ?_;have l:I6 (Cx d.ntmps s.t) s.m.mem d.results=some r:=by rw[bR n.t];exact w
       cases e with
       |normal=>simp only[Dn.exit',FX,RS.st,l];exact⟨trivial,trivial⟩
       |ret=>simp only[Dn.exit',FX,RS.st,l];exact⟨trivial,trivial⟩
       |exit i=>exact absurd rfl (q i)
     cases a:P3 (Gp BS j f) m.next 1000 d.body ⟨D8 .nil 0 args,m,[]⟩ with
     |none=>simp[a]at h
     |some G=>
      obtain⟨e,s⟩:=G;cases e with
      |exit i=>simp[a]at h
      |normal=>simp only[a]at h;exact k .normal s (by simp) a h
      |ret=>simp only[a]at h;exact k .ret s (by simp) a h
end
mutual
def Aa.closed:Aa→Bool
 | .bool _ | .int _ _ | .str _ | .nilPtr | .Aj | .emp | .AF | .nilFunc | .nilIface | .bot=>true
 | .Al els=>W3 els
 | .agg cs=>Y7 cs
 | .tuple cs=>Y7 cs
 | .func _ a b=>Y7 a&&Y7 b
 | .Bc els _ _=>W3 els
 | _=>false
def Y7:List Aa→Bool
 | []=>true
 | x :: r=>x.closed&&Y7 r
def W3:List (List Aa)→Bool
 | []=>true
 | x :: r=>Y7 x&&W3 r
end
theorem QK:∀{l:List Aa}{i:Nat}{x:Aa},Y7 l=true->l[i]?=some x->x.closed=true
 |[],i,x,_,h=>by simp at h
 |y::r,i,x,h,a=>by
  simp only[Y7,bA]at h;cases i with
  |zero=>simp only[getElem?_cons_zero,oI]at a;subst a;exact h.1
  |succ i=>simp only[getElem?_cons_succ]at a;exact QK h.2 a
theorem oS:∀{l:List (List Aa)}{i:Nat}{x:List Aa},W3 l=true->l[i]?=some x->Y7 x=true
 |[],i,x,_,h=>by simp at h
 |y::r,i,x,h,a=>by
  simp only[W3,bA]at h;cases i with
  |zero=>simp only[getElem?_cons_zero,oI]at a;subst a;exact h.1
  |succ i=>simp only[getElem?_cons_succ]at a;exact oS h.2 a
theorem R.closed{Φ:Ap}{ρ ρ':AI}{x:Aa}{v:Value}(h:R Φ ρ x v)(e:x.closed=true):R Φ ρ' x v:=by
 induction h with
 |bool b=>exact .bool b
 |int k n=>exact .int k n
 |str s=>exact .str s
 |ptr b i j l h=>simp[Aa.closed]at e
 |Bc els i j B o k c f r w q _ m=>
  simp only[Aa.closed]at e;exact .Bc els i j B o k c f r w q λi row j x d g=>m i row j x d g (QK (oS e d) g)
 |nilPtr=>exact .nilPtr
 |Aj=>exact .Aj
 |emp a=>exact .emp a
 |sl b off len a cap l h I J q H=>simp[Aa.closed]at e
 |CA a cap h=>exact .CA a cap h
 |Al els B o k cap c f y p r w q _ m=>
  simp only[Aa.closed]at e;exact .Al els B o k cap c f y p r w q λi row j x d g=>m i row j x d g (QK (oS e d) g)
 |map b l h=>simp[Aa.closed]at e
 |AF=>exact .AF
 |func fn D cs G F E u _ _ A C=>
  simp only[Aa.closed,bA]at e;exact .func fn D cs G F E u (λi x v d g=>A i x v d g (QK e.1 d)) (λi x v d g=>C i x v d g (QK e.2 d))
 |nilFunc=>exact .nilFunc
 |Dt b l h=>simp[Aa.closed]at e
 |atLeast n c h=>simp[Aa.closed]at e
 |iface t x v _ m=>simp[Aa.closed]at e
 |nilIface=>exact .nilIface
 |agg cs vs z _ m=>
  simp only[Aa.closed]at e;exact .agg cs vs z λi x v d g=>m i x v d g (QK e d)
 |tuple cs vs z _ m=>
  simp only[Aa.closed]at e;exact .tuple cs vs z λi x v d g=>m i x v d g (QK e d)
 |bot v=>exact .bot v
theorem RL.closed{Φ:Ap}{ρ ρ':AI}{xs:List Aa}{vs:Array Value}(h:RL Φ ρ xs vs)(b:Y7 xs=true):RL Φ ρ' xs vs:=
 ⟨h.1,λi x v a c=>(h.2 i x v a c).closed (QK b a)⟩
theorem Yba{P:Program}{g:FuncId}{args:List Aa}{v:Aa}{m0:Mem}{K:Aa->Mem->Prop}(z:Y7 args=true)(G:v.closed=true)(E:∀c,m0.get c=none)(a:0<m0.next)
 (h:Aw P g args m0 [0] K) (O:∀r m',K r m'->r=v) (m:Mem) (H:List Nat):Aw P g args m H λr m'=>r=v/\m'=m:=by
 refine⟨h.1,λW Φ ρ vs w j S BE=>?_⟩
 let D:Aq:=⟨w,λ_=>none,Φ⟩
 have A:Rel D Φ (λ_=>none) m0 w:=
  ⟨⟨Below.refl _ _,λB o n=>(by cases n)⟩,j.AX,λb x q=>(by rw[E b]at q;cases q),λb b' x x' l l' a=>(by rw[E b]at a;cases a),λb l i=>(by cases i),λB c n=>.inl n⟩
 refine(h.2 D Φ (λ_=>none) vs w A (S.closed z) (λb i=>by simp only[List.mem_singleton]at i;subst i;exact⟨rfl,a⟩)).mono λe w' T=>?_;obtain⟨u,r,m1,t,ρ',I,N,_,d,Q,_,y⟩:=T;have C:=O r m1 y;subst C;have i:Below w.heap.size w w':=d.base.below;have f:=j.below i;have p:Ext Φ ρ t ρ:=⟨N.AX,λb l h=>h⟩;refine⟨u,r,m,t,ρ,I,p,λb _ _ h=>h,⟨f.base,d.AX,λb x q=>?_,f.inj,f.fresh,λB c n=>?_⟩,Q.closed G,lR _,rfl,rfl⟩
 ·obtain⟨l,o,J,g2,L,M,g5⟩:=j.live b x q;obtain⟨l',o',s,X,k3,Y,Z⟩:=f.live b x q;refine⟨l',o',s,X,?_,Y,Z.ext p⟩;rw[J]at s;injection s with s;subst s
  cases V:t l.blk with
  |none=>rfl
  |some c=>
   rcases d.BH _ _ V with a|a
   ·have k:Φ l.blk=some c:=a;rw[L]at k;cases k
   have F:w.heap.size<=l.blk:=a.1;have:=D9 M;omega
 rcases d.BH B c n with a|a
 ·exact j.BH B c a
 have F:w.heap.size<=B:=a.1;refine .inr ⟨le_trans j.base.below.size F,?_⟩;cases U:W.g B with
 |none=>rfl
 |some o=>
  have:=D9 (j.base.Ci B o U);omega
def U4{α β:Type}(f:α→Option β):List α→Option (List β)
 | []=>some []
 | x :: r=>match f x,U4 f r with
  | some y,some ys=>some (y :: ys)
  | _,_=>none
theorem UC{α c:Type}{f:α->Option c}:∀{l:List α}{l':List c},U4 f l=some l'->l'.length=l.length /\ ∀(i:Nat) (y:c),l'[i]?=some y -> ∃x,l[i]?=some x/\f x=some y
 |[],l',h=>by
  simp only[U4,oI]at h;grind
 |x::r,l',h=>by
  simp only[U4]at h;cases a:f x with
  |none=>simp[a]at h
  |some y=>
   cases b:U4 f r with
   |none=>simp[a,b]at h
   |some g=>
    simp only[a,b,oI]at h;subst h;obtain⟨d,e⟩:=UC b;grind
def X8(get:Nat→Option Af):Nat→Aa→Option Aa
 | 0,_=>none
 | n+1,x=>match x with
  | .sl b off len=>match get b with
   | some (.cells _ els)=>bif ble (off+len) els.length then match U4 (U4 (X8 get n)) ((els.drop off).take len)with
    | some rows=>some (.Al rows)
    | none=>none
    else none
   | _=>none
  | .agg cs=>match U4 (X8 get n) cs with
   | some ds=>some (.agg ds)
   | none=>none
  | .tuple cs=>match U4 (X8 get n) cs with
   | some ds=>some (.tuple ds)
   | none=>none
  | .Al els=>match U4 (U4 (X8 get n)) els with
   | some rows=>some (.Al rows)
   | none=>none
  | .bool b=>some (.bool b)
  | .int k i=>some (.int k i)
  | .str s=>some (.str s)
  | .nilPtr=>some .nilPtr
  | .Aj=>some .Aj
  | .emp=>some .emp
  | .AF=>some .AF
  | .nilFunc=>some .nilFunc
  | .nilIface=>some .nilIface
  | .bot=>some .bot
  | _=>none
section
variable {W:Aq} {Φ Bs:Ap} {ρ:AI} {m:Mem} {w:World}
theorem mD{f:Aa->Option Aa}(e:∀x y v,f x=some y->R Φ ρ x v->R Bs ρ y v){cs b:List Aa}{vs:Array Value}(h:RL Φ ρ cs vs)(hm:U4 f cs=some b):RL Bs ρ b vs:=by
 obtain⟨c,d⟩:=UC hm;refine⟨by rw[h.1,c],λi y v k g=>?_⟩;obtain⟨x,j,a⟩:=d i y k;exact e x y v a (h.2 i x v j g)
theorem kY(hr:Rel W Φ ρ m w)(hE:Ext Φ ρ Bs ρ)(hs:∀b l k els c e fz,m.get b=some (.cells k els)->ρ b=some l->w.heap[l.blk]?=some (.cells c e fz)->Bs l.blk=some c) :
 ∀(n:Nat) (x y:Aa) (v:Value),X8 m.get n x=some y->R Φ ρ x v->R Bs ρ y v:=by
 intro n;induction n with
 |zero=>intro x y v h;simp[X8]at h
 |succ n ih=>
  intro x y v h hR;simp only[X8]at h;cases hR with
  |bool b=>injection h with h;subst h;exact .bool b
  |int k i=>injection h with h;subst h;exact .int k i
  |str s=>injection h with h;subst h;exact .str s
  |nilPtr=>injection h with h;subst h;exact .nilPtr
  |Aj=>injection h with h;subst h;exact .Aj
  |emp a=>injection h with h;subst h;exact .emp a
  |AF=>injection h with h;subst h;exact .AF
  |nilFunc=>injection h with h;subst h;exact .nilFunc
  |nilIface=>injection h with h;subst h;exact .nilIface
  |ptr b i j l p=>simp at h
  |Bc els i j B o k c f Z S X F=>simp at h
  |map b l p=>simp at h
  |Dt b l p=>simp at h
  |atLeast n' c' p=>simp at h
  |func fn fs cs vf vc hf Q p M=>simp at h
  |iface t x v p=>simp at h
  |bot v=>injection h with h;subst h;exact .bot v
  |agg cs vs z F=>
   simp only at h;cases hm:U4 (X8 m.get n) cs with
   |none=>simp[hm]at h
   |some ds=>
    simp only[hm,oI]at h;subst h;have:=mD (Bs:=Bs) (λx y v D U=>ih x y v D U) ⟨z,F⟩ hm;exact .agg _ _ this.1 this.2
  |tuple cs vs z F=>
   simp only at h;cases hm:U4 (X8 m.get n) cs with
   |none=>simp[hm]at h
   |some ds=>
    simp only[hm,oI]at h;subst h;have:=mD (Bs:=Bs) (λx y v D U=>ih x y v D U) ⟨z,F⟩ hm;exact .tuple _ _ this.1 this.2
  |CA a cap hz=>
   simp only[U4,oI]at h;subst h;exact .CA a cap hz
  |Al els B o k cap c f T H Z S X F=>
   simp only at h;cases hm:U4 (U4 (X8 m.get n)) els with
   |none=>simp[hm]at h
   |some rows=>
    simp only[hm,oI]at h;subst h;obtain⟨p,M⟩:=UC hm;have g:∀(i:Nat) (d:List Aa),rows[i]?=some d -> ∃row,els[i]?=some row/\d.length=row.length /\ ∀(j:Nat) (y:Aa),d[j]?=some y -> ∃x,row[j]?=some x/\X8 m.get n x=some y:=by
     intro i d hi;obtain⟨row,r,K⟩:=M i d hi;obtain⟨L,G⟩:=UC K;exact⟨row,r,L,G⟩
    rw[<-p];refine .Al rows B o k cap c f (λe=>T ?_) (by rw[p];exact H) (hE.AX _ _ Z) (λi d hi=>?_) (λi d j y hi A=>?_) (λi d j y hi A=>?_)
    ·rw[e]at p;exact List.length_eq_zero_iff.1 p.symm
    ·obtain⟨row,r,K,_⟩:=g i d hi;rw[K];exact S i row r
    ·obtain⟨row,r,_,L⟩:=g i d hi;obtain⟨x,G,_⟩:=L j y A;exact X i row j x r G
    grind
  |sl b off len a cap l hl aa hn Q ha=>
   simp only at h;cases N:m.get b with
   |none=>simp[N]at h
   |some blk=>
    cases blk<;>simp only[N]at h<;>first|(cases h;done)|skip
    rename_i k els;cases hb:ble (off+len) els.length with
    |false=>grind
    |true=>
     rw[hb]at h;simp only[cond_true]at h;have EC:=Nat.le_of_ble_eq_true hb;cases hm:U4 (U4 (X8 m.get n)) ((els.drop off).take len)with
     |none=>simp[hm]at h
     |some rows=>
      simp only[hm,oI]at h;subst h;obtain⟨p,M⟩:=UC hm;have I:rows.length=len:=by grind
      obtain⟨l',o,r,K,L,G,g5⟩:=hr.live b _ N;rw[hl]at r;injection r with r;subst r
      cases g5 with
      |cells _ _ _ c e S z ab q _=>
       by_cases Y:len=0
       ·subst Y;have:rows=[]:=by grind
        subst this;exact .CA a cap λhp=>⟨_,_,Q hp⟩
       have P:=Q (by omega);subst P;have g:∀(i:Nat) (d:List Aa),rows[i]?=some d -> ∃row,els[off+i]?=some row/\d.length=row.length /\ ∀(j:Nat) (y:Aa),d[j]?=some y -> ∃x,row[j]?=some x/\X8 m.get n x=some y:=by
        intro i d hi;obtain⟨row,E,O⟩:=M i d hi;obtain⟨J,V⟩:=UC O;grind
       have C:∀(i:Nat) (row:List Aa) (j:Nat) (x:Aa),els[off+i]?=some row->row[j]?=some x -> ∃u,c[(l.sh+off)*l.k+i*l.k+j]?=some u/\u.oneCell'=true/\R Φ ρ x u:=by
        intro i row j x hi A;obtain⟨u,E,O,J⟩:=q.2 (off+i) row j x hi A;grind
       rw[<-I];refine .Al rows l.blk ((l.sh+off)*l.k) k cap c (λi j=>(c[(l.sh+off)*l.k+i*k+j]?).getD undef) (λe=>Y (by grind)) (by omega) (hs b l k els c e (0,0) N hl G)
        (λi d hi=>?_) (λi d j y hi A=>?_) (λi d j y hi A=>?_)
       ·obtain⟨row,E,O,_⟩:=g i d hi;rw[O];exact q.1 (off+i) row E
       ·obtain⟨row,E,_,J⟩:=g i d hi;obtain⟨x,V,_⟩:=J j y A;obtain⟨u,p1,p2,_⟩:=C i row j x E V;grind
       obtain⟨row,E,_,J⟩:=g i d hi;obtain⟨x,V,q5⟩:=J j y A;grind
end
theorem Yl1{W:Aq}{Φ:Ap}{ρ:AI}{m:Mem}{w:World}(f:Rel W Φ ρ m w):∃Bs:Ap,Ext Φ ρ Bs ρ/\(∀B c,Bs B=some c -> ∃e fz,w.heap[B]?=some (.cells c e fz)) /\
 (∀B c,Bs B=some c->W.p B=some c\/W.Cu B) /\ ∀b l k els c e fz,m.get b=some (.cells k els)->ρ b=some l->w.heap[l.blk]?=some (.cells c e fz)->Bs l.blk=some c:=by
 have i:∀B,(∃b l y,m.get b=some y/\ρ b=some l/\l.blk=B)->Φ B=none/\W.Cu B:=by
  rintro B ⟨b,l,y,g,r,rfl⟩;obtain⟨l',o,j,n,q,_⟩:=f.live b y g;grind
 refine⟨λB=>@ite _ (∃b l y,m.get b=some y/\ρ b=some l/\l.blk=B) (Classical.propDecidable _) (match w.heap[B]? with|some (.cells c _ _)=>some c|_=>none) (Φ B),⟨λB c a=>?_,λb l h=>h⟩,λB c a=>?_,λB c a=>?_,λb l k els c e fz s t u=>?_⟩
 ·grind
 ·by_cases d:∃b l y,m.get b=some y/\ρ b=some l/\l.blk=B
  ·simp only[d,if_true]at a;grind
  simp only[d,if_false]at a;exact f.AX B c a
 ·by_cases d:∃b l y,m.get b=some y/\ρ b=some l/\l.blk=B
  ·grind
  simp only[d,if_false]at a;exact f.BH B c a
 have d:∃b' l' y,m.get b'=some y/\ρ b'=some l'/\l'.blk=l.blk:=by grind
 simp_all
theorem aI{P:Program}{g:FuncId}{args:List Aa}{v:Aa}{m0:Mem}{K:Aa->Mem->Prop}(j:Y7 args=true)(t:v.closed=true)(C:∀c,m0.get c=none)(d:0<m0.next)
 (h:Aw P g args m0 [0] K) (E:∀r m',K r m' -> ∃n,X8 m'.get n r=some v) (m:Mem) (o:List Nat):Aw P g args m o λr m'=>r=v/\m'=m:=by
 refine Yba (K:=λr _=>r=v) (m0:=m0) j t C d ⟨h.1,λW Φ ρ vs w L G s=>(h.2 W Φ ρ vs w L G s).mono λe w' H=>?_⟩ (λr m' h=>h) m o;obtain⟨u,r,q,N,ρ',y,D,I,a,F,J,f⟩:=H;obtain⟨n,k⟩:=E r q f;obtain⟨Bs,p,z,A,B⟩:=Yl1 a;have i:=kY a p B n r v u k F;refine⟨u,v,⟨λ_=>none,q.next⟩,Bs,ρ',y,D.trans p,I,⟨a.base,z,λb x M=>(by cases M),λb b' x O l l' d=>(by cases d),a.fresh,A⟩,i,J,rfl⟩
def cI:List UInt8→List UInt8→Bool
 | [],[]=>true
 | a :: r,b :: s=>beq a.toNat b.toNat&&cI r s
 | _,_=>false
theorem qc:∀{a b:List UInt8},cI a b=true->a=b
 |[],[],_=>rfl
 |a::r,b::s,h=>by
  simp only[cI,bA]at h;have c:=eq_of_beq_eq_true h.1;rw[UInt8.toNat_inj.1 c,qc h.2]
 |[],_::_,h=>by cases h
 |_::_,[],h=>by cases h
def lB:Int→Int→Bool
 | .ofNat a,.ofNat b=>beq a b
 | .negSucc a,.negSucc b=>beq a b
 | _,_=>false
theorem Yf5{a b:Int}(h:lB a b=true):a=b:=by
 cases a<;>cases b<;>simp only[lB]at h<;>first|(cases h;done)|simp_all
mutual
def I9:Aa→Aa→Bool
 | .bool a,.bool b=>a == b
 | .int k a,.int k' b=>k == k'&&lB a b
 | .str a,.str b=>cI a b
 | .nilPtr,.nilPtr=>true
 | .Aj,.Aj=>true
 | .emp,.emp=>true
 | .AF,.AF=>true
 | .nilFunc,.nilFunc=>true
 | .nilIface,.nilIface=>true
 | .Al a,.Al b=>Qn a b
 | .agg a,.agg b=>Gh a b
 | .tuple a,.tuple b=>Gh a b
 | _,_=>false
def Gh:List Aa→List Aa→Bool
 | [],[]=>true
 | x :: r,y :: s=>I9 x y&&Gh r s
 | _,_=>false
def Qn:List (List Aa)→List (List Aa)→Bool
 | [],[]=>true
 | x :: r,y :: s=>Gh x y&&Qn r s
 | _,_=>false
end
mutual
theorem Z6i:∀(x y:Aa),I9 x y=true->x=y
 |.bool a,y,h=>by cases y<;>simp only[I9]at h<;>first|(cases h;done)|(simp at h;rw[h])
 |.int k a,y,h=>by
  cases y<;>simp only[I9]at h<;>first|(cases h;done)|skip
  simp only[bA,beq_iff_eq]at h;rw[h.1,Yf5 h.2]
 |.str a,y,h=>by cases y<;>simp only[I9]at h<;>first|(cases h;done)|(rw[qc h])
 |.nilPtr,y,h=>by cases y<;>simp only[I9]at h<;>first|(cases h;done)|rfl
 |.Aj,y,h=>by cases y<;>simp only[I9]at h<;>first|(cases h;done)|rfl
 |.emp,y,h=>by cases y<;>simp only[I9]at h<;>first|(cases h;done)|rfl
 |.AF,y,h=>by cases y<;>simp only[I9]at h<;>first|(cases h;done)|rfl
 |.nilFunc,y,h=>by cases y<;>simp only[I9]at h<;>first|(cases h;done)|rfl
 |.nilIface,y,h=>by cases y<;>simp only[I9]at h<;>first|(cases h;done)|rfl
 |.Al a,y,h=>by cases y<;>simp only[I9]at h<;>first|(cases h;done)|(rw[iY _ _ h])
 |.agg a,y,h=>by cases y<;>simp only[I9]at h<;>first|(cases h;done)|(rw[Wr _ _ h])
 |.ptr _ _ _,y,h=>by simp[I9]at h
 |.Bc _ _ _,y,h=>by simp[I9]at h
 |.sl _ _ _,y,h=>by simp[I9]at h
 |.map _,y,h=>by simp[I9]at h
 |.Dt _,y,h=>by simp[I9]at h
 |.atLeast _,y,h=>by simp[I9]at h
 |.func _ _ _,y,h=>by simp[I9]at h
 |.iface _ _,y,h=>by simp[I9]at h
 |.tuple a,y,h=>by
  cases y<;>simp only[I9]at h<;>first|(cases h;done)|(rw[Wr _ _ h])
 |.bot,y,h=>by simp[I9]at h
theorem Wr:∀(x y:List Aa),Gh x y=true->x=y
 |[],[],_=>rfl
 |a::r,b::s,h=>by
  simp only[Gh,bA]at h;rw[Z6i a b h.1,Wr r s h.2]
 |[],_::_,h=>by simp[Gh]at h
 |_::_,[],h=>by simp[Gh]at h
theorem iY:∀(x y:List (List Aa)),Qn x y=true->x=y
 |[],[],_=>rfl
 |a::r,b::s,h=>by
  simp only[Qn,bA]at h;rw[Wr a b h.1,iY r s h.2]
 |[],_::_,h=>by simp[Qn]at h
 |_::_,[],h=>by simp[Qn]at h
end
structure AZ where
 g:FuncId
 args:List Aa
 v:Aa
def AZ.Ok(P:Program)(e:AZ):Prop:=∀ m av,Aw P e.g e.args m av fun r m'=>r=e.v∧m'=m
def AZ.Vx(P:Program):List AZ→Prop
 | []=>True
 | e :: r=>e.Ok P∧AZ.Vx P r
def Xm(a b:Ax):Ax:=fun g args m=>match a g args m with
 | some r=>some r
 | none=>b g args m
theorem mJ{P:Program}{a b:Ax}(d:K2 P a)(e:K2 P b):K2 P (Xm a b):=by
 intro g args m v m' wl h;unfold Xm at h;cases c:a g args m with
 |some r=>
  rw[c]at h;injection h with h
  subst h;exact d g args m v m' wl c
 |none=>rw[c]at h;exact e g args m v m' wl h
def runM(BS:Nat→Option AD)(Jq:Ax)(g:FuncId)(args:List Aa):Option Aa:=
 match Gp BS Jq 1000 g args ⟨.nil,1⟩ with
 | some (r,m,_)=>X8 m.tr.get 1000 r
 | none=>none
theorem Z7y{P:Program}(hm:P.follows .mixedOrders=true){BS:Nat->Option AD}{a:Ax}(j:Ph P BS)(k:K2 P a)(e:AZ)
 (h:(match runM BS a e.g e.args with|some r=>I9 r e.v&&(Y7 e.args&&e.v.closed)|none=>false)=true):e.Ok P:=by
 intro m l;unfold runM at h;cases d:Gp BS a 1000 e.g e.args ⟨.nil,1⟩ with
 |none=>simp[d]at h
 |some f=>
  obtain⟨r,i,wl⟩:=f;simp only[d]at h;cases b:X8 i.tr.get 1000 r with
  |none=>simp[b]at h
  |some y=>
   simp only[b,bA]at h;obtain⟨n,o,p⟩:=h;have t:=Z6i _ _ n;subst t;obtain⟨_,_,q⟩:=bK hm j k 1000 e.g e.args ⟨.nil,1⟩ r i wl d;exact aI o p (m0:=(⟨.nil,1⟩:TM).mem) (λc=>rfl) (lt_succ_self 0) (q 0) (λu m' s=>⟨1000,by obtain⟨rfl,rfl⟩:=s;exact b⟩) m l
end Go.AE
