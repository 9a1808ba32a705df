/- Part 7 -/
import Derived.Test.YtilmpmlkndfbjaaGreatDoorT6
set_option linter.all false
open List (filter_cons range pairwise_cons)
open Nat (beq ble)
namespace Go.AE
open Go.RowKit
theorem Zys{W:Aq}{Φ:Ap}{ρ:AI}{m:Mem}{w:World}(i:Rel W Φ ρ m w):∃Bs:Ap,Ext Φ ρ Bs ρ/\(∀B c,Bs B=some c -> ∃e fz,w.heap[B]?=some (.cells c e fz)) /\
 (∀B c,Bs B=some c->W.p B=some c\/W.Cu B)/\(∀b l k els c e fz,m.get b=some (.cells k els)->ρ b=some l->w.heap[l.blk]?=some (.cells c e fz)->Bs l.blk=some c) /\
 ∀B,Bs B=Φ B \/ ∃b l y,m.get b=some y/\ρ b=some l/\l.blk=B:=by
 have f:∀B,(∃b l y,m.get b=some y/\ρ b=some l/\l.blk=B)->Φ B=none/\W.Cu B:=by
  rintro B ⟨b,l,y,r,s,rfl⟩;obtain⟨l',o,g,n,q,_⟩:=i.live b y r;rw[s]at g;injection g with g;subst g
  exact⟨q,n⟩
 refine⟨λB=>@ite _ (∃b l y,m.get b=some y/\ρ b=some l/\l.blk=B) (Classical.propDecidable _) (match w.heap[B]? with|some (.cells c _ _)=>some c|_=>none) (Φ B),⟨λB c a=>?_,λb l h=>h⟩,λB c a=>?_,λB c a=>?_,λb l k els c e fz t u j=>?_,λB=>?_⟩
 ·by_cases d:∃b l y,m.get b=some y/\ρ b=some l/\l.blk=B
  ·rw[(f B d).1]at a;cases a
  simp only[d,if_false];exact a
 ·by_cases d:∃b l y,m.get b=some y/\ρ b=some l/\l.blk=B
  ·simp only[d,if_true]at a;split at a<;>first|(cases a;done)|skip
   rename_i c' e fz j;injection a with a;subst a
   exact⟨e,fz,j⟩
  simp only[d,if_false]at a;exact i.AX B c a
 ·by_cases d:∃b l y,m.get b=some y/\ρ b=some l/\l.blk=B
  ·exact .inr (f B d).2
  simp only[d,if_false]at a;exact i.BH B c a
 ·have d:∃b' l' y,m.get b'=some y/\ρ b'=some l'/\l'.blk=l.blk:=⟨b,l,_,t,u,rfl⟩;simp only[d,if_true,j]
 by_cases d:∃b l y,m.get b=some y/\ρ b=some l/\l.blk=B
 ·exact .inr d
 exact .inl (by simp only[d,if_false])
mutual
def Aa.scalar:Aa→Bool
 | .bool _ | .int _ _ | .str _ | .nilPtr | .Aj | .emp | .AF | .nilFunc | .nilIface=>true
 | .agg cs=>Xj cs
 | .tuple cs=>Xj cs
 | _=>false
def Xj:List Aa→Bool
 | []=>true
 | x :: r=>x.scalar&&Xj r
end
theorem nC:∀{l:List Aa}{i:Nat}{x:Aa},Xj l=true->l[i]?=some x->x.scalar=true
 |[],i,x,_,h=>by simp at h
 |y::r,i,x,h,a=>by
  simp only[Xj,bA]at h;cases i with
  |zero=>simp only[List.getElem?_cons_zero,oI]at a;subst a;exact h.1
  |succ i=>simp only[List.getElem?_cons_succ]at a;exact nC h.2 a
theorem R.scalar{Φ j:Ap}{ρ ρ':AI}{x:Aa}{v:Value}(h:R Φ ρ x v)(d:x.scalar=true):R j ρ' x v:=by
 induction h with
 |bool b=>exact .bool b
 |int k n=>exact .int k n
 |str s=>exact .str s
 |nilPtr=>exact .nilPtr
 |Aj=>exact .Aj
 |emp a=>exact .emp a
 |AF=>exact .AF
 |nilFunc=>exact .nilFunc
 |nilIface=>exact .nilIface
 |agg cs vs f _ g=>
  simp only[Aa.scalar]at d;exact .agg cs vs f λi x v c e=>g i x v c e (nC d c)
 |tuple cs vs f _ g=>
  simp only[Aa.scalar]at d;exact .tuple cs vs f λi x v c e=>g i x v c e (nC d c)
 |_=>simp[Aa.scalar]at d
def Mem.part(m:Mem)(L:List Nat):Mem:=⟨fun c=>bif A3 c L then m.get c else none,m.next⟩
theorem jJ(m:Mem)(L:List Nat):Mem.Sub (m.part L) m:=by
 refine⟨λb x h=>?_,lR _⟩;simp only[Mem.part]at h;cases a:A3 b L with
 |true=>rw[a]at h;exact h
 |false=>rw[a]at h;cases h
theorem Hv{x:Nat}:∀{l:List Nat},A3 x l=true↔x∈l
 |[]=>by simp[A3]
 |y::r=>by
  simp only[A3,mC];cases h:beq x y with
  |true=>simp[Nat.eq_of_beq_eq_true h]
  |false=>
   simp only[cond_false];rw[Hv];have:x≠y:=λe=>by subst e;rw[Nat.beq_refl]at h;cases h
   simp[this]
section
variable {P:Program}
theorem Zxr{W:Aq}{Φ Bs:Ap}{ρ:AI}{m:Mem}{w:World}{n:Nat}{args args':List Aa}{vs:Array Value}(g:Rel W Φ ρ m w)(d:Ext Φ ρ Bs ρ)(i:∀b l k els c e fz,m.get b=some (.cells k els)->ρ b=some l->w.heap[l.blk]?=some (.cells c e fz)->Bs l.blk=some c)
 (h:U4 (X8 m.get n) args=some args') (f:RL Φ ρ args vs):RL Bs ρ args' vs:=
 mD (λx y v a j=>kY g d i n x y v a j) f h
theorem Ydc{e:AZ}(q:e.Ok P)(H:e.v.scalar=true){m:Mem}{L:List Nat}{n:Nat}{args:List Aa}(G:U4 (X8 (m.part L).get n) args=some e.args)(t:List Nat) :
 Aw P e.g args m t λr s=>r=e.v/\s=m:=by
 refine⟨(q m []).1,λW Φ ρ vs w i E K=>?_⟩;have a:=i.sub (jJ m L);obtain⟨Bs,y,z,M,A,N⟩:=Zys a;have f:=Zxr a y A G E
 let k:Aq:=⟨w,λ_=>none,Bs⟩
 have j:Rel k Bs ρ ⟨λ_=>none,m.next⟩ w:=
  ⟨⟨Below.refl _ _,λB o d=>(by cases d)⟩,z,λb x I=>(by cases I),λb b' x S l l' p=>(by cases p),i.fresh,λB c d=>.inl d⟩
 refine((q ⟨λ_=>none,m.next⟩ []).2 k Bs ρ vs w j f (λb F=>by cases F)).mono ?_;rintro e' w' ⟨u,r,s,J,ρ',rfl,p,O,C,D,Q,rfl,rfl⟩;exact⟨u,e.v,m,Φ,ρ,rfl,.refl _ _,λb _ _ h=>h,i.below C.base.below,D.scalar H,lR _,rfl,rfl⟩
theorem Ya9{e:AZ}(A:e.Ok P){m:Mem}{L:List Nat}{n:Nat}{args:List Aa}(V:U4 (X8 (m.part L).get n) args=some e.args)(E:List Nat) :
 Aw P e.g args m E λr C=>r=e.v/\C=m.less L:=by
 refine⟨(A m []).1,λW Φ ρ vs w c U BE=>?_⟩;have f:=c.sub (jJ m L);obtain⟨Bs,k,G,H,I,J⟩:=Zys f;have s:=Zxr f k I V U;have a:∀b x,(m.less L).get b=some x->b∉L/\m.get b=some x:=λb x h=>by
  simp only[Mem.less]at h;split at h
  ·cases h
  exact⟨‹_›,h⟩
 have t:Rel W Bs ρ (m.less L) w:=by
  refine⟨c.base,G,λb x i=>?_,λb b' x x' l l' p q=>c.inj b b' x x' l l' (a _ _ p).2 (a _ _ q).2,c.fresh,H⟩;obtain⟨d,i⟩:=a b x i;obtain⟨l,o,z,K,M,N,O⟩:=c.live b x i;refine⟨l,o,z,K,?_,N,O.ext k⟩;rcases J l.blk with h|⟨F,Z,y,j,X,Y⟩
  ·rw[h];exact M
  exfalso;have:=c.inj b F x y l Z i ((jJ m L).get _ _ j) z X Y.symm;subst this;simp only[Mem.part]at j;cases B:A3 b L with
  |false=>rw[B]at j;cases j
  |true=>exact d (Hv.1 B)
 refine((A (m.less L) []).2 W Bs ρ vs w t s (λb d=>by cases d)).mono ?_;rintro e' w' ⟨u,r,C,D,ρ',rfl,p,q,S,T,h5,rfl,rfl⟩;exact⟨u,e.v,_,D,ρ',rfl,k.trans p,λb d hn Q=>q b d (by simp) Q,S,T,lR _,rfl,rfl⟩
def Pd(get:Nat→Option Af):Nat→Aa→List Nat
 | 0,_=>[]
 | n+1,x=>match x with
  | .sl b _ _=>b :: (match get b with
   | some (.cells _ els)=>els.flatMap fun r=>r.flatMap (Pd get n)
   | _=>[])
  | .agg cs=>cs.flatMap (Pd get n)
  | .tuple cs=>cs.flatMap (Pd get n)
  | .Al els=>els.flatMap fun r=>r.flatMap (Pd get n)
  | _=>[]
def Tv(g:Nat):List AZ→Bool
 | []=>false
 | e :: r=>beq e.g g||Tv g r
def Sb(g:Nat)(args:List Aa):List AZ→Option AZ
 | []=>none
 | e :: r=>bif beq e.g g then (bif Gh args e.args then some e else Sb g args r)else Sb g args r
theorem lU{g:Nat}{args:List Aa}:∀{l:List AZ}{e:AZ},AZ.Vx P l->Sb g args l=some e->e.Ok P/\e.g=g/\args=e.args
 |[],e,_,h=>by simp[Sb]at h
 |a::r,e,d,h=>by
  simp only[Sb]at h;cases b:beq a.g g with
  |false=>rw[b]at h;exact lU d.2 h
  |true=>
   rw[b]at h;simp only[cond_true]at h;cases c:Gh args a.args with
   |false=>rw[c]at h;exact lU d.2 h
   |true=>
    rw[c]at h;simp only[cond_true,oI]at h;subst h;exact⟨d.1,Nat.eq_of_beq_eq_true b,Wr _ _ c⟩
def Ts(l:List AZ):Ax:=fun g args m=>
 bif Tv g l then
  let L:=args.flatMap (Pd m.tr.get 8)
  match U4 (X8 (fun c=>bif A3 c L then m.tr.get c else none) 8) args with
  | some args'=>match Sb g args' l with
   | some e=>bif e.v.scalar then some (e.v,m,[])else bif L.all fun b=>ble (b+1) bound then some (e.v,JT m L,L)else none
   | none=>none
  | none=>none
 else none
theorem Z6e:∀(L:List Nat) (m:TM),(L.all λb=>ble (b+1) bound)=true->(JT m L).mem=m.mem.less L/\(JT m L).next=m.next
 |[],m,_=>⟨Mem.ext' (λc=>by simp[JT,Mem.less]) rfl,rfl⟩
 |b::r,m,h=>by
  simp only[List.all_cons,bA]at h;obtain⟨d,e⟩:=Z6e r (m.set b none) h.2;simp only[JT];refine⟨?_,by rw[e];rfl⟩;rw[d,TM.Ds (Nat.le_of_ble_eq_true h.1)];refine Mem.ext' (λc=>?_) rfl;simp only[Mem.less,Mem.Bx,mC];by_cases a:c=b
  ·simp[a]
  simp[a]
theorem Z7g{l:List AZ}(r:AZ.Vx P l):K2 P (Ts l):=by
 intro g args m v t wl h;unfold Ts at h;cases j:Tv g l with
 |false=>rw[j]at h;cases h
 |true=>
  rw[j]at h;simp only[cond_true]at h;cases a:U4 (X8 (λc=>bif A3 c (args.flatMap (Pd m.tr.get 8))then m.tr.get c else none) 8) args with
  |none=>simp[a]at h
  |some args'=>
   simp only[a]at h;cases hm:Sb g args' l with
   |none=>simp[hm]at h
   |some e=>
    simp only[hm]at h;obtain⟨i,o,p⟩:=lU r hm;subst o;subst p;cases f:e.v.scalar with
    |true=>
     rw[f]at h;simp only[cond_true,oI,AT]at h;obtain⟨rfl,rfl,rfl⟩:=h;exact⟨lR _,λ_ _ _=>rfl,λid=>Ydc (m:=m.mem) (L:=args.flatMap (Pd m.tr.get 8)) (n:=8) i f a [id]⟩
    |false=>
     rw[f]at h;simp only[cond_false]at h;cases d:(args.flatMap (Pd m.tr.get 8)).all λb=>ble (b+1) bound with
     |false=>rw[d]at h;cases h
     |true=>
      rw[d]at h;simp only[cond_true,oI,AT]at h;obtain⟨rfl,rfl,rfl⟩:=h;obtain⟨k,s⟩:=Z6e _ m d;refine⟨by rw[s];exact lR _,λc _ q=>?_,λid=>?_⟩
      ·rw[k];simp only[Mem.less];rw[iN q]
      rw[k];exact Ya9 (m:=m.mem) (L:=args.flatMap (Pd m.tr.get 8)) (n:=8) i a [id]
end
end Go.AE
namespace Go.Plain
theorem NJ(p:Lt->Bool)(a b:List Lt):Z4 p (a++b)=Z4 p a+Z4 p b:=by simp[Z4]
theorem Pf(p:Lt->Bool)(l:Lt)(b:List Lt):Z4 p (l::b)=(if p l then 1 else 0)+Z4 p b:=by
 simp only[Z4,filter_cons];grind
theorem Pp(p q:Lt->Bool)(ls:List Lt):Z4 p ls=Z4 (λl=>p l&&q l) ls+Z4 (λl=>p l && !q l) ls:=by
 induction ls with
 |nil=>rfl
 |cons l r a=>
  simp only[Pf,a];grind
theorem J3{p q:Lt->Bool}{ls:List Lt}(h:∀l,l∈ls->p l=q l):Z4 p ls=Z4 q ls:=by
 unfold Z4;rw[List.filter_congr h]
theorem Ib{p:Lt->Bool}{ls:List Lt}:Z4 p ls<=ls.length:=List.length_filter_le _ _
theorem Yip{ls:List Lt}{q:Lt->Bool}(b:∀l,l∈ls->q l=true->1<=l.r/\l.r<=(Z4 q ls:Nat))(c:∀t:Int,Z4 (λl=>q l&&l.r == t) ls<=1) :
 ∀t:Nat,t<=Z4 q ls->Z4 (λl=>q l&&decide (l.r<=(t:Int))) ls=t:=by
 have step:∀t:Nat,Z4 (λl=>q l&&decide (l.r<=((t+1:Nat):Int))) ls<=Z4 (λl=>q l&&decide (l.r<=(t:Int))) ls+1:=by
  intro t;rw[Pp (λl=>q l&&decide (l.r<=((t+1:Nat):Int))) (λl=>decide (l.r<=(t:Int)))];have g:Z4 (λl=>q l&&decide (l.r<=((t+1:Nat):Int))&&decide (l.r<=(t:Int))) ls=Z4 (λl=>q l&&decide (l.r<=(t:Int))) ls:=by
   apply J3;intro l _;cases q l with
   |false=>simp
   |true=>rw[Bool.eq_iff_iff];simp;omega
  have h:Z4 (λl=>q l&&decide (l.r<=((t+1:Nat):Int)) && !decide (l.r<=(t:Int))) ls=Z4 (λl=>q l&&l.r == ((t+1:Nat):Int)) ls:=by
   apply J3;intro l _;cases q l with
   |false=>simp
   |true=>rw[Bool.eq_iff_iff];simp;omega
  simp_all
 have zero:Z4 (λl=>q l&&decide (l.r<=((0:Nat):Int))) ls=0:=by
  unfold Z4;rw[List.length_eq_zero_iff,List.filter_eq_nil_iff];grind
 have a:Z4 (λl=>q l&&decide (l.r<=((Z4 q ls:Nat):Int))) ls=Z4 q ls:=by
  apply J3;simp_all
 have f:∀t:Nat,Z4 (λl=>q l&&decide (l.r<=(t:Int))) ls<=t:=by
  intro t;induction t with
  |zero=>omega
  |succ t d=>have:=step t;omega
 have down:∀k t:Nat,t+k=Z4 q ls->Z4 q ls<=Z4 (λl=>q l&&decide (l.r<=(t:Int))) ls+k:=by
  intro k;induction k with
  |zero=>grind
  |succ k d=>
   intro t e;have b:=d (t+1) (by omega);have c:=step t;omega
 intro t e;have b:=f t;have c:=down (Z4 q ls-t) t (by omega);omega
def S1(a b:Lt):Bool:=decide (a.g<b.g)||(a.g == b.g&&decide (a.r<b.r))
theorem Zzz(a:Lt):S1 a a=false:=by simp[S1]
theorem oT{a b:Lt}(h:S1 a b=true):S1 b a=false:=by
 simp only[S1,Bool.or_eq_true,bA,decide_eq_true_eq,beq_iff_eq,Bool.or_eq_false_iff,Bool.and_eq_false_iff,decide_eq_false_iff_not,beq_eq_false_iff_ne]at *;omega
theorem uj{a b:Lt}(h:¬(a.g=b.g/\a.r=b.r)):S1 a b=true\/S1 b a=true:=by
 simp only[S1,Bool.or_eq_true,bA,decide_eq_true_eq,beq_iff_eq];omega
theorem Z99{a b c:Lt}(h:S1 a b=true)(d:S1 b c=true):S1 a c=true:=by
 simp only[S1,Bool.or_eq_true,bA,decide_eq_true_eq,beq_iff_eq]at *;omega
def at'(ls:List Lt)(i:Nat):Lt:=ls.getD i default
def ins(ls:List Lt)(i:Nat):List Nat→List Nat
 | []=>[i]
 | j :: r=>if S1 (at' ls j) (at' ls i)then j :: ins ls i r else i :: j :: r
def H6(ls:List Lt):Nat→List Nat
 | 0=>[]
 | k+1=>if As (at' ls k)then ins ls k (H6 ls k)else H6 ls k
def Z2(ls:List Lt):List Nat:=H6 ls ls.length
theorem dB(ls:List Lt)(i:Nat):∀(l:List Nat),(ins ls i l).Perm (i::l)
 |[]=>List.Perm.refl _
 |j::r=>by
  simp only[ins];split
  ·exact((dB ls i r).cons j).trans (List.Perm.swap i j r)
  grind
theorem Nn(ls:List Lt):∀k,(H6 ls k).Perm ((range k).filter λj=>As (at' ls j))
 |0=>List.Perm.refl _
 |k+1=>by
  rw[List.range_succ,List.filter_append];simp only[H6,filter_cons,List.filter_nil];split
  ·exact((dB ls k _).trans ((Nn ls k).cons k)).trans (List.perm_append_comm (l₁:=[k]))
  simpa using Nn ls k
theorem Yf7(ls:List Lt):(range ls.length).map (at' ls)=ls:=by
 apply List.ext_getElem?;intro i;rw[gM];by_cases h:i<ls.length
 ·simp[h,at']
 simp[h]
theorem fA(ls:List Lt)(p:Lt->Bool):((range ls.length).filter λj=>p (at' ls j)).length=Z4 p ls:=by
 have h:(((range ls.length).map (at' ls)).filter p).length=((range ls.length).filter λj=>p (at' ls j)).length:=by
  rw[List.filter_map,lM];rfl
 rw[<-h,Yf7];rfl
theorem Q7(ls:List Lt):(Z2 ls).length=Z0 ls:=by
 rw[Z2,(Nn ls _).length_eq,fA];rfl
theorem AA{ls:List Lt}{j:Nat}:j∈Z2 ls↔j<ls.length/\As (at' ls j)=true:=by
 rw[Z2,(Nn ls _).mem_iff];simp
def Qs(ls:List Lt):Prop:=∀ i j,i<ls.length→j<ls.length→As (at' ls i)=true→As (at' ls j)=true→(at' ls i).g=(at' ls j).g→(at' ls i).r=(at' ls j).r→i=j
theorem Zya{ls:List Lt}{i:Nat}:∀{l:List Nat},l.Pairwise (λa b=>S1 (at' ls a) (at' ls b)=true)->(∀j,j∈l->S1 (at' ls j) (at' ls i)=true\/S1 (at' ls i) (at' ls j)=true) ->
 (ins ls i l).Pairwise (λa b=>S1 (at' ls a) (at' ls b)=true)
 |[],_,_=>List.pairwise_singleton _ _
 |j::r,h,f=>by
  rw[pairwise_cons]at h;simp only[ins];split
  ·rename_i d;rw[pairwise_cons];refine⟨λx e=>?_,Zya h.2 λk g=>f k (List.mem_cons_of_mem _ g)⟩;have:=(dB ls i r).mem_iff.1 e;grind
  rename_i d;have c:S1 (at' ls i) (at' ls j)=true:=(f j (List.mem_cons_self ..)).resolve_left d;rw[pairwise_cons,pairwise_cons];refine⟨λx e=>?_,h.1,h.2⟩;rcases mC.1 e with rfl|e
  ·exact c
  exact Z99 c (h.1 x e)
theorem ZS{ls:List Lt}(c:Qs ls):∀k,k<=ls.length->(H6 ls k).Pairwise (λa b=>S1 (at' ls a) (at' ls b)=true)
 |0,_=>List.Pairwise.nil
 |k+1,h=>by
  simp only[H6];split
  ·rename_i g;refine Zya (ZS c k (by omega)) λj f=>?_;have:=(Nn ls k).mem_iff.1 f;simp only[List.mem_filter,mR]at this;apply uj;rintro⟨d,e⟩;have:=c j k (by omega) (by omega) this.2 g d e;omega
  exact ZS c k (by omega)
theorem qt{ls:List Lt}:∀{l:List Nat}{p i:Nat},l.Pairwise (λa b=>S1 (at' ls a) (at' ls b)=true)->l[p]?=some i->(l.filter λj=>S1 (at' ls j) (at' ls i)).length=p
 |[],p,i,_,h=>by simp at h
 |j::r,p,i,c,h=>by
  rw[pairwise_cons]at c;cases p with
  |zero=>
   simp only[List.getElem?_cons_zero,oI]at h;subst h;rw[List.length_eq_zero_iff,List.filter_eq_nil_iff];intro x d;rcases mC.1 d with rfl|d
   ·simp[Zzz]
   rw[oT (c.1 x d)];simp
  |succ p=>
   simp only[List.getElem?_cons_succ]at h;rw[filter_cons,iP (c.1 i (List.mem_of_getElem? h)),lC,qt c.2 h]
def pos(ls:List Lt)(l:Lt):Nat:=Z4 (fun o=>As o&&decide (o.g<l.g)) ls+(l.r - 1).toNat
def VM(ls:List Lt):Prop:=∀ l,l∈ls→As l=true→1≤l.r∧l.r≤(Bl l.g ls:Nat)
theorem P4{ls:List Lt}{i:Nat}(h:i<ls.length):at' ls i∈ls:=by
 rw[at',List.getD,gE h];grind
theorem Ych{ls:List Lt}(f:Qs ls)(g r:Int):Z4 (λl=>(As l&&l.g == g)&&l.r == r) ls<=1:=by
 rw[<-fA];have h:((range ls.length).filter λj=>(As (at' ls j)&&(at' ls j).g == g)&&(at' ls j).r == r).Nodup:=(List.nodup_range).filter _;rcases e:(range ls.length).filter (λj=>(As (at' ls j)&&(at' ls j).g == g)&&(at' ls j).r == r)with _|⟨a,_|⟨b,t⟩⟩
 ·simp
 ·simp
 exfalso;rw[e]at h;have c:a∈(range ls.length).filter (λj=>(As (at' ls j)&&(at' ls j).g == g)&&(at' ls j).r == r):=by rw[e];simp
 have d:b∈(range ls.length).filter (λj=>(As (at' ls j)&&(at' ls j).g == g)&&(at' ls j).r == r):=by rw[e];simp
 simp only[List.mem_filter,mR,bA,beq_iff_eq]at c d;have:=f a b c.1 d.1 c.2.1.1 d.2.1.1 (by rw[c.2.1.2,d.2.1.2]) (by rw[c.2.2,d.2.2]);grind
theorem Z5d{ls:List Lt}(d:Qs ls)(c:VM ls){l:Lt}(i:l∈ls)(k:As l=true):Z4 (λo=>As o&&S1 o l) ls=pos ls l:=by
 obtain⟨m,n⟩:=c l i k;have f:=Yip (ls:=ls) (q:=λo=>As o&&o.g == l.g) (λo j a=>by
  simp only[bA,beq_iff_eq]at a;have:=c o j a.1;rw[a.2]at this;exact this) (λt=>Ych d l.g t) (l.r-1).toNat (by
   have p:((Z4 (λo=>As o&&o.g == l.g) ls:Nat):Int)=(Bl l.g ls:Nat):=rfl;omega)
 rw[Pp (λo=>As o&&S1 o l) (λo=>decide (o.g<l.g))];unfold pos
 congr 1
 ·apply J3;intro o _;by_cases h:o.g<l.g
  ·simp[S1,h]
  simp[h]
 rw[<-f];apply J3;intro o _;by_cases b:o.g=l.g
 ·have e:(o.r<l.r)↔(o.r<=((l.r-1).toNat:Int)):=by omega
  simp[S1,b,e]
 by_cases h:o.g<l.g
 ·grind
 rw[Bool.eq_iff_iff];simp[S1,h,b]
theorem lZ{ls:List Lt}(e:Qs ls)(k:VM ls){i:Nat}(hi:i<ls.length)(f:As (at' ls i)=true):(Z2 ls)[pos ls (at' ls i)]?=some i:=by
 have hm:i∈Z2 ls:=AA.2 ⟨hi,f⟩;obtain⟨p,h,g⟩:=List.getElem_of_mem hm;have c:(Z2 ls)[p]?=some i:=by grind
 have d:=qt (ZS e _ (lR _)) c;have b:((Z2 ls).filter λj=>S1 (at' ls j) (at' ls i)).length=Z4 (λo=>As o&&S1 o (at' ls i)) ls:=by
  rw[Z2,((Nn ls ls.length).filter _).length_eq,List.filter_filter,<-fA];grind
 have a:((Z2 ls).filter λj=>S1 (at' ls j) (at' ls i)).length=p:=d;rw[b,Z5d e k (P4 hi) f]at a;rw[a];exact c
end Go.Plain
