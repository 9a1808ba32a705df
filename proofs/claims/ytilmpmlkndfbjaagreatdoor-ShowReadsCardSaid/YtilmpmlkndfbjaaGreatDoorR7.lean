/- Part 7 of the proof: AeIa, Pb. -/
import Derived.Test.YtilmpmlkndfbjaaGreatDoorR5
import Derived.Test.YtilmpmlkndfbjaaGreatDoorR6
set_option linter.all false
section
namespace Go.AE
open Go.RowKit
theorem Zrw{W:Base}{Φ:Pers}{ρ:Rho}{m:Mem}{w:World}(i:Rel W Φ ρ m w):∃ Φs:Pers,Ext Φ ρ Φs ρ∧(∀ B c,Φs B=some c → ∃ e fz,w.heap[B]? = some (.cells c e fz)) ∧
 (∀ B c,Φs B=some c→W.p B=some c∨W.Free B)∧(∀ b l k els c e fz,m.get b=some (.cells k els)→ρ b=some l→w.heap[l.blk]? = some (.cells c e fz)→Φs l.blk=some c) ∧
 ∀ B,Φs B=Φ B ∨ ∃ b l y,m.get b=some y∧ρ b=some l∧l.blk=B:=by
 have f:∀ B,(∃ b l y,m.get b=some y∧ρ b=some l∧l.blk=B)→Φ B=none∧W.Free B:=by
  rintro B ⟨b,l,y,r,s,rfl⟩;obtain⟨l',o,g,n,q,_⟩:=i.live b y r;rw[s]at g; injection g with g; subst g
  exact⟨q,n⟩
 refine⟨fun B=>@ite _ (∃ b l y,m.get b=some y∧ρ b=some l∧l.blk=B) (Classical.propDecidable _) (match w.heap[B]? with|some (.cells c _ _)=>some c|_=>none) (Φ B),⟨fun B c a=>?_,fun b l h=>h⟩,fun B c a=>?_,fun B c a=>?_,fun b l k els c e fz t u j=>?_,fun B=>?_⟩
 ·by_cases d:∃ b l y,m.get b=some y∧ρ b=some l∧l.blk=B
  ·rw[(f B d).1]at a; cases a
  ·simp only[d,if_false]; exact a
 ·by_cases d:∃ b l y,m.get b=some y∧ρ b=some l∧l.blk=B
  ·simp only[d,if_true]at a;split at a<;>first|(cases a; done)|skip
   rename_i c' e fz j;injection a with a; subst a
   exact⟨e,fz,j⟩
  ·simp only[d,if_false]at a;exact i.pers B c a
 ·by_cases d:∃ b l y,m.get b=some y∧ρ b=some l∧l.blk=B
  ·exact .inr (f B d).2
  ·simp only[d,if_false]at a;exact i.newp B c a
 ·have d:∃ b' l' y,m.get b'=some y∧ρ b'=some l'∧l'.blk=l.blk:=⟨b,l,_,t,u,rfl⟩
  simp only[d,if_true,j]
 ·by_cases d:∃ b l y,m.get b=some y∧ρ b=some l∧l.blk=B
  ·exact .inr d
  ·exact .inl (by simp only[d,if_false])
mutual
def AVal.scalar:AVal→Bool
 | .bool _ | .int _ _ | .str _ | .nilPtr | .nilSl | .emp | .nilMap | .nilFunc | .nilIface=>true
 | .agg cs=>Zi6 cs
 | .tuple cs=>Zi6 cs
 | _=>false
def Zi6:List AVal→Bool
 | []=>true
 | x :: r=>x.scalar&&Zi6 r
end
theorem Zpz:∀ {l:List AVal} {i:Nat} {x:AVal},Zi6 l=true→l[i]? = some x→x.scalar=true
 | [],i,x,_,h=>by simp at h
 | y :: r,i,x,h,a=>by
  simp only[Zi6,bA]at h;cases i with
  | zero=>simp only[List.getElem?_cons_zero,oI]at a; subst a; exact h.1
  | succ i=>simp only[List.getElem?_cons_succ]at a; exact Zpz h.2 a
theorem R.scalar{Φ j:Pers}{ρ ρ':Rho}{x:AVal}{v:Value}(h:R Φ ρ x v)(d:x.scalar=true):R j ρ' x v:=by
 induction h with
 | bool b=>exact .bool b
 | int k n=>exact .int k n
 | str s=>exact .str s
 | nilPtr=>exact .nilPtr
 | nilSl=>exact .nilSl
 | emp a=>exact .emp a
 | nilMap=>exact .nilMap
 | nilFunc=>exact .nilFunc
 | nilIface=>exact .nilIface
 | agg cs vs f _ g=>
  simp only[AVal.scalar]at d;exact .agg cs vs f fun i x v c e=>g i x v c e (Zpz d c)
 | tuple cs vs f _ g=>
  simp only[AVal.scalar]at d;exact .tuple cs vs f fun i x v c e=>g i x v c e (Zpz d c)
 | _=>simp[AVal.scalar]at d
def Mem.part(m:Mem)(L:List Nat):Mem:=⟨fun c=>bif D3 c L then m.get c else none,m.next⟩
theorem Zp4(m:Mem)(L:List Nat):Mem.Sub (m.part L) m:=by
 refine⟨fun b x h=>?_,Nat.le_refl _⟩
 simp only[Mem.part]at h;cases a:D3 b L with
 | true=>rw[a]at h; exact h
 | false=>rw[a]at h; cases h
theorem mem1_iff{x:Nat}:∀ {l:List Nat},D3 x l=true↔x∈l
 | []=>by simp[D3]
 | y :: r=>by
  simp only[D3,List.mem_cons];cases h:Nat.beq x y with
  | true=>simp[Nat.eq_of_beq_eq_true h]
  | false=>
   simp only[cond_false];rw[mem1_iff];have:x≠y:=fun e=>by subst e; rw[Nat.beq_refl]at h; cases h
   simp[this]
section
variable {P:Program}
theorem Zve{W:Base}{Φ Φs:Pers}{ρ:Rho}{m:Mem}{w:World}{n:Nat}{args args':List AVal}{vs:Array Value}(g:Rel W Φ ρ m w)(d:Ext Φ ρ Φs ρ)(i:∀ b l k els c e fz,m.get b=some (.cells k els)→ρ b=some l→w.heap[l.blk]? = some (.cells c e fz)→Φs l.blk=some c)
 (h:V4 (X3 m.get n) args=some args') (f:RL Φ ρ args vs):RL Φs ρ args' vs:=
 Zqi (fun x y v a j=>Zph g d i n x y v a j) f h
theorem Z4s{e:Memo}(q:e.Ok P)(I:e.v.scalar=true){m:Mem}{L:List Nat}{n:Nat}{args:List AVal}(H:V4 (X3 (m.part L).get n) args=some e.args)(t:List Nat) :
 ACalls P e.g args m t fun r s=>r=e.v∧s=m:=by
 refine⟨(q m []).1,fun W Φ ρ vs w i E F=>?_⟩
 have a:=i.sub (Zp4 m L);obtain⟨Φs,y,z,M,A,N⟩:=Zrw a;have f:=Zve a y A H E
 let k:Base:=⟨w,fun _=>none,Φs⟩
 have j:Rel k Φs ρ ⟨fun _=>none,m.next⟩ w:=
  ⟨⟨Below.refl _ _,fun B o d=>(by cases d)⟩,z,fun b x J=>(by cases J),fun b b' x S l l' p=>(by cases p),i.fresh,fun B c d=>.inl d⟩
 refine((q ⟨fun _=>none,m.next⟩ []).2 k Φs ρ vs w j f (fun b G=>by cases G)).mono ?_
 rintro e' w' ⟨u,r,s,K,ρ',rfl,p,O,C,D,Q,rfl,rfl⟩;exact⟨u,e.v,m,Φ,ρ,rfl,.refl _ _,fun b _ _ h=>h,i.below C.base.below,D.scalar I,Nat.le_refl _,rfl,rfl⟩
theorem Ya4{e:Memo}(B:e.Ok P){m:Mem}{L:List Nat}{n:Nat}{args:List AVal}(Y:V4 (X3 (m.part L).get n) args=some e.args)(E:List Nat) :
 ACalls P e.g args m E fun r D=>r=e.v∧D=m.less L:=by
 refine⟨(B m []).1,fun W Φ ρ vs w c V X=>?_⟩
 have f:=c.sub (Zp4 m L);obtain⟨Φs,k,G,H,I,J⟩:=Zrw f;have s:=Zve f k I Y V;have a:∀ b x,(m.less L).get b=some x→b∉L∧m.get b=some x:=fun b x h=>by
  simp only[Mem.less]at h;split at h
  ·cases h
  ·exact⟨‹_›,h⟩
 have t:Rel W Φs ρ (m.less L) w:=by
  refine⟨c.base,G,fun b x i=>?_,fun b b' x x' l l' p q=>c.inj b b' x x' l l' (a _ _ p).2 (a _ _ q).2,c.fresh,H⟩
  obtain⟨d,i⟩:=a b x i;obtain⟨l,o,A,K,M,N,O⟩:=c.live b x i;refine⟨l,o,A,K,?_,N,O.ext k⟩;rcases J l.blk with h|⟨F,l2,y,j,Z,k3⟩
  ·rw[h]; exact M
  ·exfalso;have:=c.inj b F x y l l2 i ((Zp4 m L).get _ _ j) A Z k3.symm;subst this;simp only[Mem.part]at j;cases C:D3 b L with
   | false=>rw[C]at j; cases j
   | true=>exact d (mem1_iff.1 C)
 refine((B (m.less L) []).2 W Φs ρ vs w t s (fun b d=>by cases d)).mono ?_
 rintro e' w' ⟨u,r,D,z,ρ',rfl,p,q,S,U,h5,rfl,rfl⟩;exact⟨u,e.v,_,z,ρ',rfl,k.trans p,fun b d hn Q=>q b d (by simp) Q,S,U,Nat.le_refl _,rfl,rfl⟩
def Ze0(get:Nat→Option ABlk):Nat→AVal→List Nat
 | 0,_=>[]
 | n+1,x=>match x with
  | .sl b _ _=>b :: (match get b with
   | some (.cells _ els)=>els.flatMap fun r=>r.flatMap (Ze0 get n)
   | _=>[])
  | .agg cs=>cs.flatMap (Ze0 get n)
  | .tuple cs=>cs.flatMap (Ze0 get n)
  | .imm els=>els.flatMap fun r=>r.flatMap (Ze0 get n)
  | _=>[]
def hasG(g:Nat):List Memo→Bool
 | []=>false
 | e :: r=>Nat.beq e.g g||hasG g r
def Zgo(g:Nat)(args:List AVal):List Memo→Option Memo
 | []=>none
 | e :: r=>bif Nat.beq e.g g then (bif beqL args e.args then some e else Zgo g args r)else Zgo g args r
theorem Zoo{g:Nat}{args:List AVal}:∀ {l:List Memo} {e:Memo},Memo.All P l→Zgo g args l=some e→e.Ok P∧e.g=g∧args=e.args
 | [],e,_,h=>by simp[Zgo]at h
 | a :: r,e,d,h=>by
  simp only[Zgo]at h;cases b:Nat.beq a.g g with
  | false=>rw[b]at h; exact Zoo d.2 h
  | true=>
   rw[b]at h;simp only[cond_true]at h;cases c:beqL args a.args with
   | false=>rw[c]at h; exact Zoo d.2 h
   | true=>
    rw[c]at h;simp only[cond_true,oI]at h;subst h;exact⟨d.1,Nat.eq_of_beq_eq_true b,Zid _ _ c⟩
def frzC(l:List Memo):Caller:=fun g args m=>
 bif hasG g l then
  let L:=args.flatMap (Ze0 m.tr.get 8)
  match V4 (X3 (fun c=>bif D3 c L then m.tr.get c else none) 8) args with
  | some args'=>match Zgo g args' l with
   | some e=>bif e.v.scalar then some (e.v,m,[])else bif L.all fun b=>Nat.ble (b+1) bound then some (e.v,Zag m L,L)else none
   | none=>none
  | none=>none
 else none
theorem Zyp:∀ (L:List Nat) (m:TM),(L.all fun b=>Nat.ble (b+1) bound)=true→(Zag m L).mem=m.mem.less L∧(Zag m L).next=m.next
 | [],m,_=>⟨Mem.ext' (fun c=>by simp[Zag,Mem.less]) rfl,rfl⟩
 | b :: r,m,h=>by
  simp only[List.all_cons,bA]at h;obtain⟨d,e⟩:=Zyp r (m.set b none) h.2;simp only[Zag];refine⟨?_,by rw[e]; rfl⟩
  rw[d,TM.set_mem_none (Nat.le_of_ble_eq_true h.1)];refine Mem.ext' (fun c=>?_) rfl
  simp only[Mem.less,Mem.get_del,List.mem_cons];by_cases a:c=b
  ·simp[a]
  ·simp[a]
theorem Z4q{l:List Memo}(r:Memo.All P l):O2 P (frzC l):=by
 intro g args m v t wl h;unfold frzC at h;cases j:hasG g l with
 | false=>rw[j]at h; cases h
 | true=>
  rw[j]at h;simp only[cond_true]at h;cases a:V4 (X3 (fun c=>bif D3 c (args.flatMap (Ze0 m.tr.get 8))then m.tr.get c else none) 8) args with
  | none=>simp[a]at h
  | some args'=>
   simp only[a]at h;cases hm:Zgo g args' l with
   | none=>simp[hm]at h
   | some e=>
    simp only[hm]at h;obtain⟨i,o,p⟩:=Zoo r hm;subst o; subst p;cases f:e.v.scalar with
    | true=>
     rw[f]at h;simp only[cond_true,oI,pI2]at h;obtain⟨rfl,rfl,rfl⟩:=h;exact⟨Nat.le_refl _,fun _ _ _=>rfl,fun id=>Z4s (m:=m.mem) (L:=args.flatMap (Ze0 m.tr.get 8)) (n:=8) i f a [id]⟩
    | false=>
     rw[f]at h;simp only[cond_false]at h;cases d:(args.flatMap (Ze0 m.tr.get 8)).all fun b=>Nat.ble (b+1) bound with
     | false=>rw[d]at h; cases h
     | true=>
      rw[d]at h;simp only[cond_true,oI,pI2]at h;obtain⟨rfl,rfl,rfl⟩:=h;obtain⟨k,s⟩:=Zyp _ m d;refine⟨by rw[s]; exact Nat.le_refl _,fun c _ q=>?_,fun id=>?_⟩
      ·rw[k];simp only[Mem.less];rw[if_neg q]
      ·rw[k];exact Ya4 (m:=m.mem) (L:=args.flatMap (Ze0 m.tr.get 8)) (n:=8) i a [id]
end
end Go.AE
end
section
namespace Go.Plain
theorem Zev(p:Lt→Bool)(a b:List Lt):Z5 p (a++b)=Z5 p a+Z5 p b:=by simp[Z5]
theorem Zet(p:Lt→Bool)(l:Lt)(b:List Lt):Z5 p (l :: b)=(if p l then 1 else 0)+Z5 p b:=by
 simp only[Z5,List.filter_cons];split<;>simp<;>omega
theorem Zne(p q:Lt→Bool)(ls:List Lt):Z5 p ls=Z5 (fun l=>p l&&q l) ls+Z5 (fun l=>p l && !q l) ls:=by
 induction ls with
 | nil=>rfl
 | cons l r a=>
  simp only[Zet,a];cases p l<;>cases q l<;>simp<;>omega
theorem F0{p q:Lt→Bool}{ls:List Lt}(h:∀ l,l∈ls→p l=q l):Z5 p ls=Z5 q ls:=by
 unfold Z5;rw[List.filter_congr h]
theorem Za6{p:Lt→Bool}{ls:List Lt}:Z5 p ls≤ls.length:=List.length_filter_le _ _
theorem Zvs{ls:List Lt}{q:Lt→Bool}(a:∀ l,l∈ls→q l=true→1≤l.r∧l.r≤(Z5 q ls:Nat))(c:∀ t:Int,Z5 (fun l=>q l&&l.r == t) ls≤1) :
 ∀ t:Nat,t≤Z5 q ls→Z5 (fun l=>q l&&decide (l.r≤(t:Int))) ls=t:=by
 have step:∀ t:Nat,Z5 (fun l=>q l&&decide (l.r≤((t+1:Nat):Int))) ls≤Z5 (fun l=>q l&&decide (l.r≤(t:Int))) ls+1:=by
  intro t;rw[Zne (fun l=>q l&&decide (l.r≤((t+1:Nat):Int))) (fun l=>decide (l.r≤(t:Int)))]
  have i:Z5 (fun l=>q l&&decide (l.r≤((t+1:Nat):Int))&&decide (l.r≤(t:Int))) ls=Z5 (fun l=>q l&&decide (l.r≤(t:Int))) ls:=by
   apply F0;intro l _;cases q l with
   | false=>simp
   | true=>rw[Bool.eq_iff_iff]; simp; omega
  have j:Z5 (fun l=>q l&&decide (l.r≤((t+1:Nat):Int)) && !decide (l.r≤(t:Int))) ls=Z5 (fun l=>q l&&l.r == ((t+1:Nat):Int)) ls:=by
   apply F0;intro l _;cases q l with
   | false=>simp
   | true=>rw[Bool.eq_iff_iff]; simp; omega
  have:=c ((t+1:Nat):Int);omega
 have zero:Z5 (fun l=>q l&&decide (l.r≤((0:Nat):Int))) ls=0:=by
  unfold Z5;rw[List.length_eq_zero_iff,List.filter_eq_nil_iff];intro l d;simp only[bA,decide_eq_true_eq,not_and];intro e;have:=(a l d e).1;omega
 have f:Z5 (fun l=>q l&&decide (l.r≤((Z5 q ls:Nat):Int))) ls=Z5 q ls:=by
  apply F0;intro l d;cases e:q l with
  | false=>rfl
  | true=>simp[(a l d e).2]
 have h:∀ t:Nat,Z5 (fun l=>q l&&decide (l.r≤(t:Int))) ls≤t:=by
  intro t
  induction t with
  | zero=>omega
  | succ t g=>have:=step t; omega
 have down:∀ k t:Nat,t+k=Z5 q ls→Z5 q ls≤Z5 (fun l=>q l&&decide (l.r≤(t:Int))) ls+k:=by
  intro k
  induction k with
  | zero=>intro t b; rw[Nat.add_zero]at b; subst b; omega
  | succ k g=>
   intro t b;have a:=g (t+1) (by omega)
   have c:=step t;omega
 intro t b;have a:=h t;have c:=down (Z5 q ls - t) t (by omega)
 omega
def U4(a b:Lt):Bool:=decide (a.g<b.g)||(a.g == b.g&&decide (a.r<b.r))
theorem Zvo(a:Lt):U4 a a=false:=by simp[U4]
theorem Zsp{a b:Lt}(h:U4 a b=true):U4 b a=false:=by
 simp only[U4,Bool.or_eq_true,bA,decide_eq_true_eq,beq_iff_eq,Bool.or_eq_false_iff,Bool.and_eq_false_iff,decide_eq_false_iff_not,beq_eq_false_iff_ne]at *;omega
theorem Z9f{a b:Lt}(h:¬(a.g=b.g∧a.r=b.r)):U4 a b=true∨U4 b a=true:=by
 simp only[U4,Bool.or_eq_true,bA,decide_eq_true_eq,beq_iff_eq];omega
theorem Z0l{a b c:Lt}(h:U4 a b=true)(d:U4 b c=true):U4 a c=true:=by
 simp only[U4,Bool.or_eq_true,bA,decide_eq_true_eq,beq_iff_eq]at *;omega
def at'(ls:List Lt)(i:Nat):Lt:=ls.getD i default
def ins(ls:List Lt)(i:Nat):List Nat→List Nat
 | []=>[i]
 | j :: r=>if U4 (at' ls j) (at' ls i)then j :: ins ls i r else i :: j :: r
def M8(ls:List Lt):Nat→List Nat
 | 0=>[]
 | k+1=>if isP (at' ls k)then ins ls k (M8 ls k)else M8 ls k
def Z4(ls:List Lt):List Nat:=M8 ls ls.length
theorem Zlt(ls:List Lt)(i:Nat):∀ (l:List Nat),(ins ls i l).Perm (i :: l)
 | []=>List.Perm.refl _
 | j :: r=>by
  simp only[ins];split
  ·exact((Zlt ls i r).cons j).trans (List.Perm.swap i j r)
  ·exact List.Perm.refl _
theorem Zes(ls:List Lt):∀ k,(M8 ls k).Perm ((List.range k).filter fun j=>isP (at' ls j))
 | 0=>List.Perm.refl _
 | k+1=>by
  rw[List.range_succ,List.filter_append];simp only[M8,List.filter_cons,List.filter_nil];split
  ·exact((Zlt ls k _).trans ((Zes ls k).cons k)).trans (List.perm_append_comm (l₁:=[k]))
  ·simpa using Zes ls k
theorem Z5x(ls:List Lt):(List.range ls.length).map (at' ls)=ls:=by
 apply List.ext_getElem?;intro i;rw[List.getElem?_map];by_cases h:i<ls.length
 ·simp[h,at']
 ·simp[h]
theorem Zm2(ls:List Lt)(p:Lt→Bool):((List.range ls.length).filter fun j=>p (at' ls j)).length=Z5 p ls:=by
 have h:(((List.range ls.length).map (at' ls)).filter p).length=((List.range ls.length).filter fun j=>p (at' ls j)).length:=by
  rw[List.filter_map,List.length_map]; rfl
 rw[← h,Z5x];rfl
theorem H6(ls:List Lt):(Z4 ls).length=Z3 ls:=by
 rw[Z4,(Zes ls _).length_eq,Zm2]; rfl
theorem mem_axis{ls:List Lt}{j:Nat}:j∈Z4 ls↔j<ls.length∧isP (at' ls j)=true:=by
 rw[Z4,(Zes ls _).mem_iff];simp
def Zg5(ls:List Lt):Prop:=∀ i j,i<ls.length→j<ls.length→isP (at' ls i)=true→isP (at' ls j)=true→(at' ls i).g=(at' ls j).g→(at' ls i).r=(at' ls j).r→i=j
theorem Zxt{ls:List Lt}{i:Nat}:∀ {l:List Nat},l.Pairwise (fun a b=>U4 (at' ls a) (at' ls b)=true)→(∀ j,j∈l→U4 (at' ls j) (at' ls i)=true∨U4 (at' ls i) (at' ls j)=true) →
 (ins ls i l).Pairwise (fun a b=>U4 (at' ls a) (at' ls b)=true)
 | [],_,_=>List.pairwise_singleton _ _
 | j :: r,h,f=>by
  rw[List.pairwise_cons]at h;simp only[ins];split
  ·rename_i c;rw[List.pairwise_cons];refine⟨fun x d=>?_,Zxt h.2 fun k g=>f k (List.mem_cons_of_mem _ g)⟩
   have:=(Zlt ls i r).mem_iff.1 d;rcases List.mem_cons.1 this with rfl|d
   ·exact c
   ·exact h.1 x d
  ·rename_i c;have e:U4 (at' ls i) (at' ls j)=true:=(f j (List.mem_cons_self ..)).resolve_left c;rw[List.pairwise_cons,List.pairwise_cons];refine⟨fun x d=>?_,h.1,h.2⟩
   rcases List.mem_cons.1 d with rfl|d
   ·exact e
   ·exact Z0l e (h.1 x d)
theorem Zqf{ls:List Lt}(c:Zg5 ls):∀ k,k≤ls.length→(M8 ls k).Pairwise (fun a b=>U4 (at' ls a) (at' ls b)=true)
 | 0,_=>List.Pairwise.nil
 | k+1,h=>by
  simp only[M8];split
  ·rename_i g;refine Zxt (Zqf c k (by omega)) fun j f=>?_
   have:=(Zes ls k).mem_iff.1 f;simp only[List.mem_filter,List.mem_range]at this;apply Z9f;rintro⟨d,e⟩;have:=c j k (by omega) (by omega) this.2 g d e
   omega
  ·exact Zqf c k (by omega)
theorem Zxa{ls:List Lt}:∀ {l:List Nat} {p i:Nat},l.Pairwise (fun a b=>U4 (at' ls a) (at' ls b)=true)→l[p]? = some i→(l.filter fun j=>U4 (at' ls j) (at' ls i)).length=p
 | [],p,i,_,h=>by simp at h
 | j :: r,p,i,c,h=>by
  rw[List.pairwise_cons]at c;cases p with
  | zero=>
   simp only[List.getElem?_cons_zero,oI]at h;subst h;rw[List.length_eq_zero_iff,List.filter_eq_nil_iff];intro x d;rcases List.mem_cons.1 d with rfl|d
   ·simp[Zvo]
   ·rw[Zsp (c.1 x d)]; simp
  | succ p=>
   simp only[List.getElem?_cons_succ]at h;rw[List.filter_cons,if_pos (c.1 i (List.mem_of_getElem? h)),List.length_cons,Zxa c.2 h]
def pos(ls:List Lt)(l:Lt):Nat:=Z5 (fun o=>isP o&&decide (o.g<l.g)) ls+(l.r - 1).toNat
def Zj3(ls:List Lt):Prop:=∀ l,l∈ls→isP l=true→1≤l.r∧l.r≤(inG l.g ls:Nat)
theorem K2{ls:List Lt}{i:Nat}(h:i<ls.length):at' ls i∈ls:=by
 rw[at',List.getD,gE h];exact List.getElem_mem h
theorem Zs8{ls:List Lt}(h:Zg5 ls)(g r:Int):Z5 (fun l=>(isP l&&l.g == g)&&l.r == r) ls≤1:=by
 rw[← Zm2];have f:((List.range ls.length).filter fun j=>(isP (at' ls j)&&(at' ls j).g == g)&&(at' ls j).r == r).Nodup:=(List.nodup_range).filter _
 rcases e:(List.range ls.length).filter (fun j=>(isP (at' ls j)&&(at' ls j).g == g)&&(at' ls j).r == r)with _|⟨a,_|⟨b,t⟩⟩
 ·simp
 ·simp
 ·exfalso;rw[e]at f;have c:a∈(List.range ls.length).filter (fun j=>(isP (at' ls j)&&(at' ls j).g == g)&&(at' ls j).r == r):=by rw[e]; simp
  have d:b∈(List.range ls.length).filter (fun j=>(isP (at' ls j)&&(at' ls j).g == g)&&(at' ls j).r == r):=by rw[e]; simp
  simp only[List.mem_filter,List.mem_range,bA,beq_iff_eq]at c d;have:=h a b c.1 d.1 c.2.1.1 d.2.1.1 (by rw[c.2.1.2,d.2.1.2]) (by rw[c.2.2,d.2.2])
  subst this;simp at f
theorem Zth{ls:List Lt}(d:Zg5 ls)(c:Zj3 ls){l:Lt}(i:l∈ls)(k:isP l=true):Z5 (fun o=>isP o&&U4 o l) ls=pos ls l:=by
 obtain⟨m,n⟩:=c l i k;have f:=Zvs (ls:=ls) (q:=fun o=>isP o&&o.g == l.g) (fun o j b=>by
  simp only[bA,beq_iff_eq]at b;have:=c o j b.1;rw[b.2]at this;exact this) (fun t=>Zs8 d l.g t) (l.r - 1).toNat (by
   have p:((Z5 (fun o=>isP o&&o.g == l.g) ls:Nat):Int)=(inG l.g ls:Nat):=rfl
   omega)
 rw[Zne (fun o=>isP o&&U4 o l) (fun o=>decide (o.g<l.g))]
 unfold pos
 congr 1
 ·apply F0;intro o _;by_cases h:o.g<l.g
  ·simp[U4,h]
  ·simp[h]
 ·rw[← f];apply F0;intro o _;by_cases a:o.g=l.g
  ·have e:(o.r<l.r)↔(o.r≤((l.r - 1).toNat:Int)):=by omega
   simp[U4,a,e]
  ·by_cases h:o.g<l.g
   ·rw[Bool.eq_iff_iff]; simp[U4,h,a]
   ·rw[Bool.eq_iff_iff]; simp[U4,h,a]
theorem Zof{ls:List Lt}(g:Zg5 ls)(k:Zj3 ls){i:Nat}(hi:i<ls.length)(h:isP (at' ls i)=true):(Z4 ls)[pos ls (at' ls i)]? = some i:=by
 have hm:i∈Z4 ls:=mem_axis.2 ⟨hi,h⟩;obtain⟨p,f,e⟩:=List.getElem_of_mem hm;have c:(Z4 ls)[p]? = some i:=by rw[gE f,e]
 have d:=Zxa (Zqf g _ (Nat.le_refl _)) c;have b:((Z4 ls).filter fun j=>U4 (at' ls j) (at' ls i)).length=Z5 (fun o=>isP o&&U4 o (at' ls i)) ls:=by
  rw[Z4,((Zes ls ls.length).filter _).length_eq,List.filter_filter,← Zm2]
  congr 1
  apply List.filter_congr;intro x _;exact Bool.and_comm _ _
 have a:((Z4 ls).filter fun j=>U4 (at' ls j) (at' ls i)).length=p:=d
 rw[b,Zth g k (K2 hi) h]at a;rw[a];exact c
end Go.Plain
end
