/- Part 7 of the proof: AeIa, Pb. -/
import Derived.Test.YtilmpmlkndfbjaaGreatDoorI5
import Derived.Test.YtilmpmlkndfbjaaGreatDoorI6
set_option linter.all false
section
namespace Go.AE
open Go.RowKit
theorem Zvx{W:Base}{Φ:Pers}{ρ:Rho}{m:Mem}{w:World}(i:Rel W Φ ρ m w):∃ Φs:Pers,Ext Φ ρ Φs ρ∧(∀ B c,Φs B=some c → ∃ e fz,w.heap[B]? = some (.cells c e fz)) ∧
 (∀ B c,Φs B=some c→W.p B=some c∨W.Free B)∧(∀ b l k els c e fz,m.get b=some (.cells k els)→ρ b=some l→w.heap[l.blk]? = some (.cells c e fz)→Φs l.blk=some c) ∧
 ∀ B,Φs B=Φ B ∨ ∃ b l y,m.get b=some y∧ρ b=some l∧l.blk=B:=by
 have f:∀ B,(∃ b l y,m.get b=some y∧ρ b=some l∧l.blk=B)→Φ B=none∧W.Free B:=by
  rintro B ⟨b,l,y,r,s,rfl⟩;obtain⟨l',o,g,n,q,_⟩:=i.live b y r;rw[s]at g; injection g with g; subst g
  exact⟨q,n⟩
 refine⟨fun B=>@ite _ (∃ b l y,m.get b=some y∧ρ b=some l∧l.blk=B) (Classical.propDecidable _) (match w.heap[B]? with|some (.cells c _ _)=>some c|_=>none) (Φ B),⟨fun B c a=>?_,fun b l h=>h⟩,fun B c a=>?_,fun B c a=>?_,fun b l k els c e fz t u j=>?_,fun B=>?_⟩
 ·by_cases d:∃ b l y,m.get b=some y∧ρ b=some l∧l.blk=B
  ·rw[(f B d).1]at a; cases a
  ·simp only[d,if_false]; exact a
 ·by_cases d:∃ b l y,m.get b=some y∧ρ b=some l∧l.blk=B
  ·simp only[d,if_true]at a;split at a<;>first|(cases a; done)|skip
   rename_i v e fz j;injection a with a; subst a
   exact⟨e,fz,j⟩
  ·simp only[d,if_false]at a;exact i.pers B c a
 ·by_cases d:∃ b l y,m.get b=some y∧ρ b=some l∧l.blk=B
  ·exact .inr (f B d).2
  ·simp only[d,if_false]at a;exact i.newp B c a
 ·have d:∃ b' l' y,m.get b'=some y∧ρ b'=some l'∧l'.blk=l.blk:=⟨b,l,_,t,u,rfl⟩
  simp only[d,if_true,j]
 ·by_cases d:∃ b l y,m.get b=some y∧ρ b=some l∧l.blk=B
  ·exact .inr d
  ·exact .inl (by simp only[d,if_false])
mutual
def AVal.scalar:AVal→Bool
 | .bool _ | .int _ _ | .str _ | .nilPtr | .nilSl | .emp | .nilMap | .nilFunc | .nilIface=>true
 | .agg cs=>Ziw cs
 | .tuple cs=>Ziw cs
 | _=>false
def Ziw:List AVal→Bool
 | []=>true
 | x :: r=>x.scalar&&Ziw r
end
theorem Zoy:∀ {l:List AVal} {i:Nat} {x:AVal},Ziw l=true→l[i]? = some x→x.scalar=true
 | [],i,x,_,h=>by simp at h
 | y :: r,i,x,h,a=>by
  simp only[Ziw,bA]at h;cases i with
  | zero=>simp only[List.getElem?_cons_zero,oI]at a; subst a; exact h.1
  | succ i=>simp only[List.getElem?_cons_succ]at a; exact Zoy h.2 a
theorem R.scalar{Φ j:Pers}{ρ ρ':Rho}{x:AVal}{v:Value}(h:R Φ ρ x v)(d:x.scalar=true):R j ρ' x v:=by
 induction h with
 | bool b=>exact .bool b
 | int k n=>exact .int k n
 | str s=>exact .str s
 | nilPtr=>exact .nilPtr
 | nilSl=>exact .nilSl
 | emp a=>exact .emp a
 | nilMap=>exact .nilMap
 | nilFunc=>exact .nilFunc
 | nilIface=>exact .nilIface
 | agg cs vs f _ g=>
  simp only[AVal.scalar]at d;exact .agg cs vs f fun i x v c e=>g i x v c e (Zoy d c)
 | tuple cs vs f _ g=>
  simp only[AVal.scalar]at d;exact .tuple cs vs f fun i x v c e=>g i x v c e (Zoy d c)
 | _=>simp[AVal.scalar]at d
def Mem.part(m:Mem)(L:List Nat):Mem:=⟨fun c=>bif D6 c L then m.get c else none,m.next⟩
theorem Zqt(m:Mem)(L:List Nat):Mem.Sub (m.part L) m:=by
 refine⟨fun b x h=>?_,Nat.le_refl _⟩
 simp only[Mem.part]at h;cases a:D6 b L with
 | true=>rw[a]at h; exact h
 | false=>rw[a]at h; cases h
theorem mem1_iff{x:Nat}:∀ {l:List Nat},D6 x l=true↔x∈l
 | []=>by simp[D6]
 | y :: r=>by
  simp only[D6,List.mem_cons];cases h:Nat.beq x y with
  | true=>simp[Nat.eq_of_beq_eq_true h]
  | false=>
   simp only[cond_false];rw[mem1_iff];have:x≠y:=fun e=>by subst e; rw[Nat.beq_refl]at h; cases h
   simp[this]
section
variable {P:Program}
theorem Z04{W:Base}{Φ Φs:Pers}{ρ:Rho}{m:Mem}{w:World}{n:Nat}{args a:List AVal}{vs:Array Value}(i:Rel W Φ ρ m w)(f:Ext Φ ρ Φs ρ)(j:∀ b l k els c e fz,m.get b=some (.cells k els)→ρ b=some l→w.heap[l.blk]? = some (.cells c e fz)→Φs l.blk=some c)
 (h:V0 (X4 m.get n) args=some a) (g:RL Φ ρ args vs):RL Φs ρ a vs:=
 Zr4 (fun x y v d o=>Zqz i f j n x y v d o) g h
theorem Yf5{e:Memo}(q:e.Ok P)(I:e.v.scalar=true){m:Mem}{L:List Nat}{n:Nat}{args:List AVal}(H:V0 (X4 (m.part L).get n) args=some e.args)(t:List Nat) :
 ACalls P e.g args m t fun r s=>r=e.v∧s=m:=by
 refine⟨(q m []).1,fun W Φ ρ vs w i E F=>?_⟩
 have a:=i.sub (Zqt m L);obtain⟨Φs,y,z,M,A,N⟩:=Zvx a;have f:=Z04 a y A H E
 let k:Base:=⟨w,fun _=>none,Φs⟩
 have j:Rel k Φs ρ ⟨fun _=>none,m.next⟩ w:=
  ⟨⟨Below.refl _ _,fun B o d=>(by cases d)⟩,z,fun b x J=>(by cases J),fun b b' x S l l' p=>(by cases p),i.fresh,fun B c d=>.inl d⟩
 refine((q ⟨fun _=>none,m.next⟩ []).2 k Φs ρ vs w j f (fun b G=>by cases G)).mono ?_
 rintro e' w' ⟨u,r,s,K,ρ',rfl,p,O,C,D,Q,rfl,rfl⟩;exact⟨u,e.v,m,Φ,ρ,rfl,.refl _ _,fun b _ _ h=>h,i.below C.base.below,D.scalar I,Nat.le_refl _,rfl,rfl⟩
theorem Ybj{e:Memo}(B:e.Ok P){m:Mem}{L:List Nat}{n:Nat}{args:List AVal}(Y:V0 (X4 (m.part L).get n) args=some e.args)(E:List Nat) :
 ACalls P e.g args m E fun r D=>r=e.v∧D=m.less L:=by
 refine⟨(B m []).1,fun W Φ ρ vs w c V X=>?_⟩
 have f:=c.sub (Zqt m L);obtain⟨Φs,k,G,H,I,J⟩:=Zvx f;have s:=Z04 f k I Y V;have a:∀ b x,(m.less L).get b=some x→b∉L∧m.get b=some x:=fun b x h=>by
  simp only[Mem.less]at h;split at h
  ·cases h
  ·exact⟨‹_›,h⟩
 have t:Rel W Φs ρ (m.less L) w:=by
  refine⟨c.base,G,fun b x i=>?_,fun b b' x x' l l' p q=>c.inj b b' x x' l l' (a _ _ p).2 (a _ _ q).2,c.fresh,H⟩
  obtain⟨d,i⟩:=a b x i;obtain⟨l,o,A,K,M,N,O⟩:=c.live b x i;refine⟨l,o,A,K,?_,N,O.ext k⟩;rcases J l.blk with h|⟨F,l2,y,j,Z,k3⟩
  ·rw[h]; exact M
  ·exfalso;have:=c.inj b F x y l l2 i ((Zqt m L).get _ _ j) A Z k3.symm;subst this;simp only[Mem.part]at j;cases C:D6 b L with
   | false=>rw[C]at j; cases j
   | true=>exact d (mem1_iff.1 C)
 refine((B (m.less L) []).2 W Φs ρ vs w t s (fun b d=>by cases d)).mono ?_
 rintro e' w' ⟨u,r,D,z,ρ',rfl,p,q,S,U,h5,rfl,rfl⟩;exact⟨u,e.v,_,z,ρ',rfl,k.trans p,fun b d hn Q=>q b d (by simp) Q,S,U,Nat.le_refl _,rfl,rfl⟩
def Zfe(get:Nat→Option ABlk):Nat→AVal→List Nat
 | 0,_=>[]
 | n+1,x=>match x with
  | .sl b _ _=>b :: (match get b with
   | some (.cells _ els)=>els.flatMap fun r=>r.flatMap (Zfe get n)
   | _=>[])
  | .agg cs=>cs.flatMap (Zfe get n)
  | .tuple cs=>cs.flatMap (Zfe get n)
  | .imm els=>els.flatMap fun r=>r.flatMap (Zfe get n)
  | _=>[]
def hasG(g:Nat):List Memo→Bool
 | []=>false
 | e :: r=>Nat.beq e.g g||hasG g r
def Zgj(g:Nat)(args:List AVal):List Memo→Option Memo
 | []=>none
 | e :: r=>bif Nat.beq e.g g then (bif beqL args e.args then some e else Zgj g args r)else Zgj g args r
theorem Zoj{g:Nat}{args:List AVal}:∀ {l:List Memo} {e:Memo},Memo.All P l→Zgj g args l=some e→e.Ok P∧e.g=g∧args=e.args
 | [],e,_,h=>by simp[Zgj]at h
 | a :: r,e,d,h=>by
  simp only[Zgj]at h;cases b:Nat.beq a.g g with
  | false=>rw[b]at h; exact Zoj d.2 h
  | true=>
   rw[b]at h;simp only[cond_true]at h;cases c:beqL args a.args with
   | false=>rw[c]at h; exact Zoj d.2 h
   | true=>
    rw[c]at h;simp only[cond_true,oI]at h;subst h;exact⟨d.1,Nat.eq_of_beq_eq_true b,Zkj _ _ c⟩
def frzC(l:List Memo):Caller:=fun g args m=>
 bif hasG g l then
  let L:=args.flatMap (Zfe m.tr.get 8)
  match V0 (X4 (fun c=>bif D6 c L then m.tr.get c else none) 8) args with
  | some args'=>match Zgj g args' l with
   | some e=>bif e.v.scalar then some (e.v,m,[])else bif L.all fun b=>Nat.ble (b+1) bound then some (e.v,Zaq m L,L)else none
   | none=>none
  | none=>none
 else none
theorem Zs9:∀ (L:List Nat) (m:TM),(L.all fun b=>Nat.ble (b+1) bound)=true→(Zaq m L).mem=m.mem.less L∧(Zaq m L).next=m.next
 | [],m,_=>⟨Mem.ext' (fun c=>by simp[Zaq,Mem.less]) rfl,rfl⟩
 | b :: r,m,h=>by
  simp only[List.all_cons,bA]at h;obtain⟨d,e⟩:=Zs9 r (m.set b none) h.2;simp only[Zaq];refine⟨?_,by rw[e]; rfl⟩
  rw[d,TM.set_mem_none (Nat.le_of_ble_eq_true h.1)];refine Mem.ext' (fun c=>?_) rfl
  simp only[Mem.less,Mem.get_del,List.mem_cons];by_cases a:c=b
  ·simp[a]
  ·simp[a]
theorem Z9f{l:List Memo}(s:Memo.All P l):P4 P (frzC l):=by
 intro g args m v u wl h;unfold frzC at h;cases k:hasG g l with
 | false=>rw[k]at h; cases h
 | true=>
  rw[k]at h;simp only[cond_true]at h;cases d:V0 (X4 (fun c=>bif D6 c (args.flatMap (Zfe m.tr.get 8))then m.tr.get c else none) 8) args with
  | none=>simp[d]at h
  | some a=>
   simp only[d]at h;cases hm:Zgj g a l with
   | none=>simp[hm]at h
   | some e=>
    simp only[hm]at h;obtain⟨j,p,q⟩:=Zoj s hm;subst p; subst q;cases i:e.v.scalar with
    | true=>
     rw[i]at h;simp only[cond_true,oI,pI2]at h;obtain⟨rfl,rfl,rfl⟩:=h;exact⟨Nat.le_refl _,fun _ _ _=>rfl,fun id=>Yf5 (m:=m.mem) (L:=args.flatMap (Zfe m.tr.get 8)) (n:=8) j i d [id]⟩
    | false=>
     rw[i]at h;simp only[cond_false]at h;cases f:(args.flatMap (Zfe m.tr.get 8)).all fun b=>Nat.ble (b+1) bound with
     | false=>rw[f]at h; cases h
     | true=>
      rw[f]at h;simp only[cond_true,oI,pI2]at h;obtain⟨rfl,rfl,rfl⟩:=h;obtain⟨o,t⟩:=Zs9 _ m f;refine⟨by rw[t]; exact Nat.le_refl _,fun c _ r=>?_,fun id=>?_⟩
      ·rw[o];simp only[Mem.less];rw[if_neg r]
      ·rw[o];exact Ybj (m:=m.mem) (L:=args.flatMap (Zfe m.tr.get 8)) (n:=8) j d [id]
end
end Go.AE
end
section
namespace Go.Plain
theorem Zg7(p:Lt→Bool)(a b:List Lt):Z3 p (a++b)=Z3 p a+Z3 p b:=by simp[Z3]
theorem Zis(p:Lt→Bool)(l:Lt)(b:List Lt):Z3 p (l :: b)=(if p l then 1 else 0)+Z3 p b:=by
 simp only[Z3,List.filter_cons];split<;>simp<;>omega
theorem Zgc(p q:Lt→Bool)(ls:List Lt):Z3 p ls=Z3 (fun l=>p l&&q l) ls+Z3 (fun l=>p l && !q l) ls:=by
 induction ls with
 | nil=>rfl
 | cons l r a=>
  simp only[Zis,a];cases p l<;>cases q l<;>simp<;>omega
theorem R3{p q:Lt→Bool}{ls:List Lt}(h:∀ l,l∈ls→p l=q l):Z3 p ls=Z3 q ls:=by
 unfold Z3;rw[List.filter_congr h]
theorem D2{p:Lt→Bool}{ls:List Lt}:Z3 p ls≤ls.length:=List.length_filter_le _ _
theorem Zu9{ls:List Lt}{q:Lt→Bool}(a:∀ l,l∈ls→q l=true→1≤l.r∧l.r≤(Z3 q ls:Nat))(c:∀ t:Int,Z3 (fun l=>q l&&l.r == t) ls≤1) :
 ∀ t:Nat,t≤Z3 q ls→Z3 (fun l=>q l&&decide (l.r≤(t:Int))) ls=t:=by
 have step:∀ t:Nat,Z3 (fun l=>q l&&decide (l.r≤((t+1:Nat):Int))) ls≤Z3 (fun l=>q l&&decide (l.r≤(t:Int))) ls+1:=by
  intro t;rw[Zgc (fun l=>q l&&decide (l.r≤((t+1:Nat):Int))) (fun l=>decide (l.r≤(t:Int)))]
  have i:Z3 (fun l=>q l&&decide (l.r≤((t+1:Nat):Int))&&decide (l.r≤(t:Int))) ls=Z3 (fun l=>q l&&decide (l.r≤(t:Int))) ls:=by
   apply R3;intro l _;cases q l with
   | false=>simp
   | true=>rw[Bool.eq_iff_iff]; simp; omega
  have j:Z3 (fun l=>q l&&decide (l.r≤((t+1:Nat):Int)) && !decide (l.r≤(t:Int))) ls=Z3 (fun l=>q l&&l.r == ((t+1:Nat):Int)) ls:=by
   apply R3;intro l _;cases q l with
   | false=>simp
   | true=>rw[Bool.eq_iff_iff]; simp; omega
  have:=c ((t+1:Nat):Int);omega
 have zero:Z3 (fun l=>q l&&decide (l.r≤((0:Nat):Int))) ls=0:=by
  unfold Z3;rw[List.length_eq_zero_iff,List.filter_eq_nil_iff];intro l d;simp only[bA,decide_eq_true_eq,not_and];intro e;have:=(a l d e).1;omega
 have f:Z3 (fun l=>q l&&decide (l.r≤((Z3 q ls:Nat):Int))) ls=Z3 q ls:=by
  apply R3;intro l d;cases e:q l with
  | false=>rfl
  | true=>simp[(a l d e).2]
 have h:∀ t:Nat,Z3 (fun l=>q l&&decide (l.r≤(t:Int))) ls≤t:=by
  intro t
  induction t with
  | zero=>omega
  | succ t g=>have:=step t; omega
 have down:∀ k t:Nat,t+k=Z3 q ls→Z3 q ls≤Z3 (fun l=>q l&&decide (l.r≤(t:Int))) ls+k:=by
  intro k
  induction k with
  | zero=>intro t b; rw[Nat.add_zero]at b; subst b; omega
  | succ k g=>
   intro t b;have a:=g (t+1) (by omega)
   have c:=step t;omega
 intro t b;have a:=h t;have c:=down (Z3 q ls - t) t (by omega)
 omega
def U7(a b:Lt):Bool:=decide (a.g<b.g)||(a.g == b.g&&decide (a.r<b.r))
theorem Yad(a:Lt):U7 a a=false:=by simp[U7]
theorem Z13{a b:Lt}(h:U7 a b=true):U7 b a=false:=by
 simp only[U7,Bool.or_eq_true,bA,decide_eq_true_eq,beq_iff_eq,Bool.or_eq_false_iff,Bool.and_eq_false_iff,decide_eq_false_iff_not,beq_eq_false_iff_ne]at *;omega
theorem Zw0{a b:Lt}(h:¬(a.g=b.g∧a.r=b.r)):U7 a b=true∨U7 b a=true:=by
 simp only[U7,Bool.or_eq_true,bA,decide_eq_true_eq,beq_iff_eq];omega
theorem Z5m{a b c:Lt}(h:U7 a b=true)(d:U7 b c=true):U7 a c=true:=by
 simp only[U7,Bool.or_eq_true,bA,decide_eq_true_eq,beq_iff_eq]at *;omega
def at'(ls:List Lt)(i:Nat):Lt:=ls.getD i default
def ins(ls:List Lt)(i:Nat):List Nat→List Nat
 | []=>[i]
 | j :: r=>if U7 (at' ls j) (at' ls i)then j :: ins ls i r else i :: j :: r
def M2(ls:List Lt):Nat→List Nat
 | 0=>[]
 | k+1=>if isP (at' ls k)then ins ls k (M2 ls k)else M2 ls k
def Z1(ls:List Lt):List Nat:=M2 ls ls.length
theorem Zm0(ls:List Lt)(i:Nat):∀ (l:List Nat),(ins ls i l).Perm (i :: l)
 | []=>List.Perm.refl _
 | j :: r=>by
  simp only[ins];split
  ·exact((Zm0 ls i r).cons j).trans (List.Perm.swap i j r)
  ·exact List.Perm.refl _
theorem Zbp(ls:List Lt):∀ k,(M2 ls k).Perm ((List.range k).filter fun j=>isP (at' ls j))
 | 0=>List.Perm.refl _
 | k+1=>by
  rw[List.range_succ,List.filter_append];simp only[M2,List.filter_cons,List.filter_nil];split
  ·exact((Zm0 ls k _).trans ((Zbp ls k).cons k)).trans (List.perm_append_comm (l₁:=[k]))
  ·simpa using Zbp ls k
theorem Z6z(ls:List Lt):(List.range ls.length).map (at' ls)=ls:=by
 apply List.ext_getElem?;intro i;rw[List.getElem?_map];by_cases h:i<ls.length
 ·simp[h,at']
 ·simp[h]
theorem Zm7(ls:List Lt)(p:Lt→Bool):((List.range ls.length).filter fun j=>p (at' ls j)).length=Z3 p ls:=by
 have h:(((List.range ls.length).map (at' ls)).filter p).length=((List.range ls.length).filter fun j=>p (at' ls j)).length:=by
  rw[List.filter_map,List.length_map]; rfl
 rw[← h,Z6z];rfl
theorem T4(ls:List Lt):(Z1 ls).length=Z0 ls:=by
 rw[Z1,(Zbp ls _).length_eq,Zm7]; rfl
theorem mem_axis{ls:List Lt}{j:Nat}:j∈Z1 ls↔j<ls.length∧isP (at' ls j)=true:=by
 rw[Z1,(Zbp ls _).mem_iff];simp
def Zf1(ls:List Lt):Prop:=∀ i j,i<ls.length→j<ls.length→isP (at' ls i)=true→isP (at' ls j)=true→(at' ls i).g=(at' ls j).g→(at' ls i).r=(at' ls j).r→i=j
theorem Zti{ls:List Lt}{i:Nat}:∀ {l:List Nat},l.Pairwise (fun a b=>U7 (at' ls a) (at' ls b)=true)→(∀ j,j∈l→U7 (at' ls j) (at' ls i)=true∨U7 (at' ls i) (at' ls j)=true) →
 (ins ls i l).Pairwise (fun a b=>U7 (at' ls a) (at' ls b)=true)
 | [],_,_=>List.pairwise_singleton _ _
 | j :: r,h,f=>by
  rw[List.pairwise_cons]at h;simp only[ins];split
  ·rename_i c;rw[List.pairwise_cons];refine⟨fun x d=>?_,Zti h.2 fun k g=>f k (List.mem_cons_of_mem _ g)⟩
   have:=(Zm0 ls i r).mem_iff.1 d;rcases List.mem_cons.1 this with rfl|d
   ·exact c
   ·exact h.1 x d
  ·rename_i c;have e:U7 (at' ls i) (at' ls j)=true:=(f j (List.mem_cons_self ..)).resolve_left c;rw[List.pairwise_cons,List.pairwise_cons];refine⟨fun x d=>?_,h.1,h.2⟩
   rcases List.mem_cons.1 d with rfl|d
   ·exact e
   ·exact Z5m e (h.1 x d)
theorem Zob{ls:List Lt}(c:Zf1 ls):∀ k,k≤ls.length→(M2 ls k).Pairwise (fun a b=>U7 (at' ls a) (at' ls b)=true)
 | 0,_=>List.Pairwise.nil
 | k+1,h=>by
  simp only[M2];split
  ·rename_i g;refine Zti (Zob c k (by omega)) fun j f=>?_
   have:=(Zbp ls k).mem_iff.1 f;simp only[List.mem_filter,List.mem_range]at this;apply Zw0;rintro⟨d,e⟩;have:=c j k (by omega) (by omega) this.2 g d e
   omega
  ·exact Zob c k (by omega)
theorem Z1g{ls:List Lt}:∀ {l:List Nat} {p i:Nat},l.Pairwise (fun a b=>U7 (at' ls a) (at' ls b)=true)→l[p]? = some i→(l.filter fun j=>U7 (at' ls j) (at' ls i)).length=p
 | [],p,i,_,h=>by simp at h
 | j :: r,p,i,c,h=>by
  rw[List.pairwise_cons]at c;cases p with
  | zero=>
   simp only[List.getElem?_cons_zero,oI]at h;subst h;rw[List.length_eq_zero_iff,List.filter_eq_nil_iff];intro x d;rcases List.mem_cons.1 d with rfl|d
   ·simp[Yad]
   ·rw[Z13 (c.1 x d)]; simp
  | succ p=>
   simp only[List.getElem?_cons_succ]at h;rw[List.filter_cons,if_pos (c.1 i (List.mem_of_getElem? h)),List.length_cons,Z1g c.2 h]
def pos(ls:List Lt)(l:Lt):Nat:=Z3 (fun o=>isP o&&decide (o.g<l.g)) ls+(l.r - 1).toNat
def Zjv(ls:List Lt):Prop:=∀ l,l∈ls→isP l=true→1≤l.r∧l.r≤(inG l.g ls:Nat)
theorem S1{ls:List Lt}{i:Nat}(h:i<ls.length):at' ls i∈ls:=by
 rw[at',List.getD,gE h];exact List.getElem_mem h
theorem Z0v{ls:List Lt}(h:Zf1 ls)(g r:Int):Z3 (fun l=>(isP l&&l.g == g)&&l.r == r) ls≤1:=by
 rw[← Zm7];have f:((List.range ls.length).filter fun j=>(isP (at' ls j)&&(at' ls j).g == g)&&(at' ls j).r == r).Nodup:=(List.nodup_range).filter _
 rcases e:(List.range ls.length).filter (fun j=>(isP (at' ls j)&&(at' ls j).g == g)&&(at' ls j).r == r)with _|⟨a,_|⟨b,t⟩⟩
 ·simp
 ·simp
 ·exfalso;rw[e]at f;have c:a∈(List.range ls.length).filter (fun j=>(isP (at' ls j)&&(at' ls j).g == g)&&(at' ls j).r == r):=by rw[e]; simp
  have d:b∈(List.range ls.length).filter (fun j=>(isP (at' ls j)&&(at' ls j).g == g)&&(at' ls j).r == r):=by rw[e]; simp
  simp only[List.mem_filter,List.mem_range,bA,beq_iff_eq]at c d;have:=h a b c.1 d.1 c.2.1.1 d.2.1.1 (by rw[c.2.1.2,d.2.1.2]) (by rw[c.2.2,d.2.2])
  subst this;simp at f
theorem Yeg{ls:List Lt}(d:Zf1 ls)(c:Zjv ls){l:Lt}(i:l∈ls)(k:isP l=true):Z3 (fun o=>isP o&&U7 o l) ls=pos ls l:=by
 obtain⟨m,n⟩:=c l i k;have f:=Zu9 (ls:=ls) (q:=fun o=>isP o&&o.g == l.g) (fun o j b=>by
  simp only[bA,beq_iff_eq]at b;have:=c o j b.1;rw[b.2]at this;exact this) (fun t=>Z0v d l.g t) (l.r - 1).toNat (by
   have p:((Z3 (fun o=>isP o&&o.g == l.g) ls:Nat):Int)=(inG l.g ls:Nat):=rfl
   omega)
 rw[Zgc (fun o=>isP o&&U7 o l) (fun o=>decide (o.g<l.g))]
 unfold pos
 congr 1
 ·apply R3;intro o _;by_cases h:o.g<l.g
  ·simp[U7,h]
  ·simp[h]
 ·rw[← f];apply R3;intro o _;by_cases a:o.g=l.g
  ·have e:(o.r<l.r)↔(o.r≤((l.r - 1).toNat:Int)):=by omega
   simp[U7,a,e]
  ·by_cases h:o.g<l.g
   ·rw[Bool.eq_iff_iff]; simp[U7,h,a]
   ·rw[Bool.eq_iff_iff]; simp[U7,h,a]
theorem Zpp{ls:List Lt}(g:Zf1 ls)(k:Zjv ls){i:Nat}(hi:i<ls.length)(h:isP (at' ls i)=true):(Z1 ls)[pos ls (at' ls i)]? = some i:=by
 have hm:i∈Z1 ls:=mem_axis.2 ⟨hi,h⟩;obtain⟨p,f,e⟩:=List.getElem_of_mem hm;have c:(Z1 ls)[p]? = some i:=by rw[gE f,e]
 have d:=Z1g (Zob g _ (Nat.le_refl _)) c;have b:((Z1 ls).filter fun j=>U7 (at' ls j) (at' ls i)).length=Z3 (fun o=>isP o&&U7 o (at' ls i)) ls:=by
  rw[Z1,((Zbp ls ls.length).filter _).length_eq,List.filter_filter,← Zm7]
  congr 1
  apply List.filter_congr;intro x _;exact Bool.and_comm _ _
 have a:((Z1 ls).filter fun j=>U7 (at' ls j) (at' ls i)).length=p:=d
 rw[b,Yeg g k (S1 hi) h]at a;rw[a];exact c
end Go.Plain
end
