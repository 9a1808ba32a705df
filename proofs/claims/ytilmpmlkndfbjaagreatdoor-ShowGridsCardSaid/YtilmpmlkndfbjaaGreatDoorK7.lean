/- Part 7 of the proof: AeIa, Pb. -/
import Derived.Test.YtilmpmlkndfbjaaGreatDoorK5
import Derived.Test.YtilmpmlkndfbjaaGreatDoorK6
set_option linter.all false
section
namespace Go.AE
open Go.RowKit
theorem sX{W:Ap}{Φ:Ao}{ρ:AD}{m:Mem}{w:World}(hr:Rel W Φ ρ m w):∃ Bp:Ao,Ext Φ ρ Bp ρ∧(∀ B c,Bp B=some c → ∃ e fz,w.heap[B]? = some (.cells c e fz)) ∧
 (∀ B c,Bp B=some c→W.p B=some c∨W.Cd B)∧(∀ b l k els c e fz,m.get b=some (.cells k els)→ρ b=some l→w.heap[l.blk]? = some (.cells c e fz)→Bp l.blk=some c) ∧
 ∀ B,Bp B=Φ B ∨ ∃ b l y,m.get b=some y∧ρ b=some l∧l.blk=B:=by
 have hlv:∀ B,(∃ b l y,m.get b=some y∧ρ b=some l∧l.blk=B)→Φ B=none∧W.Cd B:=by
  rintro B ⟨b,l,y,h1,h2,rfl⟩;obtain⟨l',o,g1,g2,g3,_⟩:=hr.live b y h1;rw[h2]at g1; injection g1 with g1; subst g1
  exact⟨g3,g2⟩
 refine⟨fun B=>@ite _ (∃ b l y,m.get b=some y∧ρ b=some l∧l.blk=B) (Classical.propDecidable _) (match w.heap[B]? with|some (.cells c _ _)=>some c|_=>none) (Φ B),⟨fun B c hB=>?_,fun b l h=>h⟩,fun B c hB=>?_,fun B c hB=>?_,fun b l k els c e fz hg hl hw=>?_,fun B=>?_⟩
 ·by_cases hL:∃ b l y,m.get b=some y∧ρ b=some l∧l.blk=B
  ·rw[(hlv B hL).1]at hB; cases hB
  ·simp only[hL,if_false]; exact hB
 ·by_cases hL:∃ b l y,m.get b=some y∧ρ b=some l∧l.blk=B
  ·simp only[hL,if_true]at hB;split at hB<;>first|(cases hB; done)|skip
   rename_i c' e fz hw;injection hB with hB; subst hB
   exact⟨e,fz,hw⟩
  ·simp only[hL,if_false]at hB;exact hr.AX B c hB
 ·by_cases hL:∃ b l y,m.get b=some y∧ρ b=some l∧l.blk=B
  ·exact .inr (hlv B hL).2
  ·simp only[hL,if_false]at hB;exact hr.By B c hB
 ·have hL:∃ b' l' y,m.get b'=some y∧ρ b'=some l'∧l'.blk=l.blk:=⟨b,l,_,hg,hl,rfl⟩
  simp only[hL,if_true,hw]
 ·by_cases hL:∃ b l y,m.get b=some y∧ρ b=some l∧l.blk=B
  ·exact .inr hL
  ·exact .inl (by simp only[hL,if_false])
mutual
def Aa.scalar:Aa→Bool
 | .bool _ | .int _ _ | .str _ | .nilPtr | .Ai | .emp | .Ay | .nilFunc | .nilIface=>true
 | .agg cs=>Sb cs
 | .tuple cs=>Sb cs
 | _=>false
def Sb:List Aa→Bool
 | []=>true
 | x :: r=>x.scalar&&Sb r
end
theorem bX:∀ {l:List Aa} {i:Nat} {x:Aa},Sb l=true→l[i]? = some x→x.scalar=true
 | [],i,x,_,h=>by simp at h
 | y :: r,i,x,h,hx=>by
  simp only[Sb,bA]at h;cases i with
  | zero=>simp only[List.getElem?_cons_zero,oI]at hx; subst hx; exact h.1
  | succ i=>simp only[List.getElem?_cons_succ]at hx; exact bX h.2 hx
theorem R.scalar{Φ Am:Ao}{ρ ρ':AD}{x:Aa}{v:Value}(h:R Φ ρ x v)(hc:x.scalar=true):R Am ρ' x v:=by
 induction h with
 | bool b=>exact .bool b
 | int k n=>exact .int k n
 | str s=>exact .str s
 | nilPtr=>exact .nilPtr
 | Ai=>exact .Ai
 | emp a=>exact .emp a
 | Ay=>exact .Ay
 | nilFunc=>exact .nilFunc
 | nilIface=>exact .nilIface
 | agg cs vs hs _ ih=>
  simp only[Aa.scalar]at hc;exact .agg cs vs hs fun i x v h1 h2=>ih i x v h1 h2 (bX hc h1)
 | tuple cs vs hs _ ih=>
  simp only[Aa.scalar]at hc;exact .tuple cs vs hs fun i x v h1 h2=>ih i x v h1 h2 (bX hc h1)
 | _=>simp[Aa.scalar]at hc
def Mem.part(m:Mem)(L:List Nat):Mem:=⟨fun c=>bif F3 c L then m.get c else none,m.next⟩
theorem ZJ(m:Mem)(L:List Nat):Mem.Sub (m.part L) m:=by
 refine⟨fun b x h=>?_,lR _⟩
 simp only[Mem.part]at h;cases hb:F3 b L with
 | true=>rw[hb]at h; exact h
 | false=>rw[hb]at h; cases h
theorem Gl{x:Nat}:∀ {l:List Nat},F3 x l=true↔x∈l
 | []=>by simp[F3]
 | y :: r=>by
  simp only[F3,mC];cases h:Nat.beq x y with
  | true=>simp[Nat.eq_of_beq_eq_true h]
  | false=>
   simp only[cond_false];rw[Gl];have:x≠y:=fun e=>by subst e; rw[Nat.beq_refl]at h; cases h
   simp[this]
section
variable {P:Program}
theorem mT{W:Ap}{Φ Bp:Ao}{ρ:AD}{m:Mem}{w:World}{n:Nat}{args args':List Aa}{vs:Array Value}(hr:Rel W Φ ρ m w)(hE:Ext Φ ρ Bp ρ)(hs:∀ b l k els c e fz,m.get b=some (.cells k els)→ρ b=some l→w.heap[l.blk]? = some (.cells c e fz)→Bp l.blk=some c)
 (h:T5 (W3 m.get n) args=some args') (ha:RL Φ ρ args vs):RL Bp ρ args' vs:=
 YJ (fun x y v hxy hx=>Zy hr hE hs n x y v hxy hx) ha h
theorem Z9o{e:AN}(he:e.Ok P)(hs:e.v.scalar=true){m:Mem}{L:List Nat}{n:Nat}{args:List Aa}(hf:T5 (W3 (m.part L).get n) args=some e.args)(av:List Nat) :
 Az P e.g args m av fun r m'=>r=e.v∧m'=m:=by
 refine⟨(he m []).1,fun W Φ ρ vs w hr ha Ch=>?_⟩
 have hrp:=hr.sub (ZJ m L);obtain⟨Bp,f1,f2,f3,f4,f5⟩:=sX hrp;have ha':=mT hrp f1 f4 hf ha
 let W0:Ap:=⟨w,fun _=>none,Bp⟩
 have hr0:Rel W0 Bp ρ ⟨fun _=>none,m.next⟩ w:=
  ⟨⟨Below.refl _ _,fun B o hB=>(by cases hB)⟩,f2,fun b x hx=>(by cases hx),fun b b' x x' l l' h1=>(by cases h1),hr.fresh,fun B c hB=>.inl hB⟩
 refine((he ⟨fun _=>none,m.next⟩ []).2 W0 Bp ρ vs w hr0 ha' (fun b hb=>by cases hb)).mono ?_
 rintro e' w' ⟨u,r,m',Am,ρ',rfl,h1,h2,h3,h4,h5,rfl,rfl⟩;exact⟨u,e.v,m,Φ,ρ,rfl,.refl _ _,fun b _ _ h=>h,hr.below h3.base.below,h4.scalar hs,lR _,rfl,rfl⟩
theorem Zz4{e:AN}(he:e.Ok P){m:Mem}{L:List Nat}{n:Nat}{args:List Aa}(hf:T5 (W3 (m.part L).get n) args=some e.args)(av:List Nat) :
 Az P e.g args m av fun r m'=>r=e.v∧m'=m.less L:=by
 refine⟨(he m []).1,fun W Φ ρ vs w hr ha Ch=>?_⟩
 have hrp:=hr.sub (ZJ m L);obtain⟨Bp,f1,f2,f3,f4,f5⟩:=sX hrp;have ha':=mT hrp f1 f4 hf ha;have hless:∀ b x,(m.less L).get b=some x→b∉L∧m.get b=some x:=fun b x h=>by
  simp only[Mem.less]at h;split at h
  ·cases h
  ·exact⟨‹_›,h⟩
 have hr2:Rel W Bp ρ (m.less L) w:=by
  refine⟨hr.base,f2,fun b x hx=>?_,fun b b' x x' l l' h1 h2=>hr.inj b b' x x' l l' (hless _ _ h1).2 (hless _ _ h2).2,hr.fresh,f3⟩
  obtain⟨hb,hx⟩:=hless b x hx;obtain⟨l,o,g1,g2,g3,g4,g5⟩:=hr.live b x hx;refine⟨l,o,g1,g2,?_,g4,g5.ext f1⟩;rcases f5 l.blk with h|⟨b2,l2,y,k1,k2,k3⟩
  ·rw[h]; exact g3
  ·exfalso;have:=hr.inj b b2 x y l l2 hx ((ZJ m L).get _ _ k1) g1 k2 k3.symm;subst this;simp only[Mem.part]at k1;cases hq:F3 b L with
   | false=>rw[hq]at k1; cases k1
   | true=>exact hb (Gl.1 hq)
 refine((he (m.less L) []).2 W Bp ρ vs w hr2 ha' (fun b hb=>by cases hb)).mono ?_
 rintro e' w' ⟨u,r,m',Am,ρ',rfl,h1,h2,h3,h4,h5,rfl,rfl⟩;exact⟨u,e.v,_,Am,ρ',rfl,f1.trans h1,fun b hb hn h0=>h2 b hb (by simp) h0,h3,h4,lR _,rfl,rfl⟩
def LQ(get:Nat→Option Ag):Nat→Aa→List Nat
 | 0,_=>[]
 | n+1,x=>match x with
  | .sl b _ _=>b :: (match get b with
   | some (.cells _ els)=>els.flatMap fun r=>r.flatMap (LQ get n)
   | _=>[])
  | .agg cs=>cs.flatMap (LQ get n)
  | .tuple cs=>cs.flatMap (LQ get n)
  | .An els=>els.flatMap fun r=>r.flatMap (LQ get n)
  | _=>[]
def Px(g:Nat):List AN→Bool
 | []=>false
 | e :: r=>Nat.beq e.g g||Px g r
def OI(g:Nat)(args:List Aa):List AN→Option AN
 | []=>none
 | e :: r=>bif Nat.beq e.g g then (bif Fs args e.args then some e else OI g args r)else OI g args r
theorem Zg{g:Nat}{args:List Aa}:∀ {l:List AN} {e:AN},AN.Rz P l→OI g args l=some e→e.Ok P∧e.g=g∧args=e.args
 | [],e,_,h=>by simp[OI]at h
 | a :: r,e,ha,h=>by
  simp only[OI]at h;cases h1:Nat.beq a.g g with
  | false=>rw[h1]at h; exact Zg ha.2 h
  | true=>
   rw[h1]at h;simp only[cond_true]at h;cases h2:Fs args a.args with
   | false=>rw[h2]at h; exact Zg ha.2 h
   | true=>
    rw[h2]at h;simp only[cond_true,oI]at h;subst h;exact⟨ha.1,Nat.eq_of_beq_eq_true h1,Tq _ _ h2⟩
def Pw(l:List AN):Au:=fun g args m=>
 bif Px g l then
  let L:=args.flatMap (LQ m.tr.get 8)
  match T5 (W3 (fun c=>bif F3 c L then m.tr.get c else none) 8) args with
  | some args'=>match OI g args' l with
   | some e=>bif e.v.scalar then some (e.v,m,[])else bif L.all fun b=>Nat.ble (b+1) bound then some (e.v,Hw m L,L)else none
   | none=>none
  | none=>none
 else none
theorem uD:∀ (L:List Nat) (m:TM),(L.all fun b=>Nat.ble (b+1) bound)=true→(Hw m L).mem=m.mem.less L∧(Hw m L).next=m.next
 | [],m,_=>⟨Mem.ext' (fun c=>by simp[Hw,Mem.less]) rfl,rfl⟩
 | b :: r,m,h=>by
  simp only[List.all_cons,bA]at h;obtain⟨h1,h2⟩:=uD r (m.set b none) h.2;simp only[Hw];refine⟨?_,by rw[h2]; rfl⟩
  rw[h1,TM.CY (Nat.le_of_ble_eq_true h.1)];refine Mem.ext' (fun c=>?_) rfl
  simp only[Mem.less,Mem.Bo,mC];by_cases hc:c=b
  ·simp[hc]
  ·simp[hc]
theorem Z4n{l:List AN}(hl:AN.Rz P l):P4 P (Pw l):=by
 intro g args m v m' wl h;unfold Pw at h;cases hg:Px g l with
 | false=>rw[hg]at h; cases h
 | true=>
  rw[hg]at h;simp only[cond_true]at h;cases hf:T5 (W3 (fun c=>bif F3 c (args.flatMap (LQ m.tr.get 8))then m.tr.get c else none) 8) args with
  | none=>simp[hf]at h
  | some args'=>
   simp only[hf]at h;cases hm:OI g args' l with
   | none=>simp[hm]at h
   | some e=>
    simp only[hm]at h;obtain⟨h1,h2,h3⟩:=Zg hl hm;subst h2; subst h3;cases hs:e.v.scalar with
    | true=>
     rw[hs]at h;simp only[cond_true,oI,AP]at h;obtain⟨rfl,rfl,rfl⟩:=h;exact⟨lR _,fun _ _ _=>rfl,fun id=>Z9o (m:=m.mem) (L:=args.flatMap (LQ m.tr.get 8)) (n:=8) h1 hs hf [id]⟩
    | false=>
     rw[hs]at h;simp only[cond_false]at h;cases hb:(args.flatMap (LQ m.tr.get 8)).all fun b=>Nat.ble (b+1) bound with
     | false=>rw[hb]at h; cases h
     | true=>
      rw[hb]at h;simp only[cond_true,oI,AP]at h;obtain⟨rfl,rfl,rfl⟩:=h;obtain⟨k1,k2⟩:=uD _ m hb;refine⟨by rw[k2]; exact lR _,fun c _ hc=>?_,fun id=>?_⟩
      ·rw[k1];simp only[Mem.less];rw[iN hc]
      ·rw[k1];exact Zz4 (m:=m.mem) (L:=args.flatMap (LQ m.tr.get 8)) (n:=8) h1 hf [id]
end
end Go.AE
end
section
namespace Go.Plain
theorem Ni(p:Lt→Bool)(a b:List Lt):Z7 p (a++b)=Z7 p a+Z7 p b:=by simp[Z7]
theorem LX(p:Lt→Bool)(l:Lt)(b:List Lt):Z7 p (l :: b)=(if p l then 1 else 0)+Z7 p b:=by
 simp only[Z7,List.filter_cons]
 grind
theorem VI(p q:Lt→Bool)(ls:List Lt):Z7 p ls=Z7 (fun l=>p l&&q l) ls+Z7 (fun l=>p l && !q l) ls:=by
 induction ls with
 | nil=>rfl
 | cons l r ih=>
  simp only[LX,ih]
  grind
theorem B9{p q:Lt→Bool}{ls:List Lt}(h:∀ l,l∈ls→p l=q l):Z7 p ls=Z7 q ls:=by
 unfold Z7;rw[List.filter_congr h]
theorem Si{p:Lt→Bool}{ls:List Lt}:Z7 p ls≤ls.length:=List.length_filter_le _ _
theorem Z9e{ls:List Lt}{q:Lt→Bool}(h1:∀ l,l∈ls→q l=true→1≤l.r∧l.r≤(Z7 q ls:Nat))(h2:∀ t:Int,Z7 (fun l=>q l&&l.r == t) ls≤1) :
 ∀ t:Nat,t≤Z7 q ls→Z7 (fun l=>q l&&decide (l.r≤(t:Int))) ls=t:=by
 have step:∀ t:Nat,Z7 (fun l=>q l&&decide (l.r≤((t+1:Nat):Int))) ls≤Z7 (fun l=>q l&&decide (l.r≤(t:Int))) ls+1:=by
  intro t;rw[VI (fun l=>q l&&decide (l.r≤((t+1:Nat):Int))) (fun l=>decide (l.r≤(t:Int)))]
  have e1:Z7 (fun l=>q l&&decide (l.r≤((t+1:Nat):Int))&&decide (l.r≤(t:Int))) ls=Z7 (fun l=>q l&&decide (l.r≤(t:Int))) ls:=by
   apply B9;intro l _;cases q l with
   | false=>simp
   | true=>rw[Bool.eq_iff_iff]; simp; omega
  have e2:Z7 (fun l=>q l&&decide (l.r≤((t+1:Nat):Int)) && !decide (l.r≤(t:Int))) ls=Z7 (fun l=>q l&&l.r == ((t+1:Nat):Int)) ls:=by
   apply B9;intro l _;cases q l with
   | false=>simp
   | true=>rw[Bool.eq_iff_iff]; simp; omega
  simp_all
 have zero:Z7 (fun l=>q l&&decide (l.r≤((0:Nat):Int))) ls=0:=by
  unfold Z7;rw[List.length_eq_zero_iff,List.filter_eq_nil_iff]
  grind
 have full:Z7 (fun l=>q l&&decide (l.r≤((Z7 q ls:Nat):Int))) ls=Z7 q ls:=by
  apply B9
  simp_all
 have up:∀ t:Nat,Z7 (fun l=>q l&&decide (l.r≤(t:Int))) ls≤t:=by
  intro t
  induction t with
  | zero=>omega
  | succ t ih=>have:=step t; omega
 have W4:∀ k t:Nat,t+k=Z7 q ls→Z7 q ls≤Z7 (fun l=>q l&&decide (l.r≤(t:Int))) ls+k:=by
  intro k
  induction k with
  | zero=>grind
  | succ k ih=>
   intro t ht;have h1:=ih (t+1) (by omega)
   have h2:=step t;omega
 intro t ht;have h1:=up t;have h2:=W4 (Z7 q ls - t) t (by omega)
 omega
def S6(a b:Lt):Bool:=decide (a.g<b.g)||(a.g == b.g&&decide (a.r<b.r))
theorem lV(a:Lt):S6 a a=false:=by simp[S6]
theorem nD{a b:Lt}(h:S6 a b=true):S6 b a=false:=by
 simp only[S6,Bool.or_eq_true,bA,decide_eq_true_eq,beq_iff_eq,Bool.or_eq_false_iff,Bool.and_eq_false_iff,decide_eq_false_iff_not,beq_eq_false_iff_ne]at *;omega
theorem Z88{a b:Lt}(h:¬(a.g=b.g∧a.r=b.r)):S6 a b=true∨S6 b a=true:=by
 simp only[S6,Bool.or_eq_true,bA,decide_eq_true_eq,beq_iff_eq];omega
theorem qt{a b c:Lt}(h:S6 a b=true)(h':S6 b c=true):S6 a c=true:=by
 simp only[S6,Bool.or_eq_true,bA,decide_eq_true_eq,beq_iff_eq]at *;omega
def at'(ls:List Lt)(i:Nat):Lt:=ls.getD i default
def ins(ls:List Lt)(i:Nat):List Nat→List Nat
 | []=>[i]
 | j :: r=>if S6 (at' ls j) (at' ls i)then j :: ins ls i r else i :: j :: r
def OF(ls:List Lt):Nat→List Nat
 | 0=>[]
 | k+1=>if AT (at' ls k)then ins ls k (OF ls k)else OF ls k
def Z4(ls:List Lt):List Nat:=OF ls ls.length
theorem Zk(ls:List Lt)(i:Nat):∀ (l:List Nat),(ins ls i l).Perm (i :: l)
 | []=>List.Perm.refl _
 | j :: r=>by
  simp only[ins];split
  ·exact((Zk ls i r).cons j).trans (List.Perm.swap i j r)
  grind
theorem Oo(ls:List Lt):∀ k,(OF ls k).Perm ((List.range k).filter fun j=>AT (at' ls j))
 | 0=>List.Perm.refl _
 | k+1=>by
  rw[List.range_succ,List.filter_append];simp only[OF,List.filter_cons,List.filter_nil];split
  ·exact((Zk ls k _).trans ((Oo ls k).cons k)).trans (List.perm_append_comm (l₁:=[k]))
  ·simpa using Oo ls k
theorem Z7a(ls:List Lt):(List.range ls.length).map (at' ls)=ls:=by
 apply List.ext_getElem?;intro i;rw[gM];by_cases h:i<ls.length
 ·simp[h,at']
 ·simp[h]
theorem VT(ls:List Lt)(p:Lt→Bool):((List.range ls.length).filter fun j=>p (at' ls j)).length=Z7 p ls:=by
 have h:(((List.range ls.length).map (at' ls)).filter p).length=((List.range ls.length).filter fun j=>p (at' ls j)).length:=by
  rw[List.filter_map,lM]; rfl
 rw[← h,Z7a];rfl
theorem HI(ls:List Lt):(Z4 ls).length=Z5 ls:=by
 rw[Z4,(Oo ls _).length_eq,VT]; rfl
theorem Bb{ls:List Lt}{j:Nat}:j∈Z4 ls↔j<ls.length∧AT (at' ls j)=true:=by
 rw[Z4,(Oo ls _).mem_iff];simp
def Ol(ls:List Lt):Prop:=∀ i j,i<ls.length→j<ls.length→AT (at' ls i)=true→AT (at' ls j)=true→(at' ls i).g=(at' ls j).g→(at' ls i).r=(at' ls j).r→i=j
theorem oC{ls:List Lt}{i:Nat}:∀ {l:List Nat},l.Pairwise (fun a b=>S6 (at' ls a) (at' ls b)=true)→(∀ j,j∈l→S6 (at' ls j) (at' ls i)=true∨S6 (at' ls i) (at' ls j)=true) →
 (ins ls i l).Pairwise (fun a b=>S6 (at' ls a) (at' ls b)=true)
 | [],_,_=>List.pairwise_singleton _ _
 | j :: r,h,ht=>by
  rw[List.pairwise_cons]at h;simp only[ins];split
  ·rename_i hlt;rw[List.pairwise_cons];refine⟨fun x hx=>?_,oC h.2 fun k hk=>ht k (List.mem_cons_of_mem _ hk)⟩
   have:=(Zk ls i r).mem_iff.1 hx
   grind
  ·rename_i hlt;have hij:S6 (at' ls i) (at' ls j)=true:=(ht j (List.mem_cons_self ..)).resolve_left hlt;rw[List.pairwise_cons,List.pairwise_cons];refine⟨fun x hx=>?_,h.1,h.2⟩
   rcases mC.1 hx with rfl|hx
   ·exact hij
   ·exact qt hij (h.1 x hx)
theorem aF{ls:List Lt}(ha:Ol ls):∀ k,k≤ls.length→(OF ls k).Pairwise (fun a b=>S6 (at' ls a) (at' ls b)=true)
 | 0,_=>List.Pairwise.nil
 | k+1,hk=>by
  simp only[OF];split
  ·rename_i hp;refine oC (aF ha k (by omega)) fun j hj=>?_
   have:=(Oo ls k).mem_iff.1 hj;simp only[List.mem_filter,mR]at this;apply Z88;rintro⟨h1,h2⟩;have:=ha j k (by omega) (by omega) this.2 hp h1 h2
   omega
  ·exact aF ha k (by omega)
theorem uE{ls:List Lt}:∀ {l:List Nat} {p i:Nat},l.Pairwise (fun a b=>S6 (at' ls a) (at' ls b)=true)→l[p]? = some i→(l.filter fun j=>S6 (at' ls j) (at' ls i)).length=p
 | [],p,i,_,h=>by simp at h
 | j :: r,p,i,hs,h=>by
  rw[List.pairwise_cons]at hs;cases p with
  | zero=>
   simp only[List.getElem?_cons_zero,oI]at h;subst h;rw[List.length_eq_zero_iff,List.filter_eq_nil_iff];intro x hx;rcases mC.1 hx with rfl|hx
   ·simp[lV]
   ·rw[nD (hs.1 x hx)]; simp
  | succ p=>
   simp only[List.getElem?_cons_succ]at h;rw[List.filter_cons,iP (hs.1 i (List.mem_of_getElem? h)),lC,uE hs.2 h]
def pos(ls:List Lt)(l:Lt):Nat:=Z7 (fun o=>AT o&&decide (o.g<l.g)) ls+(l.r - 1).toNat
def Sj(ls:List Lt):Prop:=∀ l,l∈ls→AT l=true→1≤l.r∧l.r≤(CS l.g ls:Nat)
theorem F7{ls:List Lt}{i:Nat}(h:i<ls.length):at' ls i∈ls:=by
 rw[at',List.getD,gE h]
 grind
theorem qu{ls:List Lt}(ha:Ol ls)(g r:Int):Z7 (fun l=>(AT l&&l.g == g)&&l.r == r) ls≤1:=by
 rw[← VT];have hn:((List.range ls.length).filter fun j=>(AT (at' ls j)&&(at' ls j).g == g)&&(at' ls j).r == r).Nodup:=(List.nodup_range).filter _
 rcases hl:(List.range ls.length).filter (fun j=>(AT (at' ls j)&&(at' ls j).g == g)&&(at' ls j).r == r)with _|⟨a,_|⟨b,t⟩⟩
 ·simp
 ·simp
 ·exfalso;rw[hl]at hn;have hma:a∈(List.range ls.length).filter (fun j=>(AT (at' ls j)&&(at' ls j).g == g)&&(at' ls j).r == r):=by rw[hl]; simp
  have hmb:b∈(List.range ls.length).filter (fun j=>(AT (at' ls j)&&(at' ls j).g == g)&&(at' ls j).r == r):=by rw[hl]; simp
  simp only[List.mem_filter,mR,bA,beq_iff_eq]at hma hmb;have:=ha a b hma.1 hmb.1 hma.2.1.1 hmb.2.1.1 (by rw[hma.2.1.2,hmb.2.1.2]) (by rw[hma.2.2,hmb.2.2])
  grind
theorem pJ{ls:List Lt}(ha:Ol ls)(hr:Sj ls){l:Lt}(hl:l∈ls)(hp:AT l=true):Z7 (fun o=>AT o&&S6 o l) ls=pos ls l:=by
 obtain⟨h1,h2⟩:=hr l hl hp;have hb:=Z9e (ls:=ls) (q:=fun o=>AT o&&o.g == l.g) (fun o ho hq=>by
  simp only[bA,beq_iff_eq]at hq;have:=hr o ho hq.1;rw[hq.2]at this;exact this) (fun t=>qu ha l.g t) (l.r - 1).toNat (by
   have h3:((Z7 (fun o=>AT o&&o.g == l.g) ls:Nat):Int)=(CS l.g ls:Nat):=rfl
   omega)
 rw[VI (fun o=>AT o&&S6 o l) (fun o=>decide (o.g<l.g))]
 unfold pos
 congr 1
 ·apply B9;intro o _;by_cases h:o.g<l.g
  ·simp[S6,h]
  ·simp[h]
 ·rw[← hb];apply B9;intro o _;by_cases hg:o.g=l.g
  ·have e:(o.r<l.r)↔(o.r≤((l.r - 1).toNat:Int)):=by omega
   simp[S6,hg,e]
  ·by_cases h:o.g<l.g
   ·grind
   ·rw[Bool.eq_iff_iff]; simp[S6,h,hg]
theorem ZX{ls:List Lt}(ha:Ol ls)(hr:Sj ls){i:Nat}(hi:i<ls.length)(hp:AT (at' ls i)=true):(Z4 ls)[pos ls (at' ls i)]? = some i:=by
 have hm:i∈Z4 ls:=Bb.2 ⟨hi,hp⟩;obtain⟨p,hpl,hpe⟩:=List.getElem_of_mem hm;have hpe':(Z4 ls)[p]? = some i:=by grind
 have hidx:=uE (aF ha _ (lR _)) hpe';have hcount:((Z4 ls).filter fun j=>S6 (at' ls j) (at' ls i)).length=Z7 (fun o=>AT o&&S6 o (at' ls i)) ls:=by
  rw[Z4,((Oo ls ls.length).filter _).length_eq,List.filter_filter,← VT]
  grind
 have hidx':((Z4 ls).filter fun j=>S6 (at' ls j) (at' ls i)).length=p:=hidx
 rw[hcount,pJ ha hr (F7 hi) hp]at hidx';rw[hidx'];exact hpe'
end Go.Plain
end
