/- Part 16 of the proof: AeIa, Pb. -/
import Derived.Test.YtggclbeocekgkaaGreatDoorP10
import Derived.Test.YtggclbeocekgkaaGreatDoorP15
set_option linter.all false
section
namespace Go.AE
open Go.RowKit
theorem oH{W:AA}{Φ:Ao}{ρ:AD}{m:Mem}{w:World}(hr:Rel W Φ ρ m w):∃ BM:Ao,Ext Φ ρ BM ρ∧(∀ B c,BM B=some c → ∃ e fz,w.heap[B]? = some (.cells c e fz)) ∧
 (∀ B c,BM B=some c→W.p B=some c∨W.CR B)∧(∀ b l k els c e fz,m.get b=some (.cells k els)→ρ b=some l→w.heap[l.blk]? = some (.cells c e fz)→BM l.blk=some c) ∧
 ∀ B,BM B=Φ B ∨ ∃ b l y,m.get b=some y∧ρ b=some l∧l.blk=B:=by
 have hlv:∀ B,(∃ b l y,m.get b=some y∧ρ b=some l∧l.blk=B)→Φ B=none∧W.CR B:=by
  rintro B ⟨b,l,y,h1,h2,rfl⟩;obtain⟨l',o,g1,g2,g3,_⟩:=hr.live b y h1;rw[h2]at g1; injection g1 with g1; subst g1
  exact⟨g3,g2⟩
 refine⟨fun B=>@ite _ (∃ b l y,m.get b=some y∧ρ b=some l∧l.blk=B) (Classical.propDecidable _) (match w.heap[B]? with|some (.cells c _ _)=>some c|_=>none) (Φ B),⟨fun B c hB=>?_,fun b l h=>h⟩,fun B c hB=>?_,fun B c hB=>?_,fun b l k els c e fz hg hl hw=>?_,fun B=>?_⟩
 ·by_cases hL:∃ b l y,m.get b=some y∧ρ b=some l∧l.blk=B
  ·rw[(hlv B hL).1]at hB; cases hB
  ·simp only[hL,if_false]; exact hB
 ·by_cases hL:∃ b l y,m.get b=some y∧ρ b=some l∧l.blk=B
  ·simp only[hL,if_true]at hB;split at hB<;>first|(cases hB; done)|skip
   rename_i c' e fz hw;injection hB with hB; subst hB
   exact⟨e,fz,hw⟩
  ·simp only[hL,if_false]at hB;exact hr.Bn B c hB
 ·by_cases hL:∃ b l y,m.get b=some y∧ρ b=some l∧l.blk=B
  ·exact .inr (hlv B hL).2
  ·simp only[hL,if_false]at hB;exact hr.Cr B c hB
 ·have hL:∃ b' l' y,m.get b'=some y∧ρ b'=some l'∧l'.blk=l.blk:=⟨b,l,_,hg,hl,rfl⟩
  simp only[hL,if_true,hw]
 ·by_cases hL:∃ b l y,m.get b=some y∧ρ b=some l∧l.blk=B
  ·exact .inr hL
  ·exact .inl (by simp only[hL,if_false])
mutual
def Aa.scalar:Aa→Bool
 | .bool _ | .int _ _ | .str _ | .nilPtr | .Ae | .emp | .Av | .nilFunc | .nilIface=>true
 | .agg cs=>SX cs
 | .tuple cs=>SX cs
 | _=>false
def SX:List Aa→Bool
 | []=>true
 | x :: r=>x.scalar&&SX r
end
theorem aU:∀ {l:List Aa} {i:Nat} {x:Aa},SX l=true→l[i]? = some x→x.scalar=true
 | [],i,x,_,h=>by simp at h
 | y :: r,i,x,h,hx=>by
  simp only[SX,bA]at h;cases i with
  | zero=>simp only[List.getElem?_cons_zero,oI]at hx; subst hx; exact h.1
  | succ i=>simp only[List.getElem?_cons_succ]at hx; exact aU h.2 hx
theorem R.scalar{Φ Ar:Ao}{ρ ρ':AD}{x:Aa}{v:Value}(h:R Φ ρ x v)(hc:x.scalar=true):R Ar ρ' x v:=by
 induction h with
 | bool b=>exact .bool b
 | int k n=>exact .int k n
 | str s=>exact .str s
 | nilPtr=>exact .nilPtr
 | Ae=>exact .Ae
 | emp a=>exact .emp a
 | Av=>exact .Av
 | nilFunc=>exact .nilFunc
 | nilIface=>exact .nilIface
 | agg cs vs hs _ ih=>
  simp only[Aa.scalar]at hc;exact .agg cs vs hs fun i x v h1 h2=>ih i x v h1 h2 (aU hc h1)
 | tuple cs vs hs _ ih=>
  simp only[Aa.scalar]at hc;exact .tuple cs vs hs fun i x v h1 h2=>ih i x v h1 h2 (aU hc h1)
 | _=>simp[Aa.scalar]at hc
def Mem.part(m:Mem)(L:List Nat):Mem:=⟨fun c=>bif K2 c L then m.get c else none,m.next⟩
theorem aV(m:Mem)(L:List Nat):Mem.Sub (m.part L) m:=by
 refine⟨fun b x h=>?_,lR _⟩
 simp only[Mem.part]at h;cases hb:K2 b L with
 | true=>rw[hb]at h; exact h
 | false=>rw[hb]at h; cases h
theorem Fx{x:Nat}:∀ {l:List Nat},K2 x l=true↔x∈l
 | []=>by simp[K2]
 | y :: r=>by
  simp only[K2,mC];cases h:Nat.beq x y with
  | true=>simp[Nat.eq_of_beq_eq_true h]
  | false=>
   simp only[cond_false];rw[Fx];have:x≠y:=fun e=>by subst e; rw[Nat.beq_refl]at h; cases h
   simp[this]
section
variable {P:Program}
theorem mZ{W:AA}{Φ BM:Ao}{ρ:AD}{m:Mem}{w:World}{n:Nat}{args args':List Aa}{vs:Array Value}(hr:Rel W Φ ρ m w)(hE:Ext Φ ρ BM ρ)(hs:∀ b l k els c e fz,m.get b=some (.cells k els)→ρ b=some l→w.heap[l.blk]? = some (.cells c e fz)→BM l.blk=some c)
 (h:U1 (X9 m.get n) args=some args') (ha:RL Φ ρ args vs):RL BM ρ args' vs:=
 Yu (fun x y v hxy hx=>Zu hr hE hs n x y v hxy hx) ha h
theorem Z2u{e:Aq}(he:e.Ok P)(hs:e.v.scalar=true){m:Mem}{L:List Nat}{n:Nat}{args:List Aa}(hf:U1 (X9 (m.part L).get n) args=some e.args)(av:List Nat) :
 Au P e.g args m av fun r m'=>r=e.v∧m'=m:=by
 refine⟨(he m []).1,fun W Φ ρ vs w hr ha CN=>?_⟩
 have hrp:=hr.sub (aV m L);obtain⟨BM,f1,f2,f3,f4,f5⟩:=oH hrp;have ha':=mZ hrp f1 f4 hf ha
 let W0:AA:=⟨w,fun _=>none,BM,hr.Ds⟩
 have hr0:Rel W0 BM ρ ⟨fun _=>none,m.next⟩ w:=
  ⟨⟨Below.refl _ _,fun B o hB=>(by cases hB)⟩,f2,fun b x hx=>(by cases hx),fun b b' x x' l l' h1=>(by cases h1),hr.fresh,fun B c hB=>.inl hB⟩
 refine((he ⟨fun _=>none,m.next⟩ []).2 W0 BM ρ vs w hr0 ha' (fun b hb=>by cases hb)).mono ?_
 rintro e' w' ⟨u,r,m',Ar,ρ',rfl,h1,h2,h3,h4,h5,rfl,rfl⟩;exact⟨u,e.v,m,Φ,ρ,rfl,.refl _ _,fun b _ _ h=>h,hr.below h3.base.below,h4.scalar hs,lR _,rfl,rfl⟩
theorem wV{e:Aq}(he:e.Ok P){m:Mem}{L:List Nat}{n:Nat}{args:List Aa}(hf:U1 (X9 (m.part L).get n) args=some e.args)(av:List Nat) :
 Au P e.g args m av fun r m'=>r=e.v∧m'=m.less L:=by
 refine⟨(he m []).1,fun W Φ ρ vs w hr ha CN=>?_⟩
 have hrp:=hr.sub (aV m L);obtain⟨BM,f1,f2,f3,f4,f5⟩:=oH hrp;have ha':=mZ hrp f1 f4 hf ha;have hless:∀ b x,(m.less L).get b=some x→b∉L∧m.get b=some x:=fun b x h=>by
  simp only[Mem.less]at h;split at h
  ·cases h
  ·exact⟨‹_›,h⟩
 have hr2:Rel W BM ρ (m.less L) w:=by
  refine⟨hr.base,f2,fun b x hx=>?_,fun b b' x x' l l' h1 h2=>hr.inj b b' x x' l l' (hless _ _ h1).2 (hless _ _ h2).2,hr.fresh,f3⟩
  obtain⟨hb,hx⟩:=hless b x hx;obtain⟨l,o,g1,g2,g3,g4,g5⟩:=hr.live b x hx;refine⟨l,o,g1,g2,?_,g4,g5.ext f1⟩;rcases f5 l.blk with h|⟨b2,l2,y,k1,k2,k3⟩
  ·rw[h]; exact g3
  ·exfalso;have:=hr.inj b b2 x y l l2 hx ((aV m L).get _ _ k1) g1 k2 k3.symm;subst this;simp only[Mem.part]at k1;cases hq:K2 b L with
   | false=>rw[hq]at k1; cases k1
   | true=>exact hb (Fx.1 hq)
 refine((he (m.less L) []).2 W BM ρ vs w hr2 ha' (fun b hb=>by cases hb)).mono ?_
 rintro e' w' ⟨u,r,m',Ar,ρ',rfl,h1,h2,h3,h4,h5,rfl,rfl⟩;exact⟨u,e.v,_,Ar,ρ',rfl,f1.trans h1,fun b hb hn h0=>h2 b hb (by simp) h0,h3,h4,lR _,rfl,rfl⟩
def LV(get:Nat→Option Ai):Nat→Aa→List Nat
 | 0,_=>[]
 | n+1,x=>match x with
  | .sl b _ _=>b :: (match get b with
   | some (.cells _ els)=>els.flatMap fun r=>r.flatMap (LV get n)
   | _=>[])
  | .agg cs=>cs.flatMap (LV get n)
  | .tuple cs=>cs.flatMap (LV get n)
  | .Aj els=>els.flatMap fun r=>r.flatMap (LV get n)
  | _=>[]
def Ph(g:Nat):List Aq→Bool
 | []=>false
 | e :: r=>Nat.beq e.g g||Ph g r
def Ol(g:Nat)(args:List Aa):List Aq→Option Aq
 | []=>none
 | e :: r=>bif Nat.beq e.g g then (bif EH args e.args then some e else Ol g args r)else Ol g args r
theorem aK{g:Nat}{args:List Aa}:∀ {l:List Aq} {e:Aq},Aq.Rh P l→Ol g args l=some e→e.Ok P∧e.g=g∧args=e.args
 | [],e,_,h=>by simp[Ol]at h
 | a :: r,e,ha,h=>by
  simp only[Ol]at h;cases h1:Nat.beq a.g g with
  | false=>rw[h1]at h; exact aK ha.2 h
  | true=>
   rw[h1]at h;simp only[cond_true]at h;cases h2:EH args a.args with
   | false=>rw[h2]at h; exact aK ha.2 h
   | true=>
    rw[h2]at h;simp only[cond_true,oI]at h;subst h;exact⟨ha.1,Nat.eq_of_beq_eq_true h1,Sv _ _ h2⟩
def Pf(l:List Aq):AP:=fun g args m=>
 bif Ph g l then
  let L:=args.flatMap (LV m.tr.get 8)
  match U1 (X9 (fun c=>bif K2 c L then m.tr.get c else none) 8) args with
  | some args'=>match Ol g args' l with
   | some e=>bif e.v.scalar then some (e.v,m,[])else bif L.all fun b=>Nat.ble (b+1) bound then some (e.v,B1 m L,L)else none
   | none=>none
  | none=>none
 else none
theorem zA:∀ (L:List Nat) (m:TM),(L.all fun b=>Nat.ble (b+1) bound)=true→(B1 m L).mem=m.mem.less L∧(B1 m L).next=m.next
 | [],m,_=>⟨Mem.ext' (fun c=>by simp[B1,Mem.less]) rfl,rfl⟩
 | b :: r,m,h=>by
  simp only[List.all_cons,bA]at h;obtain⟨h1,h2⟩:=zA r (m.set b none) h.2;simp only[B1];refine⟨?_,by rw[h2]; rfl⟩
  rw[h1,TM.CD (Nat.le_of_ble_eq_true h.1)];refine Mem.ext' (fun c=>?_) rfl
  simp only[Mem.less,Mem.BB,mC];by_cases hc:c=b
  ·simp[hc]
  ·simp[hc]
theorem Z13{l:List Aq}(hl:Aq.Rh P l):D8 P (Pf l):=by
 intro g args m v m' wl h;unfold Pf at h;cases hg:Ph g l with
 | false=>rw[hg]at h; cases h
 | true=>
  rw[hg]at h;simp only[cond_true]at h;cases hf:U1 (X9 (fun c=>bif K2 c (args.flatMap (LV m.tr.get 8))then m.tr.get c else none) 8) args with
  | none=>simp[hf]at h
  | some args'=>
   simp only[hf]at h;cases hm:Ol g args' l with
   | none=>simp[hm]at h
   | some e=>
    simp only[hm]at h;obtain⟨h1,h2,h3⟩:=aK hl hm;subst h2; subst h3;cases hs:e.v.scalar with
    | true=>
     rw[hs]at h;simp only[cond_true,oI,Bm]at h;obtain⟨rfl,rfl,rfl⟩:=h;exact⟨lR _,fun _ _ _=>rfl,fun id=>Z2u (m:=m.mem) (L:=args.flatMap (LV m.tr.get 8)) (n:=8) h1 hs hf [id]⟩
    | false=>
     rw[hs]at h;simp only[cond_false]at h;cases hb:(args.flatMap (LV m.tr.get 8)).all fun b=>Nat.ble (b+1) bound with
     | false=>rw[hb]at h; cases h
     | true=>
      rw[hb]at h;simp only[cond_true,oI,Bm]at h;obtain⟨rfl,rfl,rfl⟩:=h;obtain⟨k1,k2⟩:=zA _ m hb;refine⟨by rw[k2]; exact lR _,fun c _ hc=>?_,fun id=>?_⟩
      ·rw[k1];simp only[Mem.less];rw[iN hc]
      ·rw[k1];exact wV (m:=m.mem) (L:=args.flatMap (LV m.tr.get 8)) (n:=8) h1 hf [id]
end
end Go.AE
end
section
namespace Go.Plain
theorem YL(p:Lt→Bool)(a b:List Lt):Z9 p (a++b)=Z9 p a+Z9 p b:=by simp[Z9]
theorem Oj(p:Lt→Bool)(l:Lt)(b:List Lt):Z9 p (l :: b)=(if p l then 1 else 0)+Z9 p b:=by
 simp only[Z9,List.filter_cons]
 grind
theorem Nc(p q:Lt→Bool)(ls:List Lt):Z9 p ls=Z9 (fun l=>p l&&q l) ls+Z9 (fun l=>p l && !q l) ls:=by
 induction ls with
 | nil=>rfl
 | cons l r ih=>
  simp only[Oj,ih]
  grind
theorem O8{p q:Lt→Bool}{ls:List Lt}(h:∀ l,l∈ls→p l=q l):Z9 p ls=Z9 q ls:=by
 unfold Z9;rw[List.filter_congr h]
theorem B3{p:Lt→Bool}{ls:List Lt}:Z9 p ls≤ls.length:=List.length_filter_le _ _
theorem nW{ls:List Lt}{q:Lt→Bool}(h1:∀ l,l∈ls→q l=true→1≤l.r∧l.r≤(Z9 q ls:Nat))(h2:∀ t:Int,Z9 (fun l=>q l&&l.r == t) ls≤1) :
 ∀ t:Nat,t≤Z9 q ls→Z9 (fun l=>q l&&decide (l.r≤(t:Int))) ls=t:=by
 have step:∀ t:Nat,Z9 (fun l=>q l&&decide (l.r≤((t+1:Nat):Int))) ls≤Z9 (fun l=>q l&&decide (l.r≤(t:Int))) ls+1:=by
  intro t;rw[Nc (fun l=>q l&&decide (l.r≤((t+1:Nat):Int))) (fun l=>decide (l.r≤(t:Int)))]
  have e1:Z9 (fun l=>q l&&decide (l.r≤((t+1:Nat):Int))&&decide (l.r≤(t:Int))) ls=Z9 (fun l=>q l&&decide (l.r≤(t:Int))) ls:=by
   apply O8;intro l _;cases q l with
   | false=>simp
   | true=>rw[Bool.eq_iff_iff]; simp; omega
  have e2:Z9 (fun l=>q l&&decide (l.r≤((t+1:Nat):Int)) && !decide (l.r≤(t:Int))) ls=Z9 (fun l=>q l&&l.r == ((t+1:Nat):Int)) ls:=by
   apply O8;intro l _;cases q l with
   | false=>simp
   | true=>rw[Bool.eq_iff_iff]; simp; omega
  simp_all
 have zero:Z9 (fun l=>q l&&decide (l.r≤((0:Nat):Int))) ls=0:=by
  unfold Z9;rw[List.length_eq_zero_iff,List.filter_eq_nil_iff]
  grind
 have full:Z9 (fun l=>q l&&decide (l.r≤((Z9 q ls:Nat):Int))) ls=Z9 q ls:=by
  apply O8
  simp_all
 have up:∀ t:Nat,Z9 (fun l=>q l&&decide (l.r≤(t:Int))) ls≤t:=by
  intro t
  induction t with
  | zero=>omega
  | succ t ih=>have:=step t; omega
 have Z8:∀ k t:Nat,t+k=Z9 q ls→Z9 q ls≤Z9 (fun l=>q l&&decide (l.r≤(t:Int))) ls+k:=by
  intro k
  induction k with
  | zero=>grind
  | succ k ih=>
   intro t ht;have h1:=ih (t+1) (by omega)
   have h2:=step t;omega
 intro t ht;have h1:=up t;have h2:=Z8 (Z9 q ls - t) t (by omega)
 omega
def R1(a b:Lt):Bool:=decide (a.g<b.g)||(a.g == b.g&&decide (a.r<b.r))
theorem x7(a:Lt):R1 a a=false:=by simp[R1]
theorem Z0l{a b:Lt}(h:R1 a b=true):R1 b a=false:=by
 simp only[R1,Bool.or_eq_true,bA,decide_eq_true_eq,beq_iff_eq,Bool.or_eq_false_iff,Bool.and_eq_false_iff,decide_eq_false_iff_not,beq_eq_false_iff_ne]at *;omega
theorem Ydh{a b:Lt}(h:¬(a.g=b.g∧a.r=b.r)):R1 a b=true∨R1 b a=true:=by
 simp only[R1,Bool.or_eq_true,bA,decide_eq_true_eq,beq_iff_eq];omega
theorem Z86{a b c:Lt}(h:R1 a b=true)(h':R1 b c=true):R1 a c=true:=by
 simp only[R1,Bool.or_eq_true,bA,decide_eq_true_eq,beq_iff_eq]at *;omega
def at'(ls:List Lt)(i:Nat):Lt:=ls.getD i default
def ins(ls:List Lt)(i:Nat):List Nat→List Nat
 | []=>[i]
 | j :: r=>if R1 (at' ls j) (at' ls i)then j :: ins ls i r else i :: j :: r
def Jv(ls:List Lt):Nat→List Nat
 | 0=>[]
 | k+1=>if Am (at' ls k)then ins ls k (Jv ls k)else Jv ls k
def Z2(ls:List Lt):List Nat:=Jv ls ls.length
theorem Zr(ls:List Lt)(i:Nat):∀ (l:List Nat),(ins ls i l).Perm (i :: l)
 | []=>List.Perm.refl _
 | j :: r=>by
  simp only[ins];split
  ·exact((Zr ls i r).cons j).trans (List.Perm.swap i j r)
  grind
theorem MD(ls:List Lt):∀ k,(Jv ls k).Perm ((List.range k).filter fun j=>Am (at' ls j))
 | 0=>List.Perm.refl _
 | k+1=>by
  rw[List.range_succ,List.filter_append];simp only[Jv,List.filter_cons,List.filter_nil];split
  ·exact((Zr ls k _).trans ((MD ls k).cons k)).trans (List.perm_append_comm (l₁:=[k]))
  ·simpa using MD ls k
theorem Z4q(ls:List Lt):(List.range ls.length).map (at' ls)=ls:=by
 apply List.ext_getElem?;intro i;rw[gM];by_cases h:i<ls.length
 ·simp[h,at']
 ·simp[h]
theorem WG(ls:List Lt)(p:Lt→Bool):((List.range ls.length).filter fun j=>p (at' ls j)).length=Z9 p ls:=by
 have h:(((List.range ls.length).map (at' ls)).filter p).length=((List.range ls.length).filter fun j=>p (at' ls j)).length:=by
  rw[List.filter_map,lM]; rfl
 rw[← h,Z4q];rfl
theorem O5(ls:List Lt):(Z2 ls).length=Z0 ls:=by
 rw[Z2,(MD ls _).length_eq,WG]; rfl
theorem AB{ls:List Lt}{j:Nat}:j∈Z2 ls↔j<ls.length∧Am (at' ls j)=true:=by
 rw[Z2,(MD ls _).mem_iff];simp
def Rs(ls:List Lt):Prop:=∀ i j,i<ls.length→j<ls.length→Am (at' ls i)=true→Am (at' ls j)=true→(at' ls i).g=(at' ls j).g→(at' ls i).r=(at' ls j).r→i=j
theorem oG{ls:List Lt}{i:Nat}:∀ {l:List Nat},l.Pairwise (fun a b=>R1 (at' ls a) (at' ls b)=true)→(∀ j,j∈l→R1 (at' ls j) (at' ls i)=true∨R1 (at' ls i) (at' ls j)=true) →
 (ins ls i l).Pairwise (fun a b=>R1 (at' ls a) (at' ls b)=true)
 | [],_,_=>List.pairwise_singleton _ _
 | j :: r,h,ht=>by
  rw[List.pairwise_cons]at h;simp only[ins];split
  ·rename_i hlt;rw[List.pairwise_cons];refine⟨fun x hx=>?_,oG h.2 fun k hk=>ht k (List.mem_cons_of_mem _ hk)⟩
   have:=(Zr ls i r).mem_iff.1 hx
   grind
  ·rename_i hlt;have hij:R1 (at' ls i) (at' ls j)=true:=(ht j (List.mem_cons_self ..)).resolve_left hlt;rw[List.pairwise_cons,List.pairwise_cons];refine⟨fun x hx=>?_,h.1,h.2⟩
   rcases mC.1 hx with rfl|hx
   ·exact hij
   ·exact Z86 hij (h.1 x hx)
theorem aN{ls:List Lt}(ha:Rs ls):∀ k,k≤ls.length→(Jv ls k).Pairwise (fun a b=>R1 (at' ls a) (at' ls b)=true)
 | 0,_=>List.Pairwise.nil
 | k+1,hk=>by
  simp only[Jv];split
  ·rename_i hp;refine oG (aN ha k (by omega)) fun j hj=>?_
   have:=(MD ls k).mem_iff.1 hj;simp only[List.mem_filter,mR]at this;apply Ydh;rintro⟨h1,h2⟩;have:=ha j k (by omega) (by omega) this.2 hp h1 h2
   omega
  ·exact aN ha k (by omega)
theorem rE{ls:List Lt}:∀ {l:List Nat} {p i:Nat},l.Pairwise (fun a b=>R1 (at' ls a) (at' ls b)=true)→l[p]? = some i→(l.filter fun j=>R1 (at' ls j) (at' ls i)).length=p
 | [],p,i,_,h=>by simp at h
 | j :: r,p,i,hs,h=>by
  rw[List.pairwise_cons]at hs;cases p with
  | zero=>
   simp only[List.getElem?_cons_zero,oI]at h;subst h;rw[List.length_eq_zero_iff,List.filter_eq_nil_iff];intro x hx;rcases mC.1 hx with rfl|hx
   ·simp[x7]
   ·rw[Z0l (hs.1 x hx)]; simp
  | succ p=>
   simp only[List.getElem?_cons_succ]at h;rw[List.filter_cons,iP (hs.1 i (List.mem_of_getElem? h)),lC,rE hs.2 h]
def pos(ls:List Lt)(l:Lt):Nat:=Z9 (fun o=>Am o&&decide (o.g<l.g)) ls+(l.r - 1).toNat
def Vh(ls:List Lt):Prop:=∀ l,l∈ls→Am l=true→1≤l.r∧l.r≤(Ay l.g ls:Nat)
theorem O0{ls:List Lt}{i:Nat}(h:i<ls.length):at' ls i∈ls:=by
 rw[at',List.getD,gE h]
 grind
theorem zu{ls:List Lt}(ha:Rs ls)(g r:Int):Z9 (fun l=>(Am l&&l.g == g)&&l.r == r) ls≤1:=by
 rw[← WG];have hn:((List.range ls.length).filter fun j=>(Am (at' ls j)&&(at' ls j).g == g)&&(at' ls j).r == r).Nodup:=(List.nodup_range).filter _
 rcases hl:(List.range ls.length).filter (fun j=>(Am (at' ls j)&&(at' ls j).g == g)&&(at' ls j).r == r)with _|⟨a,_|⟨b,t⟩⟩
 ·simp
 ·simp
 ·exfalso;rw[hl]at hn;have hma:a∈(List.range ls.length).filter (fun j=>(Am (at' ls j)&&(at' ls j).g == g)&&(at' ls j).r == r):=by rw[hl]; simp
  have hmb:b∈(List.range ls.length).filter (fun j=>(Am (at' ls j)&&(at' ls j).g == g)&&(at' ls j).r == r):=by rw[hl]; simp
  simp only[List.mem_filter,mR,bA,beq_iff_eq]at hma hmb;have:=ha a b hma.1 hmb.1 hma.2.1.1 hmb.2.1.1 (by rw[hma.2.1.2,hmb.2.1.2]) (by rw[hma.2.2,hmb.2.2])
  grind
theorem vt{ls:List Lt}(ha:Rs ls)(hr:Vh ls){l:Lt}(hl:l∈ls)(hp:Am l=true):Z9 (fun o=>Am o&&R1 o l) ls=pos ls l:=by
 obtain⟨h1,h2⟩:=hr l hl hp;have hb:=nW (ls:=ls) (q:=fun o=>Am o&&o.g == l.g) (fun o ho hq=>by
  simp only[bA,beq_iff_eq]at hq;have:=hr o ho hq.1;rw[hq.2]at this;exact this) (fun t=>zu ha l.g t) (l.r - 1).toNat (by
   have h3:((Z9 (fun o=>Am o&&o.g == l.g) ls:Nat):Int)=(Ay l.g ls:Nat):=rfl
   omega)
 rw[Nc (fun o=>Am o&&R1 o l) (fun o=>decide (o.g<l.g))]
 unfold pos
 congr 1
 ·apply O8;intro o _;by_cases h:o.g<l.g
  ·simp[R1,h]
  ·simp[h]
 ·rw[← hb];apply O8;intro o _;by_cases hg:o.g=l.g
  ·have e:(o.r<l.r)↔(o.r≤((l.r - 1).toNat:Int)):=by omega
   simp[R1,hg,e]
  ·by_cases h:o.g<l.g
   ·grind
   ·rw[Bool.eq_iff_iff]; simp[R1,h,hg]
theorem Rv{ls:List Lt}(ha:Rs ls)(hr:Vh ls){i:Nat}(hi:i<ls.length)(hp:Am (at' ls i)=true):(Z2 ls)[pos ls (at' ls i)]? = some i:=by
 have hm:i∈Z2 ls:=AB.2 ⟨hi,hp⟩;obtain⟨p,hpl,hpe⟩:=List.getElem_of_mem hm;have hpe':(Z2 ls)[p]? = some i:=by grind
 have hidx:=rE (aN ha _ (lR _)) hpe';have hcount:((Z2 ls).filter fun j=>R1 (at' ls j) (at' ls i)).length=Z9 (fun o=>Am o&&R1 o (at' ls i)) ls:=by
  rw[Z2,((MD ls ls.length).filter _).length_eq,List.filter_filter,← WG]
  grind
 have hidx':((Z2 ls).filter fun j=>R1 (at' ls j) (at' ls i)).length=p:=hidx
 rw[hcount,vt ha hr (O0 hi) hp]at hidx';rw[hidx'];exact hpe'
end Go.Plain
end
