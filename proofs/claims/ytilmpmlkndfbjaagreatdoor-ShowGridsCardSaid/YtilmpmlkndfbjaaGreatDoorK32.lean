/- Part 32 of the proof: Qc, Ea, AeWs, Ys. -/
import Derived.Test.YtilmpmlkndfbjaaGreatDoorK24
import Derived.Test.YtilmpmlkndfbjaaGreatDoorK25
import Derived.Test.YtilmpmlkndfbjaaGreatDoorK26
import Derived.Test.YtilmpmlkndfbjaaGreatDoorK29
import Derived.Test.YtilmpmlkndfbjaaGreatDoorK30
import Derived.Test.YtilmpmlkndfbjaaGreatDoorK31
import Derived.Shelf.SlSortCmp.NoneTotal
import Derived.Test.YtilmpmlkndfbjaaGreatDoorProg
import Derived.Deep.QuietTactic
import Derived.BigQuiet
import Derived.RegionTactic
import Derived.ChangeAlike
import Derived.BigRegion
import Derived.Sort.Grow
import Derived.WalkKit
set_option linter.all false
section
namespace Go.Ab
open Go.Plain
section
variable {ls:List Lt}
theorem pU{l:List Nat}{i:Nat}(h:i+1<l.length):l=l.take i++l.getD i 0 :: l.getD (i+1) 0 :: l.drop (i+2):=by
 conv=>lhs; rw[← List.take_append_drop i l]
 rw[List.drop_eq_getElem_cons (by omega),List.drop_eq_getElem_cons h]
 grind
theorem qP{l:List Nat}{a n:Nat}:l=l.take a++(l.drop a).take n++l.drop (a+n):=by
 rw[List.append_assoc,← List.drop_drop,List.take_append_drop,List.take_append_drop]
end
end Go.Ab
end
section
namespace Go.Ab
open Go.Plain
abbrev Ro:=Int×Int×Int×Bool
abbrev Nd:=Bool×Bool
def O4(e n:Nat):List Nat:=(List.range (4 - n)).map fun k=>e+(k+1)
def Dl(front:List Nat)(a e n:Nat):List (Nat×Nat):=(List.range n).map fun k=>(front.getD (a+k) 0,e+(4 - k) % 4)
def M8(f:Nat)(r:Ro):Prop:=r.1=1∧0≤r.2.1∧r.2.1<(f:Int) - 1∧r.2.2.1=0∧r.2.2.2=false
def J3(f:Nat)(r:Ro):Prop:=r.1=2∧1≤r.2.2.1∧r.2.2.1≤4∧0≤r.2.1∧r.2.1≤(f:Int) - r.2.2.1
instance (f:Nat) (r:Ro):Decidable (M8 f r):=by unfold M8; exact inferInstance
instance (f:Nat) (r:Ro):Decidable (J3 f r):=by unfold J3; exact inferInstance
def X9(m:Nat)(below:Bool):List Ro→List Nat→List (Nat×Nat)→List Nd→Bool×List (Nat×Nat)×List Nd
 | [],front,L,X=>(decide (front=[]),L,X)
 | r :: rs,front,L,X=>
  if M8 front.length r then X9 m below rs (front.take r.2.1.toNat++front.drop (r.2.1.toNat+2)) (L++[(front.getD r.2.1.toNat 0,front.getD (r.2.1.toNat+1) 0)]) X
  else if J3 front.length r then
   X9 m below rs (front.take r.2.1.toNat++O4 (2*m+4*X.length) r.2.2.1.toNat++front.drop (r.2.1.toNat+r.2.2.1.toNat)) (L++Dl front r.2.1.toNat (2*m+4*X.length) r.2.2.1.toNat) (X++[(r.2.2.2,below)])
  else (false,L,X)
def U1(L:List (Nat×Nat)):List Nat:=L.flatMap fun p=>[p.1,p.2]
def Bk(L:List (Nat×Nat))(e:Nat):Nat:=match L.find? (fun p=>p.1 == e||p.2 == e)with
 | some p=>if p.1=e then p.2 else p.1
 | none=>e
theorem Bi{L:List (Nat×Nat)}{e:Nat}:e∈U1 L ↔ ∃ p,p∈L∧(e=p.1∨e=p.2):=by
 unfold U1
 grind
theorem VM{L:List (Nat×Nat)}(hn:(U1 L).Nodup){p:Nat×Nat}(hp:p∈L):Bk L p.1=p.2∧Bk L p.2=p.1:=by
 induction L with
 | nil=>cases hp
 | cons q r ih=>
  have e:U1 (q :: r)=q.1 :: q.2 :: U1 r:=rfl;rw[e,List.nodup_cons,List.nodup_cons]at hn;obtain⟨n1,n2,n3⟩:=hn;simp only[mC,not_or]at n1;unfold Bk;rcases mC.1 hp with rfl|hp
  ·grind
  ·have a1:p.1≠q.1:=fun e=>n1.2 (Bi.2 ⟨p,hp,.inl e.symm⟩)
   have a2:p.1≠q.2:=fun e=>n2 (Bi.2 ⟨p,hp,.inl e.symm⟩)
   have b1:p.2≠q.1:=fun e=>n1.2 (Bi.2 ⟨p,hp,.inr e.symm⟩)
   have b2:p.2≠q.2:=fun e=>n2 (Bi.2 ⟨p,hp,.inr e.symm⟩)
   obtain⟨i1,i2⟩:=ih n3 hp;unfold Bk at i1 i2
   grind
theorem Z9x{L:List (Nat×Nat)}(hn:(U1 L).Nodup){e:Nat}(he:e∈U1 L):Bk L e∈U1 L∧Bk L (Bk L e)=e∧Bk L e≠e:=by
 obtain⟨p,hp,h⟩:=Bi.1 he;obtain⟨h1,h2⟩:=VM hn hp;have hne:p.1≠p.2:=fun e=>by
  have hs:List.Sublist [p.1,p.2] (U1 L):=by
   obtain⟨a,b,rfl⟩:=List.append_of_mem hp;unfold U1;rw[List.flatMap_append,List.flatMap_cons];exact(List.sublist_append_left _ _).trans (List.sublist_append_right _ _)
  grind
 rcases h with rfl|rfl
 ·rw[h1,h2];exact⟨Bi.2 ⟨p,hp,.inr rfl⟩,rfl,hne.symm⟩
 ·rw[h2,h1];exact⟨Bi.2 ⟨p,hp,.inl rfl⟩,rfl,hne⟩
def CU(m:Nat)(front CX:List Nat)(L:List (Nat×Nat))(X:List Nd):Prop:=(front++CX++U1 L).Perm (List.range (2*m+4*X.length))
theorem YM(L M:List (Nat×Nat)):U1 (L++M)=U1 L++U1 M:=List.flatMap_append
theorem Z7t{front:List Nat}{a e n:Nat}(ha:a+n≤front.length):(U1 (Dl front a e n)).Perm ((front.drop a).take n++(List.range n).map fun k=>e+(4 - k) % 4):=by
 induction n with
 | zero=>exact List.Perm.refl _
 | succ n ih=>
  have ih:=ih (by omega)
  have h1:Dl front a e (n+1)=Dl front a e n++[(front.getD (a+n) 0,e+(4 - n) % 4)]:=by
   unfold Dl;rw[List.range_succ,List.map_append];rfl
  have h2:(front.drop a).take (n+1)=(front.drop a).take n++[front.getD (a+n) 0]:=by
   rw[List.take_add_one,List.getElem?_drop,List.getD,gE (by omega)]
   rfl
  rw[h1,YM,h2,List.range_succ,List.map_append];rw[List.perm_iff_count]at ih ⊢;intro z;have:=ih z;simp only[U1,List.flatMap_cons,List.flatMap_nil,List.count_append,List.count_cons,List.count_nil,List.map_cons,List.map_nil,List.append_nil]at this ⊢;omega
theorem uI(e n:Nat)(h1:1≤n)(h4:n≤4):(O4 e n++(List.range n).map fun k=>e+(4 - k) % 4).Perm [e,e+1,e+2,e+3]:=by
 have:n=1∨n=2∨n=3∨n=4:=by omega
 rcases this with rfl|rfl|rfl|rfl
 ·show [e+1,e+2,e+3,e+0].Perm _
  grind
 ·show [e+1,e+2,e+0,e+3].Perm _
  grind
 ·show [e+1,e+0,e+3,e+2].Perm _
  grind
 ·show [e+0,e+3,e+2,e+1].Perm _
  grind
theorem rq(k:Nat):(List.range (k+4)).Perm (List.range k++[k,k+1,k+2,k+3]):=by
 grind
theorem CU.cap{m:Nat}{front CX:List Nat}{L:List (Nat×Nat)}{X:List Nd}(h:CU m front CX L X){i:Nat}(hi:i+1<front.length):CU m (front.take i++front.drop (i+2)) CX (L++[(front.getD i 0,front.getD (i+1) 0)]) X:=by
 unfold CU at *;refine List.Perm.trans ?_ h
 conv=>rhs; rw[pU hi]
 rw[YM,List.perm_iff_count];intro a;simp only[U1,List.flatMap_cons,List.flatMap_nil,List.count_append,List.count_cons,List.count_nil,List.append_nil];omega
theorem CU.DE{m:Nat}{front CX:List Nat}{L:List (Nat×Nat)}{X:List Nd}(h:CU m front CX L X){a n:Nat}(h1:1≤n)(h4:n≤4)(ha:a+n≤front.length)(x:Nd) :
 CU m (front.take a++O4 (2*m+4*X.length) n++front.drop (a+n)) CX (L++Dl front a (2*m+4*X.length) n) (X++[x]):=by
 unfold CU at *;have e:2*m+4*(X++[x]).length=2*m+4*X.length+4:=by simp; omega
 rw[e];refine List.Perm.trans ?_ (rq _).symm;refine List.Perm.trans ?_ (h.append_right _);have h5:=uI (2*m+4*X.length) n h1 h4;have h6:=Z7t (e:=2*m+4*X.length) ha;rw[YM];rw[List.perm_iff_count]at h5 h6 ⊢;intro z;have h5:=h5 z;have h6:=h6 z;have h7:List.count z front=List.count z (front.take a)+(List.count z ((front.drop a).take n)+List.count z (front.drop (a+n))):=by
  conv=>lhs; rw[qP (l:=front) (a:=a) (n:=n)]
  simp only[List.count_append];omega
 grind
theorem LV{m:Nat}{below:Bool}{CX:List Nat}:∀ (rs:List Ro) (front:List Nat) (L:List (Nat×Nat)) (X:List Nd) (L':List (Nat×Nat)) (X':List Nd),CU m front CX L X→X9 m below rs front L X=(true,L',X') →
 CU m [] CX L' X'∧(∃ M,L'=L++M) ∧ ∃ Y,X'=X++Y ∧ ∀ y,y∈Y→y.2=below
 | [],front,L,X,L',X',hO,h=>by
  simp only[X9,AP,decide_eq_true_eq]at h
  simp_all
 | r :: rs,front,L,X,L',X',hO,h=>by
  simp only[X9]at h;split at h
  ·rename_i hc;obtain⟨_,c2,c3,_,_⟩:=hc;obtain⟨a1,⟨M,a2⟩,a3⟩:=LV rs _ _ _ _ _ (hO.cap (by omega)) h
   grind
  ·split at h
   ·rename_i hc;obtain⟨_,c2,c3,c4,c5⟩:=hc;obtain⟨a1,⟨M,a2⟩,Y,a3,a4⟩:=LV rs _ _ _ _ _ (hO.DE (n:=r.2.2.1.toNat) (by omega) (by omega) (by omega) _) h
    grind
   ·cases h
end Go.Ab
end
section
namespace Go.AE
open Go.RowKit
def ZQ:Aa→Bool
 | .int _ _=>true
 | _=>false
variable {P:Program}
theorem BR.num{Φ Am:Ao}{ρ ρ':AD}{k:Nat}{rows:List (List Aa)}{l:Loc}{o:Obj}(hs:(rows.all fun row=>row.all ZQ)=true)(h:BR Φ ρ (.cells k rows) l o):BR Am ρ' (.cells k rows) l o:=by
 cases h with
 | cells _ _ _ c e hk hn hl hr h1=>
  refine .cells k rows l c e hk hn hl ⟨hr.1,fun i row j x hi hj=>?_⟩ h1
  obtain⟨v,k1,k2,k3⟩:=hr.2 i row j x hi hj;refine⟨v,k1,k2,?_⟩;have h2:=List.all_eq_true.1 (List.all_eq_true.1 hs row (List.mem_of_getElem? hi)) x (List.mem_of_getElem? hj);cases x<;>first|(cases h2; done)|skip
  cases k3;exact .int _ _
theorem Rq{g:FuncId}{AZ args:List Aa}{m:Ac}{len nx n kk:Nat}{rows:List (List Aa)}{x:List Nat}{K:Aa→Option Ag→Prop}(S:List Nat)(ha:args.map (EG (B5 m.get x) S)=AZ)(hca:W9 AZ=true)
 (hs:(rows.all fun row=>row.all ZQ)=true) (h:Cc P g AZ ⟨[],1⟩ fun r sm=>r=.sl 1 0 len∧sm=⟨[(1,.cells kk rows)],nx⟩) (hK:K (.sl n 0 len) (some (.cells kk rows))):DC P g args n x m K:=by
 refine⟨_,some (.cells kk rows),?_,hK⟩;show Az P g args (m.mem.less x) [n] fun r m'=>r=.sl n 0 len∧m'=(m.mem.less x).set n (.cells kk rows)
 have eG:(m.mem.less x).get=B5 m.get x:=by
  funext c
  unfold B5;show(if c∈x then none else m.get c)=_
  by_cases hc:c∈x
  ·rw[iP hc,Br.2 hc]; rfl
  ·rw[iN hc];cases hm':X3 c x with
   | false=>rfl
   | true=>exact absurd (Br.1 hm') hc
 refine⟨h.1,fun W Φ ρ vs w hr hargs Ch=>?_⟩
 obtain⟨hn0,hnn⟩:=Ch n (List.mem_singleton.2 rfl);obtain⟨Bp,f0,f1,f2,f3,f4⟩:=Sn S hr;rw[eG]at f4;have ha2:RL Bp ρ AZ vs:=by
  refine⟨by rw[hargs.1,← ha,lM],fun i x v hx hv=>?_⟩
  rw[← ha,gM]at hx;cases hy:args[i]? with
  | none=>rw[hy]at hx; cases hx
  | some y=>
   rw[hy]at hx;injection hx with hx
   subst hx;exact f4 _ _ (hargs.2 i y v hy hv)
 refine(h.2 ⟨w,fun _=>none,Bp⟩ Bp (fun _=>none) vs w ⟨⟨Below.refl _ _,fun B o hB=>(by cases hB)⟩,f1,fun b y hy=>(by cases hy),fun b b' y y' l l' h1=>(by cases h1),fun b l hl=>(by cases hl),fun B c hB=>.inl hB⟩
  (ha2.closed hca) (fun b hb=>by simp at hb)).mono fun e w' he=>?_
 obtain⟨u,r,m1,Am,ρ1,e1,hE,hk,hr',hR,hn,sm,rfl,rfl,rfl⟩:=he;obtain⟨l1,o1,p1,p2,p3,p4,p5⟩:=hr'.live 1 (.cells kk rows) rfl;have hr2:=hr.below hr'.base.below;have hext:∀ b l,ρ b=some l→(if b=n then ρ1 1 else ρ b)=some l:=fun b l hl=>by
  rw[iN]
  ·exact hl
  ·rintro rfl; rw[hn0]at hl; cases hl
 have hXt:Ext Φ ρ Φ (fun b=>if b=n then ρ1 1 else ρ b):=⟨fun _ _ h=>h,hext⟩
 have hold:∀ b y,(m.mem.less x).get b=some y→b≠n ∧ ∃ l o,ρ b=some l∧W.Cd l.blk∧Φ l.blk=none∧w'.heap[l.blk]? = some o∧l.blk<w.heap.size∧BR Φ ρ y l o:=by
  intro b y hy;obtain⟨l,o,g1,g2,g3,g4,g5⟩:=hr.live b y hy;have hlt:=G4 g4;refine⟨(fun e=>by rw[e,hn0]at g1; cases g1),l,o,g1,g2,g3,?_,hlt,g5⟩
  rw[hr'.base.below.block _ hlt]; exact g4
 refine⟨u,.sl n 0 len,(m.mem.less x).set n (.cells kk rows),Φ,fun b=>if b=n then ρ1 1 else ρ b,e1,hXt,fun b hb Cq h0=>?_,⟨hr2.base,hr2.AX,fun b y hy=>?_,fun b b' y y' l l' g1 g2 g3 g4 he=>?_,fun b l hl=>?_,hr.By⟩,?_,lR _,rfl,rfl⟩
 ·show(if b=n then ρ1 1 else ρ b)=none
  rw[iN (fun e=>Cq (by rw[e]; exact List.mem_singleton.2 rfl))]
  exact h0
 ·simp only[Mem.Ax]at hy;by_cases hbn:b=n
  ·rw[iP hbn]at hy;injection hy with hy
   subst hy;refine⟨l1,o1,by show(if b=n then ρ1 1 else ρ b)=some l1; rw[iP hbn]; exact p1,⟨Nat.le_trans hr.base.below.size p2.1,?_⟩,?_,p4,p5.num hs⟩
   ·cases hg:W.g l1.blk with
    | none=>rfl
    | some o=>exact absurd (G4 (hr.base.BU _ _ hg)) (Nat.not_lt.2 p2.1)
   ·cases hp:Φ l1.blk with
    | none=>rfl
    | some c=>
     obtain⟨e,fz,hb⟩:=hr.AX _ _ hp;exact absurd (G4 hb) (Nat.not_lt.2 p2.1)
  ·rw[iN hbn]at hy;obtain⟨_,l,o,q1,q2,q3,q4,q5,q6⟩:=hold b y hy;exact⟨l,o,hext _ _ q1,q2,q3,q4,q6.ext hXt⟩
 ·have g3':(if b=n then ρ1 1 else ρ b)=some l:=g3
  have g4':(if b'=n then ρ1 1 else ρ b')=some l':=g4
  simp only[Mem.Ax]at g1 g2;by_cases Bg:b=n
  ·by_cases Cq:b'=n
   ·rw[Bg,Cq]
   ·rw[iN Cq]at g2 g4';rw[iP Bg,p1]at g3';injection g3' with g3'
    obtain⟨_,l0,o,q1,q2,q3,q4,q5,q6⟩:=hold b' y' g2;rw[g4']at q1; injection q1 with q1
    rw[← q1,← he,← g3']at q5;exact absurd q5 (Nat.not_lt.2 p2.1)
  ·rw[iN Bg]at g1 g3';obtain⟨_,l0,o,q1,q2,q3,q4,q5,q6⟩:=hold b y g1;rw[g3']at q1; injection q1 with q1
   by_cases Cq:b'=n
   ·rw[iP Cq,p1]at g4';injection g4' with g4'
    rw[← q1,he,← g4']at q5;exact absurd q5 (Nat.not_lt.2 p2.1)
   ·rw[iN Cq]at g2 g4';exact hr.inj b b' y y' l l' g1 g2 g3' g4' he
 ·have hl':(if b=n then ρ1 1 else ρ b)=some l:=hl
  show b<m.next;by_cases Bg:b=n
  ·rw[Bg]; exact hnn
  ·rw[iN Bg]at hl';exact hr.fresh b l hl'
 ·have hR1:R Am ρ1 (.sl 1 0 len) u:=hR;cases hR1 with
  | sl _ _ _ a cap l hl hle hn2 hc hav'=>
   have:(if n=n then ρ1 1 else ρ n)=some l:=by rw[iP rfl]; exact hl
   exact .sl n 0 len a cap l this hle hn2 hc hav'
end Go.AE
end
section
namespace Go.Ab
open Go Go.AE Go.Proofs
open Go.Plain
theorem ZD:AS Tryz.prog 8 [] (.bool true):=kF
end Go.Ab
end
