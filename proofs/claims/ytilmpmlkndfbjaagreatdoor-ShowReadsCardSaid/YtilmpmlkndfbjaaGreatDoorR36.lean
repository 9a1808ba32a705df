/- Part 36 of the proof: Qc, Ea, AeWs, Ys. -/
import Derived.Test.YtilmpmlkndfbjaaGreatDoorR25
import Derived.Test.YtilmpmlkndfbjaaGreatDoorR26
import Derived.Test.YtilmpmlkndfbjaaGreatDoorR27
import Derived.Test.YtilmpmlkndfbjaaGreatDoorR29
import Derived.Test.YtilmpmlkndfbjaaGreatDoorR30
import Derived.Test.YtilmpmlkndfbjaaGreatDoorR33
import Derived.Test.YtilmpmlkndfbjaaGreatDoorR34
import Derived.Test.YtilmpmlkndfbjaaGreatDoorR35
import Derived.Shelf.SlSortCmp.NoneTotal
import Derived.Test.YtilmpmlkndfbjaaGreatDoorProg
import Derived.Deep.QuietTactic
import Derived.BigQuiet
import Derived.RegionTactic
import Derived.ChangeAlike
import Derived.BigRegion
import Derived.Sort.Grow
import Derived.WalkKit
set_option linter.all false
section
namespace Go.Known
open Go.Plain
section
variable {ls:List Lt}
theorem Zvd{l:List Nat}{i:Nat}(h:i+1<l.length):l=l.take i++l.getD i 0 :: l.getD (i+1) 0 :: l.drop (i+2):=by
 conv=>lhs; rw[← List.take_append_drop i l]
 rw[List.drop_eq_getElem_cons (by omega),List.drop_eq_getElem_cons h]
 rw[List.getD,List.getD,gE (by omega),gE h]
 rfl
theorem Zx4{l:List Nat}{a n:Nat}:l=l.take a++(l.drop a).take n++l.drop (a+n):=by
 rw[List.append_assoc,← List.drop_drop,List.take_append_drop,List.take_append_drop]
end
end Go.Known
end
section
namespace Go.Known
open Go.Plain
abbrev Ro:=Int×Int×Int×Bool
abbrev Nd:=Bool×Bool
def K7(e n:Nat):List Nat:=(List.range (4 - n)).map fun k=>e+(k+1)
def jnE(front:List Nat)(a e n:Nat):List (Nat×Nat):=(List.range n).map fun k=>(front.getD (a+k) 0,e+(4 - k) % 4)
def J5(f:Nat)(r:Ro):Prop:=r.1=1∧0≤r.2.1∧r.2.1<(f:Int) - 1∧r.2.2.1=0∧r.2.2.2=false
def I5(f:Nat)(r:Ro):Prop:=r.1=2∧1≤r.2.2.1∧r.2.2.1≤4∧0≤r.2.1∧r.2.1≤(f:Int) - r.2.2.1
instance (f:Nat) (r:Ro):Decidable (J5 f r):=by unfold J5; exact inferInstance
instance (f:Nat) (r:Ro):Decidable (I5 f r):=by unfold I5; exact inferInstance
def W1(m:Nat)(below:Bool):List Ro→List Nat→List (Nat×Nat)→List Nd→Bool×List (Nat×Nat)×List Nd
 | [],front,L,X=>(decide (front=[]),L,X)
 | r :: rs,front,L,X=>
  if J5 front.length r then W1 m below rs (front.take r.2.1.toNat++front.drop (r.2.1.toNat+2)) (L++[(front.getD r.2.1.toNat 0,front.getD (r.2.1.toNat+1) 0)]) X
  else if I5 front.length r then
   W1 m below rs (front.take r.2.1.toNat++K7 (2*m+4*X.length) r.2.2.1.toNat++front.drop (r.2.1.toNat+r.2.2.1.toNat)) (L++jnE front r.2.1.toNat (2*m+4*X.length) r.2.2.1.toNat) (X++[(r.2.2.2,below)])
  else (false,L,X)
def U9(L:List (Nat×Nat)):List Nat:=L.flatMap fun p=>[p.1,p.2]
def ptn(L:List (Nat×Nat))(e:Nat):Nat:=match L.find? (fun p=>p.1 == e||p.2 == e)with
 | some p=>if p.1=e then p.2 else p.1
 | none=>e
theorem mem_flt{L:List (Nat×Nat)}{e:Nat}:e∈U9 L ↔ ∃ p,p∈L∧(e=p.1∨e=p.2):=by
 unfold U9;rw[List.mem_flatMap];constructor
 ·rintro⟨p,b,a⟩;simp only[List.mem_cons,List.not_mem_nil,or_false]at a;exact⟨p,b,a⟩
 ·rintro⟨p,b,a⟩;exact⟨p,b,by simpa using a⟩
theorem Zla{L:List (Nat×Nat)}(b:(U9 L).Nodup){p:Nat×Nat}(a:p∈L):ptn L p.1=p.2∧ptn L p.2=p.1:=by
 induction L with
 | nil=>cases a
 | cons q r j=>
  have e:U9 (q :: r)=q.1 :: q.2 :: U9 r:=rfl;rw[e,List.nodup_cons,List.nodup_cons]at b;obtain⟨n1,n2,k⟩:=b;simp only[List.mem_cons,not_or]at n1;unfold ptn;rcases List.mem_cons.1 a with rfl|a
  ·refine⟨by simp,?_⟩
   rw[List.find?_cons];have:(p.1 == p.2||p.2 == p.2)=true:=by simp
   rw[this];simp only;rw[if_neg n1.1]
  ·have f:p.1≠q.1:=fun e=>n1.2 (mem_flt.2 ⟨p,a,.inl e.symm⟩)
   have g:p.1≠q.2:=fun e=>n2 (mem_flt.2 ⟨p,a,.inl e.symm⟩)
   have h:p.2≠q.1:=fun e=>n1.2 (mem_flt.2 ⟨p,a,.inr e.symm⟩)
   have i:p.2≠q.2:=fun e=>n2 (mem_flt.2 ⟨p,a,.inr e.symm⟩)
   obtain⟨c,d⟩:=j k a;unfold ptn at c d;refine⟨?_,?_⟩
   ·rw[List.find?_cons];have:(q.1 == p.1||q.2 == p.1)=false:=by simp[Ne.symm f,Ne.symm g]
    rw[this];exact c
   ·rw[List.find?_cons];have:(q.1 == p.2||q.2 == p.2)=false:=by simp[Ne.symm h,Ne.symm i]
    rw[this];exact d
theorem Z1z{L:List (Nat×Nat)}(i:(U9 L).Nodup){e:Nat}(j:e∈U9 L):ptn L e∈U9 L∧ptn L (ptn L e)=e∧ptn L e≠e:=by
 obtain⟨p,d,h⟩:=mem_flt.1 j;obtain⟨f,g⟩:=Zla i d;have c:p.1≠p.2:=fun e=>by
  have k:List.Sublist [p.1,p.2] (U9 L):=by
   obtain⟨a,b,rfl⟩:=List.append_of_mem d;unfold U9;rw[List.flatMap_append,List.flatMap_cons];exact(List.sublist_append_left _ _).trans (List.sublist_append_right _ _)
  have:=List.Nodup.sublist k i;rw[e]at this;simp at this
 rcases h with rfl|rfl
 ·rw[f,g];exact⟨mem_flt.2 ⟨p,d,.inr rfl⟩,rfl,c.symm⟩
 ·rw[g,f];exact⟨mem_flt.2 ⟨p,d,.inl rfl⟩,rfl,c⟩
def OpE(m:Nat)(front oth:List Nat)(L:List (Nat×Nat))(X:List Nd):Prop:=(front++oth++U9 L).Perm (List.range (2*m+4*X.length))
theorem Zqk(L M:List (Nat×Nat)):U9 (L++M)=U9 L++U9 M:=List.flatMap_append
theorem Z03{b:List Nat}{a e n:Nat}(g:a+n≤b.length):(U9 (jnE b a e n)).Perm ((b.drop a).take n++(List.range n).map fun k=>e+(4 - k) % 4):=by
 induction n with
 | zero=>exact List.Perm.refl _
 | succ n c=>
  have c:=c (by omega)
  have d:jnE b a e (n+1)=jnE b a e n++[(b.getD (a+n) 0,e+(4 - n) % 4)]:=by
   unfold jnE;rw[List.range_succ,List.map_append];rfl
  have f:(b.drop a).take (n+1)=(b.drop a).take n++[b.getD (a+n) 0]:=by
   rw[List.take_add_one,List.getElem?_drop,List.getD,gE (by omega)]
   rfl
  rw[d,Zqk,f,List.range_succ,List.map_append];rw[List.perm_iff_count]at c ⊢;intro z;have:=c z;simp only[U9,List.flatMap_cons,List.flatMap_nil,List.count_append,List.count_cons,List.count_nil,List.map_cons,List.map_nil,List.append_nil]at this ⊢;omega
theorem Zu4(e n:Nat)(b:1≤n)(c:n≤4):(K7 e n++(List.range n).map fun k=>e+(4 - k) % 4).Perm [e,e+1,e+2,e+3]:=by
 have:n=1∨n=2∨n=3∨n=4:=by omega
 rcases this with rfl|rfl|rfl|rfl
 ·show [e+1,e+2,e+3,e+0].Perm _;rw[List.perm_iff_count]; intro a; simp only[List.count_cons,List.count_nil,Nat.add_zero]; omega
 ·show [e+1,e+2,e+0,e+3].Perm _;rw[List.perm_iff_count]; intro a; simp only[List.count_cons,List.count_nil,Nat.add_zero]; omega
 ·show [e+1,e+0,e+3,e+2].Perm _;rw[List.perm_iff_count]; intro a; simp only[List.count_cons,List.count_nil,Nat.add_zero]; omega
 ·show [e+0,e+3,e+2,e+1].Perm _;rw[List.perm_iff_count]; intro a; simp only[List.count_cons,List.count_nil,Nat.add_zero]; omega
theorem Z3h(k:Nat):(List.range (k+4)).Perm (List.range k++[k,k+1,k+2,k+3]):=by
 rw[List.range_succ,List.range_succ,List.range_succ,List.range_succ];simp
theorem OpE.cap{m:Nat}{b oth:List Nat}{L:List (Nat×Nat)}{X:List Nd}(h:OpE m b oth L X){i:Nat}(hi:i+1<b.length):OpE m (b.take i++b.drop (i+2)) oth (L++[(b.getD i 0,b.getD (i+1) 0)]) X:=by
 unfold OpE at *;refine List.Perm.trans ?_ h
 conv=>rhs; rw[Zvd hi]
 rw[Zqk,List.perm_iff_count];intro a;simp only[U9,List.flatMap_cons,List.flatMap_nil,List.count_append,List.count_cons,List.count_nil,List.append_nil];omega
theorem OpE.cross{m:Nat}{b oth:List Nat}{L:List (Nat×Nat)}{X:List Nd}(h:OpE m b oth L X){a n:Nat}(f:1≤n)(g:n≤4)(i:a+n≤b.length)(x:Nd) :
 OpE m (b.take a++K7 (2*m+4*X.length) n++b.drop (a+n)) oth (L++jnE b a (2*m+4*X.length) n) (X++[x]):=by
 unfold OpE at *;have e:2*m+4*(X++[x]).length=2*m+4*X.length+4:=by simp; omega
 rw[e];refine List.Perm.trans ?_ (Z3h _).symm;refine List.Perm.trans ?_ (h.append_right _);have c:=Zu4 (2*m+4*X.length) n f g;have d:=Z03 (e:=2*m+4*X.length) i;rw[Zqk];rw[List.perm_iff_count]at c d ⊢;intro z;have c:=c z;have d:=d z;have j:List.count z b=List.count z (b.take a)+(List.count z ((b.drop a).take n)+List.count z (b.drop (a+n))):=by
  conv=>lhs; rw[Zx4 (l:=b) (a:=a) (n:=n)]
  simp only[List.count_append];omega
 simp only[List.count_append]at c d ⊢;omega
theorem Zgq{m:Nat}{below:Bool}{oth:List Nat}:∀ (f:List Ro) (a:List Nat) (L:List (Nat×Nat)) (X:List Nd) (b:List (Nat×Nat)) (c:List Nd),OpE m a oth L X→W1 m below f a L X=(true,b,c) →
 OpE m [] oth b c∧(∃ M,b=L++M) ∧ ∃ Y,c=X++Y ∧ ∀ y,y∈Y→y.2=below
 | [],a,L,X,b,c,e,h=>by
  simp only[W1,pI2,decide_eq_true_eq]at h;obtain⟨rfl,rfl,rfl⟩:=h;exact⟨e,⟨[],by simp⟩,[],by simp,fun y d=>by cases d⟩
 | r :: f,a,L,X,b,c,e,h=>by
  simp only[W1]at h;split at h
  ·rename_i k;obtain⟨_,o,p,_,_⟩:=k;obtain⟨g,⟨M,i⟩,j⟩:=Zgq f _ _ _ _ _ (e.cap (by omega)) h
   exact⟨g,⟨_ :: M,by rw[i]; simp; rfl⟩,j⟩
  ·split at h
   ·rename_i k;obtain⟨_,o,p,c4,q⟩:=k;obtain⟨g,⟨M,i⟩,Y,j,l⟩:=Zgq f _ _ _ _ _ (e.cross (n:=r.2.2.1.toNat) (by omega) (by omega) (by omega) _) h
    refine⟨g,⟨jnE a r.2.1.toNat (2*m+4*X.length) r.2.2.1.toNat++M,by rw[i,List.append_assoc]⟩,_ :: Y,by rw[j]; simp; rfl,fun y d=>?_⟩
    rcases List.mem_cons.1 d with rfl|d
    ·rfl
    ·exact l y d
   ·cases h
end Go.Known
end
section
namespace Go.AE
open Go.RowKit
def Zot:AVal→Bool
 | .int _ _=>true
 | _=>false
variable {P:Program}
theorem BR.num{Φ a:Pers}{ρ ρ':Rho}{k:Nat}{rows:List (List AVal)}{l:Loc}{o:Obj}(q:(rows.all fun row=>row.all Zot)=true)(h:BR Φ ρ (.cells k rows) l o):BR a ρ' (.cells k rows) l o:=by
 cases h with
 | cells _ _ _ c e m p n d f=>
  refine .cells k rows l c e m p n ⟨d.1,fun i row j x hi b=>?_⟩ f
  obtain⟨v,r,s,t⟩:=d.2 i row j x hi b;refine⟨v,r,s,?_⟩;have g:=List.all_eq_true.1 (List.all_eq_true.1 q row (List.mem_of_getElem? hi)) x (List.mem_of_getElem? b);cases x<;>first|(cases g; done)|skip
  cases t;exact .int _ _
theorem Zhw{g:FuncId}{args0 args:List AVal}{m:SMem}{len nx n L:Nat}{rows:List (List AVal)}{x:List Nat}{K:AVal→Option ABlk→Prop}(S:List Nat)(ha:args.map (fzV (B7 m.get x) S)=args0)(ad:X4 args0=true)
 (hs:(rows.all fun row=>row.all Zot)=true) (h:Ctr P g args0 ⟨[],1⟩ fun r sm=>r=.sl 1 0 len∧sm=⟨[(1,.cells L rows)],nx⟩) (hK:K (.sl n 0 len) (some (.cells L rows))):DC P g args n x m K:=by
 refine⟨_,some (.cells L rows),?_,hK⟩;show ACalls P g args (m.mem.less x) [n] fun r m'=>r=.sl n 0 len∧m'=(m.mem.less x).set n (.cells L rows)
 have eG:(m.mem.less x).get=B7 m.get x:=by
  funext c
  unfold B7;show(if c∈x then none else m.get c)=_
  by_cases J:c∈x
  ·rw[if_pos J,memN_iff.2 J]; rfl
  ·rw[if_neg J];cases af:Y8 c x with
   | false=>rfl
   | true=>exact absurd (memN_iff.1 af) J
 refine⟨h.1,fun W Φ ρ vs w C s ac=>?_⟩
 obtain⟨X,ah⟩:=ac n (List.mem_singleton.2 rfl);obtain⟨Φs,f0,f1,f2,f3,f4⟩:=Zht S C;rw[eG]at f4;have ab:RL Φs ρ args0 vs:=by
  refine⟨by rw[s.1,← ha,List.length_map],fun i x v I hv=>?_⟩
  rw[← ha,List.getElem?_map]at I;cases p:args[i]? with
  | none=>rw[p]at I; cases I
  | some y=>
   rw[p]at I;injection I with I
   subst I;exact f4 _ _ (s.2 i y v p hv)
 refine(h.2 ⟨w,fun _=>none,Φs⟩ Φs (fun _=>none) vs w ⟨⟨Below.refl _ _,fun B o hB=>(by cases hB)⟩,f1,fun b y p=>(by cases p),fun b b' y y' l l' h1=>(by cases h1),fun b l A=>(by cases A),fun B c hB=>.inl hB⟩
  (ab.closed ad) (fun b hb=>by simp at hb)).mono fun e w' Q=>?_
 obtain⟨u,r,m1,ai,d,e1,hE,hk,H,hR,hn,sm,rfl,rfl,rfl⟩:=Q;obtain⟨l1,o1,p1,Z,p3,p4,p5⟩:=H.live 1 (.cells L rows) rfl;have Y:=C.below H.base.below;have E:∀ b l,ρ b=some l→(if b=n then d 1 else ρ b)=some l:=fun b l A=>by
  rw[if_neg]
  ·exact A
  ·rintro rfl; rw[X]at A; cases A
 have N:Ext Φ ρ Φ (fun b=>if b=n then d 1 else ρ b):=⟨fun _ _ h=>h,E⟩
 have t:∀ b y,(m.mem.less x).get b=some y→b≠n ∧ ∃ l o,ρ b=some l∧W.Free l.blk∧Φ l.blk=none∧w'.heap[l.blk]? = some o∧l.blk<w.heap.size∧BR Φ ρ y l o:=by
  intro b y p;obtain⟨l,o,D,F,g3,g4,g5⟩:=C.live b y p;have V:=D5 g4;refine⟨(fun e=>by rw[e,X]at D; cases D),l,o,D,F,g3,?_,V,g5⟩
  rw[H.base.below.block _ V]; exact g4
 refine⟨u,.sl n 0 len,(m.mem.less x).set n (.cells L rows),Φ,fun b=>if b=n then d 1 else ρ b,e1,N,fun b hb k h0=>?_,⟨Y.base,Y.pers,fun b y p=>?_,fun b b' y y' l l' D F g3 g4 Q=>?_,fun b l A=>?_,C.newp⟩,?_,Nat.le_refl _,rfl,rfl⟩
 ·show(if b=n then d 1 else ρ b)=none
  rw[if_neg (fun e=>k (by rw[e]; exact List.mem_singleton.2 rfl))]
  exact h0
 ·simp only[Mem.get_set]at p;by_cases G:b=n
  ·rw[if_pos G]at p;injection p with p
   subst p;refine⟨l1,o1,by show(if b=n then d 1 else ρ b)=some l1; rw[if_pos G]; exact p1,⟨Nat.le_trans C.base.below.size Z.1,?_⟩,?_,p4,p5.num hs⟩
   ·cases hg:W.g l1.blk with
    | none=>rfl
    | some o=>exact absurd (D5 (C.base.prot _ _ hg)) (Nat.not_lt.2 Z.1)
   ·cases hp:Φ l1.blk with
    | none=>rfl
    | some c=>
     obtain⟨e,fz,hb⟩:=C.pers _ _ hp;exact absurd (D5 hb) (Nat.not_lt.2 Z.1)
  ·rw[if_neg G]at p;obtain⟨_,l,o,z,q2,q3,q4,M,q6⟩:=t b y p;exact⟨l,o,E _ _ z,q2,q3,q4,q6.ext N⟩
 ·have j:(if b=n then d 1 else ρ b)=some l:=g3
  have f:(if b'=n then d 1 else ρ b')=some l':=g4
  simp only[Mem.get_set]at D F;by_cases q:b=n
  ·by_cases k:b'=n
   ·rw[q,k]
   ·rw[if_neg k]at F f;rw[if_pos q,p1]at j;injection j with j
    obtain⟨_,l0,o,z,q2,q3,q4,M,q6⟩:=t b' y' F;rw[f]at z; injection z with z
    rw[← z,← Q,← j]at M;exact absurd M (Nat.not_lt.2 Z.1)
  ·rw[if_neg q]at D j;obtain⟨_,l0,o,z,q2,q3,q4,M,q6⟩:=t b y D;rw[j]at z; injection z with z
   by_cases k:b'=n
   ·rw[if_pos k,p1]at f;injection f with f
    rw[← z,Q,← f]at M;exact absurd M (Nat.not_lt.2 Z.1)
   ·rw[if_neg k]at F f;exact C.inj b b' y y' l l' D F j f Q
 ·have U:(if b=n then d 1 else ρ b)=some l:=A
  show b<m.next;by_cases q:b=n
  ·rw[q]; exact ah
  ·rw[if_neg q]at U;exact C.fresh b l U
 ·have aa:R ai d (.sl 1 0 len) u:=hR;cases aa with
  | sl _ _ _ a cap l A ae ag J O=>
   have:(if n=n then d 1 else ρ n)=some l:=by rw[if_pos rfl]; exact A
   exact .sl n 0 len a cap l this ae ag J O
end Go.AE
end
section
namespace Go.Known
open Go Go.AE Go.Proofs
open Go.Plain
theorem Zsw:PCall Tryz.prog 8 [] (.bool true):=mo33
end Go.Known
end
