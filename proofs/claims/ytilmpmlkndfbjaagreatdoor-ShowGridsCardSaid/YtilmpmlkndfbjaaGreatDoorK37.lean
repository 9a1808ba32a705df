/- Part 37 of the proof: Eh, Ej. -/
import Derived.Test.YtilmpmlkndfbjaaGreatDoorK30
import Derived.Test.YtilmpmlkndfbjaaGreatDoorK32
import Derived.Test.YtilmpmlkndfbjaaGreatDoorK36
set_option linter.all false
section
namespace Go.Ab
open Go Go.AE Go.Proofs
open Go.Plain
set_option maxRecDepth 100000 in
set_option maxHeartbeats 4000000 in
theorem UK(rows:List (List Aa))(hn:rows≠[])(hl:rows.length≤100000)(h6:(rows.all fun x=>x.length == 1)=true)(hc:V3 rows=true) :
 Cc Tryz.prog 54 [.An rows] ⟨[],1⟩ fun v m=>v=.sl 1 0 rows.length∧m=⟨[(1,.cells 1 rows)],2⟩:=by
 refine Ih hm Tryz.func54 Pr rfl rfl fun K hK=>?_
 have hr:∀ q,Z3 q rows=rows:=fun q=>X7 q _ hc
 have hK':=hK _ _ ⟨rfl,rfl⟩;clear hK;have hb:rows.length≤1048576:=by omega
 have he:X4 .eql .slice (.An rows) .Ai=some (.bool false):=by
  have:rows.isEmpty=false:=by cases rows with
   | nil=>exact absurd rfl hn
   | cons=>rfl
  simp[X4,FG,Lv,H2,this]
 simp[he,ZF,h6,hn,hb,Z8,Aa.cells];exact Z6 hK' [(1,6)] (by simp[hr])
set_option maxRecDepth 100000 in
theorem HQ:Cc Tryz.prog 54 [.sl 1 0 0] ⟨[],2⟩ fun r sm=>r=.sl 2 0 0∧sm=⟨[(2,.cells 1 [])],3⟩:=by
 refine Ih hm Tryz.func54 Pr rfl rfl fun K hK=>?_
 have hK':=hK (.sl 2 0 0) ⟨[(2,.cells 1 [])],3⟩ ⟨rfl,rfl⟩;clear hK;simp[X4,FG,Lv,H2,Q7,Z8];exact Z6 hK' [(2,5)] (by simp)
def BK(n:Nat)(L:List (Nat×Nat)):List Int:=L.foldl (fun J p=>N1 J p.1 p.2) (List.replicate n (-1))
theorem Zi(J:List Int)(a b:Nat):(N1 J a b).length=J.length:=by simp[N1]
theorem Yc:∀ (L:List (Nat×Nat)) (J:List Int),(L.foldl (fun J p=>N1 J p.1 p.2) J).length=J.length
 | [],_=>rfl
 | p :: L,J=>by rw[List.foldl_cons,Yc L,Zi]
theorem MZ(n:Nat)(L:List (Nat×Nat)):(BK n L).length=n:=by rw[BK,Yc,List.length_replicate]
theorem nA(n:Nat)(L:List (Nat×Nat))(a b:Nat):BK n (L++[(a,b)])=N1 (BK n L) a b:=by rw[BK,List.foldl_append]; rfl
theorem qL:∀ (L:List (Nat×Nat)) (J:List Int) (z:List Int),(∀ p,p∈L→p.1<J.length∧p.2<J.length)→L.foldl (fun J p=>N1 J p.1 p.2) (J++z)=L.foldl (fun J p=>N1 J p.1 p.2) J++z
 | [],_,_,_=>rfl
 | p :: L,J,z,h=>by
  obtain⟨h1,h2⟩:=h p (List.mem_cons_self ..);have e:N1 (J++z) p.1 p.2=N1 J p.1 p.2++z:=by
   unfold N1;rw[List.set_append_left _ _ h1,List.set_append_left _ _ (by rw[List.length_set]; exact h2)]
  rw[List.foldl_cons,List.foldl_cons,e,qL L _ z fun q hq=>by rw[Zi]; exact h q (List.mem_cons_of_mem _ hq)]
theorem wu{n:Nat}{L:List (Nat×Nat)}(k:Nat)(h:∀ p,p∈L→p.1<n∧p.2<n):BK (n+k) L=BK n L++List.replicate k (-1):=by
 unfold BK;rw[← List.replicate_append_replicate,qL L _ _ (by simpa using h)]
def xJ(m:Nat)(X:List Nd):List (Int×Nd):=X.zipIdx.map fun p=>(((2*m+4*p.2:Nat):Int),p.1)
theorem Xh(m:Nat)(X:List Nd):(xJ m X).length=X.length:=by simp[xJ]
theorem yh(m:Nat)(X:List Nd)(x:Nd):xJ m (X++[x])=xJ m X++[(((2*m+4*X.length:Nat):Int),x)]:=by
 unfold xJ;rw[List.zipIdx_append];simp
def BN(r:Ro):List Aa:=[.int .i64 r.1,.int .i64 r.2.1,.int .i64 r.2.2.1,.bool r.2.2.2]
theorem MH:∀ (l:List Ro),V3 (l.map BN)=true
 | []=>rfl
 | r :: l=>by
  have:=MH l;simp only[List.map_cons,V3,BN,W9,Aa.closed,Bool.and_true,Bool.true_and]at this ⊢;exact this
theorem CU.lt{m:Nat}{front CX:List Nat}{L:List (Nat×Nat)}{X:List Nd}(h:CU m front CX L X):(∀ e,e∈front→e<2*m+4*X.length)∧(∀ p,p∈L→p.1<2*m+4*X.length∧p.2<2*m+4*X.length)∧front.length≤2*m+4*X.length:=by
 have hm:∀ e,e∈front++CX++U1 L→e<2*m+4*X.length:=fun e he=>mR.1 (h.mem_iff.1 he)
 refine⟨fun e he=>hm e (by simp[he]),fun p hp=>⟨hm _ ?_,hm _ ?_⟩,?_⟩
 ·exact List.mem_append_right _ (Bi.2 ⟨p,hp,.inl rfl⟩)
 ·exact List.mem_append_right _ (Bi.2 ⟨p,hp,.inr rfl⟩)
 ·have:=h.length_eq;simp only[lA,List.length_range]at this;omega
end Go.Ab
end
section
namespace Go.Ab
open Go.Plain
def Bh(m a:Nat):Nat:=(a - 2*m) / 4
def CG(m a:Nat):Nat:=(a - 2*m) % 4
def U4(m:Nat)(L:List (Nat×Nat)):Nat→Nat→List (Nat×Nat)
 | 0,_=>[]
 | t+1,x=>if ¬Al m L t<2*m∧Bh m (Al m L t)=x then U4 m L t x++[(t,CG m (Al m L t))]else U4 m L t x
def DS(m:Nat)(L:List (Nat×Nat)):Nat→List Nat
 | 0=>[]
 | t+1=>if Al m L t<2*m∨Bh m (Al m L t)∈DS m L t then DS m L t else DS m L t++[Bh m (Al m L t)]
theorem Le{m:Nat}{L:List (Nat×Nat)}{x s q:Nat}:∀ t,(s,q)∈U4 m L t x↔s<t ∧ ¬Al m L s<2*m∧Bh m (Al m L s)=x∧q=CG m (Al m L s)
 | 0=>by simp[U4]
 | t+1=>by
  have ih:=Le (m:=m) (L:=L) (x:=x) (s:=s) (q:=q) t;unfold U4
  grind
theorem nM{m:Nat}{L:List (Nat×Nat)}{x:Nat}:∀ t,(U4 m L t x).Pairwise fun a b=>a.1<b.1
 | 0=>List.Pairwise.nil
 | t+1=>by
  have ih:=nM (m:=m) (L:=L) (x:=x) t;unfold U4;split
  ·rw[List.pairwise_append];refine⟨ih,by simp,fun a ha b hb=>?_⟩
   rw[List.mem_singleton]at hb;subst hb;exact((Le (s:=a.1) (q:=a.2) t).1 ha).1
  ·exact ih
section
variable {m:Nat} {X:List Nd} {L:List (Nat×Nat)} (h:Gt m X L) (hw:EF m X L)
include h hw
theorem lT{s t:Nat}(hs:s<m+2*X.length)(ht:t<m+2*X.length)(e:EK m (Al m L s)=EK m (Al m L t)):s=t:=by
 rcases Vw e with e|e
 ·exact Ra h hw hs ht e
 ·exact absurd e (OO h)
theorem lJ{x:Nat}(hx:x<X.length):∃ s t p q,s<t∧t<m+2*X.length∧U4 m L (m+2*X.length) x=[(s,p),(t,q)]∧Al m L s=2*m+4*x+p∧Al m L t=2*m+4*x+q∧p<4∧q<4∧p % 2≠q % 2:=by
 obtain⟨a,ha,ea⟩:=VK h hw (e:=2*m+4*x) (Dt.2 (.inr ⟨x,hx,.inl rfl⟩));obtain⟨b,hb,eb⟩:=VK h hw (e:=2*m+4*x+1) (Dt.2 (.inr ⟨x,hx,.inr rfl⟩));have key:∀ s,s<m+2*X.length → ¬Al m L s<2*m→Bh m (Al m L s)=x→s=a∨s=b:=fun s hs h1 h2=>by
  have:EK m (Al m L s)=2*m+4*x∨EK m (Al m L s)=2*m+4*x+1:=by
   unfold EK;unfold Bh at h2
   grind
  rcases this with e|e
  ·exact .inl (lT h hw hs ha (e.trans ea.symm))
  ·exact .inr (lT h hw hs hb (e.trans eb.symm))
 have hab:a≠b:=fun e=>by subst e; omega
 have end_of:∀ s r,EK m (Al m L s)=2*m+4*x+r→r<2 → ¬Al m L s<2*m∧Bh m (Al m L s)=x∧CG m (Al m L s) % 2=r∧Al m L s=2*m+4*x+CG m (Al m L s):=fun s r e hr=>by
  unfold EK at e;unfold Bh CG
  grind
 obtain⟨a1,a2,a3,a4⟩:=end_of a 0 ea (by omega)
 obtain⟨b1,b2,b3,b4⟩:=end_of b 1 eb (by omega)
 have hq4:∀ s,CG m (Al m L s)<4:=fun s=>Nat.mod_lt _ (by omega)
 have ma:=(Le (m:=m) (L:=L) (x:=x) (s:=a) (q:=CG m (Al m L a)) (m+2*X.length)).2 ⟨ha,a1,a2,rfl⟩;have mb:=(Le (m:=m) (L:=L) (x:=x) (s:=b) (q:=CG m (Al m L b)) (m+2*X.length)).2 ⟨hb,b1,b2,rfl⟩;have hall:∀ p,p∈U4 m L (m+2*X.length) x→p=(a,CG m (Al m L a))∨p=(b,CG m (Al m L b)):=fun p hp=>by
  obtain⟨s,q⟩:=p;obtain⟨g1,g2,g3,rfl⟩:=(Le _).1 hp
  grind
 have hsrt:=nM (m:=m) (L:=L) (x:=x) (m+2*X.length);generalize U4 m L (m+2*X.length) x=V at *;have hV:∀ (u v:Nat×Nat),u.1<v.1→u∈V→v∈V→(∀ p,p∈V→p=u∨p=v)→V=[u,v]:=fun u v huv hu hv hp=>by
  match V,hsrt,hu,hv,hp with
  | [],_,hu,_,_=>cases hu
  | [c],_,hu,hv,_=>
   grind
  | c :: d :: r,hsrt,hu,hv,hp=>
   rw[List.pairwise_cons,List.pairwise_cons]at hsrt;obtain⟨s1,s2,_⟩:=hsrt;have hcd:=s1 d (List.mem_cons_self ..);have ec:c=u:=by
    rcases hp c (List.mem_cons_self ..)with e|e
    ·exact e
    grind
   have ed:d=v:=by
    grind
   have er:r=[]:=by
    cases r with
    | nil=>rfl
    | cons z r=>
     grind
   rw[ec,ed,er]
 rcases Nat.lt_or_gt_of_ne hab with hlt|hlt
 ·exact⟨a,b,_,_,hlt,hb,hV _ _ hlt ma mb hall,a4,b4,hq4 a,hq4 b,by omega⟩
 ·exact⟨b,a,_,_,hlt,ha,hV _ _ hlt mb ma fun p hp=>(hall p hp).symm,b4,a4,hq4 b,hq4 a,by omega⟩
def Vp(d:Bool)(p q:Nat):Nat:=if (decide (p % 2=0) != d)=true then q else p
def Vt(d:Bool)(p q:Nat):Nat:=if (decide (p % 2=0) != d)=true then p else q
theorem mW{x s t p q:Nat}(hx:x<X.length)(hV:U4 m L (m+2*X.length) x=[(s,p),(t,q)]) :
 s<t∧t<m+2*X.length∧p<4∧q<4∧p % 2≠q % 2∧(p % 2=0→Gf m (CR m X L) x=p∧Gg m (CR m X L) x=q)∧(p % 2=1→Gf m (CR m X L) x=q∧Gg m (CR m X L) x=p):=by
 obtain⟨s',t',p',q',h1,h2,h3,h4,h5,h6,h7,h8⟩:=lJ h hw hx;rw[hV]at h3;simp only[List.cons.injEq,AP,and_true]at h3;obtain⟨⟨rfl,rfl⟩,rfl,rfl⟩:=h3;obtain⟨a1,a2⟩:=MX h hw (by omega) h6 h4
 obtain⟨b1,b2⟩:=MX h hw h2 h7 h5
 grind
theorem Z5b{x s t p q:Nat}(hx:x<X.length)(hV:U4 m L (m+2*X.length) x=[(s,p),(t,q)])(d:Bool) :
 FA (Gf m (CR m X L) x) (Gg m (CR m X L) x) d=if Vt d p q=(Vp d p q+3) % 4 then 1 else -1:=by
 obtain⟨h1,h2,h3,h4,h5,h6,h7⟩:=mW h hw hx hV;have hp:p=0∨p=1∨p=2∨p=3:=by omega
 have hq:q=0∨q=1∨q=2∨q=3:=by omega
 rcases Nat.mod_two_eq_zero_or_one p with e|e
 ·obtain⟨k1,k2⟩:=h6 e;rw[k1,k2];rcases hp with rfl|rfl|rfl|rfl<;>rcases hq with rfl|rfl|rfl|rfl<;>first|omega|(cases d<;>rfl)
 ·obtain⟨k1,k2⟩:=h7 e;rw[k1,k2];rcases hp with rfl|rfl|rfl|rfl<;>rcases hq with rfl|rfl|rfl|rfl<;>first|omega|(cases d<;>rfl)
omit h hw in
theorem bH{x:Int}:∀ {met:List Int},Y9 x met=0↔x∉met
 | []=>by simp[Y9]
 | z :: r=>by
  have ih:=bH (x:=x) (met:=r);simp only[Y9,mC,not_or]
  grind
theorem tW{gs:List Nat}(Bd:(Ar 0 gs).length=m):∀ t,t≤m+2*X.length→W8 (Y3 m (Ar 0 gs) X L) t=(DS m L t).map fun x=>((x+1:Nat):Int)
 | 0,_=>rfl
 | t+1,ht=>by
  have ih:=tW Bd t (by omega)
  have hl:=HA h hw Bd;rw[Rn (by rw[hl]; omega),ih,QU h hw Bd (by omega)]
  have e1:DS m L (t+1)=if Al m L t<2*m∨Bh m (Al m L t)∈DS m L t then DS m L t else DS m L t++[Bh m (Al m L t)]:=rfl
  rw[e1];unfold P9 Ez;by_cases h1:Al m L t<2*m
  ·rw[iP h1,iN (fun e=>by have:=e.1; simp[AG]at this),iP (.inl h1)]
  ·rw[iN h1];have hm:Y9 (((Bh m (Al m L t)+1:Nat):Nat):Int) ((DS m L t).map fun x=>((x+1:Nat):Int))=0↔Bh m (Al m L t)∉DS m L t:=by
    rw[bH]
    grind
   by_cases h2:Bh m (Al m L t)∈DS m L t
   ·rw[iN (fun e=>(hm.1 e.2) h2),iP (.inr h2)]
   ·rw[iP ⟨rfl,hm.2 h2⟩,iN (fun e=>e.elim h1 h2),List.map_append]
    rfl
end
end Go.Ab
end
