/- Part 42 of the proof: Eh, Ej. -/
import Derived.Test.YtilmpmlkndfbjaaGreatDoorR25
import Derived.Test.YtilmpmlkndfbjaaGreatDoorR34
import Derived.Test.YtilmpmlkndfbjaaGreatDoorR36
import Derived.Test.YtilmpmlkndfbjaaGreatDoorR41
set_option linter.all false
section
namespace Go.Known
open Go Go.AE Go.Proofs
open Go.Plain
set_option maxRecDepth 100000 in
set_option maxHeartbeats 4000000 in
theorem c77s(rows:List (List AVal))(c:rows≠[])(j:rows.length≤100000)(d:(rows.all fun x=>x.length == 1)=true)(g:W5 rows=true) :
 Ctr Tryz.prog 54 [.imm rows] ⟨[],1⟩ fun v m=>v=.sl 1 0 rows.length∧m=⟨[(1,.cells 1 rows)],2⟩:=by
 refine Zc0 hm Tryz.func54 cf77 rfl rfl fun K b=>?_
 have i:∀ q,Z6 q rows=rows:=fun q=>X6 q _ g
 have a:=b _ _ ⟨rfl,rfl⟩;clear b;have e:rows.length≤1048576:=by omega
 have h:W7 .eql .slice (.imm rows) .nilSl=some (.bool false):=by
  have:rows.isEmpty=false:=by cases rows with
   | nil=>exact absurd rfl c
   | cons=>rfl
  simp[W7,eqA,Zei,G5,this]
 simp[h,Zpm,d,c,e,X5,AVal.cells];exact Z9 a [(1,6)] (by simp[i])
set_option maxRecDepth 100000 in
theorem c77o:Ctr Tryz.prog 54 [.sl 1 0 0] ⟨[],2⟩ fun r c=>r=.sl 2 0 0∧c=⟨[(2,.cells 1 [])],3⟩:=by
 refine Zc0 hm Tryz.func54 cf77 rfl rfl fun K b=>?_
 have a:=b (.sl 2 0 0) ⟨[(2,.cells 1 [])],3⟩ ⟨rfl,rfl⟩;clear b;simp[W7,eqA,Zei,G5,P1,X5];exact Z9 a [(2,5)] (by simp)
def jnA(n:Nat)(L:List (Nat×Nat)):List Int:=L.foldl (fun J p=>M7 J p.1 p.2) (List.replicate n (-1))
theorem Zqu(J:List Int)(a b:Nat):(M7 J a b).length=J.length:=by simp[M7]
theorem Zpi:∀ (L:List (Nat×Nat)) (J:List Int),(L.foldl (fun J p=>M7 J p.1 p.2) J).length=J.length
 | [],_=>rfl
 | p :: L,J=>by rw[List.foldl_cons,Zpi L,Zqu]
theorem Zfp(n:Nat)(L:List (Nat×Nat)):(jnA n L).length=n:=by rw[jnA,Zpi,List.length_replicate]
theorem Zze(n:Nat)(L:List (Nat×Nat))(a b:Nat):jnA n (L++[(a,b)])=M7 (jnA n L) a b:=by rw[jnA,List.foldl_append]; rfl
theorem Zun:∀ (L:List (Nat×Nat)) (J:List Int) (z:List Int),(∀ p,p∈L→p.1<J.length∧p.2<J.length)→L.foldl (fun J p=>M7 J p.1 p.2) (J++z)=L.foldl (fun J p=>M7 J p.1 p.2) J++z
 | [],_,_,_=>rfl
 | p :: L,J,z,h=>by
  obtain⟨a,b⟩:=h p (List.mem_cons_self ..);have e:M7 (J++z) p.1 p.2=M7 J p.1 p.2++z:=by
   unfold M7;rw[List.set_append_left _ _ a,List.set_append_left _ _ (by rw[List.length_set]; exact b)]
  rw[List.foldl_cons,List.foldl_cons,e,Zun L _ z fun q c=>by rw[Zqu]; exact h q (List.mem_cons_of_mem _ c)]
theorem Z1m{n:Nat}{L:List (Nat×Nat)}(k:Nat)(h:∀ p,p∈L→p.1<n∧p.2<n):jnA (n+k) L=jnA n L++List.replicate k (-1):=by
 unfold jnA;rw[← List.replicate_append_replicate,Zun L _ _ (by simpa using h)]
def xJ(m:Nat)(X:List Nd):List (Int×Nd):=X.zipIdx.map fun p=>(((2*m+4*p.2:Nat):Int),p.1)
theorem Zmj(m:Nat)(X:List Nd):(xJ m X).length=X.length:=by simp[xJ]
theorem Z19(m:Nat)(X:List Nd)(x:Nd):xJ m (X++[x])=xJ m X++[(((2*m+4*X.length:Nat):Int),x)]:=by
 unfold xJ;rw[List.zipIdx_append];simp
def roR(r:Ro):List AVal:=[.int .i64 r.1,.int .i64 r.2.1,.int .i64 r.2.2.1,.bool r.2.2.2]
theorem Zf0:∀ (l:List Ro),W5 (l.map roR)=true
 | []=>rfl
 | r :: l=>by
  have:=Zf0 l;simp only[List.map_cons,W5,roR,X4,AVal.closed,Bool.and_true,Bool.true_and]at this ⊢;exact this
theorem OpE.lt{m:Nat}{a oth:List Nat}{L:List (Nat×Nat)}{X:List Nd}(h:OpE m a oth L X):(∀ e,e∈a→e<2*m+4*X.length)∧(∀ p,p∈L→p.1<2*m+4*X.length∧p.2<2*m+4*X.length)∧a.length≤2*m+4*X.length:=by
 have hm:∀ e,e∈a++oth++U9 L→e<2*m+4*X.length:=fun e b=>List.mem_range.1 (h.mem_iff.1 b)
 refine⟨fun e b=>hm e (by simp[b]),fun p c=>⟨hm _ ?_,hm _ ?_⟩,?_⟩
 ·exact List.mem_append_right _ (mem_flt.2 ⟨p,c,.inl rfl⟩)
 ·exact List.mem_append_right _ (mem_flt.2 ⟨p,c,.inr rfl⟩)
 ·have:=h.length_eq;simp only[List.length_append,List.length_range]at this;omega
end Go.Known
end
section
namespace Go.Known
open Go.Plain
def xoE(m a:Nat):Nat:=(a - 2*m) / 4
def qoE(m a:Nat):Nat:=(a - 2*m) % 4
def T1(m:Nat)(L:List (Nat×Nat)):Nat→Nat→List (Nat×Nat)
 | 0,_=>[]
 | t+1,x=>if ¬arE m L t<2*m∧xoE m (arE m L t)=x then T1 m L t x++[(t,qoE m (arE m L t))]else T1 m L t x
def nmE(m:Nat)(L:List (Nat×Nat)):Nat→List Nat
 | 0=>[]
 | t+1=>if arE m L t<2*m∨xoE m (arE m L t)∈nmE m L t then nmE m L t else nmE m L t++[xoE m (arE m L t)]
theorem Zd4{m:Nat}{L:List (Nat×Nat)}{x s q:Nat}:∀ t,(s,q)∈T1 m L t x↔s<t ∧ ¬arE m L s<2*m∧xoE m (arE m L s)=x∧q=qoE m (arE m L s)
 | 0=>by simp[T1]
 | t+1=>by
  have f:=Zd4 (m:=m) (L:=L) (x:=x) (s:=s) (q:=q) t;unfold T1;split
  ·rename_i h;rw[List.mem_append,f,List.mem_singleton,pI2];constructor
   ·rintro(⟨d,a⟩|⟨rfl,rfl⟩)
    ·exact⟨by omega,a⟩
    ·exact⟨by omega,h.1,h.2,rfl⟩
   ·rintro⟨d,a,b,c⟩;by_cases e:s=t
    ·subst e; exact .inr ⟨rfl,c⟩
    ·exact .inl ⟨by omega,a,b,c⟩
  ·rename_i h;rw[f];constructor
   ·rintro⟨d,a⟩; exact⟨by omega,a⟩
   ·rintro⟨d,a,b,c⟩;by_cases e:s=t
    ·subst e; exact absurd ⟨a,b⟩ h
    ·exact⟨by omega,a,b,c⟩
theorem Zt6{m:Nat}{L:List (Nat×Nat)}{x:Nat}:∀ t,(T1 m L t x).Pairwise fun a b=>a.1<b.1
 | 0=>List.Pairwise.nil
 | t+1=>by
  have d:=Zt6 (m:=m) (L:=L) (x:=x) t;unfold T1;split
  ·rw[List.pairwise_append];refine⟨d,by simp,fun a e b c=>?_⟩
   rw[List.mem_singleton]at c;subst c;exact((Zd4 (s:=a.1) (q:=a.2) t).1 e).1
  ·exact d
section
variable {m:Nat} {X:List Nd} {L:List (Nat×Nat)} (h:Rdg m X L) (hw:Whl m X L)
include h hw
theorem Zx1{s t:Nat}(a:s<m+2*X.length)(b:t<m+2*X.length)(e:rpE m (arE m L s)=rpE m (arE m L t)):s=t:=by
 rcases Zma e with e|e
 ·exact Zh0 h hw a b e
 ·exact absurd e (Zgi h)
theorem Zr8{x:Nat}(M:x<X.length):∃ s t p q,s<t∧t<m+2*X.length∧T1 m L (m+2*X.length) x=[(s,p),(t,q)]∧arE m L s=2*m+4*x+p∧arE m L t=2*m+4*x+q∧p<4∧q<4∧p % 2≠q % 2:=by
 obtain⟨a,y,F⟩:=Zkq h hw (e:=2*m+4*x) (mem_reps.2 (.inr ⟨x,M,.inl rfl⟩));obtain⟨b,B,G⟩:=Zkq h hw (e:=2*m+4*x+1) (mem_reps.2 (.inr ⟨x,M,.inr rfl⟩));have key:∀ s,s<m+2*X.length → ¬arE m L s<2*m→xoE m (arE m L s)=x→s=a∨s=b:=fun s K I h2=>by
  have:rpE m (arE m L s)=2*m+4*x∨rpE m (arE m L s)=2*m+4*x+1:=by
   unfold rpE;unfold xoE at h2;rw[if_neg I];omega
  rcases this with e|e
  ·exact .inl (Zx1 h hw K y (e.trans F.symm))
  ·exact .inr (Zx1 h hw K B (e.trans G.symm))
 have A:a≠b:=fun e=>by subst e; omega
 have f:∀ s r,rpE m (arE m L s)=2*m+4*x+r→r<2 → ¬arE m L s<2*m∧xoE m (arE m L s)=x∧qoE m (arE m L s) % 2=r∧arE m L s=2*m+4*x+qoE m (arE m L s):=fun s r e hr=>by
  unfold rpE at e;unfold xoE qoE;split at e
  ·omega
  ·refine⟨by assumption,by omega,by omega,by omega⟩
 obtain⟨P,Q,a3,C⟩:=f a 0 F (by omega)
 obtain⟨S,U,b3,D⟩:=f b 1 G (by omega)
 have k:∀ s,qoE m (arE m L s)<4:=fun s=>Nat.mod_lt _ (by omega)
 have N:=(Zd4 (m:=m) (L:=L) (x:=x) (s:=a) (q:=qoE m (arE m L a)) (m+2*X.length)).2 ⟨y,P,Q,rfl⟩;have O:=(Zd4 (m:=m) (L:=L) (x:=x) (s:=b) (q:=qoE m (arE m L b)) (m+2*X.length)).2 ⟨B,S,U,rfl⟩;have l:∀ p,p∈T1 m L (m+2*X.length) x→p=(a,qoE m (arE m L a))∨p=(b,qoE m (arE m L b)):=fun p j=>by
  obtain⟨s,q⟩:=p;obtain⟨Z,g2,g3,rfl⟩:=(Zd4 _).1 j;rcases key s Z g2 g3 with rfl|rfl
  ·exact .inl rfl
  ·exact .inr rfl
 have g:=Zt6 (m:=m) (L:=L) (x:=x) (m+2*X.length);generalize T1 m L (m+2*X.length) x=V at *;have J:∀ (u v:Nat×Nat),u.1<v.1→u∈V→v∈V→(∀ p,p∈V→p=u∨p=v)→V=[u,v]:=fun u v ab n o j=>by
  match V,g,n,o,j with
  | [],_,n,_,_=>cases n
  | [c],_,n,o,_=>
   rw[List.mem_singleton]at n o;subst n; subst o; omega
  | c :: d :: r,g,n,o,j=>
   rw[List.pairwise_cons,List.pairwise_cons]at g;obtain⟨s1,s2,_⟩:=g;have aa:=s1 d (List.mem_cons_self ..);have w:c=u:=by
    rcases j c (List.mem_cons_self ..)with e|e
    ·exact e
    ·rcases j d (by simp)with E|E<;>(subst e; subst E; omega)
   have H:d=v:=by
    rcases j d (by simp)with e|e
    ·subst w; subst e; omega
    ·exact e
   have Y:r=[]:=by
    cases r with
    | nil=>rfl
    | cons z r=>
     have I:=s2 z (List.mem_cons_self ..);rcases j z (by simp)with e|e
     ·subst w; subst e; omega
     ·subst H; subst e; omega
   rw[w,H,Y]
 rcases Nat.lt_or_gt_of_ne A with i|i
 ·exact⟨a,b,_,_,i,B,J _ _ i N O l,C,D,k a,k b,by omega⟩
 ·exact⟨b,a,_,_,i,y,J _ _ i O N fun p j=>(l p j).symm,D,C,k b,k a,by omega⟩
def ovE(d:Bool)(p q:Nat):Nat:=if (decide (p % 2=0) != d)=true then q else p
def unE(d:Bool)(p q:Nat):Nat:=if (decide (p % 2=0) != d)=true then p else q
theorem Zwj{x s t p q:Nat}(u:x<X.length)(r:T1 m L (m+2*X.length) x=[(s,p),(t,q)]) :
 s<t∧t<m+2*X.length∧p<4∧q<4∧p % 2≠q % 2∧(p % 2=0→e0E m (arL m X L) x=p∧e1E m (arL m X L) x=q)∧(p % 2=1→e0E m (arL m X L) x=q∧e1E m (arL m X L) x=p):=by
 obtain⟨y,z,v,w,k,c,a,l,n,d,e,o⟩:=Zr8 h hw u;rw[r]at a;simp only[List.cons.injEq,pI2,and_true]at a;obtain⟨⟨rfl,rfl⟩,rfl,rfl⟩:=a;obtain⟨f,g⟩:=Zfx h hw (by omega) d l
 obtain⟨i,j⟩:=Zfx h hw c e n;exact⟨k,c,d,e,o,fun b=>⟨f b,j (by omega)⟩,fun b=>⟨i (by omega),g b⟩⟩
theorem Zz8{x s t p q:Nat}(k:x<X.length)(j:T1 m L (m+2*X.length) x=[(s,p),(t,q)])(d:Bool) :
 sgE (e0E m (arL m X L) x) (e1E m (arL m X L) x) d=if unE d p q=(ovE d p q+3) % 4 then 1 else -1:=by
 obtain⟨l,n,o,r,u,g,i⟩:=Zwj h hw k j;have c:p=0∨p=1∨p=2∨p=3:=by omega
 have f:q=0∨q=1∨q=2∨q=3:=by omega
 rcases Nat.mod_two_eq_zero_or_one p with e|e
 ·obtain⟨a,b⟩:=g e;rw[a,b];rcases c with rfl|rfl|rfl|rfl<;>rcases f with rfl|rfl|rfl|rfl<;>first|omega|(cases d<;>rfl)
 ·obtain⟨a,b⟩:=i e;rw[a,b];rcases c with rfl|rfl|rfl|rfl<;>rcases f with rfl|rfl|rfl|rfl<;>first|omega|(cases d<;>rfl)
omit h hw in
theorem Zn9{x:Int}:∀ {met:List Int},Y6 x met=0↔x∉met
 | []=>by simp[Y6]
 | z :: r=>by
  have c:=Zn9 (x:=x) (met:=r);simp only[Y6,List.mem_cons,not_or];by_cases b:x=z
  ·rw[if_pos b];exact⟨fun e=>by omega,fun e=>absurd b e.1⟩
  ·rw[if_neg b];by_cases a:Y6 x r=0
   ·rw[if_pos a];exact⟨fun _=>⟨b,c.1 a⟩,fun _=>rfl⟩
   ·rw[if_neg a];exact⟨fun e=>by omega,fun e=>absurd (c.2 e.2) a⟩
theorem Zv1{gs:List Nat}(a:(plE 0 gs).length=m):∀ t,t≤m+2*X.length→X9 (Y0 m (plE 0 gs) X L) t=(nmE m L t).map fun x=>((x+1:Nat):Int)
 | 0,_=>rfl
 | t+1,k=>by
  have j:=Zv1 a t (by omega)
  have g:=Zai h hw a;rw[Zhv (by rw[g]; omega),j,Zhc h hw a (by omega)]
  have f:nmE m L (t+1)=if arE m L t<2*m∨xoE m (arE m L t)∈nmE m L t then nmE m L t else nmE m L t++[xoE m (arE m L t)]:=rfl
  rw[f];unfold O7 ltA;by_cases b:arE m L t<2*m
  ·rw[if_pos b,if_neg (fun e=>by have:=e.1; simp[passL]at this),if_pos (.inl b)]
  ·rw[if_neg b];have hm:Y6 (((xoE m (arE m L t)+1:Nat):Nat):Int) ((nmE m L t).map fun x=>((x+1:Nat):Int))=0↔xoE m (arE m L t)∉nmE m L t:=by
    rw[Zn9];refine not_congr ⟨fun d=>?_,fun d=>List.mem_map.2 ⟨_,d,rfl⟩⟩
    obtain⟨y,i,e⟩:=List.mem_map.1 d;have:y=xoE m (arE m L t):=by omega
    exact this ▸ i
   by_cases c:xoE m (arE m L t)∈nmE m L t
   ·rw[if_neg (fun e=>(hm.1 e.2) c),if_pos (.inr c)]
   ·rw[if_pos ⟨rfl,hm.2 c⟩,if_neg (fun e=>e.elim b c),List.map_append]
    rfl
end
end Go.Known
end
