/- Part 53 of the proof: Qj, Qk, Lp, Ql, Qm. -/
import Derived.Test.YtilmpmlkndfbjaaGreatDoorI11
import Derived.Test.YtilmpmlkndfbjaaGreatDoorI23
import Derived.Test.YtilmpmlkndfbjaaGreatDoorI49
import Derived.Test.YtilmpmlkndfbjaaGreatDoorI52
set_option linter.all false
section
namespace Go.Known
open Go Go.AE Go.Proofs
open Go.Plain
theorem Zyo{α:Type}{l m:List α}{i:Nat}(h:i<l.length)(a:i<m.length)(b:l.take i=m.take i)(c:l[i]=m[i]):l.take (i+1)=m.take (i+1):=by
 rw[List.take_add_one,List.take_add_one,b,gE h,gE a,c]
theorem Z1y{α:Type}{l m:List α}{i:Nat}(h:i<l.length)(b:i<m.length)(a:¬l[i]=m[i]):¬l=m:=fun e=>by
 subst e;exact a rfl
theorem Zzd{α:Type}{l m:List α}{i:Nat}(b:l.length=m.length)(h:¬i<l.length)(a:l.take i=m.take i):l=m:=by
 rw[List.take_of_length_le (by omega),List.take_of_length_le (by omega)]at a
 exact a
theorem Z2n(a b c f b' g:Nat)(o d:Bool):X7 .neq (.flat [.int,.int,.int,.bool]) (.agg [.int .i64 a,.int .i64 b,.int .i64 c,.bool o]) (.agg [.int .i64 f,.int .i64 b',.int .i64 g,.bool d])=some (.bool (!decide ((a,b,c,o)=(f,b',g,d)))):=by
 have e:∀ x y:Nat,((x:Int) == (y:Int))=decide (x=y):=fun x y=>by rw[Bool.eq_iff_iff]; simp; omega
 have h:(o == d)=decide (o=d):=by cases o<;>cases d<;>rfl
 simp only[X7,eqA,Zb3,C2,e,h];by_cases i:a=f<;>by_cases j:b=b'<;>by_cases k:c=g<;>by_cases l:o=d<;>simp[i,j,k,l]
set_option maxHeartbeats 4000000 in
theorem Zxe(l m:List Rw)(I:l.length≤10000):PCall Tryz.prog 39 [imV (l.map rwR),imV (m.map rwR)] (.bool (decide (l=m))):=by
 refine Zbg hm Tryz.func39 Yf9 rfl rfl (by simp[Y7,Zaj,Za2]) trivial fun K p=>?_
 have A:∀ q,(imV (l.map rwR)).ren q=imV (l.map rwR):=fun q=>AVal.ren_closed q _ (Zaj (Za2 _))
 have B:∀ q,(imV (m.map rwR)).ren q=imV (m.map rwR):=fun q=>AVal.ren_closed q _ (Zaj (Za2 _))
 have d:(l.map rwR).length=l.length:=List.length_map ..;have g:(m.map rwR).length=m.length:=List.length_map ..;by_cases a:l.length=m.length
 rotate_left
 ·have h:¬l=m:=fun e=>a (by rw[e])
  rw[decide_eq_false h]at p;have G:¬((l.length:Nat):Int)=m.length:=by omega
  simp[d,g,a,G];exact Y1 p [] (by simp)
 simp[d,g,a];refine Q7 (α:=Nat) (fun i=>[(5,.int .i64 i),(0,imV (l.map rwR)),(1,imV (m.map rwR))]) (fun _=>⟨[],1⟩) (fun i=>l.length - i) (fun i=>i≤l.length∧l.take i=m.take i) 0 [] (by simp[A,B]) (by simp) ?_
 intro i hi N D
 try simp only at hi D ⊢
 obtain⟨hi,C⟩:=hi;have E:IntKind.i64.wrap ((i:Int)+1)=(i:Int)+1:=Z5 (by omega) (by omega)
 by_cases c:i<l.length
 ·have b:i<m.length:=by omega
  have z:(l.map rwR)[i]? = some [.int .i64 (l[i].1:Nat),.int .i64 (l[i].2.1:Nat),.int .i64 (l[i].2.2.1:Nat),.bool l[i].2.2.2]:=by
   rw[List.getElem?_map,gE c]; rfl
  have o:(m.map rwR)[i]? = some [.int .i64 (m[i].1:Nat),.int .i64 (m[i].2.1:Nat),.int .i64 (m[i].2.2.1:Nat),.bool m[i].2.2.2]:=by
   rw[List.getElem?_map,gE b]; rfl
  obtain⟨_,s⟩:=X5 z;obtain⟨_,j⟩:=X5 o;have v:=Z2n l[i].1 l[i].2.1 l[i].2.2.1 m[i].1 m[i].2.1 m[i].2.2.1 l[i].2.2.2 m[i].2.2.2;have h:¬l.map rwR=[]:=fun e=>by have:=congrArg List.length e; simp at this; subst this; simp at c
  have k:¬m.map rwR=[]:=fun e=>by have:=congrArg List.length e; simp at this; subst this; simp at b
  by_cases w:l[i]=m[i]
  ·have n:=D (i+1) [];rw[Int.natCast_add,Int.natCast_one]at n;have y:=Zyo c b C w;rw[decide_eq_true (by exact w)]at v
   generalize l[i]=r at *;generalize m[i]=H at *;have t:∀ q,Z4 q (l.map rwR)=l.map rwR:=fun q=>X1 q _ (Za2 _)
   have u:∀ q,Z4 q (m.map rwR)=m.map rwR:=fun q=>X1 q _ (Za2 _)
   rw[Zlk h,Zlk k]at n ⊢;generalize l.map rwR=R at *;generalize m.map rwR=F at *;simp[c,b,d,g,a,z,s,o,j,v,E];exact n _ _ (by omega) ⟨by omega,y⟩ (by simp[t,u])
  ·rw[decide_eq_false (Z1y c b w)]at p;rw[decide_eq_false (by exact w)]at v
   generalize l[i]=r at *;generalize m[i]=H at *;rw[Zlk h,Zlk k];generalize l.map rwR=R at *;generalize m.map rwR=F at *;simp[c,b,d,g,a,z,s,o,j,v,E];exact Y1 p [] (by simp)
 ·rw[decide_eq_true (Zzd a c C)]at p;simp[c,d,g,← a];exact Y1 p [] (by simp)
set_option maxHeartbeats 4000000 in
theorem c35g(l m:List Nat)(F:l.length≤10000)(E:l≠[])(y:m≠[]):PCall Tryz.prog 38 [.imm (Z2 l),.imm (Z2 m)] (.bool (decide (l=m))):=by
 refine Zbg hm Tryz.func38 cf35 rfl rfl (by simp[Y7,D5,AVal.closed]) trivial fun K o=>?_
 have B:∀ q,Z4 q (Z2 l)=Z2 l:=fun q=>Z6 q _
 have p:∀ q,Z4 q (Z2 m)=Z2 m:=fun q=>Z6 q _
 have d:(Z2 l).length=l.length:=L6 l;have g:(Z2 m).length=m.length:=L6 m;by_cases a:l.length=m.length
 rotate_left
 ·have u:¬l=m:=fun e=>a (by rw[e])
  rw[decide_eq_false u]at o;have y:¬((l.length:Nat):Int)=m.length:=by omega
  generalize Z2 l=R at *;generalize Z2 m=w at *;simp[d,g,a,y];exact Y1 o [] (by simp)
 have D:∀ (i x:Nat),l[i]? = some x→(Z2 l)[i]? = some [.int .i64 (x:Int)]:=fun i x=>B4
 have t:∀ (i x:Nat),m[i]? = some x→(Z2 m)[i]? = some [.int .i64 (x:Int)]:=fun i x=>B4
 generalize Z2 l=R at *;generalize Z2 m=w at *;simp[d,g,a];refine Q7 (α:=Nat) (fun i=>[(5,.int .i64 i),(1,.imm w),(0,.imm R)]) (fun _=>⟨[],1⟩) (fun i=>l.length - i) (fun i=>i≤l.length∧l.take i=m.take i) 0 [] (by simp[B,p]) (by simp) ?_
 intro i hi N A
 try simp only at hi A ⊢
 obtain⟨hi,z⟩:=hi;have C:IntKind.i64.wrap ((i:Int)+1)=(i:Int)+1:=Z5 (by omega) (by omega)
 by_cases c:i<l.length
 ·have b:i<m.length:=by omega
  have n:=D i _ (gE c);have h:=t i _ (gE b);obtain⟨_,k⟩:=X5 n;obtain⟨_,j⟩:=X5 h;by_cases r:l[i]=m[i]
  ·have s:=Zyo c b z r;simp[c,b,d,g,a,n,k,h,j,C,r];exact A (i+1) [] _ _ (by omega) ⟨by omega,s⟩ (by simp[B,p])
  ·rw[decide_eq_false (Z1y c b r)]at o;have v:¬((l[i]:Nat):Int)=(m[i]:Nat):=by omega
   simp[c,b,d,g,a,n,k,h,j,C,r,v];exact Y1 o [] (by simp)
 ·rw[decide_eq_true (Zzd a c z)]at o;simp[c,d,g,← a];exact Y1 o [] (by simp)
def samB(F G:Nat)(x y:List Lt):Bool:=decide (F=G)&&(decide (gtN F x x.length=gtN G y y.length)&&(decide (X2 4 x=X2 4 y)&&decide (X2 4 (tuN x)=X2 4 (tuN y))))
set_option maxHeartbeats 4000000 in
theorem Z2d(F G:Nat)(x y:List Lt)(B:F≤40)(C:G≤40)(h:x.length≤400)(A:(tuN x).length≤400):PCall Tryz.prog 15 [picV F x,picV G y] (.bool (samB F G x y)):=by
 refine Zbg hm Tryz.func15 cf11 rfl rfl (by simp[Y7,Zvh]) trivial fun K i=>?_
 have p:gtN F x x.length≠[]:=fun e=>by have:=Zdb F x x.length; rw[e]at this; simp at this
 have q:gtN G y y.length≠[]:=fun e=>by have:=Zdb G y y.length; rw[e]at this; simp at this
 have o:=c35g (gtN F x x.length) (gtN G y y.length) (by rw[Zdb]; omega) p q
 have r:=Zxe (X2 4 x) (X2 4 y) (by have:=Z1s x; omega)
 have s:=Zxe (X2 4 (tuN x)) (X2 4 (tuN y)) (by have:=Z1s (tuN x); omega)
 have k:=Zcc ((X2 4 x).map rwR);have m:=Zcm ((X2 4 x).map rwR);have l:=Zcc ((X2 4 (tuN x)).map rwR);have n:=Zcm ((X2 4 (tuN x)).map rwR);have b:=Zcc ((X2 4 y).map rwR);have d:=Zcm ((X2 4 y).map rwR);have c:=Zcc ((X2 4 (tuN y)).map rwR);have g:=Zcm ((X2 4 (tuN y)).map rwR);unfold picV pcV;unfold samB at i;generalize imV ((X2 4 x).map rwR)=u at *;generalize imV ((X2 4 (tuN x)).map rwR)=v at *;generalize imV ((X2 4 y).map rwR)=w at *;generalize imV ((X2 4 (tuN y)).map rwR)=z at *;generalize Z2 (gtN F x x.length)=U at *;generalize Z2 (gtN G y y.length)=V at *
 generalize decide (gtN F x x.length=gtN G y y.length)=t at *;generalize decide (X2 4 x=X2 4 y)=t2 at *;generalize decide (X2 4 (tuN x)=X2 4 (tuN y))=D at *;by_cases a:F=G
 rotate_left
 ·have j:¬((F:Nat):Int)=G:=by omega
  rw[decide_eq_false a,Bool.false_and]at i;simp[k,m,l,n,b,d,c,g,a,j];exact Y1 i [] (by simp)
 rw[decide_eq_true a,Bool.true_and]at i;subst a;simp[k,m,l,n,b,d,c,g];refine U1 o ?_;cases t with
 | false=>
  simp;exact Y1 i [] (by simp)
 | true=>
  simp;refine U1 r ?_;cases t2 with
  | false=>
   simp;exact Y1 i [] (by simp)
  | true=>
   simp;refine U1 s ?_;simp;exact Y1 i [] (by simp)
end Go.Known
end
section
namespace Go.Known
open Go Go.AE Go.Proofs
open Go.Plain
theorem Zz4{f:Int}{b:List Lt}(a:ValR f b)(b0:b≠[]):T1 b≠[]:=(Yac a b0).2.1
theorem Yey{F:Nat}{a b:List Lt}(E:W7 F a=0)(r:W7 F b=0):samB F F a b=decide (T1 a=T1 b):=by
 have m:∀ c:List Lt,c≠[]→ValR F c→gtN F [] [].length≠gtN F c c.length:=fun c v n e=>by
  have p:0<c.length:=List.length_pos_iff.2 v;have hm:=S1 (ls:=c) (i:=0) p;have o:=(A7 n.fst).1 (n.okr _ hm);have I:=o.2.2.2.1;have J:=o.2.2.2.2.1;have M:=o.2.2.2.2.2.1;have N:=o.2.2.2.2.2.2.1;have k:=congrArg (fun l:List Nat=>l[(at' c 0).g.toNat]?) e
  rw[Zf6 _ _ (by omega),Zf6 _ _ (by omega),List.take_length]at k
  rw[show (((at' c 0).g.toNat:Nat):Int)=(at' c 0).g by omega]at k
  have w:=Option.some.inj k;have y:inG (at' c 0).g []=0:=rfl;rw[y,List.take_length]at w;omega
 unfold samB;rw[decide_eq_true rfl,Bool.true_and];by_cases j:a=[]
 ·subst j;by_cases b0:b=[]
  ·subst b0;simp
  ·have f:=Zdr r b0;rw[decide_eq_false (m b b0 f),Bool.false_and,decide_eq_false];intro e;exact Zz4 f b0 (e ▸ (rfl:T1 ([]:List Lt)=[]))
 ·have d:=Zdr E j;by_cases b0:b=[]
  ·subst b0;rw[decide_eq_false (fun e=>m a j d e.symm),Bool.false_and,decide_eq_false]
   intro e;exact Zz4 d j (e.trans (rfl:T1 ([]:List Lt)=[]))
  ·have f:=Zdr r b0;have fa:isP (at' a 0)=true:=by simp[isP,d.fst]
   have A:isP (at' b 0)=true:=by simp[isP,f.fst]
   rw[Bool.eq_iff_iff];simp only[bA,decide_eq_true_eq];constructor
   ·rintro⟨B,C,D⟩;have s:∀ g,inG g a=inG g b:=fun g=>by
     by_cases s:0≤g∧g≤F
     ·have k:=congrArg (fun l:List Nat=>l[g.toNat]?) B
      rw[Zf6 _ _ (by omega),Zf6 _ _ (by omega),List.take_length,List.take_length]at k
      rw[show ((g.toNat:Nat):Int)=g by omega]at k
      exact Option.some.inj k
     ·have z:∀ c:List Lt,ValR F c→inG g c=0:=fun c n=>by
       unfold inG Z3;rw[List.length_eq_zero_iff,List.filter_eq_nil_iff];intro l t;simp only[bA,beq_iff_eq,not_and];intro u;have K:=Zi2 n l t u;have L:=Z12 n l t u;omega
      rw[z a d,z b f]
    obtain⟨e,q⟩:=Yef d f j b0 ⟨C,D,s⟩;exact(Z8x (f.evx b0) (d.evx j) q).symm
   ·intro h;obtain⟨e,q⟩:=Ygb (f.evx b0) (d.evx j) A fa h.symm;obtain⟨_,_,p1,G,H⟩:=Zmp f b0 q d.fst d.nm;exact⟨Z31 H,p1,G⟩
end Go.Known
end
section
namespace Go.Known
open Go Go.AE Go.Proofs
def anSame:AFn:=⟨56,[(4,none)],(sr [bo 2 0,bo 3 1,mfZ 4]
 (.seq (sr [lw 11 2 2,oZ 12 (.call (.fn 12) [tZ 11,kZ 40]),no 13 12,mv 14 13,gZ 15 14 false (.load (some 2) (tZ 3)),gZ 16 14 false (.call (.fn 12) [tZ 15,kZ 40]),gZ 17 14 false (.un .not (tZ 16)),pk1 18 14 17]
 (.cond (tZ 18) (sr [oZ 19 (.call (.fn 8) []),mv 4 19]
 .ret)
 .skip))
 (sr [lw 21 2 2,ca1 22 13 21,mv 20 22,ex 23 20 0,ex 24 20 1,oZ 5 (.alloc [(.int .i64 0),.nilSl,.nilSl,.nilSl]),so 4 5 23,mv 6 24]
 (sr [lw 26 2 3,ca1 27 13 26,mv 25 27,ex 28 25 0,ex 29 25 1,oZ 7 (.alloc [(.int .i64 0),.nilSl,.nilSl,.nilSl]),so 4 7 28,mv 8 29]
 (sr [lw 31 2 2,lw 32 2 3,ca2 33 14 31 32,mv 30 33,ex 34 30 0,ex 35 30 1,mv 9 34,mv 10 35]
 (sr [mv 36 6,cEk 37 36 0,mv 38 37,gtm 39 38 8,gZ 40 38 true (.bin .eql .num (tZ 39) (kZ 0)),pk0 41 38 40,mv 42 41,gtm 43 42 10,gZ 44 42 true (.bin .eql .num (tZ 43) (kZ 0)),pk0 45 42 44,mv 46 45,gtm 47 46 9,gZ 48 46 true (.load (some 4) (tZ 5)),gZ 49 46 true (.load (some 4) (tZ 7)),gZ 50 46 true (.call (.fn 15) [tZ 48,tZ 49]),gZ 51 46 true (.bin .eql .bool (tZ 47) (tZ 50)),pk0 52 46 51,mv 53 52,gZ 54 53 true (.call (.fn 8) []),pk0 55 53 54,mv 4 55]
 .ret))))))⟩
theorem Ycw:cFn Tryz.prog Tryz.f5=some anSame:=by kernel_rfl
end Go.Known
end
section
namespace Go.Known
open Go Go.AE Go.Proofs
open Go.Plain
theorem Z51{F G:Nat}{a b:List Lt}(d:W7 F a=0)(e:W7 G b=0):(decide ((F:Int)=(G:Int))&&decide (T1 a=T1 b))=samB F G a b:=by
 by_cases h:F=G
 ·subst h;rw[Yey d e,decide_eq_true rfl,Bool.true_and]
 ·have c:¬((F:Int)=(G:Int)):=by omega
  unfold samB;rw[decide_eq_false h,decide_eq_false c,Bool.false_and,Bool.false_and]
theorem Z4b{f:Int}{ls:List Lt}(c:W7 f ls=0):ls.length≤400∧(tuN ls).length≤400:=by
 by_cases a:ls=[]
 ·subst a; rw[Z4h]; simp
 ·have b:=Zdr c a;exact⟨b.len,(b.turn a).1.len⟩
set_option maxRecDepth 100000 in
set_option maxHeartbeats 16000000 in
theorem Ye7(f g:Int)(a b:List Lt):PCall Tryz.prog 5 [cV f a,cV g b] (.bool true):=by
 refine Zbg hm Tryz.func5 Ycw rfl rfl (by simp[Y7,AVal.closed,Y5]) trivial fun K s=>?_
 have c:=c18 f a;have d:=c18 g b;by_cases r:a.length≤40∧W7 f a=0
 rotate_left
 ·have u:(decide (a.length≤40)&&decide (W7 f a=0))=false:=by simpa using r
  rw[u]at c;unfold cV at *;generalize a.map rowL=rows at *;generalize b.map rowL=m at *;simp;refine U1 c ?_;simp;refine U1 Zp9 ?_;simp;exact Y1 s [] (by simp)
 obtain⟨y,e⟩:=r;have v:(decide (a.length≤40)&&decide (W7 f a=0))=true:=by simp[y,e]
 rw[v]at c;by_cases r:b.length≤40∧W7 g b=0
 rotate_left
 ·have u:(decide (b.length≤40)&&decide (W7 g b=0))=false:=by simpa using r
  rw[u]at d;unfold cV at *;generalize a.map rowL=rows at *;generalize b.map rowL=m at *;simp;refine U1 c ?_;simp;refine U1 d ?_;simp;refine U1 Zp9 ?_;simp;exact Y1 s [] (by simp)
 obtain⟨z,j⟩:=r;have w:(decide (b.length≤40)&&decide (W7 g b=0))=true:=by simp[z,j]
 rw[w]at d;obtain⟨E,H⟩:=Zsk e;obtain⟨I,J⟩:=Zsk j;obtain⟨F,rfl⟩:∃ F:Nat,f=F:=⟨f.toNat,by omega⟩
 obtain⟨G,rfl⟩:∃ G:Nat,g=G:=⟨g.toNat,by omega⟩
 obtain⟨L,M⟩:=Z4b e;have B:=Ztg F a e;have C:=Ztg G b j;have A:=c34v F G a b e j (by omega) (by omega)
 rw[Z51 e j]at A;have D:=Z2d F G a b (by omega) (by omega) L M
 have n:=Zcc ((X2 4 a).map rwR);have p:=Zcm ((X2 4 a).map rwR);have o:=Zcc ((X2 4 (tuN a)).map rwR);have q:=Zcm ((X2 4 (tuN a)).map rwR);have h:=Zcc ((X2 4 b).map rwR);have k:=Zcm ((X2 4 b).map rwR);have i:=Zcc ((X2 4 (tuN b)).map rwR);have l:=Zcm ((X2 4 (tuN b)).map rwR);unfold picV pcV at *;unfold cV at *;generalize samB F G a b=t at *;generalize imV ((X2 4 a).map rwR)=N at *;generalize imV ((X2 4 (tuN a)).map rwR)=O at *;generalize imV ((X2 4 b).map rwR)=P at *;generalize imV ((X2 4 (tuN b)).map rwR)=Q at *;generalize Z2 (gtN F a a.length)=U at *
 generalize Z2 (gtN G b b.length)=V at *;generalize a.map rowL=rows at *;generalize b.map rowL=m at *;simp;refine U1 c ?_;simp;refine U1 d ?_;simp;refine U1 B ?_;simp[n,p,o,q,h,k,i,l];refine U1 C ?_;simp[n,p,o,q,h,k,i,l];refine U1 A ?_;simp[n,p,o,q,h,k,i,l];refine U1 D ?_;simp;refine U1 Zp9 ?_;simp;exact Y1 s [] (by simp)
end Go.Known
end
section
namespace Go.Known
open Go Go.AE Go.Proofs
open Go.Plain
open Go.ChangeShapes Go.WideShapes Go.RowKit Go.Deep
variable {H:Type} {enc:TypeId×Value→H} {w:World} {base:Nat} {spare:Nat→Bool} {held:Bool}
theorem Ya9{v0 v1:Value}{f g:Int}{a b:List Lt}(p:∀ ρ,R (allP w) ρ (cV f a) v0)(k:∀ ρ,R (allP w) ρ (cV g b) v1):Calls Tryz.prog 5 #[v0,v1] w fun e w'=>e=.returned (.bool true)∧Below w.heap.size w w':=by
 have q:=Ye7 f g a b ⟨fun _=>none,1⟩ []
 refine(q.2 ⟨w,fun _=>none,allP w⟩ (allP w) (fun _=>none) #[v0,v1] w ⟨⟨Below.refl _ _,fun B o j=>(by cases j)⟩,fun B c j=>Z97 j,fun b x d=>(by cases d),fun b b' x z l l' k=>(by cases k),fun b l n=>(by cases n),fun B c j=>.inl j⟩
  ⟨rfl,fun i x u d h=>?_⟩ (fun b n=>by simp at n)).mono fun e w' s=>?_
 ·match i,d,h with
  | 0,d,h=>cases d; cases h; exact p _
  | 1,d,h=>cases d; cases h; exact k _
  | i+2,d,h=>simp at d
 ·obtain⟨u,r,y,v,ρ',rfl,_,_,t,m,_,rfl,_⟩:=s;refine⟨?_,t.base.below⟩;cases m;rfl
end Go.Known
end
