/- Part 53 of the proof: Ze, Zf, Zg. -/
import Derived.Test.YtipeejpafgnjdaaGreatDoorH23
import Derived.Test.YtipeejpafgnjdaaGreatDoorH51
import Derived.Test.YtipeejpafgnjdaaGreatDoorH52
set_option linter.all false
section
namespace Go.Known
open Go Go.AE Go.Proofs
open Go.Plain
def amBack:AFn:=⟨8,[(2,(some (some 2))),(3,none)],(sr [bo 1 0,oZ 2 (.alloc [(.int .i64 0),.nilSl]),mk 3 0]
 (sr [lw 4 2 1,oZ 5 (.call (.fn 68) [tZ 4,(.fn 72)]),ex 6 5 0,ex 7 5 1,so 2 2 6,mv 3 7]
 .ret))⟩
theorem Zwj:cFn Tryz.prog Tryz.f29=some amBack:=by kernel_rfl
theorem Ydw(f:Int)(ls:List Lt)(hv:ValR f ls)(h0:ls≠[]):PCall Tryz.prog 29 [cV f ls] (.tuple [cV f (U4 ls),.int .i64 0]):=by
 refine J9 hm 4 Tryz.func29 Zwj rfl rfl (by simp[Y0,AVal.closed,Z9]) (by simp[AVal.closed,Y0,Z9]) fun K hK=>?_
 have hl:ls.length≤1000:=by have:=hv.len; omega
 have h54:=c54v 72 f ls (U4 ls) 9 hl hv.to h0 (by omega) fun F e=>by
  subst e;exact Zsd F ls _ hl (hv.bk h0)
 have hrr:∀ q,Z3 q (ls.map rowL)=ls.map rowL:=fun q=>Y6 q _ (Z9 ls)
 have hLr:∀ q,Z3 q ((U4 ls).map rowL)=(U4 ls).map rowL:=fun q=>Y6 q _ (Z9 _)
 have hKv:=hK (.tuple [cV f (U4 ls),.int .i64 0]) ⟨[],1⟩ (Zfp f _);clear hK;unfold cV at *;generalize ls.map rowL=rows at *;generalize (U4 ls).map rowL=LR at *;simp;refine W3 h54 ?_;simp;exact Y1 hKv [] (by simp[hLr])
theorem Ye9(f:Int)(he:W4 f []=0):PCall Tryz.prog 29 [cV f []] (.tuple [cV f [],.int .i64 0]):=by
 refine J9 hm 4 Tryz.func29 Zwj rfl rfl (by simp[Y0,AVal.closed,Z9,X8]) (by simp[AVal.closed,Y0,Z9,X8]) fun K hK=>?_
 have h54:=c54e 72 f he (Zxe f);have hKv:=hK (.tuple [cV f [],.int .i64 0]) ⟨[],1⟩ (Zfp f []);clear hK;unfold cV at *;simp at h54 ⊢;refine W3 h54 ?_;simp;exact Y1 hKv [] (by simp)
theorem Z5n(r:Rw):rwR (flR true r)=[.int .i64 (r.1:Nat),.int .i64 (r.2.1:Nat),.int .i64 (r.2.2.1:Nat),.bool (if r.1=2 then !r.2.2.2 else r.2.2.2)]:=by
 unfold flR rwR;by_cases h:r.1=2
 ·rw[if_pos h,if_pos h,Bool.bne_true]
 ·rw[if_neg h,if_neg h]
set_option maxHeartbeats 4000000 in
theorem cOpp(l:List Rw)(hl:l.length≤10000):PCall Tryz.prog 31 [imV (l.map rwR)] (imV ((l.map (flR true)).map rwR)):=by
 refine J9 hm 4 Tryz.func31 Z7b rfl rfl (by simp[Y0,G6,B3]) (G6 (B3 _)) fun K hK=>?_
 have hKv:=hK _ _ (Zoe (n:=2) (b:=1) (k:=4) (rows:=(l.map (flR true)).map rwR) (get:=SMem.get ⟨blV 1 4 ((l.map (flR true)).map rwR) [],2⟩) (by simp) (Zls _))
 clear hK;have hrI:∀ q,(imV (l.map rwR)).ren q=imV (l.map rwR):=fun q=>AVal.ren_closed q _ (G6 (B3 _))
 have hll:(l.map rwR).length=l.length:=List.length_map ..;obtain⟨M,hM⟩:∃ M:Nat→List (List AVal),M=fun i=>((l.take i).map (flR true)).map rwR:=⟨_,rfl⟩
 have hM0:M 0=[]:=by rw[hM]; rfl
 have hMn:M l.length=(l.map (flR true)).map rwR:=by rw[hM]; simp only[List.take_length]
 have hMc:∀ i q,Z3 q (M i)=M i:=fun i q=>by rw[hM]; exact Y6 q _ (B3 _)
 have hMl:∀ i,i≤l.length→(M i).length=i:=fun i hi=>by rw[hM]; simp; omega
 have hMs:∀ i (h:i<l.length),M (i+1)=M i++[[.int .i64 (l[i].1:Nat),.int .i64 (l[i].2.1:Nat),.int .i64 (l[i].2.2.1:Nat),.bool (if l[i].1=2 then !l[i].2.2.2 else l[i].2.2.2)]]:=fun i h=>by
  rw[hM];simp only[List.take_add_one,gE h,Option.toList_some,List.map_append,List.map_cons,List.map_nil,Z5n]
 rw[← hMn]at hKv;clear hM;simp;refine T1 (α:=Nat) (fun i=>[(4,.int .i64 i),(3,slV 1 (M i)),(0,imV (l.map rwR))]) (fun i=>⟨blV 1 4 (M i) [],2⟩) (fun i=>l.length - i) (fun i=>i≤l.length) 0 [] (by simp[hrI,hM0]) (by simp) ?_
 intro i hi N hN
 try simp only at hi hN ⊢
 have hw:IntKind.i64.wrap ((i:Int)+1)=(i:Int)+1:=Z6 (by omega) (by omega)
 by_cases hlt:i<l.length
 ·have hg:(l.map rwR)[i]? = some [.int .i64 (l[i].1:Nat),.int .i64 (l[i].2.1:Nat),.int .i64 (l[i].2.2.1:Nat),.bool l[i].2.2.2]:=by
   rw[List.getElem?_map,gE hlt]; rfl
  obtain⟨_,hg2⟩:=Y9 hg;have hne:¬l.map rwR=[]:=fun e=>by have:=congrArg List.length e; simp at this; subst this; simp at hlt
  have hN':=hN (i+1);have hb:(M i).length≤1048575:=by rw[hMl i hi]; omega
  have hMci:=hMc i;rw[Int.natCast_add,Int.natCast_one,hMs i hlt]at hN';generalize l[i]=r at *;have hrR0:∀ q,Z3 q (l.map rwR)=l.map rwR:=fun q=>Y6 q _ (B3 _)
  rw[Zex hne]at hN' ⊢;generalize l.map rwR=R at *;generalize M i=S at *;by_cases hk:r.1=2
  ·have hk':((r.1:Nat):Int)=2:=by omega
   simp[hlt,hll,hg,hg2,hk',hw,hb];exact hN' [(1,23)] _ _ (by omega) (by omega) (by simp[hrR0,hMci,hk])
  ·have hk':¬((r.1:Nat):Int)=2:=by omega
   simp[hlt,hll,hg,hg2,hk',hw,hb];exact hN' [(1,18)] _ _ (by omega) (by omega) (by simp[hrR0,hMci,hk])
 ·have e:i=l.length:=by omega
  subst e;simp[hll];exact Y1 hKv [] (by
   by_cases h0:M l.length=[]
   ·simp[h0]
   ·simp[Zet,Zd7,h0,hMc])
end Go.Known
end
section
namespace Go.Known
open Go Go.AE Go.Proofs
open Go.Plain
theorem Yeg:U4 []=[]:=rfl
theorem Ydl:I9 []=[]:=rfl
theorem Z6a:X1 4 []=[]:=rfl
theorem Z7p{f:Int}{ls:List Lt}(he:W4 f ls=0)(F:Nat) :
 (W4 f (swN ls)=0∧L7 F (swN ls)=pcV F (gtN F ls ls.length) (((X1 4 ls).map (flR true)).map rwR) (((X1 4 (tuN ls)).map (flR true)).map rwR)) ∧
 (W4 f (tuN ls)=0∧L7 F (tuN ls)=pcV F (gtN F ls ls.length) ((X1 4 (tuN ls)).map rwR) ((X1 4 ls).map rwR)) ∧
 (W4 f (U4 ls)=0∧L7 F (U4 ls)=L7 F ls)∧(W4 f (I9 ls)=0∧L7 F (I9 ls)=L7 F ls):=by
 by_cases h0:ls=[]
 ·subst h0;rw[Yeg,Ydl,Zin,show swN []=[] from rfl]
  refine⟨⟨he,?_⟩,⟨he,?_⟩,⟨he,rfl⟩,⟨he,rfl⟩⟩
  ·unfold L7;rw[Zin,Z6a];rfl
  ·unfold L7;rw[Zin]
 ·have hv:=Zaz he h0;obtain⟨b1,b2,b3⟩:=Ybl hv h0;obtain⟨n1,n2,n3⟩:=Z5x hv h0;exact⟨⟨(hv.swap h0).1.to,Z3q hv h0⟩,⟨(hv.turn h0).1.to,Z59 hv h0⟩,⟨b1.to,Zzg b3⟩,⟨n1.to,Zzg n3⟩⟩
theorem Ya0{f:Int}{ls:List Lt}(he:W4 f ls=0) :
 PCall Tryz.prog 27 [cV f ls] (.tuple [cV f (swN ls),.int .i64 0])∧PCall Tryz.prog 28 [cV f ls] (.tuple [cV f (tuN ls),.int .i64 0]) ∧
 PCall Tryz.prog 29 [cV f ls] (.tuple [cV f (U4 ls),.int .i64 0])∧PCall Tryz.prog 30 [cV f ls] (.tuple [cV f (I9 ls),.int .i64 0]):=by
 refine⟨?_,?_,?_,c64v f ls he⟩
 ·by_cases h0:ls=[]
  ·subst h0; exact c32e f he
  ·exact c32v f ls (Zaz he h0) h0
 ·by_cases h0:ls=[]
  ·subst h0; rw[Zin]; exact c27e f he
  ·exact c27v f ls (Zaz he h0) h0
 ·by_cases h0:ls=[]
  ·subst h0; exact Ye9 f he
  ·exact Ydw f ls (Zaz he h0) h0
theorem Zhy{f:Int}{ls:List Lt}(he:W4 f ls=0):ls.length≤400∧(tuN ls).length≤400:=by
 by_cases h0:ls=[]
 ·subst h0; rw[Zin]; simp
 ·have hv:=Zaz he h0;exact⟨hv.len,(hv.turn h0).1.len⟩
set_option maxRecDepth 100000 in
set_option maxHeartbeats 16000000 in
theorem Yec(f:Int)(ls:List Lt):PCall Tryz.prog 6 [cV f ls] (.bool true):=by
 refine Zbb hm Tryz.func6 Z9b rfl rfl (by simp[Y0,AVal.closed,Z9]) trivial fun K hK=>?_
 have h18:=c18 f ls;by_cases hs:ls.length≤40∧W4 f ls=0
 rotate_left
 ·have hb:(decide (ls.length≤40)&&decide (W4 f ls=0))=false:=by simpa using hs
  rw[hb]at h18;unfold cV at *;generalize ls.map rowL=rows at *;simp;refine W3 h18 ?_;simp;refine W3 Zy2 ?_;simp;exact Y1 hK [] (by simp)
 obtain⟨hl,he⟩:=hs;have hb:(decide (ls.length≤40)&&decide (W4 f ls=0))=true:=by simp[hl,he]
 rw[hb]at h18;obtain⟨hf0,hf1⟩:=Zv5 he;obtain⟨F,rfl⟩:∃ F:Nat,f=F:=⟨f.toNat,by omega⟩
 obtain⟨⟨e1,p1⟩,⟨e2,p2⟩,⟨e3,p3⟩,⟨e4,p4⟩⟩:=Z7p he F;obtain⟨cS,cT,cB,cN⟩:=Ya0 he;obtain⟨l1,l2⟩:=Zhy he;obtain⟨l3,l4⟩:=Zhy e1;obtain⟨l5,l6⟩:=Zhy e2;have d0:=Zh5 F ls he;have d1:=Zh5 F (swN ls) e1;have d2:=Zh5 F (tuN ls) e2;have d3:=Zh5 F (U4 ls) e3;have d4:=Zh5 F (I9 ls) e4;have s0:=Zqo F ls (by omega) l1 l2
 have s1:=Zqo F (swN ls) (by omega) l3 l4
 have s2:=Zqo F (tuN ls) (by omega) l5 l6
 have o1:=cOpp (X1 4 ls) (by have:=Zlu ls; omega)
 have o2:=cOpp (X1 4 (tuN ls)) (by have:=Zlu (tuN ls); omega)
 rw[p1]at d1 s1;rw[p2]at d2 s2;rw[p3]at d3;rw[p4]at d4;have hcI:=Ze6 ((X1 4 ls).map rwR);have hoI:=Zfe ((X1 4 ls).map rwR);have hcJ:=Ze6 ((X1 4 (tuN ls)).map rwR);have hoJ:=Zfe ((X1 4 (tuN ls)).map rwR);have hcI':=Ze6 (((X1 4 ls).map (flR true)).map rwR);have hoI':=Zfe (((X1 4 ls).map (flR true)).map rwR);have hcJ':=Ze6 (((X1 4 (tuN ls)).map (flR true)).map rwR);have hoJ':=Zfe (((X1 4 (tuN ls)).map (flR true)).map rwR);unfold L7 pcV at *;unfold cV at *;generalize imV (((X1 4 ls).map (flR true)).map rwR)=IA' at *;generalize imV (((X1 4 (tuN ls)).map (flR true)).map rwR)=IB' at *
 generalize imV ((X1 4 ls).map rwR)=IA at *;generalize imV ((X1 4 (tuN ls)).map rwR)=IB at *;generalize Z0 (gtN F ls ls.length)=G at *;generalize (swN ls).map rowL=RS at *;generalize (tuN ls).map rowL=RT at *;generalize (U4 ls).map rowL=RB at *;generalize (I9 ls).map rowL=RN at *;generalize ls.map rowL=rows at *;clear p1 p2 p3 p4 e1 e2 e3 e4 l1 l2 l3 l4 l5 l6;simp;refine W3 h18 ?_;simp;refine W3 d0 ?_;simp[hcI,hoI,hcJ,hoJ];refine W3 cS ?_;simp[hcI,hoI,hcJ,hoJ];refine W3 cT ?_;simp[hcI,hoI,hcJ,hoJ];refine W3 cB ?_;simp[hcI,hoI,hcJ,hoJ];refine W3 cN ?_;simp[hcI,hoI,hcJ,hoJ];refine W3 d1 ?_
 simp[hcI,hoI,hcJ,hoJ,hcI',hoI',hcJ',hoJ'];refine W3 d2 ?_;simp[hcI,hoI,hcJ,hoJ,hcI',hoI',hcJ',hoJ'];refine W3 d3 ?_;simp[hcI,hoI,hcJ,hoJ,hcI',hoI',hcJ',hoJ'];refine W3 d4 ?_;simp[hcI,hoI,hcJ,hoJ,hcI',hoI',hcJ',hoJ'];refine B8 o1 ?_;simp[hcI,hoI,hcJ,hoJ,hcI',hoI',hcJ',hoJ'];refine B8 o2 ?_;simp[hcI,hoI,hcJ,hoJ,hcI',hoI',hcJ',hoJ'];refine W3 s1 ?_;simp[hcI,hoI,hcJ,hoJ,hcI',hoI',hcJ',hoJ'];refine W3 s2 ?_;simp[hcI,hoI,hcJ,hoJ,hcI',hoI',hcJ',hoJ'];refine W3 s0 ?_;simp[hcI,hoI,hcJ,hoJ,hcI',hoI',hcJ',hoJ'];refine W3 s0 ?_;simp[hcI,hoI,hcJ,hoJ,hcI',hoI',hcJ',hoJ'];refine W3 Zy2 ?_;simp
 exact Y1 hK [] (by simp)
end Go.Known
end
section
namespace Go.Known
open Go Go.AE Go.Proofs
open Go.Plain
open Go.ChangeShapes Go.WideShapes Go.RowKit Go.Deep
variable {H:Type} {enc:TypeId×Value→H} {w:World} {base:Nat} {spare:Nat→Bool} {held:Bool}
theorem Yb5{v:Value}{f:Int}{ls:List Lt}(hR:∀ ρ,R (allP w) ρ (cV f ls) v):Calls Tryz.prog 6 #[v] w fun e w'=>e=.returned (.bool true)∧Below w.heap.size w w':=by
 have hc:=Yec f ls ⟨fun _=>none,1⟩ []
 refine(hc.2 ⟨w,fun _=>none,allP w⟩ (allP w) (fun _=>none) #[v] w ⟨⟨Below.refl _ _,fun B o hB=>(by cases hB)⟩,fun B c hB=>Ya1 hB,fun b x hx=>(by cases hx),fun b b' x x' l l' h1=>(by cases h1),fun b l hb=>(by cases hb),fun B c hB=>.inl hB⟩
  ⟨rfl,fun i x u hx hu=>?_⟩ (fun b hb=>by simp at hb)).mono fun e w' he=>?_
 ·match i,hx,hu with
  | 0,hx,hu=>cases hx; cases hu; exact hR _
  | i+1,hx,hu=>simp at hx
 ·obtain⟨u,r,m',Φ',ρ',rfl,_,_,hr,hRr,_,rfl,_⟩:=he;refine⟨?_,hr.base.below⟩;cases hRr;rfl
end Go.Known
end
