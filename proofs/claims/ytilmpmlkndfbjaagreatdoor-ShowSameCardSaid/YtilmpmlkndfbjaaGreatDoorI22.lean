/- Part 22 of the proof: Re, Rf. -/
import Derived.Test.YtilmpmlkndfbjaaGreatDoorI19
import Derived.Test.YtilmpmlkndfbjaaGreatDoorI20
import Derived.Test.YtilmpmlkndfbjaaGreatDoorI21
set_option linter.all false
section
namespace Go.Known
open Go Go.AE Go.Proofs
open Go.Plain
attribute [local simp] Zb1 Zcg Zb5 Zc7 Zdf Zd8 Zen Zbx Zcz O4 P9 P7 O0 P6 P8 Zd0 Zbw Zb6 Zco Zeg Zbo Zc3 Zc0 Zdx Zbv Zem Zb8 Zd9 Zcl Zej Zbz Zcs Zdy Zec Zch Zck Zbu Zdd Zc8 Zb7 Zcw Zbt Zds Zdj Zdt Zc9 Zeb Zea Zcv Zcu Zby Zdz Zee Zc1 Zd4 Zcr Zeh Zek Zb0 Zel Zdq Zcn Zcx Zdo Zdg Zcj Zdp Zbj Zc6 Zc5 Env.get V2 SMem.at SMem.app SMem.get Z9 Q5 AVal.cells AVal.one T9 Q8 Zd5 Zda Zei Zcq Zdk Zd7 Zcf Zb2 Zdl Zbq Zcp Zdm Zde unA R8 U8 G5 L4 W4 aundef Zdw Zct Zc4 Zb9 Zbs P3 V8 L5 L1 M8 G6 S3 H7 SubR SubRE SubRB InjK InjA qOf Zat AVal.ren Q4 Z4 ABlk.ren K5 R0 M7
theorem Zrd(T:Nat→Nat)(N:Nat):∀ (k:Nat) (seen:List Bool),cyc T N k seen≤k
 | 0,_=>Nat.le_refl _
 | k+1,seen=>by
  simp only[cyc];split
  ·have:=Zrd T N k seen; omega
  ·have:=Zrd T N k (Plain.mark T (N+1) seen (N - (k+1))); omega
set_option maxRecDepth 100000 in
set_option maxHeartbeats 4000000 in
theorem c135(F:Nat)(ls:List Lt)(E:List Ent)(hg:Filled ls E)(hT:∀ d,d<2*ls.length+2*(Z1 ls).length→Y4 ls (Z1 ls) d<2*ls.length+2*(Z1 ls).length)(hE:E.length≤1000) :
 Ctr Tryz.prog 144 [.ptr 1 0 0] (dF F ls (ls.map rowL) E) fun r m=>r=.bool (decide (L2 (Y4 ls (Z1 ls)) (2*ls.length+2*(Z1 ls).length)=(Z1 ls).length+E.length+2))∧m=dF F ls (ls.map rowL) E:=by
 refine A8 hm Tryz.func144 Z1m rfl rfl fun K hK=>?_
 have hR:=L0 ls;have h:=hg.small;have D:=fun d hd=>c105 F ls E hg d hd
 unfold dF dM dV2 at *;have o:∀ q,Z4 q (ls.map rowL)=ls.map rowL:=fun q=>X1 q _ (Y5 ls)
 generalize ls.map rowL=rows at *;have V:=hR.len;have au:=hg.some;have av:(Z1 ls).length≤ls.length:=by rw[T4]; exact D2
 generalize ad:bls (X8 ls.length ls.length (V6 ls) false)=B at *;generalize ae:Z2 (X8 ls.length ls.length (R6 ls) 0)=C at *;generalize ac:Z2 (Z1 ls)=A at *;have j:∀ q,Z4 q A=A:=fun q=>by rw[← ac]; exact Z6 q _
 have k:∀ q,Z4 q B=B:=fun q=>by rw[← ad]; exact W3 q _
 have n:∀ q,Z4 q C=C:=fun q=>by rw[← ae]; exact Z6 q _
 generalize (Z1 ls).length=m at *;generalize Y4 ls (Z1 ls)=T at *;obtain⟨g,O⟩:∃ g,2*ls.length+2*m=g:=⟨_,rfl⟩
 have aj:IntKind.i64.wrap (2*(ls.length:Int))=2*(ls.length:Int):=Z5 (by omega) (by omega)
 have ak:IntKind.i64.wrap (2*(m:Int))=2*(m:Int):=Z5 (by omega) (by omega)
 have al:IntKind.i64.wrap (2*(ls.length:Int)+2*(m:Int))=(g:Int):=by rw[Z5 (by omega) (by omega)]; omega
 have af:g≤1048576:=by omega
 have aq:g≤4000:=by omega
 rw[O]at hT D;simp only[O]at hK;obtain⟨M,J⟩:∃ M,List.replicate g false=M:=⟨_,rfl⟩
 have e1:List.replicate g [AVal.bool false]=bls M:=by rw[← J,Zm9]
 have Q:M.length=g:=by rw[← J]; simp
 simp[X6,V,aj,ak,al,af,e1];refine Q7 (α:=Nat×Nat×List Bool) (fun a=>[(25,.int .i64 a.1),(24,.int .i64 g),(5,.int .i64 a.2.1),(4,.sl 7 0 g),(0,.ptr 1 0 0)])
  (fun a=>⟨[(1,.cells 7 [[.int .i64 (F:Int),.imm rows,.sl 3 0 ls.length,.sl 5 0 m,.sl 4 0 ls.length,.map 6,.sl 2 0 (F+1)]]),(2,.cells 1 (Z2 (R5 F ls))),(3,.cells 1 B),(4,.cells 1 C),(5,.cells 1 A),(6,.map (mkE 0 E) E.length),(7,.cells 1 (bls a.2.2))],8⟩)
  (fun a=>g - a.1) (fun a=>a.1≤g∧a.2.2.length=g∧a.2.1+cyc T g (g - a.1) a.2.2=L2 T g) (0,0,M) [(7,24)] (by simp[o,j,k,n,Z8,Z6,W3]) ⟨by simp,Q,by simp[L2,J]⟩ ?_
 rintro⟨d,c,seen⟩ ⟨hd,hs,e⟩ N hN;simp only at hd hs e hN ⊢;have ar:c≤g:=by
  have:=Zrd T g g (List.replicate g false);unfold L2 at e;omega
 by_cases w:d<g
 ·have ab:IntKind.i64.wrap ((d:Int)+1)=(d:Int)+1:=Z5 (by omega) (by omega)
  have am:IntKind.i64.wrap ((c:Int)+1)=(c:Int)+1:=Z5 (by omega) (by omega)
  obtain⟨b,hb⟩:∃ b,seen[d]? = some b:=⟨_,gE (by omega)⟩
  have u:=Ze0 hb;have U:(bls seen).length=g:=by rw[bls,List.length_map,hs]
  cases b with
  | true=>
   rw[Z8l w hb]at e;generalize t:bls seen=S at *;obtain⟨_,v⟩:=X5 u;simp[w,u,v,U,ab];exact hN (d+1,c,seen) [] _ _ (by simp; omega) ⟨by simp; omega,hs,e⟩ (by simp[o,j,k,n,Z8,Z6,W3,t.symm])
  | false=>
   rw[Zwb w hb]at e;have ao:=u;generalize t:bls seen=S at *;obtain⟨_,v⟩:=X5 u;simp[w,u,v,U,am];subst t;refine Q7 (α:=Nat×List Bool×Nat) (fun a=>[(7,.int .i64 a.1),(5,.int .i64 ((c:Int)+1)),(25,.int .i64 d),(24,.int .i64 g),(4,.sl 7 0 g),(0,.ptr 1 0 0)])
    (fun a=>⟨[(1,.cells 7 [[.int .i64 (F:Int),.imm rows,.sl 3 0 ls.length,.sl 5 0 m,.sl 4 0 ls.length,.map 6,.sl 2 0 (F+1)]]),(2,.cells 1 (Z2 (R5 F ls))),(3,.cells 1 B),(4,.cells 1 C),(5,.cells 1 A),(6,.map (mkE 0 E) E.length),(7,.cells 1 (bls a.2.1))],8⟩)
    (fun a=>D9 a.2.1) (fun a=>a.1<g∧a.2.1.length=g∧D9 a.2.1≤a.2.2∧Plain.mark T (g+1) seen d=Plain.mark T (a.2.2+1) a.2.1 a.1) (d,seen,g) [] (by simp[o,j,k,n,Z8,Z6,W3]) ⟨w,hs,by have:=Zfp (l:=seen); simp; omega,rfl⟩ ?_
   rintro⟨x,H,fu⟩ ⟨hx,z,ai,i⟩ N2 P;simp only at hx z ai i P ⊢;obtain⟨b2,y⟩:∃ b2,H[x]? = some b2:=⟨_,gE (by omega)⟩
   have s:=Ze0 y;have G:(bls H).length=g:=by rw[bls,List.length_map,z]
   cases b2 with
   | true=>
    rw[Zzb y]at i;generalize t:bls H=S at *;obtain⟨_,p⟩:=X5 s;simp[hx,s,p,G,ab];subst t;refine hN (d+1,c+1,H) [] _ _ (by simp; omega) ⟨by simp; omega,z,?_⟩ (by simp[o,j,k,n,Z8,Z6,W3])
    simp only;rw[i]at e;rw[← e,Nat.add_assoc]
   | false=>
    rw[Zyj y]at i;have aw:=Zsw y;have X:=Znq H x true;have ag:=hT x hx;have Y:(H.set x true).length=g:=by simpa using z
    generalize H.set x true=an at *;generalize t:bls H=S at *;obtain⟨_,p⟩:=X5 s;simp[hx,s,p,G,X];refine U9 (D x hx) [] (by simp) (by simp[o,j,k,n,Z8,Z6,W3]) (by simp) ?_
    rintro r sm ⟨rfl,rfl⟩;simp[o,j,k,n,Z8,Z6,W3];obtain⟨I,ah⟩:∃ I,fu=I+1:=⟨fu - 1,by omega⟩
    subst ah;exact P (T x,an,I) [] _ _ (by simp; omega) ⟨ag,Y,by simp; omega,i⟩ (by simp[o,j,k,n,Z8,Z6,W3])
 have he:d=g:=by omega
 subst he;rw[Nat.sub_self]at e;simp only[cyc,Nat.add_zero]at e;have Z:IntKind.i64.wrap ((m:Int)+(E.length:Int))=(m:Int)+(E.length:Int):=Z5 (by omega) (by omega)
 have aa:IntKind.i64.wrap ((m:Int)+(E.length:Int)+2)=(m:Int)+(E.length:Int)+2:=Z5 (by omega) (by omega)
 by_cases hc:c=m+E.length+2
 ·have L:(c:Int)=(m:Int)+(E.length:Int)+2:=by omega
  simp[Zix,Z,aa,L];refine Y1 hK [] ?_;rw[← e];simp[o,j,k,n,Z8,Z6,W3,hc]
 ·have L:¬(c:Int)=(m:Int)+(E.length:Int)+2:=by omega
  simp[Zix,Z,aa,L];refine Y1 hK [] ?_;rw[← e];simp[o,j,k,n,Z8,Z6,W3,hc]
end Go.Known
end
section
namespace Go.Known
open Go Go.AE Go.Proofs
open Go.Plain
attribute [local simp] Zb1 Zcg Zb5 Zc7 Zdf Zd8 Zen Zbx Zcz O4 P9 P7 O0 P6 P8 Zd0 Zbw Zb6 Zco Zeg Zbo Zc3 Zc0 Zdx Zbv Zem Zb8 Zd9 Zcl Zej Zbz Zcs Zdy Zec Zch Zck Zbu Zdd Zc8 Zb7 Zcw Zbt Zds Zdj Zdt Zc9 Zeb Zea Zcv Zcu Zby Zdz Zee Zc1 Zd4 Zcr Zeh Zek Zb0 Zel Zdq Zcn Zcx Zdo Zdg Zcj Zdp Zbj Zc6 Zc5 Env.get V2 SMem.at SMem.app SMem.get Z9 Q5 AVal.cells AVal.one T9 Q8 Zd5 Zda Zei Zcq Zdk Zd7 Zcf Zb2 Zdl Zbq Zcp Zdm Zde unA R8 U8 G5 L4 W4 aundef Zdw Zct Zc4 Zb9 Zbs P3 V8 L5 L1 M8 G6 S3 H7 SubR SubRE SubRB InjK InjA qOf Zat AVal.ren Q4 Z4 ABlk.ren K5 R0 M7
def Zf7(F:Nat)(ls:List Lt):Prop:=
 ls.all (okC F)=true∧(at' ls 0).k=1∧Z0 ls % 2=0∧rkF ls (Z0 ls) ls.length=true∧CrOk ls∧L2 (Y4 ls (Z1 ls)) (2*ls.length+2*(Z1 ls).length)=(Z1 ls).length+(crE ls ls.length).length+2
def stg(F:Nat)(ls:List Lt)(rows:List (List AVal)):Nat→List (Nat×ABlk)
 | 0|1|2=>[(1,dV0 F rows)]
 | 3=>[(1,dV1 F ls.length (Z1 ls).length rows),(2,.cells 1 (Z2 (R5 F ls))),(3,.cells 1 (bls (X8 ls.length ls.length (V6 ls) false))),(4,.cells 1 (Z2 (X8 ls.length ls.length (R6 ls) 0))),(5,.cells 1 (Z2 (Z1 ls)))]
 | _=>[(1,dV2 F ls.length (Z1 ls).length rows),(2,.cells 1 (Z2 (R5 F ls))),(3,.cells 1 (bls (X8 ls.length ls.length (V6 ls) false))),(4,.cells 1 (Z2 (X8 ls.length ls.length (R6 ls) 0))),(5,.cells 1 (Z2 (Z1 ls))),(6,.map (mkE 0 (crE ls ls.length)) (crE ls ls.length).length)]
abbrev clos:ABlk:=.cells 1 [[.func (.func 140) [.ptr 1 0 0] []],[.func (.func 141) [.ptr 1 0 0] []],[.func (.func 142) [.ptr 1 0 0] []],[.func (.func 143) [.ptr 1 0 0] []],[.func (.func 144) [.ptr 1 0 0] []]]
set_option maxRecDepth 100000 in
set_option maxHeartbeats 4000000 in
theorem c104(F:Nat)(ls:List Lt)(h:ls.length≤1000)(hF:F≤1000) :
 Ctr Tryz.prog 111 [.ptr 1 0 0] (dM1 F (ls.map rowL)) fun r m=>(ls=[]∧r=.bool true∧m=dM1 F (ls.map rowL))∨(ls≠[]∧Zf7 F ls∧r=.bool true∧m=dF F ls (ls.map rowL) (crE ls ls.length))∨(ls≠[] ∧ ¬Zf7 F ls∧r=.bool false∧m=⟨[],2⟩):=by
 refine E7 hm Tryz.func111 Ztp rfl rfl fun K Q=>?_
 have hR:=L0 ls;have H:=c131 F ls h;have I:=c132 F ls h;have J:=c133 F ls h hF;have L:=fun A B C D=>c134 F ls (Z1 ls).length h A B C D
 have M:=c135 F ls (crE ls ls.length);have a:∀ q,Z4 q (ls.map rowL)=ls.map rowL:=fun q=>X1 q _ (Y5 ls)
 generalize ls.map rowL=rows at *;have c:=hR.len;by_cases z:ls=[]
 ·have ad:rows=[]:=List.length_eq_zero_iff.1 (by rw[c,z]; rfl)
  have Y:=Q _ _ (.inl ⟨z,rfl,rfl⟩);subst ad;simp;exact Y1 Y [] (by simp)
 have t:0<ls.length:=List.length_pos_iff.2 z;have ac:¬rows=[]:=fun e=>by rw[e]at c; simp at c; omega
 have O:Zf7 F ls → ∀ l m,SubR 2 l [(0,.bool true)] (dF F ls rows (crE ls ls.length)) [(0,.bool true)] m→S4 2 K (.bool true) m:=
  fun hr l m hs=>Y1 (Q _ _ (.inr (.inl ⟨z,hr,rfl,rfl⟩))) l hs
 have g:¬Zf7 F ls → ∀ l m,SubR 2 l [(0,.bool false)] ⟨[],2⟩ [(0,.bool false)] m→S4 2 K (.bool false) m:=
  fun hr l m hs=>Y1 (Q _ _ (.inr (.inr ⟨z,hr,rfl,rfl⟩))) l hs
 clear Q;simp[c,z,ac];refine Q7 (α:=Nat) (fun i=>[(24,.int .i64 i),(23,.int .i64 5),(22,.sl 7 0 5),(0,.ptr 1 0 0)]) (fun i=>⟨stg F ls rows i++[(7,clos)],8⟩)
  (fun i=>5 - i) (fun i=>i≤5∧(0<i→ls.all (okC F)=true)∧(1<i→(at' ls 0).k=1∧Z0 ls % 2=0)∧(2<i→rkF ls (Z0 ls) ls.length=true)∧(3<i→CrOk ls) ∧
    (4<i→L2 (Y4 ls (Z1 ls)) (2*ls.length+2*(Z1 ls).length)=(Z1 ls).length+(crE ls ls.length).length+2)) 0 [(7,20)] (by simp[stg,a,Z8,Z6,W3]) (by simp) ?_
 rintro i ⟨hi,s,u,G,P,g5⟩ N E
 try simp only at hi s u G P g5 E ⊢
 have w1:IntKind.i64.wrap 1=1:=by decide
 have w2:IntKind.i64.wrap 2=2:=by decide
 have n:IntKind.i64.wrap 3=3:=by decide
 have o:IntKind.i64.wrap 4=4:=by decide
 have p:IntKind.i64.wrap 5=5:=by decide
 rcases (show i=0∨i=1∨i=2∨i=3∨i=4∨i=5 by omega)with rfl|rfl|rfl|rfl|rfl|rfl
 ·simp[stg];refine U9 H [] (by simp) (by simp[a,Z8,Z6,W3]) (by simp) ?_
  rintro r U ⟨rfl,rfl⟩;cases b:ls.all (okC F)with
  | true=>
   simp[a,Z8,Z6,W3,w1,w2,n,o,p];exact E 1 [] _ _ (by omega) ⟨by omega,fun _=>b,by omega,by omega,by omega,by omega⟩ (by simp[stg,a,Z8,Z6,W3])
  | false=>
   simp[a,Z8,Z6,W3,w1,w2,n,o,p];exact g (fun j=>by rw[j.1]at b; cases b) [] _ (by simp)
 ·simp[stg];refine U9 (I t) [] (by simp) (by simp[a,Z8,Z6,W3]) (by simp) ?_
  rintro r U ⟨rfl,rfl⟩;by_cases b:(at' ls 0).k=1∧Z0 ls % 2=0
  ·simp[a,Z8,Z6,W3,w1,w2,n,o,p,b];exact E 2 [] _ _ (by omega) ⟨by omega,fun _=>s (by omega),fun _=>b,by omega,by omega,by omega⟩ (by simp[stg,a,Z8,Z6,W3])
  ·have aa:(decide ((at' ls 0).k=1)&&decide (Z0 ls % 2=0))=false:=by
    rw[← Bool.not_eq_true]; simpa using b
   rw[aa];simp[a,Z8,Z6,W3,w1,w2,n,o,p];exact g (fun j=>b ⟨j.2.1,j.2.2.1⟩) [] _ (by simp)
 ·have X:=Zhu (s (by omega))
  simp[stg];refine U9 (J X) [] (by simp) (by simp[a,Z8,Z6,W3]) (by simp) ?_
  rintro r U (⟨b,rfl,rfl⟩|⟨b,rfl,rfl⟩)
  ·have w:=Yeb X b;have Z:=T4 ls;unfold dR;rw[w,← Z];simp[a,Z8,Z6,W3,w1,w2,n,o,p];exact E 3 [(2,15),(3,16),(4,17),(5,18)] _ _ (by omega) ⟨by omega,fun _=>s (by omega),fun _=>u (by omega),fun _=>b,by omega,by omega⟩ (by simp[stg,a,Z8,Z6,W3])
  ·simp[a,Z8,Z6,W3,w1,w2,n,o,p];exact g (fun j=>by rw[j.2.2.2.1]at b; cases b) [] _ (by simp)
 ·simp[stg];refine U9 (L (Z2 (R5 F ls)) (bls (X8 ls.length ls.length (V6 ls) false)) (Z2 (X8 ls.length ls.length (R6 ls) 0)) (Z2 (Z1 ls)) (fun q=>Z6 q _) (fun q=>W3 q _) (fun q=>Z6 q _) (fun q=>Z6 q _)) [] (by simp) (by simp[a,Z8,Z6,W3]) (by simp) ?_
  rintro r U (⟨b,rfl,rfl⟩|⟨b,rfl,rfl⟩)
  ·simp[a,Z8,Z6,W3,w1,w2,n,o,p];exact E 4 [(6,15)] _ _ (by omega) ⟨by omega,fun _=>s (by omega),fun _=>u (by omega),fun _=>G (by omega),fun _=>b,by omega⟩ (by simp[stg,a,Z8,Z6,W3])
  ·simp[a,Z8,Z6,W3,w1,w2,n,o,p];exact g (fun j=>b j.2.2.2.2.1) [] _ (by simp)
 ·have X:=Zhu (s (by omega))
  have y:=Yfl h (s (by omega)) t (u (by omega)).1 (G (by omega)) (P (by omega))
  have w:∀ v,v∈Z1 ls→v<ls.length:=fun v S=>(mem_axis.1 S).1
  have ab:∀ v,v<ls.length→(at' ls v).k≠2→v∈Z1 ls:=fun v S h2=>mem_axis.2 ⟨S,by simp[isP,(y.kind v S).resolve_right h2]⟩
  have hT:∀ d,d<2*ls.length+2*(Z1 ls).length→Y4 ls (Z1 ls) d<2*ls.length+2*(Z1 ls).length:=fun d hd=>Zs0 w ab y.some hd
  have V:(crE ls ls.length).length≤1000:=by have:=Zwg ls ls.length; omega
  simp[stg];refine U9 (M y hT V) [] (by simp) (by simp[a,Z8,Z6,W3]) (by simp) ?_
  rintro r U ⟨rfl,rfl⟩;by_cases b:L2 (Y4 ls (Z1 ls)) (2*ls.length+2*(Z1 ls).length)=(Z1 ls).length+(crE ls ls.length).length+2
  ·simp[a,Z8,Z6,W3,w1,w2,n,o,p,b];exact E 5 [] _ _ (by omega) ⟨by omega,fun _=>s (by omega),fun _=>u (by omega),fun _=>G (by omega),fun _=>P (by omega),fun _=>b⟩ (by simp[stg,a,Z8,Z6,W3])
  ·simp[a,Z8,Z6,W3,w1,w2,n,o,p,b];exact g (fun j=>b j.2.2.2.2.2) [] _ (by simp)
 ·simp[stg];exact O ⟨s (by omega),(u (by omega)).1,(u (by omega)).2,G (by omega),P (by omega),g5 (by omega)⟩ [] _ (by simp[a,Z8,Z6,W3])
end Go.Known
end
