/- Part 21 of the proof: Re, Rf, Rs. -/
import Derived.Test.YtilmpmlkndfbjaaGreatDoorR13
import Derived.Test.YtilmpmlkndfbjaaGreatDoorR18
import Derived.Test.YtilmpmlkndfbjaaGreatDoorR19
import Derived.Test.YtilmpmlkndfbjaaGreatDoorR20
set_option linter.all false
section
namespace Go.Known
open Go Go.AE Go.Proofs
open Go.Plain
attribute [local simp] Zdk Zcv Zbn Zdb Zb9 Zdz Zcb Zcm Zc7 O6 O3 P8 P7 O1 O5 Zcy Zbm Zdo Zdd Zd5 Zdy Zdf Zdi Zbj Zbv Zdw Zbe Zbz Zbf Zca Zde Zbg Zd2 Zbh Zc5 Zdj Zc4 Zcq Zcr Zbu Zb8 Zd0 Zch Zby Zbq Zcg Zb5 Zcn Zcl Zbp Zck Zdc Zb3 Zcu Zdh Zb0 Zdq Zbs Zc2 Zb4 Zb7 Zdn Zdr Zd1 Zcp Zcd Zb1 Za8 Za3 Zc8 Env.get U1 SMem.at SMem.app SMem.get Z7 S3 AVal.cells AVal.one T7 P0 Zc6 Zbi Zbo Zbc Zda Zcx Zdp Zcz Zbw Zc3 Zdm Zc9 Zdv unA Q7 T0 H5 L4 W8 aundef Zbx Zbr Zce Zbt Zdg P5 Y8 L8 L3 H3 B5 Q9 F4 SubR SubRE SubRB InjK InjA qOf W3 AVal.ren U7 Z6 ABlk.ren J3 Q6 M5
theorem Zrd(T:Nat→Nat)(N:Nat):∀ (k:Nat) (seen:List Bool),cyc T N k seen≤k
 | 0,_=>Nat.le_refl _
 | k+1,seen=>by
  simp only[cyc];split
  ·have:=Zrd T N k seen; omega
  ·have:=Zrd T N k (Plain.mark T (N+1) seen (N - (k+1))); omega
set_option maxRecDepth 100000 in
set_option maxHeartbeats 4000000 in
theorem c135(F:Nat)(ls:List Lt)(E:List Ent)(hg:Filled ls E)(hT:∀ d,d<2*ls.length+2*(Z4 ls).length→V1 ls (Z4 ls) d<2*ls.length+2*(Z4 ls).length)(hE:E.length≤1000) :
 Ctr Tryz.prog 144 [.ptr 1 0 0] (dF F ls (ls.map rowL) E) fun r m=>r=.bool (decide (K1 (V1 ls (Z4 ls)) (2*ls.length+2*(Z4 ls).length)=(Z4 ls).length+E.length+2))∧m=dF F ls (ls.map rowL) E:=by
 refine Za1 hm Tryz.func144 Zw3 rfl rfl fun K hK=>?_
 have hR:=M9 ls;have h:=hg.small;have D:=fun d hd=>c105 F ls E hg d hd
 unfold dF dM dV2 at *;have o:∀ q,Z6 q (ls.map rowL)=ls.map rowL:=fun q=>X6 q _ (U6 ls)
 generalize ls.map rowL=rows at *;have V:=hR.len;have au:=hg.some;have av:(Z4 ls).length≤ls.length:=by rw[H6]; exact Za6
 generalize ad:bls (V5 ls.length ls.length (Q2 ls) false)=B at *;generalize ae:Z0 (V5 ls.length ls.length (O0 ls) 0)=C at *;generalize ac:Z0 (Z4 ls)=A at *;have j:∀ q,Z6 q A=A:=fun q=>by rw[← ac]; exact Z8 q _
 have k:∀ q,Z6 q B=B:=fun q=>by rw[← ad]; exact V0 q _
 have n:∀ q,Z6 q C=C:=fun q=>by rw[← ae]; exact Z8 q _
 generalize (Z4 ls).length=m at *;generalize V1 ls (Z4 ls)=T at *;obtain⟨g,O⟩:∃ g,2*ls.length+2*m=g:=⟨_,rfl⟩
 have aj:IntKind.i64.wrap (2*(ls.length:Int))=2*(ls.length:Int):=Z1 (by omega) (by omega)
 have ak:IntKind.i64.wrap (2*(m:Int))=2*(m:Int):=Z1 (by omega) (by omega)
 have al:IntKind.i64.wrap (2*(ls.length:Int)+2*(m:Int))=(g:Int):=by rw[Z1 (by omega) (by omega)]; omega
 have af:g≤1048576:=by omega
 have aq:g≤4000:=by omega
 rw[O]at hT D;simp only[O]at hK;obtain⟨M,J⟩:∃ M,List.replicate g false=M:=⟨_,rfl⟩
 have e1:List.replicate g [AVal.bool false]=bls M:=by rw[← J,Zkr]
 have Q:M.length=g:=by rw[← J]; simp
 simp[W6,V,aj,ak,al,af,e1];refine B0 (α:=Nat×Nat×List Bool) (fun a=>[(25,.int .i64 a.1),(24,.int .i64 g),(5,.int .i64 a.2.1),(4,.sl 7 0 g),(0,.ptr 1 0 0)])
  (fun a=>⟨[(1,.cells 7 [[.int .i64 (F:Int),.imm rows,.sl 3 0 ls.length,.sl 5 0 m,.sl 4 0 ls.length,.map 6,.sl 2 0 (F+1)]]),(2,.cells 1 (Z0 (P4 F ls))),(3,.cells 1 B),(4,.cells 1 C),(5,.cells 1 A),(6,.map (mkE 0 E) E.length),(7,.cells 1 (bls a.2.2))],8⟩)
  (fun a=>g - a.1) (fun a=>a.1≤g∧a.2.2.length=g∧a.2.1+cyc T g (g - a.1) a.2.2=K1 T g) (0,0,M) [(7,24)] (by simp[o,j,k,n,Y2,Z8,V0]) ⟨by simp,Q,by simp[K1,J]⟩ ?_
 rintro⟨d,c,seen⟩ ⟨hd,hs,e⟩ N hN;simp only at hd hs e hN ⊢;have ar:c≤g:=by
  have:=Zrd T g g (List.replicate g false);unfold K1 at e;omega
 by_cases w:d<g
 ·have ab:IntKind.i64.wrap ((d:Int)+1)=(d:Int)+1:=Z1 (by omega) (by omega)
  have am:IntKind.i64.wrap ((c:Int)+1)=(c:Int)+1:=Z1 (by omega) (by omega)
  obtain⟨b,hb⟩:∃ b,seen[d]? = some b:=⟨_,gE (by omega)⟩
  have u:=Zga hb;have U:(bls seen).length=g:=by rw[bls,List.length_map,hs]
  cases b with
  | true=>
   rw[Z36 w hb]at e;generalize t:bls seen=S at *;obtain⟨_,v⟩:=Y5 u;simp[w,u,v,U,ab];exact hN (d+1,c,seen) [] _ _ (by simp; omega) ⟨by simp; omega,hs,e⟩ (by simp[o,j,k,n,Y2,Z8,V0,t.symm])
  | false=>
   rw[Zup w hb]at e;have ao:=u;generalize t:bls seen=S at *;obtain⟨_,v⟩:=Y5 u;simp[w,u,v,U,am];subst t;refine B0 (α:=Nat×List Bool×Nat) (fun a=>[(7,.int .i64 a.1),(5,.int .i64 ((c:Int)+1)),(25,.int .i64 d),(24,.int .i64 g),(4,.sl 7 0 g),(0,.ptr 1 0 0)])
    (fun a=>⟨[(1,.cells 7 [[.int .i64 (F:Int),.imm rows,.sl 3 0 ls.length,.sl 5 0 m,.sl 4 0 ls.length,.map 6,.sl 2 0 (F+1)]]),(2,.cells 1 (Z0 (P4 F ls))),(3,.cells 1 B),(4,.cells 1 C),(5,.cells 1 A),(6,.map (mkE 0 E) E.length),(7,.cells 1 (bls a.2.1))],8⟩)
    (fun a=>D6 a.2.1) (fun a=>a.1<g∧a.2.1.length=g∧D6 a.2.1≤a.2.2∧Plain.mark T (g+1) seen d=Plain.mark T (a.2.2+1) a.2.1 a.1) (d,seen,g) [] (by simp[o,j,k,n,Y2,Z8,V0]) ⟨w,hs,by have:=Zh4 (l:=seen); simp; omega,rfl⟩ ?_
   rintro⟨x,H,fu⟩ ⟨hx,z,ai,i⟩ N2 P;simp only at hx z ai i P ⊢;obtain⟨b2,y⟩:∃ b2,H[x]? = some b2:=⟨_,gE (by omega)⟩
   have s:=Zga y;have G:(bls H).length=g:=by rw[bls,List.length_map,z]
   cases b2 with
   | true=>
    rw[Zx3 y]at i;generalize t:bls H=S at *;obtain⟨_,p⟩:=Y5 s;simp[hx,s,p,G,ab];subst t;refine hN (d+1,c+1,H) [] _ _ (by simp; omega) ⟨by simp; omega,z,?_⟩ (by simp[o,j,k,n,Y2,Z8,V0])
    simp only;rw[i]at e;rw[← e,Nat.add_assoc]
   | false=>
    rw[Zvf y]at i;have aw:=Zoh y;have X:=Zmm H x true;have ag:=hT x hx;have Y:(H.set x true).length=g:=by simpa using z
    generalize H.set x true=an at *;generalize t:bls H=S at *;obtain⟨_,p⟩:=Y5 s;simp[hx,s,p,G,X];refine Q1 (D x hx) [] (by simp) (by simp[o,j,k,n,Y2,Z8,V0]) (by simp) ?_
    rintro r sm ⟨rfl,rfl⟩;simp[o,j,k,n,Y2,Z8,V0];obtain⟨I,ah⟩:∃ I,fu=I+1:=⟨fu - 1,by omega⟩
    subst ah;exact P (T x,an,I) [] _ _ (by simp; omega) ⟨ag,Y,by simp; omega,i⟩ (by simp[o,j,k,n,Y2,Z8,V0])
 have he:d=g:=by omega
 subst he;rw[Nat.sub_self]at e;simp only[cyc,Nat.add_zero]at e;have Z:IntKind.i64.wrap ((m:Int)+(E.length:Int))=(m:Int)+(E.length:Int):=Z1 (by omega) (by omega)
 have aa:IntKind.i64.wrap ((m:Int)+(E.length:Int)+2)=(m:Int)+(E.length:Int)+2:=Z1 (by omega) (by omega)
 by_cases hc:c=m+E.length+2
 ·have L:(c:Int)=(m:Int)+(E.length:Int)+2:=by omega
  simp[Zjg,Z,aa,L];refine Z9 hK [] ?_;rw[← e];simp[o,j,k,n,Y2,Z8,V0,hc]
 ·have L:¬(c:Int)=(m:Int)+(E.length:Int)+2:=by omega
  simp[Zjg,Z,aa,L];refine Z9 hK [] ?_;rw[← e];simp[o,j,k,n,Y2,Z8,V0,hc]
end Go.Known
end
section
namespace Go.Known
open Go Go.AE Go.Proofs
open Go.Plain
attribute [local simp] Zdk Zcv Zbn Zdb Zb9 Zdz Zcb Zcm Zc7 O6 O3 P8 P7 O1 O5 Zcy Zbm Zdo Zdd Zd5 Zdy Zdf Zdi Zbj Zbv Zdw Zbe Zbz Zbf Zca Zde Zbg Zd2 Zbh Zc5 Zdj Zc4 Zcq Zcr Zbu Zb8 Zd0 Zch Zby Zbq Zcg Zb5 Zcn Zcl Zbp Zck Zdc Zb3 Zcu Zdh Zb0 Zdq Zbs Zc2 Zb4 Zb7 Zdn Zdr Zd1 Zcp Zcd Zb1 Za8 Za3 Zc8 Env.get U1 SMem.at SMem.app SMem.get Z7 S3 AVal.cells AVal.one T7 P0 Zc6 Zbi Zbo Zbc Zda Zcx Zdp Zcz Zbw Zc3 Zdm Zc9 Zdv unA Q7 T0 H5 L4 W8 aundef Zbx Zbr Zce Zbt Zdg P5 Y8 L8 L3 H3 B5 Q9 F4 SubR SubRE SubRB InjK InjA qOf W3 AVal.ren U7 Z6 ABlk.ren J3 Q6 M5
def Zgm(F:Nat)(ls:List Lt):Prop:=
 ls.all (okC F)=true∧(at' ls 0).k=1∧Z3 ls % 2=0∧rkF ls (Z3 ls) ls.length=true∧CrOk ls∧K1 (V1 ls (Z4 ls)) (2*ls.length+2*(Z4 ls).length)=(Z4 ls).length+(crE ls ls.length).length+2
def stg(F:Nat)(ls:List Lt)(rows:List (List AVal)):Nat→List (Nat×ABlk)
 | 0|1|2=>[(1,dV0 F rows)]
 | 3=>[(1,dV1 F ls.length (Z4 ls).length rows),(2,.cells 1 (Z0 (P4 F ls))),(3,.cells 1 (bls (V5 ls.length ls.length (Q2 ls) false))),(4,.cells 1 (Z0 (V5 ls.length ls.length (O0 ls) 0))),(5,.cells 1 (Z0 (Z4 ls)))]
 | _=>[(1,dV2 F ls.length (Z4 ls).length rows),(2,.cells 1 (Z0 (P4 F ls))),(3,.cells 1 (bls (V5 ls.length ls.length (Q2 ls) false))),(4,.cells 1 (Z0 (V5 ls.length ls.length (O0 ls) 0))),(5,.cells 1 (Z0 (Z4 ls))),(6,.map (mkE 0 (crE ls ls.length)) (crE ls ls.length).length)]
abbrev clos:ABlk:=.cells 1 [[.func (.func 140) [.ptr 1 0 0] []],[.func (.func 141) [.ptr 1 0 0] []],[.func (.func 142) [.ptr 1 0 0] []],[.func (.func 143) [.ptr 1 0 0] []],[.func (.func 144) [.ptr 1 0 0] []]]
set_option maxRecDepth 100000 in
set_option maxHeartbeats 4000000 in
theorem c104(F:Nat)(ls:List Lt)(h:ls.length≤1000)(hF:F≤1000) :
 Ctr Tryz.prog 111 [.ptr 1 0 0] (dM1 F (ls.map rowL)) fun r m=>(ls=[]∧r=.bool true∧m=dM1 F (ls.map rowL))∨(ls≠[]∧Zgm F ls∧r=.bool true∧m=dF F ls (ls.map rowL) (crE ls ls.length))∨(ls≠[] ∧ ¬Zgm F ls∧r=.bool false∧m=⟨[],2⟩):=by
 refine Zc0 hm Tryz.func111 Zs7 rfl rfl fun K S=>?_
 have hR:=M9 ls;have I:=c131 F ls h;have J:=c132 F ls h;have L:=c133 F ls h hF;have M:=fun A B C D=>c134 F ls (Z4 ls).length h A B C D
 have O:=c135 F ls (crE ls ls.length);have a:∀ q,Z6 q (ls.map rowL)=ls.map rowL:=fun q=>X6 q _ (U6 ls)
 generalize ls.map rowL=rows at *;have c:=hR.len;by_cases E:ls=[]
 ·have ae:rows=[]:=List.length_eq_zero_iff.1 (by rw[c,E]; rfl)
  have Z:=S _ _ (.inl ⟨E,rfl,rfl⟩);subst ae;simp;exact Z9 Z [] (by simp)
 have u:0<ls.length:=List.length_pos_iff.2 E;have ad:¬rows=[]:=fun e=>by rw[e]at c; simp at c; omega
 have P:Zgm F ls → ∀ l m,SubR 2 l [(0,.bool true)] (dF F ls rows (crE ls ls.length)) [(0,.bool true)] m→O9 2 K (.bool true) m:=
  fun hr l m hs=>Z9 (S _ _ (.inr (.inl ⟨E,hr,rfl,rfl⟩))) l hs
 have g:¬Zgm F ls → ∀ l m,SubR 2 l [(0,.bool false)] ⟨[],2⟩ [(0,.bool false)] m→O9 2 K (.bool false) m:=
  fun hr l m hs=>Z9 (S _ _ (.inr (.inr ⟨E,hr,rfl,rfl⟩))) l hs
 clear S;simp[c,E,ad];refine B0 (α:=Nat) (fun i=>[(24,.int .i64 i),(23,.int .i64 5),(22,.sl 7 0 5),(0,.ptr 1 0 0)]) (fun i=>⟨stg F ls rows i++[(7,clos)],8⟩)
  (fun i=>5 - i) (fun i=>i≤5∧(0<i→ls.all (okC F)=true)∧(1<i→(at' ls 0).k=1∧Z3 ls % 2=0)∧(2<i→rkF ls (Z3 ls) ls.length=true)∧(3<i→CrOk ls) ∧
    (4<i→K1 (V1 ls (Z4 ls)) (2*ls.length+2*(Z4 ls).length)=(Z4 ls).length+(crE ls ls.length).length+2)) 0 [(7,20)] (by simp[stg,a,Y2,Z8,V0]) (by simp) ?_
 rintro i ⟨hi,t,w,H,Q,g5⟩ N G
 try simp only at hi t w H Q g5 G ⊢
 have w1:IntKind.i64.wrap 1=1:=by decide
 have n:IntKind.i64.wrap 2=2:=by decide
 have o:IntKind.i64.wrap 3=3:=by decide
 have p:IntKind.i64.wrap 4=4:=by decide
 have s:IntKind.i64.wrap 5=5:=by decide
 rcases (show i=0∨i=1∨i=2∨i=3∨i=4∨i=5 by omega)with rfl|rfl|rfl|rfl|rfl|rfl
 ·simp[stg];refine Q1 I [] (by simp) (by simp[a,Y2,Z8,V0]) (by simp) ?_
  rintro r V ⟨rfl,rfl⟩;cases b:ls.all (okC F)with
  | true=>
   simp[a,Y2,Z8,V0,w1,n,o,p,s];exact G 1 [] _ _ (by omega) ⟨by omega,fun _=>b,by omega,by omega,by omega,by omega⟩ (by simp[stg,a,Y2,Z8,V0])
  | false=>
   simp[a,Y2,Z8,V0,w1,n,o,p,s];exact g (fun j=>by rw[j.1]at b; cases b) [] _ (by simp)
 ·simp[stg];refine Q1 (J u) [] (by simp) (by simp[a,Y2,Z8,V0]) (by simp) ?_
  rintro r V ⟨rfl,rfl⟩;by_cases b:(at' ls 0).k=1∧Z3 ls % 2=0
  ·simp[a,Y2,Z8,V0,w1,n,o,p,s,b];exact G 2 [] _ _ (by omega) ⟨by omega,fun _=>t (by omega),fun _=>b,by omega,by omega,by omega⟩ (by simp[stg,a,Y2,Z8,V0])
  ·have ab:(decide ((at' ls 0).k=1)&&decide (Z3 ls % 2=0))=false:=by
    rw[← Bool.not_eq_true]; simpa using b
   rw[ab];simp[a,Y2,Z8,V0,w1,n,o,p,s];exact g (fun j=>b ⟨j.2.1,j.2.2.1⟩) [] _ (by simp)
 ·have Y:=Zhe (t (by omega))
  simp[stg];refine Q1 (L Y) [] (by simp) (by simp[a,Y2,Z8,V0]) (by simp) ?_
  rintro r V (⟨b,rfl,rfl⟩|⟨b,rfl,rfl⟩)
  ·have y:=Z61 Y b;have aa:=H6 ls;unfold dR;rw[y,← aa];simp[a,Y2,Z8,V0,w1,n,o,p,s];exact G 3 [(2,15),(3,16),(4,17),(5,18)] _ _ (by omega) ⟨by omega,fun _=>t (by omega),fun _=>w (by omega),fun _=>b,by omega,by omega⟩ (by simp[stg,a,Y2,Z8,V0])
  ·simp[a,Y2,Z8,V0,w1,n,o,p,s];exact g (fun j=>by rw[j.2.2.2.1]at b; cases b) [] _ (by simp)
 ·simp[stg];refine Q1 (M (Z0 (P4 F ls)) (bls (V5 ls.length ls.length (Q2 ls) false)) (Z0 (V5 ls.length ls.length (O0 ls) 0)) (Z0 (Z4 ls)) (fun q=>Z8 q _) (fun q=>V0 q _) (fun q=>Z8 q _) (fun q=>Z8 q _)) [] (by simp) (by simp[a,Y2,Z8,V0]) (by simp) ?_
  rintro r V (⟨b,rfl,rfl⟩|⟨b,rfl,rfl⟩)
  ·simp[a,Y2,Z8,V0,w1,n,o,p,s];exact G 4 [(6,15)] _ _ (by omega) ⟨by omega,fun _=>t (by omega),fun _=>w (by omega),fun _=>H (by omega),fun _=>b,by omega⟩ (by simp[stg,a,Y2,Z8,V0])
  ·simp[a,Y2,Z8,V0,w1,n,o,p,s];exact g (fun j=>b j.2.2.2.2.1) [] _ (by simp)
 ·have Y:=Zhe (t (by omega))
  have z:=Ya2 h (t (by omega)) u (w (by omega)).1 (H (by omega)) (Q (by omega))
  have y:∀ v,v∈Z4 ls→v<ls.length:=fun v U=>(mem_axis.1 U).1
  have ac:∀ v,v<ls.length→(at' ls v).k≠2→v∈Z4 ls:=fun v U h2=>mem_axis.2 ⟨U,by simp[isP,(z.kind v U).resolve_right h2]⟩
  have hT:∀ d,d<2*ls.length+2*(Z4 ls).length→V1 ls (Z4 ls) d<2*ls.length+2*(Z4 ls).length:=fun d hd=>Zoe y ac z.some hd
  have X:(crE ls ls.length).length≤1000:=by have:=Zsb ls ls.length; omega
  simp[stg];refine Q1 (O z hT X) [] (by simp) (by simp[a,Y2,Z8,V0]) (by simp) ?_
  rintro r V ⟨rfl,rfl⟩;by_cases b:K1 (V1 ls (Z4 ls)) (2*ls.length+2*(Z4 ls).length)=(Z4 ls).length+(crE ls ls.length).length+2
  ·simp[a,Y2,Z8,V0,w1,n,o,p,s,b];exact G 5 [] _ _ (by omega) ⟨by omega,fun _=>t (by omega),fun _=>w (by omega),fun _=>H (by omega),fun _=>Q (by omega),fun _=>b⟩ (by simp[stg,a,Y2,Z8,V0])
  ·simp[a,Y2,Z8,V0,w1,n,o,p,s,b];exact g (fun j=>b j.2.2.2.2.2) [] _ (by simp)
 ·simp[stg];exact P ⟨t (by omega),(w (by omega)).1,(w (by omega)).2,H (by omega),Q (by omega),g5 (by omega)⟩ [] _ (by simp[a,Y2,Z8,V0])
end Go.Known
end
section
namespace Go.Known
open Go Go.AE Go.Proofs
open Go.Plain
attribute [simp] Zdk Zcv Zbn Zdb Zb9 Zdz Zcb Zcm Zc7 O6 O3 P8 P7 O1 O5 Zcy Zbm Zdo Zdd Zd5 Zdy Zdf Zdi Zbj Zbv Zdw Zbe Zbz Zbf Zca Zde Zbg Zd2 Zbh Zc5 Zdj Zc4 Zcq Zcr Zbu Zb8 Zd0 Zch Zby Zbq Zcg Zb5 Zcn Zcl Zbp Zck Zdc Zb3 Zcu Zdh Zb0 Zdq Zbs Zc2 Zb4 Zb7 Zdn Zdr Zd1 Zcp Zcd Zb1 Za8 Za3 Zc8 Env.get U1 SMem.at SMem.app SMem.get Z7 S3 T7 P0 Zc6 Zbi Zbo Zbc Zda Zcx Zdp Zcz Zbw Zc3 Zdm Zc9 Zdv unA Q7 T0 H5 L4 W8 aundef Zbx Zbr Zce Zbt Zdg P5 Y8 L8 L3 H3 B5 Q9 F4 SubR SubRE SubRB InjK InjA qOf W3 AVal.ren U7 Z6 ABlk.ren J3 Q6 M5 V7 V8 FT.indep N4 O4 I0 H4 in1 Zkb J8 Zaf W6 Zaj Znm D7 C6 Zqo Zto Zwy Z84 Z6b Z67 Z7x Z1y Ztd Z2k Ze3 Zz6 Yc9 Z4t Z4h Z3x Z6m Z2o Z7h Zzp Ycq Z60 Yc7 Zz4 Z2t Z5z xOf upX Zit Zm0 Z3s Ybc Yai Z9c Zpm Zay Za4 Z65 Ycd
@[simp] theorem ce_int(k : IntKind)(n : Int): AVal.cells (.int k n) = some [(.int k n)] := rfl
@[simp] theorem on_int(k : IntKind)(n : Int): AVal.one (.int k n) = true := rfl
@[simp] theorem Yd1(b : Bool): AVal.cells (.bool b) = some [(.bool b)] := rfl
@[simp] theorem Yeh(b : Bool): AVal.one (.bool b) = true := rfl
@[simp] theorem ce_ptr(a b c : Nat): AVal.cells (.ptr a b c) = some [(.ptr a b c)] := rfl
@[simp] theorem on_ptr(a b c : Nat): AVal.one (.ptr a b c) = true := rfl
@[simp] theorem Ydn(l : List (List AVal))(a b : Nat): AVal.cells (.iptr l a b) = some [(.iptr l a b)] := rfl
@[simp] theorem Ydv(l : List (List AVal))(a b : Nat): AVal.one (.iptr l a b) = true := rfl
@[simp] theorem ce_sl(a b c : Nat): AVal.cells (.sl a b c) = some [(.sl a b c)] := rfl
@[simp] theorem on_sl(a b c : Nat): AVal.one (.sl a b c) = true := rfl
@[simp] theorem ce_imm(l : List (List AVal)): AVal.cells (.imm l) = some [(.imm l)] := rfl
@[simp] theorem on_imm(l : List (List AVal)): AVal.one (.imm l) = true := rfl
@[simp] theorem ce_map(b : Nat): AVal.cells (.map b) = some [(.map b)] := rfl
@[simp] theorem on_map(b : Nat): AVal.one (.map b) = true := rfl
@[simp] theorem Ydg(f : Fn)(a b : List AVal): AVal.cells (.func f a b) = some [(.func f a b)] := rfl
@[simp] theorem Yec(f : Fn)(a b : List AVal): AVal.one (.func f a b) = true := rfl
@[simp] theorem ce_str(l : List UInt8): AVal.cells (.str l) = some [(.str l)] := rfl
@[simp] theorem on_str(l : List UInt8): AVal.one (.str l) = true := rfl
@[simp] theorem Ydk : AVal.cells .nilSl = some [.nilSl] := rfl
@[simp] theorem Yeb : AVal.one .nilSl = true := rfl
@[simp] theorem Yd9 : AVal.cells .nilPtr = some [.nilPtr] := rfl
@[simp] theorem Yed : AVal.one .nilPtr = true := rfl
@[simp] theorem Yel : AVal.cells .nilMap = some [.nilMap] := rfl
@[simp] theorem Yen : AVal.one .nilMap = true := rfl
@[simp] theorem Ydr : AVal.cells .nilFunc = some [.nilFunc] := rfl
@[simp] theorem Ydy : AVal.one .nilFunc = true := rfl
@[simp] theorem ce_agg(l : List AVal) : AVal.cells (.agg l) = some l := rfl
def K5(l:List (List Nat)):List (List AVal):=l.map fun w=>[.imm (Z0 w)]
theorem Zpk(l:List (List Nat)):(K5 l).length=l.length:=by simp[K5]
theorem Zqj(l:List (List Nat))(w:List Nat):K5 (l++[w])=K5 l++[[.imm (Z0 w)]]:=by simp[K5]
theorem Zld:∀ (l:List (List Nat)),W5 (K5 l)=true
 | []=>rfl
 | w :: r=>by
  have:=Zld r;simp only[K5,List.map_cons,W5,X4,AVal.closed,Zas,Bool.and_true,Bool.true_and]at this ⊢;exact this
theorem Zic(q:Nat→Nat)(l:List (List Nat)):Z6 q (K5 l)=K5 l:=X6 q _ (Zld l)
theorem Z4i{get:Nat→Option ABlk}{S:List Nat}{A:List (List AVal)}(a:W5 A=true)(r:List AVal):C2 get S (A++[r])=A++[r.map (fzV get S)]:=by
 rw[Ybm,Zxe a]; rfl
@[simp] theorem Ydm(q : Nat → Nat)(a b : List (List AVal)) : Z6 q (a ++ b) = Z6 q a ++ Z6 q b := by simp [Zah]
theorem Ybq{get:Nat→Option ABlk}{S:List Nat}{b:Nat}{l:List Nat}(c:Y8 b S=true)(d:get b=if Z0 l=[]then none else some (.cells 1 (Z0 l))):fzV get S (slV b (Z0 l))=imV (Z0 l):=
 Zwb c d fun row e x a=>by
  obtain⟨i,_,rfl⟩:=List.mem_map.1 e;rw[List.mem_singleton]at a;subst a;rfl
theorem Zmr{get:Nat→Option ABlk}{b k n:Nat}{rows:List (List AVal)}(h:get b=some (.cells k rows))(c:∀ row,row∈rows → ∀ x,x∈row→X3 get n x=some x):X3 get (n+1) (.sl b 0 rows.length)=some (.imm rows):=by
 have a:Nat.ble (0+rows.length) rows.length=true:=by rw[Nat.zero_add]; exact Nat.ble_self_eq_true _
 rw[X3];simp only[h,a,cond_true,List.drop_zero,List.take_length,Zi0 c]
theorem Zva{get:Nat→Option ABlk}{n:Nat}{rows:List (List AVal)}(a:∀ row,row∈rows → ∀ x,x∈row→X3 get n x=some x):X3 get (n+1) (.imm rows)=some (.imm rows):=by
 rw[X3];simp only[Zi0 a]
theorem Zqq{get:Nat→Option ABlk}{n:Nat}(l:List Nat):∀ row,row∈Z0 l → ∀ x,x∈row→X3 get (n+1) x=some x:=by
 intro row b x a;obtain⟨i,_,rfl⟩:=List.mem_map.1 b;rw[List.mem_singleton]at a;subst a;rfl
theorem Z2e{get:Nat→Option ABlk}{n:Nat}(l:List (List Nat)):∀ row,row∈K5 l → ∀ x,x∈row→X3 get (n+2) x=some x:=by
 intro row b x a;obtain⟨w,_,rfl⟩:=List.mem_map.1 b;rw[List.mem_singleton]at a;subst a;exact Zva (Zqq w)
end Go.Known
end
