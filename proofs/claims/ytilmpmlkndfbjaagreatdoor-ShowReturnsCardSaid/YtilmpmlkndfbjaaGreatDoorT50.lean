/- Part 50 -/
import Derived.Test.YtilmpmlkndfbjaaGreatDoorT49
set_option linter.all false
set_option maxRecDepth 100000
set_option maxHeartbeats 16000000
open Nat (lt_irrefl)
namespace Go.Ad
open Go Go.AE Go.Proofs
open Go.Plain
attribute [local simp] UZ Uo Us Uw Ux Va Vi Vj Un UH UY RH IC Sl Sz Sh UL
attribute [local simp] kK iZ
def Vw(m:Nat)(PL:List (Nat×Nat))(L:List (Nat×Nat))(G:List Lt)(x t:Nat):Lt:=if ¬AK m L t<2*m∧DG m (AK m L t)<x then at' G t else OE m PL L t
def HS(m:Nat)(PL:List (Nat×Nat))(L:List (Nat×Nat))(G:List Lt)(K x:Nat):List (List Aa):=(List.range K).map fun t=>Ab (Vw m PL L G x t)
def YU:An:=.loop (sr [cL 136 135 134]
(.seq (.cond (tZ 136) .skip
(.exit 2))
(.seq (.block 3 (sr [mv 137 135,ix 138 1 133 135,lo 139 138,mv 14 137,mv 15 139]
(sr [mv 140 0,nc 141 140,fa 142 2 141,lo 143 142,mv 144 14,ix 145 6 143 144,lw 146 6 145,oZ 16 (.alloc [(.int .i64 0),(.int .i64 0),(.int .i64 0),(.int .i64 0),(.bool false),(.bool false)]),so 6 16 146]
(.seq (.region true [mv 147 15,oZ 148 (.Dk 2 (tZ 147) (kZ 0)),lw 149 2 148,mv 150 15,oZ 151 (.Dk 2 (tZ 150) (kZ 1)),lw 152 2 151,⟨(some 17),.alloc [(.int .i64 0),(.int .i64 0)],none,[1,2,4,5]⟩,⟨(some 18),.alloc [(.int .i64 0),(.int .i64 0)],none,[1,2,4,5,6]⟩,⟨none,.store 2 (tZ 17) (tZ 149),none,[4,5]⟩,so 2 18 152])
(.seq (sr [fa 153 1 17,lo 154 153,Vo 155 154 2,PA 156 155 0,fa 157 4 16,lo 158 157,oZ 159 (.bin .neq .bool (tZ 156) (tZ 158))]
(.cond (tZ 159) (rf [lw 160 2 18,lw 161 2 17,so 2 17 160,so 2 18 161])
.skip))
(sr [mk 19 (-1)]
(.seq (sr [fa 162 1 18,lo 163 162,fa 164 1 17,lo 165 164,Iq 166 165 3,Vo 167 166 4,cE 168 163 167]
(.cond (tZ 168) (rf [mk 19 1])
.skip))
(sr [mv 169 15,le 170 169,mk 171 0]
(.block 4 (.loop (sr [cL 172 171 170]
(.seq (.cond (tZ 172) .skip
(.exit 4))
(.seq (.block 5 (sr [ix 173 2 169 171,lw 174 2 173,oZ 21 (.alloc [(.int .i64 0),(.int .i64 0)]),so 2 21 174]
(sr [fa 175 1 6,lo 176 175,fa 177 0 21,lo 178 177,ix 179 6 176 178,mv 22 179]
(.region true [mv 180 22,mv 181 22,mv 182 19,lw 183 2 21,lw 184 2 17,oZ 185 (.bin .eql (.flat [.int,.int]) (tZ 183) (tZ 184)),fa 186 5 16,lo 187 186,oZ 188 (.bin .neq .bool (tZ 185) (tZ 187)),nc 189 180,fa 190 4 189,⟨none,.store 1 (tZ 190) (tZ 182),none,[3,4,7]⟩,nc 191 181,fa 192 5 191,so 1 192 188]))))
(rf [Iq 193 171 1,mv 171 193]))))))))))))))
(rf [Iq 194 135 1,mv 135 194]))))
def YW:An:=.seq (.region true [lw 195 2 6,lw 196 2 6,⟨(some 197),.call (.fn 51) [tZ 196],none,[0]⟩,PA 198 197 0,so 2 4 195,mv 5 198]) .ret
def eS(n x:Nat):Env:=[(0,.ptr 1 0 0),(4,.ptr 10 0 0),(6,.ptr 11 0 0),(133,.sl 12 0 n),(134,.int .i64 n),(135,.int .i64 x)]
def mS(f:Int)(n K j:Nat)(F:Nat→List (List Aa))(P XX R:List (List Aa)):Ac:=⟨G7 2 20 F n ([(10,.cells 2 [[.int .i64 0,.Aj]]),(11,.cells 2 [[.int .i64 f,.sl 14 0 K]]),(12,.cells 1 (H2 20 n F)),
 (1,.cells 3 [[.Al P,.sl 2 0 j,Bt 3 XX]]),(14,.cells 6 R)]++Bp 3 6 XX []),20+n⟩
theorem Ydd{m:Nat}{X:List Nd}{x:Nat}(a:x<X.length):((xJ m X).map Co)[x]?=some (Co (((2*m+4*x:Nat):Int),X.getD x (false,false))):=by
 unfold xJ;grind
section
variable {m:Nat} {X:List Nd} {L:List (Nat×Nat)} (h:Jy m X L) (hw:FI m X L) {gs:List Nat} (Cb:(AN 0 gs).length=m)
include h hw Cb
theorem nN{t:Nat}(c:t<m+2*X.length):at' (X7 (X9 m (AN 0 gs) X L)) t=if AK m L t<2*m then OE m (AN 0 gs) L t else
 ⟨2,0,0,((V0 ((DG m (AK m L t):Nat):Int) (DF m L (t+1)):Nat):Int),Hj (GJ m (CV m X L) (DG m (AK m L t))) (GK m (CV m X L) (DG m (AK m L t))) (X.getD (DG m (AK m L t)) (false,false)).1,
  ((X.getD (DG m (AK m L t)) (false,false)).1 == (HU m (AK m L t)%2 == 0)) != (X.getD (DG m (AK m L t)) (false,false)).2⟩:=by
 have d:=Po h hw Cb;rw[eZ (by rw[d];exact c)];have b:=UG (ls:=X9 m (AN 0 gs) X L) (i:=t) (by rw[d];exact c);unfold Ep;rw[<-b,Zyc h hw Cb (t+1) (by omega),WN h hw Cb c];unfold Fl;by_cases a:AK m L t<2*m
 ·rw[iP a,iP a,iN (by simp[AP])];unfold OE;rw[iP a]
 rw[iN a,iN a,iP rfl];simp only;rw[Zyj];rfl
omit h hw Cb in
theorem Ygw:HS m (AN 0 gs) L (X7 (X9 m (AN 0 gs) X L)) (m+2*X.length) 0=(C2 m (AN 0 gs) L (m+2*X.length)).map Ab:=by
 unfold HS C2;rw[List.map_map];refine List.map_congr_left λt _=>?_;show Ab (if _ then _ else _)=_;grind
theorem Yks:HS m (AN 0 gs) L (X7 (X9 m (AN 0 gs) X L)) (m+2*X.length) X.length=(X7 (X9 m (AN 0 gs) X L)).map Ab:=by
 have c:(X7 (X9 m (AN 0 gs) X L)).length=m+2*X.length:=by rw[Sy,Po h hw Cb]
 unfold HS;refine List.ext_getElem (by simp[c]) λt a f=>?_;simp only[lM,List.length_range]at a;simp only[List.getElem_map,List.getElem_range];have b:=nN h hw Cb a;have e:at' (X7 (X9 m (AN 0 gs) X L)) t=(X7 (X9 m (AN 0 gs) X L))[t]'(by omega):=by unfold at';grind
 rw[<-e];unfold Vw;by_cases d:AK m L t<2*m
 ·grind
 have:=Lm h t;rw[iP ⟨d,by unfold DG;omega⟩]
omit Cb in
theorem Ycz{x s t p q:Nat}(i:x<X.length)(a:Q0 m L (m+2*X.length) x=[(s,p),(t,q)]) :
 ((HS m (AN 0 gs) L (X7 (X9 m (AN 0 gs) X L)) (m+2*X.length) x).set s (Ab (at' (X7 (X9 m (AN 0 gs) X L)) s))).set t (Ab (at' (X7 (X9 m (AN 0 gs) X L)) t)) =
   HS m (AN 0 gs) L (X7 (X9 m (AN 0 gs) X L)) (m+2*X.length) (x+1):=by
 obtain⟨k,l,_⟩:=yT h hw i a;unfold HS;refine List.ext_getElem (by simp) λu j d=>?_;simp only[lM,List.length_range]at d;have n:=(NH (m:=m) (L:=L) (x:=x) (s:=s) (q:=p) (m+2*X.length)).1 (by rw[a];simp);have o:=(NH (m:=m) (L:=L) (x:=x) (s:=t) (q:=q) (m+2*X.length)).1 (by rw[a];simp);rw[List.getElem_set,List.getElem_set];simp only[List.getElem_map,List.getElem_range];by_cases b:t=u
 ·subst b;rw[iP rfl];unfold Vw;grind
 rw[iN b];by_cases c:s=u
 ·subst c;rw[iP rfl];unfold Vw;grind
 rw[iN c];unfold Vw;by_cases f:AK m L u<2*m
 ·grind
 have g:DG m (AK m L u)≠x:=λe=>by
  have:=(NH (m:=m) (L:=L) (x:=x) (s:=u) (q:=HU m (AK m L u)) (m+2*X.length)).2 ⟨d,f,e,rfl⟩;rw[a]at this;simp only[mC,AT,List.not_mem_nil,or_false]at this;omega
 grind
end
theorem Ydb{get:Nat->Option Af}{S:List Nat}{b:Nat}{f:Int}{ls:List Lt}(c:V1 b S=true)(d:get b=some (.cells 6 (ls.map Ab))):DP get S (.agg [.int .i64 f,.sl b 0 ls.length])=cV f ls:=by
 have a:X8 (A5 get S) 4 (.sl b 0 ls.length)=some (.Al (ls.map Ab)):=by
  have:=Ur (n:=3) (get:=A5 get S) (b:=b) (k:=6) (rows:=ls.map Ab) (by unfold A5;rw[c];exact d) (OX _);grind
 unfold DP;rw[X8];simp only[U4,a];rfl
theorem Yke(f:Int){m:Nat}{X:List Nd}{L:List (Nat×Nat)}(h:Jy m X L)(hw:FI m X L){gs:List Nat}(Cb:(AN 0 gs).length=m)(hb:2*m+4*X.length<=1000)(P:List (List Aa))(Ff:∀q,Z3 q P=P)
 (K:Aa->Ac->Prop) (hC:V3 f (X7 (X9 m (AN 0 gs) X L))=0) (hK:K (.tuple [.agg [.int .i64 f,.sl 4 0 (m+2*X.length)],.bool true]) ⟨[(4,.cells 6 ((X7 (X9 m (AN 0 gs) X L)).map Ab))],5⟩) (e:Env) (mm:Ac)
 (hW:Di 199 4 (eS X.length 0) (mS f X.length (m+2*X.length) (2*m+4*X.length) (λx=>(Q0 m L (m+2*X.length) x).map DN) P ((xJ m X).map Co) ((C2 m (AN 0 gs) L (m+2*X.length)).map Ab)) e mm) :
 CO Tryz.prog [] 199 4 YU (I2 2 (O0 (CO Tryz.prog [] 199 4 YW (L3 199 [(4,some (some 2)),(5,none)] (R9 4 K))) (L3 199 [(4,some (some 2)),(5,none)] (R9 4 K)))) e mm:=by
 have hl:(X7 (X9 m (AN 0 gs) X L)).length=m+2*X.length:=by rw[Sy,Po h hw Cb]
 have ae:=c30 f (X7 (X9 m (AN 0 gs) X L)) (by omega);rw[hC]at ae;have ay:=Ygw (m:=m) (X:=X) (L:=L) (gs:=gs);have a1:=Yks h hw Cb;have ak:=λx s t p q hx hV=>Ycz h hw (gs:=gs) (x:=x) (s:=s) (t:=t) (p:=p) (q:=q) hx hV;have k:((xJ m X).map Co).length=X.length:=by rw[lM,bE]
 have o:=λx hx=>Ydd (m:=m) (X:=X) (x:=x) hx;have DE:∀q,Z3 q ((xJ m X).map Co)=(xJ m X).map Co:=λq=>Y2 q _ (Sp _);obtain⟨F,hF⟩:∃F:Nat->List (List Aa),F=λx=>(Q0 m L (m+2*X.length) x).map DN:=⟨_,rfl⟩;have Jm:∀y,W3 (F y)=true:=λy=>by rw[hF];exact aC _
 have a4:∀x q,Z3 q (HS m (AN 0 gs) L (X7 (X9 m (AN 0 gs) X L)) (m+2*X.length) x)=HS m (AN 0 gs) L (X7 (X9 m (AN 0 gs) X L)) (m+2*X.length) x:=λx q=>by
  refine Y2 q _ ?_;unfold HS;have:=Y6 ((List.range (m+2*X.length)).map (Vw m (AN 0 gs) L (X7 (X9 m (AN 0 gs) X L)) x));rw[List.map_map]at this;exact this
 have a3:∀q,Z3 q ((X7 (X9 m (AN 0 gs) X L)).map Ab)=(X7 (X9 m (AN 0 gs) X L)).map Ab:=λq=>Y2 q _ (Y6 _);have aq:∀x,(HS m (AN 0 gs) L (X7 (X9 m (AN 0 gs) X L)) (m+2*X.length) x).length=m+2*X.length:=λx=>by unfold HS;simp
 rw[<-hF,<-ay]at hW;have aa:∀x s t p q,Q0 m L (m+2*X.length) x=[(s,p),(t,q)]->F x=[[.int .i64 s,.int .i64 p],[.int .i64 t,.int .i64 q]]:=λx s t p q e=>by rw[hF];simp only[e];rfl
 clear hF;have BG:∀(A B C D G:Af) (c:Nat) (y:Af),Z7 ([(10,A),(11,B),(12,C),(1,D),(14,G)]++Bp 3 6 ((xJ m X).map Co) []) c=some y->c<20:=λA B C D G c y hc=>by
  refine VI (λp hp=>?_) hc;simp only[List.cons_append,List.nil_append,mC]at hp;rcases hp with rfl|rfl|rfl|rfl|rfl|hp
  any_goals (show _<_;omega)
  rcases Wn hp with e|hp
  ·omega
  cases hp
 generalize (xJ m X).map Co=Z at *;unfold YU;refine VS (λx=>eS X.length x) (λx=>mS f X.length (m+2*X.length) (2*m+4*X.length) F P Z (HS m (AN 0 gs) L (X7 (X9 m (AN 0 gs) X L)) (m+2*X.length) x)) (λx=>X.length-x) (λx=>x<=X.length) 0 hW (Nat.zero_le _) ?_;intro x hx N hN;unfold eS mS at *;by_cases a2:x=X.length
 ·subst a2;rw[a1]at *;unfold YW;simp;have ba:DP (Ig (Ac.get ⟨G7 2 20 F X.length ([(10,.cells 2 [[.int .i64 0,.Aj]]),(11,.cells 2 [[.int .i64 f,.sl 14 0 (m+2*X.length)]]),(12,.cells 1 (H2 20 X.length F)),(1,.cells 3 [[.Al P,.sl 2 0 (2*m+4*X.length),Bt 3 Z]]),(14,.cells 6 ((X7 (X9 m (AN 0 gs) X L)).map Ab))]++Bp 3 6 Z []),20+X.length+1+6⟩)
   (DX (20+X.length+1) 2 [PA 198 197 0,so 2 4 195,mv 5 198].length)) [14] (.agg [.int .i64 f,.sl 14 0 (m+2*X.length)])=cV f (X7 (X9 m (AN 0 gs) X L)):=by
   have:=Ydb (get:=Ig (Ac.get ⟨G7 2 20 F X.length ([(10,.cells 2 [[.int .i64 0,.Aj]]),(11,.cells 2 [[.int .i64 f,.sl 14 0 (m+2*X.length)]]),(12,.cells 1 (H2 20 X.length F)),(1,.cells 3 [[.Al P,.sl 2 0 (2*m+4*X.length),Bt 3 Z]]),(14,.cells 6 ((X7 (X9 m (AN 0 gs) X L)).map Ab))]++Bp 3 6 Z []),20+X.length+1+6⟩)
    (DX (20+X.length+1) 2 [PA 198 197 0,so 2 4 195,mv 5 198].length)) (S:=[14]) (b:=14) (f:=f) (ls:=X7 (X9 m (AN 0 gs) X L)) (by simp[V1]) (by simp[Ig,V1,show ¬20+X.length=13 by omega,show ¬20+X.length=12 by omega,show ¬20+X.length=10 by omega,show ¬20+X.length=9 by omega,show ¬20+X.length=8 by omega])
   grind
  refine Z6q ae trivial [14] ?_ ?_
  ·simp only[List.map_cons,List.map_nil];rw[<-ba];rfl
  simp;refine⟨by omega,Z6 hK [(4,14)] (by simp[a3])⟩
 have i:x<X.length:=by omega
 obtain⟨s,t,p,q,bb,ax,hV,_,_,bd,bf,be⟩:=x6 h hw i;have V:=nN h hw Cb (t:=s) (by omega);have Y:=nN h hw Cb (t:=t) ax;have ag:=(NH (m:=m) (L:=L) (x:=x) (s:=s) (q:=p) (m+2*X.length)).1 (by rw[hV];simp);have ah:=(NH (m:=m) (L:=L) (x:=x) (s:=t) (q:=q) (m+2*X.length)).1 (by rw[hV];simp);rw[iN ag.2.1,ag.2.2.1,<-ag.2.2.2]at V;rw[iN ah.2.1,ah.2.2.1,<-ah.2.2.2]at Y;obtain⟨⟨d,n⟩,a8⟩:∃z:Nd,z=X.getD x (false,false):=⟨_,rfl⟩;have a6:=Z8t h hw i hV d;have aa:=aa x s t p q hV;have o:=o x i;rw[<-a8]at o V Y;simp only at V Y;rw[a6]at V Y;obtain⟨_,r⟩:=Y3 o;have a:¬Z=[]:=λe=>by grind
 have af:(H2 20 X.length F)[x]?=some [.sl (20+x) 0 2]:=by rw[Zyb i,aa];rfl
 obtain⟨_,U⟩:=Y3 af;have al:(H2 20 X.length F).length=X.length:=nB;have am:∀ao,Z7 (G7 2 20 F X.length ao) (20+x)=some (.cells 2 [[.int .i64 s,.int .i64 p],[.int .i64 t,.int .i64 q]]):=λao=>by rw[J6 _ i,aa,iN (by simp)]
 have ak:=ak x s t p q i hV;have aq:=aq x;have a5:=a4 x;have ab:∀u,u<m+2*X.length -> ¬AK m L u<2*m->DG m (AK m L u)=x->(HS m (AN 0 gs) L (X7 (X9 m (AN 0 gs) X L)) (m+2*X.length) x)[u]?=some (Ab ⟨2,0,0,((V0 ((x:Nat):Int) (DF m L (u+1)):Nat):Int),0,false⟩):=λu hu h1 h2=>by
  unfold HS;rw[gM,List.getElem?_range hu];show some (Ab (if _ then _ else _))=_;rw[iN (λe=>by omega)];unfold OE;rw[iN h1,h2];rfl
 have az:=ab s (by omega) ag.2.1 ag.2.2.1;have a0:=ab t ax ah.2.1 ah.2.2.1;clear ab;generalize V0 ((x:Nat):Int) (DF m L (s+1))=ids at *;generalize V0 ((x:Nat):Int) (DF m L (t+1))=Vs at *;generalize HS m (AN 0 gs) L (X7 (X9 m (AN 0 gs) X L)) (m+2*X.length) x=R0 at *;have w:∀q,Z3 q R0=R0:=a5;have j:=hN (x+1);rw[<-ak]at j;have g:∀q,Z3 q ((R0.set s (Ab (at' (X7 (X9 m (AN 0 gs) X L)) s))).set t (Ab (at' (X7 (X9 m (AN 0 gs) X L)) t)))=(R0.set s (Ab (at' (X7 (X9 m (AN 0 gs) X L)) s))).set t (Ab (at' (X7 (X9 m (AN 0 gs) X L)) t)):=λq=>by grind
 rw[V,Y]at j g;clear hN ak V Y a4 a1 ay ae hK hW a6 a3;obtain⟨pz,aw⟩:∃pz,pz=p%2:=⟨_,rfl⟩;have an:((p:Nat):Int).tmod 2=(pz:Nat):=by rw[aw];rfl
 have a7:m+2*X.length<=1000:=by omega
 obtain⟨c,hc⟩:∃c:Bool,c=(decide (pz=0) != d):=⟨_,rfl⟩;have bc:∀q':Nat->Nat,Q3 q' (Co (((2*m+4*x:Nat):Int),d,n))=Co (((2*m+4*x:Nat):Int),d,n):=λ_=>rfl;obtain⟨e0,a9⟩:∃e0:Int,e0=((2*m+4*x:Nat):Int):=⟨_,rfl⟩;rw[<-a9]at o r;simp only[Co]at o r;have hI:=λso po sg bs bt wH wI Q e mm hW hQ=>Yci f X.length (m+2*X.length) (2*m+4*X.length) x s t p q so po ids Vs sg F P Z R0 e0 (e0+1) (e0+2) (e0+3) d n bs bt Ff DE a w Jm i aq bb ax a7 aa az a0 wH wI Q e mm hW hQ;have Ch:∀y,y<X.length->W3 (F y)=true:=λy _=>Jm y;obtain⟨DB,bg⟩:x≠X.length/\t≠s:=by omega
 have E:=W7 ((x:Int)+1) ((x+1:Nat):Int);cases c with
 |false=>
  have ai:ZB d p q=p/\ZI d p q=q:=by unfold ZB ZI;rw[<-aw,<-hc];grind
  have ad:(decide (pz=0) == d)=true:=by grind
  have ac:(d == (p%2 == 0))=true:=by
   grind
  have au:(d == (q%2 == 0))=false:=by
   have e1:(q%2 == 0) = !(p%2 == 0):=by rw[Bool.eq_iff_iff];simp;omega
   rw[e1];revert ac;simp
  rw[ai.1,ai.2,ac,au]at j g;simp only[Bool.true_bne,Bool.false_bne]at g;have M:=W7 ((p:Int)+3) ((p+3:Nat):Int);have v:((p+3:Nat):Int).tmod 4=(((p+3)%4:Nat):Int):=rfl;obtain⟨p3,av⟩:∃p3,p3=p+3:=⟨_,rfl⟩;rw[<-av]at M v j g;obtain⟨T,aj⟩:∃T,T=p3%4:=⟨_,rfl⟩;rw[<-aj]at v j g;by_cases hg:q=T
  ·rw[iP hg]at j g;have H:decide (((q:Nat):Int)=(T:Nat))=true:=by simp[hg]
   have I:decide (q=T)=true:=by simp[hg]
   simp[i,af,U,al,am,o,r,k,P8 a,U0 a,a,n20,OF i, Jn,Jo, Jp,   an,ad,M,v,H,I];refine hI s p 1 (true != n) (false != n) (by grind) (by grind) _ _ _ ?_ ?_
   ·unfold eI mI;refine Di.DJ (x:=X.length) (N:=0) (l:=[(15,20+X.length+1+5+7),(16,20+X.length+1+5+9+6)]) (by omega) (Kh Z _ _ _ _ _ _ _) ?_ (λe=>absurd e (lt_irrefl _)) ?_ ?_ ?_ (λe=>absurd e (lt_irrefl _)) Ch
    ·simp[IG];omega
    ·simp[O4,V5,Qt i DB]
    ·simp +contextual [O4,V5,JN,Ff,DE,w,n20,k,P8 a,U0 a,a]
    simp;intro y O _ J
    repeat rw[iN (by omega)]
    rw[J6 _ O,iN (by simpa using J)]
   unfold eI mI;simp[E];refine j _ _ (by omega) (by omega) (Di.DJ (x:=X.length) (N:=0) (l:=[]) (by omega) (BG _ _ _ _ _) trivial (λe=>absurd e (lt_irrefl _)) ?_ ?_ ?_ (λe=>absurd e (lt_irrefl _)) Ch)
   ·simp[O4,V5,E]
   ·simp +contextual [O4,V5,JN,Ff,DE,g,n20,k,P8 a,U0 a,a]
   simp;intro y O _ J;rw[J6 _ O,iN (by simpa using J)]
  rw[iN hg]at j g;have H:decide (((q:Nat):Int)=(T:Nat))=false:=by simp;omega
  have I:decide (q=T)=false:=by simp[hg]
  simp[i,af,U,al,am,o,r,k,P8 a,U0 a,a,n20,OF i, Jn,Jo, Jp,   an,ad,M,v,H,I];refine hI s p (-1) (true != n) (false != n) (by grind) (by grind) _ _ _ ?_ ?_
  ·unfold eI mI;refine Di.DJ (x:=X.length) (N:=0) (l:=[(15,20+X.length+1+5+7),(16,20+X.length+1+5+9+6)]) (by omega) (Kh Z _ _ _ _ _ _ _) ?_ (λe=>absurd e (lt_irrefl _)) ?_ ?_ ?_ (λe=>absurd e (lt_irrefl _)) Ch
   ·simp[IG];omega
   ·simp[O4,V5,Qt i DB]
   ·simp +contextual [O4,V5,JN,Ff,DE,w,n20,k,P8 a,U0 a,a]
   simp;intro y O _ J
   repeat rw[iN (by omega)]
   rw[J6 _ O,iN (by simpa using J)]
  unfold eI mI;simp[E];refine j _ _ (by omega) (by omega) (Di.DJ (x:=X.length) (N:=0) (l:=[]) (by omega) (BG _ _ _ _ _) trivial (λe=>absurd e (lt_irrefl _)) ?_ ?_ ?_ (λe=>absurd e (lt_irrefl _)) Ch)
  ·simp[O4,V5,E]
  ·simp +contextual [O4,V5,JN,Ff,DE,g,n20,k,P8 a,U0 a,a]
  simp;intro y O _ J;rw[J6 _ O,iN (by simpa using J)]
 |true=>
  have ai:ZB d p q=q/\ZI d p q=p:=by unfold ZB ZI;rw[<-aw,<-hc];grind
  have ad:(decide (pz=0) == d)=false:=by grind
  have ac:(d == (p%2 == 0))=false:=by
   grind
  have au:(d == (q%2 == 0))=true:=by
   have e1:(q%2 == 0) = !(p%2 == 0):=by rw[Bool.eq_iff_iff];simp;omega
   rw[e1];revert ac;cases (p%2 == 0)<;>cases d<;>simp
  rw[ai.1,ai.2,ac,au]at j g;simp only[Bool.true_bne,Bool.false_bne]at g;have M:=W7 ((q:Int)+3) ((q+3:Nat):Int);have v:((q+3:Nat):Int).tmod 4=(((q+3)%4:Nat):Int):=rfl;obtain⟨p3,av⟩:∃p3,p3=q+3:=⟨_,rfl⟩;rw[<-av]at M v j g;obtain⟨T,aj⟩:∃T,T=p3%4:=⟨_,rfl⟩;rw[<-aj]at v j g;by_cases hg:p=T
  ·rw[iP hg]at j g;have H:decide (((p:Nat):Int)=(T:Nat))=true:=by simp[hg]
   have I:decide (p=T)=true:=by simp[hg]
   simp[i,af,U,al,am,o,r,k,P8 a,U0 a,a,n20,OF i, Jn,Jo, Jp,   an,ad,M,v,H,I];refine hI t q 1 (false != n) (true != n) (by grind) (by grind) _ _ _ ?_ ?_
   ·unfold eI mI;refine Di.DJ (x:=X.length) (N:=0) (l:=[(15,20+X.length+1+5+7),(16,20+X.length+1+5+9+6)]) (by omega) (Kh Z _ _ _ _ _ _ _) ?_ (λe=>absurd e (lt_irrefl _)) ?_ ?_ ?_ (λe=>absurd e (lt_irrefl _)) Ch
    ·simp[IG];omega
    ·simp[O4,V5,Qt i DB]
    ·simp +contextual [O4,V5,JN,Ff,DE,w,n20,k,P8 a,U0 a,a]
    simp;intro y O _ J
    repeat rw[iN (by omega)]
    rw[J6 _ O,iN (by simpa using J)]
   unfold eI mI;simp[E];refine j _ _ (by omega) (by omega) (Di.DJ (x:=X.length) (N:=0) (l:=[]) (by omega) (BG _ _ _ _ _) trivial (λe=>absurd e (lt_irrefl _)) ?_ ?_ ?_ (λe=>absurd e (lt_irrefl _)) Ch)
   ·simp[O4,V5,E]
   ·simp +contextual [O4,V5,JN,Ff,DE,g,n20,k,P8 a,U0 a,a]
   simp;intro y O _ J;rw[J6 _ O,iN (by simpa using J)]
  rw[iN hg]at j g;have H:decide (((p:Nat):Int)=(T:Nat))=false:=by simp;omega
  have I:decide (p=T)=false:=by simp[hg]
  simp[i,af,U,al,am,o,r,k,P8 a,U0 a,a,n20,OF i, Jn,Jo, Jp,   an,ad,M,v,H,I];refine hI t q (-1) (false != n) (true != n) (by grind) (by grind) _ _ _ ?_ ?_
  ·unfold eI mI;refine Di.DJ (x:=X.length) (N:=0) (l:=[(15,20+X.length+1+5+7),(16,20+X.length+1+5+9+6)]) (by omega) (Kh Z _ _ _ _ _ _ _) ?_ (λe=>absurd e (lt_irrefl _)) ?_ ?_ ?_ (λe=>absurd e (lt_irrefl _)) Ch
   ·simp[IG];omega
   ·simp[O4,V5,Qt i DB]
   ·simp +contextual [O4,V5,JN,Ff,DE,w,n20,k,P8 a,U0 a,a]
   simp;intro y O _ J
   repeat rw[iN (by omega)]
   rw[J6 _ O,iN (by simpa using J)]
  unfold eI mI;simp[E];refine j _ _ (by omega) (by omega) (Di.DJ (x:=X.length) (N:=0) (l:=[]) (by omega) (BG _ _ _ _ _) trivial (λe=>absurd e (lt_irrefl _)) ?_ ?_ ?_ (λe=>absurd e (lt_irrefl _)) Ch)
  ·simp[O4,V5,E]
  ·simp +contextual [O4,V5,JN,Ff,DE,g,n20,k,P8 a,U0 a,a]
  simp;intro y O _ J;rw[J6 _ O,iN (by simpa using J)]
end Go.Ad
