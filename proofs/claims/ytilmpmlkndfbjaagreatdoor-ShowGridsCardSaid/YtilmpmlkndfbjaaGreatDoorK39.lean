/- Part 39 of the proof: En. -/
import Derived.Test.YtilmpmlkndfbjaaGreatDoorK38
set_option linter.all false
namespace Go.Ab
open Go Go.AE Go.Proofs
open Go.Plain
attribute [local simp] C8 D6 D3 B4 B0 C6 D7 C7 D9 B7 C3 Gk E5 B6 D8 C2 C1
attribute [local simp] aN YA
def Ry(m:Nat)(PL:List (Nat×Nat))(L:List (Nat×Nat))(G:List Lt)(x t:Nat):Lt:=if ¬Al m L t<2*m∧Bh m (Al m L t)<x then at' G t else Lm m PL L t
def Gw(m:Nat)(PL:List (Nat×Nat))(L:List (Nat×Nat))(G:List Lt)(K x:Nat):List (List Aa):=(List.range K).map fun t=>Ad (Ry m PL L G x t)
def UM:Aq:=.loop (sr [cL 136 135 134]
(.seq (.cond (tZ 136) .skip
(.exit 2))
(.seq (.block 3 (sr [mv 137 135,ix 138 1 133 135,lo 139 138,mv 14 137,mv 15 139]
(sr [mv 140 0,nc 141 140,fa 142 2 141,lo 143 142,mv 144 14,ix 145 6 143 144,lw 146 6 145,oZ 16 (.alloc [(.int .i64 0),(.int .i64 0),(.int .i64 0),(.int .i64 0),(.bool false),(.bool false)]),so 6 16 146]
(.seq (.region true [mv 147 15,oZ 148 (.BI 2 (tZ 147) (kZ 0)),lw 149 2 148,mv 150 15,oZ 151 (.BI 2 (tZ 150) (kZ 1)),lw 152 2 151,⟨(some 17),.alloc [(.int .i64 0),(.int .i64 0)],none,[1,2,4,5]⟩,⟨(some 18),.alloc [(.int .i64 0),(.int .i64 0)],none,[1,2,4,5,6]⟩,⟨none,.store 2 (tZ 17) (tZ 149),none,[4,5]⟩,so 2 18 152])
(.seq (sr [fa 153 1 17,lo 154 153,Np 155 154 2,FD 156 155 0,fa 157 4 16,lo 158 157,oZ 159 (.bin .neq .bool (tZ 156) (tZ 158))]
(.cond (tZ 159) (rf [lw 160 2 18,lw 161 2 17,so 2 17 160,so 2 18 161])
.skip))
(sr [mk 19 (-1)]
(.seq (sr [fa 162 1 18,lo 163 162,fa 164 1 17,lo 165 164,Dw 166 165 3,Np 167 166 4,cE 168 163 167]
(.cond (tZ 168) (rf [mk 19 1])
.skip))
(sr [mv 169 15,le 170 169,mk 171 0]
(.block 4 (.loop (sr [cL 172 171 170]
(.seq (.cond (tZ 172) .skip
(.exit 4))
(.seq (.block 5 (sr [ix 173 2 169 171,lw 174 2 173,oZ 21 (.alloc [(.int .i64 0),(.int .i64 0)]),so 2 21 174]
(sr [fa 175 1 6,lo 176 175,fa 177 0 21,lo 178 177,ix 179 6 176 178,mv 22 179]
(.region true [mv 180 22,mv 181 22,mv 182 19,lw 183 2 21,lw 184 2 17,oZ 185 (.bin .eql (.flat [.int,.int]) (tZ 183) (tZ 184)),fa 186 5 16,lo 187 186,oZ 188 (.bin .neq .bool (tZ 185) (tZ 187)),nc 189 180,fa 190 4 189,⟨none,.store 1 (tZ 190) (tZ 182),none,[3,4,7]⟩,nc 191 181,fa 192 5 191,so 1 192 188]))))
(rf [Dw 193 171 1,mv 171 193]))))))))))))))
(rf [Dw 194 135 1,mv 135 194]))))
def UO:Aq:=.seq (.region true [lw 195 2 6,lw 196 2 6,⟨(some 197),.call (.fn 51) [tZ 196],none,[0]⟩,FD 198 197 0,so 2 4 195,mv 5 198]) .ret
def eS(n x:Nat):Env:=[(0,.ptr 1 0 0),(4,.ptr 10 0 0),(6,.ptr 11 0 0),(133,.sl 12 0 n),(134,.int .i64 n),(135,.int .i64 x)]
def mS(f:Int)(n K j:Nat)(F:Nat→List (List Aa))(P XX R:List (List Aa)):Ac:=⟨M6 2 20 F n ([(10,.cells 2 [[.int .i64 0,.Ai]]),(11,.cells 2 [[.int .i64 f,.sl 14 0 K]]),(12,.cells 1 (M1 20 n F)),
 (1,.cells 3 [[.An P,.sl 2 0 j,AH 3 XX]]),(14,.cells 6 R)]++AF 3 6 XX []),20+n⟩
theorem zj{m:Nat}{X:List Nd}{x:Nat}(hx:x<X.length):((xJ m X).map Cb)[x]? = some (Cb (((2*m+4*x:Nat):Int),X.getD x (false,false))):=by
 unfold xJ;rw[gM,gM,List.getElem?_zipIdx,List.getD,gE hx];simp
section
variable {m:Nat} {X:List Nd} {L:List (Nat×Nat)} (h:Gt m X L) (hw:EF m X L) {gs:List Nat} (Bd:(Ar 0 gs).length=m)
include h hw Bd
theorem Zz{t:Nat}(ht:t<m+2*X.length):at' (X8 (Y3 m (Ar 0 gs) X L)) t=if Al m L t<2*m then Lm m (Ar 0 gs) L t else
 ⟨2,0,0,((Y9 ((Bh m (Al m L t):Nat):Int) (Dj m L (t+1)):Nat):Int),FA (Gf m (CR m X L) (Bh m (Al m L t))) (Gg m (CR m X L) (Bh m (Al m L t))) (X.getD (Bh m (Al m L t)) (false,false)).1,
  ((X.getD (Bh m (Al m L t)) (false,false)).1 == (CG m (Al m L t) % 2 == 0)) != (X.getD (Bh m (Al m L t)) (false,false)).2⟩:=by
 have hl:=HA h hw Bd;rw[VU (by rw[hl]; exact ht)]
 have hms:=Rn (ls:=Y3 m (Ar 0 gs) X L) (i:=t) (by rw[hl]; exact ht)
 unfold Fx;rw[← hms,tW h hw Bd (t+1) (by omega),QU h hw Bd ht]
 unfold Ez;by_cases hp:Al m L t<2*m
 ·rw[iP hp,iP hp,iN (by simp[AG])]
  unfold Lm;rw[iP hp]
 ·rw[iN hp,iN hp,iP rfl];simp only;rw[rK];rfl
omit h hw Bd in
theorem ym:Gw m (Ar 0 gs) L (X8 (Y3 m (Ar 0 gs) X L)) (m+2*X.length) 0=(I7 m (Ar 0 gs) L (m+2*X.length)).map Ad:=by
 unfold Gw I7;rw[List.map_map];refine List.map_congr_left fun t _=>?_
 show Ad (if _ then _ else _)=_
 rw[iN (fun e=>by omega)]
 rfl
theorem Z5u:Gw m (Ar 0 gs) L (X8 (Y3 m (Ar 0 gs) X L)) (m+2*X.length) X.length=(X8 (Y3 m (Ar 0 gs) X L)).map Ad:=by
 have hl:(X8 (Y3 m (Ar 0 gs) X L)).length=m+2*X.length:=by rw[OE,HA h hw Bd]
 unfold Gw;refine List.ext_getElem (by simp[hl]) fun t h1 h2=>?_
 simp only[lM,List.length_range]at h1;simp only[List.getElem_map,List.getElem_range];have hfin:=Zz h hw Bd h1;have e:at' (X8 (Y3 m (Ar 0 gs) X L)) t=(X8 (Y3 m (Ar 0 gs) X L))[t]'(by omega):=by unfold at'; rw[List.getD,gE (by omega)]; rfl
 rw[← e];unfold Ry;by_cases hp:Al m L t<2*m
 ·rw[iN (fun e=>e.1 hp),hfin,iP hp]
 ·have:=P8 h t;rw[iP ⟨hp,by unfold Bh; omega⟩]
omit Bd in
theorem xl{x s t p q:Nat}(hx:x<X.length)(hV:U4 m L (m+2*X.length) x=[(s,p),(t,q)]) :
 ((Gw m (Ar 0 gs) L (X8 (Y3 m (Ar 0 gs) X L)) (m+2*X.length) x).set s (Ad (at' (X8 (Y3 m (Ar 0 gs) X L)) s))).set t (Ad (at' (X8 (Y3 m (Ar 0 gs) X L)) t)) =
   Gw m (Ar 0 gs) L (X8 (Y3 m (Ar 0 gs) X L)) (m+2*X.length) (x+1):=by
 obtain⟨h1,h2,_⟩:=mW h hw hx hV;unfold Gw;refine List.ext_getElem (by simp) fun u g1 g2=>?_
 simp only[lM,List.length_range]at g2;have hs:=(Le (m:=m) (L:=L) (x:=x) (s:=s) (q:=p) (m+2*X.length)).1 (by rw[hV]; simp)
 have ht:=(Le (m:=m) (L:=L) (x:=x) (s:=t) (q:=q) (m+2*X.length)).1 (by rw[hV]; simp)
 rw[List.getElem_set,List.getElem_set];simp only[List.getElem_map,List.getElem_range];by_cases c1:t=u
 ·subst c1;rw[iP rfl];unfold Ry;rw[iP ⟨ht.2.1,by rw[ht.2.2.1]; omega⟩]
 ·rw[iN c1];by_cases c2:s=u
  ·subst c2;rw[iP rfl];unfold Ry;rw[iP ⟨hs.2.1,by rw[hs.2.2.1]; omega⟩]
  ·rw[iN c2];unfold Ry;by_cases c3:Al m L u<2*m
   ·rw[iN (fun e=>e.1 c3),iN (fun e=>e.1 c3)]
   ·have hne:Bh m (Al m L u)≠x:=fun e=>by
     have:=(Le (m:=m) (L:=L) (x:=x) (s:=u) (q:=CG m (Al m L u)) (m+2*X.length)).2 ⟨g2,c3,e,rfl⟩;rw[hV]at this;simp only[mC,AP,List.not_mem_nil,or_false]at this;omega
    by_cases c4:Bh m (Al m L u)<x
    ·rw[iP ⟨c3,c4⟩,iP ⟨c3,by omega⟩]
    ·rw[iN (fun e=>c4 e.2),iN (fun e=>by have:=e.2; omega)]
end
theorem lI{get:Nat→Option Ag}{S:List Nat}{b:Nat}{f:Int}{ls:List Lt}(hb:X3 b S=true)(hg:get b=some (.cells 6 (ls.map Ad))):EG get S (.agg [.int .i64 f,.sl b 0 ls.length])=cV f ls:=by
 have h1:W3 (E3 get S) 4 (.sl b 0 ls.length)=some (.An (ls.map Ad)):=by
  have:=cO (n:=3) (get:=E3 get S) (b:=b) (k:=6) (rows:=ls.map Ad) (by unfold E3; rw[hb]; exact hg) (SM _)
  rwa[lM]at this
 unfold EG;rw[W3];simp only[T5,h1];rfl
set_option maxRecDepth 100000 in
set_option maxHeartbeats 16000000 in
theorem Z4m(f:Int){m:Nat}{X:List Nd}{L:List (Nat×Nat)}(h:Gt m X L)(hw:EF m X L){gs:List Nat}(Bd:(Ar 0 gs).length=m)(hb:2*m+4*X.length≤1000)(P:List (List Aa))(Fv:∀ q,Z3 q P=P)
 (K:Aa→Ac→Prop) (hC:J9 f (X8 (Y3 m (Ar 0 gs) X L))=0) (hK:K (.tuple [.agg [.int .i64 f,.sl 4 0 (m+2*X.length)],.bool true]) ⟨[(4,.cells 6 ((X8 (Y3 m (Ar 0 gs) X L)).map Ad))],5⟩) (e:Env) (mm:Ac)
 (hW:Dk 199 4 (eS X.length 0) (mS f X.length (m+2*X.length) (2*m+4*X.length) (fun x=>(U4 m L (m+2*X.length) x).map Dv) P ((xJ m X).map Cb) ((I7 m (Ar 0 gs) L (m+2*X.length)).map Ad)) e mm) :
 Cx Tryz.prog [] 199 4 UM (H6 2 (P5 (Cx Tryz.prog [] 199 4 UO (I6 199 [(4,some (some 2)),(5,none)] (M4 4 K))) (I6 199 [(4,some (some 2)),(5,none)] (M4 4 K)))) e mm:=by
 have hl:(X8 (Y3 m (Ar 0 gs) X L)).length=m+2*X.length:=by rw[OE,HA h hw Bd]
 have hchk:=c30 f (X8 (Y3 m (Ar 0 gs) X L)) (by omega)
 rw[hC]at hchk;have hM0:=ym (m:=m) (X:=X) (L:=L) (gs:=gs);have hMn:=Z5u h hw Bd;have hMs:=fun x s t p q hx hV=>xl h hw (gs:=gs) (x:=x) (s:=s) (t:=t) (p:=p) (q:=q) hx hV
 have hXl:((xJ m X).map Cb).length=X.length:=by rw[lM,Xh]
 have hXg:=fun x hx=>zj (m:=m) (X:=X) (x:=x) hx
 have ET:∀ q,Z3 q ((xJ m X).map Cb)=(xJ m X).map Cb:=fun q=>X7 q _ (OJ _)
 obtain⟨F,hF⟩:∃ F:Nat→List (List Aa),F=fun x=>(U4 m L (m+2*X.length) x).map Dv:=⟨_,rfl⟩
 have He:∀ y,V3 (F y)=true:=fun y=>by rw[hF]; exact Rp _
 have hrM:∀ x q,Z3 q (Gw m (Ar 0 gs) L (X8 (Y3 m (Ar 0 gs) X L)) (m+2*X.length) x)=Gw m (Ar 0 gs) L (X8 (Y3 m (Ar 0 gs) X L)) (m+2*X.length) x:=fun x q=>by
  refine X7 q _ ?_;unfold Gw;have:=R7 ((List.range (m+2*X.length)).map (Ry m (Ar 0 gs) L (X8 (Y3 m (Ar 0 gs) X L)) x));rw[List.map_map]at this;exact this
 have hrG:∀ q,Z3 q ((X8 (Y3 m (Ar 0 gs) X L)).map Ad)=(X8 (Y3 m (Ar 0 gs) X L)).map Ad:=fun q=>X7 q _ (R7 _)
 have hMl:∀ x,(Gw m (Ar 0 gs) L (X8 (Y3 m (Ar 0 gs) X L)) (m+2*X.length) x).length=m+2*X.length:=fun x=>by unfold Gw; simp
 rw[← hF,← hM0]at hW;have hFx:∀ x s t p q,U4 m L (m+2*X.length) x=[(s,p),(t,q)]→F x=[[.int .i64 s,.int .i64 p],[.int .i64 t,.int .i64 q]]:=fun x s t p q e=>by rw[hF]; simp only[e]; rfl
 clear hF;have BZ:∀ (A B C D G:Ag) (c:Nat) (y:Ag),Y2 ([(10,A),(11,B),(12,C),(1,D),(14,G)]++AF 3 6 ((xJ m X).map Cb) []) c=some y→c<20:=fun A B C D G c y hc=>by
  refine RP (fun p hp=>?_) hc
  simp only[List.cons_append,List.nil_append,mC]at hp;rcases hp with rfl|rfl|rfl|rfl|rfl|hp
  any_goals (show _<_; omega)
  rcases RY hp with e|hp
  ·omega
  ·cases hp
 generalize (xJ m X).map Cb=XX at *;unfold UM;refine Tn (fun x=>eS X.length x) (fun x=>mS f X.length (m+2*X.length) (2*m+4*X.length) F P XX (Gw m (Ar 0 gs) L (X8 (Y3 m (Ar 0 gs) X L)) (m+2*X.length) x)) (fun x=>X.length - x) (fun x=>x≤X.length) 0 hW (Nat.zero_le _) ?_
 intro x hx N hN;unfold eS mS at *;by_cases hend:x=X.length
 ·subst hend;rw[hMn]at *;unfold UO;simp;have hfz:EG (B5 (Ac.get ⟨M6 2 20 F X.length ([(10,.cells 2 [[.int .i64 0,.Ai]]),(11,.cells 2 [[.int .i64 f,.sl 14 0 (m+2*X.length)]]),(12,.cells 1 (M1 20 X.length F)),(1,.cells 3 [[.An P,.sl 2 0 (2*m+4*X.length),AH 3 XX]]),(14,.cells 6 ((X8 (Y3 m (Ar 0 gs) X L)).map Ad))]++AF 3 6 XX []),20+X.length+1+6⟩)
   (DT (20+X.length+1) 2 [FD 198 197 0,so 2 4 195,mv 5 198].length)) [14] (.agg [.int .i64 f,.sl 14 0 (m+2*X.length)])=cV f (X8 (Y3 m (Ar 0 gs) X L)):=by
   have:=lI (get:=B5 (Ac.get ⟨M6 2 20 F X.length ([(10,.cells 2 [[.int .i64 0,.Ai]]),(11,.cells 2 [[.int .i64 f,.sl 14 0 (m+2*X.length)]]),(12,.cells 1 (M1 20 X.length F)),(1,.cells 3 [[.An P,.sl 2 0 (2*m+4*X.length),AH 3 XX]]),(14,.cells 6 ((X8 (Y3 m (Ar 0 gs) X L)).map Ad))]++AF 3 6 XX []),20+X.length+1+6⟩)
    (DT (20+X.length+1) 2 [FD 198 197 0,so 2 4 195,mv 5 198].length)) (S:=[14]) (b:=14) (f:=f) (ls:=X8 (Y3 m (Ar 0 gs) X L)) (by simp[X3]) (by simp[B5,X3,show ¬20+X.length=13 by omega,show ¬20+X.length=12 by omega,show ¬20+X.length=10 by omega,show ¬20+X.length=9 by omega,show ¬20+X.length=8 by omega])
   rw[hl]at this;exact this
  refine yO hchk trivial [14] ?_ ?_
  ·simp only[List.map_cons,List.map_nil];rw[← hfz];rfl
  ·simp;refine⟨by omega,Z6 hK [(4,14)] (by simp[hrG])⟩
 ·have hxl:x<X.length:=by omega
  obtain⟨s,t,p,q,hst,htK,hV,_,_,hp4,hq4,hpq⟩:=lJ h hw hxl;have hfs:=Zz h hw Bd (t:=s) (by omega)
  have hft:=Zz h hw Bd (t:=t) htK;have hms:=(Le (m:=m) (L:=L) (x:=x) (s:=s) (q:=p) (m+2*X.length)).1 (by rw[hV]; simp)
  have hmt:=(Le (m:=m) (L:=L) (x:=x) (s:=t) (q:=q) (m+2*X.length)).1 (by rw[hV]; simp)
  rw[iN hms.2.1,hms.2.2.1,← hms.2.2.2]at hfs;rw[iN hmt.2.1,hmt.2.2.1,← hmt.2.2.2]at hft;obtain⟨⟨d,low⟩,hXd⟩:∃ z:Nd,z=X.getD x (false,false):=⟨_,rfl⟩
  have hsg:=Z5b h hw hxl hV d;have hFx:=hFx x s t p q hV;have hXg:=hXg x hxl;rw[← hXd]at hXg hfs hft;simp only at hfs hft;rw[hsg]at hfs hft;obtain⟨_,hXg2⟩:=Y6 hXg;have hXne:¬XX=[]:=fun e=>by rw[e]at hXl; simp at hXl; omega
  have hfg:(M1 20 X.length F)[x]? = some [.sl (20+x) 0 2]:=by rw[vN hxl,hFx]; rfl
  obtain⟨_,hfg2⟩:=Y6 hfg;have hfl:(M1 20 X.length F).length=X.length:=ZK;have hlf:∀ rest,Y2 (M6 2 20 F X.length rest) (20+x)=some (.cells 2 [[.int .i64 s,.int .i64 p],[.int .i64 t,.int .i64 q]]):=fun rest=>by rw[O6 _ hxl,hFx,iN (by simp)]
  have hMs:=hMs x s t p q hxl hV;have hMl:=hMl x;have hrM0:=hrM x;have hM0g:∀ u,u<m+2*X.length → ¬Al m L u<2*m→Bh m (Al m L u)=x→(Gw m (Ar 0 gs) L (X8 (Y3 m (Ar 0 gs) X L)) (m+2*X.length) x)[u]? = some (Ad ⟨2,0,0,((Y9 ((x:Nat):Int) (Dj m L (u+1)):Nat):Int),0,false⟩):=fun u hu h1 h2=>by
   unfold Gw;rw[gM,List.getElem?_range hu];show some (Ad (if _ then _ else _))=_
   rw[iN (fun e=>by omega)]
   unfold Lm;rw[iN h1,h2];rfl
  have hMgs:=hM0g s (by omega) hms.2.1 hms.2.2.1
  have hMgt:=hM0g t htK hmt.2.1 hmt.2.2.1;clear hM0g;generalize Y9 ((x:Nat):Int) (Dj m L (s+1))=ids at *;generalize Y9 ((x:Nat):Int) (Dj m L (t+1))=Rv at *;generalize Gw m (Ar 0 gs) L (X8 (Y3 m (Ar 0 gs) X L)) (m+2*X.length) x=R0 at *;have hrR0:∀ q,Z3 q R0=R0:=hrM0
  have hN1:=hN (x+1);rw[← hMs]at hN1;have hrR2:∀ q,Z3 q ((R0.set s (Ad (at' (X8 (Y3 m (Ar 0 gs) X L)) s))).set t (Ad (at' (X8 (Y3 m (Ar 0 gs) X L)) t)))=(R0.set s (Ad (at' (X8 (Y3 m (Ar 0 gs) X L)) s))).set t (Ad (at' (X8 (Y3 m (Ar 0 gs) X L)) t)):=fun q=>by rw[hMs]; exact hrM (x+1) q
  rw[hfs,hft]at hN1 hrR2;clear hN hMs hfs hft hrM hMn hM0 hchk hK hW hsg hrG;obtain⟨pz,hpz⟩:∃ pz,pz=p % 2:=⟨_,rfl⟩
  have htp:((p:Nat):Int).tmod 2=(pz:Nat):=by rw[hpz]; rfl
  have hK0:m+2*X.length≤1000:=by omega
  obtain⟨c,hc⟩:∃ c:Bool,c=(decide (pz=0) != d):=⟨_,rfl⟩
  have hrnd:∀ q':Nat→Nat,U3 q' (Cb (((2*m+4*x:Nat):Int),d,low))=Cb (((2*m+4*x:Nat):Int),d,low):=fun _=>rfl
  obtain⟨e0,he0⟩:∃ e0:Int,e0=((2*m+4*x:Nat):Int):=⟨_,rfl⟩
  rw[← he0]at hXg hXg2;simp only[Cb]at hXg hXg2;have hI:=fun so po sg bs bt iX iY Q e mm hW hQ=>Z35 f X.length (m+2*X.length) (2*m+4*X.length) x s t p q so po ids Rv sg F P XX R0 e0 (e0+1) (e0+2) (e0+3) d low bs bt Fv ET hXne hrR0 He hxl hMl hst htK hK0 hFx hMgs hMgt iX iY Q e mm hW hQ
  have Cm:∀ y,y<X.length→V3 (F y)=true:=fun y _=>He y
  have Dz:x≠X.length:=by omega
  have hts:t≠s:=by omega
  have hwx:=Y1 ((x:Int)+1) ((x+1:Nat):Int);cases c with
  | false=>
   have hov:Vp d p q=p∧Vt d p q=q:=by unfold Vp Vt; rw[← hpz,← hc]; exact⟨rfl,rfl⟩
   have hcd:(decide (pz=0) == d)=true:=by revert hc; cases decide (pz=0)<;>cases d<;>simp
   have hbp:(d == (p % 2 == 0))=true:=by
    have e1:(p % 2 == 0)=decide (pz=0):=by rw[Bool.eq_iff_iff]; simp; omega
    rw[e1]; revert hcd; cases decide (pz=0)<;>cases d<;>simp
   have hbq:(d == (q % 2 == 0))=false:=by
    have e1:(q % 2 == 0) = !(p % 2 == 0):=by rw[Bool.eq_iff_iff]; simp; omega
    rw[e1]; revert hbp; cases (p % 2 == 0)<;>cases d<;>simp
   rw[hov.1,hov.2,hbp,hbq]at hN1 hrR2;simp only[Bool.true_bne,Bool.false_bne]at hrR2;have hw3:=Y1 ((p:Int)+3) ((p+3:Nat):Int);have ht3:((p+3:Nat):Int).tmod 4=(((p+3) % 4:Nat):Int):=rfl;obtain⟨p3,hp3⟩:∃ p3,p3=p+3:=⟨_,rfl⟩
   rw[← hp3]at hw3 ht3 hN1 hrR2;obtain⟨p4,hp4e⟩:∃ p4,p4=p3 % 4:=⟨_,rfl⟩
   rw[← hp4e]at ht3 hN1 hrR2;by_cases hg:q=p4
   ·rw[iP hg]at hN1 hrR2;have hgi:decide (((q:Nat):Int)=(p4:Nat))=true:=by simp[hg]
    have hgn:decide (q=p4)=true:=by simp[hg]
    simp[hxl,hfg,hfg2,hfl,hlf,hXg,hXg2,hXl,Y4 hXne,Z9 hXne,hXne,n20,Ln hxl, Hh,Hi, Hj,   htp,hcd,hw3,ht3,hgi,hgn];refine hI s p 1 (true != low) (false != low) (by simp[hts,Ne.symm hts]) (by simp[hts,Ne.symm hts]) _ _ _ ?_ ?_
    ·unfold eI mI;refine Dk.Dq (x:=X.length) (N:=0) (l:=[(15,20+X.length+1+5+7),(16,20+X.length+1+5+9+6)]) (by omega) (HR XX _ _ _ _ _ _ _) ?_ (fun e=>absurd e (Nat.lt_irrefl _)) ?_ ?_ ?_ (fun e=>absurd e (Nat.lt_irrefl _)) Cm
     ·simp[GN]; omega
     ·simp[S5,W5,ME hxl Dz]
     ·simp +contextual [S5,W5,Hv,Fv,ET,hrR0,n20,hXl,Y4 hXne,Z9 hXne,hXne]
     ·simp;intro y hy _ hv
      repeat rw[iN (by omega)]
      rw[O6 _ hy,iN (by simpa using hv)]
    ·unfold eI mI;simp[hwx];refine hN1 _ _ (by omega) (by omega) (Dk.Dq (x:=X.length) (N:=0) (l:=[]) (by omega) (BZ _ _ _ _ _) trivial (fun e=>absurd e (Nat.lt_irrefl _)) ?_ ?_ ?_ (fun e=>absurd e (Nat.lt_irrefl _)) Cm)
     ·simp[S5,W5,hwx]
     ·simp +contextual [S5,W5,Hv,Fv,ET,hrR2,n20,hXl,Y4 hXne,Z9 hXne,hXne]
     ·simp;intro y hy _ hv;rw[O6 _ hy,iN (by simpa using hv)]
   ·rw[iN hg]at hN1 hrR2;have hgi:decide (((q:Nat):Int)=(p4:Nat))=false:=by simp; omega
    have hgn:decide (q=p4)=false:=by simp[hg]
    simp[hxl,hfg,hfg2,hfl,hlf,hXg,hXg2,hXl,Y4 hXne,Z9 hXne,hXne,n20,Ln hxl, Hh,Hi, Hj,   htp,hcd,hw3,ht3,hgi,hgn];refine hI s p (-1) (true != low) (false != low) (by simp[hts,Ne.symm hts]) (by simp[hts,Ne.symm hts]) _ _ _ ?_ ?_
    ·unfold eI mI;refine Dk.Dq (x:=X.length) (N:=0) (l:=[(15,20+X.length+1+5+7),(16,20+X.length+1+5+9+6)]) (by omega) (HR XX _ _ _ _ _ _ _) ?_ (fun e=>absurd e (Nat.lt_irrefl _)) ?_ ?_ ?_ (fun e=>absurd e (Nat.lt_irrefl _)) Cm
     ·simp[GN]; omega
     ·simp[S5,W5,ME hxl Dz]
     ·simp +contextual [S5,W5,Hv,Fv,ET,hrR0,n20,hXl,Y4 hXne,Z9 hXne,hXne]
     ·simp;intro y hy _ hv
      repeat rw[iN (by omega)]
      rw[O6 _ hy,iN (by simpa using hv)]
    ·unfold eI mI;simp[hwx];refine hN1 _ _ (by omega) (by omega) (Dk.Dq (x:=X.length) (N:=0) (l:=[]) (by omega) (BZ _ _ _ _ _) trivial (fun e=>absurd e (Nat.lt_irrefl _)) ?_ ?_ ?_ (fun e=>absurd e (Nat.lt_irrefl _)) Cm)
     ·simp[S5,W5,hwx]
     ·simp +contextual [S5,W5,Hv,Fv,ET,hrR2,n20,hXl,Y4 hXne,Z9 hXne,hXne]
     ·simp;intro y hy _ hv;rw[O6 _ hy,iN (by simpa using hv)]
  | true=>
   have hov:Vp d p q=q∧Vt d p q=p:=by unfold Vp Vt; rw[← hpz,← hc]; exact⟨rfl,rfl⟩
   have hcd:(decide (pz=0) == d)=false:=by revert hc; cases decide (pz=0)<;>cases d<;>simp
   have hbp:(d == (p % 2 == 0))=false:=by
    have e1:(p % 2 == 0)=decide (pz=0):=by rw[Bool.eq_iff_iff]; simp; omega
    rw[e1]; revert hcd; cases decide (pz=0)<;>cases d<;>simp
   have hbq:(d == (q % 2 == 0))=true:=by
    have e1:(q % 2 == 0) = !(p % 2 == 0):=by rw[Bool.eq_iff_iff]; simp; omega
    rw[e1]; revert hbp; cases (p % 2 == 0)<;>cases d<;>simp
   rw[hov.1,hov.2,hbp,hbq]at hN1 hrR2;simp only[Bool.true_bne,Bool.false_bne]at hrR2;have hw3:=Y1 ((q:Int)+3) ((q+3:Nat):Int);have ht3:((q+3:Nat):Int).tmod 4=(((q+3) % 4:Nat):Int):=rfl;obtain⟨p3,hp3⟩:∃ p3,p3=q+3:=⟨_,rfl⟩
   rw[← hp3]at hw3 ht3 hN1 hrR2;obtain⟨p4,hp4e⟩:∃ p4,p4=p3 % 4:=⟨_,rfl⟩
   rw[← hp4e]at ht3 hN1 hrR2;by_cases hg:p=p4
   ·rw[iP hg]at hN1 hrR2;have hgi:decide (((p:Nat):Int)=(p4:Nat))=true:=by simp[hg]
    have hgn:decide (p=p4)=true:=by simp[hg]
    simp[hxl,hfg,hfg2,hfl,hlf,hXg,hXg2,hXl,Y4 hXne,Z9 hXne,hXne,n20,Ln hxl, Hh,Hi, Hj,   htp,hcd,hw3,ht3,hgi,hgn];refine hI t q 1 (false != low) (true != low) (by simp[hts,Ne.symm hts]) (by simp[hts,Ne.symm hts]) _ _ _ ?_ ?_
    ·unfold eI mI;refine Dk.Dq (x:=X.length) (N:=0) (l:=[(15,20+X.length+1+5+7),(16,20+X.length+1+5+9+6)]) (by omega) (HR XX _ _ _ _ _ _ _) ?_ (fun e=>absurd e (Nat.lt_irrefl _)) ?_ ?_ ?_ (fun e=>absurd e (Nat.lt_irrefl _)) Cm
     ·simp[GN]; omega
     ·simp[S5,W5,ME hxl Dz]
     ·simp +contextual [S5,W5,Hv,Fv,ET,hrR0,n20,hXl,Y4 hXne,Z9 hXne,hXne]
     ·simp;intro y hy _ hv
      repeat rw[iN (by omega)]
      rw[O6 _ hy,iN (by simpa using hv)]
    ·unfold eI mI;simp[hwx];refine hN1 _ _ (by omega) (by omega) (Dk.Dq (x:=X.length) (N:=0) (l:=[]) (by omega) (BZ _ _ _ _ _) trivial (fun e=>absurd e (Nat.lt_irrefl _)) ?_ ?_ ?_ (fun e=>absurd e (Nat.lt_irrefl _)) Cm)
     ·simp[S5,W5,hwx]
     ·simp +contextual [S5,W5,Hv,Fv,ET,hrR2,n20,hXl,Y4 hXne,Z9 hXne,hXne]
     ·simp;intro y hy _ hv;rw[O6 _ hy,iN (by simpa using hv)]
   ·rw[iN hg]at hN1 hrR2;have hgi:decide (((p:Nat):Int)=(p4:Nat))=false:=by simp; omega
    have hgn:decide (p=p4)=false:=by simp[hg]
    simp[hxl,hfg,hfg2,hfl,hlf,hXg,hXg2,hXl,Y4 hXne,Z9 hXne,hXne,n20,Ln hxl, Hh,Hi, Hj,   htp,hcd,hw3,ht3,hgi,hgn];refine hI t q (-1) (false != low) (true != low) (by simp[hts,Ne.symm hts]) (by simp[hts,Ne.symm hts]) _ _ _ ?_ ?_
    ·unfold eI mI;refine Dk.Dq (x:=X.length) (N:=0) (l:=[(15,20+X.length+1+5+7),(16,20+X.length+1+5+9+6)]) (by omega) (HR XX _ _ _ _ _ _ _) ?_ (fun e=>absurd e (Nat.lt_irrefl _)) ?_ ?_ ?_ (fun e=>absurd e (Nat.lt_irrefl _)) Cm
     ·simp[GN]; omega
     ·simp[S5,W5,ME hxl Dz]
     ·simp +contextual [S5,W5,Hv,Fv,ET,hrR0,n20,hXl,Y4 hXne,Z9 hXne,hXne]
     ·simp;intro y hy _ hv
      repeat rw[iN (by omega)]
      rw[O6 _ hy,iN (by simpa using hv)]
    ·unfold eI mI;simp[hwx];refine hN1 _ _ (by omega) (by omega) (Dk.Dq (x:=X.length) (N:=0) (l:=[]) (by omega) (BZ _ _ _ _ _) trivial (fun e=>absurd e (Nat.lt_irrefl _)) ?_ ?_ ?_ (fun e=>absurd e (Nat.lt_irrefl _)) Cm)
     ·simp[S5,W5,hwx]
     ·simp +contextual [S5,W5,Hv,Fv,ET,hrR2,n20,hXl,Y4 hXne,Z9 hXne,hXne]
     ·simp;intro y hy _ hv;rw[O6 _ hy,iN (by simpa using hv)]
end Go.Ab
