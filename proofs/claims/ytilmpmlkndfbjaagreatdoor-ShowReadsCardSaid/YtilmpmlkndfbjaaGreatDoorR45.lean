/- Part 45 of the proof: En. -/
import Derived.Test.YtilmpmlkndfbjaaGreatDoorR44
set_option linter.all false
namespace Go.Known
open Go Go.AE Go.Proofs
open Go.Plain
attribute [local simp] Zd6 Ze1 Zeb Zee Zep Ze7 Zex Zen Zef Zd8 Ze4 isV isVo Zeo Zez Zeu Zd9
attribute [local simp] Zra Zqh
def mxT(m:Nat)(PL:List (Nat×Nat))(L:List (Nat×Nat))(G:List Lt)(x t:Nat):Lt:=if ¬arE m L t<2*m∧xoE m (arE m L t)<x then at' G t else ltN m PL L t
def mxE(m:Nat)(PL:List (Nat×Nat))(L:List (Nat×Nat))(G:List Lt)(K x:Nat):List (List AVal):=(List.range K).map fun t=>rowL (mxT m PL L G x t)
def cLp2:ACode:=.loop (sr [cL 136 135 134]
(.seq (.cond (tZ 136) .skip
(.exit 2))
(.seq (.block 3 (sr [mv 137 135,ix 138 1 133 135,lo 139 138,mv 14 137,mv 15 139]
(sr [mv 140 0,nc 141 140,fa 142 2 141,lo 143 142,mv 144 14,ix 145 6 143 144,lw 146 6 145,oZ 16 (.alloc [(.int .i64 0),(.int .i64 0),(.int .i64 0),(.int .i64 0),(.bool false),(.bool false)]),so 6 16 146]
(.seq (.region true [mv 147 15,oZ 148 (.idxA 2 (tZ 147) (kZ 0)),lw 149 2 148,mv 150 15,oZ 151 (.idxA 2 (tZ 150) (kZ 1)),lw 152 2 151,⟨(some 17),.alloc [(.int .i64 0),(.int .i64 0)],none,[1,2,4,5]⟩,⟨(some 18),.alloc [(.int .i64 0),(.int .i64 0)],none,[1,2,4,5,6]⟩,⟨none,.store 2 (tZ 17) (tZ 149),none,[4,5]⟩,so 2 18 152])
(.seq (sr [fa 153 1 17,lo 154 153,aRk 155 154 2,cEk 156 155 0,fa 157 4 16,lo 158 157,oZ 159 (.bin .neq .bool (tZ 156) (tZ 158))]
(.cond (tZ 159) (rf [lw 160 2 18,lw 161 2 17,so 2 17 160,so 2 18 161])
.skip))
(sr [mk 19 (-1)]
(.seq (sr [fa 162 1 18,lo 163 162,fa 164 1 17,lo 165 164,aDk 166 165 3,aRk 167 166 4,cE 168 163 167]
(.cond (tZ 168) (rf [mk 19 1])
.skip))
(sr [mv 169 15,le 170 169,mk 171 0]
(.block 4 (.loop (sr [cL 172 171 170]
(.seq (.cond (tZ 172) .skip
(.exit 4))
(.seq (.block 5 (sr [ix 173 2 169 171,lw 174 2 173,oZ 21 (.alloc [(.int .i64 0),(.int .i64 0)]),so 2 21 174]
(sr [fa 175 1 6,lo 176 175,fa 177 0 21,lo 178 177,ix 179 6 176 178,mv 22 179]
(.region true [mv 180 22,mv 181 22,mv 182 19,lw 183 2 21,lw 184 2 17,oZ 185 (.bin .eql (.flat [.int,.int]) (tZ 183) (tZ 184)),fa 186 5 16,lo 187 186,oZ 188 (.bin .neq .bool (tZ 185) (tZ 187)),nc 189 180,fa 190 4 189,⟨none,.store 1 (tZ 190) (tZ 182),none,[3,4,7]⟩,nc 191 181,fa 192 5 191,so 1 192 188]))))
(rf [aDk 193 171 1,mv 171 193]))))))))))))))
(rf [aDk 194 135 1,mv 135 194]))))
def cRst:ACode:=.seq (.region true [lw 195 2 6,lw 196 2 6,⟨(some 197),.call (.fn 51) [tZ 196],none,[0]⟩,cEk 198 197 0,so 2 4 195,mv 5 198]) .ret
def eS(n x:Nat):Env:=[(0,.ptr 1 0 0),(4,.ptr 10 0 0),(6,.ptr 11 0 0),(133,.sl 12 0 n),(134,.int .i64 n),(135,.int .i64 x)]
def mS(f:Int)(n K j:Nat)(F:Nat→List (List AVal))(P XX R:List (List AVal)):SMem:=⟨K6 2 20 F n ([(10,.cells 2 [[.int .i64 0,.nilSl]]),(11,.cells 2 [[.int .i64 f,.sl 14 0 K]]),(12,.cells 1 (L7 20 n F)),
 (1,.cells 3 [[.imm P,.sl 2 0 j,slV 3 XX]]),(14,.cells 6 R)]++blV 3 6 XX []),20+n⟩
theorem Yco{m:Nat}{X:List Nd}{x:Nat}(a:x<X.length):((xJ m X).map ndL)[x]? = some (ndL (((2*m+4*x:Nat):Int),X.getD x (false,false))):=by
 unfold xJ;rw[List.getElem?_map,List.getElem?_map,List.getElem?_zipIdx,List.getD,gE a];simp
section
variable {m:Nat} {X:List Nd} {L:List (Nat×Nat)} (h:Rdg m X L) (hw:Whl m X L) {gs:List Nat} (hPL:(plE 0 gs).length=m)
include h hw hPL
theorem Zp8{t:Nat}(c:t<m+2*X.length):at' (X8 (Y0 m (plE 0 gs) X L)) t=if arE m L t<2*m then ltN m (plE 0 gs) L t else
 ⟨2,0,0,((Y6 ((xoE m (arE m L t):Nat):Int) (nmI m L (t+1)):Nat):Int),sgE (e0E m (arL m X L) (xoE m (arE m L t))) (e1E m (arL m X L) (xoE m (arE m L t))) (X.getD (xoE m (arE m L t)) (false,false)).1,
  ((X.getD (xoE m (arE m L t)) (false,false)).1 == (qoE m (arE m L t) % 2 == 0)) != (X.getD (xoE m (arE m L t)) (false,false)).2⟩:=by
 have d:=Zai h hw hPL;rw[Zmy (by rw[d]; exact c)]
 have b:=Zhv (ls:=Y0 m (plE 0 gs) X L) (i:=t) (by rw[d]; exact c)
 unfold renS;rw[← b,Zv1 h hw hPL (t+1) (by omega),Zhc h hw hPL c]
 unfold ltA;by_cases a:arE m L t<2*m
 ·rw[if_pos a,if_pos a,if_neg (by simp[passL])]
  unfold ltN;rw[if_pos a]
 ·rw[if_neg a,if_neg a,if_pos rfl];simp only;rw[Zus];rfl
omit h hw hPL in
theorem Z33:mxE m (plE 0 gs) L (X8 (Y0 m (plE 0 gs) X L)) (m+2*X.length) 0=(G6 m (plE 0 gs) L (m+2*X.length)).map rowL:=by
 unfold mxE G6;rw[List.map_map];refine List.map_congr_left fun t _=>?_
 show rowL (if _ then _ else _)=_
 rw[if_neg (fun e=>by omega)]
 rfl
theorem Z2a:mxE m (plE 0 gs) L (X8 (Y0 m (plE 0 gs) X L)) (m+2*X.length) X.length=(X8 (Y0 m (plE 0 gs) X L)).map rowL:=by
 have d:(X8 (Y0 m (plE 0 gs) X L)).length=m+2*X.length:=by rw[Zfc,Zai h hw hPL]
 unfold mxE;refine List.ext_getElem (by simp[d]) fun t c f=>?_
 simp only[List.length_map,List.length_range]at c;simp only[List.getElem_map,List.getElem_range];have a:=Zp8 h hw hPL c;have e:at' (X8 (Y0 m (plE 0 gs) X L)) t=(X8 (Y0 m (plE 0 gs) X L))[t]'(by omega):=by unfold at'; rw[List.getD,gE (by omega)]; rfl
 rw[← e];unfold mxT;by_cases b:arE m L t<2*m
 ·rw[if_neg (fun e=>e.1 b),a,if_pos b]
 ·have:=P9 h t;rw[if_pos ⟨b,by unfold xoE; omega⟩]
omit hPL in
theorem Z4f{x s t p q:Nat}(k:x<X.length)(b:T1 m L (m+2*X.length) x=[(s,p),(t,q)]) :
 ((mxE m (plE 0 gs) L (X8 (Y0 m (plE 0 gs) X L)) (m+2*X.length) x).set s (rowL (at' (X8 (Y0 m (plE 0 gs) X L)) s))).set t (rowL (at' (X8 (Y0 m (plE 0 gs) X L)) t)) =
   mxE m (plE 0 gs) L (X8 (Y0 m (plE 0 gs) X L)) (m+2*X.length) (x+1):=by
 obtain⟨n,o,_⟩:=Zwj h hw k b;unfold mxE;refine List.ext_getElem (by simp) fun u l f=>?_
 simp only[List.length_map,List.length_range]at f;have g:=(Zd4 (m:=m) (L:=L) (x:=x) (s:=s) (q:=p) (m+2*X.length)).1 (by rw[b]; simp)
 have i:=(Zd4 (m:=m) (L:=L) (x:=x) (s:=t) (q:=q) (m+2*X.length)).1 (by rw[b]; simp)
 rw[List.getElem_set,List.getElem_set];simp only[List.getElem_map,List.getElem_range];by_cases c:t=u
 ·subst c;rw[if_pos rfl];unfold mxT;rw[if_pos ⟨i.2.1,by rw[i.2.2.1]; omega⟩]
 ·rw[if_neg c];by_cases d:s=u
  ·subst d;rw[if_pos rfl];unfold mxT;rw[if_pos ⟨g.2.1,by rw[g.2.2.1]; omega⟩]
  ·rw[if_neg d];unfold mxT;by_cases a:arE m L u<2*m
   ·rw[if_neg (fun e=>e.1 a),if_neg (fun e=>e.1 a)]
   ·have j:xoE m (arE m L u)≠x:=fun e=>by
     have:=(Zd4 (m:=m) (L:=L) (x:=x) (s:=u) (q:=qoE m (arE m L u)) (m+2*X.length)).2 ⟨f,a,e,rfl⟩;rw[b]at this;simp only[List.mem_cons,pI2,List.not_mem_nil,or_false]at this;omega
    by_cases c4:xoE m (arE m L u)<x
    ·rw[if_pos ⟨a,c4⟩,if_pos ⟨a,by omega⟩]
    ·rw[if_neg (fun e=>c4 e.2),if_neg (fun e=>by have:=e.2; omega)]
end
theorem Zx8{get:Nat→Option ABlk}{S:List Nat}{b:Nat}{f:Int}{ls:List Lt}(c:Y8 b S=true)(d:get b=some (.cells 6 (ls.map rowL))):fzV get S (.agg [.int .i64 f,.sl b 0 ls.length])=cV f ls:=by
 have a:X3 (D2 get S) 4 (.sl b 0 ls.length)=some (.imm (ls.map rowL)):=by
  have:=Zmr (n:=3) (get:=D2 get S) (b:=b) (k:=6) (rows:=ls.map rowL) (by unfold D2; rw[c]; exact d) (Zjl _)
  rwa[List.length_map]at this
 unfold fzV;rw[X3];simp only[V4,a];rfl
set_option maxRecDepth 100000 in
set_option maxHeartbeats 16000000 in
theorem Yc3(f:Int){m:Nat}{X:List Nd}{L:List (Nat×Nat)}(h:Rdg m X L)(hw:Whl m X L){gs:List Nat}(hPL:(plE 0 gs).length=m)(hb:2*m+4*X.length≤1000)(P:List (List AVal))(w:∀ q,Z6 q P=P)
 (K:AVal→SMem→Prop) (hC:P2 f (X8 (Y0 m (plE 0 gs) X L))=0) (hK:K (.tuple [.agg [.int .i64 f,.sl 4 0 (m+2*X.length)],.bool true]) ⟨[(4,.cells 6 ((X8 (Y0 m (plE 0 gs) X L)).map rowL))],5⟩) (e:Env) (mm:SMem)
 (hW:WkR 199 4 (eS X.length 0) (mS f X.length (m+2*X.length) (2*m+4*X.length) (fun x=>(T1 m L (m+2*X.length) x).map visR) P ((xJ m X).map ndL) ((G6 m (plE 0 gs) L (m+2*X.length)).map rowL)) e mm) :
 wpW Tryz.prog [] 199 4 cLp2 (G3 2 (M2 (wpW Tryz.prog [] 199 4 cRst (H3 199 [(4,some (some 2)),(5,none)] (O9 4 K))) (H3 199 [(4,some (some 2)),(5,none)] (O9 4 K)))) e mm:=by
 have hl:(X8 (Y0 m (plE 0 gs) X L)).length=m+2*X.length:=by rw[Zfc,Zai h hw hPL]
 have ai:=c30 f (X8 (Y0 m (plE 0 gs) X L)) (by omega)
 rw[hC]at ai;have a2:=Z33 (m:=m) (X:=X) (L:=L) (gs:=gs);have a5:=Z2a h hw hPL;have ag:=fun x s t p q hx hV=>Z4f h hw (gs:=gs) (x:=x) (s:=s) (t:=t) (p:=p) (q:=q) hx hV
 have n:((xJ m X).map ndL).length=X.length:=by rw[List.length_map,Zmj]
 have r:=fun x hx=>Yco (m:=m) (X:=X) (x:=x) hx
 have E:∀ q,Z6 q ((xJ m X).map ndL)=(xJ m X).map ndL:=fun q=>X6 q _ (Zg3 _)
 obtain⟨F,hF⟩:∃ F:Nat→List (List AVal),F=fun x=>(T1 m L (m+2*X.length) x).map visR:=⟨_,rfl⟩
 have a6:∀ y,W5 (F y)=true:=fun y=>by rw[hF]; exact Zhf _
 have a0:∀ x q,Z6 q (mxE m (plE 0 gs) L (X8 (Y0 m (plE 0 gs) X L)) (m+2*X.length) x)=mxE m (plE 0 gs) L (X8 (Y0 m (plE 0 gs) X L)) (m+2*X.length) x:=fun x q=>by
  refine X6 q _ ?_;unfold mxE;have:=U6 ((List.range (m+2*X.length)).map (mxT m (plE 0 gs) L (X8 (Y0 m (plE 0 gs) X L)) x));rw[List.map_map]at this;exact this
 have a8:∀ q,Z6 q ((X8 (Y0 m (plE 0 gs) X L)).map rowL)=(X8 (Y0 m (plE 0 gs) X L)).map rowL:=fun q=>X6 q _ (U6 _)
 have aw:∀ x,(mxE m (plE 0 gs) L (X8 (Y0 m (plE 0 gs) X L)) (m+2*X.length) x).length=m+2*X.length:=fun x=>by unfold mxE; simp
 rw[← hF,← a2]at hW;have ae:∀ x s t p q,T1 m L (m+2*X.length) x=[(s,p),(t,q)]→F x=[[.int .i64 s,.int .i64 p],[.int .i64 t,.int .i64 q]]:=fun x s t p q e=>by rw[hF]; simp only[e]; rfl
 clear hF;have ab:∀ (A B C D G:ABlk) (c:Nat) (y:ABlk),Z7 ([(10,A),(11,B),(12,C),(1,D),(14,G)]++blV 3 6 ((xJ m X).map ndL) []) c=some y→c<20:=fun A B C D G c y hc=>by
  refine Zip (fun p hp=>?_) hc
  simp only[List.cons_append,List.nil_append,List.mem_cons]at hp;rcases hp with rfl|rfl|rfl|rfl|rfl|hp
  any_goals (show _<_; omega)
  rcases Ziv hp with e|hp
  ·omega
  ·cases hp
 generalize (xJ m X).map ndL=XX at *;unfold cLp2;refine Zjy (fun x=>eS X.length x) (fun x=>mS f X.length (m+2*X.length) (2*m+4*X.length) F P XX (mxE m (plE 0 gs) L (X8 (Y0 m (plE 0 gs) X L)) (m+2*X.length) x)) (fun x=>X.length - x) (fun x=>x≤X.length) 0 hW (Nat.zero_le _) ?_
 intro x hx N hN;unfold eS mS at *;by_cases a7:x=X.length
 ·subst a7;rw[a5]at *;unfold cRst;simp;have bg:fzV (B7 (SMem.get ⟨K6 2 20 F X.length ([(10,.cells 2 [[.int .i64 0,.nilSl]]),(11,.cells 2 [[.int .i64 f,.sl 14 0 (m+2*X.length)]]),(12,.cells 1 (L7 20 X.length F)),(1,.cells 3 [[.imm P,.sl 2 0 (2*m+4*X.length),slV 3 XX]]),(14,.cells 6 ((X8 (Y0 m (plE 0 gs) X L)).map rowL))]++blV 3 6 XX []),20+X.length+1+6⟩)
   (xOf (20+X.length+1) 2 [cEk 198 197 0,so 2 4 195,mv 5 198].length)) [14] (.agg [.int .i64 f,.sl 14 0 (m+2*X.length)])=cV f (X8 (Y0 m (plE 0 gs) X L)):=by
   have:=Zx8 (get:=B7 (SMem.get ⟨K6 2 20 F X.length ([(10,.cells 2 [[.int .i64 0,.nilSl]]),(11,.cells 2 [[.int .i64 f,.sl 14 0 (m+2*X.length)]]),(12,.cells 1 (L7 20 X.length F)),(1,.cells 3 [[.imm P,.sl 2 0 (2*m+4*X.length),slV 3 XX]]),(14,.cells 6 ((X8 (Y0 m (plE 0 gs) X L)).map rowL))]++blV 3 6 XX []),20+X.length+1+6⟩)
    (xOf (20+X.length+1) 2 [cEk 198 197 0,so 2 4 195,mv 5 198].length)) (S:=[14]) (b:=14) (f:=f) (ls:=X8 (Y0 m (plE 0 gs) X L)) (by simp[Y8]) (by simp[B7,Y8,show ¬20+X.length=13 by omega,show ¬20+X.length=12 by omega,show ¬20+X.length=10 by omega,show ¬20+X.length=9 by omega,show ¬20+X.length=8 by omega])
   rw[hl]at this;exact this
  refine Ybs ai trivial [14] ?_ ?_
  ·simp only[List.map_cons,List.map_nil];rw[← bg];rfl
  ·simp;refine⟨by omega,Z9 hK [(4,14)] (by simp[a8])⟩
 ·have i:x<X.length:=by omega
  obtain⟨s,t,p,q,bh,a1,hV,_,_,bm,bp,bn⟩:=Zr8 h hw i;have ac:=Zp8 h hw hPL (t:=s) (by omega)
  have ad:=Zp8 h hw hPL (t:=t) a1;have ak:=(Zd4 (m:=m) (L:=L) (x:=x) (s:=s) (q:=p) (m+2*X.length)).1 (by rw[hV]; simp)
  have al:=(Zd4 (m:=m) (L:=L) (x:=x) (s:=t) (q:=q) (m+2*X.length)).1 (by rw[hV]; simp)
  rw[if_neg ak.2.1,ak.2.2.1,← ak.2.2.2]at ac;rw[if_neg al.2.1,al.2.2.1,← al.2.2.2]at ad;obtain⟨⟨d,o⟩,bc⟩:∃ z:Nd,z=X.getD x (false,false):=⟨_,rfl⟩
  have ba:=Zz8 h hw i hV d;have ae:=ae x s t p q hV;have r:=r x i;rw[← bc]at r ac ad;simp only at ac ad;rw[ba]at ac ad;obtain⟨_,v⟩:=Y5 r;have a:¬XX=[]:=fun e=>by rw[e]at n; simp at n; omega
  have aj:(L7 20 X.length F)[x]? = some [.sl (20+x) 0 2]:=by rw[Zte i,ae]; rfl
  obtain⟨_,aa⟩:=Y5 aj;have ao:(L7 20 X.length F).length=X.length:=Zqr;have aq:∀ av,Z7 (K6 2 20 F X.length av) (20+x)=some (.cells 2 [[.int .i64 s,.int .i64 p],[.int .i64 t,.int .i64 q]]):=fun av=>by rw[M1 _ i,ae,if_neg (by simp)]
  have ag:=ag x s t p q i hV;have aw:=aw x;have a9:=a0 x;have af:∀ u,u<m+2*X.length → ¬arE m L u<2*m→xoE m (arE m L u)=x→(mxE m (plE 0 gs) L (X8 (Y0 m (plE 0 gs) X L)) (m+2*X.length) x)[u]? = some (rowL ⟨2,0,0,((Y6 ((x:Nat):Int) (nmI m L (u+1)):Nat):Int),0,false⟩):=fun u hu h1 h2=>by
   unfold mxE;rw[List.getElem?_map,List.getElem?_range hu];show some (rowL (if _ then _ else _))=_
   rw[if_neg (fun e=>by omega)]
   unfold ltN;rw[if_neg h1,h2];rfl
  have a3:=af s (by omega) ak.2.1 ak.2.2.1
  have a4:=af t a1 al.2.1 al.2.2.1;clear af;generalize Y6 ((x:Nat):Int) (nmI m L (s+1))=bi at *;generalize Y6 ((x:Nat):Int) (nmI m L (t+1))=bj at *;generalize mxE m (plE 0 gs) L (X8 (Y0 m (plE 0 gs) X L)) (m+2*X.length) x=R0 at *;have J:∀ q,Z6 q R0=R0:=a9
  have j:=hN (x+1);rw[← ag]at j;have g:∀ q,Z6 q ((R0.set s (rowL (at' (X8 (Y0 m (plE 0 gs) X L)) s))).set t (rowL (at' (X8 (Y0 m (plE 0 gs) X L)) t)))=(R0.set s (rowL (at' (X8 (Y0 m (plE 0 gs) X L)) s))).set t (rowL (at' (X8 (Y0 m (plE 0 gs) X L)) t)):=fun q=>by rw[ag]; exact a0 (x+1) q
  rw[ac,ad]at j g;clear hN ag ac ad a0 a5 a2 ai hK hW ba a8;obtain⟨pz,az⟩:∃ pz,pz=p % 2:=⟨_,rfl⟩
  have au:((p:Nat):Int).tmod 2=(pz:Nat):=by rw[az]; rfl
  have bb:m+2*X.length≤1000:=by omega
  obtain⟨c,hc⟩:∃ c:Bool,c=(decide (pz=0) != d):=⟨_,rfl⟩
  have bl:∀ q':Nat→Nat,U7 q' (ndL (((2*m+4*x:Nat):Int),d,o))=ndL (((2*m+4*x:Nat):Int),d,o):=fun _=>rfl
  obtain⟨e0,bf⟩:∃ e0:Int,e0=((2*m+4*x:Nat):Int):=⟨_,rfl⟩
  rw[← bf]at r v;simp only[ndL]at r v;have hI:=fun so po sg bs bt bd be Q e mm hW hQ=>Yas f X.length (m+2*X.length) (2*m+4*X.length) x s t p q so po bi bj sg F P XX R0 e0 (e0+1) (e0+2) (e0+3) d o bs bt w E a J a6 i aw bh a1 bb ae a3 a4 bd be Q e mm hW hQ
  have I:∀ y,y<X.length→W5 (F y)=true:=fun y _=>a6 y
  have ar:x≠X.length:=by omega
  have k:t≠s:=by omega
  have M:IntKind.i64.wrap ((x:Int)+1)=((x+1:Nat):Int):=by rw[Z1 (by omega) (by omega)]; omega
  cases c with
  | false=>
   have am:ovE d p q=p∧unE d p q=q:=by unfold ovE unE; rw[← az,← hc]; exact⟨rfl,rfl⟩
   have O:(decide (pz=0) == d)=true:=by revert hc; cases decide (pz=0)<;>cases d<;>simp
   have ah:(d == (p % 2 == 0))=true:=by
    have e1:(p % 2 == 0)=decide (pz=0):=by rw[Bool.eq_iff_iff]; simp; omega
    rw[e1]; revert O; cases decide (pz=0)<;>cases d<;>simp
   have ax:(d == (q % 2 == 0))=false:=by
    have e1:(q % 2 == 0) = !(p % 2 == 0):=by rw[Bool.eq_iff_iff]; simp; omega
    rw[e1]; revert ah; cases (p % 2 == 0)<;>cases d<;>simp
   rw[am.1,am.2,ah,ax]at j g;simp only[Bool.true_bne,Bool.false_bne]at g;have Z:IntKind.i64.wrap ((p:Int)+3)=((p+3:Nat):Int):=by rw[Z1 (by omega) (by omega)]; omega
   have H:((p+3:Nat):Int).tmod 4=(((p+3) % 4:Nat):Int):=rfl;obtain⟨p3,ay⟩:∃ p3,p3=p+3:=⟨_,rfl⟩
   rw[← ay]at Z H j g;obtain⟨p4,an⟩:∃ p4,p4=p3 % 4:=⟨_,rfl⟩
   rw[← an]at H j g;by_cases hg:q=p4
   ·rw[if_pos hg]at j g;have U:decide (((q:Nat):Int)=(p4:Nat))=true:=by simp[hg]
    have V:decide (q=p4)=true:=by simp[hg]
    simp[i,aj,aa,ao,aq,r,v,n,W4 a,Y7 a,a,n20,nBx i,le1,le2,le3,le4,le5,le6,le7,le8,au,O,Z,H,U,V];refine hI s p 1 (true != o) (false != o) (by simp[k,Ne.symm k]) (by simp[k,Ne.symm k]) _ _ _ ?_ ?_
    ·unfold eI mI;refine WkR.famG (x:=X.length) (N:=0) (l:=[(15,20+X.length+1+5+7),(16,20+X.length+1+5+9+6)]) (by omega) (fixI XX _ _ _ _ _ _ _) ?_ (fun e=>absurd e (Nat.lt_irrefl _)) ?_ ?_ ?_ (fun e=>absurd e (Nat.lt_irrefl _)) I
     ·simp[okN]; omega
     ·simp[S8,W3,Zf1 i ar]
     ·simp +contextual [S8,W3,Zak,w,E,J,n20,n,W4 a,Y7 a,a]
     ·simp;intro y hy _ Y
      repeat rw[if_neg (by omega)]
      rw[M1 _ hy,if_neg (by simpa using Y)]
    ·unfold eI mI;simp[M];refine j _ _ (by omega) (by omega) (WkR.famG (x:=X.length) (N:=0) (l:=[]) (by omega) (ab _ _ _ _ _) trivial (fun e=>absurd e (Nat.lt_irrefl _)) ?_ ?_ ?_ (fun e=>absurd e (Nat.lt_irrefl _)) I)
     ·simp[S8,W3,M]
     ·simp +contextual [S8,W3,Zak,w,E,g,n20,n,W4 a,Y7 a,a]
     ·simp;intro y hy _ Y;rw[M1 _ hy,if_neg (by simpa using Y)]
   ·rw[if_neg hg]at j g;have U:decide (((q:Nat):Int)=(p4:Nat))=false:=by simp; omega
    have V:decide (q=p4)=false:=by simp[hg]
    simp[i,aj,aa,ao,aq,r,v,n,W4 a,Y7 a,a,n20,nBx i,le1,le2,le3,le4,le5,le6,le7,le8,au,O,Z,H,U,V];refine hI s p (-1) (true != o) (false != o) (by simp[k,Ne.symm k]) (by simp[k,Ne.symm k]) _ _ _ ?_ ?_
    ·unfold eI mI;refine WkR.famG (x:=X.length) (N:=0) (l:=[(15,20+X.length+1+5+7),(16,20+X.length+1+5+9+6)]) (by omega) (fixI XX _ _ _ _ _ _ _) ?_ (fun e=>absurd e (Nat.lt_irrefl _)) ?_ ?_ ?_ (fun e=>absurd e (Nat.lt_irrefl _)) I
     ·simp[okN]; omega
     ·simp[S8,W3,Zf1 i ar]
     ·simp +contextual [S8,W3,Zak,w,E,J,n20,n,W4 a,Y7 a,a]
     ·simp;intro y hy _ Y
      repeat rw[if_neg (by omega)]
      rw[M1 _ hy,if_neg (by simpa using Y)]
    ·unfold eI mI;simp[M];refine j _ _ (by omega) (by omega) (WkR.famG (x:=X.length) (N:=0) (l:=[]) (by omega) (ab _ _ _ _ _) trivial (fun e=>absurd e (Nat.lt_irrefl _)) ?_ ?_ ?_ (fun e=>absurd e (Nat.lt_irrefl _)) I)
     ·simp[S8,W3,M]
     ·simp +contextual [S8,W3,Zak,w,E,g,n20,n,W4 a,Y7 a,a]
     ·simp;intro y hy _ Y;rw[M1 _ hy,if_neg (by simpa using Y)]
  | true=>
   have am:ovE d p q=q∧unE d p q=p:=by unfold ovE unE; rw[← az,← hc]; exact⟨rfl,rfl⟩
   have O:(decide (pz=0) == d)=false:=by revert hc; cases decide (pz=0)<;>cases d<;>simp
   have ah:(d == (p % 2 == 0))=false:=by
    have e1:(p % 2 == 0)=decide (pz=0):=by rw[Bool.eq_iff_iff]; simp; omega
    rw[e1]; revert O; cases decide (pz=0)<;>cases d<;>simp
   have ax:(d == (q % 2 == 0))=true:=by
    have e1:(q % 2 == 0) = !(p % 2 == 0):=by rw[Bool.eq_iff_iff]; simp; omega
    rw[e1]; revert ah; cases (p % 2 == 0)<;>cases d<;>simp
   rw[am.1,am.2,ah,ax]at j g;simp only[Bool.true_bne,Bool.false_bne]at g;have Z:IntKind.i64.wrap ((q:Int)+3)=((q+3:Nat):Int):=by rw[Z1 (by omega) (by omega)]; omega
   have H:((q+3:Nat):Int).tmod 4=(((q+3) % 4:Nat):Int):=rfl;obtain⟨p3,ay⟩:∃ p3,p3=q+3:=⟨_,rfl⟩
   rw[← ay]at Z H j g;obtain⟨p4,an⟩:∃ p4,p4=p3 % 4:=⟨_,rfl⟩
   rw[← an]at H j g;by_cases hg:p=p4
   ·rw[if_pos hg]at j g;have U:decide (((p:Nat):Int)=(p4:Nat))=true:=by simp[hg]
    have V:decide (p=p4)=true:=by simp[hg]
    simp[i,aj,aa,ao,aq,r,v,n,W4 a,Y7 a,a,n20,nBx i,le1,le2,le3,le4,le5,le6,le7,le8,au,O,Z,H,U,V];refine hI t q 1 (false != o) (true != o) (by simp[k,Ne.symm k]) (by simp[k,Ne.symm k]) _ _ _ ?_ ?_
    ·unfold eI mI;refine WkR.famG (x:=X.length) (N:=0) (l:=[(15,20+X.length+1+5+7),(16,20+X.length+1+5+9+6)]) (by omega) (fixI XX _ _ _ _ _ _ _) ?_ (fun e=>absurd e (Nat.lt_irrefl _)) ?_ ?_ ?_ (fun e=>absurd e (Nat.lt_irrefl _)) I
     ·simp[okN]; omega
     ·simp[S8,W3,Zf1 i ar]
     ·simp +contextual [S8,W3,Zak,w,E,J,n20,n,W4 a,Y7 a,a]
     ·simp;intro y hy _ Y
      repeat rw[if_neg (by omega)]
      rw[M1 _ hy,if_neg (by simpa using Y)]
    ·unfold eI mI;simp[M];refine j _ _ (by omega) (by omega) (WkR.famG (x:=X.length) (N:=0) (l:=[]) (by omega) (ab _ _ _ _ _) trivial (fun e=>absurd e (Nat.lt_irrefl _)) ?_ ?_ ?_ (fun e=>absurd e (Nat.lt_irrefl _)) I)
     ·simp[S8,W3,M]
     ·simp +contextual [S8,W3,Zak,w,E,g,n20,n,W4 a,Y7 a,a]
     ·simp;intro y hy _ Y;rw[M1 _ hy,if_neg (by simpa using Y)]
   ·rw[if_neg hg]at j g;have U:decide (((p:Nat):Int)=(p4:Nat))=false:=by simp; omega
    have V:decide (p=p4)=false:=by simp[hg]
    simp[i,aj,aa,ao,aq,r,v,n,W4 a,Y7 a,a,n20,nBx i,le1,le2,le3,le4,le5,le6,le7,le8,au,O,Z,H,U,V];refine hI t q (-1) (false != o) (true != o) (by simp[k,Ne.symm k]) (by simp[k,Ne.symm k]) _ _ _ ?_ ?_
    ·unfold eI mI;refine WkR.famG (x:=X.length) (N:=0) (l:=[(15,20+X.length+1+5+7),(16,20+X.length+1+5+9+6)]) (by omega) (fixI XX _ _ _ _ _ _ _) ?_ (fun e=>absurd e (Nat.lt_irrefl _)) ?_ ?_ ?_ (fun e=>absurd e (Nat.lt_irrefl _)) I
     ·simp[okN]; omega
     ·simp[S8,W3,Zf1 i ar]
     ·simp +contextual [S8,W3,Zak,w,E,J,n20,n,W4 a,Y7 a,a]
     ·simp;intro y hy _ Y
      repeat rw[if_neg (by omega)]
      rw[M1 _ hy,if_neg (by simpa using Y)]
    ·unfold eI mI;simp[M];refine j _ _ (by omega) (by omega) (WkR.famG (x:=X.length) (N:=0) (l:=[]) (by omega) (ab _ _ _ _ _) trivial (fun e=>absurd e (Nat.lt_irrefl _)) ?_ ?_ ?_ (fun e=>absurd e (Nat.lt_irrefl _)) I)
     ·simp[S8,W3,M]
     ·simp +contextual [S8,W3,Zak,w,E,g,n20,n,W4 a,Y7 a,a]
     ·simp;intro y hy _ Y;rw[M1 _ hy,if_neg (by simpa using Y)]
end Go.Known
