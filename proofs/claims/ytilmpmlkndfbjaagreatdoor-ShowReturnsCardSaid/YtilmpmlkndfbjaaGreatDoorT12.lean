/- Part 12 -/
import Derived.Test.YtilmpmlkndfbjaaGreatDoorT11
set_option linter.all false
open Go.Proofs.Tryz (prog)
namespace Go.Ad
open Go Go.AE Go.Proofs
def tabL:List (Nat×AD):=[(8,af5),(13,qS),(52,af9),(24,XM),(11,XN),(19,XS),(16,XT),(9,SH),(17,XU),(20,XV),(21,XW),(22,XY),(23,XZ),(25,Ya),(34,SI),(51,SJ),(67,SK),(94,Yb),(95,Yc),(14,SM),(40,Yh),(41,Yi),(42,Yj),(26,SN),(27,SO),(28,SP),(46,Yk),(47,Yl),(48,Ym),(49,Yn),(50,Yo),(44,Yp),(65,SQ),(66,SR),(68,SS),(69,SV),(70,SX),(71,SY),(129,Yq),(130,Yr),(36,SZ),(37,T1),(80,Pw),(73,Yu),(74,Yv),(53,T3),(54,T4),(32,Yw),(79,Yx),(81,Yy),(82,Yz),(83,YA),(84,YB),(85,YD),(86,YE),(87,YF),(88,YG),(89,YH),(90,YI),(91,YJ),(78,YK),(101,YL),(102,YM),(103,T5),(104,T6),(105,T7),(106,T8),(107,Lv),(108,Lw),(109,Lx),(110,Ji),(111,Ly),(174,Lz),(72,LA),(115,QT),(116,QU),(58,QV),(119,QW),(120,QX),(121,QY),(122,QZ),(123,Ra),(124,Rb),(125,Rc),(128,Rf),(134,Rg),(135,Rh),(140,LB),(141,LC),(142,LD),(143,LF),(144,LG),(189,LH),(190,LI),(112,LJ),(113,LK),(114,LL),(147,Ri),(152,Rj),(155,Rm),(156,Rn),(158,Rp),(159,Rq),(160,Rr),(169,Rs),(171,LM),(172,LN),(173,Jj),(145,LO),(146,LP),(180,Rt),(188,LQ),(193,Ru),(195,Rv)]
theorem Yeq:OH prog tabL:=⟨gd5,gd6,gd9,tN,tO,tP,tQ,tT,tU,tV,tW,tX,tY,uA,uB,uC,uE,uG,uH,uI,uJ,uK,uL,uM,uO,uP,uQ,uR,uS,uT,uU,uV,uW,uX,uY,uZ,vA,vB,vC,vD,vE,vF,vG,vH,vI,vJ,vK,vL,vM,vN,vO,vP,vQ,vR,vS,vT,vU,vV,vW,vX,vY,vZ,wA,wB,wC,wD,wE,Yag,Z9i,Yem,Ye1,Z9j,Yk8,Z9c,Yiz,Ybd,Z8r,Ya5,Yk9,Yf8,Yg5,Yfw,Ylg,Ydh,Yeg,Z6s,Yl8,Ykc,Yma,Z7x,Ydz,Yf4,Ycm,Ylw,Yds,Yb1,Z67,Z9z,Yj0,Ykm,Z8l,Yfn,Ye8,Yjw,Z74,Yae,Yd8,Ycv,Yfx,Yij,Yl3,Yiq,Yc2,Yjo,trivial⟩
def Uf:Tr AD:=(.node (.node (.node (.node (.node (.node .nil none (.node (.node .nil (some Rq) .nil) (some Yc) .nil)) none (.node (.node (.node .nil (some LF) .nil) (some Yx) .nil) (some Yl) (.node .nil (some Ly) .nil))) none (.node (.node (.node (.node .nil (some Rh) .nil) (some SY) .nil) none (.node .nil (some T5) .nil)) (some XZ) (.node (.node .nil (some YF) .nil) none (.node .nil (some QW) .nil)))) none (.node (.node (.node (.node .nil (some SK) (.node .nil (some Rv) .nil)) none .nil) (some XS) (.node (.node (.node .nil (some Ri) .nil) (some YA) .nil) (some SJ) (.node .nil (some QT) .nil))) (some XN) (.node (.node .nil none (.node (.node .nil (some LM) .nil) (some Lv) .nil)) (some SO) (.node (.node (.node .nil (some Rm) .nil) (some YJ) .nil) none (.node .nil (some Ra) .nil))))) none (.node (.node (.node (.node (.node (.node .nil (some Yq) .nil) (some SQ) (.node .nil (some Ru) .nil)) none .nil) (some XU) (.node (.node (.node .nil (some LO) .nil) (some Yy) .nil) (some Yn) (.node .nil (some LK) .nil))) (some SH) (.node (.node (.node .nil (some Yu) .nil) (some Yi) (.node (.node .nil (some Rs) .nil) (some T7) .nil)) (some Ya) (.node (.node .nil (some YH) .nil) none (.node .nil (some QY) .nil)))) none (.node (.node (.node (.node .nil (some SV) .nil) (some T1) (.node .nil (some YL) .nil)) (some XW) (.node (.node .nil (some YD) .nil) (some T3) .nil)) (some qS) (.node (.node (.node (.node .nil (some LC) .nil) none .nil) none (.node (.node .nil (some Jj) .nil) (some Lx) .nil)) none (.node .nil none (.node (.node .nil (some LH) .nil) (some Rc) .nil)))))) none (.node (.node (.node (.node (.node (.node (.node .nil (some Rf) .nil) none .nil) (some Yw) (.node (.node .nil (some Rr) .nil) none .nil)) (some XT) (.node (.node (.node .nil (some LG) .nil) (some Pw) .nil) (some Ym) (.node .nil (some LJ) .nil))) (some af5) (.node (.node (.node .nil (some LA) .nil) (some Yh) (.node .nil (some T6) .nil)) (some XM) (.node (.node (.node .nil (some Rj) .nil) (some YG) .nil) none (.node .nil (some QX) .nil)))) none (.node (.node (.node (.node .nil (some SS) .nil) (some SZ) .nil) (some XV) (.node (.node .nil (some YB) .nil) (some af9) (.node (.node .nil (some Rt) .nil) (some QU) .nil))) none (.node (.node (.node (.node .nil (some LB) .nil) none .nil) (some Yp) (.node (.node .nil (some LN) .nil) (some Lw) .nil)) (some SP) (.node (.node (.node .nil (some Rn) .nil) none .nil) none (.node (.node .nil (some LQ) .nil) (some Rb) .nil))))) none (.node (.node (.node (.node (.node (.node .nil (some Yr) .nil) (some SR) .nil) (some SI) .nil) none (.node (.node (.node .nil (some LP) .nil) (some Yz) .nil) (some Yo) (.node .nil (some LL) .nil))) none (.node (.node (.node .nil (some Yv) .nil) (some Yj) (.node .nil (some T8) .nil)) (some SN) (.node (.node .nil (some YI) .nil) (some QV) (.node .nil (some QZ) .nil)))) none (.node (.node (.node (.node (.node .nil (some Rg) .nil) (some SX) .nil) none (.node .nil (some YM) .nil)) (some XY) (.node (.node .nil (some YE) .nil) (some T4) .nil)) (some SM) (.node (.node (.node (.node .nil (some LD) .nil) (some YK) .nil) (some Yk) (.node (.node .nil (some Lz) .nil) (some Ji) .nil)) none (.node (.node (.node .nil (some Rp) .nil) (some Yb) .nil) none (.node (.node .nil (some LI) .nil) none .nil)))))))
theorem Ya1:Uf=Vk tabL:=by kernel_rfl
theorem Xw:Ph prog (jT Uf):=Z8n Yeq Ya1
def Ir:Ct:=⟨19,[(2,none)],[(.region false [⟨(some 1),.box (.tmp 0),none,[]⟩,⟨(some 2),.Gl (.const .Aj),none,[]⟩]),(.region false [⟨(some 3),.alloc [.Aj],none,[]⟩]),(.seq (.region false [⟨(some 5),.Cg 1 (.tmp 1),none,[]⟩,⟨(some 6),.load none (.tmp 5),none,[]⟩,⟨(some 7),.BW (.tmp 6),none,[]⟩,⟨(some 8),.bin .eql .num (.tmp 7) (.const (.int .i64 0)),none,[]⟩])
 (.cond (.tmp 8) (.seq (.region false [⟨(some 9),.load none (.tmp 3),none,[]⟩,⟨(some 2),.Gl (.tmp 9),none,[]⟩])
 .ret)
 .skip))],(.region false [⟨(some 10),.load (some 2) (.tmp 1),none,[]⟩,⟨(some 11),.call (.fn 69) [(.tmp 10)],none,[]⟩,⟨(some 12),.call (.fn 70) [(.tmp 11)],none,[]⟩]),(.tmp 12),[13],(.region false [⟨(some 4),.alloc [(.int .i64 0),(.int .i64 0),(.int .i64 0),(.bool false)],none,[]⟩,⟨none,.store 4 (.tmp 4) (.tmp 13),none,[]⟩]),(.block 1 (.region false [⟨(some 14),.load none (.tmp 3),none,[]⟩,⟨(some 15),.load (some 4) (.tmp 4),none,[]⟩,⟨(some 16),.Dq 4 1 [(.int .i64 0),(.int .i64 0),(.int .i64 0),(.bool false)] [(0,(.tmp 15))],none,[]⟩,⟨(some 17),.append 4 32 [(.int .i64 0),(.int .i64 0),(.int .i64 0),(.bool false)] (.tmp 14) (.tmp 16),none,[]⟩,⟨none,.store 1 (.tmp 3) (.tmp 17),none,[]⟩])),(.seq (.region false [⟨(some 18),.load none (.tmp 3),none,[]⟩,⟨(some 2),.Gl (.tmp 18),none,[]⟩])
 .ret)⟩
theorem Tl:RZ prog Tryz.f35=some Ir:=by kernel_rfl
theorem hm:Tryz.prog.follows .mixedOrders=true:=by kernel_rfl
abbrev BS:=jT Uf
theorem Zwx:yZ prog 43:=
 ⟨⟨_,Tryz.func43,by kernel_rfl,by kernel_rfl⟩,λbk o c xs a w b d e g h=>Tryz.strings_Join bk o c xs a w b d e g h⟩
theorem dX:OK prog 137:=⟨_,22,4,3,1,Tryz.func137,by kernel_rfl,by kernel_rfl,by kernel_rfl,by kernel_rfl,by kernel_rfl,Tryz.sizeOf3⟩
theorem Ydn:OK prog 126:=⟨_,47,4,62,3,Tryz.func126,by kernel_rfl,by kernel_rfl,by kernel_rfl,by kernel_rfl,by kernel_rfl,Tryz.sizeOf62⟩
def mX:List (Nat×Nat):=[(109,137),(88,126)]
theorem Z8b:∀g G,QI g mX=some G->OK prog G:=by
 intro g G h;unfold mX QI at h;cases a:Nat.beq 109 g with
 |true=>rw[a]at h;injection h with h;subst h;exact dX
 |false=>
  rw[a]at h;simp only[cond_false]at h;unfold QI at h;cases b:Nat.beq 88 g with
  |true=>rw[b]at h;injection h with h;subst h;exact Ydn
  |false=>rw[b]at h;simp[QI]at h
def Ry:Ax:=Gp BS (dQ 43) 1000
theorem Ykq:K2 prog Ry:=bK hm Xw (Zy2 Zwx) 1000
def TW:Ax:=Xm (iK BS Ry mX) (dQ 43)
theorem Z6b:K2 prog TW:=mJ (Yek hm Xw Ykq Z8b) (Zy2 Zwx)
def call2:Ax:=Gp BS TW 1000
theorem Yji:K2 prog call2:=bK hm Xw Z6b 1000
def Zz:Ax:=Xm (nR BS call2 35 Ir) TW
theorem Z93:K2 prog Zz:=mJ (Ylx hm Xw Yji Tryz.func35 Tl (by kernel_rfl)) Z6b
def ZA(l:List AZ):Ax:=Xm (Ts l) Zz
theorem Z7f{l:List AZ}(h:AZ.Vx prog l):K2 prog (ZA l):=mJ (Z7g h) Z93
theorem N6{l:List AZ}(a:AZ.Vx prog l)(e:AZ)
 (h:(match runM BS (ZA l) e.g e.args with|some r=>I9 r e.v&&(Y7 e.args&&e.v.closed)|none=>false)=true):e.Ok prog:=
 Z7y hm Xw (Z7f a) e h
end Go.Ad
namespace Go.AE
open Go.RowKit
def A5(get:Nat→Option Af)(S:List Nat)(b:Nat):Option Af:=bif V1 b S then get b else none
def DP(get:Nat→Option Af)(S:List Nat)(x:Aa):Aa:=
 match X8 (A5 get S) 5 x with
 | some y=>y
 | none=>x
theorem Sg{W:Aq}{Φ:Ap}{ρ:AI}{m:Mem}{w:World}(S:List Nat)(f:Rel W Φ ρ m w):∃Bs:Ap,Ext Φ ρ Bs ρ/\(∀B c,Bs B=some c -> ∃e fz,w.heap[B]?=some (.cells c e fz)) /\
 (∀B c,Bs B=some c->W.p B=some c\/W.Cu B)/\(∀b x l,m.get b=some x->ρ b=some l->V1 b S=false->Bs l.blk=none) /\ ∀x v,R Φ ρ x v->R Bs ρ (DP m.get S x) v:=by
 have G:∀B,(∃b l y,V1 b S=true/\m.get b=some y/\ρ b=some l/\l.blk=B)->Φ B=none/\W.Cu B:=by
  rintro B ⟨b,l,y,_,i,r,rfl⟩;obtain⟨l',o,z,A,C,_⟩:=f.live b y i;grind
 obtain⟨Bs,J,n⟩:∃Bs:Ap,(∀B,(∃b l y,V1 b S=true/\m.get b=some y/\ρ b=some l/\l.blk=B)->Bs B=match w.heap[B]? with|some (.cells c _ _)=>some c|_=>none) /\
  ∀B,¬(∃b l y,V1 b S=true/\m.get b=some y/\ρ b=some l/\l.blk=B)->Bs B=Φ B:=
  ⟨λB=>@ite _ (∃b l y,V1 b S=true/\m.get b=some y/\ρ b=some l/\l.blk=B) (Classical.propDecidable _) (match w.heap[B]? with|some (.cells c _ _)=>some c|_=>none) (Φ B),
   λB a=>by simp_all,λB a=>by grind⟩
 have j:Ext Φ ρ Bs ρ:=⟨λB c d=>by
  grind,λb l h=>h⟩
 refine⟨Bs,j,λB c d=>?_,λB c d=>?_,λb x l g u t=>?_,λx v s=>?_⟩
 ·by_cases a:∃b l y,V1 b S=true/\m.get b=some y/\ρ b=some l/\l.blk=B
  ·grind
  rw[n B a]at d;exact f.AX B c d
 ·by_cases a:∃b l y,V1 b S=true/\m.get b=some y/\ρ b=some l/\l.blk=B
  ·grind
  rw[n B a]at d;exact f.BH B c d
 ·have a:¬ ∃b' l' y,V1 b' S=true/\m.get b'=some y/\ρ b'=some l'/\l'.blk=l.blk:=by
   rintro⟨b',l',y,i,r,D,E⟩;have:=f.inj b' b y x l' l r g D u E;subst this;rw[i]at t;cases t
  rw[n _ a];obtain⟨l',o,z,A,C,_⟩:=f.live b x g;grind
 have q:Rel W Φ ρ ⟨A5 m.get S,m.next⟩ w:=f.sub ⟨λb x g=>by
  unfold A5 at g;grind,lR _⟩
 unfold DP;cases H:X8 (A5 m.get S) 5 x with
 |none=>exact s.ext j
 |some y=>
  refine kY (m:=⟨A5 m.get S,m.next⟩) q j (λb l k els c e fz F u I=>?_) 5 x y v H s;unfold A5 at F;grind
def C5(get:Nat→Option Af)(S:List Nat)(els:List (List Aa)):List (List Aa):=els.map (List.map (DP get S))
theorem BR.fz{Φ Bs:Ap}{ρ:AI}{get:Nat->Option Af}{S:List Nat}(t:∀x v,R Φ ρ x v->R Bs ρ (DP get S x) v){k:Nat}{els:List (List Aa)}{l:Loc}{o:Obj}(h:BR Φ ρ (.cells k els) l o):BR Bs ρ (.cells k (C5 get S els)) l o:=by
 cases h with
 |cells _ _ _ c e q s r n p=>
  have a:∀(i:Nat) (row:List Aa),(C5 get S els)[i]?=some row -> ∃b,els[i]?=some b/\row=b.map (DP get S):=by
   intro i row hi;rw[C5,gM]at hi;grind
  refine .cells k _ l c e q s (by rw[C5,lM];exact r) ⟨λi row hi=>?_,λi row j x hi d=>?_⟩ p
  ·obtain⟨f,g,rfl⟩:=a i row hi;rw[lM];exact n.1 i f g
  obtain⟨f,g,rfl⟩:=a i row hi;rw[gM]at d;cases m:f[j]? with
  |none=>grind
  |some x0=>
   rw[m]at d;injection d with d;subst d
   obtain⟨v,u,w,y⟩:=n.2 i f j x0 g m;grind
def DZ(q:Nat→Nat)(S:List Nat):List (Nat×Af)→Ac→Prop
 | [],_=>True
 | (b,x) :: r,m=>(V1 (q b) S=false∧(m.get (q b)=some (x.AM q) ∨ ∃ k els,m.get (q b)=some (.cells k els)∧x.AM q=.cells k (C5 m.get S els)))∧DZ q S r m
theorem DZ.get{q:Nat->Nat}{S:List Nat}:∀{l:List (Nat×Af)}{m:Ac},DZ q S l m -> ∀b x,Z7 l b=some x->V1 (q b) S=false /\ ∃y,m.get (q b)=some y/\(x.AM q=y \/ ∃k els,y=.cells k els/\x.AM q=.cells k (C5 m.get S els))
 |[],m,_,b,x,h=>by simp[Z7]at h
 | (c,y)::r,m,a,b,x,h=>by
  simp only[Z7]at h;split at h
  ·rename_i e;subst e;injection h with h;subst h
   refine⟨a.1.1,?_⟩;rcases a.1.2 with d|⟨k,els,d,f⟩
   ·exact⟨_,d,.inl rfl⟩
   grind
  exact a.2.get b x h
def RO(n0:Nat)(l:List (Nat×Nat))(S:List Nat)(e0:Env)(m0:Ac)(e:Env)(m:Ac):Prop:=
 n0≤m0.next∧n0≤m.next∧Cm (BC l n0 m0.next m.next) e0 e∧DZ (BC l n0 m0.next m.next) S m0.bl m∧CQ (BC l n0 m0.next m.next) m0.bl
theorem RO.wk{n0 n:Nat}{l:List (Nat×Nat)}{S:List Nat}{u e:Env}{m0 m:Ac}(h:RO n0 l S u m0 e m):Di n n0 u m0 e m:=by
 obtain⟨g,V,O,hm,hi⟩:=h;refine⟨g,λW Φ ρ vs w j C=>?_⟩;obtain⟨Bs,s,E,F,G,H⟩:=Sg S j;refine⟨Bs,λb=>ρ (BC l n0 m0.next m.next b),s.AX,λb a=>by simp only[BC,iP a],⟨j.base,E,λb x c=>?_,λb b' x D l l' d p K L M=>?_,λb l' a=>nE (j.fresh _ _ a) g,F⟩,?_⟩
 ·obtain⟨N,y,r,P⟩:=hm.get b x c;obtain⟨l',o,z,I,U,J,A⟩:=j.live _ y r;refine⟨l',o,z,I,G _ y l' r z N,J,?_⟩;refine BR.BD (q:=BC l n0 m0.next m.next) (ρ:=ρ) (λ_ _ a=>a) ?_;rcases P with rfl|⟨k,els,rfl,p⟩
  ·exact A.ext s
  rw[p];exact A.fz H
 ·obtain⟨_,y,r,_⟩:=hm.get b x d;obtain⟨_,T,t,_⟩:=hm.get b' D p;exact hi.get b b' x D d p (j.inj _ _ y T l l' r t K L M)
 refine⟨by rw[C.1,M0,M0],λi x v c Q=>?_⟩;have f:i<n:=by
  have:=(gS.1 c).1;rwa[M0]at this
 rw[H7 f]at c;injection c with c
 subst c;rcases O.get i with d|d
 ·rw[d];exact .bot v
 have B:=C.2 i (e.get i) v (H7 f) Q;rw[d]at B;exact(B.BD (ρ':=λb=>ρ (BC l n0 m0.next m.next b)) (q:=BC l n0 m0.next m.next) (λ_ _ a=>a) _ rfl).ext ⟨s.AX,λ_ _ h=>h⟩
theorem Bo.freeze{P:Program}{g:FuncId}{args:List Aa}{m:Ac}{K K':Aa->Ac->Prop}(h:Bo P g args m K)(J:∀r c,K r c -> ∃S,K' (DP c.get S r) ⟨N9 S c.bl,c.next⟩):Bo P g args m K':=by
 refine⟨h.1,λW Φ ρ vs w M G p=>(h.2 W Φ ρ vs w M G p).mono λe w' I=>?_⟩;obtain⟨u,r,U,Q,ρ',q,C,i,a,E,L,c,rfl,D⟩:=I;obtain⟨S,F⟩:=J r c D;obtain⟨Bs,k,s,t,v,y⟩:=Sg S a;refine⟨u,DP c.get S r,Ac.mem ⟨N9 S c.bl,c.next⟩,Bs,ρ',q,C.trans k,i,⟨a.base,s,λb x N=>?_,λb b' x O l l' d f=>?_,a.fresh,t⟩,y _ _ E,L,_,rfl,F⟩
 ·obtain⟨d,f⟩:=Lo N;obtain⟨l',o,n,z,T,A,B⟩:=a.live b x d;have j:V1 b S=false:=by
   cases H:V1 b S with
   |false=>rfl
   |true=>exact absurd (Bu.1 H) f
  exact⟨l',o,n,z,v b x l' d n j,A,B.ext k⟩
 exact a.inj b b' x O l l' (Lo d).1 (Lo f).1
theorem Ykz{get:Nat->Option Af}:∀(n:Nat) (x y:Aa),x.closed=true->X8 get n x=some y->y=x:=by
 intro n;induction n with
 |zero=>intro x y _ h;simp[X8]at h
 |succ n g=>
  have f:∀(l:List Aa) (b:List Aa),Y7 l=true->U4 (X8 get n) l=some b->b=l:=by
   intro l;induction l with
   |nil=>intro b _ h;simp only[U4,oI]at h;exact h.symm
   |cons a r e=>
    intro b c h;simp only[Y7,bA]at c;simp only[U4]at h;grind
  have d:∀(l b:List (List Aa)),W3 l=true->U4 (U4 (X8 get n)) l=some b->b=l:=by
   intro l;induction l with
   |nil=>intro b _ h;simp only[U4,oI]at h;exact h.symm
   |cons a r e=>
    intro b c h;simp only[W3,bA]at c;simp only[U4]at h;grind
  intro x y c h;cases x<;>simp only[X8]at h<;>first|(simp only[oI]at h;exact h.symm)|(cases h;done)|(cases c;done)|skip
  ·rename_i els;cases hm:U4 (U4 (X8 get n)) els with
   |none=>simp[hm]at h
   |some b=>simp only[hm,oI]at h;subst h;rw[d els b c hm]
  ·rename_i cs;cases hm:U4 (X8 get n) cs with
   |none=>simp[hm]at h
   |some b=>simp only[hm,oI]at h;subst h;rw[f cs b c hm]
  rename_i cs;cases hm:U4 (X8 get n) cs with
  |none=>simp[hm]at h
  |some b=>simp only[hm,oI]at h;subst h;rw[f cs b c hm]
theorem y6{get:Nat->Option Af}{S:List Nat}{x:Aa}(h:x.closed=true):DP get S x=x:=by
 unfold DP;cases a:X8 (A5 get S) 5 x with
 |none=>rfl
 |some y=>exact Ykz 5 x y h a
theorem Zyy{get:Nat->Option Af}{S:List Nat}:∀{l:List Aa},Y7 l=true->l.map (DP get S)=l
 |[],_=>rfl
 |x::r,h=>by
  simp only[Y7,bA]at h;rw[List.map_cons,y6 h.1,Zyy h.2]
theorem mU{get:Nat->Option Af}{S:List Nat}:∀{l:List (List Aa)},W3 l=true->C5 get S l=l
 |[],_=>rfl
 |x::r,h=>by
  simp only[W3,bA]at h;have:=mU (get:=get) (S:=S) h.2;unfold C5 at this ⊢;rw[List.map_cons,Zyy h.1,this]
theorem Yav{get:Nat->Option Af}{S:List Nat}(a b:List (List Aa)):C5 get S (a++b)=C5 get S a++C5 get S b:=by simp[C5]
theorem Xl{get:Nat->Option Af}{n:Nat}:∀{l:List (List Aa)},(∀row,row∈l -> ∀x,x∈row->X8 get n x=some x)->U4 (U4 (X8 get n)) l=some l
 |[],_=>rfl
 |a::r,h=>by
  have b:U4 (X8 get n) a=some a:=by
   have d:=h a (List.mem_cons_self ..);clear h;induction a with
   |nil=>rfl
   |cons x t e=>
    simp only[U4];grind
  simp only[U4];rw[b,Xl λrow c=>h row (List.mem_cons_of_mem _ c)]
theorem WS{get:Nat->Option Af}{S:List Nat}{b k len:Nat}{els:List (List Aa)}(c:V1 b S=true)(d:get b=some (.cells k els))(e:els.length=len)(f:∀row,row∈els -> ∀x,x∈row->X8 (A5 get S) 4 x=some x):DP get S (.sl b 0 len)=.Al els:=by
 have h:A5 get S b=some (.cells k els):=by unfold A5;rw[c];exact d
 subst e;have a:Nat.ble (0+els.length) els.length=true:=by simp
 unfold DP;rw[X8];simp only[h,a,cond_true,List.drop_zero,List.take_length,Xl f]
end Go.AE
