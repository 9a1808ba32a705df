/- Part 11 -/
import Derived.Test.YtilmpmlkndfbjaaGreatDoorT10
set_option linter.all false
open Go.Proofs.Tryz (prog)
namespace Go.AE
open Go.RowKit
section
variable {P:Program} {dc:Bool} {n base i:Nat} {K:Env→Ac→Prop} {e:Env} {m:Ac}
theorem Mr:V7 P dc n base [] i K e m=K e m:=propext Iff.rfl
theorem MN(d:Option Nat)(op:Ba)(un:List Nat)(r:List Ag):V7 P dc n base (⟨d,op,none,un⟩ :: r) i K e m=match op with
 |.call f xs=>(match U9 n e f xs with
  |some (g,args)=>(match dc with
   |false=>SC P g args m (base+i) λv a=>V7 P dc n base r (i+1) K (Y8 e d v) a
   |true=>DC P g args (base+i) (DX base i r.length) m λv z=>V7 P dc n base r (i+1) K (Y8 e d v) (m.app (LV (base+i) z)))
  |none=>False)
 |op=>(match Ak (base+i) (AG n e) m.get op with
  |some (v,w)=>V7 P dc n base r (i+1) K (Y8 e d v) (m.app w)
  |none=>False):=by
 cases op<;>simp only[V7,S2,HO]<;>rfl
theorem NL(d:Option Nat)(op:Ba)(g:Nat×Bool)(un:List Nat)(r:List Ag):V7 P dc n base (⟨d,op,some g,un⟩ :: r) i K e m=match S2 n e (some g)with
 |some true=>(match op with
  |.call f xs=>(match U9 n e f xs with
   |some (g,args)=>(match dc with
    |false=>SC P g args m (base+i) λv a=>V7 P dc n base r (i+1) K (Y8 e d v) a
    |true=>DC P g args (base+i) (DX base i r.length) m λv z=>V7 P dc n base r (i+1) K (Y8 e d v) (m.app (LV (base+i) z)))
   |none=>False)
  |op=>(match Ak (base+i) (AG n e) m.get op with
   |some (v,w)=>V7 P dc n base r (i+1) K (Y8 e d v) (m.app w)
   |none=>False))
 |some false=>V7 P dc n base r (i+1) K (Y8 e d Ai) m
 |none=>False:=by
 cases op<;>simp only[V7,HO]<;>rfl
theorem Mo{keep:List Nat}{a:List (Nat×FT)}:H4 P keep n base [] i a K e m=K e m:=propext Iff.rfl
theorem Mq{keep:List Nat}{a:List (Nat×FT)}(d:Option Nat)(op:Ba)(un:List Nat)(r:List Ag):H4 P keep n base (⟨d,op,none,un⟩ :: r) i a K e m=match op with
 |.call f xs=>(match U9 n e f xs with
  |some (g,args)=>DC P g args (base+i) (DX base i r.length) m λv z=>H8 a (.call (KQ (base+i) z) (DX base i r.length) m.next) un/\H4 P keep n base r (i+1) (L8 keep i (.call (KQ (base+i) z) (DX base i r.length) m.next) a) K (Y8 e d v) (m.app (LV (base+i) z))
  |none=>False)
 |op=>(match Ak (base+i) (AG n e) m.get op with
  |some (v,w)=>H8 a (.ops (S9 (base+i) (AG n e) op) (S8 (AG n e) op)) un/\H4 P keep n base r (i+1) (L8 keep i (.ops (S9 (base+i) (AG n e) op) (S8 (AG n e) op)) a) K (Y8 e d v) (m.app w)
  |none=>False):=by
 cases op<;>simp only[H4,S2]<;>rfl
theorem Oj{keep:List Nat}{a:List (Nat×FT)}(d:Option Nat)(op:Ba)(g:Nat×Bool)(un:List Nat)(r:List Ag):H4 P keep n base (⟨d,op,some g,un⟩ :: r) i a K e m=match S2 n e (some g)with
 |some true=>(match op with
  |.call f xs=>(match U9 n e f xs with
   |some (g,args)=>DC P g args (base+i) (DX base i r.length) m λv z=>H8 a (.call (KQ (base+i) z) (DX base i r.length) m.next) un/\H4 P keep n base r (i+1) (L8 keep i (.call (KQ (base+i) z) (DX base i r.length) m.next) a) K (Y8 e d v) (m.app (LV (base+i) z))
   |none=>False)
  |op=>(match Ak (base+i) (AG n e) m.get op with
   |some (v,w)=>H8 a (.ops (S9 (base+i) (AG n e) op) (S8 (AG n e) op)) un/\H4 P keep n base r (i+1) (L8 keep i (.ops (S9 (base+i) (AG n e) op) (S8 (AG n e) op)) a) K (Y8 e d v) (m.app w)
   |none=>False))
 |some false=>H4 P keep n base r (i+1) (L8 keep i (.ops [] []) a) K (Y8 e d Ai) m
 |none=>False:=by
 cases op<;>simp only[H4]<;>rfl
@[simp] theorem Ymf(id:Nat):LV id none=[]:=rfl
@[simp] theorem Yne(id:Nat)(b:Af):LV id (some b)=[(id, some b)]:=rfl
@[simp] theorem Ync(id:Nat):KQ id none=[]:=rfl
@[simp] theorem Ymp(id:Nat)(b:Af):KQ id (some b)=[id]:=rfl
@[simp] theorem Ymt(m:Ac):m.app []=m:=rfl
theorem Ot:IY []=[]:=rfl
theorem NB(d:Option Nat)(op:Ba)(g:Option (Nat×Bool))(un:List Nat)(r:List Ag):IY (⟨d,op,g,un⟩ :: r)=un++IY r:=rfl
theorem NR(d:Nat)(v:Aa):Y8 e (some d) v=(d,v)::e:=rfl
theorem Ox(v:Aa):Y8 e none v=e:=rfl
theorem Ov(j:Nat):AG n e (.tmp j)=if j<n then e.get j else Ai:=rfl
theorem MF(v:Aa):AG n e (.const v)=v:=rfl
theorem Nz(f:FuncId):AG n e (.fn f)=.func (.func f) [] []:=rfl
def gU(w:Bool):Aa→Option Bool
 | .bool b=>some (b == w)
 | .tuple []=>some false
 | _=>none
theorem NX(d:Nat)(w:Bool):S2 n e (some (d,w))=gU w (AG n e (.tmp d)):=by
 simp only[S2];unfold gU;rfl
theorem NC(w b:Bool):gU w (.bool b)=some (b == w):=rfl
theorem MX(w:Bool):gU w (.tuple [])=some false:=rfl
def vo:Option Aa→Option (Aa×List (Nat×Option Af))
 | some v=>some (v,[])
 | none=>none
theorem Nc(v:Aa):vo (some v)=some (v,[]):=rfl
def wo(v:Aa):Option (List (Nat×Option Af))→Option (Aa×List (Nat×Option Af))
 | some d=>some (v,d)
 | none=>none
theorem Mp(v:Aa)(d:List (Nat×Option Af)):wo v (some d)=some (v,d):=rfl
section
variable {id:Nat} {f:Ah→Aa} {get:Nat→Option Af}
theorem Oe(x:Ah):Ak id f get (.Gl x)=some (f x,[]):=rfl
def fQ(a b:Aa):Aa→Option (Aa×List (Nat×Option Af))
 | .bool true=>some (a,[])
 | .bool false=>some (b,[])
 | _=>none
theorem NP(a b:Aa):fQ a b (.bool true)=some (a,[]):=rfl
theorem Na(a b:Aa):fQ a b (.bool false)=some (b,[]):=rfl
theorem Mx(c a b:Ah):Ak id f get (.pick c a b)=fQ (f a) (f b) (f c):=by
 simp only[Ak];unfold fQ;split<;>simp_all
def Ta(id:Nat):Option (List Aa)→Option (Aa×List (Nat×Option Af))
 | some cs=>if cs.all Aa.one then some (.ptr id 0 0,[(id,some (.cells cs.length [cs]))])else none
 | none=>none
theorem Ms(cs:List Aa):Ta id (some cs)=if cs.all Aa.one then some (.ptr id 0 0,[(id,some (.cells cs.length [cs]))])else none:=rfl
theorem NK(x:Ah):Ak id f get (.box x)=Ta id (f x).cells:=by simp only[Ak];unfold Ta;rfl
theorem MH(z:List Aa):Ak id f get (.alloc z)=some (.ptr id 0 0,[(id,some (.cells z.length [z]))]):=rfl
def T9:Option (List Aa)→Option (Aa×List (Nat×Option Af))
 | some cs=>some (.agg cs,[])
 | none=>none
theorem MW(cs:List Aa):T9 (some cs)=some (.agg cs,[]):=rfl
theorem NY(z:List Aa)(ps:List (Nat×Nat×Ah)):Ak id f get (.build z ps)=T9 (B0 z (ps.map λp=>(p.1,p.2.1,f p.2.2))):=by simp only[Ak];unfold T9;rfl
def kQ(id k len:Nat):Option (List (List Aa))→Option (Aa×List (Nat×Option Af))
 | some els=>some (.sl id 0 len,[(id,some (.cells k els))])
 | none=>none
theorem MD(k len:Nat)(els:List (List Aa)):kQ id k len (some els)=some (.sl id 0 len,[(id,some (.cells k els))]):=rfl
theorem Ob(k len:Nat)(z:List Aa)(ps:List (Nat×Ah)):Ak id f get (.Dq k len z ps)=kQ id k len (H3 k (List.replicate len z) (ps.map λp=>(p.1,f p.2))):=by simp only[Ak];unfold kQ;rfl
theorem On(n:Option Nat)(x:Ah):Ak id f get (.load n x)=vo (K4 get n (f x)):=by simp only[Ak];unfold vo;rfl
theorem MY(n:Nat)(a x:Ah):Ak id f get (.store n a x)=wo Ai (C3 get n (f a) (f x)):=by simp only[Ak];unfold wo;rfl
def PY:Aa→Option (Aa×List (Nat×Option Af))
 | .ptr b i j=>some (.ptr b i j,[])
 | .Bc els i j=>some (.Bc els i j,[])
 | .func (.func f) a b=>some (.func (.func f) a b,[])
 | _=>none
theorem Oo(b i j:Nat):PY (.ptr b i j)=some (.ptr b i j,[]):=rfl
theorem NO(els:List (List Aa))(i j:Nat):PY (.Bc els i j)=some (.Bc els i j,[]):=rfl
theorem Oc(x:Ah):Ak id f get (.CJ x)=PY (f x):=by simp only[Ak];unfold PY;split<;>simp_all
theorem MQ(op:BinOp)(q:Fv)(x y:Ah):Ak id f get (.bin op q x y)=vo (W5 op q (f x) (f y)):=by simp only[Ak];unfold vo;rfl
theorem Nj(op:UnOp)(x:Ah):Ak id f get (.un op x)=vo (Gy op (f x)):=by simp only[Ak];unfold vo;rfl
theorem Oa(fn:Fn)(a c:List Ah):Ak id f get (.DL fn a c)=some (.func fn (a.map f) (c.map f),[]):=rfl
theorem Ol:Ak id f get .mkMap=some (.map id,[(id,some (.map [] 0))]):=rfl
theorem Nq(off:Nat)(x:Ah):Ak id f get (.Cg off x)=vo (I4 off (f x)):=by simp only[Ak];unfold vo;rfl
theorem Nu(off b i j:Nat):I4 off (.ptr b i j)=some (.ptr b i (j+off)):=rfl
theorem Nb(off:Nat)(els:List (List Aa))(i j:Nat):I4 off (.Bc els i j)=some (.Bc els i (j+off)):=rfl
def tM(off:Nat)(n:Option Nat):Aa→Option (Aa×List (Nat×Option Af))
 | .agg cs=>vo (Ld cs off n)
 | _=>none
theorem Nf(off:Nat)(n:Option Nat)(cs:List Aa):tM off n (.agg cs)=vo (Ld cs off n):=rfl
def Tp(i:Nat):Aa→Option (Aa×List (Nat×Option Af))
 | .tuple vs=>vo vs[i]?
 | _=>none
theorem ME(i:Nat)(vs:List Aa):Tp i (.tuple vs)=vo vs[i]?:=rfl
theorem MP(x:Ah)(i:Nat):Ak id f get (.ext x i)=Tp i (f x):=by simp only[Ak];unfold Tp vo;rfl
def Tz:Option Nat→Option (Aa×List (Nat×Option Af))
 | some n=>some (.int .i64 n,[])
 | none=>none
theorem NA(n:Nat):Tz (some n)=some (.int .i64 n,[]):=rfl
theorem Od(x:Ah):Ak id f get (.BW x)=Tz (S7 (f x)):=by simp only[Ak];unfold Tz;rfl
theorem My:S7 .Aj=some 0:=rfl
theorem NQ:S7 .emp=some 0:=rfl
theorem MS(b off len:Nat):S7 (.sl b off len)=some len:=rfl
theorem Mz(els:List (List Aa)):S7 (.Al els)=some els.length:=rfl
def LZ(get:Nat→Option Af)(k:Nat):Aa→Option Nat→Option (Aa×List (Nat×Option Af))
 | .sl b off len,some i=>match get b with
  | some (.cells k' _)=>if k'=k∧i<len then some (.ptr b (off+i) 0,[])else none
  | _=>none
 | .Al els,some i=>match els[i]? with
  | some row=>if row.length=k then some (.Bc els i 0,[])else none
  | none=>none
 | _,_=>none
theorem MA(k b off len i:Nat):LZ get k (.sl b off len) (some i)=match get b with
 |some (.cells a _)=>if a=k/\i<len then some (.ptr b (off+i) 0,[])else none
 |_=>none:=rfl
theorem KX(k:Nat)(els:List (List Aa))(i:Nat):LZ get k (.Al els) (some i)=match els[i]? with
 |some row=>if row.length=k then some (.Bc els i 0,[])else none
 |none=>none:=rfl
theorem Mw(k:Nat)(x i:Ah):Ak id f get (.Dk k x i)=LZ get k (f x) (S6 (f i)):=by
 simp only[Ak];unfold LZ;rfl
theorem MV(k a:Nat)(z:List Aa)(x y:Ah):Ak id f get (.CI k a z x y)=match S6 (f x),S6 (f y)with
 |some l,some c=>if l<=c/\c<=W6/\a<=W6 then some (.sl id 0 l,[(id,some (.cells k (List.replicate c z)))])else none
 |_,_=>none:=rfl
theorem Nw(k a:Nat)(z:List Aa)(x y:Ah):Ak id f get (.append k a z x y)=match I1 get k (f y)with
 |some xs=>W4 id k a get (f x) xs
 |none=>none:=rfl
theorem Ns(x:Ah):Ak id f get (.CH x)=match f x with
 |.AF=>some (.int .i64 0,[])
 |.map b=>match get b with
  |some (.map a _)=>some (.int .i64 a.length,[])
  |_=>none
 |_=>none:=rfl
theorem Nv(c:Cv)(z:Aa)(ok:Bool)(x i:Ah):Ak id f get (.lookup c z ok x i)=match (match f x with
 |.AF=>some []
 |.map b=>match get b with
  |some (.map a _)=>some a
  |_=>none
 |_=>none)with
 |some a=>match D1 c (f i) a with
  |some r=>some (if ok then .tuple [match r with
   |some (_,v,_)=>v
   |none=>z,.bool r.isSome]else (match r with
   |some (_,v,_)=>v
   |none=>z),[])
  |none=>none
 |none=>none:=rfl
theorem Ow(d:Cv)(e k v:Ah):Ak id f get (.BX d e k v)=match f e with
 |.map b=>match get b with
  |some (.map c a)=>match D1 d (f k) c with
   |some (some (i,_,born))=>some (Ai,[(b,some (.map (c.set i (f k,f v,born)) a))])
   |some none=>some (Ai,[(b,some (.map (c++[(f k,f v,a)]) (a+1)))])
   |none=>none
  |_=>none
 |_=>none:=rfl
theorem Wo(n k:Nat)(x i:Ah):Ak id f get (.Fi n k x i)=match S6 (f i)with
 |some i=>if i<n then vo (I4 (i*k) (f x))else none
 |none=>none:=by
 simp only[Ak];unfold vo;rfl
theorem Of(k:IntKind)(j:Int):S6 (.int k j)=if 0<=j then some j.toNat else none:=by simp only[S6]
end
end
@[congr] theorem Ynn{P:Program}{keep d:List Nat}{n base a i g:Nat}{f b:List (Nat × FT)}{c:List Ag}{K:Env -> Ac -> Prop}{e e':Env}{m j:Ac}(p:keep=d)(l:base=a)(hi:i=g)(o:f=b)(h:e=e')(k:m=j):H4 P keep n base c i f K e m=H4 P d n a c g b K e' j:=by rw [p, l, hi, o, h, k]
theorem MJ{P:Program}{n n0:Nat}{Q:Exit->Env->Ac->Prop}{e:Env}{m:Ac}(c:Ah)(a b:An):Dl P n n0 (.cond c a b) Q e m=match AG n e c with
 |.bool true=>Dl P n n0 a Q e m
 |.bool false=>Dl P n n0 b Q e m
 |_=>False:=by
 rw[Yg2];unfold Ic;rfl
end Go.AE
namespace Go.Ad
open Go Go.AE Go.Proofs
section
set_option maxRecDepth 100000
set_option maxHeartbeats 400000
def af4:AD:=by
 have h:=rQ Tryz.f33
 conv at h=>rhs; reduce
 dsimp at h
 exact oR h
theorem cf4:Bk prog Tryz.f33=some af4:=by kernel_rfl
def qO:AD:=by
 have h:=rQ Tryz.f15
 conv at h=>rhs; reduce
 exact oR h
theorem sO:Bk prog Tryz.f15=some qO:=by kernel_rfl
def XO:AD:=by
 have h:=rQ Tryz.f60
 conv at h=>rhs; reduce
 dsimp at h
 exact oR h
theorem sP:Bk prog Tryz.f60=some XO:=by kernel_rfl
def XP:AD:=by
 have h:=rQ Tryz.f61
 conv at h=>rhs; reduce
 dsimp at h
 exact oR h
theorem sQ:Bk prog Tryz.f61=some XP:=by kernel_rfl
def qP:AD:=by
 have h:=rQ Tryz.f62
 conv at h=>rhs; reduce
 dsimp at h
 exact oR h
theorem sR:Bk prog Tryz.f62=some qP:=by kernel_rfl
def qQ:AD:=by
 have h:=rQ Tryz.f63
 conv at h=>rhs; reduce
 dsimp at h
 exact oR h
theorem sS:Bk prog Tryz.f63=some qQ:=by kernel_rfl
def XQ:AD:=by
 have h:=rQ Tryz.f64
 conv at h=>rhs; reduce
 dsimp at h
 exact oR h
theorem sU:Bk prog Tryz.f64=some XQ:=by kernel_rfl
def Ye:AD:=by
 have h:=rQ Tryz.f97
 conv at h=>rhs; reduce
 dsimp at h
 exact oR h
theorem sW:Bk prog Tryz.f97=some Ye:=by kernel_rfl
def Yf:AD:=by
 have h:=rQ Tryz.f98
 conv at h=>rhs; reduce
 dsimp at h
 exact oR h
theorem sX:Bk prog Tryz.f98=some Yf:=by kernel_rfl
def Yg:AD:=by
 have h:=rQ Tryz.f99
 conv at h=>rhs; reduce
 dsimp at h
 exact oR h
theorem sY:Bk prog Tryz.f99=some Yg:=by kernel_rfl
def FJ:AD:=by
 have h:=rQ Tryz.f100
 conv at h=>rhs; reduce
 dsimp at h
 exact oR h
theorem Za:Bk prog Tryz.f100=some FJ:=by kernel_rfl
def LS:AD:=by
 have h:=rQ Tryz.f131
 conv at h=>rhs; reduce
 exact oR h
theorem sZ:Bk prog Tryz.f131=some LS:=by kernel_rfl
def T2:AD:=by
 have h:=rQ Tryz.f132
 conv at h=>rhs; reduce
 dsimp at h
 exact oR h
theorem tC:Bk prog Tryz.f132=some T2:=by kernel_rfl
def Ys:AD:=by
 have h:=rQ Tryz.f133
 conv at h=>rhs; reduce
 dsimp at h
 exact oR h
theorem tD:Bk prog Tryz.f133=some Ys:=by kernel_rfl
def Yt:AD:=by
 have h:=rQ Tryz.f59
 conv at h=>rhs; reduce
 dsimp at h
 exact oR h
theorem tE:Bk prog Tryz.f59=some Yt:=by kernel_rfl
end
section
set_option maxRecDepth 100000
set_option maxHeartbeats 400000
def af5:AD:=⟨147,[(0,none)],(sr [Gw 0]
 (sr [oZ 22 (.call (.fn 19) []),mv 21 22,ex 23 21 0,ex 24 21 1,oZ 1 (.alloc [.Aj,(.int .i64 0),(.int .i64 0)]),oZ 2 (.alloc [(.int .i64 0),.Aj]),so 3 1 23,so 2 2 24]
 (sr [lw 26 2 2,Td 27 13 26,mv 25 27,ex 28 25 0,ex 29 25 1,oZ 3 (.alloc [(.int .i64 0),.Aj,.Aj,.Aj]),so 4 3 28,mv 4 29]
 (sr [lw 31 4 3,Td 32 16 31,mv 30 32,ex 33 30 0,ex 34 30 1,mv 5 33,mv 6 34]
 (sr [lw 36 4 3,Td 37 9 36,mv 35 37,ex 38 35 0,ex 39 35 1,oZ 7 (.alloc [(.int .i64 0),.Aj]),so 2 7 38,mv 8 39]
 (.seq (sr [mv 40 4,sG 41 40 0,mv 42 41,wF 43 42 6,gZ 44 42 false (.bin .neq .num (tZ 43) (kZ 0)),Qb 45 42 44,mv 46 45,wF 47 46 8,gZ 48 46 false (.bin .neq .num (tZ 47) (kZ 0)),Qb 49 46 48,mv 50 49,wF 51 50 5,gZ 52 50 false (.Dq 1 5 [(.str [])] [(0,(.const (.str [94,32,94]))),(1,(.const (.str [124,32,94,32,94,32,124]))),(2,(.const (.str [124,32,49,32,124,32,124,32,50,32,124]))),(3,(.const (.str [118,32,118,32,124,32,124]))),(4,(.const (.str [118,32,118])))]),gZ 53 50 false (.call (.fn 17) [tZ 51,tZ 52]),gZ 54 50 false (.un .not (tZ 53)),Qb 55 50 54,mv 56 55,gZ 57 56 false (.load (some 2) (tZ 7)),gZ 58 56 false (.load (some 2) (tZ 2)),gZ 59 56 false (.call (.fn 20) [tZ 57,tZ 58]),gZ 60 56 false (.un .not (tZ 59)),Qb 61 56 60]
 (.cond (tZ 61) (sr [Gw 0]
 .ret)
 .skip))
 (sr [oZ 62 (.build [(.int .i64 0),(.int .i64 0),(.int .i64 0),(.int .i64 0),(.int .i64 0),(.bool false)] [(0,1,kZ 2),(3,1,kZ 1),(4,1,kZ 1),(5,1,bZ true)]),oZ 9 (.alloc [(.int .i64 0),(.int .i64 0),(.int .i64 0),(.int .i64 0),(.int .i64 0),(.bool false)]),so 6 9 62]
 (sr [lw 63 6 9,oZ 10 (.alloc [(.int .i64 0),(.int .i64 0),(.int .i64 0),(.int .i64 0),(.int .i64 0),(.bool false)]),so 6 10 63]
 (sr [fa 64 5 10,pZ (.store 1 (tZ 64) (bZ false))]
 (.seq (.region true [oZ 66 (.call (.fn 21) [kZ 0,kZ 1]),⟨(some 67),.load (some 6) (tZ 10),none,[0]⟩,⟨(some 68),.load (some 6) (tZ 9),none,[0]⟩,⟨(some 69),.call (.fn 21) [kZ 1,kZ 1],none,[1,2]⟩,oZ 70 (.Dq 6 4 [(.int .i64 0),(.int .i64 0),(.int .i64 0),(.int .i64 0),(.int .i64 0),(.bool false)] [(0,tZ 66),(1,tZ 67),(2,tZ 68),(3,tZ 69)]),oZ 71 (.build [(.int .i64 0),.Aj] [(0,1,kZ 2),(1,1,tZ 70)]),Td 72 13 71,mv 65 72,ex 73 65 0,ex 74 65 1,⟨(some 11),.alloc [(.int .i64 0),.Aj,.Aj,.Aj],none,[0,1,2,3,4,6]⟩,so 4 11 73,mv 12 74])
 (.seq (sr [mv 75 12,sG 76 75 0,mv 77 76,Vp 78 77 2 11,Vq 79 77 78,gZ 80 77 false (.BW (tZ 79)),gZ 81 77 false (.bin .neq .num (tZ 80) (kZ 1)),Qb 82 77 81,mv 83 82,Vp 84 83 3 11,Vq 85 83 84,gZ 86 83 false (.BW (tZ 85)),gZ 87 83 false (.bin .neq .num (tZ 86) (kZ 3)),Qb 88 83 87,mv 89 88,Vp 90 89 3 11,Vq 91 89 90,gZ 92 89 false (.Dk 4 (tZ 91) (kZ 0)),gZ 93 89 false (.load (some 4) (tZ 92)),gZ 94 89 false (.build [(.int .i64 0),(.int .i64 0),(.int .i64 0),(.bool false)] [(0,1,kZ 2),(2,1,kZ 1),(3,1,bZ true)]),gZ 95 89 false (.bin .neq (.flat [.int,.int,.int,.bool]) (tZ 93) (tZ 94)),Qb 96 89 95,mv 97 96,Vp 98 97 3 11,Vq 99 97 98,gZ 100 97 false (.Dk 4 (tZ 99) (kZ 1)),gZ 101 97 false (.load (some 4) (tZ 100)),gZ 102 97 false (.build [(.int .i64 0),(.int .i64 0),(.int .i64 0),(.bool false)] [(0,1,kZ 1),(1,1,kZ 1)]),gZ 103 97 false (.bin .neq (.flat [.int,.int,.int,.bool]) (tZ 101) (tZ 102)),Qb 104 97 103]
 (.cond (tZ 104) (sr [Gw 0]
 .ret)
 .skip))
 (sr [lw 106 3 1,lw 107 2 2,oZ 108 (.build [(.int .i64 0),(.bool false),(.int .i64 0)] [(0,1,kZ 2),(2,1,kZ 1)]),oZ 109 (.Dq 3 1 [(.int .i64 0),(.bool false),(.int .i64 0)] [(0,tZ 108)]),oZ 110 (.build [(.int .i64 0),(.int .i64 0)] [(0,1,kZ 1),(1,1,kZ 1)]),oZ 111 (.call (.fn 22) [tZ 106,tZ 107,tZ 109,tZ 110]),mv 105 111,ex 112 105 0,ex 113 105 1,ex 114 105 2,oZ 13 (.alloc [.Aj,(.int .i64 0),(.int .i64 0)]),oZ 14 (.alloc [(.int .i64 0),.Aj]),so 3 13 112,so 2 14 113,mv 15 114]
 (sr [lw 116 3 1,lw 117 2 2,oZ 118 (.call (.fn 23) [tZ 116,tZ 117,kZ 1]),mv 115 118,ex 119 115 0,ex 120 115 1,ex 121 115 2,oZ 16 (.alloc [.Aj,(.int .i64 0),(.int .i64 0)]),oZ 17 (.alloc [(.int .i64 0),.Aj]),so 3 16 119,so 2 17 120,mv 18 121]
 (sr [lw 123 2 2,Td 124 24 123,mv 122 124,ex 125 122 0,ex 126 122 1,mv 19 125,mv 20 126]
 (sr [mv 127 15,PA 128 127 0,mv 129 128,wG 130 129 18,gZ 131 129 true (.bin .eql .num (tZ 130) (kZ 5)),gR 132 129 131,mv 133 132,wG 134 133 20,gZ 135 133 true (.bin .eql .num (tZ 134) (kZ 0)),gR 136 133 135,mv 137 136,wG 138 137 19,gZ 139 137 true (.BW (tZ 138)),gZ 140 137 true (.bin .eql .num (tZ 139) (kZ 4)),gR 141 137 140,mv 142 141,gZ 143 142 true (.load (some 2) (tZ 14)),gZ 144 142 true (.call (.fn 25) [tZ 143]),gZ 145 142 true (.bin .eql .num (tZ 144) (.const (.str [51,58,32,48,46,49,32,49,46,49,32,50,46,49,32,51,46,49]))),gR 146 142 145,mv 0 146]
 .ret)))))))))))))))⟩
theorem gd5:GD 8 af5:=gG Tryz.func8 (by kernel_rfl) (by kernel_rfl)
def qS:AD:=by
 have h:=rQ Tryz.f13
 conv at h=>rhs; reduce
 dsimp at h
 exact oR h
theorem cf6:Bk prog Tryz.f13=some qS:=by kernel_rfl
theorem gd6:GD 13 qS:=gG Tryz.func13 cf6 (by kernel_rfl)
def af9:AD:=by
 have h:=rQ Tryz.f52
 conv at h=>rhs; reduce
 dsimp at h
 exact oR h
theorem gd9:GD 52 af9:=gG Tryz.func52 (by kernel_rfl) (by kernel_rfl)
def XM:AD:=by
 have h:=rQ Tryz.f24
 conv at h=>rhs; reduce
 dsimp at h
 exact oR h
theorem tN:GD 24 XM:=gG Tryz.func24 (by kernel_rfl) (by kernel_rfl)
def XN:AD:=⟨38,[(4,none)],(sr [bo 2 0,bo 3 1,Gw 4]
 (.seq (sr [fa 6 0 2,lo 7 6,fa 8 0 3,lo 9 8,cN 10 7 9,mv 11 10,Vp 12 11 1 2,Vq 13 11 12,gZ 14 11 false (.BW (tZ 13)),Vp 15 11 1 3,Vq 16 11 15,gZ 17 11 false (.BW (tZ 16)),gZ 18 11 false (.bin .neq .num (tZ 14) (tZ 17)),Qb 19 11 18]
 (.cond (tZ 19) (sr [Gw 4]
 .ret)
 .skip))
 (.seq (sr [mk 5 0]
 (.block 0 (.loop (.seq (sr [mv 20 5,fa 21 1 2,lo 22 21,le 23 22,cL 24 20 23]
 (.cond (tZ 24) .skip
 (.exit 0)))
 (.seq (.block 1 (.seq (.region true [fa 27 1 2,lo 28 27,mv 29 5,ix 30 6 28 29,lw 31 6 30,fa 32 1 3,lo 33 32,mv 34 5,ix 35 6 33 34,lw 36 6 35,oZ 37 (.bin .neq (.flat [.int,.int,.int,.int,.int,.bool]) (tZ 31) (tZ 36))])
 (.cond (tZ 37) (sr [Gw 4]
 .ret)
 .skip)))
 (rf [mv 25 5,Iq 26 25 1,mv 5 26]))))))
 (sr [xT 4]
 .ret))))⟩
theorem tO:GD 11 XN:=gG Tryz.func11 (by kernel_rfl) (by kernel_rfl)
def XS:AD:=by
 have h:=rQ Tryz.f19
 conv at h=>rhs; reduce
 dsimp at h
 exact oR h
theorem tP:GD 19 XS:=gG Tryz.func19 (by kernel_rfl) (by kernel_rfl)
def XT:AD:=by
 have h:=rQ Tryz.f16
 conv at h=>rhs; reduce
 dsimp at h
 exact oR h
theorem tQ:GD 16 XT:=gG Tryz.func16 (by kernel_rfl) (by kernel_rfl)
def SH:AD:=by
 have h:=rQ Tryz.f9
 conv at h=>rhs; reduce
 dsimp at h
 exact oR h
theorem YX:Bk prog Tryz.f9=some SH:=by kernel_rfl
theorem tT:GD 9 SH:=gG Tryz.func9 YX (by kernel_rfl)
def XU:AD:=by
 have h:=rQ Tryz.f17
 conv at h=>rhs; reduce
 dsimp at h
 exact oR h
theorem tU:GD 17 XU:=gG Tryz.func17 (by kernel_rfl) (by kernel_rfl)
def XV:AD:=by
 have h:=rQ Tryz.f20
 conv at h=>rhs; reduce
 exact oR h
theorem tV:GD 20 XV:=gG Tryz.func20 (by kernel_rfl) (by kernel_rfl)
def XW:AD:=by
 have h:=rQ Tryz.f21
 conv at h=>rhs; reduce
 dsimp at h
 exact oR h
theorem tW:GD 21 XW:=gG Tryz.func21 (by kernel_rfl) (by kernel_rfl)
def XY:AD:=by
 have h:=rQ Tryz.f22
 conv at h=>rhs; reduce
 dsimp at h
 exact oR h
theorem tX:GD 22 XY:=gG Tryz.func22 (by kernel_rfl) (by kernel_rfl)
def XZ:AD:=by
 have h:=rQ Tryz.f23
 conv at h=>rhs; reduce
 dsimp at h
 exact oR h
theorem tY:GD 23 XZ:=gG Tryz.func23 (by kernel_rfl) (by kernel_rfl)
def Ya:AD:=by
 have h:=rQ Tryz.f25
 conv at h=>rhs; reduce
 dsimp at h
 exact oR h
theorem uA:GD 25 Ya:=gG Tryz.func25 (by kernel_rfl) (by kernel_rfl)
def SI:AD:=by
 have h:=rQ Tryz.f34
 conv at h=>rhs; reduce
 dsimp at h
 exact oR h
theorem Te:Bk prog Tryz.f34=some SI:=by kernel_rfl
theorem uB:GD 34 SI:=gG Tryz.func34 Te (by kernel_rfl)
def SJ:AD:=by
 have h:=rQ Tryz.f51
 conv at h=>rhs; reduce
 dsimp at h
 exact oR h
theorem YY:Bk prog Tryz.f51=some SJ:=by kernel_rfl
theorem uC:GD 51 SJ:=gG Tryz.func51 YY (by kernel_rfl)
def SK:AD:=by
 have h:=rQ Tryz.f67
 conv at h=>rhs; reduce
 dsimp at h
 exact oR h
theorem PB:Bk prog Tryz.f67=some SK:=by kernel_rfl
theorem uE:GD 67 SK:=gG Tryz.func67 PB (by kernel_rfl)
def Yb:AD:=by
 have h:=rQ Tryz.f94
 conv at h=>rhs; reduce
 dsimp at h
 exact oR h
theorem uG:GD 94 Yb:=gG Tryz.func94 (by kernel_rfl) (by kernel_rfl)
def Yc:AD:=by
 have h:=rQ Tryz.f95
 conv at h=>rhs; reduce
 dsimp at h
 exact oR h
theorem uH:GD 95 Yc:=gG Tryz.func95 (by kernel_rfl) (by kernel_rfl)
def SM:AD:=by
 have h:=rQ Tryz.f14
 conv at h=>rhs; reduce
 dsimp at h
 exact oR h
theorem YZ:Bk prog Tryz.f14=some SM:=by kernel_rfl
theorem uI:GD 14 SM:=gG Tryz.func14 YZ (by kernel_rfl)
def Yh:AD:=by
 have h:=rQ Tryz.f40
 conv at h=>rhs; reduce
 exact oR h
theorem uJ:GD 40 Yh:=gG Tryz.func40 (by kernel_rfl) (by kernel_rfl)
def Yi:AD:=by
 have h:=rQ Tryz.f41
 conv at h=>rhs; reduce
 dsimp at h
 exact oR h
theorem uK:GD 41 Yi:=gG Tryz.func41 (by kernel_rfl) (by kernel_rfl)
def Yj:AD:=by
 have h:=rQ Tryz.f42
 conv at h=>rhs; reduce
 dsimp at h
 exact oR h
theorem uL:GD 42 Yj:=gG Tryz.func42 (by kernel_rfl) (by kernel_rfl)
def SN:AD:=by
 have h:=rQ Tryz.f26
 conv at h=>rhs; reduce
 dsimp at h
 exact oR h
theorem Zb:Bk prog Tryz.f26=some SN:=by kernel_rfl
theorem uM:GD 26 SN:=gG Tryz.func26 Zb (by kernel_rfl)
def SO:AD:=by
 have h:=rQ Tryz.f27
 conv at h=>rhs; reduce
 dsimp at h
 exact oR h
theorem Tg:Bk prog Tryz.f27=some SO:=by kernel_rfl
theorem uO:GD 27 SO:=gG Tryz.func27 Tg (by kernel_rfl)
def SP:AD:=⟨199,[(4,(some (some 2))),(5,none)],(sr [oZ 4 (.alloc [(.int .i64 0),.Aj]),Gw 5]
 (sr [mv 23 1,oZ 24 (.build [(.int .i64 0),.Aj] [(0,1,tZ 23)]),oZ 6 (.alloc [(.int .i64 0),.Aj]),so 2 6 24]
 (sr [mv 25 0,nc 26 25,fa 27 0 26,lo 28 27,le 29 28,mv 7 29]
 (sr [mv 30 0,nc 31 30,fa 32 2 31,lo 33 32,le 34 33,oZ 35 (.CI 1 24 [.Aj] (tZ 34) (tZ 34)),mv 8 35]
 (sr [oZ 36 (.mkMap),mv 9 36]
 (sr [mv 37 7,mv 38 0,nc 39 38,fa 40 2 39,lo 41 40,le 42 41,oZ 43 (.bin .mul .num (kZ 2) (tZ 42)),aD 44 37 43,mv 10 44]
 (sr [mk 11 0]
 (.seq (.block 0 (.loop (.block 1 (.seq (sr [mv 45 10,aSk 46 45 1,mv 10 46]
 (sr [mv 47 10,cLk 48 47 0]
 (.cond (tZ 48) (sr [oZ 49 (.build [(.int .i64 0),.Aj] []),so 2 4 49,Gw 5]
 .ret)
 .skip)))
 (.seq (sr [mv 50 11,mv 51 7,oZ 52 (.bin .mul .num (kZ 2) (tZ 51)),cL 53 50 52]
 (.cond (tZ 53) (.seq (.region true [fa 54 1 6,lo 55 54,mv 56 0,nc 57 56,fa 58 0 57,lo 59 58,mv 60 11,aQk 61 60 2,ix 62 6 59 61,lw 63 6 62,⟨(some 64),.Dq 6 1 [(.int .i64 0),(.int .i64 0),(.int .i64 0),(.int .i64 0),(.int .i64 0),(.bool false)] [(0,tZ 63)],none,[1]⟩,oZ 65 (.append 6 48 [(.int .i64 0),(.int .i64 0),(.int .i64 0),(.int .i64 0),(.int .i64 0),(.bool false)] (tZ 55) (tZ 64)),fa 66 1 6,so 1 66 65])
 (rf [mv 67 11,oZ 68 (.bin .xor .num (tZ 67) (kZ 1)),mv 11 68]))
 (sr [mv 69 11,mv 70 7,oZ 71 (.bin .mul .num (kZ 2) (tZ 70)),aS 72 69 71,aQk 73 72 4,mv 74 11,mv 75 7,oZ 76 (.bin .mul .num (kZ 2) (tZ 75)),aS 77 74 76,Vo 78 77 4,mv 12 73,mv 13 78]
 (.seq (sr [mv 79 9,mv 80 12,oZ 81 (.lookup .int (.int .i64 0) false (tZ 79) (tZ 80)),PA 82 81 0]
 (.cond (tZ 82) (rf [mv 83 9,mv 84 12,mv 85 9,oZ 86 (.CH (tZ 85)),Iq 87 86 1,pZ (.BX .int (tZ 83) (tZ 84) (tZ 87))])
 .skip))
 (.seq (.region true [mv 88 8,mv 89 12,mv 90 8,mv 91 12,ix 92 1 90 91,lo 93 92,fa 94 1 6,lo 95 94,le 96 95,mv 97 13,oZ 98 (.build [(.int .i64 0),(.int .i64 0)] [(0,1,tZ 96),(1,1,tZ 97)]),⟨(some 99),.Dq 2 1 [(.int .i64 0),(.int .i64 0)] [(0,tZ 98)],none,[4,5]⟩,oZ 100 (.append 2 16 [(.int .i64 0),(.int .i64 0)] (tZ 93) (tZ 99)),ix 101 1 88 89,so 1 101 100])
 (sr [fa 102 1 6,lo 103 102,mv 104 9,mv 105 12,oZ 106 (.lookup .int (.int .i64 0) false (tZ 104) (tZ 105)),oZ 107 (.build [(.int .i64 0),(.int .i64 0),(.int .i64 0),(.int .i64 0),(.int .i64 0),(.bool false)] [(0,1,kZ 2),(3,1,tZ 106)]),oZ 108 (.Dq 6 1 [(.int .i64 0),(.int .i64 0),(.int .i64 0),(.int .i64 0),(.int .i64 0),(.bool false)] [(0,tZ 107)]),oZ 109 (.append 6 48 [(.int .i64 0),(.int .i64 0),(.int .i64 0),(.int .i64 0),(.int .i64 0),(.bool false)] (tZ 103) (tZ 108)),fa 110 1 6,so 1 110 109]
 (rf [mv 111 11,mv 112 13,Iq 113 112 2,Vo 114 113 4,mv 115 13,aS 116 114 115,aD 117 111 116,mv 11 117])))))))
 (.seq (sr [mv 118 0,nc 119 118,fa 120 1 119,lo 121 120,mv 122 11,ix 123 1 121 122,lo 124 123,mv 11 124]
 (sr [mv 125 11,PA 126 125 0]
 (.cond (tZ 126) (.exit 0)
 .skip)))
 (sr [mv 127 11,cLk 128 127 0]
 (.cond (tZ 128) (sr [oZ 129 (.build [(.int .i64 0),.Aj] []),so 2 4 129,Gw 5]
 .ret)
 .skip))))))))
 (.seq (sr [mv 130 10,sG 131 130 0]
 (.cond (tZ 131) (sr [oZ 132 (.build [(.int .i64 0),.Aj] []),so 2 4 132,Gw 5]
 .ret)
 .skip))
 (.seq (sr [mv 133 8,le 134 133,mk 135 0]
 (.block 2 (.loop (sr [cL 136 135 134]
 (.seq (.cond (tZ 136) .skip
 (.exit 2))
 (.seq (.block 3 (sr [mv 137 135,ix 138 1 133 135,lo 139 138,mv 14 137,mv 15 139]
 (sr [mv 140 0,nc 141 140,fa 142 2 141,lo 143 142,mv 144 14,ix 145 6 143 144,lw 146 6 145,oZ 16 (.alloc [(.int .i64 0),(.int .i64 0),(.int .i64 0),(.int .i64 0),(.bool false),(.bool false)]),so 6 16 146]
 (.seq (.region true [mv 147 15,oZ 148 (.Dk 2 (tZ 147) (kZ 0)),lw 149 2 148,mv 150 15,oZ 151 (.Dk 2 (tZ 150) (kZ 1)),lw 152 2 151,⟨(some 17),.alloc [(.int .i64 0),(.int .i64 0)],none,[1,2,4,5]⟩,⟨(some 18),.alloc [(.int .i64 0),(.int .i64 0)],none,[1,2,4,5,6]⟩,⟨none,.store 2 (tZ 17) (tZ 149),none,[4,5]⟩,so 2 18 152])
 (.seq (sr [fa 153 1 17,lo 154 153,Vo 155 154 2,PA 156 155 0,fa 157 4 16,lo 158 157,oZ 159 (.bin .neq .bool (tZ 156) (tZ 158))]
 (.cond (tZ 159) (rf [lw 160 2 18,lw 161 2 17,so 2 17 160,so 2 18 161])
 .skip))
 (sr [mk 19 (-1)]
 (.seq (sr [fa 162 1 18,lo 163 162,fa 164 1 17,lo 165 164,Iq 166 165 3,Vo 167 166 4,cE 168 163 167]
 (.cond (tZ 168) (rf [mk 19 1])
 .skip))
 (sr [mv 169 15,le 170 169,mk 171 0]
 (.block 4 (.loop (sr [cL 172 171 170]
 (.seq (.cond (tZ 172) .skip
 (.exit 4))
 (.seq (.block 5 (sr [ix 173 2 169 171,lw 174 2 173,oZ 21 (.alloc [(.int .i64 0),(.int .i64 0)]),so 2 21 174]
 (sr [fa 175 1 6,lo 176 175,fa 177 0 21,lo 178 177,ix 179 6 176 178,mv 22 179]
 (.region true [mv 180 22,mv 181 22,mv 182 19,lw 183 2 21,lw 184 2 17,oZ 185 (.bin .eql (.flat [.int,.int]) (tZ 183) (tZ 184)),fa 186 5 16,lo 187 186,oZ 188 (.bin .neq .bool (tZ 185) (tZ 187)),nc 189 180,fa 190 4 189,⟨none,.store 1 (tZ 190) (tZ 182),none,[3,4,7]⟩,nc 191 181,fa 192 5 191,so 1 192 188]))))
 (rf [Iq 193 171 1,mv 171 193]))))))))))))))
 (rf [Iq 194 135 1,mv 135 194])))))))
 (.seq (.region true [lw 195 2 6,lw 196 2 6,⟨(some 197),.call (.fn 51) [tZ 196],none,[0]⟩,PA 198 197 0,so 2 4 195,mv 5 198])
 .ret)))))))))))⟩
theorem Zc:Bk prog Tryz.f28=some SP:=by kernel_rfl
theorem uP:GD 28 SP:=gG Tryz.func28 Zc (by kernel_rfl)
def Yk:AD:=by
 have h:=rQ Tryz.f46
 conv at h=>rhs; reduce
 dsimp at h
 exact oR h
theorem uQ:GD 46 Yk:=gG Tryz.func46 (by kernel_rfl) (by kernel_rfl)
def Yl:AD:=by
 have h:=rQ Tryz.f47
 conv at h=>rhs; reduce
 dsimp at h
 exact oR h
theorem uR:GD 47 Yl:=gG Tryz.func47 (by kernel_rfl) (by kernel_rfl)
def Ym:AD:=by
 have h:=rQ Tryz.f48
 conv at h=>rhs; reduce
 dsimp at h
 exact oR h
theorem uS:GD 48 Ym:=gG Tryz.func48 (by kernel_rfl) (by kernel_rfl)
def Yn:AD:=by
 have h:=rQ Tryz.f49
 conv at h=>rhs; reduce
 dsimp at h
 exact oR h
theorem uT:GD 49 Yn:=gG Tryz.func49 (by kernel_rfl) (by kernel_rfl)
def Yo:AD:=by
 have h:=rQ Tryz.f50
 conv at h=>rhs; reduce
 dsimp at h
 exact oR h
theorem uU:GD 50 Yo:=gG Tryz.func50 (by kernel_rfl) (by kernel_rfl)
def Yp:AD:=by
 have h:=rQ Tryz.f44
 conv at h=>rhs; reduce
 exact oR h
theorem uV:GD 44 Yp:=gG Tryz.func44 (by kernel_rfl) (by kernel_rfl)
def SQ:AD:=by
 have h:=rQ Tryz.f65
 conv at h=>rhs; reduce
 dsimp at h
 exact oR h
theorem Th:Bk prog Tryz.f65=some SQ:=by kernel_rfl
theorem uW:GD 65 SQ:=gG Tryz.func65 Th (by kernel_rfl)
def SR:AD:=by
 have h:=rQ Tryz.f66
 conv at h=>rhs; reduce
 dsimp at h
 exact oR h
theorem Ti:Bk prog Tryz.f66=some SR:=by kernel_rfl
theorem uX:GD 66 SR:=gG Tryz.func66 Ti (by kernel_rfl)
def SS:AD:=by
 have h:=rQ Tryz.f68
 conv at h=>rhs; reduce
 dsimp at h
 exact oR h
theorem LW:Bk prog Tryz.f68=some SS:=by kernel_rfl
theorem uY:GD 68 SS:=gG Tryz.func68 LW (by kernel_rfl)
def SV:AD:=by
 have h:=rQ Tryz.f69
 conv at h=>rhs; reduce
 dsimp at h
 exact oR h
theorem Zd:Bk prog Tryz.f69=some SV:=by kernel_rfl
theorem uZ:GD 69 SV:=gG Tryz.func69 Zd (by kernel_rfl)
def SX:AD:=by
 have h:=rQ Tryz.f70
 conv at h=>rhs; reduce
 exact oR h
theorem Ze:Bk prog Tryz.f70=some SX:=by kernel_rfl
theorem vA:GD 70 SX:=gG Tryz.func70 Ze (by kernel_rfl)
def SY:AD:=by
 have h:=rQ Tryz.f71
 conv at h=>rhs; reduce
 dsimp at h
 exact oR h
theorem Zf:Bk prog Tryz.f71=some SY:=by kernel_rfl
theorem vB:GD 71 SY:=gG Tryz.func71 Zf (by kernel_rfl)
def Yq:AD:=by
 have h:=rQ Tryz.f129
 conv at h=>rhs; reduce
 dsimp at h
 exact oR h
theorem vC:GD 129 Yq:=gG Tryz.func129 (by kernel_rfl) (by kernel_rfl)
def Yr:AD:=by
 have h:=rQ Tryz.f130
 conv at h=>rhs; reduce
 dsimp at h
 exact oR h
theorem vD:GD 130 Yr:=gG Tryz.func130 (by kernel_rfl) (by kernel_rfl)
def SZ:AD:=by
 have h:=rQ Tryz.f36
 conv at h=>rhs; reduce
 dsimp at h
 exact oR h
theorem Tj:Bk prog Tryz.f36=some SZ:=by kernel_rfl
theorem vE:GD 36 SZ:=gG Tryz.func36 Tj (by kernel_rfl)
def T1:AD:=⟨26,[(4,none)],(sr [Gw 4]
 (.seq (sr [mv 6 0,le 7 6,mv 8 1,le 9 8,cN 10 7 9]
 (.cond (tZ 10) (sr [Gw 4]
 .ret)
 .skip))
 (.seq (sr [mv 11 0,le 12 11,mk 13 0]
 (.block 0 (.loop (sr [cL 14 13 12]
 (.seq (.cond (tZ 14) .skip
 (.exit 0))
 (.seq (.block 1 (sr [mv 15 13,mv 5 15]
 (.seq (.region true [mv 16 0,mv 17 5,ix 18 6 16 17,lw 19 6 18,mv 20 1,mv 21 5,ix 22 6 20 21,lw 23 6 22,oZ 24 (.bin .neq (.flat [.int,.int,.int,.int,.int,.bool]) (tZ 19) (tZ 23))])
 (.cond (tZ 24) (sr [Gw 4]
 .ret)
 .skip))))
 (rf [Iq 25 13 1,mv 13 25])))))))
 (sr [xT 4]
 .ret))))⟩
theorem Zg:Bk prog Tryz.f37=some T1:=by kernel_rfl
theorem vF:GD 37 T1:=gG Tryz.func37 Zg (by kernel_rfl)
def Pw:AD:=by
 have h:=rQ Tryz.f80
 conv at h=>rhs; reduce
 dsimp at h
 exact oR h
theorem Zh:Bk prog Tryz.f80=some Pw:=by kernel_rfl
theorem vG:GD 80 Pw:=gG Tryz.func80 Zh (by kernel_rfl)
def Yu:AD:=by
 have h:=rQ Tryz.f73
 conv at h=>rhs; reduce
 dsimp at h
 exact oR h
theorem vH:GD 73 Yu:=gG Tryz.func73 (by kernel_rfl) (by kernel_rfl)
def Yv:AD:=by
 have h:=rQ Tryz.f74
 conv at h=>rhs; reduce
 dsimp at h
 exact oR h
theorem vI:GD 74 Yv:=gG Tryz.func74 (by kernel_rfl) (by kernel_rfl)
def T3:AD:=by
 have h:=rQ Tryz.f53
 conv at h=>rhs; reduce
 exact oR h
theorem Zi:Bk prog Tryz.f53=some T3:=by kernel_rfl
theorem vJ:GD 53 T3:=gG Tryz.func53 Zi (by kernel_rfl)
def T4:AD:=by
 have h:=rQ Tryz.f54
 conv at h=>rhs; reduce
 dsimp at h
 exact oR h
theorem Tk:Bk prog Tryz.f54=some T4:=by kernel_rfl
theorem vK:GD 54 T4:=gG Tryz.func54 Tk (by kernel_rfl)
def Yw:AD:=by
 have h:=rQ Tryz.f32
 conv at h=>rhs; reduce
 dsimp at h
 exact oR h
theorem vL:GD 32 Yw:=gG Tryz.func32 (by kernel_rfl) (by kernel_rfl)
def Yx:AD:=by
 have h:=rQ Tryz.f79
 conv at h=>rhs; reduce
 dsimp at h
 exact oR h
theorem vM:GD 79 Yx:=gG Tryz.func79 (by kernel_rfl) (by kernel_rfl)
def Yy:AD:=by
 have h:=rQ Tryz.f81
 conv at h=>rhs; reduce
 dsimp at h
 exact oR h
theorem vN:GD 81 Yy:=gG Tryz.func81 (by kernel_rfl) (by kernel_rfl)
def Yz:AD:=⟨37,[(4,none)],(sr [bo 2 0,bo 3 1,Gw 4]
 (.seq (sr [mk 5 0]
 (.block 0 (.loop (.seq (sr [mv 6 5,fa 7 1 2,lo 8 7,le 9 8,cL 10 6 9]
 (.cond (tZ 10) .skip
 (.exit 0)))
 (.seq (.block 1 (.seq (.region true [fa 13 1 2,lo 14 13,mv 15 5,ix 16 6 14 15,lw 17 6 16,fa 18 1 3,lo 19 18,mv 20 5,ix 21 6 19 20,lw 22 6 21,oZ 23 (.bin .neq (.flat [.int,.int,.int,.int,.int,.bool]) (tZ 17) (tZ 22))])
 (.cond (tZ 23) (.seq (.region true [fa 24 1 2,lo 25 24,mv 26 5,ix 27 6 25 26,lw 28 6 27,Td 29 121 28,fa 30 1 3,⟨(some 31),.load none (tZ 30),none,[5]⟩,mv 32 5,⟨(some 33),.Dk 6 (tZ 31) (tZ 32),none,[5]⟩,⟨(some 34),.load (some 6) (tZ 33),none,[5]⟩,Td 35 121 34,ca2 36 120 29 35,mv 4 36])
 .ret)
 .skip)))
 (rf [mv 11 5,Iq 12 11 1,mv 5 12]))))))
 (sr [Gw 4]
 .ret)))⟩
theorem vO:GD 82 Yz:=gG Tryz.func82 (by kernel_rfl) (by kernel_rfl)
def YA:AD:=by
 have h:=rQ Tryz.f83
 conv at h=>rhs; reduce
 dsimp at h
 exact oR h
theorem vP:GD 83 YA:=gG Tryz.func83 (by kernel_rfl) (by kernel_rfl)
def YB:AD:=by
 have h:=rQ Tryz.f84
 conv at h=>rhs; reduce
 dsimp at h
 exact oR h
theorem vQ:GD 84 YB:=gG Tryz.func84 (by kernel_rfl) (by kernel_rfl)
def YD:AD:=by
 have h:=rQ Tryz.f85
 conv at h=>rhs; reduce
 dsimp at h
 exact oR h
theorem vR:GD 85 YD:=gG Tryz.func85 (by kernel_rfl) (by kernel_rfl)
def YE:AD:=by
 have h:=rQ Tryz.f86
 conv at h=>rhs; reduce
 dsimp at h
 exact oR h
theorem vS:GD 86 YE:=gG Tryz.func86 (by kernel_rfl) (by kernel_rfl)
def YF:AD:=by
 have h:=rQ Tryz.f87
 conv at h=>rhs; reduce
 dsimp at h
 exact oR h
theorem vT:GD 87 YF:=gG Tryz.func87 (by kernel_rfl) (by kernel_rfl)
def YG:AD:=by
 have h:=rQ Tryz.f88
 conv at h=>rhs; reduce
 dsimp at h
 exact oR h
theorem vU:GD 88 YG:=gG Tryz.func88 (by kernel_rfl) (by kernel_rfl)
def YH:AD:=by
 have h:=rQ Tryz.f89
 conv at h=>rhs; reduce
 dsimp at h
 exact oR h
theorem vV:GD 89 YH:=gG Tryz.func89 (by kernel_rfl) (by kernel_rfl)
def YI:AD:=by
 have h:=rQ Tryz.f90
 conv at h=>rhs; reduce
 exact oR h
theorem vW:GD 90 YI:=gG Tryz.func90 (by kernel_rfl) (by kernel_rfl)
def YJ:AD:=by
 have h:=rQ Tryz.f91
 conv at h=>rhs; reduce
 dsimp at h
 exact oR h
theorem vX:GD 91 YJ:=gG Tryz.func91 (by kernel_rfl) (by kernel_rfl)
def YK:AD:=by
 have h:=rQ Tryz.f78
 conv at h=>rhs; reduce
 dsimp at h
 exact oR h
theorem vY:GD 78 YK:=gG Tryz.func78 (by kernel_rfl) (by kernel_rfl)
def YL:AD:=by
 have h:=rQ Tryz.f101
 conv at h=>rhs; reduce
 dsimp at h
 exact oR h
theorem vZ:GD 101 YL:=gG Tryz.func101 (by kernel_rfl) (by kernel_rfl)
def YM:AD:=by
 have h:=rQ Tryz.f102
 conv at h=>rhs; reduce
 dsimp at h
 exact oR h
theorem wA:GD 102 YM:=gG Tryz.func102 (by kernel_rfl) (by kernel_rfl)
def T5:AD:=by
 have h:=rQ Tryz.f103
 conv at h=>rhs; reduce
 dsimp at h
 exact oR h
theorem Zj:Bk prog Tryz.f103=some T5:=by kernel_rfl
theorem wB:GD 103 T5:=gG Tryz.func103 Zj (by kernel_rfl)
def T6:AD:=by
 have h:=rQ Tryz.f104
 conv at h=>rhs; reduce
 dsimp at h
 exact oR h
theorem Zk:Bk prog Tryz.f104=some T6:=by kernel_rfl
theorem wC:GD 104 T6:=gG Tryz.func104 Zk (by kernel_rfl)
def T7:AD:=by
 have h:=rQ Tryz.f105
 conv at h=>rhs; reduce
 dsimp at h
 exact oR h
theorem Zl:Bk prog Tryz.f105=some T7:=by kernel_rfl
theorem wD:GD 105 T7:=gG Tryz.func105 Zl (by kernel_rfl)
def T8:AD:=by
 have h:=rQ Tryz.f106
 conv at h=>rhs; reduce
 dsimp at h
 exact oR h
theorem Zm:Bk prog Tryz.f106=some T8:=by kernel_rfl
theorem wE:GD 106 T8:=gG Tryz.func106 Zm (by kernel_rfl)
end
section
set_option maxRecDepth 100000
set_option maxHeartbeats 400000
def Lv:AD:=by
 have h:=rQ Tryz.f107
 conv at h=>rhs; reduce
 dsimp at h
 exact oR h
theorem Zy3:Bk prog Tryz.f107=some Lv:=by kernel_rfl
theorem Yag:GD 107 Lv:=gG Tryz.func107 Zy3 (by kernel_rfl)
def Lw:AD:=by
 have h:=rQ Tryz.f108
 conv at h=>rhs; reduce
 dsimp at h
 exact oR h
theorem Zxu:Bk prog Tryz.f108=some Lw:=by kernel_rfl
theorem Z9i:GD 108 Lw:=gG Tryz.func108 Zxu (by kernel_rfl)
def Lx:AD:=by
 have h:=rQ Tryz.f109
 conv at h=>rhs; reduce
 dsimp at h
 exact oR h
theorem fC:Bk prog Tryz.f109=some Lx:=by kernel_rfl
theorem Yem:GD 109 Lx:=gG Tryz.func109 fC (by kernel_rfl)
def Ji:AD:=by
 have h:=rQ Tryz.f110
 conv at h=>rhs; reduce
 dsimp at h
 exact oR h
theorem zp:Bk prog Tryz.f110=some Ji:=by kernel_rfl
theorem Ye1:GD 110 Ji:=gG Tryz.func110 zp (by kernel_rfl)
def Ly:AD:=by
 have h:=rQ Tryz.f111
 conv at h=>rhs; reduce
 dsimp at h
 exact oR h
theorem Zy7:Bk prog Tryz.f111=some Ly:=by kernel_rfl
theorem Z9j:GD 111 Ly:=gG Tryz.func111 Zy7 (by kernel_rfl)
def Lz:AD:=by
 have h:=rQ Tryz.f174
 conv at h=>rhs; reduce
 dsimp at h
 exact oR h
theorem qi:Bk prog Tryz.f174=some Lz:=by kernel_rfl
theorem Yk8:GD 174 Lz:=gG Tryz.func174 qi (by kernel_rfl)
def LA:AD:=by
 have h:=rQ Tryz.f72
 conv at h=>rhs; reduce
 dsimp at h
 exact oR h
theorem oQ:Bk prog Tryz.f72=some LA:=by kernel_rfl
theorem Z9c:GD 72 LA:=gG Tryz.func72 oQ (by kernel_rfl)
def QT:AD:=by
 have h:=rQ Tryz.f115
 conv at h=>rhs; reduce
 dsimp at h
 exact oR h
theorem Yiz:GD 115 QT:=gG Tryz.func115 (by kernel_rfl) (by kernel_rfl)
def QU:AD:=by
 have h:=rQ Tryz.f116
 conv at h=>rhs; reduce
 dsimp at h
 exact oR h
theorem Ybd:GD 116 QU:=gG Tryz.func116 (by kernel_rfl) (by kernel_rfl)
def QV:AD:=by
 have h:=rQ Tryz.f58
 conv at h=>rhs; reduce
 dsimp at h
 exact oR h
theorem Z8r:GD 58 QV:=gG Tryz.func58 (by kernel_rfl) (by kernel_rfl)
def QW:AD:=by
 have h:=rQ Tryz.f119
 conv at h=>rhs; reduce
 dsimp at h
 exact oR h
theorem Ya5:GD 119 QW:=gG Tryz.func119 (by kernel_rfl) (by kernel_rfl)
def QX:AD:=by
 have h:=rQ Tryz.f120
 conv at h=>rhs; reduce
 dsimp at h
 exact oR h
theorem Yk9:GD 120 QX:=gG Tryz.func120 (by kernel_rfl) (by kernel_rfl)
def QY:AD:=by
 have h:=rQ Tryz.f121
 conv at h=>rhs; reduce
 dsimp at h
 exact oR h
theorem Yf8:GD 121 QY:=gG Tryz.func121 (by kernel_rfl) (by kernel_rfl)
def QZ:AD:=by
 have h:=rQ Tryz.f122
 conv at h=>rhs; reduce
 dsimp at h
 exact oR h
theorem Yg5:GD 122 QZ:=gG Tryz.func122 (by kernel_rfl) (by kernel_rfl)
def Ra:AD:=by
 have h:=rQ Tryz.f123
 conv at h=>rhs; reduce
 dsimp at h
 exact oR h
theorem Yfw:GD 123 Ra:=gG Tryz.func123 (by kernel_rfl) (by kernel_rfl)
def Rb:AD:=by
 have h:=rQ Tryz.f124
 conv at h=>rhs; reduce
 dsimp at h
 exact oR h
theorem Ylg:GD 124 Rb:=gG Tryz.func124 (by kernel_rfl) (by kernel_rfl)
def Rc:AD:=by
 have h:=rQ Tryz.f125
 conv at h=>rhs; reduce
 dsimp at h
 exact oR h
theorem Ydh:GD 125 Rc:=gG Tryz.func125 (by kernel_rfl) (by kernel_rfl)
def Rf:AD:=by
 have h:=rQ Tryz.f128
 conv at h=>rhs; reduce
 dsimp at h
 exact oR h
theorem Yeg:GD 128 Rf:=gG Tryz.func128 (by kernel_rfl) (by kernel_rfl)
def Rg:AD:=by
 have h:=rQ Tryz.f134
 conv at h=>rhs; reduce
 dsimp at h
 exact oR h
theorem Z6s:GD 134 Rg:=gG Tryz.func134 (by kernel_rfl) (by kernel_rfl)
def Rh:AD:=by
 have h:=rQ Tryz.f135
 conv at h=>rhs; reduce
 dsimp at h
 exact oR h
theorem Yl8:GD 135 Rh:=gG Tryz.func135 (by kernel_rfl) (by kernel_rfl)
def LB:AD:=by
 have h:=rQ Tryz.f140
 conv at h=>rhs; reduce
 exact oR h
theorem tc:Bk prog Tryz.f140=some LB:=by kernel_rfl
theorem Ykc:GD 140 LB:=gG Tryz.func140 tc (by kernel_rfl)
def LC:AD:=by
 have h:=rQ Tryz.f141
 conv at h=>rhs; reduce
 dsimp at h
 exact oR h
theorem Zw0:Bk prog Tryz.f141=some LC:=by kernel_rfl
theorem Yma:GD 141 LC:=gG Tryz.func141 Zw0 (by kernel_rfl)
def LD:AD:=by
 have h:=rQ Tryz.f142
 conv at h=>rhs; reduce
 dsimp at h
 exact oR h
theorem Zwi:Bk prog Tryz.f142=some LD:=by kernel_rfl
theorem Z7x:GD 142 LD:=gG Tryz.func142 Zwi (by kernel_rfl)
def LF:AD:=by
 have h:=rQ Tryz.f143
 conv at h=>rhs; reduce
 dsimp at h
 exact oR h
theorem Z5c:Bk prog Tryz.f143=some LF:=by kernel_rfl
theorem Ydz:GD 143 LF:=gG Tryz.func143 Z5c (by kernel_rfl)
def LG:AD:=by
 have h:=rQ Tryz.f144
 conv at h=>rhs; reduce
 dsimp at h
 exact oR h
theorem tv:Bk prog Tryz.f144=some LG:=by kernel_rfl
theorem Yf4:GD 144 LG:=gG Tryz.func144 tv (by kernel_rfl)
def LH:AD:=by
 have h:=rQ Tryz.f189
 conv at h=>rhs; reduce
 dsimp at h
 exact oR h
theorem yt:Bk prog Tryz.f189=some LH:=by kernel_rfl
theorem Ycm:GD 189 LH:=gG Tryz.func189 yt (by kernel_rfl)
def LI:AD:=by
 have h:=rQ Tryz.f190
 conv at h=>rhs; reduce
 dsimp at h
 exact oR h
theorem uo:Bk prog Tryz.f190=some LI:=by kernel_rfl
theorem Ylw:GD 190 LI:=gG Tryz.func190 uo (by kernel_rfl)
def LJ:AD:=by
 have h:=rQ Tryz.f112
 conv at h=>rhs; reduce
 dsimp at h
 exact oR h
theorem mG:Bk prog Tryz.f112=some LJ:=by kernel_rfl
theorem Yds:GD 112 LJ:=gG Tryz.func112 mG (by kernel_rfl)
def LK:AD:=by
 have h:=rQ Tryz.f113
 conv at h=>rhs; reduce
 dsimp at h
 exact oR h
theorem yW:Bk prog Tryz.f113=some LK:=by kernel_rfl
theorem Yb1:GD 113 LK:=gG Tryz.func113 yW (by kernel_rfl)
def LL:AD:=⟨30,[(4,none)],(sr [Gw 4]
 (.seq (sr [mv 6 0,le 7 6,mk 8 0]
 (.block 0 (.loop (sr [cL 9 8 7]
 (.seq (.cond (tZ 9) .skip
 (.exit 0))
 (.seq (.block 1 (sr [mv 10 8,mv 5 10]
 (.seq (.seq (.region true [mv 11 0,mv 12 5,ix 13 6 11 12,lw 14 6 13,mv 15 1,mv 16 5,ix 17 6 15 16,lw 18 6 17,oZ 19 (.bin .eql (.flat [.int,.int,.int,.int,.int,.bool]) (tZ 14) (tZ 18))])
 (.cond (tZ 19) (.exit 1)
 .skip))
 (.seq (.region true [mv 20 0,mv 21 5,ix 22 6 20 21,lw 23 6 22,mv 24 1,mv 25 5,ix 26 6 24 25,lw 27 6 26,ca2 28 146 23 27,mv 4 28])
 .ret))))
 (rf [Iq 29 8 1,mv 8 29])))))))
 (sr [Gw 4]
 .ret)))⟩
theorem Zw2:Bk prog Tryz.f114=some LL:=by kernel_rfl
theorem Z67:GD 114 LL:=gG Tryz.func114 Zw2 (by kernel_rfl)
def Ri:AD:=by
 have h:=rQ Tryz.f147
 conv at h=>rhs; reduce
 dsimp at h
 exact oR h
theorem Z9z:GD 147 Ri:=gG Tryz.func147 (by kernel_rfl) (by kernel_rfl)
def Rj:AD:=by
 have h:=rQ Tryz.f152
 conv at h=>rhs; reduce
 dsimp at h
 exact oR h
theorem Yj0:GD 152 Rj:=gG Tryz.func152 (by kernel_rfl) (by kernel_rfl)
def Rm:AD:=⟨19,[(4,none)],(sr [bo 3 1,mk 4 0]
 (.seq (sr [mv 6 0,le 7 6,mk 8 0]
 (.block 0 (.loop (sr [cL 9 8 7]
 (.seq (.cond (tZ 9) .skip
 (.exit 0))
 (.seq (.block 1 (sr [mv 10 8,mv 5 10]
 (.seq (.region true [lw 11 3 3,mv 12 0,mv 13 5,ix 14 3 12 13,lw 15 3 14,oZ 16 (.bin .eql (.flat [.int,.bool,.int]) (tZ 11) (tZ 15))])
 (.cond (tZ 16) (sr [mv 17 5,mv 4 17]
 .ret)
 .skip))))
 (rf [Iq 18 8 1,mv 8 18])))))))
 (sr [mk 4 (-1)]
 .ret)))⟩
theorem Ykm:GD 155 Rm:=gG Tryz.func155 (by kernel_rfl) (by kernel_rfl)
def Rn:AD:=by
 have h:=rQ Tryz.f156
 conv at h=>rhs; reduce
 dsimp at h
 exact oR h
theorem Z8l:GD 156 Rn:=gG Tryz.func156 (by kernel_rfl) (by kernel_rfl)
def Rp:AD:=by
 have h:=rQ Tryz.f158
 conv at h=>rhs; reduce
 dsimp at h
 exact oR h
theorem Yfn:GD 158 Rp:=gG Tryz.func158 (by kernel_rfl) (by kernel_rfl)
def Rq:AD:=by
 have h:=rQ Tryz.f159
 conv at h=>rhs; reduce
 dsimp at h
 exact oR h
theorem Ye8:GD 159 Rq:=gG Tryz.func159 (by kernel_rfl) (by kernel_rfl)
def Rr:AD:=by
 have h:=rQ Tryz.f160
 conv at h=>rhs; reduce
 dsimp at h
 exact oR h
theorem Yjw:GD 160 Rr:=gG Tryz.func160 (by kernel_rfl) (by kernel_rfl)
def Rs:AD:=by
 have h:=rQ Tryz.f169
 conv at h=>rhs; reduce
 dsimp at h
 exact oR h
theorem Z74:GD 169 Rs:=gG Tryz.func169 (by kernel_rfl) (by kernel_rfl)
def LM:AD:=by
 have h:=rQ Tryz.f171
 conv at h=>rhs; reduce
 dsimp at h
 exact oR h
theorem Zye:Bk prog Tryz.f171=some LM:=by kernel_rfl
theorem Yae:GD 171 LM:=gG Tryz.func171 Zye (by kernel_rfl)
def LN:AD:=by
 have h:=rQ Tryz.f172
 conv at h=>rhs; reduce
 dsimp at h
 exact oR h
theorem Zv8:Bk prog Tryz.f172=some LN:=by kernel_rfl
theorem Yd8:GD 172 LN:=gG Tryz.func172 Zv8 (by kernel_rfl)
def Jj:AD:=by
 have h:=rQ Tryz.f173
 conv at h=>rhs; reduce
 dsimp at h
 exact oR h
theorem Zxg:Bk prog Tryz.f173=some Jj:=by kernel_rfl
theorem Ycv:GD 173 Jj:=gG Tryz.func173 Zxg (by kernel_rfl)
def LO:AD:=by
 have h:=rQ Tryz.f145
 conv at h=>rhs; reduce
 dsimp at h
 exact oR h
theorem qA:Bk prog Tryz.f145=some LO:=by kernel_rfl
theorem Yfx:GD 145 LO:=gG Tryz.func145 qA (by kernel_rfl)
def LP:AD:=by
 have h:=rQ Tryz.f146
 conv at h=>rhs; reduce
 exact oR h
theorem Zzl:Bk prog Tryz.f146=some LP:=by kernel_rfl
theorem Yij:GD 146 LP:=gG Tryz.func146 Zzl (by kernel_rfl)
def Rt:AD:=by
 have h:=rQ Tryz.f180
 conv at h=>rhs; reduce
 dsimp at h
 exact oR h
theorem Yl3:GD 180 Rt:=gG Tryz.func180 (by kernel_rfl) (by kernel_rfl)
def LQ:AD:=by
 have h:=rQ Tryz.f188
 conv at h=>rhs; reduce
 dsimp at h
 exact oR h
theorem qn:Bk prog Tryz.f188=some LQ:=by kernel_rfl
theorem Yiq:GD 188 LQ:=gG Tryz.func188 qn (by kernel_rfl)
def Ru:AD:=by
 have h:=rQ Tryz.f193
 conv at h=>rhs; reduce
 dsimp at h
 exact oR h
theorem Yc2:GD 193 Ru:=gG Tryz.func193 (by kernel_rfl) (by kernel_rfl)
def Rv:AD:=by
 have h:=rQ Tryz.f195
 conv at h=>rhs; reduce
 dsimp at h
 exact oR h
theorem Yjo:GD 195 Rv:=gG Tryz.func195 (by kernel_rfl) (by kernel_rfl)
end
def LU:AD:=⟨26,[(4,none)],(sr [Gw 4]
 (.seq (sr [mv 6 0,le 7 6,mv 8 1,le 9 8,cN 10 7 9]
 (.cond (tZ 10) (sr [Gw 4]
 .ret)
 .skip))
 (.seq (sr [mk 5 0]
 (.block 0 (.loop (.seq (sr [mv 11 5,mv 12 0,le 13 12,cL 14 11 13]
 (.cond (tZ 14) .skip
 (.exit 0)))
 (.seq (.block 1 (.seq (.region true [mv 17 0,mv 18 5,ix 19 4 17 18,lw 20 4 19,mv 21 1,mv 22 5,ix 23 4 21 22,lw 24 4 23,oZ 25 (.bin .neq (.flat [.int,.int,.int,.bool]) (tZ 20) (tZ 24))])
 (.cond (tZ 25) (sr [Gw 4]
 .ret)
 .skip)))
 (rf [mv 15 5,Iq 16 15 1,mv 5 16]))))))
 (sr [xT 4]
 .ret))))⟩
theorem Z90:Bk prog Tryz.f39=some LU:=by kernel_rfl
end Go.Ad
