/- Part 11 of the proof: AeNe, Lf, Kf0, Kf1, Lo. -/
import Derived.Test.YtilmpmlkndfbjaaGreatDoorR10
set_option linter.all false
section
namespace Go.AE
open Go.RowKit
section
variable {P:Program} {dc:Bool} {n base i:Nat} {K:Env→SMem→Prop} {e:Env} {m:SMem}
theorem Zcy:U3 P dc n base [] i K e m=K e m:=propext Iff.rfl
theorem Zbm(d:Option Nat)(op:AOp)(un:List Nat)(r:List AOper):U3 P dc n base (⟨d,op,none,un⟩ :: r) i K e m=match op with
 | .call f b=>(match W8 n e f b with
  | some (g,args)=>(match dc with
   | false=>SC P g args m (base+i) fun v a=>U3 P dc n base r (i+1) K (Y3 e d v) a
   | true=>DC P g args (base+i) (xOf base i r.length) m fun v z=>U3 P dc n base r (i+1) K (Y3 e d v) (m.app (apD (base+i) z)))
  | none=>False)
 | op=>(match stepD (base+i) (evE n e) m.get op with
  | some (v,w)=>U3 P dc n base r (i+1) K (Y3 e d v) (m.app w)
  | none=>False):=by
 cases op<;>simp only[U3,U0,gdK]<;>rfl
theorem Zdo(d:Option Nat)(op:AOp)(g:Nat×Bool)(un:List Nat)(r:List AOper):U3 P dc n base (⟨d,op,some g,un⟩ :: r) i K e m=match U0 n e (some g)with
 | some true=>(match op with
  | .call f b=>(match W8 n e f b with
   | some (g,args)=>(match dc with
    | false=>SC P g args m (base+i) fun v a=>U3 P dc n base r (i+1) K (Y3 e d v) a
    | true=>DC P g args (base+i) (xOf base i r.length) m fun v z=>U3 P dc n base r (i+1) K (Y3 e d v) (m.app (apD (base+i) z)))
   | none=>False)
  | op=>(match stepD (base+i) (evE n e) m.get op with
   | some (v,w)=>U3 P dc n base r (i+1) K (Y3 e d v) (m.app w)
   | none=>False))
 | some false=>U3 P dc n base r (i+1) K (Y3 e d aundef) m
 | none=>False:=by
 cases op<;>simp only[U3,gdK]<;>rfl
theorem Zbx{keep:List Nat}{a:List (Nat×FT)}:J9 P keep n base [] i a K e m=K e m:=propext Iff.rfl
theorem Zbr{keep:List Nat}{a:List (Nat×FT)}(d:Option Nat)(op:AOp)(un:List Nat)(r:List AOper):J9 P keep n base (⟨d,op,none,un⟩ :: r) i a K e m=match op with
 | .call f b=>(match W8 n e f b with
  | some (g,args)=>DC P g args (base+i) (xOf base i r.length) m fun v z=>L8 a (.call (ftW (base+i) z) (xOf base i r.length) m.next) un∧J9 P keep n base r (i+1) (P5 keep i (.call (ftW (base+i) z) (xOf base i r.length) m.next) a) K (Y3 e d v) (m.app (apD (base+i) z))
  | none=>False)
 | op=>(match stepD (base+i) (evE n e) m.get op with
  | some (v,w)=>L8 a (.ops (V7 (base+i) (evE n e) op) (V8 (evE n e) op)) un∧J9 P keep n base r (i+1) (P5 keep i (.ops (V7 (base+i) (evE n e) op) (V8 (evE n e) op)) a) K (Y3 e d v) (m.app w)
  | none=>False):=by
 cases op<;>simp only[J9,U0]<;>rfl
theorem Zce{keep:List Nat}{a:List (Nat×FT)}(d:Option Nat)(op:AOp)(g:Nat×Bool)(un:List Nat)(r:List AOper):J9 P keep n base (⟨d,op,some g,un⟩ :: r) i a K e m=match U0 n e (some g)with
 | some true=>(match op with
  | .call f b=>(match W8 n e f b with
   | some (g,args)=>DC P g args (base+i) (xOf base i r.length) m fun v z=>L8 a (.call (ftW (base+i) z) (xOf base i r.length) m.next) un∧J9 P keep n base r (i+1) (P5 keep i (.call (ftW (base+i) z) (xOf base i r.length) m.next) a) K (Y3 e d v) (m.app (apD (base+i) z))
   | none=>False)
  | op=>(match stepD (base+i) (evE n e) m.get op with
   | some (v,w)=>L8 a (.ops (V7 (base+i) (evE n e) op) (V8 (evE n e) op)) un∧J9 P keep n base r (i+1) (P5 keep i (.ops (V7 (base+i) (evE n e) op) (V8 (evE n e) op)) a) K (Y3 e d v) (m.app w)
   | none=>False))
 | some false=>J9 P keep n base r (i+1) (P5 keep i (.ops [] []) a) K (Y3 e d aundef) m
 | none=>False:=by
 cases op<;>simp only[J9]<;>rfl
@[simp] theorem Ydf(id : Nat) : apD id none = [] := rfl
@[simp] theorem Yds(id : Nat)(b : ABlk) : apD id (some b) = [(id, some b)] := rfl
@[simp] theorem Yeg(id : Nat) : ftW id none = [] := rfl
@[simp] theorem Yd2(id : Nat)(b : ABlk) : ftW id (some b) = [id] := rfl
@[simp] theorem Ye0(m : SMem) : m.app [] = m := rfl
theorem Zbt:Zdl []=[]:=rfl
theorem Zdg(d:Option Nat)(op:AOp)(g:Option (Nat×Bool))(un:List Nat)(r:List AOper):Zdl (⟨d,op,g,un⟩ :: r)=un++Zdl r:=rfl
theorem Zdd(d:Nat)(v:AVal):Y3 e (some d) v=(d,v) :: e:=rfl
theorem Zd5(v:AVal):Y3 e none v=e:=rfl
theorem Zdy(j:Nat):evE n e (.tmp j)=if j<n then e.get j else aundef:=rfl
theorem Zdf(v:AVal):evE n e (.const v)=v:=rfl
theorem Zdi(f:FuncId):evE n e (.fn f)=.func (.func f) [] []:=rfl
def wtZ(w:Bool):AVal→Option Bool
 | .bool b=>some (b == w)
 | .tuple []=>some false
 | _=>none
theorem Zbj(d:Nat)(w:Bool):U0 n e (some (d,w))=wtZ w (evE n e (.tmp d)):=by
 simp only[U0]; unfold wtZ; rfl
theorem Zbv(w b:Bool):wtZ w (.bool b)=some (b == w):=rfl
theorem Zdw(w:Bool):wtZ w (.tuple [])=some false:=rfl
def vo:Option AVal→Option (AVal×List (Nat×Option ABlk))
 | some v=>some (v,[])
 | none=>none
theorem Zbe(v:AVal):vo (some v)=some (v,[]):=rfl
def wo(v:AVal):Option (List (Nat×Option ABlk))→Option (AVal×List (Nat×Option ABlk))
 | some d=>some (v,d)
 | none=>none
theorem Zbz(v:AVal)(d:List (Nat×Option ABlk)):wo v (some d)=some (v,d):=rfl
section
variable {id:Nat} {f:AOpd→AVal} {get:Nat→Option ABlk}
theorem Zbf(x:AOpd):stepD id f get (.mov x)=some (f x,[]):=rfl
def Zk6(a b:AVal):AVal→Option (AVal×List (Nat×Option ABlk))
 | .bool true=>some (a,[])
 | .bool false=>some (b,[])
 | _=>none
theorem Zde(a b:AVal):Zk6 a b (.bool true)=some (a,[]):=rfl
theorem Zbg(a b:AVal):Zk6 a b (.bool false)=some (b,[]):=rfl
theorem Zca(c a b:AOpd):stepD id f get (.pick c a b)=Zk6 (f a) (f b) (f c):=by
 simp only[stepD]; unfold Zk6; split<;>simp_all
def boxZ(id:Nat):Option (List AVal)→Option (AVal×List (Nat×Option ABlk))
 | some cs=>if cs.all AVal.one then some (.ptr id 0 0,[(id,some (.cells cs.length [cs]))])else none
 | none=>none
theorem Zbh(cs:List AVal):boxZ id (some cs)=if cs.all AVal.one then some (.ptr id 0 0,[(id,some (.cells cs.length [cs]))])else none:=rfl
theorem Zd2(x:AOpd):stepD id f get (.box x)=boxZ id (f x).cells:=by simp only[stepD]; unfold boxZ; rfl
theorem Zc5(z:List AVal):stepD id f get (.alloc z)=some (.ptr id 0 0,[(id,some (.cells z.length [z]))]):=rfl
def aggZ:Option (List AVal)→Option (AVal×List (Nat×Option ABlk))
 | some cs=>some (.agg cs,[])
 | none=>none
theorem Zc4(cs:List AVal):aggZ (some cs)=some (.agg cs,[]):=rfl
theorem Zdj(z:List AVal)(ps:List (Nat×Nat×AOpd)):stepD id f get (.build z ps)=aggZ (H5 z (ps.map fun p=>(p.1,p.2.1,f p.2.2))):=by simp only[stepD]; unfold aggZ; rfl
def Zpv(id k len:Nat):Option (List (List AVal))→Option (AVal×List (Nat×Option ABlk))
 | some els=>some (.sl id 0 len,[(id,some (.cells k els))])
 | none=>none
theorem Zcr(k len:Nat)(els:List (List AVal)):Zpv id k len (some els)=some (.sl id 0 len,[(id,some (.cells k els))]):=rfl
theorem Zcq(k len:Nat)(z:List AVal)(ps:List (Nat×AOpd)):stepD id f get (.mkSl k len z ps)=Zpv id k len (L4 k (List.replicate len z) (ps.map fun p=>(p.1,f p.2))):=by simp only[stepD]; unfold Zpv; rfl
theorem Zbu(n:Option Nat)(x:AOpd):stepD id f get (.load n x)=vo (T7 get n (f x)):=by simp only[stepD]; unfold vo; rfl
theorem Zb8(n:Nat)(a x:AOpd):stepD id f get (.store n a x)=wo aundef (Q7 get n (f a) (f x)):=by simp only[stepD]; unfold wo; rfl
def nilZ:AVal→Option (AVal×List (Nat×Option ABlk))
 | .ptr b i j=>some (.ptr b i j,[])
 | .iptr els i j=>some (.iptr els i j,[])
 | .func (.func f) a b=>some (.func (.func f) a b,[])
 | _=>none
theorem Zch(b i j:Nat):nilZ (.ptr b i j)=some (.ptr b i j,[]):=rfl
theorem Zby(els:List (List AVal))(i j:Nat):nilZ (.iptr els i j)=some (.iptr els i j,[]):=rfl
theorem Zd0(x:AOpd):stepD id f get (.nilChk x)=nilZ (f x):=by simp only[stepD]; unfold nilZ; split<;>simp_all
theorem Zbq(op:BinOp)(q:EqT)(x y:AOpd):stepD id f get (.bin op q x y)=vo (W7 op q (f x) (f y)):=by simp only[stepD]; unfold vo; rfl
theorem Zcg(op:UnOp)(x:AOpd):stepD id f get (.un op x)=vo (unA op (f x)):=by simp only[stepD]; unfold vo; rfl
theorem Zb5(fn:Fn)(a c:List AOpd):stepD id f get (.mkFunc fn a c)=some (.func fn (a.map f) (c.map f),[]):=rfl
theorem Zcn:stepD id f get .mkMap=some (.map id,[(id,some (.map [] 0))]):=rfl
theorem Zcl(off:Nat)(x:AOpd):stepD id f get (.fieldA off x)=vo (Q5 off (f x)):=by simp only[stepD]; unfold vo; rfl
theorem Zbp(off b i j:Nat):Q5 off (.ptr b i j)=some (.ptr b i (j+off)):=rfl
theorem Zck(off:Nat)(els:List (List AVal))(i j:Nat):Q5 off (.iptr els i j)=some (.iptr els i (j+off)):=rfl
def fldZ(off:Nat)(n:Option Nat):AVal→Option (AVal×List (Nat×Option ABlk))
 | .agg cs=>vo (Za7 cs off n)
 | _=>none
theorem Zb3(off:Nat)(n:Option Nat)(cs:List AVal):fldZ off n (.agg cs)=vo (Za7 cs off n):=rfl
theorem Zdc(off:Nat)(n:Option Nat)(x:AOpd):stepD id f get (.field off n x)=fldZ off n (f x):=by simp only[stepD]; unfold fldZ vo; rfl
def extZ(i:Nat):AVal→Option (AVal×List (Nat×Option ABlk))
 | .tuple vs=>vo vs[i]?
 | _=>none
theorem Zdh(i:Nat)(vs:List AVal):extZ i (.tuple vs)=vo vs[i]?:=rfl
theorem Zcu(x:AOpd)(i:Nat):stepD id f get (.ext x i)=extZ i (f x):=by simp only[stepD]; unfold extZ vo; rfl
def lenZ:Option Nat→Option (AVal×List (Nat×Option ABlk))
 | some n=>some (.int .i64 n,[])
 | none=>none
theorem Zdq(n:Nat):lenZ (some n)=some (.int .i64 n,[]):=rfl
theorem Zb0(x:AOpd):stepD id f get (.lenSl x)=lenZ (W2 (f x)):=by simp only[stepD]; unfold lenZ; rfl
theorem Zbs:W2 .nilSl=some 0:=rfl
theorem Zc2:W2 .emp=some 0:=rfl
theorem Zb4(b off len:Nat):W2 (.sl b off len)=some len:=rfl
theorem Zb7(els:List (List AVal)):W2 (.imm els)=some els.length:=rfl
def idxZ(get:Nat→Option ABlk)(k:Nat):AVal→Option Nat→Option (AVal×List (Nat×Option ABlk))
 | .sl b off len,some i=>match get b with
  | some (.cells k' _)=>if k'=k∧i<len then some (.ptr b (off+i) 0,[])else none
  | _=>none
 | .imm els,some i=>match els[i]? with
  | some row=>if row.length=k then some (.iptr els i 0,[])else none
  | none=>none
 | _,_=>none
theorem Za8(k b off len i:Nat):idxZ get k (.sl b off len) (some i)=match get b with
 | some (.cells a _)=>if a=k∧i<len then some (.ptr b (off+i) 0,[])else none
 | _=>none:=rfl
theorem Za3(k:Nat)(els:List (List AVal))(i:Nat):idxZ get k (.imm els) (some i)=match els[i]? with
 | some row=>if row.length=k then some (.iptr els i 0,[])else none
 | none=>none:=rfl
theorem Zdn(k:Nat)(x i:AOpd):stepD id f get (.idxA k x i)=idxZ get k (f x) (U5 (f i)):=by
 simp only[stepD]; unfold idxZ; rfl
theorem Zdr(k a:Nat)(z:List AVal)(x y:AOpd):stepD id f get (.makeSl k a z x y)=match U5 (f x),U5 (f y)with
 | some l,some c=>if l≤c∧c≤W6∧a≤W6 then some (.sl id 0 l,[(id,some (.cells k (List.replicate c z)))])else none
 | _,_=>none:=rfl
theorem Zd1(k a:Nat)(z:List AVal)(x y:AOpd):stepD id f get (.append k a z x y)=match I7 get k (f y)with
 | some b=>X5 id k a get (f x) b
 | none=>none:=rfl
theorem Zcp(x:AOpd):stepD id f get (.lenMap x)=match f x with
 | .nilMap=>some (.int .i64 0,[])
 | .map b=>match get b with
  | some (.map a _)=>some (.int .i64 a.length,[])
  | _=>none
 | _=>none:=rfl
theorem Zcd(c:KeyT)(z:AVal)(ok:Bool)(x i:AOpd):stepD id f get (.lookup c z ok x i)=match (match f x with
 | .nilMap=>some []
 | .map b=>match get b with
  | some (.map a _)=>some a
  | _=>none
 | _=>none)with
 | some a=>match D0 c (f i) a with
  | some r=>some (if ok then .tuple [match r with
   | some (_,v,_)=>v
   | none=>z,.bool r.isSome]else (match r with
   | some (_,v,_)=>v
   | none=>z),[])
  | none=>none
 | none=>none:=rfl
theorem Zb1(d:KeyT)(e k v:AOpd):stepD id f get (.mapUpd d e k v)=match f e with
 | .map b=>match get b with
  | some (.map c a)=>match D0 d (f k) c with
   | some (some (i,_,born))=>some (aundef,[(b,some (.map (c.set i (f k,f v,born)) a))])
   | some none=>some (aundef,[(b,some (.map (c++[(f k,f v,a)]) (a+1)))])
   | none=>none
  | _=>none
 | _=>none:=rfl
theorem Zkb(n k:Nat)(x i:AOpd):stepD id f get (.idxAA n k x i)=match U5 (f i)with
 | some i=>if i<n then vo (Q5 (i*k) (f x))else none
 | none=>none:=by
 simp only[stepD]; unfold vo; rfl
theorem Zc8(k:IntKind)(j:Int):U5 (.int k j)=if 0≤j then some j.toNat else none:=by simp only[U5]
end
end
@[congr] theorem Yes{P : Program}{keep b : List Nat}{n base a i g : Nat}{f c : List (Nat × FT)}{d : List AOper}{K : Env → SMem → Prop}{e e' : Env}{m j : SMem}(p : keep = b)(l : base = a)(hi : i = g)(o : f = c)(h : e = e')(k : m = j) : J9 P keep n base d i f K e m = J9 P b n a d g c K e' j := by rw [p, l, hi, o, h, k]
theorem Zb9{P:Program}{n n0:Nat}{Q:Exit→Env→SMem→Prop}{e:Env}{m:SMem}(c:AOpd)(a b:ACode):wpZ P n n0 (.cond c a b) Q e m=match evE n e c with
 | .bool true=>wpZ P n n0 a Q e m
 | .bool false=>wpZ P n n0 b Q e m
 | _=>False:=by
 rw[Zzr];unfold Zew;rfl
end Go.AE
end
section
namespace Go.Known
open Go Go.AE Go.Proofs
def af4:AFn:=⟨54,[(2,none)],(sr [bo 1 0,mk 2 0]
 (.seq (sr [fa 4 1 1,lo 5 4,le 6 5,cGk 7 6 400,mv 8 7,gZ 9 8 false (.load (some 2) (tZ 1)),gZ 10 8 false (.call (.fn 60) [tZ 9]),gZ 11 8 false (.bin .gtr .num (tZ 10) (kZ 200)),pk1 12 8 11]
 (.cond (tZ 12) (sr [mk 2 7]
 .ret)
 .skip))
 (.seq (sr [fa 13 0 1,lo 14 13,cLk 15 14 0,mv 16 15,gff 17 16 0 1,gfl 18 16 17,gZ 19 16 false (.bin .gtr .num (tZ 18) (kZ 40)),pk1 20 16 19]
 (.cond (tZ 20) (sr [mk 2 2]
 .ret)
 .skip))
 (.seq (sr [fa 21 1 1,lo 22 21,le 23 22,cEk 24 23 0]
 (.cond (tZ 24) (sr [mk 2 0]
 .ret)
 .skip))
 (sr [lw 25 2 1,ca1 26 61 25,mv 3 26]
 (.seq (.seq (.region true [fa 27 1 1,lo 28 27,oZ 29 (.idxA 6 (tZ 28) (kZ 0)),fa 30 0 29,lo 31 30,cNk 32 31 1,mv 33 32,gfm 34 33 3,gZ 35 33 false (.bin .rem .num (tZ 34) (kZ 2)),gZ 36 33 false (.bin .neq .num (tZ 35) (kZ 0)),pk1 37 33 36,mv 38 37,gZ 39 38 false (.load (some 2) (tZ 1)),gZ 40 38 false (.call (.fn 62) [tZ 39]),gZ 41 38 false (.un .not (tZ 40)),pk1 42 38 41,mv 43 42,gZ 44 43 false (.load (some 2) (tZ 1)),gZ 45 43 false (.call (.fn 63) [tZ 44]),gZ 46 43 false (.lenSl (tZ 45)),gfm 47 43 3,⟨(some 48),.load (some 2) (tZ 1),(some (43,false)),[18]⟩,gZ 49 43 false (.call (.fn 64) [tZ 48]),gZ 50 43 false (.bin .add .num (tZ 47) (tZ 49)),gZ 51 43 false (.bin .add .num (tZ 50) (kZ 2)),gZ 52 43 false (.bin .neq .num (tZ 46) (tZ 51)),pk1 53 43 52])
 (.cond (tZ 53) (sr [mk 2 3]
 .ret)
 .skip))
 (sr [mk 2 0]
 .ret)))))))⟩
theorem cf4:cFn Tryz.prog Tryz.f33=some af4:=by kernel_rfl
def af13:AFn:=⟨22,[(2,none)],(sr [bo 1 0,mk 2 0]
 (sr [mk 3 0]
 (.seq (sr [mk 4 0]
 (.block 0 (.loop (.seq (sr [mv 5 4,fa 6 1 1,lo 7 6,le 8 7,cL 9 5 8]
 (.cond (tZ 9) .skip
 (.exit 0)))
 (.seq (.block 1 (sr [fa 12 1 1,lo 13 12,mv 14 4,ix 15 6 13 14,fa 16 0 15,lo 17 16,cEk 18 17 2]
 (.cond (tZ 18) (rf [mv 19 3,aDk 20 19 1,mv 3 20])
 .skip)))
 (rf [mv 10 4,aDk 11 10 1,mv 4 11]))))))
 (sr [mv 21 3,mv 2 21]
 .ret))))⟩
theorem cf13:cFn Tryz.prog Tryz.f60=some af13:=by kernel_rfl
def af14:AFn:=⟨22,[(2,none)],(sr [bo 1 0,mk 2 0]
 (sr [mk 3 0]
 (.seq (sr [mk 4 0]
 (.block 0 (.loop (.seq (sr [mv 5 4,fa 6 1 1,lo 7 6,le 8 7,cL 9 5 8]
 (.cond (tZ 9) .skip
 (.exit 0)))
 (.seq (.block 1 (sr [fa 12 1 1,lo 13 12,mv 14 4,ix 15 6 13 14,fa 16 0 15,lo 17 16,cEk 18 17 1]
 (.cond (tZ 18) (rf [mv 19 3,aDk 20 19 1,mv 3 20])
 .skip)))
 (rf [mv 10 4,aDk 11 10 1,mv 4 11]))))))
 (sr [mv 21 3,mv 2 21]
 .ret))))⟩
theorem cf14:cFn Tryz.prog Tryz.f61=some af14:=by kernel_rfl
def af15:AFn:=⟨172,[(2,none)],(sr [bo 1 0,mfZ 2]
 (.seq (sr [mk 3 0]
 (.block 0 (.loop (.seq (sr [mv 9 3,fa 10 1 1,lo 11 10,le 12 11,cL 13 9 12]
 (.cond (tZ 13) .skip
 (.exit 0)))
 (.seq (.block 1 (sr [fa 16 1 1,lo 17 16,mv 18 3,ix 19 6 17 18,lw 20 6 19,oZ 4 (.alloc [(.int .i64 0),(.int .i64 0),(.int .i64 0),(.int .i64 0),(.int .i64 0),(.bool false)]),so 6 4 20]
 (sr [mk 5 0,mk 6 0]
 (.seq (sr [mk 7 0]
 (.block 2 (.loop (.seq (sr [mv 21 7,fa 22 1 1,lo 23 22,le 24 23,cL 25 21 24]
 (.cond (tZ 25) .skip
 (.exit 2)))
 (.seq (.block 3 (sr [fa 28 1 1,lo 29 28,mv 30 7,ix 31 6 29 30,lw 32 6 31,oZ 8 (.alloc [(.int .i64 0),(.int .i64 0),(.int .i64 0),(.int .i64 0),(.int .i64 0),(.bool false)]),so 6 8 32]
 (.seq (sr [fa 33 0 8,lo 34 33,fa 35 0 4,lo 36 35,cE 37 34 36,mv 38 37,gtf 39 38 1 8,gtl 40 38 39,gtf 41 38 1 4,gtl 42 38 41,gZ 43 38 true (.bin .eql .num (tZ 40) (tZ 42)),pk0 44 38 43,mv 45 44,gtf 46 45 2 8,gtl 47 45 46,gtf 48 45 2 4,gtl 49 45 48,gZ 50 45 true (.bin .eql .num (tZ 47) (tZ 49)),pk0 51 45 50]
 (.cond (tZ 51) (rf [mv 52 5,aDk 53 52 1,mv 5 53])
 .skip))
 (sr [fa 54 0 8,lo 55 54,fa 56 0 4,lo 57 56,cE 58 55 57,mv 59 58,gtf 60 59 3 8,gtl 61 59 60,gtf 62 59 3 4,gtl 63 59 62,gZ 64 59 true (.bin .eql .num (tZ 61) (tZ 63)),pk0 65 59 64,mv 66 65,gtf 67 66 4 8,gtl 68 66 67,gtf 69 66 4 4,gtl 70 66 69,gZ 71 66 true (.bin .eql .num (tZ 68) (tZ 70)),pk0 72 66 71,mv 73 72,gtf 74 73 5 8,gtl 75 73 74,gtf 76 73 5 4,gtl 77 73 76,gZ 78 73 true (.bin .neq .bool (tZ 75) (tZ 77)),pk0 79 73 78]
 (.cond (tZ 79) (rf [mv 80 6,aDk 81 80 1,mv 6 81])
 .skip)))))
 (rf [mv 26 7,aDk 27 26 1,mv 7 27]))))))
 (sr [fa 82 0 4,lo 83 82]
 (.block 4 (sr [cEk 85 83 1,mv 84 85]
 (.cond (tZ 84) (.seq (.region true [fa 86 3 4,lo 87 86,cNk 88 87 0,mv 89 88,gff 90 89 4 4,gfl 91 89 90,gZ 92 89 false (.bin .neq .num (tZ 91) (kZ 0)),pk1 93 89 92,mv 94 93,gff 95 94 5 4,gfl 96 94 95,pk1 97 94 96,mv 98 97,gff 99 98 1 4,gfl 100 98 99,gZ 101 98 false (.bin .lss .num (tZ 100) (kZ 0)),pk1 102 98 101,mv 103 102,gff 104 103 1 4,gfl 105 103 104,gff 106 103 0 1,gfl 107 103 106,gZ 108 103 false (.bin .gtr .num (tZ 105) (tZ 107)),pk1 109 103 108,mv 110 109,gff 111 110 2 4,gfl 112 110 111,gZ 113 110 false (.bin .lss .num (tZ 112) (kZ 1)),pk1 114 110 113,mv 115 114,gff 116 115 2 4,gfl 117 115 116,gZ 118 115 false (.load (some 2) (tZ 1)),gff 119 115 1 4,gfl 120 115 119,⟨(some 121),.call (.fn 97) [tZ 118,tZ 120],(some (115,false)),[31]⟩,gZ 122 115 false (.bin .gtr .num (tZ 117) (tZ 121)),pk1 123 115 122,mv 124 123,gfm 125 124 5,gZ 126 124 false (.bin .neq .num (tZ 125) (kZ 1)),pk1 127 124 126])
 (.cond (tZ 127) (sr [mfZ 2]
 .ret)
 .skip))
 (sr [cEk 129 83 2,mv 128 129]
 (.cond (tZ 128) (.seq (.region true [fa 130 1 4,lo 131 130,cNk 132 131 0,mv 133 132,gff 134 133 2 4,gfl 135 133 134,gZ 136 133 false (.bin .neq .num (tZ 135) (kZ 0)),pk1 137 133 136,mv 138 137,gff 139 138 4 4,gfl 140 138 139,gZ 141 138 false (.bin .neq .num (tZ 140) (kZ 1)),gfm 142 138 141,gtf 143 142 4 4,gtl 144 142 143,gZ 145 142 true (.bin .neq .num (tZ 144) (kZ (-1))),gZ 146 138 false (.pick (tZ 142) (tZ 145) (bZ false)),pk1 147 138 146,mv 148 147,gff 149 148 3 4,gfl 150 148 149,gZ 151 148 false (.bin .lss .num (tZ 150) (kZ 1)),pk1 152 148 151,mv 153 152,gff 154 153 3 4,gfl 155 153 154,gZ 156 153 false (.load (some 2) (tZ 1)),⟨(some 157),.call (.fn 60) [tZ 156],(some (153,false)),[25]⟩,gZ 158 153 false (.bin .quo .num (tZ 157) (kZ 2)),gZ 159 153 false (.bin .gtr .num (tZ 155) (tZ 158)),pk1 160 153 159,mv 161 160,gfm 162 161 6,gZ 163 161 false (.bin .neq .num (tZ 162) (kZ 1)),pk1 164 161 163,mv 165 164,gZ 166 165 false (.load (some 2) (tZ 1)),gff 167 165 3 4,gfl 168 165 167,gZ 169 165 false (.call (.fn 98) [tZ 166,tZ 168]),gZ 170 165 false (.bin .neq .num (tZ 169) (kZ 2)),pk1 171 165 170])
 (.cond (tZ 171) (sr [mfZ 2]
 .ret)
 .skip))
 (sr [mfZ 2]
 .ret)))))))))))
 (rf [mv 14 3,aDk 15 14 1,mv 3 15]))))))
 (sr [mtZ 2]
 .ret)))⟩
theorem cf15:cFn Tryz.prog Tryz.f62=some af15:=by kernel_rfl
def af16:AFn:=⟨52,[(2,none)],(sr [bo 1 0,mnZ 2]
 (sr [mnZ 3]
 (sr [lw 9 2 1,ca1 10 99 9,mv 4 10]
 (sr [fa 11 1 1,lo 12 11,le 13 12,oZ 14 (.bin .mul .num (kZ 2) (tZ 13)),mv 15 4,le 16 15,oZ 17 (.bin .mul .num (kZ 2) (tZ 16)),aD 18 14 17,oZ 19 (.makeSl 1 1 [(.bool false)] (tZ 18) (tZ 18)),mv 5 19]
 (.seq (sr [mk 6 0]
 (.block 0 (.loop (.seq (sr [mv 20 6,mv 21 5,le 22 21,cL 23 20 22]
 (.cond (tZ 23) .skip
 (.exit 0)))
 (.seq (.block 1 (.seq (sr [mv 26 5,mv 27 6,ix 28 1 26 27,lo 29 28]
 (.cond (tZ 29) (.exit 1)
 .skip))
 (sr [mnZ 7]
 (.seq (sr [mv 30 6,mv 8 30]
 (.block 2 (.loop (.seq (sr [mv 31 5,mv 32 8,ix 33 1 31 32,lo 34 33,no 35 34]
 (.cond (tZ 35) .skip
 (.exit 2)))
 (.seq (.block 3 (sr [mv 40 5,mv 41 8,ix 42 1 40 41,pZ (.store 1 (tZ 42) (bZ true))]
 (rf [mv 43 7,mv 44 8,oZ 45 (.mkSl 1 1 [(.int .i64 0)] [(0,tZ 44)]),oZ 46 (.append 1 8 [(.int .i64 0)] (tZ 43) (tZ 45)),mv 7 46])))
 (rf [lw 36 2 1,mv 37 4,mv 38 8,ca3 39 100 36 37 38,mv 8 39]))))))
 (rf [mv 47 3,mv 48 7,oZ 49 (.mkSl 1 1 [.nilSl] [(0,tZ 48)]),oZ 50 (.append 1 24 [.nilSl] (tZ 47) (tZ 49)),mv 3 50])))))
 (rf [mv 24 6,aDk 25 24 1,mv 6 25]))))))
 (sr [mv 51 3,mv 2 51]
 .ret))))))⟩
theorem cf16:cFn Tryz.prog Tryz.f63=some af16:=by kernel_rfl
def af17:AFn:=⟨6,[(2,none)],(sr [bo 1 0,mk 2 0]
 (sr [lw 3 2 1,ca1 4 60 3,aQk 5 4 2,mv 2 5]
 .ret))⟩
theorem cf17:cFn Tryz.prog Tryz.f64=some af17:=by kernel_rfl
def af37:AFn:=⟨34,[(4,none)],(sr [bo 2 0,mk 4 0]
 (sr [mk 5 0]
 (.seq (sr [mk 6 0]
 (.block 0 (.loop (.seq (sr [mv 7 6,fa 8 1 2,lo 9 8,le 10 9,cL 11 7 10]
 (.cond (tZ 11) .skip
 (.exit 0)))
 (.seq (.block 1 (sr [fa 14 1 2,lo 15 14,mv 16 6,ix 17 6 15 16,fa 18 0 17,lo 19 18,cEk 20 19 1,mv 21 20,gtf 22 21 1 2,gtl 23 21 22,gtm 24 21 6,gZ 25 21 true (.idxA 6 (tZ 23) (tZ 24)),gtf 26 21 1 25,gtl 27 21 26,gtm 28 21 1,gZ 29 21 true (.bin .eql .num (tZ 27) (tZ 28)),pk0 30 21 29]
 (.cond (tZ 30) (rf [mv 31 5,aDk 32 31 1,mv 5 32])
 .skip)))
 (rf [mv 12 6,aDk 13 12 1,mv 6 13]))))))
 (sr [mv 33 5,mv 4 33]
 .ret))))⟩
theorem cf37:cFn Tryz.prog Tryz.f97=some af37:=by kernel_rfl
def af38:AFn:=⟨34,[(4,none)],(sr [bo 2 0,mk 4 0]
 (sr [mk 5 0]
 (.seq (sr [mk 6 0]
 (.block 0 (.loop (.seq (sr [mv 7 6,fa 8 1 2,lo 9 8,le 10 9,cL 11 7 10]
 (.cond (tZ 11) .skip
 (.exit 0)))
 (.seq (.block 1 (sr [fa 14 1 2,lo 15 14,mv 16 6,ix 17 6 15 16,fa 18 0 17,lo 19 18,cEk 20 19 2,mv 21 20,gtf 22 21 1 2,gtl 23 21 22,gtm 24 21 6,gZ 25 21 true (.idxA 6 (tZ 23) (tZ 24)),gtf 26 21 3 25,gtl 27 21 26,gtm 28 21 1,gZ 29 21 true (.bin .eql .num (tZ 27) (tZ 28)),pk0 30 21 29]
 (.cond (tZ 30) (rf [mv 31 5,aDk 32 31 1,mv 5 32])
 .skip)))
 (rf [mv 12 6,aDk 13 12 1,mv 6 13]))))))
 (sr [mv 33 5,mv 4 33]
 .ret))))⟩
theorem cf38:cFn Tryz.prog Tryz.f98=some af38:=by kernel_rfl
def af39:AFn:=⟨54,[(2,none)],(sr [bo 1 0,mnZ 2]
 (sr [mnZ 3]
 (.seq (sr [mk 4 0]
 (.block 0 (.loop (.seq (sr [mv 6 4,fa 7 1 1,lo 8 7,le 9 8,cL 10 6 9]
 (.cond (tZ 10) .skip
 (.exit 0)))
 (.seq (.block 1 (.seq (sr [fa 13 1 1,lo 14 13,mv 15 4,ix 16 6 14 15,fa 17 0 16,lo 18 17,cNk 19 18 1]
 (.cond (tZ 19) (.exit 1)
 .skip))
 (sr [mk 5 0]
 (.seq (.block 2 (.loop (.seq (.seq (.region true [mv 20 5,mv 21 3,le 22 21,cL 23 20 22,mv 24 23,gtf 25 24 1 1,gtl 26 24 25,gtm 27 24 3,gtm 28 24 5,gZ 29 24 true (.idxA 1 (tZ 27) (tZ 28)),gtl 30 24 29,gZ 31 24 true (.idxA 6 (tZ 26) (tZ 30)),gZ 32 24 true (.load (some 6) (tZ 31)),gtf 33 24 1 1,gtl 34 24 33,gtm 35 24 4,gZ 36 24 true (.idxA 6 (tZ 34) (tZ 35)),gZ 37 24 true (.load (some 6) (tZ 36)),gZ 38 24 true (.call (.fn 131) [tZ 32,tZ 37]),pk0 39 24 38])
 (.cond (tZ 39) .skip
 (.exit 2)))
 (.block 3 (rf [mv 40 5,aDk 41 40 1,mv 5 41])))))
 (.region true [mv 42 3,mv 43 5,oZ 44 (.slSl 1 (tZ 42) none (some (tZ 43)) none),oZ 45 (.append 1 8 [(.int .i64 0)] (.const .nilSl) (tZ 44)),mv 46 4,⟨(some 47),.mkSl 1 1 [(.int .i64 0)] [(0,tZ 46)],none,[2,3]⟩,oZ 48 (.append 1 8 [(.int .i64 0)] (tZ 45) (tZ 47)),mv 49 3,mv 50 5,⟨(some 51),.slSl 1 (tZ 49) (some (tZ 50)) none none,none,[3,5,6]⟩,oZ 52 (.append 1 8 [(.int .i64 0)] (tZ 48) (tZ 51)),mv 3 52])))))
 (rf [mv 11 4,aDk 12 11 1,mv 4 12]))))))
 (sr [mv 53 3,mv 2 53]
 .ret))))⟩
theorem cf39:cFn Tryz.prog Tryz.f99=some af39:=by kernel_rfl
def af40:AFn:=⟨114,[(6,none)],(sr [bo 3 0,mk 6 0]
 (sr [fa 17 1 3,lo 18 17,le 19 18,mv 20 1,le 21 20,mv 7 19,mv 8 21]
 (.seq (sr [mv 22 2,mv 23 7,oZ 24 (.bin .mul .num (kZ 2) (tZ 23)),cH 25 22 24]
 (.cond (tZ 25) (sr [mv 26 2,mv 27 7,oZ 28 (.bin .mul .num (kZ 2) (tZ 27)),aS 29 26 28,aQk 30 29 2,mv 9 30]
 (.seq (sr [mv 31 2,aRk 32 31 2,cEk 33 32 0]
 (.cond (tZ 33) (sr [mv 34 1,mv 35 9,aDk 36 35 1,mv 37 8,aR 38 36 37,ix 39 1 34 38,lo 40 39,mv 10 40]
 (.seq (.region true [lw 41 2 3,mv 42 10,lw 43 2 3,mv 44 10,⟨(some 45),.call (.fn 80) [tZ 43,tZ 44],none,[0]⟩,no 46 45,ca3 47 132 41 42 46,mv 6 47])
 .ret))
 .skip))
 (sr [mv 48 1,mv 49 9,ix 50 1 48 49,lo 51 50,mv 11 51]
 (.seq (.region true [lw 52 2 3,mv 53 11,lw 54 2 3,mv 55 11,⟨(some 56),.call (.fn 80) [tZ 54,tZ 55],none,[0]⟩,ca3 57 132 52 53 56,mv 6 57])
 .ret))))
 .skip))
 (sr [mv 58 2,aRk 59 58 2,cEk 60 59 0,mv 12 60]
 (sr [mv 61 2,aQk 62 61 2,mv 13 62]
 (.seq (sr [mv 63 12]
 (.cond (tZ 63) (rf [mv 64 13,aDk 65 64 1,mv 66 7,aR 67 65 66,mv 13 67])
 .skip))
 (sr [fa 68 1 3,lo 69 68,mv 70 13,ix 71 6 69 70,lw 72 6 71,oZ 14 (.alloc [(.int .i64 0),(.int .i64 0),(.int .i64 0),(.int .i64 0),(.int .i64 0),(.bool false)]),so 6 14 72]
 (.seq (sr [fa 73 0 14,lo 74 73,cEk 75 74 2]
 (.cond (tZ 75) (sr [fa 76 5 14,lo 77 76,fa 78 4 14,lo 79 78,cEk 80 79 1,oZ 81 (.bin .eql .bool (tZ 77) (tZ 80)),mv 15 81]
 (.seq (.region true [lw 82 2 3,lw 83 2 3,mv 84 13,⟨(some 85),.call (.fn 133) [tZ 83,tZ 84],none,[0]⟩,mv 86 12,mv 87 15,oZ 88 (.bin .eql .bool (tZ 86) (tZ 87)),ca3 89 132 82 85 88,mv 6 89])
 .ret))
 .skip))
 (sr [mv 90 1,mv 91 13,ca2 92 59 90 91,mv 16 92]
 (.seq (sr [lw 93 2 3,mv 94 13,ca2 95 80 93 94,mv 96 12,oZ 97 (.bin .eql .bool (tZ 95) (tZ 96))]
 (.cond (tZ 97) (sr [mv 98 7,oZ 99 (.bin .mul .num (kZ 2) (tZ 98)),mv 100 16,oZ 101 (.bin .mul .num (kZ 2) (tZ 100)),aD 102 99 101,mv 6 102]
 .ret)
 .skip))
 (sr [mv 103 7,oZ 104 (.bin .mul .num (kZ 2) (tZ 103)),mv 105 16,mv 106 8,aD 107 105 106,aSk 108 107 1,mv 109 8,aR 110 108 109,oZ 111 (.bin .mul .num (kZ 2) (tZ 110)),aD 112 104 111,aDk 113 112 1,mv 6 113]
 .ret)))))))))))⟩
theorem cf40:cFn Tryz.prog Tryz.f100=some af40:=by kernel_rfl
def af66:AFn:=⟨24,[(4,none)],(sr [bo 2 0,bo 3 1,mfZ 4]
 (sr [fa 5 1 2,lo 6 5,fa 7 1 3,lo 8 7,cL 9 6 8,mv 10 9,gff 11 10 1 2,gfl 12 10 11,gff 13 10 1 3,gfl 14 10 13,gZ 15 10 false (.bin .eql .num (tZ 12) (tZ 14)),gfm 16 10 15,gtf 17 16 2 2,gtl 18 16 17,gtf 19 16 2 3,gtl 20 16 19,gZ 21 16 true (.bin .lss .num (tZ 18) (tZ 20)),gZ 22 10 false (.pick (tZ 16) (tZ 21) (bZ false)),pk1 23 10 22,mv 4 23]
 .ret))⟩
theorem cf66:cFn Tryz.prog Tryz.f131=some af66:=by kernel_rfl
def af67:AFn:=⟨22,[(6,none)],(sr [bo 3 0,mk 6 0]
 (sr [fa 8 1 3,lo 9 8,le 10 9,mv 7 10]
 (.seq (sr [mv 11 2]
 (.cond (tZ 11) (sr [mv 12 1,oZ 13 (.bin .mul .num (kZ 2) (tZ 12)),mv 6 13]
 .ret)
 .skip))
 (sr [mv 14 1,mv 15 7,aD 16 14 15,aSk 17 16 1,mv 18 7,aR 19 17 18,oZ 20 (.bin .mul .num (kZ 2) (tZ 19)),aDk 21 20 1,mv 6 21]
 .ret))))⟩
theorem cf67:cFn Tryz.prog Tryz.f132=some af67:=by kernel_rfl
def af69:AFn:=⟨42,[(4,none)],(sr [bo 2 0,mk 4 0]
 (.seq (sr [mk 5 0]
 (.block 0 (.loop (.seq (sr [mv 6 5,fa 7 1 2,lo 8 7,le 9 8,cL 10 6 9]
 (.cond (tZ 10) .skip
 (.exit 0)))
 (.seq (.block 1 (.seq (.region true [mv 13 5,mv 14 1,cN 15 13 14,mv 16 15,gtf 17 16 1 2,gtl 18 16 17,gtm 19 16 5,gZ 20 16 true (.idxA 6 (tZ 18) (tZ 19)),gtf 21 16 0 20,gtl 22 16 21,gZ 23 16 true (.bin .eql .num (tZ 22) (kZ 2)),pk0 24 16 23,mv 25 24,gtf 26 25 1 2,gtl 27 25 26,gtm 28 25 5,gZ 29 25 true (.idxA 6 (tZ 27) (tZ 28)),gtf 30 25 3 29,gtl 31 25 30,gtf 32 25 1 2,gtl 33 25 32,gtm 34 25 1,gZ 35 25 true (.idxA 6 (tZ 33) (tZ 34)),gtf 36 25 3 35,gtl 37 25 36,gZ 38 25 true (.bin .eql .num (tZ 31) (tZ 37)),pk0 39 25 38])
 (.cond (tZ 39) (sr [mv 40 5,mv 4 40]
 .ret)
 .skip)))
 (rf [mv 11 5,aDk 12 11 1,mv 5 12]))))))
 (sr [mv 41 1,mv 4 41]
 .ret)))⟩
theorem cf69:cFn Tryz.prog Tryz.f133=some af69:=by kernel_rfl
def af70:AFn:=⟨19,[(4,none)],(sr [mk 4 0]
 (.seq (sr [mk 5 0]
 (.block 0 (.loop (.seq (sr [mv 6 5,mv 7 0,le 8 7,cL 9 6 8]
 (.cond (tZ 9) .skip
 (.exit 0)))
 (.seq (.block 1 (sr [mv 12 0,mv 13 5,ix 14 1 12 13,lo 15 14,mv 16 1,cE 17 15 16]
 (.cond (tZ 17) (sr [mv 18 5,mv 4 18]
 .ret)
 .skip)))
 (rf [mv 10 5,aDk 11 10 1,mv 5 11]))))))
 (sr [mk 4 (-1)]
 .ret)))⟩
theorem cf70:cFn Tryz.prog Tryz.f59=some af70:=by kernel_rfl
end Go.Known
end
section
namespace Go.Known
open Go Go.AE Go.Proofs
set_option maxRecDepth 100000
set_option maxHeartbeats 400000
def af5:AFn:=⟨147,[(0,none)],(sr [mfZ 0]
 (sr [oZ 22 (.call (.fn 19) []),mv 21 22,ex 23 21 0,ex 24 21 1,oZ 1 (.alloc [.nilSl,(.int .i64 0),(.int .i64 0)]),oZ 2 (.alloc [(.int .i64 0),.nilSl]),so 3 1 23,so 2 2 24]
 (sr [lw 26 2 2,ca1 27 13 26,mv 25 27,ex 28 25 0,ex 29 25 1,oZ 3 (.alloc [(.int .i64 0),.nilSl,.nilSl,.nilSl]),so 4 3 28,mv 4 29]
 (sr [lw 31 4 3,ca1 32 16 31,mv 30 32,ex 33 30 0,ex 34 30 1,mv 5 33,mv 6 34]
 (sr [lw 36 4 3,ca1 37 9 36,mv 35 37,ex 38 35 0,ex 39 35 1,oZ 7 (.alloc [(.int .i64 0),.nilSl]),so 2 7 38,mv 8 39]
 (.seq (sr [mv 40 4,cNk 41 40 0,mv 42 41,gfm 43 42 6,gZ 44 42 false (.bin .neq .num (tZ 43) (kZ 0)),pk1 45 42 44,mv 46 45,gfm 47 46 8,gZ 48 46 false (.bin .neq .num (tZ 47) (kZ 0)),pk1 49 46 48,mv 50 49,gfm 51 50 5,gZ 52 50 false (.mkSl 1 5 [(.str [])] [(0,(.const (.str [94,32,94]))),(1,(.const (.str [124,32,94,32,94,32,124]))),(2,(.const (.str [124,32,49,32,124,32,124,32,50,32,124]))),(3,(.const (.str [118,32,118,32,124,32,124]))),(4,(.const (.str [118,32,118])))]),gZ 53 50 false (.call (.fn 17) [tZ 51,tZ 52]),gZ 54 50 false (.un .not (tZ 53)),pk1 55 50 54,mv 56 55,gZ 57 56 false (.load (some 2) (tZ 7)),gZ 58 56 false (.load (some 2) (tZ 2)),gZ 59 56 false (.call (.fn 20) [tZ 57,tZ 58]),gZ 60 56 false (.un .not (tZ 59)),pk1 61 56 60]
 (.cond (tZ 61) (sr [mfZ 0]
 .ret)
 .skip))
 (sr [oZ 62 (.build [(.int .i64 0),(.int .i64 0),(.int .i64 0),(.int .i64 0),(.int .i64 0),(.bool false)] [(0,1,kZ 2),(3,1,kZ 1),(4,1,kZ 1),(5,1,bZ true)]),oZ 9 (.alloc [(.int .i64 0),(.int .i64 0),(.int .i64 0),(.int .i64 0),(.int .i64 0),(.bool false)]),so 6 9 62]
 (sr [lw 63 6 9,oZ 10 (.alloc [(.int .i64 0),(.int .i64 0),(.int .i64 0),(.int .i64 0),(.int .i64 0),(.bool false)]),so 6 10 63]
 (sr [fa 64 5 10,pZ (.store 1 (tZ 64) (bZ false))]
 (.seq (.region true [oZ 66 (.call (.fn 21) [kZ 0,kZ 1]),⟨(some 67),.load (some 6) (tZ 10),none,[0]⟩,⟨(some 68),.load (some 6) (tZ 9),none,[0]⟩,⟨(some 69),.call (.fn 21) [kZ 1,kZ 1],none,[1,2]⟩,oZ 70 (.mkSl 6 4 [(.int .i64 0),(.int .i64 0),(.int .i64 0),(.int .i64 0),(.int .i64 0),(.bool false)] [(0,tZ 66),(1,tZ 67),(2,tZ 68),(3,tZ 69)]),oZ 71 (.build [(.int .i64 0),.nilSl] [(0,1,kZ 2),(1,1,tZ 70)]),ca1 72 13 71,mv 65 72,ex 73 65 0,ex 74 65 1,⟨(some 11),.alloc [(.int .i64 0),.nilSl,.nilSl,.nilSl],none,[0,1,2,3,4,6]⟩,so 4 11 73,mv 12 74])
 (.seq (sr [mv 75 12,cNk 76 75 0,mv 77 76,gff 78 77 2 11,gfl 79 77 78,gZ 80 77 false (.lenSl (tZ 79)),gZ 81 77 false (.bin .neq .num (tZ 80) (kZ 1)),pk1 82 77 81,mv 83 82,gff 84 83 3 11,gfl 85 83 84,gZ 86 83 false (.lenSl (tZ 85)),gZ 87 83 false (.bin .neq .num (tZ 86) (kZ 3)),pk1 88 83 87,mv 89 88,gff 90 89 3 11,gfl 91 89 90,gZ 92 89 false (.idxA 4 (tZ 91) (kZ 0)),gZ 93 89 false (.load (some 4) (tZ 92)),gZ 94 89 false (.build [(.int .i64 0),(.int .i64 0),(.int .i64 0),(.bool false)] [(0,1,kZ 2),(2,1,kZ 1),(3,1,bZ true)]),gZ 95 89 false (.bin .neq (.flat [.int,.int,.int,.bool]) (tZ 93) (tZ 94)),pk1 96 89 95,mv 97 96,gff 98 97 3 11,gfl 99 97 98,gZ 100 97 false (.idxA 4 (tZ 99) (kZ 1)),gZ 101 97 false (.load (some 4) (tZ 100)),gZ 102 97 false (.build [(.int .i64 0),(.int .i64 0),(.int .i64 0),(.bool false)] [(0,1,kZ 1),(1,1,kZ 1)]),gZ 103 97 false (.bin .neq (.flat [.int,.int,.int,.bool]) (tZ 101) (tZ 102)),pk1 104 97 103]
 (.cond (tZ 104) (sr [mfZ 0]
 .ret)
 .skip))
 (sr [lw 106 3 1,lw 107 2 2,oZ 108 (.build [(.int .i64 0),(.bool false),(.int .i64 0)] [(0,1,kZ 2),(2,1,kZ 1)]),oZ 109 (.mkSl 3 1 [(.int .i64 0),(.bool false),(.int .i64 0)] [(0,tZ 108)]),oZ 110 (.build [(.int .i64 0),(.int .i64 0)] [(0,1,kZ 1),(1,1,kZ 1)]),oZ 111 (.call (.fn 22) [tZ 106,tZ 107,tZ 109,tZ 110]),mv 105 111,ex 112 105 0,ex 113 105 1,ex 114 105 2,oZ 13 (.alloc [.nilSl,(.int .i64 0),(.int .i64 0)]),oZ 14 (.alloc [(.int .i64 0),.nilSl]),so 3 13 112,so 2 14 113,mv 15 114]
 (sr [lw 116 3 1,lw 117 2 2,oZ 118 (.call (.fn 23) [tZ 116,tZ 117,kZ 1]),mv 115 118,ex 119 115 0,ex 120 115 1,ex 121 115 2,oZ 16 (.alloc [.nilSl,(.int .i64 0),(.int .i64 0)]),oZ 17 (.alloc [(.int .i64 0),.nilSl]),so 3 16 119,so 2 17 120,mv 18 121]
 (sr [lw 123 2 2,ca1 124 24 123,mv 122 124,ex 125 122 0,ex 126 122 1,mv 19 125,mv 20 126]
 (sr [mv 127 15,cEk 128 127 0,mv 129 128,gtm 130 129 18,gZ 131 129 true (.bin .eql .num (tZ 130) (kZ 5)),pk0 132 129 131,mv 133 132,gtm 134 133 20,gZ 135 133 true (.bin .eql .num (tZ 134) (kZ 0)),pk0 136 133 135,mv 137 136,gtm 138 137 19,gZ 139 137 true (.lenSl (tZ 138)),gZ 140 137 true (.bin .eql .num (tZ 139) (kZ 4)),pk0 141 137 140,mv 142 141,gZ 143 142 true (.load (some 2) (tZ 14)),gZ 144 142 true (.call (.fn 25) [tZ 143]),gZ 145 142 true (.bin .eql .num (tZ 144) (.const (.str [51,58,32,48,46,49,32,49,46,49,32,50,46,49,32,51,46,49]))),pk0 146 142 145,mv 0 146]
 .ret)))))))))))))))⟩
theorem cf5:cFn Tryz.prog Tryz.f8=some af5:=by kernel_rfl
theorem gd5:GD 8 af5:=gG Tryz.func8 cf5 (by kernel_rfl)
def af6:AFn:=by
 have h:=rQ Tryz.f13
 conv at h=>rhs; reduce
 exact oR h
theorem cf6:cFn Tryz.prog Tryz.f13=some af6:=by kernel_rfl
theorem gd6:GD 13 af6:=gG Tryz.func13 cf6 (by kernel_rfl)
def af9:AFn:=by
 have h:=rQ Tryz.f52
 conv at h=>rhs; reduce
 exact oR h
theorem cf9:cFn Tryz.prog Tryz.f52=some af9:=by kernel_rfl
theorem gd9:GD 52 af9:=gG Tryz.func52 cf9 (by kernel_rfl)
def af10:AFn:=by
 have h:=rQ Tryz.f24
 conv at h=>rhs; reduce
 exact oR h
theorem cf10:cFn Tryz.prog Tryz.f24=some af10:=by kernel_rfl
theorem gd10:GD 24 af10:=gG Tryz.func24 cf10 (by kernel_rfl)
def af12:AFn:=⟨38,[(4,none)],(sr [bo 2 0,bo 3 1,mfZ 4]
 (.seq (sr [fa 6 0 2,lo 7 6,fa 8 0 3,lo 9 8,cN 10 7 9,mv 11 10,gff 12 11 1 2,gfl 13 11 12,gZ 14 11 false (.lenSl (tZ 13)),gff 15 11 1 3,gfl 16 11 15,gZ 17 11 false (.lenSl (tZ 16)),gZ 18 11 false (.bin .neq .num (tZ 14) (tZ 17)),pk1 19 11 18]
 (.cond (tZ 19) (sr [mfZ 4]
 .ret)
 .skip))
 (.seq (sr [mk 5 0]
 (.block 0 (.loop (.seq (sr [mv 20 5,fa 21 1 2,lo 22 21,le 23 22,cL 24 20 23]
 (.cond (tZ 24) .skip
 (.exit 0)))
 (.seq (.block 1 (.seq (.region true [fa 27 1 2,lo 28 27,mv 29 5,ix 30 6 28 29,lw 31 6 30,fa 32 1 3,lo 33 32,mv 34 5,ix 35 6 33 34,lw 36 6 35,oZ 37 (.bin .neq (.flat [.int,.int,.int,.int,.int,.bool]) (tZ 31) (tZ 36))])
 (.cond (tZ 37) (sr [mfZ 4]
 .ret)
 .skip)))
 (rf [mv 25 5,aDk 26 25 1,mv 5 26]))))))
 (sr [mtZ 4]
 .ret))))⟩
theorem cf12:cFn Tryz.prog Tryz.f11=some af12:=by kernel_rfl
theorem gd12:GD 11 af12:=gG Tryz.func11 cf12 (by kernel_rfl)
def af18:AFn:=by
 have h:=rQ Tryz.f19
 conv at h=>rhs; reduce
 exact oR h
theorem cf18:cFn Tryz.prog Tryz.f19=some af18:=by kernel_rfl
theorem gd18:GD 19 af18:=gG Tryz.func19 cf18 (by kernel_rfl)
def af19:AFn:=by
 have h:=rQ Tryz.f16
 conv at h=>rhs; reduce
 exact oR h
theorem cf19:cFn Tryz.prog Tryz.f16=some af19:=by kernel_rfl
theorem gd19:GD 16 af19:=gG Tryz.func16 cf19 (by kernel_rfl)
def af20:AFn:=⟨202,[(2,(some (some 2))),(3,none)],(sr [bo 1 0,oZ 2 (.alloc [(.int .i64 0),.nilSl]),mk 3 0]
 (.seq (sr [fa 21 0 1,lo 22 21,cLk 23 22 0,mv 24 23,gff 25 24 0 1,gfl 26 24 25,gZ 27 24 false (.bin .gtr .num (tZ 26) (kZ 40)),pk1 28 24 27,mv 29 28,gff 30 29 1 1,gfl 31 29 30,gZ 32 29 false (.lenSl (tZ 31)),gff 33 29 0 1,gfl 34 29 33,gZ 35 29 false (.bin .add .num (tZ 34) (kZ 1)),gZ 36 29 false (.bin .neq .num (tZ 32) (tZ 35)),pk1 37 29 36,mv 38 37,gff 39 38 1 1,gfl 40 38 39,gZ 41 38 false (.call (.fn 26) [tZ 40]),gZ 42 38 false (.bin .lss .num (tZ 41) (kZ 0)),pk1 43 38 42]
 (.cond (tZ 43) (sr [oZ 44 (.build [(.int .i64 0),.nilSl] []),so 2 2 44,mk 3 2]
 .ret)
 .skip))
 (sr [mk 4 0,mk 5 0]
 (.seq (sr [fa 45 1 1,lo 46 45,le 47 46,mk 48 0]
 (.block 0 (.loop (sr [cL 49 48 47]
 (.seq (.cond (tZ 49) .skip
 (.exit 0))
 (.seq (.block 1 (sr [ix 50 1 46 48,lo 51 50,mv 7 51]
 (rf [mv 52 4,mv 53 7,oZ 54 (.minmax false [tZ 53,kZ 401]),aD 55 52 54,oZ 56 (.minmax false [tZ 55,kZ 401]),mv 4 56])))
 (rf [aDk 57 48 1,mv 48 57])))))))
 (.seq (sr [fa 58 2 1,lo 59 58,fa 60 3 1,lo 61 60,oZ 62 (.mkSl 1 2 [.nilSl] [(0,tZ 59),(1,tZ 61)]),le 63 62,mk 64 0]
 (.block 2 (.loop (sr [cL 65 64 63]
 (.seq (.cond (tZ 65) .skip
 (.exit 2))
 (.seq (.block 3 (sr [ix 66 1 62 64,lo 67 66,mv 9 67]
 (sr [mv 68 9,le 69 68,mk 70 0]
 (.block 4 (.loop (sr [cL 71 70 69]
 (.seq (.cond (tZ 71) .skip
 (.exit 4))
 (.seq (.block 5 (sr [ix 72 4 68 70,lw 73 4 72,oZ 11 (.alloc [(.int .i64 0),(.int .i64 0),(.int .i64 0),(.bool false)]),so 4 11 73]
 (sr [fa 74 0 11,lo 75 74,cEk 76 75 2]
 (.cond (tZ 76) (rf [mv 77 5,aDk 78 77 1,mv 5 78])
 .skip))))
 (rf [aDk 79 70 1,mv 70 79])))))))))
 (rf [aDk 80 64 1,mv 64 80])))))))
 (.seq (sr [mv 81 5,cGk 82 81 100,mv 83 82,gfm 84 83 4,gfm 85 83 5,gZ 86 83 false (.bin .mul .num (kZ 2) (tZ 85)),gZ 87 83 false (.bin .add .num (tZ 84) (tZ 86)),gZ 88 83 false (.bin .gtr .num (tZ 87) (kZ 400)),pk1 89 83 88]
 (.cond (tZ 89) (sr [oZ 90 (.build [(.int .i64 0),.nilSl] []),so 2 2 90,mk 3 7]
 .ret)
 .skip))
 (sr [mv 91 4,oZ 92 (.bin .mul .num (kZ 2) (tZ 91)),oZ 93 (.makeSl 1 8 [(.int .i64 0)] (tZ 92) (tZ 92)),oZ 94 (.build [.nilSl,.nilSl,.nilSl] [(1,1,tZ 93)]),bo 95 94,mv 12 95]
 (sr [mnZ 13,mnZ 14]
 (.seq (sr [fa 96 1 1,lo 97 96,le 98 97,mk 99 0]
 (.block 6 (.loop (sr [cL 100 99 98]
 (.seq (.cond (tZ 100) .skip
 (.exit 6))
 (.seq (.block 7 (sr [mv 101 99,ix 102 1 97 99,lo 103 102,mv 15 101,mv 16 103]
 (sr [mv 104 16,mk 105 0]
 (.block 8 (.loop (sr [cL 106 105 104]
 (.seq (.cond (tZ 106) .skip
 (.exit 8))
 (.seq (.block 9 (sr [mv 107 105,mv 17 107]
 (.seq (.region true [mv 108 13,mv 109 12,nc 110 109,fa 111 0 110,lo 112 111,le 113 112,oZ 114 (.bin .mul .num (kZ 2) (tZ 113)),oZ 115 (.mkSl 1 1 [(.int .i64 0)] [(0,tZ 114)]),oZ 116 (.append 1 8 [(.int .i64 0)] (tZ 108) (tZ 115)),mv 117 14,mv 118 12,nc 119 118,fa 120 0 119,⟨(some 121),.load none (tZ 120),none,[7,8]⟩,le 122 121,oZ 123 (.bin .mul .num (kZ 2) (tZ 122)),aDk 124 123 1,⟨(some 125),.mkSl 1 1 [(.int .i64 0)] [(0,tZ 124)],none,[4,7,8]⟩,oZ 126 (.append 1 8 [(.int .i64 0)] (tZ 117) (tZ 125)),mv 13 116,mv 14 126])
 (rf [mv 127 12,mv 128 12,nc 129 128,fa 130 0 129,lo 131 130,mv 132 15,mv 133 17,aDk 134 133 1,oZ 135 (.build [(.int .i64 0),(.int .i64 0),(.int .i64 0),(.int .i64 0),(.int .i64 0),(.bool false)] [(0,1,kZ 1),(1,1,tZ 132),(2,1,tZ 134)]),oZ 136 (.mkSl 6 1 [(.int .i64 0),(.int .i64 0),(.int .i64 0),(.int .i64 0),(.int .i64 0),(.bool false)] [(0,tZ 135)]),oZ 137 (.append 6 48 [(.int .i64 0),(.int .i64 0),(.int .i64 0),(.int .i64 0),(.int .i64 0),(.bool false)] (tZ 131) (tZ 136)),nc 138 127,fa 139 0 138,so 1 139 137]))))
 (rf [aDk 140 105 1,mv 105 140])))))))))
 (rf [aDk 141 99 1,mv 99 141])))))))
 (.seq (sr [mv 142 12,nc 143 142,fa 144 1 143,lo 145 144,le 146 145,mk 147 0]
 (.block 10 (.loop (sr [cL 148 147 146]
 (.seq (.cond (tZ 148) .skip
 (.exit 10))
 (.seq (.block 11 (sr [mv 149 147,mv 18 149]
 (rf [mv 150 12,nc 151 150,fa 152 1 151,lo 153 152,mv 154 18,ix 155 1 153 154,pZ (.store 1 (tZ 155) (kZ (-1)))])))
 (rf [aDk 156 147 1,mv 147 156])))))))
 (.seq (sr [mv 157 4,cEk 158 157 0,mv 159 158,gtf 160 159 2 1,gtl 161 159 160,gZ 162 159 true (.lenSl (tZ 161)),gtf 163 159 3 1,gtl 164 159 163,gZ 165 159 true (.lenSl (tZ 164)),gZ 166 159 true (.bin .add .num (tZ 162) (tZ 165)),gZ 167 159 true (.bin .eql .num (tZ 166) (kZ 0)),pk0 168 159 167]
 (.cond (tZ 168) (sr [fa 169 0 1,lo 170 169,oZ 171 (.build [(.int .i64 0),.nilSl] [(0,1,tZ 170)]),so 2 2 171,mk 3 0]
 .ret)
 .skip))
 (.seq (sr [mv 172 4,cEk 173 172 0,mv 174 173,gfm 175 174 12,gff 176 174 2 1,gfl 177 174 176,gfm 178 174 13,gZ 179 174 false (.call (.fn 27) [tZ 175,tZ 177,tZ 178,bZ false]),gZ 180 174 false (.un .not (tZ 179)),pk1 181 174 180,mv 182 181,gfm 183 182 12,gff 184 182 3 1,gfl 185 182 184,gfm 186 182 14,gZ 187 182 false (.call (.fn 27) [tZ 183,tZ 185,tZ 186,bZ true]),gZ 188 182 false (.un .not (tZ 187)),pk1 189 182 188]
 (.cond (tZ 189) (sr [oZ 190 (.build [(.int .i64 0),.nilSl] []),so 2 2 190,mk 3 3]
 .ret)
 .skip))
 (sr [mv 192 12,fa 193 0 1,lo 194 193,ca2 195 28 192 194,mv 191 195,ex 196 191 0,ex 197 191 1,oZ 19 (.alloc [(.int .i64 0),.nilSl]),so 2 19 196,mv 20 197]
 (.seq (sr [mv 198 20,no 199 198]
 (.cond (tZ 199) (sr [oZ 200 (.build [(.int .i64 0),.nilSl] []),so 2 2 200,mk 3 3]
 .ret)
 .skip))
 (sr [lw 201 2 19,so 2 2 201,mk 3 0]
 .ret)))))))))))))))⟩
theorem cf20:cFn Tryz.prog Tryz.f9=some af20:=by kernel_rfl
theorem gd20:GD 9 af20:=gG Tryz.func9 cf20 (by kernel_rfl)
def af21:AFn:=by
 have h:=rQ Tryz.f17
 conv at h=>rhs; reduce
 exact oR h
theorem cf21:cFn Tryz.prog Tryz.f17=some af21:=by kernel_rfl
theorem gd21:GD 17 af21:=gG Tryz.func17 cf21 (by kernel_rfl)
def af22:AFn:=by
 have h:=rQ Tryz.f20
 conv at h=>rhs; reduce
 exact oR h
theorem cf22:cFn Tryz.prog Tryz.f20=some af22:=by kernel_rfl
theorem gd22:GD 20 af22:=gG Tryz.func20 cf22 (by kernel_rfl)
def af23:AFn:=by
 have h:=rQ Tryz.f21
 conv at h=>rhs; reduce
 exact oR h
theorem cf23:cFn Tryz.prog Tryz.f21=some af23:=by kernel_rfl
theorem gd23:GD 21 af23:=gG Tryz.func21 cf23 (by kernel_rfl)
def af24:AFn:=by
 have h:=rQ Tryz.f22
 conv at h=>rhs; reduce
 exact oR h
theorem cf24:cFn Tryz.prog Tryz.f22=some af24:=by kernel_rfl
theorem gd24:GD 22 af24:=gG Tryz.func22 cf24 (by kernel_rfl)
def af25:AFn:=by
 have h:=rQ Tryz.f23
 conv at h=>rhs; reduce
 exact oR h
theorem cf25:cFn Tryz.prog Tryz.f23=some af25:=by kernel_rfl
theorem gd25:GD 23 af25:=gG Tryz.func23 cf25 (by kernel_rfl)
def af26:AFn:=by
 have h:=rQ Tryz.f25
 conv at h=>rhs; reduce
 exact oR h
theorem cf26:cFn Tryz.prog Tryz.f25=some af26:=by kernel_rfl
theorem gd26:GD 25 af26:=gG Tryz.func25 cf26 (by kernel_rfl)
def af27:AFn:=by
 have h:=rQ Tryz.f34
 conv at h=>rhs; reduce
 exact oR h
theorem cf27:cFn Tryz.prog Tryz.f34=some af27:=by kernel_rfl
theorem gd27:GD 34 af27:=gG Tryz.func34 cf27 (by kernel_rfl)
def af30:AFn:=⟨11,[(2,none)],(sr [bo 1 0,mk 2 0]
 (sr [lw 6 2 1,ca1 7 71 6,mv 5 7,ex 8 5 0,ex 9 5 1,mv 3 8,mv 4 9]
 (sr [mv 10 4,mv 2 10]
 .ret)))⟩
theorem cf30:cFn Tryz.prog Tryz.f51=some af30:=by kernel_rfl
theorem gd30:GD 51 af30:=gG Tryz.func51 cf30 (by kernel_rfl)
def af31:AFn:=by
 have h:=rQ Tryz.f67
 conv at h=>rhs; reduce
 exact oR h
theorem cf31:cFn Tryz.prog Tryz.f67=some af31:=by kernel_rfl
theorem gd31:GD 67 af31:=gG Tryz.func67 cf31 (by kernel_rfl)
def af32:AFn:=by
 have h:=rQ Tryz.f94
 conv at h=>rhs; reduce
 exact oR h
theorem cf32:cFn Tryz.prog Tryz.f94=some af32:=by kernel_rfl
theorem gd32:GD 94 af32:=gG Tryz.func94 cf32 (by kernel_rfl)
def af33:AFn:=by
 have h:=rQ Tryz.f95
 conv at h=>rhs; reduce
 exact oR h
theorem cf33:cFn Tryz.prog Tryz.f95=some af33:=by kernel_rfl
theorem gd33:GD 95 af33:=gG Tryz.func95 cf33 (by kernel_rfl)
def af34:AFn:=by
 have h:=rQ Tryz.f14
 conv at h=>rhs; reduce
 exact oR h
theorem cf34:cFn Tryz.prog Tryz.f14=some af34:=by kernel_rfl
theorem gd34:GD 14 af34:=gG Tryz.func14 cf34 (by kernel_rfl)
def af41:AFn:=by
 have h:=rQ Tryz.f40
 conv at h=>rhs; reduce
 exact oR h
theorem cf41:cFn Tryz.prog Tryz.f40=some af41:=by kernel_rfl
theorem gd41:GD 40 af41:=gG Tryz.func40 cf41 (by kernel_rfl)
def af42:AFn:=by
 have h:=rQ Tryz.f41
 conv at h=>rhs; reduce
 exact oR h
theorem cf42:cFn Tryz.prog Tryz.f41=some af42:=by kernel_rfl
theorem gd42:GD 41 af42:=gG Tryz.func41 cf42 (by kernel_rfl)
def af43:AFn:=by
 have h:=rQ Tryz.f42
 conv at h=>rhs; reduce
 exact oR h
theorem cf43:cFn Tryz.prog Tryz.f42=some af43:=by kernel_rfl
theorem gd43:GD 42 af43:=gG Tryz.func42 cf43 (by kernel_rfl)
def af45:AFn:=⟨25,[(2,none)],(sr [mk 2 0]
 (.seq (sr [mv 5 0,le 6 5,cLk 7 6 1]
 (.cond (tZ 7) (rf [oZ 8 (.dead),pZ (.dead)])
 .skip))
 (sr [mv 9 0,oZ 10 (.idxA 1 (tZ 9) (kZ 0)),lo 11 10,mv 3 11]
 (.seq (sr [mk 4 1]
 (.block 0 (.loop (.seq (sr [mv 12 4,mv 13 0,le 14 13,cL 15 12 14]
 (.cond (tZ 15) .skip
 (.exit 0)))
 (.seq (.block 1 (rf [mv 18 3,mv 19 0,mv 20 4,ix 21 1 19 20,lo 22 21,oZ 23 (.minmax false [tZ 18,tZ 22]),mv 3 23]))
 (rf [mv 16 4,aDk 17 16 1,mv 4 17]))))))
 (sr [mv 24 3,mv 2 24]
 .ret)))))⟩
theorem cf45:cFn Tryz.prog Tryz.f26=some af45:=by kernel_rfl
theorem gd45:GD 26 af45:=gG Tryz.func26 cf45 (by kernel_rfl)
def af46:AFn:=⟨174,[(8,none)],(sr [mfZ 8]
 (.seq (sr [mv 15 1,le 16 15,mk 17 0]
 (.block 0 (.loop (sr [cL 18 17 16]
 (.seq (.cond (tZ 18) .skip
 (.exit 0))
 (.seq (.block 1 (sr [ix 19 4 15 17,lw 20 4 19,oZ 10 (.alloc [(.int .i64 0),(.int .i64 0),(.int .i64 0),(.bool false)]),so 4 10 20]
 (sr [fa 21 0 10,lo 22 21]
 (.block 2 (sr [cEk 24 22 1,mv 23 24]
 (.cond (tZ 23) (.seq (sr [fa 25 1 10,lo 26 25,cLk 27 26 0,mv 28 27,gff 29 28 1 10,gfl 30 28 29,gfm 31 28 2,gZ 32 28 false (.lenSl (tZ 31)),gZ 33 28 false (.bin .sub .num (tZ 32) (kZ 1)),gZ 34 28 false (.bin .geq .num (tZ 30) (tZ 33)),pk1 35 28 34,mv 36 35,gff 37 36 2 10,gfl 38 36 37,gZ 39 36 false (.bin .neq .num (tZ 38) (kZ 0)),pk1 40 36 39,mv 41 40,gff 42 41 3 10,gfl 43 41 42,pk1 44 41 43]
 (.cond (tZ 44) (sr [mfZ 8]
 .ret)
 .skip))
 (.seq (.region true [mv 45 0,mv 46 2,fa 47 1 10,lo 48 47,ix 49 1 46 48,lo 50 49,mv 51 2,fa 52 1 10,lo 53 52,aDk 54 53 1,ix 55 1 51 54,lo 56 55,ca3 57 53 45 50 56])
 (.region true [mv 58 2,fa 59 1 10,lo 60 59,oZ 61 (.slSl 1 (tZ 58) none (some (tZ 60)) none),ca1 62 54 61,mv 63 2,fa 64 1 10,⟨(some 65),.load none (tZ 64),none,[4]⟩,aDk 66 65 2,⟨(some 67),.slSl 1 (tZ 63) (some (tZ 66)) none none,none,[4]⟩,oZ 68 (.append 1 8 [(.int .i64 0)] (tZ 62) (tZ 67)),mv 2 68])))
 (sr [cEk 70 22 2,mv 69 70]
 (.cond (tZ 69) (.seq (sr [fa 71 2 10,lo 72 71,cLk 73 72 1,mv 74 73,gff 75 74 2 10,gfl 76 74 75,gZ 77 74 false (.bin .gtr .num (tZ 76) (kZ 4)),pk1 78 74 77,mv 79 78,gff 80 79 1 10,gfl 81 79 80,gZ 82 79 false (.bin .lss .num (tZ 81) (kZ 0)),pk1 83 79 82,mv 84 83,gff 85 84 1 10,gfl 86 84 85,gfm 87 84 2,gZ 88 84 false (.lenSl (tZ 87)),gff 89 84 2 10,gfl 90 84 89,gZ 91 84 false (.bin .sub .num (tZ 88) (tZ 90)),gZ 92 84 false (.bin .gtr .num (tZ 86) (tZ 91)),pk1 93 84 92]
 (.cond (tZ 93) (sr [mfZ 8]
 .ret)
 .skip))
 (sr [fa 94 3 10,lo 95 94,mv 96 3,oZ 97 (.build [(.int .i64 0),(.int .i64 0),(.int .i64 0),(.int .i64 0),(.bool false),(.bool false)] [(4,1,tZ 95),(5,1,tZ 96)]),oZ 11 (.alloc [(.int .i64 0),(.int .i64 0),(.int .i64 0),(.int .i64 0),(.bool false),(.bool false)]),so 6 11 97]
 (.seq (sr [mk 98 0]
 (.block 3 (.loop (sr [cLk 99 98 4]
 (.seq (.cond (tZ 99) .skip
 (.exit 3))
 (.seq (.block 4 (sr [mv 100 98,mv 12 100]
 (sr [mv 101 12,mv 102 0,nc 103 102,fa 104 1 103,lo 105 104,le 106 105,fa 107 0 11,oZ 108 (.idxAA 4 1 (tZ 107) (tZ 101)),so 1 108 106]
 (rf [mv 109 0,mv 110 0,nc 111 110,fa 112 1 111,lo 113 112,oZ 114 (.mkSl 1 1 [(.int .i64 0)] [(0,(kZ (-1)))]),oZ 115 (.append 1 8 [(.int .i64 0)] (tZ 113) (tZ 114)),nc 116 109,fa 117 1 116,so 1 117 115]))))
 (rf [aDk 118 98 1,mv 98 118])))))))
 (.seq (.region true [mv 119 0,mv 120 0,nc 121 120,fa 122 2 121,lo 123 122,lw 124 6 11,⟨(some 125),.mkSl 6 1 [(.int .i64 0),(.int .i64 0),(.int .i64 0),(.int .i64 0),(.bool false),(.bool false)] [(0,tZ 124)],none,[4]⟩,oZ 126 (.append 6 40 [(.int .i64 0),(.int .i64 0),(.int .i64 0),(.int .i64 0),(.bool false),(.bool false)] (tZ 123) (tZ 125)),nc 127 119,fa 128 2 127,so 1 128 126])
 (.seq (sr [fa 129 2 10,lo 130 129,mk 131 0]
 (.block 5 (.loop (sr [cL 132 131 130]
 (.seq (.cond (tZ 132) .skip
 (.exit 5))
 (.seq (.block 6 (sr [mv 133 131,mv 13 133]
 (.region true [mv 134 0,mv 135 2,fa 136 1 10,lo 137 136,mv 138 13,aD 139 137 138,ix 140 1 135 139,lo 141 140,mv 142 13,oZ 143 (.bin .sub .num (kZ 4) (tZ 142)),aRk 144 143 4,fa 145 0 11,oZ 146 (.idxAA 4 1 (tZ 145) (tZ 144)),lo 147 146,ca3 148 53 134 141 147])))
 (rf [aDk 149 131 1,mv 131 149])))))))
 (sr [fa 150 0 11,fa 151 2 10,lo 152 151,oZ 153 (.bin .sub .num (kZ 5) (tZ 152)),oZ 154 (.slArr 4 1 (tZ 150) (some (kZ 1)) (some (tZ 153))),mv 14 154]
 (.region true [mv 155 2,fa 156 1 10,lo 157 156,oZ 158 (.slSl 1 (tZ 155) none (some (tZ 157)) none),ca1 159 54 158,mv 160 14,oZ 161 (.append 1 8 [(.int .i64 0)] (tZ 159) (tZ 160)),mv 162 2,fa 163 1 10,⟨(some 164),.load none (tZ 163),none,[4,6]⟩,fa 165 2 10,⟨(some 166),.load none (tZ 165),none,[4,6]⟩,aD 167 164 166,⟨(some 168),.slSl 1 (tZ 162) (some (tZ 167)) none none,none,[4,6]⟩,oZ 169 (.append 1 8 [(.int .i64 0)] (tZ 161) (tZ 168)),mv 2 169])))))))
 (sr [mfZ 8]
 .ret)))))))))
 (rf [aDk 170 17 1,mv 17 170])))))))
 (sr [mv 171 2,le 172 171,cEk 173 172 0,mv 8 173]
 .ret)))⟩
theorem cf46:cFn Tryz.prog Tryz.f27=some af46:=by kernel_rfl
theorem gd46:GD 27 af46:=gG Tryz.func27 cf46 (by kernel_rfl)
def af47:AFn:=⟨199,[(4,(some (some 2))),(5,none)],(sr [oZ 4 (.alloc [(.int .i64 0),.nilSl]),mfZ 5]
 (sr [mv 23 1,oZ 24 (.build [(.int .i64 0),.nilSl] [(0,1,tZ 23)]),oZ 6 (.alloc [(.int .i64 0),.nilSl]),so 2 6 24]
 (sr [mv 25 0,nc 26 25,fa 27 0 26,lo 28 27,le 29 28,mv 7 29]
 (sr [mv 30 0,nc 31 30,fa 32 2 31,lo 33 32,le 34 33,oZ 35 (.makeSl 1 24 [.nilSl] (tZ 34) (tZ 34)),mv 8 35]
 (sr [oZ 36 (.mkMap),mv 9 36]
 (sr [mv 37 7,mv 38 0,nc 39 38,fa 40 2 39,lo 41 40,le 42 41,oZ 43 (.bin .mul .num (kZ 2) (tZ 42)),aD 44 37 43,mv 10 44]
 (sr [mk 11 0]
 (.seq (.block 0 (.loop (.block 1 (.seq (sr [mv 45 10,aSk 46 45 1,mv 10 46]
 (sr [mv 47 10,cLk 48 47 0]
 (.cond (tZ 48) (sr [oZ 49 (.build [(.int .i64 0),.nilSl] []),so 2 4 49,mfZ 5]
 .ret)
 .skip)))
 (.seq (sr [mv 50 11,mv 51 7,oZ 52 (.bin .mul .num (kZ 2) (tZ 51)),cL 53 50 52]
 (.cond (tZ 53) (.seq (.region true [fa 54 1 6,lo 55 54,mv 56 0,nc 57 56,fa 58 0 57,lo 59 58,mv 60 11,aQk 61 60 2,ix 62 6 59 61,lw 63 6 62,⟨(some 64),.mkSl 6 1 [(.int .i64 0),(.int .i64 0),(.int .i64 0),(.int .i64 0),(.int .i64 0),(.bool false)] [(0,tZ 63)],none,[1]⟩,oZ 65 (.append 6 48 [(.int .i64 0),(.int .i64 0),(.int .i64 0),(.int .i64 0),(.int .i64 0),(.bool false)] (tZ 55) (tZ 64)),fa 66 1 6,so 1 66 65])
 (rf [mv 67 11,oZ 68 (.bin .xor .num (tZ 67) (kZ 1)),mv 11 68]))
 (sr [mv 69 11,mv 70 7,oZ 71 (.bin .mul .num (kZ 2) (tZ 70)),aS 72 69 71,aQk 73 72 4,mv 74 11,mv 75 7,oZ 76 (.bin .mul .num (kZ 2) (tZ 75)),aS 77 74 76,aRk 78 77 4,mv 12 73,mv 13 78]
 (.seq (sr [mv 79 9,mv 80 12,oZ 81 (.lookup .int (.int .i64 0) false (tZ 79) (tZ 80)),cEk 82 81 0]
 (.cond (tZ 82) (rf [mv 83 9,mv 84 12,mv 85 9,oZ 86 (.lenMap (tZ 85)),aDk 87 86 1,pZ (.mapUpd .int (tZ 83) (tZ 84) (tZ 87))])
 .skip))
 (.seq (.region true [mv 88 8,mv 89 12,mv 90 8,mv 91 12,ix 92 1 90 91,lo 93 92,fa 94 1 6,lo 95 94,le 96 95,mv 97 13,oZ 98 (.build [(.int .i64 0),(.int .i64 0)] [(0,1,tZ 96),(1,1,tZ 97)]),⟨(some 99),.mkSl 2 1 [(.int .i64 0),(.int .i64 0)] [(0,tZ 98)],none,[4,5]⟩,oZ 100 (.append 2 16 [(.int .i64 0),(.int .i64 0)] (tZ 93) (tZ 99)),ix 101 1 88 89,so 1 101 100])
 (sr [fa 102 1 6,lo 103 102,mv 104 9,mv 105 12,oZ 106 (.lookup .int (.int .i64 0) false (tZ 104) (tZ 105)),oZ 107 (.build [(.int .i64 0),(.int .i64 0),(.int .i64 0),(.int .i64 0),(.int .i64 0),(.bool false)] [(0,1,kZ 2),(3,1,tZ 106)]),oZ 108 (.mkSl 6 1 [(.int .i64 0),(.int .i64 0),(.int .i64 0),(.int .i64 0),(.int .i64 0),(.bool false)] [(0,tZ 107)]),oZ 109 (.append 6 48 [(.int .i64 0),(.int .i64 0),(.int .i64 0),(.int .i64 0),(.int .i64 0),(.bool false)] (tZ 103) (tZ 108)),fa 110 1 6,so 1 110 109]
 (rf [mv 111 11,mv 112 13,aDk 113 112 2,aRk 114 113 4,mv 115 13,aS 116 114 115,aD 117 111 116,mv 11 117])))))))
 (.seq (sr [mv 118 0,nc 119 118,fa 120 1 119,lo 121 120,mv 122 11,ix 123 1 121 122,lo 124 123,mv 11 124]
 (sr [mv 125 11,cEk 126 125 0]
 (.cond (tZ 126) (.exit 0)
 .skip)))
 (sr [mv 127 11,cLk 128 127 0]
 (.cond (tZ 128) (sr [oZ 129 (.build [(.int .i64 0),.nilSl] []),so 2 4 129,mfZ 5]
 .ret)
 .skip))))))))
 (.seq (sr [mv 130 10,cNk 131 130 0]
 (.cond (tZ 131) (sr [oZ 132 (.build [(.int .i64 0),.nilSl] []),so 2 4 132,mfZ 5]
 .ret)
 .skip))
 (.seq (sr [mv 133 8,le 134 133,mk 135 0]
 (.block 2 (.loop (sr [cL 136 135 134]
 (.seq (.cond (tZ 136) .skip
 (.exit 2))
 (.seq (.block 3 (sr [mv 137 135,ix 138 1 133 135,lo 139 138,mv 14 137,mv 15 139]
 (sr [mv 140 0,nc 141 140,fa 142 2 141,lo 143 142,mv 144 14,ix 145 6 143 144,lw 146 6 145,oZ 16 (.alloc [(.int .i64 0),(.int .i64 0),(.int .i64 0),(.int .i64 0),(.bool false),(.bool false)]),so 6 16 146]
 (.seq (.region true [mv 147 15,oZ 148 (.idxA 2 (tZ 147) (kZ 0)),lw 149 2 148,mv 150 15,oZ 151 (.idxA 2 (tZ 150) (kZ 1)),lw 152 2 151,⟨(some 17),.alloc [(.int .i64 0),(.int .i64 0)],none,[1,2,4,5]⟩,⟨(some 18),.alloc [(.int .i64 0),(.int .i64 0)],none,[1,2,4,5,6]⟩,⟨none,.store 2 (tZ 17) (tZ 149),none,[4,5]⟩,so 2 18 152])
 (.seq (sr [fa 153 1 17,lo 154 153,aRk 155 154 2,cEk 156 155 0,fa 157 4 16,lo 158 157,oZ 159 (.bin .neq .bool (tZ 156) (tZ 158))]
 (.cond (tZ 159) (rf [lw 160 2 18,lw 161 2 17,so 2 17 160,so 2 18 161])
 .skip))
 (sr [mk 19 (-1)]
 (.seq (sr [fa 162 1 18,lo 163 162,fa 164 1 17,lo 165 164,aDk 166 165 3,aRk 167 166 4,cE 168 163 167]
 (.cond (tZ 168) (rf [mk 19 1])
 .skip))
 (sr [mv 169 15,le 170 169,mk 171 0]
 (.block 4 (.loop (sr [cL 172 171 170]
 (.seq (.cond (tZ 172) .skip
 (.exit 4))
 (.seq (.block 5 (sr [ix 173 2 169 171,lw 174 2 173,oZ 21 (.alloc [(.int .i64 0),(.int .i64 0)]),so 2 21 174]
 (sr [fa 175 1 6,lo 176 175,fa 177 0 21,lo 178 177,ix 179 6 176 178,mv 22 179]
 (.region true [mv 180 22,mv 181 22,mv 182 19,lw 183 2 21,lw 184 2 17,oZ 185 (.bin .eql (.flat [.int,.int]) (tZ 183) (tZ 184)),fa 186 5 16,lo 187 186,oZ 188 (.bin .neq .bool (tZ 185) (tZ 187)),nc 189 180,fa 190 4 189,⟨none,.store 1 (tZ 190) (tZ 182),none,[3,4,7]⟩,nc 191 181,fa 192 5 191,so 1 192 188]))))
 (rf [aDk 193 171 1,mv 171 193]))))))))))))))
 (rf [aDk 194 135 1,mv 135 194])))))))
 (.seq (.region true [lw 195 2 6,lw 196 2 6,⟨(some 197),.call (.fn 51) [tZ 196],none,[0]⟩,cEk 198 197 0,so 2 4 195,mv 5 198])
 .ret)))))))))))⟩
theorem cf47:cFn Tryz.prog Tryz.f28=some af47:=by kernel_rfl
theorem gd47:GD 28 af47:=gG Tryz.func28 cf47 (by kernel_rfl)
def af48:AFn:=by
 have h:=rQ Tryz.f46
 conv at h=>rhs; reduce
 exact oR h
theorem cf48:cFn Tryz.prog Tryz.f46=some af48:=by kernel_rfl
theorem gd48:GD 46 af48:=gG Tryz.func46 cf48 (by kernel_rfl)
def af49:AFn:=by
 have h:=rQ Tryz.f47
 conv at h=>rhs; reduce
 exact oR h
theorem cf49:cFn Tryz.prog Tryz.f47=some af49:=by kernel_rfl
theorem gd49:GD 47 af49:=gG Tryz.func47 cf49 (by kernel_rfl)
def af50:AFn:=by
 have h:=rQ Tryz.f48
 conv at h=>rhs; reduce
 exact oR h
theorem cf50:cFn Tryz.prog Tryz.f48=some af50:=by kernel_rfl
theorem gd50:GD 48 af50:=gG Tryz.func48 cf50 (by kernel_rfl)
def af51:AFn:=by
 have h:=rQ Tryz.f49
 conv at h=>rhs; reduce
 exact oR h
theorem cf51:cFn Tryz.prog Tryz.f49=some af51:=by kernel_rfl
theorem gd51:GD 49 af51:=gG Tryz.func49 cf51 (by kernel_rfl)
def af52:AFn:=by
 have h:=rQ Tryz.f50
 conv at h=>rhs; reduce
 exact oR h
theorem cf52:cFn Tryz.prog Tryz.f50=some af52:=by kernel_rfl
theorem gd52:GD 50 af52:=gG Tryz.func50 cf52 (by kernel_rfl)
def af53:AFn:=by
 have h:=rQ Tryz.f44
 conv at h=>rhs; reduce
 exact oR h
theorem cf53:cFn Tryz.prog Tryz.f44=some af53:=by kernel_rfl
theorem gd53:GD 44 af53:=gG Tryz.func44 cf53 (by kernel_rfl)
def af54:AFn:=by
 have h:=rQ Tryz.f65
 conv at h=>rhs; reduce
 exact oR h
theorem cf54:cFn Tryz.prog Tryz.f65=some af54:=by kernel_rfl
theorem gd54:GD 65 af54:=gG Tryz.func65 cf54 (by kernel_rfl)
def af55:AFn:=by
 have h:=rQ Tryz.f66
 conv at h=>rhs; reduce
 exact oR h
theorem cf55:cFn Tryz.prog Tryz.f66=some af55:=by kernel_rfl
theorem gd55:GD 66 af55:=gG Tryz.func66 cf55 (by kernel_rfl)
def af56:AFn:=by
 have h:=rQ Tryz.f68
 conv at h=>rhs; reduce
 exact oR h
theorem cf56:cFn Tryz.prog Tryz.f68=some af56:=by kernel_rfl
theorem gd56:GD 68 af56:=gG Tryz.func68 cf56 (by kernel_rfl)
def af57:AFn:=by
 have h:=rQ Tryz.f69
 conv at h=>rhs; reduce
 exact oR h
theorem cf57:cFn Tryz.prog Tryz.f69=some af57:=by kernel_rfl
theorem gd57:GD 69 af57:=gG Tryz.func69 cf57 (by kernel_rfl)
def af58:AFn:=by
 have h:=rQ Tryz.f70
 conv at h=>rhs; reduce
 exact oR h
theorem cf58:cFn Tryz.prog Tryz.f70=some af58:=by kernel_rfl
theorem gd58:GD 70 af58:=gG Tryz.func70 cf58 (by kernel_rfl)
def af59:AFn:=⟨29,[(2,none),(3,none)],(sr [bo 1 0,oZ 2 (.mov (.const .nilPtr)),mk 3 0]
 (.seq (sr [fa 5 1 1,lo 6 5,le 7 6,cGk 8 7 400,mv 9 8,gZ 10 9 false (.load (some 2) (tZ 1)),gZ 11 9 false (.call (.fn 110) [tZ 10]),gZ 12 9 false (.bin .gtr .num (tZ 11) (kZ 200)),pk1 13 9 12]
 (.cond (tZ 13) (sr [oZ 2 (.mov (.const .nilPtr)),mk 3 7]
 .ret)
 .skip))
 (.seq (sr [fa 14 0 1,lo 15 14,cLk 16 15 0,mv 17 16,gff 18 17 0 1,gfl 19 17 18,gZ 20 17 false (.bin .gtr .num (tZ 19) (kZ 40)),pk1 21 17 20]
 (.cond (tZ 21) (sr [oZ 2 (.mov (.const .nilPtr)),mk 3 2]
 .ret)
 .skip))
 (sr [lw 22 2 1,oZ 23 (.build [(.int .i64 0),.nilSl,.nilSl,.nilSl,.nilSl,.nilMap,.nilSl] [(0,2,tZ 22)]),bo 24 23,mv 4 24]
 (.seq (sr [mv 25 4,ca1 26 111 25,no 27 26]
 (.cond (tZ 27) (sr [oZ 2 (.mov (.const .nilPtr)),mk 3 3]
 .ret)
 .skip))
 (sr [mv 28 4,mv 2 28,mk 3 0]
 .ret))))))⟩
theorem cf59:cFn Tryz.prog Tryz.f71=some af59:=by kernel_rfl
theorem gd59:GD 71 af59:=gG Tryz.func71 cf59 (by kernel_rfl)
def af62:AFn:=by
 have h:=rQ Tryz.f129
 conv at h=>rhs; reduce
 exact oR h
theorem cf62:cFn Tryz.prog Tryz.f129=some af62:=by kernel_rfl
theorem gd62:GD 129 af62:=gG Tryz.func129 cf62 (by kernel_rfl)
def af63:AFn:=by
 have h:=rQ Tryz.f130
 conv at h=>rhs; reduce
 exact oR h
theorem cf63:cFn Tryz.prog Tryz.f130=some af63:=by kernel_rfl
theorem gd63:GD 130 af63:=gG Tryz.func130 cf63 (by kernel_rfl)
def af64:AFn:=by
 have h:=rQ Tryz.f36
 conv at h=>rhs; reduce
 exact oR h
theorem cf64:cFn Tryz.prog Tryz.f36=some af64:=by kernel_rfl
theorem gd64:GD 36 af64:=gG Tryz.func36 cf64 (by kernel_rfl)
def af65:AFn:=⟨26,[(4,none)],(sr [mfZ 4]
 (.seq (sr [mv 6 0,le 7 6,mv 8 1,le 9 8,cN 10 7 9]
 (.cond (tZ 10) (sr [mfZ 4]
 .ret)
 .skip))
 (.seq (sr [mv 11 0,le 12 11,mk 13 0]
 (.block 0 (.loop (sr [cL 14 13 12]
 (.seq (.cond (tZ 14) .skip
 (.exit 0))
 (.seq (.block 1 (sr [mv 15 13,mv 5 15]
 (.seq (.region true [mv 16 0,mv 17 5,ix 18 6 16 17,lw 19 6 18,mv 20 1,mv 21 5,ix 22 6 20 21,lw 23 6 22,oZ 24 (.bin .neq (.flat [.int,.int,.int,.int,.int,.bool]) (tZ 19) (tZ 23))])
 (.cond (tZ 24) (sr [mfZ 4]
 .ret)
 .skip))))
 (rf [aDk 25 13 1,mv 13 25])))))))
 (sr [mtZ 4]
 .ret))))⟩
theorem cf65:cFn Tryz.prog Tryz.f37=some af65:=by kernel_rfl
theorem gd65:GD 37 af65:=gG Tryz.func37 cf65 (by kernel_rfl)
def af68:AFn:=⟨24,[(4,none)],(sr [bo 2 0,mfZ 4]
 (sr [mk 5 0]
 (.seq (sr [mk 6 0]
 (.block 0 (.loop (.seq (sr [mv 7 6,mv 8 1,cL 9 7 8]
 (.cond (tZ 9) .skip
 (.exit 0)))
 (.seq (.block 1 (sr [fa 12 1 2,lo 13 12,mv 14 6,ix 15 6 13 14,fa 16 0 15,lo 17 16,cEk 18 17 1]
 (.cond (tZ 18) (rf [mv 19 5,aDk 20 19 1,mv 5 20])
 .skip)))
 (rf [mv 10 6,aDk 11 10 1,mv 6 11]))))))
 (sr [mv 21 5,aRk 22 21 2,cEk 23 22 0,mv 4 23]
 .ret))))⟩
theorem cf68:cFn Tryz.prog Tryz.f80=some af68:=by kernel_rfl
theorem gd68:GD 80 af68:=gG Tryz.func80 cf68 (by kernel_rfl)
def af71:AFn:=by
 have h:=rQ Tryz.f73
 conv at h=>rhs; reduce
 exact oR h
theorem cf71:cFn Tryz.prog Tryz.f73=some af71:=by kernel_rfl
theorem gd71:GD 73 af71:=gG Tryz.func73 cf71 (by kernel_rfl)
def af72:AFn:=by
 have h:=rQ Tryz.f74
 conv at h=>rhs; reduce
 exact oR h
theorem cf72:cFn Tryz.prog Tryz.f74=some af72:=by kernel_rfl
theorem gd72:GD 74 af72:=gG Tryz.func74 cf72 (by kernel_rfl)
def af76:AFn:=⟨20,[],(.region true [mv 6 0,nc 7 6,fa 8 1 7,lo 9 8,mv 10 1,mv 11 0,nc 12 11,fa 13 1 12,lo 14 13,mv 15 2,mv 16 2,mv 17 1,ix 18 1 9 10,so 1 18 16,ix 19 1 14 15,so 1 19 17])⟩
theorem cf76:cFn Tryz.prog Tryz.f53=some af76:=by kernel_rfl
theorem gd76:GD 53 af76:=gG Tryz.func53 cf76 (by kernel_rfl)
def af77:AFn:=⟨8,[(2,none)],(sr [mnZ 2]
 (.seq (sr [mv 3 0,oZ 4 (.bin .eql .slice (tZ 3) (.const .nilSl))]
 (.cond (tZ 4) (sr [mnZ 2]
 .ret)
 .skip))
 (sr [oZ 5 (.mkSl 1 0 [(.int .i64 0)] []),mv 6 0,oZ 7 (.append 1 8 [(.int .i64 0)] (tZ 5) (tZ 6)),mv 2 7]
 .ret)))⟩
theorem cf77:cFn Tryz.prog Tryz.f54=some af77:=by kernel_rfl
theorem gd77:GD 54 af77:=gG Tryz.func54 cf77 (by kernel_rfl)
def af78:AFn:=⟨55,[(2,(some (some 2)))],(sr [bo 1 0,oZ 2 (.alloc [(.int .i64 0),.nilSl])]
 (sr [lw 6 2 1,ca1 7 58 6,oZ 3 (.alloc [(.int .i64 0),.nilSl]),so 2 3 7]
 (sr [mnZ 4]
 (.seq (sr [mk 5 0]
 (.block 0 (.loop (.seq (sr [mv 8 5,fa 9 1 3,lo 10 9,le 11 10,cL 12 8 11]
 (.cond (tZ 12) .skip
 (.exit 0)))
 (.seq (.block 1 (.seq (sr [fa 15 1 3,lo 16 15,mv 17 5,ix 18 6 16 17,fa 19 0 18,lo 20 19,cNk 21 20 2]
 (.cond (tZ 21) (.exit 1)
 .skip))
 (.seq (sr [mv 22 4,fa 23 1 3,lo 24 23,mv 25 5,ix 26 6 24 25,fa 27 3 26,lo 28 27,ca2 29 59 22 28,cLk 30 29 0]
 (.cond (tZ 30) (rf [mv 31 4,fa 32 1 3,lo 33 32,mv 34 5,ix 35 6 33 34,fa 36 3 35,lo 37 36,oZ 38 (.mkSl 1 1 [(.int .i64 0)] [(0,tZ 37)]),oZ 39 (.append 1 8 [(.int .i64 0)] (tZ 31) (tZ 38)),mv 4 39])
 .skip))
 (.region true [fa 40 1 3,lo 41 40,mv 42 5,mv 43 4,fa 44 1 1,lo 45 44,mv 46 5,ix 47 6 45 46,fa 48 3 47,lo 49 48,⟨(some 50),.call (.fn 59) [tZ 43,tZ 49],none,[1]⟩,aDk 51 50 1,ix 52 6 41 42,fa 53 3 52,so 1 53 51]))))
 (rf [mv 13 5,aDk 14 13 1,mv 5 14]))))))
 (sr [lw 54 2 3,so 2 2 54]
 .ret)))))⟩
theorem cf78:cFn Tryz.prog Tryz.f32=some af78:=by kernel_rfl
theorem gd78:GD 32 af78:=gG Tryz.func32 cf78 (by kernel_rfl)
def af79:AFn:=by
 have h:=rQ Tryz.f79
 conv at h=>rhs; reduce
 exact oR h
theorem cf79:cFn Tryz.prog Tryz.f79=some af79:=by kernel_rfl
theorem gd79:GD 79 af79:=gG Tryz.func79 cf79 (by kernel_rfl)
def af80:AFn:=by
 have h:=rQ Tryz.f81
 conv at h=>rhs; reduce
 exact oR h
theorem cf80:cFn Tryz.prog Tryz.f81=some af80:=by kernel_rfl
theorem gd80:GD 81 af80:=gG Tryz.func81 cf80 (by kernel_rfl)
def af81:AFn:=⟨37,[(4,none)],(sr [bo 2 0,bo 3 1,mfZ 4]
 (.seq (sr [mk 5 0]
 (.block 0 (.loop (.seq (sr [mv 6 5,fa 7 1 2,lo 8 7,le 9 8,cL 10 6 9]
 (.cond (tZ 10) .skip
 (.exit 0)))
 (.seq (.block 1 (.seq (.region true [fa 13 1 2,lo 14 13,mv 15 5,ix 16 6 14 15,lw 17 6 16,fa 18 1 3,lo 19 18,mv 20 5,ix 21 6 19 20,lw 22 6 21,oZ 23 (.bin .neq (.flat [.int,.int,.int,.int,.int,.bool]) (tZ 17) (tZ 22))])
 (.cond (tZ 23) (.seq (.region true [fa 24 1 2,lo 25 24,mv 26 5,ix 27 6 25 26,lw 28 6 27,ca1 29 121 28,fa 30 1 3,⟨(some 31),.load none (tZ 30),none,[5]⟩,mv 32 5,⟨(some 33),.idxA 6 (tZ 31) (tZ 32),none,[5]⟩,⟨(some 34),.load (some 6) (tZ 33),none,[5]⟩,ca1 35 121 34,ca2 36 120 29 35,mv 4 36])
 .ret)
 .skip)))
 (rf [mv 11 5,aDk 12 11 1,mv 5 12]))))))
 (sr [mfZ 4]
 .ret)))⟩
theorem cf81:cFn Tryz.prog Tryz.f82=some af81:=by kernel_rfl
theorem gd81:GD 82 af81:=gG Tryz.func82 cf81 (by kernel_rfl)
def af82:AFn:=by
 have h:=rQ Tryz.f83
 conv at h=>rhs; reduce
 exact oR h
theorem cf82:cFn Tryz.prog Tryz.f83=some af82:=by kernel_rfl
theorem gd82:GD 83 af82:=gG Tryz.func83 cf82 (by kernel_rfl)
def af83:AFn:=by
 have h:=rQ Tryz.f84
 conv at h=>rhs; reduce
 exact oR h
theorem cf83:cFn Tryz.prog Tryz.f84=some af83:=by kernel_rfl
theorem gd83:GD 84 af83:=gG Tryz.func84 cf83 (by kernel_rfl)
def af84:AFn:=by
 have h:=rQ Tryz.f85
 conv at h=>rhs; reduce
 exact oR h
theorem cf84:cFn Tryz.prog Tryz.f85=some af84:=by kernel_rfl
theorem gd84:GD 85 af84:=gG Tryz.func85 cf84 (by kernel_rfl)
def af85:AFn:=by
 have h:=rQ Tryz.f86
 conv at h=>rhs; reduce
 exact oR h
theorem cf85:cFn Tryz.prog Tryz.f86=some af85:=by kernel_rfl
theorem gd85:GD 86 af85:=gG Tryz.func86 cf85 (by kernel_rfl)
def af86:AFn:=by
 have h:=rQ Tryz.f87
 conv at h=>rhs; reduce
 exact oR h
theorem cf86:cFn Tryz.prog Tryz.f87=some af86:=by kernel_rfl
theorem gd86:GD 87 af86:=gG Tryz.func87 cf86 (by kernel_rfl)
def af87:AFn:=by
 have h:=rQ Tryz.f88
 conv at h=>rhs; reduce
 exact oR h
theorem cf87:cFn Tryz.prog Tryz.f88=some af87:=by kernel_rfl
theorem gd87:GD 88 af87:=gG Tryz.func88 cf87 (by kernel_rfl)
def af88:AFn:=by
 have h:=rQ Tryz.f89
 conv at h=>rhs; reduce
 exact oR h
theorem cf88:cFn Tryz.prog Tryz.f89=some af88:=by kernel_rfl
theorem gd88:GD 89 af88:=gG Tryz.func89 cf88 (by kernel_rfl)
def af89:AFn:=by
 have h:=rQ Tryz.f90
 conv at h=>rhs; reduce
 exact oR h
theorem cf89:cFn Tryz.prog Tryz.f90=some af89:=by kernel_rfl
theorem gd89:GD 90 af89:=gG Tryz.func90 cf89 (by kernel_rfl)
def af90:AFn:=by
 have h:=rQ Tryz.f91
 conv at h=>rhs; reduce
 exact oR h
theorem cf90:cFn Tryz.prog Tryz.f91=some af90:=by kernel_rfl
theorem gd90:GD 91 af90:=gG Tryz.func91 cf90 (by kernel_rfl)
def af93:AFn:=by
 have h:=rQ Tryz.f78
 conv at h=>rhs; reduce
 exact oR h
theorem cf93:cFn Tryz.prog Tryz.f78=some af93:=by kernel_rfl
theorem gd93:GD 78 af93:=gG Tryz.func78 cf93 (by kernel_rfl)
def af94:AFn:=by
 have h:=rQ Tryz.f101
 conv at h=>rhs; reduce
 exact oR h
theorem cf94:cFn Tryz.prog Tryz.f101=some af94:=by kernel_rfl
theorem gd94:GD 101 af94:=gG Tryz.func101 cf94 (by kernel_rfl)
def af95:AFn:=by
 have h:=rQ Tryz.f102
 conv at h=>rhs; reduce
 exact oR h
theorem cf95:cFn Tryz.prog Tryz.f102=some af95:=by kernel_rfl
theorem gd95:GD 102 af95:=gG Tryz.func102 cf95 (by kernel_rfl)
def af96:AFn:=by
 have h:=rQ Tryz.f103
 conv at h=>rhs; reduce
 exact oR h
theorem cf96:cFn Tryz.prog Tryz.f103=some af96:=by kernel_rfl
theorem gd96:GD 103 af96:=gG Tryz.func103 cf96 (by kernel_rfl)
def af97:AFn:=by
 have h:=rQ Tryz.f104
 conv at h=>rhs; reduce
 exact oR h
theorem cf97:cFn Tryz.prog Tryz.f104=some af97:=by kernel_rfl
theorem gd97:GD 104 af97:=gG Tryz.func104 cf97 (by kernel_rfl)
def af98:AFn:=by
 have h:=rQ Tryz.f105
 conv at h=>rhs; reduce
 exact oR h
theorem cf98:cFn Tryz.prog Tryz.f105=some af98:=by kernel_rfl
theorem gd98:GD 105 af98:=gG Tryz.func105 cf98 (by kernel_rfl)
def af99:AFn:=by
 have h:=rQ Tryz.f106
 conv at h=>rhs; reduce
 exact oR h
theorem cf99:cFn Tryz.prog Tryz.f106=some af99:=by kernel_rfl
theorem gd99:GD 106 af99:=gG Tryz.func106 cf99 (by kernel_rfl)
end Go.Known
end
section
namespace Go.Known
open Go Go.AE Go.Proofs
set_option maxRecDepth 100000
set_option maxHeartbeats 400000
def af100:AFn:=by
 have h:=rQ Tryz.f107
 conv at h=>rhs; reduce
 exact oR h
theorem Ybv:cFn Tryz.prog Tryz.f107=some af100:=by kernel_rfl
theorem Z9a:GD 107 af100:=gG Tryz.func107 Ybv (by kernel_rfl)
def af101:AFn:=by
 have h:=rQ Tryz.f108
 conv at h=>rhs; reduce
 exact oR h
theorem Z45:cFn Tryz.prog Tryz.f108=some af101:=by kernel_rfl
theorem Yca:GD 108 af101:=gG Tryz.func108 Z45 (by kernel_rfl)
def af102:AFn:=by
 have h:=rQ Tryz.f109
 conv at h=>rhs; reduce
 exact oR h
theorem Ybw:cFn Tryz.prog Tryz.f109=some af102:=by kernel_rfl
theorem Z4e:GD 109 af102:=gG Tryz.func109 Ybw (by kernel_rfl)
def af103:AFn:=⟨20,[(2,none)],(sr [bo 1 0,mk 2 0]
 (sr [mk 3 0]
 (.seq (sr [fa 6 1 1,lo 7 6,le 8 7,mk 9 0]
 (.block 0 (.loop (sr [cL 10 9 8]
 (.seq (.cond (tZ 10) .skip
 (.exit 0))
 (.seq (.block 1 (sr [ix 11 6 7 9,lw 12 6 11,oZ 5 (.alloc [(.int .i64 0),(.int .i64 0),(.int .i64 0),(.int .i64 0),(.int .i64 0),(.bool false)]),so 6 5 12]
 (sr [fa 13 0 5,lo 14 13,cEk 15 14 2]
 (.cond (tZ 15) (rf [mv 16 3,aDk 17 16 1,mv 3 17])
 .skip))))
 (rf [aDk 18 9 1,mv 9 18])))))))
 (sr [mv 19 3,mv 2 19]
 .ret))))⟩
theorem Zv0:cFn Tryz.prog Tryz.f110=some af103:=by kernel_rfl
theorem Z0w:GD 110 af103:=gG Tryz.func110 Zv0 (by kernel_rfl)
def af104:AFn:=⟨32,[(2,none)],(sr [mfZ 2]
 (.seq (sr [mv 5 0,nc 6 5,fa 7 0 6,fa 8 1 7,lo 9 8,le 10 9,cEk 11 10 0]
 (.cond (tZ 11) (sr [mtZ 2]
 .ret)
 .skip))
 (.seq (sr [mv 12 0,oZ 13 (.mkFunc (.func 140) [tZ 12] []),mv 14 0,oZ 15 (.mkFunc (.func 141) [tZ 14] []),mv 16 0,oZ 17 (.mkFunc (.func 142) [tZ 16] []),mv 18 0,oZ 19 (.mkFunc (.func 143) [tZ 18] []),mv 20 0,oZ 21 (.mkFunc (.func 144) [tZ 20] []),oZ 22 (.mkSl 1 5 [.nilFunc] [(0,tZ 13),(1,tZ 15),(2,tZ 17),(3,tZ 19),(4,tZ 21)]),le 23 22,mk 24 0]
 (.block 0 (.loop (sr [cL 25 24 23]
 (.seq (.cond (tZ 25) .skip
 (.exit 0))
 (.seq (.block 1 (sr [ix 26 1 22 24,lo 27 26,mv 4 27]
 (sr [mv 28 4,oZ 29 (.call (tZ 28) []),no 30 29]
 (.cond (tZ 30) (sr [mfZ 2]
 .ret)
 .skip))))
 (rf [aDk 31 24 1,mv 24 31])))))))
 (sr [mtZ 2]
 .ret))))⟩
theorem Zs7:cFn Tryz.prog Tryz.f111=some af104:=by kernel_rfl
theorem Z7c:GD 111 af104:=gG Tryz.func111 Zs7 (by kernel_rfl)
def af105:AFn:=⟨156,[(4,none)],(sr [mk 4 0]
 (.seq (.region true [mv 15 0,nc 16 15,fa 17 0 16,fa 18 1 17,lo 19 18,le 20 19,mv 21 0,nc 22 21,fa 23 3 22,lo 24 23,le 25 24,mv 5 20,mv 6 25])
 (.seq (sr [mv 26 1,mv 27 5,oZ 28 (.bin .mul .num (kZ 2) (tZ 27)),cH 29 26 28]
 (.cond (tZ 29) (sr [mv 30 1,mv 31 5,oZ 32 (.bin .mul .num (kZ 2) (tZ 31)),aS 33 30 32,aQk 34 33 2,mv 7 34]
 (sr [mv 35 1,aRk 36 35 2,cEk 37 36 0,mv 8 37]
 (sr [mv 38 0,nc 39 38,fa 40 3 39,lo 41 40,mv 42 7,ix 43 1 41 42,lo 44 43,mv 9 44]
 (.seq (sr [mv 45 8]
 (.cond (tZ 45) (.region true [mv 46 0,nc 47 46,fa 48 3 47,lo 49 48,mv 50 7,aDk 51 50 1,mv 52 6,aR 53 51 52,ix 54 1 49 53,lo 55 54,mv 9 55])
 .skip))
 (.seq (sr [mv 56 8,mv 57 0,nc 58 57,fa 59 2 58,lo 60 59,mv 61 9,ix 62 1 60 61,lo 63 62,oZ 64 (.bin .eql .bool (tZ 56) (tZ 63))]
 (.cond (tZ 64) (sr [mv 65 0,mv 66 9,ca2 67 189 65 66,mv 4 67]
 .ret)
 .skip))
 (sr [mv 68 0,mv 69 9,ca2 70 190 68 69,mv 4 70]
 .ret))))))
 .skip))
 (sr [mv 71 1,aRk 72 71 2,cEk 73 72 0,mv 10 73]
 (sr [mv 74 1,aQk 75 74 2,mv 11 75]
 (.seq (sr [mv 76 10]
 (.cond (tZ 76) (rf [mv 77 11,aDk 78 77 1,mv 79 5,aR 80 78 79,mv 11 80])
 .skip))
 (sr [mv 81 0,nc 82 81,fa 83 0 82,fa 84 1 83,lo 85 84,mv 86 11,ix 87 6 85 86,lw 88 6 87,oZ 12 (.alloc [(.int .i64 0),(.int .i64 0),(.int .i64 0),(.int .i64 0),(.int .i64 0),(.bool false)]),so 6 12 88]
 (.seq (sr [fa 89 0 12,lo 90 89,cEk 91 90 1]
 (.cond (tZ 91) (.seq (sr [mv 92 10,mv 93 0,nc 94 93,fa 95 2 94,lo 96 95,mv 97 11,ix 98 1 96 97,lo 99 98,oZ 100 (.bin .eql .bool (tZ 92) (tZ 99))]
 (.cond (tZ 100) (sr [mv 101 5,oZ 102 (.bin .mul .num (kZ 2) (tZ 101)),mv 103 0,nc 104 103,fa 105 4 104,lo 106 105,mv 107 11,ix 108 1 106 107,lo 109 108,oZ 110 (.bin .mul .num (kZ 2) (tZ 109)),aD 111 102 110,mv 4 111]
 .ret)
 .skip))
 (sr [mv 112 5,oZ 113 (.bin .mul .num (kZ 2) (tZ 112)),mv 114 0,nc 115 114,fa 116 4 115,lo 117 116,mv 118 11,ix 119 1 117 118,lo 120 119,aSk 121 120 1,mv 122 6,aD 123 121 122,mv 124 6,aR 125 123 124,oZ 126 (.bin .mul .num (kZ 2) (tZ 125)),aD 127 113 126,aDk 128 127 1,mv 4 128]
 .ret))
 .skip))
 (.seq (.region true [mv 129 0,nc 130 129,fa 131 5 130,lo 132 131,fa 133 3 12,lo 134 133,oZ 135 (.lookup .int (.agg [(.int .i64 0),(.int .i64 0)]) false (tZ 132) (tZ 134)),⟨(some 13),.alloc [(.int .i64 0),(.int .i64 0)],none,[3,5,6]⟩,so 2 13 135])
 (sr [oZ 136 (.idxAA 2 1 (tZ 13) (kZ 1)),lo 137 136,mv 14 137]
 (.seq (sr [fa 138 5 12,lo 139 138]
 (.cond (tZ 139) (rf [oZ 140 (.idxAA 2 1 (tZ 13) (kZ 0)),lo 141 140,mv 14 141])
 .skip))
 (.seq (sr [mv 142 10,fa 143 5 12,lo 144 143,fa 145 4 12,lo 146 145,cEk 147 146 1,oZ 148 (.bin .eql .bool (tZ 144) (tZ 147)),oZ 149 (.bin .eql .bool (tZ 142) (tZ 148))]
 (.cond (tZ 149) (sr [mv 150 0,mv 151 14,ca2 152 190 150 151,mv 4 152]
 .ret)
 .skip))
 (sr [mv 153 0,mv 154 14,ca2 155 189 153 154,mv 4 155]
 .ret)))))))))))))⟩
theorem Zu9:cFn Tryz.prog Tryz.f174=some af105:=by kernel_rfl
theorem Yaz:GD 174 af105:=gG Tryz.func174 Zu9 (by kernel_rfl)
def af109:AFn:=by
 have h:=rQ Tryz.f72
 conv at h=>rhs; reduce
 exact oR h
theorem Ybx:cFn Tryz.prog Tryz.f72=some af109:=by kernel_rfl
theorem Ycx:GD 72 af109:=gG Tryz.func72 Ybx (by kernel_rfl)
def af110:AFn:=by
 have h:=rQ Tryz.f115
 conv at h=>rhs; reduce
 exact oR h
theorem Ybl:cFn Tryz.prog Tryz.f115=some af110:=by kernel_rfl
theorem Z7b:GD 115 af110:=gG Tryz.func115 Ybl (by kernel_rfl)
def af111:AFn:=by
 have h:=rQ Tryz.f116
 conv at h=>rhs; reduce
 exact oR h
theorem Z9x:cFn Tryz.prog Tryz.f116=some af111:=by kernel_rfl
theorem Z4k:GD 116 af111:=gG Tryz.func116 Z9x (by kernel_rfl)
def af114:AFn:=⟨9,[(2,(some (some 2)))],(sr [bo 1 0,oZ 2 (.alloc [(.int .i64 0),.nilSl])]
 (.seq (.region true [fa 3 0 1,lo 4 3,fa 5 1 1,lo 6 5,⟨(some 7),.append 6 48 [(.int .i64 0),(.int .i64 0),(.int .i64 0),(.int .i64 0),(.int .i64 0),(.bool false)] (.const .nilSl) (tZ 6),none,[1]⟩,oZ 8 (.build [(.int .i64 0),.nilSl] [(0,1,tZ 4),(1,1,tZ 7)]),so 2 2 8])
 .ret))⟩
theorem Zr0:cFn Tryz.prog Tryz.f58=some af114:=by kernel_rfl
theorem Z7q:GD 58 af114:=gG Tryz.func58 Zr0 (by kernel_rfl)
def af115:AFn:=by
 have h:=rQ Tryz.f119
 conv at h=>rhs; reduce
 exact oR h
theorem Z08:cFn Tryz.prog Tryz.f119=some af115:=by kernel_rfl
theorem Z39:GD 119 af115:=gG Tryz.func119 Z08 (by kernel_rfl)
def af116:AFn:=by
 have h:=rQ Tryz.f120
 conv at h=>rhs; reduce
 exact oR h
theorem Zzx:cFn Tryz.prog Tryz.f120=some af116:=by kernel_rfl
theorem Z5k:GD 120 af116:=gG Tryz.func120 Zzx (by kernel_rfl)
def af117:AFn:=by
 have h:=rQ Tryz.f121
 conv at h=>rhs; reduce
 exact oR h
theorem Z56:cFn Tryz.prog Tryz.f121=some af117:=by kernel_rfl
theorem Yc8:GD 121 af117:=gG Tryz.func121 Z56 (by kernel_rfl)
def af118:AFn:=by
 have h:=rQ Tryz.f122
 conv at h=>rhs; reduce
 exact oR h
theorem Yac:cFn Tryz.prog Tryz.f122=some af118:=by kernel_rfl
theorem Z85:GD 122 af118:=gG Tryz.func122 Yac (by kernel_rfl)
def af119:AFn:=by
 have h:=rQ Tryz.f123
 conv at h=>rhs; reduce
 exact oR h
theorem Z2g:cFn Tryz.prog Tryz.f123=some af119:=by kernel_rfl
theorem Z2l:GD 123 af119:=gG Tryz.func123 Z2g (by kernel_rfl)
def af120:AFn:=by
 have h:=rQ Tryz.f124
 conv at h=>rhs; reduce
 exact oR h
theorem Yb6:cFn Tryz.prog Tryz.f124=some af120:=by kernel_rfl
theorem Yb1:GD 124 af120:=gG Tryz.func124 Yb6 (by kernel_rfl)
def af121:AFn:=by
 have h:=rQ Tryz.f125
 conv at h=>rhs; reduce
 exact oR h
theorem Z2m:cFn Tryz.prog Tryz.f125=some af121:=by kernel_rfl
theorem Z18:GD 125 af121:=gG Tryz.func125 Z2m (by kernel_rfl)
def af124:AFn:=by
 have h:=rQ Tryz.f128
 conv at h=>rhs; reduce
 exact oR h
theorem Ya3:cFn Tryz.prog Tryz.f128=some af124:=by kernel_rfl
theorem Z0p:GD 128 af124:=gG Tryz.func128 Ya3 (by kernel_rfl)
def af125:AFn:=by
 have h:=rQ Tryz.f134
 conv at h=>rhs; reduce
 exact oR h
theorem Z22:cFn Tryz.prog Tryz.f134=some af125:=by kernel_rfl
theorem Z10:GD 134 af125:=gG Tryz.func134 Z22 (by kernel_rfl)
def af126:AFn:=by
 have h:=rQ Tryz.f135
 conv at h=>rhs; reduce
 exact oR h
theorem Z6s:cFn Tryz.prog Tryz.f135=some af126:=by kernel_rfl
theorem Z3o:GD 135 af126:=gG Tryz.func135 Z6s (by kernel_rfl)
def af131:AFn:=⟨11,[(2,none)],(sr [bo 1 0,mfZ 2]
 (sr [lo 3 1,nc 4 3,fa 5 0 4,fa 6 1 5,lo 7 6,oZ 8 (.mkFunc (.func 172) [] [tZ 1]),ca2 9 171 7 8,no 10 9,mv 2 10]
 .ret))⟩
theorem Zru:cFn Tryz.prog Tryz.f140=some af131:=by kernel_rfl
theorem Zzv:GD 140 af131:=gG Tryz.func140 Zru (by kernel_rfl)
def af132:AFn:=⟨21,[(2,none)],(sr [mfZ 2]
 (sr [mv 3 0,nc 4 3,fa 5 0 4,fa 6 1 5,lo 7 6,oZ 8 (.idxA 6 (tZ 7) (kZ 0)),fa 9 0 8,lo 10 9,cEk 11 10 1,mv 12 11,gtm 13 12 0,gZ 14 12 true (.nilChk (tZ 13)),gtf 15 12 0 14,gZ 16 12 true (.load (some 2) (tZ 15)),gZ 17 12 true (.call (.fn 173) [tZ 16]),gZ 18 12 true (.bin .rem .num (tZ 17) (kZ 2)),gZ 19 12 true (.bin .eql .num (tZ 18) (kZ 0)),pk0 20 12 19,mv 2 20]
 .ret))⟩
theorem Zsq:cFn Tryz.prog Tryz.f141=some af132:=by kernel_rfl
theorem Yar:GD 141 af132:=gG Tryz.func141 Zsq (by kernel_rfl)
def af133:AFn:=⟨171,[(2,none)],(sr [mfZ 2]
 (sr [mv 14 0,mv 15 0,nc 16 15,fa 17 0 16,fa 18 0 17,lo 19 18,aDk 20 19 1,oZ 21 (.makeSl 1 8 [(.int .i64 0)] (tZ 20) (tZ 20)),nc 22 14,fa 23 6 22,so 1 23 21]
 (sr [mv 24 0,mv 25 0,nc 26 25,fa 27 0 26,fa 28 1 27,lo 29 28,le 30 29,oZ 31 (.makeSl 1 1 [(.bool false)] (tZ 30) (tZ 30)),nc 32 24,fa 33 2 32,so 1 33 31]
 (sr [mv 34 0,mv 35 0,nc 36 35,fa 37 0 36,fa 38 1 37,lo 39 38,le 40 39,oZ 41 (.makeSl 1 8 [(.int .i64 0)] (tZ 40) (tZ 40)),nc 42 34,fa 43 4 42,so 1 43 41]
 (sr [mtZ 3]
 (.seq (sr [mv 44 0,nc 45 44,fa 46 0 45,fa 47 1 46,lo 48 47,le 49 48,mk 50 0]
 (.block 0 (.loop (sr [cL 51 50 49]
 (.seq (.cond (tZ 51) .skip
 (.exit 0))
 (.seq (.block 1 (sr [mv 52 50,ix 53 6 48 50,lw 54 6 53,oZ 5 (.alloc [(.int .i64 0),(.int .i64 0),(.int .i64 0),(.int .i64 0),(.int .i64 0),(.bool false)]),mv 4 52,so 6 5 54]
 (sr [fa 55 0 5,lo 56 55,cEk 57 56 1]
 (.cond (tZ 57) (.seq (.region true [mv 58 0,nc 59 58,fa 60 6 59,lo 61 60,fa 62 1 5,lo 63 62,ix 64 1 61 63,lo 65 64,aDk 66 65 1,ix 67 1 61 63,so 1 67 66])
 (sr [mv 68 0,nc 69 68,fa 70 2 69,lo 71 70,mv 72 4,mv 73 3,ix 74 1 71 72,so 1 74 73]
 (rf [mv 75 3,no 76 75,mv 3 76])))
 .skip))))
 (rf [aDk 77 50 1,mv 50 77])))))))
 (sr [mv 78 0,nc 79 78,fa 80 0 79,fa 81 0 80,lo 82 81,aDk 83 82 1,oZ 84 (.makeSl 1 8 [(.int .i64 0)] (tZ 83) (tZ 83)),mv 6 84]
 (sr [mk 7 0]
 (.seq (sr [mv 85 0,nc 86 85,fa 87 6 86,lo 88 87,le 89 88,mk 90 0]
 (.block 2 (.loop (sr [cL 91 90 89]
 (.seq (.cond (tZ 91) .skip
 (.exit 2))
 (.seq (.block 3 (sr [mv 92 90,ix 93 1 88 90,lo 94 93,mv 8 92,mv 9 94]
 (sr [mv 95 6,mv 96 8,mv 97 7,ix 98 1 95 96,so 1 98 97]
 (rf [mv 99 7,mv 100 9,aD 101 99 100,mv 7 101]))))
 (rf [aDk 102 90 1,mv 90 102])))))))
 (sr [mv 103 0,mv 104 7,oZ 105 (.makeSl 1 8 [(.int .i64 0)] (tZ 104) (tZ 104)),nc 106 103,fa 107 3 106,so 1 107 105]
 (sr [mv 108 7,oZ 109 (.makeSl 1 1 [(.bool false)] (tZ 108) (tZ 108)),mv 10 109]
 (.seq (sr [mv 110 0,nc 111 110,fa 112 0 111,fa 113 1 112,lo 114 113,le 115 114,mk 116 0]
 (.block 4 (.loop (sr [cL 117 116 115]
 (.seq (.cond (tZ 117) .skip
 (.exit 4))
 (.seq (.block 5 (sr [mv 118 116,ix 119 6 114 116,lw 120 6 119,oZ 12 (.alloc [(.int .i64 0),(.int .i64 0),(.int .i64 0),(.int .i64 0),(.int .i64 0),(.bool false)]),mv 11 118,so 6 12 120]
 (.seq (sr [fa 121 0 12,lo 122 121,cNk 123 122 1]
 (.cond (tZ 123) (.exit 5)
 .skip))
 (.seq (.seq (.region true [fa 124 2 12,lo 125 124,cLk 126 125 1,mv 127 126,gff 128 127 2 12,gfl 129 127 128,gfm 130 127 0,gZ 131 127 false (.nilChk (tZ 130)),gff 132 127 6 131,gfl 133 127 132,gff 134 127 1 12,gfl 135 127 134,gZ 136 127 false (.idxA 1 (tZ 133) (tZ 135)),gfl 137 127 136,gZ 138 127 false (.bin .gtr .num (tZ 129) (tZ 137)),pk1 139 127 138])
 (.cond (tZ 139) (sr [mfZ 2]
 .ret)
 .skip))
 (.seq (.region true [mv 140 6,fa 141 1 12,lo 142 141,ix 143 1 140 142,lo 144 143,fa 145 2 12,lo 146 145,aD 147 144 146,aSk 148 147 1,mv 13 148])
 (.seq (sr [mv 149 10,mv 150 13,ix 151 1 149 150,lo 152 151]
 (.cond (tZ 152) (sr [mfZ 2]
 .ret)
 .skip))
 (.region true [mv 153 10,mv 154 13,mv 155 0,nc 156 155,fa 157 3 156,lo 158 157,mv 159 13,mv 160 0,nc 161 160,fa 162 4 161,lo 163 162,mv 164 11,mv 165 11,mv 166 13,ix 167 1 153 154,pZ (.store 1 (tZ 167) (bZ true)),ix 168 1 158 159,so 1 168 165,ix 169 1 163 164,so 1 169 166])))))))
 (rf [aDk 170 116 1,mv 116 170])))))))
 (sr [mtZ 2]
 .ret)))))))))))))⟩
theorem Zsk:cFn Tryz.prog Tryz.f142=some af133:=by kernel_rfl
theorem Z7y:GD 142 af133:=gG Tryz.func142 Zsk (by kernel_rfl)
def af134:AFn:=⟨103,[(2,none)],(sr [mfZ 2]
 (sr [mv 9 0,nc 10 9,fa 11 0 10,lw 12 2 11,ca1 13 110 12,mv 3 13]
 (.seq (sr [mv 14 3,aRk 15 14 2,cNk 16 15 0]
 (.cond (tZ 16) (sr [mfZ 2]
 .ret)
 .skip))
 (sr [mv 17 0,oZ 18 (.mkMap),nc 19 17,fa 20 5 19,so 1 20 18]
 (.seq (sr [mv 21 0,nc 22 21,fa 23 0 22,fa 24 1 23,lo 25 24,le 26 25,mk 27 0]
 (.block 0 (.loop (sr [cL 28 27 26]
 (.seq (.cond (tZ 28) .skip
 (.exit 0))
 (.seq (.block 1 (sr [mv 29 27,ix 30 6 25 27,lw 31 6 30,oZ 5 (.alloc [(.int .i64 0),(.int .i64 0),(.int .i64 0),(.int .i64 0),(.int .i64 0),(.bool false)]),mv 4 29,so 6 5 31]
 (.seq (sr [fa 32 0 5,lo 33 32,cNk 34 33 2]
 (.cond (tZ 34) (.exit 1)
 .skip))
 (.seq (sr [fa 35 3 5,lo 36 35,cLk 37 36 1,mv 38 37,gff 39 38 3 5,gfl 40 38 39,gfm 41 38 3,gZ 42 38 false (.bin .quo .num (tZ 41) (kZ 2)),gZ 43 38 false (.bin .gtr .num (tZ 40) (tZ 42)),pk1 44 38 43]
 (.cond (tZ 44) (sr [mfZ 2]
 .ret)
 .skip))
 (.seq (.region true [mv 46 0,nc 47 46,fa 48 5 47,lo 49 48,fa 50 3 5,lo 51 50,oZ 52 (.lookup .int (.agg [(.int .i64 0),(.int .i64 0)]) true (tZ 49) (tZ 51)),mv 45 52,ex 53 45 0,ex 54 45 1,⟨(some 6),.alloc [(.int .i64 0),(.int .i64 0)],none,[3,5,6]⟩,so 2 6 53,mv 7 54])
 (.seq (sr [mv 55 7,no 56 55]
 (.cond (tZ 56) (rf [oZ 57 (.build [(.int .i64 0),(.int .i64 0)] [(0,1,(kZ (-1))),(1,1,(kZ (-1)))]),so 2 6 57])
 .skip))
 (sr [mk 8 0]
 (.seq (sr [fa 58 5 5,lo 59 58]
 (.cond (tZ 59) (rf [mk 8 1])
 .skip))
 (.seq (.seq (.region true [mv 60 8,oZ 61 (.idxAA 2 1 (tZ 6) (tZ 60)),lo 62 61,cHk 63 62 0,mv 64 63,gfm 65 64 7,gfm 66 64 65,gtm 67 66 0,gZ 68 66 true (.nilChk (tZ 67)),gtf 69 66 0 68,gtf 70 66 1 69,gtl 71 66 70,gtm 72 66 8,gZ 73 66 true (.bin .sub .num (kZ 1) (tZ 72)),gZ 74 66 true (.idxAA 2 1 (tZ 6) (tZ 73)),gtl 75 66 74,gZ 76 66 true (.idxA 6 (tZ 71) (tZ 75)),gtf 77 66 4 76,gtl 78 66 77,gtf 79 66 4 5,gtl 80 66 79,gZ 81 66 true (.bin .neq .num (tZ 78) (tZ 80)),gZ 82 64 false (.pick (tZ 66) (tZ 81) (bZ false)),pk1 83 64 82])
 (.cond (tZ 83) (sr [mfZ 2]
 .ret)
 .skip))
 (sr [mv 84 8,mv 85 4,oZ 86 (.idxAA 2 1 (tZ 6) (tZ 84)),so 1 86 85]
 (.region true [mv 87 0,nc 88 87,fa 89 5 88,lo 90 89,fa 91 3 5,lo 92 91,lw 93 2 6,pZ (.mapUpd .int (tZ 90) (tZ 92) (tZ 93))])))))))))))
 (rf [aDk 94 27 1,mv 27 94])))))))
 (sr [mv 95 0,nc 96 95,fa 97 5 96,lo 98 97,oZ 99 (.lenMap (tZ 98)),mv 100 3,aQk 101 100 2,cE 102 99 101,mv 2 102]
 .ret))))))⟩
theorem Zxv:cFn Tryz.prog Tryz.f143=some af134:=by kernel_rfl
theorem Z79:GD 143 af134:=gG Tryz.func143 Zxv (by kernel_rfl)
def af135:AFn:=⟨61,[(2,none)],(sr [mfZ 2]
 (.seq (.region true [mv 8 0,nc 9 8,fa 10 0 9,fa 11 1 10,lo 12 11,le 13 12,oZ 14 (.bin .mul .num (kZ 2) (tZ 13)),mv 15 0,nc 16 15,fa 17 3 16,lo 18 17,le 19 18,oZ 20 (.bin .mul .num (kZ 2) (tZ 19)),aD 21 14 20,mv 3 21])
 (sr [mv 22 3,oZ 23 (.makeSl 1 1 [(.bool false)] (tZ 22) (tZ 22)),mv 4 23]
 (sr [mk 5 0]
 (.seq (sr [mv 24 3,mk 25 0]
 (.block 0 (.loop (sr [cL 26 25 24]
 (.seq (.cond (tZ 26) .skip
 (.exit 0))
 (.seq (.block 1 (sr [mv 27 25,mv 6 27]
 (.seq (sr [mv 28 4,mv 29 6,ix 30 1 28 29,lo 31 30]
 (.cond (tZ 31) (.exit 1)
 .skip))
 (sr [mv 32 5,aDk 33 32 1,mv 5 33]
 (sr [mv 34 6,mv 7 34]
 (.block 2 (.loop (.seq (sr [mv 35 4,mv 36 7,ix 37 1 35 36,lo 38 37,no 39 38]
 (.cond (tZ 39) .skip
 (.exit 2)))
 (.seq (.block 3 (rf [mv 43 4,mv 44 7,ix 45 1 43 44,pZ (.store 1 (tZ 45) (bZ true))]))
 (rf [mv 40 0,mv 41 7,ca2 42 174 40 41,mv 7 42]))))))))))
 (rf [aDk 46 25 1,mv 25 46])))))))
 (.seq (.region true [mv 47 5,mv 48 0,nc 49 48,fa 50 3 49,lo 51 50,le 52 51,mv 53 0,nc 54 53,fa 55 5 54,lo 56 55,oZ 57 (.lenMap (tZ 56)),aD 58 52 57,aDk 59 58 2,cE 60 47 59,mv 2 60])
 .ret))))))⟩
theorem Zw3:cFn Tryz.prog Tryz.f144=some af135:=by kernel_rfl
theorem Yb0:GD 144 af135:=gG Tryz.func144 Zw3 (by kernel_rfl)
def af136:AFn:=⟨20,[(4,none)],(sr [mk 4 0]
 (sr [mv 6 0,nc 7 6,fa 8 0 7,fa 9 1 8,lo 10 9,le 11 10,mv 5 11]
 (sr [mv 12 1,aSk 13 12 1,mv 14 5,aD 15 13 14,mv 16 5,aR 17 15 16,oZ 18 (.bin .mul .num (kZ 2) (tZ 17)),aDk 19 18 1,mv 4 19]
 .ret)))⟩
theorem Ztf:cFn Tryz.prog Tryz.f189=some af136:=by kernel_rfl
theorem Ybg:GD 189 af136:=gG Tryz.func189 Ztf (by kernel_rfl)
def af137:AFn:=⟨7,[(4,none)],(sr [mk 4 0]
 (sr [mv 5 1,oZ 6 (.bin .mul .num (kZ 2) (tZ 5)),mv 4 6]
 .ret))⟩
theorem Ztj:cFn Tryz.prog Tryz.f190=some af137:=by kernel_rfl
theorem Z8o:GD 190 af137:=gG Tryz.func190 Ztj (by kernel_rfl)
def af139:AFn:=by
 have h:=rQ Tryz.f112
 conv at h=>rhs; reduce
 exact oR h
theorem Z7r:cFn Tryz.prog Tryz.f112=some af139:=by kernel_rfl
theorem Z3r:GD 112 af139:=gG Tryz.func112 Z7r (by kernel_rfl)
def af140:AFn:=by
 have h:=rQ Tryz.f113
 conv at h=>rhs; reduce
 exact oR h
theorem Yde:cFn Tryz.prog Tryz.f113=some af140:=by kernel_rfl
theorem Zzt:GD 113 af140:=gG Tryz.func113 Yde (by kernel_rfl)
def af141:AFn:=⟨30,[(4,none)],(sr [mfZ 4]
 (.seq (sr [mv 6 0,le 7 6,mk 8 0]
 (.block 0 (.loop (sr [cL 9 8 7]
 (.seq (.cond (tZ 9) .skip
 (.exit 0))
 (.seq (.block 1 (sr [mv 10 8,mv 5 10]
 (.seq (.seq (.region true [mv 11 0,mv 12 5,ix 13 6 11 12,lw 14 6 13,mv 15 1,mv 16 5,ix 17 6 15 16,lw 18 6 17,oZ 19 (.bin .eql (.flat [.int,.int,.int,.int,.int,.bool]) (tZ 14) (tZ 18))])
 (.cond (tZ 19) (.exit 1)
 .skip))
 (.seq (.region true [mv 20 0,mv 21 5,ix 22 6 20 21,lw 23 6 22,mv 24 1,mv 25 5,ix 26 6 24 25,lw 27 6 26,ca2 28 146 23 27,mv 4 28])
 .ret))))
 (rf [aDk 29 8 1,mv 8 29])))))))
 (sr [mfZ 4]
 .ret)))⟩
theorem Zzk:cFn Tryz.prog Tryz.f114=some af141:=by kernel_rfl
theorem Yb5:GD 114 af141:=gG Tryz.func114 Zzk (by kernel_rfl)
def af142:AFn:=by
 have h:=rQ Tryz.f147
 conv at h=>rhs; reduce
 exact oR h
theorem Z5b:cFn Tryz.prog Tryz.f147=some af142:=by kernel_rfl
theorem Z98:GD 147 af142:=gG Tryz.func147 Z5b (by kernel_rfl)
def af147:AFn:=by
 have h:=rQ Tryz.f152
 conv at h=>rhs; reduce
 exact oR h
theorem Z2n:cFn Tryz.prog Tryz.f152=some af147:=by kernel_rfl
theorem Yb4:GD 152 af147:=gG Tryz.func152 Z2n (by kernel_rfl)
def af150:AFn:=⟨19,[(4,none)],(sr [bo 3 1,mk 4 0]
 (.seq (sr [mv 6 0,le 7 6,mk 8 0]
 (.block 0 (.loop (sr [cL 9 8 7]
 (.seq (.cond (tZ 9) .skip
 (.exit 0))
 (.seq (.block 1 (sr [mv 10 8,mv 5 10]
 (.seq (.region true [lw 11 3 3,mv 12 0,mv 13 5,ix 14 3 12 13,lw 15 3 14,oZ 16 (.bin .eql (.flat [.int,.bool,.int]) (tZ 11) (tZ 15))])
 (.cond (tZ 16) (sr [mv 17 5,mv 4 17]
 .ret)
 .skip))))
 (rf [aDk 18 8 1,mv 8 18])))))))
 (sr [mk 4 (-1)]
 .ret)))⟩
theorem Z6t:cFn Tryz.prog Tryz.f155=some af150:=by kernel_rfl
theorem Yck:GD 155 af150:=gG Tryz.func155 Z6t (by kernel_rfl)
def af151:AFn:=by
 have h:=rQ Tryz.f156
 conv at h=>rhs; reduce
 exact oR h
theorem Z7o:cFn Tryz.prog Tryz.f156=some af151:=by kernel_rfl
theorem Z6r:GD 156 af151:=gG Tryz.func156 Z7o (by kernel_rfl)
def af153:AFn:=by
 have h:=rQ Tryz.f158
 conv at h=>rhs; reduce
 exact oR h
theorem Z31:cFn Tryz.prog Tryz.f158=some af153:=by kernel_rfl
theorem Ya9:GD 158 af153:=gG Tryz.func158 Z31 (by kernel_rfl)
def af154:AFn:=by
 have h:=rQ Tryz.f159
 conv at h=>rhs; reduce
 exact oR h
theorem Z53:cFn Tryz.prog Tryz.f159=some af154:=by kernel_rfl
theorem Z9t:GD 159 af154:=gG Tryz.func159 Z53 (by kernel_rfl)
def af155:AFn:=by
 have h:=rQ Tryz.f160
 conv at h=>rhs; reduce
 exact oR h
theorem Ycy:cFn Tryz.prog Tryz.f160=some af155:=by kernel_rfl
theorem Z7e:GD 160 af155:=gG Tryz.func160 Ycy (by kernel_rfl)
def af164:AFn:=by
 have h:=rQ Tryz.f169
 conv at h=>rhs; reduce
 exact oR h
theorem Yct:cFn Tryz.prog Tryz.f169=some af164:=by kernel_rfl
theorem Z4o:GD 169 af164:=gG Tryz.func169 Yct (by kernel_rfl)
def af166:AFn:=⟨9,[(4,none)],(sr [mfZ 4]
 (sr [mv 5 0,mv 6 1,ca2 7 188 5 6,cHk 8 7 0,mv 4 8]
 .ret))⟩
theorem Zvi:cFn Tryz.prog Tryz.f171=some af166:=by kernel_rfl
theorem Zz7:GD 171 af166:=gG Tryz.func171 Zvi (by kernel_rfl)
def af167:AFn:=⟨55,[(3,none)],(sr [bo 2 0,mfZ 3]
 (.seq (sr [fa 4 0 2,lo 5 4]
 (.block 0 (sr [cEk 7 5 1,mv 6 7]
 (.cond (tZ 6) (.seq (.region true [fa 8 1 2,lo 9 8,cLk 10 9 0,mv 11 10,gff 12 11 1 2,gfl 13 11 12,gfl 14 11 1,gZ 15 11 false (.nilChk (tZ 14)),gff 16 11 0 15,gff 17 11 0 16,gfl 18 11 17,gZ 19 11 false (.bin .gtr .num (tZ 13) (tZ 18)),pk1 20 11 19,mv 21 20,gff 22 21 3 2,gfl 23 21 22,gZ 24 21 false (.bin .neq .num (tZ 23) (kZ 0)),pk1 25 21 24,mv 26 25,gff 27 26 4 2,gfl 28 26 27,gZ 29 26 false (.bin .neq .num (tZ 28) (kZ 0)),pk1 30 26 29,mv 31 30,gff 32 31 5 2,gfl 33 31 32,pk1 34 31 33,mv 3 34])
 .ret)
 (sr [cEk 36 5 2,mv 35 36]
 (.cond (tZ 35) (sr [fa 37 1 2,lo 38 37,cNk 39 38 0,mv 40 39,gff 41 40 2 2,gfl 42 40 41,gZ 43 40 false (.bin .neq .num (tZ 42) (kZ 0)),pk1 44 40 43,mv 45 44,gff 46 45 4 2,gfl 47 45 46,gZ 48 45 false (.bin .neq .num (tZ 47) (kZ 1)),gfm 49 45 48,gtf 50 49 4 2,gtl 51 49 50,gZ 52 49 true (.bin .neq .num (tZ 51) (kZ (-1))),gZ 53 45 false (.pick (tZ 49) (tZ 52) (bZ false)),pk1 54 45 53,mv 3 54]
 .ret)
 .skip))))))
 (sr [mtZ 3]
 .ret)))⟩
theorem Zyl:cFn Tryz.prog Tryz.f172=some af167:=by kernel_rfl
theorem Z9m:GD 172 af167:=gG Tryz.func172 Zyl (by kernel_rfl)
def af168:AFn:=⟨20,[(2,none)],(sr [bo 1 0,mk 2 0]
 (sr [mk 3 0]
 (.seq (sr [fa 6 1 1,lo 7 6,le 8 7,mk 9 0]
 (.block 0 (.loop (sr [cL 10 9 8]
 (.seq (.cond (tZ 10) .skip
 (.exit 0))
 (.seq (.block 1 (sr [ix 11 6 7 9,lw 12 6 11,oZ 5 (.alloc [(.int .i64 0),(.int .i64 0),(.int .i64 0),(.int .i64 0),(.int .i64 0),(.bool false)]),so 6 5 12]
 (sr [fa 13 0 5,lo 14 13,cEk 15 14 1]
 (.cond (tZ 15) (rf [mv 16 3,aDk 17 16 1,mv 3 17])
 .skip))))
 (rf [aDk 18 9 1,mv 9 18])))))))
 (sr [mv 19 3,mv 2 19]
 .ret))))⟩
theorem Zx0:cFn Tryz.prog Tryz.f173=some af168:=by kernel_rfl
theorem Z1n:GD 173 af168:=gG Tryz.func173 Zx0 (by kernel_rfl)
def af169:AFn:=by
 have h:=rQ Tryz.f145
 conv at h=>rhs; reduce
 exact oR h
theorem Z3l:cFn Tryz.prog Tryz.f145=some af169:=by kernel_rfl
theorem Z0v:GD 145 af169:=gG Tryz.func145 Z3l (by kernel_rfl)
def af170:AFn:=by
 have h:=rQ Tryz.f146
 conv at h=>rhs; reduce
 exact oR h
theorem Z5f:cFn Tryz.prog Tryz.f146=some af170:=by kernel_rfl
theorem Yan:GD 146 af170:=gG Tryz.func146 Z5f (by kernel_rfl)
def af176:AFn:=by
 have h:=rQ Tryz.f180
 conv at h=>rhs; reduce
 exact oR h
theorem Z2z:cFn Tryz.prog Tryz.f180=some af176:=by kernel_rfl
theorem Zzn:GD 180 af176:=gG Tryz.func180 Z2z (by kernel_rfl)
def af183:AFn:=⟨19,[(4,none)],(sr [mk 4 0]
 (.seq (sr [mv 6 0,le 7 6,mk 8 0]
 (.block 0 (.loop (sr [cL 9 8 7]
 (.seq (.cond (tZ 9) .skip
 (.exit 0))
 (.seq (.block 1 (sr [mv 10 8,mv 5 10]
 (sr [mv 11 1,mv 12 0,mv 13 5,ix 14 6 12 13,lw 15 6 14,oZ 16 (.call (tZ 11) [tZ 15])]
 (.cond (tZ 16) (sr [mv 17 5,mv 4 17]
 .ret)
 .skip))))
 (rf [aDk 18 8 1,mv 8 18])))))))
 (sr [mk 4 (-1)]
 .ret)))⟩
theorem Zxy:cFn Tryz.prog Tryz.f188=some af183:=by kernel_rfl
theorem Z9y:GD 188 af183:=gG Tryz.func188 Zxy (by kernel_rfl)
def af186:AFn:=by
 have h:=rQ Tryz.f193
 conv at h=>rhs; reduce
 exact oR h
theorem Z4p:cFn Tryz.prog Tryz.f193=some af186:=by kernel_rfl
theorem Ycw:GD 193 af186:=gG Tryz.func193 Z4p (by kernel_rfl)
def af188:AFn:=by
 have h:=rQ Tryz.f195
 conv at h=>rhs; reduce
 exact oR h
theorem Z3e:cFn Tryz.prog Tryz.f195=some af188:=by kernel_rfl
theorem Z3b:GD 195 af188:=gG Tryz.func195 Z3e (by kernel_rfl)
end Go.Known
end
section
namespace Go.Known
open Go Go.AE Go.Proofs
def amRRev:AFn:=⟨10,[(2,none)],(sr [mk 2 0]
 (.seq (sr [mv 3 0,aRk 4 3 2,cEk 5 4 0]
 (.cond (tZ 5) (sr [mv 6 0,aDk 7 6 1,mv 2 7]
 .ret)
 .skip))
 (sr [mv 8 0,aSk 9 8 1,mv 2 9]
 .ret)))⟩
theorem Z0f:cFn Tryz.prog Tryz.f96=some amRRev:=by kernel_rfl
end Go.Known
end
