/- Part 12 of the proof: AeNe, Lf, Kf0, Kf1, Lh, Lg, Lo. -/
import Derived.Test.YtilmpmlkndfbjaaGreatDoorI11
set_option linter.all false
section
namespace Go.AE
open Go.RowKit
section
variable {P:Program} {dc:Bool} {n base i:Nat} {K:Env→SMem→Prop} {e:Env} {m:SMem}
theorem Zd0:V7 P dc n base [] i K e m=K e m:=propext Iff.rfl
theorem Zbw(d:Option Nat)(op:AOp)(un:List Nat)(r:List AOper):V7 P dc n base (⟨d,op,none,un⟩ :: r) i K e m=match op with
 | .call f xs=>(match W4 n e f xs with
  | some (g,args)=>(match dc with
   | false=>SC P g args m (base+i) fun v a=>V7 P dc n base r (i+1) K (Y6 e d v) a
   | true=>DC P g args (base+i) (xOf base i r.length) m fun v z=>V7 P dc n base r (i+1) K (Y6 e d v) (m.app (apD (base+i) z)))
  | none=>False)
 | op=>(match stepD (base+i) (evE n e) m.get op with
  | some (v,w)=>V7 P dc n base r (i+1) K (Y6 e d v) (m.app w)
  | none=>False):=by
 cases op<;>simp only[V7,V4,gdK]<;>rfl
theorem Zb6(d:Option Nat)(op:AOp)(g:Nat×Bool)(un:List Nat)(r:List AOper):V7 P dc n base (⟨d,op,some g,un⟩ :: r) i K e m=match V4 n e (some g)with
 | some true=>(match op with
  | .call f xs=>(match W4 n e f xs with
   | some (g,args)=>(match dc with
    | false=>SC P g args m (base+i) fun v a=>V7 P dc n base r (i+1) K (Y6 e d v) a
    | true=>DC P g args (base+i) (xOf base i r.length) m fun v z=>V7 P dc n base r (i+1) K (Y6 e d v) (m.app (apD (base+i) z)))
   | none=>False)
  | op=>(match stepD (base+i) (evE n e) m.get op with
   | some (v,w)=>V7 P dc n base r (i+1) K (Y6 e d v) (m.app w)
   | none=>False))
 | some false=>V7 P dc n base r (i+1) K (Y6 e d aundef) m
 | none=>False:=by
 cases op<;>simp only[V7,gdK]<;>rfl
theorem Zdw{keep:List Nat}{a:List (Nat×FT)}:J1 P keep n base [] i a K e m=K e m:=propext Iff.rfl
theorem Zct{keep:List Nat}{a:List (Nat×FT)}(d:Option Nat)(op:AOp)(un:List Nat)(r:List AOper):J1 P keep n base (⟨d,op,none,un⟩ :: r) i a K e m=match op with
 | .call f xs=>(match W4 n e f xs with
  | some (g,args)=>DC P g args (base+i) (xOf base i r.length) m fun v z=>L5 a (.call (ftW (base+i) z) (xOf base i r.length) m.next) un∧J1 P keep n base r (i+1) (P3 keep i (.call (ftW (base+i) z) (xOf base i r.length) m.next) a) K (Y6 e d v) (m.app (apD (base+i) z))
  | none=>False)
 | op=>(match stepD (base+i) (evE n e) m.get op with
  | some (v,w)=>L5 a (.ops (U4 (base+i) (evE n e) op) (U3 (evE n e) op)) un∧J1 P keep n base r (i+1) (P3 keep i (.ops (U4 (base+i) (evE n e) op) (U3 (evE n e) op)) a) K (Y6 e d v) (m.app w)
  | none=>False):=by
 cases op<;>simp only[J1,V4]<;>rfl
theorem Zc4{keep:List Nat}{a:List (Nat×FT)}(d:Option Nat)(op:AOp)(g:Nat×Bool)(un:List Nat)(r:List AOper):J1 P keep n base (⟨d,op,some g,un⟩ :: r) i a K e m=match V4 n e (some g)with
 | some true=>(match op with
  | .call f xs=>(match W4 n e f xs with
   | some (g,args)=>DC P g args (base+i) (xOf base i r.length) m fun v z=>L5 a (.call (ftW (base+i) z) (xOf base i r.length) m.next) un∧J1 P keep n base r (i+1) (P3 keep i (.call (ftW (base+i) z) (xOf base i r.length) m.next) a) K (Y6 e d v) (m.app (apD (base+i) z))
   | none=>False)
  | op=>(match stepD (base+i) (evE n e) m.get op with
   | some (v,w)=>L5 a (.ops (U4 (base+i) (evE n e) op) (U3 (evE n e) op)) un∧J1 P keep n base r (i+1) (P3 keep i (.ops (U4 (base+i) (evE n e) op) (U3 (evE n e) op)) a) K (Y6 e d v) (m.app w)
   | none=>False))
 | some false=>J1 P keep n base r (i+1) (P3 keep i (.ops [] []) a) K (Y6 e d aundef) m
 | none=>False:=by
 cases op<;>simp only[J1]<;>rfl
@[simp] theorem Yiw(id : Nat) : apD id none = [] := rfl
@[simp] theorem Yix(id : Nat)(b : ABlk) : apD id (some b) = [(id, some b)] := rfl
@[simp] theorem Yhq(id : Nat) : ftW id none = [] := rfl
@[simp] theorem Yhl(id : Nat)(b : ABlk) : ftW id (some b) = [id] := rfl
@[simp] theorem Yip(m : SMem) : m.app [] = m := rfl
theorem Zb9:Zca []=[]:=rfl
theorem Zbs(d:Option Nat)(op:AOp)(g:Option (Nat×Bool))(un:List Nat)(r:List AOper):Zca (⟨d,op,g,un⟩ :: r)=un++Zca r:=rfl
theorem Zco(d:Nat)(v:AVal):Y6 e (some d) v=(d,v) :: e:=rfl
theorem Zeg(v:AVal):Y6 e none v=e:=rfl
theorem Zbo(j:Nat):evE n e (.tmp j)=if j<n then e.get j else aundef:=rfl
theorem Zc3(v:AVal):evE n e (.const v)=v:=rfl
theorem Zc0(f:FuncId):evE n e (.fn f)=.func (.func f) [] []:=rfl
def wtZ(w:Bool):AVal→Option Bool
 | .bool b=>some (b == w)
 | .tuple []=>some false
 | _=>none
theorem Zdx(d:Nat)(w:Bool):V4 n e (some (d,w))=wtZ w (evE n e (.tmp d)):=by
 simp only[V4]; unfold wtZ; rfl
theorem Zbv(w b:Bool):wtZ w (.bool b)=some (b == w):=rfl
theorem Zem(w:Bool):wtZ w (.tuple [])=some false:=rfl
def vo:Option AVal→Option (AVal×List (Nat×Option ABlk))
 | some v=>some (v,[])
 | none=>none
theorem Zb8(v:AVal):vo (some v)=some (v,[]):=rfl
def wo(v:AVal):Option (List (Nat×Option ABlk))→Option (AVal×List (Nat×Option ABlk))
 | some d=>some (v,d)
 | none=>none
theorem Zd9(v:AVal)(d:List (Nat×Option ABlk)):wo v (some d)=some (v,d):=rfl
section
variable {id:Nat} {f:AOpd→AVal} {get:Nat→Option ABlk}
theorem Zcl(x:AOpd):stepD id f get (.mov x)=some (f x,[]):=rfl
def Znu(a b:AVal):AVal→Option (AVal×List (Nat×Option ABlk))
 | .bool true=>some (a,[])
 | .bool false=>some (b,[])
 | _=>none
theorem Zbz(a b:AVal):Znu a b (.bool true)=some (a,[]):=rfl
theorem Zcs(a b:AVal):Znu a b (.bool false)=some (b,[]):=rfl
theorem Zej(c a b:AOpd):stepD id f get (.pick c a b)=Znu (f a) (f b) (f c):=by
 simp only[stepD]; unfold Znu; split<;>simp_all
def boxZ(id:Nat):Option (List AVal)→Option (AVal×List (Nat×Option ABlk))
 | some cs=>if cs.all AVal.one then some (.ptr id 0 0,[(id,some (.cells cs.length [cs]))])else none
 | none=>none
theorem Zec(cs:List AVal):boxZ id (some cs)=if cs.all AVal.one then some (.ptr id 0 0,[(id,some (.cells cs.length [cs]))])else none:=rfl
theorem Zdy(x:AOpd):stepD id f get (.box x)=boxZ id (f x).cells:=by simp only[stepD]; unfold boxZ; rfl
theorem Zch(z:List AVal):stepD id f get (.alloc z)=some (.ptr id 0 0,[(id,some (.cells z.length [z]))]):=rfl
def aggZ:Option (List AVal)→Option (AVal×List (Nat×Option ABlk))
 | some cs=>some (.agg cs,[])
 | none=>none
theorem Zbu(cs:List AVal):aggZ (some cs)=some (.agg cs,[]):=rfl
theorem Zck(z:List AVal)(ps:List (Nat×Nat×AOpd)):stepD id f get (.build z ps)=aggZ (G5 z (ps.map fun p=>(p.1,p.2.1,f p.2.2))):=by simp only[stepD]; unfold aggZ; rfl
def Zqe(id k len:Nat):Option (List (List AVal))→Option (AVal×List (Nat×Option ABlk))
 | some els=>some (.sl id 0 len,[(id,some (.cells k els))])
 | none=>none
theorem Zc8(k len:Nat)(els:List (List AVal)):Zqe id k len (some els)=some (.sl id 0 len,[(id,some (.cells k els))]):=rfl
theorem Zdd(k len:Nat)(z:List AVal)(ps:List (Nat×AOpd)):stepD id f get (.mkSl k len z ps)=Zqe id k len (L4 k (List.replicate len z) (ps.map fun p=>(p.1,f p.2))):=by simp only[stepD]; unfold Zqe; rfl
theorem Zb7(n:Option Nat)(x:AOpd):stepD id f get (.load n x)=vo (T9 get n (f x)):=by simp only[stepD]; unfold vo; rfl
theorem Zcw(n:Nat)(a x:AOpd):stepD id f get (.store n a x)=wo aundef (R8 get n (f a) (f x)):=by simp only[stepD]; unfold wo; rfl
def nilZ:AVal→Option (AVal×List (Nat×Option ABlk))
 | .ptr b i j=>some (.ptr b i j,[])
 | .iptr els i j=>some (.iptr els i j,[])
 | .func (.func f) a b=>some (.func (.func f) a b,[])
 | _=>none
theorem Zds(b i j:Nat):nilZ (.ptr b i j)=some (.ptr b i j,[]):=rfl
theorem Zdj(els:List (List AVal))(i j:Nat):nilZ (.iptr els i j)=some (.iptr els i j,[]):=rfl
theorem Zbt(x:AOpd):stepD id f get (.nilChk x)=nilZ (f x):=by simp only[stepD]; unfold nilZ; split<;>simp_all
theorem Zdt(op:BinOp)(q:EqT)(x y:AOpd):stepD id f get (.bin op q x y)=vo (X7 op q (f x) (f y)):=by simp only[stepD]; unfold vo; rfl
theorem Zc9(op:UnOp)(x:AOpd):stepD id f get (.un op x)=vo (unA op (f x)):=by simp only[stepD]; unfold vo; rfl
theorem Zeb(fn:Fn)(a c:List AOpd):stepD id f get (.mkFunc fn a c)=some (.func fn (a.map f) (c.map f),[]):=rfl
theorem Zea:stepD id f get .mkMap=some (.map id,[(id,some (.map [] 0))]):=rfl
theorem Zcv(off:Nat)(x:AOpd):stepD id f get (.fieldA off x)=vo (R9 off (f x)):=by simp only[stepD]; unfold vo; rfl
theorem Zcu(off b i j:Nat):R9 off (.ptr b i j)=some (.ptr b i (j+off)):=rfl
theorem Zby(off:Nat)(els:List (List AVal))(i j:Nat):R9 off (.iptr els i j)=some (.iptr els i (j+off)):=rfl
def fldZ(off:Nat)(n:Option Nat):AVal→Option (AVal×List (Nat×Option ABlk))
 | .agg cs=>vo (Za7 cs off n)
 | _=>none
theorem Zee(off:Nat)(n:Option Nat)(cs:List AVal):fldZ off n (.agg cs)=vo (Za7 cs off n):=rfl
theorem Zdz(off:Nat)(n:Option Nat)(x:AOpd):stepD id f get (.field off n x)=fldZ off n (f x):=by simp only[stepD]; unfold fldZ vo; rfl
def extZ(i:Nat):AVal→Option (AVal×List (Nat×Option ABlk))
 | .tuple vs=>vo vs[i]?
 | _=>none
theorem Zd4(i:Nat)(vs:List AVal):extZ i (.tuple vs)=vo vs[i]?:=rfl
theorem Zc1(x:AOpd)(i:Nat):stepD id f get (.ext x i)=extZ i (f x):=by simp only[stepD]; unfold extZ vo; rfl
def lenZ:Option Nat→Option (AVal×List (Nat×Option ABlk))
 | some n=>some (.int .i64 n,[])
 | none=>none
theorem Zeh(n:Nat):lenZ (some n)=some (.int .i64 n,[]):=rfl
theorem Zcr(x:AOpd):stepD id f get (.lenSl x)=lenZ (T0 (f x)):=by simp only[stepD]; unfold lenZ; rfl
theorem Zek:T0 .nilSl=some 0:=rfl
theorem Zb0:T0 .emp=some 0:=rfl
theorem Zel(b off len:Nat):T0 (.sl b off len)=some len:=rfl
theorem Zdq(els:List (List AVal)):T0 (.imm els)=some els.length:=rfl
def idxZ(get:Nat→Option ABlk)(k:Nat):AVal→Option Nat→Option (AVal×List (Nat×Option ABlk))
 | .sl b off len,some i=>match get b with
  | some (.cells k' _)=>if k'=k∧i<len then some (.ptr b (off+i) 0,[])else none
  | _=>none
 | .imm els,some i=>match els[i]? with
  | some row=>if row.length=k then some (.iptr els i 0,[])else none
  | none=>none
 | _,_=>none
theorem Zbj(k b off len i:Nat):idxZ get k (.sl b off len) (some i)=match get b with
 | some (.cells a _)=>if a=k∧i<len then some (.ptr b (off+i) 0,[])else none
 | _=>none:=rfl
theorem Zc6(k:Nat)(els:List (List AVal))(i:Nat):idxZ get k (.imm els) (some i)=match els[i]? with
 | some row=>if row.length=k then some (.iptr els i 0,[])else none
 | none=>none:=rfl
theorem Zcn(k:Nat)(x i:AOpd):stepD id f get (.idxA k x i)=idxZ get k (f x) (V5 (f i)):=by
 simp only[stepD]; unfold idxZ; rfl
theorem Zcx(k a:Nat)(z:List AVal)(x y:AOpd):stepD id f get (.makeSl k a z x y)=match V5 (f x),V5 (f y)with
 | some l,some c=>if l≤c∧c≤X6∧a≤X6 then some (.sl id 0 l,[(id,some (.cells k (List.replicate c z)))])else none
 | _,_=>none:=rfl
theorem Zdo(k a:Nat)(z:List AVal)(x y:AOpd):stepD id f get (.append k a z x y)=match N5 get k (f y)with
 | some xs=>O6 id k a get (f x) xs
 | none=>none:=rfl
theorem Zdg(x:AOpd):stepD id f get (.lenMap x)=match f x with
 | .nilMap=>some (.int .i64 0,[])
 | .map b=>match get b with
  | some (.map a _)=>some (.int .i64 a.length,[])
  | _=>none
 | _=>none:=rfl
theorem Zcj(c:KeyT)(z:AVal)(ok:Bool)(x i:AOpd):stepD id f get (.lookup c z ok x i)=match (match f x with
 | .nilMap=>some []
 | .map b=>match get b with
  | some (.map a _)=>some a
  | _=>none
 | _=>none)with
 | some a=>match H4 c (f i) a with
  | some r=>some (if ok then .tuple [match r with
   | some (_,v,_)=>v
   | none=>z,.bool r.isSome]else (match r with
   | some (_,v,_)=>v
   | none=>z),[])
  | none=>none
 | none=>none:=rfl
theorem Zdp(d:KeyT)(e k v:AOpd):stepD id f get (.mapUpd d e k v)=match f e with
 | .map b=>match get b with
  | some (.map c a)=>match H4 d (f k) c with
   | some (some (i,_,born))=>some (aundef,[(b,some (.map (c.set i (f k,f v,born)) a))])
   | some none=>some (aundef,[(b,some (.map (c++[(f k,f v,a)]) (a+1)))])
   | none=>none
  | _=>none
 | _=>none:=rfl
theorem Zjc(n k:Nat)(x i:AOpd):stepD id f get (.idxAA n k x i)=match V5 (f i)with
 | some i=>if i<n then vo (R9 (i*k) (f x))else none
 | none=>none:=by
 simp only[stepD]; unfold vo; rfl
theorem Zc5(k:IntKind)(j:Int):V5 (.int k j)=if 0≤j then some j.toNat else none:=by simp only[V5]
end
end
@[congr] theorem Yh0{P : Program}{keep b : List Nat}{n base a i g : Nat}{f c : List (Nat × FT)}{d : List AOper}{K : Env → SMem → Prop}{e e' : Env}{m j : SMem}(p : keep = b)(l : base = a)(hi : i = g)(o : f = c)(h : e = e')(k : m = j) : J1 P keep n base d i f K e m = J1 P b n a d g c K e' j := by rw [p, l, hi, o, h, k]
theorem Zdf{P:Program}{n n0:Nat}{Q:Exit→Env→SMem→Prop}{e:Env}{m:SMem}(c:AOpd)(a b:ACode):wpZ P n n0 (.cond c a b) Q e m=match evE n e c with
 | .bool true=>wpZ P n n0 a Q e m
 | .bool false=>wpZ P n n0 b Q e m
 | _=>False:=by
 rw[Z3v];unfold Zay;rfl
end Go.AE
end
section
namespace Go.Known
open Go Go.AE Go.Proofs
def af4:AFn:=⟨54,[(2,none)],(sr [bo 1 0,mk 2 0]
 (.seq (sr [fa 4 1 1,lo 5 4,le 6 5,cGk 7 6 400,mv 8 7,gZ 9 8 false (.load (some 2) (tZ 1)),gZ 10 8 false (.call (.fn 60) [tZ 9]),gZ 11 8 false (.bin .gtr .num (tZ 10) (kZ 200)),pk1 12 8 11]
 (.cond (tZ 12) (sr [mk 2 7]
 .ret)
 .skip))
 (.seq (sr [fa 13 0 1,lo 14 13,cLk 15 14 0,mv 16 15,gff 17 16 0 1,gfl 18 16 17,gZ 19 16 false (.bin .gtr .num (tZ 18) (kZ 40)),pk1 20 16 19]
 (.cond (tZ 20) (sr [mk 2 2]
 .ret)
 .skip))
 (.seq (sr [fa 21 1 1,lo 22 21,le 23 22,cEk 24 23 0]
 (.cond (tZ 24) (sr [mk 2 0]
 .ret)
 .skip))
 (sr [lw 25 2 1,ca1 26 61 25,mv 3 26]
 (.seq (.seq (.region true [fa 27 1 1,lo 28 27,oZ 29 (.idxA 6 (tZ 28) (kZ 0)),fa 30 0 29,lo 31 30,cNk 32 31 1,mv 33 32,gfm 34 33 3,gZ 35 33 false (.bin .rem .num (tZ 34) (kZ 2)),gZ 36 33 false (.bin .neq .num (tZ 35) (kZ 0)),pk1 37 33 36,mv 38 37,gZ 39 38 false (.load (some 2) (tZ 1)),gZ 40 38 false (.call (.fn 62) [tZ 39]),gZ 41 38 false (.un .not (tZ 40)),pk1 42 38 41,mv 43 42,gZ 44 43 false (.load (some 2) (tZ 1)),gZ 45 43 false (.call (.fn 63) [tZ 44]),gZ 46 43 false (.lenSl (tZ 45)),gfm 47 43 3,⟨(some 48),.load (some 2) (tZ 1),(some (43,false)),[18]⟩,gZ 49 43 false (.call (.fn 64) [tZ 48]),gZ 50 43 false (.bin .add .num (tZ 47) (tZ 49)),gZ 51 43 false (.bin .add .num (tZ 50) (kZ 2)),gZ 52 43 false (.bin .neq .num (tZ 46) (tZ 51)),pk1 53 43 52])
 (.cond (tZ 53) (sr [mk 2 3]
 .ret)
 .skip))
 (sr [mk 2 0]
 .ret)))))))⟩
theorem cf4:cFn Tryz.prog Tryz.f33=some af4:=by kernel_rfl
def af11:AFn:=⟨31,[(4,none)],(sr [bo 2 0,bo 3 1,mfZ 4]
 (sr [fa 5 0 2,lo 6 5,fa 7 0 3,lo 8 7,cE 9 6 8,mv 10 9,gtf 11 10 1 2,gtl 12 10 11,gtf 13 10 1 3,gtl 14 10 13,gZ 15 10 true (.call (.fn 38) [tZ 12,tZ 14]),pk0 16 10 15,mv 17 16,gtf 18 17 2 2,gtl 19 17 18,gtf 20 17 2 3,gtl 21 17 20,gZ 22 17 true (.call (.fn 39) [tZ 19,tZ 21]),pk0 23 17 22,mv 24 23,gtf 25 24 3 2,gtl 26 24 25,gtf 27 24 3 3,gtl 28 24 27,gZ 29 24 true (.call (.fn 39) [tZ 26,tZ 28]),pk0 30 24 29,mv 4 30]
 .ret))⟩
theorem cf11:cFn Tryz.prog Tryz.f15=some af11:=by kernel_rfl
def af13:AFn:=⟨22,[(2,none)],(sr [bo 1 0,mk 2 0]
 (sr [mk 3 0]
 (.seq (sr [mk 4 0]
 (.block 0 (.loop (.seq (sr [mv 5 4,fa 6 1 1,lo 7 6,le 8 7,cL 9 5 8]
 (.cond (tZ 9) .skip
 (.exit 0)))
 (.seq (.block 1 (sr [fa 12 1 1,lo 13 12,mv 14 4,ix 15 6 13 14,fa 16 0 15,lo 17 16,cEk 18 17 2]
 (.cond (tZ 18) (rf [mv 19 3,aDk 20 19 1,mv 3 20])
 .skip)))
 (rf [mv 10 4,aDk 11 10 1,mv 4 11]))))))
 (sr [mv 21 3,mv 2 21]
 .ret))))⟩
theorem cf13:cFn Tryz.prog Tryz.f60=some af13:=by kernel_rfl
def af14:AFn:=⟨22,[(2,none)],(sr [bo 1 0,mk 2 0]
 (sr [mk 3 0]
 (.seq (sr [mk 4 0]
 (.block 0 (.loop (.seq (sr [mv 5 4,fa 6 1 1,lo 7 6,le 8 7,cL 9 5 8]
 (.cond (tZ 9) .skip
 (.exit 0)))
 (.seq (.block 1 (sr [fa 12 1 1,lo 13 12,mv 14 4,ix 15 6 13 14,fa 16 0 15,lo 17 16,cEk 18 17 1]
 (.cond (tZ 18) (rf [mv 19 3,aDk 20 19 1,mv 3 20])
 .skip)))
 (rf [mv 10 4,aDk 11 10 1,mv 4 11]))))))
 (sr [mv 21 3,mv 2 21]
 .ret))))⟩
theorem cf14:cFn Tryz.prog Tryz.f61=some af14:=by kernel_rfl
def af15:AFn:=⟨172,[(2,none)],(sr [bo 1 0,mfZ 2]
 (.seq (sr [mk 3 0]
 (.block 0 (.loop (.seq (sr [mv 9 3,fa 10 1 1,lo 11 10,le 12 11,cL 13 9 12]
 (.cond (tZ 13) .skip
 (.exit 0)))
 (.seq (.block 1 (sr [fa 16 1 1,lo 17 16,mv 18 3,ix 19 6 17 18,lw 20 6 19,oZ 4 (.alloc [(.int .i64 0),(.int .i64 0),(.int .i64 0),(.int .i64 0),(.int .i64 0),(.bool false)]),so 6 4 20]
 (sr [mk 5 0,mk 6 0]
 (.seq (sr [mk 7 0]
 (.block 2 (.loop (.seq (sr [mv 21 7,fa 22 1 1,lo 23 22,le 24 23,cL 25 21 24]
 (.cond (tZ 25) .skip
 (.exit 2)))
 (.seq (.block 3 (sr [fa 28 1 1,lo 29 28,mv 30 7,ix 31 6 29 30,lw 32 6 31,oZ 8 (.alloc [(.int .i64 0),(.int .i64 0),(.int .i64 0),(.int .i64 0),(.int .i64 0),(.bool false)]),so 6 8 32]
 (.seq (sr [fa 33 0 8,lo 34 33,fa 35 0 4,lo 36 35,cE 37 34 36,mv 38 37,gtf 39 38 1 8,gtl 40 38 39,gtf 41 38 1 4,gtl 42 38 41,gZ 43 38 true (.bin .eql .num (tZ 40) (tZ 42)),pk0 44 38 43,mv 45 44,gtf 46 45 2 8,gtl 47 45 46,gtf 48 45 2 4,gtl 49 45 48,gZ 50 45 true (.bin .eql .num (tZ 47) (tZ 49)),pk0 51 45 50]
 (.cond (tZ 51) (rf [mv 52 5,aDk 53 52 1,mv 5 53])
 .skip))
 (sr [fa 54 0 8,lo 55 54,fa 56 0 4,lo 57 56,cE 58 55 57,mv 59 58,gtf 60 59 3 8,gtl 61 59 60,gtf 62 59 3 4,gtl 63 59 62,gZ 64 59 true (.bin .eql .num (tZ 61) (tZ 63)),pk0 65 59 64,mv 66 65,gtf 67 66 4 8,gtl 68 66 67,gtf 69 66 4 4,gtl 70 66 69,gZ 71 66 true (.bin .eql .num (tZ 68) (tZ 70)),pk0 72 66 71,mv 73 72,gtf 74 73 5 8,gtl 75 73 74,gtf 76 73 5 4,gtl 77 73 76,gZ 78 73 true (.bin .neq .bool (tZ 75) (tZ 77)),pk0 79 73 78]
 (.cond (tZ 79) (rf [mv 80 6,aDk 81 80 1,mv 6 81])
 .skip)))))
 (rf [mv 26 7,aDk 27 26 1,mv 7 27]))))))
 (sr [fa 82 0 4,lo 83 82]
 (.block 4 (sr [cEk 85 83 1,mv 84 85]
 (.cond (tZ 84) (.seq (.region true [fa 86 3 4,lo 87 86,cNk 88 87 0,mv 89 88,gff 90 89 4 4,gfl 91 89 90,gZ 92 89 false (.bin .neq .num (tZ 91) (kZ 0)),pk1 93 89 92,mv 94 93,gff 95 94 5 4,gfl 96 94 95,pk1 97 94 96,mv 98 97,gff 99 98 1 4,gfl 100 98 99,gZ 101 98 false (.bin .lss .num (tZ 100) (kZ 0)),pk1 102 98 101,mv 103 102,gff 104 103 1 4,gfl 105 103 104,gff 106 103 0 1,gfl 107 103 106,gZ 108 103 false (.bin .gtr .num (tZ 105) (tZ 107)),pk1 109 103 108,mv 110 109,gff 111 110 2 4,gfl 112 110 111,gZ 113 110 false (.bin .lss .num (tZ 112) (kZ 1)),pk1 114 110 113,mv 115 114,gff 116 115 2 4,gfl 117 115 116,gZ 118 115 false (.load (some 2) (tZ 1)),gff 119 115 1 4,gfl 120 115 119,⟨(some 121),.call (.fn 97) [tZ 118,tZ 120],(some (115,false)),[31]⟩,gZ 122 115 false (.bin .gtr .num (tZ 117) (tZ 121)),pk1 123 115 122,mv 124 123,gfm 125 124 5,gZ 126 124 false (.bin .neq .num (tZ 125) (kZ 1)),pk1 127 124 126])
 (.cond (tZ 127) (sr [mfZ 2]
 .ret)
 .skip))
 (sr [cEk 129 83 2,mv 128 129]
 (.cond (tZ 128) (.seq (.region true [fa 130 1 4,lo 131 130,cNk 132 131 0,mv 133 132,gff 134 133 2 4,gfl 135 133 134,gZ 136 133 false (.bin .neq .num (tZ 135) (kZ 0)),pk1 137 133 136,mv 138 137,gff 139 138 4 4,gfl 140 138 139,gZ 141 138 false (.bin .neq .num (tZ 140) (kZ 1)),gfm 142 138 141,gtf 143 142 4 4,gtl 144 142 143,gZ 145 142 true (.bin .neq .num (tZ 144) (kZ (-1))),gZ 146 138 false (.pick (tZ 142) (tZ 145) (bZ false)),pk1 147 138 146,mv 148 147,gff 149 148 3 4,gfl 150 148 149,gZ 151 148 false (.bin .lss .num (tZ 150) (kZ 1)),pk1 152 148 151,mv 153 152,gff 154 153 3 4,gfl 155 153 154,gZ 156 153 false (.load (some 2) (tZ 1)),⟨(some 157),.call (.fn 60) [tZ 156],(some (153,false)),[25]⟩,gZ 158 153 false (.bin .quo .num (tZ 157) (kZ 2)),gZ 159 153 false (.bin .gtr .num (tZ 155) (tZ 158)),pk1 160 153 159,mv 161 160,gfm 162 161 6,gZ 163 161 false (.bin .neq .num (tZ 162) (kZ 1)),pk1 164 161 163,mv 165 164,gZ 166 165 false (.load (some 2) (tZ 1)),gff 167 165 3 4,gfl 168 165 167,gZ 169 165 false (.call (.fn 98) [tZ 166,tZ 168]),gZ 170 165 false (.bin .neq .num (tZ 169) (kZ 2)),pk1 171 165 170])
 (.cond (tZ 171) (sr [mfZ 2]
 .ret)
 .skip))
 (sr [mfZ 2]
 .ret)))))))))))
 (rf [mv 14 3,aDk 15 14 1,mv 3 15]))))))
 (sr [mtZ 2]
 .ret)))⟩
theorem cf15:cFn Tryz.prog Tryz.f62=some af15:=by kernel_rfl
def af16:AFn:=⟨52,[(2,none)],(sr [bo 1 0,mnZ 2]
 (sr [mnZ 3]
 (sr [lw 9 2 1,ca1 10 99 9,mv 4 10]
 (sr [fa 11 1 1,lo 12 11,le 13 12,oZ 14 (.bin .mul .num (kZ 2) (tZ 13)),mv 15 4,le 16 15,oZ 17 (.bin .mul .num (kZ 2) (tZ 16)),aD 18 14 17,oZ 19 (.makeSl 1 1 [(.bool false)] (tZ 18) (tZ 18)),mv 5 19]
 (.seq (sr [mk 6 0]
 (.block 0 (.loop (.seq (sr [mv 20 6,mv 21 5,le 22 21,cL 23 20 22]
 (.cond (tZ 23) .skip
 (.exit 0)))
 (.seq (.block 1 (.seq (sr [mv 26 5,mv 27 6,ix 28 1 26 27,lo 29 28]
 (.cond (tZ 29) (.exit 1)
 .skip))
 (sr [mnZ 7]
 (.seq (sr [mv 30 6,mv 8 30]
 (.block 2 (.loop (.seq (sr [mv 31 5,mv 32 8,ix 33 1 31 32,lo 34 33,no 35 34]
 (.cond (tZ 35) .skip
 (.exit 2)))
 (.seq (.block 3 (sr [mv 40 5,mv 41 8,ix 42 1 40 41,pZ (.store 1 (tZ 42) (bZ true))]
 (rf [mv 43 7,mv 44 8,oZ 45 (.mkSl 1 1 [(.int .i64 0)] [(0,tZ 44)]),oZ 46 (.append 1 8 [(.int .i64 0)] (tZ 43) (tZ 45)),mv 7 46])))
 (rf [lw 36 2 1,mv 37 4,mv 38 8,ca3 39 100 36 37 38,mv 8 39]))))))
 (rf [mv 47 3,mv 48 7,oZ 49 (.mkSl 1 1 [.nilSl] [(0,tZ 48)]),oZ 50 (.append 1 24 [.nilSl] (tZ 47) (tZ 49)),mv 3 50])))))
 (rf [mv 24 6,aDk 25 24 1,mv 6 25]))))))
 (sr [mv 51 3,mv 2 51]
 .ret))))))⟩
theorem cf16:cFn Tryz.prog Tryz.f63=some af16:=by kernel_rfl
def af17:AFn:=⟨6,[(2,none)],(sr [bo 1 0,mk 2 0]
 (sr [lw 3 2 1,ca1 4 60 3,aQk 5 4 2,mv 2 5]
 .ret))⟩
theorem cf17:cFn Tryz.prog Tryz.f64=some af17:=by kernel_rfl
def af37:AFn:=⟨34,[(4,none)],(sr [bo 2 0,mk 4 0]
 (sr [mk 5 0]
 (.seq (sr [mk 6 0]
 (.block 0 (.loop (.seq (sr [mv 7 6,fa 8 1 2,lo 9 8,le 10 9,cL 11 7 10]
 (.cond (tZ 11) .skip
 (.exit 0)))
 (.seq (.block 1 (sr [fa 14 1 2,lo 15 14,mv 16 6,ix 17 6 15 16,fa 18 0 17,lo 19 18,cEk 20 19 1,mv 21 20,gtf 22 21 1 2,gtl 23 21 22,gtm 24 21 6,gZ 25 21 true (.idxA 6 (tZ 23) (tZ 24)),gtf 26 21 1 25,gtl 27 21 26,gtm 28 21 1,gZ 29 21 true (.bin .eql .num (tZ 27) (tZ 28)),pk0 30 21 29]
 (.cond (tZ 30) (rf [mv 31 5,aDk 32 31 1,mv 5 32])
 .skip)))
 (rf [mv 12 6,aDk 13 12 1,mv 6 13]))))))
 (sr [mv 33 5,mv 4 33]
 .ret))))⟩
theorem cf37:cFn Tryz.prog Tryz.f97=some af37:=by kernel_rfl
def af38:AFn:=⟨34,[(4,none)],(sr [bo 2 0,mk 4 0]
 (sr [mk 5 0]
 (.seq (sr [mk 6 0]
 (.block 0 (.loop (.seq (sr [mv 7 6,fa 8 1 2,lo 9 8,le 10 9,cL 11 7 10]
 (.cond (tZ 11) .skip
 (.exit 0)))
 (.seq (.block 1 (sr [fa 14 1 2,lo 15 14,mv 16 6,ix 17 6 15 16,fa 18 0 17,lo 19 18,cEk 20 19 2,mv 21 20,gtf 22 21 1 2,gtl 23 21 22,gtm 24 21 6,gZ 25 21 true (.idxA 6 (tZ 23) (tZ 24)),gtf 26 21 3 25,gtl 27 21 26,gtm 28 21 1,gZ 29 21 true (.bin .eql .num (tZ 27) (tZ 28)),pk0 30 21 29]
 (.cond (tZ 30) (rf [mv 31 5,aDk 32 31 1,mv 5 32])
 .skip)))
 (rf [mv 12 6,aDk 13 12 1,mv 6 13]))))))
 (sr [mv 33 5,mv 4 33]
 .ret))))⟩
theorem cf38:cFn Tryz.prog Tryz.f98=some af38:=by kernel_rfl
def af39:AFn:=⟨54,[(2,none)],(sr [bo 1 0,mnZ 2]
 (sr [mnZ 3]
 (.seq (sr [mk 4 0]
 (.block 0 (.loop (.seq (sr [mv 6 4,fa 7 1 1,lo 8 7,le 9 8,cL 10 6 9]
 (.cond (tZ 10) .skip
 (.exit 0)))
 (.seq (.block 1 (.seq (sr [fa 13 1 1,lo 14 13,mv 15 4,ix 16 6 14 15,fa 17 0 16,lo 18 17,cNk 19 18 1]
 (.cond (tZ 19) (.exit 1)
 .skip))
 (sr [mk 5 0]
 (.seq (.block 2 (.loop (.seq (.seq (.region true [mv 20 5,mv 21 3,le 22 21,cL 23 20 22,mv 24 23,gtf 25 24 1 1,gtl 26 24 25,gtm 27 24 3,gtm 28 24 5,gZ 29 24 true (.idxA 1 (tZ 27) (tZ 28)),gtl 30 24 29,gZ 31 24 true (.idxA 6 (tZ 26) (tZ 30)),gZ 32 24 true (.load (some 6) (tZ 31)),gtf 33 24 1 1,gtl 34 24 33,gtm 35 24 4,gZ 36 24 true (.idxA 6 (tZ 34) (tZ 35)),gZ 37 24 true (.load (some 6) (tZ 36)),gZ 38 24 true (.call (.fn 131) [tZ 32,tZ 37]),pk0 39 24 38])
 (.cond (tZ 39) .skip
 (.exit 2)))
 (.block 3 (rf [mv 40 5,aDk 41 40 1,mv 5 41])))))
 (.region true [mv 42 3,mv 43 5,oZ 44 (.slSl 1 (tZ 42) none (some (tZ 43)) none),oZ 45 (.append 1 8 [(.int .i64 0)] (.const .nilSl) (tZ 44)),mv 46 4,⟨(some 47),.mkSl 1 1 [(.int .i64 0)] [(0,tZ 46)],none,[2,3]⟩,oZ 48 (.append 1 8 [(.int .i64 0)] (tZ 45) (tZ 47)),mv 49 3,mv 50 5,⟨(some 51),.slSl 1 (tZ 49) (some (tZ 50)) none none,none,[3,5,6]⟩,oZ 52 (.append 1 8 [(.int .i64 0)] (tZ 48) (tZ 51)),mv 3 52])))))
 (rf [mv 11 4,aDk 12 11 1,mv 4 12]))))))
 (sr [mv 53 3,mv 2 53]
 .ret))))⟩
theorem cf39:cFn Tryz.prog Tryz.f99=some af39:=by kernel_rfl
def af40:AFn:=⟨114,[(6,none)],(sr [bo 3 0,mk 6 0]
 (sr [fa 17 1 3,lo 18 17,le 19 18,mv 20 1,le 21 20,mv 7 19,mv 8 21]
 (.seq (sr [mv 22 2,mv 23 7,oZ 24 (.bin .mul .num (kZ 2) (tZ 23)),cH 25 22 24]
 (.cond (tZ 25) (sr [mv 26 2,mv 27 7,oZ 28 (.bin .mul .num (kZ 2) (tZ 27)),aS 29 26 28,aQk 30 29 2,mv 9 30]
 (.seq (sr [mv 31 2,aRk 32 31 2,cEk 33 32 0]
 (.cond (tZ 33) (sr [mv 34 1,mv 35 9,aDk 36 35 1,mv 37 8,aR 38 36 37,ix 39 1 34 38,lo 40 39,mv 10 40]
 (.seq (.region true [lw 41 2 3,mv 42 10,lw 43 2 3,mv 44 10,⟨(some 45),.call (.fn 80) [tZ 43,tZ 44],none,[0]⟩,no 46 45,ca3 47 132 41 42 46,mv 6 47])
 .ret))
 .skip))
 (sr [mv 48 1,mv 49 9,ix 50 1 48 49,lo 51 50,mv 11 51]
 (.seq (.region true [lw 52 2 3,mv 53 11,lw 54 2 3,mv 55 11,⟨(some 56),.call (.fn 80) [tZ 54,tZ 55],none,[0]⟩,ca3 57 132 52 53 56,mv 6 57])
 .ret))))
 .skip))
 (sr [mv 58 2,aRk 59 58 2,cEk 60 59 0,mv 12 60]
 (sr [mv 61 2,aQk 62 61 2,mv 13 62]
 (.seq (sr [mv 63 12]
 (.cond (tZ 63) (rf [mv 64 13,aDk 65 64 1,mv 66 7,aR 67 65 66,mv 13 67])
 .skip))
 (sr [fa 68 1 3,lo 69 68,mv 70 13,ix 71 6 69 70,lw 72 6 71,oZ 14 (.alloc [(.int .i64 0),(.int .i64 0),(.int .i64 0),(.int .i64 0),(.int .i64 0),(.bool false)]),so 6 14 72]
 (.seq (sr [fa 73 0 14,lo 74 73,cEk 75 74 2]
 (.cond (tZ 75) (sr [fa 76 5 14,lo 77 76,fa 78 4 14,lo 79 78,cEk 80 79 1,oZ 81 (.bin .eql .bool (tZ 77) (tZ 80)),mv 15 81]
 (.seq (.region true [lw 82 2 3,lw 83 2 3,mv 84 13,⟨(some 85),.call (.fn 133) [tZ 83,tZ 84],none,[0]⟩,mv 86 12,mv 87 15,oZ 88 (.bin .eql .bool (tZ 86) (tZ 87)),ca3 89 132 82 85 88,mv 6 89])
 .ret))
 .skip))
 (sr [mv 90 1,mv 91 13,ca2 92 59 90 91,mv 16 92]
 (.seq (sr [lw 93 2 3,mv 94 13,ca2 95 80 93 94,mv 96 12,oZ 97 (.bin .eql .bool (tZ 95) (tZ 96))]
 (.cond (tZ 97) (sr [mv 98 7,oZ 99 (.bin .mul .num (kZ 2) (tZ 98)),mv 100 16,oZ 101 (.bin .mul .num (kZ 2) (tZ 100)),aD 102 99 101,mv 6 102]
 .ret)
 .skip))
 (sr [mv 103 7,oZ 104 (.bin .mul .num (kZ 2) (tZ 103)),mv 105 16,mv 106 8,aD 107 105 106,aSk 108 107 1,mv 109 8,aR 110 108 109,oZ 111 (.bin .mul .num (kZ 2) (tZ 110)),aD 112 104 111,aDk 113 112 1,mv 6 113]
 .ret)))))))))))⟩
theorem cf40:cFn Tryz.prog Tryz.f100=some af40:=by kernel_rfl
def af66:AFn:=⟨24,[(4,none)],(sr [bo 2 0,bo 3 1,mfZ 4]
 (sr [fa 5 1 2,lo 6 5,fa 7 1 3,lo 8 7,cL 9 6 8,mv 10 9,gff 11 10 1 2,gfl 12 10 11,gff 13 10 1 3,gfl 14 10 13,gZ 15 10 false (.bin .eql .num (tZ 12) (tZ 14)),gfm 16 10 15,gtf 17 16 2 2,gtl 18 16 17,gtf 19 16 2 3,gtl 20 16 19,gZ 21 16 true (.bin .lss .num (tZ 18) (tZ 20)),gZ 22 10 false (.pick (tZ 16) (tZ 21) (bZ false)),pk1 23 10 22,mv 4 23]
 .ret))⟩
theorem cf66:cFn Tryz.prog Tryz.f131=some af66:=by kernel_rfl
def af67:AFn:=⟨22,[(6,none)],(sr [bo 3 0,mk 6 0]
 (sr [fa 8 1 3,lo 9 8,le 10 9,mv 7 10]
 (.seq (sr [mv 11 2]
 (.cond (tZ 11) (sr [mv 12 1,oZ 13 (.bin .mul .num (kZ 2) (tZ 12)),mv 6 13]
 .ret)
 .skip))
 (sr [mv 14 1,mv 15 7,aD 16 14 15,aSk 17 16 1,mv 18 7,aR 19 17 18,oZ 20 (.bin .mul .num (kZ 2) (tZ 19)),aDk 21 20 1,mv 6 21]
 .ret))))⟩
theorem cf67:cFn Tryz.prog Tryz.f132=some af67:=by kernel_rfl
def af69:AFn:=⟨42,[(4,none)],(sr [bo 2 0,mk 4 0]
 (.seq (sr [mk 5 0]
 (.block 0 (.loop (.seq (sr [mv 6 5,fa 7 1 2,lo 8 7,le 9 8,cL 10 6 9]
 (.cond (tZ 10) .skip
 (.exit 0)))
 (.seq (.block 1 (.seq (.region true [mv 13 5,mv 14 1,cN 15 13 14,mv 16 15,gtf 17 16 1 2,gtl 18 16 17,gtm 19 16 5,gZ 20 16 true (.idxA 6 (tZ 18) (tZ 19)),gtf 21 16 0 20,gtl 22 16 21,gZ 23 16 true (.bin .eql .num (tZ 22) (kZ 2)),pk0 24 16 23,mv 25 24,gtf 26 25 1 2,gtl 27 25 26,gtm 28 25 5,gZ 29 25 true (.idxA 6 (tZ 27) (tZ 28)),gtf 30 25 3 29,gtl 31 25 30,gtf 32 25 1 2,gtl 33 25 32,gtm 34 25 1,gZ 35 25 true (.idxA 6 (tZ 33) (tZ 34)),gtf 36 25 3 35,gtl 37 25 36,gZ 38 25 true (.bin .eql .num (tZ 31) (tZ 37)),pk0 39 25 38])
 (.cond (tZ 39) (sr [mv 40 5,mv 4 40]
 .ret)
 .skip)))
 (rf [mv 11 5,aDk 12 11 1,mv 5 12]))))))
 (sr [mv 41 1,mv 4 41]
 .ret)))⟩
theorem cf69:cFn Tryz.prog Tryz.f133=some af69:=by kernel_rfl
def af70:AFn:=⟨19,[(4,none)],(sr [mk 4 0]
 (.seq (sr [mk 5 0]
 (.block 0 (.loop (.seq (sr [mv 6 5,mv 7 0,le 8 7,cL 9 6 8]
 (.cond (tZ 9) .skip
 (.exit 0)))
 (.seq (.block 1 (sr [mv 12 0,mv 13 5,ix 14 1 12 13,lo 15 14,mv 16 1,cE 17 15 16]
 (.cond (tZ 17) (sr [mv 18 5,mv 4 18]
 .ret)
 .skip)))
 (rf [mv 10 5,aDk 11 10 1,mv 5 11]))))))
 (sr [mk 4 (-1)]
 .ret)))⟩
theorem cf70:cFn Tryz.prog Tryz.f59=some af70:=by kernel_rfl
end Go.Known
end
section
namespace Go.Known
open Go Go.AE Go.Proofs
set_option maxRecDepth 100000
set_option maxHeartbeats 400000
def af5:AFn:=⟨147,[(0,none)],(sr [mfZ 0]
 (sr [oZ 22 (.call (.fn 19) []),mv 21 22,ex 23 21 0,ex 24 21 1,oZ 1 (.alloc [.nilSl,(.int .i64 0),(.int .i64 0)]),oZ 2 (.alloc [(.int .i64 0),.nilSl]),so 3 1 23,so 2 2 24]
 (sr [lw 26 2 2,ca1 27 13 26,mv 25 27,ex 28 25 0,ex 29 25 1,oZ 3 (.alloc [(.int .i64 0),.nilSl,.nilSl,.nilSl]),so 4 3 28,mv 4 29]
 (sr [lw 31 4 3,ca1 32 16 31,mv 30 32,ex 33 30 0,ex 34 30 1,mv 5 33,mv 6 34]
 (sr [lw 36 4 3,ca1 37 9 36,mv 35 37,ex 38 35 0,ex 39 35 1,oZ 7 (.alloc [(.int .i64 0),.nilSl]),so 2 7 38,mv 8 39]
 (.seq (sr [mv 40 4,cNk 41 40 0,mv 42 41,gfm 43 42 6,gZ 44 42 false (.bin .neq .num (tZ 43) (kZ 0)),pk1 45 42 44,mv 46 45,gfm 47 46 8,gZ 48 46 false (.bin .neq .num (tZ 47) (kZ 0)),pk1 49 46 48,mv 50 49,gfm 51 50 5,gZ 52 50 false (.mkSl 1 5 [(.str [])] [(0,(.const (.str [94,32,94]))),(1,(.const (.str [124,32,94,32,94,32,124]))),(2,(.const (.str [124,32,49,32,124,32,124,32,50,32,124]))),(3,(.const (.str [118,32,118,32,124,32,124]))),(4,(.const (.str [118,32,118])))]),gZ 53 50 false (.call (.fn 17) [tZ 51,tZ 52]),gZ 54 50 false (.un .not (tZ 53)),pk1 55 50 54,mv 56 55,gZ 57 56 false (.load (some 2) (tZ 7)),gZ 58 56 false (.load (some 2) (tZ 2)),gZ 59 56 false (.call (.fn 20) [tZ 57,tZ 58]),gZ 60 56 false (.un .not (tZ 59)),pk1 61 56 60]
 (.cond (tZ 61) (sr [mfZ 0]
 .ret)
 .skip))
 (sr [oZ 62 (.build [(.int .i64 0),(.int .i64 0),(.int .i64 0),(.int .i64 0),(.int .i64 0),(.bool false)] [(0,1,kZ 2),(3,1,kZ 1),(4,1,kZ 1),(5,1,bZ true)]),oZ 9 (.alloc [(.int .i64 0),(.int .i64 0),(.int .i64 0),(.int .i64 0),(.int .i64 0),(.bool false)]),so 6 9 62]
 (sr [lw 63 6 9,oZ 10 (.alloc [(.int .i64 0),(.int .i64 0),(.int .i64 0),(.int .i64 0),(.int .i64 0),(.bool false)]),so 6 10 63]
 (sr [fa 64 5 10,pZ (.store 1 (tZ 64) (bZ false))]
 (.seq (.region true [oZ 66 (.call (.fn 21) [kZ 0,kZ 1]),⟨(some 67),.load (some 6) (tZ 10),none,[0]⟩,⟨(some 68),.load (some 6) (tZ 9),none,[0]⟩,⟨(some 69),.call (.fn 21) [kZ 1,kZ 1],none,[1,2]⟩,oZ 70 (.mkSl 6 4 [(.int .i64 0),(.int .i64 0),(.int .i64 0),(.int .i64 0),(.int .i64 0),(.bool false)] [(0,tZ 66),(1,tZ 67),(2,tZ 68),(3,tZ 69)]),oZ 71 (.build [(.int .i64 0),.nilSl] [(0,1,kZ 2),(1,1,tZ 70)]),ca1 72 13 71,mv 65 72,ex 73 65 0,ex 74 65 1,⟨(some 11),.alloc [(.int .i64 0),.nilSl,.nilSl,.nilSl],none,[0,1,2,3,4,6]⟩,so 4 11 73,mv 12 74])
 (.seq (sr [mv 75 12,cNk 76 75 0,mv 77 76,gff 78 77 2 11,gfl 79 77 78,gZ 80 77 false (.lenSl (tZ 79)),gZ 81 77 false (.bin .neq .num (tZ 80) (kZ 1)),pk1 82 77 81,mv 83 82,gff 84 83 3 11,gfl 85 83 84,gZ 86 83 false (.lenSl (tZ 85)),gZ 87 83 false (.bin .neq .num (tZ 86) (kZ 3)),pk1 88 83 87,mv 89 88,gff 90 89 3 11,gfl 91 89 90,gZ 92 89 false (.idxA 4 (tZ 91) (kZ 0)),gZ 93 89 false (.load (some 4) (tZ 92)),gZ 94 89 false (.build [(.int .i64 0),(.int .i64 0),(.int .i64 0),(.bool false)] [(0,1,kZ 2),(2,1,kZ 1),(3,1,bZ true)]),gZ 95 89 false (.bin .neq (.flat [.int,.int,.int,.bool]) (tZ 93) (tZ 94)),pk1 96 89 95,mv 97 96,gff 98 97 3 11,gfl 99 97 98,gZ 100 97 false (.idxA 4 (tZ 99) (kZ 1)),gZ 101 97 false (.load (some 4) (tZ 100)),gZ 102 97 false (.build [(.int .i64 0),(.int .i64 0),(.int .i64 0),(.bool false)] [(0,1,kZ 1),(1,1,kZ 1)]),gZ 103 97 false (.bin .neq (.flat [.int,.int,.int,.bool]) (tZ 101) (tZ 102)),pk1 104 97 103]
 (.cond (tZ 104) (sr [mfZ 0]
 .ret)
 .skip))
 (sr [lw 106 3 1,lw 107 2 2,oZ 108 (.build [(.int .i64 0),(.bool false),(.int .i64 0)] [(0,1,kZ 2),(2,1,kZ 1)]),oZ 109 (.mkSl 3 1 [(.int .i64 0),(.bool false),(.int .i64 0)] [(0,tZ 108)]),oZ 110 (.build [(.int .i64 0),(.int .i64 0)] [(0,1,kZ 1),(1,1,kZ 1)]),oZ 111 (.call (.fn 22) [tZ 106,tZ 107,tZ 109,tZ 110]),mv 105 111,ex 112 105 0,ex 113 105 1,ex 114 105 2,oZ 13 (.alloc [.nilSl,(.int .i64 0),(.int .i64 0)]),oZ 14 (.alloc [(.int .i64 0),.nilSl]),so 3 13 112,so 2 14 113,mv 15 114]
 (sr [lw 116 3 1,lw 117 2 2,oZ 118 (.call (.fn 23) [tZ 116,tZ 117,kZ 1]),mv 115 118,ex 119 115 0,ex 120 115 1,ex 121 115 2,oZ 16 (.alloc [.nilSl,(.int .i64 0),(.int .i64 0)]),oZ 17 (.alloc [(.int .i64 0),.nilSl]),so 3 16 119,so 2 17 120,mv 18 121]
 (sr [lw 123 2 2,ca1 124 24 123,mv 122 124,ex 125 122 0,ex 126 122 1,mv 19 125,mv 20 126]
 (sr [mv 127 15,cEk 128 127 0,mv 129 128,gtm 130 129 18,gZ 131 129 true (.bin .eql .num (tZ 130) (kZ 5)),pk0 132 129 131,mv 133 132,gtm 134 133 20,gZ 135 133 true (.bin .eql .num (tZ 134) (kZ 0)),pk0 136 133 135,mv 137 136,gtm 138 137 19,gZ 139 137 true (.lenSl (tZ 138)),gZ 140 137 true (.bin .eql .num (tZ 139) (kZ 4)),pk0 141 137 140,mv 142 141,gZ 143 142 true (.load (some 2) (tZ 14)),gZ 144 142 true (.call (.fn 25) [tZ 143]),gZ 145 142 true (.bin .eql .num (tZ 144) (.const (.str [51,58,32,48,46,49,32,49,46,49,32,50,46,49,32,51,46,49]))),pk0 146 142 145,mv 0 146]
 .ret)))))))))))))))⟩
theorem cf5:cFn Tryz.prog Tryz.f8=some af5:=by kernel_rfl
theorem gd5:GD 8 af5:=gG Tryz.func8 cf5 (by kernel_rfl)
def af6:AFn:=⟨49,[(2,(some (some 4))),(3,none)],(sr [bo 1 0,oZ 2 (.alloc [(.int .i64 0),.nilSl,.nilSl,.nilSl]),mk 3 0]
 (sr [lw 10 2 1,ca1 11 34 10,mv 9 11,ex 12 9 0,ex 13 9 1,oZ 4 (.alloc [(.int .i64 0),.nilSl]),so 2 4 12,mv 5 13]
 (.seq (sr [mv 14 5,cNk 15 14 0]
 (.cond (tZ 15) (sr [oZ 16 (.build [(.int .i64 0),.nilSl,.nilSl,.nilSl] []),mv 17 5,so 4 2 16,mv 3 17]
 .ret)
 .skip))
 (.seq (.region true [fa 18 0 1,lo 19 18,fa 20 0 1,lo 21 20,aDk 22 21 1,⟨(some 23),.makeSl 1 8 [(.int .i64 0)] (tZ 22) (tZ 22),none,[1]⟩,⟨(some 24),.load (some 2) (tZ 1),none,[5]⟩,⟨(some 25),.call (.fn 35) [tZ 24],none,[1,3,5]⟩,⟨(some 26),.load (some 2) (tZ 4),none,[5,7]⟩,⟨(some 27),.call (.fn 35) [tZ 26],none,[1,3,5]⟩,oZ 28 (.build [(.int .i64 0),.nilSl,.nilSl,.nilSl] [(0,1,tZ 19),(1,1,tZ 23),(2,1,tZ 25),(3,1,tZ 27)]),⟨(some 6),.alloc [(.int .i64 0),.nilSl,.nilSl,.nilSl],none,[1,3,5,6,7,8,9]⟩,so 4 6 28])
 (.seq (sr [fa 29 1 1,lo 30 29,le 31 30,mk 32 0]
 (.block 0 (.loop (sr [cL 33 32 31]
 (.seq (.cond (tZ 33) .skip
 (.exit 0))
 (.seq (.block 1 (sr [ix 34 6 30 32,lw 35 6 34,oZ 8 (.alloc [(.int .i64 0),(.int .i64 0),(.int .i64 0),(.int .i64 0),(.int .i64 0),(.bool false)]),so 6 8 35]
 (sr [fa 36 0 8,lo 37 36,cEk 38 37 1]
 (.cond (tZ 38) (rf [fa 39 1 6,lo 40 39,fa 41 1 8,lo 42 41,ix 43 1 40 42,lo 44 43,aDk 45 44 1,ix 46 1 40 42,so 1 46 45])
 .skip))))
 (rf [aDk 47 32 1,mv 32 47])))))))
 (sr [lw 48 4 6,so 4 2 48,mk 3 0]
 .ret))))))⟩
theorem cf6:cFn Tryz.prog Tryz.f13=some af6:=by kernel_rfl
theorem gd6:GD 13 af6:=gG Tryz.func13 cf6 (by kernel_rfl)
def af9:AFn:=by
 have h:=rQ Tryz.f52
 conv at h=>rhs; reduce
 exact oR h
theorem cf9:cFn Tryz.prog Tryz.f52=some af9:=by kernel_rfl
theorem gd9:GD 52 af9:=gG Tryz.func52 cf9 (by kernel_rfl)
def af10:AFn:=by
 have h:=rQ Tryz.f24
 conv at h=>rhs; reduce
 exact oR h
theorem cf10:cFn Tryz.prog Tryz.f24=some af10:=by kernel_rfl
theorem gd10:GD 24 af10:=gG Tryz.func24 cf10 (by kernel_rfl)
def af12:AFn:=⟨38,[(4,none)],(sr [bo 2 0,bo 3 1,mfZ 4]
 (.seq (sr [fa 6 0 2,lo 7 6,fa 8 0 3,lo 9 8,cN 10 7 9,mv 11 10,gff 12 11 1 2,gfl 13 11 12,gZ 14 11 false (.lenSl (tZ 13)),gff 15 11 1 3,gfl 16 11 15,gZ 17 11 false (.lenSl (tZ 16)),gZ 18 11 false (.bin .neq .num (tZ 14) (tZ 17)),pk1 19 11 18]
 (.cond (tZ 19) (sr [mfZ 4]
 .ret)
 .skip))
 (.seq (sr [mk 5 0]
 (.block 0 (.loop (.seq (sr [mv 20 5,fa 21 1 2,lo 22 21,le 23 22,cL 24 20 23]
 (.cond (tZ 24) .skip
 (.exit 0)))
 (.seq (.block 1 (.seq (.region true [fa 27 1 2,lo 28 27,mv 29 5,ix 30 6 28 29,lw 31 6 30,fa 32 1 3,lo 33 32,mv 34 5,ix 35 6 33 34,lw 36 6 35,oZ 37 (.bin .neq (.flat [.int,.int,.int,.int,.int,.bool]) (tZ 31) (tZ 36))])
 (.cond (tZ 37) (sr [mfZ 4]
 .ret)
 .skip)))
 (rf [mv 25 5,aDk 26 25 1,mv 5 26]))))))
 (sr [mtZ 4]
 .ret))))⟩
theorem cf12:cFn Tryz.prog Tryz.f11=some af12:=by kernel_rfl
theorem gd12:GD 11 af12:=gG Tryz.func11 cf12 (by kernel_rfl)
def af18:AFn:=by
 have h:=rQ Tryz.f19
 conv at h=>rhs; reduce
 exact oR h
theorem cf18:cFn Tryz.prog Tryz.f19=some af18:=by kernel_rfl
theorem gd18:GD 19 af18:=gG Tryz.func19 cf18 (by kernel_rfl)
def af19:AFn:=by
 have h:=rQ Tryz.f16
 conv at h=>rhs; reduce
 exact oR h
theorem cf19:cFn Tryz.prog Tryz.f16=some af19:=by kernel_rfl
theorem gd19:GD 16 af19:=gG Tryz.func16 cf19 (by kernel_rfl)
def af20:AFn:=by
 have h:=rQ Tryz.f9
 conv at h=>rhs; reduce
 exact oR h
theorem cf20:cFn Tryz.prog Tryz.f9=some af20:=by kernel_rfl
theorem gd20:GD 9 af20:=gG Tryz.func9 cf20 (by kernel_rfl)
def af21:AFn:=by
 have h:=rQ Tryz.f17
 conv at h=>rhs; reduce
 exact oR h
theorem cf21:cFn Tryz.prog Tryz.f17=some af21:=by kernel_rfl
theorem gd21:GD 17 af21:=gG Tryz.func17 cf21 (by kernel_rfl)
def af22:AFn:=by
 have h:=rQ Tryz.f20
 conv at h=>rhs; reduce
 exact oR h
theorem cf22:cFn Tryz.prog Tryz.f20=some af22:=by kernel_rfl
theorem gd22:GD 20 af22:=gG Tryz.func20 cf22 (by kernel_rfl)
def af23:AFn:=by
 have h:=rQ Tryz.f21
 conv at h=>rhs; reduce
 exact oR h
theorem cf23:cFn Tryz.prog Tryz.f21=some af23:=by kernel_rfl
theorem gd23:GD 21 af23:=gG Tryz.func21 cf23 (by kernel_rfl)
def af24:AFn:=by
 have h:=rQ Tryz.f22
 conv at h=>rhs; reduce
 exact oR h
theorem cf24:cFn Tryz.prog Tryz.f22=some af24:=by kernel_rfl
theorem gd24:GD 22 af24:=gG Tryz.func22 cf24 (by kernel_rfl)
def af25:AFn:=by
 have h:=rQ Tryz.f23
 conv at h=>rhs; reduce
 exact oR h
theorem cf25:cFn Tryz.prog Tryz.f23=some af25:=by kernel_rfl
theorem gd25:GD 23 af25:=gG Tryz.func23 cf25 (by kernel_rfl)
def af26:AFn:=by
 have h:=rQ Tryz.f25
 conv at h=>rhs; reduce
 exact oR h
theorem cf26:cFn Tryz.prog Tryz.f25=some af26:=by kernel_rfl
theorem gd26:GD 25 af26:=gG Tryz.func25 cf26 (by kernel_rfl)
def af27:AFn:=⟨8,[(2,(some (some 2))),(3,none)],(sr [bo 1 0,oZ 2 (.alloc [(.int .i64 0),.nilSl]),mk 3 0]
 (sr [lw 4 2 1,oZ 5 (.call (.fn 65) [tZ 4,(.fn 66)]),ex 6 5 0,ex 7 5 1,so 2 2 6,mv 3 7]
 .ret))⟩
theorem cf27:cFn Tryz.prog Tryz.f34=some af27:=by kernel_rfl
theorem gd27:GD 34 af27:=gG Tryz.func34 cf27 (by kernel_rfl)
def af30:AFn:=by
 have h:=rQ Tryz.f51
 conv at h=>rhs; reduce
 exact oR h
theorem cf30:cFn Tryz.prog Tryz.f51=some af30:=by kernel_rfl
theorem gd30:GD 51 af30:=gG Tryz.func51 cf30 (by kernel_rfl)
def af31:AFn:=⟨8,[(2,none)],(sr [mnZ 2]
 (.seq (sr [mv 3 0,oZ 4 (.bin .eql .slice (tZ 3) (.const .nilSl))]
 (.cond (tZ 4) (sr [mnZ 2]
 .ret)
 .skip))
 (sr [oZ 5 (.mkSl 6 0 [(.int .i64 0),(.int .i64 0),(.int .i64 0),(.int .i64 0),(.int .i64 0),(.bool false)] []),mv 6 0,oZ 7 (.append 6 48 [(.int .i64 0),(.int .i64 0),(.int .i64 0),(.int .i64 0),(.int .i64 0),(.bool false)] (tZ 5) (tZ 6)),mv 2 7]
 .ret)))⟩
theorem cf31:cFn Tryz.prog Tryz.f67=some af31:=by kernel_rfl
theorem gd31:GD 67 af31:=gG Tryz.func67 cf31 (by kernel_rfl)
def af32:AFn:=by
 have h:=rQ Tryz.f94
 conv at h=>rhs; reduce
 exact oR h
theorem cf32:cFn Tryz.prog Tryz.f94=some af32:=by kernel_rfl
theorem gd32:GD 94 af32:=gG Tryz.func94 cf32 (by kernel_rfl)
def af33:AFn:=by
 have h:=rQ Tryz.f95
 conv at h=>rhs; reduce
 exact oR h
theorem cf33:cFn Tryz.prog Tryz.f95=some af33:=by kernel_rfl
theorem gd33:GD 95 af33:=gG Tryz.func95 cf33 (by kernel_rfl)
def af34:AFn:=⟨37,[(4,none),(5,none)],(sr [bo 2 0,bo 3 1,mfZ 4,mk 5 0]
 (sr [lw 10 2 2,ca1 11 36 10,mv 9 11,ex 12 9 0,ex 13 9 1,oZ 6 (.alloc [(.int .i64 0),.nilSl]),so 2 6 12,mv 7 13]
 (.seq (sr [mv 14 7,cNk 15 14 0]
 (.cond (tZ 15) (sr [mv 16 7,mfZ 4,mv 5 16]
 .ret)
 .skip))
 (sr [lw 18 2 3,ca1 19 36 18,mv 17 19,ex 20 17 0,ex 21 17 1,oZ 8 (.alloc [(.int .i64 0),.nilSl]),so 2 8 20,mv 7 21]
 (.seq (sr [mv 22 7,cNk 23 22 0]
 (.cond (tZ 23) (sr [mv 24 7,mfZ 4,mv 5 24]
 .ret)
 .skip))
 (sr [fa 25 0 6,lo 26 25,fa 27 0 8,lo 28 27,cE 29 26 28,mv 30 29,gtf 31 30 1 6,gtl 32 30 31,gtf 33 30 1 8,gtl 34 30 33,gZ 35 30 true (.call (.fn 37) [tZ 32,tZ 34]),pk0 36 30 35,mv 4 36,mk 5 0]
 .ret))))))⟩
theorem cf34:cFn Tryz.prog Tryz.f14=some af34:=by kernel_rfl
theorem gd34:GD 14 af34:=gG Tryz.func14 cf34 (by kernel_rfl)
def af41:AFn:=by
 have h:=rQ Tryz.f40
 conv at h=>rhs; reduce
 exact oR h
theorem cf41:cFn Tryz.prog Tryz.f40=some af41:=by kernel_rfl
theorem gd41:GD 40 af41:=gG Tryz.func40 cf41 (by kernel_rfl)
def af42:AFn:=by
 have h:=rQ Tryz.f41
 conv at h=>rhs; reduce
 exact oR h
theorem cf42:cFn Tryz.prog Tryz.f41=some af42:=by kernel_rfl
theorem gd42:GD 41 af42:=gG Tryz.func41 cf42 (by kernel_rfl)
def af43:AFn:=by
 have h:=rQ Tryz.f42
 conv at h=>rhs; reduce
 exact oR h
theorem cf43:cFn Tryz.prog Tryz.f42=some af43:=by kernel_rfl
theorem gd43:GD 42 af43:=gG Tryz.func42 cf43 (by kernel_rfl)
def af45:AFn:=by
 have h:=rQ Tryz.f26
 conv at h=>rhs; reduce
 exact oR h
theorem cf45:cFn Tryz.prog Tryz.f26=some af45:=by kernel_rfl
theorem gd45:GD 26 af45:=gG Tryz.func26 cf45 (by kernel_rfl)
def af46:AFn:=by
 have h:=rQ Tryz.f27
 conv at h=>rhs; reduce
 exact oR h
theorem cf46:cFn Tryz.prog Tryz.f27=some af46:=by kernel_rfl
theorem gd46:GD 27 af46:=gG Tryz.func27 cf46 (by kernel_rfl)
def af47:AFn:=⟨199,[(4,(some (some 2))),(5,none)],(sr [oZ 4 (.alloc [(.int .i64 0),.nilSl]),mfZ 5]
 (sr [mv 23 1,oZ 24 (.build [(.int .i64 0),.nilSl] [(0,1,tZ 23)]),oZ 6 (.alloc [(.int .i64 0),.nilSl]),so 2 6 24]
 (sr [mv 25 0,nc 26 25,fa 27 0 26,lo 28 27,le 29 28,mv 7 29]
 (sr [mv 30 0,nc 31 30,fa 32 2 31,lo 33 32,le 34 33,oZ 35 (.makeSl 1 24 [.nilSl] (tZ 34) (tZ 34)),mv 8 35]
 (sr [oZ 36 (.mkMap),mv 9 36]
 (sr [mv 37 7,mv 38 0,nc 39 38,fa 40 2 39,lo 41 40,le 42 41,oZ 43 (.bin .mul .num (kZ 2) (tZ 42)),aD 44 37 43,mv 10 44]
 (sr [mk 11 0]
 (.seq (.block 0 (.loop (.block 1 (.seq (sr [mv 45 10,aSk 46 45 1,mv 10 46]
 (sr [mv 47 10,cLk 48 47 0]
 (.cond (tZ 48) (sr [oZ 49 (.build [(.int .i64 0),.nilSl] []),so 2 4 49,mfZ 5]
 .ret)
 .skip)))
 (.seq (sr [mv 50 11,mv 51 7,oZ 52 (.bin .mul .num (kZ 2) (tZ 51)),cL 53 50 52]
 (.cond (tZ 53) (.seq (.region true [fa 54 1 6,lo 55 54,mv 56 0,nc 57 56,fa 58 0 57,lo 59 58,mv 60 11,aQk 61 60 2,ix 62 6 59 61,lw 63 6 62,⟨(some 64),.mkSl 6 1 [(.int .i64 0),(.int .i64 0),(.int .i64 0),(.int .i64 0),(.int .i64 0),(.bool false)] [(0,tZ 63)],none,[1]⟩,oZ 65 (.append 6 48 [(.int .i64 0),(.int .i64 0),(.int .i64 0),(.int .i64 0),(.int .i64 0),(.bool false)] (tZ 55) (tZ 64)),fa 66 1 6,so 1 66 65])
 (rf [mv 67 11,oZ 68 (.bin .xor .num (tZ 67) (kZ 1)),mv 11 68]))
 (sr [mv 69 11,mv 70 7,oZ 71 (.bin .mul .num (kZ 2) (tZ 70)),aS 72 69 71,aQk 73 72 4,mv 74 11,mv 75 7,oZ 76 (.bin .mul .num (kZ 2) (tZ 75)),aS 77 74 76,aRk 78 77 4,mv 12 73,mv 13 78]
 (.seq (sr [mv 79 9,mv 80 12,oZ 81 (.lookup .int (.int .i64 0) false (tZ 79) (tZ 80)),cEk 82 81 0]
 (.cond (tZ 82) (rf [mv 83 9,mv 84 12,mv 85 9,oZ 86 (.lenMap (tZ 85)),aDk 87 86 1,pZ (.mapUpd .int (tZ 83) (tZ 84) (tZ 87))])
 .skip))
 (.seq (.region true [mv 88 8,mv 89 12,mv 90 8,mv 91 12,ix 92 1 90 91,lo 93 92,fa 94 1 6,lo 95 94,le 96 95,mv 97 13,oZ 98 (.build [(.int .i64 0),(.int .i64 0)] [(0,1,tZ 96),(1,1,tZ 97)]),⟨(some 99),.mkSl 2 1 [(.int .i64 0),(.int .i64 0)] [(0,tZ 98)],none,[4,5]⟩,oZ 100 (.append 2 16 [(.int .i64 0),(.int .i64 0)] (tZ 93) (tZ 99)),ix 101 1 88 89,so 1 101 100])
 (sr [fa 102 1 6,lo 103 102,mv 104 9,mv 105 12,oZ 106 (.lookup .int (.int .i64 0) false (tZ 104) (tZ 105)),oZ 107 (.build [(.int .i64 0),(.int .i64 0),(.int .i64 0),(.int .i64 0),(.int .i64 0),(.bool false)] [(0,1,kZ 2),(3,1,tZ 106)]),oZ 108 (.mkSl 6 1 [(.int .i64 0),(.int .i64 0),(.int .i64 0),(.int .i64 0),(.int .i64 0),(.bool false)] [(0,tZ 107)]),oZ 109 (.append 6 48 [(.int .i64 0),(.int .i64 0),(.int .i64 0),(.int .i64 0),(.int .i64 0),(.bool false)] (tZ 103) (tZ 108)),fa 110 1 6,so 1 110 109]
 (rf [mv 111 11,mv 112 13,aDk 113 112 2,aRk 114 113 4,mv 115 13,aS 116 114 115,aD 117 111 116,mv 11 117])))))))
 (.seq (sr [mv 118 0,nc 119 118,fa 120 1 119,lo 121 120,mv 122 11,ix 123 1 121 122,lo 124 123,mv 11 124]
 (sr [mv 125 11,cEk 126 125 0]
 (.cond (tZ 126) (.exit 0)
 .skip)))
 (sr [mv 127 11,cLk 128 127 0]
 (.cond (tZ 128) (sr [oZ 129 (.build [(.int .i64 0),.nilSl] []),so 2 4 129,mfZ 5]
 .ret)
 .skip))))))))
 (.seq (sr [mv 130 10,cNk 131 130 0]
 (.cond (tZ 131) (sr [oZ 132 (.build [(.int .i64 0),.nilSl] []),so 2 4 132,mfZ 5]
 .ret)
 .skip))
 (.seq (sr [mv 133 8,le 134 133,mk 135 0]
 (.block 2 (.loop (sr [cL 136 135 134]
 (.seq (.cond (tZ 136) .skip
 (.exit 2))
 (.seq (.block 3 (sr [mv 137 135,ix 138 1 133 135,lo 139 138,mv 14 137,mv 15 139]
 (sr [mv 140 0,nc 141 140,fa 142 2 141,lo 143 142,mv 144 14,ix 145 6 143 144,lw 146 6 145,oZ 16 (.alloc [(.int .i64 0),(.int .i64 0),(.int .i64 0),(.int .i64 0),(.bool false),(.bool false)]),so 6 16 146]
 (.seq (.region true [mv 147 15,oZ 148 (.idxA 2 (tZ 147) (kZ 0)),lw 149 2 148,mv 150 15,oZ 151 (.idxA 2 (tZ 150) (kZ 1)),lw 152 2 151,⟨(some 17),.alloc [(.int .i64 0),(.int .i64 0)],none,[1,2,4,5]⟩,⟨(some 18),.alloc [(.int .i64 0),(.int .i64 0)],none,[1,2,4,5,6]⟩,⟨none,.store 2 (tZ 17) (tZ 149),none,[4,5]⟩,so 2 18 152])
 (.seq (sr [fa 153 1 17,lo 154 153,aRk 155 154 2,cEk 156 155 0,fa 157 4 16,lo 158 157,oZ 159 (.bin .neq .bool (tZ 156) (tZ 158))]
 (.cond (tZ 159) (rf [lw 160 2 18,lw 161 2 17,so 2 17 160,so 2 18 161])
 .skip))
 (sr [mk 19 (-1)]
 (.seq (sr [fa 162 1 18,lo 163 162,fa 164 1 17,lo 165 164,aDk 166 165 3,aRk 167 166 4,cE 168 163 167]
 (.cond (tZ 168) (rf [mk 19 1])
 .skip))
 (sr [mv 169 15,le 170 169,mk 171 0]
 (.block 4 (.loop (sr [cL 172 171 170]
 (.seq (.cond (tZ 172) .skip
 (.exit 4))
 (.seq (.block 5 (sr [ix 173 2 169 171,lw 174 2 173,oZ 21 (.alloc [(.int .i64 0),(.int .i64 0)]),so 2 21 174]
 (sr [fa 175 1 6,lo 176 175,fa 177 0 21,lo 178 177,ix 179 6 176 178,mv 22 179]
 (.region true [mv 180 22,mv 181 22,mv 182 19,lw 183 2 21,lw 184 2 17,oZ 185 (.bin .eql (.flat [.int,.int]) (tZ 183) (tZ 184)),fa 186 5 16,lo 187 186,oZ 188 (.bin .neq .bool (tZ 185) (tZ 187)),nc 189 180,fa 190 4 189,⟨none,.store 1 (tZ 190) (tZ 182),none,[3,4,7]⟩,nc 191 181,fa 192 5 191,so 1 192 188]))))
 (rf [aDk 193 171 1,mv 171 193]))))))))))))))
 (rf [aDk 194 135 1,mv 135 194])))))))
 (.seq (.region true [lw 195 2 6,lw 196 2 6,⟨(some 197),.call (.fn 51) [tZ 196],none,[0]⟩,cEk 198 197 0,so 2 4 195,mv 5 198])
 .ret)))))))))))⟩
theorem cf47:cFn Tryz.prog Tryz.f28=some af47:=by kernel_rfl
theorem gd47:GD 28 af47:=gG Tryz.func28 cf47 (by kernel_rfl)
def af48:AFn:=by
 have h:=rQ Tryz.f46
 conv at h=>rhs; reduce
 exact oR h
theorem cf48:cFn Tryz.prog Tryz.f46=some af48:=by kernel_rfl
theorem gd48:GD 46 af48:=gG Tryz.func46 cf48 (by kernel_rfl)
def af49:AFn:=by
 have h:=rQ Tryz.f47
 conv at h=>rhs; reduce
 exact oR h
theorem cf49:cFn Tryz.prog Tryz.f47=some af49:=by kernel_rfl
theorem gd49:GD 47 af49:=gG Tryz.func47 cf49 (by kernel_rfl)
def af50:AFn:=by
 have h:=rQ Tryz.f48
 conv at h=>rhs; reduce
 exact oR h
theorem cf50:cFn Tryz.prog Tryz.f48=some af50:=by kernel_rfl
theorem gd50:GD 48 af50:=gG Tryz.func48 cf50 (by kernel_rfl)
def af51:AFn:=by
 have h:=rQ Tryz.f49
 conv at h=>rhs; reduce
 exact oR h
theorem cf51:cFn Tryz.prog Tryz.f49=some af51:=by kernel_rfl
theorem gd51:GD 49 af51:=gG Tryz.func49 cf51 (by kernel_rfl)
def af52:AFn:=by
 have h:=rQ Tryz.f50
 conv at h=>rhs; reduce
 exact oR h
theorem cf52:cFn Tryz.prog Tryz.f50=some af52:=by kernel_rfl
theorem gd52:GD 50 af52:=gG Tryz.func50 cf52 (by kernel_rfl)
def af53:AFn:=by
 have h:=rQ Tryz.f44
 conv at h=>rhs; reduce
 exact oR h
theorem cf53:cFn Tryz.prog Tryz.f44=some af53:=by kernel_rfl
theorem gd53:GD 44 af53:=gG Tryz.func44 cf53 (by kernel_rfl)
def af54:AFn:=⟨23,[(4,(some (some 2))),(5,none)],(sr [bo 2 0,oZ 4 (.alloc [(.int .i64 0),.nilSl]),mk 5 0]
 (sr [lw 9 2 2,ca1 10 71 9,mv 8 10,ex 11 8 0,ex 12 8 1,mv 6 11,mv 7 12]
 (.seq (sr [mv 13 7,cNk 14 13 0]
 (.cond (tZ 14) (sr [oZ 15 (.build [(.int .i64 0),.nilSl] []),mv 16 7,so 2 4 15,mv 5 16]
 .ret)
 .skip))
 (.seq (.region true [fa 17 0 2,lo 18 17,mv 19 1,mv 20 6,⟨(some 21),.call (tZ 19) [tZ 20],none,[1]⟩,oZ 22 (.build [(.int .i64 0),.nilSl] [(0,1,tZ 18),(1,1,tZ 21)]),so 2 4 22,mk 5 0])
 .ret))))⟩
theorem cf54:cFn Tryz.prog Tryz.f65=some af54:=by kernel_rfl
theorem gd54:GD 65 af54:=gG Tryz.func65 cf54 (by kernel_rfl)
def af55:AFn:=⟨47,[(2,none)],(sr [mnZ 2]
 (sr [mv 6 0,nc 7 6,fa 8 0 7,fa 9 1 8,lo 10 9,ca1 11 67 10,mv 3 11]
 (sr [mk 4 0]
 (.seq (sr [mv 12 3,le 13 12,aSk 14 13 1,mv 5 14]
 (.block 0 (.loop (.seq (sr [mv 15 5,cHk 16 15 0]
 (.cond (tZ 16) .skip
 (.exit 0)))
 (.seq (.block 1 (sr [mv 19 3,mv 20 5,ix 21 6 19 20,fa 22 0 21,lo 23 22,cEk 24 23 2]
 (.cond (tZ 24) (rf [mv 25 3,mv 26 5,mv 27 3,mv 28 5,ix 29 6 27 28,fa 30 5 29,lo 31 30,no 32 31,ix 33 6 25 26,fa 34 5 33,so 1 34 32])
 (sr [mv 35 0,nc 36 35,fa 37 2 36,lo 38 37,mv 39 5,ix 40 1 38 39,lo 41 40,no 42 41]
 (.cond (tZ 42) (rf [mv 43 5,mv 4 43])
 .skip)))))
 (rf [mv 17 5,aSk 18 17 1,mv 5 18]))))))
 (sr [mv 44 3,mv 45 4,ca2 46 68 44 45,mv 2 46]
 .ret)))))⟩
theorem cf55:cFn Tryz.prog Tryz.f66=some af55:=by kernel_rfl
theorem gd55:GD 66 af55:=gG Tryz.func66 cf55 (by kernel_rfl)
def af56:AFn:=⟨13,[(4,none)],(sr [mnZ 4]
 (.seq (.region true [mv 5 0,mv 6 1,oZ 7 (.slSl 6 (tZ 5) (some (tZ 6)) none none),oZ 8 (.append 6 48 [(.int .i64 0),(.int .i64 0),(.int .i64 0),(.int .i64 0),(.int .i64 0),(.bool false)] (.const .nilSl) (tZ 7)),mv 9 0,mv 10 1,⟨(some 11),.slSl 6 (tZ 9) none (some (tZ 10)) none,none,[3]⟩,oZ 12 (.append 6 48 [(.int .i64 0),(.int .i64 0),(.int .i64 0),(.int .i64 0),(.int .i64 0),(.bool false)] (tZ 8) (tZ 11)),mv 4 12])
 .ret))⟩
theorem cf56:cFn Tryz.prog Tryz.f68=some af56:=by kernel_rfl
theorem gd56:GD 68 af56:=gG Tryz.func68 cf56 (by kernel_rfl)
def af57:AFn:=⟨105,[(2,none)],(sr [bo 1 0,oZ 2 (.mov (.const .nilPtr))]
 (sr [fa 15 1 1,lo 16 15,le 17 16,mv 3 17]
 (.seq (.region true [fa 18 1 1,lo 19 18,mv 20 3,⟨(some 21),.makeSl 1 8 [(.int .i64 0)] (tZ 20) (tZ 20),none,[1]⟩,oZ 22 (.build [.nilSl,.nilSl,.nilSl] [(0,1,tZ 19),(1,1,tZ 21)]),bo 23 22,mv 4 23])
 (sr [oZ 24 (.mkMap),mv 5 24]
 (sr [mnZ 6]
 (sr [mtZ 7]
 (.seq (sr [fa 25 1 1,lo 26 25,le 27 26,mk 28 0]
 (.block 0 (.loop (sr [cL 29 28 27]
 (.seq (.cond (tZ 29) .skip
 (.exit 0))
 (.seq (.block 1 (sr [mv 30 28,ix 31 6 26 28,lw 32 6 31,oZ 9 (.alloc [(.int .i64 0),(.int .i64 0),(.int .i64 0),(.int .i64 0),(.int .i64 0),(.bool false)]),mv 8 30,so 6 9 32]
 (.seq (sr [fa 33 0 9,lo 34 33,cEk 35 34 2]
 (.cond (tZ 35) (.seq (sr [mv 37 5,fa 38 3 9,lo 39 38,oZ 40 (.lookup .int (.int .i64 0) true (tZ 37) (tZ 39)),mv 36 40,ex 41 36 0,ex 42 36 1,mv 10 41,mv 11 42]
 (sr [mv 43 11]
 (.cond (tZ 43) (.region true [mv 44 4,nc 45 44,fa 46 1 45,lo 47 46,mv 48 8,mv 49 4,nc 50 49,fa 51 1 50,lo 52 51,mv 53 10,mv 54 10,mv 55 8,ix 56 1 47 48,so 1 56 54,ix 57 1 52 53,so 1 57 55])
 .skip)))
 (sr [mv 58 5,fa 59 3 9,lo 60 59,mv 61 8,pZ (.mapUpd .int (tZ 58) (tZ 60) (tZ 61))]
 (.exit 1)))
 .skip))
 (sr [mv 62 8,mv 63 8,oZ 64 (.bin .mul .num (kZ 2) (tZ 63)),oZ 65 (.build [(.int .i64 0),(.int .i64 0)] [(0,1,tZ 62),(1,1,tZ 64)]),oZ 12 (.alloc [(.int .i64 0),(.int .i64 0)]),so 2 12 65]
 (.seq (sr [mv 66 7]
 (.cond (tZ 66) (rf [mv 67 8,aSk 68 67 1,mv 69 3,aD 70 68 69,mv 71 3,aR 72 70 71,oZ 73 (.bin .mul .num (kZ 2) (tZ 72)),aDk 74 73 1,fa 75 1 12,so 1 75 74])
 .skip))
 (sr [mv 76 7,no 77 76,mv 7 77]
 (rf [mv 78 6,lw 79 2 12,oZ 80 (.mkSl 2 1 [(.int .i64 0),(.int .i64 0)] [(0,tZ 79)]),oZ 81 (.append 2 16 [(.int .i64 0),(.int .i64 0)] (tZ 78) (tZ 80)),mv 6 81])))))))
 (rf [aDk 82 28 1,mv 28 82])))))))
 (sr [mv 83 6,oZ 84 (.mkFunc (.func 102) [] [tZ 1]),ca2 85 101 83 84]
 (.seq (sr [mv 86 6,le 87 86,mk 88 0]
 (.block 2 (.loop (sr [cL 89 88 87]
 (.seq (.cond (tZ 89) .skip
 (.exit 2))
 (.seq (.block 3 (sr [ix 90 2 86 88,lw 91 2 90,oZ 14 (.alloc [(.int .i64 0),(.int .i64 0)]),so 2 14 91]
 (.region true [mv 92 4,mv 93 4,nc 94 93,fa 95 2 94,lo 96 95,fa 97 1 14,lo 98 97,⟨(some 99),.mkSl 1 1 [(.int .i64 0)] [(0,tZ 98)],none,[4]⟩,oZ 100 (.append 1 8 [(.int .i64 0)] (tZ 96) (tZ 99)),nc 101 92,fa 102 2 101,so 1 102 100])))
 (rf [aDk 103 88 1,mv 88 103])))))))
 (sr [mv 104 4,mv 2 104]
 .ret))))))))))⟩
theorem cf57:cFn Tryz.prog Tryz.f69=some af57:=by kernel_rfl
theorem gd57:GD 69 af57:=gG Tryz.func69 cf57 (by kernel_rfl)
def af58:AFn:=⟨4,[(2,none)],(sr [bo 1 0,oZ 2 (.mov (.const .nilFunc))]
 (sr [oZ 3 (.mkFunc (.func 103) [] [tZ 1]),mv 2 3]
 .ret))⟩
theorem cf58:cFn Tryz.prog Tryz.f70=some af58:=by kernel_rfl
theorem gd58:GD 70 af58:=gG Tryz.func70 cf58 (by kernel_rfl)
def af59:AFn:=⟨29,[(2,none),(3,none)],(sr [bo 1 0,oZ 2 (.mov (.const .nilPtr)),mk 3 0]
 (.seq (sr [fa 5 1 1,lo 6 5,le 7 6,cGk 8 7 400,mv 9 8,gZ 10 9 false (.load (some 2) (tZ 1)),gZ 11 9 false (.call (.fn 110) [tZ 10]),gZ 12 9 false (.bin .gtr .num (tZ 11) (kZ 200)),pk1 13 9 12]
 (.cond (tZ 13) (sr [oZ 2 (.mov (.const .nilPtr)),mk 3 7]
 .ret)
 .skip))
 (.seq (sr [fa 14 0 1,lo 15 14,cLk 16 15 0,mv 17 16,gff 18 17 0 1,gfl 19 17 18,gZ 20 17 false (.bin .gtr .num (tZ 19) (kZ 40)),pk1 21 17 20]
 (.cond (tZ 21) (sr [oZ 2 (.mov (.const .nilPtr)),mk 3 2]
 .ret)
 .skip))
 (sr [lw 22 2 1,oZ 23 (.build [(.int .i64 0),.nilSl,.nilSl,.nilSl,.nilSl,.nilMap,.nilSl] [(0,2,tZ 22)]),bo 24 23,mv 4 24]
 (.seq (sr [mv 25 4,ca1 26 111 25,no 27 26]
 (.cond (tZ 27) (sr [oZ 2 (.mov (.const .nilPtr)),mk 3 3]
 .ret)
 .skip))
 (sr [mv 28 4,mv 2 28,mk 3 0]
 .ret))))))⟩
theorem cf59:cFn Tryz.prog Tryz.f71=some af59:=by kernel_rfl
theorem gd59:GD 71 af59:=gG Tryz.func71 cf59 (by kernel_rfl)
def af62:AFn:=by
 have h:=rQ Tryz.f129
 conv at h=>rhs; reduce
 exact oR h
theorem cf62:cFn Tryz.prog Tryz.f129=some af62:=by kernel_rfl
theorem gd62:GD 129 af62:=gG Tryz.func129 cf62 (by kernel_rfl)
def af63:AFn:=by
 have h:=rQ Tryz.f130
 conv at h=>rhs; reduce
 exact oR h
theorem cf63:cFn Tryz.prog Tryz.f130=some af63:=by kernel_rfl
theorem gd63:GD 130 af63:=gG Tryz.func130 cf63 (by kernel_rfl)
def af64:AFn:=⟨17,[(2,(some (some 2))),(3,none)],(sr [bo 1 0,oZ 2 (.alloc [(.int .i64 0),.nilSl]),mk 3 0]
 (sr [lw 7 2 1,ca1 8 71 7,mv 6 8,ex 9 6 0,ex 10 6 1,mv 4 9,mv 5 10]
 (.seq (sr [mv 11 5,cNk 12 11 0]
 (.cond (tZ 12) (sr [oZ 13 (.build [(.int .i64 0),.nilSl] []),mv 14 5,so 2 2 13,mv 3 14]
 .ret)
 .skip))
 (sr [mv 15 4,ca1 16 72 15,so 2 2 16,mk 3 0]
 .ret))))⟩
theorem cf64:cFn Tryz.prog Tryz.f36=some af64:=by kernel_rfl
theorem gd64:GD 36 af64:=gG Tryz.func36 cf64 (by kernel_rfl)
def af65:AFn:=⟨26,[(4,none)],(sr [mfZ 4]
 (.seq (sr [mv 6 0,le 7 6,mv 8 1,le 9 8,cN 10 7 9]
 (.cond (tZ 10) (sr [mfZ 4]
 .ret)
 .skip))
 (.seq (sr [mv 11 0,le 12 11,mk 13 0]
 (.block 0 (.loop (sr [cL 14 13 12]
 (.seq (.cond (tZ 14) .skip
 (.exit 0))
 (.seq (.block 1 (sr [mv 15 13,mv 5 15]
 (.seq (.region true [mv 16 0,mv 17 5,ix 18 6 16 17,lw 19 6 18,mv 20 1,mv 21 5,ix 22 6 20 21,lw 23 6 22,oZ 24 (.bin .neq (.flat [.int,.int,.int,.int,.int,.bool]) (tZ 19) (tZ 23))])
 (.cond (tZ 24) (sr [mfZ 4]
 .ret)
 .skip))))
 (rf [aDk 25 13 1,mv 13 25])))))))
 (sr [mtZ 4]
 .ret))))⟩
theorem cf65:cFn Tryz.prog Tryz.f37=some af65:=by kernel_rfl
theorem gd65:GD 37 af65:=gG Tryz.func37 cf65 (by kernel_rfl)
def af68:AFn:=⟨24,[(4,none)],(sr [bo 2 0,mfZ 4]
 (sr [mk 5 0]
 (.seq (sr [mk 6 0]
 (.block 0 (.loop (.seq (sr [mv 7 6,mv 8 1,cL 9 7 8]
 (.cond (tZ 9) .skip
 (.exit 0)))
 (.seq (.block 1 (sr [fa 12 1 2,lo 13 12,mv 14 6,ix 15 6 13 14,fa 16 0 15,lo 17 16,cEk 18 17 1]
 (.cond (tZ 18) (rf [mv 19 5,aDk 20 19 1,mv 5 20])
 .skip)))
 (rf [mv 10 6,aDk 11 10 1,mv 6 11]))))))
 (sr [mv 21 5,aRk 22 21 2,cEk 23 22 0,mv 4 23]
 .ret))))⟩
theorem cf68:cFn Tryz.prog Tryz.f80=some af68:=by kernel_rfl
theorem gd68:GD 80 af68:=gG Tryz.func80 cf68 (by kernel_rfl)
def af71:AFn:=by
 have h:=rQ Tryz.f73
 conv at h=>rhs; reduce
 exact oR h
theorem cf71:cFn Tryz.prog Tryz.f73=some af71:=by kernel_rfl
theorem gd71:GD 73 af71:=gG Tryz.func73 cf71 (by kernel_rfl)
def af72:AFn:=by
 have h:=rQ Tryz.f74
 conv at h=>rhs; reduce
 exact oR h
theorem cf72:cFn Tryz.prog Tryz.f74=some af72:=by kernel_rfl
theorem gd72:GD 74 af72:=gG Tryz.func74 cf72 (by kernel_rfl)
def af76:AFn:=by
 have h:=rQ Tryz.f53
 conv at h=>rhs; reduce
 exact oR h
theorem cf76:cFn Tryz.prog Tryz.f53=some af76:=by kernel_rfl
theorem gd76:GD 53 af76:=gG Tryz.func53 cf76 (by kernel_rfl)
def af77:AFn:=by
 have h:=rQ Tryz.f54
 conv at h=>rhs; reduce
 exact oR h
theorem cf77:cFn Tryz.prog Tryz.f54=some af77:=by kernel_rfl
theorem gd77:GD 54 af77:=gG Tryz.func54 cf77 (by kernel_rfl)
def af78:AFn:=by
 have h:=rQ Tryz.f32
 conv at h=>rhs; reduce
 exact oR h
theorem cf78:cFn Tryz.prog Tryz.f32=some af78:=by kernel_rfl
theorem gd78:GD 32 af78:=gG Tryz.func32 cf78 (by kernel_rfl)
def af79:AFn:=by
 have h:=rQ Tryz.f79
 conv at h=>rhs; reduce
 exact oR h
theorem cf79:cFn Tryz.prog Tryz.f79=some af79:=by kernel_rfl
theorem gd79:GD 79 af79:=gG Tryz.func79 cf79 (by kernel_rfl)
def af80:AFn:=by
 have h:=rQ Tryz.f81
 conv at h=>rhs; reduce
 exact oR h
theorem cf80:cFn Tryz.prog Tryz.f81=some af80:=by kernel_rfl
theorem gd80:GD 81 af80:=gG Tryz.func81 cf80 (by kernel_rfl)
def af81:AFn:=⟨37,[(4,none)],(sr [bo 2 0,bo 3 1,mfZ 4]
 (.seq (sr [mk 5 0]
 (.block 0 (.loop (.seq (sr [mv 6 5,fa 7 1 2,lo 8 7,le 9 8,cL 10 6 9]
 (.cond (tZ 10) .skip
 (.exit 0)))
 (.seq (.block 1 (.seq (.region true [fa 13 1 2,lo 14 13,mv 15 5,ix 16 6 14 15,lw 17 6 16,fa 18 1 3,lo 19 18,mv 20 5,ix 21 6 19 20,lw 22 6 21,oZ 23 (.bin .neq (.flat [.int,.int,.int,.int,.int,.bool]) (tZ 17) (tZ 22))])
 (.cond (tZ 23) (.seq (.region true [fa 24 1 2,lo 25 24,mv 26 5,ix 27 6 25 26,lw 28 6 27,ca1 29 121 28,fa 30 1 3,⟨(some 31),.load none (tZ 30),none,[5]⟩,mv 32 5,⟨(some 33),.idxA 6 (tZ 31) (tZ 32),none,[5]⟩,⟨(some 34),.load (some 6) (tZ 33),none,[5]⟩,ca1 35 121 34,ca2 36 120 29 35,mv 4 36])
 .ret)
 .skip)))
 (rf [mv 11 5,aDk 12 11 1,mv 5 12]))))))
 (sr [mfZ 4]
 .ret)))⟩
theorem cf81:cFn Tryz.prog Tryz.f82=some af81:=by kernel_rfl
theorem gd81:GD 82 af81:=gG Tryz.func82 cf81 (by kernel_rfl)
def af82:AFn:=by
 have h:=rQ Tryz.f83
 conv at h=>rhs; reduce
 exact oR h
theorem cf82:cFn Tryz.prog Tryz.f83=some af82:=by kernel_rfl
theorem gd82:GD 83 af82:=gG Tryz.func83 cf82 (by kernel_rfl)
def af83:AFn:=by
 have h:=rQ Tryz.f84
 conv at h=>rhs; reduce
 exact oR h
theorem cf83:cFn Tryz.prog Tryz.f84=some af83:=by kernel_rfl
theorem gd83:GD 84 af83:=gG Tryz.func84 cf83 (by kernel_rfl)
def af84:AFn:=by
 have h:=rQ Tryz.f85
 conv at h=>rhs; reduce
 exact oR h
theorem cf84:cFn Tryz.prog Tryz.f85=some af84:=by kernel_rfl
theorem gd84:GD 85 af84:=gG Tryz.func85 cf84 (by kernel_rfl)
def af85:AFn:=by
 have h:=rQ Tryz.f86
 conv at h=>rhs; reduce
 exact oR h
theorem cf85:cFn Tryz.prog Tryz.f86=some af85:=by kernel_rfl
theorem gd85:GD 86 af85:=gG Tryz.func86 cf85 (by kernel_rfl)
def af86:AFn:=by
 have h:=rQ Tryz.f87
 conv at h=>rhs; reduce
 exact oR h
theorem cf86:cFn Tryz.prog Tryz.f87=some af86:=by kernel_rfl
theorem gd86:GD 87 af86:=gG Tryz.func87 cf86 (by kernel_rfl)
def af87:AFn:=by
 have h:=rQ Tryz.f88
 conv at h=>rhs; reduce
 exact oR h
theorem cf87:cFn Tryz.prog Tryz.f88=some af87:=by kernel_rfl
theorem gd87:GD 88 af87:=gG Tryz.func88 cf87 (by kernel_rfl)
def af88:AFn:=by
 have h:=rQ Tryz.f89
 conv at h=>rhs; reduce
 exact oR h
theorem cf88:cFn Tryz.prog Tryz.f89=some af88:=by kernel_rfl
theorem gd88:GD 89 af88:=gG Tryz.func89 cf88 (by kernel_rfl)
def af89:AFn:=by
 have h:=rQ Tryz.f90
 conv at h=>rhs; reduce
 exact oR h
theorem cf89:cFn Tryz.prog Tryz.f90=some af89:=by kernel_rfl
theorem gd89:GD 90 af89:=gG Tryz.func90 cf89 (by kernel_rfl)
def af90:AFn:=by
 have h:=rQ Tryz.f91
 conv at h=>rhs; reduce
 exact oR h
theorem cf90:cFn Tryz.prog Tryz.f91=some af90:=by kernel_rfl
theorem gd90:GD 91 af90:=gG Tryz.func91 cf90 (by kernel_rfl)
def af93:AFn:=by
 have h:=rQ Tryz.f78
 conv at h=>rhs; reduce
 exact oR h
theorem cf93:cFn Tryz.prog Tryz.f78=some af93:=by kernel_rfl
theorem gd93:GD 78 af93:=gG Tryz.func78 cf93 (by kernel_rfl)
def af94:AFn:=by
 have h:=rQ Tryz.f101
 conv at h=>rhs; reduce
 exact oR h
theorem cf94:cFn Tryz.prog Tryz.f101=some af94:=by kernel_rfl
theorem gd94:GD 101 af94:=gG Tryz.func101 cf94 (by kernel_rfl)
def af95:AFn:=by
 have h:=rQ Tryz.f102
 conv at h=>rhs; reduce
 exact oR h
theorem cf95:cFn Tryz.prog Tryz.f102=some af95:=by kernel_rfl
theorem gd95:GD 102 af95:=gG Tryz.func102 cf95 (by kernel_rfl)
def af96:AFn:=⟨163,[],(.scope (sr [oZ 14 (.mkMap),mv 3 14]
 (.seq .skip
 (.block 0 (.loop (.seq (sr [lo 15 1,nc 16 15,fa 17 2 16,lo 18 17,le 19 18,cGk 20 19 0]
 (.cond (tZ 20) .skip
 (.exit 0)))
 (.block 1 (.seq (sr [mk 4 0]
 (.block 2 (.loop (.seq (sr [mv 21 4,aDk 22 21 1,lo 23 1,nc 24 23,fa 25 2 24,lo 26 25,le 27 26,cL 28 22 27]
 (.cond (tZ 28) .skip
 (.exit 2)))
 (.seq (.block 3 (.seq (.seq (.region true [lo 31 1,nc 32 31,fa 33 2 32,lo 34 33,mv 35 4,ix 36 1 34 35,lo 37 36,lo 38 1,nc 39 38,fa 40 2 39,lo 41 40,mv 42 4,aDk 43 42 1,ix 44 1 41 43,lo 45 44,⟨(some 46),.call (.fn 104) [tZ 45],none,[0,3,5,6]⟩,cN 47 37 46])
 (.cond (tZ 47) (.exit 3)
 .skip))
 (.seq (.region true [lo 48 1,lo 49 1,nc 50 49,fa 51 2 50,lo 52 51,mv 53 4,mv 54 4,aDk 55 54 2,⟨(some 56),.call (.fn 105) [tZ 52,tZ 53,tZ 55],none,[0]⟩,nc 57 48,fa 58 2 57,so 1 58 56])
 (.seq (sr [mv 59 0,mv 60 4,oZ 61 (.build [(.int .i64 0),(.int .i64 0),(.int .i64 0),(.bool false)] [(0,1,kZ 1),(1,1,tZ 60)]),oZ 62 (.call (tZ 59) [tZ 61]),no 63 62]
 (.cond (tZ 63) .ret
 .skip))
 (.exit 1)))))
 (rf [mv 29 4,aDk 30 29 1,mv 4 30]))))))
 (sr [mk 5 (-1),mk 6 0]
 (.seq (sr [lo 64 1,nc 65 64,fa 66 2 65,lo 67 66,le 68 67,mk 69 0]
 (.block 4 (.loop (sr [cL 70 69 68]
 (.seq (.cond (tZ 70) .skip
 (.exit 4))
 (.seq (.block 5 (sr [mv 71 69,ix 72 1 67 69,lo 73 72,mv 7 71,mv 8 73]
 (.seq (.seq (.region true [lo 74 1,nc 75 74,fa 76 0 75,lo 77 76,lo 78 1,mv 79 8,⟨(some 80),.call (.fn 106) [tZ 78,tZ 79],none,[0,3]⟩,ix 81 6 77 80,lw 82 6 81,⟨(some 9),.alloc [(.int .i64 0),(.int .i64 0),(.int .i64 0),(.int .i64 0),(.int .i64 0),(.bool false)],none,[0,3,4,6,7,8]⟩,so 6 9 82])
 (sr [fa 83 0 9,lo 84 83,cNk 85 84 2,mv 86 85,gfm 87 86 3,gff 88 86 3 9,gfl 89 86 88,gZ 90 86 false (.lookup .int (.bool false) false (tZ 87) (tZ 89)),pk1 91 86 90]
 (.cond (tZ 91) (.exit 5)
 .skip)))
 (sr [lo 92 1,mv 93 7,ca2 94 107 92 93,mv 10 94]
 (sr [mv 95 10,mv 96 6,cG 97 95 96]
 (.cond (tZ 97) (rf [mv 98 7,mv 99 10,mv 5 98,mv 6 99])
 .skip))))))
 (rf [aDk 100 69 1,mv 69 100])))))))
 (.seq (sr [mv 101 5,cLk 102 101 0]
 (.cond (tZ 102) .ret
 .skip))
 (.seq (.region true [lo 103 1,nc 104 103,fa 105 0 104,lo 106 105,lo 107 1,lo 108 1,nc 109 108,fa 110 2 109,lo 111 110,mv 112 5,ix 113 1 111 112,lo 114 113,⟨(some 115),.call (.fn 106) [tZ 107,tZ 114],none,[0,3]⟩,ix 116 6 106 115,lw 117 6 116,⟨(some 11),.alloc [(.int .i64 0),(.int .i64 0),(.int .i64 0),(.int .i64 0),(.int .i64 0),(.bool false)],none,[0,3,4,5,8,10,11,12,13,14]⟩,so 6 11 117])
 (sr [mv 118 3,fa 119 3 11,lo 120 119,pZ (.mapUpd .int (tZ 118) (tZ 120) (bZ true))]
 (sr [mnZ 12]
 (sr [lo 121 1,nc 122 121,fa 123 2 122,lo 124 123,mv 125 5,ix 126 1 124 125,lo 127 126,mv 13 127]
 (.seq (sr [mv 128 6,oZ 129 (.bin .sub .num (kZ 4) (tZ 128)),mk 130 0]
 (.block 6 (.loop (sr [cL 131 130 129]
 (.seq (.cond (tZ 131) .skip
 (.exit 6))
 (.seq (.block 7 (sr [lo 132 1,mv 133 13,ca2 134 108 132 133,mv 13 134]
 (sr [mv 135 12,mv 136 13,oZ 137 (.mkSl 1 1 [(.int .i64 0)] [(0,tZ 136)]),oZ 138 (.append 1 8 [(.int .i64 0)] (tZ 135) (tZ 137)),mv 12 138]
 (rf [mv 139 13,ca1 140 104 139,mv 13 140]))))
 (rf [aDk 141 130 1,mv 130 141])))))))
 (.seq (.region true [lo 142 1,lo 143 1,nc 144 143,fa 145 2 144,lo 146 145,mv 147 5,mv 148 5,mv 149 6,aD 150 148 149,mv 151 12,⟨(some 152),.call (.fn 109) [tZ 146,tZ 147,tZ 150,tZ 151],none,[0]⟩,nc 153 142,fa 154 2 153,so 1 154 152])
 (sr [mv 155 0,mv 156 5,mv 157 6,fa 158 5 11,lo 159 158,oZ 160 (.build [(.int .i64 0),(.int .i64 0),(.int .i64 0),(.bool false)] [(0,1,kZ 2),(1,1,tZ 156),(2,1,tZ 157),(3,1,tZ 159)]),oZ 161 (.call (tZ 155) [tZ 160]),no 162 161]
 (.cond (tZ 162) .ret
 .skip)))))))))))))))))))⟩
theorem cf96:cFn Tryz.prog Tryz.f103=some af96:=by kernel_rfl
theorem gd96:GD 103 af96:=gG Tryz.func103 cf96 (by kernel_rfl)
def af97:AFn:=⟨5,[(2,none)],(sr [mk 2 0]
 (sr [mv 3 0,oZ 4 (.bin .xor .num (tZ 3) (kZ 1)),mv 2 4]
 .ret))⟩
theorem cf97:cFn Tryz.prog Tryz.f104=some af97:=by kernel_rfl
theorem gd97:GD 104 af97:=gG Tryz.func104 cf97 (by kernel_rfl)
def af98:AFn:=⟨33,[(6,none)],(sr [mnZ 6]
 (sr [mv 8 0,mv 9 1,mv 10 2,mv 11 0,le 12 11,oZ 13 (.slSl 1 (tZ 8) (some (tZ 9)) (some (tZ 10)) (some (tZ 12)))]
 (.seq (sr [mv 14 1,mv 15 2,cE 16 14 15]
 (.cond (tZ 16) (sr [mv 17 0,mv 6 17]
 .ret)
 .skip))
 (sr [mv 18 0,le 19 18,mv 7 19]
 (.seq (.region true [mv 20 0,mv 21 1,oZ 22 (.slSl 1 (tZ 20) none (some (tZ 21)) none),mv 23 0,mv 24 2,oZ 25 (.slSl 1 (tZ 23) (some (tZ 24)) none none),oZ 26 (.append 1 8 [(.int .i64 0)] (tZ 22) (tZ 25)),mv 0 26])
 (sr [mv 27 0,mv 28 0,le 29 28,mv 30 7,oZ 31 (.slSl 1 (tZ 27) (some (tZ 29)) (some (tZ 30)) none),pZ (.clear 1 [(.int .i64 0)] (tZ 31))]
 (sr [mv 32 0,mv 6 32]
 .ret)))))))⟩
theorem cf98:cFn Tryz.prog Tryz.f105=some af98:=by kernel_rfl
theorem gd98:GD 105 af98:=gG Tryz.func105 cf98 (by kernel_rfl)
def af99:AFn:=⟨19,[(4,none)],(sr [mk 4 0]
 (.seq (sr [mv 5 1,aRk 6 5 2,cEk 7 6 0]
 (.cond (tZ 7) (sr [mv 8 1,aQk 9 8 2,aDk 10 9 1,mv 11 0,nc 12 11,fa 13 0 12,lo 14 13,le 15 14,aR 16 10 15,mv 4 16]
 .ret)
 .skip))
 (sr [mv 17 1,aQk 18 17 2,mv 4 18]
 .ret)))⟩
theorem cf99:cFn Tryz.prog Tryz.f106=some af99:=by kernel_rfl
theorem gd99:GD 106 af99:=gG Tryz.func106 cf99 (by kernel_rfl)
end Go.Known
end
section
namespace Go.Known
open Go Go.AE Go.Proofs
set_option maxRecDepth 100000
set_option maxHeartbeats 400000
def af100:AFn:=⟨81,[(4,none)],(sr [mk 4 0]
 (.seq (.region true [mv 9 0,nc 10 9,fa 11 0 10,lo 12 11,mv 13 0,mv 14 0,nc 15 14,fa 16 2 15,lo 17 16,mv 18 1,ix 19 1 17 18,lo 20 19,⟨(some 21),.call (.fn 106) [tZ 13,tZ 20],none,[3]⟩,ix 22 6 12 21,fa 23 3 22,lo 24 23,mv 5 24])
 (sr [mk 6 1]
 (.seq (.block 0 (.loop (.seq (sr [mv 25 1,mv 26 6,aD 27 25 26,mv 28 0,nc 29 28,fa 30 2 29,lo 31 30,le 32 31,cL 33 27 32]
 (.cond (tZ 33) .skip
 (.exit 0)))
 (.block 1 (sr [mv 34 0,nc 35 34,fa 36 2 35,lo 37 36,mv 38 1,mv 39 6,aD 40 38 39,ix 41 1 37 40,lo 42 41,mv 7 42]
 (.seq (.region true [mv 43 0,nc 44 43,fa 45 0 44,lo 46 45,mv 47 0,mv 48 7,⟨(some 49),.call (.fn 106) [tZ 47,tZ 48],none,[3]⟩,ix 50 6 46 49,lw 51 6 50,⟨(some 8),.alloc [(.int .i64 0),(.int .i64 0),(.int .i64 0),(.int .i64 0),(.int .i64 0),(.bool false)],none,[3,6,7,8]⟩,so 6 8 51])
 (.seq (.seq (.region true [fa 52 0 8,lo 53 52,cNk 54 53 2,mv 55 54,gff 56 55 3 8,gfl 57 55 56,gfm 58 55 5,gZ 59 55 false (.bin .neq .num (tZ 57) (tZ 58)),pk1 60 55 59,mv 61 60,gfm 62 61 0,gfm 63 61 7,gZ 64 61 false (.call (.fn 108) [tZ 62,tZ 63]),gfm 65 61 0,gZ 66 61 false (.nilChk (tZ 65)),gff 67 61 2 66,⟨(some 68),.load none (tZ 67),(some (61,false)),[12]⟩,gfm 69 61 1,gfm 70 61 6,gZ 71 61 false (.bin .add .num (tZ 69) (tZ 70)),gZ 72 61 false (.bin .sub .num (tZ 71) (kZ 1)),⟨(some 73),.idxA 1 (tZ 68) (tZ 72),(some (61,false)),[12]⟩,⟨(some 74),.load none (tZ 73),(some (61,false)),[12]⟩,gZ 75 61 false (.call (.fn 104) [tZ 74]),gZ 76 61 false (.bin .neq .num (tZ 64) (tZ 75)),pk1 77 61 76])
 (.cond (tZ 77) (.exit 0)
 .skip))
 (rf [mv 78 6,aDk 79 78 1,mv 6 79]))))))))
 (sr [mv 80 6,mv 4 80]
 .ret)))))⟩
theorem Z08:cFn Tryz.prog Tryz.f107=some af100:=by kernel_rfl
theorem Z2u:GD 107 af100:=gG Tryz.func107 Z08 (by kernel_rfl)
def af101:AFn:=⟨53,[(4,none)],(sr [mk 4 0]
 (sr [mv 8 0,mv 9 1,ca2 10 106 8 9,mv 5 10]
 (sr [mv 11 0,nc 12 11,fa 13 0 12,lo 14 13,mv 15 5,ix 16 6 14 15,lw 17 6 16,oZ 6 (.alloc [(.int .i64 0),(.int .i64 0),(.int .i64 0),(.int .i64 0),(.int .i64 0),(.bool false)]),so 6 6 17]
 (sr [mv 18 0,nc 19 18,fa 20 1 19,lo 21 20,mv 22 5,ix 23 1 21 22,lo 24 23,mv 7 24]
 (.seq (sr [mv 25 1,aRk 26 25 2,cEk 27 26 0,fa 28 5 6,lo 29 28,fa 30 4 6,lo 31 30,cEk 32 31 1,oZ 33 (.bin .eql .bool (tZ 29) (tZ 32)),oZ 34 (.bin .eql .bool (tZ 27) (tZ 33))]
 (.cond (tZ 34) (sr [mv 35 7,oZ 36 (.bin .mul .num (kZ 2) (tZ 35)),mv 4 36]
 .ret)
 .skip))
 (.seq (.region true [mv 37 7,aSk 38 37 1,mv 39 0,nc 40 39,fa 41 0 40,lo 42 41,le 43 42,aD 44 38 43,mv 45 0,nc 46 45,fa 47 0 46,lo 48 47,le 49 48,aR 50 44 49,oZ 51 (.bin .mul .num (kZ 2) (tZ 50)),aDk 52 51 1,mv 4 52])
 .ret))))))⟩
theorem Zt9:cFn Tryz.prog Tryz.f108=some af101:=by kernel_rfl
theorem Z35:GD 108 af101:=gG Tryz.func108 Zt9 (by kernel_rfl)
def af102:AFn:=⟨224,[(8,none)],(sr [mnZ 8]
 (sr [mv 15 0,mv 16 1,mv 17 2,oZ 18 (.slSl 1 (tZ 15) (some (tZ 16)) (some (tZ 17)) none)]
 (.seq (sr [mv 19 1,mv 20 2,cE 21 19 20]
 (.cond (tZ 21) (sr [mv 22 0,mv 23 1,mv 24 3,ca3 25 136 22 23 24,mv 8 25]
 .ret)
 .skip))
 (.seq (sr [mv 26 2,mv 27 0,le 28 27,cE 29 26 28]
 (.cond (tZ 29) (sr [mv 30 0,mv 31 1,oZ 32 (.slSl 1 (tZ 30) none (some (tZ 31)) none),mv 33 3,oZ 34 (.append 1 8 [(.int .i64 0)] (tZ 32) (tZ 33)),mv 9 34]
 (.seq (sr [mv 35 9,le 36 35,mv 37 0,le 38 37,cL 39 36 38]
 (.cond (tZ 39) (rf [mv 40 0,mv 41 9,le 42 41,oZ 43 (.slSl 1 (tZ 40) (some (tZ 42)) none none),pZ (.clear 1 [(.int .i64 0)] (tZ 43))])
 .skip))
 (sr [mv 44 9,mv 8 44]
 .ret)))
 .skip))
 (.seq (.region true [mv 45 0,mv 46 1,oZ 47 (.slSl 1 (tZ 45) none (some (tZ 46)) none),le 48 47,mv 49 3,le 50 49,aD 51 48 50,mv 52 0,mv 53 2,oZ 54 (.slSl 1 (tZ 52) (some (tZ 53)) none none),le 55 54,aD 56 51 55,mv 10 56])
 (.seq (sr [mv 57 10,mv 58 0,oZ 59 (.capSl (tZ 58)),cG 60 57 59]
 (.cond (tZ 60) (sr [mv 61 0,mv 62 1,oZ 63 (.slSl 1 (tZ 61) none (some (tZ 62)) none),mv 64 10,mv 65 1,aS 66 64 65,oZ 67 (.appendZ 1 8 [(.int .i64 0)] (tZ 63) (tZ 66)),mv 11 67]
 (sr [mv 68 11,mv 69 1,oZ 70 (.slSl 1 (tZ 68) (some (tZ 69)) none none),mv 71 3,oZ 72 (.copy 1 (tZ 70) (tZ 71))]
 (.seq (.region true [mv 73 11,mv 74 1,mv 75 3,le 76 75,aD 77 74 76,oZ 78 (.slSl 1 (tZ 73) (some (tZ 77)) none none),mv 79 0,mv 80 2,oZ 81 (.slSl 1 (tZ 79) (some (tZ 80)) none none),oZ 82 (.copy 1 (tZ 78) (tZ 81))])
 (sr [mv 83 11,mv 8 83]
 .ret))))
 .skip))
 (sr [mv 84 0,mv 85 10,oZ 86 (.slSl 1 (tZ 84) none (some (tZ 85)) none),mv 12 86]
 (.seq (sr [mv 87 1,mv 88 3,le 89 88,aD 90 87 89,mv 91 2,cK 92 90 91]
 (.cond (tZ 92) (sr [mv 93 12,mv 94 1,oZ 95 (.slSl 1 (tZ 93) (some (tZ 94)) none none),mv 96 3,oZ 97 (.copy 1 (tZ 95) (tZ 96))]
 (.seq (.region true [mv 98 12,mv 99 1,mv 100 3,le 101 100,aD 102 99 101,oZ 103 (.slSl 1 (tZ 98) (some (tZ 102)) none none),mv 104 0,mv 105 2,oZ 106 (.slSl 1 (tZ 104) (some (tZ 105)) none none),oZ 107 (.copy 1 (tZ 103) (tZ 106))])
 (sr [mv 108 0,mv 109 10,oZ 110 (.slSl 1 (tZ 108) (some (tZ 109)) none none),pZ (.clear 1 [(.int .i64 0)] (tZ 110))]
 (sr [mv 111 12,mv 8 111]
 .ret))))
 .skip))
 (.seq (sr [mv 112 12,mv 113 1,mv 114 3,le 115 114,aD 116 113 115,oZ 117 (.slSl 1 (tZ 112) (some (tZ 116)) none none),mv 118 3,ca2 119 137 117 118,no 120 119]
 (.cond (tZ 120) (.seq (.region true [mv 121 12,mv 122 1,mv 123 3,le 124 123,aD 125 122 124,oZ 126 (.slSl 1 (tZ 121) (some (tZ 125)) none none),mv 127 0,mv 128 2,oZ 129 (.slSl 1 (tZ 127) (some (tZ 128)) none none),oZ 130 (.copy 1 (tZ 126) (tZ 129))])
 (sr [mv 131 12,mv 132 1,oZ 133 (.slSl 1 (tZ 131) (some (tZ 132)) none none),mv 134 3,oZ 135 (.copy 1 (tZ 133) (tZ 134))]
 (sr [mv 136 12,mv 8 136]
 .ret)))
 .skip))
 (sr [mv 137 3,le 138 137,mv 139 2,mv 140 1,aS 141 139 140,aS 142 138 141,mv 13 142]
 (.seq (sr [mv 143 12,mv 144 1,mv 145 2,oZ 146 (.slSl 1 (tZ 143) (some (tZ 144)) (some (tZ 145)) none),mv 147 3,ca2 148 137 146 147,no 149 148]
 (.cond (tZ 149) (.seq (.region true [mv 150 12,mv 151 1,mv 152 2,oZ 153 (.slSl 1 (tZ 150) (some (tZ 151)) (some (tZ 152)) none),mv 154 3,mv 155 13,oZ 156 (.slSl 1 (tZ 154) (some (tZ 155)) none none),oZ 157 (.copy 1 (tZ 153) (tZ 156))])
 (.seq (.region true [mv 158 12,mv 159 0,le 160 159,oZ 161 (.slSl 1 (tZ 158) (some (tZ 160)) none none),mv 162 3,mv 163 13,oZ 164 (.slSl 1 (tZ 162) none (some (tZ 163)) none),oZ 165 (.copy 1 (tZ 161) (tZ 164))])
 (sr [mv 166 12,mv 167 1,oZ 168 (.slSl 1 (tZ 166) (some (tZ 167)) none none),mv 169 13,ca2 170 138 168 169]
 (sr [mv 171 12,mv 8 171]
 .ret))))
 .skip))
 (.seq (sr [mv 172 12,mv 173 0,le 174 173,oZ 175 (.slSl 1 (tZ 172) (some (tZ 174)) none none),mv 176 3,ca2 177 137 175 176,no 178 177]
 (.cond (tZ 178) (.seq (.region true [mv 179 12,mv 180 0,le 181 180,oZ 182 (.slSl 1 (tZ 179) (some (tZ 181)) none none),mv 183 3,mv 184 13,oZ 185 (.slSl 1 (tZ 183) none (some (tZ 184)) none),oZ 186 (.copy 1 (tZ 182) (tZ 185))])
 (.seq (.region true [mv 187 12,mv 188 1,mv 189 2,oZ 190 (.slSl 1 (tZ 187) (some (tZ 188)) (some (tZ 189)) none),mv 191 3,mv 192 13,oZ 193 (.slSl 1 (tZ 191) (some (tZ 192)) none none),oZ 194 (.copy 1 (tZ 190) (tZ 193))])
 (sr [mv 195 12,mv 196 1,oZ 197 (.slSl 1 (tZ 195) (some (tZ 196)) none none),mv 198 13,ca2 199 138 197 198]
 (sr [mv 200 12,mv 8 200]
 .ret))))
 .skip))
 (sr [mv 201 3,mv 202 0,mv 203 2,oZ 204 (.slSl 1 (tZ 202) (some (tZ 203)) none none),ca2 205 139 201 204,mv 14 205]
 (sr [mv 206 12,mv 207 1,oZ 208 (.slSl 1 (tZ 206) (some (tZ 207)) none none),mv 209 3,oZ 210 (.copy 1 (tZ 208) (tZ 209))]
 (.seq (.region true [mv 211 12,mv 212 1,mv 213 3,le 214 213,aD 215 212 214,oZ 216 (.slSl 1 (tZ 211) (some (tZ 215)) none none),mv 217 12,mv 218 1,mv 219 14,aD 220 218 219,oZ 221 (.slSl 1 (tZ 217) (some (tZ 220)) none none),oZ 222 (.copy 1 (tZ 216) (tZ 221))])
 (sr [mv 223 12,mv 8 223]
 .ret))))))))))))))))⟩
theorem Zl1:cFn Tryz.prog Tryz.f109=some af102:=by kernel_rfl
theorem Yb4:GD 109 af102:=gG Tryz.func109 Zl1 (by kernel_rfl)
def af103:AFn:=⟨20,[(2,none)],(sr [bo 1 0,mk 2 0]
 (sr [mk 3 0]
 (.seq (sr [fa 6 1 1,lo 7 6,le 8 7,mk 9 0]
 (.block 0 (.loop (sr [cL 10 9 8]
 (.seq (.cond (tZ 10) .skip
 (.exit 0))
 (.seq (.block 1 (sr [ix 11 6 7 9,lw 12 6 11,oZ 5 (.alloc [(.int .i64 0),(.int .i64 0),(.int .i64 0),(.int .i64 0),(.int .i64 0),(.bool false)]),so 6 5 12]
 (sr [fa 13 0 5,lo 14 13,cEk 15 14 2]
 (.cond (tZ 15) (rf [mv 16 3,aDk 17 16 1,mv 3 17])
 .skip))))
 (rf [aDk 18 9 1,mv 9 18])))))))
 (sr [mv 19 3,mv 2 19]
 .ret))))⟩
theorem Zua:cFn Tryz.prog Tryz.f110=some af103:=by kernel_rfl
theorem Ydd:GD 110 af103:=gG Tryz.func110 Zua (by kernel_rfl)
def af104:AFn:=⟨32,[(2,none)],(sr [mfZ 2]
 (.seq (sr [mv 5 0,nc 6 5,fa 7 0 6,fa 8 1 7,lo 9 8,le 10 9,cEk 11 10 0]
 (.cond (tZ 11) (sr [mtZ 2]
 .ret)
 .skip))
 (.seq (sr [mv 12 0,oZ 13 (.mkFunc (.func 140) [tZ 12] []),mv 14 0,oZ 15 (.mkFunc (.func 141) [tZ 14] []),mv 16 0,oZ 17 (.mkFunc (.func 142) [tZ 16] []),mv 18 0,oZ 19 (.mkFunc (.func 143) [tZ 18] []),mv 20 0,oZ 21 (.mkFunc (.func 144) [tZ 20] []),oZ 22 (.mkSl 1 5 [.nilFunc] [(0,tZ 13),(1,tZ 15),(2,tZ 17),(3,tZ 19),(4,tZ 21)]),le 23 22,mk 24 0]
 (.block 0 (.loop (sr [cL 25 24 23]
 (.seq (.cond (tZ 25) .skip
 (.exit 0))
 (.seq (.block 1 (sr [ix 26 1 22 24,lo 27 26,mv 4 27]
 (sr [mv 28 4,oZ 29 (.call (tZ 28) []),no 30 29]
 (.cond (tZ 30) (sr [mfZ 2]
 .ret)
 .skip))))
 (rf [aDk 31 24 1,mv 24 31])))))))
 (sr [mtZ 2]
 .ret))))⟩
theorem Ztp:cFn Tryz.prog Tryz.f111=some af104:=by kernel_rfl
theorem Z5d:GD 111 af104:=gG Tryz.func111 Ztp (by kernel_rfl)
def af105:AFn:=⟨156,[(4,none)],(sr [mk 4 0]
 (.seq (.region true [mv 15 0,nc 16 15,fa 17 0 16,fa 18 1 17,lo 19 18,le 20 19,mv 21 0,nc 22 21,fa 23 3 22,lo 24 23,le 25 24,mv 5 20,mv 6 25])
 (.seq (sr [mv 26 1,mv 27 5,oZ 28 (.bin .mul .num (kZ 2) (tZ 27)),cH 29 26 28]
 (.cond (tZ 29) (sr [mv 30 1,mv 31 5,oZ 32 (.bin .mul .num (kZ 2) (tZ 31)),aS 33 30 32,aQk 34 33 2,mv 7 34]
 (sr [mv 35 1,aRk 36 35 2,cEk 37 36 0,mv 8 37]
 (sr [mv 38 0,nc 39 38,fa 40 3 39,lo 41 40,mv 42 7,ix 43 1 41 42,lo 44 43,mv 9 44]
 (.seq (sr [mv 45 8]
 (.cond (tZ 45) (.region true [mv 46 0,nc 47 46,fa 48 3 47,lo 49 48,mv 50 7,aDk 51 50 1,mv 52 6,aR 53 51 52,ix 54 1 49 53,lo 55 54,mv 9 55])
 .skip))
 (.seq (sr [mv 56 8,mv 57 0,nc 58 57,fa 59 2 58,lo 60 59,mv 61 9,ix 62 1 60 61,lo 63 62,oZ 64 (.bin .eql .bool (tZ 56) (tZ 63))]
 (.cond (tZ 64) (sr [mv 65 0,mv 66 9,ca2 67 189 65 66,mv 4 67]
 .ret)
 .skip))
 (sr [mv 68 0,mv 69 9,ca2 70 190 68 69,mv 4 70]
 .ret))))))
 .skip))
 (sr [mv 71 1,aRk 72 71 2,cEk 73 72 0,mv 10 73]
 (sr [mv 74 1,aQk 75 74 2,mv 11 75]
 (.seq (sr [mv 76 10]
 (.cond (tZ 76) (rf [mv 77 11,aDk 78 77 1,mv 79 5,aR 80 78 79,mv 11 80])
 .skip))
 (sr [mv 81 0,nc 82 81,fa 83 0 82,fa 84 1 83,lo 85 84,mv 86 11,ix 87 6 85 86,lw 88 6 87,oZ 12 (.alloc [(.int .i64 0),(.int .i64 0),(.int .i64 0),(.int .i64 0),(.int .i64 0),(.bool false)]),so 6 12 88]
 (.seq (sr [fa 89 0 12,lo 90 89,cEk 91 90 1]
 (.cond (tZ 91) (.seq (sr [mv 92 10,mv 93 0,nc 94 93,fa 95 2 94,lo 96 95,mv 97 11,ix 98 1 96 97,lo 99 98,oZ 100 (.bin .eql .bool (tZ 92) (tZ 99))]
 (.cond (tZ 100) (sr [mv 101 5,oZ 102 (.bin .mul .num (kZ 2) (tZ 101)),mv 103 0,nc 104 103,fa 105 4 104,lo 106 105,mv 107 11,ix 108 1 106 107,lo 109 108,oZ 110 (.bin .mul .num (kZ 2) (tZ 109)),aD 111 102 110,mv 4 111]
 .ret)
 .skip))
 (sr [mv 112 5,oZ 113 (.bin .mul .num (kZ 2) (tZ 112)),mv 114 0,nc 115 114,fa 116 4 115,lo 117 116,mv 118 11,ix 119 1 117 118,lo 120 119,aSk 121 120 1,mv 122 6,aD 123 121 122,mv 124 6,aR 125 123 124,oZ 126 (.bin .mul .num (kZ 2) (tZ 125)),aD 127 113 126,aDk 128 127 1,mv 4 128]
 .ret))
 .skip))
 (.seq (.region true [mv 129 0,nc 130 129,fa 131 5 130,lo 132 131,fa 133 3 12,lo 134 133,oZ 135 (.lookup .int (.agg [(.int .i64 0),(.int .i64 0)]) false (tZ 132) (tZ 134)),⟨(some 13),.alloc [(.int .i64 0),(.int .i64 0)],none,[3,5,6]⟩,so 2 13 135])
 (sr [oZ 136 (.idxAA 2 1 (tZ 13) (kZ 1)),lo 137 136,mv 14 137]
 (.seq (sr [fa 138 5 12,lo 139 138]
 (.cond (tZ 139) (rf [oZ 140 (.idxAA 2 1 (tZ 13) (kZ 0)),lo 141 140,mv 14 141])
 .skip))
 (.seq (sr [mv 142 10,fa 143 5 12,lo 144 143,fa 145 4 12,lo 146 145,cEk 147 146 1,oZ 148 (.bin .eql .bool (tZ 144) (tZ 147)),oZ 149 (.bin .eql .bool (tZ 142) (tZ 148))]
 (.cond (tZ 149) (sr [mv 150 0,mv 151 14,ca2 152 190 150 151,mv 4 152]
 .ret)
 .skip))
 (sr [mv 153 0,mv 154 14,ca2 155 189 153 154,mv 4 155]
 .ret)))))))))))))⟩
theorem Zwp:cFn Tryz.prog Tryz.f174=some af105:=by kernel_rfl
theorem Yam:GD 174 af105:=gG Tryz.func174 Zwp (by kernel_rfl)
def af109:AFn:=⟨57,[(2,(some (some 2)))],(sr [oZ 2 (.alloc [(.int .i64 0),.nilSl])]
 (sr [mnZ 3]
 (.seq (.seq (.region true [mv 10 0,nc 11 10,fa 12 0 11,fa 13 1 12,lo 14 13,mv 15 0,⟨(some 16),.call (.fn 112) [tZ 15],none,[4]⟩,oZ 17 (.mkSl 1 2 [.nilSl] [(0,tZ 14),(1,tZ 16)]),le 18 17,mk 19 0])
 (.block 0 (.loop (sr [cL 20 19 18]
 (.seq (.cond (tZ 20) .skip
 (.exit 0))
 (.seq (.block 1 (sr [ix 21 1 17 19,lo 22 21,mv 5 22]
 (sr [mtZ 6]
 (sr [mv 23 5,le 24 23,mk 25 0]
 (.block 2 (.loop (sr [cL 26 25 24]
 (.seq (.cond (tZ 26) .skip
 (.exit 2))
 (.seq (.block 3 (sr [mv 27 25,ix 28 6 23 25,lw 29 6 28,oZ 8 (.alloc [(.int .i64 0),(.int .i64 0),(.int .i64 0),(.int .i64 0),(.int .i64 0),(.bool false)]),mv 7 27,so 6 8 29]
 (.seq (sr [fa 30 0 8,lo 31 30,cNk 32 31 1]
 (.cond (tZ 32) (.exit 3)
 .skip))
 (.seq (sr [mv 33 6]
 (.cond (tZ 33) (sr [mv 34 5,mv 35 7,ca2 36 68 34 35,ca1 37 113 36,mv 9 37]
 (sr [mv 38 3,oZ 39 (.bin .eql .slice (tZ 38) (.const .nilSl)),mv 40 39,gfm 41 40 9,gfm 42 40 3,gZ 43 40 false (.call (.fn 114) [tZ 41,tZ 42]),pk1 44 40 43]
 (.cond (tZ 44) (rf [mv 45 9,mv 3 45])
 .skip)))
 .skip))
 (rf [mv 46 6,no 47 46,mv 6 47])))))
 (rf [aDk 48 25 1,mv 25 48]))))))))))
 (rf [aDk 49 19 1,mv 19 49])))))))
 (sr [mv 50 0,nc 51 50,fa 52 0 51,fa 53 0 52,lo 54 53,mv 55 3,oZ 56 (.build [(.int .i64 0),.nilSl] [(0,1,tZ 54),(1,1,tZ 55)]),so 2 2 56]
 .ret))))⟩
theorem Zpc:cFn Tryz.prog Tryz.f72=some af109:=by kernel_rfl
theorem Z8i:GD 72 af109:=gG Tryz.func72 Zpc (by kernel_rfl)
def af110:AFn:=by
 have h:=rQ Tryz.f115
 conv at h=>rhs; reduce
 exact oR h
theorem Z7a:cFn Tryz.prog Tryz.f115=some af110:=by kernel_rfl
theorem Yab:GD 115 af110:=gG Tryz.func115 Z7a (by kernel_rfl)
def af111:AFn:=by
 have h:=rQ Tryz.f116
 conv at h=>rhs; reduce
 exact oR h
theorem Z96:cFn Tryz.prog Tryz.f116=some af111:=by kernel_rfl
theorem Yds:GD 116 af111:=gG Tryz.func116 Z96 (by kernel_rfl)
def af114:AFn:=by
 have h:=rQ Tryz.f58
 conv at h=>rhs; reduce
 exact oR h
theorem Yc3:cFn Tryz.prog Tryz.f58=some af114:=by kernel_rfl
theorem Z6j:GD 58 af114:=gG Tryz.func58 Yc3 (by kernel_rfl)
def af115:AFn:=by
 have h:=rQ Tryz.f119
 conv at h=>rhs; reduce
 exact oR h
theorem Yhd:cFn Tryz.prog Tryz.f119=some af115:=by kernel_rfl
theorem Z29:GD 119 af115:=gG Tryz.func119 Yhd (by kernel_rfl)
def af116:AFn:=by
 have h:=rQ Tryz.f120
 conv at h=>rhs; reduce
 exact oR h
theorem Z5t:cFn Tryz.prog Tryz.f120=some af116:=by kernel_rfl
theorem Ycb:GD 120 af116:=gG Tryz.func120 Z5t (by kernel_rfl)
def af117:AFn:=by
 have h:=rQ Tryz.f121
 conv at h=>rhs; reduce
 exact oR h
theorem Yb6:cFn Tryz.prog Tryz.f121=some af117:=by kernel_rfl
theorem Yfh:GD 121 af117:=gG Tryz.func121 Yb6 (by kernel_rfl)
def af118:AFn:=by
 have h:=rQ Tryz.f122
 conv at h=>rhs; reduce
 exact oR h
theorem Z9m:cFn Tryz.prog Tryz.f122=some af118:=by kernel_rfl
theorem Z9j:GD 122 af118:=gG Tryz.func122 Z9m (by kernel_rfl)
def af119:AFn:=by
 have h:=rQ Tryz.f123
 conv at h=>rhs; reduce
 exact oR h
theorem Z7z:cFn Tryz.prog Tryz.f123=some af119:=by kernel_rfl
theorem Ygn:GD 123 af119:=gG Tryz.func123 Z7z (by kernel_rfl)
def af120:AFn:=by
 have h:=rQ Tryz.f124
 conv at h=>rhs; reduce
 exact oR h
theorem Z8a:cFn Tryz.prog Tryz.f124=some af120:=by kernel_rfl
theorem Ydc:GD 124 af120:=gG Tryz.func124 Z8a (by kernel_rfl)
def af121:AFn:=by
 have h:=rQ Tryz.f125
 conv at h=>rhs; reduce
 exact oR h
theorem Yes:cFn Tryz.prog Tryz.f125=some af121:=by kernel_rfl
theorem Z3h:GD 125 af121:=gG Tryz.func125 Yes (by kernel_rfl)
def af124:AFn:=by
 have h:=rQ Tryz.f128
 conv at h=>rhs; reduce
 exact oR h
theorem Z3z:cFn Tryz.prog Tryz.f128=some af124:=by kernel_rfl
theorem Ydm:GD 128 af124:=gG Tryz.func128 Z3z (by kernel_rfl)
def af125:AFn:=by
 have h:=rQ Tryz.f134
 conv at h=>rhs; reduce
 exact oR h
theorem Z2r:cFn Tryz.prog Tryz.f134=some af125:=by kernel_rfl
theorem Z8w:GD 134 af125:=gG Tryz.func134 Z2r (by kernel_rfl)
def af126:AFn:=by
 have h:=rQ Tryz.f135
 conv at h=>rhs; reduce
 exact oR h
theorem Z56:cFn Tryz.prog Tryz.f135=some af126:=by kernel_rfl
theorem Z5z:GD 135 af126:=gG Tryz.func135 Z56 (by kernel_rfl)
def af131:AFn:=⟨11,[(2,none)],(sr [bo 1 0,mfZ 2]
 (sr [lo 3 1,nc 4 3,fa 5 0 4,fa 6 1 5,lo 7 6,oZ 8 (.mkFunc (.func 172) [] [tZ 1]),ca2 9 171 7 8,no 10 9,mv 2 10]
 .ret))⟩
theorem Z0e:cFn Tryz.prog Tryz.f140=some af131:=by kernel_rfl
theorem Z7y:GD 140 af131:=gG Tryz.func140 Z0e (by kernel_rfl)
def af132:AFn:=⟨21,[(2,none)],(sr [mfZ 2]
 (sr [mv 3 0,nc 4 3,fa 5 0 4,fa 6 1 5,lo 7 6,oZ 8 (.idxA 6 (tZ 7) (kZ 0)),fa 9 0 8,lo 10 9,cEk 11 10 1,mv 12 11,gtm 13 12 0,gZ 14 12 true (.nilChk (tZ 13)),gtf 15 12 0 14,gZ 16 12 true (.load (some 2) (tZ 15)),gZ 17 12 true (.call (.fn 173) [tZ 16]),gZ 18 12 true (.bin .rem .num (tZ 17) (kZ 2)),gZ 19 12 true (.bin .eql .num (tZ 18) (kZ 0)),pk0 20 12 19,mv 2 20]
 .ret))⟩
theorem Z1r:cFn Tryz.prog Tryz.f141=some af132:=by kernel_rfl
theorem Z6p:GD 141 af132:=gG Tryz.func141 Z1r (by kernel_rfl)
def af133:AFn:=⟨171,[(2,none)],(sr [mfZ 2]
 (sr [mv 14 0,mv 15 0,nc 16 15,fa 17 0 16,fa 18 0 17,lo 19 18,aDk 20 19 1,oZ 21 (.makeSl 1 8 [(.int .i64 0)] (tZ 20) (tZ 20)),nc 22 14,fa 23 6 22,so 1 23 21]
 (sr [mv 24 0,mv 25 0,nc 26 25,fa 27 0 26,fa 28 1 27,lo 29 28,le 30 29,oZ 31 (.makeSl 1 1 [(.bool false)] (tZ 30) (tZ 30)),nc 32 24,fa 33 2 32,so 1 33 31]
 (sr [mv 34 0,mv 35 0,nc 36 35,fa 37 0 36,fa 38 1 37,lo 39 38,le 40 39,oZ 41 (.makeSl 1 8 [(.int .i64 0)] (tZ 40) (tZ 40)),nc 42 34,fa 43 4 42,so 1 43 41]
 (sr [mtZ 3]
 (.seq (sr [mv 44 0,nc 45 44,fa 46 0 45,fa 47 1 46,lo 48 47,le 49 48,mk 50 0]
 (.block 0 (.loop (sr [cL 51 50 49]
 (.seq (.cond (tZ 51) .skip
 (.exit 0))
 (.seq (.block 1 (sr [mv 52 50,ix 53 6 48 50,lw 54 6 53,oZ 5 (.alloc [(.int .i64 0),(.int .i64 0),(.int .i64 0),(.int .i64 0),(.int .i64 0),(.bool false)]),mv 4 52,so 6 5 54]
 (sr [fa 55 0 5,lo 56 55,cEk 57 56 1]
 (.cond (tZ 57) (.seq (.region true [mv 58 0,nc 59 58,fa 60 6 59,lo 61 60,fa 62 1 5,lo 63 62,ix 64 1 61 63,lo 65 64,aDk 66 65 1,ix 67 1 61 63,so 1 67 66])
 (sr [mv 68 0,nc 69 68,fa 70 2 69,lo 71 70,mv 72 4,mv 73 3,ix 74 1 71 72,so 1 74 73]
 (rf [mv 75 3,no 76 75,mv 3 76])))
 .skip))))
 (rf [aDk 77 50 1,mv 50 77])))))))
 (sr [mv 78 0,nc 79 78,fa 80 0 79,fa 81 0 80,lo 82 81,aDk 83 82 1,oZ 84 (.makeSl 1 8 [(.int .i64 0)] (tZ 83) (tZ 83)),mv 6 84]
 (sr [mk 7 0]
 (.seq (sr [mv 85 0,nc 86 85,fa 87 6 86,lo 88 87,le 89 88,mk 90 0]
 (.block 2 (.loop (sr [cL 91 90 89]
 (.seq (.cond (tZ 91) .skip
 (.exit 2))
 (.seq (.block 3 (sr [mv 92 90,ix 93 1 88 90,lo 94 93,mv 8 92,mv 9 94]
 (sr [mv 95 6,mv 96 8,mv 97 7,ix 98 1 95 96,so 1 98 97]
 (rf [mv 99 7,mv 100 9,aD 101 99 100,mv 7 101]))))
 (rf [aDk 102 90 1,mv 90 102])))))))
 (sr [mv 103 0,mv 104 7,oZ 105 (.makeSl 1 8 [(.int .i64 0)] (tZ 104) (tZ 104)),nc 106 103,fa 107 3 106,so 1 107 105]
 (sr [mv 108 7,oZ 109 (.makeSl 1 1 [(.bool false)] (tZ 108) (tZ 108)),mv 10 109]
 (.seq (sr [mv 110 0,nc 111 110,fa 112 0 111,fa 113 1 112,lo 114 113,le 115 114,mk 116 0]
 (.block 4 (.loop (sr [cL 117 116 115]
 (.seq (.cond (tZ 117) .skip
 (.exit 4))
 (.seq (.block 5 (sr [mv 118 116,ix 119 6 114 116,lw 120 6 119,oZ 12 (.alloc [(.int .i64 0),(.int .i64 0),(.int .i64 0),(.int .i64 0),(.int .i64 0),(.bool false)]),mv 11 118,so 6 12 120]
 (.seq (sr [fa 121 0 12,lo 122 121,cNk 123 122 1]
 (.cond (tZ 123) (.exit 5)
 .skip))
 (.seq (.seq (.region true [fa 124 2 12,lo 125 124,cLk 126 125 1,mv 127 126,gff 128 127 2 12,gfl 129 127 128,gfm 130 127 0,gZ 131 127 false (.nilChk (tZ 130)),gff 132 127 6 131,gfl 133 127 132,gff 134 127 1 12,gfl 135 127 134,gZ 136 127 false (.idxA 1 (tZ 133) (tZ 135)),gfl 137 127 136,gZ 138 127 false (.bin .gtr .num (tZ 129) (tZ 137)),pk1 139 127 138])
 (.cond (tZ 139) (sr [mfZ 2]
 .ret)
 .skip))
 (.seq (.region true [mv 140 6,fa 141 1 12,lo 142 141,ix 143 1 140 142,lo 144 143,fa 145 2 12,lo 146 145,aD 147 144 146,aSk 148 147 1,mv 13 148])
 (.seq (sr [mv 149 10,mv 150 13,ix 151 1 149 150,lo 152 151]
 (.cond (tZ 152) (sr [mfZ 2]
 .ret)
 .skip))
 (.region true [mv 153 10,mv 154 13,mv 155 0,nc 156 155,fa 157 3 156,lo 158 157,mv 159 13,mv 160 0,nc 161 160,fa 162 4 161,lo 163 162,mv 164 11,mv 165 11,mv 166 13,ix 167 1 153 154,pZ (.store 1 (tZ 167) (bZ true)),ix 168 1 158 159,so 1 168 165,ix 169 1 163 164,so 1 169 166])))))))
 (rf [aDk 170 116 1,mv 116 170])))))))
 (sr [mtZ 2]
 .ret)))))))))))))⟩
theorem Zyw:cFn Tryz.prog Tryz.f142=some af133:=by kernel_rfl
theorem Yah:GD 142 af133:=gG Tryz.func142 Zyw (by kernel_rfl)
def af134:AFn:=⟨103,[(2,none)],(sr [mfZ 2]
 (sr [mv 9 0,nc 10 9,fa 11 0 10,lw 12 2 11,ca1 13 110 12,mv 3 13]
 (.seq (sr [mv 14 3,aRk 15 14 2,cNk 16 15 0]
 (.cond (tZ 16) (sr [mfZ 2]
 .ret)
 .skip))
 (sr [mv 17 0,oZ 18 (.mkMap),nc 19 17,fa 20 5 19,so 1 20 18]
 (.seq (sr [mv 21 0,nc 22 21,fa 23 0 22,fa 24 1 23,lo 25 24,le 26 25,mk 27 0]
 (.block 0 (.loop (sr [cL 28 27 26]
 (.seq (.cond (tZ 28) .skip
 (.exit 0))
 (.seq (.block 1 (sr [mv 29 27,ix 30 6 25 27,lw 31 6 30,oZ 5 (.alloc [(.int .i64 0),(.int .i64 0),(.int .i64 0),(.int .i64 0),(.int .i64 0),(.bool false)]),mv 4 29,so 6 5 31]
 (.seq (sr [fa 32 0 5,lo 33 32,cNk 34 33 2]
 (.cond (tZ 34) (.exit 1)
 .skip))
 (.seq (sr [fa 35 3 5,lo 36 35,cLk 37 36 1,mv 38 37,gff 39 38 3 5,gfl 40 38 39,gfm 41 38 3,gZ 42 38 false (.bin .quo .num (tZ 41) (kZ 2)),gZ 43 38 false (.bin .gtr .num (tZ 40) (tZ 42)),pk1 44 38 43]
 (.cond (tZ 44) (sr [mfZ 2]
 .ret)
 .skip))
 (.seq (.region true [mv 46 0,nc 47 46,fa 48 5 47,lo 49 48,fa 50 3 5,lo 51 50,oZ 52 (.lookup .int (.agg [(.int .i64 0),(.int .i64 0)]) true (tZ 49) (tZ 51)),mv 45 52,ex 53 45 0,ex 54 45 1,⟨(some 6),.alloc [(.int .i64 0),(.int .i64 0)],none,[3,5,6]⟩,so 2 6 53,mv 7 54])
 (.seq (sr [mv 55 7,no 56 55]
 (.cond (tZ 56) (rf [oZ 57 (.build [(.int .i64 0),(.int .i64 0)] [(0,1,(kZ (-1))),(1,1,(kZ (-1)))]),so 2 6 57])
 .skip))
 (sr [mk 8 0]
 (.seq (sr [fa 58 5 5,lo 59 58]
 (.cond (tZ 59) (rf [mk 8 1])
 .skip))
 (.seq (.seq (.region true [mv 60 8,oZ 61 (.idxAA 2 1 (tZ 6) (tZ 60)),lo 62 61,cHk 63 62 0,mv 64 63,gfm 65 64 7,gfm 66 64 65,gtm 67 66 0,gZ 68 66 true (.nilChk (tZ 67)),gtf 69 66 0 68,gtf 70 66 1 69,gtl 71 66 70,gtm 72 66 8,gZ 73 66 true (.bin .sub .num (kZ 1) (tZ 72)),gZ 74 66 true (.idxAA 2 1 (tZ 6) (tZ 73)),gtl 75 66 74,gZ 76 66 true (.idxA 6 (tZ 71) (tZ 75)),gtf 77 66 4 76,gtl 78 66 77,gtf 79 66 4 5,gtl 80 66 79,gZ 81 66 true (.bin .neq .num (tZ 78) (tZ 80)),gZ 82 64 false (.pick (tZ 66) (tZ 81) (bZ false)),pk1 83 64 82])
 (.cond (tZ 83) (sr [mfZ 2]
 .ret)
 .skip))
 (sr [mv 84 8,mv 85 4,oZ 86 (.idxAA 2 1 (tZ 6) (tZ 84)),so 1 86 85]
 (.region true [mv 87 0,nc 88 87,fa 89 5 88,lo 90 89,fa 91 3 5,lo 92 91,lw 93 2 6,pZ (.mapUpd .int (tZ 90) (tZ 92) (tZ 93))])))))))))))
 (rf [aDk 94 27 1,mv 27 94])))))))
 (sr [mv 95 0,nc 96 95,fa 97 5 96,lo 98 97,oZ 99 (.lenMap (tZ 98)),mv 100 3,aQk 101 100 2,cE 102 99 101,mv 2 102]
 .ret))))))⟩
theorem Ztv:cFn Tryz.prog Tryz.f143=some af134:=by kernel_rfl
theorem Yan:GD 143 af134:=gG Tryz.func143 Ztv (by kernel_rfl)
def af135:AFn:=⟨61,[(2,none)],(sr [mfZ 2]
 (.seq (.region true [mv 8 0,nc 9 8,fa 10 0 9,fa 11 1 10,lo 12 11,le 13 12,oZ 14 (.bin .mul .num (kZ 2) (tZ 13)),mv 15 0,nc 16 15,fa 17 3 16,lo 18 17,le 19 18,oZ 20 (.bin .mul .num (kZ 2) (tZ 19)),aD 21 14 20,mv 3 21])
 (sr [mv 22 3,oZ 23 (.makeSl 1 1 [(.bool false)] (tZ 22) (tZ 22)),mv 4 23]
 (sr [mk 5 0]
 (.seq (sr [mv 24 3,mk 25 0]
 (.block 0 (.loop (sr [cL 26 25 24]
 (.seq (.cond (tZ 26) .skip
 (.exit 0))
 (.seq (.block 1 (sr [mv 27 25,mv 6 27]
 (.seq (sr [mv 28 4,mv 29 6,ix 30 1 28 29,lo 31 30]
 (.cond (tZ 31) (.exit 1)
 .skip))
 (sr [mv 32 5,aDk 33 32 1,mv 5 33]
 (sr [mv 34 6,mv 7 34]
 (.block 2 (.loop (.seq (sr [mv 35 4,mv 36 7,ix 37 1 35 36,lo 38 37,no 39 38]
 (.cond (tZ 39) .skip
 (.exit 2)))
 (.seq (.block 3 (rf [mv 43 4,mv 44 7,ix 45 1 43 44,pZ (.store 1 (tZ 45) (bZ true))]))
 (rf [mv 40 0,mv 41 7,ca2 42 174 40 41,mv 7 42]))))))))))
 (rf [aDk 46 25 1,mv 25 46])))))))
 (.seq (.region true [mv 47 5,mv 48 0,nc 49 48,fa 50 3 49,lo 51 50,le 52 51,mv 53 0,nc 54 53,fa 55 5 54,lo 56 55,oZ 57 (.lenMap (tZ 56)),aD 58 52 57,aDk 59 58 2,cE 60 47 59,mv 2 60])
 .ret))))))⟩
theorem Z1m:cFn Tryz.prog Tryz.f144=some af135:=by kernel_rfl
theorem Ybq:GD 144 af135:=gG Tryz.func144 Z1m (by kernel_rfl)
def af136:AFn:=⟨20,[(4,none)],(sr [mk 4 0]
 (sr [mv 6 0,nc 7 6,fa 8 0 7,fa 9 1 8,lo 10 9,le 11 10,mv 5 11]
 (sr [mv 12 1,aSk 13 12 1,mv 14 5,aD 15 13 14,mv 16 5,aR 17 15 16,oZ 18 (.bin .mul .num (kZ 2) (tZ 17)),aDk 19 18 1,mv 4 19]
 .ret)))⟩
theorem Zzt:cFn Tryz.prog Tryz.f189=some af136:=by kernel_rfl
theorem Ye5:GD 189 af136:=gG Tryz.func189 Zzt (by kernel_rfl)
def af137:AFn:=⟨7,[(4,none)],(sr [mk 4 0]
 (sr [mv 5 1,oZ 6 (.bin .mul .num (kZ 2) (tZ 5)),mv 4 6]
 .ret))⟩
theorem Zt5:cFn Tryz.prog Tryz.f190=some af137:=by kernel_rfl
theorem Yas:GD 190 af137:=gG Tryz.func190 Zt5 (by kernel_rfl)
def af139:AFn:=⟨45,[(2,none)],(sr [mnZ 2]
 (sr [mv 6 0,nc 7 6,fa 8 0 7,fa 9 1 8,lo 10 9,ca1 11 67 10,mv 3 11]
 (sr [mv 12 3,ca1 13 145 12]
 (.seq (sr [mv 14 3,le 15 14,mk 16 0]
 (.block 0 (.loop (sr [cL 17 16 15]
 (.seq (.cond (tZ 17) .skip
 (.exit 0))
 (.seq (.block 1 (sr [mv 18 16,mv 4 18]
 (sr [mv 19 3,le 20 19,aSk 21 20 1,mv 22 4,aS 23 21 22,mv 5 23]
 (sr [mv 24 3,mv 25 4,ix 26 6 24 25,fa 27 0 26,lo 28 27,cEk 29 28 1,mv 30 29,gtm 31 30 0,gZ 32 30 true (.nilChk (tZ 31)),gtf 33 30 2 32,gtl 34 30 33,gtm 35 30 5,gZ 36 30 true (.idxA 1 (tZ 34) (tZ 35)),gtl 37 30 36,gZ 38 30 true (.un .not (tZ 37)),pk0 39 30 38]
 (.cond (tZ 39) (sr [mv 40 3,mv 41 4,ca2 42 68 40 41,mv 2 42]
 .ret)
 .skip)))))
 (rf [aDk 43 16 1,mv 16 43])))))))
 (sr [mv 44 3,mv 2 44]
 .ret)))))⟩
theorem Zo9:cFn Tryz.prog Tryz.f112=some af139:=by kernel_rfl
theorem Yd5:GD 112 af139:=gG Tryz.func112 Zo9 (by kernel_rfl)
def af140:AFn:=⟨41,[(2,none)],(sr [mnZ 2]
 (sr [oZ 7 (.mkMap),mv 3 7]
 (sr [mv 8 0,ca1 9 67 8,mv 4 9]
 (.seq (sr [mv 10 4,le 11 10,mk 12 0]
 (.block 0 (.loop (sr [cL 13 12 11]
 (.seq (.cond (tZ 13) .skip
 (.exit 0))
 (.seq (.block 1 (sr [mv 14 12,ix 15 6 10 12,lw 16 6 15,oZ 6 (.alloc [(.int .i64 0),(.int .i64 0),(.int .i64 0),(.int .i64 0),(.int .i64 0),(.bool false)]),mv 5 14,so 6 6 16]
 (.seq (sr [fa 17 0 6,lo 18 17,cNk 19 18 2]
 (.cond (tZ 19) (.exit 1)
 .skip))
 (.seq (sr [mv 20 3,fa 21 3 6,lo 22 21,oZ 23 (.lookup .int (.int .i64 0) false (tZ 20) (tZ 22)),cEk 24 23 0]
 (.cond (tZ 24) (rf [mv 25 3,fa 26 3 6,lo 27 26,mv 28 3,oZ 29 (.lenMap (tZ 28)),aDk 30 29 1,pZ (.mapUpd .int (tZ 25) (tZ 27) (tZ 30))])
 .skip))
 (rf [mv 31 4,mv 32 5,mv 33 3,fa 34 3 6,lo 35 34,oZ 36 (.lookup .int (.int .i64 0) false (tZ 33) (tZ 35)),ix 37 6 31 32,fa 38 3 37,so 1 38 36])))))
 (rf [aDk 39 12 1,mv 12 39])))))))
 (sr [mv 40 4,mv 2 40]
 .ret)))))⟩
theorem Zx5:cFn Tryz.prog Tryz.f113=some af140:=by kernel_rfl
theorem Z72:GD 113 af140:=gG Tryz.func113 Zx5 (by kernel_rfl)
def af141:AFn:=⟨30,[(4,none)],(sr [mfZ 4]
 (.seq (sr [mv 6 0,le 7 6,mk 8 0]
 (.block 0 (.loop (sr [cL 9 8 7]
 (.seq (.cond (tZ 9) .skip
 (.exit 0))
 (.seq (.block 1 (sr [mv 10 8,mv 5 10]
 (.seq (.seq (.region true [mv 11 0,mv 12 5,ix 13 6 11 12,lw 14 6 13,mv 15 1,mv 16 5,ix 17 6 15 16,lw 18 6 17,oZ 19 (.bin .eql (.flat [.int,.int,.int,.int,.int,.bool]) (tZ 14) (tZ 18))])
 (.cond (tZ 19) (.exit 1)
 .skip))
 (.seq (.region true [mv 20 0,mv 21 5,ix 22 6 20 21,lw 23 6 22,mv 24 1,mv 25 5,ix 26 6 24 25,lw 27 6 26,ca2 28 146 23 27,mv 4 28])
 .ret))))
 (rf [aDk 29 8 1,mv 8 29])))))))
 (sr [mfZ 4]
 .ret)))⟩
theorem Zyv:cFn Tryz.prog Tryz.f114=some af141:=by kernel_rfl
theorem Z4t:GD 114 af141:=gG Tryz.func114 Zyv (by kernel_rfl)
def af142:AFn:=by
 have h:=rQ Tryz.f147
 conv at h=>rhs; reduce
 exact oR h
theorem Yao:cFn Tryz.prog Tryz.f147=some af142:=by kernel_rfl
theorem Z4q:GD 147 af142:=gG Tryz.func147 Yao (by kernel_rfl)
def af147:AFn:=by
 have h:=rQ Tryz.f152
 conv at h=>rhs; reduce
 exact oR h
theorem Z7c:cFn Tryz.prog Tryz.f152=some af147:=by kernel_rfl
theorem Z23:GD 152 af147:=gG Tryz.func152 Z7c (by kernel_rfl)
def af150:AFn:=⟨19,[(4,none)],(sr [bo 3 1,mk 4 0]
 (.seq (sr [mv 6 0,le 7 6,mk 8 0]
 (.block 0 (.loop (sr [cL 9 8 7]
 (.seq (.cond (tZ 9) .skip
 (.exit 0))
 (.seq (.block 1 (sr [mv 10 8,mv 5 10]
 (.seq (.region true [lw 11 3 3,mv 12 0,mv 13 5,ix 14 3 12 13,lw 15 3 14,oZ 16 (.bin .eql (.flat [.int,.bool,.int]) (tZ 11) (tZ 15))])
 (.cond (tZ 16) (sr [mv 17 5,mv 4 17]
 .ret)
 .skip))))
 (rf [aDk 18 8 1,mv 8 18])))))))
 (sr [mk 4 (-1)]
 .ret)))⟩
theorem Z77:cFn Tryz.prog Tryz.f155=some af150:=by kernel_rfl
theorem Z9b:GD 155 af150:=gG Tryz.func155 Z77 (by kernel_rfl)
def af151:AFn:=by
 have h:=rQ Tryz.f156
 conv at h=>rhs; reduce
 exact oR h
theorem Yap:cFn Tryz.prog Tryz.f156=some af151:=by kernel_rfl
theorem Z7j:GD 156 af151:=gG Tryz.func156 Yap (by kernel_rfl)
def af153:AFn:=by
 have h:=rQ Tryz.f158
 conv at h=>rhs; reduce
 exact oR h
theorem Yd3:cFn Tryz.prog Tryz.f158=some af153:=by kernel_rfl
theorem Yeu:GD 158 af153:=gG Tryz.func158 Yd3 (by kernel_rfl)
def af154:AFn:=by
 have h:=rQ Tryz.f159
 conv at h=>rhs; reduce
 exact oR h
theorem Yec:cFn Tryz.prog Tryz.f159=some af154:=by kernel_rfl
theorem Ydh:GD 159 af154:=gG Tryz.func159 Yec (by kernel_rfl)
def af155:AFn:=by
 have h:=rQ Tryz.f160
 conv at h=>rhs; reduce
 exact oR h
theorem Z5w:cFn Tryz.prog Tryz.f160=some af155:=by kernel_rfl
theorem Yaz:GD 160 af155:=gG Tryz.func160 Z5w (by kernel_rfl)
def af164:AFn:=by
 have h:=rQ Tryz.f169
 conv at h=>rhs; reduce
 exact oR h
theorem Ydo:cFn Tryz.prog Tryz.f169=some af164:=by kernel_rfl
theorem Z22:GD 169 af164:=gG Tryz.func169 Ydo (by kernel_rfl)
def af166:AFn:=⟨9,[(4,none)],(sr [mfZ 4]
 (sr [mv 5 0,mv 6 1,ca2 7 188 5 6,cHk 8 7 0,mv 4 8]
 .ret))⟩
theorem Zvt:cFn Tryz.prog Tryz.f171=some af166:=by kernel_rfl
theorem Z4w:GD 171 af166:=gG Tryz.func171 Zvt (by kernel_rfl)
def af167:AFn:=⟨55,[(3,none)],(sr [bo 2 0,mfZ 3]
 (.seq (sr [fa 4 0 2,lo 5 4]
 (.block 0 (sr [cEk 7 5 1,mv 6 7]
 (.cond (tZ 6) (.seq (.region true [fa 8 1 2,lo 9 8,cLk 10 9 0,mv 11 10,gff 12 11 1 2,gfl 13 11 12,gfl 14 11 1,gZ 15 11 false (.nilChk (tZ 14)),gff 16 11 0 15,gff 17 11 0 16,gfl 18 11 17,gZ 19 11 false (.bin .gtr .num (tZ 13) (tZ 18)),pk1 20 11 19,mv 21 20,gff 22 21 3 2,gfl 23 21 22,gZ 24 21 false (.bin .neq .num (tZ 23) (kZ 0)),pk1 25 21 24,mv 26 25,gff 27 26 4 2,gfl 28 26 27,gZ 29 26 false (.bin .neq .num (tZ 28) (kZ 0)),pk1 30 26 29,mv 31 30,gff 32 31 5 2,gfl 33 31 32,pk1 34 31 33,mv 3 34])
 .ret)
 (sr [cEk 36 5 2,mv 35 36]
 (.cond (tZ 35) (sr [fa 37 1 2,lo 38 37,cNk 39 38 0,mv 40 39,gff 41 40 2 2,gfl 42 40 41,gZ 43 40 false (.bin .neq .num (tZ 42) (kZ 0)),pk1 44 40 43,mv 45 44,gff 46 45 4 2,gfl 47 45 46,gZ 48 45 false (.bin .neq .num (tZ 47) (kZ 1)),gfm 49 45 48,gtf 50 49 4 2,gtl 51 49 50,gZ 52 49 true (.bin .neq .num (tZ 51) (kZ (-1))),gZ 53 45 false (.pick (tZ 49) (tZ 52) (bZ false)),pk1 54 45 53,mv 3 54]
 .ret)
 .skip))))))
 (sr [mtZ 3]
 .ret)))⟩
theorem Zv9:cFn Tryz.prog Tryz.f172=some af167:=by kernel_rfl
theorem Z5p:GD 172 af167:=gG Tryz.func172 Zv9 (by kernel_rfl)
def af168:AFn:=⟨20,[(2,none)],(sr [bo 1 0,mk 2 0]
 (sr [mk 3 0]
 (.seq (sr [fa 6 1 1,lo 7 6,le 8 7,mk 9 0]
 (.block 0 (.loop (sr [cL 10 9 8]
 (.seq (.cond (tZ 10) .skip
 (.exit 0))
 (.seq (.block 1 (sr [ix 11 6 7 9,lw 12 6 11,oZ 5 (.alloc [(.int .i64 0),(.int .i64 0),(.int .i64 0),(.int .i64 0),(.int .i64 0),(.bool false)]),so 6 5 12]
 (sr [fa 13 0 5,lo 14 13,cEk 15 14 1]
 (.cond (tZ 15) (rf [mv 16 3,aDk 17 16 1,mv 3 17])
 .skip))))
 (rf [aDk 18 9 1,mv 9 18])))))))
 (sr [mv 19 3,mv 2 19]
 .ret))))⟩
theorem Zs8:cFn Tryz.prog Tryz.f173=some af168:=by kernel_rfl
theorem Yfp:GD 173 af168:=gG Tryz.func173 Zs8 (by kernel_rfl)
def af169:AFn:=⟨28,[],(sr [mv 4 0,le 5 4,aSk 6 5 1,mk 2 0,mv 3 6]
 (.block 0 (.loop (.seq (sr [mv 7 2,mv 8 3,cL 9 7 8]
 (.cond (tZ 9) .skip
 (.exit 0)))
 (.seq (.block 1 (.region true [mv 14 0,mv 15 2,mv 16 0,mv 17 3,mv 18 0,mv 19 3,ix 20 6 18 19,lw 21 6 20,mv 22 0,mv 23 2,ix 24 6 22 23,lw 25 6 24,ix 26 6 14 15,so 6 26 21,ix 27 6 16 17,so 6 27 25]))
 (rf [mv 10 2,aDk 11 10 1,mv 12 3,aSk 13 12 1,mv 2 11,mv 3 13]))))))⟩
theorem Zqo:cFn Tryz.prog Tryz.f145=some af169:=by kernel_rfl
theorem Z69:GD 145 af169:=gG Tryz.func145 Zqo (by kernel_rfl)
def af170:AFn:=⟨62,[(4,none)],(sr [bo 2 0,bo 3 1,mfZ 4]
 (.seq (.block 0 (sr [fa 6 0 2,lo 7 6,fa 8 0 3,lo 9 8,cN 10 7 9,mv 5 10]
 (.cond (tZ 5) (sr [fa 11 0 2,lo 12 11,fa 13 0 3,lo 14 13,cL 15 12 14,mv 4 15]
 .ret)
 (sr [fa 17 1 2,lo 18 17,fa 19 1 3,lo 20 19,cN 21 18 20,mv 16 21]
 (.cond (tZ 16) (sr [fa 22 1 2,lo 23 22,fa 24 1 3,lo 25 24,cL 26 23 25,mv 4 26]
 .ret)
 (sr [fa 28 2 2,lo 29 28,fa 30 2 3,lo 31 30,cN 32 29 31,mv 27 32]
 (.cond (tZ 27) (sr [fa 33 2 2,lo 34 33,fa 35 2 3,lo 36 35,cL 37 34 36,mv 4 37]
 .ret)
 (sr [fa 39 3 2,lo 40 39,fa 41 3 3,lo 42 41,cN 43 40 42,mv 38 43]
 (.cond (tZ 38) (sr [fa 44 3 2,lo 45 44,fa 46 3 3,lo 47 46,cL 48 45 47,mv 4 48]
 .ret)
 (sr [fa 50 5 2,lo 51 50,fa 52 5 3,lo 53 52,oZ 54 (.bin .neq .bool (tZ 51) (tZ 53)),mv 49 54]
 (.cond (tZ 49) (sr [fa 55 5 3,lo 56 55,mv 4 56]
 .ret)
 .skip)))))))))))
 (sr [fa 57 4 2,lo 58 57,fa 59 4 3,lo 60 59,cL 61 58 60,mv 4 61]
 .ret)))⟩
theorem Zu4:cFn Tryz.prog Tryz.f146=some af170:=by kernel_rfl
theorem Z71:GD 146 af170:=gG Tryz.func146 Zu4 (by kernel_rfl)
def af176:AFn:=by
 have h:=rQ Tryz.f180
 conv at h=>rhs; reduce
 exact oR h
theorem Z5c:cFn Tryz.prog Tryz.f180=some af176:=by kernel_rfl
theorem Z7h:GD 180 af176:=gG Tryz.func180 Z5c (by kernel_rfl)
def af183:AFn:=⟨19,[(4,none)],(sr [mk 4 0]
 (.seq (sr [mv 6 0,le 7 6,mk 8 0]
 (.block 0 (.loop (sr [cL 9 8 7]
 (.seq (.cond (tZ 9) .skip
 (.exit 0))
 (.seq (.block 1 (sr [mv 10 8,mv 5 10]
 (sr [mv 11 1,mv 12 0,mv 13 5,ix 14 6 12 13,lw 15 6 14,oZ 16 (.call (tZ 11) [tZ 15])]
 (.cond (tZ 16) (sr [mv 17 5,mv 4 17]
 .ret)
 .skip))))
 (rf [aDk 18 8 1,mv 8 18])))))))
 (sr [mk 4 (-1)]
 .ret)))⟩
theorem Zvs:cFn Tryz.prog Tryz.f188=some af183:=by kernel_rfl
theorem Z8k:GD 188 af183:=gG Tryz.func188 Zvs (by kernel_rfl)
def af186:AFn:=by
 have h:=rQ Tryz.f193
 conv at h=>rhs; reduce
 exact oR h
theorem Yd6:cFn Tryz.prog Tryz.f193=some af186:=by kernel_rfl
theorem Z9w:GD 193 af186:=gG Tryz.func193 Yd6 (by kernel_rfl)
def af188:AFn:=by
 have h:=rQ Tryz.f195
 conv at h=>rhs; reduce
 exact oR h
theorem Z2e:cFn Tryz.prog Tryz.f195=some af188:=by kernel_rfl
theorem Z8z:GD 195 af188:=gG Tryz.func195 Z2e (by kernel_rfl)
end Go.Known
end
section
namespace Go.Known
open Go Go.AE Go.Proofs
def ag18:AFn:=⟨15,[(4,none)],(sr [bo 2 0,mfZ 4]
 (sr [fa 5 1 2,lo 6 5,le 7 6,mv 8 1,cK 9 7 8,mv 10 9,gZ 11 10 true (.load (some 2) (tZ 2)),gZ 12 10 true (.call (.fn 33) [tZ 11]),gZ 13 10 true (.bin .eql .num (tZ 12) (kZ 0)),pk0 14 10 13,mv 4 14]
 .ret))⟩
theorem ch18:cFn Tryz.prog Tryz.f12=some ag18:=by kernel_rfl
end Go.Known
end
section
namespace Go.Known
open Go Go.AE Go.Proofs
def af35:AFn:=⟨26,[(4,none)],(sr [mfZ 4]
 (.seq (sr [mv 6 0,le 7 6,mv 8 1,le 9 8,cN 10 7 9]
 (.cond (tZ 10) (sr [mfZ 4]
 .ret)
 .skip))
 (.seq (sr [mk 5 0]
 (.block 0 (.loop (.seq (sr [mv 11 5,mv 12 0,le 13 12,cL 14 11 13]
 (.cond (tZ 14) .skip
 (.exit 0)))
 (.seq (.block 1 (.seq (.region true [mv 17 0,mv 18 5,ix 19 1 17 18,lo 20 19,mv 21 1,mv 22 5,ix 23 1 21 22,lo 24 23,cN 25 20 24])
 (.cond (tZ 25) (sr [mfZ 4]
 .ret)
 .skip)))
 (rf [mv 15 5,aDk 16 15 1,mv 5 16]))))))
 (sr [mtZ 4]
 .ret))))⟩
theorem cf35:cFn Tryz.prog Tryz.f38=some af35:=by kernel_rfl
end Go.Known
end
section
namespace Go.Known
open Go Go.AE Go.Proofs
def amRSRows:AFn:=⟨26,[(4,none)],(sr [mfZ 4]
 (.seq (sr [mv 6 0,le 7 6,mv 8 1,le 9 8,cN 10 7 9]
 (.cond (tZ 10) (sr [mfZ 4]
 .ret)
 .skip))
 (.seq (sr [mk 5 0]
 (.block 0 (.loop (.seq (sr [mv 11 5,mv 12 0,le 13 12,cL 14 11 13]
 (.cond (tZ 14) .skip
 (.exit 0)))
 (.seq (.block 1 (.seq (.region true [mv 17 0,mv 18 5,ix 19 4 17 18,lw 20 4 19,mv 21 1,mv 22 5,ix 23 4 21 22,lw 24 4 23,oZ 25 (.bin .neq (.flat [.int,.int,.int,.bool]) (tZ 20) (tZ 24))])
 (.cond (tZ 25) (sr [mfZ 4]
 .ret)
 .skip)))
 (rf [mv 15 5,aDk 16 15 1,mv 5 16]))))))
 (sr [mtZ 4]
 .ret))))⟩
theorem Yf9:cFn Tryz.prog Tryz.f39=some amRSRows:=by kernel_rfl
end Go.Known
end
