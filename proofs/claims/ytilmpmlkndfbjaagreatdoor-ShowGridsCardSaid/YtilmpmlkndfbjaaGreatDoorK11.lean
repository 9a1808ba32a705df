/- Part 11 of the proof: AeNe, Lf, Kf0, Kf1, Lo. -/
import Derived.Test.YtilmpmlkndfbjaaGreatDoorK10
set_option linter.all false
section
namespace Go.AE
open Go.RowKit
section
variable {P:Program} {dc:Bool} {n base i:Nat} {K:Env→Ac→Prop} {e:Env} {m:Ac}
theorem JC:V5 P dc n base [] i K e m=K e m:=propext Iff.rfl
theorem Ld(d:Option Nat)(op:AQ)(un:List Nat)(r:List Af):V5 P dc n base (⟨d,op,none,un⟩ :: r) i K e m=match op with
 | .call f xs=>(match U5 n e f xs with
  | some (g,args)=>(match dc with
   | false=>SC P g args m (base+i) fun v m'=>V5 P dc n base r (i+1) K (X6 e d v) m'
   | true=>DC P g args (base+i) (DT base i r.length) m fun v z=>V5 P dc n base r (i+1) K (X6 e d v) (m.app (Lg (base+i) z)))
  | none=>False)
 | op=>(match Ak (base+i) (AI n e) m.get op with
  | some (v,w)=>V5 P dc n base r (i+1) K (X6 e d v) (m.app w)
  | none=>False):=by
 cases op<;>simp only[V5,Q4,HS]<;>rfl
theorem Kb(d:Option Nat)(op:AQ)(g:Nat×Bool)(un:List Nat)(r:List Af):V5 P dc n base (⟨d,op,some g,un⟩ :: r) i K e m=match Q4 n e (some g)with
 | some true=>(match op with
  | .call f xs=>(match U5 n e f xs with
   | some (g,args)=>(match dc with
    | false=>SC P g args m (base+i) fun v m'=>V5 P dc n base r (i+1) K (X6 e d v) m'
    | true=>DC P g args (base+i) (DT base i r.length) m fun v z=>V5 P dc n base r (i+1) K (X6 e d v) (m.app (Lg (base+i) z)))
   | none=>False)
  | op=>(match Ak (base+i) (AI n e) m.get op with
   | some (v,w)=>V5 P dc n base r (i+1) K (X6 e d v) (m.app w)
   | none=>False))
 | some false=>V5 P dc n base r (i+1) K (X6 e d Aj) m
 | none=>False:=by
 cases op<;>simp only[V5,HS]<;>rfl
theorem La{keep:List Nat}{fs:List (Nat×FT)}:F8 P keep n base [] i fs K e m=K e m:=propext Iff.rfl
theorem Ki{keep:List Nat}{fs:List (Nat×FT)}(d:Option Nat)(op:AQ)(un:List Nat)(r:List Af):F8 P keep n base (⟨d,op,none,un⟩ :: r) i fs K e m=match op with
 | .call f xs=>(match U5 n e f xs with
  | some (g,args)=>DC P g args (base+i) (DT base i r.length) m fun v z=>J0 fs (.call (Li (base+i) z) (DT base i r.length) m.next) un∧F8 P keep n base r (i+1) (O3 keep i (.call (Li (base+i) z) (DT base i r.length) m.next) fs) K (X6 e d v) (m.app (Lg (base+i) z))
  | none=>False)
 | op=>(match Ak (base+i) (AI n e) m.get op with
  | some (v,w)=>J0 fs (.ops (U9 (base+i) (AI n e) op) (T2 (AI n e) op)) un∧F8 P keep n base r (i+1) (O3 keep i (.ops (U9 (base+i) (AI n e) op) (T2 (AI n e) op)) fs) K (X6 e d v) (m.app w)
  | none=>False):=by
 cases op<;>simp only[F8,Q4]<;>rfl
@[simp] theorem Ydy(id : Nat) : Lg id none = [] := rfl
@[simp] theorem Yd6(id : Nat)(b : Ag) : Lg id (some b) = [(id, some b)] := rfl
@[simp] theorem Yei(id : Nat) : Li id none = [] := rfl
@[simp] theorem Yed(id : Nat)(b : Ag) : Li id (some b) = [id] := rfl
@[simp] theorem Yde(m : Ac) : m.app [] = m := rfl
theorem JT:Lb []=[]:=rfl
theorem JH(d:Option Nat)(op:AQ)(g:Option (Nat×Bool))(un:List Nat)(r:List Af):Lb (⟨d,op,g,un⟩ :: r)=un++Lb r:=rfl
theorem Jw(d:Nat)(v:Aa):X6 e (some d) v=(d,v) :: e:=rfl
theorem JF(v:Aa):X6 e none v=e:=rfl
theorem Kk(j:Nat):AI n e (.tmp j)=if j<n then e.get j else Aj:=rfl
theorem JM(v:Aa):AI n e (.const v)=v:=rfl
theorem Kz(f:FuncId):AI n e (.fn f)=.func (.func f) [] []:=rfl
def XU(w:Bool):Aa→Option Bool
 | .bool b=>some (b == w)
 | .tuple []=>some false
 | _=>none
theorem KE(d:Nat)(w:Bool):Q4 n e (some (d,w))=XU w (AI n e (.tmp d)):=by
 simp only[Q4]; unfold XU; rfl
theorem KZ(w b:Bool):XU w (.bool b)=some (b == w):=rfl
theorem KY(w:Bool):XU w (.tuple [])=some false:=rfl
def vo:Option Aa→Option (Aa×List (Nat×Option Ag))
 | some v=>some (v,[])
 | none=>none
theorem Kl(v:Aa):vo (some v)=some (v,[]):=rfl
def wo(v:Aa):Option (List (Nat×Option Ag))→Option (Aa×List (Nat×Option Ag))
 | some d=>some (v,d)
 | none=>none
theorem KU(v:Aa)(d:List (Nat×Option Ag)):wo v (some d)=some (v,d):=rfl
section
variable {id:Nat} {f:Ah→Aa} {get:Nat→Option Ag}
theorem K4(x:Ah):Ak id f get (.Fp x)=some (f x,[]):=rfl
def WU(a b:Aa):Aa→Option (Aa×List (Nat×Option Ag))
 | .bool true=>some (a,[])
 | .bool false=>some (b,[])
 | _=>none
theorem JO(a b:Aa):WU a b (.bool true)=some (a,[]):=rfl
theorem KP(a b:Aa):WU a b (.bool false)=some (b,[]):=rfl
theorem KD(c a b:Ah):Ak id f get (.pick c a b)=WU (f a) (f b) (f c):=by
 simp only[Ak]; unfold WU; split<;>simp_all
def Pn(id:Nat):Option (List Aa)→Option (Aa×List (Nat×Option Ag))
 | some cs=>if cs.all Aa.one then some (.ptr id 0 0,[(id,some (.cells cs.length [cs]))])else none
 | none=>none
theorem Jv(cs:List Aa):Pn id (some cs)=if cs.all Aa.one then some (.ptr id 0 0,[(id,some (.cells cs.length [cs]))])else none:=rfl
theorem K6(x:Ah):Ak id f get (.box x)=Pn id (f x).cells:=by simp only[Ak]; unfold Pn; rfl
theorem Kt(z:List Aa):Ak id f get (.alloc z)=some (.ptr id 0 0,[(id,some (.cells z.length [z]))]):=rfl
def Pk:Option (List Aa)→Option (Aa×List (Nat×Option Ag))
 | some cs=>some (.agg cs,[])
 | none=>none
theorem Kw(cs:List Aa):Pk (some cs)=some (.agg cs,[]):=rfl
theorem Ks(z:List Aa)(ps:List (Nat×Nat×Ah)):Ak id f get (.build z ps)=Pk (H9 z (ps.map fun p=>(p.1,p.2.1,f p.2.2))):=by simp only[Ak]; unfold Pk; rfl
def Yt(id k len:Nat):Option (List (List Aa))→Option (Aa×List (Nat×Option Ag))
 | some els=>some (.sl id 0 len,[(id,some (.cells k els))])
 | none=>none
theorem KR(k len:Nat)(els:List (List Aa)):Yt id k len (some els)=some (.sl id 0 len,[(id,some (.cells k els))]):=rfl
theorem JI(k len:Nat)(z:List Aa)(ps:List (Nat×Ah)):Ak id f get (.CB k len z ps)=Yt id k len (I8 k (List.replicate len z) (ps.map fun p=>(p.1,f p.2))):=by simp only[Ak]; unfold Yt; rfl
theorem K7(n:Option Nat)(x:Ah):Ak id f get (.load n x)=vo (J4 get n (f x)):=by simp only[Ak]; unfold vo; rfl
theorem K1(n:Nat)(a x:Ah):Ak id f get (.store n a x)=wo Aj (F5 get n (f a) (f x)):=by simp only[Ak]; unfold wo; rfl
def Mw:Aa→Option (Aa×List (Nat×Option Ag))
 | .ptr b i j=>some (.ptr b i j,[])
 | .AW els i j=>some (.AW els i j,[])
 | .func (.func f) a b=>some (.func (.func f) a b,[])
 | _=>none
theorem Kq(b i j:Nat):Mw (.ptr b i j)=some (.ptr b i j,[]):=rfl
theorem Kd(els:List (List Aa))(i j:Nat):Mw (.AW els i j)=some (.AW els i j,[]):=rfl
theorem Jx(x:Ah):Ak id f get (.Ct x)=Mw (f x):=by simp only[Ak]; unfold Mw; split<;>simp_all
theorem KB(op:BinOp)(q:Fi)(x y:Ah):Ak id f get (.bin op q x y)=vo (X4 op q (f x) (f y)):=by simp only[Ak]; unfold vo; rfl
theorem JU(op:UnOp)(x:Ah):Ak id f get (.un op x)=vo (Ga op (f x)):=by simp only[Ak]; unfold vo; rfl
theorem Ky(fn:Fn)(a c:List Ah):Ak id f get (.Du fn a c)=some (.func fn (a.map f) (c.map f),[]):=rfl
theorem JY:Ak id f get .mkMap=some (.map id,[(id,some (.map [] 0))]):=rfl
theorem JG(off:Nat)(x:Ah):Ak id f get (.BH off x)=vo (F1 off (f x)):=by simp only[Ak]; unfold vo; rfl
theorem JZ(off b i j:Nat):F1 off (.ptr b i j)=some (.ptr b i (j+off)):=rfl
theorem Kc(off:Nat)(els:List (List Aa))(i j:Nat):F1 off (.AW els i j)=some (.AW els i (j+off)):=rfl
def fA(off:Nat)(n:Option Nat):Aa→Option (Aa×List (Nat×Option Ag))
 | .agg cs=>vo (Iw cs off n)
 | _=>none
theorem Ko(off:Nat)(n:Option Nat)(cs:List Aa):fA off n (.agg cs)=vo (Iw cs off n):=rfl
def Pu(i:Nat):Aa→Option (Aa×List (Nat×Option Ag))
 | .tuple vs=>vo vs[i]?
 | _=>none
theorem KN(i:Nat)(vs:List Aa):Pu i (.tuple vs)=vo vs[i]?:=rfl
theorem KX(x:Ah)(i:Nat):Ak id f get (.ext x i)=Pu i (f x):=by simp only[Ak]; unfold Pu vo; rfl
def PE:Option Nat→Option (Aa×List (Nat×Option Ag))
 | some n=>some (.int .i64 n,[])
 | none=>none
theorem JX(n:Nat):PE (some n)=some (.int .i64 n,[]):=rfl
theorem Km(x:Ah):Ak id f get (.BC x)=PE (V9 (f x)):=by simp only[Ak]; unfold PE; rfl
theorem K3:V9 .Ai=some 0:=rfl
theorem Jy:V9 .emp=some 0:=rfl
theorem KW(b off len:Nat):V9 (.sl b off len)=some len:=rfl
theorem Kr(els:List (List Aa)):V9 (.An els)=some els.length:=rfl
def Jf(get:Nat→Option Ag)(k:Nat):Aa→Option Nat→Option (Aa×List (Nat×Option Ag))
 | .sl b off len,some i=>match get b with
  | some (.cells k' _)=>if k'=k∧i<len then some (.ptr b (off+i) 0,[])else none
  | _=>none
 | .An els,some i=>match els[i]? with
  | some row=>if row.length=k then some (.AW els i 0,[])else none
  | none=>none
 | _,_=>none
theorem Lf(k b off len i:Nat):Jf get k (.sl b off len) (some i)=match get b with
 | some (.cells k' _)=>if k'=k∧i<len then some (.ptr b (off+i) 0,[])else none
 | _=>none:=rfl
theorem Iy(k:Nat)(els:List (List Aa))(i:Nat):Jf get k (.An els) (some i)=match els[i]? with
 | some row=>if row.length=k then some (.AW els i 0,[])else none
 | none=>none:=rfl
theorem Kg(k:Nat)(x i:Ah):Ak id f get (.BI k x i)=Jf get k (f x) (P7 (f i)):=by
 simp only[Ak]; unfold Jf; rfl
theorem Kx(k bytes:Nat)(z:List Aa)(x y:Ah):Ak id f get (.Cf k bytes z x y)=match P7 (f x),P7 (f y)with
 | some l,some c=>if l≤c∧c≤W6∧bytes≤W6 then some (.sl id 0 l,[(id,some (.cells k (List.replicate c z)))])else none
 | _,_=>none:=rfl
theorem JP(k bytes:Nat)(z:List Aa)(x y:Ah):Ak id f get (.append k bytes z x y)=match T7 get k (f y)with
 | some xs=>Z8 id k bytes get (f x) xs
 | none=>none:=rfl
theorem JE(x:Ah):Ak id f get (.Cs x)=match f x with
 | .Ay=>some (.int .i64 0,[])
 | .map b=>match get b with
  | some (.map es _)=>some (.int .i64 es.length,[])
  | _=>none
 | _=>none:=rfl
theorem Kf(kt:Ce)(z:Aa)(ok:Bool)(x i:Ah):Ak id f get (.lookup kt z ok x i)=match (match f x with
 | .Ay=>some []
 | .map b=>match get b with
  | some (.map es _)=>some es
  | _=>none
 | _=>none)with
 | some es=>match G3 kt (f i) es with
  | some r=>some (if ok then .tuple [match r with
   | some (_,v,_)=>v
   | none=>z,.bool r.isSome]else (match r with
   | some (_,v,_)=>v
   | none=>z),[])
  | none=>none
 | none=>none:=rfl
theorem Jz(kt:Ce)(mp k v:Ah):Ak id f get (.BJ kt mp k v)=match f mp with
 | .map b=>match get b with
  | some (.map es clock)=>match G3 kt (f k) es with
   | some (some (i,_,born))=>some (Aj,[(b,some (.map (es.set i (f k,f v,born)) clock))])
   | some none=>some (Aj,[(b,some (.map (es++[(f k,f v,clock)]) (clock+1)))])
   | none=>none
  | _=>none
 | _=>none:=rfl
theorem Sx(n k:Nat)(x i:Ah):Ak id f get (.Er n k x i)=match P7 (f i)with
 | some i=>if i<n then vo (F1 (i*k) (f x))else none
 | none=>none:=by
 simp only[Ak]; unfold vo; rfl
theorem JW(k:IntKind)(j:Int):P7 (.int k j)=if 0≤j then some j.toNat else none:=by simp only[P7]
end
end
@[congr] theorem Yd3{P : Program}{keep Oe : List Nat}{n base base' i i' : Nat}{fs fs' : List (Nat × FT)}{ops : List Af}{K : Env → Ac → Prop}{e e' : Env}{m m' : Ac}(hk : keep = Oe)(hb : base = base')(hi : i = i')(hf : fs = fs')(h : e = e')(h' : m = m') : F8 P keep n base ops i fs K e m = F8 P Oe n base' ops i' fs' K e' m' := by rw [hk, hb, hi, hf, h, h']
theorem K8{P:Program}{n n0:Nat}{Q:Exit→Env→Ac→Prop}{e:Env}{m:Ac}(c:Ah)(a b:Aq):CT P n n0 (.cond c a b) Q e m=match AI n e c with
 | .bool true=>CT P n n0 a Q e m
 | .bool false=>CT P n n0 b Q e m
 | _=>False:=by
 rw[zO];unfold Kj;rfl
end Go.AE
end
section
namespace Go.Ab
open Go Go.AE Go.Proofs
set_option maxRecDepth 100000
set_option maxHeartbeats 400000
def af4:Av:=⟨54,[(2,none)],(sr [bo 1 0,mk 2 0]
 (.seq (sr [fa 4 1 1,lo 5 4,le 6 5,cGk 7 6 400,mv 8 7,gZ 9 8 false (.load (some 2) (tZ 1)),gZ 10 8 false (.call (.fn 60) [tZ 9]),gZ 11 8 false (.bin .gtr .num (tZ 10) (kZ 200)),Ef 12 8 11]
 (.cond (tZ 12) (sr [mk 2 7]
 .ret)
 .skip))
 (.seq (sr [fa 13 0 1,lo 14 13,eB 15 14 0,mv 16 15,Fk 17 16 0 1,Fl 18 16 17,gZ 19 16 false (.bin .gtr .num (tZ 18) (kZ 40)),Ef 20 16 19]
 (.cond (tZ 20) (sr [mk 2 2]
 .ret)
 .skip))
 (.seq (sr [fa 21 1 1,lo 22 21,le 23 22,FD 24 23 0]
 (.cond (tZ 24) (sr [mk 2 0]
 .ret)
 .skip))
 (sr [lw 25 2 1,Lh 26 61 25,mv 3 26]
 (.seq (.seq (.region true [fa 27 1 1,lo 28 27,oZ 29 (.BI 6 (tZ 28) (kZ 0)),fa 30 0 29,lo 31 30,Po 32 31 1,mv 33 32,Mn 34 33 3,gZ 35 33 false (.bin .rem .num (tZ 34) (kZ 2)),gZ 36 33 false (.bin .neq .num (tZ 35) (kZ 0)),Ef 37 33 36,mv 38 37,gZ 39 38 false (.load (some 2) (tZ 1)),gZ 40 38 false (.call (.fn 62) [tZ 39]),gZ 41 38 false (.un .not (tZ 40)),Ef 42 38 41,mv 43 42,gZ 44 43 false (.load (some 2) (tZ 1)),gZ 45 43 false (.call (.fn 63) [tZ 44]),gZ 46 43 false (.BC (tZ 45)),Mn 47 43 3,⟨(some 48),.load (some 2) (tZ 1),(some (43,false)),[18]⟩,gZ 49 43 false (.call (.fn 64) [tZ 48]),gZ 50 43 false (.bin .add .num (tZ 47) (tZ 49)),gZ 51 43 false (.bin .add .num (tZ 50) (kZ 2)),gZ 52 43 false (.bin .neq .num (tZ 46) (tZ 51)),Ef 53 43 52])
 (.cond (tZ 53) (sr [mk 2 3]
 .ret)
 .skip))
 (sr [mk 2 0]
 .ret)))))))⟩
def af13:Av:=⟨22,[(2,none)],(sr [bo 1 0,mk 2 0]
 (sr [mk 3 0]
 (.seq (sr [mk 4 0]
 (.block 0 (.loop (.seq (sr [mv 5 4,fa 6 1 1,lo 7 6,le 8 7,cL 9 5 8]
 (.cond (tZ 9) .skip
 (.exit 0)))
 (.seq (.block 1 (sr [fa 12 1 1,lo 13 12,mv 14 4,ix 15 6 13 14,fa 16 0 15,lo 17 16,FD 18 17 2]
 (.cond (tZ 18) (rf [mv 19 3,Dw 20 19 1,mv 3 20])
 .skip)))
 (rf [mv 10 4,Dw 11 10 1,mv 4 11]))))))
 (sr [mv 21 3,mv 2 21]
 .ret))))⟩
def af14:Av:=⟨22,[(2,none)],(sr [bo 1 0,mk 2 0]
 (sr [mk 3 0]
 (.seq (sr [mk 4 0]
 (.block 0 (.loop (.seq (sr [mv 5 4,fa 6 1 1,lo 7 6,le 8 7,cL 9 5 8]
 (.cond (tZ 9) .skip
 (.exit 0)))
 (.seq (.block 1 (sr [fa 12 1 1,lo 13 12,mv 14 4,ix 15 6 13 14,fa 16 0 15,lo 17 16,FD 18 17 1]
 (.cond (tZ 18) (rf [mv 19 3,Dw 20 19 1,mv 3 20])
 .skip)))
 (rf [mv 10 4,Dw 11 10 1,mv 4 11]))))))
 (sr [mv 21 3,mv 2 21]
 .ret))))⟩
def af15:Av:=⟨172,[(2,none)],(sr [bo 1 0,Fo 2]
 (.seq (sr [mk 3 0]
 (.block 0 (.loop (.seq (sr [mv 9 3,fa 10 1 1,lo 11 10,le 12 11,cL 13 9 12]
 (.cond (tZ 13) .skip
 (.exit 0)))
 (.seq (.block 1 (sr [fa 16 1 1,lo 17 16,mv 18 3,ix 19 6 17 18,lw 20 6 19,oZ 4 (.alloc [(.int .i64 0),(.int .i64 0),(.int .i64 0),(.int .i64 0),(.int .i64 0),(.bool false)]),so 6 4 20]
 (sr [mk 5 0,mk 6 0]
 (.seq (sr [mk 7 0]
 (.block 2 (.loop (.seq (sr [mv 21 7,fa 22 1 1,lo 23 22,le 24 23,cL 25 21 24]
 (.cond (tZ 25) .skip
 (.exit 2)))
 (.seq (.block 3 (sr [fa 28 1 1,lo 29 28,mv 30 7,ix 31 6 29 30,lw 32 6 31,oZ 8 (.alloc [(.int .i64 0),(.int .i64 0),(.int .i64 0),(.int .i64 0),(.int .i64 0),(.bool false)]),so 6 8 32]
 (.seq (sr [fa 33 0 8,lo 34 33,fa 35 0 4,lo 36 35,cE 37 34 36,mv 38 37,Ey 39 38 1 8,Ep 40 38 39,Ey 41 38 1 4,Ep 42 38 41,gZ 43 38 true (.bin .eql .num (tZ 40) (tZ 42)),Ho 44 38 43,mv 45 44,Ey 46 45 2 8,Ep 47 45 46,Ey 48 45 2 4,Ep 49 45 48,gZ 50 45 true (.bin .eql .num (tZ 47) (tZ 49)),Ho 51 45 50]
 (.cond (tZ 51) (rf [mv 52 5,Dw 53 52 1,mv 5 53])
 .skip))
 (sr [fa 54 0 8,lo 55 54,fa 56 0 4,lo 57 56,cE 58 55 57,mv 59 58,Ey 60 59 3 8,Ep 61 59 60,Ey 62 59 3 4,Ep 63 59 62,gZ 64 59 true (.bin .eql .num (tZ 61) (tZ 63)),Ho 65 59 64,mv 66 65,Ey 67 66 4 8,Ep 68 66 67,Ey 69 66 4 4,Ep 70 66 69,gZ 71 66 true (.bin .eql .num (tZ 68) (tZ 70)),Ho 72 66 71,mv 73 72,Ey 74 73 5 8,Ep 75 73 74,Ey 76 73 5 4,Ep 77 73 76,gZ 78 73 true (.bin .neq .bool (tZ 75) (tZ 77)),Ho 79 73 78]
 (.cond (tZ 79) (rf [mv 80 6,Dw 81 80 1,mv 6 81])
 .skip)))))
 (rf [mv 26 7,Dw 27 26 1,mv 7 27]))))))
 (sr [fa 82 0 4,lo 83 82]
 (.block 4 (sr [FD 85 83 1,mv 84 85]
 (.cond (tZ 84) (.seq (.region true [fa 86 3 4,lo 87 86,Po 88 87 0,mv 89 88,Fk 90 89 4 4,Fl 91 89 90,gZ 92 89 false (.bin .neq .num (tZ 91) (kZ 0)),Ef 93 89 92,mv 94 93,Fk 95 94 5 4,Fl 96 94 95,Ef 97 94 96,mv 98 97,Fk 99 98 1 4,Fl 100 98 99,gZ 101 98 false (.bin .lss .num (tZ 100) (kZ 0)),Ef 102 98 101,mv 103 102,Fk 104 103 1 4,Fl 105 103 104,Fk 106 103 0 1,Fl 107 103 106,gZ 108 103 false (.bin .gtr .num (tZ 105) (tZ 107)),Ef 109 103 108,mv 110 109,Fk 111 110 2 4,Fl 112 110 111,gZ 113 110 false (.bin .lss .num (tZ 112) (kZ 1)),Ef 114 110 113,mv 115 114,Fk 116 115 2 4,Fl 117 115 116,gZ 118 115 false (.load (some 2) (tZ 1)),Fk 119 115 1 4,Fl 120 115 119,⟨(some 121),.call (.fn 97) [tZ 118,tZ 120],(some (115,false)),[31]⟩,gZ 122 115 false (.bin .gtr .num (tZ 117) (tZ 121)),Ef 123 115 122,mv 124 123,Mn 125 124 5,gZ 126 124 false (.bin .neq .num (tZ 125) (kZ 1)),Ef 127 124 126])
 (.cond (tZ 127) (sr [Fo 2]
 .ret)
 .skip))
 (sr [FD 129 83 2,mv 128 129]
 (.cond (tZ 128) (.seq (.region true [fa 130 1 4,lo 131 130,Po 132 131 0,mv 133 132,Fk 134 133 2 4,Fl 135 133 134,gZ 136 133 false (.bin .neq .num (tZ 135) (kZ 0)),Ef 137 133 136,mv 138 137,Fk 139 138 4 4,Fl 140 138 139,gZ 141 138 false (.bin .neq .num (tZ 140) (kZ 1)),Mn 142 138 141,Ey 143 142 4 4,Ep 144 142 143,gZ 145 142 true (.bin .neq .num (tZ 144) (kZ (-1))),gZ 146 138 false (.pick (tZ 142) (tZ 145) (bZ false)),Ef 147 138 146,mv 148 147,Fk 149 148 3 4,Fl 150 148 149,gZ 151 148 false (.bin .lss .num (tZ 150) (kZ 1)),Ef 152 148 151,mv 153 152,Fk 154 153 3 4,Fl 155 153 154,gZ 156 153 false (.load (some 2) (tZ 1)),⟨(some 157),.call (.fn 60) [tZ 156],(some (153,false)),[25]⟩,gZ 158 153 false (.bin .quo .num (tZ 157) (kZ 2)),gZ 159 153 false (.bin .gtr .num (tZ 155) (tZ 158)),Ef 160 153 159,mv 161 160,Mn 162 161 6,gZ 163 161 false (.bin .neq .num (tZ 162) (kZ 1)),Ef 164 161 163,mv 165 164,gZ 166 165 false (.load (some 2) (tZ 1)),Fk 167 165 3 4,Fl 168 165 167,gZ 169 165 false (.call (.fn 98) [tZ 166,tZ 168]),gZ 170 165 false (.bin .neq .num (tZ 169) (kZ 2)),Ef 171 165 170])
 (.cond (tZ 171) (sr [Fo 2]
 .ret)
 .skip))
 (sr [Fo 2]
 .ret)))))))))))
 (rf [mv 14 3,Dw 15 14 1,mv 3 15]))))))
 (sr [kG 2]
 .ret)))⟩
def af16:Av:=⟨52,[(2,none)],(sr [bo 1 0,Vk 2]
 (sr [Vk 3]
 (sr [lw 9 2 1,Lh 10 99 9,mv 4 10]
 (sr [fa 11 1 1,lo 12 11,le 13 12,oZ 14 (.bin .mul .num (kZ 2) (tZ 13)),mv 15 4,le 16 15,oZ 17 (.bin .mul .num (kZ 2) (tZ 16)),aD 18 14 17,oZ 19 (.Cf 1 1 [(.bool false)] (tZ 18) (tZ 18)),mv 5 19]
 (.seq (sr [mk 6 0]
 (.block 0 (.loop (.seq (sr [mv 20 6,mv 21 5,le 22 21,cL 23 20 22]
 (.cond (tZ 23) .skip
 (.exit 0)))
 (.seq (.block 1 (.seq (sr [mv 26 5,mv 27 6,ix 28 1 26 27,lo 29 28]
 (.cond (tZ 29) (.exit 1)
 .skip))
 (sr [Vk 7]
 (.seq (sr [mv 30 6,mv 8 30]
 (.block 2 (.loop (.seq (sr [mv 31 5,mv 32 8,ix 33 1 31 32,lo 34 33,no 35 34]
 (.cond (tZ 35) .skip
 (.exit 2)))
 (.seq (.block 3 (sr [mv 40 5,mv 41 8,ix 42 1 40 41,pZ (.store 1 (tZ 42) (bZ true))]
 (rf [mv 43 7,mv 44 8,oZ 45 (.CB 1 1 [(.int .i64 0)] [(0,tZ 44)]),oZ 46 (.append 1 8 [(.int .i64 0)] (tZ 43) (tZ 45)),mv 7 46])))
 (rf [lw 36 2 1,mv 37 4,mv 38 8,XG 39 100 36 37 38,mv 8 39]))))))
 (rf [mv 47 3,mv 48 7,oZ 49 (.CB 1 1 [.Ai] [(0,tZ 48)]),oZ 50 (.append 1 24 [.Ai] (tZ 47) (tZ 49)),mv 3 50])))))
 (rf [mv 24 6,Dw 25 24 1,mv 6 25]))))))
 (sr [mv 51 3,mv 2 51]
 .ret))))))⟩
def af17:Av:=⟨6,[(2,none)],(sr [bo 1 0,mk 2 0]
 (sr [lw 3 2 1,Lh 4 60 3,TD 5 4 2,mv 2 5]
 .ret))⟩
def af37:Av:=⟨34,[(4,none)],(sr [bo 2 0,mk 4 0]
 (sr [mk 5 0]
 (.seq (sr [mk 6 0]
 (.block 0 (.loop (.seq (sr [mv 7 6,fa 8 1 2,lo 9 8,le 10 9,cL 11 7 10]
 (.cond (tZ 11) .skip
 (.exit 0)))
 (.seq (.block 1 (sr [fa 14 1 2,lo 15 14,mv 16 6,ix 17 6 15 16,fa 18 0 17,lo 19 18,FD 20 19 1,mv 21 20,Ey 22 21 1 2,Ep 23 21 22,HT 24 21 6,gZ 25 21 true (.BI 6 (tZ 23) (tZ 24)),Ey 26 21 1 25,Ep 27 21 26,HT 28 21 1,gZ 29 21 true (.bin .eql .num (tZ 27) (tZ 28)),Ho 30 21 29]
 (.cond (tZ 30) (rf [mv 31 5,Dw 32 31 1,mv 5 32])
 .skip)))
 (rf [mv 12 6,Dw 13 12 1,mv 6 13]))))))
 (sr [mv 33 5,mv 4 33]
 .ret))))⟩
def af38:Av:=⟨34,[(4,none)],(sr [bo 2 0,mk 4 0]
 (sr [mk 5 0]
 (.seq (sr [mk 6 0]
 (.block 0 (.loop (.seq (sr [mv 7 6,fa 8 1 2,lo 9 8,le 10 9,cL 11 7 10]
 (.cond (tZ 11) .skip
 (.exit 0)))
 (.seq (.block 1 (sr [fa 14 1 2,lo 15 14,mv 16 6,ix 17 6 15 16,fa 18 0 17,lo 19 18,FD 20 19 2,mv 21 20,Ey 22 21 1 2,Ep 23 21 22,HT 24 21 6,gZ 25 21 true (.BI 6 (tZ 23) (tZ 24)),Ey 26 21 3 25,Ep 27 21 26,HT 28 21 1,gZ 29 21 true (.bin .eql .num (tZ 27) (tZ 28)),Ho 30 21 29]
 (.cond (tZ 30) (rf [mv 31 5,Dw 32 31 1,mv 5 32])
 .skip)))
 (rf [mv 12 6,Dw 13 12 1,mv 6 13]))))))
 (sr [mv 33 5,mv 4 33]
 .ret))))⟩
def af39:Av:=⟨54,[(2,none)],(sr [bo 1 0,Vk 2]
 (sr [Vk 3]
 (.seq (sr [mk 4 0]
 (.block 0 (.loop (.seq (sr [mv 6 4,fa 7 1 1,lo 8 7,le 9 8,cL 10 6 9]
 (.cond (tZ 10) .skip
 (.exit 0)))
 (.seq (.block 1 (.seq (sr [fa 13 1 1,lo 14 13,mv 15 4,ix 16 6 14 15,fa 17 0 16,lo 18 17,Po 19 18 1]
 (.cond (tZ 19) (.exit 1)
 .skip))
 (sr [mk 5 0]
 (.seq (.block 2 (.loop (.seq (.seq (.region true [mv 20 5,mv 21 3,le 22 21,cL 23 20 22,mv 24 23,Ey 25 24 1 1,Ep 26 24 25,HT 27 24 3,HT 28 24 5,gZ 29 24 true (.BI 1 (tZ 27) (tZ 28)),Ep 30 24 29,gZ 31 24 true (.BI 6 (tZ 26) (tZ 30)),gZ 32 24 true (.load (some 6) (tZ 31)),Ey 33 24 1 1,Ep 34 24 33,HT 35 24 4,gZ 36 24 true (.BI 6 (tZ 34) (tZ 35)),gZ 37 24 true (.load (some 6) (tZ 36)),gZ 38 24 true (.call (.fn 131) [tZ 32,tZ 37]),Ho 39 24 38])
 (.cond (tZ 39) .skip
 (.exit 2)))
 (.block 3 (rf [mv 40 5,Dw 41 40 1,mv 5 41])))))
 (.region true [mv 42 3,mv 43 5,oZ 44 (.DB 1 (tZ 42) none (some (tZ 43)) none),oZ 45 (.append 1 8 [(.int .i64 0)] (.const .Ai) (tZ 44)),mv 46 4,⟨(some 47),.CB 1 1 [(.int .i64 0)] [(0,tZ 46)],none,[2,3]⟩,oZ 48 (.append 1 8 [(.int .i64 0)] (tZ 45) (tZ 47)),mv 49 3,mv 50 5,⟨(some 51),.DB 1 (tZ 49) (some (tZ 50)) none none,none,[3,5,6]⟩,oZ 52 (.append 1 8 [(.int .i64 0)] (tZ 48) (tZ 51)),mv 3 52])))))
 (rf [mv 11 4,Dw 12 11 1,mv 4 12]))))))
 (sr [mv 53 3,mv 2 53]
 .ret))))⟩
def af40:Av:=⟨114,[(6,none)],(sr [bo 3 0,mk 6 0]
 (sr [fa 17 1 3,lo 18 17,le 19 18,mv 20 1,le 21 20,mv 7 19,mv 8 21]
 (.seq (sr [mv 22 2,mv 23 7,oZ 24 (.bin .mul .num (kZ 2) (tZ 23)),cH 25 22 24]
 (.cond (tZ 25) (sr [mv 26 2,mv 27 7,oZ 28 (.bin .mul .num (kZ 2) (tZ 27)),aS 29 26 28,TD 30 29 2,mv 9 30]
 (.seq (sr [mv 31 2,Np 32 31 2,FD 33 32 0]
 (.cond (tZ 33) (sr [mv 34 1,mv 35 9,Dw 36 35 1,mv 37 8,aR 38 36 37,ix 39 1 34 38,lo 40 39,mv 10 40]
 (.seq (.region true [lw 41 2 3,mv 42 10,lw 43 2 3,mv 44 10,⟨(some 45),.call (.fn 80) [tZ 43,tZ 44],none,[0]⟩,no 46 45,XG 47 132 41 42 46,mv 6 47])
 .ret))
 .skip))
 (sr [mv 48 1,mv 49 9,ix 50 1 48 49,lo 51 50,mv 11 51]
 (.seq (.region true [lw 52 2 3,mv 53 11,lw 54 2 3,mv 55 11,⟨(some 56),.call (.fn 80) [tZ 54,tZ 55],none,[0]⟩,XG 57 132 52 53 56,mv 6 57])
 .ret))))
 .skip))
 (sr [mv 58 2,Np 59 58 2,FD 60 59 0,mv 12 60]
 (sr [mv 61 2,TD 62 61 2,mv 13 62]
 (.seq (sr [mv 63 12]
 (.cond (tZ 63) (rf [mv 64 13,Dw 65 64 1,mv 66 7,aR 67 65 66,mv 13 67])
 .skip))
 (sr [fa 68 1 3,lo 69 68,mv 70 13,ix 71 6 69 70,lw 72 6 71,oZ 14 (.alloc [(.int .i64 0),(.int .i64 0),(.int .i64 0),(.int .i64 0),(.int .i64 0),(.bool false)]),so 6 14 72]
 (.seq (sr [fa 73 0 14,lo 74 73,FD 75 74 2]
 (.cond (tZ 75) (sr [fa 76 5 14,lo 77 76,fa 78 4 14,lo 79 78,FD 80 79 1,oZ 81 (.bin .eql .bool (tZ 77) (tZ 80)),mv 15 81]
 (.seq (.region true [lw 82 2 3,lw 83 2 3,mv 84 13,⟨(some 85),.call (.fn 133) [tZ 83,tZ 84],none,[0]⟩,mv 86 12,mv 87 15,oZ 88 (.bin .eql .bool (tZ 86) (tZ 87)),XG 89 132 82 85 88,mv 6 89])
 .ret))
 .skip))
 (sr [mv 90 1,mv 91 13,XF 92 59 90 91,mv 16 92]
 (.seq (sr [lw 93 2 3,mv 94 13,XF 95 80 93 94,mv 96 12,oZ 97 (.bin .eql .bool (tZ 95) (tZ 96))]
 (.cond (tZ 97) (sr [mv 98 7,oZ 99 (.bin .mul .num (kZ 2) (tZ 98)),mv 100 16,oZ 101 (.bin .mul .num (kZ 2) (tZ 100)),aD 102 99 101,mv 6 102]
 .ret)
 .skip))
 (sr [mv 103 7,oZ 104 (.bin .mul .num (kZ 2) (tZ 103)),mv 105 16,mv 106 8,aD 107 105 106,dG 108 107 1,mv 109 8,aR 110 108 109,oZ 111 (.bin .mul .num (kZ 2) (tZ 110)),aD 112 104 111,Dw 113 112 1,mv 6 113]
 .ret)))))))))))⟩
def af66:Av:=⟨24,[(4,none)],(sr [bo 2 0,bo 3 1,Fo 4]
 (sr [fa 5 1 2,lo 6 5,fa 7 1 3,lo 8 7,cL 9 6 8,mv 10 9,Fk 11 10 1 2,Fl 12 10 11,Fk 13 10 1 3,Fl 14 10 13,gZ 15 10 false (.bin .eql .num (tZ 12) (tZ 14)),Mn 16 10 15,Ey 17 16 2 2,Ep 18 16 17,Ey 19 16 2 3,Ep 20 16 19,gZ 21 16 true (.bin .lss .num (tZ 18) (tZ 20)),gZ 22 10 false (.pick (tZ 16) (tZ 21) (bZ false)),Ef 23 10 22,mv 4 23]
 .ret))⟩
def af67:Av:=⟨22,[(6,none)],(sr [bo 3 0,mk 6 0]
 (sr [fa 8 1 3,lo 9 8,le 10 9,mv 7 10]
 (.seq (sr [mv 11 2]
 (.cond (tZ 11) (sr [mv 12 1,oZ 13 (.bin .mul .num (kZ 2) (tZ 12)),mv 6 13]
 .ret)
 .skip))
 (sr [mv 14 1,mv 15 7,aD 16 14 15,dG 17 16 1,mv 18 7,aR 19 17 18,oZ 20 (.bin .mul .num (kZ 2) (tZ 19)),Dw 21 20 1,mv 6 21]
 .ret))))⟩
def af69:Av:=⟨42,[(4,none)],(sr [bo 2 0,mk 4 0]
 (.seq (sr [mk 5 0]
 (.block 0 (.loop (.seq (sr [mv 6 5,fa 7 1 2,lo 8 7,le 9 8,cL 10 6 9]
 (.cond (tZ 10) .skip
 (.exit 0)))
 (.seq (.block 1 (.seq (.region true [mv 13 5,mv 14 1,cN 15 13 14,mv 16 15,Ey 17 16 1 2,Ep 18 16 17,HT 19 16 5,gZ 20 16 true (.BI 6 (tZ 18) (tZ 19)),Ey 21 16 0 20,Ep 22 16 21,gZ 23 16 true (.bin .eql .num (tZ 22) (kZ 2)),Ho 24 16 23,mv 25 24,Ey 26 25 1 2,Ep 27 25 26,HT 28 25 5,gZ 29 25 true (.BI 6 (tZ 27) (tZ 28)),Ey 30 25 3 29,Ep 31 25 30,Ey 32 25 1 2,Ep 33 25 32,HT 34 25 1,gZ 35 25 true (.BI 6 (tZ 33) (tZ 34)),Ey 36 25 3 35,Ep 37 25 36,gZ 38 25 true (.bin .eql .num (tZ 31) (tZ 37)),Ho 39 25 38])
 (.cond (tZ 39) (sr [mv 40 5,mv 4 40]
 .ret)
 .skip)))
 (rf [mv 11 5,Dw 12 11 1,mv 5 12]))))))
 (sr [mv 41 1,mv 4 41]
 .ret)))⟩
def dH:Av:=by
 have h:=rQ Tryz.f59
 conv at h=>rhs; reduce
 dsimp at h
 exact oR h
theorem eP:Bt Tryz.prog Tryz.f59=some dH:=by kernel_rfl
end Go.Ab
end
section
namespace Go.Ab
open Go Go.AE Go.Proofs
set_option maxRecDepth 100000
set_option maxHeartbeats 400000
def xC:Av:=⟨147,[(0,none)],(sr [Fo 0]
 (sr [oZ 22 (.call (.fn 19) []),mv 21 22,ex 23 21 0,ex 24 21 1,oZ 1 (.alloc [.Ai,(.int .i64 0),(.int .i64 0)]),oZ 2 (.alloc [(.int .i64 0),.Ai]),so 3 1 23,so 2 2 24]
 (sr [lw 26 2 2,Lh 27 13 26,mv 25 27,ex 28 25 0,ex 29 25 1,oZ 3 (.alloc [(.int .i64 0),.Ai,.Ai,.Ai]),so 4 3 28,mv 4 29]
 (sr [lw 31 4 3,Lh 32 16 31,mv 30 32,ex 33 30 0,ex 34 30 1,mv 5 33,mv 6 34]
 (sr [lw 36 4 3,Lh 37 9 36,mv 35 37,ex 38 35 0,ex 39 35 1,oZ 7 (.alloc [(.int .i64 0),.Ai]),so 2 7 38,mv 8 39]
 (.seq (sr [mv 40 4,Po 41 40 0,mv 42 41,Mn 43 42 6,gZ 44 42 false (.bin .neq .num (tZ 43) (kZ 0)),Ef 45 42 44,mv 46 45,Mn 47 46 8,gZ 48 46 false (.bin .neq .num (tZ 47) (kZ 0)),Ef 49 46 48,mv 50 49,Mn 51 50 5,gZ 52 50 false (.CB 1 5 [(.str [])] [(0,(.const (.str [94,32,94]))),(1,(.const (.str [124,32,94,32,94,32,124]))),(2,(.const (.str [124,32,49,32,124,32,124,32,50,32,124]))),(3,(.const (.str [118,32,118,32,124,32,124]))),(4,(.const (.str [118,32,118])))]),gZ 53 50 false (.call (.fn 17) [tZ 51,tZ 52]),gZ 54 50 false (.un .not (tZ 53)),Ef 55 50 54,mv 56 55,gZ 57 56 false (.load (some 2) (tZ 7)),gZ 58 56 false (.load (some 2) (tZ 2)),gZ 59 56 false (.call (.fn 20) [tZ 57,tZ 58]),gZ 60 56 false (.un .not (tZ 59)),Ef 61 56 60]
 (.cond (tZ 61) (sr [Fo 0]
 .ret)
 .skip))
 (sr [oZ 62 (.build [(.int .i64 0),(.int .i64 0),(.int .i64 0),(.int .i64 0),(.int .i64 0),(.bool false)] [(0,1,kZ 2),(3,1,kZ 1),(4,1,kZ 1),(5,1,bZ true)]),oZ 9 (.alloc [(.int .i64 0),(.int .i64 0),(.int .i64 0),(.int .i64 0),(.int .i64 0),(.bool false)]),so 6 9 62]
 (sr [lw 63 6 9,oZ 10 (.alloc [(.int .i64 0),(.int .i64 0),(.int .i64 0),(.int .i64 0),(.int .i64 0),(.bool false)]),so 6 10 63]
 (sr [fa 64 5 10,pZ (.store 1 (tZ 64) (bZ false))]
 (.seq (.region true [oZ 66 (.call (.fn 21) [kZ 0,kZ 1]),⟨(some 67),.load (some 6) (tZ 10),none,[0]⟩,⟨(some 68),.load (some 6) (tZ 9),none,[0]⟩,⟨(some 69),.call (.fn 21) [kZ 1,kZ 1],none,[1,2]⟩,oZ 70 (.CB 6 4 [(.int .i64 0),(.int .i64 0),(.int .i64 0),(.int .i64 0),(.int .i64 0),(.bool false)] [(0,tZ 66),(1,tZ 67),(2,tZ 68),(3,tZ 69)]),oZ 71 (.build [(.int .i64 0),.Ai] [(0,1,kZ 2),(1,1,tZ 70)]),Lh 72 13 71,mv 65 72,ex 73 65 0,ex 74 65 1,⟨(some 11),.alloc [(.int .i64 0),.Ai,.Ai,.Ai],none,[0,1,2,3,4,6]⟩,so 4 11 73,mv 12 74])
 (.seq (sr [mv 75 12,Po 76 75 0,mv 77 76,Fk 78 77 2 11,Fl 79 77 78,gZ 80 77 false (.BC (tZ 79)),gZ 81 77 false (.bin .neq .num (tZ 80) (kZ 1)),Ef 82 77 81,mv 83 82,Fk 84 83 3 11,Fl 85 83 84,gZ 86 83 false (.BC (tZ 85)),gZ 87 83 false (.bin .neq .num (tZ 86) (kZ 3)),Ef 88 83 87,mv 89 88,Fk 90 89 3 11,Fl 91 89 90,gZ 92 89 false (.BI 4 (tZ 91) (kZ 0)),gZ 93 89 false (.load (some 4) (tZ 92)),gZ 94 89 false (.build [(.int .i64 0),(.int .i64 0),(.int .i64 0),(.bool false)] [(0,1,kZ 2),(2,1,kZ 1),(3,1,bZ true)]),gZ 95 89 false (.bin .neq (.flat [.int,.int,.int,.bool]) (tZ 93) (tZ 94)),Ef 96 89 95,mv 97 96,Fk 98 97 3 11,Fl 99 97 98,gZ 100 97 false (.BI 4 (tZ 99) (kZ 1)),gZ 101 97 false (.load (some 4) (tZ 100)),gZ 102 97 false (.build [(.int .i64 0),(.int .i64 0),(.int .i64 0),(.bool false)] [(0,1,kZ 1),(1,1,kZ 1)]),gZ 103 97 false (.bin .neq (.flat [.int,.int,.int,.bool]) (tZ 101) (tZ 102)),Ef 104 97 103]
 (.cond (tZ 104) (sr [Fo 0]
 .ret)
 .skip))
 (sr [lw 106 3 1,lw 107 2 2,oZ 108 (.build [(.int .i64 0),(.bool false),(.int .i64 0)] [(0,1,kZ 2),(2,1,kZ 1)]),oZ 109 (.CB 3 1 [(.int .i64 0),(.bool false),(.int .i64 0)] [(0,tZ 108)]),oZ 110 (.build [(.int .i64 0),(.int .i64 0)] [(0,1,kZ 1),(1,1,kZ 1)]),oZ 111 (.call (.fn 22) [tZ 106,tZ 107,tZ 109,tZ 110]),mv 105 111,ex 112 105 0,ex 113 105 1,ex 114 105 2,oZ 13 (.alloc [.Ai,(.int .i64 0),(.int .i64 0)]),oZ 14 (.alloc [(.int .i64 0),.Ai]),so 3 13 112,so 2 14 113,mv 15 114]
 (sr [lw 116 3 1,lw 117 2 2,oZ 118 (.call (.fn 23) [tZ 116,tZ 117,kZ 1]),mv 115 118,ex 119 115 0,ex 120 115 1,ex 121 115 2,oZ 16 (.alloc [.Ai,(.int .i64 0),(.int .i64 0)]),oZ 17 (.alloc [(.int .i64 0),.Ai]),so 3 16 119,so 2 17 120,mv 18 121]
 (sr [lw 123 2 2,Lh 124 24 123,mv 122 124,ex 125 122 0,ex 126 122 1,mv 19 125,mv 20 126]
 (sr [mv 127 15,FD 128 127 0,mv 129 128,HT 130 129 18,gZ 131 129 true (.bin .eql .num (tZ 130) (kZ 5)),Ho 132 129 131,mv 133 132,HT 134 133 20,gZ 135 133 true (.bin .eql .num (tZ 134) (kZ 0)),Ho 136 133 135,mv 137 136,HT 138 137 19,gZ 139 137 true (.BC (tZ 138)),gZ 140 137 true (.bin .eql .num (tZ 139) (kZ 4)),Ho 141 137 140,mv 142 141,gZ 143 142 true (.load (some 2) (tZ 14)),gZ 144 142 true (.call (.fn 25) [tZ 143]),gZ 145 142 true (.bin .eql .num (tZ 144) (.const (.str [51,58,32,48,46,49,32,49,46,49,32,50,46,49,32,51,46,49]))),Ho 146 142 145,mv 0 146]
 .ret)))))))))))))))⟩
theorem gd5:GD 8 xC:=gG Tryz.func8 (by kernel_rfl) (by kernel_rfl)
def xD:Av:=by
 have h:=rQ Tryz.f13
 conv at h=>rhs; reduce
 dsimp at h
 exact oR h
theorem gd6:GD 13 xD:=gG Tryz.func13 (by kernel_rfl) (by kernel_rfl)
def xE:Av:=by
 have h:=rQ Tryz.f52
 conv at h=>rhs; reduce
 dsimp at h
 exact oR h
theorem gd9:GD 52 xE:=gG Tryz.func52 (by kernel_rfl) (by kernel_rfl)
def TG:Av:=by
 have h:=rQ Tryz.f24
 conv at h=>rhs; reduce
 dsimp at h
 exact oR h
theorem fB:GD 24 TG:=gG Tryz.func24 (by kernel_rfl) (by kernel_rfl)
def TH:Av:=⟨38,[(4,none)],(sr [bo 2 0,bo 3 1,Fo 4]
 (.seq (sr [fa 6 0 2,lo 7 6,fa 8 0 3,lo 9 8,cN 10 7 9,mv 11 10,Fk 12 11 1 2,Fl 13 11 12,gZ 14 11 false (.BC (tZ 13)),Fk 15 11 1 3,Fl 16 11 15,gZ 17 11 false (.BC (tZ 16)),gZ 18 11 false (.bin .neq .num (tZ 14) (tZ 17)),Ef 19 11 18]
 (.cond (tZ 19) (sr [Fo 4]
 .ret)
 .skip))
 (.seq (sr [mk 5 0]
 (.block 0 (.loop (.seq (sr [mv 20 5,fa 21 1 2,lo 22 21,le 23 22,cL 24 20 23]
 (.cond (tZ 24) .skip
 (.exit 0)))
 (.seq (.block 1 (.seq (.region true [fa 27 1 2,lo 28 27,mv 29 5,ix 30 6 28 29,lw 31 6 30,fa 32 1 3,lo 33 32,mv 34 5,ix 35 6 33 34,lw 36 6 35,oZ 37 (.bin .neq (.flat [.int,.int,.int,.int,.int,.bool]) (tZ 31) (tZ 36))])
 (.cond (tZ 37) (sr [Fo 4]
 .ret)
 .skip)))
 (rf [mv 25 5,Dw 26 25 1,mv 5 26]))))))
 (sr [kG 4]
 .ret))))⟩
theorem fC:GD 11 TH:=gG Tryz.func11 (by kernel_rfl) (by kernel_rfl)
def TI:Av:=by
 have h:=rQ Tryz.f19
 conv at h=>rhs; reduce
 dsimp at h
 exact oR h
theorem fD:GD 19 TI:=gG Tryz.func19 (by kernel_rfl) (by kernel_rfl)
def OV:Av:=by
 have h:=rQ Tryz.f16
 conv at h=>rhs; reduce
 dsimp at h
 exact oR h
theorem UP:Bt Tryz.prog Tryz.f16=some OV:=by kernel_rfl
theorem fE:GD 16 OV:=gG Tryz.func16 UP (by kernel_rfl)
def OW:Av:=by
 have h:=rQ Tryz.f9
 conv at h=>rhs; reduce
 dsimp at h
 exact oR h
theorem UQ:Bt Tryz.prog Tryz.f9=some OW:=by kernel_rfl
theorem fF:GD 9 OW:=gG Tryz.func9 UQ (by kernel_rfl)
def OX:Av:=by
 have h:=rQ Tryz.f17
 conv at h=>rhs; reduce
 dsimp at h
 exact oR h
theorem UR:Bt Tryz.prog Tryz.f17=some OX:=by kernel_rfl
theorem fG:GD 17 OX:=gG Tryz.func17 UR (by kernel_rfl)
def TJ:Av:=by
 have h:=rQ Tryz.f20
 conv at h=>rhs; reduce
 exact oR h
theorem fH:GD 20 TJ:=gG Tryz.func20 (by kernel_rfl) (by kernel_rfl)
def TK:Av:=by
 have h:=rQ Tryz.f21
 conv at h=>rhs; reduce
 dsimp at h
 exact oR h
theorem fI:GD 21 TK:=gG Tryz.func21 (by kernel_rfl) (by kernel_rfl)
def TL:Av:=by
 have h:=rQ Tryz.f22
 conv at h=>rhs; reduce
 dsimp at h
 exact oR h
theorem fJ:GD 22 TL:=gG Tryz.func22 (by kernel_rfl) (by kernel_rfl)
def TN:Av:=by
 have h:=rQ Tryz.f23
 conv at h=>rhs; reduce
 dsimp at h
 exact oR h
theorem fK:GD 23 TN:=gG Tryz.func23 (by kernel_rfl) (by kernel_rfl)
def TO:Av:=by
 have h:=rQ Tryz.f25
 conv at h=>rhs; reduce
 dsimp at h
 exact oR h
theorem fL:GD 25 TO:=gG Tryz.func25 (by kernel_rfl) (by kernel_rfl)
def TP:Av:=by
 have h:=rQ Tryz.f34
 conv at h=>rhs; reduce
 dsimp at h
 exact oR h
theorem fM:GD 34 TP:=gG Tryz.func34 (by kernel_rfl) (by kernel_rfl)
def OY:Av:=by
 have h:=rQ Tryz.f51
 conv at h=>rhs; reduce
 dsimp at h
 exact oR h
theorem US:Bt Tryz.prog Tryz.f51=some OY:=by kernel_rfl
theorem fN:GD 51 OY:=gG Tryz.func51 US (by kernel_rfl)
def TQ:Av:=by
 have h:=rQ Tryz.f67
 conv at h=>rhs; reduce
 dsimp at h
 exact oR h
theorem fO:GD 67 TQ:=gG Tryz.func67 (by kernel_rfl) (by kernel_rfl)
def TR:Av:=by
 have h:=rQ Tryz.f94
 conv at h=>rhs; reduce
 dsimp at h
 exact oR h
theorem fP:GD 94 TR:=gG Tryz.func94 (by kernel_rfl) (by kernel_rfl)
def TT:Av:=by
 have h:=rQ Tryz.f95
 conv at h=>rhs; reduce
 dsimp at h
 exact oR h
theorem fQ:GD 95 TT:=gG Tryz.func95 (by kernel_rfl) (by kernel_rfl)
def TU:Av:=by
 have h:=rQ Tryz.f14
 conv at h=>rhs; reduce
 dsimp at h
 exact oR h
theorem fR:GD 14 TU:=gG Tryz.func14 (by kernel_rfl) (by kernel_rfl)
def TV:Av:=by
 have h:=rQ Tryz.f40
 conv at h=>rhs; reduce
 exact oR h
theorem fS:GD 40 TV:=gG Tryz.func40 (by kernel_rfl) (by kernel_rfl)
def OZ:Av:=by
 have h:=rQ Tryz.f41
 conv at h=>rhs; reduce
 dsimp at h
 exact oR h
theorem UT:Bt Tryz.prog Tryz.f41=some OZ:=by kernel_rfl
theorem fT:GD 41 OZ:=gG Tryz.func41 UT (by kernel_rfl)
def Pa:Av:=by
 have h:=rQ Tryz.f42
 conv at h=>rhs; reduce
 dsimp at h
 exact oR h
theorem Pp:Bt Tryz.prog Tryz.f42=some Pa:=by kernel_rfl
theorem fU:GD 42 Pa:=gG Tryz.func42 Pp (by kernel_rfl)
def Pb:Av:=by
 have h:=rQ Tryz.f26
 conv at h=>rhs; reduce
 dsimp at h
 exact oR h
theorem UW:Bt Tryz.prog Tryz.f26=some Pb:=by kernel_rfl
theorem fV:GD 26 Pb:=gG Tryz.func26 UW (by kernel_rfl)
def Pc:Av:=by
 have h:=rQ Tryz.f27
 conv at h=>rhs; reduce
 dsimp at h
 exact oR h
theorem Pq:Bt Tryz.prog Tryz.f27=some Pc:=by kernel_rfl
theorem fW:GD 27 Pc:=gG Tryz.func27 Pq (by kernel_rfl)
def Pd:Av:=⟨199,[(4,(some (some 2))),(5,none)],(sr [oZ 4 (.alloc [(.int .i64 0),.Ai]),Fo 5]
 (sr [mv 23 1,oZ 24 (.build [(.int .i64 0),.Ai] [(0,1,tZ 23)]),oZ 6 (.alloc [(.int .i64 0),.Ai]),so 2 6 24]
 (sr [mv 25 0,nc 26 25,fa 27 0 26,lo 28 27,le 29 28,mv 7 29]
 (sr [mv 30 0,nc 31 30,fa 32 2 31,lo 33 32,le 34 33,oZ 35 (.Cf 1 24 [.Ai] (tZ 34) (tZ 34)),mv 8 35]
 (sr [oZ 36 (.mkMap),mv 9 36]
 (sr [mv 37 7,mv 38 0,nc 39 38,fa 40 2 39,lo 41 40,le 42 41,oZ 43 (.bin .mul .num (kZ 2) (tZ 42)),aD 44 37 43,mv 10 44]
 (sr [mk 11 0]
 (.seq (.block 0 (.loop (.block 1 (.seq (sr [mv 45 10,dG 46 45 1,mv 10 46]
 (sr [mv 47 10,eB 48 47 0]
 (.cond (tZ 48) (sr [oZ 49 (.build [(.int .i64 0),.Ai] []),so 2 4 49,Fo 5]
 .ret)
 .skip)))
 (.seq (sr [mv 50 11,mv 51 7,oZ 52 (.bin .mul .num (kZ 2) (tZ 51)),cL 53 50 52]
 (.cond (tZ 53) (.seq (.region true [fa 54 1 6,lo 55 54,mv 56 0,nc 57 56,fa 58 0 57,lo 59 58,mv 60 11,TD 61 60 2,ix 62 6 59 61,lw 63 6 62,⟨(some 64),.CB 6 1 [(.int .i64 0),(.int .i64 0),(.int .i64 0),(.int .i64 0),(.int .i64 0),(.bool false)] [(0,tZ 63)],none,[1]⟩,oZ 65 (.append 6 48 [(.int .i64 0),(.int .i64 0),(.int .i64 0),(.int .i64 0),(.int .i64 0),(.bool false)] (tZ 55) (tZ 64)),fa 66 1 6,so 1 66 65])
 (rf [mv 67 11,oZ 68 (.bin .xor .num (tZ 67) (kZ 1)),mv 11 68]))
 (sr [mv 69 11,mv 70 7,oZ 71 (.bin .mul .num (kZ 2) (tZ 70)),aS 72 69 71,TD 73 72 4,mv 74 11,mv 75 7,oZ 76 (.bin .mul .num (kZ 2) (tZ 75)),aS 77 74 76,Np 78 77 4,mv 12 73,mv 13 78]
 (.seq (sr [mv 79 9,mv 80 12,oZ 81 (.lookup .int (.int .i64 0) false (tZ 79) (tZ 80)),FD 82 81 0]
 (.cond (tZ 82) (rf [mv 83 9,mv 84 12,mv 85 9,oZ 86 (.Cs (tZ 85)),Dw 87 86 1,pZ (.BJ .int (tZ 83) (tZ 84) (tZ 87))])
 .skip))
 (.seq (.region true [mv 88 8,mv 89 12,mv 90 8,mv 91 12,ix 92 1 90 91,lo 93 92,fa 94 1 6,lo 95 94,le 96 95,mv 97 13,oZ 98 (.build [(.int .i64 0),(.int .i64 0)] [(0,1,tZ 96),(1,1,tZ 97)]),⟨(some 99),.CB 2 1 [(.int .i64 0),(.int .i64 0)] [(0,tZ 98)],none,[4,5]⟩,oZ 100 (.append 2 16 [(.int .i64 0),(.int .i64 0)] (tZ 93) (tZ 99)),ix 101 1 88 89,so 1 101 100])
 (sr [fa 102 1 6,lo 103 102,mv 104 9,mv 105 12,oZ 106 (.lookup .int (.int .i64 0) false (tZ 104) (tZ 105)),oZ 107 (.build [(.int .i64 0),(.int .i64 0),(.int .i64 0),(.int .i64 0),(.int .i64 0),(.bool false)] [(0,1,kZ 2),(3,1,tZ 106)]),oZ 108 (.CB 6 1 [(.int .i64 0),(.int .i64 0),(.int .i64 0),(.int .i64 0),(.int .i64 0),(.bool false)] [(0,tZ 107)]),oZ 109 (.append 6 48 [(.int .i64 0),(.int .i64 0),(.int .i64 0),(.int .i64 0),(.int .i64 0),(.bool false)] (tZ 103) (tZ 108)),fa 110 1 6,so 1 110 109]
 (rf [mv 111 11,mv 112 13,Dw 113 112 2,Np 114 113 4,mv 115 13,aS 116 114 115,aD 117 111 116,mv 11 117])))))))
 (.seq (sr [mv 118 0,nc 119 118,fa 120 1 119,lo 121 120,mv 122 11,ix 123 1 121 122,lo 124 123,mv 11 124]
 (sr [mv 125 11,FD 126 125 0]
 (.cond (tZ 126) (.exit 0)
 .skip)))
 (sr [mv 127 11,eB 128 127 0]
 (.cond (tZ 128) (sr [oZ 129 (.build [(.int .i64 0),.Ai] []),so 2 4 129,Fo 5]
 .ret)
 .skip))))))))
 (.seq (sr [mv 130 10,Po 131 130 0]
 (.cond (tZ 131) (sr [oZ 132 (.build [(.int .i64 0),.Ai] []),so 2 4 132,Fo 5]
 .ret)
 .skip))
 (.seq (sr [mv 133 8,le 134 133,mk 135 0]
 (.block 2 (.loop (sr [cL 136 135 134]
 (.seq (.cond (tZ 136) .skip
 (.exit 2))
 (.seq (.block 3 (sr [mv 137 135,ix 138 1 133 135,lo 139 138,mv 14 137,mv 15 139]
 (sr [mv 140 0,nc 141 140,fa 142 2 141,lo 143 142,mv 144 14,ix 145 6 143 144,lw 146 6 145,oZ 16 (.alloc [(.int .i64 0),(.int .i64 0),(.int .i64 0),(.int .i64 0),(.bool false),(.bool false)]),so 6 16 146]
 (.seq (.region true [mv 147 15,oZ 148 (.BI 2 (tZ 147) (kZ 0)),lw 149 2 148,mv 150 15,oZ 151 (.BI 2 (tZ 150) (kZ 1)),lw 152 2 151,⟨(some 17),.alloc [(.int .i64 0),(.int .i64 0)],none,[1,2,4,5]⟩,⟨(some 18),.alloc [(.int .i64 0),(.int .i64 0)],none,[1,2,4,5,6]⟩,⟨none,.store 2 (tZ 17) (tZ 149),none,[4,5]⟩,so 2 18 152])
 (.seq (sr [fa 153 1 17,lo 154 153,Np 155 154 2,FD 156 155 0,fa 157 4 16,lo 158 157,oZ 159 (.bin .neq .bool (tZ 156) (tZ 158))]
 (.cond (tZ 159) (rf [lw 160 2 18,lw 161 2 17,so 2 17 160,so 2 18 161])
 .skip))
 (sr [mk 19 (-1)]
 (.seq (sr [fa 162 1 18,lo 163 162,fa 164 1 17,lo 165 164,Dw 166 165 3,Np 167 166 4,cE 168 163 167]
 (.cond (tZ 168) (rf [mk 19 1])
 .skip))
 (sr [mv 169 15,le 170 169,mk 171 0]
 (.block 4 (.loop (sr [cL 172 171 170]
 (.seq (.cond (tZ 172) .skip
 (.exit 4))
 (.seq (.block 5 (sr [ix 173 2 169 171,lw 174 2 173,oZ 21 (.alloc [(.int .i64 0),(.int .i64 0)]),so 2 21 174]
 (sr [fa 175 1 6,lo 176 175,fa 177 0 21,lo 178 177,ix 179 6 176 178,mv 22 179]
 (.region true [mv 180 22,mv 181 22,mv 182 19,lw 183 2 21,lw 184 2 17,oZ 185 (.bin .eql (.flat [.int,.int]) (tZ 183) (tZ 184)),fa 186 5 16,lo 187 186,oZ 188 (.bin .neq .bool (tZ 185) (tZ 187)),nc 189 180,fa 190 4 189,⟨none,.store 1 (tZ 190) (tZ 182),none,[3,4,7]⟩,nc 191 181,fa 192 5 191,so 1 192 188]))))
 (rf [Dw 193 171 1,mv 171 193]))))))))))))))
 (rf [Dw 194 135 1,mv 135 194])))))))
 (.seq (.region true [lw 195 2 6,lw 196 2 6,⟨(some 197),.call (.fn 51) [tZ 196],none,[0]⟩,FD 198 197 0,so 2 4 195,mv 5 198])
 .ret)))))))))))⟩
theorem UX:Bt Tryz.prog Tryz.f28=some Pd:=by kernel_rfl
theorem fZ:GD 28 Pd:=gG Tryz.func28 UX (by kernel_rfl)
def TW:Av:=by
 have h:=rQ Tryz.f46
 conv at h=>rhs; reduce
 dsimp at h
 exact oR h
theorem gA:GD 46 TW:=gG Tryz.func46 (by kernel_rfl) (by kernel_rfl)
def TY:Av:=by
 have h:=rQ Tryz.f47
 conv at h=>rhs; reduce
 dsimp at h
 exact oR h
theorem gB:GD 47 TY:=gG Tryz.func47 (by kernel_rfl) (by kernel_rfl)
def TZ:Av:=by
 have h:=rQ Tryz.f48
 conv at h=>rhs; reduce
 dsimp at h
 exact oR h
theorem gC:GD 48 TZ:=gG Tryz.func48 (by kernel_rfl) (by kernel_rfl)
def Ua:Av:=by
 have h:=rQ Tryz.f49
 conv at h=>rhs; reduce
 dsimp at h
 exact oR h
theorem gD:GD 49 Ua:=gG Tryz.func49 (by kernel_rfl) (by kernel_rfl)
def Ub:Av:=by
 have h:=rQ Tryz.f50
 conv at h=>rhs; reduce
 dsimp at h
 exact oR h
theorem gF:GD 50 Ub:=gG Tryz.func50 (by kernel_rfl) (by kernel_rfl)
def Uc:Av:=by
 have h:=rQ Tryz.f44
 conv at h=>rhs; reduce
 exact oR h
theorem gH:GD 44 Uc:=gG Tryz.func44 (by kernel_rfl) (by kernel_rfl)
def Ud:Av:=by
 have h:=rQ Tryz.f65
 conv at h=>rhs; reduce
 dsimp at h
 exact oR h
theorem gI:GD 65 Ud:=gG Tryz.func65 (by kernel_rfl) (by kernel_rfl)
def Ue:Av:=by
 have h:=rQ Tryz.f66
 conv at h=>rhs; reduce
 dsimp at h
 exact oR h
theorem gJ:GD 66 Ue:=gG Tryz.func66 (by kernel_rfl) (by kernel_rfl)
def Uf:Av:=by
 have h:=rQ Tryz.f68
 conv at h=>rhs; reduce
 dsimp at h
 exact oR h
theorem gK:GD 68 Uf:=gG Tryz.func68 (by kernel_rfl) (by kernel_rfl)
def Ug:Av:=by
 have h:=rQ Tryz.f69
 conv at h=>rhs; reduce
 dsimp at h
 exact oR h
theorem gL:GD 69 Ug:=gG Tryz.func69 (by kernel_rfl) (by kernel_rfl)
def Uh:Av:=by
 have h:=rQ Tryz.f70
 conv at h=>rhs; reduce
 exact oR h
theorem gN:GD 70 Uh:=gG Tryz.func70 (by kernel_rfl) (by kernel_rfl)
def Pe:Av:=by
 have h:=rQ Tryz.f71
 conv at h=>rhs; reduce
 dsimp at h
 exact oR h
theorem UY:Bt Tryz.prog Tryz.f71=some Pe:=by kernel_rfl
theorem gO:GD 71 Pe:=gG Tryz.func71 UY (by kernel_rfl)
def Ui:Av:=by
 have h:=rQ Tryz.f129
 conv at h=>rhs; reduce
 dsimp at h
 exact oR h
theorem gP:GD 129 Ui:=gG Tryz.func129 (by kernel_rfl) (by kernel_rfl)
def Uj:Av:=by
 have h:=rQ Tryz.f130
 conv at h=>rhs; reduce
 dsimp at h
 exact oR h
theorem gQ:GD 130 Uj:=gG Tryz.func130 (by kernel_rfl) (by kernel_rfl)
def Uk:Av:=by
 have h:=rQ Tryz.f36
 conv at h=>rhs; reduce
 dsimp at h
 exact oR h
theorem gR:GD 36 Uk:=gG Tryz.func36 (by kernel_rfl) (by kernel_rfl)
def Ul:Av:=⟨26,[(4,none)],(sr [Fo 4]
 (.seq (sr [mv 6 0,le 7 6,mv 8 1,le 9 8,cN 10 7 9]
 (.cond (tZ 10) (sr [Fo 4]
 .ret)
 .skip))
 (.seq (sr [mv 11 0,le 12 11,mk 13 0]
 (.block 0 (.loop (sr [cL 14 13 12]
 (.seq (.cond (tZ 14) .skip
 (.exit 0))
 (.seq (.block 1 (sr [mv 15 13,mv 5 15]
 (.seq (.region true [mv 16 0,mv 17 5,ix 18 6 16 17,lw 19 6 18,mv 20 1,mv 21 5,ix 22 6 20 21,lw 23 6 22,oZ 24 (.bin .neq (.flat [.int,.int,.int,.int,.int,.bool]) (tZ 19) (tZ 23))])
 (.cond (tZ 24) (sr [Fo 4]
 .ret)
 .skip))))
 (rf [Dw 25 13 1,mv 13 25])))))))
 (sr [kG 4]
 .ret))))⟩
theorem gT:GD 37 Ul:=gG Tryz.func37 (by kernel_rfl) (by kernel_rfl)
def Um:Av:=by
 have h:=rQ Tryz.f80
 conv at h=>rhs; reduce
 dsimp at h
 exact oR h
theorem gU:GD 80 Um:=gG Tryz.func80 (by kernel_rfl) (by kernel_rfl)
def Un:Av:=by
 have h:=rQ Tryz.f73
 conv at h=>rhs; reduce
 dsimp at h
 exact oR h
theorem gV:GD 73 Un:=gG Tryz.func73 (by kernel_rfl) (by kernel_rfl)
def Pf:Av:=by
 have h:=rQ Tryz.f74
 conv at h=>rhs; reduce
 dsimp at h
 exact oR h
theorem UZ:Bt Tryz.prog Tryz.f74=some Pf:=by kernel_rfl
theorem gW:GD 74 Pf:=gG Tryz.func74 UZ (by kernel_rfl)
def Pg:Av:=by
 have h:=rQ Tryz.f53
 conv at h=>rhs; reduce
 exact oR h
theorem Va:Bt Tryz.prog Tryz.f53=some Pg:=by kernel_rfl
theorem gX:GD 53 Pg:=gG Tryz.func53 Va (by kernel_rfl)
def Ph:Av:=by
 have h:=rQ Tryz.f54
 conv at h=>rhs; reduce
 dsimp at h
 exact oR h
theorem Pr:Bt Tryz.prog Tryz.f54=some Ph:=by kernel_rfl
theorem gY:GD 54 Ph:=gG Tryz.func54 Pr (by kernel_rfl)
def Pj:Av:=by
 have h:=rQ Tryz.f32
 conv at h=>rhs; reduce
 dsimp at h
 exact oR h
theorem Vb:Bt Tryz.prog Tryz.f32=some Pj:=by kernel_rfl
theorem iA:GD 32 Pj:=gG Tryz.func32 Vb (by kernel_rfl)
def Uo:Av:=by
 have h:=rQ Tryz.f79
 conv at h=>rhs; reduce
 dsimp at h
 exact oR h
theorem iB:GD 79 Uo:=gG Tryz.func79 (by kernel_rfl) (by kernel_rfl)
def Up:Av:=by
 have h:=rQ Tryz.f81
 conv at h=>rhs; reduce
 dsimp at h
 exact oR h
theorem iC:GD 81 Up:=gG Tryz.func81 (by kernel_rfl) (by kernel_rfl)
def Uq:Av:=⟨37,[(4,none)],(sr [bo 2 0,bo 3 1,Fo 4]
 (.seq (sr [mk 5 0]
 (.block 0 (.loop (.seq (sr [mv 6 5,fa 7 1 2,lo 8 7,le 9 8,cL 10 6 9]
 (.cond (tZ 10) .skip
 (.exit 0)))
 (.seq (.block 1 (.seq (.region true [fa 13 1 2,lo 14 13,mv 15 5,ix 16 6 14 15,lw 17 6 16,fa 18 1 3,lo 19 18,mv 20 5,ix 21 6 19 20,lw 22 6 21,oZ 23 (.bin .neq (.flat [.int,.int,.int,.int,.int,.bool]) (tZ 17) (tZ 22))])
 (.cond (tZ 23) (.seq (.region true [fa 24 1 2,lo 25 24,mv 26 5,ix 27 6 25 26,lw 28 6 27,Lh 29 121 28,fa 30 1 3,⟨(some 31),.load none (tZ 30),none,[5]⟩,mv 32 5,⟨(some 33),.BI 6 (tZ 31) (tZ 32),none,[5]⟩,⟨(some 34),.load (some 6) (tZ 33),none,[5]⟩,Lh 35 121 34,XF 36 120 29 35,mv 4 36])
 .ret)
 .skip)))
 (rf [mv 11 5,Dw 12 11 1,mv 5 12]))))))
 (sr [Fo 4]
 .ret)))⟩
theorem iD:GD 82 Uq:=gG Tryz.func82 (by kernel_rfl) (by kernel_rfl)
def Ur:Av:=by
 have h:=rQ Tryz.f83
 conv at h=>rhs; reduce
 dsimp at h
 exact oR h
theorem iE:GD 83 Ur:=gG Tryz.func83 (by kernel_rfl) (by kernel_rfl)
def Us:Av:=by
 have h:=rQ Tryz.f84
 conv at h=>rhs; reduce
 dsimp at h
 exact oR h
theorem iF:GD 84 Us:=gG Tryz.func84 (by kernel_rfl) (by kernel_rfl)
def Ut:Av:=by
 have h:=rQ Tryz.f85
 conv at h=>rhs; reduce
 dsimp at h
 exact oR h
theorem iG:GD 85 Ut:=gG Tryz.func85 (by kernel_rfl) (by kernel_rfl)
def Uu:Av:=by
 have h:=rQ Tryz.f86
 conv at h=>rhs; reduce
 dsimp at h
 exact oR h
theorem iH:GD 86 Uu:=gG Tryz.func86 (by kernel_rfl) (by kernel_rfl)
def Uv:Av:=by
 have h:=rQ Tryz.f87
 conv at h=>rhs; reduce
 dsimp at h
 exact oR h
theorem iI:GD 87 Uv:=gG Tryz.func87 (by kernel_rfl) (by kernel_rfl)
def Uw:Av:=by
 have h:=rQ Tryz.f88
 conv at h=>rhs; reduce
 dsimp at h
 exact oR h
theorem iJ:GD 88 Uw:=gG Tryz.func88 (by kernel_rfl) (by kernel_rfl)
def Ux:Av:=by
 have h:=rQ Tryz.f89
 conv at h=>rhs; reduce
 dsimp at h
 exact oR h
theorem iK:GD 89 Ux:=gG Tryz.func89 (by kernel_rfl) (by kernel_rfl)
def Uy:Av:=by
 have h:=rQ Tryz.f90
 conv at h=>rhs; reduce
 exact oR h
theorem iL:GD 90 Uy:=gG Tryz.func90 (by kernel_rfl) (by kernel_rfl)
def Uz:Av:=by
 have h:=rQ Tryz.f91
 conv at h=>rhs; reduce
 dsimp at h
 exact oR h
theorem iM:GD 91 Uz:=gG Tryz.func91 (by kernel_rfl) (by kernel_rfl)
def UA:Av:=by
 have h:=rQ Tryz.f78
 conv at h=>rhs; reduce
 dsimp at h
 exact oR h
theorem iO:GD 78 UA:=gG Tryz.func78 (by kernel_rfl) (by kernel_rfl)
def UB:Av:=by
 have h:=rQ Tryz.f101
 conv at h=>rhs; reduce
 dsimp at h
 exact oR h
theorem iQ:GD 101 UB:=gG Tryz.func101 (by kernel_rfl) (by kernel_rfl)
def UC:Av:=by
 have h:=rQ Tryz.f102
 conv at h=>rhs; reduce
 dsimp at h
 exact oR h
theorem iR:GD 102 UC:=gG Tryz.func102 (by kernel_rfl) (by kernel_rfl)
def UD:Av:=by
 have h:=rQ Tryz.f103
 conv at h=>rhs; reduce
 dsimp at h
 exact oR h
theorem iS:GD 103 UD:=gG Tryz.func103 (by kernel_rfl) (by kernel_rfl)
def UE:Av:=by
 have h:=rQ Tryz.f104
 conv at h=>rhs; reduce
 dsimp at h
 exact oR h
theorem iT:GD 104 UE:=gG Tryz.func104 (by kernel_rfl) (by kernel_rfl)
def UF:Av:=by
 have h:=rQ Tryz.f105
 conv at h=>rhs; reduce
 dsimp at h
 exact oR h
theorem iU:GD 105 UF:=gG Tryz.func105 (by kernel_rfl) (by kernel_rfl)
def UG:Av:=by
 have h:=rQ Tryz.f106
 conv at h=>rhs; reduce
 dsimp at h
 exact oR h
theorem iW:GD 106 UG:=gG Tryz.func106 (by kernel_rfl) (by kernel_rfl)
end Go.Ab
end
section
namespace Go.Ab
open Go Go.AE Go.Proofs
set_option maxRecDepth 100000
set_option maxHeartbeats 400000
def Nq:Av:=by
 have h:=rQ Tryz.f107
 conv at h=>rhs; reduce
 dsimp at h
 exact oR h
theorem Z4i:GD 107 Nq:=gG Tryz.func107 (by kernel_rfl) (by kernel_rfl)
def Nr:Av:=by
 have h:=rQ Tryz.f108
 conv at h=>rhs; reduce
 dsimp at h
 exact oR h
theorem Z8y:GD 108 Nr:=gG Tryz.func108 (by kernel_rfl) (by kernel_rfl)
def Ns:Av:=by
 have h:=rQ Tryz.f109
 conv at h=>rhs; reduce
 dsimp at h
 exact oR h
theorem zk:GD 109 Ns:=gG Tryz.func109 (by kernel_rfl) (by kernel_rfl)
def GW:Av:=by
 have h:=rQ Tryz.f110
 conv at h=>rhs; reduce
 dsimp at h
 exact oR h
theorem vH:Bt Tryz.prog Tryz.f110=some GW:=by kernel_rfl
theorem Zz2:GD 110 GW:=gG Tryz.func110 vH (by kernel_rfl)
def IK:Av:=by
 have h:=rQ Tryz.f111
 conv at h=>rhs; reduce
 dsimp at h
 exact oR h
theorem vC:Bt Tryz.prog Tryz.f111=some IK:=by kernel_rfl
theorem Z3e:GD 111 IK:=gG Tryz.func111 vC (by kernel_rfl)
def IL:Av:=by
 have h:=rQ Tryz.f174
 conv at h=>rhs; reduce
 dsimp at h
 exact oR h
theorem mU:Bt Tryz.prog Tryz.f174=some IL:=by kernel_rfl
theorem Z72:GD 174 IL:=gG Tryz.func174 mU (by kernel_rfl)
def Nt:Av:=by
 have h:=rQ Tryz.f72
 conv at h=>rhs; reduce
 dsimp at h
 exact oR h
theorem Z7k:GD 72 Nt:=gG Tryz.func72 (by kernel_rfl) (by kernel_rfl)
def Nu:Av:=by
 have h:=rQ Tryz.f115
 conv at h=>rhs; reduce
 dsimp at h
 exact oR h
theorem Z7m:GD 115 Nu:=gG Tryz.func115 (by kernel_rfl) (by kernel_rfl)
def IM:Av:=by
 have h:=rQ Tryz.f116
 conv at h=>rhs; reduce
 dsimp at h
 exact oR h
theorem wN:Bt Tryz.prog Tryz.f116=some IM:=by kernel_rfl
theorem zm:GD 116 IM:=gG Tryz.func116 wN (by kernel_rfl)
def IN:Av:=by
 have h:=rQ Tryz.f58
 conv at h=>rhs; reduce
 dsimp at h
 exact oR h
theorem sH:Bt Tryz.prog Tryz.f58=some IN:=by kernel_rfl
theorem w6:GD 58 IN:=gG Tryz.func58 sH (by kernel_rfl)
def Nv:Av:=by
 have h:=rQ Tryz.f119
 conv at h=>rhs; reduce
 dsimp at h
 exact oR h
theorem Z7z:GD 119 Nv:=gG Tryz.func119 (by kernel_rfl) (by kernel_rfl)
def Nw:Av:=by
 have h:=rQ Tryz.f120
 conv at h=>rhs; reduce
 dsimp at h
 exact oR h
theorem Z5w:GD 120 Nw:=gG Tryz.func120 (by kernel_rfl) (by kernel_rfl)
def Nx:Av:=by
 have h:=rQ Tryz.f121
 conv at h=>rhs; reduce
 dsimp at h
 exact oR h
theorem Z53:GD 121 Nx:=gG Tryz.func121 (by kernel_rfl) (by kernel_rfl)
def Ny:Av:=by
 have h:=rQ Tryz.f122
 conv at h=>rhs; reduce
 dsimp at h
 exact oR h
theorem Z3o:GD 122 Ny:=gG Tryz.func122 (by kernel_rfl) (by kernel_rfl)
def Nz:Av:=by
 have h:=rQ Tryz.f123
 conv at h=>rhs; reduce
 dsimp at h
 exact oR h
theorem Z64:GD 123 Nz:=gG Tryz.func123 (by kernel_rfl) (by kernel_rfl)
def NA:Av:=by
 have h:=rQ Tryz.f124
 conv at h=>rhs; reduce
 dsimp at h
 exact oR h
theorem r9:GD 124 NA:=gG Tryz.func124 (by kernel_rfl) (by kernel_rfl)
def NB:Av:=by
 have h:=rQ Tryz.f125
 conv at h=>rhs; reduce
 dsimp at h
 exact oR h
theorem Z6f:GD 125 NB:=gG Tryz.func125 (by kernel_rfl) (by kernel_rfl)
def NC:Av:=by
 have h:=rQ Tryz.f128
 conv at h=>rhs; reduce
 dsimp at h
 exact oR h
theorem qd:GD 128 NC:=gG Tryz.func128 (by kernel_rfl) (by kernel_rfl)
def ND:Av:=by
 have h:=rQ Tryz.f134
 conv at h=>rhs; reduce
 dsimp at h
 exact oR h
theorem Z6l:GD 134 ND:=gG Tryz.func134 (by kernel_rfl) (by kernel_rfl)
def NF:Av:=by
 have h:=rQ Tryz.f135
 conv at h=>rhs; reduce
 dsimp at h
 exact oR h
theorem Zzy:GD 135 NF:=gG Tryz.func135 (by kernel_rfl) (by kernel_rfl)
def IQ:Av:=by
 have h:=rQ Tryz.f140
 conv at h=>rhs; reduce
 exact oR h
theorem wO:Bt Tryz.prog Tryz.f140=some IQ:=by kernel_rfl
theorem Z87:GD 140 IQ:=gG Tryz.func140 wO (by kernel_rfl)
def IS:Av:=by
 have h:=rQ Tryz.f141
 conv at h=>rhs; reduce
 dsimp at h
 exact oR h
theorem wG:Bt Tryz.prog Tryz.f141=some IS:=by kernel_rfl
theorem wj:GD 141 IS:=gG Tryz.func141 wG (by kernel_rfl)
def IT:Av:=by
 have h:=rQ Tryz.f142
 conv at h=>rhs; reduce
 dsimp at h
 exact oR h
theorem oJ:Bt Tryz.prog Tryz.f142=some IT:=by kernel_rfl
theorem zS:GD 142 IT:=gG Tryz.func142 oJ (by kernel_rfl)
def IU:Av:=by
 have h:=rQ Tryz.f143
 conv at h=>rhs; reduce
 dsimp at h
 exact oR h
theorem mL:Bt Tryz.prog Tryz.f143=some IU:=by kernel_rfl
theorem tw:GD 143 IU:=gG Tryz.func143 mL (by kernel_rfl)
def IV:Av:=by
 have h:=rQ Tryz.f144
 conv at h=>rhs; reduce
 dsimp at h
 exact oR h
theorem uL:Bt Tryz.prog Tryz.f144=some IV:=by kernel_rfl
theorem Z7v:GD 144 IV:=gG Tryz.func144 uL (by kernel_rfl)
def IW:Av:=by
 have h:=rQ Tryz.f189
 conv at h=>rhs; reduce
 dsimp at h
 exact oR h
theorem wD:Bt Tryz.prog Tryz.f189=some IW:=by kernel_rfl
theorem Z93:GD 189 IW:=gG Tryz.func189 wD (by kernel_rfl)
def IX:Av:=by
 have h:=rQ Tryz.f190
 conv at h=>rhs; reduce
 dsimp at h
 exact oR h
theorem rZ:Bt Tryz.prog Tryz.f190=some IX:=by kernel_rfl
theorem Z6h:GD 190 IX:=gG Tryz.func190 rZ (by kernel_rfl)
def NG:Av:=by
 have h:=rQ Tryz.f112
 conv at h=>rhs; reduce
 dsimp at h
 exact oR h
theorem yj:GD 112 NG:=gG Tryz.func112 (by kernel_rfl) (by kernel_rfl)
def NH:Av:=by
 have h:=rQ Tryz.f113
 conv at h=>rhs; reduce
 dsimp at h
 exact oR h
theorem v7:GD 113 NH:=gG Tryz.func113 (by kernel_rfl) (by kernel_rfl)
def NI:Av:=⟨30,[(4,none)],(sr [Fo 4]
 (.seq (sr [mv 6 0,le 7 6,mk 8 0]
 (.block 0 (.loop (sr [cL 9 8 7]
 (.seq (.cond (tZ 9) .skip
 (.exit 0))
 (.seq (.block 1 (sr [mv 10 8,mv 5 10]
 (.seq (.seq (.region true [mv 11 0,mv 12 5,ix 13 6 11 12,lw 14 6 13,mv 15 1,mv 16 5,ix 17 6 15 16,lw 18 6 17,oZ 19 (.bin .eql (.flat [.int,.int,.int,.int,.int,.bool]) (tZ 14) (tZ 18))])
 (.cond (tZ 19) (.exit 1)
 .skip))
 (.seq (.region true [mv 20 0,mv 21 5,ix 22 6 20 21,lw 23 6 22,mv 24 1,mv 25 5,ix 26 6 24 25,lw 27 6 26,XF 28 146 23 27,mv 4 28])
 .ret))))
 (rf [Dw 29 8 1,mv 8 29])))))))
 (sr [Fo 4]
 .ret)))⟩
theorem qv:GD 114 NI:=gG Tryz.func114 (by kernel_rfl) (by kernel_rfl)
def NJ:Av:=by
 have h:=rQ Tryz.f147
 conv at h=>rhs; reduce
 dsimp at h
 exact oR h
theorem xw:GD 147 NJ:=gG Tryz.func147 (by kernel_rfl) (by kernel_rfl)
def IY:Av:=by
 have h:=rQ Tryz.f152
 conv at h=>rhs; reduce
 dsimp at h
 exact oR h
theorem sW:Bt Tryz.prog Tryz.f152=some IY:=by kernel_rfl
theorem Z4r:GD 152 IY:=gG Tryz.func152 sW (by kernel_rfl)
def NK:Av:=⟨19,[(4,none)],(sr [bo 3 1,mk 4 0]
 (.seq (sr [mv 6 0,le 7 6,mk 8 0]
 (.block 0 (.loop (sr [cL 9 8 7]
 (.seq (.cond (tZ 9) .skip
 (.exit 0))
 (.seq (.block 1 (sr [mv 10 8,mv 5 10]
 (.seq (.region true [lw 11 3 3,mv 12 0,mv 13 5,ix 14 3 12 13,lw 15 3 14,oZ 16 (.bin .eql (.flat [.int,.bool,.int]) (tZ 11) (tZ 15))])
 (.cond (tZ 16) (sr [mv 17 5,mv 4 17]
 .ret)
 .skip))))
 (rf [Dw 18 8 1,mv 8 18])))))))
 (sr [mk 4 (-1)]
 .ret)))⟩
theorem ue:GD 155 NK:=gG Tryz.func155 (by kernel_rfl) (by kernel_rfl)
def NL:Av:=by
 have h:=rQ Tryz.f156
 conv at h=>rhs; reduce
 dsimp at h
 exact oR h
theorem yT:GD 156 NL:=gG Tryz.func156 (by kernel_rfl) (by kernel_rfl)
def NM:Av:=by
 have h:=rQ Tryz.f158
 conv at h=>rhs; reduce
 dsimp at h
 exact oR h
theorem Z31:GD 158 NM:=gG Tryz.func158 (by kernel_rfl) (by kernel_rfl)
def NO:Av:=by
 have h:=rQ Tryz.f159
 conv at h=>rhs; reduce
 dsimp at h
 exact oR h
theorem Zz8:GD 159 NO:=gG Tryz.func159 (by kernel_rfl) (by kernel_rfl)
def NP:Av:=by
 have h:=rQ Tryz.f160
 conv at h=>rhs; reduce
 dsimp at h
 exact oR h
theorem Z92:GD 160 NP:=gG Tryz.func160 (by kernel_rfl) (by kernel_rfl)
def NQ:Av:=by
 have h:=rQ Tryz.f169
 conv at h=>rhs; reduce
 dsimp at h
 exact oR h
theorem Z76:GD 169 NQ:=gG Tryz.func169 (by kernel_rfl) (by kernel_rfl)
def IZ:Av:=by
 have h:=rQ Tryz.f171
 conv at h=>rhs; reduce
 dsimp at h
 exact oR h
theorem qQ:Bt Tryz.prog Tryz.f171=some IZ:=by kernel_rfl
theorem Z5m:GD 171 IZ:=gG Tryz.func171 qQ (by kernel_rfl)
def Ja:Av:=by
 have h:=rQ Tryz.f172
 conv at h=>rhs; reduce
 dsimp at h
 exact oR h
theorem lN:Bt Tryz.prog Tryz.f172=some Ja:=by kernel_rfl
theorem zq:GD 172 Ja:=gG Tryz.func172 lN (by kernel_rfl)
def GX:Av:=by
 have h:=rQ Tryz.f173
 conv at h=>rhs; reduce
 dsimp at h
 exact oR h
theorem mK:Bt Tryz.prog Tryz.f173=some GX:=by kernel_rfl
theorem Z78:GD 173 GX:=gG Tryz.func173 mK (by kernel_rfl)
def NR:Av:=by
 have h:=rQ Tryz.f145
 conv at h=>rhs; reduce
 dsimp at h
 exact oR h
theorem Z3s:GD 145 NR:=gG Tryz.func145 (by kernel_rfl) (by kernel_rfl)
def NS:Av:=by
 have h:=rQ Tryz.f146
 conv at h=>rhs; reduce
 exact oR h
theorem Z4d:GD 146 NS:=gG Tryz.func146 (by kernel_rfl) (by kernel_rfl)
def NT:Av:=by
 have h:=rQ Tryz.f180
 conv at h=>rhs; reduce
 dsimp at h
 exact oR h
theorem ya:GD 180 NT:=gG Tryz.func180 (by kernel_rfl) (by kernel_rfl)
def Jb:Av:=by
 have h:=rQ Tryz.f188
 conv at h=>rhs; reduce
 dsimp at h
 exact oR h
theorem mE:Bt Tryz.prog Tryz.f188=some Jb:=by kernel_rfl
theorem Z8g:GD 188 Jb:=gG Tryz.func188 mE (by kernel_rfl)
def NU:Av:=by
 have h:=rQ Tryz.f193
 conv at h=>rhs; reduce
 dsimp at h
 exact oR h
theorem Z5i:GD 193 NU:=gG Tryz.func193 (by kernel_rfl) (by kernel_rfl)
def NV:Av:=by
 have h:=rQ Tryz.f195
 conv at h=>rhs; reduce
 dsimp at h
 exact oR h
theorem th:GD 195 NV:=gG Tryz.func195 (by kernel_rfl) (by kernel_rfl)
end Go.Ab
end
section
namespace Go.Ab
open Go Go.AE Go.Proofs
set_option maxRecDepth 100000
set_option maxHeartbeats 400000
def Pm:Av:=by
 have h:=rQ Tryz.f96
 conv at h=>rhs; reduce
 dsimp at h
 exact oR h
theorem xd:Bt Tryz.prog Tryz.f96=some Pm:=by kernel_rfl
end Go.Ab
end
