/- Part 20 of the proof: AeNe, AeNf, Lf, Kf0, Kf1, Lh, Lq0, Lq1, Lr, AeNg, AeMb, AeNh, AeNi. -/
import Derived.Test.YtggclbeocekgkaaGreatDoorP15
import Derived.Test.YtggclbeocekgkaaGreatDoorP19
set_option linter.all false
section
namespace Go.AE
open Go.RowKit
section
variable {P:Program} {dc:Bool} {n base i:Nat} {K:Env→Ad→Prop} {e:Env} {m:Ad}
theorem JU:V7 P dc n base [] i K e m=K e m:=propext Iff.rfl
theorem Ku(d:Option Nat)(op:AU)(un:List Nat)(r:List Af):V7 P dc n base (⟨d,op,none,un⟩ :: r) i K e m=match op with
 | .call f xs=>(match T4 n e f xs with
  | some (g,args)=>(match dc with
   | false=>SC P g args m (base+i) fun v m'=>V7 P dc n base r (i+1) K (W3 e d v) m'
   | true=>DC P g args (base+i) (Ez base i r.length) m fun v z=>V7 P dc n base r (i+1) K (W3 e d v) (m.app (Lh (base+i) z)))
  | none=>False)
 | op=>(match Y6 (base+i) (AG n e) m.get op with
  | some (v,w)=>V7 P dc n base r (i+1) K (W3 e d v) (m.app w)
  | none=>False):=by
 cases op<;>simp only[V7,Q7,GS]<;>rfl
theorem KF(d:Option Nat)(op:AU)(g:Nat×Bool)(un:List Nat)(r:List Af):V7 P dc n base (⟨d,op,some g,un⟩ :: r) i K e m=match Q7 n e (some g)with
 | some true=>(match op with
  | .call f xs=>(match T4 n e f xs with
   | some (g,args)=>(match dc with
    | false=>SC P g args m (base+i) fun v m'=>V7 P dc n base r (i+1) K (W3 e d v) m'
    | true=>DC P g args (base+i) (Ez base i r.length) m fun v z=>V7 P dc n base r (i+1) K (W3 e d v) (m.app (Lh (base+i) z)))
   | none=>False)
  | op=>(match Y6 (base+i) (AG n e) m.get op with
   | some (v,w)=>V7 P dc n base r (i+1) K (W3 e d v) (m.app w)
   | none=>False))
 | some false=>V7 P dc n base r (i+1) K (W3 e d Ag) m
 | none=>False:=by
 cases op<;>simp only[V7,GS]<;>rfl
theorem KY{keep:List Nat}{fs:List (Nat×FT)}:G9 P keep n base [] i fs K e m=K e m:=propext Iff.rfl
theorem Jo{keep:List Nat}{fs:List (Nat×FT)}(d:Option Nat)(op:AU)(un:List Nat)(r:List Af):G9 P keep n base (⟨d,op,none,un⟩ :: r) i fs K e m=match op with
 | .call f xs=>(match T4 n e f xs with
  | some (g,args)=>DC P g args (base+i) (Ez base i r.length) m fun v z=>K3 fs (.call (Li (base+i) z) (Ez base i r.length) m.next) un∧G9 P keep n base r (i+1) (N3 keep i (.call (Li (base+i) z) (Ez base i r.length) m.next) fs) K (W3 e d v) (m.app (Lh (base+i) z))
  | none=>False)
 | op=>(match Y6 (base+i) (AG n e) m.get op with
  | some (v,w)=>K3 fs (.ops (T3 (base+i) (AG n e) op) (T2 (AG n e) op)) un∧G9 P keep n base r (i+1) (N3 keep i (.ops (T3 (base+i) (AG n e) op) (T2 (AG n e) op)) fs) K (W3 e d v) (m.app w)
  | none=>False):=by
 cases op<;>simp only[G9,Q7]<;>rfl
@[simp] theorem Yeg(id : Nat) : Lh id none = [] := rfl
@[simp] theorem Ye8(id : Nat)(b : Ai) : Lh id (some b) = [(id, some b)] := rfl
@[simp] theorem Yee(id : Nat) : Li id none = [] := rfl
@[simp] theorem Yep(id : Nat)(b : Ai) : Li id (some b) = [id] := rfl
@[simp] theorem Ye9(m : Ad) : m.app [] = m := rfl
theorem Le:Kn []=[]:=rfl
theorem Kw(d:Option Nat)(op:AU)(g:Option (Nat×Bool))(un:List Nat)(r:List Af):Kn (⟨d,op,g,un⟩ :: r)=un++Kn r:=rfl
theorem Jq(d:Nat)(v:Aa):W3 e (some d) v=(d,v) :: e:=rfl
theorem KV(v:Aa):W3 e none v=e:=rfl
theorem JY(j:Nat):AG n e (.tmp j)=if j<n then e.get j else Ag:=rfl
theorem JI(v:Aa):AG n e (.const v)=v:=rfl
theorem KQ(f:FuncId):AG n e (.fn f)=.func (.func f) [] []:=rfl
def XJ(w:Bool):Aa→Option Bool
 | .bool b=>some (b == w)
 | .tuple []=>some false
 | _=>none
theorem Kg(d:Nat)(w:Bool):Q7 n e (some (d,w))=XJ w (AG n e (.tmp d)):=by
 simp only[Q7]; unfold XJ; rfl
theorem Ky(w b:Bool):XJ w (.bool b)=some (b == w):=rfl
theorem JM(w:Bool):XJ w (.tuple [])=some false:=rfl
def vo:Option Aa→Option (Aa×List (Nat×Option Ai))
 | some v=>some (v,[])
 | none=>none
theorem JS(v:Aa):vo (some v)=some (v,[]):=rfl
def wo(v:Aa):Option (List (Nat×Option Ai))→Option (Aa×List (Nat×Option Ai))
 | some d=>some (v,d)
 | none=>none
theorem Jh(v:Aa)(d:List (Nat×Option Ai)):wo v (some d)=some (v,d):=rfl
section
variable {id:Nat} {f:Ah→Aa} {get:Nat→Option Ai}
theorem Ji(x:Ah):Y6 id f get (.Fz x)=some (f x,[]):=rfl
def WN(a b:Aa):Aa→Option (Aa×List (Nat×Option Ai))
 | .bool true=>some (a,[])
 | .bool false=>some (b,[])
 | _=>none
theorem KH(a b:Aa):WN a b (.bool true)=some (a,[]):=rfl
theorem JQ(a b:Aa):WN a b (.bool false)=some (b,[]):=rfl
theorem KU(c a b:Ah):Y6 id f get (.pick c a b)=WN (f a) (f b) (f c):=by
 simp only[Y6]; unfold WN; split<;>simp_all
def P6(id:Nat):Option (List Aa)→Option (Aa×List (Nat×Option Ai))
 | some cs=>if cs.all Aa.one then some (.ptr id 0 0,[(id,some (.cells cs.length [cs]))])else none
 | none=>none
theorem Kv(cs:List Aa):P6 id (some cs)=if cs.all Aa.one then some (.ptr id 0 0,[(id,some (.cells cs.length [cs]))])else none:=rfl
theorem Kz(x:Ah):Y6 id f get (.box x)=P6 id (f x).cells:=by simp only[Y6]; unfold P6; rfl
theorem KM(z:List Aa):Y6 id f get (.alloc z)=some (.ptr id 0 0,[(id,some (.cells z.length [z]))]):=rfl
def OP:Option (List Aa)→Option (Aa×List (Nat×Option Ai))
 | some cs=>some (.agg cs,[])
 | none=>none
theorem JG(cs:List Aa):OP (some cs)=some (.agg cs,[]):=rfl
theorem Kx(z:List Aa)(ps:List (Nat×Nat×Ah)):Y6 id f get (.build z ps)=OP (J5 z (ps.map fun p=>(p.1,p.2.1,f p.2.2))):=by simp only[Y6]; unfold OP; rfl
def aQ(id k len:Nat):Option (List (List Aa))→Option (Aa×List (Nat×Option Ai))
 | some els=>some (.sl id 0 len,[(id,some (.cells k els))])
 | none=>none
theorem Jy(k len:Nat)(els:List (List Aa)):aQ id k len (some els)=some (.sl id 0 len,[(id,some (.cells k els))]):=rfl
theorem KJ(k len:Nat)(z:List Aa)(ps:List (Nat×Ah)):Y6 id f get (.CO k len z ps)=aQ id k len (I5 k (List.replicate len z) (ps.map fun p=>(p.1,f p.2))):=by simp only[Y6]; unfold aQ; rfl
theorem JJ(n:Option Nat)(x:Ah):Y6 id f get (.load n x)=vo (J3 get n (f x)):=by simp only[Y6]; unfold vo; rfl
theorem Jz(n:Nat)(a x:Ah):Y6 id f get (.store n a x)=wo Ag (F0 get n (f a) (f x)):=by simp only[Y6]; unfold wo; rfl
def Mw:Aa→Option (Aa×List (Nat×Option Ai))
 | .ptr b i j=>some (.ptr b i j,[])
 | .AW els i j=>some (.AW els i j,[])
 | .func (.func f) a b=>some (.func (.func f) a b,[])
 | _=>none
theorem KW(b i j:Nat):Mw (.ptr b i j)=some (.ptr b i j,[]):=rfl
theorem Jl(els:List (List Aa))(i j:Nat):Mw (.AW els i j)=some (.AW els i j,[]):=rfl
theorem Jp(x:Ah):Y6 id f get (.Cd x)=Mw (f x):=by simp only[Y6]; unfold Mw; split<;>simp_all
theorem Je(op:BinOp)(q:Fp)(x y:Ah):Y6 id f get (.bin op q x y)=vo (U6 op q (f x) (f y)):=by simp only[Y6]; unfold vo; rfl
theorem Kf(op:UnOp)(x:Ah):Y6 id f get (.un op x)=vo (Fo op (f x)):=by simp only[Y6]; unfold vo; rfl
theorem JB(fn:Fn)(a c:List Ah):Y6 id f get (.CW fn a c)=some (.func fn (a.map f) (c.map f),[]):=rfl
theorem JT:Y6 id f get .mkMap=some (.map id,[(id,some (.map [] 0))]):=rfl
theorem KG(off:Nat)(x:Ah):Y6 id f get (.Bw off x)=vo (G7 off (f x)):=by simp only[Y6]; unfold vo; rfl
theorem Ld(off b i j:Nat):G7 off (.ptr b i j)=some (.ptr b i (j+off)):=rfl
theorem Kq(off:Nat)(els:List (List Aa))(i j:Nat):G7 off (.AW els i j)=some (.AW els i (j+off)):=rfl
def eD(off:Nat)(n:Option Nat):Aa→Option (Aa×List (Nat×Option Ai))
 | .agg cs=>vo (D3 cs off n)
 | _=>none
theorem La(off:Nat)(n:Option Nat)(cs:List Aa):eD off n (.agg cs)=vo (D3 cs off n):=rfl
def Pd(i:Nat):Aa→Option (Aa×List (Nat×Option Ai))
 | .tuple vs=>vo vs[i]?
 | _=>none
theorem KL(i:Nat)(vs:List Aa):Pd i (.tuple vs)=vo vs[i]?:=rfl
theorem JW(x:Ah)(i:Nat):Y6 id f get (.ext x i)=Pd i (f x):=by simp only[Y6]; unfold Pd vo; rfl
def Pz:Option Nat→Option (Aa×List (Nat×Option Ai))
 | some n=>some (.int .i64 n,[])
 | none=>none
theorem JK(n:Nat):Pz (some n)=some (.int .i64 n,[]):=rfl
theorem Lb(x:Ah):Y6 id f get (.Ca x)=Pz (I4 (f x)):=by simp only[Y6]; unfold Pz; rfl
theorem Ju:I4 .Ae=some 0:=rfl
theorem Jf:I4 .emp=some 0:=rfl
theorem JN(b off len:Nat):I4 (.sl b off len)=some len:=rfl
theorem KS(els:List (List Aa)):I4 (.Aj els)=some els.length:=rfl
def Mj(get:Nat→Option Ai)(k:Nat):Aa→Option Nat→Option (Aa×List (Nat×Option Ai))
 | .sl b off len,some i=>match get b with
  | some (.cells k' _)=>if k'=k∧i<len then some (.ptr b (off+i) 0,[])else none
  | _=>none
 | .Aj els,some i=>match els[i]? with
  | some row=>if row.length=k then some (.AW els i 0,[])else none
  | none=>none
 | _,_=>none
theorem Kb(k b off len i:Nat):Mj get k (.sl b off len) (some i)=match get b with
 | some (.cells k' _)=>if k'=k∧i<len then some (.ptr b (off+i) 0,[])else none
 | _=>none:=rfl
theorem JP(k:Nat)(els:List (List Aa))(i:Nat):Mj get k (.Aj els) (some i)=match els[i]? with
 | some row=>if row.length=k then some (.AW els i 0,[])else none
 | none=>none:=rfl
theorem Ko(k:Nat)(x i:Ah):Y6 id f get (.BZ k x i)=Mj get k (f x) (P0 (f i)):=by
 simp only[Y6]; unfold Mj; rfl
theorem Km(k bytes:Nat)(z:List Aa)(x y:Ah):Y6 id f get (.Cb k bytes z x y)=match P0 (f x),P0 (f y)with
 | some l,some c=>if l≤c∧c≤T5∧bytes≤T5 then some (.sl id 0 l,[(id,some (.cells k (List.replicate c z)))])else none
 | _,_=>none:=rfl
theorem Jt(k bytes:Nat)(z:List Aa)(x y:Ah):Y6 id f get (.append k bytes z x y)=match C0 get k (f y)with
 | some xs=>L1 id k bytes get (f x) xs
 | none=>none:=rfl
theorem KR(x:Ah):Y6 id f get (.Cp x)=match f x with
 | .Av=>some (.int .i64 0,[])
 | .map b=>match get b with
  | some (.map es _)=>some (.int .i64 es.length,[])
  | _=>none
 | _=>none:=rfl
theorem JL(kt:Br)(z:Aa)(ok:Bool)(x i:Ah):Y6 id f get (.lookup kt z ok x i)=match (match f x with
 | .Av=>some []
 | .map b=>match get b with
  | some (.map es _)=>some es
  | _=>none
 | _=>none)with
 | some es=>match L3 kt (f i) es with
  | some r=>some (if ok then .tuple [match r with
   | some (_,v,_)=>v
   | none=>z,.bool r.isSome]else (match r with
   | some (_,v,_)=>v
   | none=>z),[])
  | none=>none
 | none=>none:=rfl
theorem Kp(kt:Br)(mp k v:Ah):Y6 id f get (.Bx kt mp k v)=match f mp with
 | .map b=>match get b with
  | some (.map es clock)=>match L3 kt (f k) es with
   | some (some (i,_,born))=>some (Ag,[(b,some (.map (es.set i (f k,f v,born)) clock))])
   | some none=>some (Ag,[(b,some (.map (es++[(f k,f v,clock)]) (clock+1)))])
   | none=>none
  | _=>none
 | _=>none:=rfl
theorem Tk(n k:Nat)(x i:Ah):Y6 id f get (.DW n k x i)=match P0 (f i)with
 | some i=>if i<n then vo (G7 (i*k) (f x))else none
 | none=>none:=by
 simp only[Y6]; unfold vo; rfl
theorem Lc(k:IntKind)(j:Int):P0 (.int k j)=if 0≤j then some j.toNat else none:=by simp only[P0]
end
end
@[congr] theorem Yeq{P : Program}{keep NS : List Nat}{n base base' i i' : Nat}{fs fs' : List (Nat × FT)}{ops : List Af}{K : Env → Ad → Prop}{e e' : Env}{m m' : Ad}(hk : keep = NS)(hb : base = base')(hi : i = i')(hf : fs = fs')(h : e = e')(h' : m = m') : G9 P keep n base ops i fs K e m = G9 P NS n base' ops i' fs' K e' m' := by rw [hk, hb, hi, hf, h, h']
theorem Jd{P:Program}{n n0:Nat}{Q:Exit→Env→Ad→Prop}{e:Env}{m:Ad}(c:Ah)(a b:An):Cy P n n0 (.cond c a b) Q e m=match AG n e c with
 | .bool true=>Cy P n n0 a Q e m
 | .bool false=>Cy P n n0 b Q e m
 | _=>False:=by
 rw[Z0m];unfold Ly;rfl
end Go.AE
end
section
namespace Go.AE
open Go.RowKit
variable {P:Program}
theorem W9(hm:P.follows .mixedOrders=true){f:FuncId}{fn:Func}{af:As}{args:List Aa}{m:Ad}{Post:Aa→Ad→Prop}(hf:P.funcs[f]? = some fn)(hc:AS P fn=some af){nt:Nat}{rs:List (Nat×Option (Option Nat))}{bd:An}(hd:af=⟨nt,rs,bd⟩)(hl:Nat.ble args.length nt=true)
 (h:∀ K:Aa→Ad→Prop,(∀ r sm,Post r sm→K r sm)→Cy P nt m.next bd (G4 nt rs (L8 m.next K)) (Q9 0 args []) m):AV P f args m Post:=
 by subst hd; exact sW hm hf hc hl (h Post fun _ _ h=>h)
theorem Lv(hm:P.follows .mixedOrders=true){f:FuncId}{fn:Func}{af:As}{args:List Aa}{m:Ad}{v:Aa}{M:Ad}(hf:P.funcs[f]? = some fn)(hc:AS P fn=some af){nt:Nat}{rs:List (Nat×Option (Option Nat))}{bd:An}(hd:af=⟨nt,rs,bd⟩)(hl:Nat.ble args.length nt=true)
 (h:∀ K:Aa→Ad→Prop,K v M→Cy P nt m.next bd (G4 nt rs (L8 m.next K)) (Q9 0 args []) m):AV P f args m fun r sm=>r=v∧sm=M:=
 by subst hd; exact sW hm hf hc hl (h _ ⟨rfl,rfl⟩)
theorem Z4{n0:Nat}{K:Aa→Ad→Prop}{v0 v:Aa}{m0 m:Ad}(hK:K v0 m0)(l:List (Nat×Nat))(h:Bs n0 l [(0,v0)] m0 [(0,v)] m):L8 n0 K v m:=⟨v0,m0,l,h,hK⟩
theorem R2(hm:P.follows .mixedOrders=true){f:FuncId}{fn:Func}{af:As}{args:List Aa}{v:Aa}(hf:P.funcs[f]? = some fn)(hc:AS P fn=some af){nt:Nat}{rs:List (Nat×Option (Option Nat))}{bd:An}(hd:af=⟨nt,rs,bd⟩)(hl:Nat.ble args.length nt=true)(hca:X8 args=true)
 (hv:match v with | .int _ _ | .bool _ | .str _=>True|_=>False)
 (h:∀ K:Aa→Ad→Prop,K v ⟨[],1⟩→Cy P nt 1 bd (G4 nt rs (L8 1 K)) (Q9 0 args []) ⟨[],1⟩):Al P f args v:=by
 refine xI (k:=1) hca (by cases v<;>first|exact hv.elim|rfl) ((Lv (m:=⟨[],1⟩) (M:=⟨[],1⟩) hm hf hc hd hl h).mono fun r m' hr=>?_)
 obtain⟨rfl,rfl⟩:=hr;exact xZ _ 0 _ hv
theorem E5(hm:P.follows .mixedOrders=true){f:FuncId}{fn:Func}{af:As}{args:List Aa}{v:Aa}(k:Nat)(hf:P.funcs[f]? = some fn)(hc:AS P fn=some af){nt:Nat}{rs:List (Nat×Option (Option Nat))}{bd:An}(hd:af=⟨nt,rs,bd⟩)(hl:Nat.ble args.length nt=true)(hca:X8 args=true)(Pj:v.closed=true)
 (h:∀ K:Aa→Ad→Prop,(∀ r sm,X9 sm.get k r=some v→K r sm)→Cy P nt 1 bd (G4 nt rs (L8 1 K)) (Q9 0 args []) ⟨[],1⟩):Al P f args v:=
 xI (k:=k) hca Pj (W9 (m:=⟨[],1⟩) hm hf hc hd hl h)
end Go.AE
end
section
namespace Go.Ac
open Go Go.AE Go.Proofs
set_option maxRecDepth 100000
set_option maxHeartbeats 400000
def af4:As:=⟨54,[(2,none)],(sr [bo 1 0,mk 2 0]
 (.seq (sr [fa 4 1 1,lo 5 4,le 6 5,Xs 7 6 400,mv 8 7,gZ 9 8 false (.load (some 2) (tZ 1)),gZ 10 8 false (.call (.fn 120) [tZ 9]),gZ 11 8 false (.bin .gtr .num (tZ 10) (kZ 200)),CP 12 8 11]
 (.cond (tZ 12) (sr [mk 2 7]
 .ret)
 .skip))
 (.seq (sr [fa 13 0 1,lo 14 13,qb 15 14 0,mv 16 15,Du 17 16 0 1,Ex 18 16 17,gZ 19 16 false (.bin .gtr .num (tZ 18) (kZ 40)),CP 20 16 19]
 (.cond (tZ 20) (sr [mk 2 2]
 .ret)
 .skip))
 (.seq (sr [fa 21 1 1,lo 22 21,le 23 22,Ev 24 23 0]
 (.cond (tZ 24) (sr [mk 2 0]
 .ret)
 .skip))
 (sr [lw 25 2 1,Xu 26 121 25,mv 3 26]
 (.seq (.seq (.region true [fa 27 1 1,lo 28 27,oZ 29 (.BZ 6 (tZ 28) (kZ 0)),fa 30 0 29,lo 31 30,Sa 32 31 1,mv 33 32,GU 34 33 3,gZ 35 33 false (.bin .rem .num (tZ 34) (kZ 2)),gZ 36 33 false (.bin .neq .num (tZ 35) (kZ 0)),CP 37 33 36,mv 38 37,gZ 39 38 false (.load (some 2) (tZ 1)),gZ 40 38 false (.call (.fn 122) [tZ 39]),gZ 41 38 false (.un .not (tZ 40)),CP 42 38 41,mv 43 42,gZ 44 43 false (.load (some 2) (tZ 1)),gZ 45 43 false (.call (.fn 123) [tZ 44]),gZ 46 43 false (.Ca (tZ 45)),GU 47 43 3,⟨(some 48),.load (some 2) (tZ 1),(some (43,false)),[18]⟩,gZ 49 43 false (.call (.fn 124) [tZ 48]),gZ 50 43 false (.bin .add .num (tZ 47) (tZ 49)),gZ 51 43 false (.bin .add .num (tZ 50) (kZ 2)),gZ 52 43 false (.bin .neq .num (tZ 46) (tZ 51)),CP 53 43 52])
 (.cond (tZ 53) (sr [mk 2 3]
 .ret)
 .skip))
 (sr [mk 2 0]
 .ret)))))))⟩
def af13:As:=⟨22,[(2,none)],(sr [bo 1 0,mk 2 0]
 (sr [mk 3 0]
 (.seq (sr [mk 4 0]
 (.block 0 (.loop (.seq (sr [mv 5 4,fa 6 1 1,lo 7 6,le 8 7,cL 9 5 8]
 (.cond (tZ 9) .skip
 (.exit 0)))
 (.seq (.block 1 (sr [fa 12 1 1,lo 13 12,mv 14 4,ix 15 6 13 14,fa 16 0 15,lo 17 16,Ev 18 17 2]
 (.cond (tZ 18) (rf [mv 19 3,DM 20 19 1,mv 3 20])
 .skip)))
 (rf [mv 10 4,DM 11 10 1,mv 4 11]))))))
 (sr [mv 21 3,mv 2 21]
 .ret))))⟩
def af14:As:=⟨22,[(2,none)],(sr [bo 1 0,mk 2 0]
 (sr [mk 3 0]
 (.seq (sr [mk 4 0]
 (.block 0 (.loop (.seq (sr [mv 5 4,fa 6 1 1,lo 7 6,le 8 7,cL 9 5 8]
 (.cond (tZ 9) .skip
 (.exit 0)))
 (.seq (.block 1 (sr [fa 12 1 1,lo 13 12,mv 14 4,ix 15 6 13 14,fa 16 0 15,lo 17 16,Ev 18 17 1]
 (.cond (tZ 18) (rf [mv 19 3,DM 20 19 1,mv 3 20])
 .skip)))
 (rf [mv 10 4,DM 11 10 1,mv 4 11]))))))
 (sr [mv 21 3,mv 2 21]
 .ret))))⟩
def af15:As:=⟨172,[(2,none)],(sr [bo 1 0,IU 2]
 (.seq (sr [mk 3 0]
 (.block 0 (.loop (.seq (sr [mv 9 3,fa 10 1 1,lo 11 10,le 12 11,cL 13 9 12]
 (.cond (tZ 13) .skip
 (.exit 0)))
 (.seq (.block 1 (sr [fa 16 1 1,lo 17 16,mv 18 3,ix 19 6 17 18,lw 20 6 19,oZ 4 (.alloc [(.int .i64 0),(.int .i64 0),(.int .i64 0),(.int .i64 0),(.int .i64 0),(.bool false)]),so 6 4 20]
 (sr [mk 5 0,mk 6 0]
 (.seq (sr [mk 7 0]
 (.block 2 (.loop (.seq (sr [mv 21 7,fa 22 1 1,lo 23 22,le 24 23,cL 25 21 24]
 (.cond (tZ 25) .skip
 (.exit 2)))
 (.seq (.block 3 (sr [fa 28 1 1,lo 29 28,mv 30 7,ix 31 6 29 30,lw 32 6 31,oZ 8 (.alloc [(.int .i64 0),(.int .i64 0),(.int .i64 0),(.int .i64 0),(.int .i64 0),(.bool false)]),so 6 8 32]
 (.seq (sr [fa 33 0 8,lo 34 33,fa 35 0 4,lo 36 35,cE 37 34 36,mv 38 37,Ea 39 38 1 8,DV 40 38 39,Ea 41 38 1 4,DV 42 38 41,gZ 43 38 true (.bin .eql .num (tZ 40) (tZ 42)),Gz 44 38 43,mv 45 44,Ea 46 45 2 8,DV 47 45 46,Ea 48 45 2 4,DV 49 45 48,gZ 50 45 true (.bin .eql .num (tZ 47) (tZ 49)),Gz 51 45 50]
 (.cond (tZ 51) (rf [mv 52 5,DM 53 52 1,mv 5 53])
 .skip))
 (sr [fa 54 0 8,lo 55 54,fa 56 0 4,lo 57 56,cE 58 55 57,mv 59 58,Ea 60 59 3 8,DV 61 59 60,Ea 62 59 3 4,DV 63 59 62,gZ 64 59 true (.bin .eql .num (tZ 61) (tZ 63)),Gz 65 59 64,mv 66 65,Ea 67 66 4 8,DV 68 66 67,Ea 69 66 4 4,DV 70 66 69,gZ 71 66 true (.bin .eql .num (tZ 68) (tZ 70)),Gz 72 66 71,mv 73 72,Ea 74 73 5 8,DV 75 73 74,Ea 76 73 5 4,DV 77 73 76,gZ 78 73 true (.bin .neq .bool (tZ 75) (tZ 77)),Gz 79 73 78]
 (.cond (tZ 79) (rf [mv 80 6,DM 81 80 1,mv 6 81])
 .skip)))))
 (rf [mv 26 7,DM 27 26 1,mv 7 27]))))))
 (sr [fa 82 0 4,lo 83 82]
 (.block 4 (sr [Ev 85 83 1,mv 84 85]
 (.cond (tZ 84) (.seq (.region true [fa 86 3 4,lo 87 86,Sa 88 87 0,mv 89 88,Du 90 89 4 4,Ex 91 89 90,gZ 92 89 false (.bin .neq .num (tZ 91) (kZ 0)),CP 93 89 92,mv 94 93,Du 95 94 5 4,Ex 96 94 95,CP 97 94 96,mv 98 97,Du 99 98 1 4,Ex 100 98 99,gZ 101 98 false (.bin .lss .num (tZ 100) (kZ 0)),CP 102 98 101,mv 103 102,Du 104 103 1 4,Ex 105 103 104,Du 106 103 0 1,Ex 107 103 106,gZ 108 103 false (.bin .gtr .num (tZ 105) (tZ 107)),CP 109 103 108,mv 110 109,Du 111 110 2 4,Ex 112 110 111,gZ 113 110 false (.bin .lss .num (tZ 112) (kZ 1)),CP 114 110 113,mv 115 114,Du 116 115 2 4,Ex 117 115 116,gZ 118 115 false (.load (some 2) (tZ 1)),Du 119 115 1 4,Ex 120 115 119,⟨(some 121),.call (.fn 188) [tZ 118,tZ 120],(some (115,false)),[31]⟩,gZ 122 115 false (.bin .gtr .num (tZ 117) (tZ 121)),CP 123 115 122,mv 124 123,GU 125 124 5,gZ 126 124 false (.bin .neq .num (tZ 125) (kZ 1)),CP 127 124 126])
 (.cond (tZ 127) (sr [IU 2]
 .ret)
 .skip))
 (sr [Ev 129 83 2,mv 128 129]
 (.cond (tZ 128) (.seq (.region true [fa 130 1 4,lo 131 130,Sa 132 131 0,mv 133 132,Du 134 133 2 4,Ex 135 133 134,gZ 136 133 false (.bin .neq .num (tZ 135) (kZ 0)),CP 137 133 136,mv 138 137,Du 139 138 4 4,Ex 140 138 139,gZ 141 138 false (.bin .neq .num (tZ 140) (kZ 1)),GU 142 138 141,Ea 143 142 4 4,DV 144 142 143,gZ 145 142 true (.bin .neq .num (tZ 144) (kZ (-1))),gZ 146 138 false (.pick (tZ 142) (tZ 145) (bZ false)),CP 147 138 146,mv 148 147,Du 149 148 3 4,Ex 150 148 149,gZ 151 148 false (.bin .lss .num (tZ 150) (kZ 1)),CP 152 148 151,mv 153 152,Du 154 153 3 4,Ex 155 153 154,gZ 156 153 false (.load (some 2) (tZ 1)),⟨(some 157),.call (.fn 120) [tZ 156],(some (153,false)),[25]⟩,gZ 158 153 false (.bin .quo .num (tZ 157) (kZ 2)),gZ 159 153 false (.bin .gtr .num (tZ 155) (tZ 158)),CP 160 153 159,mv 161 160,GU 162 161 6,gZ 163 161 false (.bin .neq .num (tZ 162) (kZ 1)),CP 164 161 163,mv 165 164,gZ 166 165 false (.load (some 2) (tZ 1)),Du 167 165 3 4,Ex 168 165 167,gZ 169 165 false (.call (.fn 189) [tZ 166,tZ 168]),gZ 170 165 false (.bin .neq .num (tZ 169) (kZ 2)),CP 171 165 170])
 (.cond (tZ 171) (sr [IU 2]
 .ret)
 .skip))
 (sr [IU 2]
 .ret)))))))))))
 (rf [mv 14 3,DM 15 14 1,mv 3 15]))))))
 (sr [XH 2]
 .ret)))⟩
def af16:As:=⟨52,[(2,none)],(sr [bo 1 0,UN 2]
 (sr [UN 3]
 (sr [lw 9 2 1,Xu 10 190 9,mv 4 10]
 (sr [fa 11 1 1,lo 12 11,le 13 12,oZ 14 (.bin .mul .num (kZ 2) (tZ 13)),mv 15 4,le 16 15,oZ 17 (.bin .mul .num (kZ 2) (tZ 16)),aD 18 14 17,oZ 19 (.Cb 1 1 [(.bool false)] (tZ 18) (tZ 18)),mv 5 19]
 (.seq (sr [mk 6 0]
 (.block 0 (.loop (.seq (sr [mv 20 6,mv 21 5,le 22 21,cL 23 20 22]
 (.cond (tZ 23) .skip
 (.exit 0)))
 (.seq (.block 1 (.seq (sr [mv 26 5,mv 27 6,ix 28 1 26 27,lo 29 28]
 (.cond (tZ 29) (.exit 1)
 .skip))
 (sr [UN 7]
 (.seq (sr [mv 30 6,mv 8 30]
 (.block 2 (.loop (.seq (sr [mv 31 5,mv 32 8,ix 33 1 31 32,lo 34 33,no 35 34]
 (.cond (tZ 35) .skip
 (.exit 2)))
 (.seq (.block 3 (sr [mv 40 5,mv 41 8,ix 42 1 40 41,pZ (.store 1 (tZ 42) (bZ true))]
 (rf [mv 43 7,mv 44 8,oZ 45 (.CO 1 1 [(.int .i64 0)] [(0,tZ 44)]),oZ 46 (.append 1 8 [(.int .i64 0)] (tZ 43) (tZ 45)),mv 7 46])))
 (rf [lw 36 2 1,mv 37 4,mv 38 8,P9 39 191 36 37 38,mv 8 39]))))))
 (rf [mv 47 3,mv 48 7,oZ 49 (.CO 1 1 [.Ae] [(0,tZ 48)]),oZ 50 (.append 1 24 [.Ae] (tZ 47) (tZ 49)),mv 3 50])))))
 (rf [mv 24 6,DM 25 24 1,mv 6 25]))))))
 (sr [mv 51 3,mv 2 51]
 .ret))))))⟩
def af17:As:=⟨6,[(2,none)],(sr [bo 1 0,mk 2 0]
 (sr [lw 3 2 1,Xu 4 120 3,bR 5 4 2,mv 2 5]
 .ret))⟩
def OJ:As:=by
 have h:=rQ Tryz.f96
 conv at h=>rhs; reduce
 dsimp at h
 exact oR h
theorem Uf:AS Tryz.prog Tryz.f96=some OJ:=by kernel_rfl
theorem eH:GD 96 OJ:=gG Tryz.func96 Uf (by kernel_rfl)
def af37:As:=⟨34,[(4,none)],(sr [bo 2 0,mk 4 0]
 (sr [mk 5 0]
 (.seq (sr [mk 6 0]
 (.block 0 (.loop (.seq (sr [mv 7 6,fa 8 1 2,lo 9 8,le 10 9,cL 11 7 10]
 (.cond (tZ 11) .skip
 (.exit 0)))
 (.seq (.block 1 (sr [fa 14 1 2,lo 15 14,mv 16 6,ix 17 6 15 16,fa 18 0 17,lo 19 18,Ev 20 19 1,mv 21 20,Ea 22 21 1 2,DV 23 21 22,GV 24 21 6,gZ 25 21 true (.BZ 6 (tZ 23) (tZ 24)),Ea 26 21 1 25,DV 27 21 26,GV 28 21 1,gZ 29 21 true (.bin .eql .num (tZ 27) (tZ 28)),Gz 30 21 29]
 (.cond (tZ 30) (rf [mv 31 5,DM 32 31 1,mv 5 32])
 .skip)))
 (rf [mv 12 6,DM 13 12 1,mv 6 13]))))))
 (sr [mv 33 5,mv 4 33]
 .ret))))⟩
def af38:As:=⟨34,[(4,none)],(sr [bo 2 0,mk 4 0]
 (sr [mk 5 0]
 (.seq (sr [mk 6 0]
 (.block 0 (.loop (.seq (sr [mv 7 6,fa 8 1 2,lo 9 8,le 10 9,cL 11 7 10]
 (.cond (tZ 11) .skip
 (.exit 0)))
 (.seq (.block 1 (sr [fa 14 1 2,lo 15 14,mv 16 6,ix 17 6 15 16,fa 18 0 17,lo 19 18,Ev 20 19 2,mv 21 20,Ea 22 21 1 2,DV 23 21 22,GV 24 21 6,gZ 25 21 true (.BZ 6 (tZ 23) (tZ 24)),Ea 26 21 3 25,DV 27 21 26,GV 28 21 1,gZ 29 21 true (.bin .eql .num (tZ 27) (tZ 28)),Gz 30 21 29]
 (.cond (tZ 30) (rf [mv 31 5,DM 32 31 1,mv 5 32])
 .skip)))
 (rf [mv 12 6,DM 13 12 1,mv 6 13]))))))
 (sr [mv 33 5,mv 4 33]
 .ret))))⟩
def af39:As:=⟨54,[(2,none)],(sr [bo 1 0,UN 2]
 (sr [UN 3]
 (.seq (sr [mk 4 0]
 (.block 0 (.loop (.seq (sr [mv 6 4,fa 7 1 1,lo 8 7,le 9 8,cL 10 6 9]
 (.cond (tZ 10) .skip
 (.exit 0)))
 (.seq (.block 1 (.seq (sr [fa 13 1 1,lo 14 13,mv 15 4,ix 16 6 14 15,fa 17 0 16,lo 18 17,Sa 19 18 1]
 (.cond (tZ 19) (.exit 1)
 .skip))
 (sr [mk 5 0]
 (.seq (.block 2 (.loop (.seq (.seq (.region true [mv 20 5,mv 21 3,le 22 21,cL 23 20 22,mv 24 23,Ea 25 24 1 1,DV 26 24 25,GV 27 24 3,GV 28 24 5,gZ 29 24 true (.BZ 1 (tZ 27) (tZ 28)),DV 30 24 29,gZ 31 24 true (.BZ 6 (tZ 26) (tZ 30)),gZ 32 24 true (.load (some 6) (tZ 31)),Ea 33 24 1 1,DV 34 24 33,GV 35 24 4,gZ 36 24 true (.BZ 6 (tZ 34) (tZ 35)),gZ 37 24 true (.load (some 6) (tZ 36)),gZ 38 24 true (.call (.fn 259) [tZ 32,tZ 37]),Gz 39 24 38])
 (.cond (tZ 39) .skip
 (.exit 2)))
 (.block 3 (rf [mv 40 5,DM 41 40 1,mv 5 41])))))
 (.region true [mv 42 3,mv 43 5,oZ 44 (.DU 1 (tZ 42) none (some (tZ 43)) none),oZ 45 (.append 1 8 [(.int .i64 0)] (.const .Ae) (tZ 44)),mv 46 4,⟨(some 47),.CO 1 1 [(.int .i64 0)] [(0,tZ 46)],none,[2,3]⟩,oZ 48 (.append 1 8 [(.int .i64 0)] (tZ 45) (tZ 47)),mv 49 3,mv 50 5,⟨(some 51),.DU 1 (tZ 49) (some (tZ 50)) none none,none,[3,5,6]⟩,oZ 52 (.append 1 8 [(.int .i64 0)] (tZ 48) (tZ 51)),mv 3 52])))))
 (rf [mv 11 4,DM 12 11 1,mv 4 12]))))))
 (sr [mv 53 3,mv 2 53]
 .ret))))⟩
def af40:As:=⟨114,[(6,none)],(sr [bo 3 0,mk 6 0]
 (sr [fa 17 1 3,lo 18 17,le 19 18,mv 20 1,le 21 20,mv 7 19,mv 8 21]
 (.seq (sr [mv 22 2,mv 23 7,oZ 24 (.bin .mul .num (kZ 2) (tZ 23)),cH 25 22 24]
 (.cond (tZ 25) (sr [mv 26 2,mv 27 7,oZ 28 (.bin .mul .num (kZ 2) (tZ 27)),aS 29 26 28,bR 30 29 2,mv 9 30]
 (.seq (sr [mv 31 2,bS 32 31 2,Ev 33 32 0]
 (.cond (tZ 33) (sr [mv 34 1,mv 35 9,DM 36 35 1,mv 37 8,aR 38 36 37,ix 39 1 34 38,lo 40 39,mv 10 40]
 (.seq (.region true [lw 41 2 3,mv 42 10,lw 43 2 3,mv 44 10,⟨(some 45),.call (.fn 261) [tZ 43,tZ 44],none,[0]⟩,no 46 45,P9 47 260 41 42 46,mv 6 47])
 .ret))
 .skip))
 (sr [mv 48 1,mv 49 9,ix 50 1 48 49,lo 51 50,mv 11 51]
 (.seq (.region true [lw 52 2 3,mv 53 11,lw 54 2 3,mv 55 11,⟨(some 56),.call (.fn 261) [tZ 54,tZ 55],none,[0]⟩,P9 57 260 52 53 56,mv 6 57])
 .ret))))
 .skip))
 (sr [mv 58 2,bS 59 58 2,Ev 60 59 0,mv 12 60]
 (sr [mv 61 2,bR 62 61 2,mv 13 62]
 (.seq (sr [mv 63 12]
 (.cond (tZ 63) (rf [mv 64 13,DM 65 64 1,mv 66 7,aR 67 65 66,mv 13 67])
 .skip))
 (sr [fa 68 1 3,lo 69 68,mv 70 13,ix 71 6 69 70,lw 72 6 71,oZ 14 (.alloc [(.int .i64 0),(.int .i64 0),(.int .i64 0),(.int .i64 0),(.int .i64 0),(.bool false)]),so 6 14 72]
 (.seq (sr [fa 73 0 14,lo 74 73,Ev 75 74 2]
 (.cond (tZ 75) (sr [fa 76 5 14,lo 77 76,fa 78 4 14,lo 79 78,Ev 80 79 1,oZ 81 (.bin .eql .bool (tZ 77) (tZ 80)),mv 15 81]
 (.seq (.region true [lw 82 2 3,lw 83 2 3,mv 84 13,⟨(some 85),.call (.fn 262) [tZ 83,tZ 84],none,[0]⟩,mv 86 12,mv 87 15,oZ 88 (.bin .eql .bool (tZ 86) (tZ 87)),P9 89 260 82 85 88,mv 6 89])
 .ret))
 .skip))
 (sr [mv 90 1,mv 91 13,Ue 92 263 90 91,mv 16 92]
 (.seq (sr [lw 93 2 3,mv 94 13,Ue 95 261 93 94,mv 96 12,oZ 97 (.bin .eql .bool (tZ 95) (tZ 96))]
 (.cond (tZ 97) (sr [mv 98 7,oZ 99 (.bin .mul .num (kZ 2) (tZ 98)),mv 100 16,oZ 101 (.bin .mul .num (kZ 2) (tZ 100)),aD 102 99 101,mv 6 102]
 .ret)
 .skip))
 (sr [mv 103 7,oZ 104 (.bin .mul .num (kZ 2) (tZ 103)),mv 105 16,mv 106 8,aD 107 105 106,zX 108 107 1,mv 109 8,aR 110 108 109,oZ 111 (.bin .mul .num (kZ 2) (tZ 110)),aD 112 104 111,DM 113 112 1,mv 6 113]
 .ret)))))))))))⟩
def af66:As:=⟨24,[(4,none)],(sr [bo 2 0,bo 3 1,IU 4]
 (sr [fa 5 1 2,lo 6 5,fa 7 1 3,lo 8 7,cL 9 6 8,mv 10 9,Du 11 10 1 2,Ex 12 10 11,Du 13 10 1 3,Ex 14 10 13,gZ 15 10 false (.bin .eql .num (tZ 12) (tZ 14)),GU 16 10 15,Ea 17 16 2 2,DV 18 16 17,Ea 19 16 2 3,DV 20 16 19,gZ 21 16 true (.bin .lss .num (tZ 18) (tZ 20)),gZ 22 10 false (.pick (tZ 16) (tZ 21) (bZ false)),CP 23 10 22,mv 4 23]
 .ret))⟩
def af67:As:=⟨22,[(6,none)],(sr [bo 3 0,mk 6 0]
 (sr [fa 8 1 3,lo 9 8,le 10 9,mv 7 10]
 (.seq (sr [mv 11 2]
 (.cond (tZ 11) (sr [mv 12 1,oZ 13 (.bin .mul .num (kZ 2) (tZ 12)),mv 6 13]
 .ret)
 .skip))
 (sr [mv 14 1,mv 15 7,aD 16 14 15,zX 17 16 1,mv 18 7,aR 19 17 18,oZ 20 (.bin .mul .num (kZ 2) (tZ 19)),DM 21 20 1,mv 6 21]
 .ret))))⟩
def af69:As:=⟨42,[(4,none)],(sr [bo 2 0,mk 4 0]
 (.seq (sr [mk 5 0]
 (.block 0 (.loop (.seq (sr [mv 6 5,fa 7 1 2,lo 8 7,le 9 8,cL 10 6 9]
 (.cond (tZ 10) .skip
 (.exit 0)))
 (.seq (.block 1 (.seq (.region true [mv 13 5,mv 14 1,cN 15 13 14,mv 16 15,Ea 17 16 1 2,DV 18 16 17,GV 19 16 5,gZ 20 16 true (.BZ 6 (tZ 18) (tZ 19)),Ea 21 16 0 20,DV 22 16 21,gZ 23 16 true (.bin .eql .num (tZ 22) (kZ 2)),Gz 24 16 23,mv 25 24,Ea 26 25 1 2,DV 27 25 26,GV 28 25 5,gZ 29 25 true (.BZ 6 (tZ 27) (tZ 28)),Ea 30 25 3 29,DV 31 25 30,Ea 32 25 1 2,DV 33 25 32,GV 34 25 1,gZ 35 25 true (.BZ 6 (tZ 33) (tZ 34)),Ea 36 25 3 35,DV 37 25 36,gZ 38 25 true (.bin .eql .num (tZ 31) (tZ 37)),Gz 39 25 38])
 (.cond (tZ 39) (sr [mv 40 5,mv 4 40]
 .ret)
 .skip)))
 (rf [mv 11 5,DM 12 11 1,mv 5 12]))))))
 (sr [mv 41 1,mv 4 41]
 .ret)))⟩
def af70:As:=⟨19,[(4,none)],(sr [mk 4 0]
 (.seq (sr [mk 5 0]
 (.block 0 (.loop (.seq (sr [mv 6 5,mv 7 0,le 8 7,cL 9 6 8]
 (.cond (tZ 9) .skip
 (.exit 0)))
 (.seq (.block 1 (sr [mv 12 0,mv 13 5,ix 14 1 12 13,lo 15 14,mv 16 1,cE 17 15 16]
 (.cond (tZ 17) (sr [mv 18 5,mv 4 18]
 .ret)
 .skip)))
 (rf [mv 10 5,DM 11 10 1,mv 5 11]))))))
 (sr [mk 4 (-1)]
 .ret)))⟩
end Go.Ac
end
section
namespace Go.Ac
open Go Go.AE Go.Proofs
set_option maxRecDepth 100000
set_option maxHeartbeats 400000
def Tu:As:=by
 have h:=rQ Tryz.f35
 conv at h=>rhs; reduce
 dsimp at h
 exact oR h
theorem eG:GD 35 Tu:=gG Tryz.func35 (by kernel_rfl) (by kernel_rfl)
def OK:As:=by
 have h:=rQ Tryz.f23
 conv at h=>rhs; reduce
 dsimp at h
 exact oR h
theorem Ug:AS Tryz.prog Tryz.f23=some OK:=by kernel_rfl
theorem eN:GD 23 OK:=gG Tryz.func23 Ug (by kernel_rfl)
def Tv:As:=by
 have h:=rQ Tryz.f52
 conv at h=>rhs; reduce
 dsimp at h
 exact oR h
theorem eO:GD 52 Tv:=gG Tryz.func52 (by kernel_rfl) (by kernel_rfl)
def Tw:As:=by
 have h:=rQ Tryz.f70
 conv at h=>rhs; reduce
 exact oR h
theorem eP:GD 70 Tw:=gG Tryz.func70 (by kernel_rfl) (by kernel_rfl)
def Tx:As:=by
 have h:=rQ Tryz.f66
 conv at h=>rhs; reduce
 exact oR h
theorem eS:GD 66 Tx:=gG Tryz.func66 (by kernel_rfl) (by kernel_rfl)
def OL:As:=by
 have h:=rQ Tryz.f53
 conv at h=>rhs; reduce
 dsimp at h
 exact oR h
theorem Uh:AS Tryz.prog Tryz.f53=some OL:=by kernel_rfl
theorem eU:GD 53 OL:=gG Tryz.func53 Uh (by kernel_rfl)
def af68:As:=⟨24,[(4,none)],(sr [bo 2 0,IU 4]
 (sr [mk 5 0]
 (.seq (sr [mk 6 0]
 (.block 0 (.loop (.seq (sr [mv 7 6,mv 8 1,cL 9 7 8]
 (.cond (tZ 9) .skip
 (.exit 0)))
 (.seq (.block 1 (sr [fa 12 1 2,lo 13 12,mv 14 6,ix 15 6 13 14,fa 16 0 15,lo 17 16,Ev 18 17 1]
 (.cond (tZ 18) (rf [mv 19 5,DM 20 19 1,mv 5 20])
 .skip)))
 (rf [mv 10 6,DM 11 10 1,mv 6 11]))))))
 (sr [mv 21 5,bS 22 21 2,Ev 23 22 0,mv 4 23]
 .ret))))⟩
def Ty:As:=by
 have h:=rQ Tryz.f115
 conv at h=>rhs; reduce
 dsimp at h
 exact oR h
theorem eV:GD 115 Ty:=gG Tryz.func115 (by kernel_rfl) (by kernel_rfl)
def OM:As:=by
 have h:=rQ Tryz.f65
 conv at h=>rhs; reduce
 dsimp at h
 exact oR h
theorem Ui:AS Tryz.prog Tryz.f65=some OM:=by kernel_rfl
theorem eW:GD 65 OM:=gG Tryz.func65 Ui (by kernel_rfl)
def Tz:As:=by
 have h:=rQ Tryz.f105
 conv at h=>rhs; reduce
 dsimp at h
 exact oR h
theorem eX:GD 105 Tz:=gG Tryz.func105 (by kernel_rfl) (by kernel_rfl)
end Go.Ac
end
section
namespace Go.Ac
open Go Go.AE Go.Proofs
set_option maxRecDepth 100000
set_option maxHeartbeats 400000
def Gd:As:=by
 have h:=rQ Tryz.f40
 conv at h=>rhs; reduce
 dsimp at h
 exact oR h
theorem yC:AS Tryz.prog Tryz.f40=some Gd:=by kernel_rfl
theorem Z9g:GD 40 Gd:=gG Tryz.func40 yC (by kernel_rfl)
def HC:As:=by
 have h:=rQ Tryz.f88
 conv at h=>rhs; reduce
 dsimp at h
 exact oR h
theorem nV:AS Tryz.prog Tryz.f88=some HC:=by kernel_rfl
theorem Z7i:GD 88 HC:=gG Tryz.func88 nV (by kernel_rfl)
def HD:As:=by
 have h:=rQ Tryz.f213
 conv at h=>rhs; reduce
 dsimp at h
 exact oR h
theorem vG:AS Tryz.prog Tryz.f213=some HD:=by kernel_rfl
theorem Z9q:GD 213 HD:=gG Tryz.func213 vG (by kernel_rfl)
def Nk:As:=by
 have h:=rQ Tryz.f173
 conv at h=>rhs; reduce
 dsimp at h
 exact oR h
theorem za:GD 173 Nk:=gG Tryz.func173 (by kernel_rfl) (by kernel_rfl)
def HE:As:=by
 have h:=rQ Tryz.f103
 conv at h=>rhs; reduce
 dsimp at h
 exact oR h
theorem wA:AS Tryz.prog Tryz.f103=some HE:=by kernel_rfl
theorem Z7l:GD 103 HE:=gG Tryz.func103 wA (by kernel_rfl)
def HF:As:=by
 have h:=rQ Tryz.f104
 conv at h=>rhs; reduce
 dsimp at h
 exact oR h
theorem zJ:AS Tryz.prog Tryz.f104=some HF:=by kernel_rfl
theorem Z1i:GD 104 HF:=gG Tryz.func104 zJ (by kernel_rfl)
def HG:As:=by
 have h:=rQ Tryz.f76
 conv at h=>rhs; reduce
 dsimp at h
 exact oR h
theorem qQ:AS Tryz.prog Tryz.f76=some HG:=by kernel_rfl
theorem Z22:GD 76 HG:=gG Tryz.func76 qQ (by kernel_rfl)
def Nl:As:=by
 have h:=rQ Tryz.f118
 conv at h=>rhs; reduce
 dsimp at h
 exact oR h
theorem v7:GD 118 Nl:=gG Tryz.func118 (by kernel_rfl) (by kernel_rfl)
def HH:As:=by
 have h:=rQ Tryz.f134
 conv at h=>rhs; reduce
 exact oR h
theorem mH:AS Tryz.prog Tryz.f134=some HH:=by kernel_rfl
theorem Z1q:GD 134 HH:=gG Tryz.func134 mH (by kernel_rfl)
def HI:As:=by
 have h:=rQ Tryz.f135
 conv at h=>rhs; reduce
 dsimp at h
 exact oR h
theorem vQ:AS Tryz.prog Tryz.f135=some HI:=by kernel_rfl
theorem Z88:GD 135 HI:=gG Tryz.func135 vQ (by kernel_rfl)
def HJ:As:=by
 have h:=rQ Tryz.f136
 conv at h=>rhs; reduce
 dsimp at h
 exact oR h
theorem tF:AS Tryz.prog Tryz.f136=some HJ:=by kernel_rfl
theorem Z9e:GD 136 HJ:=gG Tryz.func136 tF (by kernel_rfl)
def HK:As:=by
 have h:=rQ Tryz.f137
 conv at h=>rhs; reduce
 dsimp at h
 exact oR h
theorem xQ:AS Tryz.prog Tryz.f137=some HK:=by kernel_rfl
theorem Z49:GD 137 HK:=gG Tryz.func137 xQ (by kernel_rfl)
def HL:As:=by
 have h:=rQ Tryz.f138
 conv at h=>rhs; reduce
 dsimp at h
 exact oR h
theorem qE:AS Tryz.prog Tryz.f138=some HL:=by kernel_rfl
theorem Z54:GD 138 HL:=gG Tryz.func138 qE (by kernel_rfl)
def HM:As:=by
 have h:=rQ Tryz.f274
 conv at h=>rhs; reduce
 dsimp at h
 exact oR h
theorem oN:AS Tryz.prog Tryz.f274=some HM:=by kernel_rfl
theorem Z5y:GD 274 HM:=gG Tryz.func274 oN (by kernel_rfl)
def HN:As:=by
 have h:=rQ Tryz.f275
 conv at h=>rhs; reduce
 dsimp at h
 exact oR h
theorem nJ:AS Tryz.prog Tryz.f275=some HN:=by kernel_rfl
theorem Z0s:GD 275 HN:=gG Tryz.func275 nJ (by kernel_rfl)
def Nn:As:=by
 have h:=rQ Tryz.f241
 conv at h=>rhs; reduce
 dsimp at h
 exact oR h
theorem Zzi:GD 241 Nn:=gG Tryz.func241 (by kernel_rfl) (by kernel_rfl)
def HO:As:=⟨19,[(4,none)],(sr [bo 3 1,mk 4 0]
 (.seq (sr [mv 6 0,le 7 6,mk 8 0]
 (.block 0 (.loop (sr [cL 9 8 7]
 (.seq (.cond (tZ 9) .skip
 (.exit 0))
 (.seq (.block 1 (sr [mv 10 8,mv 5 10]
 (.seq (.region true [lw 11 3 3,mv 12 0,mv 13 5,ix 14 3 12 13,lw 15 3 14,oZ 16 (.bin .eql (.flat [.int,.bool,.int]) (tZ 11) (tZ 15))])
 (.cond (tZ 16) (sr [mv 17 5,mv 4 17]
 .ret)
 .skip))))
 (rf [DM 18 8 1,mv 8 18])))))))
 (sr [mk 4 (-1)]
 .ret)))⟩
theorem pN:AS Tryz.prog Tryz.f166=some HO:=by kernel_rfl
theorem Z6q:GD 166 HO:=gG Tryz.func166 pN (by kernel_rfl)
def HP:As:=by
 have h:=rQ Tryz.f77
 conv at h=>rhs; reduce
 dsimp at h
 exact oR h
theorem mK:AS Tryz.prog Tryz.f77=some HP:=by kernel_rfl
theorem Ydr:GD 77 HP:=gG Tryz.func77 mK (by kernel_rfl)
def HQ:As:=by
 have h:=rQ Tryz.f41
 conv at h=>rhs; reduce
 dsimp at h
 exact oR h
theorem vA:AS Tryz.prog Tryz.f41=some HQ:=by kernel_rfl
theorem Z5v:GD 41 HQ:=gG Tryz.func41 vA (by kernel_rfl)
def HR:As:=by
 have h:=rQ Tryz.f42
 conv at h=>rhs; reduce
 dsimp at h
 exact oR h
theorem oF:AS Tryz.prog Tryz.f42=some HR:=by kernel_rfl
theorem Z6x:GD 42 HR:=gG Tryz.func42 oF (by kernel_rfl)
def No:As:=by
 have h:=rQ Tryz.f187
 conv at h=>rhs; reduce
 dsimp at h
 exact oR h
theorem Z69:GD 187 No:=gG Tryz.func187 (by kernel_rfl) (by kernel_rfl)
def HS:As:=by
 have h:=rQ Tryz.f211
 conv at h=>rhs; reduce
 dsimp at h
 exact oR h
theorem uU:AS Tryz.prog Tryz.f211=some HS:=by kernel_rfl
theorem Z7e:GD 211 HS:=gG Tryz.func211 uU (by kernel_rfl)
def HT:As:=by
 have h:=rQ Tryz.f212
 conv at h=>rhs; reduce
 dsimp at h
 exact oR h
theorem zP:AS Tryz.prog Tryz.f212=some HT:=by kernel_rfl
theorem zq:GD 212 HT:=gG Tryz.func212 zP (by kernel_rfl)
def Ge:As:=by
 have h:=rQ Tryz.f15
 conv at h=>rhs; reduce
 dsimp at h
 exact oR h
theorem pT:AS Tryz.prog Tryz.f15=some Ge:=by kernel_rfl
theorem Z04:GD 15 Ge:=gG Tryz.func15 pT (by kernel_rfl)
def Np:As:=by
 have h:=rQ Tryz.f78
 conv at h=>rhs; reduce
 dsimp at h
 exact oR h
theorem Z81:GD 78 Np:=gG Tryz.func78 (by kernel_rfl) (by kernel_rfl)
def HU:As:=by
 have h:=rQ Tryz.f273
 conv at h=>rhs; reduce
 dsimp at h
 exact oR h
theorem YY:AS Tryz.prog Tryz.f273=some HU:=by kernel_rfl
theorem xd:GD 273 HU:=gG Tryz.func273 YY (by kernel_rfl)
def Nq:As:=by
 have h:=rQ Tryz.f117
 conv at h=>rhs; reduce
 dsimp at h
 exact oR h
theorem uj:GD 117 Nq:=gG Tryz.func117 (by kernel_rfl) (by kernel_rfl)
def Nr:As:=by
 have h:=rQ Tryz.f178
 conv at h=>rhs; reduce
 dsimp at h
 exact oR h
theorem Zzw:GD 178 Nr:=gG Tryz.func178 (by kernel_rfl) (by kernel_rfl)
end Go.Ac
end
section
namespace Go.Ac
open Go Go.AE Go.Proofs
set_option maxRecDepth 100000
set_option maxHeartbeats 400000
def ON:As:=by
 have h:=rQ Tryz.f147
 conv at h=>rhs; reduce
 dsimp at h
 exact oR h
theorem Uj:AS Tryz.prog Tryz.f147=some ON:=by kernel_rfl
def OO:As:=by
 have h:=rQ Tryz.f148
 conv at h=>rhs; reduce
 dsimp at h
 exact oR h
theorem Uk:AS Tryz.prog Tryz.f148=some OO:=by kernel_rfl
def HV:As:=by
 have h:=rQ Tryz.f218
 conv at h=>rhs; reduce
 dsimp at h
 exact oR h
theorem rO:AS Tryz.prog Tryz.f218=some HV:=by kernel_rfl
def HY:As:=by
 have h:=rQ Tryz.f277
 conv at h=>rhs; reduce
 dsimp at h
 exact oR h
theorem wE:AS Tryz.prog Tryz.f277=some HY:=by kernel_rfl
def HW:As:=by
 have h:=rQ Tryz.f219
 conv at h=>rhs; reduce
 dsimp at h
 exact oR h
theorem nP:AS Tryz.prog Tryz.f219=some HW:=by kernel_rfl
def HX:As:=by
 have h:=rQ Tryz.f145
 conv at h=>rhs; reduce
 dsimp at h
 exact oR h
theorem xR:AS Tryz.prog Tryz.f145=some HX:=by kernel_rfl
end Go.Ac
end
section
namespace Go.Ac
open Go Go.AE Go.Proofs
set_option maxRecDepth 100000
set_option maxHeartbeats 400000
set_option maxRecDepth 100000
def Ie:As:=by
 have h:=rQ Tryz.f245
 conv at h=>rhs; reduce
 dsimp at h
 exact oR h
theorem WR:AS Tryz.prog Tryz.f245=some Ie:=by kernel_rfl
theorem Z6y:GD 245 Ie:=gG Tryz.func245 WR (by kernel_rfl)
def OS:As:=by
 have h:=rQ Tryz.f39
 conv at h=>rhs; reduce
 dsimp at h
 exact oR h
theorem Pb:AS Tryz.prog Tryz.f39=some OS:=by kernel_rfl
theorem fE:GD 39 OS:=gG Tryz.func39 Pb (by kernel_rfl)
def Ij:As:=by
 have h:=rQ Tryz.f248
 conv at h=>rhs; reduce
 dsimp at h
 exact oR h
theorem xX:AS Tryz.prog Tryz.f248=some Ij:=by kernel_rfl
theorem zo:GD 248 Ij:=gG Tryz.func248 xX (by kernel_rfl)
def Ih:As:=by
 have h:=rQ Tryz.f247
 conv at h=>rhs; reduce
 dsimp at h
 exact oR h
theorem uM:AS Tryz.prog Tryz.f247=some Ih:=by kernel_rfl
theorem Z02:GD 247 Ih:=gG Tryz.func247 uM (by kernel_rfl)
def OU:As:=by
 have h:=rQ Tryz.f74
 conv at h=>rhs; reduce
 dsimp at h
 exact oR h
theorem Pc:AS Tryz.prog Tryz.f74=some OU:=by kernel_rfl
theorem fJ:GD 74 OU:=gG Tryz.func74 Pc (by kernel_rfl)
def Ig:As:=by
 have h:=rQ Tryz.f246
 conv at h=>rhs; reduce
 dsimp at h
 exact oR h
theorem vC:AS Tryz.prog Tryz.f246=some Ig:=by kernel_rfl
theorem wq:GD 246 Ig:=gG Tryz.func246 vC (by kernel_rfl)
def Il:As:=by
 have h:=rQ Tryz.f296
 conv at h=>rhs; reduce
 exact oR h
theorem qH:AS Tryz.prog Tryz.f296=some Il:=by kernel_rfl
theorem Z9o:GD 296 Il:=gG Tryz.func296 qH (by kernel_rfl)
def Ns:As:=by
 have h:=rQ Tryz.f176
 conv at h=>rhs; reduce
 dsimp at h
 exact oR h
theorem Z87:GD 176 Ns:=gG Tryz.func176 (by kernel_rfl) (by kernel_rfl)
def Ic:As:=by
 have h:=rQ Tryz.f174
 conv at h=>rhs; reduce
 dsimp at h
 exact oR h
theorem JH:AS Tryz.prog Tryz.f174=some Ic:=by kernel_rfl
theorem Zzf:GD 174 Ic:=gG Tryz.func174 JH (by kernel_rfl)
def Ny:As:=by
 have h:=rQ Tryz.f253
 conv at h=>rhs; reduce
 dsimp at h
 exact oR h
theorem Z0c:GD 253 Ny:=gG Tryz.func253 (by kernel_rfl) (by kernel_rfl)
def Nw:As:=by
 have h:=rQ Tryz.f251
 conv at h=>rhs; reduce
 dsimp at h
 exact oR h
theorem Z9b:GD 251 Nw:=gG Tryz.func251 (by kernel_rfl) (by kernel_rfl)
def Nt:As:=by
 have h:=rQ Tryz.f177
 conv at h=>rhs; reduce
 dsimp at h
 exact oR h
theorem Z5k:GD 177 Nt:=gG Tryz.func177 (by kernel_rfl) (by kernel_rfl)
def Nv:As:=by
 have h:=rQ Tryz.f249
 conv at h=>rhs; reduce
 dsimp at h
 exact oR h
theorem Z5x:GD 249 Nv:=gG Tryz.func249 (by kernel_rfl) (by kernel_rfl)
def Nz:As:=by
 have h:=rQ Tryz.f297
 conv at h=>rhs; reduce
 dsimp at h
 exact oR h
theorem Z4h:GD 297 Nz:=gG Tryz.func297 (by kernel_rfl) (by kernel_rfl)
def Ip:As:=by
 have h:=rQ Tryz.f99
 conv at h=>rhs; reduce
 dsimp at h
 exact oR h
theorem sX:AS Tryz.prog Tryz.f99=some Ip:=by kernel_rfl
theorem y4:GD 99 Ip:=gG Tryz.func99 sX (by kernel_rfl)
def Is:As:=by
 have h:=rQ Tryz.f154
 conv at h=>rhs; reduce
 dsimp at h
 exact oR h
theorem yI:AS Tryz.prog Tryz.f154=some Is:=by kernel_rfl
theorem Z6l:GD 154 Is:=gG Tryz.func154 yI (by kernel_rfl)
def It:As:=by
 have h:=rQ Tryz.f155
 conv at h=>rhs; reduce
 dsimp at h
 exact oR h
theorem tP:AS Tryz.prog Tryz.f155=some It:=by kernel_rfl
theorem Z8h:GD 155 It:=gG Tryz.func155 tP (by kernel_rfl)
def Iz:As:=by
 have h:=rQ Tryz.f227
 conv at h=>rhs; reduce
 exact oR h
theorem rX:AS Tryz.prog Tryz.f227=some Iz:=by kernel_rfl
theorem u7:GD 227 Iz:=gG Tryz.func227 rX (by kernel_rfl)
def NB:As:=by
 have h:=rQ Tryz.f156
 conv at h=>rhs; reduce
 dsimp at h
 exact oR h
theorem Z9t:GD 156 NB:=gG Tryz.func156 (by kernel_rfl) (by kernel_rfl)
def NC:As:=by
 have h:=rQ Tryz.f157
 conv at h=>rhs; reduce
 dsimp at h
 exact oR h
theorem Z2o:GD 157 NC:=gG Tryz.func157 (by kernel_rfl) (by kernel_rfl)
def NJ:As:=by
 have h:=rQ Tryz.f233
 conv at h=>rhs; reduce
 dsimp at h
 exact oR h
theorem Z3q:GD 233 NJ:=gG Tryz.func233 (by kernel_rfl) (by kernel_rfl)
def NN:As:=by
 have h:=rQ Tryz.f290
 conv at h=>rhs; reduce
 dsimp at h
 exact oR h
theorem Z3n:GD 290 NN:=gG Tryz.func290 (by kernel_rfl) (by kernel_rfl)
def Io:As:=by
 have h:=rQ Tryz.f64
 conv at h=>rhs; reduce
 dsimp at h
 exact oR h
theorem ZB:AS Tryz.prog Tryz.f64=some Io:=by kernel_rfl
theorem Yde:GD 64 Io:=gG Tryz.func64 ZB (by kernel_rfl)
def Ix:As:=by
 have h:=rQ Tryz.f225
 conv at h=>rhs; reduce
 dsimp at h
 exact oR h
theorem yN:AS Tryz.prog Tryz.f225=some Ix:=by kernel_rfl
theorem Z40:GD 225 Ix:=gG Tryz.func225 yN (by kernel_rfl)
def Ir:As:=by
 have h:=rQ Tryz.f102
 conv at h=>rhs; reduce
 dsimp at h
 exact oR h
theorem XU:AS Tryz.prog Tryz.f102=some Ir:=by kernel_rfl
theorem Z18:GD 102 Ir:=gG Tryz.func102 XU (by kernel_rfl)
def Iw:As:=by
 have h:=rQ Tryz.f165
 conv at h=>rhs; reduce
 dsimp at h
 exact oR h
theorem sZ:AS Tryz.prog Tryz.f165=some Iw:=by kernel_rfl
theorem Z4w:GD 165 Iw:=gG Tryz.func165 sZ (by kernel_rfl)
def ND:As:=by
 have h:=rQ Tryz.f159
 conv at h=>rhs; reduce
 dsimp at h
 exact oR h
theorem Z6b:GD 159 ND:=gG Tryz.func159 (by kernel_rfl) (by kernel_rfl)
def NI:As:=by
 have h:=rQ Tryz.f232
 conv at h=>rhs; reduce
 dsimp at h
 exact oR h
theorem Z6i:GD 232 NI:=gG Tryz.func232 (by kernel_rfl) (by kernel_rfl)
def Iu:As:=by
 have h:=rQ Tryz.f163
 conv at h=>rhs; reduce
 dsimp at h
 exact oR h
theorem zV:AS Tryz.prog Tryz.f163=some Iu:=by kernel_rfl
theorem Z5t:GD 163 Iu:=gG Tryz.func163 zV (by kernel_rfl)
def NK:As:=by
 have h:=rQ Tryz.f235
 conv at h=>rhs; reduce
 dsimp at h
 exact oR h
theorem Z5a:GD 235 NK:=gG Tryz.func235 (by kernel_rfl) (by kernel_rfl)
def TQ:As:=by
 have h:=rQ Tryz.f113
 conv at h=>rhs; reduce
 dsimp at h
 exact oR h
theorem fS:GD 113 TQ:=gG Tryz.func113 (by kernel_rfl) (by kernel_rfl)
def TO:As:=by
 have h:=rQ Tryz.f112
 conv at h=>rhs; reduce
 dsimp at h
 exact oR h
theorem fR:GD 112 TO:=gG Tryz.func112 (by kernel_rfl) (by kernel_rfl)
def TN:As:=by
 have h:=rQ Tryz.f111
 conv at h=>rhs; reduce
 dsimp at h
 exact oR h
theorem fQ:GD 111 TN:=gG Tryz.func111 (by kernel_rfl) (by kernel_rfl)
def TX:As:=by
 have h:=rQ Tryz.f172
 conv at h=>rhs; reduce
 exact oR h
theorem gF:GD 172 TX:=gG Tryz.func172 (by kernel_rfl) (by kernel_rfl)
end Go.Ac
end
section
namespace Go.Ac
open Go Go.AE Go.Proofs
set_option maxRecDepth 100000
set_option maxHeartbeats 400000
set_option maxRecDepth 100000
def TL:As:=by
 have h:=rQ Tryz.f110
 conv at h=>rhs; reduce
 dsimp at h
 exact oR h
theorem fP:GD 110 TL:=gG Tryz.func110 (by kernel_rfl) (by kernel_rfl)
def TV:As:=by
 have h:=rQ Tryz.f170
 conv at h=>rhs; reduce
 exact oR h
theorem gC:GD 170 TV:=gG Tryz.func170 (by kernel_rfl) (by kernel_rfl)
def zY:As:=⟨126,[(0,none)],(sr [IU 0]
 (sr [oZ 15 (.call (.fn 33) [kZ 1]),mv 14 15,ex 16 14 0,ex 17 14 1,oZ 1 (.alloc [.Ae,(.int .i64 0),(.int .i64 0)]),so 3 1 16,mv 2 17]
 (sr [lw 19 3 1,oZ 20 (.CO 1 4 [(.int .i64 0)] [(0,kZ 1),(1,kZ 5),(2,kZ 6),(3,kZ 10)]),Ue 21 34 19 20,mv 18 21,ex 22 18 0,ex 23 18 1,oZ 3 (.alloc [(.int .i64 0),.Ae]),so 2 3 22,mv 4 23]
 (sr [lw 25 3 1,oZ 26 (.CO 1 2 [(.int .i64 0)] [(0,kZ 1),(1,kZ 10)]),Ue 27 34 25 26,mv 24 27,ex 28 24 0,ex 29 24 1,oZ 5 (.alloc [(.int .i64 0),.Ae]),so 2 5 28,mv 6 29]
 (.seq (sr [mv 30 2,Sa 31 30 0,mv 32 31,GU 33 32 4,gZ 34 32 false (.bin .neq .num (tZ 33) (kZ 0)),CP 35 32 34,mv 36 35,GU 37 36 6,gZ 38 36 false (.bin .neq .num (tZ 37) (kZ 0)),CP 39 36 38,mv 40 39,gZ 41 40 false (.load (some 2) (tZ 3)),gZ 42 40 false (.call (.fn 35) [tZ 41]),gZ 43 40 false (.bin .neq .num (tZ 42) (.const (.str [49,48,58,32,48,46,49,32,49,46,49,32,52,46,49,32,53,46,49,32,53,46,50,32,54,46,49,32,57,46,49,32,49,48,46,49]))),CP 44 40 43]
 (.cond (tZ 44) (sr [IU 0]
 .ret)
 .skip))
 (sr [lw 46 3 1,lw 47 2 3,oZ 48 (.build [(.int .i64 0),(.int .i64 0),(.bool false),(.int .i64 0)] [(0,1,kZ 5)]),oZ 49 (.build [(.int .i64 0),(.int .i64 0),(.int .i64 0),(.int .i64 0),(.bool false),(.int .i64 0),.Ae,(.bool false)] [(0,1,kZ 3),(1,1,kZ 3),(2,4,tZ 48)]),P9 50 12 46 47 49,mv 45 50,ex 51 45 0,ex 52 45 1,ex 53 45 2,oZ 7 (.alloc [(.int .i64 0),.Ae]),so 2 7 51,mv 8 52,mv 2 53]
 (sr [lw 55 3 1,lw 56 2 5,oZ 57 (.build [(.int .i64 0),(.int .i64 0),(.int .i64 0),(.int .i64 0),(.bool false),(.int .i64 0),.Ae,(.bool false)] [(0,1,kZ 4),(1,1,kZ 1),(7,1,bZ true)]),P9 58 12 55 56 57,mv 54 58,ex 59 54 0,ex 60 54 1,ex 61 54 2,oZ 9 (.alloc [(.int .i64 0),.Ae]),so 2 9 59,mv 10 60,mv 4 61]
 (sr [lw 63 3 1,lw 64 2 5,oZ 65 (.build [(.int .i64 0),(.int .i64 0),(.int .i64 0),(.int .i64 0),(.bool false),(.int .i64 0),.Ae,(.bool false)] [(0,1,kZ 1),(1,1,kZ 10)]),oZ 66 (.build [(.int .i64 0),(.int .i64 0),(.int .i64 0),(.int .i64 0),(.bool false),(.int .i64 0),.Ae,(.bool false)] [(0,1,kZ 1),(1,1,kZ 1)]),oZ 67 (.CO 8 2 [(.int .i64 0),(.int .i64 0),(.int .i64 0),(.int .i64 0),(.bool false),(.int .i64 0),.Ae,(.bool false)] [(0,tZ 65),(1,tZ 66)]),P9 68 22 63 64 67,mv 62 68,ex 69 62 0,ex 70 62 1,ex 71 62 2,oZ 11 (.alloc [(.int .i64 0),.Ae]),so 2 11 69,mv 12 70,mv 6 71]
 (.seq (sr [mv 72 2,Sa 73 72 0,mv 74 73,GU 75 74 4,gZ 76 74 false (.bin .neq .num (tZ 75) (kZ 0)),CP 77 74 76,mv 78 77,GU 79 78 6,gZ 80 78 false (.bin .neq .num (tZ 79) (kZ 0)),CP 81 78 80,mv 82 81,GU 83 82 12,gZ 84 82 false (.bin .neq .num (tZ 83) (kZ 2)),CP 85 82 84,mv 86 85,Du 87 86 1 11,Ex 88 86 87,gZ 89 86 false (.Ca (tZ 88)),gZ 90 86 false (.bin .neq .num (tZ 89) (kZ 0)),CP 91 86 90]
 (.cond (tZ 91) (sr [IU 0]
 .ret)
 .skip))
 (.seq (sr [lw 92 2 7,Xu 93 35 92,oZ 94 (.bin .neq .num (tZ 93) (.const (.str [49,48,58,32,48,46,49,32,49,46,49,32,50,46,49,32,51,46,49,32,52,46,49,32,53,46,49,32,53,46,50,32,54,46,49,32,57,46,49,32,49,48,46,49]))),mv 95 94,gZ 96 95 false (.load (some 2) (tZ 9)),gZ 97 95 false (.call (.fn 35) [tZ 96]),gZ 98 95 false (.bin .neq .num (tZ 97) (.const (.str [49,48,58,32,49,46,49,32,48,46,49,32,49,117,43,32,57,46,49,32,49,48,46,49,32,49,111,43]))),CP 99 95 98]
 (.cond (tZ 99) (sr [IU 0]
 .ret)
 .skip))
 (sr [lw 101 3 1,lw 102 2 3,oZ 103 (.build [(.int .i64 0),(.int .i64 0),(.bool false),(.int .i64 0)] [(0,1,kZ 5)]),oZ 104 (.call (.fn 36) [tZ 101,tZ 102,kZ 9,tZ 103]),mv 100 104,ex 105 100 0,ex 106 100 1,mv 13 105,mv 2 106]
 (sr [mv 107 2,Ev 108 107 0,mv 109 108,GV 110 109 13,gZ 111 109 true (.Ca (tZ 110)),gZ 112 109 true (.bin .eql .num (tZ 111) (kZ 1)),Gz 113 109 112,mv 114 113,GV 115 114 13,gZ 116 114 true (.BZ 4 (tZ 115) (kZ 0)),gZ 117 114 true (.load (some 4) (tZ 116)),gZ 118 114 true (.build [(.int .i64 0),(.int .i64 0),(.bool false),(.int .i64 0)] [(0,1,kZ 6),(1,1,kZ 1)]),gZ 119 114 true (.bin .eql (.flat [.int,.int,.bool,.int]) (tZ 117) (tZ 118)),Gz 120 114 119,mv 121 120,gZ 122 121 true (.build [(.int .i64 0),(.bool false),(.int .i64 0)] [(0,1,kZ 2),(1,1,bZ true),(2,1,kZ 5)]),gZ 123 121 true (.call (.fn 37) [tZ 122]),gZ 124 121 true (.bin .eql .num (tZ 123) (.const (.str [50,82,53]))),Gz 125 121 124,mv 0 125]
 .ret))))))))))))⟩
theorem gq8:GD 11 zY:=gG Tryz.func11 (by kernel_rfl) (by kernel_rfl)
def Ii:As:=by
 have h:=rQ Tryz.f13
 conv at h=>rhs; reduce
 dsimp at h
 exact oR h
theorem wC:AS Tryz.prog Tryz.f13=some Ii:=by kernel_rfl
theorem vr:GD 13 Ii:=gG Tryz.func13 wC (by kernel_rfl)
def OQ:As:=by
 have h:=rQ Tryz.f12
 conv at h=>rhs; reduce
 dsimp at h
 exact oR h
theorem Ul:AS Tryz.prog Tryz.f12=some OQ:=by kernel_rfl
theorem fB:GD 12 OQ:=gG Tryz.func12 Ul (by kernel_rfl)
def TB:As:=by
 have h:=rQ Tryz.f34
 conv at h=>rhs; reduce
 dsimp at h
 exact oR h
theorem eZ:GD 34 TB:=gG Tryz.func34 (by kernel_rfl) (by kernel_rfl)
def TA:As:=by
 have h:=rQ Tryz.f37
 conv at h=>rhs; reduce
 dsimp at h
 exact oR h
theorem eY:GD 37 TA:=gG Tryz.func37 (by kernel_rfl) (by kernel_rfl)
def TD:As:=by
 have h:=rQ Tryz.f36
 conv at h=>rhs; reduce
 dsimp at h
 exact oR h
theorem fC:GD 36 TD:=gG Tryz.func36 (by kernel_rfl) (by kernel_rfl)
def TC:As:=by
 have h:=rQ Tryz.f22
 conv at h=>rhs; reduce
 dsimp at h
 exact oR h
theorem fA:GD 22 TC:=gG Tryz.func22 (by kernel_rfl) (by kernel_rfl)
def zZ:As:=by
 have h:=rQ Tryz.f33
 conv at h=>rhs; reduce
 dsimp at h
 exact oR h
theorem gq9:GD 33 zZ:=gG Tryz.func33 (by kernel_rfl) (by kernel_rfl)
def TJ:As:=by
 have h:=rQ Tryz.f108
 conv at h=>rhs; reduce
 exact oR h
theorem fN:GD 108 TJ:=gG Tryz.func108 (by kernel_rfl) (by kernel_rfl)
def OR:As:=by
 have h:=rQ Tryz.f38
 conv at h=>rhs; reduce
 dsimp at h
 exact oR h
theorem Um:AS Tryz.prog Tryz.f38=some OR:=by kernel_rfl
theorem fD:GD 38 OR:=gG Tryz.func38 Um (by kernel_rfl)
def TT:As:=by
 have h:=rQ Tryz.f168
 conv at h=>rhs; reduce
 dsimp at h
 exact oR h
theorem fW:GD 168 TT:=gG Tryz.func168 (by kernel_rfl) (by kernel_rfl)
def TR:As:=by
 have h:=rQ Tryz.f114
 conv at h=>rhs; reduce
 dsimp at h
 exact oR h
theorem fT:GD 114 TR:=gG Tryz.func114 (by kernel_rfl) (by kernel_rfl)
def TG:As:=by
 have h:=rQ Tryz.f68
 conv at h=>rhs; reduce
 dsimp at h
 exact oR h
theorem fG:GD 68 TG:=gG Tryz.func68 (by kernel_rfl) (by kernel_rfl)
def OW:As:=by
 have h:=rQ Tryz.f116
 conv at h=>rhs; reduce
 dsimp at h
 exact oR h
theorem Uq:AS Tryz.prog Tryz.f116=some OW:=by kernel_rfl
theorem fU:GD 116 OW:=gG Tryz.func116 Uq (by kernel_rfl)
def OX:As:=by
 have h:=rQ Tryz.f167
 conv at h=>rhs; reduce
 dsimp at h
 exact oR h
theorem Ur:AS Tryz.prog Tryz.f167=some OX:=by kernel_rfl
theorem fV:GD 167 OX:=gG Tryz.func167 Ur (by kernel_rfl)
def TF:As:=by
 have h:=rQ Tryz.f67
 conv at h=>rhs; reduce
 dsimp at h
 exact oR h
theorem fF:GD 67 TF:=gG Tryz.func67 (by kernel_rfl) (by kernel_rfl)
def TK:As:=by
 have h:=rQ Tryz.f109
 conv at h=>rhs; reduce
 dsimp at h
 exact oR h
theorem fO:GD 109 TK:=gG Tryz.func109 (by kernel_rfl) (by kernel_rfl)
def TH:As:=by
 have h:=rQ Tryz.f106
 conv at h=>rhs; reduce
 dsimp at h
 exact oR h
theorem fL:GD 106 TH:=gG Tryz.func106 (by kernel_rfl) (by kernel_rfl)
def EV:As:=by
 have h:=rQ Tryz.f69
 conv at h=>rhs; reduce
 dsimp at h
 exact oR h
theorem Un:AS Tryz.prog Tryz.f69=some EV:=by kernel_rfl
theorem fH:GD 69 EV:=gG Tryz.func69 Un (by kernel_rfl)
def TI:As:=by
 have h:=rQ Tryz.f107
 conv at h=>rhs; reduce
 dsimp at h
 exact oR h
theorem fM:GD 107 TI:=gG Tryz.func107 (by kernel_rfl) (by kernel_rfl)
def OT:As:=⟨120,[(4,none)],(sr [bo 2 0,bo 3 1,IU 4]
 (sr [fa 8 0 2,lo 9 8,le 10 9,mv 5 10]
 (.seq (sr [fa 11 1 3,lo 12 11,qb 13 12 1,mv 14 13,Du 15 14 1 3,Ex 16 14 15,GU 17 14 5,gZ 18 14 false (.bin .gtr .num (tZ 16) (tZ 17)),CP 19 14 18]
 (.cond (tZ 19) (sr [XH 4]
 .ret)
 .skip))
 (.seq (sr [fa 20 6 3,lo 21 20,le 22 21,mk 23 0]
 (.block 0 (.loop (sr [cL 24 23 22]
 (.seq (.cond (tZ 24) .skip
 (.exit 0))
 (.seq (.block 1 (sr [ix 25 5 21 23,lw 26 5 25,oZ 7 (.alloc [(.int .i64 0),(.int .i64 0),(.bool false),(.int .i64 0),(.bool false)]),so 5 7 26]
 (sr [lw 27 3 2,fa 28 0 7,lw 29 4 28,Ue 30 67 27 29,no 31 30]
 (.cond (tZ 31) (sr [XH 4]
 .ret)
 .skip))))
 (rf [DM 32 23 1,mv 23 32])))))))
 (.seq (sr [fa 33 0 3,lo 34 33]
 (.block 2 (.seq (sr [Ev 36 34 1,mv 35 36]
 (.cond (tZ 35) .skip
 (sr [Ev 37 34 2,mv 35 37]
 (.cond (tZ 35) .skip
 (rf [Ev 38 34 8,mv 35 38])))))
 (.cond (tZ 35) (sr [fa 39 7 3,lo 40 39,mv 41 40,Du 42 41 6 3,Ex 43 41 42,gZ 44 41 false (.Ca (tZ 43)),gZ 45 41 false (.bin .gtr .num (tZ 44) (kZ 0)),CP 46 41 45,mv 47 46,Du 48 47 2 3,gZ 49 47 false (.load (some 4) (tZ 48)),gZ 50 47 false (.build [(.int .i64 0),(.int .i64 0),(.bool false),(.int .i64 0)] []),gZ 51 47 false (.bin .neq (.flat [.int,.int,.bool,.int]) (tZ 49) (tZ 50)),CP 52 47 51,mv 4 52]
 .ret)
 (sr [Ev 54 34 4,mv 53 54]
 (.cond (tZ 53) (sr [fa 55 6 3,lo 56 55,le 57 56,Xs 58 57 0,mv 59 58,Du 60 59 2 3,gZ 61 59 false (.load (some 4) (tZ 60)),gZ 62 59 false (.build [(.int .i64 0),(.int .i64 0),(.bool false),(.int .i64 0)] []),gZ 63 59 false (.bin .neq (.flat [.int,.int,.bool,.int]) (tZ 61) (tZ 62)),CP 64 59 63,mv 4 64]
 .ret)
 (sr [Ev 66 34 3,mv 65 66]
 (.cond (tZ 65) (sr [fa 67 7 3,lo 68 67,mv 69 68,gZ 70 69 false (.load (some 3) (tZ 2)),Du 71 69 2 3,gZ 72 69 false (.load (some 4) (tZ 71)),gZ 73 69 false (.call (.fn 67) [tZ 70,tZ 72]),gZ 74 69 false (.un .not (tZ 73)),CP 75 69 74,mv 4 75]
 .ret)
 (sr [Ev 77 34 5,mv 76 77]
 (.cond (tZ 76) (sr [fa 78 6 3,lo 79 78,le 80 79,Xs 81 80 0,mv 82 81,gZ 83 82 false (.load (some 3) (tZ 2)),Du 84 82 2 3,gZ 85 82 false (.load (some 4) (tZ 84)),gZ 86 82 false (.call (.fn 67) [tZ 83,tZ 85]),gZ 87 82 false (.un .not (tZ 86)),CP 88 82 87,mv 4 88]
 .ret)
 (.seq (sr [Ev 90 34 6,mv 89 90]
 (.cond (tZ 89) .skip
 (rf [Ev 91 34 7,mv 89 91])))
 (.cond (tZ 89) (sr [fa 92 6 3,lo 93 92,le 94 93,Xs 95 94 0,mv 96 95,gZ 97 96 false (.load (some 3) (tZ 2)),Du 98 96 2 3,gZ 99 96 false (.load (some 4) (tZ 98)),gZ 100 96 false (.call (.fn 67) [tZ 97,tZ 99]),gZ 101 96 false (.un .not (tZ 100)),CP 102 96 101,mv 103 102,Du 104 103 2 3,gZ 105 103 false (.load (some 4) (tZ 104)),Du 106 103 2 3,Du 107 103 0 106,Ex 108 103 107,gZ 109 103 false (.build [(.int .i64 0),(.int .i64 0),(.bool false),(.int .i64 0)] [(0,1,tZ 108)]),gZ 110 103 false (.bin .neq (.flat [.int,.int,.bool,.int]) (tZ 105) (tZ 109)),CP 111 103 110,mv 112 111,Du 113 112 2 3,Du 114 112 0 113,Ex 115 112 114,Du 116 112 1 3,Ex 117 112 116,gZ 118 112 false (.bin .eql .num (tZ 115) (tZ 117)),CP 119 112 118,mv 4 119]
 .ret)
 .skip))))))))))))
 (sr [XH 4]
 .ret))))))⟩
theorem Uo:AS Tryz.prog Tryz.f71=some OT:=by kernel_rfl
theorem fI:GD 71 OT:=gG Tryz.func71 Uo (by kernel_rfl)
def Ik:As:=by
 have h:=rQ Tryz.f31
 conv at h=>rhs; reduce
 dsimp at h
 exact oR h
theorem zQ:AS Tryz.prog Tryz.f31=some Ik:=by kernel_rfl
theorem yz:GD 31 Ik:=gG Tryz.func31 zQ (by kernel_rfl)
def NA:As:=by
 have h:=rQ Tryz.f101
 conv at h=>rhs; reduce
 dsimp at h
 exact oR h
theorem y5:GD 101 NA:=gG Tryz.func101 (by kernel_rfl) (by kernel_rfl)
def NH:As:=by
 have h:=rQ Tryz.f231
 conv at h=>rhs; reduce
 dsimp at h
 exact oR h
theorem Z16:GD 231 NH:=gG Tryz.func231 (by kernel_rfl) (by kernel_rfl)
def Iq:As:=by
 have h:=rQ Tryz.f100
 conv at h=>rhs; reduce
 exact oR h
theorem oU:AS Tryz.prog Tryz.f100=some Iq:=by kernel_rfl
theorem Z2g:GD 100 Iq:=gG Tryz.func100 oU (by kernel_rfl)
def Im:As:=by
 have h:=rQ Tryz.f62
 conv at h=>rhs; reduce
 dsimp at h
 exact oR h
theorem nI:AS Tryz.prog Tryz.f62=some Im:=by kernel_rfl
theorem wg:GD 62 Im:=gG Tryz.func62 nI (by kernel_rfl)
def IA:As:=by
 have h:=rQ Tryz.f228
 conv at h=>rhs; reduce
 dsimp at h
 exact oR h
theorem aP:AS Tryz.prog Tryz.f228=some IA:=by kernel_rfl
theorem Zz6:GD 228 IA:=gG Tryz.func228 aP (by kernel_rfl)
def Iy:As:=by
 have h:=rQ Tryz.f226
 conv at h=>rhs; reduce
 dsimp at h
 exact oR h
theorem uS:AS Tryz.prog Tryz.f226=some Iy:=by kernel_rfl
theorem zl:GD 226 Iy:=gG Tryz.func226 uS (by kernel_rfl)
def OV:As:=by
 have h:=rQ Tryz.f75
 conv at h=>rhs; reduce
 dsimp at h
 exact oR h
theorem Up:AS Tryz.prog Tryz.f75=some OV:=by kernel_rfl
theorem fK:GD 75 OV:=gG Tryz.func75 Up (by kernel_rfl)
def IB:As:=by
 have h:=rQ Tryz.f230
 conv at h=>rhs; reduce
 dsimp at h
 exact oR h
theorem vZ:AS Tryz.prog Tryz.f230=some IB:=by kernel_rfl
theorem Z2q:GD 230 IB:=gG Tryz.func230 vZ (by kernel_rfl)
def IC:As:=by
 have h:=rQ Tryz.f215
 conv at h=>rhs; reduce
 dsimp at h
 exact oR h
theorem ZJ:AS Tryz.prog Tryz.f215=some IC:=by kernel_rfl
theorem Zz1:GD 215 IC:=gG Tryz.func215 ZJ (by kernel_rfl)
def NG:As:=by
 have h:=rQ Tryz.f229
 conv at h=>rhs; reduce
 dsimp at h
 exact oR h
theorem Z7o:GD 229 NG:=gG Tryz.func229 (by kernel_rfl) (by kernel_rfl)
def TW:As:=by
 have h:=rQ Tryz.f171
 conv at h=>rhs; reduce
 dsimp at h
 exact oR h
theorem gD:GD 171 TW:=gG Tryz.func171 (by kernel_rfl) (by kernel_rfl)
def TU:As:=by
 have h:=rQ Tryz.f169
 conv at h=>rhs; reduce
 dsimp at h
 exact oR h
theorem fZ:GD 169 TU:=gG Tryz.func169 (by kernel_rfl) (by kernel_rfl)
def Iv:As:=by
 have h:=rQ Tryz.f164
 conv at h=>rhs; reduce
 dsimp at h
 exact oR h
theorem YT:AS Tryz.prog Tryz.f164=some Iv:=by kernel_rfl
theorem Zzu:GD 164 Iv:=gG Tryz.func164 YT (by kernel_rfl)
def ID:As:=by
 have h:=rQ Tryz.f276
 conv at h=>rhs; reduce
 dsimp at h
 exact oR h
theorem XY:AS Tryz.prog Tryz.f276=some ID:=by kernel_rfl
theorem Z0x:GD 276 ID:=gG Tryz.func276 XY (by kernel_rfl)
def NM:As:=⟨19,[(4,none)],(sr [bo 3 1,mk 4 0]
 (.seq (sr [mv 6 0,le 7 6,mk 8 0]
 (.block 0 (.loop (sr [cL 9 8 7]
 (.seq (.cond (tZ 9) .skip
 (.exit 0))
 (.seq (.block 1 (sr [mv 10 8,mv 5 10]
 (.seq (.region true [lw 11 2 3,mv 12 0,mv 13 5,ix 14 2 12 13,lw 15 2 14,oZ 16 (.bin .eql (.flat [.int,.int]) (tZ 11) (tZ 15))])
 (.cond (tZ 16) (sr [mv 17 5,mv 4 17]
 .ret)
 .skip))))
 (rf [DM 18 8 1,mv 8 18])))))))
 (sr [mk 4 (-1)]
 .ret)))⟩
theorem Z1u:GD 289 NM:=gG Tryz.func289 (by kernel_rfl) (by kernel_rfl)
def Nu:As:=by
 have h:=rQ Tryz.f240
 conv at h=>rhs; reduce
 dsimp at h
 exact oR h
theorem Z58:GD 240 Nu:=gG Tryz.func240 (by kernel_rfl) (by kernel_rfl)
def NF:As:=by
 have h:=rQ Tryz.f161
 conv at h=>rhs; reduce
 dsimp at h
 exact oR h
theorem Z1h:GD 161 NF:=gG Tryz.func161 (by kernel_rfl) (by kernel_rfl)
def Nx:As:=⟨19,[(4,none)],(sr [bo 3 1,mk 4 0]
 (.seq (sr [mv 6 0,le 7 6,mk 8 0]
 (.block 0 (.loop (sr [cL 9 8 7]
 (.seq (.cond (tZ 9) .skip
 (.exit 0))
 (.seq (.block 1 (sr [mv 10 8,mv 5 10]
 (.seq (.region true [lw 11 6 3,mv 12 0,mv 13 5,ix 14 6 12 13,lw 15 6 14,oZ 16 (.bin .eql (.flat [.int,.int,.int,.int,.int,.bool]) (tZ 11) (tZ 15))])
 (.cond (tZ 16) (sr [mv 17 5,mv 4 17]
 .ret)
 .skip))))
 (rf [DM 18 8 1,mv 8 18])))))))
 (sr [mk 4 (-1)]
 .ret)))⟩
theorem Z0t:GD 252 Nx:=gG Tryz.func252 (by kernel_rfl) (by kernel_rfl)
def NL:As:=by
 have h:=rQ Tryz.f237
 conv at h=>rhs; reduce
 dsimp at h
 exact oR h
theorem Z6m:GD 237 NL:=gG Tryz.func237 (by kernel_rfl) (by kernel_rfl)
end Go.Ac
end
section
namespace Go.Ac
open Go Go.AE Go.Proofs
set_option maxRecDepth 100000
set_option maxHeartbeats 400000
set_option maxRecDepth 100000
def LW:As:=by
 have h:=rQ Tryz.f32
 conv at h=>rhs; reduce
 dsimp at h
 exact oR h
theorem uo:AS Tryz.prog Tryz.f32=some LW:=by kernel_rfl
end Go.Ac
end
section
namespace Go.AE
open Go.RowKit
def wr{α:Type}(x:α):α:=x
theorem vL{α:Type}(x:α):wr x=x:=Eq.trans (Eq.refl x) (Eq.refl x)
@[congr] theorem Ydv{P : Program}{g : FuncId}{args args' : List Aa}{m : Ad}{w : Nat}{K : Aa → Ad → Prop}(h : wr args = args') : SC P g args m w K = SC P g args' m w K := by cases h; rfl
@[congr] theorem Ye3{P : Program}{g : FuncId}{args args' : List Aa}{n : Nat}{x : List Nat}{m : Ad}{K : Aa → Option Ai → Prop}(h : wr args = args') : DC P g args n x m K = DC P g args' n x m K := by cases h; rfl
end Go.AE
end
section
namespace Go.AE
open Go.RowKit
def O2(P:Program)(base:Nat):List Af→Nat→(AY→Prop)→List Aa→Mem→Prop
 | [],_,K,t,m=>K ⟨t,m⟩
 | o :: r,i,K,t,m=>
  match T7 t o.guard with
  | some false=>O2 P base r (i+1) K (put t o.dst Ag) m
  | some true=>
   match o.op with
   | .call f xs=>match callee t f xs with
    | some (g,args)=>Au P g args m [base+i] fun v m'=>O2 P base r (i+1) K (put t o.dst v) m'
    | none=>False
   | .range x=>RO (base+i) (ev t x) m fun v m'=>O2 P base r (i+1) K (put t o.dst v) m'
   | .Cc x=>RC (ev t x) m fun v m'=>O2 P base r (i+1) K (put t o.dst v) m'
   | .BL x=>RM (ev t x) m fun v=>O2 P base r (i+1) K (put t o.dst v) m
   | op=>match Z5 (base+i) t m op with
    | some (v,m')=>O2 P base r (i+1) K (put t o.dst v) m'
    | none=>False
  | none=>False
section
variable {P:Program}
theorem Z3t{base i:Nat}{b:Af}{rest:List Af}{K:AY→Prop}{t:List Aa}{m:Mem}(h:O2 P base (b :: rest) i K t m) :
 (T7 t b.guard=some false∧O2 P base rest (i+1) K (put t b.dst Ag) m) ∨
 (T7 t b.guard=some true∧((∃ f xs g args,b.op=.call f xs∧callee t f xs=some (g,args)∧Au P g args m [base+i] fun v m'=>O2 P base rest (i+1) K (put t b.dst v) m') ∨
   (∃ x,b.op=.range x∧RO (base+i) (ev t x) m fun v m'=>O2 P base rest (i+1) K (put t b.dst v) m') ∨
   (∃ x,b.op=.Cc x∧RC (ev t x) m fun v m'=>O2 P base rest (i+1) K (put t b.dst v) m') ∨
   (∃ x,b.op=.BL x∧RM (ev t x) m fun v=>O2 P base rest (i+1) K (put t b.dst v) m) ∨
   (∃ v m',Z5 (base+i) t m b.op=some (v,m')∧O2 P base rest (i+1) K (put t b.dst v) m'))):=by
 simp only[O2]at h;cases hw:T7 t b.guard with
 | none=>simp[hw]at h
 | some q=>
  cases q with
  | false=>simp only[hw]at h; exact .inl ⟨rfl,h⟩
  | true=>
   simp only[hw]at h;refine .inr ⟨rfl,?_⟩;have other:∀ op,b.op=op→(match Z5 (base+i) t m op with|some (v,m')=>O2 P base rest (i+1) K (put t b.dst v) m'|none=>False) →
    ∃ v m',Z5 (base+i) t m op=some (v,m')∧O2 P base rest (i+1) K (put t b.dst v) m':=by
    intro op _ hh;cases hs:Z5 (base+i) t m op with
    | none=>simp[hs]at hh
    | some r=>obtain ⟨v,m'⟩:=r; simp only[hs]at hh; exact⟨v,m',rfl,hh⟩
   cases hop:b.op with
   | call f xs=>
    simp only[hop]at h;cases hc:callee t f xs with
    | none=>simp[hc]at h
    | some r=>
     obtain⟨g,args⟩:=r;simp only[hc]at h;exact .inl ⟨f,xs,g,args,rfl,hc,h⟩
   | range x=>rw[hop]at h; exact .inr (.inl ⟨x,rfl,h⟩)
   | Cc x=>rw[hop]at h; exact .inr (.inr (.inl ⟨x,rfl,h⟩))
   | BL x=>rw[hop]at h; exact .inr (.inr (.inr (.inl ⟨x,rfl,h⟩)))
   | _=>rw[hop]at h; exact .inr (.inr (.inr (.inr (other _ hop h))))
theorem Om(W:AA)(base:Nat)(n0:Nat)(ops:Array Oper)(Q:Exit→AY→Prop)(Dh:Ao)(CQ:AD)(hb:n0≤base) :
 ∀(l:List Oper) (EO:List Af) (i:Nat) (t:List Aa) (m:Mem) (Φ:Ao) (ρ:AD) (a:Act) (w:World),
  EO.length=l.length→(∀(j:Nat) (o:Oper) (b:Af),l[j]? = some o→EO[j]? = some b→b.dst=o.dst∧b.op=O9 P o∧C1 ops o.guard=some b.guard) →
  O2 P base EO i (Q .normal) t m→Rel W Φ ρ m w→RL Φ ρ t a.tmps→a.defers=[]→Ext Dh CQ Φ ρ→BI n0 CQ ρ→(∀ j,i≤j→j<i+EO.length→ρ (base+j)=none)→base+i+EO.length≤m.next→n0≤m.next →
  wpList P ops (J7 W Dh CQ n0 Q) l a w
 | [],[],i,t,m,Φ,ρ,a,w,_,_,h,hr,ht,hd,he,hk,_,_,hn=>⟨⟨t,m⟩,Φ,ρ,he,hk,hn,hr,ht,hd,h⟩
 | [],_ :: _,_,_,_,_,_,_,_,hl,_,_,_,_,_,_,_,_,_,_=>by simp at hl
 | _ :: _,[],_,_,_,_,_,_,_,hl,_,_,_,_,_,_,_,_,_,_=>by simp at hl
 | o :: l,b :: EO,i,t,m,Φ,ρ,a,w,hl,hg,h,hr,ht,hd,he,hk,hfree,CY,hn=>by
  obtain⟨e1,e2,e3⟩:=hg 0 o b rfl rfl;have hg':∀ (j:Nat) (o:Oper) (b:Af),l[j]? = some o→EO[j]? = some b→b.dst=o.dst∧b.op=O9 P o∧C1 ops o.guard=some b.guard:=fun j o b ho hb=>hg (j+1) o b (by simpa using ho) (by simpa using hb)
  have hl':EO.length=l.length:=by simpa using hl
  simp only[lC]at CY hfree;have hlt:base+i<m.next:=by omega
  have hni:ρ (base+i)=none:=hfree i (lR _) (by omega)
  unfold wpList;rcases Z3t h with⟨hw,h'⟩|⟨hw,h'⟩
  ·rw[LB ht e3 hw,iN (by simp)]
   rw[← e1];exact Om W base n0 ops Q Dh CQ hb l EO (i+1) _ m Φ ρ _ w hl' hg' h' hr (ht.put b.dst (GM Φ ρ)) (by rw[D9]; exact hd) he hk (fun j h1 h2=>hfree j (by omega) (by omega)) (by omega) hn
  ·rw[LB ht e3 hw,iP rfl];refine .inl ?_;rcases h' with⟨f,xs,g,args,hop,BD,hA⟩|⟨x,hop,h'⟩|⟨x,hop,h'⟩|⟨x,hop,h'⟩|⟨v,m',hs,h'⟩
   ·refine VO ht hr hni hlt o (by rw[← e2]; exact hop) BD hA fun Ar ρ' x m' u w' hE hfr hr' hx hnx' hW=>?_
    rw[← e1];exact Om W base n0 ops Q Dh CQ hb l EO (i+1) _ m' Ar ρ' _ w' hl' hg' hW hr' ((ht.ext hE).put b.dst hx) (by rw[D9]; exact hd) (he.trans hE) (fun c hc h0=>hfr c (by omega) (by omega) (hk c hc h0))
     (fun j h1 h2=>hfr _ (by omega) (by omega) (hfree j (by omega) (by omega))) (by omega) (by omega)
   ·refine Z4l ht hr hni hlt o (by rw[← e2]; exact hop) h' fun Ar ρ' x m' u w' hE hfr hr' hx hnx' hW=>?_
    rw[← e1];exact Om W base n0 ops Q Dh CQ hb l EO (i+1) _ m' Ar ρ' _ w' hl' hg' hW hr' ((ht.ext hE).put b.dst hx) (by rw[D9]; exact hd) (he.trans hE) (fun c hc h0=>hfr c (by omega) (hk c hc h0))
     (fun j h1 h2=>hfr _ (by omega) (hfree j (by omega) (by omega))) (by rw[hnx']; omega) (by rw[hnx']; exact hn)
   ·refine Z7n ht hr o (by rw[← e2]; exact hop) h' fun x m' u w' hr' hx hnx' hW=>?_
    rw[← e1];exact Om W base n0 ops Q Dh CQ hb l EO (i+1) _ m' Φ ρ _ w' hl' hg' hW hr' (ht.put b.dst hx) (by rw[D9]; exact hd) he hk
     (fun j h1 h2=>hfree j (by omega) (by omega)) (by rw[hnx']; omega) (by rw[hnx']; exact hn)
   ·refine Ydi ht hr o (by rw[← e2]; exact hop) h' fun x u hx hW=>?_
    rw[← e1];exact Om W base n0 ops Q Dh CQ hb l EO (i+1) _ m Φ ρ _ w hl' hg' hW hr (ht.put b.dst hx) (by rw[D9]; exact hd) he hk
     (fun j h1 h2=>hfree j (by omega) (by omega)) (by omega) hn
   ·have hnx':=bG hs;rw[e2]at hs;refine Vp ht hr hni hlt o hs fun Ar ρ' u w' hE hfr hr' hx=>?_
    rw[← e1];exact Om W base n0 ops Q Dh CQ hb l EO (i+1) _ m' Ar ρ' _ w' hl' hg' h' hr' ((ht.ext hE).put b.dst hx) (by rw[D9]; exact hd) (he.trans hE) (fun c hc h0=>hfr c (by omega) (hk c hc h0))
     (fun j h1 h2=>hfr _ (by omega) (hfree j (by omega) (by omega))) (by rw[hnx']; omega) (by rw[hnx']; exact hn)
theorem um{id:Nat}{ops:Array Oper}{os:List Af}{Q:Exit→AY→Prop}{σ:AY}(hc:F2 P ops ops.toList=some os)(h:O2 P σ.m.next os 0 (Q .normal) σ.t (σ.m.at (σ.m.next+os.length))):DI P (.region id ops false) Q σ:=by
 intro W Φ ρ a w hr ht hd;obtain⟨h1,h2⟩:=Tl P ops _ _ hc;refine wp_region_list (Om W σ.m.next σ.m.next ops Q Φ ρ (lR _) ops.toList os 0 σ.t _ Φ ρ a w h1 h2 h (hr.at_ (by omega)) ht hd (.refl _ _) (.refl _ _) ?_ (by simp) (by simp))
 intro j _ _;cases hq:ρ (σ.m.next+j)with
 | none=>rfl
 | some l=>have:=hr.fresh _ _ hq; omega
def BL(v:Aa)(m:Ad)(K:Aa→Ad→Prop):Prop:=
 match v with
 | .ptr it 0 0=>match m.get it with
  | some (.AJ (some b) since seen last)=>match m.get b with
   | some (.map es clock)=>(seen=[]∨es=[] ∨ ∃ e,e∈es∧e.2.2<last) ∧
    (∀ e,e∈es→e.2.2∉seen→K (.tuple [.bool true,e.1,e.2.1]) (m.app [(it,some (.AJ (some b) since (seen++[e.2.2]) clock))])) ∧
    ((∀ e,e∈es→e.2.2<since→e.2.2∈seen)→K (.tuple [.bool false]) m)
   | _=>False
  | _=>False
 | _=>False
variable {n n0:Nat}
variable {Q:Exit→Env→Ad→Prop} {e:Env} {m:Ad} {base:Nat} {K:Env→Ad→Prop}
end
end Go.AE
end
section
namespace Go.AE
open Go.RowKit
def A7(get:Nat→Option Ai)(S:List Nat)(b:Nat):Option Ai:=bif U8 b S then get b else none
def IP(get:Nat→Option Ai)(S:List Nat)(x:Aa):Aa:=
 match X9 (A7 get S) 5 x with
 | some y=>y
 | none=>x
theorem xT{W:AA}{Φ:Ao}{ρ:AD}{m:Mem}{w:World}(S:List Nat)(hr:Rel W Φ ρ m w):∃ BM:Ao,Ext Φ ρ BM ρ∧(∀ B c,BM B=some c → ∃ e fz,w.heap[B]? = some (.cells c e fz)) ∧
 (∀ B c,BM B=some c→W.p B=some c∨W.CR B)∧(∀ b x l,m.get b=some x→ρ b=some l→U8 b S=false→BM l.blk=none) ∧ ∀ x v,R Φ ρ x v→R BM ρ (IP m.get S x) v:=by
 have hlv:∀ B,(∃ b l y,U8 b S=true∧m.get b=some y∧ρ b=some l∧l.blk=B)→Φ B=none∧W.CR B:=by
  rintro B ⟨b,l,y,_,h1,h2,rfl⟩;obtain⟨l',o,g1,g2,g3,_⟩:=hr.live b y h1
  grind
 obtain⟨BM,hy,hn⟩:∃ BM:Ao,(∀ B,(∃ b l y,U8 b S=true∧m.get b=some y∧ρ b=some l∧l.blk=B)→BM B=match w.heap[B]? with|some (.cells c _ _)=>some c|_=>none) ∧
  ∀ B,¬(∃ b l y,U8 b S=true∧m.get b=some y∧ρ b=some l∧l.blk=B)→BM B=Φ B:=
  ⟨fun B=>@ite _ (∃ b l y,U8 b S=true∧m.get b=some y∧ρ b=some l∧l.blk=B) (Classical.propDecidable _) (match w.heap[B]? with|some (.cells c _ _)=>some c|_=>none) (Φ B),
   fun B hL=>by simp_all,fun B hL=>by grind⟩
 have hE:Ext Φ ρ BM ρ:=⟨fun B c hB=>by
  grind,fun b l h=>h⟩
 refine⟨BM,hE,fun B c hB=>?_,fun B c hB=>?_,fun b x l hx hl hS=>?_,fun x v hR=>?_⟩
 ·by_cases hL:∃ b l y,U8 b S=true∧m.get b=some y∧ρ b=some l∧l.blk=B
  ·grind
  ·rw[hn B hL]at hB;exact hr.Bn B c hB
 ·by_cases hL:∃ b l y,U8 b S=true∧m.get b=some y∧ρ b=some l∧l.blk=B
  ·grind
  ·rw[hn B hL]at hB;exact hr.Cr B c hB
 ·have hL:¬ ∃ b' l' y,U8 b' S=true∧m.get b'=some y∧ρ b'=some l'∧l'.blk=l.blk:=by
   rintro⟨b',l',y,h1,h2,h3,h4⟩;have:=hr.inj b' b y x l' l h2 hx h3 hl h4;subst this;rw[h1]at hS; cases hS
  rw[hn _ hL];obtain⟨l',o,g1,g2,g3,_⟩:=hr.live b x hx
  grind
 ·have hrS:Rel W Φ ρ ⟨A7 m.get S,m.next⟩ w:=hr.sub ⟨fun b x hx=>by
   unfold A7 at hx
   grind,lR _⟩
  unfold IP;cases hz:X9 (A7 m.get S) 5 x with
  | none=>exact hR.ext hE
  | some y=>
   refine Zu (m:=⟨A7 m.get S,m.next⟩) hrS hE (fun b l k els c e fz hg hl hw=>?_) 5 x y v hz hR
   unfold A7 at hg
   grind
def eF(get:Nat→Option Ai)(S:List Nat)(els:List (List Aa)):List (List Aa):=els.map (List.map (IP get S))
def YO(q:Nat→Nat)(S:List Nat):List (Nat×Ai)→Ad→Prop
 | [],_=>True
 | (b,x) :: r,m=>(U8 (q b) S=false∧(m.get (q b)=some (x.AI q) ∨ ∃ k els,m.get (q b)=some (.cells k els)∧x.AI q=.cells k (eF m.get S els)))∧YO q S r m
def s4(n0:Nat)(l:List (Nat×Nat))(S:List Nat)(e0:Env)(m0:Ad)(e:Env)(m:Ad):Prop:=
 n0≤m0.next∧n0≤m.next∧BW (Ce l n0 m0.next m.next) e0 e∧YO (Ce l n0 m0.next m.next) S m0.bl m∧Cm (Ce l n0 m0.next m.next) m0.bl
theorem AV.freeze{P:Program}{g:FuncId}{args:List Aa}{m:Ad}{K K':Aa→Ad→Prop}(h:AV P g args m K)(hk:∀ r sm,K r sm → ∃ S,K' (IP sm.get S r) ⟨R0 S sm.bl,sm.next⟩):AV P g args m K':=by
 refine⟨h.1,fun W Φ ρ vs w hr ha CN=>(h.2 W Φ ρ vs w hr ha CN).mono fun e w' he=>?_⟩
 obtain⟨u,r,m1,Ar,ρ',e1,hE,hk1,hr',hR,hn,sm,rfl,hK⟩:=he;obtain⟨S,hS⟩:=hk r sm hK;obtain⟨BM,f0,f1,f2,f3,f4⟩:=xT S hr';refine⟨u,IP sm.get S r,Ad.mem ⟨R0 S sm.bl,sm.next⟩,BM,ρ',e1,hE.trans f0,hk1,⟨hr'.base,f1,fun b x hx=>?_,fun b b' x x' l l' h1 h2=>?_,hr'.fresh,f2⟩,f4 _ _ hR,hn,_,rfl,hS⟩
 ·obtain⟨h1,h2⟩:=MI hx;obtain⟨l',o,g1,g2,g3,g4,g5⟩:=hr'.live b x h1;have hm0:U8 b S=false:=by
   cases hb:U8 b S with
   | false=>rfl
   | true=>exact absurd (BF.1 hb) h2
  exact⟨l',o,g1,g2,f3 b x l' h1 g1 hm0,g4,g5.ext f0⟩
 ·exact hr'.inj b b' x x' l l' (MI h1).1 (MI h2).1
theorem ZL{get:Nat→Option Ai}{n:Nat}:∀ {l:List (List Aa)},(∀ row,row∈l → ∀ x,x∈row→X9 get n x=some x)→U1 (U1 (X9 get n)) l=some l
 | [],_=>rfl
 | a :: r,h=>by
  have h1:U1 (X9 get n) a=some a:=by
   have ha:=h a (List.mem_cons_self ..);clear h
   induction a with
   | nil=>rfl
   | cons x t ih=>
    simp only[U1]
    grind
  simp only[U1];rw[h1,ZL fun row hr=>h row (List.mem_cons_of_mem _ hr)]
end Go.AE
end
section
namespace Go.AE
open Go.RowKit
def AQ(b:Nat)(rows:List (List Aa)):Aa:=if rows=[]then .Ae else .sl b 0 rows.length
def AM(b k:Nat)(rows:List (List Aa))(rest:List (Nat×Ai)):List (Nat×Ai):=if rows=[]then rest else (b,.cells k rows) :: rest
def BQ(rows:List (List Aa)):Aa:=if rows=[]then .Ae else .Aj rows
def Xy(b id:Nat)(rows:List (List Aa))(x:Ai):List (Nat×Option Ai):=if rows=[]then [(id,some x)]else [(b,none),(id,some x)]
def Xx(b k:Nat)(rows:List (List Aa)):List (Nat×Option Ai):=if rows=[]then []else [(b,some (.cells k rows))]
section
variable {b c id k bytes i n:Nat} {rows xs:List (List Aa)} {rest:List (Nat×Ai)} {get:Nat→Option Ai} {q:Nat→Nat} {m:Ad}
theorem Z23:AQ b []=.Ae:=rfl
theorem sL(x:List Aa):AQ b (rows++[x])=.sl b 0 (rows.length+1):=by simp[AQ]
theorem N6(h:¬rows=[]):AQ b rows=.sl b 0 rows.length:=by simp[AQ,h]
theorem M4(h:¬rows=[]):AM b k rows rest=(b,.cells k rows) :: rest:=by simp[AM,h]
theorem zp:AM b k [] rest=rest:=rfl
theorem Z4v(x:List Aa):AM b k (rows++[x]) rest=(b,.cells k (rows++[x])) :: rest:=by simp[AM]
theorem Z5f:(AQ b rows).AI q=AQ (q b) rows:=by unfold AQ; split<;>rfl
theorem Z4a:(AQ b rows).cells=some [AQ b rows]:=by unfold AQ; split<;>rfl
theorem Z65:(AQ b rows).one=true:=by unfold AQ; split<;>rfl
theorem yb(h:¬c=b):X2 (AM b k rows rest) c=X2 rest c:=by
 unfold AM;split
 ·rfl
 ·simp only[X2]; rw[iN h]
theorem Zzt:X2 (AM b k rows rest) b=if rows=[]then X2 rest b else some (.cells k rows):=by
 unfold AM;split
 ·rfl
 ·simp only[X2]; rw[iP trivial]
theorem Z7r(h:¬c=b):N1 (AM b k rows rest) c=AM b k rows (N1 rest c):=by
 unfold AM;split
 ·rfl
 ·simp only[N1]; rw[iN h]
theorem Z19:N1 (AM b k rows rest) b=N1 rest b:=by
 unfold AM;split
 ·rfl
 ·simp only[N1]; rw[iP trivial]
theorem Z3p{t:List (Nat×Ai)}:K5 q (AM b k rows rest) t=AM (q b) k (Z3 q rows) (K5 q rest t):=by
 unfold AM;by_cases h:rows=[]
 ·subst h; simp[Z3]
 ·have:Z3 q rows≠[]:=fun e=>h (List.length_eq_zero_iff.1 (by rw[← RH q,e]; rfl))
  rw[iN h,iN this];rfl
theorem Z6s{ks:List Nat}:R0 ks (AM b k rows rest)=bif U8 b ks then R0 ks rest else AM b k rows (R0 ks rest):=by
 unfold AM;cases hm:U8 b ks with
 | true=>
  split
  ·rfl
  ·simp[R0,hm]
 | false=>
  split
  ·rfl
  ·simp[R0,hm]
theorem Z7p:M7 q (AM b k rows rest)=if rows=[]then M7 q rest else q b :: M7 q rest:=by
 unfold AM;split<;>rfl
theorem z6:Bv q (AM b k rows rest) m=((rows≠[]→m.get (q b)=some (.cells k (Z3 q rows)) ∨ ∃ y,m.get (q b)=some y∧EA (.cells k (Z3 q rows)) y)∧Bv q rest m):=by
 unfold AM;split
 ·rename_i h; simp[h]
 ·rename_i h; simp[h,Bv,Ai.AI]
theorem Z05:CK q c (AM b k rows rest)=((rows≠[]→q c=q b→c=b)∧CK q c rest):=by
 unfold AM;split
 ·grind
 ·rename_i h; simp[h,CK]
theorem Z03:Cm q (AM b k rows rest)=((rows≠[]→CK q b rest)∧Cm q rest):=by
 unfold AM;split
 ·grind
 ·rename_i h; simp[h,Cm]
theorem Z8q(l:List Nat):I9 (W2 (AQ b rows)) l=(¬rows=[]→GL b l):=by
 unfold AQ;split
 ·rename_i h; simp[W2,I9,h]
 ·rename_i h; simp[W2,I9,h]
theorem Z6e(b i j:Nat):W2 (.ptr b i j)=[b]:=rfl
theorem Z0z(b i j:Nat):W2 (.sl b i j)=[b]:=rfl
theorem Z25(b:Nat):W2 (.map b)=[b]:=rfl
theorem Z84(l:List (List Aa)):W2 (.Aj l)=[]:=rfl
theorem yq(l:List (List Aa))(i j:Nat):W2 (.AW l i j)=[]:=rfl
theorem Zzk:W2 .Ae=[]:=rfl
theorem Z0k(k:IntKind)(n:Int):W2 (.int k n)=[]:=rfl
theorem Z8w(l:List UInt8):W2 (.str l)=[]:=rfl
theorem Z17(hx:xs≠[])(hg:get b=if rows=[]then none else some (.cells k rows))(hr:rows.length+xs.length≤1048576)(hb:bytes≤1048576) :
 L1 id k bytes get (AQ b rows) xs=some (.sl id 0 (rows.length+xs.length),Xy b id rows (.cells k (rows++xs))):=by
 have hrm:T5=1048576:=rfl;rw[← hrm]at hr hb;have hxl:0<xs.length:=by grind
 unfold AQ Xy;by_cases h:rows=[]
 ·subst h;simp only[if_true,L1,iN hx,List.length_nil,Nat.zero_add,List.nil_append]
  grind
 ·rw[iN h,iN h];simp only[L1,hg,iN h]
  grind
theorem zj(hg:get b=if rows=[]then none else some (.cells k rows)):L1 id k bytes get (AQ b rows) []=some (AQ b rows,Xx b k rows):=by
 unfold AQ Xx;by_cases h:rows=[]
 ·subst h; rfl
 ·rw[iN h,iN h];simp only[L1,hg,iN h]
  grind
theorem Z0p{x:Ai}(h:rows=[]→X2 m.bl b=none):m.app (Xy b id rows x)=⟨(id,x) :: N1 m.bl b,m.next⟩:=by
 have key:∀ l:List (Nat×Ai),X2 l b=none→N1 l b=l:=by
  intro l
  induction l with
  | nil=>intro _; rfl
  | cons a r ih=>
   obtain⟨d,y⟩:=a;intro hl;simp only[X2]at hl;split at hl
   ·cases hl
   ·rename_i hd;simp only[N1]
    grind
 unfold Xy;by_cases h0:rows=[]
 ·rw[iP h0,key _ (h h0)]; rfl
 ·rw[iN h0]; rfl
theorem Z0q:m.app (Xx b k rows)=⟨AM b k rows m.bl,m.next⟩:=by
 unfold Xx AM;split<;>rfl
theorem Z7v(hg:get b=if rows=[]then none else some (.cells k rows)):C0 get k (AQ b rows)=some rows:=by
 unfold AQ;by_cases h:rows=[]
 ·subst h; rfl
 ·rw[iN h];simp[C0,LS,hg,h]
theorem Z4m(len:Nat):C0 get k (.sl b 0 len)=match get b with
 | some (.cells k' els)=>if k'=k∧len≤els.length then some (els.take len)else none
 | _=>if len=0 then some []else none:=by
 simp only[C0,LS,Nat.zero_add,List.drop_zero];rfl
theorem Zzd:C0 get k .Ae=some []:=rfl
theorem WO:C0 get k (.Aj rows)=if rows.all (·.length == k)then some rows else none:=rfl
end
end Go.AE
end
