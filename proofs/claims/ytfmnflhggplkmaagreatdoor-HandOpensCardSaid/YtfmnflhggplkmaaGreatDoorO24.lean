/- Part 24 of the proof: AeNe, Lf, Kf0, Kf1. -/
import Derived.Test.YtfmnflhggplkmaaGreatDoorO23
set_option linter.all false
section
namespace Go.AE
open Go.RowKit
section
variable {P:Program} {dc:Bool} {n base i:Nat} {K:Env→SMem→Prop} {e:Env} {m:SMem}
theorem zops_nil':zops P dc n base [] i K e m=K e m:=propext Iff.rfl
theorem zops_one (d:Option Nat) (op:AOp) (un:List Nat) (r:List AOper):zops P dc n base (⟨d,op,none,un⟩ :: r) i K e m=match op with
 | .call f xs=>(match calleeE n e f xs with
  | some (g,args)=>(match dc with
   | false=>SC P g args m (base+i) fun v m'=>zops P dc n base r (i+1) K (putE e d v) m'
   | true=>DC P g args (base+i) (xOf base i r.length) m fun v z=>zops P dc n base r (i+1) K (putE e d v) (m.app (apD (base+i) z)))
  | none=>False)
 | op=>(match stepD (base+i) (evE n e) m.get op with
  | some (v,w)=>zops P dc n base r (i+1) K (putE e d v) (m.app w)
  | none=>False):=by
 cases op<;>simp only[zops,wantedE,gdK]<;>rfl
theorem zops_gd (d:Option Nat) (op:AOp) (g:Nat×Bool) (un:List Nat) (r:List AOper):zops P dc n base (⟨d,op,some g,un⟩ :: r) i K e m=match wantedE n e (some g)with
 | some true=>(match op with
  | .call f xs=>(match calleeE n e f xs with
   | some (g,args)=>(match dc with
    | false=>SC P g args m (base+i) fun v m'=>zops P dc n base r (i+1) K (putE e d v) m'
    | true=>DC P g args (base+i) (xOf base i r.length) m fun v z=>zops P dc n base r (i+1) K (putE e d v) (m.app (apD (base+i) z)))
   | none=>False)
  | op=>(match stepD (base+i) (evE n e) m.get op with
   | some (v,w)=>zops P dc n base r (i+1) K (putE e d v) (m.app w)
   | none=>False))
 | some false=>zops P dc n base r (i+1) K (putE e d aundef) m
 | none=>False:=by
 cases op<;>simp only[zops,gdK]<;>rfl
theorem xdops_nil' {keep:List Nat} {fs:List (Nat×FT)}:xdops P keep n base [] i fs K e m=K e m:=propext Iff.rfl
theorem xdops_one {keep:List Nat} {fs:List (Nat×FT)} (d:Option Nat) (op:AOp) (un:List Nat) (r:List AOper):xdops P keep n base (⟨d,op,none,un⟩ :: r) i fs K e m=match op with
 | .call f xs=>(match calleeE n e f xs with
  | some (g,args)=>DC P g args (base+i) (xOf base i r.length) m fun v z=>indF fs (.call (ftW (base+i) z) (xOf base i r.length) m.next) un∧xdops P keep n base r (i+1) (recF keep i (.call (ftW (base+i) z) (xOf base i r.length) m.next) fs) K (putE e d v) (m.app (apD (base+i) z))
  | none=>False)
 | op=>(match stepD (base+i) (evE n e) m.get op with
  | some (v,w)=>indF fs (.ops (footWD (base+i) (evE n e) op) (footRD (evE n e) op)) un∧xdops P keep n base r (i+1) (recF keep i (.ops (footWD (base+i) (evE n e) op) (footRD (evE n e) op)) fs) K (putE e d v) (m.app w)
  | none=>False):=by
 cases op<;>simp only[xdops,wantedE]<;>rfl
theorem xdops_gd {keep:List Nat} {fs:List (Nat×FT)} (d:Option Nat) (op:AOp) (g:Nat×Bool) (un:List Nat) (r:List AOper):xdops P keep n base (⟨d,op,some g,un⟩ :: r) i fs K e m=match wantedE n e (some g)with
 | some true=>(match op with
  | .call f xs=>(match calleeE n e f xs with
   | some (g,args)=>DC P g args (base+i) (xOf base i r.length) m fun v z=>indF fs (.call (ftW (base+i) z) (xOf base i r.length) m.next) un∧xdops P keep n base r (i+1) (recF keep i (.call (ftW (base+i) z) (xOf base i r.length) m.next) fs) K (putE e d v) (m.app (apD (base+i) z))
   | none=>False)
  | op=>(match stepD (base+i) (evE n e) m.get op with
   | some (v,w)=>indF fs (.ops (footWD (base+i) (evE n e) op) (footRD (evE n e) op)) un∧xdops P keep n base r (i+1) (recF keep i (.ops (footWD (base+i) (evE n e) op) (footRD (evE n e) op)) fs) K (putE e d v) (m.app w)
   | none=>False))
 | some false=>xdops P keep n base r (i+1) (recF keep i (.ops [] []) fs) K (putE e d aundef) m
 | none=>False:=by
 cases op<;>simp only[xdops]<;>rfl
@[simp] theorem apD_none (id : Nat) : apD id none = [] := rfl
@[simp] theorem apD_some (id : Nat) (b : ABlk) : apD id (some b) = [(id, some b)] := rfl
@[simp] theorem ftW_none (id : Nat) : ftW id none = [] := rfl
@[simp] theorem ftW_some (id : Nat) (b : ABlk) : ftW id (some b) = [id] := rfl
@[simp] theorem app_nil' (m : SMem) : m.app [] = m := rfl
theorem kp_nil:keepOf []=[]:=rfl
theorem kp_cons (d:Option Nat) (op:AOp) (g:Option (Nat×Bool)) (un:List Nat) (r:List AOper):keepOf (⟨d,op,g,un⟩ :: r)=un++keepOf r:=rfl
theorem pt_some (d:Nat) (v:AVal):putE e (some d) v=(d,v) :: e:=rfl
theorem pt_none (v:AVal):putE e none v=e:=rfl
theorem ev_tmp (j:Nat):evE n e (.tmp j)=if j<n then e.get j else aundef:=rfl
theorem ev_const (v:AVal):evE n e (.const v)=v:=rfl
theorem ev_fn (f:FuncId):evE n e (.fn f)=.func (.func f) [] []:=rfl
def wtZ (w:Bool):AVal→Option Bool
 | .bool b=>some (b == w)
 | .tuple []=>some false
 | _=>none
theorem wt_some (d:Nat) (w:Bool):wantedE n e (some (d,w))=wtZ w (evE n e (.tmp d)):=by
 simp only[wantedE]; unfold wtZ; rfl
theorem wt_bool (w b:Bool):wtZ w (.bool b)=some (b == w):=rfl
theorem wt_undef (w:Bool):wtZ w (.tuple [])=some false:=rfl
def vo:Option AVal→Option (AVal×List (Nat×Option ABlk))
 | some v=>some (v,[])
 | none=>none
theorem vo_some (v:AVal):vo (some v)=some (v,[]):=rfl
def wo (v:AVal):Option (List (Nat×Option ABlk))→Option (AVal×List (Nat×Option ABlk))
 | some d=>some (v,d)
 | none=>none
theorem wo_some (v:AVal) (d:List (Nat×Option ABlk)):wo v (some d)=some (v,d):=rfl
section
variable {id:Nat} {f:AOpd→AVal} {get:Nat→Option ABlk}
theorem sd_mov (x:AOpd):stepD id f get (.mov x)=some (f x,[]):=rfl
def pickZ (a b:AVal):AVal→Option (AVal×List (Nat×Option ABlk))
 | .bool true=>some (a,[])
 | .bool false=>some (b,[])
 | _=>none
theorem pk_true (a b:AVal):pickZ a b (.bool true)=some (a,[]):=rfl
theorem pk_false (a b:AVal):pickZ a b (.bool false)=some (b,[]):=rfl
theorem sd_pick (c a b:AOpd):stepD id f get (.pick c a b)=pickZ (f a) (f b) (f c):=by
 simp only[stepD]; unfold pickZ; split<;>simp_all
def boxZ (id:Nat):Option (List AVal)→Option (AVal×List (Nat×Option ABlk))
 | some cs=>if cs.all AVal.one then some (.ptr id 0 0,[(id,some (.cells cs.length [cs]))])else none
 | none=>none
theorem bx_some (cs:List AVal):boxZ id (some cs)=if cs.all AVal.one then some (.ptr id 0 0,[(id,some (.cells cs.length [cs]))])else none:=rfl
theorem sd_box (x:AOpd):stepD id f get (.box x)=boxZ id (f x).cells:=by simp only[stepD]; unfold boxZ; rfl
theorem sd_alloc (z:List AVal):stepD id f get (.alloc z)=some (.ptr id 0 0,[(id,some (.cells z.length [z]))]):=rfl
def aggZ:Option (List AVal)→Option (AVal×List (Nat×Option ABlk))
 | some cs=>some (.agg cs,[])
 | none=>none
theorem ag_some (cs:List AVal):aggZ (some cs)=some (.agg cs,[]):=rfl
theorem sd_build (z:List AVal) (ps:List (Nat×Nat×AOpd)):stepD id f get (.build z ps)=aggZ (fillA z (ps.map fun p=>(p.1,p.2.1,f p.2.2))):=by simp only[stepD]; unfold aggZ; rfl
def mkslZ (id k len:Nat):Option (List (List AVal))→Option (AVal×List (Nat×Option ABlk))
 | some els=>some (.sl id 0 len,[(id,some (.cells k els))])
 | none=>none
theorem mk_some (k len:Nat) (els:List (List AVal)):mkslZ id k len (some els)=some (.sl id 0 len,[(id,some (.cells k els))]):=rfl
theorem sd_mkSl (k len:Nat) (z:List AVal) (ps:List (Nat×AOpd)):stepD id f get (.mkSl k len z ps)=mkslZ id k len (fillS k (List.replicate len z) (ps.map fun p=>(p.1,f p.2))):=by simp only[stepD]; unfold mkslZ; rfl
theorem sd_load (n:Option Nat) (x:AOpd):stepD id f get (.load n x)=vo (loadD get n (f x)):=by simp only[stepD]; unfold vo; rfl
theorem sd_store (n:Nat) (a x:AOpd):stepD id f get (.store n a x)=wo aundef (storeD get n (f a) (f x)):=by simp only[stepD]; unfold wo; rfl
def nilZ:AVal→Option (AVal×List (Nat×Option ABlk))
 | .ptr b i j=>some (.ptr b i j,[])
 | .iptr els i j=>some (.iptr els i j,[])
 | .func (.func f) a b=>some (.func (.func f) a b,[])
 | _=>none
theorem nl_ptr (b i j:Nat):nilZ (.ptr b i j)=some (.ptr b i j,[]):=rfl
theorem nl_iptr (els:List (List AVal)) (i j:Nat):nilZ (.iptr els i j)=some (.iptr els i j,[]):=rfl
theorem sd_nilChk (x:AOpd):stepD id f get (.nilChk x)=nilZ (f x):=by simp only[stepD]; unfold nilZ; split<;>simp_all
theorem sd_bin (op:BinOp) (q:EqT) (x y:AOpd):stepD id f get (.bin op q x y)=vo (binA op q (f x) (f y)):=by simp only[stepD]; unfold vo; rfl
theorem sd_un (op:UnOp) (x:AOpd):stepD id f get (.un op x)=vo (unA op (f x)):=by simp only[stepD]; unfold vo; rfl
theorem sd_mkFunc (fn:Fn) (a c:List AOpd):stepD id f get (.mkFunc fn a c)=some (.func fn (a.map f) (c.map f),[]):=rfl
theorem sd_mkMap:stepD id f get .mkMap=some (.map id,[(id,some (.map [] 0))]):=rfl
theorem sd_fieldA (off:Nat) (x:AOpd):stepD id f get (.fieldA off x)=vo (addA off (f x)):=by simp only[stepD]; unfold vo; rfl
theorem ad_ptr (off b i j:Nat):addA off (.ptr b i j)=some (.ptr b i (j+off)):=rfl
theorem ad_iptr (off:Nat) (els:List (List AVal)) (i j:Nat):addA off (.iptr els i j)=some (.iptr els i (j+off)):=rfl
def fldZ (off:Nat) (n:Option Nat):AVal→Option (AVal×List (Nat×Option ABlk))
 | .agg cs=>vo (partA cs off n)
 | _=>none
theorem fl_agg (off:Nat) (n:Option Nat) (cs:List AVal):fldZ off n (.agg cs)=vo (partA cs off n):=rfl
theorem sd_field (off:Nat) (n:Option Nat) (x:AOpd):stepD id f get (.field off n x)=fldZ off n (f x):=by simp only[stepD]; unfold fldZ vo; rfl
def extZ (i:Nat):AVal→Option (AVal×List (Nat×Option ABlk))
 | .tuple vs=>vo vs[i]?
 | _=>none
theorem ex_tuple (i:Nat) (vs:List AVal):extZ i (.tuple vs)=vo vs[i]?:=rfl
theorem sd_ext (x:AOpd) (i:Nat):stepD id f get (.ext x i)=extZ i (f x):=by simp only[stepD]; unfold extZ vo; rfl
def lenZ:Option Nat→Option (AVal×List (Nat×Option ABlk))
 | some n=>some (.int .i64 n,[])
 | none=>none
theorem ln_some (n:Nat):lenZ (some n)=some (.int .i64 n,[]):=rfl
theorem sd_lenSl (x:AOpd):stepD id f get (.lenSl x)=lenZ (sliceLen (f x)):=by simp only[stepD]; unfold lenZ; rfl
theorem sl_nil:sliceLen .nilSl=some 0:=rfl
theorem sl_emp:sliceLen .emp=some 0:=rfl
theorem sl_sl (b off len:Nat):sliceLen (.sl b off len)=some len:=rfl
theorem sl_imm (els:List (List AVal)):sliceLen (.imm els)=some els.length:=rfl
def idxZ (get:Nat→Option ABlk) (k:Nat):AVal→Option Nat→Option (AVal×List (Nat×Option ABlk))
 | .sl b off len,some i=>match get b with
  | some (.cells k' _)=>if k'=k∧i<len then some (.ptr b (off+i) 0,[])else none
  | _=>none
 | .imm els,some i=>match els[i]? with
  | some row=>if row.length=k then some (.iptr els i 0,[])else none
  | none=>none
 | _,_=>none
theorem ix_sl (k b off len i:Nat):idxZ get k (.sl b off len) (some i)=match get b with
 | some (.cells k' _)=>if k'=k∧i<len then some (.ptr b (off+i) 0,[])else none
 | _=>none:=rfl
theorem ix_imm (k:Nat) (els:List (List AVal)) (i:Nat):idxZ get k (.imm els) (some i)=match els[i]? with
 | some row=>if row.length=k then some (.iptr els i 0,[])else none
 | none=>none:=rfl
theorem sd_idxA (k:Nat) (x i:AOpd):stepD id f get (.idxA k x i)=idxZ get k (f x) (asNat (f i)):=by
 simp only[stepD]; unfold idxZ; rfl
theorem sd_makeSl (k bytes:Nat) (z:List AVal) (x y:AOpd):stepD id f get (.makeSl k bytes z x y)=match asNat (f x),asNat (f y)with
 | some l,some c=>if l≤c∧c≤room∧bytes≤room then some (.sl id 0 l,[(id,some (.cells k (List.replicate c z)))])else none
 | _,_=>none:=rfl
theorem sd_append (k bytes:Nat) (z:List AVal) (x y:AOpd):stepD id f get (.append k bytes z x y)=match srcRowsD get k (f y)with
 | some xs=>appendRowsD id k bytes get (f x) xs
 | none=>none:=rfl
theorem sd_lenMap (x:AOpd):stepD id f get (.lenMap x)=match f x with
 | .nilMap=>some (.int .i64 0,[])
 | .map b=>match get b with
  | some (.map es _)=>some (.int .i64 es.length,[])
  | _=>none
 | _=>none:=rfl
theorem sd_lookup (kt:KeyT) (z:AVal) (ok:Bool) (x i:AOpd):stepD id f get (.lookup kt z ok x i)=match (match f x with
 | .nilMap=>some []
 | .map b=>match get b with
  | some (.map es _)=>some es
  | _=>none
 | _=>none)with
 | some es=>match findA kt (f i) es with
  | some r=>some (if ok then .tuple [match r with
   | some (_,v,_)=>v
   | none=>z,.bool r.isSome]else (match r with
   | some (_,v,_)=>v
   | none=>z),[])
  | none=>none
 | none=>none:=rfl
theorem sd_mapUpd (kt:KeyT) (mp k v:AOpd):stepD id f get (.mapUpd kt mp k v)=match f mp with
 | .map b=>match get b with
  | some (.map es clock)=>match findA kt (f k) es with
   | some (some (i,_,born))=>some (aundef,[(b,some (.map (es.set i (f k,f v,born)) clock))])
   | some none=>some (aundef,[(b,some (.map (es++[(f k,f v,clock)]) (clock+1)))])
   | none=>none
  | _=>none
 | _=>none:=rfl
theorem sd_idxAA (n k:Nat) (x i:AOpd):stepD id f get (.idxAA n k x i)=match asNat (f i)with
 | some i=>if i<n then vo (addA (i*k) (f x))else none
 | none=>none:=by
 simp only[stepD]; unfold vo; rfl
theorem an_int (k:IntKind) (j:Int):asNat (.int k j)=if 0≤j then some j.toNat else none:=by simp only[asNat]
end
end
@[congr] theorem xdops_congr {P : Program} {keep keep' : List Nat} {n base base' i i' : Nat} {fs fs' : List (Nat × FT)} {ops : List AOper} {K : Env → SMem → Prop} {e e' : Env} {m m' : SMem} (hk : keep = keep') (hb : base = base') (hi : i = i') (hf : fs = fs') (h : e = e') (h' : m = m') : xdops P keep n base ops i fs K e m = xdops P keep' n base' ops i' fs' K e' m' := by rw [hk, hb, hi, hf, h, h']
theorem wZ_condM {P:Program} {n n0:Nat} {Q:Exit→Env→SMem→Prop} {e:Env} {m:SMem} (c:AOpd) (a b:ACode):wpZ P n n0 (.cond c a b) Q e m=match evE n e c with
 | .bool true=>wpZ P n n0 a Q e m
 | .bool false=>wpZ P n n0 b Q e m
 | _=>False:=by
 rw[wZ_cond]
 unfold condK
 rfl
end Go.AE
end
section
namespace Go.Known
open Go Go.AE Go.Proofs
def af29:AFn:=⟨48,[(2,none),(3,none)],(sr [bo 1 0,mnZ 2,mk 3 0]
 (sr [lw 11 2 1,ca1 12 55 11,mv 10 12,ex 13 10 0,ex 14 10 1,mv 4 13,mv 5 14]
 (.seq (sr [mv 15 5,cNk 16 15 0]
 (.cond (tZ 16) (sr [mv 17 5,mnZ 2,mv 3 17]
 .ret)
 .skip))
 (sr [mnZ 6]
 (sr [mv 18 4,nc 19 18,fa 20 0 19,fa 21 1 20,lo 22 21,le 23 22,oZ 24 (.bin .mul .num (kZ 2) (tZ 23)),oZ 25 (.makeSl 1 1 [(.bool false)] (tZ 24) (tZ 24)),mv 7 25]
 (sr [mv 26 4,ca1 27 106 26,mv 8 27]
 (.seq (sr [mv 28 7,le 29 28,mk 30 0]
 (.block 0 (.loop (sr [cL 31 30 29]
 (.seq (.cond (tZ 31) .skip
 (.exit 0))
 (.seq (.block 1 (sr [mv 32 30,mv 9 32]
 (sr [mv 33 7,mv 34 9,ix 35 1 33 34,lo 36 35,no 37 36]
 (.cond (tZ 37) (rf [mv 38 6,mv 39 4,mv 40 9,mv 41 7,mv 42 8,oZ 43 (.call (.fn 107) [tZ 39,tZ 40,tZ 41,tZ 42]),oZ 44 (.mkSl 5 1 [(.bool false),.nilSl,.nilSl,.nilSl,(.bool false)] [(0,tZ 43)]),oZ 45 (.append 5 88 [(.bool false),.nilSl,.nilSl,.nilSl,(.bool false)] (tZ 38) (tZ 44)),mv 6 45])
 .skip))))
 (rf [aDk 46 30 1,mv 30 46])))))))
 (sr [mv 47 6,mv 2 47,mk 3 0]
 .ret))))))))⟩
theorem cf29:cFn Tryz.prog Tryz.f77=some af29:=by kernel_rfl
theorem gd29:GD 77 af29:=gG Tryz.func77 cf29 (by kernel_rfl)
end Go.Known
end
section
namespace Go.Known
open Go Go.AE Go.Proofs
def af12:AFn:=⟨38,[(4,none)],(sr [bo 2 0,bo 3 1,mfZ 4]
 (.seq (sr [fa 6 0 2,lo 7 6,fa 8 0 3,lo 9 8,cN 10 7 9,mv 11 10,gff 12 11 1 2,gfl 13 11 12,gZ 14 11 false (.lenSl (tZ 13)),gff 15 11 1 3,gfl 16 11 15,gZ 17 11 false (.lenSl (tZ 16)),gZ 18 11 false (.bin .neq .num (tZ 14) (tZ 17)),pk1 19 11 18]
 (.cond (tZ 19) (sr [mfZ 4]
 .ret)
 .skip))
 (.seq (sr [mk 5 0]
 (.block 0 (.loop (.seq (sr [mv 20 5,fa 21 1 2,lo 22 21,le 23 22,cL 24 20 23]
 (.cond (tZ 24) .skip
 (.exit 0)))
 (.seq (.block 1 (.seq (.region true [fa 27 1 2,lo 28 27,mv 29 5,ix 30 6 28 29,lw 31 6 30,fa 32 1 3,lo 33 32,mv 34 5,ix 35 6 33 34,lw 36 6 35,oZ 37 (.bin .neq (.flat [.int,.int,.int,.int,.int,.bool]) (tZ 31) (tZ 36))])
 (.cond (tZ 37) (sr [mfZ 4]
 .ret)
 .skip)))
 (rf [mv 25 5,aDk 26 25 1,mv 5 26]))))))
 (sr [mtZ 4]
 .ret))))⟩
theorem cf12:cFn Tryz.prog Tryz.f21=some af12:=by kernel_rfl
def af26:AFn:=⟨64,[(2,none)],(sr [bo 1 0,oZ 2 (.mov (.const (.str [])))]
 (sr [fa 7 0 1,lo 8 7,ca1 9 36 8,oZ 10 (.bin .add .num (tZ 9) (.const (.str [58]))),mv 3 10]
 (.seq (sr [mk 4 0]
 (.block 0 (.loop (.seq (sr [mv 11 4,fa 12 1 1,lo 13 12,le 14 13,cL 15 11 14]
 (.cond (tZ 15) .skip
 (.exit 0)))
 (.seq (.block 1 (sr [fa 18 1 1,lo 19 18,mv 20 4,ix 21 6 19 20,lw 22 6 21,oZ 5 (.alloc [(.int .i64 0),(.int .i64 0),(.int .i64 0),(.int .i64 0),(.int .i64 0),(.bool false)]),so 6 5 22]
 (sr [oZ 6 (.mov (.const (.str [63])))]
 (.seq (sr [fa 23 0 5,lo 24 23,cEk 25 24 1]
 (.cond (tZ 25) (.region true [fa 26 1 5,lo 27 26,ca1 28 36 27,oZ 29 (.bin .add .num (tZ 28) (.const (.str [46]))),fa 30 2 5,⟨(some 31),.load none (tZ 30),none,[2]⟩,ca1 32 36 31,aD 33 29 32,mv 6 33])
 .skip))
 (.seq (sr [fa 34 0 5,lo 35 34,cEk 36 35 2]
 (.cond (tZ 36) (sr [fa 37 3 5,lo 38 37,ca1 39 36 38,oZ 40 (.bin .add .num (tZ 39) (.const (.str [117]))),mv 6 40]
 (.seq (sr [fa 41 5 5,lo 42 41]
 (.cond (tZ 42) (rf [fa 43 3 5,lo 44 43,ca1 45 36 44,oZ 46 (.bin .add .num (tZ 45) (.const (.str [111]))),mv 6 46])
 .skip))
 (sr [fa 47 4 5,lo 48 47]
 (.block 2 (sr [cEk 52 48 1,mv 51 52]
 (.cond (tZ 51) (rf [mv 53 6,oZ 54 (.bin .add .num (tZ 53) (.const (.str [43]))),mv 6 54])
 (sr [cEk 56 48 (-1),mv 55 56]
 (.cond (tZ 55) (rf [mv 57 6,oZ 58 (.bin .add .num (tZ 57) (.const (.str [45]))),mv 6 58])
 (rf [mv 49 6,oZ 50 (.bin .add .num (tZ 49) (.const (.str [63]))),mv 6 50])))))))))
 .skip))
 (rf [mv 59 3,oZ 60 (.bin .add .num (tZ 59) (.const (.str [32]))),mv 61 6,aD 62 60 61,mv 3 62]))))))
 (rf [mv 16 4,aDk 17 16 1,mv 4 17]))))))
 (sr [mv 63 3,mv 2 63]
 .ret))))⟩
theorem cf26:cFn Tryz.prog Tryz.f29=some af26:=by kernel_rfl
theorem gd26:GD 29 af26:=gG Tryz.func29 cf26 (by kernel_rfl)
def af30:AFn:=⟨11,[(2,none)],(sr [bo 1 0,mk 2 0]
 (sr [lw 6 2 1,ca1 7 55 6,mv 5 7,ex 8 5 0,ex 9 5 1,mv 3 8,mv 4 9]
 (sr [mv 10 4,mv 2 10]
 .ret)))⟩
theorem cf30:cFn Tryz.prog Tryz.f39=some af30:=by kernel_rfl
theorem gd30:GD 39 af30:=gG Tryz.func39 cf30 (by kernel_rfl)
def af31:AFn:=⟨8,[(2,none)],(sr [mnZ 2]
 (.seq (sr [mv 3 0,oZ 4 (.bin .eql .slice (tZ 3) (.const .nilSl))]
 (.cond (tZ 4) (sr [mnZ 2]
 .ret)
 .skip))
 (sr [oZ 5 (.mkSl 6 0 [(.int .i64 0),(.int .i64 0),(.int .i64 0),(.int .i64 0),(.int .i64 0),(.bool false)] []),mv 6 0,oZ 7 (.append 6 48 [(.int .i64 0),(.int .i64 0),(.int .i64 0),(.int .i64 0),(.int .i64 0),(.bool false)] (tZ 5) (tZ 6)),mv 2 7]
 .ret)))⟩
theorem cf31:cFn Tryz.prog Tryz.f44=some af31:=by kernel_rfl
theorem gd31:GD 44 af31:=gG Tryz.func44 cf31 (by kernel_rfl)
def af41:AFn:=⟨5,[(2,none)],(sr [oZ 2 (.mov (.const (.str [])))]
 (sr [mv 3 0,ca1 4 50 3,mv 2 4]
 .ret))⟩
theorem cf41:cFn Tryz.prog Tryz.f35=some af41:=by kernel_rfl
theorem gd41:GD 35 af41:=gG Tryz.func35 cf41 (by kernel_rfl)
def af53:AFn:=⟨5,[(2,none)],(sr [oZ 2 (.mov (.const (.str [])))]
 (sr [mv 3 0,ca1 4 51 3,mv 2 4]
 .ret))⟩
theorem cf53:cFn Tryz.prog Tryz.f36=some af53:=by kernel_rfl
theorem gd53:GD 36 af53:=gG Tryz.func36 cf53 (by kernel_rfl)
def af59:AFn:=⟨29,[(2,none),(3,none)],(sr [bo 1 0,oZ 2 (.mov (.const .nilPtr)),mk 3 0]
 (.seq (sr [fa 5 1 1,lo 6 5,le 7 6,cGk 8 7 400,mv 9 8,gZ 10 9 false (.load (some 2) (tZ 1)),gZ 11 9 false (.call (.fn 73) [tZ 10]),gZ 12 9 false (.bin .gtr .num (tZ 11) (kZ 200)),pk1 13 9 12]
 (.cond (tZ 13) (sr [oZ 2 (.mov (.const .nilPtr)),mk 3 7]
 .ret)
 .skip))
 (.seq (sr [fa 14 0 1,lo 15 14,cLk 16 15 0,mv 17 16,gff 18 17 0 1,gfl 19 17 18,gZ 20 17 false (.bin .gtr .num (tZ 19) (kZ 40)),pk1 21 17 20]
 (.cond (tZ 21) (sr [oZ 2 (.mov (.const .nilPtr)),mk 3 2]
 .ret)
 .skip))
 (sr [lw 22 2 1,oZ 23 (.build [(.int .i64 0),.nilSl,.nilSl,.nilSl,.nilSl,.nilMap,.nilSl] [(0,2,tZ 22)]),bo 24 23,mv 4 24]
 (.seq (sr [mv 25 4,ca1 26 74 25,no 27 26]
 (.cond (tZ 27) (sr [oZ 2 (.mov (.const .nilPtr)),mk 3 3]
 .ret)
 .skip))
 (sr [mv 28 4,mv 2 28,mk 3 0]
 .ret))))))⟩
theorem cf59:cFn Tryz.prog Tryz.f55=some af59:=by kernel_rfl
theorem gd59:GD 55 af59:=gG Tryz.func55 cf59 (by kernel_rfl)
def af71:AFn:=⟨5,[(2,none)],(sr [oZ 2 (.mov (.const (.str [])))]
 (sr [mv 3 0,oZ 4 (.call (.fn 70) [tZ 3,kZ 10]),mv 2 4]
 .ret))⟩
theorem cf71:cFn Tryz.prog Tryz.f50=some af71:=by kernel_rfl
theorem gd71:GD 50 af71:=gG Tryz.func50 cf71 (by kernel_rfl)
def af82:AFn:=⟨49,[(2,none)],(sr [bo 1 0,mfZ 2]
 (.seq (sr [fa 5 0 1,lo 6 5,le 7 6,cGk 8 7 40,mv 9 8,gff 10 9 1 1,gfl 11 9 10,gZ 12 9 false (.bin .lss .num (tZ 11) (kZ 0)),pk1 13 9 12,mv 14 13,gff 15 14 1 1,gfl 16 14 15,gZ 17 14 false (.bin .gtr .num (tZ 16) (kZ 40)),pk1 18 14 17,mv 19 18,gff 20 19 2 1,gfl 21 19 20,gZ 22 19 false (.bin .lss .num (tZ 21) (kZ 1)),pk1 23 19 22,mv 24 23,gff 25 24 2 1,gfl 26 24 25,gZ 27 24 false (.bin .gtr .num (tZ 26) (kZ 20)),pk1 28 24 27]
 (.cond (tZ 28) (sr [mfZ 2]
 .ret)
 .skip))
 (.seq (sr [fa 29 0 1,lo 30 29,le 31 30,mk 32 0]
 (.block 0 (.loop (sr [cL 33 32 31]
 (.seq (.cond (tZ 33) .skip
 (.exit 0))
 (.seq (.block 1 (sr [mv 34 32,ix 35 3 30 32,lw 36 3 35,oZ 4 (.alloc [(.int .i64 0),(.bool false),(.int .i64 0)]),mv 3 34,so 3 4 36]
 (.seq (.region true [lw 37 3 4,ca1 38 32 37,no 39 38,mv 40 39,gff 41 40 0 1,gfl 42 40 41,gfm 43 40 3,gZ 44 40 false (.slSl 3 (tZ 42) none (some (tZ 43)) none),gZ 45 40 false (.load (some 3) (tZ 4)),gZ 46 40 false (.call (.fn 33) [tZ 44,tZ 45]),pk1 47 40 46])
 (.cond (tZ 47) (sr [mfZ 2]
 .ret)
 .skip))))
 (rf [aDk 48 32 1,mv 32 48])))))))
 (sr [mtZ 2]
 .ret))))⟩
theorem cf82:cFn Tryz.prog Tryz.f10=some af82:=by kernel_rfl
theorem gd82:GD 10 af82:=gG Tryz.func10 cf82 (by kernel_rfl)
def af93:AFn:=⟨27,[(2,none)],(sr [oZ 2 (.mov (.const (.str [])))]
 (.seq (sr [mv 3 0,cLk 4 3 0]
 (.cond (tZ 4) (.seq (sr [mv 5 0,mv 6 0,oZ 7 (.un .neg (tZ 6)),cE 8 5 7]
 (.cond (tZ 8) (sr [oZ 2 (.mov (.const (.str [45,57,50,50,51,51,55,50,48,51,54,56,53,52,55,55,53,56,48,56])))]
 .ret)
 .skip))
 (sr [mv 9 0,oZ 10 (.un .neg (tZ 9)),ca1 11 51 10,oZ 12 (.bin .add .num (.const (.str [45])) (tZ 11)),mv 2 12]
 .ret))
 .skip))
 (.seq (sr [mv 13 0,cLk 14 13 10]
 (.cond (tZ 14) (sr [mv 15 0,oZ 16 (.bin .add .num (kZ 48) (tZ 15)),oZ 17 (.convInt .u8 (tZ 16)),oZ 18 (.mkSl 1 1 [(.int .u8 0)] [(0,tZ 17)]),oZ 19 (.toStr (tZ 18)),mv 2 19]
 .ret)
 .skip))
 (sr [mv 20 0,aQk 21 20 10,ca1 22 51 21,mv 23 0,aRk 24 23 10,ca1 25 51 24,aD 26 22 25,mv 2 26]
 .ret))))⟩
theorem cf93:cFn Tryz.prog Tryz.f51=some af93:=by kernel_rfl
theorem gd93:GD 51 af93:=gG Tryz.func51 cf93 (by kernel_rfl)
end Go.Known
end
section
namespace Go.Known
open Go Go.AE Go.Proofs
def af103:AFn:=⟨20,[(2,none)],(sr [bo 1 0,mk 2 0]
 (sr [mk 3 0]
 (.seq (sr [fa 6 1 1,lo 7 6,le 8 7,mk 9 0]
 (.block 0 (.loop (sr [cL 10 9 8]
 (.seq (.cond (tZ 10) .skip
 (.exit 0))
 (.seq (.block 1 (sr [ix 11 6 7 9,lw 12 6 11,oZ 5 (.alloc [(.int .i64 0),(.int .i64 0),(.int .i64 0),(.int .i64 0),(.int .i64 0),(.bool false)]),so 6 5 12]
 (sr [fa 13 0 5,lo 14 13,cEk 15 14 2]
 (.cond (tZ 15) (rf [mv 16 3,aDk 17 16 1,mv 3 17])
 .skip))))
 (rf [aDk 18 9 1,mv 9 18])))))))
 (sr [mv 19 3,mv 2 19]
 .ret))))⟩
theorem cf103:cFn Tryz.prog Tryz.f73=some af103:=by kernel_rfl
theorem gd103:GD 73 af103:=gG Tryz.func73 cf103 (by kernel_rfl)
def af104:AFn:=⟨32,[(2,none)],(sr [mfZ 2]
 (.seq (sr [mv 5 0,nc 6 5,fa 7 0 6,fa 8 1 7,lo 9 8,le 10 9,cEk 11 10 0]
 (.cond (tZ 11) (sr [mtZ 2]
 .ret)
 .skip))
 (.seq (sr [mv 12 0,oZ 13 (.mkFunc (.func 97) [tZ 12] []),mv 14 0,oZ 15 (.mkFunc (.func 98) [tZ 14] []),mv 16 0,oZ 17 (.mkFunc (.func 99) [tZ 16] []),mv 18 0,oZ 19 (.mkFunc (.func 100) [tZ 18] []),mv 20 0,oZ 21 (.mkFunc (.func 101) [tZ 20] []),oZ 22 (.mkSl 1 5 [.nilFunc] [(0,tZ 13),(1,tZ 15),(2,tZ 17),(3,tZ 19),(4,tZ 21)]),le 23 22,mk 24 0]
 (.block 0 (.loop (sr [cL 25 24 23]
 (.seq (.cond (tZ 25) .skip
 (.exit 0))
 (.seq (.block 1 (sr [ix 26 1 22 24,lo 27 26,mv 4 27]
 (sr [mv 28 4,oZ 29 (.call (tZ 28) []),no 30 29]
 (.cond (tZ 30) (sr [mfZ 2]
 .ret)
 .skip))))
 (rf [aDk 31 24 1,mv 24 31])))))))
 (sr [mtZ 2]
 .ret))))⟩
theorem cf104:cFn Tryz.prog Tryz.f74=some af104:=by kernel_rfl
theorem gd104:GD 74 af104:=gG Tryz.func74 cf104 (by kernel_rfl)
def af105:AFn:=⟨156,[(4,none)],(sr [mk 4 0]
 (.seq (.region true [mv 15 0,nc 16 15,fa 17 0 16,fa 18 1 17,lo 19 18,le 20 19,mv 21 0,nc 22 21,fa 23 3 22,lo 24 23,le 25 24,mv 5 20,mv 6 25])
 (.seq (sr [mv 26 1,mv 27 5,oZ 28 (.bin .mul .num (kZ 2) (tZ 27)),cH 29 26 28]
 (.cond (tZ 29) (sr [mv 30 1,mv 31 5,oZ 32 (.bin .mul .num (kZ 2) (tZ 31)),aS 33 30 32,aQk 34 33 2,mv 7 34]
 (sr [mv 35 1,aRk 36 35 2,cEk 37 36 0,mv 8 37]
 (sr [mv 38 0,nc 39 38,fa 40 3 39,lo 41 40,mv 42 7,ix 43 1 41 42,lo 44 43,mv 9 44]
 (.seq (sr [mv 45 8]
 (.cond (tZ 45) (.region true [mv 46 0,nc 47 46,fa 48 3 47,lo 49 48,mv 50 7,aDk 51 50 1,mv 52 6,aR 53 51 52,ix 54 1 49 53,lo 55 54,mv 9 55])
 .skip))
 (.seq (sr [mv 56 8,mv 57 0,nc 58 57,fa 59 2 58,lo 60 59,mv 61 9,ix 62 1 60 61,lo 63 62,oZ 64 (.bin .eql .bool (tZ 56) (tZ 63))]
 (.cond (tZ 64) (sr [mv 65 0,mv 66 9,ca2 67 139 65 66,mv 4 67]
 .ret)
 .skip))
 (sr [mv 68 0,mv 69 9,ca2 70 140 68 69,mv 4 70]
 .ret))))))
 .skip))
 (sr [mv 71 1,aRk 72 71 2,cEk 73 72 0,mv 10 73]
 (sr [mv 74 1,aQk 75 74 2,mv 11 75]
 (.seq (sr [mv 76 10]
 (.cond (tZ 76) (rf [mv 77 11,aDk 78 77 1,mv 79 5,aR 80 78 79,mv 11 80])
 .skip))
 (sr [mv 81 0,nc 82 81,fa 83 0 82,fa 84 1 83,lo 85 84,mv 86 11,ix 87 6 85 86,lw 88 6 87,oZ 12 (.alloc [(.int .i64 0),(.int .i64 0),(.int .i64 0),(.int .i64 0),(.int .i64 0),(.bool false)]),so 6 12 88]
 (.seq (sr [fa 89 0 12,lo 90 89,cEk 91 90 1]
 (.cond (tZ 91) (.seq (sr [mv 92 10,mv 93 0,nc 94 93,fa 95 2 94,lo 96 95,mv 97 11,ix 98 1 96 97,lo 99 98,oZ 100 (.bin .eql .bool (tZ 92) (tZ 99))]
 (.cond (tZ 100) (sr [mv 101 5,oZ 102 (.bin .mul .num (kZ 2) (tZ 101)),mv 103 0,nc 104 103,fa 105 4 104,lo 106 105,mv 107 11,ix 108 1 106 107,lo 109 108,oZ 110 (.bin .mul .num (kZ 2) (tZ 109)),aD 111 102 110,mv 4 111]
 .ret)
 .skip))
 (sr [mv 112 5,oZ 113 (.bin .mul .num (kZ 2) (tZ 112)),mv 114 0,nc 115 114,fa 116 4 115,lo 117 116,mv 118 11,ix 119 1 117 118,lo 120 119,aSk 121 120 1,mv 122 6,aD 123 121 122,mv 124 6,aR 125 123 124,oZ 126 (.bin .mul .num (kZ 2) (tZ 125)),aD 127 113 126,aDk 128 127 1,mv 4 128]
 .ret))
 .skip))
 (.seq (.region true [mv 129 0,nc 130 129,fa 131 5 130,lo 132 131,fa 133 3 12,lo 134 133,oZ 135 (.lookup .int (.agg [(.int .i64 0),(.int .i64 0)]) false (tZ 132) (tZ 134)),⟨(some 13),.alloc [(.int .i64 0),(.int .i64 0)],none,[3,5,6]⟩,so 2 13 135])
 (sr [oZ 136 (.idxAA 2 1 (tZ 13) (kZ 1)),lo 137 136,mv 14 137]
 (.seq (sr [fa 138 5 12,lo 139 138]
 (.cond (tZ 139) (rf [oZ 140 (.idxAA 2 1 (tZ 13) (kZ 0)),lo 141 140,mv 14 141])
 .skip))
 (.seq (sr [mv 142 10,fa 143 5 12,lo 144 143,fa 145 4 12,lo 146 145,cEk 147 146 1,oZ 148 (.bin .eql .bool (tZ 144) (tZ 147)),oZ 149 (.bin .eql .bool (tZ 142) (tZ 148))]
 (.cond (tZ 149) (sr [mv 150 0,mv 151 14,ca2 152 140 150 151,mv 4 152]
 .ret)
 .skip))
 (sr [mv 153 0,mv 154 14,ca2 155 139 153 154,mv 4 155]
 .ret)))))))))))))⟩
theorem cf105:cFn Tryz.prog Tryz.f121=some af105:=by kernel_rfl
theorem gd105:GD 121 af105:=gG Tryz.func121 cf105 (by kernel_rfl)
def af110:AFn:=⟨54,[(4,none)],(sr [oZ 4 (.mov (.const (.str [])))]
 (.seq (sr [mv 10 1,cEk 11 10 10]
 (.cond (tZ 11) (.seq (sr [mv 12 0,oZ 13 (.bin .leq .num (kZ 0) (tZ 12)),mv 14 13,gtm 15 14 0,gZ 16 14 true (.bin .lss .num (tZ 15) (kZ 100)),pk0 17 14 16]
 (.cond (tZ 17) (sr [mv 18 0,ca1 19 83 18,mv 4 19]
 .ret)
 .skip))
 (sr [oZ 5 (.alloc [(.int .u8 0),(.int .u8 0),(.int .u8 0),(.int .u8 0),(.int .u8 0),(.int .u8 0),(.int .u8 0),(.int .u8 0),(.int .u8 0),(.int .u8 0),(.int .u8 0),(.int .u8 0),(.int .u8 0),(.int .u8 0),(.int .u8 0),(.int .u8 0),(.int .u8 0),(.int .u8 0),(.int .u8 0),(.int .u8 0),(.int .u8 0),(.int .u8 0),(.int .u8 0),(.int .u8 0)])]
 (sr [mv 20 0,oZ 21 (.convInt .u64 (tZ 20)),mv 6 21]
 (.seq (sr [mv 22 0,cLk 23 22 0]
 (.cond (tZ 23) (rf [mv 24 6,oZ 25 (.un .neg (tZ 24)),mv 6 25])
 .skip))
 (sr [mv 26 6,ca1 27 84 26,mv 7 27]
 (sr [mv 28 7,oZ 29 (.bin .add .num (kZ 1) (tZ 28)),oZ 30 (.slArr 24 1 (tZ 5) (some (kZ 1)) (some (tZ 29))),mv 31 6,ca2 32 85 30 31]
 (.seq (sr [mv 33 0,cLk 34 33 0]
 (.cond (tZ 34) (sr [oZ 35 (.idxAA 24 1 (tZ 5) (kZ 0)),pZ (.store 1 (tZ 35) (.const (.int .u8 45)))]
 (sr [mv 36 7,oZ 37 (.bin .add .num (kZ 1) (tZ 36)),oZ 38 (.slArr 24 1 (tZ 5) none (some (tZ 37))),oZ 39 (.toStr (tZ 38)),mv 4 39]
 .ret))
 .skip))
 (sr [mv 40 7,oZ 41 (.bin .add .num (kZ 1) (tZ 40)),oZ 42 (.slArr 24 1 (tZ 5) (some (kZ 1)) (some (tZ 41))),oZ 43 (.toStr (tZ 42)),mv 4 43]
 .ret))))))))
 .skip))
 (sr [mv 45 0,oZ 46 (.convInt .u64 (tZ 45)),mv 47 1,mv 48 0,cLk 49 48 0,oZ 50 (.call (.fn 86) [(.const .nilSl),tZ 46,tZ 47,tZ 49,bZ false]),mv 44 50,ex 51 44 0,ex 52 44 1,mv 8 51,mv 9 52]
 (sr [mv 53 9,mv 4 53]
 .ret))))⟩
theorem cf110:cFn Tryz.prog Tryz.f70=some af110:=by kernel_rfl
theorem gd110:GD 70 af110:=gG Tryz.func70 cf110 (by kernel_rfl)
def af118:AFn:=⟨21,[(2,none)],(sr [bo 1 0,mfZ 2]
 (sr [fa 3 0 1,lo 4 3,cHk 5 4 1,mv 6 5,gtf 7 6 0 1,gtl 8 6 7,gZ 9 6 true (.bin .leq .num (tZ 8) (kZ 9)),pk0 10 6 9,mv 11 10,gtf 12 11 2 1,gtl 13 11 12,gZ 14 11 true (.bin .geq .num (tZ 13) (kZ 0)),pk0 15 11 14,mv 16 15,gtf 17 16 2 1,gtl 18 16 17,gZ 19 16 true (.bin .leq .num (tZ 18) (kZ 6)),pk0 20 16 19,mv 2 20]
 .ret))⟩
theorem cf118:cFn Tryz.prog Tryz.f32=some af118:=by kernel_rfl
theorem gd118:GD 32 af118:=gG Tryz.func32 cf118 (by kernel_rfl)
def af119:AFn:=⟨9,[(4,none)],(sr [bo 3 1,mfZ 4]
 (sr [mv 5 0,lw 6 3 3,ca2 7 34 5 6,cHk 8 7 0,mv 4 8]
 .ret))⟩
theorem cf119:cFn Tryz.prog Tryz.f33=some af119:=by kernel_rfl
theorem gd119:GD 33 af119:=gG Tryz.func33 cf119 (by kernel_rfl)
def af120:AFn:=⟨53,[(2,none)],(sr [bo 1 0,mfZ 2]
 (sr [mfZ 3]
 (.seq (sr [fa 7 1 1,lo 8 7,le 9 8,mk 10 0]
 (.block 0 (.loop (sr [cL 11 10 9]
 (.seq (.cond (tZ 11) .skip
 (.exit 0))
 (.seq (.block 1 (sr [mv 12 10,ix 13 6 8 10,lw 14 6 13,oZ 5 (.alloc [(.int .i64 0),(.int .i64 0),(.int .i64 0),(.int .i64 0),(.int .i64 0),(.bool false)]),mv 4 12,so 6 5 14]
 (.seq (sr [lw 15 6 5,ca1 16 52 15,no 17 16]
 (.cond (tZ 17) (.exit 1)
 .skip))
 (sr [mv 18 3,no 19 18,mv 3 19]
 (.seq (.region true [fa 20 1 1,lo 21 20,mv 22 4,aDk 23 22 1,fa 24 1 1,lo 25 24,le 26 25,aR 27 23 26,ix 28 6 21 27,lw 29 6 28,⟨(some 6),.alloc [(.int .i64 0),(.int .i64 0),(.int .i64 0),(.int .i64 0),(.int .i64 0),(.bool false)],none,[1,5,8,9]⟩,so 6 6 29])
 (sr [mv 30 3,mv 31 30,gZ 32 31 true (.load (some 6) (tZ 6)),gZ 33 31 true (.call (.fn 52) [tZ 32]),gZ 34 31 true (.un .not (tZ 33)),gtm 35 31 34,gff 36 35 1 6,gfl 37 35 36,gff 38 35 1 5,gfl 39 35 38,gZ 40 35 false (.bin .sub .num (tZ 37) (tZ 39)),gZ 41 35 false (.bin .neq .num (tZ 40) (kZ 1)),gfm 42 35 41,gtf 43 42 1 5,gtl 44 42 43,gtf 45 42 1 6,gtl 46 42 45,gZ 47 42 true (.bin .sub .num (tZ 44) (tZ 46)),gZ 48 42 true (.bin .neq .num (tZ 47) (kZ 1)),gZ 49 35 false (.pick (tZ 42) (tZ 48) (bZ false)),gZ 50 31 true (.pick (tZ 35) (bZ true) (tZ 49)),pk0 51 31 50]
 (.cond (tZ 51) (sr [mfZ 2]
 .ret)
 .skip)))))))
 (rf [aDk 52 10 1,mv 10 52])))))))
 (sr [mtZ 2]
 .ret))))⟩
theorem cf120:cFn Tryz.prog Tryz.f40=some af120:=by kernel_rfl
theorem gd120:GD 40 af120:=gG Tryz.func40 cf120 (by kernel_rfl)
def af126:AFn:=⟨8,[(2,none)],(sr [mk 2 0]
 (.seq (.cond (bZ false) (sr [mv 3 0,oZ 4 (.convInt .u32 (tZ 3)),ca1 5 95 4,mv 2 5]
 .ret)
 .skip)
 (sr [mv 6 0,ca1 7 96 6,mv 2 7]
 .ret)))⟩
theorem cf126:cFn Tryz.prog Tryz.f72=some af126:=by kernel_rfl
theorem gd126:GD 72 af126:=gG Tryz.func72 cf126 (by kernel_rfl)
def af131:AFn:=⟨11,[(2,none)],(sr [bo 1 0,mfZ 2]
 (sr [lo 3 1,nc 4 3,fa 5 0 4,fa 6 1 5,lo 7 6,oZ 8 (.mkFunc (.func 119) [] [tZ 1]),ca2 9 118 7 8,no 10 9,mv 2 10]
 .ret))⟩
theorem cf131:cFn Tryz.prog Tryz.f97=some af131:=by kernel_rfl
theorem gd131:GD 97 af131:=gG Tryz.func97 cf131 (by kernel_rfl)
def af132:AFn:=⟨21,[(2,none)],(sr [mfZ 2]
 (sr [mv 3 0,nc 4 3,fa 5 0 4,fa 6 1 5,lo 7 6,oZ 8 (.idxA 6 (tZ 7) (kZ 0)),fa 9 0 8,lo 10 9,cEk 11 10 1,mv 12 11,gtm 13 12 0,gZ 14 12 true (.nilChk (tZ 13)),gtf 15 12 0 14,gZ 16 12 true (.load (some 2) (tZ 15)),gZ 17 12 true (.call (.fn 120) [tZ 16]),gZ 18 12 true (.bin .rem .num (tZ 17) (kZ 2)),gZ 19 12 true (.bin .eql .num (tZ 18) (kZ 0)),pk0 20 12 19,mv 2 20]
 .ret))⟩
theorem cf132:cFn Tryz.prog Tryz.f98=some af132:=by kernel_rfl
theorem gd132:GD 98 af132:=gG Tryz.func98 cf132 (by kernel_rfl)
def af133:AFn:=⟨171,[(2,none)],(sr [mfZ 2]
 (sr [mv 14 0,mv 15 0,nc 16 15,fa 17 0 16,fa 18 0 17,lo 19 18,aDk 20 19 1,oZ 21 (.makeSl 1 8 [(.int .i64 0)] (tZ 20) (tZ 20)),nc 22 14,fa 23 6 22,so 1 23 21]
 (sr [mv 24 0,mv 25 0,nc 26 25,fa 27 0 26,fa 28 1 27,lo 29 28,le 30 29,oZ 31 (.makeSl 1 1 [(.bool false)] (tZ 30) (tZ 30)),nc 32 24,fa 33 2 32,so 1 33 31]
 (sr [mv 34 0,mv 35 0,nc 36 35,fa 37 0 36,fa 38 1 37,lo 39 38,le 40 39,oZ 41 (.makeSl 1 8 [(.int .i64 0)] (tZ 40) (tZ 40)),nc 42 34,fa 43 4 42,so 1 43 41]
 (sr [mtZ 3]
 (.seq (sr [mv 44 0,nc 45 44,fa 46 0 45,fa 47 1 46,lo 48 47,le 49 48,mk 50 0]
 (.block 0 (.loop (sr [cL 51 50 49]
 (.seq (.cond (tZ 51) .skip
 (.exit 0))
 (.seq (.block 1 (sr [mv 52 50,ix 53 6 48 50,lw 54 6 53,oZ 5 (.alloc [(.int .i64 0),(.int .i64 0),(.int .i64 0),(.int .i64 0),(.int .i64 0),(.bool false)]),mv 4 52,so 6 5 54]
 (sr [fa 55 0 5,lo 56 55,cEk 57 56 1]
 (.cond (tZ 57) (.seq (.region true [mv 58 0,nc 59 58,fa 60 6 59,lo 61 60,fa 62 1 5,lo 63 62,ix 64 1 61 63,lo 65 64,aDk 66 65 1,ix 67 1 61 63,so 1 67 66])
 (sr [mv 68 0,nc 69 68,fa 70 2 69,lo 71 70,mv 72 4,mv 73 3,ix 74 1 71 72,so 1 74 73]
 (rf [mv 75 3,no 76 75,mv 3 76])))
 .skip))))
 (rf [aDk 77 50 1,mv 50 77])))))))
 (sr [mv 78 0,nc 79 78,fa 80 0 79,fa 81 0 80,lo 82 81,aDk 83 82 1,oZ 84 (.makeSl 1 8 [(.int .i64 0)] (tZ 83) (tZ 83)),mv 6 84]
 (sr [mk 7 0]
 (.seq (sr [mv 85 0,nc 86 85,fa 87 6 86,lo 88 87,le 89 88,mk 90 0]
 (.block 2 (.loop (sr [cL 91 90 89]
 (.seq (.cond (tZ 91) .skip
 (.exit 2))
 (.seq (.block 3 (sr [mv 92 90,ix 93 1 88 90,lo 94 93,mv 8 92,mv 9 94]
 (sr [mv 95 6,mv 96 8,mv 97 7,ix 98 1 95 96,so 1 98 97]
 (rf [mv 99 7,mv 100 9,aD 101 99 100,mv 7 101]))))
 (rf [aDk 102 90 1,mv 90 102])))))))
 (sr [mv 103 0,mv 104 7,oZ 105 (.makeSl 1 8 [(.int .i64 0)] (tZ 104) (tZ 104)),nc 106 103,fa 107 3 106,so 1 107 105]
 (sr [mv 108 7,oZ 109 (.makeSl 1 1 [(.bool false)] (tZ 108) (tZ 108)),mv 10 109]
 (.seq (sr [mv 110 0,nc 111 110,fa 112 0 111,fa 113 1 112,lo 114 113,le 115 114,mk 116 0]
 (.block 4 (.loop (sr [cL 117 116 115]
 (.seq (.cond (tZ 117) .skip
 (.exit 4))
 (.seq (.block 5 (sr [mv 118 116,ix 119 6 114 116,lw 120 6 119,oZ 12 (.alloc [(.int .i64 0),(.int .i64 0),(.int .i64 0),(.int .i64 0),(.int .i64 0),(.bool false)]),mv 11 118,so 6 12 120]
 (.seq (sr [fa 121 0 12,lo 122 121,cNk 123 122 1]
 (.cond (tZ 123) (.exit 5)
 .skip))
 (.seq (.seq (.region true [fa 124 2 12,lo 125 124,cLk 126 125 1,mv 127 126,gff 128 127 2 12,gfl 129 127 128,gfm 130 127 0,gZ 131 127 false (.nilChk (tZ 130)),gff 132 127 6 131,gfl 133 127 132,gff 134 127 1 12,gfl 135 127 134,gZ 136 127 false (.idxA 1 (tZ 133) (tZ 135)),gfl 137 127 136,gZ 138 127 false (.bin .gtr .num (tZ 129) (tZ 137)),pk1 139 127 138])
 (.cond (tZ 139) (sr [mfZ 2]
 .ret)
 .skip))
 (.seq (.region true [mv 140 6,fa 141 1 12,lo 142 141,ix 143 1 140 142,lo 144 143,fa 145 2 12,lo 146 145,aD 147 144 146,aSk 148 147 1,mv 13 148])
 (.seq (sr [mv 149 10,mv 150 13,ix 151 1 149 150,lo 152 151]
 (.cond (tZ 152) (sr [mfZ 2]
 .ret)
 .skip))
 (.region true [mv 153 10,mv 154 13,mv 155 0,nc 156 155,fa 157 3 156,lo 158 157,mv 159 13,mv 160 0,nc 161 160,fa 162 4 161,lo 163 162,mv 164 11,mv 165 11,mv 166 13,ix 167 1 153 154,pZ (.store 1 (tZ 167) (bZ true)),ix 168 1 158 159,so 1 168 165,ix 169 1 163 164,so 1 169 166])))))))
 (rf [aDk 170 116 1,mv 116 170])))))))
 (sr [mtZ 2]
 .ret)))))))))))))⟩
theorem cf133:cFn Tryz.prog Tryz.f99=some af133:=by kernel_rfl
theorem gd133:GD 99 af133:=gG Tryz.func99 cf133 (by kernel_rfl)
def af134:AFn:=⟨103,[(2,none)],(sr [mfZ 2]
 (sr [mv 9 0,nc 10 9,fa 11 0 10,lw 12 2 11,ca1 13 73 12,mv 3 13]
 (.seq (sr [mv 14 3,aRk 15 14 2,cNk 16 15 0]
 (.cond (tZ 16) (sr [mfZ 2]
 .ret)
 .skip))
 (sr [mv 17 0,oZ 18 (.mkMap),nc 19 17,fa 20 5 19,so 1 20 18]
 (.seq (sr [mv 21 0,nc 22 21,fa 23 0 22,fa 24 1 23,lo 25 24,le 26 25,mk 27 0]
 (.block 0 (.loop (sr [cL 28 27 26]
 (.seq (.cond (tZ 28) .skip
 (.exit 0))
 (.seq (.block 1 (sr [mv 29 27,ix 30 6 25 27,lw 31 6 30,oZ 5 (.alloc [(.int .i64 0),(.int .i64 0),(.int .i64 0),(.int .i64 0),(.int .i64 0),(.bool false)]),mv 4 29,so 6 5 31]
 (.seq (sr [fa 32 0 5,lo 33 32,cNk 34 33 2]
 (.cond (tZ 34) (.exit 1)
 .skip))
 (.seq (sr [fa 35 3 5,lo 36 35,cLk 37 36 1,mv 38 37,gff 39 38 3 5,gfl 40 38 39,gfm 41 38 3,gZ 42 38 false (.bin .quo .num (tZ 41) (kZ 2)),gZ 43 38 false (.bin .gtr .num (tZ 40) (tZ 42)),pk1 44 38 43]
 (.cond (tZ 44) (sr [mfZ 2]
 .ret)
 .skip))
 (.seq (.region true [mv 46 0,nc 47 46,fa 48 5 47,lo 49 48,fa 50 3 5,lo 51 50,oZ 52 (.lookup .int (.agg [(.int .i64 0),(.int .i64 0)]) true (tZ 49) (tZ 51)),mv 45 52,ex 53 45 0,ex 54 45 1,⟨(some 6),.alloc [(.int .i64 0),(.int .i64 0)],none,[3,5,6]⟩,so 2 6 53,mv 7 54])
 (.seq (sr [mv 55 7,no 56 55]
 (.cond (tZ 56) (rf [oZ 57 (.build [(.int .i64 0),(.int .i64 0)] [(0,1,(kZ (-1))),(1,1,(kZ (-1)))]),so 2 6 57])
 .skip))
 (sr [mk 8 0]
 (.seq (sr [fa 58 5 5,lo 59 58]
 (.cond (tZ 59) (rf [mk 8 1])
 .skip))
 (.seq (.seq (.region true [mv 60 8,oZ 61 (.idxAA 2 1 (tZ 6) (tZ 60)),lo 62 61,cHk 63 62 0,mv 64 63,gfm 65 64 7,gfm 66 64 65,gtm 67 66 0,gZ 68 66 true (.nilChk (tZ 67)),gtf 69 66 0 68,gtf 70 66 1 69,gtl 71 66 70,gtm 72 66 8,gZ 73 66 true (.bin .sub .num (kZ 1) (tZ 72)),gZ 74 66 true (.idxAA 2 1 (tZ 6) (tZ 73)),gtl 75 66 74,gZ 76 66 true (.idxA 6 (tZ 71) (tZ 75)),gtf 77 66 4 76,gtl 78 66 77,gtf 79 66 4 5,gtl 80 66 79,gZ 81 66 true (.bin .neq .num (tZ 78) (tZ 80)),gZ 82 64 false (.pick (tZ 66) (tZ 81) (bZ false)),pk1 83 64 82])
 (.cond (tZ 83) (sr [mfZ 2]
 .ret)
 .skip))
 (sr [mv 84 8,mv 85 4,oZ 86 (.idxAA 2 1 (tZ 6) (tZ 84)),so 1 86 85]
 (.region true [mv 87 0,nc 88 87,fa 89 5 88,lo 90 89,fa 91 3 5,lo 92 91,lw 93 2 6,pZ (.mapUpd .int (tZ 90) (tZ 92) (tZ 93))])))))))))))
 (rf [aDk 94 27 1,mv 27 94])))))))
 (sr [mv 95 0,nc 96 95,fa 97 5 96,lo 98 97,oZ 99 (.lenMap (tZ 98)),mv 100 3,aQk 101 100 2,cE 102 99 101,mv 2 102]
 .ret))))))⟩
theorem cf134:cFn Tryz.prog Tryz.f100=some af134:=by kernel_rfl
theorem gd134:GD 100 af134:=gG Tryz.func100 cf134 (by kernel_rfl)
def af135:AFn:=⟨61,[(2,none)],(sr [mfZ 2]
 (.seq (.region true [mv 8 0,nc 9 8,fa 10 0 9,fa 11 1 10,lo 12 11,le 13 12,oZ 14 (.bin .mul .num (kZ 2) (tZ 13)),mv 15 0,nc 16 15,fa 17 3 16,lo 18 17,le 19 18,oZ 20 (.bin .mul .num (kZ 2) (tZ 19)),aD 21 14 20,mv 3 21])
 (sr [mv 22 3,oZ 23 (.makeSl 1 1 [(.bool false)] (tZ 22) (tZ 22)),mv 4 23]
 (sr [mk 5 0]
 (.seq (sr [mv 24 3,mk 25 0]
 (.block 0 (.loop (sr [cL 26 25 24]
 (.seq (.cond (tZ 26) .skip
 (.exit 0))
 (.seq (.block 1 (sr [mv 27 25,mv 6 27]
 (.seq (sr [mv 28 4,mv 29 6,ix 30 1 28 29,lo 31 30]
 (.cond (tZ 31) (.exit 1)
 .skip))
 (sr [mv 32 5,aDk 33 32 1,mv 5 33]
 (sr [mv 34 6,mv 7 34]
 (.block 2 (.loop (.seq (sr [mv 35 4,mv 36 7,ix 37 1 35 36,lo 38 37,no 39 38]
 (.cond (tZ 39) .skip
 (.exit 2)))
 (.seq (.block 3 (rf [mv 43 4,mv 44 7,ix 45 1 43 44,pZ (.store 1 (tZ 45) (bZ true))]))
 (rf [mv 40 0,mv 41 7,ca2 42 121 40 41,mv 7 42]))))))))))
 (rf [aDk 46 25 1,mv 25 46])))))))
 (.seq (.region true [mv 47 5,mv 48 0,nc 49 48,fa 50 3 49,lo 51 50,le 52 51,mv 53 0,nc 54 53,fa 55 5 54,lo 56 55,oZ 57 (.lenMap (tZ 56)),aD 58 52 57,aDk 59 58 2,cE 60 47 59,mv 2 60])
 .ret))))))⟩
theorem cf135:cFn Tryz.prog Tryz.f101=some af135:=by kernel_rfl
theorem gd135:GD 101 af135:=gG Tryz.func101 cf135 (by kernel_rfl)
def af136:AFn:=⟨20,[(4,none)],(sr [mk 4 0]
 (sr [mv 6 0,nc 7 6,fa 8 0 7,fa 9 1 8,lo 10 9,le 11 10,mv 5 11]
 (sr [mv 12 1,aSk 13 12 1,mv 14 5,aD 15 13 14,mv 16 5,aR 17 15 16,oZ 18 (.bin .mul .num (kZ 2) (tZ 17)),aDk 19 18 1,mv 4 19]
 .ret)))⟩
theorem cf136:cFn Tryz.prog Tryz.f139=some af136:=by kernel_rfl
theorem gd136:GD 139 af136:=gG Tryz.func139 cf136 (by kernel_rfl)
def af137:AFn:=⟨7,[(4,none)],(sr [mk 4 0]
 (sr [mv 5 1,oZ 6 (.bin .mul .num (kZ 2) (tZ 5)),mv 4 6]
 .ret))⟩
theorem cf137:cFn Tryz.prog Tryz.f140=some af137:=by kernel_rfl
theorem gd137:GD 140 af137:=gG Tryz.func140 cf137 (by kernel_rfl)
def af142:AFn:=⟨15,[(2,none)],(sr [oZ 2 (.mov (.const (.str [])))]
 (.seq (sr [mv 3 0,cLk 4 3 10]
 (.cond (tZ 4) (sr [mv 5 0,mv 6 0,aDk 7 6 1,oZ 8 (.slStr (.const (.str [48,49,50,51,52,53,54,55,56,57,97,98,99,100,101,102,103,104,105,106,107,108,109,110,111,112,113,114,115,116,117,118,119,120,121,122])) (some (tZ 5)) (some (tZ 7))),mv 2 8]
 .ret)
 .skip))
 (sr [mv 9 0,aMk 10 9 2,mv 11 0,aMk 12 11 2,aDk 13 12 2,oZ 14 (.slStr (.const (.str [48,48,48,49,48,50,48,51,48,52,48,53,48,54,48,55,48,56,48,57,49,48,49,49,49,50,49,51,49,52,49,53,49,54,49,55,49,56,49,57,50,48,50,49,50,50,50,51,50,52,50,53,50,54,50,55,50,56,50,57,51,48,51,49,51,50,51,51,51,52,51,53,51,54,51,55,51,56,51,57,52,48,52,49,52,50,52,51,52,52,52,53,52,54,52,55,52,56,52,57,53,48,53,49,53,50,53,51,53,52,53,53,53,54,53,55,53,56,53,57,54,48,54,49,54,50,54,51,54,52,54,53,54,54,54,55,54,56,54,57,55,48,55,49,55,50,55,51,55,52,55,53,55,54,55,55,55,56,55,57,56,48,56,49,56,50,56,51,56,52,56,53,56,54,56,55,56,56,56,57,57,48,57,49,57,50,57,51,57,52,57,53,57,54,57,55,57,56,57,57])) (some (tZ 10)) (some (tZ 13))),mv 2 14]
 .ret)))⟩
theorem cf142:cFn Tryz.prog Tryz.f83=some af142:=by kernel_rfl
theorem gd142:GD 83 af142:=gG Tryz.func83 cf142 (by kernel_rfl)
def af150:AFn:=⟨19,[(4,none)],(sr [bo 3 1,mk 4 0]
 (.seq (sr [mv 6 0,le 7 6,mk 8 0]
 (.block 0 (.loop (sr [cL 9 8 7]
 (.seq (.cond (tZ 9) .skip
 (.exit 0))
 (.seq (.block 1 (sr [mv 10 8,mv 5 10]
 (.seq (.region true [lw 11 3 3,mv 12 0,mv 13 5,ix 14 3 12 13,lw 15 3 14,oZ 16 (.bin .eql (.flat [.int,.bool,.int]) (tZ 11) (tZ 15))])
 (.cond (tZ 16) (sr [mv 17 5,mv 4 17]
 .ret)
 .skip))))
 (rf [aDk 18 8 1,mv 8 18])))))))
 (sr [mk 4 (-1)]
 .ret)))⟩
theorem cf150:cFn Tryz.prog Tryz.f34=some af150:=by kernel_rfl
theorem gd150:GD 34 af150:=gG Tryz.func34 cf150 (by kernel_rfl)
def af151:AFn:=⟨6,[(2,none)],(sr [bo 1 0,mfZ 2]
 (sr [fa 3 0 1,lo 4 3,cEk 5 4 1,mv 2 5]
 .ret))⟩
theorem cf151:cFn Tryz.prog Tryz.f52=some af151:=by kernel_rfl
theorem gd151:GD 52 af151:=gG Tryz.func52 cf151 (by kernel_rfl)
def af153:AFn:=⟨25,[(4,none)],(sr [bo 2 0,bo 3 1,mk 4 0]
 (.seq (sr [lw 6 3 2,ca1 7 10 6,no 8 7]
 (.cond (tZ 8) (sr [mk 4 2]
 .ret)
 .skip))
 (.seq (sr [lw 9 2 3,ca1 10 39 9,mv 5 10]
 (sr [mv 11 5,cNk 12 11 0]
 (.cond (tZ 12) (sr [mv 13 5,mv 4 13]
 .ret)
 .skip)))
 (.seq (sr [fa 14 0 3,lo 15 14,fa 16 0 2,lo 17 16,le 18 17,cN 19 15 18,mv 20 19,gZ 21 20 false (.load (some 2) (tZ 3)),gZ 22 20 false (.call (.fn 40) [tZ 21]),gZ 23 20 false (.un .not (tZ 22)),pk1 24 20 23]
 (.cond (tZ 24) (sr [mk 4 2]
 .ret)
 .skip))
 (sr [mk 4 0]
 .ret)))))⟩
theorem cf153:cFn Tryz.prog Tryz.f37=some af153:=by kernel_rfl
theorem gd153:GD 37 af153:=gG Tryz.func37 cf153 (by kernel_rfl)
def af154:AFn:=⟨65,[(4,none)],(sr [bo 2 0,mnZ 4]
 (sr [mnZ 5]
 (sr [mfZ 6]
 (.seq (sr [fa 10 1 2,lo 11 10,le 12 11,mk 13 0]
 (.block 0 (.loop (sr [cL 14 13 12]
 (.seq (.cond (tZ 14) .skip
 (.exit 0))
 (.seq (.block 1 (sr [mv 15 13,ix 16 6 11 13,lw 17 6 16,oZ 8 (.alloc [(.int .i64 0),(.int .i64 0),(.int .i64 0),(.int .i64 0),(.int .i64 0),(.bool false)]),mv 7 15,so 6 8 17]
 (.seq (sr [lw 18 6 8,ca1 19 52 18,no 20 19]
 (.cond (tZ 20) (.exit 1)
 .skip))
 (sr [mv 21 6,no 22 21,mv 6 22]
 (sr [mv 23 7,aDk 24 23 1,fa 25 1 2,lo 26 25,le 27 26,aR 28 24 27,mv 9 28]
 (.seq (.seq (.region true [mv 29 6,no 30 29,mv 31 30,gff 32 31 1 8,gfl 33 31 32,gff 34 31 1 2,gfl 35 31 34,gfm 36 31 9,gZ 37 31 false (.idxA 6 (tZ 35) (tZ 36)),gff 38 31 1 37,gfl 39 31 38,gZ 40 31 false (.minmax true [tZ 33,tZ 39]),gfm 41 31 1,gZ 42 31 false (.bin .neq .num (tZ 40) (tZ 41)),pk1 43 31 42])
 (.cond (tZ 43) (.exit 1)
 .skip))
 (sr [fa 44 1 8,lo 45 44,mv 46 1,cE 47 45 46]
 (.cond (tZ 47) (rf [mv 48 5,mv 49 9,mv 50 7,oZ 51 (.build [(.int .i64 0),(.int .i64 0)] [(0,1,tZ 49),(1,1,tZ 50)]),oZ 52 (.mkSl 2 1 [(.int .i64 0),(.int .i64 0)] [(0,tZ 51)]),oZ 53 (.append 2 16 [(.int .i64 0),(.int .i64 0)] (tZ 48) (tZ 52)),mv 5 53])
 (rf [mv 54 5,mv 55 7,mv 56 9,oZ 57 (.build [(.int .i64 0),(.int .i64 0)] [(0,1,tZ 55),(1,1,tZ 56)]),oZ 58 (.mkSl 2 1 [(.int .i64 0),(.int .i64 0)] [(0,tZ 57)]),oZ 59 (.append 2 16 [(.int .i64 0),(.int .i64 0)] (tZ 54) (tZ 58)),mv 5 59])))))))))
 (rf [aDk 60 13 1,mv 13 60])))))))
 (sr [mv 61 5,oZ 62 (.mkFunc (.func 54) [] [tZ 2]),ca2 63 53 61 62]
 (sr [mv 64 5,mv 4 64]
 .ret))))))⟩
theorem cf154:cFn Tryz.prog Tryz.f38=some af154:=by kernel_rfl
theorem gd154:GD 38 af154:=gG Tryz.func38 cf154 (by kernel_rfl)
def af164:AFn:=⟨25,[(2,none)],(sr [mk 2 0]
 (.seq (sr [mv 3 0,oZ 4 (.bin .geq .num (tZ 3) (.const (.int .u64 4294967296)))]
 (.cond (tZ 4) (sr [mv 5 0,oZ 6 (.bin .shr .num (tZ 5) (.const (.int .u64 32))),mv 0 6]
 (rf [mk 2 32]))
 .skip))
 (.seq (sr [mv 7 0,oZ 8 (.bin .geq .num (tZ 7) (.const (.int .u64 65536)))]
 (.cond (tZ 8) (sr [mv 9 0,oZ 10 (.bin .shr .num (tZ 9) (.const (.int .u64 16))),mv 0 10]
 (rf [mv 11 2,aDk 12 11 16,mv 2 12]))
 .skip))
 (.seq (sr [mv 13 0,oZ 14 (.bin .geq .num (tZ 13) (.const (.int .u64 256)))]
 (.cond (tZ 14) (sr [mv 15 0,oZ 16 (.bin .shr .num (tZ 15) (.const (.int .u64 8))),mv 0 16]
 (rf [mv 17 2,aDk 18 17 8,mv 2 18]))
 .skip))
 (sr [mv 19 2,mv 20 0,oZ 21 (.convInt .u8 (tZ 20)),oZ 22 (.idxStr (.const (.str [0,1,2,2,3,3,3,3,4,4,4,4,4,4,4,4,5,5,5,5,5,5,5,5,5,5,5,5,5,5,5,5,6,6,6,6,6,6,6,6,6,6,6,6,6,6,6,6,6,6,6,6,6,6,6,6,6,6,6,6,6,6,6,6,7,7,7,7,7,7,7,7,7,7,7,7,7,7,7,7,7,7,7,7,7,7,7,7,7,7,7,7,7,7,7,7,7,7,7,7,7,7,7,7,7,7,7,7,7,7,7,7,7,7,7,7,7,7,7,7,7,7,7,7,7,7,7,7,8,8,8,8,8,8,8,8,8,8,8,8,8,8,8,8,8,8,8,8,8,8,8,8,8,8,8,8,8,8,8,8,8,8,8,8,8,8,8,8,8,8,8,8,8,8,8,8,8,8,8,8,8,8,8,8,8,8,8,8,8,8,8,8,8,8,8,8,8,8,8,8,8,8,8,8,8,8,8,8,8,8,8,8,8,8,8,8,8,8,8,8,8,8,8,8,8,8,8,8,8,8,8,8,8,8,8,8,8,8,8,8,8,8,8,8,8,8,8,8,8,8,8,8,8,8,8,8])) (tZ 21)),oZ 23 (.convInt .i64 (tZ 22)),aD 24 19 23,mv 2 24]
 .ret)))))⟩
theorem cf164:cFn Tryz.prog Tryz.f96=some af164:=by kernel_rfl
theorem gd164:GD 96 af164:=gG Tryz.func96 cf164 (by kernel_rfl)
def af166:AFn:=⟨9,[(4,none)],(sr [mfZ 4]
 (sr [mv 5 0,mv 6 1,ca2 7 138 5 6,cHk 8 7 0,mv 4 8]
 .ret))⟩
theorem cf166:cFn Tryz.prog Tryz.f118=some af166:=by kernel_rfl
theorem gd166:GD 118 af166:=gG Tryz.func118 cf166 (by kernel_rfl)
def af167:AFn:=⟨55,[(3,none)],(sr [bo 2 0,mfZ 3]
 (.seq (sr [fa 4 0 2,lo 5 4]
 (.block 0 (sr [cEk 7 5 1,mv 6 7]
 (.cond (tZ 6) (.seq (.region true [fa 8 1 2,lo 9 8,cLk 10 9 0,mv 11 10,gff 12 11 1 2,gfl 13 11 12,gfl 14 11 1,gZ 15 11 false (.nilChk (tZ 14)),gff 16 11 0 15,gff 17 11 0 16,gfl 18 11 17,gZ 19 11 false (.bin .gtr .num (tZ 13) (tZ 18)),pk1 20 11 19,mv 21 20,gff 22 21 3 2,gfl 23 21 22,gZ 24 21 false (.bin .neq .num (tZ 23) (kZ 0)),pk1 25 21 24,mv 26 25,gff 27 26 4 2,gfl 28 26 27,gZ 29 26 false (.bin .neq .num (tZ 28) (kZ 0)),pk1 30 26 29,mv 31 30,gff 32 31 5 2,gfl 33 31 32,pk1 34 31 33,mv 3 34])
 .ret)
 (sr [cEk 36 5 2,mv 35 36]
 (.cond (tZ 35) (sr [fa 37 1 2,lo 38 37,cNk 39 38 0,mv 40 39,gff 41 40 2 2,gfl 42 40 41,gZ 43 40 false (.bin .neq .num (tZ 42) (kZ 0)),pk1 44 40 43,mv 45 44,gff 46 45 4 2,gfl 47 45 46,gZ 48 45 false (.bin .neq .num (tZ 47) (kZ 1)),gfm 49 45 48,gtf 50 49 4 2,gtl 51 49 50,gZ 52 49 true (.bin .neq .num (tZ 51) (kZ (-1))),gZ 53 45 false (.pick (tZ 49) (tZ 52) (bZ false)),pk1 54 45 53,mv 3 54]
 .ret)
 .skip))))))
 (sr [mtZ 3]
 .ret)))⟩
theorem cf167:cFn Tryz.prog Tryz.f119=some af167:=by kernel_rfl
theorem gd167:GD 119 af167:=gG Tryz.func119 cf167 (by kernel_rfl)
def af168:AFn:=⟨20,[(2,none)],(sr [bo 1 0,mk 2 0]
 (sr [mk 3 0]
 (.seq (sr [fa 6 1 1,lo 7 6,le 8 7,mk 9 0]
 (.block 0 (.loop (sr [cL 10 9 8]
 (.seq (.cond (tZ 10) .skip
 (.exit 0))
 (.seq (.block 1 (sr [ix 11 6 7 9,lw 12 6 11,oZ 5 (.alloc [(.int .i64 0),(.int .i64 0),(.int .i64 0),(.int .i64 0),(.int .i64 0),(.bool false)]),so 6 5 12]
 (sr [fa 13 0 5,lo 14 13,cEk 15 14 1]
 (.cond (tZ 15) (rf [mv 16 3,aDk 17 16 1,mv 3 17])
 .skip))))
 (rf [aDk 18 9 1,mv 9 18])))))))
 (sr [mv 19 3,mv 2 19]
 .ret))))⟩
theorem cf168:cFn Tryz.prog Tryz.f120=some af168:=by kernel_rfl
theorem gd168:GD 120 af168:=gG Tryz.func120 cf168 (by kernel_rfl)
def af176:AFn:=⟨14,[],(sr [mv 5 0,le 6 5,mv 4 6]
 (rf [mv 7 0,mv 8 4,mv 9 4,oZ 10 (.convInt .u64 (tZ 9)),ca1 11 72 10,mv 12 1,oZ 13 (.call (.fn 71) [tZ 7,kZ 0,tZ 8,tZ 11,tZ 12])]))⟩
theorem cf176:cFn Tryz.prog Tryz.f53=some af176:=by kernel_rfl
theorem gd176:GD 53 af176:=gG Tryz.func53 cf176 (by kernel_rfl)
def af183:AFn:=⟨19,[(4,none)],(sr [mk 4 0]
 (.seq (sr [mv 6 0,le 7 6,mk 8 0]
 (.block 0 (.loop (sr [cL 9 8 7]
 (.seq (.cond (tZ 9) .skip
 (.exit 0))
 (.seq (.block 1 (sr [mv 10 8,mv 5 10]
 (sr [mv 11 1,mv 12 0,mv 13 5,ix 14 6 12 13,lw 15 6 14,oZ 16 (.call (tZ 11) [tZ 15])]
 (.cond (tZ 16) (sr [mv 17 5,mv 4 17]
 .ret)
 .skip))))
 (rf [aDk 18 8 1,mv 8 18])))))))
 (sr [mk 4 (-1)]
 .ret)))⟩
theorem cf183:cFn Tryz.prog Tryz.f138=some af183:=by kernel_rfl
theorem gd183:GD 138 af183:=gG Tryz.func138 cf183 (by kernel_rfl)
def af186:AFn:=⟨148,[],(sr [mtZ 10]
 (sr [mtZ 11]
 (.block 0 (.loop (.block 1 (sr [mv 21 2,mv 22 1,aS 23 21 22,mv 12 23]
 (.seq (sr [mv 24 12,cKk 25 24 12]
 (.cond (tZ 25) (sr [mv 26 0,mv 27 1,mv 28 2,mv 29 4,oZ 30 (.call (.fn 87) [tZ 26,tZ 27,tZ 28,tZ 29])]
 .ret)
 .skip))
 (.seq (sr [mv 31 3,cEk 32 31 0]
 (.cond (tZ 32) (sr [mv 33 0,mv 34 1,mv 35 2,mv 36 4,oZ 37 (.call (.fn 88) [tZ 33,tZ 34,tZ 35,tZ 36])]
 .ret)
 .skip))
 (.seq (sr [mv 38 10,no 39 38]
 (.cond (tZ 39) (sr [mv 40 0,mv 41 1,mv 42 2,mv 43 4,oZ 44 (.call (.fn 89) [tZ 40,tZ 41,tZ 42,tZ 43])]
 (rf [mv 45 3,aSk 46 45 1,mv 3 46]))
 .skip))
 (sr [mv 48 0,mv 49 1,mv 50 2,mv 51 4,oZ 52 (.call (.fn 90) [tZ 48,tZ 49,tZ 50,tZ 51]),mv 47 52,ex 53 47 0,ex 54 47 1,mv 13 53,mv 14 54]
 (.seq (sr [mv 55 14,cEk 56 55 2]
 (.cond (tZ 56) (sr [mv 57 0,mv 58 1,mv 59 2,mv 60 4,oZ 61 (.call (.fn 91) [tZ 57,tZ 58,tZ 59,tZ 60])]
 (sr [mv 62 2,aSk 63 62 1,mv 64 13,mv 65 1,aS 66 64 65,aS 67 63 66,mv 13 67]
 (rf [mk 14 1])))
 .skip))
 (.seq (sr [mv 68 10,mv 69 68,gtm 70 69 11,pk0 71 69 70,mv 72 71,gtm 73 72 14,gZ 74 72 true (.bin .eql .num (tZ 73) (kZ 1)),pk0 75 72 74]
 (.cond (tZ 75) (sr [mv 76 0,mv 77 1,mv 78 2,mv 79 4,oZ 80 (.call (.fn 92) [tZ 76,tZ 77,tZ 78,tZ 79])]
 (.cond (tZ 80) .ret
 .skip))
 .skip))
 (.seq (.seq (.region true [mv 81 1,cGk 82 81 0,mv 83 82,gtm 84 83 4,gtm 85 83 0,gtm 86 83 1,gZ 87 83 true (.bin .sub .num (tZ 86) (kZ 1)),gZ 88 83 true (.idxA 2 (tZ 85) (tZ 87)),gZ 89 83 true (.load (some 2) (tZ 88)),gtm 90 83 0,gtm 91 83 13,gZ 92 83 true (.idxA 2 (tZ 90) (tZ 91)),gZ 93 83 true (.load (some 2) (tZ 92)),gZ 94 83 true (.call (tZ 84) [tZ 89,tZ 93]),gZ 95 83 true (.bin .lss .num (tZ 94) (kZ 0)),gZ 96 83 true (.un .not (tZ 95)),pk0 97 83 96])
 (.cond (tZ 97) (sr [mv 98 0,mv 99 1,mv 100 2,mv 101 13,mv 102 4,oZ 103 (.call (.fn 93) [tZ 98,tZ 99,tZ 100,tZ 101,tZ 102]),mv 15 103]
 (sr [mv 104 15,mv 1 104]
 (.exit 1)))
 .skip))
 (sr [mv 106 0,mv 107 1,mv 108 2,mv 109 13,mv 110 4,oZ 111 (.call (.fn 94) [tZ 106,tZ 107,tZ 108,tZ 109,tZ 110]),mv 105 111,ex 112 105 0,ex 113 105 1,mv 16 112,mv 17 113]
 (sr [mv 114 17,mv 11 114]
 (sr [mv 115 16,mv 116 1,aS 117 115 116,mv 118 2,mv 119 16,aS 120 118 119,mv 18 117,mv 19 120]
 (sr [mv 121 12,aQk 122 121 8,mv 20 122]
 (sr [mv 123 18,mv 124 19,cL 125 123 124]
 (.cond (tZ 125) (sr [mv 126 18,mv 127 20,cH 128 126 127,mv 10 128]
 (sr [mv 129 0,mv 130 1,mv 131 16,mv 132 3,mv 133 4,oZ 134 (.call (.fn 71) [tZ 129,tZ 130,tZ 131,tZ 132,tZ 133])]
 (rf [mv 135 16,aDk 136 135 1,mv 1 136])))
 (sr [mv 137 19,mv 138 20,cH 139 137 138,mv 10 139]
 (sr [mv 140 0,mv 141 16,aDk 142 141 1,mv 143 2,mv 144 3,mv 145 4,oZ 146 (.call (.fn 71) [tZ 140,tZ 142,tZ 143,tZ 144,tZ 145])]
 (rf [mv 147 16,mv 2 147]))))))))))))))))))))))⟩
theorem cf186:cFn Tryz.prog Tryz.f71=some af186:=by kernel_rfl
theorem gd186:GD 71 af186:=gG Tryz.func71 cf186 (by kernel_rfl)
def af188:AFn:=⟨53,[],(sr [mv 10 1,aDk 11 10 1,mv 8 11]
 (.block 0 (.loop (.seq (sr [mv 12 8,mv 13 2,cL 14 12 13]
 (.cond (tZ 14) .skip
 (.exit 0)))
 (.seq (.block 1 (sr [mv 17 8,mv 9 17]
 (.block 2 (.loop (.seq (.seq (.region true [mv 18 9,mv 19 1,cG 20 18 19,mv 21 20,gtm 22 21 3,gtm 23 21 0,gtm 24 21 9,gZ 25 21 true (.idxA 2 (tZ 23) (tZ 24)),gZ 26 21 true (.load (some 2) (tZ 25)),gtm 27 21 0,gtm 28 21 9,gZ 29 21 true (.bin .sub .num (tZ 28) (kZ 1)),gZ 30 21 true (.idxA 2 (tZ 27) (tZ 29)),gZ 31 21 true (.load (some 2) (tZ 30)),gZ 32 21 true (.call (tZ 22) [tZ 26,tZ 31]),gZ 33 21 true (.bin .lss .num (tZ 32) (kZ 0)),pk0 34 21 33])
 (.cond (tZ 34) .skip
 (.exit 2)))
 (.seq (.block 3 (.region true [mv 37 0,mv 38 9,mv 39 0,mv 40 9,aSk 41 40 1,mv 42 0,mv 43 9,aSk 44 43 1,ix 45 2 42 44,lw 46 2 45,mv 47 0,mv 48 9,ix 49 2 47 48,lw 50 2 49,ix 51 2 37 38,so 2 51 46,ix 52 2 39 41,so 2 52 50]))
 (rf [mv 35 9,aSk 36 35 1,mv 9 36])))))))
 (rf [mv 15 8,aDk 16 15 1,mv 8 16]))))))⟩
theorem cf188:cFn Tryz.prog Tryz.f87=some af188:=by kernel_rfl
theorem gd188:GD 87 af188:=gG Tryz.func87 cf188 (by kernel_rfl)
end Go.Known
end
