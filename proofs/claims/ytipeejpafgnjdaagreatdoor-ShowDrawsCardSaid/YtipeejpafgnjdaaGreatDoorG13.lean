/- Part 13 of the proof: AeNe, Pd. -/
import Derived.Test.YtipeejpafgnjdaaGreatDoorG12
set_option linter.all false
section
namespace Go.AE
open Go.RowKit
section
variable {P:Program} {dc:Bool} {n base i:Nat} {K:Env→SMem→Prop} {e:Env} {m:SMem}
theorem Zdw:zops P dc n base [] i K e m=K e m:=propext Iff.rfl
theorem Ze6 (d:Option Nat) (op:AOp) (un:List Nat) (r:List AOper):zops P dc n base (⟨d,op,none,un⟩ :: r) i K e m=match op with
 | .call f xs=>(match Zaq n e f xs with
  | some (g,args)=>(match dc with
   | false=>SC P g args m (base+i) fun v m'=>zops P dc n base r (i+1) K (putE e d v) m'
   | true=>DC P g args (base+i) (xOf base i r.length) m fun v z=>zops P dc n base r (i+1) K (putE e d v) (m.app (apD (base+i) z)))
  | none=>False)
 | op=>(match stepD (base+i) (evE n e) m.get op with
  | some (v,w)=>zops P dc n base r (i+1) K (putE e d v) (m.app w)
  | none=>False):=by
 cases op<;>simp only[zops,Zav,gdK]<;>rfl
theorem Zg8 (d:Option Nat) (op:AOp) (g:Nat×Bool) (un:List Nat) (r:List AOper):zops P dc n base (⟨d,op,some g,un⟩ :: r) i K e m=match Zav n e (some g)with
 | some true=>(match op with
  | .call f xs=>(match Zaq n e f xs with
   | some (g,args)=>(match dc with
    | false=>SC P g args m (base+i) fun v m'=>zops P dc n base r (i+1) K (putE e d v) m'
    | true=>DC P g args (base+i) (xOf base i r.length) m fun v z=>zops P dc n base r (i+1) K (putE e d v) (m.app (apD (base+i) z)))
   | none=>False)
  | op=>(match stepD (base+i) (evE n e) m.get op with
   | some (v,w)=>zops P dc n base r (i+1) K (putE e d v) (m.app w)
   | none=>False))
 | some false=>zops P dc n base r (i+1) K (putE e d aundef) m
 | none=>False:=by
 cases op<;>simp only[zops,gdK]<;>rfl
theorem Zct {keep:List Nat} {fs:List (Nat×FT)}:Zf5 P keep n base [] i fs K e m=K e m:=propext Iff.rfl
theorem Zdv {keep:List Nat} {fs:List (Nat×FT)} (d:Option Nat) (op:AOp) (un:List Nat) (r:List AOper):Zf5 P keep n base (⟨d,op,none,un⟩ :: r) i fs K e m=match op with
 | .call f xs=>(match Zaq n e f xs with
  | some (g,args)=>DC P g args (base+i) (xOf base i r.length) m fun v z=>indF fs (.call (ftW (base+i) z) (xOf base i r.length) m.next) un∧Zf5 P keep n base r (i+1) (recF keep i (.call (ftW (base+i) z) (xOf base i r.length) m.next) fs) K (putE e d v) (m.app (apD (base+i) z))
  | none=>False)
 | op=>(match stepD (base+i) (evE n e) m.get op with
  | some (v,w)=>indF fs (.ops (Zbd (base+i) (evE n e) op) (Zbb (evE n e) op)) un∧Zf5 P keep n base r (i+1) (recF keep i (.ops (Zbd (base+i) (evE n e) op) (Zbb (evE n e) op)) fs) K (putE e d v) (m.app w)
  | none=>False):=by
 cases op<;>simp only[Zf5,Zav]<;>rfl
theorem Zez {keep:List Nat} {fs:List (Nat×FT)} (d:Option Nat) (op:AOp) (g:Nat×Bool) (un:List Nat) (r:List AOper):Zf5 P keep n base (⟨d,op,some g,un⟩ :: r) i fs K e m=match Zav n e (some g)with
 | some true=>(match op with
  | .call f xs=>(match Zaq n e f xs with
   | some (g,args)=>DC P g args (base+i) (xOf base i r.length) m fun v z=>indF fs (.call (ftW (base+i) z) (xOf base i r.length) m.next) un∧Zf5 P keep n base r (i+1) (recF keep i (.call (ftW (base+i) z) (xOf base i r.length) m.next) fs) K (putE e d v) (m.app (apD (base+i) z))
   | none=>False)
  | op=>(match stepD (base+i) (evE n e) m.get op with
   | some (v,w)=>indF fs (.ops (Zbd (base+i) (evE n e) op) (Zbb (evE n e) op)) un∧Zf5 P keep n base r (i+1) (recF keep i (.ops (Zbd (base+i) (evE n e) op) (Zbb (evE n e) op)) fs) K (putE e d v) (m.app w)
   | none=>False))
 | some false=>Zf5 P keep n base r (i+1) (recF keep i (.ops [] []) fs) K (putE e d aundef) m
 | none=>False:=by
 cases op<;>simp only[Zf5]<;>rfl
@[simp] theorem apD_none (id : Nat) : apD id none = [] := rfl
@[simp] theorem apD_some (id : Nat) (b : ABlk) : apD id (some b) = [(id, some b)] := rfl
@[simp] theorem ftW_none (id : Nat) : ftW id none = [] := rfl
@[simp] theorem ftW_some (id : Nat) (b : ABlk) : ftW id (some b) = [id] := rfl
@[simp] theorem app_nil' (m : SMem) : m.app [] = m := rfl
theorem Zj8:Zjx []=[]:=rfl
theorem Zgs (d:Option Nat) (op:AOp) (g:Option (Nat×Bool)) (un:List Nat) (r:List AOper):Zjx (⟨d,op,g,un⟩ :: r)=un++Zjx r:=rfl
theorem Zgz (d:Nat) (v:AVal):putE e (some d) v=(d,v) :: e:=rfl
theorem Zgt (v:AVal):putE e none v=e:=rfl
theorem Zkn (j:Nat):evE n e (.tmp j)=if j<n then e.get j else aundef:=rfl
theorem Zeu (v:AVal):evE n e (.const v)=v:=rfl
theorem Zqe (f:FuncId):evE n e (.fn f)=.func (.func f) [] []:=rfl
def wtZ (w:Bool):AVal→Option Bool
 | .bool b=>some (b == w)
 | .tuple []=>some false
 | _=>none
theorem Zgm (d:Nat) (w:Bool):Zav n e (some (d,w))=wtZ w (evE n e (.tmp d)):=by
 simp only[Zav]; unfold wtZ; rfl
theorem Zg5 (w b:Bool):wtZ w (.bool b)=some (b == w):=rfl
theorem Ze3 (w:Bool):wtZ w (.tuple [])=some false:=rfl
def vo:Option AVal→Option (AVal×List (Nat×Option ABlk))
 | some v=>some (v,[])
 | none=>none
theorem Zg3 (v:AVal):vo (some v)=some (v,[]):=rfl
def wo (v:AVal):Option (List (Nat×Option ABlk))→Option (AVal×List (Nat×Option ABlk))
 | some d=>some (v,d)
 | none=>none
theorem Zg7 (v:AVal) (d:List (Nat×Option ABlk)):wo v (some d)=some (v,d):=rfl
section
variable {id:Nat} {f:AOpd→AVal} {get:Nat→Option ABlk}
theorem Zki (x:AOpd):stepD id f get (.mov x)=some (f x,[]):=rfl
def Z4t (a b:AVal):AVal→Option (AVal×List (Nat×Option ABlk))
 | .bool true=>some (a,[])
 | .bool false=>some (b,[])
 | _=>none
theorem Zg0 (a b:AVal):Z4t a b (.bool true)=some (a,[]):=rfl
theorem Zew (a b:AVal):Z4t a b (.bool false)=some (b,[]):=rfl
theorem Zgq (c a b:AOpd):stepD id f get (.pick c a b)=Z4t (f a) (f b) (f c):=by
 simp only[stepD]; unfold Z4t; split<;>simp_all
def boxZ (id:Nat):Option (List AVal)→Option (AVal×List (Nat×Option ABlk))
 | some cs=>if cs.all AVal.one then some (.ptr id 0 0,[(id,some (.cells cs.length [cs]))])else none
 | none=>none
theorem Zg9 (cs:List AVal):boxZ id (some cs)=if cs.all AVal.one then some (.ptr id 0 0,[(id,some (.cells cs.length [cs]))])else none:=rfl
theorem Zkj (x:AOpd):stepD id f get (.box x)=boxZ id (f x).cells:=by simp only[stepD]; unfold boxZ; rfl
theorem Ze4 (z:List AVal):stepD id f get (.alloc z)=some (.ptr id 0 0,[(id,some (.cells z.length [z]))]):=rfl
def aggZ:Option (List AVal)→Option (AVal×List (Nat×Option ABlk))
 | some cs=>some (.agg cs,[])
 | none=>none
theorem Zgv (cs:List AVal):aggZ (some cs)=some (.agg cs,[]):=rfl
theorem Ze1 (z:List AVal) (ps:List (Nat×Nat×AOpd)):stepD id f get (.build z ps)=aggZ (Zhz z (ps.map fun p=>(p.1,p.2.1,f p.2.2))):=by simp only[stepD]; unfold aggZ; rfl
def Z79 (id k len:Nat):Option (List (List AVal))→Option (AVal×List (Nat×Option ABlk))
 | some els=>some (.sl id 0 len,[(id,some (.cells k els))])
 | none=>none
theorem Zgp (k len:Nat) (els:List (List AVal)):Z79 id k len (some els)=some (.sl id 0 len,[(id,some (.cells k els))]):=rfl
theorem Zgx (k len:Nat) (z:List AVal) (ps:List (Nat×AOpd)):stepD id f get (.mkSl k len z ps)=Z79 id k len (Zfl k (List.replicate len z) (ps.map fun p=>(p.1,f p.2))):=by simp only[stepD]; unfold Z79; rfl
theorem Zgu (n:Option Nat) (x:AOpd):stepD id f get (.load n x)=vo (Zc2 get n (f x)):=by simp only[stepD]; unfold vo; rfl
theorem Zev (n:Nat) (a x:AOpd):stepD id f get (.store n a x)=wo aundef (Zb7 get n (f a) (f x)):=by simp only[stepD]; unfold wo; rfl
def nilZ:AVal→Option (AVal×List (Nat×Option ABlk))
 | .ptr b i j=>some (.ptr b i j,[])
 | .iptr els i j=>some (.iptr els i j,[])
 | .func (.func f) a b=>some (.func (.func f) a b,[])
 | _=>none
theorem Zkc (b i j:Nat):nilZ (.ptr b i j)=some (.ptr b i j,[]):=rfl
theorem Zgw (els:List (List AVal)) (i j:Nat):nilZ (.iptr els i j)=some (.iptr els i j,[]):=rfl
theorem Zdp (x:AOpd):stepD id f get (.nilChk x)=nilZ (f x):=by simp only[stepD]; unfold nilZ; split<;>simp_all
theorem Zkd (op:BinOp) (q:EqT) (x y:AOpd):stepD id f get (.bin op q x y)=vo (binA op q (f x) (f y)):=by simp only[stepD]; unfold vo; rfl
theorem Zqh (op:UnOp) (x:AOpd):stepD id f get (.un op x)=vo (unA op (f x)):=by simp only[stepD]; unfold vo; rfl
theorem Zdo (fn:Fn) (a c:List AOpd):stepD id f get (.mkFunc fn a c)=some (.func fn (a.map f) (c.map f),[]):=rfl
theorem Ze8:stepD id f get .mkMap=some (.map id,[(id,some (.map [] 0))]):=rfl
theorem Zdy (off:Nat) (x:AOpd):stepD id f get (.fieldA off x)=vo (addA off (f x)):=by simp only[stepD]; unfold vo; rfl
theorem Zko (off b i j:Nat):addA off (.ptr b i j)=some (.ptr b i (j+off)):=rfl
theorem Zhc (off:Nat) (els:List (List AVal)) (i j:Nat):addA off (.iptr els i j)=some (.iptr els i (j+off)):=rfl
def fldZ (off:Nat) (n:Option Nat):AVal→Option (AVal×List (Nat×Option ABlk))
 | .agg cs=>vo (Zpp cs off n)
 | _=>none
theorem Zkh (off:Nat) (n:Option Nat) (cs:List AVal):fldZ off n (.agg cs)=vo (Zpp cs off n):=rfl
theorem Zey (off:Nat) (n:Option Nat) (x:AOpd):stepD id f get (.field off n x)=fldZ off n (f x):=by simp only[stepD]; unfold fldZ vo; rfl
def extZ (i:Nat):AVal→Option (AVal×List (Nat×Option ABlk))
 | .tuple vs=>vo vs[i]?
 | _=>none
theorem Ze5 (i:Nat) (vs:List AVal):extZ i (.tuple vs)=vo vs[i]?:=rfl
theorem Zjs (x:AOpd) (i:Nat):stepD id f get (.ext x i)=extZ i (f x):=by simp only[stepD]; unfold extZ vo; rfl
def lenZ:Option Nat→Option (AVal×List (Nat×Option ABlk))
 | some n=>some (.int .i64 n,[])
 | none=>none
theorem Zg4 (n:Nat):lenZ (some n)=some (.int .i64 n,[]):=rfl
theorem Ze0 (x:AOpd):stepD id f get (.lenSl x)=lenZ (Zaw (f x)):=by simp only[stepD]; unfold lenZ; rfl
theorem Zjr:Zaw .nilSl=some 0:=rfl
theorem Zjv:Zaw .emp=some 0:=rfl
theorem Zql (b off len:Nat):Zaw (.sl b off len)=some len:=rfl
theorem Zj2 (els:List (List AVal)):Zaw (.imm els)=some els.length:=rfl
def idxZ (get:Nat→Option ABlk) (k:Nat):AVal→Option Nat→Option (AVal×List (Nat×Option ABlk))
 | .sl b off len,some i=>match get b with
  | some (.cells k' _)=>if k'=k∧i<len then some (.ptr b (off+i) 0,[])else none
  | _=>none
 | .imm els,some i=>match els[i]? with
  | some row=>if row.length=k then some (.iptr els i 0,[])else none
  | none=>none
 | _,_=>none
theorem Zp2 (k b off len i:Nat):idxZ get k (.sl b off len) (some i)=match get b with
 | some (.cells k' _)=>if k'=k∧i<len then some (.ptr b (off+i) 0,[])else none
 | _=>none:=rfl
theorem Zjp (k:Nat) (els:List (List AVal)) (i:Nat):idxZ get k (.imm els) (some i)=match els[i]? with
 | some row=>if row.length=k then some (.iptr els i 0,[])else none
 | none=>none:=rfl
theorem Zgl (k:Nat) (x i:AOpd):stepD id f get (.idxA k x i)=idxZ get k (f x) (Zb6 (f i)):=by
 simp only[stepD]; unfold idxZ; rfl
theorem Zdk (k bytes:Nat) (z:List AVal) (x y:AOpd):stepD id f get (.makeSl k bytes z x y)=match Zb6 (f x),Zb6 (f y)with
 | some l,some c=>if l≤c∧c≤room∧bytes≤room then some (.sl id 0 l,[(id,some (.cells k (List.replicate c z)))])else none
 | _,_=>none:=rfl
theorem Zdx (k bytes:Nat) (z:List AVal) (x y:AOpd):stepD id f get (.append k bytes z x y)=match Zbe get k (f y)with
 | some xs=>Zan id k bytes get (f x) xs
 | none=>none:=rfl
theorem Zdr (x:AOpd):stepD id f get (.lenMap x)=match f x with
 | .nilMap=>some (.int .i64 0,[])
 | .map b=>match get b with
  | some (.map es _)=>some (.int .i64 es.length,[])
  | _=>none
 | _=>none:=rfl
theorem Zdq (kt:KeyT) (z:AVal) (ok:Bool) (x i:AOpd):stepD id f get (.lookup kt z ok x i)=match (match f x with
 | .nilMap=>some []
 | .map b=>match get b with
  | some (.map es _)=>some es
  | _=>none
 | _=>none)with
 | some es=>match Zia kt (f i) es with
  | some r=>some (if ok then .tuple [match r with
   | some (_,v,_)=>v
   | none=>z,.bool r.isSome]else (match r with
   | some (_,v,_)=>v
   | none=>z),[])
  | none=>none
 | none=>none:=rfl
theorem Zdm (kt:KeyT) (mp k v:AOpd):stepD id f get (.mapUpd kt mp k v)=match f mp with
 | .map b=>match get b with
  | some (.map es clock)=>match Zia kt (f k) es with
   | some (some (i,_,born))=>some (aundef,[(b,some (.map (es.set i (f k,f v,born)) clock))])
   | some none=>some (aundef,[(b,some (.map (es++[(f k,f v,clock)]) (clock+1)))])
   | none=>none
  | _=>none
 | _=>none:=rfl
theorem Zlk (n k:Nat) (x i:AOpd):stepD id f get (.idxAA n k x i)=match Zb6 (f i)with
 | some i=>if i<n then vo (addA (i*k) (f x))else none
 | none=>none:=by
 simp only[stepD]; unfold vo; rfl
theorem Zj9 (k:IntKind) (j:Int):Zb6 (.int k j)=if 0≤j then some j.toNat else none:=by simp only[Zb6]
end
end
@[congr] theorem Z69 {P : Program} {keep keep' : List Nat} {n base base' i i' : Nat} {fs fs' : List (Nat × FT)} {ops : List AOper} {K : Env → SMem → Prop} {e e' : Env} {m m' : SMem} (hk : keep = keep') (hb : base = base') (hi : i = i') (hf : fs = fs') (h : e = e') (h' : m = m') : Zf5 P keep n base ops i fs K e m = Zf5 P keep' n base' ops i' fs' K e' m' := by rw [hk, hb, hi, hf, h, h']
theorem Ze2 {P:Program} {n n0:Nat} {Q:Exit→Env→SMem→Prop} {e:Env} {m:SMem} (c:AOpd) (a b:ACode):wpZ P n n0 (.cond c a b) Q e m=match evE n e c with
 | .bool true=>wpZ P n n0 a Q e m
 | .bool false=>wpZ P n n0 b Q e m
 | _=>False:=by
 rw[Z8j]
 unfold Zno
 rfl
end Go.AE
end
section
namespace Go.Plain
abbrev Ent:=Int×Int×Int
def fnd (id:Int):List Ent→Option (Nat×Int×Int)
 | []=>none
 | (k,v) :: r=>if id=k then some (0,v)else match fnd id r with
  | some (p,w)=>some (p+1,w)
  | none=>none
def putV (o:Bool) (i:Int) (v:Int×Int):Int×Int:=if o then (v.1,i)else (i,v.2)
def Zc6 (o:Bool) (v:Int×Int):Int:=if o then v.2 else v.1
def updE (E:List Ent) (id:Int) (o:Bool) (i:Int):List Ent:=
 match fnd id E with
 | some (p,v)=>E.set p (id,putV o i v)
 | none=>E++[(id,putV o i (-1,-1))]
def crE (ls:List Lt):Nat→List Ent
 | 0=>[]
 | i+1=>if isX (at' ls i)then updE (crE ls i) (at' ls i).i (at' ls i).o i else crE ls i
def fitE (ls:List Lt) (E:List Ent) (l:Lt):Bool:=
 match fnd l.i E with
 | none=>true
 | some (_,v)=>decide (Zc6 l.o v<0)&&decide ((at' ls (Zc6 (!l.o) v).toNat).s=l.s)
def crF (ls:List Lt) (n:Nat):Nat→Bool
 | 0=>true
 | i+1=>crF ls n i&&(!isX (at' ls i)||(decide (1≤(at' ls i).i)&&decide ((at' ls i).i≤(n / 2:Nat))&&fitE ls (crE ls i) (at' ls i)))
theorem crF_le {ls:List Lt} {n:Nat}:∀ {i j:Nat},i≤j→crF ls n j=true→crF ls n i=true:=by
 intro i j hij
 induction hij with
 | refl=>exact id
 | step _ ih=>intro h; simp only[crF,Bool.and_eq_true]at h; exact ih h.1
def VisOk (i:Nat) (v:Int×Int):Prop:=(v.1 = -1∨(0≤v.1∧v.1<i))∧(v.2 = -1∨(0≤v.2∧v.2<i)) ∧ ¬(v.1 = -1∧v.2 = -1)
theorem VisOk.mono {i j:Nat} {v:Int×Int} (h:VisOk i v) (hij:i≤j):VisOk j v:=by
 obtain⟨h1,h2,h3⟩:=h
 exact⟨by omega,by omega,h3⟩
theorem Zna {id:Int}:∀ {E:List Ent} {p:Nat} {v:Int×Int},fnd id E=some (p,v)→E[p]? = some (id,v)
 | [],p,v,h=>by cases h
 | (k,w) :: r,p,v,h=>by
  simp only[fnd]at h
  split at h
  ·rename_i e
   cases h
   subst e; rfl
  ·cases hr:fnd id r with
   | none=>rw[hr]at h; cases h
   | some pw=>
    obtain⟨q,u⟩:=pw
    rw[hr]at h
    cases h
    simpa using Zna hr
theorem Z0q {i:Nat} {o:Bool} {v:Int×Int} (h:VisOk i v∨v=(-1,-1)):VisOk (i+1) (putV o i v):=by
 cases o<;>unfold putV VisOk at * <;> simp only[Bool.false_eq_true,if_true,if_false]
 ·rcases h with h|h
  ·omega
  ·subst h; simp; omega
 ·rcases h with h|h
  ·omega
  ·subst h; simp; omega
theorem Zpx (ls:List Lt):∀ i,∀ e,e∈crE ls i→VisOk i e.2
 | 0,e,h=>by simp[crE]at h
 | i+1,e,h=>by
  simp only[crE]at h
  split at h
  ·unfold updE at h
   split at h
   ·rename_i p v hf
    rcases List.mem_or_eq_of_mem_set h with h1|h1
    ·exact(Zpx ls i e h1).mono (by omega)
    ·subst h1
     exact Z0q (.inl (Zpx ls i _ (List.mem_of_getElem? (Zna hf))))
   ·rw[List.mem_append,List.mem_singleton]at h
    rcases h with h1|h1
    ·exact(Zpx ls i e h1).mono (by omega)
    ·subst h1
     exact Z0q (.inr rfl)
  ·exact(Zpx ls i e h).mono (by omega)
theorem Zlg (ls:List Lt):∀ i,(crE ls i).length≤i
 | 0=>Nat.le_refl _
 | i+1=>by
  simp only[crE]
  have:=Zlg ls i
  split
  ·unfold updE
   split
   ·simp; omega
   ·simp; omega
  ·omega
end Go.Plain
end
