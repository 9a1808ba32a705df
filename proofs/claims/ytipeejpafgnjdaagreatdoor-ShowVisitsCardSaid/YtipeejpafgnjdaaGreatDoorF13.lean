/- Part 13 of the proof: AeNe, Pd. -/
import Derived.Test.YtipeejpafgnjdaaGreatDoorF12
set_option linter.all false
section
namespace Go.AE
open Go.RowKit
section
variable {P:Program} {dc:Bool} {n base i:Nat} {K:Env→SMem→Prop} {e:Env} {m:SMem}
theorem zops_nil':zops P dc n base [] i K e m=K e m:=propext Iff.rfl
theorem zops_one (d:Option Nat) (op:AOp) (un:List Nat) (r:List AOper):zops P dc n base (⟨d,op,none,un⟩ :: r) i K e m=match op with
 | .call f xs=>(match calleeE n e f xs with
  | some (g,args)=>(match dc with
   | false=>SC P g args m (base+i) fun v m'=>zops P dc n base r (i+1) K (putE e d v) m'
   | true=>DC P g args (base+i) (xOf base i r.length) m fun v z=>zops P dc n base r (i+1) K (putE e d v) (m.app (apD (base+i) z)))
  | none=>False)
 | op=>(match stepD (base+i) (evE n e) m.get op with
  | some (v,w)=>zops P dc n base r (i+1) K (putE e d v) (m.app w)
  | none=>False):=by
 cases op<;>simp only [zops,wantedE,gdK]<;>rfl
theorem zops_gd (d:Option Nat) (op:AOp) (g:Nat×Bool) (un:List Nat) (r:List AOper):zops P dc n base (⟨d,op,some g,un⟩ :: r) i K e m=match wantedE n e (some g) with
 | some true=>(match op with
  | .call f xs=>(match calleeE n e f xs with
   | some (g,args)=>(match dc with
    | false=>SC P g args m (base+i) fun v m'=>zops P dc n base r (i+1) K (putE e d v) m'
    | true=>DC P g args (base+i) (xOf base i r.length) m fun v z=>zops P dc n base r (i+1) K (putE e d v) (m.app (apD (base+i) z)))
   | none=>False)
  | op=>(match stepD (base+i) (evE n e) m.get op with
   | some (v,w)=>zops P dc n base r (i+1) K (putE e d v) (m.app w)
   | none=>False))
 | some false=>zops P dc n base r (i+1) K (putE e d aundef) m
 | none=>False:=by
 cases op<;>simp only [zops,gdK]<;>rfl
theorem xdops_nil' {keep:List Nat} {fs:List (Nat×FT)}:xdops P keep n base [] i fs K e m=K e m:=propext Iff.rfl
theorem xdops_one {keep:List Nat} {fs:List (Nat×FT)} (d:Option Nat) (op:AOp) (un:List Nat) (r:List AOper):xdops P keep n base (⟨d,op,none,un⟩ :: r) i fs K e m=match op with
 | .call f xs=>(match calleeE n e f xs with
  | some (g,args)=>DC P g args (base+i) (xOf base i r.length) m fun v z=>indF fs (.call (ftW (base+i) z) (xOf base i r.length) m.next) un∧xdops P keep n base r (i+1) (recF keep i (.call (ftW (base+i) z) (xOf base i r.length) m.next) fs) K (putE e d v) (m.app (apD (base+i) z))
  | none=>False)
 | op=>(match stepD (base+i) (evE n e) m.get op with
  | some (v,w)=>indF fs (.ops (footWD (base+i) (evE n e) op) (footRD (evE n e) op)) un∧xdops P keep n base r (i+1) (recF keep i (.ops (footWD (base+i) (evE n e) op) (footRD (evE n e) op)) fs) K (putE e d v) (m.app w)
  | none=>False):=by
 cases op<;>simp only [xdops,wantedE]<;>rfl
theorem xdops_gd {keep:List Nat} {fs:List (Nat×FT)} (d:Option Nat) (op:AOp) (g:Nat×Bool) (un:List Nat) (r:List AOper):xdops P keep n base (⟨d,op,some g,un⟩ :: r) i fs K e m=match wantedE n e (some g) with
 | some true=>(match op with
  | .call f xs=>(match calleeE n e f xs with
   | some (g,args)=>DC P g args (base+i) (xOf base i r.length) m fun v z=>indF fs (.call (ftW (base+i) z) (xOf base i r.length) m.next) un∧xdops P keep n base r (i+1) (recF keep i (.call (ftW (base+i) z) (xOf base i r.length) m.next) fs) K (putE e d v) (m.app (apD (base+i) z))
   | none=>False)
  | op=>(match stepD (base+i) (evE n e) m.get op with
   | some (v,w)=>indF fs (.ops (footWD (base+i) (evE n e) op) (footRD (evE n e) op)) un∧xdops P keep n base r (i+1) (recF keep i (.ops (footWD (base+i) (evE n e) op) (footRD (evE n e) op)) fs) K (putE e d v) (m.app w)
   | none=>False))
 | some false=>xdops P keep n base r (i+1) (recF keep i (.ops [] []) fs) K (putE e d aundef) m
 | none=>False:=by
 cases op<;>simp only [xdops]<;>rfl
@[simp] theorem apD_none (id : Nat) : apD id none = [] := rfl
@[simp] theorem apD_some (id : Nat) (b : ABlk) : apD id (some b) = [(id, some b)] := rfl
@[simp] theorem ftW_none (id : Nat) : ftW id none = [] := rfl
@[simp] theorem ftW_some (id : Nat) (b : ABlk) : ftW id (some b) = [id] := rfl
@[simp] theorem app_nil' (m : SMem) : m.app [] = m := rfl
theorem kp_nil:keepOf []=[]:=rfl
theorem kp_cons (d:Option Nat) (op:AOp) (g:Option (Nat×Bool)) (un:List Nat) (r:List AOper):keepOf (⟨d,op,g,un⟩ :: r)=un++keepOf r:=rfl
theorem pt_some (d:Nat) (v:AVal):putE e (some d) v=(d,v) :: e:=rfl
theorem pt_none (v:AVal):putE e none v=e:=rfl
theorem ev_tmp (j:Nat):evE n e (.tmp j)=if j<n then e.get j else aundef:=rfl
theorem ev_const (v:AVal):evE n e (.const v)=v:=rfl
theorem ev_fn (f:FuncId):evE n e (.fn f)=.func (.func f) [] []:=rfl
def wtZ (w:Bool):AVal→Option Bool
 | .bool b=>some (b == w)
 | .tuple []=>some false
 | _=>none
theorem wt_some (d:Nat) (w:Bool):wantedE n e (some (d,w))=wtZ w (evE n e (.tmp d)):=by
 simp only [wantedE]; unfold wtZ; rfl
theorem wt_bool (w b:Bool):wtZ w (.bool b)=some (b == w):=rfl
theorem wt_undef (w:Bool):wtZ w (.tuple [])=some false:=rfl
def vo:Option AVal→Option (AVal×List (Nat×Option ABlk))
 | some v=>some (v,[])
 | none=>none
theorem vo_some (v:AVal):vo (some v)=some (v,[]):=rfl
def wo (v:AVal):Option (List (Nat×Option ABlk))→Option (AVal×List (Nat×Option ABlk))
 | some d=>some (v,d)
 | none=>none
theorem wo_some (v:AVal) (d:List (Nat×Option ABlk)):wo v (some d)=some (v,d):=rfl
section
variable {id:Nat} {f:AOpd→AVal} {get:Nat→Option ABlk}
theorem sd_mov (x:AOpd):stepD id f get (.mov x)=some (f x,[]):=rfl
def pickZ (a b:AVal):AVal→Option (AVal×List (Nat×Option ABlk))
 | .bool true=>some (a,[])
 | .bool false=>some (b,[])
 | _=>none
theorem pk_true (a b:AVal):pickZ a b (.bool true)=some (a,[]):=rfl
theorem pk_false (a b:AVal):pickZ a b (.bool false)=some (b,[]):=rfl
theorem sd_pick (c a b:AOpd):stepD id f get (.pick c a b)=pickZ (f a) (f b) (f c):=by
 simp only [stepD]; unfold pickZ; split<;>simp_all
def boxZ (id:Nat):Option (List AVal)→Option (AVal×List (Nat×Option ABlk))
 | some cs=>if cs.all AVal.one then some (.ptr id 0 0,[(id,some (.cells cs.length [cs]))]) else none
 | none=>none
theorem bx_some (cs:List AVal):boxZ id (some cs)=if cs.all AVal.one then some (.ptr id 0 0,[(id,some (.cells cs.length [cs]))]) else none:=rfl
theorem sd_box (x:AOpd):stepD id f get (.box x)=boxZ id (f x).cells:=by simp only [stepD]; unfold boxZ; rfl
theorem sd_alloc (z:List AVal):stepD id f get (.alloc z)=some (.ptr id 0 0,[(id,some (.cells z.length [z]))]):=rfl
def aggZ:Option (List AVal)→Option (AVal×List (Nat×Option ABlk))
 | some cs=>some (.agg cs,[])
 | none=>none
theorem ag_some (cs:List AVal):aggZ (some cs)=some (.agg cs,[]):=rfl
theorem sd_build (z:List AVal) (ps:List (Nat×Nat×AOpd)):stepD id f get (.build z ps)=aggZ (fillA z (ps.map fun p=>(p.1,p.2.1,f p.2.2))):=by simp only [stepD]; unfold aggZ; rfl
def mkslZ (id k len:Nat):Option (List (List AVal))→Option (AVal×List (Nat×Option ABlk))
 | some els=>some (.sl id 0 len,[(id,some (.cells k els))])
 | none=>none
theorem mk_some (k len:Nat) (els:List (List AVal)):mkslZ id k len (some els)=some (.sl id 0 len,[(id,some (.cells k els))]):=rfl
theorem sd_mkSl (k len:Nat) (z:List AVal) (ps:List (Nat×AOpd)):stepD id f get (.mkSl k len z ps)=mkslZ id k len (fillS k (List.replicate len z) (ps.map fun p=>(p.1,f p.2))):=by simp only [stepD]; unfold mkslZ; rfl
theorem sd_load (n:Option Nat) (x:AOpd):stepD id f get (.load n x)=vo (loadD get n (f x)):=by simp only [stepD]; unfold vo; rfl
theorem sd_store (n:Nat) (a x:AOpd):stepD id f get (.store n a x)=wo aundef (storeD get n (f a) (f x)):=by simp only [stepD]; unfold wo; rfl
def nilZ:AVal→Option (AVal×List (Nat×Option ABlk))
 | .ptr b i j=>some (.ptr b i j,[])
 | .iptr els i j=>some (.iptr els i j,[])
 | .func (.func f) a b=>some (.func (.func f) a b,[])
 | _=>none
theorem nl_ptr (b i j:Nat):nilZ (.ptr b i j)=some (.ptr b i j,[]):=rfl
theorem nl_iptr (els:List (List AVal)) (i j:Nat):nilZ (.iptr els i j)=some (.iptr els i j,[]):=rfl
theorem sd_nilChk (x:AOpd):stepD id f get (.nilChk x)=nilZ (f x):=by simp only [stepD]; unfold nilZ; split<;>simp_all
theorem sd_bin (op:BinOp) (q:EqT) (x y:AOpd):stepD id f get (.bin op q x y)=vo (binA op q (f x) (f y)):=by simp only [stepD]; unfold vo; rfl
theorem sd_un (op:UnOp) (x:AOpd):stepD id f get (.un op x)=vo (unA op (f x)):=by simp only [stepD]; unfold vo; rfl
theorem sd_mkFunc (fn:Fn) (a c:List AOpd):stepD id f get (.mkFunc fn a c)=some (.func fn (a.map f) (c.map f),[]):=rfl
theorem sd_mkMap:stepD id f get .mkMap=some (.map id,[(id,some (.map [] 0))]):=rfl
theorem sd_fieldA (off:Nat) (x:AOpd):stepD id f get (.fieldA off x)=vo (addA off (f x)):=by simp only [stepD]; unfold vo; rfl
theorem ad_ptr (off b i j:Nat):addA off (.ptr b i j)=some (.ptr b i (j+off)):=rfl
theorem ad_iptr (off:Nat) (els:List (List AVal)) (i j:Nat):addA off (.iptr els i j)=some (.iptr els i (j+off)):=rfl
def fldZ (off:Nat) (n:Option Nat):AVal→Option (AVal×List (Nat×Option ABlk))
 | .agg cs=>vo (partA cs off n)
 | _=>none
theorem fl_agg (off:Nat) (n:Option Nat) (cs:List AVal):fldZ off n (.agg cs)=vo (partA cs off n):=rfl
theorem sd_field (off:Nat) (n:Option Nat) (x:AOpd):stepD id f get (.field off n x)=fldZ off n (f x):=by simp only [stepD]; unfold fldZ vo; rfl
def extZ (i:Nat):AVal→Option (AVal×List (Nat×Option ABlk))
 | .tuple vs=>vo vs[i]?
 | _=>none
theorem ex_tuple (i:Nat) (vs:List AVal):extZ i (.tuple vs)=vo vs[i]?:=rfl
theorem sd_ext (x:AOpd) (i:Nat):stepD id f get (.ext x i)=extZ i (f x):=by simp only [stepD]; unfold extZ vo; rfl
def lenZ:Option Nat→Option (AVal×List (Nat×Option ABlk))
 | some n=>some (.int .i64 n,[])
 | none=>none
theorem ln_some (n:Nat):lenZ (some n)=some (.int .i64 n,[]):=rfl
theorem sd_lenSl (x:AOpd):stepD id f get (.lenSl x)=lenZ (sliceLen (f x)):=by simp only [stepD]; unfold lenZ; rfl
theorem sl_nil:sliceLen .nilSl=some 0:=rfl
theorem sl_emp:sliceLen .emp=some 0:=rfl
theorem sl_sl (b off len:Nat):sliceLen (.sl b off len)=some len:=rfl
theorem sl_imm (els:List (List AVal)):sliceLen (.imm els)=some els.length:=rfl
def idxZ (get:Nat→Option ABlk) (k:Nat):AVal→Option Nat→Option (AVal×List (Nat×Option ABlk))
 | .sl b off len,some i=>match get b with
  | some (.cells k' _)=>if k'=k∧i<len then some (.ptr b (off+i) 0,[]) else none
  | _=>none
 | .imm els,some i=>match els[i]? with
  | some row=>if row.length=k then some (.iptr els i 0,[]) else none
  | none=>none
 | _,_=>none
theorem ix_sl (k b off len i:Nat):idxZ get k (.sl b off len) (some i)=match get b with
 | some (.cells k' _)=>if k'=k∧i<len then some (.ptr b (off+i) 0,[]) else none
 | _=>none:=rfl
theorem ix_imm (k:Nat) (els:List (List AVal)) (i:Nat):idxZ get k (.imm els) (some i)=match els[i]? with
 | some row=>if row.length=k then some (.iptr els i 0,[]) else none
 | none=>none:=rfl
theorem sd_idxA (k:Nat) (x i:AOpd):stepD id f get (.idxA k x i)=idxZ get k (f x) (asNat (f i)):=by
 simp only [stepD]; unfold idxZ; rfl
theorem sd_makeSl (k bytes:Nat) (z:List AVal) (x y:AOpd):stepD id f get (.makeSl k bytes z x y)=match asNat (f x),asNat (f y) with
 | some l,some c=>if l≤c∧c≤room∧bytes≤room then some (.sl id 0 l,[(id,some (.cells k (List.replicate c z)))]) else none
 | _,_=>none:=rfl
theorem sd_append (k bytes:Nat) (z:List AVal) (x y:AOpd):stepD id f get (.append k bytes z x y)=match srcRowsD get k (f y) with
 | some xs=>appendRowsD id k bytes get (f x) xs
 | none=>none:=rfl
theorem sd_lenMap (x:AOpd):stepD id f get (.lenMap x)=match f x with
 | .nilMap=>some (.int .i64 0,[])
 | .map b=>match get b with
  | some (.map es _)=>some (.int .i64 es.length,[])
  | _=>none
 | _=>none:=rfl
theorem sd_lookup (kt:KeyT) (z:AVal) (ok:Bool) (x i:AOpd):stepD id f get (.lookup kt z ok x i)=match (match f x with
 | .nilMap=>some []
 | .map b=>match get b with
  | some (.map es _)=>some es
  | _=>none
 | _=>none) with
 | some es=>match findA kt (f i) es with
  | some r=>some (if ok then .tuple [match r with
   | some (_,v,_)=>v
   | none=>z,.bool r.isSome] else (match r with
   | some (_,v,_)=>v
   | none=>z),[])
  | none=>none
 | none=>none:=rfl
theorem sd_mapUpd (kt:KeyT) (mp k v:AOpd):stepD id f get (.mapUpd kt mp k v)=match f mp with
 | .map b=>match get b with
  | some (.map es clock)=>match findA kt (f k) es with
   | some (some (i,_,born))=>some (aundef,[(b,some (.map (es.set i (f k,f v,born)) clock))])
   | some none=>some (aundef,[(b,some (.map (es++[(f k,f v,clock)]) (clock+1)))])
   | none=>none
  | _=>none
 | _=>none:=rfl
theorem sd_idxAA (n k:Nat) (x i:AOpd):stepD id f get (.idxAA n k x i)=match asNat (f i) with
 | some i=>if i<n then vo (addA (i*k) (f x)) else none
 | none=>none:=by
 simp only [stepD]; unfold vo; rfl
theorem an_int (k:IntKind) (j:Int):asNat (.int k j)=if 0≤j then some j.toNat else none:=by simp only [asNat]
end
end
@[congr] theorem xdops_congr {P : Program} {keep keep' : List Nat} {n base base' i i' : Nat} {fs fs' : List (Nat × FT)} {ops : List AOper} {K : Env → SMem → Prop} {e e' : Env} {m m' : SMem} (hk : keep = keep') (hb : base = base') (hi : i = i') (hf : fs = fs') (h : e = e') (h' : m = m') : xdops P keep n base ops i fs K e m = xdops P keep' n base' ops i' fs' K e' m' := by rw [hk, hb, hi, hf, h, h']
theorem wZ_condM {P:Program} {n n0:Nat} {Q:Exit→Env→SMem→Prop} {e:Env} {m:SMem} (c:AOpd) (a b:ACode):wpZ P n n0 (.cond c a b) Q e m=match evE n e c with
 | .bool true=>wpZ P n n0 a Q e m
 | .bool false=>wpZ P n n0 b Q e m
 | _=>False:=by
 rw [wZ_cond]
 unfold condK
 rfl
end Go.AE
end
section
namespace Go.Plain
abbrev Ent:=Int×Int×Int
def fnd (id:Int):List Ent→Option (Nat×Int×Int)
 | []=>none
 | (k,v) :: r=>if id=k then some (0,v) else match fnd id r with
  | some (p,w)=>some (p+1,w)
  | none=>none
def putV (o:Bool) (i:Int) (v:Int×Int):Int×Int:=if o then (v.1,i) else (i,v.2)
def slotV (o:Bool) (v:Int×Int):Int:=if o then v.2 else v.1
def updE (E:List Ent) (id:Int) (o:Bool) (i:Int):List Ent:=
 match fnd id E with
 | some (p,v)=>E.set p (id,putV o i v)
 | none=>E++[(id,putV o i (-1,-1))]
def crE (ls:List Lt):Nat→List Ent
 | 0=>[]
 | i+1=>if isX (at' ls i) then updE (crE ls i) (at' ls i).i (at' ls i).o i else crE ls i
def fitE (ls:List Lt) (E:List Ent) (l:Lt):Bool:=
 match fnd l.i E with
 | none=>true
 | some (_,v)=>decide (slotV l.o v<0)&&decide ((at' ls (slotV (!l.o) v).toNat).s=l.s)
def crF (ls:List Lt) (n:Nat):Nat→Bool
 | 0=>true
 | i+1=>crF ls n i&&(!isX (at' ls i)||(decide (1≤(at' ls i).i)&&decide ((at' ls i).i≤(n / 2:Nat))&&fitE ls (crE ls i) (at' ls i)))
theorem crF_le {ls:List Lt} {n:Nat}:∀ {i j:Nat},i≤j→crF ls n j=true→crF ls n i=true:=by
 intro i j hij
 induction hij with
 | refl=>exact id
 | step _ ih=>intro h; simp only [crF,Bool.and_eq_true] at h; exact ih h.1
def VisOk (i:Nat) (v:Int×Int):Prop:=(v.1 = -1∨(0≤v.1∧v.1<i))∧(v.2 = -1∨(0≤v.2∧v.2<i)) ∧ ¬(v.1 = -1∧v.2 = -1)
theorem VisOk.mono {i j:Nat} {v:Int×Int} (h:VisOk i v) (hij:i≤j):VisOk j v:=by
 obtain⟨h1,h2,h3⟩:=h
 exact⟨by omega,by omega,h3⟩
theorem fnd_mem {id:Int}:∀ {E:List Ent} {p:Nat} {v:Int×Int},fnd id E=some (p,v)→E[p]? = some (id,v)
 | [],p,v,h=>by cases h
 | (k,w) :: r,p,v,h=>by
  simp only [fnd] at h
  split at h
  · rename_i e
    cases h
    subst e; rfl
  · cases hr:fnd id r with
    | none=>rw [hr] at h; cases h
    | some pw=>
     obtain⟨q,u⟩:=pw
     rw [hr] at h
     cases h
     simpa using fnd_mem hr
theorem putV_ok {i:Nat} {o:Bool} {v:Int×Int} (h:VisOk i v∨v=(-1,-1)):VisOk (i+1) (putV o i v):=by
 cases o<;>unfold putV VisOk at * <;> simp only [Bool.false_eq_true,if_true,if_false]
 · rcases h with h | h
   · omega
   · subst h; simp; omega
 · rcases h with h | h
   · omega
   · subst h; simp; omega
theorem crE_ok (ls:List Lt):∀ i,∀ e,e∈crE ls i→VisOk i e.2
 | 0,e,h=>by simp [crE] at h
 | i+1,e,h=>by
  simp only [crE] at h
  split at h
  · unfold updE at h
    split at h
    · rename_i p v hf
      rcases List.mem_or_eq_of_mem_set h with h1 | h1
      · exact(crE_ok ls i e h1).mono (by omega)
      · subst h1
        exact putV_ok (.inl (crE_ok ls i _ (List.mem_of_getElem? (fnd_mem hf))))
    · rw [List.mem_append,List.mem_singleton] at h
      rcases h with h1 | h1
      · exact(crE_ok ls i e h1).mono (by omega)
      · subst h1
        exact putV_ok (.inr rfl)
  · exact(crE_ok ls i e h).mono (by omega)
theorem crE_length_le (ls:List Lt):∀ i,(crE ls i).length≤i
 | 0=>Nat.le_refl _
 | i+1=>by
  simp only [crE]
  have:=crE_length_le ls i
  split
  · unfold updE
    split
    · simp; omega
    · simp; omega
  · omega
end Go.Plain
end
