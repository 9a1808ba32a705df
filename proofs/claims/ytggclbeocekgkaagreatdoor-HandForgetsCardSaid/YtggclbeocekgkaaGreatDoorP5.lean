/- Part 5 of the proof: AeJ, AeK, AeL, AeM, AeLoc. -/
import Derived.Test.YtggclbeocekgkaaGreatDoorP2
import Derived.Test.YtggclbeocekgkaaGreatDoorP4
import Derived.IntWalk
set_option linter.all false
section
namespace Go.AE
open Go.RowKit
section
variable {P:Program} {s:Sem Next} {W:AA} {Φ:Ao} {ρ:AD} {id:Nat} {w w1:World} {m m':Mem} {x:Aa} {v:Value}
theorem K4{k:IntKind}{n:Int}(h:R Φ ρ (.int k n) v):v=.int k n:=by cases h; rfl
theorem KX{l:List UInt8}(h:R Φ ρ (.str l) v):v=.string ⟨⟨l⟩⟩:=by cases h; rfl
theorem Hl{b:Bool}(h:R Φ ρ (.bool b) v):v=.bool b:=by cases h; rfl
theorem Jw(l:List UInt8):(ByteArray.mk ⟨l⟩).toList=l:=Lib.toList_data _
theorem Z1m{op:BinOp}{k:IntKind}{a b:Int}{z:Aa}{t:TypeId}(h:R8 op k a b=some z):∃ u,(binOp op t (.int k a) (.int k b)).run P w=.ok u w∧R Φ ρ z u:=by
 cases op
 case add=>simp only[R8,oI]at h; subst h; exact⟨.int k _,by simp[binOp,Op.intArith],.int _ _⟩
 case sub=>simp only[R8,oI]at h; subst h; exact⟨.int k _,by simp[binOp,Op.intArith],.int _ _⟩
 case mul=>simp only[R8,oI]at h; subst h; exact⟨.int k _,by simp[binOp,Op.intArith],.int _ _⟩
 case quo=>
  simp only[R8]at h;by_cases h0:b=0
  ·rw[iP h0]at h; cases h
  ·rw[iN h0]at h; injection h with h; subst h
   exact⟨.int k _,by simp[binOp,Op.intDiv,h0],.int _ _⟩
 case rem=>
  simp only[R8]at h;by_cases h0:b=0
  ·rw[iP h0]at h; cases h
  ·rw[iN h0]at h; injection h with h; subst h
   exact⟨.int k _,by simp[binOp,Op.intDiv,h0],.int _ _⟩
 case and=>simp only[R8,oI]at h; subst h; exact⟨.int k _,by simp only[binOp,Op.intBits]; simp,.int _ _⟩
 case or=>simp only[R8,oI]at h; subst h; exact⟨.int k _,by simp only[binOp,Op.intBits]; simp,.int _ _⟩
 case xor=>simp only[R8,oI]at h; subst h; exact⟨.int k _,by simp only[binOp,Op.intBits]; simp,.int _ _⟩
 case andNot=>simp only[R8,oI]at h; subst h; exact⟨.int k _,by simp only[binOp,Op.intBits]; simp,.int _ _⟩
 case eql=>simp only[R8,oI]at h; subst h; exact⟨.bool _,by simp only[binOp,Op.intCmp]; rw[iN (by simp)]; rfl,.bool _⟩
 case neq=>simp only[R8,oI]at h; subst h; exact⟨.bool _,by simp only[binOp,Op.intCmp]; rw[iN (by simp)]; rfl,.bool _⟩
 case lss=>simp only[R8,oI]at h; subst h; exact⟨.bool _,by simp only[binOp,Op.intCmp]; rw[iN (by simp)]; rfl,.bool _⟩
 case leq=>simp only[R8,oI]at h; subst h; exact⟨.bool _,by simp only[binOp,Op.intCmp]; rw[iN (by simp)]; rfl,.bool _⟩
 case gtr=>simp only[R8,oI]at h; subst h; exact⟨.bool _,by simp only[binOp,Op.intCmp]; rw[iN (by simp)]; rfl,.bool _⟩
 case geq=>simp only[R8,oI]at h; subst h; exact⟨.bool _,by simp only[binOp,Op.intCmp]; rw[iN (by simp)]; rfl,.bool _⟩
 all_goals (simp[R8]at h)
theorem Z6g{op:BinOp}{a b:List UInt8}{z:Aa}{t:TypeId}(h:KZ op a b=some z):∃ u,(binOp op t (.string ⟨⟨a⟩⟩) (.string ⟨⟨b⟩⟩)).run P w=.ok u w∧R Φ ρ z u:=by
 cases op
 case add=>
  simp only[KZ]at h;split at h
  ·rename_i hle;injection h with h; subst h
   refine⟨.string ⟨⟨a++b⟩⟩,?_,.str _⟩;have e:(ByteArray.mk ⟨a⟩++ByteArray.mk ⟨b⟩)=ByteArray.mk ⟨a++b⟩:=by
    have:=ByteArray.mk_append_mk a b;simpa using this
   simp only[binOp];rw[run_string_add_sum (w:=w) (P:=P) _ _ (by show a.length+b.length≤_; omega),e]
  ·cases h
 case eql=>simp only[KZ,oI]at h; subst h; exact⟨.bool _,by simp only[binOp,Op.stringOp,Jw]; rfl,.bool _⟩
 case neq=>simp only[KZ,oI]at h; subst h; exact⟨.bool _,by simp only[binOp,Op.stringOp,Jw]; rfl,.bool _⟩
 case lss=>simp only[KZ,oI]at h; subst h; exact⟨.bool _,by simp only[binOp,Op.stringOp,Jw]; rfl,.bool _⟩
 case leq=>simp only[KZ,oI]at h; subst h; exact⟨.bool _,by simp only[binOp,Op.stringOp,Jw]; rfl,.bool _⟩
 case gtr=>simp only[KZ,oI]at h; subst h; exact⟨.bool _,by simp only[binOp,Op.stringOp,Jw]; rfl,.bool _⟩
 case geq=>simp only[KZ,oI]at h; subst h; exact⟨.bool _,by simp only[binOp,Op.stringOp,Jw]; rfl,.bool _⟩
 all_goals (simp[KZ]at h)
theorem sP{t:TypeId}{k:Br}{y z:Aa}{vy vz:Value}{b:Bool}(d:Nat)(hk:K9 P t=some k)(h:G0 k y z=some b)(hy:R Φ ρ y vy)(hz:R Φ ρ z vz) :
 (Op.equalIn (d+1) t vy vz).run P w=.ok b w:=by
 unfold K9 at hk;cases hu:P.underlying t with
 | none=>simp[hu]at hk
 | some ty=>
  cases ty<;>simp only[hu]at hk<;>first|(cases hk; done)|(injection hk with hk; subst hk)
  all_goals (cases y<;>cases z<;>simp only[G0]at h<;>first|(cases h; done)|skip)
  ·injection h with h; subst h
   rw[Hl hy,Hl hz];simp[Op.equalIn,V1 hu]
  ·split at h
   ·rename_i hkk;injection h with h; subst h; subst hkk
    rw[K4 hy,K4 hz];simp[Op.equalIn,V1 hu]
   ·cases h
  ·injection h with h; subst h
   rw[KX hy,KX hz];simp only[Op.equalIn,Sem.run_bind,V1 hu,Result.andThen_ok,Sem.run_pure];rw[beq_toListBytes,Jw,Jw]
theorem RL.at_{cs:List Aa}{vs:Array Value}(h:RL Φ ρ cs vs){i:Nat}{y:Aa}(hi:cs[i]? = some y):∃ u,vs[i]? = some u∧R Φ ρ y u:=by
 have hlt:=(gS.1 hi).1;have hv:vs[i]? = some (vs[i]'(by rw[h.1]; exact hlt)):=Array.getElem?_eq_getElem _
 exact⟨_,hv,h.2 _ _ _ hi hv⟩
theorem VT{t:TypeId}{k:Br}{cs:List Aa}{vs:Array Value}{i:Nat}{y:Aa}(hk:K9 P t=some k)(h:RL Φ ρ cs vs)(hi:cs[i]? = some y):∃ u,(part t vs i).run P w=.ok u w∧R Φ ρ y u:=by
 obtain⟨u,hu,hr⟩:=h.at_ hi;refine⟨u,?_,hr⟩;unfold K9 at hk;cases hty:P.underlying t with
 | none=>simp[hty]at hk
 | some ty=>
  have hagg:=Ws (w:=w) hty;have hf:HZ ty=false:=by cases ty<;>simp[hty]at hk<;>rfl
  simp only[part,Sem.run_bind,hagg,Result.andThen_ok,hf,bF,if_false,hu,Sem.run_pure]
theorem ZK(d:Nat){xs ys:List Aa}{vx vy:Array Value}(hx:RL Φ ρ xs vx)(hy:RL Φ ρ ys vy):∀ (fs:List Field) (i:Nat) (ks:List Br) (b:Bool),Od P fs i=some ks→L2 ks (xs.drop i) (ys.drop i)=some b →
 (Op.eqFields (d+1) vx vy fs).run P w=.ok b w
 | [],i,ks,b,hf,hs=>by
  simp only[Od,oI]at hf;subst hf;have hb:b=true:=by
   cases h1:xs.drop i<;>cases h2:ys.drop i<;>simp[h1,h2,L2]at hs
   exact hs
  subst hb;rfl
 | f :: r,i,ks,b,hf,hs=>by
  simp only[Od]at hf;split at hf
  ·rename_i hcond;simp only[bA,bne_iff_ne,ne_eq,beq_iff_eq]at hcond;cases hk:K9 P f.type with
   | none=>simp[hk]at hf
   | some k=>
    cases hr:Od P r (i+1)with
    | none=>simp[hk,hr]at hf
    | some ks'=>
     simp only[hk,hr,oI]at hf;subst hf;cases h1:xs.drop i with
     | nil=>simp[h1,L2]at hs
     | cons x xs'=>
      cases h2:ys.drop i with
      | nil=>simp[h1,h2,L2]at hs
      | cons y ys'=>
       simp only[h1,h2,L2]at hs;have hxi:xs[i]? = some x:=by
        have:=congrArg (fun l=>l[0]?) h1
        simpa[List.getElem?_drop]using this
       have hyi:ys[i]? = some y:=by
        have:=congrArg (fun l=>l[0]?) h2
        simpa[List.getElem?_drop]using this
       have hx':xs.drop (i+1)=xs':=by
        rw[← List.tail_drop,h1]; rfl
       have hy':ys.drop (i+1)=ys':=by
        rw[← List.tail_drop,h2]; rfl
       obtain⟨ux,hux,hrx⟩:=VT (P:=P) (w:=w) hk hx hxi;obtain⟨uy,huy,hry⟩:=VT (P:=P) (w:=w) hk hy hyi;rw[Op.eqFields,iP hcond.1,hcond.2];cases hkey:G0 k x y with
       | none=>simp[hkey]at hs
       | some b1=>
        have hrun:=sP (w:=w) d hk hkey hrx hry;simp only[Sem.run_bind,hux,huy,Result.andThen_ok,hrun];cases b1 with
        | false=>
         simp only[hkey,oI]at hs;subst hs;simp
        | true=>
         simp only[hkey]at hs;simp only[Bool.not_true,bF,if_false];exact ZK d hx hy r (i+1) ks' b hr (by rw[hx',hy']; exact hs)
  ·cases hf
theorem wP(ks':List Br):∀ (ks:List Br) {xs ys:List Aa} {b:Bool},L2 (ks++ks') xs ys=some b →
 (L2 ks (xs.take ks.length) (ys.take ks.length)=some false∧b=false)∨(L2 ks (xs.take ks.length) (ys.take ks.length)=some true∧L2 ks' (xs.drop ks.length) (ys.drop ks.length)=some b)
 | [],xs,ys,b,h=>.inr ⟨rfl,h⟩
 | k :: ks,[],ys,b,h=>by simp[L2]at h
 | k :: ks,x :: xs,[],b,h=>by simp[L2]at h
 | k :: ks,x :: xs,y :: ys,b,h=>by
  simp only[List.cons_append,L2]at h;simp only[lC,List.take_succ_cons,List.drop_succ_cons,L2];cases hk:G0 k x y with
  | none=>simp[hk]at h
  | some c=>
   cases c with
   | false=>
    simp only[hk,oI]at h;exact .inl ⟨rfl,h.symm⟩
   | true=>
    simp only[hk]at h;exact wP ks' ks h
theorem mI{t:TypeId}{fs:Array Field}{nf:TypeInfo}{n:Nat}{cs:List Aa}{vs:Array Value}{i:Nat}(hu:P.underlying t=some (.struct fs))(hi:P.info? t=some nf)(hn:nf.size=n)(h:RL Φ ρ cs vs) :
 ∃ us,(part t vs i).run P w=.ok (.agg us) w∧RL Φ ρ ((cs.drop i).take n) us:=by
 have hagg:=Ws (w:=w) hu;subst hn;simp only[part,Sem.run_bind,hagg,Result.andThen_ok,HZ,if_true,H8 hi,Sem.run_pure];refine⟨_,rfl,by simp[h.1]; omega,fun q y u hy hu=>?_⟩
 have hq:q<nf.size:=by
  have:=(gS.1 hy).1;simp at this; omega
 rw[List.getElem?_take,iP hq,List.getElem?_drop]at hy;rw[Array.getElem?_extract]at hu;split at hu
 ·exact h.2 _ _ _ hy hu
 ·cases hu
theorem YD(d:Nat){xs ys:List Aa}{vx vy:Array Value}(hx:RL Φ ρ xs vx)(hy:RL Φ ρ ys vy):∀ (fs:List Field) (i:Nat) (ks:List Br) (b:Bool),LD P fs i=some ks→L2 ks (xs.drop i) (ys.drop i)=some b →
 (Op.eqFields (d+2) vx vy fs).run P w=.ok b w
 | [],i,ks,b,hf,hs=>by
  simp only[LD,oI]at hf;subst hf;have hb:b=true:=by
   cases h1:xs.drop i<;>cases h2:ys.drop i<;>simp[h1,h2,L2]at hs
   exact hs
  subst hb;rfl
 | f :: r,i,ks,b,hf,hs=>by
  simp only[LD]at hf;split at hf
  ·rename_i hcond;simp only[bA,bne_iff_ne,ne_eq,beq_iff_eq]at hcond;cases hk:K9 P f.type with
   | some k=>
    cases hr:LD P r (i+1)with
    | none=>simp[hk,hr]at hf
    | some ks'=>
     simp only[hk,hr,oI]at hf;subst hf;cases h1:xs.drop i with
     | nil=>simp[h1,L2]at hs
     | cons x xs'=>
      cases h2:ys.drop i with
      | nil=>simp[h1,h2,L2]at hs
      | cons y ys'=>
       simp only[h1,h2,L2]at hs;have hxi:xs[i]? = some x:=by
        have:=congrArg (fun l=>l[0]?) h1
        simpa[List.getElem?_drop]using this
       have hyi:ys[i]? = some y:=by
        have:=congrArg (fun l=>l[0]?) h2
        simpa[List.getElem?_drop]using this
       have hx':xs.drop (i+1)=xs':=by
        rw[← List.tail_drop,h1]; rfl
       have hy':ys.drop (i+1)=ys':=by
        rw[← List.tail_drop,h2]; rfl
       obtain⟨ux,hux,hrx⟩:=VT (P:=P) (w:=w) hk hx hxi;obtain⟨uy,huy,hry⟩:=VT (P:=P) (w:=w) hk hy hyi;rw[Op.eqFields,iP hcond.1,hcond.2];cases hkey:G0 k x y with
       | none=>simp[hkey]at hs
       | some b1=>
        have hrun:=sP (w:=w) (d+1) hk hkey hrx hry;simp only[Sem.run_bind,hux,huy,Result.andThen_ok,hrun];cases b1 with
        | false=>
         simp only[hkey,oI]at hs;subst hs;simp
        | true=>
         simp only[hkey]at hs;simp only[Bool.not_true,bF,if_false];exact YD d hx hy r (i+1) ks' b hr (by rw[hx',hy']; exact hs)
   | none=>
    simp only[hk]at hf;split at hf
    ·rename_i fs nf hu hi;split at hf
     ·cases hf
     ·rename_i hst;cases hq:Od P fs.toList 0 with
      | none=>simp[hq]at hf
      | some ks1=>
       simp only[hq]at hf;split at hf
       ·rename_i hsz;cases hr:LD P r (i+ks1.length)with
        | none=>simp[hr]at hf
        | some ks'=>
         simp only[hr,oI]at hf;subst hf;obtain⟨ux,hux,hrx⟩:=mI (P:=P) (w:=w) (i:=i) hu hi hsz hx;obtain⟨uy,huy,hry⟩:=mI (P:=P) (w:=w) (i:=i) hu hi hsz hy;have hfo:P.fieldsOf f.type=fs:=by simp[Program.fieldsOf,hu]
         have hrun:=run_equalIn_struct (P:=P) w (d+1) f.type ux uy (by rw[hfo]; exact hu) (by simpa using hst)
         rw[Op.eqFields,iP hcond.1,hcond.2];rcases wP ks' ks1 hs with⟨hs1,rfl⟩|⟨hs1,hs2⟩
         ·have h1:=ZK (P:=P) (w:=w) d hrx hry fs.toList 0 ks1 false hq (by simpa using hs1)
          simp only[Sem.run_bind,hux,huy,Result.andThen_ok];rw[hrun,hfo,h1];simp
         ·have h1:=ZK (P:=P) (w:=w) d hrx hry fs.toList 0 ks1 true hq (by simpa using hs1)
          simp only[Sem.run_bind,hux,huy,Result.andThen_ok];rw[hrun,hfo,h1];simp only[Result.andThen_ok,Bool.not_true,bF,if_false];exact YD d hx hy r (i+ks1.length) ks' b hr (by simpa[List.drop_drop,Nat.add_comm]using hs2)
       ·cases hf
    ·cases hf
  ·cases hf
theorem Vs{y:Aa}{b:Bool}(h:K8 .slice y=some b)(hy:R Φ ρ y v):∃ a n c,v=.slice a n c∧a.isNone=b:=by
 cases hy<;>simp only[K8]at h<;>try (cases h; done)
 ·injection h with h; subst h; exact⟨_,_,_,rfl,rfl⟩
 ·rename_i a _ _ _ _ _ _ ha;injection h with h; subst h
  refine⟨_,_,_,rfl,?_⟩;rw[← Option.not_isSome,ha]; rfl
 ·rename_i els _ _ _ _ _ _ hne _ _ _ _ _;have:els.isEmpty=false:=by cases els<;>simp_all
  simp only[this,bF,if_false,oI]at h;subst h;exact⟨_,_,_,rfl,rfl⟩
theorem VG{y:Aa}{b:Bool}(h:K8 .ptr y=some b)(hy:R Φ ρ y v):∃ a,v=.pointer a∧a.isNone=b:=by
 cases hy<;>simp only[K8]at h<;>try (cases h; done)
 all_goals (injection h with h; subst h; exact⟨_,rfl,rfl⟩)
theorem Xh{y:Aa}{b:Bool}(h:K8 .map y=some b)(hy:R Φ ρ y v):∃ a,v=.map a∧a.isNone=b:=by
 cases hy<;>simp only[K8]at h<;>try (cases h; done)
 all_goals (injection h with h; subst h; exact⟨_,rfl,rfl⟩)
theorem VP{y:Aa}{b:Bool}(h:K8 .func y=some b)(hy:R Φ ρ y v):(v=.nilFunc∧b=true)∨(∃ f x c,v=.func f x c∧b=false):=by
 cases hy<;>simp only[K8]at h<;>try (cases h; done)
 ·injection h with h; subst h; exact .inr ⟨_,_,_,rfl,rfl⟩
 ·injection h with h; subst h; exact .inl ⟨rfl,rfl⟩
theorem uL{t el:TypeId}(d:Nat)(hu:P.underlying t=some (.pointer el))(a:Option Addr):(Op.equalIn (d+1) t (.pointer a) (.pointer none)).run P w=.ok a.isNone w∧(Op.equalIn (d+1) t (.pointer none) (.pointer a)).run P w=.ok a.isNone w:=by
 cases a<;>simp[Op.equalIn,V1 hu]
theorem sG{t el:TypeId}(d:Nat)(hu:P.underlying t=some (.slice el))(a:Option Addr)(n c n' c':Nat):(Op.equalIn (d+1) t (.slice a n c) (.slice none n' c')).run P w=.ok a.isNone w∧(Op.equalIn (d+1) t (.slice none n' c') (.slice a n c)).run P w=.ok a.isNone w:=by
 cases a<;>simp[Op.equalIn,V1 hu]
theorem yX{t k el:TypeId}(d:Nat)(hu:P.underlying t=some (.map k el))(a:Option Nat):(Op.equalIn (d+1) t (.map a) (.map none)).run P w=.ok a.isNone w∧(Op.equalIn (d+1) t (.map none) (.map a)).run P w=.ok a.isNone w:=by
 cases a<;>simp[Op.equalIn,V1 hu]
theorem Xd{t:TypeId}{a1 a2:Array TypeId}{a3:Bool}(d:Nat)(hu:P.underlying t=some (.func a1 a2 a3))(f:Fn)(x c:Array Value):(Op.equalIn (d+1) t .nilFunc .nilFunc).run P w=.ok true w∧(Op.equalIn (d+1) t (.func f x c) .nilFunc).run P w=.ok false w∧(Op.equalIn (d+1) t .nilFunc (.func f x c)).run P w=.ok false w:=by
 simp[Op.equalIn,V1 hu]
theorem Vi{e:Fp}{y z:Aa}{b:Bool}(h:Kl e y z=some b):(K8 e z=some true∧K8 e y=some b)∨(K8 e y=some true∧K8 e z=some b):=by
 unfold Kl at h;split at h
 ·rename_i h1; exact .inl ⟨h1,h⟩
 ·split at h
  ·rename_i h1; exact .inr ⟨h1,h⟩
  ·cases h
theorem sS{op:BinOp}{t:TypeId}{e:Fp}{y z:Aa}{vy vz:Value}{b:Bool}{ox oy:Operand}(he:Xr P t=some e)(h:EJ e y z=some b)(hy:R Φ ρ y vy)(hz:R Φ ρ z vz) :
 (eqGuard op t ox oy vy vz).run P w=.ok () w∧(Op.equal t vy vz).run P w=.ok b w∧(∀ k n,vy≠.int k n)∧(∀ s,vy≠.string s)∧(∀ k n,vz≠.int k n):=by
 unfold Xr at he;cases hu:P.underlying t with
 | none=>simp[hu]at he
 | some ty=>
  cases ty<;>simp only[hu]at he<;>first|(cases he; done)|skip
  case bool=>
   injection he with he; subst he
   simp only[EJ]at h;split at h
   ·injection h with h; subst h
    rw[Hl hy,Hl hz];exact⟨by cases op<;>rfl,run_equal_bool w t _ _ hu,by simp,by simp,by simp⟩
   ·cases h
  case int k=>injection he with he; subst he; simp[EJ]at h
  case string=>injection he with he; subst he; simp[EJ]at h
  case pointer el=>
   injection he with he; subst he
   rcases Vi h with⟨h1,h2⟩|⟨h1,h2⟩
   ·obtain⟨a2,rfl,hn2⟩:=VG h1 hz;obtain⟨a1,rfl,Fk⟩:=VG h2 hy;obtain rfl:a2=none:=by simpa using hn2
    subst Fk;exact⟨by cases op<;>rfl,(uL 9999 hu _).1,by simp,by simp,by simp⟩
   ·obtain⟨a2,rfl,hn2⟩:=VG h2 hz;obtain⟨a1,rfl,Fk⟩:=VG h1 hy;obtain rfl:a1=none:=by simpa using Fk
    subst hn2;exact⟨by cases op<;>rfl,(uL 9999 hu _).2,by simp,by simp,by simp⟩
  case slice el=>
   injection he with he; subst he
   rcases Vi h with⟨h1,h2⟩|⟨h1,h2⟩
   ·obtain⟨a2,n2,c2,rfl,hn2⟩:=Vs h1 hz;obtain⟨a1,n1,c1,rfl,Fk⟩:=Vs h2 hy;obtain rfl:a2=none:=by simpa using hn2
    subst Fk;exact⟨by cases op<;>rfl,(sG 9999 hu _ _ _ _ _).1,by simp,by simp,by simp⟩
   ·obtain⟨a2,n2,c2,rfl,hn2⟩:=Vs h2 hz;obtain⟨a1,n1,c1,rfl,Fk⟩:=Vs h1 hy;obtain rfl:a1=none:=by simpa using Fk
    subst hn2;exact⟨by cases op<;>rfl,(sG 9999 hu _ _ _ _ _).2,by simp,by simp,by simp⟩
  case map el e2=>
   injection he with he; subst he
   rcases Vi h with⟨h1,h2⟩|⟨h1,h2⟩
   ·obtain⟨a2,rfl,hn2⟩:=Xh h1 hz;obtain⟨a1,rfl,Fk⟩:=Xh h2 hy;obtain rfl:a2=none:=by simpa using hn2
    subst Fk;exact⟨by cases op<;>rfl,(yX 9999 hu _).1,by simp,by simp,by simp⟩
   ·obtain⟨a2,rfl,hn2⟩:=Xh h2 hz;obtain⟨a1,rfl,Fk⟩:=Xh h1 hy;obtain rfl:a1=none:=by simpa using Fk
    subst hn2;exact⟨by cases op<;>rfl,(yX 9999 hu _).2,by simp,by simp,by simp⟩
  case func a1 a2 a3=>
   injection he with he; subst he
   rcases Vi h with⟨h1,h2⟩|⟨h1,h2⟩
   ·rcases VP h1 hz with⟨rfl,_⟩|⟨f,x,c,rfl,hb⟩
    ·rcases VP h2 hy with⟨rfl,rfl⟩|⟨f,x,c,rfl,rfl⟩
     ·exact⟨by cases op<;>rfl,(Xd 9999 hu (.func 0) #[] #[]).1,by simp,by simp,by simp⟩
     ·exact⟨by cases op<;>rfl,(Xd 9999 hu _ _ _).2.1,by simp,by simp,by simp⟩
    ·cases hb
   ·rcases VP h1 hy with⟨rfl,_⟩|⟨f,x,c,rfl,hb⟩
    ·rcases VP h2 hz with⟨rfl,rfl⟩|⟨f,x,c,rfl,rfl⟩
     ·exact⟨by cases op<;>rfl,(Xd 9999 hu (.func 0) #[] #[]).1,by simp,by simp,by simp⟩
     ·exact⟨by cases op<;>rfl,(Xd 9999 hu _ _ _).2.2,by simp,by simp,by simp⟩
    ·cases hb
  case struct fs=>
   split at he
   ·cases he
   ·rename_i hcond;simp only[Bool.or_eq_true,not_or,Bool.not_eq_true]at hcond;cases hf:LD P fs.toList 0 with
    | none=>simp[hf]at he
    | some ks=>
     simp only[hf,oI]at he;subst he;simp only[EJ]at h;split at h
     ·rename_i xs ys;obtain⟨vx,rfl,hx⟩:=WH hy;obtain⟨vy,rfl,hyy⟩:=WH hz;refine⟨run_eqGuard_agg w op t ox oy vx vy hcond.2,?_,by simp,by simp,by simp⟩
      have hfo:P.fieldsOf t=fs:=by simp[Program.fieldsOf,hu]
      have:=run_equalIn_struct (P:=P) w 9999 t vx vy (by rw[hfo]; exact hu) hcond.1
      rw[Op.equal,Op.maxDepth,this,hfo];exact YD 9997 hx hyy fs.toList 0 ks b hf (by simpa using h)
     ·cases h
end
end Go.AE
end
section
namespace Go.AE
open Go.RowKit
section
variable {P:Program} {s:Sem Next} {W:AA} {Φ:Ao} {ρ:AD} {id:Nat} {w w1:World} {m m':Mem} {x:Aa} {v:Value}
theorem Z0r{op:UnOp}{y z:Aa}(h:Fo op y=some z)(hy:R Φ ρ y v):∃ u,(Op.unary op v).run P w=.ok u w∧R Φ ρ z u:=by
 unfold Fo at h;split at h
 ·injection h with h; subst h
  rw[K4 hy];exact⟨.int _ _,by simp[Op.unary,Op.intArith],.int _ _⟩
 ·injection h with h; subst h
  rw[Hl hy];exact⟨.bool _,by simp[Op.unary],.bool _⟩
 ·injection h with h; subst h
  rw[K4 hy];exact⟨.int _ _,by simp only[Op.unary,Op.intBits]; simp,.int _ _⟩
 ·cases h
theorem ZS(place:Nat→Option (Nat×Nat)):∀ (ps:List (Nat×Value)) (asz:List (Nat×Nat×Aa)) (cs:List Aa) (vs:Array Value) (cs':List Aa),RL Φ ρ cs vs→asz.length=ps.length →
 (∀(q:Nat) (p:Nat×Value) (a:Nat×Nat×Aa),ps[q]? = some p→asz[q]? = some a→place p.1=some (a.1,a.2.1)∧R Φ ρ a.2.2 p.2)→J5 cs asz=some cs' →
 ∃ vs',Instr.fill place vs ps=some vs'∧RL Φ ρ cs' vs'
 | [],[],cs,vs,cs',h,_,_,hf=>by
  simp only[J5,oI]at hf;subst hf;exact⟨vs,rfl,h⟩
 | [],a :: asz,cs,vs,cs',_,hl,_,_=>by simp at hl
 | p :: ps,[],cs,vs,cs',_,hl,_,_=>by simp at hl
 | (i,u) :: ps,(off,size,y) :: asz,cs,vs,cs',h,hl,hr,hf=>by
  obtain⟨h1,h2⟩:=hr 0 (i,u) (off,size,y) rfl rfl;simp only[J5]at hf;cases hc:y.cells with
  | none=>simp[hc]at hf
  | some ys=>
   simp only[hc]at hf;split at hf
   ·rename_i hcond;have hcells:=h2.BA hc;have hnew:RL Φ ρ (M3 cs off ys) (u.cells.zipIdx.foldl (fun cs (c,j)=>cs.setIfInBounds (off+j) c) vs):=by
     have key:∀ (l:List Value) (k:Nat) (vs:Array Value),(l.zipIdx k).foldl (fun cs (x:Value×Nat)=>cs.setIfInBounds (off+x.2) x.1) vs=O3 vs (off+k) l:=by
      intro l
      induction l with
      | nil=>intro k vs; rfl
      | cons v r ih=>intro k vs; simp only[List.zipIdx_cons,List.foldl_cons,O3,ih]; rfl
     have e:u.cells.zipIdx.foldl (fun cs (c,j)=>cs.setIfInBounds (off+j) c) vs=O3 vs off u.cells.toList:=by
      rw[← Array.foldl_toList,Array.toList_zipIdx];exact key u.cells.toList 0 vs
     rw[e];refine⟨by rw[MZ,qF,h.1],fun q z uz hz huz=>?_⟩
     rw[bJ]at hz;rw[YG]at huz;simp only[Array.length_toList,hcells.1,h.1]at huz;split at hz
     ·rename_i hin;rw[iP hin]at huz;exact hcells.2 _ _ _ hz (by simpa using huz)
     ·rename_i hin;rw[iN hin]at huz;exact h.2 _ _ _ hz huz
    obtain⟨vs',hv1,hv2⟩:=ZS place ps asz _ _ cs' hnew (by simpa using hl) (fun q p a hp ha=>hr (q+1) p a (by simpa using hp) (by simpa using ha)) hf
    refine⟨vs',?_,hv2⟩;rw[Instr.fill,h1];simp only;rw[iN (by simp[hcells.1,h.1]; omega)]
    exact hv1
   ·cases hf
theorem qM{α β:Type}{g:α→Sem β}{f:α→β}{w:World}:∀ (l:List α),(∀ x,x∈l→(g x).run P w=.ok (f x) w)→(l.mapM g).run P w=.ok (l.map f) w
 | [],_=>by simp
 | x :: l,h=>by
  rw[List.mapM_cons];simp only[Sem.run_bind,h x (by simp),Result.andThen_ok,qM l (fun y hy=>h y (by simp[hy])),Sem.run_pure,List.map_cons]
theorem Z3d{α β:Type}{g:α→Sem β}{f:α→β}{w:World}(l:Array α)(h:∀ x,x∈l.toList→(g x).run P w=.ok (f x) w):(l.mapM g).run P w=.ok (l.map f) w:=by
 rw[Array.mapM_eq_mapM_toList];simp only[Sem.run_map,qM l.toList h,Result.andThen_ok]
 congr 1
 cases l; simp
theorem oP{t:List Aa}{a:Act}(ht:RL Φ ρ t a.tmps)(fs:List Field):∀ (ps:List (Nat×Operand)) (asz:List (Nat×Nat×Ah)),Oe P fs ps=some asz →
 asz.length=ps.length ∧ ∀(q:Nat) (p:Nat×Operand) (b:Nat×Nat×Ah),ps[q]? = some p→asz[q]? = some b→(∃ f,fs[p.1]? = some f∧b.1=f.offset∧N8 P f.type=some b.2.1)∧X3 p.2=some b.2.2
 | [],asz,h=>by
  simp only[Oe,oI]at h;subst h;exact⟨rfl,fun q p b hp=>by simp at hp⟩
 | (i,y) :: ps,asz,h=>by
  simp only[Oe]at h;cases hf:fs[i]? with
  | none=>simp[hf]at h
  | some f=>
   cases hs:N8 P f.type with
   | none=>simp[hf,hs]at h
   | some n=>
    cases hy:X3 y with
    | none=>simp[hf,hs,hy]at h
    | some z=>
     cases hr:Oe P fs ps with
     | none=>simp[hf,hs,hy,hr]at h
     | some asz'=>
      simp only[hf,hs,hy,hr,oI]at h;subst h;obtain⟨h1,h2⟩:=oP ht fs ps asz' hr;refine⟨by simp[h1],fun q p b hp hb=>?_⟩
      cases q with
      | zero=>
       simp only[List.getElem?_cons_zero,oI]at hp hb;subst hp; subst hb;exact⟨⟨f,hf,rfl,hs⟩,hy⟩
      | succ q=>
       simp only[List.getElem?_cons_succ]at hp hb;exact h2 q p b hp hb
theorem nO(n:Nat):∀ (ps:List (Nat×Operand)) (asz:List (Nat×Nat×Ah)),OB n ps=some asz →
 asz.length=ps.length ∧ ∀(q:Nat) (p:Nat×Operand) (b:Nat×Nat×Ah),ps[q]? = some p→asz[q]? = some b→b.1=p.1*n∧b.2.1=n∧X3 p.2=some b.2.2
 | [],asz,h=>by
  simp only[OB,oI]at h;subst h;exact⟨rfl,fun q p b hp=>by simp at hp⟩
 | (i,y) :: ps,asz,h=>by
  simp only[OB]at h;cases hy:X3 y with
  | none=>simp[hy]at h
  | some z=>
   cases hr:OB n ps with
   | none=>simp[hy,hr]at h
   | some asz'=>
    simp only[hy,hr,oI]at h;subst h;obtain⟨h1,h2⟩:=nO n ps asz' hr;refine⟨by simp[h1],fun q p b hp hb=>?_⟩
    cases q with
    | zero=>
     simp only[List.getElem?_cons_zero,oI]at hp hb;subst hp; subst hb;exact⟨rfl,rfl,hy⟩
    | succ q=>
     simp only[List.getElem?_cons_succ]at hp hb;exact h2 q p b hp hb
theorem yj{t:TypeId}{fs:Array Field}{zs cs:List Aa}{ps:Array (Nat×Operand)}{asz:List (Nat×Nat×Ah)}{tl:List Aa}{a:Act}(ht:RL Φ ρ tl a.tmps)(hu:P.underlying t=some (.struct fs))
 (hz:Kc P t=some zs) (hp:Oe P fs.toList ps.toList=some asz) (hf:J5 zs (asz.map fun p=>(p.1,p.2.1,ev tl p.2.2))=some cs) (hall:∀ f,f∈fs.toList → ∃ i,P.info? f.type=some i) :
 ∃ u,(Instr.build t (ps.map fun(i,x)=>(i,a.eval x))).run P w=.ok u w∧R Φ ρ (.agg cs) u:=by
 obtain⟨i,z,y,h1,h2,h3,h4,_⟩:=Oy hz Φ ρ;have hzc:=h3.BA h4;obtain⟨hlen,hspec⟩:=oP ht fs.toList ps.toList asz hp;have hm:=Z3d (P:=P) (w:=w) (g:=fun f:Field=>do pure (f.offset,← sizeOf f.type)) (f:=fun f:Field=>(f.offset,P.cellsOf f.type)) fs (fun f hf=>by
  obtain⟨i,hi⟩:=hall f hf;simp only[Sem.run_bind,H8 hi,Result.andThen_ok,Sem.run_pure,Program.cellsOf,hi];rfl)
 obtain⟨vs',hv1,hv2⟩:=ZS (Φ:=Φ) (ρ:=ρ) (fun q=>(fs.map fun f:Field=>(f.offset,P.cellsOf f.type))[q]?) (ps.map fun(i,x)=>(i,a.eval x)).toList (asz.map fun p=>(p.1,p.2.1,ev tl p.2.2)) zs z.cells cs hzc
  (by simp[hlen]) (fun q p b hq hb=>by
    simp only[Array.toList_map,gM,mO]at hq hb;obtain⟨p0,Gt,rfl⟩:=hq;obtain⟨b0,hb0,rfl⟩:=hb;obtain⟨⟨f,EK,Fv,hf3⟩,hop⟩:=hspec q p0 b0 Gt hb0;obtain⟨inf,hinf,hsz⟩:=Lw hf3;refine⟨?_,R4 ht hop⟩;simp only[Array.getElem?_map];have:fs[p0.1]? = some f:=by simpa using EK
    rw[this];simp[Program.cellsOf,hinf,hsz,Fv]) hf
 refine⟨.agg vs',?_,.agg _ _ hv2.1 hv2.2⟩;simp only[Instr.build,Sem.run_bind,MO h1 h2,Result.andThen_ok,V1 hu,hm,hv1,Sem.run_pure]
theorem Z0f{t e:TypeId}{k n:Nat}{zs cs:List Aa}{ps:Array (Nat×Operand)}{asz:List (Nat×Nat×Ah)}{tl:List Aa}{a:Act}(ht:RL Φ ρ tl a.tmps)(hu:P.underlying t=some (.array k e))(hn:N8 P e=some n)
 (hz:Kc P t=some zs) (hp:OB n ps.toList=some asz) (hf:J5 zs (asz.map fun p=>(p.1,p.2.1,ev tl p.2.2))=some cs) :
 ∃ u,(Instr.build t (ps.map fun(i,x)=>(i,a.eval x))).run P w=.ok u w∧R Φ ρ (.agg cs) u:=by
 obtain⟨i,z,y,h1,h2,h3,h4,_⟩:=Oy hz Φ ρ;have hzc:=h3.BA h4;obtain⟨inf,hinf,hsz⟩:=Lw hn;obtain⟨hlen,hspec⟩:=nO n ps.toList asz hp;obtain⟨vs',hv1,hv2⟩:=ZS (Φ:=Φ) (ρ:=ρ) (fun q=>some (q*inf.size,inf.size)) (ps.map fun(i,x)=>(i,a.eval x)).toList (asz.map fun p=>(p.1,p.2.1,ev tl p.2.2)) zs z.cells cs hzc
  (by simp[hlen]) (fun q p b hq hb=>by
    simp only[Array.toList_map,gM,mO]at hq hb;obtain⟨p0,Gt,rfl⟩:=hq;obtain⟨b0,hb0,rfl⟩:=hb;obtain⟨EK,Fv,hop⟩:=hspec q p0 b0 Gt hb0;refine⟨?_,R4 ht hop⟩;simp[EK,Fv,hsz]) hf
 refine⟨.agg vs',?_,.agg _ _ hv2.1 hv2.2⟩;simp only[Instr.build,Sem.run_bind,MO h1 h2,Result.andThen_ok,V1 hu,H8 hinf,hv1,Sem.run_pure]
end
end Go.AE
end
section
namespace Go.AE
open Go.RowKit
section
variable {P:Program} {s:Sem Next} {W:AA} {Φ:Ao} {ρ:AD} {id:Nat} {w w1:World} {m m':Mem} {x:Aa} {v:Value}
theorem Z1r{cs row:List Aa}(h:cs.length=row.length):M3 row 0 cs=cs:=by
 apply List.ext_getElem?;intro q;rw[bJ];by_cases hq:q<row.length
 ·rw[iP ⟨Nat.zero_le _,by omega,hq⟩]; rfl
 ·rw[iN (by omega),List.getElem?_eq_none (by omega),List.getElem?_eq_none (by omega)]
theorem mul_add_mod{i j k:Nat}(h:j<k):(i*k+j) % k=j:=by
 rw[Nat.mul_comm,Nat.mul_add_mod];exact Nat.mod_eq_of_lt h
theorem Xo{zs:List Aa}{zc:Array Value}{k len:Nat}(h:RL Φ ρ zs zc)(h1:zs.all Aa.one=true)(hk:zs.length=k)(h0:0<k) :
 RowsIn Φ ρ (List.replicate len zs) 0 k ((Array.range (len*k)).map fun i=>zc[i % zc.size]!):=by
 refine⟨fun i row hi=>?_,fun i row j y hi hj=>?_⟩
 ·have:=List.mem_of_getElem? hi;rw[List.eq_of_mem_replicate this,hk]
 ·have hrow:=List.eq_of_mem_replicate (List.mem_of_getElem? hi);subst hrow;have hil:i<len:=by
   have:=(gS.1 hi).1;simpa using this
  have hjk:j<k:=by
   have:=(gS.1 hj).1;omega
  obtain⟨u,hu,hr⟩:=h.at_ hj;have hlt:=LA hil hjk;refine⟨u,?_,SY hr (List.all_eq_true.1 h1 y (List.mem_of_getElem? hj)),hr⟩;rw[Nat.zero_add,Array.getElem?_map,Array.getElem?_range,iP hlt];simp only[Option.map_some,oI];have e:(i*k+j) % zc.size=j:=by rw[h.1,hk]; exact mul_add_mod hjk
  rw[e];have hj2:=(Array.getElem?_eq_some_iff.1 hu).1;rw[getElem!_pos zc j hj2];rw[Array.getElem?_eq_getElem hj2]at hu;injection hu
theorem Sr{t:TypeId}{k b:Nat}{z:List Aa}(h:D2 P t=some (k,b,z)):∃ e i,P.underlying t=some (.slice e)∧P.info? e=some i∧i.size=k∧i.bytes=b∧Kc P e=some z∧z.length=k∧0<k:=by
 unfold D2 at h;split at h
 ·rename_i e he;cases hs:N8 P e with
  | none=>simp[hs]at h
  | some k'=>
   cases hb:YX P e with
   | none=>simp[hs,hb]at h
   | some b'=>
    cases hz:Kc P e with
    | none=>simp[hs,hb,hz]at h
    | some z'=>
     simp only[hs,hb,hz]at h;split at h
     ·rename_i hcond;simp only[oI,Bm]at h;obtain⟨rfl,rfl,rfl⟩:=h;obtain⟨i,hi,hsz⟩:=Lw hs;have hbb:i.bytes=b':=by simpa[YX,hi]using hb
      exact⟨e,i,he,hi,hsz,hbb,hz,hcond.1,hcond.2⟩
     ·cases h
 ·cases h
theorem yK{k:Nat}:∀ (ps:List (Nat×Value)) (asz:List (Nat×Aa)) (els:List (List Aa)) (c:Array Value) (els':List (List Aa)),RowsIn Φ ρ els 0 k c→c.size=els.length*k→asz.length=ps.length →
 (∀(q:Nat) (p:Nat×Value) (a:Nat×Aa),ps[q]? = some p→asz[q]? = some a→p.1=a.1∧R Φ ρ a.2 p.2)→I5 k els asz=some els' →
 ∃ c',Instr.fill (fun i=>some (i*k,k)) c ps=some c'∧RowsIn Φ ρ els' 0 k c'∧c'.size=c.size∧els'.length=els.length
 | [],[],els,c,els',h,_,_,_,hf=>by
  simp only[I5,oI]at hf;subst hf;exact⟨c,rfl,h,rfl,rfl⟩
 | [],a :: asz,_,_,_,_,_,hl,_,_=>by simp at hl
 | p :: ps,[],_,_,_,_,_,hl,_,_=>by simp at hl
 | (i,u) :: ps,(i',y) :: asz,els,c,els',h,hsz,hl,hr,hf=>by
  obtain⟨h1,h2⟩:=hr 0 (i,u) (i',y) rfl rfl;simp only at h1 h2;subst h1;simp only[I5]at hf;cases hc:y.cells with
  | none=>simp[hc]at hf
  | some ys=>
   simp only[hc]at hf;split at hf
   ·rename_i hcond;obtain⟨hc1,hc2,hc3⟩:=hcond;have hcells:=h2.BA hc;have key:∀ (l:List Value) (q:Nat) (vs:Array Value),(l.zipIdx q).foldl (fun cs (x:Value×Nat)=>cs.setIfInBounds (i*k+x.2) x.1) vs=O3 vs (i*k+q) l:=by
     intro l
     induction l with
     | nil=>intro q vs; rfl
     | cons v r ih=>intro q vs; simp only[List.zipIdx_cons,List.foldl_cons,O3,ih]; rfl
    have e:u.cells.zipIdx.foldl (fun cs (c,j)=>cs.setIfInBounds (i*k+j) c) c=O3 c (i*k) u.cells.toList:=by
     rw[← Array.foldl_toList,Array.toList_zipIdx];exact key u.cells.toList 0 c
    have hrow:els[i]? = some els[i]:=gE hc2;have hrl:=h.1 i _ hrow;have hnew:=xE (n:=els.length) (i:=i) (j:=0) (cs:=ys) (vs:=u.cells) h (by rw[hsz]) (by omega) hrow hcells hc3 (by omega)
    rw[Z1r (by omega)]at hnew
    simp only[Nat.zero_add,Nat.add_zero]at hnew;obtain⟨c',g1,g2,g3,g4⟩:=yK ps asz _ _ els' hnew (by rw[MZ]; simpa using hsz) (by simpa using hl) (fun q p a hp ha=>hr (q+1) p a (by simpa using hp) (by simpa using ha)) hf
    refine⟨c',?_,g2,by rw[g3,MZ],by rw[g4]; simp⟩
    have hle:i*k+k≤c.size:=by
     rw[hsz];have:(i+1)*k≤els.length*k:=Nat.mul_le_mul_right k hc2;rw[Nat.add_mul]at this;omega
    rw[Instr.fill];simp only;rw[iN (by simp[hcells.1,hc1]; omega),e]
    exact g1
   ·cases hf
theorem mY:∀ (ps:List (Nat×Operand)) (asz:List (Nat×Ah)),NY ps=some asz →
 asz.length=ps.length ∧ ∀(q:Nat) (p:Nat×Operand) (b:Nat×Ah),ps[q]? = some p→asz[q]? = some b→p.1=b.1∧X3 p.2=some b.2
 | [],asz,h=>by
  simp only[NY,oI]at h;subst h;exact⟨rfl,fun q p b hp=>by simp at hp⟩
 | (i,y) :: ps,asz,h=>by
  simp only[NY]at h;cases hy:X3 y with
  | none=>simp[hy]at h
  | some z=>
   cases hr:NY ps with
   | none=>simp[hy,hr]at h
   | some asz'=>
    simp only[hy,hr,oI]at h;subst h;obtain⟨h1,h2⟩:=mY ps asz' hr;refine⟨by simp[h1],fun q p b hp hb=>?_⟩
    cases q with
    | zero=>
     simp only[List.getElem?_cons_zero,oI]at hp hb;subst hp; subst hb;exact⟨rfl,hy⟩
    | succ q=>
     simp only[List.getElem?_cons_succ]at hp hb;exact h2 q p b hp hb
theorem GH{els:List (List Aa)}{k:Nat}{c:Array Value}(h:RowsIn Φ ρ els 0 k c)(hsz:c.size=els.length*k)(hk:0<k):∀ u,u∈c.toList→u.oneCell'=true:=by
 intro u hu;obtain⟨p,hp,rfl⟩:=List.getElem_of_mem hu;simp only[Array.length_toList]at hp;have hi:p / k<els.length:=by
  rw[Nat.div_lt_iff_lt_mul hk]; omega
 have hrow:els[p / k]? = some els[p / k]:=gE hi;have hlen:=h.1 _ _ hrow;have hj:p % k<(els[p / k]).length:=by rw[hlen]; exact Nat.mod_lt _ hk
 obtain⟨u,hu1,hu2,_⟩:=h.2 (p / k) _ (p % k) _ hrow (gE hj);have e:(0+p / k)*k+p % k=p:=by rw[Nat.zero_add,Nat.mul_comm]; exact Nat.div_add_mod p k
 rw[e,Array.getElem?_eq_getElem hp]at hu1;injection hu1 with hu1
 simpa[hu1]using hu2
theorem ZC{k len cap:Nat}{els:List (List Aa)}{c:Array Value}{e:TypeId}(hr:Rel W Φ ρ m w1)(hn:ρ id=none)(hlt:id<m.next)(hle:len≤cap)(hel:els.length≤cap)
 (hsz:c.size=cap*k) (hrows:RowsIn Φ ρ els 0 k c) (h1c:∀ v,v∈c.toList→v.oneCell'=true) (h:s.run P w=.ok (.value (.slice (some ⟨w1.heap.size,0,none⟩) len cap)) (w1.alloc (.cells c e))) :
 Az P s W Φ ρ id w (.sl id 0 len) (m.set id (.cells k els)):=by
 refine Az.new (l:=⟨w1.heap.size,0,k,cap⟩) h hr hn hlt rfl (BR.BP hn (.cells _ _ _ _ _ rfl hsz (by simpa using hel) hrows h1c)) ?_
 exact .sl id 0 len _ cap ⟨w1.heap.size,0,k,cap⟩ AD.Bj hle (by simp) (fun _=>by simp) rfl
theorem Z72{t:TypeId}{k b len:Nat}{z:List Aa}{ps:Array (Nat×Operand)}{asz:List (Nat×Ah)}{tl:List Aa}{a:Act}{els:List (List Aa)}(hr:Rel W Φ ρ m w)(ht:RL Φ ρ tl a.tmps)
 (hn:ρ id=none) (hlt:id<m.next) (he:D2 P t=some (k,b,z)) (hp:NY ps.toList=some asz) (hle:len*k≤2 ^ 24)
 (hf:I5 k (List.replicate len z) (asz.map fun p=>(p.1,ev tl p.2))=some els)
 (hs:∀ u w',(Instr.buildSlice t len (ps.map fun(i,x)=>(i,a.eval x))).run P w=.ok u w'→s.run P w=.ok (.value u) w'):Az P s W Φ ρ id w (.sl id 0 len) (m.set id (.cells k els)):=by
 obtain⟨e,i,hu,hi,hsz,hb,hz,hzl,BE⟩:=Sr he;obtain⟨i',zv,y,h1,h2,h3,h4,h5⟩:=Oy hz Φ ρ;rw[hi]at h1; injection h1 with h1; subst h1
 have hzc:=h3.BA h4;obtain⟨hlen,hspec⟩:=mY ps.toList asz hp;have hzero:=Xo (len:=len) hzc h5 hzl BE;obtain⟨c',g1,g2,g3,g4⟩:=yK (Φ:=Φ) (ρ:=ρ) (k:=k) (ps.map fun(i,x)=>(i,a.eval x)).toList (asz.map fun p=>(p.1,ev tl p.2)) _ _ els hzero (by simp) (by simp[hlen]) (fun q p b hq hb=>by
  simp only[Array.toList_map,gM,mO]at hq hb;obtain⟨p0,Gt,rfl⟩:=hq;obtain⟨b0,hb0,rfl⟩:=hb;obtain⟨e1,e2⟩:=hspec q p0 b0 Gt hb0;exact⟨e1,R4 ht e2⟩) hf
 refine ZC (cap:=len) (c:=c') (e:=e) hr hn hlt (lR _) (by rw[g4]; simp) (by rw[g3]; simp) g2 (GH g2 (by rw[g3,g4]; simp) BE) (hs _ _ ?_)
 have g1':Instr.fill (fun q=>some (q*i.size,i.size)) ((Array.range (len*k)).map fun q=>zv.cells[q % zv.cells.size]!) (ps.map fun(i,x)=>(i,a.eval x)).toList=some c':=by rw[hsz]; exact g1
 simp only[Instr.buildSlice,Sem.run_bind,V1 hu,Result.andThen_ok,H8 hi];rw[iN (by rw[hsz]; omega)]
 by_cases h0:len*i.size=0
 ·rw[iP h0];have h00:len*k=0:=by rw[← hsz]; exact h0
  rw[h00]at g1';simp only[Sem.run_bind,Sem.run_pure,Result.andThen_ok,h0];have e0:((Array.range 0).map fun q=>(#[]:Array Value)[q % (#[]:Array Value).size]!)=(Array.range 0).map fun q=>zv.cells[q % zv.cells.size]!:=by simp
  rw[e0,g1'];rfl
 ·rw[iN h0];simp only[Sem.run_bind,Sem.run_pure,Result.andThen_ok,MO hi h2];have e0:len*i.size=len*k:=by rw[hsz]
  rw[e0,g1'];rfl
theorem Z0v{t:TypeId}{k b l c:Nat}{z:List Aa}{vl vc:Value}{kl kc:IntKind}(hr:Rel W Φ ρ m w)(hn:ρ id=none)(hlt:id<m.next)(he:D2 P t=some (k,b,z))
 (hl:vl=.int kl (l:Int)) (hc:vc=.int kc (c:Int)) (hle:l≤c) (Cx:c≤T5) (FQ:b≤T5)
 (hs:∀ u w',(Instr.makeSlice t vl vc).run P w=.ok u w'→s.run P w=.ok (.value u) w'):Az P s W Φ ρ id w (.sl id 0 l) (m.set id (.cells k (List.replicate c z))):=by
 obtain⟨e,i,hu,hi,hsz,hb,hz,hzl,BE⟩:=Sr he;obtain⟨i',zv,y,h1,h2,h3,h4,h5⟩:=Oy hz Φ ρ;rw[hi]at h1; injection h1 with h1; subst h1
 have hzc:=h3.BA h4;subst hl; subst hc;unfold T5 at Cx FQ;refine ZC (cap:=c) (c:=(Array.range (c*k)).map fun q=>zv.cells[q % zv.cells.size]!) (e:=e) hr hn hlt hle (by simp) (by simp) (Xo hzc h5 hzl BE) (GH (Xo hzc h5 hzl BE) (by simp) BE) (hs _ _ ?_)
 clear hs;have wl:IntKind.i64.wrap (l:Int)=l:=IntWalk.i64_in _ (by omega)
 have wc:IntKind.i64.wrap (c:Int)=c:=IntWalk.i64_in _ (by omega)
 have hmul:b*c≤1048576*1048576:=Nat.mul_le_mul FQ Cx;have hbig:¬((b:Int)*(c:Int) > 2 ^ 48):=by
  have h1:((b*c:Nat):Int)≤((1048576*1048576:Nat):Int):=Int.ofNat_le.2 hmul;rw[Int.natCast_mul]at h1;omega
 simp only[Instr.makeSlice,Sem.run_bind,V1 hu,Result.andThen_ok,asInt,asIntOf,Sem.run_pure,RV hi,wl,wc];rw[hb];rw[iN (by
  simp only[Bool.or_eq_true,decide_eq_true_eq,not_or];exact⟨⟨⟨by omega,hbig⟩,by omega⟩,by omega⟩)]
 simp only[Sem.run_bind,run_askRoom,Result.andThen_ok,H8 hi,Int.toNat_natCast];by_cases h0:c*i.size=0
 ·rw[iP h0];have h00:c*k=0:=by rw[← hsz]; exact h0
  simp only[newRow,Sem.run_bind,run_newObj,Sem.run_pure,Result.andThen_ok,h0,h00];have e0:((Array.range 0).map fun q=>(#[]:Array Value)[q % (#[]:Array Value).size]!)=(Array.range 0).map fun q=>zv.cells[q % zv.cells.size]!:=by simp
  rw[e0];rfl
 ·rw[iN h0];simp only[newRow,Sem.run_bind,run_newObj,Sem.run_pure,Result.andThen_ok,MO hi h2];have e0:c*i.size=c*k:=by rw[hsz]
  rw[e0];rfl
end
end Go.AE
end
section
namespace Go.AE
open Go.RowKit
section
variable {P:Program} {s:Sem Next} {W:AA} {Φ:Ao} {ρ:AD} {id:Nat} {w w1:World} {m m':Mem} {x:Aa} {v:Value}
theorem Z36(k:Nat)(a:Option Addr)(n c:Nat):(Builtin.firstCells k 0 (.slice a n c)).run P w=.ok #[] w:=by
 cases a with
 | none=>rfl
 | some a=>simp only[Builtin.firstCells,Nat.zero_mul]; rfl
theorem x9(k:Nat):RowsIn Φ ρ [] 0 k #[]:=⟨fun i row h=>by simp at h,fun i row j x h=>by simp at h⟩
theorem MV{k:Nat}{y:Aa}{xs:List (List Aa)}(hr:Rel W Φ ρ m w)(hy:R Φ ρ y v)(hs:M9 m k y=some xs)(hk:0<k) :
 ∃ arr:Array Value,(Builtin.lenOf v).run P w=.ok xs.length w∧(∀ q,q≤xs.length→(Builtin.firstCells k q v).run P w=.ok (arr.extract 0 (q*k)) w)∧arr.size=xs.length*k∧RowsIn Φ ρ xs 0 k arr:=by
 have empty:∀ (a:Option Addr) (cap:Nat),∃ arr:Array Value,(Builtin.lenOf (.slice a 0 cap)).run P w=.ok ([]:List (List Aa)).length w ∧
  (∀ q,q≤([]:List (List Aa)).length→(Builtin.firstCells k q (.slice a 0 cap)).run P w=.ok (arr.extract 0 (q*k)) w)∧arr.size=([]:List (List Aa)).length*k∧RowsIn Φ ρ [] 0 k arr:=by
  intro a cap;refine⟨#[],rfl,fun q hq=>?_,by simp,x9 k⟩
  obtain rfl:q=0:=by simpa using hq
  rw[Z36]; simp
 cases hy with
 | str l=>
  simp only[M9]at hs;split at hs
  ·rename_i hk1;subst hk1;injection hs with hs
   subst hs;refine⟨(l.map fun b=>Value.int .u8 b.toNat).toArray,?_,fun q hq=>?_,by simp,fun i row hi=>?_,fun i row j y hi hj=>?_⟩
   ·simp only[Builtin.lenOf,Sem.run_pure,lM]; rfl
   ·simp only[Builtin.firstCells,Sem.run_pure,rB]
    congr 1
    apply Array.ext';simp[List.map_take]
   ·rw[gM]at hi;cases hl:l[i]? with
    | none=>simp[hl]at hi
    | some c=>simp only[hl,Option.map_some,oI]at hi; subst hi; rfl
   ·rw[gM]at hi;cases hl:l[i]? with
    | none=>simp[hl]at hi
    | some c=>
     simp only[hl,Option.map_some,oI]at hi;subst hi;have hj0:j=0:=by
      have:=(gS.1 hj).1;simp[Vv]at this; exact this
     subst hj0;simp only[Vv,List.getElem?_cons_zero,oI]at hj;subst hj;exact⟨.int .u8 c.toNat,by simp[hl],rfl,.int _ _⟩
  ·cases hs
 | Ae=>simp only[M9,H3,oI]at hs; subst hs; exact empty none 0
 | emp a=>simp only[M9,H3,oI]at hs; subst hs; exact empty a 0
 | BS a cap _=>simp only[M9,H3,List.all_nil,if_true,oI]at hs; subst hs; exact empty a cap
 | Aj els B o k' cap c f hne hcap hB hk' hc Ak=>
  simp only[M9,H3]at hs;split at hs
  ·rename_i hall;injection hs with hs
   subst hs;have hpos:0<els.length:=List.length_pos_iff.2 hne;have hkk:k'=k:=by
    have e1:=hk' 0 _ (gE hpos);have e2:=yT hall 0 _ (gE hpos);omega
   subst hkk;obtain⟨e,fz,Xz⟩:=hr.Bn B c hB;have hsize:o+els.length*k'≤c.size:=by
    have hlast:els[els.length - 1]? = some els[els.length - 1]:=gE (by omega)
    have hl:=hk' _ _ hlast;have hj:k' - 1<(els[els.length - 1]).length:=by omega
    have h1:=(hc _ _ _ _ hlast (gE hj)).1;have h2:=(Array.getElem?_eq_some_iff.1 h1).1;have e3:(els.length - 1+1)*k'=els.length*k':=by rw[Nat.sub_add_cancel hpos]
    rw[Nat.add_mul]at e3;omega
   refine⟨c.extract o (o+els.length*k'),rfl,fun q hq=>?_,by simp; omega,fun i row hi=>hk' i row hi,fun i row j y hi hj=>?_⟩
   ·simp only[Builtin.firstCells];have hqk:q*k'≤els.length*k':=Nat.mul_le_mul_right _ hq;rw[Zj Xz (by omega)]
    congr 1
    rw[Array.extract_extract]
    congr 1
    omega
   ·have hi2:=(gS.1 hi).1;have hj2:j<k':=by
     have:=(gS.1 hj).1;rw[hk' i row hi]at this; exact this
    have hlt:=LA hi2 hj2;obtain⟨h1,h2⟩:=hc i row j y hi hj;refine⟨f i j,?_,h2,Ak i row j y hi hj⟩;rw[Nat.zero_add,Array.getElem?_extract,iP (by omega)]
    rw[← h1]; congr 1; omega
  ·cases hs
 | sl b off len a cap l hl hle hn hcap CN=>
  simp only[M9,H3]at hs;have dead:len=0→xs=[] → ∃ arr:Array Value,(Builtin.lenOf (.slice a len cap)).run P w=.ok xs.length w∧(∀ q,q≤xs.length→(Builtin.firstCells k q (.slice a len cap)).run P w=.ok (arr.extract 0 (q*k)) w)∧arr.size=xs.length*k∧RowsIn Φ ρ xs 0 k arr:=by
   intro h0 h1;subst h0; subst h1;exact empty a cap
  cases hg:m.get b with
  | none=>
   simp only[hg]at hs;split at hs
   ·rename_i h0;injection hs with hs
    exact dead h0 hs.symm
   ·cases hs
  | some blk=>
   cases blk with
   | cells k2 els=>
    simp only[hg]at hs;split at hs
    ·rename_i hcond;obtain⟨rfl,Fa⟩:=hcond;injection hs with hs
     by_cases h0:len=0
     ·subst h0;exact dead rfl (by rw[← hs]; simp)
     ·have ha:=hcap (by omega)
      subst ha;obtain⟨l',ob,g1,g2,g3,g4,g5⟩:=hr.live b _ hg;rw[hl]at g1; injection g1 with g1; subst g1
      cases g5 with
      | cells _ _ _ c e hk2 hsz hlen hrows _=>
       subst hs;subst hk2;have hxl:((els.drop off).take len).length=len:=by simp; omega
       have hbound:(l.sh+off)*l.k+len*l.k≤c.size:=by
        rw[hsz,← Nat.add_mul];exact Nat.mul_le_mul_right _ (by omega)
       refine⟨c.extract ((l.sh+off)*l.k) ((l.sh+off)*l.k+len*l.k),by rw[hxl]; rfl,fun q hq=>?_,by rw[hxl]; simp; omega,fun i row hi=>?_,fun i row j y hi hj=>?_⟩
       ·rw[hxl]at hq;simp only[Builtin.firstCells];have hqk:q*l.k≤len*l.k:=Nat.mul_le_mul_right _ hq;rw[Zj g4 (by omega)]
        congr 1
        rw[Array.extract_extract]
        congr 1
        omega
       ·rw[List.getElem?_take]at hi;split at hi
        ·rw[List.getElem?_drop]at hi;exact hrows.1 _ row hi
        ·cases hi
       ·rw[List.getElem?_take]at hi;split at hi
        ·rename_i hil;rw[List.getElem?_drop]at hi;obtain⟨u,h1,h2,h3⟩:=hrows.2 (off+i) row j y hi hj;have hj2:j<l.k:=by
          have:=(gS.1 hj).1;rw[hrows.1 _ row hi]at this; omega
         have hlt:=LA hil hj2;refine⟨u,?_,h2,h3⟩;have hlen2:len*l.k=((els.drop off).take len).length*l.k:=by rw[hxl]
         rw[Nat.zero_add,Array.getElem?_extract,iP (by omega),← h1]
         congr 1
         rw[← Nat.add_assoc l.sh,Nat.add_mul (l.sh+off) i];omega
        ·cases hi
    ·cases hs
   | map es clock=>
    simp only[hg]at hs;split at hs
    ·rename_i h0;injection hs with hs
     exact dead h0 hs.symm
    ·cases hs
   | Cg s' pos=>
    simp only[hg]at hs;split at hs
    ·rename_i h0;injection hs with hs
     exact dead h0 hs.symm
    ·cases hs
   | AJ a' b' c' d'=>
    simp only[hg]at hs;split at hs
    ·rename_i h0;injection hs with hs
     exact dead h0 hs.symm
    ·cases hs
 | _=>simp[M9,H3]at hs
theorem Wh{els xs:List (List Aa)}{sh k n p:Nat}{c arr:Array Value}(h:RowsIn Φ ρ els sh k c)(hn:c.size=n*k)(hp:p≤els.length)(hl:sh+p+xs.length≤n)
 (hx:RowsIn Φ ρ xs 0 k arr) (hsz:arr.size=xs.length*k):RowsIn Φ ρ (els.take p++xs++els.drop (p+xs.length)) sh k (O3 c ((sh+p)*k) arr.toList):=by
 have hget:∀ (i:Nat) (row:List Aa),(els.take p++xs++els.drop (p+xs.length))[i]? = some row→(i<p∧els[i]? = some row)∨(p≤i∧i<p+xs.length∧xs[i - p]? = some row)∨(p+xs.length≤i∧els[i]? = some row):=by
  intro i row hi;rw[List.getElem?_append,List.getElem?_append]at hi;simp only[lA,lK,Nat.min_eq_left hp]at hi;split at hi
  ·rename_i h1;split at hi
   ·rename_i h2;rw[List.getElem?_take,iP h2]at hi;exact .inl ⟨h2,hi⟩
   ·rename_i h2;exact .inr (.inl ⟨by omega,h1,hi⟩)
  ·rename_i h1;rw[List.getElem?_drop]at hi;refine .inr (.inr ⟨by omega,?_⟩)
   rw[← hi]; congr 1; omega
 refine⟨fun i row hi=>?_,fun i row j y hi hj=>?_⟩
 ·rcases hget i row hi with⟨_,h1⟩|⟨_,_,h1⟩|⟨_,h1⟩
  ·exact h.1 _ _ h1
  ·exact hx.1 _ _ h1
  ·exact h.1 _ _ h1
 ·rw[YG];simp only[Array.length_toList,hsz];rcases hget i row hi with⟨h0,h1⟩|⟨h0,h00,h1⟩|⟨h0,h1⟩
  ·obtain⟨u,g1,g2,g3⟩:=h.2 i row j y h1 hj;have hj2:j<k:=by
    have:=(gS.1 hj).1;rw[h.1 _ row h1]at this; exact this
   have hlt:=LA (a:=sh+i) (n:=sh+p) (by omega) hj2
   rw[iN (by omega)]
   exact⟨u,g1,g2,g3⟩
  ·obtain⟨u,g1,g2,g3⟩:=hx.2 (i - p) row j y h1 hj;have hj2:j<k:=by
    have:=(gS.1 hj).1;rw[hx.1 _ row h1]at this; exact this
   have e1:(sh+i)*k=(sh+p)*k+(i - p)*k:=by rw[← Nat.add_mul]; congr 1; omega
   have hlt:=LA (a:=i - p) (n:=xs.length) (by omega) hj2
   have hlt2:(sh+p)*k+xs.length*k≤c.size:=by rw[hn,← Nat.add_mul]; exact Nat.mul_le_mul_right _ hl
   rw[e1,iP ⟨by omega,by omega,by omega⟩]
   rw[Nat.zero_add]at g1;refine⟨u,?_,g2,g3⟩;have e2:(sh+p)*k+(i - p)*k+j - (sh+p)*k=(i - p)*k+j:=by omega
   rw[e2];simpa using g1
  ·obtain⟨u,g1,g2,g3⟩:=h.2 i row j y h1 hj;have hle:(sh+p+xs.length)*k≤(sh+i)*k:=Nat.mul_le_mul_right _ (by omega)
   rw[Nat.add_mul (sh+p)]at hle;rw[iN (by omega)]
   exact⟨u,g1,g2,g3⟩
theorem wj{b:Nat}{x0 x':Ai}{l l':Loc}{o':Obj}(h:Rel W Φ ρ m w)(hb:m.get b=some x0)(hl:ρ b=some l)(hid:ρ id=none)(hlt:id<m.next)(hl':l'.blk=l.blk)
 (hr:BR Φ (ρ.put id l') x' l' o'):Rel W Φ (ρ.put id l') ((m.del b).set id x') (R5 w l.blk o'):=by
 have hx:=AD.BP (Φ:=Φ) (l:=l') hid;obtain⟨l0,o,g1,g2,g3,g4,g5⟩:=h.live b x0 hb;rw[hl]at g1; injection g1 with g1; subst g1
 have hblt:l.blk<w.heap.size:=by
  rcases lG l.blk w.heap.size with h'|h'
  ·exact h'
  ·rw[Array.getElem?_eq_none h']at g4; cases g4
 have hbi:b≠id:=by rintro rfl; rw[hid]at hl; cases hl
 have rne:∀ b' k,b'≠id→ρ.put id l' b'=some k→ρ b'=some k:=fun b' k hb' he=>by
  unfold AD.put at he; rw[iN hb']at he; exact he
 refine⟨?_,?_,?_,?_,?_,h.Cr⟩
 ·exact h.base.put g2
 ·intro B c hB;obtain⟨e,fz,ho⟩:=h.Bn B c hB;refine⟨e,fz,?_⟩;rw[LI,iN]
  ·exact ho
  ·rintro⟨rfl,_⟩;rw[hB]at g3; cases g3
 ·intro b' y hy;simp only[Mem.AH,Mem.BB]at hy;by_cases DN:b'=id
  ·subst DN;rw[iP rfl]at hy;injection hy with hy
   subst hy;exact⟨l',o',AD.Bj,by rw[hl']; exact g2,by rw[hl']; exact g3,by rw[hl',LI,iP ⟨rfl,hblt⟩],hr⟩
  ·rw[iN DN]at hy;by_cases Ci:b'=b
   ·rw[iP Ci]at hy; cases hy
   ·rw[iN Ci]at hy;obtain⟨k,o'',k1,k2,k3,k4,k5⟩:=h.live b' y hy;refine⟨k,o'',hx.Gl _ _ k1,k2,k3,?_,k5.ext hx⟩;rw[LI,iN]
    ·exact k4
    ·rintro⟨he,_⟩;exact Ci (h.inj b' b y x0 k l hy hb k1 hl he.symm)
 ·intro b1 b2 y1 y2 l1 l2 h1 h2 k1 k2 he;simp only[Mem.AH,Mem.BB]at h1 h2;by_cases e1:b1=id
  ·by_cases e2:b2=id
   ·rw[e1,e2]
   ·rw[iN e2]at h2;by_cases e3:b2=b
    ·rw[iP e3]at h2; cases h2
    ·rw[iN e3]at h2;rw[e1,AD.Bj]at k1;injection k1 with k1; subst k1
     exact absurd (h.inj b2 b y2 x0 l2 l h2 hb (rne _ _ e2 k2) hl (by rw[← he,hl'])) e3
  ·rw[iN e1]at h1;by_cases e3:b1=b
   ·rw[iP e3]at h1; cases h1
   ·rw[iN e3]at h1;by_cases e2:b2=id
    ·rw[e2,AD.Bj]at k2;injection k2 with k2; subst k2
     exact absurd (h.inj b1 b y1 x0 l1 l h1 hb (rne _ _ e1 k1) hl (by rw[he,hl'])) e3
    ·rw[iN e2]at h2;by_cases e4:b2=b
     ·rw[iP e4]at h2; cases h2
     ·rw[iN e4]at h2;exact h.inj b1 b2 y1 y2 l1 l2 h1 h2 (rne _ _ e1 k1) (rne _ _ e2 k2) he
 ·intro b' k hb';by_cases hbb:b'=id
  ·rw[hbb]; exact hlt
  ·exact h.fresh b' k (rne _ _ hbb hb')
end
end Go.AE
end
section
namespace Go.AE
open Go.RowKit
structure AT (ft:List Nat) (m m' m2 Ef:Mem):Prop where
 n1:m'.next=m.next
 n2:Ef.next=m2.next
 QV:∀ b,b∉ft→m'.get b=m.get b
 QW:∀ b,b∉ft→Ef.get b=m2.get b
 ins:∀ b,b∈ft→Ef.get b=m'.get b
def EU(ft:List Nat)(m m2:Mem):Prop:=∀ b,b∈ft→m2.get b=m.get b
section
variable {ft:List Nat} {m m2 m':Mem} {id:Nat} {t:List Aa} {v:Aa}
theorem AT.refl(h:EU ft m m2):AT ft m m m2 m2:=⟨rfl,rfl,fun _ _=>rfl,fun _ _=>rfl,h⟩
theorem AT.set{m' Ef:Mem}{b:Nat}{x:Ai}(h:AT ft m m' m2 Ef)(hb:b∈ft):AT ft m (m'.set b x) m2 (Ef.set b x):=by
 refine⟨h.n1,h.n2,fun c hc=>?_,fun c hc=>?_,fun c hc=>?_⟩
 ·have:c≠b:=fun e=>hc (e ▸ hb)
  simp[this,h.QV c hc]
 ·have:c≠b:=fun e=>hc (e ▸ hb)
  simp[this,h.QW c hc]
 ·simp only[Mem.AH];split
  ·rfl
  ·exact h.ins c hc
theorem AT.del{m' Ef:Mem}{b:Nat}(h:AT ft m m' m2 Ef)(hb:b∈ft):AT ft m (m'.del b) m2 (Ef.del b):=by
 refine⟨h.n1,h.n2,fun c hc=>?_,fun c hc=>?_,fun c hc=>?_⟩
 ·have:c≠b:=fun e=>hc (e ▸ hb)
  simp[this,h.QV c hc]
 ·have:c≠b:=fun e=>hc (e ▸ hb)
  simp[this,h.QW c hc]
 ·simp only[Mem.BB];split
  ·rfl
  ·exact h.ins c hc
theorem Z9f{x:Aa}(h:EU (W2 x) m m2):rowAt m2 x=rowAt m x:=by
 cases x<;>simp only[rowAt]
 rename_i b i j;rw[h b (by simp[W2])]
theorem Z79{x:Aa}{n:Option Nat}(h:EU (W2 x) m m2):LC m2 n x=LC m n x:=by
 simp only[LC,Z9f h]
theorem vU{x:Aa}{k:Nat}(h:EU (W2 x) m m2):H3 m2 k x=H3 m k x:=by
 cases x<;>simp only[H3]
 rename_i b off len;rw[h b (by simp[W2])]
theorem uQ{x:Aa}{k:Nat}(h:EU (W2 x) m m2):M9 m2 k x=M9 m k x:=by
 cases x<;>simp only[M9]<;>first|rfl|exact vU h
theorem Z4j{x y:Aa}{n:Nat}(h:EU ft m m2)(hx:∀ b,b∈W2 x→b∈ft)(hs:LN m n x y=some m'):∃ Ef,LN m2 n x y=some Ef∧AT ft m m' m2 Ef:=by
 cases x<;>simp only[LN]at hs<;>first|(cases hs; done)|skip
 rename_i b i j;have hb:b∈ft:=hx b (by simp[W2])
 simp only[LN,h b hb];split at hs<;>first|(cases hs; done)|skip
 rename_i b' i' j' cs heq hcs;injection heq with h1 h2 h3
 subst h1; subst h2; subst h3;split at hs<;>first|(cases hs; done)|skip
 rename_i k els hg;split at hs<;>first|(cases hs; done)|skip
 rename_i row hrow;split at hs<;>first|(cases hs; done)|skip
 rename_i hc;injection hs with hs
 subst hs;simp only[h b hb,hg,hrow];rw[iP hc];exact⟨_,rfl,(AT.refl h).set hb⟩
theorem Zzm{k bytes:Nat}{s:Aa}{xs:List (List Aa)}(h:EU ft m m2)(hid:id∈ft)(hx:∀ b,b∈W2 s→b∈ft)(hs:J2 id k bytes m s xs=some (v,m')) :
 ∃ Ef,J2 id k bytes m2 s xs=some (v,Ef)∧AT ft m m' m2 Ef:=by
 cases s<;>simp only[J2]at hs<;>first|(cases hs; done)|skip
 ·split at hs
  ·rename_i h0;simp only[oI,Bm]at hs;obtain⟨h1,h2⟩:=hs;subst h1; subst h2;exact⟨m2,by simp[J2,h0],AT.refl h⟩
  ·rename_i h0;split at hs<;>first|(cases hs; done)|skip
   rename_i hc;simp only[oI,Bm]at hs;obtain⟨h1,h2⟩:=hs;subst h1; subst h2;exact⟨_,by simp only[J2,h0,if_false,hc]; rfl,(AT.refl h).set hid⟩
 ·split at hs
  ·rename_i h0;simp only[oI,Bm]at hs;obtain⟨h1,h2⟩:=hs;subst h1; subst h2;exact⟨m2,by simp[J2,h0],AT.refl h⟩
  ·rename_i h0;split at hs<;>first|(cases hs; done)|skip
   rename_i hc;simp only[oI,Bm]at hs;obtain⟨h1,h2⟩:=hs;subst h1; subst h2;exact⟨_,by simp only[J2,h0,if_false,hc]; rfl,(AT.refl h).set hid⟩
 ·rename_i b off len;have hb:b∈ft:=hx b (by simp[W2])
  simp only[J2,h b hb];split at hs<;>first|(cases hs; done)|skip
  rename_i k' els hg;split at hs<;>first|(cases hs; done)|skip
  rename_i hc;rw[iP hc];split at hs
  ·rename_i hc2;rw[iP hc2];simp only[oI,Bm]at hs;obtain⟨h1,h2⟩:=hs;subst h1; subst h2;exact⟨_,rfl,(AT.refl h).set hb⟩
  ·rename_i hc2;rw[iN hc2];split at hs<;>first|(cases hs; done)|skip
   rename_i hc3;rw[iP hc3];simp only[oI,Bm]at hs;obtain⟨h1,h2⟩:=hs;subst h1; subst h2;exact⟨_,rfl,((AT.refl h).del hb).set hid⟩
theorem LP{o:Option Aa}{m':Mem}(h:EU ft m m2)(hs:(match o with|some v=>some (v,m)|none=>none)=some (v,m')) :
 ∃ Ef,(match o with|some v=>some (v,m2)|none=>none)=some (v,Ef)∧AT ft m m' m2 Ef:=by
 cases o with
 | none=>cases hs
 | some w=>
  simp only[oI,Bm]at hs;obtain⟨h1,h2⟩:=hs;subst h1; subst h2;exact⟨m2,rfl,AT.refl h⟩
theorem ZM{op:AU}(hr:EU (L4 t op) m m2)(h:EU (T8 id t op) m m2)(hs:Z5 id t m op=some (v,m')):∃ Ef,Z5 id t m2 op=some (v,Ef)∧AT (T8 id t op) m m' m2 Ef:=by
 have keep:∀ {o:Option (Aa×Mem)},o=some (v,m')→(∀ w n,o=some (w,n)→n=m∧Z5 id t m2 op=some (w,m2)) → ∃ Ef,Z5 id t m2 op=some (v,Ef)∧AT (T8 id t op) m m' m2 Ef:=by
  intro o ho hw;obtain⟨h1,h2⟩:=hw v m' ho;subst h1;exact⟨m2,h2,AT.refl h⟩
 cases op with
 | Fz x=>exact keep hs fun w n hh=>by simp only[Z5,oI,Bm]at hh ⊢; exact⟨hh.2.symm,hh.1,trivial⟩
 | pick c a b=>
  simp only[Z5]at hs ⊢;split at hs<;>first|(cases hs; done)|skip
  all_goals
   simp only[oI,Bm]at hs;obtain⟨h1,h2⟩:=hs;subst h1; subst h2;exact⟨m2,rfl,AT.refl h⟩
 | box x=>
  simp only[Z5]at hs ⊢;split at hs<;>first|(cases hs; done)|skip
  rename_i cs hcs;split at hs<;>first|(cases hs; done)|skip
  rename_i hall;simp only[oI,Bm]at hs;obtain⟨h1,h2⟩:=hs;subst h1; subst h2;simp only[hall,if_true];exact⟨_,rfl,(AT.refl h).set (by simp[T8])⟩
 | alloc z=>
  simp only[Z5,oI,Bm]at hs ⊢;obtain⟨h1,h2⟩:=hs;subst h1; subst h2;exact⟨_,⟨rfl,rfl⟩,(AT.refl h).set (by simp[T8])⟩
 | build z ps=>
  simp only[Z5]at hs ⊢;split at hs<;>first|(cases hs; done)|skip
  simp only[oI,Bm]at hs;obtain⟨h1,h2⟩:=hs;subst h1; subst h2;exact⟨m2,rfl,AT.refl h⟩
 | CO k len z ps=>
  simp only[Z5]at hs ⊢;split at hs<;>first|(cases hs; done)|skip
  simp only[oI,Bm]at hs;obtain⟨h1,h2⟩:=hs;subst h1; subst h2;exact⟨_,rfl,(AT.refl h).set (by simp[T8])⟩
 | load n x=>
  simp only[Z5]at hs ⊢;rw[Z79 hr];exact LP h hs
 | store n a x=>
  simp only[Z5]at hs ⊢;split at hs<;>first|(cases hs; done)|skip
  rename_i m3 hst;simp only[oI,Bm]at hs;obtain⟨h1,h2⟩:=hs;subst h1; subst h2;obtain⟨m4,h3,h4⟩:=Z4j h (fun _ hb=>hb) hst
  rw[h3];exact⟨m4,rfl,h4⟩
 | Cd x=>
  simp only[Z5]at hs ⊢;split at hs<;>first|(cases hs; done)|skip
  all_goals
   simp only[oI,Bm]at hs;obtain⟨h1,h2⟩:=hs;subst h1; subst h2;exact⟨m2,rfl,AT.refl h⟩
 | bin op e x y=>simp only[Z5]at hs ⊢; exact LP h hs
 | un op x=>simp only[Z5]at hs ⊢; exact LP h hs
 | CA k x=>
  simp only[Z5]at hs ⊢;split at hs<;>first|(cases hs; done)|skip
  simp only[oI,Bm]at hs;obtain⟨h1,h2⟩:=hs;subst h1; subst h2;exact⟨m2,rfl,AT.refl h⟩
 | Dk x=>
  simp only[Z5]at hs ⊢;split at hs<;>first|(cases hs; done)|skip
  simp only[oI,Bm]at hs;obtain⟨h1,h2⟩:=hs;subst h1; subst h2;exact⟨m2,rfl,AT.refl h⟩
 | toStr x=>
  simp only[Z5]at hs ⊢;rw[vU hr];split at hs<;>first|(cases hs; done)|skip
  rename_i rows hrows;split at hs<;>first|(cases hs; done)|skip
  rename_i s hss;simp only[oI,Bm]at hs;obtain⟨h1,h2⟩:=hs;subst h1; subst h2;exact⟨m2,rfl,AT.refl h⟩
 | CW fn a b=>exact keep hs fun w n hh=>by simp only[Z5,oI,Bm]at hh ⊢; exact⟨hh.2.symm,hh.1,trivial⟩
 | mkMap=>
  simp only[Z5,oI,Bm]at hs ⊢;obtain⟨h1,h2⟩:=hs;subst h1; subst h2;exact⟨_,⟨rfl,rfl⟩,(AT.refl h).set (by simp[T8])⟩
 | Cb k b z len cap=>
  simp only[Z5]at hs ⊢;split at hs<;>first|(cases hs; done)|skip
  split at hs<;>first|(cases hs; done)|skip
  rename_i hc;simp only[oI,Bm]at hs;obtain⟨h1,h2⟩:=hs;subst h1; subst h2;simp only[hc,and_self,if_true];exact⟨_,rfl,(AT.refl h).set (by simp[T8])⟩
 | Es x lo hi=>
  simp only[Z5]at hs ⊢;split at hs<;>first|(cases hs; done)|skip
  split at hs<;>first|(cases hs; done)|skip
  simp only[oI,Bm]at hs;obtain⟨h1,h2⟩:=hs;subst h1; subst h2;exact⟨m2,rfl,AT.refl h⟩
 | DU k x lo hi mx=>
  have ha:EU (W2 (ev t x)) m m2:=hr;simp only[Z5]at hs ⊢;split at hs
  ·split at hs<;>first|(cases hs; done)|skip
   split at hs<;>first|(cases hs; done)|skip
   split at hs<;>first|(cases hs; done)|skip
   rename_i hc;simp only[hc,and_self,if_true];split at hs
   all_goals
    rename_i h0;simp only[oI,Bm]at hs;obtain⟨h1,h2⟩:=hs;subst h1; subst h2;simp only[h0,if_true,if_false];exact⟨m2,rfl,AT.refl h⟩
  ·generalize ev t x=y at *;cases y<;>simp only at hs ⊢ <;> first|(cases hs; done)|skip
   case sl b off len=>
    rw[ha b (by simp[W2])]
    split at hs<;>first|(cases hs; done)|skip
    split at hs<;>first|(cases hs; done)|skip
    rename_i hc;simp only[hc,and_self,if_true];split at hs<;>first|(cases hs; done)|skip
    simp only[oI,Bm]at hs;obtain⟨h1,h2⟩:=hs;subst h1; subst h2;exact⟨m2,rfl,AT.refl h⟩
   case Aj els=>
    split at hs<;>first|(cases hs; done)|skip
    rename_i hc;simp only[hc,if_true];split at hs<;>first|(cases hs; done)|skip
    simp only[oI,Bm]at hs;obtain⟨h1,h2⟩:=hs;subst h1; subst h2;exact⟨m2,rfl,AT.refl h⟩
   all_goals
    split at hs<;>first|(cases hs; done)|skip
    simp only[oI,Bm]at hs;obtain⟨h1,h2⟩:=hs;subst h1; subst h2;exact⟨m2,rfl,AT.refl h⟩
 | Bw off x=>simp only[Z5]at hs ⊢; exact LP h hs
 | field off n x=>
  simp only[Z5]at hs ⊢;split at hs<;>first|(cases hs; done)|skip
  exact LP h hs
 | BZ k x i=>
  have ha:EU (W2 (ev t x)) m m2:=hr;simp only[Z5]at hs ⊢;generalize ev t x=y at *;split at hs<;>first|(cases hs; done)|skip
  ·rename_i b off len i' hi;rw[ha b (by simp[W2])]
   split at hs<;>first|(cases hs; done)|skip
   split at hs<;>first|(cases hs; done)|skip
   rename_i hc;simp only[hc,and_self,if_true];simp only[oI,Bm]at hs;obtain⟨h1,h2⟩:=hs;subst h1; subst h2;exact⟨m2,rfl,AT.refl h⟩
  ·split at hs<;>first|(cases hs; done)|skip
   split at hs<;>first|(cases hs; done)|skip
   rename_i hc;simp only[hc,if_true];simp only[oI,Bm]at hs;obtain⟨h1,h2⟩:=hs;subst h1; subst h2;exact⟨m2,rfl,AT.refl h⟩
 | DW n k x i=>
  simp only[Z5]at hs ⊢;split at hs<;>first|(cases hs; done)|skip
  split at hs<;>first|(cases hs; done)|skip
  rename_i hc;simp only[hc,if_true];exact LP h hs
 | Dn x i=>
  simp only[Z5]at hs ⊢;split at hs<;>first|(cases hs; done)|skip
  split at hs<;>first|(cases hs; done)|skip
  simp only[oI,Bm]at hs;obtain⟨h1,h2⟩:=hs;subst h1; subst h2;exact⟨m2,rfl,AT.refl h⟩
 | CV n k sz x i=>
  simp only[Z5]at hs ⊢;split at hs<;>first|(cases hs; done)|skip
  split at hs<;>first|(cases hs; done)|skip
  rename_i hc;simp only[hc,if_true];exact LP h hs
 | lookup kt z ok x i=>
  have ha:EU (W2 (ev t x)) m m2:=hr;simp only[Z5]at hs ⊢;generalize ev t x=y at *;cases y<;>simp only at hs ⊢ <;> first|(cases hs; done)|skip
  case map b=>
   rw[ha b (by simp[W2])]
   split at hs<;>first|(cases hs; done)|skip
   rename_i es hes;split at hes<;>first|(cases hes; done)|skip
   rename_i hg;injection hes with hes
   subst hes;split at hs<;>first|(cases hs; done)|skip
   rename_i hf;simp only[oI,Bm]at hs;obtain⟨h1,h2⟩:=hs;subst h1; subst h2;exact⟨m2,by simp only[hf],AT.refl h⟩
  all_goals
   split at hs<;>first|(cases hs; done)|skip
   rename_i hf;simp only[oI,Bm]at hs;obtain⟨h1,h2⟩:=hs;subst h1; subst h2;exact⟨m2,by simp only[hf],AT.refl h⟩
 | Bx kt mp k w=>
  have ha:EU (W2 (ev t mp)) m m2:=h;have hi:∀ b,b∈W2 (ev t mp)→b∈T8 id t (.Bx kt mp k w):=fun _ hb=>hb
  simp only[Z5]at hs ⊢;generalize ev t mp=y at *;cases y<;>simp only at hs ⊢ <;> first|(cases hs; done)|skip
  rename_i b;rw[ha b (by simp[W2])]
  split at hs<;>first|(cases hs; done)|skip
  split at hs<;>first|(cases hs; done)|skip
  all_goals
   simp only[oI,Bm]at hs;obtain⟨h1,h2⟩:=hs;subst h1; subst h2;exact⟨_,rfl,(AT.refl h).set (hi b (by simp[W2]))⟩
 | ext x i=>
  simp only[Z5]at hs ⊢;split at hs<;>first|(cases hs; done)|skip
  exact LP h hs
 | append k bytes z s x=>
  have ha:EU (W2 (ev t x)) m m2:=hr;simp only[Z5]at hs ⊢;rw[uQ ha];split at hs<;>first|(cases hs; done)|skip
  exact Zzm h (by simp[T8]) (fun b hb=>by simp[T8,hb]) hs
 | copy k d s=>
  have ha:EU (W2 (ev t d)) m m2:=h;have hi:∀ b,b∈W2 (ev t d)→b∈T8 id t (.copy k d s):=fun _ hb=>hb
  have ha2:EU (W2 (ev t s)) m m2:=hr;simp only[Z5]at hs ⊢;rw[uQ ha2];generalize ev t d=y at *;split at hs<;>first|(cases hs; done)|skip
  rename_i b off len xs hxs;rw[ha b (by simp[W2])]
  split at hs<;>first|(cases hs; done)|skip
  split at hs<;>first|(cases hs; done)|skip
  rename_i hc;simp only[hc,and_self,if_true];simp only[oI,Bm]at hs;obtain⟨h1,h2⟩:=hs;subst h1; subst h2;exact⟨_,rfl,(AT.refl h).set (hi b (by simp[W2]))⟩
 | clear k z x=>
  have ha:EU (W2 (ev t x)) m m2:=h;have hi:∀ b,b∈W2 (ev t x)→b∈T8 id t (.clear k z x):=fun _ hb=>hb
  simp only[Z5]at hs ⊢;generalize ev t x=y at *;cases y<;>simp only at hs ⊢ <;> first|(cases hs; done)|skip
  case sl b off len=>
   rw[ha b (by simp[W2])]
   split at hs<;>first|(cases hs; done)|skip
   split at hs<;>first|(cases hs; done)|skip
   rename_i hc;simp only[hc,and_self,if_true];simp only[oI,Bm]at hs;obtain⟨h1,h2⟩:=hs;subst h1; subst h2;exact⟨_,rfl,(AT.refl h).set (hi b (by simp[W2]))⟩
  all_goals
   simp only[oI,Bm]at hs;obtain⟨h1,h2⟩:=hs;subst h1; subst h2;exact⟨m2,rfl,AT.refl h⟩
 | Dr x=>
  simp only[Z5]at hs ⊢;split at hs<;>first|(cases hs; done)|skip
  simp only[oI,Bm]at hs;obtain⟨h1,h2⟩:=hs;subst h1; subst h2;exact⟨m2,rfl,AT.refl h⟩
 | Ca x=>
  simp only[Z5]at hs ⊢;split at hs<;>first|(cases hs; done)|skip
  simp only[oI,Bm]at hs;obtain⟨h1,h2⟩:=hs;subst h1; subst h2;exact⟨m2,rfl,AT.refl h⟩
 | Cp x=>
  have ha:EU (W2 (ev t x)) m m2:=hr;simp only[Z5]at hs ⊢;generalize ev t x=y at *;cases y<;>simp only at hs ⊢ <;> first|(cases hs; done)|skip
  case map b=>
   rw[ha b (by simp[W2])]
   split at hs<;>first|(cases hs; done)|skip
   simp only[oI,Bm]at hs;obtain⟨h1,h2⟩:=hs;subst h1; subst h2;exact⟨m2,rfl,AT.refl h⟩
  all_goals
   simp only[oI,Bm]at hs;obtain⟨h1,h2⟩:=hs;subst h1; subst h2;exact⟨m2,rfl,AT.refl h⟩
 | Dq n=>exact keep hs fun w n hh=>by simp only[Z5,oI,Bm]at hh ⊢; exact⟨hh.2.symm,hh.1,trivial⟩
 | Cq mx xs=>
  simp only[Z5]at hs ⊢;split at hs<;>first|(cases hs; done)|skip
  exact LP h hs
 | iface ty x=>exact keep hs fun w n hh=>by simp only[Z5,oI,Bm]at hh ⊢; exact⟨hh.2.symm,hh.1,trivial⟩
 | En kt z mp k=>simp[Z5]at hs
 | Ft mp s w=>simp[Z5]at hs
 | delete kt mp k=>simp[Z5]at hs
 | range x=>simp[Z5]at hs
 | BL x=>simp[Z5]at hs
 | Cc x=>simp[Z5]at hs
 | Cl n k x lo hi=>simp[Z5]at hs
 | CX k b z s x=>simp[Z5]at hs
 | call f xs=>simp[Z5]at hs
 | El x=>simp[Z5]at hs
 | dead=>simp[Z5]at hs
end
end Go.AE
end
