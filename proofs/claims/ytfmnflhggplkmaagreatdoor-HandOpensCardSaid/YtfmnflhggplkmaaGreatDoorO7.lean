/- Part 7 of the proof: AeJ, AeK, AeL, AeM, AeLoc. -/
import Derived.Test.YtfmnflhggplkmaaGreatDoorO3
import Derived.Test.YtfmnflhggplkmaaGreatDoorO6
import Derived.IntWalk
set_option linter.all false
section
namespace Go.AE
open Go.RowKit
section
variable {P:Program} {s:Sem Next} {W:Base} {Φ:Pers} {ρ:Rho} {id:Nat} {w w1:World} {m m':Mem} {x:AVal} {v:Value}
theorem int_R {k:IntKind} {n:Int} (h:R Φ ρ (.int k n) v):v=.int k n:=by cases h; rfl
theorem str_R {l:List UInt8} (h:R Φ ρ (.str l) v):v=.string ⟨⟨l⟩⟩:=by cases h; rfl
theorem bool_R {b:Bool} (h:R Φ ρ (.bool b) v):v=.bool b:=by cases h; rfl
theorem toList_mk (l:List UInt8):(ByteArray.mk ⟨l⟩).toList=l:=Lib.toList_data _
theorem binInt_run {op:BinOp} {k:IntKind} {a b:Int} {z:AVal} {t:TypeId} (h:binInt op k a b=some z):∃ u,(binOp op t (.int k a) (.int k b)).run P w=.ok u w∧R Φ ρ z u:=by
 cases op
 case add=>simp only[binInt,Option.some.injEq]at h; subst h; exact⟨.int k _,by simp[binOp,Op.intArith],.int _ _⟩
 case sub=>simp only[binInt,Option.some.injEq]at h; subst h; exact⟨.int k _,by simp[binOp,Op.intArith],.int _ _⟩
 case mul=>simp only[binInt,Option.some.injEq]at h; subst h; exact⟨.int k _,by simp[binOp,Op.intArith],.int _ _⟩
 case quo=>
  simp only[binInt]at h
  by_cases h0:b=0
  ·rw[if_pos h0]at h; cases h
  ·rw[if_neg h0]at h; injection h with h; subst h
   exact⟨.int k _,by simp[binOp,Op.intDiv,h0],.int _ _⟩
 case rem=>
  simp only[binInt]at h
  by_cases h0:b=0
  ·rw[if_pos h0]at h; cases h
  ·rw[if_neg h0]at h; injection h with h; subst h
   exact⟨.int k _,by simp[binOp,Op.intDiv,h0],.int _ _⟩
 case and=>simp only[binInt,Option.some.injEq]at h; subst h; exact⟨.int k _,by simp only[binOp,Op.intBits]; simp,.int _ _⟩
 case or=>simp only[binInt,Option.some.injEq]at h; subst h; exact⟨.int k _,by simp only[binOp,Op.intBits]; simp,.int _ _⟩
 case xor=>simp only[binInt,Option.some.injEq]at h; subst h; exact⟨.int k _,by simp only[binOp,Op.intBits]; simp,.int _ _⟩
 case andNot=>simp only[binInt,Option.some.injEq]at h; subst h; exact⟨.int k _,by simp only[binOp,Op.intBits]; simp,.int _ _⟩
 case eql=>simp only[binInt,Option.some.injEq]at h; subst h; exact⟨.bool _,by simp only[binOp,Op.intCmp]; rw[if_neg (by simp)]; rfl,.bool _⟩
 case neq=>simp only[binInt,Option.some.injEq]at h; subst h; exact⟨.bool _,by simp only[binOp,Op.intCmp]; rw[if_neg (by simp)]; rfl,.bool _⟩
 case lss=>simp only[binInt,Option.some.injEq]at h; subst h; exact⟨.bool _,by simp only[binOp,Op.intCmp]; rw[if_neg (by simp)]; rfl,.bool _⟩
 case leq=>simp only[binInt,Option.some.injEq]at h; subst h; exact⟨.bool _,by simp only[binOp,Op.intCmp]; rw[if_neg (by simp)]; rfl,.bool _⟩
 case gtr=>simp only[binInt,Option.some.injEq]at h; subst h; exact⟨.bool _,by simp only[binOp,Op.intCmp]; rw[if_neg (by simp)]; rfl,.bool _⟩
 case geq=>simp only[binInt,Option.some.injEq]at h; subst h; exact⟨.bool _,by simp only[binOp,Op.intCmp]; rw[if_neg (by simp)]; rfl,.bool _⟩
 all_goals (simp[binInt]at h)
theorem binStr_run {op:BinOp} {a b:List UInt8} {z:AVal} {t:TypeId} (h:binStr op a b=some z):∃ u,(binOp op t (.string ⟨⟨a⟩⟩) (.string ⟨⟨b⟩⟩)).run P w=.ok u w∧R Φ ρ z u:=by
 cases op
 case add=>
  simp only[binStr]at h
  split at h
  ·rename_i hle
   injection h with h; subst h
   refine⟨.string ⟨⟨a++b⟩⟩,?_,.str _⟩
   have e:(ByteArray.mk ⟨a⟩++ByteArray.mk ⟨b⟩)=ByteArray.mk ⟨a++b⟩:=by
    have:=ByteArray.mk_append_mk a b
    simpa using this
   simp only[binOp]
   rw[run_string_add_sum (w:=w) (P:=P) _ _ (by show a.length+b.length≤_; omega),e]
  ·cases h
 case eql=>simp only[binStr,Option.some.injEq]at h; subst h; exact⟨.bool _,by simp only[binOp,Op.stringOp,toList_mk]; rfl,.bool _⟩
 case neq=>simp only[binStr,Option.some.injEq]at h; subst h; exact⟨.bool _,by simp only[binOp,Op.stringOp,toList_mk]; rfl,.bool _⟩
 case lss=>simp only[binStr,Option.some.injEq]at h; subst h; exact⟨.bool _,by simp only[binOp,Op.stringOp,toList_mk]; rfl,.bool _⟩
 case leq=>simp only[binStr,Option.some.injEq]at h; subst h; exact⟨.bool _,by simp only[binOp,Op.stringOp,toList_mk]; rfl,.bool _⟩
 case gtr=>simp only[binStr,Option.some.injEq]at h; subst h; exact⟨.bool _,by simp only[binOp,Op.stringOp,toList_mk]; rfl,.bool _⟩
 case geq=>simp only[binStr,Option.some.injEq]at h; subst h; exact⟨.bool _,by simp only[binOp,Op.stringOp,toList_mk]; rfl,.bool _⟩
 all_goals (simp[binStr]at h)
theorem cKey_run {t:TypeId} {k:KeyT} {y z:AVal} {vy vz:Value} {b:Bool} (d:Nat) (hk:cKey P t=some k) (h:keyEq k y z=some b) (hy:R Φ ρ y vy) (hz:R Φ ρ z vz) :
 (Op.equalIn (d+1) t vy vz).run P w=.ok b w:=by
 unfold cKey at hk
 cases hu:P.underlying t with
 | none=>simp[hu]at hk
 | some ty=>
  cases ty<;>simp only[hu]at hk<;>first|(cases hk; done)|(injection hk with hk; subst hk)
  all_goals (cases y<;>cases z<;>simp only[keyEq]at h<;>first|(cases h; done)|skip)
  ·injection h with h; subst h
   rw[bool_R hy,bool_R hz]
   simp[Op.equalIn,r_und hu]
  ·split at h
   ·rename_i hkk
    injection h with h; subst h; subst hkk
    rw[int_R hy,int_R hz]
    simp[Op.equalIn,r_und hu]
   ·cases h
  ·injection h with h; subst h
   rw[str_R hy,str_R hz]
   simp only[Op.equalIn,Sem.run_bind,r_und hu,Result.andThen_ok,Sem.run_pure]
   rw[beq_toListBytes,toList_mk,toList_mk]
theorem RL.at_ {cs:List AVal} {vs:Array Value} (h:RL Φ ρ cs vs) {i:Nat} {y:AVal} (hi:cs[i]? = some y):∃ u,vs[i]? = some u∧R Φ ρ y u:=by
 have hlt:=(List.getElem?_eq_some_iff.1 hi).1
 have hv:vs[i]? = some (vs[i]'(by rw[h.1]; exact hlt)):=Array.getElem?_eq_getElem _
 exact⟨_,hv,h.2 _ _ _ hi hv⟩
theorem part_plain {t:TypeId} {k:KeyT} {cs:List AVal} {vs:Array Value} {i:Nat} {y:AVal} (hk:cKey P t=some k) (h:RL Φ ρ cs vs) (hi:cs[i]? = some y):∃ u,(part t vs i).run P w=.ok u w∧R Φ ρ y u:=by
 obtain⟨u,hu,hr⟩:=h.at_ hi
 refine⟨u,?_,hr⟩
 unfold cKey at hk
 cases hty:P.underlying t with
 | none=>simp[hty]at hk
 | some ty=>
  have hagg:=r_isAgg (w:=w) hty
  have hf:aggD ty=false:=by cases ty<;>simp[hty]at hk<;>rfl
  simp only[part,Sem.run_bind,hagg,Result.andThen_ok,hf,Bool.false_eq_true,if_false,hu,Sem.run_pure]
theorem flat_run (d:Nat) {xs ys:List AVal} {vx vy:Array Value} (hx:RL Φ ρ xs vx) (hy:RL Φ ρ ys vy):∀ (fs:List Field) (i:Nat) (ks:List KeyT) (b:Bool),flatFields P fs i=some ks→sameCells ks (xs.drop i) (ys.drop i)=some b →
 (Op.eqFields (d+1) vx vy fs).run P w=.ok b w
 | [],i,ks,b,hf,hs=>by
  simp only[flatFields,Option.some.injEq]at hf
  subst hf
  have hb:b=true:=by
   cases h1:xs.drop i<;>cases h2:ys.drop i<;>simp[h1,h2,sameCells]at hs
   exact hs
  subst hb
  rfl
 | f :: r,i,ks,b,hf,hs=>by
  simp only[flatFields]at hf
  split at hf
  ·rename_i hcond
   simp only[Bool.and_eq_true,bne_iff_ne,ne_eq,beq_iff_eq]at hcond
   cases hk:cKey P f.type with
   | none=>simp[hk]at hf
   | some k=>
    cases hr:flatFields P r (i+1)with
    | none=>simp[hk,hr]at hf
    | some ks'=>
     simp only[hk,hr,Option.some.injEq]at hf
     subst hf
     cases h1:xs.drop i with
     | nil=>simp[h1,sameCells]at hs
     | cons x xs'=>
      cases h2:ys.drop i with
      | nil=>simp[h1,h2,sameCells]at hs
      | cons y ys'=>
       simp only[h1,h2,sameCells]at hs
       have hxi:xs[i]? = some x:=by
        have:=congrArg (fun l=>l[0]?) h1
        simpa[List.getElem?_drop]using this
       have hyi:ys[i]? = some y:=by
        have:=congrArg (fun l=>l[0]?) h2
        simpa[List.getElem?_drop]using this
       have hx':xs.drop (i+1)=xs':=by
        rw[← List.tail_drop,h1]; rfl
       have hy':ys.drop (i+1)=ys':=by
        rw[← List.tail_drop,h2]; rfl
       obtain⟨ux,hux,hrx⟩:=part_plain (P:=P) (w:=w) hk hx hxi
       obtain⟨uy,huy,hry⟩:=part_plain (P:=P) (w:=w) hk hy hyi
       rw[Op.eqFields,if_pos hcond.1,hcond.2]
       cases hkey:keyEq k x y with
       | none=>simp[hkey]at hs
       | some b1=>
        have hrun:=cKey_run (w:=w) d hk hkey hrx hry
        simp only[Sem.run_bind,hux,huy,Result.andThen_ok,hrun]
        cases b1 with
        | false=>
         simp only[hkey,Option.some.injEq]at hs
         subst hs
         simp
        | true=>
         simp only[hkey]at hs
         simp only[Bool.not_true,Bool.false_eq_true,if_false]
         exact flat_run d hx hy r (i+1) ks' b hr (by rw[hx',hy']; exact hs)
  ·cases hf
theorem same_append (ks':List KeyT):∀ (ks:List KeyT) {xs ys:List AVal} {b:Bool},sameCells (ks++ks') xs ys=some b →
 (sameCells ks (xs.take ks.length) (ys.take ks.length)=some false∧b=false)∨(sameCells ks (xs.take ks.length) (ys.take ks.length)=some true∧sameCells ks' (xs.drop ks.length) (ys.drop ks.length)=some b)
 | [],xs,ys,b,h=>.inr ⟨rfl,h⟩
 | k :: ks,[],ys,b,h=>by simp[sameCells]at h
 | k :: ks,x :: xs,[],b,h=>by simp[sameCells]at h
 | k :: ks,x :: xs,y :: ys,b,h=>by
  simp only[List.cons_append,sameCells]at h
  simp only[List.length_cons,List.take_succ_cons,List.drop_succ_cons,sameCells]
  cases hk:keyEq k x y with
  | none=>simp[hk]at h
  | some c=>
   cases c with
   | false=>
    simp only[hk,Option.some.injEq]at h
    exact .inl ⟨rfl,h.symm⟩
   | true=>
    simp only[hk]at h
    exact same_append ks' ks h
theorem part_struct {t:TypeId} {fs:Array Field} {nf:TypeInfo} {n:Nat} {cs:List AVal} {vs:Array Value} {i:Nat} (hu:P.underlying t=some (.struct fs)) (hi:P.info? t=some nf) (hn:nf.size=n) (h:RL Φ ρ cs vs) :
 ∃ us,(part t vs i).run P w=.ok (.agg us) w∧RL Φ ρ ((cs.drop i).take n) us:=by
 have hagg:=r_isAgg (w:=w) hu
 subst hn
 simp only[part,Sem.run_bind,hagg,Result.andThen_ok,aggD,if_true,r_size hi,Sem.run_pure]
 refine⟨_,rfl,by simp[h.1]; omega,fun q y u hy hu=>?_⟩
 have hq:q<nf.size:=by
  have:=(List.getElem?_eq_some_iff.1 hy).1
  simp at this; omega
 rw[List.getElem?_take,if_pos hq,List.getElem?_drop]at hy
 rw[Array.getElem?_extract]at hu
 split at hu
 ·exact h.2 _ _ _ hy hu
 ·cases hu
theorem flatN_run (d:Nat) {xs ys:List AVal} {vx vy:Array Value} (hx:RL Φ ρ xs vx) (hy:RL Φ ρ ys vy):∀ (fs:List Field) (i:Nat) (ks:List KeyT) (b:Bool),flatN P fs i=some ks→sameCells ks (xs.drop i) (ys.drop i)=some b →
 (Op.eqFields (d+2) vx vy fs).run P w=.ok b w
 | [],i,ks,b,hf,hs=>by
  simp only[flatN,Option.some.injEq]at hf
  subst hf
  have hb:b=true:=by
   cases h1:xs.drop i<;>cases h2:ys.drop i<;>simp[h1,h2,sameCells]at hs
   exact hs
  subst hb
  rfl
 | f :: r,i,ks,b,hf,hs=>by
  simp only[flatN]at hf
  split at hf
  ·rename_i hcond
   simp only[Bool.and_eq_true,bne_iff_ne,ne_eq,beq_iff_eq]at hcond
   cases hk:cKey P f.type with
   | some k=>
    cases hr:flatN P r (i+1)with
    | none=>simp[hk,hr]at hf
    | some ks'=>
     simp only[hk,hr,Option.some.injEq]at hf
     subst hf
     cases h1:xs.drop i with
     | nil=>simp[h1,sameCells]at hs
     | cons x xs'=>
      cases h2:ys.drop i with
      | nil=>simp[h1,h2,sameCells]at hs
      | cons y ys'=>
       simp only[h1,h2,sameCells]at hs
       have hxi:xs[i]? = some x:=by
        have:=congrArg (fun l=>l[0]?) h1
        simpa[List.getElem?_drop]using this
       have hyi:ys[i]? = some y:=by
        have:=congrArg (fun l=>l[0]?) h2
        simpa[List.getElem?_drop]using this
       have hx':xs.drop (i+1)=xs':=by
        rw[← List.tail_drop,h1]; rfl
       have hy':ys.drop (i+1)=ys':=by
        rw[← List.tail_drop,h2]; rfl
       obtain⟨ux,hux,hrx⟩:=part_plain (P:=P) (w:=w) hk hx hxi
       obtain⟨uy,huy,hry⟩:=part_plain (P:=P) (w:=w) hk hy hyi
       rw[Op.eqFields,if_pos hcond.1,hcond.2]
       cases hkey:keyEq k x y with
       | none=>simp[hkey]at hs
       | some b1=>
        have hrun:=cKey_run (w:=w) (d+1) hk hkey hrx hry
        simp only[Sem.run_bind,hux,huy,Result.andThen_ok,hrun]
        cases b1 with
        | false=>
         simp only[hkey,Option.some.injEq]at hs
         subst hs
         simp
        | true=>
         simp only[hkey]at hs
         simp only[Bool.not_true,Bool.false_eq_true,if_false]
         exact flatN_run d hx hy r (i+1) ks' b hr (by rw[hx',hy']; exact hs)
   | none=>
    simp only[hk]at hf
    split at hf
    ·rename_i fs nf hu hi
     split at hf
     ·cases hf
     ·rename_i hst
      cases hq:flatFields P fs.toList 0 with
      | none=>simp[hq]at hf
      | some ks1=>
       simp only[hq]at hf
       split at hf
       ·rename_i hsz
        cases hr:flatN P r (i+ks1.length)with
        | none=>simp[hr]at hf
        | some ks'=>
         simp only[hr,Option.some.injEq]at hf
         subst hf
         obtain⟨ux,hux,hrx⟩:=part_struct (P:=P) (w:=w) (i:=i) hu hi hsz hx
         obtain⟨uy,huy,hry⟩:=part_struct (P:=P) (w:=w) (i:=i) hu hi hsz hy
         have hfo:P.fieldsOf f.type=fs:=by simp[Program.fieldsOf,hu]
         have hrun:=run_equalIn_struct (P:=P) w (d+1) f.type ux uy (by rw[hfo]; exact hu) (by simpa using hst)
         rw[Op.eqFields,if_pos hcond.1,hcond.2]
         rcases same_append ks' ks1 hs with⟨hs1,rfl⟩|⟨hs1,hs2⟩
         ·have h1:=flat_run (P:=P) (w:=w) d hrx hry fs.toList 0 ks1 false hq (by simpa using hs1)
          simp only[Sem.run_bind,hux,huy,Result.andThen_ok]
          rw[hrun,hfo,h1]
          simp
         ·have h1:=flat_run (P:=P) (w:=w) d hrx hry fs.toList 0 ks1 true hq (by simpa using hs1)
          simp only[Sem.run_bind,hux,huy,Result.andThen_ok]
          rw[hrun,hfo,h1]
          simp only[Result.andThen_ok,Bool.not_true,Bool.false_eq_true,if_false]
          exact flatN_run d hx hy r (i+ks1.length) ks' b hr (by simpa[List.drop_drop,Nat.add_comm]using hs2)
       ·cases hf
    ·cases hf
  ·cases hf
theorem isNil_slice {y:AVal} {b:Bool} (h:isNil .slice y=some b) (hy:R Φ ρ y v):∃ a n c,v=.slice a n c∧a.isNone=b:=by
 cases hy<;>simp only[isNil]at h<;>try (cases h; done)
 ·injection h with h; subst h; exact⟨_,_,_,rfl,rfl⟩
 ·rename_i a _ _ _ _ _ _ ha
  injection h with h; subst h
  refine⟨_,_,_,rfl,?_⟩
  rw[← Option.not_isSome,ha]; rfl
 ·rename_i els _ _ _ _ _ _ hne _ _ _ _ _
  have:els.isEmpty=false:=by cases els<;>simp_all
  simp only[this,Bool.false_eq_true,if_false,Option.some.injEq]at h
  subst h
  exact⟨_,_,_,rfl,rfl⟩
theorem isNil_ptr {y:AVal} {b:Bool} (h:isNil .ptr y=some b) (hy:R Φ ρ y v):∃ a,v=.pointer a∧a.isNone=b:=by
 cases hy<;>simp only[isNil]at h<;>try (cases h; done)
 all_goals (injection h with h; subst h; exact⟨_,rfl,rfl⟩)
theorem isNil_map {y:AVal} {b:Bool} (h:isNil .map y=some b) (hy:R Φ ρ y v):∃ a,v=.map a∧a.isNone=b:=by
 cases hy<;>simp only[isNil]at h<;>try (cases h; done)
 all_goals (injection h with h; subst h; exact⟨_,rfl,rfl⟩)
theorem isNil_func {y:AVal} {b:Bool} (h:isNil .func y=some b) (hy:R Φ ρ y v):(v=.nilFunc∧b=true)∨(∃ f x c,v=.func f x c∧b=false):=by
 cases hy<;>simp only[isNil]at h<;>try (cases h; done)
 ·injection h with h; subst h; exact .inr ⟨_,_,_,rfl,rfl⟩
 ·injection h with h; subst h; exact .inl ⟨rfl,rfl⟩
theorem equal_ptr {t el:TypeId} (d:Nat) (hu:P.underlying t=some (.pointer el)) (a:Option Addr):(Op.equalIn (d+1) t (.pointer a) (.pointer none)).run P w=.ok a.isNone w∧(Op.equalIn (d+1) t (.pointer none) (.pointer a)).run P w=.ok a.isNone w:=by
 cases a<;>simp[Op.equalIn,r_und hu]
theorem equal_slice {t el:TypeId} (d:Nat) (hu:P.underlying t=some (.slice el)) (a:Option Addr) (n c n' c':Nat):(Op.equalIn (d+1) t (.slice a n c) (.slice none n' c')).run P w=.ok a.isNone w∧(Op.equalIn (d+1) t (.slice none n' c') (.slice a n c)).run P w=.ok a.isNone w:=by
 cases a<;>simp[Op.equalIn,r_und hu]
theorem equal_map {t k el:TypeId} (d:Nat) (hu:P.underlying t=some (.map k el)) (a:Option Nat):(Op.equalIn (d+1) t (.map a) (.map none)).run P w=.ok a.isNone w∧(Op.equalIn (d+1) t (.map none) (.map a)).run P w=.ok a.isNone w:=by
 cases a<;>simp[Op.equalIn,r_und hu]
theorem equal_func {t:TypeId} {a1 a2:Array TypeId} {a3:Bool} (d:Nat) (hu:P.underlying t=some (.func a1 a2 a3)) (f:Fn) (x c:Array Value):(Op.equalIn (d+1) t .nilFunc .nilFunc).run P w=.ok true w∧(Op.equalIn (d+1) t (.func f x c) .nilFunc).run P w=.ok false w∧(Op.equalIn (d+1) t .nilFunc (.func f x c)).run P w=.ok false w:=by
 simp[Op.equalIn,r_und hu]
theorem eqNil_spec {e:EqT} {y z:AVal} {b:Bool} (h:eqNil e y z=some b):(isNil e z=some true∧isNil e y=some b)∨(isNil e y=some true∧isNil e z=some b):=by
 unfold eqNil at h
 split at h
 ·rename_i h1; exact .inl ⟨h1,h⟩
 ·split at h
  ·rename_i h1; exact .inr ⟨h1,h⟩
  ·cases h
theorem eqA_run {op:BinOp} {t:TypeId} {e:EqT} {y z:AVal} {vy vz:Value} {b:Bool} {ox oy:Operand} (he:cEq P t=some e) (h:eqA e y z=some b) (hy:R Φ ρ y vy) (hz:R Φ ρ z vz) :
 (eqGuard op t ox oy vy vz).run P w=.ok () w∧(Op.equal t vy vz).run P w=.ok b w∧(∀ k n,vy≠.int k n)∧(∀ s,vy≠.string s)∧(∀ k n,vz≠.int k n):=by
 unfold cEq at he
 cases hu:P.underlying t with
 | none=>simp[hu]at he
 | some ty=>
  cases ty<;>simp only[hu]at he<;>first|(cases he; done)|skip
  case bool=>
   injection he with he; subst he
   simp only[eqA]at h
   split at h
   ·injection h with h; subst h
    rw[bool_R hy,bool_R hz]
    exact⟨by cases op<;>rfl,run_equal_bool w t _ _ hu,by simp,by simp,by simp⟩
   ·cases h
  case int k=>injection he with he; subst he; simp[eqA]at h
  case string=>injection he with he; subst he; simp[eqA]at h
  case pointer el=>
   injection he with he; subst he
   rcases eqNil_spec h with⟨h1,h2⟩|⟨h1,h2⟩
   ·obtain⟨a2,rfl,hn2⟩:=isNil_ptr h1 hz
    obtain⟨a1,rfl,hn1⟩:=isNil_ptr h2 hy
    obtain rfl:a2=none:=by simpa using hn2
    subst hn1
    exact⟨by cases op<;>rfl,(equal_ptr 9999 hu _).1,by simp,by simp,by simp⟩
   ·obtain⟨a2,rfl,hn2⟩:=isNil_ptr h2 hz
    obtain⟨a1,rfl,hn1⟩:=isNil_ptr h1 hy
    obtain rfl:a1=none:=by simpa using hn1
    subst hn2
    exact⟨by cases op<;>rfl,(equal_ptr 9999 hu _).2,by simp,by simp,by simp⟩
  case slice el=>
   injection he with he; subst he
   rcases eqNil_spec h with⟨h1,h2⟩|⟨h1,h2⟩
   ·obtain⟨a2,n2,c2,rfl,hn2⟩:=isNil_slice h1 hz
    obtain⟨a1,n1,c1,rfl,hn1⟩:=isNil_slice h2 hy
    obtain rfl:a2=none:=by simpa using hn2
    subst hn1
    exact⟨by cases op<;>rfl,(equal_slice 9999 hu _ _ _ _ _).1,by simp,by simp,by simp⟩
   ·obtain⟨a2,n2,c2,rfl,hn2⟩:=isNil_slice h2 hz
    obtain⟨a1,n1,c1,rfl,hn1⟩:=isNil_slice h1 hy
    obtain rfl:a1=none:=by simpa using hn1
    subst hn2
    exact⟨by cases op<;>rfl,(equal_slice 9999 hu _ _ _ _ _).2,by simp,by simp,by simp⟩
  case map el e2=>
   injection he with he; subst he
   rcases eqNil_spec h with⟨h1,h2⟩|⟨h1,h2⟩
   ·obtain⟨a2,rfl,hn2⟩:=isNil_map h1 hz
    obtain⟨a1,rfl,hn1⟩:=isNil_map h2 hy
    obtain rfl:a2=none:=by simpa using hn2
    subst hn1
    exact⟨by cases op<;>rfl,(equal_map 9999 hu _).1,by simp,by simp,by simp⟩
   ·obtain⟨a2,rfl,hn2⟩:=isNil_map h2 hz
    obtain⟨a1,rfl,hn1⟩:=isNil_map h1 hy
    obtain rfl:a1=none:=by simpa using hn1
    subst hn2
    exact⟨by cases op<;>rfl,(equal_map 9999 hu _).2,by simp,by simp,by simp⟩
  case func a1 a2 a3=>
   injection he with he; subst he
   rcases eqNil_spec h with⟨h1,h2⟩|⟨h1,h2⟩
   ·rcases isNil_func h1 hz with⟨rfl,_⟩|⟨f,x,c,rfl,hb⟩
    ·rcases isNil_func h2 hy with⟨rfl,rfl⟩|⟨f,x,c,rfl,rfl⟩
     ·exact⟨by cases op<;>rfl,(equal_func 9999 hu (.func 0) #[] #[]).1,by simp,by simp,by simp⟩
     ·exact⟨by cases op<;>rfl,(equal_func 9999 hu _ _ _).2.1,by simp,by simp,by simp⟩
    ·cases hb
   ·rcases isNil_func h1 hy with⟨rfl,_⟩|⟨f,x,c,rfl,hb⟩
    ·rcases isNil_func h2 hz with⟨rfl,rfl⟩|⟨f,x,c,rfl,rfl⟩
     ·exact⟨by cases op<;>rfl,(equal_func 9999 hu (.func 0) #[] #[]).1,by simp,by simp,by simp⟩
     ·exact⟨by cases op<;>rfl,(equal_func 9999 hu _ _ _).2.2,by simp,by simp,by simp⟩
    ·cases hb
  case struct fs=>
   split at he
   ·cases he
   ·rename_i hcond
    simp only[Bool.or_eq_true,not_or,Bool.not_eq_true]at hcond
    cases hf:flatN P fs.toList 0 with
    | none=>simp[hf]at he
    | some ks=>
     simp only[hf,Option.some.injEq]at he
     subst he
     simp only[eqA]at h
     split at h
     ·rename_i xs ys
      obtain⟨vx,rfl,hx⟩:=agg_R hy
      obtain⟨vy,rfl,hyy⟩:=agg_R hz
      refine⟨run_eqGuard_agg w op t ox oy vx vy hcond.2,?_,by simp,by simp,by simp⟩
      have hfo:P.fieldsOf t=fs:=by simp[Program.fieldsOf,hu]
      have:=run_equalIn_struct (P:=P) w 9999 t vx vy (by rw[hfo]; exact hu) hcond.1
      rw[Op.equal,Op.maxDepth,this,hfo]
      exact flatN_run 9997 hx hyy fs.toList 0 ks b hf (by simpa using h)
     ·cases h
end
end Go.AE
end
section
namespace Go.AE
open Go.RowKit
section
variable {P:Program} {s:Sem Next} {W:Base} {Φ:Pers} {ρ:Rho} {id:Nat} {w w1:World} {m m':Mem} {x:AVal} {v:Value}
theorem unA_run {op:UnOp} {y z:AVal} (h:unA op y=some z) (hy:R Φ ρ y v):∃ u,(Op.unary op v).run P w=.ok u w∧R Φ ρ z u:=by
 unfold unA at h
 split at h
 ·injection h with h; subst h
  rw[int_R hy]
  exact⟨.int _ _,by simp[Op.unary,Op.intArith],.int _ _⟩
 ·injection h with h; subst h
  rw[bool_R hy]
  exact⟨.bool _,by simp[Op.unary],.bool _⟩
 ·injection h with h; subst h
  rw[int_R hy]
  exact⟨.int _ _,by simp only[Op.unary,Op.intBits]; simp,.int _ _⟩
 ·cases h
theorem fill_ok (place:Nat→Option (Nat×Nat)):∀ (ps:List (Nat×Value)) (as:List (Nat×Nat×AVal)) (cs:List AVal) (vs:Array Value) (cs':List AVal),RL Φ ρ cs vs→as.length=ps.length →
 (∀(q:Nat) (p:Nat×Value) (a:Nat×Nat×AVal),ps[q]? = some p→as[q]? = some a→place p.1=some (a.1,a.2.1)∧R Φ ρ a.2.2 p.2)→fillA cs as=some cs' →
 ∃ vs',Instr.fill place vs ps=some vs'∧RL Φ ρ cs' vs'
 | [],[],cs,vs,cs',h,_,_,hf=>by
  simp only[fillA,Option.some.injEq]at hf
  subst hf
  exact⟨vs,rfl,h⟩
 | [],a :: as,cs,vs,cs',_,hl,_,_=>by simp at hl
 | p :: ps,[],cs,vs,cs',_,hl,_,_=>by simp at hl
 | (i,u) :: ps,(off,size,y) :: as,cs,vs,cs',h,hl,hr,hf=>by
  obtain⟨h1,h2⟩:=hr 0 (i,u) (off,size,y) rfl rfl
  simp only[fillA]at hf
  cases hc:y.cells with
  | none=>simp[hc]at hf
  | some ys=>
   simp only[hc]at hf
   split at hf
   ·rename_i hcond
    have hcells:=h2.cells_R hc
    have hnew:RL Φ ρ (setRow cs off ys) (u.cells.zipIdx.foldl (fun cs (c,j)=>cs.setIfInBounds (off+j) c) vs):=by
     have key:∀ (l:List Value) (k:Nat) (vs:Array Value),(l.zipIdx k).foldl (fun cs (x:Value×Nat)=>cs.setIfInBounds (off+x.2) x.1) vs=setFrom vs (off+k) l:=by
      intro l
      induction l with
      | nil=>intro k vs; rfl
      | cons v r ih=>intro k vs; simp only[List.zipIdx_cons,List.foldl_cons,setFrom,ih]; rfl
     have e:u.cells.zipIdx.foldl (fun cs (c,j)=>cs.setIfInBounds (off+j) c) vs=setFrom vs off u.cells.toList:=by
      rw[← Array.foldl_toList,Array.toList_zipIdx]
      exact key u.cells.toList 0 vs
     rw[e]
     refine⟨by rw[setFrom_size,setRow_length,h.1],fun q z uz hz huz=>?_⟩
     rw[setRow_get]at hz
     rw[setFrom_get]at huz
     simp only[Array.length_toList,hcells.1,h.1]at huz
     split at hz
     ·rename_i hin
      rw[if_pos hin]at huz
      exact hcells.2 _ _ _ hz (by simpa using huz)
     ·rename_i hin
      rw[if_neg hin]at huz
      exact h.2 _ _ _ hz huz
    obtain⟨vs',hv1,hv2⟩:=fill_ok place ps as _ _ cs' hnew (by simpa using hl) (fun q p a hp ha=>hr (q+1) p a (by simpa using hp) (by simpa using ha)) hf
    refine⟨vs',?_,hv2⟩
    rw[Instr.fill,h1]
    simp only
    rw[if_neg (by simp[hcells.1,h.1]; omega)]
    exact hv1
   ·cases hf
theorem mapM_run {α β:Type} {g:α→Sem β} {f:α→β} {w:World}:∀ (l:List α),(∀ x,x∈l→(g x).run P w=.ok (f x) w)→(l.mapM g).run P w=.ok (l.map f) w
 | [],_=>by simp
 | x :: l,h=>by
  rw[List.mapM_cons]
  simp only[Sem.run_bind,h x (by simp),Result.andThen_ok,mapM_run l (fun y hy=>h y (by simp[hy])),Sem.run_pure,List.map_cons]
theorem mapM_run_arr {α β:Type} {g:α→Sem β} {f:α→β} {w:World} (l:Array α) (h:∀ x,x∈l.toList→(g x).run P w=.ok (f x) w):(l.mapM g).run P w=.ok (l.map f) w:=by
 rw[Array.mapM_eq_mapM_toList]
 simp only[Sem.run_map,mapM_run l.toList h,Result.andThen_ok]
 congr 1
 cases l; simp
theorem cParts_spec {t:List AVal} {a:Act} (ht:RL Φ ρ t a.tmps) (fs:List Field):∀ (ps:List (Nat×Operand)) (as:List (Nat×Nat×AOpd)),cParts P fs ps=some as →
 as.length=ps.length ∧ ∀(q:Nat) (p:Nat×Operand) (b:Nat×Nat×AOpd),ps[q]? = some p→as[q]? = some b→(∃ f,fs[p.1]? = some f∧b.1=f.offset∧cSize P f.type=some b.2.1)∧cOpd p.2=some b.2.2
 | [],as,h=>by
  simp only[cParts,Option.some.injEq]at h
  subst h
  exact⟨rfl,fun q p b hp=>by simp at hp⟩
 | (i,y) :: ps,as,h=>by
  simp only[cParts]at h
  cases hf:fs[i]? with
  | none=>simp[hf]at h
  | some f=>
   cases hs:cSize P f.type with
   | none=>simp[hf,hs]at h
   | some n=>
    cases hy:cOpd y with
    | none=>simp[hf,hs,hy]at h
    | some z=>
     cases hr:cParts P fs ps with
     | none=>simp[hf,hs,hy,hr]at h
     | some as'=>
      simp only[hf,hs,hy,hr,Option.some.injEq]at h
      subst h
      obtain⟨h1,h2⟩:=cParts_spec ht fs ps as' hr
      refine⟨by simp[h1],fun q p b hp hb=>?_⟩
      cases q with
      | zero=>
       simp only[List.getElem?_cons_zero,Option.some.injEq]at hp hb
       subst hp; subst hb
       exact⟨⟨f,hf,rfl,hs⟩,hy⟩
      | succ q=>
       simp only[List.getElem?_cons_succ]at hp hb
       exact h2 q p b hp hb
theorem cPartsA_spec (n:Nat):∀ (ps:List (Nat×Operand)) (as:List (Nat×Nat×AOpd)),cPartsA n ps=some as →
 as.length=ps.length ∧ ∀(q:Nat) (p:Nat×Operand) (b:Nat×Nat×AOpd),ps[q]? = some p→as[q]? = some b→b.1=p.1*n∧b.2.1=n∧cOpd p.2=some b.2.2
 | [],as,h=>by
  simp only[cPartsA,Option.some.injEq]at h
  subst h
  exact⟨rfl,fun q p b hp=>by simp at hp⟩
 | (i,y) :: ps,as,h=>by
  simp only[cPartsA]at h
  cases hy:cOpd y with
  | none=>simp[hy]at h
  | some z=>
   cases hr:cPartsA n ps with
   | none=>simp[hy,hr]at h
   | some as'=>
    simp only[hy,hr,Option.some.injEq]at h
    subst h
    obtain⟨h1,h2⟩:=cPartsA_spec n ps as' hr
    refine⟨by simp[h1],fun q p b hp hb=>?_⟩
    cases q with
    | zero=>
     simp only[List.getElem?_cons_zero,Option.some.injEq]at hp hb
     subst hp; subst hb
     exact⟨rfl,rfl,hy⟩
    | succ q=>
     simp only[List.getElem?_cons_succ]at hp hb
     exact h2 q p b hp hb
theorem ok_build_struct {t:TypeId} {fs:Array Field} {zs cs:List AVal} {ps:Array (Nat×Operand)} {as:List (Nat×Nat×AOpd)} {tl:List AVal} {a:Act} (ht:RL Φ ρ tl a.tmps) (hu:P.underlying t=some (.struct fs))
 (hz:cZeros P t=some zs) (hp:cParts P fs.toList ps.toList=some as) (hf:fillA zs (as.map fun p=>(p.1,p.2.1,ev tl p.2.2))=some cs) (hall:∀ f,f∈fs.toList → ∃ i,P.info? f.type=some i) :
 ∃ u,(Instr.build t (ps.map fun(i,x)=>(i,a.eval x))).run P w=.ok u w∧R Φ ρ (.agg cs) u:=by
 obtain⟨i,z,y,h1,h2,h3,h4,_⟩:=cZeros_R hz Φ ρ
 have hzc:=h3.cells_R h4
 obtain⟨hlen,hspec⟩:=cParts_spec ht fs.toList ps.toList as hp
 have hm:=mapM_run_arr (P:=P) (w:=w) (g:=fun f:Field=>do pure (f.offset,← sizeOf f.type)) (f:=fun f:Field=>(f.offset,P.cellsOf f.type)) fs (fun f hf=>by
  obtain⟨i,hi⟩:=hall f hf
  simp only[Sem.run_bind,r_size hi,Result.andThen_ok,Sem.run_pure,Program.cellsOf,hi]
  rfl)
 obtain⟨vs',hv1,hv2⟩:=fill_ok (Φ:=Φ) (ρ:=ρ) (fun q=>(fs.map fun f:Field=>(f.offset,P.cellsOf f.type))[q]?) (ps.map fun(i,x)=>(i,a.eval x)).toList (as.map fun p=>(p.1,p.2.1,ev tl p.2.2)) zs z.cells cs hzc
  (by simp[hlen]) (fun q p b hq hb=>by
    simp only[Array.toList_map,List.getElem?_map,Option.map_eq_some_iff]at hq hb
    obtain⟨p0,hp0,rfl⟩:=hq
    obtain⟨b0,hb0,rfl⟩:=hb
    obtain⟨⟨f,hf1,hf2,hf3⟩,hop⟩:=hspec q p0 b0 hp0 hb0
    obtain⟨inf,hinf,hsz⟩:=cSize_spec hf3
    refine⟨?_,ev_R ht hop⟩
    simp only[Array.getElem?_map]
    have:fs[p0.1]? = some f:=by simpa using hf1
    rw[this]
    simp[Program.cellsOf,hinf,hsz,hf2]) hf
 refine⟨.agg vs',?_,.agg _ _ hv2.1 hv2.2⟩
 simp only[Instr.build,Sem.run_bind,r_zero h1 h2,Result.andThen_ok,r_und hu,hm,hv1,Sem.run_pure]
theorem ok_build_array {t e:TypeId} {k n:Nat} {zs cs:List AVal} {ps:Array (Nat×Operand)} {as:List (Nat×Nat×AOpd)} {tl:List AVal} {a:Act} (ht:RL Φ ρ tl a.tmps) (hu:P.underlying t=some (.array k e)) (hn:cSize P e=some n)
 (hz:cZeros P t=some zs) (hp:cPartsA n ps.toList=some as) (hf:fillA zs (as.map fun p=>(p.1,p.2.1,ev tl p.2.2))=some cs) :
 ∃ u,(Instr.build t (ps.map fun(i,x)=>(i,a.eval x))).run P w=.ok u w∧R Φ ρ (.agg cs) u:=by
 obtain⟨i,z,y,h1,h2,h3,h4,_⟩:=cZeros_R hz Φ ρ
 have hzc:=h3.cells_R h4
 obtain⟨inf,hinf,hsz⟩:=cSize_spec hn
 obtain⟨hlen,hspec⟩:=cPartsA_spec n ps.toList as hp
 obtain⟨vs',hv1,hv2⟩:=fill_ok (Φ:=Φ) (ρ:=ρ) (fun q=>some (q*inf.size,inf.size)) (ps.map fun(i,x)=>(i,a.eval x)).toList (as.map fun p=>(p.1,p.2.1,ev tl p.2.2)) zs z.cells cs hzc
  (by simp[hlen]) (fun q p b hq hb=>by
    simp only[Array.toList_map,List.getElem?_map,Option.map_eq_some_iff]at hq hb
    obtain⟨p0,hp0,rfl⟩:=hq
    obtain⟨b0,hb0,rfl⟩:=hb
    obtain⟨hf1,hf2,hop⟩:=hspec q p0 b0 hp0 hb0
    refine⟨?_,ev_R ht hop⟩
    simp[hf1,hf2,hsz]) hf
 refine⟨.agg vs',?_,.agg _ _ hv2.1 hv2.2⟩
 simp only[Instr.build,Sem.run_bind,r_zero h1 h2,Result.andThen_ok,r_und hu,r_size hinf,hv1,Sem.run_pure]
end
end Go.AE
end
section
namespace Go.AE
open Go.RowKit
section
variable {P:Program} {s:Sem Next} {W:Base} {Φ:Pers} {ρ:Rho} {id:Nat} {w w1:World} {m m':Mem} {x:AVal} {v:Value}
theorem setRow_all {cs row:List AVal} (h:cs.length=row.length):setRow row 0 cs=cs:=by
 apply List.ext_getElem?
 intro q
 rw[setRow_get]
 by_cases hq:q<row.length
 ·rw[if_pos ⟨Nat.zero_le _,by omega,hq⟩]; rfl
 ·rw[if_neg (by omega),List.getElem?_eq_none (by omega),List.getElem?_eq_none (by omega)]
theorem mul_add_mod {i j k:Nat} (h:j<k):(i*k+j) % k=j:=by
 rw[Nat.mul_comm,Nat.mul_add_mod]
 exact Nat.mod_eq_of_lt h
theorem rowsIn_zero {zs:List AVal} {zc:Array Value} {k len:Nat} (h:RL Φ ρ zs zc) (h1:zs.all AVal.one=true) (hk:zs.length=k) (h0:0<k) :
 RowsIn Φ ρ (List.replicate len zs) 0 k ((Array.range (len*k)).map fun i=>zc[i % zc.size]!):=by
 refine⟨fun i row hi=>?_,fun i row j y hi hj=>?_⟩
 ·have:=List.mem_of_getElem? hi
  rw[List.eq_of_mem_replicate this,hk]
 ·have hrow:=List.eq_of_mem_replicate (List.mem_of_getElem? hi)
  subst hrow
  have hil:i<len:=by
   have:=(List.getElem?_eq_some_iff.1 hi).1
   simpa using this
  have hjk:j<k:=by
   have:=(List.getElem?_eq_some_iff.1 hj).1
   omega
  obtain⟨u,hu,hr⟩:=h.at_ hj
  have hlt:=mul_lt hil hjk
  refine⟨u,?_,one_R hr (List.all_eq_true.1 h1 y (List.mem_of_getElem? hj)),hr⟩
  rw[Nat.zero_add,Array.getElem?_map,Array.getElem?_range,if_pos hlt]
  simp only[Option.map_some,Option.some.injEq]
  have e:(i*k+j) % zc.size=j:=by rw[h.1,hk]; exact mul_add_mod hjk
  rw[e]
  have hj2:=(Array.getElem?_eq_some_iff.1 hu).1
  rw[getElem!_pos zc j hj2]
  rw[Array.getElem?_eq_getElem hj2]at hu
  injection hu
theorem cElem_spec {t:TypeId} {k b:Nat} {z:List AVal} (h:cElem P t=some (k,b,z)):∃ e i,P.underlying t=some (.slice e)∧P.info? e=some i∧i.size=k∧i.bytes=b∧cZeros P e=some z∧z.length=k∧0<k:=by
 unfold cElem at h
 split at h
 ·rename_i e he
  cases hs:cSize P e with
  | none=>simp[hs]at h
  | some k'=>
   cases hb:cBytes P e with
   | none=>simp[hs,hb]at h
   | some b'=>
    cases hz:cZeros P e with
    | none=>simp[hs,hb,hz]at h
    | some z'=>
     simp only[hs,hb,hz]at h
     split at h
     ·rename_i hcond
      simp only[Option.some.injEq,Prod.mk.injEq]at h
      obtain⟨rfl,rfl,rfl⟩:=h
      obtain⟨i,hi,hsz⟩:=cSize_spec hs
      have hbb:i.bytes=b':=by simpa[cBytes,hi]using hb
      exact⟨e,i,he,hi,hsz,hbb,hz,hcond.1,hcond.2⟩
     ·cases h
 ·cases h
theorem fillS_ok {k:Nat}:∀ (ps:List (Nat×Value)) (as:List (Nat×AVal)) (els:List (List AVal)) (c:Array Value) (els':List (List AVal)),RowsIn Φ ρ els 0 k c→c.size=els.length*k→as.length=ps.length →
 (∀(q:Nat) (p:Nat×Value) (a:Nat×AVal),ps[q]? = some p→as[q]? = some a→p.1=a.1∧R Φ ρ a.2 p.2)→fillS k els as=some els' →
 ∃ c',Instr.fill (fun i=>some (i*k,k)) c ps=some c'∧RowsIn Φ ρ els' 0 k c'∧c'.size=c.size∧els'.length=els.length
 | [],[],els,c,els',h,_,_,_,hf=>by
  simp only[fillS,Option.some.injEq]at hf
  subst hf
  exact⟨c,rfl,h,rfl,rfl⟩
 | [],a :: as,_,_,_,_,_,hl,_,_=>by simp at hl
 | p :: ps,[],_,_,_,_,_,hl,_,_=>by simp at hl
 | (i,u) :: ps,(i',y) :: as,els,c,els',h,hsz,hl,hr,hf=>by
  obtain⟨h1,h2⟩:=hr 0 (i,u) (i',y) rfl rfl
  simp only at h1 h2
  subst h1
  simp only[fillS]at hf
  cases hc:y.cells with
  | none=>simp[hc]at hf
  | some ys=>
   simp only[hc]at hf
   split at hf
   ·rename_i hcond
    obtain⟨hc1,hc2,hc3⟩:=hcond
    have hcells:=h2.cells_R hc
    have key:∀ (l:List Value) (q:Nat) (vs:Array Value),(l.zipIdx q).foldl (fun cs (x:Value×Nat)=>cs.setIfInBounds (i*k+x.2) x.1) vs=setFrom vs (i*k+q) l:=by
     intro l
     induction l with
     | nil=>intro q vs; rfl
     | cons v r ih=>intro q vs; simp only[List.zipIdx_cons,List.foldl_cons,setFrom,ih]; rfl
    have e:u.cells.zipIdx.foldl (fun cs (c,j)=>cs.setIfInBounds (i*k+j) c) c=setFrom c (i*k) u.cells.toList:=by
     rw[← Array.foldl_toList,Array.toList_zipIdx]
     exact key u.cells.toList 0 c
    have hrow:els[i]? = some els[i]:=List.getElem?_eq_getElem hc2
    have hrl:=h.1 i _ hrow
    have hnew:=rowsIn_set (n:=els.length) (i:=i) (j:=0) (cs:=ys) (vs:=u.cells) h (by rw[hsz]) (by omega) hrow hcells hc3 (by omega)
    rw[setRow_all (by omega)]at hnew
    simp only[Nat.zero_add,Nat.add_zero]at hnew
    obtain⟨c',g1,g2,g3,g4⟩:=fillS_ok ps as _ _ els' hnew (by rw[setFrom_size]; simpa using hsz) (by simpa using hl) (fun q p a hp ha=>hr (q+1) p a (by simpa using hp) (by simpa using ha)) hf
    refine⟨c',?_,g2,by rw[g3,setFrom_size],by rw[g4]; simp⟩
    have hle:i*k+k≤c.size:=by
     rw[hsz]
     have:(i+1)*k≤els.length*k:=Nat.mul_le_mul_right k hc2
     rw[Nat.add_mul]at this
     omega
    rw[Instr.fill]
    simp only
    rw[if_neg (by simp[hcells.1,hc1]; omega),e]
    exact g1
   ·cases hf
theorem cPartsS_spec:∀ (ps:List (Nat×Operand)) (as:List (Nat×AOpd)),cPartsS ps=some as →
 as.length=ps.length ∧ ∀(q:Nat) (p:Nat×Operand) (b:Nat×AOpd),ps[q]? = some p→as[q]? = some b→p.1=b.1∧cOpd p.2=some b.2
 | [],as,h=>by
  simp only[cPartsS,Option.some.injEq]at h
  subst h
  exact⟨rfl,fun q p b hp=>by simp at hp⟩
 | (i,y) :: ps,as,h=>by
  simp only[cPartsS]at h
  cases hy:cOpd y with
  | none=>simp[hy]at h
  | some z=>
   cases hr:cPartsS ps with
   | none=>simp[hy,hr]at h
   | some as'=>
    simp only[hy,hr,Option.some.injEq]at h
    subst h
    obtain⟨h1,h2⟩:=cPartsS_spec ps as' hr
    refine⟨by simp[h1],fun q p b hp hb=>?_⟩
    cases q with
    | zero=>
     simp only[List.getElem?_cons_zero,Option.some.injEq]at hp hb
     subst hp; subst hb
     exact⟨rfl,hy⟩
    | succ q=>
     simp only[List.getElem?_cons_succ]at hp hb
     exact h2 q p b hp hb
theorem rows_one {els:List (List AVal)} {k:Nat} {c:Array Value} (h:RowsIn Φ ρ els 0 k c) (hsz:c.size=els.length*k) (hk:0<k):∀ u,u∈c.toList→u.oneCell'=true:=by
 intro u hu
 obtain⟨p,hp,rfl⟩:=List.getElem_of_mem hu
 simp only[Array.length_toList]at hp
 have hi:p / k<els.length:=by
  rw[Nat.div_lt_iff_lt_mul hk]; omega
 have hrow:els[p / k]? = some els[p / k]:=List.getElem?_eq_getElem hi
 have hlen:=h.1 _ _ hrow
 have hj:p % k<(els[p / k]).length:=by rw[hlen]; exact Nat.mod_lt _ hk
 obtain⟨u,hu1,hu2,_⟩:=h.2 (p / k) _ (p % k) _ hrow (List.getElem?_eq_getElem hj)
 have e:(0+p / k)*k+p % k=p:=by rw[Nat.zero_add,Nat.mul_comm]; exact Nat.div_add_mod p k
 rw[e,Array.getElem?_eq_getElem hp]at hu1
 injection hu1 with hu1
 simpa[hu1]using hu2
theorem done_row {k len cap:Nat} {els:List (List AVal)} {c:Array Value} {e:TypeId} (hr:Rel W Φ ρ m w1) (hn:ρ id=none) (hlt:id<m.next) (hle:len≤cap) (hel:els.length≤cap)
 (hsz:c.size=cap*k) (hrows:RowsIn Φ ρ els 0 k c) (h1c:∀ v,v∈c.toList→v.oneCell'=true) (h:s.run P w=.ok (.value (.slice (some ⟨w1.heap.size,0,none⟩) len cap)) (w1.alloc (.cells c e))) :
 Done P s W Φ ρ id w (.sl id 0 len) (m.set id (.cells k els)):=by
 refine Done.new (l:=⟨w1.heap.size,0,k,cap⟩) h hr hn hlt rfl (BR.ext_put hn (.cells _ _ _ _ _ rfl hsz (by simpa using hel) hrows h1c)) ?_
 exact .sl id 0 len _ cap ⟨w1.heap.size,0,k,cap⟩ Rho.put_same hle (by simp) (fun _=>by simp) rfl
theorem ok_mkSl {t:TypeId} {k b len:Nat} {z:List AVal} {ps:Array (Nat×Operand)} {as:List (Nat×AOpd)} {tl:List AVal} {a:Act} {els:List (List AVal)} (hr:Rel W Φ ρ m w) (ht:RL Φ ρ tl a.tmps)
 (hn:ρ id=none) (hlt:id<m.next) (he:cElem P t=some (k,b,z)) (hp:cPartsS ps.toList=some as) (hle:len*k≤2 ^ 24)
 (hf:fillS k (List.replicate len z) (as.map fun p=>(p.1,ev tl p.2))=some els)
 (hs:∀ u w',(Instr.buildSlice t len (ps.map fun(i,x)=>(i,a.eval x))).run P w=.ok u w'→s.run P w=.ok (.value u) w'):Done P s W Φ ρ id w (.sl id 0 len) (m.set id (.cells k els)):=by
 obtain⟨e,i,hu,hi,hsz,hb,hz,hzl,hk0⟩:=cElem_spec he
 obtain⟨i',zv,y,h1,h2,h3,h4,h5⟩:=cZeros_R hz Φ ρ
 rw[hi]at h1; injection h1 with h1; subst h1
 have hzc:=h3.cells_R h4
 obtain⟨hlen,hspec⟩:=cPartsS_spec ps.toList as hp
 have hzero:=rowsIn_zero (len:=len) hzc h5 hzl hk0
 obtain⟨c',g1,g2,g3,g4⟩:=fillS_ok (Φ:=Φ) (ρ:=ρ) (k:=k) (ps.map fun(i,x)=>(i,a.eval x)).toList (as.map fun p=>(p.1,ev tl p.2)) _ _ els hzero (by simp) (by simp[hlen]) (fun q p b hq hb=>by
  simp only[Array.toList_map,List.getElem?_map,Option.map_eq_some_iff]at hq hb
  obtain⟨p0,hp0,rfl⟩:=hq
  obtain⟨b0,hb0,rfl⟩:=hb
  obtain⟨e1,e2⟩:=hspec q p0 b0 hp0 hb0
  exact⟨e1,ev_R ht e2⟩) hf
 refine done_row (cap:=len) (c:=c') (e:=e) hr hn hlt (Nat.le_refl _) (by rw[g4]; simp) (by rw[g3]; simp) g2 (rows_one g2 (by rw[g3,g4]; simp) hk0) (hs _ _ ?_)
 have g1':Instr.fill (fun q=>some (q*i.size,i.size)) ((Array.range (len*k)).map fun q=>zv.cells[q % zv.cells.size]!) (ps.map fun(i,x)=>(i,a.eval x)).toList=some c':=by rw[hsz]; exact g1
 simp only[Instr.buildSlice,Sem.run_bind,r_und hu,Result.andThen_ok,r_size hi]
 rw[if_neg (by rw[hsz]; omega)]
 by_cases h0:len*i.size=0
 ·rw[if_pos h0]
  have h00:len*k=0:=by rw[← hsz]; exact h0
  rw[h00]at g1'
  simp only[Sem.run_bind,Sem.run_pure,Result.andThen_ok,h0]
  have e0:((Array.range 0).map fun q=>(#[]:Array Value)[q % (#[]:Array Value).size]!)=(Array.range 0).map fun q=>zv.cells[q % zv.cells.size]!:=by simp
  rw[e0,g1']
  rfl
 ·rw[if_neg h0]
  simp only[Sem.run_bind,Sem.run_pure,Result.andThen_ok,r_zero hi h2]
  have e0:len*i.size=len*k:=by rw[hsz]
  rw[e0,g1']
  rfl
theorem ok_makeSl {t:TypeId} {k b l c:Nat} {z:List AVal} {vl vc:Value} {kl kc:IntKind} (hr:Rel W Φ ρ m w) (hn:ρ id=none) (hlt:id<m.next) (he:cElem P t=some (k,b,z))
 (hl:vl=.int kl (l:Int)) (hc:vc=.int kc (c:Int)) (hle:l≤c) (hcr:c≤room) (hbr:b≤room)
 (hs:∀ u w',(Instr.makeSlice t vl vc).run P w=.ok u w'→s.run P w=.ok (.value u) w'):Done P s W Φ ρ id w (.sl id 0 l) (m.set id (.cells k (List.replicate c z))):=by
 obtain⟨e,i,hu,hi,hsz,hb,hz,hzl,hk0⟩:=cElem_spec he
 obtain⟨i',zv,y,h1,h2,h3,h4,h5⟩:=cZeros_R hz Φ ρ
 rw[hi]at h1; injection h1 with h1; subst h1
 have hzc:=h3.cells_R h4
 subst hl; subst hc
 unfold room at hcr hbr
 refine done_row (cap:=c) (c:=(Array.range (c*k)).map fun q=>zv.cells[q % zv.cells.size]!) (e:=e) hr hn hlt hle (by simp) (by simp) (rowsIn_zero hzc h5 hzl hk0) (rows_one (rowsIn_zero hzc h5 hzl hk0) (by simp) hk0) (hs _ _ ?_)
 clear hs
 have wl:IntKind.i64.wrap (l:Int)=l:=IntWalk.i64_in _ (by omega)
 have wc:IntKind.i64.wrap (c:Int)=c:=IntWalk.i64_in _ (by omega)
 have hmul:b*c≤1048576*1048576:=Nat.mul_le_mul hbr hcr
 have hbig:¬((b:Int)*(c:Int) > 2 ^ 48):=by
  have h1:((b*c:Nat):Int)≤((1048576*1048576:Nat):Int):=Int.ofNat_le.2 hmul
  rw[Int.natCast_mul]at h1
  omega
 simp only[Instr.makeSlice,Sem.run_bind,r_und hu,Result.andThen_ok,asInt,asIntOf,Sem.run_pure,r_info hi,wl,wc]
 rw[hb]
 rw[if_neg (by
  simp only[Bool.or_eq_true,decide_eq_true_eq,not_or]
  exact⟨⟨⟨by omega,hbig⟩,by omega⟩,by omega⟩)]
 simp only[Sem.run_bind,run_askRoom,Result.andThen_ok,r_size hi,Int.toNat_natCast]
 by_cases h0:c*i.size=0
 ·rw[if_pos h0]
  have h00:c*k=0:=by rw[← hsz]; exact h0
  simp only[newRow,Sem.run_bind,run_newObj,Sem.run_pure,Result.andThen_ok,h0,h00]
  have e0:((Array.range 0).map fun q=>(#[]:Array Value)[q % (#[]:Array Value).size]!)=(Array.range 0).map fun q=>zv.cells[q % zv.cells.size]!:=by simp
  rw[e0]
  rfl
 ·rw[if_neg h0]
  simp only[newRow,Sem.run_bind,run_newObj,Sem.run_pure,Result.andThen_ok,r_zero hi h2]
  have e0:c*i.size=c*k:=by rw[hsz]
  rw[e0]
  rfl
end
end Go.AE
end
section
namespace Go.AE
open Go.RowKit
section
variable {P:Program} {s:Sem Next} {W:Base} {Φ:Pers} {ρ:Rho} {id:Nat} {w w1:World} {m m':Mem} {x:AVal} {v:Value}
theorem firstCells_zero (k:Nat) (a:Option Addr) (n c:Nat):(Builtin.firstCells k 0 (.slice a n c)).run P w=.ok #[] w:=by
 cases a with
 | none=>rfl
 | some a=>simp only[Builtin.firstCells,Nat.zero_mul]; rfl
theorem rowsIn_nil (k:Nat):RowsIn Φ ρ [] 0 k #[]:=⟨fun i row h=>by simp at h,fun i row j x h=>by simp at h⟩
theorem src_ok {k:Nat} {y:AVal} {xs:List (List AVal)} (hr:Rel W Φ ρ m w) (hy:R Φ ρ y v) (hs:srcRows m k y=some xs) (hk:0<k) :
 ∃ arr:Array Value,(Builtin.lenOf v).run P w=.ok xs.length w∧(∀ q,q≤xs.length→(Builtin.firstCells k q v).run P w=.ok (arr.extract 0 (q*k)) w)∧arr.size=xs.length*k∧RowsIn Φ ρ xs 0 k arr:=by
 have empty:∀ (a:Option Addr) (cap:Nat),∃ arr:Array Value,(Builtin.lenOf (.slice a 0 cap)).run P w=.ok ([]:List (List AVal)).length w ∧
  (∀ q,q≤([]:List (List AVal)).length→(Builtin.firstCells k q (.slice a 0 cap)).run P w=.ok (arr.extract 0 (q*k)) w)∧arr.size=([]:List (List AVal)).length*k∧RowsIn Φ ρ [] 0 k arr:=by
  intro a cap
  refine⟨#[],rfl,fun q hq=>?_,by simp,rowsIn_nil k⟩
  obtain rfl:q=0:=by simpa using hq
  rw[firstCells_zero]; simp
 cases hy with
 | str l=>
  simp only[srcRows]at hs
  split at hs
  ·rename_i hk1
   subst hk1
   injection hs with hs
   subst hs
   refine⟨(l.map fun b=>Value.int .u8 b.toNat).toArray,?_,fun q hq=>?_,by simp,fun i row hi=>?_,fun i row j y hi hj=>?_⟩
   ·simp only[Builtin.lenOf,Sem.run_pure,List.length_map]; rfl
   ·simp only[Builtin.firstCells,Sem.run_pure,extract_mk]
    congr 1
    apply Array.ext'
    simp[List.map_take]
   ·rw[List.getElem?_map]at hi
    cases hl:l[i]? with
    | none=>simp[hl]at hi
    | some c=>simp only[hl,Option.map_some,Option.some.injEq]at hi; subst hi; rfl
   ·rw[List.getElem?_map]at hi
    cases hl:l[i]? with
    | none=>simp[hl]at hi
    | some c=>
     simp only[hl,Option.map_some,Option.some.injEq]at hi
     subst hi
     have hj0:j=0:=by
      have:=(List.getElem?_eq_some_iff.1 hj).1
      simp[byteRow]at this; exact this
     subst hj0
     simp only[byteRow,List.getElem?_cons_zero,Option.some.injEq]at hj
     subst hj
     exact⟨.int .u8 c.toNat,by simp[hl],rfl,.int _ _⟩
  ·cases hs
 | nilSl=>simp only[srcRows,rowsOf,Option.some.injEq]at hs; subst hs; exact empty none 0
 | emp a=>simp only[srcRows,rowsOf,Option.some.injEq]at hs; subst hs; exact empty a 0
 | imm0 a cap _=>simp only[srcRows,rowsOf,List.all_nil,if_true,Option.some.injEq]at hs; subst hs; exact empty a cap
 | imm els B o k' cap c f hne hcap hB hk' hc hrr=>
  simp only[srcRows,rowsOf]at hs
  split at hs
  ·rename_i hall
   injection hs with hs
   subst hs
   have hpos:0<els.length:=List.length_pos_iff.2 hne
   have hkk:k'=k:=by
    have e1:=hk' 0 _ (List.getElem?_eq_getElem hpos)
    have e2:=rows_k hall 0 _ (List.getElem?_eq_getElem hpos)
    omega
   subst hkk
   obtain⟨e,fz,hB2⟩:=hr.pers B c hB
   have hsize:o+els.length*k'≤c.size:=by
    have hlast:els[els.length - 1]? = some els[els.length - 1]:=List.getElem?_eq_getElem (by omega)
    have hl:=hk' _ _ hlast
    have hj:k' - 1<(els[els.length - 1]).length:=by omega
    have h1:=(hc _ _ _ _ hlast (List.getElem?_eq_getElem hj)).1
    have h2:=(Array.getElem?_eq_some_iff.1 h1).1
    have e3:(els.length - 1+1)*k'=els.length*k':=by rw[Nat.sub_add_cancel hpos]
    rw[Nat.add_mul]at e3
    omega
   refine⟨c.extract o (o+els.length*k'),rfl,fun q hq=>?_,by simp; omega,fun i row hi=>hk' i row hi,fun i row j y hi hj=>?_⟩
   ·simp only[Builtin.firstCells]
    have hqk:q*k'≤els.length*k':=Nat.mul_le_mul_right _ hq
    rw[run_loadCells hB2 (by omega)]
    congr 1
    rw[Array.extract_extract]
    congr 1
    omega
   ·have hi2:=(List.getElem?_eq_some_iff.1 hi).1
    have hj2:j<k':=by
     have:=(List.getElem?_eq_some_iff.1 hj).1
     rw[hk' i row hi]at this; exact this
    have hlt:=mul_lt hi2 hj2
    obtain⟨h1,h2⟩:=hc i row j y hi hj
    refine⟨f i j,?_,h2,hrr i row j y hi hj⟩
    rw[Nat.zero_add,Array.getElem?_extract,if_pos (by omega)]
    rw[← h1]; congr 1; omega
  ·cases hs
 | sl b off len a cap l hl hle hn hcap hav=>
  simp only[srcRows,rowsOf]at hs
  have dead:len=0→xs=[] → ∃ arr:Array Value,(Builtin.lenOf (.slice a len cap)).run P w=.ok xs.length w∧(∀ q,q≤xs.length→(Builtin.firstCells k q (.slice a len cap)).run P w=.ok (arr.extract 0 (q*k)) w)∧arr.size=xs.length*k∧RowsIn Φ ρ xs 0 k arr:=by
   intro h0 h1
   subst h0; subst h1
   exact empty a cap
  cases hg:m.get b with
  | none=>
   simp only[hg]at hs
   split at hs
   ·rename_i h0
    injection hs with hs
    exact dead h0 hs.symm
   ·cases hs
  | some blk=>
   cases blk with
   | cells k2 els=>
    simp only[hg]at hs
    split at hs
    ·rename_i hcond
     obtain⟨rfl,hol⟩:=hcond
     injection hs with hs
     by_cases h0:len=0
     ·subst h0
      exact dead rfl (by rw[← hs]; simp)
     ·have ha:=hcap (by omega)
      subst ha
      obtain⟨l',ob,g1,g2,g3,g4,g5⟩:=hr.live b _ hg
      rw[hl]at g1; injection g1 with g1; subst g1
      cases g5 with
      | cells _ _ _ c e hk2 hsz hlen hrows _=>
       subst hs
       subst hk2
       have hxl:((els.drop off).take len).length=len:=by simp; omega
       have hbound:(l.sh+off)*l.k+len*l.k≤c.size:=by
        rw[hsz,← Nat.add_mul]
        exact Nat.mul_le_mul_right _ (by omega)
       refine⟨c.extract ((l.sh+off)*l.k) ((l.sh+off)*l.k+len*l.k),by rw[hxl]; rfl,fun q hq=>?_,by rw[hxl]; simp; omega,fun i row hi=>?_,fun i row j y hi hj=>?_⟩
       ·rw[hxl]at hq
        simp only[Builtin.firstCells]
        have hqk:q*l.k≤len*l.k:=Nat.mul_le_mul_right _ hq
        rw[run_loadCells g4 (by omega)]
        congr 1
        rw[Array.extract_extract]
        congr 1
        omega
       ·rw[List.getElem?_take]at hi
        split at hi
        ·rw[List.getElem?_drop]at hi
         exact hrows.1 _ row hi
        ·cases hi
       ·rw[List.getElem?_take]at hi
        split at hi
        ·rename_i hil
         rw[List.getElem?_drop]at hi
         obtain⟨u,h1,h2,h3⟩:=hrows.2 (off+i) row j y hi hj
         have hj2:j<l.k:=by
          have:=(List.getElem?_eq_some_iff.1 hj).1
          rw[hrows.1 _ row hi]at this; omega
         have hlt:=mul_lt hil hj2
         refine⟨u,?_,h2,h3⟩
         have hlen2:len*l.k=((els.drop off).take len).length*l.k:=by rw[hxl]
         rw[Nat.zero_add,Array.getElem?_extract,if_pos (by omega),← h1]
         congr 1
         rw[← Nat.add_assoc l.sh,Nat.add_mul (l.sh+off) i]
         omega
        ·cases hi
    ·cases hs
   | map es clock=>
    simp only[hg]at hs
    split at hs
    ·rename_i h0
     injection hs with hs
     exact dead h0 hs.symm
    ·cases hs
   | siter s' pos=>
    simp only[hg]at hs
    split at hs
    ·rename_i h0
     injection hs with hs
     exact dead h0 hs.symm
    ·cases hs
   | miter a' b' c' d'=>
    simp only[hg]at hs
    split at hs
    ·rename_i h0
     injection hs with hs
     exact dead h0 hs.symm
    ·cases hs
 | _=>simp[srcRows,rowsOf]at hs
theorem rowsIn_splice {els xs:List (List AVal)} {sh k n p:Nat} {c arr:Array Value} (h:RowsIn Φ ρ els sh k c) (hn:c.size=n*k) (hp:p≤els.length) (hl:sh+p+xs.length≤n)
 (hx:RowsIn Φ ρ xs 0 k arr) (hsz:arr.size=xs.length*k):RowsIn Φ ρ (els.take p++xs++els.drop (p+xs.length)) sh k (setFrom c ((sh+p)*k) arr.toList):=by
 have hget:∀ (i:Nat) (row:List AVal),(els.take p++xs++els.drop (p+xs.length))[i]? = some row→(i<p∧els[i]? = some row)∨(p≤i∧i<p+xs.length∧xs[i - p]? = some row)∨(p+xs.length≤i∧els[i]? = some row):=by
  intro i row hi
  rw[List.getElem?_append,List.getElem?_append]at hi
  simp only[List.length_append,List.length_take,Nat.min_eq_left hp]at hi
  split at hi
  ·rename_i h1
   split at hi
   ·rename_i h2
    rw[List.getElem?_take,if_pos h2]at hi
    exact .inl ⟨h2,hi⟩
   ·rename_i h2
    exact .inr (.inl ⟨by omega,h1,hi⟩)
  ·rename_i h1
   rw[List.getElem?_drop]at hi
   refine .inr (.inr ⟨by omega,?_⟩)
   rw[← hi]; congr 1; omega
 refine⟨fun i row hi=>?_,fun i row j y hi hj=>?_⟩
 ·rcases hget i row hi with⟨_,h1⟩|⟨_,_,h1⟩|⟨_,h1⟩
  ·exact h.1 _ _ h1
  ·exact hx.1 _ _ h1
  ·exact h.1 _ _ h1
 ·rw[setFrom_get]
  simp only[Array.length_toList,hsz]
  rcases hget i row hi with⟨h0,h1⟩|⟨h0,h00,h1⟩|⟨h0,h1⟩
  ·obtain⟨u,g1,g2,g3⟩:=h.2 i row j y h1 hj
   have hj2:j<k:=by
    have:=(List.getElem?_eq_some_iff.1 hj).1
    rw[h.1 _ row h1]at this; exact this
   have hlt:=mul_lt (a:=sh+i) (n:=sh+p) (by omega) hj2
   rw[if_neg (by omega)]
   exact⟨u,g1,g2,g3⟩
  ·obtain⟨u,g1,g2,g3⟩:=hx.2 (i - p) row j y h1 hj
   have hj2:j<k:=by
    have:=(List.getElem?_eq_some_iff.1 hj).1
    rw[hx.1 _ row h1]at this; exact this
   have e1:(sh+i)*k=(sh+p)*k+(i - p)*k:=by rw[← Nat.add_mul]; congr 1; omega
   have hlt:=mul_lt (a:=i - p) (n:=xs.length) (by omega) hj2
   have hlt2:(sh+p)*k+xs.length*k≤c.size:=by rw[hn,← Nat.add_mul]; exact Nat.mul_le_mul_right _ hl
   rw[e1,if_pos ⟨by omega,by omega,by omega⟩]
   rw[Nat.zero_add]at g1
   refine⟨u,?_,g2,g3⟩
   have e2:(sh+p)*k+(i - p)*k+j - (sh+p)*k=(i - p)*k+j:=by omega
   rw[e2]
   simpa using g1
  ·obtain⟨u,g1,g2,g3⟩:=h.2 i row j y h1 hj
   have hle:(sh+p+xs.length)*k≤(sh+i)*k:=Nat.mul_le_mul_right _ (by omega)
   rw[Nat.add_mul (sh+p)]at hle
   rw[if_neg (by omega)]
   exact⟨u,g1,g2,g3⟩
theorem rel_move {b:Nat} {x0 x':ABlk} {l l':Loc} {o':Obj} (h:Rel W Φ ρ m w) (hb:m.get b=some x0) (hl:ρ b=some l) (hid:ρ id=none) (hlt:id<m.next) (hl':l'.blk=l.blk)
 (hr:BR Φ (ρ.put id l') x' l' o'):Rel W Φ (ρ.put id l') ((m.del b).set id x') (putBlk w l.blk o'):=by
 have hx:=Rho.ext_put (Φ:=Φ) (l:=l') hid
 obtain⟨l0,o,g1,g2,g3,g4,g5⟩:=h.live b x0 hb
 rw[hl]at g1; injection g1 with g1; subst g1
 have hblt:l.blk<w.heap.size:=by
  rcases Nat.lt_or_ge l.blk w.heap.size with h'|h'
  ·exact h'
  ·rw[Array.getElem?_eq_none h']at g4; cases g4
 have hbi:b≠id:=by rintro rfl; rw[hid]at hl; cases hl
 have rne:∀ b' k,b'≠id→ρ.put id l' b'=some k→ρ b'=some k:=fun b' k hb' he=>by
  unfold Rho.put at he; rw[if_neg hb']at he; exact he
 refine⟨?_,?_,?_,?_,?_,h.newp⟩
 ·exact h.base.put g2
 ·intro B c hB
  obtain⟨e,fz,ho⟩:=h.pers B c hB
  refine⟨e,fz,?_⟩
  rw[putBlk_get,if_neg]
  ·exact ho
  ·rintro⟨rfl,_⟩
   rw[hB]at g3; cases g3
 ·intro b' y hy
  simp only[Mem.get_set,Mem.get_del]at hy
  by_cases hb1:b'=id
  ·subst hb1
   rw[if_pos rfl]at hy
   injection hy with hy
   subst hy
   exact⟨l',o',Rho.put_same,by rw[hl']; exact g2,by rw[hl']; exact g3,by rw[hl',putBlk_get,if_pos ⟨rfl,hblt⟩],hr⟩
  ·rw[if_neg hb1]at hy
   by_cases hb2:b'=b
   ·rw[if_pos hb2]at hy; cases hy
   ·rw[if_neg hb2]at hy
    obtain⟨k,o'',k1,k2,k3,k4,k5⟩:=h.live b' y hy
    refine⟨k,o'',hx.rho _ _ k1,k2,k3,?_,k5.ext hx⟩
    rw[putBlk_get,if_neg]
    ·exact k4
    ·rintro⟨he,_⟩
     exact hb2 (h.inj b' b y x0 k l hy hb k1 hl he.symm)
 ·intro b1 b2 y1 y2 l1 l2 h1 h2 k1 k2 he
  simp only[Mem.get_set,Mem.get_del]at h1 h2
  by_cases e1:b1=id
  ·by_cases e2:b2=id
   ·rw[e1,e2]
   ·rw[if_neg e2]at h2
    by_cases e3:b2=b
    ·rw[if_pos e3]at h2; cases h2
    ·rw[if_neg e3]at h2
     rw[e1,Rho.put_same]at k1
     injection k1 with k1; subst k1
     exact absurd (h.inj b2 b y2 x0 l2 l h2 hb (rne _ _ e2 k2) hl (by rw[← he,hl'])) e3
  ·rw[if_neg e1]at h1
   by_cases e3:b1=b
   ·rw[if_pos e3]at h1; cases h1
   ·rw[if_neg e3]at h1
    by_cases e2:b2=id
    ·rw[e2,Rho.put_same]at k2
     injection k2 with k2; subst k2
     exact absurd (h.inj b1 b y1 x0 l1 l h1 hb (rne _ _ e1 k1) hl (by rw[he,hl'])) e3
    ·rw[if_neg e2]at h2
     by_cases e4:b2=b
     ·rw[if_pos e4]at h2; cases h2
     ·rw[if_neg e4]at h2
      exact h.inj b1 b2 y1 y2 l1 l2 h1 h2 (rne _ _ e1 k1) (rne _ _ e2 k2) he
 ·intro b' k hb'
  by_cases hbb:b'=id
  ·rw[hbb]; exact hlt
  ·exact h.fresh b' k (rne _ _ hbb hb')
end
end Go.AE
end
section
namespace Go.AE
open Go.RowKit
structure Same (ft:List Nat) (m m' m2 m2':Mem):Prop where
 n1:m'.next=m.next
 n2:m2'.next=m2.next
 out1:∀ b,b∉ft→m'.get b=m.get b
 out2:∀ b,b∉ft→m2'.get b=m2.get b
 ins:∀ b,b∈ft→m2'.get b=m'.get b
def Agr (ft:List Nat) (m m2:Mem):Prop:=∀ b,b∈ft→m2.get b=m.get b
section
variable {ft:List Nat} {m m2 m':Mem} {id:Nat} {t:List AVal} {v:AVal}
theorem Same.refl (h:Agr ft m m2):Same ft m m m2 m2:=⟨rfl,rfl,fun _ _=>rfl,fun _ _=>rfl,h⟩
theorem Same.set {m' m2':Mem} {b:Nat} {x:ABlk} (h:Same ft m m' m2 m2') (hb:b∈ft):Same ft m (m'.set b x) m2 (m2'.set b x):=by
 refine⟨h.n1,h.n2,fun c hc=>?_,fun c hc=>?_,fun c hc=>?_⟩
 ·have:c≠b:=fun e=>hc (e ▸ hb)
  simp[this,h.out1 c hc]
 ·have:c≠b:=fun e=>hc (e ▸ hb)
  simp[this,h.out2 c hc]
 ·simp only[Mem.get_set]
  split
  ·rfl
  ·exact h.ins c hc
theorem Same.del {m' m2':Mem} {b:Nat} (h:Same ft m m' m2 m2') (hb:b∈ft):Same ft m (m'.del b) m2 (m2'.del b):=by
 refine⟨h.n1,h.n2,fun c hc=>?_,fun c hc=>?_,fun c hc=>?_⟩
 ·have:c≠b:=fun e=>hc (e ▸ hb)
  simp[this,h.out1 c hc]
 ·have:c≠b:=fun e=>hc (e ▸ hb)
  simp[this,h.out2 c hc]
 ·simp only[Mem.get_del]
  split
  ·rfl
  ·exact h.ins c hc
theorem rowAt_agr {x:AVal} (h:Agr (blkOf x) m m2):rowAt m2 x=rowAt m x:=by
 cases x<;>simp only[rowAt]
 rename_i b i j
 rw[h b (by simp[blkOf])]
theorem loadA_agr {x:AVal} {n:Option Nat} (h:Agr (blkOf x) m m2):loadA m2 n x=loadA m n x:=by
 simp only[loadA,rowAt_agr h]
theorem rowsOf_agr {x:AVal} {k:Nat} (h:Agr (blkOf x) m m2):rowsOf m2 k x=rowsOf m k x:=by
 cases x<;>simp only[rowsOf]
 rename_i b off len
 rw[h b (by simp[blkOf])]
theorem srcRows_agr {x:AVal} {k:Nat} (h:Agr (blkOf x) m m2):srcRows m2 k x=srcRows m k x:=by
 cases x<;>simp only[srcRows]<;>first|rfl|exact rowsOf_agr h
theorem storeA_agr {x y:AVal} {n:Nat} (h:Agr ft m m2) (hx:∀ b,b∈blkOf x→b∈ft) (hs:storeA m n x y=some m'):∃ m2',storeA m2 n x y=some m2'∧Same ft m m' m2 m2':=by
 cases x<;>simp only[storeA]at hs<;>first|(cases hs; done)|skip
 rename_i b i j
 have hb:b∈ft:=hx b (by simp[blkOf])
 simp only[storeA,h b hb]
 split at hs<;>first|(cases hs; done)|skip
 rename_i b' i' j' cs heq hcs
 injection heq with h1 h2 h3
 subst h1; subst h2; subst h3
 split at hs<;>first|(cases hs; done)|skip
 rename_i k els hg
 split at hs<;>first|(cases hs; done)|skip
 rename_i row hrow
 split at hs<;>first|(cases hs; done)|skip
 rename_i hc
 injection hs with hs
 subst hs
 simp only[h b hb,hg,hrow]
 rw[if_pos hc]
 exact⟨_,rfl,(Same.refl h).set hb⟩
theorem appendRows_agr {k bytes:Nat} {s:AVal} {xs:List (List AVal)} (h:Agr ft m m2) (hid:id∈ft) (hx:∀ b,b∈blkOf s→b∈ft) (hs:appendRows id k bytes m s xs=some (v,m')) :
 ∃ m2',appendRows id k bytes m2 s xs=some (v,m2')∧Same ft m m' m2 m2':=by
 cases s<;>simp only[appendRows]at hs<;>first|(cases hs; done)|skip
 ·split at hs
  ·rename_i h0
   simp only[Option.some.injEq,Prod.mk.injEq]at hs
   obtain⟨h1,h2⟩:=hs
   subst h1; subst h2
   exact⟨m2,by simp[appendRows,h0],Same.refl h⟩
  ·rename_i h0
   split at hs<;>first|(cases hs; done)|skip
   rename_i hc
   simp only[Option.some.injEq,Prod.mk.injEq]at hs
   obtain⟨h1,h2⟩:=hs
   subst h1; subst h2
   exact⟨_,by simp only[appendRows,h0,if_false,hc]; rfl,(Same.refl h).set hid⟩
 ·split at hs
  ·rename_i h0
   simp only[Option.some.injEq,Prod.mk.injEq]at hs
   obtain⟨h1,h2⟩:=hs
   subst h1; subst h2
   exact⟨m2,by simp[appendRows,h0],Same.refl h⟩
  ·rename_i h0
   split at hs<;>first|(cases hs; done)|skip
   rename_i hc
   simp only[Option.some.injEq,Prod.mk.injEq]at hs
   obtain⟨h1,h2⟩:=hs
   subst h1; subst h2
   exact⟨_,by simp only[appendRows,h0,if_false,hc]; rfl,(Same.refl h).set hid⟩
 ·rename_i b off len
  have hb:b∈ft:=hx b (by simp[blkOf])
  simp only[appendRows,h b hb]
  split at hs<;>first|(cases hs; done)|skip
  rename_i k' els hg
  split at hs<;>first|(cases hs; done)|skip
  rename_i hc
  rw[if_pos hc]
  split at hs
  ·rename_i hc2
   rw[if_pos hc2]
   simp only[Option.some.injEq,Prod.mk.injEq]at hs
   obtain⟨h1,h2⟩:=hs
   subst h1; subst h2
   exact⟨_,rfl,(Same.refl h).set hb⟩
  ·rename_i hc2
   rw[if_neg hc2]
   split at hs<;>first|(cases hs; done)|skip
   rename_i hc3
   rw[if_pos hc3]
   simp only[Option.some.injEq,Prod.mk.injEq]at hs
   obtain⟨h1,h2⟩:=hs
   subst h1; subst h2
   exact⟨_,rfl,((Same.refl h).del hb).set hid⟩
theorem quiet_same {o:Option AVal} {m':Mem} (h:Agr ft m m2) (hs:(match o with|some v=>some (v,m)|none=>none)=some (v,m')) :
 ∃ m2',(match o with|some v=>some (v,m2)|none=>none)=some (v,m2')∧Same ft m m' m2 m2':=by
 cases o with
 | none=>cases hs
 | some w=>
  simp only[Option.some.injEq,Prod.mk.injEq]at hs
  obtain⟨h1,h2⟩:=hs
  subst h1; subst h2
  exact⟨m2,rfl,Same.refl h⟩
theorem stepA_local {op:AOp} (hr:Agr (footR t op) m m2) (h:Agr (footW id t op) m m2) (hs:stepA id t m op=some (v,m')):∃ m2',stepA id t m2 op=some (v,m2')∧Same (footW id t op) m m' m2 m2':=by
 have keep:∀ {o:Option (AVal×Mem)},o=some (v,m')→(∀ w n,o=some (w,n)→n=m∧stepA id t m2 op=some (w,m2)) → ∃ m2',stepA id t m2 op=some (v,m2')∧Same (footW id t op) m m' m2 m2':=by
  intro o ho hw
  obtain⟨h1,h2⟩:=hw v m' ho
  subst h1
  exact⟨m2,h2,Same.refl h⟩
 cases op with
 | mov x=>exact keep hs fun w n hh=>by simp only[stepA,Option.some.injEq,Prod.mk.injEq]at hh ⊢; exact⟨hh.2.symm,hh.1,trivial⟩
 | pick c a b=>
  simp only[stepA]at hs ⊢
  split at hs<;>first|(cases hs; done)|skip
  all_goals
   simp only[Option.some.injEq,Prod.mk.injEq]at hs
   obtain⟨h1,h2⟩:=hs
   subst h1; subst h2
   exact⟨m2,rfl,Same.refl h⟩
 | box x=>
  simp only[stepA]at hs ⊢
  split at hs<;>first|(cases hs; done)|skip
  rename_i cs hcs
  split at hs<;>first|(cases hs; done)|skip
  rename_i hall
  simp only[Option.some.injEq,Prod.mk.injEq]at hs
  obtain⟨h1,h2⟩:=hs
  subst h1; subst h2
  simp only[hall,if_true]
  exact⟨_,rfl,(Same.refl h).set (by simp[footW])⟩
 | alloc z=>
  simp only[stepA,Option.some.injEq,Prod.mk.injEq]at hs ⊢
  obtain⟨h1,h2⟩:=hs
  subst h1; subst h2
  exact⟨_,⟨rfl,rfl⟩,(Same.refl h).set (by simp[footW])⟩
 | build z ps=>
  simp only[stepA]at hs ⊢
  split at hs<;>first|(cases hs; done)|skip
  simp only[Option.some.injEq,Prod.mk.injEq]at hs
  obtain⟨h1,h2⟩:=hs
  subst h1; subst h2
  exact⟨m2,rfl,Same.refl h⟩
 | mkSl k len z ps=>
  simp only[stepA]at hs ⊢
  split at hs<;>first|(cases hs; done)|skip
  simp only[Option.some.injEq,Prod.mk.injEq]at hs
  obtain⟨h1,h2⟩:=hs
  subst h1; subst h2
  exact⟨_,rfl,(Same.refl h).set (by simp[footW])⟩
 | load n x=>
  simp only[stepA]at hs ⊢
  rw[loadA_agr hr]
  exact quiet_same h hs
 | store n a x=>
  simp only[stepA]at hs ⊢
  split at hs<;>first|(cases hs; done)|skip
  rename_i m3 hst
  simp only[Option.some.injEq,Prod.mk.injEq]at hs
  obtain⟨h1,h2⟩:=hs
  subst h1; subst h2
  obtain⟨m4,h3,h4⟩:=storeA_agr h (fun _ hb=>hb) hst
  rw[h3]
  exact⟨m4,rfl,h4⟩
 | nilChk x=>
  simp only[stepA]at hs ⊢
  split at hs<;>first|(cases hs; done)|skip
  all_goals
   simp only[Option.some.injEq,Prod.mk.injEq]at hs
   obtain⟨h1,h2⟩:=hs
   subst h1; subst h2
   exact⟨m2,rfl,Same.refl h⟩
 | bin op e x y=>simp only[stepA]at hs ⊢; exact quiet_same h hs
 | un op x=>simp only[stepA]at hs ⊢; exact quiet_same h hs
 | convInt k x=>
  simp only[stepA]at hs ⊢
  split at hs<;>first|(cases hs; done)|skip
  simp only[Option.some.injEq,Prod.mk.injEq]at hs
  obtain⟨h1,h2⟩:=hs
  subst h1; subst h2
  exact⟨m2,rfl,Same.refl h⟩
 | convId x=>
  simp only[stepA]at hs ⊢
  split at hs<;>first|(cases hs; done)|skip
  simp only[Option.some.injEq,Prod.mk.injEq]at hs
  obtain⟨h1,h2⟩:=hs
  subst h1; subst h2
  exact⟨m2,rfl,Same.refl h⟩
 | toStr x=>
  simp only[stepA]at hs ⊢
  rw[rowsOf_agr hr]
  split at hs<;>first|(cases hs; done)|skip
  rename_i rows hrows
  split at hs<;>first|(cases hs; done)|skip
  rename_i s hss
  simp only[Option.some.injEq,Prod.mk.injEq]at hs
  obtain⟨h1,h2⟩:=hs
  subst h1; subst h2
  exact⟨m2,rfl,Same.refl h⟩
 | mkFunc fn a b=>exact keep hs fun w n hh=>by simp only[stepA,Option.some.injEq,Prod.mk.injEq]at hh ⊢; exact⟨hh.2.symm,hh.1,trivial⟩
 | mkMap=>
  simp only[stepA,Option.some.injEq,Prod.mk.injEq]at hs ⊢
  obtain⟨h1,h2⟩:=hs
  subst h1; subst h2
  exact⟨_,⟨rfl,rfl⟩,(Same.refl h).set (by simp[footW])⟩
 | makeSl k b z len cap=>
  simp only[stepA]at hs ⊢
  split at hs<;>first|(cases hs; done)|skip
  split at hs<;>first|(cases hs; done)|skip
  rename_i hc
  simp only[Option.some.injEq,Prod.mk.injEq]at hs
  obtain⟨h1,h2⟩:=hs
  subst h1; subst h2
  simp only[hc,and_self,if_true]
  exact⟨_,rfl,(Same.refl h).set (by simp[footW])⟩
 | slStr x lo hi=>
  simp only[stepA]at hs ⊢
  split at hs<;>first|(cases hs; done)|skip
  split at hs<;>first|(cases hs; done)|skip
  simp only[Option.some.injEq,Prod.mk.injEq]at hs
  obtain⟨h1,h2⟩:=hs
  subst h1; subst h2
  exact⟨m2,rfl,Same.refl h⟩
 | slSl k x lo hi mx=>
  have ha:Agr (blkOf (ev t x)) m m2:=hr
  simp only[stepA]at hs ⊢
  split at hs
  ·split at hs<;>first|(cases hs; done)|skip
   split at hs<;>first|(cases hs; done)|skip
   split at hs<;>first|(cases hs; done)|skip
   rename_i hc
   simp only[hc,and_self,if_true]
   split at hs
   all_goals
    rename_i h0
    simp only[Option.some.injEq,Prod.mk.injEq]at hs
    obtain⟨h1,h2⟩:=hs
    subst h1; subst h2
    simp only[h0,if_true,if_false]
    exact⟨m2,rfl,Same.refl h⟩
  ·generalize ev t x=y at *
   cases y<;>simp only at hs ⊢ <;> first|(cases hs; done)|skip
   case sl b off len=>
    rw[ha b (by simp[blkOf])]
    split at hs<;>first|(cases hs; done)|skip
    split at hs<;>first|(cases hs; done)|skip
    rename_i hc
    simp only[hc,and_self,if_true]
    split at hs<;>first|(cases hs; done)|skip
    simp only[Option.some.injEq,Prod.mk.injEq]at hs
    obtain⟨h1,h2⟩:=hs
    subst h1; subst h2
    exact⟨m2,rfl,Same.refl h⟩
   case imm els=>
    split at hs<;>first|(cases hs; done)|skip
    rename_i hc
    simp only[hc,if_true]
    split at hs<;>first|(cases hs; done)|skip
    simp only[Option.some.injEq,Prod.mk.injEq]at hs
    obtain⟨h1,h2⟩:=hs
    subst h1; subst h2
    exact⟨m2,rfl,Same.refl h⟩
   all_goals
    split at hs<;>first|(cases hs; done)|skip
    simp only[Option.some.injEq,Prod.mk.injEq]at hs
    obtain⟨h1,h2⟩:=hs
    subst h1; subst h2
    exact⟨m2,rfl,Same.refl h⟩
 | fieldA off x=>simp only[stepA]at hs ⊢; exact quiet_same h hs
 | field off n x=>
  simp only[stepA]at hs ⊢
  split at hs<;>first|(cases hs; done)|skip
  exact quiet_same h hs
 | idxA k x i=>
  have ha:Agr (blkOf (ev t x)) m m2:=hr
  simp only[stepA]at hs ⊢
  generalize ev t x=y at *
  split at hs<;>first|(cases hs; done)|skip
  ·rename_i b off len i' hi
   rw[ha b (by simp[blkOf])]
   split at hs<;>first|(cases hs; done)|skip
   split at hs<;>first|(cases hs; done)|skip
   rename_i hc
   simp only[hc,and_self,if_true]
   simp only[Option.some.injEq,Prod.mk.injEq]at hs
   obtain⟨h1,h2⟩:=hs
   subst h1; subst h2
   exact⟨m2,rfl,Same.refl h⟩
  ·split at hs<;>first|(cases hs; done)|skip
   split at hs<;>first|(cases hs; done)|skip
   rename_i hc
   simp only[hc,if_true]
   simp only[Option.some.injEq,Prod.mk.injEq]at hs
   obtain⟨h1,h2⟩:=hs
   subst h1; subst h2
   exact⟨m2,rfl,Same.refl h⟩
 | idxAA n k x i=>
  simp only[stepA]at hs ⊢
  split at hs<;>first|(cases hs; done)|skip
  split at hs<;>first|(cases hs; done)|skip
  rename_i hc
  simp only[hc,if_true]
  exact quiet_same h hs
 | idxStr x i=>
  simp only[stepA]at hs ⊢
  split at hs<;>first|(cases hs; done)|skip
  split at hs<;>first|(cases hs; done)|skip
  simp only[Option.some.injEq,Prod.mk.injEq]at hs
  obtain⟨h1,h2⟩:=hs
  subst h1; subst h2
  exact⟨m2,rfl,Same.refl h⟩
 | idxArr n k sz x i=>
  simp only[stepA]at hs ⊢
  split at hs<;>first|(cases hs; done)|skip
  split at hs<;>first|(cases hs; done)|skip
  rename_i hc
  simp only[hc,if_true]
  exact quiet_same h hs
 | lookup kt z ok x i=>
  have ha:Agr (blkOf (ev t x)) m m2:=hr
  simp only[stepA]at hs ⊢
  generalize ev t x=y at *
  cases y<;>simp only at hs ⊢ <;> first|(cases hs; done)|skip
  case map b=>
   rw[ha b (by simp[blkOf])]
   split at hs<;>first|(cases hs; done)|skip
   rename_i es hes
   split at hes<;>first|(cases hes; done)|skip
   rename_i hg
   injection hes with hes
   subst hes
   split at hs<;>first|(cases hs; done)|skip
   rename_i hf
   simp only[Option.some.injEq,Prod.mk.injEq]at hs
   obtain⟨h1,h2⟩:=hs
   subst h1; subst h2
   exact⟨m2,by simp only[hf],Same.refl h⟩
  all_goals
   split at hs<;>first|(cases hs; done)|skip
   rename_i hf
   simp only[Option.some.injEq,Prod.mk.injEq]at hs
   obtain⟨h1,h2⟩:=hs
   subst h1; subst h2
   exact⟨m2,by simp only[hf],Same.refl h⟩
 | mapUpd kt mp k w=>
  have ha:Agr (blkOf (ev t mp)) m m2:=h
  have hi:∀ b,b∈blkOf (ev t mp)→b∈footW id t (.mapUpd kt mp k w):=fun _ hb=>hb
  simp only[stepA]at hs ⊢
  generalize ev t mp=y at *
  cases y<;>simp only at hs ⊢ <;> first|(cases hs; done)|skip
  rename_i b
  rw[ha b (by simp[blkOf])]
  split at hs<;>first|(cases hs; done)|skip
  split at hs<;>first|(cases hs; done)|skip
  all_goals
   simp only[Option.some.injEq,Prod.mk.injEq]at hs
   obtain⟨h1,h2⟩:=hs
   subst h1; subst h2
   exact⟨_,rfl,(Same.refl h).set (hi b (by simp[blkOf]))⟩
 | ext x i=>
  simp only[stepA]at hs ⊢
  split at hs<;>first|(cases hs; done)|skip
  exact quiet_same h hs
 | append k bytes z s x=>
  have ha:Agr (blkOf (ev t x)) m m2:=hr
  simp only[stepA]at hs ⊢
  rw[srcRows_agr ha]
  split at hs<;>first|(cases hs; done)|skip
  exact appendRows_agr h (by simp[footW]) (fun b hb=>by simp[footW,hb]) hs
 | copy k d s=>
  have ha:Agr (blkOf (ev t d)) m m2:=h
  have hi:∀ b,b∈blkOf (ev t d)→b∈footW id t (.copy k d s):=fun _ hb=>hb
  have ha2:Agr (blkOf (ev t s)) m m2:=hr
  simp only[stepA]at hs ⊢
  rw[srcRows_agr ha2]
  generalize ev t d=y at *
  split at hs<;>first|(cases hs; done)|skip
  rename_i b off len xs hxs
  rw[ha b (by simp[blkOf])]
  split at hs<;>first|(cases hs; done)|skip
  split at hs<;>first|(cases hs; done)|skip
  rename_i hc
  simp only[hc,and_self,if_true]
  simp only[Option.some.injEq,Prod.mk.injEq]at hs
  obtain⟨h1,h2⟩:=hs
  subst h1; subst h2
  exact⟨_,rfl,(Same.refl h).set (hi b (by simp[blkOf]))⟩
 | clear k z x=>
  have ha:Agr (blkOf (ev t x)) m m2:=h
  have hi:∀ b,b∈blkOf (ev t x)→b∈footW id t (.clear k z x):=fun _ hb=>hb
  simp only[stepA]at hs ⊢
  generalize ev t x=y at *
  cases y<;>simp only at hs ⊢ <;> first|(cases hs; done)|skip
  case sl b off len=>
   rw[ha b (by simp[blkOf])]
   split at hs<;>first|(cases hs; done)|skip
   split at hs<;>first|(cases hs; done)|skip
   rename_i hc
   simp only[hc,and_self,if_true]
   simp only[Option.some.injEq,Prod.mk.injEq]at hs
   obtain⟨h1,h2⟩:=hs
   subst h1; subst h2
   exact⟨_,rfl,(Same.refl h).set (hi b (by simp[blkOf]))⟩
  all_goals
   simp only[Option.some.injEq,Prod.mk.injEq]at hs
   obtain⟨h1,h2⟩:=hs
   subst h1; subst h2
   exact⟨m2,rfl,Same.refl h⟩
 | lenStr x=>
  simp only[stepA]at hs ⊢
  split at hs<;>first|(cases hs; done)|skip
  simp only[Option.some.injEq,Prod.mk.injEq]at hs
  obtain⟨h1,h2⟩:=hs
  subst h1; subst h2
  exact⟨m2,rfl,Same.refl h⟩
 | lenSl x=>
  simp only[stepA]at hs ⊢
  split at hs<;>first|(cases hs; done)|skip
  simp only[Option.some.injEq,Prod.mk.injEq]at hs
  obtain⟨h1,h2⟩:=hs
  subst h1; subst h2
  exact⟨m2,rfl,Same.refl h⟩
 | lenMap x=>
  have ha:Agr (blkOf (ev t x)) m m2:=hr
  simp only[stepA]at hs ⊢
  generalize ev t x=y at *
  cases y<;>simp only at hs ⊢ <;> first|(cases hs; done)|skip
  case map b=>
   rw[ha b (by simp[blkOf])]
   split at hs<;>first|(cases hs; done)|skip
   simp only[Option.some.injEq,Prod.mk.injEq]at hs
   obtain⟨h1,h2⟩:=hs
   subst h1; subst h2
   exact⟨m2,rfl,Same.refl h⟩
  all_goals
   simp only[Option.some.injEq,Prod.mk.injEq]at hs
   obtain⟨h1,h2⟩:=hs
   subst h1; subst h2
   exact⟨m2,rfl,Same.refl h⟩
 | lenArr n=>exact keep hs fun w n hh=>by simp only[stepA,Option.some.injEq,Prod.mk.injEq]at hh ⊢; exact⟨hh.2.symm,hh.1,trivial⟩
 | minmax mx xs=>
  simp only[stepA]at hs ⊢
  split at hs<;>first|(cases hs; done)|skip
  exact quiet_same h hs
 | iface ty x=>exact keep hs fun w n hh=>by simp only[stepA,Option.some.injEq,Prod.mk.injEq]at hh ⊢; exact⟨hh.2.symm,hh.1,trivial⟩
 | mapEnt kt z mp k=>simp[stepA]at hs
 | entSt mp s w=>simp[stepA]at hs
 | delete kt mp k=>simp[stepA]at hs
 | range x=>simp[stepA]at hs
 | nextS x=>simp[stepA]at hs
 | nextM x=>simp[stepA]at hs
 | slArr n k x lo hi=>simp[stepA]at hs
 | appendZ k b z s x=>simp[stepA]at hs
 | call f xs=>simp[stepA]at hs
 | capSl x=>simp[stepA]at hs
 | dead=>simp[stepA]at hs
end
end Go.AE
end
