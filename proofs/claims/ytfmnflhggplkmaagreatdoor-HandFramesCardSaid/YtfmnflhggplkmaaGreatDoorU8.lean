/- Part 8 of the proof: AeJ. -/
import Derived.Test.YtfmnflhggplkmaaGreatDoorU7
set_option linter.all false
namespace Go.AE
open Go.RowKit
section
variable {P:Program} {s:Sem Next} {W:Base} {Φ:Pers} {ρ:Rho} {id:Nat} {w w1:World} {m m':Mem} {x:AVal} {v:Value}
theorem int_R {k:IntKind} {n:Int} (h:R Φ ρ (.int k n) v):v=.int k n:=by cases h; rfl
theorem str_R {l:List UInt8} (h:R Φ ρ (.str l) v):v=.string ⟨⟨l⟩⟩:=by cases h; rfl
theorem bool_R {b:Bool} (h:R Φ ρ (.bool b) v):v=.bool b:=by cases h; rfl
theorem toList_mk (l:List UInt8):(ByteArray.mk ⟨l⟩).toList=l:=Lib.toList_data _
theorem binInt_run {op:BinOp} {k:IntKind} {a b:Int} {z:AVal} {t:TypeId} (h:binInt op k a b=some z):∃ u,(binOp op t (.int k a) (.int k b)).run P w=.ok u w∧R Φ ρ z u:=by
 cases op
 case add=>simp only[binInt,Option.some.injEq]at h; subst h; exact⟨.int k _,by simp[binOp,Op.intArith],.int _ _⟩
 case sub=>simp only[binInt,Option.some.injEq]at h; subst h; exact⟨.int k _,by simp[binOp,Op.intArith],.int _ _⟩
 case mul=>simp only[binInt,Option.some.injEq]at h; subst h; exact⟨.int k _,by simp[binOp,Op.intArith],.int _ _⟩
 case quo=>
  simp only[binInt]at h
  by_cases h0:b=0
  ·rw[if_pos h0]at h; cases h
  ·rw[if_neg h0]at h; injection h with h; subst h
   exact⟨.int k _,by simp[binOp,Op.intDiv,h0],.int _ _⟩
 case rem=>
  simp only[binInt]at h
  by_cases h0:b=0
  ·rw[if_pos h0]at h; cases h
  ·rw[if_neg h0]at h; injection h with h; subst h
   exact⟨.int k _,by simp[binOp,Op.intDiv,h0],.int _ _⟩
 case and=>simp only[binInt,Option.some.injEq]at h; subst h; exact⟨.int k _,by simp only[binOp,Op.intBits]; simp,.int _ _⟩
 case or=>simp only[binInt,Option.some.injEq]at h; subst h; exact⟨.int k _,by simp only[binOp,Op.intBits]; simp,.int _ _⟩
 case xor=>simp only[binInt,Option.some.injEq]at h; subst h; exact⟨.int k _,by simp only[binOp,Op.intBits]; simp,.int _ _⟩
 case andNot=>simp only[binInt,Option.some.injEq]at h; subst h; exact⟨.int k _,by simp only[binOp,Op.intBits]; simp,.int _ _⟩
 case eql=>simp only[binInt,Option.some.injEq]at h; subst h; exact⟨.bool _,by simp only[binOp,Op.intCmp]; rw[if_neg (by simp)]; rfl,.bool _⟩
 case neq=>simp only[binInt,Option.some.injEq]at h; subst h; exact⟨.bool _,by simp only[binOp,Op.intCmp]; rw[if_neg (by simp)]; rfl,.bool _⟩
 case lss=>simp only[binInt,Option.some.injEq]at h; subst h; exact⟨.bool _,by simp only[binOp,Op.intCmp]; rw[if_neg (by simp)]; rfl,.bool _⟩
 case leq=>simp only[binInt,Option.some.injEq]at h; subst h; exact⟨.bool _,by simp only[binOp,Op.intCmp]; rw[if_neg (by simp)]; rfl,.bool _⟩
 case gtr=>simp only[binInt,Option.some.injEq]at h; subst h; exact⟨.bool _,by simp only[binOp,Op.intCmp]; rw[if_neg (by simp)]; rfl,.bool _⟩
 case geq=>simp only[binInt,Option.some.injEq]at h; subst h; exact⟨.bool _,by simp only[binOp,Op.intCmp]; rw[if_neg (by simp)]; rfl,.bool _⟩
 all_goals (simp[binInt]at h)
theorem binStr_run {op:BinOp} {a b:List UInt8} {z:AVal} {t:TypeId} (h:binStr op a b=some z):∃ u,(binOp op t (.string ⟨⟨a⟩⟩) (.string ⟨⟨b⟩⟩)).run P w=.ok u w∧R Φ ρ z u:=by
 cases op
 case add=>
  simp only[binStr]at h
  split at h
  ·rename_i hle
   injection h with h; subst h
   refine⟨.string ⟨⟨a++b⟩⟩,?_,.str _⟩
   have e:(ByteArray.mk ⟨a⟩++ByteArray.mk ⟨b⟩)=ByteArray.mk ⟨a++b⟩:=by
    have:=ByteArray.mk_append_mk a b
    simpa using this
   simp only[binOp]
   rw[run_string_add_sum (w:=w) (P:=P) _ _ (by show a.length+b.length≤_; omega),e]
  ·cases h
 case eql=>simp only[binStr,Option.some.injEq]at h; subst h; exact⟨.bool _,by simp only[binOp,Op.stringOp,toList_mk]; rfl,.bool _⟩
 case neq=>simp only[binStr,Option.some.injEq]at h; subst h; exact⟨.bool _,by simp only[binOp,Op.stringOp,toList_mk]; rfl,.bool _⟩
 case lss=>simp only[binStr,Option.some.injEq]at h; subst h; exact⟨.bool _,by simp only[binOp,Op.stringOp,toList_mk]; rfl,.bool _⟩
 case leq=>simp only[binStr,Option.some.injEq]at h; subst h; exact⟨.bool _,by simp only[binOp,Op.stringOp,toList_mk]; rfl,.bool _⟩
 case gtr=>simp only[binStr,Option.some.injEq]at h; subst h; exact⟨.bool _,by simp only[binOp,Op.stringOp,toList_mk]; rfl,.bool _⟩
 case geq=>simp only[binStr,Option.some.injEq]at h; subst h; exact⟨.bool _,by simp only[binOp,Op.stringOp,toList_mk]; rfl,.bool _⟩
 all_goals (simp[binStr]at h)
theorem cKey_run {t:TypeId} {k:KeyT} {y z:AVal} {vy vz:Value} {b:Bool} (d:Nat) (hk:cKey P t=some k) (h:keyEq k y z=some b) (hy:R Φ ρ y vy) (hz:R Φ ρ z vz) :
 (Op.equalIn (d+1) t vy vz).run P w=.ok b w:=by
 unfold cKey at hk
 cases hu:P.underlying t with
 | none=>simp[hu]at hk
 | some ty=>
  cases ty<;>simp only[hu]at hk<;>first|(cases hk; done)|(injection hk with hk; subst hk)
  all_goals (cases y<;>cases z<;>simp only[keyEq]at h<;>first|(cases h; done)|skip)
  ·injection h with h; subst h
   rw[bool_R hy,bool_R hz]
   simp[Op.equalIn,r_und hu]
  ·split at h
   ·rename_i hkk
    injection h with h; subst h; subst hkk
    rw[int_R hy,int_R hz]
    simp[Op.equalIn,r_und hu]
   ·cases h
  ·injection h with h; subst h
   rw[str_R hy,str_R hz]
   simp only[Op.equalIn,Sem.run_bind,r_und hu,Result.andThen_ok,Sem.run_pure]
   rw[beq_toListBytes,toList_mk,toList_mk]
theorem RL.at_ {cs:List AVal} {vs:Array Value} (h:RL Φ ρ cs vs) {i:Nat} {y:AVal} (hi:cs[i]? = some y):∃ u,vs[i]? = some u∧R Φ ρ y u:=by
 have hlt:=(List.getElem?_eq_some_iff.1 hi).1
 have hv:vs[i]? = some (vs[i]'(by rw[h.1]; exact hlt)):=Array.getElem?_eq_getElem _
 exact⟨_,hv,h.2 _ _ _ hi hv⟩
theorem part_plain {t:TypeId} {k:KeyT} {cs:List AVal} {vs:Array Value} {i:Nat} {y:AVal} (hk:cKey P t=some k) (h:RL Φ ρ cs vs) (hi:cs[i]? = some y):∃ u,(part t vs i).run P w=.ok u w∧R Φ ρ y u:=by
 obtain⟨u,hu,hr⟩:=h.at_ hi
 refine⟨u,?_,hr⟩
 unfold cKey at hk
 cases hty:P.underlying t with
 | none=>simp[hty]at hk
 | some ty=>
  have hagg:=r_isAgg (w:=w) hty
  have hf:aggD ty=false:=by cases ty<;>simp[hty]at hk<;>rfl
  simp only[part,Sem.run_bind,hagg,Result.andThen_ok,hf,Bool.false_eq_true,if_false,hu,Sem.run_pure]
theorem flat_run (d:Nat) {xs ys:List AVal} {vx vy:Array Value} (hx:RL Φ ρ xs vx) (hy:RL Φ ρ ys vy):∀ (fs:List Field) (i:Nat) (ks:List KeyT) (b:Bool),flatFields P fs i=some ks→sameCells ks (xs.drop i) (ys.drop i)=some b →
 (Op.eqFields (d+1) vx vy fs).run P w=.ok b w
 | [],i,ks,b,hf,hs=>by
  simp only[flatFields,Option.some.injEq]at hf
  subst hf
  have hb:b=true:=by
   cases h1:xs.drop i<;>cases h2:ys.drop i<;>simp[h1,h2,sameCells]at hs
   exact hs
  subst hb
  rfl
 | f :: r,i,ks,b,hf,hs=>by
  simp only[flatFields]at hf
  split at hf
  ·rename_i hcond
   simp only[Bool.and_eq_true,bne_iff_ne,ne_eq,beq_iff_eq]at hcond
   cases hk:cKey P f.type with
   | none=>simp[hk]at hf
   | some k=>
    cases hr:flatFields P r (i+1)with
    | none=>simp[hk,hr]at hf
    | some ks'=>
     simp only[hk,hr,Option.some.injEq]at hf
     subst hf
     cases h1:xs.drop i with
     | nil=>simp[h1,sameCells]at hs
     | cons x xs'=>
      cases h2:ys.drop i with
      | nil=>simp[h1,h2,sameCells]at hs
      | cons y ys'=>
       simp only[h1,h2,sameCells]at hs
       have hxi:xs[i]? = some x:=by
        have:=congrArg (fun l=>l[0]?) h1
        simpa[List.getElem?_drop]using this
       have hyi:ys[i]? = some y:=by
        have:=congrArg (fun l=>l[0]?) h2
        simpa[List.getElem?_drop]using this
       have hx':xs.drop (i+1)=xs':=by
        rw[← List.tail_drop,h1]; rfl
       have hy':ys.drop (i+1)=ys':=by
        rw[← List.tail_drop,h2]; rfl
       obtain⟨ux,hux,hrx⟩:=part_plain (P:=P) (w:=w) hk hx hxi
       obtain⟨uy,huy,hry⟩:=part_plain (P:=P) (w:=w) hk hy hyi
       rw[Op.eqFields,if_pos hcond.1,hcond.2]
       cases hkey:keyEq k x y with
       | none=>simp[hkey]at hs
       | some b1=>
        have hrun:=cKey_run (w:=w) d hk hkey hrx hry
        simp only[Sem.run_bind,hux,huy,Result.andThen_ok,hrun]
        cases b1 with
        | false=>
         simp only[hkey,Option.some.injEq]at hs
         subst hs
         simp
        | true=>
         simp only[hkey]at hs
         simp only[Bool.not_true,Bool.false_eq_true,if_false]
         exact flat_run d hx hy r (i+1) ks' b hr (by rw[hx',hy']; exact hs)
  ·cases hf
theorem isNil_slice {y:AVal} {b:Bool} (h:isNil .slice y=some b) (hy:R Φ ρ y v):∃ a n c,v=.slice a n c∧a.isNone=b:=by
 cases hy<;>simp only[isNil]at h<;>try (cases h; done)
 ·injection h with h; subst h; exact⟨_,_,_,rfl,rfl⟩
 ·rename_i a _ _ _ _ _ _ ha
  injection h with h; subst h
  refine⟨_,_,_,rfl,?_⟩
  rw[← Option.not_isSome,ha]; rfl
 ·rename_i els _ _ _ _ _ _ hne _ _ _ _ _
  have:els.isEmpty=false:=by cases els<;>simp_all
  simp only[this,Bool.false_eq_true,if_false,Option.some.injEq]at h
  subst h
  exact⟨_,_,_,rfl,rfl⟩
theorem isNil_ptr {y:AVal} {b:Bool} (h:isNil .ptr y=some b) (hy:R Φ ρ y v):∃ a,v=.pointer a∧a.isNone=b:=by
 cases hy<;>simp only[isNil]at h<;>try (cases h; done)
 all_goals (injection h with h; subst h; exact⟨_,rfl,rfl⟩)
theorem isNil_map {y:AVal} {b:Bool} (h:isNil .map y=some b) (hy:R Φ ρ y v):∃ a,v=.map a∧a.isNone=b:=by
 cases hy<;>simp only[isNil]at h<;>try (cases h; done)
 all_goals (injection h with h; subst h; exact⟨_,rfl,rfl⟩)
theorem isNil_func {y:AVal} {b:Bool} (h:isNil .func y=some b) (hy:R Φ ρ y v):(v=.nilFunc∧b=true)∨(∃ f x c,v=.func f x c∧b=false):=by
 cases hy<;>simp only[isNil]at h<;>try (cases h; done)
 ·injection h with h; subst h; exact .inr ⟨_,_,_,rfl,rfl⟩
 ·injection h with h; subst h; exact .inl ⟨rfl,rfl⟩
theorem equal_ptr {t el:TypeId} (d:Nat) (hu:P.underlying t=some (.pointer el)) (a:Option Addr):(Op.equalIn (d+1) t (.pointer a) (.pointer none)).run P w=.ok a.isNone w∧(Op.equalIn (d+1) t (.pointer none) (.pointer a)).run P w=.ok a.isNone w:=by
 cases a<;>simp[Op.equalIn,r_und hu]
theorem equal_slice {t el:TypeId} (d:Nat) (hu:P.underlying t=some (.slice el)) (a:Option Addr) (n c n' c':Nat):(Op.equalIn (d+1) t (.slice a n c) (.slice none n' c')).run P w=.ok a.isNone w∧(Op.equalIn (d+1) t (.slice none n' c') (.slice a n c)).run P w=.ok a.isNone w:=by
 cases a<;>simp[Op.equalIn,r_und hu]
theorem equal_map {t k el:TypeId} (d:Nat) (hu:P.underlying t=some (.map k el)) (a:Option Nat):(Op.equalIn (d+1) t (.map a) (.map none)).run P w=.ok a.isNone w∧(Op.equalIn (d+1) t (.map none) (.map a)).run P w=.ok a.isNone w:=by
 cases a<;>simp[Op.equalIn,r_und hu]
theorem equal_func {t:TypeId} {a1 a2:Array TypeId} {a3:Bool} (d:Nat) (hu:P.underlying t=some (.func a1 a2 a3)) (f:Fn) (x c:Array Value):(Op.equalIn (d+1) t .nilFunc .nilFunc).run P w=.ok true w∧(Op.equalIn (d+1) t (.func f x c) .nilFunc).run P w=.ok false w∧(Op.equalIn (d+1) t .nilFunc (.func f x c)).run P w=.ok false w:=by
 simp[Op.equalIn,r_und hu]
theorem eqNil_spec {e:EqT} {y z:AVal} {b:Bool} (h:eqNil e y z=some b):(isNil e z=some true∧isNil e y=some b)∨(isNil e y=some true∧isNil e z=some b):=by
 unfold eqNil at h
 split at h
 ·rename_i h1; exact .inl ⟨h1,h⟩
 ·split at h
  ·rename_i h1; exact .inr ⟨h1,h⟩
  ·cases h
theorem eqA_run {op:BinOp} {t:TypeId} {e:EqT} {y z:AVal} {vy vz:Value} {b:Bool} {ox oy:Operand} (he:cEq P t=some e) (h:eqA e y z=some b) (hy:R Φ ρ y vy) (hz:R Φ ρ z vz) :
 (eqGuard op t ox oy vy vz).run P w=.ok () w∧(Op.equal t vy vz).run P w=.ok b w∧(∀ k n,vy≠.int k n)∧(∀ s,vy≠.string s)∧(∀ k n,vz≠.int k n):=by
 unfold cEq at he
 cases hu:P.underlying t with
 | none=>simp[hu]at he
 | some ty=>
  cases ty<;>simp only[hu]at he<;>first|(cases he; done)|skip
  case bool=>
   injection he with he; subst he
   simp only[eqA]at h
   split at h
   ·injection h with h; subst h
    rw[bool_R hy,bool_R hz]
    exact⟨by cases op<;>rfl,run_equal_bool w t _ _ hu,by simp,by simp,by simp⟩
   ·cases h
  case int k=>injection he with he; subst he; simp[eqA]at h
  case string=>injection he with he; subst he; simp[eqA]at h
  case pointer el=>
   injection he with he; subst he
   rcases eqNil_spec h with⟨h1,h2⟩|⟨h1,h2⟩
   ·obtain⟨a2,rfl,hn2⟩:=isNil_ptr h1 hz
    obtain⟨a1,rfl,hn1⟩:=isNil_ptr h2 hy
    obtain rfl:a2=none:=by simpa using hn2
    subst hn1
    exact⟨by cases op<;>rfl,(equal_ptr 9999 hu _).1,by simp,by simp,by simp⟩
   ·obtain⟨a2,rfl,hn2⟩:=isNil_ptr h2 hz
    obtain⟨a1,rfl,hn1⟩:=isNil_ptr h1 hy
    obtain rfl:a1=none:=by simpa using hn1
    subst hn2
    exact⟨by cases op<;>rfl,(equal_ptr 9999 hu _).2,by simp,by simp,by simp⟩
  case slice el=>
   injection he with he; subst he
   rcases eqNil_spec h with⟨h1,h2⟩|⟨h1,h2⟩
   ·obtain⟨a2,n2,c2,rfl,hn2⟩:=isNil_slice h1 hz
    obtain⟨a1,n1,c1,rfl,hn1⟩:=isNil_slice h2 hy
    obtain rfl:a2=none:=by simpa using hn2
    subst hn1
    exact⟨by cases op<;>rfl,(equal_slice 9999 hu _ _ _ _ _).1,by simp,by simp,by simp⟩
   ·obtain⟨a2,n2,c2,rfl,hn2⟩:=isNil_slice h2 hz
    obtain⟨a1,n1,c1,rfl,hn1⟩:=isNil_slice h1 hy
    obtain rfl:a1=none:=by simpa using hn1
    subst hn2
    exact⟨by cases op<;>rfl,(equal_slice 9999 hu _ _ _ _ _).2,by simp,by simp,by simp⟩
  case map el e2=>
   injection he with he; subst he
   rcases eqNil_spec h with⟨h1,h2⟩|⟨h1,h2⟩
   ·obtain⟨a2,rfl,hn2⟩:=isNil_map h1 hz
    obtain⟨a1,rfl,hn1⟩:=isNil_map h2 hy
    obtain rfl:a2=none:=by simpa using hn2
    subst hn1
    exact⟨by cases op<;>rfl,(equal_map 9999 hu _).1,by simp,by simp,by simp⟩
   ·obtain⟨a2,rfl,hn2⟩:=isNil_map h2 hz
    obtain⟨a1,rfl,hn1⟩:=isNil_map h1 hy
    obtain rfl:a1=none:=by simpa using hn1
    subst hn2
    exact⟨by cases op<;>rfl,(equal_map 9999 hu _).2,by simp,by simp,by simp⟩
  case func a1 a2 a3=>
   injection he with he; subst he
   rcases eqNil_spec h with⟨h1,h2⟩|⟨h1,h2⟩
   ·rcases isNil_func h1 hz with⟨rfl,_⟩|⟨f,x,c,rfl,hb⟩
    ·rcases isNil_func h2 hy with⟨rfl,rfl⟩|⟨f,x,c,rfl,rfl⟩
     ·exact⟨by cases op<;>rfl,(equal_func 9999 hu (.func 0) #[] #[]).1,by simp,by simp,by simp⟩
     ·exact⟨by cases op<;>rfl,(equal_func 9999 hu _ _ _).2.1,by simp,by simp,by simp⟩
    ·cases hb
   ·rcases isNil_func h1 hy with⟨rfl,_⟩|⟨f,x,c,rfl,hb⟩
    ·rcases isNil_func h2 hz with⟨rfl,rfl⟩|⟨f,x,c,rfl,rfl⟩
     ·exact⟨by cases op<;>rfl,(equal_func 9999 hu (.func 0) #[] #[]).1,by simp,by simp,by simp⟩
     ·exact⟨by cases op<;>rfl,(equal_func 9999 hu _ _ _).2.2,by simp,by simp,by simp⟩
    ·cases hb
  case struct fs=>
   split at he
   ·cases he
   ·rename_i hcond
    simp only[Bool.or_eq_true,not_or,Bool.not_eq_true]at hcond
    cases hf:flatFields P fs.toList 0 with
    | none=>simp[hf]at he
    | some ks=>
     simp only[hf,Option.some.injEq]at he
     subst he
     simp only[eqA]at h
     split at h
     ·rename_i xs ys
      obtain⟨vx,rfl,hx⟩:=agg_R hy
      obtain⟨vy,rfl,hyy⟩:=agg_R hz
      refine⟨run_eqGuard_agg w op t ox oy vx vy hcond.2,?_,by simp,by simp,by simp⟩
      have hfo:P.fieldsOf t=fs:=by simp[Program.fieldsOf,hu]
      have:=run_equalIn_struct (P:=P) w 9999 t vx vy (by rw[hfo]; exact hu) hcond.1
      rw[Op.equal,Op.maxDepth,this,hfo]
      exact flat_run 9998 hx hyy fs.toList 0 ks b hf (by simpa using h)
     ·cases h
end
end Go.AE
