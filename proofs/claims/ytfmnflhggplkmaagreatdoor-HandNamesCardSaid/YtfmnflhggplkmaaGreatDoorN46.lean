/- Part 46 of the proof: Ib. -/
import Derived.Test.YtfmnflhggplkmaaGreatDoorN45
import Derived.Lib.ItoaMem
import Derived.Lib.ItoaLen
set_option linter.all false
namespace Go.Known
open Go Go.AE Go.Proofs
open Go.Plain
open Go.Lib (itoa decDigits)
theorem num_runs:((List.range 10).all fun g=>okRun ⟨51,[.int .i64 (g:Nat)],.str [UInt8.ofNat (48+g)]⟩)=true:=by kernel_rfl
theorem num_min:okRun ⟨51,[.int .i64 (-9223372036854775808)],.str [45,57,50,50,51,51,55,50,48,51,54,56,53,52,55,55,53,56,48,56]⟩=true:=by kernel_rfl
theorem cat_str (e:EqT) {a b:List UInt8} (h1:a.length≤1000) (h2:b.length≤1000):binA .add e (.str a) (.str b)=some (.str (a++b)):=by
 have:a.length+b.length≤1099511627776:=by omega
 simp[binA,binStr,this]
theorem dec_len {u:Nat} (h:u<9223372036854775808):(decDigits u).length≤21:=by
 rw[← Lib.itoa_nonneg]
 exact Lib.itoa_length_le _ (by omega) (by omega)
theorem dec_lt {u:Nat} (h:u<10):decDigits u=[UInt8.ofNat (48+u)]:=by rw[decDigits,dif_pos h]
theorem dec_ge {u:Nat} (h:¬u<10):decDigits u=decDigits (u / 10)++[UInt8.ofNat (48+u % 10)]:=by rw[decDigits,dif_neg h]
theorem cDec (u:Nat) (hu:u<9223372036854775808):PCall Tryz.prog 51 [.int .i64 u] (.str (decDigits u)):=by
 induction u using Nat.strongRecOn with
 | ind u ih=>
  by_cases h10:u<10
  ·rw[dec_lt h10]
   exact known_of (l:=[]) trivial ⟨51,[.int .i64 (u:Nat)],.str [UInt8.ofNat (48+u)]⟩ (List.all_eq_true.1 num_runs u (List.mem_range.2 h10))
  ·have h1:=ih (u / 10) (by omega) (by omega)
   have h2:=ih (u % 10) (by omega) (by omega)
   rw[dec_lt (show u % 10<10 by omega)]at h2
   rw[dec_ge h10]
   refine PCall_1 hm Tryz.func51 cf93 rfl rfl rfl trivial fun K hK=>?_
   have c1:¬(u:Int)<0:=by omega
   have c2:¬(u:Int)<10:=by omega
   have q1:(u:Int).tdiv 10=((u / 10:Nat):Int):=rfl
   have q2:(u:Int).tmod 10=((u % 10:Nat):Int):=rfl
   have w1:IntKind.i64.wrap ((u / 10:Nat):Int)=((u / 10:Nat):Int):=wrap64 (by omega) (by omega)
   have l1:(decDigits (u / 10)).length≤1000:=by have:=dec_len (u:=u / 10) (by omega); omega
   have l2:[UInt8.ofNat (48+u % 10)].length≤1000:=by simp
   generalize [UInt8.ofNat (48+u % 10)]=C at *
   generalize decDigits (u / 10)=D at *
   generalize hA:((u / 10:Nat):Int)=A at *
   generalize hB:((u % 10:Nat):Int)=B at *
   simp[c1,c2,h10,q1,q2,w1]
   refine SC_pure h1 ?_
   simp[c1,c2,h10,q1,q2,w1]
   refine SC_pure h2 ?_
   simp[cat_str,l1,l2]
   exact endK hK [] (by simp)
theorem itoa_min:itoa (-9223372036854775808)=[45,57,50,50,51,51,55,50,48,51,54,56,53,52,55,55,53,56,48,56]:=by
 have:=Lib.itoa_neg 9223372036854775808 (by decide)
 rw[show (-9223372036854775808:Int) = -((9223372036854775808:Nat):Int) by decide,this]
 simp[decDigits]
theorem cNumI (n:Int) (h0 : -9223372036854775808≤n) (h1:n≤9223372036854775807):PCall Tryz.prog 51 [.int .i64 n] (.str (itoa n)):=by
 by_cases hn:n<0
 ·by_cases hm':n = -9223372036854775808
  ·subst hm'
   rw[itoa_min]
   exact known_of (l:=[]) trivial ⟨51,[.int .i64 (-9223372036854775808)],_⟩ num_min
  ·obtain⟨u,rfl⟩:∃ u:Nat,n = -(u:Int):=⟨n.natAbs,by omega⟩
   rw[Lib.itoa_neg u (by omega)]
   have hd:=cDec u (by omega)
   refine PCall_1 hm Tryz.func51 cf93 rfl rfl rfl trivial fun K hK=>?_
   have w1:IntKind.i64.wrap (u:Int)=(u:Int):=wrap64 (by omega) (by omega)
   have c1:0<u:=by omega
   have c2:(0:Int)<(u:Int):=by omega
   have c3:¬ -(u:Int)=(u:Int):=by omega
   have l1:(decDigits u).length≤1000:=by have:=dec_len (u:=u) (by omega); omega
   simp[hn,w1,c1,c2,c3]
   refine SC_pure hd ?_
   simp[cat_str,l1]
   exact endK hK [] (by simp)
 ·obtain⟨u,rfl⟩:∃ u:Nat,n=(u:Int):=⟨n.toNat,by omega⟩
  rw[Lib.itoa_nonneg]
  exact cDec u (by omega)
theorem cNumberN (n:Int) (h0 : -9223372036854775808≤n) (h1:n≤9223372036854775807):PCall Tryz.prog 36 [.int .i64 n] (.str (itoa n)):=by
 have h:=cNumI n h0 h1
 refine PCall_1 hm Tryz.func36 cf53 rfl rfl rfl trivial fun K hK=>?_
 simp
 refine SC_pure h ?_
 simp
 exact endK hK [] (by simp)
def Fg64 (x:Fg):Prop:=-9223372036854775808≤x.p∧x.p≤9223372036854775807 ∧ -9223372036854775808≤x.d∧x.d≤9223372036854775807
def nameS (x:Fg):List UInt8:=(if x.p=1 then []else itoa x.p)++((if x.r then [82]else [76])++itoa x.d)
theorem cNameP (x:Fg) (h:Fg64 x):PCall Tryz.prog 17 [.agg (rowG x)] (.str (nameS x)):=by
 obtain⟨a1,a2,a3,a4⟩:=h
 refine PCall_1 hm Tryz.func17 cq17 rfl rfl (by simp[closedL,AVal.closed,rowG]) trivial fun K hK=>?_
 have hp:=cItoaN x.p a1 a2
 have hd:=cItoaN x.d a3 a4
 have l1:(itoa x.p).length≤1000:=by have:=Lib.itoa_length_le x.p a1 a2; omega
 have l2:(itoa x.p).length≤999:=by have:=Lib.itoa_length_le x.p a1 a2; omega
 have l3:(itoa x.d).length≤1000:=by have:=Lib.itoa_length_le x.d a3 a4; omega
 unfold nameS at hK
 unfold rowG
 by_cases h1:x.p=1
 ·rw[if_pos h1]at hK
  cases hr:x.r with
  | true=>
   rw[hr]at hK
   simp at hK
   simp[h1,cat_str,l1,l2,l3]
   refine SC_pure hd ?_
   simp[cat_str,l1,l2,l3]
   exact endK hK [] (by simp)
  | false=>
   rw[hr]at hK
   simp at hK
   simp[h1,cat_str,l1,l2,l3]
   refine SC_pure hd ?_
   simp[cat_str,l1,l2,l3]
   exact endK hK [] (by simp)
 ·rw[if_neg h1]at hK
  cases hr:x.r with
  | true=>
   rw[hr]at hK
   simp at hK
   simp[h1,cat_str,l1,l2,l3]
   refine SC_pure hp ?_
   simp[cat_str,l1,l2,l3]
   refine SC_pure hd ?_
   simp[cat_str,l1,l2,l3]
   exact endK hK [] (by simp)
  | false=>
   rw[hr]at hK
   simp at hK
   simp[h1,cat_str,l1,l2,l3]
   refine SC_pure hp ?_
   simp[cat_str,l1,l2,l3]
   refine SC_pure hd ?_
   simp[cat_str,l1,l2,l3]
   exact endK hK [] (by simp)
theorem cNameR (x:Fg) (h:Fg64 x):PCall Tryz.prog 18 [.agg (rowG x)] (.str (nameS x)):=by
 obtain⟨a1,a2,a3,a4⟩:=h
 refine PCall_1 hm Tryz.func18 chRName rfl rfl (by simp[closedL,AVal.closed,rowG]) trivial fun K hK=>?_
 have hp:=cNumberN x.p a1 a2
 have hd:=cNumberN x.d a3 a4
 have l1:(itoa x.p).length≤1000:=by have:=Lib.itoa_length_le x.p a1 a2; omega
 have l2:(itoa x.p).length≤999:=by have:=Lib.itoa_length_le x.p a1 a2; omega
 have l3:(itoa x.d).length≤1000:=by have:=Lib.itoa_length_le x.d a3 a4; omega
 unfold nameS at hK
 unfold rowG
 by_cases h1:x.p=1
 ·rw[if_pos h1]at hK
  cases hr:x.r with
  | true=>
   rw[hr]at hK
   simp at hK
   simp[h1,cat_str,l1,l2,l3]
   refine SC_pure hd ?_
   simp[cat_str,l1,l2,l3]
   exact endK hK [] (by simp)
  | false=>
   rw[hr]at hK
   simp at hK
   simp[h1,cat_str,l1,l2,l3]
   refine SC_pure hd ?_
   simp[cat_str,l1,l2,l3]
   exact endK hK [] (by simp)
 ·rw[if_neg h1]at hK
  cases hr:x.r with
  | true=>
   rw[hr]at hK
   simp at hK
   simp[h1,cat_str,l1,l2,l3]
   refine SC_pure hp ?_
   simp[cat_str,l1,l2,l3]
   refine SC_pure hd ?_
   simp[cat_str,l1,l2,l3]
   exact endK hK [] (by simp)
  | false=>
   rw[hr]at hK
   simp at hK
   simp[h1,cat_str,l1,l2,l3]
   refine SC_pure hp ?_
   simp[cat_str,l1,l2,l3]
   refine SC_pure hd ?_
   simp[cat_str,l1,l2,l3]
   exact endK hK [] (by simp)
end Go.Known
