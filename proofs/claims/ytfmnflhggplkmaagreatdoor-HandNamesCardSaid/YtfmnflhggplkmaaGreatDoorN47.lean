/- Part 47 of the proof: Ic. -/
import Derived.Test.YtfmnflhggplkmaaGreatDoorN46
set_option linter.all false
namespace Go.Known
open Go.Plain
open Go.Lib (itoa decDigits)
theorem dec_mem (u:Nat):∀ b,b∈decDigits u→48≤b.toNat∧b.toNat≤57:=by
 induction u using Nat.strongRecOn with
 | ind u ih=>
  intro b hb
  by_cases h:u<10
  ·rw[dec_lt h,List.mem_singleton]at hb
   subst hb
   rw[UInt8.toNat_ofNat']
   omega
  ·rw[dec_ge h,List.mem_append,List.mem_singleton]at hb
   rcases hb with hb|rfl
   ·exact ih _ (by omega) b hb
   ·rw[UInt8.toNat_ofNat']
    omega
theorem dec_ne (u:Nat):decDigits u≠[]:=by
 by_cases h:u<10
 ·rw[dec_lt h]; simp
 ·rw[dec_ge h]; simp
theorem byte_inj {a b:Nat} (ha:a<10) (hb:b<10) (h:UInt8.ofNat (48+a)=UInt8.ofNat (48+b)):a=b:=by
 have:=congrArg UInt8.toNat h
 rw[UInt8.toNat_ofNat',UInt8.toNat_ofNat']at this
 omega
theorem dec_inj (u:Nat):∀ v,decDigits u=decDigits v→u=v:=by
 induction u using Nat.strongRecOn with
 | ind u ih=>
  intro v h
  by_cases hu:u<10
  ·by_cases hv:v<10
   ·rw[dec_lt hu,dec_lt hv]at h
    exact byte_inj hu hv (by simpa using h)
   ·rw[dec_lt hu,dec_ge hv]at h
    have:=congrArg List.length h
    have h2:=List.length_pos_iff.2 (dec_ne (v / 10))
    simp at this
    exact absurd this (dec_ne _)
  ·by_cases hv:v<10
   ·rw[dec_ge hu,dec_lt hv]at h
    have:=congrArg List.length h
    simp at this
    exact absurd this (dec_ne _)
   ·rw[dec_ge hu,dec_ge hv]at h
    obtain⟨h1,h2⟩:=List.append_inj' h rfl
    have e1:=ih _ (by omega) _ h1
    have e2:=byte_inj (Nat.mod_lt u (by omega)) (Nat.mod_lt v (by omega)) (by simpa using h2)
    omega
theorem itoa_mem {n:Int} {b:UInt8} (hb:b∈itoa n):b≠76∧b≠82:=by
 have key:∀ u,b∈decDigits u→b≠76∧b≠82:=fun u h=>by
  have:=dec_mem u b h
  exact⟨fun e=>by subst e; exact absurd this.2 (by decide),fun e=>by subst e; exact absurd this.2 (by decide)⟩
 unfold itoa at hb
 split at hb
 ·simp only[List.mem_cons]at hb
  rcases hb with rfl|hb
  ·exact⟨by decide,by decide⟩
  ·exact key _ hb
 ·exact key _ hb
theorem itoa_ne (n:Int):itoa n≠[]:=by
 unfold itoa
 split
 ·simp
 ·exact dec_ne _
theorem itoa_inj {m n:Int} (h:itoa m=itoa n):m=n:=by
 unfold itoa at h
 have hh:∀ u v,(45:UInt8) :: decDigits u≠decDigits v:=fun u v e=>by
  have:=dec_mem v 45 (by rw[← e]; simp)
  exact absurd this.1 (by decide)
 by_cases h1:m<0
 ·by_cases h2:n<0
  ·rw[if_pos h1,if_pos h2]at h
   have:=dec_inj _ _ (by simpa using h)
   omega
  ·rw[if_pos h1,if_neg h2]at h
   exact absurd h (hh _ _)
 ·by_cases h2:n<0
  ·rw[if_neg h1,if_pos h2]at h
   exact absurd h.symm (hh _ _)
  ·rw[if_neg h1,if_neg h2]at h
   have:=dec_inj _ _ h
   omega
theorem split_at:∀ {A A' B B':List UInt8} {c c':UInt8},(∀ b,b∈A→b≠76∧b≠82)→(∀ b,b∈A'→b≠76∧b≠82)→(c=76∨c=82)→(c'=76∨c'=82)→A++c :: B=A'++c' :: B'→A=A'∧c=c'∧B=B'
 | [],[],B,B',c,c',_,_,_,_,h=>by
  simp only[List.nil_append,List.cons.injEq]at h
  exact⟨rfl,h.1,h.2⟩
 | [],y :: r,B,B',c,c',_,h2,h3,_,h=>by
  simp only[List.nil_append,List.cons_append,List.cons.injEq]at h
  have:=h2 y (by simp)
  rw[← h.1]at this
  rcases h3 with e|e
  ·exact absurd e this.1
  ·exact absurd e this.2
 | x :: r,[],B,B',c,c',h1,_,_,h4,h=>by
  simp only[List.nil_append,List.cons_append,List.cons.injEq]at h
  have:=h1 x (by simp)
  rw[h.1]at this
  rcases h4 with e|e
  ·exact absurd e this.1
  ·exact absurd e this.2
 | x :: r,y :: s,B,B',c,c',h1,h2,h3,h4,h=>by
  simp only[List.cons_append,List.cons.injEq]at h
  obtain⟨e1,e2,e3⟩:=split_at (fun b hb=>h1 b (List.mem_cons_of_mem _ hb)) (fun b hb=>h2 b (List.mem_cons_of_mem _ hb)) h3 h4 h.2
  exact⟨by rw[h.1,e1],e2,e3⟩
theorem name_inj {x y:Fg} (h:nameS x=nameS y):x=y:=by
 obtain⟨xp,xr,xd⟩:=x
 obtain⟨yp,yr,yd⟩:=y
 have hA:∀ p:Int,∀ b,b∈(if p=1 then []else itoa p)→b≠76∧b≠82:=fun p b hb=>by
  split at hb
  ·simp at hb
  ·exact itoa_mem hb
 have hc:∀ (r:Bool) (l:List UInt8),(if r then [82]else [76])++l=(if r then (82:UInt8)else 76) :: l:=fun r l=>by cases r<;>rfl
 have hc2:∀ r:Bool,(if r then (82:UInt8)else 76)=76∨(if r then (82:UInt8)else 76)=82:=fun r=>by cases r<;>simp
 unfold nameS at h
 simp only[hc]at h
 obtain⟨e1,e2,e3⟩:=split_at (hA xp) (hA yp) (hc2 xr) (hc2 yr) h
 have hd:=itoa_inj e3
 have hr:xr=yr:=by cases xr<;>cases yr<;>simp at e2<;>rfl
 have hp:xp=yp:=by
  by_cases h1:xp=1
  ·by_cases h2:yp=1
   ·rw[h1,h2]
   ·rw[if_pos h1,if_neg h2]at e1
    exact absurd e1.symm (itoa_ne _)
  ·by_cases h2:yp=1
   ·rw[if_neg h1,if_pos h2]at e1
    exact absurd e1 (itoa_ne _)
   ·rw[if_neg h1,if_neg h2]at e1
    exact itoa_inj e1
 rw[hp,hr,hd]
def candAt (k:Nat):Fg:=⟨((k / 14+1:Nat):Int),decide (k % 2=1),((k % 14 / 2:Nat):Int)⟩
def PN (s:List UInt8):Option Fg:=((List.range 126).find? fun k=>decide (nameS (candAt k)=s)).map candAt
theorem PN_some {s:List UInt8} {k:Nat} (hk:k<126) (hs:nameS (candAt k)=s) (hn:∀ j,j<k→nameS (candAt j)≠s):PN s=some (candAt k):=by
 unfold PN
 have:(List.range 126).find? (fun k=>decide (nameS (candAt k)=s))=some k:=by
  rw[List.find?_range_eq_some]
  exact⟨by simpa using hs,List.mem_range.2 hk,fun j hj=>by simpa using hn j hj⟩
 rw[this]
 rfl
theorem PN_none {s:List UInt8} (hn:∀ j,j<126→nameS (candAt j)≠s):PN s=none:=by
 unfold PN
 have:(List.range 126).find? (fun k=>decide (nameS (candAt k)=s))=none:=by
  rw[List.find?_eq_none]
  intro j hj
  simpa using hn j (List.mem_range.1 hj)
 rw[this]
 rfl
theorem cand_good {k:Nat} (hk:k<126):ThereP (candAt k):=by
 unfold ThereP candAt
 simp only
 omega
theorem good_cand {x:Fg} (h:ThereP x):∃ k,k<126∧candAt k=x:=by
 obtain⟨p,r,d⟩:=x
 obtain⟨h1,h2,h3,h4⟩:=h
 simp only at h1 h2 h3 h4
 refine⟨14*(p.toNat - 1)+2*d.toNat+(if r then 1 else 0),by split<;>omega,?_⟩
 unfold candAt
 cases r with
 | true=>
  rw[if_pos rfl]
  simp only[Fg.mk.injEq,decide_eq_true_eq]
  refine⟨by omega,by omega,by omega⟩
 | false=>
  rw[if_neg (by simp)]
  simp only[Fg.mk.injEq,decide_eq_false_iff_not]
  refine⟨by omega,by omega,by omega⟩
theorem PN_name (x:Fg):PN (nameS x)=if ThereP x then some x else none:=by
 by_cases h:ThereP x
 ·rw[if_pos h]
  obtain⟨k,hk,rfl⟩:=good_cand h
  unfold PN
  cases hf:(List.range 126).find? (fun j=>decide (nameS (candAt j)=nameS (candAt k)))with
  | none=>
   rw[List.find?_eq_none]at hf
   exact absurd (hf k (List.mem_range.2 hk)) (by simp)
  | some j=>
   have:=List.find?_some hf
   simp only[decide_eq_true_eq]at this
   simp only[Option.map_some]
   rw[name_inj this]
 ·rw[if_neg h]
  refine PN_none fun j hj e=>h ?_
  rw[← name_inj e]
  exact cand_good hj
end Go.Known
