/- Part 11 of the proof: Pb. -/
import Derived.Test.YtipeejpafgnjdaaGreatDoorG9
set_option linter.all false
namespace Go.Plain
theorem Zem (p:Lt→Bool) (a b:List Lt):cntP p (a++b)=cntP p a+cntP p b:=by simp[cntP]
theorem Zif (p:Lt→Bool) (l:Lt) (b:List Lt):cntP p (l :: b)=(if p l then 1 else 0)+cntP p b:=by
 simp only[cntP,List.filter_cons]
 split<;>simp<;>omega
theorem Zja (p q:Lt→Bool) (ls:List Lt):cntP p ls=cntP (fun l=>p l&&q l) ls+cntP (fun l=>p l && !q l) ls:=by
 induction ls with
 | nil=>rfl
 | cons l r ih=>
  simp only[Zif,ih]
  cases p l<;>cases q l<;>simp<;>omega
theorem Zbl {p q:Lt→Bool} {ls:List Lt} (h:∀ l,l∈ls→p l=q l):cntP p ls=cntP q ls:=by
 unfold cntP
 rw[List.filter_congr h]
theorem Za4 {p:Lt→Bool} {ls:List Lt}:cntP p ls≤ls.length:=List.length_filter_le _ _
theorem Zph {ls:List Lt} {q:Lt→Bool} (h1:∀ l,l∈ls→q l=true→1≤l.r∧l.r≤(cntP q ls:Nat)) (h2:∀ t:Int,cntP (fun l=>q l&&l.r == t) ls≤1) :
 ∀ t:Nat,t≤cntP q ls→cntP (fun l=>q l&&decide (l.r≤(t:Int))) ls=t:=by
 have step:∀ t:Nat,cntP (fun l=>q l&&decide (l.r≤((t+1:Nat):Int))) ls≤cntP (fun l=>q l&&decide (l.r≤(t:Int))) ls+1:=by
  intro t
  rw[Zja (fun l=>q l&&decide (l.r≤((t+1:Nat):Int))) (fun l=>decide (l.r≤(t:Int)))]
  have e1:cntP (fun l=>q l&&decide (l.r≤((t+1:Nat):Int))&&decide (l.r≤(t:Int))) ls=cntP (fun l=>q l&&decide (l.r≤(t:Int))) ls:=by
   apply Zbl
   intro l _
   cases q l with
   | false=>simp
   | true=>rw[Bool.eq_iff_iff]; simp; omega
  have e2:cntP (fun l=>q l&&decide (l.r≤((t+1:Nat):Int)) && !decide (l.r≤(t:Int))) ls=cntP (fun l=>q l&&l.r == ((t+1:Nat):Int)) ls:=by
   apply Zbl
   intro l _
   cases q l with
   | false=>simp
   | true=>rw[Bool.eq_iff_iff]; simp; omega
  have:=h2 ((t+1:Nat):Int)
  omega
 have zero:cntP (fun l=>q l&&decide (l.r≤((0:Nat):Int))) ls=0:=by
  unfold cntP
  rw[List.length_eq_zero_iff,List.filter_eq_nil_iff]
  intro l hl
  simp only[Bool.and_eq_true,decide_eq_true_eq,not_and]
  intro hq
  have:=(h1 l hl hq).1
  omega
 have full:cntP (fun l=>q l&&decide (l.r≤((cntP q ls:Nat):Int))) ls=cntP q ls:=by
  apply Zbl
  intro l hl
  cases hq:q l with
  | false=>rfl
  | true=>simp[(h1 l hl hq).2]
 have up:∀ t:Nat,cntP (fun l=>q l&&decide (l.r≤(t:Int))) ls≤t:=by
  intro t
  induction t with
  | zero=>omega
  | succ t ih=>have:=step t; omega
 have down:∀ k t:Nat,t+k=cntP q ls→cntP q ls≤cntP (fun l=>q l&&decide (l.r≤(t:Int))) ls+k:=by
  intro k
  induction k with
  | zero=>intro t ht; rw[Nat.add_zero]at ht; subst ht; omega
  | succ k ih=>
   intro t ht
   have h1:=ih (t+1) (by omega)
   have h2:=step t
   omega
 intro t ht
 have h1:=up t
 have h2:=down (cntP q ls - t) t (by omega)
 omega
def Zci (a b:Lt):Bool:=decide (a.g<b.g)||(a.g == b.g&&decide (a.r<b.r))
theorem Zs7 (a:Lt):Zci a a=false:=by simp[Zci]
theorem Zo6 {a b:Lt} (h:Zci a b=true):Zci b a=false:=by
 simp only[Zci,Bool.or_eq_true,Bool.and_eq_true,decide_eq_true_eq,beq_iff_eq,Bool.or_eq_false_iff,Bool.and_eq_false_iff,decide_eq_false_iff_not,beq_eq_false_iff_ne]at *
 omega
theorem Zox {a b:Lt} (h:¬(a.g=b.g∧a.r=b.r)):Zci a b=true∨Zci b a=true:=by
 simp only[Zci,Bool.or_eq_true,Bool.and_eq_true,decide_eq_true_eq,beq_iff_eq]
 omega
theorem Zve {a b c:Lt} (h:Zci a b=true) (h':Zci b c=true):Zci a c=true:=by
 simp only[Zci,Bool.or_eq_true,Bool.and_eq_true,decide_eq_true_eq,beq_iff_eq]at *
 omega
def at' (ls:List Lt) (i:Nat):Lt:=ls.getD i default
def ins (ls:List Lt) (i:Nat):List Nat→List Nat
 | []=>[i]
 | j :: r=>if Zci (at' ls j) (at' ls i)then j :: ins ls i r else i :: j :: r
def Zfh (ls:List Lt):Nat→List Nat
 | 0=>[]
 | k+1=>if isP (at' ls k)then ins ls k (Zfh ls k)else Zfh ls k
def axis (ls:List Lt):List Nat:=Zfh ls ls.length
theorem Znw (ls:List Lt) (i:Nat):∀ (l:List Nat),(ins ls i l).Perm (i :: l)
 | []=>List.Perm.refl _
 | j :: r=>by
  simp only[ins]
  split
  ·exact((Znw ls i r).cons j).trans (List.Perm.swap i j r)
  ·exact List.Perm.refl _
theorem Zcu (ls:List Lt):∀ k,(Zfh ls k).Perm ((List.range k).filter fun j=>isP (at' ls j))
 | 0=>List.Perm.refl _
 | k+1=>by
  rw[List.range_succ,List.filter_append]
  simp only[Zfh,List.filter_cons,List.filter_nil]
  split
  ·exact((Znw ls k _).trans ((Zcu ls k).cons k)).trans (List.perm_append_comm (l₁:=[k]))
  ·simpa using Zcu ls k
theorem Z3q (ls:List Lt):(List.range ls.length).map (at' ls)=ls:=by
 apply List.ext_getElem?
 intro i
 rw[List.getElem?_map]
 by_cases h:i<ls.length
 ·simp[h,at']
 ·simp[h]
theorem Zgh (ls:List Lt) (p:Lt→Bool):((List.range ls.length).filter fun j=>p (at' ls j)).length=cntP p ls:=by
 have h:(((List.range ls.length).map (at' ls)).filter p).length=((List.range ls.length).filter fun j=>p (at' ls j)).length:=by
  rw[List.filter_map,List.length_map]; rfl
 rw[← h,Z3q]
 rfl
theorem Zas (ls:List Lt):(axis ls).length=Zaa ls:=by
 rw[axis,(Zcu ls _).length_eq,Zgh]; rfl
theorem mem_axis {ls:List Lt} {j:Nat}:j∈axis ls↔j<ls.length∧isP (at' ls j)=true:=by
 rw[axis,(Zcu ls _).mem_iff]
 simp
def Zul (ls:List Lt):Prop:=∀ i j,i<ls.length→j<ls.length→isP (at' ls i)=true→isP (at' ls j)=true→(at' ls i).g=(at' ls j).g→(at' ls i).r=(at' ls j).r→i=j
theorem Zq1 {ls:List Lt} {i:Nat}:∀ {l:List Nat},l.Pairwise (fun a b=>Zci (at' ls a) (at' ls b)=true)→(∀ j,j∈l→Zci (at' ls j) (at' ls i)=true∨Zci (at' ls i) (at' ls j)=true) →
 (ins ls i l).Pairwise (fun a b=>Zci (at' ls a) (at' ls b)=true)
 | [],_,_=>List.pairwise_singleton _ _
 | j :: r,h,ht=>by
  rw[List.pairwise_cons]at h
  simp only[ins]
  split
  ·rename_i hlt
   rw[List.pairwise_cons]
   refine⟨fun x hx=>?_,Zq1 h.2 fun k hk=>ht k (List.mem_cons_of_mem _ hk)⟩
   have:=(Znw ls i r).mem_iff.1 hx
   rcases List.mem_cons.1 this with rfl|hx
   ·exact hlt
   ·exact h.1 x hx
  ·rename_i hlt
   have hij:Zci (at' ls i) (at' ls j)=true:=(ht j (List.mem_cons_self ..)).resolve_left hlt
   rw[List.pairwise_cons,List.pairwise_cons]
   refine⟨fun x hx=>?_,h.1,h.2⟩
   rcases List.mem_cons.1 hx with rfl|hx
   ·exact hij
   ·exact Zve hij (h.1 x hx)
theorem Zgb {ls:List Lt} (ha:Zul ls):∀ k,k≤ls.length→(Zfh ls k).Pairwise (fun a b=>Zci (at' ls a) (at' ls b)=true)
 | 0,_=>List.Pairwise.nil
 | k+1,hk=>by
  simp only[Zfh]
  split
  ·rename_i hp
   refine Zq1 (Zgb ha k (by omega)) fun j hj=>?_
   have:=(Zcu ls k).mem_iff.1 hj
   simp only[List.mem_filter,List.mem_range]at this
   apply Zox
   rintro⟨h1,h2⟩
   have:=ha j k (by omega) (by omega) this.2 hp h1 h2
   omega
  ·exact Zgb ha k (by omega)
theorem Znc {ls:List Lt}:∀ {l:List Nat} {p i:Nat},l.Pairwise (fun a b=>Zci (at' ls a) (at' ls b)=true)→l[p]? = some i→(l.filter fun j=>Zci (at' ls j) (at' ls i)).length=p
 | [],p,i,_,h=>by simp at h
 | j :: r,p,i,hs,h=>by
  rw[List.pairwise_cons]at hs
  cases p with
  | zero=>
   simp only[List.getElem?_cons_zero,Option.some.injEq]at h
   subst h
   rw[List.length_eq_zero_iff,List.filter_eq_nil_iff]
   intro x hx
   rcases List.mem_cons.1 hx with rfl|hx
   ·simp[Zs7]
   ·rw[Zo6 (hs.1 x hx)]; simp
  | succ p=>
   simp only[List.getElem?_cons_succ]at h
   rw[List.filter_cons,if_pos (hs.1 i (List.mem_of_getElem? h)),List.length_cons,Znc hs.2 h]
def pos (ls:List Lt) (l:Lt):Nat:=cntP (fun o=>isP o&&decide (o.g<l.g)) ls+(l.r - 1).toNat
def Zs3 (ls:List Lt):Prop:=∀ l,l∈ls→isP l=true→1≤l.r∧l.r≤(inG l.g ls:Nat)
theorem Zcq {ls:List Lt} {i:Nat} (h:i<ls.length):at' ls i∈ls:=by
 rw[at',List.getD,List.getElem?_eq_getElem h]
 exact List.getElem_mem h
theorem Zpj {ls:List Lt} (ha:Zul ls) (g r:Int):cntP (fun l=>(isP l&&l.g == g)&&l.r == r) ls≤1:=by
 rw[← Zgh]
 have hn:((List.range ls.length).filter fun j=>(isP (at' ls j)&&(at' ls j).g == g)&&(at' ls j).r == r).Nodup:=(List.nodup_range).filter _
 rcases hl:(List.range ls.length).filter (fun j=>(isP (at' ls j)&&(at' ls j).g == g)&&(at' ls j).r == r)with _|⟨a,_|⟨b,t⟩⟩
 ·simp
 ·simp
 ·exfalso
  rw[hl]at hn
  have hma:a∈(List.range ls.length).filter (fun j=>(isP (at' ls j)&&(at' ls j).g == g)&&(at' ls j).r == r):=by rw[hl]; simp
  have hmb:b∈(List.range ls.length).filter (fun j=>(isP (at' ls j)&&(at' ls j).g == g)&&(at' ls j).r == r):=by rw[hl]; simp
  simp only[List.mem_filter,List.mem_range,Bool.and_eq_true,beq_iff_eq]at hma hmb
  have:=ha a b hma.1 hmb.1 hma.2.1.1 hmb.2.1.1 (by rw[hma.2.1.2,hmb.2.1.2]) (by rw[hma.2.2,hmb.2.2])
  subst this
  simp at hn
theorem Zwo {ls:List Lt} (ha:Zul ls) (hr:Zs3 ls) {l:Lt} (hl:l∈ls) (hp:isP l=true):cntP (fun o=>isP o&&Zci o l) ls=pos ls l:=by
 obtain⟨h1,h2⟩:=hr l hl hp
 have hb:=Zph (ls:=ls) (q:=fun o=>isP o&&o.g == l.g) (fun o ho hq=>by
  simp only[Bool.and_eq_true,beq_iff_eq]at hq
  have:=hr o ho hq.1
  rw[hq.2]at this
  exact this) (fun t=>Zpj ha l.g t) (l.r - 1).toNat (by
   have h3:((cntP (fun o=>isP o&&o.g == l.g) ls:Nat):Int)=(inG l.g ls:Nat):=rfl
   omega)
 rw[Zja (fun o=>isP o&&Zci o l) (fun o=>decide (o.g<l.g))]
 unfold pos
 congr 1
 ·apply Zbl
  intro o _
  by_cases h:o.g<l.g
  ·simp[Zci,h]
  ·simp[h]
 ·rw[← hb]
  apply Zbl
  intro o _
  by_cases hg:o.g=l.g
  ·have e:(o.r<l.r)↔(o.r≤((l.r - 1).toNat:Int)):=by omega
   simp[Zci,hg,e]
  ·by_cases h:o.g<l.g
   ·rw[Bool.eq_iff_iff]; simp[Zci,h,hg]
   ·rw[Bool.eq_iff_iff]; simp[Zci,h,hg]
theorem Zwm {ls:List Lt} (ha:Zul ls) (hr:Zs3 ls) {i:Nat} (hi:i<ls.length) (hp:isP (at' ls i)=true):(axis ls)[pos ls (at' ls i)]? = some i:=by
 have hm:i∈axis ls:=mem_axis.2 ⟨hi,hp⟩
 obtain⟨p,hpl,hpe⟩:=List.getElem_of_mem hm
 have hpe':(axis ls)[p]? = some i:=by rw[List.getElem?_eq_getElem hpl,hpe]
 have hidx:=Znc (Zgb ha _ (Nat.le_refl _)) hpe'
 have hcount:((axis ls).filter fun j=>Zci (at' ls j) (at' ls i)).length=cntP (fun o=>isP o&&Zci o (at' ls i)) ls:=by
  rw[axis,((Zcu ls ls.length).filter _).length_eq,List.filter_filter,← Zgh]
  congr 1
  apply List.filter_congr
  intro x _
  exact Bool.and_comm _ _
 have hidx':((axis ls).filter fun j=>Zci (at' ls j) (at' ls i)).length=p:=hidx
 rw[hcount,Zwo ha hr (Zcq hi) hp]at hidx'
 rw[hidx']
 exact hpe'
end Go.Plain
