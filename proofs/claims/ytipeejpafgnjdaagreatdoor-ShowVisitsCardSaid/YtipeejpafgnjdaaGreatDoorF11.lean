/- Part 11 of the proof: Pb. -/
import Derived.Test.YtipeejpafgnjdaaGreatDoorF9
set_option linter.all false
namespace Go.Plain
theorem cntP_append (p:Lt→Bool) (a b:List Lt):cntP p (a++b)=cntP p a+cntP p b:=by simp [cntP]
theorem cntP_cons (p:Lt→Bool) (l:Lt) (b:List Lt):cntP p (l :: b)=(if p l then 1 else 0)+cntP p b:=by
 simp only [cntP,List.filter_cons]
 split<;>simp<;>omega
theorem cntP_split (p q:Lt→Bool) (ls:List Lt):cntP p ls=cntP (fun l=>p l&&q l) ls+cntP (fun l=>p l && !q l) ls:=by
 induction ls with
 | nil=>rfl
 | cons l r ih=>
  simp only [cntP_cons,ih]
  cases p l<;>cases q l<;>simp<;>omega
theorem cntP_congr {p q:Lt→Bool} {ls:List Lt} (h:∀ l,l∈ls→p l=q l):cntP p ls=cntP q ls:=by
 unfold cntP
 rw [List.filter_congr h]
theorem cntP_le_one {p:Lt→Bool} {ls:List Lt}:cntP p ls≤ls.length:=List.length_filter_le _ _
theorem ranks_below {ls:List Lt} {q:Lt→Bool} (h1:∀ l,l∈ls→q l=true→1≤l.r∧l.r≤(cntP q ls:Nat)) (h2:∀ t:Int,cntP (fun l=>q l&&l.r == t) ls≤1) :
 ∀ t:Nat,t≤cntP q ls→cntP (fun l=>q l&&decide (l.r≤(t:Int))) ls=t:=by
 have step:∀ t:Nat,cntP (fun l=>q l&&decide (l.r≤((t+1:Nat):Int))) ls≤cntP (fun l=>q l&&decide (l.r≤(t:Int))) ls+1:=by
  intro t
  rw [cntP_split (fun l=>q l&&decide (l.r≤((t+1:Nat):Int))) (fun l=>decide (l.r≤(t:Int)))]
  have e1:cntP (fun l=>q l&&decide (l.r≤((t+1:Nat):Int))&&decide (l.r≤(t:Int))) ls=cntP (fun l=>q l&&decide (l.r≤(t:Int))) ls:=by
   apply cntP_congr
   intro l _
   cases q l with
   | false=>simp
   | true=>rw [Bool.eq_iff_iff]; simp; omega
  have e2:cntP (fun l=>q l&&decide (l.r≤((t+1:Nat):Int)) && !decide (l.r≤(t:Int))) ls=cntP (fun l=>q l&&l.r == ((t+1:Nat):Int)) ls:=by
   apply cntP_congr
   intro l _
   cases q l with
   | false=>simp
   | true=>rw [Bool.eq_iff_iff]; simp; omega
  have:=h2 ((t+1:Nat):Int)
  omega
 have zero:cntP (fun l=>q l&&decide (l.r≤((0:Nat):Int))) ls=0:=by
  unfold cntP
  rw [List.length_eq_zero_iff,List.filter_eq_nil_iff]
  intro l hl
  simp only [Bool.and_eq_true,decide_eq_true_eq,not_and]
  intro hq
  have:=(h1 l hl hq).1
  omega
 have full:cntP (fun l=>q l&&decide (l.r≤((cntP q ls:Nat):Int))) ls=cntP q ls:=by
  apply cntP_congr
  intro l hl
  cases hq:q l with
  | false=>rfl
  | true=>simp [(h1 l hl hq).2]
 have up:∀ t:Nat,cntP (fun l=>q l&&decide (l.r≤(t:Int))) ls≤t:=by
  intro t
  induction t with
  | zero=>omega
  | succ t ih=>have:=step t; omega
 have down:∀ k t:Nat,t+k=cntP q ls→cntP q ls≤cntP (fun l=>q l&&decide (l.r≤(t:Int))) ls+k:=by
  intro k
  induction k with
  | zero=>intro t ht; rw [Nat.add_zero] at ht; subst ht; omega
  | succ k ih=>
   intro t ht
   have h1:=ih (t+1) (by omega)
   have h2:=step t
   omega
 intro t ht
 have h1:=up t
 have h2:=down (cntP q ls - t) t (by omega)
 omega
def keyLt (a b:Lt):Bool:=decide (a.g<b.g)||(a.g == b.g&&decide (a.r<b.r))
theorem keyLt_irrefl (a:Lt):keyLt a a=false:=by simp [keyLt]
theorem keyLt_asymm {a b:Lt} (h:keyLt a b=true):keyLt b a=false:=by
 simp only [keyLt,Bool.or_eq_true,Bool.and_eq_true,decide_eq_true_eq,beq_iff_eq,Bool.or_eq_false_iff,Bool.and_eq_false_iff,decide_eq_false_iff_not,beq_eq_false_iff_ne] at *
 omega
theorem keyLt_total {a b:Lt} (h:¬(a.g=b.g∧a.r=b.r)):keyLt a b=true∨keyLt b a=true:=by
 simp only [keyLt,Bool.or_eq_true,Bool.and_eq_true,decide_eq_true_eq,beq_iff_eq]
 omega
theorem keyLt_trans {a b c:Lt} (h:keyLt a b=true) (h':keyLt b c=true):keyLt a c=true:=by
 simp only [keyLt,Bool.or_eq_true,Bool.and_eq_true,decide_eq_true_eq,beq_iff_eq] at *
 omega
def at' (ls:List Lt) (i:Nat):Lt:=ls.getD i default
def ins (ls:List Lt) (i:Nat):List Nat→List Nat
 | []=>[i]
 | j :: r=>if keyLt (at' ls j) (at' ls i) then j :: ins ls i r else i :: j :: r
def axisN (ls:List Lt):Nat→List Nat
 | 0=>[]
 | k+1=>if isP (at' ls k) then ins ls k (axisN ls k) else axisN ls k
def axis (ls:List Lt):List Nat:=axisN ls ls.length
theorem ins_perm (ls:List Lt) (i:Nat):∀ (l:List Nat),(ins ls i l).Perm (i :: l)
 | []=>List.Perm.refl _
 | j :: r=>by
  simp only [ins]
  split
  · exact((ins_perm ls i r).cons j).trans (List.Perm.swap i j r)
  · exact List.Perm.refl _
theorem axisN_perm (ls:List Lt):∀ k,(axisN ls k).Perm ((List.range k).filter fun j=>isP (at' ls j))
 | 0=>List.Perm.refl _
 | k+1=>by
  rw [List.range_succ,List.filter_append]
  simp only [axisN,List.filter_cons,List.filter_nil]
  split
  · exact((ins_perm ls k _).trans ((axisN_perm ls k).cons k)).trans (List.perm_append_comm (l₁:=[k]))
  · simpa using axisN_perm ls k
theorem range_at (ls:List Lt):(List.range ls.length).map (at' ls)=ls:=by
 apply List.ext_getElem?
 intro i
 rw [List.getElem?_map]
 by_cases h:i<ls.length
 · simp [h,at']
 · simp [h]
theorem range_filter (ls:List Lt) (p:Lt→Bool):((List.range ls.length).filter fun j=>p (at' ls j)).length=cntP p ls:=by
 have h:(((List.range ls.length).map (at' ls)).filter p).length=((List.range ls.length).filter fun j=>p (at' ls j)).length:=by
  rw [List.filter_map,List.length_map]; rfl
 rw [← h,range_at]
 rfl
theorem axis_length (ls:List Lt):(axis ls).length=passes ls:=by
 rw [axis,(axisN_perm ls _).length_eq,range_filter]; rfl
theorem mem_axis {ls:List Lt} {j:Nat}:j∈axis ls↔j<ls.length∧isP (at' ls j)=true:=by
 rw [axis,(axisN_perm ls _).mem_iff]
 simp
def Apart (ls:List Lt):Prop:=∀ i j,i<ls.length→j<ls.length→isP (at' ls i)=true→isP (at' ls j)=true→(at' ls i).g=(at' ls j).g→(at' ls i).r=(at' ls j).r→i=j
theorem ins_sorted {ls:List Lt} {i:Nat}:∀ {l:List Nat},l.Pairwise (fun a b=>keyLt (at' ls a) (at' ls b)=true)→(∀ j,j∈l→keyLt (at' ls j) (at' ls i)=true∨keyLt (at' ls i) (at' ls j)=true) →
 (ins ls i l).Pairwise (fun a b=>keyLt (at' ls a) (at' ls b)=true)
 | [],_,_=>List.pairwise_singleton _ _
 | j :: r,h,ht=>by
  rw [List.pairwise_cons] at h
  simp only [ins]
  split
  · rename_i hlt
    rw [List.pairwise_cons]
    refine⟨fun x hx=>?_,ins_sorted h.2 fun k hk=>ht k (List.mem_cons_of_mem _ hk)⟩
    have:=(ins_perm ls i r).mem_iff.1 hx
    rcases List.mem_cons.1 this with rfl | hx
    · exact hlt
    · exact h.1 x hx
  · rename_i hlt
    have hij:keyLt (at' ls i) (at' ls j)=true:=(ht j (List.mem_cons_self ..)).resolve_left hlt
    rw [List.pairwise_cons,List.pairwise_cons]
    refine⟨fun x hx=>?_,h.1,h.2⟩
    rcases List.mem_cons.1 hx with rfl | hx
    · exact hij
    · exact keyLt_trans hij (h.1 x hx)
theorem axisN_sorted {ls:List Lt} (ha:Apart ls):∀ k,k≤ls.length→(axisN ls k).Pairwise (fun a b=>keyLt (at' ls a) (at' ls b)=true)
 | 0,_=>List.Pairwise.nil
 | k+1,hk=>by
  simp only [axisN]
  split
  · rename_i hp
    refine ins_sorted (axisN_sorted ha k (by omega)) fun j hj=>?_
    have:=(axisN_perm ls k).mem_iff.1 hj
    simp only [List.mem_filter,List.mem_range] at this
    apply keyLt_total
    rintro⟨h1,h2⟩
    have:=ha j k (by omega) (by omega) this.2 hp h1 h2
    omega
  · exact axisN_sorted ha k (by omega)
theorem sorted_index {ls:List Lt}:∀ {l:List Nat} {p i:Nat},l.Pairwise (fun a b=>keyLt (at' ls a) (at' ls b)=true)→l[p]? = some i→(l.filter fun j=>keyLt (at' ls j) (at' ls i)).length=p
 | [],p,i,_,h=>by simp at h
 | j :: r,p,i,hs,h=>by
  rw [List.pairwise_cons] at hs
  cases p with
  | zero=>
   simp only [List.getElem?_cons_zero,Option.some.injEq] at h
   subst h
   rw [List.length_eq_zero_iff,List.filter_eq_nil_iff]
   intro x hx
   rcases List.mem_cons.1 hx with rfl | hx
   · simp [keyLt_irrefl]
   · rw [keyLt_asymm (hs.1 x hx)]; simp
  | succ p=>
   simp only [List.getElem?_cons_succ] at h
   rw [List.filter_cons,if_pos (hs.1 i (List.mem_of_getElem? h)),List.length_cons,sorted_index hs.2 h]
def pos (ls:List Lt) (l:Lt):Nat:=cntP (fun o=>isP o&&decide (o.g<l.g)) ls+(l.r - 1).toNat
def Ranked (ls:List Lt):Prop:=∀ l,l∈ls→isP l=true→1≤l.r∧l.r≤(inG l.g ls:Nat)
theorem at'_mem {ls:List Lt} {i:Nat} (h:i<ls.length):at' ls i∈ls:=by
 rw [at',List.getD,List.getElem?_eq_getElem h]
 exact List.getElem_mem h
theorem apart_count {ls:List Lt} (ha:Apart ls) (g r:Int):cntP (fun l=>(isP l&&l.g == g)&&l.r == r) ls≤1:=by
 rw [← range_filter]
 have hn:((List.range ls.length).filter fun j=>(isP (at' ls j)&&(at' ls j).g == g)&&(at' ls j).r == r).Nodup:=(List.nodup_range).filter _
 rcases hl:(List.range ls.length).filter (fun j=>(isP (at' ls j)&&(at' ls j).g == g)&&(at' ls j).r == r) with _ | ⟨a,_ | ⟨b,t⟩⟩
 · simp
 · simp
 · exfalso
   rw [hl] at hn
   have hma:a∈(List.range ls.length).filter (fun j=>(isP (at' ls j)&&(at' ls j).g == g)&&(at' ls j).r == r):=by rw [hl]; simp
   have hmb:b∈(List.range ls.length).filter (fun j=>(isP (at' ls j)&&(at' ls j).g == g)&&(at' ls j).r == r):=by rw [hl]; simp
   simp only [List.mem_filter,List.mem_range,Bool.and_eq_true,beq_iff_eq] at hma hmb
   have:=ha a b hma.1 hmb.1 hma.2.1.1 hmb.2.1.1 (by rw [hma.2.1.2,hmb.2.1.2]) (by rw [hma.2.2,hmb.2.2])
   subst this
   simp at hn
theorem below_count {ls:List Lt} (ha:Apart ls) (hr:Ranked ls) {l:Lt} (hl:l∈ls) (hp:isP l=true):cntP (fun o=>isP o&&keyLt o l) ls=pos ls l:=by
 obtain⟨h1,h2⟩:=hr l hl hp
 have hb:=ranks_below (ls:=ls) (q:=fun o=>isP o&&o.g == l.g) (fun o ho hq=>by
  simp only [Bool.and_eq_true,beq_iff_eq] at hq
  have:=hr o ho hq.1
  rw [hq.2] at this
  exact this) (fun t=>apart_count ha l.g t) (l.r - 1).toNat (by
   have h3:((cntP (fun o=>isP o&&o.g == l.g) ls:Nat):Int)=(inG l.g ls:Nat):=rfl
   omega)
 rw [cntP_split (fun o=>isP o&&keyLt o l) (fun o=>decide (o.g<l.g))]
 unfold pos
 congr 1
 · apply cntP_congr
   intro o _
   by_cases h:o.g<l.g
   · simp [keyLt,h]
   · simp [h]
 · rw [← hb]
   apply cntP_congr
   intro o _
   by_cases hg:o.g=l.g
   · have e:(o.r<l.r)↔(o.r≤((l.r - 1).toNat:Int)):=by omega
     simp [keyLt,hg,e]
   · by_cases h:o.g<l.g
     · rw [Bool.eq_iff_iff]; simp [keyLt,h,hg]
     · rw [Bool.eq_iff_iff]; simp [keyLt,h,hg]
theorem axis_at {ls:List Lt} (ha:Apart ls) (hr:Ranked ls) {i:Nat} (hi:i<ls.length) (hp:isP (at' ls i)=true):(axis ls)[pos ls (at' ls i)]? = some i:=by
 have hm:i∈axis ls:=mem_axis.2 ⟨hi,hp⟩
 obtain⟨p,hpl,hpe⟩:=List.getElem_of_mem hm
 have hpe':(axis ls)[p]? = some i:=by rw [List.getElem?_eq_getElem hpl,hpe]
 have hidx:=sorted_index (axisN_sorted ha _ (Nat.le_refl _)) hpe'
 have hcount:((axis ls).filter fun j=>keyLt (at' ls j) (at' ls i)).length=cntP (fun o=>isP o&&keyLt o (at' ls i)) ls:=by
  rw [axis,((axisN_perm ls ls.length).filter _).length_eq,List.filter_filter,← range_filter]
  congr 1
  apply List.filter_congr
  intro x _
  exact Bool.and_comm _ _
 have hidx':((axis ls).filter fun j=>keyLt (at' ls j) (at' ls i)).length=p:=hidx
 rw [hcount,below_count ha hr (at'_mem hi) hp] at hidx'
 rw [hidx']
 exact hpe'
end Go.Plain
