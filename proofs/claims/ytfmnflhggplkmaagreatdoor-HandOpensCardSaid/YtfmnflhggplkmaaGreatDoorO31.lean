/- Part 31 of the proof: Pi. -/
import Derived.Test.YtfmnflhggplkmaaGreatDoorO30
set_option linter.all false
namespace Go.Known
open Go.Plain
def tr (T:Nat→Nat):Nat→List Bool→Nat→List Nat
 | 0,_,_=>[]
 | k+1,seen,x=>if seen.getD x true then []else x :: tr T k (seen.set x true) (T x)
def wks (T:Nat→Nat) (N:Nat):Nat→List Bool→List (List Nat)
 | 0,_=>[]
 | k+1,seen=>if seen.getD (N - (k+1)) true then wks T N k seen else tr T (N+1) seen (N - (k+1)) :: wks T N k (Plain.mark T (N+1) seen (N - (k+1)))
def walks (T:Nat→Nat) (N:Nat):List (List Nat):=wks T N N (List.replicate N false)
def tr2 (T:Nat→Nat) (n:Nat):Nat→List Bool→Nat→List Nat×Bool
 | 0,_,_=>([],false)
 | k+1,seen,x=>if x<n then (if seen.getD x true then ([],false)else (x :: (tr2 T n k (seen.set x true) (T x)).1,(tr2 T n k (seen.set x true) (T x)).2))else ((tr2 T n k seen (T x)).1,true)
def mk2 (T:Nat→Nat) (n:Nat):Nat→List Bool→Nat→List Bool
 | 0,seen,_=>seen
 | k+1,seen,x=>if x<n then (if seen.getD x true then seen else mk2 T n k (seen.set x true) (T x))else mk2 T n k seen (T x)
def strOf (n:Nat) (w:List Nat):List Nat×Bool:=(w.filter fun x=>decide (x<n),w.any fun x=>decide (n≤x))
theorem getD_set {l:List Bool} {x y:Nat} (hx:x<l.length):(l.set x true).getD y true=(l.getD y true||decide (y=x)):=by
 grind
theorem getD_take {l:List Bool} {n x:Nat} (hx:x<n):(l.take n).getD x true=l.getD x true:=by
 grind
theorem unseen_set' {l:List Bool} {x:Nat} (hx:x<l.length) (h:l.getD x true=false):unseen (l.set x true)+1=unseen l:=by
 refine unseen_set ?_
 grind
theorem mark_mono {T:Nat→Nat} {y:Nat}:∀ (k:Nat) (seen:List Bool) (x:Nat),seen.getD y true=true→(Plain.mark T k seen x).getD y true=true
 | 0,_,_,h=>h
 | k+1,seen,x,h=>by
  simp only[Plain.mark]
  split
  ·exact h
  ·refine mark_mono k _ _ ?_
   grind
section
variable {T:Nat→Nat} {n N:Nat}
theorem walk_sim (hn:n≤N) (hA:∀ z,n≤z→z<N→T z<n) (hT:∀ d,d<N→T d<N) (hI:∀ y y',y<n→y'<n→n≤T y→T y=T y'→y=y') :
 ∀(k k2:Nat) (seen:List Bool) (x:Nat),seen.length=N→x<N→unseen seen<k→2*unseen (seen.take n)+(if n≤x then 1 else 0)<k2 →
  (∀ y,y<n→n≤T y→seen.getD (T y) true=(seen.getD y true&&decide (T y≠x)))→(n≤x → ∃ y,y<n∧T y=x∧seen.getD y true=true) →
  strOf n (tr T k seen x)=tr2 T n k2 (seen.take n) x∧(Plain.mark T k seen x).take n=mk2 T n k2 (seen.take n) x ∧ ∀ y,y<n→n≤T y→(Plain.mark T k seen x).getD (T y) true=(Plain.mark T k seen x).getD y true:=by
 intro k
 induction k with
 | zero=>omega
 | succ k ih=>
  intro k2 seen x hs hx hu hu2 hJ hP
  cases k2 with
  | zero=>omega
  | succ k2=>
  by_cases hxn:x<n
  ·have hTx:=hT x hx
   simp only[tr,Plain.mark,tr2,mk2,if_pos hxn,getD_take hxn]
   cases hsx:seen.getD x true with
   | true=>
    refine⟨by simp[strOf],by simp,fun y hy hTy=>?_⟩
    rw[if_pos rfl,hJ y hy hTy]
    grind
   | false=>
    have hun:=unseen_set' (by omega) hsx
    have ht:(seen.set x true).take n=(seen.take n).set x true:=by rw[List.take_set]
    have hun2:unseen ((seen.take n).set x true)+1=unseen (seen.take n):=unseen_set' (by grind) (by grind)
    obtain⟨h1,h2,h3⟩:=ih k2 (seen.set x true) (T x) (by simpa using hs) hTx (by omega) (by grind)
     (fun y hy hTy=>by
       rw[getD_set (by omega),getD_set (by omega),hJ y hy hTy]
       have h0:T y≠x:=by omega
       by_cases hyx:y=x
       ·subst hyx
        rw[hsx]
        simp[h0]
       grind)
     (fun hTx2=>⟨x,hxn,rfl,by grind⟩)
    rw[ht]at h1 h2
    simp only[Bool.false_eq_true,if_false]
    refine⟨?_,h2,h3⟩
    rw[← h1]
    have:¬n≤x:=by omega
    simp[strOf,hxn,this]
  ·have hxn':n≤x:=by omega
   obtain⟨y0,hy0,hy1,hy2⟩:=hP hxn'
   have hsx:seen.getD x true=false:=by
    grind
   have hun:=unseen_set' (by omega) hsx
   have ht:(seen.set x true).take n=seen.take n:=by
    rw[List.take_set,List.set_eq_of_length_le (by grind)]
   simp only[tr,Plain.mark,tr2,mk2,if_neg hxn,hsx,Bool.false_eq_true,if_false]
   have hTx:=hA x hxn' hx
   obtain⟨h1,h2,h3⟩:=ih k2 (seen.set x true) (T x) (by simpa using hs) (by omega) (by omega) (by grind)
    (fun y hy hTy=>by
      rw[getD_set (by omega),getD_set (by omega),hJ y hy hTy]
      have h0:y≠x:=by omega
      have h4:T y≠T x:=by omega
      by_cases hyx:T y=x
      ·grind
      ·simp[hyx,h0,h4])
    (fun h=>by omega)
   rw[ht]at h1 h2
   refine⟨?_,h2,h3⟩
   rw[← h1]
   simp[strOf,hxn,hxn']
theorem wks_none:∀ (k:Nat) (seen:List Bool),(∀ x,seen.getD x true=true)→wks T N k seen=[]
 | 0,_,_=>rfl
 | k+1,seen,h=>by simp only[wks]; rw[if_pos (h _)]; exact wks_none k seen h
end
def headN (n d:Nat):Nat:=if d % 2=0 then (d / 2+1) % n else d / 2
theorem head_lt {n d:Nat} (h:d<2*n):headN n d<n:=by
 unfold headN
 split
 ·exact Nat.mod_lt _ (by omega)
 ·omega
theorem head_inj {n d d':Nat} (h:d<2*n) (h':d'<2*n) (he:headN n d=headN n d') (hp:d % 2=d' % 2):d=d':=by
 unfold headN at he
 by_cases h0:d % 2=0
 ·rw[if_pos h0,if_pos (by omega)]at he
  have e1:(d / 2+1) % n=if d / 2+1=n then 0 else d / 2+1:=by
   split
   ·rename_i e; rw[e,Nat.mod_self]
   ·rw[Nat.mod_eq_of_lt (by omega)]
  have e2:(d' / 2+1) % n=if d' / 2+1=n then 0 else d' / 2+1:=by
   split
   ·rename_i e; rw[e,Nat.mod_self]
   ·rw[Nat.mod_eq_of_lt (by omega)]
  rw[e1,e2]at he
  split at he<;>split at he<;>omega
 grind
theorem head_ex {n v:Nat} (hv:v<n) (b:Bool):∃ d,d<2*n∧headN n d=v∧(d % 2 == 0)=b:=by
 cases b with
 | true=>
  by_cases h0:v=0
  ·refine⟨2*(n - 1),by omega,?_,by simp⟩
   unfold headN
   rw[if_pos (by omega)]
   have:2*(n - 1) / 2+1=n:=by omega
   simp_all
  ·refine⟨2*(v - 1),by omega,?_,by simp⟩
   unfold headN
   rw[if_pos (by omega)]
   have:2*(v - 1) / 2+1=v:=by omega
   rw[this,Nat.mod_eq_of_lt hv]
 | false=>
  refine⟨2*v+1,by omega,?_,by simp⟩
  unfold headN
  grind
section
variable {ls:List Lt}
theorem turn_str {ax:List Nat} {d:Nat} (hd:d<2*ls.length):turnN ls ax d=if (at' ls (headN ls.length d)).k=2 then alongN ls.length (otherN ls (headN ls.length d) ls.length 0) ((d % 2 == 0) == ((at' ls (headN ls.length d)).o == ((at' ls (headN ls.length d)).s == 1)))
 else if down ls (headN ls.length d)=(d % 2 == 0)then 2*ls.length+2*idxN (headN ls.length d) ax else 2*ls.length+2*((idxN (headN ls.length d) ax+ax.length - 1) % ax.length)+1:=by
 unfold turnN headN
 rw[if_neg (by omega)]
theorem mod_pred_inj {m a b:Nat} (ha:a<m) (hb:b<m) (h:(a+m - 1) % m=(b+m - 1) % m):a=b:=by
 have e:∀ a,a<m→(a+m - 1) % m=if a=0 then m - 1 else a - 1:=fun a ha=>by
  split
  ·rename_i h0; subst h0; rw[Nat.zero_add,Nat.mod_eq_of_lt (by omega)]
  ·have:a+m - 1=(a - 1)+m:=by omega
   rw[this,Nat.add_mod_right,Nat.mod_eq_of_lt (by omega)]
 grind
theorem turn_axis_str (hm:∀ v,v<ls.length→(at' ls v).k≠2→v∈axis ls) {d:Nat} (hd:d<2*ls.length) (hT:2*ls.length≤turnN ls (axis ls) d):(at' ls (headN ls.length d)).k≠2∧headN ls.length d∈axis ls:=by
 have hh:=head_lt hd
 have hk:(at' ls (headN ls.length d)).k≠2:=fun hk=>by
  rw[turn_str hd,if_pos hk]at hT
  have:=alongN_lt' (fw:=(d % 2 == 0) == ((at' ls (headN ls.length d)).o == ((at' ls (headN ls.length d)).s == 1))) (otherN_lt' hh ls.length 0 (by omega))
  omega
 grind
theorem turn_rule (h0:0<passes ls) (hk:∀ v,v<ls.length→(at' ls v).k≠2→(at' ls v).k=1) :
 (∀ z,2*ls.length≤z→z<2*ls.length+2*passes ls→turnN ls (axis ls) z<2*ls.length)∧(∀ d,d<2*ls.length+2*passes ls→turnN ls (axis ls) d<2*ls.length+2*passes ls) ∧
   (∀ y y',y<2*ls.length→y'<2*ls.length→2*ls.length≤turnN ls (axis ls) y→turnN ls (axis ls) y=turnN ls (axis ls) y'→y=y')∧(∀ z,2*ls.length≤z→z<2*ls.length+2*passes ls → ∃ y,y<2*ls.length∧turnN ls (axis ls) y=z):=by
 have hal:=axis_length ls
 have hax:∀ v,v∈axis ls→v<ls.length:=fun v hv=>(mem_axis.1 hv).1
 have hm:∀ v,v<ls.length→(at' ls v).k≠2→v∈axis ls:=fun v hv h2=>mem_axis.2 ⟨hv,by simp[isP,hk v hv h2]⟩
 have hget:∀ j,j<passes ls→(axis ls).getD j 0<ls.length:=fun j hj=>by
  simp_all
 refine⟨fun z hz hz2=>?_,fun d hd=>?_,fun y y' hy hy' hTy he=>?_,fun z hz hz2=>?_⟩
 ·unfold turnN
  rw[if_pos hz]
  split
  ·exact alongN_lt' (hget _ (by rw[hal]; exact Nat.mod_lt _ h0))
  ·exact alongN_lt' (hget _ (by omega))
 ·rw[← hal]at hd ⊢
  exact turnN_lt' hax hm (by omega) hd
 ·obtain⟨k1,m1⟩:=turn_axis_str hm hy hTy
  obtain⟨k2,m2⟩:=turn_axis_str hm hy' (by omega)
  have i1:=idxN_lt' m1
  have i2:=idxN_lt' m2
  have hidx:idxN (headN ls.length y) (axis ls)=idxN (headN ls.length y') (axis ls)→headN ls.length y=headN ls.length y':=fun e=>by
   have g1:=(idxN_spec m1).1
   have g2:=(idxN_spec m2).1
   grind
  rw[turn_str hy,turn_str hy',if_neg k1,if_neg k2]at he
  have par:∀ {b b':Bool} {x x':Nat},(b == (x % 2 == 0))=(b' == (x' % 2 == 0))→b=b'→x % 2=x' % 2:=by
   intro b b' x x' h1 h2
   subst h2
   rcases Nat.mod_two_eq_zero_or_one x with e|e<;>rcases Nat.mod_two_eq_zero_or_one x' with e'|e'<;>rw[e,e']<;>rw[e,e']at h1<;>cases b<;>simp at h1
  by_cases d1:down ls (headN ls.length y)=(y % 2 == 0)
  ·by_cases d2:down ls (headN ls.length y')=(y' % 2 == 0)
   ·rw[if_pos d1,if_pos d2]at he
    have e1:=hidx (by omega)
    exact head_inj hy hy' e1 (par (b:=down ls (headN ls.length y)) (b':=down ls (headN ls.length y')) (by rw[d1,d2]; simp) (by rw[e1]))
   grind
  ·by_cases d2:down ls (headN ls.length y')=(y' % 2 == 0)
   ·grind
   ·rw[if_neg d1,if_neg d2]at he
    have e1:=hidx (mod_pred_inj i1 i2 (by omega))
    refine head_inj hy hy' e1 (par (b:=down ls (headN ls.length y)) (b':=down ls (headN ls.length y')) ?_ (by rw[e1]))
    grind
 ·obtain⟨j,hj⟩:∃ j,(z - 2*ls.length) / 2=j:=⟨_,rfl⟩
  have hjm:j<passes ls:=by omega
  have nd:=axis_nodup ls
  have hidx:∀ p,p<passes ls→idxN ((axis ls).getD p 0) (axis ls)=p:=fun p hp=>by
   have hg:(axis ls)[p]? = some ((axis ls).getD p 0):=by grind
   exact nodup_idx nd (idxN_spec (List.mem_of_getElem? hg)).1 hg
  have hk2:∀ p,p<passes ls→(at' ls ((axis ls).getD p 0)).k≠2:=fun p hp=>by
   have hg:(axis ls)[p]? = some ((axis ls).getD p 0):=by grind
   have:=(mem_axis.1 (List.mem_of_getElem? hg)).2
   simp only[isP,beq_iff_eq]at this
   omega
  by_cases hz0:z % 2=0
  ·obtain⟨d,h1,h2,h3⟩:=head_ex (hget j hjm) (down ls ((axis ls).getD j 0))
   refine⟨d,h1,?_⟩
   rw[turn_str h1,h2,if_neg (hk2 j hjm),if_pos h3.symm,hidx j hjm]
   omega
  ·have hpm:(j+1) % passes ls<passes ls:=Nat.mod_lt _ h0
   obtain⟨d,h1,h2,h3⟩:=head_ex (hget _ hpm) (!down ls ((axis ls).getD ((j+1) % passes ls) 0))
   refine⟨d,h1,?_⟩
   rw[turn_str h1,h2,if_neg (hk2 _ hpm),if_neg (by grind),hidx _ hpm,hal]
   have e:((j+1) % passes ls+passes ls - 1) % passes ls=j:=by
    by_cases hw:j+1=passes ls
    ·rw[hw,Nat.mod_self,Nat.zero_add,Nat.mod_eq_of_lt (by omega)]; omega
    ·rw[Nat.mod_eq_of_lt (show j+1<passes ls by omega)]
     have:j+1+passes ls - 1=j+passes ls:=by omega
     rw[this,Nat.add_mod_right,Nat.mod_eq_of_lt hjm]
   rw[e]
   omega
end
end Go.Known
