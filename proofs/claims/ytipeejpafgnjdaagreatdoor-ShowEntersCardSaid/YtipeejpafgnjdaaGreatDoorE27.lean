/- Part 27 of the proof: Pi, Pj, Rg. -/
import Derived.Test.YtipeejpafgnjdaaGreatDoorE24
import Derived.Test.YtipeejpafgnjdaaGreatDoorE25
import Derived.Test.YtipeejpafgnjdaaGreatDoorE26
set_option linter.all false
section
namespace Go.Known
open Go.Plain
def tr (T:Nat→Nat):Nat→List Bool→Nat→List Nat
 | 0,_,_=>[]
 | k+1,seen,x=>if seen.getD x true then [] else x :: tr T k (seen.set x true) (T x)
def wks (T:Nat→Nat) (N:Nat):Nat→List Bool→List (List Nat)
 | 0,_=>[]
 | k+1,seen=>if seen.getD (N - (k+1)) true then wks T N k seen else tr T (N+1) seen (N - (k+1)) :: wks T N k (Plain.mark T (N+1) seen (N - (k+1)))
def Zle (T:Nat→Nat) (N:Nat):List (List Nat):=wks T N N (List.replicate N false)
theorem Zid (T:Nat→Nat) (N:Nat):∀ (k:Nat) (seen:List Bool),(wks T N k seen).length=cyc T N k seen
 | 0,_=>rfl
 | k+1,seen=>by
  simp only [wks,cyc]
  split
  · exact Zid T N k seen
  · rw [List.length_cons,Zid T N k,Nat.add_comm]
def tr2 (T:Nat→Nat) (n:Nat):Nat→List Bool→Nat→List Nat×Bool
 | 0,_,_=>([],false)
 | k+1,seen,x=>if x<n then (if seen.getD x true then ([],false) else (x :: (tr2 T n k (seen.set x true) (T x)).1,(tr2 T n k (seen.set x true) (T x)).2)) else ((tr2 T n k seen (T x)).1,true)
def mk2 (T:Nat→Nat) (n:Nat):Nat→List Bool→Nat→List Bool
 | 0,seen,_=>seen
 | k+1,seen,x=>if x<n then (if seen.getD x true then seen else mk2 T n k (seen.set x true) (T x)) else mk2 T n k seen (T x)
def Z14 (n:Nat) (w:List Nat):List Nat×Bool:=(w.filter fun x=>decide (x<n),w.any fun x=>decide (n≤x))
theorem Zd0 {l:List Bool} {x y:Nat} (hx:x<l.length):(l.set x true).getD y true=(l.getD y true||decide (y=x)):=by
 rw [List.getD_eq_getElem?_getD,List.getD_eq_getElem?_getD,List.getElem?_set]
 by_cases h:x=y
 · subst h
   rw [if_pos rfl,if_pos hx]
   simp
 · rw [if_neg h]
   have:¬y=x:=fun e=>h e.symm
   simp [this]
theorem Zrr {l:List Bool} {n x:Nat} (hx:x<n):(l.take n).getD x true=l.getD x true:=by
 rw [List.getD_eq_getElem?_getD,List.getD_eq_getElem?_getD,List.getElem?_take,if_pos hx]
theorem Zka {l:List Bool} {x:Nat} (hx:x<l.length) (h:l.getD x true=false):Ze8 (l.set x true)+1=Ze8 l:=by
 refine Zl6 ?_
 rw [List.getD_eq_getElem?_getD,List.getElem?_eq_getElem hx] at h
 rw [List.getElem?_eq_getElem hx]
 simpa using h
theorem Zm8 {T:Nat→Nat} {y:Nat}:∀ (k:Nat) (seen:List Bool) (x:Nat),seen.getD y true=true→(Plain.mark T k seen x).getD y true=true
 | 0,_,_,h=>h
 | k+1,seen,x,h=>by
  simp only [Plain.mark]
  split
  · exact h
  · refine Zm8 k _ _ ?_
    rcases Nat.lt_or_ge x seen.length with hx | hx
    · rw [Zd0 hx,h]; rfl
    · rw [List.set_eq_of_length_le hx]; exact h
section
variable {T:Nat→Nat} {n N:Nat}
theorem Z1f (hn:n≤N) (hA:∀ z,n≤z→z<N→T z<n) (hT:∀ d,d<N→T d<N) (hI:∀ y y',y<n→y'<n→n≤T y→T y=T y'→y=y') :
 ∀(k k2:Nat) (seen:List Bool) (x:Nat),seen.length=N→x<N→Ze8 seen<k→2*Ze8 (seen.take n)+(if n≤x then 1 else 0)<k2 →
  (∀ y,y<n→n≤T y→seen.getD (T y) true=(seen.getD y true&&decide (T y≠x)))→(n≤x → ∃ y,y<n∧T y=x∧seen.getD y true=true) →
  Z14 n (tr T k seen x)=tr2 T n k2 (seen.take n) x∧(Plain.mark T k seen x).take n=mk2 T n k2 (seen.take n) x ∧ ∀ y,y<n→n≤T y→(Plain.mark T k seen x).getD (T y) true=(Plain.mark T k seen x).getD y true:=by
 intro k
 induction k with
 | zero=>intro k2 seen x _ _ h; omega
 | succ k ih=>
  intro k2 seen x hs hx hu hu2 hJ hP
  cases k2 with
  | zero=>omega
  | succ k2=>
  by_cases hxn:x<n
  · have hTx:=hT x hx
    simp only [tr,Plain.mark,tr2,mk2,if_pos hxn,Zrr hxn]
    cases hsx:seen.getD x true with
    | true=>
     refine⟨by simp [Z14],by simp,fun y hy hTy=>?_⟩
     rw [if_pos rfl,hJ y hy hTy]
     have:T y≠x:=by omega
     simp [this]
    | false=>
     have hun:=Zka (by omega) hsx
     have ht:(seen.set x true).take n=(seen.take n).set x true:=by rw [List.take_set]
     have hun2:Ze8 ((seen.take n).set x true)+1=Ze8 (seen.take n):=Zka (by rw [List.length_take]; omega) (by rw [Zrr hxn]; exact hsx)
     obtain⟨h1,h2,h3⟩:=ih k2 (seen.set x true) (T x) (by simpa using hs) hTx (by omega) (by rw [ht]; split<;>split at hu2<;>omega)
      (fun y hy hTy=>by
        rw [Zd0 (by omega),Zd0 (by omega),hJ y hy hTy]
        have h0:T y≠x:=by omega
        by_cases hyx:y=x
        · subst hyx
          rw [hsx]
          simp [h0]
        · have h4:T y≠T x:=fun e=>hyx (hI y x hy hxn hTy e)
          simp [h0,hyx,h4])
      (fun hTx2=>⟨x,hxn,rfl,by rw [Zd0 (by omega)]; simp⟩)
     rw [ht] at h1 h2
     simp only [Bool.false_eq_true,if_false]
     refine⟨?_,h2,h3⟩
     rw [← h1]
     have:¬n≤x:=by omega
     simp [Z14,hxn,this]
  · have hxn':n≤x:=by omega
    obtain⟨y0,hy0,hy1,hy2⟩:=hP hxn'
    have hsx:seen.getD x true=false:=by
     have:=hJ y0 hy0 (by omega)
     rw [hy1] at this
     simpa using this
    have hun:=Zka (by omega) hsx
    have ht:(seen.set x true).take n=seen.take n:=by
     rw [List.take_set,List.set_eq_of_length_le (by rw [List.length_take]; omega)]
    simp only [tr,Plain.mark,tr2,mk2,if_neg hxn,hsx,Bool.false_eq_true,if_false]
    have hTx:=hA x hxn' hx
    obtain⟨h1,h2,h3⟩:=ih k2 (seen.set x true) (T x) (by simpa using hs) (by omega) (by omega) (by rw [ht,if_neg (by omega)]; rw [if_pos hxn'] at hu2; omega)
     (fun y hy hTy=>by
       rw [Zd0 (by omega),Zd0 (by omega),hJ y hy hTy]
       have h0:y≠x:=by omega
       have h4:T y≠T x:=by omega
       by_cases hyx:T y=x
       · have:y=y0:=hI y y0 hy hy0 hTy (by omega)
         subst this
         simp [hyx,hy2,hxn,h0]
         exact⟨by simpa using hy2,by omega⟩
       · simp [hyx,h0,h4])
     (fun h=>by omega)
    rw [ht] at h1 h2
    refine⟨?_,h2,h3⟩
    rw [← h1]
    simp [Z14,hxn,hxn']
theorem Zus:∀ (k:Nat) (seen:List Bool),(∀ x,seen.getD x true=true)→wks T N k seen=[]
 | 0,_,_=>rfl
 | k+1,seen,h=>by simp only [wks]; rw [if_pos (h _)]; exact Zus k seen h
end
def Zcz (n d:Nat):Nat:=if d % 2=0 then (d / 2+1) % n else d / 2
theorem Z4q {n d:Nat} (h:d<2*n):Zcz n d<n:=by
 unfold Zcz
 split
 · exact Nat.mod_lt _ (by omega)
 · omega
theorem Zup {n d d':Nat} (h:d<2*n) (h':d'<2*n) (he:Zcz n d=Zcz n d') (hp:d % 2=d' % 2):d=d':=by
 unfold Zcz at he
 by_cases h0:d % 2=0
 · rw [if_pos h0,if_pos (by omega)] at he
   have e1:(d / 2+1) % n=if d / 2+1=n then 0 else d / 2+1:=by
    split
    · rename_i e; rw [e,Nat.mod_self]
    · rw [Nat.mod_eq_of_lt (by omega)]
   have e2:(d' / 2+1) % n=if d' / 2+1=n then 0 else d' / 2+1:=by
    split
    · rename_i e; rw [e,Nat.mod_self]
    · rw [Nat.mod_eq_of_lt (by omega)]
   rw [e1,e2] at he
   split at he<;>split at he<;>omega
 · rw [if_neg h0,if_neg (by omega)] at he
   omega
theorem Zzm {n v:Nat} (hv:v<n) (b:Bool):∃ d,d<2*n∧Zcz n d=v∧(d % 2 == 0)=b:=by
 cases b with
 | true=>
  by_cases h0:v=0
  · refine⟨2*(n - 1),by omega,?_,by simp⟩
    unfold Zcz
    rw [if_pos (by omega)]
    have:2*(n - 1) / 2+1=n:=by omega
    rw [this,Nat.mod_self,h0]
  · refine⟨2*(v - 1),by omega,?_,by simp⟩
    unfold Zcz
    rw [if_pos (by omega)]
    have:2*(v - 1) / 2+1=v:=by omega
    rw [this,Nat.mod_eq_of_lt hv]
 | false=>
  refine⟨2*v+1,by omega,?_,by simp⟩
  unfold Zcz
  rw [if_neg (by omega)]
  omega
section
variable {ls:List Lt}
theorem Zk0 {ax:List Nat} {d:Nat} (hd:d<2*ls.length):Zci ls ax d=if (at' ls (Zcz ls.length d)).k=2 then Ze6 ls.length (Zcl ls (Zcz ls.length d) ls.length 0) ((d % 2 == 0) == ((at' ls (Zcz ls.length d)).o == ((at' ls (Zcz ls.length d)).s == 1)))
 else if down ls (Zcz ls.length d)=(d % 2 == 0) then 2*ls.length+2*idxN (Zcz ls.length d) ax else 2*ls.length+2*((idxN (Zcz ls.length d) ax+ax.length - 1) % ax.length)+1:=by
 unfold Zci Zcz
 rw [if_neg (by omega)]
theorem Zsd {m a b:Nat} (ha:a<m) (hb:b<m) (h:(a+m - 1) % m=(b+m - 1) % m):a=b:=by
 have e:∀ a,a<m→(a+m - 1) % m=if a=0 then m - 1 else a - 1:=fun a ha=>by
  split
  · rename_i h0; subst h0; rw [Nat.zero_add,Nat.mod_eq_of_lt (by omega)]
  · have:a+m - 1=(a - 1)+m:=by omega
    rw [this,Nat.add_mod_right,Nat.mod_eq_of_lt (by omega)]
 rw [e a ha,e b hb] at h
 split at h<;>split at h<;>omega
theorem Zk3 (hm:∀ v,v<ls.length→(at' ls v).k≠2→v∈axis ls) {d:Nat} (hd:d<2*ls.length) (hT:2*ls.length≤Zci ls (axis ls) d):(at' ls (Zcz ls.length d)).k≠2∧Zcz ls.length d∈axis ls:=by
 have hh:=Z4q hd
 have hk:(at' ls (Zcz ls.length d)).k≠2:=fun hk=>by
  rw [Zk0 hd,if_pos hk] at hT
  have:=Zfh (fw:=(d % 2 == 0) == ((at' ls (Zcz ls.length d)).o == ((at' ls (Zcz ls.length d)).s == 1))) (Zll hh ls.length 0 (by omega))
  omega
 exact⟨hk,hm _ hh hk⟩
theorem Zsh (h0:0<Zah ls) (hk:∀ v,v<ls.length→(at' ls v).k≠2→(at' ls v).k=1) :
 (∀ z,2*ls.length≤z→z<2*ls.length+2*Zah ls→Zci ls (axis ls) z<2*ls.length)∧(∀ d,d<2*ls.length+2*Zah ls→Zci ls (axis ls) d<2*ls.length+2*Zah ls) ∧
   (∀ y y',y<2*ls.length→y'<2*ls.length→2*ls.length≤Zci ls (axis ls) y→Zci ls (axis ls) y=Zci ls (axis ls) y'→y=y')∧(∀ z,2*ls.length≤z→z<2*ls.length+2*Zah ls → ∃ y,y<2*ls.length∧Zci ls (axis ls) y=z):=by
 have hal:=Zbj ls
 have hax:∀ v,v∈axis ls→v<ls.length:=fun v hv=>(mem_axis.1 hv).1
 have hm:∀ v,v<ls.length→(at' ls v).k≠2→v∈axis ls:=fun v hv h2=>mem_axis.2 ⟨hv,by simp [isP,hk v hv h2]⟩
 have hget:∀ j,j<Zah ls→(axis ls).getD j 0<ls.length:=fun j hj=>by
  rw [List.getD,List.getElem?_eq_getElem (by omega)]
  exact hax _ (List.getElem_mem (by omega))
 refine⟨fun z hz hz2=>?_,fun d hd=>?_,fun y y' hy hy' hTy he=>?_,fun z hz hz2=>?_⟩
 · unfold Zci
   rw [if_pos hz]
   split
   · exact Zfh (hget _ (by rw [hal]; exact Nat.mod_lt _ h0))
   · exact Zfh (hget _ (by omega))
 · rw [← hal] at hd ⊢
   exact Znz hax hm (by omega) hd
 · obtain⟨k1,m1⟩:=Zk3 hm hy hTy
   obtain⟨k2,m2⟩:=Zk3 hm hy' (by omega)
   have i1:=Zmw m1
   have i2:=Zmw m2
   have hidx:idxN (Zcz ls.length y) (axis ls)=idxN (Zcz ls.length y') (axis ls)→Zcz ls.length y=Zcz ls.length y':=fun e=>by
    have g1:=(Zex m1).1
    have g2:=(Zex m2).1
    rw [e,g2] at g1
    injection g1 with g1
    exact g1.symm
   rw [Zk0 hy,Zk0 hy',if_neg k1,if_neg k2] at he
   have par:∀ {b b':Bool} {x x':Nat},(b == (x % 2 == 0))=(b' == (x' % 2 == 0))→b=b'→x % 2=x' % 2:=by
    intro b b' x x' h1 h2
    subst h2
    rcases Nat.mod_two_eq_zero_or_one x with e | e<;>rcases Nat.mod_two_eq_zero_or_one x' with e' | e'<;>rw [e,e']<;>rw [e,e'] at h1<;>cases b<;>simp at h1
   by_cases d1:down ls (Zcz ls.length y)=(y % 2 == 0)
   · by_cases d2:down ls (Zcz ls.length y')=(y' % 2 == 0)
     · rw [if_pos d1,if_pos d2] at he
       have e1:=hidx (by omega)
       exact Zup hy hy' e1 (par (b:=down ls (Zcz ls.length y)) (b':=down ls (Zcz ls.length y')) (by rw [d1,d2]; simp) (by rw [e1]))
     · rw [if_pos d1,if_neg d2] at he
       omega
   · by_cases d2:down ls (Zcz ls.length y')=(y' % 2 == 0)
     · rw [if_neg d1,if_pos d2] at he
       omega
     · rw [if_neg d1,if_neg d2] at he
       have e1:=hidx (Zsd i1 i2 (by omega))
       refine Zup hy hy' e1 (par (b:=down ls (Zcz ls.length y)) (b':=down ls (Zcz ls.length y')) ?_ (by rw [e1]))
       have f1:(down ls (Zcz ls.length y) == (y % 2 == 0))=false:=by simpa using d1
       have f2:(down ls (Zcz ls.length y') == (y' % 2 == 0))=false:=by simpa using d2
       rw [f1,f2]
 · obtain⟨j,hj⟩:∃ j,(z - 2*ls.length) / 2=j:=⟨_,rfl⟩
   have hjm:j<Zah ls:=by omega
   have nd:=Zlm ls
   have hidx:∀ p,p<Zah ls→idxN ((axis ls).getD p 0) (axis ls)=p:=fun p hp=>by
    have hg:(axis ls)[p]? = some ((axis ls).getD p 0):=by rw [List.getD,List.getElem?_eq_getElem (by omega)]; rfl
    exact Zm9 nd (Zex (List.mem_of_getElem? hg)).1 hg
   have hk2:∀ p,p<Zah ls→(at' ls ((axis ls).getD p 0)).k≠2:=fun p hp=>by
    have hg:(axis ls)[p]? = some ((axis ls).getD p 0):=by rw [List.getD,List.getElem?_eq_getElem (by omega)]; rfl
    have:=(mem_axis.1 (List.mem_of_getElem? hg)).2
    simp only [isP,beq_iff_eq] at this
    omega
   by_cases hz0:z % 2=0
   · obtain⟨d,h1,h2,h3⟩:=Zzm (hget j hjm) (down ls ((axis ls).getD j 0))
     refine⟨d,h1,?_⟩
     rw [Zk0 h1,h2,if_neg (hk2 j hjm),if_pos h3.symm,hidx j hjm]
     omega
   · have hpm:(j+1) % Zah ls<Zah ls:=Nat.mod_lt _ h0
     obtain⟨d,h1,h2,h3⟩:=Zzm (hget _ hpm) (!down ls ((axis ls).getD ((j+1) % Zah ls) 0))
     refine⟨d,h1,?_⟩
     rw [Zk0 h1,h2,if_neg (hk2 _ hpm),if_neg (by rw [h3]; cases down ls ((axis ls).getD ((j+1) % Zah ls) 0)<;>simp),hidx _ hpm,hal]
     have e:((j+1) % Zah ls+Zah ls - 1) % Zah ls=j:=by
      by_cases hw:j+1=Zah ls
      · rw [hw,Nat.mod_self,Nat.zero_add,Nat.mod_eq_of_lt (by omega)]; omega
      · rw [Nat.mod_eq_of_lt (show j+1<Zah ls by omega)]
        have:j+1+Zah ls - 1=j+Zah ls:=by omega
        rw [this,Nat.add_mod_right,Nat.mod_eq_of_lt hjm]
     rw [e]
     omega
end
end Go.Known
end
section
namespace Go.Known
open Go.Plain
def isC (ls:List Lt) (d:Nat):Bool:=(at' ls (Zcz ls.length d)).k == 2
end Go.Known
end
section
namespace Go.Known
open Go Go.AE Go.Proofs
open Go.Plain
attribute [local simp] Zgs Zdl Zcr Ziu Zen Zeo Zem Zgm Zjc Zao Za1 Zau Zak Zat Zar Zdh Zer Zgk Zgj Zga Zi8 Zej Zo5 Zgd Zgo Zev Zgg Zgq Zjn Zf9 Zf8 Zel Zi9 Zgc Zei Zes Zgf Zgw Zgu Zgx Zeu Zdk Zi1 Zgh Zjd Zo3 Zdp Zet Zdo Zjm Zge Zep Zi6 Zjl Zeh Zek Zgn Zi4 Zje Zo0 Zix Zgb Zdf Zdg Zdi Zde Zds Zoq Zh8 Ziw Env.get argE SMem.at SMem.app SMem.get Zaw Zb1 AVal.cells AVal.one Zc0 Zb6 Zjj Zjk Zjo Zi7 Ziv Zi3 Ziz Zi0 Zji Zjp Zja Zjb Zi5 unA Zbz Zbg Zha Zfb Zas aundef Zcs Zdq Zeq Zjh Zf7 recF memN indF Zhc retN oneK Zbw Zd7 SubR SubRE SubRB InjK InjA qOf Zmn AVal.ren renL Zam ABlk.ren renB Zdj Zlj
def OkV (f:Int) (ls:List Lt):Prop:=ls=[]∨Zra f.toNat ls
open Classical in
noncomputable def errC (f:Int) (ls:List Lt):Int:=
 if 400<ls.length∨200<Zax ls then 7 else if f<0∨40<f then 2 else if OkV f ls then 0 else 3
set_option maxRecDepth 100000 in
set_option maxHeartbeats 4000000 in
theorem c59 (f:Int) (ls:List Lt) (h:ls.length≤1000) :
 Ctr Tryz.prog 73 [cV f ls] ⟨[],1⟩ fun r m=>(errC f ls≠0∧r=.tuple [.nilPtr,.int .i64 (errC f ls)]∧m=⟨[],1⟩) ∨
  (errC f ls=0∧ls=[]∧0≤f∧f≤40∧r=.tuple [.ptr 1 0 0,.int .i64 0]∧m=dM1 f (ls.map rowL)) ∨
  (errC f ls=0∧ls≠[]∧0≤f∧f≤40∧Zra f.toNat ls∧r=.tuple [.ptr 1 0 0,.int .i64 0]∧m=dF f.toNat ls (ls.map rowL) (crE ls ls.length)):=by
 refine Zhq hm Tryz.func73 cf59 rfl rfl fun K hK=>?_
 have hR:=Zbx ls
 have hrr:∀ q,Zam q (ls.map rowL)=ls.map rowL:=fun q=>Zaa q _ (Zab ls)
 have h103:=c103 f ls h
 have h104:=fun F hF=>c104 F ls h hF
 have hE:∀ e:Int,errC f ls=e→e≠0 → ∀ m,SubR 1 [] [(0,.tuple [.nilPtr,.int .i64 e])] ⟨[],1⟩ [(0,.tuple [.nilPtr,.int .i64 e])] m→EndK 1 K (.tuple [.nilPtr,.int .i64 e]) m:=
  fun e he hne m hs=>by subst he; exact endK (hK _ _ (.inl ⟨hne,rfl,rfl⟩)) [] hs
 unfold cV at *
 generalize ls.map rowL=rows at *
 have hlen:=hR.len
 have hv:cntP isX ls=Zax ls:=rfl
 by_cases hl:400<ls.length
 · have hl':(400:Int)<(ls.length:Int):=by omega
   simp [hlen,hl,hl']
   exact hE 7 (by unfold errC; rw [if_pos (.inl hl)]) (by omega) _ (by simp)
 have hl':¬(400:Int)<(ls.length:Int):=by omega
 simp [hlen,hl,hl']
 refine Zai h103 ?_
 rw [hv]
 by_cases hx:200<Zax ls
 · have hx':(200:Int)<(Zax ls:Int):=by omega
   simp [hx,hx']
   exact hE 7 (by unfold errC; rw [if_pos (.inr hx)]) (by omega) _ (by simp)
 have hx':¬(200:Int)<(Zax ls:Int):=by omega
 have h7:¬(400<ls.length∨200<Zax ls):=by omega
 by_cases hf1:f<0
 · simp [hx,hx',hf1]
   exact hE 2 (by unfold errC; rw [if_neg h7,if_pos (.inl hf1)]) (by omega) _ (by simp)
 by_cases hf2:40<f
 · simp [hx,hx',hf1,hf2]
   exact hE 2 (by unfold errC; rw [if_neg h7,if_pos (.inr hf2)]) (by omega) _ (by simp)
 have h2:¬(f<0∨40<f):=by omega
 obtain⟨F,hF⟩:∃ F:Nat,f=(F:Int):=⟨f.toNat,by omega⟩
 subst hF
 simp [hx,hx',hf1,hf2]
 refine Za0 (h104 F (by omega)) [(1,23)] (by simp) (by simp [hrr,Zag,Zac,Zaq]) (by simp) ?_
 rintro r sm (⟨h0,rfl,rfl⟩ | ⟨h0,hok,rfl,rfl⟩ | ⟨h0,hok,rfl,rfl⟩)
 · have he:errC F ls=0:=by unfold errC; rw [if_neg h7,if_neg h2,if_pos (.inl h0)]
   simp [hrr,Zag,Zac,Zaq]
   exact endK (hK _ _ (.inr (.inl ⟨he,h0,by omega,by omega,rfl,rfl⟩))) [(1,23)] (by simp [hrr,Zag,Zac,Zaq])
 · have he:errC F ls=0:=by unfold errC; rw [if_neg h7,if_neg h2,if_pos (.inr hok)]
   simp [hrr,Zag,Zac,Zaq]
   exact endK (hK _ _ (.inr (.inr ⟨he,h0,by omega,by omega,hok,rfl,rfl⟩))) [(1,23),(2,28),(3,29),(4,30),(5,31),(6,32)] (by simp [hrr,Zag,Zac,Zaq])
 · simp [hrr,Zag,Zac,Zaq]
   exact hE 3 (by unfold errC; rw [if_neg h7,if_neg h2,if_neg (fun hh=>hh.elim h0 hok)]) (by omega) _ (by simp)
theorem c30 (f:Int) (ls:List Lt) (h:ls.length≤1000):PCall Tryz.prog 56 [cV f ls] (.int .i64 (errC f ls)):=by
 refine Zbr hm Tryz.func56 cf30 rfl rfl (by simp [Zae,Zbv]) trivial fun K hK=>?_
 have h59:=c59 f ls h
 have hrr:∀ q,Zam q (ls.map rowL)=ls.map rowL:=fun q=>Zaa q _ (Zab ls)
 unfold cV at *
 generalize ls.map rowL=rows at *
 simp
 refine Za0 h59 [] (by simp [hrr]) (by simp) (by simp) ?_
 rintro r sm (⟨he,rfl,rfl⟩ | ⟨he,h0,_,_,rfl,rfl⟩ | ⟨he,h0,_,_,hok,rfl,rfl⟩)
 · simp
   exact endK hK [] (by simp)
 · simp
   rw [he] at hK
   exact endK hK [] (by simp)
 · simp
   rw [he] at hK
   exact endK hK [] (by simp)
end Go.Known
end
