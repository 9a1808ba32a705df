/- Part 42 of the proof: Yb. -/
import Derived.Test.YtipeejpafgnjdaaGreatDoorG39
set_option linter.all false
namespace Go.Known
open Go.Plain
theorem Zwr {n u:Nat} (hu:u<n) (fw:Bool):bkN (Zb5 n u fw)=arr n u (!fw):=by
 unfold bkN Zb5 arr
 cases fw
 ·simp only[Bool.false_eq_true,if_false,Bool.not_false,if_true]
  rw[if_neg (by omega)]
  omega
 ·simp only[if_true,Bool.not_true,Bool.false_eq_true,if_false]
  rw[if_pos (by omega)]
theorem Z74 (d:Nat):bkN (bkN d)=d:=by
 unfold bkN
 split
 ·rw[if_neg (by omega)]; omega
 ·rw[if_pos (by omega)]; omega
theorem bk_lt {n d:Nat} (h:d<2*n):bkN d<2*n:=by unfold bkN; split<;>omega
section
variable {ls:List Lt}
def smN (ls:List Lt) (v:Nat):Bool:=((at' ls v).o == ((at' ls v).s == 1))
abbrev otN (ls:List Lt) (v:Nat):Nat:=Zbf ls v ls.length 0
theorem Z6c {v:Nat} (hv:v<ls.length) (hk:(at' ls v).k=2) (b:Bool):tnN ls (arr ls.length v b)=Zb5 ls.length (otN ls v) (b == smN ls v):=by
 unfold tnN
 rw[Zlr hv,if_pos hk]
 rfl
theorem Zqb {v:Nat} (hv:v<ls.length) (b:Bool):ldN ls (arr ls.length v b)=at' ls v:=by
 unfold ldN
 rw[(Zmg hv b).2.1]
def rotN (ls:List Lt) (d:Nat):Nat:=bkN (tnN ls d)
theorem Zmy (hw:Wv ls) {v:Nat} (hv:v<ls.length) (hk:(at' ls v).k=2) (b:Bool):rotN ls (arr ls.length v b)=arr ls.length (otN ls v) (b != smN ls v):=by
 have h1:=hw.oth v hv hk
 unfold rotN
 rw[Z6c hv hk,Zwr h1.1]
 rfl
theorem sm_ot (hw:Wv ls) {v:Nat} (hv:v<ls.length) (hk:(at' ls v).k=2):smN ls (otN ls v) = !smN ls v:=by
 obtain⟨h1,h2,h3,h4,h5⟩:=hw.oth v hv hk
 unfold smN otN
 rw[h4,h5]
 cases (at' ls v).o<;>cases ((at' ls v).s == 1)<;>rfl
theorem rot2 (hw:Wv ls) {v:Nat} (hv:v<ls.length) (hk:(at' ls v).k=2) (b:Bool):rotN ls (rotN ls (arr ls.length v b))=arr ls.length v (!b):=by
 obtain⟨h1,h2,h3,h4,h5⟩:=hw.oth v hv hk
 rw[Zmy hw hv hk,Zmy hw h1 h2,sm_ot hw hv hk]
 have:otN ls (otN ls v)=v:=h3
 rw[this]
 congr 1
 cases b<;>cases smN ls v<;>rfl
theorem rot4 (hw:Wv ls) {d:Nat} (hd:d<2*ls.length) (hk:(ldN ls d).k=2):rotN ls (rotN ls (rotN ls (rotN ls d)))=d:=by
 obtain⟨v,b,hv,rfl⟩:=Zs9 hd
 rw[Zqb hv]at hk
 rw[rot2 hw hv hk,rot2 hw hv hk,Bool.not_not]
theorem Zup (hw:Wv ls) {d:Nat} (hd:d<2*ls.length) (hk:(ldN ls d).k=2):tnN ls d<2*ls.length∧rotN ls d<2*ls.length∧(ldN ls (rotN ls d)).k=2:=by
 obtain⟨v,b,hv,rfl⟩:=Zs9 hd
 rw[Zqb hv]at hk
 obtain⟨h1,h2,h3,h4,h5⟩:=hw.oth v hv hk
 have ht:tnN ls (arr ls.length v b)<2*ls.length:=by rw[Z6c hv hk]; exact Zd6 h1
 refine⟨ht,bk_lt ht,?_⟩
 rw[Zmy hw hv hk,Zqb h1]
 exact h2
theorem Zrr {n v v':Nat} {b b':Bool} (hv:v<n) (hv':v'<n) (h:arr n v b=arr n v' b'):v=v'∧b=b':=by
 obtain⟨_,h1,h2⟩:=Zmg hv b
 obtain⟨_,h3,h4⟩:=Zmg hv' b'
 rw[h]at h1 h2
 exact⟨h1.symm.trans h3,h2.symm.trans h4⟩
structure Frt (ls:List Lt) (front:List Nat) (done:List Int):Prop where
 nd:front.Nodup
 lt:∀ d,d∈front→d<2*ls.length
 tl:∀ d,d∈front→(ldN ls (bkN d)).k=2→(ldN ls (bkN d)).i∈done
theorem tl_tn (hw:Wv ls) {d:Nat} (hd:d<2*ls.length) (hk:(ldN ls d).k=2) (hi:∀ v,v<ls.length→(at' ls v).k=2→(at' ls (Zbf ls v ls.length 0)).i=(at' ls v).i):(ldN ls (bkN (tnN ls d))).i=(ldN ls d).i:=by
 obtain⟨v,b,hv,rfl⟩:=Zs9 hd
 rw[Zqb hv]at hk ⊢
 have:=Zmy hw hv hk b
 unfold rotN at this
 rw[this,Zqb (hw.oth v hv hk).1]
 exact hi v hv hk
theorem Zgk {l:List Nat} {i:Nat} (h:i<l.length):l.getD i 0∈l:=by
 rw[List.getD,List.getElem?_eq_getElem h]
 exact List.getElem_mem _
theorem Z52 (hw:Wv ls) {front:List Nat} {done:List Int} (hF:Frt ls front done) (id:Int) (i:Nat):folN ls id front (i+1)≤3:=by
 have step:∀ j,okF ls id front j=true→j<front.length→(ldN ls (front.getD j 0)).k=2∧rotN ls (front.getD j 0)=front.getD (j - 1) 0:=fun j h hj=>by
  simp only[okF,Bool.and_eq_true,decide_eq_true_eq]at h
  refine⟨h.1.1,?_⟩
  unfold rotN
  rw[h.2,Z74]
 by_cases h1:i+1<front.length∧okF ls id front (i+1)=true
 ·rw[Zh4 h1.1 h1.2]
  by_cases h2:i+2<front.length∧okF ls id front (i+2)=true
  ·rw[Zh4 h2.1 h2.2]
   by_cases h3:i+3<front.length∧okF ls id front (i+3)=true
   ·rw[Zh4 h3.1 h3.2]
    by_cases h4:i+4<front.length∧okF ls id front (i+4)=true
    ·exfalso
     have s1:=(step _ h1.2 h1.1).2
     have s2:=(step _ h2.2 h2.1).2
     have s3:=(step _ h3.2 h3.1).2
     obtain⟨s5,s4⟩:=step _ h4.2 h4.1
     have e1:i+1 - 1=i:=rfl
     have e2:i+2 - 1=i+1:=rfl
     have e3:i+3 - 1=i+2:=rfl
     have e4:i+4 - 1=i+3:=rfl
     rw[e1]at s1
     rw[e2]at s2
     rw[e3]at s3
     rw[e4]at s4
     have:=rot4 hw (hF.lt _ (Zgk h4.1)) s5
     rw[s4,s3,s2,s1]at this
     have hne:=List.pairwise_iff_getElem.1 hF.nd i (i+4) (by omega) h4.1 (by omega)
     apply hne
     rw[List.getD,List.getD,List.getElem?_eq_getElem (show i<front.length by omega),List.getElem?_eq_getElem h4.1]at this
     simpa using this
    ·rw[Zfy h4]; omega
   ·rw[Zfy h3]; omega
  ·rw[Zfy h2]; omega
 ·rw[Zfy h1]; omega
theorem out_ok (hw:Wv ls) (hi:∀ v,v<ls.length→(at' ls v).k=2→(at' ls (Zbf ls v ls.length 0)).i=(at' ls v).i):∀ k x,x<2*ls.length→(ldN ls x).k=2 → ∀ d,d∈outN ls x k→d<2*ls.length∧(ldN ls (bkN d)).k=2∧(ldN ls (bkN d)).i=(ldN ls x).i:=by
 intro k
 induction k with
 | zero=>intro x _ _ d hd; simp[outN]at hd
 | succ k ih=>
  intro x hx hk d hd
  obtain⟨t1,t2,t3⟩:=Zup hw hx hk
  have t4:=tl_tn hw hx hk hi
  rcases List.mem_cons.1 hd with rfl|hd
  ·exact⟨t1,t3,t4⟩
  ·obtain⟨q1,q2,q3⟩:=ih _ t2 t3 d hd
   exact⟨q1,q2,q3.trans t4⟩
theorem out_nd (hw:Wv ls) (hn:∀ v,v<ls.length→(at' ls v).k=2→Zbf ls v ls.length 0≠v) {x:Nat} (hx:x<2*ls.length) (hk:(ldN ls x).k=2) {k:Nat} (h:k≤3):(outN ls x k).Nodup:=by
 have bi:∀ a b,bkN a=bkN b→a=b:=fun a b e=>by rw[← Z74 a,e,Z74]
 have full:(outN ls x 3).Nodup:=by
  obtain⟨v,b,hv,rfl⟩:=Zs9 hx
  rw[Zqb hv]at hk
  obtain⟨h1,h2,h3,h4,h5⟩:=hw.oth v hv hk
  have r1:=Zmy hw hv hk b
  have r2:=rot2 hw hv hk b
  have r3:rotN ls (rotN ls (rotN ls (arr ls.length v b)))=arr ls.length (otN ls v) ((!b) != smN ls v):=by rw[r2,Zmy hw hv hk]
  have ho:otN ls v≠v:=hn v hv hk
  have e:outN ls (arr ls.length v b) 3=[tnN ls (arr ls.length v b),tnN ls (rotN ls (arr ls.length v b)),tnN ls (rotN ls (rotN ls (arr ls.length v b)))]:=rfl
  have n12:tnN ls (arr ls.length v b)≠tnN ls (rotN ls (arr ls.length v b)):=fun e=>by
   have:rotN ls (arr ls.length v b)=rotN ls (rotN ls (arr ls.length v b)):=by unfold rotN at e ⊢; rw[← e]
   rw[r2,r1]at this
   exact ho (Zrr h1 hv this).1
  have n13:tnN ls (arr ls.length v b)≠tnN ls (rotN ls (rotN ls (arr ls.length v b))):=fun e=>by
   have:rotN ls (arr ls.length v b)=rotN ls (rotN ls (rotN ls (arr ls.length v b))):=by unfold rotN at e ⊢; rw[← e]
   rw[r3,r1]at this
   have:=(Zrr h1 h1 this).2
   revert this
   cases b<;>cases smN ls v<;>simp
  have n23:tnN ls (rotN ls (arr ls.length v b))≠tnN ls (rotN ls (rotN ls (arr ls.length v b))):=fun e=>by
   have:rotN ls (rotN ls (arr ls.length v b))=rotN ls (rotN ls (rotN ls (arr ls.length v b))):=by unfold rotN at e ⊢; rw[← e]
   rw[r3,r2]at this
   exact ho (Zrr hv h1 this).1.symm
  rw[e]
  simp[n12,n13,n23]
 have hs:List.Sublist (outN ls x k) (outN ls x 3):=by
  have e:∀ k y,List.Sublist (outN ls y k) (outN ls y (k+1)):=by
   intro k
   induction k with
   | zero=>intro y; exact List.nil_sublist _
   | succ k ih=>intro y; exact(ih _).cons_cons _
  have:∀ j,k+j=3→List.Sublist (outN ls x k) (outN ls x 3):=by
   intro j
   induction j generalizing k with
   | zero=>intro hj; rw[show k=3 by omega]; exact List.Sublist.refl _
   | succ j ih=>intro hj; exact(e k x).trans (ih (by omega) (by omega))
  exact this (3 - k) (by omega)
 exact List.Nodup.sublist hs full
theorem Frt.step (hw:Wv ls) (hi:∀ v,v<ls.length→(at' ls v).k=2→Zbf ls v ls.length 0≠v∧(at' ls (Zbf ls v ls.length 0)).i=(at' ls v).i) {front f:List Nat} {done dn:List Int} {r:Rw} (hF:Frt ls front done) (h0:front≠[]) (h:sdrN 4 ls front done=some (r,f,dn)):Frt ls f dn:=by
 have hpos:0<front.length:=List.length_pos_iff.2 h0
 unfold sdrN at h
 split at h
 ·rename_i hc
  simp only[Option.some.injEq,Prod.mk.injEq]at h
  obtain⟨_,rfl,rfl⟩:=h
  have hs:List.Sublist (front.take (capN front)++front.drop (capN front+2)) front:=by
   have h1:List.Sublist (front.drop (capN front+2)) (front.drop (capN front)):=by
    rw[← List.drop_drop]
    exact List.drop_sublist _ _
   have h2:=List.Sublist.append (List.Sublist.refl (front.take (capN front))) h1
   rwa[List.take_append_drop]at h2
  exact⟨List.Nodup.sublist hs hF.nd,fun d hd=>hF.lt d (hs.subset hd),fun d hd=>hF.tl d (hs.subset hd)⟩
 ·split at h
  ·cases h
  ·rename_i hb
   simp only[Option.some.injEq,Prod.mk.injEq]at h
   obtain⟨_,rfl,rfl⟩:=h
   rcases Zil (runN 4 ls done front) front.length with⟨h1,_,_⟩|⟨h1,h2,h3⟩
   ·exact absurd h1 hb
   ·obtain⟨k1,k2,k3⟩:=Zsf (c:=4) (ls:=ls) (done:=done) (front:=front) (i:=(bstN (runN 4 ls done front) front.length).1) (by rw[h3]; exact h1)
    generalize (bstN (runN 4 ls done front) front.length).1=a at *
    generalize (bstN (runN 4 ls done front) front.length).2=n at *
    have hm:=hF.lt _ (Zgk h2)
    have hout:=out_ok hw (fun v hv hk=>(hi v hv hk).2) (4 - n) _ hm k1
    have hnd:=out_nd hw (fun v hv hk=>(hi v hv hk).1) hm k1 (k:=4 - n) (by omega)
    have htake:∀ d,d∈front.take a→d∈front:=fun d hd=>List.mem_of_mem_take hd
    have hdrop:∀ d,d∈front.drop (a+n)→d∈front:=fun d hd=>List.mem_of_mem_drop hd
    have hdis:∀ d,d∈front→d∉outN ls (front.getD a 0) (4 - n):=fun d hd ho=>by
     obtain⟨_,q2,q3⟩:=hout d ho
     have:=hF.tl d hd q2
     rw[q3]at this
     exact k2 this
    have hsplit:(front.take a++front.drop (a+n)).Nodup:=by
     refine List.Nodup.sublist ?_ hF.nd
     have h1:List.Sublist (front.drop (a+n)) (front.drop a):=by
      rw[← List.drop_drop]
      exact List.drop_sublist _ _
     have h2:=List.Sublist.append (List.Sublist.refl (front.take a)) h1
     rwa[List.take_append_drop]at h2
    rw[List.nodup_append]at hsplit
    refine⟨?_,fun d hd=>?_,fun d hd hk=>?_⟩
    ·rw[List.append_assoc,List.nodup_append]
     refine⟨hsplit.1,?_,fun x hx y hy=>?_⟩
     ·rw[List.nodup_append]
      exact⟨hnd,hsplit.2.1,fun x hx y hy e=>hdis y (hdrop y hy) (e ▸ hx)⟩
     ·rcases List.mem_append.1 hy with hy|hy
      ·exact fun e=>hdis x (htake x hx) (e ▸ hy)
      ·exact hsplit.2.2 x hx y hy
    ·rcases List.mem_append.1 hd with hd|hd
     ·rcases List.mem_append.1 hd with hd|hd
      ·exact hF.lt d (htake d hd)
      ·exact(hout d hd).1
     ·exact hF.lt d (hdrop d hd)
    ·rcases List.mem_append.1 hd with hd|hd
     ·rcases List.mem_append.1 hd with hd|hd
      ·exact List.mem_append_left _ (hF.tl d (htake d hd) hk)
      ·rw[(hout d hd).2.2]; simp
     ·exact List.mem_append_left _ (hF.tl d (hdrop d hd) hk)
theorem Zxh (ls:List Lt) (hk:∀ v,v<ls.length→(at' ls v).k≠2→(at' ls v).k=1):Frt ls (frt0 ls) []:=by
 have hup:∀ v,v<ls.length→bkN (upN ls v)=arr ls.length v (down ls v):=fun v hv=>by
  unfold upN
  rw[Zwr hv,Bool.not_not]
 refine⟨?_,fun d hd=>?_,fun d hd hk2=>?_⟩
 ·unfold frt0
  unfold List.Nodup
  rw[List.pairwise_map]
  refine List.Pairwise.imp_of_mem (fun {a b} ha hb hne e=>hne ?_) (Zej ls)
  have ha:=(mem_axis.1 ha).1
  have hb:=(mem_axis.1 hb).1
  have e2:bkN (upN ls a)=bkN (upN ls b):=by rw[e]
  rw[hup a ha,hup b hb]at e2
  exact(Zrr ha hb e2).1
 ·obtain⟨v,hv,rfl⟩:=List.mem_map.1 hd
  exact Zd6 (mem_axis.1 hv).1
 ·obtain⟨v,hv,rfl⟩:=List.mem_map.1 hd
  obtain⟨h1,h2⟩:=mem_axis.1 hv
  rw[hup v h1,Zqb h1]at hk2
  simp[isP,hk2]at h2
end
end Go.Known
