/- Part 49 of the proof: Pu, Pv. -/
import Derived.Test.YtpaedbidpkepnaaGreatDoorC48
set_option linter.all false
section
namespace Go.Known
open Go.Plain
def mvt (n:Nat) (e:Bool) (s p:Nat):Nat:=if e then (if s+p<n then s+p else s+p - n) else (if p≤s then s - p else s+n - p)
theorem mvt_lt {n s p:Nat} {e:Bool} (hs:s<n) (hp:p<n):mvt n e s p<n:=by
 unfold mvt
 cases e<;>simp only [Bool.false_eq_true,if_false,if_true]<;>split<;>omega
theorem mvt_zero {n s:Nat} {e:Bool} (hs:s<n):mvt n e s 0=s:=by
 unfold mvt
 cases e<;>simp only [Bool.false_eq_true,if_false,if_true]<;>split<;>omega
theorem mvt_mv {n s1 s2 p:Nat} {e1 e2:Bool} (h1:s1<n) (h2:s2<n) (hp:p<n):mvt n e1 s1 (mvt n e2 s2 p)=mvt n (e1 == e2) (mvt n e1 s1 s2) p:=by
 unfold mvt
 cases e1<;>cases e2<;>simp only [show (false == false)=true from rfl,show (true == true)=true from rfl,show (true == false)=false from rfl,show (false == true)=false from rfl,Bool.false_eq_true,if_false,if_true]<;>(repeat' split)<;>omega
def ivt (n:Nat) (e:Bool) (s:Nat):Nat:=if e then (if s=0 then 0 else n - s) else s
theorem ivt_lt {n s:Nat} {e:Bool} (hs:s<n):ivt n e s<n:=by
 unfold ivt
 cases e<;>simp only [Bool.false_eq_true,if_false,if_true]<;>(try split)<;>omega
theorem mvt_inv {n s p:Nat} {e:Bool} (hs:s<n) (hp:p<n):mvt n e s (mvt n e (ivt n e s) p)=p:=by
 unfold mvt ivt
 cases e<;>simp only [Bool.false_eq_true,if_false,if_true]<;>(repeat' split)<;>omega
def ap (φ:Int→Int) (l:Lt):Lt:=if l.k=2 then { l with i:=φ l.i } else l
theorem ap_k (φ:Int→Int) (l:Lt):(ap φ l).k=l.k:=by unfold ap; split<;>rfl
theorem ap_isP (φ:Int→Int) (l:Lt):isP (ap φ l)=isP l:=by unfold isP; rw [ap_k]
theorem ap_cross {φ:Int→Int} {l:Lt} (h:l.k=2):ap φ l={ l with i:=φ l.i }:=by unfold ap; rw [if_pos h]
theorem ap_other {φ:Int→Int} {l:Lt} (h:¬l.k=2):ap φ l=l:=by unfold ap; rw [if_neg h]
theorem ap_id (l:Lt):ap id l=l:=by unfold ap; split<;>rfl
theorem ap_ap (φ ψ:Int→Int) (l:Lt):ap ψ (ap φ l)=ap (ψ∘φ) l:=by
 by_cases h:l.k=2
 · rw [ap_cross h,ap_cross (l:={ l with i:=φ l.i }) h,ap_cross h]; rfl
 · rw [ap_other h,ap_other h,ap_other h]
def InjI (φ:Int→Int) (y:List Lt):Prop:=∀ a,a∈y → ∀ b,b∈y→a.k=2→b.k=2→φ a.i=φ b.i→a.i=b.i
def De (e:Bool) (y x:List Lt):Prop:=x.length=y.length ∧ ∃ s φ,s<y.length∧InjI φ y ∧ ∀ p,p<y.length→at' x p=ap φ (at' y (mvt y.length e s p))∧(isP (at' x p)=true→down x p=(down y (mvt y.length e s p) == e))
theorem mem_at {y:List Lt} {a:Lt} (h:a∈y):∃ p,p<y.length∧at' y p=a:=by
 obtain⟨p,hp,e⟩:=List.getElem_of_mem h
 exact⟨p,hp,by simp [at',List.getD,hp,e]⟩
theorem De.trans {e1 e2:Bool} {y x z:List Lt} (h1:De e1 y x) (h2:De e2 x z):De (e1 == e2) y z:=by
 obtain⟨l1,s1,φ1,hs1,i1,p1⟩:=h1
 obtain⟨l2,s2,φ2,hs2,i2,p2⟩:=h2
 rw [l1] at hs2 p2
 refine⟨l2.trans l1,mvt y.length e1 s1 s2,φ2∘φ1,mvt_lt hs1 hs2,fun a ha b hb hka hkb hab=>?_,fun p hp=>?_⟩
 · obtain⟨pa,pa1,rfl⟩:=mem_at ha
   obtain⟨pb,pb1,rfl⟩:=mem_at hb
   have qa:=(p1 _ (mvt_lt (e:=e1) (ivt_lt (e:=e1) hs1) pa1)).1
   have qb:=(p1 _ (mvt_lt (e:=e1) (ivt_lt (e:=e1) hs1) pb1)).1
   rw [mvt_inv hs1 pa1] at qa
   rw [mvt_inv hs1 pb1] at qb
   have ma:ap φ1 (at' y pa)∈x:=by rw [← qa]; exact at'_mem (by rw [l1]; exact mvt_lt (ivt_lt hs1) pa1)
   have mb:ap φ1 (at' y pb)∈x:=by rw [← qb]; exact at'_mem (by rw [l1]; exact mvt_lt (ivt_lt hs1) pb1)
   refine i1 _ ha _ hb hka hkb ?_
   have:=i2 _ ma _ mb (by rw [ap_k]; exact hka) (by rw [ap_k]; exact hkb)
   rw [ap_cross hka,ap_cross hkb] at this
   exact this hab
 · have hq:=mvt_lt (e:=e2) hs2 hp
   obtain⟨a1,a2⟩:=p2 p hp
   obtain⟨b1,b2⟩:=p1 _ hq
   rw [mvt_mv hs1 hs2 hp] at b1 b2
   refine⟨by rw [a1,b1,ap_ap],fun hz=>?_⟩
   rw [a2 hz,b2 (by rw [a1,ap_isP] at hz; exact hz)]
   cases e1<;>cases e2<;>cases down y _<;>rfl
theorem De.symm {e:Bool} {y x:List Lt} (h:De e y x):De e x y:=by
 obtain⟨l1,s,φ,hs,i1,p1⟩:=h
 obtain⟨ψ,hψ⟩:∃ ψ:Int→Int,∀ a,a∈y→a.k=2→ψ (φ a.i)=a.i:=by
  have hc:∀ j:Int,∃ i:Int,∀ a,a∈y→a.k=2→φ a.i=j→i=a.i:=fun j=>by
   by_cases hx:∃ a,a∈y∧a.k=2∧φ a.i=j
   · obtain⟨a,h1,h2,h3⟩:=hx
     exact⟨a.i,fun b hb hk hj=>i1 a h1 b hb h2 hk (by rw [h3,hj])⟩
   · exact⟨0,fun b hb hk hj=>absurd ⟨b,hb,hk,hj⟩ hx⟩
  obtain⟨ψ,h⟩:=Classical.axiomOfChoice hc
  exact⟨ψ,fun a ha hk=>h _ a ha hk rfl⟩
 refine⟨l1.symm,ivt y.length e s,ψ,by rw [l1]; exact ivt_lt hs,fun a ha b hb hka hkb hab=>?_,fun p hp=>?_⟩
 · obtain⟨pa,pa1,rfl⟩:=mem_at ha
   obtain⟨pb,pb1,rfl⟩:=mem_at hb
   rw [l1] at pa1 pb1
   have qa:=(p1 pa pa1).1
   have qb:=(p1 pb pb1).1
   rw [qa,ap_k] at hka
   rw [qb,ap_k] at hkb
   rw [qa,qb,ap_cross hka,ap_cross hkb] at hab ⊢
   simp only at hab ⊢
   rw [hψ _ (at'_mem (mvt_lt hs pa1)) hka,hψ _ (at'_mem (mvt_lt hs pb1)) hkb] at hab
   rw [hab]
 · rw [l1] at hp ⊢
   have hq:=mvt_lt (e:=e) (ivt_lt (e:=e) hs) hp
   obtain⟨a1,a2⟩:=p1 _ hq
   rw [mvt_inv hs hp] at a1 a2
   have hm:=at'_mem hp
   refine⟨?_,fun hz=>?_⟩
   · rw [a1]
     by_cases hk:(at' y p).k=2
     · rw [ap_cross hk,ap_cross (l:={ at' y p with i:=φ (at' y p).i }) hk]
       simp only [hψ _ hm hk]
     · rw [ap_other hk,ap_other hk]
   · rw [a2 (by rw [a1,ap_isP]; exact hz)]
     cases e<;>cases down y p<;>rfl
end Go.Known
end
section
namespace Go.Known
open Go.Plain
theorem atm {g:Lt→Lt} {l:List Lt} {p:Nat} (h:p<l.length):at' (l.map g) p=g (at' l p):=by simp [at',List.getD,h]
theorem passes_ap (φ:Int→Int) (l:List Lt):passes (l.map (ap φ))=passes l:=by
 unfold passes
 rw [cntP_map]
 exact cntP_congr fun a _=>ap_isP φ a
theorem down_ap (φ:Int→Int) (l:List Lt) (p:Nat):down (l.map (ap φ)) p=down l p:=by
 unfold down
 rw [← List.map_take,passes_ap]
theorem mets_mono {y:List Lt} {x:Int} {p:Nat} (h:idx1 x (mets y p)≠0):∀ k,p+k≤y.length→idx1 x (mets y (p+k))=idx1 x (mets y p)
 | 0,_=>rfl
 | k+1,hk=>by
  have ih:=mets_mono h k (by omega)
  have hs:=mets_succ (ls:=y) (i:=p+k) (by omega)
  rw [← Nat.add_assoc,hs]
  unfold metS
  split
  · rw [idx1_snoc (by rw [ih]; exact h),ih]
  · exact ih
theorem idx1_inj:∀ {met:List Int} {x y:Int},idx1 x met≠0→idx1 x met=idx1 y met→x=y
 | [],_,_,h,_=>absurd rfl h
 | z :: r,x,y,h,e=>by
  simp only [idx1] at h e
  by_cases hx:x=z
  · rw [if_pos hx] at e
    by_cases hy:y=z
    · rw [hx,hy]
    · rw [if_neg hy] at e
      split at e<;>omega
  · rw [if_neg hx] at h e
    by_cases h0:idx1 x r=0
    · rw [if_pos h0] at h; exact absurd rfl h
    · rw [if_neg h0] at e
      by_cases hy:y=z
      · rw [if_pos hy] at e; omega
      · rw [if_neg hy] at e
        split at e
        · omega
        · exact idx1_inj h0 (by omega)
theorem met_at {y:List Lt} {p:Nat} (hp:p<y.length) (hk:(at' y p).k=2):idx1 (at' y p).i (mets y (p+1))≠0:=by
 rw [mets_succ hp]
 unfold metS
 by_cases h:idx1 (at' y p).i (mets y p)=0
 · rw [if_pos ⟨hk,h⟩,idx1_new h]; omega
 · rw [if_neg (fun e=>h e.2)]; exact h
theorem ren_map (y:List Lt):renN y=y.map (ap fun i=>(idx1 i (mets y y.length):Nat)):=by
 refine at'_ext (by rw [renN_length,List.length_map]) fun p hp=>?_
 rw [renN_length] at hp
 rw [renN_get hp,atm hp]
 unfold renS
 by_cases hk:(at' y p).k=2
 · rw [if_pos hk,ap_cross hk,← mets_succ hp]
   have:=mets_mono (met_at hp hk) (y.length - (p+1)) (by omega)
   rw [show p+1+(y.length - (p+1))=y.length by omega] at this
   rw [this]
 · rw [if_neg hk,ap_other hk]
theorem ren_inj (y:List Lt):InjI (fun i=>(idx1 i (mets y y.length):Nat)) y:=by
 intro a ha b hb hka hkb hab
 obtain⟨p,hp,rfl⟩:=mem_at ha
 have h1:=met_at hp hka
 have h2:=mets_mono h1 (y.length - (p+1)) (by omega)
 rw [show p+1+(y.length - (p+1))=y.length by omega] at h2
 refine idx1_inj (met:=mets y y.length) (by rw [h2]; exact h1) ?_
 have:((idx1 (at' y p).i (mets y y.length):Nat):Int)=(idx1 b.i (mets y y.length):Nat):=hab
 omega
theorem De_map {y:List Lt} {φ:Int→Int} (h0:y≠[]) (hφ:InjI φ y):De true y (y.map (ap φ)):=by
 have hlp:0<y.length:=List.length_pos_iff.2 h0
 refine⟨List.length_map _,0,φ,hlp,hφ,fun p hp=>?_⟩
 have e:mvt y.length true 0 p=p:=by simp [mvt]; omega
 rw [e,atm hp,down_ap]
 exact⟨rfl,fun _=>by cases down y p<;>rfl⟩
theorem De_ren {y:List Lt} (h0:y≠[]):De true y (renN y):=by
 rw [ren_map]
 exact De_map h0 (ren_inj y)
theorem inj_id (y:List Lt):InjI id y:=fun _ _ _ _ _ _ h=>h
theorem De_rot {y:List Lt} {s:Nat} (he:passes y % 2=0) (hs:s<y.length) (hd:down y s=true):De true y (rotL s y):=by
 refine⟨rot_len s y,s,id,hs,inj_id y,fun p hp=>?_⟩
 have hv:=mvt_lt (e:=true) hs hp
 have hr:rho y.length s (mvt y.length true s p)=p:=by
  rw [rho_eq hs hv]
  unfold mvt
  simp only [if_true]
  split<;>split<;>omega
 have h1:=rot_at hs hv
 have h2:=rot_passes hs hv
 rw [hr] at h1 h2
 refine⟨by rw [h1,ap_id],fun _=>?_⟩
 unfold down at hd ⊢
 simp only [beq_iff_eq] at hd
 have e:(passes ((rotL s y).take p) % 2 == 0)=(passes (y.take (mvt y.length true s p)) % 2 == 0):=by
  have:passes ((rotL s y).take p) % 2=passes (y.take (mvt y.length true s p)) % 2:=by
   split at h2<;>omega
  rw [this]
 rw [e]
 cases (passes (y.take (mvt y.length true s p)) % 2 == 0)<;>rfl
theorem rev_down {y:List Lt} (he:passes y % 2=0) {p:Nat} (hp:p<y.length) (hz:isP (at' y (y.length - 1 - p))=true):down y.reverse p = !down y (y.length - 1 - p):=by
 have hc:∀ a b:List Lt,passes (a++b)=passes a+passes b:=fun a b=>cntP_append _ a b
 have hrv:∀ a:List Lt,passes a.reverse=passes a:=fun a=>by unfold passes cntP; rw [List.filter_reverse,List.length_reverse]
 have h1:y.reverse.take p=(y.drop (y.length - p)).reverse:=by rw [List.take_reverse]
 have h2:=hc (y.take (y.length - p)) (y.drop (y.length - p))
 rw [List.take_append_drop] at h2
 have h3:=passes_succ (ls:=y) (i:=y.length - 1 - p) (by omega)
 rw [hz,show y.length - 1 - p+1=y.length - p by omega] at h3
 simp only [if_true] at h3
 unfold down
 rw [h1,hrv]
 have e:passes (y.drop (y.length - p)) % 2=(passes (y.take (y.length - 1 - p))+1) % 2:=by omega
 rw [e]
 rcases Nat.mod_two_eq_zero_or_one (passes (y.take (y.length - 1 - p))) with h | h
 · rw [h,show (passes (y.take (y.length - 1 - p))+1) % 2=1 by omega]; rfl
 · rw [h,show (passes (y.take (y.length - 1 - p))+1) % 2=0 by omega]; rfl
theorem De_rev {y:List Lt} (h0:y≠[]) (he:passes y % 2=0):De false y y.reverse:=by
 have hlp:0<y.length:=List.length_pos_iff.2 h0
 refine⟨List.length_reverse,y.length - 1,id,by omega,inj_id y,fun p hp=>?_⟩
 have e:mvt y.length false (y.length - 1) p=y.length - 1 - p:=by simp [mvt]; omega
 rw [e,at'_rev hp,ap_id]
 refine⟨rfl,fun hz=>?_⟩
 rw [rev_down he hp hz]
 cases down y (y.length - 1 - p)<;>rfl
structure Ev (y:List Lt):Prop where
 ne:y≠[]
 ev:passes y % 2=0
 bk:∃ i,i<y.length∧bkC y i=true
theorem ValR.evx {f:Int} {y:List Lt} (h:ValR f y) (h0:y≠[]):Ev y:=⟨h0,h.evn,h.bk h0⟩
theorem rev_passes (y:List Lt):passes y.reverse=passes y:=by unfold passes cntP; rw [List.filter_reverse,List.length_reverse]
theorem De_back {y:List Lt} (h:Ev y):De false y (backN y):=by
 obtain⟨i0,h1,h2,h3⟩:=first_of h.bk
 rw [back_at h1 h2 h3]
 have hz:isP (at' y.reverse i0)=true:=by simp only [bkC,Bool.and_eq_true] at h2; exact h2.1
 have hd:down y (y.length - 1 - i0)=false:=by simp only [bkC,Bool.and_eq_true,Bool.not_eq_true'] at h2; exact h2.2
 have hr:=De_rev h.ne h.ev
 have hdr:down y.reverse i0=true:=by rw [rev_down h.ev h1 (by rw [← at'_rev h1]; exact hz),hd]; rfl
 have:=hr.trans (De_rot (s:=i0) (by rw [rev_passes]; exact h.ev) (by rw [List.length_reverse]; exact h1) hdr)
 exact this
theorem back_passes (y:List Lt):passes (backN y)=passes y:=by
 unfold backN
 split
 · exact(rot_cnt _ _ _).trans (rev_passes y)
 · exact rev_passes y
def Cn (y w:List Lt):Prop:=(∃ i,i<y.length∧(isP (at' y i)&&down y i)=true∧w=cand y i)∨(∃ i,i<y.length∧(isP (at' (backN y) i)&&down (backN y) i)=true∧w=cand (backN y) i)
theorem rot_ne {y:List Lt} (s:Nat) (h0:y≠[]):rotL s y≠[]:=by
 intro e
 have:=congrArg List.length e
 rw [rotL_length] at this
 exact h0 (List.length_eq_zero_iff.1 this)
theorem cand_De {y:List Lt} {i:Nat} (h0:y≠[]) (he:passes y % 2=0) (hi:i<y.length) (hp:(isP (at' y i)&&down y i)=true):De true y (cand y i):=by
 simp only [Bool.and_eq_true] at hp
 exact(De_rot he hi hp.2).trans (De_ren (rot_ne i h0))
theorem Cn_De {y w:List Lt} (h:Ev y) (hw:Cn y w):∃ e,De e y w:=by
 rcases hw with⟨i,h1,h2,rfl⟩ | ⟨i,h1,h2,rfl⟩
 · exact⟨_,cand_De h.ne h.ev h1 h2⟩
 · have hb:backN y≠[]:=by
    intro e
    have:=congrArg List.length e
    rw [backN_length] at this
    exact h.ne (List.length_eq_zero_iff.1 this)
   exact⟨_,(De_back h).trans (cand_De hb (by rw [back_passes]; exact h.ev) (by rw [backN_length]; exact h1) h2)⟩
end Go.Known
end
