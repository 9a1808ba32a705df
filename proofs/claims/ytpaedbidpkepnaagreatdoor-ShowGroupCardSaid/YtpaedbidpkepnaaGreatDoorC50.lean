/- Part 50 of the proof: Pw. -/
import Derived.Test.YtpaedbidpkepnaaGreatDoorC48
import Derived.Test.YtpaedbidpkepnaaGreatDoorC49
set_option linter.all false
namespace Go.Known
open Go.Plain
theorem idx1_map {φ:Int→Int} {x:Int}:∀ {met:List Int},(∀ z,z∈met→φ x=φ z→x=z)→idx1 (φ x) (met.map φ)=idx1 x met
 | [],_=>rfl
 | z :: r,h=>by
  have ih:=idx1_map (φ:=φ) (x:=x) (met:=r) fun w hw=>h w (List.mem_cons_of_mem _ hw)
  simp only [List.map_cons,idx1,ih]
  by_cases hx:x=z
  · rw [if_pos hx,if_pos (by rw [hx])]
  · rw [if_neg hx,if_neg (fun e=>hx (h z (List.mem_cons_self ..) e))]
theorem metS_sub {met:List Int} {l:Lt} {x:Int} (h:x∈metS met l):x∈met∨(l.k=2∧l.i=x):=by
 unfold metS at h
 split at h
 · rename_i hc
   rcases List.mem_append.1 h with h1 | h1
   · exact .inl h1
   · exact .inr ⟨hc.1,(List.mem_singleton.1 h1).symm⟩
 · exact .inl h
theorem renG_map {φ:Int→Int}:∀ (v:List Lt) (met:List Int),(∀ x y,(x∈met ∨ ∃ a,a∈v∧a.k=2∧a.i=x)→(y∈met ∨ ∃ a,a∈v∧a.k=2∧a.i=y)→φ x=φ y→x=y)→renG (met.map φ) (v.map (ap φ))=renG met v
 | [],_,_=>rfl
 | l :: r,met,h=>by
  have hS:metS (met.map φ) (ap φ l)=(metS met l).map φ:=by
   unfold metS
   rw [ap_k]
   by_cases hk:l.k=2
   · have hi:idx1 (φ l.i) (met.map φ)=idx1 l.i met:=idx1_map fun z hz e=>h _ _ (.inr ⟨l,List.mem_cons_self ..,hk,rfl⟩) (.inl hz) e
     rw [ap_cross hk]
     simp only [hi,hk,true_and]
     split<;>simp
   · simp [hk]
  have hR:renS (met.map φ) (ap φ l)=renS met l:=by
   unfold renS
   rw [ap_k,hS]
   by_cases hk:l.k=2
   · have hi:idx1 (φ l.i) ((metS met l).map φ)=idx1 l.i (metS met l):=idx1_map fun z hz e=>by
      refine h _ _ (.inr ⟨l,List.mem_cons_self ..,hk,rfl⟩) ?_ e
      rcases metS_sub hz with h1 | ⟨h1,h2⟩
      · exact .inl h1
      · exact .inr ⟨l,List.mem_cons_self ..,h1,h2⟩
     rw [if_pos hk,if_pos hk,ap_cross hk]
     simp only [hi]
   · rw [if_neg hk,if_neg hk,ap_other hk]
  simp only [List.map_cons,renG,hR,hS]
  congr 1
  refine renG_map r (metS met l) fun x y hx hy=>h x y ?_ ?_
  · rcases hx with h1 | ⟨a,h1,h2⟩
    · rcases metS_sub h1 with h3 | ⟨h3,h4⟩
      · exact .inl h3
      · exact .inr ⟨l,List.mem_cons_self ..,h3,h4⟩
    · exact .inr ⟨a,List.mem_cons_of_mem _ h1,h2⟩
  · rcases hy with h1 | ⟨a,h1,h2⟩
    · rcases metS_sub h1 with h3 | ⟨h3,h4⟩
      · exact .inl h3
      · exact .inr ⟨l,List.mem_cons_self ..,h3,h4⟩
    · exact .inr ⟨a,List.mem_cons_of_mem _ h1,h2⟩
theorem renN_ap {φ:Int→Int} {v:List Lt} (h:InjI φ v):renN (v.map (ap φ))=renN v:=by
 refine renG_map v [] fun x y hx hy hxy=>?_
 rcases hx with h1 | ⟨a,a1,a2,rfl⟩
 · cases h1
 · rcases hy with h1 | ⟨b,b1,b2,rfl⟩
   · cases h1
   · exact h a a1 b b1 a2 b2 hxy
theorem rot_mvt {y:List Lt} {s p:Nat} (hs:s<y.length) (hp:p<y.length):at' (rotL s y) p=at' y (mvt y.length true s p):=by
 have hv:=mvt_lt (e:=true) hs hp
 have hr:rho y.length s (mvt y.length true s p)=p:=by
  rw [rho_eq hs hv]
  unfold mvt
  simp only [if_true]
  split<;>split<;>omega
 have h1:=rot_at hs hv
 rw [hr] at h1
 exact h1
theorem De_cand {y u:List Lt} (h:De true y u) (hp:isP (at' u 0)=true):∃ i,i<y.length∧(isP (at' y i)&&down y i)=true∧renN u=cand y i:=by
 obtain⟨hl,s,φ,hs,hi,h1⟩:=h
 obtain⟨q1,q2⟩:=h1 0 (by omega)
 rw [mvt_zero hs] at q1 q2
 have hP:isP (at' y s)=true:=by rw [q1,ap_isP] at hp; exact hp
 have hd:down y s=true:=by
  have e:=q2 hp
  have e0:down u 0=true:=rfl
  rw [e0] at e
  cases hds:down y s with
  | true=>rfl
  | false=>rw [hds] at e; cases e
 refine⟨s,hs,by rw [hP,hd]; rfl,?_⟩
 have hu:u=(rotL s y).map (ap φ):=by
  refine at'_ext (by rw [List.length_map,rotL_length,hl]) fun p hp2=>?_
  rw [hl] at hp2
  rw [(h1 p hp2).1,atm (by rw [rotL_length]; exact hp2),rot_mvt hs hp2]
 rw [hu]
 unfold cand
 refine renN_ap fun a ha b hb=>hi a ?_ b ?_
 · unfold rotL at ha
   rcases List.mem_append.1 ha with h1 | h1
   · exact List.mem_of_mem_drop h1
   · exact List.mem_of_mem_take h1
 · unfold rotL at hb
   rcases List.mem_append.1 hb with h1 | h1
   · exact List.mem_of_mem_drop h1
   · exact List.mem_of_mem_take h1
theorem De_Cn {y u:List Lt} {e:Bool} (hy:Ev y) (h:De e y u) (hp:isP (at' u 0)=true):Cn y (renN u):=by
 cases e with
 | true=>exact .inl (De_cand h hp)
 | false=>
  obtain⟨i,h1,h2,h3⟩:=De_cand ((De_back hy).symm.trans h) hp
  rw [backN_length] at h1
  exact .inr ⟨i,h1,h2,h3⟩
theorem renN_ren (u:List Lt):renN (renN u)=renN u:=by
 conv=>lhs; rw [ren_map u]
 exact renN_ap (ren_inj u)
theorem Cn_first {y w:List Lt} (h:Ev y) (hw:Cn y w):isP (at' w 0)=true∧renN w=w:=by
 have key:∀ (l:List Lt) (i:Nat),i<l.length→isP (at' l i)=true→isP (at' (cand l i) 0)=true∧renN (cand l i)=cand l i:=fun l i hi hp=>by
  refine⟨?_,renN_ren _⟩
  unfold cand
  rw [ren_map,atm (by rw [rotL_length]; omega),ap_isP,rot_mvt hi (by omega),mvt_zero hi]
  exact hp
 rcases hw with⟨i,h1,h2,rfl⟩ | ⟨i,h1,h2,rfl⟩
 · simp only [Bool.and_eq_true] at h2
   exact key _ _ h1 h2.1
 · simp only [Bool.and_eq_true] at h2
   exact key _ _ (by rw [backN_length]; exact h1) h2.1
theorem Cn_same {y x:List Lt} {e:Bool} (hy:Ev y) (hx:Ev x) (h:De e y x) (w:List Lt):Cn y w→Cn x w:=fun hw=>by
 obtain⟨e1,h1⟩:=Cn_De hy hw
 obtain⟨h2,h3⟩:=Cn_first hy hw
 have:=De_Cn hx (h.symm.trans h1) h2
 rw [h3] at this
 exact this
theorem ltI_trans:∀ {a b c:List Int},ltI a b=true→ltI b c=true→ltI a c=true
 | [],_,_,h,_=>by simp [ltI] at h
 | _ :: _,[],_,h,_=>by simp [ltI] at h
 | _ :: _,_ :: _,[],_,h=>by simp [ltI] at h
 | x :: r,y :: s,z :: t,h1,h2=>by
  simp only [ltI] at h1 h2 ⊢
  by_cases hxy:x=y
  · rw [if_pos hxy] at h1
    by_cases hyz:y=z
    · rw [if_pos hyz] at h2
      rw [if_pos (hxy.trans hyz)]
      exact ltI_trans h1 h2
    · rw [if_neg hyz] at h2
      rw [if_neg (by rw [hxy]; exact hyz),hxy]
      exact h2
  · rw [if_neg hxy] at h1
    by_cases hyz:y=z
    · rw [← hyz,if_neg hxy]
      exact h1
    · rw [if_neg hyz] at h2
      simp only [decide_eq_true_eq] at h1 h2
      rw [if_neg (by omega)]
      simp only [decide_eq_true_eq]
      omega
theorem ltI_total:∀ {a b:List Int},a.length=b.length→ltI a b=false→ltI b a=false→a=b
 | [],[],_,_,_=>rfl
 | [],_ :: _,h,_,_=>by simp at h
 | _ :: _,[],h,_,_=>by simp at h
 | x :: r,y :: s,h,h1,h2=>by
  simp only [ltI] at h1 h2
  by_cases hxy:x=y
  · rw [if_pos hxy] at h1
    rw [if_pos hxy.symm] at h2
    rw [hxy,ltI_total (by simpa using h) h1 h2]
  · rw [if_neg hxy] at h1
    rw [if_neg (fun e=>hxy e.symm)] at h2
    simp only [decide_eq_false_iff_not] at h1 h2
    omega
theorem ltI_app:∀ {p q r s:List Int},p.length=q.length→ltI (p++r) (q++s)=if p=q then ltI r s else ltI p q
 | [],[],_,_,_=>by simp
 | [],_ :: _,_,_,h=>by simp at h
 | _ :: _,[],_,_,h=>by simp at h
 | x :: p,y :: q,r,s,h=>by
  have ih:=ltI_app (p:=p) (q:=q) (r:=r) (s:=s) (by simpa using h)
  simp only [List.cons_append,ltI,List.cons.injEq]
  by_cases hxy:x=y
  · rw [if_pos hxy,if_pos hxy,ih]
    simp [hxy]
  · simp [hxy]
theorem num_inj {a b:Lt} (h:numL a=numL b):a=b:=by
 unfold numL at h
 simp only [List.cons.injEq,and_true] at h
 obtain⟨h1,h2,h3,h4,h5,h6⟩:=h
 have h7:a.o=b.o:=by cases ha:a.o<;>cases hb:b.o<;>rw [ha,hb] at h5<;>simp at h5 ⊢
 obtain⟨a1,a2,a3,a4,a5,a6⟩:=a
 obtain⟨b1,b2,b3,b4,b5,b6⟩:=b
 simp only at h1 h2 h3 h4 h6 h7
 subst h1; subst h2; subst h3; subst h4; subst h6; subst h7
 rfl
def keyN (w:List Lt):List Int:=w.flatMap numL
theorem keyN_length:∀ w:List Lt,(keyN w).length=6*w.length
 | []=>rfl
 | a :: r=>by
  have:=keyN_length r
  unfold keyN at this ⊢
  rw [List.flatMap_cons,List.length_append,this]
  simp [numL]
  omega
theorem ltLs_key:∀ {a b:List Lt},a.length=b.length→ltLs a b=ltI (keyN a) (keyN b)
 | [],[],_=>rfl
 | [],_ :: _,h=>by simp at h
 | _ :: _,[],h=>by simp at h
 | x :: r,y :: s,h=>by
  have ih:=ltLs_key (a:=r) (b:=s) (by simpa using h)
  unfold keyN at ih ⊢
  rw [List.flatMap_cons,List.flatMap_cons,ltI_app (by simp [numL]),ltI_num,← ih]
  simp only [ltLs]
  by_cases hxy:x=y
  · rw [if_pos hxy,if_pos (by rw [hxy])]
  · rw [if_neg hxy,if_neg (fun e=>hxy (num_inj e))]
theorem keyN_inj:∀ {a b:List Lt},a.length=b.length→keyN a=keyN b→a=b
 | [],[],_,_=>rfl
 | [],_ :: _,h,_=>by simp at h
 | _ :: _,[],h,_=>by simp at h
 | x :: r,y :: s,h,e=>by
  unfold keyN at e
  rw [List.flatMap_cons,List.flatMap_cons] at e
  obtain⟨e1,e2⟩:=List.append_inj e (by simp [numL])
  rw [num_inj e1,keyN_inj (by simpa using h) e2]
def Bst (z:Option (List Lt)) (n:Nat) (S:List Lt→Prop):Prop:=
 match z with
 | none=>∀ u,¬S u
 | some w=>S w ∧ ∀ u,S u→u.length=n∧ltLs u w=false
theorem Bst.congr {z:Option (List Lt)} {n:Nat} {S T:List Lt→Prop} (h:Bst z n S) (hs:∀ u,S u↔T u):Bst z n T:=by
 cases z with
 | none=>exact fun u hu=>h u ((hs u).2 hu)
 | some w=>exact ⟨(hs w).1 h.1,fun u hu=>h.2 u ((hs u).2 hu)⟩
theorem nstep_bst {l:List Lt} {i n:Nat} {z:Option (List Lt)} {S:List Lt→Prop} (hl:l.length=n) (h:Bst z n S):Bst (nstep l i z) n (fun u=>S u∨((isP (at' l i)&&down l i)=true∧u=cand l i)):=by
 have hc:(cand l i).length=n:=by rw [cand_length,hl]
 unfold nstep
 by_cases hp:(isP (at' l i)&&down l i)=true
 · rw [if_pos hp]
   cases z with
   | none=>
    refine⟨.inr ⟨hp,rfl⟩,fun u hu=>?_⟩
    rcases hu with h1 | ⟨_,rfl⟩
    · exact absurd h1 (h u)
    · exact⟨hc,ltLs_irr _⟩
   | some w=>
    obtain⟨hw,hm⟩:=h
    have hwl:=(hm w hw).1
    simp only
    by_cases hlt:ltLs (cand l i) w=true
    · rw [if_pos hlt]
      refine⟨.inr ⟨hp,rfl⟩,fun u hu=>?_⟩
      rcases hu with h1 | ⟨_,rfl⟩
      · obtain⟨q1,q2⟩:=hm u h1
        refine⟨q1,?_⟩
        cases hx:ltLs u (cand l i) with
        | false=>rfl
        | true=>
         rw [ltLs_key (by rw [q1,hc])] at hx
         rw [ltLs_key (by rw [hc,hwl])] at hlt
         have:=ltI_trans hx hlt
         rw [← ltLs_key (by rw [q1,hwl]),q2] at this
         cases this
      · exact⟨hc,ltLs_irr _⟩
    · have hlt':ltLs (cand l i) w=false:=by simpa using hlt
      rw [if_neg hlt]
      refine⟨.inl hw,fun u hu=>?_⟩
      rcases hu with h1 | ⟨_,rfl⟩
      · exact hm u h1
      · exact⟨hc,hlt'⟩
 · rw [if_neg hp]
   exact h.congr fun u=>⟨.inl,fun h1=>h1.elim id fun h2=>absurd h2.1 hp⟩
theorem nrun_bst {l:List Lt} {n:Nat} {z:Option (List Lt)} {S:List Lt→Prop} (hl:l.length=n) (h:Bst z n S):∀ k,Bst (nrun l z k) n (fun u=>S u ∨ ∃ i,i<k∧(isP (at' l i)&&down l i)=true∧u=cand l i)
 | 0=>h.congr fun u=>⟨.inl,fun h1=>h1.elim id fun⟨i,h2,_⟩=>by omega⟩
 | k+1=>by
  refine(nstep_bst hl (nrun_bst hl h k)).congr fun u=>⟨fun h1=>?_,fun h1=>?_⟩
  · rcases h1 with(h2 | ⟨i,h2,h3⟩) | ⟨h2,h3⟩
    · exact .inl h2
    · exact .inr ⟨i,by omega,h3⟩
    · exact .inr ⟨k,by omega,h2,h3⟩
  · rcases h1 with h2 | ⟨i,h2,h3⟩
    · exact .inl (.inl h2)
    · rcases Nat.lt_succ_iff_lt_or_eq.1 h2 with h4 | h4
      · exact .inl (.inr ⟨i,h4,h3⟩)
      · subst h4; exact .inr h3
theorem normO_bst (y:List Lt):Bst (normO y) y.length (Cn y):=by
 have h0:Bst none y.length (fun _=>False):=fun _ h=>h
 have h1:=nrun_bst (l:=y) rfl h0 y.length
 have h2:=nrun_bst (l:=backN y) (backN_length y) h1 y.length
 refine h2.congr fun u=>⟨fun h=>?_,fun h=>?_⟩
 · rcases h with(h | h) | h
   · exact h.elim
   · exact .inl h
   · exact .inr h
 · rcases h with h | h
   · exact .inl (.inr h)
   · exact .inr h
theorem norm_of_Cn {y x:List Lt} (hl:x.length=y.length) (h:∀ w,Cn y w↔Cn x w):normN y=normN x:=by
 have h1:=normO_bst y
 have h2:=normO_bst x
 unfold normN
 cases hy:normO y with
 | none=>
  rw [hy] at h1
  cases hx:normO x with
  | none=>rfl
  | some v=>rw [hx] at h2; exact absurd ((h v).2 h2.1) (h1 v)
 | some w=>
  rw [hy] at h1
  cases hx:normO x with
  | none=>rw [hx] at h2; exact absurd ((h w).1 h1.1) (h2 w)
  | some v=>
   rw [hx] at h2
   obtain⟨a1,a2⟩:=h1.2 v ((h v).2 h2.1)
   obtain⟨b1,b2⟩:=h2.2 w ((h w).1 h1.1)
   have hvw:v.length=w.length:=by rw [a1,b1,hl]
   rw [ltLs_key hvw] at a2
   rw [ltLs_key hvw.symm] at b2
   exact(keyN_inj hvw (ltI_total (by rw [keyN_length,keyN_length,hvw]) a2 b2)).symm
theorem norm_De {y x:List Lt} {e:Bool} (hy:Ev y) (hx:Ev x) (h:De e y x):normN y=normN x:=
 norm_of_Cn h.1 fun w=>⟨Cn_same hy hx h w,Cn_same hx hy h.symm w⟩
theorem norm_Cn {y:List Lt} (h0:y≠[]) (hf:isP (at' y 0)=true):Cn y (normN y):=by
 have h:=normO_bst y
 rw [normO_some h0 hf] at h
 exact h.1
theorem De_norm {y x:List Lt} (hy:Ev y) (hx:Ev x) (fy:isP (at' y 0)=true) (fx:isP (at' x 0)=true) (h:normN y=normN x):∃ e,De e y x:=by
 obtain⟨e1,h1⟩:=Cn_De hy (norm_Cn hy.ne fy)
 obtain⟨e2,h2⟩:=Cn_De hx (norm_Cn hx.ne fx)
 rw [h] at h1
 exact⟨_,h1.trans h2.symm⟩
end Go.Known
