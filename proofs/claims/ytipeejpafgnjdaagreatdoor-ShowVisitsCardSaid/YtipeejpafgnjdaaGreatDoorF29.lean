/- Part 29 of the proof: Pm, Ph. -/
import Derived.Test.YtipeejpafgnjdaaGreatDoorF23
import Derived.Test.YtipeejpafgnjdaaGreatDoorF24
import Derived.Test.YtipeejpafgnjdaaGreatDoorF28
set_option linter.all false
section
namespace Go.Known
open Go.Plain
section
variable {ls:List Lt}
structure Wv (ls:List Lt):Prop where
 pas:0<passes ls
 kin:∀ v,v<ls.length→(at' ls v).k≠2→(at' ls v).k=1
 oth:∀ v,v<ls.length→(at' ls v).k=2→otherN ls v ls.length 0<ls.length∧(at' ls (otherN ls v ls.length 0)).k=2∧otherN ls (otherN ls v ls.length 0) ls.length 0=v ∧
  (at' ls (otherN ls v ls.length 0)).o=(!(at' ls v).o)∧(at' ls (otherN ls v ls.length 0)).s=(at' ls v).s
structure Img (ls ls':List Lt) (ρ σ:Nat→Nat) (fl:Bool):Prop where
 wv:Wv ls
 len:ls'.length=ls.length
 pas:passes ls'=passes ls
 lt:∀ v,v<ls.length→ρ v<ls.length
 ltr:∀ v,v<ls.length→σ v<ls.length
 inv:∀ v,v<ls.length→σ (ρ v)=v
 inr:∀ v,v<ls.length→ρ (σ v)=v
 pre:∀ v,v<ls.length→ρ ((v+ls.length - 1) % ls.length)=(ρ v+ls.length - 1) % ls.length
 kin:∀ v,v<ls.length→(at' ls' (ρ v)).k=(at' ls v).k
 oth:∀ v,v<ls.length→(at' ls v).k=2→otherN ls' (ρ v) ls.length 0=ρ (otherN ls v ls.length 0)
 ov:∀ v,v<ls.length→(at' ls v).k=2→((at' ls' (ρ v)).o == ((at' ls' (ρ v)).s == 1)) = !((at' ls v).o == ((at' ls v).s == 1))
 dn:∀ v,v<ls.length→(at' ls v).k=1→down ls' (ρ v)=(down ls v != fl)
 idx:∀ v,v<ls.length→(at' ls v).k=1→idxN (ρ v) (axis ls')=if fl then idxN v (axis ls) else passes ls - 1 - idxN v (axis ls)
section
variable {ls ls':List Lt} {ρ σ:Nat→Nat} {fl:Bool} (h:Img ls ls' ρ σ fl)
include h
end
end
end Go.Known
end
section
namespace Go.Known
open Go.Plain
theorem cnt_idx (p:Lt→Bool) (ls:List Lt):∃ L:List Nat,L.Nodup∧cntP p ls=L.length ∧ ∀ x,x∈L↔(x<ls.length∧p (at' ls x)=true):=
 ⟨(List.range ls.length).filter fun j=>p (at' ls j),List.nodup_range.filter _,(range_filter ls p).symm,fun x=>by simp⟩
theorem cnt_one {p:Lt→Bool} {ls:List Lt} {j:Nat} (hj:j<ls.length) (hp:p (at' ls j)=true) (hu:∀ x,x<ls.length→p (at' ls x)=true→x=j):cntP p ls=1:=by
 obtain⟨L,hn,hl,hm⟩:=cnt_idx p ls
 rw [hl]
 have hjm:=(hm j).2 ⟨hj,hp⟩
 match L,hn,hm,hjm with
 | [],_,_,h=>simp at h
 | [_],_,_,_=>rfl
 | y :: z :: t,hn,hm,_=>
  have hy:=(hm y).1 (by simp)
  have hz:=(hm z).1 (by simp)
  have:y=z:=(hu y hy.1 hy.2).trans (hu z hz.1 hz.2).symm
  subst this
  simp at hn
theorem one_cnt {p:Lt→Bool} {ls:List Lt} (h:cntP p ls=1) {j k:Nat} (hj:j<ls.length) (hpj:p (at' ls j)=true) (hk:k<ls.length) (hpk:p (at' ls k)=true):j=k:=by
 obtain⟨L,hn,hl,hm⟩:=cnt_idx p ls
 rw [hl] at h
 have hjm:=(hm j).2 ⟨hj,hpj⟩
 have hkm:=(hm k).2 ⟨hk,hpk⟩
 match L,h,hjm,hkm with
 | [y],_,hjm,hkm=>simp at hjm hkm; omega
theorem cnt_ex {p:Lt→Bool} {ls:List Lt} (h:0<cntP p ls):∃ j,j<ls.length∧p (at' ls j)=true:=by
 obtain⟨L,hn,hl,hm⟩:=cnt_idx p ls
 rw [hl] at h
 match L,h,hm with
 | y :: t,_,hm=>exact ⟨y,(hm y).1 (by simp)⟩
theorem cnt_two {p:Lt→Bool} {ls:List Lt} {a b:Nat} (ha:a<ls.length) (hpa:p (at' ls a)=true) (hb:b<ls.length) (hpb:p (at' ls b)=true) (hab:a≠b) (hu:∀ x,x<ls.length→p (at' ls x)=true→x=a∨x=b):cntP p ls=2:=by
 obtain⟨L,hn,hl,hm⟩:=cnt_idx p ls
 rw [hl]
 have hma:=(hm a).2 ⟨ha,hpa⟩
 have hmb:=(hm b).2 ⟨hb,hpb⟩
 match L,hn,hm,hma,hmb with
 | [],_,_,h,_=>simp at h
 | [y],_,_,h1,h2=>simp at h1 h2; omega
 | [_,_],_,_,_,_=>rfl
 | x :: y :: z :: t,hn,hm,_,_=>
  have hx:=(hm x).1 (by simp)
  have hy:=(hm y).1 (by simp)
  have hz:=(hm z).1 (by simp)
  have h1:=hu x hx.1 hx.2
  have h2:=hu y hy.1 hy.2
  have h3:=hu z hz.1 hz.2
  simp only [List.nodup_cons,List.mem_cons,not_or] at hn
  omega
theorem two_cnt {p:Lt→Bool} {ls:List Lt} (h:cntP p ls=2) {a b x:Nat} (ha:a<ls.length) (hpa:p (at' ls a)=true) (hb:b<ls.length) (hpb:p (at' ls b)=true) (hab:a≠b) (hx:x<ls.length) (hpx:p (at' ls x)=true):x=a∨x=b:=by
 obtain⟨L,hn,hl,hm⟩:=cnt_idx p ls
 rw [hl] at h
 have hma:=(hm a).2 ⟨ha,hpa⟩
 have hmb:=(hm b).2 ⟨hb,hpb⟩
 have hmx:=(hm x).2 ⟨hx,hpx⟩
 match L,h,hma,hmb,hmx with
 | [y,z],_,h1,h2,h3=>simp at h1 h2 h3; omega
theorem two_ex {p:Lt→Bool} {ls:List Lt} (h:cntP p ls=2) {a:Nat} (ha:a<ls.length) (hpa:p (at' ls a)=true):∃ b,b<ls.length∧p (at' ls b)=true∧a≠b:=by
 obtain⟨L,hn,hl,hm⟩:=cnt_idx p ls
 rw [hl] at h
 have hma:=(hm a).2 ⟨ha,hpa⟩
 match L,h,hn,hm,hma with
 | [y,z],_,hn,hm,h1=>
  have hy:=(hm y).1 (by simp)
  have hz:=(hm z).1 (by simp)
  simp at h1 hn
  rcases h1 with h1 | h1
  · exact⟨z,hz.1,hz.2,by omega⟩
  · exact⟨y,hy.1,hy.2,by omega⟩
theorem pos_inj {F:Nat} {ls:List Lt} (hG:Gated F ls) {a b:Lt} (ha:a∈ls) (hb:b∈ls) (hpa:isP a=true) (hpb:isP b=true) (ha1:1≤a.r) (ha2:a.r≤(inG a.g ls:Nat)) (hb1:1≤b.r) (hb2:b.r≤(inG b.g ls:Nat)) (h:pos ls a=pos ls b):a.g=b.g∧a.r=b.r:=by
 obtain⟨G,hg⟩:∃ G:Nat,a.g=(G:Nat):=⟨a.g.toNat,by have:=hG a ha hpa; omega⟩
 obtain⟨H,hh⟩:∃ H:Nat,b.g=(H:Nat):=⟨b.g.toNat,by have:=hG b hb hpb; omega⟩
 rw [pos_eq hg,pos_eq hh] at h
 rw [hg] at ha2
 rw [hh] at hb2
 have mono:∀ x y,x≤y→tot ls x≤tot ls y:=fun x y hxy=>by
  induction hxy with
  | refl=>exact Nat.le_refl _
  | step _ ih=>rw [tot_succ]; omega
 have h1:=tot_succ ls G
 have h2:=tot_succ ls H
 rcases Nat.lt_trichotomy G H with h3 | h3 | h3
 · have:=mono (G+1) H h3; omega
 · subst h3; omega
 · have:=mono (H+1) G h3; omega
theorem crE_get (ls:List Lt):∀ i q e,(crE ls i)[q]? = some e→fnd e.1 (crE ls i)=some (q,e.2)
 | 0,q,e,h=>by simp [crE] at h
 | i+1,q,e,h=>by
  have ih:=crE_get ls i
  simp only [crE] at h ⊢
  split at h
  · rename_i hx
    rw [if_pos hx]
    unfold updE at h ⊢
    cases hf:fnd (at' ls i).i (crE ls i) with
    | some pv=>
     obtain⟨p,v⟩:=pv
     rw [hf] at h
     simp only at h ⊢
     rw [List.getElem?_set] at h
     split at h
     · rename_i hpq
       split at h
       · cases h
         subst hpq
         rw [fnd_set hf,if_pos rfl]
       · cases h
     · rename_i hpq
       have h1:=ih q e h
       rw [fnd_set hf,if_neg (fun e1=>by rw [e1,hf] at h1; cases h1; exact hpq rfl)]
       exact h1
    | none=>
     rw [hf] at h
     simp only at h ⊢
     rw [fnd_snoc hf]
     rw [List.getElem?_append] at h
     split at h
     · have h1:=ih q e h
       rw [if_neg (fun e1=>by rw [e1,hf] at h1; cases h1)]
       exact h1
     · rename_i hge
       obtain⟨h1,h2⟩:=List.getElem?_eq_some_iff.1 h
       simp at h1 h2
       subst h2
       rw [if_pos rfl]
       have:q=(crE ls i).length:=by omega
       rw [this]
  · rename_i hx
    rw [if_neg hx]
    exact ih q e h
theorem at_of_mem {ls:List Lt} {l:Lt} (h:l∈ls):∃ j,j<ls.length∧at' ls j=l:=by
 obtain⟨j,hj,he⟩:=List.getElem_of_mem h
 exact⟨j,hj,by rw [at',List.getD,List.getElem?_eq_getElem hj,he]; rfl⟩
theorem letters_to {F:Nat} {ls:List Lt} (h:ls.all (okR F ls)=true):ls.all (okC F)=true∧rkF ls (passes ls) ls.length=true∧CrOk ls:=by
 have hl:∀ l,l∈ls→okR F ls l=true:=List.all_eq_true.1 h
 have hC:ls.all (okC F)=true:=List.all_eq_true.2 fun l hm=>by
  have:=hl l hm
  unfold okR at this
  unfold okC
  split at this
  · rename_i hk
    rw [if_pos hk]
    simp at this ⊢
    grind
  · rename_i hk
    split at this
    · rename_i hk2
      rw [if_neg hk,if_pos hk2]
      simp at this ⊢
      omega
    · cases this
 have hG:=gated_of hC
 have hP:∀ v,v<ls.length→isP (at' ls v)=true→1≤(at' ls v).r∧(at' ls v).r≤(inG (at' ls v).g ls:Nat)∧same (at' ls v) ls=1:=fun v hv hp=>by
  have:=hl _ (at'_mem hv)
  simp only [isP,beq_iff_eq] at hp
  unfold okR at this
  rw [if_pos hp] at this
  simp at this
  exact⟨this.1.1.2,this.1.2,this.2⟩
 have hX:∀ v,v<ls.length→isX (at' ls v)=true→1≤(at' ls v).i∧(at' ls v).i≤(visits ls / 2:Nat)∧pairs (at' ls v) ls=1∧times (at' ls v).i ls=2:=fun v hv hp=>by
  have:=hl _ (at'_mem hv)
  simp only [isX,beq_iff_eq] at hp
  unfold okR at this
  rw [if_neg (by omega),if_pos hp] at this
  simp at this
  exact⟨this.1.1.1.2,by omega,this.1.2,this.2⟩
 have hrk:∀ i,i≤ls.length→rkF ls (passes ls) i=true:=by
  intro i
  induction i with
  | zero=>exact fun _=>rfl
  | succ i ih=>
   intro hi
   have h1:=ih (by omega)
   simp only [rkF,Bool.and_eq_true,Bool.or_eq_true,Bool.not_eq_true',decide_eq_true_eq]
   refine⟨h1,?_⟩
   cases hp:isP (at' ls i) with
   | false=>exact .inl rfl
   | true=>
    right
    obtain⟨r1,r2,r3⟩:=hP i (by omega) hp
    refine⟨⟨r1,r2⟩,?_⟩
    have hin:=at'_mem (show i<ls.length by omega)
    obtain⟨b,hb,hiff⟩:=takenF_spec (ls:=ls) (m:=passes ls) i _ (pos_lt hG hin hp r1 r2)
    rw [List.getD,hb]
    simp only [Option.getD_some]
    cases b with
    | false=>rfl
    | true=>
     obtain⟨j,hj,hpj,he⟩:=hiff.1 rfl
     obtain⟨s1,s2,_⟩:=hP j (by omega) hpj
     obtain⟨e1,e2⟩:=pos_inj hG (at'_mem (by omega)) hin hpj hp s1 s2 r1 r2 he
     have hk:(at' ls j).k=(at' ls i).k:=by simp only [isP,beq_iff_eq] at hp hpj; omega
     have:=one_cnt r3 (j:=j) (k:=i) (by omega) (by simp [e1,e2,hk]) (by omega) (by simp)
     omega
 have pairW:∀ v,v<ls.length→isX (at' ls v)=true → ∃ x,x<ls.length∧isX (at' ls x)=true∧(at' ls x).i=(at' ls v).i∧(at' ls x).s=(at' ls v).s∧(at' ls x).o≠(at' ls v).o:=fun v hv hx=>by
  obtain⟨_,_,h3,_⟩:=hX v hv hx
  obtain⟨x,hxl,hxp⟩:=cnt_ex (p:=fun o=>o.k == (at' ls v).k&&o.i == (at' ls v).i&&o.s == (at' ls v).s&&o.o != (at' ls v).o) (ls:=ls) (by unfold pairs at h3; omega)
  simp only [Bool.and_eq_true,beq_iff_eq,bne_iff_ne,ne_eq] at hxp
  refine⟨x,hxl,?_,hxp.1.1.2,hxp.1.2,hxp.2⟩
  simp only [isX,beq_iff_eq] at hx ⊢
  omega
 have hcr:∀ i,i≤ls.length→crF ls (visits ls) i=true:=by
  intro i
  induction i with
  | zero=>exact fun _=>rfl
  | succ i ih=>
   intro hi
   have h1:=ih (by omega)
   simp only [crF,Bool.and_eq_true,Bool.or_eq_true,Bool.not_eq_true',decide_eq_true_eq]
   refine⟨h1,?_⟩
   cases hx:isX (at' ls i) with
   | false=>exact .inl rfl
   | true=>
    right
    obtain⟨r1,r2,r3,r4⟩:=hX i (by omega) hx
    refine⟨⟨r1,r2⟩,?_⟩
    obtain⟨b,c,d,e⟩:=crInv i (by omega) h1
    unfold fitE
    cases hf:fnd (at' ls i).i (crE ls i) with
    | none=>rfl
    | some pv=>
     obtain⟨q,v⟩:=pv
     simp only [Bool.and_eq_true,decide_eq_true_eq]
     obtain⟨x,hxl,hxx,hxi,hxs,hxo⟩:=pairW i (by omega) hx
     have key:∀ j,j<i→isX (at' ls j)=true→(at' ls j).i=(at' ls i).i→x=j:=fun j hj hjx hji=>by
      have:=two_cnt r4 (a:=i) (b:=j) (x:=x) (by omega) (by simp [hx]) (by omega) (by simp [hjx,hji]) (by omega) hxl (by simp [hxx,hxi])
      rcases this with h7 | h7
      · subst h7; exact absurd rfl hxo
      · exact h7
     have hneg:slotV (at' ls i).o v<0:=by
      rcases Int.lt_or_le (slotV (at' ls i).o v) 0 with h7 | h7
      · exact h7
      · obtain⟨j,j1,j2,j3,j4,j5⟩:=b _ _ _ hf _ h7
        have:=key j j1 j3 j4
        subst this
        exact absurd j5 hxo
     refine⟨hneg,?_⟩
     obtain⟨v1,v2,v3⟩:=crE_ok ls i _ (List.mem_of_getElem? (fnd_mem hf))
     simp only at v1 v2 v3
     have hpos:0≤slotV (!(at' ls i).o) v:=by
      cases ho:(at' ls i).o<;>rw [ho] at hneg<;>simp only [slotV,Bool.not_true,Bool.not_false,Bool.false_eq_true,if_true,if_false] at hneg ⊢ <;> omega
     obtain⟨j,j1,j2,j3,j4,j5⟩:=b _ _ _ hf _ hpos
     have:=key j j1 j3 j4
     subst this
     rw [j2,Int.toNat_natCast]
     exact hxs
 have hcf:=hcr ls.length (Nat.le_refl _)
 obtain⟨b,c,d,e⟩:=crInv ls.length (Nat.le_refl _) hcf
 rw [List.take_length] at e
 have hfull:∀ en,en∈crE ls ls.length→fil en.2=2:=by
  intro en hen
  obtain⟨q,hq,hqe⟩:=List.getElem_of_mem hen
  have hfe:=crE_get ls ls.length q en (by rw [List.getElem?_eq_getElem hq,hqe])
  obtain⟨v1,v2,v3⟩:=crE_ok ls ls.length _ hen
  obtain⟨o,ho⟩:∃ o,0≤slotV o en.2:=by
   by_cases h7:0≤en.2.1
   · exact⟨false,h7⟩
   · exact⟨true,by show 0≤en.2.2; omega⟩
  obtain⟨j,j1,j2,j3,j4,j5⟩:=b _ _ _ hfe o ho
  obtain⟨_,_,_,r4⟩:=hX j j1 j3
  obtain⟨k,k1,k2,k3⟩:=two_ex r4 j1 (by simp [j3])
  simp only [Bool.and_eq_true,beq_iff_eq] at k2
  obtain⟨p',w',g1,g2⟩:=c k k1 k2.1
  rw [k2.2,j4,hfe] at g1
  cases g1
  have hko:(at' ls k).o≠o:=fun e1=>by rw [e1,j2] at g2; omega
  have h8:0≤slotV (at' ls k).o en.2:=by rw [g2]; omega
  cases o<;>cases h9:(at' ls k).o<;>rw [h9] at hko h8<;>simp only [slotV,Bool.false_eq_true,if_true,if_false] at ho h8<;>first
   | exact absurd rfl hko
   | (unfold fil; rw [if_pos (by omega),if_pos (by omega)])
 have hsum:∀ E:List Ent,(∀ en,en∈E→fil en.2=2)→sumF E=2*E.length:=by
  intro E
  induction E with
  | nil=>exact fun _=>rfl
  | cons x r ih=>
   intro hE
   simp only [sumF,List.length_cons,hE x (List.mem_cons_self ..),ih fun en hen=>hE en (List.mem_cons_of_mem _ hen)]
   omega
 have hs:=hsum _ hfull
 have hv:visits ls=cntP isX ls:=rfl
 exact⟨hC,hrk _ (Nat.le_refl _),by omega,hcf,by omega⟩
theorem crF_range {ls:List Lt} {n:Nat}:∀ {i:Nat},crF ls n i=true → ∀ j,j<i→isX (at' ls j)=true→1≤(at' ls j).i∧(at' ls j).i≤(n / 2:Nat)
 | 0,_,j,hj,_=>by omega
 | i+1,h,j,hj,hx=>by
  simp only [crF,Bool.and_eq_true,Bool.or_eq_true,Bool.not_eq_true',decide_eq_true_eq] at h
  rcases Nat.lt_or_ge j i with h4 | h4
  · exact crF_range h.1 j h4 hx
  · have:j=i:=by omega
    subst this
    rcases h.2 with h5 | h5
    · rw [hx] at h5; cases h5
    · exact h5.1
theorem letters_back {F:Nat} {ls:List Lt} (hC:ls.all (okC F)=true) (hr:rkF ls (passes ls) ls.length=true) (hc:CrOk ls):ls.all (okR F ls)=true:=by
 have hG:=gated_of hC
 obtain⟨hrk,hap⟩:=ranked_of hG hr
 refine List.all_eq_true.2 fun l hm=>?_
 obtain⟨v,hv,rfl⟩:=at_of_mem hm
 have h1:=List.all_eq_true.1 hC _ hm
 unfold okC at h1
 unfold okR
 split at h1
 · rename_i hk
   rw [if_pos hk]
   have hp:isP (at' ls v)=true:=by simp [isP,hk]
   obtain⟨r1,r2⟩:=hrk _ hm hp
   have hs:same (at' ls v) ls=1:=cnt_one hv (by simp) fun x hx hpx=>by
    simp only [Bool.and_eq_true,beq_iff_eq] at hpx
    exact hap x v hx hv (by simp [isP,hpx.1.1,hk]) hp hpx.1.2 hpx.2
   simp at h1 ⊢
   grind
 · rename_i hk
   rw [if_neg hk]
   split at h1
   · rename_i hk2
     rw [if_pos hk2]
     have hx:isX (at' ls v)=true:=by simp [isX,hk2]
     obtain⟨i1,i2⟩:=crF_range hc.2.1 v hv hx
     obtain⟨p,w,j,g1,g2,g3,g4,g5,g6,g7,g8,g9,g10,g11⟩:=cross_other hc hv hx
     have ht:times (at' ls v).i ls=2:=cnt_two hv (by simp [hx]) g4 (by simp [g6,g7]) (fun e=>g5 e.symm) fun x hxl hxp=>by
      simp only [Bool.and_eq_true,beq_iff_eq] at hxp
      exact g10 x hxl hxp.1 hxp.2
     have hj2:(at' ls j).k=2:=by simpa [isX] using g6
     have hpr:pairs (at' ls v) ls=1:=cnt_one g4 (by simp [g7,g8,g9,hj2,hk2]) fun x hxl hxp=>by
      simp only [Bool.and_eq_true,beq_iff_eq,bne_iff_ne,ne_eq] at hxp
      rcases g10 x hxl (by simp [isX,hxp.1.1.1,hk2]) hxp.1.1.2 with h5 | h5
      · subst h5; exact absurd rfl hxp.2
      · exact h5
     simp at h1 ⊢
     omega
   · cases h1
end Go.Known
end
