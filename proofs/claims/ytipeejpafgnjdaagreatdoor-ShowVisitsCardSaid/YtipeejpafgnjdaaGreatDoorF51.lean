/- Part 51 of the proof: Wq, Wu, Wv. -/
import Derived.Test.YtipeejpafgnjdaaGreatDoorF50
set_option linter.all false
section
namespace Go.Known
open Go Go.AE Go.Proofs
open Go.Plain
theorem mixP_iff {gs:List Fg}:mixP gs=true ↔ ∃ j,j<gs.length∧(fgAt gs j).p≠perF gs:=by
 unfold mixP
 rw [List.any_eq_true]
 constructor
 · rintro⟨x,hx,h⟩
   obtain⟨j,hj,rfl⟩:=List.getElem_of_mem hx
   exact⟨j,hj,by rw [fgAt_eq hj]; simpa using h⟩
 · rintro⟨j,hj,h⟩
   exact⟨_,List.getElem_mem hj,by rw [← fgAt_eq hj]; simpa using h⟩
end Go.Known
end
section
namespace Go.Known
open Go.Plain
theorem fo_in {f:Int} {ls:List Lt} (h:ValR f ls) {g:Int} {a:Nat} (ha:a≤inG g ls):foN (g+1) (inN g a ls)=ls:=by
 have hG:(inG g (inN g a ls):Int)=a:=by
  rw [in_inG h ha,if_neg (by omega),if_pos rfl]
 have key:∀ l,l∈ls→foL (g+1) (inN g a ls) (inL g a l)=l:=by
  intro l hm
  by_cases hk:l.k=1
  · obtain⟨q1,q2,q3,_⟩:=(h.key hm (by simp [isP,hk])).2
    have hg1:g+1 - 1=g:=by omega
    unfold inL
    by_cases h1:g<l.g∨l.g=g∧(a:Int)<l.r
    · rw [if_pos ⟨hk,h1⟩]
      unfold foL
      simp only
      rw [if_pos ⟨hk,by omega⟩,hg1,hG]
      by_cases h2:l.g=g
      · rw [if_pos h2,if_pos (by omega)]
        cases l
        simp at *
      · rw [if_neg h2,if_neg (by omega)]
        cases l
        simp at *
    · rw [if_neg (fun e=>h1 e.2)]
      unfold foL
      rw [if_neg (by omega)]
  · rw [in_cross hk,fo_cross hk]
 unfold foN
 rw [show (inN g a ls).map (foL (g+1) (inN g a ls))=ls.map (fun l=>foL (g+1) (inN g a ls) (inL g a l)) by unfold inN; rw [List.map_map]; rfl]
 conv=>rhs; rw [← List.map_id ls]
 exact List.map_congr_left fun l hl=>by rw [key l hl]; rfl
theorem enD_down {g a:Int} {ls:List Lt}:∀ (m i:Nat),down (enD g a ls m) i=down ls i
 | 0,_=>rfl
 | m+1,i=>by
  have:∀ v,down ((enD g a ls m).map (inL (g+m) (lfA a m))) v=down (enD g a ls m) v:=down_congr rfl fun l=>in_isP l
  exact(this i).trans (enD_down m i)
theorem enD_gate {f g a:Int} {ls:List Lt} (he:errC f ls=0) (hp:okP f g a ls):∀ m:Nat,f+m≤40 → ∀ i,i<ls.length→(at' (enD g a ls m) i).k=(at' ls i).k ∧
 ((at' ls i).k=1→((at' (enD g a ls m) i).g=(at' ls i).g∧(at' ls i).g≤g)∨((at' (enD g a ls m) i).g=(at' ls i).g+m∧g≤(at' ls i).g))
 | 0,_,i,_=>by
  refine⟨rfl,fun _=>?_⟩
  show((at' ls i).g=(at' ls i).g∧_)∨((at' ls i).g=(at' ls i).g+((0:Nat):Int)∧_)
  omega
 | m+1,hm,i,hi=>by
  obtain⟨h1,h2⟩:=enD_gate he hp m (by omega) i hi
  have hX:=enD_ok he hp m (by omega)
  have hi':i<(enD g a ls m).length:=by rw [enD_length]; exact hi
  have hat:at' (enD g a ls (m+1)) i=inL (g+m) (lfA a m) (at' (enD g a ls m) i):=at'_map _ hi'
  rw [hat,in_k]
  refine⟨h1,fun hk=>?_⟩
  have h0:ls≠[]:=fun e=>by subst e; simp at hi
  have hX0:enD g a ls m≠[]:=fun e=>by rw [e] at hi'; simp at hi'
  have hkX:(at' (enD g a ls m) i).k=1:=by rw [h1]; exact hk
  obtain⟨r1,r2,_⟩:=((valR_of hX hX0).key (at'_mem hi') (by simp [isP,hkX])).2
  obtain⟨a1,a2,a3,a4,a5⟩:=in_vals (g:=g+m) (a:=lfA a m) hkX
  have h2':=h2 hk
  by_cases hm0:m=0
  · have hl:lfA a m=a:=if_pos hm0
    rw [hl] at a1 a2 a3 a4 a5 ⊢
    have hz:(m:Int)=0:=by omega
    rw [hz] at a1 a2 a3 a4 a5 h2' ⊢
    by_cases c1:a<(at' (enD g a ls m) i).r
    · omega
    · omega
  · have hl:lfA a m=0:=if_neg hm0
    rw [hl] at a1 a2 a3 a4 a5 ⊢
    omega
theorem cnL_new {f g a:Int} {ls:List Lt} (he:errC f ls=0) (hp:okP f g a ls) {m:Nat} (hm:f+m≤40) (hP:PosP ls) (hP':PosP (enD g a ls m)) {j:Nat} (hj:j<m):cnL (enD g a ls m) (g+j+1)=0:=by
 have hnone:∀ i,i<(enD g a ls m).length→isLp (enD g a ls m) (g+j+1) i=false:=by
  intro i hi
  rw [Bool.eq_false_iff]
  intro hlp
  unfold isLp at hlp
  simp only [Bool.and_eq_true,decide_eq_true_eq] at hlp
  obtain⟨⟨k1,k2⟩,k3⟩:=hlp
  have hlen:(enD g a ls m).length=ls.length:=enD_length m
  have hi0:i<ls.length:=by omega
  have hn:(i+1) % ls.length<ls.length:=Nat.mod_lt _ (by omega)
  obtain⟨p1,p2⟩:=hP' i hi k1 k2
  obtain⟨x1,x2⟩:=enD_gate he hp m hm i hi0
  obtain⟨y1,y2⟩:=enD_gate he hp m hm _ hn
  have kx:(at' ls i).k=1:=by rw [← x1]; exact k1
  obtain⟨q1,q2⟩:=hP i hi0 kx (by rw [← enD_down m i]; exact k2)
  unfold nxL at *
  rw [hlen] at p1 p2
  have ky:(at' ls ((i+1) % ls.length)).k=1:=q1
  have hx:=x2 kx
  have hy:=y2 ky
  unfold mxg nxL at k3
  rw [hlen] at k3
  split at k3<;>omega
 unfold cnL lpL
 rw [List.length_map,List.length_eq_zero_iff,List.filter_eq_nil_iff]
 intro i hi
 rw [hnone i (by simpa using hi)]
 simp
end Go.Known
end
section
namespace Go.Known
open Go.Plain
section
variable {fs gs:List Fg} {G:Nat}
theorem enF_at {j:Nat} (hG:G≤fs.length):(enF fs gs G gs.length)[j]? = if j<G then fs[j]? else if j<G+gs.length then gs[j - G]? else fs[j - gs.length]?:=by
 unfold enF
 rw [List.take_length]
 have h1:(fs.take G).length=G:=by simp; omega
 by_cases c1:j<G
 · rw [if_pos c1,List.getElem?_append_left (by omega),List.getElem?_take,if_pos c1]
 · rw [if_neg c1,List.getElem?_append_right (by omega),h1]
   by_cases c2:j<G+gs.length
   · rw [if_pos c2,List.getElem?_append_left (by omega)]
   · rw [if_neg c2,List.getElem?_append_right (by omega),List.getElem?_drop]
     congr 1
     omega
theorem enF_per (hG:G≤fs.length) (hmx:mixP gs=false) (hno:∀ i,i<fs.length→(fgAt fs i).p≠perF gs) {j:Nat} (hj:j<fs.length+gs.length):(fgAt (enF fs gs G gs.length) j).p=perF gs↔G≤j∧j<G+gs.length:=by
 have hl:(enF fs gs G gs.length).length=fs.length+gs.length:=enF_length (Nat.le_refl _)
 have hall:∀ i,i<gs.length→(fgAt gs i).p=perF gs:=fun i hi=>by
  rcases Classical.em ((fgAt gs i).p=perF gs) with h | h
  · exact h
  · exact absurd (mixP_iff.2 ⟨i,hi,h⟩) (by simp [hmx])
 have hat:=enF_at (fs:=fs) (gs:=gs) (j:=j) hG
 rw [List.getElem?_eq_getElem (by omega),← fgAt_eq (by omega)] at hat
 by_cases c1:j<G
 · rw [if_pos c1,List.getElem?_eq_getElem (by omega),← fgAt_eq (by omega)] at hat
   injection hat with hat
   rw [hat]
   exact⟨fun h=>absurd h (hno j (by omega)),fun h=>by omega⟩
 · rw [if_neg c1] at hat
   by_cases c2:j<G+gs.length
   · rw [if_pos c2,List.getElem?_eq_getElem (by omega),← fgAt_eq (by omega)] at hat
     injection hat with hat
     rw [hat]
     exact⟨fun _=>by omega,fun _=>hall _ (by omega)⟩
   · rw [if_neg c2,List.getElem?_eq_getElem (by omega),← fgAt_eq (by omega)] at hat
     injection hat with hat
     rw [hat]
     exact⟨fun h=>absurd h (hno _ (by omega)),fun h=>by omega⟩
theorem enF_stay (hmx:mixP gs=false) (hno:∀ i,i<fs.length→(fgAt fs i).p≠perF gs):stayF (perF gs) (enF fs gs G gs.length)=fs:=by
 have hf:∀ x,x∈fs→x.p≠perF gs:=fun x hx=>by
  obtain⟨j,hj,rfl⟩:=List.getElem_of_mem hx
  rw [← fgAt_eq hj]
  exact hno j hj
 have hg:∀ x,x∈gs→x.p=perF gs:=fun x hx=>by
  obtain⟨j,hj,rfl⟩:=List.getElem_of_mem hx
  rcases Classical.em ((fgAt gs j).p=perF gs) with h | h
  · rw [← fgAt_eq hj]; exact h
  · exact absurd (mixP_iff.2 ⟨j,hj,h⟩) (by simp [hmx])
 unfold stayF enF
 rw [List.take_length,List.filter_append,List.filter_append]
 have e1:(fs.take G).filter (fun x=>!decide (x.p=perF gs))=fs.take G:=List.filter_eq_self.2 fun x hx=>by simpa using hf x (List.mem_of_mem_take hx)
 have e2:gs.filter (fun x=>!decide (x.p=perF gs))=[]:=List.filter_eq_nil_iff.2 fun x hx=>by simpa using hg x hx
 have e3:(fs.drop G).filter (fun x=>!decide (x.p=perF gs))=fs.drop G:=List.filter_eq_self.2 fun x hx=>by simpa using hf x (List.mem_of_mem_drop hx)
 rw [e1,e2,e3,List.nil_append,List.take_append_drop]
end
theorem fo_enD {f g a:Int} {ls:List Lt} (he:errC f ls=0) (hp:okP f g a ls) {t:Nat} (ht:f+t<40):foN (g+t+1) (enD g a ls (t+1))=enD g a ls t:=by
 have hX:=enD_ok he hp t (by omega)
 have hI:=(okI_iff (f:=f) (g:=g) (a:=a) (ls:=ls) t fun _=>hp).2 ⟨hp,ht⟩
 by_cases h0:enD g a ls t=[]
 · have:enD g a ls (t+1)=[]:=by rw [enD,h0]; rfl
   rw [this,h0]
   rfl
 · obtain⟨o1,o2,o3,o4,o5⟩:=hI
   obtain⟨A,hA⟩:∃ A:Nat,lfA a t=(A:Int):=⟨(lfA a t).toNat,by omega⟩
   rw [enD]
   rw [hA] at o5 ⊢
   exact fo_in (valR_of hX h0) (by omega)
theorem lvD_enD {fs gs:List Fg} {g a:Int} {ls:List Lt} {G:Nat} (hg:g=(G:Int)) (hG:G≤fs.length) (hmx:mixP gs=false) (hno:∀ i,i<fs.length→(fgAt fs i).p≠perF gs) (he:errC fs.length ls=0) (hp:okP fs.length g a ls) (h40:fs.length+gs.length≤40) :
 ∀ d,d≤fs.length+gs.length→lvD (perF gs) (enF fs gs G gs.length) ((fs.length+gs.length:Nat):Int) (enD g a ls gs.length) d =
  (((fs.length+gs.length:Nat):Int) - ((G+gs.length - max (fs.length+gs.length - d) G:Nat):Int),enD g a ls (gs.length - (G+gs.length - max (fs.length+gs.length - d) G)))
 | 0,_=>by
  have:G+gs.length - max (fs.length+gs.length - 0) G=0:=by omega
  rw [this]
  simp [lvD]
 | d+1,hd=>by
  have ih:=lvD_enD hg hG hmx hno he hp h40 d (by omega)
  have hl:(enF fs gs G gs.length).length=fs.length+gs.length:=enF_length (Nat.le_refl _)
  have hper:=enF_per hG hmx hno (j:=fs.length+gs.length - (d+1)) (by omega)
  unfold lvD
  rw [hl,ih]
  by_cases hP:(fgAt (enF fs gs G gs.length) (fs.length+gs.length - (d+1))).p=perF gs
  · rw [if_pos hP]
    obtain⟨q1,q2⟩:=hper.1 hP
    obtain⟨t,ht⟩:∃ t,fs.length+gs.length - (d+1)=G+t:=⟨fs.length+gs.length - (d+1) - G,by omega⟩
    have e1:gs.length - (G+gs.length - max (fs.length+gs.length - d) G)=t+1:=by omega
    have e2:gs.length - (G+gs.length - max (fs.length+gs.length - (d+1)) G)=t:=by omega
    have e3:((fs.length+gs.length - (d+1):Nat):Int)+1=g+t+1:=by omega
    rw [e1,e2]
    simp only
    rw [e3,fo_enD he hp (by omega)]
    congr 1
    omega
  · rw [if_neg hP]
    have hnp:¬(G≤fs.length+gs.length - (d+1)∧fs.length+gs.length - (d+1)<G+gs.length):=fun h=>hP (hper.2 h)
    have e:G+gs.length - max (fs.length+gs.length - d) G=G+gs.length - max (fs.length+gs.length - (d+1)) G:=by omega
    rw [e]
end Go.Known
end
