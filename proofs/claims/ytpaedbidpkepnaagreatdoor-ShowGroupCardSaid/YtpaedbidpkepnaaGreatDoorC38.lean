/- Part 38 of the proof: Po, Pp, Pq, Pr. -/
import Derived.Test.YtpaedbidpkepnaaGreatDoorC35
import Derived.Test.YtpaedbidpkepnaaGreatDoorC36
import Derived.Test.YtpaedbidpkepnaaGreatDoorC37
set_option linter.all false
section
namespace Go.Known
open Go.Plain
theorem cntP_map (p:Lt→Bool) (f:Lt→Lt) (ls:List Lt):cntP p (ls.map f)=cntP (fun l=>p (f l)) ls:=by
 unfold cntP
 rw [List.filter_map,List.length_map]
 rfl
theorem at'_map (f:Lt→Lt) {ls:List Lt} {v:Nat} (hv:v<ls.length):at' (ls.map f) v=f (at' ls v):=by
 unfold at'
 rw [List.getD,List.getD,List.getElem?_map,List.getElem?_eq_getElem hv]
 rfl
theorem okR_pass {f:Int} {ls:List Lt} {l:Lt} (hk:l.k=1):okR f ls l=true↔l.i=0∧l.s=0∧l.o=false∧0≤l.g∧l.g≤f∧1≤l.r∧l.r≤inG l.g ls∧same l ls=1:=by
 unfold okR
 rw [if_pos hk]
 simp [and_assoc]
theorem okR_cross {f:Int} {ls:List Lt} {l:Lt} (hk:l.k=2):okR f ls l=true↔l.g=0∧l.r=0∧(l.s=1∨l.s = -1)∧1≤l.i∧l.i≤(visits ls / 2:Nat)∧pairs l ls=1∧times l.i ls=2:=by
 unfold okR
 rw [if_neg (by omega),if_pos hk]
 simp [and_assoc]
theorem okR_kind {f:Int} {ls:List Lt} {l:Lt} (h:okR f ls l=true):l.k=1∨l.k=2:=by
 unfold okR at h
 split at h
 · exact .inl ‹_›
 · split at h
   · exact .inr ‹_›
   · cases h
structure ValR (f:Int) (ls:List Lt):Prop where
 len:ls.length≤400
 vis:visits ls≤200
 lo:0≤f
 hi:f≤40
 fst:(at' ls 0).k=1
 evn:passes ls % 2=0
 okr:∀ l,l∈ls→okR f ls l=true
 cyc:cycles (turnN ls (axis ls)) (2*ls.length+2*passes ls)=passes ls+visits ls / 2+2
theorem valR_of {f:Int} {ls:List Lt} (he:errC f ls=0) (h0:ls≠[]):ValR f ls:=by
 obtain⟨hf0,hf1,h1,h2,h3,h4,h5,h6⟩:=okAll_of he h0
 have hF:((f.toNat:Nat):Int)=f:=by omega
 have h7:¬(400<ls.length∨200<visits ls):=fun h=>by
  unfold errC at he
  rw [if_pos h] at he
  cases he
 have hb:=letters_back h1 h4 h5
 rw [hF] at hb
 refine⟨by omega,by omega,hf0,hf1,h2,h3,List.all_eq_true.1 hb,?_⟩
 rw [axis_length] at h6
 rw [h6,h5.2.2]
theorem ValR.to {f:Int} {ls:List Lt} (h:ValR f ls):errC f ls=0:=by
 have hF:((f.toNat:Nat):Int)=f:=by have:=h.lo; omega
 obtain⟨q1,q2,q3⟩:=letters_to (F:=f.toNat) (ls:=ls) (by rw [hF]; exact List.all_eq_true.2 h.okr)
 have a:=h.len
 have b:=h.vis
 have c:=h.lo
 have d:=h.hi
 unfold errC
 rw [if_neg (by omega),if_neg (by omega),if_pos]
 refine .inr ⟨q1,h.fst,h.evn,q2,q3,?_⟩
 rw [axis_length,q3.2.2]
 exact h.cyc
theorem ValR.ranks {f:Int} {ls:List Lt} (hlo:0≤f) (h:∀ l,l∈ls→okR f ls l=true):Ranked ls∧Apart ls∧CrOk ls:=by
 have hF:((f.toNat:Nat):Int)=f:=by omega
 obtain⟨q1,q2,q3⟩:=letters_to (F:=f.toNat) (ls:=ls) (by rw [hF]; exact List.all_eq_true.2 h)
 obtain⟨r1,r2⟩:=ranked_of (gated_of q1) q2
 exact⟨r1,r2,q3⟩
theorem idx_pos {ls:List Lt} (ha:Apart ls) (hr:Ranked ls) {v:Nat} (hv:v<ls.length) (hk:(at' ls v).k=1):idxN v (axis ls)=pos ls (at' ls v):=by
 have hp:isP (at' ls v)=true:=by simp [isP,hk]
 exact nodup_idx (axis_nodup ls) (idxN_spec (mem_axis.2 ⟨hv,hp⟩)).1 (axis_at ha hr hv hp)
theorem ValR.wv {f:Int} {ls:List Lt} (h:ValR f ls) (h0:ls≠[]):Wv ls:=by
 obtain⟨_,_,hc⟩:=ValR.ranks h.lo h.okr
 have hpos:0<ls.length:=List.length_pos_iff.2 h0
 refine⟨?_,fun v hv hk=>(okR_kind (h.okr _ (at'_mem hv))).resolve_right hk,fun v hv hk=>?_⟩
 · rw [← axis_length]
   exact List.length_pos_of_mem (mem_axis.2 ⟨hpos,by simp [isP,h.fst]⟩)
 · obtain⟨_,_,j,_,_,_,j1,j2,j3,j4,j5,j6,j7,j8⟩:=cross_other hc hv (by simp [isX,hk])
   obtain⟨_,_,j',_,_,_,g1,g2,g3,g4,g5,g6,_,g8⟩:=cross_other hc j1 j3
   rw [j8]
   have hj:j'=v:=(j7 j' g1 g3 (by rw [g4,j4])).resolve_right g2
   exact⟨j1,by simpa [isX] using j3,by rw [g8,hj],j5,j6⟩
theorem ValR.uniq {f:Int} {ls:List Lt} (h:ValR f ls) {v x:Nat} (hv:v<ls.length) (hk:(at' ls v).k=2) (hx:x<ls.length) (hxk:(at' ls x).k=2) (hi:(at' ls x).i=(at' ls v).i):x=v∨x=otherN ls v ls.length 0:=by
 obtain⟨_,_,hc⟩:=ValR.ranks h.lo h.okr
 obtain⟨_,_,j,_,_,_,j1,j2,j3,j4,j5,j6,j7,j8⟩:=cross_other hc hv (by simp [isX,hk])
 rw [j8]
 exact j7 x hx (by simp [isX,hxk]) hi
theorem ValR.same_i {f:Int} {ls:List Lt} (h:ValR f ls) {v:Nat} (hv:v<ls.length) (hk:(at' ls v).k=2):otherN ls v ls.length 0≠v∧(at' ls (otherN ls v ls.length 0)).i=(at' ls v).i:=by
 obtain⟨_,_,hc⟩:=ValR.ranks h.lo h.okr
 obtain⟨_,_,j,_,_,_,j1,j2,j3,j4,j5,j6,j7,j8⟩:=cross_other hc hv (by simp [isX,hk])
 rw [j8]
 exact⟨j2,j4⟩
def swL (l:Lt):Lt:=if l.k=2 then { l with o:=!l.o,s:=-l.s } else l
def swN (ls:List Lt):List Lt:=ls.map swL
theorem sw_k (l:Lt):(swL l).k=l.k:=by unfold swL; split<;>rfl
theorem sw_g (l:Lt):(swL l).g=l.g:=by unfold swL; split<;>rfl
theorem sw_r (l:Lt):(swL l).r=l.r:=by unfold swL; split<;>rfl
theorem sw_i (l:Lt):(swL l).i=l.i:=by unfold swL; split<;>rfl
theorem sw_pass {l:Lt} (h:l.k=1):swL l=l:=by unfold swL; rw [if_neg (by omega)]
theorem sw_cross {l:Lt} (h:l.k=2):swL l={ l with o:=!l.o,s:=-l.s }:=by unfold swL; rw [if_pos h]
theorem sw_isP (l:Lt):isP (swL l)=isP l:=by unfold isP; rw [sw_k]
theorem sw_isX (l:Lt):isX (swL l)=isX l:=by unfold isX; rw [sw_k]
theorem sw_okR {f:Int} {ls:List Lt} {l:Lt} (h:okR f ls l=true):okR f (swN ls) (swL l)=true:=by
 have hv:visits (swN ls)=visits ls:=by unfold visits swN; rw [cntP_map]; exact cntP_congr fun l _=>sw_isX l
 rcases okR_kind h with hk | hk
 · obtain⟨a,b,c,d,e,e1,e2,e3⟩:=(okR_pass hk).1 h
   rw [sw_pass hk,okR_pass hk]
   refine⟨a,b,c,d,e,e1,?_,?_⟩
   · unfold inG swN
     rw [cntP_map,cntP_congr (q:=fun o=>isP o&&o.g == l.g) fun o _=>by rw [sw_isP,sw_g]]
     exact e2
   · unfold same swN
     rw [cntP_map,cntP_congr (q:=fun o=>o.k == l.k&&o.g == l.g&&o.r == l.r) fun o _=>by rw [sw_k,sw_g,sw_r]]
     exact e3
 · obtain⟨a,b,c,d,e,e1,e2⟩:=(okR_cross hk).1 h
   rw [sw_cross hk]
   refine(okR_cross (show ({ l with o:=!l.o,s:=-l.s }:Lt).k=2 from hk)).2 ⟨a,b,by simp only; omega,d,by rw [hv]; exact e,?_,?_⟩
   · unfold pairs swN
     rw [cntP_map,cntP_congr (q:=fun o=>o.k == l.k&&o.i == l.i&&o.s == l.s&&o.o != l.o) fun o _=>by
      rw [sw_k,sw_i]
      by_cases ho:o.k=2
      · rw [sw_cross ho]
        simp only
        congr 1
        · congr 1
          rw [Bool.eq_iff_iff]; simp
        · cases o.o<;>cases l.o<;>rfl
      · have:(o.k == l.k)=false:=by rw [hk]; simpa using ho
        simp [this]]
     exact e1
   · unfold times swN
     rw [cntP_map,cntP_congr (q:=fun o=>isX o&&o.i == l.i) fun o _=>by rw [sw_isX,sw_i]]
     exact e2
theorem otherN_congr {ls ls':List Lt} {v v':Nat} (h:∀ j,j<ls.length→isX (at' ls' j)=isX (at' ls j)∧(at' ls' j).i=(at' ls j).i) (hv:v<ls.length):∀ k s,s+k≤ls.length→otherN ls' v k s=otherN ls v k s
 | 0,_,_=>rfl
 | k+1,s,hs=>by
  simp only [otherN]
  rw [(h s (by omega)).1,(h s (by omega)).2,(h v hv).2,otherN_congr (v':=v') h hv k (s+1) (by omega)]
theorem down_congr {ls ls':List Lt} {f:Lt→Lt} (he:ls'=ls.map f) (hp:∀ l,isP (f l)=isP l) (v:Nat):down ls' v=down ls v:=by
 unfold down passes
 rw [he,← List.map_take,cntP_map]
 simp only [hp]
theorem axisN_congr {ls:List Lt} {f:Lt→Lt} (hp:∀ l,isP (f l)=isP l) (hg:∀ l,(f l).g=l.g) (hr:∀ l,(f l).r=l.r):∀ k,k≤ls.length→axisN (ls.map f) k=axisN ls k
 | 0,_=>rfl
 | k+1,hk=>by
  have hins:∀ l:List Nat,(∀ x,x∈l→x<ls.length)→ins (ls.map f) k l=ins ls k l:=by
   intro l
   induction l with
   | nil=>intro _; rfl
   | cons a l ih=>
    intro hl
    simp only [ins]
    rw [at'_map f (hl a (List.mem_cons_self ..)),at'_map f (show k<ls.length by omega),ih fun x hx=>hl x (List.mem_cons_of_mem _ hx)]
    have e:keyLt (f (at' ls a)) (f (at' ls k))=keyLt (at' ls a) (at' ls k):=by unfold keyLt; rw [hg,hg,hr,hr]
    rw [e]
  simp only [axisN]
  rw [at'_map f (show k<ls.length by omega),hp,axisN_congr hp hg hr k (by omega)]
  rw [hins]
  intro x hx
  have:=(axisN_perm ls k).mem_iff.1 hx
  have:=(List.mem_filter.1 this).1
  simp at this
  omega
theorem sw_axis (ls:List Lt):axis (swN ls)=axis ls:=by
 unfold axis
 rw [show (swN ls).length=ls.length by simp [swN]]
 exact axisN_congr sw_isP sw_g sw_r _ (Nat.le_refl _)
theorem sw_turn {f:Int} {ls:List Lt} (h:∀ l,l∈ls→okR f ls l=true) (hax:∀ p,(axis ls).getD p 0<ls.length) {d:Nat}:turnN (swN ls) (axis ls) d=turnN ls (axis ls) d:=by
 have hl:(swN ls).length=ls.length:=by simp [swN]
 have hd:∀ v,down (swN ls) v=down ls v:=down_congr rfl sw_isP
 unfold turnN
 rw [hl]
 simp only [hd]
 split
 · rfl
 · rename_i hs
   have hh:(if d % 2=0 then (d / 2+1) % ls.length else d / 2)<ls.length:=by
    split
    · exact Nat.mod_lt _ (by omega)
    · omega
   generalize (if d % 2=0 then (d / 2+1) % ls.length else d / 2)=v at *
   have ha:at' (swN ls) v=swL (at' ls v):=at'_map _ hh
   rw [ha,sw_k]
   split
   · rename_i hk
     have ho:otherN (swN ls) v ls.length 0=otherN ls v ls.length 0:=otherN_congr (v':=v) (fun j hj=>by
      have:at' (swN ls) j=swL (at' ls j):=at'_map _ hj
      rw [this,sw_isX,sw_i]; exact⟨rfl,rfl⟩) hh _ _ (by omega)
     rw [ho,sw_cross hk]
     simp only
     congr 1
     have hs1:=((okR_cross hk).1 (h _ (at'_mem hh))).2.2.1
     rcases hs1 with e | e
     · rw [e]; cases (at' ls v).o<;>rfl
     · rw [e]; cases (at' ls v).o<;>rfl
   · rfl
theorem axis_lt {ls:List Lt} (h0:0<ls.length) (p:Nat):(axis ls).getD p 0<ls.length:=by
 rw [List.getD]
 cases e:(axis ls)[p]? with
 | none=>exact h0
 | some v=>exact (mem_axis.1 (List.mem_of_getElem? e)).1
theorem ValR.swap {f:Int} {ls:List Lt} (h:ValR f ls) (h0:ls≠[]):ValR f (swN ls)∧patP (polys (swN ls))=patP (polys ls):=by
 have hpos:0<ls.length:=List.length_pos_iff.2 h0
 have hl:(swN ls).length=ls.length:=by simp [swN]
 have hv:visits (swN ls)=visits ls:=by unfold visits swN; rw [cntP_map]; exact cntP_congr fun l _=>sw_isX l
 have hp:passes (swN ls)=passes ls:=by unfold passes swN; rw [cntP_map]; exact cntP_congr fun l _=>sw_isP l
 have ht:=fun d=>sw_turn h.okr (axis_lt hpos) (d:=d)
 have hT:turnN (swN ls) (axis (swN ls))=turnN ls (axis ls):=by rw [sw_axis]; exact funext ht
 refine⟨⟨by rw [hl]; exact h.len,by rw [hv]; exact h.vis,h.lo,h.hi,?_,by rw [hp]; exact h.evn,fun l hm=>?_,?_⟩,?_⟩
 · have:at' (swN ls) 0=swL (at' ls 0):=at'_map _ hpos
   rw [this,sw_k]; exact h.fst
 · obtain⟨l0,h1,rfl⟩:=List.mem_map.1 hm
   exact sw_okR (h.okr _ h1)
 · rw [hT,hl,hp,hv]; exact h.cyc
 · unfold polys
   rw [hT,hl]
   have:∀ w,w∈faces2 (turnN ls (axis ls)) (2*ls.length)→polN (swN ls) w=polN ls w:=fun w hw=>by
    unfold polN cornN
    congr 2
    refine List.filter_congr fun d hd=>?_
    have hw:=(valid_of (by have:=h.len; omega) h.to h0).fc.2 w hw
    have:=head_lt (hw.2.2 d hd)
    unfold isC
    rw [hl,show at' (swN ls) (headN ls.length d)=swL (at' ls (headN ls.length d)) from at'_map _ this,sw_k]
   rw [List.map_congr_left this]
end Go.Known
end
section
namespace Go.Known
open Go.Plain
def miL (f:Int) (ls:List Lt) (l:Lt):Lt:=if l.k=1 then { l with g:=f - l.g,r:=(inG l.g ls:Int)+1 - l.r } else { l with s:=-l.s }
def miN (f:Int) (ls:List Lt):List Lt:=ls.map (miL f ls)
section
variable {f:Int} {ls:List Lt}
theorem mi_k (l:Lt):(miL f ls l).k=l.k:=by unfold miL; split<;>rfl
theorem mi_i (l:Lt):(miL f ls l).i=l.i:=by unfold miL; split<;>rfl
theorem mi_o (l:Lt):(miL f ls l).o=l.o:=by unfold miL; split<;>rfl
theorem mi_pass {l:Lt} (h:l.k=1):miL f ls l={ l with g:=f - l.g,r:=(inG l.g ls:Int)+1 - l.r }:=by unfold miL; rw [if_pos h]
theorem mi_cross {l:Lt} (h:l.k=2):miL f ls l={ l with s:=-l.s }:=by unfold miL; rw [if_neg (by omega)]
theorem mi_isP (l:Lt):isP (miL f ls l)=isP l:=by unfold isP; rw [mi_k]
theorem mi_isX (l:Lt):isX (miL f ls l)=isX l:=by unfold isX; rw [mi_k]
theorem mi_inG (g:Int):inG (f - g) (miN f ls)=inG g ls:=by
 unfold inG miN
 rw [cntP_map]
 refine cntP_congr fun o _=>?_
 rw [mi_isP]
 by_cases ho:o.k=1
 · rw [mi_pass ho]
   simp only
   congr 1
   rw [Bool.eq_iff_iff]; simp<;>omega
 · have:isP o=false:=by unfold isP; simpa using ho
   rw [this]; rfl
theorem mi_okR {l:Lt} (h:okR f ls l=true):okR f (miN f ls) (miL f ls l)=true:=by
 have hv:visits (miN f ls)=visits ls:=by unfold visits miN; rw [cntP_map]; exact cntP_congr fun l _=>mi_isX l
 rcases okR_kind h with hk | hk
 · obtain⟨a,b,c,d,e,e1,e2,e3⟩:=(okR_pass hk).1 h
   rw [mi_pass hk]
   refine(okR_pass (show ({ l with g:=f - l.g,r:=(inG l.g ls:Int)+1 - l.r }:Lt).k=1 from hk)).2 ⟨a,b,c,by simp only; omega,by simp only; omega,by simp only; omega,?_,?_⟩
   · simp only
     rw [mi_inG]
     omega
   · unfold same miN
     rw [cntP_map,cntP_congr (q:=fun o=>o.k == l.k&&o.g == l.g&&o.r == l.r) fun o _=>by
      rw [mi_k]
      by_cases ho:o.k=1
      · rw [mi_pass ho]
        simp only
        by_cases hg:o.g=l.g
        · rw [hg]
          have e1:(f - l.g == f - l.g)=true:=by simp
          have e2:(l.g == l.g)=true:=by simp
          rw [e1,e2]
          congr 1
          rw [Bool.eq_iff_iff]; simp<;>omega
        · have e1:(f - o.g == f - l.g)=false:=by simp; omega
          have e2:(o.g == l.g)=false:=by simpa using hg
          rw [e1,e2]; simp
      · have:(o.k == l.k)=false:=by rw [hk]; simpa using ho
        simp [this]]
     exact e3
 · obtain⟨a,b,c,d,e,e1,e2⟩:=(okR_cross hk).1 h
   rw [mi_cross hk]
   refine(okR_cross (show ({ l with s:=-l.s }:Lt).k=2 from hk)).2 ⟨a,b,by simp only; omega,d,by rw [hv]; exact e,?_,?_⟩
   · unfold pairs miN
     rw [cntP_map,cntP_congr (q:=fun o=>o.k == l.k&&o.i == l.i&&o.s == l.s&&o.o != l.o) fun o _=>by
      rw [mi_k,mi_i,mi_o]
      by_cases ho:o.k=2
      · rw [mi_cross ho]
        simp only
        congr 1
        congr 1
        rw [Bool.eq_iff_iff]; simp
      · have:(o.k == l.k)=false:=by rw [hk]; simpa using ho
        simp [this]]
     exact e1
   · unfold times miN
     rw [cntP_map,cntP_congr (q:=fun o=>isX o&&o.i == l.i) fun o _=>by rw [mi_isX,mi_i]]
     exact e2
theorem mi_len:(miN f ls).length=ls.length:=by simp [miN]
theorem mi_passes:passes (miN f ls)=passes ls:=by unfold passes miN; rw [cntP_map]; exact cntP_congr fun l _=>mi_isP l
theorem mi_visits:visits (miN f ls)=visits ls:=by unfold visits miN; rw [cntP_map]; exact cntP_congr fun l _=>mi_isX l
theorem mi_at {v:Nat} (hv:v<ls.length):at' (miN f ls) v=miL f ls (at' ls v):=at'_map _ hv
theorem mi_pos {l:Lt} (hk:l.k=1) (h1:1≤l.r) (h2:l.r≤(inG l.g ls:Nat)):pos (miN f ls) (miL f ls l)=passes ls - 1 - pos ls l:=by
 have e:cntP (fun o=>isP o&&decide (o.g<(miL f ls l).g)) (miN f ls)=cntP (fun o=>isP o&&decide (l.g<o.g)) ls:=by
  unfold miN
  rw [cntP_map]
  refine cntP_congr fun o _=>?_
  rw [mi_isP]
  by_cases ho:o.k=1
  · rw [mi_pass ho,mi_pass hk]
    simp only
    congr 1
    rw [Bool.eq_iff_iff]; simp<;>omega
  · have:isP o=false:=by unfold isP; simpa using ho
    rw [this]; rfl
 have s1:=cntP_split isP (fun o=>decide (o.g<l.g)) ls
 have s2:=cntP_split (fun o=>isP o && !decide (o.g<l.g)) (fun o=>o.g == l.g) ls
 have s3:cntP (fun o=>isP o && !decide (o.g<l.g)&&(o.g == l.g)) ls=inG l.g ls:=by
  unfold inG
  refine cntP_congr fun o _=>?_
  cases isP o with
  | false=>rfl
  | true=>rw [Bool.eq_iff_iff]; simp<;>omega
 have s4:cntP (fun o=>isP o && !decide (o.g<l.g) && !(o.g == l.g)) ls=cntP (fun o=>isP o&&decide (l.g<o.g)) ls:=by
  refine cntP_congr fun o _=>?_
  cases isP o with
  | false=>rfl
  | true=>rw [Bool.eq_iff_iff]; simp<;>omega
 rw [s3,s4] at s2
 have hp:passes ls=cntP isP ls:=rfl
 unfold pos
 rw [e,mi_pass hk]
 simp only
 omega
theorem ValR.mirImg (h:ValR f ls) (h0:ls≠[]):Img ls (miN f ls) id id false:=by
 have hpos:0<ls.length:=List.length_pos_iff.2 h0
 have hok:∀ l,l∈miN f ls→okR f (miN f ls) l=true:=fun l hm=>by
  obtain⟨l0,h1,rfl⟩:=List.mem_map.1 hm
  exact mi_okR (h.okr _ h1)
 obtain⟨r1,r2,r3⟩:=ValR.ranks h.lo h.okr
 obtain⟨q1,q2,q3⟩:=ValR.ranks h.lo hok
 have hw:=h.wv h0
 · refine⟨hw,mi_len,mi_passes,fun v hv=>hv,fun v hv=>hv,fun v _=>rfl,fun v _=>rfl,fun v _=>rfl,fun v hv=>by rw [id,mi_at hv,mi_k],fun v hv hk=>?_,fun v hv hk=>?_,fun v hv hk=>?_,fun v hv hk=>?_⟩
   · exact otherN_congr (v':=v) (fun j hj=>by rw [mi_at hj,mi_isX,mi_i]; exact⟨rfl,rfl⟩) hv _ _ (by omega)
   · rw [id,mi_at hv,mi_cross hk]
     simp only
     have hs1:=((okR_cross hk).1 (h.okr _ (at'_mem hv))).2.2.1
     rcases hs1 with e | e
     · rw [e]; cases (at' ls v).o<;>rfl
     · rw [e]; cases (at' ls v).o<;>rfl
   · have hd:down (miN f ls) v=down ls v:=down_congr (f:=miL f ls) rfl mi_isP v
     rw [id,hd]
     cases down ls v<;>rfl
   · rw [id,idx_pos r2 r1 hv hk,idx_pos q2 q1 (by rw [mi_len]; exact hv) (by rw [mi_at hv,mi_k]; exact hk),mi_at hv]
     obtain⟨_,_,_,_,_,a,b,_⟩:=(okR_pass hk).1 (h.okr _ (at'_mem hv))
     rw [mi_pos hk a b]
     rfl
theorem ValR.mirOpp (h:ValR f ls) (h0:ls≠[]):Opp (turnN ls (axis ls)) (turnN (miN f ls) (axis (miN f ls))) (2*ls.length+2*passes ls) (2*ls.length) (phi ls.length (passes ls) false id) (phi ls.length (passes ls) false id):=img_Opp (h.mirImg h0)
theorem ValR.mirror (h:ValR f ls) (h0:ls≠[]):ValR f (miN f ls)∧patP (polys (miN f ls))=patP (polys ls):=by
 have hpos:0<ls.length:=List.length_pos_iff.2 h0
 have hok:∀ l,l∈miN f ls→okR f (miN f ls) l=true:=fun l hm=>by
  obtain⟨l0,h1,rfl⟩:=List.mem_map.1 hm
  exact mi_okR (h.okr _ h1)
 have hw:=h.wv h0
 have hkk:∀ v,v<(miN f ls).length→(at' (miN f ls) v).k≠2→(at' (miN f ls) v).k=1:=fun v hv hk=>by
  rw [mi_len] at hv
  rw [mi_at hv,mi_k] at hk ⊢
  exact hw.kin v hv hk
 obtain⟨e1,e2⟩:=pat_opp hw.pas hw.kin hkk mi_len mi_passes (h.mirOpp h0)
 refine⟨⟨by rw [mi_len]; exact h.len,by rw [mi_visits]; exact h.vis,h.lo,h.hi,by rw [mi_at hpos,mi_k]; exact h.fst,by rw [mi_passes]; exact h.evn,hok,?_⟩,e1⟩
 rw [mi_len,mi_passes,mi_visits,e2]
 exact h.cyc
end
end Go.Known
end
section
namespace Go.Known
open Go.Plain
def tuL (l:Lt):Lt:=if l.k=2 then { l with o:=!l.o } else l
def frm (ls:List Lt):Nat→Nat
 | 0=>0
 | k+1=>if isP (at' ls (ls.length - (k+1))) && !down ls (ls.length - (k+1)) then ls.length - (k+1) else frm ls k
def rotL (a:Nat) (ls:List Lt):List Lt:=ls.drop a++ls.take a
def tuN (ls:List Lt):List Lt:=rotL (frm ls ls.length) (ls.map tuL)
theorem tu_k (l:Lt):(tuL l).k=l.k:=by unfold tuL; split<;>rfl
theorem tu_g (l:Lt):(tuL l).g=l.g:=by unfold tuL; split<;>rfl
theorem tu_r (l:Lt):(tuL l).r=l.r:=by unfold tuL; split<;>rfl
theorem tu_i (l:Lt):(tuL l).i=l.i:=by unfold tuL; split<;>rfl
theorem tu_s (l:Lt):(tuL l).s=l.s:=by unfold tuL; split<;>rfl
theorem tu_pass {l:Lt} (h:l.k=1):tuL l=l:=by unfold tuL; rw [if_neg (by omega)]
theorem tu_cross {l:Lt} (h:l.k=2):tuL l={ l with o:=!l.o }:=by unfold tuL; rw [if_pos h]
theorem tu_isP (l:Lt):isP (tuL l)=isP l:=by unfold isP; rw [tu_k]
theorem tu_isX (l:Lt):isX (tuL l)=isX l:=by unfold isX; rw [tu_k]
theorem rot_len (a:Nat) (ls:List Lt):(rotL a ls).length=ls.length:=by simp [rotL]; omega
theorem rot_cnt (p:Lt→Bool) (a:Nat) (ls:List Lt):cntP p (rotL a ls)=cntP p ls:=by
 unfold rotL
 rw [cntP_append,Nat.add_comm,← cntP_append,List.take_append_drop]
theorem mod_lt2 {n x:Nat} (h:x<2*n):x % n=if x<n then x else x - n:=by
 split
 · exact Nat.mod_eq_of_lt ‹_›
 · rw [Nat.mod_eq_sub_mod (by omega),Nat.mod_eq_of_lt (by omega)]
def rho (n a v:Nat):Nat:=(v+n - a) % n
def sgm (n a v:Nat):Nat:=(v+a) % n
theorem rho_eq {n a v:Nat} (ha:a<n) (hv:v<n):rho n a v=if v<a then v+n - a else v - a:=by
 unfold rho
 rw [mod_lt2 (by omega)]
 split<;>split<;>omega
theorem sgm_eq {n a v:Nat} (ha:a<n) (hv:v<n):sgm n a v=if v+a<n then v+a else v+a - n:=by
 unfold sgm
 rw [mod_lt2 (by omega)]
theorem rot_at {ls:List Lt} {a v:Nat} (ha:a<ls.length) (hv:v<ls.length):at' (rotL a ls) (rho ls.length a v)=at' ls v:=by
 rw [rho_eq ha hv]
 unfold at' rotL
 rw [List.getD,List.getD]
 congr 1
 split
 · rw [List.getElem?_append_right (by simp; omega),List.length_drop,List.getElem?_take,if_pos (by omega)]
   congr 1; omega
 · rw [List.getElem?_append_left (by simp; omega),List.getElem?_drop]
   congr 1; omega
theorem passes_map (ls:List Lt):passes (ls.map tuL)=passes ls:=by
 unfold passes
 rw [cntP_map]
 exact cntP_congr fun l _=>tu_isP l
theorem rot_passes {ls:List Lt} {a v:Nat} (ha:a<ls.length) (hv:v<ls.length):passes ((rotL a ls).take (rho ls.length a v))+passes (ls.take a)=passes (ls.take v)+if v<a then passes ls else 0:=by
 have hc:∀ x y:List Lt,passes (x++y)=passes x+passes y:=fun x y=>cntP_append _ x y
 rw [rho_eq ha hv]
 unfold rotL
 split
 · have e:v+ls.length - a=(ls.drop a).length+v:=by simp; omega
   rw [e,List.take_length_add_append,hc,List.take_take,Nat.min_eq_left (by omega)]
   have:=hc (ls.take a) (ls.drop a)
   rw [List.take_append_drop] at this
   omega
 · rw [List.take_append_of_le_length (by simp; omega)]
   have:ls.take v=ls.take a++(ls.drop a).take (v - a):=by
    rw [← List.take_add,show a+(v - a)=v by omega]
   rw [this,hc]
   omega
theorem frm_spec {ls:List Lt}:∀ k,k≤ls.length→(∃ i,ls.length - k≤i∧i<ls.length∧isP (at' ls i)=true∧down ls i=false)→frm ls k<ls.length∧isP (at' ls (frm ls k))=true∧down ls (frm ls k)=false
 | 0,_,⟨i,h1,h2,_⟩=>by omega
 | k+1,hk,⟨i,h1,h2,h3,h4⟩=>by
  simp only [frm]
  split
  · rename_i h
    simp only [Bool.and_eq_true,Bool.not_eq_true'] at h
    exact⟨by omega,h.1,h.2⟩
  · rename_i h
    refine frm_spec k (by omega) ⟨i,?_,h2,h3,h4⟩
    rcases Nat.lt_or_ge i (ls.length - k) with h5 | h5
    · have:i=ls.length - (k+1):=by omega
      subst this
      rw [h3,h4] at h
      exact absurd rfl h
    · exact h5
theorem passes_succ {ls:List Lt} {i:Nat} (hi:i<ls.length):passes (ls.take (i+1))=passes (ls.take i)+if isP (at' ls i) then 1 else 0:=by
 have e:ls.take (i+1)=ls.take i++[at' ls i]:=by
  rw [List.take_add_one,List.getElem?_eq_getElem hi,at',List.getD,List.getElem?_eq_getElem hi]
  rfl
 unfold passes
 rw [e,cntP_append,cntP_cons]
 rfl
theorem up_ex {ls:List Lt} (h0:0<passes ls) (h2:passes ls % 2=0):∃ i,i<ls.length∧isP (at' ls i)=true∧down ls i=false:=by
 refine Classical.byContradiction fun hn=>?_
 have:∀ i,i≤ls.length→passes (ls.take i)≤1:=by
  intro i
  induction i with
  | zero=>intro _; simp [passes,cntP]
  | succ i ih=>
   intro hi
   have hp:=passes_succ (ls:=ls) (i:=i) (by omega)
   have:=ih (by omega)
   by_cases h:isP (at' ls i)=true
   · rw [if_pos h] at hp
     have hd:down ls i=true:=by
      cases hd:down ls i with
      | true=>rfl
      | false=>exact absurd ⟨i,by omega,h,hd⟩ hn
     unfold down at hd
     simp only [beq_iff_eq] at hd
     omega
   · rw [if_neg h] at hp
     omega
 have:=this ls.length (Nat.le_refl _)
 rw [List.take_length] at this
 omega
section
variable {f:Int} {ls:List Lt}
theorem tu_cnt (p:Lt→Bool):cntP p (tuN ls)=cntP (fun l=>p (tuL l)) ls:=by
 unfold tuN
 rw [rot_cnt,cntP_map]
theorem tu_okR {l:Lt} (h:okR f ls l=true):okR f (tuN ls) (tuL l)=true:=by
 have hv:visits (tuN ls)=visits ls:=by unfold visits; rw [tu_cnt]; exact cntP_congr fun l _=>tu_isX l
 rcases okR_kind h with hk | hk
 · obtain⟨a,b,c,d,e,e1,e2,e3⟩:=(okR_pass hk).1 h
   rw [tu_pass hk,okR_pass hk]
   refine⟨a,b,c,d,e,e1,?_,?_⟩
   · unfold inG
     rw [tu_cnt,cntP_congr (q:=fun o=>isP o&&o.g == l.g) fun o _=>by rw [tu_isP,tu_g]]
     exact e2
   · unfold same
     rw [tu_cnt,cntP_congr (q:=fun o=>o.k == l.k&&o.g == l.g&&o.r == l.r) fun o _=>by rw [tu_k,tu_g,tu_r]]
     exact e3
 · obtain⟨a,b,c,d,e,e1,e2⟩:=(okR_cross hk).1 h
   rw [tu_cross hk]
   refine(okR_cross (show ({ l with o:=!l.o }:Lt).k=2 from hk)).2 ⟨a,b,c,d,by rw [hv]; exact e,?_,?_⟩
   · unfold pairs
     rw [tu_cnt,cntP_congr (q:=fun o=>o.k == l.k&&o.i == l.i&&o.s == l.s&&o.o != l.o) fun o _=>by
      rw [tu_k,tu_i,tu_s]
      by_cases ho:o.k=2
      · rw [tu_cross ho]
        simp only
        congr 1
        cases o.o<;>cases l.o<;>rfl
      · have:(o.k == l.k)=false:=by rw [hk]; simpa using ho
        simp [this]]
     exact e1
   · unfold times
     rw [tu_cnt,cntP_congr (q:=fun o=>isX o&&o.i == l.i) fun o _=>by rw [tu_isX,tu_i]]
     exact e2
theorem tu_len:(tuN ls).length=ls.length:=by unfold tuN; rw [rot_len,List.length_map]
theorem tu_passes:passes (tuN ls)=passes ls:=by unfold passes; rw [tu_cnt]; exact cntP_congr fun l _=>tu_isP l
theorem tu_visits:visits (tuN ls)=visits ls:=by unfold visits; rw [tu_cnt]; exact cntP_congr fun l _=>tu_isX l
theorem tu_at {v:Nat} (ha:frm ls ls.length<ls.length) (hv:v<ls.length):at' (tuN ls) (rho ls.length (frm ls ls.length) v)=tuL (at' ls v):=by
 unfold tuN
 have:=rot_at (ls:=ls.map tuL) (a:=frm ls ls.length) (v:=v) (by simpa using ha) (by simpa using hv)
 rw [List.length_map] at this
 rw [this]
 exact at'_map _ hv
theorem tu_pos (l:Lt):pos (tuN ls) (tuL l)=pos ls l:=by
 unfold pos
 rw [tu_cnt,tu_g,tu_r]
 congr 1
 exact cntP_congr fun o _=>by rw [tu_isP,tu_g]
theorem ValR.turn (h:ValR f ls) (h0:ls≠[]):ValR f (tuN ls)∧patP (polys (tuN ls))=patP (polys ls):=by
 have hpos:0<ls.length:=List.length_pos_iff.2 h0
 have hok:∀ l,l∈tuN ls→okR f (tuN ls) l=true:=fun l hm=>by
  have hm:l∈ls.map tuL:=by
   unfold tuN rotL at hm
   rcases List.mem_append.1 hm with h1 | h1
   · exact List.mem_of_mem_drop h1
   · exact List.mem_of_mem_take h1
  obtain⟨l0,h1,rfl⟩:=List.mem_map.1 hm
  exact tu_okR (h.okr _ h1)
 obtain⟨r1,r2,r3⟩:=ValR.ranks h.lo h.okr
 obtain⟨q1,q2,q3⟩:=ValR.ranks h.lo hok
 have hw:=h.wv h0
 obtain⟨i,i1,i2,i3⟩:=up_ex hw.pas h.evn
 obtain⟨ha,hap,had⟩:=frm_spec ls.length (Nat.le_refl _) ⟨i,by omega,i1,i2,i3⟩
 have hat:=fun v hv=>tu_at (v:=v) ha hv
 have hdn:∀ v,v<ls.length→down (tuN ls) (rho ls.length (frm ls ls.length) v) = !down ls v:=fun v hv=>by
  have h1:=rot_passes (ls:=ls.map tuL) (a:=frm ls ls.length) (v:=v) (by simpa using ha) (by simpa using hv)
  rw [List.length_map,← List.map_take,← List.map_take,passes_map,passes_map,passes_map] at h1
  have h2:passes (ls.take (frm ls ls.length)) % 2=1:=by
   unfold down at had
   simp only [beq_eq_false_iff_ne,ne_eq] at had
   omega
  have h3:=h.evn
  unfold down tuN
  generalize passes ((rotL (frm ls ls.length) (ls.map tuL)).take (rho ls.length (frm ls ls.length) v))=A at *
  generalize passes (ls.take v)=B at *
  rw [Bool.eq_iff_iff]
  simp
  split at h1<;>omega
 have hrho:=fun v hv=>rho_eq (n:=ls.length) (a:=frm ls ls.length) (v:=v) ha hv
 have hsgm:=fun v hv=>sgm_eq (n:=ls.length) (a:=frm ls ls.length) (v:=v) ha hv
 have hlt:∀ v,v<ls.length→rho ls.length (frm ls ls.length) v<ls.length:=fun v hv=>Nat.mod_lt _ hpos
 have hltr:∀ v,v<ls.length→sgm ls.length (frm ls ls.length) v<ls.length:=fun v hv=>Nat.mod_lt _ hpos
 have hinv:∀ v,v<ls.length→sgm ls.length (frm ls ls.length) (rho ls.length (frm ls ls.length) v)=v:=fun v hv=>by
  rw [hsgm _ (hlt v hv),hrho v hv]
  split<;>split<;>omega
 have hinr:∀ v,v<ls.length→rho ls.length (frm ls ls.length) (sgm ls.length (frm ls ls.length) v)=v:=fun v hv=>by
  rw [hrho _ (hltr v hv),hsgm v hv]
  split<;>split<;>omega
 have himg:Img ls (tuN ls) (rho ls.length (frm ls ls.length)) (sgm ls.length (frm ls ls.length)) true:=by
  refine⟨hw,tu_len,tu_passes,hlt,hltr,hinv,hinr,fun v hv=>?_,fun v hv=>by rw [hat v hv,tu_k],fun v hv hk=>?_,fun v hv hk=>?_,fun v hv hk=>?_,fun v hv hk=>?_⟩
  · have hm:=Nat.mod_lt (v+ls.length - 1) hpos
    rw [hrho _ hm,mod_pred hv,mod_pred (hlt v hv),hrho v hv]
    split<;>split<;>split<;>(try split)<;>omega
  · obtain⟨w1,w2,w3,w4,w5⟩:=hw.oth v hv hk
    obtain⟨n1,n2⟩:=h.same_i hv hk
    have hne:rho ls.length (frm ls ls.length) (otherN ls v ls.length 0)≠rho ls.length (frm ls ls.length) v:=fun e=>by
     have:=hinv _ w1
     rw [e,hinv v hv] at this
     exact n1 this.symm
    refine otherN_eq ?_ ?_ ls.length 0 (Nat.zero_le _) (by have:=hlt _ w1; omega) (by rw [tu_len]; omega)
    · rw [hat _ w1,hat v hv,tu_isX,tu_i,tu_i,n2]
      simp [hne,isX,w2]
    · intro x hc hx
      rw [tu_len] at hx
      have hx2:=hltr x hx
      have ex:=hinr x hx
      rw [← ex] at hc ⊢
      rw [hat _ hx2,hat v hv,tu_isX,tu_i,tu_i] at hc
      simp only [Bool.and_eq_true,bne_iff_ne,ne_eq,beq_iff_eq,isX] at hc
      obtain⟨⟨c1,c2⟩,c3⟩:=hc
      rcases h.uniq hv hk hx2 c2 c3 with e | e
      · rw [e] at c1; exact absurd rfl c1
      · rw [e]
  · rw [hat v hv,tu_cross hk]
    simp only
    cases (at' ls v).o<;>cases ((at' ls v).s == 1)<;>rfl
  · rw [hdn v hv]
    cases down ls v<;>rfl
  · rw [if_pos rfl,idx_pos r2 r1 hv hk,idx_pos q2 q1 (by rw [tu_len]; exact hlt v hv) (by rw [hat v hv,tu_k]; exact hk),hat v hv,tu_pos]
 have hkk:∀ v,v<(tuN ls).length→(at' (tuN ls) v).k≠2→(at' (tuN ls) v).k=1:=fun v hv hk=>by
  rw [tu_len] at hv
  rw [← hinr v hv,hat _ (hltr v hv),tu_k] at hk ⊢
  exact hw.kin _ (hltr v hv) hk
 obtain⟨e1,e2⟩:=pat_opp hw.pas hw.kin hkk tu_len tu_passes (img_Opp himg)
 refine⟨⟨by rw [tu_len]; exact h.len,by rw [tu_visits]; exact h.vis,h.lo,h.hi,?_,by rw [tu_passes]; exact h.evn,hok,?_⟩,e1⟩
 · have e:rho ls.length (frm ls ls.length) (frm ls ls.length)=0:=by rw [hrho _ ha,if_neg (by omega)]; omega
   have:=hat _ ha
   rw [e] at this
   rw [this,tu_k]
   simpa [isP] using hap
 · rw [tu_len,tu_passes,tu_visits,e2]
   exact h.cyc
end
end Go.Known
end
section
namespace Go.Known
open Go.Plain
section
variable {f:Int} {ls:List Lt}
end
end Go.Known
end
