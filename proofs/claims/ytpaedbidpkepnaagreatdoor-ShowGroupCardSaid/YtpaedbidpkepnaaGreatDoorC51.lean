/- Part 51 of the proof: Px, Py. -/
import Derived.Test.YtpaedbidpkepnaaGreatDoorC47
import Derived.Test.YtpaedbidpkepnaaGreatDoorC50
set_option linter.all false
section
namespace Go.Known
open Go.Plain
theorem passes_g {g:Lt→Lt} (hk:∀ l,(g l).k=l.k) (l:List Lt):passes (l.map g)=passes l:=by
 unfold passes
 rw [cntP_map]
 exact cntP_congr fun a _=>by unfold isP; rw [hk]
theorem down_g {g:Lt→Lt} (hk:∀ l,(g l).k=l.k) (l:List Lt) (p:Nat):down (l.map g) p=down l p:=by
 unfold down
 rw [← List.map_take,passes_g hk]
theorem isP_g {g:Lt→Lt} (hk:∀ l,(g l).k=l.k) (l:Lt):isP (g l)=isP l:=by unfold isP; rw [hk]
theorem De.refl {y:List Lt} (h0:y≠[]):De true y y:=by
 have:=De_map (φ:=id) h0 (inj_id y)
 have e:y.map (ap id)=y:=by
  conv=>rhs; rw [← List.map_id y]
  exact List.map_congr_left fun l _=>ap_id l
 rwa [e] at this
theorem inj_g {g:Lt→Lt} {φ:Int→Int} {y:List Lt} (hk:∀ l,(g l).k=l.k) (hi:∀ l,(g l).i=l.i) (h:InjI φ y):InjI φ (y.map g):=by
 intro a ha b hb hka hkb hab
 obtain⟨a0,a1,rfl⟩:=List.mem_map.1 ha
 obtain⟨b0,b1,rfl⟩:=List.mem_map.1 hb
 rw [hi,hi] at hab ⊢
 rw [hk] at hka hkb
 exact h a0 a1 b0 b1 hka hkb hab
theorem De_g {e:Bool} {y x:List Lt} {gy gx:Lt→Lt} (hky:∀ l,(gy l).k=l.k) (hiy:∀ l,(gy l).i=l.i) (hkx:∀ l,(gx l).k=l.k) (hc:∀ φ l,gx (ap φ l)=ap φ (gy l)) (h:De e y x):De e (y.map gy) (x.map gx):=by
 obtain⟨hl,s,φ,hs,hi,h1⟩:=h
 refine⟨by rw [List.length_map,List.length_map,hl],s,φ,by rw [List.length_map]; exact hs,inj_g hky hiy hi,fun p hp=>?_⟩
 rw [List.length_map] at hp ⊢
 obtain⟨q1,q2⟩:=h1 p hp
 have hq:=mvt_lt (e:=e) hs hp
 rw [atm (by rw [hl]; exact hp),atm hq,down_g hkx,down_g hky,isP_g hkx]
 exact⟨by rw [q1,hc],q2⟩
theorem De_cnt {e:Bool} {y x:List Lt} {p:Lt→Bool} (hp:∀ φ l,p (ap φ l)=p l) (h:De e y x):cntP p x=cntP p y:=by
 obtain⟨hl,s,φ,hs,hi,h1⟩:=h
 have hm:∀ l:List Lt,cntP p (l.map (ap φ))=cntP p l:=fun l=>by rw [cntP_map]; exact cntP_congr fun a _=>hp φ a
 cases e with
 | true=>
  have hx:x=(rotL s y).map (ap φ):=by
   refine at'_ext (by rw [List.length_map,rotL_length,hl]) fun q hq=>?_
   rw [hl] at hq
   rw [(h1 q hq).1,atm (by rw [rotL_length]; exact hq),rot_mvt hs hq]
  rw [hx,hm,rot_cnt]
 | false=>
  have hx:x=(rotL (y.length - 1 - s) y.reverse).map (ap φ):=by
   refine at'_ext (by rw [List.length_map,rotL_length,List.length_reverse,hl]) fun q hq=>?_
   rw [hl] at hq
   have hs':y.length - 1 - s<y.reverse.length:=by rw [List.length_reverse]; omega
   have hq':q<y.reverse.length:=by rw [List.length_reverse]; exact hq
   have e1:y.length - 1 - mvt y.length true (y.length - 1 - s) q=mvt y.length false s q:=by
    unfold mvt
    simp only [Bool.false_eq_true,if_false,if_true]
    split<;>split<;>omega
   rw [(h1 q hq).1,atm (by rw [rotL_length]; exact hq'),rot_mvt hs' hq',List.length_reverse,at'_rev (mvt_lt (by omega) hq),e1]
  have hr:cntP p y.reverse=cntP p y:=by unfold cntP; rw [List.filter_reverse,List.length_reverse]
  rw [hx,hm,rot_cnt,hr]
theorem sw_ap (φ:Int→Int) (l:Lt):swL (ap φ l)=ap φ (swL l):=by
 by_cases h:l.k=2
 · rw [ap_cross h,sw_cross (l:={ l with i:=φ l.i }) h,sw_cross h,ap_cross (l:={ l with o:=!l.o,s:=-l.s }) h]
 · rw [ap_other h]
   have:swL l=l:=by unfold swL; rw [if_neg h]
   rw [this,ap_other h]
theorem De_sw {e:Bool} {y x:List Lt} (h:De e y x):De e (swN y) (swN x):=De_g sw_k sw_i sw_k sw_ap h
theorem inG_De {e:Bool} {y x:List Lt} (h:De e y x) (g:Int):inG g x=inG g y:=
 De_cnt (p:=fun l=>isP l&&l.g == g) (fun φ l=>by
  by_cases hk:l.k=2
  · rw [ap_cross hk]
    rfl
  · rw [ap_other hk]) h
theorem mi_ap {f:Int} {y x:List Lt} (hg:∀ g,inG g x=inG g y) (φ:Int→Int) (l:Lt):miL f x (ap φ l)=ap φ (miL f y l):=by
 by_cases h:l.k=2
 · have h1:¬l.k=1:=by omega
   have e1:miL f y l={ l with s:=-l.s }:=by unfold miL; rw [if_neg h1]
   rw [ap_cross h,e1,ap_cross (l:={ l with s:=-l.s }) h]
   unfold miL
   rw [if_neg (by exact h1)]
 · rw [ap_other h]
   have hk:(miL f y l).k=l.k:=mi_k l
   rw [ap_other (by rw [hk]; exact h)]
   unfold miL
   rw [hg]
theorem De_mi {f:Int} {e:Bool} {y x:List Lt} (h:De e y x):De e (miN f y) (miN f x):=De_g mi_k mi_i mi_k (mi_ap (inG_De h)) h
theorem tu_ap (φ:Int→Int) (l:Lt):tuL (ap φ l)=ap φ (tuL l):=by
 by_cases h:l.k=2
 · rw [ap_cross h,tu_cross (l:={ l with i:=φ l.i }) h,tu_cross h,ap_cross (l:={ l with o:=!l.o }) h]
 · rw [ap_other h]
   have:tuL l=l:=by unfold tuL; rw [if_neg h]
   rw [this,ap_other h]
theorem tu_tu (l:Lt):tuL (tuL l)=l:=by
 by_cases h:l.k=2
 · rw [tu_cross h,tu_cross (l:={ l with o:=!l.o }) h]
   simp
 · have:tuL l=l:=by unfold tuL; rw [if_neg h]
   rw [this,this]
structure Tf (y:List Lt) (a:Nat):Prop where
 ev:passes y % 2=0
 lt:a<y.length
 dn:down y a=false
 tu:tuN y=rotL a (y.map tuL)
theorem ValR.tf {f:Int} {y:List Lt} (h:ValR f y) (h0:y≠[]):Tf y (frm y y.length):=by
 have hw:=h.wv h0
 obtain⟨iu,u1,u2,u3⟩:=up_ex hw.pas h.evn
 obtain⟨h1,h2,h3⟩:=frm_spec y.length (Nat.le_refl _) ⟨iu,by omega,u1,u2,u3⟩
 exact⟨h.evn,h1,h3,rfl⟩
theorem Tf.at {y:List Lt} {a p:Nat} (h:Tf y a) (hp:p<y.length):at' (tuN y) p=tuL (at' y (mvt y.length true a p)):=by
 have hv:=mvt_lt (e:=true) h.lt hp
 rw [h.tu,rot_mvt (by rw [List.length_map]; exact h.lt) (by rw [List.length_map]; exact hp),List.length_map,atm hv]
theorem Tf.down {y:List Lt} {a p:Nat} (h:Tf y a) (hp:p<y.length):down (tuN y) p = !down y (mvt y.length true a p):=by
 have hv:=mvt_lt (e:=true) h.lt hp
 have hr:rho y.length a (mvt y.length true a p)=p:=by
  rw [rho_eq h.lt hv]
  unfold mvt
  simp only [if_true]
  split<;>split<;>omega
 have hl:(y.map tuL).length=y.length:=List.length_map _
 have h2:=rot_passes (ls:=y.map tuL) (a:=a) (v:=mvt y.length true a p) (by rw [hl]; exact h.lt) (by rw [hl]; exact hv)
 rw [hl,hr,← h.tu,← List.map_take,← List.map_take,passes_map,passes_map,passes_map] at h2
 have hd:=h.dn
 have he:=h.ev
 unfold Plain.down at hd ⊢
 have hd':passes (y.take a) % 2=1:=by
  simp only [beq_eq_false_iff_ne,ne_eq] at hd
  omega
 have e:passes ((tuN y).take p) % 2=(passes (y.take (mvt y.length true a p))+1) % 2:=by split at h2<;>omega
 rw [e]
 rcases Nat.mod_two_eq_zero_or_one (passes (y.take (mvt y.length true a p))) with h3 | h3
 · rw [h3,show (passes (y.take (mvt y.length true a p))+1) % 2=1 by omega]; rfl
 · rw [h3,show (passes (y.take (mvt y.length true a p))+1) % 2=0 by omega]; rfl
theorem De_tu {e:Bool} {y x:List Lt} {a b:Nat} (hy:Tf y a) (hx:Tf x b) (h:De e y x):De e (tuN y) (tuN x):=by
 obtain⟨hl,s,φ,hs,hi,h1⟩:=h
 have hb:b<y.length:=by have:=hx.lt; omega
 have hsb:=mvt_lt (e:=e) hs hb
 have hia:=ivt_lt (e:=true) hy.lt
 refine⟨by rw [tu_len,tu_len,hl],mvt y.length true (ivt y.length true a) (mvt y.length e s b),φ,by rw [tu_len]; exact mvt_lt hia hsb,?_,fun p hp=>?_⟩
 · have:InjI φ (y.map tuL):=inj_g tu_k tu_i hi
   intro c hc d hd
   have hm:∀ z,z∈tuN y→z∈y.map tuL:=fun z hz=>by
    rw [hy.tu] at hz
    unfold rotL at hz
    rcases List.mem_append.1 hz with h2 | h2
    · exact List.mem_of_mem_drop h2
    · exact List.mem_of_mem_take h2
   exact this c (hm c hc) d (hm d hd)
 · rw [tu_len] at hp ⊢
   have hp':p<x.length:=by rw [hl]; exact hp
   have hbp:=mvt_lt (n:=y.length) (e:=true) hb hp
   obtain⟨q1,q2⟩:=h1 _ hbp
   have hs2:=mvt_lt (n:=y.length) (e:=true) hia hsb
   have hm:=mvt_lt (e:=e) hs2 hp
   have e1:mvt y.length true a (mvt y.length e (mvt y.length true (ivt y.length true a) (mvt y.length e s b)) p)=mvt y.length e s (mvt y.length true b p):=by
    rw [mvt_mv hy.lt hs2 hp,mvt_inv hy.lt hsb,mvt_mv hs hb hp]
    cases e<;>rfl
   rw [hx.at hp',hy.at hm,hx.down hp',hy.down hm,hl,e1]
   refine⟨by rw [q1,tu_ap],fun hz=>?_⟩
   rw [tu_isP] at hz
   rw [q2 hz]
   cases e<;>cases Plain.down y (mvt y.length _ s (mvt y.length true b p))<;>rfl
theorem De_tutu {y:List Lt} {a b:Nat} (hy:Tf y a) (hx:Tf (tuN y) b):De true y (tuN (tuN y)):=by
 have hb:b<y.length:=by have:=hx.lt; rwa [tu_len] at this
 refine⟨by rw [tu_len,tu_len],mvt y.length true a b,id,mvt_lt hy.lt hb,inj_id y,fun p hp=>?_⟩
 have hp':p<(tuN y).length:=by rw [tu_len]; exact hp
 have hbp:=mvt_lt (n:=y.length) (e:=true) hb hp
 rw [hx.at hp',hx.down hp',tu_len,hy.at hbp,hy.down hbp,mvt_mv hy.lt hb hp,tu_tu,ap_id]
 refine⟨rfl,fun _=>?_⟩
 show(!!down y (mvt y.length (true == true) (mvt y.length true a b) p))=_
 rw [Bool.not_not]
 show down y (mvt y.length true (mvt y.length true a b) p)=(down y (mvt y.length true (mvt y.length true a b) p) == true)
 cases down y (mvt y.length true (mvt y.length true a b) p)<;>rfl
end Go.Known
end
section
namespace Go.Known
open Go.Plain
theorem sw_sw (y:List Lt):swN (swN y)=y:=by
 unfold swN
 rw [List.map_map]
 conv=>rhs; rw [← List.map_id y]
 refine List.map_congr_left fun l _=>?_
 show swL (swL l)=l
 by_cases h:l.k=2
 · rw [sw_cross h,sw_cross (l:={ l with o:=!l.o,s:=-l.s }) h]
   obtain⟨a,b,c,d,e,g⟩:=l
   simp
 · have:swL l=l:=by unfold swL; rw [if_neg h]
   rw [this,this]
theorem mi_mi (f:Int) (y:List Lt):miN f (miN f y)=y:=by
 have hG:∀ g,inG (f - g) (miN f y)=inG g y:=fun g=>mi_inG g
 show(miN f y).map (miL f (miN f y))=y
 conv=>lhs; arg 2; rw [miN]
 rw [List.map_map]
 conv=>rhs; rw [← List.map_id y]
 refine List.map_congr_left fun l _=>?_
 show miL f (miN f y) (miL f y l)=l
 by_cases h:l.k=1
 · rw [mi_pass h,mi_pass (l:={ l with g:=f - l.g,r:=(inG l.g y:Int)+1 - l.r }) h]
   simp only [hG]
   obtain⟨a,b,c,d,e,g⟩:=l
   simp only [Lt.mk.injEq,true_and,and_true]
   refine⟨by omega,by omega⟩
 · have e1:miL f y l={ l with s:=-l.s }:=by unfold miL; rw [if_neg h]
   have e2:miL f (miN f y) { l with s:=-l.s }={ l with s:=- -l.s }:=by unfold miL; rw [if_neg h]
   rw [e1,e2]
   obtain⟨a,b,c,d,e,g⟩:=l
   simp
theorem inG_sw (g:Int) (y:List Lt):inG g (swN y)=inG g y:=by
 unfold inG swN
 rw [cntP_map]
 refine cntP_congr fun l _=>?_
 rw [sw_g]
 unfold isP
 rw [sw_k]
theorem inG_tu (g:Int) (y:List Lt):inG g (tuN y)=inG g y:=by
 unfold inG
 rw [tu_cnt]
 refine cntP_congr fun l _=>?_
 rw [tu_g]
 unfold isP
 rw [tu_k]
theorem sw_mi (f:Int) (y:List Lt):swN (miN f y)=miN f (swN y):=by
 show(miN f y).map swL=(swN y).map (miL f (swN y))
 unfold miN swN
 rw [List.map_map,List.map_map]
 refine List.map_congr_left fun l _=>?_
 show swL (miL f y l)=miL f (swN y) (swL l)
 by_cases h:l.k=1
 · have e1:swL l=l:=by unfold swL; rw [if_neg (by omega)]
   rw [e1,mi_pass h,mi_pass h,inG_sw]
   unfold swL
   rw [if_neg (by show ¬l.k=2; omega)]
 · by_cases h2:l.k=2
   · have e1:miL f y l={ l with s:=-l.s }:=by unfold miL; rw [if_neg h]
     rw [e1,sw_cross h2,sw_cross (l:={ l with s:=-l.s }) h2]
     unfold miL
     rw [if_neg (by exact h)]
   · have e1:miL f y l={ l with s:=-l.s }:=by unfold miL; rw [if_neg h]
     have e2:swL l=l:=by unfold swL; rw [if_neg h2]
     rw [e1,e2]
     unfold swL miL
     rw [if_neg (by exact h2),if_neg h]
theorem frm_g {g:Lt→Lt} (hk:∀ l,(g l).k=l.k) (y:List Lt):∀ k,k≤y.length→frm (y.map g) k=frm y k
 | 0,_=>rfl
 | k+1,h=>by
  simp only [frm,List.length_map]
  rw [frm_g hk y k (by omega),atm (by omega),down_g hk,isP_g hk]
theorem rot_map {g:Lt→Lt} (s:Nat) (y:List Lt):rotL s (y.map g)=(rotL s y).map g:=by
 unfold rotL
 rw [List.map_append,List.map_drop,List.map_take]
theorem tu_sw (y:List Lt):tuN (swN y)=swN (tuN y):=by
 unfold tuN swN
 rw [List.length_map,frm_g sw_k y _ (Nat.le_refl _),← rot_map,List.map_map,List.map_map]
 congr 1
 refine List.map_congr_left fun l _=>?_
 show tuL (swL l)=swL (tuL l)
 by_cases h:l.k=2
 · rw [sw_cross h,tu_cross h,tu_cross (l:={ l with o:=!l.o,s:=-l.s }) h,sw_cross (l:={ l with o:=!l.o }) h]
 · have e1:swL l=l:=by unfold swL; rw [if_neg h]
   have e2:tuL l=l:=by unfold tuL; rw [if_neg h]
   rw [e1,e2,e1]
theorem tu_mi (f:Int) (y:List Lt):tuN (miN f y)=miN f (tuN y):=by
 have hG:∀ l,miL f (tuN y) l=miL f y l:=fun l=>by unfold miL; rw [inG_tu]
 have e0:miN f (tuN y)=(tuN y).map (miL f y):=List.map_congr_left fun l _=>hG l
 rw [e0]
 unfold tuN miN
 rw [List.length_map,frm_g mi_k y _ (Nat.le_refl _),← rot_map,List.map_map,List.map_map]
 congr 1
 refine List.map_congr_left fun l _=>?_
 show tuL (miL f y l)=miL f y (tuL l)
 by_cases h:l.k=1
 · have e2:tuL l=l:=tu_pass h
   rw [e2]
   exact tu_pass (by rw [mi_k]; exact h)
 · have e1:miL f y l={ l with s:=-l.s }:=by unfold miL; rw [if_neg h]
   by_cases h2:l.k=2
   · rw [e1,tu_cross h2,tu_cross (l:={ l with s:=-l.s }) h2]
     unfold miL
     rw [if_neg (by exact h)]
   · have e2:tuL l=l:=by unfold tuL; rw [if_neg h2]
     rw [e2,e1]
     unfold tuL
     rw [if_neg (by exact h2)]
def im (f:Int) (a b c:Bool) (y:List Lt):List Lt:=img3 c (img2 f b (img1 a y))
theorem i1_i1 (a b:Bool) (y:List Lt):img1 a (img1 b y)=img1 (a != b) y:=by
 cases a<;>cases b<;>simp [img1,sw_sw]
theorem i2_i2 (f:Int) (a b:Bool) (y:List Lt):img2 f a (img2 f b y)=img2 f (a != b) y:=by
 cases a<;>cases b<;>simp [img2,mi_mi]
theorem i1_i2 (f:Int) (a b:Bool) (y:List Lt):img1 a (img2 f b y)=img2 f b (img1 a y):=by
 cases a<;>cases b<;>simp [img1,img2,sw_mi]
theorem i1_i3 (a c:Bool) (y:List Lt):img1 a (img3 c y)=img3 c (img1 a y):=by
 cases a<;>cases c<;>simp [img1,img3,tu_sw]
theorem i2_i3 (f:Int) (b c:Bool) (y:List Lt):img2 f b (img3 c y)=img3 c (img2 f b y):=by
 cases b<;>cases c<;>simp [img2,img3,tu_mi]
theorem i3_i3 {f:Int} {y:List Lt} (a c:Bool) (h:ValR f y) (h0:y≠[]):De true (img3 (a != c) y) (img3 a (img3 c y)):=by
 obtain⟨t1,t2,_⟩:=img3_ok true h h0
 have hT:=h.tf h0
 have hT2:=t1.tf t2
 cases a<;>cases c
 · exact De.refl h0
 · exact De.refl t2
 · exact De.refl t2
 · exact De_tutu hT hT2
theorem im_im {f:Int} {y:List Lt} (a b c a' b' c':Bool) (h:ValR f y) (h0:y≠[]):De true (im f (a' != a) (b' != b) (c' != c) y) (im f a' b' c' (im f a b c y)):=by
 have e:im f a' b' c' (im f a b c y)=img3 c' (img3 c (img2 f (b' != b) (img1 (a' != a) y))):=by
  unfold im
  rw [i1_i3,i2_i3,i1_i2,i2_i2,i1_i1]
 rw [e]
 obtain⟨a1,a2,_⟩:=img1_ok (a' != a) h h0
 obtain⟨b1,b2,_⟩:=img2_ok (b' != b) a1 a2
 exact i3_i3 c' c b1 b2
theorem im_De {f:Int} {e:Bool} {y x:List Lt} (a b c:Bool) (hy:ValR f y) (y0:y≠[]) (hx:ValR f x) (x0:x≠[]) (h:De e y x):De e (im f a b c y) (im f a b c x):=by
 obtain⟨a1,a2,_⟩:=img1_ok a hy y0
 obtain⟨b1,b2,_⟩:=img2_ok b a1 a2
 obtain⟨c1,c2,_⟩:=img1_ok a hx x0
 obtain⟨d1,d2,_⟩:=img2_ok b c1 c2
 have h1:De e (img1 a y) (img1 a x):=by
  cases a
  · exact h
  · exact De_sw h
 have h2:De e (img2 f b (img1 a y)) (img2 f b (img1 a x)):=by
  cases b
  · exact h1
  · exact De_mi h1
 unfold im
 cases c
 · exact h2
 · exact De_tu (b1.tf b2) (d1.tf d2) h2
theorem im_ok {f:Int} {y:List Lt} (a b c:Bool) (h:ValR f y) (h0:y≠[]):ValR f (im f a b c y)∧im f a b c y≠[]:=by
 obtain⟨h1,h2,_⟩:=img_all a b c h h0
 exact⟨h1,h2⟩
theorem has_De {f:Int} {y z:List Lt} (hy:ValR f y) (y0:y≠[]) (hz:ValR f z) (z0:z≠[]):normN y=normN z ↔ ∃ e,De e y z:=
 ⟨De_norm (hy.evx y0) (hz.evx z0) (by simp [isP,hy.fst]) (by simp [isP,hz.fst]),fun⟨_,h⟩=>norm_De (hy.evx y0) (hz.evx z0) h⟩
def bA (i:Nat):Bool:=decide (4≤i)
def bB (i:Nat):Bool:=decide (2≤i % 4)
def bC (i:Nat):Bool:=decide (i % 2=1)
theorem imgI_im (f:Int) (y:List Lt) (i:Nat):imgI f y i=im f (bA i) (bB i) (bC i) y:=rfl
theorem xor_bits:∀ i,i<8 → ∀ k,k<8→(i ^^^ k)<8∧bA (i ^^^ k)=(bA i != bA k)∧bB (i ^^^ k)=(bB i != bB k)∧bC (i ^^^ k)=(bC i != bC k):=by decide
theorem imgI_imgI {f:Int} {y:List Lt} (h:ValR f y) (h0:y≠[]) {i k:Nat} (hi:i<8) (hk:k<8):De true (imgI f y (i ^^^ k)) (imgI f (imgI f y k) i):=by
 obtain⟨_,h1,h2,h3⟩:=xor_bits i hi k hk
 rw [imgI_im,imgI_im,imgI_im,h1,h2,h3]
 exact im_im _ _ _ _ _ _ h h0
theorem hasI_iff {f:Int} {y:List Lt} (h:ValR f y) (h0:y≠[]) (i:Nat):hasI f y i=true ↔ ∃ e,De e y (imgI f y i):=by
 obtain⟨h1,h2⟩:=im_ok (bA i) (bB i) (bC i) h h0
 unfold hasI
 rw [decide_eq_true_eq]
 exact has_De h h0 h1 h2
theorem imgI_nil (f:Int) (i:Nat):imgI f [] i=[]:=by unfold imgI; rw [img1_nil,img2_nil,img3_nil]
theorem hasI_nil (f:Int) (i:Nat):hasI f [] i=true:=by unfold hasI; rw [imgI_nil]; simp
theorem hasI_zero (f:Int) (y:List Lt):hasI f y 0=true:=by
 have:imgI f y 0=y:=rfl
 unfold hasI
 rw [this]
 simp
theorem hasI_mul {f:Int} {y:List Lt} (he:errC f y=0) {i k:Nat} (hi:i<8) (hk:k<8) (h1:hasI f y i=true) (h2:hasI f y k=true):hasI f y (i ^^^ k)=true:=by
 by_cases h0:y=[]
 · subst h0; exact hasI_nil f _
 have h:=valR_of he h0
 obtain⟨e1,d1⟩:=(hasI_iff h h0 i).1 h1
 obtain⟨e2,d2⟩:=(hasI_iff h h0 k).1 h2
 obtain⟨v1,v2⟩:=im_ok (bA k) (bB k) (bC k) h h0
 have d3:=im_De (bA i) (bB i) (bC i) h h0 v1 v2 d2
 have d4:=imgI_imgI h h0 hi hk
 exact(hasI_iff h h0 _).2 ⟨_,(d1.trans d3).trans d4.symm⟩
theorem xor_c (i k:Nat):i ^^^ k=k ^^^ i:=Nat.xor_comm i k
theorem hasI_img {f:Int} {y:List Lt} (he:errC f y=0) {i w:Nat} (hi:i<8) (hw:w<8):hasI f (imgI f y w) i=hasI f y i:=by
 by_cases h0:y=[]
 · subst h0; rw [imgI_nil]
 have h:=valR_of he h0
 obtain⟨v1,v2⟩:=im_ok (bA w) (bB w) (bC w) h h0
 have v1':ValR f (imgI f y w):=v1
 have v2':imgI f y w≠[]:=v2
 obtain⟨u1,u2⟩:=im_ok (bA i) (bB i) (bC i) h h0
 have u1':ValR f (imgI f y i):=u1
 have u2':imgI f y i≠[]:=u2
 have d1:=imgI_imgI h h0 hi hw
 have d2:=imgI_imgI h h0 hw hi
 rw [xor_c] at d2
 have d3:De true (imgI f (imgI f y w) i) (imgI f (imgI f y i) w):=d1.symm.trans d2
 have dww:=imgI_imgI h h0 hw hw
 rw [Nat.xor_self] at dww
 have e0:imgI f y 0=y:=rfl
 rw [e0] at dww
 have key:hasI f (imgI f y w) i=true↔hasI f y i=true:=by
  rw [hasI_iff v1' v2',hasI_iff h h0]
  constructor
  · rintro⟨e,d⟩
    have d4:=d.trans d3
    obtain⟨z1,z2⟩:=im_ok (bA w) (bB w) (bC w) u1' u2'
    have d5:=im_De (bA w) (bB w) (bC w) v1' v2' z1 z2 d4
    have dii:=imgI_imgI u1' u2' hw hw
    rw [Nat.xor_self] at dii
    have e1:imgI f (imgI f y i) 0=imgI f y i:=rfl
    rw [e1] at dii
    exact⟨_,(dww.trans d5).trans dii.symm⟩
  · rintro⟨e,d⟩
    have d5:=im_De (bA w) (bB w) (bC w) h h0 u1' u2' d
    exact⟨_,d5.trans d3.symm⟩
 cases h1:hasI f (imgI f y w) i<;>cases h2:hasI f y i
 · rfl
 · rw [h1,h2] at key; simp at key
 · rw [h1,h2] at key; simp at key
 · rfl
theorem filter_count (h:Nat→Bool):∀ l:List Nat,(l.filter h).length=(l.map fun x=>(h x).toNat).sum
 | []=>rfl
 | x :: r=>by
  rw [List.filter_cons,List.map_cons,List.sum_cons,← filter_count h r]
  cases h x<;>simp [Nat.add_comm]
def imp (x y z:Bool):Bool:=!(x&&y)||z
theorem imp_of {x y z:Bool} (h:(x&&y)=true→z=true):imp x y z=true:=by
 cases x<;>cases y<;>cases z<;>simp [imp] at h ⊢
def clo (b1 b2 b3 b4 b5 b6 b7:Bool):Bool:=imp b1 b2 b3&&imp b1 b3 b2&&imp b2 b3 b1&&imp b1 b4 b5&&imp b1 b5 b4&&imp b4 b5 b1&&imp b1 b6 b7&&imp b1 b7 b6&&imp b6 b7 b1&&imp b2 b4 b6&&imp b2 b6 b4&&imp b4 b6 b2&&imp b2 b5 b7&&imp b2 b7 b5&&imp b5 b7 b2&&imp b3 b4 b7&&imp b3 b7 b4&&imp b4 b7 b3&&imp b3 b5 b6&&imp b3 b6 b5&&imp b5 b6 b3
theorem eight:∀ b1 b2 b3 b4 b5 b6 b7:Bool,(!clo b1 b2 b3 b4 b5 b6 b7||8 % (1+b1.toNat+b2.toNat+b3.toNat+b4.toNat+b5.toNat+b6.toNat+b7.toNat) == 0)=true:=by decide
theorem sym_eight {f:Int} {y:List Lt} (he:errC f y=0):8 % (symN f y 8).length=0:=by
 have hm:∀ i k,i<8→k<8→(hasI f y i&&hasI f y k)=true→hasI f y (i ^^^ k)=true:=fun i k hi hk h=>by
  simp only [Bool.and_eq_true] at h
  exact hasI_mul he hi hk h.1 h.2
 have hc:(symN f y 8).length=1+(hasI f y 1).toNat+(hasI f y 2).toNat+(hasI f y 3).toNat+(hasI f y 4).toNat+(hasI f y 5).toNat+(hasI f y 6).toNat+(hasI f y 7).toNat:=by
  unfold symN
  rw [filter_count,show List.range 8=[0,1,2,3,4,5,6,7] from rfl]
  simp only [List.map_cons,List.map_nil,List.sum_cons,List.sum_nil,hasI_zero,Bool.toNat_true]
  omega
 rw [hc]
 have hk:clo (hasI f y 1) (hasI f y 2) (hasI f y 3) (hasI f y 4) (hasI f y 5) (hasI f y 6) (hasI f y 7)=true:=by
  unfold clo
  simp only [Bool.and_eq_true]
  exact⟨⟨⟨⟨⟨⟨⟨⟨⟨⟨⟨⟨⟨⟨⟨⟨⟨⟨⟨⟨imp_of (hm 1 2 (by omega) (by omega)),imp_of (hm 1 3 (by omega) (by omega))⟩,imp_of (hm 2 3 (by omega) (by omega))⟩,imp_of (hm 1 4 (by omega) (by omega))⟩,imp_of (hm 1 5 (by omega) (by omega))⟩,imp_of (hm 4 5 (by omega) (by omega))⟩,imp_of (hm 1 6 (by omega) (by omega))⟩,imp_of (hm 1 7 (by omega) (by omega))⟩,imp_of (hm 6 7 (by omega) (by omega))⟩,imp_of (hm 2 4 (by omega) (by omega))⟩,imp_of (hm 2 6 (by omega) (by omega))⟩,imp_of (hm 4 6 (by omega) (by omega))⟩,imp_of (hm 2 5 (by omega) (by omega))⟩,imp_of (hm 2 7 (by omega) (by omega))⟩,imp_of (hm 5 7 (by omega) (by omega))⟩,imp_of (hm 3 4 (by omega) (by omega))⟩,imp_of (hm 3 7 (by omega) (by omega))⟩,imp_of (hm 4 7 (by omega) (by omega))⟩,imp_of (hm 3 5 (by omega) (by omega))⟩,imp_of (hm 3 6 (by omega) (by omega))⟩,imp_of (hm 5 6 (by omega) (by omega))⟩
 have h8:=eight (hasI f y 1) (hasI f y 2) (hasI f y 3) (hasI f y 4) (hasI f y 5) (hasI f y 6) (hasI f y 7)
 rw [hk] at h8
 simpa using h8
theorem symN_img {f:Int} {y:List Lt} (he:errC f y=0) {w:Nat} (hw:w<8):symN f (imgI f y w) 8=symN f y 8:=by
 unfold symN
 exact List.filter_congr fun i hi=>hasI_img he (List.mem_range.1 hi) hw
end Go.Known
end
