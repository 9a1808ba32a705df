/- Part 52 of the proof: Zd. -/
import Derived.Test.YtipeejpafgnjdaaGreatDoorH50
import Derived.Test.YtipeejpafgnjdaaGreatDoorH51
set_option linter.all false
namespace Go.Known
open Go.Plain
theorem ValR.nm{f:Int}{x:List Lt}(h:ValR f x):NmOk x:=fun a hm hk=>by
 have:=(Zai hk).1 (h.okr a hm);exact⟨this.2.2.2.1,this.2.2.2.2.1⟩
theorem Z7y{y:List Lt}(h:Ev y):(at' (U4 y) 0).k=1:=by
 obtain⟨i0,h1,h2,h3⟩:=Zre h.bk;rw[Zqs h1 h2 h3];have hz:isP (at' y.reverse i0)=true:=by simp only[bkC,bA]at h2; exact h2.1
 have e:=Zf5 (y:=y.reverse) (s:=i0) (p:=0) (by rw[List.length_reverse]; exact h1) (by rw[List.length_reverse]; omega)
 rw[List.length_reverse,Zub h1]at e;rw[e];simpa[isP]using hz
theorem Zyw{y:List Lt}{a:Lt}(h:a∈U4 y):a∈y:=by
 unfold U4 at h;split at h
 ·unfold V5 at h;rcases List.mem_append.1 h with h|h
  ·exact List.mem_reverse.1 (List.mem_of_mem_drop h)
  ·exact List.mem_reverse.1 (List.mem_of_mem_take h)
 ·exact List.mem_reverse.1 h
theorem Zz9:∀ (l:List Lt) (met:List Int),met.Nodup→(l.foldl Q6 met).Nodup
 | [],_,h=>h
 | a :: r,met,h=>by
  rw[List.foldl_cons];refine Zz9 r _ ?_;unfold Q6;split
  ·rename_i hc;have hn:a.i∉met:=fun hm=>by
    have:∀ m:List Int,a.i∈m→W5 a.i m≠0:=by
     intro m
     induction m with
     | nil=>intro c; cases c
     | cons z r ih=>
      intro c;simp only[W5];by_cases e:a.i=z
      ·rw[if_pos e]; decide
      ·rw[if_neg e];rcases List.mem_cons.1 c with c|c
       ·exact absurd c e
       ·rw[if_neg (ih c)]; omega
    exact this met hm hc.2
   rw[List.nodup_append];refine⟨h,by simp,fun x hx z hz e=>?_⟩
   rw[List.mem_singleton]at hz;rw[← hz,← e]at hn;exact hn hx
  ·exact h
theorem Zv0{ls:List Lt}:∀ met:List Int,met.Nodup→(∀ z,z∈met→M9 z ls=2)→Z4 (fun l=>isX l&&met.contains l.i) ls=2*met.length
 | [],_,_=>by
  have:Z4 (fun l=>isX l&&([]:List Int).contains l.i) ls=Z4 (fun _=>false) ls:=T0 fun l _=>by simp
  rw[this];simp[Z4]
 | z :: r,hn,ht=>by
  rw[List.nodup_cons]at hn;have h1:=Zjy (fun l=>isX l&&(z :: r).contains l.i) (fun l=>l.i == z) ls
  have e1:Z4 (fun l=>isX l&&(z :: r).contains l.i&&(l.i == z)) ls=M9 z ls:=by
   unfold M9;refine T0 fun l _=>?_
   by_cases hz:l.i=z
   ·simp[hz]
   ·have:(l.i == z)=false:=by simpa using hz
    simp[this]
  have e2:Z4 (fun l=>isX l&&(z :: r).contains l.i && !(l.i == z)) ls=Z4 (fun l=>isX l&&r.contains l.i) ls:=by
   refine T0 fun l _=>?_
   by_cases hz:l.i=z
   ·have:=hn.1;simp[hz,this]
   ·simp[hz]
  rw[e1,e2,ht z (List.mem_cons_self ..),Zv0 r hn.2 (fun w hw=>ht w (List.mem_cons_of_mem _ hw))]at h1
  rw[h1,List.length_cons];omega
theorem Z83{y:List Lt}{z:Int}(h:z∈W7 y y.length):∃ a,a∈y∧a.k=2∧a.i=z:=by
 have:∀ (l:List Lt) (met:List Int),z∈l.foldl Q6 met→z∈met ∨ ∃ a,a∈l∧a.k=2∧a.i=z:=by
  intro l
  induction l with
  | nil=>exact fun met h=>.inl h
  | cons a r ih=>
   intro met h;rw[List.foldl_cons]at h;rcases ih _ h with h|⟨b,h1,h2⟩
   ·rcases Znf h with h|h
    ·exact .inl h
    ·exact .inr ⟨a,List.mem_cons_self ..,h⟩
   ·exact .inr ⟨b,List.mem_cons_of_mem _ h1,h2⟩
 unfold W7 at h;rw[List.take_length]at h;rcases this y [] h with h|h
 ·cases h
 ·exact h
theorem Zr5{y:List Lt}(h:∀ a,a∈y→a.k=2→M9 a.i y=2):NmOk (O0 y):=by
 have hvis:Y7 (O0 y)=Y7 y:=by
  rw[Zjm];unfold Y7;rw[E6];exact T0 fun l _=>by unfold isX; rw[ap_k]
 have hlen:2*(W7 y y.length).length≤Y7 y:=by
  rw[← Zv0 (ls:=y) (W7 y y.length) (Zz9 _ [] List.nodup_nil) fun z hz=>by
   obtain⟨a,h1,h2,rfl⟩:=Z83 hz;exact h a h1 h2]
  exact Zv8 fun l hl=>by simp at hl; exact hl.1
 intro a hm hk;rw[hvis];rw[Zjm]at hm;obtain⟨b,hb,rfl⟩:=List.mem_map.1 hm;rw[ap_k]at hk;rw[N5 hk];simp only;obtain⟨p,hp,rfl⟩:=Zfn hb;have h1:=Znt hp hk;have h2:=Zlt h1 (y.length - (p+1)) (by omega)
 rw[show p+1+(y.length - (p+1))=y.length by omega]at h2
 have h3:=Zxm (x:=(at' y p).i) (met:=W7 y y.length);omega
theorem Zz1{y:List Lt}{a:Lt}{i:Nat}(h:a∈V5 i y):a∈y:=by
 unfold V5 at h;rcases List.mem_append.1 h with h|h
 ·exact List.mem_of_mem_drop h
 ·exact List.mem_of_mem_take h
theorem Z4z{f:Int}{y:List Lt}(hv:ValR f y)(h0:y≠[]):NmOk (I9 y):=by
 have hb:∀ z,M9 z (U4 y)=M9 z y:=fun z=>by
  unfold M9 U4;split
  ·rw[Zfq]; unfold Z4; rw[List.filter_reverse,List.length_reverse]
  ·unfold Z4; rw[List.filter_reverse,List.length_reverse]
 have hy:∀ a,a∈y→a.k=2→M9 a.i y=2:=fun a hm hk=>((Zai hk).1 (hv.okr a hm)).2.2.2.2.2.2
 have hr:∀ i z (l:List Lt),M9 z (V5 i l)=M9 z l:=fun i z l=>Zfq _ _ _
 rcases Zy9 h0 (by simp[isP,hv.fst])with⟨i,_,_,e⟩|⟨i,_,_,e⟩
 ·rw[e];unfold Q4;exact Zr5 fun a hm hk=>by rw[hr]; exact hy a (Zz1 hm) hk
 ·rw[e];unfold Q4;exact Zr5 fun a hm hk=>by rw[hr,hb]; exact hy a (Zyw (Zz1 hm)) hk
section
variable {f:Int} {y:List Lt} (hv:ValR f y) (h0:y≠[])
include hv h0
def SamP(x y:List Lt):Prop:=X1 4 x=X1 4 y∧X1 4 (tuN x)=X1 4 (tuN y) ∧ ∀ g,inG g x=inG g y
theorem Zyp{e:Bool}{x:List Lt}(hd:De e y x)(hf:(at' x 0).k=1)(hr:NmOk x):ValR f x∧x≠[]∧SamP x y:=by
 have hx:=hv.de hd hf hr;have x0:x≠[]:=fun c=>by rw[c]at hf; cases hf
 have ty:=(hv.turn h0).1;have tx:=(hx.turn x0).1;exact⟨hx,x0,Zoa hv hd hf hr,Zoa ty (Z02 (hv.tf h0) (hx.tf x0) hd) tx.fst tx.nm,Zvm hd⟩
theorem Ybl:ValR f (U4 y)∧U4 y≠[]∧SamP (U4 y) y:=by
 have hE:=hv.evx h0;refine Zyp hv h0 (Zrs hE) (Z7y hE) fun a hm hk=>?_
 have:=hv.nm a (Zyw hm) hk;rwa[← Zi5 (Zrs hE)]at this
theorem Z5x:ValR f (I9 y)∧I9 y≠[]∧SamP (I9 y) y:=by
 have hE:=hv.evx h0;have hC:=Zy9 h0 (by simp[isP,hv.fst])
 obtain⟨e,hd⟩:=Z6v hE hC;exact Zyp hv h0 hd (by simpa[isP]using (Z4i hE hC).1) (Z4z hv h0)
theorem Zwv:tuN y≠[]:=fun c=>by
 have:=congrArg List.length c;rw[I2]at this;exact h0 (List.length_eq_zero_iff.1 this)
theorem Z5p:X1 4 (tuN (tuN y))=X1 4 y ∧ ∀ g,inG g (tuN y)=inG g y:=by
 have ty:=(hv.turn h0).1;have t0:=Zwv hv h0;have tt:=(ty.turn t0).1;exact⟨Zoa hv (Z7w (hv.tf h0) (ty.tf t0)) tt.fst tt.nm,fun g=>Z2n g y⟩
theorem Zu6:X1 4 (swN y)=(X1 4 y).map (flR true):=by
 have hpos:0<y.length:=List.length_pos_iff.2 h0;have hw:=hv.wv h0;have hl:(swN y).length=y.length:=by simp[swN]
 have hld:∀ d,d<2*y.length→ldN (swN y) d=swL (ldN y d):=fun d hd=>by
  unfold ldN;rw[hl];exact Zep _ (Zah hd)
 have htn:∀ d,tnN (swN y) d=tnN y d:=fun d=>by
  unfold tnN;rw[Zom];exact Zry hv.okr (Zxo hpos)
 have hid:∀ d,d<2*y.length→(ldN y d).k=2→(ldN y d).i≠0:=fun d hd hk=>by
  have:=(Zai hk).1 (hv.okr _ (Znk hd));omega
 have hS:Sim y (swN y) (fun d=>d) id true:=by
  refine⟨fun d hd=>hd,fun d d' _ _ e=>e,fun d _=>rfl,fun d _ _=>htn d,fun d hd hk=>?_,fun d hd=>by rw[hld d hd,sw_k],fun d hd hk=>by rw[hld d hd,sw_i]; rfl,fun d hd hk=>by rw[hld d hd,Zgg hk]; simp,hid,fun d hd hk=>by rw[hld d hd,sw_i]; exact hid d hd hk,fun d d' _ _ _ _ e=>e⟩
  have:=Zje hw hd hk;exact⟨this.1,this.2.2⟩
 refine Zvk hS 4 (fun d hd=>(Zoy y hw.kin).lt d hd) ?_ ?_
 ·unfold T2;rw[Zom,List.map_map];refine List.map_congr_left fun v _=>?_
  show upN (swN y) v=upN y v;unfold upN;rw[hl,show down (swN y) v=down y v from Zwg rfl Zjs v]
 ·unfold Y7 swN;rw[E6];exact T0 fun l _=>Zhz l
end
theorem Zoc{F:Nat}{x y:List Lt}(h:∀ g,inG g x=inG g y):gtN F x x.length=gtN F y y.length:=by
 unfold gtN;rw[List.take_length,List.take_length];exact List.map_congr_left fun g _=>h g
theorem Zzg{F:Nat}{x y:List Lt}(h:SamP x y):L7 F x=L7 F y:=by
 unfold L7;rw[Zoc h.2.2,h.1,h.2.1]
theorem Z59{F:Nat}{f:Int}{y:List Lt}(hv:ValR f y)(h0:y≠[]):L7 F (tuN y)=pcV F (gtN F y y.length) ((X1 4 (tuN y)).map rwR) ((X1 4 y).map rwR):=by
 obtain⟨h1,h2⟩:=Z5p hv h0;unfold L7;rw[Zoc h2,h1]
theorem Z3q{F:Nat}{f:Int}{y:List Lt}(hv:ValR f y)(h0:y≠[]):L7 F (swN y)=pcV F (gtN F y y.length) (((X1 4 y).map (flR true)).map rwR) (((X1 4 (tuN y)).map (flR true)).map rwR):=by
 unfold L7;rw[Z9p,Zoc (fun g=>Z3e g y),Zu6 hv h0,Zu6 (hv.turn h0).1 (Zwv hv h0)]
end Go.Known
