/- Part 39 of the proof: Px, Py. -/
import Derived.Test.YtipeejpafgnjdaaGreatDoorH11
import Derived.Test.YtipeejpafgnjdaaGreatDoorH29
import Derived.Test.YtipeejpafgnjdaaGreatDoorH35
import Derived.Test.YtipeejpafgnjdaaGreatDoorH38
set_option linter.all false
section
namespace Go.Known
open Go.Plain
theorem Ye5{g:Lt→Lt}(hk:∀ l,(g l).k=l.k)(l:List Lt):Z1 (l.map g)=Z1 l:=by
 unfold Z1;rw[E6];exact T0 fun a _=>by unfold isP; rw[hk]
theorem Z6l{g:Lt→Lt}(hk:∀ l,(g l).k=l.k)(l:List Lt)(p:Nat):down (l.map g) p=down l p:=by
 unfold down;rw[← List.map_take,Ye5 hk]
theorem Z0x{g:Lt→Lt}(hk:∀ l,(g l).k=l.k)(l:Lt):isP (g l)=isP l:=by unfold isP; rw[hk]
theorem De.refl{y:List Lt}(h0:y≠[]):De true y y:=by
 have:=Zsf (φ:=id) h0 (Zkl y);have e:y.map (ap id)=y:=by
  conv=>rhs; rw[← List.map_id y]
  exact List.map_congr_left fun l _=>Zms l
 rwa[e]at this
theorem Z2j{g:Lt→Lt}{φ:Int→Int}{y:List Lt}(hk:∀ l,(g l).k=l.k)(hi:∀ l,(g l).i=l.i)(h:InjI φ y):InjI φ (y.map g):=by
 intro a ha b hb hka hkb hab;obtain⟨a0,a1,rfl⟩:=List.mem_map.1 ha;obtain⟨b0,b1,rfl⟩:=List.mem_map.1 hb;rw[hi,hi]at hab ⊢;rw[hk]at hka hkb;exact h a0 a1 b0 b1 hka hkb hab
theorem Zma{e:Bool}{y x:List Lt}{p:Lt→Bool}(hp:∀ φ l,p (ap φ l)=p l)(h:De e y x):Z4 p x=Z4 p y:=by
 obtain⟨hl,s,φ,hs,hi,h1⟩:=h;have hm:∀ l:List Lt,Z4 p (l.map (ap φ))=Z4 p l:=fun l=>by rw[E6]; exact T0 fun a _=>hp φ a
 cases e with
 | true=>
  have hx:x=(V5 s y).map (ap φ):=by
   refine Zhf (by rw[List.length_map,B1,hl]) fun q hq=>?_
   rw[hl]at hq;rw[(h1 q hq).1,atm (by rw[B1]; exact hq),Zf5 hs hq]
  rw[hx,hm,Zfq]
 | false=>
  have hx:x=(V5 (y.length - 1 - s) y.reverse).map (ap φ):=by
   refine Zhf (by rw[List.length_map,B1,List.length_reverse,hl]) fun q hq=>?_
   rw[hl]at hq;have hs':y.length - 1 - s<y.reverse.length:=by rw[List.length_reverse]; omega
   have hq':q<y.reverse.length:=by rw[List.length_reverse]; exact hq
   have e1:y.length - 1 - mvt y.length true (y.length - 1 - s) q=mvt y.length false s q:=by
    unfold mvt;simp only[bF,if_false,if_true];split<;>split<;>omega
   rw[(h1 q hq).1,atm (by rw[B1]; exact hq'),Zf5 hs' hq',List.length_reverse,Zgr (O1 (by omega) hq),e1]
  have hr:Z4 p y.reverse=Z4 p y:=by unfold Z4; rw[List.filter_reverse,List.length_reverse]
  rw[hx,hm,Zfq,hr]
theorem Zvm{e:Bool}{y x:List Lt}(h:De e y x)(g:Int):inG g x=inG g y:=
 Zma (p:=fun l=>isP l&&l.g == g) (fun φ l=>by
  by_cases hk:l.k=2
  ·rw[N5 hk];rfl
  ·rw[C2 hk]) h
theorem Yag(φ:Int→Int)(l:Lt):tuL (ap φ l)=ap φ (tuL l):=by
 by_cases h:l.k=2
 ·rw[N5 h,Zcg (l:={ l with i:=φ l.i }) h,Zcg h,N5 (l:={ l with o:=!l.o }) h]
 ·rw[C2 h];have:tuL l=l:=by unfold tuL; rw[if_neg h]
  rw[this,C2 h]
theorem Yap(l:Lt):tuL (tuL l)=l:=by
 by_cases h:l.k=2
 ·rw[Zcg h,Zcg (l:={ l with o:=!l.o }) h]
  simp
 ·have:tuL l=l:=by unfold tuL; rw[if_neg h]
  rw[this,this]
structure Tf (y:List Lt) (a:Nat):Prop where
 ev:Z1 y % 2=0
 lt:a<y.length
 dn:down y a=false
 tu:tuN y=V5 a (y.map tuL)
theorem ValR.tf{f:Int}{y:List Lt}(h:ValR f y)(h0:y≠[]):Tf y (frm y y.length):=by
 have hw:=h.wv h0;obtain⟨iu,u1,u2,u3⟩:=Zk6 hw.pas h.evn;obtain⟨h1,h2,h3⟩:=Zlx y.length (Nat.le_refl _) ⟨iu,by omega,u1,u2,u3⟩
 exact⟨h.evn,h1,h3,rfl⟩
theorem Tf.at{y:List Lt}{a p:Nat}(h:Tf y a)(hp:p<y.length):at' (tuN y) p=tuL (at' y (mvt y.length true a p)):=by
 have hv:=O1 (e:=true) h.lt hp;rw[h.tu,Zf5 (by rw[List.length_map]; exact h.lt) (by rw[List.length_map]; exact hp),List.length_map,atm hv]
theorem Tf.down{y:List Lt}{a p:Nat}(h:Tf y a)(hp:p<y.length):down (tuN y) p = !down y (mvt y.length true a p):=by
 have hv:=O1 (e:=true) h.lt hp;have hr:rho y.length a (mvt y.length true a p)=p:=by
  rw[Zg9 h.lt hv];unfold mvt;simp only[if_true];split<;>split<;>omega
 have hl:(y.map tuL).length=y.length:=List.length_map _;have h2:=Zpr (ls:=y.map tuL) (a:=a) (v:=mvt y.length true a p) (by rw[hl]; exact h.lt) (by rw[hl]; exact hv)
 rw[hl,hr,← h.tu,← List.map_take,← List.map_take,Zg2,Zg2,Zg2]at h2;have hd:=h.dn;have he:=h.ev;unfold Plain.down at hd ⊢;have hd':Z1 (y.take a) % 2=1:=by
  simp only[beq_eq_false_iff_ne,ne_eq]at hd;omega
 have e:Z1 ((tuN y).take p) % 2=(Z1 (y.take (mvt y.length true a p))+1) % 2:=by split at h2<;>omega
 rw[e];rcases Nat.mod_two_eq_zero_or_one (Z1 (y.take (mvt y.length true a p)))with h3|h3
 ·rw[h3,show (Z1 (y.take (mvt y.length true a p))+1) % 2=1 by omega]; rfl
 ·rw[h3,show (Z1 (y.take (mvt y.length true a p))+1) % 2=0 by omega]; rfl
theorem Z02{e:Bool}{y x:List Lt}{a b:Nat}(hy:Tf y a)(hx:Tf x b)(h:De e y x):De e (tuN y) (tuN x):=by
 obtain⟨hl,s,φ,hs,hi,h1⟩:=h;have hb:b<y.length:=by have:=hx.lt; omega
 have hsb:=O1 (e:=e) hs hb;have hia:=Zfl (e:=true) hy.lt;refine⟨by rw[I2,I2,hl],mvt y.length true (ivt y.length true a) (mvt y.length e s b),φ,by rw[I2]; exact O1 hia hsb,?_,fun p hp=>?_⟩
 ·have:InjI φ (y.map tuL):=Z2j tu_k tu_i hi;intro c hc d hd;have hm:∀ z,z∈tuN y→z∈y.map tuL:=fun z hz=>by
   rw[hy.tu]at hz;unfold V5 at hz;rcases List.mem_append.1 hz with h2|h2
   ·exact List.mem_of_mem_drop h2
   ·exact List.mem_of_mem_take h2
  exact this c (hm c hc) d (hm d hd)
 ·rw[I2]at hp ⊢;have hp':p<x.length:=by rw[hl]; exact hp
  have hbp:=O1 (n:=y.length) (e:=true) hb hp;obtain⟨q1,q2⟩:=h1 _ hbp;have hs2:=O1 (n:=y.length) (e:=true) hia hsb;have hm:=O1 (e:=e) hs2 hp;have e1:mvt y.length true a (mvt y.length e (mvt y.length true (ivt y.length true a) (mvt y.length e s b)) p)=mvt y.length e s (mvt y.length true b p):=by
   rw[Zk0 hy.lt hs2 hp,Zhw hy.lt hsb,Zk0 hs hb hp];cases e<;>rfl
  rw[hx.at hp',hy.at hm,hx.down hp',hy.down hm,hl,e1];refine⟨by rw[q1,Yag],fun hz=>?_⟩
  rw[Zi2]at hz;rw[q2 hz];cases e<;>cases Plain.down y (mvt y.length _ s (mvt y.length true b p))<;>rfl
theorem Z7w{y:List Lt}{a b:Nat}(hy:Tf y a)(hx:Tf (tuN y) b):De true y (tuN (tuN y)):=by
 have hb:b<y.length:=by have:=hx.lt; rwa[I2]at this
 refine⟨by rw[I2,I2],mvt y.length true a b,id,O1 hy.lt hb,Zkl y,fun p hp=>?_⟩
 have hp':p<(tuN y).length:=by rw[I2]; exact hp
 have hbp:=O1 (n:=y.length) (e:=true) hb hp;rw[hx.at hp',hx.down hp',I2,hy.at hbp,hy.down hbp,Zk0 hy.lt hb hp,Yap,Zms];refine⟨rfl,fun _=>?_⟩
 show(!!down y (mvt y.length (true == true) (mvt y.length true a b) p))=_;rw[Bool.not_not];show down y (mvt y.length true (mvt y.length true a b) p)=(down y (mvt y.length true (mvt y.length true a b) p) == true);cases down y (mvt y.length true (mvt y.length true a b) p)<;>rfl
end Go.Known
end
section
namespace Go.Known
open Go.Plain
theorem Z3e(g:Int)(y:List Lt):inG g (swN y)=inG g y:=by
 unfold inG swN;rw[E6];refine T0 fun l _=>?_
 rw[sw_g];unfold isP;rw[sw_k]
theorem Z2n(g:Int)(y:List Lt):inG g (tuN y)=inG g y:=by
 unfold inG;rw[Zej];refine T0 fun l _=>?_
 rw[tu_g];unfold isP;rw[tu_k]
theorem Zsn{g:Lt→Lt}(hk:∀ l,(g l).k=l.k)(y:List Lt):∀ k,k≤y.length→frm (y.map g) k=frm y k
 | 0,_=>rfl
 | k+1,h=>by
  simp only[frm,List.length_map];rw[Zsn hk y k (by omega),atm (by omega),Z6l hk,Z0x hk]
theorem Yar{g:Lt→Lt}(s:Nat)(y:List Lt):V5 s (y.map g)=(V5 s y).map g:=by
 unfold V5;rw[List.map_append,List.map_drop,List.map_take]
theorem Z9p(y:List Lt):tuN (swN y)=swN (tuN y):=by
 unfold tuN swN;rw[List.length_map,Zsn sw_k y _ (Nat.le_refl _),← Yar,List.map_map,List.map_map]
 congr 1
 refine List.map_congr_left fun l _=>?_
 show tuL (swL l)=swL (tuL l);by_cases h:l.k=2
 ·rw[Zgg h,Zcg h,Zcg (l:={ l with o:=!l.o,s:=-l.s }) h,Zgg (l:={ l with o:=!l.o }) h]
 ·have e1:swL l=l:=by unfold swL; rw[if_neg h]
  have e2:tuL l=l:=by unfold tuL; rw[if_neg h]
  rw[e1,e2,e1]
end Go.Known
end
