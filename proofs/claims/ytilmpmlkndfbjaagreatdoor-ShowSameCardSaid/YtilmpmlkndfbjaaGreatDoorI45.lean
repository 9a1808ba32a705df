/- Part 45 of the proof: Px, Py. -/
import Derived.Test.YtilmpmlkndfbjaaGreatDoorI11
import Derived.Test.YtilmpmlkndfbjaaGreatDoorI28
import Derived.Test.YtilmpmlkndfbjaaGreatDoorI35
import Derived.Test.YtilmpmlkndfbjaaGreatDoorI44
set_option linter.all false
section
namespace Go.Known
open Go.Plain
theorem De.refl{y:List Lt}(a:y≠[]):De true y y:=by
 have:=Z0a (φ:=id) a (Zq8 y);have e:y.map (ap id)=y:=by
  conv=>rhs; rw[← List.map_id y]
  exact List.map_congr_left fun l _=>Zqs l
 rwa[e]at this
theorem Ygz{g:Lt→Lt}{φ:Int→Int}{y:List Lt}(p:∀ l,(g l).k=l.k)(hi:∀ l,(g l).i=l.i)(h:InjI φ y):InjI φ (y.map g):=by
 intro a n b o d e c;obtain⟨f,j,rfl⟩:=List.mem_map.1 n;obtain⟨b0,m,rfl⟩:=List.mem_map.1 o;rw[hi,hi]at c ⊢;rw[p]at d e;exact h f j b0 m d e c
theorem Znt{e:Bool}{y x:List Lt}{p:Lt→Bool}(k:∀ φ l,p (ap φ l)=p l)(h:De e y x):Z3 p x=Z3 p y:=by
 obtain⟨d,s,φ,n,hi,i⟩:=h;have hm:∀ l:List Lt,Z3 p (l.map (ap φ))=Z3 p l:=fun l=>by rw[Zh2]; exact R3 fun a _=>k φ a
 cases e with
 | true=>
  have g:x=(W6 s y).map (ap φ):=by
   refine Zgn (by rw[List.length_map,D1,d]) fun q b=>?_
   rw[d]at b;rw[(i q b).1,atm (by rw[D1]; exact b),Zbl n b]
  rw[g,hm,Zdv]
 | false=>
  have g:x=(W6 (y.length - 1 - s) y.reverse).map (ap φ):=by
   refine Zgn (by rw[List.length_map,D1,List.length_reverse,d]) fun q b=>?_
   rw[d]at b;have f:y.length - 1 - s<y.reverse.length:=by rw[List.length_reverse]; omega
   have c:q<y.reverse.length:=by rw[List.length_reverse]; exact b
   have j:y.length - 1 - mvt y.length true (y.length - 1 - s) q=mvt y.length false s q:=by
    unfold mvt;simp only[bF,if_false,if_true];split<;>split<;>omega
   rw[(i q b).1,atm (by rw[D1]; exact c),Zbl f c,List.length_reverse,Zgl (M3 (by omega) b),j]
  have m:Z3 p y.reverse=Z3 p y:=by unfold Z3; rw[List.filter_reverse,List.length_reverse]
  rw[g,hm,Zdv,m]
theorem Zs4{e:Bool}{y x:List Lt}(h:De e y x)(g:Int):inG g x=inG g y:=
 Znt (p:=fun l=>isP l&&l.g == g) (fun φ l=>by
  by_cases a:l.k=2
  ·rw[O8 a];rfl
  ·rw[D3 a]) h
theorem Z28(φ:Int→Int)(l:Lt):tuL (ap φ l)=ap φ (tuL l):=by
 by_cases h:l.k=2
 ·rw[O8 h,Ze3 (l:={ l with i:=φ l.i }) h,Ze3 h,O8 (l:={ l with o:=!l.o }) h]
 ·rw[D3 h];have:tuL l=l:=by unfold tuL; rw[if_neg h]
  rw[this,D3 h]
structure Tf (y:List Lt) (a:Nat):Prop where
 ev:Z0 y % 2=0
 lt:a<y.length
 dn:down y a=false
 tu:tuN y=W6 a (y.map tuL)
theorem ValR.tf{f:Int}{y:List Lt}(h:ValR f y)(a:y≠[]):Tf y (frm y y.length):=by
 have d:=h.wv a;obtain⟨e,g,i,j⟩:=Zif d.pas h.evn;obtain⟨b,k,c⟩:=Zip y.length (Nat.le_refl _) ⟨e,by omega,g,i,j⟩
 exact⟨h.evn,b,c,rfl⟩
theorem Tf.at{y:List Lt}{a p:Nat}(h:Tf y a)(b:p<y.length):at' (tuN y) p=tuL (at' y (mvt y.length true a p)):=by
 have c:=M3 (e:=true) h.lt b;rw[h.tu,Zbl (by rw[List.length_map]; exact h.lt) (by rw[List.length_map]; exact b),List.length_map,atm c]
theorem Tf.down{y:List Lt}{a p:Nat}(h:Tf y a)(j:p<y.length):down (tuN y) p = !down y (mvt y.length true a p):=by
 have g:=M3 (e:=true) h.lt j;have k:rho y.length a (mvt y.length true a p)=p:=by
  rw[Zgh h.lt g];unfold mvt;simp only[if_true];split<;>split<;>omega
 have c:(y.map tuL).length=y.length:=List.length_map _;have d:=Zk4 (ls:=y.map tuL) (a:=a) (v:=mvt y.length true a p) (by rw[c]; exact h.lt) (by rw[c]; exact g)
 rw[c,k,← h.tu,← List.map_take,← List.map_take,Zer,Zer,Zer]at d;have f:=h.dn;have l:=h.ev;unfold Plain.down at f ⊢;have i:Z0 (y.take a) % 2=1:=by
  simp only[beq_eq_false_iff_ne,ne_eq]at f;omega
 have e:Z0 ((tuN y).take p) % 2=(Z0 (y.take (mvt y.length true a p))+1) % 2:=by split at d<;>omega
 rw[e];rcases Nat.mod_two_eq_zero_or_one (Z0 (y.take (mvt y.length true a p)))with b|b
 ·rw[b,show (Z0 (y.take (mvt y.length true a p))+1) % 2=1 by omega]; rfl
 ·rw[b,show (Z0 (y.take (mvt y.length true a p))+1) % 2=0 by omega]; rfl
theorem Z6k{e:Bool}{y x:List Lt}{a b:Nat}(i:Tf y a)(u:Tf x b)(h:De e y x):De e (tuN y) (tuN x):=by
 obtain⟨t,s,φ,v,hi,A⟩:=h;have q:b<y.length:=by have:=u.lt; omega
 have f:=M3 (e:=e) v q;have k:=Zfm (e:=true) i.lt;refine⟨by rw[G4,G4,t],mvt y.length true (ivt y.length true a) (mvt y.length e s b),φ,by rw[G4]; exact M3 k f,?_,fun p g=>?_⟩
 ·have:InjI φ (y.map tuL):=Ygz G9 tu_i hi;intro c B d C;have hm:∀ z,z∈tuN y→z∈y.map tuL:=fun z j=>by
   rw[i.tu]at j;unfold W6 at j;rcases List.mem_append.1 j with o|o
   ·exact List.mem_of_mem_drop o
   ·exact List.mem_of_mem_take o
  exact this c (hm c B) d (hm d C)
 ·rw[G4]at g ⊢;have l:p<x.length:=by rw[t]; exact g
  have r:=M3 (n:=y.length) (e:=true) q g;obtain⟨D,E⟩:=A _ r;have m:=M3 (n:=y.length) (e:=true) k f;have hm:=M3 (e:=e) m g;have w:mvt y.length true a (mvt y.length e (mvt y.length true (ivt y.length true a) (mvt y.length e s b)) p)=mvt y.length e s (mvt y.length true b p):=by
   rw[Zot i.lt m g,Zj1 i.lt f,Zot v q g];cases e<;>rfl
  rw[u.at l,i.at hm,u.down l,i.down hm,t,w];refine⟨by rw[D,Z28],fun j=>?_⟩
  rw[Zjz]at j;rw[E j];cases e<;>cases Plain.down y (mvt y.length _ s (mvt y.length true b p))<;>rfl
end Go.Known
end
section
namespace Go.Known
open Go.Plain
def imp(x y z:Bool):Bool:=!(x&&y)||z
end Go.Known
end
