/- Part 44 of the proof: Fxe, Fxf, Fxg, Fxh, Fxi. -/
import Derived.Test.YtggclbeocekgkaaGreatDoorP43
set_option linter.all false
section
namespace Go.Ac
open Go.Plain
structure Ej (z d:List Lt) (ι:Nat→Nat) (a b f s:Nat):Prop where
 len:d.length+2=z.length
 pos:0<d.length
 al:a<z.length
 bl:b<z.length
 ab:b=(a+1) % z.length
 ka:(at' z a).k=1
 kb:(at' z b).k=1
 db:Z8 z b = !Z8 z a
 fs:(f=a∧s=b)∨(f=b∧s=a)
 lt:∀ j,j<d.length→ι j<z.length∧ι j≠a∧ι j≠b
 inj:∀ j j',j<d.length→j'<d.length→ι j=ι j'→j=j'
 QT:∀ v,v<z.length→v≠a→v≠b → ∃ j,j<d.length∧ι j=v
 kR:∀ j,j<d.length→ι ((j+1) % d.length)=if (ι j+1) % z.length=a then (b+1) % z.length else (ι j+1) % z.length
 kk:∀ j,j<d.length→(at' d j).k=(at' z (ι j)).k
 sm:∀ j,j<d.length→(at' d j).k=2→GA d j=GA z (ι j)
 ot:∀ j,j<d.length→(at' d j).k=2→ι (DS d j)=DS z (ι j)
 dn:∀ j,j<d.length→(at' d j).k=1→Z8 d j=Z8 z (ι j)
 ax:∃ A B,Z2 z=A++f :: s :: B∧(Z2 d).map ι=A++B
def F7(z d:List Lt)(ι:Nat→Nat)(e:Nat):Nat:=
 if e<2*d.length then (if e % 2=0 then 2*ι (e / 2)else X6 z.length (ι ((e / 2+1) % d.length)) false)
 else if e % 2=0 then V6 z (ι ((Z2 d).getD ((e - 2*d.length) / 2) 0))else V9 z (ι ((Z2 d).getD (((e - 2*d.length) / 2+1) % Z0 d) 0))
theorem YH(n v:Nat):X6 n v true=2*v:=rfl
theorem Sl(n v:Nat):X6 n v false=2*((v+n - 1) % n)+1:=rfl
theorem Vm(n v:Nat):arr n v true=2*((v+n - 1) % n):=rfl
theorem tX(n v:Nat):arr n v false=2*v+1:=rfl
section
variable {z d:List Lt} {ι:Nat→Nat} {a b f s:Nat}
theorem GN{u:Nat}(hu:u<d.length)(c:Bool):F7 z d ι (X6 d.length u c)=X6 z.length (ι u) c:=by
 unfold F7;rw[iP (Hw hu)];cases c with
 | true=>rw[YH,iP (by omega),YH,show 2*u / 2=u by omega]
 | false=>rw[Sl,iN (by omega),show (2*((u+d.length - 1) % d.length)+1) / 2=(u+d.length - 1) % d.length by omega,Rz hu]
theorem Jn{u:Nat}(hu:u<d.length)(hk:(at' d u).k=1):F7 z d ι (V6 d u)=V6 z (ι u):=by
 obtain⟨h1,h2⟩:=GP hu hk;have e:V6 d u=2*d.length+2*W7 u (Z2 d):=rfl;unfold F7;rw[e,iN (by omega),iP (by omega),show (2*d.length+2*W7 u (Z2 d) - 2*d.length) / 2=W7 u (Z2 d) by omega,h2]
theorem Jg{u:Nat}(hu:u<d.length)(hk:(at' d u).k=1):F7 z d ι (V9 d u)=V9 z (ι u):=by
 obtain⟨h1,h2⟩:=GP hu hk;have e:V9 d u=2*d.length+2*((W7 u (Z2 d)+Z0 d - 1) % Z0 d)+1:=rfl;unfold F7;rw[e,iN (by omega),iN (by omega),show (2*d.length+2*((W7 u (Z2 d)+Z0 d - 1) % Z0 d)+1 - 2*d.length) / 2=(W7 u (Z2 d)+Z0 d - 1) % Z0 d by omega,Rz h1,h2]
theorem Ej.k1(h:Ej z d ι a b f s){j:Nat}(hj:j<d.length)(hk:(at' d j).k=1):(at' z (ι j)).k=1:=by rw[← h.kk j hj]; exact hk
theorem Ej.TY(h:Ej z d ι a b f s)(hd:Wv d){v:Nat}(hv:v<d.length)(c:Bool):BC z (arr z.length (ι v) c)=F7 z d ι (BC d (arr d.length v c)):=by
 have hl:=(h.lt v hv).1;by_cases hk:(at' d v).k=2
 ·have hk2:(at' z (ι v)).k=2:=by rw[← h.kk v hv]; exact hk
  have ho:=(hd.Gy v hv hk).1;rw[VZ hl hk2,VZ hv hk,GN ho,h.ot v hv hk,h.sm v hv hk]
 ·have hk:=hd.GY v hv hk;rw[Of hl (h.k1 hv hk),Of hv hk,h.dn v hv hk];split
  ·rw[Jn hv hk]
  ·rw[Jg hv hk]
theorem Ej.axR(h:Ej z d ι a b f s){v:Nat}(hv:v<d.length)(hk:(at' d v).k=1):BC z (CL (V6 z (ι v)))=F7 z d ι (BC d (CL (V6 d v))):=by
 rw[Oq (h.lt v hv).1 (h.k1 hv hk),Oq hv hk,GN hv,h.dn v hv hk]
theorem Ej.axL(h:Ej z d ι a b f s){v:Nat}(hv:v<d.length)(hk:(at' d v).k=1):BC z (CL (V9 z (ι v)))=F7 z d ι (BC d (CL (V9 d v))):=by
 rw[Ob (h.lt v hv).1 (h.k1 hv hk),Ob hv hk,GN hv,h.dn v hv hk]
def Q0(q p:Nat):Nat:=if p<q then p else p+2
theorem zD{A B:List Nat}{f s p:Nat}(hp:p<A.length+B.length):(A++f :: s :: B)[Q0 A.length p]? = (A++B)[p]?:=by
 unfold Q0;split
 ·rename_i h;rw[List.getElem?_append_left h,List.getElem?_append_left h]
 ·rename_i h;rw[List.getElem?_append_right (by omega),List.getElem?_append_right (by omega),show p+2 - A.length=(p - A.length)+2 by omega]
  rfl
theorem yu{q m p:Nat}(hq:q≤m)(hp:p<m):(Q0 q ((p+1) % m)+(m+2) - 1) % (m+2)=if (p+1) % m=q % m then q+1 else Q0 q p:=by
 unfold Q0;by_cases h1:p+1=m
 ·rw[h1,Nat.mod_self];by_cases h2:q=m
  ·subst h2;rw[Nat.mod_self,iP rfl,iP (by omega),Nat.zero_add,Nat.mod_eq_of_lt (by omega)]
   omega
  ·rw[Nat.mod_eq_of_lt (show q<m by omega)]
   by_cases h3:q=0
   ·subst h3;rw[iN (by omega),iP rfl,show 0+2+(m+2) - 1=1+(m+2) by omega,Nat.add_mod_right,Nat.mod_eq_of_lt (by omega)]
   ·rw[iP (by omega),iN (by omega),iN (by omega),Nat.zero_add,Nat.mod_eq_of_lt (by omega)]
    omega
 ·rw[Nat.mod_eq_of_lt (show p+1<m by omega)]
  by_cases h2:q=m
  ·subst h2;rw[Nat.mod_self,iP (by omega),iN (by omega),iP (by omega),show p+1+(q+2) - 1=p+(q+2) by omega,Nat.add_mod_right,Nat.mod_eq_of_lt (by omega)]
  ·rw[Nat.mod_eq_of_lt (show q<m by omega)]
   by_cases h3:p+1=q
   ·rw[iP h3,iN (by omega),show p+1+2+(m+2) - 1=(p+2)+(m+2) by omega,Nat.add_mod_right,Nat.mod_eq_of_lt (by omega)]
    omega
   ·rw[iN h3];by_cases h4:p+1<q
    ·rw[iP h4,iP (by omega),show p+1+(m+2) - 1=p+(m+2) by omega,Nat.add_mod_right,Nat.mod_eq_of_lt (by omega)]
    ·rw[iN h4,iN (by omega),show p+1+2+(m+2) - 1=(p+2)+(m+2) by omega,Nat.add_mod_right,Nat.mod_eq_of_lt (by omega)]
theorem wh{q m:Nat}(hq:q≤m)(hm:0<m):Q0 q ((q+m - 1) % m)=(q+(m+2) - 1) % (m+2)∧Q0 q ((q+m - 1) % m)≠q∧Q0 q ((q+m - 1) % m)≠q+1:=by
 unfold Q0;by_cases h0:q=0
 ·subst h0;rw[Nat.zero_add,Nat.zero_add,Nat.mod_eq_of_lt (show m - 1<m by omega),Nat.mod_eq_of_lt (show m+2 - 1<m+2 by omega),iN (by omega)]
  omega
 ·rw[show q+m - 1=(q - 1)+m by omega,Nat.add_mod_right,Nat.mod_eq_of_lt (show q - 1<m by omega),show q+(m+2) - 1=(q - 1)+(m+2) by omega,Nat.add_mod_right,Nat.mod_eq_of_lt (show q - 1<m+2 by omega),iP (by omega)]
  omega
end
end Go.Ac
end
section
namespace Go.Ac
open Go.Plain
theorem oJ{q p p':Nat}(h:Q0 q p=Q0 q p'):p=p':=by
 unfold Q0 at h;split at h<;>split at h<;>omega
theorem uE(q p:Nat):Q0 q p≠q∧Q0 q p≠q+1:=by
 unfold Q0;split<;>omega
theorem Ydj{q p m:Nat}(h:p<m):Q0 q p<m+2:=by
 unfold Q0;split<;>omega
theorem Z5s{q m:Nat}(hq:q≤m)(hm:0<m):(q+m - 1) % m<m∧((q+m - 1) % m+1) % m=q % m ∧ ∀ p,p<m→(p+1) % m=q % m→p=(q+m - 1) % m:=by
 have key:(q+m - 1) % m=if q=0 then m - 1 else q - 1:=by
  by_cases h0:q=0
  ·subst h0;rw[iP rfl,Nat.zero_add,Nat.mod_eq_of_lt (by omega)]
  ·rw[iN h0,show q+m - 1=(q - 1)+m by omega,Nat.add_mod_right,Nat.mod_eq_of_lt (by omega)]
 rw[key];have hqm:q % m=if q=m then 0 else q:=by
  by_cases h:q=m
  ·rw[iP h,h,Nat.mod_self]
  ·rw[iN h,Nat.mod_eq_of_lt (by omega)]
 rw[hqm];refine⟨by split<;>omega,?_,fun p hp h=>?_⟩
 ·by_cases h0:q=0
  ·rw[iP h0,iN (by omega),show m - 1+1=m by omega,Nat.mod_self,h0]
  ·rw[iN h0,show q - 1+1=q by omega,hqm]
 ·by_cases h1:p+1=m
  ·rw[h1,Nat.mod_self]at h;split at h<;>split<;>omega
  ·rw[Nat.mod_eq_of_lt (by omega)]at h
   split at h<;>split<;>omega
section
variable {z d:List Lt} {ι:Nat→Nat} {a b f s:Nat}
set_option maxHeartbeats 2000000 in
theorem Ej.le(h:Ej z d ι a b f s)(hz:Wv z)(hd:Wv d):Z0 z=Z0 d+2∧I8 (X7 z (Z2 z)) (2*z.length+2*Z0 z)≤I8 (X7 d (Z2 d)) (2*d.length+2*Z0 d)+2:=by
 obtain⟨A,B,hA,hB⟩:=h.ax;have hmd:Z0 d=A.length+B.length:=by
  rw[← O5,← lM (f:=ι),hB,lA]
 have hmz:Z0 z=Z0 d+2:=by
  rw[← O5 z,hA,hmd];simp;omega
 refine⟨hmz,?_⟩;have hm0:0<Z0 d:=hd.He;have hn0:=h.pos;have hnl:=h.len;obtain⟨q,hq⟩:∃ q,A.length=q:=⟨_,rfl⟩
 have hqm:q≤Z0 d:=by omega
 have hkf:f<z.length∧(at' z f).k=1∧s<z.length∧(at' z s).k=1:=by
  rcases h.fs with⟨rfl,rfl⟩|⟨rfl,rfl⟩
  ·exact⟨h.al,h.ka,h.bl,h.kb⟩
  ·exact⟨h.bl,h.kb,h.al,h.ka⟩
 obtain⟨lf,kf,ls',ks⟩:=hkf;have hif:W7 f (Z2 z)=q:=KT (Hq z) (C3 (AB.2 ⟨lf,O7 kf⟩)).1 (by
  rw[hA,← hq,List.getElem?_append_right (lR _),Nat.sub_self]; rfl)
 have his:W7 s (Z2 z)=q+1:=KT (Hq z) (C3 (AB.2 ⟨ls',O7 ks⟩)).1 (by
  rw[hA,← hq,List.getElem?_append_right (by omega),show A.length+1 - A.length=1 by omega]; rfl)
 have hid:∀ u,u<d.length→(at' d u).k=1→W7 (ι u) (Z2 z)=Q0 q (W7 u (Z2 d)):=fun u hu hk=>by
  obtain⟨i1,i2⟩:=GP hu hk;refine KT (Hq z) (C3 (AB.2 ⟨(h.lt u hu).1,O7 (h.k1 hu hk)⟩)).1 ?_;rw[hA,← hq,zD (by omega),← hB,gM,(C3 (AB.2 ⟨hu,O7 hk⟩)).1]
  rfl
 have hgetd:∀ p,p<Z0 d→(Z2 d).getD p 0<d.length∧(at' d ((Z2 d).getD p 0)).k=1∧W7 ((Z2 d).getD p 0) (Z2 d)=p:=fun p hp=>by
  have hal:=O5 d;have hg:(Z2 d)[p]? = some ((Z2 d).getD p 0):=by rw[List.getD,gE (by omega)]; rfl
  have hmem:=List.mem_of_getElem? hg;obtain⟨k1,k2⟩:=AB.1 hmem;exact⟨k1,by simpa[Am]using k2,KT (Hq d) (C3 hmem).1 hg⟩
 obtain⟨b1,b2,b3⟩:=Z5s hqm hm0;obtain⟨l1,l2,l3⟩:=wh hqm hm0;obtain⟨p0,Gt⟩:∃ p0,(q+Z0 d - 1) % Z0 d=p0:=⟨_,rfl⟩
 rw[Gt]at b1 b2 b3 l1 l2 l3;obtain⟨E0,hE0⟩:∃ E0,Q0 q p0=E0:=⟨_,rfl⟩
 rw[hE0]at l1 l2 l3;have hE0lt:E0<Z0 d+2:=hE0 ▸ Ydj b1;have hpsi:∀ p,p<Z0 d→(Q0 q ((p+1) % Z0 d)+Z0 z - 1) % Z0 z=if p=p0 then q+1 else Q0 q p:=fun p hp=>by
  rw[hmz,yu hqm hp];by_cases e:p=p0
  ·rw[iP e,iP (by rw[e]; exact b2)]
  ·rw[iN e,iN fun e2=>e (b3 p hp e2)]
 obtain⟨u0,hu0,hw⟩:∃ u0,u0<d.length∧(ι u0+1) % z.length=a:=by
  have h1:=h.al;have h2:=h.ab;have h3:=Nat.mod_lt (a+z.length - 1) (show 0<z.length by omega)
  have h4:((a+z.length - 1) % z.length+1) % z.length=a:=Rz h1;obtain⟨j,j1,j2⟩:=h.QT ((a+z.length - 1) % z.length) h3 (fun e=>by
   rw[e]at h4;by_cases hc:a+1=z.length
   ·rw[hc,Nat.mod_self]at h4; omega
   ·rw[Nat.mod_eq_of_lt (by omega)]at h4; omega) (fun e=>by
   rw[e,h2]at h4;by_cases hc:a+1=z.length
   ·rw[hc,Nat.mod_self,Nat.zero_add,Nat.mod_eq_of_lt (by omega)]at h4; omega
   ·rw[Nat.mod_eq_of_lt (show a+1<z.length by omega)]at h4
    by_cases hc2:a+1+1=z.length
    ·rw[hc2,Nat.mod_self]at h4; omega
    ·rw[Nat.mod_eq_of_lt (by omega)]at h4; omega)
  exact⟨j,j1,by rw[j2,h4]⟩
 obtain⟨w,hwe⟩:∃ w,ι u0=w:=⟨_,rfl⟩
 rw[hwe]at hw;obtain⟨wl,wa,wb⟩:=h.lt u0 hu0;rw[hwe]at wl wa wb;have hab:a≠b:=by
  rcases h.fs with⟨rfl,rfl⟩|⟨rfl,rfl⟩<;>intro e<;>subst e<;>omega
 have pa:(a+z.length - 1) % z.length=w:=by rw[← hw]; exact Hs wl
 have pb:(b+z.length - 1) % z.length=a:=by rw[h.ab]; exact Hs h.al
 have al:=h.al;have bl:=h.bl;have wuniq:∀ v,v<z.length→(v+1) % z.length=a→v=w:=fun v hv e=>by rw[← pa,← e,Hs hv]
 have nRf:V6 z f=2*z.length+2*q:=by unfold V6; rw[hif]
 have nRs:V6 z s=2*z.length+2*(q+1):=by unfold V6; rw[his]
 have nLf:V9 z f=2*z.length+2*E0+1:=by unfold V9; rw[hif,hmz,← l1]
 have nLs:V9 z s=2*z.length+2*q+1:=by
  unfold V9;rw[his,show q+1+Z0 z - 1=q+Z0 z by omega,Nat.add_mod_right,Nat.mod_eq_of_lt (by omega)]
 have bk0:∀ k,CL (2*k)=2*k+1∧CL (2*k+1)=2*k:=zG
 have tW:BC z (2*w)=if Z8 z a=true then V6 z a else V9 z a:=by
  have:=Of h.al h.ka true;rw[Vm,pa]at this;exact this
 have tY:BC z (2*b+1)=if Z8 z b=false then V6 z b else V9 z b:=Of h.bl h.kb false
 have tA:BC z (2*a)=if Z8 z b=true then V6 z b else V9 z b:=by
  have:=Of h.bl h.kb true;rw[Vm,pb]at this;exact this
 have tA1:BC z (2*a+1)=if Z8 z a=false then V6 z a else V9 z a:=Of h.al h.ka false
 have tRP:BC z (2*z.length+2*E0)=X6 z.length f (!Z8 z f):=by
  have:=Ob lf kf;rw[nLf,show 2*z.length+2*E0+1=2*(z.length+E0)+1 by omega,(bk0 _).2]at this
  rw[← this]; congr 1; omega
 have tLQ:BC z (2*z.length+2*(q+1)+1)=X6 z.length s (Z8 z s):=by
  have:=Oq ls' ks;rw[nRs,show 2*z.length+2*(q+1)=2*(z.length+(q+1)) by omega,(bk0 _).1]at this
  rw[← this]; congr 1; omega
 have tRf:BC z (2*z.length+2*q)=X6 z.length s (!Z8 z s):=by
  have:=Ob ls' ks;rw[nLs,show 2*z.length+2*q+1=2*(z.length+q)+1 by omega,(bk0 _).2]at this
  rw[← this]; congr 1; omega
 have tLs:BC z (2*z.length+2*q+1)=X6 z.length f (Z8 z f):=by
  have:=Oq lf kf;rw[nRf,show 2*z.length+2*q=2*(z.length+q) by omega,(bk0 _).1]at this
  rw[← this]; congr 1; omega
 have aT:∀ v,X6 z.length v true=2*v:=fun v=>rfl
 have aFa:X6 z.length a false=2*w+1:=by rw[Sl,pa]
 have aFb:X6 z.length b false=2*a+1:=by rw[Sl,pb]
 obtain⟨Y,hY⟩:∃ Y,[2*a,2*w+1,2*b,2*a+1,2*z.length+2*q,2*z.length+2*E0+1,2*z.length+2*(q+1),2*z.length+2*q+1]=Y:=⟨_,rfl⟩
 have memY:∀ δ,δ∈Y↔(δ=2*a∨δ=2*w+1∨δ=2*b∨δ=2*a+1∨δ=2*z.length+2*q∨δ=2*z.length+2*E0+1∨δ=2*z.length+2*(q+1)∨δ=2*z.length+2*q+1):=fun δ=>by rw[← hY]; simp
 obtain⟨π,hπ⟩:∃ π:Nat→Nat,∀ δ,π δ=if δ=2*w then BC z (2*b)else if δ=2*b+1 then BC z (2*w+1)else if δ=2*z.length+2*E0 then BC z (2*z.length+2*(q+1))else
  if δ=2*z.length+2*(q+1)+1 then BC z (2*z.length+2*E0+1)else if δ∈Y then δ else BC z δ:=⟨_,fun _=>rfl⟩
 have p1:π (2*w)=BC z (2*b):=by rw[hπ,iP rfl]
 have p2:π (2*b+1)=BC z (2*w+1):=by rw[hπ,iN (by omega),iP rfl]
 have p3:π (2*z.length+2*E0)=BC z (2*z.length+2*(q+1)):=by rw[hπ,iN (by omega),iN (by omega),iP rfl]
 have p4:π (2*z.length+2*(q+1)+1)=BC z (2*z.length+2*E0+1):=by rw[hπ,iN (by omega),iN (by omega),iN (by omega),iP rfl]
 have pY:∀ δ,δ∈Y→π δ=δ:=fun δ hδ=>by
  have h2:=(memY δ).1 hδ;rw[hπ,iN (by omega),iN (by omega),iN (by omega),iN (by omega),iP hδ]
 have pO:∀ δ,δ≠2*w→δ≠2*b+1→δ≠2*z.length+2*E0→δ≠2*z.length+2*(q+1)+1→δ∉Y→π δ=BC z δ:=fun δ h1 h2 h3 h4 h5=>by
  rw[hπ,iN h1,iN h2,iN h3,iN h4,iN h5]
 clear hπ;have hmod:∀ v,(v+z.length - 1) % z.length<z.length:=fun v=>Nat.mod_lt _ (by omega)
 have hφ:∀ e,e<2*d.length+2*Z0 d→π (F7 z d ι e)=F7 z d ι (BC d e)∧F7 z d ι e∉Y:=fun e he=>by
  rcases Ru he with⟨u,c,hu,rfl⟩|⟨u,hu,hk,rfl|rfl⟩
  ·obtain⟨ul,ua,ub⟩:=h.lt u hu;rw[GN hu];cases c with
   | true=>
    have hvl:(u+1) % d.length<d.length:=Nat.mod_lt _ hn0;have e1:X6 d.length u true=arr d.length ((u+1) % d.length) true:=by rw[YH,Vm,Hs hu]
    have hn:=h.kR u hu;rw[e1,← h.TY hd hvl true,Vm,aT];by_cases hj:(ι u+1) % z.length=a
    ·rw[iP hj]at hn;rw[hn,Hs bl,wuniq _ ul hj];exact⟨p1,by rw[memY]; omega⟩
    ·rw[iN hj]at hn;rw[hn,Hs ul];have hne:ι u≠w:=fun e=>hj (by rw[e]; exact hw)
     have hnY:2*ι u∉Y:=by rw[memY]; omega
     exact⟨pO _ (by omega) (by omega) (by omega) (by omega) hnY,hnY⟩
   | false=>
    have hvl:(u+d.length - 1) % d.length<d.length:=Nat.mod_lt _ hn0;have hb:=Rz hu;obtain⟨v,hv⟩:∃ v,(u+d.length - 1) % d.length=v:=⟨_,rfl⟩
    rw[hv]at hvl hb;have e1:X6 d.length u false=arr d.length v false:=by rw[Sl,tX,hv]
    obtain⟨vl,va,vb⟩:=h.lt v hvl;have hn:=h.kR v hvl;rw[hb]at hn;rw[e1,← h.TY hd hvl false,tX,Sl];by_cases hj:(ι v+1) % z.length=a
    ·rw[iP hj]at hn;rw[hn,Hs bl,wuniq _ vl hj];exact⟨p2,by rw[memY]; omega⟩
    ·rw[iN hj]at hn;rw[hn,Hs vl];have hne:ι v≠w:=fun e=>hj (by rw[e]; exact hw)
     have hnY:2*ι v+1∉Y:=by rw[memY]; omega
     exact⟨pO _ (by omega) (by omega) (by omega) (by omega) hnY,hnY⟩
  ·obtain⟨i1,i2⟩:=GP hu hk;obtain⟨p,hp⟩:∃ p,W7 u (Z2 d)=p:=⟨_,rfl⟩
   have hiu:=hid u hu hk;rw[hp]at i1 hiu;have hpl:(p+1) % Z0 d<Z0 d:=Nat.mod_lt _ hm0;obtain⟨g1,g2,g3⟩:=hgetd _ hpl;obtain⟨v,hv⟩:∃ v,(Z2 d).getD ((p+1) % Z0 d) 0=v:=⟨_,rfl⟩
   rw[hv]at g1 g2 g3;have e1:V6 d u=CL (V9 d v):=by
    unfold V6 V9;rw[g3,hp,Hs i1,show 2*d.length+2*p+1=2*(d.length+p)+1 by omega,(bk0 _).2]
    omega
   have e2:V9 z (ι v)=2*(z.length+(if p=p0 then q+1 else Q0 q p))+1:=by
    unfold V9;rw[hid v g1 g2,g3,hpsi p i1];omega
   rw[Jn hu hk];have e3:V6 z (ι u)=2*z.length+2*Q0 q p:=by unfold V6; rw[hiu]
   rw[e1,← h.axL g1 g2,e2,(bk0 _).2,e3];obtain⟨q1,q2⟩:=uE q p;by_cases hpp:p=p0
   ·rw[iP hpp,hpp,hE0];have:=p3;refine⟨by rw[this]; congr 1; omega,by rw[memY]; omega⟩
   ·rw[iN hpp];have hne:Q0 q p≠E0:=fun e=>hpp (oJ (e.trans hE0.symm))
    have hnY:2*z.length+2*Q0 q p∉Y:=by rw[memY]; omega
    exact⟨by rw[pO _ (by omega) (by omega) (by omega) (by omega) hnY]; congr 1; omega,hnY⟩
  ·obtain⟨i1,i2⟩:=GP hu hk;obtain⟨p',hp'⟩:∃ p',W7 u (Z2 d)=p':=⟨_,rfl⟩
   have hiu:=hid u hu hk;rw[hp']at i1 hiu;have hpl:(p'+Z0 d - 1) % Z0 d<Z0 d:=Nat.mod_lt _ hm0;have hb:=Rz i1;obtain⟨p,hp⟩:∃ p,(p'+Z0 d - 1) % Z0 d=p:=⟨_,rfl⟩
   rw[hp]at hpl hb;obtain⟨g1,g2,g3⟩:=hgetd _ hpl;obtain⟨v,hv⟩:∃ v,(Z2 d).getD p 0=v:=⟨_,rfl⟩
   rw[hv]at g1 g2 g3;have e1:V9 d u=CL (V6 d v):=by
    unfold V6 V9;rw[g3,hp',hp,show 2*d.length+2*p=2*(d.length+p) by omega,(bk0 _).1]
   have e2:V9 z (ι u)=2*z.length+2*(if p=p0 then q+1 else Q0 q p)+1:=by
    unfold V9;rw[hiu,← hb,hpsi p hpl]
   have e3:V6 z (ι v)=2*(z.length+Q0 q p):=by unfold V6; rw[hid v g1 g2,g3]; omega
   rw[Jg hu hk,e1,← h.axR g1 g2,e3,(bk0 _).1,e2];obtain⟨q1,q2⟩:=uE q p;by_cases hpp:p=p0
   ·rw[iP hpp,hpp,hE0];exact⟨by rw[p4]; congr 1; omega,by rw[memY]; omega⟩
   ·rw[iN hpp];have hne:Q0 q p≠E0:=fun e=>hpp (oJ (e.trans hE0.symm))
    have hnY:2*z.length+2*Q0 q p+1∉Y:=by rw[memY]; omega
    exact⟨by rw[pO _ (by omega) (by omega) (by omega) (by omega) hnY]; congr 1; omega,hnY⟩
 have hzN:2*z.length+2*Z0 z=2*z.length+2*Z0 d+4:=by omega
 have hinj:∀ e e',e<2*d.length+2*Z0 d→e'<2*d.length+2*Z0 d→F7 z d ι e=F7 z d ι e'→e=e':=fun e e' he he' hee=>by
  have axinj:∀ u u',u<d.length→(at' d u).k=1→u'<d.length→(at' d u').k=1→W7 (ι u) (Z2 z)=W7 (ι u') (Z2 z)→u=u':=fun u u' hu hk Dv hk' he=>by
   have h1:=(GP (h.lt u hu).1 (h.k1 hu hk)).2;have h2:=(GP (h.lt u' Dv).1 (h.k1 Dv hk')).2;rw[he,h2]at h1;exact h.inj _ _ hu Dv h1.symm
  have str:∀ v c,v<z.length→X6 z.length v c<2*z.length:=fun v c hv=>Hw hv
  have axg:∀ v,2*z.length≤V6 z v∧2*z.length≤V9 z v∧V6 z v % 2=0∧V9 z v % 2=1:=fun v=>by unfold V6 V9; omega
  rcases Ru he with⟨u,c,hu,rfl⟩|⟨u,hu,hk,rfl|rfl⟩<;>rcases Ru he' with⟨u',c',Dv,rfl⟩|⟨u',Dv,hk',rfl|rfl⟩
  ·rw[GN hu,GN Dv]at hee;obtain⟨e1,e2⟩:=Ke (h.lt u hu).1 (h.lt u' Dv).1 hee;rw[h.inj _ _ hu Dv e1,e2]
  ·rw[GN hu,Jn Dv hk']at hee;have:=str _ c (h.lt u hu).1;have:=axg (ι u');omega
  ·rw[GN hu,Jg Dv hk']at hee;have:=str _ c (h.lt u hu).1;have:=axg (ι u');omega
  ·rw[GN Dv,Jn hu hk]at hee;have:=str _ c' (h.lt u' Dv).1;have:=axg (ι u);omega
  ·rw[Jn hu hk,Jn Dv hk']at hee;unfold V6 at hee;rw[axinj u u' hu hk Dv hk' (by omega)]
  ·rw[Jn hu hk,Jg Dv hk']at hee;have:=axg (ι u);have:=axg (ι u');omega
  ·rw[GN Dv,Jg hu hk]at hee;have:=str _ c' (h.lt u' Dv).1;have:=axg (ι u);omega
  ·rw[Jg hu hk,Jn Dv hk']at hee;have:=axg (ι u);have:=axg (ι u');omega
  ·rw[Jg hu hk,Jg Dv hk']at hee;unfold V9 at hee;have i1:=(GP (h.lt u hu).1 (h.k1 hu hk)).1;have i2:=(GP (h.lt u' Dv).1 (h.k1 Dv hk')).1;rw[axinj u u' hu hk Dv hk' (pS i1 i2 (by omega))]
 have hcov:∀ δ,δ<2*z.length+2*Z0 z↔((∃ e,e<2*d.length+2*Z0 d∧F7 z d ι e=δ)∨δ∈Y):=fun δ=>by
  constructor
  ·intro hδ;have axf:∀ v,v<z.length→v≠a→v≠b→(at' z v).k=1 → ∃ j,j<d.length∧(at' d j).k=1∧ι j=v:=fun v hv va vb hk=>by
    obtain⟨j,j1,j2⟩:=h.QT v hv va vb;exact⟨j,j1,by rw[h.kk j j1,j2]; exact hk,j2⟩
   have hfsv:∀ v,(v=a∨v=b)↔(v=f∨v=s):=fun v=>by
    rcases h.fs with⟨rfl,rfl⟩|⟨rfl,rfl⟩<;>omega
   rcases Ru hδ with⟨v,c,hv,rfl⟩|⟨v,hv,hk,rfl|rfl⟩
   ·by_cases hva:v=a
    ·subst hva;refine .inr ((memY _).2 ?_);cases c
     ·rw[aFa]; omega
     ·rw[aT]; omega
    ·by_cases hvb:v=b
     ·subst hvb;refine .inr ((memY _).2 ?_);cases c
      ·rw[aFb]; omega
      ·rw[aT]; omega
     ·obtain⟨j,j1,j2⟩:=h.QT v hv hva hvb;refine .inl ⟨X6 d.length j c,by have:=Hw (fw:=c) j1; omega,?_⟩
      rw[GN j1,j2]
   ·by_cases hvv:v=a∨v=b
    ·rcases (hfsv v).1 hvv with rfl|rfl
     ·exact .inr ((memY _).2 (by rw[nRf]; omega))
     ·exact .inr ((memY _).2 (by rw[nRs]; omega))
    ·obtain⟨j,j1,j2,j3⟩:=axf v hv (fun e=>hvv (.inl e)) (fun e=>hvv (.inr e)) hk
     exact .inl ⟨V6 d j,(VM j1 j2).2,by rw[Jn j1 j2,j3]⟩
   ·by_cases hvv:v=a∨v=b
    ·rcases (hfsv v).1 hvv with rfl|rfl
     ·exact .inr ((memY _).2 (by rw[nLf]; omega))
     ·exact .inr ((memY _).2 (by rw[nLs]; omega))
    ·obtain⟨j,j1,j2,j3⟩:=axf v hv (fun e=>hvv (.inl e)) (fun e=>hvv (.inr e)) hk
     exact .inl ⟨V9 d j,(VM j1 j2).1,by rw[Jg j1 j2,j3]⟩
  ·rintro(⟨e,he,rfl⟩|hδ)
   ·rcases Ru he with⟨u,c,hu,rfl⟩|⟨u,hu,hk,rfl|rfl⟩
    ·rw[GN hu];have:=Hw (fw:=c) (h.lt u hu).1;omega
    ·rw[Jn hu hk]; exact(VM (h.lt u hu).1 (h.k1 hu hk)).2
    ·rw[Jg hu hk]; exact(VM (h.lt u hu).1 (h.k1 hu hk)).1
   ·have:=(memY δ).1 hδ;omega
 have hYn:Y.Nodup:=by
  rw[← hY];simp only[List.nodup_cons,mC,List.not_mem_nil,or_false,not_or,List.nodup_nil,not_false_eq_true,and_true];refine⟨?_,?_,?_,?_,?_,?_,?_⟩<;>omega
 have hPd:BJ (BC d) (2*d.length+2*Z0 d):=Xn hd;have hPz:BJ (BC z) (2*z.length+2*Z0 z):=Xn hz;obtain⟨S',c1⟩:=tU hPd;obtain⟨S,c2,c3⟩:=c1.emb (T:=π) (N:=2*z.length+2*Z0 z) (F7 z d ι) Y (fun e he=>(hφ e he).1) hinj hYn (fun e he=>(hφ e he).2) hcov pY
 have hYl:Y.length=8:=by rw[← hY]; rfl
 have fin:∃ S2,CC (BC z) (2*z.length+2*Z0 z) S2∧S2.length+6≤S.length:=by
  have hb:Z8 z b = !Z8 z a:=h.db;rcases h.fs with⟨e1,e2⟩|⟨e1,e2⟩
  ·rw[e1]at nRf nLf tRP tLs;rw[e2]at nRs nLs tLQ tRf;rw[nRf,nLf]at tW tA1;rw[nRs,nLs]at tY tA;cases hda:Z8 z a with
   | false=>
    rw[hda]at hb;simp only[hda,hb,Bool.not_true,Bool.not_false,if_true,if_false,bF,Bool.true_eq_false,aFa,aFb,aT]at tW tY tA tA1 tRP tLQ tRf tLs;exact c2.Mz (T:=BC z) (x:=2*b+1) (z:=2*z.length+2*E0) (y:=2*w) (v:=2*z.length+2*(q+1)+1) (u1:=2*z.length+2*q+1) (u2:=2*w+1) (w1:=2*a) (w2:=2*z.length+2*(q+1)) (p1:=2*z.length+2*E0+1) (r1:=2*b) (g1:=2*a+1) (g2:=2*z.length+2*q)
     (by
       simp only[List.nodup_cons,mC,List.not_mem_nil,or_false,not_or,List.nodup_nil,not_false_eq_true,and_true];refine⟨?_,?_,?_,?_,?_,?_,?_,?_,?_,?_,?_⟩<;>omega)
     (by
       simp only[mC,List.not_mem_nil,or_false,forall_eq_or_imp,forall_eq];refine⟨?_,?_,?_,?_,?_,?_,?_,?_,?_,?_,?_,?_⟩<;>omega)
     (fun δ hδ=>pY δ ((memY δ).2 (by simp only[mC,List.not_mem_nil,or_false]at hδ; omega)))
     p2 p3 p1 p4
     (fun δ _ hδ=>by
       simp only[mC,List.not_mem_nil,or_false,not_or]at hδ;exact pO δ (by omega) (by omega) (by omega) (by omega) (by rw[memY]; omega))
     tY tLs tRP tA tW tLQ tA1 tRf
   | true=>
    rw[hda]at hb;simp only[hda,hb,Bool.not_true,Bool.not_false,if_true,if_false,bF,Bool.true_eq_false,aFa,aFb,aT]at tW tY tA tA1 tRP tLQ tRf tLs;exact c2.Mz (T:=BC z) (x:=2*w) (z:=2*z.length+2*(q+1)+1) (y:=2*b+1) (v:=2*z.length+2*E0) (u1:=2*z.length+2*q) (u2:=2*b) (w1:=2*a+1) (w2:=2*z.length+2*E0+1) (p1:=2*z.length+2*(q+1)) (r1:=2*w+1) (g1:=2*a) (g2:=2*z.length+2*q+1)
     (by
       simp only[List.nodup_cons,mC,List.not_mem_nil,or_false,not_or,List.nodup_nil,not_false_eq_true,and_true];refine⟨?_,?_,?_,?_,?_,?_,?_,?_,?_,?_,?_⟩<;>omega)
     (by
       simp only[mC,List.not_mem_nil,or_false,forall_eq_or_imp,forall_eq];refine⟨?_,?_,?_,?_,?_,?_,?_,?_,?_,?_,?_,?_⟩<;>omega)
     (fun δ hδ=>pY δ ((memY δ).2 (by simp only[mC,List.not_mem_nil,or_false]at hδ; omega)))
     p1 p4 p2 p3
     (fun δ _ hδ=>by
       simp only[mC,List.not_mem_nil,or_false,not_or]at hδ;exact pO δ (by omega) (by omega) (by omega) (by omega) (by rw[memY]; omega))
     tW tRf tLQ tA1 tY tRP tA tLs
  ·rw[e1]at nRf nLf tRP tLs;rw[e2]at nRs nLs tLQ tRf;rw[nRf,nLf]at tY tA;rw[nRs,nLs]at tW tA1;cases hda:Z8 z a with
   | false=>
    rw[hda]at hb;simp only[hda,hb,Bool.not_true,Bool.not_false,if_true,if_false,bF,Bool.true_eq_false,aFa,aFb,aT]at tW tY tA tA1 tRP tLQ tRf tLs;exact c2.Mz (T:=BC z) (x:=2*w) (z:=2*z.length+2*E0) (y:=2*b+1) (v:=2*z.length+2*(q+1)+1) (u1:=2*z.length+2*q+1) (u2:=2*b) (w1:=2*a+1) (w2:=2*z.length+2*(q+1)) (p1:=2*z.length+2*E0+1) (r1:=2*w+1) (g1:=2*a) (g2:=2*z.length+2*q)
     (by
       simp only[List.nodup_cons,mC,List.not_mem_nil,or_false,not_or,List.nodup_nil,not_false_eq_true,and_true];refine⟨?_,?_,?_,?_,?_,?_,?_,?_,?_,?_,?_⟩<;>omega)
     (by
       simp only[mC,List.not_mem_nil,or_false,forall_eq_or_imp,forall_eq];refine⟨?_,?_,?_,?_,?_,?_,?_,?_,?_,?_,?_,?_⟩<;>omega)
     (fun δ hδ=>pY δ ((memY δ).2 (by simp only[mC,List.not_mem_nil,or_false]at hδ; omega)))
     p1 p3 p2 p4
     (fun δ _ hδ=>by
       simp only[mC,List.not_mem_nil,or_false,not_or]at hδ;exact pO δ (by omega) (by omega) (by omega) (by omega) (by rw[memY]; omega))
     tW tLs tRP tA1 tY tLQ tA tRf
   | true=>
    rw[hda]at hb;simp only[hda,hb,Bool.not_true,Bool.not_false,if_true,if_false,bF,Bool.true_eq_false,aFa,aFb,aT]at tW tY tA tA1 tRP tLQ tRf tLs;exact c2.Mz (T:=BC z) (x:=2*b+1) (z:=2*z.length+2*(q+1)+1) (y:=2*w) (v:=2*z.length+2*E0) (u1:=2*z.length+2*q) (u2:=2*w+1) (w1:=2*a) (w2:=2*z.length+2*E0+1) (p1:=2*z.length+2*(q+1)) (r1:=2*b) (g1:=2*a+1) (g2:=2*z.length+2*q+1)
     (by
       simp only[List.nodup_cons,mC,List.not_mem_nil,or_false,not_or,List.nodup_nil,not_false_eq_true,and_true];refine⟨?_,?_,?_,?_,?_,?_,?_,?_,?_,?_,?_⟩<;>omega)
     (by
       simp only[mC,List.not_mem_nil,or_false,forall_eq_or_imp,forall_eq];refine⟨?_,?_,?_,?_,?_,?_,?_,?_,?_,?_,?_,?_⟩<;>omega)
     (fun δ hδ=>pY δ ((memY δ).2 (by simp only[mC,List.not_mem_nil,or_false]at hδ; omega)))
     p2 p4 p1 p3
     (fun δ _ hδ=>by
       simp only[mC,List.not_mem_nil,or_false,not_or]at hδ;exact pO δ (by omega) (by omega) (by omega) (by omega) (by rw[memY]; omega))
     tY tRf tLQ tA tW tRP tA1 tLs
 obtain⟨S2,c4,c5⟩:=fin;have r1:=c1.count hPd;have r2:=c4.count hPz;have:I8 (BC z) (2*z.length+2*Z0 z)≤I8 (BC d) (2*d.length+2*Z0 d)+2:=by omega
 exact this
end
end Go.Ac
end
section
namespace Go.Ac
open Go.Plain
def X1(n a b:Nat):List Nat:=(List.range n).filter fun v=>!(v == a) && !(v == b)
def V3{α:Type}(l:List α)(s:Nat):List α:=l.drop s++l.take s
theorem BG{n a b v:Nat}:v∈X1 n a b↔v<n∧v≠a∧v≠b:=by
 unfold X1;rw[List.mem_filter,mR];simp
theorem uR(n a b:Nat):(X1 n a b).Nodup:=List.nodup_range.filter _
theorem Hj{α:Type}(l:List α)(s:Nat):(V3 l s).Perm l:=by
 unfold V3;refine List.perm_append_comm.trans ?_;rw[List.take_append_drop]
theorem Wl{l:List Nat}{s j:Nat}(hs:s<l.length)(hj:j<l.length):(V3 l s).getD j 0=l.getD ((j+s) % l.length) 0:=by
 unfold V3;rw[List.getD,List.getD,List.getElem?_append,List.length_drop];by_cases h:j<l.length - s
 ·rw[iP h,List.getElem?_drop,Nat.mod_eq_of_lt (by omega),Nat.add_comm]
 ·rw[iN h,List.getElem?_take,iP (by omega)]
  congr 2
  have:j+s=(j - (l.length - s))+l.length:=by omega
  rw[this,Nat.add_mod_right,Nat.mod_eq_of_lt (by omega)]
theorem rN{n a:Nat}(h:a+2≤n):List.range n=List.range a++a :: (a+1) :: List.range' (a+2) (n - (a+2)):=by
 have h1:=List.range'_append_1 (s:=0) (m:=a) (n:=n - a);rw[Nat.zero_add,show a+(n - a)=n by omega,show n - a=(n - (a+2))+1+1 by omega,List.range'_succ,List.range'_succ]at h1
 rw[List.range_eq_range',List.range_eq_range',← h1]
theorem zF{n a:Nat}(h:a+2≤n):X1 n a (a+1)=List.range a++List.range' (a+2) (n - (a+2)):=by
 unfold X1;rw[rN h,List.filter_append,List.filter_cons,List.filter_cons];simp only[beq_self_eq_true,Bool.not_true,Bool.false_and,Bool.and_false,bF,if_false]
 congr 1
 ·rw[List.filter_eq_self];intro v hv;have:=mR.1 hv;simp;omega
 ·rw[List.filter_eq_self];intro v hv;have:=List.mem_range'_1.1 hv;simp;omega
theorem yW{n:Nat}(h:2≤n):X1 n (n - 1) 0=List.range' 1 (n - 2):=by
 unfold X1;have h1:List.range n=0 :: (List.range' 1 (n - 2)++[n - 1]):=by
  rw[List.range_eq_range',show n=(n - 2+1)+1 by omega,List.range'_succ]
  have:=List.range'_append_1 (s:=1) (m:=n - 2) (n:=1);rw[show 0+1=1 from rfl,← this]
  simp;omega
 rw[h1,List.filter_cons,List.filter_append];simp only[beq_self_eq_true,Bool.not_true,Bool.and_false,bF,if_false];rw[List.filter_eq_self.2]
 ·simp
 ·intro v hv;have:=List.mem_range'_1.1 hv;simp;omega
theorem VU{n a b:Nat}(h3:3≤n)(ha:a<n)(hb:b=(a+1) % n):(X1 n a b).length=n - 2 ∧ ∃ t,∀ j,j<n - 2→(X1 n a b).getD j 0=(b+1+(j+t) % (n - 2)) % n:=by
 by_cases h:a+1<n
 ·rw[Nat.mod_eq_of_lt h]at hb;subst hb;rw[zF (by omega)]
  refine⟨by simp; omega,n - 2 - a,fun j hj=>?_⟩
  rw[List.getD,List.getElem?_append,List.length_range];by_cases hja:j<a
  ·rw[iP hja,List.getElem?_range hja,Nat.mod_eq_of_lt (show j+(n - 2 - a)<n - 2 by omega),show a+1+1+(j+(n - 2 - a))=j+n by omega,Nat.add_mod_right,Nat.mod_eq_of_lt (by omega)]
   rfl
  ·rw[iN hja,List.getElem?_range' (by omega),show j+(n - 2 - a)=(j - a)+(n - 2) by omega,Nat.add_mod_right,Nat.mod_eq_of_lt (show j - a<n - 2 by omega),Nat.mod_eq_of_lt (by omega)]
   show a+2+1*(j - a)=_;omega
 ·obtain rfl:a=n - 1:=by omega
  have hb0:b=0:=by rw[hb,show n - 1+1=n by omega,Nat.mod_self]
  subst hb0;rw[yW (by omega)]
  refine⟨by simp,0,fun j hj=>?_⟩
  rw[List.getD,List.getElem?_range' (by omega)]
  show 1+1*j=(0+1+(j+0) % (n - 2)) % n;have e:(j+0) % (n - 2)=j:=Nat.mod_eq_of_lt hj;rw[e,Nat.mod_eq_of_lt (by omega)]
  omega
theorem Z9y{n a b s:Nat}(h3:3≤n)(ha:a<n)(hb:b=(a+1) % n)(hs:s<n - 2):∀ j,j<n - 2→(V3 (X1 n a b) s).getD ((j+1) % (n - 2)) 0=if ((V3 (X1 n a b) s).getD j 0+1) % n=a then (b+1) % n else ((V3 (X1 n a b) s).getD j 0+1) % n:=fun j hj=>by
 obtain⟨h1,t,h2⟩:=VU h3 ha hb;have hm:∀ x,x % (n - 2)<n - 2:=fun x=>Nat.mod_lt _ (by omega)
 have hbn:b<n:=by rw[hb]; exact Nat.mod_lt _ (by omega)
 rw[Wl (by omega) (by rw[h1]; exact hm _),Wl (by omega) (by omega),h1,h2 _ (hm _),h2 _ (hm _)]
 obtain⟨k,hk⟩:∃ k,(j+s+t) % (n - 2)=k:=⟨_,rfl⟩
 have hkl:k<n - 2:=hk ▸ hm _;have e1:((j+s) % (n - 2)+t) % (n - 2)=k:=by rw[Nat.mod_add_mod,hk]
 have e2:(((j+1) % (n - 2)+s) % (n - 2)+t) % (n - 2)=(k+1) % (n - 2):=by
  rw[Nat.mod_add_mod,Nat.add_assoc,Nat.mod_add_mod,← hk,Nat.mod_add_mod]
  congr 1
  omega
 rw[e1,e2];have e3:((b+1+k) % n+1) % n=(b+1+(k+1)) % n:=by rw[Nat.mod_add_mod]; congr 1
 rw[e3];have hab:a=(b+n - 1) % n:=by rw[hb]; exact(Hs ha).symm
 by_cases hl:k+1=n - 2
 ·have hc:(b+1+(k+1)) % n=a:=by
   rw[hab]
   congr 1
   omega
  rw[iP hc,hl,Nat.mod_self]
 ·rw[Nat.mod_eq_of_lt (show k+1<n - 2 by omega)]
  refine(iN ?_).symm;intro e;rw[hab]at e;have hx:∀ x,x<2*n→x % n=if x<n then x else x - n:=fun x hx=>by
   by_cases hh:x<n
   ·rw[iP hh,Nat.mod_eq_of_lt hh]
   ·rw[iN hh,show x=(x - n)+n by omega,Nat.add_mod_right,Nat.mod_eq_of_lt (by omega)]
    omega
  rw[hx _ (by omega),hx _ (by omega)]at e
  split at e<;>split at e<;>omega
section
variable {z:List Lt}
theorem ML(v:Nat):Z8 z (v+1)=if v<z.length∧Am (at' z v)=true then !Z8 z v else Z8 z v:=by
 unfold Z8;by_cases hv:v<z.length
 ·have e:z.take (v+1)=z.take v++[at' z v]:=by
   rw[List.take_add_one,gE hv,at',List.getD,gE hv];rfl
  have h1:Z0 (z.take (v+1))=Z0 (z.take v)+if Am (at' z v)then 1 else 0:=by
   unfold Z0;rw[e,YL,Oj];rfl
  rw[h1];cases hp:Am (at' z v)with
  | true=>
   simp only[hv,if_true,and_self];rcases Nat.mod_two_eq_zero_or_one (Z0 (z.take v))with e|e
   ·rw[e,show (Z0 (z.take v)+1) % 2=1 by omega]; rfl
   ·rw[e,show (Z0 (z.take v)+1) % 2=0 by omega]; rfl
  | false=>simp
 ·rw[iN (fun h=>hv h.1),tL (by omega),tL (by omega)]
theorem Zs:Z8 z 0=true:=rfl
theorem VC(he:Z0 z % 2=0){v:Nat}(hv:v<z.length):Z8 z ((v+1) % z.length)=if Am (at' z v)=true then !Z8 z v else Z8 z v:=by
 have h1:=ML (z:=z) v;have e:(v<z.length∧Am (at' z v)=true)↔Am (at' z v)=true:=⟨fun h=>h.2,fun h=>⟨hv,h⟩⟩
 simp only[e]at h1;rw[← h1];by_cases hl:v+1=z.length
 ·rw[hl,Nat.mod_self,Zs];unfold Z8;rw[List.take_length,he];rfl
 ·rw[Nat.mod_eq_of_lt (by omega)]
end
end Go.Ac
end
section
namespace Go.Ac
open Go.Plain
def CI(G R:Int)(l:Lt):Lt:=if l.k=1∧l.g=G∧R<l.r then { l with r:=l.r - 2 } else l
def N4(z:List Lt)(a b s0:Nat)(G R:Int):List Lt:=(V3 (X1 z.length a b) s0).map fun v=>CI G R (at' z v)
theorem FE(G R:Int)(l:Lt):(CI G R l).k=l.k:=by unfold CI; split<;>rfl
theorem Fh(G R:Int)(l:Lt):(CI G R l).g=l.g:=by unfold CI; split<;>rfl
theorem QY(G R:Int)(l:Lt):(CI G R l).i=l.i:=by unfold CI; split<;>rfl
theorem Vb(G R:Int)(l:Lt):(CI G R l).s=l.s:=by unfold CI; split<;>rfl
theorem Va(G R:Int)(l:Lt):(CI G R l).o=l.o:=by unfold CI; split<;>rfl
theorem SA(G R:Int)(l:Lt):Am (CI G R l)=Am l:=by unfold Am; rw[FE]
theorem uv(G R:Int)(l:Lt):Bg (CI G R l)=Bg l:=by unfold Bg; rw[FE]
theorem Ja(G R:Int)(l:Lt):(CI G R l).r=if l.k=1∧l.g=G∧R<l.r then l.r - 2 else l.r:=by unfold CI; split<;>rfl
theorem Vc{G R:Int}{l:Lt}(h:¬l.k=1):CI G R l=l:=iN fun e=>h e.1
theorem uO{F:Int}{ls:List Lt}(hlo:0≤F)(hok:∀ l,l∈ls→FC F ls l=true)(h0:0<ls.length)(hf:(at' ls 0).k=1):Wv ls:=by
 obtain⟨_,_,hc⟩:=Bq.Ep hlo hok;refine⟨?_,fun v hv hk=>(St (hok _ (O0 hv))).resolve_right hk,fun v hv hk=>?_⟩
 ·rw[← O5];exact List.length_pos_of_mem (AB.2 ⟨h0,by simp[Am,hf]⟩)
 ·obtain⟨_,_,j,_,_,_,j1,j2,j3,j4,j5,j6,j7,j8⟩:=MJ hc hv (by simp[Bg,hk])
  obtain⟨_,_,j',_,_,_,g1,g2,g3,g4,g5,g6,_,g8⟩:=MJ hc j1 j3;rw[j8];have hj:j'=v:=(j7 j' g1 g3 (by rw[g4,j4])).resolve_right g2
  exact⟨j1,by simpa[Bg]using j3,by rw[g8,hj],j5,j6⟩
structure BN (F:Int) (z:List Lt) (a b s0:Nat) (G R:Int):Prop where
 val:Bq F z
 len:3≤z.length
 al:a<z.length
 ab:b=(a+1) % z.length
 ka:(at' z a).k=1
 kb:(at' z b).k=1
 ga:(at' z a).g=G
 gb:(at' z b).g=G
 rk:((at' z a).r=R∧(at' z b).r=R - 1)∨((at' z a).r=R - 1∧(at' z b).r=R)
 sl:s0<z.length - 2
 fk:(at' z ((V3 (X1 z.length a b) s0).getD 0 0)).k=1
 fd:Z8 z ((V3 (X1 z.length a b) s0).getD 0 0)=true
section
variable {F:Int} {z:List Lt} {a b s0:Nat} {G R:Int}
theorem BN.bl(h:BN F z a b s0 G R):b<z.length:=by rw[h.ab]; exact Nat.mod_lt _ (by have:=h.len; omega)
theorem BN.ne(h:BN F z a b s0 G R):a≠b:=fun e=>by
 have:=h.rk;rw[e]at this;omega
theorem BN.Mk(h:BN F z a b s0 G R):(V3 (X1 z.length a b) s0).length=z.length - 2:=by
 rw[(Hj _ _).length_eq];exact(VU h.len h.al h.ab).1
theorem BN.mem(h:BN F z a b s0 G R){j:Nat}(hj:j<z.length - 2):(V3 (X1 z.length a b) s0).getD j 0∈V3 (X1 z.length a b) s0:=by
 rw[List.getD,gE (by rw[h.Mk]; exact hj)]
 exact List.getElem_mem _
theorem BN.keep(h:BN F z a b s0 G R){j:Nat}(hj:j<z.length - 2):(V3 (X1 z.length a b) s0).getD j 0<z.length∧(V3 (X1 z.length a b) s0).getD j 0≠a∧(V3 (X1 z.length a b) s0).getD j 0≠b:=
 BG.1 ((Hj _ _).mem_iff.1 (h.mem hj))
theorem pQ(h:BN F z a b s0 G R):(N4 z a b s0 G R).length+2=z.length:=by
 unfold N4;rw[lM,h.Mk];have:=h.len;omega
theorem sE(h:BN F z a b s0 G R){j:Nat}(hj:j<z.length - 2):at' (N4 z a b s0 G R) j=CI G R (at' z ((V3 (X1 z.length a b) s0).getD j 0)):=by
 unfold N4;have hl:=h.Mk;rw[at',List.getD,gM,List.getD,gE (by omega)]
 rfl
theorem RT(h:BN F z a b s0 G R)(p:Lt→Bool):Z9 p z=(if p (at' z a)then 1 else 0)+((if p (at' z b)then 1 else 0)+Z9 p ((V3 (X1 z.length a b) s0).map (at' z))):=by
 have hp:(a :: b :: V3 (X1 z.length a b) s0).Perm (List.range z.length):=by
  refine(List.perm_ext_iff_of_nodup ?_ List.nodup_range).2 fun v=>?_
  ·rw[List.nodup_cons,List.nodup_cons];refine⟨fun e=>?_,fun e=>?_,(Hj _ _).nodup_iff.2 (uR ..)⟩
   ·rcases mC.1 e with e|e
    ·exact h.ne e
    ·exact(BG.1 ((Hj _ _).mem_iff.1 e)).2.1 rfl
   ·exact(BG.1 ((Hj _ _).mem_iff.1 e)).2.2 rfl
  ·rw[mC,mC,(Hj _ _).mem_iff,BG,mR];have:=h.al;have:=h.bl;omega
 have hz:z=(List.range z.length).map (at' z):=by
  apply List.ext_getElem?;intro i;rw[gM];by_cases hi:i<z.length
  ·rw[List.getElem?_range hi,gE hi,Option.map_some,at',List.getD,gE hi];rfl
  ·rw[List.getElem?_eq_none (by omega),List.getElem?_eq_none (by simp; omega)]
   rfl
 have hq:Z9 p z=Z9 p ((a :: b :: V3 (X1 z.length a b) s0).map (at' z)):=by
  conv=>lhs; rw[hz]
  unfold Z9;exact((hp.map (at' z)).symm.filter p).length_eq
 rw[hq,List.map_cons,List.map_cons,Oj,Oj]
theorem Ti(p:Lt→Bool):Z9 p (N4 z a b s0 G R)=Z9 (fun l=>p (CI G R l)) ((V3 (X1 z.length a b) s0).map (at' z)):=by
 unfold N4;rw[show ((V3 (X1 z.length a b) s0).map fun v=>CI G R (at' z v))=((V3 (X1 z.length a b) s0).map (at' z)).map (CI G R) by rw[List.map_map]; rfl,Lf]
theorem Z9p(h:BN F z a b s0 G R)(g:Int):Ay g z=Ay g (N4 z a b s0 G R)+if g=G then 2 else 0:=by
 unfold Ay;rw[Ti,RT h];have e:Z9 (fun l=>Am (CI G R l)&&(CI G R l).g == g) ((V3 (X1 z.length a b) s0).map (at' z))=Z9 (fun l=>Am l&&l.g == g) ((V3 (X1 z.length a b) s0).map (at' z)):=O8 fun l _=>by rw[SA,Fh]
 rw[e,O7 h.ka,O7 h.kb,h.ga,h.gb];by_cases hg:g=G
 ·subst hg; simp; omega
 ·have:¬G=g:=fun e=>hg e.symm
  simp[hg,this]
theorem Vw(h:BN F z a b s0 G R)(p:Lt→Bool)(hp:∀ l,p l=true→Bg l=true):Z9 p (N4 z a b s0 G R)=Z9 p z:=by
 rw[Ti,RT h];have h1:p (at' z a)=false:=by
  cases hc:p (at' z a)with
  | false=>rfl
  | true=>
   have:=hp _ hc;have hk:=h.ka;simp[Bg]at this;omega
 have h2:p (at' z b)=false:=by
  cases hc:p (at' z b)with
  | false=>rfl
  | true=>
   have:=hp _ hc;have hk:=h.kb;simp[Bg]at this;omega
 rw[h1,h2];simp only[bF,if_false,Nat.zero_add];refine O8 fun l _=>?_
 by_cases hk:l.k=1
 ·have e1:p l=false:=by
   cases hc:p l with
   | false=>rfl
   | true=>
    have:=hp _ hc;simp[Bg]at this;omega
  have e2:p (CI G R l)=false:=by
   cases hc:p (CI G R l)with
   | false=>rfl
   | true=>
    have:=hp _ hc;rw[uv]at this;simp[Bg]at this;omega
  rw[e1,e2]
 ·rw[Vc hk]
theorem rU(h:BN F z a b s0 G R):Z0 z=Z0 (N4 z a b s0 G R)+2:=by
 unfold Z0;rw[Ti,RT h];have e:Z9 (fun l=>Am (CI G R l)) ((V3 (X1 z.length a b) s0).map (at' z))=Z9 Am ((V3 (X1 z.length a b) s0).map (at' z)):=O8 fun l _=>by rw[SA]
 rw[e,O7 h.ka,O7 h.kb];simp;omega
def Kr(l o:Lt):Bool:=o.k == l.k&&o.g == l.g&&o.r == l.r
theorem XV(h:BN F z a b s0 G R){l:Lt}(hl:l∈(V3 (X1 z.length a b) s0).map (at' z))(hk:l.k=1):l∈z∧Z9 (Kr l) ((V3 (X1 z.length a b) s0).map (at' z))=1∧(l.g=G→l.r≠R∧l.r≠R - 1):=by
 obtain⟨v,hv,rfl⟩:=mM.1 hl;have hvl:=(BG.1 ((Hj _ _).mem_iff.1 hv)).1;have hmz:at' z v∈z:=O0 hvl;obtain⟨_,_,_,_,_,_,_,h8⟩:=(A5 hk).1 (h.val.ET _ hmz);have hself:∀ {o:Lt},o∈(V3 (X1 z.length a b) s0).map (at' z) → ∀ {q:Lt→Bool},q o=true→0<Z9 q ((V3 (X1 z.length a b) s0).map (at' z)):=fun {o} ho {q} hq=>by
  unfold Z9;exact List.length_pos_of_mem (List.mem_filter.2 ⟨ho,hq⟩)
 have hone:∀ x,x<z.length→(at' z x).k=1→Z9 (Kr (at' z x)) z=1:=fun x hx hk=>by
  obtain⟨_,_,_,_,_,_,_,h8⟩:=(A5 hk).1 (h.val.ET _ (O0 hx));exact h8
 have hs:Kr (at' z v) (at' z v)=true:=by simp[Kr]
 have h9:Z9 (Kr (at' z v)) z=1:=h8;rw[RT h]at h9;have h10:=hself hl hs;refine⟨hmz,by omega,fun hg=>?_⟩
 have key:∀ x,x<z.length→(x=a∨x=b)→(at' z x).k=1→(at' z x).g=G→(at' z v).r≠(at' z x).r:=fun x hx hxab XB hxg e=>by
  have h11:=hone x hx XB;rw[RT h]at h11;have h12:Kr (at' z x) (at' z v)=true:=by simp[Kr,hk,XB,hg,hxg,e]
  have h13:=hself hl h12;have h14:Kr (at' z x) (at' z x)=true:=by simp[Kr]
  rcases hxab with rfl|rfl
  ·rw[h14]at h11; simp at h11; omega
  ·rw[h14]at h11; simp at h11; omega
 have k1:=key a h.al (.inl rfl) h.ka h.ga;have k2:=key b h.bl (.inr rfl) h.kb h.gb;rcases h.rk with⟨r1,r2⟩|⟨r1,r2⟩
 ·rw[r1]at k1; rw[r2]at k2; exact⟨k1,k2⟩
 ·rw[r1]at k1; rw[r2]at k2; exact⟨k2,k1⟩
theorem vS(h:BN F z a b s0 G R):2≤R∧R≤Ay G z∧0≤G∧G≤F:=by
 obtain⟨_,_,_,a4,a5,a6,a7,_⟩:=(A5 h.ka).1 (h.val.ET _ (O0 h.al));obtain⟨_,_,_,b4,b5,b6,b7,_⟩:=(A5 h.kb).1 (h.val.ET _ (O0 h.bl));rw[h.ga]at a4 a5 a7;rw[h.gb]at b7;rcases h.rk with⟨r1,r2⟩|⟨r1,r2⟩<;>omega
theorem zW(h:BN F z a b s0 G R):∀ l,l∈N4 z a b s0 G R→FC F (N4 z a b s0 G R) l=true:=by
 intro l' hl';have hm:l'∈((V3 (X1 z.length a b) s0).map (at' z)).map (CI G R):=by
  rw[List.map_map];exact hl'
 obtain⟨l,hl,rfl⟩:=mM.1 hm;have hmz:l∈z:=by
  obtain⟨v,hv,rfl⟩:=mM.1 hl;exact O0 (BG.1 ((Hj _ _).mem_iff.1 hv)).1
 have hok:=h.val.ET l hmz;rcases St hok with hk|hk
 ·obtain⟨a1,a2,a3,a4,a5,a6,a7,a8⟩:=(A5 hk).1 hok;obtain⟨_,c1,c2⟩:=XV h hl hk;obtain⟨r1,r2,_,_⟩:=vS h;have hi:=Z9p h l.g;refine(A5 (by rw[FE]; exact hk)).2 ⟨by rw[QY]; exact a1,by rw[Vb]; exact a2,by rw[Va]; exact a3,by rw[Fh]; exact a4,by rw[Fh]; exact a5,?_,?_,?_⟩
  ·rw[Ja];split
   ·omega
   ·omega
  ·rw[Ja,Fh];by_cases hg:l.g=G
   ·rw[iP hg]at hi;rw[hg]at hi a7;obtain⟨n1,n2⟩:=c2 hg;rw[hg];split
    ·omega
    ·rename_i hc;have:¬R<l.r:=fun e=>hc ⟨hk,rfl,e⟩
     omega
   ·rw[iN hg]at hi;rw[iN fun e=>hg e.2.1]
    omega
  ·rw[← c1];unfold same;rw[Ti];refine O8 fun o ho=>?_
   rw[FE,Fh,Ja,FE,Fh,Ja];unfold Kr;rw[Bool.eq_iff_iff];simp only[bA,beq_iff_eq];constructor
   ·rintro⟨⟨e1,e2⟩,e3⟩;refine⟨⟨e1,e2⟩,?_⟩;have hok':o.k=1:=by rw[e1]; exact hk
    by_cases hg:l.g=G
    ·obtain⟨n1,n2⟩:=c2 hg;obtain⟨n3,n4⟩:=(XV h ho hok').2.2 (by rw[e2]; exact hg)
     have hg':o.g=G:=by rw[e2]; exact hg
     simp only[hk,hg,hok',hg',true_and]at e3;split at e3<;>split at e3<;>omega
    ·have hg':¬o.g=G:=by rw[e2]; exact hg
     rw[iN fun e=>hg' e.2.1,iN fun e=>hg e.2.1]at e3
     exact e3
   ·rintro⟨⟨e1,e2⟩,e3⟩;refine⟨⟨e1,e2⟩,?_⟩;rw[e1,e2,e3]
 ·obtain⟨a1,a2,a3,a4,a5,a6,a7⟩:=(RZ hk).1 hok;have hx:¬l.k=1:=by omega
  rw[Vc hx];have hv:X0 (N4 z a b s0 G R)=X0 z:=Vw h Bg fun l hl=>hl
  have hp:MH l (N4 z a b s0 G R)=MH l z:=Vw h _ fun o ho=>by
   simp only[bA,beq_iff_eq]at ho;simp[Bg,ho.1.1.1,hk]
  have ht:Ou l.i (N4 z a b s0 G R)=Ou l.i z:=Vw h _ fun o ho=>by
   simp only[bA]at ho;exact ho.1
  exact(RZ hk).2 ⟨a1,a2,a3,a4,by rw[hv]; exact a5,by rw[hp]; exact a6,by rw[ht]; exact a7⟩
end
end Go.Ac
end
section
namespace Go.Ac
open Go.Plain
def FG(ls:List Lt)(g:Int):Nat:=Z9 (fun o=>Am o&&decide (o.g<g)) ls
theorem Wc(ls:List Lt)(l:Lt):pos ls l=FG ls l.g+(l.r - 1).toNat:=rfl
theorem mA{ls:List Lt}{g g':Int}(h:g<g'):FG ls g+Ay g ls≤FG ls g':=by
 unfold FG Ay;rw[Nc (fun o=>Am o&&decide (o.g<g')) (fun o=>decide (o.g<g))]
 have e1:Z9 (fun o=>Am o&&decide (o.g<g')&&decide (o.g<g)) ls=Z9 (fun o=>Am o&&decide (o.g<g)) ls:=O8 fun o _=>by
  rw[Bool.eq_iff_iff];simp only[bA,decide_eq_true_eq];constructor
  ·rintro⟨⟨a,_⟩,c⟩; exact⟨a,c⟩
  ·rintro⟨a,c⟩; exact⟨⟨a,by omega⟩,c⟩
 have e2:Z9 (fun o=>Am o&&o.g == g) ls≤Z9 (fun o=>Am o&&decide (o.g<g') && !decide (o.g<g)) ls:=xL fun o ho=>by
  simp only[bA,beq_iff_eq]at ho;simp only[bA,decide_eq_true_eq,Bool.not_eq_true',decide_eq_false_iff_not];exact⟨⟨ho.1,by omega⟩,by omega⟩
 omega
section
variable {F:Int} {z:List Lt} {a b s0:Nat} {G R:Int}
theorem Z95(h:BN F z a b s0 G R)(g:Int):FG z g=FG (N4 z a b s0 G R) g+if G<g then 2 else 0:=by
 unfold FG;rw[Ti,RT h];have e:Z9 (fun l=>Am (CI G R l)&&decide ((CI G R l).g<g)) ((V3 (X1 z.length a b) s0).map (at' z))=Z9 (fun l=>Am l&&decide (l.g<g)) ((V3 (X1 z.length a b) s0).map (at' z)):=O8 fun l _=>by rw[SA,Fh]
 rw[e,O7 h.ka,O7 h.kb,h.ga,h.gb];by_cases hg:G<g
 ·simp[hg]; omega
 ·simp[hg]
theorem Z3f(h:BN F z a b s0 G R):∃ f s,Ej z (N4 z a b s0 G R) (fun j=>(V3 (X1 z.length a b) s0).getD j 0) a b f s:=by
 have hl:=pQ h;have hn:=h.len;obtain⟨d,hd⟩:∃ d,N4 z a b s0 G R=d:=⟨_,rfl⟩
 obtain⟨ι,hι⟩:∃ ι:Nat→Nat,∀ j,(V3 (X1 z.length a b) s0).getD j 0=ι j:=⟨fun j=>_,fun j=>rfl⟩
 have hat:∀ j,j<z.length - 2→at' d j=CI G R (at' z (ι j)):=fun j hj=>by rw[← hd,sE h hj,hι]
 have hkeep:∀ j,j<z.length - 2→ι j<z.length∧ι j≠a∧ι j≠b:=fun j hj=>by have:=h.keep hj; rw[hι]at this; exact this
 have hkl:=h.Mk;have hmemK:∀ j,j<z.length - 2→at' z (ι j)∈(V3 (X1 z.length a b) s0).map (at' z):=fun j hj=>mM.2 ⟨ι j,by rw[← hι]; exact h.mem hj,rfl⟩
 have hfk:=h.fk;have hfd:=h.fd;rw[hι]at hfk hfd;have CY:∀ j,j<z.length - 2→ι ((j+1) % (z.length - 2))=if (ι j+1) % z.length=a then (b+1) % z.length else (ι j+1) % z.length:=fun j hj=>by
  have:=Z9y h.len h.al h.ab h.sl j hj;rw[hι,hι]at this;exact this
 have hinj:∀ j j',j<z.length - 2→j'<z.length - 2→ι j=ι j'→j=j':=fun j j' hj hj' e=>by
  have Dy:(V3 (X1 z.length a b) s0).Nodup:=(Hj _ _).nodup_iff.2 (uR ..);rw[← hι,← hι,List.getD,List.getD,gE (by omega),gE (by omega)]at e
  exact(List.getElem_inj Dy).1 e
 have honto:∀ v,v<z.length→v≠a→v≠b → ∃ j,j<z.length - 2∧ι j=v:=fun v hv va vb=>by
  have hm:v∈V3 (X1 z.length a b) s0:=(Hj _ _).mem_iff.2 (BG.2 ⟨hv,va,vb⟩);obtain⟨j,hj,e⟩:=List.getElem_of_mem hm;refine⟨j,by omega,?_⟩
  rw[← hι,List.getD,gE hj,e];rfl
 have hokd:=zW h;rw[hd]at hokd hl;have hdl:d.length=z.length - 2:=by omega
 have hlo:=h.val.lo;obtain⟨rd,ad,cd⟩:=Bq.Ep hlo hokd;obtain⟨rz,az,_⟩:=Bq.Ep hlo h.val.ET;have hkk:∀ j,j<z.length - 2→(at' d j).k=(at' z (ι j)).k:=fun j hj=>by rw[hat j hj,FE]
 have hwd:Wv d:=uO hlo hokd (by omega) (by rw[hkk 0 (by omega)]; exact hfk)
 have hbz:Z8 z b = !Z8 z a:=by
  have:=VC h.val.IN h.al;rw[← h.ab,O7 h.ka]at this;simpa using this
 have hbn:Z8 z ((b+1) % z.length)=Z8 z a:=by
  have:=VC h.val.IN h.bl;rw[O7 h.kb,hbz]at this;simpa using this
 have hdn:∀ j,j<z.length - 2→Z8 d j=Z8 z (ι j):=fun j=>by
  induction j with
  | zero=>intro _; rw[hfd]; rfl
  | succ j ih=>
   intro hj;have ih:=ih (by omega)
   have h1:=ML (z:=d) j;have hp:Am (at' d j)=Am (at' z (ι j)):=by rw[hat j (by omega),SA]
   rw[hp,ih]at h1;have h2:=VC h.val.IN (hkeep j (by omega)).1
   have h3:=CY j (by omega)
   rw[Nat.mod_eq_of_lt (show j+1<z.length - 2 by omega)]at h3
   have h4:Z8 z (ι (j+1))=Z8 z ((ι j+1) % z.length):=by
    rw[h3];split
    ·rename_i e;rw[hbn,e]
    ·rfl
   rw[h1,h4,h2];have e:(j<d.length∧Am (at' z (ι j))=true)↔Am (at' z (ι j))=true:=⟨fun h=>h.2,fun h=>⟨by omega,h⟩⟩
   simp only[e]
 obtain⟨rR1,rR2,_,_⟩:=vS h;obtain⟨f,s,GW,hfr,hsr⟩:∃ f s,((f=a∧s=b)∨(f=b∧s=a))∧(at' z f).r=R - 1∧(at' z s).r=R:=by
  rcases h.rk with⟨r1,r2⟩|⟨r1,r2⟩
  ·exact⟨b,a,.inr ⟨rfl,rfl⟩,r2,r1⟩
  ·exact⟨a,b,.inl ⟨rfl,rfl⟩,r1,r2⟩
 have hfz:f<z.length∧(at' z f).k=1∧(at' z f).g=G∧s<z.length∧(at' z s).k=1∧(at' z s).g=G:=by
  rcases GW with⟨rfl,rfl⟩|⟨rfl,rfl⟩
  ·exact⟨h.al,h.ka,h.ga,h.bl,h.kb,h.gb⟩
  ·exact⟨h.bl,h.kb,h.gb,h.al,h.ka,h.ga⟩
 obtain⟨f1,f2,f3,s1,s2,s3⟩:=hfz;obtain⟨q,hq⟩:∃ q,FG z G+(R - 2).toNat=q:=⟨_,rfl⟩
 have pf:pos z (at' z f)=q:=by
  rw[Wc,f3,hfr,← hq]
  congr 2
  omega
 have ps:pos z (at' z s)=q+1:=by
  rw[Wc,s3,hsr,← hq];omega
 have af:=Rv az rz f1 (O7 f2);have asz':=Rv az rz s1 (O7 s2);rw[pf]at af;rw[ps]at asz';have hpz:Z0 z=Z0 d+2:=by rw[← hd]; exact rU h
 have haz:(Z2 z).length=Z0 d+2:=by rw[O5,hpz]
 have hq2:q+1<(Z2 z).length:=(gS.1 asz').1;have hsplit:Z2 z=(Z2 z).take q++f :: s :: (Z2 z).drop (q+2):=by
  have e1:(Z2 z).drop q=f :: (Z2 z).drop (q+1):=by
   rw[List.drop_eq_getElem_cons (by omega)]
   congr 1
   rw[gE (by omega)]at af
   exact Option.some.inj af
  have e2:(Z2 z).drop (q+1)=s :: (Z2 z).drop (q+2):=by
   rw[List.drop_eq_getElem_cons hq2]
   congr 1
   rw[gE hq2]at asz';exact Option.some.inj asz'
  rw[← e2,← e1,List.take_append_drop]
 have hpsi:∀ j,j<z.length - 2→(at' d j).k=1→pos z (at' z (ι j))=Q0 q (pos d (at' d j)):=fun j hj hk=>by
  have hkz:(at' z (ι j)).k=1:=by rw[← hkk j hj]; exact hk
  obtain⟨m1,_,m3⟩:=XV h (hmemK j hj) hkz;obtain⟨_,_,_,a4,a5,a6,a7,_⟩:=(A5 hkz).1 (h.val.ET _ m1);have ht:=Z95 h (at' z (ι j)).g;rw[hd]at ht;rw[Wc,Wc,hat j hj,Fh];have hr2:=Ja G R (at' z (ι j));generalize (CI G R (at' z (ι j))).r=r' at *;unfold Q0;by_cases hg:(at' z (ι j)).g=G
  ·obtain⟨n1,n2⟩:=m3 hg;rw[hg]at ht a7 ⊢;rw[iN (show ¬G<G by omega)]at ht
   by_cases hr:R<(at' z (ι j)).r
   ·rw[iP ⟨hkz,hg,hr⟩]at hr2;split<;>omega
   ·rw[iN fun e=>hr e.2.2]at hr2
    split<;>omega
  ·rw[iN fun e=>hg e.2.1]at hr2
   by_cases hlt:(at' z (ι j)).g<G
   ·have:=mA (ls:=z) hlt;rw[iN (by omega)]at ht
    split<;>omega
   ·have hgt:G<(at' z (ι j)).g:=by omega
    have:=mA (ls:=z) hgt;rw[iP hgt]at ht;split<;>omega
 refine⟨f,s,?_⟩;rw[hd];have hι':(fun j=>(V3 (X1 z.length a b) s0).getD j 0)=ι:=funext hι
 rw[hι'];refine⟨by omega,by omega,h.al,h.bl,h.ab,h.ka,h.kb,hbz,GW,fun j hj=>hkeep j (by omega),fun j j' hj hj'=>hinj j j' (by omega) (by omega),fun v hv va vb=>?_,fun j hj=>?_,fun j hj=>hkk j (by omega),fun j hj hk=>?_,fun j hj hk=>?_,fun j hj hk=>hdn j (by omega),(Z2 z).take q,(Z2 z).drop (q+2),hsplit,?_⟩
 ·obtain⟨j,j1,j2⟩:=honto v hv va vb;exact⟨j,by omega,j2⟩
 ·rw[hdl];exact CY j (by omega)
 ·unfold GA;rw[hat j (by omega),Va,Vb]
 ·obtain⟨_,_,j',_,_,_,j1,j2,j3,j4,j5,j6,j7,j8⟩:=MJ cd hj (by simp[Bg,hk])
  have e:DS d j=j':=j8;rw[e];have hkz:(at' z (ι j)).k=2:=by rw[← hkk j (by omega)]; exact hk
  have hkz':(at' z (ι j')).k=2:=by
   rw[← hkk j' (by omega)]
   simpa[Bg]using j3
  have hid:(at' z (ι j')).i=(at' z (ι j)).i:=by
   rw[hat j' (by omega),hat j (by omega),QY,QY]at j4
   exact j4
  rcases h.val.uniq (hkeep j (by omega)).1 hkz (hkeep j' (by omega)).1 hkz' hid with e2|e2
  ·exact absurd (hinj _ _ (by omega) (by omega) e2) j2
  ·exact e2
 ·apply List.ext_getElem?;intro p;have hAl:((Z2 z).take q).length=q:=by rw[lK]; omega
  by_cases hp:p<Z0 d
  ·have hal:=O5 d;have hg:(Z2 d)[p]? = some ((Z2 d).getD p 0):=by rw[List.getD,gE (by omega)]; rfl
   have hmem:=List.mem_of_getElem? hg;obtain⟨k1,k2⟩:=AB.1 hmem;have hk1:(at' d ((Z2 d).getD p 0)).k=1:=by simpa[Am]using k2
   have hpp:pos d (at' d ((Z2 d).getD p 0))=p:=KT (Hq d) (Rv ad rd k1 k2) hg;have h1:=hpsi _ (by omega) hk1
   rw[hpp]at h1;have hkz:(at' z (ι ((Z2 d).getD p 0))).k=1:=by rw[← hkk _ (by omega)]; exact hk1
   have h2:=Rv az rz (hkeep _ (by omega:(Z2 d).getD p 0<z.length - 2)).1 (O7 hkz)
   rw[h1]at h2;rw[gM,hg];have h3:=zD (A:=(Z2 z).take q) (B:=(Z2 z).drop (q+2)) (f:=f) (s:=s) (p:=p) (by rw[hAl,List.length_drop]; omega)
   rw[← hsplit,hAl,h2]at h3;rw[← h3];rfl
  ·rw[List.getElem?_eq_none (by rw[lM,O5]; omega),List.getElem?_eq_none (by rw[lA,hAl,List.length_drop]; omega)]
theorem Z47(h:BN F z a b s0 G R):Bq F (N4 z a b s0 G R):=by
 obtain⟨f,s,hc⟩:=Z3f h;have hl:=pQ h;have hn:=h.len;have hlo:=h.val.lo;have hok:=zW h;have hp:=rU h;have hv:X0 (N4 z a b s0 G R)=X0 z:=Vw h Bg fun l hl=>hl
 have hfst:(at' (N4 z a b s0 G R) 0).k=1:=by rw[sE h (by omega),FE]; exact h.fk
 have hwd:Wv (N4 z a b s0 G R):=uO hlo hok (by omega) hfst
 have hwz:Wv z:=h.val.wv fun e=>by rw[e]at hn; simp at hn
 obtain⟨_,hle⟩:=hc.le hwz hwd;have hge:=Z8b hwd;have hcz:=h.val.EX;have hev:=h.val.IN;refine⟨by have:=h.val.len; omega,by rw[hv]; exact h.val.vis,hlo,h.val.hi,hfst,by omega,hok,?_⟩
 rw[hcz]at hle;rw[hv]at hge ⊢;omega
end
end Go.Ac
end
