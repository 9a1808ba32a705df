/- Part 50 of the proof: Zc, Ym. -/
import Derived.Test.YtipeejpafgnjdaaGreatDoorH46
import Derived.Test.YtipeejpafgnjdaaGreatDoorH48
import Derived.Test.YtipeejpafgnjdaaGreatDoorH49
set_option linter.all false
section
namespace Go.Known
open Go.Plain
theorem Z95{f:Int}{ls:List Lt}(hlo:0≤f)(hok:∀ l,l∈ls→okR f ls l=true)(hf:(at' ls 0).k=1)(h0:ls≠[]):Wv ls:=by
 obtain⟨_,_,hc⟩:=ValR.ranks hlo hok;have hpos:0<ls.length:=List.length_pos_iff.2 h0;refine⟨?_,fun v hv hk=>(Zhd (hok _ (R9 hv))).resolve_right hk,fun v hv hk=>?_⟩
 ·rw[← O6];exact List.length_pos_of_mem (mem_axis.2 ⟨hpos,by simp[isP,hf]⟩)
 ·obtain⟨_,_,j,_,_,_,j1,j2,j3,j4,j5,j6,j7,j8⟩:=Zd9 hc hv (by simp[isX,hk])
  obtain⟨_,_,j',_,_,_,g1,g2,g3,g4,g5,g6,_,g8⟩:=Zd9 hc j1 j3;rw[j8];have hj:j'=v:=(j7 j' g1 g3 (by rw[g4,j4])).resolve_right g2
  exact⟨j1,by simpa[isX]using j3,by rw[g8,hj],j5,j6⟩
theorem Z8i{f:Int}{ls:List Lt}(hlo:0≤f)(hok:∀ l,l∈ls→okR f ls l=true){v:Nat}(hv:v<ls.length)(hk:(at' ls v).k=2):W1 ls v ls.length 0≠v∧(at' ls (W1 ls v ls.length 0)).i=(at' ls v).i:=by
 obtain⟨_,_,hc⟩:=ValR.ranks hlo hok;obtain⟨_,_,j,_,_,_,j1,j2,j3,j4,j5,j6,j7,j8⟩:=Zd9 hc hv (by simp[isX,hk])
 rw[j8];exact⟨j2,j4⟩
theorem Ydn{e:Bool}{y x:List Lt}{s:Nat}{φ:Int→Int}(hl:x.length=y.length)(hs:s<y.length)(h1:∀ p,p<y.length→at' x p=ap φ (at' y (mvt y.length e s p)))(q:Lt→Bool):Z4 q x=Z4 (fun a=>q (ap φ a)) y:=by
 have hm:∀ l:List Lt,Z4 q (l.map (ap φ))=Z4 (fun a=>q (ap φ a)) l:=fun l=>E6 q (ap φ) l
 cases e with
 | true=>
  have hx:x=(V5 s y).map (ap φ):=by
   refine Zhf (by rw[List.length_map,B1,hl]) fun q hq=>?_
   rw[hl]at hq;rw[h1 q hq,atm (by rw[B1]; exact hq),Zf5 hs hq]
  rw[hx,hm,Zfq]
 | false=>
  have hx:x=(V5 (y.length - 1 - s) y.reverse).map (ap φ):=by
   refine Zhf (by rw[List.length_map,B1,List.length_reverse,hl]) fun q hq=>?_
   rw[hl]at hq;have hs':y.length - 1 - s<y.reverse.length:=by rw[List.length_reverse]; omega
   have hq':q<y.reverse.length:=by rw[List.length_reverse]; exact hq
   have e1:y.length - 1 - mvt y.length true (y.length - 1 - s) q=mvt y.length false s q:=by
    unfold mvt;simp only[bF,if_false,if_true];split<;>split<;>omega
   rw[h1 q hq,atm (by rw[B1]; exact hq'),Zf5 hs' hq',List.length_reverse,Zgr (O1 (by omega) hq),e1]
  have hr:∀ p:Lt→Bool,Z4 p y.reverse=Z4 p y:=fun p=>by unfold Z4; rw[List.filter_reverse,List.length_reverse]
  rw[hx,hm,Zfq,hr]
theorem Yd3{n s v:Nat}{e:Bool}(hs:s<n)(hv:v<n):mvt n e s ((v+n - 1) % n)=if e then (mvt n e s v+n - 1) % n else (mvt n e s v+1) % n:=by
 have:=O1 (e:=e) hs hv;rw[Zkp hv,Zkp this,Zhl this];unfold mvt;cases e<;>simp only[bF,if_false,if_true]<;>(repeat' split)<;>omega
theorem Z8v{n s v:Nat}{e:Bool}(hs:s<n)(hv:v<n):mvt n e s ((v+1) % n)=if e then (mvt n e s v+1) % n else (mvt n e s v+n - 1) % n:=by
 have:=O1 (e:=e) hs hv;rw[Zhl hv,Zkp this,Zhl this];unfold mvt;cases e<;>simp only[bF,if_false,if_true]<;>(repeat' split)<;>omega
def NmOk(x:List Lt):Prop:=∀ a,a∈x→a.k=2→1≤a.i∧a.i≤(Y7 x / 2:Nat)
section
variable {f:Int} {e:Bool} {y x:List Lt}
theorem Zi5(h:De e y x):Y7 x=Y7 y:=Zma (fun φ l=>by unfold isX; rw[ap_k]) h
theorem Zv6(h:De e y x):Z1 x=Z1 y:=Zma (fun φ l=>Ziv φ l) h
theorem Zzt(hy:ValR f y)(h:De e y x)(hr:NmOk x):∀ l,l∈x→okR f x l=true:=by
 have hin:=Zvm h;have hvis:=Zi5 h;obtain⟨hl,s,φ,hs,hi,h1⟩:=h;have hc:=Ydn hl hs (fun p hp=>(h1 p hp).1)
 intro l hm;obtain⟨p,hp,rfl⟩:=Zfn hm;rw[hl]at hp;have hq:=O1 (e:=e) hs hp;have hma:=R9 hq;have hri:=hr _ hm;rw[(h1 p hp).1]at hri ⊢;generalize at' y (mvt y.length e s p)=a at *;have hok:=hy.okr _ hma;rcases Zhd hok with hk|hk
 ·obtain⟨c1,c2,c3,c4,c5,c6,c7,c8⟩:=(Zec hk).1 hok;rw[C2 (by omega),Zec hk]
  refine⟨c1,c2,c3,c4,c5,c6,by rw[hin]; exact c7,?_⟩
  unfold same at c8 ⊢;rw[hc,← c8];apply T0;intro o _;by_cases ho:o.k=2
  ·rw[N5 ho]
  ·rw[C2 ho]
 ·obtain⟨c1,c2,c3,c4,c5,c6,c7⟩:=(Zai hk).1 hok;rw[ap_k]at hri;have hri:=hri hk;rw[N5 hk]at hri ⊢;refine(Zai (show ({ a with i:=φ a.i }:Lt).k=2 from hk)).2 ⟨c1,c2,c3,hri.1,hri.2,?_,?_⟩
  ·unfold Zba at c6 ⊢;rw[hc,← c6];apply T0;intro o ho2;by_cases ho:o.k=2
   ·rw[N5 ho];have:(φ o.i == φ a.i)=(o.i == a.i):=by
     rw[Bool.eq_iff_iff];simp only[beq_iff_eq];exact⟨hi _ ho2 _ hma ho hk,fun e=>by rw[e]⟩
    simp only[this]
   ·rw[C2 ho];have:(o.k == a.k)=false:=by rw[hk]; simpa using ho
    simp[this]
  ·unfold M9 at c7 ⊢;rw[hc,← c7];apply T0;intro o ho2;by_cases ho:o.k=2
   ·rw[N5 ho];have:(φ o.i == φ a.i)=(o.i == a.i):=by
     rw[Bool.eq_iff_iff];simp only[beq_iff_eq];exact⟨hi _ ho2 _ hma ho hk,fun e=>by rw[e]⟩
    unfold isX;simp only[this]
   ·rw[C2 ho];have:isX o=false:=by unfold isX; simpa using ho
    simp[this]
theorem Zxv(hy:ValR f y)(h:De e y x)(hf:(at' x 0).k=1)(hr:NmOk x):∃ ρ σ φ,Cj x y e ρ σ∧InjI φ y ∧ ∀ v,v<x.length→at' x v=ap φ (at' y (ρ v)):=by
 have hok:=Zzt hy h hr;have hvis:=Zi5 h;have hpas:=Zv6 h;have hpos:∀ l,pos x l=pos y l:=fun l=>by
  unfold pos
  congr 1
  exact Zma (p:=fun o=>isP o&&decide (o.g<l.g)) (fun φ o=>by
   by_cases ho:o.k=2
   ·rw[N5 ho]; rfl
   ·rw[C2 ho]) h
 have hy0:y≠[]:=by
  obtain⟨_,s,_,hs,_⟩:=h;intro c;rw[c]at hs;exact absurd hs (Nat.not_lt_zero _)
 have hx0:x≠[]:=by
  intro c;have:=h.1;rw[c]at this;exact hy0 (List.length_eq_zero_iff.1 this.symm)
 have wx:=Z95 hy.lo hok hf hx0;obtain⟨r1,r2,_⟩:=ValR.ranks hy.lo hok;obtain⟨q1,q2,_⟩:=ValR.ranks hy.lo hy.okr;obtain⟨hl,s,φ,hs,hi,h1⟩:=h;have hrl:∀ v,v<x.length→mvt y.length e s v<y.length:=fun v hv=>O1 hs (by rw[← hl]; exact hv)
 have hk1:∀ v,v<x.length→(at' y (mvt y.length e s v)).k=(at' x v).k:=fun v hv=>by
  rw[(h1 v (by rw[← hl]; exact hv)).1,ap_k]
 refine⟨mvt y.length e s,mvt y.length e (ivt y.length e s),φ,⟨wx,hy.wv hy0,hl.symm,hpas.symm,fun v hv=>by rw[hl]; exact hrl v hv,fun v hv=>?_,fun v hv=>?_,fun v hv=>?_,fun v hv=>?_,fun v hv=>?_,hk1,fun v hv hk=>?_,fun v hv hk=>?_,fun v hv hk=>?_,fun v hv hk=>?_⟩,hi,fun v hv=>(h1 v (by rw[← hl]; exact hv)).1⟩
 ·rw[hl]at hv ⊢;exact O1 (Zfl hs) hv
 ·rw[hl]at hv;exact Zqw hs hv
 ·rw[hl]at hv;exact Zhw hs hv
 ·rw[hl]at hv ⊢;exact Yd3 hs hv
 ·rw[hl]at hv ⊢;exact Z8v hs hv
 ·obtain⟨w1,w2,_,_,_⟩:=wx.oth v hv hk;obtain⟨n1,n2⟩:=Z8i hy.lo hok hv hk;have hj:=h1 _ (by rw[← hl]; exact w1)
  have hv':=h1 v (by rw[← hl]; exact hv)
  have hkj:=hk1 _ w1;have hkv:=hk1 v hv;rw[w2]at hkj;rw[hk]at hkv;have hid:(at' y (mvt y.length e s (W1 x v x.length 0))).i=(at' y (mvt y.length e s v)).i:=by
   rw[hj.1,hv'.1,N5 hkj,N5 hkv]at n2;exact hi _ (R9 (hrl _ w1)) _ (R9 (hrl v hv)) hkj hkv n2
  rcases hy.uniq (hrl v hv) hkv (hrl _ w1) hkj hid with c|c
  ·exfalso;apply n1;have e1:=Zqw (e:=e) hs (show W1 x v x.length 0<y.length by rw[← hl]; exact w1)
   rw[c,Zqw hs (by rw[← hl]; exact hv)]at e1
   exact e1.symm
  ·rw[hl]at c ⊢;exact c.symm
 ·have hkv:=hk1 v hv;rw[hk]at hkv;unfold smN;rw[(h1 v (by rw[← hl]; exact hv)).1,N5 hkv]
 ·have:=(h1 v (by rw[← hl]; exact hv)).2 (by simp[isP,hk])
  rw[this];generalize down y (mvt y.length e s v)=b;cases e<;>cases b<;>rfl
 ·have hkv:=hk1 v hv;rw[hk]at hkv;rw[Zky q2 q1 (hrl v hv) hkv,Zky r2 r1 hv hk,hpos,(h1 v (by rw[← hl]; exact hv)).1,C2 (by omega)]
theorem ValR.de(hy:ValR f y)(h:De e y x)(hf:(at' x 0).k=1)(hr:NmOk x):ValR f x:=by
 have hok:=Zzt hy h hr;have hvis:=Zi5 h;have hpas:=Zv6 h;have hl:=h.1;obtain⟨ρ,σ,φ,hc,_,_⟩:=Zxv hy h hf hr;have hcy:=Z5j hc;have:=hy.cyc;rw[← hl,← hpas,hcy]at this;exact⟨by rw[hl]; exact hy.len,by rw[hvis]; exact hy.vis,hy.lo,hy.hi,hf,by rw[hpas]; exact hy.evn,hok,by rw[this,hvis]⟩
theorem Zoa(hy:ValR f y)(h:De e y x)(hf:(at' x 0).k=1)(hr:NmOk x):X1 4 x=X1 4 y:=by
 have hx:=hy.de h hf hr;have hvis:=Zi5 h;have hx0:x≠[]:=fun c=>by rw[c]at hf; cases hf
 have wx:=hx.wv hx0;obtain⟨ρ,σ,φ,hc,hi,ha⟩:=Zxv hy h hf hr;have hid:∀ (z:List Lt),ValR f z → ∀ a,a∈z→a.k=2→a.i≠0:=fun z hz a hm hk=>by
  have:=(Zai hk).1 (hz.okr a hm);omega
 have hld:∀ d,d<2*x.length→ldN x d=ap φ (ldN y (dl x.length e ρ d)):=fun d hd=>by
  rw[Zz6 hc hd];exact ha _ (Zah hd)
 have hmy:∀ d,d<2*x.length→ldN y (dl x.length e ρ d)∈y:=fun d hd=>by
  rw[Zz6 hc hd];exact R9 (by rw[hc.len]; exact hc.lt _ (Zah hd))
 have hkk:∀ d,d<2*x.length→(ldN y (dl x.length e ρ d)).k=(ldN x d).k:=fun d hd=>by rw[hld d hd,ap_k]
 have hS:Sim x y (dl x.length e ρ) φ false:=by
  refine⟨fun d hd=>Zyh hc hd,fun d d' hd hd'=>Z0s hc hd hd',fun d hd=>Z66 hc hd,fun d hd _=>?_,fun d hd hk=>?_,hkk,fun d hd hk=>?_,fun d hd hk=>?_,fun d hd hk=>hid x hx _ (Znk hd) hk,fun d hd hk=>hid y hy _ (hmy d hd) (by rw[hkk d hd]; exact hk),fun d d' hd hd' hk hk' e=>hi _ (hmy d hd) _ (hmy d' hd') (by rw[hkk d hd]; exact hk) (by rw[hkk d' hd']; exact hk') e⟩
  ·exact Zw8 hc (by omega)
  ·have:=Zje wx hd hk;exact⟨this.1,this.2.2⟩
  ·have h2:=hkk d hd;rw[hk]at h2;rw[hld d hd,N5 h2]
  ·have h2:=hkk d hd;rw[hk]at h2;rw[hld d hd,N5 h2];simp
 have hR:=Zvk hS 4 (fun d hd=>(Zoy x wx.kin).lt d hd) (Z1t hc) hvis.symm
 rw[hR];have hfl:∀ r:Rw,flR false r=r:=fun r=>by
  unfold flR;split
  ·rw[Bool.bne_false]
  ·rfl
 conv=>lhs; rw[← List.map_id (X1 4 x)]
 exact List.map_congr_left fun r _=>(hfl r).symm
end
end Go.Known
end
section
namespace Go.Known
open Go Go.AE Go.Proofs
open Go.Plain
attribute [local simp] Zop Zod Zor Zoi Zrv Zqt preN preC Zn5 Zok Ybk Yd9 Ycs Z0j Z2o Z58 Z2f Z1b Ydv Z33 Z8h Yaz Yd7 Ybr Z7u
def rwR(r:Rw):List AVal:=[.int .i64 (r.1:Nat),.int .i64 (r.2.1:Nat),.int .i64 (r.2.2.1:Nat),.bool r.2.2.2]
def dnE(done:List Int):List (Int×Bool):=done.map fun i=>(i,true)
theorem B3:∀ (l:List Rw),X8 (l.map rwR)=true
 | []=>rfl
 | r :: l=>by
  have:=B3 l;simp only[List.map_cons,X8,rwR,Y0,AVal.closed,Bool.and_true,Bool.true_and]at this ⊢;exact this
def itN(ls:List Lt)(x:Nat):Nat→Nat
 | 0=>x
 | t+1=>U5 ls (itN ls x t)
theorem Zuk(ls:List Lt)(x:Nat):∀ t,itN ls (U5 ls x) t=itN ls x (t+1)
 | 0=>rfl
 | t+1=>by simp only[itN,Zuk ls x t]
theorem Zuy(ls:List Lt):∀ t x,U7 ls x (t+1)=U7 ls x t++[tnN ls (itN ls x t)]
 | 0,x=>rfl
 | t+1,x=>by
  have:=Zuy ls t (bkN (tnN ls x));rw[U7,this,U7];have e:itN ls (bkN (tnN ls x)) t=itN ls x (t+1):=Zuk ls x t;rw[e];rfl
theorem Zvj{ls:List Lt}(hw:Wv ls){x:Nat}(hx:x<2*ls.length)(hk:(ldN ls x).k=2):∀ t,itN ls x t<2*ls.length∧(ldN ls (itN ls x t)).k=2
 | 0=>⟨hx,hk⟩
 | t+1=>by
  obtain⟨h1,h2⟩:=Zvj hw hx hk t;exact(Zje hw h1 h2).2
theorem Z4k(ls:List Lt)(done:List Int)(front:List Nat){i:Nat}(hi:i<front.length):S2 4 ls done front i≤4∧i+S2 4 ls done front i≤front.length:=by
 unfold S2;split
 ·omega
 ·have:=Z70 ls (crN ls done (front.getD i 0)) front _ (i+1) rfl;omega
def atV(b:Nat×Nat):Int:=if b.2=0 then -1 else b.1
theorem Zn4(id:Int):∀ done:List Int,(id∉done→C4 id (dnE done)=none)∧(id∈done → ∃ p,C4 id (dnE done)=some (p,true))
 | []=>⟨fun _=>rfl,fun h=>by simp at h⟩
 | d :: r=>by
  obtain⟨h1,h2⟩:=Zn4 id r;have e:dnE (d :: r)=(d,true) :: dnE r:=rfl;rw[e];simp only[C4];by_cases he:id=d
  ·rw[if_pos he];exact⟨fun h=>absurd (by rw[he]; exact List.mem_cons_self ..) h,fun _=>⟨0,rfl⟩⟩
  ·rw[if_neg he];refine⟨fun h=>?_,fun h=>?_⟩
   ·rw[h1 (fun hm=>h (List.mem_cons_of_mem _ hm))]
   ·obtain⟨p,hp⟩:=h2 ((List.mem_cons.1 h).resolve_left he);exact⟨p+1,by rw[hp]⟩
set_option maxRecDepth 100000 in
set_option maxHeartbeats 16000000 in
theorem Z6t(e:Env)(he:e.get 3=.ptr 3 0 0)(f:Int)(ls:List Lt)(hv:ValR f ls)(h0:ls≠[]) :
 CtrY Tryz.prog ⟨15,19,[13],e,ap28.asn,ap28.bd,[152,156]⟩ 150 [.yld 15,.ptr 14 0 0]
  ⟨[(14,.cells 1 [[.ptr 11 0 0]]),(11,wvB ls (T8 ls ls.length) (.sl 12 0 (T2 ls).length)),(12,.cells 1 (Z0 (T2 ls))),(3,.cells 1 [[.nilSl]]),(1,.cells 2 [[.int .i64 f,.imm (ls.map rowL)]])],16⟩
  fun _ m=>m=⟨(3,.cells 1 [[slV 19 ((X1 4 ls).map rwR)]]) :: blV 19 4 ((X1 4 ls).map rwR) [],20⟩:=by
 refine Z88 hm Tryz.func150 cf96 rfl rfl fun K hK=>?_
 have hw:=hv.wv h0;have h:ls.length≤400:=hv.len;have hll:(ls.map rowL).length=ls.length:=List.length_map ..;have hrr:∀ q,Z3 q (ls.map rowL)=ls.map rowL:=fun q=>Y6 q _ (Z9 ls)
 have hrO:∀ q,Z3 q (Z0 (T8 ls ls.length))=Z0 (T8 ls ls.length):=fun q=>Z5 q _
 have hend0:=fun k d hd=>cEnd ls (T8 ls ls.length) k d (by omega) hd
 have hO2:∀ v,v<ls.length→(at' ls v).k=2→(T8 ls ls.length)[v]? = some (otN ls v):=fun v h1 h2=>Zyf hw (fun v x a b c d e=>hv.uniq a b c d e) (fun v a b=>hv.same_i a b) ls.length (Nat.le_refl _) v h1 h2 (hw.oth v h1 h2).1
 have hrun0:=fun front j hj hfl hlt=>cRun ls (T8 ls ls.length) front j (by omega) hw hO2 hj hfl hlt
 have hleft0:=fun k d hd hk=>Zzv ls (T8 ls ls.length) k d (by omega) hw hO2 hd hk
 have hrow:=fun i hi=>C6 ls (i:=i) hi
 unfold wvB at *;clear hO2;generalize ls.map rowL=rows at *;generalize Z0 (T8 ls ls.length)=OO at *;unfold rowL at hrow;have hrn:∀ q (l:List Nat),Z3 q (Z0 l)=Z0 l:=fun q l=>Z5 q l
 have hrM:∀ q (E:List (Int×Bool)),F6 q (mkG .bool 0 E)=mkG .bool 0 E:=fun q E=>Zp3 q (fun _=>rfl) 0 E
 have hrW:∀ q (l:List Rw),Z3 q (l.map rwR)=l.map rwR:=fun q l=>Y6 q _ (B3 l)
 have hF0:=Zoy ls hw.kin;have hmu0:muN ls (T2 ls) []≤1600:=by
  unfold muN T2;have h1:Z4 (fun l=>isX l && !([]:List Int).contains l.i) ls≤ls.length:=E5
  have h2:Z1 ls≤ls.length:=E5;rw[List.length_map,O6];omega
 have hK':∀ m',SMem.next m'≥16→K (.tuple []) m'→True:=fun _ _ _=>trivial
 clear hK';simp;refine Zk2 (α:=List Nat×List Int×List Rw×Nat) (fun a=>[(0,.yld 15),(1,.ptr 14 0 0),(3,.map 18)])
  (fun a=>⟨(14,.cells 1 [[.ptr 11 0 0]]) :: (11,.cells 3 [[.imm rows,.imm OO,.sl 17 0 a.1.length]]) :: (17,.cells 1 (Z0 a.1)) :: (18,.map (mkG .bool 0 (dnE a.2.1)) a.2.1.length) :: (3,.cells 1 [[slV 19 (a.2.2.1.map rwR)]]) :: blV 19 4 (a.2.2.1.map rwR) [],20⟩)
  (fun a=>a.2.2.2) (fun a=>Frt ls a.1 a.2.1∧muN ls a.1 a.2.1<a.2.2.2∧a.2.2.1.length+a.2.2.2≤2000∧a.2.2.1++drF 4 ls a.2.2.2 a.1 a.2.1=X1 4 ls)
  (T2 ls,[],[],muN ls (T2 ls) []+1) [(17,12),(18,16)] (by simp[hrr,hrO,hrn,dnE,mkG,F6]) ⟨hF0,by simp,by simp; omega,rfl⟩ ?_
 rintro⟨front,done,out,k⟩ ⟨hF,hmu,hkb,hsum⟩ N hN;simp only at hF hmu hkb hsum hN ⊢;obtain⟨k,rfl⟩:∃ k',k=k'+1:=⟨k - 1,by omega⟩
 rw[drF]at hsum;have hfl:front.length≤2000:=by
  have:front.length≤muN ls front done:=Nat.le_add_right _ _;omega
 by_cases hne:front=[]
 ·rw[if_pos hne,List.append_nil]at hsum;subst hsum;subst hne;simp;exact Y1 (hK (.tuple []) _ rfl) [] (by simp +contextual [hrW])
 ·rw[if_neg hne]at hsum;have hpos:0<front.length:=List.length_pos_iff.2 hne;have hpos':(0:Int)<(front.length:Int):=by omega
  have hnl:(Z0 front).length=front.length:=M0 front;have hgn:=fun j (hj:j<front.length)=>Zm2 hj
  have hmem:=fun j (hj:j<front.length)=>hF.lt _ (Zip hj)
  have hrF:=fun q=>hrn q front
  have hrD:=fun q=>hrM q (dnE done)
  have hrX:=fun q=>hrW q out
  simp[hpos,hpos',hne];refine Zk2 (α:=Nat) (fun i=>[(4,.int .i64 i),(0,.yld 15),(1,.ptr 14 0 0),(3,.map 18)])
   (fun _=>⟨(14,.cells 1 [[.ptr 11 0 0]]) :: (11,.cells 3 [[.imm rows,.imm OO,.sl 17 0 front.length]]) :: (17,.cells 1 (Z0 front)) :: (18,.map (mkG .bool 0 (dnE done)) done.length) :: (3,.cells 1 [[slV 19 (out.map rwR)]]) :: blV 19 4 (out.map rwR) [],20⟩)
   (fun i=>front.length - i) (fun i=>i≤front.length - 1∧C9 (Zni front) (front.length - 1 - i) i=D5 front) 0 [(17,17),(18,18),(19,19)] (by simp +contextual [hrr,hrO,hrF,hrD,hrX]) ⟨by omega,rfl⟩ ?_
  rintro i ⟨hi,hfst⟩ N2 hN2
  try simp only at hi hfst hN2 ⊢
  have hwi:IntKind.i64.wrap ((i:Int)+1)=((i+1:Nat):Int):=by rw[Z6 (by omega) (by omega)]; omega
  obtain⟨i1,hi1⟩:∃ i1,i+1=i1:=⟨_,rfl⟩
  rw[hi1]at hwi;by_cases hlt:i1<front.length
  ·have hil:i<front.length:=by omega
   have hlt':(i1:Int)<(front.length:Int):=by omega
   have hg:=hgn i hil;obtain⟨_,hg2⟩:=Y9 hg;have hh:=hgn i1 hlt;obtain⟨_,hh2⟩:=Y9 hh;have hm1:=hmem i1 hlt;have hrev:=Zrt (front.getD i1 0) (by omega)
   obtain⟨k2,hk2⟩:∃ k2,front.length - 1 - i=k2+1:=⟨front.length - 1 - i - 1,by omega⟩
   rw[hk2]at hfst;have hcap:Zni front i=decide (front.getD i 0=bkN (front.getD (i+1) 0)):=rfl;rw[hi1]at hcap;generalize front.getD i 0=a at *;generalize front.getD i1 0=b at *;simp[hwi,hlt',hlt,hnl,hg,hg2,hh,hh2,hil];refine B8 hrev ?_;by_cases hc:a=bkN b
   ·rw[decide_eq_true hc]at hcap;rw[Z2i hcap]at hfst;have hcl:D5 front<front.length - 1:=by rw[← hfst]; omega
    have hst:D1 4 ls front done=some ((1,i,0,false),front.take i++front.drop (i+2),done):=by
     unfold D1;rw[if_pos hcl,← hfst]
    have hF2:=hF.step hw (fun v h1 h2=>hv.same_i h1 h2) hne hst
    have hmu2:=Zsv hF.lt hne hst;have hw2:IntKind.i64.wrap ((i:Int)+2)=((i+2:Nat):Int):=by rw[Z6 (by omega) (by omega)]; omega
    have hdel:=Z0f (Z0 front) i (by rw[hnl]; omega) (by rw[hnl]; omega) (G0 _)
    have hn2:(Z0 front).take i++(Z0 front).drop (i+2)=Z0 (front.take i++front.drop (i+2)):=by simp[Z0]
    rw[hnl,hn2]at hdel;rw[hst]at hsum;simp only at hsum;have hl2:(front.take i++front.drop (i+2)).length=front.length - 2:=by simp; omega
    have hN':=hN (front.take i++front.drop (i+2),done,out++[(1,i,0,false)],k);simp only[hl2]at hN';have hrF2:=fun q=>hrn q (front.take i++front.drop (i+2))
    generalize front.take i++front.drop (i+2)=front2 at *;generalize i+2=i2 at *;simp[hc];rw[hw2];refine Zrg hdel (by simp) [(1,17)] (by simp) (by simp[hrF]) (by simp) rfl (by decide) (by simp) (by simp) (by simp) ?_
    simp[hrF2];have hob:out.length≤1048575:=by omega
    have hro:(out++[((1,i,0,false):Rw)]).map rwR=out.map rwR++[[.int .i64 1,.int .i64 (i:Int),.int .i64 0,.bool false]]:=by rw[List.map_append]; rfl
    rw[hro]at hN';simp[YC,ap28,setE,he,hob];refine hN' [(17,17),(18,18),(19,67)] _ _ (by omega) ⟨hF2,by omega,by simp; omega,by simpa using hsum⟩ ?_
    simp +contextual [hrr,hrO,hrF2,hrD,hrX]
   ·rw[decide_eq_false hc]at hcap;rw[Z67 hcap,hi1]at hfst;have hc':¬((a:Int)=(bkN b:Nat)):=by omega
    simp[hc,hc',hwi];exact hN2 i1 [(17,17),(18,18),(19,19)] _ _ (by omega) ⟨by omega,by rw[show front.length - 1 - i1=k2 by omega]; exact hfst⟩ (by simp +contextual [hrr,hrO,hrF,hrD,hrX])
  ·have hlt':¬(i1:Int)<(front.length:Int):=by omega
   simp[hwi,hlt',hlt,hnl];have hnc:¬D5 front<front.length - 1:=by
    have:front.length - 1 - i=0:=by omega
    rw[this]at hfst;simp only[C9]at hfst;omega
   clear hN2 hfst;have hend:=hend0 front.length;have hrun:=fun j hj=>hrun0 front j hj (by omega) hF.lt
   have hleft:=hleft0 front.length;obtain⟨run,hrunE⟩:∃ run,S2 4 ls done front=run:=⟨_,rfl⟩
   refine Zk2 (α:=Nat) (fun j=>[(69,.int .i64 j),(68,.int .i64 front.length),(67,.sl 17 0 front.length),(6,.int .i64 (X5 run j).2),(5,.int .i64 (atV (X5 run j))),(0,.yld 15),(1,.ptr 14 0 0),(3,.map 18)])
    (fun _=>⟨(14,.cells 1 [[.ptr 11 0 0]]) :: (11,.cells 3 [[.imm rows,.imm OO,.sl 17 0 front.length]]) :: (17,.cells 1 (Z0 front)) :: (18,.map (mkG .bool 0 (dnE done)) done.length) :: (3,.cells 1 [[slV 19 (out.map rwR)]]) :: blV 19 4 (out.map rwR) [],20⟩)
    (fun j=>front.length - j) (fun j=>j≤front.length) 0 [(17,17),(18,18),(19,19)] (by simp +contextual [hrr,hrO,hrF,hrD,hrX,X5,atV]) (by simp) ?_
   intro j hj N3 hN3
   try simp only at hj hN3 ⊢
   have hwj:IntKind.i64.wrap ((j:Int)+1)=(j:Int)+1:=Z6 (by omega) (by omega)
   by_cases hjl:j<front.length
   ·have hg:=hgn j hjl;obtain⟨_,hg2⟩:=Y9 hg;have hx:=hmem j hjl;have hex:=hend _ hx;have hhx:=Zah hx;have hrx:=hrow _ hhx;obtain⟨_,hrx2⟩:=Y9 hrx;have hrj:=hrun j hjl;have hb1:X5 run (j+1)=if (X5 run j).2<run j then (j,run j)else X5 run j:=rfl
    have hrd:run j=if crN ls done (front.getD j 0)=0 then 0 else min 4 (1+D0 ls (crN ls done (front.getD j 0)) front (j+1)):=by rw[← hrunE]; rfl
    have hcr:crN ls done (front.getD j 0)=if (ldN ls (front.getD j 0)).k=2∧(ldN ls (front.getD j 0)).i∉done then (ldN ls (front.getD j 0)).i else 0:=rfl
    have hfour:=fun id=>Z04 hw hF id j
    have hpos1:(ldN ls (front.getD j 0)).k=2→1≤(ldN ls (front.getD j 0)).i:=fun hk2=>by
     obtain⟨_,_,_,d,_⟩:=(Zai hk2).1 (hv.okr _ (Znk hx));exact d
    have hld:ldN ls (front.getD j 0)=at' ls (X3 ls.length (front.getD j 0)):=rfl;have hN':=hN3 (j+1);rw[Int.natCast_add,Int.natCast_one]at hN';rw[hld]at hcr hpos1 hrj;have hfd:=fun id=>Zn4 id done
    have hfm:=fun id=>Zm7 AVal.bool id 0 (dnE done)
    clear hN3 hrun hend;generalize front.getD j 0=x at *;generalize X3 ls.length x=v at *;generalize at' ls v=l at *;simp[hjl,hg,hg2,hnl];refine Zea hex (by simp) [(1,11),(2,17)] (by simp) (by simp[EqRB,hrr,hrO]) (by simp) (fun s=>by simp) (by simp) ?_
    by_cases hk:l.k=2
    ·by_cases hdn:l.i∈done
     ·obtain⟨p,hp⟩:=(hfd l.i).2 hdn;have hfm':=hfm l.i;rw[hp]at hfm';simp only at hfm';rw[if_neg (fun e=>e.2 hdn)]at hcr
      rw[hcr,if_pos rfl]at hrd;rw[hrd,if_neg (by omega)]at hb1
      rw[hb1]at hN';simp[hrx,hrx2,hll,hhx,hk,hfm',hwj];exact hN' [(17,17),(18,18),(19,19)] _ _ (by omega) (by omega) (by simp +contextual [hrr,hrO,hrF,hrD,hrX])
     ·have hp:=(hfd l.i).1 hdn;have hfm':=hfm l.i;rw[hp]at hfm';simp only at hfm';rw[if_pos ⟨hk,hdn⟩]at hcr;have h1:=hpos1 hk;have h4:=hfour l.i;rw[hcr,if_neg (by omega),Nat.min_eq_right (by omega)]at hrd
      have hn4:1+D0 ls l.i front (j+1)≤4:=by omega
      rw[hrd]at hb1;clear hcr hfour;generalize 1+D0 ls l.i front (j+1)=n at *;simp[hrx,hrx2,hll,hhx,hk,hfm'];refine U6 hrj [(1,11),(2,17)] (by simp) (by simp[hrr,hrO,hrF]) (by simp) ?_
      rintro _ _ ⟨rfl,rfl⟩;by_cases hlt2:(X5 run j).2<n
      ·rw[if_pos hlt2]at hb1;have hat:atV (j,n)=(j:Int):=by unfold atV; rw[if_neg (by show ¬n=0; omega)]
       rw[hb1,hat]at hN';have hlt3:((X5 run j).2:Int)<(n:Int):=by omega
       simp[hlt2,hlt3,hwj,hrr,hrO,hrF];exact hN' [(17,17),(18,18),(19,19)] _ _ (by omega) (by omega) (by simp +contextual [hrr,hrO,hrF,hrD,hrX])
      ·rw[if_neg hlt2]at hb1;rw[hb1]at hN';have hlt3:¬((X5 run j).2:Int)<(n:Int):=by omega
       simp[hlt2,hlt3,hwj,hrr,hrO,hrF];exact hN' [(17,17),(18,18),(19,19)] _ _ (by omega) (by omega) (by simp +contextual [hrr,hrO,hrF,hrD,hrX])
    ·rw[if_neg (fun e=>hk e.1)]at hcr
     rw[hcr,if_pos rfl]at hrd;rw[hrd,if_neg (by omega)]at hb1
     rw[hb1]at hN';simp[hrx,hrx2,hll,hhx,hk,hwj];exact hN' [(17,17),(18,18),(19,19)] _ _ (by omega) (by omega) (by simp +contextual [hrr,hrO,hrF,hrD,hrX])
   ·have hje:j=front.length:=by omega
    subst hje;clear hN3;rcases Zhu run front.length with⟨c1,c2,c3⟩|⟨c1,c2,c3⟩
    ·have hst:D1 4 ls front done=none:=by
      unfold D1;rw[if_neg hnc,hrunE,if_pos c1]
     rw[hst]at hsum;simp only[List.append_nil]at hsum;have hat:atV (X5 run front.length) = -1:=by unfold atV; rw[if_pos c1]
     simp[hat];rw[← hsum]at hK;exact Y1 (hK (.tuple []) _ rfl) [] (by simp +contextual [hrX])
    ·have hat:atV (X5 run front.length)=((X5 run front.length).1:Int):=by unfold atV; rw[if_neg (by omega)]
     have hst:D1 4 ls front done=some ((2,(X5 run front.length).1,(X5 run front.length).2,(ldN ls (front.getD (X5 run front.length).1 0)).o),
      front.take (X5 run front.length).1++U7 ls (front.getD (X5 run front.length).1 0) (4 - (X5 run front.length).2)++front.drop ((X5 run front.length).1+(X5 run front.length).2),
      done++[(ldN ls (front.getD (X5 run front.length).1 0)).i]):=by
      unfold D1;rw[if_neg hnc,hrunE,if_neg (by omega)]
     have hF2:=hF.step hw (fun v h1 h2=>hv.same_i h1 h2) hne hst
     have hmu2:=Zsv hF.lt hne hst;rw[hst]at hsum;simp only at hsum;have c4:S2 4 ls done front (X5 run front.length).1=(X5 run front.length).2:=by rw[hrunE]; exact c3
     obtain⟨k1,k2,k3⟩:=Zns (c:=4) (ls:=ls) (done:=done) (front:=front) (i:=(X5 run front.length).1) (by rw[c4]; exact c1)
     have hm4:=Z4k ls done front c2;rw[c4]at hm4;have hg:=hgn _ c2;obtain⟨_,hg2⟩:=Y9 hg;have hx:=hmem _ c2;have hex:=hend _ hx;have hhx:=Zah hx;have hrx:=hrow _ hhx;obtain⟨_,hrx2⟩:=Y9 hrx;have hld:ldN ls (front.getD (X5 run front.length).1 0)=at' ls (X3 ls.length (front.getD (X5 run front.length).1 0)):=rfl;have hit:=Zvj hw hx k1;rw[hld]at k1 k2 hF2 hmu2 hsum;have hfm':=Zm7 AVal.bool (at' ls (X3 ls.length (front.getD (X5 run front.length).1 0))).i 0 (dnE done);rw[(Zn4 _ done).1 k2]at hfm';simp only at hfm'
     have hsn:=Zwo AVal.bool (at' ls (X3 ls.length (front.getD (X5 run front.length).1 0))).i true (dnE done);have hdl:(dnE done).length=done.length:=by simp[dnE]
     rw[hdl]at hsn;have hde:dnE done++[((at' ls (X3 ls.length (front.getD (X5 run front.length).1 0))).i,true)]=dnE (done++[(at' ls (X3 ls.length (front.getD (X5 run front.length).1 0))).i]):=by simp[dnE]
     rw[hde]at hsn;clear hrun hend c3 c4 k3 hst hld hrunE hnc;generalize (X5 run front.length).1=a at *;generalize (X5 run front.length).2=n at *;generalize front.getD a 0=x at *;generalize X3 ls.length x=v at *;generalize at' ls v=l at *;have ha0:¬(a:Int)<0:=by omega
     simp[hat,hg,hg2,hnl,c2,ha0];refine Zea hex (by simp) [(1,11),(2,17)] (by simp) (by simp[EqRB,hrr,hrO]) (by simp) (fun s=>by simp) (by simp) ?_
     simp[hrx,hrx2,hll,hhx,hfm',hg,hg2,hnl,c2];obtain⟨n4,hn4⟩:∃ n4,4 - n=n4:=⟨_,rfl⟩
     rw[hn4]at hF2 hmu2 hsum;have hwn:IntKind.i64.wrap (4 - (n:Int))=(n4:Int):=by rw[Z6 (by omega) (by omega)]; omega
     have hdl2:(done++[l.i]).length=done.length+1:=by simp
     have hrD2:=fun q=>hrM q (dnE (done++[l.i]))
     refine Zk2 (α:=Nat) (fun t=>[(130,.int .i64 t),(129,.int .i64 n4),(13,.int .i64 (itN ls x t:Nat)),(12,slV 21 (Z0 (U7 ls x t))),(11,.ptr 20 0 0),(6,.int .i64 n),(5,.int .i64 a),(0,.yld 15),(1,.ptr 14 0 0),(3,.map 18)])
      (fun t=>⟨(18,.map (mkG .bool 0 (dnE (done++[l.i]))) (done.length+1)) :: (20,.cells 6 [[.int .i64 l.k,.int .i64 l.g,.int .i64 l.r,.int .i64 l.i,.int .i64 l.s,.bool l.o]]) :: (14,.cells 1 [[.ptr 11 0 0]]) :: (11,.cells 3 [[.imm rows,.imm OO,.sl 17 0 front.length]]) :: (17,.cells 1 (Z0 front)) :: (3,.cells 1 [[slV 19 (out.map rwR)]]) :: blV 19 4 (out.map rwR) (blV 21 1 (Z0 (U7 ls x t)) []),22⟩)
      (fun t=>n4 - t) (fun t=>t≤n4) 0 [(17,17),(18,18),(19,19),(20,38)] (by simp +contextual [hrr,hrO,hrF,hrD,hrD2,hrX,hsn,hwn,U7,itN,Z0]) (by simp) ?_
     intro t ht N4 hN4
     try simp only at ht hN4 ⊢
     have hwt:IntKind.i64.wrap ((t:Int)+1)=(t:Int)+1:=Z6 (by omega) (by omega)
     by_cases htl:t<n4
     ·obtain⟨i1x,i2x⟩:=hit t;have hlf:=hleft _ i1x i2x;have hrt:=Zje hw i1x i2x;have hbk:=Zrt (tnN ls (itN ls x t)) (by omega)
      have hN':=hN4 (t+1);have hon:=Zuy ls t x;have hns:Z0 (U7 ls x (t+1))=Z0 (U7 ls x t)++[[.int .i64 (tnN ls (itN ls x t):Nat)]]:=by rw[hon]; simp[Z0]
      have hi2:itN ls x (t+1)=bkN (tnN ls (itN ls x t)):=rfl;rw[hns,hi2,Int.natCast_add,Int.natCast_one]at hN';have hol:(Z0 (U7 ls x t)).length≤1048575:=by rw[M0,Zj7]; omega
      have hrU:=fun q=>hrn q (U7 ls x t)
      clear hN4 hleft hit;generalize itN ls x t=xt at *;generalize Z0 (U7 ls x t)=UU at *;simp[htl];refine U6 hlf [(1,11),(2,17)] (by simp) (by simp[hrr,hrO,hrF]) (by simp) ?_
      rintro _ _ ⟨rfl,rfl⟩;simp[hrr,hrO,hol];refine W3 hbk ?_;simp[hwt];refine hN' [(17,17),(18,18),(19,19),(20,20),(21,30)] _ _ (by omega) (by omega) ?_
      simp +contextual [hrr,hrO,hrF,hrD2,hrX,hrU]
     ·have hte:t=n4:=by omega
      subst hte;clear hN4 hleft hit hrow hfm' hsn hde;have hwa:IntKind.i64.wrap ((a:Int)+(n:Int))=((a+n:Nat):Int):=by rw[Z6 (by omega) (by omega)]; omega
      have hol:(U7 ls x t).length=t:=Zj7 ls t x;have hrep:=Z1r front (U7 ls x t) a (a+n) (by omega) hm4.2 (by omega) (by omega)
      have hN':=hN (front.take a++U7 ls x t++front.drop (a+n),done++[l.i],out++[(2,a,n,l.o)],k);have hrU:=fun q=>hrn q (U7 ls x t)
      have hrF2:=fun q=>hrn q (front.take a++U7 ls x t++front.drop (a+n))
      have hob:out.length≤1048575:=by omega
      have hro:(out++[((2,a,n,l.o):Rw)]).map rwR=out.map rwR++[[.int .i64 2,.int .i64 (a:Int),.int .i64 (n:Int),.bool l.o]]:=by rw[List.map_append]; rfl
      simp only at hN';rw[hro,hdl2]at hN';generalize front.take a++U7 ls x t++front.drop (a+n)=front2 at *;generalize a+n=an at *;generalize Z0 (U7 ls x t)=UU at *;by_cases hU:UU=[]
      ·subst hU;simp only[Ztn,Ztj]at hrep;simp[hwa];refine Zrg hrep (by simp) [(1,17)] (by simp) (by simp[hrF,hrU]) (by simp) rfl (by decide) (by simp) (by simp) (by simp) ?_
       simp[hrF2];simp[YC,ap28,setE,he,hob];refine hN' [(17,37),(18,18),(19,51)] _ _ (by omega) ⟨hF2,by omega,by simp; omega,by simpa using hsum⟩ ?_
       simp +contextual [hrr,hrO,hrF2,hrD2,hrX]
      ·simp only[Zet hU,Zd7 hU]at hrep;simp[hwa,Zet hU,Zd7 hU];refine Zrg hrep (by simp) [(1,17),(2,21)] (by simp) (by simp[hrF,hrU]) (by simp) rfl (by decide) (by simp) (by simp) (by simp) ?_
       simp[hrF2];simp[YC,ap28,setE,he,hob];refine hN' [(17,37),(18,18),(19,51)] _ _ (by omega) ⟨hF2,by omega,by simp; omega,by simpa using hsum⟩ ?_
       simp +contextual [hrr,hrO,hrF2,hrD2,hrX]
end Go.Known
end
