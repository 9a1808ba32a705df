/- Part 34 -/
import Derived.Test.YtilmpmlkndfbjaaGreatDoorT33
import Derived.Test.YtilmpmlkndfbjaaGreatDoorProg
import Derived.Deep.QuietTactic
import Derived.BigQuiet
import Derived.RegionTactic
import Derived.ChangeAlike
import Derived.BigRegion
import Derived.Sort.Grow
import Derived.WalkKit
set_option linter.all false
set_option maxRecDepth 100000
set_option maxHeartbeats 16000000
open Array (getElem?_push size_push)
namespace Go.Ad
open Go.Plain Go Go.AE Go.Proofs Go.Sort
theorem Yk6{f:Int}{ls:List Lt}(d:0<=f)(a:∀l,l∈ls->BQ f ls l=true)(n:(at' ls 0).k=1)(B:ls≠[]):Wv ls:=by
 obtain⟨_,_,g⟩:=AH.Cq d a;have b:0<ls.length:=by grind
 refine⟨?_,λv e c=>(WH (a _ (P4 e))).resolve_right c,λv e c=>?_⟩
 ·rw[<-Q7];exact List.length_pos_of_mem (AA.2 ⟨b,by simp[As,n]⟩)
 obtain⟨_,_,j,_,_,_,h,C,i,D,q,r,E,s⟩:=Pv g e (by simp[AO,c]);obtain⟨_,_,p,_,_,_,t,u,w,y,z,A,_,m⟩:=Pv g h i;rw[s];have o:p=v:=by grind
 exact⟨h,by simpa[AO]using i,by rw[m,o],q,r⟩
theorem Z6z{f:Int}{ls:List Lt}(a:0<=f)(b:∀l,l∈ls->BQ f ls l=true){v:Nat}(e:v<ls.length)(d:(at' ls v).k=2):V4 ls v ls.length 0≠v/\(at' ls (V4 ls v ls.length 0)).i=(at' ls v).i:=by
 obtain⟨_,_,c⟩:=AH.Cq a b;obtain⟨_,_,j,_,_,_,g,h,m,n,o,p,q,r⟩:=Pv c e (by simp[AO,d]);grind
theorem Yjd{e:Bool}{y x:List Lt}{s:Nat}{φ:Int->Int}(d:x.length=y.length)(k:s<y.length)(h:∀p,p<y.length->at' x p=ap φ (at' y (BF y.length e s p)))(q:Lt->Bool):Z4 q x=Z4 (λa=>q (ap φ a)) y:=by
 have hm:∀l:List Lt,Z4 q (l.map (ap φ))=Z4 (λa=>q (ap φ a)) l:=λl=>UK q (ap φ) l;cases e with
 |true=>
  have g:x=(U2 s y).map (ap φ):=by
   refine SB (by rw[lM,A6,d]) λq b=>?_;rw[d]at b;rw[h q b,Py (by rw[A6];exact b),Oh k b]
  rw[g,hm,MT]
 |false=>
  have g:x=(U2 (y.length-1-s) y.reverse).map (ap φ):=by
   refine SB (by rw[lM,A6,List.length_reverse,d]) λq b=>?_;rw[d]at b;have f:y.length-1-s<y.reverse.length:=by grind
   have c:q<y.reverse.length:=by grind
   have i:y.length-1-BF y.length true (y.length-1-s) q=BF y.length false s q:=by
    unfold BF;grind
   rw[h q b,Py (by rw[A6];exact c),Oh f c,List.length_reverse,Sm (I5 (by omega) b),i]
  have j:∀p:Lt->Bool,Z4 p y.reverse=Z4 p y:=λp=>by unfold Z4;grind
  rw[g,hm,MT,j]
theorem Yk3{n s v:Nat}{e:Bool}(b:s<n)(a:v<n):BF n e s ((v+n-1)%n)=if e then (BF n e s v+n-1)%n else (BF n e s v+1)%n:=by
 have:=I5 (e:=e) b a;rw[OS a,OS this,Vd this];unfold BF;grind
theorem Ykk{n s v:Nat}{e:Bool}(b:s<n)(a:v<n):BF n e s ((v+1)%n)=if e then (BF n e s v+1)%n else (BF n e s v+n-1)%n:=by
 have:=I5 (e:=e) b a;rw[Vd a,OS this,Vd this];unfold BF;grind
def GC(x:List Lt):Prop:=∀ a,a∈x→a.k=2→1≤a.i∧a.i≤(X6 x / 2:Nat)
section
variable {f:Int} {e:Bool} {y x:List Lt}
theorem nD(h:De e y x):X6 x=X6 y:=aW (λφ l=>by unfold AO;rw[ET]) h
theorem ql(h:De e y x):Z0 x=Z0 y:=aW (λφ l=>Vh φ l) h
theorem uh(H:AH f y)(h:De e y x)(G:GC x):∀l,l∈x->BQ f x l=true:=by
 have z:=uw h;obtain⟨D,s,φ,E,hi,C⟩:=h;have w:=Yjd D E (λp n=>(C p n).1);intro l hm;obtain⟨p,n,rfl⟩:=KV hm;rw[D]at n;have F:=I5 (e:=e) E n;have g:=P4 F;have b:=G _ hm;rw[(C p n).1]at b ⊢;generalize at' y (BF y.length e s p)=a at *;have m:=H.Ea _ g;rcases WH m with d|d
 ·obtain⟨t,u,v,c4,A,q,r,B⟩:=(JY d).1 m;rw[A1 (by omega),JY d];refine⟨t,u,v,c4,A,q,by rw[z];exact r,?_⟩;unfold same at B ⊢;rw[w,<-B];apply J3;intro o _;by_cases c:o.k=2
  ·rw[J2 c]
  rw[A1 c]
 obtain⟨t,u,v,c4,A,q,r⟩:=(Ik d).1 m;rw[ET]at b;have b:=b d;rw[J2 d]at b ⊢;refine(Ik (show ({ a with i:=φ a.i }:Lt).k=2 from d)).2 ⟨t,u,v,b.1,b.2,?_,?_⟩
 ·unfold JV at q ⊢;rw[w,<-q];apply J3;intro o j;by_cases c:o.k=2
  ·rw[J2 c];have:(φ o.i == φ a.i)=(o.i == a.i):=by
    rw[Bool.eq_iff_iff];simp only[beq_iff_eq];exact⟨hi _ j _ g c d,λe=>by rw[e]⟩
   simp only[this]
  rw[A1 c];grind
 unfold J8 at r ⊢;rw[w,<-r];apply J3;intro o j;by_cases c:o.k=2
 ·rw[J2 c];have:(φ o.i == φ a.i)=(o.i == a.i):=by
   rw[Bool.eq_iff_iff];simp only[beq_iff_eq];exact⟨hi _ j _ g c d,λe=>by rw[e]⟩
  unfold AO;simp only[this]
 rw[A1 c];have:AO o=false:=by unfold AO;simpa using c
 simp[this]
theorem lS(t:AH f y)(h:De e y x)(H:(at' x 0).k=1)(J:GC x):∃ρ σ φ,Cj x y e ρ σ/\GB φ y /\ ∀v,v<x.length->at' x v=ap φ (at' y (ρ v)):=by
 have w:=uh t h J;have z:=ql h;have A:∀l,pos x l=pos y l:=λl=>by
  unfold pos
  congr 1
  exact aW (p:=λo=>As o&&decide (o.g<l.g)) (λφ o=>by
   by_cases F:o.k=2
   ·rw[J2 F];rfl
   rw[A1 F]) h
 have D:y≠[]:=by
  obtain⟨_,s,_,r,_⟩:=h;grind
 have C:x≠[]:=by
  intro c;have:=h.1;grind
 have wx:=Yk6 t.lo w H C;obtain⟨M,N,_⟩:=AH.Cq t.lo w;obtain⟨K,L,_⟩:=AH.Cq t.lo t.Ea;obtain⟨d,s,φ,r,hi,u⟩:=h;have j:∀v,v<x.length->BF y.length e s v<y.length:=λv a=>I5 r (by rw[<-d];exact a);have m:∀v,v<x.length->(at' y (BF y.length e s v)).k=(at' x v).k:=λv a=>by
  rw[(u v (by rw[<-d];exact a)).1,ET]
 refine⟨BF y.length e s,BF y.length e (OD y.length e s),φ,⟨wx,t.wv D,d.symm,z.symm,λv a=>by rw[d];exact j v a,λv a=>?_,λv a=>?_,λv a=>?_,λv a=>?_,λv a=>?_,m,λv a n=>?_,λv a n=>?_,λv a n=>?_,λv a n=>?_⟩,hi,λv a=>(u v (by rw[<-d];exact a)).1⟩
 ·rw[d]at a ⊢;exact I5 (Qo r) a
 ·rw[d]at a;exact oD r a
 ·rw[d]at a;exact Xh r a
 ·rw[d]at a ⊢;exact Yk3 r a
 ·rw[d]at a ⊢;exact Ykk r a
 ·obtain⟨w1,w2,_,_,_⟩:=wx.Cp v a n;obtain⟨n1,n2⟩:=Z6z t.lo w a n;have I:=u _ (by rw[<-d];exact w1);have G:=u v (by rw[<-d];exact a);have q:=m _ w1;have b:=m v a;rw[w2]at q;rw[n]at b;have B:(at' y (BF y.length e s (V4 x v x.length 0))).i=(at' y (BF y.length e s v)).i:=by
   rw[I.1,G.1,J2 q,J2 b]at n2;exact hi _ (P4 (j _ w1)) _ (P4 (j v a)) q b n2
  rcases t.uniq (j v a) b (j _ w1) q B with c|c
  ·exfalso;apply n1;have E:=oD (e:=e) r (show V4 x v x.length 0<y.length by rw[<-d];exact w1);rw[c,oD r (by rw[<-d];exact a)]at E;exact E.symm
  grind
 ·have b:=m v a;rw[n]at b;unfold Cw;rw[(u v (by rw[<-d];exact a)).1,J2 b]
 ·have:=(u v (by rw[<-d];exact a)).2 (by simp[As,n]);grind
 have b:=m v a;rw[n]at b;rw[Lp L K (j v a) b,Lp N M a n,A,(u v (by rw[<-d];exact a)).1,A1 (by omega)]
theorem AH.de(c:AH f y)(h:De e y x)(i:(at' x 0).k=1)(l:GC x):AH f x:=by
 have g:=uh c h l;have b:=nD h;have a:=ql h;have j:=h.1;obtain⟨ρ,σ,φ,m,_,_⟩:=lS c h i l;have d:=Z81 m;have:=c.Gu;rw[<-j,<-a,d]at this;exact⟨by rw[j];exact c.len,by rw[b];exact c.vis,c.lo,c.hi,i,by rw[a];exact c.Jk,g,by rw[this,b]⟩
theorem Zxi(w:AH f y)(h:De e y x)(t:(at' x 0).k=1)(B:GC x):X3 4 x=X3 4 y:=by
 have C:=w.de h t B;have s:=nD h;have v:x≠[]:=λc=>by rw[c]at t;cases t
 have wx:=C.wv v;obtain⟨ρ,σ,φ,l,hi,F⟩:=lS w h t B;have q:∀(z:List Lt),AH f z -> ∀a,a∈z->a.k=2->a.i≠0:=λz H a hm g=>by
  have:=(Ik g).1 (H.Ea a hm);omega
 have n:∀d,d<2*x.length->Ay x d=ap φ (Ay y (dl x.length e ρ d)):=λd b=>by
  rw[xu l b];exact F _ (Lg b)
 have o:∀d,d<2*x.length->Ay y (dl x.length e ρ d)∈y:=λd b=>by
  rw[xu l b];exact P4 (by rw[l.len];exact l.lt _ (Lg b))
 have j:∀d,d<2*x.length->(Ay y (dl x.length e ρ d)).k=(Ay x d).k:=λd b=>by rw[n d b,ET]
 have E:ZJ x y (dl x.length e ρ) φ false:=by
  refine⟨λd b=>zB l b,λd A b m=>Yjt l b m,λd b=>Yh1 l b,λd b _=>?_,λd b g=>?_,j,λd b g=>?_,λd b g=>?_,λd b g=>q x C _ (eA b) g,λd b g=>q y w _ (o d b) (by rw[j d b];exact g),λd A b m g G e=>hi _ (o d b) _ (o A m) (by rw[j d b];exact g) (by grind) e⟩
  ·exact Zwp l (by omega)
  ·have:=UN wx b g;exact⟨this.1,this.2.2⟩
  ·have p:=j d b;rw[g]at p;rw[n d b,J2 p]
  have p:=j d b;rw[g]at p;rw[n d b,J2 p];simp
 have D:=Ydf E 4 (λd b=>(WM x wx.Cs).lt d b) (Ygy l) s.symm;rw[D];have u:∀r:Rw,Zp false r=r:=λr=>by
  unfold Zp;simp
 conv=>lhs;rw[<-List.map_id (X3 4 x)]
 exact List.map_congr_left λr _=>(u r).symm
end
def ug(x:Fg):Prop:=1≤x.p∧x.p≤9∧0≤x.d∧x.d≤6
instance (x:Fg):Decidable (ug x):=by unfold ug; infer_instance
def ZG(nl mx l h:Option Nat):Option (Aa×List (Nat×Option Af)):=match nl,mx,l,h with
 | some n,some mx,some l,some h=>if l≤h∧h≤mx∧mx≤n then (if mx=0 then some (.emp,[])else some (.bot,[]))else none
 | _,_,_,_=>none
@[simp] theorem Ymv(n a l h:Nat):ZG (some n) (some a) (some l) (some h)=if l <= h /\ h <= a /\ a <= n then (if a=0 then some (.emp, []) else some (.bot, [])) else none:=rfl
@[simp] theorem Ynj(id:Nat)(f:Ah -> Aa)(get:Nat -> Option Af)(k:Nat)(x l h z:Ah):Ak id f get (.Er k x (some l) (some h) (some z))=ZG (S7 (f x)) (S6 (f z)) (S6 (f l)) (S6 (f h)):=by
 simp only[Ak,JF,ZG];cases S7 (f x)<;>cases S6 (f z)<;>cases S6 (f l)<;>cases a:S6 (f h)<;>simp[a]
@[simp] theorem Yme(id:Nat)(f:Ah -> Aa)(get:Nat -> Option Af)(k:Nat)(zero:List Aa)(x:Ah):Ak id f get (.clear k zero x)=match f x with
  |.sl b off len=>match get b with
   |some (.cells a els)=>if a=k/\off+len<=els.length then
    some (Ai,[(b,some (.cells k (els.take off++List.replicate len zero++els.drop (off+len))))])
    else none
   |_=>none
  |.Aj=>some (Ai,[])
  |.emp=>some (Ai,[])
  |_=>none:=rfl
@[simp] theorem Ymi(id:Nat)(f:Ah -> Aa)(get:Nat -> Option Af)(a:Bool)(x y:Ah):Ak id f get (.Da a [x, y])=match Nk a (f x) [f y] with
   |some v=>some (v,[])
   |none=>none:=rfl
@[simp] theorem wW(c:Bool)(k d:IntKind)(a b:Int):Nk c (.int k a) [.int d b]=some (.int k (if c then (if b > a then b else a) else (if b < a then b else a))):=rfl
def Bz(p:Nat×Nat):List Aa:=[.int .i64 p.1,.int .i64 p.2]
section
variable {ls:List Lt} {f:Int} {n:Nat}
theorem yc:∀(ps:List (Nat×Nat)),W3 (ps.map Bz)=true
 |[]=>rfl
 |p::r=>by
  have:=yc r;simp only[List.map_cons,W3,Bz,Y7,Aa.closed,Bool.and_true,Bool.true_and]at this ⊢;exact this
end
theorem Yca{P:Program}{c:Code}{Q:Exit->Act->World->Prop}{a:Act}{w w2:World}(h:Code.wp P c Q a w2)(e:w2=w):Code.wp P c Q a w:=e ▸ h
theorem Yd0{W c:World}(a b:Obj)(h:∃os,c=Sort.grow W os):∃q os,((c.alloc a).alloc b).drew=Sort.grow (W.drewN q) os:=by
 obtain⟨os,rfl⟩:=h;exact⟨1,os ++ #[a] ++ #[b],by rw[alloc_eq_grow,alloc_eq_grow,grow_grow,grow_grow];rfl⟩
theorem Ybn(x1 x2 j H:Nat)(l E m F:Int)(x0 x3 Y y0 y3 y4:Int)(Z y5:Bool)(B o a g n cap:Nat)(W:World)(M:B<W.heap.size)(d:a<W.heap.size)
 (N:W.cell? ⟨B,o+1,none⟩=some (.slice (some ⟨a,g,none⟩) n cap)) (hx:x1<n) (hy:j<n)
 (p:W.cell? ⟨a,g+x1*6,none⟩=some (.int .i64 x0)) (r:W.cell? ⟨a,g+x1*6+1,none⟩=some (.int .i64 l)) (s:W.cell? ⟨a,g+x1*6+2,none⟩=some (.int .i64 E))
 (u:W.cell? ⟨a,g+x1*6+3,none⟩=some (.int .i64 x3)) (w:W.cell? ⟨a,g+x1*6+4,none⟩=some (.int .i64 Y)) (y:W.cell? ⟨a,g+x1*6+5,none⟩=some (.bool Z))
 (z:W.cell? ⟨a,g+j*6,none⟩=some (.int .i64 y0)) (I:W.cell? ⟨a,g+j*6+1,none⟩=some (.int .i64 m)) (J:W.cell? ⟨a,g+j*6+2,none⟩=some (.int .i64 F))
 (L:W.cell? ⟨a,g+j*6+3,none⟩=some (.int .i64 y3)) (A:W.cell? ⟨a,g+j*6+4,none⟩=some (.int .i64 y4)) (K:W.cell? ⟨a,g+j*6+5,none⟩=some (.bool y5))
 (gK:IntKind.i64.wrap (l-m)=l-m) (U:IntKind.i64.wrap (E-F)=E-F) :
 Calls Tryz.prog 102 #[.agg #[.int .i64 x1,.int .i64 x2],.agg #[.int .i64 j,.int .i64 H],.pointer (some ⟨B,o,none⟩)] W λe w'=>e=.returned (.int .i64 (if l=m then E-F else l-m)) /\ ∃q os,w'=Sort.grow (W.drewN q) os:=by
 go_enter Tryz.func102,Tryz.ntmps102
 go_wp2
 obtain⟨i,c⟩:∃i,i=(W.alloc (.cells #[.int .i64 x1,.int .i64 x2] 173)).alloc (.cells #[.int .i64 j,.int .i64 H] 173):=⟨_,rfl⟩;refine Yca (w2:=i) ?_ (by rw[c]);have old:∀(b off:Nat) (v:Value),b<W.heap.size->W.cell? ⟨b,off,none⟩=some v->i.cell? ⟨b,off,none⟩=some v:=λb off v hb h=>by
  rw[c];simp only[World.cell?,World.alloc,getElem?_push,size_push]at h ⊢;rw[iN (by omega),iN (by omega)];exact h
 have O:i.cell? ⟨W.heap.size,0,none⟩=some (.int .i64 x1):=by
  rw[c];simp only[World.cell?,World.alloc,getElem?_push,size_push];simp
 have P:i.cell? ⟨W.heap.size+1,0,none⟩=some (.int .i64 j):=by
  rw[c];simp only[World.cell?,World.alloc,getElem?_push,size_push];simp
 have Q:∃os,i=Sort.grow W os:=⟨#[.cells #[.int .i64 x1,.int .i64 x2] 173,.cells #[.int .i64 j,.int .i64 H] 173],by
  rw[c,alloc_eq_grow,alloc_eq_grow,grow_grow];rfl⟩
 replace N:=old _ _ _ M N;replace p:=old _ _ _ d p;replace r:=old _ _ _ d r;replace s:=old _ _ _ d s;replace u:=old _ _ _ d u;replace w:=old _ _ _ d w;replace y:=old _ _ _ d y;replace z:=old _ _ _ d z;replace I:=old _ _ _ d I;replace J:=old _ _ _ d J;replace L:=old _ _ _ d L;replace A:=old _ _ _ d A;replace K:=old _ _ _ d K;have G:i.heap.size=W.heap.size+2:=by rw[c];simp only[World.alloc,size_push]
 replace M:B<i.heap.size:=by omega
 replace d:a<i.heap.size:=by omega
 obtain⟨V,C⟩:∃k,W.heap.size=k:=⟨_,rfl⟩;obtain⟨X,D⟩:∃k,W.heap.size+1=k:=⟨_,rfl⟩;obtain⟨S,T⟩:V<i.heap.size/\X<i.heap.size:=by omega
 rw[D]at P ⊢;rw[C]at O ⊢;clear old c G C D
 go_region
 all_goals (by_cases e:l=m)
 all_goals go_wp2
 all_goals go_ret
 all_goals exact⟨by simp[],Yd0 _ _ Q⟩
end Go.Ad
namespace Go.AE
open Go.RowKit
variable {P:Program}
theorem Ynb{g:FuncId}(h:Bo P g [.sl 1 0 0] ⟨[],2⟩ λr _=>r=.emp)(b off:Nat):Au P g [.sl b off 0] .emp:=by
 intro m L;refine⟨h.1,λW Φ ρ vs w z t K=>?_⟩;obtain⟨u,rfl⟩:∃u,vs = #[u]:=by
  have H:=t.1;obtain⟨l⟩:=vs
  match l,H with
  |[u],_=>exact ⟨u,rfl⟩
 have I:R Φ ρ (.sl b off 0) u:=t.2 0 _ _ rfl rfl;cases I with
 |sl _ _ _ a cap l O F y D f=>
  refine(h.2 ⟨w,λ_=>none,Φ⟩ Φ (λb'=>if b'=1 then some ⟨l.blk,l.sh+off,l.k,l.n⟩ else none) #[.slice a 0 cap] w
   ⟨⟨Below.refl _ _,λB o q=>(by cases q)⟩,z.AX,λb x d=>(by cases d),λb b' x T l l' A=>(by cases A),λb l j=>?_,λB c q=>.inl q⟩
   ⟨rfl,λi x v d p=>?_⟩ (λb j=>by simp at j)).mono λe w' E=>?_
  ·show b<2;split at j
   ·omega
   cases j
  ·match i,d,p with
   |0,d,p=>
    cases d;cases p;exact .sl 1 0 0 _ cap ⟨l.blk,l.sh+off,l.k,l.n⟩ rfl (Nat.zero_le _) (by simpa using y) (λG=>by simpa using D G) f
   |i+1,d,p=>simp at d
  obtain⟨u,r,Q,J,ρ',rfl,M,N,s,C,y,S,rfl,rfl⟩:=E;refine⟨u,_,m,Φ,ρ,rfl,Ext.refl _ _,λb _ _ h=>h,z.below s.base.below,?_,lR _,rfl,rfl⟩;cases C;exact .emp _
theorem Uz{g:FuncId}{b0 S:Nat}{m:Ac}{len nx n:Nat}{blk:Af}{x:List Nat}{K:Aa->Option Af->Prop}(H:∀q,blk.AM q=blk)
 (h:Bo P g [.sl 1 0 0] ⟨[],2⟩ λr sm=>r=.sl 2 0 len/\sm=⟨[(2,blk)],nx⟩) (hK:K (.sl n 0 len) (some blk)):DC P g [.sl b0 S 0] n x m K:=by
 refine⟨_,some blk,?_,hK⟩;show Aw P g [.sl b0 S 0] (m.mem.less x) [n] λr m'=>r=.sl n 0 len/\m'=(m.mem.less x).set n blk;refine⟨h.1,λW Φ ρ vs w F t BE=>?_⟩;obtain⟨ab,ag⟩:=BE n (List.mem_singleton.2 rfl);obtain⟨u0,rfl⟩:∃u,vs = #[u]:=by
  have hs:=t.1;obtain⟨l⟩:=vs
  match l,hs with
  |[u],_=>exact ⟨u,rfl⟩
 have ai:R Φ ρ (.sl b0 S 0) u0:=t.2 0 _ _ rfl rfl;obtain⟨Q,ac,ad,aj⟩:∃Q:AI,Q 0=none/\(∀b l,Q b=some l->b<2)/\R Φ Q (.sl 1 0 0) u0:=by
  cases ai with
  |sl _ _ _ a cap l p ak hn hc V=>
   refine⟨λb'=>if b'=1 then some ⟨l.blk,l.sh+S,l.k,l.n⟩ else none,rfl,λb l H=>?_,.sl 1 0 0 _ cap ⟨l.blk,l.sh+S,l.k,l.n⟩ rfl (Nat.zero_le _) (by simpa using hn) (λhp=>by simpa using hc hp) V⟩;simp only at H;split at H
   ·omega
   cases H
 refine(h.2 ⟨w,λ_=>none,Φ⟩ Φ Q #[u0] w ⟨⟨Below.refl _ _,λB o U=>(by cases U)⟩,F.AX,λb y C=>(by cases C),λb b' y y' l l' E=>(by cases E),λb l p=>ad b l p,λB c U=>.inl U⟩
  ⟨rfl,λi x v hx hv=>by
   match i,hx,hv with
   |0,hx,hv=>cases hx;cases hv;exact aj
   |i+1,hx,hv=>simp at hx⟩ (λb H=>by simp at H)).mono λe w' Z=>?_
 obtain⟨u,r,m1,Am,f,e1,hE,hk,s,hR,hn,sm,rfl,rfl,rfl⟩:=Z;obtain⟨l1,o1,p1,p2,p3,p4,p5⟩:=s.live 2 blk rfl;have z:∀b l,ρ b=some l->(if b=n then f 2 else ρ b)=some l:=λb l p=>by
  rw[iN]
  ·exact p
  rintro rfl;rw[ab]at p;cases p
 have A:∀b y,(m.mem.less x).get b=some y->b≠n /\ ∃l o,ρ b=some l/\W.Cu l.blk/\Am l.blk=none/\w'.heap[l.blk]?=some o/\l.blk<w.heap.size/\BR Φ ρ y l o:=by
  intro b y C;obtain⟨l,o,G,J,g3,g4,g5⟩:=F.live b y C;have M:=D9 g4;refine⟨(λe=>by rw[e,ab]at G;cases G),l,o,G,J,?_,?_,M,g5⟩
  ·cases ah:Am l.blk with
   |none=>rfl
   |some c=>
    rcases s.BH _ _ ah with E|E
    ·have T:Φ l.blk=some c:=E;rw[g3]at T;cases T
    exact absurd E.1 (Nat.not_le.2 M)
  rw[s.base.below.block _ M];exact g4
 refine⟨u,.sl n 0 len,(m.mem.less x).set n blk,Am,λb=>if b=n then f 2 else ρ b,e1,⟨hE.AX,z⟩,λb H I h0=>?_,⟨F.base.trans s.base.below,s.AX,λb y C=>?_,λb b' y y' l l' G J g3 g4 Z=>?_,λb l p=>?_,λB c U=>?_⟩,?_,lR _,rfl,rfl⟩
 ·show(if b=n then f 2 else ρ b)=none;rw[iN (λe=>I (by rw[e];exact List.mem_singleton.2 rfl))];exact h0
 ·simp only[Mem.AB]at C;by_cases L:b=n
  ·rw[iP L]at C;injection C with C
   subst C;refine⟨l1,o1,by show(if b=n then f 2 else ρ b)=some l1;rw[iP L];exact p1,⟨Nat.le_trans F.base.below.size p2.1,?_⟩,p3,p4,?_⟩
   ·cases hg:W.g l1.blk with
    |none=>rfl
    |some o=>exact absurd (D9 (F.base.Ci _ _ hg)) (Nat.not_lt.2 p2.1)
   rw[<-H λ_=>0]at p5;exact BR.BD (λb l p=>by rw[hk 0 (show 0<2 by omega) (by simp) ac]at p;cases p) p5
  rw[iN L]at C;obtain⟨_,l,o,D,q2,q3,q4,O,q6⟩:=A b y C;exact⟨l,o,z _ _ D,q2,q3,q4,q6.ext ⟨hE.AX,z⟩⟩
 ·have j:(if b=n then f 2 else ρ b)=some l:=g3;have d:(if b'=n then f 2 else ρ b')=some l':=g4;simp only[Mem.AB]at G J;by_cases N:b=n
  ·by_cases I:b'=n
   ·rw[N,I]
   rw[iN I]at J d;rw[iP N,p1]at j;injection j with j
   obtain⟨_,l0,o,D,q2,q3,q4,O,q6⟩:=A b' y' J;rw[d]at D;injection D with D
   rw[<-D,<-Z,<-j]at O;exact absurd O (Nat.not_lt.2 p2.1)
  rw[iN N]at G j;obtain⟨_,l0,o,D,q2,q3,q4,O,q6⟩:=A b y G;rw[j]at D;injection D with D
  by_cases I:b'=n
  ·rw[iP I,p1]at d;injection d with d
   rw[<-D,Z,<-d]at O;exact absurd O (Nat.not_lt.2 p2.1)
  rw[iN I]at J d;exact F.inj b b' y y' l l' G J j d Z
 ·have aa:(if b=n then f 2 else ρ b)=some l:=p;show b<m.next;by_cases N:b=n
  ·rw[N];exact ag
  rw[iN N]at aa;exact F.fresh b l aa
 ·rcases s.BH B c U with E|E
  ·exact F.BH B c E
  refine .inr ⟨Nat.le_trans F.base.below.size E.1,?_⟩;cases hg:W.g B with
  |none=>rfl
  |some o=>exact absurd (D9 (F.base.Ci _ _ hg)) (Nat.not_lt.2 E.1)
 cases hR with
 |sl _ _ _ a cap l p ae af Y X=>exact .sl n 0 len a cap l (by show(if n=n then f 2 else ρ n)=some l;rw[iP rfl];exact p) ae af Y X
end Go.AE
