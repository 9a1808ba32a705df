/- Part 46 of the proof: Yk, Zb. -/
import Derived.Test.YtilmpmlkndfbjaaGreatDoorI35
import Derived.Test.YtilmpmlkndfbjaaGreatDoorI42
import Derived.Test.YtilmpmlkndfbjaaGreatDoorI45
set_option linter.all false
section
namespace Go.Known
open Go Go.AE Go.Proofs
open Go.Plain
section
variable {α:Type}
def mkG(g:α→AVal):Nat→List (Int×α)→List (AVal×AVal×Nat)
 | _,[]=>[]
 | j,(k,v) :: r=>(.int .i64 k,g v,j) :: mkG g (j+1) r
theorem Ybe(g:α→AVal):∀ (j:Nat) (E:List (Int×α)),(mkG g j E).length=E.length
 | _,[]=>rfl
 | j,(k,v) :: r=>by simp only[mkG,List.length_cons,Ybe g (j+1) r]
theorem Zqa{g:α→AVal}(q:Nat→Nat)(a:∀ v,(g v).ren q=g v):∀ (j:Nat) (E:List (Int×α)),G8 q (mkG g j E)=mkG g j E
 | _,[]=>rfl
 | j,(k,v) :: r=>by
  have:=Zqa q a (j+1) r;simp only[G8,mkG,List.map_cons,AVal.ren,a]at *;rw[this]
theorem Zlv(g:α→AVal)(id:Int):∀ (j:Nat) (E:List (Int×α)),H4 .int (.int .i64 id) (mkG g j E)=some (match A2 id E with
 | some (p,v)=>some (p,g v,j+p)
 | none=>none)
 | _,[]=>rfl
 | j,(k,v) :: r=>by
  simp only[mkG,H4,C2,if_true,A2];by_cases h:id=k
  ·subst h; simp
  ·have a:(id == k)=false:=by simpa using h
   simp only[a,if_neg h];rw[Zlv g id (j+1) r];cases A2 id r with
   | none=>rfl
   | some b=>obtain ⟨p,w⟩:=b; simp only; congr 4; omega
theorem Z1n(g:α→AVal)(k:Int)(v:α):∀ (j p:Nat) (E:List (Int×α)),(mkG g j E).set p (.int .i64 k,g v,j+p)=mkG g j (E.set p (k,v))
 | _,_,[]=>rfl
 | j,0,(a,b) :: r=>rfl
 | j,p+1,(a,b) :: r=>by
  simp only[mkG,List.set_cons_succ];have:=Z1n g k v (j+1) p r;rw[show j+1+p=j+(p+1) by omega]at this
  rw[this]
theorem Zws(g:α→AVal)(k:Int)(v:α):∀ (j:Nat) (E:List (Int×α)),mkG g j E++[(.int .i64 k,g v,j+E.length)]=mkG g j (E++[(k,v)])
 | _,[]=>rfl
 | j,(a,b) :: r=>by
  simp only[mkG,List.cons_append,List.length_cons];have:=Zws g k v (j+1) r;rw[show j+1+r.length=j+(r.length+1) by omega]at this
  rw[this]
theorem Z9d(g:α→AVal)(k:Int)(v:α)(p:Nat)(E:List (Int×α)):(mkG g 0 E).set p (.int .i64 k,g v,p)=mkG g 0 (E.set p (k,v)):=by
 have:=Z1n g k v 0 p E;rwa[Nat.zero_add]at this
theorem Z0t(g:α→AVal)(k:Int)(v:α)(E:List (Int×α)):mkG g 0 E++[(.int .i64 k,g v,E.length)]=mkG g 0 (E++[(k,v)]):=by
 have:=Zws g k v 0 E;rwa[Nat.zero_add]at this
end
abbrev natV(v:Nat):AVal:=.int .i64 v
set_option maxRecDepth 100000 in
set_option maxHeartbeats 8000000 in
theorem Z4s(f:Int)(ls:List Lt)(hv:ValR f ls)(h0:ls≠[]) :
 Ctr Tryz.prog 69 [cV f ls] ⟨[],1⟩ fun r m=>r=.ptr 1 0 0∧m=⟨[(1,.cells 3 [[.imm (ls.map rowL),.sl 3 0 ls.length,.sl 2 0 (Y2 ls).length]]),(2,.cells 1 (Z2 (Y2 ls))),(3,.cells 1 (Z2 (S7 ls ls.length)))],4⟩:=by
 refine A8 hm Tryz.func69 cf57 rfl rfl fun K hK=>?_
 have h:ls.length≤400:=hv.len;have ao:0<ls.length:=List.length_pos_iff.2 h0;have hw:=hv.wv h0;have a9:(ls.map rowL).length=ls.length:=List.length_map ..;have o:∀ q,Z4 q (ls.map rowL)=ls.map rowL:=fun q=>X1 q _ (Y5 ls)
 have n:=Z6;have P:∀ q (E:List (Int×Nat)),G8 q (mkG natV 0 E)=mkG natV 0 E:=fun q E=>Zqa q (fun _=>rfl) 0 E
 have v:∀ (ps:List (Nat×Nat)) q,Z4 q (ps.map lrow)=ps.map lrow:=fun ps q=>X1 q _ (Z0c ps)
 have H:=fun i hi=>C0 ls (i:=i) hi
 have I:=fun ps U h2 h3=>Z8s f ls ps U h2 h3
 unfold cV at *;generalize ls.map rowL=rows at *;unfold rowL at H;have bu:IntKind.i64.wrap 0=0:=by decide
 have a3:ls.length≤1048576:=by omega
 simp[a9,a3];have aw:∀ q,Z4 q (List.replicate ls.length [AVal.int .i64 0])=List.replicate ls.length [AVal.int .i64 0]:=fun q=>by
  have:Z2 (List.replicate ls.length 0)=List.replicate ls.length [AVal.int .i64 0]:=by simp[Z2]
  rw[← this,n]
 refine Q7 (α:=Nat) (fun i=>[(28,.int .i64 i),(27,.int .i64 ls.length),(26,.imm rows),(7,.bool (down ls i)),(6,slV 5 ((psN ls i).map lrow)),(5,.map 4),(4,.ptr 3 0 0),(3,.int .i64 ls.length),(1,.ptr 1 0 0)])
  (fun i=>⟨(1,.cells 2 [[.int .i64 f,.imm rows]]) :: (2,.cells 1 (Z2 (S7 ls i))) :: (3,.cells 3 [[.imm rows,.sl 2 0 ls.length,.nilSl]]) :: (4,.map (mkG natV 0 (fsE ls i)) (fsE ls i).length) :: blV 5 2 ((psN ls i).map lrow) [],6⟩)
  (fun i=>ls.length - i) (fun i=>i≤ls.length) 0 [(2,10),(3,12),(4,14)] (by simp[o,n,P,v,aw,Ybx,down,Z0,Z3,S7,fsE,mkG,Z2,G8]) (by simp) ?_
 intro i hi N hN
 try simp only at hi hN ⊢
 have S:IntKind.i64.wrap ((i:Int)+1)=(i:Int)+1:=Z5 (by omega) (by omega)
 by_cases A:i<ls.length
 ·have b:=hN (i+1);rw[Int.natCast_add,Int.natCast_one]at b;clear hN;have hr:=H i A;obtain⟨_,M⟩:=X5 hr;have F:=Zo8 A;have an:=Zkh (ls:=ls) i;have ac:(Z2 (S7 ls i)).length=ls.length:=by rw[L6,an]
  have ad:(psN ls i).length≤1048575:=by have:=Zxq (ls:=ls) i; omega
  by_cases hk:(at' ls i).k=2
  ·have hx:isX (at' ls i)=true:=by simp[isX,hk]
   have hp:isP (at' ls i)=false:=by simp[isP,hk]
   have e1:psN ls (i+1)=psN ls i:=Z85 hp;have e2:fsE ls (i+1)=updG (fsE ls i) (at' ls i).i i:=by simp only[fsE,hx,if_true]
   have e3:S7 ls (i+1)=match C9 (at' ls i).i (fsE ls i)with
    | some j=>((S7 ls i).set i j).set j i
    | none=>S7 ls i:=by
    rw[S7,if_pos hx];cases C9 (at' ls i).i (fsE ls i)<;>rfl
   rw[hp]at F;simp only[bF,if_false]at F;rw[e1,e2,e3,F]at b;have s:=Zlv natV (at' ls i).i 0 (fsE ls i);have be:=(Zso (ls:=ls) i).1 (at' ls i).i;generalize at' ls i=l at *;generalize hO:S7 ls i=O at *;generalize bn:fsE ls i=u at *;cases hf:A2 l.i u with
   | none=>
    have D:C9 l.i u=none:=by unfold C9; rw[hf]; rfl
    have J:updG u l.i i=u++[(l.i,i)]:=by unfold updG; rw[hf]
    rw[hf]at s;simp only at s;have bd:mkG natV 0 u++[(.int .i64 l.i,.int .i64 (i:Int),u.length)]=mkG natV 0 (u++[(l.i,i)]):=Z0t natV l.i i u;rw[D,J]at b;simp[A,hr,M,hk,s,S];refine b [(1,1),(2,2),(3,3),(4,4),(5,5)] _ _ (by omega) (by omega) ?_
    simp +contextual [o,n,P,v,bd]
   | some pj=>
    obtain⟨p,j⟩:=pj;have D:C9 l.i u=some j:=by unfold C9; rw[hf]; rfl
    obtain⟨bs,_⟩:=be j D;have a8:j<ls.length:=by omega
    have J:updG u l.i i=u.set p (l.i,i):=by unfold updG; rw[hf]
    rw[hf]at s;simp only[Nat.zero_add]at s;have bf:=Z9d natV l.i i p u;rw[D,J]at b;have bb:=Zg9 O i j;have bc:=Zg9 (O.set i j) j i;have ah:O.length=ls.length:=an;have ax:(mkG natV 0 u).set p (.int .i64 l.i,.int .i64 (i:Int),p)=mkG natV 0 (u.set p (l.i,i)):=bf;have aq:=Zk1 (l:=O) (i:=i) (by omega)
    have a1:(O.set i j).length=ls.length:=by rw[List.length_set,ah]
    have au:=Zk1 (l:=O.set i j) (i:=j) (by omega)
    have am:(Z2 (O.set i j)).length=ls.length:=by rw[L6,a1]
    have a0:(u.set p (l.i,i)).length=u.length:=List.length_set;simp only at b;generalize O.getD i 0=a1 at *;generalize (O.set i j).getD j 0=a2 at *;generalize (O.set i j).set j i=O3 at *;generalize O.set i j=O2 at *;generalize u.set p (l.i,i)=E2 at *;obtain⟨_,ar⟩:=X5 aq;obtain⟨_,av⟩:=X5 au;simp[A,hr,M,hk,s,S,ac,a8,ah,aq,ar,bb,au,av,am,bc,ax];refine b [(1,1),(2,2),(3,3),(4,4),(5,5)] _ _ (by omega) (by omega) ?_
    simp +contextual [o,n,P,v,a0]
  ·have L:=hw.kin i A hk;have hx:isX (at' ls i)=false:=by simp[isX,L]
   have hp:isP (at' ls i)=true:=by simp[isP,L]
   have e1:(psN ls (i+1)).map lrow=(psN ls i).map lrow++[[.int .i64 (i:Int),.int .i64 (upN ls i:Nat)]]:=by rw[Z4f hp]; simp[lrow]
   have e2:fsE ls (i+1)=fsE ls i:=by simp only[fsE,hx,bF,if_false]
   have e3:S7 ls (i+1)=S7 ls i:=by simp only[S7,hx,bF,if_false]
   rw[hp]at F;simp only[if_true]at F;rw[e1,e2,e3,F]at b;have ay:IntKind.i64.wrap (2*(i:Int))=((2*i:Nat):Int):=by rw[Z5 (by omega) (by omega)]; omega
   have J:upN ls i=if down ls i then 2*((i+ls.length - 1) % ls.length)+1 else 2*i:=by
    unfold upN Y0;cases down ls i<;>rfl
   rw[J]at b;have C:((psN ls i).map lrow).length=(psN ls i).length:=List.length_map ..;have Q:=fun q=>v (psN ls i) q
   have G:=fun q=>n q (S7 ls i)
   have Z:=fun q=>P q (fsE ls i)
   generalize (psN ls i).map lrow=PP at *;generalize at' ls i=l at *;generalize Z2 (S7 ls i)=O at *;generalize mkG natV 0 (fsE ls i)=MM at *;generalize 2*i=i2 at *;cases hd:down ls i with
   | true=>
    rw[hd]at b;simp only[if_true]at b;have bl:IntKind.i64.wrap ((i:Int) - 1)=(i:Int) - 1:=Z5 (by omega) (by omega)
    have bm:IntKind.i64.wrap ((i:Int) - 1+(ls.length:Int))=((i+ls.length - 1:Nat):Int):=by rw[Z5 (by omega) (by omega)]; omega
    have ba:((i+ls.length - 1:Nat):Int).tmod (ls.length:Int)=(((i+ls.length - 1) % ls.length:Nat):Int):=rfl;have bt:(i+ls.length - 1) % ls.length<ls.length:=Nat.mod_lt _ (by omega)
    generalize (i+ls.length - 1) % ls.length=z at *;generalize i+ls.length - 1=y at *;have bi:IntKind.i64.wrap (2*(z:Int))=((2*z:Nat):Int):=by rw[Z5 (by omega) (by omega)]; omega
    have bj:IntKind.i64.wrap (((2*z:Nat):Int)+1)=((2*z+1:Nat):Int):=by rw[Z5 (by omega) (by omega)]; omega
    generalize 2*z+1=y2 at *;generalize 2*z=y1 at *;simp[A,hr,M,hk,L,S,ay,bl,bm,ba,bi,bj,h0,ad,C,hd];refine b [(1,1),(2,2),(3,3),(4,4),(5,39)] _ _ (by omega) (by omega) ?_
    simp +contextual [o,Z,Q,G,C]
   | false=>
    rw[hd]at b;simp only[bF,if_false]at b;simp[A,hr,M,hk,L,S,ay,ad,C,hd];refine b [(1,1),(2,2),(3,3),(4,4),(5,29)] _ _ (by omega) (by omega) ?_
    simp +contextual [o,Z,Q,G,C]
 ·have a7:i=ls.length:=by omega
  subst a7;clear hN H;obtain⟨bp,az,_⟩:=ValR.ranks hv.lo hv.okr;have V:∀ p,p∈psN ls ls.length→POk ls p:=fun p hp=>by
   obtain⟨U,h2,_⟩:=Z17 hp;have hm:=S1 U;obtain⟨_,_,_,c,d,e,e1,_⟩:=(A7 (by simpa[isP]using h2)).1 (hv.okr _ hm)
   have br:inG (at' ls p.1).g ls≤ls.length:=D2;have bq:=hv.hi;exact⟨U,⟨by omega,by omega⟩,c,by omega⟩
  have ad:=Zxq (ls:=ls) ls.length;have ab:psN ls ls.length≠[]:=by
   have U:(0,upN ls 0)∈psN ls ls.length:=by
    unfold psN;exact List.mem_map.2 ⟨0,List.mem_filter.2 ⟨List.mem_range.2 ao,by simp[isP,hv.fst]⟩,rfl⟩
   exact List.ne_nil_of_mem U
  have hs:=I _ ab V (by omega)
  have ai:=fun d U h2=>Z6y (d:=d) az U h2
  clear I V;generalize psN ls ls.length=PS at *;have X:¬PS.map lrow=[]:=by simpa using ab
  have a2:(PS.map lrow).length=PS.length:=List.length_map ..;simp[Zjh X,Ziu X,a2];refine U9 hs [(2,5),(1,1)] (by simp) (by simp[o,v]) (by simp) ?_
  rintro _ _ ⟨rfl,a,B,w,rfl⟩;have aj:=ai a B w;have aa:a.length=PS.length:=B.length_eq;have ak:(a.map lrow).length=a.length:=List.length_map ..;simp[o,v,aa,ak];have al:Y2 ls≠[]:=by rw[← aj]; simpa using fun e:a=[]=>ab (List.length_eq_zero_iff.1 (by rw[← aa,e]; rfl))
  have G:=fun q=>n q (S7 ls ls.length)
  generalize Z2 (S7 ls ls.length)=OO at *;clear hs ai B w;rw[← aa];refine Q7 (α:=Nat) (fun t=>[(88,.int .i64 t),(87,.int .i64 a.length),(86,.sl 5 0 a.length),(4,.ptr 3 0 0)])
   (fun t=>⟨(2,.cells 1 OO) :: (3,.cells 3 [[.imm rows,.sl 2 0 ls.length,slV 6 (Z2 ((a.take t).map Prod.snd))]]) :: (5,.cells 2 (a.map lrow)) :: blV 6 1 (Z2 ((a.take t).map Prod.snd)) [],7⟩)
   (fun t=>a.length - t) (fun t=>t≤a.length) 0 [(2,2),(3,3),(5,5)] (by simp[o,v,G,Z2]) (by simp) ?_
  intro t ht N2 ag
  try simp only at ht ag ⊢
  have bh:IntKind.i64.wrap ((t:Int)+1)=(t:Int)+1:=Z5 (by omega) (by omega)
  by_cases af:t<a.length
  ·have hg:(a.map lrow)[t]? = some [.int .i64 (a[t].1:Nat),.int .i64 (a[t].2:Nat)]:=by rw[List.getElem?_map,gE af]; rfl
   obtain⟨_,a6⟩:=X5 hg;have b:=ag (t+1);have a5:Z2 ((a.take (t+1)).map Prod.snd)=Z2 ((a.take t).map Prod.snd)++[[.int .i64 (a[t].2:Nat)]]:=by
    rw[List.take_succ_eq_append_getElem af,List.map_append,Z2,List.map_append];rfl
   rw[a5,Int.natCast_add,Int.natCast_one]at b;have a4:(Z2 ((a.take t).map Prod.snd)).length≤1048575:=by simp[Z2]; omega
   have ae:=fun q=>n q ((a.take t).map Prod.snd)
   have Q:=fun q=>v a q
   generalize Z2 ((a.take t).map Prod.snd)=FF at *;generalize a[t]=p at *;generalize a.map lrow=PR at *;simp[af,ak,hg,a6,bh,a4];refine b [(2,2),(3,3),(5,5),(6,20)] _ _ (by omega) (by omega) ?_
   simp +contextual [o,Q,G,ae]
  ·have bg:t=a.length:=by omega
   subst bg;rw[List.take_length,aj];have Y:=Zuo al;have ac:(Z2 (Y2 ls)).length=(Y2 ls).length:=L6 _;have ae:=fun q=>n q (Y2 ls)
   generalize Z2 (Y2 ls)=FF at *;simp[Zjh Y,Ziu Y,ac];exact Y1 hK [(1,3),(2,6),(3,2)] (by simp[o,G,ae])
end Go.Known
end
section
namespace Go.Known
open Go.Plain
section
variable {T T':Nat→Nat} {N:Nat} {φ ψ:Nat→Nat}
theorem Z6g(j:Perm1 T N)(l:∀ x,x<N→φ x<N)(a:∀ x,x<N→ψ x<N)(i:∀ x,x<N→ψ (φ x)=x)(c:∀ x,x<N→φ (ψ x)=x)(u:∀ x,x<N→T' (φ x)=φ (T x)):L2 T' N=L2 T N:=by
 obtain⟨S,t⟩:∃ S:Nat→Nat,S=fun x=>it T (per T N x - 1) x:=⟨_,rfl⟩
 have g:∀ x,x<N→S x<N:=fun x b=>by rw[t]; exact D0 j b _
 have k:∀ x,x<N→T (S x)=x:=fun x b=>by
  obtain⟨A,o,_⟩:=Zib j b;rw[t];show it T (per T N x - 1+1) x=x;rw[show per T N x - 1+1=per T N x by omega]
  exact o
 have p:∀ x,x<N→S (T x)=x:=fun x b=>j.inj _ _ (g _ (j.lt x b)) b (k _ (j.lt x b))
 have n:Perm1 S N:=⟨g,fun y m f d e=>by rw[← k y f,e,k m d]⟩
 have q:Perm1 T' N:=by
  have e:∀ y,y<N→T' y=φ (T (ψ y)):=fun y f=>by
   have:=u (ψ y) (a y f);rwa[c y f]at this
  refine⟨fun y f=>by rw[e y f]; exact l _ (j.lt _ (a y f)),fun y m f d h=>?_⟩
  rw[e y f,e m d]at h;have o:=i _ (j.lt _ (a y f));rw[h,i _ (j.lt _ (a m d))]at o;have v:=j.inj _ _ (a m d) (a y f) o;rw[← c y f,← v,c m d]
 have w:Opp T S N N id id:=⟨j,n,fun x b=>b,fun x b=>b,fun x _=>rfl,fun x _=>rfl,p,fun x _=>Iff.rfl⟩
 have z:Opp S T' N N φ ψ:=⟨n,q,l,a,i,c,fun x b=>by rw[u _ (g x b),k x b],fun x b=>⟨fun _=>b,fun _=>l x b⟩⟩
 have r:=(Zsr w).length_eq;have s:=(Zsr z).length_eq;rw[List.length_map,List.length_map]at r s;unfold T3 at r s;rw[Zet,Zet]at r s;unfold L2;omega
end
structure Cj (x y:List Lt) (e:Bool) (ρ σ:Nat→Nat):Prop where
 wx:Wv x
 wy:Wv y
 len:y.length=x.length
 pas:Z0 y=Z0 x
 lt:∀ v,v<x.length→ρ v<x.length
 ltr:∀ v,v<x.length→σ v<x.length
 inv:∀ v,v<x.length→σ (ρ v)=v
 inr:∀ v,v<x.length→ρ (σ v)=v
 pre:∀ v,v<x.length→ρ ((v+x.length - 1) % x.length)=if e then (ρ v+x.length - 1) % x.length else (ρ v+1) % x.length
 nxt:∀ v,v<x.length→ρ ((v+1) % x.length)=if e then (ρ v+1) % x.length else (ρ v+x.length - 1) % x.length
 kin:∀ v,v<x.length→(at' y (ρ v)).k=(at' x v).k
 oth:∀ v,v<x.length→(at' x v).k=2→X9 y (ρ v) x.length 0=ρ (X9 x v x.length 0)
 ov:∀ v,v<x.length→(at' x v).k=2→smN y (ρ v)=smN x v
 dn:∀ v,v<x.length→(at' x v).k=1→down y (ρ v)=(down x v == e)
 idx:∀ v,v<x.length→(at' x v).k=1→V1 (ρ v) (Z1 y)=V1 v (Z1 x)
def dl(n:Nat)(e:Bool)(ρ:Nat→Nat)(d:Nat):Nat:=if d<2*n then arr n (ρ (W1 n d)) ((d % 2 == 0) == e)else d
theorem Zas{n v:Nat}{e:Bool}{ρ:Nat→Nat}(f:v<n)(b:Bool):dl n e ρ (arr n v b)=arr n (ρ v) (b == e):=by
 obtain⟨a,c,d⟩:=Zau f b;unfold dl;rw[if_pos a,c,d]
theorem Znb{n d:Nat}{e:Bool}{ρ:Nat→Nat}(h:2*n≤d):dl n e ρ d=d:=by
 unfold dl;rw[if_neg (by omega)]
theorem Zh8{n v:Nat}(a:v<n):(v+1) % n=if v=n - 1 then 0 else v+1:=by
 split
 ·rename_i h; rw[h,show n - 1+1=n by omega,Nat.mod_self]
 ·exact Nat.mod_eq_of_lt (by omega)
theorem Zhh{n v:Nat}(a:v<n):(v+n - 1) % n=if v=0 then n - 1 else v - 1:=Zce a
theorem Zwl{n v:Nat}(c:v<n)(b:Bool):Y0 n v b=arr n (if b then (v+1) % n else (v+n - 1) % n) b:=by
 have a:0<n:=by omega
 cases b with
 | true=>
  unfold Y0 arr;simp only[if_true];have hm:=Nat.mod_lt (v+1) a;rw[Zhh hm,Zh8 c];split<;>split<;>omega
 | false=>
  unfold Y0 arr;simp only[bF,if_false]
theorem B7{n u d:Nat}{c b:Bool}(f:u<n)(a:d<n)(h:Y0 n u c=Y0 n d b):u=d∧c=b:=by
 have e:=D7 f c;have j:=D7 a b;rw[h,j]at e;obtain⟨g,i⟩:=Za5 a f e;exact⟨g.symm,by revert i; cases c<;>cases b<;>simp⟩
theorem Z2k{m a b:Nat}(c:a<m)(d:b<m)(h:(a+1) % m=(b+1) % m):a=b:=by
 rw[Zh8 c,Zh8 d]at h;split at h<;>split at h<;>omega
theorem Zsc{ls:List Lt}(A:Wv ls):Perm1 (Y4 ls (Z1 ls)) (2*ls.length+2*Z0 ls):=by
 obtain⟨O,Y,Z,_⟩:=Zhv A.pas A.kin;have str:∀ d,d<2*ls.length→Y4 ls (Z1 ls) d<2*ls.length → ∃ v b,v<ls.length∧(at' ls v).k=2∧d=arr ls.length v b∧Y4 ls (Z1 ls) d=Y0 ls.length (otN ls v) (b == smN ls v):=fun d K D=>by
  obtain⟨v,b,h,rfl⟩:=N8 K;rcases Decidable.em ((at' ls v).k=2)with i|i
  ·exact⟨v,b,h,i,rfl,Ze7 h i b⟩
  ·rw[Zbm h,if_neg i]at D;split at D<;>omega
 have o:∀ d,2*ls.length≤d→d<2*ls.length+2*Z0 ls → ∃ v q,v<ls.length∧(at' ls v).k=1∧q<Z0 ls∧(Z1 ls).getD q 0=v∧V1 v (Z1 ls)=q ∧
  (d % 2=0∧q=((d - 2*ls.length) / 2+1) % Z0 ls∧Y4 ls (Z1 ls) d=Y0 ls.length v (!down ls v)∨d % 2=1∧q=(d - 2*ls.length) / 2∧Y4 ls (Z1 ls) d=Y0 ls.length v (down ls v)):=fun d K P=>by
  obtain⟨p,L⟩:∃ p,(d - 2*ls.length) / 2=p:=⟨_,rfl⟩
  have C:p<Z0 ls:=by omega
  rcases Nat.mod_two_eq_zero_or_one d with G|G
  ·have ex:d=2*ls.length+2*p:=by omega
   have H:=Nat.mod_lt (p+1) A.pas;obtain⟨v,h,i,z,hi⟩:=J8 H;exact⟨v,_,h,i,H,z,hi,.inl ⟨G,by rw[L],by rw[ex,Zg5,z]⟩⟩
  ·have ex:d=2*ls.length+2*p+1:=by omega
   obtain⟨v,h,i,z,hi⟩:=J8 C;exact⟨v,p,h,i,C,z,hi,.inr ⟨G,L.symm,by rw[ex,Zgs,z]⟩⟩
 refine⟨Y,fun y l M s e=>?_⟩
 by_cases U:2*ls.length≤Y4 ls (Z1 ls) y
 ·have J:y<2*ls.length:=by
   apply Nat.lt_of_not_le;intro c;have:=O y c M;omega
  have E:l<2*ls.length:=by
   apply Nat.lt_of_not_le;intro c;have:=O l c s;omega
  exact Z y l J E U e
 ·by_cases J:y<2*ls.length
  ·obtain⟨v,b,h,i,rfl,D⟩:=str y J (by omega)
   obtain⟨w1,w2,w3,_,_⟩:=A.oth v h i;by_cases E:l<2*ls.length
   ·obtain⟨j,b',a,g,rfl,r⟩:=str l E (by omega)
    obtain⟨n,t,F,_,_⟩:=A.oth j a g;rw[D,r]at e;obtain⟨u,w⟩:=B7 w1 n e;have ev:v=j:=by
     rw[← w3,u,F]
    subst ev
    congr 1
    revert w
    cases b<;>cases b'<;>cases smN ls v<;>simp
   ·obtain⟨j,q,a,g,_,_,_,f⟩:=o l (by omega) s
    exfalso;rw[D]at e;have:otN ls v=j:=by
     rcases f with⟨_,_,f⟩|⟨_,_,f⟩
     ·rw[f]at e;exact(B7 w1 a e).1
     ·rw[f]at e;exact(B7 w1 a e).1
    unfold otN at this;rw[this,g]at w2;cases w2
  ·obtain⟨v,q,h,i,H,z,hi,f⟩:=o y (by omega) M
   by_cases E:l<2*ls.length
   ·obtain⟨j,b',a,g,rfl,r⟩:=str l E (by omega)
    obtain⟨n,t,F,_,_⟩:=A.oth j a g;exfalso;rw[r]at e;have:v=otN ls j:=by
     rcases f with⟨_,_,f⟩|⟨_,_,f⟩
     ·rw[f]at e;exact(B7 h n e).1
     ·rw[f]at e;exact(B7 h n e).1
    unfold otN at this;rw[← this,i]at t;cases t
   ·obtain⟨j,q',a,g,S,Q,B,m⟩:=o l (by omega) s
    have p1:(y - 2*ls.length) / 2<Z0 ls:=by omega
    have X:(l - 2*ls.length) / 2<Z0 ls:=by omega
    rcases f with⟨V,N,f⟩|⟨V,N,f⟩<;>rcases m with⟨m2,I,m⟩|⟨m2,I,m⟩<;>rw[f,m]at e<;>obtain ⟨u,w⟩:=B7 h a e
    ·rw[u,B]at hi;rw[hi,N]at I;have:=Z2k p1 X I;omega
    ·rw[u]at w
     revert w
     cases down ls j<;>simp
    ·rw[u]at w
     revert w
     cases down ls j<;>simp
    ·rw[u,B]at hi;omega
section
variable {x y:List Lt} {e:Bool} {ρ σ:Nat→Nat} (h:Cj x y e ρ σ)
include h
theorem Zki{v:Nat}(a:v<x.length)(b:Bool):dl x.length e ρ (Y0 x.length v b)=Y0 x.length (ρ v) (b == e):=by
 have c:0<x.length:=by omega
 rw[Zwl a,Zas (by split<;>exact Nat.mod_lt _ c),Zwl (h.lt v a)]
 congr 1
 have d:=h.pre v a;have f:=h.nxt v a;cases b<;>cases e<;>simp_all
theorem Z0m{d:Nat}(c:d<2*x.length):dl x.length e ρ d<2*x.length:=by
 obtain⟨v,b,a,rfl⟩:=N8 c;rw[Zas a];exact(Zau (h.lt v a) _).1
theorem Ydz{d c:Nat}(m:d<2*x.length)(f:c<2*x.length)(j:dl x.length e ρ d=dl x.length e ρ c):d=c:=by
 obtain⟨v,b,g,rfl⟩:=N8 m;obtain⟨i,b',a,rfl⟩:=N8 f;rw[Zas g,Zas a]at j;obtain⟨k,l⟩:=Za5 (h.lt v g) (h.lt i a) j;have:v=i:=by rw[← h.inv v g,k,h.inv i a]
 subst this
 congr 1
 revert l
 cases b<;>cases b'<;>cases e<;>simp
theorem Z5f{d:Nat}(c:d<2*x.length):dl x.length e ρ (bkN d)=bkN (dl x.length e ρ d):=by
 obtain⟨v,b,a,rfl⟩:=N8 c;rw[Zmc,Zki h a,Zas a,Zmc]
 congr 1
 cases b<;>cases e<;>rfl
theorem Z1c{d:Nat}(B:d<2*x.length+2*Z0 x):Y4 y (Z1 y) (dl x.length e ρ d)=dl x.length e ρ (Y4 x (Z1 x) d):=by
 have c:=h.len;have g:=h.pas;by_cases A:d<2*x.length
 ·obtain⟨v,b,a,rfl⟩:=N8 A;have ty:=Zbm (ls:=y) (v:=ρ v) (by rw[c]; exact h.lt v a) (b == e)
  rw[c,g,h.kin v a]at ty;rw[Zas a,ty,Zbm a];rcases Decidable.em ((at' x v).k=2)with f|f
  ·rw[if_pos f,if_pos f,h.oth v a f,Zki h (h.wx.oth v a f).1];have:=h.ov v a f;unfold smN at this;rw[this]
   congr 1
   cases b<;>cases e<;>cases ((at' x v).o == ((at' x v).s == 1))<;>rfl
  ·have i:=h.wx.kin v a f;rw[if_neg f,if_neg f,h.dn v a i,h.idx v a i];by_cases j:down x v=b
   ·rw[if_pos j,if_pos (by rw[j]),Znb (by omega)]
   ·rw[if_neg j,if_neg (by revert j; cases down x v<;>cases b<;>cases e<;>simp),Znb (by omega)]
 ·rw[Znb (by omega)]
  obtain⟨p,C⟩:∃ p,(d - 2*x.length) / 2=p:=⟨_,rfl⟩
  have l:p<Z0 x:=by omega
  have key:∀ q,q<Z0 x → ∃ v,v<x.length∧(Z1 x).getD q 0=v∧(Z1 y).getD q 0=ρ v∧down y (ρ v)=(down x v == e):=fun q z=>by
   obtain⟨v,a,f,w,hi⟩:=J8 z;obtain⟨_,t⟩:=Zgu (ls:=y) (v:=ρ v) (by rw[c]; exact h.lt v a) (by rw[h.kin v a]; exact f)
   rw[h.idx v a f,hi]at t;exact⟨v,a,w,t,h.dn v a f⟩
  have tr:=Zg5 (ls:=y) (p:=p);have tl:=Zgs (ls:=y) (p:=p);rw[c]at tr tl;rw[g]at tr;rcases Nat.mod_two_eq_zero_or_one d with u|u
  ·have ex:d=2*x.length+2*p:=by omega
   subst ex;obtain⟨v,a,m,n,r⟩:=key _ (Nat.mod_lt (p+1) h.wx.pas);rw[tr,Zg5,m,n,r,Zki h a]
   congr 1
   cases down x v<;>cases e<;>rfl
  ·have ex:d=2*x.length+2*p+1:=by omega
   subst ex;obtain⟨v,a,m,n,r⟩:=key p l;rw[tl,Zgs,m,n,r,Zki h a]
theorem Yci{d:Nat}(c:d<2*x.length):dl x.length e σ (dl x.length e ρ d)=d:=by
 obtain⟨v,b,a,rfl⟩:=N8 c;rw[Zas a,Zas (h.lt v a),h.inv v a]
 congr 1
 cases b<;>cases e<;>rfl
theorem Z4j{d:Nat}(c:d<2*x.length):dl x.length e ρ (dl x.length e σ d)=d:=by
 obtain⟨v,b,a,rfl⟩:=N8 c;rw[Zas a,Zas (h.ltr v a),h.inr v a]
 congr 1
 cases b<;>cases e<;>rfl
theorem Ycq:L2 (Y4 y (Z1 y)) (2*x.length+2*Z0 x)=L2 (Y4 x (Z1 x)) (2*x.length+2*Z0 x):=by
 have c:∀ (ρ:Nat→Nat) d,¬d<2*x.length→dl x.length e ρ d=d:=fun ρ d a=>Znb (by omega)
 have g:∀ d,d<2*x.length→dl x.length e σ d<2*x.length:=fun d a=>by
  obtain⟨v,b,f,rfl⟩:=N8 a;rw[Zas f];exact(Zau (h.ltr v f) _).1
 refine Z6g (φ:=dl x.length e ρ) (ψ:=dl x.length e σ) (Zsc h.wx) (fun d a=>?_) (fun d a=>?_) (fun d a=>?_) (fun d a=>?_) fun d a=>Z1c h a
 ·by_cases s:d<2*x.length
  ·have:=Z0m h s; omega
  ·rw[c _ d s]; exact a
 ·by_cases s:d<2*x.length
  ·have:=g d s; omega
  ·rw[c _ d s]; exact a
 ·by_cases s:d<2*x.length
  ·exact Yci h s
  ·rw[c ρ d s,c σ d s]
 ·by_cases s:d<2*x.length
  ·exact Z4j h s
  ·rw[c σ d s,c ρ d s]
theorem Zxw{d:Nat}(c:d<2*x.length):ldN y (dl x.length e ρ d)=at' y (ρ (W1 x.length d)):=by
 obtain⟨v,b,a,rfl⟩:=N8 c;have:=N9 (ls:=y) (v:=ρ v) (by rw[h.len]; exact h.lt v a) (b == e)
 rw[h.len]at this;rw[Zas a,this,(Zau a b).2.1]
theorem Yfb:Y2 y=(Y2 x).map (dl x.length e ρ):=by
 have d:Z1 y=(Z1 x).map ρ:=by
  apply List.ext_getElem?;intro q;by_cases j:q<Z0 x
  ·obtain⟨v,a,c,f,hi⟩:=J8 j;obtain⟨g,b⟩:=Zgu (ls:=y) (v:=ρ v) (by rw[h.len]; exact h.lt v a) (by rw[h.kin v a]; exact c)
   rw[h.idx v a c,hi]at g b;rw[List.getElem?_map];have l:q<(Z1 x).length:=by rw[T4]; exact j
   have m:q<(Z1 y).length:=by rw[T4]; exact g
   rw[List.getD,gE l]at f;rw[List.getD,gE m]at b;rw[gE l,gE m];simp only[Option.getD_some]at f b;rw[f,b];rfl
  ·rw[List.getElem?_eq_none (by rw[T4,h.pas]; omega),List.getElem?_eq_none (by rw[List.length_map,T4]; omega)]
 unfold Y2;rw[d,List.map_map,List.map_map];refine List.map_congr_left fun v a=>?_
 obtain⟨i,n⟩:=mem_axis.1 a;have c:(at' x v).k=1:=by simpa[isP]using n
 show upN y (ρ v)=dl x.length e ρ (upN x v);unfold upN;rw[h.len,Zki h i,h.dn v i c]
 congr 1
 cases down x v<;>cases e<;>rfl
end
end Go.Known
end
