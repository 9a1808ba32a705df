/- Part 41 of the proof: Ef, Eg, AeWg. -/
import Derived.Test.YtilmpmlkndfbjaaGreatDoorR25
import Derived.Test.YtilmpmlkndfbjaaGreatDoorR26
import Derived.Test.YtilmpmlkndfbjaaGreatDoorR27
import Derived.Test.YtilmpmlkndfbjaaGreatDoorR29
import Derived.Test.YtilmpmlkndfbjaaGreatDoorR30
import Derived.Test.YtilmpmlkndfbjaaGreatDoorR34
import Derived.Test.YtilmpmlkndfbjaaGreatDoorR40
import Derived.Shelf.SlSortCmp.NoneTotal
import Derived.Test.YtilmpmlkndfbjaaGreatDoorProg
import Derived.Deep.QuietTactic
import Derived.BigQuiet
import Derived.RegionTactic
import Derived.ChangeAlike
import Derived.BigRegion
import Derived.Sort.Grow
import Derived.WalkKit
set_option linter.all false
section
namespace Go.Known
open Go.Plain
theorem Z8s(q a:Nat)(h:q<4)(f:a<4)(g:a % 2≠q % 2)(drawn c b:Bool) :
 (if c then ((if b then q else (q+2) % 4)+3) % 4 else ((if b then q else (q+2) % 4)+1) % 4) =
   (if (b == (((drawn == (q % 2 == 0)) != c) == (sgE (if q % 2=0 then q else a) (if q % 2=0 then a else q) drawn == 1)))then (a+2) % 4 else a):=by
 have d:q=0∨q=1∨q=2∨q=3:=by omega
 have e:a=0∨a=1∨a=2∨a=3:=by omega
 rcases d with rfl|rfl|rfl|rfl<;>rcases e with rfl|rfl|rfl|rfl<;>first|(exfalso; omega)|(cases drawn<;>cases c<;>cases b<;>rfl)
section
variable {m:Nat} {X:List Nd} {L:List (Nat×Nat)} (h:Rdg m X L) (hw:Whl m X L) {gs:List Nat} {F:Nat} (hPL:(plE 0 gs).length=m) (hgl:gs.length=F+1)
include h hw hPL hgl
theorem Zxo:(at' (Y0 m (plE 0 gs) X L) 0).k=1:=by
 have hm:=h.hm;rw[Zhd h hw hPL (t:=0) (by omega)]
 have:arE m L 0=0:=rfl;rw[this,if_pos (by omega)]
theorem Znt:Y0 m (plE 0 gs) X L≠[]:=fun e=>by
 have:=Zai h hw hPL (gs:=gs);rw[e]at this;have:=h.hm;simp at *;omega
theorem Z6h:Wv (Y0 m (plE 0 gs) X L):=Zza (f:=F) (by omega) (Zpf h hw hPL hgl) (Zxo h hw hPL hgl) (Znt h hw hPL hgl)
theorem Zsj{t:Nat}(d:t<m+2*X.length)(c:arE m L t<2*m):T8 t (Z4 (Y0 m (plE 0 gs) X L))=arE m L t / 2:=by
 have g:=Zpf h hw hPL hgl (F:=F);obtain⟨n,o,_⟩:=ValR.ranks (f:=F) (by omega) g
 have b:=Zai h hw hPL (gs:=gs);have j:(at' (Y0 m (plE 0 gs) X L) t).k=1:=by rw[Zhd h hw hPL d,if_pos c]
 have r:isP (at' (Y0 m (plE 0 gs) X L) t)=true:=by simp[isP,j]
 have hm:=K2 (ls:=Y0 m (plE 0 gs) X L) (i:=t) (by rw[b]; exact d)
 rw[Zor o n (by rw[b]; exact d) j,← Zth o n hm r,Zgp h hw hPL,Zif (fun l p=>by simp[isP,p])]
 have hi:arE m L t / 2<(plE 0 gs).length:=by omega
 have e:((plE 0 gs).map passL)[arE m L t / 2]? = some (at' (Y0 m (plE 0 gs) X L) t):=by
  rw[Zhc h hw hPL d];unfold ltA;rw[if_pos c,List.getElem?_map,gE hi,List.getD,gE hi];rfl
 rw[Zu3 (Zoz gs 0) (fun a c=>by obtain⟨q,_,rfl⟩:=List.mem_map.1 c; rfl) e]
 rfl
theorem Z3t{t:Nat}(d:t<m+2*X.length)(b:Bool):phE m (m+2*X.length) L (arr (m+2*X.length) t b)<2*m+4*X.length∧ptn L (phE m (m+2*X.length) L (arr (m+2*X.length) t b))=if b then arE m L t else wiE m (arE m L t):=by
 have e:=Znx d (!b);rw[Bool.not_not]at e;have c:T6 (m+2*X.length) t (!b)<2*(m+2*X.length):=Zgz d;have f:=Ydc h hw c;rw[e,Zlf d]at f;have a:(if (!b)=true then wiE m (arE m L t)else arE m L t)<2*m+4*X.length:=by
  split
  ·exact(F7 (P9 h t)).1
  ·exact P9 h t
 obtain⟨g,i,_⟩:=h.pt a;rw[f];refine⟨g,?_⟩;rw[i];cases b<;>rfl
theorem Zr4{d:Nat}(hd:d<2*(m+2*X.length)+2*m):tnE m X L (phE m (m+2*X.length) L d)=phE m (m+2*X.length) L (V1 (Y0 m (plE 0 gs) X L) (Z4 (Y0 m (plE 0 gs) X L)) d):=by
 have g:=Zai h hw hPL (gs:=gs);have l:=Zud h hw hPL;have hm:=h.hm;have k:∀ z,2*(m+2*X.length)≤z→phE m (m+2*X.length) L z=z:=fun z V=>by unfold phE; rw[if_neg (by omega)]
 have G:∀ p,p<m → ∃ v,v<m+2*X.length∧(Z4 (Y0 m (plE 0 gs) X L)).getD p 0=v∧arE m L v / 2=p∧arE m L v<2*m∧down (Y0 m (plE 0 gs) X L) v=(arE m L v % 2 == 0):=fun p S=>by
  obtain⟨v,r,H,O,D⟩:=Zmv (ls:=Y0 m (plE 0 gs) X L) (p:=p) (by rw[l]; exact S)
  rw[g]at r;have J:arE m L v<2*m:=by
   have:=Zhd h hw hPL (gs:=gs) r;rw[H]at this;split at this
   ·assumption
   ·cases this
  rw[Zsj h hw hPL hgl r J]at D;have f:=Zvl h hw hPL (gs:=gs) v r;unfold sdE at f;rw[if_pos J]at f;refine⟨v,r,O,D,J,?_⟩;rcases Nat.mod_two_eq_zero_or_one (arE m L v)with e|e
  ·rw[e]at f ⊢
   revert f
   cases down (Y0 m (plE 0 gs) X L) v<;>simp
  ·rw[e]at f ⊢
   revert f
   cases down (Y0 m (plE 0 gs) X L) v<;>simp
 by_cases hs:d<2*(m+2*X.length)
 ·obtain⟨t,b,s,rfl⟩:=Zfy hs;obtain⟨p1,n⟩:=Z3t h hw hPL hgl s b;have Y:=Ziz (ls:=Y0 m (plE 0 gs) X L) (v:=t) (by rw[g]; exact s) b
  rw[g,l,Zhd h hw hPL s]at Y;rw[Y];by_cases C:arE m L t<2*m
  ·rw[if_pos C,if_neg (by decide),Zsj h hw hPL hgl s C]
   have f:=Zvl h hw hPL (gs:=gs) t s;unfold sdE at f;rw[if_pos C]at f;have hi:arE m L t / 2<m:=by omega
   have Q:=Nat.mod_lt (arE m L t / 2+m - 1) hm;rw[Zgj C]at n;rcases Nat.mod_two_eq_zero_or_one (arE m L t)with e|e
   ·have A:down (Y0 m (plE 0 gs) X L) t=true:=by
     rw[e]at f
     revert f
     cases down (Y0 m (plE 0 gs) X L) t<;>simp
    rw[A];cases b with
    | true=>
     simp only[if_true]at n ⊢;rw[Zlb (i:=arE m L t / 2) p1 (by rw[n]; omega) hi,k _ (by omega)]
     omega
    | false=>
     simp only[bF,if_false]at n ⊢;rw[if_neg (by decide),Zkx (i:=arE m L t / 2) p1 (by rw[n]; unfold bkN; rw[if_pos e]; omega) hi,k _ (by omega)]
     omega
   ·have A:down (Y0 m (plE 0 gs) X L) t=false:=by
     rw[e]at f
     revert f
     cases down (Y0 m (plE 0 gs) X L) t<;>simp
    rw[A];cases b with
    | true=>
     simp only[if_true]at n ⊢;rw[if_neg (by decide),Zkx (i:=arE m L t / 2) p1 (by rw[n]; omega) hi,k _ (by omega)]
     omega
    | false=>
     simp only[bF,if_false]at n ⊢;rw[if_pos trivial,Zlb (i:=arE m L t / 2) p1 (by rw[n]; unfold bkN; rw[if_neg (by omega)]; omega) hi,k _ (by omega)]
     omega
  ·rw[if_neg C,if_pos rfl];obtain⟨j,q,hj,I,e⟩:=Zkf C (P9 h t);obtain⟨u,N,U,B,F,e',ho⟩:=Z9q h hw hPL (gs:=gs) s hj I e;rw[ho,Zlf U,e'];have en:=Zfx h hw s I e;have E:=Zfx h hw U B e';have aa:=Nat.mod_lt (q+2) (show 0<4 by omega)
   have V:(if b then q else (q+2) % 4)<4:=by split<;>assumption
   have p3:ptn L (phE m (m+2*X.length) L (arr (m+2*X.length) t b))=2*m+4*j+(if b then q else (q+2) % 4):=by
    rw[n,e,Zg6 I];cases b<;>rfl
   rw[Zyh p1 V p3,Zg6 B];have o:=Zhc h hw hPL (gs:=gs) s;rw[e]at o;unfold ltA at o;rw[if_neg (by omega),show (2*m+4*j+q - 2*m) / 4=j by omega,show (2*m+4*j+q - 2*m) % 4=q by omega]at o
   rw[o];simp only;have M:sgE (e0E m (arL m X L) j) (e1E m (arL m X L) j) (X.getD j (false,false)).1=sgE (if q % 2=0 then q else N) (if q % 2=0 then N else q) (X.getD j (false,false)).1:=by
    rcases Nat.mod_two_eq_zero_or_one q with c|c
    ·rw[if_pos c,if_pos c,en.1 c,E.2 (by omega)]
    ·rw[if_neg (by omega),if_neg (by omega),en.2 c,E.1 (by omega)]
   rw[M];have key:=Z8s q N I B F (X.getD j (false,false)).1 (X.getD j (false,false)).2 b;have l1:(if (X.getD j (false,false)).2=true then 2*m+4*j+((if b then q else (q+2) % 4)+3) % 4 else 2*m+4*j+((if b then q else (q+2) % 4)+1) % 4)=2*m+4*j+(if (X.getD j (false,false)).2=true then ((if b then q else (q+2) % 4)+3) % 4 else ((if b then q else (q+2) % 4)+1) % 4):=by split<;>rfl
   rw[l1,key];have w:∀ (c:Bool) (a x y:Nat),(a+if c=true then x else y)=if c=true then a+x else a+y:=fun c a x y=>by cases c<;>rfl
   exact w _ _ _ _
 ·rw[k d (by omega)]
  obtain⟨p,S⟩:∃ p,(d - 2*(m+2*X.length)) / 2=p:=⟨_,rfl⟩
  have K:p<m:=by omega
  have tr:=Zkl (ls:=Y0 m (plE 0 gs) X L) (p:=p);have Z:=Zms (ls:=Y0 m (plE 0 gs) X L) (p:=p);rw[g,l]at tr;rw[g]at Z;rcases Nat.mod_two_eq_zero_or_one d with e0|e0
  ·have ex:d=2*(m+2*X.length)+2*p:=by omega
   subst ex;obtain⟨v,r,H,O,D,P⟩:=G _ (Nat.mod_lt (p+1) hm);rw[tr,H,P,Zlf r,show 2*(m+2*X.length)+2*p=2*m+4*X.length+2*p by omega,Znr,Zgj D]
   rcases Nat.mod_two_eq_zero_or_one (arE m L v)with e|e
   ·rw[e];simp;omega
   ·rw[e];simp;unfold bkN;rw[if_neg (by omega)]
    omega
  ·have ex:d=2*(m+2*X.length)+2*p+1:=by omega
   subst ex;obtain⟨v,r,H,O,D,P⟩:=G p K;rw[Z,H,P,Zlf r,show 2*(m+2*X.length)+2*p+1=2*m+4*X.length+2*p+1 by omega,Zn5,Zgj D]
   rcases Nat.mod_two_eq_zero_or_one (arE m L v)with e|e
   ·rw[e];simp;unfold bkN;rw[if_pos e];omega
   ·rw[e];simp;omega
theorem Z05(P:F≤40)(H:m+2*X.length≤400)(Q:X.length≤100):ValR F (Y0 m (plE 0 gs) X L):=by
 have p:=Zai h hw hPL (gs:=gs);have q:=Zud h hw hPL;have s:=Zzi h hw hPL;have hm:=h.hm;refine⟨by rw[p]; exact H,by rw[s]; omega,by omega,by omega,Zxo h hw hPL hgl,by rw[q]; exact h.ev,Zpf h hw hPL hgl,?_⟩
 have u:=Zuv (Z6h h hw hPL hgl);rw[p,q]at u ⊢;rw[s,Nat.mul_div_cancel_left _ (by omega)]
 have j:∀ d,d<2*(m+2*X.length)+2*m→phE m (m+2*X.length) L d<2*(m+2*X.length)+2*m:=fun d g=>by
  by_cases t:d<2*(m+2*X.length)
  ·have:=Zo7 h t;omega
  ·unfold phE;rw[if_neg t];exact g
 have i:∀ d o,d<2*(m+2*X.length)+2*m→o<2*(m+2*X.length)+2*m→phE m (m+2*X.length) L d=phE m (m+2*X.length) L o→d=o:=fun d o g K e=>by
  have w:∀ z,¬z<2*(m+2*X.length)→phE m (m+2*X.length) L z=z:=fun z O=>by unfold phE; rw[if_neg O]
  by_cases t:d<2*(m+2*X.length)
  ·by_cases k:o<2*(m+2*X.length)
   ·exact Z9h h hw t k e
   ·have:=Zo7 h t;rw[w o k]at e;omega
  ·by_cases k:o<2*(m+2*X.length)
   ·have:=Zo7 h k;rw[w d t]at e;omega
   ·rw[w d t,w o k]at e;exact e
 have r:∀ e,e<2*(m+2*X.length)+2*m → ∃ d,d<2*(m+2*X.length)+2*m∧phE m (m+2*X.length) L d=e:=fun e f=>by
  have M:((List.range (2*(m+2*X.length)+2*m)).map (phE m (m+2*X.length) L)).Perm (List.range (2*(m+2*X.length)+2*m)):=by
   refine Zuh (Zgr (fun a b I J=>i a b (List.mem_range.1 I) (List.mem_range.1 J)) List.nodup_range) List.nodup_range (fun x N=>?_) (by simp)
   obtain⟨d,g,rfl⟩:=List.mem_map.1 N;exact List.mem_range.2 (j d (List.mem_range.1 g))
  obtain⟨d,g,D⟩:=List.mem_map.1 (M.mem_iff.2 (List.mem_range.2 f));exact⟨d,List.mem_range.1 g,D⟩
 obtain⟨ψ,c⟩:∃ ψ:Nat→Nat,∀ e,e<2*(m+2*X.length)+2*m→ψ e<2*(m+2*X.length)+2*m∧phE m (m+2*X.length) L (ψ e)=e:=by
  refine⟨fun e=>if f:e<2*(m+2*X.length)+2*m then Classical.choose (r e f)else 0,fun e f=>?_⟩
  simp only[dif_pos f];exact Classical.choose_spec (r e f)
 have B:=Zxh (T':=tnE m X L) (φ:=phE m (m+2*X.length) L) (ψ:=ψ) u j (fun e f=>(c e f).1) (fun d g=>i _ _ ((c _ (j d g)).1) g (c _ (j d g)).2) (fun e f=>(c e f).2) fun d g=>Zr4 h hw hPL hgl g
 rw[← B];have v:Perm1 (tnE m X L) (2*(m+2*X.length)+2*m):=by
  have e:∀ y,y<2*(m+2*X.length)+2*m→tnE m X L y=phE m (m+2*X.length) L (V1 (Y0 m (plE 0 gs) X L) (Z4 (Y0 m (plE 0 gs) X L)) (ψ y)):=fun y l=>by
   have:=Zr4 h hw hPL hgl (c y l).1;rwa[(c y l).2]at this
  refine⟨fun y l=>by rw[e y l]; exact j _ (u.lt _ (c y l).1),fun y A l n f=>?_⟩
  rw[e y l,e A n]at f;have E:=i _ _ (u.lt _ (c y l).1) (u.lt _ (c A n).1) f;have G:=u.inj _ _ (c y l).1 (c A n).1 E;rw[← (c y l).2,G,(c A n).2]
 have C:2*(m+2*X.length)+2*m=2*m+4*X.length+2*m:=by omega
 rw[C]at v ⊢;exact h.cy v
end
end Go.Known
end
section
namespace Go.Known
open Go Go.AE Go.Proofs
open Go.Plain
def M7(J:List Int)(a b:Nat):List Int:=(J.set a (b:Int)).set b (a:Int)
def knB(P:AVal)(J:AVal)(X:AVal):ABlk:=.cells 3 [[P,J,X]]
def ndL(x:Int×Nd):List AVal:=[.int .i64 x.1,.int .i64 (x.1+1),.int .i64 (x.1+2),.int .i64 (x.1+3),.bool x.2.1,.bool x.2.2]
theorem Zg3:∀ (l:List (Int×Nd)),W5 (l.map ndL)=true
 | []=>rfl
 | r :: l=>by
  have:=Zg3 l;simp only[List.map_cons,W5,ndL,X4,AVal.closed,Bool.and_true,Bool.true_and]at this ⊢;exact this
theorem Zf6{l:List Int}{i:Nat}(h:i<l.length):(Z2 l)[i]? = some [.int .i64 (l.getD i 0)]:=by
 unfold Z2;rw[List.getElem?_map,gE h,List.getD,gE h];rfl
theorem Zap(l:List Int):(Z2 l).length=l.length:=by unfold Z2; rw[List.length_map]
set_option maxRecDepth 100000 in
set_option maxHeartbeats 4000000 in
theorem Z6f(P:List (List AVal))(C:W5 P=true)(J:List Int)(c:List (Int×Nd))(a b:Nat)(z:a<J.length)(A:b<J.length) :
 Ctr Tryz.prog 53 [.ptr 1 0 0,.int .i64 a,.int .i64 b] ⟨(1,knB (imV P) (.sl 2 0 J.length) (slV 3 (c.map ndL))) :: (2,.cells 1 (Z2 J)) :: blV 3 6 (c.map ndL) [],4⟩ fun r m=>
  r=.tuple []∧m=⟨(1,knB (imV P) (.sl 2 0 J.length) (slV 3 (c.map ndL))) :: (2,.cells 1 (Z2 (M7 J a b))) :: blV 3 6 (c.map ndL) [],4⟩:=by
 refine Za1 hm Tryz.func53 cf76 rfl rfl fun K B=>?_
 have o:=Zlh P;have p:=Zk9 P;have s:∀ q,(imV P).ren q=imV P:=fun q=>AVal.ren_closed q _ (Zaq C)
 have u:∀ q,Z6 q (c.map ndL)=c.map ndL:=fun q=>X6 q _ (Zg3 _)
 have n:=Zap J;have g:=Zf6 z;obtain⟨_,h⟩:=Y5 g;have d:(J.set a (b:Int)).length=J.length:=List.length_set;have j:=Zf6 (l:=J.set a (b:Int)) (i:=b) (by rw[d]; exact A)
 obtain⟨_,k⟩:=Y5 j;have v:=Zl4 J a (b:Int);have w:=Zl4 (J.set a (b:Int)) b (a:Int);have e:=Zap (J.set a (b:Int));have t:∀ q,Z6 q (Z2 (M7 J a b))=Z2 (M7 J a b):=fun q=>X6 q _ (L5 _)
 unfold M7 at *;generalize imV P=F at *;generalize (J.set a (b:Int)).getD b 0=y at *;generalize J.getD a 0=x at *;generalize c.map ndL=L at *;generalize E:Z2 ((J.set a (b:Int)).set b (a:Int))=I at *;generalize D:Z2 (J.set a (b:Int))=H at *;generalize Z2 J=G at *;unfold knB at *;simp[o,p,z,A,n,g,h,v,e,d,j,k,w];exact Z9 B [(1,1),(2,2),(3,3)] (by simp +contextual [s,u,t])
end Go.Known
end
section
namespace Go.AE
open Go.RowKit
section
variable {k base n x:Nat} {rest:List (Nat×ABlk)}
def G2(base n x N:Nat)(l:List (Nat×Nat))(nx b:Nat):Nat:=if b=base+x∧x<n then N else if b<base then W3 l 0 b else if b<base+n then b else b - (base+n)+nx
def okN(n0 base lo nx N:Nat):List (Nat×Nat)→Prop
 | []=>True
 | (c,o) :: r=>(n0≤c∧c<base∧lo≤o∧o<nx∧o≠N ∧ ∀ p,p∈r→p.2≠o)∧okN n0 base lo nx N r
theorem Ziw{n0 base lo j N:Nat}:∀ {l:List (Nat×Nat)},okN n0 base lo j N l → ∀ b,W3 l 0 b=b∨(n0≤b∧lo≤W3 l 0 b∧W3 l 0 b<j∧W3 l 0 b≠N∧(b,W3 l 0 b)∈l)
 | [],_,b=>.inl rfl
 | (c,o) :: r,h,b=>by
  simp only[W3];split
  ·rename_i e;subst e;obtain⟨⟨a,i,d,f,g,_⟩,_⟩:=h;exact .inr ⟨a,d,f,g,List.mem_cons_self ..⟩
  ·rcases Ziw h.2 b with e|⟨a,i,d,f,g⟩
   ·exact .inl e
   ·exact .inr ⟨a,i,d,f,List.mem_cons_of_mem _ g⟩
theorem Zuj{n0 base lo n N:Nat}:∀ {l:List (Nat×Nat)},okN n0 base lo n N l → ∀ b d,b<lo→d<lo→W3 l 0 b=W3 l 0 d→b=d
 | [],_,b,d,_,_,e=>e
 | (c,o) :: r,h,b,d,g,i,e=>by
  obtain⟨⟨p,q,s,t,u,m⟩,a⟩:=h;have key:∀ z,z<lo→W3 r 0 z≠o:=fun z v e=>by
   rcases Ziw a z with f|⟨_,_,_,_,f⟩
   ·omega
   ·exact m _ f e
  simp only[W3]at e;split at e
  ·split at e
   ·rename_i j k; rw[j,k]
   ·exact absurd e.symm (key d i)
  ·split at e
   ·exact absurd e (key b g)
   ·exact Zuj a b d g i e
theorem WkR.famG{Q n0 N:Nat}{l:List (Nat×Nat)}{K e:Env}{m:SMem}{j:Nat→List (List AVal)}(O:n0≤base)(f:∀ c y,Z7 rest c=some y→c<base)(w:okN n0 base (base+n) m.next N l)(t:x<n→base+n≤N∧N<m.next)
 (M:SubRE (G2 base n x N l m.next) K e) (C:SubRB (G2 base n x N l m.next) rest m) (D:∀ y,y<n→y≠x→j y≠[]→m.get (base+y)=some (.cells k (j y)))
 (E:x<n→m.get N=some (.cells k (j x))) (B:∀ y,y<n→W5 (j y)=true):WkR Q n0 K ⟨K6 k base j n rest,base+n⟩ e m:=by
 have v:∀ y,y<n→(ABlk.cells k (j y)).ren (G2 base n x N l m.next)=.cells k (j y):=fun y o=>by
  rw[ABlk.ren,X6 _ _ (B y o)]
 refine WkR.of_q (q:=G2 base n x N l m.next) (by show n0≤base+n; omega) (fun b g=>?_) (fun b g=>?_) M (fun b y o=>?_) (fun b d y z o P a=>?_)
 ·unfold G2;rw[if_neg (by omega),if_pos (by omega)]
  rcases Ziw w b with e|⟨e,_⟩
  ·exact e
  ·omega
 ·show b<base+n;unfold G2 at g;split at g
  ·omega
  ·split at g
   ·omega
   ·split at g<;>omega
 ·rcases Zps n f o with⟨g,o⟩|⟨i,hi,rfl,G,rfl⟩
  ·exact C.get b y o
  ·rw[v i hi];by_cases u:i=x
   ·subst u;refine⟨_,?_,.inl rfl⟩;show m.get (G2 base n i N l m.next (base+i))=_;unfold G2;rw[if_pos ⟨rfl,hi⟩];exact E hi
   ·refine⟨_,?_,.inl rfl⟩;show m.get (G2 base n x N l m.next (base+i))=_;unfold G2;rw[if_neg (by omega),if_neg (by omega),if_pos (by omega)]
    exact D i hi u G
 ·have g:b<base+n:=by
   rcases Zps n f o with⟨g,_⟩|⟨i,hi,rfl,_,_⟩<;>omega
  have L:d<base+n:=by
   rcases Zps n f P with⟨g,_⟩|⟨i,hi,rfl,_,_⟩<;>omega
  have r:=Ziw w b;have s:=Ziw w d;have F:=Zuj w b d (by omega) (by omega)
  unfold G2 at a;generalize W3 l 0 b=H at *;generalize W3 l 0 d=I at *;have r:H=b∨(base+n≤H∧H≠N):=r.imp id fun h=>⟨h.2.1,h.2.2.2.1⟩
  have s:I=d∨(base+n≤I∧I≠N):=s.imp id fun h=>⟨h.2.1,h.2.2.2.1⟩
  by_cases A:b=base+x∧x<n
  ·rw[if_pos A]at a;by_cases p:d=base+x∧x<n
   ·omega
   ·rw[if_neg p]at a;have:=t A.2;split at a
    ·omega
    ·first|omega|(split at a<;>omega)
  ·rw[if_neg A]at a;by_cases p:d=base+x∧x<n
   ·rw[if_pos p]at a;have:=t p.2;split at a
    ·omega
    ·first|omega|(split at a<;>omega)
   ·rw[if_neg p]at a;by_cases J:b<base
    ·rw[if_pos J]at a;by_cases c4:d<base
     ·rw[if_pos c4]at a;exact F a
     ·rw[if_neg c4,if_pos L]at a;omega
    ·rw[if_neg J,if_pos g]at a;by_cases c4:d<base
     ·rw[if_pos c4]at a;omega
     ·rw[if_neg c4,if_pos L]at a;exact a
theorem S8{N:Nat}{l:List (Nat×Nat)}{a b:Nat}(h:b<base):G2 base n x N l a b=W3 l 0 b:=by unfold G2; rw[if_neg (by omega),if_pos h]
theorem Z9v{N:Nat}{l:List (Nat×Nat)}{a:Nat}(h:x<n):G2 base n x N l a (base+x)=N:=by unfold G2; rw[if_pos ⟨rfl,h⟩]
theorem Zf1{N:Nat}{l:List (Nat×Nat)}{a y:Nat}(h:y<n)(b:y≠x):G2 base n x N l a (base+y)=base+y:=by unfold G2; rw[if_neg (by omega),if_neg (by omega),if_pos (by omega)]
theorem Zy3{F:Nat→List (List AVal)}(q:Nat→Nat):Z6 q (L7 base n F)=(List.range n).map fun x=>[slV (q (base+x)) (F x)]:=by
 unfold L7;rw[Zah,List.map_map];refine List.map_congr_left fun x _=>?_
 show U7 q [slV (base+x) (F x)]=_;simp only[U7,List.map_cons,List.map_nil,Znm]
theorem Zak{N:Nat}{l:List (Nat×Nat)}{b:Nat}{F:Nat→List (List AVal)}:Z6 (G2 base n n N l b) (L7 base n F)=L7 base n F:=by
 rw[Zy3];unfold L7;refine List.map_congr_left fun x a=>?_
 have:=List.mem_range.1 a;rw[Zf1 (by omega) (by omega)]
theorem Zm8{N:Nat}{l:List (Nat×Nat)}{c:Nat}{F:Nat→List (List AVal)}{R:List (List AVal)}(b:x<n):Z6 (G2 base n x N l c) (L7 base n (updF F x R))=(L7 base n F).set x [slV N R]:=by
 rw[Zy3];unfold L7;refine List.ext_getElem (by simp) fun i a d=>?_
 simp only[List.length_map,List.length_range]at a;rw[List.getElem_set];simp only[List.getElem_map,List.getElem_range];by_cases hi:i=x
 ·subst hi;rw[if_pos rfl,Zjv,Z9v b]
 ·rw[if_neg (fun e=>hi e.symm),Zie hi,Zf1 a hi]
theorem Zra{c:Nat}{F:Nat→List (List AVal)}(h:c<base):Z7 (K6 k base F n rest) c=Z7 rest c:=Zjt n (.inl h)
theorem Zqh{c:Nat}{F:Nat→List (List AVal)}(h:c<base):S3 (K6 k base F n rest) c=K6 k base F n (S3 rest c):=Zyv n (.inl h)
theorem Zip{B c:Nat}{y:ABlk}:∀ {l:List (Nat×ABlk)},(∀ p,p∈l→p.1<B)→Z7 l c=some y→c<B
 | [],_,h=>by simp[Z7]at h
 | (d,x) :: r,a,h=>by
  simp only[Z7]at h;split at h
  ·rename_i e;have:=a (d,x) (List.mem_cons_self ..);rw[e]; exact this
  ·exact Zip (fun p b=>a p (List.mem_cons_of_mem _ b)) h
theorem Ziv{b k:Nat}{rows:List (List AVal)}{rest:List (Nat×ABlk)}{p:Nat×ABlk}(h:p∈blV b k rows rest):p.1=b∨p∈rest:=by
 unfold blV at h;split at h
 ·exact .inr h
 ·rcases List.mem_cons.1 h with rfl|h
  ·exact .inl rfl
  ·exact .inr h
end
end Go.AE
end
