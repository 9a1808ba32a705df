/- Part 27 of the proof: AeYd. -/
import Derived.Test.YtilmpmlkndfbjaaGreatDoorR3
import Derived.Test.YtilmpmlkndfbjaaGreatDoorR12
import Derived.Test.YtilmpmlkndfbjaaGreatDoorR25
import Derived.Test.YtilmpmlkndfbjaaGreatDoorR26
set_option linter.all false
namespace Go.AE
open Go.RowKit
section
variable {P:Program} {n base:Nat}
theorem Zpq{s:CallW}(a:∀ fn args m id K,cwFn P fn args m id K→s fn args m id K){K:Env→SMem→Prop}{p:ASt→Prop}(l:∀ e m,K e m→p ⟨toE n e,m.mem⟩):∀ (k:List AOper) (i:Nat) (e:Env) (m:SMem),
 U3 P false n base k i K e m→I4 stepA s base k i p (toE n e) m.mem
 | [],_,_,_,h=>l _ _ h
 | o :: r,i,e,m,h=>by
  simp only[U3]at h;simp only[I4,Zh7];cases z:U0 n e o.guard with
  | none=>rw[z]at h; exact h
  | some q=>
   rw[z]at h;cases q with
   | false=>
    simp only[G7];exact Zpq a l r _ _ _ h
   | true=>
    simp only[gdK]at h;simp only;have b:∀ op,stK (stepD (base+i) (evE n e) m.get op) (fun v d=>U3 P false n base r (i+1) K (Y3 e o.dst v) (m.app d)) →
     (match stepA (base+i) (toE n e) m.mem op with|some (v,A)=>I4 stepA s base r (i+1) p (put (toE n e) o.dst v) A|none=>False):=by
     intro op c;cases y:stepD (base+i) (evE n e) m.get op with
     | none=>rw[y]at c; exact c.elim
     | some D=>
      obtain⟨v,d⟩:=D;rw[y]at c;have:=Zgw (t:=toE n e) (m:=m.mem) (op:=op) (v:=v) (d:=d) (id:=base+i) (by rw[F1]; exact y)
      rw[this];simp only[G7];rw[← SMem.app_mem];exact Zpq a l r _ _ _ c
    cases j:o.op with
    | call f E=>
     simp only[j]at h;simp only;cases u:W8 n e f E with
     | none=>rw[u]at h; exact h.elim
     | some B=>
      obtain⟨g,args⟩:=B;rw[u]at h;rw[Z0d u];simp only;refine a _ _ _ _ _ ⟨g,rfl,?_⟩;refine ACalls.mono (h:SC P g args m (base+i) _) fun v C c=>?_
      obtain⟨A,rfl,w⟩:=c;simp only[G7];exact Zpq a l r _ _ _ w
    | _=>rw[j]at h; exact b _ h
def wpR(P:Program)(n:Nat):ACode→(Exit→Env→SMem→Prop)→Env→SMem→Prop
 | .skip,Q,e,m=>Q .normal e m
 | .region false ops,Q,e,m=>U3 P false n m.next ops 0 (Q .normal) e (m.at (m.next+ops.length))
 | .seq x y,Q,e,m=>wpR P n x (M2 (wpR P n y Q) Q) e m
 | .cond c x y,Q,e,m=>Zew (evE n e c) (wpR P n x Q e m) (wpR P n y Q e m)
 | .block id c,Q,e,m=>wpR P n c (G3 id Q) e m
 | .ret,Q,e,m=>Q .ret e m
 | _,_,_,_=>False
def setE(e:Env):List (Nat×AVal)→Env
 | []=>e
 | (i,x) :: r=>setE ((i,x) :: e) r
end
structure Yd where
 b:Nat
 n:Nat
 ps:List Nat
 e:Env
 A:ACode
 B:ACode
 wr:List FuncId:=[]
def YC(P:Program)(y:Yd)(args:List AVal)(m:SMem)(K:AVal→SMem→Prop):Prop:=
 args.length=y.ps.length∧wpR P y.n y.A (fun x e m=>match x with
  | .normal=>wpR P y.n y.B (fun x _ m=>match x with
   | .normal=>K (.bool true) m
   | _=>False) e m
  | _=>False) (setE y.e (y.ps.zip args)) m
section
variable {P:Program} {y:Yd} {n n0 base:Nat}
def yops(P:Program)(y:Yd)(n base:Nat):List AOper→Nat→(Env→SMem→Prop)→Env→SMem→Prop
 | [],_,K,e,m=>K e m
 | o :: r,i,K,e,m=>gdK (U0 n e o.guard)
  (match o.op with
  | .call f xs=>(match evE n e f with
   | .yld b=>b=y.b∧YC P y (xs.map (evE n e)) m fun v m'=>yops P y n base r (i+1) K (Y3 e o.dst v) m'
   | _=>False)
  | op=>stK (stepD (base+i) (evE n e) m.get op) fun v d=>yops P y n base r (i+1) K (Y3 e o.dst v) (m.app d))
  (yops P y n base r (i+1) K (Y3 e o.dst aundef) m)
def WC(P:Program)(g:FuncId)(args:List AVal)(k:Nat)(x:List Nat)(m:SMem)(K:List Nat→AVal→SMem→Prop):Prop:=
 ∃ wl v,∃ m':SMem,Zfh P g args k x m.mem v m'.mem wl∧K wl v m'
def xdw(P:Program)(keep:List Nat)(n base:Nat):List AOper→Nat→List (Nat×FT)→(Env→SMem→Prop)→Env→SMem→Prop
 | [],_,_,K,e,m=>K e m
 | o :: r,i,fs,K,e,m=>match U0 n e o.guard with
  | some true=>(match o.op with
   | .call f xs=>(match W8 n e f xs with
    | some (g,args)=>WC P g args (base+i) (xOf base i r.length) m fun wl v m'=>L8 fs (.call wl (xOf base i r.length) m.next) o.un∧xdw P keep n base r (i+1) (P5 keep i (.call wl (xOf base i r.length) m.next) fs) K (Y3 e o.dst v) m'
    | none=>False)
   | op=>(match stepD (base+i) (evE n e) m.get op with
    | some (v,d)=>L8 fs (.ops (V7 (base+i) (evE n e) op) (V8 (evE n e) op)) o.un∧xdw P keep n base r (i+1) (P5 keep i (.ops (V7 (base+i) (evE n e) op) (V8 (evE n e) op)) fs) K (Y3 e o.dst v) (m.app d)
    | none=>False))
  | some false=>xdw P keep n base r (i+1) (P5 keep i (.ops [] []) fs) K (Y3 e o.dst aundef) m
  | none=>False
theorem Zl2{keep:List Nat}{K:Env→SMem→Prop}:∀ (s:List AOper) (k:List (Nat×FT)) (gs:List FT) (e:Env) (m:SMem),
 (∀ j f,L3 k j=some f→gs.getD j (.ops [] [])=f∧j<gs.length)→xdw P keep n base s gs.length k K e m→Q4 P base s gs (fun A=>∃ e m,A=⟨toE n e,SMem.mem m⟩∧K e m) (toE n e) m.mem
 | [],_,_,e,m,_,h=>⟨e,m,rfl,h⟩
 | o :: r,k,gs,e,m,y,h=>by
  have p:∀ f:FT,(gs++[f]).length=gs.length+1:=fun f=>by simp
  have c:∀ f,∀ j g,L3 (P5 keep gs.length f k) j=some g→(gs++[f]).getD j (.ops [] [])=g∧j<(gs++[f]).length:=by
   intro f j g a;have old:∀ j g,L3 k j=some g→(gs++[f]).getD j (.ops [] [])=g∧j<(gs++[f]).length:=fun j g u=>by
    obtain⟨w,H⟩:=y j g u;refine⟨?_,by rw[p]; omega⟩
    rw[List.getD_eq_getElem?_getD,List.getElem?_append_left H,← List.getD_eq_getElem?_getD];exact w
   unfold P5 at a;cases hm:Y8 gs.length keep with
   | false=>rw[hm]at a; exact old j g a
   | true=>
    rw[hm]at a;simp only[cond_true,L3]at a;split at a
    ·rename_i E;injection a with a
     subst a; subst E;refine⟨?_,by rw[p]; omega⟩
     rw[List.getD_eq_getElem?_getD,List.getElem?_append_right (Nat.le_refl _)];simp
    ·exact old j g a
  simp only[xdw]at h;simp only[Q4,Zh7];cases C:U0 n e o.guard with
  | none=>rw[C]at h; exact h
  | some b=>
   rw[C]at h;cases b with
   | false=>
    simp only[G7];exact Zl2 r _ _ _ _ (c _) (by rw[p]; exact h)
   | true=>
    simp only at h ⊢;have l:∀ op,(match stepD (base+gs.length) (evE n e) m.get op with
     | some (v,d)=>L8 k (.ops (V7 (base+gs.length) (evE n e) op) (V8 (evE n e) op)) o.un∧xdw P keep n base r (gs.length+1) (P5 keep gs.length (.ops (V7 (base+gs.length) (evE n e) op) (V8 (evE n e) op)) k) K (Y3 e o.dst v) (m.app d)
     | none=>False) →
     (match stepA (base+gs.length) (toE n e) m.mem op with|some (v,D)=>S7 gs (.ops (S4 (base+gs.length) (toE n e) op) (J0 (toE n e) op)) o.un∧Q4 P base r (gs++[.ops (S4 (base+gs.length) (toE n e) op) (J0 (toE n e) op)]) (fun A=>∃ e m,A=⟨toE n e,SMem.mem m⟩∧K e m) (put (toE n e) o.dst v) D|none=>False):=by
     intro op i;cases z:stepD (base+gs.length) (evE n e) m.get op with
     | none=>rw[z]at i; exact i.elim
     | some I=>
      obtain⟨v,d⟩:=I;rw[z]at i;have:=Zgw (m:=m.mem) (t:=toE n e) (id:=base+gs.length) (op:=op) (v:=v) (d:=d) (by rw[F1]; exact z)
      rw[this];simp only[G7,Zkv,Zl5,F1];rw[← SMem.app_mem];exact⟨Zkg (fun j f a=>(y j f a).1) i.1,Zl2 r _ _ _ _ (c _) (by rw[p]; exact i.2)⟩
    cases q:o.op with
    | call f J=>
     simp only[q]at h;simp only[Zj5];cases B:W8 n e f J with
     | none=>rw[B]at h; exact h
     | some F=>
      obtain⟨g,args⟩:=F;rw[B]at h;obtain⟨wl,v,D,u,G,w⟩:=h;refine⟨wl,_,v,_,u,Zkg (fun j f a=>(y j f a).1) G,?_⟩
      simp only[G7];exact Zl2 r _ _ _ _ (c _) (by rw[p]; exact w)
    | _=>(have i:=l o.op; rw[q]at h i; exact i h)
def K9(l:List FuncId):AOp→Bool
 | .call (.fn g) _=>Y8 g l
 | _=>false
def isW(l:List FuncId):AOper→Bool
 | ⟨_,op,_,_⟩=>K9 l op
def subK(q:Nat→Nat)(n:Nat)(ks:List Nat):List (Nat×ABlk)→Bool
 | []=>true
 | (d,_) :: r=>(Y8 (q d) ks||Nat.ble n d)&&subK q n ks r
theorem Zwk{q:Nat→Nat}{n:Nat}{ks:List Nat}:∀ {l:List (Nat×ABlk)},subK q n ks l=true → ∀ d y,Z7 l d=some y→q d∈ks∨n≤d
 | [],_,d,y,h=>by simp[Z7]at h
 | (c,x) :: r,b,d,y,h=>by
  simp only[subK,bA,Bool.or_eq_true]at b;simp only[Z7]at h;split at h
  ·rename_i e;subst e;rcases b.1 with a|a
   ·exact .inl (memN_iff.1 a)
   ·exact .inr (Nat.le_of_ble_eq_true a)
  ·exact Zwk b.2 d y h
theorem Zfq{g:FuncId}{args0 args:List AVal}{m0 f m:SMem}{v0:AVal}{k:Nat}{x:List Nat}{K:List Nat→AVal→SMem→Prop}(h:Ctr P g args0 m0 fun r V=>r=v0∧V=f)(aa:m0.next≤f.next)(l:List (Nat×Nat))(Y:U7 (qOf l 0 m0.next m.next) args0=args)
 (Q:SubRB (qOf l 0 m0.next m.next) m0.bl m) (hi:InjK (qOf l 0 m0.next m.next) m0.bl) (u:subK (qOf l 0 m0.next m.next) m0.next (M5 (qOf l 0 m0.next m.next) m0.bl) f.bl=true) (hk:k∉x) (U:∀ b,b∈M5 (qOf l 0 m0.next m.next) m0.bl→b∉x)
 (I:∀ c,c∈x→m.get c=none) (s:∀ c,c∈x→Z7 (J3 (qOf l 0 m0.next m.next) f.bl (Q6 (M5 (qOf l 0 m0.next m.next) m0.bl) m.bl)) c=none)
 (X:K (M5 (qOf l 0 m0.next m.next) m0.bl) (v0.ren (qOf l 0 m0.next m.next)) ⟨J3 (qOf l 0 m0.next m.next) f.bl (Q6 (M5 (qOf l 0 m0.next m.next) m0.bl) m.bl),f.next - m0.next+m.next⟩):WC P g args k x m K:=by
 subst Y;refine⟨_,_,_,?_,X⟩;obtain⟨q,O⟩:∃ q,qOf l 0 m0.next m.next=q:=⟨_,rfl⟩
 have C:∀ c,m0.next≤c→q c=c - m0.next+m.next:=fun c j=>by
  rw[← O];simp only[qOf,Nat.not_lt_zero,if_false];rw[if_neg (by omega)]
 rw[O]at Q hi u U s ⊢;obtain⟨A,p⟩:∃ A:SMem,A=⟨J3 q f.bl (Q6 (M5 q m0.bl) m.bl),f.next - m0.next+m.next⟩:=⟨_,rfl⟩
 have i:∀ c,A.mem.get c=Z7 (J3 q f.bl (Q6 (M5 q m0.bl) m.bl)) c:=fun c=>by rw[p]; rfl
 rw[← p];refine⟨A.mem,hk,fun c j=>by rw[i]; exact s c j,?_,rfl,fun c=>?_,fun c S B j=>?_,?_⟩
 ·show m.next≤A.next;rw[p];show m.next≤f.next - m0.next+m.next;omega
 ·by_cases j:c∈x
  ·rw[if_pos j,i,s c j];exact(I c j).symm
  ·rw[if_neg j]
 ·rw[i];cases v:Z7 (J3 q f.bl (Q6 (M5 q m0.bl) m.bl)) c with
  | some y=>
   rcases Zm5 v with⟨d,z,n,o,N⟩|n
   ·exfalso;rcases Zwk u d z n with F|F
    ·exact S (o ▸ F)
    ·rw[o,C d F]at B;have:d - m0.next+m.next<m.next:=B;omega
   ·exact(Zhz n).1.symm
  | none=>
   cases hz:m.mem.get c with
   | none=>rfl
   | some z=>
    exfalso;have n:Z7 (Q6 (M5 q m0.bl) m.bl) c=some z:=by
     have:∀ l:List (Nat×ABlk),Z7 l c=some z→Z7 (Q6 (M5 q m0.bl) l) c=some z:=by
      intro l
      induction l with
      | nil=>intro h; simp[Z7]at h
      | cons a r E=>
       obtain⟨d,w⟩:=a;intro h;simp only[Z7]at h;simp only[Q6];cases hm:Y8 d (M5 q m0.bl)with
       | true=>
        simp only[cond_true];refine E ?_;rw[if_neg (fun e:c=d=>S (by rw[e]; exact memN_iff.1 hm))]at h
        exact h
       | false=>
        simp only[cond_false,Z7];split
        ·rename_i e; rw[if_pos e]at h; exact h
        ·rename_i e; rw[if_neg e]at h; exact E h
     exact this _ hz
    have o:∀ (l t:List (Nat×ABlk)),Z7 t c=some z→Z7 (J3 q l t) c≠none:=by
     intro l t ht
     induction l with
     | nil=>simp only[J3]; rw[ht]; simp
     | cons a r E=>
      obtain⟨d,w⟩:=a;simp only[J3,Z7];split
      ·simp
      ·exact E
    exact o _ _ n v
 ·refine Zo6 h (m:=m.mem.less x) (q:=q) (fun c y v=>?_) (fun c c' y y' v J=>hi.get c c' y y' v J) C (fun r0 m1 Z=>?_) [k]
  ·have hn:q c∉x:=U _ (Zj4 v);obtain⟨z,L,M⟩:=Q.get c y v;refine⟨z,?_,M⟩;show(if q c∈x then none else m.mem.get (q c))=some z
   rw[if_neg hn];exact L
  ·obtain⟨V,rfl,rfl,rfl⟩:=Z;refine⟨A.mem,by rw[p]; rfl,fun b y D=>?_,rfl,rfl⟩
   have G:b∉x:=fun H=>by
    rw[i,s b H]at D;cases D
   rw[i]at D;rcases Zm5 D with⟨c,z,n,o,N⟩|n
   ·exact .inl ⟨c,z,n,o,N⟩
   ·have o:=Zhz n;refine .inr ⟨?_,fun c z j e=>o.2 (e ▸ Zj4 j)⟩
    show(if b∈x then none else m.mem.get b)=some y
    rw[if_neg G];exact o.1
def I3:AOp→Bool
 | .call (.tmp _) _=>true
 | _=>false
def isY:AOper→Bool
 | ⟨_,op,_,_⟩=>I3 op
def HB(H:HypW)(n0:Nat):HypW:=fun W Φ ρ=>∃ Φ0 ρ0,H W Φ0 ρ0∧(∀ b l,ρ0 b=some l→b<n0)∧(∀ B c,Φ0 B=some c→Φ B=some c) ∧ ∀ b,b<n0→ρ b=ρ0 b
theorem HB.get{H:HypW}(j:H.Mono){n0:Nat}{W:Base}{Φ:Pers}{ρ:Rho}(h:HB H n0 W Φ ρ):H W Φ ρ:=by
 obtain⟨a,c,e,f,g,i⟩:=h;exact j W a c Φ ρ e ⟨g,fun b l d=>by rw[i b (f b l d)]; exact d⟩
theorem ACallsH.mono{H:HypW}{f:FuncId}{args:List AVal}{m:Mem}{K c:AVal→Mem→Prop}(h:ACallsH H P f args m K)(q:∀ r a,K r a→c r a):ACallsH H P f args m c:=by
 refine⟨h.1,fun W Φ ρ o vs w s p=>(h.2 W Φ ρ o vs w s p).mono ?_⟩
 rintro e w' ⟨v,r,a,b,ρ',d,g,i,j,k,l,n⟩;exact⟨v,r,a,b,ρ',d,g,i,j,k,l,q _ _ n⟩
theorem Z5g{g:FuncId}{args0 args:List AVal}{v0:AVal}(h:PCall P g args0 v0)(q:match v0 with | .int _ _ | .bool _=>True|_=>False){m:Mem}(S:List Nat)(F:args.map (fzV m.get S)=args0)(A:List Nat):ACalls P g args m A fun r z=>r=v0∧z=m:=by
 subst F;have s:=h ⟨fun _=>none,m.next⟩ []
 refine⟨s.1,fun W Φ ρ vs w n a G=>?_⟩
 obtain⟨Φs,M,C,N,O,D⟩:=Zht S n;have k:RL Φs ρ (args.map (fzV m.get S)) vs:=by
  refine⟨by rw[a.1,List.length_map],fun i x v d q=>?_⟩
  rw[List.getElem?_map]at d;cases f:args[i]? with
  | none=>rw[f]at d; cases d
  | some y=>
   rw[f]at d;injection d with d
   subst d;exact D _ _ (a.2 i y v f q)
 refine(s.2 ⟨w,fun _=>none,Φs⟩ Φs ρ vs w ⟨⟨Below.refl _ _,fun B o j=>(by cases j)⟩,C,fun b y f=>(by cases f),fun b b' y V l l' E=>(by cases E),fun b l J=>n.fresh b l J,fun B c j=>.inl j⟩ k (fun b H=>by simp at H)).mono fun e w' I=>?_
 obtain⟨u,r,z,L,ρ',rfl,Q,U,p,t,K,rfl,rfl⟩:=I;refine⟨u,r,m,Φ,ρ,rfl,.refl _ _,fun b _ _ h=>h,n.below p.base.below,?_,Nat.le_refl _,rfl,rfl⟩
 cases r<;>first|exact q.elim|skip
 ·cases t; exact .bool _
 ·cases t; exact .int _ _
def B7(get:Nat→Option ABlk)(x:List Nat)(c:Nat):Option ABlk:=bif Y8 c x then none else get c
theorem Ybs{g:FuncId}{args0 args:List AVal}{v0:AVal}(h:PCall P g args0 v0)(i:match v0 with | .int _ _ | .bool _=>True|_=>False){m:SMem}{x:List Nat}(S:List Nat)(f:args.map (fzV (B7 m.get x) S)=args0){k:Nat}{K:AVal→Option ABlk→Prop}(d:K v0 none):DC P g args k x m K:=by
 refine⟨v0,none,?_,d⟩;refine Z5g h i S ?_ [k];have e:(m.mem.less x).get=B7 m.get x:=by
  funext c
  unfold B7;show(if c∈x then none else m.get c)=_
  by_cases a:c∈x
  ·rw[if_pos a,memN_iff.2 a]; rfl
  ·rw[if_neg a];cases b:Y8 c x with
   | false=>rfl
   | true=>exact absurd (memN_iff.1 b) a
 rw[e];exact f
variable {Q:Exit→Env→SMem→Prop} {K:Env→SMem→Prop} {e:Env} {m:SMem}
theorem Zeo{keep:List Nat}{i:Nat}{a:List (Nat×FT)}:xdw P keep n base [] i a K e m=K e m:=propext Iff.rfl
theorem Zez{keep:List Nat}{i:Nat}{a:List (Nat×FT)}(d:Option Nat)(op:AOp)(un:List Nat)(r:List AOper):xdw P keep n base (⟨d,op,none,un⟩ :: r) i a K e m=match op with
 | .call f c=>(match W8 n e f c with
  | some (g,args)=>WC P g args (base+i) (xOf base i r.length) m fun wl v b=>L8 a (.call wl (xOf base i r.length) m.next) un∧xdw P keep n base r (i+1) (P5 keep i (.call wl (xOf base i r.length) m.next) a) K (Y3 e d v) b
  | none=>False)
 | op=>(match stepD (base+i) (evE n e) m.get op with
  | some (v,w)=>L8 a (.ops (V7 (base+i) (evE n e) op) (V8 (evE n e) op)) un∧xdw P keep n base r (i+1) (P5 keep i (.ops (V7 (base+i) (evE n e) op) (V8 (evE n e) op)) a) K (Y3 e d v) (m.app w)
  | none=>False):=by
 cases op<;>rfl
@[congr] theorem Yeo{g : FuncId}{args args' : List AVal}{k : Nat}{x : List Nat}{m : SMem}{K : List Nat → AVal → SMem → Prop}(h : args = args') : WC P g args k x m K = WC P g args' k x m K := by rw [h]
end
section
theorem Ycc(d:Option Nat)(op:AOp)(g:Option (Nat×Bool))(un:List Nat):isY ⟨d,op,g,un⟩=I3 op:=rfl
theorem Ycf(f:FuncId)(a:List AOpd):I3 (.call (.fn f) a)=false:=rfl
theorem Z8j(t:Nat)(a:List AOpd):I3 (.call (.tmp t) a)=true:=rfl
theorem Z6z(l:List FuncId)(d:Option Nat)(op:AOp)(g:Option (Nat×Bool))(un:List Nat):isW l ⟨d,op,g,un⟩=K9 l op:=rfl
theorem Z35(l:List FuncId)(f:FuncId)(a:List AOpd):K9 l (.call (.fn f) a)=Y8 f l:=rfl
theorem Yav(l:List FuncId)(t:Nat)(a:List AOpd):K9 l (.call (.tmp t) a)=false:=rfl
theorem Z1s(x:AOpd):I3 (.mov x)=false:=rfl
theorem Z8i(l:List FuncId)(x:AOpd):K9 l (.mov x)=false:=rfl
theorem Ycl(n:Option Nat)(x:AOpd):I3 (.load n x)=false:=rfl
theorem Z1x(l:List FuncId)(n:Option Nat)(x:AOpd):K9 l (.load n x)=false:=rfl
theorem Ya8(n:Nat)(a x:AOpd):I3 (.store n a x)=false:=rfl
theorem Z71(l:List FuncId)(n:Nat)(a x:AOpd):K9 l (.store n a x)=false:=rfl
theorem Z5p(o:Nat)(x:AOpd):I3 (.fieldA o x)=false:=rfl
theorem Z17(l:List FuncId)(o:Nat)(x:AOpd):K9 l (.fieldA o x)=false:=rfl
theorem Z4y(k:Nat)(x i:AOpd):I3 (.idxA k x i)=false:=rfl
theorem Ybe(l:List FuncId)(k:Nat)(x i:AOpd):K9 l (.idxA k x i)=false:=rfl
theorem Yci(x:AOpd):I3 (.lenSl x)=false:=rfl
theorem Z0s(l:List FuncId)(x:AOpd):K9 l (.lenSl x)=false:=rfl
theorem Z62(x:AOpd):I3 (.nilChk x)=false:=rfl
theorem Z5r(l:List FuncId)(x:AOpd):K9 l (.nilChk x)=false:=rfl
theorem Zzm(o:UnOp)(x:AOpd):I3 (.un o x)=false:=rfl
theorem Z4g(l:List FuncId)(o:UnOp)(x:AOpd):K9 l (.un o x)=false:=rfl
theorem Z2h(c a b:AOpd):I3 (.pick c a b)=false:=rfl
theorem Z29(l:List FuncId)(c a b:AOpd):K9 l (.pick c a b)=false:=rfl
theorem Z8p(o:BinOp)(q:EqT)(x y:AOpd):I3 (.bin o q x y)=false:=rfl
theorem Yal(l:List FuncId)(o:BinOp)(q:EqT)(x y:AOpd):K9 l (.bin o q x y)=false:=rfl
theorem Z7n(z:List AVal):I3 (.alloc z)=false:=rfl
theorem Yaj(l:List FuncId)(z:List AVal):K9 l (.alloc z)=false:=rfl
theorem Yah(z:List AVal)(p:List (Nat×Nat×AOpd)):I3 (.build z p)=false:=rfl
theorem Z4u(l:List FuncId)(z:List AVal)(p:List (Nat×Nat×AOpd)):K9 l (.build z p)=false:=rfl
theorem Z4l(k n:Nat)(z:List AVal)(p:List (Nat×AOpd)):I3 (.mkSl k n z p)=false:=rfl
theorem Ybh(l:List FuncId)(k n:Nat)(z:List AVal)(p:List (Nat×AOpd)):K9 l (.mkSl k n z p)=false:=rfl
theorem Z2f(k b:Nat)(z:List AVal)(s x:AOpd):I3 (.append k b z s x)=false:=rfl
theorem Z2d(l:List FuncId)(k b:Nat)(z:List AVal)(s x:AOpd):K9 l (.append k b z s x)=false:=rfl
theorem Z49(t:KeyT)(z:AVal)(o:Bool)(x i:AOpd):I3 (.lookup t z o x i)=false:=rfl
theorem Z3y(l:List FuncId)(t:KeyT)(z:AVal)(o:Bool)(x i:AOpd):K9 l (.lookup t z o x i)=false:=rfl
theorem Z7s(t:KeyT)(a b c:AOpd):I3 (.mapUpd t a b c)=false:=rfl
theorem Z1o(l:List FuncId)(t:KeyT)(a b c:AOpd):K9 l (.mapUpd t a b c)=false:=rfl
theorem Z9o:I3 (.mkMap)=false:=rfl
theorem Z7u(l:List FuncId):K9 l (.mkMap)=false:=rfl
attribute [simp] Ycc Ycf Z8j Z6z Z35 Yav Z1s Z8i Ycl Z1x Ya8 Z71 Z5p Z17 Z4y Ybe Yci Z0s Z62 Z5r Zzm Z4g Z2h Z29 Z8p Yal Z7n Yaj Yah Z4u Z4l Ybh Z2f Z2d Z49 Z3y Z7s Z1o Z9o Z7u
end
end Go.AE
