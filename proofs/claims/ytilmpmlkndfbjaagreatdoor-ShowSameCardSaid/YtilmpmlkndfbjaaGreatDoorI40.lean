/- Part 40 of the proof: AeYd. -/
import Derived.Test.YtilmpmlkndfbjaaGreatDoorI3
import Derived.Test.YtilmpmlkndfbjaaGreatDoorI23
import Derived.Test.YtilmpmlkndfbjaaGreatDoorI37
set_option linter.all false
namespace Go.AE
open Go.RowKit
section
variable {P:Program} {n base:Nat}
theorem Zkq{p:CallW}(a:∀ fn args m id K,cwFn P fn args m id K→p fn args m id K){K:Env→SMem→Prop}{K':ASt→Prop}(l:∀ e m,K e m→K' ⟨toE n e,m.mem⟩):∀ (k:List AOper) (i:Nat) (e:Env) (m:SMem),
 V7 P false n base k i K e m→O9 stepA p base k i K' (toE n e) m.mem
 | [],_,_,_,h=>l _ _ h
 | o :: r,i,e,m,h=>by
  simp only[V7]at h;simp only[O9,Zgk];cases y:V4 n e o.guard with
  | none=>rw[y]at h; exact h
  | some q=>
   rw[y]at h;cases q with
   | false=>
    simp only[J0];exact Zkq a l r _ _ _ h
   | true=>
    simp only[gdK]at h;simp only;have b:∀ op,stK (stepD (base+i) (evE n e) m.get op) (fun v d=>V7 P false n base r (i+1) K (Y6 e o.dst v) (m.app d)) →
     (match stepA (base+i) (toE n e) m.mem op with|some (v,z)=>O9 stepA p base r (i+1) K' (put (toE n e) o.dst v) z|none=>False):=by
     intro op c;cases w:stepD (base+i) (evE n e) m.get op with
     | none=>rw[w]at c; exact c.elim
     | some C=>
      obtain⟨v,d⟩:=C;rw[w]at c;have:=Za3 (t:=toE n e) (m:=m.mem) (op:=op) (v:=v) (d:=d) (id:=base+i) (by rw[L8]; exact w)
      rw[this];simp only[J0];rw[← SMem.app_mem];exact Zkq a l r _ _ _ c
    cases j:o.op with
    | call f xs=>
     simp only[j]at h;simp only;cases s:W4 n e f xs with
     | none=>rw[s]at h; exact h.elim
     | some A=>
      obtain⟨g,args⟩:=A;rw[s]at h;rw[Z0f s];simp only;refine a _ _ _ _ _ ⟨g,rfl,?_⟩;refine ACalls.mono (h:SC P g args m (base+i) _) fun v B c=>?_
      obtain⟨z,rfl,u⟩:=c;simp only[J0];exact Zkq a l r _ _ _ u
    | _=>rw[j]at h; exact b _ h
def wpR(P:Program)(n:Nat):ACode→(Exit→Env→SMem→Prop)→Env→SMem→Prop
 | .skip,Q,e,m=>Q .normal e m
 | .region false ops,Q,e,m=>V7 P false n m.next ops 0 (Q .normal) e (m.at (m.next+ops.length))
 | .seq x y,Q,e,m=>wpR P n x (O1 (wpR P n y Q) Q) e m
 | .cond c x y,Q,e,m=>Zay (evE n e c) (wpR P n x Q e m) (wpR P n y Q e m)
 | .block id c,Q,e,m=>wpR P n c (J5 id Q) e m
 | .ret,Q,e,m=>Q .ret e m
 | _,_,_,_=>False
theorem Zsv{c:ACode}:∀ {Q:Exit→Env→SMem→Prop} {R:Exit→ASt→Prop} {e:Env} {m:SMem},wpR P n c Q e m→(∀ x e m,Q x e m→R x ⟨toE n e,m.mem⟩)→U6 (wrG P false stepA (cwFn P)) false c R ⟨toE n e,m.mem⟩:=by
 induction c with
 | skip=>exact fun h a=>a _ _ _ h
 | region g j=>
  intro Q R e m h a;cases g with
  | false=>exact Zkq (fun _ _ _ _ _ h=>h) (a .normal) j 0 e _ h
  | true=>exact h.elim
 | seq x y d f=>
  intro Q R e m h a;refine d h fun x e m b=>?_
  cases x<;>first|exact f b a|exact a _ _ _ b
 | cond c x y d f=>
  intro Q R e m h a;simp only[wpR]at h;simp only[U6,L8];generalize evE n e c=v at h;cases v<;>first|exact h.elim|skip
  rename_i q;cases q
  ·exact f h a
  ·exact d h a
 | block id c k=>
  intro Q R e m h a;refine k h fun x e m b=>?_
  cases x<;>simp only[J5]at b<;>simp only[Zav]<;>first|exact a _ _ _ b|skip
  split at b
  ·rename_i i; rw[if_pos i]; exact a _ _ _ b
  ·rename_i i; rw[if_neg i]; exact a _ _ _ b
 | ret=>exact fun h a=>a _ _ _ h
 | _=>intro Q R e m h; exact h.elim
def setE(e:Env):List (Nat×AVal)→Env
 | []=>e
 | (i,x) :: r=>setE ((i,x) :: e) r
theorem Zxz:∀ (l:List (Nat×AVal)) (e:Env),Za9 (toE n e) l=toE n (setE e l)
 | [],_=>rfl
 | (i,x) :: r,e=>by
  simp only[Za9,setE];have:(toE n e).set i x=toE n ((i,x) :: e):=J0 n e (some i) x;rw[this];exact Zxz r _
end
structure Yd where
 b:Nat
 n:Nat
 ps:List Nat
 e:Env
 A:ACode
 B:ACode
 wr:List FuncId:=[]
def YC(P:Program)(y:Yd)(args:List AVal)(m:SMem)(K:AVal→SMem→Prop):Prop:=
 args.length=y.ps.length∧wpR P y.n y.A (fun x e m=>match x with
  | .normal=>wpR P y.n y.B (fun x _ m=>match x with
   | .normal=>K (.bool true) m
   | _=>False) e m
  | _=>False) (setE y.e (y.ps.zip args)) m
section
variable {P:Program} {y:Yd} {n n0 base:Nat}
theorem Z88{args:List AVal}{m:SMem}{K:AVal→SMem→Prop}{K':AVal→Mem→Prop}(h:YC P y args m K)(c:∀ v b,K v b→K' v b.mem):Zy3 P y.ps (toE y.n y.e) y.A y.B args m.mem K':=by
 refine⟨h.1,?_⟩;rw[Zxz];refine Zsv h.2 fun x e m a=>?_
 cases x<;>first|exact a.elim|skip
 refine Zsv a fun x e m a=>?_
 cases x<;>first|exact a.elim|exact c _ _ a
def B3(P:Program)(y:Yd)(n base:Nat):List AOper→Nat→(Env→SMem→Prop)→Env→SMem→Prop
 | [],_,K,e,m=>K e m
 | o :: r,i,K,e,m=>gdK (V4 n e o.guard)
  (match o.op with
  | .call f xs=>(match evE n e f with
   | .yld b=>b=y.b∧YC P y (xs.map (evE n e)) m fun v m'=>B3 P y n base r (i+1) K (Y6 e o.dst v) m'
   | _=>False)
  | op=>stK (stepD (base+i) (evE n e) m.get op) fun v d=>B3 P y n base r (i+1) K (Y6 e o.dst v) (m.app d))
  (B3 P y n base r (i+1) K (Y6 e o.dst aundef) m)
theorem Zm4{K:Env→SMem→Prop}{K':ASt→Prop}(k:∀ e m,K e m→K' ⟨toE n e,m.mem⟩):∀ (j:List AOper) (i:Nat) (e:Env) (m:SMem),
 B3 P y n base j i K e m→O9 stepA (cwY P y.b y.ps (toE y.n y.e) y.A y.B) base j i K' (toE n e) m.mem
 | [],_,_,_,h=>k _ _ h
 | o :: r,i,e,m,h=>by
  simp only[B3]at h;simp only[O9,Zgk];cases s:V4 n e o.guard with
  | none=>rw[s]at h; exact h
  | some q=>
   rw[s]at h;cases q with
   | false=>
    simp only[J0];exact Zm4 k r _ _ _ h
   | true=>
    simp only[gdK]at h;simp only;have a:∀ op,stK (stepD (base+i) (evE n e) m.get op) (fun v d=>B3 P y n base r (i+1) K (Y6 e o.dst v) (m.app d)) →
     (match stepA (base+i) (toE n e) m.mem op with|some (v,u)=>O9 stepA (cwY P y.b y.ps (toE y.n y.e) y.A y.B) base r (i+1) K' (put (toE n e) o.dst v) u|none=>False):=by
     intro op c;cases p:stepD (base+i) (evE n e) m.get op with
     | none=>rw[p]at c; exact c.elim
     | some z=>
      obtain⟨v,d⟩:=z;rw[p]at c;have:=Za3 (t:=toE n e) (m:=m.mem) (op:=op) (v:=v) (d:=d) (id:=base+i) (by rw[L8]; exact p)
      rw[this];simp only[J0];rw[← SMem.app_mem];exact Zm4 k r _ _ _ c
    cases g:o.op with
    | call f xs=>
     simp only[g]at h;simp only;cases l:evE n e f with
     | yld b=>
      rw[l]at h;obtain⟨rfl,h⟩:=h;have w:Za4 (toE n e) f xs=some (.yield y.b,xs.map (ev (toE n e))):=by
       unfold Za4;rw[L8,l]
      rw[w];simp only;refine .inr ⟨rfl,?_⟩;rw[L8];refine Z88 h fun v u c=>?_
      simp only[J0];exact Zm4 k r _ _ _ c
     | _=>rw[l]at h; exact h.elim
    | _=>rw[g]at h; exact a _ h
def WC(P:Program)(g:FuncId)(args:List AVal)(k:Nat)(x:List Nat)(m:SMem)(K:List Nat→AVal→SMem→Prop):Prop:=
 ∃ wl v,∃ m':SMem,Zfx P g args k x m.mem v m'.mem wl∧K wl v m'
def xdw(P:Program)(keep:List Nat)(n base:Nat):List AOper→Nat→List (Nat×FT)→(Env→SMem→Prop)→Env→SMem→Prop
 | [],_,_,K,e,m=>K e m
 | o :: r,i,fs,K,e,m=>match V4 n e o.guard with
  | some true=>(match o.op with
   | .call f xs=>(match W4 n e f xs with
    | some (g,args)=>WC P g args (base+i) (xOf base i r.length) m fun wl v m'=>L5 fs (.call wl (xOf base i r.length) m.next) o.un∧xdw P keep n base r (i+1) (P3 keep i (.call wl (xOf base i r.length) m.next) fs) K (Y6 e o.dst v) m'
    | none=>False)
   | op=>(match stepD (base+i) (evE n e) m.get op with
    | some (v,d)=>L5 fs (.ops (U4 (base+i) (evE n e) op) (U3 (evE n e) op)) o.un∧xdw P keep n base r (i+1) (P3 keep i (.ops (U4 (base+i) (evE n e) op) (U3 (evE n e) op)) fs) K (Y6 e o.dst v) (m.app d)
    | none=>False))
  | some false=>xdw P keep n base r (i+1) (P3 keep i (.ops [] []) fs) K (Y6 e o.dst aundef) m
  | none=>False
theorem Zmn{keep:List Nat}{K:Env→SMem→Prop}:∀ (u:List AOper) (l:List (Nat×FT)) (a:List FT) (e:Env) (m:SMem),
 (∀ j f,L1 l j=some f→a.getD j (.ops [] [])=f∧j<a.length)→xdw P keep n base u a.length l K e m→R7 P base u a (fun σ=>∃ e m,σ=⟨toE n e,SMem.mem m⟩∧K e m) (toE n e) m.mem
 | [],_,_,e,m,_,h=>⟨e,m,rfl,h⟩
 | o :: r,l,a,e,m,z,h=>by
  have q:∀ f:FT,(a++[f]).length=a.length+1:=fun f=>by simp
  have i:∀ f,∀ j g,L1 (P3 keep a.length f l) j=some g→(a++[f]).getD j (.ops [] [])=g∧j<(a++[f]).length:=by
   intro f j g c;have old:∀ j g,L1 l j=some g→(a++[f]).getD j (.ops [] [])=g∧j<(a++[f]).length:=fun j g w=>by
    obtain⟨y,H⟩:=z j g w;refine⟨?_,by rw[q]; omega⟩
    rw[List.getD_eq_getElem?_getD,List.getElem?_append_left H,← List.getD_eq_getElem?_getD];exact y
   unfold P3 at c;cases hm:V8 a.length keep with
   | false=>rw[hm]at c; exact old j g c
   | true=>
    rw[hm]at c;simp only[cond_true,L1]at c;split at c
    ·rename_i E;injection c with c
     subst c; subst E;refine⟨?_,by rw[q]; omega⟩
     rw[List.getD_eq_getElem?_getD,List.getElem?_append_right (Nat.le_refl _)];simp
    ·exact old j g c
  simp only[xdw]at h;simp only[R7,Zgk];cases C:V4 n e o.guard with
  | none=>rw[C]at h; exact h
  | some b=>
   rw[C]at h;cases b with
   | false=>
    simp only[J0];exact Zmn r _ _ _ _ (i _) (by rw[q]; exact h)
   | true=>
    simp only at h ⊢;have p:∀ op,(match stepD (base+a.length) (evE n e) m.get op with
     | some (v,d)=>L5 l (.ops (U4 (base+a.length) (evE n e) op) (U3 (evE n e) op)) o.un∧xdw P keep n base r (a.length+1) (P3 keep a.length (.ops (U4 (base+a.length) (evE n e) op) (U3 (evE n e) op)) l) K (Y6 e o.dst v) (m.app d)
     | none=>False) →
     (match stepA (base+a.length) (toE n e) m.mem op with|some (v,D)=>S6 a (.ops (S8 (base+a.length) (toE n e) op) (K8 (toE n e) op)) o.un∧R7 P base r (a++[.ops (S8 (base+a.length) (toE n e) op) (K8 (toE n e) op)]) (fun σ=>∃ e m,σ=⟨toE n e,SMem.mem m⟩∧K e m) (put (toE n e) o.dst v) D|none=>False):=by
     intro op k;cases A:stepD (base+a.length) (evE n e) m.get op with
     | none=>rw[A]at k; exact k.elim
     | some I=>
      obtain⟨v,d⟩:=I;rw[A]at k;have:=Za3 (m:=m.mem) (t:=toE n e) (id:=base+a.length) (op:=op) (v:=v) (d:=d) (by rw[L8]; exact A)
      rw[this];simp only[J0,Zkr,Zk3,L8];rw[← SMem.app_mem];exact⟨Zjx (fun j f c=>(z j f c).1) k.1,Zmn r _ _ _ _ (i _) (by rw[q]; exact k.2)⟩
    cases s:o.op with
    | call f xs=>
     simp only[s]at h;simp only[Zl5];cases B:W4 n e f xs with
     | none=>rw[B]at h; exact h
     | some F=>
      obtain⟨g,args⟩:=F;rw[B]at h;obtain⟨wl,v,D,w,G,y⟩:=h;refine⟨wl,_,v,_,w,Zjx (fun j f c=>(z j f c).1) G,?_⟩
      simp only[J0];exact Zmn r _ _ _ _ (i _) (by rw[q]; exact y)
    | _=>(have k:=p o.op; rw[s]at h k; exact k h)
def I0(l:List FuncId):AOp→Bool
 | .call (.fn g) _=>V8 g l
 | _=>false
def isW(l:List FuncId):AOper→Bool
 | ⟨_,op,_,_⟩=>I0 l op
def subK(q:Nat→Nat)(n:Nat)(ks:List Nat):List (Nat×ABlk)→Bool
 | []=>true
 | (d,_) :: r=>(V8 (q d) ks||Nat.ble n d)&&subK q n ks r
theorem Z1q{q:Nat→Nat}{n:Nat}{f:List Nat}:∀ {l:List (Nat×ABlk)},subK q n f l=true → ∀ d y,Z9 l d=some y→q d∈f∨n≤d
 | [],_,d,y,h=>by simp[Z9]at h
 | (c,x) :: r,b,d,y,h=>by
  simp only[subK,bA,Bool.or_eq_true]at b;simp only[Z9]at h;split at h
  ·rename_i e;subst e;rcases b.1 with a|a
   ·exact .inl (memN_iff.1 a)
   ·exact .inr (Nat.le_of_ble_eq_true a)
  ·exact Z1q b.2 d y h
theorem Zo5{g:FuncId}{j args:List AVal}{m0 f m:SMem}{v0:AVal}{k:Nat}{x:List Nat}{K:List Nat→AVal→SMem→Prop}(h:Ctr P g j m0 fun r X=>r=v0∧X=f)(aa:m0.next≤f.next)(l:List (Nat×Nat))(ha:Q4 (qOf l 0 m0.next m.next) j=args)
 (S:SubRB (qOf l 0 m0.next m.next) m0.bl m) (hi:InjK (qOf l 0 m0.next m.next) m0.bl) (v:subK (qOf l 0 m0.next m.next) m0.next (M7 (qOf l 0 m0.next m.next) m0.bl) f.bl=true) (hk:k∉x) (V:∀ b,b∈M7 (qOf l 0 m0.next m.next) m0.bl→b∉x)
 (J:∀ c,c∈x→m.get c=none) (u:∀ c,c∈x→Z9 (K5 (qOf l 0 m0.next m.next) f.bl (R0 (M7 (qOf l 0 m0.next m.next) m0.bl) m.bl)) c=none)
 (Z:K (M7 (qOf l 0 m0.next m.next) m0.bl) (v0.ren (qOf l 0 m0.next m.next)) ⟨K5 (qOf l 0 m0.next m.next) f.bl (R0 (M7 (qOf l 0 m0.next m.next) m0.bl) m.bl),f.next - m0.next+m.next⟩):WC P g args k x m K:=by
 subst ha;refine⟨_,_,_,?_,Z⟩;obtain⟨q,Q⟩:∃ q,qOf l 0 m0.next m.next=q:=⟨_,rfl⟩
 have D:∀ c,m0.next≤c→q c=c - m0.next+m.next:=fun c n=>by
  rw[← Q];simp only[qOf,Nat.not_lt_zero,if_false];rw[if_neg (by omega)]
 rw[Q]at S hi v V u ⊢;obtain⟨B,s⟩:∃ B:SMem,B=⟨K5 q f.bl (R0 (M7 q m0.bl) m.bl),f.next - m0.next+m.next⟩:=⟨_,rfl⟩
 have i:∀ c,B.mem.get c=Z9 (K5 q f.bl (R0 (M7 q m0.bl) m.bl)) c:=fun c=>by rw[s]; rfl
 rw[← s];refine⟨B.mem,hk,fun c n=>by rw[i]; exact u c n,?_,rfl,fun c=>?_,fun c U C n=>?_,?_⟩
 ·show m.next≤B.next;rw[s];show m.next≤f.next - m0.next+m.next;omega
 ·by_cases n:c∈x
  ·rw[if_pos n,i,u c n];exact(J c n).symm
  ·rw[if_neg n]
 ·rw[i];cases A:Z9 (K5 q f.bl (R0 (M7 q m0.bl) m.bl)) c with
  | some y=>
   rcases Zlf A with⟨d,z,o,p,O⟩|o
   ·exfalso;rcases Z1q v d z o with G|G
    ·exact U (p ▸ G)
    ·rw[p,D d G]at C;have:d - m0.next+m.next<m.next:=C;omega
   ·exact(Za8 o).1.symm
  | none=>
   cases hz:m.mem.get c with
   | none=>rfl
   | some z=>
    exfalso;have o:Z9 (R0 (M7 q m0.bl) m.bl) c=some z:=by
     have:∀ l:List (Nat×ABlk),Z9 l c=some z→Z9 (R0 (M7 q m0.bl) l) c=some z:=by
      intro l
      induction l with
      | nil=>intro h; simp[Z9]at h
      | cons a r F=>
       obtain⟨d,w⟩:=a;intro h;simp only[Z9]at h;simp only[R0];cases hm:V8 d (M7 q m0.bl)with
       | true=>
        simp only[cond_true];refine F ?_;rw[if_neg (fun e:c=d=>U (by rw[e]; exact memN_iff.1 hm))]at h
        exact h
       | false=>
        simp only[cond_false,Z9];split
        ·rename_i e; rw[if_pos e]at h; exact h
        ·rename_i e; rw[if_neg e]at h; exact F h
     exact this _ hz
    have p:∀ (l t:List (Nat×ABlk)),Z9 t c=some z→Z9 (K5 q l t) c≠none:=by
     intro l t ht
     induction l with
     | nil=>simp only[K5]; rw[ht]; simp
     | cons a r F=>
      obtain⟨d,w⟩:=a;simp only[K5,Z9];split
      ·simp
      ·exact F
    exact p _ _ o A
 ·refine Zrt h (m:=m.mem.less x) (q:=q) (fun c y A=>?_) (fun c Y y y' A L=>hi.get c Y y y' A L) D (fun r0 m1 hh=>?_) [k]
  ·have hn:q c∉x:=V _ (Zje A);obtain⟨z,M,N⟩:=S.get c y A;refine⟨z,?_,N⟩;show(if q c∈x then none else m.mem.get (q c))=some z
   rw[if_neg hn];exact M
  ·obtain⟨X,rfl,rfl,rfl⟩:=hh;refine⟨B.mem,by rw[s]; rfl,fun b y E=>?_,rfl,rfl⟩
   have H:b∉x:=fun I=>by
    rw[i,u b I]at E;cases E
   rw[i]at E;rcases Zlf E with⟨c,z,o,p,O⟩|o
   ·exact .inl ⟨c,z,o,p,O⟩
   ·have p:=Za8 o;refine .inr ⟨?_,fun c z n e=>p.2 (e ▸ Zje n)⟩
    show(if b∈x then none else m.mem.get b)=some y
    rw[if_neg H];exact p.1
def J4:AOp→Bool
 | .call (.tmp _) _=>true
 | _=>false
def isY:AOper→Bool
 | ⟨_,op,_,_⟩=>J4 op
def wpH(P:Program)(y:Yd)(n n0:Nat):ACode→(Exit→Env→SMem→Prop)→Env→SMem→Prop
 | .skip,Q,e,m=>Q .normal e m
 | .region false ops,Q,e,m=>if ops.any isY=true then B3 P y n m.next ops 0 (Q .normal) e (m.at (m.next+ops.length))else V7 P false n m.next ops 0 (Q .normal) e (m.at (m.next+ops.length))
 | .region true ops,Q,e,m=>if ops.any (isW y.wr)=true then xdw P (Zca ops) n m.next ops 0 [] (Q .normal) e (m.at (m.next+ops.length))
  else if ops.all H7=true then V7 P false n m.next ops 0 (Q .normal) e (m.at (m.next+ops.length))
  else if ops.all (fun o=>o.un.isEmpty)=true then V7 P true n m.next ops 0 (Q .normal) e (m.at (m.next+ops.length))
  else J1 P (Zca ops) n m.next ops 0 [] (Q .normal) e (m.at (m.next+ops.length))
 | .seq a b,Q,e,m=>wpH P y n n0 a (O1 (wpH P y n n0 b Q) Q) e m
 | .cond c a b,Q,e,m=>Zay (evE n e c) (wpH P y n n0 a Q e m) (wpH P y n n0 b Q e m)
 | .block id c,Q,e,m=>wpH P y n n0 c (J5 id Q) e m
 | .loop c,Q,e,m=>∃ (I:Nat→Env→SMem→Prop),(∃ k e0 m0,WkR n n0 e0 m0 e m∧I k e0 m0) ∧ ∀ k e1 m1,I k e1 m1→wpH P y n n0 c (O1 (fun e' m'=>∃ j e0 m0,j<k∧WkR n n0 e0 m0 e' m'∧I j e0 m0) Q) e1 m1
 | .exit id,Q,e,m=>Q (.exit id) e m
 | .scope c,Q,e,m=>wpH P y n n0 c Q e m
 | .label _,Q,e,m=>Q .normal e m
 | .ret,Q,e,m=>Q .ret e m
 | .bad,_,_,_=>False
def HB(H:HypW)(n0:Nat):HypW:=fun W Φ ρ=>∃ Φ0 ρ0,H W Φ0 ρ0∧(∀ b l,ρ0 b=some l→b<n0)∧(∀ B c,Φ0 B=some c→Φ B=some c) ∧ ∀ b,b<n0→ρ b=ρ0 b
theorem HB.get{H:HypW}(j:H.Mono){n0:Nat}{W:Base}{Φ:Pers}{ρ:Rho}(h:HB H n0 W Φ ρ):H W Φ ρ:=by
 obtain⟨a,c,e,f,g,i⟩:=h;exact j W a c Φ ρ e ⟨g,fun b l d=>by rw[i b (f b l d)]; exact d⟩
theorem HB.go{H:HypW}{n0:Nat}{W:Base}{Φ a:Pers}{ρ ρ':Rho}(h:HB H n0 W Φ ρ)(n:∀ B c,Φ B=some c→a B=some c)(m:∀ b,b<n0→ρ' b=ρ b):HB H n0 W a ρ':=by
 obtain⟨d,e,g,i,j,k⟩:=h;exact⟨d,e,g,i,fun B c l=>n B c (j B c l),fun b f=>(m b f).trans (k b f)⟩
def Zlj(H:HypW)(P:Program)(n n0:Nat)(c:Code)(Q:Exit→Env→SMem→Prop)(e:Env)(m:SMem):Prop:=
 ∀(W:Base) (Φ:Pers) (ρ:Rho) (a:Act) (w:World),HB H n0 W Φ ρ→n0≤m.next→Rel W Φ ρ m.mem w→RL Φ ρ (toE n e) a.tmps→a.defers=[]→c.wp P (Zfz W Φ ρ n n0 Q) a w
theorem Z9v(hm:P.follows .mixedOrders=true){H:HypW}(r:H.Mono)(j:Zbi Fence.wide 0 H P (cwY P y.b y.ps (toE y.n y.e) y.A y.B)){id:Nat}{d:Array Oper}{c:Bool}{os:List AOper}{Q:Exit→Env→SMem→Prop}{e:Env}{m:SMem}
 (G:Y3 P (.region id d c)=.region false os) (h:B3 P y n m.next os 0 (Q .normal) e (m.at (m.next+os.length))):Zlj H P n n0 (.region id d c) Q e m:=by
 intro W Φ ρ a w J s L M I;have D:U6 (wrG P true stepA (cwY P y.b y.ps (toE y.n y.e) y.A y.B)) true (Y3 P (.region id d c)) (F3 n Q) ⟨toE n e,m.mem⟩:=by
  rw[G];exact Zm4 (K':=F3 n Q .normal) (fun e m K=>⟨e,m,rfl,K⟩) os 0 e _ h
 have E:=Zpf (n:=0) hm r (Zhe Open.wide) j (.region id d c) _ _ D W Φ ρ (J.get r) a w L M I;refine wp_mono (wpIn_wide.1 E) fun x O w' k=>?_
 obtain⟨σ,p,ρ',q,t,u,v,z,C,i⟩:=k;have f:∀ b,b<n0→ρ' b=ρ b:=fun b F=>by
  cases g:ρ b with
  | none=>exact t b (Nat.lt_of_lt_of_le F s) g
  | some l=>exact q.rho b l g
 have o:m.next≤σ.m.next:=u;cases x<;>simp only[F3]at i<;>first
  | exact i.elim
  | (obtain ⟨e',N,rfl,g⟩:=i
     exact⟨e',N,p,ρ',q.pers,f,Nat.le_trans s o,v,z,C,fun l k=>(by cases k),g⟩)
theorem Yf3(hm:P.follows .mixedOrders=true){H:HypW}(hM:H.Mono)(ad:Zbi Fence.wide 0 H P (cwY P y.b y.ps (toE y.n y.e) y.A y.B)):∀ (c:Code) (Q:Exit→Env→SMem→Prop) (e:Env) (m:SMem),wpH P y n n0 (Y3 P c) Q e m→Zlj H P n n0 c Q e m:=by
 intro c
 induction c with
 | skip=>exact fun Q e m h W Φ ρ a w _ t r o p=>wp_skip ⟨e,m,Φ,ρ,fun _ _ h=>h,fun _ _=>rfl,t,r,o,p,fun l g=>(by cases g),h⟩
 | region id u D=>
  intro Q e m h;have hw:∀ A:ACode,Y3 P (.region id u D)=A→(match A with | .region _ _=>True | .bad=>True|_=>False)→wpH P y n n0 A Q e m→Zlj H P n n0 (.region id u D) Q e m:=by
   intro A O hA h;have F:wpZ P n n0 A Q e m→Zlj H P n n0 (.region id u D) Q e m:=fun hz W Φ ρ a w _ t r o p=>
    Zw5 hm (.region id u D) Q e m (by rw[O]; exact Zxt hz fun _ _ _ h=>h) W Φ ρ a w t r o p
   cases A with
   | region d os=>
    cases d with
    | false=>
     simp only[wpH]at h;split at h
     ·exact Z9v hm hM ad O h
     ·exact F h
    | true=>
     simp only[wpH]at h;split at h
     ·intro W Φ ρ a w _ t r o p;refine Zu1 hm (e:=e) (m:=m) ?_ W Φ ρ a w t r o p;rw[O];exact Zmn os [] [] e _ (fun j f hj=>by simp[L1]at hj) h
     ·exact F h
   | bad=>exact h.elim
   | _=>exact hA.elim
  refine hw _ rfl ?_ h;cases D with
  | false=>
   simp only[Y3];cases F6 P u u.toList<;>trivial
  | true=>
   simp only[Y3];cases F6 P u u.toList with
   | none=>trivial
   | some ac=>
    simp only;cases Zi0 u ac (Zbf u.toList)<;>trivial
 | seq x y U V=>
  intro Q e m h W Φ ρ a w E t r o p;simp only[Y3,wpH]at h;refine wp_seq (wp_mono (U _ _ _ h W Φ ρ a w E t r o p) ?_);intro x' G w' g;have key:∀ e',x'=e'→e'≠.normal→Zfz W Φ ρ n n0 Q x' G w':=by
   intro e' he S;refine Zhr (fun _ _ h=>h) (fun _ _=>rfl) g fun e m hq=>?_
   subst he;cases x'<;>first|exact absurd rfl S|exact hq
  cases x' with
  | normal=>
   obtain⟨e',M,C,ρ',J,K,X,Y,Z,h6,h7,N⟩:=g;exact wp_mono (V _ _ _ N W C ρ' G w' (E.go J K) X Y Z h6) fun x a w ag=>Zhr J K ag fun _ _ h=>h
  | exit i=>exact key _ rfl (by simp)
  | goto l=>exact key _ rfl (by simp)
  | ret=>exact key _ rfl (by simp)
  | panic ch=>exact key _ rfl (by simp)
  | outgrown=>exact key _ rfl (by simp)
 | cond c x y U V=>
  intro Q e m h W Φ ρ a w E t r o p;simp only[Y3]at h;cases O:Y8 c with
  | none=>simp[O,wpH]at h
  | some c'=>
   simp only[O,wpH]at h;have hv:=T2 o O;rw[L8]at hv;generalize evE n e c'=z at h hv;cases z<;>first|exact h.elim|skip
   rename_i q;generalize hz:a.eval c=v at hv;cases hv;cases q
   ·exact wp_cond_false hz (V _ _ _ h W Φ ρ a w E t r o p)
   ·exact wp_cond_true hz (U _ _ _ h W Φ ρ a w E t r o p)
 | block id c ih=>
  intro Q e m h W Φ ρ a w E t r o p;simp only[Y3,wpH]at h;refine wp_block (wp_mono (ih _ _ _ h W Φ ρ a w E t r o p) ?_);intro x G w' g;cases x with
  | exit i=>
   simp only[Exit.inBlock];obtain⟨e',M,C,ρ',J,K,X,Y,Z,h6,h7,N⟩:=g;simp only[J5]at N;split
   ·rename_i hi;rw[if_pos hi]at N;exact⟨e',M,C,ρ',J,K,X,Y,Z,h6,fun l g=>(by cases g),N⟩
   ·rename_i hi;rw[if_neg hi]at N;exact⟨e',M,C,ρ',J,K,X,Y,Z,h6,fun l g=>(by cases g),N⟩
  | normal=>exact g
  | goto l=>exact g
  | ret=>exact g
  | panic ch=>exact g
  | outgrown=>exact g
 | loop c ih=>
  intro Q e m h W Φ ρ a w E t r o p;simp only[Y3,wpH]at h;obtain⟨I,⟨k0,e0,m0,aa,h0⟩,L⟩:=h;obtain⟨ao,au,ah,ae,aj,al⟩:=aa.2 W Φ ρ _ w r o;refine wp_loop_ghost (fun k G w'=>∃ e' M C ρ',(∀ B c,Φ B=some c→C B=some c)∧(∀ b,b<n0→ρ' b=ρ b)∧n0≤M.next∧Rel W C ρ' M.mem w'∧RL C ρ' (toE n e') G.tmps∧G.defers=[]∧I k e' M) k0
   ⟨e0,m0,ao,au,ah,ae,aa.1,aj,al,p,h0⟩ ?_
  rintro k G w' ⟨e',M,C,ρ',J,K,X,Y,Z,h6,h7⟩;refine wp_mono (ih _ _ _ (L k e' M h7) W C ρ' G w' (E.go J K) X Y Z h6) ?_;intro x ab an g;have key:∀ e',x=e'→e'≠.normal→Zfz W Φ ρ n n0 Q x ab an:=by
   intro e' he S;refine Zhr J K g fun e m hq=>?_
   subst he;cases x<;>first|exact absurd rfl S|exact hq
  cases x with
  | normal=>
   obtain⟨e2,m2,aq,av,g1,g2,g3,g4,g5,g6,_,j,e3,m3,g7,g8,g9⟩:=g;obtain⟨ar,aw,ai,af,ak,am⟩:=g8.2 W aq av _ _ g4 g5;exact⟨j,g7,e3,m3,ar,aw,fun B c hB=>ai B c (g1 B c (J B c hB)),fun b hb=>(af b hb).trans ((g2 b hb).trans (K b hb)),g8.1,ak,am,g6,g9⟩
  | exit i=>exact key _ rfl (by simp)
  | goto l=>exact key _ rfl (by simp)
  | ret=>exact key _ rfl (by simp)
  | panic ch=>exact key _ rfl (by simp)
  | outgrown=>exact key _ rfl (by simp)
 | exit id=>exact fun Q e m h W Φ ρ a w _ t r o p=>wp_exit ⟨e,m,Φ,ρ,fun _ _ h=>h,fun _ _=>rfl,t,r,o,p,fun l g=>(by cases g),h⟩
 | scope c ih=>
  intro Q e m h W Φ ρ a w E t r o p;simp only[Y3,wpH]at h;refine wp_scope_straight (wp_mono (ih _ _ _ h W Φ ρ a w E t r o p) ?_);intro x G w' g;cases x with
  | goto l=>
   obtain⟨_,_,_,_,_,_,_,_,_,_,h7,_⟩:=g;exact absurd rfl (h7 l)
  | normal=>exact g
  | exit i=>exact g
  | ret=>exact g
  | panic ch=>exact g
  | outgrown=>exact g
 | label l=>exact fun Q e m h W Φ ρ a w _ t r o p=>wp_label ⟨e,m,Φ,ρ,fun _ _ h=>h,fun _ _=>rfl,t,r,o,p,fun l g=>(by cases g),h⟩
 | ret=>exact fun Q e m h W Φ ρ a w _ t r o p=>wp_ret ⟨e,m,Φ,ρ,fun _ _ h=>h,fun _ _=>rfl,t,r,o,p,fun l g=>(by cases g),h⟩
 | rangeFunc f ps x y _ _=>exact fun Q e m h=>by simp[Y3,wpH]at h
 | goto l=>exact fun Q e m h=>by simp[Y3,wpH]at h
 | refuse s=>exact fun Q e m h=>by simp[Y3,wpH]at h
theorem Z0k{W:Base}{Φ d:Pers}{ρ ρ':Rho}{n0:Nat}{w w':World}{K:AVal→SMem→Prop}{v:AVal}{u:Value}{o:SMem}(g:∀ b l,ρ b=some l→b<n0)(s:∀ B c,Φ B=some c→d B=some c)(q:∀ b,b<n0→ρ' b=ρ b)(t:Rel W d ρ' o.mem w')(z:R d ρ' v u)(h:S4 n0 K v o) :
 ∃ r m2 a,Ext Φ ρ d a∧(∀ b,b<n0→a b=ρ b)∧Rel W d a (SMem.mem m2) w'∧R d a r u∧n0≤m2.next∧K r m2:=by
 obtain⟨v0,m0,l,k,p⟩:=h;obtain⟨a,A,C,D⟩:=k.rel (n:=1) (vs:=#[u]) t ⟨rfl,fun i x y j m=>by
  cases i with
  | zero=>
   rw[H8 (by omega)]at j
   simp only[Env.get,if_true,oI]at j;have:u=y:=by simpa using m
   subst j; subst this; exact z
  | succ i=>simp at m⟩
 have E:R d a v0 u:=D.2 0 v0 u (by rw[H8 (by omega)]; rfl) rfl
 have e:∀ b,b<n0→a b=ρ b:=fun b f=>(A b f).trans (q b f)
 exact⟨v0,m0,a,⟨s,fun b l f=>(e b (g b l f)).trans f⟩,e,C,E,k.1,p⟩
def CtrY(P:Program)(y:Yd)(f:FuncId)(args:List AVal)(m:SMem)(K:AVal→SMem→Prop):Prop:=
 ∀(l:Nat) (r:Loop),r.state=.ready→r.pending=none→r.params.toList=y.ps→Y3 P r.assign=y.A→Y3 P r.body=y.B→ACallsH (HLoop y.b l r (toE y.n y.e)) P f args m.mem fun v m''=>∃ m':SMem,m''=m'.mem∧K v m'
theorem Z2i(hm:P.follows .mixedOrders=true){f:FuncId}{fn:Func}{U:AFn}{args:List AVal}{m:SMem}{d:AVal→SMem→Prop}(X:P.funcs[f]? = some fn)(hc:cFn P fn=some U){j:Nat}{Q:List (Nat×Option (Option Nat))}{bd:ACode}(hd:U=⟨j,Q,bd⟩)(F:Nat.ble args.length j=true)
 (h:∀ K:AVal→SMem→Prop,(∀ r D,d r D→K r D)→wpH P y j m.next bd (M8 j Q (S4 m.next K)) (V2 0 args []) m):CtrY P y f args m d:=by
 subst hd;have h:=h d fun _ _ h=>h
 obtain⟨c,B,q,L,G,s⟩:=Zin hc;have aa:args.length≤j:=Nat.le_of_ble_eq_true F;intro l r M H I hA hB;have C:=Zvf (P:=P) (n:=0) (b:=y.b) (l:=l) (tR:=toE y.n y.e) M H;rw[I,hA,hB]at C;refine⟨⟨fn,X,s,by rw[B]; rfl⟩,fun W Φ ρ hH vs w J ha=>?_⟩
 have N:=Zh3 (k:=fn.ntmps) ha;have O:RL Φ ρ (toE j (V2 0 args [])) (vs++Array.replicate (fn.ntmps - vs.size) undef):=by
  have Y:j=fn.ntmps:=G;refine N.sub (by rw[L3]; simp; omega) fun i x o=>?_
  have hi:i<j:=by
   have:=(gS.1 o).1;rwa[L3]at this
  rw[H8 hi,Zhj]at o;injection o with o
  by_cases E:0≤i∧i<0+args.length
  ·rw[if_pos E]at o;rw[List.getElem?_append,if_pos (by omega)]
   refine .inr ?_;rw[← o,Nat.sub_zero,List.getD,gE (by omega)]
   rfl
  ·rw[if_neg E]at o;exact .inl o.symm
 have p:Y3 P c=bd:=q.symm;rw[← p]at h;have hs:=Yf3 (n0:=m.next) hm HLoop.mono C c _ _ _ h W Φ ρ { tmps:=vs++Array.replicate (fn.ntmps - vs.size) undef,defers:=[] } w ⟨Φ,ρ,hH,fun b l p=>J.fresh b l p,fun _ _ h=>h,fun _ _=>rfl⟩ (Nat.le_refl _) J O rfl
 refine calls_of_wp X B (wp_mono hs fun x a w' F=>?_)
 obtain⟨e,z,g,ρ',h1,E,h3,V,h5,h6,h7,t⟩:=F;have A:G6 (S4 m.next d) z (S3 j e z Q)→a.defers=[] ∧ ∃ v,(results fn a.tmps).run P w'=.ok v w' ∧
  ∃ Z r z g ρ',Ending.returned v=.returned Z∧Ext Φ ρ g ρ'∧KeepN m.mem.next ρ ρ'∧Rel W g ρ' z w'∧R g ρ' r Z∧m.mem.next≤z.next ∧ ∃ D:SMem,z=D.mem∧d r D:=by
  intro hh;obtain⟨v,g1,g2⟩:=Zlq hh;obtain⟨u,k1,k2⟩:=Zg2 V h5 L g1;obtain⟨r2,m2,S,q1,q2,q3,q4,q5,q6⟩:=Z0k (w:=w) (fun b l p=>J.fresh b l p) h1 E V k2 g2
  exact⟨h6,u,k1,u,r2,m2.mem,g,S,rfl,q1,fun b p h0=>(q2 b p).trans h0,q3,q4,q5,m2,rfl,q6⟩
 cases x with
 | normal=>exact A t
 | ret=>exact A t
 | exit i=>exact t.elim
 | goto l=>exact t.elim
 | panic ch=>exact t.elim
 | outgrown=>exact t.elim
def Zkf(P:Program)(n:Nat):List ACode→(Exit→Env→SMem→Prop)→(Env→SMem→Prop)→Env→SMem→Prop
 | [],_,N,e,m=>N e m
 | a :: r,Q,N,e,m=>wpS P n a (fun x e m=>match x with
  | .normal=>Zkf P n r Q N e m
  | .ret=>Q .ret e m
  | _=>False) e m
theorem ACallsH.mono{H:HypW}{f:FuncId}{args:List AVal}{m:Mem}{K K':AVal→Mem→Prop}(h:ACallsH H P f args m K)(p:∀ r a,K r a→K' r a):ACallsH H P f args m K':=by
 refine⟨h.1,fun W Φ ρ n vs w q o=>(h.2 W Φ ρ n vs w q o).mono ?_⟩
 rintro e w' ⟨v,r,a,b,ρ',c,d,g,i,j,k,l⟩;exact⟨v,r,a,b,ρ',c,d,g,i,j,k,p _ _ l⟩
theorem Yfd(hm:P.follows .mixedOrders=true){f:FuncId}{fn:Func}{p:AParts}{args:List AVal}{m:SMem}{j:AVal→SMem→Prop}(hf:P.funcs[f]? = some fn)(hp:Zg1 P fn=some p)
 {n:Nat} {F:List (Nat×Option (Option Nat))} {pre:List ACode} {x:ACode} {g:AOpd} {ps:List Nat} {asn bd y:ACode} (O:p=⟨n,F,pre,x,g,ps,asn,bd,y⟩) (hl:Nat.ble args.length n=true)
 (h:∀ K:AVal→SMem→Prop,(∀ r q,j r q→K r q)→Zkf P n pre (M8 n F (S4 m.next K)) (wpS P n x fun x e k=>match x with
   | .normal=>∃ J cap,evE n e g=.func (.func J) [] cap∧CtrY P ⟨k.next,n,ps,e,asn,bd,[]⟩ J (.yld k.next :: cap) (k.at (k.next+1)) fun _ m2=>wpR P n y (M8 n F (S4 m.next K)) e m2
   | .ret=>M8 n F (S4 m.next K) .ret e k
   | _=>False) (V2 0 args []) m):Ctr P f args m j:=by
 subst O
 replace h:=h j fun _ _ h=>h
 obtain⟨c,I,x',b',g',af,ac,ad,y',u,hc,hg,V,D,U,o,ex,H,s,G,ey⟩:=Ztq hp;have Q:args.length≤n:=Nat.le_of_ble_eq_true hl;have hA:ACalls P f args m.mem [] fun r k=>∃ q:SMem,k=q.mem∧S4 m.next j r q:=by
  refine Zxb hf u D V ?_;simp only at U o ex H s G ey hg;obtain⟨K,hK⟩:∃ K:ASt→Prop,K=fun σ=>match M5 σ.t σ.m F with|some r=>∃ q:SMem,σ.m=q.mem∧S4 m.next j r q|none=>False:=⟨_,rfl⟩
  have C:∀ e (k:SMem),G6 (S4 m.next j) k (S3 n e k F)→K ⟨toE n e,k.mem⟩:=fun e k A=>by
   obtain⟨v,g1,g2⟩:=Zlq A;rw[hK];simp only[g1];exact⟨k,rfl,g2⟩
  suffices A:AR P c K ⟨toE n (V2 0 args []),m.mem⟩ by
   intro W Φ ρ a w M ht O;rw[hK]at A;refine A W Φ ρ a w M (ht.sub (by rw[L3]; simp; omega) fun i x B=>?_) O
   have hi:i<n:=by
    have:=(gS.1 B).1;rwa[L3]at this
   rw[H8 hi,Zhj]at B;injection B with B
   by_cases E:0≤i∧i<0+args.length
   ·rw[if_pos E]at B;rw[List.getElem?_append,if_pos (by omega)]
    refine .inr ?_;rw[← B,Nat.sub_zero,List.getD,gE (by omega)]
    rfl
   ·rw[if_neg E]at B;exact .inl B.symm
  rw[hc];rw[o]at h;clear o hc u
  revert h
  generalize V2 0 args []=e0;generalize S:m.next=n0 at *;clear S Q hl;intro h
  induction I generalizing e0 m with
  | nil=>
   simp only[List.map_nil,Zkf]at h;simp only[seqs];refine Zwd hg ?_;rw[ex]at h;refine Zhb hm x' _ _ (Zga (Zo2 h) fun z σ d=>?_)
   cases z<;>simp only[F3]at d<;>first|exact d.elim|skip
   ·obtain⟨e,k,rfl,J,cap,L,E⟩:=d;refine⟨J,[],cap,by rw[L8]; exact L,fun l r X Y Z q4 q5=>?_⟩
    have:=E l r X Y (by rw[Z,← H]) (by rw[q4,← s]) (by rw[q5,← G])
    refine this.mono fun v ae A=>?_
    obtain⟨m2,rfl,A⟩:=A;rw[← ey];refine Zsv A fun z e m d=>?_
    cases z<;>first|exact d.elim|exact C _ _ d
   ·obtain⟨_,_,_,d⟩:=d; exact d.elim
   ·obtain⟨e,k,rfl,d⟩:=d;exact C _ _ d
   ·obtain⟨_,_,_,d⟩:=d; exact d.elim
   ·obtain⟨_,_,_,d⟩:=d; exact d.elim
  | cons a r ih=>
   simp only[List.map_cons,Zkf]at h;simp only[seqs];refine Zsb (Zhb hm a _ _ (Zga (Zo2 h) fun z σ d=>?_))
   cases z<;>simp only[F3]at d<;>first|exact d.elim|skip
   ·obtain⟨e,k,rfl,d⟩:=d;exact ih e d
   ·obtain⟨_,_,_,d⟩:=d; exact d.elim
   ·obtain⟨e,k,rfl,d⟩:=d;exact C _ _ d
   ·obtain⟨_,_,_,d⟩:=d; exact d.elim
   ·obtain⟨_,_,_,d⟩:=d; exact d.elim
 refine⟨hA.1,fun W Φ ρ vs w M ha N=>(hA.2 W Φ ρ vs w M ha N).mono ?_⟩
 rintro e w' ⟨v,r,k,aa,ρ',rfl,L,E,h3,h4,h5,q,rfl,h6⟩;have hk:∀ b,b<m.next→ρ' b=ρ b:=fun b u=>by
  cases hq:ρ b with
  | none=>exact E b u (by simp) hq
  | some l=>exact L.rho b l hq
 obtain⟨r2,m2,ab,X,Y,Z,q4,q5,q6⟩:=Z0k (w:=w) (fun b l u=>M.fresh b l u) L.pers hk h3 h4 h6
 exact⟨v,r2,m2.mem,aa,ab,rfl,X,fun b u _ h0=>(Y b u).trans h0,Z,q4,q5,m2,rfl,q6⟩
variable {Q:Exit→Env→SMem→Prop} {K:Env→SMem→Prop} {e:Env} {m:SMem}
theorem Z2y:wpH P y n n0 .skip Q e m=Q .normal e m:=propext Iff.rfl
theorem Yaf(a:List AOper):wpH P y n n0 (.region false a) Q e m=if a.any isY=true then B3 P y n m.next a 0 (Q .normal) e (m.at (m.next+a.length))else V7 P false n m.next a 0 (Q .normal) e (m.at (m.next+a.length)):=propext Iff.rfl
theorem Z6i(a b:ACode):wpH P y n n0 (.seq a b) Q e m=wpH P y n n0 a (O1 (wpH P y n n0 b Q) Q) e m:=propext Iff.rfl
theorem Ygv(c:AOpd)(a b:ACode):wpH P y n n0 (.cond c a b) Q e m=Zay (evE n e c) (wpH P y n n0 a Q e m) (wpH P y n n0 b Q e m):=propext Iff.rfl
theorem Yeq(i:Nat)(c:ACode):wpH P y n n0 (.block i c) Q e m=wpH P y n n0 c (J5 i Q) e m:=propext Iff.rfl
theorem Yee(c:ACode):wpH P y n n0 (.scope c) Q e m=wpH P y n n0 c Q e m:=propext Iff.rfl
theorem Z4l(i:Nat):wpH P y n n0 (.exit i) Q e m=Q (.exit i) e m:=propext Iff.rfl
theorem Ygw:wpH P y n n0 .ret Q e m=Q .ret e m:=propext Iff.rfl
theorem Ygm(a:List AOper):wpH P y n n0 (.region true a) Q e m=if a.any (isW y.wr)=true then xdw P (Zca a) n m.next a 0 [] (Q .normal) e (m.at (m.next+a.length))
 else if a.all H7=true then V7 P false n m.next a 0 (Q .normal) e (m.at (m.next+a.length))
 else if a.all (fun o=>o.un.isEmpty)=true then V7 P true n m.next a 0 (Q .normal) e (m.at (m.next+a.length))
 else J1 P (Zca a) n m.next a 0 [] (Q .normal) e (m.at (m.next+a.length)):=propext Iff.rfl
theorem Z9h{keep:List Nat}{i:Nat}{a:List (Nat×FT)}:xdw P keep n base [] i a K e m=K e m:=propext Iff.rfl
theorem Z2t{keep:List Nat}{i:Nat}{a:List (Nat×FT)}(d:Option Nat)(op:AOp)(un:List Nat)(r:List AOper):xdw P keep n base (⟨d,op,none,un⟩ :: r) i a K e m=match op with
 | .call f xs=>(match W4 n e f xs with
  | some (g,args)=>WC P g args (base+i) (xOf base i r.length) m fun wl v b=>L5 a (.call wl (xOf base i r.length) m.next) un∧xdw P keep n base r (i+1) (P3 keep i (.call wl (xOf base i r.length) m.next) a) K (Y6 e d v) b
  | none=>False)
 | op=>(match stepD (base+i) (evE n e) m.get op with
  | some (v,w)=>L5 a (.ops (U4 (base+i) (evE n e) op) (U3 (evE n e) op)) un∧xdw P keep n base r (i+1) (P3 keep i (.ops (U4 (base+i) (evE n e) op) (U3 (evE n e) op)) a) K (Y6 e d v) (m.app w)
  | none=>False):=by
 cases op<;>rfl
@[congr] theorem Yh9{g : FuncId}{args a : List AVal}{k : Nat}{x : List Nat}{m : SMem}{K : List Nat → AVal → SMem → Prop}(h : args = a) : WC P g args k x m K = WC P g a k x m K := by rw [h]
@[congr] theorem Yh1{c : ACode}{e e' : Env}{m a : SMem}(h : e = e')(b : m = a) : wpH P y n n0 c Q e m = wpH P y n n0 c Q e' a := by rw [h, b]
theorem Ygp{i:Nat}:B3 P y n base [] i K e m=K e m:=propext Iff.rfl
theorem Ycm{i:Nat}(d:Option Nat)(f:AOpd)(xs:List AOpd)(un:List Nat)(r:List AOper):B3 P y n base (⟨d,.call f xs,none,un⟩ :: r) i K e m=(match evE n e f with
 | .yld b=>b=y.b∧YC P y (xs.map (evE n e)) m fun v a=>B3 P y n base r (i+1) K (Y6 e d v) a
 | _=>False):=by
 simp only[B3,V4,gdK]
theorem Ydl{i:Nat}(d:Option Nat)(op:AOp)(un:List Nat)(r:List AOper)(a:∀ f xs,op≠.call f xs):B3 P y n base (⟨d,op,none,un⟩ :: r) i K e m=stK (stepD (base+i) (evE n e) m.get op) fun v w=>B3 P y n base r (i+1) K (Y6 e d v) (m.app w):=by
 cases op<;>first|rfl|exact absurd rfl (a _ _)
theorem Z81{α:Type}{c:ACode}(E:α→Env)(M:α→SMem)(g:α→Nat)(b:α→Prop)(f:α)(q:WkR n n0 (E f) (M f) e m)(i:b f)
 (h:∀ a,b a → ∀ N:Env→SMem→Prop,(∀ d e m,g d<g a→b d→WkR n n0 (E d) (M d) e m→N e m)→wpH P y n n0 c (O1 N Q) (E a) (M a)):wpH P y n n0 (.loop c) Q e m:=by
 refine⟨fun k e m=>∃ a,k=g a∧b a∧e=E a∧m=M a,⟨g f,_,_,q,f,rfl,i,rfl,rfl⟩,?_⟩
 rintro k r s ⟨a,rfl,p,rfl,rfl⟩;exact h a p _ fun d e m j l o=>⟨g d,E d,M d,j,o,d,rfl,l,rfl,rfl⟩
theorem Zml{α:Type}{c:ACode}(E:α→Env)(M:α→SMem)(g:α→Nat)(b:α→Prop)(f:α)(l:List (Nat×Nat))(r:SubR n0 l (E f) (M f) e m)(i:b f)
 (h:∀ a,b a → ∀ N:Env→SMem→Prop,(∀ d l e m,g d<g a→b d→SubR n0 l (E d) (M d) e m→N e m)→wpH P y n n0 c (O1 N Q) (E a) (M a)):wpH P y n n0 (.loop c) Q e m:=
 Z81 E M g b f r.wk i fun a q N p=>h a q N fun d l e m j k o=>p d e m j k o.wk
end
section
theorem Z8q(d:Option Nat)(op:AOp)(g:Option (Nat×Bool))(un:List Nat):isY ⟨d,op,g,un⟩=J4 op:=rfl
theorem Z3s(f:FuncId)(xs:List AOpd):J4 (.call (.fn f) xs)=false:=rfl
theorem Z5i(t:Nat)(xs:List AOpd):J4 (.call (.tmp t) xs)=true:=rfl
theorem Yfy(l:List FuncId)(d:Option Nat)(op:AOp)(g:Option (Nat×Bool))(un:List Nat):isW l ⟨d,op,g,un⟩=I0 l op:=rfl
theorem Z8y(l:List FuncId)(f:FuncId)(xs:List AOpd):I0 l (.call (.fn f) xs)=V8 f l:=rfl
theorem Z7w(l:List FuncId)(t:Nat)(xs:List AOpd):I0 l (.call (.tmp t) xs)=false:=rfl
theorem Yew(x:AOpd):J4 (.mov x)=false:=rfl
theorem Yc8(l:List FuncId)(x:AOpd):I0 l (.mov x)=false:=rfl
theorem Yco(n:Option Nat)(x:AOpd):J4 (.load n x)=false:=rfl
theorem Z5r(l:List FuncId)(n:Option Nat)(x:AOpd):I0 l (.load n x)=false:=rfl
theorem Z8p(n:Nat)(a x:AOpd):J4 (.store n a x)=false:=rfl
theorem Yer(l:List FuncId)(n:Nat)(a x:AOpd):I0 l (.store n a x)=false:=rfl
theorem Yaq(o:Nat)(x:AOpd):J4 (.fieldA o x)=false:=rfl
theorem Z5o(l:List FuncId)(o:Nat)(x:AOpd):I0 l (.fieldA o x)=false:=rfl
theorem Z6x(k:Nat)(x i:AOpd):J4 (.idxA k x i)=false:=rfl
theorem Ybc(l:List FuncId)(k:Nat)(x i:AOpd):I0 l (.idxA k x i)=false:=rfl
theorem Ygy(x:AOpd):J4 (.lenSl x)=false:=rfl
theorem Z25(l:List FuncId)(x:AOpd):I0 l (.lenSl x)=false:=rfl
theorem Z94(x:AOpd):J4 (.nilChk x)=false:=rfl
theorem Ybf(l:List FuncId)(x:AOpd):I0 l (.nilChk x)=false:=rfl
theorem Yfm(o:UnOp)(x:AOpd):J4 (.un o x)=false:=rfl
theorem Z32(l:List FuncId)(o:UnOp)(x:AOpd):I0 l (.un o x)=false:=rfl
theorem Z3f(c a b:AOpd):J4 (.pick c a b)=false:=rfl
theorem Z6m(l:List FuncId)(c a b:AOpd):I0 l (.pick c a b)=false:=rfl
theorem Z2z(o:BinOp)(q:EqT)(x y:AOpd):J4 (.bin o q x y)=false:=rfl
theorem Ydv(l:List FuncId)(o:BinOp)(q:EqT)(x y:AOpd):I0 l (.bin o q x y)=false:=rfl
theorem Ybm(z:List AVal):J4 (.alloc z)=false:=rfl
theorem Z3c(l:List FuncId)(z:List AVal):I0 l (.alloc z)=false:=rfl
theorem Z6h(z:List AVal)(p:List (Nat×Nat×AOpd)):J4 (.build z p)=false:=rfl
theorem Ycg(l:List FuncId)(z:List AVal)(p:List (Nat×Nat×AOpd)):I0 l (.build z p)=false:=rfl
theorem Z8v(k n:Nat)(z:List AVal)(p:List (Nat×AOpd)):J4 (.mkSl k n z p)=false:=rfl
theorem Yev(l:List FuncId)(k n:Nat)(z:List AVal)(p:List (Nat×AOpd)):I0 l (.mkSl k n z p)=false:=rfl
theorem Yb8(k b:Nat)(z:List AVal)(s x:AOpd):J4 (.append k b z s x)=false:=rfl
theorem Z99(l:List FuncId)(k b:Nat)(z:List AVal)(s x:AOpd):I0 l (.append k b z s x)=false:=rfl
theorem Z3g(t:KeyT)(z:AVal)(o:Bool)(x i:AOpd):J4 (.lookup t z o x i)=false:=rfl
theorem Z7m(l:List FuncId)(t:KeyT)(z:AVal)(o:Bool)(x i:AOpd):I0 l (.lookup t z o x i)=false:=rfl
theorem Ygj(t:KeyT)(a b c:AOpd):J4 (.mapUpd t a b c)=false:=rfl
theorem Z7o(l:List FuncId)(t:KeyT)(a b c:AOpd):I0 l (.mapUpd t a b c)=false:=rfl
theorem Z3w:J4 (.mkMap)=false:=rfl
theorem Z6s(l:List FuncId):I0 l (.mkMap)=false:=rfl
attribute [simp] Z8q Z3s Z5i Yfy Z8y Z7w Yew Yc8 Yco Z5r Z8p Yer Yaq Z5o Z6x Ybc Ygy Z25 Z94 Ybf Yfm Z32 Z3f Z6m Z2z Ydv Ybm Z3c Z6h Ycg Z8v Yev Yb8 Z99 Z3g Z7m Ygj Z7o Z3w Z6s
end
end Go.AE
