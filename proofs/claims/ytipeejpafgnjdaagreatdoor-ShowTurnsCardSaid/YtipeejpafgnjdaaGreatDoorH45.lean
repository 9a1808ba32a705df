/- Part 45 of the proof: AeYd. -/
import Derived.Test.YtipeejpafgnjdaaGreatDoorH3
import Derived.Test.YtipeejpafgnjdaaGreatDoorH23
import Derived.Test.YtipeejpafgnjdaaGreatDoorH42
set_option linter.all false
namespace Go.AE
open Go.RowKit
section
variable {P:Program} {n base:Nat}
theorem Zkk{cw:CallW}(hcw:∀ fn args m id K,cwFn P fn args m id K→cw fn args m id K){K:Env→SMem→Prop}{K':ASt→Prop}(hk:∀ e m,K e m→K' ⟨toE n e,m.mem⟩):∀ (ops:List AOper) (i:Nat) (e:Env) (m:SMem),
 V6 P false n base ops i K e m→O7 stepA cw base ops i K' (toE n e) m.mem
 | [],_,_,_,h=>hk _ _ h
 | o :: r,i,e,m,h=>by
  simp only[V6]at h;simp only[O7,Zgs];cases hw:V2 n e o.guard with
  | none=>rw[hw]at h; exact h
  | some q=>
   rw[hw]at h;cases q with
   | false=>
    simp only[K4];exact Zkk hcw hk r _ _ _ h
   | true=>
    simp only[gdK]at h;simp only;have other:∀ op,stK (stepD (base+i) (evE n e) m.get op) (fun v d=>V6 P false n base r (i+1) K (Y4 e o.dst v) (m.app d)) →
     (match stepA (base+i) (toE n e) m.mem op with|some (v,m')=>O7 stepA cw base r (i+1) K' (put (toE n e) o.dst v) m'|none=>False):=by
     intro op hh;cases hs:stepD (base+i) (evE n e) m.get op with
     | none=>rw[hs]at hh; exact hh.elim
     | some vd=>
      obtain⟨v,d⟩:=vd;rw[hs]at hh;have:=Zam (t:=toE n e) (m:=m.mem) (op:=op) (v:=v) (d:=d) (id:=base+i) (by rw[L0]; exact hs)
      rw[this];simp only[K4];rw[← SMem.app_mem];exact Zkk hcw hk r _ _ _ hh
    cases hop:o.op with
    | call f xs=>
     simp only[hop]at h;simp only;cases hc:X9 n e f xs with
     | none=>rw[hc]at h; exact h.elim
     | some ga=>
      obtain⟨g,args⟩:=ga;rw[hc]at h;rw[Zsc hc];simp only;refine hcw _ _ _ _ _ ⟨g,rfl,?_⟩;refine ACalls.mono (h:SC P g args m (base+i) _) fun v m'' hh=>?_
      obtain⟨m',rfl,hk'⟩:=hh;simp only[K4];exact Zkk hcw hk r _ _ _ hk'
    | _=>rw[hop]at h; exact other _ h
def wpR(P:Program)(n:Nat):ACode→(Exit→Env→SMem→Prop)→Env→SMem→Prop
 | .skip,Q,e,m=>Q .normal e m
 | .region false ops,Q,e,m=>V6 P false n m.next ops 0 (Q .normal) e (m.at (m.next+ops.length))
 | .seq x y,Q,e,m=>wpR P n x (P2 (wpR P n y Q) Q) e m
 | .cond c x y,Q,e,m=>Zas (evE n e c) (wpR P n x Q e m) (wpR P n y Q e m)
 | .block id c,Q,e,m=>wpR P n c (K8 id Q) e m
 | .ret,Q,e,m=>Q .ret e m
 | _,_,_,_=>False
theorem Zpt{c:ACode}:∀ {Q:Exit→Env→SMem→Prop} {R:Exit→ASt→Prop} {e:Env} {m:SMem},wpR P n c Q e m→(∀ x e m,Q x e m→R x ⟨toE n e,m.mem⟩)→U2 (wrG P false stepA (cwFn P)) false c R ⟨toE n e,m.mem⟩:=by
 induction c with
 | skip=>exact fun h hq=>hq _ _ _ h
 | region draw ops=>
  intro Q R e m h hq;cases draw with
  | false=>exact Zkk (fun _ _ _ _ _ h=>h) (hq .normal) ops 0 e _ h
  | true=>exact h.elim
 | seq x y ihx ihy=>
  intro Q R e m h hq;refine ihx h fun x e m hx=>?_
  cases x<;>first|exact ihy hx hq|exact hq _ _ _ hx
 | cond c x y ihx ihy=>
  intro Q R e m h hq;simp only[wpR]at h;simp only[U2,L0];generalize evE n e c=v at h;cases v<;>first|exact h.elim|skip
  rename_i q;cases q
  ·exact ihy h hq
  ·exact ihx h hq
 | block id c ih=>
  intro Q R e m h hq;refine ih h fun x e m hx=>?_
  cases x<;>simp only[K8]at hx<;>simp only[Zao]<;>first|exact hq _ _ _ hx|skip
  split at hx
  ·rename_i h1; rw[if_pos h1]; exact hq _ _ _ hx
  ·rename_i h1; rw[if_neg h1]; exact hq _ _ _ hx
 | ret=>exact fun h hq=>hq _ _ _ h
 | _=>intro Q R e m h; exact h.elim
def setE(e:Env):List (Nat×AVal)→Env
 | []=>e
 | (i,x) :: r=>setE ((i,x) :: e) r
theorem Zv2:∀ (l:List (Nat×AVal)) (e:Env),Za3 (toE n e) l=toE n (setE e l)
 | [],_=>rfl
 | (i,x) :: r,e=>by
  simp only[Za3,setE];have:(toE n e).set i x=toE n ((i,x) :: e):=K4 n e (some i) x;rw[this];exact Zv2 r _
end
structure Yd where
 b:Nat
 n:Nat
 ps:List Nat
 e:Env
 A:ACode
 B:ACode
 wr:List FuncId:=[]
def YC(P:Program)(y:Yd)(args:List AVal)(m:SMem)(K:AVal→SMem→Prop):Prop:=
 args.length=y.ps.length∧wpR P y.n y.A (fun x e m=>match x with
  | .normal=>wpR P y.n y.B (fun x _ m=>match x with
   | .normal=>K (.bool true) m
   | _=>False) e m
  | _=>False) (setE y.e (y.ps.zip args)) m
section
variable {P:Program} {y:Yd} {n n0 base:Nat}
theorem Z7r{args:List AVal}{m:SMem}{K:AVal→SMem→Prop}{K':AVal→Mem→Prop}(h:YC P y args m K)(hk:∀ v m',K v m'→K' v m'.mem):Zt2 P y.ps (toE y.n y.e) y.A y.B args m.mem K':=by
 refine⟨h.1,?_⟩;rw[Zv2];refine Zpt h.2 fun x e m hx=>?_
 cases x<;>first|exact hx.elim|skip
 refine Zpt hx fun x e m hx=>?_
 cases x<;>first|exact hx.elim|exact hk _ _ hx
def B4(P:Program)(y:Yd)(n base:Nat):List AOper→Nat→(Env→SMem→Prop)→Env→SMem→Prop
 | [],_,K,e,m=>K e m
 | o :: r,i,K,e,m=>gdK (V2 n e o.guard)
  (match o.op with
  | .call f xs=>(match evE n e f with
   | .yld b=>b=y.b∧YC P y (xs.map (evE n e)) m fun v m'=>B4 P y n base r (i+1) K (Y4 e o.dst v) m'
   | _=>False)
  | op=>stK (stepD (base+i) (evE n e) m.get op) fun v d=>B4 P y n base r (i+1) K (Y4 e o.dst v) (m.app d))
  (B4 P y n base r (i+1) K (Y4 e o.dst aundef) m)
theorem Zmb{K:Env→SMem→Prop}{K':ASt→Prop}(hk:∀ e m,K e m→K' ⟨toE n e,m.mem⟩):∀ (ops:List AOper) (i:Nat) (e:Env) (m:SMem),
 B4 P y n base ops i K e m→O7 stepA (cwY P y.b y.ps (toE y.n y.e) y.A y.B) base ops i K' (toE n e) m.mem
 | [],_,_,_,h=>hk _ _ h
 | o :: r,i,e,m,h=>by
  simp only[B4]at h;simp only[O7,Zgs];cases hw:V2 n e o.guard with
  | none=>rw[hw]at h; exact h
  | some q=>
   rw[hw]at h;cases q with
   | false=>
    simp only[K4];exact Zmb hk r _ _ _ h
   | true=>
    simp only[gdK]at h;simp only;have other:∀ op,stK (stepD (base+i) (evE n e) m.get op) (fun v d=>B4 P y n base r (i+1) K (Y4 e o.dst v) (m.app d)) →
     (match stepA (base+i) (toE n e) m.mem op with|some (v,m')=>O7 stepA (cwY P y.b y.ps (toE y.n y.e) y.A y.B) base r (i+1) K' (put (toE n e) o.dst v) m'|none=>False):=by
     intro op hh;cases hs:stepD (base+i) (evE n e) m.get op with
     | none=>rw[hs]at hh; exact hh.elim
     | some vd=>
      obtain⟨v,d⟩:=vd;rw[hs]at hh;have:=Zam (t:=toE n e) (m:=m.mem) (op:=op) (v:=v) (d:=d) (id:=base+i) (by rw[L0]; exact hs)
      rw[this];simp only[K4];rw[← SMem.app_mem];exact Zmb hk r _ _ _ hh
    cases hop:o.op with
    | call f xs=>
     simp only[hop]at h;simp only;cases hf:evE n e f with
     | yld b=>
      rw[hf]at h;obtain⟨rfl,h⟩:=h;have hc:Zaw (toE n e) f xs=some (.yield y.b,xs.map (ev (toE n e))):=by
       unfold Zaw;rw[L0,hf]
      rw[hc];simp only;refine .inr ⟨rfl,?_⟩;rw[L0];refine Z7r h fun v m' hh=>?_
      simp only[K4];exact Zmb hk r _ _ _ hh
     | _=>rw[hf]at h; exact h.elim
    | _=>rw[hop]at h; exact other _ h
def WC(P:Program)(g:FuncId)(args:List AVal)(k:Nat)(x:List Nat)(m:SMem)(K:List Nat→AVal→SMem→Prop):Prop:=
 ∃ wl v,∃ m':SMem,Zfc P g args k x m.mem v m'.mem wl∧K wl v m'
def xdw(P:Program)(keep:List Nat)(n base:Nat):List AOper→Nat→List (Nat×FT)→(Env→SMem→Prop)→Env→SMem→Prop
 | [],_,_,K,e,m=>K e m
 | o :: r,i,fs,K,e,m=>match V2 n e o.guard with
  | some true=>(match o.op with
   | .call f xs=>(match X9 n e f xs with
    | some (g,args)=>WC P g args (base+i) (xOf base i r.length) m fun wl v m'=>M6 fs (.call wl (xOf base i r.length) m.next) o.un∧xdw P keep n base r (i+1) (Q3 keep i (.call wl (xOf base i r.length) m.next) fs) K (Y4 e o.dst v) m'
    | none=>False)
   | op=>(match stepD (base+i) (evE n e) m.get op with
    | some (v,d)=>M6 fs (.ops (V9 (base+i) (evE n e) op) (V8 (evE n e) op)) o.un∧xdw P keep n base r (i+1) (Q3 keep i (.ops (V9 (base+i) (evE n e) op) (V8 (evE n e) op)) fs) K (Y4 e o.dst v) (m.app d)
    | none=>False))
  | some false=>xdw P keep n base r (i+1) (Q3 keep i (.ops [] []) fs) K (Y4 e o.dst aundef) m
  | none=>False
theorem Zm0{keep:List Nat}{K:Env→SMem→Prop}:∀ (ops:List AOper) (fs:List (Nat×FT)) (gs:List FT) (e:Env) (m:SMem),
 (∀ j f,M5 fs j=some f→gs.getD j (.ops [] [])=f∧j<gs.length)→xdw P keep n base ops gs.length fs K e m→R3 P base ops gs (fun σ=>∃ e m,σ=⟨toE n e,SMem.mem m⟩∧K e m) (toE n e) m.mem
 | [],_,_,e,m,_,h=>⟨e,m,rfl,h⟩
 | o :: r,fs,gs,e,m,hr,h=>by
  have hl:∀ f:FT,(gs++[f]).length=gs.length+1:=fun f=>by simp
  have hrec:∀ f,∀ j g,M5 (Q3 keep gs.length f fs) j=some g→(gs++[f]).getD j (.ops [] [])=g∧j<(gs++[f]).length:=by
   intro f j g hj;have old:∀ j g,M5 fs j=some g→(gs++[f]).getD j (.ops [] [])=g∧j<(gs++[f]).length:=fun j g h1=>by
    obtain⟨h2,h3⟩:=hr j g h1;refine⟨?_,by rw[hl]; omega⟩
    rw[List.getD_eq_getElem?_getD,List.getElem?_append_left h3,← List.getD_eq_getElem?_getD];exact h2
   unfold Q3 at hj;cases hm:V3 gs.length keep with
   | false=>rw[hm]at hj; exact old j g hj
   | true=>
    rw[hm]at hj;simp only[cond_true,M5]at hj;split at hj
    ·rename_i e1;injection hj with hj
     subst hj; subst e1;refine⟨?_,by rw[hl]; omega⟩
     rw[List.getD_eq_getElem?_getD,List.getElem?_append_right (Nat.le_refl _)];simp
    ·exact old j g hj
  simp only[xdw]at h;simp only[R3,Zgs];cases hw:V2 n e o.guard with
  | none=>rw[hw]at h; exact h
  | some b=>
   rw[hw]at h;cases b with
   | false=>
    simp only[K4];exact Zm0 r _ _ _ _ (hrec _) (by rw[hl]; exact h)
   | true=>
    simp only at h ⊢;have other:∀ op,(match stepD (base+gs.length) (evE n e) m.get op with
     | some (v,d)=>M6 fs (.ops (V9 (base+gs.length) (evE n e) op) (V8 (evE n e) op)) o.un∧xdw P keep n base r (gs.length+1) (Q3 keep gs.length (.ops (V9 (base+gs.length) (evE n e) op) (V8 (evE n e) op)) fs) K (Y4 e o.dst v) (m.app d)
     | none=>False) →
     (match stepA (base+gs.length) (toE n e) m.mem op with|some (v,m')=>S3 gs (.ops (S5 (base+gs.length) (toE n e) op) (K3 (toE n e) op)) o.un∧R3 P base r (gs++[.ops (S5 (base+gs.length) (toE n e) op) (K3 (toE n e) op)]) (fun σ=>∃ e m,σ=⟨toE n e,SMem.mem m⟩∧K e m) (put (toE n e) o.dst v) m'|none=>False):=by
     intro op hh;cases hs:stepD (base+gs.length) (evE n e) m.get op with
     | none=>rw[hs]at hh; exact hh.elim
     | some vd=>
      obtain⟨v,d⟩:=vd;rw[hs]at hh;have:=Zam (m:=m.mem) (t:=toE n e) (id:=base+gs.length) (op:=op) (v:=v) (d:=d) (by rw[L0]; exact hs)
      rw[this];simp only[K4,Zl8,Zlz,L0];rw[← SMem.app_mem];exact⟨Zit (fun j f hj=>(hr j f hj).1) hh.1,Zm0 r _ _ _ _ (hrec _) (by rw[hl]; exact hh.2)⟩
    cases hop:o.op with
    | call f xs=>
     simp only[hop]at h;simp only[Zme];cases hc:X9 n e f xs with
     | none=>rw[hc]at h; exact h
     | some ga=>
      obtain⟨g,args⟩:=ga;rw[hc]at h;obtain⟨wl,v,m',h1,h0,h2⟩:=h;refine⟨wl,_,v,_,h1,Zit (fun j f hj=>(hr j f hj).1) h0,?_⟩
      simp only[K4];exact Zm0 r _ _ _ _ (hrec _) (by rw[hl]; exact h2)
    | _=>(have hh:=other o.op; rw[hop]at h hh; exact hh h)
def K6(l:List FuncId):AOp→Bool
 | .call (.fn g) _=>V3 g l
 | _=>false
def isW(l:List FuncId):AOper→Bool
 | ⟨_,op,_,_⟩=>K6 l op
def subK(q:Nat→Nat)(n:Nat)(ks:List Nat):List (Nat×ABlk)→Bool
 | []=>true
 | (d,_) :: r=>(V3 (q d) ks||Nat.ble n d)&&subK q n ks r
theorem Zy1{q:Nat→Nat}{n:Nat}{ks:List Nat}:∀ {l:List (Nat×ABlk)},subK q n ks l=true → ∀ d y,Z8 l d=some y→q d∈ks∨n≤d
 | [],_,d,y,h=>by simp[Z8]at h
 | (c,x) :: r,hs,d,y,h=>by
  simp only[subK,bA,Bool.or_eq_true]at hs;simp only[Z8]at h;split at h
  ·rename_i e;subst e;rcases hs.1 with h1|h1
   ·exact .inl (memN_iff.1 h1)
   ·exact .inr (Nat.le_of_ble_eq_true h1)
  ·exact Zy1 hs.2 d y h
theorem Zrg{g:FuncId}{args0 args:List AVal}{m0 sm0 m:SMem}{v0:AVal}{k:Nat}{x:List Nat}{K:List Nat→AVal→SMem→Prop}(h:Ctr P g args0 m0 fun r sm=>r=v0∧sm=sm0)(hnx:m0.next≤sm0.next)(l:List (Nat×Nat))(ha:Q0 (qOf l 0 m0.next m.next) args0=args)
 (hs:SubRB (qOf l 0 m0.next m.next) m0.bl m) (hi:InjK (qOf l 0 m0.next m.next) m0.bl) (hsub:subK (qOf l 0 m0.next m.next) m0.next (M2 (qOf l 0 m0.next m.next) m0.bl) sm0.bl=true) (hk:k∉x) (hx:∀ b,b∈M2 (qOf l 0 m0.next m.next) m0.bl→b∉x)
 (hx0:∀ c,c∈x→m.get c=none) (hx3:∀ c,c∈x→Z8 (L9 (qOf l 0 m0.next m.next) sm0.bl (S8 (M2 (qOf l 0 m0.next m.next) m0.bl) m.bl)) c=none)
 (hK:K (M2 (qOf l 0 m0.next m.next) m0.bl) (v0.ren (qOf l 0 m0.next m.next)) ⟨L9 (qOf l 0 m0.next m.next) sm0.bl (S8 (M2 (qOf l 0 m0.next m.next) m0.bl) m.bl),sm0.next - m0.next+m.next⟩):WC P g args k x m K:=by
 subst ha;refine⟨_,_,_,?_,hK⟩;obtain⟨q,hq⟩:∃ q,qOf l 0 m0.next m.next=q:=⟨_,rfl⟩
 have hqn:∀ c,m0.next≤c→q c=c - m0.next+m.next:=fun c hc=>by
  rw[← hq];simp only[qOf,Nat.not_lt_zero,if_false];rw[if_neg (by omega)]
 rw[hq]at hs hi hsub hx hx3 ⊢;obtain⟨m3,hm3⟩:∃ m3:SMem,m3=⟨L9 q sm0.bl (S8 (M2 q m0.bl) m.bl),sm0.next - m0.next+m.next⟩:=⟨_,rfl⟩
 have hget:∀ c,m3.mem.get c=Z8 (L9 q sm0.bl (S8 (M2 q m0.bl) m.bl)) c:=fun c=>by rw[hm3]; rfl
 rw[← hm3];refine⟨m3.mem,hk,fun c hc=>by rw[hget]; exact hx3 c hc,?_,rfl,fun c=>?_,fun c hw hlt hc=>?_,?_⟩
 ·show m.next≤m3.next;rw[hm3];show m.next≤sm0.next - m0.next+m.next;omega
 ·by_cases hc:c∈x
  ·rw[if_pos hc,hget,hx3 c hc];exact(hx0 c hc).symm
  ·rw[if_neg hc]
 ·rw[hget];cases hy:Z8 (L9 q sm0.bl (S8 (M2 q m0.bl) m.bl)) c with
  | some y=>
   rcases Zm9 hy with⟨d,z,h1,h2,h3⟩|h1
   ·exfalso;rcases Zy1 hsub d z h1 with h4|h4
    ·exact hw (h2 ▸ h4)
    ·rw[h2,hqn d h4]at hlt;have:d - m0.next+m.next<m.next:=hlt;omega
   ·exact(Zbd h1).1.symm
  | none=>
   cases hz:m.mem.get c with
   | none=>rfl
   | some z=>
    exfalso;have h1:Z8 (S8 (M2 q m0.bl) m.bl) c=some z:=by
     have:∀ l:List (Nat×ABlk),Z8 l c=some z→Z8 (S8 (M2 q m0.bl) l) c=some z:=by
      intro l
      induction l with
      | nil=>intro h; simp[Z8]at h
      | cons a r ih=>
       obtain⟨d,w⟩:=a;intro h;simp only[Z8]at h;simp only[S8];cases hm:V3 d (M2 q m0.bl)with
       | true=>
        simp only[cond_true];refine ih ?_;rw[if_neg (fun e:c=d=>hw (by rw[e]; exact memN_iff.1 hm))]at h
        exact h
       | false=>
        simp only[cond_false,Z8];split
        ·rename_i e; rw[if_pos e]at h; exact h
        ·rename_i e; rw[if_neg e]at h; exact ih h
     exact this _ hz
    have h2:∀ (l t:List (Nat×ABlk)),Z8 t c=some z→Z8 (L9 q l t) c≠none:=by
     intro l t ht
     induction l with
     | nil=>simp only[L9]; rw[ht]; simp
     | cons a r ih=>
      obtain⟨d,w⟩:=a;simp only[L9,Z8];split
      ·simp
      ·exact ih
    exact h2 _ _ h1 hy
 ·refine Zpq h (m:=m.mem.less x) (q:=q) (fun c y hy=>?_) (fun c c' y y' hy hy'=>hi.get c c' y y' hy hy') hqn (fun r0 m1 hh=>?_) [k]
  ·have hn:q c∉x:=hx _ (Zh7 hy);obtain⟨z,hz1,hz2⟩:=hs.get c y hy;refine⟨z,?_,hz2⟩;show(if q c∈x then none else m.mem.get (q c))=some z
   rw[if_neg hn];exact hz1
  ·obtain⟨sm,rfl,rfl,rfl⟩:=hh;refine⟨m3.mem,by rw[hm3]; rfl,fun b y hb=>?_,rfl,rfl⟩
   have hbx:b∉x:=fun hin=>by
    rw[hget,hx3 b hin]at hb;cases hb
   rw[hget]at hb;rcases Zm9 hb with⟨c,z,h1,h2,h3⟩|h1
   ·exact .inl ⟨c,z,h1,h2,h3⟩
   ·have h2:=Zbd h1;refine .inr ⟨?_,fun c z hc e=>h2.2 (e ▸ Zh7 hc)⟩
    show(if b∈x then none else m.mem.get b)=some y
    rw[if_neg hbx];exact h2.1
def K5:AOp→Bool
 | .call (.tmp _) _=>true
 | _=>false
def isY:AOper→Bool
 | ⟨_,op,_,_⟩=>K5 op
def wpH(P:Program)(y:Yd)(n n0:Nat):ACode→(Exit→Env→SMem→Prop)→Env→SMem→Prop
 | .skip,Q,e,m=>Q .normal e m
 | .region false ops,Q,e,m=>if ops.any isY=true then B4 P y n m.next ops 0 (Q .normal) e (m.at (m.next+ops.length))else V6 P false n m.next ops 0 (Q .normal) e (m.at (m.next+ops.length))
 | .region true ops,Q,e,m=>if ops.any (isW y.wr)=true then xdw P (Zcc ops) n m.next ops 0 [] (Q .normal) e (m.at (m.next+ops.length))
  else if ops.all J3=true then V6 P false n m.next ops 0 (Q .normal) e (m.at (m.next+ops.length))
  else if ops.all (fun o=>o.un.isEmpty)=true then V6 P true n m.next ops 0 (Q .normal) e (m.at (m.next+ops.length))
  else K2 P (Zcc ops) n m.next ops 0 [] (Q .normal) e (m.at (m.next+ops.length))
 | .seq a b,Q,e,m=>wpH P y n n0 a (P2 (wpH P y n n0 b Q) Q) e m
 | .cond c a b,Q,e,m=>Zas (evE n e c) (wpH P y n n0 a Q e m) (wpH P y n n0 b Q e m)
 | .block id c,Q,e,m=>wpH P y n n0 c (K8 id Q) e m
 | .loop c,Q,e,m=>∃ (I:Nat→Env→SMem→Prop),(∃ k e0 m0,WkR n n0 e0 m0 e m∧I k e0 m0) ∧ ∀ k e1 m1,I k e1 m1→wpH P y n n0 c (P2 (fun e' m'=>∃ j e0 m0,j<k∧WkR n n0 e0 m0 e' m'∧I j e0 m0) Q) e1 m1
 | .exit id,Q,e,m=>Q (.exit id) e m
 | .scope c,Q,e,m=>wpH P y n n0 c Q e m
 | .label _,Q,e,m=>Q .normal e m
 | .ret,Q,e,m=>Q .ret e m
 | .bad,_,_,_=>False
def HB(H:HypW)(n0:Nat):HypW:=fun W Φ ρ=>∃ Φ0 ρ0,H W Φ0 ρ0∧(∀ b l,ρ0 b=some l→b<n0)∧(∀ B c,Φ0 B=some c→Φ B=some c) ∧ ∀ b,b<n0→ρ b=ρ0 b
theorem HB.get{H:HypW}(hM:H.Mono){n0:Nat}{W:Base}{Φ:Pers}{ρ:Rho}(h:HB H n0 W Φ ρ):H W Φ ρ:=by
 obtain⟨Φ0,ρ0,h1,h2,h3,h4⟩:=h;exact hM W Φ0 ρ0 Φ ρ h1 ⟨h3,fun b l hb=>by rw[h4 b (h2 b l hb)]; exact hb⟩
theorem HB.go{H:HypW}{n0:Nat}{W:Base}{Φ Φ':Pers}{ρ ρ':Rho}(h:HB H n0 W Φ ρ)(hp:∀ B c,Φ B=some c→Φ' B=some c)(hk:∀ b,b<n0→ρ' b=ρ b):HB H n0 W Φ' ρ':=by
 obtain⟨Φ0,ρ0,h1,h2,h3,h4⟩:=h;exact⟨Φ0,ρ0,h1,h2,fun B c hB=>hp B c (h3 B c hB),fun b hb=>(hk b hb).trans (h4 b hb)⟩
def Zko(H:HypW)(P:Program)(n n0:Nat)(c:Code)(Q:Exit→Env→SMem→Prop)(e:Env)(m:SMem):Prop:=
 ∀(W:Base) (Φ:Pers) (ρ:Rho) (a:Act) (w:World),HB H n0 W Φ ρ→n0≤m.next→Rel W Φ ρ m.mem w→RL Φ ρ (toE n e) a.tmps→a.defers=[]→c.wp P (Zfv W Φ ρ n n0 Q) a w
theorem Z1l(hm:P.follows .mixedOrders=true){H:HypW}(hM:H.Mono)(hcw:Za6 Fence.wide 0 H P (cwY P y.b y.ps (toE y.n y.e) y.A y.B)){id:Nat}{ops:Array Oper}{draw:Bool}{os:List AOper}{Q:Exit→Env→SMem→Prop}{e:Env}{m:SMem}
 (hc:Y2 P (.region id ops draw)=.region false os) (h:B4 P y n m.next os 0 (Q .normal) e (m.at (m.next+os.length))):Zko H P n n0 (.region id ops draw) Q e m:=by
 intro W Φ ρ a w hh hn hr ht hd;have h1:U2 (wrG P true stepA (cwY P y.b y.ps (toE y.n y.e) y.A y.B)) true (Y2 P (.region id ops draw)) (F2 n Q) ⟨toE n e,m.mem⟩:=by
  rw[hc];exact Zmb (K':=F2 n Q .normal) (fun e m hk=>⟨e,m,rfl,hk⟩) os 0 e _ h
 have h2:=Zqk (n:=0) hm hM (Zg0 Open.wide) hcw (.region id ops draw) _ _ h1 W Φ ρ (hh.get hM) a w hr ht hd;refine wp_mono (wpIn_wide.1 h2) fun x a' w' hl=>?_
 obtain⟨σ,Φ',ρ',g1,g2,g3,g4,g5,g6,g7⟩:=hl;have hfix:∀ b,b<n0→ρ' b=ρ b:=fun b hb=>by
  cases hq:ρ b with
  | none=>exact g2 b (Nat.lt_of_lt_of_le hb hn) hq
  | some l=>exact g1.rho b l hq
 have hnx:m.next≤σ.m.next:=g3;cases x<;>simp only[F2]at g7<;>first
  | exact g7.elim
  | (obtain ⟨e',m',rfl,hq⟩:=g7
     exact⟨e',m',Φ',ρ',g1.pers,hfix,Nat.le_trans hn hnx,g4,g5,g6,fun l hl=>(by cases hl),hq⟩)
theorem Z4t(hm:P.follows .mixedOrders=true){H:HypW}(hM:H.Mono)(hcw:Za6 Fence.wide 0 H P (cwY P y.b y.ps (toE y.n y.e) y.A y.B)):∀ (c:Code) (Q:Exit→Env→SMem→Prop) (e:Env) (m:SMem),wpH P y n n0 (Y2 P c) Q e m→Zko H P n n0 c Q e m:=by
 intro c
 induction c with
 | skip=>exact fun Q e m h W Φ ρ a w _ hn hr ht hd=>wp_skip ⟨e,m,Φ,ρ,fun _ _ h=>h,fun _ _=>rfl,hn,hr,ht,hd,fun l hl=>(by cases hl),h⟩
 | region id ops draw=>
  intro Q e m h;have hw:∀ A:ACode,Y2 P (.region id ops draw)=A→(match A with | .region _ _=>True | .bad=>True|_=>False)→wpH P y n n0 A Q e m→Zko H P n n0 (.region id ops draw) Q e m:=by
   intro A hc hA h;have plain:wpZ P n n0 A Q e m→Zko H P n n0 (.region id ops draw) Q e m:=fun hz W Φ ρ a w _ hn hr ht hd=>
    Zwd hm (.region id ops draw) Q e m (by rw[hc]; exact Zv7 hz fun _ _ _ h=>h) W Φ ρ a w hn hr ht hd
   cases A with
   | region d os=>
    cases d with
    | false=>
     simp only[wpH]at h;split at h
     ·exact Z1l hm hM hcw hc h
     ·exact plain h
    | true=>
     simp only[wpH]at h;split at h
     ·intro W Φ ρ a w _ hn hr ht hd;refine Zts hm (e:=e) (m:=m) ?_ W Φ ρ a w hn hr ht hd;rw[hc];exact Zm0 os [] [] e _ (fun j f hj=>by simp[M5]at hj) h
     ·exact plain h
   | bad=>exact h.elim
   | _=>exact hA.elim
  refine hw _ rfl ?_ h;cases draw with
  | false=>
   simp only[Y2];cases G8 P ops ops.toList<;>trivial
  | true=>
   simp only[Y2];cases G8 P ops ops.toList with
   | none=>trivial
   | some aso=>
    simp only;cases Zh8 ops aso (Zbe ops.toList)<;>trivial
 | seq x y ihx ihy=>
  intro Q e m h W Φ ρ a w hh hn hr ht hd;simp only[Y2,wpH]at h;refine wp_seq (wp_mono (ihx _ _ _ h W Φ ρ a w hh hn hr ht hd) ?_);intro x' a' w' hl;have key:∀ e',x'=e'→e'≠.normal→Zfv W Φ ρ n n0 Q x' a' w':=by
   intro e' he hne;refine Zg7 (fun _ _ h=>h) (fun _ _=>rfl) hl fun e m hq=>?_
   subst he;cases x'<;>first|exact absurd rfl hne|exact hq
  cases x' with
  | normal=>
   obtain⟨e',m',Φ',ρ',h1,h2,h3,h4,h5,h6,h7,h8⟩:=hl;exact wp_mono (ihy _ _ _ h8 W Φ' ρ' a' w' (hh.go h1 h2) h3 h4 h5 h6) fun x a w hl'=>Zg7 h1 h2 hl' fun _ _ h=>h
  | exit i=>exact key _ rfl (by simp)
  | goto l=>exact key _ rfl (by simp)
  | ret=>exact key _ rfl (by simp)
  | panic ch=>exact key _ rfl (by simp)
  | outgrown=>exact key _ rfl (by simp)
 | cond c x y ihx ihy=>
  intro Q e m h W Φ ρ a w hh hn hr ht hd;simp only[Y2]at h;cases hc:Y5 c with
  | none=>simp[hc,wpH]at h
  | some c'=>
   simp only[hc,wpH]at h;have hv:=T4 ht hc;rw[L0]at hv;generalize evE n e c'=z at h hv;cases z<;>first|exact h.elim|skip
   rename_i q;generalize hz:a.eval c=v at hv;cases hv;cases q
   ·exact wp_cond_false hz (ihy _ _ _ h W Φ ρ a w hh hn hr ht hd)
   ·exact wp_cond_true hz (ihx _ _ _ h W Φ ρ a w hh hn hr ht hd)
 | block id c ih=>
  intro Q e m h W Φ ρ a w hh hn hr ht hd;simp only[Y2,wpH]at h;refine wp_block (wp_mono (ih _ _ _ h W Φ ρ a w hh hn hr ht hd) ?_);intro x a' w' hl;cases x with
  | exit i=>
   simp only[Exit.inBlock];obtain⟨e',m',Φ',ρ',h1,h2,h3,h4,h5,h6,h7,h8⟩:=hl;simp only[K8]at h8;split
   ·rename_i hi;rw[if_pos hi]at h8;exact⟨e',m',Φ',ρ',h1,h2,h3,h4,h5,h6,fun l hl=>(by cases hl),h8⟩
   ·rename_i hi;rw[if_neg hi]at h8;exact⟨e',m',Φ',ρ',h1,h2,h3,h4,h5,h6,fun l hl=>(by cases hl),h8⟩
  | normal=>exact hl
  | goto l=>exact hl
  | ret=>exact hl
  | panic ch=>exact hl
  | outgrown=>exact hl
 | loop c ih=>
  intro Q e m h W Φ ρ a w hh hn hr ht hd;simp only[Y2,wpH]at h;obtain⟨I,⟨k0,e0,m0,hs0,h0⟩,hround⟩:=h;obtain⟨Φ1,ρ1,hp1,hk1,hr1,ht1⟩:=hs0.2 W Φ ρ _ w hr ht;refine wp_loop_ghost (fun k a' w'=>∃ e' m' Φ' ρ',(∀ B c,Φ B=some c→Φ' B=some c)∧(∀ b,b<n0→ρ' b=ρ b)∧n0≤m'.next∧Rel W Φ' ρ' m'.mem w'∧RL Φ' ρ' (toE n e') a'.tmps∧a'.defers=[]∧I k e' m') k0
   ⟨e0,m0,Φ1,ρ1,hp1,hk1,hs0.1,hr1,ht1,hd,h0⟩ ?_
  rintro k a' w' ⟨e',m',Φ',ρ',h1,h2,h3,h4,h5,h6,h7⟩;refine wp_mono (ih _ _ _ (hround k e' m' h7) W Φ' ρ' a' w' (hh.go h1 h2) h3 h4 h5 h6) ?_;intro x a'' w'' hl;have key:∀ e',x=e'→e'≠.normal→Zfv W Φ ρ n n0 Q x a'' w'':=by
   intro e' he hne;refine Zg7 h1 h2 hl fun e m hq=>?_
   subst he;cases x<;>first|exact absurd rfl hne|exact hq
  cases x with
  | normal=>
   obtain⟨e2,m2,Φ2,ρ2,g1,g2,g3,g4,g5,g6,_,j,e3,m3,g7,g8,g9⟩:=hl;obtain⟨Φ3,ρ3,hp3,hk3,hr3,ht3⟩:=g8.2 W Φ2 ρ2 _ _ g4 g5;exact⟨j,g7,e3,m3,Φ3,ρ3,fun B c hB=>hp3 B c (g1 B c (h1 B c hB)),fun b hb=>(hk3 b hb).trans ((g2 b hb).trans (h2 b hb)),g8.1,hr3,ht3,g6,g9⟩
  | exit i=>exact key _ rfl (by simp)
  | goto l=>exact key _ rfl (by simp)
  | ret=>exact key _ rfl (by simp)
  | panic ch=>exact key _ rfl (by simp)
  | outgrown=>exact key _ rfl (by simp)
 | exit id=>exact fun Q e m h W Φ ρ a w _ hn hr ht hd=>wp_exit ⟨e,m,Φ,ρ,fun _ _ h=>h,fun _ _=>rfl,hn,hr,ht,hd,fun l hl=>(by cases hl),h⟩
 | scope c ih=>
  intro Q e m h W Φ ρ a w hh hn hr ht hd;simp only[Y2,wpH]at h;refine wp_scope_straight (wp_mono (ih _ _ _ h W Φ ρ a w hh hn hr ht hd) ?_);intro x a' w' hl;cases x with
  | goto l=>
   obtain⟨_,_,_,_,_,_,_,_,_,_,h7,_⟩:=hl;exact absurd rfl (h7 l)
  | normal=>exact hl
  | exit i=>exact hl
  | ret=>exact hl
  | panic ch=>exact hl
  | outgrown=>exact hl
 | label l=>exact fun Q e m h W Φ ρ a w _ hn hr ht hd=>wp_label ⟨e,m,Φ,ρ,fun _ _ h=>h,fun _ _=>rfl,hn,hr,ht,hd,fun l hl=>(by cases hl),h⟩
 | ret=>exact fun Q e m h W Φ ρ a w _ hn hr ht hd=>wp_ret ⟨e,m,Φ,ρ,fun _ _ h=>h,fun _ _=>rfl,hn,hr,ht,hd,fun l hl=>(by cases hl),h⟩
 | rangeFunc f ps x y _ _=>exact fun Q e m h=>by simp[Y2,wpH]at h
 | goto l=>exact fun Q e m h=>by simp[Y2,wpH]at h
 | refuse s=>exact fun Q e m h=>by simp[Y2,wpH]at h
theorem Zuq{W:Base}{Φ Φ':Pers}{ρ ρ':Rho}{n0:Nat}{w w':World}{K:AVal→SMem→Prop}{v:AVal}{u:Value}{m':SMem}(hfr:∀ b l,ρ b=some l→b<n0)(hp:∀ B c,Φ B=some c→Φ' B=some c)(hk:∀ b,b<n0→ρ' b=ρ b)(hr:Rel W Φ' ρ' m'.mem w')(hv:R Φ' ρ' v u)(h:S4 n0 K v m') :
 ∃ r m2 ρ2,Ext Φ ρ Φ' ρ2∧(∀ b,b<n0→ρ2 b=ρ b)∧Rel W Φ' ρ2 (SMem.mem m2) w'∧R Φ' ρ2 r u∧n0≤m2.next∧K r m2:=by
 obtain⟨v0,m0,l,g2,g3⟩:=h;obtain⟨ρ2,j1,j2,j3⟩:=g2.rel (n:=1) (vs:=#[u]) hr ⟨rfl,fun i x y hx hy=>by
  cases i with
  | zero=>
   rw[I8 (by omega)]at hx
   simp only[Env.get,if_true,oI]at hx;have:u=y:=by simpa using hy
   subst hx; subst this; exact hv
  | succ i=>simp at hy⟩
 have k3:R Φ' ρ2 v0 u:=j3.2 0 v0 u (by rw[I8 (by omega)]; rfl) rfl
 have hfix:∀ b,b<n0→ρ2 b=ρ b:=fun b hb=>(j1 b hb).trans (hk b hb)
 exact⟨v0,m0,ρ2,⟨hp,fun b l hb=>(hfix b (hfr b l hb)).trans hb⟩,hfix,j2,k3,g2.1,g3⟩
def CtrY(P:Program)(y:Yd)(f:FuncId)(args:List AVal)(m:SMem)(K:AVal→SMem→Prop):Prop:=
 ∀(l:Nat) (r:Loop),r.state=.ready→r.pending=none→r.params.toList=y.ps→Y2 P r.assign=y.A→Y2 P r.body=y.B→ACallsH (HLoop y.b l r (toE y.n y.e)) P f args m.mem fun v m''=>∃ m':SMem,m''=m'.mem∧K v m'
theorem Z88(hm:P.follows .mixedOrders=true){f:FuncId}{fn:Func}{af:AFn}{args:List AVal}{m:SMem}{Post:AVal→SMem→Prop}(hf:P.funcs[f]? = some fn)(hc:cFn P fn=some af){nt:Nat}{rs:List (Nat×Option (Option Nat))}{bd:ACode}(hd:af=⟨nt,rs,bd⟩)(hl:Nat.ble args.length nt=true)
 (h:∀ K:AVal→SMem→Prop,(∀ r sm,Post r sm→K r sm)→wpH P y nt m.next bd (N9 nt rs (S4 m.next K)) (W9 0 args []) m):CtrY P y f args m Post:=by
 subst hd;have h:=h Post fun _ _ h=>h
 obtain⟨c,hbd,hbody,hrs,hnt,hname⟩:=Zjt hc;have hl':args.length≤nt:=Nat.le_of_ble_eq_true hl;intro l r hst hpe hps hA hB;have hcw:=Zt3 (P:=P) (n:=0) (b:=y.b) (l:=l) (tR:=toE y.n y.e) hst hpe;rw[hps,hA,hB]at hcw;refine⟨⟨fn,hf,hname,by rw[hbd]; rfl⟩,fun W Φ ρ hH vs w hr ha=>?_⟩
 have ht0:=Zhh (k:=fn.ntmps) ha;have ht1:RL Φ ρ (toE nt (W9 0 args [])) (vs++Array.replicate (fn.ntmps - vs.size) undef):=by
  have hnt':nt=fn.ntmps:=hnt;refine ht0.sub (by rw[M7]; simp; omega) fun i x hx=>?_
  have hi:i<nt:=by
   have:=(gS.1 hx).1;rwa[M7]at this
  rw[I8 hi,Zg6]at hx;injection hx with hx
  by_cases h2:0≤i∧i<0+args.length
  ·rw[if_pos h2]at hx;rw[List.getElem?_append,if_pos (by omega)]
   refine .inr ?_;rw[← hx,Nat.sub_zero,List.getD,gE (by omega)]
   rfl
  ·rw[if_neg h2]at hx;exact .inl hx.symm
 have hb:Y2 P c=bd:=hbody.symm;rw[← hb]at h;have hs:=Z4t (n0:=m.next) hm HLoop.mono hcw c _ _ _ h W Φ ρ { tmps:=vs++Array.replicate (fn.ntmps - vs.size) undef,defers:=[] } w ⟨Φ,ρ,hH,fun b l hb=>hr.fresh b l hb,fun _ _ h=>h,fun _ _=>rfl⟩ (Nat.le_refl _) hr ht1 rfl
 refine calls_of_wp hf hbd (wp_mono hs fun x a w' hl=>?_)
 obtain⟨e,m',Φ',ρ',h1,h2,h3,h4,h5,h6,h7,h8⟩:=hl;have fin:I7 (S4 m.next Post) m' (S1 nt e m' rs)→a.defers=[] ∧ ∃ v,(results fn a.tmps).run P w'=.ok v w' ∧
  ∃ v' r m' Φ' ρ',Ending.returned v=.returned v'∧Ext Φ ρ Φ' ρ'∧KeepN m.mem.next ρ ρ'∧Rel W Φ' ρ' m' w'∧R Φ' ρ' r v'∧m.mem.next≤m'.next ∧ ∃ sm:SMem,m'=sm.mem∧Post r sm:=by
  intro hh;obtain⟨v,g1,g2⟩:=Zm4 hh;obtain⟨u,k1,k2⟩:=Zf1 h4 h5 hrs g1;obtain⟨r2,m2,ρ2,q1,q2,q3,q4,q5,q6⟩:=Zuq (w:=w) (fun b l hb=>hr.fresh b l hb) h1 h2 h4 k2 g2
  exact⟨h6,u,k1,u,r2,m2.mem,Φ',ρ2,rfl,q1,fun b hb h0=>(q2 b hb).trans h0,q3,q4,q5,m2,rfl,q6⟩
 cases x with
 | normal=>exact fin h8
 | ret=>exact fin h8
 | exit i=>exact h8.elim
 | goto l=>exact h8.elim
 | panic ch=>exact h8.elim
 | outgrown=>exact h8.elim
def Zji(P:Program)(n:Nat):List ACode→(Exit→Env→SMem→Prop)→(Env→SMem→Prop)→Env→SMem→Prop
 | [],_,N,e,m=>N e m
 | a :: r,Q,N,e,m=>wpS P n a (fun x e m=>match x with
  | .normal=>Zji P n r Q N e m
  | .ret=>Q .ret e m
  | _=>False) e m
theorem ACallsH.mono{H:HypW}{f:FuncId}{args:List AVal}{m:Mem}{K K':AVal→Mem→Prop}(h:ACallsH H P f args m K)(hk:∀ r m',K r m'→K' r m'):ACallsH H P f args m K':=by
 refine⟨h.1,fun W Φ ρ hH vs w hr ha=>(h.2 W Φ ρ hH vs w hr ha).mono ?_⟩
 rintro e w' ⟨v,r,m',Φ',ρ',e1,h1,h2,h3,h4,h5,h6⟩;exact⟨v,r,m',Φ',ρ',e1,h1,h2,h3,h4,h5,hk _ _ h6⟩
theorem Ycf(hm:P.follows .mixedOrders=true){f:FuncId}{fn:Func}{p:AParts}{args:List AVal}{m:SMem}{Post:AVal→SMem→Prop}(hf:P.funcs[f]? = some fn)(hp:Zgd P fn=some p)
 {nt:Nat} {rs:List (Nat×Option (Option Nat))} {pre:List ACode} {x:ACode} {g:AOpd} {ps:List Nat} {asn bd y:ACode} (hd:p=⟨nt,rs,pre,x,g,ps,asn,bd,y⟩) (hl:Nat.ble args.length nt=true)
 (h:∀ K:AVal→SMem→Prop,(∀ r sm,Post r sm→K r sm)→Zji P nt pre (N9 nt rs (S4 m.next K)) (wpS P nt x fun x e m'=>match x with
   | .normal=>∃ gf cap,evE nt e g=.func (.func gf) [] cap∧CtrY P ⟨m'.next,nt,ps,e,asn,bd,[]⟩ gf (.yld m'.next :: cap) (m'.at (m'.next+1)) fun _ m2=>wpR P nt y (N9 nt rs (S4 m.next K)) e m2
   | .ret=>N9 nt rs (S4 m.next K) .ret e m'
   | _=>False) (W9 0 args []) m):Ctr P f args m Post:=by
 subst hd
 replace h:=h Post fun _ _ h=>h
 obtain⟨c,pre',x',b',g',ps',asn',bd',y',hb,hc,hg,hrs,hname,hnt,epre,ex,eps,easn,ebd,ey⟩:=Zzr hp;have hl':args.length≤nt:=Nat.le_of_ble_eq_true hl;have hA:ACalls P f args m.mem [] fun r m'=>∃ sm:SMem,m'=sm.mem∧S4 m.next Post r sm:=by
  refine Zte hf hb hname hrs ?_;simp only at hnt epre ex eps easn ebd ey hg;obtain⟨K,hK⟩:∃ K:ASt→Prop,K=fun σ=>match N7 σ.t σ.m rs with|some r=>∃ sm:SMem,σ.m=sm.mem∧S4 m.next Post r sm|none=>False:=⟨_,rfl⟩
  have fin:∀ e (m':SMem),I7 (S4 m.next Post) m' (S1 nt e m' rs)→K ⟨toE nt e,m'.mem⟩:=fun e m' hh=>by
   obtain⟨v,g1,g2⟩:=Zm4 hh;rw[hK];simp only[g1];exact⟨m',rfl,g2⟩
  suffices hh:AR P c K ⟨toE nt (W9 0 args []),m.mem⟩ by
   intro W Φ ρ a w hr ht hd;rw[hK]at hh;refine hh W Φ ρ a w hr (ht.sub (by rw[M7]; simp; omega) fun i x hx=>?_) hd
   have hi:i<nt:=by
    have:=(gS.1 hx).1;rwa[M7]at this
   rw[I8 hi,Zg6]at hx;injection hx with hx
   by_cases h2:0≤i∧i<0+args.length
   ·rw[if_pos h2]at hx;rw[List.getElem?_append,if_pos (by omega)]
    refine .inr ?_;rw[← hx,Nat.sub_zero,List.getD,gE (by omega)]
    rfl
   ·rw[if_neg h2]at hx;exact .inl hx.symm
  rw[hc];rw[epre]at h;clear epre hc hb
  revert h
  generalize W9 0 args []=e0;generalize hmm:m.next=n0 at *;clear hmm hl' hl;intro h
  induction pre' generalizing e0 m with
  | nil=>
   simp only[List.map_nil,Zji]at h;simp only[seqs];refine Zy8 hg ?_;rw[ex]at h;refine Zgi hm x' _ _ (Zfi (Zq6 h) fun z σ hz=>?_)
   cases z<;>simp only[F2]at hz<;>first|exact hz.elim|skip
   ·obtain⟨e,m',rfl,gf,cap,h1,h2⟩:=hz;refine⟨gf,[],cap,by rw[L0]; exact h1,fun l r q1 q2 q3 q4 q5=>?_⟩
    have:=h2 l r q1 q2 (by rw[q3,← eps]) (by rw[q4,← easn]) (by rw[q5,← ebd])
    refine this.mono fun v m'' hh=>?_
    obtain⟨m2,rfl,hh⟩:=hh;rw[← ey];refine Zpt hh fun z e m hz=>?_
    cases z<;>first|exact hz.elim|exact fin _ _ hz
   ·obtain⟨_,_,_,hz⟩:=hz; exact hz.elim
   ·obtain⟨e,m',rfl,hz⟩:=hz;exact fin _ _ hz
   ·obtain⟨_,_,_,hz⟩:=hz; exact hz.elim
   ·obtain⟨_,_,_,hz⟩:=hz; exact hz.elim
  | cons a r ih=>
   simp only[List.map_cons,Zji]at h;simp only[seqs];refine Zpg (Zgi hm a _ _ (Zfi (Zq6 h) fun z σ hz=>?_))
   cases z<;>simp only[F2]at hz<;>first|exact hz.elim|skip
   ·obtain⟨e,m',rfl,hz⟩:=hz;exact ih e hz
   ·obtain⟨_,_,_,hz⟩:=hz; exact hz.elim
   ·obtain⟨e,m',rfl,hz⟩:=hz;exact fin _ _ hz
   ·obtain⟨_,_,_,hz⟩:=hz; exact hz.elim
   ·obtain⟨_,_,_,hz⟩:=hz; exact hz.elim
 refine⟨hA.1,fun W Φ ρ vs w hr ha hav=>(hA.2 W Φ ρ vs w hr ha hav).mono ?_⟩
 rintro e w' ⟨v,r,m',Φ',ρ',rfl,h1,h2,h3,h4,h5,sm,rfl,h6⟩;have hk:∀ b,b<m.next→ρ' b=ρ b:=fun b hb=>by
  cases hq:ρ b with
  | none=>exact h2 b hb (by simp) hq
  | some l=>exact h1.rho b l hq
 obtain⟨r2,m2,ρ2,q1,q2,q3,q4,q5,q6⟩:=Zuq (w:=w) (fun b l hb=>hr.fresh b l hb) h1.pers hk h3 h4 h6
 exact⟨v,r2,m2.mem,Φ',ρ2,rfl,q1,fun b hb _ h0=>(q2 b hb).trans h0,q3,q4,q5,m2,rfl,q6⟩
variable {Q:Exit→Env→SMem→Prop} {K:Env→SMem→Prop} {e:Env} {m:SMem}
theorem Ybk:wpH P y n n0 .skip Q e m=Q .normal e m:=propext Iff.rfl
theorem Yd9(ops:List AOper):wpH P y n n0 (.region false ops) Q e m=if ops.any isY=true then B4 P y n m.next ops 0 (Q .normal) e (m.at (m.next+ops.length))else V6 P false n m.next ops 0 (Q .normal) e (m.at (m.next+ops.length)):=propext Iff.rfl
theorem Z0j(a b:ACode):wpH P y n n0 (.seq a b) Q e m=wpH P y n n0 a (P2 (wpH P y n n0 b Q) Q) e m:=propext Iff.rfl
theorem Z8k(c:AOpd)(a b:ACode):wpH P y n n0 (.cond c a b) Q e m=Zas (evE n e c) (wpH P y n n0 a Q e m) (wpH P y n n0 b Q e m):=propext Iff.rfl
theorem Z58(i:Nat)(c:ACode):wpH P y n n0 (.block i c) Q e m=wpH P y n n0 c (K8 i Q) e m:=propext Iff.rfl
theorem Z2f(c:ACode):wpH P y n n0 (.scope c) Q e m=wpH P y n n0 c Q e m:=propext Iff.rfl
theorem Z1b(i:Nat):wpH P y n n0 (.exit i) Q e m=Q (.exit i) e m:=propext Iff.rfl
theorem Ydv:wpH P y n n0 .ret Q e m=Q .ret e m:=propext Iff.rfl
theorem Ycs(ops:List AOper):wpH P y n n0 (.region true ops) Q e m=if ops.any (isW y.wr)=true then xdw P (Zcc ops) n m.next ops 0 [] (Q .normal) e (m.at (m.next+ops.length))
 else if ops.all J3=true then V6 P false n m.next ops 0 (Q .normal) e (m.at (m.next+ops.length))
 else if ops.all (fun o=>o.un.isEmpty)=true then V6 P true n m.next ops 0 (Q .normal) e (m.at (m.next+ops.length))
 else K2 P (Zcc ops) n m.next ops 0 [] (Q .normal) e (m.at (m.next+ops.length)):=propext Iff.rfl
theorem Yd7{keep:List Nat}{i:Nat}{fs:List (Nat×FT)}:xdw P keep n base [] i fs K e m=K e m:=propext Iff.rfl
theorem Ybr{keep:List Nat}{i:Nat}{fs:List (Nat×FT)}(d:Option Nat)(op:AOp)(un:List Nat)(r:List AOper):xdw P keep n base (⟨d,op,none,un⟩ :: r) i fs K e m=match op with
 | .call f xs=>(match X9 n e f xs with
  | some (g,args)=>WC P g args (base+i) (xOf base i r.length) m fun wl v m'=>M6 fs (.call wl (xOf base i r.length) m.next) un∧xdw P keep n base r (i+1) (Q3 keep i (.call wl (xOf base i r.length) m.next) fs) K (Y4 e d v) m'
  | none=>False)
 | op=>(match stepD (base+i) (evE n e) m.get op with
  | some (v,w)=>M6 fs (.ops (V9 (base+i) (evE n e) op) (V8 (evE n e) op)) un∧xdw P keep n base r (i+1) (Q3 keep i (.ops (V9 (base+i) (evE n e) op) (V8 (evE n e) op)) fs) K (Y4 e d v) (m.app w)
  | none=>False):=by
 cases op<;>rfl
@[congr] theorem Ygz{g : FuncId}{args args' : List AVal}{k : Nat}{x : List Nat}{m : SMem}{K : List Nat → AVal → SMem → Prop}(h : args = args') : WC P g args k x m K = WC P g args' k x m K := by rw [h]
@[congr] theorem Ygd{c : ACode}{e e' : Env}{m m' : SMem}(h : e = e')(h' : m = m') : wpH P y n n0 c Q e m = wpH P y n n0 c Q e' m' := by rw [h, h']
theorem Z33{i:Nat}:B4 P y n base [] i K e m=K e m:=propext Iff.rfl
theorem Z8h{i:Nat}(d:Option Nat)(f:AOpd)(xs:List AOpd)(un:List Nat)(r:List AOper):B4 P y n base (⟨d,.call f xs,none,un⟩ :: r) i K e m=(match evE n e f with
 | .yld b=>b=y.b∧YC P y (xs.map (evE n e)) m fun v m'=>B4 P y n base r (i+1) K (Y4 e d v) m'
 | _=>False):=by
 simp only[B4,V2,gdK]
theorem Yaz{i:Nat}(d:Option Nat)(op:AOp)(un:List Nat)(r:List AOper)(hop:∀ f xs,op≠.call f xs):B4 P y n base (⟨d,op,none,un⟩ :: r) i K e m=stK (stepD (base+i) (evE n e) m.get op) fun v w=>B4 P y n base r (i+1) K (Y4 e d v) (m.app w):=by
 cases op<;>first|rfl|exact absurd rfl (hop _ _)
theorem Yao{α:Type}{c:ACode}(E:α→Env)(M:α→SMem)(μ:α→Nat)(Inv:α→Prop)(a0:α)(hs:WkR n n0 (E a0) (M a0) e m)(h0:Inv a0)
 (h:∀ a,Inv a → ∀ N:Env→SMem→Prop,(∀ a' e m,μ a'<μ a→Inv a'→WkR n n0 (E a') (M a') e m→N e m)→wpH P y n n0 c (P2 N Q) (E a) (M a)):wpH P y n n0 (.loop c) Q e m:=by
 refine⟨fun k e m=>∃ a,k=μ a∧Inv a∧e=E a∧m=M a,⟨μ a0,_,_,hs,a0,rfl,h0,rfl,rfl⟩,?_⟩
 rintro k e1 m1 ⟨a,rfl,ha,rfl,rfl⟩;exact h a ha _ fun a' e m h1 h2 h3=>⟨μ a',E a',M a',h1,h3,a',rfl,h2,rfl,rfl⟩
theorem Zk2{α:Type}{c:ACode}(E:α→Env)(M:α→SMem)(μ:α→Nat)(Inv:α→Prop)(a0:α)(l:List (Nat×Nat))(hs:SubR n0 l (E a0) (M a0) e m)(h0:Inv a0)
 (h:∀ a,Inv a → ∀ N:Env→SMem→Prop,(∀ a' l e m,μ a'<μ a→Inv a'→SubR n0 l (E a') (M a') e m→N e m)→wpH P y n n0 c (P2 N Q) (E a) (M a)):wpH P y n n0 (.loop c) Q e m:=
 Yao E M μ Inv a0 hs.wk h0 fun a ha N hN=>h a ha N fun a' l e m h1 h2 h3=>hN a' e m h1 h2 h3.wk
end
section
theorem Z4s(d:Option Nat)(op:AOp)(g:Option (Nat×Bool))(un:List Nat):isY ⟨d,op,g,un⟩=K5 op:=rfl
theorem Z62(f:FuncId)(xs:List AOpd):K5 (.call (.fn f) xs)=false:=rfl
theorem Yaa(t:Nat)(xs:List AOpd):K5 (.call (.tmp t) xs)=true:=rfl
theorem Z1o(l:List FuncId)(d:Option Nat)(op:AOp)(g:Option (Nat×Bool))(un:List Nat):isW l ⟨d,op,g,un⟩=K6 l op:=rfl
theorem Z9v(l:List FuncId)(f:FuncId)(xs:List AOpd):K6 l (.call (.fn f) xs)=V3 f l:=rfl
theorem Ybp(l:List FuncId)(t:Nat)(xs:List AOpd):K6 l (.call (.tmp t) xs)=false:=rfl
theorem Ydk(x:AOpd):K5 (.mov x)=false:=rfl
theorem Ycl(l:List FuncId)(x:AOpd):K6 l (.mov x)=false:=rfl
theorem Z2c(n:Option Nat)(x:AOpd):K5 (.load n x)=false:=rfl
theorem Z82(l:List FuncId)(n:Option Nat)(x:AOpd):K6 l (.load n x)=false:=rfl
theorem Z68(n:Nat)(a x:AOpd):K5 (.store n a x)=false:=rfl
theorem Z1j(l:List FuncId)(n:Nat)(a x:AOpd):K6 l (.store n a x)=false:=rfl
theorem Z6u(o:Nat)(x:AOpd):K5 (.fieldA o x)=false:=rfl
theorem Ycc(l:List FuncId)(o:Nat)(x:AOpd):K6 l (.fieldA o x)=false:=rfl
theorem Ydg(k:Nat)(x i:AOpd):K5 (.idxA k x i)=false:=rfl
theorem Yex(l:List FuncId)(k:Nat)(x i:AOpd):K6 l (.idxA k x i)=false:=rfl
theorem Z45(x:AOpd):K5 (.lenSl x)=false:=rfl
theorem Yep(l:List FuncId)(x:AOpd):K6 l (.lenSl x)=false:=rfl
theorem Z97(x:AOpd):K5 (.nilChk x)=false:=rfl
theorem Z9d(l:List FuncId)(x:AOpd):K6 l (.nilChk x)=false:=rfl
theorem Z9y(o:UnOp)(x:AOpd):K5 (.un o x)=false:=rfl
theorem Ydy(l:List FuncId)(o:UnOp)(x:AOpd):K6 l (.un o x)=false:=rfl
theorem Z3f(c a b:AOpd):K5 (.pick c a b)=false:=rfl
theorem Ya6(l:List FuncId)(c a b:AOpd):K6 l (.pick c a b)=false:=rfl
theorem Yes(o:BinOp)(q:EqT)(x y:AOpd):K5 (.bin o q x y)=false:=rfl
theorem Z5d(l:List FuncId)(o:BinOp)(q:EqT)(x y:AOpd):K6 l (.bin o q x y)=false:=rfl
theorem Z9i(z:List AVal):K5 (.alloc z)=false:=rfl
theorem Ya3(l:List FuncId)(z:List AVal):K6 l (.alloc z)=false:=rfl
theorem Z0b(z:List AVal)(p:List (Nat×Nat×AOpd)):K5 (.build z p)=false:=rfl
theorem Z6r(l:List FuncId)(z:List AVal)(p:List (Nat×Nat×AOpd)):K6 l (.build z p)=false:=rfl
theorem Z6p(k n:Nat)(z:List AVal)(p:List (Nat×AOpd)):K5 (.mkSl k n z p)=false:=rfl
theorem Z03(l:List FuncId)(k n:Nat)(z:List AVal)(p:List (Nat×AOpd)):K6 l (.mkSl k n z p)=false:=rfl
theorem Z8y(k b:Nat)(z:List AVal)(s x:AOpd):K5 (.append k b z s x)=false:=rfl
theorem Z98(l:List FuncId)(k b:Nat)(z:List AVal)(s x:AOpd):K6 l (.append k b z s x)=false:=rfl
theorem Yb8(t:KeyT)(z:AVal)(o:Bool)(x i:AOpd):K5 (.lookup t z o x i)=false:=rfl
theorem Z8u(l:List FuncId)(t:KeyT)(z:AVal)(o:Bool)(x i:AOpd):K6 l (.lookup t z o x i)=false:=rfl
theorem Yen(t:KeyT)(a b c:AOpd):K5 (.mapUpd t a b c)=false:=rfl
theorem Yel(l:List FuncId)(t:KeyT)(a b c:AOpd):K6 l (.mapUpd t a b c)=false:=rfl
theorem Z8b:K5 (.mkMap)=false:=rfl
theorem Z09(l:List FuncId):K6 l (.mkMap)=false:=rfl
attribute [simp] Z4s Z62 Yaa Z1o Z9v Ybp Ydk Ycl Z2c Z82 Z68 Z1j Z6u Ycc Ydg Yex Z45 Yep Z97 Z9d Z9y Ydy Z3f Ya6 Yes Z5d Z9i Ya3 Z0b Z6r Z6p Z03 Z8y Z98 Yb8 Z8u Yen Yel Z8b Z09
end
end Go.AE
