/- Part 23 of the proof: AeNd, Ka. -/
import Derived.Test.YtfmnflhggplkmaaGreatDoorO22
import Derived.Test.YtfmnflhggplkmaaGreatDoorProg
set_option linter.all false
section
namespace Go.AE
open Go.RowKit
section
variable {q:EqT} {k:IntKind} {a b:Int} {x y:Bool}
theorem bn_add:binA .add q (.int k a) (.int k b)=some (.int k (k.wrap (a+b))):=by simp[binA,binInt]
theorem bn_sub:binA .sub q (.int k a) (.int k b)=some (.int k (k.wrap (a - b))):=by simp[binA,binInt]
theorem bn_mul:binA .mul q (.int k a) (.int k b)=some (.int k (k.wrap (a*b))):=by simp[binA,binInt]
theorem bn_quo:binA .quo q (.int k a) (.int k b)=if b=0 then none else some (.int k (k.wrap (a.tdiv b))):=by simp[binA,binInt]
theorem bn_rem:binA .rem q (.int k a) (.int k b)=if b=0 then none else some (.int k (a.tmod b)):=by simp[binA,binInt]
theorem bn_eql:binA .eql q (.int k a) (.int k b)=some (.bool (decide (a=b))):=by simp[binA,binInt]
theorem bn_neq:binA .neq q (.int k a) (.int k b)=some (.bool (!decide (a=b))):=by simp[binA,binInt]
theorem bn_lss:binA .lss q (.int k a) (.int k b)=some (.bool (decide (a<b))):=by simp[binA,binInt]
theorem bn_leq:binA .leq q (.int k a) (.int k b)=some (.bool (decide (a≤b))):=by simp[binA,binInt]
theorem bn_gtr:binA .gtr q (.int k a) (.int k b)=some (.bool (decide (b<a))):=by simp[binA,binInt]
theorem bn_geq:binA .geq q (.int k a) (.int k b)=some (.bool (decide (b≤a))):=by simp[binA,binInt]
theorem bb_eql:binA .eql .bool (.bool x) (.bool y)=some (.bool (x == y)):=by simp[binA,eqA]
theorem bb_neq:binA .neq .bool (.bool x) (.bool y)=some (.bool (!(x == y))):=by simp[binA,eqA]
end
section
variable {n base i:Nat} {P:Program} {K:Env→SMem→Prop} {e:Env} {m:SMem}
def gdK (w:Option Bool) (A B:Prop):Prop:=
 match w with
 | some true=>A
 | some false=>B
 | none=>False
@[congr] theorem gdK_congr {w w' : Option Bool} {A B : Prop} (h : w = w') : gdK w A B = gdK w' A B := by rw [h]
def stK (r:Option (AVal×List (Nat×Option ABlk))) (K:AVal→List (Nat×Option ABlk)→Prop):Prop:=
 match r with
 | some (v,d)=>K v d
 | none=>False
theorem stK_some {v:AVal} {d:List (Nat×Option ABlk)} {K:AVal→List (Nat×Option ABlk)→Prop}:stK (some (v,d)) K=K v d:=propext Iff.rfl
@[congr] theorem stK_congr {r r' : Option (AVal × List (Nat × Option ABlk))} {K : AVal → List (Nat × Option ABlk) → Prop} (h : r = r') : stK r K = stK r' K := by rw [h]
def clK (c:Option (FuncId×List AVal)) (K:FuncId→List AVal→Prop):Prop:=
 match c with
 | some (g,args)=>K g args
 | none=>False
@[congr] theorem clK_congr {c c' : Option (FuncId × List AVal)} {K : FuncId → List AVal → Prop} (h : c = c') : clK c K = clK c' K := by rw [h]
def DC (P:Program) (g:FuncId) (args:List AVal) (n:Nat) (x:List Nat) (m:SMem) (K:AVal→Option ABlk→Prop):Prop:=∃ v d,PCallY P g args v d n x m.mem∧K v d
theorem DC_pure {g:FuncId} {args:List AVal} {v:AVal} {n:Nat} {x:List Nat} {m:SMem} {K:AVal→Option ABlk→Prop} (h:PCall P g args v) (hK:K v none):DC P g args n x m K:=⟨v,none,h.x _ _ _,hK⟩
@[congr] theorem DC_congr {g : FuncId} {args args' : List AVal} {n n' : Nat} {x : List Nat} {m m' : SMem} {K : AVal → Option ABlk → Prop} (h : id args = args') (hn : n = n') (hm : m = m') : DC P g args n x m K = DC P g args' n' x m' K := by cases h; cases hn; cases hm; rfl
def zops (P:Program) (dc:Bool) (n base:Nat):List AOper→Nat→(Env→SMem→Prop)→Env→SMem→Prop
 | [],_,K,e,m=>K e m
 | o :: r,i,K,e,m=>gdK (wantedE n e o.guard)
  (match o.op with
  | .call f xs=>clK (calleeE n e f xs) fun g args=>match dc with
   | false=>SC P g args m (base+i) fun v m'=>zops P dc n base r (i+1) K (putE e o.dst v) m'
   | true=>DC P g args (base+i) (xOf base i r.length) m fun v d=>zops P dc n base r (i+1) K (putE e o.dst v) (m.app (apD (base+i) d))
  | op=>stK (stepD (base+i) (evE n e) m.get op) fun v d=>zops P dc n base r (i+1) K (putE e o.dst v) (m.app d))
  (zops P dc n base r (i+1) K (putE e o.dst aundef) m)
@[congr] theorem zops_congr {dc : Bool} {n base base' i i' : Nat} {ops : List AOper} {K : Env → SMem → Prop} {e e' : Env} {m m' : SMem} (hb : base = base') (hi : i = i') (h : e = e') (h' : m = m') : zops P dc n base ops i K e m = zops P dc n base' ops i' K e' m' := by rw [hb, hi, h, h']
theorem zops_sops:∀ (ops:List AOper) (i:Nat) (e:Env) (m:SMem),zops P false n base ops i K e m→sops P n base ops i K e m
 | [],_,_,_,h=>h
 | o :: r,i,e,m,h=>by
  simp only[zops]at h
  simp only[sops]
  cases hw:wantedE n e o.guard with
  | none=>rw[hw]at h; exact h
  | some b=>
   rw[hw]at h
   cases b with
   | false=>exact zops_sops r _ _ _ h
   | true=>
    simp only[gdK]at h
    simp only
    have other:∀ op,stK (stepD (base+i) (evE n e) m.get op) (fun v d=>zops P false n base r (i+1) K (putE e o.dst v) (m.app d)) →
     (match stepD (base+i) (evE n e) m.get op with|some (v,d)=>sops P n base r (i+1) K (putE e o.dst v) (m.app d)|none=>False):=by
     intro op hh
     cases hs:stepD (base+i) (evE n e) m.get op with
     | none=>rw[hs]at hh; exact hh
     | some vd=>obtain ⟨v,d⟩:=vd; rw[hs]at hh; exact zops_sops r _ _ _ hh
    cases hop:o.op with
    | call f xs=>
     simp only[hop]at h
     simp only
     cases hc:calleeE n e f xs with
     | none=>rw[hc]at h; exact h
     | some ga=>
      obtain⟨g,args⟩:=ga
      rw[hc]at h
      simp only[clK]at h
      exact h.mono fun v m'' hh=>by obtain⟨m',e',hk⟩:=hh; exact⟨m',e',zops_sops r _ _ _ hk⟩
    | _=>rw[hop]at h; exact other _ h
theorem zops_ydops:∀ (ops:List AOper) (fs:List FT) (e:Env) (m:SMem),ops.all (fun o=>o.un.isEmpty)=true→zops P true n base ops fs.length K e m→ydops P n base ops fs K e m
 | [],_,_,_,_,h=>h
 | o :: r,fs,e,m,hu,h=>by
  simp only[List.all_cons,Bool.and_eq_true,List.isEmpty_iff]at hu
  have hl:∀ f:FT,(fs++[f]).length=fs.length+1:=fun f=>by simp
  simp only[zops]at h
  simp only[ydops]
  cases hw:wantedE n e o.guard with
  | none=>rw[hw]at h; exact h
  | some b=>
   rw[hw]at h
   cases b with
   | false=>exact zops_ydops r _ _ _ hu.2 (by rw[hl]; exact h)
   | true=>
    simp only[gdK]at h
    simp only[hu.1,indepL]
    have other:∀ op,stK (stepD (base+fs.length) (evE n e) m.get op) (fun v d=>zops P true n base r (fs.length+1) K (putE e o.dst v) (m.app d)) →
     (match stepD (base+fs.length) (evE n e) m.get op with|some (v,d)=>True∧ydops P n base r (fs++[.ops (footWD (base+fs.length) (evE n e) op) (footRD (evE n e) op)]) K (putE e o.dst v) (m.app d)|none=>False):=by
     intro op hh
     cases hs:stepD (base+fs.length) (evE n e) m.get op with
     | none=>rw[hs]at hh; exact hh
     | some vd=>obtain ⟨v,d⟩:=vd; rw[hs]at hh; exact⟨trivial,zops_ydops r _ _ _ hu.2 (by rw[hl]; exact hh)⟩
    cases hop:o.op with
    | call f xs=>
     simp only[hop]at h
     simp only
     cases hc:calleeE n e f xs with
     | none=>rw[hc]at h; exact h
     | some ga=>
      obtain⟨g,args⟩:=ga
      rw[hc]at h
      simp only[clK]at h
      obtain⟨v,d,h1,h2⟩:=h
      exact⟨v,d,h1,trivial,zops_ydops r _ _ _ hu.2 (by rw[hl]; exact h2)⟩
    | _=>rw[hop]at h; exact other _ h
end
def lookF:List (Nat×FT)→Nat→Option FT
 | [],_=>none
 | (j,f) :: r,i=>if i=j then some f else lookF r i
def indF (fs:List (Nat×FT)) (ft:FT):List Nat→Prop
 | []=>True
 | i :: r=>(match lookF fs i with
  | some f=>FT.indep f ft
  | none=>False)∧indF fs ft r
def keepOf:List AOper→List Nat
 | []=>[]
 | ⟨_,_,_,un⟩ :: r=>un++keepOf r
def recF (keep:List Nat) (i:Nat) (f:FT) (fs:List (Nat×FT)):List (Nat×FT):=bif memN i keep then (i,f) :: fs else fs
def xdops (P:Program) (keep:List Nat) (n base:Nat):List AOper→Nat→List (Nat×FT)→(Env→SMem→Prop)→Env→SMem→Prop
 | [],_,_,K,e,m=>K e m
 | o :: r,i,fs,K,e,m=>match wantedE n e o.guard with
  | some true=>(match o.op with
   | .call f xs=>(match calleeE n e f xs with
    | some (g,args)=>DC P g args (base+i) (xOf base i r.length) m fun v d=>indF fs (.call (ftW (base+i) d) (xOf base i r.length) m.next) o.un∧xdops P keep n base r (i+1) (recF keep i (.call (ftW (base+i) d) (xOf base i r.length) m.next) fs) K (putE e o.dst v) (m.app (apD (base+i) d))
    | none=>False)
   | op=>(match stepD (base+i) (evE n e) m.get op with
    | some (v,d)=>indF fs (.ops (footWD (base+i) (evE n e) op) (footRD (evE n e) op)) o.un∧xdops P keep n base r (i+1) (recF keep i (.ops (footWD (base+i) (evE n e) op) (footRD (evE n e) op)) fs) K (putE e o.dst v) (m.app d)
    | none=>False))
  | some false=>xdops P keep n base r (i+1) (recF keep i (.ops [] []) fs) K (putE e o.dst aundef) m
  | none=>False
theorem indF_L {fs:List (Nat×FT)} {gs:List FT} {ft:FT} (hr:∀ j f,lookF fs j=some f→gs.getD j (.ops [] [])=f):∀ {un:List Nat},indF fs ft un→indepL gs ft un
 | [],_=>trivial
 | i :: r,h=>by
  refine⟨?_,indF_L hr h.2⟩
  have h1:=h.1
  cases hl:lookF fs i with
  | none=>rw[hl]at h1; exact h1.elim
  | some f=>rw[hl]at h1; rw[hr i f hl]; exact h1
theorem xdops_ydops {P:Program} {keep:List Nat} {n base:Nat} {K:Env→SMem→Prop}:∀ (ops:List AOper) (fs:List (Nat×FT)) (gs:List FT) (e:Env) (m:SMem),
 (∀ j f,lookF fs j=some f→gs.getD j (.ops [] [])=f∧j<gs.length)→xdops P keep n base ops gs.length fs K e m→ydops P n base ops gs K e m
 | [],_,_,_,_,_,h=>h
 | o :: r,fs,gs,e,m,hr,h=>by
  have hl:∀ f:FT,(gs++[f]).length=gs.length+1:=fun f=>by simp
  have hrec:∀ f,∀ j g,lookF (recF keep gs.length f fs) j=some g→(gs++[f]).getD j (.ops [] [])=g∧j<(gs++[f]).length:=by
   intro f j g hj
   have old:∀ j g,lookF fs j=some g→(gs++[f]).getD j (.ops [] [])=g∧j<(gs++[f]).length:=fun j g h1=>by
    obtain⟨h2,h3⟩:=hr j g h1
    refine⟨?_,by rw[hl]; omega⟩
    rw[List.getD_eq_getElem?_getD,List.getElem?_append_left h3,← List.getD_eq_getElem?_getD]
    exact h2
   unfold recF at hj
   cases hm:memN gs.length keep with
   | false=>rw[hm]at hj; exact old j g hj
   | true=>
    rw[hm]at hj
    simp only[cond_true,lookF]at hj
    split at hj
    ·rename_i e1
     injection hj with hj
     subst hj; subst e1
     refine⟨?_,by rw[hl]; omega⟩
     rw[List.getD_eq_getElem?_getD,List.getElem?_append_right (Nat.le_refl _)]
     simp
    ·exact old j g hj
  simp only[xdops]at h
  simp only[ydops]
  cases hw:wantedE n e o.guard with
  | none=>rw[hw]at h; exact h
  | some b=>
   rw[hw]at h
   cases b with
   | false=>exact xdops_ydops r _ _ _ _ (hrec _) (by rw[hl]; exact h)
   | true=>
    simp only at h ⊢
    have other:∀ op,(match stepD (base+gs.length) (evE n e) m.get op with
     | some (v,d)=>indF fs (.ops (footWD (base+gs.length) (evE n e) op) (footRD (evE n e) op)) o.un∧xdops P keep n base r (gs.length+1) (recF keep gs.length (.ops (footWD (base+gs.length) (evE n e) op) (footRD (evE n e) op)) fs) K (putE e o.dst v) (m.app d)
     | none=>False) →
     (match stepD (base+gs.length) (evE n e) m.get op with|some (v,d)=>indepL gs (.ops (footWD (base+gs.length) (evE n e) op) (footRD (evE n e) op)) o.un∧ydops P n base r (gs++[.ops (footWD (base+gs.length) (evE n e) op) (footRD (evE n e) op)]) K (putE e o.dst v) (m.app d)|none=>False):=by
     intro op hh
     cases hs:stepD (base+gs.length) (evE n e) m.get op with
     | none=>rw[hs]at hh; exact hh
     | some vd=>
      obtain⟨v,d⟩:=vd
      rw[hs]at hh
      exact⟨indF_L (fun j f hj=>(hr j f hj).1) hh.1,xdops_ydops r _ _ _ _ (hrec _) (by rw[hl]; exact hh.2)⟩
    cases hop:o.op with
    | call f xs=>
     simp only[hop]at h
     simp only
     cases hc:calleeE n e f xs with
     | none=>rw[hc]at h; exact h
     | some ga=>
      obtain⟨g,args⟩:=ga
      rw[hc]at h
      obtain⟨v,d,h1,h0,h2⟩:=h
      exact⟨v,d,h1,indF_L (fun j f hj=>(hr j f hj).1) h0,xdops_ydops r _ _ _ _ (hrec _) (by rw[hl]; exact h2)⟩
    | _=>(have hh:=other o.op; rw[hop]at h hh; exact hh h)
def quietO:AOper→Bool
 | ⟨_,op,_,un⟩=>un.isEmpty&&match op with
  | .call _ _=>false
  | _=>true
def wpZ (P:Program) (n n0:Nat):ACode→(Exit→Env→SMem→Prop)→Env→SMem→Prop
 | .skip,Q,e,m=>Q .normal e m
 | .region false ops,Q,e,m=>zops P false n m.next ops 0 (Q .normal) e (m.at (m.next+ops.length))
 | .region true ops,Q,e,m=>if ops.all quietO=true then zops P false n m.next ops 0 (Q .normal) e (m.at (m.next+ops.length))
  else if ops.all (fun o=>o.un.isEmpty)=true then zops P true n m.next ops 0 (Q .normal) e (m.at (m.next+ops.length))
  else xdops P (keepOf ops) n m.next ops 0 [] (Q .normal) e (m.at (m.next+ops.length))
 | .seq a b,Q,e,m=>wpZ P n n0 a (thenS (wpZ P n n0 b Q) Q) e m
 | .cond c a b,Q,e,m=>condK (evE n e c) (wpZ P n n0 a Q e m) (wpZ P n n0 b Q e m)
 | .block id c,Q,e,m=>wpZ P n n0 c (blockS id Q) e m
 | .loop c,Q,e,m=>∃ (I:Nat→Env→SMem→Prop),(∃ k e0 m0,WkR n n0 e0 m0 e m∧I k e0 m0) ∧ ∀ k e1 m1,I k e1 m1→wpZ P n n0 c (thenS (fun e' m'=>∃ j e0 m0,j<k∧WkR n n0 e0 m0 e' m'∧I j e0 m0) Q) e1 m1
 | .exit id,Q,e,m=>Q (.exit id) e m
 | .scope c,Q,e,m=>wpZ P n n0 c Q e m
 | .label _,Q,e,m=>Q .normal e m
 | .ret,Q,e,m=>Q .ret e m
 | .bad,_,_,_=>False
section
variable {P:Program} {n n0:Nat}
theorem sops_mono {base:Nat} {K K':Env→SMem→Prop} (hk:∀ e m,K e m→K' e m):∀ (ops:List AOper) (i:Nat) (e:Env) (m:SMem),sops P n base ops i K e m→sops P n base ops i K' e m
 | [],_,_,_,h=>hk _ _ h
 | o :: r,i,e,m,h=>by
  simp only[sops]at h ⊢
  split at h
  ·exact sops_mono hk r _ _ _ h
  ·split at h
   ·split at h
    ·exact h.mono fun v m'' hh=>by obtain⟨m',e',hh⟩:=hh; exact⟨m',e',sops_mono hk r _ _ _ hh⟩
    ·exact h
   ·split at h
    ·exact sops_mono hk r _ _ _ h
    ·exact h
  ·exact h
theorem ydops_mono {base:Nat} {K K':Env→SMem→Prop} (hk:∀ e m,K e m→K' e m):∀ (ops:List AOper) (fs:List FT) (e:Env) (m:SMem),ydops P n base ops fs K e m→ydops P n base ops fs K' e m
 | [],_,_,_,h=>hk _ _ h
 | o :: r,fs,e,m,h=>by
  simp only[ydops]at h ⊢
  split at h
  ·exact ydops_mono hk r _ _ _ h
  ·split at h
   ·split at h
    ·obtain⟨v,d,h1,h2,h3⟩:=h
     exact⟨v,d,h1,h2,ydops_mono hk r _ _ _ h3⟩
    ·exact h
   ·split at h
    ·exact⟨h.1,ydops_mono hk r _ _ _ h.2⟩
    ·exact h
  ·exact h
theorem wpT_mono {c:ACode}:∀ {Q Q':Exit→Env→SMem→Prop} {e:Env} {m:SMem},wpT P n n0 c Q e m→(∀ x e m,Q x e m→Q' x e m)→wpT P n n0 c Q' e m:=by
 induction c with
 | skip=>exact fun h hq=>hq _ _ _ h
 | region draw ops=>
  intro Q Q' e m h hq
  cases draw with
  | false=>exact sops_mono (hq .normal) ops 0 e _ h
  | true=>exact ydops_mono (hq .normal) ops [] e _ h
 | seq a b iha ihb=>
  intro Q Q' e m h hq
  refine iha h fun x e m hx=>?_
  cases x<;>first|exact ihb hx hq|exact hq _ _ _ hx
 | cond c a b iha ihb=>
  intro Q Q' e m h hq
  simp only[wpT]at h ⊢
  split at h
  ·exact iha h hq
  ·exact ihb h hq
  ·exact h
 | block id c ih=>
  intro Q Q' e m h hq
  refine ih h fun x e m hx=>?_
  cases x<;>simp only[blockS]at hx ⊢ <;> first|exact hq _ _ _ hx|skip
  split at hx
  ·rename_i h1; rw[if_pos h1]; exact hq _ _ _ hx
  ·rename_i h1; rw[if_neg h1]; exact hq _ _ _ hx
 | loop c ih=>
  intro Q Q' e m h hq
  obtain⟨I,h1,h2⟩:=h
  refine⟨I,h1,fun k e1 m1 hI=>ih (h2 k e1 m1 hI) fun x e m hx=>?_⟩
  cases x<;>first|exact hx|exact hq _ _ _ hx
 | exit id=>exact fun h hq=>hq _ _ _ h
 | scope c ih=>exact fun h hq=>ih h hq
 | label l=>exact fun h hq=>hq _ _ _ h
 | ret=>exact fun h hq=>hq _ _ _ h
 | bad=>exact fun h _=>h
variable {Q:Exit→Env→SMem→Prop} {e:Env} {m:SMem}
theorem wZ_skip:wpZ P n n0 .skip Q e m=Q .normal e m:=propext Iff.rfl
theorem wZ_region (ops:List AOper):wpZ P n n0 (.region false ops) Q e m=zops P false n m.next ops 0 (Q .normal) e (m.at (m.next+ops.length)):=propext Iff.rfl
theorem wZ_seq (a b:ACode):wpZ P n n0 (.seq a b) Q e m=wpZ P n n0 a (thenS (wpZ P n n0 b Q) Q) e m:=propext Iff.rfl
theorem wZ_cond (c:AOpd) (a b:ACode):wpZ P n n0 (.cond c a b) Q e m=condK (evE n e c) (wpZ P n n0 a Q e m) (wpZ P n n0 b Q e m):=propext Iff.rfl
theorem wZ_block (i:Nat) (c:ACode):wpZ P n n0 (.block i c) Q e m=wpZ P n n0 c (blockS i Q) e m:=propext Iff.rfl
theorem wZ_scope (c:ACode):wpZ P n n0 (.scope c) Q e m=wpZ P n n0 c Q e m:=propext Iff.rfl
theorem wZ_exit (i:Nat):wpZ P n n0 (.exit i) Q e m=Q (.exit i) e m:=propext Iff.rfl
theorem wZ_ret:wpZ P n n0 .ret Q e m=Q .ret e m:=propext Iff.rfl
theorem wZ_dregion (ops:List AOper):wpZ P n n0 (.region true ops) Q e m=if ops.all quietO=true then zops P false n m.next ops 0 (Q .normal) e (m.at (m.next+ops.length))
 else if ops.all (fun o=>o.un.isEmpty)=true then zops P true n m.next ops 0 (Q .normal) e (m.at (m.next+ops.length))
 else xdops P (keepOf ops) n m.next ops 0 [] (Q .normal) e (m.at (m.next+ops.length)):=propext Iff.rfl
theorem zops_quiet {base:Nat} {K:Env→SMem→Prop}:∀ (ops:List AOper) (i:Nat) (e:Env) (m:SMem),ops.all quietO=true→zops P false n base ops i K e m→zops P true n base ops i K e m
 | [],_,_,_,_,h=>h
 | ⟨dst,op,guard,un⟩ :: r,i,e,m,hu,h=>by
  simp only[List.all_cons,Bool.and_eq_true]at hu
  simp only[zops]at h ⊢
  cases hw:wantedE n e guard with
  | none=>rw[hw]at h; exact h
  | some b=>
   rw[hw]at h
   cases b with
   | false=>exact zops_quiet r _ _ _ hu.2 h
   | true=>
    simp only[gdK]at h ⊢
    have other:∀ op,stK (stepD (base+i) (evE n e) m.get op) (fun v d=>zops P false n base r (i+1) K (putE e dst v) (m.app d))→stK (stepD (base+i) (evE n e) m.get op) (fun v d=>zops P true n base r (i+1) K (putE e dst v) (m.app d)):=by
     intro op hh
     cases hs:stepD (base+i) (evE n e) m.get op with
     | none=>rw[hs]at hh; exact hh
     | some vd=>obtain ⟨v,d⟩:=vd; rw[hs]at hh; exact zops_quiet r _ _ _ hu.2 hh
    cases op with
    | call f xs=>simp[quietO]at hu
    | _=>exact other _ h
theorem quiet_un {ops:List AOper} (h:ops.all quietO=true):ops.all (fun o=>o.un.isEmpty)=true:=by
 rw[List.all_eq_true]at h ⊢
 intro o ho
 have:=h o ho
 obtain⟨dst,op,guard,un⟩:=o
 simp only[quietO,Bool.and_eq_true]at this
 exact this.1
theorem wpZ_T {c:ACode}:∀ {Q Q':Exit→Env→SMem→Prop} {e:Env} {m:SMem},wpZ P n n0 c Q e m→(∀ x e m,Q x e m→Q' x e m)→wpT P n n0 c Q' e m:=by
 induction c with
 | skip=>exact fun h hq=>hq _ _ _ h
 | region draw ops=>
  intro Q Q' e m h hq
  refine wpT_mono ?_ hq
  cases draw with
  | false=>exact zops_sops ops 0 e _ h
  | true=>
   simp only[wpZ]at h
   split at h
   ·rename_i hb
    exact zops_ydops ops [] e _ (quiet_un hb) (zops_quiet ops 0 _ _ hb h)
   ·split at h
    ·rename_i hb
     exact zops_ydops ops [] e _ hb h
    ·exact xdops_ydops ops [] [] e _ (fun j f hj=>by simp[lookF]at hj) h
 | seq a b iha ihb=>
  intro Q Q' e m h hq
  refine iha h fun x e m hx=>?_
  cases x<;>first|exact ihb hx hq|exact hq _ _ _ hx
 | cond c a b iha ihb=>
  intro Q Q' e m h hq
  simp only[wpZ]at h
  simp only[wpT]
  generalize evE n e c=v at h
  cases v<;>first|exact h.elim|skip
  rename_i b
  cases b
  ·exact ihb h hq
  ·exact iha h hq
 | block id c ih=>
  intro Q Q' e m h hq
  refine ih h fun x e m hx=>?_
  cases x<;>simp only[blockS]at hx ⊢ <;> first|exact hq _ _ _ hx|skip
  split at hx
  ·rename_i h1; rw[if_pos h1]; exact hq _ _ _ hx
  ·rename_i h1; rw[if_neg h1]; exact hq _ _ _ hx
 | loop c ih=>
  intro Q Q' e m h hq
  obtain⟨I,h1,h2⟩:=h
  refine⟨I,h1,fun k e1 m1 hI=>ih (h2 k e1 m1 hI) fun x e m hx=>?_⟩
  cases x<;>first|exact hx|exact hq _ _ _ hx
 | exit id=>exact fun h hq=>hq _ _ _ h
 | scope c ih=>exact fun h hq=>ih h hq
 | label l=>exact fun h hq=>hq _ _ _ h
 | ret=>exact fun h hq=>hq _ _ _ h
 | bad=>exact fun h _=>h
theorem ctr_Z (hm:P.follows .mixedOrders=true) {f:FuncId} {fn:Func} {af:AFn} {args:List AVal} {m:SMem} {K:AVal→SMem→Prop} (hf:P.funcs[f]? = some fn) (hc:cFn P fn=some af) (hl:Nat.ble args.length af.ntmps=true)
 (h:wpZ P af.ntmps m.next af.body (retN af.ntmps af.results (EndK m.next K)) (argE 0 args []) m):Ctr P f args m K:=
 ctr_T hm hf hc hl (wpZ_T h fun _ _ _ h=>h)
theorem wZ_loopW {α:Type} {c:ACode} (E:α→Env) (M:α→SMem) (μ:α→Nat) (Inv:α→Prop) (a0:α) (hs:WkR n n0 (E a0) (M a0) e m) (h0:Inv a0)
 (h:∀ a,Inv a → ∀ N:Env→SMem→Prop,(∀ a' e m,μ a'<μ a→Inv a'→WkR n n0 (E a') (M a') e m→N e m)→wpZ P n n0 c (thenS N Q) (E a) (M a)):wpZ P n n0 (.loop c) Q e m:=by
 refine⟨fun k e m=>∃ a,k=μ a∧Inv a∧e=E a∧m=M a,⟨μ a0,_,_,hs,a0,rfl,h0,rfl,rfl⟩,?_⟩
 rintro k e1 m1 ⟨a,rfl,ha,rfl,rfl⟩
 exact h a ha _ fun a' e m h1 h2 h3=>⟨μ a',E a',M a',h1,h3,a',rfl,h2,rfl,rfl⟩
theorem wZ_loop {α:Type} {c:ACode} (E:α→Env) (M:α→SMem) (μ:α→Nat) (Inv:α→Prop) (a0:α) (l:List (Nat×Nat)) (hs:SubR n0 l (E a0) (M a0) e m) (h0:Inv a0)
 (h:∀ a,Inv a → ∀ N:Env→SMem→Prop,(∀ a' l e m,μ a'<μ a→Inv a'→SubR n0 l (E a') (M a') e m→N e m)→wpZ P n n0 c (thenS N Q) (E a) (M a)):wpZ P n n0 (.loop c) Q e m:=
 wZ_loopW E M μ Inv a0 hs.wk h0 fun a ha N hN=>h a ha N fun a' l e m h1 h2 h3=>hN a' e m h1 h2 h3.wk
@[congr] theorem wpZ_congr {n n0 : Nat} {c : ACode} {Q : Exit → Env → SMem → Prop} {e e' : Env} {m m' : SMem} (h : e = e') (h' : m = m') : wpZ P n n0 c Q e m = wpZ P n n0 c Q e' m' := by rw [h, h']
end
end Go.AE
end
section
namespace Go.Known
open Go Go.AE Go.Proofs
abbrev GD (n:Nat) (a:AFn):Prop:=Go.AE.Good Tryz.prog (n,a)
theorem gG {n:Nat} {f:Func} {a:AFn} (h:Tryz.prog.funcs[n]? = some f) (hc:cFn Tryz.prog f=some a) (hk:(dstOk a.ntmps a.body&&(Nat.ble a.ntmps bound&&Nat.ble (n+1) bound))=true):GD n a:=by
 simp only[Bool.and_eq_true]at hk
 exact⟨⟨_,h,hc⟩,hk.1,hk.2.1,hk.2.2⟩
abbrev oZ (d:Nat) (x:AOp):AOper:=⟨some d,x,none,[]⟩
abbrev pZ (x:AOp):AOper:=⟨none,x,none,[]⟩
abbrev gZ (d g:Nat) (b:Bool) (x:AOp):AOper:=⟨some d,x,some (g,b),[]⟩
abbrev tZ (i:Nat):AOpd:=.tmp i
abbrev kZ (n:Int):AOpd:=.const (.int .i64 n)
abbrev bZ (b:Bool):AOpd:=.const (.bool b)
abbrev mv (d s:Nat):AOper:=⟨some d,.mov (.tmp s),none,[]⟩
abbrev mk (d:Nat) (n:Int):AOper:=⟨some d,.mov (.const (.int .i64 n)),none,[]⟩
abbrev mtZ (d:Nat):AOper:=⟨some d,.mov (.const (.bool true)),none,[]⟩
abbrev mfZ (d:Nat):AOper:=⟨some d,.mov (.const (.bool false)),none,[]⟩
abbrev mnZ (d:Nat):AOper:=⟨some d,.mov (.const .nilSl),none,[]⟩
abbrev lo (d s:Nat):AOper:=⟨some d,.load none (.tmp s),none,[]⟩
abbrev lw (d n s:Nat):AOper:=⟨some d,.load (some n) (.tmp s),none,[]⟩
abbrev fa (d o s:Nat):AOper:=⟨some d,.fieldA o (.tmp s),none,[]⟩
abbrev so (n a x:Nat):AOper:=⟨none,.store n (.tmp a) (.tmp x),none,[]⟩
abbrev ix (d k a i:Nat):AOper:=⟨some d,.idxA k (.tmp a) (.tmp i),none,[]⟩
abbrev le (d s:Nat):AOper:=⟨some d,.lenSl (.tmp s),none,[]⟩
abbrev nc (d s:Nat):AOper:=⟨some d,.nilChk (.tmp s),none,[]⟩
abbrev ex (d s i:Nat):AOper:=⟨some d,.ext (.tmp s) i,none,[]⟩
abbrev bo (d s:Nat):AOper:=⟨some d,.box (.tmp s),none,[]⟩
abbrev no (d s:Nat):AOper:=⟨some d,.un .not (.tmp s),none,[]⟩
abbrev pk1 (d c s:Nat):AOper:=⟨some d,.pick (.tmp c) (.const (.bool true)) (.tmp s),none,[]⟩
abbrev pk0 (d c s:Nat):AOper:=⟨some d,.pick (.tmp c) (.tmp s) (.const (.bool false)),none,[]⟩
abbrev ca1 (d:Nat) (f:FuncId) (x:Nat):AOper:=⟨some d,.call (.fn f) [.tmp x],none,[]⟩
abbrev ca2 (d:Nat) (f:FuncId) (x y:Nat):AOper:=⟨some d,.call (.fn f) [.tmp x,.tmp y],none,[]⟩
abbrev ca3 (d:Nat) (f:FuncId) (x y z:Nat):AOper:=⟨some d,.call (.fn f) [.tmp x,.tmp y,.tmp z],none,[]⟩
abbrev aD (d x y:Nat):AOper:=⟨some d,.bin .add .num (.tmp x) (.tmp y),none,[]⟩
abbrev aDk (d x:Nat) (n:Int):AOper:=⟨some d,.bin .add .num (.tmp x) (.const (.int .i64 n)),none,[]⟩
abbrev aS (d x y:Nat):AOper:=⟨some d,.bin .sub .num (.tmp x) (.tmp y),none,[]⟩
abbrev aSk (d x:Nat) (n:Int):AOper:=⟨some d,.bin .sub .num (.tmp x) (.const (.int .i64 n)),none,[]⟩
abbrev aM (d x y:Nat):AOper:=⟨some d,.bin .mul .num (.tmp x) (.tmp y),none,[]⟩
abbrev aMk (d x:Nat) (n:Int):AOper:=⟨some d,.bin .mul .num (.tmp x) (.const (.int .i64 n)),none,[]⟩
abbrev aQk (d x:Nat) (n:Int):AOper:=⟨some d,.bin .quo .num (.tmp x) (.const (.int .i64 n)),none,[]⟩
abbrev aR (d x y:Nat):AOper:=⟨some d,.bin .rem .num (.tmp x) (.tmp y),none,[]⟩
abbrev aRk (d x:Nat) (n:Int):AOper:=⟨some d,.bin .rem .num (.tmp x) (.const (.int .i64 n)),none,[]⟩
abbrev cE (d x y:Nat):AOper:=⟨some d,.bin .eql .num (.tmp x) (.tmp y),none,[]⟩
abbrev cEk (d x:Nat) (n:Int):AOper:=⟨some d,.bin .eql .num (.tmp x) (.const (.int .i64 n)),none,[]⟩
abbrev cN (d x y:Nat):AOper:=⟨some d,.bin .neq .num (.tmp x) (.tmp y),none,[]⟩
abbrev cNk (d x:Nat) (n:Int):AOper:=⟨some d,.bin .neq .num (.tmp x) (.const (.int .i64 n)),none,[]⟩
abbrev cL (d x y:Nat):AOper:=⟨some d,.bin .lss .num (.tmp x) (.tmp y),none,[]⟩
abbrev cLk (d x:Nat) (n:Int):AOper:=⟨some d,.bin .lss .num (.tmp x) (.const (.int .i64 n)),none,[]⟩
abbrev cK (d x y:Nat):AOper:=⟨some d,.bin .leq .num (.tmp x) (.tmp y),none,[]⟩
abbrev cKk (d x:Nat) (n:Int):AOper:=⟨some d,.bin .leq .num (.tmp x) (.const (.int .i64 n)),none,[]⟩
abbrev cG (d x y:Nat):AOper:=⟨some d,.bin .gtr .num (.tmp x) (.tmp y),none,[]⟩
abbrev cGk (d x:Nat) (n:Int):AOper:=⟨some d,.bin .gtr .num (.tmp x) (.const (.int .i64 n)),none,[]⟩
abbrev cH (d x y:Nat):AOper:=⟨some d,.bin .geq .num (.tmp x) (.tmp y),none,[]⟩
abbrev cHk (d x:Nat) (n:Int):AOper:=⟨some d,.bin .geq .num (.tmp x) (.const (.int .i64 n)),none,[]⟩
abbrev gtl (d g s:Nat):AOper:=⟨some d,.load none (.tmp s),some (g,true),[]⟩
abbrev gtf (d g o s:Nat):AOper:=⟨some d,.fieldA o (.tmp s),some (g,true),[]⟩
abbrev gtm (d g s:Nat):AOper:=⟨some d,.mov (.tmp s),some (g,true),[]⟩
abbrev gfl (d g s:Nat):AOper:=⟨some d,.load none (.tmp s),some (g,false),[]⟩
abbrev gff (d g o s:Nat):AOper:=⟨some d,.fieldA o (.tmp s),some (g,false),[]⟩
abbrev gfm (d g s:Nat):AOper:=⟨some d,.mov (.tmp s),some (g,false),[]⟩
abbrev rf (l:List AOper):ACode:=.region false l
abbrev sr (l:List AOper) (c:ACode):ACode:=.seq (.region false l) c
end Go.Known
end
