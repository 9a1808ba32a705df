/- Part 12 of the proof: AeNd, Pc. -/
import Derived.Test.YtipeejpafgnjdaaGreatDoorG10
import Derived.Test.YtipeejpafgnjdaaGreatDoorG11
set_option linter.all false
section
namespace Go.AE
open Go.RowKit
section
variable {q:EqT} {k:IntKind} {a b:Int} {x y:Bool}
theorem Zj4:binA .add q (.int k a) (.int k b)=some (.int k (k.wrap (a+b))):=by simp[binA,Za9]
theorem Zkb:binA .sub q (.int k a) (.int k b)=some (.int k (k.wrap (a - b))):=by simp[binA,Za9]
theorem Zjt:binA .mul q (.int k a) (.int k b)=some (.int k (k.wrap (a*b))):=by simp[binA,Za9]
theorem Zkl:binA .quo q (.int k a) (.int k b)=if b=0 then none else some (.int k (k.wrap (a.tdiv b))):=by simp[binA,Za9]
theorem Zka:binA .rem q (.int k a) (.int k b)=if b=0 then none else some (.int k (a.tmod b)):=by simp[binA,Za9]
theorem Zkm:binA .eql q (.int k a) (.int k b)=some (.bool (decide (a=b))):=by simp[binA,Za9]
theorem Zke:binA .neq q (.int k a) (.int k b)=some (.bool (!decide (a=b))):=by simp[binA,Za9]
theorem Zkf:binA .lss q (.int k a) (.int k b)=some (.bool (decide (a<b))):=by simp[binA,Za9]
theorem Zkp:binA .leq q (.int k a) (.int k b)=some (.bool (decide (a≤b))):=by simp[binA,Za9]
theorem Zj3:binA .gtr q (.int k a) (.int k b)=some (.bool (decide (b<a))):=by simp[binA,Za9]
theorem Zjz:binA .geq q (.int k a) (.int k b)=some (.bool (decide (b≤a))):=by simp[binA,Za9]
theorem Zjw:binA .eql .bool (.bool x) (.bool y)=some (.bool (x == y)):=by simp[binA,eqA]
theorem Zjy:binA .neq .bool (.bool x) (.bool y)=some (.bool (!(x == y))):=by simp[binA,eqA]
end
section
variable {n base i:Nat} {P:Program} {K:Env→SMem→Prop} {e:Env} {m:SMem}
def gdK (w:Option Bool) (A B:Prop):Prop:=
 match w with
 | some true=>A
 | some false=>B
 | none=>False
@[congr] theorem gdK_congr {w w' : Option Bool} {A B : Prop} (h : w = w') : gdK w A B = gdK w' A B := by rw [h]
def stK (r:Option (AVal×List (Nat×Option ABlk))) (K:AVal→List (Nat×Option ABlk)→Prop):Prop:=
 match r with
 | some (v,d)=>K v d
 | none=>False
theorem Z5f {v:AVal} {d:List (Nat×Option ABlk)} {K:AVal→List (Nat×Option ABlk)→Prop}:stK (some (v,d)) K=K v d:=propext Iff.rfl
@[congr] theorem stK_congr {r r' : Option (AVal × List (Nat × Option ABlk))} {K : AVal → List (Nat × Option ABlk) → Prop} (h : r = r') : stK r K = stK r' K := by rw [h]
def clK (c:Option (FuncId×List AVal)) (K:FuncId→List AVal→Prop):Prop:=
 match c with
 | some (g,args)=>K g args
 | none=>False
@[congr] theorem clK_congr {c c' : Option (FuncId × List AVal)} {K : FuncId → List AVal → Prop} (h : c = c') : clK c K = clK c' K := by rw [h]
def DC (P:Program) (g:FuncId) (args:List AVal) (n:Nat) (x:List Nat) (m:SMem) (K:AVal→Option ABlk→Prop):Prop:=∃ v d,Z05 P g args v d n x m.mem∧K v d
theorem Zbm {g:FuncId} {args:List AVal} {v:AVal} {n:Nat} {x:List Nat} {m:SMem} {K:AVal→Option ABlk→Prop} (h:PCall P g args v) (hK:K v none):DC P g args n x m K:=⟨v,none,h.x _ _ _,hK⟩
@[congr] theorem DC_congr {g : FuncId} {args args' : List AVal} {n n' : Nat} {x : List Nat} {m m' : SMem} {K : AVal → Option ABlk → Prop} (h : id args = args') (hn : n = n') (hm : m = m') : DC P g args n x m K = DC P g args' n' x m' K := by cases h; cases hn; cases hm; rfl
def zops (P:Program) (dc:Bool) (n base:Nat):List AOper→Nat→(Env→SMem→Prop)→Env→SMem→Prop
 | [],_,K,e,m=>K e m
 | o :: r,i,K,e,m=>gdK (Zav n e o.guard)
  (match o.op with
  | .call f xs=>clK (Zaq n e f xs) fun g args=>match dc with
   | false=>SC P g args m (base+i) fun v m'=>zops P dc n base r (i+1) K (putE e o.dst v) m'
   | true=>DC P g args (base+i) (xOf base i r.length) m fun v d=>zops P dc n base r (i+1) K (putE e o.dst v) (m.app (apD (base+i) d))
  | op=>stK (stepD (base+i) (evE n e) m.get op) fun v d=>zops P dc n base r (i+1) K (putE e o.dst v) (m.app d))
  (zops P dc n base r (i+1) K (putE e o.dst aundef) m)
@[congr] theorem zops_congr {dc : Bool} {n base base' i i' : Nat} {ops : List AOper} {K : Env → SMem → Prop} {e e' : Env} {m m' : SMem} (hb : base = base') (hi : i = i') (h : e = e') (h' : m = m') : zops P dc n base ops i K e m = zops P dc n base' ops i' K e' m' := by rw [hb, hi, h, h']
theorem Zit:∀ (ops:List AOper) (i:Nat) (e:Env) (m:SMem),zops P false n base ops i K e m→sops P n base ops i K e m
 | [],_,_,_,h=>h
 | o :: r,i,e,m,h=>by
  simp only[zops]at h
  simp only[sops]
  cases hw:Zav n e o.guard with
  | none=>rw[hw]at h; exact h
  | some b=>
   rw[hw]at h
   cases b with
   | false=>exact Zit r _ _ _ h
   | true=>
    simp only[gdK]at h
    simp only
    have other:∀ op,stK (stepD (base+i) (evE n e) m.get op) (fun v d=>zops P false n base r (i+1) K (putE e o.dst v) (m.app d)) →
     (match stepD (base+i) (evE n e) m.get op with|some (v,d)=>sops P n base r (i+1) K (putE e o.dst v) (m.app d)|none=>False):=by
     intro op hh
     cases hs:stepD (base+i) (evE n e) m.get op with
     | none=>rw[hs]at hh; exact hh
     | some vd=>obtain ⟨v,d⟩:=vd; rw[hs]at hh; exact Zit r _ _ _ hh
    cases hop:o.op with
    | call f xs=>
     simp only[hop]at h
     simp only
     cases hc:Zaq n e f xs with
     | none=>rw[hc]at h; exact h
     | some ga=>
      obtain⟨g,args⟩:=ga
      rw[hc]at h
      simp only[clK]at h
      exact h.mono fun v m'' hh=>by obtain⟨m',e',hk⟩:=hh; exact⟨m',e',Zit r _ _ _ hk⟩
    | _=>rw[hop]at h; exact other _ h
theorem Zfn:∀ (ops:List AOper) (fs:List FT) (e:Env) (m:SMem),ops.all (fun o=>o.un.isEmpty)=true→zops P true n base ops fs.length K e m→Zjo P n base ops fs K e m
 | [],_,_,_,_,h=>h
 | o :: r,fs,e,m,hu,h=>by
  simp only[List.all_cons,Bool.and_eq_true,List.isEmpty_iff]at hu
  have hl:∀ f:FT,(fs++[f]).length=fs.length+1:=fun f=>by simp
  simp only[zops]at h
  simp only[Zjo]
  cases hw:Zav n e o.guard with
  | none=>rw[hw]at h; exact h
  | some b=>
   rw[hw]at h
   cases b with
   | false=>exact Zfn r _ _ _ hu.2 (by rw[hl]; exact h)
   | true=>
    simp only[gdK]at h
    simp only[hu.1,Zb0]
    have other:∀ op,stK (stepD (base+fs.length) (evE n e) m.get op) (fun v d=>zops P true n base r (fs.length+1) K (putE e o.dst v) (m.app d)) →
     (match stepD (base+fs.length) (evE n e) m.get op with|some (v,d)=>True∧Zjo P n base r (fs++[.ops (Zbd (base+fs.length) (evE n e) op) (Zbb (evE n e) op)]) K (putE e o.dst v) (m.app d)|none=>False):=by
     intro op hh
     cases hs:stepD (base+fs.length) (evE n e) m.get op with
     | none=>rw[hs]at hh; exact hh
     | some vd=>obtain ⟨v,d⟩:=vd; rw[hs]at hh; exact⟨trivial,Zfn r _ _ _ hu.2 (by rw[hl]; exact hh)⟩
    cases hop:o.op with
    | call f xs=>
     simp only[hop]at h
     simp only
     cases hc:Zaq n e f xs with
     | none=>rw[hc]at h; exact h
     | some ga=>
      obtain⟨g,args⟩:=ga
      rw[hc]at h
      simp only[clK]at h
      obtain⟨v,d,h1,h2⟩:=h
      exact⟨v,d,h1,trivial,Zfn r _ _ _ hu.2 (by rw[hl]; exact h2)⟩
    | _=>rw[hop]at h; exact other _ h
end
def Zfm:List (Nat×FT)→Nat→Option FT
 | [],_=>none
 | (j,f) :: r,i=>if i=j then some f else Zfm r i
def indF (fs:List (Nat×FT)) (ft:FT):List Nat→Prop
 | []=>True
 | i :: r=>(match Zfm fs i with
  | some f=>FT.indep f ft
  | none=>False)∧indF fs ft r
def Zjx:List AOper→List Nat
 | []=>[]
 | ⟨_,_,_,un⟩ :: r=>un++Zjx r
def recF (keep:List Nat) (i:Nat) (f:FT) (fs:List (Nat×FT)):List (Nat×FT):=bif memN i keep then (i,f) :: fs else fs
def Zf5 (P:Program) (keep:List Nat) (n base:Nat):List AOper→Nat→List (Nat×FT)→(Env→SMem→Prop)→Env→SMem→Prop
 | [],_,_,K,e,m=>K e m
 | o :: r,i,fs,K,e,m=>match Zav n e o.guard with
  | some true=>(match o.op with
   | .call f xs=>(match Zaq n e f xs with
    | some (g,args)=>DC P g args (base+i) (xOf base i r.length) m fun v d=>indF fs (.call (ftW (base+i) d) (xOf base i r.length) m.next) o.un∧Zf5 P keep n base r (i+1) (recF keep i (.call (ftW (base+i) d) (xOf base i r.length) m.next) fs) K (putE e o.dst v) (m.app (apD (base+i) d))
    | none=>False)
   | op=>(match stepD (base+i) (evE n e) m.get op with
    | some (v,d)=>indF fs (.ops (Zbd (base+i) (evE n e) op) (Zbb (evE n e) op)) o.un∧Zf5 P keep n base r (i+1) (recF keep i (.ops (Zbd (base+i) (evE n e) op) (Zbb (evE n e) op)) fs) K (putE e o.dst v) (m.app d)
    | none=>False))
  | some false=>Zf5 P keep n base r (i+1) (recF keep i (.ops [] []) fs) K (putE e o.dst aundef) m
  | none=>False
theorem Ztp {fs:List (Nat×FT)} {gs:List FT} {ft:FT} (hr:∀ j f,Zfm fs j=some f→gs.getD j (.ops [] [])=f):∀ {un:List Nat},indF fs ft un→Zb0 gs ft un
 | [],_=>trivial
 | i :: r,h=>by
  refine⟨?_,Ztp hr h.2⟩
  have h1:=h.1
  cases hl:Zfm fs i with
  | none=>rw[hl]at h1; exact h1.elim
  | some f=>rw[hl]at h1; rw[hr i f hl]; exact h1
theorem Zhr {P:Program} {keep:List Nat} {n base:Nat} {K:Env→SMem→Prop}:∀ (ops:List AOper) (fs:List (Nat×FT)) (gs:List FT) (e:Env) (m:SMem),
 (∀ j f,Zfm fs j=some f→gs.getD j (.ops [] [])=f∧j<gs.length)→Zf5 P keep n base ops gs.length fs K e m→Zjo P n base ops gs K e m
 | [],_,_,_,_,_,h=>h
 | o :: r,fs,gs,e,m,hr,h=>by
  have hl:∀ f:FT,(gs++[f]).length=gs.length+1:=fun f=>by simp
  have hrec:∀ f,∀ j g,Zfm (recF keep gs.length f fs) j=some g→(gs++[f]).getD j (.ops [] [])=g∧j<(gs++[f]).length:=by
   intro f j g hj
   have old:∀ j g,Zfm fs j=some g→(gs++[f]).getD j (.ops [] [])=g∧j<(gs++[f]).length:=fun j g h1=>by
    obtain⟨h2,h3⟩:=hr j g h1
    refine⟨?_,by rw[hl]; omega⟩
    rw[List.getD_eq_getElem?_getD,List.getElem?_append_left h3,← List.getD_eq_getElem?_getD]
    exact h2
   unfold recF at hj
   cases hm:memN gs.length keep with
   | false=>rw[hm]at hj; exact old j g hj
   | true=>
    rw[hm]at hj
    simp only[cond_true,Zfm]at hj
    split at hj
    ·rename_i e1
     injection hj with hj
     subst hj; subst e1
     refine⟨?_,by rw[hl]; omega⟩
     rw[List.getD_eq_getElem?_getD,List.getElem?_append_right (Nat.le_refl _)]
     simp
    ·exact old j g hj
  simp only[Zf5]at h
  simp only[Zjo]
  cases hw:Zav n e o.guard with
  | none=>rw[hw]at h; exact h
  | some b=>
   rw[hw]at h
   cases b with
   | false=>exact Zhr r _ _ _ _ (hrec _) (by rw[hl]; exact h)
   | true=>
    simp only at h ⊢
    have other:∀ op,(match stepD (base+gs.length) (evE n e) m.get op with
     | some (v,d)=>indF fs (.ops (Zbd (base+gs.length) (evE n e) op) (Zbb (evE n e) op)) o.un∧Zf5 P keep n base r (gs.length+1) (recF keep gs.length (.ops (Zbd (base+gs.length) (evE n e) op) (Zbb (evE n e) op)) fs) K (putE e o.dst v) (m.app d)
     | none=>False) →
     (match stepD (base+gs.length) (evE n e) m.get op with|some (v,d)=>Zb0 gs (.ops (Zbd (base+gs.length) (evE n e) op) (Zbb (evE n e) op)) o.un∧Zjo P n base r (gs++[.ops (Zbd (base+gs.length) (evE n e) op) (Zbb (evE n e) op)]) K (putE e o.dst v) (m.app d)|none=>False):=by
     intro op hh
     cases hs:stepD (base+gs.length) (evE n e) m.get op with
     | none=>rw[hs]at hh; exact hh
     | some vd=>
      obtain⟨v,d⟩:=vd
      rw[hs]at hh
      exact⟨Ztp (fun j f hj=>(hr j f hj).1) hh.1,Zhr r _ _ _ _ (hrec _) (by rw[hl]; exact hh.2)⟩
    cases hop:o.op with
    | call f xs=>
     simp only[hop]at h
     simp only
     cases hc:Zaq n e f xs with
     | none=>rw[hc]at h; exact h
     | some ga=>
      obtain⟨g,args⟩:=ga
      rw[hc]at h
      obtain⟨v,d,h1,h0,h2⟩:=h
      exact⟨v,d,h1,Ztp (fun j f hj=>(hr j f hj).1) h0,Zhr r _ _ _ _ (hrec _) (by rw[hl]; exact h2)⟩
    | _=>(have hh:=other o.op; rw[hop]at h hh; exact hh h)
def Zd8:AOper→Bool
 | ⟨_,op,_,un⟩=>un.isEmpty&&match op with
  | .call _ _=>false
  | _=>true
def wpZ (P:Program) (n n0:Nat):ACode→(Exit→Env→SMem→Prop)→Env→SMem→Prop
 | .skip,Q,e,m=>Q .normal e m
 | .region false ops,Q,e,m=>zops P false n m.next ops 0 (Q .normal) e (m.at (m.next+ops.length))
 | .region true ops,Q,e,m=>if ops.all Zd8=true then zops P false n m.next ops 0 (Q .normal) e (m.at (m.next+ops.length))
  else if ops.all (fun o=>o.un.isEmpty)=true then zops P true n m.next ops 0 (Q .normal) e (m.at (m.next+ops.length))
  else Zf5 P (Zjx ops) n m.next ops 0 [] (Q .normal) e (m.at (m.next+ops.length))
 | .seq a b,Q,e,m=>wpZ P n n0 a (Zee (wpZ P n n0 b Q) Q) e m
 | .cond c a b,Q,e,m=>Zno (evE n e c) (wpZ P n n0 a Q e m) (wpZ P n n0 b Q e m)
 | .block id c,Q,e,m=>wpZ P n n0 c (Zdj id Q) e m
 | .loop c,Q,e,m=>∃ (I:Nat→Env→SMem→Prop),(∃ k e0 m0,WkR n n0 e0 m0 e m∧I k e0 m0) ∧ ∀ k e1 m1,I k e1 m1→wpZ P n n0 c (Zee (fun e' m'=>∃ j e0 m0,j<k∧WkR n n0 e0 m0 e' m'∧I j e0 m0) Q) e1 m1
 | .exit id,Q,e,m=>Q (.exit id) e m
 | .scope c,Q,e,m=>wpZ P n n0 c Q e m
 | .label _,Q,e,m=>Q .normal e m
 | .ret,Q,e,m=>Q .ret e m
 | .bad,_,_,_=>False
section
variable {P:Program} {n n0:Nat}
theorem Ziq {base:Nat} {K K':Env→SMem→Prop} (hk:∀ e m,K e m→K' e m):∀ (ops:List AOper) (i:Nat) (e:Env) (m:SMem),sops P n base ops i K e m→sops P n base ops i K' e m
 | [],_,_,_,h=>hk _ _ h
 | o :: r,i,e,m,h=>by
  simp only[sops]at h ⊢
  split at h
  ·exact Ziq hk r _ _ _ h
  ·split at h
   ·split at h
    ·exact h.mono fun v m'' hh=>by obtain⟨m',e',hh⟩:=hh; exact⟨m',e',Ziq hk r _ _ _ hh⟩
    ·exact h
   ·split at h
    ·exact Ziq hk r _ _ _ h
    ·exact h
  ·exact h
theorem Zi5 {base:Nat} {K K':Env→SMem→Prop} (hk:∀ e m,K e m→K' e m):∀ (ops:List AOper) (fs:List FT) (e:Env) (m:SMem),Zjo P n base ops fs K e m→Zjo P n base ops fs K' e m
 | [],_,_,_,h=>hk _ _ h
 | o :: r,fs,e,m,h=>by
  simp only[Zjo]at h ⊢
  split at h
  ·exact Zi5 hk r _ _ _ h
  ·split at h
   ·split at h
    ·obtain⟨v,d,h1,h2,h3⟩:=h
     exact⟨v,d,h1,h2,Zi5 hk r _ _ _ h3⟩
    ·exact h
   ·split at h
    ·exact⟨h.1,Zi5 hk r _ _ _ h.2⟩
    ·exact h
  ·exact h
theorem Z4c {c:ACode}:∀ {Q Q':Exit→Env→SMem→Prop} {e:Env} {m:SMem},wpT P n n0 c Q e m→(∀ x e m,Q x e m→Q' x e m)→wpT P n n0 c Q' e m:=by
 induction c with
 | skip=>exact fun h hq=>hq _ _ _ h
 | region draw ops=>
  intro Q Q' e m h hq
  cases draw with
  | false=>exact Ziq (hq .normal) ops 0 e _ h
  | true=>exact Zi5 (hq .normal) ops [] e _ h
 | seq a b iha ihb=>
  intro Q Q' e m h hq
  refine iha h fun x e m hx=>?_
  cases x<;>first|exact ihb hx hq|exact hq _ _ _ hx
 | cond c a b iha ihb=>
  intro Q Q' e m h hq
  simp only[wpT]at h ⊢
  split at h
  ·exact iha h hq
  ·exact ihb h hq
  ·exact h
 | block id c ih=>
  intro Q Q' e m h hq
  refine ih h fun x e m hx=>?_
  cases x<;>simp only[Zdj]at hx ⊢ <;> first|exact hq _ _ _ hx|skip
  split at hx
  ·rename_i h1; rw[if_pos h1]; exact hq _ _ _ hx
  ·rename_i h1; rw[if_neg h1]; exact hq _ _ _ hx
 | loop c ih=>
  intro Q Q' e m h hq
  obtain⟨I,h1,h2⟩:=h
  refine⟨I,h1,fun k e1 m1 hI=>ih (h2 k e1 m1 hI) fun x e m hx=>?_⟩
  cases x<;>first|exact hx|exact hq _ _ _ hx
 | exit id=>exact fun h hq=>hq _ _ _ h
 | scope c ih=>exact fun h hq=>ih h hq
 | label l=>exact fun h hq=>hq _ _ _ h
 | ret=>exact fun h hq=>hq _ _ _ h
 | bad=>exact fun h _=>h
variable {Q:Exit→Env→SMem→Prop} {e:Env} {m:SMem}
theorem Zgn:wpZ P n n0 .skip Q e m=Q .normal e m:=propext Iff.rfl
theorem Zdn (ops:List AOper):wpZ P n n0 (.region false ops) Q e m=zops P false n m.next ops 0 (Q .normal) e (m.at (m.next+ops.length)):=propext Iff.rfl
theorem Zj0 (a b:ACode):wpZ P n n0 (.seq a b) Q e m=wpZ P n n0 a (Zee (wpZ P n n0 b Q) Q) e m:=propext Iff.rfl
theorem Z8j (c:AOpd) (a b:ACode):wpZ P n n0 (.cond c a b) Q e m=Zno (evE n e c) (wpZ P n n0 a Q e m) (wpZ P n n0 b Q e m):=propext Iff.rfl
theorem Ze7 (i:Nat) (c:ACode):wpZ P n n0 (.block i c) Q e m=wpZ P n n0 c (Zdj i Q) e m:=propext Iff.rfl
theorem Zex (c:ACode):wpZ P n n0 (.scope c) Q e m=wpZ P n n0 c Q e m:=propext Iff.rfl
theorem Zgo (i:Nat):wpZ P n n0 (.exit i) Q e m=Q (.exit i) e m:=propext Iff.rfl
theorem Zj6:wpZ P n n0 .ret Q e m=Q .ret e m:=propext Iff.rfl
theorem Zcw (ops:List AOper):wpZ P n n0 (.region true ops) Q e m=if ops.all Zd8=true then zops P false n m.next ops 0 (Q .normal) e (m.at (m.next+ops.length))
 else if ops.all (fun o=>o.un.isEmpty)=true then zops P true n m.next ops 0 (Q .normal) e (m.at (m.next+ops.length))
 else Zf5 P (Zjx ops) n m.next ops 0 [] (Q .normal) e (m.at (m.next+ops.length)):=propext Iff.rfl
theorem Zi8 {base:Nat} {K:Env→SMem→Prop}:∀ (ops:List AOper) (i:Nat) (e:Env) (m:SMem),ops.all Zd8=true→zops P false n base ops i K e m→zops P true n base ops i K e m
 | [],_,_,_,_,h=>h
 | ⟨dst,op,guard,un⟩ :: r,i,e,m,hu,h=>by
  simp only[List.all_cons,Bool.and_eq_true]at hu
  simp only[zops]at h ⊢
  cases hw:Zav n e guard with
  | none=>rw[hw]at h; exact h
  | some b=>
   rw[hw]at h
   cases b with
   | false=>exact Zi8 r _ _ _ hu.2 h
   | true=>
    simp only[gdK]at h ⊢
    have other:∀ op,stK (stepD (base+i) (evE n e) m.get op) (fun v d=>zops P false n base r (i+1) K (putE e dst v) (m.app d))→stK (stepD (base+i) (evE n e) m.get op) (fun v d=>zops P true n base r (i+1) K (putE e dst v) (m.app d)):=by
     intro op hh
     cases hs:stepD (base+i) (evE n e) m.get op with
     | none=>rw[hs]at hh; exact hh
     | some vd=>obtain ⟨v,d⟩:=vd; rw[hs]at hh; exact Zi8 r _ _ _ hu.2 hh
    cases op with
    | call f xs=>simp[Zd8]at hu
    | _=>exact other _ h
theorem Zw5 {ops:List AOper} (h:ops.all Zd8=true):ops.all (fun o=>o.un.isEmpty)=true:=by
 rw[List.all_eq_true]at h ⊢
 intro o ho
 have:=h o ho
 obtain⟨dst,op,guard,un⟩:=o
 simp only[Zd8,Bool.and_eq_true]at this
 exact this.1
theorem wpZ_T {c:ACode}:∀ {Q Q':Exit→Env→SMem→Prop} {e:Env} {m:SMem},wpZ P n n0 c Q e m→(∀ x e m,Q x e m→Q' x e m)→wpT P n n0 c Q' e m:=by
 induction c with
 | skip=>exact fun h hq=>hq _ _ _ h
 | region draw ops=>
  intro Q Q' e m h hq
  refine Z4c ?_ hq
  cases draw with
  | false=>exact Zit ops 0 e _ h
  | true=>
   simp only[wpZ]at h
   split at h
   ·rename_i hb
    exact Zfn ops [] e _ (Zw5 hb) (Zi8 ops 0 _ _ hb h)
   ·split at h
    ·rename_i hb
     exact Zfn ops [] e _ hb h
    ·exact Zhr ops [] [] e _ (fun j f hj=>by simp[Zfm]at hj) h
 | seq a b iha ihb=>
  intro Q Q' e m h hq
  refine iha h fun x e m hx=>?_
  cases x<;>first|exact ihb hx hq|exact hq _ _ _ hx
 | cond c a b iha ihb=>
  intro Q Q' e m h hq
  simp only[wpZ]at h
  simp only[wpT]
  generalize evE n e c=v at h
  cases v<;>first|exact h.elim|skip
  rename_i b
  cases b
  ·exact ihb h hq
  ·exact iha h hq
 | block id c ih=>
  intro Q Q' e m h hq
  refine ih h fun x e m hx=>?_
  cases x<;>simp only[Zdj]at hx ⊢ <;> first|exact hq _ _ _ hx|skip
  split at hx
  ·rename_i h1; rw[if_pos h1]; exact hq _ _ _ hx
  ·rename_i h1; rw[if_neg h1]; exact hq _ _ _ hx
 | loop c ih=>
  intro Q Q' e m h hq
  obtain⟨I,h1,h2⟩:=h
  refine⟨I,h1,fun k e1 m1 hI=>ih (h2 k e1 m1 hI) fun x e m hx=>?_⟩
  cases x<;>first|exact hx|exact hq _ _ _ hx
 | exit id=>exact fun h hq=>hq _ _ _ h
 | scope c ih=>exact fun h hq=>ih h hq
 | label l=>exact fun h hq=>hq _ _ _ h
 | ret=>exact fun h hq=>hq _ _ _ h
 | bad=>exact fun h _=>h
theorem ctr_Z (hm:P.follows .mixedOrders=true) {f:FuncId} {fn:Func} {af:AFn} {args:List AVal} {m:SMem} {K:AVal→SMem→Prop} (hf:P.funcs[f]? = some fn) (hc:cFn P fn=some af) (hl:Nat.ble args.length af.ntmps=true)
 (h:wpZ P af.ntmps m.next af.body (retN af.ntmps af.results (EndK m.next K)) (argE 0 args []) m):Ctr P f args m K:=
 ctr_T hm hf hc hl (wpZ_T h fun _ _ _ h=>h)
theorem Zwq {α:Type} {c:ACode} (E:α→Env) (M:α→SMem) (μ:α→Nat) (Inv:α→Prop) (a0:α) (hs:WkR n n0 (E a0) (M a0) e m) (h0:Inv a0)
 (h:∀ a,Inv a → ∀ N:Env→SMem→Prop,(∀ a' e m,μ a'<μ a→Inv a'→WkR n n0 (E a') (M a') e m→N e m)→wpZ P n n0 c (Zee N Q) (E a) (M a)):wpZ P n n0 (.loop c) Q e m:=by
 refine⟨fun k e m=>∃ a,k=μ a∧Inv a∧e=E a∧m=M a,⟨μ a0,_,_,hs,a0,rfl,h0,rfl,rfl⟩,?_⟩
 rintro k e1 m1 ⟨a,rfl,ha,rfl,rfl⟩
 exact h a ha _ fun a' e m h1 h2 h3=>⟨μ a',E a',M a',h1,h3,a',rfl,h2,rfl,rfl⟩
theorem Zbg {α:Type} {c:ACode} (E:α→Env) (M:α→SMem) (μ:α→Nat) (Inv:α→Prop) (a0:α) (l:List (Nat×Nat)) (hs:SubR n0 l (E a0) (M a0) e m) (h0:Inv a0)
 (h:∀ a,Inv a → ∀ N:Env→SMem→Prop,(∀ a' l e m,μ a'<μ a→Inv a'→SubR n0 l (E a') (M a') e m→N e m)→wpZ P n n0 c (Zee N Q) (E a) (M a)):wpZ P n n0 (.loop c) Q e m:=
 Zwq E M μ Inv a0 hs.wk h0 fun a ha N hN=>h a ha N fun a' l e m h1 h2 h3=>hN a' e m h1 h2 h3.wk
@[congr] theorem wpZ_congr {n n0 : Nat} {c : ACode} {Q : Exit → Env → SMem → Prop} {e e' : Env} {m m' : SMem} (h : e = e') (h' : m = m') : wpZ P n n0 c Q e m = wpZ P n n0 c Q e' m' := by rw [h, h']
end
end Go.AE
end
section
namespace Go.Plain
def Zbt {α:Type} (n i:Nat) (v:Nat→α) (d:α):List α:=(List.range n).map fun j=>if j<i then v j else d
theorem Zby {α:Type} (n i:Nat) (v:Nat→α) (d:α):(Zbt n i v d).length=n:=by simp[Zbt]
theorem Zds {α:Type} {n i j:Nat} {v:Nat→α} {d:α} (h:j<n):(Zbt n i v d)[j]? = some (if j<i then v j else d):=by simp[Zbt,h]
theorem Zm4 {α:Type} (n:Nat) (v:Nat→α) (d:α):Zbt n 0 v d=List.replicate n d:=by
 apply List.ext_getElem?
 intro j
 by_cases h:j<n
 ·rw[Zds h,List.getElem?_replicate,if_pos h]; simp
 ·rw[List.getElem?_eq_none (by rw[Zby]; omega),List.getElem?_eq_none (by simp; omega)]
theorem Zor {α:Type} {n i:Nat} {v:Nat→α} {d:α} (h:i<n):(Zbt n i v d).set i (v i)=Zbt n (i+1) v d:=by
 apply List.ext_getElem?
 intro j
 rw[List.getElem?_set]
 by_cases hj:j<n
 ·rw[Zds hj,Zds hj,Zby]
  by_cases hij:i=j
  ·subst hij; rw[if_pos rfl,if_pos h,if_pos (by omega)]
  ·rw[if_neg hij]
   by_cases h1:j<i
   ·rw[if_pos h1,if_pos (by omega)]
   ·rw[if_neg h1,if_neg (by omega)]
 ·rw[List.getElem?_eq_none (by rw[Zby]; omega),List.getElem?_eq_none (by rw[Zby]; omega),if_neg (by omega)]
theorem Zqz {α:Type} {n i:Nat} {v:Nat→α} {d:α} (h:v i=d):Zbt n (i+1) v d=Zbt n i v d:=by
 apply List.map_congr_left
 intro j _
 by_cases h1:j<i
 ·rw[if_pos h1,if_pos (by omega)]
 ·by_cases h2:j=i
  ·subst h2; rw[if_pos (by omega),if_neg h1,h]
  ·rw[if_neg h1,if_neg (by omega)]
def cnts (F:Nat) (ls:List Lt):List Nat:=(List.range (F+1)).map fun g=>inG (g:Nat) ls
theorem Zc8 (F:Nat) (ls:List Lt):(cnts F ls).length=F+1:=by simp[cnts]
theorem Zjj {F g:Nat} {ls:List Lt} (h:g≤F):(cnts F ls)[g]? = some (inG (g:Nat) ls):=by
 simp[cnts,List.getElem?_range (show g<F+1 by omega)]
theorem Z4s (F:Nat):cnts F []=List.replicate (F+1) 0:=by
 apply List.ext_getElem?
 intro j
 by_cases h:j≤F
 ·rw[Zjj h,List.getElem?_replicate,if_pos (by omega)]; rfl
 ·rw[List.getElem?_eq_none (by rw[Zc8]; omega),List.getElem?_eq_none (by simp; omega)]
theorem Zw4 (g:Int) (ls:List Lt) (l:Lt):inG g (ls++[l])=inG g ls+if isP l&&l.g == g then 1 else 0:=by
 unfold inG; rw[Zem,Zif]; rfl
theorem Zz4 {F G:Nat} {ls:List Lt} {l:Lt} (hp:isP l=true) (hg:l.g=(G:Nat)) (hG:G≤F):(cnts F ls).set G (inG (G:Nat) ls+1)=cnts F (ls++[l]):=by
 apply List.ext_getElem?
 intro j
 rw[List.getElem?_set]
 by_cases hj:j≤F
 ·rw[Zjj hj,Zjj hj,Zw4,Zc8]
  by_cases hij:G=j
  ·subst hij; rw[if_pos rfl,if_pos (by omega)]; simp[hp,hg]
  ·rw[if_neg hij]
   have:¬((G:Nat):Int)=(j:Nat):=by omega
   simp[hg,this]
 ·rw[List.getElem?_eq_none (by rw[Zc8]; omega),List.getElem?_eq_none (by rw[Zc8]; omega),Zc8,if_neg (by omega)]
theorem Z3m {F:Nat} {ls:List Lt} {l:Lt} (hp:isP l=false):cnts F (ls++[l])=cnts F ls:=by
 apply List.map_congr_left
 intro j _
 rw[Zw4]; simp[hp]
def tot (ls:List Lt) (g:Nat):Nat:=cntP (fun o=>isP o&&decide (o.g<(g:Nat))) ls
theorem Zmf (ls:List Lt) (g:Nat):tot ls (g+1)=tot ls g+inG (g:Nat) ls:=by
 unfold tot inG
 rw[Zja (fun o=>isP o&&decide (o.g<((g+1:Nat):Int))) (fun o=>decide (o.g<(g:Nat)))]
 congr 1
 ·apply Zbl
  intro l _
  cases isP l with
  | false=>rfl
  | true=>rw[Bool.eq_iff_iff]; simp; omega
 ·apply Zbl
  intro l _
  cases isP l with
  | false=>rfl
  | true=>rw[Bool.eq_iff_iff]; simp; omega
theorem Zzx {p q:Lt→Bool} {ls:List Lt} (h:∀ l,p l=true→q l=true):cntP p ls≤cntP q ls:=by
 induction ls with
 | nil=>exact Nat.le_refl _
 | cons l r ih=>
  rw[Zif,Zif]
  cases hp:p l with
  | false=>simp; omega
  | true=>rw[h l hp]; simp; exact ih
theorem Z6b (ls:List Lt) (g:Nat):tot ls g≤Zaa ls:=Zzx fun l h=>by simp at h; exact h.1
def Zov (F:Nat) (ls:List Lt):Prop:=∀ l,l∈ls→isP l=true→0≤l.g∧l.g≤(F:Nat)
theorem Z5c {F:Nat} {ls:List Lt} (h:Zov F ls):tot ls 0=0:=by
 unfold tot cntP
 rw[List.length_eq_zero_iff,List.filter_eq_nil_iff]
 intro l hl
 simp only[Bool.and_eq_true,decide_eq_true_eq,not_and]
 intro hp
 have:=(h l hl hp).1
 omega
theorem Z4p {F:Nat} {ls:List Lt} (h:Zov F ls):tot ls (F+1)=Zaa ls:=by
 unfold tot Zaa
 apply Zbl
 intro l hl
 cases hp:isP l with
 | false=>rfl
 | true=>
  have:=(h l hl hp).2
  simp; omega
theorem Zxk {ls:List Lt} {l:Lt} {G:Nat} (hg:l.g=(G:Nat)):pos ls l=tot ls G+(l.r - 1).toNat:=by
 unfold pos tot; rw[hg]
theorem Zw2 {F:Nat} {ls:List Lt} (hG:Zov F ls) {l:Lt} (hl:l∈ls) (hp:isP l=true) (h1:1≤l.r) (h2:l.r≤(inG l.g ls:Nat)):pos ls l<Zaa ls:=by
 obtain⟨h3,h4⟩:=hG l hl hp
 obtain⟨G,hg⟩:∃ G:Nat,l.g=(G:Nat):=⟨l.g.toNat,by omega⟩
 rw[Zxk hg]
 have:=Zmf ls G
 have h5:=Z6b ls (G+1)
 rw[hg]at h2
 omega
def Zc1 (ls:List Lt) (m:Nat):Nat→List Bool
 | 0=>List.replicate m false
 | i+1=>if isP (at' ls i)then (Zc1 ls m i).set (pos ls (at' ls i)) true else Zc1 ls m i
def Zf7 (ls:List Lt) (m:Nat):Nat→List Nat
 | 0=>List.replicate m 0
 | i+1=>if isP (at' ls i)then (Zf7 ls m i).set (pos ls (at' ls i)) i else Zf7 ls m i
def rkF (ls:List Lt) (m:Nat):Nat→Bool
 | 0=>true
 | i+1=>rkF ls m i&&(!isP (at' ls i)||(decide (1≤(at' ls i).r)&&decide ((at' ls i).r≤(inG (at' ls i).g ls:Nat)) && !(Zc1 ls m i).getD (pos ls (at' ls i)) true))
theorem Zh3 (ls:List Lt) (m:Nat):∀ i,(Zc1 ls m i).length=m
 | 0=>by simp[Zc1]
 | i+1=>by simp only[Zc1]; split<;>simp[Zh3 ls m i]
theorem Zgc (ls:List Lt) (m:Nat):∀ i,(Zf7 ls m i).length=m
 | 0=>by simp[Zf7]
 | i+1=>by simp only[Zf7]; split<;>simp[Zgc ls m i]
theorem rkF_le {ls:List Lt} {m:Nat}:∀ {i j:Nat},i≤j→rkF ls m j=true→rkF ls m i=true:=by
 intro i j hij
 induction hij with
 | refl=>exact id
 | step _ ih=>intro h; simp only[rkF,Bool.and_eq_true]at h; exact ih h.1
def Zcm (ls:List Lt) (j:Nat):Bool:=isP (at' ls j)&&down ls j
def Zcd (ls:List Lt) (j:Nat):Nat:=if isP (at' ls j)then pos ls (at' ls j)else 0
end Go.Plain
end
