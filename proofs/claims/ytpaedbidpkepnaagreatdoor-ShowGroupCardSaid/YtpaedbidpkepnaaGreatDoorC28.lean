/- Part 28 of the proof: AeNh. -/
import Derived.Test.YtpaedbidpkepnaaGreatDoorC12
set_option linter.all false
namespace Go.AE
open Go.RowKit
def onlyG (get:Nat→Option ABlk) (S:List Nat) (b:Nat):Option ABlk:=bif memN b S then get b else none
def fzV (get:Nat→Option ABlk) (S:List Nat) (x:AVal):AVal:=
 match freezeV (onlyG get S) 5 x with
 | some y=>y
 | none=>x
theorem freezeS {W:Base} {Φ:Pers} {ρ:Rho} {m:Mem} {w:World} (S:List Nat) (hr:Rel W Φ ρ m w):∃ Φs:Pers,Ext Φ ρ Φs ρ∧(∀ B c,Φs B=some c → ∃ e fz,w.heap[B]? = some (.cells c e fz)) ∧
 (∀ B c,Φs B=some c→W.p B=some c∨W.Free B)∧(∀ b x l,m.get b=some x→ρ b=some l→memN b S=false→Φs l.blk=none) ∧ ∀ x v,R Φ ρ x v→R Φs ρ (fzV m.get S x) v:=by
 have hlv:∀ B,(∃ b l y,memN b S=true∧m.get b=some y∧ρ b=some l∧l.blk=B)→Φ B=none∧W.Free B:=by
  rintro B ⟨b,l,y,_,h1,h2,rfl⟩
  obtain⟨l',o,g1,g2,g3,_⟩:=hr.live b y h1
  rw [h2] at g1; injection g1 with g1; subst g1
  exact⟨g3,g2⟩
 obtain⟨Φs,hy,hn⟩:∃ Φs:Pers,(∀ B,(∃ b l y,memN b S=true∧m.get b=some y∧ρ b=some l∧l.blk=B)→Φs B=match w.heap[B]? with | some (.cells c _ _)=>some c | _=>none) ∧
  ∀ B,¬(∃ b l y,memN b S=true∧m.get b=some y∧ρ b=some l∧l.blk=B)→Φs B=Φ B:=
  ⟨fun B=>@ite _ (∃ b l y,memN b S=true∧m.get b=some y∧ρ b=some l∧l.blk=B) (Classical.propDecidable _) (match w.heap[B]? with | some (.cells c _ _)=>some c | _=>none) (Φ B),
   fun B hL=>by simp only [hL,if_true],fun B hL=>by simp only [hL,if_false]⟩
 have hE:Ext Φ ρ Φs ρ:=⟨fun B c hB=>by
  by_cases hL:∃ b l y,memN b S=true∧m.get b=some y∧ρ b=some l∧l.blk=B
  · rw [(hlv B hL).1] at hB; cases hB
  · rw [hn B hL]; exact hB,fun b l h=>h⟩
 refine⟨Φs,hE,fun B c hB=>?_,fun B c hB=>?_,fun b x l hx hl hS=>?_,fun x v hR=>?_⟩
 · by_cases hL:∃ b l y,memN b S=true∧m.get b=some y∧ρ b=some l∧l.blk=B
   · rw [hy B hL] at hB
     split at hB<;>first | (cases hB; done) | skip
     rename_i c' e fz hw
     injection hB with hB; subst hB
     exact⟨e,fz,hw⟩
   · rw [hn B hL] at hB
     exact hr.pers B c hB
 · by_cases hL:∃ b l y,memN b S=true∧m.get b=some y∧ρ b=some l∧l.blk=B
   · exact .inr (hlv B hL).2
   · rw [hn B hL] at hB
     exact hr.newp B c hB
 · have hL:¬ ∃ b' l' y,memN b' S=true∧m.get b'=some y∧ρ b'=some l'∧l'.blk=l.blk:=by
    rintro⟨b',l',y,h1,h2,h3,h4⟩
    have:=hr.inj b' b y x l' l h2 hx h3 hl h4
    subst this
    rw [h1] at hS; cases hS
   rw [hn _ hL]
   obtain⟨l',o,g1,g2,g3,_⟩:=hr.live b x hx
   rw [hl] at g1; injection g1 with g1; subst g1
   exact g3
 · have hrS:Rel W Φ ρ ⟨onlyG m.get S,m.next⟩ w:=hr.sub ⟨fun b x hx=>by
    unfold onlyG at hx
    cases hS:memN b S with
    | true=>simpa [hS] using hx
    | false=>simp [hS] at hx,Nat.le_refl _⟩
   unfold fzV
   cases hz:freezeV (onlyG m.get S) 5 x with
   | none=>exact hR.ext hE
   | some y=>
    refine freeze_R (m:=⟨onlyG m.get S,m.next⟩) hrS hE (fun b l k els c e fz hg hl hw=>?_) 5 x y v hz hR
    unfold onlyG at hg
    cases hS:memN b S with
    | false=>simp [hS] at hg
    | true=>
     simp [hS] at hg
     rw [hy l.blk ⟨b,l,_,hS,hg,hl,rfl⟩,hw]
def fzLL (get:Nat→Option ABlk) (S:List Nat) (els:List (List AVal)):List (List AVal):=els.map (List.map (fzV get S))
theorem BR.fz {Φ Φs:Pers} {ρ:Rho} {get:Nat→Option ABlk} {S:List Nat} (hf:∀ x v,R Φ ρ x v→R Φs ρ (fzV get S x) v) {k:Nat} {els:List (List AVal)} {l:Loc} {o:Obj} (h:BR Φ ρ (.cells k els) l o):BR Φs ρ (.cells k (fzLL get S els)) l o:=by
 cases h with
 | cells _ _ _ c e hk hn hl hr h1=>
  have hget:∀ (i:Nat) (row:List AVal),(fzLL get S els)[i]? = some row → ∃ row0,els[i]? = some row0∧row=row0.map (fzV get S):=by
   intro i row hi
   rw [fzLL,List.getElem?_map] at hi
   cases h0:els[i]? with
   | none=>rw [h0] at hi; cases hi
   | some r0=>rw [h0] at hi; injection hi with hi; exact⟨r0,rfl,hi.symm⟩
  refine .cells k _ l c e hk hn (by rw [fzLL,List.length_map]; exact hl) ⟨fun i row hi=>?_,fun i row j x hi hj=>?_⟩ h1
  · obtain⟨r0,g1,rfl⟩:=hget i row hi
    rw [List.length_map]; exact hr.1 i r0 g1
  · obtain⟨r0,g1,rfl⟩:=hget i row hi
    rw [List.getElem?_map] at hj
    cases h0:r0[j]? with
    | none=>rw [h0] at hj; cases hj
    | some x0=>
     rw [h0] at hj; injection hj with hj; subst hj
     obtain⟨v,k1,k2,k3⟩:=hr.2 i r0 j x0 g1 h0
     exact⟨v,k1,k2,hf _ _ k3⟩
def SubFB (q:Nat→Nat) (S:List Nat):List (Nat×ABlk)→SMem→Prop
 | [],_=>True
 | (b,x) :: r,m=>(memN (q b) S=false∧(m.get (q b)=some (x.ren q) ∨ ∃ k els,m.get (q b)=some (.cells k els)∧x.ren q=.cells k (fzLL m.get S els)))∧SubFB q S r m
theorem SubFB.get {q:Nat→Nat} {S:List Nat}:∀ {l:List (Nat×ABlk)} {m:SMem},SubFB q S l m → ∀ b x,lookB l b=some x→memN (q b) S=false ∧ ∃ y,m.get (q b)=some y∧(x.ren q=y ∨ ∃ k els,y=.cells k els∧x.ren q=.cells k (fzLL m.get S els))
 | [],m,_,b,x,h=>by simp [lookB] at h
 | (c,y) :: r,m,hs,b,x,h=>by
  simp only [lookB] at h
  split at h
  · rename_i hb; subst hb; injection h with h; subst h
    refine⟨hs.1.1,?_⟩
    rcases hs.1.2 with h1 | ⟨k,els,h1,h2⟩
    · exact⟨_,h1,.inl rfl⟩
    · exact⟨_,h1,.inr ⟨k,els,rfl,h2⟩⟩
  · exact hs.2.get b x h
def SubF (n0:Nat) (l:List (Nat×Nat)) (S:List Nat) (e0:Env) (m0:SMem) (e:Env) (m:SMem):Prop:=
 n0≤m0.next∧n0≤m.next∧SubRE (qOf l n0 m0.next m.next) e0 e∧SubFB (qOf l n0 m0.next m.next) S m0.bl m∧InjK (qOf l n0 m0.next m.next) m0.bl
theorem SubF.wk {n0 n:Nat} {l:List (Nat×Nat)} {S:List Nat} {e0 e:Env} {m0 m:SMem} (h:SubF n0 l S e0 m0 e m):WkR n n0 e0 m0 e m:=by
 obtain⟨hn0,hn,he,hm,hi⟩:=h
 refine⟨hn0,fun W Φ ρ vs w hr ht=>?_⟩
 obtain⟨Φs,hE,f1,f2,f3,f4⟩:=freezeS S hr
 refine⟨Φs,fun b=>ρ (qOf l n0 m0.next m.next b),hE.pers,fun b hb=>by simp only [qOf,if_pos hb],⟨hr.base,f1,fun b x hx=>?_,fun b b' x x' l l' h1 h2 h3 h4 h5=>?_,fun b l' hb=>qOf_lt (hr.fresh _ _ hb) hn0,f2⟩,?_⟩
 · obtain⟨hS,y,hy,hs⟩:=hm.get b x hx
   obtain⟨l',o,g1,g2,g3,g4,g5⟩:=hr.live _ y hy
   refine⟨l',o,g1,g2,f3 _ y l' hy g1 hS,g4,?_⟩
   refine BR.unren (q:=qOf l n0 m0.next m.next) (ρ:=ρ) (fun _ _ hb=>hb) ?_
   rcases hs with rfl | ⟨k,els,rfl,h2⟩
   · exact g5.ext hE
   · rw [h2]
     exact g5.fz f4
 · obtain⟨_,y,hy,_⟩:=hm.get b x h1
   obtain⟨_,y',hy',_⟩:=hm.get b' x' h2
   exact hi.get b b' x x' h1 h2 (hr.inj _ _ y y' l l' hy hy' h3 h4 h5)
 · refine⟨by rw [ht.1,toE_length,toE_length],fun i x v hx hv=>?_⟩
   have hin:i<n:=by
    have:=(List.getElem?_eq_some_iff.1 hx).1
    rwa [toE_length] at this
   rw [toE_get hin] at hx
   injection hx with hx
   subst hx
   rcases he.get i with h1 | h1
   · rw [h1]; exact .bot v
   · have hR:=ht.2 i (e.get i) v (toE_get hin) hv
     rw [h1] at hR
     exact(hR.unren (ρ':=fun b=>ρ (qOf l n0 m0.next m.next b)) (q:=qOf l n0 m0.next m.next) (fun _ _ hb=>hb) _ rfl).ext ⟨hE.pers,fun _ _ h=>h⟩
theorem Ctr.freeze {P:Program} {g:FuncId} {args:List AVal} {m:SMem} {K K':AVal→SMem→Prop} (h:Ctr P g args m K) (hk:∀ r sm,K r sm → ∃ S,K' (fzV sm.get S r) ⟨lessB S sm.bl,sm.next⟩):Ctr P g args m K':=by
 refine⟨h.1,fun W Φ ρ vs w hr ha hav=>(h.2 W Φ ρ vs w hr ha hav).mono fun e w' he=>?_⟩
 obtain⟨u,r,m1,Φ',ρ',e1,hE,hk1,hr',hR,hn,sm,rfl,hK⟩:=he
 obtain⟨S,hS⟩:=hk r sm hK
 obtain⟨Φs,f0,f1,f2,f3,f4⟩:=freezeS S hr'
 refine⟨u,fzV sm.get S r,SMem.mem ⟨lessB S sm.bl,sm.next⟩,Φs,ρ',e1,hE.trans f0,hk1,⟨hr'.base,f1,fun b x hx=>?_,fun b b' x x' l l' h1 h2=>?_,hr'.fresh,f2⟩,f4 _ _ hR,hn,_,rfl,hS⟩
 · obtain⟨h1,h2⟩:=lookB_less hx
   obtain⟨l',o,g1,g2,g3,g4,g5⟩:=hr'.live b x h1
   have hm0:memN b S=false:=by
    cases hb:memN b S with
    | false=>rfl
    | true=>exact absurd (memN_iff.1 hb) h2
   exact⟨l',o,g1,g2,f3 b x l' h1 g1 hm0,g4,g5.ext f0⟩
 · exact hr'.inj b b' x x' l l' (lookB_less h1).1 (lookB_less h2).1
theorem freezeV_closed {get:Nat→Option ABlk}:∀ (n:Nat) (x y:AVal),x.closed=true→freezeV get n x=some y→y=x:=by
 intro n
 induction n with
 | zero=>intro x y _ h; simp [freezeV] at h
 | succ n ih=>
  have hL:∀ (l:List AVal) (ds:List AVal),closedL l=true→mapO (freezeV get n) l=some ds→ds=l:=by
   intro l
   induction l with
   | nil=>intro ds _ h; simp only [mapO,Option.some.injEq] at h; exact h.symm
   | cons a r ihr=>
    intro ds hc h
    simp only [closedL,Bool.and_eq_true] at hc
    simp only [mapO] at h
    cases h1:freezeV get n a with
    | none=>simp [h1] at h
    | some b=>
     cases h2:mapO (freezeV get n) r with
     | none=>simp [h1,h2] at h
     | some bs=>
      simp only [h1,h2,Option.some.injEq] at h
      subst h
      rw [ih a b hc.1 h1,ihr bs hc.2 h2]
  have hLL:∀ (l ds:List (List AVal)),closedLL l=true→mapO (mapO (freezeV get n)) l=some ds→ds=l:=by
   intro l
   induction l with
   | nil=>intro ds _ h; simp only [mapO,Option.some.injEq] at h; exact h.symm
   | cons a r ihr=>
    intro ds hc h
    simp only [closedLL,Bool.and_eq_true] at hc
    simp only [mapO] at h
    cases h1:mapO (freezeV get n) a with
    | none=>simp [h1] at h
    | some b=>
     cases h2:mapO (mapO (freezeV get n)) r with
     | none=>simp [h1,h2] at h
     | some bs=>
      simp only [h1,h2,Option.some.injEq] at h
      subst h
      rw [hL a b hc.1 h1,ihr bs hc.2 h2]
  intro x y hc h
  cases x<;>simp only [freezeV] at h<;>first | (simp only [Option.some.injEq] at h; exact h.symm) | (cases h; done) | (cases hc; done) | skip
  · rename_i els
    cases hm:mapO (mapO (freezeV get n)) els with
    | none=>simp [hm] at h
    | some ds=>simp only [hm,Option.some.injEq] at h; subst h; rw [hLL els ds hc hm]
  · rename_i cs
    cases hm:mapO (freezeV get n) cs with
    | none=>simp [hm] at h
    | some ds=>simp only [hm,Option.some.injEq] at h; subst h; rw [hL cs ds hc hm]
  · rename_i cs
    cases hm:mapO (freezeV get n) cs with
    | none=>simp [hm] at h
    | some ds=>simp only [hm,Option.some.injEq] at h; subst h; rw [hL cs ds hc hm]
theorem fzV_closed {get:Nat→Option ABlk} {S:List Nat} {x:AVal} (h:x.closed=true):fzV get S x=x:=by
 unfold fzV
 cases hz:freezeV (onlyG get S) 5 x with
 | none=>rfl
 | some y=>exact freezeV_closed 5 x y h hz
theorem fzL_closed {get:Nat→Option ABlk} {S:List Nat}:∀ {l:List AVal},closedL l=true→l.map (fzV get S)=l
 | [],_=>rfl
 | x :: r,h=>by
  simp only [closedL,Bool.and_eq_true] at h
  rw [List.map_cons,fzV_closed h.1,fzL_closed h.2]
theorem fzLL_closed {get:Nat→Option ABlk} {S:List Nat}:∀ {l:List (List AVal)},closedLL l=true→fzLL get S l=l
 | [],_=>rfl
 | x :: r,h=>by
  simp only [closedLL,Bool.and_eq_true] at h
  have:=fzLL_closed (get:=get) (S:=S) h.2
  unfold fzLL at this ⊢
  rw [List.map_cons,fzL_closed h.1,this]
theorem fzLL_append {get:Nat→Option ABlk} {S:List Nat} (a b:List (List AVal)):fzLL get S (a++b)=fzLL get S a++fzLL get S b:=by simp [fzLL]
theorem mapO_closed {get:Nat→Option ABlk} {n:Nat}:∀ {l:List (List AVal)},(∀ row,row∈l → ∀ x,x∈row→freezeV get n x=some x)→mapO (mapO (freezeV get n)) l=some l
 | [],_=>rfl
 | a :: r,h=>by
  have h1:mapO (freezeV get n) a=some a:=by
   have ha:=h a (List.mem_cons_self ..)
   clear h
   induction a with
   | nil=>rfl
   | cons x t ih=>
    simp only [mapO]
    rw [ha x (List.mem_cons_self ..),ih fun y hy=>ha y (List.mem_cons_of_mem _ hy)]
  simp only [mapO]
  rw [h1,mapO_closed fun row hr=>h row (List.mem_cons_of_mem _ hr)]
theorem fzV_sl {get:Nat→Option ABlk} {S:List Nat} {b k len:Nat} {els:List (List AVal)} (hb:memN b S=true) (hg:get b=some (.cells k els)) (hl:els.length=len) (hs:∀ row,row∈els → ∀ x,x∈row→freezeV (onlyG get S) 4 x=some x):fzV get S (.sl b 0 len)=.imm els:=by
 have h:onlyG get S b=some (.cells k els):=by unfold onlyG; rw [hb]; exact hg
 subst hl
 have h1:Nat.ble (0+els.length) els.length=true:=by rw [Nat.zero_add]; exact Nat.ble_self_eq_true _
 unfold fzV
 rw [freezeV]
 simp only [h,h1,cond_true,List.drop_zero,List.take_length,mapO_closed hs]
end Go.AE
