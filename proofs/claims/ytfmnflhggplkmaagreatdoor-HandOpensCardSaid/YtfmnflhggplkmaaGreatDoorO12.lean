/- Part 12 of the proof: AeX, AeY, AeRun. -/
import Derived.Test.YtfmnflhggplkmaaGreatDoorO4
import Derived.Test.YtfmnflhggplkmaaGreatDoorO11
set_option linter.all false
section
namespace Go.AE
open Go.RowKit
variable {P:Program}
theorem drawOk_spec {ops:Array Oper} {as:List AOper} {preds:List (List Nat)} (h:cDrawOk ops as preds=true) :
 (∀(i:Nat) (o:Oper),ops[i]? = some o → ∀ e,e∈o.after.toList→Region.binds .any e=true→e.on<i) ∧
 ∀(i j:Nat) (x y:AOper),j<i→i<ops.size→as[i]? = some x→as[j]? = some y→j∉preds.getD i []→y.apart x=true:=by
 unfold cDrawOk at h
 simp only[Bool.and_eq_true,List.all_eq_true,List.mem_range]at h
 obtain⟨h1,h2⟩:=h
 refine⟨fun i o ho e he hb=>?_,fun i j x y hji hi hx hy hp=>?_⟩
 ·have hi:i<ops.size:=(Array.getElem?_eq_some_iff.1 ho).1
  have:=h1 i hi
  rw[ho]at this
  simp only[List.all_eq_true,Bool.or_eq_true,Bool.not_eq_true',decide_eq_true_eq]at this
  rcases this e he with h|h
  ·rw[hb]at h; cases h
  ·exact h
 ·have:=h2 i hi j hji
  simp only[Bool.or_eq_true,List.contains_iff_mem]at this
  rcases this with h|h
  ·exact absurd h hp
  ·rw[hx,hy]at h
   exact h
theorem apart_spec {x y:AOper} (h:x.apart y=true):(∀ d,x.dst=some d→d∉y.looks∧y.dst≠some d) ∧ ∀ d,y.dst=some d→d∉x.looks:=by
 unfold AOper.apart at h
 simp only[Bool.and_eq_true]at h
 obtain⟨h1,h2⟩:=h
 refine⟨fun d hd=>?_,fun d hd=>?_⟩
 ·rw[hd]at h1
  simp only[Bool.and_eq_true,Bool.not_eq_true',bne_iff_ne]at h1
  exact⟨fun hm=>by rw[List.contains_iff_mem.2 hm]at h1; exact absurd h1.1 (by simp),h1.2⟩
 ·rw[hd]at h2
  simp only[Bool.not_eq_true']at h2
  exact fun hm=>by rw[List.contains_iff_mem.2 hm]at h2; cases h2
theorem draw_any {id:Nat} {ops:Array Oper} {Q:Exit→ASt→Prop} {σ:ASt} (h:wpc P (cCode P (.region id ops true)) Q σ) {W:Base} {Φ:Pers} {ρ:Rho} {a:Act} {w:World} (hr:Rel W Φ ρ σ.m w) (ht:RL Φ ρ σ.t a.tmps) (hd:a.defers=[]) :
 wpAny P .any ops (lift W Φ ρ σ.m.next Q) ops.size (Array.replicate ops.size false) a { w with drawn:=w.drawn+1 }:=by
 simp only[cCode]at h
 cases hc:cOpers P ops ops.toList with
 | none=>simp[hc,wpc]at h
 | some as0=>
  simp only[hc]at h
  split at h
  ·rename_i hok
   simp only[wpc]at h
   obtain⟨h1,h2⟩:=cOpers_get P ops _ _ hc
   obtain⟨hlt,hap⟩:=drawOk_spec hok
   generalize has:cUns as0 (cPreds ops.toList) 0 as0=as at h
   have hlen:as.length=ops.size:=by rw[← has,cUns_length,h1]; simp
   have hget:∀ (i:Nat) (b:AOper),as[i]? = some b → ∃ b0,as0[i]? = some b0∧b=⟨b0.dst,b0.op,b0.guard,cUn as0 (cPreds ops.toList) i b0.op⟩:=by
    intro i b hb
    rw[← has,cUns_get,Nat.zero_add]at hb
    cases h0:as0[i]? with
    | none=>rw[h0]at hb; cases hb
    | some b0=>
     rw[h0]at hb
     injection hb with hb
     exact⟨b0,rfl,hb.symm⟩
   obtain⟨T,M,V,F,htr,hQ⟩:=trace_of' h
   have hlo:Loose as F (cPreds ops.toList):=by
    refine⟨fun i j x y hji hx hy hp=>?_,fun i j x y hji hx hy hp=>?_⟩
    ·obtain⟨x0,hx0,rfl⟩:=hget i x hx
     obtain⟨y0,hy0,rfl⟩:=hget j y hy
     have hi:i<ops.size:=by rw[← hlen]; exact(List.getElem?_eq_some_iff.1 hx).1
     exact apart_spec (hap i j x0 y0 hji hi hx0 hy0 hp)
    ·obtain⟨_,_,_,hky,hky1⟩:=step_mem htr hy
     obtain⟨_,_,_,hkx,hkx1⟩:=step_mem htr hx
     have quietL:F j=.ops [] []→(∀ c,(F j).W c=true→(F i).R c=false∧(F i).W c=false)∧(∀ c,(F j).R c=true→(F i).W c=false)∧((F j).isC=true→(F i).isC=false):=by
      intro e; rw[e]
      exact⟨fun c hc=>(by cases hc),fun c hc=>(by cases hc),fun hc=>(by cases hc)⟩
     have quietR:F i=.ops [] []→(∀ c,(F j).W c=true→(F i).R c=false∧(F i).W c=false)∧(∀ c,(F j).R c=true→(F i).W c=false)∧((F j).isC=true→(F i).isC=false):=by
      intro e; rw[e]
      exact⟨fun c _=>⟨rfl,rfl⟩,fun c _=>rfl,fun _=>rfl⟩
     by_cases hk:y.op.kind≤1∧x.op.kind≤1
     ·refine⟨fun c hc=>?_,fun c _=>hkx1 hk.2 c,fun hc=>?_⟩
      ·rw[hky1 hk.1 c]at hc; cases hc
      ·cases hq:(F i).isC with
       | false=>rfl
       | true=>
        cases hF:F i with
        | ops w r=>rw[hF]at hq; cases hq
        | call wl xx nx=>
         have:=hkx1 hk.2 nx
         rw[hF]at this
         simp[FT.W]at this
     ·by_cases hy0:y.op.kind=0
      ·exact quietL (hky hy0)
      ·by_cases hx0:x.op.kind=0
       ·exact quietR (hkx hx0)
       ·obtain⟨_,hs⟩:=htr.step i x hx
        rcases hs with⟨_,_,_,hF⟩|⟨_,hun,_⟩
        ·exact quietR hF
        ·refine FT.indep_spec (hun j ?_ hji)
         obtain⟨x1,hx1,rfl⟩:=hget i x hx
         obtain⟨y1,hy1,rfl⟩:=hget j y hy
         simp only at hk hy0 hx0 ⊢
         unfold cUn
         rw[List.mem_filter,List.mem_range]
         refine⟨hji,?_⟩
         rw[hy1]
         simp only[Bool.and_eq_true,Bool.not_eq_true',bne_iff_ne,ne_eq]
         refine⟨?_,⟨?_,hy0⟩,hx0⟩
         ·cases hq:((cPreds ops.toList).getD i []).contains j with
          | false=>rfl
          | true=>exact absurd (List.contains_iff_mem.1 hq) hp
         ·cases hq:(decide (y1.op.kind≤1)&&decide (x1.op.kind≤1))with
          | false=>rfl
          | true=>simp at hq; exact absurd hq hk
   have hres:∀ (i:Nat) (o:Oper) (b:AOper),ops[i]? = some o→as[i]? = some b→b.dst=o.dst∧b.op=cOp' P o∧cGuard ops o.guard=some b.guard:=by
    intro i o b ho hb
    obtain⟨b0,hb0,rfl⟩:=hget i b hb
    exact h2 i o b0 (by simpa using ho) hb0
   refine draw_main W σ.m.next Q Φ ρ (Nat.le_refl _) hlen hres hlt (fun i j o ho hj=>preds_spec (by simpa using ho) hj) htr hlo hQ (by simp) ops.size (Array.replicate ops.size false) σ.t _ Φ ρ a _
    (by simp) ?_ ?_ ?_ ((hr.at_ (n:=σ.m.next+as.length) (by omega)).drew) ht hd (.refl _ _) (.refl _ _) ?_
   ·have:=List.length_filter_le (fun j=>!(Array.replicate ops.size false).getD j false) (List.range ops.size)
    simpa using this
   ·intro i j hi
    simp[Array.getD]at hi
   ·refine state_congr state_start fun j _=>?_
    simp[Array.getD]
   ·intro j _ _
    cases hq:ρ (σ.m.next+j)with
    | none=>rfl
    | some l=>have:=hr.fresh _ _ hq; omega
  ·simp[wpc]at h
theorem region_draw (hm:P.follows .mixedOrders=true) {id:Nat} {ops:Array Oper} {Q:Exit→ASt→Prop} {σ:ASt} (h:wpc P (cCode P (.region id ops true)) Q σ):AWp P (.region id ops true) Q σ:=
 fun _ _ _ _ _ hr ht hd=>wp_region_any hm (draw_any h hr ht hd)
theorem sound (hm:P.follows .mixedOrders=true) (c:Code) (Q:Exit→ASt→Prop) (σ:ASt) (h:wpc P (cCode P c) Q σ):AWp P c Q σ:=
 sound_of (fun _ _ draw _ _ h=>match draw,h with|false,h=>region_plain h|true,h=>region_draw hm h) c Q σ h
end Go.AE
end
section
namespace Go.AE
open Go.RowKit
variable {P:Program}
def resOne (t:List AVal) (m:Mem):Nat×Option (Option Nat)→Option AVal
 | (i,none)=>some (t.getD i aundef)
 | (i,some n)=>loadA m n (t.getD i aundef)
def resAll (t:List AVal) (m:Mem):List (Nat×Option (Option Nat))→Option (List AVal)
 | []=>some []
 | x :: r=>match resOne t m x,resAll t m r with
  | some y,some ys=>some (y :: ys)
  | _,_=>none
def retA (t:List AVal) (m:Mem):List (Nat×Option (Option Nat))→Option AVal
 | [x]=>resOne t m x
 | xs=>match resAll t m xs with
  | some ys=>some (.tuple ys)
  | none=>none
def retK (rs:List (Nat×Option (Option Nat))) (K:AVal→Mem→Prop):Exit→ASt→Prop
 | .normal,σ=>match retA σ.t σ.m rs with
  | some r=>K r σ.m
  | none=>False
 | .ret,σ=>match retA σ.t σ.m rs with
  | some r=>K r σ.m
  | none=>False
 | _,_=>False
section
variable {W:Base} {Φ:Pers} {ρ:Rho} {w:World} {m:Mem} {t:List AVal} {vs:Array Value}
theorem resOne_run (hr:Rel W Φ ρ m w) (ht:RL Φ ρ t vs) {x:ResultVar} {y:Nat×Option (Option Nat)} (hx:cResult P x=some y) {z:AVal} (hz:resOne t m y=some z) :
 ∃ u,(match x with | .tmp t=>pure (vs.getD t undef) | .cell a t=>do loadVar t (← asAddr (vs.getD a undef)):Sem Value).run P w=.ok u w∧R Φ ρ z u:=by
 cases x with
 | tmp i=>
  simp only[cResult,Option.some.injEq]at hx
  subst hx
  simp only[resOne,Option.some.injEq]at hz
  subst hz
  exact⟨_,rfl,ht.get i⟩
 | cell a ty=>
  simp only[cResult,Option.map_eq_some_iff]at hx
  obtain⟨n,hn,rfl⟩:=hx
  simp only[resOne]at hz
  have hR:=ht.get a
  obtain⟨u,h1,h2⟩:=ok_load hr hR hn hz
  refine⟨u,?_,h2⟩
  unfold loadA at hz
  cases hrow:rowAt m (t.getD a aundef)with
  | none=>rw[hrow]at hz; cases hz
  | some rj=>
   obtain⟨row,j⟩:=rj
   obtain⟨B,o,c,e,fz,hv,hB,_⟩:=row_cells hr hR hrow
   simp only[hv,Instr.loadAt,Instr.sureAddr,Sem.run_bind,Sem.run_pure,Result.andThen_ok,asAddr]at h1 ⊢
   exact h1
def resRun (vs:Array Value) (x:ResultVar):Sem Value:=
 match x with
 | .tmp t=>pure (vs.getD t undef)
 | .cell a t=>do loadVar t (← asAddr (vs.getD a undef))
theorem resAll_run (hr:Rel W Φ ρ m w) (ht:RL Φ ρ t vs):∀ (xs:List ResultVar) (ys:List (Nat×Option (Option Nat))) (zs:List AVal),cResults P xs=some ys→resAll t m ys=some zs →
 ∃ us:List Value,(xs.mapM (resRun vs)).run P w=.ok us w∧us.length=zs.length∧zs.length=ys.length ∧ ∀(i:Nat) (z:AVal) (u:Value),zs[i]? = some z→us[i]? = some u→R Φ ρ z u
 | [],ys,zs,hx,hz=>by
  simp only[cResults,Option.some.injEq]at hx
  subst hx
  simp only[resAll,Option.some.injEq]at hz
  subst hz
  exact⟨[],rfl,rfl,rfl,fun i z u h=>by simp at h⟩
 | x :: xs,ys,zs,hx,hz=>by
  simp only[cResults]at hx
  cases hy:cResult P x with
  | none=>simp[hy]at hx
  | some y=>
   cases hys:cResults P xs with
   | none=>simp[hy,hys]at hx
   | some ys'=>
    simp only[hy,hys,Option.some.injEq]at hx
    subst hx
    simp only[resAll]at hz
    cases hz1:resOne t m y with
    | none=>simp[hz1]at hz
    | some z=>
     cases hz2:resAll t m ys' with
     | none=>simp[hz1,hz2]at hz
     | some zs'=>
      simp only[hz1,hz2,Option.some.injEq]at hz
      subst hz
      obtain⟨u,h1,h2⟩:=resOne_run hr ht hy hz1
      obtain⟨us,h3,h4,h5,h6⟩:=resAll_run hr ht xs ys' zs' hys hz2
      refine⟨u :: us,?_,by simp[h4],by simp[h5],fun i z' u' hz' hu'=>?_⟩
      ·rw[List.mapM_cons]
       have h1':(resRun vs x).run P w=.ok u w:=h1
       simp only[Sem.run_bind,h1',h3,Result.andThen_ok,Sem.run_pure]
      ·cases i with
       | zero=>
        simp only[List.getElem?_cons_zero,Option.some.injEq]at hz' hu'
        subst hz'; subst hu'
        exact h2
       | succ i=>
        simp only[List.getElem?_cons_succ]at hz' hu'
        exact h6 i z' u' hz' hu'
theorem retA_run (hr:Rel W Φ ρ m w) (ht:RL Φ ρ t vs) {fn:Func} {ys:List (Nat×Option (Option Nat))} {z:AVal} (hx:cResults P fn.results.toList=some ys) (hz:retA t m ys=some z) :
 ∃ u,(results fn vs).run P w=.ok u w∧R Φ ρ z u:=by
 have hrun:∀ us:List Value,(fn.results.toList.mapM (resRun vs)).run P w=.ok us w→(results fn vs).run P w=.ok (if h:us.toArray.size=1 then us.toArray[0]else .tuple us.toArray) w:=by
  intro us h
  have he:results fn vs=(do let us ← fn.results.mapM (resRun vs); pure (if h:us.size=1 then us[0]else .tuple us):Sem Value):=by
   unfold results
   have:(fun x:ResultVar=>(match x with | .tmp t=>pure (vs.getD t undef) | .cell a t=>do loadVar t (← asAddr (vs.getD a undef)):Sem Value))=resRun vs:=by
    funext x; cases x<;>rfl
   rw[← this]
   rfl
  rw[he,Array.mapM_eq_mapM_toList]
  simp only[Sem.run_bind,Sem.run_map,h,Result.andThen_ok,Sem.run_pure]
 have hz':∃ zs,resAll t m ys=some zs∧(z=match zs with|[x]=>x|_=>.tuple zs):=by
  unfold retA at hz
  split at hz
  ·rename_i x
   exact⟨[z],by simp[resAll,hz],rfl⟩
  ·split at hz<;>first|(cases hz; done)|skip
   rename_i hne _ zs hzs
   injection hz with hz
   refine⟨zs,hzs,?_⟩
   subst hz
   cases zs with
   | nil=>rfl
   | cons a r=>
    cases r with
    | nil=>
     exfalso
     have hl:ys.length=1:=by
      have:∀ (l:List (Nat×Option (Option Nat))) (zs:List AVal),resAll t m l=some zs→zs.length=l.length:=by
       intro l
       induction l with
       | nil=>intro zs h; simp only[resAll,Option.some.injEq]at h; subst h; rfl
       | cons x l ih=>
        intro zs h
        simp only[resAll]at h
        split at h<;>first|(cases h; done)|skip
        rename_i y ys h1 h2
        injection h with h; subst h
        simp[ih _ h2]
      simpa using (this _ _ hzs).symm
     cases ys with
     | nil=>simp at hl
     | cons y r=>cases r with
      | nil=>exact hne y rfl
      | cons _ _=>simp at hl
    | cons b r=>rfl
 obtain⟨zs,hzs,hze⟩:=hz'
 obtain⟨us,h1,h2,h3,h4⟩:=resAll_run hr ht _ _ zs hx hzs
 refine⟨_,hrun us h1,?_⟩
 cases zs with
 | nil=>
  have:us=[]:=by simpa using h2
  subst this
  subst hze
  exact .tuple [] _ rfl fun i x v h=>by simp at h
 | cons z0 r=>
  cases r with
  | nil=>
   cases us with
   | nil=>simp at h2
   | cons u r=>
    cases r with
    | cons _ _=>simp at h2
    | nil=>
     subst hze
     exact h4 0 _ u rfl rfl
  | cons z1 r=>
   subst hze
   have hne:¬us.toArray.size=1:=by simp[h2]
   rw[dif_neg hne]
   exact .tuple _ _ (by simp[h2]) fun i x v hx hv=>h4 i x v hx (by simpa using hv)
end
theorem acalls_of (hm:P.follows .mixedOrders=true) {f:FuncId} {fn:Func} {af:AFn} {args:List AVal} {m:Mem} {av:List Nat} {K:AVal→Mem→Prop} (hf:P.funcs[f]? = some fn) (hc:cFn P fn=some af)
 (h:wpc P af.body (retK af.results K) ⟨args++List.replicate (af.ntmps - args.length) aundef,m⟩):ACalls P f args m av K:=by
 unfold cFn at hc
 cases hb:fn.body with
 | none=>simp[hb]at hc
 | some c=>
  cases hrs:cResults P fn.results.toList with
  | none=>simp[hb,hrs]at hc
  | some rs=>
   simp only[hb,hrs]at hc
   split at hc<;>first|(cases hc; done)|skip
   rename_i hname
   injection hc with hc
   subst hc
   refine⟨⟨fn,hf,by simpa using hname,by rw[hb]; rfl⟩,fun W Φ ρ vs w hr ha hav=>?_⟩
   have ht:RL Φ ρ (args++List.replicate (fn.ntmps - args.length) aundef) (vs++Array.replicate (fn.ntmps - vs.size) undef):=by
    refine⟨by simp[ha.1],fun i x v hx hv=>?_⟩
    rw[List.getElem?_append]at hx
    rw[Array.getElem?_append,ha.1]at hv
    split at hx
    ·rename_i hlt
     rw[if_pos hlt]at hv
     exact ha.2 i x v hx hv
    ·rename_i hge
     rw[if_neg hge]at hv
     have e1:x=aundef:=by
      have:=List.getElem?_eq_some_iff.1 hx
      obtain⟨_,hh⟩:=this
      simpa using hh.symm
     have e2:v=undef:=by
      have:=Array.getElem?_eq_some_iff.1 hv
      obtain⟨_,hh⟩:=this
      simpa using hh.symm
     subst e1; subst e2
     exact R_undef _ _
   have hs:=sound hm c (retK rs K) ⟨_,m⟩ h W Φ ρ { tmps:=vs++Array.replicate (fn.ntmps - vs.size) undef,defers:=[] } w hr ht rfl
   refine calls_of_wp hf hb (wp_mono hs fun e a w' hl=>?_)
   obtain⟨σ,Φ',ρ',h1,h2,h3,h4,h5,h6,h7⟩:=hl
   have fin:(match retA σ.t σ.m rs with|some r=>K r σ.m|none=>False)→a.defers=[] ∧ ∃ v,(results fn a.tmps).run P w'=.ok v w' ∧
    ∃ v' r m' Φ' ρ',Ending.returned v=.returned v'∧Ext Φ ρ Φ' ρ'∧(∀ b,b<m.next→b∉av→ρ b=none→ρ' b=none)∧Rel W Φ' ρ' m' w'∧R Φ' ρ' r v'∧m.next≤m'.next∧K r m':=by
    intro hh
    cases hz:retA σ.t σ.m rs with
    | none=>simp[hz]at hh
    | some r=>
     simp only[hz]at hh
     obtain⟨u,g1,g2⟩:=retA_run h4 h5 hrs hz
     exact⟨h6,u,g1,u,r,σ.m,Φ',ρ',rfl,h1,fun b hb _ h0=>h2 b hb h0,h4,g2,h3,hh⟩
   cases e with
   | normal=>exact fin h7
   | ret=>exact fin h7
   | exit i=>exact h7.elim
   | goto l=>exact h7.elim
   | panic ch=>exact h7.elim
   | outgrown=>exact h7.elim
theorem ACalls.mono {f:FuncId} {args:List AVal} {m:Mem} {av:List Nat} {K K':AVal→Mem→Prop} (h:ACalls P f args m av K) (hk:∀ r m',K r m'→K' r m'):ACalls P f args m av K':=
 ⟨h.1,fun W Φ ρ vs w hr ha hav=>(h.2 W Φ ρ vs w hr ha hav).mono fun e w' he=>by
  obtain⟨v,r,m',Φ',ρ',h1,h2,h3,h4,h5,h6,h7⟩:=he
  exact⟨v,r,m',Φ',ρ',h1,h2,h3,h4,h5,h6,hk _ _ h7⟩⟩
end Go.AE
end
section
namespace Go.AE
open Go.RowKit
inductive Tr (α:Type) where
 | nil
 | node (l:Tr α) (v:Option α) (r:Tr α)
def Tr.get {α:Type}:Tr α→Nat→Option α
 | .nil,_=>none
 | .node l v r,n=>bif Nat.beq n 0 then v else bif Nat.beq (Nat.mod n 2) 1 then l.get (Nat.div n 2)else r.get (Nat.sub (Nat.div n 2) 1)
def Tr.set {α:Type}:Nat→Tr α→Nat→Option α→Tr α
 | 0,t,_,_=>t
 | d+1,.nil,n,x=>bif Nat.beq n 0 then .node .nil x .nil else bif Nat.beq (Nat.mod n 2) 1 then .node (Tr.set d .nil (Nat.div n 2) x) none .nil else .node .nil none (Tr.set d .nil (Nat.sub (Nat.div n 2) 1) x)
 | d+1,.node l v r,n,x=>bif Nat.beq n 0 then .node l x r else bif Nat.beq (Nat.mod n 2) 1 then .node (Tr.set d l (Nat.div n 2) x) v r else .node l v (Tr.set d r (Nat.sub (Nat.div n 2) 1) x)
abbrev depth:Nat:=22
abbrev bound:Nat:=1000000
structure TM where
 tr:Tr ABlk
 next:Nat
def TM.mem (m:TM):Mem:=⟨m.tr.get,m.next⟩
def TM.set (m:TM) (b:Nat) (x:Option ABlk):TM:=⟨m.tr.set depth b x,m.next⟩
def TM.apply (m:TM):List (Nat×Option ABlk)→TM
 | []=>m
 | (b,x) :: r=>(m.set b x).apply r
def evT (t:Tr AVal):AOpd→AVal
 | .tmp i=>match t.get i with
  | some v=>v
  | none=>aundef
 | .const v=>v
 | .fn f=>.func (.func f) [] []
def putT (t:Tr AVal) (d:Option Nat) (v:AVal):Tr AVal:=
 match d with
 | some d=>t.set depth d (some v)
 | none=>t
def wantedT (t:Tr AVal):Option (Nat×Bool)→Option Bool
 | none=>some true
 | some (d,w)=>match evT t (.tmp d)with
  | .bool b=>some (b == w)
  | .tuple []=>some false
  | _=>none
def calleeT (t:Tr AVal) (f:AOpd) (xs:List AOpd):Option (FuncId×List AVal):=
 match evT t f with
 | .func (.func g) first cap=>some (g,first++xs.map (evT t)++cap)
 | _=>none
structure RS where
 t:Tr AVal
 m:TM
 wl:List Nat
def okD:List (Nat×Option ABlk)→Bool
 | []=>true
 | (b,_) :: r=>bif Nat.ble bound b then false else okD r
def okX (id:Nat):List Nat→Bool
 | []=>true
 | c :: r=>bif Nat.ble bound c then false else bif Nat.beq c id then false else okX id r
def addW (lim:Nat) (wl:List Nat):List (Nat×Option ABlk)→List Nat
 | []=>wl
 | (b,_) :: r=>bif Nat.ble lim b then addW lim wl r else addW lim (b :: wl) r
def addL (lim:Nat) (wl:List Nat):List Nat→List Nat
 | []=>wl
 | b :: r=>bif Nat.ble lim b then addL lim wl r else addL lim (b :: wl) r
abbrev Caller:=FuncId→List AVal→TM→Option (AVal×TM×List Nat)
def mem1 (x:Nat):List Nat→Bool
 | []=>false
 | y :: r=>bif Nat.beq x y then true else mem1 x r
def apartB:List Nat→List Nat→Bool
 | [],_=>true
 | x :: r,l=>bif mem1 x l then false else apartB r l
def belowB (n:Nat):List Nat→Bool
 | []=>true
 | x :: r=>bif Nat.ble n x then false else belowB n r
def subB:List Nat→List Nat→Bool
 | [],_=>true
 | x :: r,l=>bif mem1 x l then subB r l else false
def FT.indepB:FT→FT→Bool
 | .ops w r,.ops w' r'=>apartB w (r'++w')&&apartB r w'
 | .ops w r,.call wl x nx=>apartB r wl&&belowB nx r&&apartB w wl&&belowB nx w&&subB w x
 | .call wl x nx,.ops w r=>apartB r wl&&belowB nx r&&apartB w wl&&belowB nx w&&subB w x
 | .call _ _ _,.call _ _ _=>false
def indepLB (fs:List FT) (ft:FT):List Nat→Bool
 | []=>true
 | i :: r=>FT.indepB (fs.getD i (.ops [] [])) ft&&indepLB fs ft r
def runP (call:Caller) (lim base:Nat):List AOper→Nat→RS→Option RS
 | [],_,s=>some s
 | o :: r,i,s=>
  match wantedT s.t o.guard with
  | some false=>runP call lim base r (i+1) { s with t:=putT s.t o.dst aundef }
  | some true=>
   match o.op with
   | .call f xs=>match calleeT s.t f xs with
    | some (g,args)=>match call g args s.m with
     | some (v,m',wl)=>runP call lim base r (i+1) ⟨putT s.t o.dst v,m',addL lim s.wl wl⟩
     | none=>none
    | none=>none
   | op=>match stepD (base+i) (evT s.t) s.m.tr.get op with
    | some (v,[])=>runP call lim base r (i+1) ⟨putT s.t o.dst v,s.m,s.wl⟩
    | some (v,d)=>bif okD d then runP call lim base r (i+1) ⟨putT s.t o.dst v,s.m.apply d,addW lim s.wl d⟩ else none
    | none=>none
  | none=>none
def laterX (base i:Nat):List AOper→Nat→List Nat
 | [],_=>[]
 | o :: r,j=>bif mem1 i o.un then (base+j) :: laterX base i r (j+1)else laterX base i r (j+1)
def lessT (m:TM):List Nat→TM
 | []=>m
 | c :: r=>lessT (m.set c none) r
def backT (m0:TM):TM→List Nat→TM
 | m,[]=>m
 | m,c :: r=>backT m0 (m.set c (m0.tr.get c)) r
def noneT (m:TM):List Nat→Bool
 | []=>true
 | c :: r=>match m.tr.get c with
  | none=>noneT m r
  | some _=>false
def footWD (id:Nat) (e:AOpd→AVal):AOp→List Nat
 | .append _ _ _ s _=>id :: blkOf (e s)
 | .copy _ d _=>blkOf (e d)
 | .store _ a _=>blkOf (e a)
 | .mapUpd _ m _ _=>blkOf (e m)
 | .clear _ _ x=>blkOf (e x)
 | .box _ | .alloc _ | .mkSl _ _ _ _ | .mkMap | .makeSl _ _ _ _ _=>[id]
 | _=>[]
def footRD (e:AOpd→AVal):AOp→List Nat
 | .append _ _ _ _ x=>blkOf (e x)
 | .copy _ _ s=>blkOf (e s)
 | .load _ x | .toStr x | .lookup _ _ _ x _ | .lenMap x | .slSl _ x _ _ _ | .idxA _ x _=>blkOf (e x)
 | _=>[]
def runD (call:Caller) (lim base:Nat):List AOper→List FT→RS→Option RS
 | [],_,s=>some s
 | o :: r,fs,s=>
  match wantedT s.t o.guard with
  | some false=>runD call lim base r (fs++[.ops [] []]) { s with t:=putT s.t o.dst aundef }
  | some true=>
   match o.op with
   | .call f xs=>match calleeT s.t f xs with
    | some (g,args)=>
     let x:=o.un.map (base + ·)++laterX base fs.length r (fs.length+1)
     match call g args (lessT s.m x)with
     | some (v,m',wl)=>bif indepLB fs (.call wl x s.m.next) o.un&&okX (base+fs.length) x&&noneT m' x then runD call lim base r (fs++[.call wl x s.m.next]) ⟨putT s.t o.dst v,backT s.m m' x,addL lim s.wl wl⟩ else none
     | none=>none
    | none=>none
   | op=>match stepD (base+fs.length) (evT s.t) s.m.tr.get op with
    | some (v,d)=>
     let ft:=FT.ops (footWD (base+fs.length) (evT s.t) op) (footRD (evT s.t) op)
     bif indepLB fs ft o.un&&okD d then runD call lim base r (fs++[ft]) ⟨putT s.t o.dst v,s.m.apply d,addW lim s.wl d⟩ else none
    | none=>none
  | none=>none
inductive REnd where
 | normal
 | exit (n:Nat)
 | ret
def runC (call:Caller) (lim:Nat):Nat→ACode→RS→Option (REnd×RS)
 | 0,_,_=>none
 | f+1,c,s=>
  match c with
  | .skip | .label _=>some (.normal,s)
  | .region false ops=>
   bif Nat.ble (s.m.next+ops.length) bound then match runP call lim s.m.next ops 0 ⟨s.t,⟨s.m.tr,s.m.next+ops.length⟩,s.wl⟩ with
    | some s'=>some (.normal,s')
    | none=>none
   else none
  | .region true ops=>
   bif Nat.ble (s.m.next+ops.length) bound then match runD call lim s.m.next ops [] ⟨s.t,⟨s.m.tr,s.m.next+ops.length⟩,s.wl⟩ with
    | some s'=>some (.normal,s')
    | none=>none
   else none
  | .seq a b=>match runC call lim f a s with
   | some (.normal,s')=>runC call lim f b s'
   | r=>r
  | .cond c a b=>match evT s.t c with
   | .bool true=>runC call lim f a s
   | .bool false=>runC call lim f b s
   | _=>none
  | .block id c=>match runC call lim f c s with
   | some (.exit n,s')=>bif Nat.beq n id then some (.normal,s')else some (.exit n,s')
   | r=>r
  | .loop c=>match runC call lim f c s with
   | some (.normal,s')=>runC call lim f (.loop c) s'
   | r=>r
  | .exit n=>some (.exit n,s)
  | .scope c=>runC call lim f c s
  | .ret=>some (.ret,s)
  | .bad=>none
def resOneT (t:Tr AVal) (m:TM):Nat×Option (Option Nat)→Option AVal
 | (i,none)=>some (evT t (.tmp i))
 | (i,some n)=>loadD m.tr.get n (evT t (.tmp i))
def resAllT (t:Tr AVal) (m:TM):List (Nat×Option (Option Nat))→Option (List AVal)
 | []=>some []
 | x :: r=>match resOneT t m x,resAllT t m r with
  | some y,some ys=>some (y :: ys)
  | _,_=>none
def retT (t:Tr AVal) (m:TM):List (Nat×Option (Option Nat))→Option AVal
 | [x]=>resOneT t m x
 | xs=>match resAllT t m xs with
  | some ys=>some (.tuple ys)
  | none=>none
def argsT:Tr AVal→Nat→List AVal→Tr AVal
 | t,_,[]=>t
 | t,i,x :: r=>argsT (t.set depth i (some x)) (i+1) r
def runF (tab:Nat→Option AFn) (orc:Caller):Nat→Caller
 | 0,_,_,_=>none
 | f+1,g,args,m=>
  match orc g args m with
  | some r=>some r
  | none=>match tab g with
   | some af=>bif Nat.ble args.length af.ntmps then match runC (runF tab orc f) m.next 1000 af.body ⟨argsT .nil 0 args,m,[]⟩ with
    | some (.exit _,_)=>none
    | some (_,s)=>match retT s.t s.m af.results with
     | some v=>some (v,s.m,s.wl)
     | none=>none
    | none=>none
    else none
   | none=>none
def dstOk (n:Nat):ACode→Bool
 | .region _ ops=>ops.all fun o=>match o.dst with
  | some d=>decide (d<n)
  | none=>true
 | .seq a b | .cond _ a b=>dstOk n a&&dstOk n b
 | .block _ c | .loop c | .scope c=>dstOk n c
 | _=>true
end Go.AE
end
