/- Part 8 of the proof: AeX, AeY, AeRun. -/
import Derived.Test.YtggclbeocekgkaaGreatDoorP3
import Derived.Test.YtggclbeocekgkaaGreatDoorP7
set_option linter.all false
section
namespace Go.AE
open Go.RowKit
variable {P:Program}
theorem uq{ops:Array Oper}{asz:List Af}{Bh:List (List Nat)}(h:SN ops asz Bh=true) :
 (∀(i:Nat) (o:Oper),ops[i]? = some o → ∀ e,e∈o.after.toList→Region.binds .any e=true→e.on<i) ∧
 ∀(i j:Nat) (x y:Af),j<i→i<ops.size→asz[i]? = some x→asz[j]? = some y→j∉Bh.getD i []→y.apart x=true:=by
 unfold SN at h;simp only[bA,List.all_eq_true,mR]at h;obtain⟨h1,h2⟩:=h;refine⟨fun i o ho e he hb=>?_,fun i j x y hji hi hx hy hp=>?_⟩
 ·have hi:i<ops.size:=(Array.getElem?_eq_some_iff.1 ho).1;have:=h1 i hi;rw[ho]at this;simp only[List.all_eq_true,Bool.or_eq_true,Bool.not_eq_true',decide_eq_true_eq]at this;rcases this e he with h|h
  ·rw[hb]at h; cases h
  ·exact h
 ·have:=h2 i hi j hji;simp only[Bool.or_eq_true,List.contains_iff_mem]at this;rcases this with h|h
  ·exact absurd h hp
  ·rw[hx,hy]at h;exact h
theorem Z8a{x y:Af}(h:x.apart y=true):(∀ d,x.dst=some d→d∉y.looks∧y.dst≠some d) ∧ ∀ d,y.dst=some d→d∉x.looks:=by
 unfold Af.apart at h;simp only[bA]at h;obtain⟨h1,h2⟩:=h;refine⟨fun d hd=>?_,fun d hd=>?_⟩
 ·rw[hd]at h1;simp only[bA,Bool.not_eq_true',bne_iff_ne]at h1;exact⟨fun hm=>by rw[List.contains_iff_mem.2 hm]at h1; exact absurd h1.1 (by simp),h1.2⟩
 ·rw[hd]at h2;simp only[Bool.not_eq_true']at h2;exact fun hm=>by rw[List.contains_iff_mem.2 hm]at h2; cases h2
theorem XT{id:Nat}{ops:Array Oper}{Q:Exit→AY→Prop}{σ:AY}(h:BU P (Y4 P (.region id ops true)) Q σ){W:AA}{Φ:Ao}{ρ:AD}{a:Act}{w:World}(hr:Rel W Φ ρ σ.m w)(ht:RL Φ ρ σ.t a.tmps)(hd:a.defers=[]) :
 wpAny P .any ops (J7 W Φ ρ σ.m.next Q) ops.size (Array.replicate ops.size false) a { w with drawn:=w.drawn+1 }:=by
 simp only[Y4]at h;cases hc:F2 P ops ops.toList with
 | none=>simp[hc,BU]at h
 | some as0=>
  simp only[hc]at h;split at h
  ·rename_i hok;simp only[BU]at h;obtain⟨h1,h2⟩:=Tl P ops _ _ hc;obtain⟨hlt,hap⟩:=uq hok;generalize has:EW as0 (Hv ops.toList) 0 as0=asz at h;have hlen:asz.length=ops.size:=by rw[← has,yE,h1]; simp
   have hget:∀ (i:Nat) (b:Af),asz[i]? = some b → ∃ b0,as0[i]? = some b0∧b=⟨b0.dst,b0.op,b0.guard,Xt as0 (Hv ops.toList) i b0.op⟩:=by
    intro i b hb;rw[← has,xG,Nat.zero_add]at hb;cases h0:as0[i]? with
    | none=>rw[h0]at hb; cases hb
    | some b0=>
     rw[h0]at hb;injection hb with hb
     exact⟨b0,rfl,hb.symm⟩
   obtain⟨T,M,V,F,htr,hQ⟩:=Z6t h;have hlo:MB asz F (Hv ops.toList):=by
    refine⟨fun i j x y hji hx hy hp=>?_,fun i j x y hji hx hy hp=>?_⟩
    ·obtain⟨x0,hx0,rfl⟩:=hget i x hx;obtain⟨y0,hy0,rfl⟩:=hget j y hy;have hi:i<ops.size:=by rw[← hlen]; exact(gS.1 hx).1
     exact Z8a (hap i j x0 y0 hji hi hx0 hy0 hp)
    ·obtain⟨_,_,_,hky,hky1⟩:=WU htr hy;obtain⟨_,_,_,hkx,hkx1⟩:=WU htr hx;have quietL:F j=.ops [] []→(∀ c,(F j).W c=true→(F i).R c=false∧(F i).W c=false)∧(∀ c,(F j).R c=true→(F i).W c=false)∧((F j).Dp=true→(F i).Dp=false):=by
      intro e; rw[e];exact⟨fun c hc=>(by cases hc),fun c hc=>(by cases hc),fun hc=>(by cases hc)⟩
     have quietR:F i=.ops [] []→(∀ c,(F j).W c=true→(F i).R c=false∧(F i).W c=false)∧(∀ c,(F j).R c=true→(F i).W c=false)∧((F j).Dp=true→(F i).Dp=false):=by
      intro e; rw[e];exact⟨fun c _=>⟨rfl,rfl⟩,fun c _=>rfl,fun _=>rfl⟩
     by_cases hk:y.op.kind≤1∧x.op.kind≤1
     ·refine⟨fun c hc=>?_,fun c _=>hkx1 hk.2 c,fun hc=>?_⟩
      ·rw[hky1 hk.1 c]at hc; cases hc
      ·cases hq:(F i).Dp with
       | false=>rfl
       | true=>
        cases hF:F i with
        | ops w r=>rw[hF]at hq; cases hq
        | call wl xx nx=>
         have:=hkx1 hk.2 nx;rw[hF]at this;simp[FT.W]at this
     ·by_cases hy0:y.op.kind=0
      ·exact quietL (hky hy0)
      ·by_cases hx0:x.op.kind=0
       ·exact quietR (hkx hx0)
       ·obtain⟨_,hs⟩:=htr.step i x hx;rcases hs with⟨_,_,_,hF⟩|⟨_,hun,_⟩
        ·exact quietR hF
        ·refine FT.FV (hun j ?_ hji);obtain⟨x1,hx1,rfl⟩:=hget i x hx;obtain⟨y1,hy1,rfl⟩:=hget j y hy;simp only at hk hy0 hx0 ⊢;unfold Xt;rw[List.mem_filter,mR];refine⟨hji,?_⟩;rw[hy1];simp only[bA,Bool.not_eq_true',bne_iff_ne,ne_eq];refine⟨?_,⟨?_,hy0⟩,hx0⟩
         ·cases hq:((Hv ops.toList).getD i []).contains j with
          | false=>rfl
          | true=>exact absurd (List.contains_iff_mem.1 hq) hp
         ·cases hq:(decide (y1.op.kind≤1)&&decide (x1.op.kind≤1))with
          | false=>rfl
          | true=>simp at hq; exact absurd hq hk
   have hres:∀ (i:Nat) (o:Oper) (b:Af),ops[i]? = some o→asz[i]? = some b→b.dst=o.dst∧b.op=O9 P o∧C1 ops o.guard=some b.guard:=by
    intro i o b ho hb;obtain⟨b0,hb0,rfl⟩:=hget i b hb;exact h2 i o b0 (by simpa using ho) hb0
   refine Z94 W σ.m.next Q Φ ρ (lR _) hlen hres hlt (fun i j o ho hj=>Z2y (by simpa using ho) hj) htr hlo hQ (by simp) ops.size (Array.replicate ops.size false) σ.t _ Φ ρ a _
    (by simp) ?_ ?_ ?_ ((hr.at_ (n:=σ.m.next+asz.length) (by omega)).drew) ht hd (.refl _ _) (.refl _ _) ?_
   ·have:=List.length_filter_le (fun j=>!(Array.replicate ops.size false).getD j false) (List.range ops.size)
    simpa using this
   ·intro i j hi;simp[Array.getD]at hi
   ·refine SQ oE fun j _=>?_
    simp[Array.getD]
   ·intro j _ _;cases hq:ρ (σ.m.next+j)with
    | none=>rfl
    | some l=>have:=hr.fresh _ _ hq; omega
  ·simp[BU]at h
theorem bM(hm:P.follows .mixedOrders=true){id:Nat}{ops:Array Oper}{Q:Exit→AY→Prop}{σ:AY}(h:BU P (Y4 P (.region id ops true)) Q σ):DI P (.region id ops true) Q σ:=
 fun _ _ _ _ _ hr ht hd=>wp_region_any hm (XT h hr ht hd)
theorem xO(hm:P.follows .mixedOrders=true)(c:Code)(Q:Exit→AY→Prop)(σ:AY)(h:BU P (Y4 P c) Q σ):DI P c Q σ:=
 Z9u (fun _ _ draw _ _ h=>match draw,h with|false,h=>vH h|true,h=>bM hm h) c Q σ h
end Go.AE
end
section
namespace Go.AE
open Go.RowKit
variable {P:Program}
def D5(t:List Aa)(m:Mem):Nat×Option (Option Nat)→Option Aa
 | (i,none)=>some (t.getD i Ag)
 | (i,some n)=>LC m n (t.getD i Ag)
def F5(t:List Aa)(m:Mem):List (Nat×Option (Option Nat))→Option (List Aa)
 | []=>some []
 | x :: r=>match D5 t m x,F5 t m r with
  | some y,some ys=>some (y :: ys)
  | _,_=>none
def N5(t:List Aa)(m:Mem):List (Nat×Option (Option Nat))→Option Aa
 | [x]=>D5 t m x
 | xs=>match F5 t m xs with
  | some ys=>some (.tuple ys)
  | none=>none
def FZ(rs:List (Nat×Option (Option Nat)))(K:Aa→Mem→Prop):Exit→AY→Prop
 | .normal,σ=>match N5 σ.t σ.m rs with
  | some r=>K r σ.m
  | none=>False
 | .ret,σ=>match N5 σ.t σ.m rs with
  | some r=>K r σ.m
  | none=>False
 | _,_=>False
section
variable {W:AA} {Φ:Ao} {ρ:AD} {w:World} {m:Mem} {t:List Aa} {vs:Array Value}
theorem Z2s(hr:Rel W Φ ρ m w)(ht:RL Φ ρ t vs){x:ResultVar}{y:Nat×Option (Option Nat)}(hx:SP P x=some y){z:Aa}(hz:D5 t m y=some z) :
 ∃ u,(match x with | .tmp t=>pure (vs.getD t undef) | .cell a t=>do loadVar t (← asAddr (vs.getD a undef)):Sem Value).run P w=.ok u w∧R Φ ρ z u:=by
 cases x with
 | tmp i=>
  simp only[SP,oI]at hx;subst hx;simp only[D5,oI]at hz;subst hz;exact⟨_,rfl,ht.get i⟩
 | cell a ty=>
  simp only[SP,mO]at hx;obtain⟨n,hn,rfl⟩:=hx;simp only[D5]at hz;have hR:=ht.get a;obtain⟨u,h1,h2⟩:=pP hr hR hn hz;refine⟨u,?_,h2⟩;unfold LC at hz;cases hrow:rowAt m (t.getD a Ag)with
  | none=>rw[hrow]at hz; cases hz
  | some rj=>
   obtain⟨row,j⟩:=rj;obtain⟨B,o,c,e,fz,hv,hB,_⟩:=bO hr hR hrow;simp only[hv,Instr.loadAt,Instr.sureAddr,Sem.run_bind,Sem.run_pure,Result.andThen_ok,asAddr]at h1 ⊢;exact h1
def SZ(vs:Array Value)(x:ResultVar):Sem Value:=
 match x with
 | .tmp t=>pure (vs.getD t undef)
 | .cell a t=>do loadVar t (← asAddr (vs.getD a undef))
theorem tO(hr:Rel W Φ ρ m w)(ht:RL Φ ρ t vs):∀ (xs:List ResultVar) (ys:List (Nat×Option (Option Nat))) (zs:List Aa),Ka P xs=some ys→F5 t m ys=some zs →
 ∃ us:List Value,(xs.mapM (SZ vs)).run P w=.ok us w∧us.length=zs.length∧zs.length=ys.length ∧ ∀(i:Nat) (z:Aa) (u:Value),zs[i]? = some z→us[i]? = some u→R Φ ρ z u
 | [],ys,zs,hx,hz=>by
  simp only[Ka,oI]at hx;subst hx;simp only[F5,oI]at hz;subst hz;exact⟨[],rfl,rfl,rfl,fun i z u h=>by simp at h⟩
 | x :: xs,ys,zs,hx,hz=>by
  simp only[Ka]at hx;cases hy:SP P x with
  | none=>simp[hy]at hx
  | some y=>
   cases hys:Ka P xs with
   | none=>simp[hy,hys]at hx
   | some ys'=>
    simp only[hy,hys,oI]at hx;subst hx;simp only[F5]at hz;cases Gu:D5 t m y with
    | none=>simp[Gu]at hz
    | some z=>
     cases hz2:F5 t m ys' with
     | none=>simp[Gu,hz2]at hz
     | some zs'=>
      simp only[Gu,hz2,oI]at hz;subst hz;obtain⟨u,h1,h2⟩:=Z2s hr ht hy Gu;obtain⟨us,h3,h4,h5,h6⟩:=tO hr ht xs ys' zs' hys hz2;refine⟨u :: us,?_,by simp[h4],by simp[h5],fun i z' u' hz' Dv=>?_⟩
      ·rw[List.mapM_cons];have h1':(SZ vs x).run P w=.ok u w:=h1;simp only[Sem.run_bind,h1',h3,Result.andThen_ok,Sem.run_pure]
      ·cases i with
       | zero=>
        simp only[List.getElem?_cons_zero,oI]at hz' Dv;subst hz'; subst Dv;exact h2
       | succ i=>
        simp only[List.getElem?_cons_succ]at hz' Dv;exact h6 i z' u' hz' Dv
theorem Tn(hr:Rel W Φ ρ m w)(ht:RL Φ ρ t vs){fn:Func}{ys:List (Nat×Option (Option Nat))}{z:Aa}(hx:Ka P fn.results.toList=some ys)(hz:N5 t m ys=some z) :
 ∃ u,(results fn vs).run P w=.ok u w∧R Φ ρ z u:=by
 have hrun:∀ us:List Value,(fn.results.toList.mapM (SZ vs)).run P w=.ok us w→(results fn vs).run P w=.ok (if h:us.toArray.size=1 then us.toArray[0]else .tuple us.toArray) w:=by
  intro us h;have he:results fn vs=(do let us ← fn.results.mapM (SZ vs); pure (if h:us.size=1 then us[0]else .tuple us):Sem Value):=by
   unfold results;have:(fun x:ResultVar=>(match x with | .tmp t=>pure (vs.getD t undef) | .cell a t=>do loadVar t (← asAddr (vs.getD a undef)):Sem Value))=SZ vs:=by
    funext x; cases x<;>rfl
   rw[← this];rfl
  rw[he,Array.mapM_eq_mapM_toList];simp only[Sem.run_bind,Sem.run_map,h,Result.andThen_ok,Sem.run_pure]
 have hz':∃ zs,F5 t m ys=some zs∧(z=match zs with|[x]=>x|_=>.tuple zs):=by
  unfold N5 at hz;split at hz
  ·rename_i x;exact⟨[z],by simp[F5,hz],rfl⟩
  ·split at hz<;>first|(cases hz; done)|skip
   rename_i hne _ zs hzs;injection hz with hz
   refine⟨zs,hzs,?_⟩;subst hz;cases zs with
   | nil=>rfl
   | cons a r=>
    cases r with
    | nil=>
     exfalso;have hl:ys.length=1:=by
      have:∀ (l:List (Nat×Option (Option Nat))) (zs:List Aa),F5 t m l=some zs→zs.length=l.length:=by
       intro l
       induction l with
       | nil=>intro zs h; simp only[F5,oI]at h; subst h; rfl
       | cons x l ih=>
        intro zs h;simp only[F5]at h;split at h<;>first|(cases h; done)|skip
        rename_i y ys h1 h2;injection h with h; subst h
        simp[ih _ h2]
      simpa using (this _ _ hzs).symm
     cases ys with
     | nil=>simp at hl
     | cons y r=>cases r with
      | nil=>exact hne y rfl
      | cons _ _=>simp at hl
    | cons b r=>rfl
 obtain⟨zs,hzs,hze⟩:=hz';obtain⟨us,h1,h2,h3,h4⟩:=tO hr ht _ _ zs hx hzs;refine⟨_,hrun us h1,?_⟩;cases zs with
 | nil=>
  have:us=[]:=by simpa using h2
  subst this;subst hze;exact .tuple [] _ rfl fun i x v h=>by simp at h
 | cons z0 r=>
  cases r with
  | nil=>
   cases us with
   | nil=>simp at h2
   | cons u r=>
    cases r with
    | cons _ _=>simp at h2
    | nil=>
     subst hze;exact h4 0 _ u rfl rfl
  | cons z1 r=>
   subst hze;have hne:¬us.toArray.size=1:=by simp[h2]
   rw[dif_neg hne];exact .tuple _ _ (by simp[h2]) fun i x v hx hv=>h4 i x v hx (by simpa using hv)
end
theorem Z62(hm:P.follows .mixedOrders=true){f:FuncId}{fn:Func}{af:As}{args:List Aa}{m:Mem}{av:List Nat}{K:Aa→Mem→Prop}(hf:P.funcs[f]? = some fn)(hc:AS P fn=some af)
 (h:BU P af.body (FZ af.results K) ⟨args++List.replicate (af.ntmps - args.length) Ag,m⟩):Au P f args m av K:=by
 unfold AS at hc;cases hb:fn.body with
 | none=>simp[hb]at hc
 | some c=>
  cases CB:Ka P fn.results.toList with
  | none=>simp[hb,CB]at hc
  | some rs=>
   simp only[hb,CB]at hc;split at hc<;>first|(cases hc; done)|skip
   rename_i hname;injection hc with hc
   subst hc;refine⟨⟨fn,hf,by simpa using hname,by rw[hb]; rfl⟩,fun W Φ ρ vs w hr ha CN=>?_⟩
   have ht:RL Φ ρ (args++List.replicate (fn.ntmps - args.length) Ag) (vs++Array.replicate (fn.ntmps - vs.size) undef):=by
    refine⟨by simp[ha.1],fun i x v hx hv=>?_⟩
    rw[List.getElem?_append]at hx;rw[Array.getElem?_append,ha.1]at hv;split at hx
    ·rename_i hlt;rw[iP hlt]at hv;exact ha.2 i x v hx hv
    ·rename_i hge;rw[iN hge]at hv;have e1:x=Ag:=by
      have:=gS.1 hx;obtain⟨_,hh⟩:=this;simpa using hh.symm
     have e2:v=undef:=by
      have:=Array.getElem?_eq_some_iff.1 hv;obtain⟨_,hh⟩:=this;simpa using hh.symm
     subst e1; subst e2;exact GM _ _
   have hs:=xO hm c (FZ rs K) ⟨_,m⟩ h W Φ ρ { tmps:=vs++Array.replicate (fn.ntmps - vs.size) undef,defers:=[] } w hr ht rfl;refine calls_of_wp hf hb (wp_mono hs fun e a w' hl=>?_)
   obtain⟨σ,Ar,ρ',h1,h2,h3,h4,h5,h6,h7⟩:=hl;have fin:(match N5 σ.t σ.m rs with|some r=>K r σ.m|none=>False)→a.defers=[] ∧ ∃ v,(results fn a.tmps).run P w'=.ok v w' ∧
    ∃ v' r m' Ar ρ',Ending.returned v=.returned v'∧Ext Φ ρ Ar ρ'∧(∀ b,b<m.next→b∉av→ρ b=none→ρ' b=none)∧Rel W Ar ρ' m' w'∧R Ar ρ' r v'∧m.next≤m'.next∧K r m':=by
    intro hh;cases hz:N5 σ.t σ.m rs with
    | none=>simp[hz]at hh
    | some r=>
     simp only[hz]at hh;obtain⟨u,g1,g2⟩:=Tn h4 h5 CB hz;exact⟨h6,u,g1,u,r,σ.m,Ar,ρ',rfl,h1,fun b hb _ h0=>h2 b hb h0,h4,g2,h3,hh⟩
   cases e with
   | normal=>exact fin h7
   | ret=>exact fin h7
   | exit i=>exact h7.elim
   | goto l=>exact h7.elim
   | panic ch=>exact h7.elim
   | outgrown=>exact h7.elim
theorem Au.mono{f:FuncId}{args:List Aa}{m:Mem}{av:List Nat}{K K':Aa→Mem→Prop}(h:Au P f args m av K)(hk:∀ r m',K r m'→K' r m'):Au P f args m av K':=
 ⟨h.1,fun W Φ ρ vs w hr ha CN=>(h.2 W Φ ρ vs w hr ha CN).mono fun e w' he=>by
  obtain⟨v,r,m',Ar,ρ',h1,h2,h3,h4,h5,h6,h7⟩:=he;exact⟨v,r,m',Ar,ρ',h1,h2,h3,h4,h5,h6,hk _ _ h7⟩⟩
end Go.AE
end
section
namespace Go.AE
open Go.RowKit
inductive Tr (α:Type) where
 | nil
 | node (l:Tr α) (v:Option α) (r:Tr α)
def Tr.get{α:Type}:Tr α→Nat→Option α
 | .nil,_=>none
 | .node l v r,n=>bif Nat.beq n 0 then v else bif Nat.beq (Nat.mod n 2) 1 then l.get (Nat.div n 2)else r.get (Nat.sub (Nat.div n 2) 1)
def Tr.set{α:Type}:Nat→Tr α→Nat→Option α→Tr α
 | 0,t,_,_=>t
 | d+1,.nil,n,x=>bif Nat.beq n 0 then .node .nil x .nil else bif Nat.beq (Nat.mod n 2) 1 then .node (Tr.set d .nil (Nat.div n 2) x) none .nil else .node .nil none (Tr.set d .nil (Nat.sub (Nat.div n 2) 1) x)
 | d+1,.node l v r,n,x=>bif Nat.beq n 0 then .node l x r else bif Nat.beq (Nat.mod n 2) 1 then .node (Tr.set d l (Nat.div n 2) x) v r else .node l v (Tr.set d r (Nat.sub (Nat.div n 2) 1) x)
abbrev depth:Nat:=22
abbrev bound:Nat:=1000000
structure TM where
 tr:Tr Ai
 next:Nat
def TM.mem(m:TM):Mem:=⟨m.tr.get,m.next⟩
def TM.set(m:TM)(b:Nat)(x:Option Ai):TM:=⟨m.tr.set depth b x,m.next⟩
def TM.apply(m:TM):List (Nat×Option Ai)→TM
 | []=>m
 | (b,x) :: r=>(m.set b x).apply r
def Ch(t:Tr Aa):Ah→Aa
 | .tmp i=>match t.get i with
  | some v=>v
  | none=>Ag
 | .const v=>v
 | .fn f=>.func (.func f) [] []
def R3(t:Tr Aa)(d:Option Nat)(v:Aa):Tr Aa:=
 match d with
 | some d=>t.set depth d (some v)
 | none=>t
def MM(t:Tr Aa):Option (Nat×Bool)→Option Bool
 | none=>some true
 | some (d,w)=>match Ch t (.tmp d)with
  | .bool b=>some (b == w)
  | .tuple []=>some false
  | _=>none
def MK(t:Tr Aa)(f:Ah)(xs:List Ah):Option (FuncId×List Aa):=
 match Ch t f with
 | .func (.func g) first cap=>some (g,first++xs.map (Ch t)++cap)
 | _=>none
structure RS where
 t:Tr Aa
 m:TM
 wl:List Nat
def FB:List (Nat×Option Ai)→Bool
 | []=>true
 | (b,_) :: r=>bif Nat.ble bound b then false else FB r
def UU(id:Nat):List Nat→Bool
 | []=>true
 | c :: r=>bif Nat.ble bound c then false else bif Nat.beq c id then false else UU id r
def EG(lim:Nat)(wl:List Nat):List (Nat×Option Ai)→List Nat
 | []=>wl
 | (b,_) :: r=>bif Nat.ble lim b then EG lim wl r else EG lim (b :: wl) r
def FO(lim:Nat)(wl:List Nat):List Nat→List Nat
 | []=>wl
 | b :: r=>bif Nat.ble lim b then FO lim wl r else FO lim (b :: wl) r
abbrev AP:=FuncId→List Aa→TM→Option (Aa×TM×List Nat)
def K2(x:Nat):List Nat→Bool
 | []=>false
 | y :: r=>bif Nat.beq x y then true else K2 x r
def LU:List Nat→List Nat→Bool
 | [],_=>true
 | x :: r,l=>bif K2 x l then false else LU r l
def Oa(n:Nat):List Nat→Bool
 | []=>true
 | x :: r=>bif Nat.ble n x then false else Oa n r
def Jb:List Nat→List Nat→Bool
 | [],_=>true
 | x :: r,l=>bif K2 x l then Jb r l else false
def FT.FU:FT→FT→Bool
 | .ops w r,.ops w' r'=>LU w (r'++w')&&LU r w'
 | .ops w r,.call wl x nx=>LU r wl&&Oa nx r&&LU w wl&&Oa nx w&&Jb w x
 | .call wl x nx,.ops w r=>LU r wl&&Oa nx r&&LU w wl&&Oa nx w&&Jb w x
 | .call _ _ _,.call _ _ _=>false
def Ni(fs:List FT)(ft:FT):List Nat→Bool
 | []=>true
 | i :: r=>FT.FU (fs.getD i (.ops [] [])) ft&&Ni fs ft r
def C6(call:AP)(lim base:Nat):List Af→Nat→RS→Option RS
 | [],_,s=>some s
 | o :: r,i,s=>
  match MM s.t o.guard with
  | some false=>C6 call lim base r (i+1) { s with t:=R3 s.t o.dst Ag }
  | some true=>
   match o.op with
   | .call f xs=>match MK s.t f xs with
    | some (g,args)=>match call g args s.m with
     | some (v,m',wl)=>C6 call lim base r (i+1) ⟨R3 s.t o.dst v,m',FO lim s.wl wl⟩
     | none=>none
    | none=>none
   | op=>match Y6 (base+i) (Ch s.t) s.m.tr.get op with
    | some (v,[])=>C6 call lim base r (i+1) ⟨R3 s.t o.dst v,s.m,s.wl⟩
    | some (v,d)=>bif FB d then C6 call lim base r (i+1) ⟨R3 s.t o.dst v,s.m.apply d,EG lim s.wl d⟩ else none
    | none=>none
  | none=>none
def VA(base i:Nat):List Af→Nat→List Nat
 | [],_=>[]
 | o :: r,j=>bif K2 i o.un then (base+j) :: VA base i r (j+1)else VA base i r (j+1)
def B1(m:TM):List Nat→TM
 | []=>m
 | c :: r=>B1 (m.set c none) r
def JD(m0:TM):TM→List Nat→TM
 | m,[]=>m
 | m,c :: r=>JD m0 (m.set c (m0.tr.get c)) r
def Sy(m:TM):List Nat→Bool
 | []=>true
 | c :: r=>match m.tr.get c with
  | none=>Sy m r
  | some _=>false
def T3(id:Nat)(e:Ah→Aa):AU→List Nat
 | .append _ _ _ s _=>id :: W2 (e s)
 | .copy _ d _=>W2 (e d)
 | .store _ a _=>W2 (e a)
 | .Bx _ m _ _=>W2 (e m)
 | .clear _ _ x=>W2 (e x)
 | .box _ | .alloc _ | .CO _ _ _ _ | .mkMap | .Cb _ _ _ _ _=>[id]
 | _=>[]
def T2(e:Ah→Aa):AU→List Nat
 | .append _ _ _ _ x=>W2 (e x)
 | .copy _ _ s=>W2 (e s)
 | .load _ x | .toStr x | .lookup _ _ _ x _ | .Cp x | .DU _ x _ _ _ | .BZ _ x _=>W2 (e x)
 | _=>[]
def A3(call:AP)(lim base:Nat):List Af→List FT→RS→Option RS
 | [],_,s=>some s
 | o :: r,fs,s=>
  match MM s.t o.guard with
  | some false=>A3 call lim base r (fs++[.ops [] []]) { s with t:=R3 s.t o.dst Ag }
  | some true=>
   match o.op with
   | .call f xs=>match MK s.t f xs with
    | some (g,args)=>
     let x:=o.un.map (base + ·)++VA base fs.length r (fs.length+1)
     match call g args (B1 s.m x)with
     | some (v,m',wl)=>bif Ni fs (.call wl x s.m.next) o.un&&UU (base+fs.length) x&&Sy m' x then A3 call lim base r (fs++[.call wl x s.m.next]) ⟨R3 s.t o.dst v,JD s.m m' x,FO lim s.wl wl⟩ else none
     | none=>none
    | none=>none
   | op=>match Y6 (base+fs.length) (Ch s.t) s.m.tr.get op with
    | some (v,d)=>
     let ft:=FT.ops (T3 (base+fs.length) (Ch s.t) op) (T2 (Ch s.t) op)
     bif Ni fs ft o.un&&FB d then A3 call lim base r (fs++[ft]) ⟨R3 s.t o.dst v,s.m.apply d,EG lim s.wl d⟩ else none
    | none=>none
  | none=>none
inductive BO where
 | normal
 | exit (n:Nat)
 | ret
def R7(call:AP)(lim:Nat):Nat→An→RS→Option (BO×RS)
 | 0,_,_=>none
 | f+1,c,s=>
  match c with
  | .skip | .label _=>some (.normal,s)
  | .region false ops=>
   bif Nat.ble (s.m.next+ops.length) bound then match C6 call lim s.m.next ops 0 ⟨s.t,⟨s.m.tr,s.m.next+ops.length⟩,s.wl⟩ with
    | some s'=>some (.normal,s')
    | none=>none
   else none
  | .region true ops=>
   bif Nat.ble (s.m.next+ops.length) bound then match A3 call lim s.m.next ops [] ⟨s.t,⟨s.m.tr,s.m.next+ops.length⟩,s.wl⟩ with
    | some s'=>some (.normal,s')
    | none=>none
   else none
  | .seq a b=>match R7 call lim f a s with
   | some (.normal,s')=>R7 call lim f b s'
   | r=>r
  | .cond c a b=>match Ch s.t c with
   | .bool true=>R7 call lim f a s
   | .bool false=>R7 call lim f b s
   | _=>none
  | .block id c=>match R7 call lim f c s with
   | some (.exit n,s')=>bif Nat.beq n id then some (.normal,s')else some (.exit n,s')
   | r=>r
  | .loop c=>match R7 call lim f c s with
   | some (.normal,s')=>R7 call lim f (.loop c) s'
   | r=>r
  | .exit n=>some (.exit n,s)
  | .scope c=>R7 call lim f c s
  | .ret=>some (.ret,s)
  | .bad=>none
def Tg(t:Tr Aa)(m:TM):Nat×Option (Option Nat)→Option Aa
 | (i,none)=>some (Ch t (.tmp i))
 | (i,some n)=>J3 m.tr.get n (Ch t (.tmp i))
def Wy(t:Tr Aa)(m:TM):List (Nat×Option (Option Nat))→Option (List Aa)
 | []=>some []
 | x :: r=>match Tg t m x,Wy t m r with
  | some y,some ys=>some (y :: ys)
  | _,_=>none
def C4(t:Tr Aa)(m:TM):List (Nat×Option (Option Nat))→Option Aa
 | [x]=>Tg t m x
 | xs=>match Wy t m xs with
  | some ys=>some (.tuple ys)
  | none=>none
def D0:Tr Aa→Nat→List Aa→Tr Aa
 | t,_,[]=>t
 | t,i,x :: r=>D0 (t.set depth i (some x)) (i+1) r
def Ff(Ds:Nat→Option As)(Gk:AP):Nat→AP
 | 0,_,_,_=>none
 | f+1,g,args,m=>
  match Gk g args m with
  | some r=>some r
  | none=>match Ds g with
   | some af=>bif Nat.ble args.length af.ntmps then match R7 (Ff Ds Gk f) m.next 1000 af.body ⟨D0 .nil 0 args,m,[]⟩ with
    | some (.exit _,_)=>none
    | some (_,s)=>match C4 s.t s.m af.results with
     | some v=>some (v,s.m,s.wl)
     | none=>none
    | none=>none
    else none
   | none=>none
def U9(n:Nat):An→Bool
 | .region _ ops=>ops.all fun o=>match o.dst with
  | some d=>decide (d<n)
  | none=>true
 | .seq a b | .cond _ a b=>U9 n a&&U9 n b
 | .block _ c | .loop c | .scope c=>U9 n c
 | _=>true
end Go.AE
end
