/- Part 35 of the proof: AeNf, AeNg, AeMb, AeNi. -/
import Derived.Test.YtfmnflhggplkmaaGreatDoorU28
import Derived.Test.YtfmnflhggplkmaaGreatDoorU33
import Derived.Test.YtfmnflhggplkmaaGreatDoorU34
set_option linter.all false
section
namespace Go.AE
open Go.RowKit
variable {P:Program}
theorem ctr_P (hm:P.follows .mixedOrders=true) {f:FuncId} {fn:Func} {af:AFn} {args:List AVal} {m:SMem} {Post:AVal→SMem→Prop} (hf:P.funcs[f]? = some fn) (hc:cFn P fn=some af) {nt:Nat} {rs:List (Nat×Option (Option Nat))} {bd:ACode} (hd:af=⟨nt,rs,bd⟩) (hl:Nat.ble args.length nt=true)
 (h:∀ K:AVal→SMem→Prop,(∀ r sm,Post r sm→K r sm)→wpZ P nt m.next bd (retN nt rs (EndK m.next K)) (argE 0 args []) m):Ctr P f args m Post:=
 by subst hd; exact ctr_Z hm hf hc hl (h Post fun _ _ h=>h)
theorem ctr_1 (hm:P.follows .mixedOrders=true) {f:FuncId} {fn:Func} {af:AFn} {args:List AVal} {m:SMem} {v:AVal} {M:SMem} (hf:P.funcs[f]? = some fn) (hc:cFn P fn=some af) {nt:Nat} {rs:List (Nat×Option (Option Nat))} {bd:ACode} (hd:af=⟨nt,rs,bd⟩) (hl:Nat.ble args.length nt=true)
 (h:∀ K:AVal→SMem→Prop,K v M→wpZ P nt m.next bd (retN nt rs (EndK m.next K)) (argE 0 args []) m):Ctr P f args m fun r sm=>r=v∧sm=M:=
 by subst hd; exact ctr_Z hm hf hc hl (h _ ⟨rfl,rfl⟩)
theorem endK {n0:Nat} {K:AVal→SMem→Prop} {v0 v:AVal} {m0 m:SMem} (hK:K v0 m0) (l:List (Nat×Nat)) (h:SubR n0 l [(0,v0)] m0 [(0,v)] m):EndK n0 K v m:=⟨v0,m0,l,h,hK⟩
theorem PCall_1 (hm:P.follows .mixedOrders=true) {f:FuncId} {fn:Func} {af:AFn} {args:List AVal} {v:AVal} (hf:P.funcs[f]? = some fn) (hc:cFn P fn=some af) {nt:Nat} {rs:List (Nat×Option (Option Nat))} {bd:ACode} (hd:af=⟨nt,rs,bd⟩) (hl:Nat.ble args.length nt=true) (hca:closedL args=true)
 (hv:match v with | .int _ _ | .bool _ | .str _=>True|_=>False)
 (h:∀ K:AVal→SMem→Prop,K v ⟨[],1⟩→wpZ P nt 1 bd (retN nt rs (EndK 1 K)) (argE 0 args []) ⟨[],1⟩):PCall P f args v:=by
 refine PCall_ctr (k:=1) hca (by cases v<;>first|exact hv.elim|rfl) ((ctr_1 (m:=⟨[],1⟩) (M:=⟨[],1⟩) hm hf hc hd hl h).mono fun r m' hr=>?_)
 obtain⟨rfl,rfl⟩:=hr
 exact scalar_freeze _ 0 _ hv
theorem PCall_F (hm:P.follows .mixedOrders=true) {f:FuncId} {fn:Func} {af:AFn} {args:List AVal} {v:AVal} (k:Nat) (hf:P.funcs[f]? = some fn) (hc:cFn P fn=some af) {nt:Nat} {rs:List (Nat×Option (Option Nat))} {bd:ACode} (hd:af=⟨nt,rs,bd⟩) (hl:Nat.ble args.length nt=true) (hca:closedL args=true) (hcv:v.closed=true)
 (h:∀ K:AVal→SMem→Prop,(∀ r sm,freezeV sm.get k r=some v→K r sm)→wpZ P nt 1 bd (retN nt rs (EndK 1 K)) (argE 0 args []) ⟨[],1⟩):PCall P f args v:=
 PCall_ctr (k:=k) hca hcv (ctr_P (m:=⟨[],1⟩) hm hf hc hd hl h)
end Go.AE
end
section
namespace Go.AE
open Go.RowKit
def wr {α:Type} (x:α):α:=x
theorem wr_eq {α:Type} (x:α):wr x=x:=Eq.trans (Eq.refl x) (Eq.refl x)
@[congr] theorem SC_congr2 {P : Program} {g : FuncId} {args args' : List AVal} {m : SMem} {w : Nat} {K : AVal → SMem → Prop} (h : wr args = args') : SC P g args m w K = SC P g args' m w K := by cases h; rfl
@[congr] theorem DC_congr2 {P : Program} {g : FuncId} {args args' : List AVal} {n : Nat} {x : List Nat} {m : SMem} {K : AVal → Option ABlk → Prop} (h : wr args = args') : DC P g args n x m K = DC P g args' n x m K := by cases h; rfl
end Go.AE
end
section
namespace Go.AE
open Go.RowKit
def wopsM (P:Program) (base:Nat):List AOper→Nat→(ASt→Prop)→List AVal→Mem→Prop
 | [],_,K,t,m=>K ⟨t,m⟩
 | o :: r,i,K,t,m=>
  match wantedA t o.guard with
  | some false=>wopsM P base r (i+1) K (put t o.dst aundef) m
  | some true=>
   match o.op with
   | .call f xs=>match callee t f xs with
    | some (g,args)=>ACalls P g args m [base+i] fun v m'=>wopsM P base r (i+1) K (put t o.dst v) m'
    | none=>False
   | .range x=>rangeW (base+i) (ev t x) m fun v m'=>wopsM P base r (i+1) K (put t o.dst v) m'
   | .nextM x=>nextW (ev t x) m fun v m'=>wopsM P base r (i+1) K (put t o.dst v) m'
   | .nextS x=>entryW (ev t x) m fun v=>wopsM P base r (i+1) K (put t o.dst v) m
   | op=>match stepA (base+i) t m op with
    | some (v,m')=>wopsM P base r (i+1) K (put t o.dst v) m'
    | none=>False
  | none=>False
section
variable {P:Program}
theorem wopsM_cons {base i:Nat} {b:AOper} {rest:List AOper} {K:ASt→Prop} {t:List AVal} {m:Mem} (h:wopsM P base (b :: rest) i K t m) :
 (wantedA t b.guard=some false∧wopsM P base rest (i+1) K (put t b.dst aundef) m) ∨
 (wantedA t b.guard=some true∧((∃ f xs g args,b.op=.call f xs∧callee t f xs=some (g,args)∧ACalls P g args m [base+i] fun v m'=>wopsM P base rest (i+1) K (put t b.dst v) m') ∨
   (∃ x,b.op=.range x∧rangeW (base+i) (ev t x) m fun v m'=>wopsM P base rest (i+1) K (put t b.dst v) m') ∨
   (∃ x,b.op=.nextM x∧nextW (ev t x) m fun v m'=>wopsM P base rest (i+1) K (put t b.dst v) m') ∨
   (∃ x,b.op=.nextS x∧entryW (ev t x) m fun v=>wopsM P base rest (i+1) K (put t b.dst v) m) ∨
   (∃ v m',stepA (base+i) t m b.op=some (v,m')∧wopsM P base rest (i+1) K (put t b.dst v) m'))):=by
 simp only[wopsM]at h
 cases hw:wantedA t b.guard with
 | none=>simp[hw]at h
 | some q=>
  cases q with
  | false=>simp only[hw]at h; exact .inl ⟨rfl,h⟩
  | true=>
   simp only[hw]at h
   refine .inr ⟨rfl,?_⟩
   have other:∀ op,b.op=op→(match stepA (base+i) t m op with|some (v,m')=>wopsM P base rest (i+1) K (put t b.dst v) m'|none=>False) →
    ∃ v m',stepA (base+i) t m op=some (v,m')∧wopsM P base rest (i+1) K (put t b.dst v) m':=by
    intro op _ hh
    cases hs:stepA (base+i) t m op with
    | none=>simp[hs]at hh
    | some r=>obtain ⟨v,m'⟩:=r; simp only[hs]at hh; exact⟨v,m',rfl,hh⟩
   cases hop:b.op with
   | call f xs=>
    simp only[hop]at h
    cases hc:callee t f xs with
    | none=>simp[hc]at h
    | some r=>
     obtain⟨g,args⟩:=r
     simp only[hc]at h
     exact .inl ⟨f,xs,g,args,rfl,hc,h⟩
   | range x=>rw[hop]at h; exact .inr (.inl ⟨x,rfl,h⟩)
   | nextM x=>rw[hop]at h; exact .inr (.inr (.inl ⟨x,rfl,h⟩))
   | nextS x=>rw[hop]at h; exact .inr (.inr (.inr (.inl ⟨x,rfl,h⟩)))
   | _=>rw[hop]at h; exact .inr (.inr (.inr (.inr (other _ hop h))))
theorem plain_soundM (W:Base) (base:Nat) (n0:Nat) (ops:Array Oper) (Q:Exit→ASt→Prop) (Φ0:Pers) (ρ0:Rho) (hb:n0≤base) :
 ∀(l:List Oper) (asl:List AOper) (i:Nat) (t:List AVal) (m:Mem) (Φ:Pers) (ρ:Rho) (a:Act) (w:World),
  asl.length=l.length→(∀(j:Nat) (o:Oper) (b:AOper),l[j]? = some o→asl[j]? = some b→b.dst=o.dst∧b.op=cOp' P o∧cGuard ops o.guard=some b.guard) →
  wopsM P base asl i (Q .normal) t m→Rel W Φ ρ m w→RL Φ ρ t a.tmps→a.defers=[]→Ext Φ0 ρ0 Φ ρ→KeepN n0 ρ0 ρ→(∀ j,i≤j→j<i+asl.length→ρ (base+j)=none)→base+i+asl.length≤m.next→n0≤m.next →
  wpList P ops (lift W Φ0 ρ0 n0 Q) l a w
 | [],[],i,t,m,Φ,ρ,a,w,_,_,h,hr,ht,hd,he,hk,_,_,hn=>⟨⟨t,m⟩,Φ,ρ,he,hk,hn,hr,ht,hd,h⟩
 | [],_ :: _,_,_,_,_,_,_,_,hl,_,_,_,_,_,_,_,_,_,_=>by simp at hl
 | _ :: _,[],_,_,_,_,_,_,_,hl,_,_,_,_,_,_,_,_,_,_=>by simp at hl
 | o :: l,b :: asl,i,t,m,Φ,ρ,a,w,hl,hg,h,hr,ht,hd,he,hk,hfree,hnx,hn=>by
  obtain⟨e1,e2,e3⟩:=hg 0 o b rfl rfl
  have hg':∀ (j:Nat) (o:Oper) (b:AOper),l[j]? = some o→asl[j]? = some b→b.dst=o.dst∧b.op=cOp' P o∧cGuard ops o.guard=some b.guard:=fun j o b ho hb=>hg (j+1) o b (by simpa using ho) (by simpa using hb)
  have hl':asl.length=l.length:=by simpa using hl
  simp only[List.length_cons]at hnx hfree
  have hlt:base+i<m.next:=by omega
  have hni:ρ (base+i)=none:=hfree i (Nat.le_refl _) (by omega)
  unfold wpList
  rcases wopsM_cons h with⟨hw,h'⟩|⟨hw,h'⟩
  ·rw[wanted_ok ht e3 hw,if_neg (by simp)]
   rw[← e1]
   exact plain_soundM W base n0 ops Q Φ0 ρ0 hb l asl (i+1) _ m Φ ρ _ w hl' hg' h' hr (ht.put b.dst (R_undef Φ ρ)) (by rw[put_defers]; exact hd) he hk (fun j h1 h2=>hfree j (by omega) (by omega)) (by omega) hn
  ·rw[wanted_ok ht e3 hw,if_pos rfl]
   refine .inl ?_
   rcases h' with⟨f,xs,g,args,hop,hcal,hA⟩|⟨x,hop,h'⟩|⟨x,hop,h'⟩|⟨x,hop,h'⟩|⟨v,m',hs,h'⟩
   ·refine op_call ht hr hni hlt o (by rw[← e2]; exact hop) hcal hA fun Φ' ρ' x m' u w' hE hfr hr' hx hnx' hW=>?_
    rw[← e1]
    exact plain_soundM W base n0 ops Q Φ0 ρ0 hb l asl (i+1) _ m' Φ' ρ' _ w' hl' hg' hW hr' ((ht.ext hE).put b.dst hx) (by rw[put_defers]; exact hd) (he.trans hE) (fun c hc h0=>hfr c (by omega) (by omega) (hk c hc h0))
     (fun j h1 h2=>hfr _ (by omega) (by omega) (hfree j (by omega) (by omega))) (by omega) (by omega)
   ·refine op_range ht hr hni hlt o (by rw[← e2]; exact hop) h' fun Φ' ρ' x m' u w' hE hfr hr' hx hnx' hW=>?_
    rw[← e1]
    exact plain_soundM W base n0 ops Q Φ0 ρ0 hb l asl (i+1) _ m' Φ' ρ' _ w' hl' hg' hW hr' ((ht.ext hE).put b.dst hx) (by rw[put_defers]; exact hd) (he.trans hE) (fun c hc h0=>hfr c (by omega) (hk c hc h0))
     (fun j h1 h2=>hfr _ (by omega) (hfree j (by omega) (by omega))) (by rw[hnx']; omega) (by rw[hnx']; exact hn)
   ·refine op_next ht hr o (by rw[← e2]; exact hop) h' fun x m' u w' hr' hx hnx' hW=>?_
    rw[← e1]
    exact plain_soundM W base n0 ops Q Φ0 ρ0 hb l asl (i+1) _ m' Φ ρ _ w' hl' hg' hW hr' (ht.put b.dst hx) (by rw[put_defers]; exact hd) he hk
     (fun j h1 h2=>hfree j (by omega) (by omega)) (by rw[hnx']; omega) (by rw[hnx']; exact hn)
   ·refine op_entry ht hr o (by rw[← e2]; exact hop) h' fun x u hx hW=>?_
    rw[← e1]
    exact plain_soundM W base n0 ops Q Φ0 ρ0 hb l asl (i+1) _ m Φ ρ _ w hl' hg' hW hr (ht.put b.dst hx) (by rw[put_defers]; exact hd) he hk
     (fun j h1 h2=>hfree j (by omega) (by omega)) (by omega) hn
   ·have hnx':=stepA_next hs
    rw[e2]at hs
    refine op_step ht hr hni hlt o hs fun Φ' ρ' u w' hE hfr hr' hx=>?_
    rw[← e1]
    exact plain_soundM W base n0 ops Q Φ0 ρ0 hb l asl (i+1) _ m' Φ' ρ' _ w' hl' hg' h' hr' ((ht.ext hE).put b.dst hx) (by rw[put_defers]; exact hd) (he.trans hE) (fun c hc h0=>hfr c (by omega) (hk c hc h0))
     (fun j h1 h2=>hfr _ (by omega) (hfree j (by omega) (by omega))) (by rw[hnx']; omega) (by rw[hnx']; exact hn)
theorem region_plainM {id:Nat} {ops:Array Oper} {os:List AOper} {Q:Exit→ASt→Prop} {σ:ASt} (hc:cOpers P ops ops.toList=some os) (h:wopsM P σ.m.next os 0 (Q .normal) σ.t (σ.m.at (σ.m.next+os.length))):AWp P (.region id ops false) Q σ:=by
 intro W Φ ρ a w hr ht hd
 obtain⟨h1,h2⟩:=cOpers_get P ops _ _ hc
 refine wp_region_list (plain_soundM W σ.m.next σ.m.next ops Q Φ ρ (Nat.le_refl _) ops.toList os 0 σ.t _ Φ ρ a w h1 h2 h (hr.at_ (by omega)) ht hd (.refl _ _) (.refl _ _) ?_ (by simp) (by simp))
 intro j _ _
 cases hq:ρ (σ.m.next+j)with
 | none=>rfl
 | some l=>have:=hr.fresh _ _ hq; omega
def nextS (v:AVal) (m:SMem) (K:AVal→SMem→Prop):Prop:=
 match v with
 | .ptr it 0 0=>match m.get it with
  | some (.miter (some b) since seen last)=>match m.get b with
   | some (.map es clock)=>(seen=[]∨es=[] ∨ ∃ e,e∈es∧e.2.2<last) ∧
    (∀ e,e∈es→e.2.2∉seen→K (.tuple [.bool true,e.1,e.2.1]) (m.app [(it,some (.miter (some b) since (seen++[e.2.2]) clock))])) ∧
    ((∀ e,e∈es→e.2.2<since→e.2.2∈seen)→K (.tuple [.bool false]) m)
   | _=>False
  | _=>False
 | _=>False
variable {n n0:Nat}
variable {Q:Exit→Env→SMem→Prop} {e:Env} {m:SMem} {base:Nat} {K:Env→SMem→Prop}
end
end Go.AE
end
section
namespace Go.AE
open Go.RowKit
def slV (b:Nat) (rows:List (List AVal)):AVal:=if rows=[]then .nilSl else .sl b 0 rows.length
def blV (b k:Nat) (rows:List (List AVal)) (rest:List (Nat×ABlk)):List (Nat×ABlk):=if rows=[]then rest else (b,.cells k rows) :: rest
def imV (rows:List (List AVal)):AVal:=if rows=[]then .nilSl else .imm rows
def dlV (b id:Nat) (rows:List (List AVal)) (x:ABlk):List (Nat×Option ABlk):=if rows=[]then [(id,some x)]else [(b,none),(id,some x)]
def dlS (b k:Nat) (rows:List (List AVal)):List (Nat×Option ABlk):=if rows=[]then []else [(b,some (.cells k rows))]
section
variable {b c id k bytes i n:Nat} {rows xs:List (List AVal)} {rest:List (Nat×ABlk)} {get:Nat→Option ABlk} {q:Nat→Nat} {m:SMem}
theorem slV_nil:slV b []=.nilSl:=rfl
theorem slV_snoc (x:List AVal):slV b (rows++[x])=.sl b 0 (rows.length+1):=by simp[slV]
theorem blV_nil:blV b k [] rest=rest:=rfl
theorem blV_snoc (x:List AVal):blV b k (rows++[x]) rest=(b,.cells k (rows++[x])) :: rest:=by simp[blV]
theorem sl_slV:sliceLen (slV b rows)=some rows.length:=by
 unfold slV
 split
 ·rename_i h; subst h; rfl
 ·rfl
theorem ren_slV:(slV b rows).ren q=slV (q b) rows:=by unfold slV; split<;>rfl
theorem cells_slV:(slV b rows).cells=some [slV b rows]:=by unfold slV; split<;>rfl
theorem one_slV:(slV b rows).one=true:=by unfold slV; split<;>rfl
theorem look_blV (h:¬c=b):lookB (blV b k rows rest) c=lookB rest c:=by
 unfold blV
 split
 ·rfl
 ·simp only[lookB]; rw[if_neg h]
theorem look_blV_eq:lookB (blV b k rows rest) b=if rows=[]then lookB rest b else some (.cells k rows):=by
 unfold blV
 split
 ·rfl
 ·simp only[lookB]; rw[if_pos trivial]
theorem erase_blV (h:¬c=b):eraseB (blV b k rows rest) c=blV b k rows (eraseB rest c):=by
 unfold blV
 split
 ·rfl
 ·simp only[eraseB]; rw[if_neg h]
theorem erase_blV_eq:eraseB (blV b k rows rest) b=eraseB rest b:=by
 unfold blV
 split
 ·rfl
 ·simp only[eraseB]; rw[if_pos trivial]
theorem ren_blV {t:List (Nat×ABlk)}:renB q (blV b k rows rest) t=blV (q b) k (renLL q rows) (renB q rest t):=by
 unfold blV
 by_cases h:rows=[]
 ·subst h; simp[renLL]
 ·have:renLL q rows≠[]:=fun e=>h (List.length_eq_zero_iff.1 (by rw[← renLL_length q,e]; rfl))
  rw[if_neg h,if_neg this]
  rfl
theorem less_nil (l:List (Nat×ABlk)):lessB [] l=l:=by
 induction l with
 | nil=>rfl
 | cons a r ih=>obtain ⟨c,y⟩:=a; simp only[lessB,memN,cond_false,ih]
theorem less_blV {ks:List Nat}:lessB ks (blV b k rows rest)=bif memN b ks then lessB ks rest else blV b k rows (lessB ks rest):=by
 unfold blV
 cases hm:memN b ks with
 | true=>
  split
  ·rfl
  ·simp[lessB,hm]
 | false=>
  split
  ·rfl
  ·simp[lessB,hm]
theorem keys_blV:qKeys q (blV b k rows rest)=if rows=[]then qKeys q rest else q b :: qKeys q rest:=by
 unfold blV
 split<;>rfl
theorem sub_blV:SubRB q (blV b k rows rest) m=((rows≠[]→m.get (q b)=some (.cells k (renLL q rows)) ∨ ∃ y,m.get (q b)=some y∧BSub (.cells k (renLL q rows)) y)∧SubRB q rest m):=by
 unfold blV
 split
 ·rename_i h; simp[h]
 ·rename_i h; simp[h,SubRB,ABlk.ren]
theorem injA_blV:InjA q c (blV b k rows rest)=((rows≠[]→q c=q b→c=b)∧InjA q c rest):=by
 unfold blV
 split
 ·grind
 ·rename_i h; simp[h,InjA]
theorem injK_blV:InjK q (blV b k rows rest)=((rows≠[]→InjA q b rest)∧InjK q rest):=by
 unfold blV
 split
 ·grind
 ·rename_i h; simp[h,InjK]
theorem apart1_app (x:Nat) (a l:List Nat):apart1 x (a++l)=(apart1 x a∧apart1 x l):=by
 induction a with
 | nil=>simp[apart1]
 | cons y r ih=>simp only[List.cons_append,apart1,ih,and_assoc]
theorem apart_slV (l:List Nat):apartL (blkOf (slV b rows)) l=(¬rows=[]→apart1 b l):=by
 unfold slV
 split
 ·rename_i h; simp[blkOf,apartL,h]
 ·rename_i h; simp[blkOf,apartL,h]
theorem apart1_slV (x:Nat):apart1 x (blkOf (slV b rows))=(¬rows=[]→x≠b):=by
 unfold slV
 split
 ·rename_i h; simp[blkOf,apart1,h]
 ·rename_i h; simp[blkOf,apart1,h]
theorem bk_ptr (b i j:Nat):blkOf (.ptr b i j)=[b]:=rfl
theorem bk_sl (b i j:Nat):blkOf (.sl b i j)=[b]:=rfl
theorem bk_map (b:Nat):blkOf (.map b)=[b]:=rfl
theorem bk_imm (l:List (List AVal)):blkOf (.imm l)=[]:=rfl
theorem bk_iptr (l:List (List AVal)) (i j:Nat):blkOf (.iptr l i j)=[]:=rfl
theorem bk_nil:blkOf .nilSl=[]:=rfl
theorem bk_int (k:IntKind) (n:Int):blkOf (.int k n)=[]:=rfl
theorem bk_str (l:List UInt8):blkOf (.str l)=[]:=rfl
theorem bk_imV:blkOf (imV rows)=[]:=by unfold imV; split<;>rfl
theorem ap_slV (hx:xs≠[]) (hg:get b=if rows=[]then none else some (.cells k rows)) (hr:rows.length+xs.length≤1048576) (hb:bytes≤1048576) :
 appendRowsD id k bytes get (slV b rows) xs=some (.sl id 0 (rows.length+xs.length),dlV b id rows (.cells k (rows++xs))):=by
 have hrm:room=1048576:=rfl
 rw[← hrm]at hr hb
 have hxl:0<xs.length:=by grind
 unfold slV dlV
 by_cases h:rows=[]
 ·subst h
  simp only[if_true,appendRowsD,if_neg hx,List.length_nil,Nat.zero_add,List.nil_append]
  grind
 ·rw[if_neg h,if_neg h]
  simp only[appendRowsD,hg,if_neg h]
  grind
theorem ap_slV0 (hg:get b=if rows=[]then none else some (.cells k rows)):appendRowsD id k bytes get (slV b rows) []=some (slV b rows,dlS b k rows):=by
 unfold slV dlS
 by_cases h:rows=[]
 ·subst h; rfl
 ·rw[if_neg h,if_neg h]
  simp only[appendRowsD,hg,if_neg h]
  grind
theorem app_dlV {x:ABlk} (h:rows=[]→lookB m.bl b=none):m.app (dlV b id rows x)=⟨(id,x) :: eraseB m.bl b,m.next⟩:=by
 have key:∀ l:List (Nat×ABlk),lookB l b=none→eraseB l b=l:=by
  intro l
  induction l with
  | nil=>intro _; rfl
  | cons a r ih=>
   obtain⟨d,y⟩:=a
   intro hl
   simp only[lookB]at hl
   split at hl
   ·cases hl
   ·rename_i hd
    simp only[eraseB]
    grind
 unfold dlV
 by_cases h0:rows=[]
 ·rw[if_pos h0,key _ (h h0)]; rfl
 ·rw[if_neg h0]; rfl
theorem app_dlS:m.app (dlS b k rows)=⟨blV b k rows m.bl,m.next⟩:=by
 unfold dlS blV
 split<;>rfl
theorem ix_slV (hg:get b=if rows=[]then none else some (.cells k rows)) (hi:i<rows.length):idxZ get k (slV b rows) (some i)=some (.ptr b i 0,[]):=by
 have h:rows≠[]:=fun e=>by subst e; simp at hi
 unfold slV
 rw[if_neg h,ix_sl,hg,if_neg h]
 simp[hi]
theorem sr_slV (hg:get b=if rows=[]then none else some (.cells k rows)):srcRowsD get k (slV b rows)=some rows:=by
 unfold slV
 by_cases h:rows=[]
 ·subst h; rfl
 ·rw[if_neg h]
  simp[srcRowsD,rowsOfD,hg,h]
theorem sr_sl0 (len:Nat):srcRowsD get k (.sl b 0 len)=match get b with
 | some (.cells k' els)=>if k'=k∧len≤els.length then some (els.take len)else none
 | _=>if len=0 then some []else none:=by
 simp only[srcRowsD,rowsOfD,Nat.zero_add,List.drop_zero]
 rfl
theorem sr_nil:srcRowsD get k .nilSl=some []:=rfl
theorem sr_imm:srcRowsD get k (.imm rows)=if rows.all (·.length == k)then some rows else none:=rfl
theorem fz_slV {S:List Nat} (hb:memN b S=true) (hg:get b=if rows=[]then none else some (.cells k rows)) (hs:∀ row,row∈rows → ∀ x,x∈row→freezeV (onlyG get S) 4 x=some x):fzV get S (slV b rows)=imV rows:=by
 unfold slV imV
 by_cases h:rows=[]
 ·rw[if_pos h,if_pos h]; rfl
 ·rw[if_neg h,if_neg h]; exact fzV_sl hb (by rw[hg,if_neg h]) rfl hs
end
end Go.AE
end
