/- Part 28 of the proof: AeWv. -/
import Derived.Test.YtilmpmlkndfbjaaGreatDoorR1
import Derived.Test.YtilmpmlkndfbjaaGreatDoorR12
import Derived.Test.YtilmpmlkndfbjaaGreatDoorR13
set_option linter.all false
namespace Go.AE
open Go.RowKit
def Zf7(n k:Nat)(get:Nat→Option ABlk)(v:AVal)(lh:Option (Nat×Nat)):Option (AVal×Nat):=
 match k,v,lh with
 | 1,.ptr b i j,some (l,h)=>match get b with
  | some (.cells _ els)=>match fzV get [b] (.sl b i 1)with
   | .imm [row]=>if i<els.length∧j+n≤row.length∧h≤n∧l≤h then some (.imm (((row.drop (j+l)).take (h - l)).map fun y=>[y]),b)else none
   | _=>none
  | _=>none
 | _,_,_=>none
section
variable {P:Program} {W:Base} {Φ:Pers} {ρ:Rho} {w:World} {m:Mem} {a:Act} {t:List AVal}
theorem Yc4{o:Oper}{n k:Nat}{x:AOpd}{lo hi:Option AOpd}(f:Q3 P o=.slArr n k x lo hi):∃ ty e x0 c b,o.op=.slice ty x0 c b none∧P.underlying ty=some (.array n e)∧N7 P e=some k∧Y4 x0=some x∧H8 c=some lo∧H8 b=some hi:=by
 unfold Q3 at f;cases a:cOp P o with
 | none=>simp[a]at f
 | some op=>
  simp only[a,Option.getD_some]at f;subst f;unfold cOp at a;split at a<;>first|(cases a; done)|skip
  all_goals first
   | (simp only[Option.map_eq_some_iff]at a; obtain⟨_,_,a⟩:=a; cases a; done)
   | (split at a<;>first|(cases a; done)|skip
      all_goals (split at a<;>first|(cases a; done)|skip)
      rename_i ty x0 c b d h _ _ _ _ _ n0 r x1 u s m p l i hm _ t j;cases a;have g:d=none:=by
       cases d with
       | none=>rfl
       | some z=>simp only[H8]at hm; cases q:Y4 z<;>simp[q]at hm
      subst g;exact⟨ty,_,x0,c,b,h,m,j,p,l,i⟩)
   | skip
  all_goals (try unfold Za5 at a)
  all_goals (repeat' (split at a<;>first|(cases a; done)|(simp only[Option.map_eq_some_iff]at a; obtain⟨_,_,a⟩:=a; cases a; done)|skip))
  all_goals (first|(cases a; done)|skip)
theorem Z7k{K:Act→World→Prop}{Q:Exit→Act→World→Prop}(ht:RL Φ ρ t a.tmps)(G:Rel W Φ ρ m w)(o:Oper){n k:Nat}{x:AOpd}{lo hi:Option AOpd}(ho:Q3 P o=.slArr n k x lo hi){v:AVal}{b:Nat}
 (h:Zf7 n k m.get (ev t x) (K4 t n n lo hi)=some (v,b))
 (hK:∀ J u,Ext Φ ρ J ρ→Rel W J ρ (m.del b) w→R J ρ v u→K (a.put o.dst u) w):o.wp P a w K Q:=by
 obtain⟨ty,e,x0,U,M,af,hu,hk,I,hl,hh⟩:=Yc4 ho;have hv:=T4 ht I;have ae:=Zhu ht hl;have ac:=Zhu ht hh;obtain⟨ar,N,ah⟩:=Zeq hk;unfold Zf7 at h;split at h
 ·rename_i b0 i j l g Z X;split at h<;>first|(cases h; done)|skip
  rename_i kk els ab;split at h<;>first|(cases h; done)|skip
  rename_i row aa;split at h<;>first|(cases h; done)|skip
  rename_i hc;obtain⟨al,am,an,ao⟩:=hc;injection h with h
  injection h with h1 h2
  subst h1;subst h2;obtain⟨Φs,hE,f1,f2,f3,f4⟩:=Zht [b0] G;have hb:=(Zh2 (P:=P) (w:=w) (cap:=n) (b:=false) ae ac X (Nat.le_refl _)).1;rw[Z]at hv;obtain⟨d,ob,q1,q2,q3,q4,q5⟩:=G.live b0 _ ab;have ak:d.sh+els.length≤d.n:=by
   cases q5 with
   | cells _ _ _ c e hk hn hl G h1=>exact hl
  have hR:=f4 _ _ (R.sl (Φ:=Φ) (ρ:=ρ) b0 i 1 (some ⟨d.blk,(d.sh+i)*d.k,none⟩) (d.n - (d.sh+i)) d q1 (by omega) (by omega) (fun _=>rfl) rfl)
  rw[aa]at hR;generalize ai:a.eval x0=vv at hv;cases hv with
  | ptr _ _ _ l2 E=>
  rw[q1]at E;injection E with E
  subst E;cases hR with
  | imm _ B o' k cap c f O aj hB ad Y ag=>
   have D:[row][0]? = some row:=rfl;have S:(Instr.sliceAt ty (.pointer (some ⟨d.blk,(d.sh+i)*d.k+j,none⟩)) (U.map a.eval) (M.map a.eval) none).run P w=.ok (.slice (some (if n=l then ⟨d.blk,(d.sh+i)*d.k+j,none⟩ else (⟨d.blk,(d.sh+i)*d.k+j,none⟩:Addr).add (l*1))) (g - l) (n - l)) w:=by
    simp only[Instr.sliceAt,Instr.sureAddr,Sem.run_bind,V3 hu,Result.andThen_ok,Sem.run_pure,hb,E6 N,ah]
   have e0:execOp a.eval o=(do pure (Next.value (← Instr.sliceAt ty (a.eval x0) (U.map a.eval) (M.map a.eval) none))):=by unfold execOp; rw[af]; rfl
   have H:(execOp a.eval o).run P w=.ok (Next.value (.slice (some (if n=l then ⟨d.blk,(d.sh+i)*d.k+j,none⟩ else (⟨d.blk,(d.sh+i)*d.k+j,none⟩:Addr).add (l*1))) (g - l) (n - l))) w:=by
    rw[e0,ai];simp only[Sem.run_bind,S,Result.andThen_ok,Sem.run_pure]
   unfold Oper.wp;rw[H];have aq:row.length=k:=ad _ _ D;have s:(((row.drop (j+l)).take (g - l)).map fun y=>[y]).length=g - l:=by simp; omega
   refine hK Φs _ hE ⟨G.base,f1,fun c x I=>?_,fun c c' x x' l l' F L=>?_,G.fresh,f2⟩ ?_
   ·simp only[Mem.get_del]at I;split at I
    ·cases I
    ·rename_i O;obtain⟨l,o,F,L,g3,g4,g5⟩:=G.live c x I;exact⟨l,o,F,L,f3 c x l I F (by simp[Y8,O]),g4,g5.ext hE⟩
   ·simp only[Mem.get_del]at F L;split at F<;>first|(cases F; done)|skip
    split at L<;>first|(cases L; done)|skip
    exact G.inj _ _ _ _ _ _ F L
   ·by_cases hz:g=l
    ·have e1:(((row.drop (j+l)).take (g - l)).map fun y=>[y])=[]:=List.eq_nil_of_length_eq_zero (by rw[s]; omega)
     rw[e1,show g - l=0 by omega]
     refine .imm0 _ _ fun _=>?_
     split
     ·exact⟨_,_,rfl⟩
     ·exact⟨d.blk,_,by rw[Addr.add_none]⟩
    ·rw[if_neg (by omega),Addr.add_none]
     have C:∀ (p:Nat) (r:List AVal),(((row.drop (j+l)).take (g - l)).map fun y=>[y])[p]? = some r → ∃ y,row[j+l+p]? = some y∧r=[y]:=fun p r z=>by
      rw[List.getElem?_map]at z;cases A:((row.drop (j+l)).take (g - l))[p]? with
      | none=>rw[A]at z; cases z
      | some y=>
       rw[A]at z;injection z with z
       rw[List.getElem?_take]at A;split at A
       ·rw[List.getElem?_drop]at A;exact⟨y,A,z.symm⟩
       ·cases A
     suffices key:R Φs ρ (.imm (((row.drop (j+l)).take (g - l)).map fun y=>[y])) (.slice (some ⟨d.blk,(d.sh+i)*d.k+j+l*1,none⟩) (((row.drop (j+l)).take (g - l)).map fun y=>[y]).length (n - l)) by
      rw[s]at key;exact key
     refine .imm _ d.blk ((d.sh+i)*d.k+j+l*1) 1 (n - l) c (fun p q=>f 0 (j+l+p)) (fun e=>by have:=congrArg List.length e; rw[s]at this; simp at this; omega) (by rw[s]; omega) hB (fun p r z=>?_) (fun p r q y z A=>?_) (fun p r q y z A=>?_)
     ·obtain⟨y,_,rfl⟩:=C p r z;rfl
     ·obtain⟨y',V,rfl⟩:=C p r z;cases q with
      | succ q=>simp at A
      | zero=>
       obtain⟨k1,k2⟩:=Y 0 row (j+l+p) y' D V;refine⟨?_,k2⟩;rw[← k1]
       congr 1
       omega
     ·obtain⟨y',V,rfl⟩:=C p r z;cases q with
      | succ q=>simp at A
      | zero=>
       simp only[List.getElem?_cons_zero,oI]at A;subst A;exact ag 0 row (j+l+p) y' D V
 ·cases h
def E2(P:Program)(base:Nat):List AOper→Nat→(ASt→Prop)→List AVal→Mem→Prop
 | [],_,K,t,m=>K ⟨t,m⟩
 | o :: r,i,K,t,m=>
  match S6 t o.guard with
  | some false=>E2 P base r (i+1) K (put t o.dst aundef) m
  | some true=>
   match o.op with
   | .call f xs=>match callee t f xs with
    | some (g,args)=>ACalls P g args m [base+i] fun v m'=>E2 P base r (i+1) K (put t o.dst v) m'
    | none=>False
   | .slArr n k x lo hi=>match Zf7 n k m.get (ev t x) (K4 t n n lo hi)with
    | some (v,b)=>E2 P base r (i+1) K (put t o.dst v) (m.del b)
    | none=>False
   | op=>match stepA (base+i) t m op with
    | some (v,m')=>E2 P base r (i+1) K (put t o.dst v) m'
    | none=>False
  | none=>False
theorem Z37{base i:Nat}{b:AOper}{a:List AOper}{K:ASt→Prop}{t:List AVal}{m:Mem}(h:E2 P base (b :: a) i K t m) :
 (S6 t b.guard=some false∧E2 P base a (i+1) K (put t b.dst aundef) m) ∨
 (S6 t b.guard=some true∧((∃ f o g args,b.op=.call f o∧callee t f o=some (g,args)∧ACalls P g args m [base+i] fun v d=>E2 P base a (i+1) K (put t b.dst v) d) ∨
   (∃ n k x lo hi v c,b.op=.slArr n k x lo hi∧Zf7 n k m.get (ev t x) (K4 t n n lo hi)=some (v,c)∧E2 P base a (i+1) K (put t b.dst v) (m.del c)) ∨
   (∃ v d,stepA (base+i) t m b.op=some (v,d)∧E2 P base a (i+1) K (put t b.dst v) d))):=by
 simp only[E2]at h;cases s:S6 t b.guard with
 | none=>simp[s]at h
 | some q=>
  cases q with
  | false=>simp only[s]at h; exact .inl ⟨rfl,h⟩
  | true=>
   simp only[s]at h;refine .inr ⟨rfl,?_⟩;have l:∀ op,b.op=op→(match stepA (base+i) t m op with|some (v,d)=>E2 P base a (i+1) K (put t b.dst v) d|none=>False) →
    ∃ v d,stepA (base+i) t m op=some (v,d)∧E2 P base a (i+1) K (put t b.dst v) d:=by
    intro op _ p;cases u:stepA (base+i) t m op with
    | none=>simp[u]at p
    | some r=>obtain ⟨v,d⟩:=r; simp only[u]at p; exact⟨v,d,rfl,p⟩
   cases e:b.op with
   | call f o=>
    simp only[e]at h;cases j:callee t f o with
    | none=>simp[j]at h
    | some r=>
     obtain⟨g,args⟩:=r;simp only[j]at h;exact .inl ⟨f,o,g,args,rfl,j,h⟩
   | slArr n k x lo hi=>
    simp only[e]at h;cases j:Zf7 n k m.get (ev t x) (K4 t n n lo hi)with
    | none=>simp[j]at h
    | some r=>
     obtain⟨v,c⟩:=r;simp only[j]at h;exact .inr (.inl ⟨n,k,x,lo,hi,v,c,rfl,j,h⟩)
   | _=>rw[e]at h; exact .inr (.inr (l _ e h))
theorem Zjf(W:Base)(base:Nat)(n0:Nat)(ops:Array Oper)(Q:Exit→ASt→Prop)(Φ0:Pers)(ρ0:Rho)(hb:n0≤base) :
 ∀(l:List Oper) (asz:List AOper) (i:Nat) (t:List AVal) (m:Mem) (Φ:Pers) (ρ:Rho) (a:Act) (w:World),
  asz.length=l.length→(∀(j:Nat) (o:Oper) (b:AOper),l[j]? = some o→asz[j]? = some b→b.dst=o.dst∧b.op=Q3 P o∧Zab ops o.guard=some b.guard) →
  E2 P base asz i (Q .normal) t m→Rel W Φ ρ m w→RL Φ ρ t a.tmps→a.defers=[]→Ext Φ0 ρ0 Φ ρ→KeepN n0 ρ0 ρ→(∀ j,i≤j→j<i+asz.length→ρ (base+j)=none)→base+i+asz.length≤m.next→n0≤m.next →
  wpList P ops (lift W Φ0 ρ0 n0 Q) l a w
 | [],[],i,t,m,Φ,ρ,a,w,_,_,h,hr,ht,hd,he,hk,_,_,hn=>⟨⟨t,m⟩,Φ,ρ,he,hk,hn,hr,ht,hd,h⟩
 | [],_ :: _,_,_,_,_,_,_,_,hl,_,_,_,_,_,_,_,_,_,_=>by simp at hl
 | _ :: _,[],_,_,_,_,_,_,_,hl,_,_,_,_,_,_,_,_,_,_=>by simp at hl
 | o :: l,b :: asz,i,t,m,Φ,ρ,a,w,hl,hg,h,hr,ht,hd,he,hk,hfree,hnx,hn=>by
  obtain⟨e1,e2,e3⟩:=hg 0 o b rfl rfl;have hg':∀ (j:Nat) (o:Oper) (b:AOper),l[j]? = some o→asz[j]? = some b→b.dst=o.dst∧b.op=Q3 P o∧Zab ops o.guard=some b.guard:=fun j o b ho hb=>hg (j+1) o b (by simpa using ho) (by simpa using hb)
  have hl':asz.length=l.length:=by simpa using hl
  simp only[List.length_cons]at hnx hfree;have hlt:base+i<m.next:=by omega
  have hni:ρ (base+i)=none:=hfree i (Nat.le_refl _) (by omega)
  unfold wpList;rcases Z37 h with⟨hw,h'⟩|⟨hw,h'⟩
  ·rw[Ze2 ht e3 hw,if_neg (by simp)]
   rw[← e1];exact Zjf W base n0 ops Q Φ0 ρ0 hb l asz (i+1) _ m Φ ρ _ w hl' hg' h' hr (ht.put b.dst (Zfa Φ ρ)) (by rw[Zaw]; exact hd) he hk (fun j h1 h2=>hfree j (by omega) (by omega)) (by omega) hn
  ·rw[Ze2 ht e3 hw,if_pos rfl];refine .inl ?_;rcases h' with⟨f,xs,g,args,hop,hcal,hA⟩|⟨n,k,x,lo,hi,v,c,hop,hs,h'⟩|⟨v,m',hs,h'⟩
   ·refine Zri ht hr hni hlt o (by rw[← e2]; exact hop) hcal hA fun Φ' ρ' x m' u w' hE hfr hr' hx hnx' hW=>?_
    rw[← e1];exact Zjf W base n0 ops Q Φ0 ρ0 hb l asz (i+1) _ m' Φ' ρ' _ w' hl' hg' hW hr' ((ht.ext hE).put b.dst hx) (by rw[Zaw]; exact hd) (he.trans hE) (fun c hc h0=>hfr c (by omega) (by omega) (hk c hc h0))
     (fun j h1 h2=>hfr _ (by omega) (by omega) (hfree j (by omega) (by omega))) (by omega) (by omega)
   ·refine Z7k ht hr o (by rw[← e2]; exact hop) hs fun Φ' u hE hr' hx=>?_
    rw[← e1];exact Zjf W base n0 ops Q Φ0 ρ0 hb l asz (i+1) _ _ Φ' ρ _ w hl' hg' h' hr' ((ht.ext hE).put b.dst hx) (by rw[Zaw]; exact hd) (he.trans hE) hk
     (fun j h1 h2=>hfree j (by omega) (by omega)) (by rw[Mem.next_del]; omega) (by rw[Mem.next_del]; exact hn)
   ·have hnx':=Zoi hs;rw[e2]at hs;refine Zk1 ht hr hni hlt o hs fun Φ' ρ' u w' hE hfr hr' hx=>?_
    rw[← e1];exact Zjf W base n0 ops Q Φ0 ρ0 hb l asz (i+1) _ m' Φ' ρ' _ w' hl' hg' h' hr' ((ht.ext hE).put b.dst hx) (by rw[Zaw]; exact hd) (he.trans hE) (fun c hc h0=>hfr c (by omega) (hk c hc h0))
     (fun j h1 h2=>hfr _ (by omega) (hfree j (by omega) (by omega))) (by rw[hnx']; omega) (by rw[hnx']; exact hn)
theorem Z76{id:Nat}{ops:Array Oper}{os:List AOper}{Q:Exit→ASt→Prop}{σ:ASt}(hc:I9 P ops ops.toList=some os)(h:E2 P σ.m.next os 0 (Q .normal) σ.t (σ.m.at (σ.m.next+os.length))):AWp P (.region id ops false) Q σ:=by
 intro W Φ ρ a w hr ht hd;obtain⟨h1,h2⟩:=Zkh P ops _ _ hc;refine wp_region_list (Zjf W σ.m.next σ.m.next ops Q Φ ρ (Nat.le_refl _) ops.toList os 0 σ.t _ Φ ρ a w h1 h2 h (hr.at_ (by omega)) ht hd (.refl _ _) (.refl _ _) ?_ (by simp) (by simp))
 intro j _ _;cases hq:ρ (σ.m.next+j)with
 | none=>rfl
 | some l=>have:=hr.fresh _ _ hq; omega
def Zka(n k:Nat)(get:Nat→Option ABlk)(v:AVal)(lh:Option (Nat×Nat)):Option (AVal×List (Nat×Option ABlk)):=
 match Zf7 n k get v lh with
 | some (v,b)=>some (v,[(b,none)])
 | none=>none
def B8(P:Program)(n base:Nat):List AOper→Nat→(Env→SMem→Prop)→Env→SMem→Prop
 | [],_,K,e,m=>K e m
 | o :: r,i,K,e,m=>gdK (U0 n e o.guard)
  (match o.op with
  | .call f xs=>clK (W8 n e f xs) fun g args=>SC P g args m (base+i) fun v m'=>B8 P n base r (i+1) K (Y3 e o.dst v) m'
  | .slArr nn k x lo hi=>stK (Zka nn k m.get (evE n e x) (J8 (evE n e) nn nn lo hi)) fun v d=>B8 P n base r (i+1) K (Y3 e o.dst v) (m.app d)
  | op=>stK (stepD (base+i) (evE n e) m.get op) fun v d=>B8 P n base r (i+1) K (Y3 e o.dst v) (m.app d))
  (B8 P n base r (i+1) K (Y3 e o.dst aundef) m)
theorem Zia{n base:Nat}{K:Env→SMem→Prop}{u:ASt→Prop}(p:∀ e m,K e m→u ⟨toE n e,m.mem⟩):∀ (s:List AOper) (i:Nat) (e:Env) (m:SMem),B8 P n base s i K e m→E2 P base s i u (toE n e) m.mem
 | [],_,_,_,h=>p _ _ h
 | o :: r,i,e,m,h=>by
  simp only[B8]at h;simp only[E2,Zh7];cases A:U0 n e o.guard with
  | none=>rw[A]at h; exact h
  | some q=>
   rw[A]at h;cases q with
   | false=>
    simp only[G7];exact Zia p r _ _ _ h
   | true=>
    simp only[gdK]at h;simp only;have j:∀ op,stK (stepD (base+i) (evE n e) m.get op) (fun v d=>B8 P n base r (i+1) K (Y3 e o.dst v) (m.app d)) →
     (match stepA (base+i) (toE n e) m.mem op with|some (v,m')=>E2 P base r (i+1) u (put (toE n e) o.dst v) m'|none=>False):=by
     intro op a;cases l:stepD (base+i) (evE n e) m.get op with
     | none=>rw[l]at a; exact a.elim
     | some w=>
      obtain⟨v,d⟩:=w;rw[l]at a;have:=Zgw (m:=m.mem) (t:=toE n e) (id:=base+i) (op:=op) (v:=v) (d:=d) (by rw[F1]; exact l)
      rw[this];simp only[G7];rw[← SMem.app_mem];exact Zia p r _ _ _ a
    cases c:o.op with
    | call f F=>
     simp only[c]at h;simp only[Zj5];cases z:W8 n e f F with
     | none=>rw[z]at h; exact h
     | some D=>
      obtain⟨g,args⟩:=D;rw[z]at h;simp only[clK]at h;simp only[G7];refine ACalls.mono h fun v E a=>?_
      obtain⟨G,rfl,a⟩:=a;exact Zia p r _ _ _ a
    | slArr nn k x lo hi=>
     simp only[c]at h;simp only[F1,G7];have B:J8 (evE n e) nn nn lo hi=K4 (toE n e) nn nn lo hi:=by rw[Zsz,F1]
     rw[B]at h;unfold Zka at h;have C:m.mem.get=m.get:=rfl;rw[C];cases l:Zf7 nn k m.get (evE n e x) (K4 (toE n e) nn nn lo hi)with
     | none=>rw[l]at h; exact h.elim
     | some w=>
      obtain⟨v,b⟩:=w;rw[l]at h;have y:=Zia p r _ _ _ h;rw[SMem.app_mem]at y;exact y
    | _=>rw[c]at h; exact j _ h
def isVo:AOp→Bool
 | .slArr ..=>true
 | _=>false
def isV:AOper→Bool
 | ⟨_,op,_,_⟩=>isVo op
variable {n n0:Nat}
theorem Z2x{id:Nat}{c:Array Oper}{os:List AOper}{Q:Exit→Env→SMem→Prop}{e:Env}{m:SMem}(A:I9 P c c.toList=some os)
 (u:B8 P n m.next os 0 (Q .normal) e (m.at (m.next+os.length))):AWpT P n n0 (.region id c false) Q e m:=by
 have v:E2 P m.next os 0 (C1 n Q .normal) (toE n e) (m.at (m.next+os.length)).mem:=Zia (fun e m C=>⟨e,m,rfl,C⟩) os 0 e _ u
 intro W Φ ρ a w o D E B;have y:AWp P (.region id c false) (C1 n Q) ⟨toE n e,m.mem⟩:=Z76 A v;refine wp_mono (y W Φ ρ a w D E B) fun x H w' h=>?_
 obtain⟨G,j,ρ',k,p,q,r,s,t,g⟩:=h;have d:∀ b,b<n0→ρ' b=ρ b:=fun b z=>by
  cases f:ρ b with
  | none=>exact p b (Nat.lt_of_lt_of_le z o) f
  | some l=>exact k.rho b l f
 have i:m.next≤G.m.next:=q;cases x<;>simp only[C1]at g<;>first
  | exact g.elim
  | (obtain ⟨e',F,rfl,f⟩:=g
     exact⟨e',F,j,ρ',k.pers,d,Nat.le_trans o i,r,s,t,fun l h=>(by cases h),f⟩)
variable {e:Env} {m:SMem} {base:Nat} {K:Env→SMem→Prop}
theorem Zd8{i:Nat}:B8 P n base [] i K e m=K e m:=propext Iff.rfl
theorem Ze4{i:Nat}(d:Option Nat)(op:AOp)(un:List Nat)(r:List AOper):B8 P n base (⟨d,op,none,un⟩ :: r) i K e m=match op with
 | .call f c=>clK (W8 n e f c) fun g args=>SC P g args m (base+i) fun v b=>B8 P n base r (i+1) K (Y3 e d v) b
 | .slArr nn k x lo hi=>stK (Zka nn k m.get (evE n e x) (J8 (evE n e) nn nn lo hi)) fun v a=>B8 P n base r (i+1) K (Y3 e d v) (m.app a)
 | op=>stK (stepD (base+i) (evE n e) m.get op) fun v a=>B8 P n base r (i+1) K (Y3 e d v) (m.app a):=by
 cases op<;>rfl
end
end Go.AE
