/- Part 6 -/
import Derived.Test.YtilmpmlkndfbjaaGreatDoorT5
set_option linter.all false
open List (replicate)
open Nat (beq ble eq_of_beq_eq_true le_of_ble_eq_true le_trans)
namespace Go.AE
open Go.RowKit
def OK(P:Program)(G:FuncId):Prop:=
 ∃ fn tS tR e size,P.funcs[G]? = some fn∧(fn.name == "runtime.NumGoroutine")=false∧fn.body.isNone=true∧Extern.findNext fn=none∧Extern.find fn=some (Extern.SlicesOverlaps.overlaps #[tS,tS] #[tR]) ∧
  P.underlying tS=some (.slice e) ∧ ∀ w,(Go.sizeOf e).run P w=.ok size w
def Zn(P:Program)(G:FuncId):Ck:=fun fn args m id K=>Gi P fn args m id K ∨
 (fn=.func G ∧ ∃ b1 o1 l1 b2 o2 l2 k1 e1 k2 e2,args=[.sl b1 o1 l1,.sl b2 o2 l2]∧b1≠b2∧0<l1∧0<l2∧0<k2∧m.get b1=some (.cells k1 e1)∧m.get b2=some (.cells k2 e2)∧K (.bool false) m)
section
variable {P:Program}
theorem Zzg{n:Nat}{H:CD}{G:FuncId}(hG:OK P G):Lb Fence.wide n H P (Zn P G):=by
 intro fn args m id K y W Φ ρ hH vs w s u F E;rcases y with y|⟨rfl,N,o1,l1,O,o2,l2,k1,e1,k2,e2,rfl,I,h1,h2,D,o,p,hK⟩
 ·exact VD Open.wide fn args m id K y W Φ ρ hH vs w s u F E
 obtain⟨fn,tS,tR,e,size,hf,f,hb,Y,C,L,J⟩:=hG;obtain⟨v1,M,rfl⟩:∃v1 M,vs = #[v1,M]:=by
  have hs:vs.size=2:=by simpa using u.1
  refine⟨vs[0],vs[1],?_⟩;apply Array.ext
  ·simp[hs]
  intro i h1 h2;have:i=0\/i=1:=by omega
  rcases this with rfl|rfl<;>rfl
 have r1:=u.2 0 _ v1 rfl rfl;have r2:=u.2 1 _ M rfl rfl;cases r1 with
 |sl _ _ _ a1 g b q V T c Q=>
  cases r2 with
  |sl _ _ _ a2 j a r X U d S=>
   have z:=c (by omega);have A:=d (by omega);subst z;subst A;obtain⟨x1,aa,t,g2,g3,B,g5⟩:=s.live N _ o;rw[q]at t;injection t with t;subst t
   obtain⟨x2,ab,v,j2,j3,j4,j5⟩:=s.live O _ p;rw[r]at v;injection v with v;subst v
   have l:b.blk≠a.blk:=λhh=>I (s.inj N O _ _ _ _ o p q r hh);cases g5 with
   |cells _ _ _ Z t1 q1 q2 q3 q4 q5=>
    cases j5 with
    |cells _ _ _ c2 t2 p1 p2 p3 p4 p5=>
     refine .inr (.inr ⟨G,.bool false,w,rfl,?_,.bool false,.bool false,m,Φ,ρ,rfl,.refl _ _,λ_ _ _ h=>h,s,.bool false,lR _,hK⟩);rw[run_callFunc_extern hf f hb Y C];have:=Lib.run_overlaps_apart (P:=P) w tS tR e L size J ⟨b.blk,(b.sh+o1)*b.k,none⟩ ⟨a.blk,(a.sh+o2)*a.k,none⟩ l1 g l2 j l t1 t2 Z.size c2.size
      (by simp[World.shape?,B]) (by simp[World.shape?,j4]) (by
        rw[p2];have F:0<a.n:=by omega
        have:=Nat.mul_pos F D;omega) (by simp[World.frozen?,B]) (by simp[World.frozen?,B])
     rw[this];rfl
def tJ(call:Ax)(G:FuncId):CU:=fun fn args m=>
 match fn with
 | .func g=>bif beq g G then match args with
  | [.sl b1 _ l1,.sl b2 _ l2]=>match m.tr.get b1,m.tr.get b2 with
   | some (.cells _ _),some (.cells k2 _)=>bif !(beq b1 b2)&&ble 1 l1&&ble 1 l2&&ble 1 k2 then some (.bool false,m,[])else none
   | _,_=>none
  | _=>none
  else call g args m
 | _=>none
theorem Yc7{a:Ax}(r:K2 P a)(G:FuncId):Xy (Zn P G) (tJ a G):=by
 intro fn args m v A wl h;cases fn<;>simp only[tJ]at h<;>first|(cases h;done)|skip
 rename_i g;cases i:beq g G with
 |false=>
  rw[i]at h;obtain⟨c,d,y⟩:=Xb r (.func g) args m v A wl h;exact⟨c,d,λid K f=>.inl (y id K f)⟩
 |true=>
  rw[i]at h;simp only[cond_true]at h;have j:=eq_of_beq_eq_true i;subst j;split at h<;>first|(cases h;done)|skip
  rename_i k B p l C q;split at h<;>first|(cases h;done)|skip
  rename_i z u o w c d;cases b:!(beq k l)&&ble 1 p&&ble 1 q&&ble 1 o with
  |false=>rw[b]at h;cases h
  |true=>
   rw[b]at h;simp only[cond_true,oI,AT]at h;obtain⟨rfl,rfl,rfl⟩:=h;simp only[bA,Bool.not_eq_true']at b;obtain⟨⟨⟨n,s⟩,t⟩,c4⟩:=b;exact⟨lR _,λ_ _ _=>rfl,λid K f=>.inr ⟨rfl,k,B,p,l,C,q,z,u,o,w,rfl,(λe=>by subst e;rw[Nat.beq_refl]at n;cases n),le_of_ble_eq_true s,le_of_ble_eq_true t,le_of_ble_eq_true c4,c,d,f⟩⟩
def Ue(BS:Nat→Option AD)(call:Ax)(G b N:Nat)(ex:Bool)(g:FuncId)(args:List Aa)(m:TM):Option (Aa×TM×List Nat):=
 match BS g with
 | some af=>bif ble args.length af.ntmps then match Q4 (yA b N ex) (tJ call G) call true true m.next 1000 af.body ⟨D8 .nil 0 args,m,[]⟩ with
  | some (.exit _,_)=>none
  | some (_,s)=>match EH s.t s.m af.results with
   | some v=>some (v,s.m,s.wl)
   | none=>none
  | none=>none
  else none
 | none=>none
theorem Yd3(hm:P.follows .mixedOrders=true){BS:Nat->Option AD}(B:Ph P BS){a:Ax}(y:K2 P a){G b N:Nat}{ex:Bool}(F:OK P G){g:FuncId}{args:List Aa}{m k:TM}{v:Aa}{wl:List Nat}
 (h:Ue BS a G b N ex g args m=some (v,k,wl)):m.next<=k.next/\(∀c,c<m.next->c∉wl->k.mem.get c=m.mem.get c)/\Dm (RJ b N ex) P g args m.mem λr w=>r=v/\w=k.mem:=by
 unfold Ue at h;cases u:BS g with
 |none=>simp[u]at h
 |some d=>
  simp only[u]at h;obtain⟨⟨fn,A,n⟩,I,z⟩:=B g d u;cases o:ble args.length d.ntmps with
  |false=>rw[o]at h;cases h
  |true=>
   rw[o]at h;simp only[cond_true]at h;obtain⟨C,D⟩:=aJ z (fM o);split at h<;>first|(cases h;done)|skip
   rename_i e s p j;obtain⟨l,E⟩:=WA (Ylr b N ex) (Yc7 y G) y z 1000 d.body ⟨D8 .nil 0 args,m,[]⟩ s e C (lR _) I j;cases q:EH s.t s.m d.results with
   |none=>simp[q]at h
   |some r=>
    simp only[q,oI,AT]at h;obtain⟨rfl,rfl,rfl⟩:=h;refine⟨l.next,λc H J=>(l.keep c H J).2,v7 hm RJ.mono (rq Open.wide b N ex) (Zzg F) A n ?_⟩;rw[<-D];refine E _ ?_;have f:I6 (Cx d.ntmps s.t) s.m.mem d.results=some r:=by rw[bR l.t];exact q
    cases e with
    |normal=>simp only[Dn.exit',FX,RS.st,f];exact⟨trivial,trivial⟩
    |ret=>simp only[Dn.exit',FX,RS.st,f];exact⟨trivial,trivial⟩
    |exit i=>exact absurd rfl (p i)
def ZC(m:TM)(b k:Nat)(els:List (List Aa))(N:Nat):TM:=m.set b (some (.cells k (els++replicate (N - els.length) (replicate k .bot))))
def Hz(BS:Nat→Option AD)(call:Ax)(G b k:Nat)(els:List (List Aa))(N:Nat)(ex:Bool)(g:FuncId)(args:List Aa)(m:TM):Option (List (List Aa)×Nat):=
 match Ue BS call G b N ex g args (ZC m b k els N)with
 | some (.sl br off tot,m2,wl)=>bif (beq br b||ble m.next br)&&wl.all (beq b)then match m2.tr.get br with
  | some (.cells k2 els2)=>bif beq k2 k&&ble (off+tot) els2.length then some ((els2.drop off).take tot,m2.next)else none
  | _=>none
  else none
 | _=>none
def Uv(m:Mem)(b k:Nat)(rows:List (List Aa))(nx:Nat):Mem:=((m.del b).set nx (.cells k rows)).at (nx+1)
theorem Zwn{W:Aq}{Φ:Ap}{ρ:AI}{m:Mem}{w:World}{b k N:Nat}{els:List (List Aa)}{l:Loc}(d:Rel W Φ ρ m w)(z:m.get b=some (.cells k els))(A:ρ b=some l)(V:els.length<=N)(y:l.sh+N<=l.n) :
 Rel W Φ ρ (m.set b (.cells k (els++replicate (N-els.length) (replicate k .bot)))) w:=by
 obtain⟨l',o,p,F,G,H,I⟩:=d.live b _ z;rw[A]at p;injection p with p;subst p
 cases I with
 |cells _ _ _ c e S B Z C D=>
  have f:∀c' E,(m.set b (.cells k (els++replicate (N-els.length) (replicate k .bot)))).get c'=some E -> ∃x,m.get c'=some x:=by
   intro c' E h;simp only[Mem.AB]at h;split at h
   ·rename_i M;subst M;exact⟨_,z⟩
   exact⟨_,h⟩
  refine⟨d.base,d.AX,λb' x a=>?_,λT U x1 x2 X Y q J K L=>?_,d.fresh,d.BH⟩
  ·simp only[Mem.AB]at a;split at a
   ·rename_i r;subst r;injection a with a
    subst a;refine⟨l,_,A,F,G,H,.cells _ _ _ _ _ S B (by simp only[lA,List.length_replicate];omega) ⟨λi row hi=>?_,λi row j x hi t=>?_⟩ D⟩
    ·rw[List.getElem?_append]at hi;split at hi
     ·exact C.1 i row hi
     have:=List.eq_of_mem_replicate (List.mem_of_getElem? hi);subst this;simp
    rw[List.getElem?_append]at hi;split at hi
    ·exact C.2 i row j x hi t
    rename_i O;have g:=List.eq_of_mem_replicate (List.mem_of_getElem? hi);have s:=(gS.1 hi).1;simp only[List.length_replicate]at s;subst g;have a:=List.eq_of_mem_replicate (List.mem_of_getElem? t);have u:=(gS.1 t).1;simp only[List.length_replicate]at u;subst a;have v:(l.sh+i)*k+j<c.size:=by
     rw[B];have q:(l.sh+i+1)*k<=l.n*k:=Nat.mul_le_mul_right _ (by omega);rw[Nat.add_mul]at q;omega
    exact⟨c[(l.sh+i)*k+j],Array.getElem?_eq_getElem v,D _ (by simp),.bot _⟩
   exact d.live b' x a
  obtain⟨y1,P⟩:=f _ _ q;obtain⟨y2,Q⟩:=f _ _ J;exact d.inj _ _ _ _ _ _ P Q K L
theorem w6{m:TM}{b k N:Nat}{els:List (List Aa)}(a:b<bound):(ZC m b k els N).mem=m.mem.set b (.cells k (els++replicate (N-els.length) (replicate k .bot))):=TM.EJ a
def kD(ex:Bool)(N:Nat)(l:Loc):Prop:=match ex with
 | true=>l.n=l.sh+N
 | false=>l.sh+N≤l.n
def Yin(W:Aq)(Φ:Ap)(ρ:AI)(m:Mem)(b k:Nat)(rows:List (List Aa))(nx:Nat)(e:Ending)(w':World):Prop:=
 ∃ v Am ρ',e=.returned v∧Ext Φ ρ Am ρ'∧Bq m.next ρ ρ'∧Rel W Am ρ' (Uv m b k rows nx) w'∧R Am ρ' (.sl nx 0 rows.length) v
theorem tq(hm:P.follows .mixedOrders=true){BS:Nat->Option AD}(Eh:Ph P BS){p:Ax}(Az:K2 P p){G b k N:Nat}{els rows:List (List Aa)}{ex:Bool}(hG:OK P G){g:FuncId}{args:List Aa}{m:TM}{Gn:Nat}
 (hb:b<bound) (hg:m.mem.get b=some (.cells k els)) (hN:els.length<=N) (h:Hz BS p G b k els N ex g args m=some (rows,Gn)) :
 Vl P g /\ ∀(nx:Nat),Gn<=nx->m.next<=nx -> ∀(W:Aq) (Φ:Ap) (ρ:AI) (l:Loc),ρ b=some l->kD ex N l -> ∀(vs:Array Value) (w:World),Rel W Φ ρ m.mem w->RL Φ ρ args vs ->
  Calls P g vs w (Yin W Φ ρ m.mem b k rows nx):=by
 unfold Hz at h;split at h<;>first|(cases h;done)|skip
 rename_i B off tot m2 wl H;cases z:(beq B b||ble m.next B)&&wl.all (beq b)with
 |false=>rw[z]at h;cases h
 |true=>
  rw[z]at h;simp only[cond_true]at h;simp only[bA,Bool.or_eq_true]at z;obtain⟨A,V⟩:=z;split at h<;>first|(cases h;done)|skip
  rename_i X f O;cases i:beq X k&&ble (off+tot) f.length with
  |false=>rw[i]at h;cases h
  |true=>
   rw[i]at h;simp only[cond_true,oI,AT]at h;obtain⟨rfl,rfl⟩:=h;simp only[bA]at i;have hk:=eq_of_beq_eq_true i.1;subst hk;have EC:=le_of_ble_eq_true i.2;obtain⟨h1,h2,J⟩:=Yd3 hm Eh Az hG H;refine⟨J.1,λnx aa DB W Φ ρ l hl d vs w U ha=>?_⟩;have T:l.sh+N<=l.n:=by
    cases ex with
    |true=>simp only[kD]at d;omega
    |false=>exact d
   have hp:=Zwn U hg hl hN T;rw[w6 hb]at J;refine(J.2 W Φ ρ ⟨l,hl,d⟩ vs w hp ha).mono ?_;rintro e w' ⟨v,r,ac,Z,ρ',rfl,e1,k1,Y,hR,n1,rfl,rfl⟩;have s:m2.mem.get B=some (.cells X f):=O;cases hR with
   |sl _ _ _ ad cap a F S FM C BE=>
    have o:ρ' nx=none:=by
     cases hq:ρ' nx with
     |none=>rfl
     |some q=>have:=Y.fresh _ _ hq;have:m2.mem.next=m2.next:=rfl;omega
    obtain⟨ab,ob,I,g2,g3,g4,g5⟩:=Y.live B _ s;rw[F]at I;injection I with I;subst I
    cases g5 with
    |cells _ _ _ c e' q1 q2 q3 q4 q5=>
     have t:((f.drop off).take tot).length=tot:=by simp;omega
     have K:BR Z (ρ'.put nx ⟨a.blk,a.sh+off,a.k,a.n⟩) (.cells X ((f.drop off).take tot)) ⟨a.blk,a.sh+off,a.k,a.n⟩ (.cells c e' (0,0)):=
      BR.ext (AI.BU o) (.cells _ _ _ _ _ q1 q2 (by rw[t];show a.sh+off+tot<=a.n;omega) (sk q4) q5)
     have r2:=vt (l':=⟨a.blk,a.sh+off,a.k,a.n⟩) (Y.at_ (n:=nx+1) (by have:m2.mem.next=m2.next:=rfl;omega)) s F o (Nat.lt_succ_self nx) rfl K;rw[dS g4]at r2;refine⟨_,Z,ρ'.put nx ⟨a.blk,a.sh+off,a.k,a.n⟩,rfl,e1.trans (AI.BU o),λc z h0=>?_,r2.sub ⟨λc x y=>?_,lR _⟩,?_⟩
     ·unfold AI.put;rw[iN (by have:m.mem.next=m.next:=rfl;omega)];exact k1 c z h0
     ·simp only[Uv,Mem.get_at,Mem.AB,Mem.Bx]at y ⊢;split at y
      ·rename_i j;rw[iP j];exact y
      rename_i j;rw[iN j];split at y
      ·cases y
      rename_i u;have E:c<m.next:=by
       obtain⟨lc,_,M,_⟩:=U.live c x y;exact U.fresh c lc M
      have D:c≠B:=by
       intro e;subst e;rcases A with A|A
       ·exact u (eq_of_beq_eq_true A)
       have:=le_of_ble_eq_true A;omega
      rw[iN D];have Q:=h2 c E (λhw=>u (by
       have:=List.all_eq_true.1 V c hw;exact(eq_of_beq_eq_true this).symm))
      rw[Q,w6 hb];simp only[Mem.AB];rw[iN u];exact y
     rw[t];refine .sl nx 0 tot ad cap ⟨a.blk,a.sh+off,a.k,a.n⟩ AI.Bv S (by simpa using FM) (λL=>?_) BE;rw[C L];rfl
def Kb(BS:Nat→Option AD)(call:Ax)(G b k:Nat)(els:List (List Aa))(g:FuncId)(args:List Aa)(m:TM)(T:Nat)(rows:List (List Aa)):Nat→Nat→Nat→Option Nat
 | 0,_,nx=>some nx
 | c+1,N,nx=>match Hz BS call G b k els N (ble (N+1) T) g args m with
  | some (r,Gn)=>bif Qn r rows then Kb BS call G b k els g args m T rows c (N+1) (bif ble nx Gn then Gn else nx)else none
  | none=>none
theorem ze{BS:Nat->Option AD}{a:Ax}{G b k:Nat}{els:List (List Aa)}{g:FuncId}{args:List Aa}{m:TM}{T:Nat}{rows:List (List Aa)}:∀(c N nx i:Nat),Kb BS a G b k els g args m T rows c N nx=some i ->
 nx<=i /\ ∀e,N<=e->e<N+c -> ∃d,d<=i/\Hz BS a G b k els e (ble (e+1) T) g args m=some (rows,d)
 |0,N,nx,i,h=>by
  simp only[Kb,oI]at h;subst h;exact⟨lR _,λe j p=>by omega⟩
 |c+1,N,nx,i,h=>by
  simp only[Kb]at h;cases l:Hz BS a G b k els N (ble (N+1) T) g args m with
  |none=>simp[l]at h
  |some r=>
   obtain⟨r,d⟩:=r;simp only[l]at h;cases n:Qn r rows with
   |false=>rw[n]at h;cases h
   |true=>
    rw[n]at h;simp only[cond_true]at h;have o:=iY _ _ n;subst o;obtain⟨j,p⟩:=ze c (N+1) _ i h;have f:nx<=(bif ble nx d then d else nx)/\d<=(bif ble nx d then d else nx):=by
     cases q:ble nx d with
     |true=>exact ⟨le_of_ble_eq_true q,lR _⟩
     |false=>
      refine⟨lR _,?_⟩;have:=Xg q;exact Nat.le_of_lt this
    refine⟨le_trans f.1 j,λe t u=>?_⟩;by_cases s:e=N
    ·subst s;exact⟨d,le_trans f.2 j,l⟩
    exact p e (by omega) (by omega)
def WZ:List Aa→Nat
 | []=>0
 | [x]=>(S7 x).getD 0
 | _ :: r=>WZ r
def QI(g:Nat):List (Nat×Nat)→Option Nat
 | []=>none
 | (a,b) :: r=>bif beq a g then some b else QI g r
def iK(BS:Nat→Option AD)(call:Ax)(spec:List (Nat×Nat)):Ax:=fun g args m=>
 match QI g spec with
 | none=>none
 | some G=>match args with
  | .sl b off len :: _=>match m.tr.get b with
   | some (.cells k els)=>bif beq els.length (off+len)&&ble (b+1) bound&&ble (m.next+100000) bound then
    match Hz BS call G b k els els.length (ble (els.length+1) (els.length+WZ args)) g args m with
    | some (rows,nx0)=>match Kb BS call G b k els g args m (els.length+WZ args) rows (WZ args) (els.length+1) (bif ble m.next nx0 then nx0 else m.next)with
     | some nx=>bif ble (nx+1) bound then some (.sl nx 0 rows.length,⟨(m.tr.set depth b none).set depth nx (some (.cells k rows)),nx+1⟩,[b])else none
     | none=>none
    | none=>none
    else none
   | _=>none
  | _=>none
theorem Yek(hm:P.follows .mixedOrders=true){BS:Nat->Option AD}(S:Ph P BS){d:Ax}(O:K2 P d){o:List (Nat×Nat)}(hs:∀g G,QI g o=some G->OK P G):K2 P (iK BS d o):=by
 intro g args m v F wl h;unfold iK at h;cases J:QI g o with
 |none=>simp[J]at h
 |some G=>
  simp only[J]at h;have X:=hs g G J;split at h<;>first|(cases h;done)|skip
  rename_i b off len i;split at h<;>first|(cases h;done)|skip
  rename_i k els L;have K:m.mem.get b=some (.cells k els):=L;cases p:beq els.length (off+len)&&ble (b+1) bound&&ble (m.next+100000) bound with
  |false=>rw[p]at h;cases h
  |true=>
   rw[p]at h;simp only[cond_true]at h;simp only[bA]at p;have EC:=eq_of_beq_eq_true p.1.1;have I:b<bound:=le_of_ble_eq_true p.1.2;obtain⟨T,hT⟩:∃T,T=WZ (Aa.sl b off len::i):=⟨_,rfl⟩;rw[<-hT]at h;cases N:Hz BS d G b k els els.length (ble (els.length+1) (els.length+T)) g (.sl b off len::i) m with
   |none=>simp[N]at h
   |some r=>
    obtain⟨rows,a⟩:=r;simp only[N]at h;cases j:Kb BS d G b k els g (.sl b off len::i) m (els.length+T) rows T (els.length+1) (bif ble m.next a then a else m.next)with
    |none=>simp[j]at h
    |some nx=>
     simp only[j]at h;cases u:ble (nx+1) bound with
     |false=>rw[u]at h;cases h
     |true=>
      rw[u]at h;simp only[cond_true,oI,AT]at h;obtain⟨rfl,rfl,rfl⟩:=h;obtain⟨U,A⟩:=ze _ _ _ _ j;have Q:m.next<=nx/\a<=nx:=by
       have q:m.next<=(bif ble m.next a then a else m.next)/\a<=(bif ble m.next a then a else m.next):=by
        cases E:ble m.next a with
        |true=>exact ⟨le_of_ble_eq_true E,lR _⟩
        |false=>exact ⟨lR _,Nat.le_of_lt (Xg E)⟩
       exact⟨le_trans q.1 U,le_trans q.2 U⟩
      have M:nx<bound:=le_of_ble_eq_true u;have s:(⟨(m.tr.set depth b none).set depth nx (some (.cells k rows)),nx+1⟩:TM).mem=Uv m.mem b k rows nx:=by
       refine Mem.ext' (λc=>?_) rfl;simp only[Uv,Mem.get_at,Mem.AB,Mem.Bx,TM.mem];rw[Tr.AB depth _ nx _ c (Qj M)];split
       ·rfl
       rw[Tr.AB depth _ b _ c (Qj I)]
      have t:∀f,els.length<=f->f<=els.length+T -> ∃D,D<=nx/\Hz BS d G b k els f (ble (f+1) (els.length+T)) g (.sl b off len::i) m=some (rows,D):=by
       intro f H V;by_cases he:f=els.length
       ·subst he;exact⟨a,Q.2,N⟩
       exact A f (by omega) (by omega)
      refine⟨by show m.next<=nx+1;omega,λc p hw=>?_,λid=>⟨?_,λW Φ ρ vs w hr ha BE=>?_⟩⟩
      ·rw[s];simp only[List.mem_singleton]at hw;simp only[Uv,Mem.get_at,Mem.AB,Mem.Bx];rw[iN (by omega),iN hw]
      ·obtain⟨D,_,y⟩:=t els.length (lR _) (by omega);exact(tq hm S O X I K (lR _) y).1
      obtain⟨l,ob,g1,g2,g3,g4,g5⟩:=hr.live b _ K;have Z:l.sh+els.length<=l.n:=by
       cases g5 with
       |cells _ _ _ c e q1 q2 q3 q4 q5=>exact q3
      rw[s];have C:∀f,els.length<=f->f<=els.length+T->kD (ble (f+1) (els.length+T)) f l ->
       Calls P g vs w λe w'=>∃v r F B ρ',e=.returned v/\Ext Φ ρ B ρ'/\(∀b,b<m.mem.next->b∉[id]->ρ b=none->ρ' b=none)/\Rel W B ρ' F w'/\R B ρ' r v/\m.mem.next<=F.next/\r=.sl nx 0 rows.length/\F=Uv m.mem b k rows nx:=by
       intro f H V z;obtain⟨D,Dg,y⟩:=t f H V;refine((tq hm S O X I K H y).2 nx Dg Q.1 W Φ ρ l g1 z vs w hr ha).mono ?_;rintro e w' ⟨v,B,ρ',rfl,e1,k1,r1,hR⟩;exact⟨v,_,_,B,ρ',rfl,e1,λc p _ h0=>k1 c p h0,r1,hR,by show m.next<=nx+1;omega,rfl,rfl⟩
      by_cases Y:els.length+T<=l.n-l.sh
      ·refine C (els.length+T) (by omega) (lR _) ?_;have:ble (els.length+T+1) (els.length+T)=false:=by
        cases E:ble (els.length+T+1) (els.length+T)with
        |false=>rfl
        |true=>have:=le_of_ble_eq_true E;omega
       rw[this];show l.sh+(els.length+T)<=l.n;omega
      refine C (l.n-l.sh) (by omega) (by omega) ?_;rw[Nat.ble_eq_true_of_le (by omega)];show l.n=l.sh+(l.n-l.sh);omega
end
end Go.AE
