/- Part 6 of the proof: AeHd. -/
import Derived.Test.YtilmpmlkndfbjaaGreatDoorI5
set_option linter.all false
namespace Go.AE
open Go.RowKit
def Ze9(P:Program)(G:FuncId):Prop:=
 ∃ fn tS tR e size,P.funcs[G]? = some fn∧(fn.name == "runtime.NumGoroutine")=false∧fn.body.isNone=true∧Extern.findNext fn=none∧Extern.find fn=some (Extern.SlicesOverlaps.overlaps #[tS,tS] #[tR]) ∧
  P.underlying tS=some (.slice e) ∧ ∀ w,(Go.sizeOf e).run P w=.ok size w
def cwX(P:Program)(G:FuncId):CallW:=fun fn args m id K=>cwFn P fn args m id K ∨
 (fn=.func G ∧ ∃ b1 o1 l1 b2 o2 l2 k1 e1 k2 e2,args=[.sl b1 o1 l1,.sl b2 o2 l2]∧b1≠b2∧0<l1∧0<l2∧0<k2∧m.get b1=some (.cells k1 e1)∧m.get b2=some (.cells k2 e2)∧K (.bool false) m)
section
variable {P:Program}
theorem Zz0{n:Nat}{H:HypW}{G:FuncId}(hG:Ze9 P G):Zbi Fence.wide n H P (cwX P G):=by
 intro fn args m id K f W Φ ρ hH vs w t v F E;rcases f with f|⟨rfl,O,o1,l1,Q,o2,l2,k1,e1,k2,e2,rfl,I,h1,h2,D,p,q,hK⟩
 ·exact Zkd Open.wide fn args m id K f W Φ ρ hH vs w t v F E
 ·obtain⟨fn,tS,tR,e,size,hf,g,hb,J,C,M,L⟩:=hG;obtain⟨v1,N,rfl⟩:∃ v1 N,vs = #[v1,N]:=by
   have hs:vs.size=2:=by simpa using v.1
   refine⟨vs[0],vs[1],?_⟩;apply Array.ext
   ·simp[hs]
   ·intro i h1 h2;have:i=0∨i=1:=by omega
    rcases this with rfl|rfl<;>rfl
  have r1:=v.2 0 _ v1 rfl rfl;have r2:=v.2 1 _ N rfl rfl;cases r1 with
  | sl _ _ _ a1 j b r Y V c S=>
   cases r2 with
   | sl _ _ _ a2 l a s Z X d U=>
    have z:=c (by omega)
    have A:=d (by omega)
    subst z; subst A;obtain⟨x1,aa,u,g2,g3,B,g5⟩:=t.live O _ p;rw[r]at u; injection u with u; subst u
    obtain⟨x2,ab,y,j2,j3,j4,j5⟩:=t.live Q _ q;rw[s]at y; injection y with y; subst y
    have o:b.blk≠a.blk:=fun hh=>I (t.inj O Q _ _ _ _ p q r s hh)
    cases g5 with
    | cells _ _ _ c1 t1 q1 q2 q3 q4 q5=>
     cases j5 with
     | cells _ _ _ c2 t2 p1 p2 p3 p4 p5=>
      refine .inr (.inr ⟨G,.bool false,w,rfl,?_,.bool false,.bool false,m,Φ,ρ,rfl,.refl _ _,fun _ _ _ h=>h,t,.bool false,Nat.le_refl _,hK⟩)
      rw[run_callFunc_extern hf g hb J C];have:=Lib.run_overlaps_apart (P:=P) w tS tR e M size L ⟨b.blk,(b.sh+o1)*b.k,none⟩ ⟨a.blk,(a.sh+o2)*a.k,none⟩ l1 j l2 l o t1 t2 c1.size c2.size
       (by simp[World.shape?,B]) (by simp[World.shape?,j4]) (by
         rw[p2];have F:0<a.n:=by omega
         have:=Nat.mul_pos F D;omega) (by simp[World.frozen?,B]) (by simp[World.frozen?,B])
      rw[this];rfl
def fcX(call:Caller)(G:FuncId):FCaller:=fun fn args m=>
 match fn with
 | .func g=>bif Nat.beq g G then match args with
  | [.sl b1 _ l1,.sl b2 _ l2]=>match m.tr.get b1,m.tr.get b2 with
   | some (.cells _ _),some (.cells k2 _)=>bif !(Nat.beq b1 b2)&&Nat.ble 1 l1&&Nat.ble 1 l2&&Nat.ble 1 k2 then some (.bool false,m,[])else none
   | _,_=>none
  | _=>none
  else call g args m
 | _=>none
theorem Yg6{a:Caller}(b:P4 P a)(G:FuncId):Zjk (cwX P G) (fcX a G):=by
 intro fn args m v A wl h;cases fn<;>simp only[fcX]at h<;>first|(cases h; done)|skip
 rename_i g;cases j:Nat.beq g G with
 | false=>
  rw[j]at h;obtain⟨d,f,y⟩:=Zjo b (.func g) args m v A wl h;exact⟨d,f,fun id K i=>.inl (y id K i)⟩
 | true=>
  rw[j]at h;simp only[cond_true]at h;have k:=Nat.eq_of_beq_eq_true j;subst k;split at h<;>first|(cases h; done)|skip
  rename_i l B q n C r;split at h<;>first|(cases h; done)|skip
  rename_i z u p w d f;cases c:!(Nat.beq l n)&&Nat.ble 1 q&&Nat.ble 1 r&&Nat.ble 1 p with
  | false=>rw[c]at h; cases h
  | true=>
   rw[c]at h;simp only[cond_true,oI,pI2]at h;obtain⟨rfl,rfl,rfl⟩:=h;simp only[bA,Bool.not_eq_true']at c;obtain⟨⟨⟨o,s⟩,t⟩,c4⟩:=c;exact⟨Nat.le_refl _,fun _ _ _=>rfl,fun id K i=>.inr ⟨rfl,l,B,q,n,C,r,z,u,p,w,rfl,(fun e=>by subst e; rw[Nat.beq_refl]at o; cases o),Nat.le_of_ble_eq_true s,Nat.le_of_ble_eq_true t,Nat.le_of_ble_eq_true c4,d,f,i⟩⟩
def runX(tab:Nat→Option AFn)(call:Caller)(G b N:Nat)(ex:Bool)(g:FuncId)(args:List AVal)(m:TM):Option (AVal×TM×List Nat):=
 match tab g with
 | some af=>bif Nat.ble args.length af.ntmps then match T7 (sdX b N ex) (fcX call G) call true true m.next 1000 af.body ⟨H0 .nil 0 args,m,[]⟩ with
  | some (.exit _,_)=>none
  | some (_,s)=>match A9 s.t s.m af.results with
   | some v=>some (v,s.m,s.wl)
   | none=>none
  | none=>none
  else none
 | none=>none
theorem Ye2(hm:P.follows .mixedOrders=true){tab:Nat→Option AFn}(l:Zeu P tab){d:Caller}(a:P4 P d){G b N:Nat}{ex:Bool}(F:Ze9 P G){g:FuncId}{args:List AVal}{m n:TM}{v:AVal}{wl:List Nat}
 (h:runX tab d G b N ex g args m=some (v,n,wl)):m.next≤n.next∧(∀ c,c<m.next→c∉wl→n.mem.get c=m.mem.get c)∧ACallsH (HEx b N ex) P g args m.mem fun r A=>r=v∧A=n.mem:=by
 unfold runX at h;cases z:tab g with
 | none=>simp[z]at h
 | some f=>
  simp only[z]at h;obtain⟨⟨fn,p,q⟩,I,B⟩:=l g f z;cases u:Nat.ble args.length f.ntmps with
  | false=>rw[u]at h; cases h
  | true=>
   rw[u]at h;simp only[cond_true]at h;obtain⟨C,D⟩:=Zmh B (Zmw u);split at h<;>first|(cases h; done)|skip
   rename_i e s w k;obtain⟨o,E⟩:=Zjf (Z49 b N ex) (Yg6 a G) a B 1000 f.body ⟨H0 .nil 0 args,m,[]⟩ s e C (Nat.le_refl _) I k;cases y:A9 s.t s.m f.results with
   | none=>simp[y]at h
   | some r=>
    simp only[y,oI,pI2]at h;obtain⟨rfl,rfl,rfl⟩:=h;refine⟨o.next,fun c H J=>(o.keep c H J).2,Zuf hm HEx.mono (Zy9 Open.wide b N ex) (Zz0 F) p q ?_⟩
    rw[← D];refine E _ ?_;have j:M5 (toL f.ntmps s.t) s.m.mem f.results=some r:=by rw[Zmd o.t]; exact y
    cases e with
    | normal=>simp only[REnd.exit',retK,RS.st,j]; exact⟨trivial,trivial⟩
    | ret=>simp only[REnd.exit',retK,RS.st,j]; exact⟨trivial,trivial⟩
    | exit i=>exact absurd rfl (w i)
def padM(m:TM)(b k:Nat)(els:List (List AVal))(N:Nat):TM:=m.set b (some (.cells k (els++List.replicate (N - els.length) (List.replicate k .bot))))
def oneX(tab:Nat→Option AFn)(call:Caller)(G b k:Nat)(els:List (List AVal))(N:Nat)(ex:Bool)(g:FuncId)(args:List AVal)(m:TM):Option (List (List AVal)×Nat):=
 match runX tab call G b N ex g args (padM m b k els N)with
 | some (.sl br off tot,m2,wl)=>bif (Nat.beq br b||Nat.ble m.next br)&&wl.all (Nat.beq b)then match m2.tr.get br with
  | some (.cells k2 els2)=>bif Nat.beq k2 k&&Nat.ble (off+tot) els2.length then some ((els2.drop off).take tot,m2.next)else none
  | _=>none
  else none
 | _=>none
def Zhk(m:Mem)(b k:Nat)(rows:List (List AVal))(nx:Nat):Mem:=((m.del b).set nx (.cells k rows)).at (nx+1)
theorem Zz3{W:Base}{Φ:Pers}{ρ:Rho}{m:Mem}{w:World}{b k N:Nat}{els:List (List AVal)}{l:Loc}(d:Rel W Φ ρ m w)(A:m.get b=some (.cells k els))(B:ρ b=some l)(Y:els.length≤N)(z:l.sh+N≤l.n) :
 Rel W Φ ρ (m.set b (.cells k (els++List.replicate (N - els.length) (List.replicate k .bot)))) w:=by
 obtain⟨l',o,p,G,H,I,J⟩:=d.live b _ A;rw[B]at p; injection p with p; subst p
 cases J with
 | cells _ _ _ c e U C q3 D E=>
  have f:∀ q F,(m.set b (.cells k (els++List.replicate (N - els.length) (List.replicate k .bot)))).get q=some F → ∃ x,m.get q=some x:=by
   intro q F h;simp only[Mem.get_set]at h;split at h
   ·rename_i O; subst O; exact⟨_,A⟩
   ·exact⟨_,h⟩
  refine⟨d.base,d.pers,fun b' x a=>?_,fun V X x1 x2 Z l2 r K L M=>?_,d.fresh,d.newp⟩
  ·simp only[Mem.get_set]at a;split at a
   ·rename_i s;subst s;injection a with a
    subst a;refine⟨l,_,B,G,H,I,.cells _ _ _ _ _ U C (by simp only[List.length_append,List.length_replicate]; omega) ⟨fun i row hi=>?_,fun i row j x hi u=>?_⟩ E⟩
    ·rw[List.getElem?_append]at hi;split at hi
     ·exact D.1 i row hi
     ·have:=List.eq_of_mem_replicate (List.mem_of_getElem? hi);subst this;simp
    ·rw[List.getElem?_append]at hi;split at hi
     ·exact D.2 i row j x hi u
     ·rename_i P;have g:=List.eq_of_mem_replicate (List.mem_of_getElem? hi);have t:=(gS.1 hi).1;simp only[List.length_replicate]at t;subst g;have a:=List.eq_of_mem_replicate (List.mem_of_getElem? u);have v:=(gS.1 u).1;simp only[List.length_replicate]at v;subst a;have y:(l.sh+i)*k+j<c.size:=by
       rw[C];have r:(l.sh+i+1)*k≤l.n*k:=Nat.mul_le_mul_right _ (by omega)
       rw[Nat.add_mul]at r;omega
      exact⟨c[(l.sh+i)*k+j],Array.getElem?_eq_getElem y,E _ (by simp),.bot _⟩
   ·exact d.live b' x a
  ·obtain⟨y1,Q⟩:=f _ _ r;obtain⟨y2,S⟩:=f _ _ K;exact d.inj _ _ _ _ _ _ Q S L M
theorem Z1o{m:TM}{b k N:Nat}{els:List (List AVal)}(a:b<bound):(padM m b k els N).mem=m.mem.set b (.cells k (els++List.replicate (N - els.length) (List.replicate k .bot))):=TM.set_mem_some a
def Zsm(ex:Bool)(N:Nat)(l:Loc):Prop:=match ex with
 | true=>l.n=l.sh+N
 | false=>l.sh+N≤l.n
def Z9a(W:Base)(Φ:Pers)(ρ:Rho)(m:Mem)(b k:Nat)(rows:List (List AVal))(nx:Nat)(e:Ending)(w':World):Prop:=
 ∃ v Φ' ρ',e=.returned v∧Ext Φ ρ Φ' ρ'∧KeepN m.next ρ ρ'∧Rel W Φ' ρ' (Zhk m b k rows nx) w'∧R Φ' ρ' (.sl nx 0 rows.length) v
theorem Zwh(hm:P.follows .mixedOrders=true){tab:Nat→Option AFn}(J:Zeu P tab){s:Caller}(y:P4 P s){G b k N:Nat}{els rows:List (List AVal)}{ex:Bool}(hG:Ze9 P G){g:FuncId}{args:List AVal}{m:TM}{K:Nat}
 (hb:b<bound) (hg:m.mem.get b=some (.cells k els)) (hN:els.length≤N) (h:oneX tab s G b k els N ex g args m=some (rows,K)) :
 Zic P g ∧ ∀(nx:Nat),K≤nx→m.next≤nx → ∀(W:Base) (Φ:Pers) (ρ:Rho) (l:Loc),ρ b=some l→Zsm ex N l → ∀(vs:Array Value) (w:World),Rel W Φ ρ m.mem w→RL Φ ρ args vs →
  Calls P g vs w (Z9a W Φ ρ m.mem b k rows nx):=by
 unfold oneX at h;split at h<;>first|(cases h; done)|skip
 rename_i C off tot m2 wl I;cases B:(Nat.beq C b||Nat.ble m.next C)&&wl.all (Nat.beq b)with
 | false=>rw[B]at h; cases h
 | true=>
  rw[B]at h;simp only[cond_true]at h;simp only[bA,Bool.or_eq_true]at B;obtain⟨i,ac⟩:=B;split at h<;>first|(cases h; done)|skip
  rename_i k2 f Y;cases j:Nat.beq k2 k&&Nat.ble (off+tot) f.length with
  | false=>rw[j]at h; cases h
  | true=>
   rw[j]at h;simp only[cond_true,oI,pI2]at h;obtain⟨rfl,rfl⟩:=h;simp only[bA]at j;have hk:=Nat.eq_of_beq_eq_true j.1;subst hk;have af:=Nat.le_of_ble_eq_true j.2;obtain⟨h1,h2,O⟩:=Ye2 hm J y hG I;refine⟨O.1,fun nx ad ae W Φ ρ l hl d vs w hr ha=>?_⟩
   have ab:l.sh+N≤l.n:=by
    cases ex with
    | true=>simp only[Zsm]at d; omega
    | false=>exact d
   have hp:=Zz3 hr hg hl hN ab;rw[Z1o hb]at O;refine(O.2 W Φ ρ ⟨l,hl,d⟩ vs w hp ha).mono ?_;rintro e w' ⟨v,r,ah,L,ρ',rfl,e1,k1,r1,hR,n1,rfl,rfl⟩;have t:m2.mem.get C=some (.cells k2 f):=Y;cases hR with
   | sl _ _ _ ad cap a H aa X D S=>
    have p:ρ' nx=none:=by
     cases hq:ρ' nx with
     | none=>rfl
     | some q=>have:=r1.fresh _ _ hq; have:m2.mem.next=m2.next:=rfl; omega
    obtain⟨ag,ob,M,g2,g3,g4,g5⟩:=r1.live C _ t;rw[H]at M; injection M with M; subst M
    cases g5 with
    | cells _ _ _ c e' q1 q2 q3 q4 q5=>
     have u:((f.drop off).take tot).length=tot:=by simp; omega
     have Q:BR L (ρ'.put nx ⟨a.blk,a.sh+off,a.k,a.n⟩) (.cells k2 ((f.drop off).take tot)) ⟨a.blk,a.sh+off,a.k,a.n⟩ (.cells c e' (0,0)):=
      BR.ext (Rho.ext_put p) (.cells _ _ _ _ _ q1 q2 (by rw[u]; show a.sh+off+tot≤a.n; omega) (Zt4 q4) q5)
     have r2:=Ztz (l':=⟨a.blk,a.sh+off,a.k,a.n⟩) (r1.at_ (n:=nx+1) (by have:m2.mem.next=m2.next:=rfl; omega)) t H p (Nat.lt_succ_self nx) rfl Q
     rw[Zla g4]at r2;refine⟨_,L,ρ'.put nx ⟨a.blk,a.sh+off,a.k,a.n⟩,rfl,e1.trans (Rho.ext_put p),fun c B h0=>?_,r2.sub ⟨fun c x A=>?_,Nat.le_refl _⟩,?_⟩
     ·unfold Rho.put;rw[if_neg (by have:m.mem.next=m.next:=rfl; omega)]
      exact k1 c B h0
     ·simp only[Zhk,Mem.get_at,Mem.get_set,Mem.get_del]at A ⊢;split at A
      ·rename_i o;rw[if_pos o];exact A
      ·rename_i o;rw[if_neg o];split at A
       ·cases A
       ·rename_i z;have F:c<m.next:=by
         obtain⟨lc,_,V,_⟩:=hr.live c x A;exact hr.fresh c lc V
        have E:c≠C:=by
         intro e;subst e;rcases i with i|i
         ·exact z (Nat.eq_of_beq_eq_true i)
         ·have:=Nat.le_of_ble_eq_true i; omega
        rw[if_neg E];have Z:=h2 c F (fun hw=>z (by
         have:=List.all_eq_true.1 ac c hw;exact(Nat.eq_of_beq_eq_true this).symm))
        rw[Z,Z1o hb];simp only[Mem.get_set];rw[if_neg z];exact A
     ·rw[u];refine .sl nx 0 tot ad cap ⟨a.blk,a.sh+off,a.k,a.n⟩ Rho.put_same aa (by simpa using X) (fun U=>?_) S
      rw[D U];rfl
def allX(tab:Nat→Option AFn)(call:Caller)(G b k:Nat)(els:List (List AVal))(g:FuncId)(args:List AVal)(m:TM)(T:Nat)(rows:List (List AVal)):Nat→Nat→Nat→Option Nat
 | 0,_,nx=>some nx
 | c+1,N,nx=>match oneX tab call G b k els N (Nat.ble (N+1) T) g args m with
  | some (r,nx1)=>bif Zfo r rows then allX tab call G b k els g args m T rows c (N+1) (bif Nat.ble nx nx1 then nx1 else nx)else none
  | none=>none
theorem Ztt{tab:Nat→Option AFn}{e:Caller}{G b k:Nat}{els:List (List AVal)}{g:FuncId}{args:List AVal}{m:TM}{T:Nat}{rows:List (List AVal)}:∀ (c N nx d:Nat),allX tab e G b k els g args m T rows c N nx=some d →
 nx≤d ∧ ∀ f,N≤f→f<N+c → ∃ a,a≤d∧oneX tab e G b k els f (Nat.ble (f+1) T) g args m=some (rows,a)
 | 0,N,nx,d,h=>by
  simp only[allX,oI]at h;subst h;exact⟨Nat.le_refl _,fun f j p=>by omega⟩
 | c+1,N,nx,d,h=>by
  simp only[allX]at h;cases l:oneX tab e G b k els N (Nat.ble (N+1) T) g args m with
  | none=>simp[l]at h
  | some r=>
   obtain⟨r,a⟩:=r;simp only[l]at h;cases n:Zfo r rows with
   | false=>rw[n]at h; cases h
   | true=>
    rw[n]at h;simp only[cond_true]at h;have o:=Zr1 _ _ n;subst o;obtain⟨j,p⟩:=Ztt c (N+1) _ d h;have i:nx≤(bif Nat.ble nx a then a else nx)∧a≤(bif Nat.ble nx a then a else nx):=by
     cases q:Nat.ble nx a with
     | true=>exact ⟨Nat.le_of_ble_eq_true q,Nat.le_refl _⟩
     | false=>
      refine⟨Nat.le_refl _,?_⟩;have:=Zja q;exact Nat.le_of_lt this
    refine⟨Nat.le_trans i.1 j,fun f t u=>?_⟩
    by_cases s:f=N
    ·subst s;exact⟨a,Nat.le_trans i.2 j,l⟩
    ·exact p f (by omega) (by omega)
def Zjd:List AVal→Nat
 | []=>0
 | [x]=>(T0 x).getD 0
 | _ :: r=>Zjd r
def Zfj(g:Nat):List (Nat×Nat)→Option Nat
 | []=>none
 | (a,b) :: r=>bif Nat.beq a g then some b else Zfj g r
def Zq1(tab:Nat→Option AFn)(call:Caller)(spec:List (Nat×Nat)):Caller:=fun g args m=>
 match Zfj g spec with
 | none=>none
 | some G=>match args with
  | .sl b off len :: _=>match m.tr.get b with
   | some (.cells k els)=>bif Nat.beq els.length (off+len)&&Nat.ble (b+1) bound&&Nat.ble (m.next+100000) bound then
    match oneX tab call G b k els els.length (Nat.ble (els.length+1) (els.length+Zjd args)) g args m with
    | some (rows,nx0)=>match allX tab call G b k els g args m (els.length+Zjd args) rows (Zjd args) (els.length+1) (bif Nat.ble m.next nx0 then nx0 else m.next)with
     | some nx=>bif Nat.ble (nx+1) bound then some (.sl nx 0 rows.length,⟨(m.tr.set depth b none).set depth nx (some (.cells k rows)),nx+1⟩,[b])else none
     | none=>none
    | none=>none
    else none
   | _=>none
  | _=>none
theorem Z40(hm:P.follows .mixedOrders=true){tab:Nat→Option AFn}(A:Zeu P tab){d:Caller}(o:P4 P d){p:List (Nat×Nat)}(hs:∀ g G,Zfj g p=some G→Ze9 P G):P4 P (Zq1 tab d p):=by
 intro g args m v K wl h;unfold Zq1 at h;cases N:Zfj g p with
 | none=>simp[N]at h
 | some G=>
  simp only[N]at h;have Y:=hs g G N;split at h<;>first|(cases h; done)|skip
  rename_i b off len i;split at h<;>first|(cases h; done)|skip
  rename_i k els Q;have O:m.mem.get b=some (.cells k els):=Q;cases t:Nat.beq els.length (off+len)&&Nat.ble (b+1) bound&&Nat.ble (m.next+100000) bound with
  | false=>rw[t]at h; cases h
  | true=>
   rw[t]at h;simp only[cond_true]at h;simp only[bA]at t;have ac:=Nat.eq_of_beq_eq_true t.1.1;have M:b<bound:=Nat.le_of_ble_eq_true t.1.2;obtain⟨T,hT⟩:∃ T,T=Zjd (AVal.sl b off len :: i):=⟨_,rfl⟩
   rw[← hT]at h;cases V:oneX tab d G b k els els.length (Nat.ble (els.length+1) (els.length+T)) g (.sl b off len :: i) m with
   | none=>simp[V]at h
   | some r=>
    obtain⟨rows,a⟩:=r;simp only[V]at h;cases j:allX tab d G b k els g (.sl b off len :: i) m (els.length+T) rows T (els.length+1) (bif Nat.ble m.next a then a else m.next)with
    | none=>simp[j]at h
    | some nx=>
     simp only[j]at h;cases B:Nat.ble (nx+1) bound with
     | false=>rw[B]at h; cases h
     | true=>
      rw[B]at h;simp only[cond_true,oI,pI2]at h;obtain⟨rfl,rfl,rfl⟩:=h;obtain⟨H,E⟩:=Ztt _ _ _ _ j;have I:m.next≤nx∧a≤nx:=by
       have u:m.next≤(bif Nat.ble m.next a then a else m.next)∧a≤(bif Nat.ble m.next a then a else m.next):=by
        cases J:Nat.ble m.next a with
        | true=>exact ⟨Nat.le_of_ble_eq_true J,Nat.le_refl _⟩
        | false=>exact ⟨Nat.le_refl _,Nat.le_of_lt (Zja J)⟩
       exact⟨Nat.le_trans u.1 H,Nat.le_trans u.2 H⟩
      have U:nx<bound:=Nat.le_of_ble_eq_true B;have y:(⟨(m.tr.set depth b none).set depth nx (some (.cells k rows)),nx+1⟩:TM).mem=Zhk m.mem b k rows nx:=by
       refine Mem.ext' (fun c=>?_) rfl
       simp only[Zhk,Mem.get_at,Mem.get_set,Mem.get_del,TM.mem];rw[Tr.get_set depth _ nx _ c (Zfs U)];split
       ·rfl
       ·rw[Tr.get_set depth _ b _ c (Zfs M)]
      have z:∀ f,els.length≤f→f≤els.length+T → ∃ s,s≤nx∧oneX tab d G b k els f (Nat.ble (f+1) (els.length+T)) g (.sl b off len :: i) m=some (rows,s):=by
       intro f L X;by_cases he:f=els.length
       ·subst he; exact⟨a,I.2,V⟩
       ·exact E f (by omega) (by omega)
      refine⟨by show m.next≤nx+1; omega,fun c t hw=>?_,fun id=>⟨?_,fun W Φ ρ vs w hr ha ab=>?_⟩⟩
      ·rw[y];simp only[List.mem_singleton]at hw;simp only[Zhk,Mem.get_at,Mem.get_set,Mem.get_del];rw[if_neg (by omega),if_neg hw]
      ·obtain⟨s,_,C⟩:=z els.length (Nat.le_refl _) (by omega)
       exact(Zwh hm A o Y M O (Nat.le_refl _) C).1
      ·obtain⟨l,ob,g1,g2,g3,g4,g5⟩:=hr.live b _ O;have aa:l.sh+els.length≤l.n:=by
        cases g5 with
        | cells _ _ _ c e q1 q2 q3 q4 q5=>exact q3
       rw[y];have F:∀ f,els.length≤f→f≤els.length+T→Zsm (Nat.ble (f+1) (els.length+T)) f l →
        Calls P g vs w fun e w'=>∃ v r K q ρ',e=.returned v∧Ext Φ ρ q ρ'∧(∀ b,b<m.mem.next→b∉[id]→ρ b=none→ρ' b=none)∧Rel W q ρ' K w'∧R q ρ' r v∧m.mem.next≤K.next∧r=.sl nx 0 rows.length∧K=Zhk m.mem b k rows nx:=by
        intro f L X D;obtain⟨s,S,C⟩:=z f L X;refine((Zwh hm A o Y M O L C).2 nx S I.1 W Φ ρ l g1 D vs w hr ha).mono ?_;rintro e w' ⟨v,q,ρ',rfl,e1,k1,r1,hR⟩;exact⟨v,_,_,q,ρ',rfl,e1,fun c t _ h0=>k1 c t h0,r1,hR,by show m.next≤nx+1; omega,rfl,rfl⟩
       by_cases Z:els.length+T≤l.n - l.sh
       ·refine F (els.length+T) (by omega) (Nat.le_refl _) ?_
        have:Nat.ble (els.length+T+1) (els.length+T)=false:=by
         cases J:Nat.ble (els.length+T+1) (els.length+T)with
         | false=>rfl
         | true=>have:=Nat.le_of_ble_eq_true J; omega
        rw[this];show l.sh+(els.length+T)≤l.n;omega
       ·refine F (l.n - l.sh) (by omega) (by omega) ?_
        rw[Nat.ble_eq_true_of_le (by omega)]
        show l.n=l.sh+(l.n - l.sh);omega
end
end Go.AE
