/- Part 6 of the proof: AeHd. -/
import Derived.Test.YtilmpmlkndfbjaaGreatDoorR5
set_option linter.all false
namespace Go.AE
open Go.RowKit
def Zgu(P:Program)(G:FuncId):Prop:=
 ∃ fn tS tR e size,P.funcs[G]? = some fn∧(fn.name == "runtime.NumGoroutine")=false∧fn.body.isNone=true∧Extern.findNext fn=none∧Extern.find fn=some (Extern.SlicesOverlaps.overlaps #[tS,tS] #[tR]) ∧
  P.underlying tS=some (.slice e) ∧ ∀ w,(Go.sizeOf e).run P w=.ok size w
def cwX(P:Program)(G:FuncId):CallW:=fun fn args m id K=>cwFn P fn args m id K ∨
 (fn=.func G ∧ ∃ b1 o1 l1 b2 o2 l2 k1 e1 k2 e2,args=[.sl b1 o1 l1,.sl b2 o2 l2]∧b1≠b2∧0<l1∧0<l2∧0<k2∧m.get b1=some (.cells k1 e1)∧m.get b2=some (.cells k2 e2)∧K (.bool false) m)
section
variable {P:Program}
theorem Zzl{n:Nat}{H:HypW}{G:FuncId}(hG:Zgu P G):Zem Fence.wide n H P (cwX P G):=by
 intro fn args m id K f W Φ ρ hH vs w t v F E;rcases f with f|⟨rfl,Q,o1,l1,S,o2,l2,k1,e1,k2,e2,rfl,I,h1,h2,D,p,q,hK⟩
 ·exact Zj0 Open.wide fn args m id K f W Φ ρ hH vs w t v F E
 ·obtain⟨fn,tS,tR,e,size,hf,g,hb,J,C,M,L⟩:=hG;obtain⟨N,O,rfl⟩:∃ N O,vs = #[N,O]:=by
   have hs:vs.size=2:=by simpa using v.1
   refine⟨vs[0],vs[1],?_⟩;apply Array.ext
   ·simp[hs]
   ·intro i h1 h2;have:i=0∨i=1:=by omega
    rcases this with rfl|rfl<;>rfl
  have r1:=v.2 0 _ N rfl rfl;have r2:=v.2 1 _ O rfl rfl;cases r1 with
  | sl _ _ _ a1 j b r Z X c U=>
   cases r2 with
   | sl _ _ _ a2 l a s aa Y d V=>
    have z:=c (by omega)
    have A:=d (by omega)
    subst z; subst A;obtain⟨x1,ab,u,g2,g3,B,g5⟩:=t.live Q _ p;rw[r]at u; injection u with u; subst u
    obtain⟨x2,ac,y,j2,j3,j4,j5⟩:=t.live S _ q;rw[s]at y; injection y with y; subst y
    have o:b.blk≠a.blk:=fun hh=>I (t.inj Q S _ _ _ _ p q r s hh)
    cases g5 with
    | cells _ _ _ c1 t1 q1 q2 q3 q4 q5=>
     cases j5 with
     | cells _ _ _ c2 t2 p1 p2 p3 p4 p5=>
      refine .inr (.inr ⟨G,.bool false,w,rfl,?_,.bool false,.bool false,m,Φ,ρ,rfl,.refl _ _,fun _ _ _ h=>h,t,.bool false,Nat.le_refl _,hK⟩)
      rw[run_callFunc_extern hf g hb J C];have:=Lib.run_overlaps_apart (P:=P) w tS tR e M size L ⟨b.blk,(b.sh+o1)*b.k,none⟩ ⟨a.blk,(a.sh+o2)*a.k,none⟩ l1 j l2 l o t1 t2 c1.size c2.size
       (by simp[World.shape?,B]) (by simp[World.shape?,j4]) (by
         rw[p2];have F:0<a.n:=by omega
         have:=Nat.mul_pos F D;omega) (by simp[World.frozen?,B]) (by simp[World.frozen?,B])
      rw[this];rfl
def fcX(call:Caller)(G:FuncId):FCaller:=fun fn args m=>
 match fn with
 | .func g=>bif Nat.beq g G then match args with
  | [.sl b1 _ l1,.sl b2 _ l2]=>match m.tr.get b1,m.tr.get b2 with
   | some (.cells _ _),some (.cells k2 _)=>bif !(Nat.beq b1 b2)&&Nat.ble 1 l1&&Nat.ble 1 l2&&Nat.ble 1 k2 then some (.bool false,m,[])else none
   | _,_=>none
  | _=>none
  else call g args m
 | _=>none
theorem Z0t{a:Caller}(b:O2 P a)(G:FuncId):Zji (cwX P G) (fcX a G):=by
 intro fn args m v A wl h;cases fn<;>simp only[fcX]at h<;>first|(cases h; done)|skip
 rename_i g;cases j:Nat.beq g G with
 | false=>
  rw[j]at h;obtain⟨d,f,y⟩:=Zjk b (.func g) args m v A wl h;exact⟨d,f,fun id K i=>.inl (y id K i)⟩
 | true=>
  rw[j]at h;simp only[cond_true]at h;have k:=Nat.eq_of_beq_eq_true j;subst k;split at h<;>first|(cases h; done)|skip
  rename_i l B q n C r;split at h<;>first|(cases h; done)|skip
  rename_i z u p w d f;cases c:!(Nat.beq l n)&&Nat.ble 1 q&&Nat.ble 1 r&&Nat.ble 1 p with
  | false=>rw[c]at h; cases h
  | true=>
   rw[c]at h;simp only[cond_true,oI,pI2]at h;obtain⟨rfl,rfl,rfl⟩:=h;simp only[bA,Bool.not_eq_true']at c;obtain⟨⟨⟨o,s⟩,t⟩,c4⟩:=c;exact⟨Nat.le_refl _,fun _ _ _=>rfl,fun id K i=>.inr ⟨rfl,l,B,q,n,C,r,z,u,p,w,rfl,(fun e=>by subst e; rw[Nat.beq_refl]at o; cases o),Nat.le_of_ble_eq_true s,Nat.le_of_ble_eq_true t,Nat.le_of_ble_eq_true c4,d,f,i⟩⟩
def runX(tab:Nat→Option AFn)(call:Caller)(G b N:Nat)(ex:Bool)(g:FuncId)(args:List AVal)(m:TM):Option (AVal×TM×List Nat):=
 match tab g with
 | some af=>bif Nat.ble args.length af.ntmps then match T5 (sdX b N ex) (fcX call G) call true true m.next 1000 af.body ⟨H0 .nil 0 args,m,[]⟩ with
  | some (.exit _,_)=>none
  | some (_,s)=>match A2 s.t s.m af.results with
   | some v=>some (v,s.m,s.wl)
   | none=>none
  | none=>none
  else none
 | none=>none
theorem Z5l(hm:P.follows .mixedOrders=true){tab:Nat→Option AFn}(l:Ze5 P tab){d:Caller}(a:O2 P d){G b N:Nat}{ex:Bool}(F:Zgu P G){g:FuncId}{args:List AVal}{m n:TM}{v:AVal}{wl:List Nat}
 (h:runX tab d G b N ex g args m=some (v,n,wl)):m.next≤n.next∧(∀ c,c<m.next→c∉wl→n.mem.get c=m.mem.get c)∧ACallsH (HEx b N ex) P g args m.mem fun r A=>r=v∧A=n.mem:=by
 unfold runX at h;cases z:tab g with
 | none=>simp[z]at h
 | some f=>
  simp only[z]at h;obtain⟨⟨fn,p,q⟩,I,B⟩:=l g f z;cases u:Nat.ble args.length f.ntmps with
  | false=>rw[u]at h; cases h
  | true=>
   rw[u]at h;simp only[cond_true]at h;obtain⟨C,D⟩:=Zlg B (Zk8 u);split at h<;>first|(cases h; done)|skip
   rename_i e s w k;obtain⟨o,E⟩:=Zil (Z8k b N ex) (Z0t a G) a B 1000 f.body ⟨H0 .nil 0 args,m,[]⟩ s e C (Nat.le_refl _) I k;cases y:A2 s.t s.m f.results with
   | none=>simp[y]at h
   | some r=>
    simp only[y,oI,pI2]at h;obtain⟨rfl,rfl,rfl⟩:=h;refine⟨o.next,fun c H J=>(o.keep c H J).2,Zr7 hm HEx.mono (Zzj Open.wide b N ex) (Zzl F) p q ?_⟩
    rw[← D];refine E _ ?_;have j:L6 (toL f.ntmps s.t) s.m.mem f.results=some r:=by rw[Znh o.t]; exact y
    cases e with
    | normal=>simp only[REnd.exit',retK,RS.st,j]; exact⟨trivial,trivial⟩
    | ret=>simp only[REnd.exit',retK,RS.st,j]; exact⟨trivial,trivial⟩
    | exit i=>exact absurd rfl (w i)
def padM(m:TM)(b k:Nat)(els:List (List AVal))(N:Nat):TM:=m.set b (some (.cells k (els++List.replicate (N - els.length) (List.replicate k .bot))))
def oneX(tab:Nat→Option AFn)(call:Caller)(G b k:Nat)(els:List (List AVal))(N:Nat)(ex:Bool)(g:FuncId)(args:List AVal)(m:TM):Option (List (List AVal)×Nat):=
 match runX tab call G b N ex g args (padM m b k els N)with
 | some (.sl br off tot,m2,wl)=>bif (Nat.beq br b||Nat.ble m.next br)&&wl.all (Nat.beq b)then match m2.tr.get br with
  | some (.cells k2 els2)=>bif Nat.beq k2 k&&Nat.ble (off+tot) els2.length then some ((els2.drop off).take tot,m2.next)else none
  | _=>none
  else none
 | _=>none
def Zhx(m:Mem)(b k:Nat)(rows:List (List AVal))(nx:Nat):Mem:=((m.del b).set nx (.cells k rows)).at (nx+1)
theorem Zzw{W:Base}{Φ:Pers}{ρ:Rho}{m:Mem}{w:World}{b k N:Nat}{els:List (List AVal)}{l:Loc}(d:Rel W Φ ρ m w)(z:m.get b=some (.cells k els))(A:ρ b=some l)(X:els.length≤N)(y:l.sh+N≤l.n) :
 Rel W Φ ρ (m.set b (.cells k (els++List.replicate (N - els.length) (List.replicate k .bot)))) w:=by
 obtain⟨l',o,p,F,G,H,I⟩:=d.live b _ z;rw[A]at p; injection p with p; subst p
 cases I with
 | cells _ _ _ c e S B q3 C D=>
  have f:∀ c' E,(m.set b (.cells k (els++List.replicate (N - els.length) (List.replicate k .bot)))).get c'=some E → ∃ x,m.get c'=some x:=by
   intro c' E h;simp only[Mem.get_set]at h;split at h
   ·rename_i M; subst M; exact⟨_,z⟩
   ·exact⟨_,h⟩
  refine⟨d.base,d.pers,fun b' x a=>?_,fun U V x1 x2 Y Z q J K L=>?_,d.fresh,d.newp⟩
  ·simp only[Mem.get_set]at a;split at a
   ·rename_i r;subst r;injection a with a
    subst a;refine⟨l,_,A,F,G,H,.cells _ _ _ _ _ S B (by simp only[List.length_append,List.length_replicate]; omega) ⟨fun i row hi=>?_,fun i row j x hi t=>?_⟩ D⟩
    ·rw[List.getElem?_append]at hi;split at hi
     ·exact C.1 i row hi
     ·have:=List.eq_of_mem_replicate (List.mem_of_getElem? hi);subst this;simp
    ·rw[List.getElem?_append]at hi;split at hi
     ·exact C.2 i row j x hi t
     ·rename_i O;have g:=List.eq_of_mem_replicate (List.mem_of_getElem? hi);have s:=(gS.1 hi).1;simp only[List.length_replicate]at s;subst g;have a:=List.eq_of_mem_replicate (List.mem_of_getElem? t);have u:=(gS.1 t).1;simp only[List.length_replicate]at u;subst a;have v:(l.sh+i)*k+j<c.size:=by
       rw[B];have q:(l.sh+i+1)*k≤l.n*k:=Nat.mul_le_mul_right _ (by omega)
       rw[Nat.add_mul]at q;omega
      exact⟨c[(l.sh+i)*k+j],Array.getElem?_eq_getElem v,D _ (by simp),.bot _⟩
   ·exact d.live b' x a
  ·obtain⟨y1,P⟩:=f _ _ q;obtain⟨y2,Q⟩:=f _ _ J;exact d.inj _ _ _ _ _ _ P Q K L
theorem Zui{m:TM}{b k N:Nat}{els:List (List AVal)}(a:b<bound):(padM m b k els N).mem=m.mem.set b (.cells k (els++List.replicate (N - els.length) (List.replicate k .bot))):=TM.set_mem_some a
def Zou(ex:Bool)(N:Nat)(l:Loc):Prop:=match ex with
 | true=>l.n=l.sh+N
 | false=>l.sh+N≤l.n
def Z6q(W:Base)(Φ:Pers)(ρ:Rho)(m:Mem)(b k:Nat)(rows:List (List AVal))(nx:Nat)(e:Ending)(w':World):Prop:=
 ∃ v Φ' ρ',e=.returned v∧Ext Φ ρ Φ' ρ'∧KeepN m.next ρ ρ'∧Rel W Φ' ρ' (Zhx m b k rows nx) w'∧R Φ' ρ' (.sl nx 0 rows.length) v
theorem Zrp(hm:P.follows .mixedOrders=true){tab:Nat→Option AFn}(htab:Ze5 P tab){call:Caller}(hcall:O2 P call){G b k N:Nat}{els rows:List (List AVal)}{ex:Bool}(hG:Zgu P G){g:FuncId}{args:List AVal}{m:TM}{nx1:Nat}
 (hb:b<bound) (hg:m.mem.get b=some (.cells k els)) (hN:els.length≤N) (h:oneX tab call G b k els N ex g args m=some (rows,nx1)) :
 Zio P g ∧ ∀(nx:Nat),nx1≤nx→m.next≤nx → ∀(W:Base) (Φ:Pers) (ρ:Rho) (l:Loc),ρ b=some l→Zou ex N l → ∀(vs:Array Value) (w:World),Rel W Φ ρ m.mem w→RL Φ ρ args vs →
  Calls P g vs w (Z6q W Φ ρ m.mem b k rows nx):=by
 unfold oneX at h;split at h<;>first|(cases h; done)|skip
 rename_i br off tot m2 wl hrun;cases hc:(Nat.beq br b||Nat.ble m.next br)&&wl.all (Nat.beq b)with
 | false=>rw[hc]at h; cases h
 | true=>
  rw[hc]at h;simp only[cond_true]at h;simp only[bA,Bool.or_eq_true]at hc;obtain⟨hbr,hwl⟩:=hc;split at h<;>first|(cases h; done)|skip
  rename_i k2 els2 hg2;cases hc2:Nat.beq k2 k&&Nat.ble (off+tot) els2.length with
  | false=>rw[hc2]at h; cases h
  | true=>
   rw[hc2]at h;simp only[cond_true,oI,pI2]at h;obtain⟨rfl,rfl⟩:=h;simp only[bA]at hc2;have hk:=Nat.eq_of_beq_eq_true hc2.1;subst hk;have hol:=Nat.le_of_ble_eq_true hc2.2;obtain⟨h1,h2,h3⟩:=Z5l hm htab hcall hG hrun;refine⟨h3.1,fun nx hnx1 hnx W Φ ρ l hl hroom vs w hr ha=>?_⟩
   have hn':l.sh+N≤l.n:=by
    cases ex with
    | true=>simp only[Zou]at hroom; omega
    | false=>exact hroom
   have hp:=Zzw hr hg hl hN hn';rw[Zui hb]at h3;refine(h3.2 W Φ ρ ⟨l,hl,hroom⟩ vs w hp ha).mono ?_;rintro e w' ⟨v,r,m'',Φ',ρ',rfl,e1,k1,r1,hR,n1,rfl,rfl⟩;have hg2':m2.mem.get br=some (.cells k2 els2):=hg2;cases hR with
   | sl _ _ _ ad cap l2 hl2 hle hcn hcap hav=>
    have hnx0:ρ' nx=none:=by
     cases hq:ρ' nx with
     | none=>rfl
     | some q=>have:=r1.fresh _ _ hq; have:m2.mem.next=m2.next:=rfl; omega
    obtain⟨l2',ob,g1,g2,g3,g4,g5⟩:=r1.live br _ hg2';rw[hl2]at g1; injection g1 with g1; subst g1
    cases g5 with
    | cells _ _ _ c e' q1 q2 q3 q4 q5=>
     have hlen:((els2.drop off).take tot).length=tot:=by simp; omega
     have hBR:BR Φ' (ρ'.put nx ⟨l2.blk,l2.sh+off,l2.k,l2.n⟩) (.cells k2 ((els2.drop off).take tot)) ⟨l2.blk,l2.sh+off,l2.k,l2.n⟩ (.cells c e' (0,0)):=
      BR.ext (Rho.ext_put hnx0) (.cells _ _ _ _ _ q1 q2 (by rw[hlen]; show l2.sh+off+tot≤l2.n; omega) (Zxw q4) q5)
     have r2:=Zsi (l':=⟨l2.blk,l2.sh+off,l2.k,l2.n⟩) (r1.at_ (n:=nx+1) (by have:m2.mem.next=m2.next:=rfl; omega)) hg2' hl2 hnx0 (Nat.lt_succ_self nx) rfl hBR
     rw[Zlx g4]at r2;refine⟨_,Φ',ρ'.put nx ⟨l2.blk,l2.sh+off,l2.k,l2.n⟩,rfl,e1.trans (Rho.ext_put hnx0),fun c hc h0=>?_,r2.sub ⟨fun c x hx=>?_,Nat.le_refl _⟩,?_⟩
     ·unfold Rho.put;rw[if_neg (by have:m.mem.next=m.next:=rfl; omega)]
      exact k1 c hc h0
     ·simp only[Zhx,Mem.get_at,Mem.get_set,Mem.get_del]at hx ⊢;split at hx
      ·rename_i hcn';rw[if_pos hcn'];exact hx
      ·rename_i hcn';rw[if_neg hcn'];split at hx
       ·cases hx
       ·rename_i hcb;have hclt:c<m.next:=by
         obtain⟨lc,_,hc1,_⟩:=hr.live c x hx;exact hr.fresh c lc hc1
        have hcbr:c≠br:=by
         intro e;subst e;rcases hbr with hbr|hbr
         ·exact hcb (Nat.eq_of_beq_eq_true hbr)
         ·have:=Nat.le_of_ble_eq_true hbr; omega
        rw[if_neg hcbr];have hk2:=h2 c hclt (fun hw=>hcb (by
         have:=List.all_eq_true.1 hwl c hw;exact(Nat.eq_of_beq_eq_true this).symm))
        rw[hk2,Zui hb];simp only[Mem.get_set];rw[if_neg hcb];exact hx
     ·rw[hlen];refine .sl nx 0 tot ad cap ⟨l2.blk,l2.sh+off,l2.k,l2.n⟩ Rho.put_same hle (by simpa using hcn) (fun hc0=>?_) hav
      rw[hcap hc0];rfl
def allX(tab:Nat→Option AFn)(call:Caller)(G b k:Nat)(els:List (List AVal))(g:FuncId)(args:List AVal)(m:TM)(T:Nat)(rows:List (List AVal)):Nat→Nat→Nat→Option Nat
 | 0,_,nx=>some nx
 | c+1,N,nx=>match oneX tab call G b k els N (Nat.ble (N+1) T) g args m with
  | some (r,nx1)=>bif Zf3 r rows then allX tab call G b k els g args m T rows c (N+1) (bif Nat.ble nx nx1 then nx1 else nx)else none
  | none=>none
theorem Zsu{tab:Nat→Option AFn}{e:Caller}{G b k:Nat}{els:List (List AVal)}{g:FuncId}{args:List AVal}{m:TM}{T:Nat}{rows:List (List AVal)}:∀ (c N f d:Nat),allX tab e G b k els g args m T rows c N f=some d →
 f≤d ∧ ∀ i,N≤i→i<N+c → ∃ a,a≤d∧oneX tab e G b k els i (Nat.ble (i+1) T) g args m=some (rows,a)
 | 0,N,f,d,h=>by
  simp only[allX,oI]at h;subst h;exact⟨Nat.le_refl _,fun i l q=>by omega⟩
 | c+1,N,f,d,h=>by
  simp only[allX]at h;cases n:oneX tab e G b k els N (Nat.ble (N+1) T) g args m with
  | none=>simp[n]at h
  | some r=>
   obtain⟨r,a⟩:=r;simp only[n]at h;cases o:Zf3 r rows with
   | false=>rw[o]at h; cases h
   | true=>
    rw[o]at h;simp only[cond_true]at h;have p:=Zre _ _ o;subst p;obtain⟨l,q⟩:=Zsu c (N+1) _ d h;have j:f≤(bif Nat.ble f a then a else f)∧a≤(bif Nat.ble f a then a else f):=by
     cases s:Nat.ble f a with
     | true=>exact ⟨Nat.le_of_ble_eq_true s,Nat.le_refl _⟩
     | false=>
      refine⟨Nat.le_refl _,?_⟩;have:=Ziy s;exact Nat.le_of_lt this
    refine⟨Nat.le_trans j.1 l,fun i u v=>?_⟩
    by_cases t:i=N
    ·subst t;exact⟨a,Nat.le_trans j.2 l,n⟩
    ·exact q i (by omega) (by omega)
def Zi7:List AVal→Nat
 | []=>0
 | [x]=>(W2 x).getD 0
 | _ :: r=>Zi7 r
def Zff(g:Nat):List (Nat×Nat)→Option Nat
 | []=>none
 | (a,b) :: r=>bif Nat.beq a g then some b else Zff g r
def Zn8(tab:Nat→Option AFn)(call:Caller)(spec:List (Nat×Nat)):Caller:=fun g args m=>
 match Zff g spec with
 | none=>none
 | some G=>match args with
  | .sl b off len :: _=>match m.tr.get b with
   | some (.cells k els)=>bif Nat.beq els.length (off+len)&&Nat.ble (b+1) bound&&Nat.ble (m.next+100000) bound then
    match oneX tab call G b k els els.length (Nat.ble (els.length+1) (els.length+Zi7 args)) g args m with
    | some (rows,nx0)=>match allX tab call G b k els g args m (els.length+Zi7 args) rows (Zi7 args) (els.length+1) (bif Nat.ble m.next nx0 then nx0 else m.next)with
     | some nx=>bif Nat.ble (nx+1) bound then some (.sl nx 0 rows.length,⟨(m.tr.set depth b none).set depth nx (some (.cells k rows)),nx+1⟩,[b])else none
     | none=>none
    | none=>none
    else none
   | _=>none
  | _=>none
theorem Ybn(hm:P.follows .mixedOrders=true){tab:Nat→Option AFn}(B:Ze5 P tab){d:Caller}(p:O2 P d){q:List (Nat×Nat)}(hs:∀ g G,Zff g q=some G→Zgu P G):O2 P (Zn8 tab d q):=by
 intro g args m v L wl h;unfold Zn8 at h;cases O:Zff g q with
 | none=>simp[O]at h
 | some G=>
  simp only[O]at h;have Z:=hs g G O;split at h<;>first|(cases h; done)|skip
  rename_i b off len j;split at h<;>first|(cases h; done)|skip
  rename_i k els S;have Q:m.mem.get b=some (.cells k els):=S;cases u:Nat.beq els.length (off+len)&&Nat.ble (b+1) bound&&Nat.ble (m.next+100000) bound with
  | false=>rw[u]at h; cases h
  | true=>
   rw[u]at h;simp only[cond_true]at h;simp only[bA]at u;have ad:=Nat.eq_of_beq_eq_true u.1.1;have N:b<bound:=Nat.le_of_ble_eq_true u.1.2;obtain⟨T,hT⟩:∃ T,T=Zi7 (AVal.sl b off len :: j):=⟨_,rfl⟩
   rw[← hT]at h;cases X:oneX tab d G b k els els.length (Nat.ble (els.length+1) (els.length+T)) g (.sl b off len :: j) m with
   | none=>simp[X]at h
   | some r=>
    obtain⟨rows,a⟩:=r;simp only[X]at h;cases o:allX tab d G b k els g (.sl b off len :: j) m (els.length+T) rows T (els.length+1) (bif Nat.ble m.next a then a else m.next)with
    | none=>simp[o]at h
    | some i=>
     simp only[o]at h;cases C:Nat.ble (i+1) bound with
     | false=>rw[C]at h; cases h
     | true=>
      rw[C]at h;simp only[cond_true,oI,pI2]at h;obtain⟨rfl,rfl,rfl⟩:=h;obtain⟨I,F⟩:=Zsu _ _ _ _ o;have J:m.next≤i∧a≤i:=by
       have y:m.next≤(bif Nat.ble m.next a then a else m.next)∧a≤(bif Nat.ble m.next a then a else m.next):=by
        cases K:Nat.ble m.next a with
        | true=>exact ⟨Nat.le_of_ble_eq_true K,Nat.le_refl _⟩
        | false=>exact ⟨Nat.le_refl _,Nat.le_of_lt (Ziy K)⟩
       exact⟨Nat.le_trans y.1 I,Nat.le_trans y.2 I⟩
      have V:i<bound:=Nat.le_of_ble_eq_true C;have z:(⟨(m.tr.set depth b none).set depth i (some (.cells k rows)),i+1⟩:TM).mem=Zhx m.mem b k rows i:=by
       refine Mem.ext' (fun c=>?_) rfl
       simp only[Zhx,Mem.get_at,Mem.get_set,Mem.get_del,TM.mem];rw[Tr.get_set depth _ i _ c (Zfw V)];split
       ·rfl
       ·rw[Tr.get_set depth _ b _ c (Zfw N)]
      have A:∀ f,els.length≤f→f≤els.length+T → ∃ t,t≤i∧oneX tab d G b k els f (Nat.ble (f+1) (els.length+T)) g (.sl b off len :: j) m=some (rows,t):=by
       intro f M Y;by_cases he:f=els.length
       ·subst he; exact⟨a,J.2,X⟩
       ·exact F f (by omega) (by omega)
      refine⟨by show m.next≤i+1; omega,fun c u hw=>?_,fun id=>⟨?_,fun W Φ ρ vs w hr ha ac=>?_⟩⟩
      ·rw[z];simp only[List.mem_singleton]at hw;simp only[Zhx,Mem.get_at,Mem.get_set,Mem.get_del];rw[if_neg (by omega),if_neg hw]
      ·obtain⟨t,_,D⟩:=A els.length (Nat.le_refl _) (by omega)
       exact(Zrp hm B p Z N Q (Nat.le_refl _) D).1
      ·obtain⟨l,ob,g1,g2,g3,g4,g5⟩:=hr.live b _ Q;have ab:l.sh+els.length≤l.n:=by
        cases g5 with
        | cells _ _ _ c e q1 q2 q3 q4 q5=>exact q3
       rw[z];have H:∀ f,els.length≤f→f≤els.length+T→Zou (Nat.ble (f+1) (els.length+T)) f l →
        Calls P g vs w fun e w'=>∃ v r L s ρ',e=.returned v∧Ext Φ ρ s ρ'∧(∀ b,b<m.mem.next→b∉[id]→ρ b=none→ρ' b=none)∧Rel W s ρ' L w'∧R s ρ' r v∧m.mem.next≤L.next∧r=.sl i 0 rows.length∧L=Zhx m.mem b k rows i:=by
        intro f M Y E;obtain⟨t,U,D⟩:=A f M Y;refine((Zrp hm B p Z N Q M D).2 i U J.1 W Φ ρ l g1 E vs w hr ha).mono ?_;rintro e w' ⟨v,s,ρ',rfl,e1,k1,r1,hR⟩;exact⟨v,_,_,s,ρ',rfl,e1,fun c u _ h0=>k1 c u h0,r1,hR,by show m.next≤i+1; omega,rfl,rfl⟩
       by_cases aa:els.length+T≤l.n - l.sh
       ·refine H (els.length+T) (by omega) (Nat.le_refl _) ?_
        have:Nat.ble (els.length+T+1) (els.length+T)=false:=by
         cases K:Nat.ble (els.length+T+1) (els.length+T)with
         | false=>rfl
         | true=>have:=Nat.le_of_ble_eq_true K; omega
        rw[this];show l.sh+(els.length+T)≤l.n;omega
       ·refine H (l.n - l.sh) (by omega) (by omega) ?_
        rw[Nat.ble_eq_true_of_le (by omega)]
        show l.n=l.sh+(l.n - l.sh);omega
end
end Go.AE
