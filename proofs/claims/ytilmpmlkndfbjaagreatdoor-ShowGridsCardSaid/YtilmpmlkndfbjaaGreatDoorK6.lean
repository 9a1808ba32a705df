/- Part 6 of the proof: AeHd. -/
import Derived.Test.YtilmpmlkndfbjaaGreatDoorK5
set_option linter.all false
namespace Go.AE
open Go.RowKit
def Oq(P:Program)(G:FuncId):Prop:=
 ∃ fn tS tR e size,P.funcs[G]? = some fn∧(fn.name == "runtime.NumGoroutine")=false∧fn.body.isNone=true∧Extern.findNext fn=none∧Extern.find fn=some (Extern.SlicesOverlaps.overlaps #[tS,tS] #[tR]) ∧
  P.underlying tS=some (.slice e) ∧ ∀ w,(Go.sizeOf e).run P w=.ok size w
def xH(P:Program)(G:FuncId):BX:=fun fn args m id K=>FP P fn args m id K ∨
 (fn=.func G ∧ ∃ b1 o1 l1 b2 o2 l2 k1 e1 k2 e2,args=[.sl b1 o1 l1,.sl b2 o2 l2]∧b1≠b2∧0<l1∧0<l2∧0<k2∧m.get b1=some (.cells k1 e1)∧m.get b2=some (.cells k2 e2)∧K (.bool false) m)
section
variable {P:Program}
theorem Z5p{n:Nat}{H:Dn}{G:FuncId}(hG:Oq P G):LW Fence.wide n H P (xH P G):=by
 intro fn args m id K DQ W Φ ρ hH vs w hr ha hn hlt;rcases DQ with DQ|⟨rfl,b1,o1,l1,b2,o2,l2,k1,e1,k2,e2,rfl,hne,h1,h2,hk2,hg1,hg2,hK⟩
 ·exact SX Open.wide fn args m id K DQ W Φ ρ hH vs w hr ha hn hlt
 ·obtain⟨fn,tS,tR,e,size,hf,hname,hb,Dz,hfd,htS,hsz⟩:=hG;obtain⟨v1,v2,rfl⟩:∃ v1 v2,vs = #[v1,v2]:=by
   have hs:vs.size=2:=by simpa using ha.1
   refine⟨vs[0],vs[1],?_⟩;apply Array.ext
   ·simp[hs]
   ·intro i h1 h2;have:i=0∨i=1:=by omega
    rcases this with rfl|rfl<;>rfl
  have r1:=ha.2 0 _ v1 rfl rfl;have r2:=ha.2 1 _ v2 rfl rfl;cases r1 with
  | sl _ _ _ a1 cap1 lo1 hl1 hle1 hcn1 hcap1 hav1=>
   cases r2 with
   | sl _ _ _ a2 cap2 lo2 hl2 hle2 hcn2 hcap2 hav2=>
    have ea1:=hcap1 (by omega)
    have ea2:=hcap2 (by omega)
    subst ea1; subst ea2;obtain⟨x1,ob1,g1,g2,g3,g4,g5⟩:=hr.live b1 _ hg1;rw[hl1]at g1; injection g1 with g1; subst g1
    obtain⟨x2,ob2,j1,j2,j3,j4,j5⟩:=hr.live b2 _ hg2;rw[hl2]at j1; injection j1 with j1; subst j1
    have hblk:lo1.blk≠lo2.blk:=fun hh=>hne (hr.inj b1 b2 _ _ _ _ hg1 hg2 hl1 hl2 hh)
    cases g5 with
    | cells _ _ _ c1 t1 q1 q2 q3 q4 q5=>
     cases j5 with
     | cells _ _ _ c2 t2 p1 p2 p3 p4 p5=>
      refine .inr (.inr ⟨G,.bool false,w,rfl,?_,.bool false,.bool false,m,Φ,ρ,rfl,.refl _ _,fun _ _ _ h=>h,hr,.bool false,lR _,hK⟩)
      rw[run_callFunc_extern hf hname hb Dz hfd];have:=Lib.run_overlaps_apart (P:=P) w tS tR e htS size hsz ⟨lo1.blk,(lo1.sh+o1)*lo1.k,none⟩ ⟨lo2.blk,(lo2.sh+o2)*lo2.k,none⟩ l1 cap1 l2 cap2 hblk t1 t2 c1.size c2.size
       (by simp[World.shape?,g4]) (by simp[World.shape?,j4]) (by
         rw[p2];have hn:0<lo2.n:=by omega
         have:=Nat.mul_pos hn hk2;omega) (by simp[World.frozen?,g4]) (by simp[World.frozen?,g4])
      rw[this];rfl
def eW(call:Au)(G:FuncId):CE:=fun fn args m=>
 match fn with
 | .func g=>bif Nat.beq g G then match args with
  | [.sl b1 _ l1,.sl b2 _ l2]=>match m.tr.get b1,m.tr.get b2 with
   | some (.cells _ _),some (.cells k2 _)=>bif !(Nat.beq b1 b2)&&Nat.ble 1 l1&&Nat.ble 1 l2&&Nat.ble 1 k2 then some (.bool false,m,[])else none
   | _,_=>none
  | _=>none
  else call g args m
 | _=>none
theorem Z9v{call:Au}(Aw:P4 P call)(G:FuncId):RU (xH P G) (eW call G):=by
 intro fn args m v m' wl h;cases fn<;>simp only[eW]at h<;>first|(cases h; done)|skip
 rename_i g;cases hg:Nat.beq g G with
 | false=>
  rw[hg]at h;obtain⟨h1,h2,h3⟩:=Tz Aw (.func g) args m v m' wl h;exact⟨h1,h2,fun id K hK=>.inl (h3 id K hK)⟩
 | true=>
  rw[hg]at h;simp only[cond_true]at h;have hge:=Nat.eq_of_beq_eq_true hg;subst hge;split at h<;>first|(cases h; done)|skip
  rename_i b1 o1 l1 b2 o2 l2;split at h<;>first|(cases h; done)|skip
  rename_i k1 e1 k2 e2 h1 h2;cases hc:!(Nat.beq b1 b2)&&Nat.ble 1 l1&&Nat.ble 1 l2&&Nat.ble 1 k2 with
  | false=>rw[hc]at h; cases h
  | true=>
   rw[hc]at h;simp only[cond_true,oI,AP]at h;obtain⟨rfl,rfl,rfl⟩:=h;simp only[bA,Bool.not_eq_true']at hc;obtain⟨⟨⟨c1,c2⟩,c3⟩,c4⟩:=hc;exact⟨lR _,fun _ _ _=>rfl,fun id K hK=>.inr ⟨rfl,b1,o1,l1,b2,o2,l2,k1,e1,k2,e2,rfl,(fun e=>by subst e; rw[Nat.beq_refl]at c1; cases c1),Nat.le_of_ble_eq_true c2,Nat.le_of_ble_eq_true c3,Nat.le_of_ble_eq_true c4,h1,h2,hK⟩⟩
def Qr(BE:Nat→Option Av)(call:Au)(G b N:Nat)(ex:Bool)(g:FuncId)(args:List Aa)(m:TM):Option (Aa×TM×List Nat):=
 match BE g with
 | some af=>bif Nat.ble args.length af.ntmps then match T1 (kQ b N ex) (eW call G) call true true m.next 1000 af.body ⟨I4 .nil 0 args,m,[]⟩ with
  | some (.exit _,_)=>none
  | some (_,s)=>match DZ s.t s.m af.results with
   | some v=>some (v,s.m,s.wl)
   | none=>none
  | none=>none
  else none
 | none=>none
theorem Z6u(hm:P.follows .mixedOrders=true){BE:Nat→Option Av}(DI:LJ P BE){call:Au}(Aw:P4 P call){G b N:Nat}{ex:Bool}(hG:Oq P G){g:FuncId}{args:List Aa}{m m':TM}{v:Aa}{wl:List Nat}
 (h:Qr BE call G b N ex g args m=some (v,m',wl)):m.next≤m'.next∧(∀ c,c<m.next→c∉wl→m'.mem.get c=m.mem.get c)∧ZW (Qz b N ex) P g args m.mem fun r m''=>r=v∧m''=m'.mem:=by
 unfold Qr at h;cases ht:BE g with
 | none=>simp[ht]at h
 | some af=>
  simp only[ht]at h;obtain⟨⟨fn,hf1,hf2⟩,hd,hb⟩:=DI g af ht;cases hl:Nat.ble args.length af.ntmps with
  | false=>rw[hl]at h; cases h
  | true=>
   rw[hl]at h;simp only[cond_true]at h;obtain⟨a1,a2⟩:=WG hb (Wf hl);split at h<;>first|(cases h; done)|skip
   rename_i e s hne hrun;obtain⟨h1,h2⟩:=Tm (Z3i b N ex) (Z9v Aw G) Aw hb 1000 af.body ⟨I4 .nil 0 args,m,[]⟩ s e a1 (lR _) hd hrun;cases hr:DZ s.t s.m af.results with
   | none=>simp[hr]at h
   | some r=>
    simp only[hr,oI,AP]at h;obtain⟨rfl,rfl,rfl⟩:=h;refine⟨h1.next,fun c hc hw=>(h1.keep c hc hw).2,sP hm Qz.mono (zf Open.wide b N ex) (Z5p hG) hf1 hf2 ?_⟩
    rw[← a2];refine h2 _ ?_;have hrA:M2 (Cg af.ntmps s.t) s.m.mem af.results=some r:=by rw[VQ h1.t]; exact hr
    cases e with
    | normal=>simp only[CV.exit',Fb,RS.st,hrA]; exact⟨trivial,trivial⟩
    | ret=>simp only[CV.exit',Fb,RS.st,hrA]; exact⟨trivial,trivial⟩
    | exit i=>exact absurd rfl (hne i)
def Vq(m:TM)(b k:Nat)(els:List (List Aa))(N:Nat):TM:=m.set b (some (.cells k (els++List.replicate (N - els.length) (List.replicate k .bot))))
def Gr(BE:Nat→Option Av)(call:Au)(G b k:Nat)(els:List (List Aa))(N:Nat)(ex:Bool)(g:FuncId)(args:List Aa)(m:TM):Option (List (List Aa)×Nat):=
 match Qr BE call G b N ex g args (Vq m b k els N)with
 | some (.sl br off tot,m2,wl)=>bif (Nat.beq br b||Nat.ble m.next br)&&wl.all (Nat.beq b)then match m2.tr.get br with
  | some (.cells k2 els2)=>bif Nat.beq k2 k&&Nat.ble (off+tot) els2.length then some ((els2.drop off).take tot,m2.next)else none
  | _=>none
  else none
 | _=>none
def QS(m:Mem)(b k:Nat)(rows:List (List Aa))(nx:Nat):Mem:=((m.del b).set nx (.cells k rows)).at (nx+1)
theorem Z34{W:Ap}{Φ:Ao}{ρ:AD}{m:Mem}{w:World}{b k N:Nat}{els:List (List Aa)}{l:Loc}(hr:Rel W Φ ρ m w)(hg:m.get b=some (.cells k els))(hl:ρ b=some l)(hN:els.length≤N)(hroom:l.sh+N≤l.n) :
 Rel W Φ ρ (m.set b (.cells k (els++List.replicate (N - els.length) (List.replicate k .bot)))) w:=by
 obtain⟨l',o,g1,g2,g3,g4,g5⟩:=hr.live b _ hg;rw[hl]at g1; injection g1 with g1; subst g1
 cases g5 with
 | cells _ _ _ c e q1 q2 q3 q4 q5=>
  have hex:∀ c' x',(m.set b (.cells k (els++List.replicate (N - els.length) (List.replicate k .bot)))).get c'=some x' → ∃ x,m.get c'=some x:=by
   intro c' x' h;simp only[Mem.Ax]at h;split at h
   ·rename_i hc; subst hc; exact⟨_,hg⟩
   ·exact⟨_,h⟩
  refine⟨hr.base,hr.AX,fun b' x hx=>?_,fun b1 b2 x1 x2 l1 l2 h1 h2 h3 h4=>?_,hr.fresh,hr.By⟩
  ·simp only[Mem.Ax]at hx;split at hx
   ·rename_i hb';subst hb';injection hx with hx
    subst hx;refine⟨l,_,hl,g2,g3,g4,.cells _ _ _ _ _ q1 q2 (by simp only[lA,List.length_replicate]; omega) ⟨fun i row hi=>?_,fun i row j x hi hj=>?_⟩ q5⟩
    ·rw[List.getElem?_append]at hi;split at hi
     ·exact q4.1 i row hi
     ·have:=List.eq_of_mem_replicate (List.mem_of_getElem? hi);subst this;simp
    ·rw[List.getElem?_append]at hi;split at hi
     ·exact q4.2 i row j x hi hj
     ·rename_i hge;have hrow:=List.eq_of_mem_replicate (List.mem_of_getElem? hi);have hi2:=(gS.1 hi).1;simp only[List.length_replicate]at hi2;subst hrow;have hx:=List.eq_of_mem_replicate (List.mem_of_getElem? hj);have hj2:=(gS.1 hj).1;simp only[List.length_replicate]at hj2;subst hx;have hlt:(l.sh+i)*k+j<c.size:=by
       rw[q2];have h1:(l.sh+i+1)*k≤l.n*k:=Nat.mul_le_mul_right _ (by omega)
       rw[Nat.add_mul]at h1;omega
      exact⟨c[(l.sh+i)*k+j],Array.getElem?_eq_getElem hlt,q5 _ (by simp),.bot _⟩
   ·exact hr.live b' x hx
  ·obtain⟨y1,k1⟩:=hex _ _ h1;obtain⟨y2,k2⟩:=hex _ _ h2;exact hr.inj _ _ _ _ _ _ k1 k2 h3 h4
theorem nP{m:TM}{b k N:Nat}{els:List (List Aa)}(hb:b<bound):(Vq m b k els N).mem=m.mem.set b (.cells k (els++List.replicate (N - els.length) (List.replicate k .bot))):=TM.Ea hb
def ZZ(ex:Bool)(N:Nat)(l:Loc):Prop:=match ex with
 | true=>l.n=l.sh+N
 | false=>l.sh+N≤l.n
def tj(W:Ap)(Φ:Ao)(ρ:AD)(m:Mem)(b k:Nat)(rows:List (List Aa))(nx:Nat)(e:Ending)(w':World):Prop:=
 ∃ v Am ρ',e=.returned v∧Ext Φ ρ Am ρ'∧Bl m.next ρ ρ'∧Rel W Am ρ' (QS m b k rows nx) w'∧R Am ρ' (.sl nx 0 rows.length) v
theorem nY(hm:P.follows .mixedOrders=true){BE:Nat→Option Av}(DI:LJ P BE){call:Au}(Aw:P4 P call){G b k N:Nat}{els rows:List (List Aa)}{ex:Bool}(hG:Oq P G){g:FuncId}{args:List Aa}{m:TM}{Fw:Nat}
 (hb:b<bound) (hg:m.mem.get b=some (.cells k els)) (hN:els.length≤N) (h:Gr BE call G b k els N ex g args m=some (rows,Fw)) :
 Sa P g ∧ ∀(nx:Nat),Fw≤nx→m.next≤nx → ∀(W:Ap) (Φ:Ao) (ρ:AD) (l:Loc),ρ b=some l→ZZ ex N l → ∀(vs:Array Value) (w:World),Rel W Φ ρ m.mem w→RL Φ ρ args vs →
  Calls P g vs w (tj W Φ ρ m.mem b k rows nx):=by
 unfold Gr at h;split at h<;>first|(cases h; done)|skip
 rename_i br off tot m2 wl hrun;cases hc:(Nat.beq br b||Nat.ble m.next br)&&wl.all (Nat.beq b)with
 | false=>rw[hc]at h; cases h
 | true=>
  rw[hc]at h;simp only[cond_true]at h;simp only[bA,Bool.or_eq_true]at hc;obtain⟨Gv,hwl⟩:=hc;split at h<;>first|(cases h; done)|skip
  rename_i k2 els2 hg2;cases hc2:Nat.beq k2 k&&Nat.ble (off+tot) els2.length with
  | false=>rw[hc2]at h; cases h
  | true=>
   rw[hc2]at h;simp only[cond_true,oI,AP]at h;obtain⟨rfl,rfl⟩:=h;simp only[bA]at hc2;have hk:=Nat.eq_of_beq_eq_true hc2.1;subst hk;have DR:=Nat.le_of_ble_eq_true hc2.2;obtain⟨h1,h2,h3⟩:=Z6u hm DI Aw hG hrun;refine⟨h3.1,fun nx hnx1 Dz W Φ ρ l hl hroom vs w hr ha=>?_⟩
   have hn':l.sh+N≤l.n:=by
    cases ex with
    | true=>simp only[ZZ]at hroom; omega
    | false=>exact hroom
   have hp:=Z34 hr hg hl hN hn';rw[nP hb]at h3;refine(h3.2 W Φ ρ ⟨l,hl,hroom⟩ vs w hp ha).mono ?_;rintro e w' ⟨v,r,m'',Am,ρ',rfl,e1,k1,r1,hR,n1,rfl,rfl⟩;have hg2':m2.mem.get br=some (.cells k2 els2):=hg2;cases hR with
   | sl _ _ _ ad cap l2 hl2 hle ES hcap Ch=>
    have hnx0:ρ' nx=none:=by
     cases hq:ρ' nx with
     | none=>rfl
     | some q=>have:=r1.fresh _ _ hq; have:m2.mem.next=m2.next:=rfl; omega
    obtain⟨l2',ob,g1,g2,g3,g4,g5⟩:=r1.live br _ hg2';rw[hl2]at g1; injection g1 with g1; subst g1
    cases g5 with
    | cells _ _ _ c e' q1 q2 q3 q4 q5=>
     have hlen:((els2.drop off).take tot).length=tot:=by simp; omega
     have hBR:BR Am (ρ'.put nx ⟨l2.blk,l2.sh+off,l2.k,l2.n⟩) (.cells k2 ((els2.drop off).take tot)) ⟨l2.blk,l2.sh+off,l2.k,l2.n⟩ (.cells c e' (0,0)):=
      BR.ext (AD.BG hnx0) (.cells _ _ _ _ _ q1 q2 (by rw[hlen]; show l2.sh+off+tot≤l2.n; omega) (wY q4) q5)
     have r2:=wE (l':=⟨l2.blk,l2.sh+off,l2.k,l2.n⟩) (r1.at_ (n:=nx+1) (by have:m2.mem.next=m2.next:=rfl; omega)) hg2' hl2 hnx0 (Nat.lt_succ_self nx) rfl hBR
     rw[Ws g4]at r2;refine⟨_,Am,ρ'.put nx ⟨l2.blk,l2.sh+off,l2.k,l2.n⟩,rfl,e1.trans (AD.BG hnx0),fun c hc h0=>?_,r2.sub ⟨fun c x hx=>?_,lR _⟩,?_⟩
     ·unfold AD.put;rw[iN (by have:m.mem.next=m.next:=rfl; omega)]
      exact k1 c hc h0
     ·simp only[QS,Mem.get_at,Mem.Ax,Mem.Bo]at hx ⊢;split at hx
      ·rename_i hcn';rw[iP hcn'];exact hx
      ·rename_i hcn';rw[iN hcn'];split at hx
       ·cases hx
       ·rename_i hcb;have hclt:c<m.next:=by
         obtain⟨lc,_,hc1,_⟩:=hr.live c x hx;exact hr.fresh c lc hc1
        have hcbr:c≠br:=by
         intro e;subst e;rcases Gv with Gv|Gv
         ·exact hcb (Nat.eq_of_beq_eq_true Gv)
         ·have:=Nat.le_of_ble_eq_true Gv; omega
        rw[iN hcbr];have hk2:=h2 c hclt (fun hw=>hcb (by
         have:=List.all_eq_true.1 hwl c hw;exact(Nat.eq_of_beq_eq_true this).symm))
        rw[hk2,nP hb];simp only[Mem.Ax];rw[iN hcb];exact hx
     ·rw[hlen];refine .sl nx 0 tot ad cap ⟨l2.blk,l2.sh+off,l2.k,l2.n⟩ AD.Bm hle (by simpa using ES) (fun hc0=>?_) Ch
      rw[hcap hc0];rfl
def HM(BE:Nat→Option Av)(call:Au)(G b k:Nat)(els:List (List Aa))(g:FuncId)(args:List Aa)(m:TM)(T:Nat)(rows:List (List Aa)):Nat→Nat→Nat→Option Nat
 | 0,_,nx=>some nx
 | c+1,N,nx=>match Gr BE call G b k els N (Nat.ble (N+1) T) g args m with
  | some (r,Fw)=>bif Nh r rows then HM BE call G b k els g args m T rows c (N+1) (bif Nat.ble nx Fw then Fw else nx)else none
  | none=>none
theorem qS{BE:Nat→Option Av}{call:Au}{G b k:Nat}{els:List (List Aa)}{g:FuncId}{args:List Aa}{m:TM}{T:Nat}{rows:List (List Aa)}:∀ (c N nx Qj:Nat),HM BE call G b k els g args m T rows c N nx=some Qj →
 nx≤Qj ∧ ∀ N',N≤N'→N'<N+c → ∃ Fw,Fw≤Qj∧Gr BE call G b k els N' (Nat.ble (N'+1) T) g args m=some (rows,Fw)
 | 0,N,nx,Qj,h=>by
  simp only[HM,oI]at h;subst h;exact⟨lR _,fun N' h1 h2=>by omega⟩
 | c+1,N,nx,Qj,h=>by
  simp only[HM]at h;cases ho:Gr BE call G b k els N (Nat.ble (N+1) T) g args m with
  | none=>simp[ho]at h
  | some r=>
   obtain⟨r,Fw⟩:=r;simp only[ho]at h;cases hq:Nh r rows with
   | false=>rw[hq]at h; cases h
   | true=>
    rw[hq]at h;simp only[cond_true]at h;have hre:=YZ _ _ hq;subst hre;obtain⟨h1,h2⟩:=qS c (N+1) _ Qj h;have hmax:nx≤(bif Nat.ble nx Fw then Fw else nx)∧Fw≤(bif Nat.ble nx Fw then Fw else nx):=by
     cases hb:Nat.ble nx Fw with
     | true=>exact ⟨Nat.le_of_ble_eq_true hb,lR _⟩
     | false=>
      refine⟨lR _,?_⟩;have:=RK hb;exact Nat.le_of_lt this
    refine⟨Nat.le_trans hmax.1 h1,fun N' h3 h4=>?_⟩
    by_cases he:N'=N
    ·subst he;exact⟨Fw,Nat.le_trans hmax.2 h1,ho⟩
    ·exact h2 N' (by omega) (by omega)
def Ti:List Aa→Nat
 | []=>0
 | [x]=>(V9 x).getD 0
 | _ :: r=>Ti r
def MN(g:Nat):List (Nat×Nat)→Option Nat
 | []=>none
 | (a,b) :: r=>bif Nat.beq a g then some b else MN g r
def Yz(BE:Nat→Option Av)(call:Au)(spec:List (Nat×Nat)):Au:=fun g args m=>
 match MN g spec with
 | none=>none
 | some G=>match args with
  | .sl b off len :: _=>match m.tr.get b with
   | some (.cells k els)=>bif Nat.beq els.length (off+len)&&Nat.ble (b+1) bound&&Nat.ble (m.next+100000) bound then
    match Gr BE call G b k els els.length (Nat.ble (els.length+1) (els.length+Ti args)) g args m with
    | some (rows,nx0)=>match HM BE call G b k els g args m (els.length+Ti args) rows (Ti args) (els.length+1) (bif Nat.ble m.next nx0 then nx0 else m.next)with
     | some nx=>bif Nat.ble (nx+1) bound then some (.sl nx 0 rows.length,⟨(m.tr.set depth b none).set depth nx (some (.cells k rows)),nx+1⟩,[b])else none
     | none=>none
    | none=>none
    else none
   | _=>none
  | _=>none
theorem zg(hm:P.follows .mixedOrders=true){BE:Nat→Option Av}(DI:LJ P BE){call:Au}(Aw:P4 P call){spec:List (Nat×Nat)}(hs:∀ g G,MN g spec=some G→Oq P G):P4 P (Yz BE call spec):=by
 intro g args m v m' wl h;unfold Yz at h;cases hf:MN g spec with
 | none=>simp[hf]at h
 | some G=>
  simp only[hf]at h;have hG:=hs g G hf;split at h<;>first|(cases h; done)|skip
  rename_i b off len rest;split at h<;>first|(cases h; done)|skip
  rename_i k els hgT;have hg:m.mem.get b=some (.cells k els):=hgT;cases hc:Nat.beq els.length (off+len)&&Nat.ble (b+1) bound&&Nat.ble (m.next+100000) bound with
  | false=>rw[hc]at h; cases h
  | true=>
   rw[hc]at h;simp only[cond_true]at h;simp only[bA]at hc;have DR:=Nat.eq_of_beq_eq_true hc.1.1;have hb:b<bound:=Nat.le_of_ble_eq_true hc.1.2;obtain⟨T,hT⟩:∃ T,T=Ti (Aa.sl b off len :: rest):=⟨_,rfl⟩
   rw[← hT]at h;cases ho:Gr BE call G b k els els.length (Nat.ble (els.length+1) (els.length+T)) g (.sl b off len :: rest) m with
   | none=>simp[ho]at h
   | some r=>
    obtain⟨rows,nx0⟩:=r;simp only[ho]at h;cases hall:HM BE call G b k els g (.sl b off len :: rest) m (els.length+T) rows T (els.length+1) (bif Nat.ble m.next nx0 then nx0 else m.next)with
    | none=>simp[hall]at h
    | some nx=>
     simp only[hall]at h;cases hbd:Nat.ble (nx+1) bound with
     | false=>rw[hbd]at h; cases h
     | true=>
      rw[hbd]at h;simp only[cond_true,oI,AP]at h;obtain⟨rfl,rfl,rfl⟩:=h;obtain⟨Fm,hspec⟩:=qS _ _ _ _ hall;have Dz:m.next≤nx∧nx0≤nx:=by
       have hmax:m.next≤(bif Nat.ble m.next nx0 then nx0 else m.next)∧nx0≤(bif Nat.ble m.next nx0 then nx0 else m.next):=by
        cases hq:Nat.ble m.next nx0 with
        | true=>exact ⟨Nat.le_of_ble_eq_true hq,lR _⟩
        | false=>exact ⟨lR _,Nat.le_of_lt (RK hq)⟩
       exact⟨Nat.le_trans hmax.1 Fm,Nat.le_trans hmax.2 Fm⟩
      have hnb:nx<bound:=Nat.le_of_ble_eq_true hbd;have hmem:(⟨(m.tr.set depth b none).set depth nx (some (.cells k rows)),nx+1⟩:TM).mem=QS m.mem b k rows nx:=by
       refine Mem.ext' (fun c=>?_) rfl
       simp only[QS,Mem.get_at,Mem.Ax,Mem.Bo,TM.mem];rw[Tr.Ax depth _ nx _ c (MT hnb)];split
       ·rfl
       ·rw[Tr.Ax depth _ b _ c (MT hb)]
      have hone:∀ N',els.length≤N'→N'≤els.length+T → ∃ Fw,Fw≤nx∧Gr BE call G b k els N' (Nat.ble (N'+1) (els.length+T)) g (.sl b off len :: rest) m=some (rows,Fw):=by
       intro N' h1 h2;by_cases he:N'=els.length
       ·subst he; exact⟨nx0,Dz.2,ho⟩
       ·exact hspec N' (by omega) (by omega)
      refine⟨by show m.next≤nx+1; omega,fun c hc hw=>?_,fun id=>⟨?_,fun W Φ ρ vs w hr ha Ch=>?_⟩⟩
      ·rw[hmem];simp only[List.mem_singleton]at hw;simp only[QS,Mem.get_at,Mem.Ax,Mem.Bo];rw[iN (by omega),iN hw]
      ·obtain⟨Fw,_,ho1⟩:=hone els.length (lR _) (by omega)
       exact(nY hm DI Aw hG hb hg (lR _) ho1).1
      ·obtain⟨l,ob,g1,g2,g3,g4,g5⟩:=hr.live b _ hg;have hlow:l.sh+els.length≤l.n:=by
        cases g5 with
        | cells _ _ _ c e q1 q2 q3 q4 q5=>exact q3
       rw[hmem];have fin:∀ N',els.length≤N'→N'≤els.length+T→ZZ (Nat.ble (N'+1) (els.length+T)) N' l →
        Calls P g vs w fun e w'=>∃ v r m' Am ρ',e=.returned v∧Ext Φ ρ Am ρ'∧(∀ b,b<m.mem.next→b∉[id]→ρ b=none→ρ' b=none)∧Rel W Am ρ' m' w'∧R Am ρ' r v∧m.mem.next≤m'.next∧r=.sl nx 0 rows.length∧m'=QS m.mem b k rows nx:=by
        intro N' h1 h2 hroom;obtain⟨Fw,DF,ho1⟩:=hone N' h1 h2;refine((nY hm DI Aw hG hb hg h1 ho1).2 nx DF Dz.1 W Φ ρ l g1 hroom vs w hr ha).mono ?_;rintro e w' ⟨v,Am,ρ',rfl,e1,k1,r1,hR⟩;exact⟨v,_,_,Am,ρ',rfl,e1,fun c hc _ h0=>k1 c hc h0,r1,hR,by show m.next≤nx+1; omega,rfl,rfl⟩
       by_cases hbig:els.length+T≤l.n - l.sh
       ·refine fin (els.length+T) (by omega) (lR _) ?_
        have:Nat.ble (els.length+T+1) (els.length+T)=false:=by
         cases hq:Nat.ble (els.length+T+1) (els.length+T)with
         | false=>rfl
         | true=>have:=Nat.le_of_ble_eq_true hq; omega
        rw[this];show l.sh+(els.length+T)≤l.n;omega
       ·refine fin (l.n - l.sh) (by omega) (by omega) ?_
        rw[Nat.ble_eq_true_of_le (by omega)]
        show l.n=l.sh+(l.n - l.sh);omega
end
end Go.AE
