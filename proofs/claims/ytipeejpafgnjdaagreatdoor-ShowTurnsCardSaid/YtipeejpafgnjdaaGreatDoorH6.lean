/- Part 6 of the proof: AeHd. -/
import Derived.Test.YtipeejpafgnjdaaGreatDoorH5
set_option linter.all false
namespace Go.AE
open Go.RowKit
def Zeq(P:Program)(G:FuncId):Prop:=
 ∃ fn tS tR e size,P.funcs[G]? = some fn∧(fn.name == "runtime.NumGoroutine")=false∧fn.body.isNone=true∧Extern.findNext fn=none∧Extern.find fn=some (Extern.SlicesOverlaps.overlaps #[tS,tS] #[tR]) ∧
  P.underlying tS=some (.slice e) ∧ ∀ w,(Go.sizeOf e).run P w=.ok size w
def cwX(P:Program)(G:FuncId):CallW:=fun fn args m id K=>cwFn P fn args m id K ∨
 (fn=.func G ∧ ∃ b1 o1 l1 b2 o2 l2 k1 e1 k2 e2,args=[.sl b1 o1 l1,.sl b2 o2 l2]∧b1≠b2∧0<l1∧0<l2∧0<k2∧m.get b1=some (.cells k1 e1)∧m.get b2=some (.cells k2 e2)∧K (.bool false) m)
section
variable {P:Program}
theorem Ztf{n:Nat}{H:HypW}{G:FuncId}(hG:Zeq P G):Za6 Fence.wide n H P (cwX P G):=by
 intro fn args m id K hcw W Φ ρ hH vs w hr ha hn hlt;rcases hcw with hcw|⟨rfl,b1,o1,l1,b2,o2,l2,k1,e1,k2,e2,rfl,hne,h1,h2,hk2,hg1,hg2,hK⟩
 ·exact Zjl Open.wide fn args m id K hcw W Φ ρ hH vs w hr ha hn hlt
 ·obtain⟨fn,tS,tR,e,size,hf,hname,hb,hnx,hfd,htS,hsz⟩:=hG;obtain⟨v1,v2,rfl⟩:∃ v1 v2,vs = #[v1,v2]:=by
   have hs:vs.size=2:=by simpa using ha.1
   refine⟨vs[0],vs[1],?_⟩;apply Array.ext
   ·simp[hs]
   ·intro i h1 h2;have:i=0∨i=1:=by omega
    rcases this with rfl|rfl<;>rfl
  have r1:=ha.2 0 _ v1 rfl rfl;have r2:=ha.2 1 _ v2 rfl rfl;cases r1 with
  | sl _ _ _ a1 cap1 lo1 hl1 hle1 hcn1 hcap1 hav1=>
   cases r2 with
   | sl _ _ _ a2 cap2 lo2 hl2 hle2 hcn2 hcap2 hav2=>
    have ea1:=hcap1 (by omega)
    have ea2:=hcap2 (by omega)
    subst ea1; subst ea2;obtain⟨x1,ob1,g1,g2,g3,g4,g5⟩:=hr.live b1 _ hg1;rw[hl1]at g1; injection g1 with g1; subst g1
    obtain⟨x2,ob2,j1,j2,j3,j4,j5⟩:=hr.live b2 _ hg2;rw[hl2]at j1; injection j1 with j1; subst j1
    have hblk:lo1.blk≠lo2.blk:=fun hh=>hne (hr.inj b1 b2 _ _ _ _ hg1 hg2 hl1 hl2 hh)
    cases g5 with
    | cells _ _ _ c1 t1 q1 q2 q3 q4 q5=>
     cases j5 with
     | cells _ _ _ c2 t2 p1 p2 p3 p4 p5=>
      refine .inr (.inr ⟨G,.bool false,w,rfl,?_,.bool false,.bool false,m,Φ,ρ,rfl,.refl _ _,fun _ _ _ h=>h,hr,.bool false,Nat.le_refl _,hK⟩)
      rw[run_callFunc_extern hf hname hb hnx hfd];have:=Lib.run_overlaps_apart (P:=P) w tS tR e htS size hsz ⟨lo1.blk,(lo1.sh+o1)*lo1.k,none⟩ ⟨lo2.blk,(lo2.sh+o2)*lo2.k,none⟩ l1 cap1 l2 cap2 hblk t1 t2 c1.size c2.size
       (by simp[World.shape?,g4]) (by simp[World.shape?,j4]) (by
         rw[p2];have hn:0<lo2.n:=by omega
         have:=Nat.mul_pos hn hk2;omega) (by simp[World.frozen?,g4]) (by simp[World.frozen?,g4])
      rw[this];rfl
def fcX(call:Caller)(G:FuncId):FCaller:=fun fn args m=>
 match fn with
 | .func g=>bif Nat.beq g G then match args with
  | [.sl b1 _ l1,.sl b2 _ l2]=>match m.tr.get b1,m.tr.get b2 with
   | some (.cells _ _),some (.cells k2 _)=>bif !(Nat.beq b1 b2)&&Nat.ble 1 l1&&Nat.ble 1 l2&&Nat.ble 1 k2 then some (.bool false,m,[])else none
   | _,_=>none
  | _=>none
  else call g args m
 | _=>none
theorem Z2s{call:Caller}(hcall:P5 P call)(G:FuncId):Zh3 (cwX P G) (fcX call G):=by
 intro fn args m v m' wl h;cases fn<;>simp only[fcX]at h<;>first|(cases h; done)|skip
 rename_i g;cases hg:Nat.beq g G with
 | false=>
  rw[hg]at h;obtain⟨h1,h2,h3⟩:=Zhs hcall (.func g) args m v m' wl h;exact⟨h1,h2,fun id K hK=>.inl (h3 id K hK)⟩
 | true=>
  rw[hg]at h;simp only[cond_true]at h;have hge:=Nat.eq_of_beq_eq_true hg;subst hge;split at h<;>first|(cases h; done)|skip
  rename_i b1 o1 l1 b2 o2 l2;split at h<;>first|(cases h; done)|skip
  rename_i k1 e1 k2 e2 h1 h2;cases hc:!(Nat.beq b1 b2)&&Nat.ble 1 l1&&Nat.ble 1 l2&&Nat.ble 1 k2 with
  | false=>rw[hc]at h; cases h
  | true=>
   rw[hc]at h;simp only[cond_true,oI,pI2]at h;obtain⟨rfl,rfl,rfl⟩:=h;simp only[bA,Bool.not_eq_true']at hc;obtain⟨⟨⟨c1,c2⟩,c3⟩,c4⟩:=hc;exact⟨Nat.le_refl _,fun _ _ _=>rfl,fun id K hK=>.inr ⟨rfl,b1,o1,l1,b2,o2,l2,k1,e1,k2,e2,rfl,(fun e=>by subst e; rw[Nat.beq_refl]at c1; cases c1),Nat.le_of_ble_eq_true c2,Nat.le_of_ble_eq_true c3,Nat.le_of_ble_eq_true c4,h1,h2,hK⟩⟩
def runX(tab:Nat→Option AFn)(call:Caller)(G b N:Nat)(ex:Bool)(g:FuncId)(args:List AVal)(m:TM):Option (AVal×TM×List Nat):=
 match tab g with
 | some af=>bif Nat.ble args.length af.ntmps then match T5 (sdX b N ex) (fcX call G) call true true m.next 1000 af.body ⟨J8 .nil 0 args,m,[]⟩ with
  | some (.exit _,_)=>none
  | some (_,s)=>match A7 s.t s.m af.results with
   | some v=>some (v,s.m,s.wl)
   | none=>none
  | none=>none
  else none
 | none=>none
theorem Z3a(hm:P.follows .mixedOrders=true){tab:Nat→Option AFn}(htab:Zd8 P tab){call:Caller}(hcall:P5 P call){G b N:Nat}{ex:Bool}(hG:Zeq P G){g:FuncId}{args:List AVal}{m m':TM}{v:AVal}{wl:List Nat}
 (h:runX tab call G b N ex g args m=some (v,m',wl)):m.next≤m'.next∧(∀ c,c<m.next→c∉wl→m'.mem.get c=m.mem.get c)∧ACallsH (HEx b N ex) P g args m.mem fun r m''=>r=v∧m''=m'.mem:=by
 unfold runX at h;cases ht:tab g with
 | none=>simp[ht]at h
 | some af=>
  simp only[ht]at h;obtain⟨⟨fn,hf1,hf2⟩,hd,hb⟩:=htab g af ht;cases hl:Nat.ble args.length af.ntmps with
  | false=>rw[hl]at h; cases h
  | true=>
   rw[hl]at h;simp only[cond_true]at h;obtain⟨a1,a2⟩:=Zl0 hb (Zmh hl);split at h<;>first|(cases h; done)|skip
   rename_i e s hne hrun;obtain⟨h1,h2⟩:=Zic (Ybq b N ex) (Z2s hcall G) hcall hb 1000 af.body ⟨J8 .nil 0 args,m,[]⟩ s e a1 (Nat.le_refl _) hd hrun;cases hr:A7 s.t s.m af.results with
   | none=>simp[hr]at h
   | some r=>
    simp only[hr,oI,pI2]at h;obtain⟨rfl,rfl,rfl⟩:=h;refine⟨h1.next,fun c hc hw=>(h1.keep c hc hw).2,Zs7 hm HEx.mono (Zy6 Open.wide b N ex) (Ztf hG) hf1 hf2 ?_⟩
    rw[← a2];refine h2 _ ?_;have hrA:N7 (toL af.ntmps s.t) s.m.mem af.results=some r:=by rw[Zlb h1.t]; exact hr
    cases e with
    | normal=>simp only[REnd.exit',retK,RS.st,hrA]; exact⟨trivial,trivial⟩
    | ret=>simp only[REnd.exit',retK,RS.st,hrA]; exact⟨trivial,trivial⟩
    | exit i=>exact absurd rfl (hne i)
def padM(m:TM)(b k:Nat)(els:List (List AVal))(N:Nat):TM:=m.set b (some (.cells k (els++List.replicate (N - els.length) (List.replicate k .bot))))
def oneX(tab:Nat→Option AFn)(call:Caller)(G b k:Nat)(els:List (List AVal))(N:Nat)(ex:Bool)(g:FuncId)(args:List AVal)(m:TM):Option (List (List AVal)×Nat):=
 match runX tab call G b N ex g args (padM m b k els N)with
 | some (.sl br off tot,m2,wl)=>bif (Nat.beq br b||Nat.ble m.next br)&&wl.all (Nat.beq b)then match m2.tr.get br with
  | some (.cells k2 els2)=>bif Nat.beq k2 k&&Nat.ble (off+tot) els2.length then some ((els2.drop off).take tot,m2.next)else none
  | _=>none
  else none
 | _=>none
def Zhi(m:Mem)(b k:Nat)(rows:List (List AVal))(nx:Nat):Mem:=((m.del b).set nx (.cells k rows)).at (nx+1)
theorem Zze{W:Base}{Φ:Pers}{ρ:Rho}{m:Mem}{w:World}{b k N:Nat}{els:List (List AVal)}{l:Loc}(hr:Rel W Φ ρ m w)(hg:m.get b=some (.cells k els))(hl:ρ b=some l)(hN:els.length≤N)(hroom:l.sh+N≤l.n) :
 Rel W Φ ρ (m.set b (.cells k (els++List.replicate (N - els.length) (List.replicate k .bot)))) w:=by
 obtain⟨l',o,g1,g2,g3,g4,g5⟩:=hr.live b _ hg;rw[hl]at g1; injection g1 with g1; subst g1
 cases g5 with
 | cells _ _ _ c e q1 q2 q3 q4 q5=>
  have hex:∀ c' x',(m.set b (.cells k (els++List.replicate (N - els.length) (List.replicate k .bot)))).get c'=some x' → ∃ x,m.get c'=some x:=by
   intro c' x' h;simp only[Mem.get_set]at h;split at h
   ·rename_i hc; subst hc; exact⟨_,hg⟩
   ·exact⟨_,h⟩
  refine⟨hr.base,hr.pers,fun b' x hx=>?_,fun b1 b2 x1 x2 l1 l2 h1 h2 h3 h4=>?_,hr.fresh,hr.newp⟩
  ·simp only[Mem.get_set]at hx;split at hx
   ·rename_i hb';subst hb';injection hx with hx
    subst hx;refine⟨l,_,hl,g2,g3,g4,.cells _ _ _ _ _ q1 q2 (by simp only[List.length_append,List.length_replicate]; omega) ⟨fun i row hi=>?_,fun i row j x hi hj=>?_⟩ q5⟩
    ·rw[List.getElem?_append]at hi;split at hi
     ·exact q4.1 i row hi
     ·have:=List.eq_of_mem_replicate (List.mem_of_getElem? hi);subst this;simp
    ·rw[List.getElem?_append]at hi;split at hi
     ·exact q4.2 i row j x hi hj
     ·rename_i hge;have hrow:=List.eq_of_mem_replicate (List.mem_of_getElem? hi);have hi2:=(gS.1 hi).1;simp only[List.length_replicate]at hi2;subst hrow;have hx:=List.eq_of_mem_replicate (List.mem_of_getElem? hj);have hj2:=(gS.1 hj).1;simp only[List.length_replicate]at hj2;subst hx;have hlt:(l.sh+i)*k+j<c.size:=by
       rw[q2];have h1:(l.sh+i+1)*k≤l.n*k:=Nat.mul_le_mul_right _ (by omega)
       rw[Nat.add_mul]at h1;omega
      exact⟨c[(l.sh+i)*k+j],Array.getElem?_eq_getElem hlt,q5 _ (by simp),.bot _⟩
   ·exact hr.live b' x hx
  ·obtain⟨y1,k1⟩:=hex _ _ h1;obtain⟨y2,k2⟩:=hex _ _ h2;exact hr.inj _ _ _ _ _ _ k1 k2 h3 h4
theorem Zr2{m:TM}{b k N:Nat}{els:List (List AVal)}(hb:b<bound):(padM m b k els N).mem=m.mem.set b (.cells k (els++List.replicate (N - els.length) (List.replicate k .bot))):=TM.set_mem_some hb
def Zos(ex:Bool)(N:Nat)(l:Loc):Prop:=match ex with
 | true=>l.n=l.sh+N
 | false=>l.sh+N≤l.n
def Ydu(W:Base)(Φ:Pers)(ρ:Rho)(m:Mem)(b k:Nat)(rows:List (List AVal))(nx:Nat)(e:Ending)(w':World):Prop:=
 ∃ v Φ' ρ',e=.returned v∧Ext Φ ρ Φ' ρ'∧KeepN m.next ρ ρ'∧Rel W Φ' ρ' (Zhi m b k rows nx) w'∧R Φ' ρ' (.sl nx 0 rows.length) v
theorem Zxt(hm:P.follows .mixedOrders=true){tab:Nat→Option AFn}(htab:Zd8 P tab){call:Caller}(hcall:P5 P call){G b k N:Nat}{els rows:List (List AVal)}{ex:Bool}(hG:Zeq P G){g:FuncId}{args:List AVal}{m:TM}{nx1:Nat}
 (hb:b<bound) (hg:m.mem.get b=some (.cells k els)) (hN:els.length≤N) (h:oneX tab call G b k els N ex g args m=some (rows,nx1)) :
 Zhg P g ∧ ∀(nx:Nat),nx1≤nx→m.next≤nx → ∀(W:Base) (Φ:Pers) (ρ:Rho) (l:Loc),ρ b=some l→Zos ex N l → ∀(vs:Array Value) (w:World),Rel W Φ ρ m.mem w→RL Φ ρ args vs →
  Calls P g vs w (Ydu W Φ ρ m.mem b k rows nx):=by
 unfold oneX at h;split at h<;>first|(cases h; done)|skip
 rename_i br off tot m2 wl hrun;cases hc:(Nat.beq br b||Nat.ble m.next br)&&wl.all (Nat.beq b)with
 | false=>rw[hc]at h; cases h
 | true=>
  rw[hc]at h;simp only[cond_true]at h;simp only[bA,Bool.or_eq_true]at hc;obtain⟨hbr,hwl⟩:=hc;split at h<;>first|(cases h; done)|skip
  rename_i k2 els2 hg2;cases hc2:Nat.beq k2 k&&Nat.ble (off+tot) els2.length with
  | false=>rw[hc2]at h; cases h
  | true=>
   rw[hc2]at h;simp only[cond_true,oI,pI2]at h;obtain⟨rfl,rfl⟩:=h;simp only[bA]at hc2;have hk:=Nat.eq_of_beq_eq_true hc2.1;subst hk;have hol:=Nat.le_of_ble_eq_true hc2.2;obtain⟨h1,h2,h3⟩:=Z3a hm htab hcall hG hrun;refine⟨h3.1,fun nx hnx1 hnx W Φ ρ l hl hroom vs w hr ha=>?_⟩
   have hn':l.sh+N≤l.n:=by
    cases ex with
    | true=>simp only[Zos]at hroom; omega
    | false=>exact hroom
   have hp:=Zze hr hg hl hN hn';rw[Zr2 hb]at h3;refine(h3.2 W Φ ρ ⟨l,hl,hroom⟩ vs w hp ha).mono ?_;rintro e w' ⟨v,r,m'',Φ',ρ',rfl,e1,k1,r1,hR,n1,rfl,rfl⟩;have hg2':m2.mem.get br=some (.cells k2 els2):=hg2;cases hR with
   | sl _ _ _ ad cap l2 hl2 hle hcn hcap hav=>
    have hnx0:ρ' nx=none:=by
     cases hq:ρ' nx with
     | none=>rfl
     | some q=>have:=r1.fresh _ _ hq; have:m2.mem.next=m2.next:=rfl; omega
    obtain⟨l2',ob,g1,g2,g3,g4,g5⟩:=r1.live br _ hg2';rw[hl2]at g1; injection g1 with g1; subst g1
    cases g5 with
    | cells _ _ _ c e' q1 q2 q3 q4 q5=>
     have hlen:((els2.drop off).take tot).length=tot:=by simp; omega
     have hBR:BR Φ' (ρ'.put nx ⟨l2.blk,l2.sh+off,l2.k,l2.n⟩) (.cells k2 ((els2.drop off).take tot)) ⟨l2.blk,l2.sh+off,l2.k,l2.n⟩ (.cells c e' (0,0)):=
      BR.ext (Rho.ext_put hnx0) (.cells _ _ _ _ _ q1 q2 (by rw[hlen]; show l2.sh+off+tot≤l2.n; omega) (Zya q4) q5)
     have r2:=Zwh (l':=⟨l2.blk,l2.sh+off,l2.k,l2.n⟩) (r1.at_ (n:=nx+1) (by have:m2.mem.next=m2.next:=rfl; omega)) hg2' hl2 hnx0 (Nat.lt_succ_self nx) rfl hBR
     rw[Zlf g4]at r2;refine⟨_,Φ',ρ'.put nx ⟨l2.blk,l2.sh+off,l2.k,l2.n⟩,rfl,e1.trans (Rho.ext_put hnx0),fun c hc h0=>?_,r2.sub ⟨fun c x hx=>?_,Nat.le_refl _⟩,?_⟩
     ·unfold Rho.put;rw[if_neg (by have:m.mem.next=m.next:=rfl; omega)]
      exact k1 c hc h0
     ·simp only[Zhi,Mem.get_at,Mem.get_set,Mem.get_del]at hx ⊢;split at hx
      ·rename_i hcn';rw[if_pos hcn'];exact hx
      ·rename_i hcn';rw[if_neg hcn'];split at hx
       ·cases hx
       ·rename_i hcb;have hclt:c<m.next:=by
         obtain⟨lc,_,hc1,_⟩:=hr.live c x hx;exact hr.fresh c lc hc1
        have hcbr:c≠br:=by
         intro e;subst e;rcases hbr with hbr|hbr
         ·exact hcb (Nat.eq_of_beq_eq_true hbr)
         ·have:=Nat.le_of_ble_eq_true hbr; omega
        rw[if_neg hcbr];have hk2:=h2 c hclt (fun hw=>hcb (by
         have:=List.all_eq_true.1 hwl c hw;exact(Nat.eq_of_beq_eq_true this).symm))
        rw[hk2,Zr2 hb];simp only[Mem.get_set];rw[if_neg hcb];exact hx
     ·rw[hlen];refine .sl nx 0 tot ad cap ⟨l2.blk,l2.sh+off,l2.k,l2.n⟩ Rho.put_same hle (by simpa using hcn) (fun hc0=>?_) hav
      rw[hcap hc0];rfl
def allX(tab:Nat→Option AFn)(call:Caller)(G b k:Nat)(els:List (List AVal))(g:FuncId)(args:List AVal)(m:TM)(T:Nat)(rows:List (List AVal)):Nat→Nat→Nat→Option Nat
 | 0,_,nx=>some nx
 | c+1,N,nx=>match oneX tab call G b k els N (Nat.ble (N+1) T) g args m with
  | some (r,nx1)=>bif Zfs r rows then allX tab call G b k els g args m T rows c (N+1) (bif Nat.ble nx nx1 then nx1 else nx)else none
  | none=>none
theorem Zst{tab:Nat→Option AFn}{call:Caller}{G b k:Nat}{els:List (List AVal)}{g:FuncId}{args:List AVal}{m:TM}{T:Nat}{rows:List (List AVal)}:∀ (c N nx nx':Nat),allX tab call G b k els g args m T rows c N nx=some nx' →
 nx≤nx' ∧ ∀ N',N≤N'→N'<N+c → ∃ nx1,nx1≤nx'∧oneX tab call G b k els N' (Nat.ble (N'+1) T) g args m=some (rows,nx1)
 | 0,N,nx,nx',h=>by
  simp only[allX,oI]at h;subst h;exact⟨Nat.le_refl _,fun N' h1 h2=>by omega⟩
 | c+1,N,nx,nx',h=>by
  simp only[allX]at h;cases ho:oneX tab call G b k els N (Nat.ble (N+1) T) g args m with
  | none=>simp[ho]at h
  | some r=>
   obtain⟨r,nx1⟩:=r;simp only[ho]at h;cases hq:Zfs r rows with
   | false=>rw[hq]at h; cases h
   | true=>
    rw[hq]at h;simp only[cond_true]at h;have hre:=Zpj _ _ hq;subst hre;obtain⟨h1,h2⟩:=Zst c (N+1) _ nx' h;have hmax:nx≤(bif Nat.ble nx nx1 then nx1 else nx)∧nx1≤(bif Nat.ble nx nx1 then nx1 else nx):=by
     cases hb:Nat.ble nx nx1 with
     | true=>exact ⟨Nat.le_of_ble_eq_true hb,Nat.le_refl _⟩
     | false=>
      refine⟨Nat.le_refl _,?_⟩;have:=Zid hb;exact Nat.le_of_lt this
    refine⟨Nat.le_trans hmax.1 h1,fun N' h3 h4=>?_⟩
    by_cases he:N'=N
    ·subst he;exact⟨nx1,Nat.le_trans hmax.2 h1,ho⟩
    ·exact h2 N' (by omega) (by omega)
def Zis:List AVal→Nat
 | []=>0
 | [x]=>(U9 x).getD 0
 | _ :: r=>Zis r
def Zfg(g:Nat):List (Nat×Nat)→Option Nat
 | []=>none
 | (a,b) :: r=>bif Nat.beq a g then some b else Zfg g r
def Zqi(tab:Nat→Option AFn)(call:Caller)(spec:List (Nat×Nat)):Caller:=fun g args m=>
 match Zfg g spec with
 | none=>none
 | some G=>match args with
  | .sl b off len :: _=>match m.tr.get b with
   | some (.cells k els)=>bif Nat.beq els.length (off+len)&&Nat.ble (b+1) bound&&Nat.ble (m.next+100000) bound then
    match oneX tab call G b k els els.length (Nat.ble (els.length+1) (els.length+Zis args)) g args m with
    | some (rows,nx0)=>match allX tab call G b k els g args m (els.length+Zis args) rows (Zis args) (els.length+1) (bif Nat.ble m.next nx0 then nx0 else m.next)with
     | some nx=>bif Nat.ble (nx+1) bound then some (.sl nx 0 rows.length,⟨(m.tr.set depth b none).set depth nx (some (.cells k rows)),nx+1⟩,[b])else none
     | none=>none
    | none=>none
    else none
   | _=>none
  | _=>none
theorem Yev(hm:P.follows .mixedOrders=true){tab:Nat→Option AFn}(htab:Zd8 P tab){call:Caller}(hcall:P5 P call){spec:List (Nat×Nat)}(hs:∀ g G,Zfg g spec=some G→Zeq P G):P5 P (Zqi tab call spec):=by
 intro g args m v m' wl h;unfold Zqi at h;cases hf:Zfg g spec with
 | none=>simp[hf]at h
 | some G=>
  simp only[hf]at h;have hG:=hs g G hf;split at h<;>first|(cases h; done)|skip
  rename_i b off len rest;split at h<;>first|(cases h; done)|skip
  rename_i k els hgT;have hg:m.mem.get b=some (.cells k els):=hgT;cases hc:Nat.beq els.length (off+len)&&Nat.ble (b+1) bound&&Nat.ble (m.next+100000) bound with
  | false=>rw[hc]at h; cases h
  | true=>
   rw[hc]at h;simp only[cond_true]at h;simp only[bA]at hc;have hol:=Nat.eq_of_beq_eq_true hc.1.1;have hb:b<bound:=Nat.le_of_ble_eq_true hc.1.2;obtain⟨T,hT⟩:∃ T,T=Zis (AVal.sl b off len :: rest):=⟨_,rfl⟩
   rw[← hT]at h;cases ho:oneX tab call G b k els els.length (Nat.ble (els.length+1) (els.length+T)) g (.sl b off len :: rest) m with
   | none=>simp[ho]at h
   | some r=>
    obtain⟨rows,nx0⟩:=r;simp only[ho]at h;cases hall:allX tab call G b k els g (.sl b off len :: rest) m (els.length+T) rows T (els.length+1) (bif Nat.ble m.next nx0 then nx0 else m.next)with
    | none=>simp[hall]at h
    | some nx=>
     simp only[hall]at h;cases hbd:Nat.ble (nx+1) bound with
     | false=>rw[hbd]at h; cases h
     | true=>
      rw[hbd]at h;simp only[cond_true,oI,pI2]at h;obtain⟨rfl,rfl,rfl⟩:=h;obtain⟨hmx,hspec⟩:=Zst _ _ _ _ hall;have hnx:m.next≤nx∧nx0≤nx:=by
       have hmax:m.next≤(bif Nat.ble m.next nx0 then nx0 else m.next)∧nx0≤(bif Nat.ble m.next nx0 then nx0 else m.next):=by
        cases hq:Nat.ble m.next nx0 with
        | true=>exact ⟨Nat.le_of_ble_eq_true hq,Nat.le_refl _⟩
        | false=>exact ⟨Nat.le_refl _,Nat.le_of_lt (Zid hq)⟩
       exact⟨Nat.le_trans hmax.1 hmx,Nat.le_trans hmax.2 hmx⟩
      have hnb:nx<bound:=Nat.le_of_ble_eq_true hbd;have hmem:(⟨(m.tr.set depth b none).set depth nx (some (.cells k rows)),nx+1⟩:TM).mem=Zhi m.mem b k rows nx:=by
       refine Mem.ext' (fun c=>?_) rfl
       simp only[Zhi,Mem.get_at,Mem.get_set,Mem.get_del,TM.mem];rw[Tr.get_set depth _ nx _ c (Ze8 hnb)];split
       ·rfl
       ·rw[Tr.get_set depth _ b _ c (Ze8 hb)]
      have hone:∀ N',els.length≤N'→N'≤els.length+T → ∃ nx1,nx1≤nx∧oneX tab call G b k els N' (Nat.ble (N'+1) (els.length+T)) g (.sl b off len :: rest) m=some (rows,nx1):=by
       intro N' h1 h2;by_cases he:N'=els.length
       ·subst he; exact⟨nx0,hnx.2,ho⟩
       ·exact hspec N' (by omega) (by omega)
      refine⟨by show m.next≤nx+1; omega,fun c hc hw=>?_,fun id=>⟨?_,fun W Φ ρ vs w hr ha hav=>?_⟩⟩
      ·rw[hmem];simp only[List.mem_singleton]at hw;simp only[Zhi,Mem.get_at,Mem.get_set,Mem.get_del];rw[if_neg (by omega),if_neg hw]
      ·obtain⟨nx1,_,ho1⟩:=hone els.length (Nat.le_refl _) (by omega)
       exact(Zxt hm htab hcall hG hb hg (Nat.le_refl _) ho1).1
      ·obtain⟨l,ob,g1,g2,g3,g4,g5⟩:=hr.live b _ hg;have hlow:l.sh+els.length≤l.n:=by
        cases g5 with
        | cells _ _ _ c e q1 q2 q3 q4 q5=>exact q3
       rw[hmem];have fin:∀ N',els.length≤N'→N'≤els.length+T→Zos (Nat.ble (N'+1) (els.length+T)) N' l →
        Calls P g vs w fun e w'=>∃ v r m' Φ' ρ',e=.returned v∧Ext Φ ρ Φ' ρ'∧(∀ b,b<m.mem.next→b∉[id]→ρ b=none→ρ' b=none)∧Rel W Φ' ρ' m' w'∧R Φ' ρ' r v∧m.mem.next≤m'.next∧r=.sl nx 0 rows.length∧m'=Zhi m.mem b k rows nx:=by
        intro N' h1 h2 hroom;obtain⟨nx1,hn1,ho1⟩:=hone N' h1 h2;refine((Zxt hm htab hcall hG hb hg h1 ho1).2 nx hn1 hnx.1 W Φ ρ l g1 hroom vs w hr ha).mono ?_;rintro e w' ⟨v,Φ',ρ',rfl,e1,k1,r1,hR⟩;exact⟨v,_,_,Φ',ρ',rfl,e1,fun c hc _ h0=>k1 c hc h0,r1,hR,by show m.next≤nx+1; omega,rfl,rfl⟩
       by_cases hbig:els.length+T≤l.n - l.sh
       ·refine fin (els.length+T) (by omega) (Nat.le_refl _) ?_
        have:Nat.ble (els.length+T+1) (els.length+T)=false:=by
         cases hq:Nat.ble (els.length+T+1) (els.length+T)with
         | false=>rfl
         | true=>have:=Nat.le_of_ble_eq_true hq; omega
        rw[this];show l.sh+(els.length+T)≤l.n;omega
       ·refine fin (l.n - l.sh) (by omega) (by omega) ?_
        rw[Nat.ble_eq_true_of_le (by omega)]
        show l.n=l.sh+(l.n - l.sh);omega
end
end Go.AE
