/- Part 35 of the proof: Sb, Sf, Sj, Sx, Yb, AeWv. -/
import Derived.Test.YtggclbeocekgkaaGreatDoorP6
import Derived.Test.YtggclbeocekgkaaGreatDoorP19
import Derived.Test.YtggclbeocekgkaaGreatDoorP20
import Derived.Test.YtggclbeocekgkaaGreatDoorP31
import Derived.Test.YtggclbeocekgkaaGreatDoorP32
import Derived.Test.YtggclbeocekgkaaGreatDoorP33
import Derived.Test.YtggclbeocekgkaaGreatDoorP34
set_option linter.all false
section
namespace Go.Ac
open Go Go.AE Go.Proofs
open Go.Plain
def Ls(f:Int)(a b c:Bool)(ls:List Lt):Nat→List Lt
 | 0=>ls
 | 1=>Po a ls
 | 2=>Uy f b (Po a ls)
 | _=>gK c (Uy f b (Po a ls))
end Go.Ac
end
section
namespace Go.Ac
open Go Go.AE Go.Proofs
open Go.Plain
theorem Lu(ls:List Lt){i:Nat}(h:i<ls.length):(ls.map Ab)[i]? = some (Ab (at' ls i)):=by
 rw[gM,gE h,at',List.getD,gE h];rfl
end Go.Ac
end
section
namespace Go.AE
open Go.RowKit
variable {P:Program}
def Wk(v v':Aa):Prop:=∀ (Φ:Ao) (ρ:AD) (u:Value),R Φ ρ v u→R Φ ρ v' u
def Ve:List Aa→List Aa→Prop
 | [],[]=>True
 | x :: r,y :: s=>Wk x y∧Ve r s
 | _,_=>False
theorem Wk.refl(v:Aa):Wk v v:=fun _ _ _ h=>h
theorem Z1k:Wk .Ae (.Aj []):=fun Φ ρ u h=>Z0o Φ ρ u h Φ ρ
theorem YU:∀ {xs ys:List Aa},Ve xs ys→xs.length=ys.length ∧ ∀(i:Nat) (y:Aa),ys[i]? = some y → ∃ x,xs[i]? = some x∧Wk x y
 | [],[],_=>⟨rfl,fun i y h=>by simp at h⟩
 | [],_ :: _,h=>h.elim
 | _ :: _,[],h=>h.elim
 | x :: r,y :: s,h=>by
  obtain⟨h1,h2⟩:=YU h.2;refine⟨by simp[h1],fun i z hz=>?_⟩
  cases i with
  | zero=>cases hz; exact⟨x,rfl,h.1⟩
  | succ i=>grind
theorem lX{xs ys:List Aa}(h:Ve xs ys):Wk (.agg xs) (.agg ys):=fun Φ ρ u hu=>by
 obtain⟨h1,h2⟩:=YU h;cases hu with
 | agg cs vs hs hr=>
  refine .agg _ _ (by rw[hs,h1]) fun i y v hy hv=>?_
  obtain⟨x,hx,hw⟩:=h2 i y hy;exact hw _ _ _ (hr i x v hx hv)
theorem yH{xs ys:List Aa}(h:Ve xs ys):Wk (.tuple xs) (.tuple ys):=fun Φ ρ u hu=>by
 obtain⟨h1,h2⟩:=YU h;cases hu with
 | tuple cs vs hs hr=>
  refine .tuple _ _ (by rw[hs,h1]) fun i y v hy hv=>?_
  obtain⟨x,hx,hw⟩:=h2 i y hy;exact hw _ _ _ (hr i x v hx hv)
theorem Al.wk{g:FuncId}{args:List Aa}{v v':Aa}(h:Al P g args v)(hv:Wk v v'):Al P g args v':=by
 intro m av;refine⟨(h m av).1,fun W Φ ρ vs w hr ha CN=>((h m av).2 W Φ ρ vs w hr ha CN).mono fun e w' he=>?_⟩
 obtain⟨u,r,m',Ar,ρ',e1,hE,hk,hr',hR,hn,rfl,rfl⟩:=he;exact⟨u,_,_,Ar,ρ',e1,hE,hk,hr',hv _ _ _ hR,hn,rfl,rfl⟩
end Go.AE
namespace Go.Ac
open Go Go.AE Go.Proofs
open Go.Plain
end Go.Ac
end
section
namespace Go.Ac
open Go Go.AE Go.Proofs
open Go.Plain
structure Fg where
 p:Int
 r:Bool
 d:Int
deriving DecidableEq,Inhabited
def Ax(x:Fg):List Aa:=[.int .i64 x.p,.bool x.r,.int .i64 x.d]
def Dx(fs:List Fg)(re lo:Int):Aa:=.agg [.Aj (fs.map Ax),.int .i64 re,.int .i64 lo]
def Q8(fs:List Fg)(i:Nat):Fg:=fs.getD i default
def EY(x:Fg)(fs:List Fg):Nat:=fs.findIdx fun y=>decide (y=x)
theorem H9:∀ (fs:List Fg),U3 (fs.map Ax)=true
 | []=>rfl
 | l :: r=>by simp only[List.map_cons,U3,H9 r,Bool.and_true]; rfl
theorem uC(fs:List Fg){i:Nat}(h:i<fs.length):(fs.map Ax)[i]? = some (Ax (Q8 fs i)):=by
 rw[gM,gE h,Q8,List.getD,gE h];rfl
theorem Ro{fs:List Fg}{i:Nat}(h:i<fs.length):Q8 fs i=fs[i]:=by rw[Q8,List.getD,gE h]; rfl
theorem Ydf(a b:Fg):L2 [.int,.bool,.int] (Ax a) (Ax b)=some (decide (a=b)):=by
 obtain⟨a1,a2,a3⟩:=a;obtain⟨b1,b2,b3⟩:=b;simp only[Ax,L2,G0,if_true,Fg.mk.injEq];by_cases h1:a1=b1
 ·by_cases h2:a2=b2
  ·by_cases h3:a3=b3
   ·simp[h1,h2,h3]
   ·simp[h1,h2,h3,beq_false_of_ne h3]
  ·simp[h1,h2,beq_false_of_ne h2]
 ·simp[h1,beq_false_of_ne h1]
theorem Z9d(a b:Fg):U6 .eql (.flat [.int,.bool,.int]) (.agg (Ax a)) (.agg (Ax b))=some (.bool (decide (a=b))):=by
 simp only[U6,EJ,Ydf]
theorem Z14(x:Fg)(fs:List Fg):EY x fs≤fs.length:=List.findIdx_le_length
theorem qW{x:Fg}{fs:List Fg}{i:Nat}(h:i<fs.length)(hx:Q8 fs i=x)(hn:∀ j,j<i→Q8 fs j≠x):EY x fs=i:=by
 unfold EY;rw[List.findIdx_eq h];refine⟨by rw[← Ro h,hx]; simp,fun j hj=>?_⟩
 have:=hn j hj;rw[Ro (by omega)]at this
 simpa using this
theorem Zz4{x:Fg}{fs:List Fg}(hn:∀ j,j<fs.length→Q8 fs j≠x):EY x fs=fs.length:=by
 unfold EY;rw[List.findIdx_eq_length];intro y hy;obtain⟨j,hj,rfl⟩:=List.getElem_of_mem hy;have:=hn j hj;rw[Ro hj]at this;simpa using this
def Mg(x:Fg)(fs:List Fg):Int:=if EY x fs<fs.length then (EY x fs:Int)else -1
set_option maxRecDepth 100000 in
set_option maxHeartbeats 4000000 in
theorem cQ(x:Fg)(fs:List Fg)(h:fs.length≤1000):Al Tryz.prog 166 [.Aj (fs.map Ax),.agg (Ax x)] (.int .i64 (Mg x fs)):=by
 refine R2 hm Tryz.func166 pN rfl rfl (by simp[X8,Aa.closed,H9,Ax]) trivial fun K hK=>?_
 have Ak:∀ q,Z3 q (fs.map Ax)=fs.map Ax:=fun q=>Y1 q _ (H9 fs)
 have hrx:∀ q,Q5 q (Ax x)=Ax x:=fun q=>rfl
 have hlen:(fs.map Ax).length=fs.length:=lM ..;have hg:=fun i hi=>uC fs (i:=i) hi
 have l3:∀ y:Fg,(Ax y).length=3:=fun _=>rfl
 have t3:∀ y:Fg,(Ax y).take 3=Ax y:=fun _=>rfl
 have hq:=fun y=>Z9d x y
 generalize fs.map Ax=rows at *;have hl0:=l3 x;have ht0:=t3 x;simp[hlen,hl0];refine W5 (α:=Nat) (fun i=>[(8,.int .i64 i),(7,.int .i64 fs.length),(6,.Aj rows),(0,.Aj rows),(3,.ptr 1 0 0)]) (fun _=>⟨[(1,.cells 3 [Ax x])],2⟩) (fun i=>fs.length - i) (fun i=>i≤fs.length ∧ ∀ j,j<i→Q8 fs j≠x) 0 [] (by simp[Ak,hrx]) (by simp) ?_
 rintro i ⟨hi,hI⟩ N hN
 try simp only at hi hN ⊢
 by_cases hlt:i<fs.length
 ·have hgi:=hg i hlt;obtain⟨hgl,hg2⟩:=Y8 hgi;have hw:=Y7 ((i:Int)+1);have he:=hq (Q8 fs i);have hl1:=l3 (Q8 fs i);have ht1:=t3 (Q8 fs i);by_cases hx:x=Q8 fs i
  ·have hfi:Mg x fs=(i:Int):=by
    unfold Mg;rw[qW hlt hx.symm hI,iP hlt]
   rw[hfi]at hK;rw[decide_eq_true hx]at he;generalize Ax (Q8 fs i)=ra at *;generalize Ax x=rb at *;simp[hlt,hgi,hl0,ht0,hl1,ht1,he];exact Z4 hK [] (by simp)
  ·rw[decide_eq_false hx]at he;generalize Ax (Q8 fs i)=ra at *;generalize Ax x=rb at *;simp[hlt,hgi,hw,hl0,ht0,hl1,ht1,he];refine hN (i+1) [] _ _ (by omega) ⟨by omega,fun j hj e=>?_⟩ (by simp[Ak,hrx])
   by_cases hji:j=i
   ·subst hji; exact hx e.symm
   ·exact hI j (by omega) e
 ·have hie:i=fs.length:=by omega
  have hfi:Mg x fs = -1:=by
   unfold Mg;rw[Zz4 (fun j hj=>hI j (by omega)),iN (by omega)]
  rw[hfi]at hK;simp[hlt];exact Z4 hK [] (by simp)
end Go.Ac
end
section
namespace Go.Ac
open Go.Plain
theorem WZ{n u:Nat}(hu:u<n)(fw:Bool):CL (X6 n u fw)=arr n u (!fw):=by
 unfold CL X6 arr
 grind
theorem xz{n u:Nat}(b:Bool):CL (arr n u b)=X6 n u (!b):=by
 unfold CL X6 arr
 grind
theorem bH(d:Nat):CL (CL d)=d:=by
 unfold CL
 grind
theorem Z96{n d:Nat}(h:d<2*n):CL d<2*n:=by unfold CL; split<;>omega
section
variable {ls:List Lt}
def GA(ls:List Lt)(v:Nat):Bool:=((at' ls v).o == ((at' ls v).s == 1))
abbrev DS(ls:List Lt)(v:Nat):Nat:=Q4 ls v ls.length 0
theorem VZ{v:Nat}(hv:v<ls.length)(hk:(at' ls v).k=2)(b:Bool):BC ls (arr ls.length v b)=X6 ls.length (DS ls v) (b == GA ls v):=by
 unfold BC;rw[aC hv,iP hk];rfl
def rotN(ls:List Lt)(d:Nat):Nat:=CL (BC ls d)
theorem Z8o{n v v':Nat}{b b':Bool}(hv:v<n)(Lj:v'<n)(h:arr n v b=arr n v' b'):v=v'∧b=b':=by
 obtain⟨_,h1,h2⟩:=WM hv b;obtain⟨_,h3,h4⟩:=WM Lj b'
 grind
structure Frt (ls:List Lt) (front:List Nat) (done:List Int):Prop where
 nd:front.Nodup
 lt:∀ d,d∈front→d<2*ls.length
 tl:∀ d,d∈front→(Mm ls (CL d)).k=2→(Mm ls (CL d)).i∈done
end
end Go.Ac
end
section
namespace Go.AE
open Go.RowKit
def OH(n k:Nat)(get:Nat→Option Ai)(v:Aa)(lh:Option (Nat×Nat)):Option (Aa×Nat):=
 match k,v,lh with
 | 1,.ptr b i j,some (l,h)=>match get b with
  | some (.cells _ els)=>match IP get [b] (.sl b i 1)with
   | .Aj [row]=>if i<els.length∧j+n≤row.length∧h≤n∧l≤h then some (.Aj (((row.drop (j+l)).take (h - l)).map fun y=>[y]),b)else none
   | _=>none
  | _=>none
 | _,_,_=>none
section
variable {P:Program} {W:AA} {Φ:Ao} {ρ:AD} {w:World} {m:Mem} {a:Act} {t:List Aa}
theorem Z63{o:Oper}{n k:Nat}{x:Ah}{lo hi:Option Ah}(ho:O9 P o=.Cl n k x lo hi):∃ ty e x0 lo0 hi0,o.op=.slice ty x0 lo0 hi0 none∧P.underlying ty=some (.array n e)∧N8 P e=some k∧X3 x0=some x∧I7 lo0=some lo∧I7 hi0=some hi:=by
 unfold O9 at ho;cases hc:Gf P o with
 | none=>simp[hc]at ho
 | some op=>
  simp only[hc,Option.getD_some]at ho;subst ho;unfold Gf at hc;split at hc<;>first|(cases hc; done)|skip
  all_goals first
   | (simp only[mO]at hc; obtain⟨_,_,hc⟩:=hc; cases hc; done)
   | (split at hc<;>first|(cases hc; done)|skip
      all_goals (split at hc<;>first|(cases hc; done)|skip)
      rename_i ty x0 lo0 hi0 mx0 h0 _ _ _ _ _ n0 e0 x1 l1 h1 hu hx hl hh hm _ k0 hk;cases hc;have Dl:mx0=none:=by
       cases mx0 with
       | none=>rfl
       | some z=>simp only[I7]at hm; cases hz:X3 z<;>simp[hz]at hm
      subst Dl;exact⟨ty,_,x0,lo0,hi0,h0,hu,hk,hx,hl,hh⟩)
   | skip
  all_goals (try unfold MT at hc)
  all_goals (repeat' (split at hc<;>first|(cases hc; done)|(simp only[mO]at hc; obtain⟨_,_,hc⟩:=hc; cases hc; done)|skip))
  all_goals (first|(cases hc; done)|skip)
theorem vp{K:Act→World→Prop}{Q:Exit→Act→World→Prop}(ht:RL Φ ρ t a.tmps)(hr:Rel W Φ ρ m w)(o:Oper){n k:Nat}{x:Ah}{lo hi:Option Ah}(ho:O9 P o=.Cl n k x lo hi){v:Aa}{b:Nat}
 (h:OH n k m.get (ev t x) (L9 t n n lo hi)=some (v,b))
 (hK:∀ Ar u,Ext Φ ρ Ar ρ→Rel W Ar ρ (m.del b) w→R Ar ρ v u→K (a.put o.dst u) w):o.wp P a w K Q:=by
 obtain⟨ty,e,x0,lo0,hi0,hop,hu,hk,hx,hl,hh⟩:=Z63 ho;have hv:=R4 ht hx;have hlo:=RX ht hl;have hhi:=RX ht hh;obtain⟨inf,hinf,hsz⟩:=Lw hk;unfold OH at h;split at h
 ·rename_i b0 i j l hi' hev hbd;split at h<;>first|(cases h; done)|skip
  rename_i kk els hgb;split at h<;>first|(cases h; done)|skip
  rename_i row hfz;split at h<;>first|(cases h; done)|skip
  rename_i hc;obtain⟨hc0,hc1,hc2,hc3⟩:=hc;injection h with h
  injection h with h1 h2
  subst h1;subst h2;obtain⟨BM,hE,f1,f2,f3,f4⟩:=xT [b0] hr;have hb:=(RP (P:=P) (w:=w) (cap:=n) (b:=false) hlo hhi hbd (lR _)).1;rw[hev]at hv;obtain⟨lc,ob,q1,q2,q3,q4,q5⟩:=hr.live b0 _ hgb;have hbn:lc.sh+els.length≤lc.n:=by
   cases q5 with
   | cells _ _ _ c e hk hn hl hr h1=>exact hl
  have hR:=f4 _ _ (R.sl (Φ:=Φ) (ρ:=ρ) b0 i 1 (some ⟨lc.blk,(lc.sh+i)*lc.k,none⟩) (lc.n - (lc.sh+i)) lc q1 (by omega) (by omega) (fun _=>rfl) rfl)
  rw[hfz]at hR;generalize hvv:a.eval x0=vv at hv;cases hv with
  | ptr _ _ _ l2 hl2=>
  rw[q1]at hl2;injection hl2 with hl2
  subst hl2;cases hR with
  | Aj _ B o' k cap c f hne hcap hB hk' Ck Ak=>
   have hrow:[row][0]? = some row:=rfl;have hrun:(Instr.sliceAt ty (.pointer (some ⟨lc.blk,(lc.sh+i)*lc.k+j,none⟩)) (lo0.map a.eval) (hi0.map a.eval) none).run P w=.ok (.slice (some (if n=l then ⟨lc.blk,(lc.sh+i)*lc.k+j,none⟩ else (⟨lc.blk,(lc.sh+i)*lc.k+j,none⟩:Addr).add (l*1))) (hi' - l) (n - l)) w:=by
    simp only[Instr.sliceAt,Instr.sureAddr,Sem.run_bind,V1 hu,Result.andThen_ok,Sem.run_pure,hb,H8 hinf,hsz]
   have e0:execOp a.eval o=(do pure (Next.value (← Instr.sliceAt ty (a.eval x0) (lo0.map a.eval) (hi0.map a.eval) none))):=by unfold execOp; rw[hop]; rfl
   have hrun2:(execOp a.eval o).run P w=.ok (Next.value (.slice (some (if n=l then ⟨lc.blk,(lc.sh+i)*lc.k+j,none⟩ else (⟨lc.blk,(lc.sh+i)*lc.k+j,none⟩:Addr).add (l*1))) (hi' - l) (n - l))) w:=by
    rw[e0,hvv];simp only[Sem.run_bind,hrun,Result.andThen_ok,Sem.run_pure]
   unfold Oper.wp;rw[hrun2];have hrl:row.length=k:=hk' _ _ hrow;have hlen:(((row.drop (j+l)).take (hi' - l)).map fun y=>[y]).length=hi' - l:=by simp; omega
   refine hK BM _ hE ⟨hr.base,f1,fun c x hx=>?_,fun c c' x x' l l' g1 g2=>?_,hr.fresh,f2⟩ ?_
   ·simp only[Mem.BB]at hx;split at hx
    ·cases hx
    ·rename_i hne;obtain⟨l,o,g1,g2,g3,g4,g5⟩:=hr.live c x hx;exact⟨l,o,g1,g2,f3 c x l hx g1 (by simp[U8,hne]),g4,g5.ext hE⟩
   ·simp only[Mem.BB]at g1 g2;split at g1<;>first|(cases g1; done)|skip
    split at g2<;>first|(cases g2; done)|skip
    exact hr.inj _ _ _ _ _ _ g1 g2
   ·by_cases hz:hi'=l
    ·have e1:(((row.drop (j+l)).take (hi' - l)).map fun y=>[y])=[]:=List.eq_nil_of_length_eq_zero (by rw[hlen]; omega)
     rw[e1,show hi' - l=0 by omega]
     refine .BS _ _ fun _=>?_
     split
     ·exact⟨_,_,rfl⟩
     ·exact⟨lc.blk,_,by rw[Addr.AZ]⟩
    ·rw[iN (by omega),Addr.AZ]
     have hget:∀ (p:Nat) (r:List Aa),(((row.drop (j+l)).take (hi' - l)).map fun y=>[y])[p]? = some r → ∃ y,row[j+l+p]? = some y∧r=[y]:=fun p r hp=>by
      rw[gM]at hp;cases hq:((row.drop (j+l)).take (hi' - l))[p]? with
      | none=>rw[hq]at hp; cases hp
      | some y=>
       rw[hq]at hp;injection hp with hp
       rw[List.getElem?_take]at hq;split at hq
       ·rw[List.getElem?_drop]at hq;exact⟨y,hq,hp.symm⟩
       ·cases hq
     suffices key:R BM ρ (.Aj (((row.drop (j+l)).take (hi' - l)).map fun y=>[y])) (.slice (some ⟨lc.blk,(lc.sh+i)*lc.k+j+l*1,none⟩) (((row.drop (j+l)).take (hi' - l)).map fun y=>[y]).length (n - l)) by
      rw[hlen]at key;exact key
     refine .Aj _ lc.blk ((lc.sh+i)*lc.k+j+l*1) 1 (n - l) c (fun p q=>f 0 (j+l+p)) (fun e=>by have:=congrArg List.length e; rw[hlen]at this; simp at this; omega) (by rw[hlen]; omega) hB (fun p r hp=>?_) (fun p r q y hp hq=>?_) (fun p r q y hp hq=>?_)
     ·obtain⟨y,_,rfl⟩:=hget p r hp;rfl
     ·obtain⟨y',h3,rfl⟩:=hget p r hp;cases q with
      | succ q=>simp at hq
      | zero=>
       obtain⟨k1,k2⟩:=Ck 0 row (j+l+p) y' hrow h3;refine⟨?_,k2⟩;rw[← k1]
       congr 1
       omega
     ·obtain⟨y',h3,rfl⟩:=hget p r hp;cases q with
      | succ q=>simp at hq
      | zero=>
       simp only[List.getElem?_cons_zero,oI]at hq;subst hq;exact Ak 0 row (j+l+p) y' hrow h3
 ·cases h
def H6(P:Program)(base:Nat):List Af→Nat→(AY→Prop)→List Aa→Mem→Prop
 | [],_,K,t,m=>K ⟨t,m⟩
 | o :: r,i,K,t,m=>
  match T7 t o.guard with
  | some false=>H6 P base r (i+1) K (put t o.dst Ag) m
  | some true=>
   match o.op with
   | .call f xs=>match callee t f xs with
    | some (g,args)=>Au P g args m [base+i] fun v m'=>H6 P base r (i+1) K (put t o.dst v) m'
    | none=>False
   | .Cl n k x lo hi=>match OH n k m.get (ev t x) (L9 t n n lo hi)with
    | some (v,b)=>H6 P base r (i+1) K (put t o.dst v) (m.del b)
    | none=>False
   | op=>match Z5 (base+i) t m op with
    | some (v,m')=>H6 P base r (i+1) K (put t o.dst v) m'
    | none=>False
  | none=>False
theorem vn{base i:Nat}{b:Af}{rest:List Af}{K:AY→Prop}{t:List Aa}{m:Mem}(h:H6 P base (b :: rest) i K t m) :
 (T7 t b.guard=some false∧H6 P base rest (i+1) K (put t b.dst Ag) m) ∨
 (T7 t b.guard=some true∧((∃ f xs g args,b.op=.call f xs∧callee t f xs=some (g,args)∧Au P g args m [base+i] fun v m'=>H6 P base rest (i+1) K (put t b.dst v) m') ∨
   (∃ n k x lo hi v c,b.op=.Cl n k x lo hi∧OH n k m.get (ev t x) (L9 t n n lo hi)=some (v,c)∧H6 P base rest (i+1) K (put t b.dst v) (m.del c)) ∨
   (∃ v m',Z5 (base+i) t m b.op=some (v,m')∧H6 P base rest (i+1) K (put t b.dst v) m'))):=by
 simp only[H6]at h;cases hw:T7 t b.guard with
 | none=>simp[hw]at h
 | some q=>
  cases q with
  | false=>simp only[hw]at h; exact .inl ⟨rfl,h⟩
  | true=>
   simp only[hw]at h;refine .inr ⟨rfl,?_⟩;have other:∀ op,b.op=op→(match Z5 (base+i) t m op with|some (v,m')=>H6 P base rest (i+1) K (put t b.dst v) m'|none=>False) →
    ∃ v m',Z5 (base+i) t m op=some (v,m')∧H6 P base rest (i+1) K (put t b.dst v) m':=by
    intro op _ hh;cases hs:Z5 (base+i) t m op with
    | none=>simp[hs]at hh
    | some r=>obtain ⟨v,m'⟩:=r; simp only[hs]at hh; exact⟨v,m',rfl,hh⟩
   cases hop:b.op with
   | call f xs=>
    simp only[hop]at h;cases hc:callee t f xs with
    | none=>simp[hc]at h
    | some r=>
     obtain⟨g,args⟩:=r;simp only[hc]at h;exact .inl ⟨f,xs,g,args,rfl,hc,h⟩
   | Cl n k x lo hi=>
    simp only[hop]at h;cases hc:OH n k m.get (ev t x) (L9 t n n lo hi)with
    | none=>simp[hc]at h
    | some r=>
     obtain⟨v,c⟩:=r;simp only[hc]at h;exact .inr (.inl ⟨n,k,x,lo,hi,v,c,rfl,hc,h⟩)
   | _=>rw[hop]at h; exact .inr (.inr (other _ hop h))
theorem Sm(W:AA)(base:Nat)(n0:Nat)(ops:Array Oper)(Q:Exit→AY→Prop)(Dh:Ao)(CQ:AD)(hb:n0≤base) :
 ∀(l:List Oper) (GQ:List Af) (i:Nat) (t:List Aa) (m:Mem) (Φ:Ao) (ρ:AD) (a:Act) (w:World),
  GQ.length=l.length→(∀(j:Nat) (o:Oper) (b:Af),l[j]? = some o→GQ[j]? = some b→b.dst=o.dst∧b.op=O9 P o∧C1 ops o.guard=some b.guard) →
  H6 P base GQ i (Q .normal) t m→Rel W Φ ρ m w→RL Φ ρ t a.tmps→a.defers=[]→Ext Dh CQ Φ ρ→BI n0 CQ ρ→(∀ j,i≤j→j<i+GQ.length→ρ (base+j)=none)→base+i+GQ.length≤m.next→n0≤m.next →
  wpList P ops (J7 W Dh CQ n0 Q) l a w
 | [],[],i,t,m,Φ,ρ,a,w,_,_,h,hr,ht,hd,he,hk,_,_,hn=>⟨⟨t,m⟩,Φ,ρ,he,hk,hn,hr,ht,hd,h⟩
 | [],_ :: _,_,_,_,_,_,_,_,hl,_,_,_,_,_,_,_,_,_,_=>by simp at hl
 | _ :: _,[],_,_,_,_,_,_,_,hl,_,_,_,_,_,_,_,_,_,_=>by simp at hl
 | o :: l,b :: GQ,i,t,m,Φ,ρ,a,w,hl,hg,h,hr,ht,hd,he,hk,hfree,CY,hn=>by
  obtain⟨e1,e2,e3⟩:=hg 0 o b rfl rfl;have hg':∀ (j:Nat) (o:Oper) (b:Af),l[j]? = some o→GQ[j]? = some b→b.dst=o.dst∧b.op=O9 P o∧C1 ops o.guard=some b.guard:=fun j o b ho hb=>hg (j+1) o b (by simpa using ho) (by simpa using hb)
  have hl':GQ.length=l.length:=by simpa using hl
  simp only[lC]at CY hfree;have hlt:base+i<m.next:=by omega
  have hni:ρ (base+i)=none:=hfree i (lR _) (by omega)
  unfold wpList;rcases vn h with⟨hw,h'⟩|⟨hw,h'⟩
  ·rw[LB ht e3 hw,iN (by simp)]
   rw[← e1];exact Sm W base n0 ops Q Dh CQ hb l GQ (i+1) _ m Φ ρ _ w hl' hg' h' hr (ht.put b.dst (GM Φ ρ)) (by rw[D9]; exact hd) he hk (fun j h1 h2=>hfree j (by omega) (by omega)) (by omega) hn
  ·rw[LB ht e3 hw,iP rfl];refine .inl ?_;rcases h' with⟨f,xs,g,args,hop,BD,hA⟩|⟨n,k,x,lo,hi,v,c,hop,hs,h'⟩|⟨v,m',hs,h'⟩
   ·refine VO ht hr hni hlt o (by rw[← e2]; exact hop) BD hA fun Ar ρ' x m' u w' hE hfr hr' hx hnx' hW=>?_
    rw[← e1];exact Sm W base n0 ops Q Dh CQ hb l GQ (i+1) _ m' Ar ρ' _ w' hl' hg' hW hr' ((ht.ext hE).put b.dst hx) (by rw[D9]; exact hd) (he.trans hE) (fun c hc h0=>hfr c (by omega) (by omega) (hk c hc h0))
     (fun j h1 h2=>hfr _ (by omega) (by omega) (hfree j (by omega) (by omega))) (by omega) (by omega)
   ·refine vp ht hr o (by rw[← e2]; exact hop) hs fun Ar u hE hr' hx=>?_
    rw[← e1];exact Sm W base n0 ops Q Dh CQ hb l GQ (i+1) _ _ Ar ρ _ w hl' hg' h' hr' ((ht.ext hE).put b.dst hx) (by rw[D9]; exact hd) (he.trans hE) hk
     (fun j h1 h2=>hfree j (by omega) (by omega)) (by rw[Mem.FA]; omega) (by rw[Mem.FA]; exact hn)
   ·have hnx':=bG hs;rw[e2]at hs;refine Vp ht hr hni hlt o hs fun Ar ρ' u w' hE hfr hr' hx=>?_
    rw[← e1];exact Sm W base n0 ops Q Dh CQ hb l GQ (i+1) _ m' Ar ρ' _ w' hl' hg' h' hr' ((ht.ext hE).put b.dst hx) (by rw[D9]; exact hd) (he.trans hE) (fun c hc h0=>hfr c (by omega) (hk c hc h0))
     (fun j h1 h2=>hfr _ (by omega) (hfree j (by omega) (by omega))) (by rw[hnx']; omega) (by rw[hnx']; exact hn)
theorem Z3c{id:Nat}{ops:Array Oper}{os:List Af}{Q:Exit→AY→Prop}{σ:AY}(hc:F2 P ops ops.toList=some os)(h:H6 P σ.m.next os 0 (Q .normal) σ.t (σ.m.at (σ.m.next+os.length))):DI P (.region id ops false) Q σ:=by
 intro W Φ ρ a w hr ht hd;obtain⟨h1,h2⟩:=Tl P ops _ _ hc;refine wp_region_list (Sm W σ.m.next σ.m.next ops Q Φ ρ (lR _) ops.toList os 0 σ.t _ Φ ρ a w h1 h2 h (hr.at_ (by omega)) ht hd (.refl _ _) (.refl _ _) ?_ (by simp) (by simp))
 intro j _ _;cases hq:ρ (σ.m.next+j)with
 | none=>rfl
 | some l=>have:=hr.fresh _ _ hq; omega
def nX(n k:Nat)(get:Nat→Option Ai)(v:Aa)(lh:Option (Nat×Nat)):Option (Aa×List (Nat×Option Ai)):=
 match OH n k get v lh with
 | some (v,b)=>some (v,[(b,none)])
 | none=>none
def Eu(P:Program)(n base:Nat):List Af→Nat→(Env→Ad→Prop)→Env→Ad→Prop
 | [],_,K,e,m=>K e m
 | o :: r,i,K,e,m=>GS (Q7 n e o.guard)
  (match o.op with
  | .call f xs=>Pa (T4 n e f xs) fun g args=>SC P g args m (base+i) fun v m'=>Eu P n base r (i+1) K (W3 e o.dst v) m'
  | .Cl nn k x lo hi=>GC (nX nn k m.get (AG n e x) (E2 (AG n e) nn nn lo hi)) fun v d=>Eu P n base r (i+1) K (W3 e o.dst v) (m.app d)
  | op=>GC (Y6 (base+i) (AG n e) m.get op) fun v d=>Eu P n base r (i+1) K (W3 e o.dst v) (m.app d))
  (Eu P n base r (i+1) K (W3 e o.dst Ag) m)
theorem Tm{n base:Nat}{K:Env→Ad→Prop}{K':AY→Prop}(hk:∀ e m,K e m→K' ⟨Be n e,m.mem⟩):∀ (ops:List Af) (i:Nat) (e:Env) (m:Ad),Eu P n base ops i K e m→H6 P base ops i K' (Be n e) m.mem
 | [],_,_,_,h=>hk _ _ h
 | o :: r,i,e,m,h=>by
  simp only[Eu]at h;simp only[H6,Rj];cases hw:Q7 n e o.guard with
  | none=>rw[hw]at h; exact h
  | some q=>
   rw[hw]at h;cases q with
   | false=>
    simp only[J4];exact Tm hk r _ _ _ h
   | true=>
    simp only[GS]at h;simp only;have other:∀ op,GC (Y6 (base+i) (AG n e) m.get op) (fun v d=>Eu P n base r (i+1) K (W3 e o.dst v) (m.app d)) →
     (match Z5 (base+i) (Be n e) m.mem op with|some (v,m')=>H6 P base r (i+1) K' (put (Be n e) o.dst v) m'|none=>False):=by
     intro op hh;cases hs:Y6 (base+i) (AG n e) m.get op with
     | none=>rw[hs]at hh; exact hh.elim
     | some vd=>
      obtain⟨v,d⟩:=vd;rw[hs]at hh;have:=OF (m:=m.mem) (t:=Be n e) (id:=base+i) (op:=op) (v:=v) (d:=d) (by rw[G5]; exact hs)
      rw[this];simp only[J4];rw[← Ad.Bz];exact Tm hk r _ _ _ hh
    cases hop:o.op with
    | call f xs=>
     simp only[hop]at h;simp only[Ts];cases hc:T4 n e f xs with
     | none=>rw[hc]at h; exact h
     | some ga=>
      obtain⟨g,args⟩:=ga;rw[hc]at h;simp only[Pa]at h;simp only[J4];refine Au.mono h fun v m'' hh=>?_
      obtain⟨sm,rfl,hh⟩:=hh;exact Tm hk r _ _ _ hh
    | Cl nn k x lo hi=>
     simp only[hop]at h;simp only[G5,J4];have e1:E2 (AG n e) nn nn lo hi=L9 (Be n e) nn nn lo hi:=by rw[xN,G5]
     rw[e1]at h;unfold nX at h;have e2:m.mem.get=m.get:=rfl;rw[e2];cases hs:OH nn k m.get (AG n e x) (L9 (Be n e) nn nn lo hi)with
     | none=>rw[hs]at h; exact h.elim
     | some vd=>
      obtain⟨v,b⟩:=vd;rw[hs]at h;have h':=Tm hk r _ _ _ h;rw[Ad.Bz]at h';exact h'
    | _=>rw[hop]at h; exact other _ h
def Pp:AU→Bool
 | .Cl ..=>true
 | _=>false
def XC:Af→Bool
 | ⟨_,op,_,_⟩=>Pp op
variable {n n0:Nat}
theorem Z4o{id:Nat}{ops:Array Oper}{os:List Af}{Q:Exit→Env→Ad→Prop}{e:Env}{m:Ad}(hc:F2 P ops ops.toList=some os)
 (h0:Eu P n m.next os 0 (Q .normal) e (m.at (m.next+os.length))):Gn P n n0 (.region id ops false) Q e m:=by
 have h1:H6 P m.next os 0 (F8 n Q .normal) (Be n e) (m.at (m.next+os.length)).mem:=Tm (fun e m hk=>⟨e,m,rfl,hk⟩) os 0 e _ h0
 intro W Φ ρ a w hn hr ht hd;have h2:DI P (.region id ops false) (F8 n Q) ⟨Be n e,m.mem⟩:=Z3c hc h1;refine wp_mono (h2 W Φ ρ a w hr ht hd) fun x a' w' hl=>?_
 obtain⟨σ,Ar,ρ',g1,g2,g3,g4,g5,g6,g7⟩:=hl;have hfix:∀ b,b<n0→ρ' b=ρ b:=fun b hb=>by
  cases hq:ρ b with
  | none=>exact g2 b (Nat.lt_of_lt_of_le hb hn) hq
  | some l=>exact g1.Gl b l hq
 have CY:m.next≤σ.m.next:=g3;cases x<;>simp only[F8]at g7<;>first
  | exact g7.elim
  | (obtain ⟨e',m',rfl,hq⟩:=g7
     exact⟨e',m',Ar,ρ',g1.Bn,hfix,Nat.le_trans hn CY,g4,g5,g6,fun l hl=>(by cases hl),hq⟩)
variable {e:Env} {m:Ad} {base:Nat} {K:Env→Ad→Prop}
theorem vV{i:Nat}:Eu P n base [] i K e m=K e m:=propext Iff.rfl
end
end Go.AE
end
