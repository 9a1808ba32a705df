/- Part 50 of the proof: Ex, Ey, Gh, Gi. -/
import Derived.Test.YtilmpmlkndfbjaaGreatDoorK23
import Derived.Test.YtilmpmlkndfbjaaGreatDoorK26
import Derived.Test.YtilmpmlkndfbjaaGreatDoorK30
import Derived.Test.YtilmpmlkndfbjaaGreatDoorK32
import Derived.Test.YtilmpmlkndfbjaaGreatDoorK45
import Derived.Test.YtilmpmlkndfbjaaGreatDoorK49
set_option linter.all false
section
namespace Go.Ab
open Go Go.AE Go.Proofs
open Go.Plain
theorem eA(F:Int)(G:List Int)(A B:List Ro):AS Tryz.prog 7 [.agg [.int .i64 F,.An (Z1 G),.An (A.map BN),.An (B.map BN)]] (.bool (decide (G.length≤60)&&decide (A.length≤60)&&decide (B.length≤60))):=by
 refine Lx hm Tryz.func7 Z4p rfl rfl (by simp[W9,Aa.closed,N9,MH]) trivial fun K hK=>?_
 have hGl:=A8 G;have Ee:(A.map BN).length=A.length:=lM ..;have Dh:(B.map BN).length=B.length:=lM ..;have e:∀ n:Nat,((n:Int)≤60)=(n≤60):=fun n=>propext (by omega)
 generalize Z1 G=GR at *;generalize A.map BN=AR at *;generalize B.map BN=BR at *;by_cases h1:G.length≤60
 ·by_cases h2:A.length≤60
  ·by_cases h3:B.length≤60
   ·simp[h1,h2,h3]at hK;simp[V9,hGl,Ee,Dh,e,h1,h2,h3];exact Z6 hK [] (by simp)
   ·simp[h1,h2,h3]at hK;simp[V9,hGl,Ee,Dh,e,h1,h2,h3];exact Z6 hK [] (by simp)
  ·simp[h1,h2]at hK;simp[V9,hGl,Ee,Dh,e,h1,h2];exact Z6 hK [] (by simp)
 ·simp[h1]at hK;simp[V9,hGl,Ee,Dh,e,h1];exact Z6 hK [] (by simp)
end Go.Ab
end
section
namespace Go.Ab
open Go Go.AE Go.Proofs
open Go.Plain
open Go.ChangeShapes Go.WideShapes Go.RowKit Go.Deep
variable {H:Type} {enc:TypeId×Value→H} {w:World} {base:Nat} {spare:Nat→Bool} {held:Bool}
def ZU(x:Ro):List Value:=[.int .i64 x.1,.int .i64 x.2.1,.int .i64 x.2.2.1,.bool x.2.2.2]
set_option maxRecDepth 100000 in
theorem z6{n:Nat}{cs:List Value}{x:DataW H×List MemPlace}(h:DataW.trod enc Tryz.prog w base spare held n 58 cs=some x) :
 ∃ l:Ro,cs=ZU l:=by
 obtain⟨xs,m,_,_,hl,hlen,hf⟩:=DataW.trod_struct Tryz.underlying58 h;have hc:Tryz.prog.cellsOf 58=4:=by kernel_rfl
 have h3:Tryz.prog.cellsOf 3=1:=by kernel_rfl
 have h4:Tryz.prog.cellsOf 4=1:=by kernel_rfl
 have hk:Tryz.prog.cellsOf 56=1:=by kernel_rfl
 rw[hc]at hl
 match cs,hl with
 | [a0,a1,a2,a3],_=>
  match xs,hlen with
  | [x0,x1,x2,x3],_=>
   have e0:DataW.trod enc Tryz.prog w base spare held m 56 (([a0,a1,a2,a3].drop 0).take (Tryz.prog.cellsOf 56))=some x0:=hf 0 _ rfl;rw[hk]at e0;have e1:DataW.trod enc Tryz.prog w base spare held m 3 (([a0,a1,a2,a3].drop 1).take (Tryz.prog.cellsOf 3))=some x1:=hf 1 _ rfl;rw[h3]at e1;have e2:DataW.trod enc Tryz.prog w base spare held m 3 (([a0,a1,a2,a3].drop 2).take (Tryz.prog.cellsOf 3))=some x2:=hf 2 _ rfl;rw[h3]at e2
   have e3:DataW.trod enc Tryz.prog w base spare held m 4 (([a0,a1,a2,a3].drop 3).take (Tryz.prog.cellsOf 4))=some x3:=hf 3 _ rfl;rw[h4]at e3;obtain⟨n0,q0,_,_⟩:=DataW.trod_int (t:=56) (k:=.i64) Tryz.underlying56 e0;obtain⟨n1,q1,_,_⟩:=DataW.trod_int (t:=3) (k:=.i64) Tryz.underlying3 e1;obtain⟨n2,q2,_,_⟩:=DataW.trod_int (t:=3) (k:=.i64) Tryz.underlying3 e2;obtain⟨b3,q3,_⟩:=DataW.trod_bool (t:=4) Tryz.underlying4 e3;have r0:a0=.int .i64 n0:=by simpa using q0
   have r1:a1=.int .i64 n1:=by simpa using q1
   have r2:a2=.int .i64 n2:=by simpa using q2
   have r3:a3=.bool b3:=by simpa using q3
   subst r0 r1 r2 r3;exact⟨(n0,n1,n2,b3),rfl⟩
theorem Z39(Φ:Ao)(ρ:AD)(l:Ro)(j:Nat)(x:Aa)(h:(BN l)[j]? = some x):∃ v,(ZU l)[j]? = some v∧v.oneCell'=true∧R Φ ρ x v:=by
 match j,h with
 | 0,h=>cases h; exact⟨_,rfl,rfl,.int _ _⟩
 | 1,h=>cases h; exact⟨_,rfl,rfl,.int _ _⟩
 | 2,h=>cases h; exact⟨_,rfl,rfl,.int _ _⟩
 | 3,h=>cases h; exact⟨_,rfl,rfl,.bool _⟩
 | j+4,h=>cases h
theorem tP{n:Nat}{v:Value}{x:DataW H×List MemPlace}(h:DataW.trod enc Tryz.prog w 0 (fun _=>true) held n 23 [v]=some x):∃ ls:List Ro,∀ ρ,R (Ei w) ρ (.An (ls.map BN)) v:=
 rM BN ZU (k:=4) Tryz.underlying23 (by kernel_rfl) (by decide) (fun _=>rfl) (fun _=>rfl) Z39 (fun _ _ _ h=>z6 h) h
theorem zK{n:Nat}{v:Value}{x:DataW H×List MemPlace}(h:DataW.trod enc Tryz.prog w 0 (fun _=>true) held n 22 [v]=some x):∃ ls:List Int,∀ ρ,R (Ei w) ρ (.An (Z1 ls)) v:=
 rM (fun i:Int=>[Aa.int .i64 i]) (fun i:Int=>[Value.int .i64 i]) (k:=1) Tryz.underlying22 (by kernel_rfl) (by decide) (fun _=>rfl) (fun _=>rfl)
  (fun Φ ρ l j x h=>by
    match j,h with
    | 0,h=>cases h; exact⟨_,rfl,rfl,.int _ _⟩
    | j+1,h=>simp at h)
  (fun m cs x h=>by
    obtain⟨n0,q0,_,_⟩:=DataW.trod_int (t:=3) (k:=.i64) Tryz.underlying3 h;exact⟨n0,q0⟩) h
set_option maxRecDepth 100000 in
theorem Z7p{v:Value}{d:DataW H}{p:List MemPlace}{b:Nat}(hok:Value.okWide Tryz.prog w .any b 25 v)(h:DataW.Trod enc Tryz.prog w 0 (fun _=>true) held 25 v d p):∃ (F:Int) (G:List Int) (A B:List Ro),∀ ρ,R (Ei w) ρ (.agg [.int .i64 F,.An (Z1 G),.An (A.map BN),.An (B.map BN)]) v:=by
 unfold Value.okWide at hok;rw[Tryz.underlying25]at hok;obtain⟨cs,rfl,hsz,_⟩:=hok;obtain⟨fuel,h⟩:=h;have hc:Tryz.prog.cellsOf 25=4:=by kernel_rfl
 have h3:Tryz.prog.cellsOf 3=1:=by kernel_rfl
 have h22:Tryz.prog.cellsOf 22=1:=by kernel_rfl
 have h23:Tryz.prog.cellsOf 23=1:=by kernel_rfl
 rw[hc]at hsz;obtain⟨xs,n,_,_,hl,hlen,hf⟩:=DataW.trod_struct Tryz.underlying25 h;obtain⟨cl⟩:=cs
 match cl,hsz with
 | [a0,a1,a2,a3],_=>
  match xs,hlen with
  | [y0,y1,y2,y3],_=>
   have e0:DataW.trod enc Tryz.prog w 0 (fun _=>true) held n 3 (([a0,a1,a2,a3].drop 0).take (Tryz.prog.cellsOf 3))=some y0:=hf 0 _ rfl
   rw[h3]at e0;have e1:DataW.trod enc Tryz.prog w 0 (fun _=>true) held n 22 (([a0,a1,a2,a3].drop 1).take (Tryz.prog.cellsOf 22))=some y1:=hf 1 _ rfl
   rw[h22]at e1;have e2:DataW.trod enc Tryz.prog w 0 (fun _=>true) held n 23 (([a0,a1,a2,a3].drop 2).take (Tryz.prog.cellsOf 23))=some y2:=hf 2 _ rfl
   rw[h23]at e2;have e3:DataW.trod enc Tryz.prog w 0 (fun _=>true) held n 23 (([a0,a1,a2,a3].drop 3).take (Tryz.prog.cellsOf 23))=some y3:=hf 3 _ rfl
   rw[h23]at e3;obtain⟨k0,q0,_,_⟩:=DataW.trod_int (t:=3) (k:=.i64) Tryz.underlying3 e0;have r0:a0=.int .i64 k0:=by simpa using q0
   subst r0;obtain⟨G,hG⟩:=zK (v:=a1) e1;obtain⟨A,hA⟩:=tP (v:=a2) e2;obtain⟨B,hB⟩:=tP (v:=a3) e3;refine⟨k0,G,A,B,fun ρ=>.agg _ _ rfl fun i x v hx hv=>?_⟩
   match i,hx,hv with
   | 0,hx,hv=>cases hx; cases hv; exact .int _ _
   | 1,hx,hv=>cases hx; cases hv; exact hG ρ
   | 2,hx,hv=>cases hx; cases hv; exact hA ρ
   | 3,hx,hv=>cases hx; cases hv; exact hB ρ
   | i+4,hx,hv=>simp at hx
end Go.Ab
end
section
namespace Go.Ab
open Go Go.AE Go.Proofs
open Go.Plain
attribute [local simp] C8 D6 D3 B4 B0 C6 D7 C7 D9 B7 C3 Gk E5 B6 D8 C2 C1
theorem qb(x sep:List UInt8):∀ l:List (List UInt8),Lib.join (l++[x]) sep=if l=[]then x else Lib.join l sep++sep++x
 | []=>by rw[List.nil_append,iP rfl,Lib.join_one]
 | y :: r=>by
  rw[iN (by simp),List.cons_append,Lib.join_cons,Lib.join_cons]
  unfold Lib.joinTail;simp
def FU(m a j:Nat)(mk:List UInt8)(k:Nat):List UInt8:=Lib.join ((W1 m a j mk).take k) [32]
theorem Zv(m a j:Nat)(mk:List UInt8):FU m a j mk 0=[]:=rfl
theorem aX(m a j:Nat)(mk:List UInt8):FU m a j mk m=Lib.join (W1 m a j mk) [32]:=by unfold FU; rw[tL (by rw[HD]; exact lR _)]
theorem YY{m a j k:Nat}{mk:List UInt8}(h:mk.length≤1)(hk:k≤m:=by omega):(FU m a j mk k).length≤k*2:=by
 have:=Zt ((W1 m a j mk).take k) 1 fun s hs=>by
  have hs:=List.mem_of_mem_take hs;unfold W1 at hs;obtain⟨k,_,rfl⟩:=mM.1 hs;split
  ·exact h
  ·exact lR _
 rw[lK,HD,Nat.min_eq_left hk]at this;exact this
theorem G6{x y:List UInt8}(h:x.length+y.length≤1099511627776):X4 .add .num (.str x) (.str y)=some (.str (x++y)):=by
 show(if x.length+y.length≤1099511627776 then some (Aa.str (x++y))else none)=_
 rw[iP h]
theorem aH{m a j k:Nat}{mk:List UInt8}(h:k<m):FU m a j mk (k+1)=(if k=0 then []else FU m a j mk k++[32])++(if a≤k∧k<a+j then mk else [124]):=by
 unfold FU;have hg:(W1 m a j mk)[k]? = some (if a≤k∧k<a+j then mk else [124]):=by
  unfold W1;rw[gM,List.getElem?_range h];rfl
 rw[List.take_add_one,hg,Option.toList_some,qb];by_cases hk:k=0
 ·subst hk;rw[iP rfl,List.take_zero,iP rfl,List.nil_append]
 ·rw[iN hk,iN];intro e;have:=congrArg List.length e;rw[lK,HD]at this;simp at this;omega
set_option maxRecDepth 100000 in
set_option maxHeartbeats 16000000 in
theorem rI(cap:List UInt8)(hcap:cap.length≤1)(m0:Nat)(V:Aa)(rs:List Ro)(hV:AY V rs)(hok:FJ m0 rs)(hm0:m0≤400)(hrl:rs.length≤200) :
 Cc Tryz.prog 45 [V,.int .i64 m0,.str cap] ⟨[],1⟩ fun r mm=>r=AH 1 (Z2 (Ek cap m0 rs))∧mm=⟨AF 1 1 (Z2 (Ek cap m0 rs)) [],2⟩:=by
 refine GV hm [] Tryz.func45 Z6c rfl rfl fun K hK=>?_
 have hKb:=hK _ _ ⟨rfl,rfl⟩;clear hK;obtain⟨res,hres⟩:∃ res,res=Ek cap m0 rs:=⟨_,rfl⟩
 rw[← hres]at hKb;have hVlen:=hV.len;have hVrn:=hV.AA;obtain⟨hVc,hVo,hVcl⟩:=hV.cells;have hVi:=fun {get:Nat→Option Ag} {i:Nat} (hi:i<rs.length)=>hV.idx (get:=get) hi
 have hRg:∀ i (h:i<rs.length),(rs.map BN)[i]? = some (BN rs[i]):=fun i h=>by rw[gM,gE h]; rfl
 have hs1:∀ (c:Nat) (x:List Aa),AH c [x]=.sl c 0 1:=fun _ _=>rfl
 have Bg:∀ (c k:Nat) (x:List Aa) (r:List (Nat×Ag)),AF c k [x] r=(c,.cells k [x]) :: r:=fun _ _ _ _=>rfl
 have hSr:∀ q l,Z3 q (Z2 l)=Z2 l:=HH
 simp[hVlen];refine T6 (α:=Nat×Nat×List (List UInt8)) (fun a=>[(0,V),(1,.int .i64 a.2.1),(2,.str cap),(7,AH 4 (Z2 a.2.2)),(8,.int .i64 a.1)])
  (fun a=>⟨AF 4 1 (Z2 a.2.2) [],5⟩) (fun a=>rs.length - a.1) (fun a=>a.1≤rs.length∧a.2.2.length=a.1∧a.2.1≤m0+2*a.1∧FJ a.2.1 (rs.drop a.1)∧a.2.2++Ek cap a.2.1 (rs.drop a.1)=res) (0,m0,[]) []
  (by have e:Z2 []=[]:=rfl;simp[hVrn,e]) ⟨by simp,rfl,by simp,by simpa using hok,by simpa using hres.symm⟩ ?_
 rintro⟨i,m,D⟩ ⟨hi,hDl,hmb,hok,hs⟩ N hN;simp only at hi hDl hmb hok hs;have hD:=fun q=>hSr q D
 have hSl:=I9 D;by_cases hend:i=rs.length
 ·subst hend;rw[List.drop_length]at hs;have e:D=res:=by rw[← hs]; simp[Ek]
  subst e;simp[hVlen];exact Z6 hKb [(1,4)] (by simp +contextual [hD])
 have hil:i<rs.length:=by omega
 have hili:(i:Int)<rs.length:=by omega
 have hix:=fun (get:Nat→Option Ag)=>hVi (get:=get) hil
 have hg:=hRg i hil;obtain⟨_,hg2⟩:=Y6 hg;rw[List.drop_eq_getElem_cons hil]at hs hok;generalize rs.map BN=RR at *;obtain⟨⟨kd,at0,nn,ov⟩,hr⟩:∃ r,r=rs[i]:=⟨_,rfl⟩
 rw[← hr]at hs hg hg2 hok;simp only[FJ,Ek,BN]at hs hg hg2 hok;obtain⟨hcs,hok⟩:=hok;have hw1:=Y1 ((i:Int)+1) ((i+1:Nat):Int);rcases hcs with hc|hc
 ·obtain⟨k1,c2,c3,c4,c5⟩:=hc;simp only at k1 c2 c3 c4 c5;subst k1;subst c4;subst c5;obtain⟨a,rfl⟩:∃ a:Nat,at0=(a:Int):=⟨at0.toNat,by omega⟩
  have hNx:=hN (i+1,m - 2,D++[Lib.join (W1 m a 2 cap) [32]]);simp only[IC]at hNx;have hDlen:(Z2 D).length=i:=by rw[hSl,hDl]
  have hss:(D++[Lib.join (W1 m a 2 cap) [32]])++Ek cap (m - 2) (List.drop (i+1) rs)=res:=by simpa[List.append_assoc,Qt,PF,Gp]using hs
  have hokk:FJ (m - 2) (List.drop (i+1) rs):=by simpa[Gp]using hok
  have hja:=aX m a 2 cap;have hj0:=Zv m a 2 cap;rw[← hja]at hNx hss;clear hs hok;generalize hDD:Z2 D=DD at *;have hwm:=Y1 ((m:Int) - 2) ((m - 2:Nat):Int);have hwm2:=X5 ((m - 2:Nat):Int);simp[hil,hili,hVlen,hix,hg,hg2 ];refine T6 (α:=Nat) (fun k=>[(0,V),(1,.int .i64 m),(2,.str cap),(7,AH 4 DD),(8,.int .i64 i),(9,.ptr 5 0 0),(10,.int .i64 (2:Nat)),(11,.str cap),(12,.int .i64 (0)),(13,.str (FU m a 2 cap k)),(14,.int .i64 k)])
   (fun k=>⟨[(5,.cells 4 [[.int .i64 1,.int .i64 a,.int .i64 0,.bool false]])]++AF 4 1 DD [],6⟩) (fun k=>m - k) (fun k=>k≤m) 0 [(5,13)] (by rw[hj0]; simp +contextual [hVrn,hD]) (by omega) ?_
  intro k hk N2 hN2;by_cases he2:¬k=m
  ·have hkm:k<m:=by omega
   have hkmi:(k:Int)<m:=by omega
   have hN3:=hN2 (k+1);rw[aH hkm]at hN3;have hwk:=Y1 ((k:Int)+1) ((k+1:Nat):Int);have hwa:=Y1 ((a:Int)+2) ((a+2:Nat):Int);have e1:((a:Int)≤k)=(a≤k):=propext (by omega)
   have e2:((k:Int)<((a+2:Nat):Int))=(k<a+2):=propext (by omega)
   have e3:(0<(k:Int))=(0<k):=propext (by omega)
   have hJl:=YY (m:=m) (a:=a) (j:=2) (mk:=cap) (k:=k) hcap;have hJ0:k=0→FU m a 2 cap k=[]:=fun e=>by rw[e]; rfl
   generalize FU m a 2 cap k=JK at *;have bS1:X4 .add .num (.str JK) (.str [32])=some (.str (JK++[32])):=G6 (by simp; omega)
   have bS2:X4 .add .num (.str (JK++[32])) (.str cap)=some (.str (JK++[32]++cap)):=G6 (by have h1:cap.length≤1:=hcap; first|(simp; done)|(simp; omega)|(simp; simp at h1; omega))
   have bS3:X4 .add .num (.str (JK++[32])) (.str [124])=some (.str (JK++[32]++[124])):=G6 (by simp; omega)
   have bS4:X4 .add .num (.str []) (.str cap)=some (.str cap):=G6 (x:=[]) (by have h1:cap.length≤1:=hcap; first|(simp; done)|(simp; omega)|(simp; simp at h1; omega))
   have bS5:X4 .add .num (.str []) (.str [124])=some (.str [124]):=G6 (x:=[]) (by simp)
   simp only[List.append_assoc]at bS2 bS3;generalize hae:a+2=ae at *;by_cases g1:a≤k
   ·by_cases g2:k<ae
    ·rw[iP (show a≤k∧k<ae from⟨g1,g2⟩)]at hN3
     by_cases g3:k=0
     ·have hJe:=hJ0 g3;subst hJe;have g4:¬0<k:=by omega
      rw[iP g3,List.nil_append]at hN3;simp[hkm,hkmi,hwk,hwa,e1,e2,e3,bS1,bS2,bS3,bS4,bS5,g1,g2,g4];exact hN3 [] _ _ (by omega) (by omega) (by simp +contextual [hVrn,hD])
     ·rw[iN (show ¬k=0 from g3)]at hN3
      have g4:0<k:=by omega
      simp[hkm,hkmi,hwk,hwa,e1,e2,e3,bS1,bS2,bS3,bS4,bS5,g1,g2,g4];exact hN3 [] _ _ (by omega) (by omega) (by simp +contextual [hVrn,hD])
    ·rw[iN (show ¬(a≤k∧k<ae) from fun e=>g2 e.2)]at hN3
     by_cases g3:k=0
     ·have hJe:=hJ0 g3;subst hJe;have g4:¬0<k:=by omega
      rw[iP g3,List.nil_append]at hN3;simp[hkm,hkmi,hwk,hwa,e1,e2,e3,bS1,bS2,bS3,bS4,bS5,g1,g2,g4];exact hN3 [] _ _ (by omega) (by omega) (by simp +contextual [hVrn,hD])
     ·rw[iN (show ¬k=0 from g3)]at hN3
      have g4:0<k:=by omega
      simp[hkm,hkmi,hwk,hwa,e1,e2,e3,bS1,bS2,bS3,bS4,bS5,g1,g2,g4];exact hN3 [] _ _ (by omega) (by omega) (by simp +contextual [hVrn,hD])
   ·have g2:True:=trivial;rw[iN (show ¬(a≤k∧k<ae) from fun e=>g1 e.1)]at hN3
    by_cases g3:k=0
    ·have hJe:=hJ0 g3;subst hJe;have g4:¬0<k:=by omega
     rw[iP g3,List.nil_append]at hN3;simp[hkm,hkmi,hwk,hwa,e1,e2,e3,bS1,bS2,bS3,bS4,bS5,g1,g2,g4];exact hN3 [] _ _ (by omega) (by omega) (by simp +contextual [hVrn,hD])
    ·rw[iN (show ¬k=0 from g3)]at hN3
     have g4:0<k:=by omega
     simp[hkm,hkmi,hwk,hwa,e1,e2,e3,bS1,bS2,bS3,bS4,bS5,g1,g2,g4];exact hN3 [] _ _ (by omega) (by omega) (by simp +contextual [hVrn,hD])
  ·replace he2:m=k:=(Classical.not_not.1 he2).symm
   subst he2;have hne:¬i+1≤i:=by omega
   have hib:i≤1048575:=by omega
   generalize FU m a 2 cap m=JS at *;by_cases hi0:i=0
   ·have hDn:DD=[]:=List.length_eq_zero_iff.1 (by rw[hDlen,hi0])
    subst hDn;simp[Z8,T3,T0,hw1,hwm,hwm2 ];exact hNx [(4,12)] _ _ (by omega) ⟨by omega,by simp[hDl],by omega,hokk,hss⟩ (by simp +contextual [hVrn,hs1,Bg])
   ·have hDn:¬DD=[]:=fun e=>hi0 (by rw[← hDlen,e]; rfl)
    have hDt:List.take i DD=DD:=tL (by omega)
    simp[Z8,Y4 hDn,Z9 hDn,hDn,hDlen,hne,hib,hDt,hw1,hwm,hwm2 ];exact hNx [(4,12)] _ _ (by omega) ⟨by omega,by simp[hDl],by omega,hokk,hss⟩ (by simp +contextual [hVrn,hD,hDlen])
 ·obtain⟨k1,c1,c2,c3,c4⟩:=hc;simp only at k1 c1 c2 c3 c4;subst k1;obtain⟨a,rfl⟩:∃ a:Nat,at0=(a:Int):=⟨at0.toNat,by omega⟩
  obtain⟨kk,rfl⟩:∃ kk:Nat,nn=(kk:Int):=⟨nn.toNat,by omega⟩
  have hw4k:IntKind.i64.wrap (4 - (kk:Int))=4 - kk:=S8 (by omega) (by omega)
  have hwm1:=X5 ((m:Int) - kk);cases ov with
  | false=>
   have hNx:=hN (i+1,m - kk+(4 - kk),D++[Lib.join (W1 m a kk [45]) [32]]);simp only[IC]at hNx;have hDlen:(Z2 D).length=i:=by rw[hSl,hDl]
   have hss:(D++[Lib.join (W1 m a kk [45]) [32]])++Ek cap (m - kk+(4 - kk)) (List.drop (i+1) rs)=res:=by simpa[List.append_assoc,Qt,PF,Gp]using hs
   have hokk:FJ (m - kk+(4 - kk)) (List.drop (i+1) rs):=by simpa[Gp]using hok
   have hja:=aX m a kk [45];have hj0:=Zv m a kk [45];rw[← hja]at hNx hss;clear hs hok;generalize hDD:Z2 D=DD at *;have hwm2:=Y1 ((m:Int) - kk+(4 - kk)) ((m - kk+(4 - kk):Nat):Int);have hmnb:m - kk+(4 - kk)≤m+2:=by omega
   generalize m - kk+(4 - kk)=mn at *;simp[hil,hili,hVlen,hix,hg,hg2 ,hw4k,hwm1];refine T6 (α:=Nat) (fun k=>[(0,V),(1,.int .i64 m),(2,.str cap),(7,AH 4 DD),(8,.int .i64 i),(9,.ptr 5 0 0),(10,.int .i64 (kk:Nat)),(11,.str [45]),(12,.int .i64 (4 - (kk:Int))),(13,.str (FU m a kk [45] k)),(14,.int .i64 k)])
    (fun k=>⟨[(5,.cells 4 [[.int .i64 2,.int .i64 a,.int .i64 kk,.bool false]])]++AF 4 1 DD [],6⟩) (fun k=>m - k) (fun k=>k≤m) 0 [(5,13)] (by rw[hj0]; simp +contextual [hVrn,hD]) (by omega) ?_
   intro k hk N2 hN2;by_cases he2:¬k=m
   ·have hkm:k<m:=by omega
    have hkmi:(k:Int)<m:=by omega
    have hN3:=hN2 (k+1);rw[aH hkm]at hN3;have hwk:=Y1 ((k:Int)+1) ((k+1:Nat):Int);have hwa:=Y1 ((a:Int)+kk) ((a+kk:Nat):Int);have e1:((a:Int)≤k)=(a≤k):=propext (by omega)
    have e2:((k:Int)<((a+kk:Nat):Int))=(k<a+kk):=propext (by omega)
    have e3:(0<(k:Int))=(0<k):=propext (by omega)
    have hJl:=YY (m:=m) (a:=a) (j:=kk) (mk:=[45]) (k:=k) (by simp)
    have hJ0:k=0→FU m a kk [45] k=[]:=fun e=>by rw[e]; rfl
    generalize FU m a kk [45] k=JK at *;have bS1:X4 .add .num (.str JK) (.str [32])=some (.str (JK++[32])):=G6 (by simp; omega)
    have bS2:X4 .add .num (.str (JK++[32])) (.str [45])=some (.str (JK++[32]++[45])):=G6 (by have h1:[45].length≤1:=(by simp); first|(simp; done)|(simp; omega)|(simp; simp at h1; omega))
    have bS3:X4 .add .num (.str (JK++[32])) (.str [124])=some (.str (JK++[32]++[124])):=G6 (by simp; omega)
    have bS4:X4 .add .num (.str []) (.str [45])=some (.str [45]):=G6 (x:=[]) (by have h1:[45].length≤1:=(by simp); first|(simp; done)|(simp; omega)|(simp; simp at h1; omega))
    have bS5:X4 .add .num (.str []) (.str [124])=some (.str [124]):=G6 (x:=[]) (by simp)
    simp only[List.append_assoc]at bS2 bS3;generalize hae:a+kk=ae at *;by_cases g1:a≤k
    ·by_cases g2:k<ae
     ·rw[iP (show a≤k∧k<ae from⟨g1,g2⟩)]at hN3
      by_cases g3:k=0
      ·have hJe:=hJ0 g3;subst hJe;have g4:¬0<k:=by omega
       rw[iP g3,List.nil_append]at hN3;simp[hkm,hkmi,hwk,hwa,e1,e2,e3,bS1,bS2,bS3,bS4,bS5,g1,g2,g4];exact hN3 [] _ _ (by omega) (by omega) (by simp +contextual [hVrn,hD])
      ·rw[iN (show ¬k=0 from g3)]at hN3
       have g4:0<k:=by omega
       simp[hkm,hkmi,hwk,hwa,e1,e2,e3,bS1,bS2,bS3,bS4,bS5,g1,g2,g4];exact hN3 [] _ _ (by omega) (by omega) (by simp +contextual [hVrn,hD])
     ·rw[iN (show ¬(a≤k∧k<ae) from fun e=>g2 e.2)]at hN3
      by_cases g3:k=0
      ·have hJe:=hJ0 g3;subst hJe;have g4:¬0<k:=by omega
       rw[iP g3,List.nil_append]at hN3;simp[hkm,hkmi,hwk,hwa,e1,e2,e3,bS1,bS2,bS3,bS4,bS5,g1,g2,g4];exact hN3 [] _ _ (by omega) (by omega) (by simp +contextual [hVrn,hD])
      ·rw[iN (show ¬k=0 from g3)]at hN3
       have g4:0<k:=by omega
       simp[hkm,hkmi,hwk,hwa,e1,e2,e3,bS1,bS2,bS3,bS4,bS5,g1,g2,g4];exact hN3 [] _ _ (by omega) (by omega) (by simp +contextual [hVrn,hD])
    ·have g2:True:=trivial;rw[iN (show ¬(a≤k∧k<ae) from fun e=>g1 e.1)]at hN3
     by_cases g3:k=0
     ·have hJe:=hJ0 g3;subst hJe;have g4:¬0<k:=by omega
      rw[iP g3,List.nil_append]at hN3;simp[hkm,hkmi,hwk,hwa,e1,e2,e3,bS1,bS2,bS3,bS4,bS5,g1,g2,g4];exact hN3 [] _ _ (by omega) (by omega) (by simp +contextual [hVrn,hD])
     ·rw[iN (show ¬k=0 from g3)]at hN3
      have g4:0<k:=by omega
      simp[hkm,hkmi,hwk,hwa,e1,e2,e3,bS1,bS2,bS3,bS4,bS5,g1,g2,g4];exact hN3 [] _ _ (by omega) (by omega) (by simp +contextual [hVrn,hD])
   ·replace he2:m=k:=(Classical.not_not.1 he2).symm
    subst he2;have hne:¬i+1≤i:=by omega
    have hib:i≤1048575:=by omega
    generalize FU m a kk [45] m=JS at *;by_cases hi0:i=0
    ·have hDn:DD=[]:=List.length_eq_zero_iff.1 (by rw[hDlen,hi0])
     subst hDn;simp[Z8,T3,T0,hw1,hwm2 ,hw4k,hwm1];exact hNx [(4,12)] _ _ (by omega) ⟨by omega,by simp[hDl],by omega,hokk,hss⟩ (by simp +contextual [hVrn,hs1,Bg])
    ·have hDn:¬DD=[]:=fun e=>hi0 (by rw[← hDlen,e]; rfl)
     have hDt:List.take i DD=DD:=tL (by omega)
     simp[Z8,Y4 hDn,Z9 hDn,hDn,hDlen,hne,hib,hDt,hw1,hwm2 ,hw4k,hwm1];exact hNx [(4,12)] _ _ (by omega) ⟨by omega,by simp[hDl],by omega,hokk,hss⟩ (by simp +contextual [hVrn,hD,hDlen])
  | true=>
   have hNx:=hN (i+1,m - kk+(4 - kk),D++[Lib.join (W1 m a kk [43]) [32]]);simp only[IC]at hNx;have hDlen:(Z2 D).length=i:=by rw[hSl,hDl]
   have hss:(D++[Lib.join (W1 m a kk [43]) [32]])++Ek cap (m - kk+(4 - kk)) (List.drop (i+1) rs)=res:=by simpa[List.append_assoc,Qt,PF,Gp]using hs
   have hokk:FJ (m - kk+(4 - kk)) (List.drop (i+1) rs):=by simpa[Gp]using hok
   have hja:=aX m a kk [43];have hj0:=Zv m a kk [43];rw[← hja]at hNx hss;clear hs hok;generalize hDD:Z2 D=DD at *;have hwm2:=Y1 ((m:Int) - kk+(4 - kk)) ((m - kk+(4 - kk):Nat):Int);have hmnb:m - kk+(4 - kk)≤m+2:=by omega
   generalize m - kk+(4 - kk)=mn at *;simp[hil,hili,hVlen,hix,hg,hg2 ,hw4k,hwm1];refine T6 (α:=Nat) (fun k=>[(0,V),(1,.int .i64 m),(2,.str cap),(7,AH 4 DD),(8,.int .i64 i),(9,.ptr 5 0 0),(10,.int .i64 (kk:Nat)),(11,.str [43]),(12,.int .i64 (4 - (kk:Int))),(13,.str (FU m a kk [43] k)),(14,.int .i64 k)])
    (fun k=>⟨[(5,.cells 4 [[.int .i64 2,.int .i64 a,.int .i64 kk,.bool true]])]++AF 4 1 DD [],6⟩) (fun k=>m - k) (fun k=>k≤m) 0 [(5,13)] (by rw[hj0]; simp +contextual [hVrn,hD]) (by omega) ?_
   intro k hk N2 hN2;by_cases he2:¬k=m
   ·have hkm:k<m:=by omega
    have hkmi:(k:Int)<m:=by omega
    have hN3:=hN2 (k+1);rw[aH hkm]at hN3;have hwk:=Y1 ((k:Int)+1) ((k+1:Nat):Int);have hwa:=Y1 ((a:Int)+kk) ((a+kk:Nat):Int);have e1:((a:Int)≤k)=(a≤k):=propext (by omega)
    have e2:((k:Int)<((a+kk:Nat):Int))=(k<a+kk):=propext (by omega)
    have e3:(0<(k:Int))=(0<k):=propext (by omega)
    have hJl:=YY (m:=m) (a:=a) (j:=kk) (mk:=[43]) (k:=k) (by simp)
    have hJ0:k=0→FU m a kk [43] k=[]:=fun e=>by rw[e]; rfl
    generalize FU m a kk [43] k=JK at *;have bS1:X4 .add .num (.str JK) (.str [32])=some (.str (JK++[32])):=G6 (by simp; omega)
    have bS2:X4 .add .num (.str (JK++[32])) (.str [43])=some (.str (JK++[32]++[43])):=G6 (by have h1:[43].length≤1:=(by simp); first|(simp; done)|(simp; omega)|(simp; simp at h1; omega))
    have bS3:X4 .add .num (.str (JK++[32])) (.str [124])=some (.str (JK++[32]++[124])):=G6 (by simp; omega)
    have bS4:X4 .add .num (.str []) (.str [43])=some (.str [43]):=G6 (x:=[]) (by have h1:[43].length≤1:=(by simp); first|(simp; done)|(simp; omega)|(simp; simp at h1; omega))
    have bS5:X4 .add .num (.str []) (.str [124])=some (.str [124]):=G6 (x:=[]) (by simp)
    simp only[List.append_assoc]at bS2 bS3;generalize hae:a+kk=ae at *;by_cases g1:a≤k
    ·by_cases g2:k<ae
     ·rw[iP (show a≤k∧k<ae from⟨g1,g2⟩)]at hN3
      by_cases g3:k=0
      ·have hJe:=hJ0 g3;subst hJe;have g4:¬0<k:=by omega
       rw[iP g3,List.nil_append]at hN3;simp[hkm,hkmi,hwk,hwa,e1,e2,e3,bS1,bS2,bS3,bS4,bS5,g1,g2,g4];exact hN3 [] _ _ (by omega) (by omega) (by simp +contextual [hVrn,hD])
      ·rw[iN (show ¬k=0 from g3)]at hN3
       have g4:0<k:=by omega
       simp[hkm,hkmi,hwk,hwa,e1,e2,e3,bS1,bS2,bS3,bS4,bS5,g1,g2,g4];exact hN3 [] _ _ (by omega) (by omega) (by simp +contextual [hVrn,hD])
     ·rw[iN (show ¬(a≤k∧k<ae) from fun e=>g2 e.2)]at hN3
      by_cases g3:k=0
      ·have hJe:=hJ0 g3;subst hJe;have g4:¬0<k:=by omega
       rw[iP g3,List.nil_append]at hN3;simp[hkm,hkmi,hwk,hwa,e1,e2,e3,bS1,bS2,bS3,bS4,bS5,g1,g2,g4];exact hN3 [] _ _ (by omega) (by omega) (by simp +contextual [hVrn,hD])
      ·rw[iN (show ¬k=0 from g3)]at hN3
       have g4:0<k:=by omega
       simp[hkm,hkmi,hwk,hwa,e1,e2,e3,bS1,bS2,bS3,bS4,bS5,g1,g2,g4];exact hN3 [] _ _ (by omega) (by omega) (by simp +contextual [hVrn,hD])
    ·have g2:True:=trivial;rw[iN (show ¬(a≤k∧k<ae) from fun e=>g1 e.1)]at hN3
     by_cases g3:k=0
     ·have hJe:=hJ0 g3;subst hJe;have g4:¬0<k:=by omega
      rw[iP g3,List.nil_append]at hN3;simp[hkm,hkmi,hwk,hwa,e1,e2,e3,bS1,bS2,bS3,bS4,bS5,g1,g2,g4];exact hN3 [] _ _ (by omega) (by omega) (by simp +contextual [hVrn,hD])
     ·rw[iN (show ¬k=0 from g3)]at hN3
      have g4:0<k:=by omega
      simp[hkm,hkmi,hwk,hwa,e1,e2,e3,bS1,bS2,bS3,bS4,bS5,g1,g2,g4];exact hN3 [] _ _ (by omega) (by omega) (by simp +contextual [hVrn,hD])
   ·replace he2:m=k:=(Classical.not_not.1 he2).symm
    subst he2;have hne:¬i+1≤i:=by omega
    have hib:i≤1048575:=by omega
    generalize FU m a kk [43] m=JS at *;by_cases hi0:i=0
    ·have hDn:DD=[]:=List.length_eq_zero_iff.1 (by rw[hDlen,hi0])
     subst hDn;simp[Z8,T3,T0,hw1,hwm2 ,hw4k,hwm1];exact hNx [(4,12)] _ _ (by omega) ⟨by omega,by simp[hDl],by omega,hokk,hss⟩ (by simp +contextual [hVrn,hs1,Bg])
    ·have hDn:¬DD=[]:=fun e=>hi0 (by rw[← hDlen,e]; rfl)
     have hDt:List.take i DD=DD:=tL (by omega)
     simp[Z8,Y4 hDn,Z9 hDn,hDn,hDlen,hne,hib,hDt,hw1,hwm2 ,hw4k,hwm1];exact hNx [(4,12)] _ _ (by omega) ⟨by omega,by simp[hDl],by omega,hokk,hss⟩ (by simp +contextual [hVrn,hD,hDlen])
end Go.Ab
end
section
namespace Go.Ab
open Go Go.AE Go.Proofs
open Go.Plain
def Fu(F:Int)(G:List Int)(A B:List Ro):List (List Aa):=if (Dm F G A B).2.2=0 then Z2 (A2 G A B)else []
def Mo(F:Int)(G:List Int)(A B:List Ro):Aa:=.tuple [Bx (Fu F G A B),.int .i64 (Dm F G A B).2.2]
theorem qV{get:Nat→Option Ag}{n:Nat}(l:List (List UInt8)):∀ row,row∈Z2 l → ∀ x,x∈row→W3 get (n+1) x=some x:=fun row hr x hx=>by
 obtain⟨s,_,rfl⟩:=mM.1 hr;rw[List.mem_singleton]at hx;subst hx;rfl
theorem Z4v{get:Nat→Option Ag}{n:Nat}(F:Int)(G:List Int)(A B:List Ro):∀ row,row∈Fu F G A B → ∀ x,x∈row→W3 get (n+1) x=some x:=by
 unfold Fu;split
 ·exact qV _
 ·intro row h; cases h
theorem Z3c(F:Int)(G:List Int)(A B:List Ro):V3 (Fu F G A B)=true:=by
 unfold Fu;split
 ·exact QE _
 ·rfl
theorem qc(F:Int)(G:List Int)(A B:List Ro)(AV BV:Aa)(hA:AY AV A)(hB:AY BV B)(hG:G.length≤200)(Ee:A.length≤200)(Dh:B.length≤200) :
 AS Tryz.prog 16 [.agg [.int .i64 F,.An (Z1 G),AV,BV]] (Mo F G A B):=by
 obtain⟨hAc,hAo,hAcl⟩:=hA.cells;obtain⟨hBc,hBo,hBcl⟩:=hB.cells;refine MJ (k:=6) (by simp[W9,Aa.closed,N9,hAcl,hBcl]) (by unfold Mo; simp[Aa.closed,W9,LO,Z3c]) ((uk F G A B AV BV hA hB hG Ee Dh).mono fun r m' h=>?_)
 obtain⟨rows,hr,rfl,rfl⟩:=h;have hr:rows=Fu F G A B:=hr;subst hr;have hs:W3 (Ac.get ⟨AF 1 1 (Fu F G A B) [],2⟩) 5 (AH 1 (Fu F G A B))=some (Bx (Fu F G A B)):=ZY (n:=3) (b:=1) (k:=1) (by simp) (Z4v F G A B)
 unfold Mo;rw[W3];simp only[T5,hs];rfl
end Go.Ab
end
