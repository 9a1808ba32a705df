/- Part 27 of the proof: Re, Rf, Rk. -/
import Derived.Test.YtipeejpafgnjdaaGreatDoorG22
import Derived.Test.YtipeejpafgnjdaaGreatDoorG23
import Derived.Test.YtipeejpafgnjdaaGreatDoorG24
import Derived.Test.YtipeejpafgnjdaaGreatDoorG26
set_option linter.all false
section
namespace Go.Known
open Go Go.AE Go.Proofs
open Go.Plain
attribute [local simp] Zgn Zdn Zcw Zj0 Ze2 Ze7 Zex Zgo Zj6 Zam Za2 Zat Zai Zau Zap Zdw Ze6 Zg8 Zgz Zgt Zkn Zeu Zqe Zgm Zg5 Ze3 Zg3 Zg7 Zki Zgq Zg0 Zew Zkj Zg9 Ze4 Ze1 Zgv Zgx Zgp Zgu Zev Zdp Zkc Zgw Zkd Zqh Zdo Ze8 Zdy Zko Zhc Zey Zkh Zjs Ze5 Ze0 Zg4 Zjr Zjv Zql Zj2 Zgl Zdk Zdx Zdr Zdq Zdm Zp2 Zjp Zj9 Env.get argE SMem.at SMem.app SMem.get Zar Zb8 AVal.cells AVal.one Zc2 Zce Zj4 Zkb Zjt Zkl Zka Zkm Zke Zkf Zkp Zj3 Zjz Zjw Zjy unA Zb7 Zbp Zhz Zfl Zaq aundef Zct Zdv Zez Zj8 Zgs recF memN indF Zfm retN oneK Zbz Zd8 SubR SubRE SubRB InjK InjA qOf Znn AVal.ren renL Zak ABlk.ren renB Zde Zfe
theorem Zpe (T:Nat→Nat) (N:Nat):∀ (k:Nat) (seen:List Bool),cyc T N k seen≤k
 | 0,_=>Nat.le_refl _
 | k+1,seen=>by
  simp only[cyc]
  split
  ·have:=Zpe T N k seen; omega
  ·have:=Zpe T N k (Plain.mark T (N+1) seen (N - (k+1))); omega
set_option maxRecDepth 100000 in
set_option maxHeartbeats 4000000 in
theorem c135 (F:Nat) (ls:List Lt) (E:List Ent) (hg:Filled ls E) (hT:∀ d,d<2*ls.length+2*(axis ls).length→Za6 ls (axis ls) d<2*ls.length+2*(axis ls).length) (hE:E.length≤1000) :
 Ctr Tryz.prog 171 [.ptr 1 0 0] (dF F ls (ls.map rowL) E) fun r m=>r=.bool (decide (Zfr (Za6 ls (axis ls)) (2*ls.length+2*(axis ls).length)=(axis ls).length+E.length+2))∧m=dF F ls (ls.map rowL) E:=by
 refine Zln hm Tryz.func171 cf135 rfl rfl fun K hK=>?_
 have hR:=Zb4 ls
 have h:=hg.small
 have h105:=fun d hd=>c105 F ls E hg d hd
 unfold dF dM dV2 at *
 have hrr:∀ q,Zak q (ls.map rowL)=ls.map rowL:=fun q=>Zad q _ (Zac ls)
 generalize ls.map rowL=rows at *
 have hlen:=hR.len
 have hm0:=hg.some
 have hml:(axis ls).length≤ls.length:=by rw[Zas]; exact Za4
 generalize hBe:bls (Zbt ls.length ls.length (Zcm ls) false)=B at *
 generalize hCe:nums (Zbt ls.length ls.length (Zcd ls) 0)=C at *
 generalize hAe:nums (axis ls)=A at *
 have hrA:∀ q,Zak q A=A:=fun q=>by rw[← hAe]; exact Zab q _
 have hrB:∀ q,Zak q B=B:=fun q=>by rw[← hBe]; exact Zao q _
 have hrC:∀ q,Zak q C=C:=fun q=>by rw[← hCe]; exact Zab q _
 generalize (axis ls).length=m at *
 generalize Za6 ls (axis ls)=T at *
 obtain⟨N0,hN0⟩:∃ N0,2*ls.length+2*m=N0:=⟨_,rfl⟩
 have hw1:IntKind.i64.wrap (2*(ls.length:Int))=2*(ls.length:Int):=Zae (by omega) (by omega)
 have hw2:IntKind.i64.wrap (2*(m:Int))=2*(m:Int):=Zae (by omega) (by omega)
 have hw3:IntKind.i64.wrap (2*(ls.length:Int)+2*(m:Int))=(N0:Int):=by rw[Zae (by omega) (by omega)]; omega
 have hN1:N0≤1048576:=by omega
 have hNr:N0≤4000:=by omega
 rw[hN0]at hT h105
 simp only[hN0]at hK
 obtain⟨S0,hS0⟩:∃ S0,List.replicate N0 false=S0:=⟨_,rfl⟩
 have e1:List.replicate N0 [AVal.bool false]=bls S0:=by rw[← hS0,Zrp]
 have hS0l:S0.length=N0:=by rw[← hS0]; simp
 simp[room,hlen,hw1,hw2,hw3,hN1,e1]
 refine Zbg (α:=Nat×Nat×List Bool) (fun a=>[(25,.int .i64 a.1),(24,.int .i64 N0),(5,.int .i64 a.2.1),(4,.sl 7 0 N0),(0,.ptr 1 0 0)])
  (fun a=>⟨[(1,.cells 7 [[.int .i64 (F:Int),.imm rows,.sl 3 0 ls.length,.sl 5 0 m,.sl 4 0 ls.length,.map 6,.sl 2 0 (F+1)]]),(2,.cells 1 (nums (cnts F ls))),(3,.cells 1 B),(4,.cells 1 C),(5,.cells 1 A),(6,.map (mkE 0 E) E.length),(7,.cells 1 (bls a.2.2))],8⟩)
  (fun a=>N0 - a.1) (fun a=>a.1≤N0∧a.2.2.length=N0∧a.2.1+cyc T N0 (N0 - a.1) a.2.2=Zfr T N0) (0,0,S0) [(7,24)] (by simp[hrr,hrA,hrB,hrC,Zaf,Zab,Zao]) ⟨by simp,hS0l,by simp[Zfr,hS0]⟩ ?_
 rintro⟨d,c,seen⟩ ⟨hd,hs,hcyc⟩ N hN
 simp only at hd hs hcyc hN ⊢
 have hcl:c≤N0:=by
  have:=Zpe T N0 N0 (List.replicate N0 false)
  unfold Zfr at hcyc
  omega
 by_cases hlt:d<N0
 ·have hwd:IntKind.i64.wrap ((d:Int)+1)=(d:Int)+1:=Zae (by omega) (by omega)
  have hwc:IntKind.i64.wrap ((c:Int)+1)=(c:Int)+1:=Zae (by omega) (by omega)
  obtain⟨b,hb⟩:∃ b,seen[d]? = some b:=⟨_,List.getElem?_eq_getElem (by omega)⟩
  have hbg:=Zht hb
  have hbl:(bls seen).length=N0:=by rw[bls,List.length_map,hs]
  cases b with
  | true=>
   rw[Z5v hlt hb]at hcyc
   generalize hSe:bls seen=S at *
   obtain⟨_,hbg2⟩:=getE hbg
   simp[hlt,hbg,hbg2,hbl,hwd]
   exact hN (d+1,c,seen) [] _ _ (by simp; omega) ⟨by simp; omega,hs,hcyc⟩ (by simp[hrr,hrA,hrB,hrC,Zaf,Zab,Zao,hSe.symm])
  | false=>
   rw[Z0j hlt hb]at hcyc
   have hbg':=hbg
   generalize hSe:bls seen=S at *
   obtain⟨_,hbg2⟩:=getE hbg
   simp[hlt,hbg,hbg2,hbl,hwc]
   subst hSe
   refine Zbg (α:=Nat×List Bool×Nat) (fun a=>[(7,.int .i64 a.1),(5,.int .i64 ((c:Int)+1)),(25,.int .i64 d),(24,.int .i64 N0),(4,.sl 7 0 N0),(0,.ptr 1 0 0)])
    (fun a=>⟨[(1,.cells 7 [[.int .i64 (F:Int),.imm rows,.sl 3 0 ls.length,.sl 5 0 m,.sl 4 0 ls.length,.map 6,.sl 2 0 (F+1)]]),(2,.cells 1 (nums (cnts F ls))),(3,.cells 1 B),(4,.cells 1 C),(5,.cells 1 A),(6,.map (mkE 0 E) E.length),(7,.cells 1 (bls a.2.1))],8⟩)
    (fun a=>Zfd a.2.1) (fun a=>a.1<N0∧a.2.1.length=N0∧Zfd a.2.1≤a.2.2∧Plain.mark T (N0+1) seen d=Plain.mark T (a.2.2+1) a.2.1 a.1) (d,seen,N0) [] (by simp[hrr,hrA,hrB,hrC,Zaf,Zab,Zao]) ⟨hlt,hs,by have:=Ze9 (l:=seen); simp; omega,rfl⟩ ?_
   rintro⟨x,sn,fu⟩ ⟨hx,hsn,hfu,hmark⟩ N2 hN2
   simp only at hx hsn hfu hmark hN2 ⊢
   obtain⟨b2,hb2⟩:∃ b2,sn[x]? = some b2:=⟨_,List.getElem?_eq_getElem (by omega)⟩
   have hb2g:=Zht hb2
   have hb2l:(bls sn).length=N0:=by rw[bls,List.length_map,hsn]
   cases b2 with
   | true=>
    rw[Zth hb2]at hmark
    generalize hSe:bls sn=S at *
    obtain⟨_,hb2g2⟩:=getE hb2g
    simp[hx,hb2g,hb2g2,hb2l,hwd]
    subst hSe
    refine hN (d+1,c+1,sn) [] _ _ (by simp; omega) ⟨by simp; omega,hsn,?_⟩ (by simp[hrr,hrA,hrB,hrC,Zaf,Zab,Zao])
    simp only
    rw[hmark]at hcyc
    rw[← hcyc,Nat.add_assoc]
   | false=>
    rw[Zw6 hb2]at hmark
    have hun:=Zms hb2
    have hset:=Zrw sn x true
    have hTx:=hT x hx
    have hsn1:(sn.set x true).length=N0:=by simpa using hsn
    generalize sn.set x true=sn1 at *
    generalize hSe:bls sn=S at *
    obtain⟨_,hb2g2⟩:=getE hb2g
    simp[hx,hb2g,hb2g2,hb2l,hset]
    refine Zb2 (h105 x hx) [] (by simp) (by simp[hrr,hrA,hrB,hrC,Zaf,Zab,Zao]) (by simp) ?_
    rintro r sm ⟨rfl,rfl⟩
    simp[hrr,hrA,hrB,hrC,Zaf,Zab,Zao]
    obtain⟨fu',hfe⟩:∃ fu',fu=fu'+1:=⟨fu - 1,by omega⟩
    subst hfe
    exact hN2 (T x,sn1,fu') [] _ _ (by simp; omega) ⟨hTx,hsn1,by simp; omega,hmark⟩ (by simp[hrr,hrA,hrB,hrC,Zaf,Zab,Zao])
 have he:d=N0:=by omega
 subst he
 rw[Nat.sub_self]at hcyc
 simp only[cyc,Nat.add_zero]at hcyc
 have hw4:IntKind.i64.wrap ((m:Int)+(E.length:Int))=(m:Int)+(E.length:Int):=Zae (by omega) (by omega)
 have hw5:IntKind.i64.wrap ((m:Int)+(E.length:Int)+2)=(m:Int)+(E.length:Int)+2:=Zae (by omega) (by omega)
 by_cases hc:c=m+E.length+2
 ·have hc':(c:Int)=(m:Int)+(E.length:Int)+2:=by omega
  simp[Zhe,hw4,hw5,hc']
  refine endK hK [] ?_
  rw[← hcyc]
  simp[hrr,hrA,hrB,hrC,Zaf,Zab,Zao,hc]
 ·have hc':¬(c:Int)=(m:Int)+(E.length:Int)+2:=by omega
  simp[Zhe,hw4,hw5,hc']
  refine endK hK [] ?_
  rw[← hcyc]
  simp[hrr,hrA,hrB,hrC,Zaf,Zab,Zao,hc]
end Go.Known
end
section
namespace Go.Known
open Go Go.AE Go.Proofs
open Go.Plain
attribute [local simp] Zgn Zdn Zcw Zj0 Ze2 Ze7 Zex Zgo Zj6 Zam Za2 Zat Zai Zau Zap Zdw Ze6 Zg8 Zgz Zgt Zkn Zeu Zqe Zgm Zg5 Ze3 Zg3 Zg7 Zki Zgq Zg0 Zew Zkj Zg9 Ze4 Ze1 Zgv Zgx Zgp Zgu Zev Zdp Zkc Zgw Zkd Zqh Zdo Ze8 Zdy Zko Zhc Zey Zkh Zjs Ze5 Ze0 Zg4 Zjr Zjv Zql Zj2 Zgl Zdk Zdx Zdr Zdq Zdm Zp2 Zjp Zj9 Env.get argE SMem.at SMem.app SMem.get Zar Zb8 AVal.cells AVal.one Zc2 Zce Zj4 Zkb Zjt Zkl Zka Zkm Zke Zkf Zkp Zj3 Zjz Zjw Zjy unA Zb7 Zbp Zhz Zfl Zaq aundef Zct Zdv Zez Zj8 Zgs recF memN indF Zfm retN oneK Zbz Zd8 SubR SubRE SubRB InjK InjA qOf Znn AVal.ren renL Zak ABlk.ren renB Zde Zfe
def Zux (F:Nat) (ls:List Lt):Prop:=
 ls.all (okC F)=true∧(at' ls 0).k=1∧Zaa ls % 2=0∧rkF ls (Zaa ls) ls.length=true∧CrOk ls∧Zfr (Za6 ls (axis ls)) (2*ls.length+2*(axis ls).length)=(axis ls).length+(crE ls ls.length).length+2
def stg (F:Nat) (ls:List Lt) (rows:List (List AVal)):Nat→List (Nat×ABlk)
 | 0|1|2=>[(1,dV0 F rows)]
 | 3=>[(1,dV1 F ls.length (axis ls).length rows),(2,.cells 1 (nums (cnts F ls))),(3,.cells 1 (bls (Zbt ls.length ls.length (Zcm ls) false))),(4,.cells 1 (nums (Zbt ls.length ls.length (Zcd ls) 0))),(5,.cells 1 (nums (axis ls)))]
 | _=>[(1,dV2 F ls.length (axis ls).length rows),(2,.cells 1 (nums (cnts F ls))),(3,.cells 1 (bls (Zbt ls.length ls.length (Zcm ls) false))),(4,.cells 1 (nums (Zbt ls.length ls.length (Zcd ls) 0))),(5,.cells 1 (nums (axis ls))),(6,.map (mkE 0 (crE ls ls.length)) (crE ls ls.length).length)]
abbrev clos:ABlk:=.cells 1 [[.func (.func 167) [.ptr 1 0 0] []],[.func (.func 168) [.ptr 1 0 0] []],[.func (.func 169) [.ptr 1 0 0] []],[.func (.func 170) [.ptr 1 0 0] []],[.func (.func 171) [.ptr 1 0 0] []]]
set_option maxRecDepth 100000 in
set_option maxHeartbeats 4000000 in
theorem c104 (F:Nat) (ls:List Lt) (h:ls.length≤1000) (hF:F≤1000) :
 Ctr Tryz.prog 119 [.ptr 1 0 0] (dM1 F (ls.map rowL)) fun r m=>(ls=[]∧r=.bool true∧m=dM1 F (ls.map rowL))∨(ls≠[]∧Zux F ls∧r=.bool true∧m=dF F ls (ls.map rowL) (crE ls ls.length))∨(ls≠[] ∧ ¬Zux F ls∧r=.bool false∧m=⟨[],2⟩):=by
 refine Zlc hm Tryz.func119 cf104 rfl rfl fun K hK=>?_
 have hR:=Zb4 ls
 have h131:=c131 F ls h
 have h132:=c132 F ls h
 have h133:=c133 F ls h hF
 have h134:=fun A B C D=>c134 F ls (axis ls).length h A B C D
 have h135:=c135 F ls (crE ls ls.length)
 have hrr:∀ q,Zak q (ls.map rowL)=ls.map rowL:=fun q=>Zad q _ (Zac ls)
 generalize ls.map rowL=rows at *
 have hlen:=hR.len
 by_cases h0:ls=[]
 ·have hr0:rows=[]:=List.length_eq_zero_iff.1 (by rw[hlen,h0]; rfl)
  have hK0:=hK _ _ (.inl ⟨h0,rfl,rfl⟩)
  subst hr0
  simp
  exact endK hK0 [] (by simp)
 have hpos:0<ls.length:=List.length_pos_iff.2 h0
 have hn0:¬rows=[]:=fun e=>by rw[e]at hlen; simp at hlen; omega
 have hyes:Zux F ls → ∀ l m,SubR 2 l [(0,.bool true)] (dF F ls rows (crE ls ls.length)) [(0,.bool true)] m→EndK 2 K (.bool true) m:=
  fun hr l m hs=>endK (hK _ _ (.inr (.inl ⟨h0,hr,rfl,rfl⟩))) l hs
 have hno:¬Zux F ls → ∀ l m,SubR 2 l [(0,.bool false)] ⟨[],2⟩ [(0,.bool false)] m→EndK 2 K (.bool false) m:=
  fun hr l m hs=>endK (hK _ _ (.inr (.inr ⟨h0,hr,rfl,rfl⟩))) l hs
 clear hK
 simp[hlen,h0,hn0]
 refine Zbg (α:=Nat) (fun i=>[(24,.int .i64 i),(23,.int .i64 5),(22,.sl 7 0 5),(0,.ptr 1 0 0)]) (fun i=>⟨stg F ls rows i++[(7,clos)],8⟩)
  (fun i=>5 - i) (fun i=>i≤5∧(0<i→ls.all (okC F)=true)∧(1<i→(at' ls 0).k=1∧Zaa ls % 2=0)∧(2<i→rkF ls (Zaa ls) ls.length=true)∧(3<i→CrOk ls) ∧
    (4<i→Zfr (Za6 ls (axis ls)) (2*ls.length+2*(axis ls).length)=(axis ls).length+(crE ls ls.length).length+2)) 0 [(7,20)] (by simp[stg,hrr,Zaf,Zab,Zao]) (by simp) ?_
 rintro i ⟨hi,g1,g2,g3,g4,g5⟩ N hN
 try simp only at hi g1 g2 g3 g4 g5 hN ⊢
 have w1:IntKind.i64.wrap 1=1:=by decide
 have w2:IntKind.i64.wrap 2=2:=by decide
 have w3:IntKind.i64.wrap 3=3:=by decide
 have w4:IntKind.i64.wrap 4=4:=by decide
 have w5:IntKind.i64.wrap 5=5:=by decide
 rcases (show i=0∨i=1∨i=2∨i=3∨i=4∨i=5 by omega)with rfl|rfl|rfl|rfl|rfl|rfl
 ·simp[stg]
  refine Zb2 h131 [] (by simp) (by simp[hrr,Zaf,Zab,Zao]) (by simp) ?_
  rintro r sm ⟨rfl,rfl⟩
  cases hb:ls.all (okC F)with
  | true=>
   simp[hrr,Zaf,Zab,Zao,w1,w2,w3,w4,w5]
   exact hN 1 [] _ _ (by omega) ⟨by omega,fun _=>hb,by omega,by omega,by omega,by omega⟩ (by simp[stg,hrr,Zaf,Zab,Zao])
  | false=>
   simp[hrr,Zaf,Zab,Zao,w1,w2,w3,w4,w5]
   exact hno (fun hh=>by rw[hh.1]at hb; cases hb) [] _ (by simp)
 ·simp[stg]
  refine Zb2 (h132 hpos) [] (by simp) (by simp[hrr,Zaf,Zab,Zao]) (by simp) ?_
  rintro r sm ⟨rfl,rfl⟩
  by_cases hb:(at' ls 0).k=1∧Zaa ls % 2=0
  ·simp[hrr,Zaf,Zab,Zao,w1,w2,w3,w4,w5,hb]
   exact hN 2 [] _ _ (by omega) ⟨by omega,fun _=>g1 (by omega),fun _=>hb,by omega,by omega,by omega⟩ (by simp[stg,hrr,Zaf,Zab,Zao])
  ·have hb2:(decide ((at' ls 0).k=1)&&decide (Zaa ls % 2=0))=false:=by
    rw[← Bool.not_eq_true]; simpa using hb
   rw[hb2]
   simp[hrr,Zaf,Zab,Zao,w1,w2,w3,w4,w5]
   exact hno (fun hh=>hb ⟨hh.2.1,hh.2.2.1⟩) [] _ (by simp)
 ·have hG:=Zi4 (g1 (by omega))
  simp[stg]
  refine Zb2 (h133 hG) [] (by simp) (by simp[hrr,Zaf,Zab,Zao]) (by simp) ?_
  rintro r sm (⟨hb,rfl,rfl⟩|⟨hb,rfl,rfl⟩)
  ·have hax:=Z3r hG hb
   have hal:=Zas ls
   unfold dR
   rw[hax,← hal]
   simp[hrr,Zaf,Zab,Zao,w1,w2,w3,w4,w5]
   exact hN 3 [(2,15),(3,16),(4,17),(5,18)] _ _ (by omega) ⟨by omega,fun _=>g1 (by omega),fun _=>g2 (by omega),fun _=>hb,by omega,by omega⟩ (by simp[stg,hrr,Zaf,Zab,Zao])
  ·simp[hrr,Zaf,Zab,Zao,w1,w2,w3,w4,w5]
   exact hno (fun hh=>by rw[hh.2.2.2.1]at hb; cases hb) [] _ (by simp)
 ·simp[stg]
  refine Zb2 (h134 (nums (cnts F ls)) (bls (Zbt ls.length ls.length (Zcm ls) false)) (nums (Zbt ls.length ls.length (Zcd ls) 0)) (nums (axis ls)) (fun q=>Zab q _) (fun q=>Zao q _) (fun q=>Zab q _) (fun q=>Zab q _)) [] (by simp) (by simp[hrr,Zaf,Zab,Zao]) (by simp) ?_
  rintro r sm (⟨hb,rfl,rfl⟩|⟨hb,rfl,rfl⟩)
  ·simp[hrr,Zaf,Zab,Zao,w1,w2,w3,w4,w5]
   exact hN 4 [(6,15)] _ _ (by omega) ⟨by omega,fun _=>g1 (by omega),fun _=>g2 (by omega),fun _=>g3 (by omega),fun _=>hb,by omega⟩ (by simp[stg,hrr,Zaf,Zab,Zao])
  ·simp[hrr,Zaf,Zab,Zao,w1,w2,w3,w4,w5]
   exact hno (fun hh=>hb hh.2.2.2.2.1) [] _ (by simp)
 ·have hG:=Zi4 (g1 (by omega))
  have hfl:=Z0b h (g1 (by omega)) hpos (g2 (by omega)).1 (g3 (by omega)) (g4 (by omega))
  have hax:∀ v,v∈axis ls→v<ls.length:=fun v hv=>(mem_axis.1 hv).1
  have hmm:∀ v,v<ls.length→(at' ls v).k≠2→v∈axis ls:=fun v hv h2=>mem_axis.2 ⟨hv,by simp[isP,(hfl.kind v hv).resolve_right h2]⟩
  have hT:∀ d,d<2*ls.length+2*(axis ls).length→Za6 ls (axis ls) d<2*ls.length+2*(axis ls).length:=fun d hd=>Zoy hax hmm hfl.some hd
  have hEl:(crE ls ls.length).length≤1000:=by have:=Zlg ls ls.length; omega
  simp[stg]
  refine Zb2 (h135 hfl hT hEl) [] (by simp) (by simp[hrr,Zaf,Zab,Zao]) (by simp) ?_
  rintro r sm ⟨rfl,rfl⟩
  by_cases hb:Zfr (Za6 ls (axis ls)) (2*ls.length+2*(axis ls).length)=(axis ls).length+(crE ls ls.length).length+2
  ·simp[hrr,Zaf,Zab,Zao,w1,w2,w3,w4,w5,hb]
   exact hN 5 [] _ _ (by omega) ⟨by omega,fun _=>g1 (by omega),fun _=>g2 (by omega),fun _=>g3 (by omega),fun _=>g4 (by omega),fun _=>hb⟩ (by simp[stg,hrr,Zaf,Zab,Zao])
  ·simp[hrr,Zaf,Zab,Zao,w1,w2,w3,w4,w5,hb]
   exact hno (fun hh=>hb hh.2.2.2.2.2) [] _ (by simp)
 ·simp[stg]
  exact hyes ⟨g1 (by omega),(g2 (by omega)).1,(g2 (by omega)).2,g3 (by omega),g4 (by omega),g5 (by omega)⟩ [] _ (by simp[hrr,Zaf,Zab,Zao])
end Go.Known
end
section
namespace Go.Known
open Go Go.AE Go.Proofs
open Go.Plain
theorem Z4a {T:Nat→Nat} {N d:Nat} {seen:List Bool} (hd:d<N) (h:seen[d]? = some true):wks T N (N - d) seen=wks T N (N - (d+1)) seen:=by
 obtain⟨k,hk⟩:∃ k,N - d=k+1:=⟨N - d - 1,by omega⟩
 rw[hk,wks,show N - (k+1)=d by omega,Zig h,if_pos rfl]
 congr 1; omega
theorem Z7g {T:Nat→Nat} {N d:Nat} {seen:List Bool} (hd:d<N) (h:seen[d]? = some false):wks T N (N - d) seen=tr T (N+1) seen d :: wks T N (N - (d+1)) (Plain.mark T (N+1) seen d):=by
 obtain⟨k,hk⟩:∃ k,N - d=k+1:=⟨N - d - 1,by omega⟩
 rw[hk,wks,show N - (k+1)=d by omega,Zig h,if_neg (by simp)]
 congr 2; omega
theorem Z88 {T:Nat→Nat} {k x:Nat} {seen:List Bool} (h:seen[x]? = some true):tr T k seen x=[]:=by
 cases k with
 | zero=>rfl
 | succ k=>rw[tr,Zig h,if_pos rfl]
theorem Z6t {T:Nat→Nat} {k x:Nat} {seen:List Bool} (h:seen[x]? = some false):tr T (k+1) seen x=x :: tr T k (seen.set x true) (T x):=by
 rw[tr,Zig h,if_neg (by simp)]
set_option maxRecDepth 100000 in
set_option maxHeartbeats 4000000 in
theorem c16 (f:Int) (ls:List Lt) (T:Nat→Nat) (m:Nat) (h:ls.length≤1000) (h0:0<Zaa ls) (hm':(axis ls).length=m) (hml:m≤1000)
 (hT:∀ d,d<2*ls.length+2*m→T d<2*ls.length+2*m) (hC:∀ d,d<2*ls.length+2*m→PCall Tryz.prog 103 [cV f ls,.imm (nums (axis ls)),.int .i64 d] (.int .i64 (T d:Nat))) :
 PCall Tryz.prog 87 [cV f ls] (.imm (Zfz (Zed T (2*ls.length+2*m)))):=by
 refine Zd1 hm 3 Tryz.func87 cf16 rfl rfl (by simp[Zag,Zb9]) (by simp[AVal.closed,Zgg]) fun K hK=>?_
 have hR:=Zb4 ls
 have h39:=c39 f ls h h0
 have hal:(nums (axis ls)).length=m:=by rw[Zyf]; exact hm'
 have hrr:∀ q,Zak q (ls.map rowL)=ls.map rowL:=fun q=>Zad q _ (Zac ls)
 have hra:∀ q,Zak q (nums (axis ls))=nums (axis ls):=fun q=>Zab q _
 unfold cV at *
 generalize ls.map rowL=rows at *
 generalize nums (axis ls)=axr at *
 have hlen:=hR.len
 generalize hN:2*ls.length+2*m=N at *
 have hw1:IntKind.i64.wrap (2*(ls.length:Int))=2*(ls.length:Int):=Zae (by omega) (by omega)
 have hw2:IntKind.i64.wrap (2*(m:Int))=2*(m:Int):=Zae (by omega) (by omega)
 have hw3:IntKind.i64.wrap (2*(ls.length:Int)+2*(m:Int))=(N:Int):=by rw[Zae (by omega) (by omega)]; omega
 have hNr:N≤1048576:=by omega
 simp
 refine Zbc h39 ?_
 obtain⟨S0,hS0⟩:∃ S0,List.replicate N false=S0:=⟨_,rfl⟩
 have e1:List.replicate N [AVal.bool false]=bls S0:=by rw[← hS0,Zrp]
 have hS0l:S0.length=N:=by rw[← hS0]; simp
 simp[hlen,hal,hw1,hw2,hw3,hNr,e1]
 refine Zwq (α:=Nat×List Bool×List (List Nat)) (fun a=>[(6,.int .i64 a.1),(5,.sl 2 0 N),(4,.imm axr),(3,slV 3 (Zfz a.2.2)),(1,.ptr 1 0 0)])
  (fun a=>⟨(1,.cells 2 [[.int .i64 f,.imm rows]]) :: (2,.cells 1 (bls a.2.1)) :: blV 3 1 (Zfz a.2.2) [],4⟩)
  (fun a=>N - a.1) (fun a=>a.1≤N∧a.2.1.length=N∧a.2.2.length≤a.1∧a.2.2++wks T N (N - a.1) a.2.1=Zed T N) (0,S0,[]) (SubR.wk (l:=[(2,15)]) (by simp[hrr,hra,Zao,Zfz])) ⟨by simp,hS0l,by simp,by simp[Zed,hS0]⟩ ?_
 rintro⟨d,seen,out⟩ ⟨hd,hsl,hol,hout⟩ N1 hN1
 simp only at hd hsl hol hout hN1 ⊢
 by_cases hlt:d<N
 ·have hwd:IntKind.i64.wrap ((d:Int)+1)=(d:Int)+1:=Zae (by omega) (by omega)
  obtain⟨b,hb⟩:∃ b,seen[d]? = some b:=⟨_,List.getElem?_eq_getElem (by omega)⟩
  have hbg:=Zht hb
  have hbl:(bls seen).length=N:=by rw[bls,List.length_map,hsl]
  obtain⟨_,hbg2⟩:=getE hbg
  cases b with
  | true=>
   rw[Z4a hlt hb]at hout
   generalize hSe:bls seen=S at *
   simp[hlt,hbg,hbg2,hbl,hwd]
   exact hN1 (d+1,seen,out) _ _ (by simp; omega) ⟨by simp; omega,hsl,by simp; omega,hout⟩ (SubR.wk (l:=[]) (by simp +contextual [hrr,hra,← hSe,Zao,Zii]))
  | false=>
   rw[Z7g hlt hb]at hout
   generalize hSe:bls seen=S at *
   simp[hlt,hbg,hbg2,hbl]
   subst hSe
   refine Zbg (α:=Nat×List Bool×List Nat×Nat) (fun a=>[(8,.int .i64 a.1),(7,slV 4 (nums a.2.2.1)),(6,.int .i64 d),(5,.sl 2 0 N),(4,.imm axr),(3,slV 3 (Zfz out)),(1,.ptr 1 0 0)])
    (fun a=>⟨(1,.cells 2 [[.int .i64 f,.imm rows]]) :: (2,.cells 1 (bls a.2.1)) :: blV 3 1 (Zfz out) (blV 4 1 (nums a.2.2.1) []),5⟩)
    (fun a=>Zfd a.2.1) (fun a=>a.1<N∧a.2.1.length=N∧Zfd a.2.1<a.2.2.2∧a.2.2.1.length+Zfd a.2.1≤N∧Plain.mark T (N+1) seen d=Plain.mark T a.2.2.2 a.2.1 a.1∧tr T (N+1) seen d=a.2.2.1++tr T a.2.2.2 a.2.1 a.1) (d,seen,[],N+1) [] (by simp +contextual [hrr,hra,Zao,Zii]) ⟨hlt,hsl,by have:=Ze9 (l:=seen); simp; omega,by have:=Ze9 (l:=seen); simp; omega,rfl,rfl⟩ ?_
   rintro⟨x,sn,w,fu⟩ ⟨hx,hsn,hfu,hwl,hmk,htr⟩ N2 hN2
   simp only at hx hsn hfu hwl hmk htr hN2 ⊢
   obtain⟨b2,hb2⟩:∃ b2,sn[x]? = some b2:=⟨_,List.getElem?_eq_getElem (by omega)⟩
   have hb2g:=Zht hb2
   have hb2l:(bls sn).length=N:=by rw[bls,List.length_map,hsn]
   obtain⟨_,hb2g2⟩:=getE hb2g
   cases b2 with
   | true=>
    rw[Zth hb2]at hmk
    rw[Z88 hb2,List.append_nil]at htr
    rw[hmk,htr]at hout
    have hwn:w≠[]:=by
     rw[← htr,Z6t hb]; simp
    generalize hSe:bls sn=S at *
    have hlo:(Zfz out).length≤1048575:=by rw[Zio]; omega
    simp[hx,hb2g,hb2g2,hb2l,hwd,hlo]
    refine hN1 (d+1,sn,out++[w]) _ _ (by simp; omega) ⟨by simp; omega,hsn,by simp; omega,by simp[← hout]⟩ (SubF.wk (l:=[(3,13)]) (S:=[4]) ⟨by simp,by simp,by simp[Zm6,hrr,hra],?_,by simp[Zm6]⟩)
    have hnw:nums w≠[]:=by simpa using hwn
    simp[SubFB,Zm6,hrr,Zii,Zao,← hSe]
    refine .inr ⟨1,_,⟨rfl,rfl⟩,rfl,?_⟩
    rw[Zab,Z3a (Zgg _)]
    simp[Z78,imV,hwn]
   | false=>
    have hun:=Zms hb2
    have hset:=Zrw sn x true
    obtain⟨fu',rfl⟩:∃ fu',fu=fu'+1:=⟨fu - 1,by omega⟩
    rw[Zw6 hb2]at hmk
    rw[Z6t hb2]at htr
    have hcx:=hC x hx
    have hTx:=hT x hx
    have hlo:w.length≤1048575:=by omega
    have hsn1:(sn.set x true).length=N:=by simpa using hsn
    generalize sn.set x true=sn1 at *
    generalize hSe:bls sn=S at *
    simp[hx,hb2g,hb2g2,hb2l,hset,hlo]
    refine Zbc hcx ?_
    simp
    exact hN2 (T x,sn1,w++[x],fu') [(4,17)] _ _ (by simp; omega) ⟨hTx,hsn1,by simp; omega,by simp; omega,hmk,by simp[htr]⟩ (by simp +contextual [hrr,hra,Zao,Zii,Zab,← hSe])
 ·have he:d=N:=by omega
  subst he
  rw[Nat.sub_self]at hout
  simp only[wks,List.append_nil]at hout
  subst hout
  have hwn:Zfz (Zed T d)≠[]:=by
   have hcp:=Zy8 (T:=T) (N:=d) (by have:=Zas ls; omega)
   have hl:=Zfo T d d (List.replicate d false)
   intro e
   have:=Zio (Zed T d)
   rw[e]at this
   unfold Zed at this
   unfold Zfr at hcp
   simp at this
   omega
  simp
  refine endK (hK (slV 3 (Zfz (Zed T d))) ⟨blV 3 1 (Zfz (Zed T d)) [],4⟩ ?_) [] (by simp +contextual [Zii])
  simp only[slV,if_neg hwn]
  exact Zfq (k:=1) (by simp[hwn]) (Zzm _)
theorem c16' (f:Int) (ls:List Lt) (h:ls.length≤1000) (h0:0<Zaa ls) (hk:∀ v,v<ls.length→(at' ls v).k≠2→(at' ls v).k=1) :
 PCall Tryz.prog 87 [cV f ls] (.imm (Zfz (Zed (Za6 ls (axis ls)) (2*ls.length+2*Zaa ls)))):=by
 have hal:=Zas ls
 have hax:∀ v,v∈axis ls→v<ls.length:=fun v hv=>(mem_axis.1 hv).1
 have hmm:∀ v,v<ls.length→(at' ls v).k≠2→v∈axis ls:=fun v hv h2=>mem_axis.2 ⟨hv,by simp[isP,hk v hv h2]⟩
 have hpl:Zaa ls≤ls.length:=Za4
 refine c16 f ls _ _ h h0 hal (by omega) (fun d hd=>?_) (fun d hd=>?_)
 ·rw[← hal]at hd ⊢
  exact Zoy hax hmm (by omega) hd
 ·by_cases hd1:2*ls.length≤d
  ·exact c40a f ls _ d h (by omega) hd1 (by omega) hax
  ·exact c40b f ls _ d h (by omega) hd1 hmm (by omega)
end Go.Known
end
