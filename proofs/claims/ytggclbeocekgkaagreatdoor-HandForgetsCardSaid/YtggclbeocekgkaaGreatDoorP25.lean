/- Part 25 of the proof: Lc, Ld, Re, Pf, Rs, Ob. -/
import Derived.Test.YtggclbeocekgkaaGreatDoorP16
import Derived.Test.YtggclbeocekgkaaGreatDoorP18
import Derived.Test.YtggclbeocekgkaaGreatDoorP20
import Derived.Test.YtggclbeocekgkaaGreatDoorP23
import Derived.Test.YtggclbeocekgkaaGreatDoorP24
set_option linter.all false
section
namespace Go.Ac
open Go Go.AE Go.Proofs
open Go.Plain
def outV(ob:Option Nat)(n:Nat):Aa:=
 match ob with
 | none=>.Ae
 | some b=>.sl b 0 n
def outB(ob:Option Nat)(k:Nat)(rows:List (List Aa)):List (Nat×Ai):=
 match ob with
 | none=>[]
 | some b=>[(b,.cells k rows)]
def lW(ob:Option Nat)(q n:Nat):Prop:=
 match ob with
 | none=>n=0
 | some b=>b<q∧1<b
end Go.Ac
end
section
namespace Go.Ac
open Go Go.AE Go.Proofs
open Go.Plain
attribute [local simp] ZV Yg Zo aH Ym Zi Yi Yk A6 B4 A2 B9 A0 B5 YP Zl Q7 AG Env.get W3 Q9 Y6 Ad.at Ad.app Ad.get X2 Aa.cells Aa.one G7 J3 D6 I4 P0 U6 R8 Fo EJ F0 M3 IX T4 Ag EE FN FM E2 Na C0 LS L1 I5 N1 T5
theorem Oo{l:List Bool}{x:Nat}{b:Bool}(h:l[x]? = some b):l.getD x true=b:=by rw[List.getD,h]; rfl
theorem YB{l:List Bool}{x:Nat}(h:l[x]? = some false):E9 (l.set x true)+1=E9 l:=by
 induction l generalizing x with
 | nil=>simp at h
 | cons a r ih=>
  cases x with
  | zero=>
   simp only[List.getElem?_cons_zero,oI]at h;subst h;simp[E9]
  | succ x=>
   simp only[List.getElem?_cons_succ]at h;have:=ih h;simp only[E9,List.set_cons_succ,List.filter_cons]at this ⊢;cases a<;>simp<;>omega
theorem OG{l:List Bool}:E9 l≤l.length:=List.length_filter_le _ _
theorem Zzb{T:Nat→Nat}{N d:Nat}{seen:List Bool}(hd:d<N)(h:seen[d]? = some true):EX T N (N - d) seen=EX T N (N - (d+1)) seen:=by
 obtain⟨k,hk⟩:∃ k,N - d=k+1:=⟨N - d - 1,by omega⟩
 have hk2:N - (d+1)=k:=by omega
 have hk3:N - (k+1)=d:=by omega
 rw[hk,hk2,EX,hk3,Oo h,iP rfl]
theorem Zz0{T:Nat→Nat}{N d:Nat}{seen:List Bool}(hd:d<N)(h:seen[d]? = some false):EX T N (N - d) seen=1+EX T N (N - (d+1)) (Plain.mark T (N+1) seen d):=by
 obtain⟨k,hk⟩:∃ k,N - d=k+1:=⟨N - d - 1,by omega⟩
 have hk2:N - (d+1)=k:=by omega
 have hk3:N - (k+1)=d:=by omega
 rw[hk,hk2,EX,hk3,Oo h,iN (by simp)]
theorem Zy8{T:Nat→Nat}{k x:Nat}{seen:List Bool}(h:seen[x]? = some true):Plain.mark T k seen x=seen:=by
 cases k with
 | zero=>rfl
 | succ k=>rw[Plain.mark,Oo h,iP rfl]
theorem Z2v{T:Nat→Nat}{k x:Nat}{seen:List Bool}(h:seen[x]? = some false):Plain.mark T (k+1) seen x=Plain.mark T k (seen.set x true) (T x):=by
 rw[Plain.mark,Oo h,iN (by simp)]
end Go.Ac
end
section
namespace Go.Ac
open Go Go.AE Go.Proofs
open Go.Plain
attribute [local simp] Jx JO Js KB Jd JF KN Lg JA A6 B4 A2 B9 A0 B5 JU Ku KF Jq KV JY JI KQ Kg Ky JM JS Jh Ji KU KH JQ Kz Kv KM Kx JG KJ Jy JJ Jz Jp KW Jl Je Kf JB JT KG Ld Kq La JW KL Lb JK Ju Jf JN KS Ko Km Jt KR JL Kp Kb JP Lc Env.get Q9 Ad.at Ad.app Ad.get X2 N1 Aa.cells Aa.one J3 D6 Kt KI Ks Kj KD JX KE JZ JV KO Kh JC Kk Fo F0 M3 J5 I5 T4 Ag KY Jo Le Kw N3 U8 K3 M5 G4 E7 Q1 H2 Bs BW Bv Cm CK Ce GO Aa.AI Q5 Z3 Ai.AI K5 R0 M7
theorem ZR(T:Nat→Nat)(N:Nat):∀ (k:Nat) (seen:List Bool),EX T N k seen≤k
 | 0,_=>lR _
 | k+1,seen=>by
  simp only[EX];split
  ·have:=ZR T N k seen; omega
  ·have:=ZR T N k (Plain.mark T (N+1) seen (N - (k+1))); omega
set_option maxRecDepth 100000 in
set_option maxHeartbeats 4000000 in
theorem cF(F:Nat)(ls:List Lt)(E:List Db)(hg:Di ls E)(hT:∀ d,d<2*ls.length+2*(Z2 ls).length→X7 ls (Z2 ls) d<2*ls.length+2*(Z2 ls).length)(hE:E.length≤1000) :
 AV Tryz.prog 138 [.ptr 1 0 0] (dF F ls (ls.map Ab) E) fun r m=>r=.bool (decide (I8 (X7 ls (Z2 ls)) (2*ls.length+2*(Z2 ls).length)=(Z2 ls).length+E.length+2))∧m=dF F ls (ls.map Ab) E:=by
 refine Lv hm Tryz.func138 qE rfl rfl fun K hK=>?_
 have hR:=E3 ls;have h:=hg.small;have h105:=fun d hd=>Ub F ls E hg d hd
 unfold dF dM GR at *;have Ak:∀ q,Z3 q (ls.map Ab)=ls.map Ab:=fun q=>Y1 q _ (X5 ls)
 generalize ls.map Ab=rows at *;have hlen:=hR.len;have hm0:=hg.some;have hml:(Z2 ls).length≤ls.length:=by rw[O5]; exact B3
 generalize hBe:Bf (W4 ls.length ls.length (U2 ls) false)=B at *;generalize hCe:Y3 (W4 ls.length ls.length (R6 ls) 0)=C at *;generalize hAe:Y3 (Z2 ls)=A at *;have hrA:∀ q,Z3 q A=A:=fun q=>by rw[← hAe]; exact Z7 q _
 have hrB:∀ q,Z3 q B=B:=fun q=>by rw[← hBe]; exact X4 q _
 have hrC:∀ q,Z3 q C=C:=fun q=>by rw[← hCe]; exact Z7 q _
 generalize (Z2 ls).length=m at *;generalize X7 ls (Z2 ls)=T at *;obtain⟨N0,hN0⟩:∃ N0,2*ls.length+2*m=N0:=⟨_,rfl⟩
 have hw1:=Y7 (2*(ls.length:Int));have hw2:=Y7 (2*(m:Int));have hw3:=M2 (2*(ls.length:Int)+2*(m:Int)) (N0:Int);have hN1:N0≤1048576:=by omega
 have hNr:N0≤4000:=by omega
 rw[hN0]at hT h105;simp only[hN0]at hK;obtain⟨S0,hS0⟩:∃ S0,List.replicate N0 false=S0:=⟨_,rfl⟩
 have e1:List.replicate N0 [Aa.bool false]=Bf S0:=by rw[← hS0,Ss]
 have hS0l:S0.length=N0:=by rw[← hS0]; simp
 simp[T5,hlen,hw1,hw2,hw3,hN1,e1];refine W5 (α:=Nat×Nat×List Bool) (fun a=>[(25,.int .i64 a.1),(24,.int .i64 N0),(5,.int .i64 a.2.1),(4,.sl 7 0 N0),(0,.ptr 1 0 0)])
  (fun a=>⟨[(1,.cells 7 [[.int .i64 (F:Int),.Aj rows,.sl 3 0 ls.length,.sl 5 0 m,.sl 4 0 ls.length,.map 6,.sl 2 0 (F+1)]]),(2,.cells 1 (Y3 (U5 F ls))),(3,.cells 1 B),(4,.cells 1 C),(5,.cells 1 A),(6,.map (Eg 0 E) E.length),(7,.cells 1 (Bf a.2.2))],8⟩)
  (fun a=>N0 - a.1) (fun a=>a.1≤N0∧a.2.2.length=N0∧a.2.1+EX T N0 (N0 - a.1) a.2.2=I8 T N0) (0,0,S0) [(7,24)] (by simp[Ak,hrA,hrB,hrC,Y0,Z7,X4]) ⟨by simp,hS0l,by simp[I8,hS0]⟩ ?_
 rintro⟨d,c,seen⟩ ⟨hd,hs,hcyc⟩ N hN;simp only at hd hs hcyc hN ⊢;have BT:c≤N0:=by
  have:=ZR T N0 N0 (List.replicate N0 false);unfold I8 at hcyc;omega
 by_cases hlt:d<N0
 ·have hwd:=Y7 ((d:Int)+1);have hwc:=Y7 ((c:Int)+1);obtain⟨b,hb⟩:∃ b,seen[d]? = some b:=⟨_,gE (by omega)⟩
  have hbg:=JE hb;have Dd:(Bf seen).length=N0:=by rw[Bf,lM,hs]
  cases b with
  | true=>
   rw[Zzb hlt hb]at hcyc;generalize hSe:Bf seen=S at *;obtain⟨_,hbg2⟩:=Y8 hbg;simp[hlt,hbg2,Dd,hwd];exact hN (d+1,c,seen) [] _ _ (by simp; omega) ⟨by simp; omega,hs,hcyc⟩ (by simp[Ak,hrA,hrB,hrC,Y0,Z7,X4,hSe.symm])
  | false=>
   rw[Zz0 hlt hb]at hcyc;have hbg':=hbg;generalize hSe:Bf seen=S at *;obtain⟨_,hbg2⟩:=Y8 hbg;simp[hlt,hbg2,Dd,hwc];subst hSe;refine W5 (α:=Nat×List Bool×Nat) (fun a=>[(7,.int .i64 a.1),(5,.int .i64 ((c:Int)+1)),(25,.int .i64 d),(24,.int .i64 N0),(4,.sl 7 0 N0),(0,.ptr 1 0 0)])
    (fun a=>⟨[(1,.cells 7 [[.int .i64 (F:Int),.Aj rows,.sl 3 0 ls.length,.sl 5 0 m,.sl 4 0 ls.length,.map 6,.sl 2 0 (F+1)]]),(2,.cells 1 (Y3 (U5 F ls))),(3,.cells 1 B),(4,.cells 1 C),(5,.cells 1 A),(6,.map (Eg 0 E) E.length),(7,.cells 1 (Bf a.2.1))],8⟩)
    (fun a=>E9 a.2.1) (fun a=>a.1<N0∧a.2.1.length=N0∧E9 a.2.1≤a.2.2∧Plain.mark T (N0+1) seen d=Plain.mark T (a.2.2+1) a.2.1 a.1) (d,seen,N0) [] (by simp[Ak,hrA,hrB,hrC,Y0,Z7,X4]) ⟨hlt,hs,by have:=OG (l:=seen); simp; omega,rfl⟩ ?_
   rintro⟨x,sn,fu⟩ ⟨hx,hsn,hfu,hmark⟩ N2 hN2;simp only at hx hsn hfu hmark hN2 ⊢;obtain⟨b2,Ci⟩:∃ b2,sn[x]? = some b2:=⟨_,gE (by omega)⟩
   have hb2g:=JE Ci;have hb2l:(Bf sn).length=N0:=by rw[Bf,lM,hsn]
   cases b2 with
   | true=>
    rw[Zy8 Ci]at hmark;generalize hSe:Bf sn=S at *;obtain⟨_,hb2g2⟩:=Y8 hb2g;simp[hx,hb2g2,hb2l,hwd];subst hSe;refine hN (d+1,c+1,sn) [] _ _ (by simp; omega) ⟨by simp; omega,hsn,?_⟩ (by simp[Ak,hrA,hrB,hrC,Y0,Z7,X4])
    simp only;rw[hmark]at hcyc;rw[← hcyc,Nat.add_assoc]
   | false=>
    rw[Z2v Ci]at hmark;have hun:=YB Ci;have hset:=RF sn x true;have hTx:=hT x hx;have hsn1:(sn.set x true).length=N0:=by simpa using hsn
    generalize sn.set x true=sn1 at *;generalize hSe:Bf sn=S at *;obtain⟨_,hb2g2⟩:=Y8 hb2g;simp[hx,hb2g2,hb2l,hset];refine Z6 (h105 x hx) [] (by simp) (by simp[Ak,hrA,hrB,hrC,Y0,Z7]) (by simp) ?_
    rintro r sm ⟨rfl,rfl⟩;simp[Ak,hrA,hrB,hrC,Y0,Z7];obtain⟨fu',hfe⟩:∃ fu',fu=fu'+1:=⟨fu - 1,by omega⟩
    subst hfe;exact hN2 (T x,sn1,fu') [] _ _ (by simp; omega) ⟨hTx,hsn1,by simp; omega,hmark⟩ (by simp[Ak,hrA,hrB,hrC,Y0,Z7,X4])
 have he:d=N0:=by omega
 subst he;rw[Nat.sub_self]at hcyc;simp only[EX,Nat.add_zero]at hcyc;have hw4:=Y7 ((m:Int)+(E.length:Int));have hw5:=Y7 ((m:Int)+(E.length:Int)+2);by_cases hc:c=m+E.length+2
 ·have hc':(c:Int)=(m:Int)+(E.length:Int)+2:=by omega
  simp[SO,hw4,hw5,hc'];refine Z4 hK [] ?_;rw[← hcyc];simp[Ak,hrA,hrB,hrC,Y0,Z7,hc]
 ·have hc':¬(c:Int)=(m:Int)+(E.length:Int)+2:=by omega
  simp[SO,hw4,hw5,hc'];refine Z4 hK [] ?_;rw[← hcyc];simp[Ak,hrA,hrB,hrC,Y0,Z7,hc]
end Go.Ac
end
section
namespace Go.Ac
open Go.Plain
theorem Hw{n i:Nat}{fw:Bool}(h:i<n):X6 n i fw<2*n:=by
 unfold X6;have:=Nat.mod_lt (i+n - 1) (show 0<n by omega)
 split<;>omega
theorem ZZ{ls:List Lt}{v:Nat}(hv:v<ls.length):∀ k j,j+k≤ls.length→Q4 ls v k j<ls.length
 | 0,j,_=>hv
 | k+1,j,hj=>by
  simp only[Q4];split
  ·omega
  ·exact ZZ hv k (j+1) (by omega)
theorem Td{x:Nat}{l:List Nat}(h:x∈l):W7 x l<l.length:=(gS.1 (C3 h).1).1
theorem sY{ls:List Lt}{ax:List Nat}{d:Nat}(Gi:∀ v,v∈ax→v<ls.length)(hm:∀ v,v<ls.length→(at' ls v).k≠2→v∈ax)(h0:0<ax.length)(hd:d<2*ls.length+2*ax.length) :
 X7 ls ax d<2*ls.length+2*ax.length:=by
 have hget:∀ j,j<ax.length→ax.getD j 0<ls.length:=fun j hj=>by
  simp_all
 have hmod:=fun x=>Nat.mod_lt x h0
 unfold X7;split
 ·split
  ·exact Nat.lt_of_lt_of_le (Hw (hget _ (hmod _))) (by omega)
  ·exact Nat.lt_of_lt_of_le (Hw (hget _ (by omega))) (by omega)
 ·rename_i hlt;have hv:(if d % 2=0 then (d / 2+1) % ls.length else d / 2)<ls.length:=by
   split
   ·exact Nat.mod_lt _ (by omega)
   ·omega
  simp only;generalize (if d % 2=0 then (d / 2+1) % ls.length else d / 2)=v at hv
  split
  ·exact Nat.lt_of_lt_of_le (Hw (ZZ hv ls.length 0 (by omega))) (by omega)
  ·rename_i hk;have h1:=Td (hm v hv hk);split
   ·omega
   ·have:=hmod (W7 v ax+ax.length - 1);omega
theorem ue{f:Int}{l:Lt}(h:CZ f l=true):l.k=1∨l.k=2:=by
 unfold CZ at h
 grind
theorem On{F:Nat}{ls:List Lt}(h:ls.all (CZ F)=true):Hi F ls:=by
 intro l hl hp;have:=List.all_eq_true.1 h l hl;simp only[Am,beq_iff_eq]at hp;unfold CZ at this
 grind
theorem aB{ls:List Lt}{m:Nat}:∀ (i p:Nat),p<m → ∃ b,(M6 ls m i)[p]? = some b∧(b=true ↔ ∃ j,j<i∧Am (at' ls j)=true∧pos ls (at' ls j)=p)
 | 0,p,hp=>⟨false,by simp[M6,List.getElem?_replicate,hp],by simp⟩
 | i+1,p,hp=>by
  obtain⟨b,hb,hiff⟩:=aB (ls:=ls) (m:=m) i p hp;simp only[M6]
  grind
theorem aG{F:Nat}{ls:List Lt}(hG:Hi F ls):∀ i,i≤ls.length→DF ls (Z0 ls) i=true →
 (∀ j,j<i→Am (at' ls j)=true→1≤(at' ls j).r∧(at' ls j).r≤(Ay (at' ls j).g ls:Nat)) ∧
 (∀ j k,j<k→k<i→Am (at' ls j)=true→Am (at' ls k)=true→pos ls (at' ls j)≠pos ls (at' ls k))
 | 0,_,_=>⟨fun j hj=>by omega,fun j k _ hk=>by omega⟩
 | i+1,hi,h=>by
  simp only[DF,bA,Bool.or_eq_true,Bool.not_eq_true',decide_eq_true_eq]at h;obtain⟨h1,h2⟩:=h;obtain⟨a1,a2⟩:=aG hG i (by omega) h1
  refine⟨fun j hj hp=>?_,fun j k hjk hk Pk hpk=>?_⟩
  ·grind
  ·rcases lG k i with h4|h4
   ·grind
   ·have:k=i:=by omega
    subst this;rcases h2 with h2|h2
    ·grind
    ·have hpos:=WI hG (O0 (by omega)) hpk h2.1.1 h2.1.2
     obtain⟨b,hb,hiff⟩:=aB (ls:=ls) (m:=Z0 ls) k (pos ls (at' ls k)) hpos
     grind
theorem VJ{F:Nat}{ls:List Lt}(hG:Hi F ls)(h:DF ls (Z0 ls) ls.length=true):Vh ls∧Rs ls:=by
 obtain⟨a1,a2⟩:=aG hG ls.length (lR _) h;refine⟨fun l hl hp=>?_,fun i j hi hj hpi Pk hg hr=>?_⟩
 ·obtain⟨j,hj,he⟩:=List.getElem_of_mem hl;have:at' ls j=l:=by rw[at',List.getD,gE hj,he]; rfl
  grind
 ·have hpe:pos ls (at' ls i)=pos ls (at' ls j):=by unfold pos; rw[hg,hr]
  grind
theorem Hq(ls:List Lt):(Z2 ls).Nodup:=by
 rw[Z2,(MD ls ls.length).nodup_iff];exact List.nodup_range.filter _
theorem KT{l:List Nat}(h:l.Nodup){i j x:Nat}(hi:l[i]? = some x)(hj:l[j]? = some x):i=j:=by
 obtain⟨h1,h2⟩:=gS.1 hi;obtain⟨h3,h4⟩:=gS.1 hj;exact(List.getElem_inj h).1 (h2.trans h4.symm)
theorem Zd{F:Nat}{ls:List Lt}(hG:Hi F ls)(h:DF ls (Z0 ls) ls.length=true):∀ i,i≤ls.length → ∀ j,j<i→Am (at' ls j)=true→(L7 ls (Z0 ls) i)[pos ls (at' ls j)]? = some j
 | 0,_,j,hj,_=>by omega
 | i+1,hi,j,hj,hp=>by
  obtain⟨a1,a2⟩:=aG hG ls.length (lR _) h;simp only[L7];by_cases hpi:Am (at' ls i)=true
  ·rw[iP hpi,List.getElem?_set,Xi];obtain⟨r1,r2⟩:=a1 i (by omega) hpi
   have hpos:=WI hG (O0 (show i<ls.length by omega)) hpi r1 r2
   rcases lG j i with h4|h4
   ·rw[iN (fun e=>a2 j i h4 (by omega) hp hpi e.symm)]
    exact Zd hG h i (by omega) j h4 hp
   grind
  ·rw[iN hpi];rcases lG j i with h4|h4
   ·exact Zd hG h i (by omega) j h4 hp
   grind
theorem Z5q{F:Nat}{ls:List Lt}(hG:Hi F ls)(h:DF ls (Z0 ls) ls.length=true):L7 ls (Z0 ls) ls.length=Z2 ls:=by
 obtain⟨hr,ha⟩:=VJ hG h;apply List.ext_getElem?;intro p;rcases lG p (Z0 ls)with hp|hp
 ·obtain⟨j,hj⟩:∃ j,(Z2 ls)[p]? = some j:=⟨_,gE (by rw[O5]; exact hp)⟩
  obtain⟨h1,h2⟩:=AB.1 (List.mem_of_getElem? hj);have h3:=Rv ha hr h1 h2;have h4:=KT (Hq ls) hj h3;subst h4;rw[hj];exact Zd hG h _ (lR _) j h1 h2
 ·rw[List.getElem?_eq_none (by rw[Xi]; exact hp),List.getElem?_eq_none (by rw[O5]; exact hp)]
theorem yc{F:Nat}{ls:List Lt}(hG:Hi F ls)(h:DF ls (Z0 ls) ls.length=true){v:Nat}(hv:v<ls.length)(hk:(at' ls v).k=1):R6 ls v=W7 v (Z2 ls)∧W7 v (Z2 ls)<(Z2 ls).length:=by
 obtain⟨hr,ha⟩:=VJ hG h;have hp:Am (at' ls v)=true:=by simp[Am,hk]
 have h1:=Rv ha hr hv hp;have hm:v∈Z2 ls:=AB.2 ⟨hv,hp⟩;refine⟨?_,Td hm⟩;unfold R6;rw[iP hp];exact KT (Hq ls) h1 (C3 hm).1
end Go.Ac
end
section
namespace Go.Ac
open Go Go.AE Go.Proofs
open Go.Plain
attribute [simp] Jx JO Js KB Jd JF KN Lg JA A6 B4 A2 B9 A0 B5 JU Ku KF Jq KV JY JI KQ Kg Ky JM JS Jh Ji KU KH JQ Kz Kv KM Kx JG KJ Jy JJ Jz Jp KW Jl Je Kf JB JT KG Ld Kq La JW KL Lb JK Ju Jf JN KS Ko Km Jt KR JL Kp Kb JP Lc Env.get Q9 Ad.at Ad.app Ad.get X2 N1 J3 D6 Kt KI Ks Kj KD JX KE JZ JV KO Kh JC Kk Fo F0 M3 J5 I5 T4 Ag KY Jo Le Kw N3 U8 K3 M5 G4 E7 Q1 H2 Bs BW Bv Cm CK Ce GO Aa.AI Q5 Z3 Ai.AI K5 R0 M7 T3 T2 FT.indep I9 GL D7 Ed IS Tk E2 Na T5 Z5f Z4a Z65 yb Zzt Z7r Z19 Z3p z6 Z05 Z03 vL Z0p Z0q Z6s Z7p Z8q Z6e Z0z Z25 Z84 yq Zzk Z0k Z8w Ez NX Z17 zj Z7v Z4m Zzd WO Z23 zp sL Z4v
@[simp] theorem dU(k : IntKind)(n : Int): Aa.cells (.int k n) = some [(.int k n)] := rfl
@[simp] theorem kT(k : IntKind)(n : Int): Aa.one (.int k n) = true := rfl
@[simp] theorem Yec(b : Bool): Aa.cells (.bool b) = some [(.bool b)] := rfl
@[simp] theorem Yeo(b : Bool): Aa.one (.bool b) = true := rfl
@[simp] theorem dW(a b c : Nat): Aa.cells (.ptr a b c) = some [(.ptr a b c)] := rfl
@[simp] theorem kV(a b c : Nat): Aa.one (.ptr a b c) = true := rfl
@[simp] theorem Ydt(l : List (List Aa))(a b : Nat): Aa.cells (.AW l a b) = some [(.AW l a b)] := rfl
@[simp] theorem Yd9(l : List (List Aa))(a b : Nat): Aa.one (.AW l a b) = true := rfl
@[simp] theorem qc(a b c : Nat): Aa.cells (.sl a b c) = some [(.sl a b c)] := rfl
@[simp] theorem qq(a b c : Nat): Aa.one (.sl a b c) = true := rfl
@[simp] theorem dS(l : List (List Aa)): Aa.cells (.Aj l) = some [(.Aj l)] := rfl
@[simp] theorem kS(l : List (List Aa)): Aa.one (.Aj l) = true := rfl
@[simp] theorem dV(b : Nat): Aa.cells (.map b) = some [(.map b)] := rfl
@[simp] theorem kU(b : Nat): Aa.one (.map b) = true := rfl
@[simp] theorem Ye6(f : Fn)(a b : List Aa): Aa.cells (.func f a b) = some [(.func f a b)] := rfl
@[simp] theorem Yef(f : Fn)(a b : List Aa): Aa.one (.func f a b) = true := rfl
@[simp] theorem dX(l : List UInt8): Aa.cells (.str l) = some [(.str l)] := rfl
@[simp] theorem kW(l : List UInt8): Aa.one (.str l) = true := rfl
@[simp] theorem Ye4 : Aa.cells .Ae = some [.Ae] := rfl
@[simp] theorem Yeb : Aa.one .Ae = true := rfl
@[simp] theorem Yek : Aa.cells .nilPtr = some [.nilPtr] := rfl
@[simp] theorem Yem : Aa.one .nilPtr = true := rfl
@[simp] theorem Yei : Aa.cells .Av = some [.Av] := rfl
@[simp] theorem Yew : Aa.one .Av = true := rfl
@[simp] theorem Yel : Aa.cells .nilFunc = some [.nilFunc] := rfl
@[simp] theorem Ye2 : Aa.one .nilFunc = true := rfl
@[simp] theorem dQ(l : List Aa) : Aa.cells (.agg l) = some l := rfl
def su(l:List (List Nat)):List (List Aa):=l.map fun w=>[.Aj (Y3 w)]
@[simp] theorem Yds(q : Nat → Nat)(a b : List (List Aa)) : Z3 q (a ++ b) = Z3 q a ++ Z3 q b := by simp [H4]
theorem SL{get:Nat→Option Ai}{b k n:Nat}{rows:List (List Aa)}(h:get b=some (.cells k rows))(hs:∀ row,row∈rows → ∀ x,x∈row→X9 get n x=some x):X9 get (n+1) (.sl b 0 rows.length)=some (.Aj rows):=by
 have h1:Nat.ble (0+rows.length) rows.length=true:=by rw[Nat.zero_add]; exact Nat.ble_self_eq_true _
 rw[X9];simp only[h,h1,cond_true,List.drop_zero,List.take_length,ZL hs]
theorem rH{get:Nat→Option Ai}{n:Nat}{rows:List (List Aa)}(hs:∀ row,row∈rows → ∀ x,x∈row→X9 get n x=some x):X9 get (n+1) (.Aj rows)=some (.Aj rows):=by
 rw[X9];simp only[ZL hs]
theorem mT{get:Nat→Option Ai}{n:Nat}(l:List Nat):∀ row,row∈Y3 l → ∀ x,x∈row→X9 get (n+1) x=some x:=by
 intro row hr x hx;obtain⟨i,_,rfl⟩:=mM.1 hr;rw[List.mem_singleton]at hx;subst hx;rfl
end Go.Ac
end
section
namespace Go.AE
open Go
theorem bP{ks:List Nat}{b:Nat}:∀ {l:List (Nat×Ai)},X2 (R0 ks l) b=if b∈ks then none else X2 l b
 | []=>by simp[R0,X2]
 | (c,y) :: r=>by
  simp only[R0];by_cases hc:c∈ks
  ·rw[BF.2 hc,cond_true,bP];by_cases hb:b∈ks
   ·rw[iP hb,iP hb]
   ·rw[iN hb,iN hb];have:c≠b:=fun e=>hb (e ▸ hc)
    simp[X2,this,Ne.symm this]
  ·have hm:U8 c ks=false:=by
    cases h:U8 c ks with
    | false=>rfl
    | true=>exact absurd (BF.1 h) hc
   rw[hm,cond_false];simp only[X2];by_cases he:b=c
   ·subst he;simp[hc]
   ·have he':c≠b:=fun e=>he e.symm
    simp[he,he',bP]
theorem Z9n{P:Program}{g:FuncId}{Cu args:List Aa}{v0:Aa}(h:Al P g Cu v0){m:Ad}(S:List Nat){n:Nat}(ha:U1 (X9 (fun c=>bif K2 c S then m.get c else none) n) args=some Cu){id:Nat}{K:Aa→Ad→Prop}(hK:K v0 ⟨R0 S m.bl,m.next⟩):SC P g args m id K:=by
 have hm:(⟨R0 S m.bl,m.next⟩:Ad).mem=m.mem.less S:=by
  refine Mem.ext' (fun c=>?_) rfl
  show X2 (R0 S m.bl) c=if c∈S then none else X2 m.bl c
  exact bP
 exact(wV (e:=⟨g,Cu,v0⟩) h (m:=m.mem) (L:=S) ha [id]).mono fun r m' hr=>by
  obtain⟨rfl,rfl⟩:=hr;exact⟨_,hm.symm,hK⟩
end Go.AE
end
