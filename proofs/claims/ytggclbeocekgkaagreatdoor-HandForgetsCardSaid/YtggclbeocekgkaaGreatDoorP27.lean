/- Part 27 of the proof: Rf, Ph. -/
import Derived.Test.YtggclbeocekgkaaGreatDoorP25
import Derived.Test.YtggclbeocekgkaaGreatDoorP26
set_option linter.all false
section
namespace Go.Ac
open Go Go.AE Go.Proofs
open Go.Plain
attribute [local simp] Jx JO Js KB Jd JF KN Lg JA A6 B4 A2 B9 A0 B5 JU Ku KF Jq KV JY JI KQ Kg Ky JM JS Jh Ji KU KH JQ Kz Kv KM Kx JG KJ Jy JJ Jz Jp KW Jl Je Kf JB JT KG Ld Kq La JW KL Lb JK Ju Jf JN KS Ko Km Jt KR JL Kp Kb JP Lc Env.get Q9 Ad.at Ad.app Ad.get X2 N1 Aa.cells Aa.one J3 D6 Kt KI Ks Kj KD JX KE JZ JV KO Kh JC Kk Fo F0 M3 J5 I5 T4 Ag KY Jo Le Kw N3 U8 K3 M5 G4 E7 Q1 H2 Bs BW Bv Cm CK Ce GO Aa.AI Q5 Z3 Ai.AI K5 R0 M7
def Og(F:Nat)(ls:List Lt):Prop:=
 ls.all (CZ F)=true∧(at' ls 0).k=1∧Z0 ls % 2=0∧DF ls (Z0 ls) ls.length=true∧FJ ls∧I8 (X7 ls (Z2 ls)) (2*ls.length+2*(Z2 ls).length)=(Z2 ls).length+(Ba ls ls.length).length+2
def GF(F:Nat)(ls:List Lt)(rows:List (List Aa)):Nat→List (Nat×Ai)
 | 0|1|2=>[(1,Xv F rows)]
 | 3=>[(1,Xw F ls.length (Z2 ls).length rows),(2,.cells 1 (Y3 (U5 F ls))),(3,.cells 1 (Bf (W4 ls.length ls.length (U2 ls) false))),(4,.cells 1 (Y3 (W4 ls.length ls.length (R6 ls) 0))),(5,.cells 1 (Y3 (Z2 ls)))]
 | _=>[(1,GR F ls.length (Z2 ls).length rows),(2,.cells 1 (Y3 (U5 F ls))),(3,.cells 1 (Bf (W4 ls.length ls.length (U2 ls) false))),(4,.cells 1 (Y3 (W4 ls.length ls.length (R6 ls) 0))),(5,.cells 1 (Y3 (Z2 ls))),(6,.map (Eg 0 (Ba ls ls.length)) (Ba ls ls.length).length)]
abbrev dY:Ai:=.cells 1 [[.func (.func 134) [.ptr 1 0 0] []],[.func (.func 135) [.ptr 1 0 0] []],[.func (.func 136) [.ptr 1 0 0] []],[.func (.func 137) [.ptr 1 0 0] []],[.func (.func 138) [.ptr 1 0 0] []]]
set_option maxRecDepth 100000 in
set_option maxHeartbeats 4000000 in
theorem bU(F:Nat)(ls:List Lt)(h:ls.length≤1000)(hF:F≤1000) :
 AV Tryz.prog 88 [.ptr 1 0 0] (NO F (ls.map Ab)) fun r m=>(ls=[]∧r=.bool true∧m=NO F (ls.map Ab))∨(ls≠[]∧Og F ls∧r=.bool true∧m=dF F ls (ls.map Ab) (Ba ls ls.length))∨(ls≠[] ∧ ¬Og F ls∧r=.bool false∧m=⟨[],2⟩):=by
 refine W9 hm Tryz.func88 nV rfl rfl fun K hK=>?_
 have hR:=E3 ls;have h131:=cA F ls h;have h132:=cB F ls h;have h133:=cC F ls h hF;have h134:=fun A B C D=>cD F ls (Z2 ls).length h A B C D
 have h135:=cF F ls (Ba ls ls.length);have Ak:∀ q,Z3 q (ls.map Ab)=ls.map Ab:=fun q=>Y1 q _ (X5 ls)
 generalize ls.map Ab=rows at *;have hlen:=hR.len;by_cases h0:ls=[]
 ·have hr0:rows=[]:=List.length_eq_zero_iff.1 (by rw[hlen,h0]; rfl)
  have hK0:=hK _ _ (.inl ⟨h0,rfl,rfl⟩);subst hr0;simp;exact Z4 hK0 [] (by simp)
 have hpos:0<ls.length:=List.length_pos_iff.2 h0;have hn0:¬rows=[]:=fun e=>by rw[e]at hlen; simp at hlen; omega
 have hyes:Og F ls → ∀ l m,Bs 2 l [(0,.bool true)] (dF F ls rows (Ba ls ls.length)) [(0,.bool true)] m→L8 2 K (.bool true) m:=
  fun hr l m hs=>Z4 (hK _ _ (.inr (.inl ⟨h0,hr,rfl,rfl⟩))) l hs
 have hno:¬Og F ls → ∀ l m,Bs 2 l [(0,.bool false)] ⟨[],2⟩ [(0,.bool false)] m→L8 2 K (.bool false) m:=
  fun hr l m hs=>Z4 (hK _ _ (.inr (.inr ⟨h0,hr,rfl,rfl⟩))) l hs
 clear hK;simp[hlen,h0];refine W5 (α:=Nat) (fun i=>[(24,.int .i64 i),(23,.int .i64 5),(22,.sl 7 0 5),(0,.ptr 1 0 0)]) (fun i=>⟨GF F ls rows i++[(7,dY)],8⟩)
  (fun i=>5 - i) (fun i=>i≤5∧(0<i→ls.all (CZ F)=true)∧(1<i→(at' ls 0).k=1∧Z0 ls % 2=0)∧(2<i→DF ls (Z0 ls) ls.length=true)∧(3<i→FJ ls) ∧
    (4<i→I8 (X7 ls (Z2 ls)) (2*ls.length+2*(Z2 ls).length)=(Z2 ls).length+(Ba ls ls.length).length+2)) 0 [(7,20)] (by simp[GF,Ak,Y0,Z7,X4]) (by simp) ?_
 rintro i ⟨hi,g1,g2,g3,g4,g5⟩ N hN
 try simp only at hi g1 g2 g3 g4 g5 hN ⊢
 have w1:IntKind.i64.wrap 1=1:=by decide
 have w2:IntKind.i64.wrap 2=2:=by decide
 have w3:IntKind.i64.wrap 3=3:=by decide
 have w4:IntKind.i64.wrap 4=4:=by decide
 have w5:IntKind.i64.wrap 5=5:=by decide
 rcases (show i=0∨i=1∨i=2∨i=3∨i=4∨i=5 by omega)with rfl|rfl|rfl|rfl|rfl|rfl
 ·simp[GF];refine Z6 h131 [] (by simp) (by simp[Ak,Y0,Z7,X4]) (by simp) ?_
  rintro r sm ⟨rfl,rfl⟩;cases hb:ls.all (CZ F)with
  | true=>
   simp[Ak,Y0,Z7,X4,w1,w2,w3,w4,w5];exact hN 1 [] _ _ (by omega) ⟨by omega,fun _=>hb,by omega,by omega,by omega,by omega⟩ (by simp[GF,Ak,Y0,Z7,X4])
  | false=>
   simp[Ak,Y0,Z7,X4,w1,w2,w3,w4,w5];exact hno (fun hh=>by rw[hh.1]at hb; cases hb) [] _ (by simp)
 ·simp[GF];refine Z6 (h132 hpos) [] (by simp) (by simp[Ak,Y0,Z7,X4]) (by simp) ?_
  rintro r sm ⟨rfl,rfl⟩;by_cases hb:(at' ls 0).k=1∧Z0 ls % 2=0
  ·simp[Ak,w2,hb];exact hN 2 [] _ _ (by omega) ⟨by omega,fun _=>g1 (by omega),fun _=>hb,by omega,by omega,by omega⟩ (by simp[GF,Ak,Y0,Z7,X4])
  ·have Ci:(decide ((at' ls 0).k=1)&&decide (Z0 ls % 2=0))=false:=by
    rw[← Bool.not_eq_true]; simpa using hb
   rw[Ci];simp[Ak,Y0,Z7,X4,w1,w2,w3,w4,w5];exact hno (fun hh=>hb ⟨hh.2.1,hh.2.2.1⟩) [] _ (by simp)
 ·have hG:=On (g1 (by omega))
  simp[GF];refine Z6 (h133 hG) [] (by simp) (by simp[Ak,Y0,Z7,X4]) (by simp) ?_
  rintro r sm (⟨hb,rfl,rfl⟩|⟨hb,rfl,rfl⟩)
  ·have Gi:=Z5q hG hb;have hal:=O5 ls;unfold dR;rw[Gi,← hal];simp[Ak,Y0,Z7,X4,w1,w2,w3,w4,w5];exact hN 3 [(2,15),(3,16),(4,17),(5,18)] _ _ (by omega) ⟨by omega,fun _=>g1 (by omega),fun _=>g2 (by omega),fun _=>hb,by omega,by omega⟩ (by simp[GF,Ak,Z7,X4])
  ·simp[Ak,Y0,Z7,X4,w1,w2,w3,w4,w5];exact hno (fun hh=>by rw[hh.2.2.2.1]at hb; cases hb) [] _ (by simp)
 ·simp[GF];refine Z6 (h134 (Y3 (U5 F ls)) (Bf (W4 ls.length ls.length (U2 ls) false)) (Y3 (W4 ls.length ls.length (R6 ls) 0)) (Y3 (Z2 ls)) (fun q=>Z7 q _) (fun q=>X4 q _) (fun q=>Z7 q _) (fun q=>Z7 q _)) [] (by simp) (by simp[Ak,Z7,X4]) (by simp) ?_
  rintro r sm (⟨hb,rfl,rfl⟩|⟨hb,rfl,rfl⟩)
  ·simp[Ak,Y0,Z7,X4,w4];exact hN 4 [(6,15)] _ _ (by omega) ⟨by omega,fun _=>g1 (by omega),fun _=>g2 (by omega),fun _=>g3 (by omega),fun _=>hb,by omega⟩ (by simp[GF,Ak,Y0,Z7,X4])
  ·simp[Ak,Y0,Z7,X4,w1,w2,w3,w4,w5];exact hno (fun hh=>hb hh.2.2.2.2.1) [] _ (by simp)
 ·have hG:=On (g1 (by omega))
  have hfl:=pK h (g1 (by omega)) hpos (g2 (by omega)).1 (g3 (by omega)) (g4 (by omega))
  have Gi:∀ v,v∈Z2 ls→v<ls.length:=fun v hv=>(AB.1 hv).1
  have hmm:∀ v,v<ls.length→(at' ls v).k≠2→v∈Z2 ls:=fun v hv h2=>AB.2 ⟨hv,by simp[Am,(hfl.kind v hv).resolve_right h2]⟩
  have hT:∀ d,d<2*ls.length+2*(Z2 ls).length→X7 ls (Z2 ls) d<2*ls.length+2*(Z2 ls).length:=fun d hd=>sY Gi hmm hfl.some hd
  have hEl:(Ba ls ls.length).length≤1000:=by have:=yO ls ls.length; omega
  simp[GF];refine Z6 (h135 hfl hT hEl) [] (by simp) (by simp[Ak,Y0,Z7,X4]) (by simp) ?_
  rintro r sm ⟨rfl,rfl⟩;by_cases hb:I8 (X7 ls (Z2 ls)) (2*ls.length+2*(Z2 ls).length)=(Z2 ls).length+(Ba ls ls.length).length+2
  ·simp[Ak,Y0,Z7,X4,w5,hb];exact hN 5 [] _ _ (by omega) ⟨by omega,fun _=>g1 (by omega),fun _=>g2 (by omega),fun _=>g3 (by omega),fun _=>g4 (by omega),fun _=>hb⟩ (by simp[GF,Ak,Y0,Z7,X4])
  ·simp[Ak,Y0,Z7,X4,hb];exact hno (fun hh=>hb hh.2.2.2.2.2) [] _ (by simp)
 ·simp[GF];exact hyes ⟨g1 (by omega),(g2 (by omega)).1,(g2 (by omega)).2,g3 (by omega),g4 (by omega),g5 (by omega)⟩ [] _ (by simp[Ak,Y0,Z7,X4])
end Go.Ac
end
section
namespace Go.Ac
open Go.Plain
theorem Rt(p:Lt→Bool)(ls:List Lt):∃ L:List Nat,L.Nodup∧Z9 p ls=L.length ∧ ∀ x,x∈L↔(x<ls.length∧p (at' ls x)=true):=
 ⟨(List.range ls.length).filter fun j=>p (at' ls j),List.nodup_range.filter _,(WG ls p).symm,fun x=>by simp⟩
theorem nF{p:Lt→Bool}{ls:List Lt}{j:Nat}(hj:j<ls.length)(hp:p (at' ls j)=true)(hu:∀ x,x<ls.length→p (at' ls x)=true→x=j):Z9 p ls=1:=by
 obtain⟨L,hn,hl,hm⟩:=Rt p ls;rw[hl];have hjm:=(hm j).2 ⟨hj,hp⟩
 match L,hn,hm,hjm with
 | [],_,_,h=>simp at h
 | [_],_,_,_=>rfl
 | y :: z :: t,hn,hm,_=>
  have hy:=(hm y).1 (by simp)
  have hz:=(hm z).1 (by simp)
  grind
theorem Z37{p:Lt→Bool}{ls:List Lt}(h:Z9 p ls=1){j k:Nat}(hj:j<ls.length)(Pk:p (at' ls j)=true)(hk:k<ls.length)(hpk:p (at' ls k)=true):j=k:=by
 obtain⟨L,hn,hl,hm⟩:=Rt p ls;rw[hl]at h;have hjm:=(hm j).2 ⟨hj,Pk⟩;have hkm:=(hm k).2 ⟨hk,hpk⟩
 match L,h,hjm,hkm with
 | [y],_,hjm,hkm=>simp at hjm hkm; omega
theorem y6{p:Lt→Bool}{ls:List Lt}(h:0<Z9 p ls):∃ j,j<ls.length∧p (at' ls j)=true:=by
 obtain⟨L,hn,hl,hm⟩:=Rt p ls;rw[hl]at h
 match L,h,hm with
 | y :: t,_,hm=>exact ⟨y,(hm y).1 (by simp)⟩
theorem Z1n{p:Lt→Bool}{ls:List Lt}{a b:Nat}(ha:a<ls.length)(hpa:p (at' ls a)=true)(hb:b<ls.length)(hpb:p (at' ls b)=true)(hab:a≠b)(hu:∀ x,x<ls.length→p (at' ls x)=true→x=a∨x=b):Z9 p ls=2:=by
 obtain⟨L,hn,hl,hm⟩:=Rt p ls;rw[hl];have hma:=(hm a).2 ⟨ha,hpa⟩;have hmb:=(hm b).2 ⟨hb,hpb⟩
 match L,hn,hm,hma,hmb with
 | [],_,_,h,_=>simp at h
 | [y],_,_,h1,h2=>simp at h1 h2; omega
 | [_,_],_,_,_,_=>rfl
 | x :: y :: z :: t,hn,hm,_,_=>
  have hx:=(hm x).1 (by simp)
  have hy:=(hm y).1 (by simp)
  have hz:=(hm z).1 (by simp)
  grind
theorem Z2k{p:Lt→Bool}{ls:List Lt}(h:Z9 p ls=2){a b x:Nat}(ha:a<ls.length)(hpa:p (at' ls a)=true)(hb:b<ls.length)(hpb:p (at' ls b)=true)(hab:a≠b)(hx:x<ls.length)(hpx:p (at' ls x)=true):x=a∨x=b:=by
 obtain⟨L,hn,hl,hm⟩:=Rt p ls;rw[hl]at h;have hma:=(hm a).2 ⟨ha,hpa⟩;have hmb:=(hm b).2 ⟨hb,hpb⟩;have Dl:=(hm x).2 ⟨hx,hpx⟩
 match L,h,hma,hmb,Dl with
 | [y,z],_,h1,h2,h3=>simp at h1 h2 h3; omega
theorem v8{p:Lt→Bool}{ls:List Lt}(h:Z9 p ls=2){a:Nat}(ha:a<ls.length)(hpa:p (at' ls a)=true):∃ b,b<ls.length∧p (at' ls b)=true∧a≠b:=by
 obtain⟨L,hn,hl,hm⟩:=Rt p ls;rw[hl]at h;have hma:=(hm a).2 ⟨ha,hpa⟩
 match L,h,hn,hm,hma with
 | [y,z],_,hn,hm,h1=>
  have hy:=(hm y).1 (by simp)
  have hz:=(hm z).1 (by simp)
  grind
theorem Z5w{F:Nat}{ls:List Lt}(hG:Hi F ls){a b:Lt}(ha:a∈ls)(hb:b∈ls)(hpa:Am a=true)(hpb:Am b=true)(ha1:1≤a.r)(ha2:a.r≤(Ay a.g ls:Nat))(DN:1≤b.r)(Ci:b.r≤(Ay b.g ls:Nat))(h:pos ls a=pos ls b):a.g=b.g∧a.r=b.r:=by
 obtain⟨G,hg⟩:∃ G:Nat,a.g=(G:Nat):=⟨a.g.toNat,by have:=hG a ha hpa; omega⟩
 obtain⟨H,hh⟩:∃ H:Nat,b.g=(H:Nat):=⟨b.g.toNat,by have:=hG b hb hpb; omega⟩
 rw[VF hg,VF hh]at h;rw[hg]at ha2;rw[hh]at Ci;have mono:∀ x y,x≤y→tot ls x≤tot ls y:=fun x y hxy=>by
  induction hxy with
  | refl=>exact lR _
  | step _ ih=>rw[Th]; omega
 have h1:=Th ls G;have h2:=Th ls H;rcases Nat.lt_trichotomy G H with h3|h3|h3
 ·have:=mono (G+1) H h3; omega
 ·subst h3; omega
 grind
theorem mJ(ls:List Lt):∀ i q e,(Ba ls i)[q]? = some e→CM e.1 (Ba ls i)=some (q,e.2)
 | 0,q,e,h=>by simp[Ba]at h
 | i+1,q,e,h=>by
  have ih:=mJ ls i;simp only[Ba]at h ⊢;split at h
  ·rename_i hx;rw[iP hx];unfold Ee at h ⊢;cases hf:CM (at' ls i).i (Ba ls i)with
   | some pv=>
    obtain⟨p,v⟩:=pv;rw[hf]at h;simp only at h ⊢;rw[List.getElem?_set]at h;split at h
    ·rename_i hpq;split at h
     ·cases h;subst hpq;rw[Wm hf,iP rfl]
     ·cases h
    ·rename_i hpq;have h1:=ih q e h;rw[Wm hf,iN (fun e1=>by rw[e1,hf]at h1; cases h1; exact hpq rfl)]
     exact h1
   | none=>
    rw[hf]at h;simp only at h ⊢;rw[YS hf];rw[List.getElem?_append]at h;split at h
    ·have h1:=ih q e h;rw[iN (fun e1=>by rw[e1,hf]at h1; cases h1)]
     exact h1
    ·rename_i hge;obtain⟨h1,h2⟩:=gS.1 h;simp at h1 h2;subst h2;rw[iP rfl];have:q=(Ba ls i).length:=by omega
     rw[this]
  grind
theorem Z9x{ls:List Lt}{l:Lt}(h:l∈ls):∃ j,j<ls.length∧at' ls j=l:=by
 obtain⟨j,hj,he⟩:=List.getElem_of_mem h;exact⟨j,hj,by rw[at',List.getD,gE hj,he]; rfl⟩
theorem rF{F:Nat}{ls:List Lt}(h:ls.all (FC F ls)=true):ls.all (CZ F)=true∧DF ls (Z0 ls) ls.length=true∧FJ ls:=by
 have hl:∀ l,l∈ls→FC F ls l=true:=List.all_eq_true.1 h
 have hC:ls.all (CZ F)=true:=List.all_eq_true.2 fun l hm=>by
  have:=hl l hm;unfold FC at this;unfold CZ
  grind
 have hG:=On hC;have hP:∀ v,v<ls.length→Am (at' ls v)=true→1≤(at' ls v).r∧(at' ls v).r≤(Ay (at' ls v).g ls:Nat)∧same (at' ls v) ls=1:=fun v hv hp=>by
  have:=hl _ (O0 hv);simp only[Am,beq_iff_eq]at hp;unfold FC at this
  grind
 have hX:∀ v,v<ls.length→Bg (at' ls v)=true→1≤(at' ls v).i∧(at' ls v).i≤(X0 ls / 2:Nat)∧MH (at' ls v) ls=1∧Ou (at' ls v).i ls=2:=fun v hv hp=>by
  have:=hl _ (O0 hv);simp only[Bg,beq_iff_eq]at hp;unfold FC at this
  grind
 have hrk:∀ i,i≤ls.length→DF ls (Z0 ls) i=true:=by
  intro i
  induction i with
  | zero=>exact fun _=>rfl
  | succ i ih=>
   intro hi;have h1:=ih (by omega)
   simp only[DF,bA,Bool.or_eq_true,Bool.not_eq_true',decide_eq_true_eq];refine⟨h1,?_⟩;cases hp:Am (at' ls i)with
   | false=>exact .inl rfl
   | true=>
    right
    obtain⟨r1,r2,r3⟩:=hP i (by omega) hp
    refine⟨⟨r1,r2⟩,?_⟩;have hin:=O0 (show i<ls.length by omega)
    obtain⟨b,hb,hiff⟩:=aB (ls:=ls) (m:=Z0 ls) i _ (WI hG hin hp r1 r2);rw[List.getD,hb];simp only[Option.getD_some];cases b with
    | false=>rfl
    | true=>
     obtain⟨j,hj,Pk,he⟩:=hiff.1 rfl;obtain⟨s1,s2,_⟩:=hP j (by omega) Pk
     obtain⟨e1,e2⟩:=Z5w hG (O0 (by omega)) hin Pk hp s1 s2 r1 r2 he
     have hk:(at' ls j).k=(at' ls i).k:=by simp only[Am,beq_iff_eq]at hp Pk; omega
     have:=Z37 r3 (j:=j) (k:=i) (by omega) (by simp[e1,e2,hk]) (by omega) (by simp)
     omega
 have pairW:∀ v,v<ls.length→Bg (at' ls v)=true → ∃ x,x<ls.length∧Bg (at' ls x)=true∧(at' ls x).i=(at' ls v).i∧(at' ls x).s=(at' ls v).s∧(at' ls x).o≠(at' ls v).o:=fun v hv hx=>by
  obtain⟨_,_,h3,_⟩:=hX v hv hx;obtain⟨x,hxl,hxp⟩:=y6 (p:=fun o=>o.k == (at' ls v).k&&o.i == (at' ls v).i&&o.s == (at' ls v).s&&o.o != (at' ls v).o) (ls:=ls) (by unfold MH at h3; omega)
  simp only[bA,beq_iff_eq,bne_iff_ne,ne_eq]at hxp;refine⟨x,hxl,?_,hxp.1.1.2,hxp.1.2,hxp.2⟩;simp only[Bg,beq_iff_eq]at hx ⊢;omega
 have Cx:∀ i,i≤ls.length→DZ ls (X0 ls) i=true:=by
  intro i
  induction i with
  | zero=>exact fun _=>rfl
  | succ i ih=>
   intro hi;have h1:=ih (by omega)
   simp only[DZ,bA,Bool.or_eq_true,Bool.not_eq_true',decide_eq_true_eq];refine⟨h1,?_⟩;cases hx:Bg (at' ls i)with
   | false=>exact .inl rfl
   | true=>
    right
    obtain⟨r1,r2,r3,r4⟩:=hX i (by omega) hx
    refine⟨⟨r1,r2⟩,?_⟩;obtain⟨b,c,d,e⟩:=Wz i (by omega) h1
    unfold EZ;cases hf:CM (at' ls i).i (Ba ls i)with
    | none=>rfl
    | some pv=>
     obtain⟨q,v⟩:=pv;simp only[bA,decide_eq_true_eq];obtain⟨x,hxl,hxx,hxi,hxs,hxo⟩:=pairW i (by omega) hx
     have key:∀ j,j<i→Bg (at' ls j)=true→(at' ls j).i=(at' ls i).i→x=j:=fun j hj hjx hji=>by
      have:=Z2k r4 (a:=i) (b:=j) (x:=x) (by omega) (by simp[hx]) (by omega) (by simp[hjx,hji]) (by omega) hxl (by simp[hxx,hxi])
      rcases this with h7|h7
      ·subst h7; exact absurd rfl hxo
      ·exact h7
     have hneg:T9 (at' ls i).o v<0:=by
      rcases Int.lt_or_le (T9 (at' ls i).o v) 0 with h7|h7
      ·exact h7
      ·obtain⟨j,j1,j2,j3,j4,j5⟩:=b _ _ _ hf _ h7;have:=key j j1 j3 j4;subst this;exact absurd j5 hxo
     refine⟨hneg,?_⟩;obtain⟨v1,v2,v3⟩:=Oh ls i _ (List.mem_of_getElem? (Rk hf));simp only at v1 v2 v3;have hpos:0≤T9 (!(at' ls i).o) v:=by
      cases ho:(at' ls i).o<;>rw[ho]at hneg<;>simp only[T9,Bool.not_true,Bool.not_false,bF,if_true,if_false]at hneg ⊢ <;> omega
     obtain⟨j,j1,j2,j3,j4,j5⟩:=b _ _ _ hf _ hpos;have:=key j j1 j3 j4
     simp_all
 have hcf:=Cx ls.length (lR _);obtain⟨b,c,d,e⟩:=Wz ls.length (lR _) hcf;rw[List.take_length]at e;have hfull:∀ en,en∈Ba ls ls.length→Gh en.2=2:=by
  intro en hen;obtain⟨q,hq,hqe⟩:=List.getElem_of_mem hen;have hfe:=mJ ls ls.length q en (by grind)
  obtain⟨v1,v2,v3⟩:=Oh ls ls.length _ hen;obtain⟨o,ho⟩:∃ o,0≤T9 o en.2:=by
   by_cases h7:0≤en.2.1
   ·exact⟨false,h7⟩
   ·exact⟨true,by show 0≤en.2.2; omega⟩
  obtain⟨j,j1,j2,j3,j4,j5⟩:=b _ _ _ hfe o ho;obtain⟨_,_,_,r4⟩:=hX j j1 j3;obtain⟨k,k1,k2,k3⟩:=v8 r4 j1 (by simp[j3])
  simp only[bA,beq_iff_eq]at k2;obtain⟨p',w',g1,g2⟩:=c k k1 k2.1;rw[k2.2,j4,hfe]at g1;cases g1;have hko:(at' ls k).o≠o:=fun e1=>by grind
  have h8:0≤T9 (at' ls k).o en.2:=by rw[g2]; omega
  cases o<;>cases h9:(at' ls k).o<;>rw[h9]at hko h8<;>simp only[T9,bF,if_true,if_false]at ho h8<;>first
   | exact absurd rfl hko
   | (unfold Gh; grind)
 have hsum:∀ E:List Db,(∀ en,en∈E→Gh en.2=2)→I6 E=2*E.length:=by
  intro E
  induction E with
  | nil=>exact fun _=>rfl
  | cons x r ih=>
   intro hE;simp only[I6,lC,hE x (List.mem_cons_self ..),ih fun en hen=>hE en (List.mem_cons_of_mem _ hen)]
   omega
 have hs:=hsum _ hfull;have hv:X0 ls=Z9 Bg ls:=rfl;exact⟨hC,hrk _ (lR _),by omega,hcf,by omega⟩
theorem zO{ls:List Lt}{n:Nat}:∀ {i:Nat},DZ ls n i=true → ∀ j,j<i→Bg (at' ls j)=true→1≤(at' ls j).i∧(at' ls j).i≤(n / 2:Nat)
 | 0,_,j,hj,_=>by omega
 | i+1,h,j,hj,hx=>by
  simp only[DZ,bA,Bool.or_eq_true,Bool.not_eq_true',decide_eq_true_eq]at h;rcases lG j i with h4|h4
  ·exact zO h.1 j h4 hx
  grind
theorem s8{F:Nat}{ls:List Lt}(hC:ls.all (CZ F)=true)(hr:DF ls (Z0 ls) ls.length=true)(hc:FJ ls):ls.all (FC F ls)=true:=by
 have hG:=On hC;obtain⟨hrk,hap⟩:=VJ hG hr;refine List.all_eq_true.2 fun l hm=>?_
 obtain⟨v,hv,rfl⟩:=Z9x hm;have h1:=List.all_eq_true.1 hC _ hm;unfold CZ at h1;unfold FC;split at h1
 ·rename_i hk;rw[iP hk];have hp:Am (at' ls v)=true:=by simp[Am,hk]
  obtain⟨r1,r2⟩:=hrk _ hm hp;have hs:same (at' ls v) ls=1:=nF hv (by simp) fun x hx hpx=>by
   simp only[bA,beq_iff_eq]at hpx;exact hap x v hx hv (by simp[Am,hpx.1.1,hk]) hp hpx.1.2 hpx.2
  grind
 ·rename_i hk;rw[iN hk];split at h1
  ·rename_i hk2;rw[iP hk2];have hx:Bg (at' ls v)=true:=by simp[Bg,hk2]
   obtain⟨i1,i2⟩:=zO hc.2.1 v hv hx;obtain⟨p,w,j,g1,g2,g3,g4,g5,g6,g7,g8,g9,g10,g11⟩:=MJ hc hv hx;have ht:Ou (at' ls v).i ls=2:=Z1n hv (by simp[hx]) g4 (by simp[g6,g7]) (fun e=>g5 e.symm) fun x hxl hxp=>by
    simp only[bA,beq_iff_eq]at hxp;exact g10 x hxl hxp.1 hxp.2
   have hj2:(at' ls j).k=2:=by simpa[Bg]using g6
   have hpr:MH (at' ls v) ls=1:=nF g4 (by simp[g7,g8,g9,hj2,hk2]) fun x hxl hxp=>by
    simp only[bA,beq_iff_eq,bne_iff_ne,ne_eq]at hxp;rcases g10 x hxl (by simp[Bg,hxp.1.1.1,hk2]) hxp.1.1.2 with h5|h5
    ·subst h5; exact absurd rfl hxp.2
    ·exact h5
   grind
  ·cases h1
end Go.Ac
end
