/- Part 23 of the proof: Tb, Rn, Ro, Rq, Ph, Rh, Ri, Rr, Rv, Po, Pq, AeRm. -/
import Derived.Test.YtilmpmlkndfbjaaGreatDoorK10
import Derived.Test.YtilmpmlkndfbjaaGreatDoorK11
import Derived.Test.YtilmpmlkndfbjaaGreatDoorK13
import Derived.Test.YtilmpmlkndfbjaaGreatDoorK18
import Derived.Test.YtilmpmlkndfbjaaGreatDoorK19
import Derived.Test.YtilmpmlkndfbjaaGreatDoorK20
import Derived.Test.YtilmpmlkndfbjaaGreatDoorK21
import Derived.Test.YtilmpmlkndfbjaaGreatDoorK22
import Derived.ProofKit
import Derived.Carry
import Derived.Deep.Slices
set_option linter.all false
section
namespace Go.Ab
open Go Go.AE Go.Proofs
open Go.Plain
open Go.ChangeShapes Go.WideShapes Go.RowKit Go.Deep
variable {H:Type} {enc:TypeId×Value→H} {w:World} {base:Nat} {spare:Nat→Bool} {held:Bool}
def Ei(w:World):Ao:=fun B=>match w.heap[B]? with
 | some (.cells c _ _)=>some c
 | _=>none
theorem Z3z{w:World}{B:Nat}{c:Array Value}(h:Ei w B=some c):∃ e fz,w.heap[B]? = some (.cells c e fz):=by
 unfold Ei at h;split at h
 ·rename_i c' e fz hh;cases h;exact⟨e,fz,hh⟩
 ·cases h
theorem Xf(a:Addr)(n:Nat):(a.add n).block=a.block:=by unfold Addr.add; split<;>rfl
theorem pO(a:Addr)(n:Nat):(a.add n).off=a.off+n:=by
 unfold Addr.add;split
 ·rename_i h; rw[h]; rfl
 ·rfl
theorem pP{w:World}{base:Nat}{a:Addr}{n:Nat}{cs:List Value}(h:w.cells? base a n=some cs):∀ j,j<n→w.cell? (a.add j)=cs[j]? ∧ cs.length=n:=by
 unfold World.cells? at h;split at h
 ·intro j hj;exact⟨mapM_some_get h j j (by simp[hj]),by simpa using mapM_some_length h⟩
 ·cases h
theorem rL{w:World}{a:Addr}{v:Value}(h:w.cell? a=some v):∃ c e fz,w.heap[a.block]? = some (.cells c e fz)∧c[a.off]? = some v:=by
 unfold World.cell? at h;split at h
 ·rename_i c e fz hh;split at h
  ·cases h
  ·exact⟨c,e,fz,hh,h⟩
 ·cases h
theorem oO{w:World}{a:Addr}{v:Value}(h:w.cell? a=some v):a.spot=none:=by
 unfold World.cell? at h;split at h
 ·split at h
  ·cases h
  ·rename_i hs;cases ha:a.spot with
   | none=>rfl
   | some _=>rw[ha]at hs; exact absurd rfl hs
 ·cases h
end Go.Ab
end
section
namespace Go.Ab
open Go Go.AE Go.Proofs
open Go.Plain
theorem Z8u{rows:List (List Aa)}(h:¬rows=[]):Bx rows=.An rows:=by simp[Bx,h]
end Go.Ab
end
section
namespace Go.Ab
open Go Go.AE Go.Proofs
open Go.Plain
theorem XC(l:List Int)(i:Nat)(a:Int):(Z1 l).set i [.int .i64 a]=Z1 (l.set i a):=by rw[Z1,Z1,List.map_set]
end Go.Ab
end
section
namespace Go.Ab
open Go Go.AE Go.Proofs
open Go.Plain
end Go.Ab
end
section
namespace Go.Ab
open Go.Plain
theorem WJ(p:Lt→Bool)(ls:List Lt):∃ L:List Nat,L.Nodup∧Z7 p ls=L.length ∧ ∀ x,x∈L↔(x<ls.length∧p (at' ls x)=true):=
 ⟨(List.range ls.length).filter fun j=>p (at' ls j),List.nodup_range.filter _,(VT ls p).symm,fun x=>by simp⟩
theorem Z65{p:Lt→Bool}{ls:List Lt}(h:Z7 p ls=1){j k:Nat}(hj:j<ls.length)(Py:p (at' ls j)=true)(hk:k<ls.length)(hpk:p (at' ls k)=true):j=k:=by
 obtain⟨L,hn,hl,hm⟩:=WJ p ls;rw[hl]at h;have hjm:=(hm j).2 ⟨hj,Py⟩;have hkm:=(hm k).2 ⟨hk,hpk⟩
 match L,h,hjm,hkm with
 | [y],_,hjm,hkm=>simp at hjm hkm; omega
theorem Zz0{p:Lt→Bool}{ls:List Lt}(h:0<Z7 p ls):∃ j,j<ls.length∧p (at' ls j)=true:=by
 obtain⟨L,hn,hl,hm⟩:=WJ p ls;rw[hl]at h
 match L,h,hm with
 | y :: t,_,hm=>exact ⟨y,(hm y).1 (by simp)⟩
theorem yW{p:Lt→Bool}{ls:List Lt}(h:Z7 p ls=2){a b x:Nat}(ha:a<ls.length)(hpa:p (at' ls a)=true)(hb:b<ls.length)(hpb:p (at' ls b)=true)(hab:a≠b)(hx:x<ls.length)(hpx:p (at' ls x)=true):x=a∨x=b:=by
 obtain⟨L,hn,hl,hm⟩:=WJ p ls;rw[hl]at h;have hma:=(hm a).2 ⟨ha,hpa⟩;have hmb:=(hm b).2 ⟨hb,hpb⟩;have Fm:=(hm x).2 ⟨hx,hpx⟩
 match L,h,hma,hmb,Fm with
 | [y,z],_,h1,h2,h3=>simp at h1 h2 h3; omega
theorem uc{p:Lt→Bool}{ls:List Lt}(h:Z7 p ls=2){a:Nat}(ha:a<ls.length)(hpa:p (at' ls a)=true):∃ b,b<ls.length∧p (at' ls b)=true∧a≠b:=by
 obtain⟨L,hn,hl,hm⟩:=WJ p ls;rw[hl]at h;have hma:=(hm a).2 ⟨ha,hpa⟩
 match L,h,hn,hm,hma with
 | [y,z],_,hn,hm,h1=>
  have hy:=(hm y).1 (by simp)
  have hz:=(hm z).1 (by simp)
  grind
theorem Z6m{F:Nat}{ls:List Lt}(hG:ID F ls){a b:Lt}(ha:a∈ls)(hb:b∈ls)(hpa:AT a=true)(hpb:AT b=true)(ha1:1≤a.r)(ha2:a.r≤(CS a.g ls:Nat))(Bg:1≤b.r)(Cq:b.r≤(CS b.g ls:Nat))(h:pos ls a=pos ls b):a.g=b.g∧a.r=b.r:=by
 obtain⟨G,hg⟩:∃ G:Nat,a.g=(G:Nat):=⟨a.g.toNat,by have:=hG a ha hpa; omega⟩
 obtain⟨H,hh⟩:∃ H:Nat,b.g=(H:Nat):=⟨b.g.toNat,by have:=hG b hb hpb; omega⟩
 rw[VP hg,VP hh]at h;rw[hg]at ha2;rw[hh]at Cq;have mono:∀ x y,x≤y→tot ls x≤tot ls y:=fun x y hxy=>by
  induction hxy with
  | refl=>exact lR _
  | step _ ih=>rw[SR]; omega
 have h1:=SR ls G;have h2:=SR ls H;rcases Nat.lt_trichotomy G H with h3|h3|h3
 ·have:=mono (G+1) H h3; omega
 ·subst h3; omega
 grind
theorem sA(ls:List Lt):∀ i q e,(Bc ls i)[q]? = some e→Dg e.1 (Bc ls i)=some (q,e.2)
 | 0,q,e,h=>by simp[Bc]at h
 | i+1,q,e,h=>by
  have ih:=sA ls i;simp only[Bc]at h ⊢;split at h
  ·rename_i hx;rw[iP hx];unfold ED at h ⊢;cases hf:Dg (at' ls i).i (Bc ls i)with
   | some pv=>
    obtain⟨p,v⟩:=pv;rw[hf]at h;simp only at h ⊢;rw[List.getElem?_set]at h;split at h
    ·rename_i hpq;split at h
     ·cases h;subst hpq;rw[Xs hf,iP rfl]
     ·cases h
    ·rename_i hpq;have h1:=ih q e h;rw[Xs hf,iN (fun e1=>by rw[e1,hf]at h1; cases h1; exact hpq rfl)]
     exact h1
   | none=>
    rw[hf]at h;simp only at h ⊢;rw[Zw hf];rw[List.getElem?_append]at h;split at h
    ·have h1:=ih q e h;rw[iN (fun e1=>by rw[e1,hf]at h1; cases h1)]
     exact h1
    ·rename_i hge;obtain⟨h1,h2⟩:=gS.1 h;simp at h1 h2;subst h2;rw[iP rfl];have:q=(Bc ls i).length:=by omega
     rw[this]
  grind
theorem pE{F:Nat}{ls:List Lt}(h:ls.all (Gq F ls)=true):ls.all (DG F)=true∧Eg ls (Z5 ls) ls.length=true∧Hq ls:=by
 have hl:∀ l,l∈ls→Gq F ls l=true:=List.all_eq_true.1 h
 have hC:ls.all (DG F)=true:=List.all_eq_true.2 fun l hm=>by
  have:=hl l hm;unfold Gq at this;unfold DG
  grind
 have hG:=SS hC;have hP:∀ v,v<ls.length→AT (at' ls v)=true→1≤(at' ls v).r∧(at' ls v).r≤(CS (at' ls v).g ls:Nat)∧same (at' ls v) ls=1:=fun v hv hp=>by
  have:=hl _ (F7 hv);simp only[AT,beq_iff_eq]at hp;unfold Gq at this
  grind
 have hX:∀ v,v<ls.length→Bv (at' ls v)=true→1≤(at' ls v).i∧(at' ls v).i≤(U0 ls / 2:Nat)∧MU (at' ls v) ls=1∧Ir (at' ls v).i ls=2:=fun v hv hp=>by
  have:=hl _ (F7 hv);simp only[Bv,beq_iff_eq]at hp;unfold Gq at this
  grind
 have hrk:∀ i,i≤ls.length→Eg ls (Z5 ls) i=true:=by
  intro i
  induction i with
  | zero=>exact fun _=>rfl
  | succ i ih=>
   intro hi;have h1:=ih (by omega)
   simp only[Eg,bA,Bool.or_eq_true,Bool.not_eq_true',decide_eq_true_eq];refine⟨h1,?_⟩;cases hp:AT (at' ls i)with
   | false=>exact .inl rfl
   | true=>
    right
    obtain⟨r1,r2,r3⟩:=hP i (by omega) hp
    refine⟨⟨r1,r2⟩,?_⟩;have hin:=F7 (show i<ls.length by omega)
    obtain⟨b,hb,hiff⟩:=dB (ls:=ls) (m:=Z5 ls) i _ (VB hG hin hp r1 r2);rw[List.getD,hb];simp only[Option.getD_some];cases b with
    | false=>rfl
    | true=>
     obtain⟨j,hj,Py,he⟩:=hiff.1 rfl;obtain⟨s1,s2,_⟩:=hP j (by omega) Py
     obtain⟨e1,e2⟩:=Z6m hG (F7 (by omega)) hin Py hp s1 s2 r1 r2 he
     have hk:(at' ls j).k=(at' ls i).k:=by simp only[AT,beq_iff_eq]at hp Py; omega
     have:=Z65 r3 (j:=j) (k:=i) (by omega) (by simp[e1,e2,hk]) (by omega) (by simp)
     omega
 have pairW:∀ v,v<ls.length→Bv (at' ls v)=true → ∃ x,x<ls.length∧Bv (at' ls x)=true∧(at' ls x).i=(at' ls v).i∧(at' ls x).s=(at' ls v).s∧(at' ls x).o≠(at' ls v).o:=fun v hv hx=>by
  obtain⟨_,_,h3,_⟩:=hX v hv hx;obtain⟨x,hxl,hxp⟩:=Zz0 (p:=fun o=>o.k == (at' ls v).k&&o.i == (at' ls v).i&&o.s == (at' ls v).s&&o.o != (at' ls v).o) (ls:=ls) (by unfold MU at h3; omega)
  simp only[bA,beq_iff_eq,bne_iff_ne,ne_eq]at hxp;refine⟨x,hxl,?_,hxp.1.1.2,hxp.1.2,hxp.2⟩;simp only[Bv,beq_iff_eq]at hx ⊢;omega
 have Dx:∀ i,i≤ls.length→ER ls (U0 ls) i=true:=by
  intro i
  induction i with
  | zero=>exact fun _=>rfl
  | succ i ih=>
   intro hi;have h1:=ih (by omega)
   simp only[ER,bA,Bool.or_eq_true,Bool.not_eq_true',decide_eq_true_eq];refine⟨h1,?_⟩;cases hx:Bv (at' ls i)with
   | false=>exact .inl rfl
   | true=>
    right
    obtain⟨r1,r2,r3,r4⟩:=hX i (by omega) hx
    refine⟨⟨r1,r2⟩,?_⟩;obtain⟨b,c,d,e⟩:=WV i (by omega) h1
    unfold FQ;cases hf:Dg (at' ls i).i (Bc ls i)with
    | none=>rfl
    | some pv=>
     obtain⟨q,v⟩:=pv;simp only[bA,decide_eq_true_eq];obtain⟨x,hxl,hxx,hxi,hxs,hxo⟩:=pairW i (by omega) hx
     have key:∀ j,j<i→Bv (at' ls j)=true→(at' ls j).i=(at' ls i).i→x=j:=fun j hj hjx hji=>by
      have:=yW r4 (a:=i) (b:=j) (x:=x) (by omega) (by simp[hx]) (by omega) (by simp[hjx,hji]) (by omega) hxl (by simp[hxx,hxi])
      rcases this with h7|h7
      ·subst h7; exact absurd rfl hxo
      ·exact h7
     have hneg:S4 (at' ls i).o v<0:=by
      rcases Int.lt_or_le (S4 (at' ls i).o v) 0 with h7|h7
      ·exact h7
      ·obtain⟨j,j1,j2,j3,j4,j5⟩:=b _ _ _ hf _ h7;have:=key j j1 j3 j4;subst this;exact absurd j5 hxo
     refine⟨hneg,?_⟩;obtain⟨v1,v2,v3⟩:=ON ls i _ (List.mem_of_getElem? (Rf hf));simp only at v1 v2 v3;have hpos:0≤S4 (!(at' ls i).o) v:=by
      cases ho:(at' ls i).o<;>rw[ho]at hneg<;>simp only[S4,Bool.not_true,Bool.not_false,bF,if_true,if_false]at hneg ⊢ <;> omega
     obtain⟨j,j1,j2,j3,j4,j5⟩:=b _ _ _ hf _ hpos;have:=key j j1 j3 j4
     simp_all
 have hcf:=Dx ls.length (lR _);obtain⟨b,c,d,e⟩:=WV ls.length (lR _) hcf;rw[List.take_length]at e;have hfull:∀ en,en∈Bc ls ls.length→GY en.2=2:=by
  intro en hen;obtain⟨q,hq,hqe⟩:=List.getElem_of_mem hen;have hfe:=sA ls ls.length q en (by grind)
  obtain⟨v1,v2,v3⟩:=ON ls ls.length _ hen;obtain⟨o,ho⟩:∃ o,0≤S4 o en.2:=by
   by_cases h7:0≤en.2.1
   ·exact⟨false,h7⟩
   ·exact⟨true,by show 0≤en.2.2; omega⟩
  obtain⟨j,j1,j2,j3,j4,j5⟩:=b _ _ _ hfe o ho;obtain⟨_,_,_,r4⟩:=hX j j1 j3;obtain⟨k,k1,k2,k3⟩:=uc r4 j1 (by simp[j3])
  simp only[bA,beq_iff_eq]at k2;obtain⟨p',w',g1,g2⟩:=c k k1 k2.1;rw[k2.2,j4,hfe]at g1;cases g1;have hko:(at' ls k).o≠o:=fun e1=>by grind
  have h8:0≤S4 (at' ls k).o en.2:=by rw[g2]; omega
  cases o<;>cases h9:(at' ls k).o<;>rw[h9]at hko h8<;>simp only[S4,bF,if_true,if_false]at ho h8<;>first
   | exact absurd rfl hko
   | (unfold GY; grind)
 have hsum:∀ E:List DW,(∀ en,en∈E→GY en.2=2)→H7 E=2*E.length:=by
  intro E
  induction E with
  | nil=>exact fun _=>rfl
  | cons x r ih=>
   intro hE;simp only[H7,lC,hE x (List.mem_cons_self ..),ih fun en hen=>hE en (List.mem_cons_of_mem _ hen)]
   omega
 have hs:=hsum _ hfull;have hv:U0 ls=Z7 Bv ls:=rfl;exact⟨hC,hrk _ (lR _),by omega,hcf,by omega⟩
end Go.Ab
end
section
namespace Go.Ab
open Go Go.AE Go.Proofs
open Go.Plain
attribute [local simp] KV KF Kv KM K8 KI K2 Ku KT HG HJ HC HK HL HF JC Ld Kb Jw JF Kk JM Kz KE KZ KY Kl KU K4 KD JO KP K6 Jv Kt Ks Kw JI KR K7 K1 Jx Kq Kd KB JU Ky JY JG JZ Kc Ko KX KN Km JX K3 Jy KW Kr Kg Kx JP JE Kf Jz Lf Iy JW Env.get P3 Ac.at Ac.app Ac.get Y2 P0 Aa.cells Aa.one J4 C0 Ke KQ K9 K5 JQ KL Jq JL KJ Ka Jt KH KC Ga F5 N6 H9 I8 U5 Aj La Ki JT JH O3 X3 J0 M0 I6 D4 Q6 I0 Bq BY BB Cz Df Bz W5 Aa.AA U3 Z3 Ag.AA U9 T2 W2 FT.indep E4 Iz A0 EC Jg Sx
end Go.Ab
end
section
namespace Go.Ab
open Go Go.AE Go.Proofs
open Go.Plain
attribute [local simp] KV KF Kv KM K8 KI K2 Ku KT HG HJ HC HK HL HF JC Ld Kb Jw JF Kk JM Kz KE KZ KY Kl KU K4 KD JO KP K6 Jv Kt Ks Kw JI KR K7 K1 Jx Kq Kd KB JU Ky JY JG JZ Kc Ko KX KN Km JX K3 Jy KW Kr Kg Kx JP JE Kf Jz Lf Iy JW Env.get P3 Ac.at Ac.app Ac.get Y2 P0 Aa.cells Aa.one J4 C0 Ke KQ K9 K5 JQ KL Jq JL KJ Ka Jt KH KC Ga F5 N6 H9 I8 U5 Aj La Ki JT JH O3 X3 J0 M0 I6 D4 Q6 I0 Bq BY BB Cz Df Bz W5 Aa.AA U3 Z3 Ag.AA U9 T2 W2 FT.indep E4 Iz A0 EC Jg Sx sV
end Go.Ab
end
section
namespace Go.Ab
open Go Go.AE Go.Proofs
open Go.Plain
structure XZ (f:Int) (ls:List Lt):Prop where
 fill:FM ls (Bc ls ls.length)
 Qp:0<Z5 ls
 PD:∀ v,v<ls.length→(at' ls v).k≠2→(at' ls v).k=1
 axi:∀ v,v∈Z4 ls→v<ls.length∧0≤(at' ls v).g∧(at' ls v).g≤40
section
variable {f:Int} {ls:List Lt}
abbrev wksC(ls:List Lt):List (List Nat):=H3 (U2 ls (Z4 ls)) (2*ls.length+2*Z5 ls)
end
end Go.Ab
end
section
namespace Go.Ab
open Go Go.AE Go.Proofs
open Go.Plain
@[simp] theorem Ydw(id : Nat)(f : Ah → Aa)(get : Nat → Option Ag)(k : Nat)(x : Ah)(lo hi : Option Ah) : Ak id f get (.DB k x lo hi none) = match f x with
 | .Ai=>match I2 f 0 0 lo hi with
  | some _=>some (.Ai,[])
  | none=>none
 | .emp=>match I2 f 0 0 lo hi with
  | some _=>some (.emp,[])
  | none=>none
 | .An els=>if els.all (·.length == k)then match I2 f els.length els.length lo hi with
  | some (l,h)=>some (.An ((els.take h).drop l),[])
  | none=>none
  else none
 | .sl b off len=>match get b with
  | some (.cells k' els)=>if k'=k∧off+len≤els.length then match I2 f len (els.length - off) lo hi with
   | some (l,h)=>some (.sl b (off+l) (h - l),[])
   | none=>none
   else none
  | _=>none
 | _=>none:=rfl
theorem Q7(get:Nat→Option Ag)(k b off len:Nat):T7 get k (.sl b off len)=match get b with
 | some (.cells k' els)=>if k'=k∧off+len≤els.length then some ((els.drop off).take len)else none
 | _=>if len=0 then some []else none:=by
 simp only[T7,Q3];rfl
end Go.Ab
end
section
namespace Go.Ab
open Go.Plain
theorem Wd(p:Lt→Bool)(f:Lt→Lt)(ls:List Lt):Z7 p (ls.map f)=Z7 (fun l=>p (f l)) ls:=by
 unfold Z7;rw[List.filter_map,lM];rfl
theorem bY{f:Int}{ls:List Lt}{l:Lt}(hk:l.k=1):Gq f ls l=true↔l.i=0∧l.s=0∧l.o=false∧0≤l.g∧l.g≤f∧1≤l.r∧l.r≤CS l.g ls∧same l ls=1:=by
 unfold Gq
 grind
theorem VX{f:Int}{ls:List Lt}{l:Lt}(hk:l.k=2):Gq f ls l=true↔l.g=0∧l.r=0∧(l.s=1∨l.s = -1)∧1≤l.i∧l.i≤(U0 ls / 2:Nat)∧MU l ls=1∧Ir l.i ls=2:=by
 unfold Gq
 grind
theorem Yg{f:Int}{ls:List Lt}{l:Lt}(h:Gq f ls l=true):l.k=1∨l.k=2:=by
 unfold Gq at h
 grind
structure Co (f:Int) (ls:List Lt):Prop where
 len:ls.length≤400
 vis:U0 ls≤200
 lo:0≤f
 hi:f≤40
 fst:(at' ls 0).k=1
 xK:Z5 ls % 2=0
 Qk:∀ l,l∈ls→Gq f ls l=true
 FX:H5 (U2 ls (Z4 ls)) (2*ls.length+2*Z5 ls)=Z5 ls+U0 ls / 2+2
theorem Co.to{f:Int}{ls:List Lt}(h:Co f ls):J9 f ls=0:=by
 have hF:((f.toNat:Nat):Int)=f:=by have:=h.lo; omega
 obtain⟨q1,q2,q3⟩:=pE (F:=f.toNat) (ls:=ls) (by rw[hF]; exact List.all_eq_true.2 h.Qk)
 have a:=h.len;have b:=h.vis;have c:=h.lo;have d:=h.hi;unfold J9;rw[iN (by omega),iN (by omega),iP]
 refine .inr ⟨q1,h.fst,h.xK,q2,q3,?_⟩;rw[HI,q3.2.2];exact h.FX
theorem Co.Fa{f:Int}{ls:List Lt}(hlo:0≤f)(h:∀ l,l∈ls→Gq f ls l=true):Sj ls∧Ol ls∧Hq ls:=by
 have hF:((f.toNat:Nat):Int)=f:=by omega
 obtain⟨q1,q2,q3⟩:=pE (F:=f.toNat) (ls:=ls) (by grind)
 obtain⟨r1,r2⟩:=Zj (SS q1) q2;exact⟨r1,r2,q3⟩
theorem cS{ls:List Lt}(ha:Ol ls)(hr:Sj ls){v:Nat}(hv:v<ls.length)(hk:(at' ls v).k=1):R9 v (Z4 ls)=pos ls (at' ls v):=by
 have hp:AT (at' ls v)=true:=by simp[AT,hk]
 exact RJ (Su ls) (LC (Bb.2 ⟨hv,hp⟩)).1 (ZX ha hr hv hp)
theorem Co.wv{f:Int}{ls:List Lt}(h:Co f ls)(h0:ls≠[]):Wv ls:=by
 obtain⟨_,_,hc⟩:=Co.Fa h.lo h.Qk;have hpos:0<ls.length:=List.length_pos_iff.2 h0;refine⟨?_,fun v hv hk=>(Yg (h.Qk _ (F7 hv))).resolve_right hk,fun v hv hk=>?_⟩
 ·rw[← HI];exact List.length_pos_of_mem (Bb.2 ⟨hpos,by simp[AT,h.fst]⟩)
 ·obtain⟨_,_,j,_,_,_,j1,j2,j3,j4,j5,j6,j7,j8⟩:=OC hc hv (by simp[Bv,hk])
  obtain⟨_,_,j',_,_,_,g1,g2,g3,g4,g5,g6,_,g8⟩:=OC hc j1 j3;rw[j8];have hj:j'=v:=(j7 j' g1 g3 (by rw[g4,j4])).resolve_right g2
  exact⟨j1,by simpa[Bv]using j3,by rw[g8,hj],j5,j6⟩
theorem Co.uniq{f:Int}{ls:List Lt}(h:Co f ls){v x:Nat}(hv:v<ls.length)(hk:(at' ls v).k=2)(hx:x<ls.length)(hxk:(at' ls x).k=2)(hi:(at' ls x).i=(at' ls v).i):x=v∨x=Q9 ls v ls.length 0:=by
 obtain⟨_,_,hc⟩:=Co.Fa h.lo h.Qk;obtain⟨_,_,j,_,_,_,j1,j2,j3,j4,j5,j6,j7,j8⟩:=OC hc hv (by simp[Bv,hk])
 rw[j8];exact j7 x hx (by simp[Bv,hxk]) hi
end Go.Ab
end
section
namespace Go.Ab
open Go.Plain
def xX(l:Lt):Lt:=if l.k=2 then { l with o:=!l.o } else l
def xL(ls:List Lt):Nat→Nat
 | 0=>0
 | k+1=>if AT (at' ls (ls.length - (k+1))) && !W4 ls (ls.length - (k+1))then ls.length - (k+1)else xL ls k
def Em(a:Nat)(ls:List Lt):List Lt:=ls.drop a++ls.take a
def tuN(ls:List Lt):List Lt:=Em (xL ls ls.length) (ls.map xX)
theorem VS(p:Lt→Bool)(a:Nat)(ls:List Lt):Z7 p (Em a ls)=Z7 p ls:=by
 unfold Em;rw[Ni,Nat.add_comm,← Ni,List.take_append_drop]
theorem zM{n x:Nat}(h:x<2*n):x % n=if x<n then x else x - n:=by
 split
 ·exact Nat.mod_eq_of_lt ‹_›
 ·rw[Nat.mod_eq_sub_mod (by omega),Nat.mod_eq_of_lt (by omega)]
def Fy(n a v:Nat):Nat:=(v+n - a) % n
theorem nZ{n a v:Nat}(ha:a<n)(hv:v<n):Fy n a v=if v<a then v+n - a else v - a:=by
 unfold Fy;rw[zM (by omega)]
 grind
theorem Z60{ls:List Lt}{a v:Nat}(ha:a<ls.length)(hv:v<ls.length):at' (Em a ls) (Fy ls.length a v)=at' ls v:=by
 rw[nZ ha hv];unfold at' Em
 grind
theorem Z82{ls:List Lt}{i:Nat}(hi:i<ls.length):Z5 (ls.take (i+1))=Z5 (ls.take i)+if AT (at' ls i)then 1 else 0:=by
 have e:ls.take (i+1)=ls.take i++[at' ls i]:=by
  rw[List.take_add_one,gE hi,at',List.getD,gE hi];rfl
 unfold Z5;rw[e,Ni,LX];rfl
section
variable {f:Int} {ls:List Lt}
end
end Go.Ab
end
section
namespace Go.AE
open Go.RowKit
def Il(b N:Nat)(id:Nat)(f:Ah→Aa)(get:Nat→Option Ag):AQ→Option (Aa×List (Nat×Option Ag))
 | .CO x=>match f x with
  | .sl b' off _=>if b'=b∧off≤N then some (.int .i64 ((N - off:Nat):Int),[])else none
  | _=>none
 | .bin .gtr e x y=>match f y with
  | .atLeast _=>none
  | _=>Ak id f get (.bin .gtr e x y)
 | .append k bytes z s x=>match f s with
  | .sl b' off len=>if b'=b then match T7 get k (f x),Q3 get k (.sl b' off len)with
   | some xs,some olds=>if N<off+len+xs.length then (if len+xs.length≤W6∧bytes≤W6∧olds.length=len then some (.sl id 0 (len+xs.length),[(id,some (.cells k (olds++xs)))])else none)else Ak id f get (.append k bytes z s x)
   | _,_=>none
   else Ak id f get (.append k bytes z s x)
  | _=>Ak id f get (.append k bytes z s x)
 | .Bs k bytes z s x=>match f s,f x with
  | .sl b' off len,.int _ n=>if b'=b∧0≤n then match Q3 get k (.sl b' off len)with
   | some olds=>if N<off+len+n.toNat∧len+n.toNat≤W6∧bytes≤W6∧olds.length=len then some (.sl id 0 (len+n.toNat),[(id,some (.cells k (olds++List.replicate n.toNat z)))])else none
   | none=>none
   else none
  | _,_=>none
 | op=>Ak id f get op
def Dy:Option Ag→Prop
 | some (.cells k _)=>0<k
 | _=>False
def kP(m:Ac):List Aa→Prop
 | [.sl b1 _ l1,.sl b2 _ l2]=>b1≠b2∧0<l1∧0<l2∧Dy (m.get b1)∧Dy (m.get b2)
 | _=>False
section
variable {P:Program} {b N G n base:Nat}
def Ib(P:Program)(b N G n base:Nat):List Af→Nat→(Env→Ac→Prop)→Env→Ac→Prop
 | [],_,K,e,m=>K e m
 | o :: r,i,K,e,m=>HS (Q4 n e o.guard)
  (match o.op with
  | .call f xs=>Mi (U5 n e f xs) fun g args=>g=G∧kP m args∧Ib P b N G n base r (i+1) K (X6 e o.dst (.bool false)) m
  | op=>Gy (Il b N (base+i) (AI n e) m.get op) fun v d=>Ib P b N G n base r (i+1) K (X6 e o.dst v) (m.app d))
  (Ib P b N G n base r (i+1) K (X6 e o.dst Aj) m)
def Jo(P:Program)(b N G n:Nat):Aq→(Exit→Env→Ac→Prop)→Env→Ac→Prop
 | .skip,Q,e,m=>Q .normal e m
 | .region false ops,Q,e,m=>Ib P b N G n m.next ops 0 (Q .normal) e (m.at (m.next+ops.length))
 | .region true ops,Q,e,m=>ops.all I0=true∧V5 P false n m.next ops 0 (Q .normal) e (m.at (m.next+ops.length))
 | .seq x y,Q,e,m=>Jo P b N G n x (P5 (Jo P b N G n y Q) Q) e m
 | .cond c x y,Q,e,m=>Kj (AI n e c) (Jo P b N G n x Q e m) (Jo P b N G n y Q e m)
 | .ret,Q,e,m=>Q .ret e m
 | _,_,_,_=>False
def Trim(mt m:Ac):Prop:=m.next=mt.next ∧ ∀ b x,mt.get b=some x→m.get b=some x ∨ ∃ k els rest,x=.cells k els∧m.get b=some (.cells k (els++rest))
variable {K:Env→Ac→Prop} {Q:Exit→Env→Ac→Prop} {e:Env} {m:Ac}
theorem Z4j:Jo P b N G n .skip Q e m=Q .normal e m:=propext Iff.rfl
theorem Z4a(ops:List Af):Jo P b N G n (.region false ops) Q e m=Ib P b N G n m.next ops 0 (Q .normal) e (m.at (m.next+ops.length)):=propext Iff.rfl
theorem yt(ops:List Af):Jo P b N G n (.region true ops) Q e m=(ops.all I0=true∧V5 P false n m.next ops 0 (Q .normal) e (m.at (m.next+ops.length))):=propext Iff.rfl
theorem Z6g(x y:Aq):Jo P b N G n (.seq x y) Q e m=Jo P b N G n x (P5 (Jo P b N G n y Q) Q) e m:=propext Iff.rfl
theorem Z3p:Jo P b N G n .ret Q e m=Q .ret e m:=propext Iff.rfl
theorem yp{i:Nat}:Ib P b N G n base [] i K e m=K e m:=propext Iff.rfl
variable {id:Nat} {f:Ah→Aa} {get:Nat→Option Ag}
theorem Z6k(x:Ah):Il b N id f get (.Fp x)=Ak id f get (.Fp x):=rfl
theorem Z70(x:Ah):Il b N id f get (.BC x)=Ak id f get (.BC x):=rfl
theorem Z4g(q:Fi)(x y:Ah):Il b N id f get (.bin .add q x y)=Ak id f get (.bin .add q x y):=rfl
theorem yg(q:Fi)(x y:Ah):Il b N id f get (.bin .sub q x y)=Ak id f get (.bin .sub q x y):=rfl
theorem Z85(q:Fi)(x y:Ah):Il b N id f get (.bin .eql q x y)=Ak id f get (.bin .eql q x y):=rfl
theorem vp(q:Fi)(x y:Ah):Il b N id f get (.bin .gtr q x y)=match f y with
 | .atLeast _=>none
 | _=>Ak id f get (.bin .gtr q x y):=rfl
theorem ze(q:UnOp)(x:Ah):Il b N id f get (.un q x)=Ak id f get (.un q x):=rfl
theorem qi(k:Nat)(x:Ah)(l h z:Option Ah):Il b N id f get (.DB k x l h z)=Ak id f get (.DB k x l h z):=rfl
theorem yL(k:Nat)(x y:Ah):Il b N id f get (.copy k x y)=Ak id f get (.copy k x y):=rfl
theorem Z5k(x:Ah):Il b N id f get (.CO x)=match f x with
 | .sl b' off _=>if b'=b∧off≤N then some (.int .i64 ((N - off:Nat):Int),[])else none
 | _=>none:=rfl
theorem Z8a(k bytes:Nat)(z:List Aa)(s x:Ah):Il b N id f get (.Bs k bytes z s x)=match f s,f x with
 | .sl b' off len,.int _ n=>if b'=b∧0≤n then match Q3 get k (.sl b' off len)with
  | some olds=>if N<off+len+n.toNat∧len+n.toNat≤W6∧bytes≤W6∧olds.length=len then some (.sl id 0 (len+n.toNat),[(id,some (.cells k (olds++List.replicate n.toNat z)))])else none
  | none=>none
  else none
 | _,_=>none:=rfl
end
end Go.AE
end
