/- Part 20 of the proof: Rb, Lc. -/
import Derived.Test.YtipeejpafgnjdaaGreatDoorG12
import Derived.Test.YtipeejpafgnjdaaGreatDoorG19
set_option linter.all false
section
namespace Go.Known
open Go Go.AE Go.Proofs
open Go.Plain
attribute [local simp] Zgn Zdn Zcw Zj0 Ze2 Ze7 Zex Zgo Zj6 Zam Za2 Zat Zai Zau Zap Zdw Ze6 Zg8 Zgz Zgt Zkn Zeu Zqe Zgm Zg5 Ze3 Zg3 Zg7 Zki Zgq Zg0 Zew Zkj Zg9 Ze4 Ze1 Zgv Zgx Zgp Zgu Zev Zdp Zkc Zgw Zkd Zqh Zdo Ze8 Zdy Zko Zhc Zey Zkh Zjs Ze5 Ze0 Zg4 Zjr Zjv Zql Zj2 Zgl Zdk Zdx Zdr Zdq Zdm Zp2 Zjp Zj9 Env.get argE SMem.at SMem.app SMem.get Zar Zb8 AVal.cells AVal.one Zc2 Zce Zj4 Zkb Zjt Zkl Zka Zkm Zke Zkf Zkp Zj3 Zjz Zjw Zjy unA Zb7 Zbp Zhz Zfl Zaq aundef Zct Zdv Zez Zj8 Zgs recF memN indF Zfm retN oneK Zbz Zd8 SubR SubRE SubRB InjK InjA qOf Znn AVal.ren renL Zak ABlk.ren
abbrev bls (l:List Bool):List (List AVal):=l.map fun b=>[AVal.bool b]
theorem Zab (q:Nat→Nat) (l:List Nat):Zak q (nums l)=nums l:=Zad q _ (Za0 l)
theorem Zq6:∀ (l:List Bool),Zal (bls l)=true
 | []=>rfl
 | x :: r=>by simp only[bls,List.map_cons,Zal]; exact Zq6 r
theorem Zao (q:Nat→Nat) (l:List Bool):Zak q (bls l)=bls l:=Zad q _ (Zq6 l)
theorem Zhq (l:List Nat) (i x:Nat):(nums l).set i [AVal.int .i64 (x:Int)]=nums (l.set i x):=by rw[nums,nums,List.map_set]
theorem Zrw (l:List Bool) (i:Nat) (x:Bool):(bls l).set i [AVal.bool x]=bls (l.set i x):=by rw[bls,bls,List.map_set]
theorem Znv (n x:Nat):nums (List.replicate n x)=List.replicate n [AVal.int .i64 (x:Int)]:=by simp[nums]
theorem Zrp (n:Nat) (b:Bool):bls (List.replicate n b)=List.replicate n [AVal.bool b]:=by simp[bls]
theorem Zco {l:List Nat} {i x:Nat} (h:l[i]? = some x):(nums l)[i]? = some [AVal.int .i64 (x:Int)]:=by rw[nums,List.getElem?_map,h]; rfl
theorem Zht {l:List Bool} {i:Nat} {x:Bool} (h:l[i]? = some x):(bls l)[i]? = some [AVal.bool x]:=by rw[bls,List.getElem?_map,h]; rfl
theorem Zay (l:List Nat):(nums l).length=l.length:=by rw[nums,List.length_map]
theorem getE {α:Type} {l:List α} {i:Nat} {x:α} (h:l[i]? = some x):∃ hi:i<l.length,l[i]=x:=List.getElem?_eq_some_iff.1 h
theorem Zuo {ls:List Lt} {i:Nat} (h:i<ls.length):down ls (i+1)=if isP (at' ls i)then !down ls i else down ls i:=by
 unfold down Zaa
 rw[Zcj h]
 cases isP (at' ls i)with
 | false=>simp
 | true=>
  rw[Bool.eq_iff_iff]
  simp
  omega
abbrev dV1 (F n m:Nat) (rows:List (List AVal)):ABlk:=.cells 7 [[.int .i64 (F:Int),.imm rows,.sl 3 0 n,.sl 5 0 m,.sl 4 0 n,.nilMap,.sl 2 0 (F+1)]]
abbrev dR (F:Nat) (ls:List Lt) (rows:List (List AVal)):SMem:=
 ⟨[(1,dV1 F ls.length (Zaa ls) rows),(2,.cells 1 (nums (cnts F ls))),(3,.cells 1 (bls (Zbt ls.length ls.length (Zcm ls) false))),(4,.cells 1 (nums (Zbt ls.length ls.length (Zcd ls) 0))),(5,.cells 1 (nums (Zf7 ls (Zaa ls) ls.length)))],6⟩
set_option maxRecDepth 100000 in
set_option maxHeartbeats 4000000 in
theorem c133 (F:Nat) (ls:List Lt) (h:ls.length≤1000) (hF:F≤1000) (hG:Zov F ls) :
 Ctr Tryz.prog 169 [.ptr 1 0 0] (dM1 F (ls.map rowL)) fun r m=>(rkF ls (Zaa ls) ls.length=true∧r=.bool true∧m=dR F ls (ls.map rowL))∨(rkF ls (Zaa ls) ls.length=false∧r=.bool false∧m=⟨[],2⟩):=by
 refine Zlc hm Tryz.func169 cf133 rfl rfl fun K hK=>?_
 have hR:=Zb4 ls
 have hrr:∀ q,Zak q (ls.map rowL)=ls.map rowL:=fun q=>Zad q _ (Zac ls)
 have hyes:rkF ls (Zaa ls) ls.length=true → ∀ l m,SubR 2 l [(0,.bool true)] (dR F ls (ls.map rowL)) [(0,.bool true)] m→EndK 2 K (.bool true) m:=
  fun hr l m hs=>endK (hK _ _ (.inl ⟨hr,rfl,rfl⟩)) l hs
 have hno:rkF ls (Zaa ls) ls.length=false → ∀ l m,SubR 2 l [(0,.bool false)] ⟨[],2⟩ [(0,.bool false)] m→EndK 2 K (.bool false) m:=
  fun hr l m hs=>endK (hK _ _ (.inr ⟨hr,rfl,rfl⟩)) l hs
 clear hK
 generalize ls.map rowL=rows at *
 have hlen:=hR.len
 have hpl:Zaa ls≤ls.length:=Za4
 have hwF:IntKind.i64.wrap ((F:Int)+1)=((F+1:Nat):Int):=by rw[Zae (by omega) (by omega)]; rfl
 have hF0:F+1≤1048576:=by omega
 have hn0:ls.length≤1048576:=by omega
 have e1:List.replicate (F+1) [AVal.int .i64 0]=nums (cnts F (ls.take 0)):=by rw[List.take_zero,Z4s,Znv]; rfl
 have e2:List.replicate ls.length [AVal.bool false]=bls (Zbt ls.length 0 (Zcm ls) false):=by rw[Zm4,Zrp]
 have e3:List.replicate ls.length [AVal.int .i64 0]=nums (Zbt ls.length 0 (Zcd ls) 0):=by rw[Zm4,Znv]; rfl
 simp[-Int.natCast_add,room,hwF,hF0,hlen,hn0,e1,e2,e3]
 refine Zbg (α:=Nat) (fun i=>[(50,.int .i64 i),(49,.int .i64 ls.length),(48,.imm rows),(3,.bool (down ls i)),(0,.ptr 1 0 0)])
  (fun i=>⟨[(1,.cells 7 [[.int .i64 (F:Int),.imm rows,.sl 3 0 ls.length,.nilSl,.sl 4 0 ls.length,.nilMap,.sl 2 0 (F+1)]]),(2,.cells 1 (nums (cnts F (ls.take i)))),(3,.cells 1 (bls (Zbt ls.length i (Zcm ls) false))),(4,.cells 1 (nums (Zbt ls.length 0 (Zcd ls) 0)))],5⟩)
  (fun i=>ls.length - i) (fun i=>i≤ls.length) 0 [(2,10),(3,21),(4,32)] (by simp[hrr,Zab,Zao,down,Zaa,cntP]) (by simp) ?_
 intro i hi N hN
 try simp only at hi hN ⊢
 by_cases hlt:i<ls.length
 ·have hrow:=hR.row i hlt
  obtain⟨_,hrow2⟩:=getE hrow
  have hw1:IntKind.i64.wrap ((i:Int)+1)=(i:Int)+1:=Zae (by omega) (by omega)
  have hnext:ls.take (i+1)=ls.take i++[at' ls i]:=by
   rw[List.take_add_one,at',List.getD,List.getElem?_eq_getElem hlt]
   rfl
  have hds:=Zuo hlt
  by_cases hk:(at' ls i).k=1
  ·have hp:isP (at' ls i)=true:=by simp[isP,hk]
   obtain⟨hg1,hg2⟩:=hG _ (Zcq hlt) hp
   obtain⟨G,hg⟩:∃ G:Nat,(at' ls i).g=(G:Nat):=⟨(at' ls i).g.toNat,by omega⟩
   have hGF:G≤F:=by omega
   have hGF1:G<F+1:=by omega
   have hc:=Zco (Zjj (ls:=ls.take i) hGF)
   have hcs:=Zz4 (F:=F) (ls:=ls.take i) hp hg hGF
   have hcl:inG G (ls.take i)≤i:=Zgy i
   have hwc:IntKind.i64.wrap ((inG G (ls.take i):Nat)+1:Int)=((inG G (ls.take i)+1:Nat):Int):=by rw[Zae (by omega) (by omega)]; rfl
   have hC':=Zhq (cnts F (ls.take i)) G (inG G (ls.take i)+1)
   rw[hcs,← hnext]at hC'
   have hCl:(nums (cnts F (ls.take i))).length=F+1:=by rw[Zay,Zc8]
   have hDv:Zcm ls i=down ls i:=by simp[Zcm,hp]
   have hD':=Zrw (Zbt ls.length i (Zcm ls) false) i (Zcm ls i)
   rw[Zor hlt,hDv]at hD'
   have hDg:=Zht (Zds (i:=i) (v:=Zcm ls) (d:=false) hlt)
   have hDl:(bls (Zbt ls.length i (Zcm ls) false)).length=ls.length:=by rw[bls,List.length_map,Zby]
   rw[if_pos hp]at hds
   simp only[Nat.lt_irrefl,if_false]at hDg
   generalize nums (cnts F (ls.take i))=C at *
   generalize bls (Zbt ls.length i (Zcm ls) false)=D at *
   obtain⟨_,hc2⟩:=getE hc
   obtain⟨_,hDg2⟩:=getE hDg
   simp[-Int.natCast_add,hlen,hlt,hrow,hrow2,rowL,hk,hg,hc,hc2,hCl,hGF,hGF1,hwc,hC',hDg,hDg2,hDl,hD',hw1]
   exact hN (i+1) [] _ _ (by omega) (by omega) (by simp[hrr,Zab,Zao,hds])
  ·have hp:isP (at' ls i)=false:=by simp[isP,hk]
   have hcs:=Z3m (F:=F) (ls:=ls.take i) hp
   rw[← hnext]at hcs
   have hD:=Zqz (n:=ls.length) (i:=i) (v:=Zcm ls) (d:=false) (by simp[Zcm,hp])
   rw[if_neg (by simp[hp])]at hds
   simp[-Int.natCast_add,hlen,hlt,hrow,hrow2,rowL,hk,hw1]
   exact hN (i+1) [] _ _ (by omega) (by omega) (by simp[hrr,Zab,Zao,hds,hcs,hD])
 have he:i=ls.length:=by omega
 subst he
 clear hN
 rw[List.take_length]
 have e4:List.replicate (F+1) [AVal.int .i64 0]=nums (Zbt (F+1) 0 (tot ls) 0):=by rw[Zm4,Znv]; rfl
 simp[-Int.natCast_add,room,hlen,hwF,hF0,e4]
 refine Zbg (α:=Nat) (fun g=>[(90,.int .i64 g),(89,.int .i64 ((F+1:Nat):Int)),(88,.sl 2 0 (F+1)),(7,.int .i64 (tot ls g:Nat)),(6,.sl 5 0 (F+1)),(0,.ptr 1 0 0)])
  (fun g=>⟨[(1,.cells 7 [[.int .i64 (F:Int),.imm rows,.sl 3 0 ls.length,.nilSl,.sl 4 0 ls.length,.nilMap,.sl 2 0 (F+1)]]),(2,.cells 1 (nums (cnts F ls))),(3,.cells 1 (bls (Zbt ls.length ls.length (Zcm ls) false))),(4,.cells 1 (nums (Zbt ls.length 0 (Zcd ls) 0))),(5,.cells 1 (nums (Zbt (F+1) g (tot ls) 0)))],6⟩)
  (fun g=>F+1 - g) (fun g=>g≤F+1) 0 [(5,12)] (by simp[hrr,Zab,Zao,Z5c hG]) (by simp) ?_
 intro g hg N hN
 try simp only at hg hN ⊢
 by_cases hlt:g<F+1
 ·have hw1:IntKind.i64.wrap ((g:Int)+1)=(g:Int)+1:=Zae (by omega) (by omega)
  have hc:=Zco (Zjj (ls:=ls) (show g≤F by omega))
  have hCl:(nums (cnts F ls)).length=F+1:=by rw[Zay,Zc8]
  have hts:=Zmf ls g
  have htl:=Z6b ls (g+1)
  have hwt:IntKind.i64.wrap ((tot ls g:Nat)+(inG g ls:Nat):Int)=((tot ls (g+1):Nat):Int):=by rw[Zae (by omega) (by omega)]; omega
  have hFg:=Zco (Zds (i:=g) (v:=tot ls) (d:=0) hlt)
  have hFs:=Zhq (Zbt (F+1) g (tot ls) 0) g (tot ls g)
  rw[Zor hlt]at hFs
  have hFl:(nums (Zbt (F+1) g (tot ls) 0)).length=F+1:=by rw[Zay,Zby]
  simp only[Nat.lt_irrefl,if_false]at hFg
  generalize nums (Zbt (F+1) g (tot ls) 0)=T at *
  generalize hCe:nums (cnts F ls)=C at *
  obtain⟨_,hc2⟩:=getE hc
  obtain⟨_,hFg2⟩:=getE hFg
  have hrC:∀ q,Zak q C=C:=fun q=>by rw[← hCe]; exact Zab q _
  simp[-Int.natCast_add,hlt,hc,hc2,hCl,hwt,hFg,hFg2,hFs,hFl,hw1]
  exact hN (g+1) [] _ _ (by omega) (by omega) (by simp[hrr,Zab,Zao,hrC])
 have he:g=F+1:=by omega
 subst he
 clear hN
 rw[Z4p hG]
 have hp0:Zaa ls≤1048576:=by omega
 have e5:List.replicate (Zaa ls) [AVal.int .i64 0]=nums (Zf7 ls (Zaa ls) 0):=by rw[Zf7,Znv]; rfl
 have e6:List.replicate (Zaa ls) [AVal.bool false]=bls (Zc1 ls (Zaa ls) 0):=by rw[Zc1,Zrp]
 simp[-Int.natCast_add,room,hlen,hp0,e5,e6]
 refine Zbg (α:=Nat) (fun i=>[(116,.int .i64 i),(115,.int .i64 ls.length),(114,.imm rows),(10,.sl 7 0 (Zaa ls)),(6,.sl 6 0 (F+1)),(0,.ptr 1 0 0)])
  (fun i=>⟨[(1,dV1 F ls.length (Zaa ls) rows),(2,.cells 1 (nums (cnts F ls))),(3,.cells 1 (bls (Zbt ls.length ls.length (Zcm ls) false))),(4,.cells 1 (nums (Zbt ls.length i (Zcd ls) 0))),(5,.cells 1 (nums (Zf7 ls (Zaa ls) i))),(6,.cells 1 (nums (Zbt (F+1) (F+1) (tot ls) 0))),(7,.cells 1 (bls (Zc1 ls (Zaa ls) i)))],8⟩)
  (fun i=>ls.length - i) (fun i=>i≤ls.length∧rkF ls (Zaa ls) i=true) 0 [(6,5),(5,9),(7,14)] (by simp[hrr,Zab,Zao]) (by simp[rkF]) ?_
 rintro i ⟨hi,hrk⟩ N hN
 try simp only at hi hrk hN ⊢
 by_cases hlt:i<ls.length
 ·have hrow:=hR.row i hlt
  obtain⟨_,hrow2⟩:=getE hrow
  have hw1:IntKind.i64.wrap ((i:Int)+1)=(i:Int)+1:=Zae (by omega) (by omega)
  by_cases hk:(at' ls i).k=1
  ·have hp:isP (at' ls i)=true:=by simp[isP,hk]
   have hin:=Zcq hlt
   obtain⟨hg1,hg2⟩:=hG _ hin hp
   have hrs:rkF ls (Zaa ls) (i+1)=(decide (1≤(at' ls i).r)&&decide ((at' ls i).r≤(inG (at' ls i).g ls:Nat)) && !(Zc1 ls (Zaa ls) i).getD (pos ls (at' ls i)) true):=by
    simp[rkF,hrk,hp]
   have hbad:rkF ls (Zaa ls) (i+1)=false→rkF ls (Zaa ls) ls.length=false:=fun hb=>by
    cases hq:rkF ls (Zaa ls) ls.length with
    | false=>rfl
    | true=>rw[rkF_le (show i+1≤ls.length by omega) hq]at hb; cases hb
   by_cases hr1:(at' ls i).r<1
   ·simp[-Int.natCast_add,hlen,hlt,hrow,hrow2,rowL,hk,hr1]
    exact hno (hbad (by rw[hrs]; simp; omega)) [] _ (by simp)
   obtain⟨G,hg⟩:∃ G:Nat,(at' ls i).g=(G:Nat):=⟨(at' ls i).g.toNat,by omega⟩
   have hGF:G≤F:=by omega
   have hGF1:G<F+1:=by omega
   have hc:=Zco (Zjj (ls:=ls) hGF)
   have hCl:(nums (cnts F ls)).length=F+1:=by rw[Zay,Zc8]
   by_cases hr2:(inG (G:Nat) ls:Nat)<(at' ls i).r
   ·generalize nums (cnts F ls)=C at *
    obtain⟨_,hc2⟩:=getE hc
    simp[-Int.natCast_add,hlen,hlt,hrow,hrow2,rowL,hk,hr1,hg,hc,hc2,hCl,hGF,hGF1,hr2]
    exact hno (hbad (by rw[hrs,hg]; simp; omega)) [] _ (by simp)
   have hpos:=Zw2 hG hin hp (by omega) (by rw[hg]; omega)
   have hpe:=Zxk (ls:=ls) hg
   have hFg:=Zco (Zds (n:=F+1) (i:=F+1) (v:=tot ls) (d:=0) (j:=G) hGF1)
   rw[if_pos hGF1]at hFg
   have hFl:(nums (Zbt (F+1) (F+1) (tot ls) 0)).length=F+1:=by rw[Zay,Zby]
   have hwa:IntKind.i64.wrap ((tot ls G:Nat)+(at' ls i).r)=((pos ls (at' ls i)+1:Nat):Int):=by rw[Zae (by omega) (by omega)]; omega
   have hwb:IntKind.i64.wrap (((pos ls (at' ls i)+1:Nat):Int) - 1)=((pos ls (at' ls i):Nat):Int):=by rw[Zae (by omega) (by omega)]; omega
   have htl:=Zh3 ls (Zaa ls) i
   have hxl:=Zgc ls (Zaa ls) i
   obtain⟨tb,htb⟩:∃ tb,(Zc1 ls (Zaa ls) i)[pos ls (at' ls i)]? = some tb:=⟨_,List.getElem?_eq_getElem (by omega)⟩
   have htg:(Zc1 ls (Zaa ls) i).getD (pos ls (at' ls i)) true=tb:=by rw[List.getD,htb]; rfl
   have htb':=Zht htb
   have hTl:(bls (Zc1 ls (Zaa ls) i)).length=Zaa ls:=by rw[bls,List.length_map,htl]
   have hTs:=Zrw (Zc1 ls (Zaa ls) i) (pos ls (at' ls i)) true
   have hT1:(Zc1 ls (Zaa ls) i).set (pos ls (at' ls i)) true=Zc1 ls (Zaa ls) (i+1):=by simp[Zc1,hp]
   rw[hT1]at hTs
   have hXl:(nums (Zf7 ls (Zaa ls) i)).length=Zaa ls:=by rw[Zay,hxl]
   have hXs:=Zhq (Zf7 ls (Zaa ls) i) (pos ls (at' ls i)) i
   have hX1:(Zf7 ls (Zaa ls) i).set (pos ls (at' ls i)) i=Zf7 ls (Zaa ls) (i+1):=by simp[Zf7,hp]
   rw[hX1]at hXs
   obtain⟨xv,hxv⟩:∃ xv,(Zf7 ls (Zaa ls) i)[pos ls (at' ls i)]? = some xv:=⟨_,List.getElem?_eq_getElem (by omega)⟩
   have hxv':=Zco hxv
   have hPl:(nums (Zbt ls.length i (Zcd ls) 0)).length=ls.length:=by rw[Zay,Zby]
   have hPv:Zcd ls i=pos ls (at' ls i):=by simp[Zcd,hp]
   have hPs:=Zhq (Zbt ls.length i (Zcd ls) 0) i (Zcd ls i)
   rw[Zor hlt,hPv]at hPs
   have hPg:=Zco (Zds (i:=i) (v:=Zcd ls) (d:=0) hlt)
   simp only[Nat.lt_irrefl,if_false]at hPg
   rw[htg,hg]at hrs
   clear hpe hxl hxv htb htg htl hX1 hT1 hPv
   generalize hp':pos ls (at' ls i)=p at *
   generalize hCe:nums (cnts F ls)=C at *
   generalize hFe:nums (Zbt (F+1) (F+1) (tot ls) 0)=T at *
   generalize bls (Zc1 ls (Zaa ls) i)=B at *
   generalize nums (Zf7 ls (Zaa ls) i)=X at *
   generalize nums (Zbt ls.length i (Zcd ls) 0)=Y at *
   have hrC:∀ q,Zak q C=C:=fun q=>by rw[← hCe]; exact Zab q _
   have hrT:∀ q,Zak q T=T:=fun q=>by rw[← hFe]; exact Zab q _
   obtain⟨_,hc2⟩:=getE hc
   obtain⟨_,hFg2⟩:=getE hFg
   obtain⟨_,htb2⟩:=getE htb'
   obtain⟨_,hxv2⟩:=getE hxv'
   obtain⟨_,hPg2⟩:=getE hPg
   cases tb with
   | true=>
    simp[-Int.natCast_add,hlen,hlt,hrow,hrow2,rowL,hk,hr1,hg,hc,hc2,hCl,hGF,hGF1,hr2,hFg,hFg2,hFl,hwa,hwb,hpos,htb',htb2,hTl]
    exact hno (hbad (by rw[hrs]; simp)) [] _ (by simp)
   | false=>
    simp[-Int.natCast_add,hlen,hlt,hrow,hrow2,rowL,hk,hr1,hg,hc,hc2,hCl,hGF,hGF1,hr2,hFg,hFg2,hFl,hwa,hwb,hpos,htb',htb2,hTl,hTs,hXl,hxv',hxv2,hXs,hPl,hPg,hPg2,hPs,hw1]
    exact hN (i+1) [] _ _ (by omega) ⟨by omega,by rw[hrs]; simp; omega⟩ (by simp[hrr,Zab,Zao,hrC,hrT])
  ·have hp:isP (at' ls i)=false:=by simp[isP,hk]
   have hT:Zc1 ls (Zaa ls) (i+1)=Zc1 ls (Zaa ls) i:=by simp[Zc1,hp]
   have hX:Zf7 ls (Zaa ls) (i+1)=Zf7 ls (Zaa ls) i:=by simp[Zf7,hp]
   have hY:=Zqz (n:=ls.length) (i:=i) (v:=Zcd ls) (d:=0) (by simp[Zcd,hp])
   simp[-Int.natCast_add,hlen,hlt,hrow,hrow2,rowL,hk,hw1]
   exact hN (i+1) [] _ _ (by omega) ⟨by omega,by simp[rkF,hrk,hp]⟩ (by simp[hrr,Zab,Zao,hT,hX,hY])
 have he:i=ls.length:=by omega
 subst he
 simp[-Int.natCast_add,hlen]
 exact hyes hrk [] _ (by simp[hrr,Zab,Zao])
end Go.Known
end
section
namespace Go.Known
open Go Go.AE Go.Proofs
open Go.Plain
def outV (ob:Option Nat) (n:Nat):AVal:=
 match ob with
 | none=>.nilSl
 | some b=>.sl b 0 n
def outB (ob:Option Nat) (k:Nat) (rows:List (List AVal)):List (Nat×ABlk):=
 match ob with
 | none=>[]
 | some b=>[(b,.cells k rows)]
def Zmt (ob:Option Nat) (q n:Nat):Prop:=
 match ob with
 | none=>n=0
 | some b=>b<q∧1<b
theorem Zoj (ls:List Lt) (i:Nat):∀ (l:List Nat) (k:Nat),k≤l.length→(∀ j y,j<k→l[j]? = some y→Zci (at' ls y) (at' ls i)=true)→(∀ y,l[k]? = some y→Zci (at' ls y) (at' ls i)=false) →
 ins ls i l=l.take k++i :: l.drop k
 | [],k,hk,_,_=>by
  have:k=0:=by simpa using hk
  subst this; rfl
 | x :: r,0,_,_,h2=>by
  simp only[ins]
  rw[h2 x rfl]
  rfl
 | x :: r,k+1,hk,h1,h2=>by
  simp only[ins]
  rw[if_pos (h1 0 x (by omega) rfl),Zoj ls i r k (by simpa using hk) (fun j y hj hy=>h1 (j+1) y (by omega) hy) (fun y hy=>h2 y hy)]
  rfl
theorem Z5j {ls:List Lt} {k j:Nat} (h:j∈Zfh ls k):j<k:=by
 have:=(Zcu ls k).mem_iff.1 h
 simp only[List.mem_filter,List.mem_range]at this
 exact this.1
theorem Z4n {ls:List Lt} (k:Nat):(Zfh ls k).length≤k:=by
 rw[(Zcu ls k).length_eq]
 exact Nat.le_trans (List.length_filter_le _ _) (by simp)
theorem Z1j {α:Type} {f:α→Option α}:∀ {l:List α},(∀ x,x∈l→f x=some x)→mapO f l=some l
 | [],_=>rfl
 | x :: r,h=>by
  simp only[mapO,h x (List.mem_cons_self ..),Z1j fun y hy=>h y (List.mem_cons_of_mem _ hy)]
theorem Zu0 {get:Nat→Option ABlk} {b n:Nat} {l:List Nat} (h:get b=some (.cells 1 (nums l))):Zah get (n+2) (.sl b 0 l.length)=some (.imm (nums l)):=by
 have hn:(nums l).length=l.length:=by simp[nums]
 have e:((nums l).drop 0).take l.length=nums l:=by rw[List.drop_zero,List.take_of_length_le (by omega)]
 rw[Zah]
 simp only[h,e]
 rw[Z1j (l:=nums l)]
 ·simp[hn]
  rw[Nat.ble_eq_true_of_le (Nat.le_refl _)]
  rfl
 ·intro row hrow
  simp only[nums,List.mem_map]at hrow
  obtain⟨x,_,rfl⟩:=hrow
  rfl
theorem Zyf (l:List Nat):(nums l).length=l.length:=by simp[nums]
set_option maxRecDepth 100000 in
theorem c39 (f:Int) (ls:List Lt) (h:ls.length≤1000) (h0:0<Zaa ls):PCall Tryz.prog 99 [cV f ls] (.imm (nums (axis ls))):=by
 refine Zt2 (n:=2) (by simp[Zag,Zb9]) (by simp only[AVal.closed,Za0]) (Zcs hm Tryz.func99 cf39 (Nat.le_of_ble_eq_true rfl) ?_)
 have hR:=Zb4 ls
 unfold cV
 generalize ls.map rowL=rows at hR
 have hlen:=hR.len
 simp[af39,Zcx,Zbu,Zbk,Zeg,Zc0,Zcc,Zcy,Zeh,Zam,Za2,Zat,Zai,Zau,Zap,Zcb,Zbv,Zav,evE,Env.get,putE,argE,stepD,SMem.at,SMem.app,SMem.get,Zar,AVal.cells,AVal.one,addA,Zc2,Zce,Zaw,Zb6,binA,Za9,unA,eqA,Zb7,Zbp,retS,Zaq,aundef]
 refine Zdz (α:=Nat×Nat×Option Nat) (fun a=>[(4,.int .i64 a.1),(3,outV a.2.2 (Zfh ls a.1).length),(1,.ptr 1 0 0)]) (fun a=>⟨(1,.cells 2 [[.int .i64 f,.imm rows]]) :: outB a.2.2 1 (nums (Zfh ls a.1)),a.2.1⟩)
  (fun a=>ls.length - a.1) (fun a=>a.1≤ls.length∧Zmt a.2.2 a.2.1 (Zfh ls a.1).length∧1<a.2.1) (0,6,none) (by simp[SubS,SubE,SubB,Env.get,SMem.get,Zar,outV,outB,Zfh]) (by simp[Zmt,Zfh]) ?_
 rintro⟨i,q,ob⟩ ⟨hi,hob,hq1⟩
 simp only at hi hob hq1 ⊢
 have hal:=Z4n (ls:=ls) i
 by_cases hlt:i<ls.length
 ·have hrow:=hR.row i hlt
  obtain⟨hil,hrow2⟩:=List.getElem?_eq_some_iff.1 hrow
  have hw1:IntKind.i64.wrap ((i:Int)+1)=(i:Int)+1:=Zae (by omega) (by omega)
  by_cases hk:(at' ls i).k=1
  ·have hax:Zfh ls (i+1)=ins ls i (Zfh ls i):=by simp[Zfh,isP,hk]
   have hin:∀ y,y∈Zfh ls i→y<i:=fun y hy=>Z5j hy
   have hinl:(ins ls i (Zfh ls i)).length=(Zfh ls i).length+1:=(Znw ls i _).length_eq
   generalize Zfh ls i=l at *
   have hnl:(nums l).length=l.length:=Zyf l
   have hall:(nums l).all (fun r=>r.length == 1)=true:=by simp[nums]
   cases ob with
   | none=>
    simp only[Zmt,List.length_eq_zero_iff]at hob
    subst hob
    simp[Zcx,Zbu,Zbk,Zeg,Zc0,Zcc,Zcy,Zeh,Zam,Za2,Zat,Zai,Zau,Zap,Zcb,Zbv,Zav,evE,Env.get,putE,argE,stepD,SMem.at,SMem.app,SMem.get,Zar,AVal.cells,AVal.one,addA,Zc2,Zce,Zaw,Zb6,binA,Za9,unA,eqA,Zb7,Zbp,retS,Zaq,aundef,outV,outB,hlen,hlt,hrow,hrow2,rowL,hk]
    refine Zdz (α:=Nat) (fun a=>[(5,.int .i64 0),(4,.int .i64 i),(3,.nilSl),(1,.ptr 1 0 0)]) (fun a=>⟨[(1,.cells 2 [[.int .i64 f,.imm rows]])],a⟩)
     (fun a=>0) (fun a=>1<a) (q+13) (by simp[SubS,SubE,SubB,Env.get,SMem.get,Zar]) (by omega) ?_
    intro q2 hq2
    simp[Zcx,Zbu,Zbk,Zeg,Zc0,Zcc,Zcy,Zeh,Zam,Za2,Zat,Zai,Zau,Zap,Zcb,Zbv,Zav,evE,Env.get,putE,argE,stepD,SMem.at,SMem.app,SMem.get,Zar,AVal.cells,AVal.one,addA,Zc2,Zce,Zaw,Zb6,binA,Za9,unA,eqA,Zb7,Zbp,retS,Zaq,aundef,Zdt,Zcv,Zb0,FT.indep,Zcl,Zch,Zdh,subL,in1,Zbd,Zbb,Za5,Zbq,Zeb,Zbe,Zbh,Zan,Zfl,Zb8,room]
    exact⟨(i+1,q2+100,some (q2+20+6)),by simp; omega,by simp[hax,ins,Zmt]<;>omega,by simp[SubS,SubE,SubB,Env.get,SMem.get,Zar,outV,outB,hax,ins,hw1]<;>omega⟩
   | some b=>
    simp only[Zmt]at hob
    have hb1:¬b=1:=by omega
    have hb1':¬1=b:=by omega
    simp[Zcx,Zbu,Zbk,Zeg,Zc0,Zcc,Zcy,Zeh,Zam,Za2,Zat,Zai,Zau,Zap,Zcb,Zbv,Zav,evE,Env.get,putE,argE,stepD,SMem.at,SMem.app,SMem.get,Zar,AVal.cells,AVal.one,addA,Zc2,Zce,Zaw,Zb6,binA,Za9,unA,eqA,Zb7,Zbp,retS,Zaq,aundef,outV,outB,hlen,hlt,hrow,hrow2,rowL,hk]
    refine Zdz (α:=Nat×Nat) (fun a=>[(5,.int .i64 a.1),(4,.int .i64 i),(3,.sl b 0 l.length),(1,.ptr 1 0 0)]) (fun a=>⟨[(1,.cells 2 [[.int .i64 f,.imm rows]]),(b,.cells 1 (nums l))],a.2⟩)
     (fun a=>l.length - a.1) (fun a=>a.1≤l.length∧q≤a.2 ∧ ∀ j y,j<a.1→l[j]? = some y→Zci (at' ls y) (at' ls i)=true) (0,q+13) (by simp[SubS,SubE,SubB,Env.get,SMem.get,Zar,hb1]) (by simp) ?_
    rintro⟨k,q2⟩ ⟨hkl,hq2,hpre⟩
    simp only at hkl hq2 hpre ⊢
    have hwk:IntKind.i64.wrap ((k:Int)+1)=(k:Int)+1:=Zae (by omega) (by omega)
    by_cases hkl2:k<l.length
    ·have hy:l[k]? = some l[k]:=List.getElem?_eq_getElem hkl2
     have hny:(nums l)[k]? = some [AVal.int .i64 (l[k]:Int)]:=by rw[nums,List.getElem?_map,hy]; rfl
     obtain⟨hnil,hny2⟩:=List.getElem?_eq_some_iff.1 hny
     have hyi:=hin _ (List.getElem_mem hkl2)
     generalize l[k]=y at *
     have hrowy:=hR.row y (by omega)
     obtain⟨hily,hrowy2⟩:=List.getElem?_eq_some_iff.1 hrowy
     have h66:=c66 (at' ls y) (at' ls i)
     simp[Zcx,Zbu,Zbk,Zeg,Zc0,Zcc,Zcy,Zeh,Zam,Za2,Zat,Zai,Zau,Zap,Zcb,Zbv,Zav,evE,Env.get,putE,argE,stepD,SMem.at,SMem.app,SMem.get,Zar,AVal.cells,AVal.one,addA,Zc2,Zce,Zaw,Zb6,binA,Za9,unA,eqA,Zb7,Zbp,retS,Zaq,aundef,Zdt,Zcv,Zb0,FT.indep,Zcl,Zch,Zdh,subL,in1,Zbd,Zbb,Za5,hkl2,hny,hny2,hrow,hrow2,hrowy,hrowy2,rowL,hb1,hb1']
     refine⟨_,h66.x _ _ _,?_⟩
     cases hkey:Zci (at' ls y) (at' ls i)with
     | true=>
      simp[Zcx,Zbu,Zbk,Zeg,Zc0,Zcc,Zcy,Zeh,Zam,Za2,Zat,Zai,Zau,Zap,Zcb,Zbv,Zav,evE,Env.get,putE,argE,stepD,SMem.at,SMem.app,SMem.get,Zar,AVal.cells,AVal.one,addA,Zc2,Zce,Zaw,Zb6,binA,Za9,unA,eqA,Zb7,Zbp,retS,Zaq,aundef,Zdt,Zcv,Zb0,FT.indep,Zcl,Zch,Zdh,subL,in1,Zbd,Zbb,Za5,hwk]
      exact⟨(k+1,q2+100),by simp; omega,⟨by simp; omega,by simp; omega,fun j z hj hz=>by
       simp only at hj
       by_cases hjk:j=k
       ·subst hjk; rw[hy]at hz; injection hz with hz; subst hz; exact hkey
       ·exact hpre j z (by omega) hz⟩,by simp[SubS,SubE,SubB,Env.get,SMem.get,Zar,hb1,hb1']<;>omega⟩
     | false=>
      have hins:=Zoj ls i l k hkl hpre (fun z hz=>by rw[hy]at hz; injection hz with hz; subst hz; exact hkey)
      simp[Zcx,Zbu,Zbk,Zeg,Zc0,Zcc,Zcy,Zeh,Zam,Za2,Zat,Zai,Zau,Zap,Zcb,Zbv,Zav,evE,Env.get,putE,argE,stepD,SMem.at,SMem.app,SMem.get,Zar,AVal.cells,AVal.one,addA,Zc2,Zce,Zaw,Zb6,binA,Za9,unA,eqA,Zb7,Zbp,retS,Zaq,aundef]
      obtain⟨A,hA⟩:∃ A,(nums l).take k=A:=⟨_,rfl⟩
      obtain⟨B,hB⟩:∃ B,(nums l).drop k=B:=⟨_,rfl⟩
      have hAl:A.length=k:=by rw[← hA,List.length_take]; omega
      have hBl:B.length=l.length - k:=by rw[← hB,List.length_drop,hnl]
      have hAB:nums (ins ls i l)=A++[AVal.int .i64 i] :: B:=by rw[hins,← hA,← hB]; simp[nums]
      have hA1:A.take k=A:=List.take_of_length_le (by omega)
      have hB1:B.take (l.length - k)=B:=List.take_of_length_le (by omega)
      have hkr:k≤1048576:=by omega
      have hkr1:k+1≤1048576:=by omega
      have hbr1:1+(l.length - k)≤1048576:=by omega
      have hbr2:k+1+(l.length - k)≤1048576:=by omega
      have hq0:∀ i,¬b=q2+20+i:=fun i=>by omega
      have hq0':∀ i,¬q2+20+i=b:=fun i=>by omega
      have hq00:∀ i,¬q2+20+i=1:=fun i=>by omega
      have hq00':∀ i,¬1=q2+20+i:=fun i=>by omega
      have hk1:¬(k+1≤k):=by omega
      have hlk:k+1+(l.length - k)=l.length+1:=by omega
      have hB0:¬B=[]:=by intro e; subst e; simp at hBl; omega
      rcases Nat.eq_zero_or_pos k with hk0|hk0
      ·subst hk0
       have hA0:A=[]:=List.length_eq_zero_iff.1 hAl
       subst hA0
       simp at hB
       simp only[Nat.sub_zero,Nat.zero_add]at *
       have hn1:¬(1+l.length≤1):=by omega
       simp[Zcx,Zbu,Zbk,Zeg,Zc0,Zcc,Zcy,Zeh,Zam,Za2,Zat,Zai,Zau,Zap,Zcb,Zbv,Zav,evE,Env.get,putE,argE,stepD,SMem.at,SMem.app,SMem.get,Zar,AVal.cells,AVal.one,addA,Zc2,Zce,Zaw,Zb6,binA,Za9,unA,eqA,Zb7,Zbp,retS,Zaq,aundef,Zdt,Zcv,Zb0,FT.indep,Zcl,Zch,Zdh,subL,in1,Zbd,Zbb,Za5,Zbq,Zeb,Zbe,Zbh,Zan,Zfl,Zb8,room,hb1,hb1',hkl,hnl,hB,hBl,hB1,hB0,hbr1,hn1,hq0,hq0',hq00]
       exact⟨(i+1,q2+100,some (q2+20+10)),by simp; omega,by simp[hax,hinl,Zmt]; omega,by simp[SubS,SubE,SubB,Env.get,SMem.get,Zar,outV,outB,hax,hinl,hAB,hw1,hlk,hq00']<;>omega⟩
      ·have hn1:¬(l.length≤k):=by omega
       have hn3:l.length≤1048575:=by omega
       have hA2:(A++[[AVal.int .i64 (i:Int)]]).take (k+1)=A++[[AVal.int .i64 (i:Int)]]:=List.take_of_length_le (by simp[hAl])
       have hA0:¬A=[]:=by intro e; subst e; simp at hAl; omega
       simp[Zcx,Zbu,Zbk,Zeg,Zc0,Zcc,Zcy,Zeh,Zam,Za2,Zat,Zai,Zau,Zap,Zcb,Zbv,Zav,evE,Env.get,putE,argE,stepD,SMem.at,SMem.app,SMem.get,Zar,AVal.cells,AVal.one,addA,Zc2,Zce,Zaw,Zb6,binA,Za9,unA,eqA,Zb7,Zbp,retS,Zaq,aundef,Zdt,Zcv,Zb0,FT.indep,Zcl,Zch,Zdh,subL,in1,Zbd,Zbb,Za5,Zbq,Zeb,Zbe,Zbh,Zan,Zfl,Zb8,room,hb1,hb1',hkl,hnl,hA,hB,hAl,hBl,hA1,hB1,hA0,hB0,hkr,hkr1,hbr2,hk1,hn1,hn3,hA2,hlk,hq0,hq0',hq00]
       exact⟨(i+1,q2+100,some (q2+20+10)),by simp; omega,by simp[hax,hinl,Zmt]; omega,by simp[SubS,SubE,SubB,Env.get,SMem.get,Zar,outV,outB,hax,hinl,hAB,hw1,hlk,hq00']<;>omega⟩
    ·have he:k=l.length:=by omega
     have hins:=Zoj ls i l k hkl hpre (fun z hz=>by rw[List.getElem?_eq_none (by omega)]at hz; cases hz)
     have hkl3:¬k<l.length:=hkl2
     simp[Zcx,Zbu,Zbk,Zeg,Zc0,Zcc,Zcy,Zeh,Zam,Za2,Zat,Zai,Zau,Zap,Zcb,Zbv,Zav,evE,Env.get,putE,argE,stepD,SMem.at,SMem.app,SMem.get,Zar,AVal.cells,AVal.one,addA,Zc2,Zce,Zaw,Zb6,binA,Za9,unA,eqA,Zb7,Zbp,retS,Zaq,aundef,Zdt,Zcv,Zb0,FT.indep,Zcl,Zch,Zdh,subL,in1,Zbd,Zbb,Za5,hkl3]
     obtain⟨A,hA⟩:∃ A,(nums l).take k=A:=⟨_,rfl⟩
     obtain⟨B,hB⟩:∃ B,(nums l).drop k=B:=⟨_,rfl⟩
     have hAl:A.length=k:=by rw[← hA,List.length_take]; omega
     have hBl:B.length=l.length - k:=by rw[← hB,List.length_drop,hnl]
     have hAB:nums (ins ls i l)=A++[AVal.int .i64 i] :: B:=by rw[hins,← hA,← hB]; simp[nums]
     have hA1:A.take k=A:=List.take_of_length_le (by omega)
     have hB1:B.take (l.length - k)=B:=List.take_of_length_le (by omega)
     have hkr:k≤1048576:=by omega
     have hkr1:k+1≤1048576:=by omega
     have hbr1:1+(l.length - k)≤1048576:=by omega
     have hbr2:k+1+(l.length - k)≤1048576:=by omega
     have hq0:∀ i,¬b=q2+20+i:=fun i=>by omega
     have hq0':∀ i,¬q2+20+i=b:=fun i=>by omega
     have hq00:∀ i,¬q2+20+i=1:=fun i=>by omega
     have hq00':∀ i,¬1=q2+20+i:=fun i=>by omega
     have hk1:¬(k+1≤k):=by omega
     have hlk:k+1+(l.length - k)=l.length+1:=by omega
     have hB0:B=[]:=List.length_eq_zero_iff.1 (by omega)
     rcases Nat.eq_zero_or_pos k with hk0|hk0
     ·subst hk0
      have hl0:l=[]:=List.length_eq_zero_iff.1 he.symm
      subst hl0
      simp[Zcx,Zbu,Zbk,Zeg,Zc0,Zcc,Zcy,Zeh,Zam,Za2,Zat,Zai,Zau,Zap,Zcb,Zbv,Zav,evE,Env.get,putE,argE,stepD,SMem.at,SMem.app,SMem.get,Zar,AVal.cells,AVal.one,addA,Zc2,Zce,Zaw,Zb6,binA,Za9,unA,eqA,Zb7,Zbp,retS,Zaq,aundef,Zdt,Zcv,Zb0,FT.indep,Zcl,Zch,Zdh,subL,in1,Zbd,Zbb,Za5,Zbq,Zeb,Zbe,Zbh,Zan,Zfl,Zb8,room,hb1,hb1',hq0,hq0',hq00]
      exact⟨(i+1,q2+100,some (q2+20+6)),by simp; omega,by simp[hax,hinl,ins,Zmt]<;>omega,by simp[SubS,SubE,SubB,Env.get,SMem.get,Zar,outV,outB,hax,hinl,ins,hw1,hq00']<;>omega⟩
     ·have hA0:¬A=[]:=by intro e; subst e; simp at hAl; omega
      simp[Zcx,Zbu,Zbk,Zeg,Zc0,Zcc,Zcy,Zeh,Zam,Za2,Zat,Zai,Zau,Zap,Zcb,Zbv,Zav,evE,Env.get,putE,argE,stepD,SMem.at,SMem.app,SMem.get,Zar,AVal.cells,AVal.one,addA,Zc2,Zce,Zaw,Zb6,binA,Za9,unA,eqA,Zb7,Zbp,retS,Zaq,aundef,Zdt,Zcv,Zb0,FT.indep,Zcl,Zch,Zdh,subL,in1,Zbd,Zbb,Za5,Zbq,Zeb,Zbe,Zbh,Zan,Zfl,Zb8,room,hb1,hb1',hkl,hnl,hA,hB,hAl,hBl,hA1,hB1,hA0,hB0,hkr,hkr1,hbr2,hk1,hq0,hq0',hq00]
      exact⟨(i+1,q2+100,some (q2+20+6)),by simp; omega,by simp[hax,hinl,Zmt]; omega,by simp[SubS,SubE,SubB,Env.get,SMem.get,Zar,outV,outB,hax,hinl,hAB,hB0,← he,hw1,hq00']<;>omega⟩
  ·have hax:Zfh ls (i+1)=Zfh ls i:=by simp[Zfh,isP,hk]
   cases ob with
   | none=>
    simp[Zcx,Zbu,Zbk,Zeg,Zc0,Zcc,Zcy,Zeh,Zam,Za2,Zat,Zai,Zau,Zap,Zcb,Zbv,Zav,evE,Env.get,putE,argE,stepD,SMem.at,SMem.app,SMem.get,Zar,AVal.cells,AVal.one,addA,Zc2,Zce,Zaw,Zb6,binA,Za9,unA,eqA,Zb7,Zbp,retS,Zaq,aundef,outV,outB,hlen,hlt,hrow,hrow2,rowL,hk,hw1]
    exact⟨(i+1,q+100,none),by simp; omega,⟨by simp<;>omega,by simp only[hax]; exact hob,by simp<;>omega⟩,by simp[SubS,SubE,SubB,Env.get,SMem.get,Zar,outV,outB,hax]<;>omega⟩
   | some b=>
    simp only[Zmt]at hob
    have hb1:¬1=b:=by omega
    simp[Zcx,Zbu,Zbk,Zeg,Zc0,Zcc,Zcy,Zeh,Zam,Za2,Zat,Zai,Zau,Zap,Zcb,Zbv,Zav,evE,Env.get,putE,argE,stepD,SMem.at,SMem.app,SMem.get,Zar,AVal.cells,AVal.one,addA,Zc2,Zce,Zaw,Zb6,binA,Za9,unA,eqA,Zb7,Zbp,retS,Zaq,aundef,outV,outB,hlen,hlt,hrow,hrow2,rowL,hk,hw1]
    exact⟨(i+1,q+100,some b),by simp; omega,by simp[hax,Zmt]; omega,by simp[SubS,SubE,SubB,Env.get,SMem.get,Zar,outV,outB,hax]<;>omega⟩
 ·have he:i=ls.length:=by omega
  subst he
  have hpos:0<(Zfh ls ls.length).length:=by
   have:=Zas ls
   unfold axis at this
   omega
  cases ob with
  | none=>simp only[Zmt]at hob; omega
  | some b=>
   simp only[Zmt]at hob
   have hb1:¬b=1:=by omega
   simp[Zcx,Zbu,Zbk,Zeg,Zc0,Zcc,Zcy,Zeh,Zam,Za2,Zat,Zai,Zau,Zap,Zcb,Zbv,Zav,evE,Env.get,putE,argE,stepD,SMem.at,SMem.app,SMem.get,Zar,AVal.cells,AVal.one,addA,Zc2,Zce,Zaw,Zb6,binA,Za9,unA,eqA,Zb7,Zbp,retS,Zaq,aundef,hlen,outV,outB]
   exact Zu0 (by simp[SMem.mem,SMem.get,Zar,hb1])
end Go.Known
end
