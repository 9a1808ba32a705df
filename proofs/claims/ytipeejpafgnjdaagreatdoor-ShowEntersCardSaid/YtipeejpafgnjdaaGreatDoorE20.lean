/- Part 20 of the proof: Rb. -/
import Derived.Test.YtipeejpafgnjdaaGreatDoorE12
import Derived.Test.YtipeejpafgnjdaaGreatDoorE19
set_option linter.all false
namespace Go.Known
open Go Go.AE Go.Proofs
open Go.Plain
attribute [local simp] Zgs Zdl Zcr Ziu Zen Zeo Zem Zgm Zjc Zao Za1 Zau Zak Zat Zar Zdh Zer Zgk Zgj Zga Zi8 Zej Zo5 Zgd Zgo Zev Zgg Zgq Zjn Zf9 Zf8 Zel Zi9 Zgc Zei Zes Zgf Zgw Zgu Zgx Zeu Zdk Zi1 Zgh Zjd Zo3 Zdp Zet Zdo Zjm Zge Zep Zi6 Zjl Zeh Zek Zgn Zi4 Zje Zo0 Zix Zgb Zdf Zdg Zdi Zde Zds Zoq Zh8 Ziw Env.get argE SMem.at SMem.app SMem.get Zaw Zb1 AVal.cells AVal.one Zc0 Zb6 Zjj Zjk Zjo Zi7 Ziv Zi3 Ziz Zi0 Zji Zjp Zja Zjb Zi5 unA Zbz Zbg Zha Zfb Zas aundef Zcs Zdq Zeq Zjh Zf7 recF memN indF Zhc retN oneK Zbw Zd7 SubR SubRE SubRB InjK InjA qOf Zmn AVal.ren renL Zam ABlk.ren
abbrev bls (l:List Bool):List (List AVal):=l.map fun b=>[AVal.bool b]
theorem Zac (q:Nat→Nat) (l:List Nat):Zam q (nums l)=nums l:=Zaa q _ (Zbc l)
theorem Zlo:∀ (l:List Bool),Zap (bls l)=true
 | []=>rfl
 | x :: r=>by simp only [bls,List.map_cons,Zap]; exact Zlo r
theorem Zaq (q:Nat→Nat) (l:List Bool):Zam q (bls l)=bls l:=Zaa q _ (Zlo l)
theorem Zm0 (l:List Nat) (i x:Nat):(nums l).set i [AVal.int .i64 (x:Int)]=nums (l.set i x):=by rw [nums,nums,List.map_set]
theorem Zqy (l:List Bool) (i:Nat) (x:Bool):(bls l).set i [AVal.bool x]=bls (l.set i x):=by rw [bls,bls,List.map_set]
theorem Zmy (n x:Nat):nums (List.replicate n x)=List.replicate n [AVal.int .i64 (x:Int)]:=by simp [nums]
theorem Zqm (n:Nat) (b:Bool):bls (List.replicate n b)=List.replicate n [AVal.bool b]:=by simp [bls]
theorem Zca {l:List Nat} {i x:Nat} (h:l[i]? = some x):(nums l)[i]? = some [AVal.int .i64 (x:Int)]:=by rw [nums,List.getElem?_map,h]; rfl
theorem Zh3 {l:List Bool} {i:Nat} {x:Bool} (h:l[i]? = some x):(bls l)[i]? = some [AVal.bool x]:=by rw [bls,List.getElem?_map,h]; rfl
theorem Zbt (l:List Nat):(nums l).length=l.length:=by rw [nums,List.length_map]
theorem getE {α:Type} {l:List α} {i:Nat} {x:α} (h:l[i]? = some x):∃ hi:i<l.length,l[i]=x:=List.getElem?_eq_some_iff.1 h
theorem Zog {ls:List Lt} {i:Nat} (h:i<ls.length):down ls (i+1)=if isP (at' ls i) then !down ls i else down ls i:=by
 unfold down Zah
 rw [Zc2 h]
 cases isP (at' ls i) with
 | false=>simp
 | true=>
  rw [Bool.eq_iff_iff]
  simp
  omega
abbrev dV1 (F n m:Nat) (rows:List (List AVal)):ABlk:=.cells 7 [[.int .i64 (F:Int),.imm rows,.sl 3 0 n,.sl 5 0 m,.sl 4 0 n,.nilMap,.sl 2 0 (F+1)]]
abbrev dR (F:Nat) (ls:List Lt) (rows:List (List AVal)):SMem:=
 ⟨[(1,dV1 F ls.length (Zah ls) rows),(2,.cells 1 (nums (cnts F ls))),(3,.cells 1 (bls (Zbp ls.length ls.length (Zc4 ls) false))),(4,.cells 1 (nums (Zbp ls.length ls.length (Zb7 ls) 0))),(5,.cells 1 (nums (Zfu ls (Zah ls) ls.length)))],6⟩
set_option maxRecDepth 100000 in
set_option maxHeartbeats 4000000 in
theorem c133 (F:Nat) (ls:List Lt) (h:ls.length≤1000) (hF:F≤1000) (hG:Zoa F ls) :
 Ctr Tryz.prog 169 [.ptr 1 0 0] (dM1 F (ls.map rowL)) fun r m=>(rkF ls (Zah ls) ls.length=true∧r=.bool true∧m=dR F ls (ls.map rowL))∨(rkF ls (Zah ls) ls.length=false∧r=.bool false∧m=⟨[],2⟩):=by
 refine Zhq hm Tryz.func169 cf133 rfl rfl fun K hK=>?_
 have hR:=Zbx ls
 have hrr:∀ q,Zam q (ls.map rowL)=ls.map rowL:=fun q=>Zaa q _ (Zab ls)
 have hyes:rkF ls (Zah ls) ls.length=true → ∀ l m,SubR 2 l [(0,.bool true)] (dR F ls (ls.map rowL)) [(0,.bool true)] m→EndK 2 K (.bool true) m:=
  fun hr l m hs=>endK (hK _ _ (.inl ⟨hr,rfl,rfl⟩)) l hs
 have hno:rkF ls (Zah ls) ls.length=false → ∀ l m,SubR 2 l [(0,.bool false)] ⟨[],2⟩ [(0,.bool false)] m→EndK 2 K (.bool false) m:=
  fun hr l m hs=>endK (hK _ _ (.inr ⟨hr,rfl,rfl⟩)) l hs
 clear hK
 generalize ls.map rowL=rows at *
 have hlen:=hR.len
 have hpl:Zah ls≤ls.length:=Za9
 have hwF:IntKind.i64.wrap ((F:Int)+1)=((F+1:Nat):Int):=by rw [Zad (by omega) (by omega)]; rfl
 have hF0:F+1≤1048576:=by omega
 have hn0:ls.length≤1048576:=by omega
 have e1:List.replicate (F+1) [AVal.int .i64 0]=nums (cnts F (ls.take 0)):=by rw [List.take_zero,Z19,Zmy]; rfl
 have e2:List.replicate ls.length [AVal.bool false]=bls (Zbp ls.length 0 (Zc4 ls) false):=by rw [Zl2,Zqm]
 have e3:List.replicate ls.length [AVal.int .i64 0]=nums (Zbp ls.length 0 (Zb7 ls) 0):=by rw [Zl2,Zmy]; rfl
 simp [-Int.natCast_add,room,hwF,hF0,hlen,hn0,e1,e2,e3]
 refine Zay (α:=Nat) (fun i=>[(50,.int .i64 i),(49,.int .i64 ls.length),(48,.imm rows),(3,.bool (down ls i)),(0,.ptr 1 0 0)])
  (fun i=>⟨[(1,.cells 7 [[.int .i64 (F:Int),.imm rows,.sl 3 0 ls.length,.nilSl,.sl 4 0 ls.length,.nilMap,.sl 2 0 (F+1)]]),(2,.cells 1 (nums (cnts F (ls.take i)))),(3,.cells 1 (bls (Zbp ls.length i (Zc4 ls) false))),(4,.cells 1 (nums (Zbp ls.length 0 (Zb7 ls) 0)))],5⟩)
  (fun i=>ls.length - i) (fun i=>i≤ls.length) 0 [(2,10),(3,21),(4,32)] (by simp [hrr,Zac,Zaq,down,Zah,cntP]) (by simp) ?_
 intro i hi N hN
 try simp only at hi hN ⊢
 by_cases hlt:i<ls.length
 · have hrow:=hR.row i hlt
   obtain⟨_,hrow2⟩:=getE hrow
   have hw1:IntKind.i64.wrap ((i:Int)+1)=(i:Int)+1:=Zad (by omega) (by omega)
   have hnext:ls.take (i+1)=ls.take i++[at' ls i]:=by
    rw [List.take_add_one,at',List.getD,List.getElem?_eq_getElem hlt]
    rfl
   have hds:=Zog hlt
   by_cases hk:(at' ls i).k=1
   · have hp:isP (at' ls i)=true:=by simp [isP,hk]
     obtain⟨hg1,hg2⟩:=hG _ (Zcc hlt) hp
     obtain⟨G,hg⟩:∃ G:Nat,(at' ls i).g=(G:Nat):=⟨(at' ls i).g.toNat,by omega⟩
     have hGF:G≤F:=by omega
     have hGF1:G<F+1:=by omega
     have hc:=Zca (Zf1 (ls:=ls.take i) hGF)
     have hcs:=Zyz (F:=F) (ls:=ls.take i) hp hg hGF
     have hcl:inG G (ls.take i)≤i:=Zgl i
     have hwc:IntKind.i64.wrap ((inG G (ls.take i):Nat)+1:Int)=((inG G (ls.take i)+1:Nat):Int):=by rw [Zad (by omega) (by omega)]; rfl
     have hC':=Zm0 (cnts F (ls.take i)) G (inG G (ls.take i)+1)
     rw [hcs,← hnext] at hC'
     have hCl:(nums (cnts F (ls.take i))).length=F+1:=by rw [Zbt,Zce]
     have hDv:Zc4 ls i=down ls i:=by simp [Zc4,hp]
     have hD':=Zqy (Zbp ls.length i (Zc4 ls) false) i (Zc4 ls i)
     rw [Znc hlt,hDv] at hD'
     have hDg:=Zh3 (Zdz (i:=i) (v:=Zc4 ls) (d:=false) hlt)
     have hDl:(bls (Zbp ls.length i (Zc4 ls) false)).length=ls.length:=by rw [bls,List.length_map,Zb0]
     rw [if_pos hp] at hds
     simp only [Nat.lt_irrefl,if_false] at hDg
     generalize nums (cnts F (ls.take i))=C at *
     generalize bls (Zbp ls.length i (Zc4 ls) false)=D at *
     obtain⟨_,hc2⟩:=getE hc
     obtain⟨_,hDg2⟩:=getE hDg
     simp [-Int.natCast_add,hlen,hlt,hrow,hrow2,rowL,hk,hg,hc,hc2,hCl,hGF,hGF1,hwc,hC',hDg,hDg2,hDl,hD',hw1]
     exact hN (i+1) [] _ _ (by omega) (by omega) (by simp [hrr,Zac,Zaq,hds])
   · have hp:isP (at' ls i)=false:=by simp [isP,hk]
     have hcs:=Zy8 (F:=F) (ls:=ls.take i) hp
     rw [← hnext] at hcs
     have hD:=Zpw (n:=ls.length) (i:=i) (v:=Zc4 ls) (d:=false) (by simp [Zc4,hp])
     rw [if_neg (by simp [hp])] at hds
     simp [-Int.natCast_add,hlen,hlt,hrow,hrow2,rowL,hk,hw1]
     exact hN (i+1) [] _ _ (by omega) (by omega) (by simp [hrr,Zac,Zaq,hds,hcs,hD])
 have he:i=ls.length:=by omega
 subst he
 clear hN
 rw [List.take_length]
 have e4:List.replicate (F+1) [AVal.int .i64 0]=nums (Zbp (F+1) 0 (tot ls) 0):=by rw [Zl2,Zmy]; rfl
 simp [-Int.natCast_add,room,hlen,hwF,hF0,e4]
 refine Zay (α:=Nat) (fun g=>[(90,.int .i64 g),(89,.int .i64 ((F+1:Nat):Int)),(88,.sl 2 0 (F+1)),(7,.int .i64 (tot ls g:Nat)),(6,.sl 5 0 (F+1)),(0,.ptr 1 0 0)])
  (fun g=>⟨[(1,.cells 7 [[.int .i64 (F:Int),.imm rows,.sl 3 0 ls.length,.nilSl,.sl 4 0 ls.length,.nilMap,.sl 2 0 (F+1)]]),(2,.cells 1 (nums (cnts F ls))),(3,.cells 1 (bls (Zbp ls.length ls.length (Zc4 ls) false))),(4,.cells 1 (nums (Zbp ls.length 0 (Zb7 ls) 0))),(5,.cells 1 (nums (Zbp (F+1) g (tot ls) 0)))],6⟩)
  (fun g=>F+1 - g) (fun g=>g≤F+1) 0 [(5,12)] (by simp [hrr,Zac,Zaq,Z1u hG]) (by simp) ?_
 intro g hg N hN
 try simp only at hg hN ⊢
 by_cases hlt:g<F+1
 · have hw1:IntKind.i64.wrap ((g:Int)+1)=(g:Int)+1:=Zad (by omega) (by omega)
   have hc:=Zca (Zf1 (ls:=ls) (show g≤F by omega))
   have hCl:(nums (cnts F ls)).length=F+1:=by rw [Zbt,Zce]
   have hts:=Zky ls g
   have htl:=Z2j ls (g+1)
   have hwt:IntKind.i64.wrap ((tot ls g:Nat)+(inG g ls:Nat):Int)=((tot ls (g+1):Nat):Int):=by rw [Zad (by omega) (by omega)]; omega
   have hFg:=Zca (Zdz (i:=g) (v:=tot ls) (d:=0) hlt)
   have hFs:=Zm0 (Zbp (F+1) g (tot ls) 0) g (tot ls g)
   rw [Znc hlt] at hFs
   have hFl:(nums (Zbp (F+1) g (tot ls) 0)).length=F+1:=by rw [Zbt,Zb0]
   simp only [Nat.lt_irrefl,if_false] at hFg
   generalize nums (Zbp (F+1) g (tot ls) 0)=T at *
   generalize hCe:nums (cnts F ls)=C at *
   obtain⟨_,hc2⟩:=getE hc
   obtain⟨_,hFg2⟩:=getE hFg
   have hrC:∀ q,Zam q C=C:=fun q=>by rw [← hCe]; exact Zac q _
   simp [-Int.natCast_add,hlt,hc,hc2,hCl,hwt,hFg,hFg2,hFs,hFl,hw1]
   exact hN (g+1) [] _ _ (by omega) (by omega) (by simp [hrr,Zac,Zaq,hrC])
 have he:g=F+1:=by omega
 subst he
 clear hN
 rw [Zz5 hG]
 have hp0:Zah ls≤1048576:=by omega
 have e5:List.replicate (Zah ls) [AVal.int .i64 0]=nums (Zfu ls (Zah ls) 0):=by rw [Zfu,Zmy]; rfl
 have e6:List.replicate (Zah ls) [AVal.bool false]=bls (Zcy ls (Zah ls) 0):=by rw [Zcy,Zqm]
 simp [-Int.natCast_add,room,hlen,hp0,e5,e6]
 refine Zay (α:=Nat) (fun i=>[(116,.int .i64 i),(115,.int .i64 ls.length),(114,.imm rows),(10,.sl 7 0 (Zah ls)),(6,.sl 6 0 (F+1)),(0,.ptr 1 0 0)])
  (fun i=>⟨[(1,dV1 F ls.length (Zah ls) rows),(2,.cells 1 (nums (cnts F ls))),(3,.cells 1 (bls (Zbp ls.length ls.length (Zc4 ls) false))),(4,.cells 1 (nums (Zbp ls.length i (Zb7 ls) 0))),(5,.cells 1 (nums (Zfu ls (Zah ls) i))),(6,.cells 1 (nums (Zbp (F+1) (F+1) (tot ls) 0))),(7,.cells 1 (bls (Zcy ls (Zah ls) i)))],8⟩)
  (fun i=>ls.length - i) (fun i=>i≤ls.length∧rkF ls (Zah ls) i=true) 0 [(6,5),(5,9),(7,14)] (by simp [hrr,Zac,Zaq]) (by simp [rkF]) ?_
 rintro i ⟨hi,hrk⟩ N hN
 try simp only at hi hrk hN ⊢
 by_cases hlt:i<ls.length
 · have hrow:=hR.row i hlt
   obtain⟨_,hrow2⟩:=getE hrow
   have hw1:IntKind.i64.wrap ((i:Int)+1)=(i:Int)+1:=Zad (by omega) (by omega)
   by_cases hk:(at' ls i).k=1
   · have hp:isP (at' ls i)=true:=by simp [isP,hk]
     have hin:=Zcc hlt
     obtain⟨hg1,hg2⟩:=hG _ hin hp
     have hrs:rkF ls (Zah ls) (i+1)=(decide (1≤(at' ls i).r)&&decide ((at' ls i).r≤(inG (at' ls i).g ls:Nat)) && !(Zcy ls (Zah ls) i).getD (pos ls (at' ls i)) true):=by
      simp [rkF,hrk,hp]
     have hbad:rkF ls (Zah ls) (i+1)=false→rkF ls (Zah ls) ls.length=false:=fun hb=>by
      cases hq:rkF ls (Zah ls) ls.length with
      | false=>rfl
      | true=>rw [rkF_le (show i+1≤ls.length by omega) hq] at hb; cases hb
     by_cases hr1:(at' ls i).r<1
     · simp [-Int.natCast_add,hlen,hlt,hrow,hrow2,rowL,hk,hr1]
       exact hno (hbad (by rw [hrs]; simp; omega)) [] _ (by simp)
     obtain⟨G,hg⟩:∃ G:Nat,(at' ls i).g=(G:Nat):=⟨(at' ls i).g.toNat,by omega⟩
     have hGF:G≤F:=by omega
     have hGF1:G<F+1:=by omega
     have hc:=Zca (Zf1 (ls:=ls) hGF)
     have hCl:(nums (cnts F ls)).length=F+1:=by rw [Zbt,Zce]
     by_cases hr2:(inG (G:Nat) ls:Nat)<(at' ls i).r
     · generalize nums (cnts F ls)=C at *
       obtain⟨_,hc2⟩:=getE hc
       simp [-Int.natCast_add,hlen,hlt,hrow,hrow2,rowL,hk,hr1,hg,hc,hc2,hCl,hGF,hGF1,hr2]
       exact hno (hbad (by rw [hrs,hg]; simp; omega)) [] _ (by simp)
     have hpos:=Zuj hG hin hp (by omega) (by rw [hg]; omega)
     have hpe:=Zvi (ls:=ls) hg
     have hFg:=Zca (Zdz (n:=F+1) (i:=F+1) (v:=tot ls) (d:=0) (j:=G) hGF1)
     rw [if_pos hGF1] at hFg
     have hFl:(nums (Zbp (F+1) (F+1) (tot ls) 0)).length=F+1:=by rw [Zbt,Zb0]
     have hwa:IntKind.i64.wrap ((tot ls G:Nat)+(at' ls i).r)=((pos ls (at' ls i)+1:Nat):Int):=by rw [Zad (by omega) (by omega)]; omega
     have hwb:IntKind.i64.wrap (((pos ls (at' ls i)+1:Nat):Int) - 1)=((pos ls (at' ls i):Nat):Int):=by rw [Zad (by omega) (by omega)]; omega
     have htl:=Zg9 ls (Zah ls) i
     have hxl:=Zfy ls (Zah ls) i
     obtain⟨tb,htb⟩:∃ tb,(Zcy ls (Zah ls) i)[pos ls (at' ls i)]? = some tb:=⟨_,List.getElem?_eq_getElem (by omega)⟩
     have htg:(Zcy ls (Zah ls) i).getD (pos ls (at' ls i)) true=tb:=by rw [List.getD,htb]; rfl
     have htb':=Zh3 htb
     have hTl:(bls (Zcy ls (Zah ls) i)).length=Zah ls:=by rw [bls,List.length_map,htl]
     have hTs:=Zqy (Zcy ls (Zah ls) i) (pos ls (at' ls i)) true
     have hT1:(Zcy ls (Zah ls) i).set (pos ls (at' ls i)) true=Zcy ls (Zah ls) (i+1):=by simp [Zcy,hp]
     rw [hT1] at hTs
     have hXl:(nums (Zfu ls (Zah ls) i)).length=Zah ls:=by rw [Zbt,hxl]
     have hXs:=Zm0 (Zfu ls (Zah ls) i) (pos ls (at' ls i)) i
     have hX1:(Zfu ls (Zah ls) i).set (pos ls (at' ls i)) i=Zfu ls (Zah ls) (i+1):=by simp [Zfu,hp]
     rw [hX1] at hXs
     obtain⟨xv,hxv⟩:∃ xv,(Zfu ls (Zah ls) i)[pos ls (at' ls i)]? = some xv:=⟨_,List.getElem?_eq_getElem (by omega)⟩
     have hxv':=Zca hxv
     have hPl:(nums (Zbp ls.length i (Zb7 ls) 0)).length=ls.length:=by rw [Zbt,Zb0]
     have hPv:Zb7 ls i=pos ls (at' ls i):=by simp [Zb7,hp]
     have hPs:=Zm0 (Zbp ls.length i (Zb7 ls) 0) i (Zb7 ls i)
     rw [Znc hlt,hPv] at hPs
     have hPg:=Zca (Zdz (i:=i) (v:=Zb7 ls) (d:=0) hlt)
     simp only [Nat.lt_irrefl,if_false] at hPg
     rw [htg,hg] at hrs
     clear hpe hxl hxv htb htg htl hX1 hT1 hPv
     generalize hp':pos ls (at' ls i)=p at *
     generalize hCe:nums (cnts F ls)=C at *
     generalize hFe:nums (Zbp (F+1) (F+1) (tot ls) 0)=T at *
     generalize bls (Zcy ls (Zah ls) i)=B at *
     generalize nums (Zfu ls (Zah ls) i)=X at *
     generalize nums (Zbp ls.length i (Zb7 ls) 0)=Y at *
     have hrC:∀ q,Zam q C=C:=fun q=>by rw [← hCe]; exact Zac q _
     have hrT:∀ q,Zam q T=T:=fun q=>by rw [← hFe]; exact Zac q _
     obtain⟨_,hc2⟩:=getE hc
     obtain⟨_,hFg2⟩:=getE hFg
     obtain⟨_,htb2⟩:=getE htb'
     obtain⟨_,hxv2⟩:=getE hxv'
     obtain⟨_,hPg2⟩:=getE hPg
     cases tb with
     | true=>
      simp [-Int.natCast_add,hlen,hlt,hrow,hrow2,rowL,hk,hr1,hg,hc,hc2,hCl,hGF,hGF1,hr2,hFg,hFg2,hFl,hwa,hwb,hpos,htb',htb2,hTl]
      exact hno (hbad (by rw [hrs]; simp)) [] _ (by simp)
     | false=>
      simp [-Int.natCast_add,hlen,hlt,hrow,hrow2,rowL,hk,hr1,hg,hc,hc2,hCl,hGF,hGF1,hr2,hFg,hFg2,hFl,hwa,hwb,hpos,htb',htb2,hTl,hTs,hXl,hxv',hxv2,hXs,hPl,hPg,hPg2,hPs,hw1]
      exact hN (i+1) [] _ _ (by omega) ⟨by omega,by rw [hrs]; simp; omega⟩ (by simp [hrr,Zac,Zaq,hrC,hrT])
   · have hp:isP (at' ls i)=false:=by simp [isP,hk]
     have hT:Zcy ls (Zah ls) (i+1)=Zcy ls (Zah ls) i:=by simp [Zcy,hp]
     have hX:Zfu ls (Zah ls) (i+1)=Zfu ls (Zah ls) i:=by simp [Zfu,hp]
     have hY:=Zpw (n:=ls.length) (i:=i) (v:=Zb7 ls) (d:=0) (by simp [Zb7,hp])
     simp [-Int.natCast_add,hlen,hlt,hrow,hrow2,rowL,hk,hw1]
     exact hN (i+1) [] _ _ (by omega) ⟨by omega,by simp [rkF,hrk,hp]⟩ (by simp [hrr,Zac,Zaq,hT,hX,hY])
 have he:i=ls.length:=by omega
 subst he
 simp [-Int.natCast_add,hlen]
 exact hyes hrk [] _ (by simp [hrr,Zac,Zaq])
end Go.Known
