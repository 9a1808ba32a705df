/- Part 19 of the proof: Ra. -/
import Derived.Test.YtipeejpafgnjdaaGreatDoorE14
import Derived.Test.YtipeejpafgnjdaaGreatDoorE18
set_option linter.all false
namespace Go.Known
open Go Go.AE Go.Proofs
open Go.Plain
attribute [local simp] Zgs Zdl Zcr Ziu Zen Zeo Zem Zgm Zjc Zao Za1 Zau Zak Zat Zar Zdh Zer Zgk Zgj Zga Zi8 Zej Zo5 Zgd Zgo Zev Zgg Zgq Zjn Zf9 Zf8 Zel Zi9 Zgc Zei Zes Zgf Zgw Zgu Zgx Zeu Zdk Zi1 Zgh Zjd Zo3 Zdp Zet Zdo Zjm Zge Zep Zi6 Zjl Zeh Zek Zgn Zi4 Zje Zo0 Zix Zgb Zdf Zdg Zdi Zde Zds Zoq Zh8 Ziw Env.get argE SMem.at SMem.app SMem.get Zaw Zb1 AVal.cells AVal.one Zc0 Zb6 Zjj Zjk Zjo Zi7 Ziv Zi3 Ziz Zi0 Zji Zjp Zja Zjb Zi5 unA Zbz Zbg Zha Zfb Zas aundef Zcs Zdq Zeq Zjh Zf7 recF memN indF Zhc retN oneK Zbw Zd7 SubR SubRE SubRB InjK InjA qOf Zmn AVal.ren renL Zam ABlk.ren Zbk Zee Zbh Zb2 Zan room renB Zdj Zlj
abbrev dV0 (f:Int) (rows:List (List AVal)):ABlk:=.cells 7 [[.int .i64 f,.imm rows,.nilSl,.nilSl,.nilSl,.nilMap,.nilSl]]
abbrev dM1 (f:Int) (rows:List (List AVal)):SMem:=⟨[(1,dV0 f rows)],2⟩
abbrev dM2 (f:Int) (rows:List (List AVal)):SMem:=⟨[(2,.cells 1 [[.ptr 1 0 0]]),(1,dV0 f rows)],3⟩
set_option maxHeartbeats 1000000 in
theorem c167 (f:Int) (rows:List (List AVal)) (hrr:∀ q,Zam q rows=rows) (l:Lt) :
 Ctr Tryz.prog 199 [.agg (rowL l),.ptr 2 0 0] (dM2 f rows) fun r m=>r=.bool (!okC f l)∧m=dM2 f rows:=by
 refine Zit hm Tryz.func199 cf167 rfl rfl fun K hK=>?_
 rcases l with⟨lk,lg,lr,li,lsn,lo⟩
 have fin:∀ b m,(!okC f ⟨lk,lg,lr,li,lsn,lo⟩)=b→SubR 3 [] [(0,.bool b)] (dM2 f rows) [(0,.bool b)] m→EndK 3 K (.bool b) m:=
  fun b m hb h=>by subst hb; exact endK hK [] h
 clear hK
 by_cases h1:lk=1
 · by_cases h2:lg<0
   · have h2':¬0≤lg:=by omega
     simp [rowL,h1,h2,h2']; exact fin _ _ (by simp [okC,h1,h2,h2']) (by simp [hrr])
   have h2':0≤lg:=by omega
   by_cases h3:f<lg
   · have h3':¬lg≤f:=by omega
     simp [rowL,h1,h2,h2',h3,h3']; exact fin _ _ (by simp [okC,h1,h2,h2',h3,h3']) (by simp [hrr])
   have h3':lg≤f:=by omega
   by_cases h4:li=0
   · by_cases h5:lsn=0
     · cases lo with
       | true=>
        simp [rowL,h1,h2,h2',h3,h3',h4,h5]; exact fin _ _ (by simp [okC,h1,h2,h2',h3,h3',h4,h5]) (by simp [hrr])
       | false=>
        simp [rowL,h1,h2,h2',h3,h3',h4,h5]; exact fin _ _ (by simp [okC,h1,h2,h2',h3,h3',h4,h5]) (by simp [hrr])
     · simp [rowL,h1,h2,h2',h3,h3',h4,h5]; exact fin _ _ (by simp [okC,h1,h2,h2',h3,h3',h4,h5]) (by simp [hrr])
   · simp [rowL,h1,h2,h2',h3,h3',h4]; exact fin _ _ (by simp [okC,h1,h2,h2',h3,h3',h4]) (by simp [hrr])
 by_cases h2:lk=2
 · by_cases h3:lg=0
   · by_cases h4:lr=0
     · by_cases h5:lsn=1
       · simp [rowL,h1,h2,h3,h4,h5]; exact fin _ _ (by simp [okC,h1,h2,h3,h4,h5]) (by simp [hrr])
       · by_cases h6:lsn = -1
         · simp [rowL,h1,h2,h3,h4,h5,h6]; exact fin _ _ (by simp [okC,h1,h2,h3,h4,h5,h6]) (by simp [hrr])
         · simp [rowL,h1,h2,h3,h4,h5,h6]; exact fin _ _ (by simp [okC,h1,h2,h3,h4,h5,h6]) (by simp [hrr])
     · simp [rowL,h1,h2,h3,h4]; exact fin _ _ (by simp [okC,h1,h2,h3,h4]) (by simp [hrr])
   · simp [rowL,h1,h2,h3]; exact fin _ _ (by simp [okC,h1,h2,h3]) (by simp [hrr])
 · simp [rowL,h1,h2]; exact fin _ _ (by simp [okC,h1,h2]) (by simp [hrr])
set_option maxHeartbeats 1000000 in
theorem c183 (f:Int) (ls:List Lt) (h:ls.length≤1000) :
 Ctr Tryz.prog 226 [.imm (ls.map rowL),.func (.func 199) [] [.ptr 2 0 0]] (dM2 f (ls.map rowL)) fun r m=>(∃ n:Int,r=.int .i64 n∧decide (0≤n) = !ls.all (okC f))∧m=dM2 f (ls.map rowL):=by
 refine Zhq hm Tryz.func226 cf183 rfl rfl fun K hK=>?_
 have hR:=Zbx ls
 have hrr:∀ q,Zam q (ls.map rowL)=ls.map rowL:=fun q=>Zaa q _ (Zab ls)
 have hc:=fun l=>c167 f (ls.map rowL) hrr l
 generalize ls.map rowL=rows at *
 have hlen:=hR.len
 have fin:∀ (n:Int) m,decide (0≤n)=(!ls.all (okC f))→SubR 3 [] [(0,.int .i64 n)] (dM2 f rows) [(0,.int .i64 n)] m→EndK 3 K (.int .i64 n) m:=
  fun n m hb h=>endK (hK (.int .i64 n) (dM2 f rows) ⟨⟨n,rfl,hb⟩,rfl⟩) [] h
 clear hK
 simp
 refine Zay (α:=Nat) (fun i=>[(8,.int .i64 i),(7,.int .i64 ls.length),(1,.func (.func 199) [] [.ptr 2 0 0]),(0,.imm rows)]) (fun i=>⟨[(2,.cells 1 [[.ptr 1 0 0]]),(1,dV0 f rows)],5⟩)
  (fun i=>ls.length - i) (fun i=>i≤ls.length∧(ls.take i).all (okC f)=true) 0 [] (by simp [hrr,hlen]) (by simp) ?_
 rintro i ⟨hi,hall⟩ N hN
 by_cases hlt:i<ls.length
 · have hrow:=hR.row i hlt
   obtain⟨hil,hrow2⟩:=List.getElem?_eq_some_iff.1 hrow
   have hw1:IntKind.i64.wrap ((i:Int)+1)=(i:Int)+1:=Zad (by omega) (by omega)
   have hnext:ls.take (i+1)=ls.take i++[at' ls i]:=by
    rw [List.take_add_one,at',List.getD,List.getElem?_eq_getElem hlt]
    rfl
   have hin:at' ls i∈ls:=Zcc hlt
   simp [hlen,hlt,hrow,hrow2,rowL]
   refine Za0 (hc (at' ls i)) [(1,1),(2,2)] (by simp [rowL]) (by simp [hrr]) (by simp) ?_
   rintro r sm ⟨rfl,rfl⟩
   cases hok:okC f (at' ls i) with
   | true=>
    simp [hrr,hw1]
    exact hN (i+1) [] _ _ (by omega) ⟨by omega,by rw [hnext,List.all_append,hall]; simp [hok]⟩ (by simp [hrr,hlen])
   | false=>
    have hno:ls.all (okC f)=false:=by rw [List.all_eq_false]; exact⟨_,hin,by simp [hok]⟩
    simp [hrr]
    exact fin _ _ (by simp [hno]) (by simp [hrr])
 · have he:i=ls.length:=by omega
   subst he
   rw [List.take_length] at hall
   simp [hlen]
   exact fin _ _ (by simp [hall]) (by simp [hrr])
theorem c166 (f:Int) (ls:List Lt) (h:ls.length≤1000) :
 Ctr Tryz.prog 198 [.imm (ls.map rowL),.func (.func 199) [] [.ptr 2 0 0]] (dM2 f (ls.map rowL)) fun r m=>r=.bool (!ls.all (okC f))∧m=dM2 f (ls.map rowL):=by
 refine Zit hm Tryz.func198 cf166 rfl rfl fun K hK=>?_
 have hrr:∀ q,Zam q (ls.map rowL)=ls.map rowL:=fun q=>Zaa q _ (Zab ls)
 have hc:=c183 f ls h
 generalize ls.map rowL=rows at *
 simp
 refine Za0 hc [(1,1),(2,2)] (by simp [hrr]) (by simp [hrr]) (by simp) ?_
 rintro r sm ⟨⟨n,rfl,hn⟩,rfl⟩
 simp [hrr,hn]
 exact endK hK [] (by simp [hrr])
theorem c131 (f:Int) (ls:List Lt) (h:ls.length≤1000) :
 Ctr Tryz.prog 167 [.ptr 1 0 0] (dM1 f (ls.map rowL)) fun r m=>r=.bool (ls.all (okC f))∧m=dM1 f (ls.map rowL):=by
 refine Zit hm Tryz.func167 cf131 rfl rfl fun K hK=>?_
 have hrr:∀ q,Zam q (ls.map rowL)=ls.map rowL:=fun q=>Zaa q _ (Zab ls)
 have hc:=c166 f ls h
 generalize ls.map rowL=rows at *
 simp
 refine Za0 hc [(1,1),(2,2)] (by simp [hrr]) (by simp [hrr]) (by simp) ?_
 rintro r sm ⟨rfl,rfl⟩
 simp [hrr]
 exact endK hK [] (by simp [hrr])
theorem c132 (f:Int) (ls:List Lt) (h:ls.length≤1000) (h0:0<ls.length) :
 Ctr Tryz.prog 168 [.ptr 1 0 0] (dM1 f (ls.map rowL)) fun r m=>r=.bool (decide ((at' ls 0).k=1)&&decide (Zah ls % 2=0))∧m=dM1 f (ls.map rowL):=by
 refine Zit hm Tryz.func168 cf132 rfl rfl fun K hK=>?_
 have hR:=Zbx ls
 have hrr:∀ q,Zam q (ls.map rowL)=ls.map rowL:=fun q=>Zaa q _ (Zab ls)
 have hc:=c168 f ls h
 unfold cV at hc
 generalize ls.map rowL=rows at *
 have hlen:=hR.len
 have hrow:=hR.row 0 h0
 by_cases hk:(at' ls 0).k=1
 · simp [hlen,hrow,rowL,hk]
   refine Zai hc ?_
   simp [Zr7]
   refine endK (v0:=.bool (decide ((at' ls 0).k=1)&&decide (Zah ls % 2=0))) hK [] ?_
   simp [hrr,hk,Zah]
   exact decide_eq_decide.2 (by omega)
 · simp [hlen,hrow,rowL,hk]
   refine endK (v0:=.bool (decide ((at' ls 0).k=1)&&decide (Zah ls % 2=0))) hK [] ?_
   simp [hrr,hk]
end Go.Known
