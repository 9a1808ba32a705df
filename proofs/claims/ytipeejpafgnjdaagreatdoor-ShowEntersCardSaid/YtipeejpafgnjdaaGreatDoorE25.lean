/- Part 25 of the proof: Lc, Ld. -/
import Derived.Test.YtipeejpafgnjdaaGreatDoorE22
set_option linter.all false
section
namespace Go.Known
open Go Go.AE Go.Proofs
open Go.Plain
def outV (ob:Option Nat) (n:Nat):AVal:=
 match ob with
 | none=>.nilSl
 | some b=>.sl b 0 n
def outB (ob:Option Nat) (k:Nat) (rows:List (List AVal)):List (Nat×ABlk):=
 match ob with
 | none=>[]
 | some b=>[(b,.cells k rows)]
def Zls (ob:Option Nat) (q n:Nat):Prop:=
 match ob with
 | none=>n=0
 | some b=>b<q∧1<b
theorem Zn7 (ls:List Lt) (i:Nat):∀ (l:List Nat) (k:Nat),k≤l.length→(∀ j y,j<k→l[j]? = some y→Zb8 (at' ls y) (at' ls i)=true)→(∀ y,l[k]? = some y→Zb8 (at' ls y) (at' ls i)=false) →
 ins ls i l=l.take k++i :: l.drop k
 | [],k,hk,_,_=>by
  have:k=0:=by simpa using hk
  subst this; rfl
 | x :: r,0,_,_,h2=>by
  simp only [ins]
  rw [h2 x rfl]
  rfl
 | x :: r,k+1,hk,h1,h2=>by
  simp only [ins]
  rw [if_pos (h1 0 x (by omega) rfl),Zn7 ls i r k (by simpa using hk) (fun j y hj hy=>h1 (j+1) y (by omega) hy) (fun y hy=>h2 y hy)]
  rfl
theorem Z0h {ls:List Lt} {k j:Nat} (h:j∈Zd5 ls k):j<k:=by
 have:=(Zcq ls k).mem_iff.1 h
 simp only [List.mem_filter,List.mem_range] at this
 exact this.1
theorem Z1x {ls:List Lt} (k:Nat):(Zd5 ls k).length≤k:=by
 rw [(Zcq ls k).length_eq]
 exact Nat.le_trans (List.length_filter_le _ _) (by simp)
theorem Zw3 {α:Type} {f:α→Option α}:∀ {l:List α},(∀ x,x∈l→f x=some x)→mapO f l=some l
 | [],_=>rfl
 | x :: r,h=>by
  simp only [mapO,h x (List.mem_cons_self ..),Zw3 fun y hy=>h y (List.mem_cons_of_mem _ hy)]
theorem Zs5 {get:Nat→Option ABlk} {b n:Nat} {l:List Nat} (h:get b=some (.cells 1 (nums l))):Zaj get (n+2) (.sl b 0 l.length)=some (.imm (nums l)):=by
 have hn:(nums l).length=l.length:=by simp [nums]
 have e:((nums l).drop 0).take l.length=nums l:=by rw [List.drop_zero,List.take_of_length_le (by omega)]
 rw [Zaj]
 simp only [h,e]
 rw [Zw3 (l:=nums l)]
 · simp [hn]
   rw [Nat.ble_eq_true_of_le (Nat.le_refl _)]
   rfl
 · intro row hrow
   simp only [nums,List.mem_map] at hrow
   obtain⟨x,_,rfl⟩:=hrow
   rfl
theorem Zuz (l:List Nat):(nums l).length=l.length:=by simp [nums]
set_option maxRecDepth 100000 in
theorem c39 (f:Int) (ls:List Lt) (h:ls.length≤1000) (h0:0<Zah ls):PCall Tryz.prog 99 [cV f ls] (.imm (nums (axis ls))):=by
 refine Zr6 (n:=2) (by simp [Zae,Zbv]) (by simp only [AVal.closed,Zbc]) (Zcn hm Tryz.func99 cf39 (Nat.le_of_ble_eq_true rfl) ?_)
 have hR:=Zbx ls
 unfold cV
 generalize ls.map rowL=rows at hR
 have hlen:=hR.len
 simp [af39,Zcw,Zbn,Zbb,Zd6,Zcv,Zb5,Zcu,Zd8,Zao,Za1,Zau,Zak,Zat,Zar,Zb4,Zbm,Zaz,evE,Env.get,putE,argE,stepD,SMem.at,SMem.app,SMem.get,Zaw,AVal.cells,AVal.one,addA,Zc0,Zb6,Zav,Zcd,binA,Za5,unA,eqA,Zbz,Zbg,retS,Zas,aundef]
 refine Zdt (α:=Nat×Nat×Option Nat) (fun a=>[(4,.int .i64 a.1),(3,outV a.2.2 (Zd5 ls a.1).length),(1,.ptr 1 0 0)]) (fun a=>⟨(1,.cells 2 [[.int .i64 f,.imm rows]]) :: outB a.2.2 1 (nums (Zd5 ls a.1)),a.2.1⟩)
  (fun a=>ls.length - a.1) (fun a=>a.1≤ls.length∧Zls a.2.2 a.2.1 (Zd5 ls a.1).length∧1<a.2.1) (0,6,none) (by simp [SubS,SubE,SubB,Env.get,SMem.get,Zaw,outV,outB,Zd5]) (by simp [Zls,Zd5]) ?_
 rintro⟨i,q,ob⟩ ⟨hi,hob,hq1⟩
 simp only at hi hob hq1 ⊢
 have hal:=Z1x (ls:=ls) i
 by_cases hlt:i<ls.length
 · have hrow:=hR.row i hlt
   obtain⟨hil,hrow2⟩:=List.getElem?_eq_some_iff.1 hrow
   have hw1:IntKind.i64.wrap ((i:Int)+1)=(i:Int)+1:=Zad (by omega) (by omega)
   by_cases hk:(at' ls i).k=1
   · have hax:Zd5 ls (i+1)=ins ls i (Zd5 ls i):=by simp [Zd5,isP,hk]
     have hin:∀ y,y∈Zd5 ls i→y<i:=fun y hy=>Z0h hy
     have hinl:(ins ls i (Zd5 ls i)).length=(Zd5 ls i).length+1:=(Zmt ls i _).length_eq
     generalize Zd5 ls i=l at *
     have hnl:(nums l).length=l.length:=Zuz l
     have hall:(nums l).all (fun r=>r.length == 1)=true:=by simp [nums]
     cases ob with
     | none=>
      simp only [Zls,List.length_eq_zero_iff] at hob
      subst hob
      simp [Zcw,Zbn,Zbb,Zd6,Zcv,Zb5,Zcu,Zd8,Zao,Za1,Zau,Zak,Zat,Zar,Zb4,Zbm,Zaz,evE,Env.get,putE,argE,stepD,SMem.at,SMem.app,SMem.get,Zaw,AVal.cells,AVal.one,addA,Zc0,Zb6,Zav,Zcd,binA,Za5,unA,eqA,Zbz,Zbg,retS,Zas,aundef,outV,outB,hlen,hlt,hrow,hrow2,rowL,hk]
      refine Zdt (α:=Nat) (fun a=>[(5,.int .i64 0),(4,.int .i64 i),(3,.nilSl),(1,.ptr 1 0 0)]) (fun a=>⟨[(1,.cells 2 [[.int .i64 f,.imm rows]])],a⟩)
       (fun a=>0) (fun a=>1<a) (q+13) (by simp [SubS,SubE,SubB,Env.get,SMem.get,Zaw]) (by omega) ?_
      intro q2 hq2
      simp [Zcw,Zbn,Zbb,Zd6,Zcv,Zb5,Zcu,Zd8,Zao,Za1,Zau,Zak,Zat,Zar,Zb4,Zbm,Zaz,evE,Env.get,putE,argE,stepD,SMem.at,SMem.app,SMem.get,Zaw,AVal.cells,AVal.one,addA,Zc0,Zb6,Zav,Zcd,binA,Za5,unA,eqA,Zbz,Zbg,retS,Zas,aundef,Zdn,Zcp,Zbu,FT.indep,Zcg,Zcf,Zdb,subL,in1,Zbf,Zbe,Za3,Zbk,Zee,Zbh,Zb2,Zan,Zfb,Zb1,room]
      exact⟨(i+1,q2+100,some (q2+20+6)),by simp; omega,by simp [hax,ins,Zls]<;>omega,by simp [SubS,SubE,SubB,Env.get,SMem.get,Zaw,outV,outB,hax,ins,hw1]<;>omega⟩
     | some b=>
      simp only [Zls] at hob
      have hb1:¬b=1:=by omega
      have hb1':¬1=b:=by omega
      simp [Zcw,Zbn,Zbb,Zd6,Zcv,Zb5,Zcu,Zd8,Zao,Za1,Zau,Zak,Zat,Zar,Zb4,Zbm,Zaz,evE,Env.get,putE,argE,stepD,SMem.at,SMem.app,SMem.get,Zaw,AVal.cells,AVal.one,addA,Zc0,Zb6,Zav,Zcd,binA,Za5,unA,eqA,Zbz,Zbg,retS,Zas,aundef,outV,outB,hlen,hlt,hrow,hrow2,rowL,hk]
      refine Zdt (α:=Nat×Nat) (fun a=>[(5,.int .i64 a.1),(4,.int .i64 i),(3,.sl b 0 l.length),(1,.ptr 1 0 0)]) (fun a=>⟨[(1,.cells 2 [[.int .i64 f,.imm rows]]),(b,.cells 1 (nums l))],a.2⟩)
       (fun a=>l.length - a.1) (fun a=>a.1≤l.length∧q≤a.2 ∧ ∀ j y,j<a.1→l[j]? = some y→Zb8 (at' ls y) (at' ls i)=true) (0,q+13) (by simp [SubS,SubE,SubB,Env.get,SMem.get,Zaw,hb1]) (by simp) ?_
      rintro⟨k,q2⟩ ⟨hkl,hq2,hpre⟩
      simp only at hkl hq2 hpre ⊢
      have hwk:IntKind.i64.wrap ((k:Int)+1)=(k:Int)+1:=Zad (by omega) (by omega)
      by_cases hkl2:k<l.length
      · have hy:l[k]? = some l[k]:=List.getElem?_eq_getElem hkl2
        have hny:(nums l)[k]? = some [AVal.int .i64 (l[k]:Int)]:=by rw [nums,List.getElem?_map,hy]; rfl
        obtain⟨hnil,hny2⟩:=List.getElem?_eq_some_iff.1 hny
        have hyi:=hin _ (List.getElem_mem hkl2)
        generalize l[k]=y at *
        have hrowy:=hR.row y (by omega)
        obtain⟨hily,hrowy2⟩:=List.getElem?_eq_some_iff.1 hrowy
        have h66:=c66 (at' ls y) (at' ls i)
        simp [Zcw,Zbn,Zbb,Zd6,Zcv,Zb5,Zcu,Zd8,Zao,Za1,Zau,Zak,Zat,Zar,Zb4,Zbm,Zaz,evE,Env.get,putE,argE,stepD,SMem.at,SMem.app,SMem.get,Zaw,AVal.cells,AVal.one,addA,Zc0,Zb6,Zav,Zcd,binA,Za5,unA,eqA,Zbz,Zbg,retS,Zas,aundef,Zdn,Zcp,Zbu,FT.indep,Zcg,Zcf,Zdb,subL,in1,Zbf,Zbe,Za3,hkl2,hny,hny2,hrow,hrow2,hrowy,hrowy2,rowL,hb1,hb1']
        refine⟨_,h66.x _ _ _,?_⟩
        cases hkey:Zb8 (at' ls y) (at' ls i) with
        | true=>
         simp [Zcw,Zbn,Zbb,Zd6,Zcv,Zb5,Zcu,Zd8,Zao,Za1,Zau,Zak,Zat,Zar,Zb4,Zbm,Zaz,evE,Env.get,putE,argE,stepD,SMem.at,SMem.app,SMem.get,Zaw,AVal.cells,AVal.one,addA,Zc0,Zb6,Zav,Zcd,binA,Za5,unA,eqA,Zbz,Zbg,retS,Zas,aundef,Zdn,Zcp,Zbu,FT.indep,Zcg,Zcf,Zdb,subL,in1,Zbf,Zbe,Za3,hwk]
         exact⟨(k+1,q2+100),by simp; omega,⟨by simp; omega,by simp; omega,fun j z hj hz=>by
          simp only at hj
          by_cases hjk:j=k
          · subst hjk; rw [hy] at hz; injection hz with hz; subst hz; exact hkey
          · exact hpre j z (by omega) hz⟩,by simp [SubS,SubE,SubB,Env.get,SMem.get,Zaw,hb1,hb1']<;>omega⟩
        | false=>
         have hins:=Zn7 ls i l k hkl hpre (fun z hz=>by rw [hy] at hz; injection hz with hz; subst hz; exact hkey)
         simp [Zcw,Zbn,Zbb,Zd6,Zcv,Zb5,Zcu,Zd8,Zao,Za1,Zau,Zak,Zat,Zar,Zb4,Zbm,Zaz,evE,Env.get,putE,argE,stepD,SMem.at,SMem.app,SMem.get,Zaw,AVal.cells,AVal.one,addA,Zc0,Zb6,Zav,Zcd,binA,Za5,unA,eqA,Zbz,Zbg,retS,Zas,aundef]
         obtain⟨A,hA⟩:∃ A,(nums l).take k=A:=⟨_,rfl⟩
         obtain⟨B,hB⟩:∃ B,(nums l).drop k=B:=⟨_,rfl⟩
         have hAl:A.length=k:=by rw [← hA,List.length_take]; omega
         have hBl:B.length=l.length - k:=by rw [← hB,List.length_drop,hnl]
         have hAB:nums (ins ls i l)=A++[AVal.int .i64 i] :: B:=by rw [hins,← hA,← hB]; simp [nums]
         have hA1:A.take k=A:=List.take_of_length_le (by omega)
         have hB1:B.take (l.length - k)=B:=List.take_of_length_le (by omega)
         have hkr:k≤1048576:=by omega
         have hkr1:k+1≤1048576:=by omega
         have hbr1:1+(l.length - k)≤1048576:=by omega
         have hbr2:k+1+(l.length - k)≤1048576:=by omega
         have hq0:∀ i,¬b=q2+20+i:=fun i=>by omega
         have hq0':∀ i,¬q2+20+i=b:=fun i=>by omega
         have hq00:∀ i,¬q2+20+i=1:=fun i=>by omega
         have hq00':∀ i,¬1=q2+20+i:=fun i=>by omega
         have hk1:¬(k+1≤k):=by omega
         have hlk:k+1+(l.length - k)=l.length+1:=by omega
         have hB0:¬B=[]:=by intro e; subst e; simp at hBl; omega
         rcases Nat.eq_zero_or_pos k with hk0 | hk0
         · subst hk0
           have hA0:A=[]:=List.length_eq_zero_iff.1 hAl
           subst hA0
           simp at hB
           simp only [Nat.sub_zero,Nat.zero_add] at *
           have hn1:¬(1+l.length≤1):=by omega
           simp [Zcw,Zbn,Zbb,Zd6,Zcv,Zb5,Zcu,Zd8,Zao,Za1,Zau,Zak,Zat,Zar,Zb4,Zbm,Zaz,evE,Env.get,putE,argE,stepD,SMem.at,SMem.app,SMem.get,Zaw,AVal.cells,AVal.one,addA,Zc0,Zb6,Zav,Zcd,binA,Za5,unA,eqA,Zbz,Zbg,retS,Zas,aundef,Zdn,Zcp,Zbu,FT.indep,Zcg,Zcf,Zdb,subL,in1,Zbf,Zbe,Za3,Zbk,Zee,Zbh,Zb2,Zan,Zfb,Zb1,room,hb1,hb1',hkl,hnl,hB,hBl,hB1,hB0,hbr1,hn1,hq0,hq0',hq00]
           exact⟨(i+1,q2+100,some (q2+20+10)),by simp; omega,by simp [hax,hinl,Zls]; omega,by simp [SubS,SubE,SubB,Env.get,SMem.get,Zaw,outV,outB,hax,hinl,hAB,hw1,hlk,hq00']<;>omega⟩
         · have hn1:¬(l.length≤k):=by omega
           have hn3:l.length≤1048575:=by omega
           have hA2:(A++[[AVal.int .i64 (i:Int)]]).take (k+1)=A++[[AVal.int .i64 (i:Int)]]:=List.take_of_length_le (by simp [hAl])
           have hA0:¬A=[]:=by intro e; subst e; simp at hAl; omega
           simp [Zcw,Zbn,Zbb,Zd6,Zcv,Zb5,Zcu,Zd8,Zao,Za1,Zau,Zak,Zat,Zar,Zb4,Zbm,Zaz,evE,Env.get,putE,argE,stepD,SMem.at,SMem.app,SMem.get,Zaw,AVal.cells,AVal.one,addA,Zc0,Zb6,Zav,Zcd,binA,Za5,unA,eqA,Zbz,Zbg,retS,Zas,aundef,Zdn,Zcp,Zbu,FT.indep,Zcg,Zcf,Zdb,subL,in1,Zbf,Zbe,Za3,Zbk,Zee,Zbh,Zb2,Zan,Zfb,Zb1,room,hb1,hb1',hkl,hnl,hA,hB,hAl,hBl,hA1,hB1,hA0,hB0,hkr,hkr1,hbr2,hk1,hn1,hn3,hA2,hlk,hq0,hq0',hq00]
           exact⟨(i+1,q2+100,some (q2+20+10)),by simp; omega,by simp [hax,hinl,Zls]; omega,by simp [SubS,SubE,SubB,Env.get,SMem.get,Zaw,outV,outB,hax,hinl,hAB,hw1,hlk,hq00']<;>omega⟩
      · have he:k=l.length:=by omega
        have hins:=Zn7 ls i l k hkl hpre (fun z hz=>by rw [List.getElem?_eq_none (by omega)] at hz; cases hz)
        have hkl3:¬k<l.length:=hkl2
        simp [Zcw,Zbn,Zbb,Zd6,Zcv,Zb5,Zcu,Zd8,Zao,Za1,Zau,Zak,Zat,Zar,Zb4,Zbm,Zaz,evE,Env.get,putE,argE,stepD,SMem.at,SMem.app,SMem.get,Zaw,AVal.cells,AVal.one,addA,Zc0,Zb6,Zav,Zcd,binA,Za5,unA,eqA,Zbz,Zbg,retS,Zas,aundef,Zdn,Zcp,Zbu,FT.indep,Zcg,Zcf,Zdb,subL,in1,Zbf,Zbe,Za3,hkl3]
        obtain⟨A,hA⟩:∃ A,(nums l).take k=A:=⟨_,rfl⟩
        obtain⟨B,hB⟩:∃ B,(nums l).drop k=B:=⟨_,rfl⟩
        have hAl:A.length=k:=by rw [← hA,List.length_take]; omega
        have hBl:B.length=l.length - k:=by rw [← hB,List.length_drop,hnl]
        have hAB:nums (ins ls i l)=A++[AVal.int .i64 i] :: B:=by rw [hins,← hA,← hB]; simp [nums]
        have hA1:A.take k=A:=List.take_of_length_le (by omega)
        have hB1:B.take (l.length - k)=B:=List.take_of_length_le (by omega)
        have hkr:k≤1048576:=by omega
        have hkr1:k+1≤1048576:=by omega
        have hbr1:1+(l.length - k)≤1048576:=by omega
        have hbr2:k+1+(l.length - k)≤1048576:=by omega
        have hq0:∀ i,¬b=q2+20+i:=fun i=>by omega
        have hq0':∀ i,¬q2+20+i=b:=fun i=>by omega
        have hq00:∀ i,¬q2+20+i=1:=fun i=>by omega
        have hq00':∀ i,¬1=q2+20+i:=fun i=>by omega
        have hk1:¬(k+1≤k):=by omega
        have hlk:k+1+(l.length - k)=l.length+1:=by omega
        have hB0:B=[]:=List.length_eq_zero_iff.1 (by omega)
        rcases Nat.eq_zero_or_pos k with hk0 | hk0
        · subst hk0
          have hl0:l=[]:=List.length_eq_zero_iff.1 he.symm
          subst hl0
          simp [Zcw,Zbn,Zbb,Zd6,Zcv,Zb5,Zcu,Zd8,Zao,Za1,Zau,Zak,Zat,Zar,Zb4,Zbm,Zaz,evE,Env.get,putE,argE,stepD,SMem.at,SMem.app,SMem.get,Zaw,AVal.cells,AVal.one,addA,Zc0,Zb6,Zav,Zcd,binA,Za5,unA,eqA,Zbz,Zbg,retS,Zas,aundef,Zdn,Zcp,Zbu,FT.indep,Zcg,Zcf,Zdb,subL,in1,Zbf,Zbe,Za3,Zbk,Zee,Zbh,Zb2,Zan,Zfb,Zb1,room,hb1,hb1',hq0,hq0',hq00]
          exact⟨(i+1,q2+100,some (q2+20+6)),by simp; omega,by simp [hax,hinl,ins,Zls]<;>omega,by simp [SubS,SubE,SubB,Env.get,SMem.get,Zaw,outV,outB,hax,hinl,ins,hw1,hq00']<;>omega⟩
        · have hA0:¬A=[]:=by intro e; subst e; simp at hAl; omega
          simp [Zcw,Zbn,Zbb,Zd6,Zcv,Zb5,Zcu,Zd8,Zao,Za1,Zau,Zak,Zat,Zar,Zb4,Zbm,Zaz,evE,Env.get,putE,argE,stepD,SMem.at,SMem.app,SMem.get,Zaw,AVal.cells,AVal.one,addA,Zc0,Zb6,Zav,Zcd,binA,Za5,unA,eqA,Zbz,Zbg,retS,Zas,aundef,Zdn,Zcp,Zbu,FT.indep,Zcg,Zcf,Zdb,subL,in1,Zbf,Zbe,Za3,Zbk,Zee,Zbh,Zb2,Zan,Zfb,Zb1,room,hb1,hb1',hkl,hnl,hA,hB,hAl,hBl,hA1,hB1,hA0,hB0,hkr,hkr1,hbr2,hk1,hq0,hq0',hq00]
          exact⟨(i+1,q2+100,some (q2+20+6)),by simp; omega,by simp [hax,hinl,Zls]; omega,by simp [SubS,SubE,SubB,Env.get,SMem.get,Zaw,outV,outB,hax,hinl,hAB,hB0,← he,hw1,hq00']<;>omega⟩
   · have hax:Zd5 ls (i+1)=Zd5 ls i:=by simp [Zd5,isP,hk]
     cases ob with
     | none=>
      simp [Zcw,Zbn,Zbb,Zd6,Zcv,Zb5,Zcu,Zd8,Zao,Za1,Zau,Zak,Zat,Zar,Zb4,Zbm,Zaz,evE,Env.get,putE,argE,stepD,SMem.at,SMem.app,SMem.get,Zaw,AVal.cells,AVal.one,addA,Zc0,Zb6,Zav,Zcd,binA,Za5,unA,eqA,Zbz,Zbg,retS,Zas,aundef,outV,outB,hlen,hlt,hrow,hrow2,rowL,hk,hw1]
      exact⟨(i+1,q+100,none),by simp; omega,⟨by simp<;>omega,by simp only [hax]; exact hob,by simp<;>omega⟩,by simp [SubS,SubE,SubB,Env.get,SMem.get,Zaw,outV,outB,hax]<;>omega⟩
     | some b=>
      simp only [Zls] at hob
      have hb1:¬1=b:=by omega
      simp [Zcw,Zbn,Zbb,Zd6,Zcv,Zb5,Zcu,Zd8,Zao,Za1,Zau,Zak,Zat,Zar,Zb4,Zbm,Zaz,evE,Env.get,putE,argE,stepD,SMem.at,SMem.app,SMem.get,Zaw,AVal.cells,AVal.one,addA,Zc0,Zb6,Zav,Zcd,binA,Za5,unA,eqA,Zbz,Zbg,retS,Zas,aundef,outV,outB,hlen,hlt,hrow,hrow2,rowL,hk,hw1]
      exact⟨(i+1,q+100,some b),by simp; omega,by simp [hax,Zls]; omega,by simp [SubS,SubE,SubB,Env.get,SMem.get,Zaw,outV,outB,hax]<;>omega⟩
 · have he:i=ls.length:=by omega
   subst he
   have hpos:0<(Zd5 ls ls.length).length:=by
    have:=Zbj ls
    unfold axis at this
    omega
   cases ob with
   | none=>simp only [Zls] at hob; omega
   | some b=>
    simp only [Zls] at hob
    have hb1:¬b=1:=by omega
    simp [Zcw,Zbn,Zbb,Zd6,Zcv,Zb5,Zcu,Zd8,Zao,Za1,Zau,Zak,Zat,Zar,Zb4,Zbm,Zaz,evE,Env.get,putE,argE,stepD,SMem.at,SMem.app,SMem.get,Zaw,AVal.cells,AVal.one,addA,Zc0,Zb6,Zav,Zcd,binA,Za5,unA,eqA,Zbz,Zbg,retS,Zas,aundef,hlen,outV,outB]
    exact Zs5 (by simp [SMem.mem,SMem.get,Zaw,hb1])
end Go.Known
end
section
namespace Go.Known
open Go Go.AE Go.Proofs
open Go.Plain
attribute [local simp] Zcw Zbn Zbb Zd6 Zcv Zb5 Zcu Zd8 Zao Za1 Zau Zak Zat Zar Zb4 Zbm Zaz evE Env.get putE argE stepD SMem.at SMem.app SMem.get Zaw AVal.cells AVal.one addA Zc0 Zb6 Zav Zcd binA Za5 unA eqA Zbz Zbg retS Zas aundef SubS SubE SubB Zbk Zee Zbh Zb2 Zan Zfb Zb1 room
theorem Zh7 {l:List Bool} {x:Nat} {b:Bool} (h:l[x]? = some b):l.getD x true=b:=by rw [List.getD,h]; rfl
theorem Zl6 {l:List Bool} {x:Nat} (h:l[x]? = some false):Ze8 (l.set x true)+1=Ze8 l:=by
 induction l generalizing x with
 | nil=>simp at h
 | cons a r ih=>
  cases x with
  | zero=>
   simp only [List.getElem?_cons_zero,Option.some.injEq] at h
   subst h
   simp [Ze8]
  | succ x=>
   simp only [List.getElem?_cons_succ] at h
   have:=ih h
   simp only [Ze8,List.set_cons_succ,List.filter_cons] at this ⊢
   cases a<;>simp<;>omega
theorem Zhs {l:List Bool}:Ze8 l≤l.length:=List.length_filter_le _ _
theorem Z00 {T:Nat→Nat} {N d:Nat} {seen:List Bool} (hd:d<N) (h:seen[d]? = some true):cyc T N (N - d) seen=cyc T N (N - (d+1)) seen:=by
 obtain⟨k,hk⟩:∃ k,N - d=k+1:=⟨N - d - 1,by omega⟩
 have hk2:N - (d+1)=k:=by omega
 have hk3:N - (k+1)=d:=by omega
 rw [hk,hk2,cyc,hk3,Zh7 h,if_pos rfl]
theorem Zyb {T:Nat→Nat} {N d:Nat} {seen:List Bool} (hd:d<N) (h:seen[d]? = some false):cyc T N (N - d) seen=1+cyc T N (N - (d+1)) (Plain.mark T (N+1) seen d):=by
 obtain⟨k,hk⟩:∃ k,N - d=k+1:=⟨N - d - 1,by omega⟩
 have hk2:N - (d+1)=k:=by omega
 have hk3:N - (k+1)=d:=by omega
 rw [hk,hk2,cyc,hk3,Zh7 h,if_neg (by simp)]
theorem Zr5 {T:Nat→Nat} {k x:Nat} {seen:List Bool} (h:seen[x]? = some true):Plain.mark T k seen x=seen:=by
 cases k with
 | zero=>rfl
 | succ k=>rw [Plain.mark,Zh7 h,if_pos rfl]
theorem Zud {T:Nat→Nat} {k x:Nat} {seen:List Bool} (h:seen[x]? = some false):Plain.mark T (k+1) seen x=Plain.mark T k (seen.set x true) (T x):=by
 rw [Plain.mark,Zh7 h,if_neg (by simp)]
theorem Zvz {T:Nat→Nat} {N:Nat} (h:0<N):0<Zg7 T N:=by
 have:=Zyb (T:=T) (N:=N) (d:=0) (seen:=List.replicate N false) h (by simp [h])
 rw [Nat.sub_zero] at this
 unfold Zg7
 omega
end Go.Known
end
