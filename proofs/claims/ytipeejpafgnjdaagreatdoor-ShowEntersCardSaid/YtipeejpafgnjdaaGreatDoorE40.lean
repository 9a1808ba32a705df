/- Part 40 of the proof: Tf, Tg. -/
import Derived.Test.YtipeejpafgnjdaaGreatDoorE39
set_option linter.all false
section
namespace Go.Known
open Go Go.AE Go.Proofs
open Go.Plain
theorem Zld {f:Int} {ls:List Lt} (he:errC f ls=0):∀ l,l∈ls→l.k=1→0≤l.g∧l.g≤40:=by
 intro l hm hk
 have h0:ls≠[]:=fun e=>by subst e; simp at hm
 have hv:=Zlq he h0
 have h1:=(hv.key hm (by simp [isP,hk])).2
 have:=hv.hi
 exact⟨by omega,by omega⟩
open Classical in
noncomputable def Zcj (fs:List Fg) (re lo f:Int) (ls:List Lt):Int:=
 if frB fs re lo=false then 2 else if errC f ls≠0 then errC f ls else if f=fs.length∧posB ls=true then 0 else 2
set_option maxRecDepth 100000 in
set_option maxHeartbeats 8000000 in
theorem c83 (fs:List Fg) (re lo f:Int) (ls:List Lt) (hf:fs.length≤1000) (h:ls.length≤1000):PCall Tryz.prog 110 [frV fs re lo,cV f ls] (.bool (decide (Zcj fs re lo f ls=0))):=by
 refine Zbr hm Tryz.func110 cf83 rfl rfl (by simp [Zae,AVal.closed,Zaf,Zab,frV]) trivial fun K hK=>?_
 have hrr:∀ q,Zam q (fs.map rowG)=fs.map rowG:=fun q=>Zaa q _ (Zaf fs)
 have hlen:(fs.map rowG).length=fs.length:=List.length_map ..
 have h82:=c82 fs re lo hf
 have h30:=c30 f ls h
 have h120:=fun he=>c120 f ls h (Zld (f:=f) he)
 unfold frV cV at *
 generalize ls.map rowL=rows at *
 generalize fs.map rowG=rowsG at *
 unfold Zcj at hK
 cases hB:frB fs re lo with
 | false=>
  rw [hB] at h82
  rw [if_pos hB] at hK
  simp [hlen]
  refine Zai h82 ?_
  simp
  exact endK hK [] (by simp)
 | true=>
  rw [hB] at h82
  rw [if_neg (by simp [hB])] at hK
  simp [hlen]
  refine Zai h82 ?_
  simp
  refine Zai h30 ?_
  by_cases he:errC f ls=0
  · rw [if_neg (by simp [he])] at hK
    have h120':=h120 he
    simp only [he]
    by_cases hl:f=fs.length
    · subst hl
      simp [hlen]
      refine Zai h120' ?_
      cases hP:posB ls with
      | true=>
       rw [if_pos ⟨rfl,hP⟩] at hK
       simp
       exact endK hK [] (by simp)
      | false=>
       rw [if_neg (fun hh=>by simp [hP] at hh)] at hK
       simp
       exact endK hK [] (by simp)
    · rw [if_neg (fun hh=>hl hh.1)] at hK
      simp [hl,hlen]
      exact endK hK [] (by simp)
  · rw [if_pos he] at hK
    rw [decide_eq_false he] at hK
    simp [he]
    exact endK hK [] (by simp)
set_option maxRecDepth 100000 in
set_option maxHeartbeats 8000000 in
theorem c153 (fs:List Fg) (re lo f:Int) (ls:List Lt) (hf:fs.length≤1000) (h:ls.length≤1000):PCall Tryz.prog 173 [frV fs re lo,cV f ls] (.int .i64 (Zcj fs re lo f ls)):=by
 refine Zbr hm Tryz.func173 cf153 rfl rfl (by simp [Zae,AVal.closed,Zaf,Zab,frV]) trivial fun K hK=>?_
 have hlen:(fs.map rowG).length=fs.length:=List.length_map ..
 have h82:=c82 fs re lo hf
 have h30:=c30 f ls h
 have h120:=fun he=>c120 f ls h (Zld (f:=f) he)
 unfold frV cV at *
 generalize ls.map rowL=rows at *
 generalize fs.map rowG=rowsG at *
 unfold Zcj at hK
 cases hB:frB fs re lo with
 | false=>
  rw [hB] at h82
  rw [if_pos hB] at hK
  simp [hlen]
  refine Zai h82 ?_
  simp
  exact endK hK [] (by simp)
 | true=>
  rw [hB] at h82
  rw [if_neg (by simp [hB])] at hK
  simp [hlen]
  refine Zai h82 ?_
  simp
  refine Zai h30 ?_
  by_cases he:errC f ls=0
  · rw [if_neg (by simp [he])] at hK
    have h120':=h120 he
    simp [he,hlen]
    by_cases hl:f=fs.length
    · subst hl
      simp [hlen]
      refine Zai h120' ?_
      cases hP:posB ls with
      | true=>
       rw [if_pos ⟨rfl,hP⟩] at hK
       simp
       exact endK hK [] (by simp)
      | false=>
       rw [if_neg (fun hh=>by simp [hP] at hh)] at hK
       simp
       exact endK hK [] (by simp)
    · rw [if_neg (fun hh=>hl hh.1)] at hK
      simp [hl,hlen]
      exact endK hK [] (by simp)
  · rw [if_pos he] at hK
    simp [he]
    exact endK hK [] (by simp)
end Go.Known
end
section
namespace Go.Known
open Go Go.AE Go.Proofs
open Go.Plain
def dpV (ls:List Lt) (i:Nat):List Bool:=(List.range i).map fun j=>down ls j
theorem Z0o (ls:List Lt) (i:Nat):bls (dpV ls (i+1))=bls (dpV ls i)++[[.bool (down ls i)]]:=by simp [dpV,List.range_succ,bls]
theorem Zlt (ls:List Lt) (i:Nat):(dpV ls i).length=i:=by simp [dpV]
theorem Z26 {ls:List Lt} {i j:Nat} (h:j<i):(dpV ls i)[j]? = some (down ls j):=by
 unfold dpV
 rw [List.getElem?_map,List.getElem?_range h]
 rfl
theorem Z0e {get:Nat→Option ABlk} {n:Nat} (l:List Bool):∀ row,row∈bls l → ∀ x,x∈row→Zaj get (n+1) x=some x:=by
 intro row hr x hx
 obtain⟨i,_,rfl⟩:=List.mem_map.1 hr
 rw [List.mem_singleton] at hx
 subst hx
 rfl
set_option maxRecDepth 100000 in
set_option maxHeartbeats 4000000 in
theorem Z41 (f:Int) (ls:List Lt) (h0:ls≠[]) (h:ls.length≤1000):PCall Tryz.prog 175 [cV f ls] (.imm (bls (dpV ls ls.length))):=by
 refine Zcx hm 4 Tryz.func175 Z1t rfl rfl (by simp [Zae,AVal.closed,Zab]) (by simp [AVal.closed,Zlo]) fun K hK=>?_
 have hne:bls (dpV ls ls.length)≠[]:=by
  intro e
  have:(bls (dpV ls ls.length)).length=ls.length:=by rw [bls,List.length_map,Zlt]
  rw [e] at this
  exact h0 (List.length_eq_zero_iff.1 this.symm)
 have hKv:=hK (slV 1 (bls (dpV ls ls.length))) ⟨blV 1 1 (bls (dpV ls ls.length)) [],2⟩ (by
  rw [Ztp (k:=1) (by simp) (Z0e _),imV,if_neg hne])
 clear hK
 have hrr:∀ q,Zam q (ls.map rowL)=ls.map rowL:=fun q=>Zaa q _ (Zab ls)
 have hlen:(ls.map rowL).length=ls.length:=List.length_map ..
 have h68:=fun i hi=>c68 f ls i h hi
 have hDs:=Z0o ls
 have hDr:∀ i q,Zam q (bls (dpV ls i))=bls (dpV ls i):=fun i q=>Zaq q _
 have hDl:∀ i,(bls (dpV ls i)).length=i:=fun i=>by rw [bls,List.length_map,Zlt]
 have hD0:bls (dpV ls 0)=[]:=rfl
 obtain⟨D,hD⟩:∃ D:Nat→List (List AVal),(fun i=>bls (dpV ls i))=D:=⟨_,rfl⟩
 have hDi:∀ i,bls (dpV ls i)=D i:=fun i=>by rw [← hD]
 simp only [hDi] at hDs hDr hDl hD0 hKv hne
 clear hD hDi
 unfold cV at *
 generalize ls.map rowL=rows at *
 simp [hlen]
 refine Zay (α:=Nat) (fun i=>[(4,.int .i64 i),(3,slV 2 (D i)),(1,.ptr 1 0 0)])
  (fun i=>⟨(1,.cells 2 [[.int .i64 f,.imm rows]]) :: blV 2 1 (D i) [],3⟩)
  (fun i=>ls.length - i) (fun i=>i≤ls.length) 0 [] (by simp [hrr,hD0]) (by simp) ?_
 intro i hi N hN
 try simp only at hi hN ⊢
 by_cases hlt:i<ls.length
 · have hw:IntKind.i64.wrap ((i:Int)+1)=(i:Int)+1:=Zad (by omega) (by omega)
   have hN':=hN (i+1)
   have h68':=h68 i (by omega)
   have hDli:(D i).length≤1048575:=by rw [hDl]; omega
   have hDri:=hDr i
   have hdsi:=hDs i
   rw [hdsi] at hN'
   simp [hlen,hlt,hw]
   refine Zai h68' ?_
   simp [hDli,hw]
   exact hN' [(2,13)] _ _ (by omega) (by omega) (by simp +contextual [hrr,hDri])
 · have hie:i=ls.length:=by omega
   subst hie
   simp [hlen,hlt]
   exact endK hKv [(1,2)] (by simp +contextual [hDr,hne])
theorem Z2c (f:Int) (ls:List Lt) (i:Nat) (hi:i<ls.length) (h:ls.length≤1000):PCall Tryz.prog 124 [cV f ls,.int .i64 i] (.bool (decide ((at' ls i).k=1)&&down ls i)):=by
 refine Zbr hm Tryz.func124 Z25 rfl rfl (by simp [Zae,AVal.closed,Zab]) trivial fun K hK=>?_
 have h0:ls≠[]:=fun e=>by subst e; simp at hi
 have hD:=Z41 f ls h0 h
 have hDl:(bls (dpV ls ls.length)).length=ls.length:=by rw [bls,List.length_map,Zlt]
 have hDg:=Zh3 (Z26 (ls:=ls) hi)
 obtain⟨hDg1,hDg2⟩:=getE hDg
 have hlen:(ls.map rowL).length=ls.length:=List.length_map ..
 have hg:=Ze1 ls hi
 obtain⟨hgl,hg2⟩:=getE hg
 unfold cV at *
 generalize ls.map rowL=rows at *
 generalize bls (dpV ls ls.length)=D at *
 by_cases hk:(at' ls i).k=1
 · rw [decide_eq_true hk,Bool.true_and] at hK
   simp [hlen,hi,hg,hg2,rowL,hk]
   refine Zai hD ?_
   simp [hDl,hi,hDg,hDg2]
   exact endK hK [] (by simp)
 · rw [decide_eq_false hk,Bool.false_and] at hK
   simp [hlen,hi,hg,hg2,rowL,hk]
   exact endK hK [] (by simp)
end Go.Known
end
