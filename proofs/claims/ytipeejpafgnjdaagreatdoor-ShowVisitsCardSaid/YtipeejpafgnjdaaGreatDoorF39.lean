/- Part 39 of the proof: Tf, Tj, Tk. -/
import Derived.Test.YtipeejpafgnjdaaGreatDoorF38
set_option linter.all false
section
namespace Go.Known
open Go Go.AE Go.Proofs
open Go.Plain
theorem gates_of {f:Int} {ls:List Lt} (he:errC f ls=0):∀ l,l∈ls→l.k=1→0≤l.g∧l.g≤40:=by
 intro l hm hk
 have h0:ls≠[]:=fun e=>by subst e; simp at hm
 have hv:=valR_of he h0
 have h1:=(hv.key hm (by simp [isP,hk])).2
 have:=hv.hi
 exact⟨by omega,by omega⟩
open Classical in
noncomputable def handE (fs:List Fg) (re lo f:Int) (ls:List Lt):Int:=
 if frB fs re lo=false then 2 else if errC f ls≠0 then errC f ls else if f=fs.length∧posB ls=true then 0 else 2
set_option maxRecDepth 100000 in
set_option maxHeartbeats 8000000 in
theorem c83 (fs:List Fg) (re lo f:Int) (ls:List Lt) (hf:fs.length≤1000) (h:ls.length≤1000):PCall Tryz.prog 110 [frV fs re lo,cV f ls] (.bool (decide (handE fs re lo f ls=0))):=by
 refine PCall_1 hm Tryz.func110 cf83 rfl rfl (by simp [closedL,AVal.closed,closed_rowG,closed_rows,frV]) trivial fun K hK=>?_
 have hrr:∀ q,renLL q (fs.map rowG)=fs.map rowG:=fun q=>renLL_closed q _ (closed_rowG fs)
 have hlen:(fs.map rowG).length=fs.length:=List.length_map ..
 have h82:=c82 fs re lo hf
 have h30:=c30 f ls h
 have h120:=fun he=>c120 f ls h (gates_of (f:=f) he)
 unfold frV cV at *
 generalize ls.map rowL=rows at *
 generalize fs.map rowG=rowsG at *
 unfold handE at hK
 cases hB:frB fs re lo with
 | false=>
  rw [hB] at h82
  rw [if_pos hB] at hK
  simp [hlen]
  refine SC_pure h82 ?_
  simp
  exact endK hK [] (by simp)
 | true=>
  rw [hB] at h82
  rw [if_neg (by simp [hB])] at hK
  simp [hlen]
  refine SC_pure h82 ?_
  simp
  refine SC_pure h30 ?_
  by_cases he:errC f ls=0
  · rw [if_neg (by simp [he])] at hK
    have h120':=h120 he
    simp only [he]
    by_cases hl:f=fs.length
    · subst hl
      simp [hlen]
      refine SC_pure h120' ?_
      cases hP:posB ls with
      | true=>
       rw [if_pos ⟨rfl,hP⟩] at hK
       simp
       exact endK hK [] (by simp)
      | false=>
       rw [if_neg (fun hh=>by simp [hP] at hh)] at hK
       simp
       exact endK hK [] (by simp)
    · rw [if_neg (fun hh=>hl hh.1)] at hK
      simp [hl,hlen]
      exact endK hK [] (by simp)
  · rw [if_pos he] at hK
    rw [decide_eq_false he] at hK
    simp [he]
    exact endK hK [] (by simp)
set_option maxRecDepth 100000 in
set_option maxHeartbeats 8000000 in
theorem c153 (fs:List Fg) (re lo f:Int) (ls:List Lt) (hf:fs.length≤1000) (h:ls.length≤1000):PCall Tryz.prog 173 [frV fs re lo,cV f ls] (.int .i64 (handE fs re lo f ls)):=by
 refine PCall_1 hm Tryz.func173 cf153 rfl rfl (by simp [closedL,AVal.closed,closed_rowG,closed_rows,frV]) trivial fun K hK=>?_
 have hlen:(fs.map rowG).length=fs.length:=List.length_map ..
 have h82:=c82 fs re lo hf
 have h30:=c30 f ls h
 have h120:=fun he=>c120 f ls h (gates_of (f:=f) he)
 unfold frV cV at *
 generalize ls.map rowL=rows at *
 generalize fs.map rowG=rowsG at *
 unfold handE at hK
 cases hB:frB fs re lo with
 | false=>
  rw [hB] at h82
  rw [if_pos hB] at hK
  simp [hlen]
  refine SC_pure h82 ?_
  simp
  exact endK hK [] (by simp)
 | true=>
  rw [hB] at h82
  rw [if_neg (by simp [hB])] at hK
  simp [hlen]
  refine SC_pure h82 ?_
  simp
  refine SC_pure h30 ?_
  by_cases he:errC f ls=0
  · rw [if_neg (by simp [he])] at hK
    have h120':=h120 he
    simp [he,hlen]
    by_cases hl:f=fs.length
    · subst hl
      simp [hlen]
      refine SC_pure h120' ?_
      cases hP:posB ls with
      | true=>
       rw [if_pos ⟨rfl,hP⟩] at hK
       simp
       exact endK hK [] (by simp)
      | false=>
       rw [if_neg (fun hh=>by simp [hP] at hh)] at hK
       simp
       exact endK hK [] (by simp)
    · rw [if_neg (fun hh=>hl hh.1)] at hK
      simp [hl,hlen]
      exact endK hK [] (by simp)
  · rw [if_pos he] at hK
    simp [he]
    exact endK hK [] (by simp)
end Go.Known
end
section
namespace Go.Known
open Go Go.AE Go.Proofs
open Go.Plain
def stB (fs:List Fg) (re lo f:Int) (ls:List Lt):ABlk:=.cells 5 [[.imm (fs.map rowG),.int .i64 re,.int .i64 lo,.int .i64 f,.imm (ls.map rowL)]]
set_option maxRecDepth 100000 in
set_option maxHeartbeats 8000000 in
theorem c49 (fs:List Fg) (re lo f:Int) (ls:List Lt) (hf:fs.length≤1000) (h:ls.length≤1000) :
 Ctr Tryz.prog 63 [frV fs re lo,cV f ls] ⟨[],1⟩ fun r m=>(handE fs re lo f ls≠0∧r=.tuple [.nilPtr,.int .i64 (handE fs re lo f ls)]∧m=⟨[],1⟩) ∨
  (handE fs re lo f ls=0∧r=.tuple [.ptr 1 0 0,.int .i64 0]∧m=⟨[(1,stB fs re lo f ls)],2⟩):=by
 refine ctr_P hm Tryz.func63 cf49 rfl rfl fun K hK=>?_
 have hrr:∀ q,renLL q (ls.map rowL)=ls.map rowL:=fun q=>renLL_closed q _ (closed_rows ls)
 have hrG:∀ q,renLL q (fs.map rowG)=fs.map rowG:=fun q=>renLL_closed q _ (closed_rowG fs)
 have h82:=c82 fs re lo hf
 have h30:=c30 f ls h
 have h83:=c83 fs re lo f ls hf h
 have hE:∀ e:Int,handE fs re lo f ls=e→e≠0 → ∀ m,SubR 1 [] [(0,.tuple [.nilPtr,.int .i64 e])] ⟨[],1⟩ [(0,.tuple [.nilPtr,.int .i64 e])] m→EndK 1 K (.tuple [.nilPtr,.int .i64 e]) m:=
  fun e he hne m hs=>by subst he; exact endK (hK _ _ (.inl ⟨hne,rfl,rfl⟩)) [] hs
 have hO:=fun he=>hK _ _ (.inr ⟨he,rfl,rfl⟩)
 clear hK
 unfold stB frV cV at *
 generalize ls.map rowL=rows at *
 generalize fs.map rowG=rowsG at *
 cases hB:frB fs re lo with
 | false=>
  have hh:handE fs re lo f ls=2:=by unfold handE; rw [if_pos hB]
  rw [hB] at h82
  simp
  refine SC_pure h82 ?_
  simp
  exact hE 2 hh (by omega) _ (by simp)
 | true=>
  rw [hB] at h82
  simp
  refine SC_pure h82 ?_
  simp
  refine SC_pure h30 ?_
  by_cases he:errC f ls=0
  · simp only [he]
    simp
    refine SC_pure h83 ?_
    by_cases hz:handE fs re lo f ls=0
    · simp [hz]
      exact endK (hO hz) [(1,20)] (by simp [hrr,hrG])
    · have hh:handE fs re lo f ls=2:=by
       unfold handE at hz ⊢
       rw [if_neg (by simp [hB]),if_neg (by simp [he])] at hz ⊢
       by_cases hc:f=fs.length∧posB ls=true
       · exact absurd (if_pos hc) hz
       · exact if_neg hc
      simp [hh]
      exact hE 2 hh (by omega) _ (by simp)
  · have hh:handE fs re lo f ls=errC f ls:=by
     unfold handE
     rw [if_neg (by simp [hB]),if_pos he]
    simp [he]
    exact hE _ hh he _ (by simp)
end Go.Known
end
section
namespace Go.Known
open Go Go.AE Go.Proofs
open Go.Plain
def pM (p:Int):SMem:=⟨[(1,.cells 1 [[.int .i64 p]])],2⟩
def hasP (p:Int) (fs:List Fg):Bool:=fs.any fun x=>decide (x.p=p)
theorem c89 (p:Int) (x:Fg):Ctr Tryz.prog 112 [.agg (rowG x),.ptr 1 0 0] (pM p) fun r m=>r=.bool (decide (x.p=p))∧m=pM p:=by
 refine ctr_1 hm Tryz.func112 cf89 rfl rfl fun K hK=>?_
 unfold pM rowG at *
 simp
 exact endK hK [] (by simp)
set_option maxHeartbeats 1000000 in
theorem c121 (p:Int) (fs:List Fg) (h:fs.length≤1000) :
 Ctr Tryz.prog 165 [.imm (fs.map rowG),.func (.func 112) [] [.ptr 1 0 0]] (pM p) fun r m=>(∃ n:Int,r=.int .i64 n∧decide (0≤n)=hasP p fs)∧m=pM p:=by
 refine ctr_P hm Tryz.func165 cf121 rfl rfl fun K hK=>?_
 have hrr:∀ q,renLL q (fs.map rowG)=fs.map rowG:=fun q=>renLL_closed q _ (closed_rowG fs)
 have hlen:(fs.map rowG).length=fs.length:=List.length_map ..
 have hg:=fun i hi=>get_rowG fs (i:=i) hi
 have hc:=fun x=>c89 p x
 have fin:∀ (n:Int) m,decide (0≤n)=hasP p fs→SubR 2 [] [(0,.int .i64 n)] (pM p) [(0,.int .i64 n)] m→EndK 2 K (.int .i64 n) m:=
  fun n m hb h=>endK (hK (.int .i64 n) (pM p) ⟨⟨n,rfl,hb⟩,rfl⟩) [] h
 clear hK
 unfold pM at *
 generalize fs.map rowG=rows at *
 simp
 refine wZ_loop (α:=Nat) (fun i=>[(8,.int .i64 i),(7,.int .i64 fs.length),(1,.func (.func 112) [] [.ptr 1 0 0]),(0,.imm rows)]) (fun i=>⟨[(1,.cells 1 [[.int .i64 p]])],2⟩)
  (fun i=>fs.length - i) (fun i=>i≤fs.length ∧ ∀ j,j<i→(fgAt fs j).p≠p) 0 [] (by simp [hrr,hlen]) (by simp) ?_
 rintro i ⟨hi,hI⟩ N hN
 try simp only at hi hN ⊢
 by_cases hlt:i<fs.length
 · have hgi:=hg i hlt
   obtain⟨hgl,hg2⟩:=getE hgi
   have hw1:IntKind.i64.wrap ((i:Int)+1)=(i:Int)+1:=wrap64 (by omega) (by omega)
   have hci:=hc (fgAt fs i)
   unfold rowG at *
   simp [hlen,hlt,hgi,hg2]
   refine SC_ctr hci [] (by simp) (by simp) (by simp) ?_
   rintro r sm ⟨rfl,rfl⟩
   by_cases hp:(fgAt fs i).p=p
   · have hyes:hasP p fs=true:=by
      unfold hasP
      rw [List.any_eq_true]
      exact⟨fs[i],List.getElem_mem hlt,by rw [← fgAt_eq hlt]; exact decide_eq_true hp⟩
     simp [hp]
     exact fin _ _ (by simp [hyes]) (by simp)
   · simp [hp,hw1]
     refine hN (i+1) [] _ _ (by omega) ⟨by omega,fun j hj=>?_⟩ (by simp [hrr])
     by_cases hji:j=i
     · subst hji; exact hp
     · exact hI j (by omega)
 · have hie:i=fs.length:=by omega
   have hno:hasP p fs=false:=by
    unfold hasP
    rw [List.any_eq_false]
    intro x hx
    obtain⟨j,hj,rfl⟩:=List.getElem_of_mem hx
    have:=hI j (by omega)
    rw [fgAt_eq hj] at this
    simpa using this
   subst hie
   simp [hlen]
   exact fin _ _ (by simp [hno]) (by simp)
theorem c84 (p:Int) (fs:List Fg) (h:fs.length≤1000) :
 Ctr Tryz.prog 111 [.imm (fs.map rowG),.func (.func 112) [] [.ptr 1 0 0]] (pM p) fun r m=>r=.bool (hasP p fs)∧m=pM p:=by
 refine ctr_1 hm Tryz.func111 cf84 rfl rfl fun K hK=>?_
 have hrr:∀ q,renLL q (fs.map rowG)=fs.map rowG:=fun q=>renLL_closed q _ (closed_rowG fs)
 have hc:=c121 p fs h
 unfold pM at *
 generalize fs.map rowG=rows at *
 simp
 refine SC_ctr hc [] (by simp [hrr]) (by simp) (by simp) ?_
 rintro r sm ⟨⟨n,rfl,hn⟩,rfl⟩
 simp [hn]
 exact endK hK [] (by simp)
end Go.Known
end
