/- Part 41 of the proof: Th, Ti, Tj, Tl. -/
import Derived.Test.YtipeejpafgnjdaaGreatDoorE40
set_option linter.all false
section
namespace Go.Known
open Go Go.AE Go.Proofs
open Go.Plain
theorem Z2s (f:Int) (ls:List Lt) (i:Nat) (h0:ls≠[]) (h:ls.length≤1000) (hi:i≤2000):PCall Tryz.prog 166 [cV f ls,.int .i64 i] (.int .i64 (i % ls.length:Nat)):=by
 refine Zbr hm Tryz.func166 Z3y rfl rfl (by simp [Zae,AVal.closed,Zab]) trivial fun K hK=>?_
 have hlen:(ls.map rowL).length=ls.length:=List.length_map ..
 have hpos:0<ls.length:=List.length_pos_iff.2 h0
 obtain⟨y,hy⟩:∃ y:Nat,i % ls.length=y:=⟨_,rfl⟩
 have hyl:y<ls.length:=by rw [← hy]; exact Nat.mod_lt _ hpos
 have h1:(i:Int).tmod (ls.length:Int)=(y:Int):=by rw [← hy]; rfl
 have h2:((y:Int)+(ls.length:Int)).tmod (ls.length:Int)=(y:Int):=by
  have:((y+ls.length:Nat):Int).tmod (ls.length:Int)=(((y+ls.length) % ls.length:Nat):Int):=rfl
  rw [Nat.add_mod_right,Nat.mod_eq_of_lt hyl,Int.natCast_add] at this
  exact this
 have hw:IntKind.i64.wrap ((y:Int)+(ls.length:Int))=(y:Int)+(ls.length:Int):=Zad (by omega) (by omega)
 have hl0:¬(ls.length:Int)=0:=by omega
 have hl1:¬ls.length=0:=by omega
 rw [hy] at hK
 unfold cV
 generalize ls.map rowL=rows at *
 simp [hlen,h1,h2,hw,hl0,hl1,h0]
 exact endK hK [] (by simp)
theorem cRat (f:Int) (ls:List Lt) (i:Nat) (h0:ls≠[]) (h:ls.length≤1000) (hi:i≤2000):PCall Tryz.prog 125 [cV f ls,.int .i64 i] (.agg (rowL (at' ls (i % ls.length)))):=by
 refine Zcx hm 4 Tryz.func125 cjRat rfl rfl (by simp [Zae,AVal.closed,Zab]) (by simp [Zae,AVal.closed,rowL]) fun K hK=>?_
 have hlen:(ls.map rowL).length=ls.length:=List.length_map ..
 have hpos:0<ls.length:=List.length_pos_iff.2 h0
 have hw:=Z2s f ls i h0 h hi
 obtain⟨y,hy⟩:∃ y:Nat,i % ls.length=y:=⟨_,rfl⟩
 have hyl:y<ls.length:=by rw [← hy]; exact Nat.mod_lt _ hpos
 rw [hy] at hw hK
 have hKv:=hK (.agg (rowL (at' ls y))) ⟨[],1⟩ rfl
 clear hK
 have hg:=Ze1 ls hyl
 obtain⟨hgl,hg2⟩:=getE hg
 unfold cV at *
 generalize ls.map rowL=rows at *
 unfold rowL at *
 simp
 refine Zby hw ?_
 simp [hlen,hyl,hg,hg2]
 exact endK hKv [] (by simp)
set_option maxRecDepth 100000 in
set_option maxHeartbeats 8000000 in
theorem Zwn (f:Int) (ls:List Lt) (h:ls.length≤1000) (hq:∀ l,l∈ls→l.k=1→0≤l.g∧l.g≤40):PCall Tryz.prog 77 [cV f ls] (.bool (posB ls)):=by
 refine Zbr hm Tryz.func77 Z1g rfl rfl (by simp [Zae,AVal.closed,Zab]) trivial fun K hK=>?_
 have hrr:∀ q,Zam q (ls.map rowL)=ls.map rowL:=fun q=>Zaa q _ (Zab ls)
 have hlen:(ls.map rowL).length=ls.length:=List.length_map ..
 have hg:=fun i hi=>Ze1 ls (i:=i) hi
 have hdn:=fun i hi=>Z2c f ls i hi h
 have hat:=fun i h0 hi=>cRat f ls i h0 h hi
 unfold cV at *
 generalize ls.map rowL=rows at *
 simp [hlen]
 refine Zay (α:=Nat) (fun i=>[(3,.int .i64 i),(1,.ptr 1 0 0)]) (fun _=>⟨[(1,.cells 2 [[.int .i64 f,.imm rows]])],2⟩) (fun i=>ls.length - i) (fun i=>i≤ls.length ∧ ∀ j,j<i→PosI ls j) 0 [] (by simp [hrr]) (by simp) ?_
 rintro i ⟨hi,hI⟩ N hN
 try simp only at hi hN ⊢
 by_cases hlt:i<ls.length
 · have hgi:=hg i hlt
   obtain⟨hgl,hg2⟩:=getE hgi
   have hw:IntKind.i64.wrap ((i:Int)+1)=(i:Int)+1:=Zad (by omega) (by omega)
   have hN':=hN (i+1) []
   have h0:ls≠[]:=fun e=>by subst e; simp at hlt
   have hd:=hdn i hlt
   have ha:=hat (i+1) h0 (by omega)
   rw [Int.natCast_add] at ha
   obtain⟨y,hy⟩:∃ y:Nat,(i+1) % ls.length=y:=⟨_,rfl⟩
   rw [hy] at ha
   have hj:y<ls.length:=by rw [← hy]; exact Nat.mod_lt _ (by omega)
   have hnx:nxL ls i=at' ls y:=by unfold nxL; rw [hy]
   have hPI:PosI ls i↔((at' ls i).k=1→down ls i=true→(at' ls y).k=1∧((at' ls y).g - (at' ls i).g=1∨(at' ls i).g - (at' ls y).g=1)):=by
    unfold PosI
    rw [hnx]
   have hnext:PosI ls i → ∀ j,j<i+1→PosI ls j:=fun hp j hj=>by
    by_cases hji:j=i
    · subst hji; exact hp
    · exact hI j (by omega)
   have hno:¬PosI ls i→posB ls=false:=fun hn=>Zpp fun hP=>hn (hP i hlt)
   by_cases hkd:(at' ls i).k=1∧down ls i=true
   · obtain⟨hk,hdt⟩:=hkd
     have hq1:=hq _ (Zcc hlt) hk
     rw [decide_eq_true hk,hdt,Bool.true_and] at hd
     have w1:IntKind.i64.wrap ((at' ls i).g+1)=(at' ls i).g+1:=Zad (by omega) (by omega)
     have w2:IntKind.i64.wrap ((at' ls i).g - 1)=(at' ls i).g - 1:=Zad (by omega) (by omega)
     unfold rowL at *
     simp [hlen,hlt,hw]
     refine Zai hd ?_
     by_cases hk2:(at' ls y).k=1
     · by_cases c1:(at' ls y).g=(at' ls i).g+1
       · have hp:PosI ls i:=hPI.2 fun _ _=>⟨hk2,.inl (by omega)⟩
         rw [hk2,c1] at ha
         simp [hlen,hlt,hw,hgi,hg2]
         refine Zby ha ?_
         simp [FT.indep,hw,w1,w2]
         exact hN' _ _ (by omega) ⟨by omega,hnext hp⟩ (by simp [hrr])
       · by_cases c2:(at' ls y).g=(at' ls i).g - 1
         · have hp:PosI ls i:=hPI.2 fun _ _=>⟨hk2,.inr (by omega)⟩
           have c1':¬(at' ls i).g - 1=(at' ls i).g+1:=by omega
           rw [hk2,c2] at ha
           simp [hlen,hlt,hw,hgi,hg2]
           refine Zby ha ?_
           simp [FT.indep,hw,w1,w2,c1']
           exact hN' _ _ (by omega) ⟨by omega,hnext hp⟩ (by simp [hrr])
         · rw [hno fun hp=>by have:=(hPI.1 hp hk hdt).2; omega] at hK
           rw [hk2] at ha
           simp [hlen,hlt,hw,hgi,hg2]
           refine Zby ha ?_
           simp [FT.indep,hw,w1,w2,c1,c2]
           exact endK hK [] (by simp)
     · rw [hno fun hp=>hk2 (hPI.1 hp hk hdt).1] at hK
       simp [hlen,hlt,hw,hgi,hg2]
       refine Zby ha ?_
       simp [FT.indep,hw,hk2]
       exact endK hK [] (by simp)
   · have hpi:PosI ls i:=hPI.2 fun hk hdt=>absurd ⟨hk,hdt⟩ hkd
     have hf:(decide ((at' ls i).k=1)&&down ls i)=false:=by
      cases hdd:down ls i with
      | false=>simp
      | true=>
       have:¬(at' ls i).k=1:=fun e=>hkd ⟨e,hdd⟩
       simp [this]
     rw [hf] at hd
     simp [hlen,hlt,hw]
     refine Zai hd ?_
     simp [hw]
     exact hN' _ _ (by omega) ⟨by omega,hnext hpi⟩ (by simp [hrr])
 · have hie:i=ls.length:=by omega
   subst hie
   have hv:PosP ls:=hI
   rw [Zre hv] at hK
   simp [hlen,hlt]
   exact endK hK [] (by simp)
end Go.Known
end
section
namespace Go.Known
open Go Go.AE Go.Proofs
open Go.Plain
set_option maxRecDepth 100000 in
set_option maxHeartbeats 8000000 in
theorem Zu2 (fs:List Fg) (re lo f:Int) (ls:List Lt) (hf:fs.length≤1000) (h:ls.length≤1000):PCall Tryz.prog 33 [frV fs re lo,cV f ls] (.int .i64 (Zcj fs re lo f ls)):=by
 refine Zbr hm Tryz.func33 Zxk rfl rfl (by simp [Zae,AVal.closed,Zaf,Zab,frV]) trivial fun K hK=>?_
 have hlen:(fs.map rowG).length=fs.length:=List.length_map ..
 have h82:=Zx2 fs re lo hf
 have h30:=c4 f ls h
 have h120:=fun he=>Zwn f ls h (Zld (f:=f) he)
 unfold frV cV at *
 generalize ls.map rowL=rows at *
 generalize fs.map rowG=rowsG at *
 unfold Zcj at hK
 cases hB:frB fs re lo with
 | false=>
  rw [hB] at h82
  rw [if_pos hB] at hK
  simp [hlen]
  refine Zai h82 ?_
  simp
  exact endK hK [] (by simp)
 | true=>
  rw [hB] at h82
  rw [if_neg (by simp [hB])] at hK
  simp [hlen]
  refine Zai h82 ?_
  simp
  refine Zai h30 ?_
  by_cases he:errC f ls=0
  · rw [if_neg (by simp [he])] at hK
    have h120':=h120 he
    simp [he,hlen]
    by_cases hl:f=fs.length
    · subst hl
      simp [hlen]
      refine Zai h120' ?_
      cases hP:posB ls with
      | true=>
       rw [if_pos ⟨rfl,hP⟩] at hK
       simp
       exact endK hK [] (by simp)
      | false=>
       rw [if_neg (fun hh=>by simp [hP] at hh)] at hK
       simp
       exact endK hK [] (by simp)
    · rw [if_neg (fun hh=>hl hh.1)] at hK
      simp [hl,hlen]
      exact endK hK [] (by simp)
  · rw [if_pos he] at hK
    simp [he]
    exact endK hK [] (by simp)
end Go.Known
end
section
namespace Go.Known
open Go Go.AE Go.Proofs
open Go.Plain
def stB (fs:List Fg) (re lo f:Int) (ls:List Lt):ABlk:=.cells 5 [[.imm (fs.map rowG),.int .i64 re,.int .i64 lo,.int .i64 f,.imm (ls.map rowL)]]
set_option maxRecDepth 100000 in
set_option maxHeartbeats 8000000 in
theorem c49 (fs:List Fg) (re lo f:Int) (ls:List Lt) (hf:fs.length≤1000) (h:ls.length≤1000) :
 Ctr Tryz.prog 63 [frV fs re lo,cV f ls] ⟨[],1⟩ fun r m=>(Zcj fs re lo f ls≠0∧r=.tuple [.nilPtr,.int .i64 (Zcj fs re lo f ls)]∧m=⟨[],1⟩) ∨
  (Zcj fs re lo f ls=0∧r=.tuple [.ptr 1 0 0,.int .i64 0]∧m=⟨[(1,stB fs re lo f ls)],2⟩):=by
 refine Zhq hm Tryz.func63 cf49 rfl rfl fun K hK=>?_
 have hrr:∀ q,Zam q (ls.map rowL)=ls.map rowL:=fun q=>Zaa q _ (Zab ls)
 have hrG:∀ q,Zam q (fs.map rowG)=fs.map rowG:=fun q=>Zaa q _ (Zaf fs)
 have h82:=c82 fs re lo hf
 have h30:=c30 f ls h
 have h83:=c83 fs re lo f ls hf h
 have hE:∀ e:Int,Zcj fs re lo f ls=e→e≠0 → ∀ m,SubR 1 [] [(0,.tuple [.nilPtr,.int .i64 e])] ⟨[],1⟩ [(0,.tuple [.nilPtr,.int .i64 e])] m→EndK 1 K (.tuple [.nilPtr,.int .i64 e]) m:=
  fun e he hne m hs=>by subst he; exact endK (hK _ _ (.inl ⟨hne,rfl,rfl⟩)) [] hs
 have hO:=fun he=>hK _ _ (.inr ⟨he,rfl,rfl⟩)
 clear hK
 unfold stB frV cV at *
 generalize ls.map rowL=rows at *
 generalize fs.map rowG=rowsG at *
 cases hB:frB fs re lo with
 | false=>
  have hh:Zcj fs re lo f ls=2:=by unfold Zcj; rw [if_pos hB]
  rw [hB] at h82
  simp
  refine Zai h82 ?_
  simp
  exact hE 2 hh (by omega) _ (by simp)
 | true=>
  rw [hB] at h82
  simp
  refine Zai h82 ?_
  simp
  refine Zai h30 ?_
  by_cases he:errC f ls=0
  · simp only [he]
    simp
    refine Zai h83 ?_
    by_cases hz:Zcj fs re lo f ls=0
    · simp [hz]
      exact endK (hO hz) [(1,20)] (by simp [hrr,hrG])
    · have hh:Zcj fs re lo f ls=2:=by
       unfold Zcj at hz ⊢
       rw [if_neg (by simp [hB]),if_neg (by simp [he])] at hz ⊢
       by_cases hc:f=fs.length∧posB ls=true
       · exact absurd (if_pos hc) hz
       · exact if_neg hc
      simp [hh]
      exact hE 2 hh (by omega) _ (by simp)
  · have hh:Zcj fs re lo f ls=errC f ls:=by
     unfold Zcj
     rw [if_neg (by simp [hB]),if_pos he]
    simp [he]
    exact hE _ hh he _ (by simp)
end Go.Known
end
section
namespace Go.Known
open Go Go.AE Go.Proofs
open Go.Plain
theorem Z3f (a b:Fg):binA .neq (.flat [.int,.bool,.int]) (.agg (rowG a)) (.agg (rowG b))=some (.bool (!decide (a=b))):=by
 simp only [binA,eqA,Zrt]
set_option maxRecDepth 100000 in
set_option maxHeartbeats 4000000 in
theorem Zwc (fs:List Fg) (re lo:Int) (h:fs.length≤1000):PCall Tryz.prog 26 [frV fs re lo,frV fs re lo] (.bool true):=by
 refine Zbr hm Tryz.func26 Znv rfl rfl (by simp [Zae,AVal.closed,Zaf,frV]) trivial fun K hK=>?_
 have hrr:∀ q,Zam q (fs.map rowG)=fs.map rowG:=fun q=>Zaa q _ (Zaf fs)
 have hlen:(fs.map rowG).length=fs.length:=List.length_map ..
 have hg:=fun i hi=>Zd4 fs (i:=i) hi
 have hq:=fun y=>Z3f y y
 unfold frV
 generalize fs.map rowG=rows at *
 unfold rowG at *
 simp [hlen]
 refine Zay (α:=Nat) (fun i=>[(5,.int .i64 i),(2,.ptr 1 0 0),(3,.ptr 2 0 0)]) (fun _=>⟨[(2,.cells 3 [[.imm rows,.int .i64 re,.int .i64 lo]]),(1,.cells 3 [[.imm rows,.int .i64 re,.int .i64 lo]])],3⟩) (fun i=>fs.length - i) (fun i=>i≤fs.length) 0 [] (by simp [hrr]) (by simp) ?_
 intro i hi N hN
 try simp only at hi hN ⊢
 by_cases hlt:i<fs.length
 · have hgi:=hg i hlt
   obtain⟨hgl,hg2⟩:=getE hgi
   have hw:IntKind.i64.wrap ((i:Int)+1)=(i:Int)+1:=Zad (by omega) (by omega)
   have he:=hq (fgAt fs i)
   simp at he
   simp [hlen,hlt,hgi,hg2,hw,he]
   exact hN (i+1) [] _ _ (by omega) (by omega) (by simp [hrr])
 · have hie:i=fs.length:=by omega
   simp [hlen,hlt]
   exact endK hK [] (by simp)
theorem Zs8:PCall Tryz.prog 26 [.agg [.nilSl,.int .i64 0,.int .i64 0],.agg [.nilSl,.int .i64 0,.int .i64 0]] (.bool true):=by
 refine Zbr hm Tryz.func26 Znv rfl rfl (by simp [Zae,AVal.closed]) trivial fun K hK=>?_
 simp
 refine Zay (α:=Unit) (fun _=>[(5,.int .i64 0),(2,.ptr 1 0 0),(3,.ptr 2 0 0)]) (fun _=>⟨[(2,.cells 3 [[.nilSl,.int .i64 0,.int .i64 0]]),(1,.cells 3 [[.nilSl,.int .i64 0,.int .i64 0]])],3⟩) (fun _=>0) (fun _=>True) () [] (by simp) trivial ?_
 intro _ _ N hN
 simp
 exact endK hK [] (by simp)
end Go.Known
end
