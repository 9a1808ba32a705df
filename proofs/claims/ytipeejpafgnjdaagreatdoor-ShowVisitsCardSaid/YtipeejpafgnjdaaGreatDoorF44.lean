/- Part 44 of the proof: Tt, Tu. -/
import Derived.Test.YtipeejpafgnjdaaGreatDoorF43
set_option linter.all false
section
namespace Go.Known
open Go Go.AE Go.Proofs
open Go.Plain
def cpV (b:Nat) (rows:List (List AVal)):AVal:=if rows=[] then .imm [] else .sl b 0 rows.length
theorem rows3G (fs:List Fg):((fs.map rowG).all fun x=>x.length == 3)=true:=by
 rw [List.all_eq_true]
 intro x hx
 obtain⟨a,_,rfl⟩:=List.mem_map.1 hx
 rfl
set_option maxRecDepth 100000 in
set_option maxHeartbeats 8000000 in
theorem c51 (fs:List Fg) (re lo f:Int) (ls:List Lt) (hf:fs.length≤1000) (h:ls.length≤1000) :
 Ctr Tryz.prog 65 [.ptr 1 0 0] ⟨[(1,stB fs re lo f ls)],2⟩ fun r m=>
  r=.tuple [.agg [cpV 2 (fs.map rowG),.int .i64 re,.int .i64 lo],.agg [.int .i64 f,cpV 3 (ls.map rowL)]]∧m=⟨blV 2 3 (fs.map rowG) (blV 3 6 (ls.map rowL) [(1,stB fs re lo f ls)]),4⟩:=by
 refine ctr_1 hm Tryz.func65 cf51 rfl rfl fun K hK=>?_
 have hrr:∀ q,renLL q (ls.map rowL)=ls.map rowL:=fun q=>renLL_closed q _ (closed_rows ls)
 have hrG:∀ q,renLL q (fs.map rowG)=fs.map rowG:=fun q=>renLL_closed q _ (closed_rowG fs)
 have h31:=fun h0=>c31s (ls.map rowL) h0 (by simpa using h) (rows6 ls) (closed_rows ls)
 have h31e:=c31e
 have h88:=fun h0=>c88s (fs.map rowG) h0 (by simpa using hf) (rows3G fs) (closed_rowG fs)
 have h88e:=c88e
 have hcG:=closed_rowG fs
 have hcL:=closed_rows ls
 unfold stB at *
 generalize ls.map rowL=rows at *
 generalize fs.map rowG=rowsG at *
 simp
 by_cases hG:rowsG=[]
 · subst hG
   refine DC_pure h88e ?_
   simp [FT.indep]
   by_cases hL:rows=[]
   · subst hL
     refine DC_pure h31e ?_
     simp [FT.indep]
     exact endK hK [] (by simp [cpV])
   · refine DC_new (by simp [closedL,AVal.closed,hcL]) (by simp [hrr]) (h31 hL) ?_
     simp [FT.indep]
     exact endK hK [(3,21)] (by simp [cpV,hL,hrr])
 · refine DC_new (by simp [closedL,AVal.closed,hcG]) (by simp [hrG]) (h88 hG) ?_
   simp [FT.indep]
   by_cases hL:rows=[]
   · subst hL
     refine DC_pure h31e ?_
     simp [FT.indep]
     exact endK hK [(2,18)] (by simp [cpV,hG,hrG])
   · refine DC_new (by simp [closedL,AVal.closed,hcL]) (by simp [hrr]) (h31 hL) ?_
     simp [FT.indep]
     exact endK hK [(2,18),(3,21)] (by simp [cpV,hG,hL,hrG,hrr])
end Go.Known
end
section
namespace Go.Known
open Go Go.AE Go.Proofs
open Go.Plain
theorem errC_nil {f:Int} (h0:0≤f) (h1:f≤40):errC f []=0:=by
 have hv:visits ([]:List Lt)=0:=rfl
 have hok:OkV f []:=.inl rfl
 unfold errC
 rw [if_neg (by simp [hv]),if_neg (by omega),if_pos hok]
theorem errC_lo {f:Int} {ls:List Lt} (h:errC f ls=0):0≤f∧f≤40:=by
 unfold errC at h
 split at h
 · cases h
 · split at h
   · cases h
   · omega
theorem errC_forget {f n:Int} {ls:List Lt} (h:errC f ls=0) (h1:1≤n) (h2:n≤f):errC (f - 1) (foN n ls)=0:=by
 by_cases h0:ls=[]
 · subst h0
   have:=errC_lo h
   exact errC_nil (by omega) (by omega)
 · exact((valR_of h h0).forget h0 h1 h2).to
theorem cForgetA (f n:Int) (ls:List Lt) (he:errC f ls=0) (h1:1≤n) (h2:n≤f):PCall Tryz.prog 113 [cV f ls,.int .i64 n] (.tuple [cV (f - 1) (foN n ls),.int .i64 0]):=by
 by_cases h0:ls=[]
 · subst h0; exact cForget0 f n he h1 h2
 · exact cForget f n ls (valR_of he h0) h0 h1 h2
def stayF (p:Int) (fs:List Fg):List Fg:=fs.filter fun x=>!decide (x.p=p)
def lvF (p:Int) (fs:List Fg) (d:Nat):List Fg:=fs.take (fs.length - d)++stayF p (fs.drop (fs.length - d))
def lvD (p:Int) (fs:List Fg) (f:Int) (ls:List Lt):Nat→Int×List Lt
 | 0=>(f,ls)
 | d+1=>if (fgAt fs (fs.length - (d+1))).p=p then ((lvD p fs f ls d).1 - 1,foN ((fs.length - (d+1):Nat)+1:Int) (lvD p fs f ls d).2) else lvD p fs f ls d
section
variable {p:Int} {fs:List Fg} {d:Nat}
theorem lvF_zero:lvF p fs 0=fs:=by simp [lvF,stayF]
theorem lvF_all:lvF p fs fs.length=stayF p fs:=by simp [lvF]
theorem drop_fg {j:Nat} (h:j<fs.length):fs.drop j=fgAt fs j :: fs.drop (j+1):=by
 rw [List.drop_eq_getElem_cons h,fgAt_eq h]
theorem stay_cons {x:Fg} {l:List Fg}:stayF p (x :: l)=if x.p=p then stayF p l else x :: stayF p l:=by
 unfold stayF
 by_cases h:x.p=p<;>simp [h]
theorem lvF_stay {j:Nat} (h:j+(d+1)=fs.length) (hp:¬(fgAt fs j).p=p):lvF p fs (d+1)=lvF p fs d:=by
 have e1:fs.length - (d+1)=j:=by omega
 have e2:fs.length - d=j+1:=by omega
 unfold lvF
 rw [e1,e2,drop_fg (j:=j) (by omega),stay_cons,if_neg hp,List.take_add_one,List.append_assoc]
 have:fs[j]? = some (fgAt fs j):=by rw [List.getElem?_eq_getElem (show j<fs.length by omega),fgAt_eq (by omega)]
 rw [this]
 rfl
theorem lvF_go {j:Nat} (h:j+(d+1)=fs.length) (hp:(fgAt fs j).p=p):lvF p fs (d+1)=(lvF p fs d).take j++(lvF p fs d).drop (j+1):=by
 have e1:fs.length - (d+1)=j:=by omega
 have e2:fs.length - d=j+1:=by omega
 have e3:(fs.take (j+1)).length=j+1:=by simp; omega
 unfold lvF
 rw [e1,e2,drop_fg (j:=j) (by omega),stay_cons,if_pos hp,List.take_append_of_le_length (by omega),List.take_take,Nat.min_eq_left (by omega),List.drop_append_of_le_length (by omega),List.drop_take_self,List.nil_append]
theorem lvF_length_le:(lvF p fs d).length≤fs.length:=by
 unfold lvF stayF
 have:=List.length_filter_le (fun x:Fg=>!decide (x.p=p)) (fs.drop (fs.length - d))
 simp at this ⊢
 omega
theorem lvF_length_ge:fs.length - d≤(lvF p fs d).length:=by
 unfold lvF
 simp
theorem lvF_get {j:Nat} (h:j+(d+1)=fs.length):(lvF p fs d)[j]? = some (fgAt fs j):=by
 unfold lvF
 rw [List.getElem?_append_left (by simp; omega),List.getElem?_take,if_pos (by omega),List.getElem?_eq_getElem (show j<fs.length by omega),fgAt_eq (by omega)]
theorem lvD_ok {ls:List Lt} (he:errC fs.length ls=0):∀ d,d≤fs.length→errC (lvD p fs fs.length ls d).1 (lvD p fs fs.length ls d).2=0∧(lvD p fs fs.length ls d).1=(lvF p fs d).length∧(lvD p fs fs.length ls d).2.length=ls.length
 | 0,_=>by rw [lvF_zero]; exact⟨he,rfl,rfl⟩
 | d+1,hd=>by
  obtain⟨h1,h2,h3⟩:=lvD_ok he d (by omega)
  obtain⟨j,hj⟩:∃ j,j+(d+1)=fs.length:=⟨fs.length - (d+1),by omega⟩
  have e1:fs.length - (d+1)=j:=by omega
  have hge:=lvF_length_ge (p:=p) (fs:=fs) (d:=d)
  simp only [lvD,e1]
  by_cases hp:(fgAt fs j).p=p
  · rw [if_pos hp]
    refine⟨errC_forget h1 (by omega) (by omega),?_,by simpa [foN] using h3⟩
    rw [lvF_go hj hp]
    simp only [List.length_append,List.length_take,List.length_drop]
    omega
  · rw [if_neg hp,lvF_stay hj hp]
    exact⟨h1,h2,h3⟩
end
end Go.Known
end
