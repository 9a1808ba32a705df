/- Part 30 of the proof: Rb, Rd, Ld, Pf, Rs. -/
import Derived.Test.YtfmnflhggplkmaaGreatDoorO21
import Derived.Test.YtfmnflhggplkmaaGreatDoorO26
import Derived.Test.YtfmnflhggplkmaaGreatDoorO28
import Derived.Test.YtfmnflhggplkmaaGreatDoorO29
set_option linter.all false
section
namespace Go.Known
open Go Go.AE Go.Proofs
open Go.Plain
attribute [local simp] wZ_skip wZ_region wZ_dregion wZ_seq wZ_condM wZ_block wZ_scope wZ_exit wZ_ret thenS_normal thenS_ret thenS_exit blockS_normal blockS_ret blockS_exit zops_nil' zops_one zops_gd pt_some pt_none ev_tmp ev_const ev_fn wt_some wt_bool wt_undef vo_some wo_some sd_mov sd_pick pk_true pk_false sd_box bx_some sd_alloc sd_build ag_some sd_mkSl mk_some sd_load sd_store sd_nilChk nl_ptr nl_iptr sd_bin sd_un sd_mkFunc sd_mkMap sd_fieldA ad_ptr ad_iptr sd_field fl_agg sd_ext ex_tuple sd_lenSl ln_some sl_nil sl_emp sl_sl sl_imm sd_idxA sd_makeSl sd_append sd_lenMap sd_lookup sd_mapUpd ix_sl ix_imm an_int Env.get argE SMem.at SMem.app SMem.get lookB eraseB AVal.cells AVal.one loadD rowAtD bn_add bn_sub bn_mul bn_quo bn_rem bn_eql bn_neq bn_lss bn_leq bn_gtr bn_geq bb_eql bb_neq unA storeD setRow fillA fillS calleeE aundef xdops_nil' xdops_one xdops_gd kp_nil kp_cons recF memN indF lookF retN oneK yieldE quietO SubR SubRE SubRB InjK InjA qOf lookN AVal.ren renL renLL ABlk.ren
theorem getE {α:Type} {l:List α} {i:Nat} {x:α} (h:l[i]? = some x):∃ hi:i<l.length,l[i]=x:=List.getElem?_eq_some_iff.1 h
end Go.Known
end
section
namespace Go.Known
open Go Go.AE Go.Proofs
open Go.Plain
attribute [local simp] wZ_skip wZ_region wZ_dregion wZ_seq wZ_condM wZ_block wZ_scope wZ_exit wZ_ret thenS_normal thenS_ret thenS_exit blockS_normal blockS_ret blockS_exit zops_nil' zops_one zops_gd pt_some pt_none ev_tmp ev_const ev_fn wt_some wt_bool wt_undef vo_some wo_some sd_mov sd_pick pk_true pk_false sd_box bx_some sd_alloc sd_build ag_some sd_mkSl mk_some sd_load sd_store sd_nilChk nl_ptr nl_iptr sd_bin sd_un sd_mkFunc sd_mkMap sd_fieldA ad_ptr ad_iptr sd_field fl_agg sd_ext ex_tuple sd_lenSl ln_some sl_nil sl_emp sl_sl sl_imm sd_idxA sd_makeSl sd_append sd_lenMap sd_lookup sd_mapUpd ix_sl ix_imm an_int Env.get argE SMem.at SMem.app SMem.get lookB eraseB AVal.cells AVal.one loadD rowAtD bn_add bn_sub bn_mul bn_quo bn_rem bn_eql bn_neq bn_lss bn_leq bn_gtr bn_geq bb_eql bb_neq unA storeD setRow fillA fillS calleeE aundef xdops_nil' xdops_one xdops_gd kp_nil kp_cons recF memN indF lookF retN oneK yieldE quietO SubR SubRE SubRB InjK InjA qOf lookN AVal.ren renL renLL ABlk.ren renB lessB qKeys footWD footRD blkOf FT.indep apartL apart1 belowL subL in1 sd_idxAA
structure Filled (ls:List Lt) (E:List Ent):Prop where
 small:ls.length≤1000
 some:0<(axis ls).length
 kind:∀ v,v<ls.length→(at' ls v).k=1∨(at' ls v).k=2
 place:∀ v,v<ls.length→(at' ls v).k=1→placeV ls v=idxN v (axis ls)∧idxN v (axis ls)<(axis ls).length
 cross:∀ v,v<ls.length→(at' ls v).k=2 → ∃ p w,fnd (at' ls v).i E=.some (p,w)∧slotV (!(at' ls v).o) w=(otherN ls v ls.length 0:Nat)∧otherN ls v ls.length 0<ls.length
end Go.Known
end
section
namespace Go.Known
open Go Go.AE Go.Proofs
open Go.Plain
attribute [local simp] wS_skip wS_region wS_dregion wS_seq wS_cond wS_block wS_exit wS_ret thenS_normal thenS_ret thenS_exit blockS_normal blockS_ret blockS_exit sops_nil sops_cons wantedE evE Env.get putE argE stepD SMem.at SMem.app SMem.get lookB AVal.cells AVal.one addA loadD rowAtD sliceLen asNat binA binInt unA eqA storeD setRow retS calleeE aundef SubS SubE SubB slBoundsD optNatD srcRowsD rowsOfD appendRowsD fillS eraseB room
theorem unseen_set {l:List Bool} {x:Nat} (h:l[x]? = some false):unseen (l.set x true)+1=unseen l:=by
 induction l generalizing x with
 | nil=>simp at h
 | cons a r ih=>
  cases x with
  | zero=>
   simp only[List.getElem?_cons_zero,Option.some.injEq]at h
   subst h
   simp[unseen]
  | succ x=>
   simp only[List.getElem?_cons_succ]at h
   have:=ih h
   simp only[unseen,List.set_cons_succ,List.filter_cons]at this ⊢
   cases a<;>simp<;>omega
theorem unseen_le {l:List Bool}:unseen l≤l.length:=List.length_filter_le _ _
end Go.Known
end
section
namespace Go.Known
open Go.Plain
theorem alongN_lt' {n i:Nat} {fw:Bool} (h:i<n):alongN n i fw<2*n:=by
 unfold alongN
 have:=Nat.mod_lt (i+n - 1) (show 0<n by omega)
 split<;>omega
theorem otherN_lt' {ls:List Lt} {v:Nat} (hv:v<ls.length):∀ k j,j+k≤ls.length→otherN ls v k j<ls.length
 | 0,j,_=>hv
 | k+1,j,hj=>by
  simp only[otherN]
  split
  ·omega
  ·exact otherN_lt' hv k (j+1) (by omega)
theorem idxN_lt' {x:Nat} {l:List Nat} (h:x∈l):idxN x l<l.length:=(List.getElem?_eq_some_iff.1 (idxN_spec h).1).1
theorem turnN_lt' {ls:List Lt} {ax:List Nat} {d:Nat} (hax:∀ v,v∈ax→v<ls.length) (hm:∀ v,v<ls.length→(at' ls v).k≠2→v∈ax) (h0:0<ax.length) (hd:d<2*ls.length+2*ax.length) :
 turnN ls ax d<2*ls.length+2*ax.length:=by
 have hget:∀ j,j<ax.length→ax.getD j 0<ls.length:=fun j hj=>by
  simp_all
 have hmod:=fun x=>Nat.mod_lt x h0
 unfold turnN
 split
 ·split
  ·exact Nat.lt_of_lt_of_le (alongN_lt' (hget _ (hmod _))) (by omega)
  ·exact Nat.lt_of_lt_of_le (alongN_lt' (hget _ (by omega))) (by omega)
 ·rename_i hlt
  have hv:(if d % 2=0 then (d / 2+1) % ls.length else d / 2)<ls.length:=by
   split
   ·exact Nat.mod_lt _ (by omega)
   ·omega
  simp only
  generalize (if d % 2=0 then (d / 2+1) % ls.length else d / 2)=v at hv
  split
  ·exact Nat.lt_of_lt_of_le (alongN_lt' (otherN_lt' hv ls.length 0 (by omega))) (by omega)
  ·rename_i hk
   have h1:=idxN_lt' (hm v hv hk)
   split
   ·omega
   ·have:=hmod (idxN v ax+ax.length - 1)
    omega
theorem axis_nodup (ls:List Lt):(axis ls).Nodup:=by
 rw[axis,(axisN_perm ls ls.length).nodup_iff]
 exact List.nodup_range.filter _
theorem nodup_idx {l:List Nat} (h:l.Nodup) {i j x:Nat} (hi:l[i]? = some x) (hj:l[j]? = some x):i=j:=by
 obtain⟨h1,h2⟩:=List.getElem?_eq_some_iff.1 hi
 obtain⟨h3,h4⟩:=List.getElem?_eq_some_iff.1 hj
 exact(List.getElem_inj h).1 (h2.trans h4.symm)
end Go.Known
end
section
namespace Go.Known
open Go Go.AE Go.Proofs
open Go.Plain
attribute [simp] wZ_skip wZ_region wZ_dregion wZ_seq wZ_condM wZ_block wZ_scope wZ_exit wZ_ret thenS_normal thenS_ret thenS_exit blockS_normal blockS_ret blockS_exit zops_nil' zops_one zops_gd pt_some pt_none ev_tmp ev_const ev_fn wt_some wt_bool wt_undef vo_some wo_some sd_mov sd_pick pk_true pk_false sd_box bx_some sd_alloc sd_build ag_some sd_mkSl mk_some sd_load sd_store sd_nilChk nl_ptr nl_iptr sd_bin sd_un sd_mkFunc sd_mkMap sd_fieldA ad_ptr ad_iptr sd_field fl_agg sd_ext ex_tuple sd_lenSl ln_some sl_nil sl_emp sl_sl sl_imm sd_idxA sd_makeSl sd_append sd_lenMap sd_lookup sd_mapUpd ix_sl ix_imm an_int Env.get argE SMem.at SMem.app SMem.get lookB eraseB loadD rowAtD bn_add bn_sub bn_mul bn_quo bn_rem bn_eql bn_neq bn_lss bn_leq bn_gtr bn_geq bb_eql bb_neq unA storeD setRow fillA fillS calleeE aundef xdops_nil' xdops_one xdops_gd kp_nil kp_cons recF memN indF lookF retN oneK yieldE quietO SubR SubRE SubRB InjK InjA qOf lookN AVal.ren renL renLL ABlk.ren renB lessB qKeys footWD footRD FT.indep apartL apart1 belowL subL in1 sd_idxAA slBoundsD optNatD room sl_slV ren_slV cells_slV one_slV look_blV look_blV_eq erase_blV erase_blV_eq ren_blV sub_blV injA_blV injK_blV wr_eq app_dlV app_dlS less_nil less_blV keys_blV apart1_app apart_slV apart1_slV bk_ptr bk_sl bk_map bk_imm bk_iptr bk_nil bk_int bk_str bk_imV xOf upX ap_slV ap_slV0 ix_slV sr_slV sr_sl0 sr_nil sr_imm slV_nil blV_nil slV_snoc blV_snoc
@[simp] theorem ce_int (k : IntKind) (n : Int): AVal.cells (.int k n) = some [(.int k n)] := rfl
@[simp] theorem on_int (k : IntKind) (n : Int): AVal.one (.int k n) = true := rfl
@[simp] theorem ce_bool (b : Bool): AVal.cells (.bool b) = some [(.bool b)] := rfl
@[simp] theorem on_bool (b : Bool): AVal.one (.bool b) = true := rfl
@[simp] theorem ce_ptr (a b c : Nat): AVal.cells (.ptr a b c) = some [(.ptr a b c)] := rfl
@[simp] theorem on_ptr (a b c : Nat): AVal.one (.ptr a b c) = true := rfl
@[simp] theorem ce_iptr (l : List (List AVal)) (a b : Nat): AVal.cells (.iptr l a b) = some [(.iptr l a b)] := rfl
@[simp] theorem on_iptr (l : List (List AVal)) (a b : Nat): AVal.one (.iptr l a b) = true := rfl
@[simp] theorem ce_sl (a b c : Nat): AVal.cells (.sl a b c) = some [(.sl a b c)] := rfl
@[simp] theorem on_sl (a b c : Nat): AVal.one (.sl a b c) = true := rfl
@[simp] theorem ce_imm (l : List (List AVal)): AVal.cells (.imm l) = some [(.imm l)] := rfl
@[simp] theorem on_imm (l : List (List AVal)): AVal.one (.imm l) = true := rfl
@[simp] theorem ce_map (b : Nat): AVal.cells (.map b) = some [(.map b)] := rfl
@[simp] theorem on_map (b : Nat): AVal.one (.map b) = true := rfl
@[simp] theorem ce_func (f : Fn) (a b : List AVal): AVal.cells (.func f a b) = some [(.func f a b)] := rfl
@[simp] theorem on_func (f : Fn) (a b : List AVal): AVal.one (.func f a b) = true := rfl
@[simp] theorem ce_str (l : List UInt8): AVal.cells (.str l) = some [(.str l)] := rfl
@[simp] theorem on_str (l : List UInt8): AVal.one (.str l) = true := rfl
@[simp] theorem ce_nilSl : AVal.cells .nilSl = some [.nilSl] := rfl
@[simp] theorem on_nilSl : AVal.one .nilSl = true := rfl
@[simp] theorem ce_nilPtr : AVal.cells .nilPtr = some [.nilPtr] := rfl
@[simp] theorem on_nilPtr : AVal.one .nilPtr = true := rfl
@[simp] theorem ce_nilMap : AVal.cells .nilMap = some [.nilMap] := rfl
@[simp] theorem on_nilMap : AVal.one .nilMap = true := rfl
@[simp] theorem ce_nilFunc : AVal.cells .nilFunc = some [.nilFunc] := rfl
@[simp] theorem on_nilFunc : AVal.one .nilFunc = true := rfl
@[simp] theorem ce_agg (l : List AVal) : AVal.cells (.agg l) = some l := rfl
def wrows (l:List (List Nat)):List (List AVal):=l.map fun w=>[.imm (nums w)]
theorem wrows_length (l:List (List Nat)):(wrows l).length=l.length:=by simp[wrows]
theorem wrows_snoc (l:List (List Nat)) (w:List Nat):wrows (l++[w])=wrows l++[[.imm (nums w)]]:=by simp[wrows]
theorem closed_wrows:∀ (l:List (List Nat)),closedLL (wrows l)=true
 | []=>rfl
 | w :: r=>by
  have:=closed_wrows r
  simp only[wrows,List.map_cons,closedLL,closedL,AVal.closed,closed_nums,Bool.and_true,Bool.true_and]at this ⊢
  exact this
theorem ren_wrows (q:Nat→Nat) (l:List (List Nat)):renLL q (wrows l)=wrows l:=renLL_closed q _ (closed_wrows l)
theorem fzLL_snoc {get:Nat→Option ABlk} {S:List Nat} {A:List (List AVal)} (hA:closedLL A=true) (r:List AVal):fzLL get S (A++[r])=A++[r.map (fzV get S)]:=by
 rw[fzLL_append,fzLL_closed hA]; rfl
@[simp] theorem ren_append (q : Nat → Nat) (a b : List (List AVal)) : renLL q (a ++ b) = renLL q a ++ renLL q b := by simp [renLL_map]
theorem fz_nums {get:Nat→Option ABlk} {S:List Nat} {b:Nat} {l:List Nat} (hb:memN b S=true) (hg:get b=if nums l=[]then none else some (.cells 1 (nums l))):fzV get S (slV b (nums l))=imV (nums l):=
 fz_slV hb hg fun row hr x hx=>by
  obtain⟨i,_,rfl⟩:=List.mem_map.1 hr
  rw[List.mem_singleton]at hx
  subst hx
  rfl
theorem freeze_rows {get:Nat→Option ABlk} {b k n:Nat} {rows:List (List AVal)} (h:get b=some (.cells k rows)) (hs:∀ row,row∈rows → ∀ x,x∈row→freezeV get n x=some x):freezeV get (n+1) (.sl b 0 rows.length)=some (.imm rows):=by
 have h1:Nat.ble (0+rows.length) rows.length=true:=by rw[Nat.zero_add]; exact Nat.ble_self_eq_true _
 rw[freezeV]
 simp only[h,h1,cond_true,List.drop_zero,List.take_length,mapO_closed hs]
theorem freeze_imm {get:Nat→Option ABlk} {n:Nat} {rows:List (List AVal)} (hs:∀ row,row∈rows → ∀ x,x∈row→freezeV get n x=some x):freezeV get (n+1) (.imm rows)=some (.imm rows):=by
 rw[freezeV]
 simp only[mapO_closed hs]
theorem scal_nums {get:Nat→Option ABlk} {n:Nat} (l:List Nat):∀ row,row∈nums l → ∀ x,x∈row→freezeV get (n+1) x=some x:=by
 intro row hr x hx
 obtain⟨i,_,rfl⟩:=List.mem_map.1 hr
 rw[List.mem_singleton]at hx
 subst hx
 rfl
theorem scal_wrows {get:Nat→Option ABlk} {n:Nat} (l:List (List Nat)):∀ row,row∈wrows l → ∀ x,x∈row→freezeV get (n+2) x=some x:=by
 intro row hr x hx
 obtain⟨w,_,rfl⟩:=List.mem_map.1 hr
 rw[List.mem_singleton]at hx
 subst hx
 exact freeze_imm (scal_nums w)
end Go.Known
end
