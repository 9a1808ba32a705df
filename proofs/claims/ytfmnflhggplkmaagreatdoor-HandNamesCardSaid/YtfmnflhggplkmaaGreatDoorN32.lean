/- Part 32 of the proof: Rs. -/
import Derived.Test.YtfmnflhggplkmaaGreatDoorN22
import Derived.Test.YtfmnflhggplkmaaGreatDoorN23
import Derived.Test.YtfmnflhggplkmaaGreatDoorN28
import Derived.Test.YtfmnflhggplkmaaGreatDoorN30
import Derived.Test.YtfmnflhggplkmaaGreatDoorN31
set_option linter.all false
namespace Go.Known
open Go Go.AE Go.Proofs
open Go.Plain
attribute [simp] wZ_skip wZ_region wZ_dregion wZ_seq wZ_condM wZ_block wZ_scope wZ_exit wZ_ret thenS_normal thenS_ret thenS_exit blockS_normal blockS_ret blockS_exit zops_nil' zops_one zops_gd pt_some pt_none ev_tmp ev_const ev_fn wt_some wt_bool wt_undef vo_some wo_some sd_mov sd_pick pk_true pk_false sd_box bx_some sd_alloc sd_build ag_some sd_mkSl mk_some sd_load sd_store sd_nilChk nl_ptr nl_iptr sd_bin sd_un sd_mkFunc sd_mkMap sd_fieldA ad_ptr ad_iptr sd_field fl_agg sd_ext ex_tuple sd_lenSl ln_some sl_nil sl_emp sl_sl sl_imm sd_idxA sd_makeSl sd_append sd_lenMap sd_lookup sd_mapUpd ix_sl ix_imm an_int Env.get argE SMem.at SMem.app SMem.get lookB eraseB loadD rowAtD bn_add bn_sub bn_mul bn_quo bn_rem bn_eql bn_neq bn_lss bn_leq bn_gtr bn_geq bb_eql bb_neq unA storeD setRow fillA fillS calleeE aundef xdops_nil' xdops_one xdops_gd kp_nil kp_cons recF memN indF lookF retN oneK yieldE quietO SubR SubRE SubRB InjK InjA qOf lookN AVal.ren renL renLL ABlk.ren renB lessB qKeys footWD footRD FT.indep apartL apart1 belowL subL in1 sd_idxAA slBoundsD optNatD room sl_slV ren_slV cells_slV one_slV look_blV look_blV_eq erase_blV erase_blV_eq ren_blV sub_blV injA_blV injK_blV wr_eq app_dlV app_dlS less_nil less_blV keys_blV apart1_app apart_slV apart1_slV bk_ptr bk_sl bk_map bk_imm bk_iptr bk_nil bk_int bk_str bk_imV xOf upX ap_slV ap_slV0 ix_slV sr_slV sr_sl0 sr_nil sr_imm slV_nil blV_nil slV_snoc blV_snoc
@[simp] theorem ce_int (k : IntKind) (n : Int): AVal.cells (.int k n) = some [(.int k n)] := rfl
@[simp] theorem on_int (k : IntKind) (n : Int): AVal.one (.int k n) = true := rfl
@[simp] theorem ce_bool (b : Bool): AVal.cells (.bool b) = some [(.bool b)] := rfl
@[simp] theorem on_bool (b : Bool): AVal.one (.bool b) = true := rfl
@[simp] theorem ce_ptr (a b c : Nat): AVal.cells (.ptr a b c) = some [(.ptr a b c)] := rfl
@[simp] theorem on_ptr (a b c : Nat): AVal.one (.ptr a b c) = true := rfl
@[simp] theorem ce_iptr (l : List (List AVal)) (a b : Nat): AVal.cells (.iptr l a b) = some [(.iptr l a b)] := rfl
@[simp] theorem on_iptr (l : List (List AVal)) (a b : Nat): AVal.one (.iptr l a b) = true := rfl
@[simp] theorem ce_sl (a b c : Nat): AVal.cells (.sl a b c) = some [(.sl a b c)] := rfl
@[simp] theorem on_sl (a b c : Nat): AVal.one (.sl a b c) = true := rfl
@[simp] theorem ce_imm (l : List (List AVal)): AVal.cells (.imm l) = some [(.imm l)] := rfl
@[simp] theorem on_imm (l : List (List AVal)): AVal.one (.imm l) = true := rfl
@[simp] theorem ce_map (b : Nat): AVal.cells (.map b) = some [(.map b)] := rfl
@[simp] theorem on_map (b : Nat): AVal.one (.map b) = true := rfl
@[simp] theorem ce_func (f : Fn) (a b : List AVal): AVal.cells (.func f a b) = some [(.func f a b)] := rfl
@[simp] theorem on_func (f : Fn) (a b : List AVal): AVal.one (.func f a b) = true := rfl
@[simp] theorem ce_str (l : List UInt8): AVal.cells (.str l) = some [(.str l)] := rfl
@[simp] theorem on_str (l : List UInt8): AVal.one (.str l) = true := rfl
@[simp] theorem ce_nilSl : AVal.cells .nilSl = some [.nilSl] := rfl
@[simp] theorem on_nilSl : AVal.one .nilSl = true := rfl
@[simp] theorem ce_nilPtr : AVal.cells .nilPtr = some [.nilPtr] := rfl
@[simp] theorem on_nilPtr : AVal.one .nilPtr = true := rfl
@[simp] theorem ce_nilMap : AVal.cells .nilMap = some [.nilMap] := rfl
@[simp] theorem on_nilMap : AVal.one .nilMap = true := rfl
@[simp] theorem ce_nilFunc : AVal.cells .nilFunc = some [.nilFunc] := rfl
@[simp] theorem on_nilFunc : AVal.one .nilFunc = true := rfl
@[simp] theorem ce_agg (l : List AVal) : AVal.cells (.agg l) = some l := rfl
def wrows (l:List (List Nat)):List (List AVal):=l.map fun w=>[.imm (nums w)]
theorem wrows_length (l:List (List Nat)):(wrows l).length=l.length:=by simp[wrows]
theorem wrows_snoc (l:List (List Nat)) (w:List Nat):wrows (l++[w])=wrows l++[[.imm (nums w)]]:=by simp[wrows]
theorem closed_wrows:∀ (l:List (List Nat)),closedLL (wrows l)=true
 | []=>rfl
 | w :: r=>by
  have:=closed_wrows r
  simp only[wrows,List.map_cons,closedLL,closedL,AVal.closed,closed_nums,Bool.and_true,Bool.true_and]at this ⊢
  exact this
theorem ren_wrows (q:Nat→Nat) (l:List (List Nat)):renLL q (wrows l)=wrows l:=renLL_closed q _ (closed_wrows l)
theorem fzLL_snoc {get:Nat→Option ABlk} {S:List Nat} {A:List (List AVal)} (hA:closedLL A=true) (r:List AVal):fzLL get S (A++[r])=A++[r.map (fzV get S)]:=by
 rw[fzLL_append,fzLL_closed hA]; rfl
@[simp] theorem ren_append (q : Nat → Nat) (a b : List (List AVal)) : renLL q (a ++ b) = renLL q a ++ renLL q b := by simp [renLL_map]
theorem fz_nums {get:Nat→Option ABlk} {S:List Nat} {b:Nat} {l:List Nat} (hb:memN b S=true) (hg:get b=if nums l=[]then none else some (.cells 1 (nums l))):fzV get S (slV b (nums l))=imV (nums l):=
 fz_slV hb hg fun row hr x hx=>by
  obtain⟨i,_,rfl⟩:=List.mem_map.1 hr
  rw[List.mem_singleton]at hx
  subst hx
  rfl
theorem freeze_rows {get:Nat→Option ABlk} {b k n:Nat} {rows:List (List AVal)} (h:get b=some (.cells k rows)) (hs:∀ row,row∈rows → ∀ x,x∈row→freezeV get n x=some x):freezeV get (n+1) (.sl b 0 rows.length)=some (.imm rows):=by
 have h1:Nat.ble (0+rows.length) rows.length=true:=by rw[Nat.zero_add]; exact Nat.ble_self_eq_true _
 rw[freezeV]
 simp only[h,h1,cond_true,List.drop_zero,List.take_length,mapO_closed hs]
theorem freeze_imm {get:Nat→Option ABlk} {n:Nat} {rows:List (List AVal)} (hs:∀ row,row∈rows → ∀ x,x∈row→freezeV get n x=some x):freezeV get (n+1) (.imm rows)=some (.imm rows):=by
 rw[freezeV]
 simp only[mapO_closed hs]
theorem scal_nums {get:Nat→Option ABlk} {n:Nat} (l:List Nat):∀ row,row∈nums l → ∀ x,x∈row→freezeV get (n+1) x=some x:=by
 intro row hr x hx
 obtain⟨i,_,rfl⟩:=List.mem_map.1 hr
 rw[List.mem_singleton]at hx
 subst hx
 rfl
theorem scal_wrows {get:Nat→Option ABlk} {n:Nat} (l:List (List Nat)):∀ row,row∈wrows l → ∀ x,x∈row→freezeV get (n+2) x=some x:=by
 intro row hr x hx
 obtain⟨w,_,rfl⟩:=List.mem_map.1 hr
 rw[List.mem_singleton]at hx
 subst hx
 exact freeze_imm (scal_nums w)
end Go.Known
