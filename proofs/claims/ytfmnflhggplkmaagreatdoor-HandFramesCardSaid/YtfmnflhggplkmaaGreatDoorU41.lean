/- Part 41 of the proof: Rb, Rs, Kv, Lm. -/
import Derived.Test.YtfmnflhggplkmaaGreatDoorU29
import Derived.Test.YtfmnflhggplkmaaGreatDoorU30
import Derived.Test.YtfmnflhggplkmaaGreatDoorU32
import Derived.Test.YtfmnflhggplkmaaGreatDoorU35
import Derived.Test.YtfmnflhggplkmaaGreatDoorU40
set_option linter.all false
section
namespace Go.Known
open Go Go.AE Go.Proofs
open Go.Plain
attribute [local simp] wZ_skip wZ_region wZ_dregion wZ_seq wZ_condM wZ_block wZ_scope wZ_exit wZ_ret thenS_normal thenS_ret thenS_exit blockS_normal blockS_ret blockS_exit zops_nil' zops_one zops_gd pt_some pt_none ev_tmp ev_const ev_fn wt_some wt_bool wt_undef vo_some wo_some sd_mov sd_pick pk_true pk_false sd_box bx_some sd_alloc sd_build ag_some sd_mkSl mk_some sd_load sd_store sd_nilChk nl_ptr nl_iptr sd_bin sd_un sd_mkFunc sd_mkMap sd_fieldA ad_ptr ad_iptr sd_field fl_agg sd_ext ex_tuple sd_lenSl ln_some sl_nil sl_emp sl_sl sl_imm sd_idxA sd_makeSl sd_append sd_lenMap sd_lookup sd_mapUpd ix_sl ix_imm an_int Env.get argE SMem.at SMem.app SMem.get lookB eraseB AVal.cells AVal.one loadD rowAtD bn_add bn_sub bn_mul bn_quo bn_rem bn_eql bn_neq bn_lss bn_leq bn_gtr bn_geq bb_eql bb_neq unA storeD setRow fillA fillS calleeE aundef xdops_nil' xdops_one xdops_gd kp_nil kp_cons recF memN indF lookF retN oneK yieldE quietO SubR SubRE SubRB InjK InjA qOf lookN AVal.ren renL renLL ABlk.ren
theorem getE {α:Type} {l:List α} {i:Nat} {x:α} (h:l[i]? = some x):∃ hi:i<l.length,l[i]=x:=List.getElem?_eq_some_iff.1 h
end Go.Known
end
section
namespace Go.Known
open Go Go.AE Go.Proofs
open Go.Plain
attribute [simp] wZ_skip wZ_region wZ_dregion wZ_seq wZ_condM wZ_block wZ_scope wZ_exit wZ_ret thenS_normal thenS_ret thenS_exit blockS_normal blockS_ret blockS_exit zops_nil' zops_one zops_gd pt_some pt_none ev_tmp ev_const ev_fn wt_some wt_bool wt_undef vo_some wo_some sd_mov sd_pick pk_true pk_false sd_box bx_some sd_alloc sd_build ag_some sd_mkSl mk_some sd_load sd_store sd_nilChk nl_ptr nl_iptr sd_bin sd_un sd_mkFunc sd_mkMap sd_fieldA ad_ptr ad_iptr sd_field fl_agg sd_ext ex_tuple sd_lenSl ln_some sl_nil sl_emp sl_sl sl_imm sd_idxA sd_makeSl sd_append sd_lenMap sd_lookup sd_mapUpd ix_sl ix_imm an_int Env.get argE SMem.at SMem.app SMem.get lookB eraseB loadD rowAtD bn_add bn_sub bn_mul bn_quo bn_rem bn_eql bn_neq bn_lss bn_leq bn_gtr bn_geq bb_eql bb_neq unA storeD setRow fillA fillS calleeE aundef xdops_nil' xdops_one xdops_gd kp_nil kp_cons recF memN indF lookF retN oneK yieldE quietO SubR SubRE SubRB InjK InjA qOf lookN AVal.ren renL renLL ABlk.ren renB lessB qKeys footWD footRD FT.indep apartL apart1 belowL subL in1 sd_idxAA slBoundsD optNatD room sl_slV ren_slV cells_slV one_slV look_blV look_blV_eq erase_blV erase_blV_eq ren_blV sub_blV injA_blV injK_blV wr_eq app_dlV app_dlS less_nil less_blV keys_blV apart1_app apart_slV apart1_slV bk_ptr bk_sl bk_map bk_imm bk_iptr bk_nil bk_int bk_str bk_imV xOf upX ap_slV ap_slV0 ix_slV sr_slV sr_sl0 sr_nil sr_imm slV_nil blV_nil slV_snoc blV_snoc
@[simp] theorem ce_int (k : IntKind) (n : Int): AVal.cells (.int k n) = some [(.int k n)] := rfl
@[simp] theorem on_int (k : IntKind) (n : Int): AVal.one (.int k n) = true := rfl
@[simp] theorem ce_bool (b : Bool): AVal.cells (.bool b) = some [(.bool b)] := rfl
@[simp] theorem on_bool (b : Bool): AVal.one (.bool b) = true := rfl
@[simp] theorem ce_ptr (a b c : Nat): AVal.cells (.ptr a b c) = some [(.ptr a b c)] := rfl
@[simp] theorem on_ptr (a b c : Nat): AVal.one (.ptr a b c) = true := rfl
@[simp] theorem ce_iptr (l : List (List AVal)) (a b : Nat): AVal.cells (.iptr l a b) = some [(.iptr l a b)] := rfl
@[simp] theorem on_iptr (l : List (List AVal)) (a b : Nat): AVal.one (.iptr l a b) = true := rfl
@[simp] theorem ce_sl (a b c : Nat): AVal.cells (.sl a b c) = some [(.sl a b c)] := rfl
@[simp] theorem on_sl (a b c : Nat): AVal.one (.sl a b c) = true := rfl
@[simp] theorem ce_imm (l : List (List AVal)): AVal.cells (.imm l) = some [(.imm l)] := rfl
@[simp] theorem on_imm (l : List (List AVal)): AVal.one (.imm l) = true := rfl
@[simp] theorem ce_map (b : Nat): AVal.cells (.map b) = some [(.map b)] := rfl
@[simp] theorem on_map (b : Nat): AVal.one (.map b) = true := rfl
@[simp] theorem ce_func (f : Fn) (a b : List AVal): AVal.cells (.func f a b) = some [(.func f a b)] := rfl
@[simp] theorem on_func (f : Fn) (a b : List AVal): AVal.one (.func f a b) = true := rfl
@[simp] theorem ce_str (l : List UInt8): AVal.cells (.str l) = some [(.str l)] := rfl
@[simp] theorem on_str (l : List UInt8): AVal.one (.str l) = true := rfl
@[simp] theorem ce_nilSl : AVal.cells .nilSl = some [.nilSl] := rfl
@[simp] theorem on_nilSl : AVal.one .nilSl = true := rfl
@[simp] theorem ce_nilPtr : AVal.cells .nilPtr = some [.nilPtr] := rfl
@[simp] theorem on_nilPtr : AVal.one .nilPtr = true := rfl
@[simp] theorem ce_nilMap : AVal.cells .nilMap = some [.nilMap] := rfl
@[simp] theorem on_nilMap : AVal.one .nilMap = true := rfl
@[simp] theorem ce_nilFunc : AVal.cells .nilFunc = some [.nilFunc] := rfl
@[simp] theorem on_nilFunc : AVal.one .nilFunc = true := rfl
@[simp] theorem ce_agg (l : List AVal) : AVal.cells (.agg l) = some l := rfl
def wrows (l:List (List Nat)):List (List AVal):=l.map fun w=>[.imm (nums w)]
theorem wrows_length (l:List (List Nat)):(wrows l).length=l.length:=by simp[wrows]
theorem wrows_snoc (l:List (List Nat)) (w:List Nat):wrows (l++[w])=wrows l++[[.imm (nums w)]]:=by simp[wrows]
theorem closed_wrows:∀ (l:List (List Nat)),closedLL (wrows l)=true
 | []=>rfl
 | w :: r=>by
  have:=closed_wrows r
  simp only[wrows,List.map_cons,closedLL,closedL,AVal.closed,closed_nums,Bool.and_true,Bool.true_and]at this ⊢
  exact this
theorem ren_wrows (q:Nat→Nat) (l:List (List Nat)):renLL q (wrows l)=wrows l:=renLL_closed q _ (closed_wrows l)
theorem fzLL_snoc {get:Nat→Option ABlk} {S:List Nat} {A:List (List AVal)} (hA:closedLL A=true) (r:List AVal):fzLL get S (A++[r])=A++[r.map (fzV get S)]:=by
 rw[fzLL_append,fzLL_closed hA]; rfl
@[simp] theorem ren_append (q : Nat → Nat) (a b : List (List AVal)) : renLL q (a ++ b) = renLL q a ++ renLL q b := by simp [renLL_map]
theorem fz_nums {get:Nat→Option ABlk} {S:List Nat} {b:Nat} {l:List Nat} (hb:memN b S=true) (hg:get b=if nums l=[]then none else some (.cells 1 (nums l))):fzV get S (slV b (nums l))=imV (nums l):=
 fz_slV hb hg fun row hr x hx=>by
  obtain⟨i,_,rfl⟩:=List.mem_map.1 hr
  rw[List.mem_singleton]at hx
  subst hx
  rfl
theorem freeze_rows {get:Nat→Option ABlk} {b k n:Nat} {rows:List (List AVal)} (h:get b=some (.cells k rows)) (hs:∀ row,row∈rows → ∀ x,x∈row→freezeV get n x=some x):freezeV get (n+1) (.sl b 0 rows.length)=some (.imm rows):=by
 have h1:Nat.ble (0+rows.length) rows.length=true:=by rw[Nat.zero_add]; exact Nat.ble_self_eq_true _
 rw[freezeV]
 simp only[h,h1,cond_true,List.drop_zero,List.take_length,mapO_closed hs]
theorem freeze_imm {get:Nat→Option ABlk} {n:Nat} {rows:List (List AVal)} (hs:∀ row,row∈rows → ∀ x,x∈row→freezeV get n x=some x):freezeV get (n+1) (.imm rows)=some (.imm rows):=by
 rw[freezeV]
 simp only[mapO_closed hs]
theorem scal_nums {get:Nat→Option ABlk} {n:Nat} (l:List Nat):∀ row,row∈nums l → ∀ x,x∈row→freezeV get (n+1) x=some x:=by
 intro row hr x hx
 obtain⟨i,_,rfl⟩:=List.mem_map.1 hr
 rw[List.mem_singleton]at hx
 subst hx
 rfl
theorem scal_wrows {get:Nat→Option ABlk} {n:Nat} (l:List (List Nat)):∀ row,row∈wrows l → ∀ x,x∈row→freezeV get (n+2) x=some x:=by
 intro row hr x hx
 obtain⟨w,_,rfl⟩:=List.mem_map.1 hr
 rw[List.mem_singleton]at hx
 subst hx
 exact freeze_imm (scal_nums w)
end Go.Known
end
section
namespace Go.Known
open Go Go.AE Go.Proofs
def kv29:AVal:=(.imm [[(.int .i64 1),(.int .i64 0)],[(.int .i64 0),(.int .i64 1)]])
def kv23:AVal:=(.imm [[(.int .i64 9)],[(.int .i64 8)],[(.int .i64 7)],[(.int .i64 4)],[(.int .i64 3)],[(.int .i64 2)]])
def kv26:AVal:=(.imm [[(.int .i64 5)],[(.int .i64 6)],[(.int .i64 10)],[(.int .i64 1)]])
def kv30:AVal:=(.imm [[(.int .i64 5),(.int .i64 0)],[(.int .i64 4),(.int .i64 1)]])
def kv31:AVal:=(.imm [[(.int .i64 6),(.int .i64 0)],[(.int .i64 5),(.int .i64 2)]])
def kv21:AVal:=(.imm [[(.int .i64 6),(.int .i64 1)],[(.int .i64 7),(.int .i64 0)],[(.int .i64 8),(.int .i64 0)],[(.int .i64 9),(.int .i64 0)]])
def kv27:AVal:=(.imm [[(.int .i64 10),(.int .i64 0)],[(.int .i64 9),(.int .i64 1)]])
def kv28:AVal:=(.imm [[(.int .i64 10),(.int .i64 1)],[(.int .i64 0),(.int .i64 0)]])
def kv2:AVal:=(.imm [[(.bool false),(.imm [[(.int .i64 0)]]),kv29,(.imm [[(.int .i64 1)]]),(.bool false)],[(.bool false),(.imm [[(.int .i64 1)],[(.int .i64 13)],[(.int .i64 9)],[(.int .i64 5)]]),(.imm [[(.int .i64 0),(.int .i64 0)],[(.int .i64 10),(.int .i64 1)],[(.int .i64 9),(.int .i64 0)],[(.int .i64 8),(.int .i64 0)],[(.int .i64 7),(.int .i64 0)],[(.int .i64 6),(.int .i64 1)],[(.int .i64 5),(.int .i64 1)],[(.int .i64 4),(.int .i64 0)],[(.int .i64 3),(.int .i64 0)],[(.int .i64 2),(.int .i64 0)],[(.int .i64 1),(.int .i64 1)]]),kv23,(.bool true)],[(.bool true),(.imm [[(.int .i64 2)],[(.int .i64 6)],[(.int .i64 10)],[(.int .i64 14)]]),(.imm [[(.int .i64 4),(.int .i64 1)],[(.int .i64 5),(.int .i64 0)],[(.int .i64 5),(.int .i64 2)],[(.int .i64 6),(.int .i64 0)],[(.int .i64 9),(.int .i64 1)],[(.int .i64 10),(.int .i64 0)],[(.int .i64 0),(.int .i64 1)],[(.int .i64 1),(.int .i64 0)]]),kv26,(.bool false)],[(.bool true),(.imm [[(.int .i64 3)]]),(.imm [[(.int .i64 1),(.int .i64 1)],[(.int .i64 2),(.int .i64 0)],[(.int .i64 3),(.int .i64 0)],[(.int .i64 4),(.int .i64 0)]]),(.imm [[(.int .i64 2)],[(.int .i64 3)],[(.int .i64 4)]]),(.bool false)],[(.bool false),(.imm [[(.int .i64 4)]]),kv30,(.imm [[(.int .i64 5)]]),(.bool false)],[(.bool true),(.imm [[(.int .i64 7)]]),(.imm [[(.int .i64 5),(.int .i64 1)]]),.nilSl,(.bool false)],[(.bool false),(.imm [[(.int .i64 8)]]),kv31,(.imm [[(.int .i64 6)]]),(.bool false)],[(.bool true),(.imm [[(.int .i64 11)]]),kv21,(.imm [[(.int .i64 7)],[(.int .i64 8)],[(.int .i64 9)]]),(.bool false)],[(.bool false),(.imm [[(.int .i64 12)]]),kv27,(.imm [[(.int .i64 10)]]),(.bool false)],[(.bool true),(.imm [[(.int .i64 15)]]),kv28,.nilSl,(.bool true)]])
def kv1:AVal:=(.agg [kv2])
def kv3:AVal:=(.agg [(.int .i64 10),(.imm [[(.int .i64 1),(.int .i64 0),(.int .i64 1),(.int .i64 0),(.int .i64 0),(.bool false)],[(.int .i64 1),(.int .i64 1),(.int .i64 1),(.int .i64 0),(.int .i64 0),(.bool false)],[(.int .i64 1),(.int .i64 3),(.int .i64 1),(.int .i64 0),(.int .i64 0),(.bool false)],[(.int .i64 1),(.int .i64 3),(.int .i64 2),(.int .i64 0),(.int .i64 0),(.bool false)],[(.int .i64 1),(.int .i64 4),(.int .i64 1),(.int .i64 0),(.int .i64 0),(.bool false)],[(.int .i64 1),(.int .i64 5),(.int .i64 1),(.int .i64 0),(.int .i64 0),(.bool false)],[(.int .i64 1),(.int .i64 5),(.int .i64 2),(.int .i64 0),(.int .i64 0),(.bool false)],[(.int .i64 1),(.int .i64 6),(.int .i64 1),(.int .i64 0),(.int .i64 0),(.bool false)],[(.int .i64 1),(.int .i64 9),(.int .i64 1),(.int .i64 0),(.int .i64 0),(.bool false)],[(.int .i64 1),(.int .i64 10),(.int .i64 1),(.int .i64 0),(.int .i64 0),(.bool false)]])])
def kv4:AVal:=(.agg [(.int .i64 10),(.imm [[(.int .i64 1),(.int .i64 0),(.int .i64 1),(.int .i64 0),(.int .i64 0),(.bool false)],[(.int .i64 1),(.int .i64 1),(.int .i64 1),(.int .i64 0),(.int .i64 0),(.bool false)],[(.int .i64 1),(.int .i64 2),(.int .i64 1),(.int .i64 0),(.int .i64 0),(.bool false)],[(.int .i64 1),(.int .i64 3),(.int .i64 1),(.int .i64 0),(.int .i64 0),(.bool false)],[(.int .i64 1),(.int .i64 4),(.int .i64 1),(.int .i64 0),(.int .i64 0),(.bool false)],[(.int .i64 1),(.int .i64 5),(.int .i64 1),(.int .i64 0),(.int .i64 0),(.bool false)],[(.int .i64 1),(.int .i64 5),(.int .i64 2),(.int .i64 0),(.int .i64 0),(.bool false)],[(.int .i64 1),(.int .i64 6),(.int .i64 1),(.int .i64 0),(.int .i64 0),(.bool false)],[(.int .i64 1),(.int .i64 9),(.int .i64 1),(.int .i64 0),(.int .i64 0),(.bool false)],[(.int .i64 1),(.int .i64 10),(.int .i64 1),(.int .i64 0),(.int .i64 0),(.bool false)]])])
def kv5:AVal:=(.agg [(.int .i64 10),(.imm [[(.int .i64 1),(.int .i64 0),(.int .i64 1),(.int .i64 0),(.int .i64 0),(.bool false)],[(.int .i64 1),(.int .i64 1),(.int .i64 1),(.int .i64 0),(.int .i64 0),(.bool false)],[(.int .i64 1),(.int .i64 4),(.int .i64 1),(.int .i64 0),(.int .i64 0),(.bool false)],[(.int .i64 1),(.int .i64 5),(.int .i64 1),(.int .i64 0),(.int .i64 0),(.bool false)],[(.int .i64 1),(.int .i64 5),(.int .i64 2),(.int .i64 0),(.int .i64 0),(.bool false)],[(.int .i64 1),(.int .i64 6),(.int .i64 1),(.int .i64 0),(.int .i64 0),(.bool false)],[(.int .i64 1),(.int .i64 9),(.int .i64 1),(.int .i64 0),(.int .i64 0),(.bool false)],[(.int .i64 1),(.int .i64 10),(.int .i64 1),(.int .i64 0),(.int .i64 0),(.bool false)]])])
def kv6:AVal:=(.agg [(.int .i64 10),(.imm [[(.int .i64 1),(.int .i64 1),(.int .i64 1),(.int .i64 0),(.int .i64 0),(.bool false)],[(.int .i64 2),(.int .i64 0),(.int .i64 0),(.int .i64 1),(.int .i64 1),(.bool true)],[(.int .i64 2),(.int .i64 0),(.int .i64 0),(.int .i64 1),(.int .i64 1),(.bool false)],[(.int .i64 1),(.int .i64 1),(.int .i64 2),(.int .i64 0),(.int .i64 0),(.bool false)],[(.int .i64 1),(.int .i64 9),(.int .i64 1),(.int .i64 0),(.int .i64 0),(.bool false)],[(.int .i64 1),(.int .i64 10),(.int .i64 1),(.int .i64 0),(.int .i64 0),(.bool false)]])])
def kv7:AVal:=(.agg [(.int .i64 10),(.imm [[(.int .i64 1),(.int .i64 1),(.int .i64 2),(.int .i64 0),(.int .i64 0),(.bool false)],[(.int .i64 1),(.int .i64 1),(.int .i64 1),(.int .i64 0),(.int .i64 0),(.bool false)],[(.int .i64 2),(.int .i64 0),(.int .i64 0),(.int .i64 1),(.int .i64 1),(.bool false)],[(.int .i64 1),(.int .i64 9),(.int .i64 1),(.int .i64 0),(.int .i64 0),(.bool false)],[(.int .i64 1),(.int .i64 10),(.int .i64 1),(.int .i64 0),(.int .i64 0),(.bool false)],[(.int .i64 2),(.int .i64 0),(.int .i64 0),(.int .i64 1),(.int .i64 1),(.bool true)]])])
def kv8:AVal:=(.agg [(.int .i64 10),(.imm [[(.int .i64 1),(.int .i64 1),(.int .i64 1),(.int .i64 0),(.int .i64 0),(.bool false)],[(.int .i64 1),(.int .i64 0),(.int .i64 1),(.int .i64 0),(.int .i64 0),(.bool false)],[(.int .i64 2),(.int .i64 0),(.int .i64 0),(.int .i64 1),(.int .i64 1),(.bool false)],[(.int .i64 1),(.int .i64 9),(.int .i64 1),(.int .i64 0),(.int .i64 0),(.bool false)],[(.int .i64 1),(.int .i64 10),(.int .i64 1),(.int .i64 0),(.int .i64 0),(.bool false)],[(.int .i64 2),(.int .i64 0),(.int .i64 0),(.int .i64 1),(.int .i64 1),(.bool true)]])])
def kv9:AVal:=(.agg [(.imm [[(.int .i64 1),(.bool false),(.int .i64 1)],[(.int .i64 1),(.bool false),(.int .i64 2)],[(.int .i64 1),(.bool false),(.int .i64 3)],[(.int .i64 1),(.bool false),(.int .i64 4)],[(.int .i64 1),(.bool false),(.int .i64 5)],[(.int .i64 1),(.bool true),(.int .i64 5)],[(.int .i64 1),(.bool true),(.int .i64 4)],[(.int .i64 1),(.bool true),(.int .i64 3)],[(.int .i64 1),(.bool true),(.int .i64 2)],[(.int .i64 1),(.bool true),(.int .i64 1)]]),(.int .i64 6),(.int .i64 4)])
def kv10:AVal:=(.agg [(.int .i64 10),(.imm [[(.int .i64 1),(.int .i64 0),(.int .i64 1),(.int .i64 0),(.int .i64 0),(.bool false)],[(.int .i64 1),(.int .i64 1),(.int .i64 1),(.int .i64 0),(.int .i64 0),(.bool false)],[(.int .i64 1),(.int .i64 10),(.int .i64 1),(.int .i64 0),(.int .i64 0),(.bool false)],[(.int .i64 1),(.int .i64 10),(.int .i64 2),(.int .i64 0),(.int .i64 0),(.bool false)]])])
def kv11:AVal:=(.agg [(.int .i64 10),(.imm [[(.int .i64 1),(.int .i64 0),(.int .i64 1),(.int .i64 0),(.int .i64 0),(.bool false)],[(.int .i64 1),(.int .i64 1),(.int .i64 1),(.int .i64 0),(.int .i64 0),(.bool false)],[(.int .i64 1),(.int .i64 9),(.int .i64 1),(.int .i64 0),(.int .i64 0),(.bool false)],[(.int .i64 1),(.int .i64 10),(.int .i64 1),(.int .i64 0),(.int .i64 0),(.bool false)]])])
def kv12:AVal:=(.agg [(.int .i64 10),(.imm [[(.int .i64 1),(.int .i64 1),(.int .i64 1),(.int .i64 0),(.int .i64 0),(.bool false)],[(.int .i64 1),(.int .i64 1),(.int .i64 2),(.int .i64 0),(.int .i64 0),(.bool false)],[(.int .i64 1),(.int .i64 9),(.int .i64 1),(.int .i64 0),(.int .i64 0),(.bool false)],[(.int .i64 1),(.int .i64 10),(.int .i64 1),(.int .i64 0),(.int .i64 0),(.bool false)]])])
def kv13:AVal:=(.imm [[(.int .i64 1),(.int .i64 0)],[(.int .i64 0),(.int .i64 0)],[(.int .i64 10),(.int .i64 1)],[(.int .i64 9),(.int .i64 0)],[(.int .i64 8),(.int .i64 0)],[(.int .i64 7),(.int .i64 0)],[(.int .i64 6),(.int .i64 0)],[(.int .i64 5),(.int .i64 0)],[(.int .i64 4),(.int .i64 0)],[(.int .i64 3),(.int .i64 0)],[(.int .i64 2),(.int .i64 0)],[(.int .i64 1),(.int .i64 2)]])
def kv14:AVal:=(.imm [[(.int .i64 1),(.int .i64 2)],[(.int .i64 2),(.int .i64 0)],[(.int .i64 3),(.int .i64 0)],[(.int .i64 4),(.int .i64 0)],[(.int .i64 5),(.int .i64 0)],[(.int .i64 6),(.int .i64 0)],[(.int .i64 7),(.int .i64 0)],[(.int .i64 8),(.int .i64 0)],[(.int .i64 9),(.int .i64 0)]])
def kv15:AVal:=(.agg [(.int .i64 10),(.imm [[(.int .i64 1),(.int .i64 0),(.int .i64 1),(.int .i64 0),(.int .i64 0),(.bool false)],[(.int .i64 1),(.int .i64 1),(.int .i64 1),(.int .i64 0),(.int .i64 0),(.bool false)]])])
def kv16:AVal:=(.agg [(.int .i64 10),(.imm [[(.int .i64 1),(.int .i64 1),(.int .i64 1),(.int .i64 0),(.int .i64 0),(.bool false)],[(.int .i64 1),(.int .i64 1),(.int .i64 2),(.int .i64 0),(.int .i64 0),(.bool false)]])])
def kv17:AVal:=(.imm [[(.int .i64 10)],[(.int .i64 9)],[(.int .i64 8)],[(.int .i64 7)],[(.int .i64 6)],[(.int .i64 5)],[(.int .i64 4)],[(.int .i64 3)],[(.int .i64 2)]])
def kv18:AVal:=(.imm [[(.int .i64 2)],[(.int .i64 3)],[(.int .i64 4)],[(.int .i64 5)],[(.int .i64 6)],[(.int .i64 7)],[(.int .i64 8)],[(.int .i64 9)],[(.int .i64 10)]])
def kv19:AVal:=(.imm [[(.int .i64 1)],[(.int .i64 9)],[(.int .i64 8)],[(.int .i64 7)],[(.int .i64 6)],[(.int .i64 5)],[(.int .i64 4)],[(.int .i64 3)],[(.int .i64 2)]])
def kv20:AVal:=(.imm [[(.int .i64 2)],[(.int .i64 3)],[(.int .i64 4)],[(.int .i64 5)],[(.int .i64 6)],[(.int .i64 7)],[(.int .i64 8)],[(.int .i64 9)]])
def kv22:AVal:=(.agg [(.int .i64 9),(.int .i64 0),(.int .i64 0),(.int .i64 0),(.bool false),(.bool false),(.int .i64 0)])
def kv24:AVal:=(.imm [[(.int .i64 9),(.int .i64 1)],[(.int .i64 10),(.int .i64 0)],[(.int .i64 1),(.int .i64 1)]])
def kv25:AVal:=(.imm [[(.int .i64 10),(.int .i64 1)],[(.int .i64 0),(.int .i64 0)],[(.int .i64 1),(.int .i64 0)]])
def kv32:AVal:=(.imm [[(.int .i64 6),(.int .i64 1),(.bool false),(.int .i64 0)]])
def kv33:AVal:=(.agg [(.int .i64 5),(.int .i64 0),(.bool false),(.int .i64 0)])
end Go.Known
end
section
namespace Go.Known
open Go Go.AE Go.Proofs
def ajRValid:AFn:=⟨67,[(2,none)],(sr [bo 1 0,mfZ 2]
 (.seq (sr [fa 5 0 1,lo 6 5,le 7 6,cGk 8 7 40,mv 9 8,gff 10 9 1 1,gfl 11 9 10,gZ 12 9 false (.bin .lss .num (tZ 11) (kZ 0)),pk1 13 9 12,mv 14 13,gff 15 14 1 1,gfl 16 14 15,gZ 17 14 false (.bin .gtr .num (tZ 16) (kZ 40)),pk1 18 14 17,mv 19 18,gff 20 19 2 1,gfl 21 19 20,gZ 22 19 false (.bin .lss .num (tZ 21) (kZ 1)),pk1 23 19 22,mv 24 23,gff 25 24 2 1,gfl 26 24 25,gZ 27 24 false (.bin .gtr .num (tZ 26) (kZ 20)),pk1 28 24 27]
 (.cond (tZ 28) (sr [mfZ 2]
 .ret)
 .skip))
 (.seq (sr [mk 3 0]
 (.block 0 (.loop (.seq (sr [mv 29 3,fa 30 0 1,lo 31 30,le 32 31,cL 33 29 32]
 (.cond (tZ 33) .skip
 (.exit 0)))
 (.seq (.block 1 (sr [fa 36 0 1,lo 37 36,mv 38 3,ix 39 3 37 38,lw 40 3 39,oZ 4 (.alloc [(.int .i64 0),(.bool false),(.int .i64 0)]),so 3 4 40]
 (sr [fa 41 0 4,lo 42 41,cLk 43 42 1,mv 44 43,gff 45 44 0 4,gfl 46 44 45,gZ 47 44 false (.bin .gtr .num (tZ 46) (kZ 9)),pk1 48 44 47,mv 49 48,gff 50 49 2 4,gfl 51 49 50,gZ 52 49 false (.bin .lss .num (tZ 51) (kZ 0)),pk1 53 49 52,mv 54 53,gff 55 54 2 4,gfl 56 54 55,gZ 57 54 false (.bin .gtr .num (tZ 56) (kZ 6)),pk1 58 54 57,mv 59 58,gZ 60 59 false (.load (some 3) (tZ 1)),gZ 61 59 false (.load (some 3) (tZ 4)),gZ 62 59 false (.call (.fn 13) [tZ 60,tZ 61]),gfm 63 59 3,gZ 64 59 false (.bin .add .num (tZ 63) (kZ 1)),gZ 65 59 false (.bin .neq .num (tZ 62) (tZ 64)),pk1 66 59 65]
 (.cond (tZ 66) (sr [mfZ 2]
 .ret)
 .skip))))
 (rf [mv 34 3,aDk 35 34 1,mv 3 35]))))))
 (sr [mtZ 2]
 .ret))))⟩
theorem cjRValid:cFn Tryz.prog Tryz.f11=some ajRValid:=by kernel_rfl
def ajRIndex:AFn:=⟨22,[(4,none)],(sr [bo 2 0,bo 3 1,mk 4 0]
 (.seq (sr [mk 5 0]
 (.block 0 (.loop (.seq (sr [mv 6 5,fa 7 0 2,lo 8 7,le 9 8,cL 10 6 9]
 (.cond (tZ 10) .skip
 (.exit 0)))
 (.seq (.block 1 (.seq (.region true [fa 13 0 2,lo 14 13,mv 15 5,ix 16 3 14 15,lw 17 3 16,lw 18 3 3,oZ 19 (.bin .eql (.flat [.int,.bool,.int]) (tZ 17) (tZ 18))])
 (.cond (tZ 19) (sr [mv 20 5,aDk 21 20 1,mv 4 21]
 .ret)
 .skip)))
 (rf [mv 11 5,aDk 12 11 1,mv 5 12]))))))
 (sr [mk 4 0]
 .ret)))⟩
theorem cjRIndex:cFn Tryz.prog Tryz.f13=some ajRIndex:=by kernel_rfl
end Go.Known
end
