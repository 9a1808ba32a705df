/- Part 25 of the proof: AeNi. -/
import Derived.Test.YtipeejpafgnjdaaGreatDoorF14
import Derived.Test.YtipeejpafgnjdaaGreatDoorF17
set_option linter.all false
namespace Go.AE
open Go.RowKit
def slV (b:Nat) (rows:List (List AVal)):AVal:=if rows=[] then .nilSl else .sl b 0 rows.length
def blV (b k:Nat) (rows:List (List AVal)) (rest:List (Nat×ABlk)):List (Nat×ABlk):=if rows=[] then rest else (b,.cells k rows) :: rest
def imV (rows:List (List AVal)):AVal:=if rows=[] then .nilSl else .imm rows
def dlV (b id:Nat) (rows:List (List AVal)) (x:ABlk):List (Nat×Option ABlk):=if rows=[] then [(id,some x)] else [(b,none),(id,some x)]
def dlS (b k:Nat) (rows:List (List AVal)):List (Nat×Option ABlk):=if rows=[] then [] else [(b,some (.cells k rows))]
section
variable {b c id k bytes i n:Nat} {rows xs:List (List AVal)} {rest:List (Nat×ABlk)} {get:Nat→Option ABlk} {q:Nat→Nat} {m:SMem}
theorem slV_nil:slV b []=.nilSl:=rfl
theorem slV_snoc (x:List AVal):slV b (rows++[x])=.sl b 0 (rows.length+1):=by simp [slV]
theorem slV_ne (h:¬rows=[]):slV b rows=.sl b 0 rows.length:=by simp [slV,h]
theorem blV_ne (h:¬rows=[]):blV b k rows rest=(b,.cells k rows) :: rest:=by simp [blV,h]
theorem blV_nil:blV b k [] rest=rest:=rfl
theorem blV_snoc (x:List AVal):blV b k (rows++[x]) rest=(b,.cells k (rows++[x])) :: rest:=by simp [blV]
theorem sl_slV:sliceLen (slV b rows)=some rows.length:=by
 unfold slV
 split
 · rename_i h; subst h; rfl
 · rfl
theorem ren_slV:(slV b rows).ren q=slV (q b) rows:=by unfold slV; split<;>rfl
theorem cells_slV:(slV b rows).cells=some [slV b rows]:=by unfold slV; split<;>rfl
theorem one_slV:(slV b rows).one=true:=by unfold slV; split<;>rfl
theorem look_blV (h:¬c=b):lookB (blV b k rows rest) c=lookB rest c:=by
 unfold blV
 split
 · rfl
 · simp only [lookB]; rw [if_neg h]
theorem look_blV_eq:lookB (blV b k rows rest) b=if rows=[] then lookB rest b else some (.cells k rows):=by
 unfold blV
 split
 · rfl
 · simp only [lookB]; rw [if_pos trivial]
theorem erase_blV (h:¬c=b):eraseB (blV b k rows rest) c=blV b k rows (eraseB rest c):=by
 unfold blV
 split
 · rfl
 · simp only [eraseB]; rw [if_neg h]
theorem erase_blV_eq:eraseB (blV b k rows rest) b=eraseB rest b:=by
 unfold blV
 split
 · rfl
 · simp only [eraseB]; rw [if_pos trivial]
theorem ren_blV {t:List (Nat×ABlk)}:renB q (blV b k rows rest) t=blV (q b) k (renLL q rows) (renB q rest t):=by
 unfold blV
 by_cases h:rows=[]
 · subst h; simp [renLL]
 · have:renLL q rows≠[]:=fun e=>h (List.length_eq_zero_iff.1 (by rw [← renLL_length q,e]; rfl))
   rw [if_neg h,if_neg this]
   simp [renB,ABlk.ren]
theorem less_nil (l:List (Nat×ABlk)):lessB [] l=l:=by
 induction l with
 | nil=>rfl
 | cons a r ih=>obtain ⟨c,y⟩:=a; simp only [lessB,memN,cond_false,ih]
theorem less_blV {ks:List Nat}:lessB ks (blV b k rows rest)=bif memN b ks then lessB ks rest else blV b k rows (lessB ks rest):=by
 unfold blV
 cases hm:memN b ks with
 | true=>
  split
  · rfl
  · simp [lessB,hm]
 | false=>
  split
  · rfl
  · simp [lessB,hm]
theorem keys_blV:qKeys q (blV b k rows rest)=if rows=[] then qKeys q rest else q b :: qKeys q rest:=by
 unfold blV
 split<;>rfl
theorem sub_blV:SubRB q (blV b k rows rest) m=((rows≠[]→m.get (q b)=some (.cells k (renLL q rows)) ∨ ∃ y,m.get (q b)=some y∧BSub (.cells k (renLL q rows)) y)∧SubRB q rest m):=by
 unfold blV
 split
 · rename_i h; simp [h]
 · rename_i h; simp [h,SubRB,ABlk.ren]
theorem injA_blV:InjA q c (blV b k rows rest)=((rows≠[]→q c=q b→c=b)∧InjA q c rest):=by
 unfold blV
 split
 · rename_i h; simp [h]
 · rename_i h; simp [h,InjA]
theorem injK_blV:InjK q (blV b k rows rest)=((rows≠[]→InjA q b rest)∧InjK q rest):=by
 unfold blV
 split
 · rename_i h; simp [h]
 · rename_i h; simp [h,InjK]
theorem apart1_app (x:Nat) (a l:List Nat):apart1 x (a++l)=(apart1 x a∧apart1 x l):=by
 induction a with
 | nil=>simp [apart1]
 | cons y r ih=>simp only [List.cons_append,apart1,ih,and_assoc]
theorem apart_slV (l:List Nat):apartL (blkOf (slV b rows)) l=(¬rows=[]→apart1 b l):=by
 unfold slV
 split
 · rename_i h; simp [blkOf,apartL,h]
 · rename_i h; simp [blkOf,apartL,h]
theorem apart1_slV (x:Nat):apart1 x (blkOf (slV b rows))=(¬rows=[]→x≠b):=by
 unfold slV
 split
 · rename_i h; simp [blkOf,apart1,h]
 · rename_i h; simp [blkOf,apart1,h]
theorem bk_ptr (b i j:Nat):blkOf (.ptr b i j)=[b]:=rfl
theorem bk_sl (b i j:Nat):blkOf (.sl b i j)=[b]:=rfl
theorem bk_map (b:Nat):blkOf (.map b)=[b]:=rfl
theorem bk_imm (l:List (List AVal)):blkOf (.imm l)=[]:=rfl
theorem bk_iptr (l:List (List AVal)) (i j:Nat):blkOf (.iptr l i j)=[]:=rfl
theorem bk_nil:blkOf .nilSl=[]:=rfl
theorem bk_int (k:IntKind) (n:Int):blkOf (.int k n)=[]:=rfl
theorem bk_str (l:List UInt8):blkOf (.str l)=[]:=rfl
theorem bk_imV:blkOf (imV rows)=[]:=by unfold imV; split<;>rfl
theorem ap_slV (hx:xs≠[]) (hg:get b=if rows=[] then none else some (.cells k rows)) (hr:rows.length+xs.length≤1048576) (hb:bytes≤1048576) :
 appendRowsD id k bytes get (slV b rows) xs=some (.sl id 0 (rows.length+xs.length),dlV b id rows (.cells k (rows++xs))):=by
 have hrm:room=1048576:=rfl
 rw [← hrm] at hr hb
 have hxl:0<xs.length:=by cases xs with | nil=>exact absurd rfl hx | cons a r=>simp
 unfold slV dlV
 by_cases h:rows=[]
 · subst h
   simp only [if_true,appendRowsD,if_neg hx,List.length_nil,Nat.zero_add,List.nil_append]
   rw [if_pos ⟨by simpa using hr,hb⟩]
 · rw [if_neg h,if_neg h]
   simp only [appendRowsD,hg,if_neg h]
   rw [if_pos (by simp),if_neg (by omega),if_pos ⟨by omega,hb⟩]
   simp
theorem ap_slV0 (hg:get b=if rows=[] then none else some (.cells k rows)):appendRowsD id k bytes get (slV b rows) []=some (slV b rows,dlS b k rows):=by
 unfold slV dlS
 by_cases h:rows=[]
 · subst h; rfl
 · rw [if_neg h,if_neg h]
   simp only [appendRowsD,hg,if_neg h]
   rw [if_pos (by simp),if_pos (by simp)]
   simp
theorem app_dlV {x:ABlk} (h:rows=[]→lookB m.bl b=none):m.app (dlV b id rows x)=⟨(id,x) :: eraseB m.bl b,m.next⟩:=by
 have key:∀ l:List (Nat×ABlk),lookB l b=none→eraseB l b=l:=by
  intro l
  induction l with
  | nil=>intro _; rfl
  | cons a r ih=>
   obtain⟨d,y⟩:=a
   intro hl
   simp only [lookB] at hl
   split at hl
   · cases hl
   · rename_i hd
     simp only [eraseB]
     rw [if_neg hd,ih hl]
 unfold dlV
 by_cases h0:rows=[]
 · rw [if_pos h0,key _ (h h0)]; rfl
 · rw [if_neg h0]; rfl
theorem app_dlS:m.app (dlS b k rows)=⟨blV b k rows m.bl,m.next⟩:=by
 unfold dlS blV
 split<;>rfl
theorem ix_slV (hg:get b=if rows=[] then none else some (.cells k rows)) (hi:i<rows.length):idxZ get k (slV b rows) (some i)=some (.ptr b i 0,[]):=by
 have h:rows≠[]:=fun e=>by subst e; simp at hi
 unfold slV
 rw [if_neg h,ix_sl,hg,if_neg h]
 simp [hi]
theorem sr_slV (hg:get b=if rows=[] then none else some (.cells k rows)):srcRowsD get k (slV b rows)=some rows:=by
 unfold slV
 by_cases h:rows=[]
 · subst h; rfl
 · rw [if_neg h]
   simp [srcRowsD,rowsOfD,hg,h]
theorem sr_sl0 (len:Nat):srcRowsD get k (.sl b 0 len)=match get b with
 | some (.cells k' els)=>if k'=k∧len≤els.length then some (els.take len) else none
 | _=>if len=0 then some [] else none:=by
 simp only [srcRowsD,rowsOfD,Nat.zero_add,List.drop_zero]
 rfl
theorem sr_nil:srcRowsD get k .nilSl=some []:=rfl
theorem sr_imm:srcRowsD get k (.imm rows)=if rows.all (·.length == k) then some rows else none:=rfl
end
end Go.AE
