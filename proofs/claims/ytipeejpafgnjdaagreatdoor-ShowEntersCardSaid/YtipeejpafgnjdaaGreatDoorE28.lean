/- Part 28 of the proof: AeNi. -/
import Derived.Test.YtipeejpafgnjdaaGreatDoorE14
import Derived.Test.YtipeejpafgnjdaaGreatDoorE17
set_option linter.all false
namespace Go.AE
open Go.RowKit
def slV (b:Nat) (rows:List (List AVal)):AVal:=if rows=[] then .nilSl else .sl b 0 rows.length
def blV (b k:Nat) (rows:List (List AVal)) (rest:List (Nat×ABlk)):List (Nat×ABlk):=if rows=[] then rest else (b,.cells k rows) :: rest
def imV (rows:List (List AVal)):AVal:=if rows=[] then .nilSl else .imm rows
def dlV (b id:Nat) (rows:List (List AVal)) (x:ABlk):List (Nat×Option ABlk):=if rows=[] then [(id,some x)] else [(b,none),(id,some x)]
def dlS (b k:Nat) (rows:List (List AVal)):List (Nat×Option ABlk):=if rows=[] then [] else [(b,some (.cells k rows))]
section
variable {b c id k bytes i n:Nat} {rows xs:List (List AVal)} {rest:List (Nat×ABlk)} {get:Nat→Option ABlk} {q:Nat→Nat} {m:SMem}
theorem Z3x:slV b []=.nilSl:=rfl
theorem Z0c (x:List AVal):slV b (rows++[x])=.sl b 0 (rows.length+1):=by simp [slV]
theorem Zmi (h:¬rows=[]):slV b rows=.sl b 0 rows.length:=by simp [slV,h]
theorem Zko (h:¬rows=[]):blV b k rows rest=(b,.cells k rows) :: rest:=by simp [blV,h]
theorem Z4b:blV b k [] rest=rest:=rfl
theorem Zz7 (x:List AVal):blV b k (rows++[x]) rest=(b,.cells k (rows++[x])) :: rest:=by simp [blV]
theorem sl_slV:Zav (slV b rows)=some rows.length:=by
 unfold slV
 split
 · rename_i h; subst h; rfl
 · rfl
theorem Z40:(slV b rows).ren q=slV (q b) rows:=by unfold slV; split<;>rfl
theorem Zzw:(slV b rows).cells=some [slV b rows]:=by unfold slV; split<;>rfl
theorem Z3m:(slV b rows).one=true:=by unfold slV; split<;>rfl
theorem Z0a (h:¬c=b):Zaw (blV b k rows rest) c=Zaw rest c:=by
 unfold blV
 split
 · rfl
 · simp only [Zaw]; rw [if_neg h]
theorem Zta:Zaw (blV b k rows rest) b=if rows=[] then Zaw rest b else some (.cells k rows):=by
 unfold blV
 split
 · rfl
 · simp only [Zaw]; rw [if_pos trivial]
theorem Zwp (h:¬c=b):Zb1 (blV b k rows rest) c=blV b k rows (Zb1 rest c):=by
 unfold blV
 split
 · rfl
 · simp only [Zb1]; rw [if_neg h]
theorem Zsv:Zb1 (blV b k rows rest) b=Zb1 rest b:=by
 unfold blV
 split
 · rfl
 · simp only [Zb1]; rw [if_pos trivial]
theorem Z3w {t:List (Nat×ABlk)}:renB q (blV b k rows rest) t=blV (q b) k (Zam q rows) (renB q rest t):=by
 unfold blV
 by_cases h:rows=[]
 · subst h; simp [Zam]
 · have:Zam q rows≠[]:=fun e=>h (List.length_eq_zero_iff.1 (by rw [← Zdx q,e]; rfl))
   rw [if_neg h,if_neg this]
   simp [renB,ABlk.ren]
theorem Z05 (l:List (Nat×ABlk)):Zdj [] l=l:=by
 induction l with
 | nil=>rfl
 | cons a r ih=>obtain ⟨c,y⟩:=a; simp only [Zdj,memN,cond_false,ih]
theorem Zvb {ks:List Nat}:Zdj ks (blV b k rows rest)=bif memN b ks then Zdj ks rest else blV b k rows (Zdj ks rest):=by
 unfold blV
 cases hm:memN b ks with
 | true=>
  split
  · rfl
  · simp [Zdj,hm]
 | false=>
  split
  · rfl
  · simp [Zdj,hm]
theorem Z1m:Zlj q (blV b k rows rest)=if rows=[] then Zlj q rest else q b :: Zlj q rest:=by
 unfold blV
 split<;>rfl
theorem Z4y:SubRB q (blV b k rows rest) m=((rows≠[]→m.get (q b)=some (.cells k (Zam q rows)) ∨ ∃ y,m.get (q b)=some y∧BSub (.cells k (Zam q rows)) y)∧SubRB q rest m):=by
 unfold blV
 split
 · rename_i h; simp [h]
 · rename_i h; simp [h,SubRB,ABlk.ren]
theorem Z1l:InjA q c (blV b k rows rest)=((rows≠[]→q c=q b→c=b)∧InjA q c rest):=by
 unfold blV
 split
 · rename_i h; simp [h]
 · rename_i h; simp [h,InjA]
theorem Z0b:InjK q (blV b k rows rest)=((rows≠[]→InjA q b rest)∧InjK q rest):=by
 unfold blV
 split
 · rename_i h; simp [h]
 · rename_i h; simp [h,InjK]
theorem Zv4 (x:Nat) (a l:List Nat):Zcf x (a++l)=(Zcf x a∧Zcf x l):=by
 induction a with
 | nil=>simp [Zcf]
 | cons y r ih=>simp only [List.cons_append,Zcf,ih,and_assoc]
theorem Zxh (l:List Nat):Zcg (Za3 (slV b rows)) l=(¬rows=[]→Zcf b l):=by
 unfold slV
 split
 · rename_i h; simp [Za3,Zcg,h]
 · rename_i h; simp [Za3,Zcg,h]
theorem Zv2 (x:Nat):Zcf x (Za3 (slV b rows))=(¬rows=[]→x≠b):=by
 unfold slV
 split
 · rename_i h; simp [Za3,Zcf,h]
 · rename_i h; simp [Za3,Zcf,h]
theorem bk_ptr (b i j:Nat):Za3 (.ptr b i j)=[b]:=rfl
theorem bk_sl (b i j:Nat):Za3 (.sl b i j)=[b]:=rfl
theorem bk_map (b:Nat):Za3 (.map b)=[b]:=rfl
theorem bk_imm (l:List (List AVal)):Za3 (.imm l)=[]:=rfl
theorem Z3j (l:List (List AVal)) (i j:Nat):Za3 (.iptr l i j)=[]:=rfl
theorem bk_nil:Za3 .nilSl=[]:=rfl
theorem bk_int (k:IntKind) (n:Int):Za3 (.int k n)=[]:=rfl
theorem bk_str (l:List UInt8):Za3 (.str l)=[]:=rfl
theorem bk_imV:Za3 (imV rows)=[]:=by unfold imV; split<;>rfl
theorem ap_slV (hx:xs≠[]) (hg:get b=if rows=[] then none else some (.cells k rows)) (hr:rows.length+xs.length≤1048576) (hb:bytes≤1048576) :
 Zan id k bytes get (slV b rows) xs=some (.sl id 0 (rows.length+xs.length),dlV b id rows (.cells k (rows++xs))):=by
 have hrm:room=1048576:=rfl
 rw [← hrm] at hr hb
 have hxl:0<xs.length:=by cases xs with | nil=>exact absurd rfl hx | cons a r=>simp
 unfold slV dlV
 by_cases h:rows=[]
 · subst h
   simp only [if_true,Zan,if_neg hx,List.length_nil,Nat.zero_add,List.nil_append]
   rw [if_pos ⟨by simpa using hr,hb⟩]
 · rw [if_neg h,if_neg h]
   simp only [Zan,hg,if_neg h]
   rw [if_pos (by simp),if_neg (by omega),if_pos ⟨by omega,hb⟩]
   simp
theorem Z3b (hg:get b=if rows=[] then none else some (.cells k rows)):Zan id k bytes get (slV b rows) []=some (slV b rows,dlS b k rows):=by
 unfold slV dlS
 by_cases h:rows=[]
 · subst h; rfl
 · rw [if_neg h,if_neg h]
   simp only [Zan,hg,if_neg h]
   rw [if_pos (by simp),if_pos (by simp)]
   simp
theorem Z4p {x:ABlk} (h:rows=[]→Zaw m.bl b=none):m.app (dlV b id rows x)=⟨(id,x) :: Zb1 m.bl b,m.next⟩:=by
 have key:∀ l:List (Nat×ABlk),Zaw l b=none→Zb1 l b=l:=by
  intro l
  induction l with
  | nil=>intro _; rfl
  | cons a r ih=>
   obtain⟨d,y⟩:=a
   intro hl
   simp only [Zaw] at hl
   split at hl
   · cases hl
   · rename_i hd
     simp only [Zb1]
     rw [if_neg hd,ih hl]
 unfold dlV
 by_cases h0:rows=[]
 · rw [if_pos h0,key _ (h h0)]; rfl
 · rw [if_neg h0]; rfl
theorem Z4r:m.app (dlS b k rows)=⟨blV b k rows m.bl,m.next⟩:=by
 unfold dlS blV
 split<;>rfl
theorem ix_slV (hg:get b=if rows=[] then none else some (.cells k rows)) (hi:i<rows.length):idxZ get k (slV b rows) (some i)=some (.ptr b i 0,[]):=by
 have h:rows≠[]:=fun e=>by subst e; simp at hi
 unfold slV
 rw [if_neg h,Zoq,hg,if_neg h]
 simp [hi]
theorem sr_slV (hg:get b=if rows=[] then none else some (.cells k rows)):Zbh get k (slV b rows)=some rows:=by
 unfold slV
 by_cases h:rows=[]
 · subst h; rfl
 · rw [if_neg h]
   simp [Zbh,Zb2,hg,h]
theorem sr_sl0 (len:Nat):Zbh get k (.sl b 0 len)=match get b with
 | some (.cells k' els)=>if k'=k∧len≤els.length then some (els.take len) else none
 | _=>if len=0 then some [] else none:=by
 simp only [Zbh,Zb2,Nat.zero_add,List.drop_zero]
 rfl
theorem sr_nil:Zbh get k .nilSl=some []:=rfl
theorem Zk8:Zbh get k (.imm rows)=if rows.all (·.length == k) then some rows else none:=rfl
theorem fz_slV {S:List Nat} (hb:memN b S=true) (hg:get b=if rows=[] then none else some (.cells k rows)) (hs:∀ row,row∈rows → ∀ x,x∈row→Zaj (Zir get S) 4 x=some x):fzV get S (slV b rows)=imV rows:=by
 unfold slV imV
 by_cases h:rows=[]
 · rw [if_pos h,if_pos h]; rfl
 · rw [if_neg h,if_neg h]; exact Z2n hb (by rw [hg,if_neg h]) rfl hs
end
end Go.AE
