/- Part 25 of the proof: AeNi. -/
import Derived.Test.YtipeejpafgnjdaaGreatDoorG14
import Derived.Test.YtipeejpafgnjdaaGreatDoorG17
set_option linter.all false
namespace Go.AE
open Go.RowKit
def slV (b:Nat) (rows:List (List AVal)):AVal:=if rows=[]then .nilSl else .sl b 0 rows.length
def blV (b k:Nat) (rows:List (List AVal)) (rest:List (Nat×ABlk)):List (Nat×ABlk):=if rows=[]then rest else (b,.cells k rows) :: rest
def imV (rows:List (List AVal)):AVal:=if rows=[]then .nilSl else .imm rows
def dlV (b id:Nat) (rows:List (List AVal)) (x:ABlk):List (Nat×Option ABlk):=if rows=[]then [(id,some x)]else [(b,none),(id,some x)]
def dlS (b k:Nat) (rows:List (List AVal)):List (Nat×Option ABlk):=if rows=[]then []else [(b,some (.cells k rows))]
section
variable {b c id k bytes i n:Nat} {rows xs:List (List AVal)} {rest:List (Nat×ABlk)} {get:Nat→Option ABlk} {q:Nat→Nat} {m:SMem}
theorem Z2k:slV b []=.nilSl:=rfl
theorem Z3z (x:List AVal):slV b (rows++[x])=.sl b 0 (rows.length+1):=by simp[slV]
theorem Zhh (h:¬rows=[]):slV b rows=.sl b 0 rows.length:=by simp[slV,h]
theorem Zhf (h:¬rows=[]):blV b k rows rest=(b,.cells k rows) :: rest:=by simp[blV,h]
theorem Z1k:blV b k [] rest=rest:=rfl
theorem Z3y (x:List AVal):blV b k (rows++[x]) rest=(b,.cells k (rows++[x])) :: rest:=by simp[blV]
theorem sl_slV:Zaw (slV b rows)=some rows.length:=by
 unfold slV
 split
 ·rename_i h; subst h; rfl
 ·rfl
theorem Z7s:(slV b rows).ren q=slV (q b) rows:=by unfold slV; split<;>rfl
theorem Z1x:(slV b rows).cells=some [slV b rows]:=by unfold slV; split<;>rfl
theorem Z7t:(slV b rows).one=true:=by unfold slV; split<;>rfl
theorem Z49 (h:¬c=b):Zar (blV b k rows rest) c=Zar rest c:=by
 unfold blV
 split
 ·rfl
 ·simp only[Zar]; rw[if_neg h]
theorem Zvf:Zar (blV b k rows rest) b=if rows=[]then Zar rest b else some (.cells k rows):=by
 unfold blV
 split
 ·rfl
 ·simp only[Zar]; rw[if_pos trivial]
theorem Z08 (h:¬c=b):Zb8 (blV b k rows rest) c=blV b k rows (Zb8 rest c):=by
 unfold blV
 split
 ·rfl
 ·simp only[Zb8]; rw[if_neg h]
theorem Zs8:Zb8 (blV b k rows rest) b=Zb8 rest b:=by
 unfold blV
 split
 ·rfl
 ·simp only[Zb8]; rw[if_pos trivial]
theorem Z8r {t:List (Nat×ABlk)}:renB q (blV b k rows rest) t=blV (q b) k (Zak q rows) (renB q rest t):=by
 unfold blV
 by_cases h:rows=[]
 ·subst h; simp[Zak]
 ·have:Zak q rows≠[]:=fun e=>h (List.length_eq_zero_iff.1 (by rw[← Zd5 q,e]; rfl))
  rw[if_neg h,if_neg this]
  simp[renB,ABlk.ren]
theorem Z4v (l:List (Nat×ABlk)):Zde [] l=l:=by
 induction l with
 | nil=>rfl
 | cons a r ih=>obtain ⟨c,y⟩:=a; simp only[Zde,memN,cond_false,ih]
theorem Z47 {ks:List Nat}:Zde ks (blV b k rows rest)=bif memN b ks then Zde ks rest else blV b k rows (Zde ks rest):=by
 unfold blV
 cases hm:memN b ks with
 | true=>
  split
  ·rfl
  ·simp[Zde,hm]
 | false=>
  split
  ·rfl
  ·simp[Zde,hm]
theorem Z4j:Zfe q (blV b k rows rest)=if rows=[]then Zfe q rest else q b :: Zfe q rest:=by
 unfold blV
 split<;>rfl
theorem Z7f:SubRB q (blV b k rows rest) m=((rows≠[]→m.get (q b)=some (.cells k (Zak q rows)) ∨ ∃ y,m.get (q b)=some y∧BSub (.cells k (Zak q rows)) y)∧SubRB q rest m):=by
 unfold blV
 split
 ·rename_i h; simp[h]
 ·rename_i h; simp[h,SubRB,ABlk.ren]
theorem Z51:InjA q c (blV b k rows rest)=((rows≠[]→q c=q b→c=b)∧InjA q c rest):=by
 unfold blV
 split
 ·rename_i h; simp[h]
 ·rename_i h; simp[h,InjA]
theorem Z5g:InjK q (blV b k rows rest)=((rows≠[]→InjA q b rest)∧InjK q rest):=by
 unfold blV
 split
 ·rename_i h; simp[h]
 ·rename_i h; simp[h,InjK]
theorem Zzh (x:Nat) (a l:List Nat):Zch x (a++l)=(Zch x a∧Zch x l):=by
 induction a with
 | nil=>simp[Zch]
 | cons y r ih=>simp only[List.cons_append,Zch,ih,and_assoc]
theorem Z01 (l:List Nat):Zcl (Za5 (slV b rows)) l=(¬rows=[]→Zch b l):=by
 unfold slV
 split
 ·rename_i h; simp[Za5,Zcl,h]
 ·rename_i h; simp[Za5,Zcl,h]
theorem Zym (x:Nat):Zch x (Za5 (slV b rows))=(¬rows=[]→x≠b):=by
 unfold slV
 split
 ·rename_i h; simp[Za5,Zch,h]
 ·rename_i h; simp[Za5,Zch,h]
theorem bk_ptr (b i j:Nat):Za5 (.ptr b i j)=[b]:=rfl
theorem bk_sl (b i j:Nat):Za5 (.sl b i j)=[b]:=rfl
theorem bk_map (b:Nat):Za5 (.map b)=[b]:=rfl
theorem bk_imm (l:List (List AVal)):Za5 (.imm l)=[]:=rfl
theorem Z7x (l:List (List AVal)) (i j:Nat):Za5 (.iptr l i j)=[]:=rfl
theorem bk_nil:Za5 .nilSl=[]:=rfl
theorem bk_int (k:IntKind) (n:Int):Za5 (.int k n)=[]:=rfl
theorem bk_str (l:List UInt8):Za5 (.str l)=[]:=rfl
theorem bk_imV:Za5 (imV rows)=[]:=by unfold imV; split<;>rfl
theorem ap_slV (hx:xs≠[]) (hg:get b=if rows=[]then none else some (.cells k rows)) (hr:rows.length+xs.length≤1048576) (hb:bytes≤1048576) :
 Zan id k bytes get (slV b rows) xs=some (.sl id 0 (rows.length+xs.length),dlV b id rows (.cells k (rows++xs))):=by
 have hrm:room=1048576:=rfl
 rw[← hrm]at hr hb
 have hxl:0<xs.length:=by cases xs with|nil=>exact absurd rfl hx|cons a r=>simp
 unfold slV dlV
 by_cases h:rows=[]
 ·subst h
  simp only[if_true,Zan,if_neg hx,List.length_nil,Nat.zero_add,List.nil_append]
  rw[if_pos ⟨by simpa using hr,hb⟩]
 ·rw[if_neg h,if_neg h]
  simp only[Zan,hg,if_neg h]
  rw[if_pos (by simp),if_neg (by omega),if_pos ⟨by omega,hb⟩]
  simp
theorem Z7c (hg:get b=if rows=[]then none else some (.cells k rows)):Zan id k bytes get (slV b rows) []=some (slV b rows,dlS b k rows):=by
 unfold slV dlS
 by_cases h:rows=[]
 ·subst h; rfl
 ·rw[if_neg h,if_neg h]
  simp only[Zan,hg,if_neg h]
  rw[if_pos (by simp),if_pos (by simp)]
  simp
theorem Z81 {x:ABlk} (h:rows=[]→Zar m.bl b=none):m.app (dlV b id rows x)=⟨(id,x) :: Zb8 m.bl b,m.next⟩:=by
 have key:∀ l:List (Nat×ABlk),Zar l b=none→Zb8 l b=l:=by
  intro l
  induction l with
  | nil=>intro _; rfl
  | cons a r ih=>
   obtain⟨d,y⟩:=a
   intro hl
   simp only[Zar]at hl
   split at hl
   ·cases hl
   ·rename_i hd
    simp only[Zb8]
    rw[if_neg hd,ih hl]
 unfold dlV
 by_cases h0:rows=[]
 ·rw[if_pos h0,key _ (h h0)]; rfl
 ·rw[if_neg h0]; rfl
theorem Z8z:m.app (dlS b k rows)=⟨blV b k rows m.bl,m.next⟩:=by
 unfold dlS blV
 split<;>rfl
theorem ix_slV (hg:get b=if rows=[]then none else some (.cells k rows)) (hi:i<rows.length):idxZ get k (slV b rows) (some i)=some (.ptr b i 0,[]):=by
 have h:rows≠[]:=fun e=>by subst e; simp at hi
 unfold slV
 rw[if_neg h,Zp2,hg,if_neg h]
 simp[hi]
theorem sr_slV (hg:get b=if rows=[]then none else some (.cells k rows)):Zbe get k (slV b rows)=some rows:=by
 unfold slV
 by_cases h:rows=[]
 ·subst h; rfl
 ·rw[if_neg h]
  simp[Zbe,Zbh,hg,h]
theorem sr_sl0 (len:Nat):Zbe get k (.sl b 0 len)=match get b with
 | some (.cells k' els)=>if k'=k∧len≤els.length then some (els.take len)else none
 | _=>if len=0 then some []else none:=by
 simp only[Zbe,Zbh,Nat.zero_add,List.drop_zero]
 rfl
theorem Z3i:Zbe get k .nilSl=some []:=rfl
theorem Ztn:Zbe get k (.imm rows)=if rows.all (·.length == k)then some rows else none:=rfl
theorem fz_slV {S:List Nat} (hb:memN b S=true) (hg:get b=if rows=[]then none else some (.cells k rows)) (hs:∀ row,row∈rows → ∀ x,x∈row→Zah (Zix get S) 4 x=some x):fzV get S (slV b rows)=imV rows:=by
 unfold slV imV
 by_cases h:rows=[]
 ·rw[if_pos h,if_pos h]; rfl
 ·rw[if_neg h,if_neg h]; exact Z1s hb (by rw[hg,if_neg h]) rfl hs
end
end Go.AE
