/- Part 24 of the proof: AeNi. -/
import Derived.Test.YtipeejpafgnjdaaGreatDoorH13
import Derived.Test.YtipeejpafgnjdaaGreatDoorH14
set_option linter.all false
namespace Go.AE
open Go.RowKit
def slV(b:Nat)(rows:List (List AVal)):AVal:=if rows=[]then .nilSl else .sl b 0 rows.length
def blV(b k:Nat)(rows:List (List AVal))(rest:List (Nat×ABlk)):List (Nat×ABlk):=if rows=[]then rest else (b,.cells k rows) :: rest
def imV(rows:List (List AVal)):AVal:=if rows=[]then .nilSl else .imm rows
def dlV(b id:Nat)(rows:List (List AVal))(x:ABlk):List (Nat×Option ABlk):=if rows=[]then [(id,some x)]else [(b,none),(id,some x)]
def dlS(b k:Nat)(rows:List (List AVal)):List (Nat×Option ABlk):=if rows=[]then []else [(b,some (.cells k rows))]
section
variable {b c id k bytes i n:Nat} {rows xs:List (List AVal)} {rest:List (Nat×ABlk)} {get:Nat→Option ABlk} {q:Nat→Nat} {m:SMem}
theorem Ztn:slV b []=.nilSl:=rfl
theorem Ydi(x:List AVal):slV b (rows++[x])=.sl b 0 (rows.length+1):=by simp[slV]
theorem Zet(h:¬rows=[]):slV b rows=.sl b 0 rows.length:=by simp[slV,h]
theorem Zd7(h:¬rows=[]):blV b k rows rest=(b,.cells k rows) :: rest:=by simp[blV,h]
theorem Ztj:blV b k [] rest=rest:=rfl
theorem Yeo(x:List AVal):blV b k (rows++[x]) rest=(b,.cells k (rows++[x])) :: rest:=by simp[blV]
theorem Z46:U9 (slV b rows)=some rows.length:=by
 unfold slV;split
 ·rename_i h; subst h; rfl
 ·rfl
theorem Ybo:(slV b rows).ren q=slV (q b) rows:=by unfold slV; split<;>rfl
theorem Z86:(slV b rows).cells=some [slV b rows]:=by unfold slV; split<;>rfl
theorem Yaq:(slV b rows).one=true:=by unfold slV; split<;>rfl
theorem Z1u(h:¬c=b):Z8 (blV b k rows rest) c=Z8 rest c:=by
 unfold blV;split
 ·rfl
 ·simp only[Z8]; rw[if_neg h]
theorem Z4r:Z8 (blV b k rows rest) b=if rows=[]then Z8 rest b else some (.cells k rows):=by
 unfold blV;split
 ·rfl
 ·simp only[Z8]; rw[if_pos trivial]
theorem Z0a(h:¬c=b):R6 (blV b k rows rest) c=blV b k rows (R6 rest c):=by
 unfold blV;split
 ·rfl
 ·simp only[R6]; rw[if_neg h]
theorem Z3r:R6 (blV b k rows rest) b=R6 rest b:=by
 unfold blV;split
 ·rfl
 ·simp only[R6]; rw[if_pos trivial]
theorem Z40{t:List (Nat×ABlk)}:L9 q (blV b k rows rest) t=blV (q b) k (Z3 q rows) (L9 q rest t):=by
 unfold blV;by_cases h:rows=[]
 ·subst h; simp[Z3]
 ·have:Z3 q rows≠[]:=fun e=>h (List.length_eq_zero_iff.1 (by rw[← Zhn q,e]; rfl))
  rw[if_neg h,if_neg this];simp[L9,ABlk.ren]
theorem Ycm(l:List (Nat×ABlk)):S8 [] l=l:=by
 induction l with
 | nil=>rfl
 | cons a r ih=>obtain ⟨c,y⟩:=a; simp only[S8,V3,cond_false,ih]
theorem Z5a{ks:List Nat}:S8 ks (blV b k rows rest)=bif V3 b ks then S8 ks rest else blV b k rows (S8 ks rest):=by
 unfold blV;cases hm:V3 b ks with
 | true=>
  split
  ·rfl
  ·simp[S8,hm]
 | false=>
  split
  ·rfl
  ·simp[S8,hm]
theorem Z92:M2 q (blV b k rows rest)=if rows=[]then M2 q rest else q b :: M2 q rest:=by
 unfold blV;split<;>rfl
theorem Z6q:SubRB q (blV b k rows rest) m=((rows≠[]→m.get (q b)=some (.cells k (Z3 q rows)) ∨ ∃ y,m.get (q b)=some y∧BSub (.cells k (Z3 q rows)) y)∧SubRB q rest m):=by
 unfold blV;split
 ·rename_i h; simp[h]
 ·rename_i h; simp[h,SubRB,ABlk.ren]
theorem Z0n:InjA q c (blV b k rows rest)=((rows≠[]→q c=q b→c=b)∧InjA q c rest):=by
 unfold blV;split
 ·rename_i h; simp[h]
 ·rename_i h; simp[h,InjA]
theorem Yc7:InjK q (blV b k rows rest)=((rows≠[]→InjA q b rest)∧InjK q rest):=by
 unfold blV;split
 ·rename_i h; simp[h]
 ·rename_i h; simp[h,InjK]
theorem Yco(x:Nat)(a l:List Nat):Q8 x (a++l)=(Q8 x a∧Q8 x l):=by
 induction a with
 | nil=>simp[Q8]
 | cons y r ih=>simp only[List.cons_append,Q8,ih,and_assoc]
theorem Yad(l:List Nat):O8 (Y8 (slV b rows)) l=(¬rows=[]→Q8 b l):=by
 unfold slV;split
 ·rename_i h; simp[Y8,O8,h]
 ·rename_i h; simp[Y8,O8,h]
theorem Z2e(x:Nat):Q8 x (Y8 (slV b rows))=(¬rows=[]→x≠b):=by
 unfold slV;split
 ·rename_i h; simp[Y8,Q8,h]
 ·rename_i h; simp[Y8,Q8,h]
theorem Ybc(b i j:Nat):Y8 (.ptr b i j)=[b]:=rfl
theorem Ydt(b i j:Nat):Y8 (.sl b i j)=[b]:=rfl
theorem Z94(b:Nat):Y8 (.map b)=[b]:=rfl
theorem Z6s(l:List (List AVal)):Y8 (.imm l)=[]:=rfl
theorem Z4o(l:List (List AVal))(i j:Nat):Y8 (.iptr l i j)=[]:=rfl
theorem Z3b:Y8 .nilSl=[]:=rfl
theorem Yet(k:IntKind)(n:Int):Y8 (.int k n)=[]:=rfl
theorem Z3s(l:List UInt8):Y8 (.str l)=[]:=rfl
theorem Ybw:Y8 (imV rows)=[]:=by unfold imV; split<;>rfl
theorem Z0q(hx:xs≠[])(hg:get b=if rows=[]then none else some (.cells k rows))(hr:rows.length+xs.length≤1048576)(hb:bytes≤1048576) :
 P7 id k bytes get (slV b rows) xs=some (.sl id 0 (rows.length+xs.length),dlV b id rows (.cells k (rows++xs))):=by
 have hrm:X4=1048576:=rfl;rw[← hrm]at hr hb;have hxl:0<xs.length:=by cases xs with|nil=>exact absurd rfl hx|cons a r=>simp
 unfold slV dlV;by_cases h:rows=[]
 ·subst h;simp only[if_true,P7,if_neg hx,List.length_nil,Nat.zero_add,List.nil_append];rw[if_pos ⟨by simpa using hr,hb⟩]
 ·rw[if_neg h,if_neg h];simp only[P7,hg,if_neg h];rw[if_pos (by simp),if_neg (by omega),if_pos ⟨by omega,hb⟩]
  simp
theorem Ycr(hg:get b=if rows=[]then none else some (.cells k rows)):P7 id k bytes get (slV b rows) []=some (slV b rows,dlS b k rows):=by
 unfold slV dlS;by_cases h:rows=[]
 ·subst h; rfl
 ·rw[if_neg h,if_neg h];simp only[P7,hg,if_neg h];rw[if_pos (by simp),if_pos (by simp)]
  simp
theorem Ybx{x:ABlk}(h:rows=[]→Z8 m.bl b=none):m.app (dlV b id rows x)=⟨(id,x) :: R6 m.bl b,m.next⟩:=by
 have key:∀ l:List (Nat×ABlk),Z8 l b=none→R6 l b=l:=by
  intro l
  induction l with
  | nil=>intro _; rfl
  | cons a r ih=>
   obtain⟨d,y⟩:=a;intro hl;simp only[Z8]at hl;split at hl
   ·cases hl
   ·rename_i hd;simp only[R6];rw[if_neg hd,ih hl]
 unfold dlV;by_cases h0:rows=[]
 ·rw[if_pos h0,key _ (h h0)]; rfl
 ·rw[if_neg h0]; rfl
theorem Yac:m.app (dlS b k rows)=⟨blV b k rows m.bl,m.next⟩:=by
 unfold dlS blV;split<;>rfl
theorem Z0k(hg:get b=if rows=[]then none else some (.cells k rows))(hi:i<rows.length):idxZ get k (slV b rows) (some i)=some (.ptr b i 0,[]):=by
 have h:rows≠[]:=fun e=>by subst e; simp at hi
 unfold slV;rw[if_neg h,Za2,hg,if_neg h];simp[hi]
theorem Z0y(hg:get b=if rows=[]then none else some (.cells k rows)):P9 get k (slV b rows)=some rows:=by
 unfold slV;by_cases h:rows=[]
 ·subst h; rfl
 ·rw[if_neg h];simp[P9,R2,hg,h]
theorem Ybn(len:Nat):P9 get k (.sl b 0 len)=match get b with
 | some (.cells k' els)=>if k'=k∧len≤els.length then some (els.take len)else none
 | _=>if len=0 then some []else none:=by
 simp only[P9,R2,Nat.zero_add,List.drop_zero];rfl
theorem Znx:P9 get k .nilSl=some []:=rfl
theorem Zi7:P9 get k (.imm rows)=if rows.all (·.length == k)then some rows else none:=rfl
theorem Ycq{S:List Nat}(hb:V3 b S=true)(hg:get b=if rows=[]then none else some (.cells k rows))(hs:∀ row,row∈rows → ∀ x,x∈row→X0 (Za0 get S) 4 x=some x):fzV get S (slV b rows)=imV rows:=by
 unfold slV imV;by_cases h:rows=[]
 ·rw[if_pos h,if_pos h]; rfl
 ·rw[if_neg h,if_neg h]; exact Zjj hb (by rw[hg,if_neg h]) rfl hs
end
end Go.AE
