/- Part 24 of the proof: AeNi. -/
import Derived.Test.YtilmpmlkndfbjaaGreatDoorI13
import Derived.Test.YtilmpmlkndfbjaaGreatDoorI14
set_option linter.all false
namespace Go.AE
open Go.RowKit
def slV(b:Nat)(rows:List (List AVal)):AVal:=if rows=[]then .nilSl else .sl b 0 rows.length
def blV(b k:Nat)(rows:List (List AVal))(rest:List (Nat×ABlk)):List (Nat×ABlk):=if rows=[]then rest else (b,.cells k rows) :: rest
def imV(rows:List (List AVal)):AVal:=if rows=[]then .nilSl else .imm rows
def dlV(b id:Nat)(rows:List (List AVal))(x:ABlk):List (Nat×Option ABlk):=if rows=[]then [(id,some x)]else [(b,none),(id,some x)]
def dlS(b k:Nat)(rows:List (List AVal)):List (Nat×Option ABlk):=if rows=[]then []else [(b,some (.cells k rows))]
section
variable {b c id k bytes i n:Nat} {rows xs:List (List AVal)} {rest:List (Nat×ABlk)} {get:Nat→Option ABlk} {q:Nat→Nat} {m:SMem}
theorem Ztk:slV b []=.nilSl:=rfl
theorem Z57(x:List AVal):slV b (rows++[x])=.sl b 0 (rows.length+1):=by simp[slV]
theorem Zjh(h:¬rows=[]):slV b rows=.sl b 0 rows.length:=by simp[slV,h]
theorem Ziu(h:¬rows=[]):blV b k rows rest=(b,.cells k rows) :: rest:=by simp[blV,h]
theorem Z15:blV b k [] rest=rest:=rfl
theorem Yb7(x:List AVal):blV b k (rows++[x]) rest=(b,.cells k (rows++[x])) :: rest:=by simp[blV]
theorem Yfe:T0 (slV b rows)=some rows.length:=by
 unfold slV;split
 ·rename_i h; subst h; rfl
 ·rfl
theorem Ya5:(slV b rows).ren q=slV (q b) rows:=by unfold slV; split<;>rfl
theorem Z78:(slV b rows).cells=some [slV b rows]:=by unfold slV; split<;>rfl
theorem Z52:(slV b rows).one=true:=by unfold slV; split<;>rfl
theorem Z6b(h:¬c=b):Z9 (blV b k rows rest) c=Z9 rest c:=by
 unfold blV;split
 ·rfl
 ·simp only[Z9]; rw[if_neg h]
theorem Ybp:Z9 (blV b k rows rest) b=if rows=[]then Z9 rest b else some (.cells k rows):=by
 unfold blV;split
 ·rfl
 ·simp only[Z9]; rw[if_pos trivial]
theorem Z3l(h:¬c=b):Q5 (blV b k rows rest) c=blV b k rows (Q5 rest c):=by
 unfold blV;split
 ·rfl
 ·simp only[Q5]; rw[if_neg h]
theorem Z8h:Q5 (blV b k rows rest) b=Q5 rest b:=by
 unfold blV;split
 ·rfl
 ·simp only[Q5]; rw[if_pos trivial]
theorem Z67{t:List (Nat×ABlk)}:K5 q (blV b k rows rest) t=blV (q b) k (Z4 q rows) (K5 q rest t):=by
 unfold blV;by_cases h:rows=[]
 ·subst h; simp[Z4]
 ·have:Z4 q rows≠[]:=fun e=>h (List.length_eq_zero_iff.1 (by rw[← Zh4 q,e]; rfl))
  rw[if_neg h,if_neg this];simp[K5,ABlk.ren]
theorem Ya1(l:List (Nat×ABlk)):R0 [] l=l:=by
 induction l with
 | nil=>rfl
 | cons a r b=>obtain ⟨c,y⟩:=a; simp only[R0,V8,cond_false,b]
theorem Yga{a:List Nat}:R0 a (blV b k rows rest)=bif V8 b a then R0 a rest else blV b k rows (R0 a rest):=by
 unfold blV;cases hm:V8 b a with
 | true=>
  split
  ·rfl
  ·simp[R0,hm]
 | false=>
  split
  ·rfl
  ·simp[R0,hm]
theorem Yhb:M7 q (blV b k rows rest)=if rows=[]then M7 q rest else q b :: M7 q rest:=by
 unfold blV;split<;>rfl
theorem Z8g:SubRB q (blV b k rows rest) m=((rows≠[]→m.get (q b)=some (.cells k (Z4 q rows)) ∨ ∃ y,m.get (q b)=some y∧BSub (.cells k (Z4 q rows)) y)∧SubRB q rest m):=by
 unfold blV;split
 ·rename_i h; simp[h]
 ·rename_i h; simp[h,SubRB,ABlk.ren]
theorem Z4o:InjA q c (blV b k rows rest)=((rows≠[]→q c=q b→c=b)∧InjA q c rest):=by
 unfold blV;split
 ·rename_i h; simp[h]
 ·rename_i h; simp[h,InjA]
theorem Z70:InjK q (blV b k rows rest)=((rows≠[]→InjA q b rest)∧InjK q rest):=by
 unfold blV;split
 ·rename_i h; simp[h]
 ·rename_i h; simp[h,InjK]
theorem Z79(x:Nat)(a l:List Nat):P5 x (a++l)=(P5 x a∧P5 x l):=by
 induction a with
 | nil=>simp[P5]
 | cons y r b=>simp only[List.cons_append,P5,b,and_assoc]
theorem Z43(l:List Nat):N6 (X0 (slV b rows)) l=(¬rows=[]→P5 b l):=by
 unfold slV;split
 ·rename_i h; simp[X0,N6,h]
 ·rename_i h; simp[X0,N6,h]
theorem Z93(x:Nat):P5 x (X0 (slV b rows))=(¬rows=[]→x≠b):=by
 unfold slV;split
 ·rename_i h; simp[X0,P5,h]
 ·rename_i h; simp[X0,P5,h]
theorem Z7f(b i j:Nat):X0 (.ptr b i j)=[b]:=rfl
theorem Z7i(b i j:Nat):X0 (.sl b i j)=[b]:=rfl
theorem Ybn(b:Nat):X0 (.map b)=[b]:=rfl
theorem Z4d(l:List (List AVal)):X0 (.imm l)=[]:=rfl
theorem Ycz(l:List (List AVal))(i j:Nat):X0 (.iptr l i j)=[]:=rfl
theorem Z2w:X0 .nilSl=[]:=rfl
theorem Z9x(k:IntKind)(n:Int):X0 (.int k n)=[]:=rfl
theorem Z98(l:List UInt8):X0 (.str l)=[]:=rfl
theorem Z6t:X0 (imV rows)=[]:=by unfold imV; split<;>rfl
theorem Z38(f:xs≠[])(g:get b=if rows=[]then none else some (.cells k rows))(e:rows.length+xs.length≤1048576)(c:bytes≤1048576) :
 O6 id k bytes get (slV b rows) xs=some (.sl id 0 (rows.length+xs.length),dlV b id rows (.cells k (rows++xs))):=by
 have d:X6=1048576:=rfl;rw[← d]at e c;have i:0<xs.length:=by cases xs with|nil=>exact absurd rfl f|cons a r=>simp
 unfold slV dlV;by_cases h:rows=[]
 ·subst h;simp only[if_true,O6,if_neg f,List.length_nil,Nat.zero_add,List.nil_append];rw[if_pos ⟨by simpa using e,c⟩]
 ·rw[if_neg h,if_neg h];simp only[O6,g,if_neg h];rw[if_pos (by simp),if_neg (by omega),if_pos ⟨by omega,c⟩]
  simp
theorem Z2j(a:get b=if rows=[]then none else some (.cells k rows)):O6 id k bytes get (slV b rows) []=some (slV b rows,dlS b k rows):=by
 unfold slV dlS;by_cases h:rows=[]
 ·subst h; rfl
 ·rw[if_neg h,if_neg h];simp only[O6,a,if_neg h];rw[if_pos (by simp),if_pos (by simp)]
  simp
theorem Z53{x:ABlk}(h:rows=[]→Z9 m.bl b=none):m.app (dlV b id rows x)=⟨(id,x) :: Q5 m.bl b,m.next⟩:=by
 have key:∀ l:List (Nat×ABlk),Z9 l b=none→Q5 l b=l:=by
  intro l
  induction l with
  | nil=>intro _; rfl
  | cons a r g=>
   obtain⟨d,y⟩:=a;intro c;simp only[Z9]at c;split at c
   ·cases c
   ·rename_i f;simp only[Q5];rw[if_neg f,g c]
 unfold dlV;by_cases e:rows=[]
 ·rw[if_pos e,key _ (h e)]; rfl
 ·rw[if_neg e]; rfl
theorem Z7k:m.app (dlS b k rows)=⟨blV b k rows m.bl,m.next⟩:=by
 unfold dlS blV;split<;>rfl
theorem Z8u(a:get b=if rows=[]then none else some (.cells k rows))(hi:i<rows.length):idxZ get k (slV b rows) (some i)=some (.ptr b i 0,[]):=by
 have h:rows≠[]:=fun e=>by subst e; simp at hi
 unfold slV;rw[if_neg h,Zbj,a,if_neg h];simp[hi]
theorem Yf6(a:get b=if rows=[]then none else some (.cells k rows)):N5 get k (slV b rows)=some rows:=by
 unfold slV;by_cases h:rows=[]
 ·subst h; rfl
 ·rw[if_neg h];simp[N5,R4,a,h]
theorem Z44(len:Nat):N5 get k (.sl b 0 len)=match get b with
 | some (.cells a els)=>if a=k∧len≤els.length then some (els.take len)else none
 | _=>if len=0 then some []else none:=by
 simp only[N5,R4,Nat.zero_add,List.drop_zero];rfl
theorem Zqf:N5 get k .nilSl=some []:=rfl
theorem Zi8:N5 get k (.imm rows)=if rows.all (·.length == k)then some rows else none:=rfl
theorem Z4e{S:List Nat}(a:V8 b S=true)(c:get b=if rows=[]then none else some (.cells k rows))(d:∀ row,row∈rows → ∀ x,x∈row→X4 (Zbd get S) 4 x=some x):fzV get S (slV b rows)=imV rows:=by
 unfold slV imV;by_cases h:rows=[]
 ·rw[if_pos h,if_pos h]; rfl
 ·rw[if_neg h,if_neg h]; exact Zly a (by rw[c,if_neg h]) rfl d
end
end Go.AE
