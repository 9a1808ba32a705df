/- Part 13 of the proof: AeNf, AeNg, AeNi. -/
import Derived.Test.YtilmpmlkndfbjaaGreatDoorR11
import Derived.Test.YtilmpmlkndfbjaaGreatDoorR12
set_option linter.all false
section
namespace Go.AE
open Go.RowKit
variable {P:Program}
theorem Zc0(hm:P.follows .mixedOrders=true){f:FuncId}{fn:Func}{c:AFn}{args:List AVal}{m:SMem}{a:AVal→SMem→Prop}(j:P.funcs[f]? = some fn)(g:cFn P fn=some c){b:Nat}{d:List (Nat×Option (Option Nat))}{bd:ACode}(i:c=⟨b,d,bd⟩)(k:Nat.ble args.length b=true)
 (h:∀ K:AVal→SMem→Prop,(∀ r e,a r e→K r e)→wpZ P b m.next bd (H3 b d (O9 m.next K)) (U1 0 args []) m):Ctr P f args m a:=
 by subst i; exact Zsf hm j g k (h a fun _ _ h=>h)
theorem Za1(hm:P.follows .mixedOrders=true){f:FuncId}{fn:Func}{b:AFn}{args:List AVal}{m:SMem}{v:AVal}{M:SMem}(g:P.funcs[f]? = some fn)(d:cFn P fn=some b){a:Nat}{c:List (Nat×Option (Option Nat))}{bd:ACode}(e:b=⟨a,c,bd⟩)(i:Nat.ble args.length a=true)
 (h:∀ K:AVal→SMem→Prop,K v M→wpZ P a m.next bd (H3 a c (O9 m.next K)) (U1 0 args []) m):Ctr P f args m fun r j=>r=v∧j=M:=
 by subst e; exact Zsf hm g d i (h _ ⟨rfl,rfl⟩)
theorem Z9{n0:Nat}{K:AVal→SMem→Prop}{v0 v:AVal}{m0 m:SMem}(a:K v0 m0)(l:List (Nat×Nat))(h:SubR n0 l [(0,v0)] m0 [(0,v)] m):O9 n0 K v m:=⟨v0,m0,l,h,a⟩
theorem Za0(hm:P.follows .mixedOrders=true){f:FuncId}{fn:Func}{c:AFn}{args:List AVal}{v:AVal}(j:P.funcs[f]? = some fn)(g:cFn P fn=some c){a:Nat}{e:List (Nat×Option (Option Nat))}{bd:ACode}(i:c=⟨a,e,bd⟩)(l:Nat.ble args.length a=true)(b:X4 args=true)
 (d:match v with | .int _ _ | .bool _ | .str _=>True|_=>False)
 (h:∀ K:AVal→SMem→Prop,K v ⟨[],1⟩→wpZ P a 1 bd (H3 a e (O9 1 K)) (U1 0 args []) ⟨[],1⟩):PCall P f args v:=by
 refine Zmt (k:=1) b (by cases v<;>first|exact d.elim|rfl) ((Za1 (m:=⟨[],1⟩) (M:=⟨[],1⟩) hm j g i l h).mono fun r o n=>?_)
 obtain⟨rfl,rfl⟩:=n;exact Zw7 _ 0 _ d
theorem Zt7(hm:P.follows .mixedOrders=true){f:FuncId}{fn:Func}{d:AFn}{args:List AVal}{v:AVal}(k:Nat)(l:P.funcs[f]? = some fn)(i:cFn P fn=some d){a:Nat}{e:List (Nat×Option (Option Nat))}{bd:ACode}(j:d=⟨a,e,bd⟩)(n:Nat.ble args.length a=true)(b:X4 args=true)(c:v.closed=true)
 (h:∀ K:AVal→SMem→Prop,(∀ r g,X3 g.get k r=some v→K r g)→wpZ P a 1 bd (H3 a e (O9 1 K)) (U1 0 args []) ⟨[],1⟩):PCall P f args v:=
 Zmt (k:=k) b c (Zc0 (m:=⟨[],1⟩) hm l i j n h)
end Go.AE
end
section
namespace Go.AE
open Go.RowKit
def wr{α:Type}(x:α):α:=x
theorem Ztd{α:Type}(x:α):wr x=x:=Eq.trans (Eq.refl x) (Eq.refl x)
@[congr] theorem Yei{P : Program}{g : FuncId}{args args' : List AVal}{m : SMem}{w : Nat}{K : AVal → SMem → Prop}(h : wr args = args') : SC P g args m w K = SC P g args' m w K := by cases h; rfl
@[congr] theorem Yer{P : Program}{g : FuncId}{args args' : List AVal}{n : Nat}{x : List Nat}{m : SMem}{K : AVal → Option ABlk → Prop}(h : wr args = args') : DC P g args n x m K = DC P g args' n x m K := by cases h; rfl
end Go.AE
end
section
namespace Go.AE
open Go.RowKit
def slV(b:Nat)(rows:List (List AVal)):AVal:=if rows=[]then .nilSl else .sl b 0 rows.length
def blV(b k:Nat)(rows:List (List AVal))(rest:List (Nat×ABlk)):List (Nat×ABlk):=if rows=[]then rest else (b,.cells k rows) :: rest
def imV(rows:List (List AVal)):AVal:=if rows=[]then .nilSl else .imm rows
def dlV(b id:Nat)(rows:List (List AVal))(x:ABlk):List (Nat×Option ABlk):=if rows=[]then [(id,some x)]else [(b,none),(id,some x)]
def dlS(b k:Nat)(rows:List (List AVal)):List (Nat×Option ABlk):=if rows=[]then []else [(b,some (.cells k rows))]
section
variable {b c id k bytes i n:Nat} {rows xs:List (List AVal)} {rest:List (Nat×ABlk)} {get:Nat→Option ABlk} {q:Nat→Nat} {m:SMem}
theorem Zay:slV b []=.nilSl:=rfl
theorem Z65(x:List AVal):slV b (rows++[x])=.sl b 0 (rows.length+1):=by simp[slV]
theorem W4(h:¬rows=[]):slV b rows=.sl b 0 rows.length:=by simp[slV,h]
theorem Y7(h:¬rows=[]):blV b k rows rest=(b,.cells k rows) :: rest:=by simp[blV,h]
theorem Za4:blV b k [] rest=rest:=rfl
theorem Ycd(x:List AVal):blV b k (rows++[x]) rest=(b,.cells k (rows++[x])) :: rest:=by simp[blV]
theorem Zaj:W2 (slV b rows)=some rows.length:=by
 unfold slV;split
 ·rename_i h; subst h; rfl
 ·rfl
theorem Znm:(slV b rows).ren q=slV (q b) rows:=by unfold slV; split<;>rfl
theorem D7:(slV b rows).cells=some [slV b rows]:=by unfold slV; split<;>rfl
theorem C6:(slV b rows).one=true:=by unfold slV; split<;>rfl
theorem Zqo(h:¬c=b):Z7 (blV b k rows rest) c=Z7 rest c:=by
 unfold blV;split
 ·rfl
 ·simp only[Z7]; rw[if_neg h]
theorem Zto:Z7 (blV b k rows rest) b=if rows=[]then Z7 rest b else some (.cells k rows):=by
 unfold blV;split
 ·rfl
 ·simp only[Z7]; rw[if_pos trivial]
theorem Zwy(h:¬c=b):S3 (blV b k rows rest) c=blV b k rows (S3 rest c):=by
 unfold blV;split
 ·rfl
 ·simp only[S3]; rw[if_neg h]
theorem Z84:S3 (blV b k rows rest) b=S3 rest b:=by
 unfold blV;split
 ·rfl
 ·simp only[S3]; rw[if_pos trivial]
theorem Z6b{t:List (Nat×ABlk)}:J3 q (blV b k rows rest) t=blV (q b) k (Z6 q rows) (J3 q rest t):=by
 unfold blV;by_cases h:rows=[]
 ·subst h; simp[Z6]
 ·have:Z6 q rows≠[]:=fun e=>h (List.length_eq_zero_iff.1 (by rw[← Zhy q,e]; rfl))
  rw[if_neg h,if_neg this];simp[J3,ABlk.ren]
theorem Zz6(l:List (Nat×ABlk)):Q6 [] l=l:=by
 induction l with
 | nil=>rfl
 | cons a r b=>obtain ⟨c,y⟩:=a; simp only[Q6,Y8,cond_false,b]
theorem Yc9{ks:List Nat}:Q6 ks (blV b k rows rest)=bif Y8 b ks then Q6 ks rest else blV b k rows (Q6 ks rest):=by
 unfold blV;cases hm:Y8 b ks with
 | true=>
  split
  ·rfl
  ·simp[Q6,hm]
 | false=>
  split
  ·rfl
  ·simp[Q6,hm]
theorem Z4t:M5 q (blV b k rows rest)=if rows=[]then M5 q rest else q b :: M5 q rest:=by
 unfold blV;split<;>rfl
theorem Z67:SubRB q (blV b k rows rest) m=((rows≠[]→m.get (q b)=some (.cells k (Z6 q rows)) ∨ ∃ y,m.get (q b)=some y∧BSub (.cells k (Z6 q rows)) y)∧SubRB q rest m):=by
 unfold blV;split
 ·rename_i h; simp[h]
 ·rename_i h; simp[h,SubRB,ABlk.ren]
theorem Z6y{S:List Nat}:SubFB q S (blV b k rows rest) m=((rows≠[]→Y8 (q b) S=false∧(m.get (q b)=some (.cells k (Z6 q rows)) ∨ ∃ a els,m.get (q b)=some (.cells a els)∧ABlk.cells k (Z6 q rows)=.cells a (C2 m.get S els)))∧SubFB q S rest m):=by
 unfold blV;split
 ·rename_i h; simp[h]
 ·rename_i h; simp[h,SubFB,ABlk.ren]
theorem Z7x:InjA q c (blV b k rows rest)=((rows≠[]→q c=q b→c=b)∧InjA q c rest):=by
 unfold blV;split
 ·rename_i h; simp[h]
 ·rename_i h; simp[h,InjA]
theorem Z1y:InjK q (blV b k rows rest)=((rows≠[]→InjA q b rest)∧InjK q rest):=by
 unfold blV;split
 ·rename_i h; simp[h]
 ·rename_i h; simp[h,InjK]
theorem Z4h(x:Nat)(a l:List Nat):O4 x (a++l)=(O4 x a∧O4 x l):=by
 induction a with
 | nil=>simp[O4]
 | cons y r b=>simp only[List.cons_append,O4,b,and_assoc]
theorem Z3x(l:List Nat):N4 (Y9 (slV b rows)) l=(¬rows=[]→O4 b l):=by
 unfold slV;split
 ·rename_i h; simp[Y9,N4,h]
 ·rename_i h; simp[Y9,N4,h]
theorem Z6m(x:Nat):O4 x (Y9 (slV b rows))=(¬rows=[]→x≠b):=by
 unfold slV;split
 ·rename_i h; simp[Y9,O4,h]
 ·rename_i h; simp[Y9,O4,h]
theorem Z2o(b i j:Nat):Y9 (.ptr b i j)=[b]:=rfl
theorem Z7h(b i j:Nat):Y9 (.sl b i j)=[b]:=rfl
theorem Zzp(b:Nat):Y9 (.map b)=[b]:=rfl
theorem Ycq(l:List (List AVal)):Y9 (.imm l)=[]:=rfl
theorem Z60(l:List (List AVal))(i j:Nat):Y9 (.iptr l i j)=[]:=rfl
theorem Yc7:Y9 .nilSl=[]:=rfl
theorem Zz4(k:IntKind)(n:Int):Y9 (.int k n)=[]:=rfl
theorem Z2t(l:List UInt8):Y9 (.str l)=[]:=rfl
theorem Z5z:Y9 (imV rows)=[]:=by unfold imV; split<;>rfl
theorem Zit(f:xs≠[])(g:get b=if rows=[]then none else some (.cells k rows))(e:rows.length+xs.length≤1048576)(c:bytes≤1048576) :
 X5 id k bytes get (slV b rows) xs=some (.sl id 0 (rows.length+xs.length),dlV b id rows (.cells k (rows++xs))):=by
 have d:W6=1048576:=rfl;rw[← d]at e c;have i:0<xs.length:=by cases xs with|nil=>exact absurd rfl f|cons a r=>simp
 unfold slV dlV;by_cases h:rows=[]
 ·subst h;simp only[if_true,X5,if_neg f,List.length_nil,Nat.zero_add,List.nil_append];rw[if_pos ⟨by simpa using e,c⟩]
 ·rw[if_neg h,if_neg h];simp only[X5,g,if_neg h];rw[if_pos (by simp),if_neg (by omega),if_pos ⟨by omega,c⟩]
  simp
theorem Zm0(a:get b=if rows=[]then none else some (.cells k rows)):X5 id k bytes get (slV b rows) []=some (slV b rows,dlS b k rows):=by
 unfold slV dlS;by_cases h:rows=[]
 ·subst h; rfl
 ·rw[if_neg h,if_neg h];simp only[X5,a,if_neg h];rw[if_pos (by simp),if_pos (by simp)]
  simp
theorem Z2k{x:ABlk}(h:rows=[]→Z7 m.bl b=none):m.app (dlV b id rows x)=⟨(id,x) :: S3 m.bl b,m.next⟩:=by
 have key:∀ l:List (Nat×ABlk),Z7 l b=none→S3 l b=l:=by
  intro l
  induction l with
  | nil=>intro _; rfl
  | cons a r g=>
   obtain⟨d,y⟩:=a;intro c;simp only[Z7]at c;split at c
   ·cases c
   ·rename_i f;simp only[S3];rw[if_neg f,g c]
 unfold dlV;by_cases e:rows=[]
 ·rw[if_pos e,key _ (h e)]; rfl
 ·rw[if_neg e]; rfl
theorem Ze3:m.app (dlS b k rows)=⟨blV b k rows m.bl,m.next⟩:=by
 unfold dlS blV;split<;>rfl
theorem Z3s(a:get b=if rows=[]then none else some (.cells k rows))(hi:i<rows.length):idxZ get k (slV b rows) (some i)=some (.ptr b i 0,[]):=by
 have h:rows≠[]:=fun e=>by subst e; simp at hi
 unfold slV;rw[if_neg h,Za8,a,if_neg h];simp[hi]
theorem Ybc(a:get b=if rows=[]then none else some (.cells k rows)):I7 get k (slV b rows)=some rows:=by
 unfold slV;by_cases h:rows=[]
 ·subst h; rfl
 ·rw[if_neg h];simp[I7,C3,a,h]
theorem Yai(len:Nat):I7 get k (.sl b 0 len)=match get b with
 | some (.cells a els)=>if a=k∧len≤els.length then some (els.take len)else none
 | _=>if len=0 then some []else none:=by
 simp only[I7,C3,Nat.zero_add,List.drop_zero];rfl
theorem Z9c:I7 get k .nilSl=some []:=rfl
theorem Zpm:I7 get k (.imm rows)=if rows.all (·.length == k)then some rows else none:=rfl
theorem Zwb{S:List Nat}(a:Y8 b S=true)(c:get b=if rows=[]then none else some (.cells k rows))(d:∀ row,row∈rows → ∀ x,x∈row→X3 (D2 get S) 4 x=some x):fzV get S (slV b rows)=imV rows:=by
 unfold slV imV;by_cases h:rows=[]
 ·rw[if_pos h,if_pos h]; rfl
 ·rw[if_neg h,if_neg h]; exact Zuy a (by rw[c,if_neg h]) rfl d
end
end Go.AE
end
