/- Part 53 of the proof: Ex, Ey. -/
import Derived.Test.YtilmpmlkndfbjaaGreatDoorR25
import Derived.Test.YtilmpmlkndfbjaaGreatDoorR30
import Derived.Test.YtilmpmlkndfbjaaGreatDoorR33
import Derived.Test.YtilmpmlkndfbjaaGreatDoorR34
import Derived.Test.YtilmpmlkndfbjaaGreatDoorR36
import Derived.Test.YtilmpmlkndfbjaaGreatDoorR52
set_option linter.all false
section
namespace Go.Known
open Go Go.AE Go.Proofs
open Go.Plain
theorem Z8h(rows:List (List AVal)):Wk (imV rows) (.imm rows):=by
 unfold imV;split
 ·rename_i h; subst h; exact Ybu
 ·exact Wk.refl _
theorem cFew(F:Int)(G:List Int)(A B:List Ro):PCall Tryz.prog 7 [.agg [.int .i64 F,.imm (Z2 G),.imm (A.map roR),.imm (B.map roR)]] (.bool (decide (G.length≤60)&&decide (A.length≤60)&&decide (B.length≤60))):=by
 refine Za0 hm Tryz.func7 Z16 rfl rfl (by simp[X4,AVal.closed,L5,Zf0]) trivial fun K g=>?_
 have c:=Zap G;have a:(A.map roR).length=A.length:=List.length_map ..;have b:(B.map roR).length=B.length:=List.length_map ..;have e:∀ n:Nat,((n:Int)≤60)=(n≤60):=fun n=>propext ⟨fun h=>by omega,fun h=>by omega⟩
 generalize Z2 G=k at *;generalize A.map roR=AR at *;generalize B.map roR=BR at *;by_cases d:G.length≤60
 ·by_cases i:A.length≤60
  ·by_cases j:B.length≤60
   ·simp[d,i,j]at g;simp[W2,c,a,b,e,d,i,j];exact Z9 g [] (by simp)
   ·simp[d,i,j]at g;simp[W2,c,a,b,e,d,i,j];exact Z9 g [] (by simp)
  ·simp[d,i]at g;simp[W2,c,a,b,e,d,i];exact Z9 g [] (by simp)
 ·simp[d]at g;simp[W2,c,a,b,e,d];exact Z9 g [] (by simp)
theorem Z8e{m:Nat}{A B:List Ro}(h:(P6 m A B).1=true):(P6 m A B).2.2.length=W9 A+W9 B:=by
 obtain⟨c,a,b,g⟩:∃ c a b,W1 m false A (V2 m) [] []=(c,a,b):=⟨_,_,_,rfl⟩
 unfold P6 at h ⊢;rw[g]at h ⊢;cases c with
 | false=>simp at h
 | true=>
  simp only[if_true]at h ⊢;obtain⟨f,d,e,i⟩:∃ f d e,W1 m true B (U2 m) a b=(f,d,e):=⟨_,_,_,rfl⟩
  rw[i]at h ⊢;simp only at h;subst h;have j:=Zf5 A _ _ _ _ _ g;have k:=Zf5 B _ _ _ _ _ i;simp only[List.length_nil,Nat.zero_add]at j;simp only;omega
theorem Zzo(F:Int)(G:List Int)(A B:List Ro):(rdN F G A B).2.1.length≤1000:=by
 unfold rdN;split
 ·exact Nat.zero_le _
 ·split
  ·exact Nat.zero_le _
  ·rename_i d;split
   ·exact Nat.zero_le _
   ·split
    ·exact Nat.zero_le _
    ·rename_i a;split
     ·have c:=Z8e (m:=(G.map Int.toNat).sum) (A:=A) (B:=B) (by
       cases b:(P6 (G.map Int.toNat).sum A B).1 with
       | true=>rfl
       | false=>exact absurd (.inr b) a)
      show(X8 _).length≤1000;rw[Zfc];unfold Y0 arL;rw[List.length_map,List.length_map,List.length_range,c];omega
     ·exact Nat.zero_le _
set_option maxRecDepth 100000 in
set_option maxHeartbeats 16000000 in
theorem Z20(F:Int)(G:List Int)(A B:List Ro):PCall Tryz.prog 3 [.agg [.int .i64 F,.imm (Z2 G),.imm (A.map roR),.imm (B.map roR)]] (.bool true):=by
 refine Za0 hm Tryz.func3 Z7m rfl rfl (by simp[X4,AVal.closed,L5,Zf0]) trivial fun K k=>?_
 have b:=cFew F G A B;by_cases n:G.length≤60∧A.length≤60∧B.length≤60
 rotate_left
 ·have i:(decide (G.length≤60)&&decide (A.length≤60)&&decide (B.length≤60))=false:=by
   simp only[Bool.and_eq_false_iff,decide_eq_false_iff_not];omega
  rw[i]at b;generalize Z2 G=l at *;generalize A.map roR=AR at *;generalize B.map roR=BR at *;simp;refine J7 b ?_;simp;refine J7 Zsw ?_;simp;exact Z9 k [] (by simp)
 obtain⟨p,q,r⟩:=n;have i:(decide (G.length≤60)&&decide (A.length≤60)&&decide (B.length≤60))=true:=by simp[p,q,r]
 rw[i]at b;have g:=Z5n F G A B _ _ (.inl rfl) (.inl rfl) (by omega) (by omega) (by omega)
 have h:=Z2b F G A B _ _ (.inl rfl) (.inl rfl) (by omega) (by omega) (by omega)
 have d:=Zzo F G A B;unfold rdV at g h;obtain⟨f,ls,e,o⟩:∃ f ls e,rdN F G A B=(f,ls,e):=⟨_,_,_,rfl⟩
 rw[o]at g h d;simp only at g h d;have wk:Wk (.agg [.int .i64 f,imV (ls.map rowL)]) (cV f ls):=Z6k ⟨Wk.refl _,Z8h _,trivial⟩;have j:=(c12v f f ls ls d d).arg (args':=[.agg [.int .i64 f,imV (ls.map rowL)],.agg [.int .i64 f,imV (ls.map rowL)]]) ⟨wk,wk,trivial⟩;have m:(decide (f=f)&&decide (ls=ls))=true:=by simp
 rw[m]at j;have a:=Zlh (ls.map rowL);have c:=Zk9 (ls.map rowL);generalize imV (ls.map rowL)=s at *;generalize Z2 G=l at *;generalize A.map roR=AR at *;generalize B.map roR=BR at *;simp;refine J7 b ?_;simp[a,c];refine J7 g ?_;simp[a,c];refine J7 h ?_;simp[a,c];refine J7 j ?_;simp[a,c];refine J7 Zsw ?_;simp;exact Z9 k [] (by simp)
end Go.Known
end
section
namespace Go.Known
open Go Go.AE Go.Proofs
open Go.Plain
open Go.ChangeShapes Go.WideShapes Go.RowKit Go.Deep
variable {H:Type} {enc:TypeId×Value→H} {w:World} {base:Nat} {spare:Nat→Bool} {held:Bool}
def Zrg(x:Ro):List Value:=[.int .i64 x.1,.int .i64 x.2.1,.int .i64 x.2.2.1,.bool x.2.2.2]
set_option maxRecDepth 100000 in
theorem Z1f{n:Nat}{cs:List Value}{x:DataW H×List MemPlace}(h:DataW.trod enc Tryz.prog w base spare held n 58 cs=some x) :
 ∃ l:Ro,cs=Zrg l:=by
 obtain⟨G,m,_,_,r,e,f⟩:=DataW.trod_struct Tryz.underlying58 h;have u:Tryz.prog.cellsOf 58=4:=by kernel_rfl
 have q:Tryz.prog.cellsOf 3=1:=by kernel_rfl
 have s:Tryz.prog.cellsOf 4=1:=by kernel_rfl
 have v:Tryz.prog.cellsOf 56=1:=by kernel_rfl
 rw[u]at r
 match cs,r with
 | [a,b,c,d],_=>
  match G,e with
  | [x0,x1,x2,x3],_=>
   have i:DataW.trod enc Tryz.prog w base spare held m 56 (([a,b,c,d].drop 0).take (Tryz.prog.cellsOf 56))=some x0:=f 0 _ rfl;rw[v]at i;have j:DataW.trod enc Tryz.prog w base spare held m 3 (([a,b,c,d].drop 1).take (Tryz.prog.cellsOf 3))=some x1:=f 1 _ rfl;rw[q]at j;have o:DataW.trod enc Tryz.prog w base spare held m 3 (([a,b,c,d].drop 2).take (Tryz.prog.cellsOf 3))=some x2:=f 2 _ rfl;rw[q]at o
   have p:DataW.trod enc Tryz.prog w base spare held m 4 (([a,b,c,d].drop 3).take (Tryz.prog.cellsOf 4))=some x3:=f 3 _ rfl;rw[s]at p;obtain⟨n0,y,_,_⟩:=DataW.trod_int (t:=56) (k:=.i64) Tryz.underlying56 i;obtain⟨n1,z,_,_⟩:=DataW.trod_int (t:=3) (k:=.i64) Tryz.underlying3 j;obtain⟨n2,A,_,_⟩:=DataW.trod_int (t:=3) (k:=.i64) Tryz.underlying3 o;obtain⟨g,B,_⟩:=DataW.trod_bool (t:=4) Tryz.underlying4 p;have C:a=.int .i64 n0:=by simpa using y
   have D:b=.int .i64 n1:=by simpa using z
   have E:c=.int .i64 n2:=by simpa using A
   have F:d=.bool g:=by simpa using B
   subst C D E F;exact⟨(n0,n1,n2,g),rfl⟩
theorem Z91(Φ:Pers)(ρ:Rho)(l:Ro)(j:Nat)(x:AVal)(h:(roR l)[j]? = some x):∃ v,(Zrg l)[j]? = some v∧v.oneCell'=true∧R Φ ρ x v:=by
 match j,h with
 | 0,h=>cases h; exact⟨_,rfl,rfl,.int _ _⟩
 | 1,h=>cases h; exact⟨_,rfl,rfl,.int _ _⟩
 | 2,h=>cases h; exact⟨_,rfl,rfl,.int _ _⟩
 | 3,h=>cases h; exact⟨_,rfl,rfl,.bool _⟩
 | j+4,h=>cases h
theorem Zue{n:Nat}{v:Value}{x:DataW H×List MemPlace}(h:DataW.trod enc Tryz.prog w 0 (fun _=>true) held n 23 [v]=some x):∃ ls:List Ro,∀ ρ,R (allP w) ρ (.imm (ls.map roR)) v:=
 Zyf roR Zrg (k:=4) Tryz.underlying23 (by kernel_rfl) (by decide) (fun _=>rfl) (fun _=>rfl) Z91 (fun _ _ _ h=>Z1f h) h
theorem Z4m{n:Nat}{v:Value}{x:DataW H×List MemPlace}(h:DataW.trod enc Tryz.prog w 0 (fun _=>true) held n 22 [v]=some x):∃ ls:List Int,∀ ρ,R (allP w) ρ (.imm (Z2 ls)) v:=
 Zyf (fun i:Int=>[AVal.int .i64 i]) (fun i:Int=>[Value.int .i64 i]) (k:=1) Tryz.underlying22 (by kernel_rfl) (by decide) (fun _=>rfl) (fun _=>rfl)
  (fun Φ ρ l j x h=>by
    match j,h with
    | 0,h=>cases h; exact⟨_,rfl,rfl,.int _ _⟩
    | j+1,h=>simp at h)
  (fun m cs x h=>by
    obtain⟨n0,a,_,_⟩:=DataW.trod_int (t:=3) (k:=.i64) Tryz.underlying3 h;exact⟨n0,a⟩) h
set_option maxRecDepth 100000 in
theorem Z58{v:Value}{d:DataW H}{p:List MemPlace}{b:Nat}(e:Value.okWide Tryz.prog w .any b 25 v)(h:DataW.Trod enc Tryz.prog w 0 (fun _=>true) held 25 v d p):∃ (F:Int) (G:List Int) (A B:List Ro),∀ ρ,R (allP w) ρ (.agg [.int .i64 F,.imm (Z2 G),.imm (A.map roR),.imm (B.map roR)]) v:=by
 unfold Value.okWide at e;rw[Tryz.underlying25]at e;obtain⟨cs,rfl,q,_⟩:=e;obtain⟨fuel,h⟩:=h;have M:Tryz.prog.cellsOf 25=4:=by kernel_rfl
 have I:Tryz.prog.cellsOf 3=1:=by kernel_rfl
 have s:Tryz.prog.cellsOf 22=1:=by kernel_rfl
 have m:Tryz.prog.cellsOf 23=1:=by kernel_rfl
 rw[M]at q;obtain⟨P,n,_,_,X,o,r⟩:=DataW.trod_struct Tryz.underlying25 h;obtain⟨E⟩:=cs
 match E,q with
 | [f,g,j,l],_=>
  match P,o with
  | [Q,S,U,V],_=>
   have u:DataW.trod enc Tryz.prog w 0 (fun _=>true) held n 3 (([f,g,j,l].drop 0).take (Tryz.prog.cellsOf 3))=some Q:=r 0 _ rfl
   rw[I]at u;have y:DataW.trod enc Tryz.prog w 0 (fun _=>true) held n 22 (([f,g,j,l].drop 1).take (Tryz.prog.cellsOf 22))=some S:=r 1 _ rfl
   rw[s]at y;have z:DataW.trod enc Tryz.prog w 0 (fun _=>true) held n 23 (([f,g,j,l].drop 2).take (Tryz.prog.cellsOf 23))=some U:=r 2 _ rfl
   rw[m]at z;have C:DataW.trod enc Tryz.prog w 0 (fun _=>true) held n 23 (([f,g,j,l].drop 3).take (Tryz.prog.cellsOf 23))=some V:=r 3 _ rfl
   rw[m]at C;obtain⟨D,N,_,_⟩:=DataW.trod_int (t:=3) (k:=.i64) Tryz.underlying3 u;have O:f=.int .i64 D:=by simpa using N
   subst O;obtain⟨G,L⟩:=Z4m (v:=g) y;obtain⟨A,J⟩:=Zue (v:=j) z;obtain⟨B,K⟩:=Zue (v:=l) C;refine⟨D,G,A,B,fun ρ=>.agg _ _ rfl fun i x v a c=>?_⟩
   match i,a,c with
   | 0,a,c=>cases a; cases c; exact .int _ _
   | 1,a,c=>cases a; cases c; exact L ρ
   | 2,a,c=>cases a; cases c; exact J ρ
   | 3,a,c=>cases a; cases c; exact K ρ
   | i+4,a,c=>simp at a
theorem Zzy{v:Value}{F:Int}{G:List Int}{A B:List Ro}(m:∀ ρ,R (allP w) ρ (.agg [.int .i64 F,.imm (Z2 G),.imm (A.map roR),.imm (B.map roR)]) v):Calls Tryz.prog 3 #[v] w fun e w'=>e=.returned (.bool true)∧Below w.heap.size w w':=by
 have n:=Z20 F G A B ⟨fun _=>none,1⟩ []
 refine(n.2 ⟨w,fun _=>none,allP w⟩ (allP w) (fun _=>none) #[v] w ⟨⟨Below.refl _ _,fun B o d=>(by cases d)⟩,fun B c d=>Z6w d,fun b x a=>(by cases a),fun b b' x y l l' k=>(by cases k),fun b l j=>(by cases j),fun B c d=>.inl d⟩
  ⟨rfl,fun i x u a g=>?_⟩ (fun b j=>by simp at j)).mono fun e w' p=>?_
 ·match i,a,g with
  | 0,a,g=>cases a; cases g; exact m _
  | i+1,a,g=>simp at a
 ·obtain⟨u,r,t,s,ρ',rfl,_,_,q,h,_,rfl,_⟩:=p;refine⟨?_,q.base.below⟩;cases h;rfl
end Go.Known
end
