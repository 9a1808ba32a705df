/- Part 13 of the proof: AeNf, La, AeNg, AeNi. -/
import Derived.Test.YtilmpmlkndfbjaaGreatDoorK7
import Derived.Test.YtilmpmlkndfbjaaGreatDoorK11
import Derived.Test.YtilmpmlkndfbjaaGreatDoorK12
set_option linter.all false
section
namespace Go.AE
open Go.RowKit
variable {P:Program}
theorem Ih(hm:P.follows .mixedOrders=true){f:FuncId}{fn:Func}{af:Av}{args:List Aa}{m:Ac}{Post:Aa→Ac→Prop}(hf:P.funcs[f]? = some fn)(hc:Bt P fn=some af){nt:Nat}{rs:List (Nat×Option (Option Nat))}{bd:Aq}(hd:af=⟨nt,rs,bd⟩)(hl:Nat.ble args.length nt=true)
 (h:∀ K:Aa→Ac→Prop,(∀ r sm,Post r sm→K r sm)→CT P nt m.next bd (I6 nt rs (M4 m.next K)) (P3 0 args []) m):Cc P f args m Post:=
 by subst hd; exact tD hm hf hc hl (h Post fun _ _ h=>h)
theorem It(hm:P.follows .mixedOrders=true){f:FuncId}{fn:Func}{af:Av}{args:List Aa}{m:Ac}{v:Aa}{M:Ac}(hf:P.funcs[f]? = some fn)(hc:Bt P fn=some af){nt:Nat}{rs:List (Nat×Option (Option Nat))}{bd:Aq}(hd:af=⟨nt,rs,bd⟩)(hl:Nat.ble args.length nt=true)
 (h:∀ K:Aa→Ac→Prop,K v M→CT P nt m.next bd (I6 nt rs (M4 m.next K)) (P3 0 args []) m):Cc P f args m fun r sm=>r=v∧sm=M:=
 by subst hd; exact tD hm hf hc hl (h _ ⟨rfl,rfl⟩)
theorem Z6{n0:Nat}{K:Aa→Ac→Prop}{v0 v:Aa}{m0 m:Ac}(hK:K v0 m0)(l:List (Nat×Nat))(h:Bq n0 l [(0,v0)] m0 [(0,v)] m):M4 n0 K v m:=⟨v0,m0,l,h,hK⟩
theorem Lx(hm:P.follows .mixedOrders=true){f:FuncId}{fn:Func}{af:Av}{args:List Aa}{v:Aa}(hf:P.funcs[f]? = some fn)(hc:Bt P fn=some af){nt:Nat}{rs:List (Nat×Option (Option Nat))}{bd:Aq}(hd:af=⟨nt,rs,bd⟩)(hl:Nat.ble args.length nt=true)(hca:W9 args=true)
 (hv:match v with | .int _ _ | .bool _ | .str _=>True|_=>False)
 (h:∀ K:Aa→Ac→Prop,K v ⟨[],1⟩→CT P nt 1 bd (I6 nt rs (M4 1 K)) (P3 0 args []) ⟨[],1⟩):AS P f args v:=by
 refine MJ (k:=1) hca (by cases v<;>first|exact hv.elim|rfl) ((It (m:=⟨[],1⟩) (M:=⟨[],1⟩) hm hf hc hd hl h).mono fun r m' hr=>?_)
 obtain⟨rfl,rfl⟩:=hr;exact wA _ 0 _ hv
theorem vg(hm:P.follows .mixedOrders=true){f:FuncId}{fn:Func}{af:Av}{args:List Aa}{v:Aa}(k:Nat)(hf:P.funcs[f]? = some fn)(hc:Bt P fn=some af){nt:Nat}{rs:List (Nat×Option (Option Nat))}{bd:Aq}(hd:af=⟨nt,rs,bd⟩)(hl:Nat.ble args.length nt=true)(hca:W9 args=true)(Jd:v.closed=true)
 (h:∀ K:Aa→Ac→Prop,(∀ r sm,W3 sm.get k r=some v→K r sm)→CT P nt 1 bd (I6 nt rs (M4 1 K)) (P3 0 args []) ⟨[],1⟩):AS P f args v:=
 MJ (k:=k) hca Jd (Ih (m:=⟨[],1⟩) hm hf hc hd hl h)
end Go.AE
end
section
namespace Go.Ab
open Go Go.AE Go.Proofs
open Go.Plain
attribute [local simp] bN ZP cR Yx Zh Zb bU Zx HG HJ HC HK HL HF YT YS Q4 AI Env.get X6 P3 Ak Ac.at Ac.app Ac.get Y2 Aa.cells Aa.one F1 J4 C0 V9 P7 X4 S7 Ga FG F5 N6 Jk U5 Aj sU sD O0 FT.indep E4 Iz A0 EC Jg U9 T2 W2 Fq GC GB
def Ad(l:Lt):List Aa:=[.int .i64 l.k,.int .i64 l.g,.int .i64 l.r,.int .i64 l.i,.int .i64 l.s,.bool l.o]
abbrev cV(f:Int)(ls:List Lt):Aa:=.agg [.int .i64 f,.An (ls.map Ad)]
theorem R7:∀ (ls:List Lt),V3 (ls.map Ad)=true
 | []=>rfl
 | l :: r=>by simp only[List.map_cons,V3,R7 r,Bool.and_true]; rfl
theorem cG(f:Int)(ls:List Lt):(cV f ls).closed=true:=by
 simp only[Aa.closed,W9,R7,Bool.and_self]
theorem S8{x:Int}(h1 : -9223372036854775808≤x)(h2:x<9223372036854775808):IntKind.i64.wrap x=x:=by
 simp only[IntKind.wrap,IntKind.bits,IntKind.signed]
 first|omega|(simp; omega)
theorem X5(n:Int)(h:-9223372036854775808≤n∧n<9223372036854775808:=by omega):IntKind.i64.wrap n=n:=S8 h.1 h.2
theorem Y1(n m:Int)(h:-9223372036854775808≤n∧n<9223372036854775808∧n=m:=by omega):IntKind.i64.wrap n=m:=(S8 h.1 h.2.1).trans h.2.2
structure Rows (ls:List Lt) (rows:List (List Aa)):Prop where
 len:rows.length=ls.length
 row:∀ i,i<ls.length→rows[i]? = some (Ad (at' ls i))
theorem IA(ls:List Lt):Rows ls (ls.map Ad):=⟨by simp,fun i h=>by
 rw[gM,gE h,at',List.getD,gE h];rfl⟩
theorem VO{p:Lt→Bool}{ls:List Lt}{i:Nat}(h:i<ls.length):Z7 p (ls.take (i+1))=Z7 p (ls.take i)+(if p (at' ls i)then 1 else 0):=by
 rw[List.take_add_one,Ni,at',List.getD,gE h];simp[Z7,List.filter_cons];split<;>rfl
theorem Zl{p:Lt→Bool}{ls:List Lt}(i:Nat):Z7 p (ls.take i)≤i:=by
 have h1:Z7 p (ls.take i)≤(ls.take i).length:=Si;rw[lK]at h1;omega
theorem YR(a:Nat):Int.tmod (a:Int) 2=((a % 2:Nat):Int):=rfl
theorem xV(a b:Nat):Int.tmod (a:Int) (b:Int)=((a % b:Nat):Int):=rfl
theorem xU(a:Nat):Int.tdiv (a:Int) 2=((a / 2:Nat):Int):=rfl
def Q5(n i:Nat)(fw:Bool):Nat:=if fw then 2*i else 2*((i+n - 1) % n)+1
def Q9(ls:List Lt)(i:Nat):Nat→Nat→Nat
 | 0,_=>i
 | k+1,j=>if j != i&&Bv (at' ls j)&&(at' ls j).i == (at' ls i).i then j else Q9 ls i k (j+1)
abbrev Z0(l:List Nat):List (List Aa):=l.map fun(i:Nat)=>[Aa.int .i64 (i:Int)]
theorem Re:∀ (l:List Nat),V3 (Z0 l)=true
 | []=>rfl
 | x :: r=>by simp only[Z0,List.map_cons,V3]; exact Re r
theorem UJ(f:Int)(ls:List Lt)(h:ls.length≤1000):AS Tryz.prog 110 [cV f ls] (.int .i64 (Z7 Bv ls:Nat)):=by
 refine xA (by simp[W9,cG]) trivial (nV hm Tryz.func110 vH (Nat.le_of_ble_eq_true rfl) ?_)
 have hR:=IA ls;unfold cV;generalize ls.map Ad=rows at hR;have hlen:=hR.len;simp[GW,oR];refine kX (α:=Nat×Nat) (fun a=>[(9,.int .i64 a.1),(8,.int .i64 ls.length),(7,.An rows),(3,.int .i64 (Z7 Bv (ls.take a.1):Nat))]) (fun a=>⟨[],a.2⟩)
  (fun a=>ls.length - a.1) (fun a=>a.1≤ls.length) (0,8) (by simp[Z7,hlen]) (by simp) ?_
 rintro⟨i,q⟩ hi;have Cm:=Zl (p:=Bv) (ls:=ls) i;simp only at hi ⊢;by_cases hlt:i<ls.length
 ·have hrow:=hR.row i hlt;obtain⟨hil,hrow2⟩:=gS.1 hrow;have hc:=VO (p:=Bv) hlt;have hw1:=X5 ((i:Int)+1);have hw2:IntKind.i64.wrap ((Z7 Bv (ls.take i):Nat)+1:Int)=(Z7 Bv (ls.take i):Nat)+1:=S8 (by omega) (by omega)
  generalize at' ls i=l at hrow hrow2 hc;by_cases hk:l.k=2
  ·simp[Bv,hk]at hc;simp[hlen,hlt,hrow2,Ad,hk,hw1,hw2];exact⟨(i+1,q+100),by simp; omega,by simp; omega,by simp[hc]<;>omega⟩
  ·simp[Bv,hk]at hc;simp[hlen,hlt,hrow2,Ad,hk,hw1];exact⟨(i+1,q+100),by simp; omega,by simp; omega,by simp[hc]<;>omega⟩
 ·have he:i=ls.length:=by omega
  subst he;simp[]
theorem dW(f:Int)(ls:List Lt)(h:ls.length≤1000):AS Tryz.prog 173 [cV f ls] (.int .i64 (Z7 AT ls:Nat)):=by
 refine xA (by simp[W9,cG]) trivial (nV hm Tryz.func173 mK (Nat.le_of_ble_eq_true rfl) ?_)
 have hR:=IA ls;unfold cV;generalize ls.map Ad=rows at hR;have hlen:=hR.len;simp[GX,oR];refine kX (α:=Nat×Nat) (fun a=>[(9,.int .i64 a.1),(8,.int .i64 ls.length),(7,.An rows),(3,.int .i64 (Z7 AT (ls.take a.1):Nat))]) (fun a=>⟨[],a.2⟩)
  (fun a=>ls.length - a.1) (fun a=>a.1≤ls.length) (0,8) (by simp[Z7,hlen]) (by simp) ?_
 rintro⟨i,q⟩ hi;have Cm:=Zl (p:=AT) (ls:=ls) i;simp only at hi ⊢;by_cases hlt:i<ls.length
 ·have hrow:=hR.row i hlt;obtain⟨hil,hrow2⟩:=gS.1 hrow;have hc:=VO (p:=AT) hlt;have hw1:=X5 ((i:Int)+1);have hw2:IntKind.i64.wrap ((Z7 AT (ls.take i):Nat)+1:Int)=(Z7 AT (ls.take i):Nat)+1:=S8 (by omega) (by omega)
  generalize at' ls i=l at hrow hrow2 hc;by_cases hk:l.k=1
  ·simp[AT,hk]at hc;simp[hlen,hlt,hrow2,Ad,hk,hw1,hw2];exact⟨(i+1,q+100),by simp; omega,by simp; omega,by simp[hc]<;>omega⟩
  ·simp[AT,hk]at hc;simp[hlen,hlt,hrow2,Ad,hk,hw1];exact⟨(i+1,q+100),by simp; omega,by simp; omega,by simp[hc]<;>omega⟩
 ·have he:i=ls.length:=by omega
  subst he;simp[]
end Go.Ab
end
section
namespace Go.AE
open Go.RowKit
def wr{α:Type}(x:α):α:=x
theorem sV{α:Type}(x:α):wr x=x:=Eq.trans (Eq.refl x) (Eq.refl x)
@[congr] theorem Ydv{P : Program}{g : FuncId}{args args' : List Aa}{m : Ac}{w : Nat}{K : Aa → Ac → Prop}(h : wr args = args') : SC P g args m w K = SC P g args' m w K := by cases h; rfl
@[congr] theorem Ydc{P : Program}{g : FuncId}{args args' : List Aa}{n : Nat}{x : List Nat}{m : Ac}{K : Aa → Option Ag → Prop}(h : wr args = args') : DC P g args n x m K = DC P g args' n x m K := by cases h; rfl
end Go.AE
end
section
namespace Go.AE
open Go.RowKit
def AH(b:Nat)(rows:List (List Aa)):Aa:=if rows=[]then .Ai else .sl b 0 rows.length
def AF(b k:Nat)(rows:List (List Aa))(rest:List (Nat×Ag)):List (Nat×Ag):=if rows=[]then rest else (b,.cells k rows) :: rest
def Bx(rows:List (List Aa)):Aa:=if rows=[]then .Ai else .An rows
def Vd(b id:Nat)(rows:List (List Aa))(x:Ag):List (Nat×Option Ag):=if rows=[]then [(id,some x)]else [(b,none),(id,some x)]
def Rt(b k:Nat)(rows:List (List Aa)):List (Nat×Option Ag):=if rows=[]then []else [(b,some (.cells k rows))]
section
variable {b c id k bytes i n:Nat} {rows xs:List (List Aa)} {rest:List (Nat×Ag)} {get:Nat→Option Ag} {q:Nat→Nat} {m:Ac}
theorem T3:AH b []=.Ai:=rfl
theorem Z9h(x:List Aa):AH b (rows++[x])=.sl b 0 (rows.length+1):=by simp[AH]
theorem Y4(h:¬rows=[]):AH b rows=.sl b 0 rows.length:=by simp[AH,h]
theorem Z9(h:¬rows=[]):AF b k rows rest=(b,.cells k rows) :: rest:=by simp[AF,h]
theorem T0:AF b k [] rest=rest:=rfl
theorem x8(x:List Aa):AF b k (rows++[x]) rest=(b,.cells k (rows++[x])) :: rest:=by simp[AF]
theorem Hy:V9 (AH b rows)=some rows.length:=by
 unfold AH;split
 ·rename_i h; subst h; rfl
 ·rfl
theorem WT:(AH b rows).AA q=AH (q b) rows:=by unfold AH; split<;>rfl
theorem D2:(AH b rows).one=true:=by unfold AH; split<;>rfl
theorem bO(h:¬c=b):Y2 (AF b k rows rest) c=Y2 rest c:=by
 unfold AF;split
 ·rfl
 ·simp only[Y2]; rw[iN h]
theorem kW:Y2 (AF b k rows rest) b=if rows=[]then Y2 rest b else some (.cells k rows):=by
 unfold AF;split
 ·rfl
 ·simp only[Y2]; rw[iP trivial]
theorem rE(h:¬c=b):P0 (AF b k rows rest) c=AF b k rows (P0 rest c):=by
 unfold AF;split
 ·rfl
 ·simp only[P0]; rw[iN h]
theorem yV:P0 (AF b k rows rest) b=P0 rest b:=by
 unfold AF;split
 ·rfl
 ·simp only[P0]; rw[iP trivial]
theorem qy{t:List (Nat×Ag)}:L7 q (AF b k rows rest) t=AF (q b) k (Z3 q rows) (L7 q rest t):=by
 unfold AF;by_cases h:rows=[]
 ·subst h; simp[Z3]
 ·have:Z3 q rows≠[]:=fun e=>h (List.length_eq_zero_iff.1 (by rw[← Rc q,e]; rfl))
  rw[iN h,iN this];simp[L7,Ag.AA]
theorem Z6w{ks:List Nat}:Q8 ks (AF b k rows rest)=bif X3 b ks then Q8 ks rest else AF b k rows (Q8 ks rest):=by
 unfold AF;cases hm:X3 b ks with
 | true=>
  split
  ·rfl
  ·simp[Q8,hm]
 | false=>
  split
  ·rfl
  ·simp[Q8,hm]
theorem y4:N8 q (AF b k rows rest)=if rows=[]then N8 q rest else q b :: N8 q rest:=by
 unfold AF;split<;>rfl
theorem Zz7:BB q (AF b k rows rest) m=((rows≠[]→m.get (q b)=some (.cells k (Z3 q rows)) ∨ ∃ y,m.get (q b)=some y∧EM (.cells k (Z3 q rows)) y)∧BB q rest m):=by
 unfold AF;split
 ·rename_i h; simp[h]
 ·rename_i h; simp[h,BB,Ag.AA]
theorem y5{S:List Nat}:DX q S (AF b k rows rest) m=((rows≠[]→X3 (q b) S=false∧(m.get (q b)=some (.cells k (Z3 q rows)) ∨ ∃ k' els,m.get (q b)=some (.cells k' els)∧Ag.cells k (Z3 q rows)=.cells k' (FR m.get S els)))∧DX q S rest m):=by
 unfold AF;split
 ·rename_i h; simp[h]
 ·rename_i h; simp[h,DX,Ag.AA]
theorem Z6r:Df q c (AF b k rows rest)=((rows≠[]→q c=q b→c=b)∧Df q c rest):=by
 unfold AF;split
 ·rename_i h; simp[h]
 ·rename_i h; simp[h,Df]
theorem zX:Cz q (AF b k rows rest)=((rows≠[]→Df q b rest)∧Cz q rest):=by
 unfold AF;split
 ·rename_i h; simp[h]
 ·rename_i h; simp[h,Cz]
theorem Z3a(b i j:Nat):W2 (.ptr b i j)=[b]:=rfl
theorem Z2v(b i j:Nat):W2 (.sl b i j)=[b]:=rfl
theorem qm(b:Nat):W2 (.map b)=[b]:=rfl
theorem s7(l:List (List Aa)):W2 (.An l)=[]:=rfl
theorem Z6z(l:List (List Aa))(i j:Nat):W2 (.AW l i j)=[]:=rfl
theorem Z66:W2 .Ai=[]:=rfl
theorem Z6j(k:IntKind)(n:Int):W2 (.int k n)=[]:=rfl
theorem Z8p(l:List UInt8):W2 (.str l)=[]:=rfl
theorem Sz(hx:xs≠[])(hg:get b=if rows=[]then none else some (.cells k rows))(hr:rows.length+xs.length≤1048576)(hb:bytes≤1048576) :
 Z8 id k bytes get (AH b rows) xs=some (.sl id 0 (rows.length+xs.length),Vd b id rows (.cells k (rows++xs))):=by
 have hrm:W6=1048576:=rfl;rw[← hrm]at hr hb;have hxl:0<xs.length:=by cases xs with|nil=>exact absurd rfl hx|cons a r=>simp
 unfold AH Vd;by_cases h:rows=[]
 ·subst h;simp only[if_true,Z8,iN hx,List.length_nil,Nat.zero_add,List.nil_append];rw[iP ⟨by simpa using hr,hb⟩]
 ·rw[iN h,iN h];simp only[Z8,hg,iN h];rw[iP (by simp),iN (by omega),iP ⟨by omega,hb⟩]
  simp
theorem Wh(hg:get b=if rows=[]then none else some (.cells k rows)):Z8 id k bytes get (AH b rows) []=some (AH b rows,Rt b k rows):=by
 unfold AH Rt;by_cases h:rows=[]
 ·subst h; rfl
 ·rw[iN h,iN h];simp only[Z8,hg,iN h];rw[iP (by simp),iP (by simp)]
  simp
theorem Z58{x:Ag}(h:rows=[]→Y2 m.bl b=none):m.app (Vd b id rows x)=⟨(id,x) :: P0 m.bl b,m.next⟩:=by
 have key:∀ l:List (Nat×Ag),Y2 l b=none→P0 l b=l:=by
  intro l
  induction l with
  | nil=>intro _; rfl
  | cons a r ih=>
   obtain⟨d,y⟩:=a;intro hl;simp only[Y2]at hl;split at hl
   ·cases hl
   ·rename_i hd;simp only[P0];rw[iN hd,ih hl]
 unfold Vd;by_cases h0:rows=[]
 ·rw[iP h0,key _ (h h0)]; rfl
 ·rw[iN h0]; rfl
theorem LG:m.app (Rt b k rows)=⟨AF b k rows m.bl,m.next⟩:=by
 unfold Rt AF;split<;>rfl
theorem Z3f(hg:get b=if rows=[]then none else some (.cells k rows)):T7 get k (AH b rows)=some rows:=by
 unfold AH;by_cases h:rows=[]
 ·subst h; rfl
 ·rw[iN h];simp[T7,Q3,hg,h]
theorem zG(len:Nat):T7 get k (.sl b 0 len)=match get b with
 | some (.cells k' els)=>if k'=k∧len≤els.length then some (els.take len)else none
 | _=>if len=0 then some []else none:=by
 simp only[T7,Q3,Nat.zero_add,List.drop_zero];rfl
theorem zh:T7 get k .Ai=some []:=rfl
theorem ZF:T7 get k (.An rows)=if rows.all (·.length == k)then some rows else none:=rfl
theorem Z50{S:List Nat}(hb:X3 b S=true)(hg:get b=if rows=[]then none else some (.cells k rows))(hs:∀ row,row∈rows → ∀ x,x∈row→W3 (E3 get S) 4 x=some x):EG get S (AH b rows)=Bx rows:=by
 unfold AH Bx;by_cases h:rows=[]
 ·rw[iP h,iP h]; rfl
 ·rw[iN h,iN h]; exact uF hb (by rw[hg,iN h]) rfl hs
end
end Go.AE
end
