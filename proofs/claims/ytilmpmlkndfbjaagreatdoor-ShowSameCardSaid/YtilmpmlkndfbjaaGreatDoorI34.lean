/- Part 34 of the proof: Si, Yb. -/
import Derived.Test.YtilmpmlkndfbjaaGreatDoorI33
set_option linter.all false
section
namespace Go.Known
open Go Go.AE Go.Proofs
open Go.Plain
def lsV:Option (List Lt)→AVal
 | none=>.nilSl
 | some w=>.imm (w.map rowL)
theorem Znf(q:Nat→Nat):∀ z,(lsV z).ren q=lsV z
 | none=>rfl
 | some w=>by simp only[lsV,AVal.ren]; rw[X1 q _ (Y5 w)]
theorem Yg9:∀ z,(lsV z).cells=some [lsV z]
 | none=>rfl
 | some _=>rfl
theorem Z87:∀ z,AVal.one (lsV z)=true
 | none=>rfl
 | some _=>rfl
def Ze6(ls:List Lt):Nat→List Lt
 | 0=>ls
 | _=>T5 ls
def Zgi(ls:List Lt):Nat→Option (List Lt)
 | 0=>none
 | 1=>H1 ls none ls.length
 | _=>A1 ls
theorem Zw6(ls:List Lt):∀ i,(Ze6 ls i).length=ls.length
 | 0=>rfl
 | _+1=>Zfq ls
theorem Z76(ls:List Lt){i:Nat}(h:i<2):Zgi ls (i+1)=H1 (Ze6 ls i) (Zgi ls i) ls.length:=by
 rcases (show i=0∨i=1 by omega)with rfl|rfl<;>rfl
theorem Ybv(ls:List Lt){i:Nat}(h:i<2):∀ w,Zgi ls i=some w→w.length=ls.length:=by
 rcases (show i=0∨i=1 by omega)with rfl|rfl
 ·intro w a; cases a
 ·exact fun w a=>Zkc rfl (fun w h=>by cases h) _ w a
theorem Z47{R:List (List AVal)}(h:R≠[]):X7 .eql .slice (.imm R) .nilSl=some (.bool false):=by
 have:R.isEmpty=false:=by cases R with
  | nil=>exact absurd rfl h
  | cons=>rfl
 simp[X7,eqA,Zbk,J9,this]
theorem Yda:X7 .eql .slice .nilSl .nilSl=some (.bool true):=rfl
set_option maxRecDepth 100000 in
set_option maxHeartbeats 16000000 in
theorem c109(F:Nat)(ls:List Lt)(E:List Ent)(h:ls.length≤1000)(hx:∃ i,i<ls.length∧bkC ls i=true)(hf:isP (at' ls 0)=true) :
 Ctr Tryz.prog 72 [.ptr 1 0 0] (dF F ls (ls.map rowL) E) fun v m=>v=.agg [.int .i64 F,lsV (A1 ls)]∧m=⟨(dF F ls (ls.map rowL) E).bl,7⟩:=by
 refine E7 hm Tryz.func72 Zpc rfl rfl fun K hK=>?_
 have au:=hK _ _ ⟨rfl,rfl⟩;clear hK;have bh:0<ls.length:=by obtain⟨i,hi,_⟩:=hx; omega
 have aa:=Z26 F ls E h hx;have y:∀ q,Z4 q (ls.map rowL)=ls.map rowL:=fun q=>X1 q _ (Y5 ls)
 have M:∀ q,Z4 q ((T5 ls).map rowL)=(T5 ls).map rowL:=fun q=>X1 q _ (Y5 _)
 have a6:∀ i q,Z4 q ((Ze6 ls i).map rowL)=(Ze6 ls i).map rowL:=fun i q=>X1 q _ (Y5 _)
 have a8:∀ i,((Ze6 ls i).map rowL).length=ls.length:=fun i=>by rw[List.length_map,Zw6]
 obtain⟨O,G⟩:∃ O:List (List AVal),O=[[.imm (ls.map rowL)],[.imm ((T5 ls).map rowL)]]:=⟨_,rfl⟩
 have ar:O.length=2:=by rw[G]; rfl
 have aq:∀ i,i<2→O[i]? = some [.imm ((Ze6 ls i).map rowL)]:=fun i hi=>by
  rw[G];rcases (show i=0∨i=1 by omega)with rfl|rfl<;>rfl
 have o:∀ q,Z4 q O=O:=fun q=>by
  rw[G];simp only[Z4,Q4,AVal.ren,y,M]
 unfold dF dM dV2 at *;generalize ac:bls (X8 ls.length ls.length (V6 ls) false)=B at *;generalize ad:Z2 (X8 ls.length ls.length (R6 ls) 0)=C at *;generalize ab:Z2 (Z1 ls)=A at *;have c:∀ q,Z4 q A=A:=fun q=>by rw[← ab]; exact Z6 q _
 have d:∀ q,Z4 q B=B:=fun q=>by rw[← ac]; exact W3 q _
 have g:∀ q,Z4 q C=C:=fun q=>by rw[← ad]; exact Z6 q _
 clear ac ad ab;generalize (Z1 ls).length=m at *;have a3:lsV (Zgi ls 0)=.nilSl:=rfl;have a4:lsV (Zgi ls 2)=lsV (A1 ls):=rfl;simp;refine Zfc aa (by simp) [(1,1),(2,2),(3,3),(4,4),(5,5),(6,6)] (by simp) (by simp[EqRB,y,c,d,g,Z8,Z6]) (by simp) (fun s=>by simp[M]) (by simp) ?_
 simp[y,c,d,g,Z8,Z6,M,FT.indep];refine Q7 (α:=Nat) (fun i=>[(19,.int .i64 i),(18,.int .i64 2),(17,.sl 8 0 2),(3,lsV (Zgi ls i)),(2,.ptr 7 0 0),(0,.ptr 1 0 0)])
  (fun i=>⟨[(1,.cells 7 [[.int .i64 (F:Int),.imm (ls.map rowL),.sl 3 0 ls.length,.sl 5 0 m,.sl 4 0 ls.length,.map 6,.sl 2 0 (F+1)]]),(2,.cells 1 (Z2 (R5 F ls))),(3,.cells 1 B),(4,.cells 1 C),(5,.cells 1 A),(6,.map (mkE 0 E) E.length),(7,.cells 2 [[.int .i64 0,.nilSl]]),(8,.cells 1 O)],9⟩)
  (fun i=>2 - i) (fun i=>i≤2) 0 [(8,16)] (by rw[G]; simp[y,M,c,d,g,Z8,Z6,a3,AVal.ren]) (by simp) ?_
 intro i hi N hN
 try simp only at hi hN ⊢
 by_cases J:i<2
 ·have hb:=aq i J;obtain⟨bf,av⟩:=X5 hb;have hw:IntKind.i64.wrap ((i:Int)+1)=(i:Int)+1:=Z5 (by omega) (by omega)
  have ah:=Z76 ls J;have ag:=Ybv ls J;have ae:=hN (i+1);rw[ah]at ae;have I:=Zw6 ls i;have r:=a8 i;have t:=a6 i;have a0:=fun j hj=>C0 (Ze6 ls i) (i:=j) hj
  have ao:=fun j hj=>c56g (Ze6 ls i) j hj (by rw[I]; exact h)
  generalize Zgi ls i=X at *;generalize Ze6 ls i=L at *;clear hN G;have ai:(i:Int)<2:=by omega
  simp[J,ai,hb,av,ar,r];have P:=fun j=>c140 (W6 j L) (by
   intro e;have:=congrArg List.length e;rw[D1,I,List.length_nil]at this;omega) (by rw[D1]; omega)
  have an:down L 0=true:=rfl;have U:∀ j,P1 (W6 j L)=Q0 L j:=fun _=>rfl
  simp only[U]at P;have aw:∀ j,(Q0 L j).length=ls.length:=fun j=>by rw[Znp,I]
  have a5:=fun j=>Zkc I ag j
  have am:lsV (H1 L X 0)=lsV X:=rfl;have be:=fun j q=>Znf q (H1 L X j)
  have az:∀ j,j<ls.length→down L (j+1)=if isP (at' L j)then !down L j else down L j:=fun j hj=>Zo8 (by omega)
  have ax:∀ j q,Z4 q ((Q0 L j).map rowL)=(Q0 L j).map rowL:=fun j q=>X1 q _ (Y5 _)
  have b:=fun q=>y q
  generalize ls.map rowL=rows at *;generalize L.map rowL=LR at *;refine Q7 (α:=Nat) (fun j=>[(25,.int .i64 j),(24,.int .i64 ls.length),(23,.imm LR),(6,.bool (down L j)),(5,.imm LR),(19,.int .i64 i),(18,.int .i64 2),(17,.sl 8 0 2),(3,lsV (H1 L X j)),(2,.ptr 7 0 0),(0,.ptr 1 0 0)])
   (fun _=>⟨[(1,.cells 7 [[.int .i64 (F:Int),.imm rows,.sl 3 0 ls.length,.sl 5 0 m,.sl 4 0 ls.length,.map 6,.sl 2 0 (F+1)]]),(2,.cells 1 (Z2 (R5 F ls))),(3,.cells 1 B),(4,.cells 1 C),(5,.cells 1 A),(6,.map (mkE 0 E) E.length),(7,.cells 2 [[.int .i64 0,.nilSl]]),(8,.cells 1 O)],9⟩)
   (fun j=>ls.length - j) (fun j=>j≤ls.length) 0 [] (by simp[b,c,d,g,Z8,Z6,o,t,an,am,Znf]) (by simp) ?_
  intro j hj N2 af
  try simp only at hj af ⊢
  by_cases u:j<ls.length
  ·have Y:=a0 j (by omega)
   obtain⟨bg,H⟩:=X5 Y;have l:IntKind.i64.wrap ((j:Int)+1)=(j:Int)+1:=Z5 (by omega) (by omega)
   have ay:=az j u;have a:=af (j+1) [];have a9:H1 L X (j+1)=Zd6 L j (H1 L X j):=rfl;rw[a9,ay]at a;have al:=a5 j;have S:=be j;generalize H1 L X j=z at *;unfold Zd6 at a;by_cases V:(at' L j).k=1
   ·have hP:isP (at' L j)=true:=by simp[isP,V]
    rw[hP]at a;cases hd:down L j with
    | false=>
     rw[hd]at a;simp[u,Y,H,r,rowL,V,l];simp only[Bool.true_and,bF,if_false,if_true,Bool.not_false]at a;exact a _ _ (by omega) (by omega) (by simp[b,c,d,g,Z8,Z6,o,t,S])
    | true=>
     rw[hd]at a;have D:=ao j (by omega)
     have n:=P j;have Q:=ax j;cases z with
     | none=>
      simp only[Bool.and_self,if_true,lsV,Bool.not_true]at a;generalize (Q0 L j).map rowL=C1 at *;simp[u,Y,H,r,rowL,V,l,lsV];refine U1 D ?_;simp;refine U1 n ?_;simp[Yda,l];exact a _ _ (by omega) (by omega) (by simp[b,c,d,g,Z8,Z6,o,t,Q])
     | some w=>
      have ba:w.length=ls.length:=al w rfl;have p:=c141 (Q0 L j) w (by rw[aw,ba]; exact Nat.le_refl _) (by omega)
      have bb:∀ q,Z4 q (w.map rowL)=w.map rowL:=fun q=>X1 q _ (Y5 w)
      have ak:=Z47 (R:=w.map rowL) (by
       intro e;have:=congrArg List.length e;rw[List.length_map,List.length_nil]at this;omega)
      simp only[Bool.and_self,if_true,Bool.not_true]at a;cases aj:H5 (Q0 L j) w with
      | true=>
       rw[aj]at a p;simp only[if_true,lsV]at a;generalize (Q0 L j).map rowL=C1 at *;rw[show lsV (some w)=.imm (w.map rowL) from rfl]
       generalize w.map rowL=W at *;simp[u,Y,H,r,rowL,V,l,lsV];refine U1 D ?_;simp;refine U1 n ?_;simp[ak];refine U1 p ?_;simp[l];exact a _ _ (by omega) (by omega) (by simp[b,c,d,g,Z8,Z6,o,t,Q])
      | false=>
       rw[aj]at a p;simp only[bF,if_false,lsV]at a;generalize (Q0 L j).map rowL=C1 at *;rw[show lsV (some w)=.imm (w.map rowL) from rfl]
       generalize w.map rowL=W at *;simp[u,Y,H,r,rowL,V,l,lsV];refine U1 D ?_;simp;refine U1 n ?_;simp[ak];refine U1 p ?_;simp[l];exact a _ _ (by omega) (by omega) (by simp[b,c,d,g,Z8,Z6,o,t,bb])
   ·have hP:isP (at' L j)=false:=by simp[isP,V]
    rw[hP]at a;simp only[Bool.false_and,bF,if_false]at a;simp[u,Y,H,r,rowL,V,l];exact a _ _ (by omega) (by omega) (by simp[b,c,d,g,Z8,Z6,o,t,S])
  ·have a2:j=ls.length:=by omega
   rw[a2];simp[hw];exact ae [] _ _ (by omega) (by omega) (by simp[b,c,d,g,Z8,Z6,o,Znf])
 ·have a1:i=2:=by omega
  subst a1;rw[a4];have a7:=fun q=>Znf q (A1 ls)
  have bc:=Yg9 (A1 ls);have bd:=Z87 (A1 ls);generalize lsV (A1 ls)=Z at *;simp[bc,bd];exact Y1 au [] (by simp[y,c,d,g,Z8,Z6,a7])
end Go.Known
end
section
namespace Go.Known
open Go.Plain
theorem D7{n u:Nat}(a:u<n)(fw:Bool):bkN (Y0 n u fw)=arr n u (!fw):=by
 unfold bkN Y0 arr;cases fw
 ·simp only[bF,if_false,Bool.not_false,if_true];rw[if_neg (by omega)]
  omega
 ·simp only[if_true,Bool.not_true,bF,if_false];rw[if_pos (by omega)]
theorem Zmc{n u:Nat}(b:Bool):bkN (arr n u b)=Y0 n u (!b):=by
 unfold bkN Y0 arr;cases b
 ·simp only[bF,if_false,Bool.not_false,if_true];rw[if_neg (by omega)]
  omega
 ·simp only[if_true,Bool.not_true,bF,if_false];rw[if_pos (by omega)]
theorem Q1(d:Nat):bkN (bkN d)=d:=by
 unfold bkN;split
 ·rw[if_neg (by omega)]; omega
 ·rw[if_pos (by omega)]; omega
theorem Zan{n d:Nat}(h:d<2*n):bkN d<2*n:=by unfold bkN; split<;>omega
section
variable {ls:List Lt}
def smN(ls:List Lt)(v:Nat):Bool:=((at' ls v).o == ((at' ls v).s == 1))
abbrev otN(ls:List Lt)(v:Nat):Nat:=X9 ls v ls.length 0
theorem Ze7{v:Nat}(c:v<ls.length)(a:(at' ls v).k=2)(b:Bool):tnN ls (arr ls.length v b)=Y0 ls.length (otN ls v) (b == smN ls v):=by
 unfold tnN;rw[Zbm c,if_pos a];rfl
theorem N9{v:Nat}(a:v<ls.length)(b:Bool):ldN ls (arr ls.length v b)=at' ls v:=by
 unfold ldN;rw[(Zau a b).2.1]
def Z7(ls:List Lt)(d:Nat):Nat:=bkN (tnN ls d)
theorem Zez(e:Wv ls){v:Nat}(c:v<ls.length)(a:(at' ls v).k=2)(b:Bool):Z7 ls (arr ls.length v b)=arr ls.length (otN ls v) (b != smN ls v):=by
 have d:=e.oth v c a;unfold Z7;rw[Ze7 c a,D7 d.1];rfl
theorem Zod(e:Wv ls){v:Nat}(d:v<ls.length)(c:(at' ls v).k=2):smN ls (otN ls v) = !smN ls v:=by
 obtain⟨f,g,h,a,b⟩:=e.oth v d c;unfold smN otN;rw[a,b];cases (at' ls v).o<;>cases ((at' ls v).s == 1)<;>rfl
theorem rot2(a:Wv ls){v:Nat}(d:v<ls.length)(c:(at' ls v).k=2)(b:Bool):Z7 ls (Z7 ls (arr ls.length v b))=arr ls.length v (!b):=by
 obtain⟨e,f,g,h,i⟩:=a.oth v d c;rw[Zez a d c,Zez a e f,Zod a d c];have:otN ls (otN ls v)=v:=g;rw[this]
 congr 1
 cases b<;>cases smN ls v<;>rfl
theorem rot4(e:Wv ls){d:Nat}(f:d<2*ls.length)(a:(ldN ls d).k=2):Z7 ls (Z7 ls (Z7 ls (Z7 ls d)))=d:=by
 obtain⟨v,b,c,rfl⟩:=N8 f;rw[N9 c]at a;rw[rot2 e c a,rot2 e c a,Bool.not_not]
theorem Zhy(g:Wv ls){d:Nat}(i:d<2*ls.length)(a:(ldN ls d).k=2):tnN ls d<2*ls.length∧Z7 ls d<2*ls.length∧(ldN ls (Z7 ls d)).k=2:=by
 obtain⟨v,b,c,rfl⟩:=N8 i;rw[N9 c]at a;obtain⟨e,h,j,l,m⟩:=g.oth v c a;have f:tnN ls (arr ls.length v b)<2*ls.length:=by rw[Ze7 c a]; exact F9 e
 refine⟨f,Zan f,?_⟩;rw[Zez g c a,N9 e];exact h
theorem Za5{n v c:Nat}{b b':Bool}(i:v<n)(a:c<n)(h:arr n v b=arr n c b'):v=c∧b=b':=by
 obtain⟨_,d,e⟩:=Zau i b;obtain⟨_,f,g⟩:=Zau a b';rw[h]at d e;exact⟨d.symm.trans f,e.symm.trans g⟩
structure Frt (ls:List Lt) (front:List Nat) (done:List Int):Prop where
 nd:front.Nodup
 lt:∀ d,d∈front→d<2*ls.length
 tl:∀ d,d∈front→(ldN ls (bkN d)).k=2→(ldN ls (bkN d)).i∈done
theorem Zyq(e:Wv ls){d:Nat}(f:d<2*ls.length)(a:(ldN ls d).k=2)(hi:∀ v,v<ls.length→(at' ls v).k=2→(at' ls (X9 ls v ls.length 0)).i=(at' ls v).i):(ldN ls (bkN (tnN ls d))).i=(ldN ls d).i:=by
 obtain⟨v,b,c,rfl⟩:=N8 f;rw[N9 c]at a ⊢;have:=Zez e c a b;unfold Z7 at this;rw[this,N9 (e.oth v c a).1];exact hi v c a
theorem Zeo{l:List Nat}{i:Nat}(h:i<l.length):l.getD i 0∈l:=by
 rw[List.getD,gE h];exact List.getElem_mem _
theorem Yfk(s:Wv ls){front:List Nat}{done:List Int}(f:Frt ls front done)(id:Int)(i:Nat):H2 ls id front (i+1)≤3:=by
 have step:∀ j,okF ls id front j=true→j<front.length→(ldN ls (front.getD j 0)).k=2∧Z7 ls (front.getD j 0)=front.getD (j - 1) 0:=fun j h u=>by
  simp only[okF,bA,decide_eq_true_eq]at h;refine⟨h.1.1,?_⟩;unfold Z7;rw[h.2,Q1]
 by_cases b:i+1<front.length∧okF ls id front (i+1)=true
 ·rw[Zgb b.1 b.2];by_cases c:i+2<front.length∧okF ls id front (i+2)=true
  ·rw[Zgb c.1 c.2];by_cases d:i+3<front.length∧okF ls id front (i+3)=true
   ·rw[Zgb d.1 d.2];by_cases a:i+4<front.length∧okF ls id front (i+4)=true
    ·exfalso;have g:=(step _ b.2 b.1).2;have l:=(step _ c.2 c.1).2;have m:=(step _ d.2 d.1).2;obtain⟨t,n⟩:=step _ a.2 a.1;have o:i+1 - 1=i:=rfl;have p:i+2 - 1=i+1:=rfl;have q:i+3 - 1=i+2:=rfl;have r:i+4 - 1=i+3:=rfl;rw[o]at g;rw[p]at l;rw[q]at m;rw[r]at n;have:=rot4 s (f.lt _ (Zeo a.1)) t;rw[n,m,l,g]at this;have e:=List.pairwise_iff_getElem.1 f.nd i (i+4) (by omega) a.1 (by omega)
     apply e;rw[List.getD,List.getD,gE (show i<front.length by omega),gE a.1]at this
     simpa using this
    ·rw[Zap a]; omega
   ·rw[Zap d]; omega
  ·rw[Zap c]; omega
 ·rw[Zap b]; omega
theorem Ybb(c:Wv ls)(hi:∀ v,v<ls.length→(at' ls v).k=2→(at' ls (X9 ls v ls.length 0)).i=(at' ls v).i):∀ k x,x<2*ls.length→(ldN ls x).k=2 → ∀ d,d∈U0 ls x k→d<2*ls.length∧(ldN ls (bkN d)).k=2∧(ldN ls (bkN d)).i=(ldN ls x).i:=by
 intro k
 induction k with
 | zero=>intro x _ _ d a; simp[U0]at a
 | succ k h=>
  intro x e b d a;obtain⟨n,t2,f⟩:=Zhy c e b;have g:=Zyq c e b hi;rcases List.mem_cons.1 a with rfl|a
  ·exact⟨n,f,g⟩
  ·obtain⟨j,l,m⟩:=h _ t2 f d a;exact⟨j,l,m.trans g⟩
theorem Yfv(i:Wv ls)(u:∀ v,v<ls.length→(at' ls v).k=2→X9 ls v ls.length 0≠v){x:Nat}(z:x<2*ls.length)(d:(ldN ls x).k=2){k:Nat}(h:k≤3):(U0 ls x k).Nodup:=by
 have A:∀ a b,bkN a=bkN b→a=b:=fun a b e=>by rw[← Q1 a,e,Q1]
 have f:(U0 ls x 3).Nodup:=by
  obtain⟨v,b,c,rfl⟩:=N8 z;rw[N9 c]at d;obtain⟨g,B,C,D,E⟩:=i.oth v c d;have r:=Zez i c d b;have p:=rot2 i c d b;have s:Z7 ls (Z7 ls (Z7 ls (arr ls.length v b)))=arr ls.length (otN ls v) ((!b) != smN ls v):=by rw[p,Zez i c d]
  have q:otN ls v≠v:=u v c d;have e:U0 ls (arr ls.length v b) 3=[tnN ls (arr ls.length v b),tnN ls (Z7 ls (arr ls.length v b)),tnN ls (Z7 ls (Z7 ls (arr ls.length v b)))]:=rfl;have m:tnN ls (arr ls.length v b)≠tnN ls (Z7 ls (arr ls.length v b)):=fun e=>by
   have:Z7 ls (arr ls.length v b)=Z7 ls (Z7 ls (arr ls.length v b)):=by unfold Z7 at e ⊢; rw[← e]
   rw[p,r]at this;exact q (Za5 g c this).1
  have n:tnN ls (arr ls.length v b)≠tnN ls (Z7 ls (Z7 ls (arr ls.length v b))):=fun e=>by
   have:Z7 ls (arr ls.length v b)=Z7 ls (Z7 ls (Z7 ls (arr ls.length v b))):=by unfold Z7 at e ⊢; rw[← e]
   rw[s,r]at this;have:=(Za5 g g this).2
   revert this
   cases b<;>cases smN ls v<;>simp
  have o:tnN ls (Z7 ls (arr ls.length v b))≠tnN ls (Z7 ls (Z7 ls (arr ls.length v b))):=fun e=>by
   have:Z7 ls (Z7 ls (arr ls.length v b))=Z7 ls (Z7 ls (Z7 ls (arr ls.length v b))):=by unfold Z7 at e ⊢; rw[← e]
   rw[s,p]at this;exact q (Za5 c g this).1.symm
  rw[e];simp[m,n,o]
 have w:List.Sublist (U0 ls x k) (U0 ls x 3):=by
  have e:∀ k y,List.Sublist (U0 ls y k) (U0 ls y (k+1)):=by
   intro k
   induction k with
   | zero=>intro y; exact List.nil_sublist _
   | succ k l=>intro y; exact(l _).cons_cons _
  have:∀ j,k+j=3→List.Sublist (U0 ls x k) (U0 ls x 3):=by
   intro j
   induction j generalizing k with
   | zero=>intro t; rw[show k=3 by omega]; exact List.Sublist.refl _
   | succ j l=>intro t; exact(e k x).trans (l (by omega) (by omega))
  exact this (3 - k) (by omega)
 exact List.Nodup.sublist w f
theorem Frt.step(D:Wv ls)(hi:∀ v,v<ls.length→(at' ls v).k=2→X9 ls v ls.length 0≠v∧(at' ls (X9 ls v ls.length 0)).i=(at' ls v).i){front f:List Nat}{done dn:List Int}{r:Rw}(o:Frt ls front done)(F:front≠[])(h:S2 4 ls front done=some (r,f,dn)):Frt ls f dn:=by
 have C:0<front.length:=List.length_pos_iff.2 F;unfold S2 at h;split at h
 ·rename_i M;simp only[oI,pI2]at h;obtain⟨_,rfl,rfl⟩:=h;have A:List.Sublist (front.take (P0 front)++front.drop (P0 front+2)) front:=by
   have q:List.Sublist (front.drop (P0 front+2)) (front.drop (P0 front)):=by
    rw[← List.drop_drop];exact List.drop_sublist _ _
   have u:=List.Sublist.append (List.Sublist.refl (front.take (P0 front))) q;rwa[List.take_append_drop]at u
  exact⟨List.Nodup.sublist A o.nd,fun d b=>o.lt d (A.subset b),fun d b=>o.tl d (A.subset b)⟩
 ·split at h
  ·cases h
  ·rename_i H;simp only[oI,pI2]at h;obtain⟨_,rfl,rfl⟩:=h;rcases Zfw (U5 4 ls done front) front.length with⟨q,_,_⟩|⟨q,u,G⟩
   ·exact absurd q H
   ·obtain⟨E,J,N⟩:=Zh1 (c:=4) (ls:=ls) (done:=done) (front:=front) (i:=(X3 (U5 4 ls done front) front.length).1) (by rw[G]; exact q)
    generalize (X3 (U5 4 ls done front) front.length).1=a at *;generalize (X3 (U5 4 ls done front) front.length).2=n at *;have hm:=o.lt _ (Zeo u);have m:=Ybb D (fun v B t=>(hi v B t).2) (4 - n) _ hm E
    have z:=Yfv D (fun v B t=>(hi v B t).1) hm E (k:=4 - n) (by omega)
    have l:∀ d,d∈front.take a→d∈front:=fun d b=>List.mem_of_mem_take b
    have j:∀ d,d∈front.drop (a+n)→d∈front:=fun d b=>List.mem_of_mem_drop b
    have p:∀ d,d∈front→d∉U0 ls (front.getD a 0) (4 - n):=fun d b I=>by
     obtain⟨_,K,L⟩:=m d I;have:=o.tl d b K;rw[L]at this;exact J this
    have g:(front.take a++front.drop (a+n)).Nodup:=by
     refine List.Nodup.sublist ?_ o.nd;have q:List.Sublist (front.drop (a+n)) (front.drop a):=by
      rw[← List.drop_drop];exact List.drop_sublist _ _
     have u:=List.Sublist.append (List.Sublist.refl (front.take a)) q;rwa[List.take_append_drop]at u
    rw[List.nodup_append]at g;refine⟨?_,fun d b=>?_,fun d b t=>?_⟩
    ·rw[List.append_assoc,List.nodup_append];refine⟨g.1,?_,fun x w y s=>?_⟩
     ·rw[List.nodup_append];exact⟨z,g.2.1,fun x w y s e=>p y (j y s) (e ▸ w)⟩
     ·rcases List.mem_append.1 s with s|s
      ·exact fun e=>p x (l x w) (e ▸ s)
      ·exact g.2.2 x w y s
    ·rcases List.mem_append.1 b with b|b
     ·rcases List.mem_append.1 b with b|b
      ·exact o.lt d (l d b)
      ·exact(m d b).1
     ·exact o.lt d (j d b)
    ·rcases List.mem_append.1 b with b|b
     ·rcases List.mem_append.1 b with b|b
      ·exact List.mem_append_left _ (o.tl d (l d b) t)
      ·rw[(m d b).2.2]; simp
     ·exact List.mem_append_left _ (o.tl d (j d b) t)
theorem Zmu(ls:List Lt)(p:∀ v,v<ls.length→(at' ls v).k≠2→(at' ls v).k=1):Frt ls (Y2 ls) []:=by
 have c:∀ v,v<ls.length→bkN (upN ls v)=arr ls.length v (down ls v):=fun v g=>by
  unfold upN;rw[D7 g,Bool.not_not]
 refine⟨?_,fun d j=>?_,fun d j f=>?_⟩
 ·unfold Y2;unfold List.Nodup;rw[List.pairwise_map];refine List.Pairwise.imp_of_mem (fun {a b} h i l e=>l ?_) (Zfy ls)
  have h:=(mem_axis.1 h).1;have i:=(mem_axis.1 i).1;have m:bkN (upN ls a)=bkN (upN ls b):=by rw[e]
  rw[c a h,c b i]at m;exact(Za5 h i m).1
 ·obtain⟨v,g,rfl⟩:=List.mem_map.1 j;exact F9 (mem_axis.1 g).1
 ·obtain⟨v,g,rfl⟩:=List.mem_map.1 j;obtain⟨n,o⟩:=mem_axis.1 g;rw[c v n,N9 n]at f;simp[isP,f]at o
end
end Go.Known
end
