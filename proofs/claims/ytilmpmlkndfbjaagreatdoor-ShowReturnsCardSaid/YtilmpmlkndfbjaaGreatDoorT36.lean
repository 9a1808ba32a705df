/- Part 36 -/
import Derived.Test.YtilmpmlkndfbjaaGreatDoorT35
set_option linter.all false
set_option maxRecDepth 100000
set_option maxHeartbeats 16000000
open Go.Proofs.Tryz (prog)
namespace Go.Ad
open Go Go.AE Go.Proofs Go.RowKit Go.Sort
open Go.Plain
theorem Ydx{Y:Aq}{Φ:Ap}{ρ:AI}{m:Mem}{w:World}{f:Int}{ls:List Lt}(T:Rel Y Φ ρ m w)(h1:m.get 1=some (.cells 2 [[.int .i64 f,.Al (ls.map Ab)]])){J:Array Value}(P:RL Φ ρ [.ptr 1 0 0] J)(x y:Nat×Nat)
 (p:x.1<ls.length) (s:y.1<ls.length) (gK:IntKind.i64.wrap ((at' ls x.1).g-(at' ls y.1).g)=(at' ls x.1).g-(at' ls y.1).g) (O:IntKind.i64.wrap ((at' ls x.1).r-(at' ls y.1).r)=(at' ls x.1).r-(at' ls y.1).r) :
 Calls prog 102 (#[.agg (OP x).toArray,.agg (OP y).toArray]++J) w λe w'=>e=.returned (.int .i64 (EU ls x y)) /\ ∃q os,w'=Sort.grow (w.drewN q) os:=by
 obtain⟨u,rfl⟩:∃u,J = #[u]:=by
  have M:=P.1;obtain⟨l⟩:=J
  match l,M with
  |[u],_=>exact ⟨u,rfl⟩
 have hu:R Φ ρ (.ptr 1 0 0) u:=P.2 0 _ _ rfl rfl;obtain⟨B,o,c,e,fz,rfl,Q,hc⟩:=kW T hu (row:=[.int .i64 f,.Al (ls.map Ab)]) (j:=0) (by simp only[AE.rowAt,h1];rfl);obtain⟨us,K,N⟩:=hc 1 _ rfl;have E:=A8 ls p;have ab:=A8 ls s;have M:w.cell? ⟨B,o+1,none⟩=some us:=by simp[World.cell?,Q,K]
 have H:=λi hi=>A8 ls (i:=i) hi;have G:(ls.map Ab).length=ls.length:=lM ..;generalize ls.map Ab=rows at *;cases N with
 |CA a cap hz=>simp at E
 |Al _ A I k cap Z g ac S X hk V U=>
  have L:k=6:=(hk _ _ E).symm.trans rfl;subst L;obtain⟨e2,aa,F⟩:=T.AX A Z X;have h:∀i j (v:Aa),i<ls.length->(Ab (at' ls i))[j]?=some v -> ∃u,w.cell? ⟨A,I+i*6+j,none⟩=some u/\R Φ ρ v u:=by
   intro i j v hi z;have D:=H i hi;have t:=(V i _ j _ D z).1;have C:=U i _ j _ D z;exact⟨_,by simp[World.cell?,F,t],C⟩
  have d:∀i j (n:Int),i<ls.length->(Ab (at' ls i))[j]?=some (.int .i64 n)->w.cell? ⟨A,I+i*6+j,none⟩=some (.int .i64 n):=λi j n hi z=>by
   obtain⟨u,t,C⟩:=h i j _ hi z;rw[F5 C]at t;exact t
  have cb:∀i j (b:Bool),i<ls.length->(Ab (at' ls i))[j]?=some (.bool b)->w.cell? ⟨A,I+i*6+j,none⟩=some (.bool b):=λi j n hi z=>by
   obtain⟨u,t,C⟩:=h i j _ hi z;cases C;exact t
  exact Ybn x.1 x.2 y.1 y.2 _ _ _ _ _ _ _ _ _ _ _ _ B o A I _ cap w (D9 Q) (D9 F) M (by rw[G];exact p) (by rw[G];exact s)
   (d _ 0 _ p rfl) (d _ 1 _ p rfl) (d _ 2 _ p rfl) (d _ 3 _ p rfl) (d _ 4 _ p rfl) (cb _ 5 _ p rfl)
   (d _ 0 _ s rfl) (d _ 1 _ s rfl) (d _ 2 _ s rfl) (d _ 3 _ s rfl) (d _ 4 _ s rfl) (cb _ 5 _ s rfl) gK O
def IS(ls:List Lt)(p:Nat×Nat):Prop:=p.1<ls.length∧(0≤(at' ls p.1).r∧(at' ls p.1).r≤1000)∧0≤(at' ls p.1).g∧(at' ls p.1).g≤1000
theorem Ydi(f:Int)(ls:List Lt)(ps:List (Nat×Nat))(B:ps≠[])(v:∀p,p∈ps->IS ls p)(J:ps.length<=1000) :
 Bo prog 101 [.sl 2 0 ps.length,.func (.func 102) [] [.ptr 1 0 0]] ⟨[(2,.cells 2 (ps.map Bz)),(1,.cells 2 [[.int .i64 f,.Al (ls.map Ab)]])],3⟩ λr m=>
  r=Ai /\ ∃u:List (Nat×Nat),u.Perm ps/\u.Pairwise (λa b=>EU ls a b<=0)/\m=⟨[(2,.cells 2 (u.map Bz)),(1,.cells 2 [[.int .i64 f,.Al (ls.map Ab)]])],3⟩:=by
 obtain⟨p0,L⟩:=List.exists_mem_of_ne_nil ps B
 letI:Inhabited {p:Nat×Nat // IS ls p}:=⟨⟨p0,v p0 L⟩⟩
 have E:EP (λx:{p:Nat×Nat // IS ls p}=>OP x.1) (λx=>Bz x.1) 2:=⟨EF.pos,λ_=>rfl,λ_=>rfl,λx=>EF.one x.1,λΦ ρ x=>EF.rel Φ ρ x.1,λΦ ρ x=>EF.tH Φ ρ x.1⟩;have H:∀x y:{p:Nat×Nat // IS ls p},IntKind.i64.wrap ((at' ls x.1.1).r-(at' ls y.1.1).r)=(at' ls x.1.1).r-(at' ls y.1.1).r:=λx y=>by
  have n:=x.2.2.1;have d:=y.2.2.1;exact L6 (by omega) (by omega)
 have Q:∀x y:{p:Nat×Nat // IS ls p},IntKind.i64.wrap ((at' ls x.1.1).g-(at' ls y.1.1).g)=(at' ls x.1.1).g-(at' ls y.1.1).g:=λx y=>by
  have n:=x.2.2.2;have d:=y.2.2.2;exact L6 (by omega) (by omega)
 have k:∀x y:{p:Nat×Nat // IS ls p},Go.Proofs.ltOf (λx y:{p:Nat×Nat // IS ls p}=>EU ls x.1 y.1) x y=decide (EU ls x.1 y.1<0):=λx y=>by
  unfold Go.Proofs.ltOf;by_cases h:EU ls x.1 y.1<0
  ·simp[h]
  simp[h]
 have S:SWO (Go.Proofs.ltOf λx y:{p:Nat×Nat // IS ls p}=>EU ls x.1 y.1):={
  irrefl:=λx=>by rw[k];simp[EU]
  trans:=λx y z n d=>by
   have C:=of_decide_eq_true ((k x y).symm.trans n);have D:=of_decide_eq_true ((k y z).symm.trans d);refine(k x z).trans (decide_eq_true ?_);unfold EU at *;split at C<;>split at D<;>split<;>omega
  ntrans:=λx y z n d=>by
   have C:=of_decide_eq_false ((k x y).symm.trans n);have D:=of_decide_eq_false ((k y z).symm.trans d);refine(k x z).trans (decide_eq_false ?_);unfold EU at *;split at C<;>split at D<;>split<;>omega }
 have O:∀args w,(callFunc 102 args).run prog w=.ok (.enter 102 args) w:=enters_of Tryz.func102 (by kernel_rfl) rfl;have o:(ps.attachWith (IS ls) v).length=ps.length:=by simp
 have K:(ps.attachWith (IS ls) v).map (λx=>Bz x.1)=ps.map Bz:=by
  have n:(ps.attachWith (IS ls) v).map Subtype.val=ps:=List.attachWith_map_subtype_val ..;have d:=congrArg (List.map Bz) n;rw[List.map_map]at d;exact d
 have key:=Ydt (P:=prog) (rn:=Tryz.EK) Tryz.Mk ⟨_,Tryz.func101,rfl,rfl⟩ Tryz.isAgg173 Tryz.sizeOf173 E (λx y=>EU ls x.1 y.1) S
  102 O (m:=Ac.mem ⟨[(2,.cells 2 (ps.map Bz)),(1,.cells 2 [[.int .i64 f,.Al (ls.map Ab)]])],3⟩) (b:=2) (off:=0) (els:=ps.map Bz) (cb:=[.ptr 1 0 0]) rfl (ps.attachWith (IS ls) v)
  (λe=>B (List.length_eq_zero_iff.1 (by rw[<-o,e];rfl))) (by rw[K,o,List.drop_zero,tL (by simp)]) (by omega)
  (λX Φ ρ Z x w V M a b=>Ydx (f:=f) (ls:=ls) V rfl M a.1 b.1 a.2.1 b.2.1 (Q a b) (H a b))
 rw[o]at key;refine Aw.mono key λr Y T=>?_;obtain⟨rfl,q,l,s,rfl⟩:=T;have I:q.length=ps.length:=by rw[l.length_eq,o]
 refine⟨⟨[(2,.cells 2 ((q.map Subtype.val).map Bz)),(1,.cells 2 [[.int .i64 f,.Al (ls.map Ab)]])],3⟩,?_,rfl,q.map Subtype.val,?_,?_,rfl⟩
 ·refine Mem.ext' (λc=>?_) rfl;simp only[Mem.AB,Ac.mem,Ac.get,Z7];by_cases d:c=2
  ·rw[iP d,iP d];have N:(ps.map Bz).drop (0+ps.length)=[]:=List.drop_eq_nil_of_le (by simp);rw[N,List.take_zero,List.nil_append,List.append_nil,List.map_map];rfl
  rw[iN d,iN d,iN d]
 ·have n:(ps.attachWith (IS ls) v).map Subtype.val=ps:=List.attachWith_map_subtype_val ..;have d:=l.map Subtype.val;rw[n]at d;exact d
 rw[List.pairwise_iff_getElem];intro i j hi U G;have F:i<q.length:=by simpa using hi
 have A:j<q.length:=by simpa using U
 have:=s i j G A;rw[k,getElem!_pos q j A,getElem!_pos q i F,decide_eq_false_iff_not]at this;rw[List.getElem_map,List.getElem_map];unfold EU at this ⊢;split at this<;>split<;>omega
end Go.Ad
