/- Part 42 of the proof: Yf, Yh. -/
import Derived.Test.YtilmpmlkndfbjaaGreatDoorI23
import Derived.Test.YtilmpmlkndfbjaaGreatDoorI31
import Derived.Test.YtilmpmlkndfbjaaGreatDoorI36
import Derived.Test.YtilmpmlkndfbjaaGreatDoorI37
import Derived.Test.YtilmpmlkndfbjaaGreatDoorI38
import Derived.Test.YtilmpmlkndfbjaaGreatDoorI39
import Derived.Test.YtilmpmlkndfbjaaGreatDoorI40
import Derived.Test.YtilmpmlkndfbjaaGreatDoorI41
set_option linter.all false
section
namespace Go.Known
open Go Go.AE Go.Proofs Go.RowKit Go.Sort
open Go.Plain
theorem Ydn{Wb:Base}{Φ:Pers}{ρ:Rho}{m:Mem}{w:World}{f:Int}{ls:List Lt}(Z:Rel Wb Φ ρ m w)(h1:m.get 1=some (.cells 2 [[.int .i64 f,.imm (ls.map rowL)]])){K:Array Value}(I:RL Φ ρ [.ptr 1 0 0] K)(x y:Nat×Nat)
 (p:x.1<ls.length) (s:y.1<ls.length) (U:IntKind.i64.wrap ((at' ls x.1).g - (at' ls y.1).g)=(at' ls x.1).g - (at' ls y.1).g) (V:IntKind.i64.wrap ((at' ls x.1).r - (at' ls y.1).r)=(at' ls x.1).r - (at' ls y.1).r) :
 Calls Tryz.prog 102 (#[.agg (Ze5 x).toArray,.agg (Ze5 y).toArray]++K) w fun e w'=>e=.returned (.int .i64 (cmpP ls x y)) ∧ ∃ q os,w'=Sort.grow (w.drewN q) os:=by
 obtain⟨u,rfl⟩:∃ u,K = #[u]:=by
  have Q:=I.1;obtain⟨l⟩:=K
  match l,Q with
  | [u],_=>exact ⟨u,rfl⟩
 have hu:R Φ ρ (.ptr 1 0 0) u:=I.2 0 _ _ rfl rfl;obtain⟨B,o,c,e,fz,rfl,X,hc⟩:=Zq3 Z hu (row:=[.int .i64 f,.imm (ls.map rowL)]) (j:=0) (by simp only[AE.rowAt,h1]; rfl)
 obtain⟨us,M,S⟩:=hc 1 _ rfl;have E:=C0 ls p;have ab:=C0 ls s;have Q:w.cell? ⟨B,o+1,none⟩=some us:=by simp[World.cell?,X,M]
 have H:=fun i hi=>C0 ls (i:=i) hi
 have G:(ls.map rowL).length=ls.length:=List.length_map ..;generalize ls.map rowL=rows at *;cases S with
 | imm0 a cap hz=>simp at E
 | imm _ A J k cap c2 g ac Y L hk N P=>
  have O:k=6:=(hk _ _ E).symm.trans rfl;subst O;obtain⟨e2,aa,F⟩:=Z.pers A c2 L;have h:∀ i j (v:AVal),i<ls.length→(rowL (at' ls i))[j]? = some v → ∃ u,w.cell? ⟨A,J+i*6+j,none⟩=some u∧R Φ ρ v u:=by
   intro i j v hi z;have D:=H i hi;have t:=(N i _ j _ D z).1;have C:=P i _ j _ D z;exact⟨_,by simp[World.cell?,F,t],C⟩
  have d:∀ i j (n:Int),i<ls.length→(rowL (at' ls i))[j]? = some (.int .i64 n)→w.cell? ⟨A,J+i*6+j,none⟩=some (.int .i64 n):=fun i j n hi z=>by
   obtain⟨u,t,C⟩:=h i j _ hi z;rw[K3 C]at t;exact t
  have cb:∀ i j (b:Bool),i<ls.length→(rowL (at' ls i))[j]? = some (.bool b)→w.cell? ⟨A,J+i*6+j,none⟩=some (.bool b):=fun i j n hi z=>by
   obtain⟨u,t,C⟩:=h i j _ hi z;cases C;exact t
  exact Ygr x.1 x.2 y.1 y.2 _ _ _ _ _ _ _ _ _ _ _ _ B o A J _ cap w (B5 X) (B5 F) Q (by rw[G]; exact p) (by rw[G]; exact s)
   (d _ 0 _ p rfl) (d _ 1 _ p rfl) (d _ 2 _ p rfl) (d _ 3 _ p rfl) (d _ 4 _ p rfl) (cb _ 5 _ p rfl)
   (d _ 0 _ s rfl) (d _ 1 _ s rfl) (d _ 2 _ s rfl) (d _ 3 _ s rfl) (d _ 4 _ s rfl) (cb _ 5 _ s rfl) U V
def POk(ls:List Lt)(p:Nat×Nat):Prop:=p.1<ls.length∧(0≤(at' ls p.1).r∧(at' ls p.1).r≤1000)∧0≤(at' ls p.1).g∧(at' ls p.1).g≤1000
set_option maxHeartbeats 1000000 in
theorem Z8s(f:Int)(ls:List Lt)(ps:List (Nat×Nat))(B:ps≠[])(v:∀ p,p∈ps→POk ls p)(N:ps.length≤1000) :
 Ctr Tryz.prog 101 [.sl 2 0 ps.length,.func (.func 102) [] [.ptr 1 0 0]] ⟨[(2,.cells 2 (ps.map lrow)),(1,.cells 2 [[.int .i64 f,.imm (ls.map rowL)]])],3⟩ fun r m=>
  r=aundef ∧ ∃ u:List (Nat×Nat),u.Perm ps∧u.Pairwise (fun a b=>cmpP ls a b≤0)∧m=⟨[(2,.cells 2 (u.map lrow)),(1,.cells 2 [[.int .i64 f,.imm (ls.map rowL)]])],3⟩:=by
 obtain⟨p0,I⟩:=List.exists_mem_of_ne_nil ps B
 letI:Inhabited {p:Nat×Nat // POk ls p}:=⟨⟨p0,v p0 I⟩⟩
 have E:RowEnc (fun x:{p:Nat×Nat // POk ls p}=>Ze5 x.1) (fun x=>lrow x.1) 2:=⟨lrow_enc.pos,fun _=>rfl,fun _=>rfl,fun x=>lrow_enc.one x.1,fun Φ ρ x=>lrow_enc.rel Φ ρ x.1,fun Φ ρ x=>lrow_enc.det Φ ρ x.1⟩
 have L:∀ x y:{p:Nat×Nat // POk ls p},IntKind.i64.wrap ((at' ls x.1.1).r - (at' ls y.1.1).r)=(at' ls x.1.1).r - (at' ls y.1.1).r:=fun x y=>by
  have n:=x.2.2.1;have d:=y.2.2.1;exact Z5 (by omega) (by omega)
 have K:∀ x y:{p:Nat×Nat // POk ls p},IntKind.i64.wrap ((at' ls x.1.1).g - (at' ls y.1.1).g)=(at' ls x.1.1).g - (at' ls y.1.1).g:=fun x y=>by
  have n:=x.2.2.2;have d:=y.2.2.2;exact Z5 (by omega) (by omega)
 have k:∀ x y:{p:Nat×Nat // POk ls p},Go.Proofs.ltOf (fun x y:{p:Nat×Nat // POk ls p}=>cmpP ls x.1 y.1) x y=decide (cmpP ls x.1 y.1<0):=fun x y=>by
  unfold Go.Proofs.ltOf;by_cases h:cmpP ls x.1 y.1<0
  ·simp[h]
  ·simp[h]
 have S:SWO (Go.Proofs.ltOf fun x y:{p:Nat×Nat // POk ls p}=>cmpP ls x.1 y.1):={
  irrefl:=fun x=>by rw[k]; simp[cmpP]
  trans:=fun x y z n d=>by
   have C:=of_decide_eq_true ((k x y).symm.trans n);have D:=of_decide_eq_true ((k y z).symm.trans d);refine(k x z).trans (decide_eq_true ?_);unfold cmpP at *;split at C<;>split at D<;>split<;>omega
  ntrans:=fun x y z n d=>by
   have C:=of_decide_eq_false ((k x y).symm.trans n);have D:=of_decide_eq_false ((k y z).symm.trans d);refine(k x z).trans (decide_eq_false ?_);unfold cmpP at *;split at C<;>split at D<;>split<;>omega }
 have Q:∀ args w,(callFunc 102 args).run Tryz.prog w=.ok (.enter 102 args) w:=enters_of Tryz.func102 (by kernel_rfl) rfl
 have o:(ps.attachWith (POk ls) v).length=ps.length:=by simp
 have F:(ps.attachWith (POk ls) v).map (fun x=>lrow x.1)=ps.map lrow:=by
  have n:(ps.attachWith (POk ls) v).map Subtype.val=ps:=List.attachWith_map_subtype_val ..;have d:=congrArg (List.map lrow) n;rw[List.map_map]at d;exact d
 have key:=Z24 (P:=Tryz.prog) (rn:=Tryz.sortPass_ren) Tryz.sortPass ⟨_,Tryz.func101,rfl,rfl⟩ Tryz.isAgg173 Tryz.sizeOf173 E (fun x y=>cmpP ls x.1 y.1) S
  102 Q (m:=SMem.mem ⟨[(2,.cells 2 (ps.map lrow)),(1,.cells 2 [[.int .i64 f,.imm (ls.map rowL)]])],3⟩) (b:=2) (off:=0) (els:=ps.map lrow) (cb:=[.ptr 1 0 0]) rfl (ps.attachWith (POk ls) v)
  (fun e=>B (List.length_eq_zero_iff.1 (by rw[← o,e]; rfl))) (by rw[F,o,List.drop_zero,List.take_of_length_le (by simp)]) (by omega)
  (fun Y Φ ρ vc x w X J a b=>Ydn (f:=f) (ls:=ls) X rfl J a.1 b.1 a.2.1 b.2.1 (K a b) (L a b))
 rw[o]at key;refine ACalls.mono key fun r Z U=>?_
 obtain⟨rfl,q,l,s,rfl⟩:=U;have M:q.length=ps.length:=by rw[l.length_eq,o]
 refine⟨⟨[(2,.cells 2 ((q.map Subtype.val).map lrow)),(1,.cells 2 [[.int .i64 f,.imm (ls.map rowL)]])],3⟩,?_,rfl,q.map Subtype.val,?_,?_,rfl⟩
 ·refine Mem.ext' (fun c=>?_) rfl
  simp only[Mem.get_set,SMem.mem,SMem.get,Z9];by_cases d:c=2
  ·rw[if_pos d,if_pos d];have O:(ps.map lrow).drop (0+ps.length)=[]:=List.drop_eq_nil_of_le (by simp)
   rw[O,List.take_zero,List.nil_append,List.append_nil,List.map_map];rfl
  ·rw[if_neg d,if_neg d,if_neg d]
 ·have n:(ps.attachWith (POk ls) v).map Subtype.val=ps:=List.attachWith_map_subtype_val ..;have d:=l.map Subtype.val;rw[n]at d;exact d
 ·rw[List.pairwise_iff_getElem];intro i j hi V H;have G:i<q.length:=by simpa using hi
  have A:j<q.length:=by simpa using V
  have:=s i j H A;rw[k,getElem!_pos q j A,getElem!_pos q i G,decide_eq_false_iff_not]at this;rw[List.getElem_map,List.getElem_map];unfold cmpP at this ⊢;split at this<;>split<;>omega
end Go.Known
end
section
namespace Go.Known
open Go Go.AE Go.Proofs
open Go.Plain
theorem Yeo(d:Nat):d ^^^ 1=bkN d:=by
 have a:(d ^^^ 1) / 2=d / 2:=by
  rw[Nat.xor_div_two];simp
 have b:=@Nat.xor_mod_two_eq_one d 1;unfold bkN;split<;>omega
theorem Zs1(d:Nat)(g:d≤10000):PCall Tryz.prog 104 [.int .i64 d] (.int .i64 (bkN d:Nat)):=by
 refine Zbg hm Tryz.func104 cf97 rfl rfl (by simp[Y7,AVal.closed]) trivial fun K b=>?_
 have e:bkN d≤10001:=by unfold bkN; split<;>omega
 have c:X7 .xor .num (.int .i64 d) (.int .i64 1)=some (.int .i64 (bkN d:Nat)):=by
  have a:(BitVec.ofInt 64 (d:Int) ^^^ BitVec.ofInt 64 1).toNat=bkN d:=by
   rw[BitVec.toNat_xor,← Yeo];have:(BitVec.ofInt 64 (d:Int)).toNat=d:=by
    rw[BitVec.ofInt_natCast,BitVec.toNat_ofNat,Nat.mod_eq_of_lt (by omega)]
   rw[this];rfl
  show some (AVal.int .i64 (IntKind.i64.wrap ((BitVec.ofInt 64 (d:Int) ^^^ BitVec.ofInt 64 1).toNat:Nat)))=_;rw[a,Z5 (by omega) (by omega)]
 simp[c];exact Y1 b [] (by simp)
abbrev wvB(ls:List Lt)(O:List Nat)(X:AVal):ABlk:=.cells 3 [[.imm (ls.map rowL),.imm (Z2 O),X]]
set_option maxHeartbeats 1000000 in
theorem cEnd(ls:List Lt)(O:List Nat)(k d:Nat)(h:ls.length≤1000)(v:d<2*ls.length) :
 Ctr Tryz.prog 106 [.ptr 1 0 0,.int .i64 d] ⟨[(1,wvB ls O (.sl 2 0 k))],3⟩ fun r m=>r=.int .i64 (W1 ls.length d:Nat)∧m=⟨[(1,wvB ls O (.sl 2 0 k))],3⟩:=by
 refine A8 hm Tryz.func106 cf99 rfl rfl fun K a=>?_
 have o:(ls.map rowL).length=ls.length:=List.length_map ..;have c:∀ q,Z4 q (ls.map rowL)=ls.map rowL:=fun q=>X1 q _ (Y5 ls)
 have b:∀ q,Z4 q (Z2 O)=Z2 O:=fun q=>Z6 q _
 unfold wvB at *;generalize ls.map rowL=rows at *;generalize Z2 O=w at *;have s:¬((ls.length:Int)=0):=by omega
 have t:ls≠[]:=by intro e; subst e; simp at v
 have j:(d:Int).tmod 2=((d % 2:Nat):Int):=rfl;have i:(d:Int).tdiv 2=((d / 2:Nat):Int):=rfl;have l:IntKind.i64.wrap ((d / 2:Nat):Int)=((d / 2:Nat):Int):=Z5 (by omega) (by omega)
 have u:IntKind.i64.wrap (((d / 2:Nat):Int)+1)=((d / 2+1:Nat):Int):=by rw[Z5 (by omega) (by omega)]; omega
 have p:((d / 2+1:Nat):Int).tmod (ls.length:Int)=(((d / 2+1) % ls.length:Nat):Int):=rfl;unfold W1 at a;by_cases n:d % 2=0
 ·rw[if_pos n]at a;generalize d / 2=g at *;simp[j,i,n,l,u,p,o,s,t,-Int.natCast_add,-Int.natCast_emod];exact Y1 a [] (by simp[c,b])
 ·rw[if_neg n]at a;generalize d / 2=g at *;generalize d % 2=z at *;simp[j,i,n,l];exact Y1 a [] (by simp[c,b])
set_option maxRecDepth 100000 in
set_option maxHeartbeats 2000000 in
theorem Ztl(ls:List Lt)(O:List Nat)(k d:Nat)(h:ls.length≤1000)(Z:Wv ls)(P:∀ v,v<ls.length→(at' ls v).k=2→O[v]? = some (otN ls v))(B:d<2*ls.length)(C:(ldN ls d).k=2) :
 Ctr Tryz.prog 108 [.ptr 1 0 0,.int .i64 d] ⟨[(1,wvB ls O (.sl 2 0 k))],3⟩ fun r m=>r=.int .i64 (tnN ls d:Nat)∧m=⟨[(1,wvB ls O (.sl 2 0 k))],3⟩:=by
 refine A8 hm Tryz.func108 Zt9 rfl rfl fun K j=>?_
 have n:=cEnd ls O k d h B;have c:=Zba B;have a:=C0 ls c;obtain⟨_,b⟩:=X5 a;have t:=B4 (P _ c C);obtain⟨G,w⟩:=X5 t;obtain⟨w1,_⟩:=Z.oth _ c C;have A:tnN ls d=Y0 ls.length (otN ls (W1 ls.length d)) ((d % 2 == 0) == ((ldN ls d).o == ((ldN ls d).s == 1))):=by
  unfold tnN;rw[Zft B];have:(at' ls (W1 ls.length d)).k=2:=C;rw[if_pos this];rfl
 rw[A]at j;have p:ldN ls d=at' ls (W1 ls.length d):=rfl;rw[p]at j;have D:(ls.map rowL).length=ls.length:=List.length_map ..;have i:∀ q,Z4 q (ls.map rowL)=ls.map rowL:=fun q=>X1 q _ (Y5 ls)
 have g:∀ q,Z4 q (Z2 O)=Z2 O:=fun q=>Z6 q _
 clear C P A p;unfold wvB at *;generalize ls.map rowL=rows at *;unfold rowL at a b;generalize at' ls (W1 ls.length d)=l at *;generalize V:Z2 O=OO at *;have S:otN ls (W1 ls.length d)<ls.length:=w1;generalize otN ls (W1 ls.length d)=u at *;generalize W1 ls.length d=v at *;have F:ls≠[]:=by intro e; subst e; simp at B
 have H:(d:Int).tmod 2=((d % 2:Nat):Int):=rfl;simp;refine U9 n [(1,1),(2,2)] (by simp) (by simp[i,g]) (by simp) ?_
 rintro _ _ ⟨rfl,rfl⟩;have X:((d % 2 == 0) == (l.o == (l.s == 1)))=(decide ((d:Int).tmod 2=0) == (l.o == decide (l.s=1))):=by
  rw[H];have U:(d % 2 == 0)=decide (((d % 2:Nat):Int)=0):=by rw[Bool.eq_iff_iff]; simp; omega
  rw[U];rfl
 rw[X]at j;have I:IntKind.i64.wrap (2*(u:Int))=((2*u:Nat):Int):=by rw[Z5 (by omega) (by omega)]; omega
 have J:IntKind.i64.wrap ((u:Int) - 1)=(u:Int) - 1:=Z5 (by omega) (by omega)
 have L:IntKind.i64.wrap ((u:Int) - 1+(ls.length:Int))=((u+ls.length - 1:Nat):Int):=by rw[Z5 (by omega) (by omega)]; omega
 have E:((u+ls.length - 1:Nat):Int).tmod (ls.length:Int)=(((u+ls.length - 1) % ls.length:Nat):Int):=rfl;have Y:(u+ls.length - 1) % ls.length<ls.length:=Nat.mod_lt _ (by omega)
 simp[a,b,D,c,t,w,G,i,g];unfold Y0 at j;cases Q:(decide ((d:Int).tmod 2=0) == (l.o == decide (l.s=1)))with
 | true=>
  rw[Q,if_pos rfl]at j;simp only[I];exact Y1 j [] (by simp[i,g])
 | false=>
  rw[Q,if_neg (by simp)]at j
  generalize (u+ls.length - 1) % ls.length=z at *;generalize u+ls.length - 1=y at *;have M:IntKind.i64.wrap (2*(z:Int))=((2*z:Nat):Int):=by rw[Z5 (by omega) (by omega)]; omega
  have N:IntKind.i64.wrap (((2*z:Nat):Int)+1)=((2*z+1:Nat):Int):=by rw[Z5 (by omega) (by omega)]; omega
  generalize 2*z+1=y2 at *;generalize 2*z=y1 at *;simp only[J,L,E];simp[F,M,N];exact Y1 j [] (by simp[i,g])
set_option maxRecDepth 100000 in
set_option maxHeartbeats 4000000 in
theorem cRun(ls:List Lt)(O front:List Nat)(i:Nat)(h:ls.length≤1000)(hw:Wv ls)(hO:∀ v,v<ls.length→(at' ls v).k=2→O[v]? = some (otN ls v))(hi:i<front.length)(ar:front.length≤10000)(hf:∀ d,d∈front→d<2*ls.length) :
 Ctr Tryz.prog 107 [.ptr 1 0 0,.int .i64 i] ⟨[(1,wvB ls O (.sl 2 0 front.length)),(2,.cells 1 (Z2 front))],3⟩ fun r m=>
  r=.int .i64 (1+H2 ls (ldN ls (front.getD i 0)).i front (i+1):Nat)∧m=⟨[(1,wvB ls O (.sl 2 0 front.length)),(2,.cells 1 (Z2 front))],3⟩:=by
 refine A8 hm Tryz.func107 Z08 rfl rfl fun K J=>?_
 have G:=fun d hd=>cEnd ls O front.length d h hd
 have P:=fun d hd H=>Ztl ls O front.length d h hw hO hd H
 have D:(ls.map rowL).length=ls.length:=List.length_map ..;have g:∀ q,Z4 q (ls.map rowL)=ls.map rowL:=fun q=>X1 q _ (Y5 ls)
 have c:∀ q,Z4 q (Z2 O)=Z2 O:=fun q=>Z6 q _
 have t:∀ q,Z4 q (Z2 front)=Z2 front:=fun q=>Z6 q _
 have L:=fun i (hi:i<front.length)=>Zk1 hi
 have E:(Z2 front).length=front.length:=L6 front;have o:=fun j (hj:j<front.length)=>hf _ (Zeo hj)
 have w:=fun i hi=>C0 ls (i:=i) hi
 have ab:∀ d,ldN ls d=at' ls (W1 ls.length d):=fun _=>rfl
 unfold wvB at *;generalize ls.map rowL=rows at *;unfold rowL at w;generalize Z2 O=OO at *;generalize Z2 front=FF at *;have hg:=L i hi;obtain⟨_,ai⟩:=X5 hg;have ag:=G _ (o i hi);have aa:=Zba (o i hi);have S:=w _ aa;obtain⟨_,I⟩:=X5 S;obtain⟨id,M⟩:∃ id,(ldN ls (front.getD i 0)).i=id:=⟨_,rfl⟩
 rw[M]at J;rw[ab]at M;rw[M]at S I;generalize front.getD i 0=a at *;simp[hg,ai,hi,E];refine Zfc ag (by simp) [(1,1),(2,2)] (by simp) (by simp[EqRB,g,c]) (by simp) (fun s=>by simp) (by simp) ?_
 simp[S,I,D,aa];refine Q7 (α:=Nat) (fun n=>[(6,.int .i64 n),(5,.int .i64 id),(0,.ptr 1 0 0),(1,.int .i64 i)]) (fun n=>⟨[(1,.cells 3 [[.imm rows,.imm OO,.sl 2 0 front.length]]),(2,.cells 1 FF)],3⟩) (fun n=>front.length - (i+n))
  (fun n=>1≤n∧i+n≤front.length∧n+H2 ls id front (i+n)=1+H2 ls id front (i+1)) 1 [] (by simp[g,c,t]) ⟨by omega,by omega,rfl⟩ ?_
 rintro n ⟨al,ae,A⟩ N hN
 try simp only at al ae A hN ⊢
 rw[← A]at J;obtain⟨j,hj⟩:∃ j,i+n=j:=⟨_,rfl⟩
 rw[hj]at J;have U:IntKind.i64.wrap ((i:Int)+(n:Int))=(j:Int):=by rw[Z5 (by omega) (by omega)]; omega
 by_cases p:j<front.length
 ·have V:=L j p;obtain⟨_,X⟩:=X5 V;have Y:=L (j - 1) (by omega)
  obtain⟨am,Z⟩:=X5 Y;have aq:IntKind.i64.wrap ((j:Int) - 1)=((j - 1:Nat):Int):=by rw[Z5 (by omega) (by omega)]; omega
  have ao:IntKind.i64.wrap ((n:Int)+1)=((n+1:Nat):Int):=by rw[Z5 (by omega) (by omega)]; omega
  have hx:=o j p;have hy:=o (j - 1) (by omega)
  have ah:=G _ hx;have ad:=P _ hx;have af:=Zs1 (front.getD (j - 1) 0) (by omega)
  have B:=Zba hx;have F:=w _ B;obtain⟨_,z⟩:=X5 F;have b:okF ls id front j=(decide ((ldN ls (front.getD j 0)).k=2)&&decide ((ldN ls (front.getD j 0)).i=id)&&decide (tnN ls (front.getD j 0)=bkN (front.getD (j - 1) 0))):=rfl;have ac:=ab (front.getD j 0);have aj:j - 1<front.length:=by omega
  have u:(j:Int)<(front.length:Int):=by omega
  generalize front.getD j 0=x at *;generalize front.getD (j - 1) 0=y at *;generalize j - 1=j1 at *;rw[ac]at b ad;generalize W1 ls.length x=v at *;generalize au:at' ls v=l at *;have Q:okF ls id front j=false→K (.int .i64 n) ⟨[(1,.cells 3 [[.imm rows,.imm OO,.sl 2 0 front.length]]),(2,.cells 1 FF)],3⟩:=fun e=>by
   rw[Zap (fun e2=>by rw[e]at e2; exact absurd e2.2 (by simp)),Nat.add_zero]at J
   exact J
  simp[U,p,u,E,V,X];refine Zfc ah (by simp) [(1,1),(2,2)] (by simp) (by simp[EqRB,g,c]) (by simp) (fun s=>by simp) (by simp) ?_
  by_cases H:l.k=2
  ·by_cases C:l.i=id
   ·have ak:=ad H;rw[decide_eq_true H,decide_eq_true C]at b;simp[F,z,D,B,H,C];refine Zfc ak (by simp) [(1,1),(2,2)] (by simp) (by simp[EqRB,g,c]) (by simp) (fun s=>by simp) (by simp) ?_
    simp[U,aq,Y,Z,E,aj,am];refine Zal af ?_;by_cases ht:tnN ls x=bkN y
    ·rw[decide_eq_true ht]at b;simp[ht,ao];refine hN (n+1) [] _ _ (by omega) ⟨by omega,by omega,?_⟩ (by simp[g,c,t])
     rw[show i+(n+1)=j+1 by omega,← A,hj,Zgb p b]
     omega
    ·have an:¬((tnN ls x:Nat):Int)=(bkN y:Nat):=by omega
     rw[decide_eq_false ht]at b;simp[ht,an];exact Y1 (Q b) [] (by simp[g,c,t])
   ·rw[decide_eq_false C,Bool.and_false]at b;simp[F,z,D,B,H,C];exact Y1 (Q b) [] (by simp[g,c,t])
  ·rw[decide_eq_false H,Bool.false_and]at b;simp[F,z,D,B,H];exact Y1 (Q b) [] (by simp[g,c,t])
 ·have u:¬(j:Int)<(front.length:Int):=by omega
  rw[Zap (fun e=>p e.1),Nat.add_zero]at J
  simp[U,p,u,E];exact Y1 J [] (by simp[g,c,t])
end Go.Known
end
