/- Part 47 of the proof: Yf, Yh. -/
import Derived.Test.YtipeejpafgnjdaaGreatDoorH23
import Derived.Test.YtipeejpafgnjdaaGreatDoorH31
import Derived.Test.YtipeejpafgnjdaaGreatDoorH40
import Derived.Test.YtipeejpafgnjdaaGreatDoorH42
import Derived.Test.YtipeejpafgnjdaaGreatDoorH43
import Derived.Test.YtipeejpafgnjdaaGreatDoorH44
import Derived.Test.YtipeejpafgnjdaaGreatDoorH45
import Derived.Test.YtipeejpafgnjdaaGreatDoorH46
set_option linter.all false
section
namespace Go.Known
open Go Go.AE Go.Proofs Go.RowKit Go.Sort
open Go.Plain
theorem Ye7{Wb:Base}{Φ:Pers}{ρ:Rho}{m:Mem}{w:World}{f:Int}{ls:List Lt}(hr:Rel Wb Φ ρ m w)(h1:m.get 1=some (.cells 2 [[.int .i64 f,.imm (ls.map rowL)]])){vc:Array Value}(hvc:RL Φ ρ [.ptr 1 0 0] vc)(x y:Nat×Nat)
 (hx:x.1<ls.length) (hy:y.1<ls.length) (hwg:IntKind.i64.wrap ((at' ls x.1).g - (at' ls y.1).g)=(at' ls x.1).g - (at' ls y.1).g) (hwr:IntKind.i64.wrap ((at' ls x.1).r - (at' ls y.1).r)=(at' ls x.1).r - (at' ls y.1).r) :
 Calls Tryz.prog 149 (#[.agg (Zee x).toArray,.agg (Zee y).toArray]++vc) w fun e w'=>e=.returned (.int .i64 (cmpP ls x y)) ∧ ∃ q os,w'=Sort.grow (w.drewN q) os:=by
 obtain⟨u,rfl⟩:∃ u,vc = #[u]:=by
  have hs:=hvc.1;obtain⟨l⟩:=vc
  match l,hs with
  | [u],_=>exact ⟨u,rfl⟩
 have hu:R Φ ρ (.ptr 1 0 0) u:=hvc.2 0 _ _ rfl rfl;obtain⟨B,o,c,e,fz,rfl,hB,hc⟩:=Zrd hr hu (row:=[.int .i64 f,.imm (ls.map rowL)]) (j:=0) (by simp only[AE.rowAt,h1]; rfl)
 obtain⟨us,hc1,hus⟩:=hc 1 _ rfl;have hgx:=C6 ls hx;have hgy:=C6 ls hy;have hs:w.cell? ⟨B,o+1,none⟩=some us:=by simp[World.cell?,hB,hc1]
 have hrow:=fun i hi=>C6 ls (i:=i) hi
 have hll:(ls.map rowL).length=ls.length:=List.length_map ..;generalize ls.map rowL=rows at *;cases hus with
 | imm0 a cap hz=>simp at hgx
 | imm _ B2 o2 k cap c2 g hne hcap hB2 hk hcc hrr=>
  have hk6:k=6:=(hk _ _ hgx).symm.trans rfl;subst hk6;obtain⟨e2,fz2,hh2⟩:=hr.pers B2 c2 hB2;have cell:∀ i j (v:AVal),i<ls.length→(rowL (at' ls i))[j]? = some v → ∃ u,w.cell? ⟨B2,o2+i*6+j,none⟩=some u∧R Φ ρ v u:=by
   intro i j v hi hj;have hgi:=hrow i hi;have h3:=(hcc i _ j _ hgi hj).1;have h4:=hrr i _ j _ hgi hj;exact⟨_,by simp[World.cell?,hh2,h3],h4⟩
  have ci:∀ i j (n:Int),i<ls.length→(rowL (at' ls i))[j]? = some (.int .i64 n)→w.cell? ⟨B2,o2+i*6+j,none⟩=some (.int .i64 n):=fun i j n hi hj=>by
   obtain⟨u,h3,h4⟩:=cell i j _ hi hj;rw[L4 h4]at h3;exact h3
  have cb:∀ i j (b:Bool),i<ls.length→(rowL (at' ls i))[j]? = some (.bool b)→w.cell? ⟨B2,o2+i*6+j,none⟩=some (.bool b):=fun i j n hi hj=>by
   obtain⟨u,h3,h4⟩:=cell i j _ hi hj;cases h4;exact h3
  exact Z2b x.1 x.2 y.1 y.2 _ _ _ _ _ _ _ _ _ _ _ _ B o B2 o2 _ cap w (B7 hB) (B7 hh2) hs (by rw[hll]; exact hx) (by rw[hll]; exact hy)
   (ci _ 0 _ hx rfl) (ci _ 1 _ hx rfl) (ci _ 2 _ hx rfl) (ci _ 3 _ hx rfl) (ci _ 4 _ hx rfl) (cb _ 5 _ hx rfl)
   (ci _ 0 _ hy rfl) (ci _ 1 _ hy rfl) (ci _ 2 _ hy rfl) (ci _ 3 _ hy rfl) (ci _ 4 _ hy rfl) (cb _ 5 _ hy rfl) hwg hwr
def POk(ls:List Lt)(p:Nat×Nat):Prop:=p.1<ls.length∧(0≤(at' ls p.1).r∧(at' ls p.1).r≤1000)∧0≤(at' ls p.1).g∧(at' ls p.1).g≤1000
set_option maxHeartbeats 1000000 in
theorem Ycu(f:Int)(ls:List Lt)(ps:List (Nat×Nat))(hps:ps≠[])(hp:∀ p,p∈ps→POk ls p)(hlen:ps.length≤1000) :
 Ctr Tryz.prog 148 [.sl 2 0 ps.length,.func (.func 149) [] [.ptr 1 0 0]] ⟨[(2,.cells 2 (ps.map lrow)),(1,.cells 2 [[.int .i64 f,.imm (ls.map rowL)]])],3⟩ fun r m=>
  r=aundef ∧ ∃ ps':List (Nat×Nat),ps'.Perm ps∧ps'.Pairwise (fun a b=>cmpP ls a b≤0)∧m=⟨[(2,.cells 2 (ps'.map lrow)),(1,.cells 2 [[.int .i64 f,.imm (ls.map rowL)]])],3⟩:=by
 obtain⟨p0,hp0⟩:=List.exists_mem_of_ne_nil ps hps
 letI:Inhabited {p:Nat×Nat // POk ls p}:=⟨⟨p0,hp p0 hp0⟩⟩
 have E:RowEnc (fun x:{p:Nat×Nat // POk ls p}=>Zee x.1) (fun x=>lrow x.1) 2:=⟨lrow_enc.pos,fun _=>rfl,fun _=>rfl,fun x=>lrow_enc.one x.1,fun Φ ρ x=>lrow_enc.rel Φ ρ x.1,fun Φ ρ x=>lrow_enc.det Φ ρ x.1⟩
 have hwr:∀ x y:{p:Nat×Nat // POk ls p},IntKind.i64.wrap ((at' ls x.1.1).r - (at' ls y.1.1).r)=(at' ls x.1.1).r - (at' ls y.1.1).r:=fun x y=>by
  have h1:=x.2.2.1;have h2:=y.2.2.1;exact Z6 (by omega) (by omega)
 have hwg:∀ x y:{p:Nat×Nat // POk ls p},IntKind.i64.wrap ((at' ls x.1.1).g - (at' ls y.1.1).g)=(at' ls x.1.1).g - (at' ls y.1.1).g:=fun x y=>by
  have h1:=x.2.2.2;have h2:=y.2.2.2;exact Z6 (by omega) (by omega)
 have hlt:∀ x y:{p:Nat×Nat // POk ls p},Go.Proofs.ltOf (fun x y:{p:Nat×Nat // POk ls p}=>cmpP ls x.1 y.1) x y=decide (cmpP ls x.1 y.1<0):=fun x y=>by
  unfold Go.Proofs.ltOf;by_cases h:cmpP ls x.1 y.1<0
  ·simp[h]
  ·simp[h]
 have hO:SWO (Go.Proofs.ltOf fun x y:{p:Nat×Nat // POk ls p}=>cmpP ls x.1 y.1):={
  irrefl:=fun x=>by rw[hlt]; simp[cmpP]
  trans:=fun x y z h1 h2=>by
   have h3:=of_decide_eq_true ((hlt x y).symm.trans h1);have h4:=of_decide_eq_true ((hlt y z).symm.trans h2);refine(hlt x z).trans (decide_eq_true ?_);unfold cmpP at *;split at h3<;>split at h4<;>split<;>omega
  ntrans:=fun x y z h1 h2=>by
   have h3:=of_decide_eq_false ((hlt x y).symm.trans h1);have h4:=of_decide_eq_false ((hlt y z).symm.trans h2);refine(hlt x z).trans (decide_eq_false ?_);unfold cmpP at *;split at h3<;>split at h4<;>split<;>omega }
 have eg:∀ args w,(callFunc 149 args).run Tryz.prog w=.ok (.enter 149 args) w:=enters_of Tryz.func149 (by kernel_rfl) rfl
 have hal:(ps.attachWith (POk ls) hp).length=ps.length:=by simp
 have hav:(ps.attachWith (POk ls) hp).map (fun x=>lrow x.1)=ps.map lrow:=by
  have h1:(ps.attachWith (POk ls) hp).map Subtype.val=ps:=List.attachWith_map_subtype_val ..;have h2:=congrArg (List.map lrow) h1;rw[List.map_map]at h2;exact h2
 have key:=Z9t (P:=Tryz.prog) (rn:=Tryz.sortPass_ren) Tryz.sortPass ⟨_,Tryz.func148,rfl,rfl⟩ Tryz.isAgg209 Tryz.sizeOf209 E (fun x y=>cmpP ls x.1 y.1) hO
  149 eg (m:=SMem.mem ⟨[(2,.cells 2 (ps.map lrow)),(1,.cells 2 [[.int .i64 f,.imm (ls.map rowL)]])],3⟩) (b:=2) (off:=0) (els:=ps.map lrow) (cb:=[.ptr 1 0 0]) rfl (ps.attachWith (POk ls) hp)
  (fun e=>hps (List.length_eq_zero_iff.1 (by rw[← hal,e]; rfl))) (by rw[hav,hal,List.drop_zero,List.take_of_length_le (by simp)]) (by omega)
  (fun Wb Φ ρ vc x w hr hvc a b=>Ye7 (f:=f) (ls:=ls) hr rfl hvc a.1 b.1 a.2.1 b.2.1 (hwg a b) (hwr a b))
 rw[hal]at key;refine ACalls.mono key fun r m' hh=>?_
 obtain⟨rfl,d',hperm,hsort,rfl⟩:=hh;have hd'l:d'.length=ps.length:=by rw[hperm.length_eq,hal]
 refine⟨⟨[(2,.cells 2 ((d'.map Subtype.val).map lrow)),(1,.cells 2 [[.int .i64 f,.imm (ls.map rowL)]])],3⟩,?_,rfl,d'.map Subtype.val,?_,?_,rfl⟩
 ·refine Mem.ext' (fun c=>?_) rfl
  simp only[Mem.get_set,SMem.mem,SMem.get,Z8];by_cases h2:c=2
  ·rw[if_pos h2,if_pos h2];have e1:(ps.map lrow).drop (0+ps.length)=[]:=List.drop_eq_nil_of_le (by simp)
   rw[e1,List.take_zero,List.nil_append,List.append_nil,List.map_map];rfl
  ·rw[if_neg h2,if_neg h2,if_neg h2]
 ·have h1:(ps.attachWith (POk ls) hp).map Subtype.val=ps:=List.attachWith_map_subtype_val ..;have h2:=hperm.map Subtype.val;rw[h1]at h2;exact h2
 ·rw[List.pairwise_iff_getElem];intro i j hi hj hij;have hi':i<d'.length:=by simpa using hi
  have hj':j<d'.length:=by simpa using hj
  have:=hsort i j hij hj';rw[hlt,getElem!_pos d' j hj',getElem!_pos d' i hi',decide_eq_false_iff_not]at this;rw[List.getElem_map,List.getElem_map];unfold cmpP at this ⊢;split at this<;>split<;>omega
end Go.Known
end
section
namespace Go.Known
open Go Go.AE Go.Proofs
open Go.Plain
theorem Z4g(d:Nat):d ^^^ 1=bkN d:=by
 have h1:(d ^^^ 1) / 2=d / 2:=by
  rw[Nat.xor_div_two];simp
 have h2:=@Nat.xor_mod_two_eq_one d 1;unfold bkN;split<;>omega
theorem Zrt(d:Nat)(hd:d≤10000):PCall Tryz.prog 151 [.int .i64 d] (.int .i64 (bkN d:Nat)):=by
 refine Zbb hm Tryz.func151 cf97 rfl rfl (by simp[Y0,AVal.closed]) trivial fun K hK=>?_
 have hb:bkN d≤10001:=by unfold bkN; split<;>omega
 have hx:X6 .xor .num (.int .i64 d) (.int .i64 1)=some (.int .i64 (bkN d:Nat)):=by
  have e1:(BitVec.ofInt 64 (d:Int) ^^^ BitVec.ofInt 64 1).toNat=bkN d:=by
   rw[BitVec.toNat_xor,← Z4g];have:(BitVec.ofInt 64 (d:Int)).toNat=d:=by
    rw[BitVec.ofInt_natCast,BitVec.toNat_ofNat,Nat.mod_eq_of_lt (by omega)]
   rw[this];rfl
  show some (AVal.int .i64 (IntKind.i64.wrap ((BitVec.ofInt 64 (d:Int) ^^^ BitVec.ofInt 64 1).toNat:Nat)))=_;rw[e1,Z6 (by omega) (by omega)]
 simp[hx];exact Y1 hK [] (by simp)
abbrev wvB(ls:List Lt)(O:List Nat)(X:AVal):ABlk:=.cells 3 [[.imm (ls.map rowL),.imm (Z0 O),X]]
set_option maxHeartbeats 1000000 in
theorem cEnd(ls:List Lt)(O:List Nat)(k d:Nat)(h:ls.length≤1000)(hd:d<2*ls.length) :
 Ctr Tryz.prog 153 [.ptr 1 0 0,.int .i64 d] ⟨[(1,wvB ls O (.sl 2 0 k))],3⟩ fun r m=>r=.int .i64 (X3 ls.length d:Nat)∧m=⟨[(1,wvB ls O (.sl 2 0 k))],3⟩:=by
 refine A3 hm Tryz.func153 cf99 rfl rfl fun K hK=>?_
 have hll:(ls.map rowL).length=ls.length:=List.length_map ..;have hrr:∀ q,Z3 q (ls.map rowL)=ls.map rowL:=fun q=>Y6 q _ (Z9 ls)
 have hrO:∀ q,Z3 q (Z0 O)=Z0 O:=fun q=>Z5 q _
 unfold wvB at *;generalize ls.map rowL=rows at *;generalize Z0 O=OO at *;have hn0:¬((ls.length:Int)=0):=by omega
 have hne:ls≠[]:=by intro e; subst e; simp at hd
 have htm:(d:Int).tmod 2=((d % 2:Nat):Int):=rfl;have htd:(d:Int).tdiv 2=((d / 2:Nat):Int):=rfl;have hwd:IntKind.i64.wrap ((d / 2:Nat):Int)=((d / 2:Nat):Int):=Z6 (by omega) (by omega)
 have hwe:IntKind.i64.wrap (((d / 2:Nat):Int)+1)=((d / 2+1:Nat):Int):=by rw[Z6 (by omega) (by omega)]; omega
 have hm2:((d / 2+1:Nat):Int).tmod (ls.length:Int)=(((d / 2+1) % ls.length:Nat):Int):=rfl;unfold X3 at hK;by_cases hp:d % 2=0
 ·rw[if_pos hp]at hK;generalize d / 2=g at *;simp[htm,htd,hp,hwd,hwe,hm2,hll,hn0,hne,-Int.natCast_add,-Int.natCast_emod];exact Y1 hK [] (by simp[hrr,hrO])
 ·rw[if_neg hp]at hK;generalize d / 2=g at *;generalize d % 2=z at *;simp[htm,htd,hp,hwd];exact Y1 hK [] (by simp[hrr,hrO])
set_option maxRecDepth 100000 in
set_option maxHeartbeats 2000000 in
theorem Zzv(ls:List Lt)(O:List Nat)(k d:Nat)(h:ls.length≤1000)(hw:Wv ls)(hO:∀ v,v<ls.length→(at' ls v).k=2→O[v]? = some (otN ls v))(hd:d<2*ls.length)(hk:(ldN ls d).k=2) :
 Ctr Tryz.prog 155 [.ptr 1 0 0,.int .i64 d] ⟨[(1,wvB ls O (.sl 2 0 k))],3⟩ fun r m=>r=.int .i64 (tnN ls d:Nat)∧m=⟨[(1,wvB ls O (.sl 2 0 k))],3⟩:=by
 refine A3 hm Tryz.func155 Zvp rfl rfl fun K hK=>?_
 have hend:=cEnd ls O k d h hd;have hhd:=Zah hd;have hrow:=C6 ls hhd;obtain⟨_,hrow2⟩:=Y9 hrow;have hoN:=D6 (hO _ hhd hk);obtain⟨hol,hoN2⟩:=Y9 hoN;obtain⟨w1,_⟩:=hw.oth _ hhd hk;have htn:tnN ls d=U3 ls.length (otN ls (X3 ls.length d)) ((d % 2 == 0) == ((ldN ls d).o == ((ldN ls d).s == 1))):=by
  unfold tnN;rw[Zfm hd];have:(at' ls (X3 ls.length d)).k=2:=hk;rw[if_pos this];rfl
 rw[htn]at hK;have hld:ldN ls d=at' ls (X3 ls.length d):=rfl;rw[hld]at hK;have hll:(ls.map rowL).length=ls.length:=List.length_map ..;have hrr:∀ q,Z3 q (ls.map rowL)=ls.map rowL:=fun q=>Y6 q _ (Z9 ls)
 have hrO:∀ q,Z3 q (Z0 O)=Z0 O:=fun q=>Z5 q _
 clear hk hO htn hld;unfold wvB at *;generalize ls.map rowL=rows at *;unfold rowL at hrow hrow2;generalize at' ls (X3 ls.length d)=l at *;generalize hOO:Z0 O=OO at *;have hw1':otN ls (X3 ls.length d)<ls.length:=w1;generalize otN ls (X3 ls.length d)=u at *;generalize X3 ls.length d=v at *;have hne:ls≠[]:=by intro e; subst e; simp at hd
 have htm:(d:Int).tmod 2=((d % 2:Nat):Int):=rfl;simp;refine U6 hend [(1,1),(2,2)] (by simp) (by simp[hrr,hrO]) (by simp) ?_
 rintro _ _ ⟨rfl,rfl⟩;have he:((d % 2 == 0) == (l.o == (l.s == 1)))=(decide ((d:Int).tmod 2=0) == (l.o == decide (l.s=1))):=by
  rw[htm];have e1:(d % 2 == 0)=decide (((d % 2:Nat):Int)=0):=by rw[Bool.eq_iff_iff]; simp; omega
  rw[e1];rfl
 rw[he]at hK;have hw1:IntKind.i64.wrap (2*(u:Int))=((2*u:Nat):Int):=by rw[Z6 (by omega) (by omega)]; omega
 have hw2:IntKind.i64.wrap ((u:Int) - 1)=(u:Int) - 1:=Z6 (by omega) (by omega)
 have hw3:IntKind.i64.wrap ((u:Int) - 1+(ls.length:Int))=((u+ls.length - 1:Nat):Int):=by rw[Z6 (by omega) (by omega)]; omega
 have hm2:((u+ls.length - 1:Nat):Int).tmod (ls.length:Int)=(((u+ls.length - 1) % ls.length:Nat):Int):=rfl;have hml:(u+ls.length - 1) % ls.length<ls.length:=Nat.mod_lt _ (by omega)
 simp[hrow,hrow2,hll,hhd,hoN,hoN2,hol,hrr,hrO];unfold U3 at hK;cases hc:(decide ((d:Int).tmod 2=0) == (l.o == decide (l.s=1)))with
 | true=>
  rw[hc,if_pos rfl]at hK;simp only[hw1];exact Y1 hK [] (by simp[hrr,hrO])
 | false=>
  rw[hc,if_neg (by simp)]at hK
  generalize (u+ls.length - 1) % ls.length=z at *;generalize u+ls.length - 1=y at *;have hw4:IntKind.i64.wrap (2*(z:Int))=((2*z:Nat):Int):=by rw[Z6 (by omega) (by omega)]; omega
  have hw5:IntKind.i64.wrap (((2*z:Nat):Int)+1)=((2*z+1:Nat):Int):=by rw[Z6 (by omega) (by omega)]; omega
  generalize 2*z+1=y2 at *;generalize 2*z=y1 at *;simp only[hw2,hw3,hm2];simp[hne,hw4,hw5];exact Y1 hK [] (by simp[hrr,hrO])
set_option maxRecDepth 100000 in
set_option maxHeartbeats 4000000 in
theorem cRun(ls:List Lt)(O front:List Nat)(i:Nat)(h:ls.length≤1000)(hw:Wv ls)(hO:∀ v,v<ls.length→(at' ls v).k=2→O[v]? = some (otN ls v))(hi:i<front.length)(hfl:front.length≤10000)(hf:∀ d,d∈front→d<2*ls.length) :
 Ctr Tryz.prog 154 [.ptr 1 0 0,.int .i64 i] ⟨[(1,wvB ls O (.sl 2 0 front.length)),(2,.cells 1 (Z0 front))],3⟩ fun r m=>
  r=.int .i64 (1+D0 ls (ldN ls (front.getD i 0)).i front (i+1):Nat)∧m=⟨[(1,wvB ls O (.sl 2 0 front.length)),(2,.cells 1 (Z0 front))],3⟩:=by
 refine A3 hm Tryz.func154 Zs4 rfl rfl fun K hK=>?_
 have hend:=fun d hd=>cEnd ls O front.length d h hd
 have hleft:=fun d hd hk=>Zzv ls O front.length d h hw hO hd hk
 have hll:(ls.map rowL).length=ls.length:=List.length_map ..;have hrr:∀ q,Z3 q (ls.map rowL)=ls.map rowL:=fun q=>Y6 q _ (Z9 ls)
 have hrO:∀ q,Z3 q (Z0 O)=Z0 O:=fun q=>Z5 q _
 have hrn:∀ q,Z3 q (Z0 front)=Z0 front:=fun q=>Z5 q _
 have hgn:=fun i (hi:i<front.length)=>Zm2 hi
 have hnl:(Z0 front).length=front.length:=M0 front;have hmem:=fun j (hj:j<front.length)=>hf _ (Zip hj)
 have hrow:=fun i hi=>C6 ls (i:=i) hi
 have hld:∀ d,ldN ls d=at' ls (X3 ls.length d):=fun _=>rfl
 unfold wvB at *;generalize ls.map rowL=rows at *;unfold rowL at hrow;generalize Z0 O=OO at *;generalize Z0 front=FF at *;have hg:=hgn i hi;obtain⟨_,hg2⟩:=Y9 hg;have he0:=hend _ (hmem i hi);have hh0:=Zah (hmem i hi);have hr0:=hrow _ hh0;obtain⟨_,hr02⟩:=Y9 hr0;obtain⟨id,hid⟩:∃ id,(ldN ls (front.getD i 0)).i=id:=⟨_,rfl⟩
 rw[hid]at hK;rw[hld]at hid;rw[hid]at hr0 hr02;generalize front.getD i 0=a at *;simp[hg,hg2,hi,hnl];refine Zea he0 (by simp) [(1,1),(2,2)] (by simp) (by simp[EqRB,hrr,hrO]) (by simp) (fun s=>by simp) (by simp) ?_
 simp[hr0,hr02,hll,hh0];refine T1 (α:=Nat) (fun n=>[(6,.int .i64 n),(5,.int .i64 id),(0,.ptr 1 0 0),(1,.int .i64 i)]) (fun n=>⟨[(1,.cells 3 [[.imm rows,.imm OO,.sl 2 0 front.length]]),(2,.cells 1 FF)],3⟩) (fun n=>front.length - (i+n))
  (fun n=>1≤n∧i+n≤front.length∧n+D0 ls id front (i+n)=1+D0 ls id front (i+1)) 1 [] (by simp[hrr,hrO,hrn]) ⟨by omega,by omega,rfl⟩ ?_
 rintro n ⟨hn1,hnl2,hsum⟩ N hN
 try simp only at hn1 hnl2 hsum hN ⊢
 rw[← hsum]at hK;obtain⟨j,hj⟩:∃ j,i+n=j:=⟨_,rfl⟩
 rw[hj]at hK;have hwj:IntKind.i64.wrap ((i:Int)+(n:Int))=(j:Int):=by rw[Z6 (by omega) (by omega)]; omega
 by_cases hlt:j<front.length
 ·have hgj:=hgn j hlt;obtain⟨_,hgj2⟩:=Y9 hgj;have hgp:=hgn (j - 1) (by omega)
  obtain⟨hpl,hgp2⟩:=Y9 hgp;have hwp:IntKind.i64.wrap ((j:Int) - 1)=((j - 1:Nat):Int):=by rw[Z6 (by omega) (by omega)]; omega
  have hwn:IntKind.i64.wrap ((n:Int)+1)=((n+1:Nat):Int):=by rw[Z6 (by omega) (by omega)]; omega
  have hx:=hmem j hlt;have hy:=hmem (j - 1) (by omega)
  have hex:=hend _ hx;have hlx:=hleft _ hx;have hrev:=Zrt (front.getD (j - 1) 0) (by omega)
  have hhx:=Zah hx;have hrx:=hrow _ hhx;obtain⟨_,hrx2⟩:=Y9 hrx;have hok:okF ls id front j=(decide ((ldN ls (front.getD j 0)).k=2)&&decide ((ldN ls (front.getD j 0)).i=id)&&decide (tnN ls (front.getD j 0)=bkN (front.getD (j - 1) 0))):=rfl;have hldx:=hld (front.getD j 0);have hj1:j - 1<front.length:=by omega
  have hlt':(j:Int)<(front.length:Int):=by omega
  generalize front.getD j 0=x at *;generalize front.getD (j - 1) 0=y at *;generalize j - 1=j1 at *;rw[hldx]at hok hlx;generalize X3 ls.length x=v at *;generalize hlv:at' ls v=l at *;have hno:okF ls id front j=false→K (.int .i64 n) ⟨[(1,.cells 3 [[.imm rows,.imm OO,.sl 2 0 front.length]]),(2,.cells 1 FF)],3⟩:=fun e=>by
   rw[Zau (fun e2=>by rw[e]at e2; exact absurd e2.2 (by simp)),Nat.add_zero]at hK
   exact hK
  simp[hwj,hlt,hlt',hnl,hgj,hgj2];refine Zea hex (by simp) [(1,1),(2,2)] (by simp) (by simp[EqRB,hrr,hrO]) (by simp) (fun s=>by simp) (by simp) ?_
  by_cases hk:l.k=2
  ·by_cases hi2:l.i=id
   ·have hl2:=hlx hk;rw[decide_eq_true hk,decide_eq_true hi2]at hok;simp[hrx,hrx2,hll,hhx,hk,hi2];refine Zea hl2 (by simp) [(1,1),(2,2)] (by simp) (by simp[EqRB,hrr,hrO]) (by simp) (fun s=>by simp) (by simp) ?_
    simp[hwj,hwp,hgp,hgp2,hnl,hj1,hpl];refine B8 hrev ?_;by_cases ht:tnN ls x=bkN y
    ·rw[decide_eq_true ht]at hok;simp[ht,hwn];refine hN (n+1) [] _ _ (by omega) ⟨by omega,by omega,?_⟩ (by simp[hrr,hrO,hrn])
     rw[show i+(n+1)=j+1 by omega,← hsum,hj,Zf7 hlt hok]
     omega
    ·have ht':¬((tnN ls x:Nat):Int)=(bkN y:Nat):=by omega
     rw[decide_eq_false ht]at hok;simp[ht,ht'];exact Y1 (hno hok) [] (by simp[hrr,hrO,hrn])
   ·rw[decide_eq_false hi2,Bool.and_false]at hok;simp[hrx,hrx2,hll,hhx,hk,hi2];exact Y1 (hno hok) [] (by simp[hrr,hrO,hrn])
  ·rw[decide_eq_false hk,Bool.false_and]at hok;simp[hrx,hrx2,hll,hhx,hk];exact Y1 (hno hok) [] (by simp[hrr,hrO,hrn])
 ·have hlt':¬(j:Int)<(front.length:Int):=by omega
  rw[Zau (fun e=>hlt e.1),Nat.add_zero]at hK
  simp[hwj,hlt,hlt',hnl];exact Y1 hK [] (by simp[hrr,hrO,hrn])
end Go.Known
end
