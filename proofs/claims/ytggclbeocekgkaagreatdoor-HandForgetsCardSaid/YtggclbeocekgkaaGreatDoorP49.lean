/- Part 49 of the proof: Tp. -/
import Derived.Test.YtggclbeocekgkaaGreatDoorP1
import Derived.Test.YtggclbeocekgkaaGreatDoorP33
import Derived.Test.YtggclbeocekgkaaGreatDoorP42
import Derived.Deep.QuietTactic
import Derived.BigQuiet
set_option linter.all false
namespace Go.Ac
open Go Go.AE Go.Proofs Go.RowKit Go.Sort
open Go.Plain
theorem Z3h(x1 x2 y1 y2:Nat)(ra rb:Int)(B o B2 o2 n cap:Nat)(W:World)(hB:B<W.heap.size)(Xz:B2<W.heap.size)
 (hs:W.cell? ⟨B,o+1,none⟩=some (.slice (some ⟨B2,o2,none⟩) n cap)) (hx:x1<n) (hy:y1<n)
 (ha:W.cell? ⟨B2,o2+x1*6+2,none⟩=some (.int .i64 ra)) (hb:W.cell? ⟨B2,o2+y1*6+2,none⟩=some (.int .i64 rb)) (hw:IntKind.i64.wrap (ra - rb)=ra - rb) :
 Calls Tryz.prog 79 #[.agg #[.int .i64 x1,.int .i64 x2],.agg #[.int .i64 y1,.int .i64 y2],.pointer (some ⟨B,o,none⟩)] W fun e w'=>e=.returned (.int .i64 (ra - rb)) ∧ ∃ q os,w'=Sort.grow (W.drewN q) os:=by
 go_enter Tryz.func79,Tryz.ntmps79
 go_wp2
 go_quiet (fail)
 go_wp2
 go_ret
 exact⟨rfl,nq,_,by rw[alloc_eq_grow,alloc_eq_grow,grow_grow]; rfl⟩
def LL(p:Nat×Nat):List Value:=[.int .i64 p.1,.int .i64 p.2]
theorem Z1w{Wb:AA}{Φ:Ao}{ρ:AD}{m:Mem}{w:World}{f:Int}{ls:List Lt}(hr:Rel Wb Φ ρ m w)(h1:m.get 1=some (.cells 2 [[.int .i64 f,.Aj (ls.map Ab)]])){vc:Array Value}(Sd:RL Φ ρ [.ptr 1 0 0] vc)(x y:Nat×Nat)
 (hx:x.1<ls.length) (hy:y.1<ls.length) (hw:IntKind.i64.wrap ((at' ls x.1).r - (at' ls y.1).r)=(at' ls x.1).r - (at' ls y.1).r) :
 Calls Tryz.prog 79 (#[.agg (LL x).toArray,.agg (LL y).toArray]++vc) w fun e w'=>e=.returned (.int .i64 ((at' ls x.1).r - (at' ls y.1).r)) ∧ ∃ q os,w'=Sort.grow (w.drewN q) os:=by
 obtain⟨u,rfl⟩:∃ u,vc = #[u]:=by
  have hs:=Sd.1;obtain⟨l⟩:=vc
  match l,hs with
  | [u],_=>exact ⟨u,rfl⟩
 have hu:R Φ ρ (.ptr 1 0 0) u:=Sd.2 0 _ _ rfl rfl;obtain⟨B,o,c,e,fz,rfl,hB,hc⟩:=bO hr hu (row:=[.int .i64 f,.Aj (ls.map Ab)]) (j:=0) (by simp only[AE.rowAt,h1]; rfl)
 obtain⟨us,hc1,hus⟩:=hc 1 _ rfl;have hgx:=Lu ls hx;have hgy:=Lu ls hy;have hs:w.cell? ⟨B,o+1,none⟩=some us:=by simp[World.cell?,hB,hc1]
 have hrow:=fun i hi=>Lu ls (i:=i) hi
 have hll:(ls.map Ab).length=ls.length:=lM ..;generalize ls.map Ab=rows at *;cases hus with
 | BS a cap hz=>simp at hgx
 | Aj _ B2 o2 k cap c2 g hne hcap Xz hk Ck Ak=>
  have hk6:k=6:=(hk _ _ hgx).symm.trans rfl;subst hk6;obtain⟨e2,fz2,hh2⟩:=hr.Bn B2 c2 Xz;have cell:∀ i,i<ls.length→w.cell? ⟨B2,o2+i*6+2,none⟩=some (.int .i64 (at' ls i).r):=by
   intro i hi;have hgi:=hrow i hi;have h3:=(Ck i _ 2 _ hgi rfl).1;have h4:=K4 (Ak i _ 2 _ hgi rfl);rw[h4]at h3;simp[World.cell?,hh2,h3]
  exact Z3h x.1 x.2 y.1 y.2 _ _ B o B2 o2 _ cap w (Lx hB) (Lx hh2) hs (by rw[hll]; exact hx) (by rw[hll]; exact hy) (cell _ hx) (cell _ hy) hw
def YI(ls:List Lt)(ps:List (Nat×Nat)):Prop:=ps.Pairwise fun a b=>(at' ls a.1).r≤(at' ls b.1).r
theorem Dz:DK LL Bk 2 where
 pos:=by decide
 len _:=rfl
 Mn _:=rfl
 one x v hv:=by simp[LL]at hv; rcases hv with rfl|rfl<;>rfl
 rel Φ ρ x j y v h1 h2:=by
  match j,h1,h2 with
  | 0,h1,h2=>simp[Bk,LL]at h1 h2; subst h1; subst h2; exact .int _ _
  | 1,h1,h2=>simp[Bk,LL]at h1 h2; subst h1; subst h2; exact .int _ _
  | j+2,h1,h2=>simp[Bk]at h1
 eC Φ ρ x j y v v' h1 h2 h3:=by
  match j,h1,h2 with
  | 0,h1,h2=>simp[Bk,LL]at h1 h2; subst h1; subst h2; exact K4 h3
  | 1,h1,h2=>simp[Bk,LL]at h1 h2; subst h1; subst h2; exact K4 h3
  | j+2,h1,h2=>simp[Bk]at h1
def A8(ls:List Lt)(p:Nat×Nat):Prop:=p.1<ls.length∧0≤(at' ls p.1).r∧(at' ls p.1).r≤1000
set_option maxHeartbeats 1000000 in
theorem Z5i(f:Int)(ls:List Lt)(ps:List (Nat×Nat))(hps:ps≠[])(hp:∀ p,p∈ps→A8 ls p)(hlen:ps.length≤1000) :
 AV Tryz.prog 78 [.sl 2 0 ps.length,.func (.func 79) [] [.ptr 1 0 0]] ⟨[(2,.cells 2 (ps.map Bk)),(1,.cells 2 [[.int .i64 f,.Aj (ls.map Ab)]])],3⟩ fun r m=>
  r=Ag ∧ ∃ ps':List (Nat×Nat),ps'.Perm ps∧YI ls ps'∧m=⟨[(2,.cells 2 (ps'.map Bk)),(1,.cells 2 [[.int .i64 f,.Aj (ls.map Ab)]])],3⟩:=by
 obtain⟨p0,Gt⟩:=List.exists_mem_of_ne_nil ps hps
 letI:Inhabited {p:Nat×Nat // A8 ls p}:=⟨⟨p0,hp p0 Gt⟩⟩
 have E:DK (fun x:{p:Nat×Nat // A8 ls p}=>LL x.1) (fun x=>Bk x.1) 2:=⟨Dz.pos,fun _=>rfl,fun _=>rfl,fun x=>Dz.one x.1,fun Φ ρ x=>Dz.rel Φ ρ x.1,fun Φ ρ x=>Dz.eC Φ ρ x.1⟩
 have hw:∀ x y:{p:Nat×Nat // A8 ls p},IntKind.i64.wrap ((at' ls x.1.1).r - (at' ls y.1.1).r)=(at' ls x.1.1).r - (at' ls y.1.1).r:=fun x y=>by
  have h1:=x.2.2;have h2:=y.2.2;exact G8 (by omega) (by omega)
 have hlt:∀ x y:{p:Nat×Nat // A8 ls p},Go.Proofs.ltOf (fun x y:{p:Nat×Nat // A8 ls p}=>(at' ls x.1.1).r - (at' ls y.1.1).r) x y=decide ((at' ls x.1.1).r<(at' ls y.1.1).r):=fun x y=>by
  unfold Go.Proofs.ltOf;by_cases h:(at' ls x.1.1).r<(at' ls y.1.1).r
  ·simp[h]; omega
  ·simp[h]; omega
 have hO:SWO (Go.Proofs.ltOf fun x y:{p:Nat×Nat // A8 ls p}=>(at' ls x.1.1).r - (at' ls y.1.1).r):={
  irrefl:=fun x=>by rw[hlt]; simp
  trans:=fun x y z h1 h2=>by rw[hlt]at *; simp at *; omega
  ntrans:=fun x y z h1 h2=>by rw[hlt]at *; simp at *; omega }
 have eg:∀ args w,(callFunc 79 args).run Tryz.prog w=.ok (.enter 79 args) w:=enters_of Tryz.func79 (by kernel_rfl) rfl
 have hal:(ps.attachWith (A8 ls) hp).length=ps.length:=by simp
 have CN:(ps.attachWith (A8 ls) hp).map (fun x=>Bk x.1)=ps.map Bk:=by
  have h1:(ps.attachWith (A8 ls) hp).map Subtype.val=ps:=List.attachWith_map_subtype_val ..;have h2:=congrArg (List.map Bk) h1;rw[List.map_map]at h2;exact h2
 have key:=Z8p (P:=Tryz.prog) (rn:=Tryz.CF) Tryz.FF ⟨_,Tryz.func78,rfl,rfl⟩ Tryz.isAgg149 Tryz.sizeOf149 E (fun x y=>(at' ls x.1.1).r - (at' ls y.1.1).r) hO
  79 eg (m:=Ad.mem ⟨[(2,.cells 2 (ps.map Bk)),(1,.cells 2 [[.int .i64 f,.Aj (ls.map Ab)]])],3⟩) (b:=2) (off:=0) (els:=ps.map Bk) (cb:=[.ptr 1 0 0]) rfl (ps.attachWith (A8 ls) hp)
  (fun e=>hps (List.length_eq_zero_iff.1 (by rw[← hal,e]; rfl))) (by rw[CN,hal,List.drop_zero,tL (by simp)]) (by omega)
  (fun Wb Φ ρ vc x w hr Sd a b=>Z1w (f:=f) (ls:=ls) hr rfl Sd a.1 b.1 a.2.1 b.2.1 (hw a b))
 rw[hal]at key;refine Au.mono key fun r m' hh=>?_
 obtain⟨rfl,d',hperm,hsort,rfl⟩:=hh;have hd'l:d'.length=ps.length:=by rw[hperm.length_eq,hal]
 refine⟨⟨[(2,.cells 2 ((d'.map Subtype.val).map Bk)),(1,.cells 2 [[.int .i64 f,.Aj (ls.map Ab)]])],3⟩,?_,rfl,d'.map Subtype.val,?_,?_,rfl⟩
 ·refine Mem.ext' (fun c=>?_) rfl
  simp only[Mem.AH,Ad.mem,Ad.get,X2];by_cases h2:c=2
  ·rw[iP h2,iP h2];have e1:(ps.map Bk).drop (0+ps.length)=[]:=List.drop_eq_nil_of_le (by simp)
   rw[e1,List.take_zero,List.nil_append,List.append_nil,List.map_map];rfl
  ·rw[iN h2,iN h2,iN h2]
 ·have h1:(ps.attachWith (A8 ls) hp).map Subtype.val=ps:=List.attachWith_map_subtype_val ..;have h2:=hperm.map Subtype.val;rw[h1]at h2;exact h2
 ·unfold YI;rw[List.pairwise_iff_getElem];intro i j hi hj hij;have hi':i<d'.length:=by simpa using hi
  have hj':j<d'.length:=by simpa using hj
  have:=hsort i j hij hj';rw[hlt,getElem!_pos d' j hj',getElem!_pos d' i hi',decide_eq_false_iff_not]at this;rw[List.getElem_map,List.getElem_map];omega
theorem we(m:Ad)(f:Aa):AV Tryz.prog 78 [.Ae,f] m fun r m'=>r=Ag∧m'=m:=
 Au.mono (Z0g (P:=Tryz.prog) (rn:=Tryz.CF) Tryz.FF ⟨_,Tryz.func78,rfl,rfl⟩) fun r m' hh=>by
  obtain⟨rfl,rfl⟩:=hh;exact⟨m,rfl,rfl,rfl⟩
end Go.Ac
