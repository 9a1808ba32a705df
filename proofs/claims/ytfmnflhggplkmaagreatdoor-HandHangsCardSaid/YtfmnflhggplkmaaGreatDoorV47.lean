/- Part 47 of the proof: Tp. -/
import Derived.Test.YtfmnflhggplkmaaGreatDoorV41
import Derived.Test.YtfmnflhggplkmaaGreatDoorV46
import Derived.Deep.QuietTactic
import Derived.BigQuiet
set_option linter.all false
namespace Go.Known
open Go Go.AE Go.Proofs Go.RowKit Go.Sort
open Go.Plain
theorem loops1_walk (x1 x2 y1 y2:Nat) (ra rb:Int) (B o B2 o2 n cap:Nat) (W:World) (hB:B<W.heap.size) (hB2:B2<W.heap.size)
 (hs:W.cell? ⟨B,o+1,none⟩=some (.slice (some ⟨B2,o2,none⟩) n cap)) (hx:x1<n) (hy:y1<n)
 (ha:W.cell? ⟨B2,o2+x1*6+2,none⟩=some (.int .i64 ra)) (hb:W.cell? ⟨B2,o2+y1*6+2,none⟩=some (.int .i64 rb)) (hw:IntKind.i64.wrap (ra - rb)=ra - rb) :
 Calls Tryz.prog 54 #[.agg #[.int .i64 x1,.int .i64 x2],.agg #[.int .i64 y1,.int .i64 y2],.pointer (some ⟨B,o,none⟩)] W fun e w'=>e=.returned (.int .i64 (ra - rb)) ∧ ∃ q os,w'=Sort.grow (W.drewN q) os:=by
 go_enter Tryz.func54,Tryz.ntmps54
 go_wp2
 go_quiet (fail)
 go_wp2
 go_ret
 exact⟨rfl,nq,_,by rw[alloc_eq_grow,alloc_eq_grow,grow_grow]; rfl⟩
def lrowV (p:Nat×Nat):List Value:=[.int .i64 p.1,.int .i64 p.2]
theorem loops1_calls {Wb:Base} {Φ:Pers} {ρ:Rho} {m:Mem} {w:World} {f:Int} {ls:List Lt} (hr:Rel Wb Φ ρ m w) (h1:m.get 1=some (.cells 2 [[.int .i64 f,.imm (ls.map rowL)]])) {vc:Array Value} (hvc:RL Φ ρ [.ptr 1 0 0] vc) (x y:Nat×Nat)
 (hx:x.1<ls.length) (hy:y.1<ls.length) (hw:IntKind.i64.wrap ((at' ls x.1).r - (at' ls y.1).r)=(at' ls x.1).r - (at' ls y.1).r) :
 Calls Tryz.prog 54 (#[.agg (lrowV x).toArray,.agg (lrowV y).toArray]++vc) w fun e w'=>e=.returned (.int .i64 ((at' ls x.1).r - (at' ls y.1).r)) ∧ ∃ q os,w'=Sort.grow (w.drewN q) os:=by
 obtain⟨u,rfl⟩:∃ u,vc = #[u]:=by
  have hs:=hvc.1
  obtain⟨l⟩:=vc
  match l,hs with
  | [u],_=>exact ⟨u,rfl⟩
 have hu:R Φ ρ (.ptr 1 0 0) u:=hvc.2 0 _ _ rfl rfl
 obtain⟨B,o,c,e,fz,rfl,hB,hc⟩:=row_cells hr hu (row:=[.int .i64 f,.imm (ls.map rowL)]) (j:=0) (by simp only[AE.rowAt,h1]; rfl)
 obtain⟨us,hc1,hus⟩:=hc 1 _ rfl
 have hgx:=get_row ls hx
 have hgy:=get_row ls hy
 have hs:w.cell? ⟨B,o+1,none⟩=some us:=by simp[World.cell?,hB,hc1]
 have hrow:=fun i hi=>get_row ls (i:=i) hi
 have hll:(ls.map rowL).length=ls.length:=List.length_map ..
 generalize ls.map rowL=rows at *
 cases hus with
 | imm0 a cap hz=>simp at hgx
 | imm _ B2 o2 k cap c2 g hne hcap hB2 hk hcc hrr=>
  have hk6:k=6:=(hk _ _ hgx).symm.trans rfl
  subst hk6
  obtain⟨e2,fz2,hh2⟩:=hr.pers B2 c2 hB2
  have cell:∀ i,i<ls.length→w.cell? ⟨B2,o2+i*6+2,none⟩=some (.int .i64 (at' ls i).r):=by
   intro i hi
   have hgi:=hrow i hi
   have h3:=(hcc i _ 2 _ hgi rfl).1
   have h4:=int_R (hrr i _ 2 _ hgi rfl)
   rw[h4]at h3
   simp[World.cell?,hh2,h3]
  exact loops1_walk x.1 x.2 y.1 y.2 _ _ B o B2 o2 _ cap w (heap_lt hB) (heap_lt hh2) hs (by rw[hll]; exact hx) (by rw[hll]; exact hy) (cell _ hx) (cell _ hy) hw
def RankS (ls:List Lt) (ps:List (Nat×Nat)):Prop:=ps.Pairwise fun a b=>(at' ls a.1).r≤(at' ls b.1).r
theorem lrow_enc:RowEnc lrowV lrow 2 where
 pos:=by decide
 len _:=rfl
 lenA _:=rfl
 one x v hv:=by simp[lrowV]at hv; rcases hv with rfl|rfl<;>rfl
 rel Φ ρ x j y v h1 h2:=by
  match j,h1,h2 with
  | 0,h1,h2=>simp[lrow,lrowV]at h1 h2; subst h1; subst h2; exact .int _ _
  | 1,h1,h2=>simp[lrow,lrowV]at h1 h2; subst h1; subst h2; exact .int _ _
  | j+2,h1,h2=>simp[lrow]at h1
 det Φ ρ x j y v v' h1 h2 h3:=by
  match j,h1,h2 with
  | 0,h1,h2=>simp[lrow,lrowV]at h1 h2; subst h1; subst h2; exact int_R h3
  | 1,h1,h2=>simp[lrow,lrowV]at h1 h2; subst h1; subst h2; exact int_R h3
  | j+2,h1,h2=>simp[lrow]at h1
def LpOk (ls:List Lt) (p:Nat×Nat):Prop:=p.1<ls.length∧0≤(at' ls p.1).r∧(at' ls p.1).r≤1000
set_option maxHeartbeats 1000000 in
theorem cSortL (f:Int) (ls:List Lt) (ps:List (Nat×Nat)) (hps:ps≠[]) (hp:∀ p,p∈ps→LpOk ls p) (hlen:ps.length≤1000) :
 Ctr Tryz.prog 53 [.sl 2 0 ps.length,.func (.func 54) [] [.ptr 1 0 0]] ⟨[(2,.cells 2 (ps.map lrow)),(1,.cells 2 [[.int .i64 f,.imm (ls.map rowL)]])],3⟩ fun r m=>
  r=aundef ∧ ∃ ps':List (Nat×Nat),ps'.Perm ps∧RankS ls ps'∧m=⟨[(2,.cells 2 (ps'.map lrow)),(1,.cells 2 [[.int .i64 f,.imm (ls.map rowL)]])],3⟩:=by
 obtain⟨p0,hp0⟩:=List.exists_mem_of_ne_nil ps hps
 letI:Inhabited {p:Nat×Nat // LpOk ls p}:=⟨⟨p0,hp p0 hp0⟩⟩
 have E:RowEnc (fun x:{p:Nat×Nat // LpOk ls p}=>lrowV x.1) (fun x=>lrow x.1) 2:=⟨lrow_enc.pos,fun _=>rfl,fun _=>rfl,fun x=>lrow_enc.one x.1,fun Φ ρ x=>lrow_enc.rel Φ ρ x.1,fun Φ ρ x=>lrow_enc.det Φ ρ x.1⟩
 have hw:∀ x y:{p:Nat×Nat // LpOk ls p},IntKind.i64.wrap ((at' ls x.1.1).r - (at' ls y.1.1).r)=(at' ls x.1.1).r - (at' ls y.1.1).r:=fun x y=>by
  have h1:=x.2.2
  have h2:=y.2.2
  exact wrap64 (by omega) (by omega)
 have hlt:∀ x y:{p:Nat×Nat // LpOk ls p},Go.Proofs.ltOf (fun x y:{p:Nat×Nat // LpOk ls p}=>(at' ls x.1.1).r - (at' ls y.1.1).r) x y=decide ((at' ls x.1.1).r<(at' ls y.1.1).r):=fun x y=>by
  unfold Go.Proofs.ltOf
  by_cases h:(at' ls x.1.1).r<(at' ls y.1.1).r
  ·simp[h]; omega
  ·simp[h]; omega
 have hO:SWO (Go.Proofs.ltOf fun x y:{p:Nat×Nat // LpOk ls p}=>(at' ls x.1.1).r - (at' ls y.1.1).r):={
  irrefl:=fun x=>by rw[hlt]; simp
  trans:=fun x y z h1 h2=>by rw[hlt]at *; simp at *; omega
  ntrans:=fun x y z h1 h2=>by rw[hlt]at *; simp at *; omega }
 have eg:∀ args w,(callFunc 54 args).run Tryz.prog w=.ok (.enter 54 args) w:=enters_of Tryz.func54 (by kernel_rfl) rfl
 have hal:(ps.attachWith (LpOk ls) hp).length=ps.length:=by simp
 have hav:(ps.attachWith (LpOk ls) hp).map (fun x=>lrow x.1)=ps.map lrow:=by
  have h1:(ps.attachWith (LpOk ls) hp).map Subtype.val=ps:=List.attachWith_map_subtype_val ..
  have h2:=congrArg (List.map lrow) h1
  rw[List.map_map]at h2
  exact h2
 have key:=sort_calls (P:=Tryz.prog) (rn:=Tryz.sortLoop_ren) Tryz.sortLoop ⟨_,Tryz.func53,rfl,rfl⟩ Tryz.isAgg112 Tryz.sizeOf112 E (fun x y=>(at' ls x.1.1).r - (at' ls y.1.1).r) hO
  54 eg (m:=SMem.mem ⟨[(2,.cells 2 (ps.map lrow)),(1,.cells 2 [[.int .i64 f,.imm (ls.map rowL)]])],3⟩) (b:=2) (off:=0) (els:=ps.map lrow) (cb:=[.ptr 1 0 0]) rfl (ps.attachWith (LpOk ls) hp)
  (fun e=>hps (List.length_eq_zero_iff.1 (by rw[← hal,e]; rfl))) (by rw[hav,hal,List.drop_zero,List.take_of_length_le (by simp)]) (by omega)
  (fun Wb Φ ρ vc x w hr hvc a b=>loops1_calls (f:=f) (ls:=ls) hr rfl hvc a.1 b.1 a.2.1 b.2.1 (hw a b))
 rw[hal]at key
 refine ACalls.mono key fun r m' hh=>?_
 obtain⟨rfl,d',hperm,hsort,rfl⟩:=hh
 have hd'l:d'.length=ps.length:=by rw[hperm.length_eq,hal]
 refine⟨⟨[(2,.cells 2 ((d'.map Subtype.val).map lrow)),(1,.cells 2 [[.int .i64 f,.imm (ls.map rowL)]])],3⟩,?_,rfl,d'.map Subtype.val,?_,?_,rfl⟩
 ·refine Mem.ext' (fun c=>?_) rfl
  simp only[Mem.get_set,SMem.mem,SMem.get,lookB]
  by_cases h2:c=2
  ·rw[if_pos h2,if_pos h2]
   have e1:(ps.map lrow).drop (0+ps.length)=[]:=List.drop_eq_nil_of_le (by simp)
   rw[e1,List.take_zero,List.nil_append,List.append_nil,List.map_map]
   rfl
  ·rw[if_neg h2,if_neg h2,if_neg h2]
 ·have h1:(ps.attachWith (LpOk ls) hp).map Subtype.val=ps:=List.attachWith_map_subtype_val ..
  have h2:=hperm.map Subtype.val
  rw[h1]at h2
  exact h2
 ·unfold RankS
  rw[List.pairwise_iff_getElem]
  intro i j hi hj hij
  have hi':i<d'.length:=by simpa using hi
  have hj':j<d'.length:=by simpa using hj
  have:=hsort i j hij hj'
  rw[hlt,getElem!_pos d' j hj',getElem!_pos d' i hi',decide_eq_false_iff_not]at this
  rw[List.getElem_map,List.getElem_map]
  omega
theorem cSortL0 (m:SMem) (f:AVal):Ctr Tryz.prog 53 [.nilSl,f] m fun r m'=>r=aundef∧m'=m:=
 ACalls.mono (sort_nil (P:=Tryz.prog) (rn:=Tryz.sortLoop_ren) Tryz.sortLoop ⟨_,Tryz.func53,rfl,rfl⟩) fun r m' hh=>by
  obtain⟨rfl,rfl⟩:=hh
  exact⟨m,rfl,rfl,rfl⟩
end Go.Known
