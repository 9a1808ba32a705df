/- Part 38 of the proof: Tb, Rn, Rq, Ph, Rr, Rv, Po. -/
import Derived.Test.YtfmnflhggplkmaaGreatDoorV24
import Derived.Test.YtfmnflhggplkmaaGreatDoorV25
import Derived.Test.YtfmnflhggplkmaaGreatDoorV27
import Derived.Test.YtfmnflhggplkmaaGreatDoorV34
import Derived.Test.YtfmnflhggplkmaaGreatDoorV35
import Derived.Test.YtfmnflhggplkmaaGreatDoorV36
import Derived.Test.YtfmnflhggplkmaaGreatDoorV37
import Derived.ProofKit
import Derived.Carry
import Derived.Deep.Slices
set_option linter.all false
section
namespace Go.Known
open Go Go.AE Go.Proofs
open Go.Plain
open Go.ChangeShapes Go.WideShapes Go.RowKit Go.Deep
variable {H:Type} {enc:TypeId×Value→H} {w:World} {base:Nat} {spare:Nat→Bool} {held:Bool}
def allP (w:World):Pers:=fun B=>match w.heap[B]? with
 | some (.cells c _ _)=>some c
 | _=>none
theorem allP_of {w:World} {B:Nat} {c:Array Value} (h:allP w B=some c):∃ e fz,w.heap[B]? = some (.cells c e fz):=by
 unfold allP at h
 grind
theorem add_block (a:Addr) (n:Nat):(a.add n).block=a.block:=by unfold Addr.add; split<;>rfl
theorem add_off (a:Addr) (n:Nat):(a.add n).off=a.off+n:=by
 unfold Addr.add
 grind
theorem cells_get {w:World} {base:Nat} {a:Addr} {n:Nat} {cs:List Value} (h:w.cells? base a n=some cs):∀ j,j<n→w.cell? (a.add j)=cs[j]? ∧ cs.length=n:=by
 unfold World.cells? at h
 split at h
 ·intro j hj
  exact⟨mapM_some_get h j j (by simp[hj]),by simpa using mapM_some_length h⟩
 ·cases h
theorem cell_off {w:World} {a:Addr} {v:Value} (h:w.cell? a=some v):∃ c e fz,w.heap[a.block]? = some (.cells c e fz)∧c[a.off]? = some v:=by
 unfold World.cell? at h
 grind
theorem cell_spot {w:World} {a:Addr} {v:Value} (h:w.cell? a=some v):a.spot=none:=by
 unfold World.cell? at h
 split at h
 ·simp_all
 ·cases h
end Go.Known
end
section
namespace Go.Known
open Go Go.AE Go.Proofs
open Go.Plain
theorem imV_ne {rows:List (List AVal)} (h:¬rows=[]):imV rows=.imm rows:=by simp[imV,h]
end Go.Known
end
section
namespace Go.Known
open Go Go.AE Go.Proofs
open Go.Plain
theorem FRow.one {w:List Nat×Bool} {row:List AVal} (h:FRow w row):∀ x,x∈row→x.one=true:=by
 obtain⟨ab,o,P,G,rfl,_⟩:=h
 have hi:∀ rows:List (List AVal),(imV rows).one=true:=fun rows=>by unfold imV; split<;>rfl
 intro x hx
 simp only[List.mem_cons,List.not_mem_nil,or_false]at hx
 rcases hx with rfl|rfl|rfl|rfl|rfl<;>first|rfl|exact hi _
end Go.Known
end
section
namespace Go.Known
open Go.Plain
theorem cnt_idx (p:Lt→Bool) (ls:List Lt):∃ L:List Nat,L.Nodup∧cntP p ls=L.length ∧ ∀ x,x∈L↔(x<ls.length∧p (at' ls x)=true):=
 ⟨(List.range ls.length).filter fun j=>p (at' ls j),List.nodup_range.filter _,(range_filter ls p).symm,fun x=>by simp⟩
theorem cnt_one {p:Lt→Bool} {ls:List Lt} {j:Nat} (hj:j<ls.length) (hp:p (at' ls j)=true) (hu:∀ x,x<ls.length→p (at' ls x)=true→x=j):cntP p ls=1:=by
 obtain⟨L,hn,hl,hm⟩:=cnt_idx p ls
 rw[hl]
 have hjm:=(hm j).2 ⟨hj,hp⟩
 match L,hn,hm,hjm with
 | [],_,_,h=>simp at h
 | [_],_,_,_=>rfl
 | y :: z :: t,hn,hm,_=>
  have hy:=(hm y).1 (by simp)
  have hz:=(hm z).1 (by simp)
  grind
theorem one_cnt {p:Lt→Bool} {ls:List Lt} (h:cntP p ls=1) {j k:Nat} (hj:j<ls.length) (hpj:p (at' ls j)=true) (hk:k<ls.length) (hpk:p (at' ls k)=true):j=k:=by
 obtain⟨L,hn,hl,hm⟩:=cnt_idx p ls
 rw[hl]at h
 have hjm:=(hm j).2 ⟨hj,hpj⟩
 have hkm:=(hm k).2 ⟨hk,hpk⟩
 match L,h,hjm,hkm with
 | [y],_,hjm,hkm=>simp at hjm hkm; omega
theorem cnt_ex {p:Lt→Bool} {ls:List Lt} (h:0<cntP p ls):∃ j,j<ls.length∧p (at' ls j)=true:=by
 obtain⟨L,hn,hl,hm⟩:=cnt_idx p ls
 rw[hl]at h
 match L,h,hm with
 | y :: t,_,hm=>exact ⟨y,(hm y).1 (by simp)⟩
theorem cnt_two {p:Lt→Bool} {ls:List Lt} {a b:Nat} (ha:a<ls.length) (hpa:p (at' ls a)=true) (hb:b<ls.length) (hpb:p (at' ls b)=true) (hab:a≠b) (hu:∀ x,x<ls.length→p (at' ls x)=true→x=a∨x=b):cntP p ls=2:=by
 obtain⟨L,hn,hl,hm⟩:=cnt_idx p ls
 rw[hl]
 have hma:=(hm a).2 ⟨ha,hpa⟩
 have hmb:=(hm b).2 ⟨hb,hpb⟩
 match L,hn,hm,hma,hmb with
 | [],_,_,h,_=>simp at h
 | [y],_,_,h1,h2=>simp at h1 h2; omega
 | [_,_],_,_,_,_=>rfl
 | x :: y :: z :: t,hn,hm,_,_=>
  have hx:=(hm x).1 (by simp)
  have hy:=(hm y).1 (by simp)
  have hz:=(hm z).1 (by simp)
  grind
theorem two_cnt {p:Lt→Bool} {ls:List Lt} (h:cntP p ls=2) {a b x:Nat} (ha:a<ls.length) (hpa:p (at' ls a)=true) (hb:b<ls.length) (hpb:p (at' ls b)=true) (hab:a≠b) (hx:x<ls.length) (hpx:p (at' ls x)=true):x=a∨x=b:=by
 obtain⟨L,hn,hl,hm⟩:=cnt_idx p ls
 rw[hl]at h
 have hma:=(hm a).2 ⟨ha,hpa⟩
 have hmb:=(hm b).2 ⟨hb,hpb⟩
 have hmx:=(hm x).2 ⟨hx,hpx⟩
 match L,h,hma,hmb,hmx with
 | [y,z],_,h1,h2,h3=>simp at h1 h2 h3; omega
theorem two_ex {p:Lt→Bool} {ls:List Lt} (h:cntP p ls=2) {a:Nat} (ha:a<ls.length) (hpa:p (at' ls a)=true):∃ b,b<ls.length∧p (at' ls b)=true∧a≠b:=by
 obtain⟨L,hn,hl,hm⟩:=cnt_idx p ls
 rw[hl]at h
 have hma:=(hm a).2 ⟨ha,hpa⟩
 match L,h,hn,hm,hma with
 | [y,z],_,hn,hm,h1=>
  have hy:=(hm y).1 (by simp)
  have hz:=(hm z).1 (by simp)
  grind
theorem pos_inj {F:Nat} {ls:List Lt} (hG:Gated F ls) {a b:Lt} (ha:a∈ls) (hb:b∈ls) (hpa:isP a=true) (hpb:isP b=true) (ha1:1≤a.r) (ha2:a.r≤(inG a.g ls:Nat)) (hb1:1≤b.r) (hb2:b.r≤(inG b.g ls:Nat)) (h:pos ls a=pos ls b):a.g=b.g∧a.r=b.r:=by
 obtain⟨G,hg⟩:∃ G:Nat,a.g=(G:Nat):=⟨a.g.toNat,by have:=hG a ha hpa; omega⟩
 obtain⟨H,hh⟩:∃ H:Nat,b.g=(H:Nat):=⟨b.g.toNat,by have:=hG b hb hpb; omega⟩
 rw[pos_eq hg,pos_eq hh]at h
 rw[hg]at ha2
 rw[hh]at hb2
 have mono:∀ x y,x≤y→tot ls x≤tot ls y:=fun x y hxy=>by
  induction hxy with
  | refl=>exact Nat.le_refl _
  | step _ ih=>rw[tot_succ]; omega
 have h1:=tot_succ ls G
 have h2:=tot_succ ls H
 rcases Nat.lt_trichotomy G H with h3|h3|h3
 ·have:=mono (G+1) H h3; omega
 ·subst h3; omega
 grind
theorem crE_get (ls:List Lt):∀ i q e,(crE ls i)[q]? = some e→fnd e.1 (crE ls i)=some (q,e.2)
 | 0,q,e,h=>by simp[crE]at h
 | i+1,q,e,h=>by
  have ih:=crE_get ls i
  simp only[crE]at h ⊢
  split at h
  ·rename_i hx
   rw[if_pos hx]
   unfold updE at h ⊢
   cases hf:fnd (at' ls i).i (crE ls i)with
   | some pv=>
    obtain⟨p,v⟩:=pv
    rw[hf]at h
    simp only at h ⊢
    rw[List.getElem?_set]at h
    split at h
    ·rename_i hpq
     split at h
     ·cases h
      subst hpq
      rw[fnd_set hf,if_pos rfl]
     ·cases h
    ·rename_i hpq
     have h1:=ih q e h
     rw[fnd_set hf,if_neg (fun e1=>by rw[e1,hf]at h1; cases h1; exact hpq rfl)]
     exact h1
   | none=>
    rw[hf]at h
    simp only at h ⊢
    rw[fnd_snoc hf]
    rw[List.getElem?_append]at h
    split at h
    ·have h1:=ih q e h
     rw[if_neg (fun e1=>by rw[e1,hf]at h1; cases h1)]
     exact h1
    ·rename_i hge
     obtain⟨h1,h2⟩:=List.getElem?_eq_some_iff.1 h
     simp at h1 h2
     subst h2
     rw[if_pos rfl]
     have:q=(crE ls i).length:=by omega
     rw[this]
  grind
theorem at_of_mem {ls:List Lt} {l:Lt} (h:l∈ls):∃ j,j<ls.length∧at' ls j=l:=by
 obtain⟨j,hj,he⟩:=List.getElem_of_mem h
 exact⟨j,hj,by rw[at',List.getD,List.getElem?_eq_getElem hj,he]; rfl⟩
theorem letters_to {F:Nat} {ls:List Lt} (h:ls.all (okR F ls)=true):ls.all (okC F)=true∧rkF ls (passes ls) ls.length=true∧CrOk ls:=by
 have hl:∀ l,l∈ls→okR F ls l=true:=List.all_eq_true.1 h
 have hC:ls.all (okC F)=true:=List.all_eq_true.2 fun l hm=>by
  have:=hl l hm
  unfold okR at this
  unfold okC
  grind
 have hG:=gated_of hC
 have hP:∀ v,v<ls.length→isP (at' ls v)=true→1≤(at' ls v).r∧(at' ls v).r≤(inG (at' ls v).g ls:Nat)∧same (at' ls v) ls=1:=fun v hv hp=>by
  have:=hl _ (at'_mem hv)
  simp only[isP,beq_iff_eq]at hp
  unfold okR at this
  grind
 have hX:∀ v,v<ls.length→isX (at' ls v)=true→1≤(at' ls v).i∧(at' ls v).i≤(visits ls / 2:Nat)∧pairs (at' ls v) ls=1∧times (at' ls v).i ls=2:=fun v hv hp=>by
  have:=hl _ (at'_mem hv)
  simp only[isX,beq_iff_eq]at hp
  unfold okR at this
  grind
 have hrk:∀ i,i≤ls.length→rkF ls (passes ls) i=true:=by
  intro i
  induction i with
  | zero=>exact fun _=>rfl
  | succ i ih=>
   intro hi
   have h1:=ih (by omega)
   simp only[rkF,Bool.and_eq_true,Bool.or_eq_true,Bool.not_eq_true',decide_eq_true_eq]
   refine⟨h1,?_⟩
   cases hp:isP (at' ls i)with
   | false=>exact .inl rfl
   | true=>
    right
    obtain⟨r1,r2,r3⟩:=hP i (by omega) hp
    refine⟨⟨r1,r2⟩,?_⟩
    have hin:=at'_mem (show i<ls.length by omega)
    obtain⟨b,hb,hiff⟩:=takenF_spec (ls:=ls) (m:=passes ls) i _ (pos_lt hG hin hp r1 r2)
    rw[List.getD,hb]
    simp only[Option.getD_some]
    cases b with
    | false=>rfl
    | true=>
     obtain⟨j,hj,hpj,he⟩:=hiff.1 rfl
     obtain⟨s1,s2,_⟩:=hP j (by omega) hpj
     obtain⟨e1,e2⟩:=pos_inj hG (at'_mem (by omega)) hin hpj hp s1 s2 r1 r2 he
     have hk:(at' ls j).k=(at' ls i).k:=by simp only[isP,beq_iff_eq]at hp hpj; omega
     have:=one_cnt r3 (j:=j) (k:=i) (by omega) (by simp[e1,e2,hk]) (by omega) (by simp)
     omega
 have pairW:∀ v,v<ls.length→isX (at' ls v)=true → ∃ x,x<ls.length∧isX (at' ls x)=true∧(at' ls x).i=(at' ls v).i∧(at' ls x).s=(at' ls v).s∧(at' ls x).o≠(at' ls v).o:=fun v hv hx=>by
  obtain⟨_,_,h3,_⟩:=hX v hv hx
  obtain⟨x,hxl,hxp⟩:=cnt_ex (p:=fun o=>o.k == (at' ls v).k&&o.i == (at' ls v).i&&o.s == (at' ls v).s&&o.o != (at' ls v).o) (ls:=ls) (by unfold pairs at h3; omega)
  simp only[Bool.and_eq_true,beq_iff_eq,bne_iff_ne,ne_eq]at hxp
  refine⟨x,hxl,?_,hxp.1.1.2,hxp.1.2,hxp.2⟩
  simp only[isX,beq_iff_eq]at hx ⊢
  omega
 have hcr:∀ i,i≤ls.length→crF ls (visits ls) i=true:=by
  intro i
  induction i with
  | zero=>exact fun _=>rfl
  | succ i ih=>
   intro hi
   have h1:=ih (by omega)
   simp only[crF,Bool.and_eq_true,Bool.or_eq_true,Bool.not_eq_true',decide_eq_true_eq]
   refine⟨h1,?_⟩
   cases hx:isX (at' ls i)with
   | false=>exact .inl rfl
   | true=>
    right
    obtain⟨r1,r2,r3,r4⟩:=hX i (by omega) hx
    refine⟨⟨r1,r2⟩,?_⟩
    obtain⟨b,c,d,e⟩:=crInv i (by omega) h1
    unfold fitE
    cases hf:fnd (at' ls i).i (crE ls i)with
    | none=>rfl
    | some pv=>
     obtain⟨q,v⟩:=pv
     simp only[Bool.and_eq_true,decide_eq_true_eq]
     obtain⟨x,hxl,hxx,hxi,hxs,hxo⟩:=pairW i (by omega) hx
     have key:∀ j,j<i→isX (at' ls j)=true→(at' ls j).i=(at' ls i).i→x=j:=fun j hj hjx hji=>by
      have:=two_cnt r4 (a:=i) (b:=j) (x:=x) (by omega) (by simp[hx]) (by omega) (by simp[hjx,hji]) (by omega) hxl (by simp[hxx,hxi])
      rcases this with h7|h7
      ·subst h7; exact absurd rfl hxo
      ·exact h7
     have hneg:slotV (at' ls i).o v<0:=by
      rcases Int.lt_or_le (slotV (at' ls i).o v) 0 with h7|h7
      ·exact h7
      ·obtain⟨j,j1,j2,j3,j4,j5⟩:=b _ _ _ hf _ h7
       have:=key j j1 j3 j4
       subst this
       exact absurd j5 hxo
     refine⟨hneg,?_⟩
     obtain⟨v1,v2,v3⟩:=crE_ok ls i _ (List.mem_of_getElem? (fnd_mem hf))
     simp only at v1 v2 v3
     have hpos:0≤slotV (!(at' ls i).o) v:=by
      cases ho:(at' ls i).o<;>rw[ho]at hneg<;>simp only[slotV,Bool.not_true,Bool.not_false,Bool.false_eq_true,if_true,if_false]at hneg ⊢ <;> omega
     obtain⟨j,j1,j2,j3,j4,j5⟩:=b _ _ _ hf _ hpos
     have:=key j j1 j3 j4
     simp_all
 have hcf:=hcr ls.length (Nat.le_refl _)
 obtain⟨b,c,d,e⟩:=crInv ls.length (Nat.le_refl _) hcf
 rw[List.take_length]at e
 have hfull:∀ en,en∈crE ls ls.length→fil en.2=2:=by
  intro en hen
  obtain⟨q,hq,hqe⟩:=List.getElem_of_mem hen
  have hfe:=crE_get ls ls.length q en (by grind)
  obtain⟨v1,v2,v3⟩:=crE_ok ls ls.length _ hen
  obtain⟨o,ho⟩:∃ o,0≤slotV o en.2:=by
   by_cases h7:0≤en.2.1
   ·exact⟨false,h7⟩
   ·exact⟨true,by show 0≤en.2.2; omega⟩
  obtain⟨j,j1,j2,j3,j4,j5⟩:=b _ _ _ hfe o ho
  obtain⟨_,_,_,r4⟩:=hX j j1 j3
  obtain⟨k,k1,k2,k3⟩:=two_ex r4 j1 (by simp[j3])
  simp only[Bool.and_eq_true,beq_iff_eq]at k2
  obtain⟨p',w',g1,g2⟩:=c k k1 k2.1
  rw[k2.2,j4,hfe]at g1
  cases g1
  have hko:(at' ls k).o≠o:=fun e1=>by grind
  have h8:0≤slotV (at' ls k).o en.2:=by rw[g2]; omega
  cases o<;>cases h9:(at' ls k).o<;>rw[h9]at hko h8<;>simp only[slotV,Bool.false_eq_true,if_true,if_false]at ho h8<;>first
   | exact absurd rfl hko
   | (unfold fil; grind)
 have hsum:∀ E:List Ent,(∀ en,en∈E→fil en.2=2)→sumF E=2*E.length:=by
  intro E
  induction E with
  | nil=>exact fun _=>rfl
  | cons x r ih=>
   intro hE
   simp only[sumF,List.length_cons,hE x (List.mem_cons_self ..),ih fun en hen=>hE en (List.mem_cons_of_mem _ hen)]
   omega
 have hs:=hsum _ hfull
 have hv:visits ls=cntP isX ls:=rfl
 exact⟨hC,hrk _ (Nat.le_refl _),by omega,hcf,by omega⟩
theorem crF_range {ls:List Lt} {n:Nat}:∀ {i:Nat},crF ls n i=true → ∀ j,j<i→isX (at' ls j)=true→1≤(at' ls j).i∧(at' ls j).i≤(n / 2:Nat)
 | 0,_,j,hj,_=>by omega
 | i+1,h,j,hj,hx=>by
  simp only[crF,Bool.and_eq_true,Bool.or_eq_true,Bool.not_eq_true',decide_eq_true_eq]at h
  rcases Nat.lt_or_ge j i with h4|h4
  ·exact crF_range h.1 j h4 hx
  grind
theorem letters_back {F:Nat} {ls:List Lt} (hC:ls.all (okC F)=true) (hr:rkF ls (passes ls) ls.length=true) (hc:CrOk ls):ls.all (okR F ls)=true:=by
 have hG:=gated_of hC
 obtain⟨hrk,hap⟩:=ranked_of hG hr
 refine List.all_eq_true.2 fun l hm=>?_
 obtain⟨v,hv,rfl⟩:=at_of_mem hm
 have h1:=List.all_eq_true.1 hC _ hm
 unfold okC at h1
 unfold okR
 split at h1
 ·rename_i hk
  rw[if_pos hk]
  have hp:isP (at' ls v)=true:=by simp[isP,hk]
  obtain⟨r1,r2⟩:=hrk _ hm hp
  have hs:same (at' ls v) ls=1:=cnt_one hv (by simp) fun x hx hpx=>by
   simp only[Bool.and_eq_true,beq_iff_eq]at hpx
   exact hap x v hx hv (by simp[isP,hpx.1.1,hk]) hp hpx.1.2 hpx.2
  grind
 ·rename_i hk
  rw[if_neg hk]
  split at h1
  ·rename_i hk2
   rw[if_pos hk2]
   have hx:isX (at' ls v)=true:=by simp[isX,hk2]
   obtain⟨i1,i2⟩:=crF_range hc.2.1 v hv hx
   obtain⟨p,w,j,g1,g2,g3,g4,g5,g6,g7,g8,g9,g10,g11⟩:=cross_other hc hv hx
   have ht:times (at' ls v).i ls=2:=cnt_two hv (by simp[hx]) g4 (by simp[g6,g7]) (fun e=>g5 e.symm) fun x hxl hxp=>by
    simp only[Bool.and_eq_true,beq_iff_eq]at hxp
    exact g10 x hxl hxp.1 hxp.2
   have hj2:(at' ls j).k=2:=by simpa[isX]using g6
   have hpr:pairs (at' ls v) ls=1:=cnt_one g4 (by simp[g7,g8,g9,hj2,hk2]) fun x hxl hxp=>by
    simp only[Bool.and_eq_true,beq_iff_eq,bne_iff_ne,ne_eq]at hxp
    rcases g10 x hxl (by simp[isX,hxp.1.1.1,hk2]) hxp.1.1.2 with h5|h5
    ·subst h5; exact absurd rfl hxp.2
    ·exact h5
   grind
  ·cases h1
end Go.Known
end
section
namespace Go.Known
open Go Go.AE Go.Proofs
open Go.Plain
theorem w00:IntKind.i64.wrap 0=0:=by decide
attribute [local simp] w00
theorem tr_lt {T:Nat→Nat} {N:Nat} (hT:∀ d,d<N→T d<N):∀ (k:Nat) (seen:List Bool) (x:Nat),x<N → ∀ y,y∈tr T k seen x→y<N
 | 0,_,_,_,y,h=>by simp[tr]at h
 | k+1,seen,x,hx,y,h=>by
  simp only[tr]at h
  split at h
  ·simp at h
  ·rcases List.mem_cons.1 h with rfl|h
   ·exact hx
   ·exact tr_lt hT k _ _ (hT x hx) y h
theorem wks_all {T:Nat→Nat} {N:Nat} (hT:∀ d,d<N→T d<N):∀ (k:Nat) (seen:List Bool),k≤N→(wks T N k seen).length≤k ∧ ∀ w,w∈wks T N k seen→w.length≤N+1 ∧ ∀ x,x∈w→x<N
 | 0,_,_=>by simp[wks]
 | k+1,seen,hk=>by
  simp only[wks]
  split
  ·have:=wks_all hT k seen (by omega)
   exact⟨by omega,this.2⟩
  ·have:=wks_all hT k (Plain.mark T (N+1) seen (N - (k+1))) (by omega)
   refine⟨by simp; omega,fun w hw=>?_⟩
   rcases List.mem_cons.1 hw with rfl|hw
   ·exact⟨tr_length T _ _ _,tr_lt hT _ _ _ (by omega)⟩
   ·exact this.2 w hw
theorem wks_head {T:Nat→Nat} {n N:Nat} (hn:n≤N) (hA:∀ z,n≤z→z<N→T z<n) (hT:∀ d,d<N→T d<N) (hI:∀ y y',y<n→y'<n→n≤T y→T y=T y'→y=y') (hS:∀ z,n≤z→z<N → ∃ y,y<n∧T y=z) :
 ∀(k:Nat) (seen:List Bool),k≤n→seen.length=N→(∀ y,y<n - k→seen.getD y true=true)→(∀ y,y<n→n≤T y→seen.getD (T y) true=seen.getD y true) →
  ∀ w,w∈wks T N (k+(N - n)) seen → ∃ d r,w=d :: r∧d<n
 | 0,seen,_,hs,hd,hJ=>by
  rw[wks_none]
  ·intro w hw; simp at hw
  ·intro x
   rcases Nat.lt_or_ge x n with h1|h1
   ·exact hd x (by omega)
   ·rcases Nat.lt_or_ge x N with h2|h2
    ·obtain⟨y,hy,rfl⟩:=hS x h1 h2
     rw[hJ y hy h1]
     exact hd y (by omega)
    ·rw[List.getD_eq_getElem?_getD,List.getElem?_eq_none (by omega)]; rfl
 | k+1,seen,hk,hs,hd,hJ=>by
  have e:k+1+(N - n)=(k+(N - n))+1:=by omega
  have e2:N - (k+(N - n)+1)=n - (k+1):=by omega
  rw[e]
  simp only[wks,e2]
  have hstep:∀ seen':List Bool,(∀ y,seen.getD y true=true→seen'.getD y true=true)→seen'.getD (n - (k+1)) true=true → ∀ y,y<n - k→seen'.getD y true=true:=fun seen' h1 h2 y hy=>by
   rcases Nat.lt_or_ge y (n - (k+1))with h3|h3
   ·exact h1 y (hd y h3)
   ·have:y=n - (k+1):=by omega
    rw[this]; exact h2
  cases hx:seen.getD (n - (k+1)) true with
  | true=>
   simp only[if_true]
   exact wks_head hn hA hT hI hS k seen (by omega) hs (hstep seen (fun _ h=>h) hx) hJ
  | false=>
   have hul:=unseen_le (l:=seen)
   have hul2:=unseen_le (l:=seen.take n)
   rw[List.length_take]at hul2
   obtain⟨_,_,h3⟩:=walk_sim hn hA hT hI (N+1) (2*n+2) seen (n - (k+1)) hs (by omega) (by omega) (by rw[if_neg (by omega)]; omega)
    (fun y hy hTy=>by
      rw[hJ y hy hTy]
      have:T y≠n - (k+1):=by omega
      simp[this]) (fun h=>by omega)
   simp only[Bool.false_eq_true,if_false]
   intro w hw
   rcases List.mem_cons.1 hw with rfl|hw
   ·refine⟨n - (k+1),tr T N (seen.set (n - (k+1)) true) (T (n - (k+1))),?_,by omega⟩
    simp only[tr,hx,Bool.false_eq_true,if_false]
   ·refine wks_head hn hA hT hI hS k _ (by omega) (by rw[mark_length]; exact hs) (hstep _ (fun y hy=>mark_mono _ _ _ hy) ?_) h3 w hw
    simp only[Plain.mark,hx,Bool.false_eq_true,if_false]
    exact mark_mono _ _ _ (by rw[getD_set (by omega)]; simp)
theorem walks_head {T:Nat→Nat} {n N:Nat} (hn:n≤N) (hA:∀ z,n≤z→z<N→T z<n) (hT:∀ d,d<N→T d<N) (hI:∀ y y',y<n→y'<n→n≤T y→T y=T y'→y=y') (hS:∀ z,n≤z→z<N → ∃ y,y<n∧T y=z) :
 ∀ w,w∈walks T N → ∃ d r,w=d :: r∧d<n:=by
 have h:=wks_head hn hA hT hI hS n (List.replicate N false) (Nat.le_refl _) (by simp) (fun y hy=>by omega) (fun y hy hTy=>by
  have h1:∀ y,y<N→(List.replicate N false).getD y true=false:=fun y hy=>by rw[List.getD_eq_getElem?_getD,List.getElem?_replicate,if_pos hy]; rfl
  rw[h1 y (by omega),h1 (T y) (hT y (by omega))])
 rw[Nat.add_sub_cancel' hn]at h
 exact h
theorem okAll_of {f:Int} {ls:List Lt} (he:errC f ls=0) (h0:ls≠[]):0≤f∧f≤40∧OkAll f.toNat ls:=by
 unfold errC at he
 split at he
 ·cases he
 ·split at he
  ·cases he
  ·rename_i h1 h2
   split at he
   ·rename_i h3
    exact⟨by omega,by omega,h3.resolve_left h0⟩
   ·cases he
structure ValidC (f:Int) (ls:List Lt):Prop where
 fill:Filled ls (crE ls ls.length)
 pas:0<passes ls
 kin:∀ v,v<ls.length→(at' ls v).k≠2→(at' ls v).k=1
 axi:∀ v,v∈axis ls→v<ls.length∧0≤(at' ls v).g∧(at' ls v).g≤40
section
variable {f:Int} {ls:List Lt}
abbrev wksC (ls:List Lt):List (List Nat):=walks (turnN ls (axis ls)) (2*ls.length+2*passes ls)
theorem ValidC.wk (h:ValidC f ls):(wksC ls).length≤4000 ∧ ∀ w,w∈wksC ls → ∃ d r,w=d :: r∧d<2*ls.length∧w.length≤4001 ∧ ∀ x,x∈w→x<2*ls.length+2*passes ls:=by
 obtain⟨h1,h2,h3,h4⟩:=turn_rule h.pas h.kin
 have hpl:passes ls≤ls.length:=cntP_le_one
 have hs:=h.fill.small
 obtain⟨a1,a2⟩:=wks_all h2 (2*ls.length+2*passes ls) (List.replicate (2*ls.length+2*passes ls) false) (Nat.le_refl _)
 refine⟨Nat.le_trans a1 (by omega),fun w hw=>?_⟩
 obtain⟨d,r,e,hd⟩:=walks_head (by omega) h1 h2 h3 h4 w hw
 obtain⟨b1,b2⟩:=a2 w hw
 exact⟨d,r,e,hd,by omega,b2⟩
theorem ValidC.T (h:ValidC f ls):(∀ d,d<2*ls.length+2*(axis ls).length→turnN ls (axis ls) d<2*ls.length+2*(axis ls).length) ∧
 ∀ d,2*ls.length≤d→d<2*ls.length+2*(axis ls).length→turnN ls (axis ls) d<2*ls.length:=by
 obtain⟨h1,h2,_,_⟩:=turn_rule h.pas h.kin
 rw[axis_length]
 exact⟨h2,h1⟩
end
end Go.Known
end
section
namespace Go.Known
open Go Go.AE Go.Proofs
open Go.Plain
@[simp] theorem sd_slSl (id : Nat) (f : AOpd → AVal) (get : Nat → Option ABlk) (k : Nat) (x : AOpd) (lo hi : Option AOpd) : stepD id f get (.slSl k x lo hi none) = match f x with
 | .nilSl=>match slBoundsD f 0 0 lo hi with
  | some _=>some (.nilSl,[])
  | none=>none
 | .emp=>match slBoundsD f 0 0 lo hi with
  | some _=>some (.emp,[])
  | none=>none
 | .imm els=>if els.all (·.length == k)then match slBoundsD f els.length els.length lo hi with
  | some (l,h)=>some (.imm ((els.take h).drop l),[])
  | none=>none
  else none
 | .sl b off len=>match get b with
  | some (.cells k' els)=>if k'=k∧off+len≤els.length then match slBoundsD f len (els.length - off) lo hi with
   | some (l,h)=>some (.sl b (off+l) (h - l),[])
   | none=>none
   else none
  | _=>none
 | _=>none:=rfl
end Go.Known
end
section
namespace Go.Known
open Go.Plain
theorem okR_pass {f:Int} {ls:List Lt} {l:Lt} (hk:l.k=1):okR f ls l=true↔l.i=0∧l.s=0∧l.o=false∧0≤l.g∧l.g≤f∧1≤l.r∧l.r≤inG l.g ls∧same l ls=1:=by
 unfold okR
 grind
structure ValR (f:Int) (ls:List Lt):Prop where
 len:ls.length≤400
 vis:visits ls≤200
 lo:0≤f
 hi:f≤40
 fst:(at' ls 0).k=1
 evn:passes ls % 2=0
 okr:∀ l,l∈ls→okR f ls l=true
 cyc:cycles (turnN ls (axis ls)) (2*ls.length+2*passes ls)=passes ls+visits ls / 2+2
theorem valR_of {f:Int} {ls:List Lt} (he:errC f ls=0) (h0:ls≠[]):ValR f ls:=by
 obtain⟨hf0,hf1,h1,h2,h3,h4,h5,h6⟩:=okAll_of he h0
 have hF:((f.toNat:Nat):Int)=f:=by omega
 have h7:¬(400<ls.length∨200<visits ls):=fun h=>by
  unfold errC at he
  omega
 have hb:=letters_back h1 h4 h5
 rw[hF]at hb
 refine⟨by omega,by omega,hf0,hf1,h2,h3,List.all_eq_true.1 hb,?_⟩
 rw[axis_length]at h6
 rw[h6,h5.2.2]
theorem ValR.to {f:Int} {ls:List Lt} (h:ValR f ls):errC f ls=0:=by
 have hF:((f.toNat:Nat):Int)=f:=by have:=h.lo; omega
 obtain⟨q1,q2,q3⟩:=letters_to (F:=f.toNat) (ls:=ls) (by rw[hF]; exact List.all_eq_true.2 h.okr)
 have a:=h.len
 have b:=h.vis
 have c:=h.lo
 have d:=h.hi
 unfold errC
 rw[if_neg (by omega),if_neg (by omega),if_pos]
 refine .inr ⟨q1,h.fst,h.evn,q2,q3,?_⟩
 rw[axis_length,q3.2.2]
 exact h.cyc
end Go.Known
end
