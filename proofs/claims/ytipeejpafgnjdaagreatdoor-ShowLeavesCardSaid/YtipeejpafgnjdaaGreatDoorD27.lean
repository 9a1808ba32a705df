/- Part 27 of the proof: Tb. -/
import Derived.Test.YtipeejpafgnjdaaGreatDoorD26
import Derived.ProofKit
import Derived.Carry
import Derived.Deep.Slices
set_option linter.all false
namespace Go.Known
open Go Go.AE Go.Proofs
open Go.Plain
open Go.ChangeShapes Go.WideShapes Go.RowKit Go.Deep
variable {H:Type} {enc:TypeId×Value→H} {w:World} {base:Nat} {spare:Nat→Bool} {held:Bool}
set_option maxRecDepth 100000 in
theorem letter_open {n:Nat} {cs:List Value} {x:DataW H×List MemPlace} (h:DataW.trod enc Tryz.prog w base spare held n 88 cs=some x) :
 ∃ l:Lt,cs=[.int .i64 l.k,.int .i64 l.g,.int .i64 l.r,.int .i64 l.i,.int .i64 l.s,.bool l.o]:=by
 obtain⟨xs,m,_,_,hl,hlen,hf⟩:=DataW.trod_struct Tryz.underlying88 h
 have hc:Tryz.prog.cellsOf 88=6:=by kernel_rfl
 have h3:Tryz.prog.cellsOf 3=1:=by kernel_rfl
 have h4:Tryz.prog.cellsOf 4=1:=by kernel_rfl
 have hk:Tryz.prog.cellsOf 86=1:=by kernel_rfl
 rw [hc] at hl
 match cs,hl with
 | [a0,a1,a2,a3,a4,a5],_=>
  match xs,hlen with
  | [x0,x1,x2,x3,x4,x5],_=>
   have e0:DataW.trod enc Tryz.prog w base spare held m 86 (([a0,a1,a2,a3,a4,a5].drop 0).take (Tryz.prog.cellsOf 86))=some x0:=hf 0 _ rfl
   rw [hk] at e0
   have e1:DataW.trod enc Tryz.prog w base spare held m 3 (([a0,a1,a2,a3,a4,a5].drop 1).take (Tryz.prog.cellsOf 3))=some x1:=hf 1 _ rfl
   rw [h3] at e1
   have e2:DataW.trod enc Tryz.prog w base spare held m 3 (([a0,a1,a2,a3,a4,a5].drop 2).take (Tryz.prog.cellsOf 3))=some x2:=hf 2 _ rfl
   rw [h3] at e2
   have e3:DataW.trod enc Tryz.prog w base spare held m 3 (([a0,a1,a2,a3,a4,a5].drop 3).take (Tryz.prog.cellsOf 3))=some x3:=hf 3 _ rfl
   rw [h3] at e3
   have e4:DataW.trod enc Tryz.prog w base spare held m 3 (([a0,a1,a2,a3,a4,a5].drop 4).take (Tryz.prog.cellsOf 3))=some x4:=hf 4 _ rfl
   rw [h3] at e4
   have e5:DataW.trod enc Tryz.prog w base spare held m 4 (([a0,a1,a2,a3,a4,a5].drop 5).take (Tryz.prog.cellsOf 4))=some x5:=hf 5 _ rfl
   rw [h4] at e5
   obtain⟨n0,q0,_,_⟩:=DataW.trod_int (t:=86) (k:=.i64) Tryz.underlying86 e0
   obtain⟨n1,q1,_,_⟩:=DataW.trod_int (t:=3) (k:=.i64) Tryz.underlying3 e1
   obtain⟨n2,q2,_,_⟩:=DataW.trod_int (t:=3) (k:=.i64) Tryz.underlying3 e2
   obtain⟨n3,q3,_,_⟩:=DataW.trod_int (t:=3) (k:=.i64) Tryz.underlying3 e3
   obtain⟨n4,q4,_,_⟩:=DataW.trod_int (t:=3) (k:=.i64) Tryz.underlying3 e4
   obtain⟨b5,q5,_⟩:=DataW.trod_bool (t:=4) Tryz.underlying4 e5
   have r0:a0=.int .i64 n0:=by simpa using q0
   have r1:a1=.int .i64 n1:=by simpa using q1
   have r2:a2=.int .i64 n2:=by simpa using q2
   have r3:a3=.int .i64 n3:=by simpa using q3
   have r4:a4=.int .i64 n4:=by simpa using q4
   have r5:a5=.bool b5:=by simpa using q5
   subst r0 r1 r2 r3 r4 r5
   exact⟨⟨n0,n1,n2,n3,n4,b5⟩,rfl⟩
def rowV (l:Lt):List Value:=[.int .i64 l.k,.int .i64 l.g,.int .i64 l.r,.int .i64 l.i,.int .i64 l.s,.bool l.o]
def allP (w:World):Pers:=fun B=>match w.heap[B]? with
 | some (.cells c _ _)=>some c
 | _=>none
theorem allP_of {w:World} {B:Nat} {c:Array Value} (h:allP w B=some c):∃ e fz,w.heap[B]? = some (.cells c e fz):=by
 unfold allP at h
 split at h
 · rename_i c' e fz hh
   cases h
   exact⟨e,fz,hh⟩
 · cases h
theorem row_R (Φ:Pers) (ρ:Rho) (l:Lt) (j:Nat) (x:AVal) (h:(rowL l)[j]? = some x):∃ v,(rowV l)[j]? = some v∧v.oneCell'=true∧R Φ ρ x v:=by
 match j,h with
 | 0,h=>cases h; exact⟨_,rfl,rfl,.int _ _⟩
 | 1,h=>cases h; exact⟨_,rfl,rfl,.int _ _⟩
 | 2,h=>cases h; exact⟨_,rfl,rfl,.int _ _⟩
 | 3,h=>cases h; exact⟨_,rfl,rfl,.int _ _⟩
 | 4,h=>cases h; exact⟨_,rfl,rfl,.int _ _⟩
 | 5,h=>cases h; exact⟨_,rfl,rfl,.bool _⟩
 | j+6,h=>cases h
theorem add_block (a:Addr) (n:Nat):(a.add n).block=a.block:=by unfold Addr.add; split<;>rfl
theorem add_off (a:Addr) (n:Nat):(a.add n).off=a.off+n:=by
 unfold Addr.add
 split
 · rename_i h; rw [h]; rfl
 · rfl
theorem cells_get {w:World} {base:Nat} {a:Addr} {n:Nat} {cs:List Value} (h:w.cells? base a n=some cs):∀ j,j<n→w.cell? (a.add j)=cs[j]? ∧ cs.length=n:=by
 unfold World.cells? at h
 split at h
 · intro j hj
   exact⟨mapM_some_get h j j (by simp [hj]),by simpa using mapM_some_length h⟩
 · cases h
theorem cell_off {w:World} {a:Addr} {v:Value} (h:w.cell? a=some v):∃ c e fz,w.heap[a.block]? = some (.cells c e fz)∧c[a.off]? = some v:=by
 unfold World.cell? at h
 split at h
 · rename_i c e fz hh
   split at h
   · cases h
   · exact⟨c,e,fz,hh,h⟩
 · cases h
theorem cell_spot {w:World} {a:Addr} {v:Value} (h:w.cell? a=some v):a.spot=none:=by
 unfold World.cell? at h
 split at h
 · split at h
   · cases h
   · rename_i hs
     cases ha:a.spot with
     | none=>rfl
     | some _=>rw [ha] at hs; exact absurd rfl hs
 · cases h
theorem slice_R {n:Nat} {v:Value} {x:DataW H×List MemPlace} (h:DataW.trod enc Tryz.prog w 0 (fun _=>true) held n 22 [v]=some x):∃ ls:List Lt,∀ ρ,R (allP w) ρ (.imm (ls.map rowL)) v:=by
 have hc6:Tryz.prog.cellsOf 88=6:=by kernel_rfl
 rcases open_slice Tryz.underlying22 h with⟨h1,_⟩ | ⟨a,len,cap,m,n',D,Pl,h1,_,hlc,_,hm,_,hel⟩
 · cases h1
   exact⟨[],fun ρ=>.imm0 _ _ fun hp=>absurd hp (by omega)⟩
 · cases h1
   simp only [if_true] at hm
   subst hm
   rw [hc6] at hel
   have hL:∀ i,∃ l:Lt,i<len→w.cells? 0 (a.add (i*6)) 6=some (rowV l):=fun i=>by
    by_cases hi:i<len
    · obtain⟨cs',g1,g2⟩:=hel i (by omega)
      obtain⟨l,rfl⟩:=letter_open g2
      exact⟨l,fun _=>g1⟩
    · exact⟨default,fun h=>absurd h hi⟩
   obtain⟨L,hL⟩:=Classical.axiomOfChoice hL
   rcases Nat.eq_zero_or_pos len with h0 | h0
   · subst h0
     refine⟨[],fun ρ=>.imm0 _ _ fun hp=>?_⟩
     obtain⟨cs',g1,g2⟩:=hel 0 (by omega)
     obtain⟨l,rfl⟩:=letter_open g2
     have hh:=(cells_get g1 0 (by omega)).1
     have e1:(a.add (0*6)).add 0=a:=by simp [Addr.add]
     rw [e1] at hh
     have hsp:=cell_spot (v:=.int .i64 l.k) hh
     obtain⟨ab,ao,asp⟩:=a
     simp only at hsp
     subst hsp
     exact⟨_,_,rfl⟩
   have hcell:∀ i j,i<len→j<6→w.cell? ((a.add (i*6)).add j)=(rowV (L i))[j]?:=fun i j hi hj=>(cells_get (hL i hi) j hj).1
   have hsp:a.spot=none:=by
    have:=hcell 0 0 h0 (by omega)
    have e1:(a.add (0*6)).add 0=a:=by simp [Addr.add]
    rw [e1] at this
    exact cell_spot this
   have hblk:∃ c e fz,w.heap[a.block]? = some (.cells c e fz):=by
    have:=hcell 0 0 h0 (by omega)
    obtain⟨c,e,fz,g1,_⟩:=cell_off (v:=.int .i64 (L 0).k) this
    rw [add_block,add_block] at g1
    exact⟨c,e,fz,g1⟩
   obtain⟨c,e,fz,hcc⟩:=hblk
   have hat:∀ i j v,i<len→j<6→(rowV (L i))[j]? = some v→c[a.off+i*6+j]? = some v:=fun i j v hi hj hv=>by
    have h2:=hcell i j hi hj
    rw [hv] at h2
    obtain⟨c',e',fz',g1,g2⟩:=cell_off h2
    rw [add_block,add_block,hcc] at g1
    cases g1
    rw [add_off,add_off] at g2
    exact g2
   have hget:∀ (i:Nat) (row:List AVal),(((List.range len).map L).map rowL)[i]? = some row→i<len∧row=rowL (L i):=fun i row hi=>by
    rw [List.map_map,List.getElem?_map] at hi
    by_cases hil:i<len
    · rw [List.getElem?_range hil] at hi
      cases hi
      exact⟨hil,rfl⟩
    · rw [List.getElem?_eq_none (by simpa using hil)] at hi
      cases hi
   have hj6:∀ (l:Lt) (j:Nat) (x:AVal),(rowL l)[j]? = some x→j<6:=fun l j x hx=>(List.getElem?_eq_some_iff.1 hx).1
   refine⟨(List.range len).map L,fun ρ=>?_⟩
   obtain⟨ab,ao,asp⟩:=a
   simp only at hsp hcc hat
   subst hsp
   have hlen:(((List.range len).map L).map rowL).length=len:=by simp
   have:=R.imm (Φ:=allP w) (ρ:=ρ) (((List.range len).map L).map rowL) ab ao 6 _ c (fun i j=>((rowV (L i))[j]?).getD (.bool false)) (fun e=>by rw [e] at hlen; simp at hlen; omega) (by rw [hlen]; exact hlc)
    (by unfold allP; rw [hcc]) (fun i row hi=>by obtain⟨_,rfl⟩:=hget i row hi; rfl)
    (fun i row j x hi hj=>by
      obtain⟨hil,rfl⟩:=hget i row hi
      obtain⟨v,g1,g2,_⟩:=row_R (allP w) ρ (L i) j x hj
      rw [g1]
      exact⟨hat i j v hil (hj6 _ j x hj) g1,g2⟩)
    (fun i row j x hi hj=>by
      obtain⟨hil,rfl⟩:=hget i row hi
      obtain⟨v,g1,_,g3⟩:=row_R (allP w) ρ (L i) j x hj
      rw [g1]
      exact g3)
   rw [hlen] at this
   exact this
set_option maxRecDepth 100000 in
theorem code_R {v:Value} {d:DataW H} {p:List MemPlace} {b:Nat} (hok:Value.okWide Tryz.prog w .any b 24 v) (h:DataW.Trod enc Tryz.prog w 0 (fun _=>true) held 24 v d p):∃ (f:Int) (ls:List Lt),∀ ρ,R (allP w) ρ (cV f ls) v:=by
 unfold Value.okWide at hok
 rw [Tryz.underlying24] at hok
 obtain⟨cs,rfl,hsz,_⟩:=hok
 obtain⟨fuel,h⟩:=h
 have hc:Tryz.prog.cellsOf 24=2:=by kernel_rfl
 have h3:Tryz.prog.cellsOf 3=1:=by kernel_rfl
 have h22:Tryz.prog.cellsOf 22=1:=by kernel_rfl
 rw [hc] at hsz
 obtain⟨y0,y1,n,_,hl,e0,e1⟩:=trod_struct2 Tryz.underlying24 h
 obtain⟨cl⟩:=cs
 match cl,hsz with
 | [a0,a1],_=>
  simp only [h3,h22,Value.cells] at e0 e1
  obtain⟨k,q0,_,_⟩:=DataW.trod_int (t:=3) (k:=.i64) Tryz.underlying3 e0
  have q0':a0=.int .i64 k:=by simpa using q0
  subst q0'
  obtain⟨ls,hls⟩:=slice_R (v:=a1) e1
  refine⟨k,ls,fun ρ=>.agg _ _ rfl fun i x v hx hv=>?_⟩
  match i,hx,hv with
  | 0,hx,hv=>cases hx; cases hv; exact .int _ _
  | 1,hx,hv=>cases hx; cases hv; exact hls ρ
  | i+2,hx,hv=>simp at hx
end Go.Known
