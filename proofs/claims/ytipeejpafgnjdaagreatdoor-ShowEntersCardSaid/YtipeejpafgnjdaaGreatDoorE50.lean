/- Part 50 of the proof: Tz, Wb, Wc. -/
import Derived.Test.YtipeejpafgnjdaaGreatDoorE34
import Derived.Test.YtipeejpafgnjdaaGreatDoorE48
import Derived.Test.YtipeejpafgnjdaaGreatDoorE49
set_option linter.all false
section
namespace Go.Known
open Go Go.AE Go.Proofs
open Go.Plain
def ctL (l:List Int) (F:Nat):List Nat:=(List.range F).map fun j:Nat=>(l.filter fun z=>decide (z=(j:Int)+1)).length
section
variable {ls:List Lt} {F:Nat}
theorem Zfe (l:List Int):(ctL l F).length=F:=by simp [ctL]
theorem Znb {l:List Int} {j:Nat} (h:j<F):(ctL l F)[j]? = some (l.filter fun z=>decide (z=(j:Int)+1)).length:=by
 unfold ctL
 rw [List.getElem?_map,List.getElem?_range h]
 rfl
theorem Z17 {l:List Int} {a g:Nat} (h:l[a]? = some ((g:Int)+1)) (hg:g<F) :
 ctL (l.take (a+1)) F=(ctL (l.take a) F).set g (((l.take a).filter fun z=>decide (z=(g:Int)+1)).length+1):=by
 apply List.ext_getElem?
 intro j
 rw [List.getElem?_set]
 by_cases hj:j<F
 · rw [Znb hj,List.take_add_one,h,List.filter_append,List.length_append]
   by_cases hgj:g=j
   · subst hgj
     rw [if_pos rfl,if_pos (by rw [Zfe]; exact hj)]
     simp
   · rw [if_neg hgj,Znb hj]
     have:¬(g:Int)+1=(j:Int)+1:=by omega
     simp [this]
 · rw [List.getElem?_eq_none (by rw [Zfe]; omega)]
   split
   · rename_i e
     subst e
     exact absurd hg hj
   · rw [List.getElem?_eq_none (by rw [Zfe]; omega)]
theorem Zyt {z:Int}:∀ {i:Nat},z∈fgs ls i → ∃ g:Nat,g<i∧z=(g:Int)+1
 | 0,h=>by simp [fgs] at h
 | i+1,h=>by
  rw [fgs,List.mem_append] at h
  rcases h with h | h
  · obtain⟨g,h1,h2⟩:=Zyt h
    exact⟨g,by omega,h2⟩
  · exact⟨i,by omega,(List.mem_replicate.1 h).2⟩
theorem Zrx (j:Nat):∀ i,((fgs ls i).filter fun z=>decide (z=(j:Int)+1)).length=if j<i then cnL ls ((j:Int)+1) else 0
 | 0=>rfl
 | i+1=>by
  rw [fgs,List.filter_append,List.length_append,Zrx j i]
  by_cases h:j=i
  · subst h
    rw [if_neg (by omega),if_pos (by omega),List.filter_replicate]
    simp
  · have h2:¬(i:Int)+1=(j:Int)+1:=by omega
    rw [List.filter_replicate]
    by_cases h3:j<i
    · rw [if_pos h3,if_pos (show j<i+1 by omega)]
      simp [h2]
    · rw [if_neg h3,if_neg (show ¬j<i+1 by omega)]
      simp [h2]
theorem Z3c:ctL (fgs ls F) F=cnLs ls F:=by
 apply List.ext_getElem?
 intro j
 by_cases hj:j<F
 · rw [Znb hj,Zp8 hj,Zrx,if_pos hj]
 · rw [List.getElem?_eq_none (by rw [Zfe]; omega),List.getElem?_eq_none (by rw [Zd9]; omega)]
theorem Zyg:nums (ctL [] F)=List.replicate F [.int .i64 0]:=by
 apply List.ext_getElem?
 intro j
 by_cases hj:j<F
 · rw [Zca (Znb hj),List.getElem?_replicate,if_pos hj]; rfl
 · rw [List.getElem?_eq_none (by rw [Zbt,Zfe]; omega),List.getElem?_replicate,if_neg hj]
end
set_option maxRecDepth 100000 in
set_option maxHeartbeats 8000000 in
theorem Z2z (F:Nat) (ls:List Lt) (hF:F≤1000) (h:ls.length≤1000) (hP:PosP ls) (hq:∀ l,l∈ls→l.k=1→0≤l.g∧l.g≤40) :
 PCall Tryz.prog 66 [cV F ls] (.imm (nums (cnLs ls F))):=by
 refine Zcx hm 4 Tryz.func66 Z0p rfl rfl (by simp [Zae,AVal.closed,Zab]) (by simp [AVal.closed,Zbc]) fun K hK=>?_
 have hKv:=hK (.sl 1 0 (nums (cnLs ls F)).length) ⟨[(1,.cells 1 (nums (cnLs ls F)))],2⟩ (Zeb (k:=1) (by simp) (Zlc _))
 clear hK
 have hrr:∀ q,Zam q (ls.map rowL)=ls.map rowL:=fun q=>Zaa q _ (Zab ls)
 have hOf:=cROf F ls hF h hP hq
 unfold cV at *
 generalize ls.map rowL=rows at *
 have hF2:F≤1048576:=by omega
 simp [hF2]
 refine Za0 hOf [] (by simp [hrr]) (by simp) (by simp) ?_
 rintro r sm ⟨O,hO,rfl,rfl⟩
 have hrO:∀ q,Zam q (O.map orow)=O.map orow:=fun q=>Zaa q _ (Zj2 O)
 have hOl:O.length=(fgs ls F).length:=by rw [← hO,List.length_map]
 have hrn:=Zac
 have hrz:∀ k,Zam k (List.replicate F [AVal.int .i64 0])=List.replicate F [AVal.int .i64 0]:=fun k=>by rw [← Zyg]; exact hrn k _
 simp [hrO]
 refine Zay (α:=Nat) (fun a=>[(5,.int .i64 a),(4,slV 3 (O.map orow)),(3,.sl 2 0 F)])
  (fun a=>⟨(2,.cells 1 (nums (ctL ((fgs ls F).take a) F))) :: blV 3 4 (O.map orow) [],4⟩) (fun a=>O.length - a) (fun a=>a≤O.length) 0 [(2,5),(3,10)] (by simp +contextual [hrO,hrz,Zyg]) (by simp) ?_
 intro a ha N hN
 try simp only at ha hN ⊢
 by_cases hlt:a<O.length
 · obtain⟨x,hx⟩:∃ x,O[a]? = some x:=⟨O[a],List.getElem?_eq_getElem hlt⟩
   have hz:(fgs ls F)[a]? = some x.f:=by rw [← hO,List.getElem?_map,hx]; rfl
   obtain⟨g,hg,hxg⟩:=Zyt (List.mem_of_getElem? hz)
   rw [hxg] at hz
   have hst:=Z17 hz hg
   have hc:=Znb (l:=(fgs ls F).take a) hg
   have hcn:=Zca hc
   obtain⟨hcn1,hcn2⟩:=getE hcn
   have hno:¬O=[]:=fun e=>by subst e; simp at hx
   have e1:slV 3 (O.map orow)=.sl 3 0 O.length:=by rw [Zmi (by simpa using hno),List.length_map]
   have e2:blV 3 4 (O.map orow) []=[(3,.cells 4 (O.map orow))]:=Zko (by simpa using hno)
   have hg1:=Zuo hx
   have hO2:O.length≤1000000:=by
    have h2:=Zyh (ls:=ls) h F
    have h3:F*1000≤1000*1000:=Nat.mul_le_mul_right _ hF
    omega
   obtain⟨q,hqq⟩:∃ q,(((fgs ls F).take a).filter fun z=>decide (z=(g:Int)+1)).length=q:=⟨_,rfl⟩
   have hqa:q≤1000000:=by
    rw [← hqq]
    have h1:=List.length_filter_le (fun z=>decide (z=(g:Int)+1)) ((fgs ls F).take a)
    have h2:((fgs ls F).take a).length≤a:=by rw [List.length_take]; exact Nat.min_le_left _ _
    omega
   rw [hqq] at hcn hcn2 hst
   have hset:(nums (ctL ((fgs ls F).take a) F)).set g [.int .i64 ((q:Int)+1)]=nums (ctL ((fgs ls F).take (a+1)) F):=by
    rw [hst,nums,nums,List.map_set]; rfl
   have hwa:IntKind.i64.wrap ((a:Int)+1)=(a:Int)+1:=Zad (by omega) (by omega)
   have hwg:IntKind.i64.wrap (g:Int)=(g:Int):=Zad (by omega) (by omega)
   have hwq:IntKind.i64.wrap ((q:Int)+1)=(q:Int)+1:=Zad (by omega) (by omega)
   have hnl:(nums (ctL ((fgs ls F).take a) F)).length=F:=by rw [Zbt,Zfe]
   have hN':=hN (a+1)
   rw [← hset] at hN'
   have hrn0:=hrn
   have hrn1:=fun k=>hrn k (ctL ((fgs ls F).take a) F)
   have hrn2:=fun k=>hrn k (ctL ((fgs ls F).take (a+1)) F)
   rw [← hset] at hrn2
   rw [e1,e2] at hN' ⊢
   have hml:(O.map orow).length=O.length:=by rw [List.length_map]
   clear hN hst hset hKv hO e1 e2
   generalize O.map orow=T at *
   generalize nums (ctL ((fgs ls F).take a) F)=W at *
   unfold orow at hg1
   rw [hxg] at hg1
   obtain⟨hg1l,hg12⟩:=getE hg1
   simp [hlt,hml,hg1,hg12,hwa,hwg,hwq,hg,hnl,hcn,hcn2]
   exact hN' [] _ _ (by omega) (by omega) (by simp [hrO,hrn2])
 · have hae:a=O.length:=by omega
   subst hae
   have hct:ctL ((fgs ls F).take O.length) F=cnLs ls F:=by rw [hOl,List.take_length,Z3c]
   rw [hct]
   have hfl:(nums (cnLs ls F)).length=F:=by rw [Zbt,Zd9]
   rw [hfl] at hKv
   simp [hlt]
   exact endK hKv [(1,2)] (by simp [hrn])
end Go.Known
end
section
namespace Go.Known
open Go Go.AE Go.Proofs
open Go.Plain
theorem Z3g:PCall Tryz.prog 13 [] (.bool true):=mo33
theorem c12zL:PCall Tryz.prog 21 [.agg [.int .i64 0,.nilSl],.agg [.int .i64 0,.nilSl]] (.bool true):=by
 refine Zbr hm Tryz.func21 cf12 rfl rfl rfl trivial fun K hK=>?_
 simp
 refine Zay (α:=Unit) (fun _=>[(5,.int .i64 0),(2,.ptr 1 0 0)]) (fun _=>⟨[(1,.cells 2 [[.int .i64 0,.nilSl]])],2⟩) (fun _=>0) (fun _=>True) () [] (by simp) trivial ?_
 intro _ _ N hN
 simp
 exact endK hK [] (by simp)
theorem cHands (fs:List Fg) (re lo f:Int) (ls:List Lt):PCall Tryz.prog 23 [frV fs re lo,cV f ls] (.bool (decide (fs.length≤45)&&decide (ls.length≤40))):=by
 refine Zbr hm Tryz.func23 Z3o rfl rfl (by simp [Zae,AVal.closed,Zaf,Zab,frV]) trivial fun K hK=>?_
 have hlen:(ls.map rowL).length=ls.length:=List.length_map ..
 have hlenG:(fs.map rowG).length=fs.length:=List.length_map ..
 unfold frV cV
 generalize ls.map rowL=rows at *
 generalize fs.map rowG=rowsG at *
 by_cases h1:fs.length≤45
 · have h1':(fs.length:Int)≤45:=by omega
   rw [decide_eq_true h1,Bool.true_and] at hK
   by_cases h2:ls.length≤40
   · have h2':(ls.length:Int)≤40:=by omega
     rw [decide_eq_true h2] at hK
     simp [hlen,hlenG,h1',h2']
     exact endK hK [] (by simp)
   · have h2':¬(ls.length:Int)≤40:=by omega
     rw [decide_eq_false h2] at hK
     simp [hlen,hlenG,h1',h2']
     exact endK hK [] (by simp)
 · have h1':¬(fs.length:Int)≤45:=by omega
   rw [decide_eq_false h1,Bool.false_and] at hK
   simp [hlen,hlenG,h1']
   exact endK hK [] (by simp)
end Go.Known
end
section
namespace Go.Known
open Go Go.AE Go.Proofs
open Go.Plain
open Go.ChangeShapes Go.WideShapes Go.RowKit Go.Deep
variable {H:Type} {enc:TypeId×Value→H} {w:World} {base:Nat} {spare:Nat→Bool} {held:Bool}
def Z3s (x:Fg):List Value:=[.int .i64 x.p,.bool x.r,.int .i64 x.d]
set_option maxRecDepth 100000 in
theorem Zs2 {n:Nat} {cs:List Value} {x:DataW H×List MemPlace} (h:DataW.trod enc Tryz.prog w base spare held n 68 cs=some x) :
 ∃ l:Fg,cs=Z3s l:=by
 obtain⟨xs,m,_,_,hl,hlen,hf⟩:=DataW.trod_struct Tryz.underlying68 h
 have hc:Tryz.prog.cellsOf 68=3:=by kernel_rfl
 have h3:Tryz.prog.cellsOf 3=1:=by kernel_rfl
 have h4:Tryz.prog.cellsOf 4=1:=by kernel_rfl
 rw [hc] at hl
 match cs,hl with
 | [a0,a1,a2],_=>
  match xs,hlen with
  | [x0,x1,x2],_=>
   have e0:DataW.trod enc Tryz.prog w base spare held m 3 (([a0,a1,a2].drop 0).take (Tryz.prog.cellsOf 3))=some x0:=hf 0 _ rfl
   rw [h3] at e0
   have e1:DataW.trod enc Tryz.prog w base spare held m 4 (([a0,a1,a2].drop 1).take (Tryz.prog.cellsOf 4))=some x1:=hf 1 _ rfl
   rw [h4] at e1
   have e2:DataW.trod enc Tryz.prog w base spare held m 3 (([a0,a1,a2].drop 2).take (Tryz.prog.cellsOf 3))=some x2:=hf 2 _ rfl
   rw [h3] at e2
   obtain⟨n0,q0,_,_⟩:=DataW.trod_int (t:=3) (k:=.i64) Tryz.underlying3 e0
   obtain⟨b1,q1,_⟩:=DataW.trod_bool (t:=4) Tryz.underlying4 e1
   obtain⟨n2,q2,_,_⟩:=DataW.trod_int (t:=3) (k:=.i64) Tryz.underlying3 e2
   have r0:a0=.int .i64 n0:=by simpa using q0
   have r1:a1=.bool b1:=by simpa using q1
   have r2:a2=.int .i64 n2:=by simpa using q2
   subst r0 r1 r2
   exact⟨⟨n0,b1,n2⟩,rfl⟩
theorem rowG_R (Φ:Pers) (ρ:Rho) (l:Fg) (j:Nat) (x:AVal) (h:(rowG l)[j]? = some x):∃ v,(Z3s l)[j]? = some v∧v.oneCell'=true∧R Φ ρ x v:=by
 match j,h with
 | 0,h=>cases h; exact⟨_,rfl,rfl,.int _ _⟩
 | 1,h=>cases h; exact⟨_,rfl,rfl,.bool _⟩
 | 2,h=>cases h; exact⟨_,rfl,rfl,.int _ _⟩
 | j+3,h=>cases h
theorem Z0j {α:Type} [Inhabited α] (rowA:α→List AVal) (rowB:α→List Value) {k:Nat} {TS TE:TypeId} (hu:Tryz.prog.underlying TS=some (.slice TE)) (hck:Tryz.prog.cellsOf TE=k) (hk:0<k)
 (hA:∀ x,(rowA x).length=k) (hB:∀ x,(rowB x).length=k)
 (hrow:∀ (Φ:Pers) (ρ:Rho) (l:α) (j:Nat) (x:AVal),(rowA l)[j]? = some x → ∃ v,(rowB l)[j]? = some v∧v.oneCell'=true∧R Φ ρ x v)
 (hopen:∀ (m:Nat) (cs:List Value) (x:DataW H×List MemPlace),DataW.trod enc Tryz.prog w 0 (fun _=>true) held m TE cs=some x → ∃ l:α,cs=rowB l)
 {n:Nat} {v:Value} {x:DataW H×List MemPlace} (h:DataW.trod enc Tryz.prog w 0 (fun _=>true) held n TS [v]=some x):∃ ls:List α,∀ ρ,R (allP w) ρ (.imm (ls.map rowA)) v:=by
 have hf:∀ l:α,∃ v0,(rowB l)[0]? = some v0:=fun l=>⟨(rowB l)[0]'(by rw [hB]; exact hk),List.getElem?_eq_getElem _⟩
 rcases open_slice hu h with⟨h1,_⟩ | ⟨a,len,cap,m,n',D,Pl,h1,_,hlc,_,hm,_,hel⟩
 · cases h1
   exact⟨[],fun ρ=>.imm0 _ _ fun hp=>absurd hp (by omega)⟩
 · cases h1
   simp only [if_true] at hm
   subst hm
   rw [hck] at hel
   have hL:∀ i,∃ l:α,i<len→w.cells? 0 (a.add (i*k)) k=some (rowB l):=fun i=>by
    by_cases hi:i<len
    · obtain⟨cs',g1,g2⟩:=hel i (by omega)
      obtain⟨l,rfl⟩:=hopen _ _ _ g2
      exact⟨l,fun _=>g1⟩
    · exact⟨default,fun h=>absurd h hi⟩
   obtain⟨L,hL⟩:=Classical.axiomOfChoice hL
   rcases Nat.eq_zero_or_pos len with h0 | h0
   · subst h0
     refine⟨[],fun ρ=>.imm0 _ _ fun hp=>?_⟩
     obtain⟨cs',g1,g2⟩:=hel 0 (by omega)
     obtain⟨l,rfl⟩:=hopen _ _ _ g2
     obtain⟨v0,hv0⟩:=hf l
     have hh:=(Zkg g1 0 hk).1
     have e1:(a.add (0*k)).add 0=a:=by simp [Addr.add]
     rw [e1,hv0] at hh
     have hsp:=Zlh hh
     obtain⟨ab,ao,asp⟩:=a
     simp only at hsp
     subst hsp
     exact⟨_,_,rfl⟩
   have hcell:∀ i j,i<len→j<k→w.cell? ((a.add (i*k)).add j)=(rowB (L i))[j]?:=fun i j hi hj=>(Zkg (hL i hi) j hj).1
   obtain⟨v0,hv0⟩:=hf (L 0)
   have hc0:=hcell 0 0 h0 hk
   rw [hv0] at hc0
   have hsp:a.spot=none:=by
    have e1:(a.add (0*k)).add 0=a:=by simp [Addr.add]
    rw [e1] at hc0
    exact Zlh hc0
   have hblk:∃ c e fz,w.heap[a.block]? = some (.cells c e fz):=by
    obtain⟨c,e,fz,g1,_⟩:=Zm3 hc0
    rw [Zez,Zez] at g1
    exact⟨c,e,fz,g1⟩
   obtain⟨c,e,fz,hcc⟩:=hblk
   have hat:∀ i j v,i<len→j<k→(rowB (L i))[j]? = some v→c[a.off+i*k+j]? = some v:=fun i j v hi hj hv=>by
    have h2:=hcell i j hi hj
    rw [hv] at h2
    obtain⟨c',e',fz',g1,g2⟩:=Zm3 h2
    rw [Zez,Zez,hcc] at g1
    cases g1
    rw [Zqx,Zqx] at g2
    exact g2
   have hget:∀ (i:Nat) (row:List AVal),(((List.range len).map L).map rowA)[i]? = some row→i<len∧row=rowA (L i):=fun i row hi=>by
    rw [List.map_map,List.getElem?_map] at hi
    by_cases hil:i<len
    · rw [List.getElem?_range hil] at hi
      cases hi
      exact⟨hil,rfl⟩
    · rw [List.getElem?_eq_none (by simpa using hil)] at hi
      cases hi
   have hjk:∀ (l:α) (j:Nat) (x:AVal),(rowA l)[j]? = some x→j<k:=fun l j x hx=>by rw [← hA l]; exact(List.getElem?_eq_some_iff.1 hx).1
   refine⟨(List.range len).map L,fun ρ=>?_⟩
   obtain⟨ab,ao,asp⟩:=a
   simp only at hsp hcc hat
   subst hsp
   have hlen:(((List.range len).map L).map rowA).length=len:=by simp
   have:=R.imm (Φ:=allP w) (ρ:=ρ) (((List.range len).map L).map rowA) ab ao k _ c (fun i j=>((rowB (L i))[j]?).getD (.bool false)) (fun e=>by rw [e] at hlen; simp at hlen; omega) (by rw [hlen]; exact hlc)
    (by unfold allP; rw [hcc]) (fun i row hi=>by obtain⟨_,rfl⟩:=hget i row hi; exact hA _)
    (fun i row j x hi hj=>by
      obtain⟨hil,rfl⟩:=hget i row hi
      obtain⟨v,g1,g2,_⟩:=hrow (allP w) ρ (L i) j x hj
      rw [g1]
      exact⟨hat i j v hil (hjk _ j x hj) g1,g2⟩)
    (fun i row j x hi hj=>by
      obtain⟨hil,rfl⟩:=hget i row hi
      obtain⟨v,g1,_,g3⟩:=hrow (allP w) ρ (L i) j x hj
      rw [g1]
      exact g3)
   rw [hlen] at this
   exact this
theorem Zuw {n:Nat} {v:Value} {x:DataW H×List MemPlace} (h:DataW.trod enc Tryz.prog w 0 (fun _=>true) held n 48 [v]=some x):∃ ls:List Fg,∀ ρ,R (allP w) ρ (.imm (ls.map rowG)) v:=
 Z0j rowG Z3s (k:=3) Tryz.underlying48 (by kernel_rfl) (by decide) (fun _=>rfl) (fun _=>rfl) rowG_R (fun _ _ _ h=>Zs2 h) h
set_option maxRecDepth 100000 in
theorem Z2x {v:Value} {d:DataW H} {p:List MemPlace} {b:Nat} (hok:Value.okWide Tryz.prog w .any b 50 v) (h:DataW.Trod enc Tryz.prog w 0 (fun _=>true) held 50 v d p):∃ (fs:List Fg) (re lo:Int),∀ ρ,R (allP w) ρ (frV fs re lo) v:=by
 unfold Value.okWide at hok
 rw [Tryz.underlying50] at hok
 obtain⟨cs,rfl,hsz,_⟩:=hok
 obtain⟨fuel,h⟩:=h
 have hc:Tryz.prog.cellsOf 50=3:=by kernel_rfl
 have h3:Tryz.prog.cellsOf 3=1:=by kernel_rfl
 have h22:Tryz.prog.cellsOf 48=1:=by kernel_rfl
 rw [hc] at hsz
 obtain⟨xs,n,_,_,hl,hlen,hf⟩:=DataW.trod_struct Tryz.underlying50 h
 obtain⟨cl⟩:=cs
 match cl,hsz with
 | [a0,a1,a2],_=>
  match xs,hlen with
  | [y0,y1,y2],_=>
   have e0:DataW.trod enc Tryz.prog w 0 (fun _=>true) held n 48 (([a0,a1,a2].drop 0).take (Tryz.prog.cellsOf 48))=some y0:=hf 0 _ rfl
   rw [h22] at e0
   have e1:DataW.trod enc Tryz.prog w 0 (fun _=>true) held n 3 (([a0,a1,a2].drop 1).take (Tryz.prog.cellsOf 3))=some y1:=hf 1 _ rfl
   rw [h3] at e1
   have e2:DataW.trod enc Tryz.prog w 0 (fun _=>true) held n 3 (([a0,a1,a2].drop 2).take (Tryz.prog.cellsOf 3))=some y2:=hf 2 _ rfl
   rw [h3] at e2
   obtain⟨k1,q1,_,_⟩:=DataW.trod_int (t:=3) (k:=.i64) Tryz.underlying3 e1
   obtain⟨k2,q2,_,_⟩:=DataW.trod_int (t:=3) (k:=.i64) Tryz.underlying3 e2
   have r1:a1=.int .i64 k1:=by simpa using q1
   have r2:a2=.int .i64 k2:=by simpa using q2
   subst r1 r2
   obtain⟨fs,hfs⟩:=Zuw (v:=a0) e0
   refine⟨fs,k1,k2,fun ρ=>.agg _ _ rfl fun i x v hx hv=>?_⟩
   match i,hx,hv with
   | 0,hx,hv=>cases hx; cases hv; exact hfs ρ
   | 1,hx,hv=>cases hx; cases hv; exact .int _ _
   | 2,hx,hv=>cases hx; cases hv; exact .int _ _
   | i+3,hx,hv=>simp at hx
end Go.Known
end
