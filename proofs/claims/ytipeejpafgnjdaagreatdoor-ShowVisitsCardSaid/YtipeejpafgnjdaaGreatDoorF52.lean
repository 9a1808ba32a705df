/- Part 52 of the proof: Ww, Ws, Wx. -/
import Derived.Test.YtipeejpafgnjdaaGreatDoorF51
set_option linter.all false
section
namespace Go.Known
open Go Go.AE Go.Proofs
open Go.Plain
theorem perL_mem {fs:List Fg} {ls:List Lt} {x:Nat}:∀ {n:Nat},x∈perL fs ls n→0<smP (x:Int) fs ls fs.length
 | 0,h=>by simp [perL] at h
 | i+1,h=>by
  unfold perL at h
  split at h
  · rename_i hs
    rcases List.mem_append.1 h with h | h
    · exact perL_mem h
    · have:x=i+1:=by simpa using h
      subst this
      rw [Int.natCast_add,Int.natCast_one]
      exact hs
  · exact perL_mem h
theorem enE_zero {fs gs:List Fg} {re lo g a:Int} {ls:List Lt} (h:enE fs gs re lo g a ls=0):gs≠[]∧mixP gs=false∧okP fs.length g a ls∧fs.length+gs.length≤40∧frB (enF fs gs g.toNat gs.length) re lo=true∧posB (enD g a ls gs.length)=true:=by
 unfold enE at h
 split at h
 · cases h
 split at h
 · cases h
 split at h
 · cases h
 split at h
 · cases h
 split at h
 · cases h
 rename_i h1 h2 h3 h4 h5
 have h3':=Decidable.not_not.1 h3
 exact⟨h1,by simpa using h2,h3'.1,by omega,by simpa using h4,by simpa using h5⟩
theorem visit_facts {fs gs:List Fg} {re lo g a:Int} {ls:List Lt} (hE:handE fs re lo fs.length ls=0) (hen:enE fs gs re lo g a ls=0) (hno:∀ i,i<fs.length→(fgAt fs i).p≠perF gs) :
 handE (enF fs gs g.toNat gs.length) re lo ((fs.length+gs.length:Nat):Int) (enD g a ls gs.length)=0∧lvE (perF gs) (enF fs gs g.toNat gs.length) (enD g a ls gs.length)=0 ∧
 stayF (perF gs) (enF fs gs g.toNat gs.length)=fs∧lvC (perF gs) (enF fs gs g.toNat gs.length) (enD g a ls gs.length)=((fs.length:Int),ls) ∧
 ∀ x,x∈perL (enF fs gs g.toNat gs.length) (enD g a ls gs.length) 9→(x:Int)≠perF gs:=by
 obtain⟨hg0,hmx,hp,h40,hfr,hpo⟩:=enE_zero hen
 obtain⟨_,he,_,hP⟩:=handE_zero hE
 obtain⟨G,hGe⟩:∃ G:Nat,g=(G:Int):=⟨g.toNat,by have:=hp.1; omega⟩
 have hG:G≤fs.length:=by have:=hp.2.1; omega
 have hGt:g.toNat=G:=by omega
 have hgp:0<gs.length:=List.length_pos_iff.2 hg0
 have hl:(enF fs gs g.toNat gs.length).length=fs.length+gs.length:=enF_length (Nat.le_refl _)
 have heX:=enD_ok he hp gs.length (by omega)
 have hPX:PosP (enD g a ls gs.length):=Classical.byContradiction fun h=>by rw [posB_false h] at hpo; cases hpo
 have hsm:smP (perF gs) (enF fs gs g.toNat gs.length) (enD g a ls gs.length) (enF fs gs g.toNat gs.length).length=0:=by
  rcases Nat.eq_zero_or_pos (smP (perF gs) (enF fs gs g.toNat gs.length) (enD g a ls gs.length) (enF fs gs g.toNat gs.length).length) with h | h
  · exact h
  · obtain⟨j,h1,h2,h3⟩:=(smP_iff _).1 h
    rw [hl] at h1
    rw [hGt] at h2
    obtain⟨q1,q2⟩:=(enF_per hG hmx hno h1).1 h2
    have:=cnL_new he hp (m:=gs.length) (by omega) hP hPX (j:=j - G) (by omega)
    rw [show g+((j - G:Nat):Int)+1=(j:Int)+1 by omega] at this
    omega
 have hfe:((fs.length:Int)+gs.length)=((fs.length+gs.length:Nat):Int):=by omega
 rw [hfe] at heX
 refine⟨?_,?_,?_,?_,?_⟩
 · unfold handE
   rw [if_neg (by simp [hfr]),if_neg (fun h=>h heX),if_pos ⟨by rw [hl],hpo⟩]
 · have hh:hasP (perF gs) (enF fs gs g.toNat gs.length)=true:=hasP_iff.2 ⟨G,by omega,by rw [hGt]; exact(enF_per hG hmx hno (by omega)).2 ⟨Nat.le_refl _,by omega⟩⟩
   unfold lvE
   rw [if_neg (by simp [hh]),if_pos hsm]
 · rw [hGt]; exact enF_stay hmx hno
 · have:=lvD_enD hGe hG hmx hno he hp h40 (fs.length+gs.length) (Nat.le_refl _)
   have e:G+gs.length - max (fs.length+gs.length - (fs.length+gs.length)) G=gs.length:=by omega
   rw [e,Nat.sub_self] at this
   unfold lvC
   rw [hl,hGt,this]
   simp only [enD]
   congr 1
   omega
 · intro x hx hxp
   have:=perL_mem hx
   rw [hxp,hsm] at this
   omega
set_option maxRecDepth 100000 in
set_option maxHeartbeats 16000000 in
theorem cVisi (fs gs:List Fg) (re lo f g a:Int) (ls:List Lt):PCall Tryz.prog 8 [frV fs re lo,cV f ls,.imm (gs.map rowG),plV g a] (.bool true):=by
 refine PCall_1 hm Tryz.func8 clVisits rfl rfl (by simp [closedL,AVal.closed,closed_rowG,closed_rows,frV,plV]) trivial fun K hK=>?_
 have hh:=cHands fs re lo f ls
 have hk:=known9L
 have hrf1:∀ q,renLL q (fs.map rowG)=fs.map rowG:=fun q=>renLL_closed q _ (closed_rowG _)
 have hrs1:∀ q,renLL q (ls.map rowL)=ls.map rowL:=fun q=>renLL_closed q _ (closed_rows _)
 have hrg1:∀ q,renLL q (gs.map rowG)=gs.map rowG:=fun q=>renLL_closed q _ (closed_rowG _)
 have hlg:(gs.map rowG).length=gs.length:=List.length_map ..
 have hlf:(fs.map rowG).length=fs.length:=List.length_map ..
 have hgf:=fun i hi=>get_rowG fs (i:=i) hi
 have hgg:=fun i hi=>get_rowG gs (i:=i) hi
 by_cases hs:¬(fs.length≤45∧ls.length≤40)
 · have hb:(decide (fs.length≤45)&&decide (ls.length≤40))=false:=by
    rw [Bool.eq_false_iff]
    simpa using hs
   rw [hb] at hh
   unfold frV cV plV at *
   simp
   refine SC_pure hh ?_
   simp
   refine SC_pure hk ?_
   simp
   exact endK hK [] (by simp)
 have hb:(decide (fs.length≤45)&&decide (ls.length≤40))=true:=by
  have:fs.length≤45∧ls.length≤40:=Decidable.not_not.1 hs
  simp [this]
 rw [hb] at hh
 by_cases hg:45<gs.length
 · have hg':(45:Int)<gs.length:=by omega
   unfold frV cV plV at *
   simp
   refine SC_pure hh ?_
   simp [hlg,hg,hg']
   refine SC_pure hk ?_
   simp
   exact endK hK [] (by simp)
 have hg':¬(45:Int)<gs.length:=by omega
 have hEn:=cEnter fs gs re lo f g a ls (by omega) (by omega) (by omega)
 unfold enT at hEn
 by_cases hE:handE fs re lo f ls=0
 · rw [if_neg (by simp [hE])] at hEn
   have hFe:=(handE_zero hE).2.2.1
   subst hFe
   by_cases hl:enE fs gs re lo g a ls=0
   · rw [if_neg (by simp [hl])] at hEn
     have hg0:=(enE_zero hl).1
     have hgp:0<gs.length:=List.length_pos_iff.2 hg0
     have hgn:¬gs.length=0:=by omega
     have hgp':(0:Int)<gs.length:=by omega
     have hh0:=hgg 0 hgp
     obtain⟨hhl',hh2⟩:=getE hh0
     have hFl:(enF fs gs g.toNat gs.length).length=fs.length+gs.length:=enF_length (Nat.le_refl _)
     have h40:=(enE_zero hl).2.2.2.1
     have hXl:(enD g a ls gs.length).length≤40:=by rw [enD_length]; omega
     have hcast:((fs.length:Int)+gs.length)=((fs.length+gs.length:Nat):Int):=by omega
     rw [hcast] at hEn
     have hfacts:=fun hno=>visit_facts (g:=g) (a:=a) hE hl hno
     have hPe:=cPersons (enF fs gs g.toNat gs.length) re lo ((fs.length+gs.length:Nat):Int) (enD g a ls gs.length) (by omega) (by omega)
     have hLe:=c25 (perF gs) (enF fs gs g.toNat gs.length) re lo ((fs.length+gs.length:Nat):Int) (enD g a ls gs.length) (by omega) (by omega)
     have hsf:=cSameFrame fs re lo (by omega)
     have h12:=c12v fs.length fs.length ls ls (by omega) (by omega)
     rw [decide_eq_true rfl,decide_eq_true rfl,Bool.true_and] at h12
     obtain⟨Q,hQ⟩:∃ Q,perL (enF fs gs g.toNat gs.length) (enD g a ls gs.length) 9=Q:=⟨_,rfl⟩
     unfold peT at hPe
     unfold lvT at hLe
     rw [hQ] at hPe hfacts
     have hQl:Q.length≤9:=by rw [← hQ]; exact perL_length _ _ 9
     have hPe':=fun hno=>by
      have:=hPe
      rw [if_neg (by rw [(hfacts hno).1]; simp)] at this
      exact this
     have hLe':=fun hno=>by
      have:=hLe
      rw [if_neg (by rw [(hfacts hno).1]; simp),if_neg (by rw [(hfacts hno).2.1]; simp),(hfacts hno).2.2.1,(hfacts hno).2.2.2.1] at this
      exact this
     have hQn:=fun hno=>(hfacts hno).2.2.2.2
     clear hfacts hPe hLe hFl hQ hXl
     have hrF:∀ q,renLL q ((enF fs gs g.toNat gs.length).map rowG)=(enF fs gs g.toNat gs.length).map rowG:=fun q=>renLL_closed q _ (closed_rowG _)
     have hrX:∀ q,renLL q ((enD g a ls gs.length).map rowL)=(enD g a ls gs.length).map rowL:=fun q=>renLL_closed q _ (closed_rows _)
     have hper:perF gs=(fgAt gs 0).p:=rfl
     unfold frV cV plV at *
     generalize (enF fs gs g.toNat gs.length).map rowG=rF at *
     generalize (enD g a ls gs.length).map rowL=rX at *
     generalize hN:fs.length+gs.length=n at *
     simp
     refine SC_pure hh ?_
     simp [hlg,hg,hg']
     refine SC_pure hEn ?_
     simp [hlg,hg0,hgn]
     generalize gs.map rowG=rowsg at *
     generalize fs.map rowG=rowsf at *
     unfold rowG at hgf hh0 hh2
     refine wZ_loop (α:=Nat) (fun i=>[(12,.int .i64 i),(10,.ptr 4 0 0),(9,.ptr 3 0 0),(5,.ptr 2 0 0),(4,.ptr 1 0 0),(2,.imm rowsg)])
      (fun i=>⟨[(4,.cells 2 [[.int .i64 n,.imm rX]]),(3,.cells 3 [[.imm rF,.int .i64 re,.int .i64 lo]]),(2,.cells 2 [[.int .i64 fs.length,.imm (ls.map rowL)]]),(1,.cells 3 [[.imm rowsf,.int .i64 re,.int .i64 lo]])],5⟩)
      (fun i=>fs.length - i) (fun i=>i≤fs.length ∧ ∀ j,j<i→(fgAt fs j).p≠perF gs) 0 [(1,1),(2,2),(3,23),(4,24)] (by simp [hrf1,hrs1,hrg1,hrF,hrX]) (by simp) ?_
     rintro i ⟨hi,hI⟩ N hN'
     try simp only at hi hN' ⊢
     by_cases hlt:i<fs.length
     · have hw:IntKind.i64.wrap ((i:Int)+1)=(i:Int)+1:=wrap64 (by omega) (by omega)
       have hgi:=hgf i hlt
       obtain⟨hgl',hg2⟩:=getE hgi
       have hN2:=hN' (i+1)
       rw [Int.natCast_add,Int.natCast_one] at hN2
       by_cases hp:(fgAt fs i).p=(fgAt gs 0).p
       · simp [hlt,hlf,hlg,hgp,hgi,hg2,hh0,hh2,hp,hw]
         refine SC_pure hk ?_
         simp
         exact endK hK [] (by simp)
       · simp [hlt,hlf,hlg,hgp,hgi,hg2,hh0,hh2,hp,hw]
         refine hN2 [(1,1),(2,2),(3,3),(4,4)] _ _ (by omega) ⟨by omega,fun j hj=>?_⟩ (by simp [hrf1,hrs1,hrg1,hrF,hrX])
         by_cases hji:j=i
         · subst hji; rw [hper]; exact hp
         · exact hI j (by omega)
     · have hie:i=fs.length:=by omega
       subst hie
       have hP2:=hPe' hI
       have hL2:=hLe' hI
       have hQ2:=hQn hI
       clear hPe' hLe' hQn hN' hI
       rw [hper] at hL2 hQ2
       simp [hlf]
       refine SC_pure hP2 ?_
       by_cases hQ0:Q=[]
       · subst hQ0
         simp [nums,imV]
         refine wZ_loop (α:=Unit) (fun _=>[(15,.int .i64 0),(13,.nilSl),(10,.ptr 4 0 0),(9,.ptr 3 0 0),(5,.ptr 2 0 0),(4,.ptr 1 0 0),(2,.imm rowsg)])
          (fun _=>⟨[(4,.cells 2 [[.int .i64 n,.imm rX]]),(3,.cells 3 [[.imm rF,.int .i64 re,.int .i64 lo]]),(2,.cells 2 [[.int .i64 fs.length,.imm (ls.map rowL)]]),(1,.cells 3 [[.imm rowsf,.int .i64 re,.int .i64 lo]])],5⟩)
          (fun _=>0) (fun _=>True) () [(1,1),(2,2),(3,3),(4,4)] (by simp [hrf1,hrs1,hrg1,hrF,hrX]) trivial ?_
         intro _ _ N hN3
         simp [hlg,hgp,hgp',hh0,hh2]
         refine DC_pure hL2 ?_
         simp [FT.indep]
         refine SC_pure hsf ?_
         simp
         refine SC_pure h12 ?_
         simp
         refine SC_pure hk ?_
         simp
         exact endK hK [] (by simp)
       · have hV:imV (nums Q)=.imm (nums Q):=by unfold imV; rw [if_neg (by simpa [nums] using hQ0)]
         rw [hV]
         have hln:=len_nums Q
         have hnq:=fun k (hk:k<Q.length)=>nums_get (List.getElem?_eq_getElem hk)
         have hrQ:=fun q=>ren_nums q Q
         have hQm:∀ k (hk:k<Q.length),((Q[k]:Nat):Int)≠(fgAt gs 0).p:=fun k hk=>hQ2 _ (List.getElem_mem hk)
         generalize nums Q=rQ at *
         simp
         refine wZ_loop (α:=Nat) (fun k=>[(15,.int .i64 k),(13,.imm rQ),(10,.ptr 4 0 0),(9,.ptr 3 0 0),(5,.ptr 2 0 0),(4,.ptr 1 0 0),(2,.imm rowsg)])
          (fun _=>⟨[(4,.cells 2 [[.int .i64 n,.imm rX]]),(3,.cells 3 [[.imm rF,.int .i64 re,.int .i64 lo]]),(2,.cells 2 [[.int .i64 fs.length,.imm (ls.map rowL)]]),(1,.cells 3 [[.imm rowsf,.int .i64 re,.int .i64 lo]])],5⟩)
          (fun k=>Q.length - k) (fun k=>k≤Q.length) 0 [(1,1),(2,2),(3,3),(4,4)] (by simp [hrf1,hrs1,hrg1,hrF,hrX,hrQ]) (by simp) ?_
         intro k hkl N hN3
         try simp only at hkl hN3 ⊢
         by_cases hkt:k<Q.length
         · have hw:IntKind.i64.wrap ((k:Int)+1)=(k:Int)+1:=wrap64 (by omega) (by omega)
           have hgk:=hnq k hkt
           obtain⟨hgl',hg2⟩:=getE hgk
           have hne:=hQm k hkt
           have hN4:=hN3 (k+1)
           rw [Int.natCast_add,Int.natCast_one] at hN4
           simp [hkt,hln,hlg,hgp,hgk,hg2,hh0,hh2,hne,hw]
           exact hN4 [(1,1),(2,2),(3,3),(4,4)] _ _ (by omega) (by omega) (by simp [hrf1,hrs1,hrg1,hrF,hrX,hrQ])
         · have hke:k=Q.length:=by omega
           subst hke
           simp [hln,hlg,hgp,hgp',hh0,hh2]
           refine DC_pure hL2 ?_
           simp [FT.indep]
           refine SC_pure hsf ?_
           simp
           refine SC_pure h12 ?_
           simp
           refine SC_pure hk ?_
           simp
           exact endK hK [] (by simp)
   · rw [if_pos (by simpa using hl)] at hEn
     unfold frV cV plV at *
     simp
     refine SC_pure hh ?_
     simp [hlg,hg,hg']
     refine SC_pure hEn ?_
     simp [hl]
     refine SC_pure hk ?_
     simp
     exact endK hK [] (by simp)
 · rw [if_pos (by simpa using hE)] at hEn
   unfold frV cV plV at *
   simp
   refine SC_pure hh ?_
   simp [hlg,hg,hg']
   refine SC_pure hEn ?_
   simp [hE]
   refine SC_pure hk ?_
   simp
   exact endK hK [] (by simp)
end Go.Known
end
section
namespace Go.Known
open Go Go.AE Go.Proofs
open Go.Plain
open Go.ChangeShapes Go.WideShapes Go.RowKit Go.Deep
variable {H:Type} {enc:TypeId×Value→H} {w:World} {base:Nat} {spare:Nat→Bool} {held:Bool}
set_option maxRecDepth 100000 in
theorem fingers_R {v:Value} {d:DataW H} {p:List MemPlace} {b:Nat} (hok:Value.okWide Tryz.prog w .any b 48 v) (h:DataW.Trod enc Tryz.prog w 0 (fun _=>true) held 48 v d p):∃ gs:List Fg,∀ ρ,R (allP w) ρ (.imm (gs.map rowG)) v:=by
 obtain⟨a,len,cap,rfl⟩:=okWide_slice Tryz.underlying48 hok
 obtain⟨fuel,h⟩:=h
 exact sliceG_R h
set_option maxRecDepth 100000 in
theorem place_R {v:Value} {d:DataW H} {p:List MemPlace} {b:Nat} (hok:Value.okWide Tryz.prog w .any b 59 v) (h:DataW.Trod enc Tryz.prog w 0 (fun _=>true) held 59 v d p):∃ g a:Int,∀(Φ:Pers) ρ,R Φ ρ (plV g a) v:=by
 unfold Value.okWide at hok
 rw [Tryz.underlying59] at hok
 obtain⟨cs,rfl,hsz,_⟩:=hok
 obtain⟨fuel,h⟩:=h
 have hc:Tryz.prog.cellsOf 59=2:=by kernel_rfl
 have h3:Tryz.prog.cellsOf 3=1:=by kernel_rfl
 rw [hc] at hsz
 obtain⟨xs,n,_,_,hl,hlen,hf⟩:=DataW.trod_struct Tryz.underlying59 h
 obtain⟨cl⟩:=cs
 match cl,hsz with
 | [a0,a1],_=>
  match xs,hlen with
  | [y0,y1],_=>
   have e0:DataW.trod enc Tryz.prog w 0 (fun _=>true) held n 3 (([a0,a1].drop 0).take (Tryz.prog.cellsOf 3))=some y0:=hf 0 _ rfl
   rw [h3] at e0
   have e1:DataW.trod enc Tryz.prog w 0 (fun _=>true) held n 3 (([a0,a1].drop 1).take (Tryz.prog.cellsOf 3))=some y1:=hf 1 _ rfl
   rw [h3] at e1
   obtain⟨k0,q0,_,_⟩:=DataW.trod_int (t:=3) (k:=.i64) Tryz.underlying3 e0
   obtain⟨k1,q1,_,_⟩:=DataW.trod_int (t:=3) (k:=.i64) Tryz.underlying3 e1
   have r0:a0=.int .i64 k0:=by simpa using q0
   have r1:a1=.int .i64 k1:=by simpa using q1
   subst r0 r1
   refine⟨k0,k1,fun Φ ρ=>.agg _ _ rfl fun i x v hx hv=>?_⟩
   match i,hx,hv with
   | 0,hx,hv=>cases hx; cases hv; exact .int _ _
   | 1,hx,hv=>cases hx; cases hv; exact .int _ _
   | i+2,hx,hv=>simp at hx
end Go.Known
end
section
namespace Go.Known
open Go Go.AE Go.Proofs
open Go.Plain
open Go.ChangeShapes Go.WideShapes Go.RowKit Go.Deep
variable {H:Type} {enc:TypeId×Value→H} {w:World} {base:Nat} {spare:Nat→Bool} {held:Bool}
theorem law_callsV {v0 v1 v2 v3:Value} {fs gs:List Fg} {re lo f g a:Int} {ls:List Lt} (h0:∀ ρ,R (allP w) ρ (frV fs re lo) v0) (h1:∀ ρ,R (allP w) ρ (cV f ls) v1) (h2:∀ ρ,R (allP w) ρ (.imm (gs.map rowG)) v2) (h3:∀ (Φ:Pers) ρ,R Φ ρ (plV g a) v3) :
 Calls Tryz.prog 8 #[v0,v1,v2,v3] w fun e w'=>e=.returned (.bool true)∧Below w.heap.size w w':=by
 have hc:=cVisi fs gs re lo f g a ls ⟨fun _=>none,1⟩ []
 refine(hc.2 ⟨w,fun _=>none,allP w⟩ (allP w) (fun _=>none) #[v0,v1,v2,v3] w ⟨⟨Below.refl _ _,fun B o hB=>(by cases hB)⟩,fun B c hB=>allP_of hB,fun b x hx=>(by cases hx),fun b b' x x' l l' h1=>(by cases h1),fun b l hb=>(by cases hb),fun B c hB=>.inl hB⟩
  ⟨rfl,fun i x u hx hu=>?_⟩ (fun b hb=>by simp at hb)).mono fun e w' he=>?_
 · match i,hx,hu with
   | 0,hx,hu=>cases hx; cases hu; exact h0 _
   | 1,hx,hu=>cases hx; cases hu; exact h1 _
   | 2,hx,hu=>cases hx; cases hu; exact h2 _
   | 3,hx,hu=>cases hx; cases hu; exact h3 _ _
   | i+4,hx,hu=>simp at hx
 · obtain⟨u,r,m',Φ',ρ',rfl,_,_,hr,hRr,_,rfl,_⟩:=he
   refine⟨?_,hr.base.below⟩
   cases hRr
   rfl
end Go.Known
end
