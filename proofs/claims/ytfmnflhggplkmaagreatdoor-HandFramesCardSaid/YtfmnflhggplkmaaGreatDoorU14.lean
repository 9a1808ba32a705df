/- Part 14 of the proof: AeS. -/
import Derived.Test.YtfmnflhggplkmaaGreatDoorU13
set_option linter.all false
namespace Go.AE
open Go.RowKit
section
variable {P:Program} {W:Base} {Φ:Pers} {ρ:Rho} {id:Nat} {w:World} {m m':Mem} {x:AVal} {a:Act} {t:List AVal}
theorem bool_of {y:AVal} {v:Value} {b:Bool} (hy:R Φ ρ y v) (h:y=.bool b):v=.bool b:=by subst h; exact bool_R hy
theorem mapUpd_of (ht:RL Φ ρ t a.tmps) (hr:Rel W Φ ρ m w) (ty:TypeId) (om ok ov:Operand) (op:AOp)
 (hc:(match P.underlying ty,cOpd om,cOpd ok,cOpd ov with
 | some (.map kt _),some m',some k',some v'=>match cKey P kt with
  | some q=>some (AOp.mapUpd q m' k' v')
  | none=>none
 | _,_,_,_=>none)=some op) (h:stepA id t m op=some (x,m')) :
 Done P (do Instr.mapUpdate ty (a.eval om) (a.eval ok) (a.eval ov); pure Next.skip) W Φ ρ id w x m':=by
 split at hc<;>first|(cases hc; done)|skip
 rename_i kt e m1 k1 v1 hu hm hk hv
 split at hc<;>first|(cases hc; done)|skip
 rename_i q hq
 injection hc with hc
 subst hc
 simp only[stepA]at h
 split at h<;>first|(cases h; done)|skip
 rename_i b hb
 split at h<;>first|(cases h; done)|skip
 rename_i es clock hg
 have hmv:=ev_R ht hm
 rw[hb]at hmv
 split at h<;>first|(cases h; done)|skip
 ·rename_i i z born hf
  obtain⟨h1,h2⟩:=same_pair h
  subst h1; subst h2
  exact mapUpd_done hr hu hq hmv (ev_R ht hk) (ev_R ht hv) hg (.inl ⟨_,_,_,hf,rfl,rfl⟩) fun w' hw=>run_u hw
 ·rename_i hf
  obtain⟨h1,h2⟩:=same_pair h
  subst h1; subst h2
  exact mapUpd_done hr hu hq hmv (ev_R ht hk) (ev_R ht hv) hg (.inr ⟨hf,rfl,rfl⟩) fun w' hw=>run_u hw
theorem slSl_of (ht:RL Φ ρ t a.tmps) (hr:Rel W Φ ρ m w) {ty e:TypeId} {k:Nat} {ox:Operand} {lo hi mx:Option Operand} {x':AOpd} {l h0 mx':Option AOpd} (hu:P.underlying ty=some (.slice e)) (hk:cSize P e=some k)
 (hx:cOpd ox=some x') (hl:cOpt lo=some l) (hh:cOpt hi=some h0) (hmx:cOpt mx=some mx') (h:stepA id t m (.slSl k x' l h0 mx')=some (x,m')) :
 Done P (do pure (Next.value (← Instr.sliceAt ty (a.eval ox) (lo.map a.eval) (hi.map a.eval) (mx.map a.eval)))) W Φ ρ id w x m':=by
 have hlo:=cOpt_R ht hl
 have hhi:=cOpt_R ht hh
 have hxv:=ev_R ht hx
 cases mx with
 | none=>
  simp only[cOpt,Option.some.injEq]at hmx
  subst hmx
  simp only[stepA]at h
  have key:m'=m ∧ ∃ u,(Instr.sliceAt ty (a.eval ox) (lo.map a.eval) (hi.map a.eval) none).run P w=.ok u w∧R Φ ρ x u:=by
   split at h<;>first|(cases h; done)|skip
   ·rename_i hy
    split at h<;>first|(cases h; done)|skip
    rename_i lh hb
    obtain⟨h1,h2⟩:=same_pair h
    exact ok_slSl hr hu hk hxv hlo hhi (.inl ⟨hy,⟨_,hb⟩,h1.symm,h2.symm⟩)
   ·rename_i hy
    split at h<;>first|(cases h; done)|skip
    rename_i lh hb
    obtain⟨h1,h2⟩:=same_pair h
    exact ok_slSl hr hu hk hxv hlo hhi (.inr (.inl ⟨hy,⟨_,hb⟩,h1.symm,h2.symm⟩))
   ·rename_i els hy
    split at h<;>first|(cases h; done)|skip
    rename_i hall
    split at h<;>first|(cases h; done)|skip
    rename_i l1 l2 hb
    obtain⟨h1,h2⟩:=same_pair h
    exact ok_slSl hr hu hk hxv hlo hhi (.inr (.inr (.inl ⟨_,_,_,hy,hall,hb,h1.symm,h2.symm⟩)))
   ·rename_i b off len hy
    split at h<;>first|(cases h; done)|skip
    rename_i k' els hg
    split at h<;>first|(cases h; done)|skip
    rename_i hcond
    obtain⟨hk',hol⟩:=hcond
    subst hk'
    split at h<;>first|(cases h; done)|skip
    rename_i l hq hb
    obtain⟨h1,h2⟩:=same_pair h
    exact ok_slSl hr hu hk hxv hlo hhi (.inr (.inr (.inr ⟨_,_,_,_,_,_,hy,hg,hol,hb,h1.symm,h2.symm⟩)))
  obtain⟨h1,h2⟩:=key
  subst h1
  exact Done.ofV hr h2
 | some zx=>
  simp only[cOpt]at hmx
  cases hz:cOpd zx with
  | none=>simp[hz]at hmx
  | some z=>
   simp only[hz,Option.some.injEq]at hmx
   subst hmx
   simp only[stepA]at h
   split at h<;>first|(cases h; done)|skip
   rename_i n mx l' h' hn hmx hl'
   split at h<;>first|(cases h; done)|skip
   rename_i h'' hh''
   split at h<;>first|(cases h; done)|skip
   rename_i hcond
   obtain⟨c1,c2,c3⟩:=hcond
   obtain⟨p,c,hv,hnc⟩:=slice_len hxv hn
   have e1:∀ code,(Instr.sliceBound (a.eval zx) c code).run P w=.ok mx w:=fun code=>ok_sliceBound (ev_R ht hz) (by simpa[optNat]using hmx) (by omega)
   cases hi with
   | none=>simp[cOpt]at hh
   | some hx2=>
    simp only[cOpt]at hh
    cases hz2:cOpd hx2 with
    | none=>simp[hz2]at hh
    | some z2=>
     simp only[hz2,Option.some.injEq]at hh
     subst hh
     have e2:∀ code,(Instr.sliceBound (a.eval hx2) mx code).run P w=.ok h'' w:=fun code=>ok_sliceBound (ev_R ht hz2) hh'' c2
     have e3:(Instr.sliceBounds true n c (lo.map a.eval) (some (a.eval hx2)) (some (a.eval zx))).run P w=.ok (l',h'',mx) w:=by
      unfold Instr.sliceBounds
      simp only[Sem.run_bind,e1,e2,Result.andThen_ok]
      cases lo with
      | none=>
       simp only[cOpt,Option.some.injEq]at hl
       subst hl
       simp only[optNat,Option.some.injEq]at hl'
       subst hl'
       rfl
      | some lx=>
       simp only[cOpt]at hl
       cases hz3:cOpd lx with
       | none=>simp[hz3]at hl
       | some z3=>
        simp only[hz3,Option.some.injEq]at hl
        subst hl
        have e4:∀ code,(Instr.sliceBound (a.eval lx) h'' code).run P w=.ok l' w:=fun code=>ok_sliceBound (ev_R ht hz3) (by simpa[optNat]using hl') c1
        simp only[Option.map_some,Sem.run_bind,e4,Result.andThen_ok,Sem.run_pure]
     have e5:=slice_run (a:=p) hu hk e3
     rw[← hv]at e5
     split at h
     ·rename_i h0
      obtain⟨h1,h2⟩:=same_pair h
      subst h1; subst h2
      refine Done.val (run_v e5) hr ?_
      have:h'' - l'=0:=by omega
      have h3:mx - l'=0:=by omega
      rw[this,h3]
      exact .emp _
     ·obtain⟨h1,h2⟩:=same_pair h
      subst h1; subst h2
      exact Done.val (run_v e5) hr (.bot _)
theorem step_ok (ht:RL Φ ρ t a.tmps) (hr:Rel W Φ ρ m w) (hn:ρ id=none) (hlt:id<m.next) (o:Oper) (op:AOp)
 (hc:cOp P o=some op) (h:stepA id t m op=some (x,m')):Done P (execOp a.eval o) W Φ ρ id w x m':=by
 have mk:∀ {y:AOpd} {z:Operand},cOpd z=some y→R Φ ρ (ev t y) (a.eval z):=fun hz=>ev_R ht hz
 unfold cOp at hc
 unfold execOp
 split at hc
 ·rename_i z ho
  rw[ho]
  simp only[Option.map_eq_some_iff]at hc
  obtain⟨y,hy,rfl⟩:=hc
  simp only[stepA]at h
  obtain⟨h1,h2⟩:=same_pair h
  subst h1; subst h2
  exact Done.val (by simp) hr (mk hy)
 ·rename_i z ho
  rw[ho]
  simp only[Option.map_eq_some_iff]at hc
  obtain⟨y,hy,rfl⟩:=hc
  simp only[stepA]at h
  obtain⟨h1,h2⟩:=same_pair h
  subst h1; subst h2
  exact Done.val (by simp) hr (mk hy)
 ·rename_i c1 a1 b1 ho
  rw[ho]
  split at hc<;>first|(cases hc; done)|skip
  rename_i c' a' b' h1 h2 h3
  injection hc with hc; subst hc
  simp only[stepA]at h
  split at h<;>first|(cases h; done)|skip
  ·rename_i hb
   obtain⟨e1,e2⟩:=same_pair h
   subst e1; subst e2
   have:=bool_of (mk h1) hb
   exact Done.val (v:=a.eval a1) (by simp[this,asBool]) hr (mk h2)
  ·rename_i hb
   obtain⟨e1,e2⟩:=same_pair h
   subst e1; subst e2
   have:=bool_of (mk h1) hb
   exact Done.val (v:=a.eval b1) (by simp[this,asBool]) hr (mk h3)
 ·rename_i ty ho
  rw[ho]
  simp only[Option.map_eq_some_iff]at hc
  obtain⟨zs,hz,rfl⟩:=hc
  simp only[stepA]at h
  obtain⟨h1,h2⟩:=same_pair h
  subst h1; subst h2
  exact ok_alloc hr hn hlt hz
 ·rename_i ty z ho
  rw[ho]
  simp only[Option.map_eq_some_iff]at hc
  obtain⟨y,hy,rfl⟩:=hc
  simp only[stepA]at h
  split at h<;>first|(cases h; done)|skip
  rename_i cs hcs
  split at h<;>first|(cases h; done)|skip
  rename_i hall
  obtain⟨h1,h2⟩:=same_pair h
  subst h1; subst h2
  exact ok_box hr hn hlt (mk hy) hcs hall
 ·rename_i ty ps ho
  rw[ho]
  split at hc<;>first|(cases hc; done)|skip
  ·rename_i fs z hu hz
   split at hc<;>first|(cases hc; done)|skip
   rename_i hall
   split at hc<;>first|(cases hc; done)|skip
   rename_i qs hq
   injection hc with hc; subst hc
   simp only[stepA]at h
   split at h<;>first|(cases h; done)|skip
   rename_i cs hcs
   obtain⟨h1,h2⟩:=same_pair h
   subst h1; subst h2
   exact Done.ofV hr (ok_build_struct ht hu hz hq hcs fun f hf=>Option.isSome_iff_exists.1 (List.all_eq_true.1 hall f hf))
  ·rename_i n e z hu hz
   split at hc<;>first|(cases hc; done)|skip
   rename_i k hk
   split at hc<;>first|(cases hc; done)|skip
   rename_i qs hq
   injection hc with hc; subst hc
   simp only[stepA]at h
   split at h<;>first|(cases h; done)|skip
   rename_i cs hcs
   obtain⟨h1,h2⟩:=same_pair h
   subst h1; subst h2
   exact Done.ofV hr (ok_build_array ht hu hk hz hq hcs)
 ·rename_i ty len ps ho
  rw[ho]
  split at hc<;>first|(cases hc; done)|skip
  rename_i k b z qs he hq
  split at hc<;>first|(cases hc; done)|skip
  rename_i hle
  injection hc with hc; subst hc
  simp only[stepA]at h
  split at h<;>first|(cases h; done)|skip
  rename_i els hels
  obtain⟨h1,h2⟩:=same_pair h
  subst h1; subst h2
  exact ok_mkSl hr ht hn hlt he hq hle hels fun u w' hw=>run_v hw
 ·rename_i ty z ho
  rw[ho]
  split at hc<;>first|(cases hc; done)|skip
  rename_i n y hl hy
  injection hc with hc; subst hc
  simp only[stepA]at h
  split at h<;>first|(cases h; done)|skip
  rename_i v hv
  obtain⟨h1,h2⟩:=same_pair h
  subst h1; subst h2
  exact Done.ofV hr (ok_load hr (mk hy) hl hv)
 ·rename_i ty z z2 ho
  rw[ho]
  split at hc<;>first|(cases hc; done)|skip
  rename_i n a' x' hs ha hx
  injection hc with hc; subst hc
  simp only[stepA]at h
  split at h<;>first|(cases h; done)|skip
  rename_i m2 hst
  obtain⟨h1,h2⟩:=same_pair h
  subst h1; subst h2
  refine ok_store hr (mk ha) (mk hx) hs hst ?_
  simp only[Sem.run_bind,Sem.run_pure]
  cases Sem.run P (Instr.storeAt ty (a.eval z) (a.eval z2)) w<;>rfl
 ·rename_i z ho
  rw[ho]
  simp only[Option.map_eq_some_iff]at hc
  obtain⟨y,hy,rfl⟩:=hc
  simp only[stepA]at h
  refine done_nilChk hr h (mk hy) ⟨fun p hp=>?_,fun f p q hp=>?_⟩
  ·simp only[hp]; rfl
  ·simp only[hp]; rfl
 ·rename_i op2 ty z z2 ty2 ho
  rw[ho]
  split at hc<;>first|(cases hc; done)|skip
  rename_i x' y' e hx hy he
  injection hc with hc; subst hc
  simp only[stepA]at h
  split at h<;>first|(cases h; done)|skip
  rename_i v hv
  obtain⟨h1,h2⟩:=same_pair h
  subst h1; subst h2
  exact Done.ofV hr (bin_done he hv (mk hx) (mk hy))
 ·rename_i op2 ty z ho
  rw[ho]
  simp only[Option.map_eq_some_iff]at hc
  obtain⟨y,hy,rfl⟩:=hc
  simp only[stepA]at h
  split at h<;>first|(cases h; done)|skip
  rename_i v hv
  obtain⟨h1,h2⟩:=same_pair h
  subst h1; subst h2
  exact Done.ofV hr (unA_run hv (mk hy))
 ·rename_i s d z ho
  rw[ho]
  split at hc<;>first|(cases hc; done)|skip
  ·rename_i k0 k y hs hd hy
   injection hc with hc; subst hc
   simp only[stepA]at h
   split at h<;>first|(cases h; done)|skip
   rename_i k1 n hv
   obtain⟨h1,h2⟩:=same_pair h
   subst h1; subst h2
   have hyv:=mk hy
   rw[hv]at hyv
   refine Done.val (run_v ?_) hr (.int k _)
   rw[int_R hyv]
   simp only[convert,Sem.run_bind,r_und hs,r_und hd,Result.andThen_ok]
   rfl
  ·rename_i y hs hd hy
   injection hc with hc; subst hc
   simp only[stepA]at h
   split at h<;>first|(cases h; done)|skip
   rename_i l hv
   obtain⟨h1,h2⟩:=same_pair h
   subst h1; subst h2
   have hyv:=mk hy
   rw[hv]at hyv
   refine Done.val (run_v ?_) hr (.str _)
   rw[str_R hyv]
   simp only[convert,Sem.run_bind,r_und hs,r_und hd,Result.andThen_ok]
   rfl
  ·rename_i e y hs hd hy
   split at hc<;>first|(cases hc; done)|skip
   rename_i he
   injection hc with hc; subst hc
   simp only[stepA]at h
   split at h<;>first|(cases h; done)|skip
   rename_i rows hrows
   split at h<;>first|(cases h; done)|skip
   rename_i l hl
   obtain⟨h1,h2⟩:=same_pair h
   subst h1; subst h2
   refine Done.val (run_v ?_) hr (.str _)
   have hb:=ok_toStr (P:=P) hr (mk hy) hrows hl
   have hv:∃ p n c,a.eval z=.slice p n c:=by
    have hyv:=mk hy
    generalize ev t y=yy at hyv hrows
    generalize a.eval z=vv at hyv
    cases hyv<;>simp only[rowsOf]at hrows<;>first|(cases hrows; done)|exact⟨_,_,_,rfl⟩
   obtain⟨p,n,c,hv⟩:=hv
   rw[hv]at hb ⊢
   simp only[convert,Sem.run_bind,r_und hs,r_und hd,r_und he,Result.andThen_ok]
   exact hb
 ·rename_i fn f1 c1 ho
  rw[ho]
  split at hc<;>first|(cases hc; done)|skip
  rename_i f' c' hf hcc
  injection hc with hc; subst hc
  simp only[stepA]at h
  obtain⟨h1,h2⟩:=same_pair h
  subst h1; subst h2
  have g1:=RL_map ht hf
  have g2:=RL_map ht hcc
  exact Done.val (run_v (by simp[Instr.makeFunc])) hr (.func fn _ _ _ _ g1.1 g2.1 g1.2 g2.2)
 ·rename_i ty ho
  rw[ho]
  injection hc with hc; subst hc
  simp only[stepA]at h
  obtain⟨h1,h2⟩:=same_pair h
  subst h1; subst h2
  exact ok_mkMap hr hn hlt
 ·rename_i ty z z2 ho
  rw[ho]
  split at hc<;>first|(cases hc; done)|skip
  rename_i k b zz l' c' he hl hcc
  injection hc with hc; subst hc
  simp only[stepA]at h
  split at h<;>first|(cases h; done)|skip
  rename_i l c hl' hc'
  split at h<;>first|(cases h; done)|skip
  rename_i hcond
  obtain⟨d1,d2,d3⟩:=hcond
  obtain⟨h1,h2⟩:=same_pair h
  subst h1; subst h2
  obtain⟨kl,hkl⟩:=asNat_R (mk hl) hl'
  obtain⟨kc,hkc⟩:=asNat_R (mk hcc) hc'
  exact ok_makeSl hr hn hlt he hkl hkc d1 d2 d3 fun u w' hw=>run_v hw
 ·rename_i ty z lo hi mx ho
  rw[ho]
  split at hc<;>first|(cases hc; done)|skip
  ·rename_i x' l h0 hu hx hl hh hm
   injection hc with hc; subst hc
   have hmx:mx=none:=by
    cases mx with
    | none=>rfl
    | some q=>simp only[cOpt]at hm; split at hm<;>simp at hm
   subst hmx
   simp only[stepA]at h
   split at h<;>first|(cases h; done)|skip
   rename_i s hs
   split at h<;>first|(cases h; done)|skip
   rename_i l1 h1 hb
   obtain⟨e1,e2⟩:=same_pair h
   subst e1; subst e2
   have hxv:=mk hx
   rw[hs]at hxv
   exact Done.ofV hr (ok_slStr hu hxv (cOpt_R ht hl) (cOpt_R ht hh) hb)
  ·rename_i e x' l h0 mm hu hx hl hh hm
   split at hc<;>first|(cases hc; done)|skip
   rename_i k hk
   injection hc with hc; subst hc
   exact slSl_of ht hr hu hk hx hl hh hm h
  ·split at hc<;>first|(cases hc; done)|skip
   injection hc with hc; subst hc
   simp[stepA]at h
 ·rename_i ty z i ho
  rw[ho]
  split at hc<;>first|(cases hc; done)|skip
  rename_i fs y hu hy
  split at hc<;>first|(cases hc; done)|skip
  rename_i f hf
  split at hc<;>first|(cases hc; done)|skip
  rename_i n hs
  split at hc<;>first|(cases hc; done)|skip
  rename_i h0
  injection hc with hc; subst hc
  simp only[stepA]at h
  split at h<;>first|(cases h; done)|skip
  rename_i v hv
  obtain⟨h1,h2⟩:=same_pair h
  subst h1; subst h2
  exact Done.ofV hr (ok_fieldA hu hf hs h0 (mk hy) hv)
 ·rename_i ty z i ho
  rw[ho]
  split at hc<;>first|(cases hc; done)|skip
  rename_i fs y hu hy
  split at hc<;>first|(cases hc; done)|skip
  rename_i f hf
  split at hc<;>first|(cases hc; done)|skip
  rename_i n hs
  injection hc with hc; subst hc
  simp only[stepA]at h
  split at h<;>first|(cases h; done)|skip
  rename_i cs hcs
  split at h<;>first|(cases h; done)|skip
  rename_i v hv
  obtain⟨h1,h2⟩:=same_pair h
  subst h1; subst h2
  have hyv:=mk hy
  rw[hcs]at hyv
  exact Done.ofV hr (ok_field hu hf hs hyv hv)
 ·rename_i ty z zi ho
  rw[ho]
  split at hc<;>first|(cases hc; done)|skip
  ·rename_i e x' i' hu hx hi
   split at hc<;>first|(cases hc; done)|skip
   rename_i k hk
   injection hc with hc; subst hc
   simp only[stepA]at h
   split at h<;>first|(cases h; done)|skip
   ·rename_i b off len i hs hii
    obtain⟨ki,hki⟩:=asNat_R (mk hi) hii
    split at h<;>first|(cases h; done)|skip
    rename_i k' els hg
    split at h<;>first|(cases h; done)|skip
    rename_i hcond
    obtain⟨d1,d2⟩:=hcond
    subst d1
    obtain⟨h1,h2⟩:=same_pair h
    subst h1; subst h2
    exact Done.ofV hr (ok_idxA hr hu hk (mk hx) hki (.inl ⟨_,_,_,_,hs,hg,d2,rfl⟩))
   ·rename_i els i hs hii
    obtain⟨ki,hki⟩:=asNat_R (mk hi) hii
    split at h<;>first|(cases h; done)|skip
    rename_i row hrow
    split at h<;>first|(cases h; done)|skip
    rename_i hlen
    obtain⟨h1,h2⟩:=same_pair h
    subst h1; subst h2
    exact Done.ofV hr (ok_idxA hr hu hk (mk hx) hki (.inr ⟨_,_,hs,hrow,hlen,rfl⟩))
  ·rename_i n e x' i' hu hx hi
   split at hc<;>first|(cases hc; done)|skip
   rename_i k hk
   injection hc with hc; subst hc
   simp only[stepA]at h
   split at h<;>first|(cases h; done)|skip
   rename_i i hii
   obtain⟨ki,hki⟩:=asNat_R (mk hi) hii
   split at h<;>first|(cases h; done)|skip
   rename_i hlt2
   split at h<;>first|(cases h; done)|skip
   rename_i v hv
   obtain⟨h1,h2⟩:=same_pair h
   subst h1; subst h2
   exact Done.ofV hr (ok_idxAA hu hk (mk hx) hki hlt2 hv)
 ·rename_i ty z zi ho
  rw[ho]
  split at hc<;>first|(cases hc; done)|skip
  ·rename_i x' i' hu hx hi
   injection hc with hc; subst hc
   simp only[stepA]at h
   split at h<;>first|(cases h; done)|skip
   rename_i s i hs hii
   obtain⟨ki,hki⟩:=asNat_R (mk hi) hii
   split at h<;>first|(cases h; done)|skip
   rename_i c hcc
   obtain⟨h1,h2⟩:=same_pair h
   subst h1; subst h2
   have hxv:=mk hx
   rw[hs]at hxv
   exact Done.val (run_v (ok_idxStr hu hxv hki hcc)) hr (.int _ _)
  ·rename_i n e x' i' hu hx hi
   split at hc<;>first|(cases hc; done)|skip
   rename_i k sz hk hsz
   injection hc with hc; subst hc
   simp only[stepA]at h
   split at h<;>first|(cases h; done)|skip
   rename_i cs i hcs hii
   obtain⟨ki,hki⟩:=asNat_R (mk hi) hii
   split at h<;>first|(cases h; done)|skip
   rename_i hlt2
   split at h<;>first|(cases h; done)|skip
   rename_i v hv
   obtain⟨h1,h2⟩:=same_pair h
   subst h1; subst h2
   have hxv:=mk hx
   rw[hcs]at hxv
   exact Done.ofV hr (ok_idxArr hu hk hsz hxv hki hlt2 hv)
 ·rename_i ty z zi ok ho
  rw[ho]
  split at hc<;>first|(cases hc; done)|skip
  rename_i kt e x' i' hu hx hi
  split at hc<;>first|(cases hc; done)|skip
  rename_i q zz hq hz
  injection hc with hc; subst hc
  simp only[stepA]at h
  split at h<;>first|(cases h; done)|skip
  rename_i es hes
  split at h<;>first|(cases h; done)|skip
  rename_i r hf
  obtain⟨h1,h2⟩:=same_pair h
  subst h1; subst h2
  have hmm:(ev t x'=.nilMap∧es=[])∨(∃ b c,ev t x'=.map b∧m.get b=some (.map es c)):=by
   split at hes<;>first|(cases hes; done)|skip
   ·rename_i hy
    injection hes with hes
    exact .inl ⟨hy,hes.symm⟩
   ·rename_i b hy
    split at hes<;>first|(cases hes; done)|skip
    rename_i es' clock hg
    injection hes with hes
    subst hes
    exact .inr ⟨b,clock,hy,hg⟩
  ·obtain⟨u,g1,g2⟩:=ok_lookup (w:=w) (ok:=ok) hr hu hq hz (mk hx) (mk hi) hmm hf
   refine Done.ofV hr ⟨u,g1,?_⟩
   cases r with
   | none=>exact g2
   | some r=>obtain ⟨i,v,b⟩:=r; exact g2
 ·rename_i ty om ok ov ho
  rw[ho]
  exact mapUpd_of ht hr ty om ok ov op hc h
 ·rename_i ty om ok ov ho
  rw[ho]
  exact mapUpd_of ht hr ty om ok ov op hc h
 ·rename_i z i ho
  rw[ho]
  split at hc<;>first|(cases hc; done)|skip
  rename_i y hy
  injection hc with hc; subst hc
  simp only[stepA]at h
  split at h<;>first|(cases h; done)|skip
  rename_i vs hvs
  split at h<;>first|(cases h; done)|skip
  rename_i v hv
  obtain⟨h1,h2⟩:=same_pair h
  subst h1; subst h2
  have hyv:=mk hy
  rw[hvs]at hyv
  exact Done.ofV hr (ok_ext hyv hv)
 ·rename_i c ho
  have:=call_done ht hr hn hlt o c ho op hc h
  unfold execOp at this
  exact this
 ·split at hc<;>first|(cases hc; done)|skip
  simp only[Option.map_eq_some_iff]at hc
  obtain⟨y,_,rfl⟩:=hc
  simp only[stepA]at h
  cases h
 ·simp only[Option.map_eq_some_iff]at hc
  obtain⟨y,_,rfl⟩:=hc
  simp only[stepA]at h
  cases h
 ·simp only[Option.map_eq_some_iff]at hc
  obtain⟨y,_,rfl⟩:=hc
  simp only[stepA]at h
  cases h
 ·cases hc
end
end Go.AE
