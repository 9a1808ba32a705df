/- Part 9 of the proof: AeS, AeT, AeU, AeFr. -/
import Derived.Test.YtfmnflhggplkmaaGreatDoorO7
import Derived.Test.YtfmnflhggplkmaaGreatDoorO8
set_option linter.all false
section
namespace Go.AE
open Go.RowKit
section
variable {P:Program} {W:Base} {Φ:Pers} {ρ:Rho} {id:Nat} {w:World} {m m':Mem} {x:AVal} {a:Act} {t:List AVal}
theorem bool_of {y:AVal} {v:Value} {b:Bool} (hy:R Φ ρ y v) (h:y=.bool b):v=.bool b:=by subst h; exact bool_R hy
theorem mapUpd_of (ht:RL Φ ρ t a.tmps) (hr:Rel W Φ ρ m w) (ty:TypeId) (om ok ov:Operand) (op:AOp)
 (hc:(match P.underlying ty,cOpd om,cOpd ok,cOpd ov with
 | some (.map kt _),some m',some k',some v'=>match cKey P kt with
  | some q=>some (AOp.mapUpd q m' k' v')
  | none=>none
 | _,_,_,_=>none)=some op) (h:stepA id t m op=some (x,m')) :
 Done P (do Instr.mapUpdate ty (a.eval om) (a.eval ok) (a.eval ov); pure Next.skip) W Φ ρ id w x m':=by
 split at hc<;>first|(cases hc; done)|skip
 rename_i kt e m1 k1 v1 hu hm hk hv
 split at hc<;>first|(cases hc; done)|skip
 rename_i q hq
 injection hc with hc
 subst hc
 simp only[stepA]at h
 split at h<;>first|(cases h; done)|skip
 rename_i b hb
 split at h<;>first|(cases h; done)|skip
 rename_i es clock hg
 have hmv:=ev_R ht hm
 rw[hb]at hmv
 split at h<;>first|(cases h; done)|skip
 ·rename_i i z born hf
  obtain⟨h1,h2⟩:=same_pair h
  subst h1; subst h2
  exact mapUpd_done hr hu hq hmv (ev_R ht hk) (ev_R ht hv) hg (.inl ⟨_,_,_,hf,rfl,rfl⟩) fun w' hw=>run_u hw
 ·rename_i hf
  obtain⟨h1,h2⟩:=same_pair h
  subst h1; subst h2
  exact mapUpd_done hr hu hq hmv (ev_R ht hk) (ev_R ht hv) hg (.inr ⟨hf,rfl,rfl⟩) fun w' hw=>run_u hw
theorem slSl_of (ht:RL Φ ρ t a.tmps) (hr:Rel W Φ ρ m w) {ty e:TypeId} {k:Nat} {ox:Operand} {lo hi mx:Option Operand} {x':AOpd} {l h0 mx':Option AOpd} (hu:P.underlying ty=some (.slice e)) (hk:cSize P e=some k)
 (hx:cOpd ox=some x') (hl:cOpt lo=some l) (hh:cOpt hi=some h0) (hmx:cOpt mx=some mx') (h:stepA id t m (.slSl k x' l h0 mx')=some (x,m')) :
 Done P (do pure (Next.value (← Instr.sliceAt ty (a.eval ox) (lo.map a.eval) (hi.map a.eval) (mx.map a.eval)))) W Φ ρ id w x m':=by
 have hlo:=cOpt_R ht hl
 have hhi:=cOpt_R ht hh
 have hxv:=ev_R ht hx
 cases mx with
 | none=>
  simp only[cOpt,Option.some.injEq]at hmx
  subst hmx
  simp only[stepA]at h
  have key:m'=m ∧ ∃ u,(Instr.sliceAt ty (a.eval ox) (lo.map a.eval) (hi.map a.eval) none).run P w=.ok u w∧R Φ ρ x u:=by
   split at h<;>first|(cases h; done)|skip
   ·rename_i hy
    split at h<;>first|(cases h; done)|skip
    rename_i lh hb
    obtain⟨h1,h2⟩:=same_pair h
    exact ok_slSl hr hu hk hxv hlo hhi (.inl ⟨hy,⟨_,hb⟩,h1.symm,h2.symm⟩)
   ·rename_i hy
    split at h<;>first|(cases h; done)|skip
    rename_i lh hb
    obtain⟨h1,h2⟩:=same_pair h
    exact ok_slSl hr hu hk hxv hlo hhi (.inr (.inl ⟨hy,⟨_,hb⟩,h1.symm,h2.symm⟩))
   ·rename_i els hy
    split at h<;>first|(cases h; done)|skip
    rename_i hall
    split at h<;>first|(cases h; done)|skip
    rename_i l1 l2 hb
    obtain⟨h1,h2⟩:=same_pair h
    exact ok_slSl hr hu hk hxv hlo hhi (.inr (.inr (.inl ⟨_,_,_,hy,hall,hb,h1.symm,h2.symm⟩)))
   ·rename_i b off len hy
    split at h<;>first|(cases h; done)|skip
    rename_i k' els hg
    split at h<;>first|(cases h; done)|skip
    rename_i hcond
    obtain⟨hk',hol⟩:=hcond
    subst hk'
    split at h<;>first|(cases h; done)|skip
    rename_i l hq hb
    obtain⟨h1,h2⟩:=same_pair h
    exact ok_slSl hr hu hk hxv hlo hhi (.inr (.inr (.inr ⟨_,_,_,_,_,_,hy,hg,hol,hb,h1.symm,h2.symm⟩)))
  obtain⟨h1,h2⟩:=key
  subst h1
  exact Done.ofV hr h2
 | some zx=>
  simp only[cOpt]at hmx
  cases hz:cOpd zx with
  | none=>simp[hz]at hmx
  | some z=>
   simp only[hz,Option.some.injEq]at hmx
   subst hmx
   simp only[stepA]at h
   split at h<;>first|(cases h; done)|skip
   rename_i n mx l' h' hn hmx hl'
   split at h<;>first|(cases h; done)|skip
   rename_i h'' hh''
   split at h<;>first|(cases h; done)|skip
   rename_i hcond
   obtain⟨c1,c2,c3⟩:=hcond
   obtain⟨p,c,hv,hnc⟩:=slice_len hxv hn
   have e1:∀ code,(Instr.sliceBound (a.eval zx) c code).run P w=.ok mx w:=fun code=>ok_sliceBound (ev_R ht hz) (by simpa[optNat]using hmx) (by omega)
   cases hi with
   | none=>simp[cOpt]at hh
   | some hx2=>
    simp only[cOpt]at hh
    cases hz2:cOpd hx2 with
    | none=>simp[hz2]at hh
    | some z2=>
     simp only[hz2,Option.some.injEq]at hh
     subst hh
     have e2:∀ code,(Instr.sliceBound (a.eval hx2) mx code).run P w=.ok h'' w:=fun code=>ok_sliceBound (ev_R ht hz2) hh'' c2
     have e3:(Instr.sliceBounds true n c (lo.map a.eval) (some (a.eval hx2)) (some (a.eval zx))).run P w=.ok (l',h'',mx) w:=by
      unfold Instr.sliceBounds
      simp only[Sem.run_bind,e1,e2,Result.andThen_ok]
      cases lo with
      | none=>
       simp only[cOpt,Option.some.injEq]at hl
       subst hl
       simp only[optNat,Option.some.injEq]at hl'
       subst hl'
       rfl
      | some lx=>
       simp only[cOpt]at hl
       cases hz3:cOpd lx with
       | none=>simp[hz3]at hl
       | some z3=>
        simp only[hz3,Option.some.injEq]at hl
        subst hl
        have e4:∀ code,(Instr.sliceBound (a.eval lx) h'' code).run P w=.ok l' w:=fun code=>ok_sliceBound (ev_R ht hz3) (by simpa[optNat]using hl') c1
        simp only[Option.map_some,Sem.run_bind,e4,Result.andThen_ok,Sem.run_pure]
     have e5:=slice_run (a:=p) hu hk e3
     rw[← hv]at e5
     split at h
     ·rename_i h0
      obtain⟨h1,h2⟩:=same_pair h
      subst h1; subst h2
      refine Done.val (run_v e5) hr ?_
      have:h'' - l'=0:=by omega
      have h3:mx - l'=0:=by omega
      rw[this,h3]
      exact .emp _
     ·obtain⟨h1,h2⟩:=same_pair h
      subst h1; subst h2
      exact Done.val (run_v e5) hr (.bot _)
theorem step_ok (ht:RL Φ ρ t a.tmps) (hr:Rel W Φ ρ m w) (hn:ρ id=none) (hlt:id<m.next) (o:Oper) (op:AOp)
 (hc:cOp P o=some op) (h:stepA id t m op=some (x,m')):Done P (execOp a.eval o) W Φ ρ id w x m':=by
 have mk:∀ {y:AOpd} {z:Operand},cOpd z=some y→R Φ ρ (ev t y) (a.eval z):=fun hz=>ev_R ht hz
 unfold cOp at hc
 unfold execOp
 split at hc
 ·rename_i z ho
  rw[ho]
  simp only[Option.map_eq_some_iff]at hc
  obtain⟨y,hy,rfl⟩:=hc
  simp only[stepA]at h
  obtain⟨h1,h2⟩:=same_pair h
  subst h1; subst h2
  exact Done.val (by simp) hr (mk hy)
 ·rename_i z ho
  rw[ho]
  simp only[Option.map_eq_some_iff]at hc
  obtain⟨y,hy,rfl⟩:=hc
  simp only[stepA]at h
  obtain⟨h1,h2⟩:=same_pair h
  subst h1; subst h2
  exact Done.val (by simp) hr (mk hy)
 ·rename_i c1 a1 b1 ho
  rw[ho]
  split at hc<;>first|(cases hc; done)|skip
  rename_i c' a' b' h1 h2 h3
  injection hc with hc; subst hc
  simp only[stepA]at h
  split at h<;>first|(cases h; done)|skip
  ·rename_i hb
   obtain⟨e1,e2⟩:=same_pair h
   subst e1; subst e2
   have:=bool_of (mk h1) hb
   exact Done.val (v:=a.eval a1) (by simp[this,asBool]) hr (mk h2)
  ·rename_i hb
   obtain⟨e1,e2⟩:=same_pair h
   subst e1; subst e2
   have:=bool_of (mk h1) hb
   exact Done.val (v:=a.eval b1) (by simp[this,asBool]) hr (mk h3)
 ·rename_i ty ho
  rw[ho]
  simp only[Option.map_eq_some_iff]at hc
  obtain⟨zs,hz,rfl⟩:=hc
  simp only[stepA]at h
  obtain⟨h1,h2⟩:=same_pair h
  subst h1; subst h2
  exact ok_alloc hr hn hlt hz
 ·rename_i ty z ho
  rw[ho]
  simp only[Option.map_eq_some_iff]at hc
  obtain⟨y,hy,rfl⟩:=hc
  simp only[stepA]at h
  split at h<;>first|(cases h; done)|skip
  rename_i cs hcs
  split at h<;>first|(cases h; done)|skip
  rename_i hall
  obtain⟨h1,h2⟩:=same_pair h
  subst h1; subst h2
  exact ok_box hr hn hlt (mk hy) hcs hall
 ·rename_i ty ps ho
  rw[ho]
  split at hc<;>first|(cases hc; done)|skip
  ·rename_i fs z hu hz
   split at hc<;>first|(cases hc; done)|skip
   rename_i hall
   split at hc<;>first|(cases hc; done)|skip
   rename_i qs hq
   injection hc with hc; subst hc
   simp only[stepA]at h
   split at h<;>first|(cases h; done)|skip
   rename_i cs hcs
   obtain⟨h1,h2⟩:=same_pair h
   subst h1; subst h2
   exact Done.ofV hr (ok_build_struct ht hu hz hq hcs fun f hf=>Option.isSome_iff_exists.1 (List.all_eq_true.1 hall f hf))
  ·rename_i n e z hu hz
   split at hc<;>first|(cases hc; done)|skip
   rename_i k hk
   split at hc<;>first|(cases hc; done)|skip
   rename_i qs hq
   injection hc with hc; subst hc
   simp only[stepA]at h
   split at h<;>first|(cases h; done)|skip
   rename_i cs hcs
   obtain⟨h1,h2⟩:=same_pair h
   subst h1; subst h2
   exact Done.ofV hr (ok_build_array ht hu hk hz hq hcs)
 ·rename_i ty len ps ho
  rw[ho]
  split at hc<;>first|(cases hc; done)|skip
  rename_i k b z qs he hq
  split at hc<;>first|(cases hc; done)|skip
  rename_i hle
  injection hc with hc; subst hc
  simp only[stepA]at h
  split at h<;>first|(cases h; done)|skip
  rename_i els hels
  obtain⟨h1,h2⟩:=same_pair h
  subst h1; subst h2
  exact ok_mkSl hr ht hn hlt he hq hle hels fun u w' hw=>run_v hw
 ·rename_i ty z ho
  rw[ho]
  split at hc<;>first|(cases hc; done)|skip
  rename_i n y hl hy
  injection hc with hc; subst hc
  simp only[stepA]at h
  split at h<;>first|(cases h; done)|skip
  rename_i v hv
  obtain⟨h1,h2⟩:=same_pair h
  subst h1; subst h2
  exact Done.ofV hr (ok_load hr (mk hy) hl hv)
 ·rename_i ty z z2 ho
  rw[ho]
  split at hc<;>first|(cases hc; done)|skip
  rename_i n a' x' hs ha hx
  injection hc with hc; subst hc
  simp only[stepA]at h
  split at h<;>first|(cases h; done)|skip
  rename_i m2 hst
  obtain⟨h1,h2⟩:=same_pair h
  subst h1; subst h2
  refine ok_store hr (mk ha) (mk hx) hs hst ?_
  simp only[Sem.run_bind,Sem.run_pure]
  cases Sem.run P (Instr.storeAt ty (a.eval z) (a.eval z2)) w<;>rfl
 ·rename_i z ho
  rw[ho]
  simp only[Option.map_eq_some_iff]at hc
  obtain⟨y,hy,rfl⟩:=hc
  simp only[stepA]at h
  refine done_nilChk hr h (mk hy) ⟨fun p hp=>?_,fun f p q hp=>?_⟩
  ·simp only[hp]; rfl
  ·simp only[hp]; rfl
 ·rename_i op2 ty z z2 ty2 ho
  rw[ho]
  split at hc<;>first|(cases hc; done)|skip
  rename_i x' y' e hx hy he
  injection hc with hc; subst hc
  simp only[stepA]at h
  split at h<;>first|(cases h; done)|skip
  rename_i v hv
  obtain⟨h1,h2⟩:=same_pair h
  subst h1; subst h2
  exact Done.ofV hr (bin_done he hv (mk hx) (mk hy))
 ·rename_i op2 ty z ho
  rw[ho]
  simp only[Option.map_eq_some_iff]at hc
  obtain⟨y,hy,rfl⟩:=hc
  simp only[stepA]at h
  split at h<;>first|(cases h; done)|skip
  rename_i v hv
  obtain⟨h1,h2⟩:=same_pair h
  subst h1; subst h2
  exact Done.ofV hr (unA_run hv (mk hy))
 ·rename_i s d z ho
  rw[ho]
  split at hc<;>first|(cases hc; done)|skip
  ·rename_i k0 k y hs hd hy
   injection hc with hc; subst hc
   simp only[stepA]at h
   split at h<;>first|(cases h; done)|skip
   rename_i k1 n hv
   obtain⟨h1,h2⟩:=same_pair h
   subst h1; subst h2
   have hyv:=mk hy
   rw[hv]at hyv
   refine Done.val (run_v ?_) hr (.int k _)
   rw[int_R hyv]
   simp only[convert,Sem.run_bind,r_und hs,r_und hd,Result.andThen_ok]
   rfl
  ·rename_i y hs hd hy
   injection hc with hc; subst hc
   simp only[stepA]at h
   split at h<;>first|(cases h; done)|skip
   rename_i l hv
   obtain⟨h1,h2⟩:=same_pair h
   subst h1; subst h2
   have hyv:=mk hy
   rw[hv]at hyv
   refine Done.val (run_v ?_) hr (.str _)
   rw[str_R hyv]
   simp only[convert,Sem.run_bind,r_und hs,r_und hd,Result.andThen_ok]
   rfl
  ·rename_i e y hs hd hy
   split at hc<;>first|(cases hc; done)|skip
   rename_i he
   injection hc with hc; subst hc
   simp only[stepA]at h
   split at h<;>first|(cases h; done)|skip
   rename_i rows hrows
   split at h<;>first|(cases h; done)|skip
   rename_i l hl
   obtain⟨h1,h2⟩:=same_pair h
   subst h1; subst h2
   refine Done.val (run_v ?_) hr (.str _)
   have hb:=ok_toStr (P:=P) hr (mk hy) hrows hl
   have hv:∃ p n c,a.eval z=.slice p n c:=by
    have hyv:=mk hy
    generalize ev t y=yy at hyv hrows
    generalize a.eval z=vv at hyv
    cases hyv<;>simp only[rowsOf]at hrows<;>first|(cases hrows; done)|exact⟨_,_,_,rfl⟩
   obtain⟨p,n,c,hv⟩:=hv
   rw[hv]at hb ⊢
   simp only[convert,Sem.run_bind,r_und hs,r_und hd,r_und he,Result.andThen_ok]
   exact hb
 ·rename_i fn f1 c1 ho
  rw[ho]
  split at hc<;>first|(cases hc; done)|skip
  rename_i f' c' hf hcc
  injection hc with hc; subst hc
  simp only[stepA]at h
  obtain⟨h1,h2⟩:=same_pair h
  subst h1; subst h2
  have g1:=RL_map ht hf
  have g2:=RL_map ht hcc
  exact Done.val (run_v (by simp[Instr.makeFunc])) hr (.func fn _ _ _ _ g1.1 g2.1 g1.2 g2.2)
 ·rename_i ty ho
  rw[ho]
  injection hc with hc; subst hc
  simp only[stepA]at h
  obtain⟨h1,h2⟩:=same_pair h
  subst h1; subst h2
  exact ok_mkMap hr hn hlt
 ·rename_i ty z z2 ho
  rw[ho]
  split at hc<;>first|(cases hc; done)|skip
  rename_i k b zz l' c' he hl hcc
  injection hc with hc; subst hc
  simp only[stepA]at h
  split at h<;>first|(cases h; done)|skip
  rename_i l c hl' hc'
  split at h<;>first|(cases h; done)|skip
  rename_i hcond
  obtain⟨d1,d2,d3⟩:=hcond
  obtain⟨h1,h2⟩:=same_pair h
  subst h1; subst h2
  obtain⟨kl,hkl⟩:=asNat_R (mk hl) hl'
  obtain⟨kc,hkc⟩:=asNat_R (mk hcc) hc'
  exact ok_makeSl hr hn hlt he hkl hkc d1 d2 d3 fun u w' hw=>run_v hw
 ·rename_i ty z lo hi mx ho
  rw[ho]
  split at hc<;>first|(cases hc; done)|skip
  ·rename_i x' l h0 hu hx hl hh hm
   injection hc with hc; subst hc
   have hmx:mx=none:=by
    cases mx with
    | none=>rfl
    | some q=>simp only[cOpt]at hm; split at hm<;>simp at hm
   subst hmx
   simp only[stepA]at h
   split at h<;>first|(cases h; done)|skip
   rename_i s hs
   split at h<;>first|(cases h; done)|skip
   rename_i l1 h1 hb
   obtain⟨e1,e2⟩:=same_pair h
   subst e1; subst e2
   have hxv:=mk hx
   rw[hs]at hxv
   exact Done.ofV hr (ok_slStr hu hxv (cOpt_R ht hl) (cOpt_R ht hh) hb)
  ·rename_i e x' l h0 mm hu hx hl hh hm
   split at hc<;>first|(cases hc; done)|skip
   rename_i k hk
   injection hc with hc; subst hc
   exact slSl_of ht hr hu hk hx hl hh hm h
  ·split at hc<;>first|(cases hc; done)|skip
   injection hc with hc; subst hc
   simp[stepA]at h
 ·rename_i ty z i ho
  rw[ho]
  split at hc<;>first|(cases hc; done)|skip
  rename_i fs y hu hy
  split at hc<;>first|(cases hc; done)|skip
  rename_i f hf
  split at hc<;>first|(cases hc; done)|skip
  rename_i n hs
  split at hc<;>first|(cases hc; done)|skip
  rename_i h0
  injection hc with hc; subst hc
  simp only[stepA]at h
  split at h<;>first|(cases h; done)|skip
  rename_i v hv
  obtain⟨h1,h2⟩:=same_pair h
  subst h1; subst h2
  exact Done.ofV hr (ok_fieldA hu hf hs h0 (mk hy) hv)
 ·rename_i ty z i ho
  rw[ho]
  split at hc<;>first|(cases hc; done)|skip
  rename_i fs y hu hy
  split at hc<;>first|(cases hc; done)|skip
  rename_i f hf
  split at hc<;>first|(cases hc; done)|skip
  rename_i n hs
  injection hc with hc; subst hc
  simp only[stepA]at h
  split at h<;>first|(cases h; done)|skip
  rename_i cs hcs
  split at h<;>first|(cases h; done)|skip
  rename_i v hv
  obtain⟨h1,h2⟩:=same_pair h
  subst h1; subst h2
  have hyv:=mk hy
  rw[hcs]at hyv
  exact Done.ofV hr (ok_field hu hf hs hyv hv)
 ·rename_i ty z zi ho
  rw[ho]
  split at hc<;>first|(cases hc; done)|skip
  ·rename_i e x' i' hu hx hi
   split at hc<;>first|(cases hc; done)|skip
   rename_i k hk
   injection hc with hc; subst hc
   simp only[stepA]at h
   split at h<;>first|(cases h; done)|skip
   ·rename_i b off len i hs hii
    obtain⟨ki,hki⟩:=asNat_R (mk hi) hii
    split at h<;>first|(cases h; done)|skip
    rename_i k' els hg
    split at h<;>first|(cases h; done)|skip
    rename_i hcond
    obtain⟨d1,d2⟩:=hcond
    subst d1
    obtain⟨h1,h2⟩:=same_pair h
    subst h1; subst h2
    exact Done.ofV hr (ok_idxA hr hu hk (mk hx) hki (.inl ⟨_,_,_,_,hs,hg,d2,rfl⟩))
   ·rename_i els i hs hii
    obtain⟨ki,hki⟩:=asNat_R (mk hi) hii
    split at h<;>first|(cases h; done)|skip
    rename_i row hrow
    split at h<;>first|(cases h; done)|skip
    rename_i hlen
    obtain⟨h1,h2⟩:=same_pair h
    subst h1; subst h2
    exact Done.ofV hr (ok_idxA hr hu hk (mk hx) hki (.inr ⟨_,_,hs,hrow,hlen,rfl⟩))
  ·rename_i n e x' i' hu hx hi
   split at hc<;>first|(cases hc; done)|skip
   rename_i k hk
   injection hc with hc; subst hc
   simp only[stepA]at h
   split at h<;>first|(cases h; done)|skip
   rename_i i hii
   obtain⟨ki,hki⟩:=asNat_R (mk hi) hii
   split at h<;>first|(cases h; done)|skip
   rename_i hlt2
   split at h<;>first|(cases h; done)|skip
   rename_i v hv
   obtain⟨h1,h2⟩:=same_pair h
   subst h1; subst h2
   exact Done.ofV hr (ok_idxAA hu hk (mk hx) hki hlt2 hv)
 ·rename_i ty z zi ho
  rw[ho]
  split at hc<;>first|(cases hc; done)|skip
  ·rename_i x' i' hu hx hi
   injection hc with hc; subst hc
   simp only[stepA]at h
   split at h<;>first|(cases h; done)|skip
   rename_i s i hs hii
   obtain⟨ki,hki⟩:=asNat_R (mk hi) hii
   split at h<;>first|(cases h; done)|skip
   rename_i c hcc
   obtain⟨h1,h2⟩:=same_pair h
   subst h1; subst h2
   have hxv:=mk hx
   rw[hs]at hxv
   exact Done.val (run_v (ok_idxStr hu hxv hki hcc)) hr (.int _ _)
  ·rename_i n e x' i' hu hx hi
   split at hc<;>first|(cases hc; done)|skip
   rename_i k sz hk hsz
   injection hc with hc; subst hc
   simp only[stepA]at h
   split at h<;>first|(cases h; done)|skip
   rename_i cs i hcs hii
   obtain⟨ki,hki⟩:=asNat_R (mk hi) hii
   split at h<;>first|(cases h; done)|skip
   rename_i hlt2
   split at h<;>first|(cases h; done)|skip
   rename_i v hv
   obtain⟨h1,h2⟩:=same_pair h
   subst h1; subst h2
   have hxv:=mk hx
   rw[hcs]at hxv
   exact Done.ofV hr (ok_idxArr hu hk hsz hxv hki hlt2 hv)
 ·rename_i ty z zi ok ho
  rw[ho]
  split at hc<;>first|(cases hc; done)|skip
  rename_i kt e x' i' hu hx hi
  split at hc<;>first|(cases hc; done)|skip
  rename_i q zz hq hz
  injection hc with hc; subst hc
  simp only[stepA]at h
  split at h<;>first|(cases h; done)|skip
  rename_i es hes
  split at h<;>first|(cases h; done)|skip
  rename_i r hf
  obtain⟨h1,h2⟩:=same_pair h
  subst h1; subst h2
  have hmm:(ev t x'=.nilMap∧es=[])∨(∃ b c,ev t x'=.map b∧m.get b=some (.map es c)):=by
   split at hes<;>first|(cases hes; done)|skip
   ·rename_i hy
    injection hes with hes
    exact .inl ⟨hy,hes.symm⟩
   ·rename_i b hy
    split at hes<;>first|(cases hes; done)|skip
    rename_i es' clock hg
    injection hes with hes
    subst hes
    exact .inr ⟨b,clock,hy,hg⟩
  ·obtain⟨u,g1,g2⟩:=ok_lookup (w:=w) (ok:=ok) hr hu hq hz (mk hx) (mk hi) hmm hf
   refine Done.ofV hr ⟨u,g1,?_⟩
   cases r with
   | none=>exact g2
   | some r=>obtain ⟨i,v,b⟩:=r; exact g2
 ·rename_i ty om ok ov ho
  rw[ho]
  exact mapUpd_of ht hr ty om ok ov op hc h
 ·rename_i ty om ok ov ho
  rw[ho]
  exact mapUpd_of ht hr ty om ok ov op hc h
 ·rename_i z i ho
  rw[ho]
  split at hc<;>first|(cases hc; done)|skip
  rename_i y hy
  injection hc with hc; subst hc
  simp only[stepA]at h
  split at h<;>first|(cases h; done)|skip
  rename_i vs hvs
  split at h<;>first|(cases h; done)|skip
  rename_i v hv
  obtain⟨h1,h2⟩:=same_pair h
  subst h1; subst h2
  have hyv:=mk hy
  rw[hvs]at hyv
  exact Done.ofV hr (ok_ext hyv hv)
 ·rename_i c ho
  have:=call_done ht hr hn hlt o c ho op hc h
  unfold execOp at this
  exact this
 ·split at hc<;>first|(cases hc; done)|skip
  simp only[Option.map_eq_some_iff]at hc
  obtain⟨y,_,rfl⟩:=hc
  simp only[stepA]at h
  cases h
 ·simp only[Option.map_eq_some_iff]at hc
  obtain⟨y,_,rfl⟩:=hc
  simp only[stepA]at h
  cases h
 ·simp only[Option.map_eq_some_iff]at hc
  obtain⟨y,_,rfl⟩:=hc
  simp only[stepA]at h
  cases h
 ·cases hc
end
end Go.AE
end
section
namespace Go.AE
open Go.RowKit
section
variable {P:Program} {W:Base} {Φ:Pers} {ρ:Rho} {w:World} {m m':Mem} {x:AVal} {a:Act} {t:List AVal} {ops:Array Oper}
theorem RL.put {v:AVal} {u:Value} (d:Option Nat) (ht:RL Φ ρ t a.tmps) (hv:R Φ ρ v u):RL Φ ρ (put t d v) (a.put d u).tmps:=by
 cases d with
 | none=>exact ht
 | some d=>
  refine⟨by simp[AE.put,Act.put,ht.1],fun i x y hx hy=>?_⟩
  simp only[AE.put,Act.put]at hx hy
  rw[List.getElem?_set]at hx
  rw[Array.getElem?_setIfInBounds]at hy
  by_cases h:d=i
  ·rw[if_pos h]at hx hy
   subst h
   split at hx
   ·split at hy
    ·injection hx with hx; injection hy with hy; subst hx; subst hy; exact hv
    ·cases hy
   ·cases hx
  ·rw[if_neg h]at hx hy
   exact ht.2 i x y hx hy
theorem put_defers (d:Option Nat) (u:Value):(a.put d u).defers=a.defers:=by
 cases d<;>rfl
theorem wanted_ok (ht:RL Φ ρ t a.tmps) {o:Oper} {g:Option (Nat×Bool)} {b:Bool} (hg:cGuard ops o.guard=some g) (h:wantedA t g=some b):Region.wanted o (yielded ops a.tmps)=b:=by
 unfold Region.wanted
 cases hog:o.guard with
 | none=>
  simp only[hog,cGuard,Option.some.injEq]at hg
  subst hg
  simp only[wantedA,Option.some.injEq]at h
  exact h
 | some jw=>
  obtain⟨j,want⟩:=jw
  simp only[hog,cGuard]at hg
  split at hg<;>first|(cases hg; done)|skip
  rename_i d hd
  injection hg with hg
  subst hg
  simp only[yielded,hd,Option.bind_some]
  simp only[wantedA]at h
  have hR:=ht.get d
  split at h<;>first|(cases h; done)|skip
  ·rename_i b0 hb0
   injection h with h
   subst h
   rw[hb0]at hR
   have hv:=bool_R hR
   have:a.tmps[d]? = some (.bool b0):=by
    rcases Nat.lt_or_ge d a.tmps.size with hlt|hge
    ·rw[Array.getElem?_eq_getElem hlt]
     simpa[Array.getD,hlt]using hv
    ·simp[Array.getD,Nat.not_lt.2 hge,undef]at hv
   rw[this]
   simp
  ·rename_i hb0
   injection h with h
   subst h
   rw[hb0]at hR
   have hne:∀ b,a.tmps[d]? ≠ some (.bool b):=by
    intro b hb
    have:a.tmps.getD d undef=.bool b:=by
     have hlt:=(Array.getElem?_eq_some_iff.1 hb).1
     have:=(Array.getElem?_eq_some_iff.1 hb).2
     simpa[Array.getD,hlt]using this
    rw[this]at hR
    cases hR
   cases hq:a.tmps[d]? with
   | none=>simp
   | some v=>
    cases v<;>first|(exact absurd hq (hne _))|simp
theorem op_step {id:Nat} {K:Act→World→Prop} {Q:Exit→Act→World→Prop} (ht:RL Φ ρ t a.tmps) (hr:Rel W Φ ρ m w) (hn:ρ id=none) (hlt:id<m.next) (o:Oper)
 (h:stepA id t m (cOp' P o)=some (x,m'))
 (hK:∀ Φ' ρ' u w',Ext Φ ρ Φ' ρ'→(∀ b,b≠id→ρ b=none→ρ' b=none)→Rel W Φ' ρ' m' w'→R Φ' ρ' x u→K (a.put o.dst u) w'):o.wp P a w K Q:=by
 unfold cOp' at h
 cases hc:cOp P o with
 | none=>simp[hc,stepA]at h
 | some op=>
  simp only[hc,Option.getD_some]at h
  obtain⟨v,w',Φ',ρ',hrun,he,hk,hr',hx⟩:=step_ok ht hr hn hlt o op hc h
  unfold Oper.wp
  rcases hrun with hrun|⟨hrun,rfl⟩
  ·rw[hrun]
   exact hK _ _ _ _ he hk hr' hx
  ·rw[hrun]
   exact hK _ _ _ _ he hk hr' hx
theorem op_call {id:Nat} {K:Act→World→Prop} {Q:Exit→Act→World→Prop} (ht:RL Φ ρ t a.tmps) (hr:Rel W Φ ρ m w) (hn:ρ id=none) (hlt:id<m.next) (o:Oper) {f:AOpd} {xs:List AOpd} (ho:cOp' P o=.call f xs) {g:FuncId} {args:List AVal} (hg:callee t f xs=some (g,args))
 {KA:AVal→Mem→Prop} (h:ACalls P g args m [id] KA)
 (hK:∀ Φ' ρ' x m' u w',Ext Φ ρ Φ' ρ'→(∀ b,b<m.next→b≠id→ρ b=none→ρ' b=none)→Rel W Φ' ρ' m' w'→R Φ' ρ' x u→m.next≤m'.next→KA x m'→K (a.put o.dst u) w'):o.wp P a w K Q:=by
 have hcall:∃ c of,o.op=.call c∧c.callee=.value of∧cOpd of=some f∧cOpds c.args.toList=some xs:=by
  unfold cOp' at ho
  cases hc:cOp P o with
  | none=>simp[hc]at ho
  | some op=>
   simp only[hc,Option.getD_some]at ho
   subst ho
   unfold cOp at hc
   split at hc<;>first|(cases hc; done)|(simp only[Option.map_eq_some_iff]at hc; obtain⟨_,_,hc⟩:=hc; cases hc; done)|skip
   case h_26 c hoc=>
    unfold cCall at hc
    split at hc
    ·rename_i of hcal
     split at hc
     ·rename_i g' xs' hg' hxs'
      injection hc with hc
      injection hc with h1 h2
      subst h1; subst h2
      exact⟨c,of,hoc,hcal,hg',hxs'⟩
     ·cases hc
    all_goals (repeat' (split at hc<;>first|(cases hc; done)|skip))
    all_goals (first|(cases hc; done)|(simp only[Option.map_eq_some_iff]at hc; obtain⟨_,_,hc⟩:=hc; cases hc; done)|skip)
   all_goals (repeat' (split at hc<;>first|(cases hc; done)|skip))
   all_goals (first|(cases hc; done)|(simp only[Option.map_eq_some_iff]at hc; obtain⟨_,_,hc⟩:=hc; cases hc; done)|skip)
 obtain⟨c,of,hop,hcal,hof,hxs⟩:=hcall
 have hfv:=ev_R ht hof
 unfold callee at hg
 split at hg<;>first|(cases hg; done)|skip
 rename_i g' first cap hev
 injection hg with hg
 injection hg with h1 h2
 subst h1; subst h2
 rw[hev]at hfv
 generalize hvv:a.eval of=vv at hfv
 cases hfv with
 | func _ _ _ vf vc hf hc hfr hcr=>
  have hargs:=RL_map ht hxs
  have hRL:RL Φ ρ (first++xs.map (ev t)++cap) (vf++c.args.map a.eval++vc):=by
   refine⟨by simp only[Array.size_append,List.length_append]; rw[hf,hc,hargs.1],fun i y v hy hv=>?_⟩
   have hl2:(vf++c.args.map a.eval).size=(first++xs.map (ev t)).length:=by simp only[Array.size_append,List.length_append]; rw[hf,hargs.1]
   rw[List.getElem?_append]at hy
   rw[Array.getElem?_append]at hv
   rw[hl2]at hv
   split at hy
   ·rename_i hlt'
    rw[if_pos hlt']at hv
    rw[List.getElem?_append]at hy
    rw[Array.getElem?_append,hf]at hv
    split at hy
    ·rename_i h3
     rw[if_pos h3]at hv
     exact hfr i y v hy hv
    ·rename_i h3
     rw[if_neg h3]at hv
     exact hargs.2 _ y v hy hv
   ·rename_i hge
    rw[if_neg hge]at hv
    exact hcr _ y v hy hv
  have hC:=h.2 W Φ ρ _ w hr hRL (fun b hb=>by simp only[List.mem_singleton]at hb; subst hb; exact⟨hn,hlt⟩)
  obtain⟨fn,hfn,hname,hbody⟩:=h.1
  unfold Oper.wp
  have hrun:(execOp a.eval o).run P w=.ok (.enter g' (vf++c.args.map a.eval++vc)) w:=by
   unfold execOp
   rw[hop]
   simp only[resolve,hcal,hvv,Deferred.ofValue,Sem.run_bind,Sem.run_pure,Result.andThen_ok,invoke,callFunc]
   cases hb:fn.body with
   | none=>rw[hb]at hbody; cases hbody
   | some b=>simp[program,Sem.run,hfn,hb]; simpa using hname
  rw[hrun]
  refine hC.mono fun e w' he=>?_
  obtain⟨v,r,m',Φ',ρ',rfl,h1,h2,h3,h4,h5,h6⟩:=he
  exact hK Φ' ρ' r m' v w' h1 (fun b hb hne=>h2 b hb (by simpa using hne)) h3 h4 h5 h6
theorem cOpers_get (P:Program) (ops:Array Oper):∀ (l:List Oper) (as:List AOper),cOpers P ops l=some as →
 as.length=l.length ∧ ∀(i:Nat) (o:Oper) (b:AOper),l[i]? = some o→as[i]? = some b→b.dst=o.dst∧b.op=cOp' P o∧cGuard ops o.guard=some b.guard
 | [],as,h=>by
  simp only[cOpers,Option.some.injEq]at h
  subst h
  exact⟨rfl,fun i o b hi=>by simp at hi⟩
 | o :: l,as,h=>by
  simp only[cOpers]at h
  cases hg:cGuard ops o.guard with
  | none=>simp[hg]at h
  | some g=>
   cases hr:cOpers P ops l with
   | none=>simp[hg,hr]at h
   | some as'=>
    simp only[hg,hr,Option.some.injEq]at h
    subst h
    obtain⟨h1,h2⟩:=cOpers_get P ops l as' hr
    refine⟨by simp[h1],fun i o' b hi hb=>?_⟩
    cases i with
    | zero=>
     simp only[List.getElem?_cons_zero,Option.some.injEq]at hi hb
     subst hi; subst hb
     exact⟨rfl,rfl,hg⟩
    | succ i=>
     simp only[List.getElem?_cons_succ]at hi hb
     exact h2 i o' b hi hb
theorem wops_cons {base i:Nat} {b:AOper} {rest:List AOper} {K:ASt→Prop} (h:wops P base (b :: rest) i K t m) :
 (wantedA t b.guard=some false∧wops P base rest (i+1) K (put t b.dst aundef) m) ∨
 (wantedA t b.guard=some true∧((∃ f xs g args,b.op=.call f xs∧callee t f xs=some (g,args)∧ACalls P g args m [base+i] fun v m'=>wops P base rest (i+1) K (put t b.dst v) m') ∨
   (∃ v m',stepA (base+i) t m b.op=some (v,m')∧wops P base rest (i+1) K (put t b.dst v) m'))):=by
 simp only[wops]at h
 cases hw:wantedA t b.guard with
 | none=>simp[hw]at h
 | some q=>
  cases q with
  | false=>simp only[hw]at h; exact .inl ⟨rfl,h⟩
  | true=>
   simp only[hw]at h
   refine .inr ⟨rfl,?_⟩
   have other:∀ op,b.op=op→(match stepA (base+i) t m op with|some (v,m')=>wops P base rest (i+1) K (put t b.dst v) m'|none=>False) →
    ∃ v m',stepA (base+i) t m op=some (v,m')∧wops P base rest (i+1) K (put t b.dst v) m':=by
    intro op _ hh
    cases hs:stepA (base+i) t m op with
    | none=>simp[hs]at hh
    | some r=>obtain ⟨v,m'⟩:=r; simp only[hs]at hh; exact⟨v,m',rfl,hh⟩
   cases hop:b.op with
   | call f xs=>
    simp only[hop]at h
    cases hc:callee t f xs with
    | none=>simp[hc]at h
    | some r=>
     obtain⟨g,args⟩:=r
     simp only[hc]at h
     exact .inl ⟨f,xs,g,args,rfl,hc,h⟩
   | _=>rw[hop]at h; exact .inr (other _ hop h)
theorem stepA_next {id:Nat} {op:AOp} {v:AVal} (h:stepA id t m op=some (v,m')):m'.next=m.next:=by
 obtain⟨_,_,h2⟩:=stepA_local (m2:=m) (fun _ _=>rfl) (fun _ _=>rfl) h
 exact h2.n1
theorem plain_sound (W:Base) (base:Nat) (n0:Nat) (ops:Array Oper) (Q:Exit→ASt→Prop) (Φ0:Pers) (ρ0:Rho) (hb:n0≤base) :
 ∀(l:List Oper) (as:List AOper) (i:Nat) (t:List AVal) (m:Mem) (Φ:Pers) (ρ:Rho) (a:Act) (w:World),
  as.length=l.length→(∀(j:Nat) (o:Oper) (b:AOper),l[j]? = some o→as[j]? = some b→b.dst=o.dst∧b.op=cOp' P o∧cGuard ops o.guard=some b.guard) →
  wops P base as i (Q .normal) t m→Rel W Φ ρ m w→RL Φ ρ t a.tmps→a.defers=[]→Ext Φ0 ρ0 Φ ρ→KeepN n0 ρ0 ρ→(∀ j,i≤j→j<i+as.length→ρ (base+j)=none)→base+i+as.length≤m.next→n0≤m.next →
  wpList P ops (lift W Φ0 ρ0 n0 Q) l a w
 | [],[],i,t,m,Φ,ρ,a,w,_,_,h,hr,ht,hd,he,hk,_,_,hn=>⟨⟨t,m⟩,Φ,ρ,he,hk,hn,hr,ht,hd,h⟩
 | [],_ :: _,_,_,_,_,_,_,_,hl,_,_,_,_,_,_,_,_,_,_=>by simp at hl
 | _ :: _,[],_,_,_,_,_,_,_,hl,_,_,_,_,_,_,_,_,_,_=>by simp at hl
 | o :: l,b :: as,i,t,m,Φ,ρ,a,w,hl,hg,h,hr,ht,hd,he,hk,hfree,hnx,hn=>by
  obtain⟨e1,e2,e3⟩:=hg 0 o b rfl rfl
  have hg':∀ (j:Nat) (o:Oper) (b:AOper),l[j]? = some o→as[j]? = some b→b.dst=o.dst∧b.op=cOp' P o∧cGuard ops o.guard=some b.guard:=fun j o b ho hb=>hg (j+1) o b (by simpa using ho) (by simpa using hb)
  have hl':as.length=l.length:=by simpa using hl
  simp only[List.length_cons]at hnx hfree
  have hlt:base+i<m.next:=by omega
  have hni:ρ (base+i)=none:=hfree i (Nat.le_refl _) (by omega)
  unfold wpList
  rcases wops_cons h with⟨hw,h'⟩|⟨hw,h'⟩
  ·rw[wanted_ok ht e3 hw,if_neg (by simp)]
   rw[← e1]
   exact plain_sound W base n0 ops Q Φ0 ρ0 hb l as (i+1) _ m Φ ρ _ w hl' hg' h' hr (ht.put b.dst (R_undef Φ ρ)) (by rw[put_defers]; exact hd) he hk (fun j h1 h2=>hfree j (by omega) (by omega)) (by omega) hn
  ·rw[wanted_ok ht e3 hw,if_pos rfl]
   refine .inl ?_
   rcases h' with⟨f,xs,g,args,hop,hcal,hA⟩|⟨v,m',hs,h'⟩
   ·refine op_call ht hr hni hlt o (by rw[← e2]; exact hop) hcal hA fun Φ' ρ' x m' u w' hE hfr hr' hx hnx' hW=>?_
    rw[← e1]
    exact plain_sound W base n0 ops Q Φ0 ρ0 hb l as (i+1) _ m' Φ' ρ' _ w' hl' hg' hW hr' ((ht.ext hE).put b.dst hx) (by rw[put_defers]; exact hd) (he.trans hE) (fun c hc h0=>hfr c (by omega) (by omega) (hk c hc h0))
     (fun j h1 h2=>hfr _ (by omega) (by omega) (hfree j (by omega) (by omega))) (by omega) (by omega)
   ·have hnx':=stepA_next hs
    rw[e2]at hs
    refine op_step ht hr hni hlt o hs fun Φ' ρ' u w' hE hfr hr' hx=>?_
    rw[← e1]
    exact plain_sound W base n0 ops Q Φ0 ρ0 hb l as (i+1) _ m' Φ' ρ' _ w' hl' hg' h' hr' ((ht.ext hE).put b.dst hx) (by rw[put_defers]; exact hd) (he.trans hE) (fun c hc h0=>hfr c (by omega) (hk c hc h0))
     (fun j h1 h2=>hfr _ (by omega) (hfree j (by omega) (by omega))) (by rw[hnx']; omega) (by rw[hnx']; exact hn)
theorem Rel.at_ {n:Nat} (h:Rel W Φ ρ m w) (hn:m.next≤n):Rel W Φ ρ (m.at n) w:=
 ⟨h.base,h.pers,h.live,h.inj,fun b l hb=>by have:=h.fresh b l hb; simp only[Mem.next_at]; omega,h.newp⟩
theorem region_plain {id:Nat} {Q:Exit→ASt→Prop} {σ:ASt} (h:wpc P (cCode P (.region id ops false)) Q σ):AWp P (.region id ops false) Q σ:=by
 intro W Φ ρ a w hr ht hd
 simp only[cCode]at h
 cases hc:cOpers P ops ops.toList with
 | none=>simp[hc,wpc]at h
 | some as=>
  simp only[hc,wpc]at h
  obtain⟨h1,h2⟩:=cOpers_get P ops _ _ hc
  refine wp_region_list (plain_sound W σ.m.next σ.m.next ops Q Φ ρ (Nat.le_refl _) ops.toList as 0 σ.t _ Φ ρ a w h1 h2 h (hr.at_ (by omega)) ht hd (.refl _ _) (.refl _ _) ?_ (by simp) (by simp))
  intro j _ _
  cases hq:ρ (σ.m.next+j)with
  | none=>rfl
  | some l=>have:=hr.fresh _ _ hq; omega
end
end Go.AE
end
section
namespace Go.AE
open Go.RowKit
theorem map_ev {t t2:List AVal} {xs:List AOpd} (h:∀ x,x∈xs→ev t x=ev t2 x):xs.map (ev t)=xs.map (ev t2):=List.map_congr_left h
theorem optNat_ev {t t2:List AVal} {d:Nat} {o:Option AOpd} (h:∀ x,x∈o.toList→ev t x=ev t2 x):optNat t d o=optNat t2 d o:=by
 cases o with
 | none=>rfl
 | some x=>simp only[optNat]; rw[h x (by simp)]
theorem slBounds_ev {t t2:List AVal} {n mx:Nat} {lo hi:Option AOpd} (h1:∀ x,x∈lo.toList→ev t x=ev t2 x) (h2:∀ x,x∈hi.toList→ev t x=ev t2 x):slBounds t n mx lo hi=slBounds t2 n mx lo hi:=by
 simp only[slBounds,optNat_ev h1,optNat_ev h2]
theorem foot_kind0 {id:Nat} {t:List AVal} {op:AOp} (h:op.kind=0):footW id t op=[]∧footR t op=[]:=by
 cases op<;>first|exact⟨rfl,rfl⟩|(exfalso; revert h; simp[AOp.kind]; done)
theorem foot_kind1 {id:Nat} {t:List AVal} {op:AOp} (h:op.kind≤1):footW id t op=[]:=by
 cases op<;>first|rfl|(exfalso; revert h; simp[AOp.kind]; done)
theorem stepA_ev {id:Nat} {t t2:List AVal} {m:Mem} {op:AOp} (h:∀ x,x∈op.opds→ev t x=ev t2 x):stepA id t m op=stepA id t2 m op:=by
 cases op with
 | build z ps=>
  have:(ps.map fun p=>(p.1,p.2.1,ev t p.2.2))=ps.map fun p=>(p.1,p.2.1,ev t2 p.2.2):=List.map_congr_left fun p hp=>by rw[h p.2.2 (List.mem_map.2 ⟨p,hp,rfl⟩)]
  simp only[stepA,this]
 | mkSl k len z ps=>
  have:(ps.map fun p=>(p.1,ev t p.2))=ps.map fun p=>(p.1,ev t2 p.2):=List.map_congr_left fun p hp=>by rw[h p.2 (List.mem_map.2 ⟨p,hp,rfl⟩)]
  simp only[stepA,this]
 | mkFunc fn a b=>
  simp only[stepA,map_ev (fun x hx=>h x (List.mem_append_left _ hx)),map_ev (fun x hx=>h x (List.mem_append_right _ hx))]
 | minmax mx xs=>
  cases xs with
  | nil=>rfl
  | cons x r=>
   simp only[stepA]
   rw[h x (by simp[AOp.opds]),map_ev (fun y hy=>h y (by simp[AOp.opds,hy]))]
 | slStr x lo hi=>
  have h1:∀ y,y∈lo.toList→ev t y=ev t2 y:=fun y hy=>h y (by simp only[AOp.opds,List.mem_cons,List.mem_append]; exact .inr (.inl hy))
  have h2:∀ y,y∈hi.toList→ev t y=ev t2 y:=fun y hy=>h y (by simp only[AOp.opds,List.mem_cons,List.mem_append]; exact .inr (.inr hy))
  simp only[stepA,h x (by simp[AOp.opds]),slBounds_ev h1 h2]
 | slSl k x lo hi mx=>
  have h1:∀ y,y∈lo.toList→ev t y=ev t2 y:=fun y hy=>h y (by simp only[AOp.opds,List.mem_cons,List.mem_append]; exact .inr (.inl (.inl hy)))
  have h2:∀ y,y∈hi.toList→ev t y=ev t2 y:=fun y hy=>h y (by simp only[AOp.opds,List.mem_cons,List.mem_append]; exact .inr (.inl (.inr hy)))
  have h3:∀ y,y∈mx.toList→ev t y=ev t2 y:=fun y hy=>h y (by simp only[AOp.opds,List.mem_cons,List.mem_append]; exact .inr (.inr hy))
  cases mx with
  | none=>
   simp only[stepA,h x (by simp[AOp.opds])]
   cases ev t2 x<;>simp only[slBounds_ev h1 h2]
  | some z=>
   simp only[stepA,h x (by simp[AOp.opds]),optNat_ev h1,optNat_ev (o:=some z) (fun y hy=>h3 y hy)]
   cases hi with
   | none=>cases sliceLen (ev t2 x)<;>cases optNat t2 0 (some z)<;>cases optNat t2 0 lo<;>rfl
   | some q=>
    have hq:=h2 q (by simp)
    cases sliceLen (ev t2 x)<;>cases optNat t2 0 (some z)<;>cases optNat t2 0 lo<;>simp only[hq]
 | slArr n k x lo hi=>rfl
 | call f xs=>rfl
 | alloc z=>rfl
 | mkMap=>rfl
 | lenArr n=>rfl
 | capSl x=>rfl
 | dead=>rfl
 | mapEnt kt z a b=>rfl
 | entSt a b c=>rfl
 | delete kt a b=>rfl
 | range a=>rfl
 | nextS a=>rfl
 | nextM a=>rfl
 | appendZ k b z s x=>rfl
 | mov x=>simp only[stepA,h x (by simp[AOp.opds])]
 | box x=>simp only[stepA,h x (by simp[AOp.opds])]
 | load n x=>simp only[stepA,h x (by simp[AOp.opds])]
 | nilChk x=>simp only[stepA,h x (by simp[AOp.opds])]
 | un op x=>simp only[stepA,h x (by simp[AOp.opds])]
 | convInt k x=>simp only[stepA,h x (by simp[AOp.opds])]
 | convId x=>simp only[stepA,h x (by simp[AOp.opds])]
 | toStr x=>simp only[stepA,h x (by simp[AOp.opds])]
 | fieldA off x=>simp only[stepA,h x (by simp[AOp.opds])]
 | field off n x=>simp only[stepA,h x (by simp[AOp.opds])]
 | ext x i=>simp only[stepA,h x (by simp[AOp.opds])]
 | lenStr x=>simp only[stepA,h x (by simp[AOp.opds])]
 | lenSl x=>simp only[stepA,h x (by simp[AOp.opds])]
 | lenMap x=>simp only[stepA,h x (by simp[AOp.opds])]
 | iface ty x=>simp only[stepA,h x (by simp[AOp.opds])]
 | clear k z x=>simp only[stepA,h x (by simp[AOp.opds])]
 | pick c a b=>simp only[stepA,h c (by simp[AOp.opds]),h a (by simp[AOp.opds]),h b (by simp[AOp.opds])]
 | store n a x=>simp only[stepA,h a (by simp[AOp.opds]),h x (by simp[AOp.opds])]
 | bin op e a x=>simp only[stepA,h a (by simp[AOp.opds]),h x (by simp[AOp.opds])]
 | makeSl k b z a x=>simp only[stepA,h a (by simp[AOp.opds]),h x (by simp[AOp.opds])]
 | idxA k a x=>simp only[stepA,h a (by simp[AOp.opds]),h x (by simp[AOp.opds])]
 | idxAA n k a x=>simp only[stepA,h a (by simp[AOp.opds]),h x (by simp[AOp.opds])]
 | idxStr a x=>simp only[stepA,h a (by simp[AOp.opds]),h x (by simp[AOp.opds])]
 | idxArr n k sz a x=>simp only[stepA,h a (by simp[AOp.opds]),h x (by simp[AOp.opds])]
 | lookup kt z ok a x=>simp only[stepA,h a (by simp[AOp.opds]),h x (by simp[AOp.opds])]
 | append k b z a x=>simp only[stepA,h a (by simp[AOp.opds]),h x (by simp[AOp.opds])]
 | copy k a x=>simp only[stepA,h a (by simp[AOp.opds]),h x (by simp[AOp.opds])]
 | mapUpd kt a b c=>simp only[stepA,h a (by simp[AOp.opds]),h b (by simp[AOp.opds]),h c (by simp[AOp.opds])]
theorem callee_ev {t t2:List AVal} {f:AOpd} {xs:List AOpd} (h:∀ x,x∈(AOp.call f xs).opds→ev t x=ev t2 x):callee t f xs=callee t2 f xs:=by
 have h1:xs.map (ev t)=xs.map (ev t2):=map_ev fun y hy=>h y (by simp only[AOp.opds,List.mem_cons]; exact .inr hy)
 simp only[callee,h f (by simp[AOp.opds]),h1]
def lastW (p:Nat→Bool):Nat→Option Nat
 | 0=>none
 | n+1=>if p n then some n else lastW p n
theorem lastW_congr {p q:Nat→Bool}:∀ (n:Nat),(∀ j,j<n→p j=q j)→lastW p n=lastW q n
 | 0,_=>rfl
 | n+1,h=>by
  simp only[lastW]
  rw[h n (Nat.lt_succ_self n),lastW_congr n fun j hj=>h j (Nat.lt_succ_of_lt hj)]
theorem lastW_top {p:Nat→Bool} {i:Nat} (hi:p i=true):∀ (n:Nat),i<n→(∀ j,i<j→j<n→p j=false)→lastW p n=some i
 | 0,h,_=>absurd h (Nat.not_lt_zero _)
 | n+1,h,hj=>by
  simp only[lastW]
  by_cases hin:i=n
  ·subst hin; rw[if_pos hi]
  ·rw[hj n (by omega) (Nat.lt_succ_self n)]
   simp only[Bool.false_eq_true,if_false]
   exact lastW_top hi n (by omega) fun j h1 h2=>hj j h1 (by omega)
end Go.AE
end
section
namespace Go.AE
open Go.RowKit
theorem call_frame {P:Program} {f:FuncId} {args:List AVal} {id:Nat} {x:List Nat} {m m3:Mem} {v:AVal} (hid:id∉x) (hx3:∀ c,c∈x→m3.get c=none) (hn:m.next≤m3.next)
 (h:ACalls P f args (m.less x) [id] fun v' m''=>v'=v∧m''=m3) {m2:Mem} (hag:∀ c,c∉x→m2.get c=m.get c) (hnx:m2.next=m.next) :
 ACalls P f args m2 [id] fun v' m''=>v'=v∧m''=⟨fun c=>if c∈x then m2.get c else m3.get c,m3.next⟩:=by
 refine⟨h.1,fun W Φ ρ vs w hr ha hav=>?_⟩
 have hfr:∀ B,(∃ c l,c∈x∧(∃ y,m2.get c=some y)∧ρ c=some l∧l.blk=B) ∨ ¬(∃ c l,c∈x∧(∃ y,m2.get c=some y)∧ρ c=some l∧l.blk=B):=fun B=>Classical.em _
 have hg:∃ g:Nat→Option Obj,∀ B,((∃ c l,c∈x∧(∃ y,m2.get c=some y)∧ρ c=some l∧l.blk=B)→g B=w.heap[B]?)∧(¬(∃ c l,c∈x∧(∃ y,m2.get c=some y)∧ρ c=some l∧l.blk=B)→g B=W.g B):=by
  refine⟨fun B=>@ite _ (∃ c l,c∈x∧(∃ y,m2.get c=some y)∧ρ c=some l∧l.blk=B) (Classical.propDecidable _) (w.heap[B]?) (W.g B),fun B=>⟨fun h=>?_,fun h=>?_⟩⟩
  ·simp only[h,if_true]
  ·simp only[h,if_false]
 obtain⟨g,hg⟩:=hg
 let W':Base:=⟨W.w,g,Φ,W.t⟩
 have hfree2:∀ B,W'.Free B→W.Free B:=by
  intro B hB
  refine⟨hB.1,?_⟩
  rcases hfr B with h1|h1
  ·obtain⟨c,l,hc,⟨y,hy⟩,hl,hlB⟩:=h1
   obtain⟨l',o,g1,g2,_⟩:=hr.live c y hy
   rw[hl]at g1; injection g1 with g1; subst g1
   rw[← hlB]; exact g2.2
  ·have:=(hg B).2 h1
   have h2:g B=none:=hB.2
   rw[this]at h2; exact h2
 have hprot:∀ B o,g B=some o→w.heap[B]? = some o:=by
  intro B o hB
  rcases hfr B with h1|h1
  ·rw[(hg B).1 h1]at hB; exact hB
  ·rw[(hg B).2 h1]at hB; exact hr.base.prot B o hB
 have hr1:Rel W' Φ ρ (m.less x) w:=by
  refine⟨⟨hr.base.below,hprot⟩,hr.pers,fun b y hy=>?_,fun b b' y y' l l' h1 h2=>?_,fun b l hb=>by have:=hr.fresh b l hb; rw[hnx]at this; exact this,fun B c hB=>.inl hB⟩
  ·simp only[Mem.less]at hy
   by_cases hbx:b∈x
   ·rw[if_pos hbx]at hy; cases hy
   ·rw[if_neg hbx,← hag b hbx]at hy
    obtain⟨l,o,g1,g2,g3,g4,g5⟩:=hr.live b y hy
    refine⟨l,o,g1,⟨g2.1,?_⟩,g3,g4,g5⟩
    rcases hfr l.blk with h1|h1
    ·obtain⟨c,l',hc,⟨y',hy'⟩,hl,hlB⟩:=h1
     have:=hr.inj c b y' y l' l hy' hy hl g1 hlB
     exact absurd (this ▸ hc) hbx
    ·show g l.blk=none
     rw[(hg _).2 h1]; exact g2.2
  ·simp only[Mem.less]at h1 h2
   by_cases hbx:b∈x
   ·rw[if_pos hbx]at h1; cases h1
   ·by_cases hbx':b'∈x
    ·rw[if_pos hbx']at h2; cases h2
    ·rw[if_neg hbx,← hag b hbx]at h1
     rw[if_neg hbx',← hag b' hbx']at h2
     exact hr.inj b b' y y' l l' h1 h2
 refine(h.2 W' Φ ρ vs w hr1 ha (fun b hb=>⟨(hav b hb).1,by have:=(hav b hb).2; rw[hnx]at this; exact this⟩)).mono fun e w' he=>?_
 obtain⟨u,r,m4,Φ',ρ',e1,hE,hk,hr',hR,hn',hK1,hK2⟩:=he
 subst hK2
 refine⟨u,r,_,Φ',ρ',e1,hE,fun b hb=>hk b (by rw[hnx]at hb; exact hb),?_,hR,by rw[hnx]; exact hn,hK1,rfl⟩
 have hframed:∀ c l y,c∈x→m2.get c=some y→ρ c=some l→g l.blk=w.heap[l.blk]?:=fun c l y hc hy hl=>(hg _).1 ⟨c,l,hc,⟨y,hy⟩,hl,rfl⟩
 have hlive:∀ c y,c∈x→m2.get c=some y → ∃ l o,ρ' c=some l∧ρ c=some l∧W.Free l.blk∧g l.blk=some o∧Φ' l.blk=none∧w'.heap[l.blk]? = some o∧BR Φ' ρ' y l o:=by
  intro c y hc hy
  obtain⟨l,o,g1,g2,g3,g4,g5⟩:=hr.live c y hy
  have hgl:g l.blk=some o:=by rw[hframed c l y hc hy g1]; exact g4
  refine⟨l,o,hE.rho _ _ g1,g1,g2,hgl,?_,hr'.base.prot _ _ hgl,g5.ext hE⟩
  cases hp:Φ' l.blk with
  | none=>rfl
  | some cc=>
   rcases hr'.newp _ _ hp with h1|h1
   ·have h1':Φ l.blk=some cc:=h1
    rw[g3]at h1'; cases h1'
   ·have:g l.blk=none:=h1.2
    rw[hgl]at this; cases this
 refine⟨⟨hr'.base.below,fun B o hB=>hr'.base.prot B o ?_⟩,hr'.pers,fun b y hy=>?_,fun b b' y y' l l' h1 h2 k1 k2 he=>?_,hr'.fresh,fun B c hB=>?_⟩
 ·rcases hfr B with h1|h1
  ·show g B=some o
   rw[(hg B).1 h1]; exact hr.base.prot B o hB
  ·show g B=some o
   rw[(hg B).2 h1]; exact hB
 ·simp only at hy
  by_cases hbx:b∈x
  ·rw[if_pos hbx]at hy
   obtain⟨l,o,q1,_,q3,_,q5,q6,q7⟩:=hlive b y hbx hy
   exact⟨l,o,q1,q3,q5,q6,q7⟩
  ·rw[if_neg hbx]at hy
   obtain⟨l,o,g1,g2,g3,g4,g5⟩:=hr'.live b y hy
   exact⟨l,o,g1,hfree2 _ g2,g3,g4,g5⟩
 ·simp only at h1 h2
  by_cases hbx:b∈x
  ·rw[if_pos hbx]at h1
   obtain⟨l1,o1,q1,q2,_,q4,_⟩:=hlive b y hbx h1
   rw[k1]at q1; injection q1 with q1; subst q1
   by_cases hbx':b'∈x
   ·rw[if_pos hbx']at h2
    obtain⟨l2,o2,p1,p2,_,p4,_⟩:=hlive b' y' hbx' h2
    rw[k2]at p1; injection p1 with p1; subst p1
    exact hr.inj b b' y y' l l' h1 h2 q2 p2 he
   ·rw[if_neg hbx']at h2
    obtain⟨l2,o2,p1,p2,_,p4,_⟩:=hr'.live b' y' h2
    rw[k2]at p1; injection p1 with p1; subst p1
    have:g l'.blk=none:=p2.2
    rw[← he,q4]at this; cases this
  ·rw[if_neg hbx]at h1
   obtain⟨l1,o1,q1,q2,_,q4,_⟩:=hr'.live b y h1
   rw[k1]at q1; injection q1 with q1; subst q1
   by_cases hbx':b'∈x
   ·rw[if_pos hbx']at h2
    obtain⟨l2,o2,p1,p2,_,p4,_⟩:=hlive b' y' hbx' h2
    rw[k2]at p1; injection p1 with p1; subst p1
    have:g l.blk=none:=q2.2
    rw[he,p4]at this; cases this
   ·rw[if_neg hbx']at h2
    exact hr'.inj b b' y y' l l' h1 h2 k1 k2 he
 ·rcases hr'.newp B c hB with h1|h1
  ·exact hr.newp B c h1
  ·exact .inr (hfree2 B h1)
end Go.AE
end
