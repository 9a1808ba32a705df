/- Part 34 of the proof: Po, AeNj, AeNk. -/
import Derived.Test.YtipeejpafgnjdaaGreatDoorG14
import Derived.Test.YtipeejpafgnjdaaGreatDoorG31
import Derived.Test.YtipeejpafgnjdaaGreatDoorG32
import Derived.Test.YtipeejpafgnjdaaGreatDoorG33
set_option linter.all false
section
namespace Go.Known
open Go.Plain
theorem Zws (p:Lt→Bool) (f:Lt→Lt) (ls:List Lt):cntP p (ls.map f)=cntP (fun l=>p (f l)) ls:=by
 unfold cntP
 rw[List.filter_map,List.length_map]
 rfl
theorem Z9g (f:Lt→Lt) {ls:List Lt} {v:Nat} (hv:v<ls.length):at' (ls.map f) v=f (at' ls v):=by
 unfold at'
 rw[List.getD,List.getD,List.getElem?_map,List.getElem?_eq_getElem hv]
 rfl
theorem Zl9 {f:Int} {ls:List Lt} {l:Lt} (hk:l.k=1):okR f ls l=true↔l.i=0∧l.s=0∧l.o=false∧0≤l.g∧l.g≤f∧1≤l.r∧l.r≤inG l.g ls∧same l ls=1:=by
 unfold okR
 rw[if_pos hk]
 simp[and_assoc]
theorem Zoz {f:Int} {ls:List Lt} {l:Lt} (hk:l.k=2):okR f ls l=true↔l.g=0∧l.r=0∧(l.s=1∨l.s = -1)∧1≤l.i∧l.i≤(Zax ls / 2:Nat)∧Zsu l ls=1∧Znl l.i ls=2:=by
 unfold okR
 rw[if_neg (by omega),if_pos hk]
 simp[and_assoc]
theorem Zn6 {f:Int} {ls:List Lt} {l:Lt} (h:okR f ls l=true):l.k=1∨l.k=2:=by
 unfold okR at h
 split at h
 ·exact .inl ‹_›
 ·split at h
  ·exact .inr ‹_›
  ·cases h
structure ValR (f:Int) (ls:List Lt):Prop where
 len:ls.length≤400
 vis:Zax ls≤200
 lo:0≤f
 hi:f≤40
 fst:(at' ls 0).k=1
 evn:Zaa ls % 2=0
 okr:∀ l,l∈ls→okR f ls l=true
 cyc:Zfr (Za6 ls (axis ls)) (2*ls.length+2*Zaa ls)=Zaa ls+Zax ls / 2+2
theorem Zg2 {f:Int} {ls:List Lt} (he:errC f ls=0) (h0:ls≠[]):ValR f ls:=by
 obtain⟨hf0,hf1,h1,h2,h3,h4,h5,h6⟩:=Z3t he h0
 have hF:((f.toNat:Nat):Int)=f:=by omega
 have h7:¬(400<ls.length∨200<Zax ls):=fun h=>by
  unfold errC at he
  rw[if_pos h]at he
  cases he
 have hb:=Znk h1 h4 h5
 rw[hF]at hb
 refine⟨by omega,by omega,hf0,hf1,h2,h3,List.all_eq_true.1 hb,?_⟩
 rw[Zas]at h6
 rw[h6,h5.2.2]
theorem ValR.to {f:Int} {ls:List Lt} (h:ValR f ls):errC f ls=0:=by
 have hF:((f.toNat:Nat):Int)=f:=by have:=h.lo; omega
 obtain⟨q1,q2,q3⟩:=Zmr (F:=f.toNat) (ls:=ls) (by rw[hF]; exact List.all_eq_true.2 h.okr)
 have a:=h.len
 have b:=h.vis
 have c:=h.lo
 have d:=h.hi
 unfold errC
 rw[if_neg (by omega),if_neg (by omega),if_pos]
 refine .inr ⟨q1,h.fst,h.evn,q2,q3,?_⟩
 rw[Zas,q3.2.2]
 exact h.cyc
theorem ValR.ranks {f:Int} {ls:List Lt} (hlo:0≤f) (h:∀ l,l∈ls→okR f ls l=true):Zs3 ls∧Zul ls∧CrOk ls:=by
 have hF:((f.toNat:Nat):Int)=f:=by omega
 obtain⟨q1,q2,q3⟩:=Zmr (F:=f.toNat) (ls:=ls) (by rw[hF]; exact List.all_eq_true.2 h)
 obtain⟨r1,r2⟩:=Zlh (Zi4 q1) q2
 exact⟨r1,r2,q3⟩
theorem Z1a {ls:List Lt} (ha:Zul ls) (hr:Zs3 ls) {v:Nat} (hv:v<ls.length) (hk:(at' ls v).k=1):idxN v (axis ls)=pos ls (at' ls v):=by
 have hp:isP (at' ls v)=true:=by simp[isP,hk]
 exact Zir (Zej ls) (Zc3 (mem_axis.2 ⟨hv,hp⟩)).1 (Zwm ha hr hv hp)
theorem ValR.wv {f:Int} {ls:List Lt} (h:ValR f ls) (h0:ls≠[]):Wv ls:=by
 obtain⟨_,_,hc⟩:=ValR.ranks h.lo h.okr
 have hpos:0<ls.length:=List.length_pos_iff.2 h0
 refine⟨?_,fun v hv hk=>(Zn6 (h.okr _ (Zcq hv))).resolve_right hk,fun v hv hk=>?_⟩
 ·rw[← Zas]
  exact List.length_pos_of_mem (mem_axis.2 ⟨hpos,by simp[isP,h.fst]⟩)
 ·obtain⟨_,_,j,_,_,_,j1,j2,j3,j4,j5,j6,j7,j8⟩:=Zeq hc hv (by simp[isX,hk])
  obtain⟨_,_,j',_,_,_,g1,g2,g3,g4,g5,g6,_,g8⟩:=Zeq hc j1 j3
  rw[j8]
  have hj:j'=v:=(j7 j' g1 g3 (by rw[g4,j4])).resolve_right g2
  exact⟨j1,by simpa[isX]using j3,by rw[g8,hj],j5,j6⟩
theorem ValR.uniq {f:Int} {ls:List Lt} (h:ValR f ls) {v x:Nat} (hv:v<ls.length) (hk:(at' ls v).k=2) (hx:x<ls.length) (hxk:(at' ls x).k=2) (hi:(at' ls x).i=(at' ls v).i):x=v∨x=Zbf ls v ls.length 0:=by
 obtain⟨_,_,hc⟩:=ValR.ranks h.lo h.okr
 obtain⟨_,_,j,_,_,_,j1,j2,j3,j4,j5,j6,j7,j8⟩:=Zeq hc hv (by simp[isX,hk])
 rw[j8]
 exact j7 x hx (by simp[isX,hxk]) hi
theorem ValR.same_i {f:Int} {ls:List Lt} (h:ValR f ls) {v:Nat} (hv:v<ls.length) (hk:(at' ls v).k=2):Zbf ls v ls.length 0≠v∧(at' ls (Zbf ls v ls.length 0)).i=(at' ls v).i:=by
 obtain⟨_,_,hc⟩:=ValR.ranks h.lo h.okr
 obtain⟨_,_,j,_,_,_,j1,j2,j3,j4,j5,j6,j7,j8⟩:=Zeq hc hv (by simp[isX,hk])
 rw[j8]
 exact⟨j2,j4⟩
end Go.Known
end
section
namespace Go.AE
open Go.RowKit
variable {P:Program}
theorem Zom {q:Nat→Nat} {cs:List AVal} (h:∀ (i:Nat) (x:AVal),cs[i]? = some x→x.ren q=x):renL q cs=cs:=by
 apply List.ext_getElem?
 intro i
 rw[Znp,List.getElem?_map]
 cases hc:cs[i]? with
 | none=>rfl
 | some x=>simp[h i x hc]
theorem Zsw {q:Nat→Nat} {els:List (List AVal)} (h:∀ (i:Nat) (row:List AVal) (j:Nat) (x:AVal),els[i]? = some row→row[j]? = some x→x.ren q=x):Zak q els=els:=by
 apply List.ext_getElem?
 intro i
 rw[Zbn,List.getElem?_map]
 cases hc:els[i]? with
 | none=>rfl
 | some row=>simp[Zom fun j x hj=>h i row j x hc hj]
theorem R.names {Φ:Pers} {ρ:Rho} {q:Nat→Nat} (hq:∀ b l,ρ b=some l→q b=b) {x:AVal} {v:Value} (h:R Φ ρ x v):x.ren q=x:=by
 induction h with
 | ptr b i j l h=>simp only[AVal.ren,hq _ _ h]
 | iptr els i j B o k c f hB hk hc _ ih=>simp only[AVal.ren]; rw[Zsw fun i row j x hi hj=>ih i row j x hi hj]
 | sl b off len a cap l h hl hn hc ha=>simp only[AVal.ren,hq _ _ h]
 | imm els B o k cap c f hne hcap hB hk hc _ ih=>simp only[AVal.ren]; rw[Zsw fun i row j x hi hj=>ih i row j x hi hj]
 | map b l h=>simp only[AVal.ren,hq _ _ h]
 | func fn fs cs vf vc hf hc _ _ ih1 ih2=>
  simp only[AVal.ren]
  rw[Zom fun i x hx=>ih1 i x _ hx (Array.getElem?_eq_getElem (by have:=(List.getElem?_eq_some_iff.1 hx).1; omega)),Zom fun i x hx=>ih2 i x _ hx (Array.getElem?_eq_getElem (by have:=(List.getElem?_eq_some_iff.1 hx).1; omega))]
 | yld b l h=>simp only[AVal.ren,hq _ _ h]
 | iface t x v _ ih=>simp only[AVal.ren,ih]
 | agg cs vs hs _ ih=>
  simp only[AVal.ren]
  rw[Zom fun i x hx=>ih i x _ hx (Array.getElem?_eq_getElem (by have:=(List.getElem?_eq_some_iff.1 hx).1; omega))]
 | tuple cs vs hs _ ih=>
  simp only[AVal.ren]
  rw[Zom fun i x hx=>ih i x _ hx (Array.getElem?_eq_getElem (by have:=(List.getElem?_eq_some_iff.1 hx).1; omega))]
 | _=>rfl
theorem BR.names {Φ:Pers} {ρ:Rho} {q:Nat→Nat} (hq:∀ b l,ρ b=some l→q b=b) {x:ABlk} {l:Loc} {o:Obj} (h:BR Φ ρ x l o):x.ren q=x:=by
 cases h with
 | cells k els l c e hk hn hl hr h1=>
  simp only[ABlk.ren]
  rw[Zsw fun i row j x hi hj=>by obtain⟨v,_,_,g3⟩:=hr.2 i row j x hi hj; exact g3.names hq]
 | map es clock l en hs hr=>
  simp only[ABlk.ren]
  congr 1
  apply List.ext_getElem?
  intro i
  rw[renM,List.getElem?_map]
  cases hc:es[i]? with
  | none=>rfl
  | some z=>
   obtain⟨y,g1,g2,g3,g4⟩:=hr i z hc
   simp[g2.names hq,g3.names hq]
 | siter s pos l=>rfl
 | miter0 a b c l=>rfl
 | miter m lm a b c l h=>simp only[ABlk.ren,Option.map,hq _ _ h]
def EqRB (q:Nat→Nat):List (Nat×ABlk)→SMem→Prop
 | [],_=>True
 | (b,x) :: r,m=>m.get (q b)=some (x.ren q)∧EqRB q r m
theorem EqRB.get {q:Nat→Nat}:∀ {l:List (Nat×ABlk)} {m:SMem},EqRB q l m → ∀ c x,Zar l c=some x→m.get (q c)=some (x.ren q)
 | [],_,_,c,x,h=>by simp[Zar]at h
 | (b,y) :: r,m,hs,c,x,h=>by
  simp only[Zar]at h
  split at h
  ·rename_i e; subst e; injection h with h; subst h; exact hs.1
  ·exact hs.2.get c x h
theorem Zoo {g:FuncId} {args0 args:List AVal} {m0 m:SMem} {v0:AVal} {nx n:Nat} {x:List Nat} {K:AVal→Option ABlk→Prop} (h:Ctr P g args0 m0 fun r sm=>r=v0∧sm=⟨m0.bl,nx⟩) (hnx:m0.next≤nx) (l:List (Nat×Nat)) (ha:renL (qOf l 0 m0.next m.next) args0=args)
 (hs:EqRB (qOf l 0 m0.next m.next) m0.bl m) (hi:InjK (qOf l 0 m0.next m.next) m0.bl) (hv:∀ s:Nat→Nat,(v0.ren (qOf l 0 m0.next m.next)).ren s=v0.ren (qOf l 0 m0.next m.next)) (hx:∀ b,b∈Zfe (qOf l 0 m0.next m.next) m0.bl→b∉x) (hK:K (v0.ren (qOf l 0 m0.next m.next)) none):DC P g args n x m K:=by
 subst ha
 refine⟨_,none,?_,hK⟩
 obtain⟨q,hq⟩:∃ q,qOf l 0 m0.next m.next=q:=⟨_,rfl⟩
 have hqn:∀ c,m0.next≤c→q c=c - m0.next+m.next:=fun c hc=>by
  rw[← hq]
  simp only[qOf,Nat.not_lt_zero,if_false]
  rw[if_neg (by omega)]
 rw[hq]at hs hi hx hv ⊢
 have h1:=Zsz h (m:=m.mem.less x) (q:=q) (K:=fun r m'=>r=v0.ren q∧m'={ m.mem.less x with next:=nx - m0.next+m.next })
  (fun c y hy=>by
    have hn:q c∉x:=hx _ (Ziz hy)
    exact⟨_,by simp only[Mem.less,if_neg hn]; exact hs.get c y hy,.inl rfl⟩)
  (fun c c' y y' hy hy'=>hi.get c c' y y' hy hy') (fun c hc=>hqn c hc)
  (fun r0 m1 hh=>by
    obtain⟨sm,rfl,rfl,rfl⟩:=hh
    refine⟨_,rfl,fun b y hb=>?_,rfl,rfl⟩
    rcases Classical.em (∃ c z,m0.mem.get c=some z∧q c=b)with⟨c,z,h2,h3⟩|hno
    ·refine .inl ⟨c,z,h2,h3.symm,?_⟩
     have e:=hs.get c z h2
     subst h3
     have hn:q c∉x:=hx _ (Ziz h2)
     simp only[Mem.less,if_neg hn]at hb
     have:m.get (q c)=some y:=hb
     rw[e]at this
     injection this with this
     exact this.symm
    ·exact .inr ⟨hb,fun c z h2 e=>hno ⟨c,z,h2,e⟩⟩) [n]
 refine⟨h1.1,fun W Φ ρ vs w hr hargs hav=>(h1.2 W Φ ρ vs w hr hargs hav).mono fun e w' he=>?_⟩
 obtain⟨u,r,m',Φ',ρ',e1,hE,hk,hr',hR,hn,rfl,rfl⟩:=he
 obtain⟨s,hs'⟩:∃ s:Nat→Nat,s=fun b=>if b<m.next then b else nx - m0.next+m.next:=⟨_,rfl⟩
 have hsn:∀ b l,ρ b=some l→s b=b:=fun b l hb=>by
  have:=hr.fresh b l hb
  rw[hs']
  exact if_pos this
 have hcut:∀ b l,ρ' (s b)=some l→(if b<m.next then ρ' b else none)=some l:=fun b l hb=>by
  have es:s b=if b<m.next then b else nx - m0.next+m.next:=by rw[hs']
  rw[es]at hb
  by_cases hbn:b<m.next
  ·rw[if_pos hbn]at hb ⊢; exact hb
  ·rw[if_neg hbn]at hb
   have:=hr'.fresh _ l hb
   exact absurd this (Nat.lt_irrefl _)
 have hRs:(v0.ren q).ren s=v0.ren q:=hv s
 refine⟨u,_,m.mem.less x,Φ',fun b=>if b<m.next then ρ' b else none,e1,⟨hE.pers,fun b l hb=>?_⟩,fun b hb hb2 h0=>?_,⟨hr'.base,hr'.pers,fun b y hy=>?_,fun b b' y y' l l' g1 g2 g3 g4=>?_,fun b l hb=>?_,hr'.newp⟩,?_,Nat.le_refl _,rfl,rfl⟩
 ·have hb':b<m.next:=hr.fresh b l hb
  show(if b<m.next then ρ' b else none)=some l
  rw[if_pos hb']
  exact hE.rho b l hb
 ·show(if b<m.next then ρ' b else none)=none
  split
  ·exact hk b hb hb2 h0
  ·rfl
 ·obtain⟨l0,o0,p1,p2,p3,p4,p5⟩:=hr.live b y hy
  obtain⟨l,o,q1,q2,q3,q4,q5⟩:=hr'.live b y hy
  have hbn:b<m.next:=hr.fresh b l0 p1
  refine⟨l,o,?_,q2,q3,q4,?_⟩
  ·show(if b<m.next then ρ' b else none)=some l
   rw[if_pos hbn]; exact q1
  ·have hy2:y.ren s=y:=p5.names hsn
   rw[← hy2]at q5
   exact BR.unren hcut q5
 ·have c1:ρ' b=some l:=by
   have g3':(if b<m.next then ρ' b else none)=some l:=g3
   split at g3'
   ·exact g3'
   ·cases g3'
  have c2:ρ' b'=some l':=by
   have g4':(if b'<m.next then ρ' b' else none)=some l':=g4
   split at g4'
   ·exact g4'
   ·cases g4'
  exact hr'.inj b b' y y' l l' g1 g2 c1 c2
 ·have hb':(if b<m.next then ρ' b else none)=some l:=hb
  split at hb'
  ·assumption
  ·cases hb'
 ·rw[← hRs]at hR
  exact R.unren hcut hR _ rfl
end Go.AE
end
section
namespace Go.AE
open Go.RowKit
variable {P:Program}
def E0 (v:AVal):Prop:=∀ (Φ:Pers) (ρ:Rho) (u:Value),R Φ ρ v u → ∀(Φ':Pers) (ρ':Rho),R Φ' ρ' (.imm []) u
theorem Z2q:E0 .nilSl:=fun Φ ρ u h Φ' ρ'=>by
 cases h
 exact .imm0 _ _ fun hp=>absurd hp (by omega)
theorem E0_sl (b off:Nat):E0 (.sl b off 0):=fun Φ ρ u h Φ' ρ'=>by
 cases h with
 | sl _ _ _ a cap l h hl hn hc ha=>exact .imm0 _ _ fun hp=>⟨_,_,hc hp⟩
theorem PCall.weak {g:FuncId} {args:List AVal} {v:AVal} (h:PCall P g args v) (hv:E0 v):PCall P g args (.imm []):=by
 intro m av
 refine⟨(h m av).1,fun W Φ ρ vs w hr ha hav=>((h m av).2 W Φ ρ vs w hr ha hav).mono fun e w' he=>?_⟩
 obtain⟨u,r,m',Φ',ρ',e1,hE,hk,hr',hR,hn,rfl,rfl⟩:=he
 exact⟨u,_,_,Φ',ρ',e1,hE,hk,hr',hv _ _ _ hR _ _,hn,rfl,rfl⟩
theorem Z1d {g:FuncId} {v1:AVal} (h1:PCall P g [.nilSl] v1) (hv1:E0 v1) (h2:Ctr P g [.sl 1 0 0] ⟨[],2⟩ fun r _=>E0 r):PCall P g [.imm []] (.imm []):=by
 intro m av
 refine⟨h2.1,fun W Φ ρ vs w hr ha hav=>?_⟩
 obtain⟨u,rfl⟩:∃ u,vs = #[u]:=by
  have hs:=ha.1
  obtain⟨l⟩:=vs
  match l,hs with
  | [u],_=>exact ⟨u,rfl⟩
 have hu:R Φ ρ (.imm []) u:=ha.2 0 _ _ rfl rfl
 have hz:∃ (a:Option Addr) (cap:Nat),u=.slice a 0 cap∧(0<cap → ∃ B o,a=some ⟨B,o,none⟩):=by
  cases hu with
  | imm0 a cap hz=>exact ⟨a,cap,rfl,hz⟩
  | imm _ B o k cap c f hne=>exact absurd rfl hne
 obtain⟨a,cap,rfl,hz⟩:=hz
 cases a with
 | none=>
  have hc:cap=0:=by
   rcases Nat.eq_zero_or_pos cap with h|h
   ·exact h
   ·obtain⟨_,_,h⟩:=hz h
    cases h
  subst hc
  refine((h1.weak hv1) m av).2 W Φ ρ #[.slice none 0 0] w hr ⟨rfl,fun i x v hx hv=>?_⟩ hav
  match i,hx,hv with
  | 0,hx,hv=>cases hx; cases hv; exact .nilSl
  | i+1,hx,hv=>simp at hx
 | some A=>
  refine(h2.2 ⟨w,fun _=>none,Φ⟩ Φ (fun b=>if b=1 then some ⟨A.block,A.off,1,A.off+cap⟩ else none) #[.slice (some A) 0 cap] w
   ⟨⟨Below.refl _ _,fun B o hB=>(by cases hB)⟩,hr.pers,fun b x hx=>(by cases hx),fun b b' x x' l l' h1=>(by cases h1),fun b l hb=>?_,fun B c hB=>.inl hB⟩
   ⟨rfl,fun i x v hx hv=>?_⟩ (fun b hb=>by simp at hb)).mono fun e w' he=>?_
  ·show b<2
   split at hb
   ·omega
   ·cases hb
  ·match i,hx,hv with
   | 0,hx,hv=>
    cases hx; cases hv
    refine .sl 1 0 0 _ cap ⟨A.block,A.off,1,A.off+cap⟩ rfl (Nat.zero_le _) (by simp) (fun hp=>?_) rfl
    obtain⟨B,o,h⟩:=hz hp
    injection h with h
    subst h
    simp
   | i+1,hx,hv=>simp at hx
  ·obtain⟨u,r,m',Φ',ρ',rfl,hE,hk,hr',hR,hn,sm,rfl,hE0⟩:=he
   exact⟨u,_,m,Φ,ρ,rfl,Ext.refl _ _,fun b _ _ h=>h,hr.below hr'.base.below,hE0 _ _ _ hR _ _,Nat.le_refl _,rfl,rfl⟩
end Go.AE
end
