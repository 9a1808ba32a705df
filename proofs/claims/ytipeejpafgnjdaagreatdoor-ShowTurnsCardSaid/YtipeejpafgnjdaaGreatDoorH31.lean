/- Part 31 of the proof: AeNj, AeNk, Pt. -/
import Derived.Test.YtipeejpafgnjdaaGreatDoorH13
import Derived.Test.YtipeejpafgnjdaaGreatDoorH30
set_option linter.all false
section
namespace Go.AE
open Go.RowKit
variable {P:Program}
theorem Zjw{q:Nat→Nat}{cs:List AVal}(h:∀ (i:Nat) (x:AVal),cs[i]? = some x→x.ren q=x):Q0 q cs=cs:=by
 apply List.ext_getElem?;intro i;rw[Zj0,List.getElem?_map];cases hc:cs[i]? with
 | none=>rfl
 | some x=>simp[h i x hc]
theorem Zob{q:Nat→Nat}{els:List (List AVal)}(h:∀ (i:Nat) (row:List AVal) (j:Nat) (x:AVal),els[i]? = some row→row[j]? = some x→x.ren q=x):Z3 q els=els:=by
 apply List.ext_getElem?;intro i;rw[K7,List.getElem?_map];cases hc:els[i]? with
 | none=>rfl
 | some row=>simp[Zjw fun j x hj=>h i row j x hc hj]
theorem R.names{Φ:Pers}{ρ:Rho}{q:Nat→Nat}(hq:∀ b l,ρ b=some l→q b=b){x:AVal}{v:Value}(h:R Φ ρ x v):x.ren q=x:=by
 induction h with
 | ptr b i j l h=>simp only[AVal.ren,hq _ _ h]
 | iptr els i j B o k c f hB hk hc _ ih=>simp only[AVal.ren]; rw[Zob fun i row j x hi hj=>ih i row j x hi hj]
 | sl b off len a cap l h hl hn hc ha=>simp only[AVal.ren,hq _ _ h]
 | imm els B o k cap c f hne hcap hB hk hc _ ih=>simp only[AVal.ren]; rw[Zob fun i row j x hi hj=>ih i row j x hi hj]
 | map b l h=>simp only[AVal.ren,hq _ _ h]
 | func fn fs cs vf vc hf hc _ _ ih1 ih2=>
  simp only[AVal.ren];rw[Zjw fun i x hx=>ih1 i x _ hx (Array.getElem?_eq_getElem (by have:=(gS.1 hx).1; omega)),Zjw fun i x hx=>ih2 i x _ hx (Array.getElem?_eq_getElem (by have:=(gS.1 hx).1; omega))]
 | yld b l h=>simp only[AVal.ren,hq _ _ h]
 | iface t x v _ ih=>simp only[AVal.ren,ih]
 | agg cs vs hs _ ih=>
  simp only[AVal.ren];rw[Zjw fun i x hx=>ih i x _ hx (Array.getElem?_eq_getElem (by have:=(gS.1 hx).1; omega))]
 | tuple cs vs hs _ ih=>
  simp only[AVal.ren];rw[Zjw fun i x hx=>ih i x _ hx (Array.getElem?_eq_getElem (by have:=(gS.1 hx).1; omega))]
 | _=>rfl
theorem BR.names{Φ:Pers}{ρ:Rho}{q:Nat→Nat}(hq:∀ b l,ρ b=some l→q b=b){x:ABlk}{l:Loc}{o:Obj}(h:BR Φ ρ x l o):x.ren q=x:=by
 cases h with
 | cells k els l c e hk hn hl hr h1=>
  simp only[ABlk.ren];rw[Zob fun i row j x hi hj=>by obtain⟨v,_,_,g3⟩:=hr.2 i row j x hi hj; exact g3.names hq]
 | map es clock l en hs hr=>
  simp only[ABlk.ren]
  congr 1
  apply List.ext_getElem?;intro i;rw[F6,List.getElem?_map];cases hc:es[i]? with
  | none=>rfl
  | some z=>
   obtain⟨y,g1,g2,g3,g4⟩:=hr i z hc;simp[g2.names hq,g3.names hq]
 | siter s pos l=>rfl
 | miter0 a b c l=>rfl
 | miter m lm a b c l h _=>simp only[ABlk.ren,Option.map,hq _ _ h]
def EqRB(q:Nat→Nat):List (Nat×ABlk)→SMem→Prop
 | [],_=>True
 | (b,x) :: r,m=>m.get (q b)=some (x.ren q)∧EqRB q r m
theorem EqRB.get{q:Nat→Nat}:∀ {l:List (Nat×ABlk)} {m:SMem},EqRB q l m → ∀ c x,Z8 l c=some x→m.get (q c)=some (x.ren q)
 | [],_,_,c,x,h=>by simp[Z8]at h
 | (b,y) :: r,m,hs,c,x,h=>by
  simp only[Z8]at h;split at h
  ·rename_i e; subst e; injection h with h; subst h; exact hs.1
  ·exact hs.2.get c x h
theorem Zea{g:FuncId}{args0 args:List AVal}{m0 m:SMem}{v0:AVal}{nx n:Nat}{x:List Nat}{K:AVal→Option ABlk→Prop}(h:Ctr P g args0 m0 fun r sm=>r=v0∧sm=⟨m0.bl,nx⟩)(hnx:m0.next≤nx)(l:List (Nat×Nat))(ha:Q0 (qOf l 0 m0.next m.next) args0=args)
 (hs:EqRB (qOf l 0 m0.next m.next) m0.bl m) (hi:InjK (qOf l 0 m0.next m.next) m0.bl) (hv:∀ s:Nat→Nat,(v0.ren (qOf l 0 m0.next m.next)).ren s=v0.ren (qOf l 0 m0.next m.next)) (hx:∀ b,b∈M2 (qOf l 0 m0.next m.next) m0.bl→b∉x) (hK:K (v0.ren (qOf l 0 m0.next m.next)) none):DC P g args n x m K:=by
 subst ha;refine⟨_,none,?_,hK⟩;obtain⟨q,hq⟩:∃ q,qOf l 0 m0.next m.next=q:=⟨_,rfl⟩
 have hqn:∀ c,m0.next≤c→q c=c - m0.next+m.next:=fun c hc=>by
  rw[← hq];simp only[qOf,Nat.not_lt_zero,if_false];rw[if_neg (by omega)]
 rw[hq]at hs hi hx hv ⊢;have h1:=Zpq h (m:=m.mem.less x) (q:=q) (K:=fun r m'=>r=v0.ren q∧m'={ m.mem.less x with next:=nx - m0.next+m.next })
  (fun c y hy=>by
    have hn:q c∉x:=hx _ (Zh7 hy);exact⟨_,by simp only[Mem.less,if_neg hn]; exact hs.get c y hy,.inl rfl⟩)
  (fun c c' y y' hy hy'=>hi.get c c' y y' hy hy') (fun c hc=>hqn c hc)
  (fun r0 m1 hh=>by
    obtain⟨sm,rfl,rfl,rfl⟩:=hh;refine⟨_,rfl,fun b y hb=>?_,rfl,rfl⟩
    rcases Classical.em (∃ c z,m0.mem.get c=some z∧q c=b)with⟨c,z,h2,h3⟩|hno
    ·refine .inl ⟨c,z,h2,h3.symm,?_⟩;have e:=hs.get c z h2;subst h3;have hn:q c∉x:=hx _ (Zh7 h2);simp only[Mem.less,if_neg hn]at hb;have:m.get (q c)=some y:=hb;rw[e]at this;injection this with this
     exact this.symm
    ·exact .inr ⟨hb,fun c z h2 e=>hno ⟨c,z,h2,e⟩⟩) [n]
 refine⟨h1.1,fun W Φ ρ vs w hr hargs hav=>(h1.2 W Φ ρ vs w hr hargs hav).mono fun e w' he=>?_⟩
 obtain⟨u,r,m',Φ',ρ',e1,hE,hk,hr',hR,hn,rfl,rfl⟩:=he;obtain⟨s,hs'⟩:∃ s:Nat→Nat,s=fun b=>if b<m.next then b else nx - m0.next+m.next:=⟨_,rfl⟩
 have hsn:∀ b l,ρ b=some l→s b=b:=fun b l hb=>by
  have:=hr.fresh b l hb;rw[hs'];exact if_pos this
 have hcut:∀ b l,ρ' (s b)=some l→(if b<m.next then ρ' b else none)=some l:=fun b l hb=>by
  have es:s b=if b<m.next then b else nx - m0.next+m.next:=by rw[hs']
  rw[es]at hb;by_cases hbn:b<m.next
  ·rw[if_pos hbn]at hb ⊢; exact hb
  ·rw[if_neg hbn]at hb;have:=hr'.fresh _ l hb;exact absurd this (Nat.lt_irrefl _)
 have hRs:(v0.ren q).ren s=v0.ren q:=hv s;refine⟨u,_,m.mem.less x,Φ',fun b=>if b<m.next then ρ' b else none,e1,⟨hE.pers,fun b l hb=>?_⟩,fun b hb hb2 h0=>?_,⟨hr'.base,hr'.pers,fun b y hy=>?_,fun b b' y y' l l' g1 g2 g3 g4=>?_,fun b l hb=>?_,hr'.newp⟩,?_,Nat.le_refl _,rfl,rfl⟩
 ·have hb':b<m.next:=hr.fresh b l hb;show(if b<m.next then ρ' b else none)=some l
  rw[if_pos hb'];exact hE.rho b l hb
 ·show(if b<m.next then ρ' b else none)=none
  split
  ·exact hk b hb hb2 h0
  ·rfl
 ·obtain⟨l0,o0,p1,p2,p3,p4,p5⟩:=hr.live b y hy;obtain⟨l,o,q1,q2,q3,q4,q5⟩:=hr'.live b y hy;have hbn:b<m.next:=hr.fresh b l0 p1;refine⟨l,o,?_,q2,q3,q4,?_⟩
  ·show(if b<m.next then ρ' b else none)=some l
   rw[if_pos hbn]; exact q1
  ·have hy2:y.ren s=y:=p5.names hsn;rw[← hy2]at q5;exact BR.unren hcut q5
 ·have c1:ρ' b=some l:=by
   have g3':(if b<m.next then ρ' b else none)=some l:=g3
   split at g3'
   ·exact g3'
   ·cases g3'
  have c2:ρ' b'=some l':=by
   have g4':(if b'<m.next then ρ' b' else none)=some l':=g4
   split at g4'
   ·exact g4'
   ·cases g4'
  exact hr'.inj b b' y y' l l' g1 g2 c1 c2
 ·have hb':(if b<m.next then ρ' b else none)=some l:=hb
  split at hb'
  ·assumption
  ·cases hb'
 ·rw[← hRs]at hR;exact R.unren hcut hR _ rfl
end Go.AE
end
section
namespace Go.AE
open Go.RowKit
variable {P:Program}
def E0(v:AVal):Prop:=∀ (Φ:Pers) (ρ:Rho) (u:Value),R Φ ρ v u → ∀(Φ':Pers) (ρ':Rho),R Φ' ρ' (.imm []) u
theorem Zpk:E0 .nilSl:=fun Φ ρ u h Φ' ρ'=>by
 cases h;exact .imm0 _ _ fun hp=>absurd hp (by omega)
theorem Ych(b off:Nat):E0 (.sl b off 0):=fun Φ ρ u h Φ' ρ'=>by
 cases h with
 | sl _ _ _ a cap l h hl hn hc ha=>exact .imm0 _ _ fun hp=>⟨_,_,hc hp⟩
theorem PCall.weak{g:FuncId}{args:List AVal}{v:AVal}(h:PCall P g args v)(hv:E0 v):PCall P g args (.imm []):=by
 intro m av;refine⟨(h m av).1,fun W Φ ρ vs w hr ha hav=>((h m av).2 W Φ ρ vs w hr ha hav).mono fun e w' he=>?_⟩
 obtain⟨u,r,m',Φ',ρ',e1,hE,hk,hr',hR,hn,rfl,rfl⟩:=he;exact⟨u,_,_,Φ',ρ',e1,hE,hk,hr',hv _ _ _ hR _ _,hn,rfl,rfl⟩
theorem Ydc{g:FuncId}{v1:AVal}(h1:PCall P g [.nilSl] v1)(hv1:E0 v1)(h2:Ctr P g [.sl 1 0 0] ⟨[],2⟩ fun r _=>E0 r):PCall P g [.imm []] (.imm []):=by
 intro m av;refine⟨h2.1,fun W Φ ρ vs w hr ha hav=>?_⟩
 obtain⟨u,rfl⟩:∃ u,vs = #[u]:=by
  have hs:=ha.1;obtain⟨l⟩:=vs
  match l,hs with
  | [u],_=>exact ⟨u,rfl⟩
 have hu:R Φ ρ (.imm []) u:=ha.2 0 _ _ rfl rfl;have hz:∃ (a:Option Addr) (cap:Nat),u=.slice a 0 cap∧(0<cap → ∃ B o,a=some ⟨B,o,none⟩):=by
  cases hu with
  | imm0 a cap hz=>exact ⟨a,cap,rfl,hz⟩
  | imm _ B o k cap c f hne=>exact absurd rfl hne
 obtain⟨a,cap,rfl,hz⟩:=hz;cases a with
 | none=>
  have hc:cap=0:=by
   rcases Nat.eq_zero_or_pos cap with h|h
   ·exact h
   ·obtain⟨_,_,h⟩:=hz h;cases h
  subst hc;refine((h1.weak hv1) m av).2 W Φ ρ #[.slice none 0 0] w hr ⟨rfl,fun i x v hx hv=>?_⟩ hav
  match i,hx,hv with
  | 0,hx,hv=>cases hx; cases hv; exact .nilSl
  | i+1,hx,hv=>simp at hx
 | some A=>
  refine(h2.2 ⟨w,fun _=>none,Φ⟩ Φ (fun b=>if b=1 then some ⟨A.block,A.off,1,A.off+cap⟩ else none) #[.slice (some A) 0 cap] w
   ⟨⟨Below.refl _ _,fun B o hB=>(by cases hB)⟩,hr.pers,fun b x hx=>(by cases hx),fun b b' x x' l l' h1=>(by cases h1),fun b l hb=>?_,fun B c hB=>.inl hB⟩
   ⟨rfl,fun i x v hx hv=>?_⟩ (fun b hb=>by simp at hb)).mono fun e w' he=>?_
  ·show b<2;split at hb
   ·omega
   ·cases hb
  ·match i,hx,hv with
   | 0,hx,hv=>
    cases hx; cases hv;refine .sl 1 0 0 _ cap ⟨A.block,A.off,1,A.off+cap⟩ rfl (Nat.zero_le _) (by simp) (fun hp=>?_) rfl
    obtain⟨B,o,h⟩:=hz hp;injection h with h
    subst h;simp
   | i+1,hx,hv=>simp at hx
  ·obtain⟨u,r,m',Φ',ρ',rfl,hE,hk,hr',hR,hn,sm,rfl,hE0⟩:=he;exact⟨u,_,m,Φ,ρ,rfl,Ext.refl _ _,fun b _ _ h=>h,hr.below hr'.base.below,hE0 _ _ _ hR _ _,Nat.le_refl _,rfl,rfl⟩
end Go.AE
end
section
namespace Go.Known
open Go.Plain
def W5(x:Int):List Int→Nat
 | []=>0
 | y :: r=>if x=y then 1 else if W5 x r=0 then 0 else W5 x r+1
theorem Zuz{x y:Int}:∀ {met:List Int},W5 x met≠0→W5 x (met++[y])=W5 x met
 | [],h=>absurd rfl h
 | z :: r,h=>by
  simp only[W5,List.cons_append]at h ⊢;split
  ·rfl
  ·rename_i hz;rw[if_neg hz]at h;have hr:W5 x r≠0:=fun e=>h (by rw[if_pos e])
   rw[Zuz hr]
theorem Zps{x:Int}:∀ {met:List Int},W5 x met=0→W5 x (met++[x])=met.length+1
 | [],_=>by simp[W5]
 | z :: r,h=>by
  simp only[W5,List.cons_append]at h ⊢;by_cases hz:x=z
  ·rw[if_pos hz]at h; cases h
  ·rw[if_neg hz]at h;have hr:W5 x r=0:=by
    by_cases h0:W5 x r=0
    ·exact h0
    ·rw[if_neg h0]at h; cases h
   rw[if_neg hz,Zps hr,if_neg (by omega),List.length_cons]
theorem Zxm{x:Int}:∀ {met:List Int},W5 x met≤met.length
 | []=>Nat.le_refl _
 | z :: r=>by
  have:=Zxm (x:=x) (met:=r);simp only[W5,List.length_cons];split
  ·omega
  ·split<;>omega
def Q6(met:List Int)(l:Lt):List Int:=if l.k=2∧W5 l.i met=0 then met++[l.i]else met
def renS(met:List Int)(l:Lt):Lt:=if l.k=2 then { l with i:=W5 l.i (Q6 met l) } else l
def renG:List Int→List Lt→List Lt
 | _,[]=>[]
 | met,l :: r=>renS met l :: renG (Q6 met l) r
def O0(ls:List Lt):List Lt:=renG [] ls
def W7(ls:List Lt)(i:Nat):List Int:=(ls.take i).foldl Q6 []
theorem Zxh:∀ (met:List Int) (ls:List Lt),(renG met ls).length=ls.length
 | _,[]=>rfl
 | met,l :: r=>by simp only[renG,List.length_cons,Zxh _ r]
theorem Zj1(ls:List Lt):(O0 ls).length=ls.length:=Zxh _ _
theorem Zzd:∀ (met:List Int) (ls:List Lt) (i:Nat),i<ls.length→at' (renG met ls) i=renS ((ls.take i).foldl Q6 met) (at' ls i)
 | _,[],i,h=>by simp at h
 | met,l :: r,0,_=>rfl
 | met,l :: r,i+1,h=>by
  have:=Zzd (Q6 met l) r i (by simpa using h)
  simpa[renG,at',List.getD]using this
theorem Zvv{ls:List Lt}{i:Nat}(h:i<ls.length):at' (O0 ls) i=renS (W7 ls i) (at' ls i):=Zzd _ _ _ h
theorem Zke{ls:List Lt}{i:Nat}(h:i<ls.length):W7 ls (i+1)=Q6 (W7 ls i) (at' ls i):=by
 unfold W7;rw[List.take_add_one,gE h,Option.toList_some,List.foldl_append,at',List.getD,gE h];rfl
theorem Z3z(ls:List Lt)(i:Nat):(W7 ls i).length≤i:=by
 unfold W7;have:∀ (l:List Lt) (met:List Int),(l.foldl Q6 met).length≤met.length+l.length:=by
  intro l
  induction l with
  | nil=>intro met; simp
  | cons a r ih=>
   intro met;have h1:=ih (Q6 met a);have h2:(Q6 met a).length≤met.length+1:=by unfold Q6; split<;>simp
   simp only[List.foldl_cons,List.length_cons];omega
 have h:=this (ls.take i) [];simp only[List.length_nil,Nat.zero_add,List.length_take]at h;omega
def ltL(a b:Lt):Bool:=
 if a.k≠b.k then decide (a.k<b.k)else if a.g≠b.g then decide (a.g<b.g)else if a.r≠b.r then decide (a.r<b.r)else if a.i≠b.i then decide (a.i<b.i)
 else if a.o≠b.o then b.o else decide (a.s<b.s)
def J4:List Lt→List Lt→Bool
 | a :: r,b :: s=>if a=b then J4 r s else ltL a b
 | _,_=>false
theorem Yb6{a b:List Lt}{i:Nat}(ha:i<a.length)(hb:i<b.length)(h:at' a i=at' b i):J4 (a.drop i) (b.drop i)=J4 (a.drop (i+1)) (b.drop (i+1)):=by
 rw[List.drop_eq_getElem_cons ha,List.drop_eq_getElem_cons hb];have e:a[i]=b[i]:=by simpa[at',List.getD,ha,hb]using h
 simp only[J4,e,if_true]
theorem Ybb{a b:List Lt}{i:Nat}(ha:i<a.length)(hb:i<b.length)(h:at' a i≠at' b i):J4 (a.drop i) (b.drop i)=ltL (at' a i) (at' b i):=by
 rw[List.drop_eq_getElem_cons ha,List.drop_eq_getElem_cons hb];have e1:at' a i=a[i]:=by simp[at',List.getD,ha]
 have e2:at' b i=b[i]:=by simp[at',List.getD,hb]
 rw[e1,e2]at h ⊢;simp only[J4,if_neg h]
theorem Z01{a b:List Lt}{i:Nat}(ha:a.length≤i):J4 (a.drop i) (b.drop i)=false:=by
 rw[List.drop_eq_nil_of_le ha];rfl
def bkC(ls:List Lt)(i:Nat):Bool:=isP (at' ls.reverse i) && !down ls (ls.length - 1 - i)
def U4(ls:List Lt):List Lt:=match (List.range ls.length).find? (bkC ls)with
 | some i=>V5 i ls.reverse
 | none=>ls.reverse
theorem Yd4{p:Nat→Bool}{n i:Nat}(hi:i<n)(hp:p i=true)(hn:∀ j,j<i→p j=false):(List.range n).find? p=some i:=by
 rw[List.find?_eq_some_iff_append];refine⟨hp,List.range i,(List.range' (i+1) (n - (i+1))),?_,fun a ha=>?_⟩
 ·rw[List.range_eq_range',List.range_eq_range'];have e:n=i+(1+(n - (i+1))):=by omega
  conv=>lhs; rw[e]
  rw[← List.range'_append_1,← List.range'_append_1];simp[List.range'_one,Nat.add_comm]
 ·have:=hn a (List.mem_range.1 ha);simp[this]
theorem Zqs{ls:List Lt}{i:Nat}(hi:i<ls.length)(hp:bkC ls i=true)(hn:∀ j,j<i→bkC ls j=false):U4 ls=V5 i ls.reverse:=by
 unfold U4;rw[Yd4 hi hp hn]
theorem B1(a:Nat)(ls:List Lt):(V5 a ls).length=ls.length:=by
 unfold V5;rw[List.length_append,List.length_drop,List.length_take];omega
theorem Zhe(ls:List Lt):(U4 ls).length=ls.length:=by
 unfold U4;split
 ·rw[B1,List.length_reverse]
 ·exact List.length_reverse
def Q4(l:List Lt)(i:Nat):List Lt:=O0 (V5 i l)
def Zcj(l:List Lt)(i:Nat)(z:Option (List Lt)):Option (List Lt):=
 if isP (at' l i)&&down l i then match z with
  | none=>some (Q4 l i)
  | some w=>if J4 (Q4 l i) w then some (Q4 l i)else some w
 else z
def I1(l:List Lt)(z:Option (List Lt)):Nat→Option (List Lt)
 | 0=>z
 | i+1=>Zcj l i (I1 l z i)
def Za9(ls:List Lt):Option (List Lt):=I1 (U4 ls) (I1 ls none ls.length) ls.length
def I9(ls:List Lt):List Lt:=(Za9 ls).getD []
theorem Zna(l:List Lt)(i:Nat):(Q4 l i).length=l.length:=by unfold Q4; rw[Zj1,B1]
theorem Z8z{l:List Lt}{i n:Nat}{z:Option (List Lt)}(hl:l.length=n)(hz:∀ w,z=some w→w.length=n):∀ w,Zcj l i z=some w→w.length=n:=by
 intro w hw;unfold Zcj at hw;split at hw
 ·cases z with
  | none=>cases hw; rw[Zna,hl]
  | some u=>
   simp only at hw;split at hw
   ·cases hw; rw[Zna,hl]
   ·cases hw; exact hz _ rfl
 ·exact hz w hw
theorem Zrb{l:List Lt}{n:Nat}{z:Option (List Lt)}(hl:l.length=n)(hz:∀ w,z=some w→w.length=n):∀ i w,I1 l z i=some w→w.length=n
 | 0,w,h=>hz w h
 | i+1,w,h=>Z8z hl (Zrb hl hz i) w h
theorem Zzp{l:List Lt}{i:Nat}{z:Option (List Lt)}(hz:z≠none):Zcj l i z≠none:=by
 unfold Zcj;cases z with
 | none=>exact absurd rfl hz
 | some w=>
  simp only;split
  ·split<;>simp
  ·simp
theorem Zsw{l:List Lt}{z:Option (List Lt)}(hz:z≠none):∀ i,I1 l z i≠none
 | 0=>hz
 | i+1=>Zzp (Zsw hz i)
end Go.Known
end
