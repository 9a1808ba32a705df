/- Part 31 of the proof: AeNj, AeNk, Pt. -/
import Derived.Test.YtilmpmlkndfbjaaGreatDoorI13
import Derived.Test.YtilmpmlkndfbjaaGreatDoorI30
set_option linter.all false
section
namespace Go.AE
open Go.RowKit
variable {P:Program}
theorem Zkk{q:Nat→Nat}{cs:List AVal}(h:∀ (i:Nat) (x:AVal),cs[i]? = some x→x.ren q=x):Q4 q cs=cs:=by
 apply List.ext_getElem?;intro i;rw[Zns,List.getElem?_map];cases a:cs[i]? with
 | none=>rfl
 | some x=>simp[h i x a]
theorem Zro{q:Nat→Nat}{els:List (List AVal)}(h:∀ (i:Nat) (row:List AVal) (j:Nat) (x:AVal),els[i]? = some row→row[j]? = some x→x.ren q=x):Z4 q els=els:=by
 apply List.ext_getElem?;intro i;rw[J3,List.getElem?_map];cases a:els[i]? with
 | none=>rfl
 | some row=>simp[Zkk fun j x b=>h i row j x a b]
theorem R.names{Φ:Pers}{ρ:Rho}{q:Nat→Nat}(g:∀ b l,ρ b=some l→q b=b){x:AVal}{v:Value}(h:R Φ ρ x v):x.ren q=x:=by
 induction h with
 | ptr b i j l h=>simp only[AVal.ren,g _ _ h]
 | iptr els i j B o k c f u w m _ e=>simp only[AVal.ren]; rw[Zro fun i row j x hi n=>e i row j x hi n]
 | sl b off len a cap l h E F m C=>simp only[AVal.ren,g _ _ h]
 | imm els B o k cap c f y s u w m _ e=>simp only[AVal.ren]; rw[Zro fun i row j x hi n=>e i row j x hi n]
 | map b l h=>simp only[AVal.ren,g _ _ h]
 | func fn A cs H G D m _ _ p r=>
  simp only[AVal.ren];rw[Zkk fun i x d=>p i x _ d (Array.getElem?_eq_getElem (by have:=(gS.1 d).1; omega)),Zkk fun i x d=>r i x _ d (Array.getElem?_eq_getElem (by have:=(gS.1 d).1; omega))]
 | yld b l h=>simp only[AVal.ren,g _ _ h]
 | iface t x v _ e=>simp only[AVal.ren,e]
 | agg cs vs z _ e=>
  simp only[AVal.ren];rw[Zkk fun i x d=>e i x _ d (Array.getElem?_eq_getElem (by have:=(gS.1 d).1; omega))]
 | tuple cs vs z _ e=>
  simp only[AVal.ren];rw[Zkk fun i x d=>e i x _ d (Array.getElem?_eq_getElem (by have:=(gS.1 d).1; omega))]
 | _=>rfl
theorem BR.names{Φ:Pers}{ρ:Rho}{q:Nat→Nat}(d:∀ b l,ρ b=some l→q b=b){x:ABlk}{l:Loc}{o:Obj}(h:BR Φ ρ x l o):x.ren q=x:=by
 cases h with
 | cells k els l c e D F E n C=>
  simp only[ABlk.ren];rw[Zro fun i row j x hi u=>by obtain⟨v,_,_,g⟩:=n.2 i row j x hi u; exact g.names d]
 | map p f l w G n=>
  simp only[ABlk.ren]
  congr 1
  apply List.ext_getElem?;intro i;rw[G8,List.getElem?_map];cases t:p[i]? with
  | none=>rfl
  | some z=>
   obtain⟨y,A,r,g,B⟩:=n i z t;simp[r.names d,g.names d]
 | siter s pos l=>rfl
 | miter0 a b c l=>rfl
 | miter m H a b c l h _=>simp only[ABlk.ren,Option.map,d _ _ h]
def EqRB(q:Nat→Nat):List (Nat×ABlk)→SMem→Prop
 | [],_=>True
 | (b,x) :: r,m=>m.get (q b)=some (x.ren q)∧EqRB q r m
theorem EqRB.get{q:Nat→Nat}:∀ {l:List (Nat×ABlk)} {m:SMem},EqRB q l m → ∀ c x,Z9 l c=some x→m.get (q c)=some (x.ren q)
 | [],_,_,c,x,h=>by simp[Z9]at h
 | (b,y) :: r,m,a,c,x,h=>by
  simp only[Z9]at h;split at h
  ·rename_i e; subst e; injection h with h; subst h; exact a.1
  ·exact a.2.get c x h
theorem Zfc{g:FuncId}{f args:List AVal}{m0 m:SMem}{v0:AVal}{nx n:Nat}{x:List Nat}{K:AVal→Option ABlk→Prop}(h:Ctr P g f m0 fun r sm=>r=v0∧sm=⟨m0.bl,nx⟩)(aa:m0.next≤nx)(l:List (Nat×Nat))(ha:Q4 (qOf l 0 m0.next m.next) f=args)
 (L:EqRB (qOf l 0 m0.next m.next) m0.bl m) (hi:InjK (qOf l 0 m0.next m.next) m0.bl) (hv:∀ s:Nat→Nat,(v0.ren (qOf l 0 m0.next m.next)).ren s=v0.ren (qOf l 0 m0.next m.next)) (N:∀ b,b∈M7 (qOf l 0 m0.next m.next) m0.bl→b∉x) (hK:K (v0.ren (qOf l 0 m0.next m.next)) none):DC P g args n x m K:=by
 subst ha;refine⟨_,none,?_,hK⟩;obtain⟨q,hq⟩:∃ q,qOf l 0 m0.next m.next=q:=⟨_,rfl⟩
 have J:∀ c,m0.next≤c→q c=c - m0.next+m.next:=fun c hc=>by
  rw[← hq];simp only[qOf,Nat.not_lt_zero,if_false];rw[if_neg (by omega)]
 rw[hq]at L hi N hv ⊢;have V:=Zrt h (m:=m.mem.less x) (q:=q) (K:=fun r m'=>r=v0.ren q∧m'={ m.mem.less x with next:=nx - m0.next+m.next })
  (fun c y A=>by
    have E:q c∉x:=N _ (Zje A);exact⟨_,by simp only[Mem.less,if_neg E]; exact L.get c y A,.inl rfl⟩)
  (fun c c' y S A O=>hi.get c c' y S A O) (fun c hc=>J c hc)
  (fun r0 m1 hh=>by
    obtain⟨sm,rfl,rfl,rfl⟩:=hh;refine⟨_,rfl,fun b y a=>?_,rfl,rfl⟩
    rcases Classical.em (∃ c z,m0.mem.get c=some z∧q c=b)with⟨c,z,B,X⟩|I
    ·refine .inl ⟨c,z,B,X.symm,?_⟩;have e:=L.get c z B;subst X;have E:q c∉x:=N _ (Zje B);simp only[Mem.less,if_neg E]at a;have:m.get (q c)=some y:=a;rw[e]at this;injection this with this
     exact this.symm
    ·exact .inr ⟨a,fun c z B e=>I ⟨c,z,B,e⟩⟩) [n]
 refine⟨V.1,fun W Φ ρ vs w C v G=>(V.2 W Φ ρ vs w C v G).mono fun e w' he=>?_⟩
 obtain⟨u,r,m',U,ρ',e1,Y,hk,d,Z,E,rfl,rfl⟩:=he;obtain⟨s,D⟩:∃ s:Nat→Nat,s=fun b=>if b<m.next then b else nx - m0.next+m.next:=⟨_,rfl⟩
 have M:∀ b l,ρ b=some l→s b=b:=fun b l a=>by
  have:=C.fresh b l a;rw[D];exact if_pos this
 have k:∀ b l,ρ' (s b)=some l→(if b<m.next then ρ' b else none)=some l:=fun b l a=>by
  have es:s b=if b<m.next then b else nx - m0.next+m.next:=by rw[D]
  rw[es]at a;by_cases j:b<m.next
  ·rw[if_pos j]at a ⊢; exact a
  ·rw[if_neg j]at a;have:=d.fresh _ l a;exact absurd this (Nat.lt_irrefl _)
 have F:(v0.ren q).ren s=v0.ren q:=hv s;refine⟨u,_,m.mem.less x,U,fun b=>if b<m.next then ρ' b else none,e1,⟨Y.pers,fun b l a=>?_⟩,fun b a H h0=>?_,⟨d.base,d.pers,fun b y A=>?_,fun b b' y S l l' g1 g2 g3 g4=>?_,fun b l a=>?_,d.newp⟩,?_,Nat.le_refl _,rfl,rfl⟩
 ·have i:b<m.next:=C.fresh b l a;show(if b<m.next then ρ' b else none)=some l
  rw[if_pos i];exact Y.rho b l a
 ·show(if b<m.next then ρ' b else none)=none
  split
  ·exact hk b a H h0
  ·rfl
 ·obtain⟨l0,o0,p1,p2,p3,p4,p5⟩:=C.live b y A;obtain⟨l,o,q1,q2,q3,q4,q5⟩:=d.live b y A;have j:b<m.next:=C.fresh b l0 p1;refine⟨l,o,?_,q2,q3,q4,?_⟩
  ·show(if b<m.next then ρ' b else none)=some l
   rw[if_pos j]; exact q1
  ·have Q:y.ren s=y:=p5.names M;rw[← Q]at q5;exact BR.unren k q5
 ·have c1:ρ' b=some l:=by
   have p:(if b<m.next then ρ' b else none)=some l:=g3
   split at p
   ·exact p
   ·cases p
  have c2:ρ' b'=some l':=by
   have t:(if b'<m.next then ρ' b' else none)=some l':=g4
   split at t
   ·exact t
   ·cases t
  exact d.inj b b' y S l l' g1 g2 c1 c2
 ·have i:(if b<m.next then ρ' b else none)=some l:=a
  split at i
  ·assumption
  ·cases i
 ·rw[← F]at Z;exact R.unren k Z _ rfl
end Go.AE
end
section
namespace Go.AE
open Go.RowKit
variable {P:Program}
def E0(v:AVal):Prop:=∀ (Φ:Pers) (ρ:Rho) (u:Value),R Φ ρ v u → ∀(Φ':Pers) (ρ':Rho),R Φ' ρ' (.imm []) u
theorem Zs2:E0 .nilSl:=fun Φ ρ u h b ρ'=>by
 cases h;exact .imm0 _ _ fun a=>absurd a (by omega)
theorem Z7s(b off:Nat):E0 (.sl b off 0):=fun Φ ρ u h e ρ'=>by
 cases h with
 | sl _ _ _ a cap l h g i c f=>exact .imm0 _ _ fun d=>⟨_,_,c d⟩
theorem PCall.weak{g:FuncId}{args:List AVal}{v:AVal}(h:PCall P g args v)(q:E0 v):PCall P g args (.imm []):=by
 intro m d;refine⟨(h m d).1,fun W Φ ρ vs w p k a=>((h m d).2 W Φ ρ vs w p k a).mono fun e w' l=>?_⟩
 obtain⟨u,r,s,c,ρ',f,i,n,b,j,o,rfl,rfl⟩:=l;exact⟨u,_,_,c,ρ',f,i,n,b,q _ _ _ j _ _,o,rfl,rfl⟩
theorem Z2h{g:FuncId}{v1:AVal}(q:PCall P g [.nilSl] v1)(E:E0 v1)(F:Ctr P g [.sl 1 0 0] ⟨[],2⟩ fun r _=>E0 r):PCall P g [.imm []] (.imm []):=by
 intro m H;refine⟨F.1,fun W Φ ρ vs w C G y=>?_⟩
 obtain⟨u,rfl⟩:∃ u,vs = #[u]:=by
  have M:=G.1;obtain⟨l⟩:=vs
  match l,M with
  | [u],_=>exact ⟨u,rfl⟩
 have N:R Φ ρ (.imm []) u:=G.2 0 _ _ rfl rfl;have n:∃ (a:Option Addr) (cap:Nat),u=.slice a 0 cap∧(0<cap → ∃ B o,a=some ⟨B,o,none⟩):=by
  cases N with
  | imm0 a cap n=>exact ⟨a,cap,rfl,n⟩
  | imm _ B o k cap c f z=>exact absurd rfl z
 obtain⟨a,cap,rfl,n⟩:=n;cases a with
 | none=>
  have J:cap=0:=by
   rcases Nat.eq_zero_or_pos cap with h|h
   ·exact h
   ·obtain⟨_,_,h⟩:=n h;cases h
  subst J;refine((q.weak E) m H).2 W Φ ρ #[.slice none 0 0] w C ⟨rfl,fun i x v d j=>?_⟩ y
  match i,d,j with
  | 0,d,j=>cases d; cases j; exact .nilSl
  | i+1,d,j=>simp at d
 | some A=>
  refine(F.2 ⟨w,fun _=>none,Φ⟩ Φ (fun b=>if b=1 then some ⟨A.block,A.off,1,A.off+cap⟩ else none) #[.slice (some A) 0 cap] w
   ⟨⟨Below.refl _ _,fun B o s=>(by cases s)⟩,C.pers,fun b x d=>(by cases d),fun b b' x Y l l' q=>(by cases q),fun b l p=>?_,fun B c s=>.inl s⟩
   ⟨rfl,fun i x v d j=>?_⟩ (fun b p=>by simp at p)).mono fun e w' K=>?_
  ·show b<2;split at p
   ·omega
   ·cases p
  ·match i,d,j with
   | 0,d,j=>
    cases d; cases j;refine .sl 1 0 0 _ cap ⟨A.block,A.off,1,A.off+cap⟩ rfl (Nat.zero_le _) (by simp) (fun L=>?_) rfl
    obtain⟨B,o,h⟩:=n L;injection h with h
    subst h;simp
   | i+1,d,j=>simp at d
  ·obtain⟨u,r,V,O,ρ',rfl,Q,S,D,I,U,X,rfl,t⟩:=K;exact⟨u,_,m,Φ,ρ,rfl,Ext.refl _ _,fun b _ _ h=>h,C.below D.base.below,t _ _ _ I _ _,Nat.le_refl _,rfl,rfl⟩
end Go.AE
end
section
namespace Go.Known
open Go.Plain
def W5(x:Int):List Int→Nat
 | []=>0
 | y :: r=>if x=y then 1 else if W5 x r=0 then 0 else W5 x r+1
theorem Ztn{x y:Int}:∀ {met:List Int},W5 x met≠0→W5 x (met++[y])=W5 x met
 | [],h=>absurd rfl h
 | z :: r,h=>by
  simp only[W5,List.cons_append]at h ⊢;split
  ·rfl
  ·rename_i b;rw[if_neg b]at h;have a:W5 x r≠0:=fun e=>h (by rw[if_pos e])
   rw[Ztn a]
theorem Zs3{x:Int}:∀ {met:List Int},W5 x met=0→W5 x (met++[x])=met.length+1
 | [],_=>by simp[W5]
 | z :: r,h=>by
  simp only[W5,List.cons_append]at h ⊢;by_cases a:x=z
  ·rw[if_pos a]at h; cases h
  ·rw[if_neg a]at h;have c:W5 x r=0:=by
    by_cases b:W5 x r=0
    ·exact b
    ·rw[if_neg b]at h; cases h
   rw[if_neg a,Zs3 c,if_neg (by omega),List.length_cons]
theorem Zx6{x:Int}:∀ {met:List Int},W5 x met≤met.length
 | []=>Nat.le_refl _
 | z :: r=>by
  have:=Zx6 (x:=x) (met:=r);simp only[W5,List.length_cons];split
  ·omega
  ·split<;>omega
def P2(met:List Int)(l:Lt):List Int:=if l.k=2∧W5 l.i met=0 then met++[l.i]else met
def renS(met:List Int)(l:Lt):Lt:=if l.k=2 then { l with i:=W5 l.i (P2 met l) } else l
def renG:List Int→List Lt→List Lt
 | _,[]=>[]
 | met,l :: r=>renS met l :: renG (P2 met l) r
def P1(ls:List Lt):List Lt:=renG [] ls
def W8(ls:List Lt)(i:Nat):List Int:=(ls.take i).foldl P2 []
theorem Zs6:∀ (met:List Int) (ls:List Lt),(renG met ls).length=ls.length
 | _,[]=>rfl
 | met,l :: r=>by simp only[renG,List.length_cons,Zs6 _ r]
theorem Zkw(ls:List Lt):(P1 ls).length=ls.length:=Zs6 _ _
theorem Zud:∀ (met:List Int) (ls:List Lt) (i:Nat),i<ls.length→at' (renG met ls) i=renS ((ls.take i).foldl P2 met) (at' ls i)
 | _,[],i,h=>by simp at h
 | met,l :: r,0,_=>rfl
 | met,l :: r,i+1,h=>by
  have:=Zud (P2 met l) r i (by simpa using h)
  simpa[renG,at',List.getD]using this
theorem Z1b{ls:List Lt}{i:Nat}(h:i<ls.length):at' (P1 ls) i=renS (W8 ls i) (at' ls i):=Zud _ _ _ h
theorem Zld{ls:List Lt}{i:Nat}(h:i<ls.length):W8 ls (i+1)=P2 (W8 ls i) (at' ls i):=by
 unfold W8;rw[List.take_add_one,gE h,Option.toList_some,List.foldl_append,at',List.getD,gE h];rfl
theorem Z4a(ls:List Lt)(i:Nat):(W8 ls i).length≤i:=by
 unfold W8;have:∀ (l:List Lt) (met:List Int),(l.foldl P2 met).length≤met.length+l.length:=by
  intro l
  induction l with
  | nil=>intro met; simp
  | cons a r b=>
   intro met;have c:=b (P2 met a);have d:(P2 met a).length≤met.length+1:=by unfold P2; split<;>simp
   simp only[List.foldl_cons,List.length_cons];omega
 have h:=this (ls.take i) [];simp only[List.length_nil,Nat.zero_add,List.length_take]at h;omega
def ltL(a b:Lt):Bool:=
 if a.k≠b.k then decide (a.k<b.k)else if a.g≠b.g then decide (a.g<b.g)else if a.r≠b.r then decide (a.r<b.r)else if a.i≠b.i then decide (a.i<b.i)
 else if a.o≠b.o then b.o else decide (a.s<b.s)
def H5:List Lt→List Lt→Bool
 | a :: r,b :: s=>if a=b then H5 r s else ltL a b
 | _,_=>false
theorem Z5q{a b:List Lt}{i:Nat}(c:i<a.length)(d:i<b.length)(h:at' a i=at' b i):H5 (a.drop i) (b.drop i)=H5 (a.drop (i+1)) (b.drop (i+1)):=by
 rw[List.drop_eq_getElem_cons c,List.drop_eq_getElem_cons d];have e:a[i]=b[i]:=by simpa[at',List.getD,c,d]using h
 simp only[H5,e,if_true]
theorem Yay{a b:List Lt}{i:Nat}(c:i<a.length)(d:i<b.length)(h:at' a i≠at' b i):H5 (a.drop i) (b.drop i)=ltL (at' a i) (at' b i):=by
 rw[List.drop_eq_getElem_cons c,List.drop_eq_getElem_cons d];have e:at' a i=a[i]:=by simp[at',List.getD,c]
 have f:at' b i=b[i]:=by simp[at',List.getD,d]
 rw[e,f]at h ⊢;simp only[H5,if_neg h]
theorem Yf1{a b:List Lt}{i:Nat}(c:a.length≤i):H5 (a.drop i) (b.drop i)=false:=by
 rw[List.drop_eq_nil_of_le c];rfl
def bkC(ls:List Lt)(i:Nat):Bool:=isP (at' ls.reverse i) && !down ls (ls.length - 1 - i)
def T5(ls:List Lt):List Lt:=match (List.range ls.length).find? (bkC ls)with
 | some i=>W6 i ls.reverse
 | none=>ls.reverse
theorem Yaj{p:Nat→Bool}{n i:Nat}(hi:i<n)(d:p i=true)(c:∀ j,j<i→p j=false):(List.range n).find? p=some i:=by
 rw[List.find?_eq_some_iff_append];refine⟨d,List.range i,(List.range' (i+1) (n - (i+1))),?_,fun a b=>?_⟩
 ·rw[List.range_eq_range',List.range_eq_range'];have e:n=i+(1+(n - (i+1))):=by omega
  conv=>lhs; rw[e]
  rw[← List.range'_append_1,← List.range'_append_1];simp[List.range'_one,Nat.add_comm]
 ·have:=c a (List.mem_range.1 b);simp[this]
theorem Zsu{ls:List Lt}{i:Nat}(hi:i<ls.length)(b:bkC ls i=true)(a:∀ j,j<i→bkC ls j=false):T5 ls=W6 i ls.reverse:=by
 unfold T5;rw[Yaj hi b a]
theorem D1(a:Nat)(ls:List Lt):(W6 a ls).length=ls.length:=by
 unfold W6;rw[List.length_append,List.length_drop,List.length_take];omega
theorem Zfq(ls:List Lt):(T5 ls).length=ls.length:=by
 unfold T5;split
 ·rw[D1,List.length_reverse]
 ·exact List.length_reverse
def Q0(l:List Lt)(i:Nat):List Lt:=P1 (W6 i l)
def Zd6(l:List Lt)(i:Nat)(z:Option (List Lt)):Option (List Lt):=
 if isP (at' l i)&&down l i then match z with
  | none=>some (Q0 l i)
  | some w=>if H5 (Q0 l i) w then some (Q0 l i)else some w
 else z
def H1(l:List Lt)(z:Option (List Lt)):Nat→Option (List Lt)
 | 0=>z
 | i+1=>Zd6 l i (H1 l z i)
def A1(ls:List Lt):Option (List Lt):=H1 (T5 ls) (H1 ls none ls.length) ls.length
def T1(ls:List Lt):List Lt:=(A1 ls).getD []
theorem Znp(l:List Lt)(i:Nat):(Q0 l i).length=l.length:=by unfold Q0; rw[Zkw,D1]
theorem Z9o{l:List Lt}{i n:Nat}{z:Option (List Lt)}(b:l.length=n)(c:∀ w,z=some w→w.length=n):∀ w,Zd6 l i z=some w→w.length=n:=by
 intro w a;unfold Zd6 at a;split at a
 ·cases z with
  | none=>cases a; rw[Znp,b]
  | some u=>
   simp only at a;split at a
   ·cases a; rw[Znp,b]
   ·cases a; exact c _ rfl
 ·exact c w a
theorem Zkc{l:List Lt}{n:Nat}{z:Option (List Lt)}(a:l.length=n)(b:∀ w,z=some w→w.length=n):∀ i w,H1 l z i=some w→w.length=n
 | 0,w,h=>b w h
 | i+1,w,h=>Z9o a (Zkc a b i) w h
theorem Zx0{l:List Lt}{i:Nat}{z:Option (List Lt)}(a:z≠none):Zd6 l i z≠none:=by
 unfold Zd6;cases z with
 | none=>exact absurd rfl a
 | some w=>
  simp only;split
  ·split<;>simp
  ·simp
theorem Zs7{l:List Lt}{z:Option (List Lt)}(a:z≠none):∀ i,H1 l z i≠none
 | 0=>a
 | i+1=>Zx0 (Zs7 a i)
end Go.Known
end
