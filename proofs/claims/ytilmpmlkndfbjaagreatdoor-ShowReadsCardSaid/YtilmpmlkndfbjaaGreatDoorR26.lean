/- Part 26 of the proof: AeNj, AeNk, Pt. -/
import Derived.Test.YtilmpmlkndfbjaaGreatDoorR13
import Derived.Test.YtilmpmlkndfbjaaGreatDoorR25
set_option linter.all false
section
namespace Go.AE
open Go.RowKit
variable {P:Program}
theorem Zig{q:Nat→Nat}{cs:List AVal}(h:∀ (i:Nat) (x:AVal),cs[i]? = some x→x.ren q=x):U7 q cs=cs:=by
 apply List.ext_getElem?;intro i;rw[Zko,List.getElem?_map];cases a:cs[i]? with
 | none=>rfl
 | some x=>simp[h i x a]
theorem Zpe{q:Nat→Nat}{els:List (List AVal)}(h:∀ (i:Nat) (row:List AVal) (j:Nat) (x:AVal),els[i]? = some row→row[j]? = some x→x.ren q=x):Z6 q els=els:=by
 apply List.ext_getElem?;intro i;rw[Zah,List.getElem?_map];cases a:els[i]? with
 | none=>rfl
 | some row=>simp[Zig fun j x b=>h i row j x a b]
theorem R.names{Φ:Pers}{ρ:Rho}{q:Nat→Nat}(g:∀ b l,ρ b=some l→q b=b){x:AVal}{v:Value}(h:R Φ ρ x v):x.ren q=x:=by
 induction h with
 | ptr b i j l h=>simp only[AVal.ren,g _ _ h]
 | iptr els i j B o k c f u w m _ e=>simp only[AVal.ren]; rw[Zpe fun i row j x hi n=>e i row j x hi n]
 | sl b off len a cap l h E F m C=>simp only[AVal.ren,g _ _ h]
 | imm els B o k cap c f y s u w m _ e=>simp only[AVal.ren]; rw[Zpe fun i row j x hi n=>e i row j x hi n]
 | map b l h=>simp only[AVal.ren,g _ _ h]
 | func fn A cs H G D m _ _ p r=>
  simp only[AVal.ren];rw[Zig fun i x d=>p i x _ d (Array.getElem?_eq_getElem (by have:=(gS.1 d).1; omega)),Zig fun i x d=>r i x _ d (Array.getElem?_eq_getElem (by have:=(gS.1 d).1; omega))]
 | yld b l h=>simp only[AVal.ren,g _ _ h]
 | iface t x v _ e=>simp only[AVal.ren,e]
 | agg cs vs z _ e=>
  simp only[AVal.ren];rw[Zig fun i x d=>e i x _ d (Array.getElem?_eq_getElem (by have:=(gS.1 d).1; omega))]
 | tuple cs vs z _ e=>
  simp only[AVal.ren];rw[Zig fun i x d=>e i x _ d (Array.getElem?_eq_getElem (by have:=(gS.1 d).1; omega))]
 | _=>rfl
theorem BR.names{Φ:Pers}{ρ:Rho}{q:Nat→Nat}(d:∀ b l,ρ b=some l→q b=b){x:ABlk}{l:Loc}{o:Obj}(h:BR Φ ρ x l o):x.ren q=x:=by
 cases h with
 | cells k els l c e C E D n B=>
  simp only[ABlk.ren];rw[Zpe fun i row j x hi u=>by obtain⟨v,_,_,g⟩:=n.2 i row j x hi u; exact g.names d]
 | map p f l en F n=>
  simp only[ABlk.ren]
  congr 1
  apply List.ext_getElem?;intro i;rw[renM,List.getElem?_map];cases t:p[i]? with
  | none=>rfl
  | some z=>
   obtain⟨y,w,r,g,A⟩:=n i z t;simp[r.names d,g.names d]
 | siter s pos l=>rfl
 | miter0 a b c l=>rfl
 | miter m G a b c l h _=>simp only[ABlk.ren,Option.map,d _ _ h]
def EqRB(q:Nat→Nat):List (Nat×ABlk)→SMem→Prop
 | [],_=>True
 | (b,x) :: r,m=>m.get (q b)=some (x.ren q)∧EqRB q r m
theorem EqRB.get{q:Nat→Nat}:∀ {l:List (Nat×ABlk)} {m:SMem},EqRB q l m → ∀ c x,Z7 l c=some x→m.get (q c)=some (x.ren q)
 | [],_,_,c,x,h=>by simp[Z7]at h
 | (b,y) :: r,m,a,c,x,h=>by
  simp only[Z7]at h;split at h
  ·rename_i e; subst e; injection h with h; subst h; exact a.1
  ·exact a.2.get c x h
theorem Zv2{g:FuncId}{args0 args:List AVal}{m0 m:SMem}{v0:AVal}{D n:Nat}{x:List Nat}{K:AVal→Option ABlk→Prop}(h:Ctr P g args0 m0 fun r sm=>r=v0∧sm=⟨m0.bl,D⟩)(aa:m0.next≤D)(l:List (Nat×Nat))(ha:U7 (qOf l 0 m0.next m.next) args0=args)
 (L:EqRB (qOf l 0 m0.next m.next) m0.bl m) (hi:InjK (qOf l 0 m0.next m.next) m0.bl) (hv:∀ s:Nat→Nat,(v0.ren (qOf l 0 m0.next m.next)).ren s=v0.ren (qOf l 0 m0.next m.next)) (N:∀ b,b∈M5 (qOf l 0 m0.next m.next) m0.bl→b∉x) (hK:K (v0.ren (qOf l 0 m0.next m.next)) none):DC P g args n x m K:=by
 subst ha;refine⟨_,none,?_,hK⟩;obtain⟨q,hq⟩:∃ q,qOf l 0 m0.next m.next=q:=⟨_,rfl⟩
 have J:∀ c,m0.next≤c→q c=c - m0.next+m.next:=fun c hc=>by
  rw[← hq];simp only[qOf,Nat.not_lt_zero,if_false];rw[if_neg (by omega)]
 rw[hq]at L hi N hv ⊢;have V:=Zo6 h (m:=m.mem.less x) (q:=q) (K:=fun r m'=>r=v0.ren q∧m'={ m.mem.less x with next:=D - m0.next+m.next })
  (fun c y v=>by
    have E:q c∉x:=N _ (Zj4 v);exact⟨_,by simp only[Mem.less,if_neg E]; exact L.get c y v,.inl rfl⟩)
  (fun c c' y S v O=>hi.get c c' y S v O) (fun c hc=>J c hc)
  (fun r0 m1 hh=>by
    obtain⟨sm,rfl,rfl,rfl⟩:=hh;refine⟨_,rfl,fun b y a=>?_,rfl,rfl⟩
    rcases Classical.em (∃ c z,m0.mem.get c=some z∧q c=b)with⟨c,z,A,X⟩|I
    ·refine .inl ⟨c,z,A,X.symm,?_⟩;have e:=L.get c z A;subst X;have E:q c∉x:=N _ (Zj4 A);simp only[Mem.less,if_neg E]at a;have:m.get (q c)=some y:=a;rw[e]at this;injection this with this
     exact this.symm
    ·exact .inr ⟨a,fun c z A e=>I ⟨c,z,A,e⟩⟩) [n]
 refine⟨V.1,fun W Φ ρ vs w B t G=>(V.2 W Φ ρ vs w B t G).mono fun e w' he=>?_⟩
 obtain⟨u,r,m',U,ρ',e1,Y,hk,d,Z,E,rfl,rfl⟩:=he;obtain⟨s,C⟩:∃ s:Nat→Nat,s=fun b=>if b<m.next then b else D - m0.next+m.next:=⟨_,rfl⟩
 have M:∀ b l,ρ b=some l→s b=b:=fun b l a=>by
  have:=B.fresh b l a;rw[C];exact if_pos this
 have j:∀ b l,ρ' (s b)=some l→(if b<m.next then ρ' b else none)=some l:=fun b l a=>by
  have es:s b=if b<m.next then b else D - m0.next+m.next:=by rw[C]
  rw[es]at a;by_cases i:b<m.next
  ·rw[if_pos i]at a ⊢; exact a
  ·rw[if_neg i]at a;have:=d.fresh _ l a;exact absurd this (Nat.lt_irrefl _)
 have F:(v0.ren q).ren s=v0.ren q:=hv s;refine⟨u,_,m.mem.less x,U,fun b=>if b<m.next then ρ' b else none,e1,⟨Y.pers,fun b l a=>?_⟩,fun b a H h0=>?_,⟨d.base,d.pers,fun b y v=>?_,fun b b' y S l l' g1 g2 g3 g4=>?_,fun b l a=>?_,d.newp⟩,?_,Nat.le_refl _,rfl,rfl⟩
 ·have f:b<m.next:=B.fresh b l a;show(if b<m.next then ρ' b else none)=some l
  rw[if_pos f];exact Y.rho b l a
 ·show(if b<m.next then ρ' b else none)=none
  split
  ·exact hk b a H h0
  ·rfl
 ·obtain⟨l0,o0,p1,p2,p3,p4,p5⟩:=B.live b y v;obtain⟨l,o,q1,q2,q3,q4,q5⟩:=d.live b y v;have i:b<m.next:=B.fresh b l0 p1;refine⟨l,o,?_,q2,q3,q4,?_⟩
  ·show(if b<m.next then ρ' b else none)=some l
   rw[if_pos i]; exact q1
  ·have Q:y.ren s=y:=p5.names M;rw[← Q]at q5;exact BR.unren j q5
 ·have c1:ρ' b=some l:=by
   have k:(if b<m.next then ρ' b else none)=some l:=g3
   split at k
   ·exact k
   ·cases k
  have c2:ρ' b'=some l':=by
   have p:(if b'<m.next then ρ' b' else none)=some l':=g4
   split at p
   ·exact p
   ·cases p
  exact d.inj b b' y S l l' g1 g2 c1 c2
 ·have f:(if b<m.next then ρ' b else none)=some l:=a
  split at f
  ·assumption
  ·cases f
 ·rw[← F]at Z;exact R.unren j Z _ rfl
end Go.AE
end
section
namespace Go.AE
open Go.RowKit
variable {P:Program}
def E0(v:AVal):Prop:=∀ (Φ:Pers) (ρ:Rho) (u:Value),R Φ ρ v u → ∀(Φ':Pers) (ρ':Rho),R Φ' ρ' (.imm []) u
theorem Ya7:E0 .nilSl:=fun Φ ρ u h b ρ'=>by
 cases h;exact .imm0 _ _ fun a=>absurd a (by omega)
end Go.AE
end
section
namespace Go.Known
open Go.Plain
def Y6(x:Int):List Int→Nat
 | []=>0
 | y :: r=>if x=y then 1 else if Y6 x r=0 then 0 else Y6 x r+1
theorem Zs5{x y:Int}:∀ {met:List Int},Y6 x met≠0→Y6 x (met++[y])=Y6 x met
 | [],h=>absurd rfl h
 | z :: r,h=>by
  simp only[Y6,List.cons_append]at h ⊢;split
  ·rfl
  ·rename_i b;rw[if_neg b]at h;have a:Y6 x r≠0:=fun e=>h (by rw[if_pos e])
   rw[Zs5 a]
theorem Zi2{x:Int}:∀ {met:List Int},Y6 x met=0→Y6 x (met++[x])=met.length+1
 | [],_=>by simp[Y6]
 | z :: r,h=>by
  simp only[Y6,List.cons_append]at h ⊢;by_cases a:x=z
  ·rw[if_pos a]at h; cases h
  ·rw[if_neg a]at h;have c:Y6 x r=0:=by
    by_cases b:Y6 x r=0
    ·exact b
    ·rw[if_neg b]at h; cases h
   rw[if_neg a,Zi2 c,if_neg (by omega),List.length_cons]
theorem Zmi{x:Int}:∀ {met:List Int},Y6 x met≤met.length
 | []=>Nat.le_refl _
 | z :: r=>by
  have:=Zmi (x:=x) (met:=r);simp only[Y6,List.length_cons];split
  ·omega
  ·split<;>omega
def O7(met:List Int)(l:Lt):List Int:=if l.k=2∧Y6 l.i met=0 then met++[l.i]else met
def renS(met:List Int)(l:Lt):Lt:=if l.k=2 then { l with i:=Y6 l.i (O7 met l) } else l
def renG:List Int→List Lt→List Lt
 | _,[]=>[]
 | met,l :: r=>renS met l :: renG (O7 met l) r
def X8(ls:List Lt):List Lt:=renG [] ls
def X9(ls:List Lt)(i:Nat):List Int:=(ls.take i).foldl O7 []
theorem Zx5:∀ (met:List Int) (ls:List Lt),(renG met ls).length=ls.length
 | _,[]=>rfl
 | met,l :: r=>by simp only[renG,List.length_cons,Zx5 _ r]
theorem Zfc(ls:List Lt):(X8 ls).length=ls.length:=Zx5 _ _
theorem Ztq:∀ (met:List Int) (ls:List Lt) (i:Nat),i<ls.length→at' (renG met ls) i=renS ((ls.take i).foldl O7 met) (at' ls i)
 | _,[],i,h=>by simp at h
 | met,l :: r,0,_=>rfl
 | met,l :: r,i+1,h=>by
  have:=Ztq (O7 met l) r i (by simpa using h)
  simpa[renG,at',List.getD]using this
theorem Zmy{ls:List Lt}{i:Nat}(h:i<ls.length):at' (X8 ls) i=renS (X9 ls i) (at' ls i):=Ztq _ _ _ h
theorem Zhv{ls:List Lt}{i:Nat}(h:i<ls.length):X9 ls (i+1)=O7 (X9 ls i) (at' ls i):=by
 unfold X9;rw[List.take_add_one,gE h,Option.toList_some,List.foldl_append,at',List.getD,gE h];rfl
theorem Zk7(ls:List Lt)(i:Nat):(X9 ls i).length≤i:=by
 unfold X9;have:∀ (l:List Lt) (met:List Int),(l.foldl O7 met).length≤met.length+l.length:=by
  intro l
  induction l with
  | nil=>intro met; simp
  | cons a r b=>
   intro met;have c:=b (O7 met a);have d:(O7 met a).length≤met.length+1:=by unfold O7; split<;>simp
   simp only[List.foldl_cons,List.length_cons];omega
 have h:=this (ls.take i) [];simp only[List.length_nil,Nat.zero_add,List.length_take]at h;omega
def ltL(a b:Lt):Bool:=
 if a.k≠b.k then decide (a.k<b.k)else if a.g≠b.g then decide (a.g<b.g)else if a.r≠b.r then decide (a.r<b.r)else if a.i≠b.i then decide (a.i<b.i)
 else if a.o≠b.o then b.o else decide (a.s<b.s)
def ltLs:List Lt→List Lt→Bool
 | a :: r,b :: s=>if a=b then ltLs r s else ltL a b
 | _,_=>false
def bkC(ls:List Lt)(i:Nat):Bool:=isP (at' ls.reverse i) && !down ls (ls.length - 1 - i)
theorem Zfz(a:Nat)(ls:List Lt):(B4 a ls).length=ls.length:=by
 unfold B4;rw[List.length_append,List.length_drop,List.length_take];omega
end Go.Known
end
