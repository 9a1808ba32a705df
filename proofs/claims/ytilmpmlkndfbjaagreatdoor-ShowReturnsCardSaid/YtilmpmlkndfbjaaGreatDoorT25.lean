/- Part 25 -/
import Derived.Test.YtilmpmlkndfbjaaGreatDoorT24
import Derived.Shelf.SlSortCmp.NoneTotal
set_option linter.all false
open List (ext_getElem? getD range getElem?_append getElem?_take getElem?_drop)
open Nat (mul_le_mul_right add_mul one_mul mod_lt ble)
open Array (getElem?_eq_getElem replicate)
namespace Go.AE
open Go.RowKit
section
variable {P:Program}
theorem XA{q:Nat->Nat}{cs:List Aa}(h:∀(i:Nat) (x:Aa),cs[i]?=some x->x.AM q=x):Q3 q cs=cs:=by
 apply ext_getElem?;intro i;rw[ZW,gM];grind
theorem mH{q:Nat->Nat}{els:List (List Aa)}(h:∀(i:Nat) (row:List Aa) (j:Nat) (x:Aa),els[i]?=some row->row[j]?=some x->x.AM q=x):Z3 q els=els:=by
 apply ext_getElem?;intro i;rw[J1,gM];cases a:els[i]? with
 |none=>rfl
 |some row=>simp[XA λj x b=>h i row j x a b]
theorem R.names{Φ:Ap}{ρ:AI}{q:Nat->Nat}(g:∀b l,ρ b=some l->q b=b){x:Aa}{v:Value}(h:R Φ ρ x v):x.AM q=x:=by
 induction h with
 |ptr b i j l h=>simp only[Aa.AM,g _ _ h]
 |Bc els i j B o k c f u w m _ d=>simp only[Aa.AM];rw[mH λi row j x hi n=>d i row j x hi n]
 |sl b off len a cap l h E F m C=>simp only[Aa.AM,g _ _ h]
 |Al els B o k cap c f y s u w m _ d=>simp only[Aa.AM];rw[mH λi row j x hi n=>d i row j x hi n]
 |map b l h=>simp only[Aa.AM,g _ _ h]
 |func fn A cs H G D m _ _ p r=>
  simp only[Aa.AM];rw[XA λi x e=>p i x _ e (getElem?_eq_getElem (by grind)),XA λi x e=>r i x _ e (getElem?_eq_getElem (by grind))]
 |Dt b l h=>simp only[Aa.AM,g _ _ h]
 |iface t x v _ d=>simp only[Aa.AM,d]
 |agg cs vs z _ d=>
  simp only[Aa.AM];rw[XA λi x e=>d i x _ e (getElem?_eq_getElem (by grind))]
 |tuple cs vs z _ d=>
  simp only[Aa.AM];rw[XA λi x e=>d i x _ e (getElem?_eq_getElem (by grind))]
 |_=>rfl
theorem BR.names{Φ:Ap}{ρ:AI}{q:Nat->Nat}(d:∀b l,ρ b=some l->q b=b){x:Af}{l:Loc}{o:Obj}(h:BR Φ ρ x l o):x.AM q=x:=by
 cases h with
 |cells k els l c e C E D n B=>
  simp only[Af.AM];rw[mH λi row j x hi u=>by obtain⟨v,_,_,g⟩:=n.2 i row j x hi u;exact g.names d]
 |map p f l en F n=>
  simp only[Af.AM]
  congr 1
  apply ext_getElem?;intro i;rw[C0,gM];cases t:p[i]? with
  |none=>rfl
  |some z=>
   obtain⟨y,w,r,g,A⟩:=n i z t;simp[r.names d,g.names d]
 |Cr s pos l=>rfl
 |Em a b c l=>rfl
 |Ce m G a b c l h _=>simp only[Af.AM,Option.map,d _ _ h]
def EO(q:Nat→Nat):List (Nat×Af)→Ac→Prop
 | [],_=>True
 | (b,x) :: r,m=>m.get (q b)=some (x.AM q)∧EO q r m
theorem EO.get{q:Nat->Nat}:∀{l:List (Nat×Af)}{m:Ac},EO q l m -> ∀c x,Z7 l c=some x->m.get (q c)=some (x.AM q)
 |[],_,_,c,x,h=>by simp[Z7]at h
 | (b,y)::r,m,a,c,x,h=>by
  simp only[Z7]at h;split at h
  ·rename_i e;subst e;injection h with h;subst h;exact a.1
  exact a.2.get c x h
theorem Pt{g:FuncId}{Bj args:List Aa}{m0 m:Ac}{v0:Aa}{nx n:Nat}{x:List Nat}{K:Aa->Option Af->Prop}(h:Bo P g Bj m0 λr V=>r=v0/\V=⟨m0.bl,nx⟩)(DB:m0.next<=nx)(l:List (Nat×Nat))(ha:Q3 (BC l 0 m0.next m.next) Bj=args)
 (D:EO (BC l 0 m0.next m.next) m0.bl m) (hi:CQ (BC l 0 m0.next m.next) m0.bl) (S:∀s:Nat->Nat,(v0.AM (BC l 0 m0.next m.next)).AM s=v0.AM (BC l 0 m0.next m.next)) (F:∀b,b∈I3 (BC l 0 m0.next m.next) m0.bl->b∉x) (hK:K (v0.AM (BC l 0 m0.next m.next)) none):DC P g args n x m K:=by
 subst ha;refine⟨_,none,?_,hK⟩;obtain⟨q,Q⟩:∃q,BC l 0 m0.next m.next=q:=⟨_,rfl⟩;have C:∀c,m0.next<=c->q c=c-m0.next+m.next:=λc O=>by
  rw[<-Q];simp only[BC,Nat.not_lt_zero,if_false];grind
 rw[Q]at D hi F S ⊢;have J:=qC h (m:=m.mem.less x) (q:=q) (K:=λr T=>r=v0.AM q/\T={ m.mem.less x with next:=nx-m0.next+m.next })
  (λc y k=>by
    have v:q c∉x:=F _ (Wa k);exact⟨_,by simp only[Mem.less,iN v];exact D.get c y k,.inl rfl⟩)
  (λc c' y I k G=>hi.get c c' y I k G) (λc O=>C c O)
  (λr0 m1 hh=>by
    obtain⟨V,rfl,rfl,rfl⟩:=hh;refine⟨_,rfl,λb y a=>?_,rfl,rfl⟩;rcases Classical.em (∃c z,m0.mem.get c=some z/\q c=b)with⟨c,z,B,L⟩|aa
    ·refine .inl ⟨c,z,B,L.symm,?_⟩;have e:=D.get c z B;subst L;have v:q c∉x:=F _ (Wa B);simp only[Mem.less,iN v]at a;have:m.get (q c)=some y:=a;rw[e]at this;injection this with this
     exact this.symm
    grind) [n]
 refine⟨J.1,λW Φ ρ vs w A j Y=>(J.2 W Φ ρ vs w A j Y).mono λe w' he=>?_⟩;obtain⟨u,r,T,X,ρ',e1,M,hk,d,N,v,rfl,rfl⟩:=he;obtain⟨s,t⟩:∃s:Nat->Nat,s=λb=>if b<m.next then b else nx-m0.next+m.next:=⟨_,rfl⟩
 have E:∀b l,ρ b=some l->s b=b:=λb l a=>by
  have:=A.fresh b l a;rw[t];exact iP this
 have i:∀b l,ρ' (s b)=some l->(if b<m.next then ρ' b else none)=some l:=λb l a=>by
  have es:s b=if b<m.next then b else nx-m0.next+m.next:=by rw[t]
  rw[es]at a;by_cases p:b<m.next
  ·grind
  rw[iN p]at a;have:=d.fresh _ l a;grind
 have gJ:(v0.AM q).AM s=v0.AM q:=S s;refine⟨u,_,m.mem.less x,X,λb=>if b<m.next then ρ' b else none,e1,⟨M.AX,λb l a=>?_⟩,λb a By h0=>?_,⟨d.base,d.AX,λb y k=>?_,λb b' y I l l' g1 g2 g3 g4=>?_,λb l a=>?_,d.BH⟩,?_,lR _,rfl,rfl⟩
 ·have f:b<m.next:=A.fresh b l a;show(if b<m.next then ρ' b else none)=some l;rw[iP f];exact M.CN b l a
 ·grind
 ·obtain⟨l0,o0,p1,p2,p3,p4,p5⟩:=A.live b y k;obtain⟨l,o,q1,q2,q3,q4,U⟩:=d.live b y k;have p:b<m.next:=by grind
  refine⟨l,o,?_,q2,q3,q4,?_⟩
  ·grind
  have H:y.AM s=y:=p5.names E;rw[<-H]at U;exact BR.BD i U
 ·have Z:ρ' b=some l:=by
   grind
  have c2:ρ' b'=some l':=by
   grind
  exact d.inj b b' y I l l' g1 g2 Z c2
 ·have f:(if b<m.next then ρ' b else none)=some l:=a;split at f
  ·assumption
  cases f
 rw[<-gJ]at N;exact R.BD i N _ rfl
end
variable {P:Program}
def E0(v:Aa):Prop:=∀ (Φ:Ap) (ρ:AI) (u:Value),R Φ ρ v u → ∀(Am:Ap) (ρ':AI),R Am ρ' (.Al []) u
theorem nI:E0 .Aj:=λΦ ρ u h b ρ'=>by
 cases h;exact .CA _ _ λa=>absurd a (by omega)
theorem Yh7(b off:Nat):E0 (.sl b off 0):=λΦ ρ u h e ρ'=>by
 cases h with
 |sl _ _ _ a cap l h g i c f=>exact .CA _ _ λd=>⟨_,_,c d⟩
theorem Au.weak{g:FuncId}{args:List Aa}{v:Aa}(h:Au P g args v)(q:E0 v):Au P g args (.Al []):=by
 intro m b;refine⟨(h m b).1,λW Φ ρ vs w p k d=>((h m b).2 W Φ ρ vs w p k d).mono λe w' l=>?_⟩;obtain⟨u,r,s,c,ρ',f,i,n,a,j,o,rfl,rfl⟩:=l;exact⟨u,_,_,c,ρ',f,i,n,a,q _ _ _ j _ _,o,rfl,rfl⟩
theorem Yan{g:FuncId}{v1:Aa}(q:Au P g [.Aj] v1)(G:E0 v1)(D:Bo P g [.sl 1 0 0] ⟨[],2⟩ λr _=>E0 r):Au P g [.Al []] (.Al []):=by
 intro m H;refine⟨D.1,λW Φ ρ vs w z E F=>?_⟩;obtain⟨u,rfl⟩:∃u,vs = #[u]:=by
  have M:=E.1;obtain⟨l⟩:=vs
  match l,M with
  |[u],_=>exact ⟨u,rfl⟩
 have N:R Φ ρ (.Al []) u:=E.2 0 _ _ rfl rfl;have n:∃(a:Option Addr) (cap:Nat),u=.slice a 0 cap/\(0<cap -> ∃B o,a=some ⟨B,o,none⟩):=by
  cases N with
  |CA a cap n=>exact ⟨a,cap,rfl,n⟩
  |Al _ B o k cap c f y=>exact absurd rfl y
 obtain⟨a,cap,rfl,n⟩:=n;cases a with
 |none=>
  have J:cap=0:=by
   rcases Nat.eq_zero_or_pos cap with h|h
   ·exact h
   obtain⟨_,_,h⟩:=n h;cases h
  subst J;refine((q.weak G) m H).2 W Φ ρ #[.slice none 0 0] w z ⟨rfl,λi x v d j=>?_⟩ F
  match i,d,j with
  |0,d,j=>cases d;cases j;exact .Aj
  |i+1,d,j=>simp at d
 |some A=>
  refine(D.2 ⟨w,λ_=>none,Φ⟩ Φ (λb=>if b=1 then some ⟨A.block,A.off,1,A.off+cap⟩ else none) #[.slice (some A) 0 cap] w
   ⟨⟨Below.refl _ _,λB o s=>(by cases s)⟩,z.AX,λb x d=>(by cases d),λb b' x X l l' q=>(by cases q),λb l p=>?_,λB c s=>.inl s⟩
   ⟨rfl,λi x v d j=>?_⟩ (λb p=>by simp at p)).mono λe w' K=>?_
  ·show b<2;split at p
   ·omega
   cases p
  ·match i,d,j with
   |0,d,j=>
    cases d;cases j;refine .sl 1 0 0 _ cap ⟨A.block,A.off,1,A.off+cap⟩ rfl (Nat.zero_le _) (by simp) (λL=>?_) rfl;obtain⟨B,o,h⟩:=n L;injection h with h
    subst h;simp
   |i+1,d,j=>simp at d
  obtain⟨u,r,U,O,ρ',rfl,Q,S,C,I,T,V,rfl,t⟩:=K;exact⟨u,_,m,Φ,ρ,rfl,Ext.refl _ _,λb _ _ h=>h,z.below C.base.below,t _ _ _ I _ _,lR _,rfl,rfl⟩
end Go.AE
namespace Go.Ad
open Go.Plain
def V0(x:Int):List Int→Nat
 | []=>0
 | y :: r=>if x=y then 1 else if V0 x r=0 then 0 else V0 x r+1
theorem xq{x y:Int}:∀{met:List Int},V0 x met≠0->V0 x (met++[y])=V0 x met
 |[],h=>absurd rfl h
 |z::r,h=>by
  simp only[V0,List.cons_append]at h ⊢;split
  ·rfl
  rename_i b;rw[iN b]at h;have a:V0 x r≠0:=λe=>h (by rw[iP e]);rw[xq a]
theorem Wi{x:Int}:∀{met:List Int},V0 x met=0->V0 x (met++[x])=met.length+1
 |[],_=>by simp[V0]
 |z::r,h=>by
  simp only[V0,List.cons_append]at h ⊢;by_cases a:x=z
  ·grind
  rw[iN a]at h;have b:V0 x r=0:=by
   grind
  rw[iN a,Wi b,iN (by omega),lC]
theorem Zwz{x:Int}:∀{met:List Int},V0 x met<=met.length
 |[]=>lR _
 |z::r=>by
  have:=Zwz (x:=x) (met:=r);simp only[V0,lC];grind
def M9(met:List Int)(l:Lt):List Int:=if l.k=2∧V0 l.i met=0 then met++[l.i]else met
def Ep(met:List Int)(l:Lt):Lt:=if l.k=2 then { l with i:=V0 l.i (M9 met l) } else l
def GW:List Int→List Lt→List Lt
 | _,[]=>[]
 | met,l :: r=>Ep met l :: GW (M9 met l) r
def X7(ls:List Lt):List Lt:=GW [] ls
def U3(ls:List Lt)(i:Nat):List Int:=(ls.take i).foldl M9 []
theorem w9:∀(met:List Int) (ls:List Lt),(GW met ls).length=ls.length
 |_,[]=>rfl
 |met,l::r=>by simp only[GW,lC,w9 _ r]
theorem Sy(ls:List Lt):(X7 ls).length=ls.length:=w9 _ _
theorem Zxj:∀(met:List Int) (ls:List Lt) (i:Nat),i<ls.length->at' (GW met ls) i=Ep ((ls.take i).foldl M9 met) (at' ls i)
 |_,[],i,h=>by simp at h
 |met,l::r,0,_=>rfl
 |met,l::r,i+1,h=>by
  have:=Zxj (M9 met l) r i (by simpa using h);simpa[GW,at',getD]using this
theorem eZ{ls:List Lt}{i:Nat}(h:i<ls.length):at' (X7 ls) i=Ep (U3 ls i) (at' ls i):=Zxj _ _ _ h
theorem UG{ls:List Lt}{i:Nat}(h:i<ls.length):U3 ls (i+1)=M9 (U3 ls i) (at' ls i):=by
 unfold U3;rw[List.take_add_one,gE h,Option.toList_some,List.foldl_append,at',getD,gE h];rfl
theorem Ybr(ls:List Lt)(i:Nat):(U3 ls i).length<=i:=by
 unfold U3;have:∀(l:List Lt) (met:List Int),(l.foldl M9 met).length<=met.length+l.length:=by
  intro l;induction l with
  |nil=>intro met;simp
  |cons a r b=>
   intro met;have c:=b (M9 met a);have d:(M9 met a).length<=met.length+1:=by unfold M9;split<;>simp
   simp only[List.foldl_cons,lC];omega
 grind
def Vt(a b:Lt):Bool:=
 if a.k≠b.k then decide (a.k<b.k)else if a.g≠b.g then decide (a.g<b.g)else if a.r≠b.r then decide (a.r<b.r)else if a.i≠b.i then decide (a.i<b.i)
 else if a.o≠b.o then b.o else decide (a.s<b.s)
def E9:List Lt→List Lt→Bool
 | a :: r,b :: s=>if a=b then E9 r s else Vt a b
 | _,_=>false
theorem Yhz{a b:List Lt}{i:Nat}(c:i<a.length)(d:i<b.length)(h:at' a i=at' b i):E9 (a.drop i) (b.drop i)=E9 (a.drop (i+1)) (b.drop (i+1)):=by
 rw[List.drop_eq_getElem_cons c,List.drop_eq_getElem_cons d];have e:a[i]=b[i]:=by simpa[at',getD,c,d]using h
 simp only[E9,e,if_true]
theorem Yhu{a b:List Lt}{i:Nat}(c:i<a.length)(d:i<b.length)(h:at' a i≠at' b i):E9 (a.drop i) (b.drop i)=Vt (at' a i) (at' b i):=by
 rw[List.drop_eq_getElem_cons c,List.drop_eq_getElem_cons d];have e:at' a i=a[i]:=by simp[at',getD,c]
 have f:at' b i=b[i]:=by simp[at',getD,d]
 rw[e,f]at h ⊢;simp only[E9,iN h]
theorem Yj4{a b:List Lt}{i:Nat}(c:a.length<=i):E9 (a.drop i) (b.drop i)=false:=by
 rw[List.drop_eq_nil_of_le c];rfl
def Is(ls:List Lt)(i:Nat):Bool:=As (at' ls.reverse i) && !down ls (ls.length - 1 - i)
def Q6(ls:List Lt):List Lt:=match (range ls.length).find? (Is ls)with
 | some i=>U2 i ls.reverse
 | none=>ls.reverse
theorem Yh5{p:Nat->Bool}{n i:Nat}(hi:i<n)(b:p i=true)(a:∀j,j<i->p j=false):(range n).find? p=some i:=by
 simp_all
theorem mV{ls:List Lt}{i:Nat}(hi:i<ls.length)(b:Is ls i=true)(a:∀j,j<i->Is ls j=false):Q6 ls=U2 i ls.reverse:=by
 unfold Q6;rw[Yh5 hi b a]
theorem A6(a:Nat)(ls:List Lt):(U2 a ls).length=ls.length:=by
 unfold U2;grind
theorem Qi(ls:List Lt):(Q6 ls).length=ls.length:=by
 unfold Q6;split
 ·rw[A6,List.length_reverse]
 grind
def M3(l:List Lt)(i:Nat):List Lt:=X7 (U2 i l)
def Ny(l:List Lt)(i:Nat)(z:Option (List Lt)):Option (List Lt):=
 if As (at' l i)&&down l i then match z with
  | none=>some (M3 l i)
  | some w=>if E9 (M3 l i) w then some (M3 l i)else some w
 else z
def D6(l:List Lt)(z:Option (List Lt)):Nat→Option (List Lt)
 | 0=>z
 | i+1=>Ny l i (D6 l z i)
def Il(ls:List Lt):Option (List Lt):=D6 (Q6 ls) (D6 ls none ls.length) ls.length
def R8(ls:List Lt):List Lt:=(Il ls).getD []
theorem aX(l:List Lt)(i:Nat):(M3 l i).length=l.length:=by unfold M3;rw[Sy,A6]
theorem Z70{l:List Lt}{i n:Nat}{z:Option (List Lt)}(b:l.length=n)(c:∀w,z=some w->w.length=n):∀w,Ny l i z=some w->w.length=n:=by
 intro w a;unfold Ny at a;split at a
 ·cases z with
  |none=>cases a;rw[aX,b]
  |some u=>
   simp only at a;split at a
   ·cases a;rw[aX,b]
   grind
 exact c w a
theorem VC{l:List Lt}{n:Nat}{z:Option (List Lt)}(a:l.length=n)(b:∀w,z=some w->w.length=n):∀i w,D6 l z i=some w->w.length=n
 |0,w,h=>b w h
 |i+1,w,h=>Z70 a (VC a b i) w h
theorem zh{l:List Lt}{i:Nat}{z:Option (List Lt)}(a:z≠none):Ny l i z≠none:=by
 unfold Ny;grind
theorem Zw8{l:List Lt}{z:Option (List Lt)}(a:z≠none):∀i,D6 l z i≠none
 |0=>a
 |i+1=>zh (Zw8 a i)
end Go.Ad
namespace Go.AE
open Go.RowKit Go.Sort Go.Shelf Go.Proofs
structure EP {α:Type} (enc:α→List Value) (DI:α→List Aa) (k:Nat):Prop where
 pos:0<k
 len:∀ x,(enc x).length=k
 PO:∀ x,(DI x).length=k
 one:∀ x,∀ v∈enc x,v.oneCell'=true
 rel:∀ (Φ:Ap) (ρ:AI) (x:α) (j:Nat) (y:Aa) (v:Value),(DI x)[j]? = some y→(enc x)[j]? = some v→R Φ ρ y v
 tH:∀ (Φ:Ap) (ρ:AI) (x:α) (j:Nat) (y:Aa) (v v':Value),(DI x)[j]? = some y→(enc x)[j]? = some v→R Φ ρ y v'→v'=v
theorem Yhn{W:Aq}{Φ:Ap}{ρ:AI}{m:Mem}{w:World}(h:Rel W Φ ρ m w)(n:Nat):Rel W Φ ρ m (Sort.ahead w n):=
 h.below ⟨rfl,rfl,rfl,lR _,λ_ _=>rfl⟩
theorem Ybb{W:Aq}{Φ:Ap}{ρ:AI}{m:Mem}{w:World}(h:Rel W Φ ρ m w)(os:Array Obj):Rel W Φ ρ m (Sort.grow w os):=
 h.below ⟨rfl,rfl,rfl,by simp,λk a=>by
  show(w.heap++os)[k]?=w.heap[k]?;rw[Array.getElem?_append,iP a]⟩
theorem Z80{w:World}{B:Nat}{f:Array Value->Array Value}{c:Array Value}{e:TypeId}{fr:Nat×Nat}(h:w.heap[B]?=some (.cells c e fr)):mapBlock w B f=M5 w B (.cells (f c) e fr):=by
 unfold mapBlock M5
 congr 1
 apply Array.ext_getElem?;intro i;simp only[Array.getElem?_modify,Array.getElem?_setIfInBounds];by_cases hi:B=i
 ·subst hi;simp only[if_true,h,Option.map_some,onCells];rw[iP (D9 h)]
 simp[hi]
section
variable {α:Type} [Inhabited α] {enc:α→List Value} {DI:α→List Aa} {k:Nat}
theorem Yk1(E:EP enc DI k)(a:Array α)(i j:Nat)(hi:i<a.size)(d:j<k):(flatK enc k a)[i*k+j]! = (enc a[i]!)[j]!:=by
 have lt:i*k+j<a.size*k:=by
  have:=mul_le_mul_right k (show i+1<=a.size from hi);rw[add_mul,one_mul]at this;omega
 have b:(i*k+j) / k=i:=(blk_iff k i _ E.pos).1 ⟨by omega,by omega⟩;have c:(i*k+j)%k=j:=by rw[Nat.mod_eq_sub_div_mul,b];omega
 rw[get_flatK _ _ _ _ lt,b,c]
theorem Z8z(E:EP enc DI k){W:Aq}{Φ:Ap}{ρ:AI}{m:Mem}{w:World}(h:Rel W Φ ρ m w){b off:Nat}{els:List (List Aa)}{l:Loc}(L:m.get b=some (.cells k els))(M:ρ b=some l)(a:Array α)(hd:off+a.size<=els.length)(n:Nat)(os:Array Obj) :
 Rel W Φ ρ (m.set b (.cells k (els.take off++a.toList.map DI++els.drop (off+a.size)))) (sortWorldK enc k w l.blk ((l.sh+off)*k) n a os):=by
 unfold sortWorldK;refine Ybb ?_ os;obtain⟨l',o,D,g2,g3,Q,S⟩:=h.live b _ L;rw[M]at D;injection D with D;subst D
 cases S with
 |cells _ _ _ c e X N Y f T=>
  have I:(Sort.ahead w n).heap[l.blk]?=some (.cells c e (0,0)):=Q;unfold putRowK putRow;rw[Z80 I];refine pS (Yhn h n) L M ?_;have B:(putCells id ((l.sh+off)*k) (flatK enc k a) c).size=c.size:=by simp[putCells]
  have p:∀t,t<c.size->(putCells id ((l.sh+off)*k) (flatK enc k a) c)[t]?=some (if (l.sh+off)*k<=t/\t<(l.sh+off)*k+a.size*k then (flatK enc k a)[t-(l.sh+off)*k]! else c[t]!):=by
   intro t G;simp only[putCells,Array.getElem?_mapIdx,size_flatK,id];rw[getElem?_eq_getElem G];simp[G]
  refine .cells k _ l _ e X (by rw[B];exact N) ?_ ⟨λi row hi=>?_,λi row j y hi F=>?_⟩ λv hv=>?_
  ·simp;omega
  ·rw[List.append_assoc,getElem?_append]at hi;split at hi
   ·exact f.1 i row (by rw[getElem?_take]at hi;split at hi;exact hi;cases hi)
   rw[getElem?_append]at hi;split at hi
   ·rw[gM]at hi;cases H:a.toList[i-(els.take off).length]? with
    |none=>rw[H]at hi;cases hi
    |some x=>rw[H]at hi;injection hi with hi;rw[<-hi];exact E.PO x
   rw[getElem?_drop]at hi;exact f.1 _ row hi
  ·have C:(els.take off).length=off:=by simp;omega
   have z:(a.toList.map DI).length=a.size:=by simp
   have keep:els[i]?=some row->(i<off\/off+a.size<=i) -> ∃v,(putCells id ((l.sh+off)*k) (flatK enc k a) c)[(l.sh+i)*k+j]?=some v/\v.oneCell'=true/\R Φ ρ y v:=by
    intro u A;obtain⟨v,O,k2,k3⟩:=f.2 i row j y u F;have q:j<k:=by rw[<-f.1 i row u];exact(gS.1 F).1
    have d:(l.sh+i)*k+j<c.size:=(Array.getElem?_eq_some_iff.1 O).1;refine⟨v,?_,k2,k3⟩;rw[p _ d,iN,<-O,getElem?_eq_getElem d,getElem!_pos c _ d];rintro⟨q1,q2⟩;rcases A with Z|Z
    ·have:=mul_le_mul_right k (show l.sh+i+1<=l.sh+off by omega);rw[add_mul,one_mul]at this;omega
    have:=mul_le_mul_right k (show l.sh+off+a.size<=l.sh+i by omega);rw[add_mul]at this;omega
   rw[List.append_assoc,getElem?_append]at hi;split at hi
   ·rename_i d;rw[C]at d;exact keep (by rw[getElem?_take,iP d]at hi;exact hi) (.inl d)
   rename_i J;rw[C]at J hi;rw[getElem?_append]at hi;split at hi
   ·rename_i d;rw[z]at d;rw[gM]at hi;have H:a.toList[i-off]?=some a[i-off]!:=by
     rw[gE (by simpa using d),getElem!_pos a _ d];simp
    rw[H]at hi;injection hi with hi
    subst hi;have q:j<k:=by rw[<-E.PO a[i-off]!];exact(gS.1 F).1
    have U:(l.sh+i)*k+j<c.size:=by
     rw[N];have:=mul_le_mul_right k (show l.sh+i+1<=l.n by omega);rw[add_mul,one_mul]at this;omega
    have e0:(l.sh+i)*k=(l.sh+off)*k+(i-off)*k:=by rw[<-add_mul];congr 1;omega
    have V:(i-off)*k+k<=a.size*k:=by
     have:=mul_le_mul_right k (show (i-off)+1<=a.size by omega);rwa[add_mul,one_mul]at this
    have r:(enc a[i-off]!)[j]?=some (enc a[i-off]!)[j]!:=by
     have:j<(enc a[i-off]!).length:=by rw[E.len];exact q
     rw[gE this,getElem!_pos _ j this]
    refine⟨(enc a[i-off]!)[j]!,?_,?_,E.rel Φ ρ _ j y _ F r⟩
    ·rw[p _ U,iP ⟨by omega,by omega⟩]
     congr 1
     rw[show (l.sh+i)*k+j-(l.sh+off)*k=(i-off)*k+j by omega];exact Yk1 E a (i-off) j d q
    exact E.one _ _ (List.mem_of_getElem? r)
   rename_i s;rw[z]at s hi;rw[getElem?_drop]at hi;have P:off+a.size+(i-off-a.size)=i:=by omega
   rw[P]at hi;exact keep hi (.inr (by omega))
  obtain⟨t,G,rfl⟩:=List.getElem_of_mem hv;have g:t<c.size:=by simpa[putCells]using G
  have:=p t g;rw[getElem?_eq_getElem (by rw[B];exact g)]at this;injection this with this
  rw[Array.getElem_toList,this];split
  ·rename_i hc;have d:t-(l.sh+off)*k<a.size*k:=by omega
   rw[get_flatK _ _ _ _ d];have hm:(t-(l.sh+off)*k)%k<(enc a[(t-(l.sh+off)*k) / k]!).length:=by rw[E.len];exact mod_lt _ E.pos
   have K:(enc a[(t-(l.sh+off)*k) / k]!)[(t-(l.sh+off)*k)%k]! = (enc a[(t-(l.sh+off)*k) / k]!)[(t-(l.sh+off)*k)%k]:=getElem!_pos (enc a[(t-(l.sh+off)*k) / k]!) _ hm;rw[K];exact E.one _ _ (List.getElem_mem hm)
  rw[getElem!_pos c t g];exact T _ (Array.getElem_mem_toList g)
theorem Yby(E:EP enc DI k){W:Aq}{Φ:Ap}{ρ:AI}{m:Mem}{w:World}(h:Rel W Φ ρ m w){b off:Nat}{els:List (List Aa)}{l:Loc}(z:m.get b=some (.cells k els))(A:ρ b=some l)(d:Array α)
 (y:∀i,i<d.size->els[off+i]?=some (DI d[i]!)):HoldsK enc k w l.blk ((l.sh+off)*k) d/\l.blk<w.heap.size:=by
 obtain⟨l',o,g,H,I,j,u⟩:=h.live b _ z;rw[A]at g;injection g with g;subst g
 refine⟨?_,D9 j⟩;cases u with
 |cells _ _ _ c e K L B a J=>
  intro t p;rw[size_flatK]at p;have C:t / k<d.size:=Nat.div_lt_of_lt_mul (by rw[Nat.mul_comm];exact p);have s:t%k<k:=mod_lt _ E.pos;have q:t%k<(DI d[t / k]!).length:=by rw[E.PO];exact s
  have r:t%k<(enc d[t / k]!).length:=by rw[E.len];exact s
  obtain⟨v,F,M,G⟩:=a.2 (off+t / k) _ (t%k) _ (y _ C) (gE q);have D:=E.tH Φ ρ d[t / k]! (t%k) _ _ v (gE q) (gE r) G;have f:(l.sh+off)*k+t=(l.sh+(off+t / k))*k+t%k:=by
   have:=Nat.div_add_mod t k;rw[Nat.mul_comm]at this;rw[<-Nat.add_assoc,add_mul (l.sh+off)];omega
  refine⟨?_,?_⟩
  ·simp only[World.cell?,j,Option.isSome_none,bF,if_false,id];have n:(enc d[t / k]!)[t%k]! = (enc d[t / k]!)[t%k]:=getElem!_pos (enc d[t / k]!) _ r;rw[f,F,D,get_flatK _ _ _ _ p,n]
  simp[World.frozen?,j]
variable {P:Program} {rn:Ren}
theorem Ydt(L:SlLaysF0.n6 P rn)(hb:Vl P (rn.f 6))(aE:∀w,(isAgg (rn.t 24)).run P w=.ok true w)(zE:∀w,(Go.sizeOf (rn.t 24)).run P w=.ok k w)(E:EP enc DI k)(G:α->α->Int)(hO:SWO (Go.Proofs.ltOf G))(g:Nat)
 (eg:∀args w,(callFunc g args).run P w=.ok (.enter g args) w) {m:Mem}{b off:Nat}{els:List (List Aa)}{cb:List Aa}(M:m.get b=some (.cells k els)) (d:List α) (K:d≠[]) (hd:(els.drop off).take d.length=d.map DI) (af:d.length<=1000000)
 (hc:∀(W:Aq) (Φ:Ap) (ρ:AI) (F:Array Value) (x:Af) (w:World),Rel W Φ ρ (m.set b x) w->RL Φ ρ cb F -> ∀x y:α,
   Calls P g (#[.agg (enc x).toArray,.agg (enc y).toArray]++F) w λe w'=>e=.returned (.int .i64 (G x y)) /\ ∃q os,w'=Sort.grow (w.drewN q) os) :
 Aw P (rn.f 6) [.sl b off d.length,.func (.func g) [] cb] m [] λr m'=>r=Ai /\ ∃p:List α,p.Perm d/\(∀i j,i<j->j<p.length->Go.Proofs.ltOf G p[j]! p[i]! = false) /\
  m'=m.set b (.cells k (els.take off++p.map DI++els.drop (off+d.length))):=by
 refine⟨hb,λW Φ ρ vs w T J BE=>?_⟩;obtain⟨v1,Y,rfl⟩:∃v1 Y,vs = #[v1,Y]:=by
  have V:vs.size=2:=by simpa using J.1
  refine⟨vs[0],vs[1],?_⟩;apply Array.ext
  ·simp[V]
  intro i I h2;have:i=0\/i=1:=by omega
  rcases this with rfl|rfl<;>rfl
 have r1:=J.2 0 _ v1 rfl rfl;have r2:=J.2 1 _ Y rfl rfl;have ab:0<d.length:=List.length_pos_iff.2 K;have C:∀i,i<d.toArray.size->els[off+i]?=some (DI d.toArray[i]!):=by
  intro i hi;have z:i<d.length:=by simpa using hi
  have I:((els.drop off).take d.length)[i]?=(d.map DI)[i]?:=by rw[hd]
  rw[getElem?_take,iP z,getElem?_drop,gM,gE z]at I;rw[I];simp[z]
 have D:off+d.length<=els.length:=by
  have:=C (d.length-1) (by simp;omega);have:=(gS.1 this).1;omega
 cases r1 with
 |sl _ _ _ a cap l Q ad ae B aa=>
  have ea:=B (by omega);subst ea;cases r2 with
  |func _ _ _ vf F hf Vr ac CG=>
   have X:vf = #[]:=Array.size_eq_zero_iff.1 (by simpa using hf);subst X;have S:l.k=k:=by
    obtain⟨l',o,H,g2,g3,g4,g5⟩:=T.live b _ M;rw[Q]at H;injection H with H;subst H
    cases g5 with
    |cells _ _ _ c e hk hn D U I=>exact hk
   obtain⟨hH,A⟩:=Yby E T M Q d.toArray C;have hS:∀(v:Array α),v.size=d.length -> ∀n os,Rel W Φ ρ (m.set b (.cells k (els.take off++v.toList.map DI++els.drop (off+d.length)))) (sortWorldK enc k w l.blk ((l.sh+off)*k) n v os):=by
    intro v s n os;have:=Z8z E T M Q v (off:=off) (by rw[s];exact D) n os;rw[s]at this;exact this
   have Z:=Go.Proofs.AnyQ.slices_SortFunc L k aE zE enc E.len E.one G hO g F l.blk ((l.sh+off)*k) cap d.toArray w eg
    (λmm os v s x y=>hc W Φ ρ F _ _ (hS v (by simpa using s) mm os) ⟨Vr,CG⟩ x y) hH A (by simp;omega)
   rw[S];rw[show d.toArray.size=d.length by simp]at Z;refine Z.mono ?_;rintro e w' ⟨rfl,p,n,os,hp,V,rfl⟩;have u:p.size=d.length:=by rw[hp.1];simp
   refine⟨_,Ai,_,Φ,ρ,rfl,.refl _ _,λ_ _ _ h=>h,hS p u n os,MI _ _,lR _,rfl,p.toList,?_,?_,rfl⟩
   ·have:=hp.2.2;have e1:p.extract 0 d.length=p:=by rw[<-u];exact Array.extract_size
    have e2:d.toArray.extract 0 d.length=d.toArray:=by
     have:d.length=d.toArray.size:=by simp
     rw[this];exact Array.extract_size
    rw[e1,e2]at this;simpa using this
   intro i j N hj;have O:j<p.size:=by simpa using hj
   have:=V i j (Nat.zero_le _) N (by omega);rw[getElem!_pos p j O,getElem!_pos p i (by omega)]at this;rw[getElem!_pos _ j hj,getElem!_pos _ i (by omega)];simpa using this
end
def Tt(get:Nat→Option Af)(S:List Nat):Af→Af
 | .cells k els=>.cells k (C5 get S els)
 | x=>x
def Iv(get:Nat→Option Af)(S:List Nat):List (Nat×Af)→List (Nat×Af)
 | []=>[]
 | (b,x) :: r=>(b,Tt get S x) :: Iv get S r
theorem eY{get:Nat->Option Af}{S:List Nat}{b:Nat}{x:Af}:∀{l:List (Nat×Af)},Z7 (Iv get S l) b=some x -> ∃y,Z7 l b=some y/\x=Tt get S y
 |[],h=>by simp[Iv,Z7]at h
 | (c,y)::r,h=>by
  simp only[Iv,Z7]at h ⊢;split at h
  ·rename_i e;injection h with h
   exact⟨y,by rw[iP e],h.symm⟩
  rename_i e;obtain⟨z,a,d⟩:=eY h;exact⟨z,by rw[iN e];exact a,d⟩
def Tu(get:Nat→Option Af)(S:List Nat):Nat→Aa→Aa
 | 0,x=>x
 | n+1,x=>match x with
  | .agg cs=>.agg (cs.map (Tu get S n))
  | .tuple cs=>.tuple (cs.map (Tu get S n))
  | x=>DP get S x
theorem Zzk{Φ Bs:Ap}{ρ:AI}{get:Nat->Option Af}{S:List Nat}(f:Ext Φ ρ Bs ρ)(g:∀x v,R Φ ρ x v->R Bs ρ (DP get S x) v):∀(n:Nat) (x:Aa) (v:Value),R Φ ρ x v->R Bs ρ (Tu get S n x) v
 |0,x,v,h=>h.ext f
 |n+1,x,v,h=>by
  have a:∀(cs:List Aa) (vs:Array Value),(∀(i:Nat) (x:Aa) (v:Value),cs[i]?=some x->vs[i]?=some v->R Φ ρ x v) -> ∀(i:Nat) (x:Aa) (v:Value),(cs.map (Tu get S n))[i]?=some x->vs[i]?=some v->R Bs ρ x v:=by
   intro cs vs c i x v b j;rw[gM]at b;cases d:cs[i]? with
   |none=>rw[d]at b;cases b
   |some y=>
    rw[d]at b;injection b with b
    rw[<-b];exact Zzk f g n y v (c i y v d j)
  unfold Tu;split
  ·cases h with
   |agg cs vs e c=>exact .agg _ vs (by rw[lM];exact e) (a _ vs c)
  ·cases h with
   |tuple cs vs e c=>exact .tuple _ vs (by rw[lM];exact e) (a _ vs c)
  exact g _ _ h
theorem Bo.PI{P:Program}{g:FuncId}{args:List Aa}{m:Ac}{K K':Aa->Ac->Prop}(h:Bo P g args m K)(X:∀r i,K r i -> ∃S,K' (Tu i.get S 3 r) ⟨Iv i.get S (N9 S i.bl),i.next⟩):Bo P g args m K':=by
 refine⟨h.1,λW Φ ρ vs w Z T E=>(h.2 W Φ ρ vs w Z T E).mono λe w' V=>?_⟩;obtain⟨u,r,m1,Am,ρ',F,M,v,f,O,Y,i,rfl,N⟩:=V;obtain⟨S,Q⟩:=X r i N;obtain⟨Bs,j,G,H,I,C⟩:=Sg S f;refine⟨u,Tu i.get S 3 r,Ac.mem ⟨Iv i.get S (N9 S i.bl),i.next⟩,Bs,ρ',F,M.trans j,v,⟨f.base,G,λb x hx=>?_,λb b' x x' l l' q t=>?_,f.fresh,H⟩,Zzk j C 3 _ _ O,Y,_,rfl,Q⟩
 ·obtain⟨y,A,rfl⟩:=eY hx;obtain⟨q,t⟩:=Lo A;obtain⟨l',o,D,J,g3,L,n⟩:=f.live b y q;have z:V1 b S=false:=by
   cases U:V1 b S with
   |false=>rfl
   |true=>exact absurd (Bu.1 U) t
  refine⟨l',o,D,J,I b y l' q D z,L,?_⟩;cases y with
  |cells k els=>exact n.fz C
  |map es c=>exact n.ext j
  |Cr s p=>exact n.ext j
  |Ce a b c d=>exact n.ext j
 obtain⟨y,A,rfl⟩:=eY q;obtain⟨y',B,rfl⟩:=eY t;exact f.inj b b' y y' l l' (Lo A).1 (Lo B).1
section
variable {P:Program} {n base:Nat}
theorem cG{p:Ck}(k:∀fn args m id K,Gi P fn args m id K->p fn args m id K){K:Env->Ac->Prop}{K':AY->Prop}(l:∀e m,K e m->K' ⟨AQ n e,m.mem⟩):∀(j:List Ag) (i:Nat) (e:Env) (m:Ac),
 V7 P false n base j i K e m->K6 Ae p base j i K' (AQ n e) m.mem
 |[],_,_,_,h=>l _ _ h
 |o::r,i,e,m,h=>by
  simp only[V7]at h;simp only[K6,Qh];cases y:S2 n e o.guard with
  |none=>rw[y]at h;exact h
  |some q=>
   rw[y]at h;cases q with
   |false=>
    simp only[J9];exact cG k l r _ _ _ h
   |true=>
    simp only[HO]at h;simp only;have a:∀op,He (Ak (base+i) (AG n e) m.get op) (λv d=>V7 P false n base r (i+1) K (Y8 e o.dst v) (m.app d)) ->
     (match Ae (base+i) (AQ n e) m.mem op with|some (v,z)=>K6 Ae p base r (i+1) K' (put (AQ n e) o.dst v) z|none=>False):=by
     intro op b;cases w:Ak (base+i) (AG n e) m.get op with
     |none=>rw[w]at b;exact b.elim
     |some C=>
      obtain⟨v,d⟩:=C;rw[w]at b;have:=JO (t:=AQ n e) (m:=m.mem) (op:=op) (v:=v) (d:=d) (id:=base+i) (by rw[K8];exact w);rw[this];simp only[J9];rw[<-Ac.Bw];exact cG k l r _ _ _ b
    cases c:o.op with
    |call f xs=>
     simp only[c]at h;simp only;cases s:U9 n e f xs with
     |none=>rw[s]at h;exact h.elim
     |some A=>
      obtain⟨g,args⟩:=A;rw[s]at h;rw[yL s];simp only;refine k _ _ _ _ _ ⟨g,rfl,?_⟩;refine Aw.mono (h:SC P g args m (base+i) _) λv B b=>?_;obtain⟨z,rfl,u⟩:=b;simp only[J9];exact cG k l r _ _ _ u
    |_=>rw[c]at h;exact a _ h
def Ew(P:Program)(n:Nat):An→(Exit→Env→Ac→Prop)→Env→Ac→Prop
 | .skip,Q,e,m=>Q .normal e m
 | .region false ops,Q,e,m=>V7 P false n m.next ops 0 (Q .normal) e (m.at (m.next+ops.length))
 | .seq x y,Q,e,m=>Ew P n x (O0 (Ew P n y Q) Q) e m
 | .cond c x y,Q,e,m=>Ic (AG n e c) (Ew P n x Q e m) (Ew P n y Q e m)
 | .block id c,Q,e,m=>Ew P n c (I2 id Q) e m
 | .ret,Q,e,m=>Q .ret e m
 | _,_,_,_=>False
theorem pH{c:An}:∀{Q:Exit->Env->Ac->Prop}{R:Exit->AY->Prop}{e:Env}{m:Ac},Ew P n c Q e m->(∀x e m,Q x e m->R x ⟨AQ n e,m.mem⟩)->S4 (IQ P false Ae (Gi P)) false c R ⟨AQ n e,m.mem⟩:=by
 induction c with
 |skip=>exact λh a=>a _ _ _ h
 |region f i=>
  intro Q R e m h a;cases f with
  |false=>exact cG (λ_ _ _ _ _ h=>h) (a .normal) i 0 e _ h
  |true=>exact h.elim
 |seq x y b d=>
  intro Q R e m h a;refine b h λx e m g=>?_;cases x<;>first|exact d g a|exact a _ _ _ g
 |cond c x y b d=>
  intro Q R e m h a;simp only[Ew]at h;simp only[S4,K8];generalize AG n e c=v at h;cases v<;>first|exact h.elim|skip
  rename_i q;cases q
  ·exact d h a
  exact b h a
 |block id c j=>
  intro Q R e m h a;refine j h λx e m g=>?_;cases x<;>simp only[I2]at g<;>simp only[KD]<;>first|exact a _ _ _ g|skip
  grind
 |ret=>exact λh a=>a _ _ _ h
 |_=>intro Q R e m h;exact h.elim
def IJ(e:Env):List (Nat×Aa)→Env
 | []=>e
 | (i,x) :: r=>IJ ((i,x) :: e) r
theorem zg:∀(l:List (Nat×Aa)) (e:Env),Le (AQ n e) l=AQ n (IJ e l)
 |[],_=>rfl
 | (i,x)::r,e=>by
  simp only[Le,IJ];have:(AQ n e).set i x=AQ n ((i,x)::e):=J9 n e (some i) x;rw[this];exact zg r _
end
structure Yd where
 b:Nat
 n:Nat
 ps:List Nat
 e:Env
 A:An
 B:An
 wr:List FuncId:=[]
def YC(P:Program)(y:Yd)(args:List Aa)(m:Ac)(K:Aa→Ac→Prop):Prop:=
 args.length=y.ps.length∧Ew P y.n y.A (fun x e m=>match x with
  | .normal=>Ew P y.n y.B (fun x _ m=>match x with
   | .normal=>K (.bool true) m
   | _=>False) e m
  | _=>False) (IJ y.e (y.ps.zip args)) m
section
variable {P:Program} {y:Yd} {n n0 base:Nat}
theorem Ygs{args:List Aa}{m:Ac}{K:Aa->Ac->Prop}{K':Aa->Mem->Prop}(h:YC P y args m K)(c:∀v b,K v b->K' v b.mem):zH P y.ps (AQ y.n y.e) y.A y.B args m.mem K':=by
 refine⟨h.1,?_⟩;rw[zg];refine pH h.2 λx e m a=>?_;cases x<;>first|exact a.elim|skip
 refine pH a λx e m a=>?_;grind
def Et(P:Program)(y:Yd)(n base:Nat):List Ag→Nat→(Env→Ac→Prop)→Env→Ac→Prop
 | [],_,K,e,m=>K e m
 | o :: r,i,K,e,m=>HO (S2 n e o.guard)
  (match o.op with
  | .call f xs=>(match AG n e f with
   | .Dt b=>b=y.b∧YC P y (xs.map (AG n e)) m fun v m'=>Et P y n base r (i+1) K (Y8 e o.dst v) m'
   | _=>False)
  | op=>He (Ak (base+i) (AG n e) m.get op) fun v d=>Et P y n base r (i+1) K (Y8 e o.dst v) (m.app d))
  (Et P y n base r (i+1) K (Y8 e o.dst Ai) m)
theorem ZU{K:Env->Ac->Prop}{K':AY->Prop}(k:∀e m,K e m->K' ⟨AQ n e,m.mem⟩):∀(j:List Ag) (i:Nat) (e:Env) (m:Ac),
 Et P y n base j i K e m->K6 Ae (Tm P y.b y.ps (AQ y.n y.e) y.A y.B) base j i K' (AQ n e) m.mem
 |[],_,_,_,h=>k _ _ h
 |o::r,i,e,m,h=>by
  simp only[Et]at h;simp only[K6,Qh];cases s:S2 n e o.guard with
  |none=>rw[s]at h;exact h
  |some q=>
   rw[s]at h;cases q with
   |false=>
    simp only[J9];exact ZU k r _ _ _ h
   |true=>
    simp only[HO]at h;simp only;have a:∀op,He (Ak (base+i) (AG n e) m.get op) (λv d=>Et P y n base r (i+1) K (Y8 e o.dst v) (m.app d)) ->
     (match Ae (base+i) (AQ n e) m.mem op with|some (v,u)=>K6 Ae (Tm P y.b y.ps (AQ y.n y.e) y.A y.B) base r (i+1) K' (put (AQ n e) o.dst v) u|none=>False):=by
     intro op c;cases p:Ak (base+i) (AG n e) m.get op with
     |none=>rw[p]at c;exact c.elim
     |some z=>
      obtain⟨v,d⟩:=z;rw[p]at c;have:=JO (t:=AQ n e) (m:=m.mem) (op:=op) (v:=v) (d:=d) (id:=base+i) (by rw[K8];exact p);rw[this];simp only[J9];rw[<-Ac.Bw];exact ZU k r _ _ _ c
    cases g:o.op with
    |call f xs=>
     simp only[g]at h;simp only;cases l:AG n e f with
     |Dt b=>
      rw[l]at h;obtain⟨rfl,h⟩:=h;have w:KE (AQ n e) f xs=some (.yield y.b,xs.map (ev (AQ n e))):=by
       unfold KE;rw[K8,l]
      rw[w];simp only;refine .inr ⟨rfl,?_⟩;rw[K8];refine Ygs h λv u c=>?_;simp only[J9];exact ZU k r _ _ _ c
     |_=>rw[l]at h;exact h.elim
    |_=>rw[g]at h;exact a _ h
def WC(P:Program)(g:FuncId)(args:List Aa)(k:Nat)(x:List Nat)(m:Ac)(K:List Nat→Aa→Ac→Prop):Prop:=
 ∃ wl v,∃ m':Ac,QL P g args k x m.mem v m'.mem wl∧K wl v m'
def Jt(P:Program)(keep:List Nat)(n base:Nat):List Ag→Nat→List (Nat×FT)→(Env→Ac→Prop)→Env→Ac→Prop
 | [],_,_,K,e,m=>K e m
 | o :: r,i,fs,K,e,m=>match S2 n e o.guard with
  | some true=>(match o.op with
   | .call f xs=>(match U9 n e f xs with
    | some (g,args)=>WC P g args (base+i) (DX base i r.length) m fun wl v m'=>H8 fs (.call wl (DX base i r.length) m.next) o.un∧Jt P keep n base r (i+1) (L8 keep i (.call wl (DX base i r.length) m.next) fs) K (Y8 e o.dst v) m'
    | none=>False)
   | op=>(match Ak (base+i) (AG n e) m.get op with
    | some (v,d)=>H8 fs (.ops (S9 (base+i) (AG n e) op) (S8 (AG n e) op)) o.un∧Jt P keep n base r (i+1) (L8 keep i (.ops (S9 (base+i) (AG n e) op) (S8 (AG n e) op)) fs) K (Y8 e o.dst v) (m.app d)
    | none=>False))
  | some false=>Jt P keep n base r (i+1) (L8 keep i (.ops [] []) fs) K (Y8 e o.dst Ai) m
  | none=>False
theorem XI{keep:List Nat}{K:Env->Ac->Prop}:∀(q:List Ag) (c:List (Nat×FT)) (gs:List FT) (e:Env) (m:Ac),
 (∀j f,I8 c j=some f->gs.getD j (.ops [] [])=f/\j<gs.length)->Jt P keep n base q gs.length c K e m->M2 P base q gs (λσ=>∃e m,σ=⟨AQ n e,Ac.mem m⟩/\K e m) (AQ n e) m.mem
 |[],_,_,e,m,_,h=>⟨e,m,rfl,h⟩
 |o::r,c,gs,e,m,w,h=>by
  have s:∀f:FT,(gs++[f]).length=gs.length+1:=λf=>by simp
  have a:∀f,∀j g,I8 (L8 keep gs.length f c) j=some g->(gs++[f]).getD j (.ops [] [])=g/\j<(gs++[f]).length:=by
   intro f j g i;have old:∀j g,I8 c j=some g->(gs++[f]).getD j (.ops [] [])=g/\j<(gs++[f]).length:=λj g u=>by
    grind
   unfold L8 at i;cases hm:V1 gs.length keep with
   |false=>grind
   |true=>
    rw[hm]at i;simp only[cond_true,I8]at i;grind
  simp only[Jt]at h;simp only[M2,Qh];cases E:S2 n e o.guard with
  |none=>grind
  |some b=>
   rw[E]at h;cases b with
   |false=>
    simp only[J9];exact XI r _ _ _ _ (a _) (by rw[s];exact h)
   |true=>
    simp only at h ⊢;have k:∀op,(match Ak (base+gs.length) (AG n e) m.get op with
     |some (v,d)=>H8 c (.ops (S9 (base+gs.length) (AG n e) op) (S8 (AG n e) op)) o.un/\Jt P keep n base r (gs.length+1) (L8 keep gs.length (.ops (S9 (base+gs.length) (AG n e) op) (S8 (AG n e) op)) c) K (Y8 e o.dst v) (m.app d)
     |none=>False) ->
     (match Ae (base+gs.length) (AQ n e) m.mem op with|some (v,z)=>M7 gs (.ops (P5 (base+gs.length) (AQ n e) op) (F7 (AQ n e) op)) o.un/\M2 P base r (gs++[.ops (P5 (base+gs.length) (AQ n e) op) (F7 (AQ n e) op)]) (λσ=>∃e m,σ=⟨AQ n e,Ac.mem m⟩/\K e m) (put (AQ n e) o.dst v) z|none=>False):=by
     intro op l;cases y:Ak (base+gs.length) (AG n e) m.get op with
     |none=>grind
     |some F=>
      obtain⟨v,d⟩:=F;rw[y]at l;have:=JO (m:=m.mem) (t:=AQ n e) (id:=base+gs.length) (op:=op) (v:=v) (d:=d) (by rw[K8];exact y);rw[this];simp only[J9,fF,dW,K8];rw[<-Ac.Bw];exact⟨VX (λj f i=>(w j f i).1) l.1,XI r _ _ _ _ (a _) (by rw[s];exact l.2)⟩
    cases p:o.op with
    |call f xs=>
     simp only[p]at h;simp only[Xr];cases D:U9 n e f xs with
     |none=>grind
     |some A=>
      obtain⟨g,args⟩:=A;rw[D]at h;obtain⟨wl,v,z,u,B,C⟩:=h;refine⟨wl,_,v,_,u,VX (λj f i=>(w j f i).1) B,?_⟩;simp only[J9];exact XI r _ _ _ _ (a _) (by rw[s];exact C)
    |_=>(have l:=k o.op;rw[p]at h l;exact l h)
def F6(l:List FuncId):Ba→Bool
 | .call (.fn g) _=>V1 g l
 | _=>false
def Zt(l:List FuncId):Ag→Bool
 | ⟨_,op,_,_⟩=>F6 l op
def Gq(q:Nat→Nat)(n:Nat)(ks:List Nat):List (Nat×Af)→Bool
 | []=>true
 | (d,_) :: r=>(V1 (q d) ks||ble n d)&&Gq q n ks r
theorem qy{q:Nat->Nat}{n:Nat}{f:List Nat}:∀{l:List (Nat×Af)},Gq q n f l=true -> ∀d y,Z7 l d=some y->q d∈f\/n<=d
 |[],_,d,y,h=>by simp[Z7]at h
 | (c,x)::r,a,d,y,h=>by
  simp only[Gq,bA,Bool.or_eq_true]at a;simp only[Z7]at h;split at h
  ·rename_i e;subst e;rcases a.1 with b|b
   ·exact .inl (Bu.1 b)
   simp_all
  exact qy a.2 d y h
theorem OW{g:FuncId}{Bj args:List Aa}{m0 i m:Ac}{v0:Aa}{k:Nat}{x:List Nat}{K:List Nat->Aa->Ac->Prop}(h:Bo P g Bj m0 λr O=>r=v0/\O=i)(DB:m0.next<=i.next)(l:List (Nat×Nat))(U:Q3 (BC l 0 m0.next m.next) Bj=args)
 (L:BO (BC l 0 m0.next m.next) m0.bl m) (hi:CQ (BC l 0 m0.next m.next) m0.bl) (p:Gq (BC l 0 m0.next m.next) m0.next (I3 (BC l 0 m0.next m.next) m0.bl) i.bl=true) (Y:k∉x) (M:∀b,b∈I3 (BC l 0 m0.next m.next) m0.bl->b∉x)
 (D:∀c,c∈x->m.get c=none) (Q:∀c,c∈x->Z7 (E7 (BC l 0 m0.next m.next) i.bl (N9 (I3 (BC l 0 m0.next m.next) m0.bl) m.bl)) c=none)
 (T:K (I3 (BC l 0 m0.next m.next) m0.bl) (v0.AM (BC l 0 m0.next m.next)) ⟨E7 (BC l 0 m0.next m.next) i.bl (N9 (I3 (BC l 0 m0.next m.next) m0.bl) m.bl),i.next-m0.next+m.next⟩):WC P g args k x m K:=by
 subst U;refine⟨_,_,_,?_,T⟩;obtain⟨q,J⟩:∃q,BC l 0 m0.next m.next=q:=⟨_,rfl⟩;have B:∀c,m0.next<=c->q c=c-m0.next+m.next:=λc n=>by
  rw[<-J];simp only[BC,Nat.not_lt_zero,if_false];grind
 rw[J]at L hi p M Q ⊢;obtain⟨v,s⟩:∃v:Ac,v=⟨E7 q i.bl (N9 (I3 q m0.bl) m.bl),i.next-m0.next+m.next⟩:=⟨_,rfl⟩;have f:∀c,v.mem.get c=Z7 (E7 q i.bl (N9 (I3 q m0.bl) m.bl)) c:=λc=>by rw[s];rfl
 rw[<-s];refine⟨v.mem,Y,λc n=>by grind,?_,rfl,λc=>?_,λc hw A n=>?_,?_⟩
 ·show m.next<=v.next;grind
 ·by_cases n:c∈x
  ·rw[iP n,f,Q c n];exact(D c n).symm
  rw[iN n]
 ·rw[f];cases u:Z7 (E7 q i.bl (N9 (I3 q m0.bl) m.bl)) c with
  |some y=>
   rcases eP u with⟨d,z,j,o,G⟩|j
   ·exfalso;rcases qy p d z j with H|H
    ·grind
    rw[o,B d H]at A;have:d-m0.next+m.next<m.next:=A;omega
   exact(Lo j).1.symm
  |none=>
   cases hz:m.mem.get c with
   |none=>rfl
   |some z=>
    exfalso;have j:Z7 (N9 (I3 q m0.bl) m.bl) c=some z:=by
     have:∀l:List (Nat×Af),Z7 l c=some z->Z7 (N9 (I3 q m0.bl) l) c=some z:=by
      intro l;induction l with
      |nil=>intro h;simp[Z7]at h
      |cons a r N=>
       obtain⟨d,w⟩:=a;intro h;simp only[Z7]at h;simp only[N9];cases hm:V1 d (I3 q m0.bl)with
       |true=>
        simp only[cond_true];refine N ?_;rw[iN (λe:c=d=>hw (by rw[e];exact Bu.1 hm))]at h;exact h
       |false=>
        simp only[cond_false,Z7];grind
     exact this _ hz
    have o:∀(l t:List (Nat×Af)),Z7 t c=some z->Z7 (E7 q l t) c≠none:=by
     intro l t ht;induction l with
     |nil=>simp only[E7];rw[ht];simp
     |cons a r N=>
      obtain⟨d,w⟩:=a;simp only[E7,Z7];grind
    exact o _ _ j u
 refine qC h (m:=m.mem.less x) (q:=q) (λc y u=>?_) (λc c' y y' u E=>hi.get c c' y y' u E) B (λr0 m1 V=>?_) [k]
 ·have Z:q c∉x:=M _ (Wa u);obtain⟨z,S,F⟩:=L.get c y u;refine⟨z,?_,F⟩;show(if q c∈x then none else m.mem.get (q c))=some z;rw[iN Z];exact S
 obtain⟨O,rfl,rfl,rfl⟩:=V;refine⟨v.mem,by rw[s];rfl,λb y I=>?_,rfl,rfl⟩;have C:b∉x:=λX=>by
  grind
 rw[f]at I;rcases eP I with⟨c,z,j,o,G⟩|j
 ·exact .inl ⟨c,z,j,o,G⟩
 have o:=Lo j;refine .inr ⟨?_,λc z n e=>o.2 (e ▸ Wa n)⟩;show(if b∈x then none else m.mem.get b)=some y;rw[iN C];exact o.1
def F9:Ba→Bool
 | .call (.tmp _) _=>true
 | _=>false
def wQ:Ag→Bool
 | ⟨_,op,_,_⟩=>F9 op
def CT(P:Program)(y:Yd)(n n0:Nat):An→(Exit→Env→Ac→Prop)→Env→Ac→Prop
 | .skip,Q,e,m=>Q .normal e m
 | .region false ops,Q,e,m=>if ops.any wQ=true then Et P y n m.next ops 0 (Q .normal) e (m.at (m.next+ops.length))else V7 P false n m.next ops 0 (Q .normal) e (m.at (m.next+ops.length))
 | .region true ops,Q,e,m=>if ops.any (Zt y.wr)=true then Jt P (IY ops) n m.next ops 0 [] (Q .normal) e (m.at (m.next+ops.length))
  else if ops.all G9=true then V7 P false n m.next ops 0 (Q .normal) e (m.at (m.next+ops.length))
  else if ops.all (fun o=>o.un.isEmpty)=true then V7 P true n m.next ops 0 (Q .normal) e (m.at (m.next+ops.length))
  else H4 P (IY ops) n m.next ops 0 [] (Q .normal) e (m.at (m.next+ops.length))
 | .seq a b,Q,e,m=>CT P y n n0 a (O0 (CT P y n n0 b Q) Q) e m
 | .cond c a b,Q,e,m=>Ic (AG n e c) (CT P y n n0 a Q e m) (CT P y n n0 b Q e m)
 | .block id c,Q,e,m=>CT P y n n0 c (I2 id Q) e m
 | .loop c,Q,e,m=>∃ (I:Nat→Env→Ac→Prop),(∃ k e0 m0,Di n n0 e0 m0 e m∧I k e0 m0) ∧ ∀ k e1 m1,I k e1 m1→CT P y n n0 c (O0 (fun e' m'=>∃ j e0 m0,j<k∧Di n n0 e0 m0 e' m'∧I j e0 m0) Q) e1 m1
 | .exit id,Q,e,m=>Q (.exit id) e m
 | .scope c,Q,e,m=>CT P y n n0 c Q e m
 | .label _,Q,e,m=>Q .normal e m
 | .ret,Q,e,m=>Q .ret e m
 | .bad,_,_,_=>False
def HB(H:CD)(n0:Nat):CD:=fun W Φ ρ=>∃ DY Dd,H W DY Dd∧(∀ b l,Dd b=some l→b<n0)∧(∀ B c,DY B=some c→Φ B=some c) ∧ ∀ b,b<n0→ρ b=Dd b
theorem HB.get{H:CD}(f:H.FG){n0:Nat}{W:Aq}{Φ:Ap}{ρ:AI}(h:HB H n0 W Φ ρ):H W Φ ρ:=by
 obtain⟨a,c,d,g,e,i⟩:=h;exact f W a c Φ ρ d ⟨e,λb l j=>by grind⟩
theorem HB.go{H:CD}{n0:Nat}{W:Aq}{Φ a:Ap}{ρ ρ':AI}(h:HB H n0 W Φ ρ)(n:∀B c,Φ B=some c->a B=some c)(m:∀b,b<n0->ρ' b=ρ b):HB H n0 W a ρ':=by
 obtain⟨e,f,g,i,j,k⟩:=h;exact⟨e,f,g,i,λB c l=>n B c (j B c l),λb d=>(m b d).trans (k b d)⟩
def eE(H:CD)(P:Program)(n n0:Nat)(c:Code)(Q:Exit→Env→Ac→Prop)(e:Env)(m:Ac):Prop:=
 ∀(W:Aq) (Φ:Ap) (ρ:AI) (a:Act) (w:World),HB H n0 W Φ ρ→n0≤m.next→Rel W Φ ρ m.mem w→RL Φ ρ (AQ n e) a.tmps→a.defers=[]→c.wp P (Nt W Φ ρ n n0 Q) a w
theorem Ycd(hm:P.follows .mixedOrders=true){H:CD}(k:H.FG)(r:Lb Fence.wide 0 H P (Tm P y.b y.ps (AQ y.n y.e) y.A y.B)){id:Nat}{d:Array Oper}{c:Bool}{os:List Ag}{Q:Exit->Env->Ac->Prop}{e:Env}{m:Ac}
 (G:Y1 P (.region id d c)=.region false os) (h:Et P y n m.next os 0 (Q .normal) e (m.at (m.next+os.length))):eE H P n n0 (.region id d c) Q e m:=by
 intro W Φ ρ a w J o L M I;have D:S4 (IQ P true Ae (Tm P y.b y.ps (AQ y.n y.e) y.A y.B)) true (Y1 P (.region id d c)) (E4 n Q) ⟨AQ n e,m.mem⟩:=by
  rw[G];exact ZU (K':=E4 n Q .normal) (λe m K=>⟨e,m,rfl,K⟩) os 0 e _ h
 have E:=kE (n:=0) hm k (Ve Open.wide) r (.region id d c) _ _ D W Φ ρ (J.get k) a w L M I;refine wp_mono (wpIn_wide.1 E) λx O w' i=>?_;obtain⟨σ,p,ρ',j,t,u,v,z,C,g⟩:=i;have q:∀b,b<n0->ρ' b=ρ b:=λb F=>by
  cases f:ρ b with
  |none=>exact t b (Nat.lt_of_lt_of_le F o) f
  |some l=>exact j.CN b l f
 have s:m.next<=σ.m.next:=u;cases x<;>simp only[E4]at g<;>first
  |exact g.elim
  | (obtain ⟨e',N,rfl,f⟩:=g
     exact⟨e',N,p,ρ',j.AX,q,Nat.le_trans o s,v,z,C,λl i=>(by cases i),f⟩)
theorem Ydk(hm:P.follows .mixedOrders=true){H:CD}(hM:H.FG)(DA:Lb Fence.wide 0 H P (Tm P y.b y.ps (AQ y.n y.e) y.A y.B)):∀(c:Code) (Q:Exit->Env->Ac->Prop) (e:Env) (m:Ac),CT P y n n0 (Y1 P c) Q e m->eE H P n n0 c Q e m:=by
 intro c;induction c with
 |skip=>exact λQ e m h W Φ ρ a w _ t r o p=>wp_skip ⟨e,m,Φ,ρ,λ_ _ h=>h,λ_ _=>rfl,t,r,o,p,λl g=>(by cases g),h⟩
 |region id M u=>
  intro Q e m h;have hw:∀A:An,Y1 P (.region id M u)=A->(match A with | .region _ _=>True | .bad=>True|_=>False)->CT P y n n0 A Q e m->eE H P n n0 (.region id M u) Q e m:=by
   intro A O hA h;have D:Dl P n n0 A Q e m->eE H P n n0 (.region id M u) Q e m:=λhz W Φ ρ a w _ t r o p=>
    oG hm (.region id M u) Q e m (by rw[O];exact qL hz λ_ _ _ h=>h) W Φ ρ a w t r o p
   cases A with
   |region d os=>
    cases d with
    |false=>
     simp only[CT]at h;split at h
     ·exact Ycd hm hM DA O h
     exact D h
    |true=>
     simp only[CT]at h;split at h
     ·intro W Φ ρ a w _ t r o p;refine pU hm (e:=e) (m:=m) ?_ W Φ ρ a w t r o p;rw[O];exact XI os [] [] e _ (λj f hj=>by simp[I8]at hj) h
     exact D h
   |bad=>exact h.elim
   |_=>exact hA.elim
  refine hw _ rfl ?_ h;cases u with
  |false=>
   simp only[Y1];grind
  |true=>
   simp only[Y1];grind
 |seq x y T U=>
  intro Q e m h W Φ ρ a w C t r o p;simp only[Y1,CT]at h;refine wp_seq (wp_mono (T _ _ _ h W Φ ρ a w C t r o p) ?_);intro x' F w' g;have key:∀e',x'=e'->e'≠.normal->Nt W Φ ρ n n0 Q x' F w':=by
   intro e' he S;refine Pk (λ_ _ h=>h) (λ_ _=>rfl) g λe m hq=>?_;subst he;cases x'<;>first|exact absurd rfl S|exact hq
  cases x' with
  |normal=>
   obtain⟨e',L,E,ρ',G,J,V,X,Y,Z,h7,N⟩:=g;exact wp_mono (U _ _ _ N W E ρ' F w' (C.go G J) V X Y Z) λx a w ae=>Pk G J ae λ_ _ h=>h
  |exit i=>exact key _ rfl (by simp)
  |goto l=>exact key _ rfl (by simp)
  |ret=>exact key _ rfl (by simp)
  |panic ch=>exact key _ rfl (by simp)
  |outgrown=>exact key _ rfl (by simp)
 |cond c x y T U=>
  intro Q e m h W Φ ρ a w C t r o p;simp only[Y1]at h;cases O:X5 c with
  |none=>simp[O,CT]at h
  |some c'=>
   simp only[O,CT]at h;have hv:=Q1 o O;rw[K8]at hv;generalize AG n e c'=z at h hv;cases z<;>first|exact h.elim|skip
   rename_i q;generalize hz:a.eval c=v at hv;cases hv;cases q
   ·exact wp_cond_false hz (U _ _ _ h W Φ ρ a w C t r o p)
   exact wp_cond_true hz (T _ _ _ h W Φ ρ a w C t r o p)
 |block id c ih=>
  intro Q e m h W Φ ρ a w C t r o p;simp only[Y1,CT]at h;refine wp_block (wp_mono (ih _ _ _ h W Φ ρ a w C t r o p) ?_);intro x F w' g;cases x with
  |exit i=>
   simp only[Exit.inBlock];obtain⟨e',L,E,ρ',G,J,V,X,Y,Z,h7,N⟩:=g;simp only[I2]at N;split
   ·rename_i hi;rw[iP hi]at N;exact⟨e',L,E,ρ',G,J,V,X,Y,Z,λl g=>(by cases g),N⟩
   rename_i hi;rw[iN hi]at N;exact⟨e',L,E,ρ',G,J,V,X,Y,Z,λl g=>(by cases g),N⟩
  |normal=>exact g
  |goto l=>exact g
  |ret=>exact g
  |panic ch=>exact g
  |outgrown=>exact g
 |loop c ih=>
  intro Q e m h W Φ ρ a w C t r o p;simp only[Y1,CT]at h;obtain⟨I,⟨k0,e0,m0,aa,h0⟩,K⟩:=h;obtain⟨am,aq,af,ac,ah,aj⟩:=aa.2 W Φ ρ _ w r o;refine wp_loop_ghost (λk F w'=>∃e' L E ρ',(∀B c,Φ B=some c->E B=some c)/\(∀b,b<n0->ρ' b=ρ b)/\n0<=L.next/\Rel W E ρ' L.mem w'/\RL E ρ' (AQ n e') F.tmps/\F.defers=[]/\I k e' L) k0
   ⟨e0,m0,am,aq,af,ac,aa.1,ah,aj,p,h0⟩ ?_
  rintro k F w' ⟨e',L,E,ρ',G,J,V,X,Y,Z,h7⟩;refine wp_mono (ih _ _ _ (K k e' L h7) W E ρ' F w' (C.go G J) V X Y Z) ?_;intro x ab al g;have key:∀e',x=e'->e'≠.normal->Nt W Φ ρ n n0 Q x ab al:=by
   intro e' he S;refine Pk G J g λe m hq=>?_;subst he;cases x<;>first|exact absurd rfl S|exact hq
  cases x with
  |normal=>
   obtain⟨e2,m2,an,au,g1,g2,g3,g4,g5,g6,_,j,e3,m3,g7,g8,g9⟩:=g;obtain⟨ao,av,ag,ad,ai,ak⟩:=g8.2 W an au _ _ g4 g5;exact⟨j,g7,e3,m3,ao,av,λB c hB=>ag B c (g1 B c (G B c hB)),λb hb=>(ad b hb).trans ((g2 b hb).trans (J b hb)),g8.1,ai,ak,g6,g9⟩
  |exit i=>exact key _ rfl (by simp)
  |goto l=>exact key _ rfl (by simp)
  |ret=>exact key _ rfl (by simp)
  |panic ch=>exact key _ rfl (by simp)
  |outgrown=>exact key _ rfl (by simp)
 |exit id=>exact λQ e m h W Φ ρ a w _ t r o p=>wp_exit ⟨e,m,Φ,ρ,λ_ _ h=>h,λ_ _=>rfl,t,r,o,p,λl g=>(by cases g),h⟩
 |scope c ih=>
  intro Q e m h W Φ ρ a w C t r o p;simp only[Y1,CT]at h;refine wp_scope_straight (wp_mono (ih _ _ _ h W Φ ρ a w C t r o p) ?_);intro x F w' g;cases x with
  |goto l=>
   obtain⟨_,_,_,_,_,_,_,_,_,_,h7,_⟩:=g;grind
  |normal=>exact g
  |exit i=>exact g
  |ret=>exact g
  |panic ch=>exact g
  |outgrown=>exact g
 |label l=>exact λQ e m h W Φ ρ a w _ t r o p=>wp_label ⟨e,m,Φ,ρ,λ_ _ h=>h,λ_ _=>rfl,t,r,o,p,λl g=>(by cases g),h⟩
 |ret=>exact λQ e m h W Φ ρ a w _ t r o p=>wp_ret ⟨e,m,Φ,ρ,λ_ _ h=>h,λ_ _=>rfl,t,r,o,p,λl g=>(by cases g),h⟩
 |rangeFunc f ps x y _ _=>exact λQ e m h=>by simp[Y1,CT]at h
 |goto l=>exact λQ e m h=>by simp[Y1,CT]at h
 |refuse s=>exact λQ e m h=>by simp[Y1,CT]at h
theorem ur{W:Aq}{Φ d:Ap}{ρ ρ':AI}{n0:Nat}{w w':World}{K:Aa->Ac->Prop}{v:Aa}{u:Value}{m:Ac}(f:∀b l,ρ b=some l->b<n0)(q:∀B c,Φ B=some c->d B=some c)(p:∀b,b<n0->ρ' b=ρ b)(s:Rel W d ρ' m.mem w')(E:R d ρ' v u)(h:R9 n0 K v m) :
 ∃r m2 a,Ext Φ ρ d a/\(∀b,b<n0->a b=ρ b)/\Rel W d a (Ac.mem m2) w'/\R d a r u/\n0<=m2.next/\K r m2:=by
 obtain⟨v0,m0,l,j,o⟩:=h;obtain⟨a,z,A,C⟩:=j.rel (n:=1) (vs:=#[u]) s ⟨rfl,λi x y k t=>by
  cases i with
  |zero=>
   rw[H7 (by omega)]at k;simp only[Env.get,if_true,oI]at k;grind
  |succ i=>simp at t⟩
 have D:R d a v0 u:=C.2 0 v0 u (by rfl) rfl;have g:∀b,b<n0->a b=ρ b:=λb e=>(z b e).trans (p b e);exact⟨v0,m0,a,⟨q,λb l e=>(g b (f b l e)).trans e⟩,g,A,D,j.1,o⟩
def Jv(P:Program)(y:Yd)(f:FuncId)(args:List Aa)(m:Ac)(K:Aa→Ac→Prop):Prop:=
 ∀(l:Nat) (r:Loop),r.state=.ready→r.pending=none→r.params.toList=y.ps→Y1 P r.assign=y.A→Y1 P r.body=y.B→Dm (Fc y.b l r (AQ y.n y.e)) P f args m.mem fun v m''=>∃ m':Ac,m''=m'.mem∧K v m'
theorem Z9q(hm:P.follows .mixedOrders=true){f:FuncId}{fn:Func}{S:AD}{args:List Aa}{m:Ac}{d:Aa->Ac->Prop}(U:P.funcs[f]?=some fn)(hc:Bk P fn=some S){g:Nat}{N:List (Nat×Option (Option Nat))}{bd:An}(hd:S=⟨g,N,bd⟩)(E:ble args.length g=true)
 (h:∀K:Aa->Ac->Prop,(∀r C,d r C->K r C)->CT P y g m.next bd (L3 g N (R9 m.next K)) (R4 0 args []) m):Jv P y f args m d:=by
 subst hd;have h:=h d λ_ _ h=>h;obtain⟨c,B,o,Y,F,p⟩:=UE hc;have aa:args.length<=g:=Nat.le_of_ble_eq_true E;intro l r J G H hA hB;have Q:=yl (P:=P) (n:=0) (b:=y.b) (l:=l) (tR:=AQ y.n y.e) J G;rw[H,hA,hB]at Q;refine⟨⟨fn,U,p,by rw[B];rfl⟩,λW Φ ρ hH vs w I ha=>?_⟩;have L:=Ss (k:=fn.ntmps) ha;have M:RL Φ ρ (AQ g (R4 0 args [])) (vs++replicate (fn.ntmps-vs.size) undef):=by
  have V:g=fn.ntmps:=F;refine L.sub (by rw[M0];simp;omega) λi x s=>?_;have hi:i<g:=by
   have:=(gS.1 s).1;rwa[M0]at this
  rw[H7 hi,Sr]at s;injection s with s
  by_cases D:0<=i/\i<0+args.length
  ·grind
  rw[iN D]at s;exact .inl s.symm
 have j:Y1 P c=bd:=o.symm;rw[<-j]at h;have hs:=Ydk (n0:=m.next) hm Fc.mono Q c _ _ _ h W Φ ρ { tmps:=vs++replicate (fn.ntmps-vs.size) undef,defers:=[] } w ⟨Φ,ρ,hH,λb l j=>I.fresh b l j,λ_ _ h=>h,λ_ _=>rfl⟩ (lR _) I M rfl;refine calls_of_wp U B (wp_mono hs λx a w' E=>?_);obtain⟨e,t,z,ρ',h1,D,h3,T,h5,h6,h7,q⟩:=E;have A:D3 (R9 m.next d) t (Q9 g e t N)->a.defers=[] /\ ∃v,(results fn a.tmps).run P w'=.ok v w' /\
  ∃X r t z ρ',Ending.returned v=.returned X/\Ext Φ ρ z ρ'/\Bq m.mem.next ρ ρ'/\Rel W z ρ' t w'/\R z ρ' r X/\m.mem.next<=t.next /\ ∃C:Ac,t=C.mem/\d r C:=by
  intro hh;obtain⟨v,Z,g2⟩:=Wz hh;obtain⟨u,k1,k2⟩:=QO T h5 Y Z;obtain⟨r2,m2,O,q1,q2,q3,q4,q5,q6⟩:=ur (w:=w) (λb l j=>I.fresh b l j) h1 D T k2 g2;exact⟨h6,u,k1,u,r2,m2.mem,z,O,rfl,q1,λb j h0=>(q2 b j).trans h0,q3,q4,q5,m2,rfl,q6⟩
 cases x with
 |normal=>exact A q
 |ret=>exact A q
 |exit i=>exact q.elim
 |goto l=>exact q.elim
 |panic ch=>exact q.elim
 |outgrown=>exact q.elim
def XG(P:Program)(n:Nat):List An→(Exit→Env→Ac→Prop)→(Env→Ac→Prop)→Env→Ac→Prop
 | [],_,N,e,m=>N e m
 | a :: r,Q,N,e,m=>wpS P n a (fun x e m=>match x with
  | .normal=>XG P n r Q N e m
  | .ret=>Q .ret e m
  | _=>False) e m
theorem Dm.mono{H:CD}{f:FuncId}{args:List Aa}{m:Mem}{K K':Aa->Mem->Prop}(h:Dm H P f args m K)(e:∀r a,K r a->K' r a):Dm H P f args m K':=by
 refine⟨h.1,λW Φ ρ b vs w d c=>(h.2 W Φ ρ b vs w d c).mono ?_⟩;grind
theorem Z86(hm:P.follows .mixedOrders=true){f:FuncId}{fn:Func}{p:Ct}{args:List Aa}{m:Ac}{j:Aa->Ac->Prop}(hf:P.funcs[f]?=some fn)(hp:RZ P fn=some p)
 {n:Nat}{E:List (Nat×Option (Option Nat))}{pre:List An}{x:An}{g:Ah}{ps:List Nat}{Ed bd y:An}(N:p=⟨n,E,pre,x,g,ps,Ed,bd,y⟩) (hl:ble args.length n=true)
 (h:∀K:Aa->Ac->Prop,(∀r q,j r q->K r q)->XG P n pre (L3 n E (R9 m.next K)) (wpS P n x λx e k=>match x with
   |.normal=>∃J cap,AG n e g=.func (.func J) [] cap/\Jv P ⟨k.next,n,ps,e,Ed,bd,[]⟩ J (.Dt k.next::cap) (k.at (k.next+1)) λ_ m2=>Ew P n y (L3 n E (R9 m.next K)) e m2
   |.ret=>L3 n E (R9 m.next K) .ret e k
   |_=>False) (R4 0 args []) m):Bo P f args m j:=by
 subst N;replace h:=h j λ_ _ h=>h;obtain⟨c,I,x',b',g',ad,aa,ab,y',u,hc,hg,Cz,C,S,o,ex,G,s,F,ey⟩:=Zxf hp;have O:args.length<=n:=Nat.le_of_ble_eq_true hl;have hA:Aw P f args m.mem [] λr k=>∃q:Ac,k=q.mem/\R9 m.next j r q:=by
  refine Zxt hf u C Cz ?_;simp only at S o ex G s F ey hg;obtain⟨K,hK⟩:∃K:AY->Prop,K=λσ=>match I6 σ.t σ.m E with|some r=>∃q:Ac,σ.m=q.mem/\R9 m.next j r q|none=>False:=⟨_,rfl⟩
  have B:∀e (k:Ac),D3 (R9 m.next j) k (Q9 n e k E)->K ⟨AQ n e,k.mem⟩:=λe k A=>by
   obtain⟨v,g1,g2⟩:=Wz A;grind
  suffices A:AR P c K ⟨AQ n (R4 0 args []),m.mem⟩ by
   intro W Φ ρ a w M ht N;rw[hK]at A;refine A W Φ ρ a w M (ht.sub (by rw[M0];simp;omega) λi x D=>?_) N;have hi:i<n:=by
    have:=(gS.1 D).1;rwa[M0]at this
   rw[H7 hi,Sr]at D;injection D with D
   by_cases H:0<=i/\i<0+args.length
   ·grind
   rw[iN H]at D;exact .inl D.symm
  rw[hc];rw[o]at h;clear o hc u;revert h;generalize R4 0 args []=e0;generalize Q:m.next=n0 at *;clear Q O hl;intro h;induction I generalizing e0 m with
  |nil=>
   simp only[List.map_nil,XG]at h;simp only[GZ];refine Zx1 hg ?_;rw[ex]at h;refine St hm x' _ _ (QA (pN h) λz σ d=>?_);cases z<;>simp only[E4]at d<;>first|exact d.elim|skip
   ·obtain⟨e,k,rfl,J,cap,L,H⟩:=d;refine⟨J,[],cap,by rw[K8];exact L,λl r T U V X Y=>?_⟩;have:=H l r T U (by rw[V,<-G]) (by rw[X,<-s]) (by rw[Y,<-F]);refine this.mono λv ac A=>?_;obtain⟨m2,rfl,A⟩:=A;rw[<-ey];refine pH A λz e m d=>?_;cases z<;>first|exact d.elim|exact B _ _ d
   ·obtain⟨_,_,_,d⟩:=d;exact d.elim
   ·obtain⟨e,k,rfl,d⟩:=d;exact B _ _ d
   ·obtain⟨_,_,_,d⟩:=d;exact d.elim
   grind
  |cons a r ih=>
   simp only[List.map_cons,XG]at h;simp only[GZ];refine iX (St hm a _ _ (QA (pN h) λz σ d=>?_));cases z<;>simp only[E4]at d<;>first|exact d.elim|skip
   ·obtain⟨e,k,rfl,d⟩:=d;exact ih e d
   ·obtain⟨_,_,_,d⟩:=d;exact d.elim
   ·obtain⟨e,k,rfl,d⟩:=d;exact B _ _ d
   ·obtain⟨_,_,_,d⟩:=d;exact d.elim
   grind
 refine⟨hA.1,λW Φ ρ vs w M ha BE=>(hA.2 W Φ ρ vs w M ha BE).mono ?_⟩;rintro e w' ⟨v,r,k,Am,ρ',rfl,L,H,h3,h4,h5,q,rfl,h6⟩;have hk:∀b,b<m.next->ρ' b=ρ b:=λb u=>by
  cases hq:ρ b with
  |none=>exact H b u (by simp) hq
  |some l=>exact L.CN b l hq
 obtain⟨r2,m2,Z,T,U,V,X,Y,q6⟩:=ur (w:=w) (λb l u=>M.fresh b l u) L.AX hk h3 h4 h6;exact⟨v,r2,m2.mem,Am,Z,rfl,T,λb u _ h0=>(U b u).trans h0,V,X,Y,m2,rfl,q6⟩
theorem Z8w{g:FuncId}{Bj args:List Aa}{v0:Aa}(h:Au P g Bj v0)(q:match v0 with | .int _ _ | .bool _=>True|_=>False){m:Mem}(S:List Nat)(F:args.map (DP m.get S)=Bj)(A:List Nat):Aw P g args m A λr z=>r=v0/\z=m:=by
 subst F;have s:=h ⟨λ_=>none,m.next⟩ [];refine⟨s.1,λW Φ ρ vs w n a L=>?_⟩;obtain⟨Bs,M,C,N,O,D⟩:=Sg S n;have k:RL Bs ρ (args.map (DP m.get S)) vs:=by
  refine⟨by rw[a.1,lM],λi x v d q=>?_⟩;rw[gM]at d;cases f:args[i]? with
  |none=>grind
  |some y=>
   rw[f]at d;injection d with d
   subst d;exact D _ _ (a.2 i y v f q)
 refine(s.2 ⟨w,λ_=>none,Bs⟩ Bs ρ vs w ⟨⟨Below.refl _ _,λB o j=>(by cases j)⟩,C,λb y f=>(by cases f),λb b' y U l l' E=>(by cases E),λb l I=>n.fresh b l I,λB c j=>.inl j⟩ k (λb G=>by simp at G)).mono λe w' H=>?_;obtain⟨u,r,z,K,ρ',rfl,Q,T,p,t,J,rfl,rfl⟩:=H;refine⟨u,r,m,Φ,ρ,rfl,.refl _ _,λb _ _ h=>h,n.below p.base.below,?_,lR _,rfl,rfl⟩;cases r<;>first|exact q.elim|skip
 ·cases t;exact .bool _
 cases t;exact .int _ _
def Ig(get:Nat→Option Af)(x:List Nat)(c:Nat):Option Af:=bif V1 c x then none else get c
theorem Z6q{g:FuncId}{Bj args:List Aa}{v0:Aa}(h:Au P g Bj v0)(i:match v0 with | .int _ _ | .bool _=>True|_=>False){m:Ac}{x:List Nat}(S:List Nat)(f:args.map (DP (Ig m.get x) S)=Bj){k:Nat}{K:Aa->Option Af->Prop}(d:K v0 none):DC P g args k x m K:=by
 refine⟨v0,none,?_,d⟩;refine Z8w h i S ?_ [k];have e:(m.mem.less x).get=Ig m.get x:=by
  funext c
  unfold Ig;show(if c∈x then none else m.get c)=_;by_cases a:c∈x
  ·rw[iP a,Bu.2 a];rfl
  rw[iN a];cases b:V1 c x with
  |false=>rfl
  |true=>exact absurd (Bu.1 b) a
 rw[e];exact f
variable {Q:Exit→Env→Ac→Prop} {K:Env→Ac→Prop} {e:Env} {m:Ac}
theorem Yhx:CT P y n n0 .skip Q e m=Q .normal e m:=propext Iff.rfl
theorem Z77(a:List Ag):CT P y n n0 (.region false a) Q e m=if a.any wQ=true then Et P y n m.next a 0 (Q .normal) e (m.at (m.next+a.length))else V7 P false n m.next a 0 (Q .normal) e (m.at (m.next+a.length)):=propext Iff.rfl
theorem Yld(a b:An):CT P y n n0 (.seq a b) Q e m=CT P y n n0 a (O0 (CT P y n n0 b Q) Q) e m:=propext Iff.rfl
theorem Yi9(c:Ah)(a b:An):CT P y n n0 (.cond c a b) Q e m=Ic (AG n e c) (CT P y n n0 a Q e m) (CT P y n n0 b Q e m):=propext Iff.rfl
theorem Yk0(i:Nat)(c:An):CT P y n n0 (.block i c) Q e m=CT P y n n0 c (I2 i Q) e m:=propext Iff.rfl
theorem Ycf(c:An):CT P y n n0 (.scope c) Q e m=CT P y n n0 c Q e m:=propext Iff.rfl
theorem Yha(i:Nat):CT P y n n0 (.exit i) Q e m=Q (.exit i) e m:=propext Iff.rfl
theorem Yje:CT P y n n0 .ret Q e m=Q .ret e m:=propext Iff.rfl
theorem Yg0(a:List Ag):CT P y n n0 (.region true a) Q e m=if a.any (Zt y.wr)=true then Jt P (IY a) n m.next a 0 [] (Q .normal) e (m.at (m.next+a.length))
 else if a.all G9=true then V7 P false n m.next a 0 (Q .normal) e (m.at (m.next+a.length))
 else if a.all (λo=>o.un.isEmpty)=true then V7 P true n m.next a 0 (Q .normal) e (m.at (m.next+a.length))
 else H4 P (IY a) n m.next a 0 [] (Q .normal) e (m.at (m.next+a.length)):=propext Iff.rfl
theorem Sl{keep:List Nat}{i:Nat}{a:List (Nat×FT)}:Jt P keep n base [] i a K e m=K e m:=propext Iff.rfl
theorem Sz{keep:List Nat}{i:Nat}{a:List (Nat×FT)}(d:Option Nat)(op:Ba)(un:List Nat)(r:List Ag):Jt P keep n base (⟨d,op,none,un⟩ :: r) i a K e m=match op with
 |.call f xs=>(match U9 n e f xs with
  |some (g,args)=>WC P g args (base+i) (DX base i r.length) m λwl v b=>H8 a (.call wl (DX base i r.length) m.next) un/\Jt P keep n base r (i+1) (L8 keep i (.call wl (DX base i r.length) m.next) a) K (Y8 e d v) b
  |none=>False)
 |op=>(match Ak (base+i) (AG n e) m.get op with
  |some (v,w)=>H8 a (.ops (S9 (base+i) (AG n e) op) (S8 (AG n e) op)) un/\Jt P keep n base r (i+1) (L8 keep i (.ops (S9 (base+i) (AG n e) op) (S8 (AG n e) op)) a) K (Y8 e d v) (m.app w)
  |none=>False):=by
 cases op<;>rfl
@[congr] theorem Ym2{g:FuncId}{args args':List Aa}{k:Nat}{x:List Nat}{m:Ac}{K:List Nat -> Aa -> Ac -> Prop}(h:args=args'):WC P g args k x m K=WC P g args' k x m K:=by rw [h]
@[congr] theorem Ymh{c:An}{e e':Env}{m a:Ac}(h:e=e')(b:m=a):CT P y n n0 c Q e m=CT P y n n0 c Q e' a:=by rw [h, b]
theorem Yaz{i:Nat}:Et P y n base [] i K e m=K e m:=propext Iff.rfl
theorem Ykv{i:Nat}(d:Option Nat)(f:Ah)(xs:List Ah)(un:List Nat)(r:List Ag):Et P y n base (⟨d,.call f xs,none,un⟩ :: r) i K e m=(match AG n e f with
 |.Dt b=>b=y.b/\YC P y (xs.map (AG n e)) m λv a=>Et P y n base r (i+1) K (Y8 e d v) a
 |_=>False):=by
 simp only[Et,S2,HO]
theorem Z9l{i:Nat}(d:Option Nat)(op:Ba)(un:List Nat)(r:List Ag)(a:∀f xs,op≠.call f xs):Et P y n base (⟨d,op,none,un⟩ :: r) i K e m=He (Ak (base+i) (AG n e) m.get op) λv w=>Et P y n base r (i+1) K (Y8 e d v) (m.app w):=by
 cases op<;>first|rfl|grind
theorem Ydg{α:Type}{c:An}(E:α->Env)(M:α->Ac)(g:α->Nat)(b:α->Prop)(f:α)(q:Di n n0 (E f) (M f) e m)(i:b f)
 (h:∀a,b a -> ∀N:Env->Ac->Prop,(∀d e m,g d<g a->b d->Di n n0 (E d) (M d) e m->N e m)->CT P y n n0 c (O0 N Q) (E a) (M a)):CT P y n n0 (.loop c) Q e m:=by
 refine⟨λk e m=>∃a,k=g a/\b a/\e=E a/\m=M a,⟨g f,_,_,q,f,rfl,i,rfl,rfl⟩,?_⟩;rintro k r s ⟨a,rfl,p,rfl,rfl⟩;exact h a p _ λd e m j l o=>⟨g d,E d,M d,j,o,d,rfl,l,rfl,rfl⟩
theorem bD{α:Type}{c:An}(E:α->Env)(M:α->Ac)(g:α->Nat)(b:α->Prop)(f:α)(l:List (Nat×Nat))(r:Bm n0 l (E f) (M f) e m)(i:b f)
 (h:∀a,b a -> ∀N:Env->Ac->Prop,(∀d l e m,g d<g a->b d->Bm n0 l (E d) (M d) e m->N e m)->CT P y n n0 c (O0 N Q) (E a) (M a)):CT P y n n0 (.loop c) Q e m:=
 Ydg E M g b f r.wk i λa q N p=>h a q N λd l e m j k o=>p d e m j k o.wk
end
section
theorem Yj1(d:Option Nat)(op:Ba)(g:Option (Nat×Bool))(un:List Nat):wQ ⟨d,op,g,un⟩=F9 op:=rfl
theorem Z7e(f:FuncId)(xs:List Ah):F9 (.call (.fn f) xs)=false:=rfl
theorem Ygm(t:Nat)(xs:List Ah):F9 (.call (.tmp t) xs)=true:=rfl
theorem Z63(l:List FuncId)(d:Option Nat)(op:Ba)(g:Option (Nat×Bool))(un:List Nat):Zt l ⟨d,op,g,un⟩=F6 l op:=rfl
theorem Ycr(l:List FuncId)(f:FuncId)(xs:List Ah):F6 l (.call (.fn f) xs)=V1 f l:=rfl
theorem Ycy(l:List FuncId)(t:Nat)(xs:List Ah):F6 l (.call (.tmp t) xs)=false:=rfl
theorem Yhk(x:Ah):F9 (.Gl x)=false:=rfl
theorem Ylc(l:List FuncId)(x:Ah):F6 l (.Gl x)=false:=rfl
theorem Yb3(n:Option Nat)(x:Ah):F9 (.load n x)=false:=rfl
theorem Yfm(l:List FuncId)(n:Option Nat)(x:Ah):F6 l (.load n x)=false:=rfl
theorem Ykx(n:Nat)(a x:Ah):F9 (.store n a x)=false:=rfl
theorem Yjs(l:List FuncId)(n:Nat)(a x:Ah):F6 l (.store n a x)=false:=rfl
theorem Ybs(o:Nat)(x:Ah):F9 (.Cg o x)=false:=rfl
theorem Ybz(l:List FuncId)(o:Nat)(x:Ah):F6 l (.Cg o x)=false:=rfl
theorem Ycc(k:Nat)(x i:Ah):F9 (.Dk k x i)=false:=rfl
theorem Ycx(l:List FuncId)(k:Nat)(x i:Ah):F6 l (.Dk k x i)=false:=rfl
theorem Yla(x:Ah):F9 (.BW x)=false:=rfl
theorem Yfa(l:List FuncId)(x:Ah):F6 l (.BW x)=false:=rfl
theorem Yfq(x:Ah):F9 (.CJ x)=false:=rfl
theorem Z9w(l:List FuncId)(x:Ah):F6 l (.CJ x)=false:=rfl
theorem Ye7(o:UnOp)(x:Ah):F9 (.un o x)=false:=rfl
theorem Z7i(l:List FuncId)(o:UnOp)(x:Ah):F6 l (.un o x)=false:=rfl
theorem Yaa(c a b:Ah):F9 (.pick c a b)=false:=rfl
theorem Z7q(l:List FuncId)(c a b:Ah):F6 l (.pick c a b)=false:=rfl
theorem Ydo(o:BinOp)(q:Fv)(x y:Ah):F9 (.bin o q x y)=false:=rfl
theorem Ycu(l:List FuncId)(o:BinOp)(q:Fv)(x y:Ah):F6 l (.bin o q x y)=false:=rfl
theorem Z9f(z:List Aa):F9 (.alloc z)=false:=rfl
theorem Z9s(l:List FuncId)(z:List Aa):F6 l (.alloc z)=false:=rfl
theorem Yda(z:List Aa)(p:List (Nat×Nat×Ah)):F9 (.build z p)=false:=rfl
theorem Yay(l:List FuncId)(z:List Aa)(p:List (Nat×Nat×Ah)):F6 l (.build z p)=false:=rfl
theorem Yfp(k n:Nat)(z:List Aa)(p:List (Nat×Ah)):F9 (.Dq k n z p)=false:=rfl
theorem Yi1(l:List FuncId)(k n:Nat)(z:List Aa)(p:List (Nat×Ah)):F6 l (.Dq k n z p)=false:=rfl
theorem Z89(k b:Nat)(z:List Aa)(s x:Ah):F9 (.append k b z s x)=false:=rfl
theorem Yil(l:List FuncId)(k b:Nat)(z:List Aa)(s x:Ah):F6 l (.append k b z s x)=false:=rfl
theorem Yjx(t:Cv)(z:Aa)(o:Bool)(x i:Ah):F9 (.lookup t z o x i)=false:=rfl
theorem Ydw(l:List FuncId)(t:Cv)(z:Aa)(o:Bool)(x i:Ah):F6 l (.lookup t z o x i)=false:=rfl
theorem Ygo(t:Cv)(a b c:Ah):F9 (.BX t a b c)=false:=rfl
theorem Ylz(l:List FuncId)(t:Cv)(a b c:Ah):F6 l (.BX t a b c)=false:=rfl
theorem Ygt:F9 (.mkMap)=false:=rfl
theorem Z9u(l:List FuncId):F6 l (.mkMap)=false:=rfl
attribute [simp] Yj1 Z7e Ygm Z63 Ycr Ycy Yhk Ylc Yb3 Yfm Ykx Yjs Ybs Ybz Ycc Ycx Yla Yfa Yfq Z9w Ye7 Z7i Yaa Z7q Ydo Ycu Z9f Z9s Yda Yay Yfp Yi1 Z89 Yil Yjx Ydw Ygo Ylz Ygt Z9u
end
end Go.AE
