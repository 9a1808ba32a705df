/- Part 8 -/
import Derived.Test.YtilmpmlkndfbjaaGreatDoorT7
import Derived.Lib.Join
set_option linter.all false
open List (range replicate ext_getElem? getElem?_eq_none)
open Nat (beq ble le_of_ble_eq_true)
namespace Go.AE
open Go.RowKit
def yZ(P:Program)(J:FuncId):Prop:=
 Vl P J ∧ ∀(bk o c:Nat) (xs:List ByteArray) (sep:ByteArray) (w:World),(∀(j:Nat) x,xs[j]? = some x→w.cell? ⟨bk,o+j,none⟩=some (.string x))→bk<w.heap.size→xs.length≤140737488355328→xs.length≤c →
  (Lib.join (xs.map (·.data.toList)) sep.data.toList).length≤140737488355328 →
  Calls P J #[.slice (some ⟨bk,o,none⟩) xs.length c,.string sep] w fun e w'=>e=.returned (.string ⟨(Lib.join (xs.map (·.data.toList)) sep.data.toList).toArray⟩)∧Below w.heap.size w w'
def Sn:List (List Aa)→Option (List (List UInt8))
 | []=>some []
 | [.str s] :: r=>match Sn r with
  | some l=>some (s :: l)
  | none=>none
 | _=>none
theorem qz:∀{rows:List (List Aa)}{l:List (List UInt8)},Sn rows=some l->rows=l.map λs=>[Aa.str s]
 |[],l,h=>by
  simp only[Sn,oI]at h;subst h;rfl
 |row::r,l,h=>by
  unfold Sn at h;split at h<;>first|(cases h;done)|skip
  ·rename_i a;cases a
  rename_i s c a;injection a with h1 h2
  subst h1;subst h2;cases b:Sn r with
  |none=>simp[b]at h
  |some l'=>
   simp only[b,oI]at h;subst h;rw[qz b];rfl
def dQ(J:Nat):Ax:=fun g args m=>
 bif beq g J then match args with
  | [.sl b off len,.str sep]=>match m.tr.get b with
   | some (.cells 1 els)=>bif ble (off+len) els.length&&ble 1 len&&ble len 1000000 then match Sn ((els.drop off).take len)with
    | some l=>bif ble (Lib.join l sep).length 1000000 then some (.str (Lib.join l sep),m,[])else none
    | none=>none
    else none
   | _=>none
  | _=>none
 else none
theorem Zy2{P:Program}{J:Nat}(N:yZ P J):K2 P (dQ J):=by
 intro g args m v m' wl h;unfold dQ at h;cases E:beq g J with
 |false=>rw[E]at h;cases h
 |true=>
  rw[E]at h;simp only[cond_true]at h;have G:=Nat.eq_of_beq_eq_true E;subst G;split at h<;>first|(cases h;done)|skip
  rename_i b off len A;split at h<;>first|(cases h;done)|skip
  rename_i els F;cases o:ble (off+len) els.length&&ble 1 len&&ble len 1000000 with
  |false=>rw[o]at h;cases h
  |true=>
   rw[o]at h;simp only[cond_true]at h;simp only[bA]at o;have X:=le_of_ble_eq_true o.1.1;have Y:=le_of_ble_eq_true o.1.2;have h3:=le_of_ble_eq_true o.2;cases z:Sn ((els.drop off).take len)with
   |none=>simp[z]at h
   |some l=>
    simp only[z]at h;cases D:ble (Lib.join l A).length 1000000 with
    |false=>rw[D]at h;cases h
    |true=>
     rw[D]at h;simp only[cond_true,oI,AT]at h;obtain⟨rfl,rfl,rfl⟩:=h;have r:=le_of_ble_eq_true D;have d:=qz z;have I:l.length=len:=by
      have:=congrArg List.length d;simp at this;omega
     refine⟨lR _,λ_ _ _=>rfl,λid=>⟨N.1,λW Φ ρ vs w Q C BE=>?_⟩⟩;obtain⟨v1,K,rfl⟩:∃v1 K,vs = #[v1,K]:=by
      have z:vs.size=2:=by simpa using C.1
      refine⟨vs[0],vs[1],?_⟩;apply Array.ext
      ·simp[z]
      intro i X Y;have:i=0\/i=1:=by omega
      rcases this with rfl|rfl<;>rfl
     have r1:=C.2 0 _ v1 rfl rfl;have r2:=C.2 1 _ K rfl rfl;have T:=Kx r2;subst T;have H:m.mem.get b=some (.cells 1 els):=F;cases r1 with
     |sl _ _ _ a cap lo hl ab FM q O=>
      have U:=q (by omega);subst U;obtain⟨x1,ob,B,g2,g3,M,V⟩:=Q.live b _ H;rw[hl]at B;injection B with B;subst B
      cases V with
      |cells _ _ _ c t q1 q2 q3 q4 q5=>
       have n:∀(j:Nat) (x:ByteArray),(l.map λs=>(⟨⟨s⟩⟩:ByteArray))[j]?=some x->w.cell? ⟨lo.blk,(lo.sh+off)*lo.k+j,none⟩=some (.string x):=by
        intro j x p;rw[gM]at p;cases f:l[j]? with
        |none=>rw[f]at p;cases p
        |some s=>
         rw[f]at p;simp only[Option.map_some,oI]at p;subst p;have aa:j<l.length:=(gS.1 f).1;have y:els[off+j]?=some [.str s]:=by
          have S:((els.drop off).take len)[j]?=some [Aa.str s]:=by rw[d,gM,f];rfl
          rw[List.getElem?_take,iP (by omega),List.getElem?_drop]at S;exact S
         obtain⟨u,k1,_,k3⟩:=q4.2 (off+j) _ 0 _ y rfl;have:=Kx k3;subst this;simp only[World.cell?,M,Option.isSome_none,bF,if_false];rw[<-k1,q1]
         congr 1
         omega
       have L:=N.2 lo.blk ((lo.sh+off)*lo.k) cap (l.map λs=>(⟨⟨s⟩⟩:ByteArray)) ⟨⟨A⟩⟩ w n (D9 M) (by simp;omega) (by simp;omega) (by simpa[Function.comp_def]using Nat.le_trans r (by decide));rw[lM,I]at L;refine L.mono ?_;rintro e w' ⟨rfl,Z⟩;refine⟨_,_,m.mem,Φ,ρ,rfl,.refl _ _,λ_ _ _ h=>h,Q.below Z,?_,lR _,rfl,rfl⟩;have:(l.map λs=>(⟨⟨s⟩⟩:ByteArray)).map (·.data.toList)=l:=by
        rw[List.map_map];exact List.map_id'' (λ_=>rfl) l
       rw[this];exact .str _
def Good(P:Program)(p:Nat×AD):Prop:=(∃ fn,P.funcs[p.1]? = some fn∧Bk P fn=some p.2)∧I0 p.2.ntmps p.2.body=true∧ble p.2.ntmps bound=true∧ble (p.1+1) bound=true
def OH(P:Program):List (Nat×AD)→Prop
 | []=>True
 | p :: r=>Good P p∧OH P r
def Vk:List (Nat×AD)→Tr AD
 | []=>.nil
 | p :: r=>(Vk r).set depth p.1 (some p.2)
theorem Z5y{P:Program}:∀{l:List (Nat×AD)},OH P l -> ∀g a,(Vk l).get g=some a->Good P (g,a)
 |[],_,g,a,h=>by simp[Vk,Tr.get_nil]at h
 |p::r,b,g,a,h=>by
  simp only[Vk]at h;rw[Tr.AB depth _ p.1 _ g (Qj (le_of_ble_eq_true b.1.2.2.2))]at h;split at h
  ·rename_i c;subst c;injection h with h
   subst h;exact b.1
  exact Z5y b.2 g a h
def jT(t:Tr AD):Nat→Option AD:=fun g=>t.get g
theorem Z8n{P:Program}{l:List (Nat×AD)}{t:Tr AD}(e:OH P l)(f:t=Vk l):Ph P (jT t):=by
 subst f;intro g a h;obtain⟨b,c,d,_⟩:=Z5y e g a h;exact⟨b,c,le_of_ble_eq_true d⟩
def nR(BS:Nat→Option AD)(call:Ax)(G:Nat)(p:Ct):Ax:=fun g args m=>
 bif beq g G then Ud BS call p args m else none
theorem Ylx{P:Program}(hm:P.follows .mixedOrders=true){BS:Nat->Option AD}(e:Ph P BS){a:Ax}(d:K2 P a){G:FuncId}{fn:Func}{p:Ct}(k:P.funcs[G]?=some fn)(l:RZ P fn=some p)(c:p.ok=true):K2 P (nR BS a G p):=by
 intro g args m v n wl h;unfold nR at h;cases b:beq g G with
 |false=>rw[b]at h;cases h
 |true=>
  rw[b]at h;simp only[cond_true]at h;have:=Nat.eq_of_beq_eq_true b;subst this;obtain⟨f,i,j⟩:=Yc8 hm e d k l c h;exact⟨f,i,λid=>j [id]⟩
end Go.AE
namespace Go.Plain
def W8{α:Type}(n i:Nat)(v:Nat→α)(d:α):List α:=(range n).map fun j=>if j<i then v j else d
theorem KH{α:Type}(n i:Nat)(v:Nat->α)(d:α):(W8 n i v d).length=n:=by simp[W8]
theorem Lf{α:Type}{n i j:Nat}{v:Nat->α}{d:α}(h:j<n):(W8 n i v d)[j]?=some (if j<i then v j else d):=by simp[W8,h]
theorem iB{α:Type}(n:Nat)(v:Nat->α)(d:α):W8 n 0 v d=replicate n d:=by
 apply ext_getElem?;intro j;by_cases h:j<n
 ·rw[Lf h,List.getElem?_replicate,iP h];simp
 rw[getElem?_eq_none (by rw[KH];omega),getElem?_eq_none (by simp;omega)]
theorem iR{α:Type}{n i:Nat}{v:Nat->α}{d:α}(h:i<n):(W8 n i v d).set i (v i)=W8 n (i+1) v d:=by
 apply ext_getElem?;intro j;rw[List.getElem?_set];by_cases a:j<n
 ·rw[Lf a,Lf a,KH];grind
 rw[getElem?_eq_none (by rw[KH];omega),getElem?_eq_none (by rw[KH];omega),iN (by omega)]
theorem x8{α:Type}{n i:Nat}{v:Nat->α}{d:α}(h:v i=d):W8 n (i+1) v d=W8 n i v d:=by
 apply List.map_congr_left;grind
def O6(F:Nat)(ls:List Lt):List Nat:=(range (F+1)).map fun g=>Bl (g:Nat) ls
theorem Qz(F:Nat)(ls:List Lt):(O6 F ls).length=F+1:=by simp[O6]
theorem Up{F g:Nat}{ls:List Lt}(h:g<=F):(O6 F ls)[g]?=some (Bl (g:Nat) ls):=by
 simp[O6,List.getElem?_range (show g<F+1 by omega)]
theorem Ygi(F:Nat):O6 F []=replicate (F+1) 0:=by
 apply ext_getElem?;intro j;by_cases h:j<=F
 ·rw[Up h,List.getElem?_replicate,iP (by omega)];rfl
 rw[getElem?_eq_none (by rw[Qz];omega),getElem?_eq_none (by simp;omega)]
theorem Z5z(g:Int)(ls:List Lt)(l:Lt):Bl g (ls++[l])=Bl g ls+if As l&&l.g == g then 1 else 0:=by
 unfold Bl;rw[NJ,Pf];rfl
theorem Yb2{F G:Nat}{ls:List Lt}{l:Lt}(d:As l=true)(c:l.g=(G:Nat))(b:G<=F):(O6 F ls).set G (Bl (G:Nat) ls+1)=O6 F (ls++[l]):=by
 apply ext_getElem?;intro j;rw[List.getElem?_set];by_cases a:j<=F
 ·rw[Up a,Up a,Z5z,Qz];grind
 rw[getElem?_eq_none (by rw[Qz];omega),getElem?_eq_none (by rw[Qz];omega),Qz,iN (by omega)]
theorem Yfz{F:Nat}{ls:List Lt}{l:Lt}(a:As l=false):O6 F (ls++[l])=O6 F ls:=by
 apply List.map_congr_left;intro j _;rw[Z5z];simp[a]
def tot(ls:List Lt)(g:Nat):Nat:=Z4 (fun o=>As o&&decide (o.g<(g:Nat))) ls
theorem Xx(ls:List Lt)(g:Nat):tot ls (g+1)=tot ls g+Bl (g:Nat) ls:=by
 unfold tot Bl;rw[Pp (λo=>As o&&decide (o.g<((g+1:Nat):Int))) (λo=>decide (o.g<(g:Nat)))];grind
theorem Zzx{p q:Lt->Bool}{ls:List Lt}(h:∀l,p l=true->q l=true):Z4 p ls<=Z4 q ls:=by
 induction ls with
 |nil=>exact lR _
 |cons l r a=>
  rw[Pf,Pf];grind
theorem Zxm(ls:List Lt)(g:Nat):tot ls g<=Z0 ls:=Zzx λl h=>by simp at h;exact h.1
def Lc(F:Nat)(ls:List Lt):Prop:=∀ l,l∈ls→As l=true→0≤l.g∧l.g≤(F:Nat)
theorem Yet{F:Nat}{ls:List Lt}(h:Lc F ls):tot ls 0=0:=by
 unfold tot Z4;rw[List.length_eq_zero_iff,List.filter_eq_nil_iff];intro l a;simp only[bA,decide_eq_true_eq,not_and];intro b;have:=(h l a b).1;omega
theorem Z7a{F:Nat}{ls:List Lt}(h:Lc F ls):tot ls (F+1)=Z0 ls:=by
 unfold tot Z0;apply J3;intro l a;cases b:As l with
 |false=>rfl
 |true=>
  have:=(h l a b).2;simp;omega
theorem aZ{ls:List Lt}{l:Lt}{G:Nat}(a:l.g=(G:Nat)):pos ls l=tot ls G+(l.r-1).toNat:=by
 unfold pos tot;rw[a]
theorem aF{F:Nat}{ls:List Lt}(c:Lc F ls){l:Lt}(d:l∈ls)(e:As l=true)(f:1<=l.r)(b:l.r<=(Bl l.g ls:Nat)):pos ls l<Z0 ls:=by
 obtain⟨h,i⟩:=c l d e;obtain⟨G,a⟩:∃G:Nat,l.g=(G:Nat):=⟨l.g.toNat,by omega⟩;rw[aZ a];have:=Xx ls G;have j:=Zxm ls (G+1);rw[a]at b;omega
def H5(ls:List Lt)(m:Nat):Nat→List Bool
 | 0=>replicate m false
 | i+1=>if As (at' ls i)then (H5 ls m i).set (pos ls (at' ls i)) true else H5 ls m i
def F3(ls:List Lt)(m:Nat):Nat→List Nat
 | 0=>replicate m 0
 | i+1=>if As (at' ls i)then (F3 ls m i).set (pos ls (at' ls i)) i else F3 ls m i
def EI(ls:List Lt)(m:Nat):Nat→Bool
 | 0=>true
 | i+1=>EI ls m i&&(!As (at' ls i)||(decide (1≤(at' ls i).r)&&decide ((at' ls i).r≤(Bl (at' ls i).g ls:Nat)) && !(H5 ls m i).getD (pos ls (at' ls i)) true))
theorem Zyg(ls:List Lt)(m:Nat):∀i,(H5 ls m i).length=m
 |0=>by simp[H5]
 |i+1=>by simp only[H5];split<;>simp[Zyg ls m i]
theorem cO(ls:List Lt)(m:Nat):∀i,(F3 ls m i).length=m
 |0=>by simp[F3]
 |i+1=>by simp only[F3];split<;>simp[cO ls m i]
theorem Z69{ls:List Lt}{m:Nat}:∀{i j:Nat},i<=j->EI ls m j=true->EI ls m i=true:=by
 intro i j a;induction a with
 |refl=>exact id
 |step _ b=>intro h;simp only[EI,bA]at h;exact b h.1
def U5(ls:List Lt)(j:Nat):Bool:=As (at' ls j)&&down ls j
def O8(ls:List Lt)(j:Nat):Nat:=if As (at' ls j)then pos ls (at' ls j)else 0
abbrev DO:=Int×Int×Int
def Dz(id:Int):List DO→Option (Nat×Int×Int)
 | []=>none
 | (k,v) :: r=>if id=k then some (0,v)else match Dz id r with
  | some (p,w)=>some (p+1,w)
  | none=>none
def F1(o:Bool)(i:Int)(v:Int×Int):Int×Int:=if o then (v.1,i)else (i,v.2)
def P9(o:Bool)(v:Int×Int):Int:=if o then v.2 else v.1
def Fu(E:List DO)(id:Int)(o:Bool)(i:Int):List DO:=
 match Dz id E with
 | some (p,v)=>E.set p (id,F1 o i v)
 | none=>E++[(id,F1 o i (-1,-1))]
def Bf(ls:List Lt):Nat→List DO
 | 0=>[]
 | i+1=>if AO (at' ls i)then Fu (Bf ls i) (at' ls i).i (at' ls i).o i else Bf ls i
def GM(ls:List Lt)(E:List DO)(l:Lt):Bool:=
 match Dz l.i E with
 | none=>true
 | some (_,v)=>decide (P9 l.o v<0)&&decide ((at' ls (P9 (!l.o) v).toNat).s=l.s)
def Fo(ls:List Lt)(n:Nat):Nat→Bool
 | 0=>true
 | i+1=>Fo ls n i&&(!AO (at' ls i)||(decide (1≤(at' ls i).i)&&decide ((at' ls i).i≤(n / 2:Nat))&&GM ls (Bf ls i) (at' ls i)))
theorem Yjp{ls:List Lt}{n:Nat}:∀{i j:Nat},i<=j->Fo ls n j=true->Fo ls n i=true:=by
 intro i j a;induction a with
 |refl=>exact id
 |step _ b=>intro h;simp only[Fo,bA]at h;exact b h.1
def FH(i:Nat)(v:Int×Int):Prop:=(v.1 = -1∨(0≤v.1∧v.1<i))∧(v.2 = -1∨(0≤v.2∧v.2<i)) ∧ ¬(v.1 = -1∧v.2 = -1)
theorem FH.mono{i j:Nat}{v:Int×Int}(h:FH i v)(b:i<=j):FH j v:=by
 obtain⟨c,d,a⟩:=h;exact⟨by omega,by omega,a⟩
theorem UP{id:Int}:∀{E:List DO}{p:Nat}{v:Int×Int},Dz id E=some (p,v)->E[p]?=some (id,v)
 |[],p,v,h=>by cases h
 | (k,w)::r,p,v,h=>by
  simp only[Dz]at h;split at h
  ·grind
  cases a:Dz id r with
  |none=>rw[a]at h;cases h
  |some b=>
   obtain⟨q,u⟩:=b;rw[a]at h;cases h;simpa using UP a
theorem yP{i:Nat}{o:Bool}{v:Int×Int}(h:FH i v\/v=(-1,-1)):FH (i+1) (F1 o i v):=by
 cases o<;>unfold F1 FH at * <;> simp only[bF,if_true,if_false]
 ·rcases h with h|h
  ·omega
  subst h;simp;omega
 grind
theorem Sc(ls:List Lt):∀i,∀e,e∈Bf ls i->FH i e.2
 |0,e,h=>by simp[Bf]at h
 |i+1,e,h=>by
  simp only[Bf]at h;split at h
  ·unfold Fu at h;split at h
   ·rename_i p v b;rcases List.mem_or_eq_of_mem_set h with a|a
    ·exact(Sc ls i e a).mono (by omega)
    subst a;exact yP (.inl (Sc ls i _ (List.mem_of_getElem? (UP b))))
   rw[List.mem_append,List.mem_singleton]at h;rcases h with a|a
   ·exact(Sc ls i e a).mono (by omega)
   subst a;exact yP (.inr rfl)
  exact(Sc ls i e h).mono (by omega)
theorem yR(ls:List Lt):∀i,(Bf ls i).length<=i
 |0=>lR _
 |i+1=>by
  simp only[Bf];have:=yR ls i;split
  ·unfold Fu;grind
  omega
end Go.Plain
