/- Part 8 of the proof: AeIb, AeTb, Pc, Pd. -/
import Derived.Test.YtilmpmlkndfbjaaGreatDoorK7
import Derived.Lib.Join
set_option linter.all false
section
namespace Go.AE
open Go.RowKit
def uT(P:Program)(J:FuncId):Prop:=
 Sa P J ∧ ∀(bk o c:Nat) (xs:List ByteArray) (sep:ByteArray) (w:World),(∀(j:Nat) x,xs[j]? = some x→w.cell? ⟨bk,o+j,none⟩=some (.string x))→bk<w.heap.size→xs.length≤140737488355328→xs.length≤c →
  (Lib.join (xs.map (·.data.toList)) sep.data.toList).length≤140737488355328 →
  Calls P J #[.slice (some ⟨bk,o,none⟩) xs.length c,.string sep] w fun e w'=>e=.returned (.string ⟨(Lib.join (xs.map (·.data.toList)) sep.data.toList).toArray⟩)∧Below w.heap.size w w'
def Om:List (List Aa)→Option (List (List UInt8))
 | []=>some []
 | [.str s] :: r=>match Om r with
  | some l=>some (s :: l)
  | none=>none
 | _=>none
theorem nW:∀ {rows:List (List Aa)} {l:List (List UInt8)},Om rows=some l→rows=l.map fun s=>[Aa.str s]
 | [],l,h=>by
  simp only[Om,oI]at h;subst h; rfl
 | row :: r,l,h=>by
  unfold Om at h;split at h<;>first|(cases h; done)|skip
  ·rename_i heq; cases heq
  ·rename_i s r' heq;injection heq with h1 h2
   subst h1; subst h2;cases hr:Om r with
   | none=>simp[hr]at h
   | some l'=>
    simp only[hr,oI]at h;subst h;rw[nW hr];rfl
def Xc(J:Nat):Au:=fun g args m=>
 bif Nat.beq g J then match args with
  | [.sl b off len,.str sep]=>match m.tr.get b with
   | some (.cells 1 els)=>bif Nat.ble (off+len) els.length&&Nat.ble 1 len&&Nat.ble len 1000000 then match Om ((els.drop off).take len)with
    | some l=>bif Nat.ble (Lib.join l sep).length 1000000 then some (.str (Lib.join l sep),m,[])else none
    | none=>none
    else none
   | _=>none
  | _=>none
 else none
theorem uM{P:Program}{J:Nat}(hJ:uT P J):P4 P (Xc J):=by
 intro g args m v m' wl h;unfold Xc at h;cases hg:Nat.beq g J with
 | false=>rw[hg]at h; cases h
 | true=>
  rw[hg]at h;simp only[cond_true]at h;have hge:=Nat.eq_of_beq_eq_true hg;subst hge;split at h<;>first|(cases h; done)|skip
  rename_i b off len sep;split at h<;>first|(cases h; done)|skip
  rename_i els hgT;cases hc:Nat.ble (off+len) els.length&&Nat.ble 1 len&&Nat.ble len 1000000 with
  | false=>rw[hc]at h; cases h
  | true=>
   rw[hc]at h;simp only[cond_true]at h;simp only[bA]at hc;have h1:=Nat.le_of_ble_eq_true hc.1.1;have h2:=Nat.le_of_ble_eq_true hc.1.2;have h3:=Nat.le_of_ble_eq_true hc.2;cases hs:Om ((els.drop off).take len)with
   | none=>simp[hs]at h
   | some l=>
    simp only[hs]at h;cases hb:Nat.ble (Lib.join l sep).length 1000000 with
    | false=>rw[hb]at h; cases h
    | true=>
     rw[hb]at h;simp only[cond_true,oI,AP]at h;obtain⟨rfl,rfl,rfl⟩:=h;have hlen:=Nat.le_of_ble_eq_true hb;have hrows:=nW hs;have HU:l.length=len:=by
      have:=congrArg List.length hrows;simp at this;omega
     refine⟨lR _,fun _ _ _=>rfl,fun id=>⟨hJ.1,fun W Φ ρ vs w hr ha Ch=>?_⟩⟩
     obtain⟨v1,v2,rfl⟩:∃ v1 v2,vs = #[v1,v2]:=by
      have hs:vs.size=2:=by simpa using ha.1
      refine⟨vs[0],vs[1],?_⟩;apply Array.ext
      ·simp[hs]
      ·intro i h1 h2;have:i=0∨i=1:=by omega
       rcases this with rfl|rfl<;>rfl
     have r1:=ha.2 0 _ v1 rfl rfl;have r2:=ha.2 1 _ v2 rfl rfl;have e2:=B8 r2;subst e2;have hgm:m.mem.get b=some (.cells 1 els):=hgT;cases r1 with
     | sl _ _ _ a cap lo hl hle ES hcap hav1=>
      have ea:=hcap (by omega)
      subst ea;obtain⟨x1,ob,g1,g2,g3,g4,g5⟩:=hr.live b _ hgm;rw[hl]at g1; injection g1 with g1; subst g1
      cases g5 with
      | cells _ _ _ c t q1 q2 q3 q4 q5=>
       have hcell:∀ (j:Nat) (x:ByteArray),(l.map fun s=>(⟨⟨s⟩⟩:ByteArray))[j]? = some x→w.cell? ⟨lo.blk,(lo.sh+off)*lo.k+j,none⟩=some (.string x):=by
        intro j x hj;rw[gM]at hj;cases hlj:l[j]? with
        | none=>rw[hlj]at hj; cases hj
        | some s=>
         rw[hlj]at hj;simp only[Option.map_some,oI]at hj;subst hj;have hjl:j<l.length:=(gS.1 hlj).1;have hrow:els[off+j]? = some [.str s]:=by
          have hx:((els.drop off).take len)[j]? = some [Aa.str s]:=by rw[hrows,gM,hlj]; rfl
          rw[List.getElem?_take,iP (by omega),List.getElem?_drop]at hx
          exact hx
         obtain⟨u,k1,_,k3⟩:=q4.2 (off+j) _ 0 _ hrow rfl;have:=B8 k3;subst this;simp only[World.cell?,g4,Option.isSome_none,bF,if_false];rw[← k1,q1]
         congr 1
         omega
       have Aw:=hJ.2 lo.blk ((lo.sh+off)*lo.k) cap (l.map fun s=>(⟨⟨s⟩⟩:ByteArray)) ⟨⟨sep⟩⟩ w hcell (G4 g4) (by simp; omega) (by simp; omega) (by simpa[Function.comp_def]using Nat.le_trans hlen (by decide))
       rw[lM,HU]at Aw;refine Aw.mono ?_;rintro e w' ⟨rfl,hB⟩;refine⟨_,_,m.mem,Φ,ρ,rfl,.refl _ _,fun _ _ _ h=>h,hr.below hB,?_,lR _,rfl,rfl⟩
       have:(l.map fun s=>(⟨⟨s⟩⟩:ByteArray)).map (·.data.toList)=l:=by
        rw[List.map_map];exact List.map_id'' (fun _=>rfl) l
       rw[this];exact .str _
end Go.AE
end
section
namespace Go.AE
open Go.RowKit
def Good(P:Program)(p:Nat×Av):Prop:=(∃ fn,P.funcs[p.1]? = some fn∧Bt P fn=some p.2)∧O2 p.2.ntmps p.2.body=true∧Nat.ble p.2.ntmps bound=true∧Nat.ble (p.1+1) bound=true
def Lo(P:Program):List (Nat×Av)→Prop
 | []=>True
 | p :: r=>Good P p∧Lo P r
def QV:List (Nat×Av)→Tr Av
 | []=>.nil
 | p :: r=>(QV r).set depth p.1 (some p.2)
theorem nO{P:Program}:∀ {l:List (Nat×Av)},Lo P l → ∀ g af,(QV l).get g=some af→Good P (g,af)
 | [],_,g,af,h=>by simp[QV,Tr.get_nil]at h
 | p :: r,ha,g,af,h=>by
  simp only[QV]at h;rw[Tr.Ax depth _ p.1 _ g (MT (Nat.le_of_ble_eq_true ha.1.2.2.2))]at h;split at h
  ·rename_i hg;subst hg;injection h with h
   subst h;exact ha.1
  ·exact nO ha.2 g af h
def Yj(t:Tr Av):Nat→Option Av:=fun g=>t.get g
theorem Z9m{P:Program}{l:List (Nat×Av)}{t:Tr Av}(ha:Lo P l)(ht:t=QV l):LJ P (Yj t):=by
 subst ht;intro g af h;obtain⟨h1,h2,h3,_⟩:=nO ha g af h;exact⟨h1,h2,Nat.le_of_ble_eq_true h3⟩
def bR(BE:Nat→Option Av)(call:Au)(G:Nat)(p:CI):Au:=fun g args m=>
 bif Nat.beq g G then Qq BE call p args m else none
theorem uj{P:Program}(hm:P.follows .mixedOrders=true){BE:Nat→Option Av}(DI:LJ P BE){call:Au}(Aw:P4 P call){G:FuncId}{fn:Func}{p:CI}(hf:P.funcs[G]? = some fn)(hp:RM P fn=some p)(hok:p.ok=true):P4 P (bR BE call G p):=by
 intro g args m v m' wl h;unfold bR at h;cases hg:Nat.beq g G with
 | false=>rw[hg]at h; cases h
 | true=>
  rw[hg]at h;simp only[cond_true]at h;have:=Nat.eq_of_beq_eq_true hg;subst this;obtain⟨h1,h2,h3⟩:=xq hm DI Aw hf hp hok h;exact⟨h1,h2,fun id=>h3 [id]⟩
end Go.AE
end
section
namespace Go.Plain
def V2{α:Type}(n i:Nat)(v:Nat→α)(d:α):List α:=(List.range n).map fun j=>if j<i then v j else d
theorem KS{α:Type}(n i:Nat)(v:Nat→α)(d:α):(V2 n i v d).length=n:=by simp[V2]
theorem LF{α:Type}{n i j:Nat}{v:Nat→α}{d:α}(h:j<n):(V2 n i v d)[j]? = some (if j<i then v j else d):=by simp[V2,h]
theorem YF{α:Type}(n:Nat)(v:Nat→α)(d:α):V2 n 0 v d=List.replicate n d:=by
 apply List.ext_getElem?;intro j;by_cases h:j<n
 ·rw[LF h,List.getElem?_replicate,iP h]; simp
 ·rw[List.getElem?_eq_none (by rw[KS]; omega),List.getElem?_eq_none (by simp; omega)]
theorem Yn{α:Type}{n i:Nat}{v:Nat→α}{d:α}(h:i<n):(V2 n i v d).set i (v i)=V2 n (i+1) v d:=by
 apply List.ext_getElem?;intro j;rw[List.getElem?_set];by_cases hj:j<n
 ·rw[LF hj,LF hj,KS]
  grind
 ·rw[List.getElem?_eq_none (by rw[KS]; omega),List.getElem?_eq_none (by rw[KS]; omega),iN (by omega)]
theorem qA{α:Type}{n i:Nat}{v:Nat→α}{d:α}(h:v i=d):V2 n (i+1) v d=V2 n i v d:=by
 apply List.map_congr_left
 grind
def P1(F:Nat)(ls:List Lt):List Nat:=(List.range (F+1)).map fun g=>CS (g:Nat) ls
theorem MB(F:Nat)(ls:List Lt):(P1 F ls).length=F+1:=by simp[P1]
theorem Rh{F g:Nat}{ls:List Lt}(h:g≤F):(P1 F ls)[g]? = some (CS (g:Nat) ls):=by
 simp[P1,List.getElem?_range (show g<F+1 by omega)]
theorem Z6a(F:Nat):P1 F []=List.replicate (F+1) 0:=by
 apply List.ext_getElem?;intro j;by_cases h:j≤F
 ·rw[Rh h,List.getElem?_replicate,iP (by omega)]; rfl
 ·rw[List.getElem?_eq_none (by rw[MB]; omega),List.getElem?_eq_none (by simp; omega)]
theorem kY(g:Int)(ls:List Lt)(l:Lt):CS g (ls++[l])=CS g ls+if AT l&&l.g == g then 1 else 0:=by
 unfold CS; rw[Ni,LX]; rfl
theorem qh{F G:Nat}{ls:List Lt}{l:Lt}(hp:AT l=true)(hg:l.g=(G:Nat))(hG:G≤F):(P1 F ls).set G (CS (G:Nat) ls+1)=P1 F (ls++[l]):=by
 apply List.ext_getElem?;intro j;rw[List.getElem?_set];by_cases hj:j≤F
 ·rw[Rh hj,Rh hj,kY,MB]
  grind
 ·rw[List.getElem?_eq_none (by rw[MB]; omega),List.getElem?_eq_none (by rw[MB]; omega),MB,iN (by omega)]
theorem Z8r{F:Nat}{ls:List Lt}{l:Lt}(hp:AT l=false):P1 F (ls++[l])=P1 F ls:=by
 apply List.map_congr_left;intro j _;rw[kY]; simp[hp]
def tot(ls:List Lt)(g:Nat):Nat:=Z7 (fun o=>AT o&&decide (o.g<(g:Nat))) ls
theorem SR(ls:List Lt)(g:Nat):tot ls (g+1)=tot ls g+CS (g:Nat) ls:=by
 unfold tot CS;rw[VI (fun o=>AT o&&decide (o.g<((g+1:Nat):Int))) (fun o=>decide (o.g<(g:Nat)))]
 grind
theorem uP{p q:Lt→Bool}{ls:List Lt}(h:∀ l,p l=true→q l=true):Z7 p ls≤Z7 q ls:=by
 induction ls with
 | nil=>exact lR _
 | cons l r ih=>
  rw[LX,LX]
  grind
theorem qF(ls:List Lt)(g:Nat):tot ls g≤Z5 ls:=uP fun l h=>by simp at h; exact h.1
def ID(F:Nat)(ls:List Lt):Prop:=∀ l,l∈ls→AT l=true→0≤l.g∧l.g≤(F:Nat)
theorem Zz6{F:Nat}{ls:List Lt}(h:ID F ls):tot ls 0=0:=by
 unfold tot Z7;rw[List.length_eq_zero_iff,List.filter_eq_nil_iff];intro l hl;simp only[bA,decide_eq_true_eq,not_and];intro hp;have:=(h l hl hp).1;omega
theorem Zz9{F:Nat}{ls:List Lt}(h:ID F ls):tot ls (F+1)=Z5 ls:=by
 unfold tot Z5;apply B9;intro l hl;cases hp:AT l with
 | false=>rfl
 | true=>
  have:=(h l hl hp).2;simp; omega
theorem VP{ls:List Lt}{l:Lt}{G:Nat}(hg:l.g=(G:Nat)):pos ls l=tot ls G+(l.r - 1).toNat:=by
 unfold pos tot; rw[hg]
theorem VB{F:Nat}{ls:List Lt}(hG:ID F ls){l:Lt}(hl:l∈ls)(hp:AT l=true)(h1:1≤l.r)(h2:l.r≤(CS l.g ls:Nat)):pos ls l<Z5 ls:=by
 obtain⟨h3,h4⟩:=hG l hl hp;obtain⟨G,hg⟩:∃ G:Nat,l.g=(G:Nat):=⟨l.g.toNat,by omega⟩
 rw[VP hg];have:=SR ls G;have h5:=qF ls (G+1);rw[hg]at h2;omega
def M3(ls:List Lt)(m:Nat):Nat→List Bool
 | 0=>List.replicate m false
 | i+1=>if AT (at' ls i)then (M3 ls m i).set (pos ls (at' ls i)) true else M3 ls m i
def L5(ls:List Lt)(m:Nat):Nat→List Nat
 | 0=>List.replicate m 0
 | i+1=>if AT (at' ls i)then (L5 ls m i).set (pos ls (at' ls i)) i else L5 ls m i
def Eg(ls:List Lt)(m:Nat):Nat→Bool
 | 0=>true
 | i+1=>Eg ls m i&&(!AT (at' ls i)||(decide (1≤(at' ls i).r)&&decide ((at' ls i).r≤(CS (at' ls i).g ls:Nat)) && !(M3 ls m i).getD (pos ls (at' ls i)) true))
theorem vM(ls:List Lt)(m:Nat):∀ i,(M3 ls m i).length=m
 | 0=>by simp[M3]
 | i+1=>by simp only[M3]; split<;>simp[vM ls m i]
theorem Vv(ls:List Lt)(m:Nat):∀ i,(L5 ls m i).length=m
 | 0=>by simp[L5]
 | i+1=>by simp only[L5]; split<;>simp[Vv ls m i]
theorem y7{ls:List Lt}{m:Nat}:∀ {i j:Nat},i≤j→Eg ls m j=true→Eg ls m i=true:=by
 intro i j hij
 induction hij with
 | refl=>exact id
 | step _ ih=>intro h; simp only[Eg,bA]at h; exact ih h.1
def R4(ls:List Lt)(j:Nat):Bool:=AT (at' ls j)&&W4 ls j
def P6(ls:List Lt)(j:Nat):Nat:=if AT (at' ls j)then pos ls (at' ls j)else 0
end Go.Plain
end
section
namespace Go.Plain
abbrev DW:=Int×Int×Int
def Dg(id:Int):List DW→Option (Nat×Int×Int)
 | []=>none
 | (k,v) :: r=>if id=k then some (0,v)else match Dg id r with
  | some (p,w)=>some (p+1,w)
  | none=>none
def L9(o:Bool)(i:Int)(v:Int×Int):Int×Int:=if o then (v.1,i)else (i,v.2)
def S4(o:Bool)(v:Int×Int):Int:=if o then v.2 else v.1
def ED(E:List DW)(id:Int)(o:Bool)(i:Int):List DW:=
 match Dg id E with
 | some (p,v)=>E.set p (id,L9 o i v)
 | none=>E++[(id,L9 o i (-1,-1))]
def Bc(ls:List Lt):Nat→List DW
 | 0=>[]
 | i+1=>if Bv (at' ls i)then ED (Bc ls i) (at' ls i).i (at' ls i).o i else Bc ls i
def FQ(ls:List Lt)(E:List DW)(l:Lt):Bool:=
 match Dg l.i E with
 | none=>true
 | some (_,v)=>decide (S4 l.o v<0)&&decide ((at' ls (S4 (!l.o) v).toNat).s=l.s)
def ER(ls:List Lt)(n:Nat):Nat→Bool
 | 0=>true
 | i+1=>ER ls n i&&(!Bv (at' ls i)||(decide (1≤(at' ls i).i)&&decide ((at' ls i).i≤(n / 2:Nat))&&FQ ls (Bc ls i) (at' ls i)))
theorem Z3r{ls:List Lt}{n:Nat}:∀ {i j:Nat},i≤j→ER ls n j=true→ER ls n i=true:=by
 intro i j hij
 induction hij with
 | refl=>exact id
 | step _ ih=>intro h; simp only[ER,bA]at h; exact ih h.1
def EP(i:Nat)(v:Int×Int):Prop:=(v.1 = -1∨(0≤v.1∧v.1<i))∧(v.2 = -1∨(0≤v.2∧v.2<i)) ∧ ¬(v.1 = -1∧v.2 = -1)
theorem EP.mono{i j:Nat}{v:Int×Int}(h:EP i v)(hij:i≤j):EP j v:=by
 obtain⟨h1,h2,h3⟩:=h;exact⟨by omega,by omega,h3⟩
theorem Rf{id:Int}:∀ {E:List DW} {p:Nat} {v:Int×Int},Dg id E=some (p,v)→E[p]? = some (id,v)
 | [],p,v,h=>by cases h
 | (k,w) :: r,p,v,h=>by
  simp only[Dg]at h;split at h
  ·grind
  ·cases hr:Dg id r with
   | none=>rw[hr]at h; cases h
   | some pw=>
    obtain⟨q,u⟩:=pw;rw[hr]at h;cases h;simpa using Rf hr
theorem qZ{i:Nat}{o:Bool}{v:Int×Int}(h:EP i v∨v=(-1,-1)):EP (i+1) (L9 o i v):=by
 cases o<;>unfold L9 EP at * <;> simp only[bF,if_true,if_false]
 ·rcases h with h|h
  ·omega
  ·subst h; simp; omega
 grind
theorem ON(ls:List Lt):∀ i,∀ e,e∈Bc ls i→EP i e.2
 | 0,e,h=>by simp[Bc]at h
 | i+1,e,h=>by
  simp only[Bc]at h;split at h
  ·unfold ED at h;split at h
   ·rename_i p v hf;rcases List.mem_or_eq_of_mem_set h with h1|h1
    ·exact(ON ls i e h1).mono (by omega)
    ·subst h1;exact qZ (.inl (ON ls i _ (List.mem_of_getElem? (Rf hf))))
   ·rw[List.mem_append,List.mem_singleton]at h;rcases h with h1|h1
    ·exact(ON ls i e h1).mono (by omega)
    ·subst h1;exact qZ (.inr rfl)
  ·exact(ON ls i e h).mono (by omega)
theorem vF(ls:List Lt):∀ i,(Bc ls i).length≤i
 | 0=>lR _
 | i+1=>by
  simp only[Bc];have:=vF ls i;split
  ·unfold ED
   grind
  ·omega
end Go.Plain
end
