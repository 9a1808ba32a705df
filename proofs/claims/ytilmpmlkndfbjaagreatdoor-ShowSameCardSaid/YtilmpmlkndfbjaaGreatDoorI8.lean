/- Part 8 of the proof: AeIb, Pc. -/
import Derived.Test.YtilmpmlkndfbjaaGreatDoorI7
import Derived.Lib.Join
set_option linter.all false
section
namespace Go.AE
open Go.RowKit
def Z0u(P:Program)(J:FuncId):Prop:=
 Zic P J ∧ ∀(bk o c:Nat) (xs:List ByteArray) (sep:ByteArray) (w:World),(∀(j:Nat) x,xs[j]? = some x→w.cell? ⟨bk,o+j,none⟩=some (.string x))→bk<w.heap.size→xs.length≤140737488355328→xs.length≤c →
  (Lib.join (xs.map (·.data.toList)) sep.data.toList).length≤140737488355328 →
  Calls P J #[.slice (some ⟨bk,o,none⟩) xs.length c,.string sep] w fun e w'=>e=.returned (.string ⟨(Lib.join (xs.map (·.data.toList)) sep.data.toList).toArray⟩)∧Below w.heap.size w w'
def Zgz:List (List AVal)→Option (List (List UInt8))
 | []=>some []
 | [.str s] :: r=>match Zgz r with
  | some l=>some (s :: l)
  | none=>none
 | _=>none
theorem Zvk:∀ {rows:List (List AVal)} {l:List (List UInt8)},Zgz rows=some l→rows=l.map fun s=>[AVal.str s]
 | [],l,h=>by
  simp only[Zgz,oI]at h;subst h; rfl
 | row :: r,l,h=>by
  unfold Zgz at h;split at h<;>first|(cases h; done)|skip
  ·rename_i a; cases a
  ·rename_i s c a;injection a with h1 h2
   subst h1; subst h2;cases b:Zgz r with
   | none=>simp[b]at h
   | some l'=>
    simp only[b,oI]at h;subst h;rw[Zvk b];rfl
def Zmz(J:Nat):Caller:=fun g args m=>
 bif Nat.beq g J then match args with
  | [.sl b off len,.str sep]=>match m.tr.get b with
   | some (.cells 1 els)=>bif Nat.ble (off+len) els.length&&Nat.ble 1 len&&Nat.ble len 1000000 then match Zgz ((els.drop off).take len)with
    | some l=>bif Nat.ble (Lib.join l sep).length 1000000 then some (.str (Lib.join l sep),m,[])else none
    | none=>none
    else none
   | _=>none
  | _=>none
 else none
theorem Zym{P:Program}{J:Nat}(N:Z0u P J):P4 P (Zmz J):=by
 intro g args m v m' wl h;unfold Zmz at h;cases F:Nat.beq g J with
 | false=>rw[F]at h; cases h
 | true=>
  rw[F]at h;simp only[cond_true]at h;have H:=Nat.eq_of_beq_eq_true F;subst H;split at h<;>first|(cases h; done)|skip
  rename_i b off len B;split at h<;>first|(cases h; done)|skip
  rename_i els G;cases p:Nat.ble (off+len) els.length&&Nat.ble 1 len&&Nat.ble len 1000000 with
  | false=>rw[p]at h; cases h
  | true=>
   rw[p]at h;simp only[cond_true]at h;simp only[bA]at p;have Y:=Nat.le_of_ble_eq_true p.1.1;have Z:=Nat.le_of_ble_eq_true p.1.2;have h3:=Nat.le_of_ble_eq_true p.2;cases A:Zgz ((els.drop off).take len)with
   | none=>simp[A]at h
   | some l=>
    simp only[A]at h;cases E:Nat.ble (Lib.join l B).length 1000000 with
    | false=>rw[E]at h; cases h
    | true=>
     rw[E]at h;simp only[cond_true,oI,pI2]at h;obtain⟨rfl,rfl,rfl⟩:=h;have y:=Nat.le_of_ble_eq_true E;have f:=Zvk A;have K:l.length=len:=by
      have:=congrArg List.length f;simp at this;omega
     refine⟨Nat.le_refl _,fun _ _ _=>rfl,fun id=>⟨N.1,fun W Φ ρ vs w Q D aa=>?_⟩⟩
     obtain⟨v1,L,rfl⟩:∃ v1 L,vs = #[v1,L]:=by
      have A:vs.size=2:=by simpa using D.1
      refine⟨vs[0],vs[1],?_⟩;apply Array.ext
      ·simp[A]
      ·intro i Y Z;have:i=0∨i=1:=by omega
       rcases this with rfl|rfl<;>rfl
     have r1:=D.2 0 _ v1 rfl rfl;have r2:=D.2 1 _ L rfl rfl;have U:=Za1 r2;subst U;have I:m.mem.get b=some (.cells 1 els):=G;cases r1 with
     | sl _ _ _ a cap lo hl ad ab r O=>
      have V:=r (by omega)
      subst V;obtain⟨x1,ob,C,g2,g3,M,X⟩:=Q.live b _ I;rw[hl]at C; injection C with C; subst C
      cases X with
      | cells _ _ _ c t q1 q2 q3 q4 q5=>
       have o:∀ (j:Nat) (x:ByteArray),(l.map fun s=>(⟨⟨s⟩⟩:ByteArray))[j]? = some x→w.cell? ⟨lo.blk,(lo.sh+off)*lo.k+j,none⟩=some (.string x):=by
        intro j x q;rw[List.getElem?_map]at q;cases n:l[j]? with
        | none=>rw[n]at q; cases q
        | some s=>
         rw[n]at q;simp only[Option.map_some,oI]at q;subst q;have ac:j<l.length:=(gS.1 n).1;have z:els[off+j]? = some [.str s]:=by
          have S:((els.drop off).take len)[j]? = some [AVal.str s]:=by rw[f,List.getElem?_map,n]; rfl
          rw[List.getElem?_take,if_pos (by omega),List.getElem?_drop]at S
          exact S
         obtain⟨u,k1,_,k3⟩:=q4.2 (off+j) _ 0 _ z rfl;have:=Za1 k3;subst this;simp only[World.cell?,M,Option.isSome_none,bF,if_false];rw[← k1,q1]
         congr 1
         omega
       have d:=N.2 lo.blk ((lo.sh+off)*lo.k) cap (l.map fun s=>(⟨⟨s⟩⟩:ByteArray)) ⟨⟨B⟩⟩ w o (B5 M) (by simp; omega) (by simp; omega) (by simpa[Function.comp_def]using Nat.le_trans y (by decide))
       rw[List.length_map,K]at d;refine d.mono ?_;rintro e w' ⟨rfl,hB⟩;refine⟨_,_,m.mem,Φ,ρ,rfl,.refl _ _,fun _ _ _ h=>h,Q.below hB,?_,Nat.le_refl _,rfl,rfl⟩
       have:(l.map fun s=>(⟨⟨s⟩⟩:ByteArray)).map (·.data.toList)=l:=by
        rw[List.map_map];exact List.map_id'' (fun _=>rfl) l
       rw[this];exact .str _
end Go.AE
end
section
namespace Go.Plain
def X8{α:Type}(n i:Nat)(v:Nat→α)(d:α):List α:=(List.range n).map fun j=>if j<i then v j else d
theorem Zaw{α:Type}(n i:Nat)(v:Nat→α)(d:α):(X8 n i v d).length=n:=by simp[X8]
theorem Zbc{α:Type}{n i j:Nat}{v:Nat→α}{d:α}(h:j<n):(X8 n i v d)[j]? = some (if j<i then v j else d):=by simp[X8,h]
theorem Zoh{α:Type}(n:Nat)(v:Nat→α)(d:α):X8 n 0 v d=List.replicate n d:=by
 apply List.ext_getElem?;intro j;by_cases h:j<n
 ·rw[Zbc h,List.getElem?_replicate,if_pos h]; simp
 ·rw[List.getElem?_eq_none (by rw[Zaw]; omega),List.getElem?_eq_none (by simp; omega)]
theorem Zof{α:Type}{n i:Nat}{v:Nat→α}{d:α}(h:i<n):(X8 n i v d).set i (v i)=X8 n (i+1) v d:=by
 apply List.ext_getElem?;intro j;rw[List.getElem?_set];by_cases c:j<n
 ·rw[Zbc c,Zbc c,Zaw];by_cases a:i=j
  ·subst a; rw[if_pos rfl,if_pos h,if_pos (by omega)]
  ·rw[if_neg a];by_cases b:j<i
   ·rw[if_pos b,if_pos (by omega)]
   ·rw[if_neg b,if_neg (by omega)]
 ·rw[List.getElem?_eq_none (by rw[Zaw]; omega),List.getElem?_eq_none (by rw[Zaw]; omega),if_neg (by omega)]
theorem Zy0{α:Type}{n i:Nat}{v:Nat→α}{d:α}(h:v i=d):X8 n (i+1) v d=X8 n i v d:=by
 apply List.map_congr_left;intro j _;by_cases a:j<i
 ·rw[if_pos a,if_pos (by omega)]
 ·by_cases b:j=i
  ·subst b; rw[if_pos (by omega),if_neg a,h]
  ·rw[if_neg a,if_neg (by omega)]
def R5(F:Nat)(ls:List Lt):List Nat:=(List.range (F+1)).map fun g=>inG (g:Nat) ls
theorem Zf2(F:Nat)(ls:List Lt):(R5 F ls).length=F+1:=by simp[R5]
theorem Zhx{F g:Nat}{ls:List Lt}(h:g≤F):(R5 F ls)[g]? = some (inG (g:Nat) ls):=by
 simp[R5,List.getElem?_range (show g<F+1 by omega)]
theorem Yag(F:Nat):R5 F []=List.replicate (F+1) 0:=by
 apply List.ext_getElem?;intro j;by_cases h:j≤F
 ·rw[Zhx h,List.getElem?_replicate,if_pos (by omega)]; rfl
 ·rw[List.getElem?_eq_none (by rw[Zf2]; omega),List.getElem?_eq_none (by simp; omega)]
theorem Zy7(g:Int)(ls:List Lt)(l:Lt):inG g (ls++[l])=inG g ls+if isP l&&l.g == g then 1 else 0:=by
 unfold inG; rw[Zg7,Zis]; rfl
theorem Z54{F G:Nat}{ls:List Lt}{l:Lt}(d:isP l=true)(b:l.g=(G:Nat))(e:G≤F):(R5 F ls).set G (inG (G:Nat) ls+1)=R5 F (ls++[l]):=by
 apply List.ext_getElem?;intro j;rw[List.getElem?_set];by_cases c:j≤F
 ·rw[Zhx c,Zhx c,Zy7,Zf2];by_cases a:G=j
  ·subst a; rw[if_pos rfl,if_pos (by omega)]; simp[d,b]
  ·rw[if_neg a];have:¬((G:Nat):Int)=(j:Nat):=by omega
   simp[b,this]
 ·rw[List.getElem?_eq_none (by rw[Zf2]; omega),List.getElem?_eq_none (by rw[Zf2]; omega),Zf2,if_neg (by omega)]
theorem Z6l{F:Nat}{ls:List Lt}{l:Lt}(a:isP l=false):R5 F (ls++[l])=R5 F ls:=by
 apply List.map_congr_left;intro j _;rw[Zy7]; simp[a]
def tot(ls:List Lt)(g:Nat):Nat:=Z3 (fun o=>isP o&&decide (o.g<(g:Nat))) ls
theorem Zjw(ls:List Lt)(g:Nat):tot ls (g+1)=tot ls g+inG (g:Nat) ls:=by
 unfold tot inG;rw[Zgc (fun o=>isP o&&decide (o.g<((g+1:Nat):Int))) (fun o=>decide (o.g<(g:Nat)))]
 congr 1
 ·apply R3;intro l _;cases isP l with
  | false=>rfl
  | true=>rw[Bool.eq_iff_iff]; simp; omega
 ·apply R3;intro l _;cases isP l with
  | false=>rfl
  | true=>rw[Bool.eq_iff_iff]; simp; omega
theorem Z2b{p q:Lt→Bool}{ls:List Lt}(h:∀ l,p l=true→q l=true):Z3 p ls≤Z3 q ls:=by
 induction ls with
 | nil=>exact Nat.le_refl _
 | cons l r b=>
  rw[Zis,Zis];cases a:p l with
  | false=>simp; omega
  | true=>rw[h l a]; simp; exact b
theorem Z01(ls:List Lt)(g:Nat):tot ls g≤Z0 ls:=Z2b fun l h=>by simp at h; exact h.1
def Zbe(F:Nat)(ls:List Lt):Prop:=∀ l,l∈ls→isP l=true→0≤l.g∧l.g≤(F:Nat)
theorem Z8d{F:Nat}{ls:List Lt}(h:Zbe F ls):tot ls 0=0:=by
 unfold tot Z3;rw[List.length_eq_zero_iff,List.filter_eq_nil_iff];intro l a;simp only[bA,decide_eq_true_eq,not_and];intro b;have:=(h l a b).1;omega
theorem Z4y{F:Nat}{ls:List Lt}(h:Zbe F ls):tot ls (F+1)=Z0 ls:=by
 unfold tot Z0;apply R3;intro l a;cases b:isP l with
 | false=>rfl
 | true=>
  have:=(h l a b).2;simp; omega
theorem Zn6{ls:List Lt}{l:Lt}{G:Nat}(a:l.g=(G:Nat)):pos ls l=tot ls G+(l.r - 1).toNat:=by
 unfold pos tot; rw[a]
theorem Zmr{F:Nat}{ls:List Lt}(c:Zbe F ls){l:Lt}(d:l∈ls)(e:isP l=true)(f:1≤l.r)(b:l.r≤(inG l.g ls:Nat)):pos ls l<Z0 ls:=by
 obtain⟨h,i⟩:=c l d e;obtain⟨G,a⟩:∃ G:Nat,l.g=(G:Nat):=⟨l.g.toNat,by omega⟩
 rw[Zn6 a];have:=Zjw ls G;have j:=Z01 ls (G+1);rw[a]at b;omega
def M9(ls:List Lt)(m:Nat):Nat→List Bool
 | 0=>List.replicate m false
 | i+1=>if isP (at' ls i)then (M9 ls m i).set (pos ls (at' ls i)) true else M9 ls m i
def K7(ls:List Lt)(m:Nat):Nat→List Nat
 | 0=>List.replicate m 0
 | i+1=>if isP (at' ls i)then (K7 ls m i).set (pos ls (at' ls i)) i else K7 ls m i
def rkF(ls:List Lt)(m:Nat):Nat→Bool
 | 0=>true
 | i+1=>rkF ls m i&&(!isP (at' ls i)||(decide (1≤(at' ls i).r)&&decide ((at' ls i).r≤(inG (at' ls i).g ls:Nat)) && !(M9 ls m i).getD (pos ls (at' ls i)) true))
theorem Zq7(ls:List Lt)(m:Nat):∀ i,(M9 ls m i).length=m
 | 0=>by simp[M9]
 | i+1=>by simp only[M9]; split<;>simp[Zq7 ls m i]
theorem Zll(ls:List Lt)(m:Nat):∀ i,(K7 ls m i).length=m
 | 0=>by simp[K7]
 | i+1=>by simp only[K7]; split<;>simp[Zll ls m i]
theorem Z6d{ls:List Lt}{m:Nat}:∀ {i j:Nat},i≤j→rkF ls m j=true→rkF ls m i=true:=by
 intro i j a
 induction a with
 | refl=>exact id
 | step _ b=>intro h; simp only[rkF,bA]at h; exact b h.1
def V6(ls:List Lt)(j:Nat):Bool:=isP (at' ls j)&&down ls j
def R6(ls:List Lt)(j:Nat):Nat:=if isP (at' ls j)then pos ls (at' ls j)else 0
end Go.Plain
end
