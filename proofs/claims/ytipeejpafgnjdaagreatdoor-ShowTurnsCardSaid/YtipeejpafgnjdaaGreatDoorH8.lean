/- Part 8 of the proof: AeIb, Pc. -/
import Derived.Test.YtipeejpafgnjdaaGreatDoorH7
import Derived.Lib.Join
set_option linter.all false
section
namespace Go.AE
open Go.RowKit
def Zvc(P:Program)(J:FuncId):Prop:=
 Zhg P J ∧ ∀(bk o c:Nat) (xs:List ByteArray) (sep:ByteArray) (w:World),(∀(j:Nat) x,xs[j]? = some x→w.cell? ⟨bk,o+j,none⟩=some (.string x))→bk<w.heap.size→xs.length≤140737488355328→xs.length≤c →
  (Lib.join (xs.map (·.data.toList)) sep.data.toList).length≤140737488355328 →
  Calls P J #[.slice (some ⟨bk,o,none⟩) xs.length c,.string sep] w fun e w'=>e=.returned (.string ⟨(Lib.join (xs.map (·.data.toList)) sep.data.toList).toArray⟩)∧Below w.heap.size w w'
def Zgl:List (List AVal)→Option (List (List UInt8))
 | []=>some []
 | [.str s] :: r=>match Zgl r with
  | some l=>some (s :: l)
  | none=>none
 | _=>none
theorem Zzx:∀ {rows:List (List AVal)} {l:List (List UInt8)},Zgl rows=some l→rows=l.map fun s=>[AVal.str s]
 | [],l,h=>by
  simp only[Zgl,oI]at h;subst h; rfl
 | row :: r,l,h=>by
  unfold Zgl at h;split at h<;>first|(cases h; done)|skip
  ·rename_i heq; cases heq
  ·rename_i s r' heq;injection heq with h1 h2
   subst h1; subst h2;cases hr:Zgl r with
   | none=>simp[hr]at h
   | some l'=>
    simp only[hr,oI]at h;subst h;rw[Zzx hr];rfl
def Zlj(J:Nat):Caller:=fun g args m=>
 bif Nat.beq g J then match args with
  | [.sl b off len,.str sep]=>match m.tr.get b with
   | some (.cells 1 els)=>bif Nat.ble (off+len) els.length&&Nat.ble 1 len&&Nat.ble len 1000000 then match Zgl ((els.drop off).take len)with
    | some l=>bif Nat.ble (Lib.join l sep).length 1000000 then some (.str (Lib.join l sep),m,[])else none
    | none=>none
    else none
   | _=>none
  | _=>none
 else none
theorem Zr7{P:Program}{J:Nat}(hJ:Zvc P J):P5 P (Zlj J):=by
 intro g args m v m' wl h;unfold Zlj at h;cases hg:Nat.beq g J with
 | false=>rw[hg]at h; cases h
 | true=>
  rw[hg]at h;simp only[cond_true]at h;have hge:=Nat.eq_of_beq_eq_true hg;subst hge;split at h<;>first|(cases h; done)|skip
  rename_i b off len sep;split at h<;>first|(cases h; done)|skip
  rename_i els hgT;cases hc:Nat.ble (off+len) els.length&&Nat.ble 1 len&&Nat.ble len 1000000 with
  | false=>rw[hc]at h; cases h
  | true=>
   rw[hc]at h;simp only[cond_true]at h;simp only[bA]at hc;have h1:=Nat.le_of_ble_eq_true hc.1.1;have h2:=Nat.le_of_ble_eq_true hc.1.2;have h3:=Nat.le_of_ble_eq_true hc.2;cases hs:Zgl ((els.drop off).take len)with
   | none=>simp[hs]at h
   | some l=>
    simp only[hs]at h;cases hb:Nat.ble (Lib.join l sep).length 1000000 with
    | false=>rw[hb]at h; cases h
    | true=>
     rw[hb]at h;simp only[cond_true,oI,pI2]at h;obtain⟨rfl,rfl,rfl⟩:=h;have hlen:=Nat.le_of_ble_eq_true hb;have hrows:=Zzx hs;have hll:l.length=len:=by
      have:=congrArg List.length hrows;simp at this;omega
     refine⟨Nat.le_refl _,fun _ _ _=>rfl,fun id=>⟨hJ.1,fun W Φ ρ vs w hr ha hav=>?_⟩⟩
     obtain⟨v1,v2,rfl⟩:∃ v1 v2,vs = #[v1,v2]:=by
      have hs:vs.size=2:=by simpa using ha.1
      refine⟨vs[0],vs[1],?_⟩;apply Array.ext
      ·simp[hs]
      ·intro i h1 h2;have:i=0∨i=1:=by omega
       rcases this with rfl|rfl<;>rfl
     have r1:=ha.2 0 _ v1 rfl rfl;have r2:=ha.2 1 _ v2 rfl rfl;have e2:=Zaq r2;subst e2;have hgm:m.mem.get b=some (.cells 1 els):=hgT;cases r1 with
     | sl _ _ _ a cap lo hl hle hcn hcap hav1=>
      have ea:=hcap (by omega)
      subst ea;obtain⟨x1,ob,g1,g2,g3,g4,g5⟩:=hr.live b _ hgm;rw[hl]at g1; injection g1 with g1; subst g1
      cases g5 with
      | cells _ _ _ c t q1 q2 q3 q4 q5=>
       have hcell:∀ (j:Nat) (x:ByteArray),(l.map fun s=>(⟨⟨s⟩⟩:ByteArray))[j]? = some x→w.cell? ⟨lo.blk,(lo.sh+off)*lo.k+j,none⟩=some (.string x):=by
        intro j x hj;rw[List.getElem?_map]at hj;cases hlj:l[j]? with
        | none=>rw[hlj]at hj; cases hj
        | some s=>
         rw[hlj]at hj;simp only[Option.map_some,oI]at hj;subst hj;have hjl:j<l.length:=(gS.1 hlj).1;have hrow:els[off+j]? = some [.str s]:=by
          have hx:((els.drop off).take len)[j]? = some [AVal.str s]:=by rw[hrows,List.getElem?_map,hlj]; rfl
          rw[List.getElem?_take,if_pos (by omega),List.getElem?_drop]at hx
          exact hx
         obtain⟨u,k1,_,k3⟩:=q4.2 (off+j) _ 0 _ hrow rfl;have:=Zaq k3;subst this;simp only[World.cell?,g4,Option.isSome_none,bF,if_false];rw[← k1,q1]
         congr 1
         omega
       have hcall:=hJ.2 lo.blk ((lo.sh+off)*lo.k) cap (l.map fun s=>(⟨⟨s⟩⟩:ByteArray)) ⟨⟨sep⟩⟩ w hcell (B7 g4) (by simp; omega) (by simp; omega) (by simpa[Function.comp_def]using Nat.le_trans hlen (by decide))
       rw[List.length_map,hll]at hcall;refine hcall.mono ?_;rintro e w' ⟨rfl,hB⟩;refine⟨_,_,m.mem,Φ,ρ,rfl,.refl _ _,fun _ _ _ h=>h,hr.below hB,?_,Nat.le_refl _,rfl,rfl⟩
       have:(l.map fun s=>(⟨⟨s⟩⟩:ByteArray)).map (·.data.toList)=l:=by
        rw[List.map_map];exact List.map_id'' (fun _=>rfl) l
       rw[this];exact .str _
end Go.AE
end
section
namespace Go.Plain
def X2{α:Type}(n i:Nat)(v:Nat→α)(d:α):List α:=(List.range n).map fun j=>if j<i then v j else d
theorem Zat{α:Type}(n i:Nat)(v:Nat→α)(d:α):(X2 n i v d).length=n:=by simp[X2]
theorem Za7{α:Type}{n i j:Nat}{v:Nat→α}{d:α}(h:j<n):(X2 n i v d)[j]? = some (if j<i then v j else d):=by simp[X2,h]
theorem Zpm{α:Type}(n:Nat)(v:Nat→α)(d:α):X2 n 0 v d=List.replicate n d:=by
 apply List.ext_getElem?;intro j;by_cases h:j<n
 ·rw[Za7 h,List.getElem?_replicate,if_pos h]; simp
 ·rw[List.getElem?_eq_none (by rw[Zat]; omega),List.getElem?_eq_none (by simp; omega)]
theorem Zqg{α:Type}{n i:Nat}{v:Nat→α}{d:α}(h:i<n):(X2 n i v d).set i (v i)=X2 n (i+1) v d:=by
 apply List.ext_getElem?;intro j;rw[List.getElem?_set];by_cases hj:j<n
 ·rw[Za7 hj,Za7 hj,Zat];by_cases hij:i=j
  ·subst hij; rw[if_pos rfl,if_pos h,if_pos (by omega)]
  ·rw[if_neg hij];by_cases h1:j<i
   ·rw[if_pos h1,if_pos (by omega)]
   ·rw[if_neg h1,if_neg (by omega)]
 ·rw[List.getElem?_eq_none (by rw[Zat]; omega),List.getElem?_eq_none (by rw[Zat]; omega),if_neg (by omega)]
theorem Zz0{α:Type}{n i:Nat}{v:Nat→α}{d:α}(h:v i=d):X2 n (i+1) v d=X2 n i v d:=by
 apply List.map_congr_left;intro j _;by_cases h1:j<i
 ·rw[if_pos h1,if_pos (by omega)]
 ·by_cases h2:j=i
  ·subst h2; rw[if_pos (by omega),if_neg h1,h]
  ·rw[if_neg h1,if_neg (by omega)]
def S7(F:Nat)(ls:List Lt):List Nat:=(List.range (F+1)).map fun g=>inG (g:Nat) ls
theorem Ze1(F:Nat)(ls:List Lt):(S7 F ls).length=F+1:=by simp[S7]
theorem Zhm{F g:Nat}{ls:List Lt}(h:g≤F):(S7 F ls)[g]? = some (inG (g:Nat) ls):=by
 simp[S7,List.getElem?_range (show g<F+1 by omega)]
theorem Z1e(F:Nat):S7 F []=List.replicate (F+1) 0:=by
 apply List.ext_getElem?;intro j;by_cases h:j≤F
 ·rw[Zhm h,List.getElem?_replicate,if_pos (by omega)]; rfl
 ·rw[List.getElem?_eq_none (by rw[Ze1]; omega),List.getElem?_eq_none (by simp; omega)]
theorem Zvg(g:Int)(ls:List Lt)(l:Lt):inG g (ls++[l])=inG g ls+if isP l&&l.g == g then 1 else 0:=by
 unfold inG; rw[Zf8,Zia]; rfl
theorem Z31{F G:Nat}{ls:List Lt}{l:Lt}(hp:isP l=true)(hg:l.g=(G:Nat))(hG:G≤F):(S7 F ls).set G (inG (G:Nat) ls+1)=S7 F (ls++[l]):=by
 apply List.ext_getElem?;intro j;rw[List.getElem?_set];by_cases hj:j≤F
 ·rw[Zhm hj,Zhm hj,Zvg,Ze1];by_cases hij:G=j
  ·subst hij; rw[if_pos rfl,if_pos (by omega)]; simp[hp,hg]
  ·rw[if_neg hij];have:¬((G:Nat):Int)=(j:Nat):=by omega
   simp[hg,this]
 ·rw[List.getElem?_eq_none (by rw[Ze1]; omega),List.getElem?_eq_none (by rw[Ze1]; omega),Ze1,if_neg (by omega)]
theorem Yct{F:Nat}{ls:List Lt}{l:Lt}(hp:isP l=false):S7 F (ls++[l])=S7 F ls:=by
 apply List.map_congr_left;intro j _;rw[Zvg]; simp[hp]
def tot(ls:List Lt)(g:Nat):Nat:=Z4 (fun o=>isP o&&decide (o.g<(g:Nat))) ls
theorem Zjx(ls:List Lt)(g:Nat):tot ls (g+1)=tot ls g+inG (g:Nat) ls:=by
 unfold tot inG;rw[Zjy (fun o=>isP o&&decide (o.g<((g+1:Nat):Int))) (fun o=>decide (o.g<(g:Nat)))]
 congr 1
 ·apply T0;intro l _;cases isP l with
  | false=>rfl
  | true=>rw[Bool.eq_iff_iff]; simp; omega
 ·apply T0;intro l _;cases isP l with
  | false=>rfl
  | true=>rw[Bool.eq_iff_iff]; simp; omega
theorem Zv8{p q:Lt→Bool}{ls:List Lt}(h:∀ l,p l=true→q l=true):Z4 p ls≤Z4 q ls:=by
 induction ls with
 | nil=>exact Nat.le_refl _
 | cons l r ih=>
  rw[Zia,Zia];cases hp:p l with
  | false=>simp; omega
  | true=>rw[h l hp]; simp; exact ih
theorem Zwz(ls:List Lt)(g:Nat):tot ls g≤Z1 ls:=Zv8 fun l h=>by simp at h; exact h.1
def Za8(F:Nat)(ls:List Lt):Prop:=∀ l,l∈ls→isP l=true→0≤l.g∧l.g≤(F:Nat)
theorem Z71{F:Nat}{ls:List Lt}(h:Za8 F ls):tot ls 0=0:=by
 unfold tot Z4;rw[List.length_eq_zero_iff,List.filter_eq_nil_iff];intro l hl;simp only[bA,decide_eq_true_eq,not_and];intro hp;have:=(h l hl hp).1;omega
theorem Z9k{F:Nat}{ls:List Lt}(h:Za8 F ls):tot ls (F+1)=Z1 ls:=by
 unfold tot Z1;apply T0;intro l hl;cases hp:isP l with
 | false=>rfl
 | true=>
  have:=(h l hl hp).2;simp; omega
theorem Zmd{ls:List Lt}{l:Lt}{G:Nat}(hg:l.g=(G:Nat)):pos ls l=tot ls G+(l.r - 1).toNat:=by
 unfold pos tot; rw[hg]
theorem Zlm{F:Nat}{ls:List Lt}(hG:Za8 F ls){l:Lt}(hl:l∈ls)(hp:isP l=true)(h1:1≤l.r)(h2:l.r≤(inG l.g ls:Nat)):pos ls l<Z1 ls:=by
 obtain⟨h3,h4⟩:=hG l hl hp;obtain⟨G,hg⟩:∃ G:Nat,l.g=(G:Nat):=⟨l.g.toNat,by omega⟩
 rw[Zmd hg];have:=Zjx ls G;have h5:=Zwz ls (G+1);rw[hg]at h2;omega
def M4(ls:List Lt)(m:Nat):Nat→List Bool
 | 0=>List.replicate m false
 | i+1=>if isP (at' ls i)then (M4 ls m i).set (pos ls (at' ls i)) true else M4 ls m i
def L6(ls:List Lt)(m:Nat):Nat→List Nat
 | 0=>List.replicate m 0
 | i+1=>if isP (at' ls i)then (L6 ls m i).set (pos ls (at' ls i)) i else L6 ls m i
def rkF(ls:List Lt)(m:Nat):Nat→Bool
 | 0=>true
 | i+1=>rkF ls m i&&(!isP (at' ls i)||(decide (1≤(at' ls i).r)&&decide ((at' ls i).r≤(inG (at' ls i).g ls:Nat)) && !(M4 ls m i).getD (pos ls (at' ls i)) true))
theorem Zpa(ls:List Lt)(m:Nat):∀ i,(M4 ls m i).length=m
 | 0=>by simp[M4]
 | i+1=>by simp only[M4]; split<;>simp[Zpa ls m i]
theorem Zkj(ls:List Lt)(m:Nat):∀ i,(L6 ls m i).length=m
 | 0=>by simp[L6]
 | i+1=>by simp only[L6]; split<;>simp[Zkj ls m i]
theorem Yca{ls:List Lt}{m:Nat}:∀ {i j:Nat},i≤j→rkF ls m j=true→rkF ls m i=true:=by
 intro i j hij
 induction hij with
 | refl=>exact id
 | step _ ih=>intro h; simp only[rkF,bA]at h; exact ih h.1
def V0(ls:List Lt)(j:Nat):Bool:=isP (at' ls j)&&down ls j
def S6(ls:List Lt)(j:Nat):Nat:=if isP (at' ls j)then pos ls (at' ls j)else 0
end Go.Plain
end
