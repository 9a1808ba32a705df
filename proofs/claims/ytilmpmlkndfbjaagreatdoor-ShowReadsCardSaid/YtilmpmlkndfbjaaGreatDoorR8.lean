/- Part 8 of the proof: AeIb, AeTb, Pc, Pd. -/
import Derived.Test.YtilmpmlkndfbjaaGreatDoorR7
import Derived.Lib.Join
set_option linter.all false
section
namespace Go.AE
open Go.RowKit
def Zs9(P:Program)(J:FuncId):Prop:=
 Zio P J ∧ ∀(bk o c:Nat) (xs:List ByteArray) (sep:ByteArray) (w:World),(∀(j:Nat) x,xs[j]? = some x→w.cell? ⟨bk,o+j,none⟩=some (.string x))→bk<w.heap.size→xs.length≤140737488355328→xs.length≤c →
  (Lib.join (xs.map (·.data.toList)) sep.data.toList).length≤140737488355328 →
  Calls P J #[.slice (some ⟨bk,o,none⟩) xs.length c,.string sep] w fun e w'=>e=.returned (.string ⟨(Lib.join (xs.map (·.data.toList)) sep.data.toList).toArray⟩)∧Below w.heap.size w w'
def Zgy:List (List AVal)→Option (List (List UInt8))
 | []=>some []
 | [.str s] :: r=>match Zgy r with
  | some l=>some (s :: l)
  | none=>none
 | _=>none
theorem Zyz:∀ {rows:List (List AVal)} {l:List (List UInt8)},Zgy rows=some l→rows=l.map fun s=>[AVal.str s]
 | [],l,h=>by
  simp only[Zgy,oI]at h;subst h; rfl
 | row :: r,l,h=>by
  unfold Zgy at h;split at h<;>first|(cases h; done)|skip
  ·rename_i a; cases a
  ·rename_i s c a;injection a with h1 h2
   subst h1; subst h2;cases b:Zgy r with
   | none=>simp[b]at h
   | some l'=>
    simp only[b,oI]at h;subst h;rw[Zyz b];rfl
def Zkn(J:Nat):Caller:=fun g args m=>
 bif Nat.beq g J then match args with
  | [.sl b off len,.str sep]=>match m.tr.get b with
   | some (.cells 1 els)=>bif Nat.ble (off+len) els.length&&Nat.ble 1 len&&Nat.ble len 1000000 then match Zgy ((els.drop off).take len)with
    | some l=>bif Nat.ble (Lib.join l sep).length 1000000 then some (.str (Lib.join l sep),m,[])else none
    | none=>none
    else none
   | _=>none
  | _=>none
 else none
theorem Zs3{P:Program}{J:Nat}(O:Zs9 P J):O2 P (Zkn J):=by
 intro g args m v m' wl h;unfold Zkn at h;cases F:Nat.beq g J with
 | false=>rw[F]at h; cases h
 | true=>
  rw[F]at h;simp only[cond_true]at h;have H:=Nat.eq_of_beq_eq_true F;subst H;split at h<;>first|(cases h; done)|skip
  rename_i b off len B;split at h<;>first|(cases h; done)|skip
  rename_i els G;cases p:Nat.ble (off+len) els.length&&Nat.ble 1 len&&Nat.ble len 1000000 with
  | false=>rw[p]at h; cases h
  | true=>
   rw[p]at h;simp only[cond_true]at h;simp only[bA]at p;have Z:=Nat.le_of_ble_eq_true p.1.1;have h2:=Nat.le_of_ble_eq_true p.1.2;have h3:=Nat.le_of_ble_eq_true p.2;cases A:Zgy ((els.drop off).take len)with
   | none=>simp[A]at h
   | some l=>
    simp only[A]at h;cases E:Nat.ble (Lib.join l B).length 1000000 with
    | false=>rw[E]at h; cases h
    | true=>
     rw[E]at h;simp only[cond_true,oI,pI2]at h;obtain⟨rfl,rfl,rfl⟩:=h;have y:=Nat.le_of_ble_eq_true E;have f:=Zyz A;have K:l.length=len:=by
      have:=congrArg List.length f;simp at this;omega
     refine⟨Nat.le_refl _,fun _ _ _=>rfl,fun id=>⟨O.1,fun W Φ ρ vs w S D aa=>?_⟩⟩
     obtain⟨L,M,rfl⟩:∃ L M,vs = #[L,M]:=by
      have A:vs.size=2:=by simpa using D.1
      refine⟨vs[0],vs[1],?_⟩;apply Array.ext
      ·simp[A]
      ·intro i Z h2;have:i=0∨i=1:=by omega
       rcases this with rfl|rfl<;>rfl
     have r1:=D.2 0 _ L rfl rfl;have r2:=D.2 1 _ M rfl rfl;have V:=Zat r2;subst V;have I:m.mem.get b=some (.cells 1 els):=G;cases r1 with
     | sl _ _ _ a cap lo hl ad ab r Q=>
      have X:=r (by omega)
      subst X;obtain⟨x1,ob,C,g2,g3,N,Y⟩:=S.live b _ I;rw[hl]at C; injection C with C; subst C
      cases Y with
      | cells _ _ _ c t q1 q2 q3 q4 q5=>
       have o:∀ (j:Nat) (x:ByteArray),(l.map fun s=>(⟨⟨s⟩⟩:ByteArray))[j]? = some x→w.cell? ⟨lo.blk,(lo.sh+off)*lo.k+j,none⟩=some (.string x):=by
        intro j x q;rw[List.getElem?_map]at q;cases n:l[j]? with
        | none=>rw[n]at q; cases q
        | some s=>
         rw[n]at q;simp only[Option.map_some,oI]at q;subst q;have ac:j<l.length:=(gS.1 n).1;have z:els[off+j]? = some [.str s]:=by
          have U:((els.drop off).take len)[j]? = some [AVal.str s]:=by rw[f,List.getElem?_map,n]; rfl
          rw[List.getElem?_take,if_pos (by omega),List.getElem?_drop]at U
          exact U
         obtain⟨u,k1,_,k3⟩:=q4.2 (off+j) _ 0 _ z rfl;have:=Zat k3;subst this;simp only[World.cell?,N,Option.isSome_none,bF,if_false];rw[← k1,q1]
         congr 1
         omega
       have d:=O.2 lo.blk ((lo.sh+off)*lo.k) cap (l.map fun s=>(⟨⟨s⟩⟩:ByteArray)) ⟨⟨B⟩⟩ w o (D5 N) (by simp; omega) (by simp; omega) (by simpa[Function.comp_def]using Nat.le_trans y (by decide))
       rw[List.length_map,K]at d;refine d.mono ?_;rintro e w' ⟨rfl,hB⟩;refine⟨_,_,m.mem,Φ,ρ,rfl,.refl _ _,fun _ _ _ h=>h,S.below hB,?_,Nat.le_refl _,rfl,rfl⟩
       have:(l.map fun s=>(⟨⟨s⟩⟩:ByteArray)).map (·.data.toList)=l:=by
        rw[List.map_map];exact List.map_id'' (fun _=>rfl) l
       rw[this];exact .str _
end Go.AE
end
section
namespace Go.AE
open Go.RowKit
def Good(P:Program)(p:Nat×AFn):Prop:=(∃ fn,P.funcs[p.1]? = some fn∧cFn P fn=some p.2)∧N8 p.2.ntmps p.2.body=true∧Nat.ble p.2.ntmps bound=true∧Nat.ble (p.1+1) bound=true
def AllT(P:Program):List (Nat×AFn)→Prop
 | []=>True
 | p :: r=>Good P p∧AllT P r
def Zhk:List (Nat×AFn)→Tr AFn
 | []=>.nil
 | p :: r=>(Zhk r).set depth p.1 (some p.2)
theorem Zwc{P:Program}:∀ {l:List (Nat×AFn)},AllT P l → ∀ g a,(Zhk l).get g=some a→Good P (g,a)
 | [],_,g,a,h=>by simp[Zhk,Tr.get_nil]at h
 | p :: r,b,g,a,h=>by
  simp only[Zhk]at h;rw[Tr.get_set depth _ p.1 _ g (Zfw (Nat.le_of_ble_eq_true b.1.2.2.2))]at h;split at h
  ·rename_i c;subst c;injection h with h
   subst h;exact b.1
  ·exact Zwc b.2 g a h
def Zpn(t:Tr AFn):Nat→Option AFn:=fun g=>t.get g
theorem Z5u{P:Program}{l:List (Nat×AFn)}{t:Tr AFn}(e:AllT P l)(f:t=Zhk l):Ze5 P (Zpn t):=by
 subst f;intro g a h;obtain⟨b,c,d,_⟩:=Zwc e g a h;exact⟨b,c,Nat.le_of_ble_eq_true d⟩
theorem AllT.append{P:Program}:∀ {a b:List (Nat×AFn)},AllT P a→AllT P b→AllT P (a++b)
 | [],_,_,h=>h
 | _ :: _,_,h,c=>⟨h.1,AllT.append h.2 c⟩
def Zny(tab:Nat→Option AFn)(call:Caller)(G:Nat)(p:AParts):Caller:=fun g args m=>
 bif Nat.beq g G then runR tab call p args m else none
theorem Ycm{P:Program}(hm:P.follows .mixedOrders=true){tab:Nat→Option AFn}(c:Ze5 P tab){a:Caller}(b:O2 P a){G:FuncId}{fn:Func}{p:AParts}(k:P.funcs[G]? = some fn)(l:Zju P fn=some p)(e:p.ok=true):O2 P (Zny tab a G p):=by
 intro g args m v n wl h;unfold Zny at h;cases d:Nat.beq g G with
 | false=>rw[d]at h; cases h
 | true=>
  rw[d]at h;simp only[cond_true]at h;have:=Nat.eq_of_beq_eq_true d;subst this;obtain⟨f,i,j⟩:=Z3j hm c b k l e h;exact⟨f,i,fun id=>j [id]⟩
end Go.AE
end
section
namespace Go.Plain
def V5{α:Type}(n i:Nat)(v:Nat→α)(d:α):List α:=(List.range n).map fun j=>if j<i then v j else d
theorem Zb2{α:Type}(n i:Nat)(v:Nat→α)(d:α):(V5 n i v d).length=n:=by simp[V5]
theorem Zel{α:Type}{n i j:Nat}{v:Nat→α}{d:α}(h:j<n):(V5 n i v d)[j]? = some (if j<i then v j else d):=by simp[V5,h]
theorem Zq4{α:Type}(n:Nat)(v:Nat→α)(d:α):V5 n 0 v d=List.replicate n d:=by
 apply List.ext_getElem?;intro j;by_cases h:j<n
 ·rw[Zel h,List.getElem?_replicate,if_pos h]; simp
 ·rw[List.getElem?_eq_none (by rw[Zb2]; omega),List.getElem?_eq_none (by simp; omega)]
theorem Zqg{α:Type}{n i:Nat}{v:Nat→α}{d:α}(h:i<n):(V5 n i v d).set i (v i)=V5 n (i+1) v d:=by
 apply List.ext_getElem?;intro j;rw[List.getElem?_set];by_cases c:j<n
 ·rw[Zel c,Zel c,Zb2];by_cases a:i=j
  ·subst a; rw[if_pos rfl,if_pos h,if_pos (by omega)]
  ·rw[if_neg a];by_cases b:j<i
   ·rw[if_pos b,if_pos (by omega)]
   ·rw[if_neg b,if_neg (by omega)]
 ·rw[List.getElem?_eq_none (by rw[Zb2]; omega),List.getElem?_eq_none (by rw[Zb2]; omega),if_neg (by omega)]
theorem Zx6{α:Type}{n i:Nat}{v:Nat→α}{d:α}(h:v i=d):V5 n (i+1) v d=V5 n i v d:=by
 apply List.map_congr_left;intro j _;by_cases a:j<i
 ·rw[if_pos a,if_pos (by omega)]
 ·by_cases b:j=i
  ·subst b; rw[if_pos (by omega),if_neg a,h]
  ·rw[if_neg a,if_neg (by omega)]
def P4(F:Nat)(ls:List Lt):List Nat:=(List.range (F+1)).map fun g=>inG (g:Nat) ls
theorem Zf4(F:Nat)(ls:List Lt):(P4 F ls).length=F+1:=by simp[P4]
theorem Zhb{F g:Nat}{ls:List Lt}(h:g≤F):(P4 F ls)[g]? = some (inG (g:Nat) ls):=by
 simp[P4,List.getElem?_range (show g<F+1 by omega)]
theorem Z97(F:Nat):P4 F []=List.replicate (F+1) 0:=by
 apply List.ext_getElem?;intro j;by_cases h:j≤F
 ·rw[Zhb h,List.getElem?_replicate,if_pos (by omega)]; rfl
 ·rw[List.getElem?_eq_none (by rw[Zf4]; omega),List.getElem?_eq_none (by simp; omega)]
theorem Zxf(g:Int)(ls:List Lt)(l:Lt):inG g (ls++[l])=inG g ls+if isP l&&l.g == g then 1 else 0:=by
 unfold inG; rw[Zev,Zet]; rfl
theorem Z2w{F G:Nat}{ls:List Lt}{l:Lt}(d:isP l=true)(b:l.g=(G:Nat))(e:G≤F):(P4 F ls).set G (inG (G:Nat) ls+1)=P4 F (ls++[l]):=by
 apply List.ext_getElem?;intro j;rw[List.getElem?_set];by_cases c:j≤F
 ·rw[Zhb c,Zhb c,Zxf,Zf4];by_cases a:G=j
  ·subst a; rw[if_pos rfl,if_pos (by omega)]; simp[d,b]
  ·rw[if_neg a];have:¬((G:Nat):Int)=(j:Nat):=by omega
   simp[b,this]
 ·rw[List.getElem?_eq_none (by rw[Zf4]; omega),List.getElem?_eq_none (by rw[Zf4]; omega),Zf4,if_neg (by omega)]
theorem Ya5{F:Nat}{ls:List Lt}{l:Lt}(a:isP l=false):P4 F (ls++[l])=P4 F ls:=by
 apply List.map_congr_left;intro j _;rw[Zxf]; simp[a]
def tot(ls:List Lt)(g:Nat):Nat:=Z5 (fun o=>isP o&&decide (o.g<(g:Nat))) ls
theorem Zjm(ls:List Lt)(g:Nat):tot ls (g+1)=tot ls g+inG (g:Nat) ls:=by
 unfold tot inG;rw[Zne (fun o=>isP o&&decide (o.g<((g+1:Nat):Int))) (fun o=>decide (o.g<(g:Nat)))]
 congr 1
 ·apply F0;intro l _;cases isP l with
  | false=>rfl
  | true=>rw[Bool.eq_iff_iff]; simp; omega
 ·apply F0;intro l _;cases isP l with
  | false=>rfl
  | true=>rw[Bool.eq_iff_iff]; simp; omega
theorem Zyj{p q:Lt→Bool}{ls:List Lt}(h:∀ l,p l=true→q l=true):Z5 p ls≤Z5 q ls:=by
 induction ls with
 | nil=>exact Nat.le_refl _
 | cons l r b=>
  rw[Zet,Zet];cases a:p l with
  | false=>simp; omega
  | true=>rw[h l a]; simp; exact b
theorem Zr1(ls:List Lt)(g:Nat):tot ls g≤Z3 ls:=Zyj fun l h=>by simp at h; exact h.1
def Za2(F:Nat)(ls:List Lt):Prop:=∀ l,l∈ls→isP l=true→0≤l.g∧l.g≤(F:Nat)
theorem Z41{F:Nat}{ls:List Lt}(h:Za2 F ls):tot ls 0=0:=by
 unfold tot Z5;rw[List.length_eq_zero_iff,List.filter_eq_nil_iff];intro l a;simp only[bA,decide_eq_true_eq,not_and];intro b;have:=(h l a b).1;omega
theorem Z2p{F:Nat}{ls:List Lt}(h:Za2 F ls):tot ls (F+1)=Z3 ls:=by
 unfold tot Z3;apply F0;intro l a;cases b:isP l with
 | false=>rfl
 | true=>
  have:=(h l a b).2;simp; omega
theorem Zlz{ls:List Lt}{l:Lt}{G:Nat}(a:l.g=(G:Nat)):pos ls l=tot ls G+(l.r - 1).toNat:=by
 unfold pos tot; rw[a]
theorem Zll{F:Nat}{ls:List Lt}(c:Za2 F ls){l:Lt}(d:l∈ls)(e:isP l=true)(f:1≤l.r)(b:l.r≤(inG l.g ls:Nat)):pos ls l<Z3 ls:=by
 obtain⟨h,i⟩:=c l d e;obtain⟨G,a⟩:∃ G:Nat,l.g=(G:Nat):=⟨l.g.toNat,by omega⟩
 rw[Zlz a];have:=Zjm ls G;have j:=Zr1 ls (G+1);rw[a]at b;omega
def K3(ls:List Lt)(m:Nat):Nat→List Bool
 | 0=>List.replicate m false
 | i+1=>if isP (at' ls i)then (K3 ls m i).set (pos ls (at' ls i)) true else K3 ls m i
def K8(ls:List Lt)(m:Nat):Nat→List Nat
 | 0=>List.replicate m 0
 | i+1=>if isP (at' ls i)then (K8 ls m i).set (pos ls (at' ls i)) i else K8 ls m i
def rkF(ls:List Lt)(m:Nat):Nat→Bool
 | 0=>true
 | i+1=>rkF ls m i&&(!isP (at' ls i)||(decide (1≤(at' ls i).r)&&decide ((at' ls i).r≤(inG (at' ls i).g ls:Nat)) && !(K3 ls m i).getD (pos ls (at' ls i)) true))
theorem Zn4(ls:List Lt)(m:Nat):∀ i,(K3 ls m i).length=m
 | 0=>by simp[K3]
 | i+1=>by simp only[K3]; split<;>simp[Zn4 ls m i]
theorem Zlr(ls:List Lt)(m:Nat):∀ i,(K8 ls m i).length=m
 | 0=>by simp[K8]
 | i+1=>by simp only[K8]; split<;>simp[Zlr ls m i]
theorem Ycb{ls:List Lt}{m:Nat}:∀ {i j:Nat},i≤j→rkF ls m j=true→rkF ls m i=true:=by
 intro i j a
 induction a with
 | refl=>exact id
 | step _ b=>intro h; simp only[rkF,bA]at h; exact b h.1
def Q2(ls:List Lt)(j:Nat):Bool:=isP (at' ls j)&&down ls j
def O0(ls:List Lt)(j:Nat):Nat:=if isP (at' ls j)then pos ls (at' ls j)else 0
end Go.Plain
end
section
namespace Go.Plain
abbrev Ent:=Int×Int×Int
def fnd(id:Int):List Ent→Option (Nat×Int×Int)
 | []=>none
 | (k,v) :: r=>if id=k then some (0,v)else match fnd id r with
  | some (p,w)=>some (p+1,w)
  | none=>none
def J6(o:Bool)(i:Int)(v:Int×Int):Int×Int:=if o then (v.1,i)else (i,v.2)
def S5(o:Bool)(v:Int×Int):Int:=if o then v.2 else v.1
def updE(E:List Ent)(id:Int)(o:Bool)(i:Int):List Ent:=
 match fnd id E with
 | some (p,v)=>E.set p (id,J6 o i v)
 | none=>E++[(id,J6 o i (-1,-1))]
def crE(ls:List Lt):Nat→List Ent
 | 0=>[]
 | i+1=>if isX (at' ls i)then updE (crE ls i) (at' ls i).i (at' ls i).o i else crE ls i
def fitE(ls:List Lt)(E:List Ent)(l:Lt):Bool:=
 match fnd l.i E with
 | none=>true
 | some (_,v)=>decide (S5 l.o v<0)&&decide ((at' ls (S5 (!l.o) v).toNat).s=l.s)
def crF(ls:List Lt)(n:Nat):Nat→Bool
 | 0=>true
 | i+1=>crF ls n i&&(!isX (at' ls i)||(decide (1≤(at' ls i).i)&&decide ((at' ls i).i≤(n / 2:Nat))&&fitE ls (crE ls i) (at' ls i)))
theorem Z66{ls:List Lt}{n:Nat}:∀ {i j:Nat},i≤j→crF ls n j=true→crF ls n i=true:=by
 intro i j a
 induction a with
 | refl=>exact id
 | step _ b=>intro h; simp only[crF,bA]at h; exact b h.1
def VisOk(i:Nat)(v:Int×Int):Prop:=(v.1 = -1∨(0≤v.1∧v.1<i))∧(v.2 = -1∨(0≤v.2∧v.2<i)) ∧ ¬(v.1 = -1∧v.2 = -1)
theorem VisOk.mono{i j:Nat}{v:Int×Int}(h:VisOk i v)(b:i≤j):VisOk j v:=by
 obtain⟨c,d,a⟩:=h;exact⟨by omega,by omega,a⟩
theorem Zha{id:Int}:∀ {E:List Ent} {p:Nat} {v:Int×Int},fnd id E=some (p,v)→E[p]? = some (id,v)
 | [],p,v,h=>by cases h
 | (k,w) :: r,p,v,h=>by
  simp only[fnd]at h;split at h
  ·rename_i e;cases h;subst e; rfl
  ·cases a:fnd id r with
   | none=>rw[a]at h; cases h
   | some b=>
    obtain⟨q,u⟩:=b;rw[a]at h;cases h;simpa using Zha a
theorem Zu1{i:Nat}{o:Bool}{v:Int×Int}(h:VisOk i v∨v=(-1,-1)):VisOk (i+1) (J6 o i v):=by
 cases o<;>unfold J6 VisOk at * <;> simp only[bF,if_true,if_false]
 ·rcases h with h|h
  ·omega
  ·subst h; simp; omega
 ·rcases h with h|h
  ·omega
  ·subst h; simp; omega
theorem Zg7(ls:List Lt):∀ i,∀ e,e∈crE ls i→VisOk i e.2
 | 0,e,h=>by simp[crE]at h
 | i+1,e,h=>by
  simp only[crE]at h;split at h
  ·unfold updE at h;split at h
   ·rename_i p v b;rcases List.mem_or_eq_of_mem_set h with a|a
    ·exact(Zg7 ls i e a).mono (by omega)
    ·subst a;exact Zu1 (.inl (Zg7 ls i _ (List.mem_of_getElem? (Zha b))))
   ·rw[List.mem_append,List.mem_singleton]at h;rcases h with a|a
    ·exact(Zg7 ls i e a).mono (by omega)
    ·subst a;exact Zu1 (.inr rfl)
  ·exact(Zg7 ls i e h).mono (by omega)
theorem Zsb(ls:List Lt):∀ i,(crE ls i).length≤i
 | 0=>Nat.le_refl _
 | i+1=>by
  simp only[crE];have:=Zsb ls i;split
  ·unfold updE;split
   ·simp; omega
   ·simp; omega
  ·omega
end Go.Plain
end
