/- Part 33 of the proof: Rx, AeNj, Sa, AeNk, Pt, Pz, AeSo. -/
import Derived.Test.YtggclbeocekgkaaGreatDoorP20
import Derived.Test.YtggclbeocekgkaaGreatDoorP32
import Derived.Shelf.SlSortCmp.NoneTotal
set_option linter.all false
section
namespace Go.Ac
open Go Go.AE Go.Proofs
open Go.Plain
theorem Zzs{get:Nat→Option Ai}{n:Nat}(l:List Lt):∀ row,row∈l.map Ab → ∀ x,x∈row→X9 get (n+1) x=some x:=by
 intro row hr x hx;obtain⟨i,_,rfl⟩:=mM.1 hr;simp only[Ab,mC,List.not_mem_nil,or_false]at hx;rcases hx with rfl|rfl|rfl|rfl|rfl|rfl<;>rfl
end Go.Ac
end
section
namespace Go.AE
open Go.RowKit
variable {P:Program}
def XL(q:Nat→Nat):List (Nat×Ai)→Ad→Prop
 | [],_=>True
 | (b,x) :: r,m=>m.get (q b)=some (x.AI q)∧XL q r m
end Go.AE
end
section
namespace Go.Ac
open Go Go.AE Go.Proofs
open Go.Plain
def Po(a:Bool)(ls:List Lt):List Lt:=if a then swN ls else ls
def Uy(f:Int)(b:Bool)(ls:List Lt):List Lt:=if b then miN f ls else ls
def gK(c:Bool)(ls:List Lt):List Lt:=if c then sk ls else ls
section
variable {f:Int} {ls:List Lt}
end
end Go.Ac
end
section
namespace Go.AE
open Go.RowKit
variable {P:Program}
def E0(v:Aa):Prop:=∀ (Φ:Ao) (ρ:AD) (u:Value),R Φ ρ v u → ∀(Ar:Ao) (ρ':AD),R Ar ρ' (.Aj []) u
theorem Z0o:E0 .Ae:=fun Φ ρ u h Ar ρ'=>by
 cases h;exact .BS _ _ fun hp=>absurd hp (by omega)
end Go.AE
end
section
namespace Go.Ac
open Go.Plain
def Mi(x:Int):List Int→Nat
 | []=>0
 | y :: r=>if x=y then 1 else if Mi x r=0 then 0 else Mi x r+1
def UL(met:List Int)(l:Lt):List Int:=if l.k=2∧Mi l.i met=0 then met++[l.i]else met
def kY(met:List Int)(l:Lt):Lt:=if l.k=2 then { l with i:=Mi l.i (UL met l) } else l
def UX:List Int→List Lt→List Lt
 | _,[]=>[]
 | met,l :: r=>kY met l :: UX (UL met l) r
def kX(ls:List Lt):List Lt:=UX [] ls
def ltL(a b:Lt):Bool:=
 if a.k≠b.k then decide (a.k<b.k)else if a.g≠b.g then decide (a.g<b.g)else if a.r≠b.r then decide (a.r<b.r)else if a.i≠b.i then decide (a.i<b.i)
 else if a.o≠b.o then b.o else decide (a.s<b.s)
def UK:List Lt→List Lt→Bool
 | a :: r,b :: s=>if a=b then UK r s else ltL a b
 | _,_=>false
def bkC(ls:List Lt)(i:Nat):Bool:=Am (at' ls.reverse i) && !Z8 ls (ls.length - 1 - i)
def aZ(ls:List Lt):List Lt:=match (List.range ls.length).find? (bkC ls)with
 | some i=>AO i ls.reverse
 | none=>ls.reverse
def cand(l:List Lt)(i:Nat):List Lt:=kX (AO i l)
end Go.Ac
end
section
namespace Go.Ac
open Go.Plain
def foL(n:Int)(ls:List Lt)(l:Lt):Lt:=if l.k=1∧n≤l.g then { l with g:=l.g - 1,r:=if l.g=n then l.r+Ay (n - 1) ls else l.r } else l
def foN(n:Int)(ls:List Lt):List Lt:=ls.map (foL n ls)
section
variable {n:Int} {ls:List Lt}
end
theorem lY{ls:List Lt}{f:Lt→Lt}(hp:∀ l,Am (f l)=Am l)(hk:∀ a,a∈ls → ∀ b,b∈ls→Am a=true→Am b=true→R1 (f a) (f b)=R1 a b):∀ k,k≤ls.length→Jv (ls.map f) k=Jv ls k
 | 0,_=>rfl
 | k+1,h=>by
  have hins:Am (at' ls k)=true → ∀ l:List Nat,(∀ x,x∈l→x<ls.length∧Am (at' ls x)=true)→ins (ls.map f) k l=ins ls k l:=by
   intro hpk l
   induction l with
   | nil=>intro _; rfl
   | cons a l ih=>
    intro hl;obtain⟨a1,a2⟩:=hl a (List.mem_cons_self ..);simp only[ins];rw[Rp f a1,Rp f (show k<ls.length by omega),ih fun x hx=>hl x (List.mem_cons_of_mem _ hx)]
    rw[hk _ (O0 a1) _ (O0 (show k<ls.length by omega)) a2 hpk]
  simp only[Jv];rw[Rp f (show k<ls.length by omega),hp,lY hp hk k (by omega)]
  by_cases hpk:Am (at' ls k)=true
  ·rw[iP hpk,iP hpk];refine hins hpk _ fun x hx=>?_
   have:=(MD ls k).mem_iff.1 hx;obtain⟨h1,h2⟩:=List.mem_filter.1 this;simp at h1;exact⟨by omega,h2⟩
  grind
theorem Bq.key{f:Int}{ls:List Lt}(h:Bq f ls){l:Lt}(hm:l∈ls)(hp:Am l=true):l.k=1∧1≤l.r∧l.r≤Ay l.g ls∧0≤l.g∧l.g≤f:=by
 have hk:l.k=1:=by simpa[Am]using hp
 obtain⟨_,_,_,a,b,c,d,_⟩:=(A5 hk).1 (h.ET l hm);omega
theorem Z3e{ls:List Lt}{f:Lt→Lt}(hk:∀ l,(f l).k=l.k)(hi:∀ l,(f l).i=l.i)(ho:∀ l,(f l).o=l.o)(hs:∀ l,(f l).s=l.s)(ax:List Nat)(d:Nat):X7 (ls.map f) ax d=X7 ls ax d:=by
 have hl:(ls.map f).length=ls.length:=by grind
 have hpp:∀ l,Am (f l)=Am l:=fun l=>by unfold Am; rw[hk]
 have hxx:∀ l,Bg (f l)=Bg l:=fun l=>by unfold Bg; rw[hk]
 have hd:∀ v,Z8 (ls.map f) v=Z8 ls v:=Z68 rfl hpp
 unfold X7;rw[hl];simp only[hd];split
 ·rfl
 ·rename_i hs2;have hh:(if d % 2=0 then (d / 2+1) % ls.length else d / 2)<ls.length:=by
   split
   ·exact Nat.mod_lt _ (by omega)
   ·omega
  generalize (if d % 2=0 then (d / 2+1) % ls.length else d / 2)=v at *
  rw[Rp f hh,hk,ho,hs];have hoN:Q4 (ls.map f) v ls.length 0=Q4 ls v ls.length 0:=lZ (v':=v) (fun j hj=>by
   rw[Rp f hj,hxx,hi]; exact⟨rfl,rfl⟩) hh _ _ (by omega)
  rw[hoN]
end Go.Ac
end
section
namespace Go.AE
open Go.RowKit Go.Sort Go.Shelf Go.Proofs
structure DK {α:Type} (enc:α→List Value) (CT:α→List Aa) (k:Nat):Prop where
 pos:0<k
 len:∀ x,(enc x).length=k
 Mn:∀ x,(CT x).length=k
 one:∀ x,∀ v∈enc x,v.oneCell'=true
 rel:∀ (Φ:Ao) (ρ:AD) (x:α) (j:Nat) (y:Aa) (v:Value),(CT x)[j]? = some y→(enc x)[j]? = some v→R Φ ρ y v
 eC:∀ (Φ:Ao) (ρ:AD) (x:α) (j:Nat) (y:Aa) (v v':Value),(CT x)[j]? = some y→(enc x)[j]? = some v→R Φ ρ y v'→v'=v
theorem Z8k{W:AA}{Φ:Ao}{ρ:AD}{m:Mem}{w:World}(h:Rel W Φ ρ m w)(n:Nat):Rel W Φ ρ m (Sort.ahead w n):=
 h.below ⟨rfl,rfl,rfl,lR _,fun _ _=>rfl⟩
theorem Z76{W:AA}{Φ:Ao}{ρ:AD}{m:Mem}{w:World}(h:Rel W Φ ρ m w)(os:Array Obj):Rel W Φ ρ m (Sort.grow w os):=
 h.below ⟨rfl,rfl,rfl,by simp,fun k hk=>by
  show(w.heap++os)[k]? = w.heap[k]?;rw[Array.getElem?_append,iP hk]⟩
theorem Z3i{w:World}{B:Nat}{f:Array Value→Array Value}{c:Array Value}{e:TypeId}{fr:Nat×Nat}(h:w.heap[B]? = some (.cells c e fr)):mapBlock w B f=R5 w B (.cells (f c) e fr):=by
 unfold mapBlock R5
 congr 1
 apply Array.ext_getElem?;intro i;simp only[Array.getElem?_modify,Array.getElem?_setIfInBounds];by_cases hi:B=i
 ·subst hi;simp only[if_true,h,Option.map_some,onCells];rw[iP (Lx h)]
 ·simp[hi]
section
variable {α:Type} [Inhabited α] {enc:α→List Value} {CT:α→List Aa} {k:Nat}
theorem Z3b(E:DK enc CT k)(dk:Array α)(i j:Nat)(hi:i<dk.size)(hj:j<k):(flatK enc k dk)[i*k+j]! = (enc dk[i]!)[j]!:=by
 have lt:i*k+j<dk.size*k:=by
  have:=Nat.mul_le_mul_right k (show i+1≤dk.size from hi); rw[Nat.add_mul,Nat.one_mul]at this; omega
 have e1:(i*k+j) / k=i:=(blk_iff k i _ E.pos).1 ⟨by omega,by omega⟩
 have e2:(i*k+j) % k=j:=by rw[Nat.mod_eq_sub_div_mul,e1]; omega
 rw[get_flatK _ _ _ _ lt,e1,e2]
theorem Z4y(E:DK enc CT k){W:AA}{Φ:Ao}{ρ:AD}{m:Mem}{w:World}(h:Rel W Φ ρ m w){b off:Nat}{els:List (List Aa)}{l:Loc}(hg:m.get b=some (.cells k els))(hl:ρ b=some l)(dk:Array α)(hd:off+dk.size≤els.length)(n:Nat)(os:Array Obj) :
 Rel W Φ ρ (m.set b (.cells k (els.take off++dk.toList.map CT++els.drop (off+dk.size)))) (sortWorldK enc k w l.blk ((l.sh+off)*k) n dk os):=by
 unfold sortWorldK;refine Z76 ?_ os;obtain⟨l',o,g1,g2,g3,g4,g5⟩:=h.live b _ hg;rw[hl]at g1; injection g1 with g1; subst g1
 cases g5 with
 | cells _ _ _ c e hk hn hle hrows h1=>
  have g4':(Sort.ahead w n).heap[l.blk]? = some (.cells c e (0,0)):=g4;unfold putRowK putRow;rw[Z3i g4'];refine Wj (Z8k h n) hg hl ?_;have hsz:(putCells id ((l.sh+off)*k) (flatK enc k dk) c).size=c.size:=by simp[putCells]
  have hin:∀ t,t<c.size→(putCells id ((l.sh+off)*k) (flatK enc k dk) c)[t]? = some (if (l.sh+off)*k≤t∧t<(l.sh+off)*k+dk.size*k then (flatK enc k dk)[t - (l.sh+off)*k]! else c[t]!):=by
   intro t ht;simp only[putCells,Array.getElem?_mapIdx,size_flatK,id];rw[Array.getElem?_eq_getElem ht];simp[ht]
  refine .cells k _ l _ e hk (by rw[hsz]; exact hn) ?_ ⟨fun i row hi=>?_,fun i row j y hi hj=>?_⟩ fun v hv=>?_
  ·simp;omega
  ·rw[List.append_assoc,List.getElem?_append]at hi;split at hi
   ·exact hrows.1 i row (by rw[List.getElem?_take]at hi; split at hi; exact hi; cases hi)
   ·rw[List.getElem?_append]at hi;split at hi
    ·rw[gM]at hi;cases hx:dk.toList[i - (els.take off).length]? with
     | none=>rw[hx]at hi; cases hi
     | some x=>rw[hx]at hi; injection hi with hi; rw[← hi]; exact E.Mn x
    ·rw[List.getElem?_drop]at hi;exact hrows.1 _ row hi
  ·have htl:(els.take off).length=off:=by simp; omega
   have hml:(dk.toList.map CT).length=dk.size:=by simp
   have keep:els[i]? = some row→(i<off∨off+dk.size≤i) → ∃ v,(putCells id ((l.sh+off)*k) (flatK enc k dk) c)[(l.sh+i)*k+j]? = some v∧v.oneCell'=true∧R Φ ρ y v:=by
    intro hi' hout;obtain⟨v,k1,k2,k3⟩:=hrows.2 i row j y hi' hj;have hjk:j<k:=by rw[← hrows.1 i row hi']; exact(gS.1 hj).1
    have hlt:(l.sh+i)*k+j<c.size:=(Array.getElem?_eq_some_iff.1 k1).1;refine⟨v,?_,k2,k3⟩;rw[hin _ hlt,iN,← k1,Array.getElem?_eq_getElem hlt,getElem!_pos c _ hlt];rintro⟨q1,q2⟩;rcases hout with ho|ho
    ·have:=Nat.mul_le_mul_right k (show l.sh+i+1≤l.sh+off by omega)
     rw[Nat.add_mul,Nat.one_mul]at this;omega
    ·have:=Nat.mul_le_mul_right k (show l.sh+off+dk.size≤l.sh+i by omega)
     rw[Nat.add_mul]at this;omega
   rw[List.append_assoc,List.getElem?_append]at hi;split at hi
   ·rename_i hlt;rw[htl]at hlt;exact keep (by rw[List.getElem?_take,iP hlt]at hi; exact hi) (.inl hlt)
   ·rename_i hge;rw[htl]at hge hi;rw[List.getElem?_append]at hi;split at hi
    ·rename_i hlt;rw[hml]at hlt;rw[gM]at hi;have hx:dk.toList[i - off]? = some dk[i - off]!:=by
      rw[gE (by simpa using hlt),getElem!_pos dk _ hlt]; simp
     rw[hx]at hi;injection hi with hi
     subst hi;have hjk:j<k:=by rw[← E.Mn dk[i - off]!]; exact(gS.1 hj).1
     have hb:(l.sh+i)*k+j<c.size:=by
      rw[hn];have:=Nat.mul_le_mul_right k (show l.sh+i+1≤l.n by omega)
      rw[Nat.add_mul,Nat.one_mul]at this;omega
     have e0:(l.sh+i)*k=(l.sh+off)*k+(i - off)*k:=by rw[← Nat.add_mul]; congr 1; omega
     have hik:(i - off)*k+k≤dk.size*k:=by
      have:=Nat.mul_le_mul_right k (show (i - off)+1≤dk.size by omega); rwa[Nat.add_mul,Nat.one_mul]at this
     have hen:(enc dk[i - off]!)[j]? = some (enc dk[i - off]!)[j]!:=by
      have:j<(enc dk[i - off]!).length:=by rw[E.len]; exact hjk
      rw[gE this,getElem!_pos _ j this]
     refine⟨(enc dk[i - off]!)[j]!,?_,?_,E.rel Φ ρ _ j y _ hj hen⟩
     ·rw[hin _ hb,iP ⟨by omega,by omega⟩]
      congr 1
      rw[show (l.sh+i)*k+j - (l.sh+off)*k=(i - off)*k+j by omega]
      exact Z3b E dk (i - off) j hlt hjk
     ·exact E.one _ _ (List.mem_of_getElem? hen)
    ·rename_i hge2;rw[hml]at hge2 hi;rw[List.getElem?_drop]at hi;have e9:off+dk.size+(i - off - dk.size)=i:=by omega
     rw[e9]at hi;exact keep hi (.inr (by omega))
  ·obtain⟨t,ht,rfl⟩:=List.getElem_of_mem hv;have ht':t<c.size:=by simpa[putCells]using ht
   have:=hin t ht';rw[Array.getElem?_eq_getElem (by rw[hsz]; exact ht')]at this
   injection this with this
   rw[Array.getElem_toList,this];split
   ·rename_i hc;have hlt:t - (l.sh+off)*k<dk.size*k:=by omega
    rw[get_flatK _ _ _ _ hlt];have hm:(t - (l.sh+off)*k) % k<(enc dk[(t - (l.sh+off)*k) / k]!).length:=by rw[E.len]; exact Nat.mod_lt _ E.pos
    have hm2:(enc dk[(t - (l.sh+off)*k) / k]!)[(t - (l.sh+off)*k) % k]! = (enc dk[(t - (l.sh+off)*k) / k]!)[(t - (l.sh+off)*k) % k]:=getElem!_pos (enc dk[(t - (l.sh+off)*k) / k]!) _ hm;rw[hm2];exact E.one _ _ (List.getElem_mem hm)
   ·rw[getElem!_pos c t ht'];exact h1 _ (Array.getElem_mem_toList ht')
theorem Z0u(E:DK enc CT k){W:AA}{Φ:Ao}{ρ:AD}{m:Mem}{w:World}(h:Rel W Φ ρ m w){b off:Nat}{els:List (List Aa)}{l:Loc}(hg:m.get b=some (.cells k els))(hl:ρ b=some l)(d:Array α)
 (hd:∀ i,i<d.size→els[off+i]? = some (CT d[i]!)):HoldsK enc k w l.blk ((l.sh+off)*k) d∧l.blk<w.heap.size:=by
 obtain⟨l',o,g1,g2,g3,g4,g5⟩:=h.live b _ hg;rw[hl]at g1; injection g1 with g1; subst g1
 refine⟨?_,Lx g4⟩;cases g5 with
 | cells _ _ _ c e hk hn hle hrows h1=>
  intro t ht;rw[size_flatK]at ht;have hq:t / k<d.size:=Nat.div_lt_of_lt_mul (by rw[Nat.mul_comm]; exact ht)
  have hr:t % k<k:=Nat.mod_lt _ E.pos;have hA:t % k<(CT d[t / k]!).length:=by rw[E.Mn]; exact hr
  have hV:t % k<(enc d[t / k]!).length:=by rw[E.len]; exact hr
  obtain⟨v,k1,k2,k3⟩:=hrows.2 (off+t / k) _ (t % k) _ (hd _ hq) (gE hA);have hv:=E.eC Φ ρ d[t / k]! (t % k) _ _ v (gE hA) (gE hV) k3;have hpos:(l.sh+off)*k+t=(l.sh+(off+t / k))*k+t % k:=by
   have:=Nat.div_add_mod t k;rw[Nat.mul_comm]at this;rw[← Nat.add_assoc,Nat.add_mul (l.sh+off)];omega
  refine⟨?_,?_⟩
  ·simp only[World.cell?,g4,Option.isSome_none,bF,if_false,id];have hV2:(enc d[t / k]!)[t % k]! = (enc d[t / k]!)[t % k]:=getElem!_pos (enc d[t / k]!) _ hV;rw[hpos,k1,hv,get_flatK _ _ _ _ ht,hV2]
  ·simp[World.frozen?,g4]
variable {P:Program} {rn:Ren}
theorem Z8p(L:SlLaysF0.n6 P rn)(hb:Te P (rn.f 6))(aE:∀ w,(isAgg (rn.t 24)).run P w=.ok true w)(zE:∀ w,(Go.sizeOf (rn.t 24)).run P w=.ok k w)(E:DK enc CT k)(cf:α→α→Int)(hO:SWO (Go.Proofs.ltOf cf))(g:Nat)
 (eg:∀ args w,(callFunc g args).run P w=.ok (.enter g args) w) {m:Mem} {b off:Nat} {els:List (List Aa)} {cb:List Aa} (hg:m.get b=some (.cells k els)) (d:List α) (gH:d≠[]) (hd:(els.drop off).take d.length=d.map CT) (hsz:d.length≤1000000)
 (hc:∀ (W:AA) (Φ:Ao) (ρ:AD) (vc:Array Value) (x:Ai) (w:World),Rel W Φ ρ (m.set b x) w→RL Φ ρ cb vc → ∀ x y:α,
   Calls P g (#[.agg (enc x).toArray,.agg (enc y).toArray]++vc) w fun e w'=>e=.returned (.int .i64 (cf x y)) ∧ ∃ q os,w'=Sort.grow (w.drewN q) os) :
 Au P (rn.f 6) [.sl b off d.length,.func (.func g) [] cb] m [] fun r m'=>r=Ag ∧ ∃ d':List α,d'.Perm d∧(∀ i j,i<j→j<d'.length→Go.Proofs.ltOf cf d'[j]! d'[i]! = false) ∧
  m'=m.set b (.cells k (els.take off++d'.map CT++els.drop (off+d.length))):=by
 refine⟨hb,fun W Φ ρ vs w hr ha CN=>?_⟩
 obtain⟨v1,v2,rfl⟩:∃ v1 v2,vs = #[v1,v2]:=by
  have hs:vs.size=2:=by simpa using ha.1
  refine⟨vs[0],vs[1],?_⟩;apply Array.ext
  ·simp[hs]
  ·intro i h1 h2;have:i=0∨i=1:=by omega
   rcases this with rfl|rfl<;>rfl
 have r1:=ha.2 0 _ v1 rfl rfl;have r2:=ha.2 1 _ v2 rfl rfl;have hdl:0<d.length:=List.length_pos_iff.2 gH;have hin:∀ i,i<d.toArray.size→els[off+i]? = some (CT d.toArray[i]!):=by
  intro i hi;have hi':i<d.length:=by simpa using hi
  have h1:((els.drop off).take d.length)[i]? = (d.map CT)[i]?:=by rw[hd]
  rw[List.getElem?_take,iP hi',List.getElem?_drop,gM,gE hi']at h1;rw[h1];simp[hi']
 have hle:off+d.length≤els.length:=by
  have:=hin (d.length - 1) (by simp; omega)
  have:=(gS.1 this).1;omega
 cases r1 with
 | sl _ _ _ a cap l hl hlc hn2 hcap hav1=>
  have ea:=hcap (by omega)
  subst ea;cases r2 with
  | func _ _ _ vf vc hf Sd hfr Cx=>
   have hvf:vf = #[]:=Array.size_eq_zero_iff.1 (by simpa using hf)
   subst hvf;have hlk:l.k=k:=by
    obtain⟨l',o,g1,g2,g3,g4,g5⟩:=hr.live b _ hg;rw[hl]at g1; injection g1 with g1; subst g1
    cases g5 with
    | cells _ _ _ c e hk hn hle hrows h1=>exact hk
   obtain⟨hH,hblk⟩:=Z0u E hr hg hl d.toArray hin;have hS:∀ (dk:Array α),dk.size=d.length → ∀ n os,Rel W Φ ρ (m.set b (.cells k (els.take off++dk.toList.map CT++els.drop (off+d.length)))) (sortWorldK enc k w l.blk ((l.sh+off)*k) n dk os):=by
    intro dk hdk n os;have:=Z4y E hr hg hl dk (off:=off) (by rw[hdk]; exact hle) n os
    rw[hdk]at this;exact this
   have AF:=Go.Proofs.AnyQ.slices_SortFunc L k aE zE enc E.len E.one cf hO g vc l.blk ((l.sh+off)*k) cap d.toArray w eg
    (fun mm os dk hdk x y=>hc W Φ ρ vc _ _ (hS dk (by simpa using hdk) mm os) ⟨Sd,Cx⟩ x y) hH hblk (by simp; omega)
   rw[hlk];rw[show d.toArray.size=d.length by simp]at AF
   refine AF.mono ?_;rintro e w' ⟨rfl,d',n,os,hp,hs,rfl⟩;have hd's:d'.size=d.length:=by rw[hp.1]; simp
   refine⟨_,Ag,_,Φ,ρ,rfl,.refl _ _,fun _ _ _ h=>h,hS d' hd's n os,GM _ _,lR _,rfl,d'.toList,?_,?_,rfl⟩
   ·have:=hp.2.2;have e1:d'.extract 0 d.length=d':=by rw[← hd's]; exact Array.extract_size
    have e2:d.toArray.extract 0 d.length=d.toArray:=by
     have:d.length=d.toArray.size:=by simp
     rw[this]; exact Array.extract_size
    rw[e1,e2]at this;simpa using this
   ·intro i j hij hj;have hj':j<d'.size:=by simpa using hj
    have:=hs i j (Nat.zero_le _) hij (by omega)
    rw[getElem!_pos d' j hj',getElem!_pos d' i (by omega)]at this
    rw[getElem!_pos _ j hj,getElem!_pos _ i (by omega)]
    simpa using this
theorem Z0g(L:SlLaysF0.n6 P rn)(hb:Te P (rn.f 6)){m:Mem}{f:Aa}:Au P (rn.f 6) [.Ae,f] m [] fun r m'=>r=Ag∧m'=m:=by
 refine⟨hb,fun W Φ ρ vs w hr ha CN=>?_⟩
 obtain⟨v1,v2,rfl⟩:∃ v1 v2,vs = #[v1,v2]:=by
  have hs:vs.size=2:=by simpa using ha.1
  refine⟨vs[0],vs[1],?_⟩;apply Array.ext
  ·simp[hs]
  ·intro i h1 h2;have:i=0∨i=1:=by omega
   rcases this with rfl|rfl<;>rfl
 have r1:=ha.2 0 _ v1 rfl rfl;cases r1;refine(Go.Proofs.AnyF.slices_SortFunc_none L none 0 v2 w).mono ?_;rintro e w' ⟨rfl,rfl⟩;exact⟨_,Ag,m,Φ,ρ,rfl,.refl _ _,fun _ _ _ h=>h,hr,GM _ _,lR _,rfl,rfl⟩
end
end Go.AE
end
