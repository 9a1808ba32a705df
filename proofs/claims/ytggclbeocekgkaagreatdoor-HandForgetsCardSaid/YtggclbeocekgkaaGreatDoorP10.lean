/- Part 10 of the proof: AeGa, AeRunP, Pa. -/
import Derived.Test.YtggclbeocekgkaaGreatDoorP8
import Derived.Test.YtggclbeocekgkaaGreatDoorP9
import Derived.Deep.LoopGhost
import Derived.RangeFuncRecord
set_option linter.all false
section
namespace Go.AE
open Go.RowKit
abbrev XO:=Bool→List Af→(AY→Prop)→AY→Prop
structure Open (F:Fence):Prop where
 fn:∀ f,F.fn f
 depth:F.depth=none
 alive:F.alive=false
abbrev EC:=AA→Ao→AD→Prop
def EC.sw(H:EC):Prop:=∀ W Φ ρ Ar ρ',H W Φ ρ→Ext Φ ρ Ar ρ'→H W Ar ρ'
section
variable {F:Fence} {n:Nat} {H:EC} {D:List Deferred} {P:Program} {wr:XO} {sc:Bool}
end
end Go.AE
end
section
namespace Go.AE
open Go.RowKit
variable {P:Program}
def D8(P:Program)(call:AP):Prop:=
 ∀ g args m v m' wl,call g args m=some (v,m',wl)→m.next≤m'.next∧(∀ c,c<m.next→c∉wl→m'.mem.get c=m.mem.get c) ∧
  ∀ id,Au P g args m.mem [id] fun r m''=>r=v∧m''=m'.mem
theorem Yt{n:Nat}{t:Tr Aa}(ht:Dj n t)(g:Option (Nat×Bool)):T7 (Cs n t) g=MM t g:=by
 cases g with
 | none=>rfl
 | some dw=>
  obtain⟨d,w⟩:=dw;have:(Cs n t).getD d Ag=Ch t (.tmp d):=by
   have:=congrFun (Jk ht) (.tmp d);exact this
  simp only[T7,MM,this];rfl
theorem bB{n:Nat}{t:Tr Aa}(ht:Dj n t)(f:Ah)(xs:List Ah):callee (Cs n t) f xs=MK t f xs:=by
 simp only[callee,MK,Jk ht];rfl
theorem WK{n id:Nat}{t:Tr Aa}{m:TM}{op:AU}{v:Aa}{d:List (Nat×Option Ai)}(ht:Dj n t)(h:Y6 id (Ch t) m.tr.get op=some (v,d))(hd:FB d=true) :
 Z5 id (Cs n t) m.mem op=some (v,(m.apply d).mem):=by
 rw[TM.Ct d m hd];refine OF ?_;rw[Jk ht];exact h
def RS.st(n:Nat)(s:RS):AY:=⟨Cs n s.t,s.m.mem⟩
structure Dg (n lim:Nat) (s s':RS):Prop where
 t:Dj n s'.t
 next:s.m.next≤s'.m.next
 keep:∀ c,c<lim→c∉s'.wl→c∉s.wl∧s'.m.mem.get c=s.m.mem.get c
theorem Dg.trans{n lim:Nat}{a b c:RS}(h:Dg n lim a b)(h':Dg n lim b c):Dg n lim a c:=
 ⟨h'.t,Nat.le_trans h.next h'.next,fun x hx hw=>by
  obtain⟨h1,h2⟩:=h'.keep x hx hw;obtain⟨h3,h4⟩:=h.keep x hx h1;exact⟨h3,h2.trans h4⟩⟩
theorem ZY{n:Nat}{o:Af}(h:(match o.dst with|some d=>decide (d<n)|none=>true)=true):∀ k,o.dst=some k→k<n:=by
 intro k hk;rw[hk]at h;simpa using h
theorem Zip{call:AP}(AF:D8 P call){n lim base:Nat}(hn:n≤bound):∀ (ops:List Af) (i:Nat) (s s':RS),Dj n s.t→lim≤s.m.next →
 (ops.all fun o=>match o.dst with|some d=>decide (d<n)|none=>true)=true→C6 call lim base ops i s=some s' →
 Dg n lim s s' ∧ ∀ K:AY→Prop,K (s'.st n)→N9 P base ops i K (Cs n s.t) s.m.mem
 | [],i,s,s',ht,_,_,h=>by
  simp only[C6,oI]at h;subst h;exact⟨⟨ht,lR _,fun c _ hw=>⟨hw,rfl⟩⟩,fun K hK=>hK⟩
 | o :: r,i,s,s',ht,hlim,hd,h=>by
  simp only[List.all_cons,bA]at hd;obtain⟨hd1,hd2⟩:=hd;have CU:=ZY hd1;simp only[C6]at h;cases hw:MM s.t o.guard with
  | none=>simp[hw]at h
  | some q=>
   have hwA:T7 (Cs n s.t) o.guard=some q:=by rw[Yt ht]; exact hw
   cases q with
   | false=>
    simp only[hw]at h;obtain⟨p1,p2⟩:=A4 (v:=Ag) hn ht CU;obtain⟨h1,h2⟩:=Zip AF hn r (i+1) ⟨R3 s.t o.dst Ag,s.m,s.wl⟩ s' p1 hlim hd2 h;refine⟨⟨h1.t,h1.next,h1.keep⟩,fun K hK=>?_⟩
    simp only[N9,hwA];rw[← p2];exact h2 K hK
   | true=>
    simp only[hw]at h;have other:(∀ f xs,o.op≠.call f xs)→(match Y6 (base+i) (Ch s.t) s.m.tr.get o.op with
     | some (v,[])=>C6 call lim base r (i+1) ⟨R3 s.t o.dst v,s.m,s.wl⟩
     | some (v,d)=>bif FB d then C6 call lim base r (i+1) ⟨R3 s.t o.dst v,s.m.apply d,EG lim s.wl d⟩ else none
     | none=>none)=some s'→Dg n lim s s' ∧ ∀ K:AY→Prop,K (s'.st n) → ∃ v m',Z5 (base+i) (Cs n s.t) s.m.mem o.op=some (v,m')∧N9 P base r (i+1) K (put (Cs n s.t) o.dst v) m':=by
     intro hne hh;cases hs:Y6 (base+i) (Ch s.t) s.m.tr.get o.op with
     | none=>simp[hs]at hh
     | some vd=>
      obtain⟨v,d⟩:=vd;obtain⟨p1,p2⟩:=A4 (v:=v) hn ht CU;cases d with
      | nil=>
       simp only[hs]at hh;obtain⟨h1,h2⟩:=Zip AF hn r (i+1) ⟨R3 s.t o.dst v,s.m,s.wl⟩ s' p1 hlim hd2 hh;exact⟨⟨h1.t,h1.next,h1.keep⟩,fun K hK=>⟨v,s.m.mem,WK ht hs rfl,by rw[← p2]; exact h2 K hK⟩⟩
      | cons e d=>
       simp only[hs]at hh;cases ho:FB (e :: d)with
       | false=>rw[ho]at hh; cases hh
       | true=>
        rw[ho]at hh;simp only[cond_true]at hh;obtain⟨h1,h2⟩:=Zip AF hn r (i+1) _ s' p1 (by rw[TM.BX]; exact hlim) hd2 hh
        refine⟨⟨h1.t,by have:=h1.next; rw[TM.BX]at this; exact this,fun c hc hw'=>?_⟩,fun K hK=>⟨v,_,WK ht hs ho,by rw[← p2]; exact h2 K hK⟩⟩
        obtain⟨k1,k2⟩:=h1.keep c hc hw';obtain⟨k3,k4⟩:=RK (e :: d) s.wl s.m.mem c hc k1;exact⟨k3,by rw[k2,TM.Ct _ _ ho]; exact k4⟩
    by_cases BT:∃ f xs,o.op=.call f xs
    ·obtain⟨f,xs,hop⟩:=BT;simp only[hop]at h;cases hc:MK s.t f xs with
     | none=>simp[hc]at h
     | some ga=>
      obtain⟨g,args⟩:=ga;simp only[hc]at h;cases Ck:call g args s.m with
      | none=>simp[Ck]at h
      | some vmw=>
       obtain⟨v,m',wl⟩:=vmw;simp only[Ck]at h;obtain⟨q1,q2,q3⟩:=AF g args s.m v m' wl Ck;obtain⟨p1,p2⟩:=A4 (v:=v) hn ht CU;obtain⟨h1,h2⟩:=Zip AF hn r (i+1) _ s' p1 (Nat.le_trans hlim q1) hd2 h;refine⟨⟨h1.t,Nat.le_trans q1 h1.next,fun c hc' hw'=>?_⟩,fun K hK=>?_⟩
       ·obtain⟨k1,k2⟩:=h1.keep c hc' hw';obtain⟨k3,k4⟩:=Wn wl s.wl c hc' k1;exact⟨k3,by rw[k2]; exact q2 c (by omega) k4⟩
       ·have hcA:callee (Cs n s.t) f xs=some (g,args):=by rw[bB ht]; exact hc
        simp only[N9,hwA,hop,hcA];refine(q3 (base+i)).mono fun y m'' hy=>?_
        obtain⟨rfl,rfl⟩:=hy;rw[← p2];exact h2 K hK
    ·have hne:∀ f xs,o.op≠.call f xs:=fun f xs he=>BT ⟨f,xs,he⟩
     have h':(match Y6 (base+i) (Ch s.t) s.m.tr.get o.op with
      | some (v,[])=>C6 call lim base r (i+1) ⟨R3 s.t o.dst v,s.m,s.wl⟩
      | some (v,d)=>bif FB d then C6 call lim base r (i+1) ⟨R3 s.t o.dst v,s.m.apply d,EG lim s.wl d⟩ else none
      | none=>none)=some s':=by
      cases hop:o.op<;>rw[hop]at h<;>first|(exact absurd hop (hne _ _))|exact h
     obtain⟨h1,h2⟩:=other hne h';refine⟨h1,fun K hK=>?_⟩
     obtain⟨v,m',h3,h4⟩:=h2 K hK;simp only[N9,hwA];cases hop:o.op<;>rw[hop]at h3<;>first|(exact absurd hop (hne _ _))|(simp only[h3]; exact h4)
end Go.AE
end
section
namespace Go.Plain
structure Lt where
 k:Int
 g:Int
 r:Int
 i:Int
 s:Int
 o:Bool
 deriving DecidableEq,Inhabited
def Z9(p:Lt→Bool)(ls:List Lt):Nat:=(ls.filter p).length
def Am(l:Lt):Bool:=l.k == 1
def Bg(l:Lt):Bool:=l.k == 2
def Z0(ls:List Lt):Nat:=Z9 Am ls
def X0(ls:List Lt):Nat:=Z9 Bg ls
def Ay(g:Int)(ls:List Lt):Nat:=Z9 (fun l=>Am l&&l.g == g) ls
def Ou(id:Int)(ls:List Lt):Nat:=Z9 (fun l=>Bg l&&l.i == id) ls
def Z8(ls:List Lt)(i:Nat):Bool:=Z0 (ls.take i) % 2 == 0
def same(l:Lt)(ls:List Lt):Nat:=Z9 (fun o=>o.k == l.k&&o.g == l.g&&o.r == l.r) ls
def MH(l:Lt)(ls:List Lt):Nat:=Z9 (fun o=>o.k == l.k&&o.i == l.i&&o.s == l.s&&o.o != l.o) ls
def FC(f:Int)(ls:List Lt)(l:Lt):Bool:=
 if l.k=1 then l.i == 0&&l.s == 0 && !l.o&&decide (0≤l.g)&&decide (l.g≤f)&&decide (1≤l.r)&&decide (l.r≤Ay l.g ls)&&same l ls == 1
 else if l.k=2 then l.g == 0&&l.r == 0&&(l.s == 1||l.s == -1)&&decide (1≤l.i)&&decide (l.i≤(X0 ls / 2:Nat))&&MH l ls == 1&&Ou l.i ls == 2
 else false
def CZ(f:Int)(l:Lt):Bool:=
 if l.k=1 then decide (0≤l.g)&&decide (l.g≤f)&&l.i == 0&&l.s == 0 && !l.o
 else if l.k=2 then l.g == 0&&l.r == 0&&(l.s == 1||l.s == -1)
 else false
def mark(next:Nat→Nat):Nat→List Bool→Nat→List Bool
 | 0,seen,_=>seen
 | k+1,seen,x=>if seen.getD x true then seen else mark next k (seen.set x true) (next x)
def EX(next:Nat→Nat)(N:Nat):Nat→List Bool→Nat
 | 0,_=>0
 | k+1,seen=>if seen.getD (N - (k+1)) true then EX next N k seen else 1+EX next N k (mark next (N+1) seen (N - (k+1)))
def I8(next:Nat→Nat)(N:Nat):Nat:=EX next N N (List.replicate N false)
theorem SV(next:Nat→Nat):∀ (k:Nat) (seen:List Bool) (x:Nat),(mark next k seen x).length=seen.length
 | 0,_,_=>rfl
 | k+1,seen,x=>by
  simp only[mark];split
  ·rfl
  ·rw[SV next k]; simp
def E9(seen:List Bool):Nat:=(seen.filter fun b=>!b).length
end Go.Plain
end
