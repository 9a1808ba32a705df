/- Part 5 of the proof: AeHc, Pa. -/
import Derived.Test.YtilmpmlkndfbjaaGreatDoorK4
set_option linter.all false
section
namespace Go.AE
open Go.RowKit
def kQ(b N:Nat)(ex:Bool):FC:=fun id e get op=>
 match op with
 | .CO x=>match e x with
  | .sl b' off _=>bif Nat.beq b' b&&Nat.ble off N then some (match ex with|true=>.int .i64 (.ofNat (N - off))|false=>.atLeast (N - off),[])else none
  | _=>none
 | .bin .gtr q x y=>match e y with
  | .atLeast k=>match e x with
   | .int .i64 (.ofNat c)=>bif Nat.ble c k then some (.bool false,[])else none
   | _=>none
  | _=>Ak id e get (.bin .gtr q x y)
 | .append k bytes z s x=>match ex,e s with
  | true,.sl b' off len=>bif Nat.beq b' b then match T7 get k (e x),Q3 get k (.sl b' off len)with
   | some xs,some olds=>bif Nat.ble (N+1) (off+len+xs.length)then (bif Nat.ble (len+xs.length) W6&&Nat.ble bytes W6&&Nat.beq olds.length len then some (.sl id 0 (len+xs.length),[(id,some (.cells k (olds++xs)))])else none)else Ak id e get (.append k bytes z s x)
   | _,_=>none
   else Ak id e get (.append k bytes z s x)
  | _,_=>Ak id e get (.append k bytes z s x)
 | .Bs k bytes z s x=>match ex,e s,e x with
  | true,.sl b' off len,.int _ (.ofNat n)=>bif Nat.beq b' b then match Q3 get k (.sl b' off len)with
   | some olds=>bif Nat.ble (N+1) (off+len+n)&&Nat.ble (len+n) W6&&Nat.ble bytes W6&&Nat.beq olds.length len then some (.sl id 0 (len+n),[(id,some (.cells k (olds++List.replicate n z)))])else none
   | none=>none
   else none
  | _,_,_=>none
 | op=>Ak id e get op
theorem Z3i(b N:Nat)(ex:Bool):Xk (XS b N ex) (kQ b N ex):=by
 intro n id t m op v d ht h hd;have std:∀ op',Ak id (CA t) m.tr.get op'=some (v,d)→Ae id (Cg n t) m.mem op'=some (v,(m.apply d).mem):=fun op' hs=>SP ht hs hd
 have hev:∀ y,ev (Cg n t) y=CA t y:=fun y=>congrFun (Js ht) y
 have hsrc:∀ k y,O9 m.mem k y=T7 m.tr.get k y:=fun k y=>ZS k y
 have hrows:∀ k y,J7 m.mem k y=Q3 m.tr.get k y:=fun k y=>Zr k y
 have ble:∀ {p q:Nat},Nat.ble p q=true→p≤q:=fun h=>Nat.le_of_ble_eq_true h
 have beq:∀ {p q:Nat},Nat.beq p q=true→p=q:=fun h=>Nat.eq_of_beq_eq_true h
 have one:∀ k (rows:List (List Aa)),([(id,some (.cells k rows))]:List (Nat×Option Ag))=d→m.mem.set id (.cells k rows)=(m.apply d).mem:=by
  intro k rows e;subst e;rw[TM.BS _ _ hd];rfl
 unfold kQ at h;unfold XS;split at h
 ·rename_i y;simp only[hev];split at h<;>first|(cases h; done)|skip
  rename_i b' off len hy;cases hc:Nat.beq b' b&&Nat.ble off N with
  | false=>rw[hc]at h; cases h
  | true=>
   rw[hc]at h;simp only[cond_true,oI,AP]at h;simp only[bA]at hc;obtain⟨h1,h2⟩:=h;subst h2;rw[hy];simp only;rw[iP ⟨beq hc.1,ble hc.2⟩,← h1];cases ex<;>rfl
 ·rename_i q y z;simp only[hev];split at h
  ·rename_i k hz;split at h<;>first|(cases h; done)|skip
   rename_i c hy;rw[hz];simp only;rw[hy];simp only;cases hc:Nat.ble c k with
   | false=>rw[hc]at h; cases h
   | true=>
    rw[hc]at h;simp only[cond_true,oI,AP]at h;obtain⟨h1,h2⟩:=h;subst h1; subst h2;rw[iP (by have:=ble hc; simp; omega)]
    rfl
  ·rename_i hne;split
   ·rename_i k hz;exact absurd hz (hne k)
   ·exact std _ h
 ·rename_i k bytes z s y;simp only[hev];split at h
  ·rename_i b' off len hs;rw[hs];simp only;cases hb:Nat.beq b' b with
   | false=>
    rw[hb]at h;rw[iN (fun e=>by subst e; rw[Nat.beq_refl]at hb; cases hb)]
    exact std _ h
   | true=>
    rw[hb]at h;simp only[cond_true]at h;rw[iP (beq hb),hsrc,hrows];split at h<;>first|(cases h; done)|skip
    rename_i xs olds h1 h2;rw[h1,h2];simp only;cases hN:Nat.ble (N+1) (off+len+xs.length)with
    | false=>
     rw[hN]at h;rw[iN (fun hh=>by rw[Nat.ble_eq_true_of_le (show N+1≤off+len+xs.length from hh)]at hN; cases hN)]
     exact std _ h
    | true=>
     rw[hN]at h;simp only[cond_true]at h;have hN':=ble hN;rw[iP (show N<off+len+xs.length by omega)]
     cases hc:Nat.ble (len+xs.length) W6&&Nat.ble bytes W6&&Nat.beq olds.length len with
     | false=>rw[hc]at h; cases h
     | true=>
      rw[hc]at h;simp only[cond_true,oI,AP]at h;simp only[bA]at hc;rw[iP ⟨ble hc.1.1,ble hc.1.2,beq hc.2⟩,one _ _ h.2,h.1]
  ·rename_i hne;split
   ·rename_i b' off len hs;exact absurd rfl (fun e=>hne b' off len e hs)
   ·exact std _ h
 ·rename_i k bytes z s y;simp only[hev];split at h<;>first|(cases h; done)|skip
  rename_i b' off len kx nn hs hy;rw[hs,hy];simp only;cases hb:Nat.beq b' b with
  | false=>rw[hb]at h; cases h
  | true=>
   rw[hb]at h;simp only[cond_true]at h;rw[iP ⟨beq hb,by simp⟩,hrows]
   split at h<;>first|(cases h; done)|skip
   rename_i olds h2;rw[h2];simp only[Int.ofNat_eq_natCast,Int.toNat_natCast];cases hc:Nat.ble (N+1) (off+len+nn)&&Nat.ble (len+nn) W6&&Nat.ble bytes W6&&Nat.beq olds.length len with
   | false=>rw[hc]at h; cases h
   | true=>
    rw[hc]at h;simp only[cond_true,oI,AP]at h;simp only[bA]at hc;rw[iP ⟨by have:=ble hc.1.1.1; omega,ble hc.1.1.2,ble hc.1.2,beq hc.2⟩,one _ _ h.2,h.1]
 ·rename_i h1 h2 h3 h4;split
  ·exact absurd rfl (h1 _)
  ·exact absurd rfl (h2 _ _ _)
  ·exact absurd rfl (h3 _ _ _ _ _)
  ·exact absurd rfl (h4 _ _ _ _ _)
  ·exact std _ h
end Go.AE
end
section
namespace Go.Plain
structure Lt where
 k:Int
 g:Int
 r:Int
 i:Int
 s:Int
 o:Bool
 deriving DecidableEq,Inhabited
def Z7(p:Lt→Bool)(ls:List Lt):Nat:=(ls.filter p).length
def AT(l:Lt):Bool:=l.k == 1
def Bv(l:Lt):Bool:=l.k == 2
def Z5(ls:List Lt):Nat:=Z7 AT ls
def U0(ls:List Lt):Nat:=Z7 Bv ls
def CS(g:Int)(ls:List Lt):Nat:=Z7 (fun l=>AT l&&l.g == g) ls
def Ir(id:Int)(ls:List Lt):Nat:=Z7 (fun l=>Bv l&&l.i == id) ls
def W4(ls:List Lt)(i:Nat):Bool:=Z5 (ls.take i) % 2 == 0
def same(l:Lt)(ls:List Lt):Nat:=Z7 (fun o=>o.k == l.k&&o.g == l.g&&o.r == l.r) ls
def MU(l:Lt)(ls:List Lt):Nat:=Z7 (fun o=>o.k == l.k&&o.i == l.i&&o.s == l.s&&o.o != l.o) ls
def Gq(f:Int)(ls:List Lt)(l:Lt):Bool:=
 if l.k=1 then l.i == 0&&l.s == 0 && !l.o&&decide (0≤l.g)&&decide (l.g≤f)&&decide (1≤l.r)&&decide (l.r≤CS l.g ls)&&same l ls == 1
 else if l.k=2 then l.g == 0&&l.r == 0&&(l.s == 1||l.s == -1)&&decide (1≤l.i)&&decide (l.i≤(U0 ls / 2:Nat))&&MU l ls == 1&&Ir l.i ls == 2
 else false
def DG(f:Int)(l:Lt):Bool:=
 if l.k=1 then decide (0≤l.g)&&decide (l.g≤f)&&l.i == 0&&l.s == 0 && !l.o
 else if l.k=2 then l.g == 0&&l.r == 0&&(l.s == 1||l.s == -1)
 else false
def mark(next:Nat→Nat):Nat→List Bool→Nat→List Bool
 | 0,seen,_=>seen
 | k+1,seen,x=>if seen.getD x true then seen else mark next k (seen.set x true) (next x)
def FX(next:Nat→Nat)(N:Nat):Nat→List Bool→Nat
 | 0,_=>0
 | k+1,seen=>if seen.getD (N - (k+1)) true then FX next N k seen else 1+FX next N k (mark next (N+1) seen (N - (k+1)))
def H5(next:Nat→Nat)(N:Nat):Nat:=FX next N N (List.replicate N false)
theorem YH(next:Nat→Nat):∀ (k:Nat) (seen:List Bool) (x:Nat),(mark next k seen x).length=seen.length
 | 0,_,_=>rfl
 | k+1,seen,x=>by
  simp only[mark];split
  ·rfl
  ·rw[YH next k]; simp
def Kp(seen:List Bool):Nat:=(seen.filter fun b=>!b).length
end Go.Plain
end
