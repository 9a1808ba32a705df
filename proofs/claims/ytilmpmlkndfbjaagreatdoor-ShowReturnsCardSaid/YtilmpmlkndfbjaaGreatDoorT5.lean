/- Part 5 -/
import Derived.Test.YtilmpmlkndfbjaaGreatDoorT4
set_option linter.all false
open Nat (beq ble)
namespace Go.AE
open Go.RowKit
def yA(b N:Nat)(ex:Bool):Gt:=fun id e get op=>
 match op with
 | .Dj x=>match e x with
  | .sl b' off _=>bif beq b' b&&ble off N then some (match ex with|true=>.int .i64 (.ofNat (N - off))|false=>.atLeast (N - off),[])else none
  | _=>none
 | .bin .gtr q x y=>match e y with
  | .atLeast k=>match e x with
   | .int .i64 (.ofNat c)=>bif ble c k then some (.bool false,[])else none
   | _=>none
  | _=>Ak id e get (.bin .gtr q x y)
 | .append k bytes z s x=>match ex,e s with
  | true,.sl b' off len=>bif beq b' b then match I1 get k (e x),N7 get k (.sl b' off len)with
   | some xs,some olds=>bif ble (N+1) (off+len+xs.length)then (bif ble (len+xs.length) W6&&ble bytes W6&&beq olds.length len then some (.sl id 0 (len+xs.length),[(id,some (.cells k (olds++xs)))])else none)else Ak id e get (.append k bytes z s x)
   | _,_=>none
   else Ak id e get (.append k bytes z s x)
  | _,_=>Ak id e get (.append k bytes z s x)
 | .BI k bytes z s x=>match ex,e s,e x with
  | true,.sl b' off len,.int _ (.ofNat n)=>bif beq b' b then match N7 get k (.sl b' off len)with
   | some olds=>bif ble (N+1) (off+len+n)&&ble (len+n) W6&&ble bytes W6&&beq olds.length len then some (.sl id 0 (len+n),[(id,some (.cells k (olds++List.replicate n z)))])else none
   | none=>none
   else none
  | _,_,_=>none
 | op=>Ak id e get op
theorem Ylr(b N:Nat)(ex:Bool):eT (Jr b N ex) (yA b N ex):=by
 intro n id t m op v d J h I;have o:∀D,Ak id (CS t) m.tr.get D=some (v,d)->Ae id (Cx n t) m.mem D=some (v,(m.apply d).mem):=λD C=>WW J C I;have w:∀y,ev (Cx n t) y=CS t y:=λy=>congrFun (MZ J) y;have F:∀k y,J0 m.mem k y=I1 m.tr.get k y:=λk y=>oC k y;have j:∀k y,G8 m.mem k y=N7 m.tr.get k y:=λk y=>Zxq k y;have f:∀{p q:Nat},ble p q=true->p<=q:=λh=>Nat.le_of_ble_eq_true h;have i:∀{p q:Nat},beq p q=true->p=q:=λh=>Nat.eq_of_beq_eq_true h;have one:∀k (rows:List (List Aa)),([(id,some (.cells k rows))]:List (Nat×Option Af))=d->m.mem.set id (.cells k rows)=(m.apply d).mem:=by
  intro k rows e;subst e;rw[TM.Cf _ _ I];rfl
 unfold yA at h;unfold Jr;split at h
 ·rename_i y;simp only[w];split at h<;>first|(cases h;done)|skip
  rename_i b' off len G;cases a:beq b' b&&ble off N with
  |false=>rw[a]at h;cases h
  |true=>
   rw[a]at h;simp only[cond_true,oI,AT]at h;simp only[bA]at a;obtain⟨A,r⟩:=h;subst r;rw[G];simp only;rw[iP ⟨i a.1,f a.2⟩,<-A];cases ex<;>rfl
 ·rename_i q y z;simp only[w];split at h
  ·rename_i k H;split at h<;>first|(cases h;done)|skip
   rename_i c G;rw[H];simp only;rw[G];simp only;cases a:ble c k with
   |false=>rw[a]at h;cases h
   |true=>
    rw[a]at h;simp only[cond_true,oI,AT]at h;obtain⟨A,r⟩:=h;subst A;subst r;rw[iP (by have:=f a;simp;omega)];rfl
  rename_i B;split
  ·rename_i k H;exact absurd H (B k)
  exact o _ h
 ·rename_i k g z s y;simp only[w];split at h
  ·rename_i b' off len C;rw[C];simp only;cases u:beq b' b with
   |false=>
    rw[u]at h;rw[iN (λe=>by subst e;rw[Nat.beq_refl]at u;cases u)];exact o _ h
   |true=>
    rw[u]at h;simp only[cond_true]at h;rw[iP (i u),F,j];split at h<;>first|(cases h;done)|skip
    rename_i xs l A r;rw[A,r];simp only;cases E:ble (N+1) (off+len+xs.length)with
    |false=>
     rw[E]at h;rw[iN (λO=>by rw[Nat.ble_eq_true_of_le (show N+1<=off+len+xs.length from O)]at E;cases E)];exact o _ h
    |true=>
     rw[E]at h;simp only[cond_true]at h;have M:=f E;rw[iP (show N<off+len+xs.length by omega)];cases a:ble (len+xs.length) W6&&ble g W6&&beq l.length len with
     |false=>rw[a]at h;cases h
     |true=>
      rw[a]at h;simp only[cond_true,oI,AT]at h;simp only[bA]at a;rw[iP ⟨f a.1.1,f a.1.2,i a.2⟩,one _ _ h.2,h.1]
  rename_i B;split
  ·rename_i b' off len C;exact absurd rfl (λe=>B b' off len e C)
  exact o _ h
 ·rename_i k g z s y;simp only[w];split at h<;>first|(cases h;done)|skip
  rename_i b' off len kx nn C G;rw[C,G];simp only;cases u:beq b' b with
  |false=>rw[u]at h;cases h
  |true=>
   rw[u]at h;simp only[cond_true]at h;rw[iP ⟨i u,by simp⟩,j];split at h<;>first|(cases h;done)|skip
   rename_i l r;rw[r];simp only[Int.ofNat_eq_natCast,Int.toNat_natCast];cases a:ble (N+1) (off+len+nn)&&ble (len+nn) W6&&ble g W6&&beq l.length len with
   |false=>rw[a]at h;cases h
   |true=>
    rw[a]at h;simp only[cond_true,oI,AT]at h;simp only[bA]at a;rw[iP ⟨by have:=f a.1.1.1;omega,f a.1.1.2,f a.1.2,i a.2⟩,one _ _ h.2,h.1]
 rename_i A r K L;split
 ·exact absurd rfl (A _)
 ·exact absurd rfl (r _ _ _)
 ·exact absurd rfl (K _ _ _ _ _)
 ·exact absurd rfl (L _ _ _ _ _)
 exact o _ h
end Go.AE
namespace Go.Plain
structure Lt where
 k:Int
 g:Int
 r:Int
 i:Int
 s:Int
 o:Bool
 deriving DecidableEq,Inhabited
def Z4(p:Lt→Bool)(ls:List Lt):Nat:=(ls.filter p).length
def As(l:Lt):Bool:=l.k == 1
def AO(l:Lt):Bool:=l.k == 2
def Z0(ls:List Lt):Nat:=Z4 As ls
def X6(ls:List Lt):Nat:=Z4 AO ls
def Bl(g:Int)(ls:List Lt):Nat:=Z4 (fun l=>As l&&l.g == g) ls
def J8(id:Int)(ls:List Lt):Nat:=Z4 (fun l=>AO l&&l.i == id) ls
def down(ls:List Lt)(i:Nat):Bool:=Z0 (ls.take i) % 2 == 0
def same(l:Lt)(ls:List Lt):Nat:=Z4 (fun o=>o.k == l.k&&o.g == l.g&&o.r == l.r) ls
def JV(l:Lt)(ls:List Lt):Nat:=Z4 (fun o=>o.k == l.k&&o.i == l.i&&o.s == l.s&&o.o != l.o) ls
def BQ(f:Int)(ls:List Lt)(l:Lt):Bool:=
 if l.k=1 then l.i == 0&&l.s == 0 && !l.o&&decide (0≤l.g)&&decide (l.g≤f)&&decide (1≤l.r)&&decide (l.r≤Bl l.g ls)&&same l ls == 1
 else if l.k=2 then l.g == 0&&l.r == 0&&(l.s == 1||l.s == -1)&&decide (1≤l.i)&&decide (l.i≤(X6 ls / 2:Nat))&&JV l ls == 1&&J8 l.i ls == 2
 else false
def DR(f:Int)(l:Lt):Bool:=
 if l.k=1 then decide (0≤l.g)&&decide (l.g≤f)&&l.i == 0&&l.s == 0 && !l.o
 else if l.k=2 then l.g == 0&&l.r == 0&&(l.s == 1||l.s == -1)
 else false
def mark(next:Nat→Nat):Nat→List Bool→Nat→List Bool
 | 0,seen,_=>seen
 | k+1,seen,x=>if seen.getD x true then seen else mark next k (seen.set x true) (next x)
def Gu(next:Nat→Nat)(N:Nat):Nat→List Bool→Nat
 | 0,_=>0
 | k+1,seen=>if seen.getD (N - (k+1)) true then Gu next N k seen else 1+Gu next N k (mark next (N+1) seen (N - (k+1)))
def H0(next:Nat→Nat)(N:Nat):Nat:=Gu next N N (List.replicate N false)
theorem fI(next:Nat->Nat):∀(k:Nat) (seen:List Bool) (x:Nat),(mark next k seen x).length=seen.length
 |0,_,_=>rfl
 |k+1,seen,x=>by
  simp only[mark];split
  ·rfl
  rw[fI next k];simp
def A4(seen:List Bool):Nat:=(seen.filter fun b=>!b).length
end Go.Plain
