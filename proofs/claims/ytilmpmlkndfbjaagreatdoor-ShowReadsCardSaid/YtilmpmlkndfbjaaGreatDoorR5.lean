/- Part 5 of the proof: AeHc, Pa. -/
import Derived.Test.YtilmpmlkndfbjaaGreatDoorR4
set_option linter.all false
section
namespace Go.AE
open Go.RowKit
def sdX(b N:Nat)(ex:Bool):StepD:=fun id e get op=>
 match op with
 | .capSl x=>match e x with
  | .sl b' off _=>bif Nat.beq b' b&&Nat.ble off N then some (match ex with|true=>.int .i64 (.ofNat (N - off))|false=>.atLeast (N - off),[])else none
  | _=>none
 | .bin .gtr q x y=>match e y with
  | .atLeast k=>match e x with
   | .int .i64 (.ofNat c)=>bif Nat.ble c k then some (.bool false,[])else none
   | _=>none
  | _=>stepD id e get (.bin .gtr q x y)
 | .append k bytes z s x=>match ex,e s with
  | true,.sl b' off len=>bif Nat.beq b' b then match I7 get k (e x),C3 get k (.sl b' off len)with
   | some xs,some olds=>bif Nat.ble (N+1) (off+len+xs.length)then (bif Nat.ble (len+xs.length) W6&&Nat.ble bytes W6&&Nat.beq olds.length len then some (.sl id 0 (len+xs.length),[(id,some (.cells k (olds++xs)))])else none)else stepD id e get (.append k bytes z s x)
   | _,_=>none
   else stepD id e get (.append k bytes z s x)
  | _,_=>stepD id e get (.append k bytes z s x)
 | .appendZ k bytes z s x=>match ex,e s,e x with
  | true,.sl b' off len,.int _ (.ofNat n)=>bif Nat.beq b' b then match C3 get k (.sl b' off len)with
   | some olds=>bif Nat.ble (N+1) (off+len+n)&&Nat.ble (len+n) W6&&Nat.ble bytes W6&&Nat.beq olds.length len then some (.sl id 0 (len+n),[(id,some (.cells k (olds++List.replicate n z)))])else none
   | none=>none
   else none
  | _,_,_=>none
 | op=>stepD id e get op
theorem Z8k(b N:Nat)(ex:Bool):Zlm (stX b N ex) (sdX b N ex):=by
 intro n id t m op v d K h J;have o:∀ D,stepD id (evT t) m.tr.get D=some (v,d)→stepA id (toL n t) m.mem D=some (v,(m.apply d).mem):=fun D C=>Zjh K C J
 have w:∀ y,ev (toL n t) y=evT t y:=fun y=>congrFun (Zds K) y
 have F:∀ k y,N6 m.mem k y=I7 m.tr.get k y:=fun k y=>Zo3 k y
 have j:∀ k y,I1 m.mem k y=C3 m.tr.get k y:=fun k y=>Zql k y
 have f:∀ {p q:Nat},Nat.ble p q=true→p≤q:=fun h=>Nat.le_of_ble_eq_true h
 have i:∀ {p q:Nat},Nat.beq p q=true→p=q:=fun h=>Nat.eq_of_beq_eq_true h
 have one:∀ k (rows:List (List AVal)),([(id,some (.cells k rows))]:List (Nat×Option ABlk))=d→m.mem.set id (.cells k rows)=(m.apply d).mem:=by
  intro k rows e;subst e;rw[TM.apply_mem _ _ J];rfl
 unfold sdX at h;unfold stX;split at h
 ·rename_i y;simp only[w];split at h<;>first|(cases h; done)|skip
  rename_i b' off len G;cases a:Nat.beq b' b&&Nat.ble off N with
  | false=>rw[a]at h; cases h
  | true=>
   rw[a]at h;simp only[cond_true,oI,pI2]at h;simp only[bA]at a;obtain⟨A,r⟩:=h;subst r;rw[G];simp only;rw[if_pos ⟨i a.1,f a.2⟩,← A];cases ex<;>rfl
 ·rename_i q y z;simp only[w];split at h
  ·rename_i k I;split at h<;>first|(cases h; done)|skip
   rename_i c G;rw[I];simp only;rw[G];simp only;cases a:Nat.ble c k with
   | false=>rw[a]at h; cases h
   | true=>
    rw[a]at h;simp only[cond_true,oI,pI2]at h;obtain⟨A,r⟩:=h;subst A; subst r;rw[if_pos (by have:=f a; simp; omega)]
    rfl
  ·rename_i B;split
   ·rename_i k I;exact absurd I (B k)
   ·exact o _ h
 ·rename_i k g z s y;simp only[w];split at h
  ·rename_i b' off len C;rw[C];simp only;cases u:Nat.beq b' b with
   | false=>
    rw[u]at h;rw[if_neg (fun e=>by subst e; rw[Nat.beq_refl]at u; cases u)]
    exact o _ h
   | true=>
    rw[u]at h;simp only[cond_true]at h;rw[if_pos (i u),F,j];split at h<;>first|(cases h; done)|skip
    rename_i H l A r;rw[A,r];simp only;cases E:Nat.ble (N+1) (off+len+H.length)with
    | false=>
     rw[E]at h;rw[if_neg (fun P=>by rw[Nat.ble_eq_true_of_le (show N+1≤off+len+H.length from P)]at E; cases E)]
     exact o _ h
    | true=>
     rw[E]at h;simp only[cond_true]at h;have O:=f E;rw[if_pos (show N<off+len+H.length by omega)]
     cases a:Nat.ble (len+H.length) W6&&Nat.ble g W6&&Nat.beq l.length len with
     | false=>rw[a]at h; cases h
     | true=>
      rw[a]at h;simp only[cond_true,oI,pI2]at h;simp only[bA]at a;rw[if_pos ⟨f a.1.1,f a.1.2,i a.2⟩,one _ _ h.2,h.1]
  ·rename_i B;split
   ·rename_i b' off len C;exact absurd rfl (fun e=>B b' off len e C)
   ·exact o _ h
 ·rename_i k g z s y;simp only[w];split at h<;>first|(cases h; done)|skip
  rename_i b' off len kx nn C G;rw[C,G];simp only;cases u:Nat.beq b' b with
  | false=>rw[u]at h; cases h
  | true=>
   rw[u]at h;simp only[cond_true]at h;rw[if_pos ⟨i u,by simp⟩,j]
   split at h<;>first|(cases h; done)|skip
   rename_i l r;rw[r];simp only[Int.ofNat_eq_natCast,Int.toNat_natCast];cases a:Nat.ble (N+1) (off+len+nn)&&Nat.ble (len+nn) W6&&Nat.ble g W6&&Nat.beq l.length len with
   | false=>rw[a]at h; cases h
   | true=>
    rw[a]at h;simp only[cond_true,oI,pI2]at h;simp only[bA]at a;rw[if_pos ⟨by have:=f a.1.1.1; omega,f a.1.1.2,f a.1.2,i a.2⟩,one _ _ h.2,h.1]
 ·rename_i A r L M;split
  ·exact absurd rfl (A _)
  ·exact absurd rfl (r _ _ _)
  ·exact absurd rfl (L _ _ _ _ _)
  ·exact absurd rfl (M _ _ _ _ _)
  ·exact o _ h
end Go.AE
end
section
namespace Go.Plain
structure Lt where
 k:Int
 g:Int
 r:Int
 i:Int
 s:Int
 o:Bool
 deriving DecidableEq,Inhabited
def Z5(p:Lt→Bool)(ls:List Lt):Nat:=(ls.filter p).length
def isP(l:Lt):Bool:=l.k == 1
def isX(l:Lt):Bool:=l.k == 2
def Z3(ls:List Lt):Nat:=Z5 isP ls
def X7(ls:List Lt):Nat:=Z5 isX ls
def inG(g:Int)(ls:List Lt):Nat:=Z5 (fun l=>isP l&&l.g == g) ls
def G9(id:Int)(ls:List Lt):Nat:=Z5 (fun l=>isX l&&l.i == id) ls
def down(ls:List Lt)(i:Nat):Bool:=Z3 (ls.take i) % 2 == 0
def same(l:Lt)(ls:List Lt):Nat:=Z5 (fun o=>o.k == l.k&&o.g == l.g&&o.r == l.r) ls
def Zao(l:Lt)(ls:List Lt):Nat:=Z5 (fun o=>o.k == l.k&&o.i == l.i&&o.s == l.s&&o.o != l.o) ls
def okR(f:Int)(ls:List Lt)(l:Lt):Bool:=
 if l.k=1 then l.i == 0&&l.s == 0 && !l.o&&decide (0≤l.g)&&decide (l.g≤f)&&decide (1≤l.r)&&decide (l.r≤inG l.g ls)&&same l ls == 1
 else if l.k=2 then l.g == 0&&l.r == 0&&(l.s == 1||l.s == -1)&&decide (1≤l.i)&&decide (l.i≤(X7 ls / 2:Nat))&&Zao l ls == 1&&G9 l.i ls == 2
 else false
def okC(f:Int)(l:Lt):Bool:=
 if l.k=1 then decide (0≤l.g)&&decide (l.g≤f)&&l.i == 0&&l.s == 0 && !l.o
 else if l.k=2 then l.g == 0&&l.r == 0&&(l.s == 1||l.s == -1)
 else false
def mark(next:Nat→Nat):Nat→List Bool→Nat→List Bool
 | 0,seen,_=>seen
 | k+1,seen,x=>if seen.getD x true then seen else mark next k (seen.set x true) (next x)
def cyc(next:Nat→Nat)(N:Nat):Nat→List Bool→Nat
 | 0,_=>0
 | k+1,seen=>if seen.getD (N - (k+1)) true then cyc next N k seen else 1+cyc next N k (mark next (N+1) seen (N - (k+1)))
def K1(next:Nat→Nat)(N:Nat):Nat:=cyc next N N (List.replicate N false)
theorem Zl8(next:Nat→Nat):∀ (k:Nat) (seen:List Bool) (x:Nat),(mark next k seen x).length=seen.length
 | 0,_,_=>rfl
 | k+1,seen,x=>by
  simp only[mark];split
  ·rfl
  ·rw[Zl8 next k]; simp
def D6(seen:List Bool):Nat:=(seen.filter fun b=>!b).length
end Go.Plain
end
