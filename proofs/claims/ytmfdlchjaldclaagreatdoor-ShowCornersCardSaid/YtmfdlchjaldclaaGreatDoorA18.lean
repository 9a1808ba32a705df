/- Part 18 of the proof: Pa. -/
set_option linter.all false
namespace Go.Plain
structure Lt where
 k:Int
 g:Int
 r:Int
 i:Int
 s:Int
 o:Bool
 deriving DecidableEq,Inhabited
def cntP (p:Lt→Bool) (ls:List Lt):Nat:=(ls.filter p).length
def isP (l:Lt):Bool:=l.k == 1
def isX (l:Lt):Bool:=l.k == 2
def passes (ls:List Lt):Nat:=cntP isP ls
def visits (ls:List Lt):Nat:=cntP isX ls
def inG (g:Int) (ls:List Lt):Nat:=cntP (fun l=>isP l&&l.g == g) ls
def times (id:Int) (ls:List Lt):Nat:=cntP (fun l=>isX l&&l.i == id) ls
def down (ls:List Lt) (i:Nat):Bool:=passes (ls.take i) % 2 == 0
def same (l:Lt) (ls:List Lt):Nat:=cntP (fun o=>o.k == l.k&&o.g == l.g&&o.r == l.r) ls
def pairs (l:Lt) (ls:List Lt):Nat:=cntP (fun o=>o.k == l.k&&o.i == l.i&&o.s == l.s&&o.o != l.o) ls
def okR (f:Int) (ls:List Lt) (l:Lt):Bool:=
 if l.k=1 then l.i == 0&&l.s == 0 && !l.o&&decide (0≤l.g)&&decide (l.g≤f)&&decide (1≤l.r)&&decide (l.r≤inG l.g ls)&&same l ls == 1
 else if l.k=2 then l.g == 0&&l.r == 0&&(l.s == 1||l.s == -1)&&decide (1≤l.i)&&decide (l.i≤(visits ls / 2:Nat))&&pairs l ls == 1&&times l.i ls == 2
 else false
def okC (f:Int) (l:Lt):Bool:=
 if l.k=1 then decide (0≤l.g)&&decide (l.g≤f)&&l.i == 0&&l.s == 0 && !l.o
 else if l.k=2 then l.g == 0&&l.r == 0&&(l.s == 1||l.s == -1)
 else false
def mark (next:Nat→Nat):Nat→List Bool→Nat→List Bool
 | 0,seen,_=>seen
 | k+1,seen,x=>if seen.getD x true then seen else mark next k (seen.set x true) (next x)
def cyc (next:Nat→Nat) (N:Nat):Nat→List Bool→Nat
 | 0,_=>0
 | k+1,seen=>if seen.getD (N - (k+1)) true then cyc next N k seen else 1+cyc next N k (mark next (N+1) seen (N - (k+1)))
def cycles (next:Nat→Nat) (N:Nat):Nat:=cyc next N N (List.replicate N false)
theorem mark_length (next:Nat→Nat):∀ (k:Nat) (seen:List Bool) (x:Nat),(mark next k seen x).length=seen.length
 | 0,_,_=>rfl
 | k+1,seen,x=>by
  simp only [mark]
  split
  · rfl
  · rw [mark_length next k]; simp
def unseen (seen:List Bool):Nat:=(seen.filter fun b=>!b).length
end Go.Plain
