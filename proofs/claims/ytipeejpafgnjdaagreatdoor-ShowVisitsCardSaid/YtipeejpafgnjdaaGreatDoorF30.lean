/- Part 30 of the proof: Rr, Rv. -/
import Derived.Test.YtipeejpafgnjdaaGreatDoorF14
import Derived.Test.YtipeejpafgnjdaaGreatDoorF15
import Derived.Test.YtipeejpafgnjdaaGreatDoorF16
import Derived.Test.YtipeejpafgnjdaaGreatDoorF24
import Derived.Test.YtipeejpafgnjdaaGreatDoorF26
import Derived.Test.YtipeejpafgnjdaaGreatDoorF28
import Derived.Test.YtipeejpafgnjdaaGreatDoorF29
set_option linter.all false
section
namespace Go.Known
open Go Go.AE Go.Proofs
open Go.Plain
theorem w00:IntKind.i64.wrap 0=0:=by decide
attribute [local simp] w00
theorem okAll_of {f:Int} {ls:List Lt} (he:errC f ls=0) (h0:ls≠[]):0≤f∧f≤40∧OkAll f.toNat ls:=by
 unfold errC at he
 split at he
 · cases he
 · split at he
   · cases he
   · rename_i h1 h2
     split at he
     · rename_i h3
       exact⟨by omega,by omega,h3.resolve_left h0⟩
     · cases he
section
variable {f:Int} {ls:List Lt}
end
end Go.Known
end
section
namespace Go.Known
open Go Go.AE Go.Proofs
open Go.Plain
@[simp] theorem sd_slSl (id : Nat) (f : AOpd → AVal) (get : Nat → Option ABlk) (k : Nat) (x : AOpd) (lo hi : Option AOpd) : stepD id f get (.slSl k x lo hi none) = match f x with
 | .nilSl=>match slBoundsD f 0 0 lo hi with
  | some _=>some (.nilSl,[])
  | none=>none
 | .emp=>match slBoundsD f 0 0 lo hi with
  | some _=>some (.emp,[])
  | none=>none
 | .imm els=>if els.all (·.length == k) then match slBoundsD f els.length els.length lo hi with
  | some (l,h)=>some (.imm ((els.take h).drop l),[])
  | none=>none
  else none
 | .sl b off len=>match get b with
  | some (.cells k' els)=>if k'=k∧off+len≤els.length then match slBoundsD f len (els.length - off) lo hi with
   | some (l,h)=>some (.sl b (off+l) (h - l),[])
   | none=>none
   else none
  | _=>none
 | _=>none:=rfl
theorem c31s (rows:List (List AVal)) (hn:rows≠[]) (hl:rows.length≤1000) (h6:(rows.all fun x=>x.length == 6)=true) (hc:closedLL rows=true) :
 Ctr Tryz.prog 57 [.imm rows] ⟨[],1⟩ fun v m=>v=.sl 1 0 rows.length∧m=⟨[(1,.cells 6 rows)],2⟩:=by
 refine ctr_P hm Tryz.func57 cf31 rfl rfl fun K hK=>?_
 have hr:∀ q,renLL q rows=rows:=fun q=>renLL_closed q _ hc
 have hK':=hK _ _ ⟨rfl,rfl⟩
 clear hK
 have hb:rows.length≤1048576:=by omega
 have he:binA .eql .slice (.imm rows) .nilSl=some (.bool false):=by
  have:rows.isEmpty=false:=by cases rows with
   | nil=>exact absurd rfl hn
   | cons=>rfl
  simp [binA,eqA,eqNil,isNil,this]
 simp [he,sr_imm,h6,hn,hb,appendRowsD,AVal.cells]
 exact endK hK' [(1,6)] (by simp [hr])
theorem sr_slO (get:Nat→Option ABlk) (k b off len:Nat):srcRowsD get k (.sl b off len)=match get b with
 | some (.cells k' els)=>if k'=k∧off+len≤els.length then some ((els.drop off).take len) else none
 | _=>if len=0 then some [] else none:=by
 simp only [srcRowsD,rowsOfD]
 rfl
end Go.Known
end
