/- Part 26 of the proof: Rs. -/
import Derived.Test.YtipeejpafgnjdaaGreatDoorG22
import Derived.Test.YtipeejpafgnjdaaGreatDoorG25
set_option linter.all false
namespace Go.Known
open Go Go.AE Go.Proofs
open Go.Plain
attribute [simp] Zgn Zdn Zcw Zj0 Ze2 Ze7 Zex Zgo Zj6 Zam Za2 Zat Zai Zau Zap Zdw Ze6 Zg8 Zgz Zgt Zkn Zeu Zqe Zgm Zg5 Ze3 Zg3 Zg7 Zki Zgq Zg0 Zew Zkj Zg9 Ze4 Ze1 Zgv Zgx Zgp Zgu Zev Zdp Zkc Zgw Zkd Zqh Zdo Ze8 Zdy Zko Zhc Zey Zkh Zjs Ze5 Ze0 Zg4 Zjr Zjv Zql Zj2 Zgl Zdk Zdx Zdr Zdq Zdm Zp2 Zjp Zj9 Env.get argE SMem.at SMem.app SMem.get Zar Zb8 Zc2 Zce Zj4 Zkb Zjt Zkl Zka Zkm Zke Zkf Zkp Zj3 Zjz Zjw Zjy unA Zb7 Zbp Zhz Zfl Zaq aundef Zct Zdv Zez Zj8 Zgs recF memN indF Zfm retN oneK Zbz Zd8 SubR SubRE SubRB InjK InjA qOf Znn AVal.ren renL Zak ABlk.ren renB Zde Zfe Zbd Zbb FT.indep Zcl Zch Zdh subL in1 Zlk Zbq Zeb room sl_slV Z7s Z1x Z7t Z49 Zvf Z08 Zs8 Z8r Z7f Z51 Z5g wr_eq Z81 Z8z Z4v Z47 Z4j Zzh Z01 Zym bk_ptr bk_sl bk_map bk_imm Z7x bk_nil bk_int bk_str bk_imV xOf upX ap_slV Z7c ix_slV sr_slV sr_sl0 Z3i Ztn Z2k Z1k Z3z Z3y
@[simp] theorem ce_int (k : IntKind) (n : Int): AVal.cells (.int k n) = some [(.int k n)] := rfl
@[simp] theorem on_int (k : IntKind) (n : Int): AVal.one (.int k n) = true := rfl
@[simp] theorem ce_bool (b : Bool): AVal.cells (.bool b) = some [(.bool b)] := rfl
@[simp] theorem on_bool (b : Bool): AVal.one (.bool b) = true := rfl
@[simp] theorem ce_ptr (a b c : Nat): AVal.cells (.ptr a b c) = some [(.ptr a b c)] := rfl
@[simp] theorem on_ptr (a b c : Nat): AVal.one (.ptr a b c) = true := rfl
@[simp] theorem ce_iptr (l : List (List AVal)) (a b : Nat): AVal.cells (.iptr l a b) = some [(.iptr l a b)] := rfl
@[simp] theorem on_iptr (l : List (List AVal)) (a b : Nat): AVal.one (.iptr l a b) = true := rfl
@[simp] theorem ce_sl (a b c : Nat): AVal.cells (.sl a b c) = some [(.sl a b c)] := rfl
@[simp] theorem on_sl (a b c : Nat): AVal.one (.sl a b c) = true := rfl
@[simp] theorem ce_imm (l : List (List AVal)): AVal.cells (.imm l) = some [(.imm l)] := rfl
@[simp] theorem on_imm (l : List (List AVal)): AVal.one (.imm l) = true := rfl
@[simp] theorem ce_map (b : Nat): AVal.cells (.map b) = some [(.map b)] := rfl
@[simp] theorem on_map (b : Nat): AVal.one (.map b) = true := rfl
@[simp] theorem ce_func (f : Fn) (a b : List AVal): AVal.cells (.func f a b) = some [(.func f a b)] := rfl
@[simp] theorem on_func (f : Fn) (a b : List AVal): AVal.one (.func f a b) = true := rfl
@[simp] theorem ce_str (l : List UInt8): AVal.cells (.str l) = some [(.str l)] := rfl
@[simp] theorem on_str (l : List UInt8): AVal.one (.str l) = true := rfl
@[simp] theorem ce_nilSl : AVal.cells .nilSl = some [.nilSl] := rfl
@[simp] theorem on_nilSl : AVal.one .nilSl = true := rfl
@[simp] theorem ce_nilPtr : AVal.cells .nilPtr = some [.nilPtr] := rfl
@[simp] theorem on_nilPtr : AVal.one .nilPtr = true := rfl
@[simp] theorem ce_nilMap : AVal.cells .nilMap = some [.nilMap] := rfl
@[simp] theorem on_nilMap : AVal.one .nilMap = true := rfl
@[simp] theorem ce_nilFunc : AVal.cells .nilFunc = some [.nilFunc] := rfl
@[simp] theorem on_nilFunc : AVal.one .nilFunc = true := rfl
@[simp] theorem ce_agg (l : List AVal) : AVal.cells (.agg l) = some l := rfl
def Zfz (l:List (List Nat)):List (List AVal):=l.map fun w=>[.imm (nums w)]
theorem Zio (l:List (List Nat)):(Zfz l).length=l.length:=by simp[Zfz]
theorem Zm6 (l:List (List Nat)) (w:List Nat):Zfz (l++[w])=Zfz l++[[.imm (nums w)]]:=by simp[Zfz]
theorem Zgg:∀ (l:List (List Nat)),Zal (Zfz l)=true
 | []=>rfl
 | w :: r=>by
  have:=Zgg r
  simp only[Zfz,List.map_cons,Zal,Zag,AVal.closed,Za0,Bool.and_true,Bool.true_and]at this ⊢
  exact this
theorem Zii (q:Nat→Nat) (l:List (List Nat)):Zak q (Zfz l)=Zfz l:=Zad q _ (Zgg l)
theorem Z3a {get:Nat→Option ABlk} {S:List Nat} {A:List (List AVal)} (hA:Zal A=true) (r:List AVal):fzLL get S (A++[r])=A++[r.map (fzV get S)]:=by
 rw[Zu9,Zk4 hA]; rfl
@[simp] theorem Zje (q : Nat → Nat) (a b : List (List AVal)) : Zak q (a ++ b) = Zak q a ++ Zak q b := by simp [Zbn]
theorem Z78 {get:Nat→Option ABlk} {S:List Nat} {b:Nat} {l:List Nat} (hb:memN b S=true) (hg:get b=if nums l=[]then none else some (.cells 1 (nums l))):fzV get S (slV b (nums l))=imV (nums l):=
 fz_slV hb hg fun row hr x hx=>by
  obtain⟨i,_,rfl⟩:=List.mem_map.1 hr
  rw[List.mem_singleton]at hx
  subst hx
  rfl
theorem Zfq {get:Nat→Option ABlk} {b k n:Nat} {rows:List (List AVal)} (h:get b=some (.cells k rows)) (hs:∀ row,row∈rows → ∀ x,x∈row→Zah get n x=some x):Zah get (n+1) (.sl b 0 rows.length)=some (.imm rows):=by
 have h1:Nat.ble (0+rows.length) rows.length=true:=by rw[Nat.zero_add]; exact Nat.ble_self_eq_true _
 rw[Zah]
 simp only[h,h1,cond_true,List.drop_zero,List.take_length,Zhv hs]
theorem Zen {get:Nat→Option ABlk} {n:Nat} {rows:List (List AVal)} (hs:∀ row,row∈rows → ∀ x,x∈row→Zah get n x=some x):Zah get (n+1) (.imm rows)=some (.imm rows):=by
 rw[Zah]
 simp only[Zhv hs]
theorem Zhl {get:Nat→Option ABlk} {n:Nat} (l:List Nat):∀ row,row∈nums l → ∀ x,x∈row→Zah get (n+1) x=some x:=by
 intro row hr x hx
 obtain⟨i,_,rfl⟩:=List.mem_map.1 hr
 rw[List.mem_singleton]at hx
 subst hx
 rfl
theorem Zzm {get:Nat→Option ABlk} {n:Nat} (l:List (List Nat)):∀ row,row∈Zfz l → ∀ x,x∈row→Zah get (n+2) x=some x:=by
 intro row hr x hx
 obtain⟨w,_,rfl⟩:=List.mem_map.1 hr
 rw[List.mem_singleton]at hx
 subst hx
 exact Zen (Zhl w)
end Go.Known
