/- Part 29 of the proof: Rs. -/
import Derived.Test.YtipeejpafgnjdaaGreatDoorE23
import Derived.Test.YtipeejpafgnjdaaGreatDoorE28
set_option linter.all false
namespace Go.Known
open Go Go.AE Go.Proofs
open Go.Plain
attribute [simp] Zgs Zdl Zcr Ziu Zen Zeo Zem Zgm Zjc Zao Za1 Zau Zak Zat Zar Zdh Zer Zgk Zgj Zga Zi8 Zej Zo5 Zgd Zgo Zev Zgg Zgq Zjn Zf9 Zf8 Zel Zi9 Zgc Zei Zes Zgf Zgw Zgu Zgx Zeu Zdk Zi1 Zgh Zjd Zo3 Zdp Zet Zdo Zjm Zge Zep Zi6 Zjl Zeh Zek Zgn Zi4 Zje Zo0 Zix Zgb Zdf Zdg Zdi Zde Zds Zoq Zh8 Ziw Env.get argE SMem.at SMem.app SMem.get Zaw Zb1 Zc0 Zb6 Zjj Zjk Zjo Zi7 Ziv Zi3 Ziz Zi0 Zji Zjp Zja Zjb Zi5 unA Zbz Zbg Zha Zfb Zas aundef Zcs Zdq Zeq Zjh Zf7 recF memN indF Zhc retN oneK Zbw Zd7 SubR SubRE SubRB InjK InjA qOf Zmn AVal.ren renL Zam ABlk.ren renB Zdj Zlj Zbf Zbe FT.indep Zcg Zcf Zdb subL in1 Zk6 Zbk Zee room sl_slV Z40 Zzw Z3m Z0a Zta Zwp Zsv Z3w Z4y Z1l Z0b wr_eq Z4p Z4r Z05 Zvb Z1m Zv4 Zxh Zv2 bk_ptr bk_sl bk_map bk_imm Z3j bk_nil bk_int bk_str bk_imV xOf upX ap_slV Z3b ix_slV sr_slV sr_sl0 sr_nil Zk8 Z3x Z4b Z0c Zz7
@[simp] theorem ce_int (k : IntKind) (n : Int): AVal.cells (.int k n) = some [(.int k n)] := rfl
@[simp] theorem on_int (k : IntKind) (n : Int): AVal.one (.int k n) = true := rfl
@[simp] theorem ce_bool (b : Bool): AVal.cells (.bool b) = some [(.bool b)] := rfl
@[simp] theorem on_bool (b : Bool): AVal.one (.bool b) = true := rfl
@[simp] theorem ce_ptr (a b c : Nat): AVal.cells (.ptr a b c) = some [(.ptr a b c)] := rfl
@[simp] theorem on_ptr (a b c : Nat): AVal.one (.ptr a b c) = true := rfl
@[simp] theorem ce_iptr (l : List (List AVal)) (a b : Nat): AVal.cells (.iptr l a b) = some [(.iptr l a b)] := rfl
@[simp] theorem on_iptr (l : List (List AVal)) (a b : Nat): AVal.one (.iptr l a b) = true := rfl
@[simp] theorem ce_sl (a b c : Nat): AVal.cells (.sl a b c) = some [(.sl a b c)] := rfl
@[simp] theorem on_sl (a b c : Nat): AVal.one (.sl a b c) = true := rfl
@[simp] theorem ce_imm (l : List (List AVal)): AVal.cells (.imm l) = some [(.imm l)] := rfl
@[simp] theorem on_imm (l : List (List AVal)): AVal.one (.imm l) = true := rfl
@[simp] theorem ce_map (b : Nat): AVal.cells (.map b) = some [(.map b)] := rfl
@[simp] theorem on_map (b : Nat): AVal.one (.map b) = true := rfl
@[simp] theorem ce_func (f : Fn) (a b : List AVal): AVal.cells (.func f a b) = some [(.func f a b)] := rfl
@[simp] theorem on_func (f : Fn) (a b : List AVal): AVal.one (.func f a b) = true := rfl
@[simp] theorem ce_str (l : List UInt8): AVal.cells (.str l) = some [(.str l)] := rfl
@[simp] theorem on_str (l : List UInt8): AVal.one (.str l) = true := rfl
@[simp] theorem ce_nilSl : AVal.cells .nilSl = some [.nilSl] := rfl
@[simp] theorem on_nilSl : AVal.one .nilSl = true := rfl
@[simp] theorem ce_nilPtr : AVal.cells .nilPtr = some [.nilPtr] := rfl
@[simp] theorem on_nilPtr : AVal.one .nilPtr = true := rfl
@[simp] theorem ce_nilMap : AVal.cells .nilMap = some [.nilMap] := rfl
@[simp] theorem on_nilMap : AVal.one .nilMap = true := rfl
@[simp] theorem ce_nilFunc : AVal.cells .nilFunc = some [.nilFunc] := rfl
@[simp] theorem on_nilFunc : AVal.one .nilFunc = true := rfl
@[simp] theorem ce_agg (l : List AVal) : AVal.cells (.agg l) = some l := rfl
def Zfn (l:List (List Nat)):List (List AVal):=l.map fun w=>[.imm (nums w)]
theorem Zh0 (l:List (List Nat)):(Zfn l).length=l.length:=by simp [Zfn]
theorem Zl4 (l:List (List Nat)) (w:List Nat):Zfn (l++[w])=Zfn l++[[.imm (nums w)]]:=by simp [Zfn]
theorem Zf4:∀ (l:List (List Nat)),Zap (Zfn l)=true
 | []=>rfl
 | w :: r=>by
  have:=Zf4 r
  simp only [Zfn,List.map_cons,Zap,Zae,AVal.closed,Zbc,Bool.and_true,Bool.true_and] at this ⊢
  exact this
theorem Zhx (q:Nat→Nat) (l:List (List Nat)):Zam q (Zfn l)=Zfn l:=Zaa q _ (Zf4 l)
theorem Zw5 {get:Nat→Option ABlk} {S:List Nat} {A:List (List AVal)} (hA:Zap A=true) (r:List AVal):fzLL get S (A++[r])=A++[r.map (fzV get S)]:=by
 rw [Zt2,Zj0 hA]; rfl
@[simp] theorem ren_append (q : Nat → Nat) (a b : List (List AVal)) : Zam q (a ++ b) = Zam q a ++ Zam q b := by simp [Zco]
theorem Z29 {get:Nat→Option ABlk} {S:List Nat} {b:Nat} {l:List Nat} (hb:memN b S=true) (hg:get b=if nums l=[] then none else some (.cells 1 (nums l))):fzV get S (slV b (nums l))=imV (nums l):=
 fz_slV hb hg fun row hr x hx=>by
  obtain⟨i,_,rfl⟩:=List.mem_map.1 hr
  rw [List.mem_singleton] at hx
  subst hx
  rfl
theorem Zeb {get:Nat→Option ABlk} {b k n:Nat} {rows:List (List AVal)} (h:get b=some (.cells k rows)) (hs:∀ row,row∈rows → ∀ x,x∈row→Zaj get n x=some x):Zaj get (n+1) (.sl b 0 rows.length)=some (.imm rows):=by
 have h1:Nat.ble (0+rows.length) rows.length=true:=by rw [Nat.zero_add]; exact Nat.ble_self_eq_true _
 rw [Zaj]
 simp only [h,h1,cond_true,List.drop_zero,List.take_length,Zfi hs]
theorem Zff {get:Nat→Option ABlk} {n:Nat} {rows:List (List AVal)} (hs:∀ row,row∈rows → ∀ x,x∈row→Zaj get n x=some x):Zaj get (n+1) (.imm rows)=some (.imm rows):=by
 rw [Zaj]
 simp only [Zfi hs]
theorem Zlc {get:Nat→Option ABlk} {n:Nat} (l:List Nat):∀ row,row∈nums l → ∀ x,x∈row→Zaj get (n+1) x=some x:=by
 intro row hr x hx
 obtain⟨i,_,rfl⟩:=List.mem_map.1 hr
 rw [List.mem_singleton] at hx
 subst hx
 rfl
theorem Zvy {get:Nat→Option ABlk} {n:Nat} (l:List (List Nat)):∀ row,row∈Zfn l → ∀ x,x∈row→Zaj get (n+2) x=some x:=by
 intro row hr x hx
 obtain⟨w,_,rfl⟩:=List.mem_map.1 hr
 rw [List.mem_singleton] at hx
 subst hx
 exact Zff (Zlc w)
end Go.Known
