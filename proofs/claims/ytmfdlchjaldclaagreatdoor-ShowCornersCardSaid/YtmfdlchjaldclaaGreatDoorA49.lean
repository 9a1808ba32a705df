/- Part 49 of the proof: Sa. -/
import Derived.Test.YtmfdlchjaldclaaGreatDoorA48
set_option linter.all false
namespace Go.Known
open Go Go.AE Go.Proofs
open Go.Plain
theorem c31p (L:List Lt) (hn:L≠[]) (hl:L.length≤1000):PCall Tryz.prog 46 [.imm (L.map rowL)] (.imm (L.map rowL)):=by
 refine PCall_ctr (k:=2) (by simp [closedL,AVal.closed,closed_rows]) (by simp [AVal.closed,closed_rows]) ((c31s (L.map rowL) (by simpa using hn) (by simpa using hl) (rows6 L) (closed_rows L)).mono fun r sm=>?_)
 rintro⟨rfl,rfl⟩
 exact freeze_rows (k:=6) (by simp) (scal_rows L)
def img1 (a:Bool) (ls:List Lt):List Lt:=if a then swN ls else ls
def img2 (f:Int) (b:Bool) (ls:List Lt):List Lt:=if b then miN f ls else ls
def img3 (c:Bool) (ls:List Lt):List Lt:=if c then tuN ls else ls
section
variable {f:Int} {ls:List Lt}
theorem img1_ok (a:Bool) (h:ValR f ls) (h0:ls≠[]):ValR f (img1 a ls)∧img1 a ls≠[]∧patP (polys (img1 a ls))=patP (polys ls):=by
 cases a with
 | false=>exact ⟨h,h0,rfl⟩
 | true=>exact ⟨(h.swap h0).1,by intro e; apply h0; simpa [img1,swN] using e,(h.swap h0).2⟩
theorem img2_ok (b:Bool) (h:ValR f ls) (h0:ls≠[]):ValR f (img2 f b ls)∧img2 f b ls≠[]∧patP (polys (img2 f b ls))=patP (polys ls):=by
 cases b with
 | false=>exact ⟨h,h0,rfl⟩
 | true=>exact ⟨(h.mirror h0).1,by intro e; apply h0; simpa [img2,miN] using e,(h.mirror h0).2⟩
theorem img3_ok (c:Bool) (h:ValR f ls) (h0:ls≠[]):ValR f (img3 c ls)∧img3 c ls≠[]∧patP (polys (img3 c ls))=patP (polys ls):=by
 cases c with
 | false=>exact ⟨h,h0,rfl⟩
 | true=>
  refine⟨(h.turn h0).1,fun e=>h0 ?_,(h.turn h0).2⟩
  have e':tuN ls=[]:=e
  have:(tuN ls).length=0:=by rw [e']; rfl
  rw [tu_len] at this
  exact List.length_eq_zero_iff.1 this
theorem img_all (a b c:Bool) (h:ValR f ls) (h0:ls≠[]):ValR f (img3 c (img2 f b (img1 a ls)))∧img3 c (img2 f b (img1 a ls))≠[]∧patP (polys (img3 c (img2 f b (img1 a ls))))=patP (polys ls):=by
 obtain⟨a1,a2,a3⟩:=img1_ok a h h0
 obtain⟨b1,b2,b3⟩:=img2_ok b a1 a2
 obtain⟨c1,c2,c3⟩:=img3_ok c b1 b2
 exact⟨c1,c2,c3.trans (b3.trans a3)⟩
end
end Go.Known
