/-
  NARROWER THAN 'FOR EVERY INPUT', by the rows' own cells (each row's printed sentence says how): ShowDraws: laid · ShowImages: laid · ShowLeaves: laid · ShowTurns: laid · ShowEnters: laid · ShowVisits: laid · ShowPolygons: laid · ShowCorners: laid · ShowErrors: laid.
  DERIVED. THE GIVEN ROWS OF THIS SEAT. 9 by the template 'for every input the law returns true; each argument reads behind the call as it read before'; 0 by the template 'total and deterministic' (their statements: YtipeejpafgnjdaaGreatDoorTotals.lean).
  GIVEN WITH THE SEED: the statements are not yours to turn. If you find one false, say at which input.
  Laid BY PROGRAM, IN A SANDBOX (cutbox-rows.mjs): the forced cells as the released guide's own fill.sh prints them over the translation 55b31e88ee88adaa… (all of the seat's roots in one cut). By AI agents, Wed Nov 11 2026. No macro, syntax, notation, axiom, sorry.
-/
import Derived.Test.YtipeejpafgnjdaaGreatDoorChecked
import GoSem.Claim
import GoSem.ClaimJoined
import GoSem.ClaimMapViews
import Derived.JoinedTies
import Derived.KernelRfl
namespace Go.Proofs.YtipeejpafgnjdaaGreatDoor
/- THE CELL 'sum', in the pinned program and in every row, IS THE sha256 OF THE DUMP (.gsa) THAT YtipeejpafgnjdaaGreatDoorProg.lean LOADS. Nothing in Lean hashes anything: it is a label: what it is worth is what the hold of that sum in a sandbox is worth. -/
noncomputable def Tryz.pinned : Pinned := { name := "ytipeejpafgnjdaagreatdoor", sum := "55b31e88ee88adaafa808ddd64ca48c4a72734af96f289370d1c84c3649d2b7a", checked := Tryz.checked }
namespace Rows
def none {H : Type} : Left H := { results := [], args := [] }

/- WHAT THE LISTED PACKAGE-LEVEL VARIABLES READ AS WHEN THE CALL BEGINS. Each datum BY PROGRAM (the guide's laid-datum.mjs) off the statement by which the dump's own 'gosem.cut.vars' lays the variable. In a bare row this is a premise. The card (YtipeejpafgnjdaaGreatDoorCards.lean) ties it to the program's text. -/
def laid_math_bits_deBruijn32tab {H : Type} : DataW H := .agg [.lit (.int .u8 0), .lit (.int .u8 1), .lit (.int .u8 28), .lit (.int .u8 2), .lit (.int .u8 29), .lit (.int .u8 14), .lit (.int .u8 24), .lit (.int .u8 3), .lit (.int .u8 30), .lit (.int .u8 22), .lit (.int .u8 20), .lit (.int .u8 15), .lit (.int .u8 25), .lit (.int .u8 17), .lit (.int .u8 4), .lit (.int .u8 8), .lit (.int .u8 31), .lit (.int .u8 27), .lit (.int .u8 13), .lit (.int .u8 23), .lit (.int .u8 21), .lit (.int .u8 19), .lit (.int .u8 16), .lit (.int .u8 7), .lit (.int .u8 26), .lit (.int .u8 12), .lit (.int .u8 18), .lit (.int .u8 6), .lit (.int .u8 11), .lit (.int .u8 5), .lit (.int .u8 10), .lit (.int .u8 9)]
def laid_math_bits_deBruijn64tab {H : Type} : DataW H := .agg [.lit (.int .u8 0), .lit (.int .u8 1), .lit (.int .u8 56), .lit (.int .u8 2), .lit (.int .u8 57), .lit (.int .u8 49), .lit (.int .u8 28), .lit (.int .u8 3), .lit (.int .u8 61), .lit (.int .u8 58), .lit (.int .u8 42), .lit (.int .u8 50), .lit (.int .u8 38), .lit (.int .u8 29), .lit (.int .u8 17), .lit (.int .u8 4), .lit (.int .u8 62), .lit (.int .u8 47), .lit (.int .u8 59), .lit (.int .u8 36), .lit (.int .u8 45), .lit (.int .u8 43), .lit (.int .u8 51), .lit (.int .u8 22), .lit (.int .u8 53), .lit (.int .u8 39), .lit (.int .u8 33), .lit (.int .u8 30), .lit (.int .u8 24), .lit (.int .u8 18), .lit (.int .u8 12), .lit (.int .u8 5), .lit (.int .u8 63), .lit (.int .u8 55), .lit (.int .u8 48), .lit (.int .u8 27), .lit (.int .u8 60), .lit (.int .u8 41), .lit (.int .u8 37), .lit (.int .u8 16), .lit (.int .u8 46), .lit (.int .u8 35), .lit (.int .u8 44), .lit (.int .u8 21), .lit (.int .u8 52), .lit (.int .u8 32), .lit (.int .u8 23), .lit (.int .u8 11), .lit (.int .u8 54), .lit (.int .u8 26), .lit (.int .u8 40), .lit (.int .u8 15), .lit (.int .u8 34), .lit (.int .u8 20), .lit (.int .u8 31), .lit (.int .u8 10), .lit (.int .u8 25), .lit (.int .u8 14), .lit (.int .u8 19), .lit (.int .u8 9), .lit (.int .u8 13), .lit (.int .u8 8), .lit (.int .u8 7), .lit (.int .u8 6)]
def laid_internal_strconv_uint64pow10 {H : Type} : DataW H := .agg [.lit (.int .u64 1), .lit (.int .u64 10), .lit (.int .u64 100), .lit (.int .u64 1000), .lit (.int .u64 10000), .lit (.int .u64 100000), .lit (.int .u64 1000000), .lit (.int .u64 10000000), .lit (.int .u64 100000000), .lit (.int .u64 1000000000), .lit (.int .u64 10000000000), .lit (.int .u64 100000000000), .lit (.int .u64 1000000000000), .lit (.int .u64 10000000000000), .lit (.int .u64 100000000000000), .lit (.int .u64 1000000000000000), .lit (.int .u64 10000000000000000), .lit (.int .u64 100000000000000000), .lit (.int .u64 1000000000000000000), .lit (.int .u64 10000000000000000000)]

/-- 'catscradlelaw09.ShowDraws': WHATEVER THE INPUT: true; the input reads as it did. -/
def showDrawsSpec : ChangeSpec := { name := "showDraws", fn := fun _ => fun
  | [d] => { results := [.lit (.bool true)], args := [d] }
  | _ => none }
def showDrawsRow : OpenClaim := { program := "ytipeejpafgnjdaagreatdoor", sum := "55b31e88ee88adaafa808ddd64ca48c4a72734af96f289370d1c84c3649d2b7a", func := "catscradle/catscradlelaw09.ShowDraws", spec := "showDraws", inPlace := ["slices.overlaps[int]", "internal/abi.NoEscape", "internal/bytealg.MakeNoZero", "slices.overlaps[catscradle/api.Finger]"], unfollowed := true, recurses := true, named := ["internal/strconv.uint64pow10", "math/bits.deBruijn32tab", "math/bits.deBruijn64tab"], apart := false, laid := [("math/bits.deBruijn32tab", laid_math_bits_deBruijn32tab), ("math/bits.deBruijn64tab", laid_math_bits_deBruijn64tab), ("internal/strconv.uint64pow10", laid_internal_strconv_uint64pow10)] }
def ShowDrawsSaid : Prop := showDrawsRow.holds Tryz.pinned (OpenSpec.ofChange showDrawsSpec)

/-- ITS FALSE NEIGHBOUR: 'it returns false'. Refute it at one input. -/
def showDrawsWrong : ChangeSpec := { name := "showDraws", fn := fun _ => fun
  | [d] => { results := [.lit (.bool false)], args := [d] }
  | _ => none }
def ShowDrawsWrongFalsely : Prop := showDrawsRow.holds Tryz.pinned (OpenSpec.ofChange showDrawsWrong)

/-- 'catscradlelaw09.ShowImages': WHATEVER THE INPUT: true; the input reads as it did. -/
def showImagesSpec : ChangeSpec := { name := "showImages", fn := fun _ => fun
  | [d1, d2] => { results := [.lit (.bool true)], args := [d1, d2] }
  | _ => none }
def showImagesRow : OpenClaim := { program := "ytipeejpafgnjdaagreatdoor", sum := "55b31e88ee88adaafa808ddd64ca48c4a72734af96f289370d1c84c3649d2b7a", func := "catscradle/catscradlelaw09.ShowImages", spec := "showImages", inPlace := ["slices.overlaps[int]", "internal/abi.NoEscape", "internal/bytealg.MakeNoZero", "slices.overlaps[catscradle/api.Finger]"], unfollowed := true, recurses := true, named := ["internal/strconv.uint64pow10", "math/bits.deBruijn32tab", "math/bits.deBruijn64tab"], apart := false, laid := [("math/bits.deBruijn32tab", laid_math_bits_deBruijn32tab), ("math/bits.deBruijn64tab", laid_math_bits_deBruijn64tab), ("internal/strconv.uint64pow10", laid_internal_strconv_uint64pow10)] }
def ShowImagesSaid : Prop := showImagesRow.holds Tryz.pinned (OpenSpec.ofChange showImagesSpec)

/-- ITS FALSE NEIGHBOUR: 'it returns false'. Refute it at one input. -/
def showImagesWrong : ChangeSpec := { name := "showImages", fn := fun _ => fun
  | [d1, d2] => { results := [.lit (.bool false)], args := [d1, d2] }
  | _ => none }
def ShowImagesWrongFalsely : Prop := showImagesRow.holds Tryz.pinned (OpenSpec.ofChange showImagesWrong)

/-- 'catscradlelaw09.ShowLeaves': WHATEVER THE INPUT: true; the input reads as it did. -/
def showLeavesSpec : ChangeSpec := { name := "showLeaves", fn := fun _ => fun
  | [d1, d2, d3] => { results := [.lit (.bool true)], args := [d1, d2, d3] }
  | _ => none }
def showLeavesRow : OpenClaim := { program := "ytipeejpafgnjdaagreatdoor", sum := "55b31e88ee88adaafa808ddd64ca48c4a72734af96f289370d1c84c3649d2b7a", func := "catscradle/catscradlelaw09.ShowLeaves", spec := "showLeaves", inPlace := ["slices.overlaps[int]", "internal/abi.NoEscape", "internal/bytealg.MakeNoZero", "slices.overlaps[catscradle/api.Finger]"], unfollowed := true, recurses := true, named := ["internal/strconv.uint64pow10", "math/bits.deBruijn32tab", "math/bits.deBruijn64tab"], apart := false, laid := [("math/bits.deBruijn32tab", laid_math_bits_deBruijn32tab), ("math/bits.deBruijn64tab", laid_math_bits_deBruijn64tab), ("internal/strconv.uint64pow10", laid_internal_strconv_uint64pow10)] }
def ShowLeavesSaid : Prop := showLeavesRow.holds Tryz.pinned (OpenSpec.ofChange showLeavesSpec)

/-- ITS FALSE NEIGHBOUR: 'it returns false'. Refute it at one input. -/
def showLeavesWrong : ChangeSpec := { name := "showLeaves", fn := fun _ => fun
  | [d1, d2, d3] => { results := [.lit (.bool false)], args := [d1, d2, d3] }
  | _ => none }
def ShowLeavesWrongFalsely : Prop := showLeavesRow.holds Tryz.pinned (OpenSpec.ofChange showLeavesWrong)

/-- 'catscradlelaw09.ShowTurns': WHATEVER THE INPUT: true; the input reads as it did. -/
def showTurnsSpec : ChangeSpec := { name := "showTurns", fn := fun _ => fun
  | [d] => { results := [.lit (.bool true)], args := [d] }
  | _ => none }
def showTurnsRow : OpenClaim := { program := "ytipeejpafgnjdaagreatdoor", sum := "55b31e88ee88adaafa808ddd64ca48c4a72734af96f289370d1c84c3649d2b7a", func := "catscradle/catscradlelaw09.ShowTurns", spec := "showTurns", inPlace := ["slices.overlaps[int]", "internal/abi.NoEscape", "internal/bytealg.MakeNoZero", "slices.overlaps[catscradle/api.Finger]"], unfollowed := true, recurses := true, named := ["internal/strconv.uint64pow10", "math/bits.deBruijn32tab", "math/bits.deBruijn64tab"], apart := false, laid := [("math/bits.deBruijn32tab", laid_math_bits_deBruijn32tab), ("math/bits.deBruijn64tab", laid_math_bits_deBruijn64tab), ("internal/strconv.uint64pow10", laid_internal_strconv_uint64pow10)] }
def ShowTurnsSaid : Prop := showTurnsRow.holds Tryz.pinned (OpenSpec.ofChange showTurnsSpec)

/-- ITS FALSE NEIGHBOUR: 'it returns false'. Refute it at one input. -/
def showTurnsWrong : ChangeSpec := { name := "showTurns", fn := fun _ => fun
  | [d] => { results := [.lit (.bool false)], args := [d] }
  | _ => none }
def ShowTurnsWrongFalsely : Prop := showTurnsRow.holds Tryz.pinned (OpenSpec.ofChange showTurnsWrong)

/-- 'catscradlelaw09.ShowEnters': WHATEVER THE INPUT: true; the input reads as it did. -/
def showEntersSpec : ChangeSpec := { name := "showEnters", fn := fun _ => fun
  | [d1, d2, d3, d4] => { results := [.lit (.bool true)], args := [d1, d2, d3, d4] }
  | _ => none }
def showEntersRow : OpenClaim := { program := "ytipeejpafgnjdaagreatdoor", sum := "55b31e88ee88adaafa808ddd64ca48c4a72734af96f289370d1c84c3649d2b7a", func := "catscradle/catscradlelaw09.ShowEnters", spec := "showEnters", inPlace := ["slices.overlaps[int]", "internal/abi.NoEscape", "internal/bytealg.MakeNoZero", "slices.overlaps[catscradle/api.Finger]"], unfollowed := true, recurses := true, named := ["internal/strconv.uint64pow10", "math/bits.deBruijn32tab", "math/bits.deBruijn64tab"], apart := false, laid := [("math/bits.deBruijn32tab", laid_math_bits_deBruijn32tab), ("math/bits.deBruijn64tab", laid_math_bits_deBruijn64tab), ("internal/strconv.uint64pow10", laid_internal_strconv_uint64pow10)] }
def ShowEntersSaid : Prop := showEntersRow.holds Tryz.pinned (OpenSpec.ofChange showEntersSpec)

/-- ITS FALSE NEIGHBOUR: 'it returns false'. Refute it at one input. -/
def showEntersWrong : ChangeSpec := { name := "showEnters", fn := fun _ => fun
  | [d1, d2, d3, d4] => { results := [.lit (.bool false)], args := [d1, d2, d3, d4] }
  | _ => none }
def ShowEntersWrongFalsely : Prop := showEntersRow.holds Tryz.pinned (OpenSpec.ofChange showEntersWrong)

/-- 'catscradlelaw09.ShowVisits': WHATEVER THE INPUT: true; the input reads as it did. -/
def showVisitsSpec : ChangeSpec := { name := "showVisits", fn := fun _ => fun
  | [d1, d2, d3, d4] => { results := [.lit (.bool true)], args := [d1, d2, d3, d4] }
  | _ => none }
def showVisitsRow : OpenClaim := { program := "ytipeejpafgnjdaagreatdoor", sum := "55b31e88ee88adaafa808ddd64ca48c4a72734af96f289370d1c84c3649d2b7a", func := "catscradle/catscradlelaw09.ShowVisits", spec := "showVisits", inPlace := ["slices.overlaps[int]", "internal/abi.NoEscape", "internal/bytealg.MakeNoZero", "slices.overlaps[catscradle/api.Finger]"], unfollowed := true, recurses := true, named := ["internal/strconv.uint64pow10", "math/bits.deBruijn32tab", "math/bits.deBruijn64tab"], apart := false, laid := [("math/bits.deBruijn32tab", laid_math_bits_deBruijn32tab), ("math/bits.deBruijn64tab", laid_math_bits_deBruijn64tab), ("internal/strconv.uint64pow10", laid_internal_strconv_uint64pow10)] }
def ShowVisitsSaid : Prop := showVisitsRow.holds Tryz.pinned (OpenSpec.ofChange showVisitsSpec)

/-- ITS FALSE NEIGHBOUR: 'it returns false'. Refute it at one input. -/
def showVisitsWrong : ChangeSpec := { name := "showVisits", fn := fun _ => fun
  | [d1, d2, d3, d4] => { results := [.lit (.bool false)], args := [d1, d2, d3, d4] }
  | _ => none }
def ShowVisitsWrongFalsely : Prop := showVisitsRow.holds Tryz.pinned (OpenSpec.ofChange showVisitsWrong)

/-- 'catscradlelaw09.ShowPolygons': WHATEVER THE INPUT: true; the input reads as it did. -/
def showPolygonsSpec : ChangeSpec := { name := "showPolygons", fn := fun _ => fun
  | [d] => { results := [.lit (.bool true)], args := [d] }
  | _ => none }
def showPolygonsRow : OpenClaim := { program := "ytipeejpafgnjdaagreatdoor", sum := "55b31e88ee88adaafa808ddd64ca48c4a72734af96f289370d1c84c3649d2b7a", func := "catscradle/catscradlelaw09.ShowPolygons", spec := "showPolygons", inPlace := ["slices.overlaps[int]", "internal/abi.NoEscape", "internal/bytealg.MakeNoZero", "slices.overlaps[catscradle/api.Finger]"], unfollowed := true, recurses := true, named := ["internal/strconv.uint64pow10", "math/bits.deBruijn32tab", "math/bits.deBruijn64tab"], apart := false, laid := [("math/bits.deBruijn32tab", laid_math_bits_deBruijn32tab), ("math/bits.deBruijn64tab", laid_math_bits_deBruijn64tab), ("internal/strconv.uint64pow10", laid_internal_strconv_uint64pow10)] }
def ShowPolygonsSaid : Prop := showPolygonsRow.holds Tryz.pinned (OpenSpec.ofChange showPolygonsSpec)

/-- ITS FALSE NEIGHBOUR: 'it returns false'. Refute it at one input. -/
def showPolygonsWrong : ChangeSpec := { name := "showPolygons", fn := fun _ => fun
  | [d] => { results := [.lit (.bool false)], args := [d] }
  | _ => none }
def ShowPolygonsWrongFalsely : Prop := showPolygonsRow.holds Tryz.pinned (OpenSpec.ofChange showPolygonsWrong)

/-- 'catscradlelaw09.ShowCorners': WHATEVER THE INPUT: true; the input reads as it did. -/
def showCornersSpec : ChangeSpec := { name := "showCorners", fn := fun _ => fun
  | [d1, d2] => { results := [.lit (.bool true)], args := [d1, d2] }
  | _ => none }
def showCornersRow : OpenClaim := { program := "ytipeejpafgnjdaagreatdoor", sum := "55b31e88ee88adaafa808ddd64ca48c4a72734af96f289370d1c84c3649d2b7a", func := "catscradle/catscradlelaw09.ShowCorners", spec := "showCorners", inPlace := ["slices.overlaps[int]", "internal/abi.NoEscape", "internal/bytealg.MakeNoZero", "slices.overlaps[catscradle/api.Finger]"], unfollowed := true, recurses := true, named := ["internal/strconv.uint64pow10", "math/bits.deBruijn32tab", "math/bits.deBruijn64tab"], apart := false, laid := [("math/bits.deBruijn32tab", laid_math_bits_deBruijn32tab), ("math/bits.deBruijn64tab", laid_math_bits_deBruijn64tab), ("internal/strconv.uint64pow10", laid_internal_strconv_uint64pow10)] }
def ShowCornersSaid : Prop := showCornersRow.holds Tryz.pinned (OpenSpec.ofChange showCornersSpec)

/-- ITS FALSE NEIGHBOUR: 'it returns false'. Refute it at one input. -/
def showCornersWrong : ChangeSpec := { name := "showCorners", fn := fun _ => fun
  | [d1, d2] => { results := [.lit (.bool false)], args := [d1, d2] }
  | _ => none }
def ShowCornersWrongFalsely : Prop := showCornersRow.holds Tryz.pinned (OpenSpec.ofChange showCornersWrong)

/-- 'catscradlelaw09.ShowErrors': WHATEVER THE INPUT: true; the input reads as it did. -/
def showErrorsSpec : ChangeSpec := { name := "showErrors", fn := fun _ => fun
  | [d] => { results := [.lit (.bool true)], args := [d] }
  | _ => none }
def showErrorsRow : OpenClaim := { program := "ytipeejpafgnjdaagreatdoor", sum := "55b31e88ee88adaafa808ddd64ca48c4a72734af96f289370d1c84c3649d2b7a", func := "catscradle/catscradlelaw09.ShowErrors", spec := "showErrors", inPlace := ["slices.overlaps[int]", "internal/abi.NoEscape", "internal/bytealg.MakeNoZero", "slices.overlaps[catscradle/api.Finger]"], unfollowed := true, recurses := true, named := ["internal/strconv.uint64pow10", "math/bits.deBruijn32tab", "math/bits.deBruijn64tab"], apart := false, laid := [("math/bits.deBruijn32tab", laid_math_bits_deBruijn32tab), ("math/bits.deBruijn64tab", laid_math_bits_deBruijn64tab), ("internal/strconv.uint64pow10", laid_internal_strconv_uint64pow10)] }
def ShowErrorsSaid : Prop := showErrorsRow.holds Tryz.pinned (OpenSpec.ofChange showErrorsSpec)

/-- ITS FALSE NEIGHBOUR: 'it returns false'. Refute it at one input. -/
def showErrorsWrong : ChangeSpec := { name := "showErrors", fn := fun _ => fun
  | [d] => { results := [.lit (.bool false)], args := [d] }
  | _ => none }
def ShowErrorsWrongFalsely : Prop := showErrorsRow.holds Tryz.pinned (OpenSpec.ofChange showErrorsWrong)

/- THE SECOND FORM. 'bulk': how many values and letters a reading holds, each counted each time it is reached (what is shared counts as often as it is met; a slice's spare places count too). A statement '..UptoSaid' is the law's where the arguments, and the package variables that the reading takes, are together of bulk at most 1048576: NARROWER than '..Said'. Prove '..Said' where nothing that the law and all that it calls make is longer than what came in: it says more and counts as full. Else prove '..UptoSaid'. A law counts once. -/
mutual
def uptoBulk {H : Type} : DataW H → Nat
  | .lit (.string bytes) => bytes.length + 1
  | .lit _ => 1
  | .nil => 1
  | .ptr d => uptoBulk d + 1
  | .slice elems spare => uptoBulkAll elems + uptoBulkAll spare + 1
  | .agg parts => uptoBulkAll parts + 1
  | .iface _ d => uptoBulk d + 1
  | .map entries => uptoBulkEntries entries + 1
  | .held _ => 1
def uptoBulkAll {H : Type} : List (DataW H) → Nat
  | [] => 0
  | d :: r => uptoBulk d + uptoBulkAll r
def uptoBulkEntries {H : Type} : List (Lit × DataW H) → Nat
  | [] => 0
  | x :: r => uptoBulkEntry x + uptoBulkEntries r
def uptoBulkEntry {H : Type} : Lit × DataW H → Nat
  | (.string bytes, d) => bytes.length + uptoBulk d + 1
  | (_, d) => uptoBulk d + 1
 end
def uptoSmall : (H : Type) → List (DataW H) → Bool := fun _ ds => decide (uptoBulkAll ds ≤ 1048576)
def OpenSpec.upto (s : _root_.Go.ChangeSpec) : _root_.Go.OpenSpec := { _root_.Go.OpenSpec.ofChange s with cond := some uptoSmall }

/-- 'catscradlelaw09.ShowDraws', WHERE WHAT IT READS IS OF BULK AT MOST 1048576: true; the input reads as it did. -/
def showDrawsUptoRow : OpenClaim := { program := "ytipeejpafgnjdaagreatdoor", sum := "55b31e88ee88adaafa808ddd64ca48c4a72734af96f289370d1c84c3649d2b7a", func := "catscradle/catscradlelaw09.ShowDraws", spec := "showDraws", inPlace := ["slices.overlaps[int]", "internal/abi.NoEscape", "internal/bytealg.MakeNoZero", "slices.overlaps[catscradle/api.Finger]"], unfollowed := true, recurses := true, named := ["internal/strconv.uint64pow10", "math/bits.deBruijn32tab", "math/bits.deBruijn64tab"], apart := false, laid := [("math/bits.deBruijn32tab", laid_math_bits_deBruijn32tab), ("math/bits.deBruijn64tab", laid_math_bits_deBruijn64tab), ("internal/strconv.uint64pow10", laid_internal_strconv_uint64pow10)], narrowed := true }
def ShowDrawsUptoSaid : Prop := showDrawsUptoRow.holds Tryz.pinned (OpenSpec.upto showDrawsSpec)

/-- 'catscradlelaw09.ShowImages', WHERE WHAT IT READS IS OF BULK AT MOST 1048576: true; the input reads as it did. -/
def showImagesUptoRow : OpenClaim := { program := "ytipeejpafgnjdaagreatdoor", sum := "55b31e88ee88adaafa808ddd64ca48c4a72734af96f289370d1c84c3649d2b7a", func := "catscradle/catscradlelaw09.ShowImages", spec := "showImages", inPlace := ["slices.overlaps[int]", "internal/abi.NoEscape", "internal/bytealg.MakeNoZero", "slices.overlaps[catscradle/api.Finger]"], unfollowed := true, recurses := true, named := ["internal/strconv.uint64pow10", "math/bits.deBruijn32tab", "math/bits.deBruijn64tab"], apart := false, laid := [("math/bits.deBruijn32tab", laid_math_bits_deBruijn32tab), ("math/bits.deBruijn64tab", laid_math_bits_deBruijn64tab), ("internal/strconv.uint64pow10", laid_internal_strconv_uint64pow10)], narrowed := true }
def ShowImagesUptoSaid : Prop := showImagesUptoRow.holds Tryz.pinned (OpenSpec.upto showImagesSpec)

/-- 'catscradlelaw09.ShowLeaves', WHERE WHAT IT READS IS OF BULK AT MOST 1048576: true; the input reads as it did. -/
def showLeavesUptoRow : OpenClaim := { program := "ytipeejpafgnjdaagreatdoor", sum := "55b31e88ee88adaafa808ddd64ca48c4a72734af96f289370d1c84c3649d2b7a", func := "catscradle/catscradlelaw09.ShowLeaves", spec := "showLeaves", inPlace := ["slices.overlaps[int]", "internal/abi.NoEscape", "internal/bytealg.MakeNoZero", "slices.overlaps[catscradle/api.Finger]"], unfollowed := true, recurses := true, named := ["internal/strconv.uint64pow10", "math/bits.deBruijn32tab", "math/bits.deBruijn64tab"], apart := false, laid := [("math/bits.deBruijn32tab", laid_math_bits_deBruijn32tab), ("math/bits.deBruijn64tab", laid_math_bits_deBruijn64tab), ("internal/strconv.uint64pow10", laid_internal_strconv_uint64pow10)], narrowed := true }
def ShowLeavesUptoSaid : Prop := showLeavesUptoRow.holds Tryz.pinned (OpenSpec.upto showLeavesSpec)

/-- 'catscradlelaw09.ShowTurns', WHERE WHAT IT READS IS OF BULK AT MOST 1048576: true; the input reads as it did. -/
def showTurnsUptoRow : OpenClaim := { program := "ytipeejpafgnjdaagreatdoor", sum := "55b31e88ee88adaafa808ddd64ca48c4a72734af96f289370d1c84c3649d2b7a", func := "catscradle/catscradlelaw09.ShowTurns", spec := "showTurns", inPlace := ["slices.overlaps[int]", "internal/abi.NoEscape", "internal/bytealg.MakeNoZero", "slices.overlaps[catscradle/api.Finger]"], unfollowed := true, recurses := true, named := ["internal/strconv.uint64pow10", "math/bits.deBruijn32tab", "math/bits.deBruijn64tab"], apart := false, laid := [("math/bits.deBruijn32tab", laid_math_bits_deBruijn32tab), ("math/bits.deBruijn64tab", laid_math_bits_deBruijn64tab), ("internal/strconv.uint64pow10", laid_internal_strconv_uint64pow10)], narrowed := true }
def ShowTurnsUptoSaid : Prop := showTurnsUptoRow.holds Tryz.pinned (OpenSpec.upto showTurnsSpec)

/-- 'catscradlelaw09.ShowEnters', WHERE WHAT IT READS IS OF BULK AT MOST 1048576: true; the input reads as it did. -/
def showEntersUptoRow : OpenClaim := { program := "ytipeejpafgnjdaagreatdoor", sum := "55b31e88ee88adaafa808ddd64ca48c4a72734af96f289370d1c84c3649d2b7a", func := "catscradle/catscradlelaw09.ShowEnters", spec := "showEnters", inPlace := ["slices.overlaps[int]", "internal/abi.NoEscape", "internal/bytealg.MakeNoZero", "slices.overlaps[catscradle/api.Finger]"], unfollowed := true, recurses := true, named := ["internal/strconv.uint64pow10", "math/bits.deBruijn32tab", "math/bits.deBruijn64tab"], apart := false, laid := [("math/bits.deBruijn32tab", laid_math_bits_deBruijn32tab), ("math/bits.deBruijn64tab", laid_math_bits_deBruijn64tab), ("internal/strconv.uint64pow10", laid_internal_strconv_uint64pow10)], narrowed := true }
def ShowEntersUptoSaid : Prop := showEntersUptoRow.holds Tryz.pinned (OpenSpec.upto showEntersSpec)

/-- 'catscradlelaw09.ShowVisits', WHERE WHAT IT READS IS OF BULK AT MOST 1048576: true; the input reads as it did. -/
def showVisitsUptoRow : OpenClaim := { program := "ytipeejpafgnjdaagreatdoor", sum := "55b31e88ee88adaafa808ddd64ca48c4a72734af96f289370d1c84c3649d2b7a", func := "catscradle/catscradlelaw09.ShowVisits", spec := "showVisits", inPlace := ["slices.overlaps[int]", "internal/abi.NoEscape", "internal/bytealg.MakeNoZero", "slices.overlaps[catscradle/api.Finger]"], unfollowed := true, recurses := true, named := ["internal/strconv.uint64pow10", "math/bits.deBruijn32tab", "math/bits.deBruijn64tab"], apart := false, laid := [("math/bits.deBruijn32tab", laid_math_bits_deBruijn32tab), ("math/bits.deBruijn64tab", laid_math_bits_deBruijn64tab), ("internal/strconv.uint64pow10", laid_internal_strconv_uint64pow10)], narrowed := true }
def ShowVisitsUptoSaid : Prop := showVisitsUptoRow.holds Tryz.pinned (OpenSpec.upto showVisitsSpec)

/-- 'catscradlelaw09.ShowPolygons', WHERE WHAT IT READS IS OF BULK AT MOST 1048576: true; the input reads as it did. -/
def showPolygonsUptoRow : OpenClaim := { program := "ytipeejpafgnjdaagreatdoor", sum := "55b31e88ee88adaafa808ddd64ca48c4a72734af96f289370d1c84c3649d2b7a", func := "catscradle/catscradlelaw09.ShowPolygons", spec := "showPolygons", inPlace := ["slices.overlaps[int]", "internal/abi.NoEscape", "internal/bytealg.MakeNoZero", "slices.overlaps[catscradle/api.Finger]"], unfollowed := true, recurses := true, named := ["internal/strconv.uint64pow10", "math/bits.deBruijn32tab", "math/bits.deBruijn64tab"], apart := false, laid := [("math/bits.deBruijn32tab", laid_math_bits_deBruijn32tab), ("math/bits.deBruijn64tab", laid_math_bits_deBruijn64tab), ("internal/strconv.uint64pow10", laid_internal_strconv_uint64pow10)], narrowed := true }
def ShowPolygonsUptoSaid : Prop := showPolygonsUptoRow.holds Tryz.pinned (OpenSpec.upto showPolygonsSpec)

/-- 'catscradlelaw09.ShowCorners', WHERE WHAT IT READS IS OF BULK AT MOST 1048576: true; the input reads as it did. -/
def showCornersUptoRow : OpenClaim := { program := "ytipeejpafgnjdaagreatdoor", sum := "55b31e88ee88adaafa808ddd64ca48c4a72734af96f289370d1c84c3649d2b7a", func := "catscradle/catscradlelaw09.ShowCorners", spec := "showCorners", inPlace := ["slices.overlaps[int]", "internal/abi.NoEscape", "internal/bytealg.MakeNoZero", "slices.overlaps[catscradle/api.Finger]"], unfollowed := true, recurses := true, named := ["internal/strconv.uint64pow10", "math/bits.deBruijn32tab", "math/bits.deBruijn64tab"], apart := false, laid := [("math/bits.deBruijn32tab", laid_math_bits_deBruijn32tab), ("math/bits.deBruijn64tab", laid_math_bits_deBruijn64tab), ("internal/strconv.uint64pow10", laid_internal_strconv_uint64pow10)], narrowed := true }
def ShowCornersUptoSaid : Prop := showCornersUptoRow.holds Tryz.pinned (OpenSpec.upto showCornersSpec)

/-- 'catscradlelaw09.ShowErrors', WHERE WHAT IT READS IS OF BULK AT MOST 1048576: true; the input reads as it did. -/
def showErrorsUptoRow : OpenClaim := { program := "ytipeejpafgnjdaagreatdoor", sum := "55b31e88ee88adaafa808ddd64ca48c4a72734af96f289370d1c84c3649d2b7a", func := "catscradle/catscradlelaw09.ShowErrors", spec := "showErrors", inPlace := ["slices.overlaps[int]", "internal/abi.NoEscape", "internal/bytealg.MakeNoZero", "slices.overlaps[catscradle/api.Finger]"], unfollowed := true, recurses := true, named := ["internal/strconv.uint64pow10", "math/bits.deBruijn32tab", "math/bits.deBruijn64tab"], apart := false, laid := [("math/bits.deBruijn32tab", laid_math_bits_deBruijn32tab), ("math/bits.deBruijn64tab", laid_math_bits_deBruijn64tab), ("internal/strconv.uint64pow10", laid_internal_strconv_uint64pow10)], narrowed := true }
def ShowErrorsUptoSaid : Prop := showErrorsUptoRow.holds Tryz.pinned (OpenSpec.upto showErrorsSpec)

end Rows
end Go.Proofs.YtipeejpafgnjdaaGreatDoor
