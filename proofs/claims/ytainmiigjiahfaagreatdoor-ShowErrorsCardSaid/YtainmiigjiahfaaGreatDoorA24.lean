/-
  Part 24 of the proof: Kt.
-/
import Derived.Test.YtainmiigjiahfaaGreatDoorA21
import Derived.Test.YtainmiigjiahfaaGreatDoorA22
import Derived.Test.YtainmiigjiahfaaGreatDoorA23
set_option linter.all false
set_option linter.unusedSimpArgs false
set_option linter.unusedVariables false

/- Kt: The table of the program's functions, and the oracles of the library's functions that the runner does not run. -/
section
namespace Go.Known
open Go Go.AE Go.Proofs

def tabL : List (Nat × AFn) := [(5, af5), (6, af6), (9, af9), (10, af10), (12, af12), (18, af18), (19, af19), (20, af20), (21, af21), (22, af22), (23, af23), (24, af24), (25, af25), (26, af26), (27, af27), (30, af30), (31, af31), (32, af32), (33, af33), (34, af34), (41, af41), (42, af42), (43, af43), (45, af45), (46, af46), (47, af47), (48, af48), (49, af49), (50, af50), (51, af51), (52, af52), (53, af53), (54, af54), (55, af55), (56, af56), (57, af57), (58, af58), (59, af59), (62, af62), (63, af63), (64, af64), (65, af65), (68, af68), (71, af71), (72, af72), (76, af76), (77, af77), (78, af78), (79, af79), (80, af80), (81, af81), (82, af82), (83, af83), (84, af84), (85, af85), (86, af86), (87, af87), (88, af88), (89, af89), (90, af90), (93, af93), (94, af94), (95, af95), (96, af96), (97, af97), (98, af98), (99, af99), (100, af100), (101, af101), (102, af102), (103, af103), (104, af104), (105, af105), (109, af109), (110, af110), (111, af111), (114, af114), (115, af115), (116, af116), (117, af117), (118, af118), (119, af119), (120, af120), (121, af121), (124, af124), (125, af125), (126, af126), (131, af131), (132, af132), (133, af133), (134, af134), (135, af135), (136, af136), (137, af137), (139, af139), (140, af140), (141, af141), (142, af142), (147, af147), (150, af150), (151, af151), (153, af153), (154, af154), (155, af155), (164, af164), (166, af166), (167, af167), (168, af168), (169, af169), (170, af170), (176, af176), (183, af183), (186, af186), (188, af188)]
theorem tabL_ok : AllT Tryz.prog tabL := ⟨gd5, gd6, gd9, gd10, gd12, gd18, gd19, gd20, gd21, gd22, gd23, gd24, gd25, gd26, gd27, gd30, gd31, gd32, gd33, gd34, gd41, gd42, gd43, gd45, gd46, gd47, gd48, gd49, gd50, gd51, gd52, gd53, gd54, gd55, gd56, gd57, gd58, gd59, gd62, gd63, gd64, gd65, gd68, gd71, gd72, gd76, gd77, gd78, gd79, gd80, gd81, gd82, gd83, gd84, gd85, gd86, gd87, gd88, gd89, gd90, gd93, gd94, gd95, gd96, gd97, gd98, gd99, gd100, gd101, gd102, gd103, gd104, gd105, gd109, gd110, gd111, gd114, gd115, gd116, gd117, gd118, gd119, gd120, gd121, gd124, gd125, gd126, gd131, gd132, gd133, gd134, gd135, gd136, gd137, gd139, gd140, gd141, gd142, gd147, gd150, gd151, gd153, gd154, gd155, gd164, gd166, gd167, gd168, gd169, gd170, gd176, gd183, gd186, gd188, trivial⟩
def tabT : Tr AFn := (.node (.node (.node (.node (.node (.node (.node .nil (some af63) .nil) (some af31) (.node .nil (some af95) .nil)) none (.node (.node .nil (some af79) .nil) (some af47) (.node .nil (some af111) .nil))) none (.node (.node (.node (.node .nil (some af135) .nil) (some af71) .nil) none (.node (.node .nil (some af167) .nil) (some af103) .nil)) (some af23) (.node (.node (.node .nil (some af151) .nil) (some af87) .nil) (some af55) (.node (.node .nil (some af183) .nil) (some af119) .nil)))) none (.node (.node (.node (.node (.node .nil (some af131) .nil) none .nil) none (.node .nil (some af99) .nil)) (some af19) (.node (.node (.node .nil (some af147) .nil) (some af83) .nil) (some af51) (.node .nil (some af115) .nil))) none (.node (.node (.node (.node .nil (some af139) .nil) none .nil) (some af43) .nil) (some af27) (.node (.node (.node .nil (some af155) .nil) none .nil) (some af59) .nil)))) none (.node (.node (.node (.node (.node .nil (some af65) .nil) (some af33) (.node .nil (some af97) .nil)) none (.node (.node .nil (some af81) .nil) (some af49) .nil)) (some af9) (.node (.node (.node (.node .nil (some af137) .nil) none .nil) (some af41) (.node (.node .nil (some af169) .nil) (some af105) .nil)) (some af25) (.node (.node (.node .nil (some af153) .nil) (some af89) .nil) (some af57) (.node .nil (some af121) .nil)))) (some af5) (.node (.node (.node (.node (.node .nil (some af133) .nil) none .nil) none (.node .nil (some af101) .nil)) (some af21) (.node (.node .nil (some af85) .nil) (some af53) (.node .nil (some af117) .nil))) none (.node (.node (.node (.node .nil (some af141) .nil) (some af77) .nil) (some af45) (.node .nil (some af109) .nil)) none (.node (.node .nil (some af93) .nil) none (.node .nil (some af125) .nil)))))) none (.node (.node (.node (.node (.node (.node .nil (some af64) .nil) (some af32) (.node .nil (some af96) .nil)) none (.node (.node .nil (some af80) .nil) (some af48) (.node (.node .nil (some af176) .nil) none .nil))) none (.node (.node (.node (.node .nil (some af136) .nil) (some af72) .nil) none (.node (.node .nil (some af168) .nil) (some af104) .nil)) (some af24) (.node (.node .nil (some af88) .nil) (some af56) (.node .nil (some af120) .nil)))) none (.node (.node (.node (.node (.node .nil (some af132) .nil) (some af68) .nil) none (.node (.node .nil (some af164) .nil) (some af100) .nil)) (some af20) (.node (.node .nil (some af84) .nil) (some af52) (.node .nil (some af116) .nil))) (some af12) (.node (.node (.node (.node .nil (some af140) .nil) (some af76) .nil) none .nil) none (.node .nil none (.node (.node .nil (some af188) .nil) (some af124) .nil))))) none (.node (.node (.node (.node .nil (some af34) (.node .nil (some af98) .nil)) (some af18) (.node (.node .nil (some af82) .nil) (some af50) (.node .nil (some af114) .nil))) (some af10) (.node (.node .nil (some af42) (.node (.node .nil (some af170) .nil) none .nil)) (some af26) (.node (.node (.node .nil (some af154) .nil) (some af90) .nil) (some af58) (.node (.node .nil (some af186) .nil) none .nil)))) (some af6) (.node (.node (.node (.node (.node .nil (some af134) .nil) none .nil) none (.node (.node .nil (some af166) .nil) (some af102) .nil)) (some af22) (.node (.node (.node .nil (some af150) .nil) (some af86) .nil) (some af54) (.node .nil (some af118) .nil))) none (.node (.node (.node (.node .nil (some af142) .nil) (some af78) .nil) (some af46) (.node .nil (some af110) .nil)) (some af30) (.node (.node .nil (some af94) .nil) (some af62) (.node .nil (some af126) .nil)))))))
theorem tabT_eq : tabT = treeOf tabL := by kernel_rfl
theorem tab_ok : TabOk Tryz.prog (tabOf tabT) := tabOf_ok tabL_ok tabT_eq
def ap28 : AParts := ⟨19, [(2, none)], [(.region false [⟨(some 1), .box (.tmp 0), none, []⟩, ⟨(some 2), .mov (.const .nilSl), none, []⟩]), (.region false [⟨(some 3), .alloc [.nilSl], none, []⟩]), (.seq (.region false [⟨(some 5), .fieldA 1 (.tmp 1), none, []⟩, ⟨(some 6), .load none (.tmp 5), none, []⟩, ⟨(some 7), .lenSl (.tmp 6), none, []⟩, ⟨(some 8), .bin .eql .num (.tmp 7) (.const (.int .i64 0)), none, []⟩])
 (.cond (.tmp 8) (.seq (.region false [⟨(some 9), .load none (.tmp 3), none, []⟩, ⟨(some 2), .mov (.tmp 9), none, []⟩])
 .ret)
 .skip))], (.region false [⟨(some 10), .load (some 2) (.tmp 1), none, []⟩, ⟨(some 11), .call (.fn 57) [(.tmp 10)], none, []⟩, ⟨(some 12), .call (.fn 58) [(.tmp 11)], none, []⟩]), (.tmp 12), [13], (.region false [⟨(some 4), .alloc [(.int .i64 0), (.int .i64 0), (.int .i64 0), (.bool false)], none, []⟩, ⟨none, .store 4 (.tmp 4) (.tmp 13), none, []⟩]), (.block 1 (.region false [⟨(some 14), .load none (.tmp 3), none, []⟩, ⟨(some 15), .load (some 4) (.tmp 4), none, []⟩, ⟨(some 16), .mkSl 4 1 [(.int .i64 0), (.int .i64 0), (.int .i64 0), (.bool false)] [(0, (.tmp 15))], none, []⟩, ⟨(some 17), .append 4 32 [(.int .i64 0), (.int .i64 0), (.int .i64 0), (.bool false)] (.tmp 14) (.tmp 16), none, []⟩, ⟨none, .store 1 (.tmp 3) (.tmp 17), none, []⟩])), (.seq (.region false [⟨(some 18), .load none (.tmp 3), none, []⟩, ⟨(some 2), .mov (.tmp 18), none, []⟩])
 .ret)⟩
theorem cr28 : cRange Tryz.prog Tryz.f28 = some ap28 := by kernel_rfl

theorem hm : Tryz.prog.follows .mixedOrders = true := by kernel_rfl

abbrev tab := tabOf tabT

theorem join_spec : JoinSpec Tryz.prog 44 :=
  ⟨⟨_, Tryz.func44, by kernel_rfl, by kernel_rfl⟩, fun bk o c xs sep w h1 h2 h3 h4 h5 => Tryz.strings_Join bk o c xs sep w h1 h2 h3 h4 h5⟩

theorem ov_int : OvSpec Tryz.prog 128 := ⟨_, 28, 4, 3, 1, Tryz.func128, by kernel_rfl, by kernel_rfl, by kernel_rfl, by kernel_rfl, by kernel_rfl, Tryz.sizeOf3⟩
theorem ov_finger : OvSpec Tryz.prog 122 := ⟨_, 55, 4, 72, 3, Tryz.func122, by kernel_rfl, by kernel_rfl, by kernel_rfl, by kernel_rfl, by kernel_rfl, Tryz.sizeOf72⟩

def splits : List (Nat × Nat) := [(102, 128), (87, 122)]
theorem splits_ok : ∀ g G, findG g splits = some G → OvSpec Tryz.prog G := by
  intro g G h
  unfold splits findG at h
  cases h1 : Nat.beq 102 g with
  | true => rw [h1] at h; injection h with h; subst h; exact ov_int
  | false =>
    rw [h1] at h
    simp only [cond_false] at h
    unfold findG at h
    cases h2 : Nat.beq 87 g with
    | true => rw [h2] at h; injection h with h; subst h; exact ov_finger
    | false => rw [h2] at h; simp [findG] at h

def call1 : Caller := runF tab (joinC 44) 1000
theorem call1_ok : CallerOk Tryz.prog call1 := runF_ok hm tab_ok (joinC_ok join_spec) 1000
def orc2 : Caller := orElse (spliceC tab call1 splits) (joinC 44)
theorem orc2_ok : CallerOk Tryz.prog orc2 := orElse_ok (spliceC_ok hm tab_ok call1_ok splits_ok) (joinC_ok join_spec)
def call2 : Caller := runF tab orc2 1000
theorem call2_ok : CallerOk Tryz.prog call2 := runF_ok hm tab_ok orc2_ok 1000
def orc3 : Caller := orElse (rangeC tab call2 28 ap28) orc2
theorem orc3_ok : CallerOk Tryz.prog orc3 := orElse_ok (rangeC_ok hm tab_ok call2_ok Tryz.func28 cr28 (by kernel_rfl)) orc2_ok

/-- The oracle with a table of known calls. -/
def orcM (l : List Memo) : Caller := orElse (frzC l) orc3
theorem orcM_ok {l : List Memo} (h : Memo.All Tryz.prog l) : CallerOk Tryz.prog (orcM l) := orElse_ok (frzC_ok h) orc3_ok

/-- A known call, by a run over other known ones. -/
theorem known_of {l : List Memo} (hl : Memo.All Tryz.prog l) (e : Memo)
    (h : (match runM tab (orcM l) e.g e.args with | some r => beqA r e.v && (closedL e.args && e.v.closed) | none => false) = true) : e.Ok Tryz.prog :=
  memo_of hm tab_ok (orcM_ok hl) e h

end Go.Known
end


