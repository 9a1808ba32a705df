/- Part 18 of the proof: Kt. -/
import Derived.Test.YtmfdlchjaldclaaGreatDoorB16
import Derived.Test.YtmfdlchjaldclaaGreatDoorB17
set_option linter.all false
namespace Go.Known
open Go Go.AE Go.Proofs
def tabL:List (Nat×AFn):=[(10,af5),(11,af6),(15,af9),(16,af10),(18,af12),(31,af18),(32,af19),(33,af20),(34,af21),(35,af22),(36,af23),(37,af24),(21,af25),(38,af26),(39,af27),(45,af30),(46,af31),(47,af32),(48,af33),(49,af34),(66,af41),(67,af42),(68,af43),(70,af45),(71,af46),(72,af47),(73,af48),(53,af49),(74,af50),(55,af51),(54,af52),(75,af53),(76,af54),(77,af55),(78,af56),(79,af57),(80,af58),(89,af59),(90,af62),(91,af63),(92,af64),(93,af65),(87,af68),(112,af71),(113,af72),(117,af76),(118,af77),(119,af78),(120,af79),(121,af80),(122,af81),(94,af82),(95,af83),(96,af84),(123,af85),(124,af86),(125,af87),(101,af88),(97,af89),(98,af90),(126,af93),(127,af94),(128,af95),(129,af96),(130,af97),(131,af98),(132,af99),(133,af100),(134,af101),(135,af102),(141,af103),(142,af104),(153,af105),(143,af109),(158,af110),(159,af111),(50,af114),(88,af115),(162,af116),(163,af117),(144,af118),(145,af119),(146,af120),(147,af121),(148,af124),(166,af125),(167,af126),(173,af131),(174,af132),(175,af133),(176,af134),(177,af135),(186,af136),(187,af137),(178,af139),(179,af140),(180,af141),(189,af142),(194,af147),(181,af150),(182,af151),(183,af153),(184,af154),(198,af155),(207,af164),(209,af166),(210,af167),(211,af168),(212,af169),(213,af170),(214,af176),(226,af183),(227,af186),(231,af188)]
theorem tabL_ok:AllT Tryz.prog tabL:=⟨gd5,gd6,gd9,gd10,gd12,gd18,gd19,gd20,gd21,gd22,gd23,gd24,gd25,gd26,gd27,gd30,gd31,gd32,gd33,gd34,gd41,gd42,gd43,gd45,gd46,gd47,gd48,gd49,gd50,gd51,gd52,gd53,gd54,gd55,gd56,gd57,gd58,gd59,gd62,gd63,gd64,gd65,gd68,gd71,gd72,gd76,gd77,gd78,gd79,gd80,gd81,gd82,gd83,gd84,gd85,gd86,gd87,gd88,gd89,gd90,gd93,gd94,gd95,gd96,gd97,gd98,gd99,gd100,gd101,gd102,gd103,gd104,gd105,gd109,gd110,gd111,gd114,gd115,gd116,gd117,gd118,gd119,gd120,gd121,gd124,gd125,gd126,gd131,gd132,gd133,gd134,gd135,gd136,gd137,gd139,gd140,gd141,gd142,gd147,gd150,gd151,gd153,gd154,gd155,gd164,gd166,gd167,gd168,gd169,gd170,gd176,gd183,gd186,gd188,trivial⟩
def tabT:Tr AFn:=(.node (.node (.node (.node (.node (.node (.node (.node .nil (some af94) .nil) none .nil) (some af18) (.node (.node .nil (some af111) .nil) (some af83) .nil)) (some af9) (.node (.node (.node .nil (some af109) .nil) (some af57) (.node .nil (some af164) .nil)) (some af32) (.node (.node .nil (some af133) .nil) none .nil))) none (.node (.node (.node (.node .nil (some af102) .nil) (some af46) .nil) (some af27) (.node (.node .nil (some af126) .nil) none (.node .nil (some af188) .nil))) none (.node (.node .nil (some af68) .nil) (some af51) (.node (.node .nil (some af153) .nil) (some af78) .nil)))) none (.node (.node (.node (.node (.node .nil (some af98) .nil) (some af42) .nil) (some af22) (.node (.node .nil (some af117) .nil) none (.node .nil (some af186) .nil))) none (.node (.node (.node .nil (some af121) .nil) none (.node .nil (some af168) .nil)) none (.node (.node .nil (some af140) .nil) none .nil))) (some af6) (.node (.node (.node .nil (some af53) .nil) none .nil) none (.node (.node .nil (some af63) .nil) none (.node (.node .nil (some af137) .nil) (some af85) .nil))))) none (.node (.node (.node (.node (.node (.node .nil (some af96) .nil) none .nil) (some af20) (.node .nil (some af89) .nil)) none (.node (.node (.node .nil (some af119) .nil) none (.node .nil (some af166) .nil)) (some af34) (.node (.node .nil (some af135) .nil) (some af72) .nil))) none (.node (.node (.node .nil (some af48) .nil) none .nil) none (.node (.node (.node .nil (some af105) .nil) (some af59) .nil) none (.node .nil (some af80) .nil)))) none (.node (.node (.node (.node (.node .nil (some af100) .nil) none .nil) (some af24) (.node .nil (some af88) .nil)) (some af25) (.node (.node .nil none (.node .nil (some af170) .nil)) (some af49) (.node (.node .nil (some af150) .nil) (some af76) .nil))) none (.node (.node (.node (.node .nil (some af103) .nil) (some af55) .nil) (some af30) (.node (.node .nil (some af131) .nil) none .nil)) none (.node (.node .nil (some af65) .nil) none (.node (.node .nil (some af142) .nil) (some af87) .nil)))))) none (.node (.node (.node (.node (.node (.node (.node .nil (some af95) .nil) none .nil) (some af19) (.node .nil (some af84) .nil)) (some af10) (.node (.node (.node .nil (some af118) .nil) (some af58) .nil) (some af33) (.node (.node .nil (some af134) .nil) (some af71) .nil))) none (.node (.node (.node .nil (some af47) .nil) none .nil) none (.node (.node .nil (some af115) .nil) none (.node (.node .nil (some af154) .nil) (some af79) .nil)))) none (.node (.node (.node (.node (.node .nil (some af99) .nil) (some af43) .nil) (some af23) .nil) none (.node (.node (.node .nil (some af124) .nil) none (.node .nil (some af169) .nil)) none (.node (.node .nil (some af141) .nil) none .nil))) none (.node (.node (.node .nil (some af54) .nil) none .nil) none (.node (.node .nil (some af64) .nil) none (.node .nil (some af86) .nil))))) none (.node (.node (.node (.node (.node (.node .nil (some af97) .nil) (some af41) (.node .nil (some af147) .nil)) (some af21) (.node (.node .nil (some af116) .nil) (some af90) (.node .nil (some af183) .nil))) (some af12) (.node (.node (.node .nil (some af120) .nil) none (.node .nil (some af167) .nil)) (some af114) (.node (.node .nil (some af139) .nil) none .nil))) (some af5) (.node (.node (.node .nil (some af50) .nil) none .nil) none (.node (.node .nil (some af62) .nil) none (.node (.node .nil (some af136) .nil) (some af81) .nil)))) none (.node (.node (.node (.node (.node .nil (some af101) .nil) (some af45) (.node .nil (some af155) .nil)) (some af26) (.node (.node .nil (some af125) .nil) none .nil)) none (.node (.node .nil none (.node .nil (some af176) .nil)) (some af52) (.node (.node .nil (some af151) .nil) (some af77) .nil))) none (.node (.node (.node (.node .nil (some af104) .nil) (some af56) .nil) (some af31) (.node (.node .nil (some af132) .nil) none .nil)) none (.node (.node (.node .nil (some af110) .nil) (some af82) .nil) none (.node .nil (some af93) .nil)))))))
theorem tabT_eq:tabT=treeOf tabL:=by kernel_rfl
theorem tab_ok:TabOk Tryz.prog (tabOf tabT):=tabOf_ok tabL_ok tabT_eq
def ap28:AParts:=⟨19,[(2,none)],[(.region false [⟨(some 1),.box (.tmp 0),none,[]⟩,⟨(some 2),.mov (.const .nilSl),none,[]⟩]),(.region false [⟨(some 3),.alloc [.nilSl],none,[]⟩]),(.seq (.region false [⟨(some 5),.fieldA 1 (.tmp 1),none,[]⟩,⟨(some 6),.load none (.tmp 5),none,[]⟩,⟨(some 7),.lenSl (.tmp 6),none,[]⟩,⟨(some 8),.bin .eql .num (.tmp 7) (.const (.int .i64 0)),none,[]⟩])
 (.cond (.tmp 8) (.seq (.region false [⟨(some 9),.load none (.tmp 3),none,[]⟩,⟨(some 2),.mov (.tmp 9),none,[]⟩])
 .ret)
 .skip))],(.region false [⟨(some 10),.load (some 2) (.tmp 1),none,[]⟩,⟨(some 11),.call (.fn 79) [(.tmp 10)],none,[]⟩,⟨(some 12),.call (.fn 80) [(.tmp 11)],none,[]⟩]),(.tmp 12),[13],(.region false [⟨(some 4),.alloc [(.int .i64 0),(.int .i64 0),(.int .i64 0),(.bool false)],none,[]⟩,⟨none,.store 4 (.tmp 4) (.tmp 13),none,[]⟩]),(.block 1 (.region false [⟨(some 14),.load none (.tmp 3),none,[]⟩,⟨(some 15),.load (some 4) (.tmp 4),none,[]⟩,⟨(some 16),.mkSl 4 1 [(.int .i64 0),(.int .i64 0),(.int .i64 0),(.bool false)] [(0,(.tmp 15))],none,[]⟩,⟨(some 17),.append 4 32 [(.int .i64 0),(.int .i64 0),(.int .i64 0),(.bool false)] (.tmp 14) (.tmp 16),none,[]⟩,⟨none,.store 1 (.tmp 3) (.tmp 17),none,[]⟩])),(.seq (.region false [⟨(some 18),.load none (.tmp 3),none,[]⟩,⟨(some 2),.mov (.tmp 18),none,[]⟩])
 .ret)⟩
theorem cr28:cRange Tryz.prog Tryz.f40=some ap28:=by kernel_rfl
theorem hm:Tryz.prog.follows .mixedOrders=true:=by kernel_rfl
abbrev tab:=tabOf tabT
theorem join_spec:JoinSpec Tryz.prog 69:=
 ⟨⟨_,Tryz.func69,by kernel_rfl,by kernel_rfl⟩,fun bk o c xs sep w h1 h2 h3 h4 h5=>Tryz.strings_Join bk o c xs sep w h1 h2 h3 h4 h5⟩
theorem ov_int:OvSpec Tryz.prog 169:=⟨_,27,4,3,1,Tryz.func169,by kernel_rfl,by kernel_rfl,by kernel_rfl,by kernel_rfl,by kernel_rfl,Tryz.sizeOf3⟩
theorem ov_finger:OvSpec Tryz.prog 164:=⟨_,48,4,84,3,Tryz.func164,by kernel_rfl,by kernel_rfl,by kernel_rfl,by kernel_rfl,by kernel_rfl,Tryz.sizeOf84⟩
def splits:List (Nat×Nat):=[(135,169),(125,164)]
theorem splits_ok:∀ g G,findG g splits=some G→OvSpec Tryz.prog G:=by
 intro g G h
 unfold splits findG at h
 cases h1:Nat.beq 135 g with
 | true=>rw [h1] at h; injection h with h; subst h; exact ov_int
 | false=>
  rw [h1] at h
  simp only [cond_false] at h
  unfold findG at h
  cases h2:Nat.beq 125 g with
  | true=>rw [h2] at h; injection h with h; subst h; exact ov_finger
  | false=>rw [h2] at h; simp [findG] at h
def call1:Caller:=runF tab (joinC 69) 1000
theorem call1_ok:CallerOk Tryz.prog call1:=runF_ok hm tab_ok (joinC_ok join_spec) 1000
def orc2:Caller:=orElse (spliceC tab call1 splits) (joinC 69)
theorem orc2_ok:CallerOk Tryz.prog orc2:=orElse_ok (spliceC_ok hm tab_ok call1_ok splits_ok) (joinC_ok join_spec)
def call2:Caller:=runF tab orc2 1000
theorem call2_ok:CallerOk Tryz.prog call2:=runF_ok hm tab_ok orc2_ok 1000
def orc3:Caller:=orElse (rangeC tab call2 40 ap28) orc2
theorem orc3_ok:CallerOk Tryz.prog orc3:=orElse_ok (rangeC_ok hm tab_ok call2_ok Tryz.func40 cr28 (by kernel_rfl)) orc2_ok
def orcM (l:List Memo):Caller:=orElse (frzC l) orc3
theorem orcM_ok {l:List Memo} (h:Memo.All Tryz.prog l):CallerOk Tryz.prog (orcM l):=orElse_ok (frzC_ok h) orc3_ok
theorem known_of {l:List Memo} (hl:Memo.All Tryz.prog l) (e:Memo)
 (h:(match runM tab (orcM l) e.g e.args with | some r=>beqA r e.v&&(closedL e.args&&e.v.closed) | none=>false)=true):e.Ok Tryz.prog:=
 memo_of hm tab_ok (orcM_ok hl) e h
end Go.Known
