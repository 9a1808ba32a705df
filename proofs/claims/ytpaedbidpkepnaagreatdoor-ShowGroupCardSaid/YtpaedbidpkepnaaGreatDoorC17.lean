/- Part 17 of the proof: Kt. -/
import Derived.Test.YtpaedbidpkepnaaGreatDoorC15
import Derived.Test.YtpaedbidpkepnaaGreatDoorC16
set_option linter.all false
namespace Go.Known
open Go Go.AE Go.Proofs
def tabL:List (Nat×AFn):=[(5,af5),(11,af6),(7,af9),(6,af10),(39,af12),(10,af18),(12,af19),(13,af20),(14,af21),(15,af22),(16,af23),(17,af24),(18,af25),(19,af26),(25,af27),(20,af30),(22,af31),(23,af32),(24,af33),(21,af34),(32,af41),(33,af42),(34,af43),(36,af45),(37,af46),(38,af47),(40,af48),(41,af49),(42,af50),(43,af51),(44,af52),(45,af53),(49,af54),(52,af55),(53,af56),(58,af57),(59,af58),(46,af59),(50,af62),(51,af63),(47,af64),(48,af65),(69,af68),(60,af71),(61,af72),(65,af76),(66,af77),(67,af78),(68,af79),(70,af80),(71,af81),(72,af82),(73,af83),(74,af84),(75,af85),(76,af86),(77,af87),(78,af88),(79,af89),(80,af90),(83,af93),(91,af94),(92,af95),(93,af96),(94,af97),(95,af98),(96,af99),(97,af100),(98,af101),(99,af102),(84,af103),(85,af104),(145,af105),(86,af109),(100,af110),(101,af111),(104,af114),(105,af115),(106,af116),(107,af117),(108,af118),(109,af119),(110,af120),(111,af121),(114,af124),(123,af125),(124,af126),(115,af131),(116,af132),(117,af133),(118,af134),(119,af135),(167,af136),(168,af137),(120,af139),(121,af140),(122,af141),(129,af142),(134,af147),(137,af150),(138,af151),(140,af153),(141,af154),(148,af155),(157,af164),(142,af166),(143,af167),(144,af168),(146,af169),(147,af170),(164,af176),(166,af183),(177,af186),(179,af188)]
theorem tabL_ok:AllT Tryz.prog tabL:=⟨gd5,gd6,gd9,gd10,gd12,gd18,gd19,gd20,gd21,gd22,gd23,gd24,gd25,gd26,gd27,gd30,gd31,gd32,gd33,gd34,gd41,gd42,gd43,gd45,gd46,gd47,gd48,gd49,gd50,gd51,gd52,gd53,gd54,gd55,gd56,gd57,gd58,gd59,gd62,gd63,gd64,gd65,gd68,gd71,gd72,gd76,gd77,gd78,gd79,gd80,gd81,gd82,gd83,gd84,gd85,gd86,gd87,gd88,gd89,gd90,gd93,gd94,gd95,gd96,gd97,gd98,gd99,gd100,gd101,gd102,gd103,gd104,gd105,gd109,gd110,gd111,gd114,gd115,gd116,gd117,gd118,gd119,gd120,gd121,gd124,gd125,gd126,gd131,gd132,gd133,gd134,gd135,gd136,gd137,gd139,gd140,gd141,gd142,gd147,gd150,gd151,gd153,gd154,gd155,gd164,gd166,gd167,gd168,gd169,gd170,gd176,gd183,gd186,gd188,trivial⟩
def tabT:Tr AFn:=(.node (.node (.node (.node (.node (.node .nil none (.node .nil (some af98) .nil)) (some af22) (.node (.node (.node .nil (some af167) .nil) (some af89) .nil) (some af64) (.node .nil (some af121) .nil))) (some af9) (.node (.node (.node .nil (some af81) .nil) (some af12) (.node (.node .nil (some af136) .nil) none .nil)) (some af32) (.node .nil none (.node .nil (some af135) .nil)))) none (.node (.node (.node (.node .nil (some af78) .nil) none (.node .nil (some af102) .nil)) (some af26) (.node (.node (.node .nil (some af170) .nil) (some af93) .nil) (some af63) (.node (.node .nil (some af188) .nil) (some af131) .nil))) (some af6) (.node (.node (.node .nil (some af85) .nil) (some af51) (.node .nil (some af117) .nil)) none (.node (.node .nil (some af94) .nil) (some af58) (.node .nil (some af125) .nil))))) none (.node (.node (.node (.node (.node (.node .nil (some af142) .nil) (some af76) .nil) (some af42) (.node .nil (some af100) .nil)) (some af24) (.node (.node (.node .nil (some af105) .nil) none .nil) (some af54) (.node (.node .nil (some af186) .nil) none .nil))) none (.node (.node (.node (.node .nil (some af150) .nil) (some af83) .nil) (some af49) (.node .nil (some af115) .nil)) (some af27) (.node .nil none (.node .nil (some af140) .nil)))) (some af5) (.node (.node (.node (.node .nil (some af68) .nil) (some af46) (.node .nil (some af111) .nil)) (some af34) (.node (.node .nil (some af104) .nil) (some af56) (.node .nil (some af133) .nil))) (some af20) (.node (.node (.node (.node .nil (some af154) .nil) (some af87) .nil) (some af53) (.node .nil (some af119) .nil)) none (.node (.node (.node .nil (some af164) .nil) (some af96) .nil) (some af72) .nil))))) none (.node (.node (.node (.node (.node .nil (some af41) (.node .nil (some af99) .nil)) (some af23) (.node (.node (.node .nil (some af168) .nil) (some af90) .nil) (some af65) .nil)) none (.node (.node (.node .nil (some af82) .nil) (some af48) (.node (.node .nil (some af137) .nil) (some af114) .nil)) (some af33) (.node .nil none (.node .nil (some af139) .nil)))) none (.node (.node (.node (.node .nil (some af79) .nil) (some af45) (.node (.node .nil (some af176) .nil) (some af110) .nil)) (some af30) (.node (.node (.node .nil (some af155) .nil) (some af103) .nil) (some af55) (.node .nil (some af132) .nil))) (some af19) (.node (.node (.node (.node .nil (some af153) .nil) (some af86) .nil) (some af52) (.node .nil (some af118) .nil)) none (.node (.node .nil (some af95) .nil) (some af71) (.node .nil (some af126) .nil))))) none (.node (.node (.node (.node (.node .nil (some af77) .nil) (some af43) (.node .nil (some af101) .nil)) (some af25) (.node (.node (.node .nil (some af169) .nil) none .nil) (some af62) (.node .nil (some af124) .nil))) (some af18) (.node (.node (.node (.node .nil (some af151) .nil) (some af84) .nil) (some af50) (.node .nil (some af116) .nil)) none (.node .nil (some af57) (.node .nil (some af141) .nil)))) (some af10) (.node (.node (.node (.node (.node .nil (some af147) .nil) (some af80) .nil) (some af47) (.node (.node .nil (some af183) .nil) none .nil)) (some af31) (.node (.node .nil (some af109) .nil) none (.node .nil (some af134) .nil))) (some af21) (.node (.node (.node (.node .nil (some af166) .nil) (some af88) .nil) (some af59) (.node .nil (some af120) .nil)) none (.node (.node .nil (some af97) .nil) none .nil))))))
theorem tabT_eq:tabT=treeOf tabL:=by kernel_rfl
theorem tab_ok:TabOk Tryz.prog (tabOf tabT):=tabOf_ok tabL_ok tabT_eq
def ap28:AParts:=⟨19,[(2,none)],[(.region false [⟨(some 1),.box (.tmp 0),none,[]⟩,⟨(some 2),.mov (.const .nilSl),none,[]⟩]),(.region false [⟨(some 3),.alloc [.nilSl],none,[]⟩]),(.seq (.region false [⟨(some 5),.fieldA 1 (.tmp 1),none,[]⟩,⟨(some 6),.load none (.tmp 5),none,[]⟩,⟨(some 7),.lenSl (.tmp 6),none,[]⟩,⟨(some 8),.bin .eql .num (.tmp 7) (.const (.int .i64 0)),none,[]⟩])
 (.cond (.tmp 8) (.seq (.region false [⟨(some 9),.load none (.tmp 3),none,[]⟩,⟨(some 2),.mov (.tmp 9),none,[]⟩])
 .ret)
 .skip))],(.region false [⟨(some 10),.load (some 2) (.tmp 1),none,[]⟩,⟨(some 11),.call (.fn 58) [(.tmp 10)],none,[]⟩,⟨(some 12),.call (.fn 59) [(.tmp 11)],none,[]⟩]),(.tmp 12),[13],(.region false [⟨(some 4),.alloc [(.int .i64 0),(.int .i64 0),(.int .i64 0),(.bool false)],none,[]⟩,⟨none,.store 4 (.tmp 4) (.tmp 13),none,[]⟩]),(.block 1 (.region false [⟨(some 14),.load none (.tmp 3),none,[]⟩,⟨(some 15),.load (some 4) (.tmp 4),none,[]⟩,⟨(some 16),.mkSl 4 1 [(.int .i64 0),(.int .i64 0),(.int .i64 0),(.bool false)] [(0,(.tmp 15))],none,[]⟩,⟨(some 17),.append 4 32 [(.int .i64 0),(.int .i64 0),(.int .i64 0),(.bool false)] (.tmp 14) (.tmp 16),none,[]⟩,⟨none,.store 1 (.tmp 3) (.tmp 17),none,[]⟩])),(.seq (.region false [⟨(some 18),.load none (.tmp 3),none,[]⟩,⟨(some 2),.mov (.tmp 18),none,[]⟩])
 .ret)⟩
theorem cr28:cRange Tryz.prog Tryz.f31=some ap28:=by kernel_rfl
theorem hm:Tryz.prog.follows .mixedOrders=true:=by kernel_rfl
abbrev tab:=tabOf tabT
theorem join_spec:JoinSpec Tryz.prog 35:=
 ⟨⟨_,Tryz.func35,by kernel_rfl,by kernel_rfl⟩,fun bk o c xs sep w h1 h2 h3 h4 h5=>Tryz.strings_Join bk o c xs sep w h1 h2 h3 h4 h5⟩
theorem ov_int:OvSpec Tryz.prog 126:=⟨_,42,4,3,1,Tryz.func126,by kernel_rfl,by kernel_rfl,by kernel_rfl,by kernel_rfl,by kernel_rfl,Tryz.sizeOf3⟩
theorem ov_finger:OvSpec Tryz.prog 112:=⟨_,37,4,64,3,Tryz.func112,by kernel_rfl,by kernel_rfl,by kernel_rfl,by kernel_rfl,by kernel_rfl,Tryz.sizeOf64⟩
def splits:List (Nat×Nat):=[(99,126),(77,112)]
theorem splits_ok:∀ g G,findG g splits=some G→OvSpec Tryz.prog G:=by
 intro g G h
 unfold splits findG at h
 cases h1:Nat.beq 99 g with
 | true=>rw [h1] at h; injection h with h; subst h; exact ov_int
 | false=>
  rw [h1] at h
  simp only [cond_false] at h
  unfold findG at h
  cases h2:Nat.beq 77 g with
  | true=>rw [h2] at h; injection h with h; subst h; exact ov_finger
  | false=>rw [h2] at h; simp [findG] at h
def call1:Caller:=runF tab (joinC 35) 1000
theorem call1_ok:CallerOk Tryz.prog call1:=runF_ok hm tab_ok (joinC_ok join_spec) 1000
def orc2:Caller:=orElse (spliceC tab call1 splits) (joinC 35)
theorem orc2_ok:CallerOk Tryz.prog orc2:=orElse_ok (spliceC_ok hm tab_ok call1_ok splits_ok) (joinC_ok join_spec)
def call2:Caller:=runF tab orc2 1000
theorem call2_ok:CallerOk Tryz.prog call2:=runF_ok hm tab_ok orc2_ok 1000
def orc3:Caller:=orElse (rangeC tab call2 31 ap28) orc2
theorem orc3_ok:CallerOk Tryz.prog orc3:=orElse_ok (rangeC_ok hm tab_ok call2_ok Tryz.func31 cr28 (by kernel_rfl)) orc2_ok
def orcM (l:List Memo):Caller:=orElse (frzC l) orc3
theorem orcM_ok {l:List Memo} (h:Memo.All Tryz.prog l):CallerOk Tryz.prog (orcM l):=orElse_ok (frzC_ok h) orc3_ok
theorem known_of {l:List Memo} (hl:Memo.All Tryz.prog l) (e:Memo)
 (h:(match runM tab (orcM l) e.g e.args with | some r=>beqA r e.v&&(closedL e.args&&e.v.closed) | none=>false)=true):e.Ok Tryz.prog:=
 memo_of hm tab_ok (orcM_ok hl) e h
end Go.Known
