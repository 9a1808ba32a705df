/- Part 28 of the proof: Kt, La. -/
import Derived.Test.YtfmnflhggplkmaaGreatDoorO17
import Derived.Test.YtfmnflhggplkmaaGreatDoorO20
import Derived.Test.YtfmnflhggplkmaaGreatDoorO24
import Derived.Test.YtfmnflhggplkmaaGreatDoorO25
import Derived.Test.YtfmnflhggplkmaaGreatDoorO26
import Derived.Test.YtfmnflhggplkmaaGreatDoorO27
set_option linter.all false
section
namespace Go.Known
open Go Go.AE Go.Proofs
theorem gx106:GD 106 ag85:=gG Tryz.func106 ch85 (by kernel_rfl)
theorem gx107:GD 107 ag86:=gG Tryz.func107 ch86 (by kernel_rfl)
theorem gx132:GD 132 ag143:=gG Tryz.func132 ch143 (by kernel_rfl)
theorem gx14:GD 14 ahRStandard:=gG Tryz.func14 chRStandard (by kernel_rfl)
theorem gx144:GD 144 ag179:=gG Tryz.func144 ch179 (by kernel_rfl)
theorem gx12:GD 12 ahIndex:=gG Tryz.func12 chIndex (by kernel_rfl)
theorem gx25:GD 25 ahOpening:=gG Tryz.func25 chOpening (by kernel_rfl)
theorem gx41:GD 41 ahOp1:=gG Tryz.func41 chOp1 (by kernel_rfl)
theorem gx42:GD 42 ahOp2:=gG Tryz.func42 chOp2 (by kernel_rfl)
theorem gx15:GD 15 ahParseName:=gG Tryz.func15 chParseName (by kernel_rfl)
theorem gx133:GD 133 ag144:=gG Tryz.func133 ch144 (by kernel_rfl)
theorem gx134:GD 134 ag145:=gG Tryz.func134 ch145 (by kernel_rfl)
def tabL:List (Nat×AFn):=[(139,af136),(98,af132),(106,ag85),(100,af134),(107,ag86),(101,af135),(140,af137),(121,af105),(97,af131),(119,af167),(99,af133),(132,ag143),(74,af104),(122,aq122),(46,aq46),(126,aq126),(124,aq124),(59,aq59),(123,aq123),(142,aq142),(104,aq104),(102,aq102),(131,aq131),(129,aq129),(105,aq105),(127,aq127),(143,aq143),(147,aq147),(151,aq151),(152,aq152),(165,aq165),(153,aq153),(154,aq154),(171,aq171),(181,aq181),(146,aq146),(163,aq163),(150,aq150),(162,aq162),(156,aq156),(158,aq158),(170,aq170),(160,aq160),(173,aq173),(68,aq68),(67,aq67),(66,aq66),(82,aq82),(65,aq65),(80,aq80),(8,aq8),(36,af53),(51,af93),(29,af26),(14,ahRStandard),(39,af30),(125,aq125),(77,af29),(120,af168),(144,ag179),(73,af103),(55,af59),(30,aq30),(19,aq19),(12,ahIndex),(17,aq17),(25,ahOpening),(41,ahOp1),(42,ahOp2),(15,ahParseName),(31,aq31),(28,aq28),(9,aq9),(10,af82),(63,aq63),(45,aq45),(37,af153),(78,aq78),(69,aq69),(48,aq48),(75,aq75),(76,aq76),(47,aq47),(52,af151),(38,af154),(64,aq64),(61,aq61),(40,af120),(49,aq49),(62,aq62),(32,af118),(56,aq56),(141,aq141),(149,aq149),(169,aq169),(148,aq148),(145,aq145),(166,aq166),(164,aq164),(70,af110),(50,af71),(83,af142),(72,af126),(96,af164),(44,af31),(60,aq60),(168,aq168),(118,af166),(180,aq180),(33,af119),(167,aq167),(81,aq81),(79,aq79),(138,af183),(161,aq161),(184,aq184),(34,af150),(130,aq130),(179,aq179),(108,aq108),(133,ag144),(175,aq175),(134,ag145),(53,af176),(87,af188),(71,af186),(35,af41)]
theorem tabL_ok:AllT Tryz.prog tabL:=⟨gd136,gd132,gx106,gd134,gx107,gd135,gd137,gd105,gd131,gd167,gd133,gx132,gd104,gq122,gq46,gq126,gq124,gq59,gq123,gq142,gq104,gq102,gq131,gq129,gq105,gq127,gq143,gq147,gq151,gq152,gq165,gq153,gq154,gq171,gq181,gq146,gq163,gq150,gq162,gq156,gq158,gq170,gq160,gq173,gq68,gq67,gq66,gq82,gq65,gq80,gq8,gd53,gd93,gd26,gx14,gd30,gq125,gd29,gd168,gx144,gd103,gd59,gq30,gq19,gx12,gq17,gx25,gx41,gx42,gx15,gq31,gq28,gq9,gd82,gq63,gq45,gd153,gq78,gq69,gq48,gq75,gq76,gq47,gd151,gd154,gq64,gq61,gd120,gq49,gq62,gd118,gq56,gq141,gq149,gq169,gq148,gq145,gq166,gq164,gd110,gd71,gd142,gd126,gd164,gd31,gq60,gq168,gd166,gq180,gd119,gq167,gq81,gq79,gd183,gq161,gq184,gd150,gq130,gq179,gq108,gx133,gq175,gx134,gd176,gd188,gd186,gd41,trivial⟩
def tabT:Tr AFn:=(.node (.node (.node (.node (.node (.node (.node (.node .nil (some aq127) .nil) (some aq63) .nil) (some aq31) .nil) (some ahParseName) (.node (.node (.node .nil (some aq143) .nil) (some aq79) .nil) (some aq47) (.node (.node .nil (some aq175) .nil) none .nil))) none (.node (.node (.node .nil (some af186) .nil) (some af30) (.node (.node .nil (some aq167) .nil) none .nil)) none (.node (.node (.node .nil (some aq151) .nil) (some af188) .nil) (some af59) (.node .nil (some af167) .nil)))) none (.node (.node (.node (.node (.node .nil (some aq131) .nil) (some aq67) .nil) (some af41) (.node (.node .nil (some aq163) .nil) (some af133) .nil)) (some aq19) (.node (.node (.node .nil (some aq147) .nil) (some af142) .nil) (some af93) (.node (.node .nil (some aq179) .nil) none .nil))) none (.node (.node (.node (.node .nil (some af136) .nil) (some aq75) .nil) none (.node (.node .nil (some aq171) .nil) (some ag86) .nil)) none (.node .nil (some aq59) (.node .nil (some aq123) .nil))))) none (.node (.node (.node (.node (.node (.node .nil (some aq129) .nil) (some aq65) .nil) (some af119) (.node (.node .nil (some aq161) .nil) (some af131) .nil)) (some aq17) (.node (.node (.node .nil (some aq145) .nil) (some aq81) .nil) (some aq49) .nil)) (some aq9) (.node (.node (.node .nil (some af103) .nil) (some ahOp1) (.node (.node .nil (some aq169) .nil) (some aq105) .nil)) (some ahOpening) (.node (.node (.node .nil (some aq153) .nil) none .nil) none (.node .nil (some af105) .nil)))) none (.node (.node (.node (.node (.node .nil (some ag144) .nil) (some aq69) .nil) (some af153) (.node (.node .nil (some aq165) .nil) (some af135) .nil)) none (.node (.node (.node .nil (some aq149) .nil) none .nil) (some af176) (.node (.node .nil (some aq181) .nil) none .nil))) none (.node (.node (.node (.node .nil (some aq141) .nil) (some af29) .nil) (some aq45) (.node (.node .nil (some aq173) .nil) none .nil)) (some af26) (.node .nil (some aq61) (.node .nil (some aq125) .nil)))))) none (.node (.node (.node (.node (.node (.node .nil (some aq64) .nil) (some af118) (.node (.node .nil (some aq160) .nil) (some af164) .nil)) none (.node (.node (.node .nil (some ag179) .nil) (some aq80) .nil) (some aq48) .nil)) (some aq8) (.node (.node (.node .nil (some af126) .nil) (some af120) (.node (.node .nil (some aq168) .nil) (some aq104) .nil)) none (.node (.node (.node .nil (some aq152) .nil) none .nil) (some aq56) (.node (.node .nil (some aq184) .nil) (some af168) .nil)))) none (.node (.node (.node (.node (.node .nil (some ag143) .nil) (some aq68) .nil) (some af53) (.node (.node .nil (some aq164) .nil) (some af134) .nil)) none (.node (.node (.node .nil (some aq148) .nil) none .nil) (some af151) (.node (.node .nil (some aq180) .nil) none .nil))) (some ahIndex) (.node (.node (.node (.node .nil (some af137) .nil) (some aq76) .nil) (some af31) (.node .nil (some aq108) .nil)) (some aq28) (.node (.node (.node .nil (some aq156) .nil) none .nil) (some aq60) (.node .nil (some aq124) .nil))))) none (.node (.node (.node (.node (.node (.node .nil (some aq130) .nil) (some aq66) .nil) (some af150) (.node (.node .nil (some aq162) .nil) (some af132) .nil)) none (.node (.node (.node .nil (some aq146) .nil) (some aq82) .nil) (some af71) .nil)) (some af82) (.node (.node (.node (.node .nil (some af183) .nil) (some af104) .nil) (some ahOp2) (.node (.node .nil (some aq170) .nil) (some ag85) .nil)) none (.node (.node (.node .nil (some aq154) .nil) none .nil) none (.node .nil (some aq122) .nil)))) none (.node (.node (.node (.node (.node .nil (some ag145) .nil) (some af110) .nil) (some af154) (.node (.node .nil (some aq166) .nil) (some aq102) .nil)) none (.node (.node (.node .nil (some aq150) .nil) none .nil) none (.node .nil (some af166) .nil))) (some ahRStandard) (.node (.node (.node (.node .nil (some aq142) .nil) (some aq78) .nil) (some aq46) .nil) (some aq30) (.node (.node (.node .nil (some aq158) .nil) none .nil) (some aq62) (.node .nil (some aq126) .nil)))))))
theorem tabT_eq:tabT=treeOf tabL:=by kernel_rfl
theorem tab_ok:TabOk Tryz.prog (tabOf tabT):=tabOf_ok tabL_ok tabT_eq
theorem hm:Tryz.prog.follows .mixedOrders=true:=by kernel_rfl
abbrev tab:=tabOf tabT
def orcM (l:List Memo):Caller:=frzC l
theorem orcM_ok {l:List Memo} (h:Memo.All Tryz.prog l):CallerOk Tryz.prog (orcM l):=frzC_ok h
theorem known_of {l:List Memo} (hl:Memo.All Tryz.prog l) (e:Memo)
 (h:(match runM tab (orcM l) e.g e.args with|some r=>beqA r e.v&&(closedL e.args&&e.v.closed)|none=>false)=true):e.Ok Tryz.prog:=
 memo_of hm tab_ok (orcM_ok hl) e h
end Go.Known
end
section
namespace Go.Known
open Go Go.AE Go.Proofs
open Go.Plain
attribute [local simp] wS_skip wS_region wS_dregion wS_seq wS_cond wS_block wS_exit wS_ret thenS_normal thenS_ret thenS_exit blockS_normal blockS_ret blockS_exit sops_nil sops_cons wantedE evE Env.get putE argE stepD SMem.at SMem.app SMem.get lookB AVal.cells AVal.one addA loadD rowAtD sliceLen asNat binA binInt unA eqA storeD setRow retS calleeE aundef sdops_nil sdops_cons indepL FT.indep apartL apart1 belowL subL in1 footWD footRD blkOf SubS SubE SubB
def rowL (l:Lt):List AVal:=[.int .i64 l.k,.int .i64 l.g,.int .i64 l.r,.int .i64 l.i,.int .i64 l.s,.bool l.o]
abbrev cV (f:Int) (ls:List Lt):AVal:=.agg [.int .i64 f,.imm (ls.map rowL)]
theorem closed_rows:∀ (ls:List Lt),closedLL (ls.map rowL)=true
 | []=>rfl
 | l :: r=>by simp only[List.map_cons,closedLL,closed_rows r,Bool.and_true]; rfl
theorem wrap64 {x:Int} (h1 : -9223372036854775808≤x) (h2:x<9223372036854775808):IntKind.i64.wrap x=x:=by
 simp only[IntKind.wrap,IntKind.bits,IntKind.signed]
 first|omega|(simp; omega)
structure Rows (ls:List Lt) (rows:List (List AVal)):Prop where
 len:rows.length=ls.length
 row:∀ i,i<ls.length→rows[i]? = some (rowL (at' ls i))
def alongN (n i:Nat) (fw:Bool):Nat:=if fw then 2*i else 2*((i+n - 1) % n)+1
def otherN (ls:List Lt) (i:Nat):Nat→Nat→Nat
 | 0,_=>i
 | k+1,j=>if j != i&&isX (at' ls j)&&(at' ls j).i == (at' ls i).i then j else otherN ls i k (j+1)
abbrev nums (l:List Nat):List (List AVal):=l.map fun(i:Nat)=>[AVal.int .i64 (i:Int)]
theorem closed_nums:∀ (l:List Nat),closedLL (nums l)=true
 | []=>rfl
 | x :: r=>by simp only[nums,List.map_cons,closedLL]; exact closed_nums r
end Go.Known
end
