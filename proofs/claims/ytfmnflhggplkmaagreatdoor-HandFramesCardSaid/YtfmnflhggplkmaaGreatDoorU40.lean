/- Part 40 of the proof: Kt, La, AeMg. -/
import Derived.Test.YtfmnflhggplkmaaGreatDoorU29
import Derived.Test.YtfmnflhggplkmaaGreatDoorU30
import Derived.Test.YtfmnflhggplkmaaGreatDoorU33
import Derived.Test.YtfmnflhggplkmaaGreatDoorU34
import Derived.Test.YtfmnflhggplkmaaGreatDoorU36
import Derived.Test.YtfmnflhggplkmaaGreatDoorU37
import Derived.Test.YtfmnflhggplkmaaGreatDoorU38
import Derived.Test.YtfmnflhggplkmaaGreatDoorU39
set_option linter.all false
section
namespace Go.Known
open Go Go.AE Go.Proofs
theorem gx106:GD 106 ag85:=gG Tryz.func106 ch85 (by kernel_rfl)
theorem gx107:GD 107 ag86:=gG Tryz.func107 ch86 (by kernel_rfl)
theorem gx132:GD 132 ag143:=gG Tryz.func132 ch143 (by kernel_rfl)
theorem gx14:GD 14 ahRStandard:=gG Tryz.func14 chRStandard (by kernel_rfl)
theorem gx144:GD 144 ag179:=gG Tryz.func144 ch179 (by kernel_rfl)
theorem gx12:GD 12 ahIndex:=gG Tryz.func12 chIndex (by kernel_rfl)
theorem gx25:GD 25 ahOpening:=gG Tryz.func25 chOpening (by kernel_rfl)
theorem gx41:GD 41 ahOp1:=gG Tryz.func41 chOp1 (by kernel_rfl)
theorem gx42:GD 42 ahOp2:=gG Tryz.func42 chOp2 (by kernel_rfl)
theorem gx15:GD 15 ahParseName:=gG Tryz.func15 chParseName (by kernel_rfl)
theorem gx133:GD 133 ag144:=gG Tryz.func133 ch144 (by kernel_rfl)
theorem gx134:GD 134 ag145:=gG Tryz.func134 ch145 (by kernel_rfl)
def tabL:List (Nat×AFn):=[(139,af136),(98,af132),(106,ag85),(100,af134),(107,ag86),(101,af135),(140,af137),(121,af105),(97,af131),(119,af167),(99,af133),(132,ag143),(74,af104),(122,aq122),(46,aq46),(126,aq126),(124,aq124),(59,aq59),(123,aq123),(142,aq142),(104,aq104),(102,aq102),(131,aq131),(129,aq129),(105,aq105),(127,aq127),(143,aq143),(147,aq147),(151,aq151),(152,aq152),(165,aq165),(153,aq153),(154,aq154),(171,aq171),(181,aq181),(146,aq146),(163,aq163),(150,aq150),(162,aq162),(156,aq156),(158,aq158),(170,aq170),(160,aq160),(173,aq173),(68,aq68),(67,aq67),(66,aq66),(82,aq82),(65,aq65),(80,aq80),(8,aq8),(36,af53),(51,af93),(29,af26),(14,ahRStandard),(39,af30),(125,aq125),(77,af29),(120,af168),(144,ag179),(73,af103),(55,af59),(30,aq30),(19,aq19),(12,ahIndex),(17,aq17),(25,ahOpening),(41,ahOp1),(42,ahOp2),(15,ahParseName),(31,aq31),(28,aq28),(9,aq9),(10,af82),(63,aq63),(45,aq45),(37,af153),(78,aq78),(69,aq69),(48,aq48),(75,aq75),(76,aq76),(47,aq47),(52,af151),(38,af154),(64,aq64),(61,aq61),(40,af120),(49,aq49),(62,aq62),(32,af118),(56,aq56),(141,aq141),(149,aq149),(169,aq169),(148,aq148),(145,aq145),(166,aq166),(164,aq164),(70,af110),(50,af71),(83,af142),(72,af126),(96,af164),(44,af31),(60,aq60),(168,aq168),(118,af166),(180,aq180),(33,af119),(167,aq167),(81,aq81),(79,aq79),(138,af183),(161,aq161),(184,aq184),(34,af150),(130,aq130),(179,aq179),(108,aq108),(133,ag144),(175,aq175),(134,ag145),(53,af176),(87,af188),(71,af186),(35,af41)]
theorem tabL_ok:AllT Tryz.prog tabL:=⟨gd136,gd132,gx106,gd134,gx107,gd135,gd137,gd105,gd131,gd167,gd133,gx132,gd104,gq122,gq46,gq126,gq124,gq59,gq123,gq142,gq104,gq102,gq131,gq129,gq105,gq127,gq143,gq147,gq151,gq152,gq165,gq153,gq154,gq171,gq181,gq146,gq163,gq150,gq162,gq156,gq158,gq170,gq160,gq173,gq68,gq67,gq66,gq82,gq65,gq80,gq8,gd53,gd93,gd26,gx14,gd30,gq125,gd29,gd168,gx144,gd103,gd59,gq30,gq19,gx12,gq17,gx25,gx41,gx42,gx15,gq31,gq28,gq9,gd82,gq63,gq45,gd153,gq78,gq69,gq48,gq75,gq76,gq47,gd151,gd154,gq64,gq61,gd120,gq49,gq62,gd118,gq56,gq141,gq149,gq169,gq148,gq145,gq166,gq164,gd110,gd71,gd142,gd126,gd164,gd31,gq60,gq168,gd166,gq180,gd119,gq167,gq81,gq79,gd183,gq161,gq184,gd150,gq130,gq179,gq108,gx133,gq175,gx134,gd176,gd188,gd186,gd41,trivial⟩
def tabT:Tr AFn:=(.node (.node (.node (.node (.node (.node (.node (.node .nil (some aq127) .nil) (some aq63) .nil) (some aq31) .nil) (some ahParseName) (.node (.node (.node .nil (some aq143) .nil) (some aq79) .nil) (some aq47) (.node (.node .nil (some aq175) .nil) none .nil))) none (.node (.node (.node .nil (some af186) .nil) (some af30) (.node (.node .nil (some aq167) .nil) none .nil)) none (.node (.node (.node .nil (some aq151) .nil) (some af188) .nil) (some af59) (.node .nil (some af167) .nil)))) none (.node (.node (.node (.node (.node .nil (some aq131) .nil) (some aq67) .nil) (some af41) (.node (.node .nil (some aq163) .nil) (some af133) .nil)) (some aq19) (.node (.node (.node .nil (some aq147) .nil) (some af142) .nil) (some af93) (.node (.node .nil (some aq179) .nil) none .nil))) none (.node (.node (.node (.node .nil (some af136) .nil) (some aq75) .nil) none (.node (.node .nil (some aq171) .nil) (some ag86) .nil)) none (.node .nil (some aq59) (.node .nil (some aq123) .nil))))) none (.node (.node (.node (.node (.node (.node .nil (some aq129) .nil) (some aq65) .nil) (some af119) (.node (.node .nil (some aq161) .nil) (some af131) .nil)) (some aq17) (.node (.node (.node .nil (some aq145) .nil) (some aq81) .nil) (some aq49) .nil)) (some aq9) (.node (.node (.node .nil (some af103) .nil) (some ahOp1) (.node (.node .nil (some aq169) .nil) (some aq105) .nil)) (some ahOpening) (.node (.node (.node .nil (some aq153) .nil) none .nil) none (.node .nil (some af105) .nil)))) none (.node (.node (.node (.node (.node .nil (some ag144) .nil) (some aq69) .nil) (some af153) (.node (.node .nil (some aq165) .nil) (some af135) .nil)) none (.node (.node (.node .nil (some aq149) .nil) none .nil) (some af176) (.node (.node .nil (some aq181) .nil) none .nil))) none (.node (.node (.node (.node .nil (some aq141) .nil) (some af29) .nil) (some aq45) (.node (.node .nil (some aq173) .nil) none .nil)) (some af26) (.node .nil (some aq61) (.node .nil (some aq125) .nil)))))) none (.node (.node (.node (.node (.node (.node .nil (some aq64) .nil) (some af118) (.node (.node .nil (some aq160) .nil) (some af164) .nil)) none (.node (.node (.node .nil (some ag179) .nil) (some aq80) .nil) (some aq48) .nil)) (some aq8) (.node (.node (.node .nil (some af126) .nil) (some af120) (.node (.node .nil (some aq168) .nil) (some aq104) .nil)) none (.node (.node (.node .nil (some aq152) .nil) none .nil) (some aq56) (.node (.node .nil (some aq184) .nil) (some af168) .nil)))) none (.node (.node (.node (.node (.node .nil (some ag143) .nil) (some aq68) .nil) (some af53) (.node (.node .nil (some aq164) .nil) (some af134) .nil)) none (.node (.node (.node .nil (some aq148) .nil) none .nil) (some af151) (.node (.node .nil (some aq180) .nil) none .nil))) (some ahIndex) (.node (.node (.node (.node .nil (some af137) .nil) (some aq76) .nil) (some af31) (.node .nil (some aq108) .nil)) (some aq28) (.node (.node (.node .nil (some aq156) .nil) none .nil) (some aq60) (.node .nil (some aq124) .nil))))) none (.node (.node (.node (.node (.node (.node .nil (some aq130) .nil) (some aq66) .nil) (some af150) (.node (.node .nil (some aq162) .nil) (some af132) .nil)) none (.node (.node (.node .nil (some aq146) .nil) (some aq82) .nil) (some af71) .nil)) (some af82) (.node (.node (.node (.node .nil (some af183) .nil) (some af104) .nil) (some ahOp2) (.node (.node .nil (some aq170) .nil) (some ag85) .nil)) none (.node (.node (.node .nil (some aq154) .nil) none .nil) none (.node .nil (some aq122) .nil)))) none (.node (.node (.node (.node (.node .nil (some ag145) .nil) (some af110) .nil) (some af154) (.node (.node .nil (some aq166) .nil) (some aq102) .nil)) none (.node (.node (.node .nil (some aq150) .nil) none .nil) none (.node .nil (some af166) .nil))) (some ahRStandard) (.node (.node (.node (.node .nil (some aq142) .nil) (some aq78) .nil) (some aq46) .nil) (some aq30) (.node (.node (.node .nil (some aq158) .nil) none .nil) (some aq62) (.node .nil (some aq126) .nil)))))))
theorem tabT_eq:tabT=treeOf tabL:=by kernel_rfl
theorem tab_ok:TabOk Tryz.prog (tabOf tabT):=tabOf_ok tabL_ok tabT_eq
theorem hm:Tryz.prog.follows .mixedOrders=true:=by kernel_rfl
abbrev tab:=tabOf tabT
def orcM (l:List Memo):Caller:=frzC l
theorem orcM_ok {l:List Memo} (h:Memo.All Tryz.prog l):CallerOk Tryz.prog (orcM l):=frzC_ok h
theorem known_of {l:List Memo} (hl:Memo.All Tryz.prog l) (e:Memo)
 (h:(match runM tab (orcM l) e.g e.args with|some r=>beqA r e.v&&(closedL e.args&&e.v.closed)|none=>false)=true):e.Ok Tryz.prog:=
 memo_of hm tab_ok (orcM_ok hl) e h
end Go.Known
end
section
namespace Go.Known
open Go Go.AE Go.Proofs
open Go.Plain
attribute [local simp] wS_skip wS_region wS_dregion wS_seq wS_cond wS_block wS_exit wS_ret thenS_normal thenS_ret thenS_exit blockS_normal blockS_ret blockS_exit sops_nil sops_cons wantedE evE Env.get putE argE stepD SMem.at SMem.app SMem.get lookB AVal.cells AVal.one addA loadD rowAtD sliceLen asNat binA binInt unA eqA storeD setRow retS calleeE aundef sdops_nil sdops_cons indepL FT.indep apartL apart1 belowL subL in1 footWD footRD blkOf SubS SubE SubB
def rowL (l:Lt):List AVal:=[.int .i64 l.k,.int .i64 l.g,.int .i64 l.r,.int .i64 l.i,.int .i64 l.s,.bool l.o]
theorem wrap64 {x:Int} (h1 : -9223372036854775808≤x) (h2:x<9223372036854775808):IntKind.i64.wrap x=x:=by
 simp only[IntKind.wrap,IntKind.bits,IntKind.signed]
 first|omega|(simp; omega)
structure Rows (ls:List Lt) (rows:List (List AVal)):Prop where
 len:rows.length=ls.length
 row:∀ i,i<ls.length→rows[i]? = some (rowL (at' ls i))
abbrev nums (l:List Nat):List (List AVal):=l.map fun(i:Nat)=>[AVal.int .i64 (i:Int)]
theorem closed_nums:∀ (l:List Nat),closedLL (nums l)=true
 | []=>rfl
 | x :: r=>by simp only[nums,List.map_cons,closedLL]; exact closed_nums r
end Go.Known
end
section
namespace Go.AE
open Go.RowKit
def sqL:Code→Code
 | .seq a _=>a
 | c=>c
def sqR:Code→Code
 | .seq _ b=>b
 | c=>c
def cSc:Code→Code
 | .scope c=>c
 | c=>c
def cOps:Code→Array Oper
 | .region _ ops _=>ops
 | _=>#[]
def cId:Code→Nat
 | .region id _ _=>id
 | _=>0
def sqLa:ACode→ACode
 | .seq a _=>a
 | c=>c
def sqRa:ACode→ACode
 | .seq _ b=>b
 | c=>c
def aSc:ACode→ACode
 | .scope c=>c
 | c=>c
def aOps:ACode→List AOper
 | .region _ ops=>ops
 | _=>[]
def endsOf (rs:List (Nat×Option (Option Nat))) (l:List (REnd×RS)):Option (List (AVal×TM)):=
 appO (fun es=>match es.1 with
  | .exit _=>none
  | _=>match retT es.2.t es.2.m rs with
   | some v=>some [(v,es.2.m)]
   | none=>none) l
def runMid (call:Caller) (nc:NCaller) (a5 a6 aM:ACode) (s:RS):Option (List (REnd×RS)):=
 match runCN call nc 1000 a5 s with
 | some [(.normal,s)]=>match runCN call nc 1000 a6 s with
  | some [(.normal,s)]=>runCN call nc 1000 aM s
  | _=>none
 | _=>none
def runTwo (call:Caller) (nc:NCaller) (a1 a2 a3:ACode) (oA oB:List AOper) (a5 a6 aM:ACode) (s:RS):Option (List (REnd×RS)):=
 match runCN call nc 1000 a1 s with
 | some [(.normal,s)]=>match runCN call nc 1000 a2 s with
  | some [(.normal,s)]=>match runCN call nc 1000 a3 s with
   | some [(.normal,s)]=>
    match runD call s.m.next s.m.next oA [] ⟨s.t,⟨s.m.tr,s.m.next+oA.length⟩,[]⟩ with
    | some sA=>match runD call s.m.next s.m.next oB [] ⟨s.t,⟨s.m.tr,s.m.next+oB.length⟩,[]⟩ with
     | some sB=>match runMid call nc a5 a6 aM sA with
      | some x=>match runMid call nc a5 a6 aM sB with
       | some y=>some (x++y)
       | none=>none
      | none=>none
     | none=>none
    | none=>none
   | _=>none
  | _=>none
 | _=>none
def tailOk (call:Caller) (nc:NCaller) (aT:ACode) (rs:List (Nat×Option (Option Nat))) (v:AVal) (o:REnd×RS):Bool:=
 match o.1 with
 | .normal=>match runCN call nc 1000 aT o.2 with
  | some l=>match endsOf rs l with
   | some outs=>allB (fun p=>match freezeV p.2.tr.get 1000 p.1 with|some y=>beqA y v|none=>false) outs
   | none=>false
  | none=>false
 | _=>false
def chunkOk (call:Caller) (nc:NCaller) (a1 a2 a3:ACode) (oA oB:List AOper) (a5 a6 aM aT:ACode) (rs:List (Nat×Option (Option Nat))) (e:Memo) (c k i:Nat):Bool:=
 match runTwo call nc a1 a2 a3 oA oB a5 a6 aM ⟨argsT .nil 0 e.args,⟨.nil,1⟩,[]⟩ with
 | some l=>Nat.ble l.length (c*k)&&allB (tailOk call nc aT rs e.v) ((l.drop (c*i)).take c)
 | none=>false
section
variable {P:Program}
theorem runTwo_ok (hm:P.follows .mixedOrders=true) {call:Caller} {nc:NCaller} (hcall:CallerOk P call) (hnc:NCallerOk P nc) {n:Nat} (hn:n≤bound) {r1 r2 r3 r5 r6 rM rT:Code} {id lb:Nat} {ops:Array Oper} {x y:Nat} (hxy:x≠y) (g:Ground) {p q:Nat→Nat} (hp:IsPerm ops.size p q)
 {a1 a2 a3 a5 a6 aM:ACode} {oA oB:List AOper} (e1:cCode P r1=a1) (e2:cCode P r2=a2) (e3:cCode P r3=a3) (e5:cCode P r5=a5) (e6:cCode P r6=a6) (eM:cCode P rM=aM) (eA:cCode P (.region id (addEdge ops y ⟨x,g⟩) true)=.region true oA) (eB:cCode P (.region id (permA (addEdge ops x ⟨y,g⟩) p q) true)=.region true oB)
 (d1:dstOk n a1=true) (d2:dstOk n a2=true) (d3:dstOk n a3=true) (dA:dstOk n (.region true oA)=true) (dB:dstOk n (.region true oB)=true) (d5:dstOk n a5=true) (d6:dstOk n a6=true) (dM:dstOk n aM=true) {s:RS} {outs:List (REnd×RS)} (ht:TOk n s.t) (h:runTwo call nc a1 a2 a3 oA oB a5 a6 aM s=some outs) {Q:Exit→ASt→Prop}
 (hQ:∀ o,o∈outs→TOk n o.2.t→o.1=.normal∧AWp P rT (noGotoA Q) (o.2.st n)):AWp P (.seq r1 (.scope (.seq r2 (.seq r3 (.seq (.region id ops true) (.seq r5 (.seq r6 (.seq (.label lb) (.seq rM rT))))))))) Q (s.st n):=by
 unfold runTwo at h
 split at h<;>first|(cases h; done)|skip
 rename_i s1 hs1
 split at h<;>first|(cases h; done)|skip
 rename_i s2 hs2
 split at h<;>first|(cases h; done)|skip
 rename_i s3 hs3
 split at h<;>first|(cases h; done)|skip
 rename_i sA hsA
 split at h<;>first|(cases h; done)|skip
 rename_i sB hsB
 split at h<;>first|(cases h; done)|skip
 rename_i xA hxA
 split at h<;>first|(cases h; done)|skip
 rename_i xB hxB
 injection h with h
 subst h
 subst e1; subst e2; subst e3; subst e5; subst e6; subst eM
 obtain⟨t1,w1⟩:=runCN_ok hm hcall hnc hn 1000 r1 s _ ht d1 hs1
 have ht1:=t1 _ List.mem_cons_self
 obtain⟨t2,w2⟩:=runCN_ok hm hcall hnc hn 1000 r2 s1 _ ht1 d2 hs2
 have ht2:=t2 _ List.mem_cons_self
 obtain⟨t3,w3⟩:=runCN_ok hm hcall hnc hn 1000 r3 s2 _ ht2 d3 hs3
 have ht3:=t3 _ List.mem_cons_self
 obtain⟨gA,kA⟩:=runD_ok hcall hn oA [] ⟨s3.t,⟨s3.m.tr,s3.m.next+oA.length⟩,[]⟩ sA ht3 (by show s3.m.next≤s3.m.next+oA.length; omega) dA hsA
 obtain⟨gB,kB⟩:=runD_ok hcall hn oB [] ⟨s3.t,⟨s3.m.tr,s3.m.next+oB.length⟩,[]⟩ sB ht3 (by show s3.m.next≤s3.m.next+oB.length; omega) dB hsB
 have one:∀ {s':RS} {Q':Exit→ASt→Prop},Q' .normal (s'.st n)→allR n Q' [(REnd.normal,s')]:=fun hh o ho=>by
  simp only[List.mem_singleton]at ho
  subst ho
  exact hh
 have skip:∀ {s':RS} {Q':Exit→ASt→Prop},TOk n s'.t→Q' .normal (s'.st n)→AWp P (.label lb) Q' (s'.st n):=fun {s'} {Q'} ht' hh=>
  (runCN_ok hm hcall hnc hn 1000 (.label lb) s' [(.normal,s')] ht' rfl rfl).2 Q' (one hh)
 have mid:∀ {s':RS} {l:List (REnd×RS)},TOk n s'.t→runMid call nc (cCode P r5) (cCode P r6) (cCode P rM) s'=some l→(∀ o,o∈l→o∈xA++xB)→AWp P (.seq r5 (.seq r6 (.seq (.label lb) (.seq rM rT)))) (noGotoA Q) (s'.st n):=by
  intro s' l ht' hl hsub
  unfold runMid at hl
  split at hl<;>first|(cases hl; done)|skip
  rename_i s5 hs5
  split at hl<;>first|(cases hl; done)|skip
  rename_i s6 hs6
  obtain⟨t5,w5⟩:=runCN_ok hm hcall hnc hn 1000 r5 s' _ ht' d5 hs5
  have ht5:=t5 _ List.mem_cons_self
  obtain⟨t6,w6⟩:=runCN_ok hm hcall hnc hn 1000 r6 s5 _ ht5 d6 hs6
  have ht6:=t6 _ List.mem_cons_self
  obtain⟨tM,wM⟩:=runCN_ok hm hcall hnc hn 1000 rM s6 _ ht6 dM hl
  refine awp_seq (w5 _ (one ?_))
  refine awp_seq (w6 _ (one ?_))
  refine awp_seq (skip ht6 ?_)
  refine awp_seq (wM _ fun o ho=>?_)
  obtain⟨h1,h2⟩:=hQ o (hsub o ho) (tM o ho)
  rw[h1]
  exact h2
 refine awp_seq (w1 _ (one ?_))
 refine awp_scope ?_
 refine awp_seq (w2 _ (one ?_))
 refine awp_seq (w3 _ (one ?_))
 refine awp_seq (region_two hm x y hxy g p q hp ?_ ?_)
 ·rw[eA]
  exact kA _ (mid gA.t hxA fun o ho=>List.mem_append_left _ ho)
 ·rw[eB]
  exact kB _ (mid gB.t hxB fun o ho=>List.mem_append_right _ ho)
theorem acalls_one {g:FuncId} {fn:Func} {af:AFn} {args:List AVal} {m:TM} {v:AVal} {c:Code} (hf1:P.funcs[g]? = some fn) (hf2:cFn P fn=some af) (hb:af.ntmps≤bound) (hl:args.length≤af.ntmps) (hbd0:fn.body=some c)
 (h2:∀ Q:Exit→ASt→Prop,(∀(e:REnd) (s:RS),(match e with | .exit _=>False|_=>True)→TOk af.ntmps s.t→(∃ r,retT s.t s.m af.results=some r∧freezeV s.m.tr.get 1000 r=some v)→Q e.exit' (s.st af.ntmps))→AWp P c Q ((⟨argsT .nil 0 args,m,[]⟩:RS).st af.ntmps)) (id:Nat) :
 ACalls P g args m.mem [id] fun r m''=>∃ s:RS,m''=s.m.mem∧freezeV s.m.tr.get 1000 r=some v:=by
 obtain⟨c',hbd,hbody,hrs,hnt,hname⟩:=cFn_spec hf2
 rw[hbd0]at hbd
 injection hbd with hbd
 subst hbd
 obtain⟨a1,a2⟩:=argsT_ok hb hl
 refine acalls_awp (c:=c) (rs:=af.results) hf1 hbd0 hrs hname ?_
 rw[← hnt,← a2]
 refine h2 _ fun e s he ht hr=>?_
 obtain⟨r,h1,h3⟩:=hr
 have hrA:retA (s.st af.ntmps).t (s.st af.ntmps).m af.results=some r:=by
  show retA (toL af.ntmps s.t) s.m.mem af.results=some r
  rw[retT_eq ht]
  exact h1
 cases e with
 | normal=>show (match retA (s.st af.ntmps).t (s.st af.ntmps).m af.results with|some r=>_|none=>False); rw[hrA]; exact⟨s,rfl,h3⟩
 | ret=>show (match retA (s.st af.ntmps).t (s.st af.ntmps).m af.results with|some r=>_|none=>False); rw[hrA]; exact⟨s,rfl,h3⟩
 | exit i=>exact he.elim
theorem take_drop_mem {α:Type} {l:List α} {c k:Nat} (hl:l.length≤c*k) {x:α} (hx:x∈l):∃ i,i<k∧x∈(l.drop (c*i)).take c:=by
 obtain⟨j,hj,rfl⟩:=List.getElem_of_mem hx
 have hc:0<c:=by
  rcases Nat.eq_zero_or_pos c with h|h
  ·subst h; simp at hl; rw[hl]at hj; simp at hj
  ·exact h
 refine⟨j / c,Nat.div_lt_of_lt_mul (by omega),?_⟩
 have h1:c*(j / c)+j % c=j:=Nat.div_add_mod j c
 have h2:=Nat.mod_lt j hc
 have:((l.drop (c*(j / c))).take c)[j % c]? = some l[j]:=by
  rw[List.getElem?_take,if_pos h2,List.getElem?_drop,h1,List.getElem?_eq_getElem hj]
 exact List.mem_of_getElem? this
theorem memo_two (hm:P.follows .mixedOrders=true) {call:Caller} {nc:NCaller} (hcall:CallerOk P call) (hnc:NCallerOk P nc) {e:Memo} {fn:Func} {af:AFn} (hf1:P.funcs[e.g]? = some fn) (hf2:cFn P fn=some af) (hb:Nat.ble af.ntmps bound=true) (hl:Nat.ble e.args.length af.ntmps=true)
 {r1 r2 r3 r5 r6 rM rT:Code} {id lb:Nat} {ops:Array Oper} (hbd:fn.body=some (.seq r1 (.scope (.seq r2 (.seq r3 (.seq (.region id ops true) (.seq r5 (.seq r6 (.seq (.label lb) (.seq rM rT)))))))))) {x y:Nat} (hxy:x≠y) (g:Ground) {p q:Nat→Nat} (hp:IsPerm ops.size p q)
 {a1 a2 a3 a5 a6 aM aT:ACode} {oA oB:List AOper} (e1:cCode P r1=a1) (e2:cCode P r2=a2) (e3:cCode P r3=a3) (e5:cCode P r5=a5) (e6:cCode P r6=a6) (eM:cCode P rM=aM) (eT:cCode P rT=aT) (eA:cCode P (.region id (addEdge ops y ⟨x,g⟩) true)=.region true oA) (eB:cCode P (.region id (permA (addEdge ops x ⟨y,g⟩) p q) true)=.region true oB)
 (d1:dstOk af.ntmps a1=true) (d2:dstOk af.ntmps a2=true) (d3:dstOk af.ntmps a3=true) (dA:dstOk af.ntmps (.region true oA)=true) (dB:dstOk af.ntmps (.region true oB)=true) (d5:dstOk af.ntmps a5=true) (d6:dstOk af.ntmps a6=true) (dM:dstOk af.ntmps aM=true) (dT:dstOk af.ntmps aT=true)
 (hcl:(closedL e.args&&e.v.closed)=true) (c k:Nat) (hk:0<k) (h:∀ i,i<k→chunkOk call nc a1 a2 a3 oA oB a5 a6 aM aT af.results e c k i=true):e.Ok P:=by
 intro m av
 simp only[Bool.and_eq_true]at hcl
 have hb':af.ntmps≤bound:=ble_true hb
 have hl':e.args.length≤af.ntmps:=ble_true hl
 refine pure_frozen hcl.1 hcl.2 (m0:=(⟨.nil,1⟩:TM).mem) (fun c=>rfl) (Nat.lt_succ_self 0) (acalls_one (v:=e.v) hf1 hf2 hb' hl' hbd (fun Q hQ=>?_) 0) (fun r m' hk=>?_) m av
 ·cases hr:runTwo call nc a1 a2 a3 oA oB a5 a6 aM ⟨argsT .nil 0 e.args,⟨.nil,1⟩,[]⟩ with
  | none=>
   have:=h 0 hk
   simp[chunkOk,hr]at this
  | some l=>
   refine runTwo_ok hm hcall hnc hb' hxy g hp e1 e2 e3 e5 e6 eM eA eB d1 d2 d3 dA dB d5 d6 dM (argsT_ok hb' hl').1 hr fun o ho hto=>?_
   have hlen:l.length≤c*k:=by
    have:=h 0 hk
    simp only[chunkOk,hr,Bool.and_eq_true]at this
    exact ble_true this.1
   obtain⟨i,hi,hm'⟩:=take_drop_mem hlen ho
   have hc:=h i hi
   simp only[chunkOk,hr,Bool.and_eq_true]at hc
   have ht:=allB_spec hc.2 o hm'
   unfold tailOk at ht
   split at ht<;>first|(cases ht; done)|skip
   rename_i hn
   refine⟨hn,?_⟩
   split at ht<;>first|(cases ht; done)|skip
   rename_i l' hl'
   split at ht<;>first|(cases ht; done)|skip
   rename_i outs hout
   subst eT
   obtain⟨tT,wT⟩:=runCN_ok hm hcall hnc hb' 1000 rT o.2 _ hto dT hl'
   refine wT _ fun es hes=>?_
   obtain⟨a',g2,g3⟩:=appO_mem hout es hes
   have fin:(match retT es.2.t es.2.m af.results with|some v=>some [(v,es.2.m)]|none=>none)=some a' → ∃ r,retT es.2.t es.2.m af.results=some r∧freezeV es.2.m.tr.get 1000 r=some e.v:=by
    intro hh
    cases hv:retT es.2.t es.2.m af.results with
    | none=>simp[hv]at hh
    | some v=>
     simp only[hv,Option.some.injEq]at hh
     subst hh
     have:=allB_spec ht _ (g3 _ List.mem_cons_self)
     simp only at this
     split at this
     ·rename_i y hy
      exact⟨v,rfl,by rw[← beqA_eq _ _ this]; exact hy⟩
     ·cases this
   have hq:=hQ es.1 es.2
   cases he:es.1 with
   | normal=>simp only[he]at g2 hq; exact hq trivial (tT es hes) (fin g2)
   | ret=>simp only[he]at g2 hq; exact hq trivial (tT es hes) (fin g2)
   | exit i=>simp only[he]at g2; cases g2
 ·obtain⟨s,rfl,hf⟩:=hk
  exact⟨1000,hf⟩
end
end Go.AE
end
