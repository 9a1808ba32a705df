/- Part 17 of the proof: Kt, AeNh. -/
import Derived.Test.YtipeejpafgnjdaaGreatDoorF12
import Derived.Test.YtipeejpafgnjdaaGreatDoorF15
import Derived.Test.YtipeejpafgnjdaaGreatDoorF16
set_option linter.all false
section
namespace Go.Known
open Go Go.AE Go.Proofs
def tabL:List (Nat×AFn):=[(13,af5),(14,af6),(18,af9),(19,af10),(21,af12),(44,af18),(45,af19),(46,af20),(47,af21),(48,af22),(49,af23),(36,af24),(24,af25),(50,af26),(28,af27),(56,af30),(57,af31),(27,af32),(58,af33),(59,af34),(88,af41),(89,af42),(90,af43),(92,af45),(93,af46),(94,af47),(95,af48),(63,af49),(78,af50),(65,af51),(64,af52),(96,af53),(68,af54),(70,af55),(71,af56),(97,af57),(98,af58),(73,af59),(69,af62),(107,af63),(30,af64),(108,af65),(105,af68),(136,af71),(137,af72),(141,af76),(142,af77),(143,af78),(144,af79),(145,af80),(146,af81),(109,af82),(110,af83),(111,af84),(126,af85),(127,af86),(128,af87),(115,af88),(112,af89),(75,af90),(147,af93),(148,af94),(149,af95),(150,af96),(151,af97),(152,af98),(153,af99),(154,af100),(155,af101),(156,af102),(118,af103),(119,af104),(178,af105),(74,af109),(183,af110),(184,af111),(60,af114),(106,af115),(187,af116),(188,af117),(162,af118),(163,af119),(164,af120),(165,af121),(122,af124),(189,af125),(190,af126),(167,af131),(168,af132),(169,af133),(170,af134),(171,af135),(204,af136),(205,af137),(72,af139),(120,af140),(121,af141),(207,af142),(212,af147),(196,af150),(197,af151),(173,af153),(174,af154),(215,af155),(224,af164),(198,af166),(199,af167),(200,af168),(117,af169),(172,af170),(201,af176),(226,af183),(227,af186),(238,af188)]
theorem tabL_ok:AllT Tryz.prog tabL:=⟨gd5,gd6,gd9,gd10,gd12,gd18,gd19,gd20,gd21,gd22,gd23,gd24,gd25,gd26,gd27,gd30,gd31,gd32,gd33,gd34,gd41,gd42,gd43,gd45,gd46,gd47,gd48,gd49,gd50,gd51,gd52,gd53,gd54,gd55,gd56,gd57,gd58,gd59,gd62,gd63,gd64,gd65,gd68,gd71,gd72,gd76,gd77,gd78,gd79,gd80,gd81,gd82,gd83,gd84,gd85,gd86,gd87,gd88,gd89,gd90,gd93,gd94,gd95,gd96,gd97,gd98,gd99,gd100,gd101,gd102,gd103,gd104,gd105,gd109,gd110,gd111,gd114,gd115,gd116,gd117,gd118,gd119,gd120,gd121,gd124,gd125,gd126,gd131,gd132,gd133,gd134,gd135,gd136,gd137,gd139,gd140,gd141,gd142,gd147,gd150,gd151,gd153,gd154,gd155,gd164,gd166,gd167,gd168,gd169,gd170,gd176,gd183,gd186,gd188,trivial⟩
def tabT:Tr AFn:=(.node (.node (.node (.node (.node (.node (.node (.node .nil (some af86) .nil) (some af49) .nil) none (.node .nil (some af48) .nil)) none (.node (.node (.node .nil (some af78) .nil) none (.node .nil (some af142) .nil)) (some af21) (.node .nil (some af84) .nil))) none (.node (.node (.node .nil (some af56) (.node .nil (some af167) .nil)) none (.node (.node .nil (some af131) .nil) none .nil)) none (.node (.node (.node .nil (some af97) .nil) none (.node .nil (some af155) .nil)) none (.node (.node .nil (some af110) .nil) (some af104) .nil)))) none (.node (.node (.node .nil none (.node (.node .nil (some af119) .nil) none (.node .nil (some af186) .nil))) (some af10) (.node (.node (.node .nil (some af93) .nil) none .nil) none (.node .nil (some af88) .nil))) none (.node (.node (.node .nil (some af90) .nil) none (.node (.node .nil (some af135) .nil) (some af63) .nil)) (some af32) (.node (.node (.node .nil (some af101) .nil) none .nil) (some af34) (.node (.node .nil (some af116) .nil) none .nil))))) none (.node (.node (.node (.node (.node .nil (some af51) .nil) none (.node .nil (some af57) .nil)) none (.node (.node (.node .nil (some af80) .nil) none .nil) (some af23) .nil)) none (.node (.node (.node (.node .nil (some af72) .nil) (some af59) (.node .nil (some af176) .nil)) none (.node (.node .nil (some af133) .nil) (some af68) .nil)) none (.node (.node (.node .nil (some af99) .nil) (some af42) .nil) (some af31) (.node .nil (some af141) .nil)))) none (.node (.node (.node (.node .nil (some af62) (.node .nil (some af151) .nil)) none (.node (.node .nil (some af121) .nil) none .nil)) (some af12) (.node (.node (.node .nil (some af95) .nil) none .nil) none (.node .nil (some af169) .nil))) (some af5) (.node (.node (.node (.node .nil (some af76) .nil) none (.node .nil (some af137) .nil)) (some af19) (.node (.node .nil (some af153) .nil) (some af82) .nil)) none (.node (.node .nil (some af46) .nil) none (.node (.node .nil (some af125) .nil) none .nil)))))) none (.node (.node (.node (.node (.node (.node (.node .nil (some af87) .nil) (some af52) .nil) none (.node .nil (some af53) (.node .nil (some af164) .nil))) none (.node (.node (.node .nil (some af79) .nil) none .nil) (some af22) (.node .nil (some af89) .nil))) none (.node (.node (.node (.node .nil (some af71) .nil) (some af139) (.node .nil (some af168) .nil)) none (.node (.node .nil (some af132) .nil) none .nil)) (some af25) (.node (.node (.node .nil (some af98) .nil) (some af41) .nil) (some af30) (.node (.node .nil (some af111) .nil) (some af140) .nil)))) none (.node (.node (.node (.node .nil (some af54) (.node .nil (some af150) .nil)) (some af24) (.node (.node .nil (some af120) .nil) none .nil)) none (.node (.node (.node .nil (some af94) .nil) none (.node .nil (some af147) .nil)) none .nil)) none (.node (.node (.node .nil none (.node .nil (some af136) .nil)) (some af18) (.node (.node .nil (some af170) .nil) (some af65) .nil)) (some af27) (.node (.node (.node .nil (some af102) .nil) (some af45) .nil) (some af114) (.node (.node .nil (some af117) .nil) none .nil))))) none (.node (.node (.node (.node .nil none (.node (.node .nil (some af118) .nil) (some af58) (.node .nil (some af183) .nil))) (some af9) (.node (.node (.node .nil (some af81) .nil) none .nil) (some af26) (.node (.node .nil (some af105) .nil) none .nil))) none (.node (.node (.node .nil (some af109) .nil) none (.node (.node .nil (some af134) .nil) (some af115) .nil)) none (.node (.node (.node .nil (some af100) .nil) (some af43) .nil) (some af33) (.node .nil (some af124) .nil)))) none (.node (.node (.node (.node .nil (some af55) (.node .nil (some af166) .nil)) none .nil) none (.node (.node (.node .nil (some af96) .nil) none .nil) none (.node .nil (some af103) .nil))) (some af6) (.node (.node (.node (.node .nil (some af77) .nil) (some af50) .nil) (some af20) (.node (.node .nil (some af154) .nil) (some af83) (.node .nil (some af188) .nil))) (some af64) (.node (.node .nil (some af47) .nil) none (.node (.node .nil (some af126) .nil) (some af85) .nil)))))))
theorem tabT_eq:tabT=treeOf tabL:=by kernel_rfl
theorem tab_ok:TabOk Tryz.prog (tabOf tabT):=tabOf_ok tabL_ok tabT_eq
def ap28:AParts:=⟨19,[(2,none)],[(.region false [⟨(some 1),.box (.tmp 0),none,[]⟩,⟨(some 2),.mov (.const .nilSl),none,[]⟩]),(.region false [⟨(some 3),.alloc [.nilSl],none,[]⟩]),(.seq (.region false [⟨(some 5),.fieldA 1 (.tmp 1),none,[]⟩,⟨(some 6),.load none (.tmp 5),none,[]⟩,⟨(some 7),.lenSl (.tmp 6),none,[]⟩,⟨(some 8),.bin .eql .num (.tmp 7) (.const (.int .i64 0)),none,[]⟩])
 (.cond (.tmp 8) (.seq (.region false [⟨(some 9),.load none (.tmp 3),none,[]⟩,⟨(some 2),.mov (.tmp 9),none,[]⟩])
 .ret)
 .skip))],(.region false [⟨(some 10),.load (some 2) (.tmp 1),none,[]⟩,⟨(some 11),.call (.fn 97) [(.tmp 10)],none,[]⟩,⟨(some 12),.call (.fn 98) [(.tmp 11)],none,[]⟩]),(.tmp 12),[13],(.region false [⟨(some 4),.alloc [(.int .i64 0),(.int .i64 0),(.int .i64 0),(.bool false)],none,[]⟩,⟨none,.store 4 (.tmp 4) (.tmp 13),none,[]⟩]),(.block 1 (.region false [⟨(some 14),.load none (.tmp 3),none,[]⟩,⟨(some 15),.load (some 4) (.tmp 4),none,[]⟩,⟨(some 16),.mkSl 4 1 [(.int .i64 0),(.int .i64 0),(.int .i64 0),(.bool false)] [(0,(.tmp 15))],none,[]⟩,⟨(some 17),.append 4 32 [(.int .i64 0),(.int .i64 0),(.int .i64 0),(.bool false)] (.tmp 14) (.tmp 16),none,[]⟩,⟨none,.store 1 (.tmp 3) (.tmp 17),none,[]⟩])),(.seq (.region false [⟨(some 18),.load none (.tmp 3),none,[]⟩,⟨(some 2),.mov (.tmp 18),none,[]⟩])
 .ret)⟩
theorem cr28:cRange Tryz.prog Tryz.f51=some ap28:=by kernel_rfl
theorem hm:Tryz.prog.follows .mixedOrders=true:=by kernel_rfl
abbrev tab:=tabOf tabT
theorem join_spec:JoinSpec Tryz.prog 91:=
 ⟨⟨_,Tryz.func91,by kernel_rfl,by kernel_rfl⟩,fun bk o c xs sep w h1 h2 h3 h4 h5=>Tryz.strings_Join bk o c xs sep w h1 h2 h3 h4 h5⟩
theorem ov_int:OvSpec Tryz.prog 192:=⟨_,27,4,3,1,Tryz.func192,by kernel_rfl,by kernel_rfl,by kernel_rfl,by kernel_rfl,by kernel_rfl,Tryz.sizeOf3⟩
theorem ov_finger:OvSpec Tryz.prog 176:=⟨_,48,4,68,3,Tryz.func176,by kernel_rfl,by kernel_rfl,by kernel_rfl,by kernel_rfl,by kernel_rfl,Tryz.sizeOf68⟩
def splits:List (Nat×Nat):=[(156,192),(128,176)]
theorem splits_ok:∀ g G,findG g splits=some G→OvSpec Tryz.prog G:=by
 intro g G h
 unfold splits findG at h
 cases h1:Nat.beq 156 g with
 | true=>rw [h1] at h; injection h with h; subst h; exact ov_int
 | false=>
  rw [h1] at h
  simp only [cond_false] at h
  unfold findG at h
  cases h2:Nat.beq 128 g with
  | true=>rw [h2] at h; injection h with h; subst h; exact ov_finger
  | false=>rw [h2] at h; simp [findG] at h
def call1:Caller:=runF tab (joinC 91) 1000
theorem call1_ok:CallerOk Tryz.prog call1:=runF_ok hm tab_ok (joinC_ok join_spec) 1000
def orc2:Caller:=orElse (spliceC tab call1 splits) (joinC 91)
theorem orc2_ok:CallerOk Tryz.prog orc2:=orElse_ok (spliceC_ok hm tab_ok call1_ok splits_ok) (joinC_ok join_spec)
def call2:Caller:=runF tab orc2 1000
theorem call2_ok:CallerOk Tryz.prog call2:=runF_ok hm tab_ok orc2_ok 1000
def orc3:Caller:=orElse (rangeC tab call2 51 ap28) orc2
theorem orc3_ok:CallerOk Tryz.prog orc3:=orElse_ok (rangeC_ok hm tab_ok call2_ok Tryz.func51 cr28 (by kernel_rfl)) orc2_ok
def orcM (l:List Memo):Caller:=orElse (frzC l) orc3
theorem orcM_ok {l:List Memo} (h:Memo.All Tryz.prog l):CallerOk Tryz.prog (orcM l):=orElse_ok (frzC_ok h) orc3_ok
theorem known_of {l:List Memo} (hl:Memo.All Tryz.prog l) (e:Memo)
 (h:(match runM tab (orcM l) e.g e.args with | some r=>beqA r e.v&&(closedL e.args&&e.v.closed) | none=>false)=true):e.Ok Tryz.prog:=
 memo_of hm tab_ok (orcM_ok hl) e h
end Go.Known
end
section
namespace Go.AE
open Go.RowKit
def onlyG (get:Nat→Option ABlk) (S:List Nat) (b:Nat):Option ABlk:=bif memN b S then get b else none
def fzV (get:Nat→Option ABlk) (S:List Nat) (x:AVal):AVal:=
 match freezeV (onlyG get S) 5 x with
 | some y=>y
 | none=>x
theorem freezeS {W:Base} {Φ:Pers} {ρ:Rho} {m:Mem} {w:World} (S:List Nat) (hr:Rel W Φ ρ m w):∃ Φs:Pers,Ext Φ ρ Φs ρ∧(∀ B c,Φs B=some c → ∃ e fz,w.heap[B]? = some (.cells c e fz)) ∧
 (∀ B c,Φs B=some c→W.p B=some c∨W.Free B)∧(∀ b x l,m.get b=some x→ρ b=some l→memN b S=false→Φs l.blk=none) ∧ ∀ x v,R Φ ρ x v→R Φs ρ (fzV m.get S x) v:=by
 have hlv:∀ B,(∃ b l y,memN b S=true∧m.get b=some y∧ρ b=some l∧l.blk=B)→Φ B=none∧W.Free B:=by
  rintro B ⟨b,l,y,_,h1,h2,rfl⟩
  obtain⟨l',o,g1,g2,g3,_⟩:=hr.live b y h1
  rw [h2] at g1; injection g1 with g1; subst g1
  exact⟨g3,g2⟩
 obtain⟨Φs,hy,hn⟩:∃ Φs:Pers,(∀ B,(∃ b l y,memN b S=true∧m.get b=some y∧ρ b=some l∧l.blk=B)→Φs B=match w.heap[B]? with | some (.cells c _ _)=>some c | _=>none) ∧
  ∀ B,¬(∃ b l y,memN b S=true∧m.get b=some y∧ρ b=some l∧l.blk=B)→Φs B=Φ B:=
  ⟨fun B=>@ite _ (∃ b l y,memN b S=true∧m.get b=some y∧ρ b=some l∧l.blk=B) (Classical.propDecidable _) (match w.heap[B]? with | some (.cells c _ _)=>some c | _=>none) (Φ B),
   fun B hL=>by simp only [hL,if_true],fun B hL=>by simp only [hL,if_false]⟩
 have hE:Ext Φ ρ Φs ρ:=⟨fun B c hB=>by
  by_cases hL:∃ b l y,memN b S=true∧m.get b=some y∧ρ b=some l∧l.blk=B
  · rw [(hlv B hL).1] at hB; cases hB
  · rw [hn B hL]; exact hB,fun b l h=>h⟩
 refine⟨Φs,hE,fun B c hB=>?_,fun B c hB=>?_,fun b x l hx hl hS=>?_,fun x v hR=>?_⟩
 · by_cases hL:∃ b l y,memN b S=true∧m.get b=some y∧ρ b=some l∧l.blk=B
   · rw [hy B hL] at hB
     split at hB<;>first | (cases hB; done) | skip
     rename_i c' e fz hw
     injection hB with hB; subst hB
     exact⟨e,fz,hw⟩
   · rw [hn B hL] at hB
     exact hr.pers B c hB
 · by_cases hL:∃ b l y,memN b S=true∧m.get b=some y∧ρ b=some l∧l.blk=B
   · exact .inr (hlv B hL).2
   · rw [hn B hL] at hB
     exact hr.newp B c hB
 · have hL:¬ ∃ b' l' y,memN b' S=true∧m.get b'=some y∧ρ b'=some l'∧l'.blk=l.blk:=by
    rintro⟨b',l',y,h1,h2,h3,h4⟩
    have:=hr.inj b' b y x l' l h2 hx h3 hl h4
    subst this
    rw [h1] at hS; cases hS
   rw [hn _ hL]
   obtain⟨l',o,g1,g2,g3,_⟩:=hr.live b x hx
   rw [hl] at g1; injection g1 with g1; subst g1
   exact g3
 · have hrS:Rel W Φ ρ ⟨onlyG m.get S,m.next⟩ w:=hr.sub ⟨fun b x hx=>by
    unfold onlyG at hx
    cases hS:memN b S with
    | true=>simpa [hS] using hx
    | false=>simp [hS] at hx,Nat.le_refl _⟩
   unfold fzV
   cases hz:freezeV (onlyG m.get S) 5 x with
   | none=>exact hR.ext hE
   | some y=>
    refine freeze_R (m:=⟨onlyG m.get S,m.next⟩) hrS hE (fun b l k els c e fz hg hl hw=>?_) 5 x y v hz hR
    unfold onlyG at hg
    cases hS:memN b S with
    | false=>simp [hS] at hg
    | true=>
     simp [hS] at hg
     rw [hy l.blk ⟨b,l,_,hS,hg,hl,rfl⟩,hw]
def fzLL (get:Nat→Option ABlk) (S:List Nat) (els:List (List AVal)):List (List AVal):=els.map (List.map (fzV get S))
theorem BR.fz {Φ Φs:Pers} {ρ:Rho} {get:Nat→Option ABlk} {S:List Nat} (hf:∀ x v,R Φ ρ x v→R Φs ρ (fzV get S x) v) {k:Nat} {els:List (List AVal)} {l:Loc} {o:Obj} (h:BR Φ ρ (.cells k els) l o):BR Φs ρ (.cells k (fzLL get S els)) l o:=by
 cases h with
 | cells _ _ _ c e hk hn hl hr h1=>
  have hget:∀ (i:Nat) (row:List AVal),(fzLL get S els)[i]? = some row → ∃ row0,els[i]? = some row0∧row=row0.map (fzV get S):=by
   intro i row hi
   rw [fzLL,List.getElem?_map] at hi
   cases h0:els[i]? with
   | none=>rw [h0] at hi; cases hi
   | some r0=>rw [h0] at hi; injection hi with hi; exact⟨r0,rfl,hi.symm⟩
  refine .cells k _ l c e hk hn (by rw [fzLL,List.length_map]; exact hl) ⟨fun i row hi=>?_,fun i row j x hi hj=>?_⟩ h1
  · obtain⟨r0,g1,rfl⟩:=hget i row hi
    rw [List.length_map]; exact hr.1 i r0 g1
  · obtain⟨r0,g1,rfl⟩:=hget i row hi
    rw [List.getElem?_map] at hj
    cases h0:r0[j]? with
    | none=>rw [h0] at hj; cases hj
    | some x0=>
     rw [h0] at hj; injection hj with hj; subst hj
     obtain⟨v,k1,k2,k3⟩:=hr.2 i r0 j x0 g1 h0
     exact⟨v,k1,k2,hf _ _ k3⟩
def SubFB (q:Nat→Nat) (S:List Nat):List (Nat×ABlk)→SMem→Prop
 | [],_=>True
 | (b,x) :: r,m=>(memN (q b) S=false∧(m.get (q b)=some (x.ren q) ∨ ∃ k els,m.get (q b)=some (.cells k els)∧x.ren q=.cells k (fzLL m.get S els)))∧SubFB q S r m
theorem SubFB.get {q:Nat→Nat} {S:List Nat}:∀ {l:List (Nat×ABlk)} {m:SMem},SubFB q S l m → ∀ b x,lookB l b=some x→memN (q b) S=false ∧ ∃ y,m.get (q b)=some y∧(x.ren q=y ∨ ∃ k els,y=.cells k els∧x.ren q=.cells k (fzLL m.get S els))
 | [],m,_,b,x,h=>by simp [lookB] at h
 | (c,y) :: r,m,hs,b,x,h=>by
  simp only [lookB] at h
  split at h
  · rename_i hb; subst hb; injection h with h; subst h
    refine⟨hs.1.1,?_⟩
    rcases hs.1.2 with h1 | ⟨k,els,h1,h2⟩
    · exact⟨_,h1,.inl rfl⟩
    · exact⟨_,h1,.inr ⟨k,els,rfl,h2⟩⟩
  · exact hs.2.get b x h
theorem freezeV_closed {get:Nat→Option ABlk}:∀ (n:Nat) (x y:AVal),x.closed=true→freezeV get n x=some y→y=x:=by
 intro n
 induction n with
 | zero=>intro x y _ h; simp [freezeV] at h
 | succ n ih=>
  have hL:∀ (l:List AVal) (ds:List AVal),closedL l=true→mapO (freezeV get n) l=some ds→ds=l:=by
   intro l
   induction l with
   | nil=>intro ds _ h; simp only [mapO,Option.some.injEq] at h; exact h.symm
   | cons a r ihr=>
    intro ds hc h
    simp only [closedL,Bool.and_eq_true] at hc
    simp only [mapO] at h
    cases h1:freezeV get n a with
    | none=>simp [h1] at h
    | some b=>
     cases h2:mapO (freezeV get n) r with
     | none=>simp [h1,h2] at h
     | some bs=>
      simp only [h1,h2,Option.some.injEq] at h
      subst h
      rw [ih a b hc.1 h1,ihr bs hc.2 h2]
  have hLL:∀ (l ds:List (List AVal)),closedLL l=true→mapO (mapO (freezeV get n)) l=some ds→ds=l:=by
   intro l
   induction l with
   | nil=>intro ds _ h; simp only [mapO,Option.some.injEq] at h; exact h.symm
   | cons a r ihr=>
    intro ds hc h
    simp only [closedLL,Bool.and_eq_true] at hc
    simp only [mapO] at h
    cases h1:mapO (freezeV get n) a with
    | none=>simp [h1] at h
    | some b=>
     cases h2:mapO (mapO (freezeV get n)) r with
     | none=>simp [h1,h2] at h
     | some bs=>
      simp only [h1,h2,Option.some.injEq] at h
      subst h
      rw [hL a b hc.1 h1,ihr bs hc.2 h2]
  intro x y hc h
  cases x<;>simp only [freezeV] at h<;>first | (simp only [Option.some.injEq] at h; exact h.symm) | (cases h; done) | (cases hc; done) | skip
  · rename_i els
    cases hm:mapO (mapO (freezeV get n)) els with
    | none=>simp [hm] at h
    | some ds=>simp only [hm,Option.some.injEq] at h; subst h; rw [hLL els ds hc hm]
  · rename_i cs
    cases hm:mapO (freezeV get n) cs with
    | none=>simp [hm] at h
    | some ds=>simp only [hm,Option.some.injEq] at h; subst h; rw [hL cs ds hc hm]
  · rename_i cs
    cases hm:mapO (freezeV get n) cs with
    | none=>simp [hm] at h
    | some ds=>simp only [hm,Option.some.injEq] at h; subst h; rw [hL cs ds hc hm]
theorem fzV_closed {get:Nat→Option ABlk} {S:List Nat} {x:AVal} (h:x.closed=true):fzV get S x=x:=by
 unfold fzV
 cases hz:freezeV (onlyG get S) 5 x with
 | none=>rfl
 | some y=>exact freezeV_closed 5 x y h hz
theorem fzL_closed {get:Nat→Option ABlk} {S:List Nat}:∀ {l:List AVal},closedL l=true→l.map (fzV get S)=l
 | [],_=>rfl
 | x :: r,h=>by
  simp only [closedL,Bool.and_eq_true] at h
  rw [List.map_cons,fzV_closed h.1,fzL_closed h.2]
theorem fzLL_closed {get:Nat→Option ABlk} {S:List Nat}:∀ {l:List (List AVal)},closedLL l=true→fzLL get S l=l
 | [],_=>rfl
 | x :: r,h=>by
  simp only [closedLL,Bool.and_eq_true] at h
  have:=fzLL_closed (get:=get) (S:=S) h.2
  unfold fzLL at this ⊢
  rw [List.map_cons,fzL_closed h.1,this]
theorem mapO_closed {get:Nat→Option ABlk} {n:Nat}:∀ {l:List (List AVal)},(∀ row,row∈l → ∀ x,x∈row→freezeV get n x=some x)→mapO (mapO (freezeV get n)) l=some l
 | [],_=>rfl
 | a :: r,h=>by
  have h1:mapO (freezeV get n) a=some a:=by
   have ha:=h a (List.mem_cons_self ..)
   clear h
   induction a with
   | nil=>rfl
   | cons x t ih=>
    simp only [mapO]
    rw [ha x (List.mem_cons_self ..),ih fun y hy=>ha y (List.mem_cons_of_mem _ hy)]
  simp only [mapO]
  rw [h1,mapO_closed fun row hr=>h row (List.mem_cons_of_mem _ hr)]
theorem fzV_sl {get:Nat→Option ABlk} {S:List Nat} {b k len:Nat} {els:List (List AVal)} (hb:memN b S=true) (hg:get b=some (.cells k els)) (hl:els.length=len) (hs:∀ row,row∈els → ∀ x,x∈row→freezeV (onlyG get S) 4 x=some x):fzV get S (.sl b 0 len)=.imm els:=by
 have h:onlyG get S b=some (.cells k els):=by unfold onlyG; rw [hb]; exact hg
 subst hl
 have h1:Nat.ble (0+els.length) els.length=true:=by rw [Nat.zero_add]; exact Nat.ble_self_eq_true _
 unfold fzV
 rw [freezeV]
 simp only [h,h1,cond_true,List.drop_zero,List.take_length,mapO_closed hs]
end Go.AE
end
