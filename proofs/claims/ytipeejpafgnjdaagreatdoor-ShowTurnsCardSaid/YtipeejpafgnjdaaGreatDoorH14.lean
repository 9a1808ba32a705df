/- Part 14 of the proof: Kt, AeNh. -/
import Derived.Test.YtipeejpafgnjdaaGreatDoorH11
import Derived.Test.YtipeejpafgnjdaaGreatDoorH12
set_option linter.all false
section
namespace Go.Known
open Go Go.AE Go.Proofs
def tabL:List (Nat×AFn):=[(13,af5),(14,af6),(18,af9),(19,af10),(21,af12),(44,af18),(45,af19),(46,af20),(47,af21),(48,af22),(49,af23),(36,af24),(24,af25),(50,af26),(28,af27),(56,af30),(57,af31),(27,af32),(58,af33),(59,af34),(88,af41),(89,af42),(90,af43),(92,af45),(93,af46),(94,af47),(95,af48),(63,af49),(78,af50),(65,af51),(64,af52),(96,af53),(68,af54),(70,af55),(71,af56),(97,af57),(98,af58),(73,af59),(69,af62),(107,af63),(30,af64),(108,af65),(105,af68),(136,af71),(137,af72),(141,af76),(142,af77),(143,af78),(144,af79),(145,af80),(146,af81),(109,af82),(110,af83),(111,af84),(126,af85),(127,af86),(128,af87),(115,af88),(112,af89),(75,af90),(147,af93),(148,af94),(149,af95),(150,af96),(151,af97),(152,af98),(153,af99),(154,af100),(155,af101),(156,af102),(118,af103),(119,af104),(178,af105),(74,af109),(183,af110),(184,af111),(60,af114),(106,af115),(187,af116),(188,af117),(162,af118),(163,af119),(164,af120),(165,af121),(122,af124),(189,af125),(190,af126),(167,af131),(168,af132),(169,af133),(170,af134),(171,af135),(204,af136),(205,af137),(72,af139),(120,af140),(121,af141),(207,af142),(212,af147),(196,af150),(197,af151),(173,af153),(174,af154),(215,af155),(224,af164),(198,af166),(199,af167),(200,af168),(117,af169),(172,af170),(201,af176),(226,af183),(227,af186),(238,af188)]
theorem Z0h:AllT Tryz.prog tabL:=⟨gd5,gd6,gd9,gd10,gd12,gd18,gd19,gd20,gd21,gd22,gd23,gd24,gd25,gd26,gd27,gd30,gd31,gd32,gd33,gd34,gd41,gd42,gd43,gd45,gd46,gd47,gd48,gd49,gd50,gd51,gd52,gd53,gd54,gd55,gd56,gd57,gd58,gd59,gd62,gd63,gd64,gd65,gd68,gd71,gd72,gd76,gd77,gd78,gd79,gd80,gd81,gd82,gd83,gd84,gd85,gd86,gd87,gd88,gd89,gd90,gd93,gd94,gd95,gd96,gd97,gd98,gd99,Z0u,Z6m,Z8x,Z8g,Ydq,Ya8,Yae,Z3x,Z5h,Z6k,Yd5,Z42,Z0c,Z27,Z6e,Z5o,Ycp,Z8n,Z2y,Z1x,Yav,Z2v,Z3o,Z47,Z1p,Z7k,Yd6,Z2p,Z8w,Z23,Ye1,Z5y,Z4y,Z9c,Ycj,Ydz,Z7d,Yc3,Z43,Yer,Ya7,Z5z,Z7c,Z44,Z5g,Z5t,Z4l,trivial⟩
def tabT:Tr AFn:=(.node (.node (.node (.node (.node (.node (.node (.node .nil (some af86) .nil) (some af49) .nil) none (.node .nil (some af48) .nil)) none (.node (.node (.node .nil (some af78) .nil) none (.node .nil (some af142) .nil)) (some af21) (.node .nil (some af84) .nil))) none (.node (.node (.node .nil (some af56) (.node .nil (some af167) .nil)) none (.node (.node .nil (some af131) .nil) none .nil)) none (.node (.node (.node .nil (some af97) .nil) none (.node .nil (some af155) .nil)) none (.node (.node .nil (some af110) .nil) (some af104) .nil)))) none (.node (.node (.node .nil none (.node (.node .nil (some af119) .nil) none (.node .nil (some af186) .nil))) (some af10) (.node (.node (.node .nil (some af93) .nil) none .nil) none (.node .nil (some af88) .nil))) none (.node (.node (.node .nil (some af90) .nil) none (.node (.node .nil (some af135) .nil) (some af63) .nil)) (some af32) (.node (.node (.node .nil (some af101) .nil) none .nil) (some af34) (.node (.node .nil (some af116) .nil) none .nil))))) none (.node (.node (.node (.node (.node .nil (some af51) .nil) none (.node .nil (some af57) .nil)) none (.node (.node (.node .nil (some af80) .nil) none .nil) (some af23) .nil)) none (.node (.node (.node (.node .nil (some af72) .nil) (some af59) (.node .nil (some af176) .nil)) none (.node (.node .nil (some af133) .nil) (some af68) .nil)) none (.node (.node (.node .nil (some af99) .nil) (some af42) .nil) (some af31) (.node .nil (some af141) .nil)))) none (.node (.node (.node (.node .nil (some af62) (.node .nil (some af151) .nil)) none (.node (.node .nil (some af121) .nil) none .nil)) (some af12) (.node (.node (.node .nil (some af95) .nil) none .nil) none (.node .nil (some af169) .nil))) (some af5) (.node (.node (.node (.node .nil (some af76) .nil) none (.node .nil (some af137) .nil)) (some af19) (.node (.node .nil (some af153) .nil) (some af82) .nil)) none (.node (.node .nil (some af46) .nil) none (.node (.node .nil (some af125) .nil) none .nil)))))) none (.node (.node (.node (.node (.node (.node (.node .nil (some af87) .nil) (some af52) .nil) none (.node .nil (some af53) (.node .nil (some af164) .nil))) none (.node (.node (.node .nil (some af79) .nil) none .nil) (some af22) (.node .nil (some af89) .nil))) none (.node (.node (.node (.node .nil (some af71) .nil) (some af139) (.node .nil (some af168) .nil)) none (.node (.node .nil (some af132) .nil) none .nil)) (some af25) (.node (.node (.node .nil (some af98) .nil) (some af41) .nil) (some af30) (.node (.node .nil (some af111) .nil) (some af140) .nil)))) none (.node (.node (.node (.node .nil (some af54) (.node .nil (some af150) .nil)) (some af24) (.node (.node .nil (some af120) .nil) none .nil)) none (.node (.node (.node .nil (some af94) .nil) none (.node .nil (some af147) .nil)) none .nil)) none (.node (.node (.node .nil none (.node .nil (some af136) .nil)) (some af18) (.node (.node .nil (some af170) .nil) (some af65) .nil)) (some af27) (.node (.node (.node .nil (some af102) .nil) (some af45) .nil) (some af114) (.node (.node .nil (some af117) .nil) none .nil))))) none (.node (.node (.node (.node .nil none (.node (.node .nil (some af118) .nil) (some af58) (.node .nil (some af183) .nil))) (some af9) (.node (.node (.node .nil (some af81) .nil) none .nil) (some af26) (.node (.node .nil (some af105) .nil) none .nil))) none (.node (.node (.node .nil (some af109) .nil) none (.node (.node .nil (some af134) .nil) (some af115) .nil)) none (.node (.node (.node .nil (some af100) .nil) (some af43) .nil) (some af33) (.node .nil (some af124) .nil)))) none (.node (.node (.node (.node .nil (some af55) (.node .nil (some af166) .nil)) none .nil) none (.node (.node (.node .nil (some af96) .nil) none .nil) none (.node .nil (some af103) .nil))) (some af6) (.node (.node (.node (.node .nil (some af77) .nil) (some af50) .nil) (some af20) (.node (.node .nil (some af154) .nil) (some af83) (.node .nil (some af188) .nil))) (some af64) (.node (.node .nil (some af47) .nil) none (.node (.node .nil (some af126) .nil) (some af85) .nil)))))))
theorem Z3v:tabT=Zhk tabL:=by kernel_rfl
theorem Zjr:Zd8 Tryz.prog (Zpw tabT):=Z7i Z0h Z3v
def ap28:AParts:=⟨19,[(2,none)],[(.region false [⟨(some 1),.box (.tmp 0),none,[]⟩,⟨(some 2),.mov (.const .nilSl),none,[]⟩]),(.region false [⟨(some 3),.alloc [.nilSl],none,[]⟩]),(.seq (.region false [⟨(some 5),.fieldA 1 (.tmp 1),none,[]⟩,⟨(some 6),.load none (.tmp 5),none,[]⟩,⟨(some 7),.lenSl (.tmp 6),none,[]⟩,⟨(some 8),.bin .eql .num (.tmp 7) (.const (.int .i64 0)),none,[]⟩])
 (.cond (.tmp 8) (.seq (.region false [⟨(some 9),.load none (.tmp 3),none,[]⟩,⟨(some 2),.mov (.tmp 9),none,[]⟩])
 .ret)
 .skip))],(.region false [⟨(some 10),.load (some 2) (.tmp 1),none,[]⟩,⟨(some 11),.call (.fn 97) [(.tmp 10)],none,[]⟩,⟨(some 12),.call (.fn 98) [(.tmp 11)],none,[]⟩]),(.tmp 12),[13],(.region false [⟨(some 4),.alloc [(.int .i64 0),(.int .i64 0),(.int .i64 0),(.bool false)],none,[]⟩,⟨none,.store 4 (.tmp 4) (.tmp 13),none,[]⟩]),(.block 1 (.region false [⟨(some 14),.load none (.tmp 3),none,[]⟩,⟨(some 15),.load (some 4) (.tmp 4),none,[]⟩,⟨(some 16),.mkSl 4 1 [(.int .i64 0),(.int .i64 0),(.int .i64 0),(.bool false)] [(0,(.tmp 15))],none,[]⟩,⟨(some 17),.append 4 32 [(.int .i64 0),(.int .i64 0),(.int .i64 0),(.bool false)] (.tmp 14) (.tmp 16),none,[]⟩,⟨none,.store 1 (.tmp 3) (.tmp 17),none,[]⟩])),(.seq (.region false [⟨(some 18),.load none (.tmp 3),none,[]⟩,⟨(some 2),.mov (.tmp 18),none,[]⟩])
 .ret)⟩
theorem cr28:Zgd Tryz.prog Tryz.f51=some ap28:=by kernel_rfl
theorem hm:Tryz.prog.follows .mixedOrders=true:=by kernel_rfl
abbrev tab:=Zpw tabT
theorem Zuc:Zvc Tryz.prog 91:=
 ⟨⟨_,Tryz.func91,by kernel_rfl,by kernel_rfl⟩,fun bk o c xs sep w h1 h2 h3 h4 h5=>Tryz.strings_Join bk o c xs sep w h1 h2 h3 h4 h5⟩
theorem Zll:Zeq Tryz.prog 192:=⟨_,27,4,3,1,Tryz.func192,by kernel_rfl,by kernel_rfl,by kernel_rfl,by kernel_rfl,by kernel_rfl,Tryz.sizeOf3⟩
theorem Ycy:Zeq Tryz.prog 176:=⟨_,48,4,68,3,Tryz.func176,by kernel_rfl,by kernel_rfl,by kernel_rfl,by kernel_rfl,by kernel_rfl,Tryz.sizeOf68⟩
def Zqr:List (Nat×Nat):=[(156,192),(128,176)]
theorem Z74:∀ g G,Zfg g Zqr=some G→Zeq Tryz.prog G:=by
 intro g G h;unfold Zqr Zfg at h;cases h1:Nat.beq 156 g with
 | true=>rw[h1]at h; injection h with h; subst h; exact Zll
 | false=>
  rw[h1]at h;simp only[cond_false]at h;unfold Zfg at h;cases h2:Nat.beq 128 g with
  | true=>rw[h2]at h; injection h with h; subst h; exact Ycy
  | false=>rw[h2]at h; simp[Zfg]at h
def call1:Caller:=runF tab (Zlj 91) 1000
theorem Z0p:P5 Tryz.prog call1:=Zk9 hm Zjr (Zr7 Zuc) 1000
def orc2:Caller:=Zhx (Zqi tab call1 Zqr) (Zlj 91)
theorem Zrx:P5 Tryz.prog orc2:=Zql (Yev hm Zjr Z0p Z74) (Zr7 Zuc)
def call2:Caller:=runF tab orc2 1000
theorem Ydp:P5 Tryz.prog call2:=Zk9 hm Zjr Zrx 1000
def orc3:Caller:=Zhx (Zrl tab call2 51 ap28) orc2
theorem Z10:P5 Tryz.prog orc3:=Zql (Yce hm Zjr Ydp Tryz.func51 cr28 (by kernel_rfl)) Zrx
def orcM(l:List Memo):Caller:=Zhx (frzC l) orc3
theorem Z8l{l:List Memo}(h:Memo.All Tryz.prog l):P5 Tryz.prog (orcM l):=Zql (Yds h) Z10
theorem S9{l:List Memo}(hl:Memo.All Tryz.prog l)(e:Memo)
 (h:(match runM tab (orcM l) e.g e.args with|some r=>M3 r e.v&&(Y0 e.args&&e.v.closed)|none=>false)=true):e.Ok Tryz.prog:=
 Z9o hm Zjr (Z8l hl) e h
end Go.Known
end
section
namespace Go.AE
open Go.RowKit
def Za0(get:Nat→Option ABlk)(S:List Nat)(b:Nat):Option ABlk:=bif V3 b S then get b else none
def fzV(get:Nat→Option ABlk)(S:List Nat)(x:AVal):AVal:=
 match X0 (Za0 get S) 5 x with
 | some y=>y
 | none=>x
theorem Zrw{W:Base}{Φ:Pers}{ρ:Rho}{m:Mem}{w:World}(S:List Nat)(hr:Rel W Φ ρ m w):∃ Φs:Pers,Ext Φ ρ Φs ρ∧(∀ B c,Φs B=some c → ∃ e fz,w.heap[B]? = some (.cells c e fz)) ∧
 (∀ B c,Φs B=some c→W.p B=some c∨W.Free B)∧(∀ b x l,m.get b=some x→ρ b=some l→V3 b S=false→Φs l.blk=none) ∧ ∀ x v,R Φ ρ x v→R Φs ρ (fzV m.get S x) v:=by
 have hlv:∀ B,(∃ b l y,V3 b S=true∧m.get b=some y∧ρ b=some l∧l.blk=B)→Φ B=none∧W.Free B:=by
  rintro B ⟨b,l,y,_,h1,h2,rfl⟩;obtain⟨l',o,g1,g2,g3,_⟩:=hr.live b y h1;rw[h2]at g1; injection g1 with g1; subst g1
  exact⟨g3,g2⟩
 obtain⟨Φs,hy,hn⟩:∃ Φs:Pers,(∀ B,(∃ b l y,V3 b S=true∧m.get b=some y∧ρ b=some l∧l.blk=B)→Φs B=match w.heap[B]? with|some (.cells c _ _)=>some c|_=>none) ∧
  ∀ B,¬(∃ b l y,V3 b S=true∧m.get b=some y∧ρ b=some l∧l.blk=B)→Φs B=Φ B:=
  ⟨fun B=>@ite _ (∃ b l y,V3 b S=true∧m.get b=some y∧ρ b=some l∧l.blk=B) (Classical.propDecidable _) (match w.heap[B]? with|some (.cells c _ _)=>some c|_=>none) (Φ B),
   fun B hL=>by simp only[hL,if_true],fun B hL=>by simp only[hL,if_false]⟩
 have hE:Ext Φ ρ Φs ρ:=⟨fun B c hB=>by
  by_cases hL:∃ b l y,V3 b S=true∧m.get b=some y∧ρ b=some l∧l.blk=B
  ·rw[(hlv B hL).1]at hB; cases hB
  ·rw[hn B hL]; exact hB,fun b l h=>h⟩
 refine⟨Φs,hE,fun B c hB=>?_,fun B c hB=>?_,fun b x l hx hl hS=>?_,fun x v hR=>?_⟩
 ·by_cases hL:∃ b l y,V3 b S=true∧m.get b=some y∧ρ b=some l∧l.blk=B
  ·rw[hy B hL]at hB;split at hB<;>first|(cases hB; done)|skip
   rename_i c' e fz hw;injection hB with hB; subst hB
   exact⟨e,fz,hw⟩
  ·rw[hn B hL]at hB;exact hr.pers B c hB
 ·by_cases hL:∃ b l y,V3 b S=true∧m.get b=some y∧ρ b=some l∧l.blk=B
  ·exact .inr (hlv B hL).2
  ·rw[hn B hL]at hB;exact hr.newp B c hB
 ·have hL:¬ ∃ b' l' y,V3 b' S=true∧m.get b'=some y∧ρ b'=some l'∧l'.blk=l.blk:=by
   rintro⟨b',l',y,h1,h2,h3,h4⟩;have:=hr.inj b' b y x l' l h2 hx h3 hl h4;subst this;rw[h1]at hS; cases hS
  rw[hn _ hL];obtain⟨l',o,g1,g2,g3,_⟩:=hr.live b x hx;rw[hl]at g1; injection g1 with g1; subst g1
  exact g3
 ·have hrS:Rel W Φ ρ ⟨Za0 m.get S,m.next⟩ w:=hr.sub ⟨fun b x hx=>by
   unfold Za0 at hx;cases hS:V3 b S with
   | true=>simpa[hS]using hx
   | false=>simp[hS]at hx,Nat.le_refl _⟩
  unfold fzV;cases hz:X0 (Za0 m.get S) 5 x with
  | none=>exact hR.ext hE
  | some y=>
   refine Zqq (m:=⟨Za0 m.get S,m.next⟩) hrS hE (fun b l k els c e fz hg hl hw=>?_) 5 x y v hz hR
   unfold Za0 at hg;cases hS:V3 b S with
   | false=>simp[hS]at hg
   | true=>
    simp[hS]at hg;rw[hy l.blk ⟨b,l,_,hS,hg,hl,rfl⟩,hw]
def D3(get:Nat→Option ABlk)(S:List Nat)(els:List (List AVal)):List (List AVal):=els.map (List.map (fzV get S))
theorem BR.fz{Φ Φs:Pers}{ρ:Rho}{get:Nat→Option ABlk}{S:List Nat}(hf:∀ x v,R Φ ρ x v→R Φs ρ (fzV get S x) v){k:Nat}{els:List (List AVal)}{l:Loc}{o:Obj}(h:BR Φ ρ (.cells k els) l o):BR Φs ρ (.cells k (D3 get S els)) l o:=by
 cases h with
 | cells _ _ _ c e hk hn hl hr h1=>
  have hget:∀ (i:Nat) (row:List AVal),(D3 get S els)[i]? = some row → ∃ row0,els[i]? = some row0∧row=row0.map (fzV get S):=by
   intro i row hi;rw[D3,List.getElem?_map]at hi;cases h0:els[i]? with
   | none=>rw[h0]at hi; cases hi
   | some r0=>rw[h0]at hi; injection hi with hi; exact⟨r0,rfl,hi.symm⟩
  refine .cells k _ l c e hk hn (by rw[D3,List.length_map]; exact hl) ⟨fun i row hi=>?_,fun i row j x hi hj=>?_⟩ h1
  ·obtain⟨r0,g1,rfl⟩:=hget i row hi;rw[List.length_map]; exact hr.1 i r0 g1
  ·obtain⟨r0,g1,rfl⟩:=hget i row hi;rw[List.getElem?_map]at hj;cases h0:r0[j]? with
   | none=>rw[h0]at hj; cases hj
   | some x0=>
    rw[h0]at hj; injection hj with hj; subst hj
    obtain⟨v,k1,k2,k3⟩:=hr.2 i r0 j x0 g1 h0;exact⟨v,k1,k2,hf _ _ k3⟩
def SubFB(q:Nat→Nat)(S:List Nat):List (Nat×ABlk)→SMem→Prop
 | [],_=>True
 | (b,x) :: r,m=>(V3 (q b) S=false∧(m.get (q b)=some (x.ren q) ∨ ∃ k els,m.get (q b)=some (.cells k els)∧x.ren q=.cells k (D3 m.get S els)))∧SubFB q S r m
theorem SubFB.get{q:Nat→Nat}{S:List Nat}:∀ {l:List (Nat×ABlk)} {m:SMem},SubFB q S l m → ∀ b x,Z8 l b=some x→V3 (q b) S=false ∧ ∃ y,m.get (q b)=some y∧(x.ren q=y ∨ ∃ k els,y=.cells k els∧x.ren q=.cells k (D3 m.get S els))
 | [],m,_,b,x,h=>by simp[Z8]at h
 | (c,y) :: r,m,hs,b,x,h=>by
  simp only[Z8]at h;split at h
  ·rename_i hb; subst hb; injection h with h; subst h
   refine⟨hs.1.1,?_⟩;rcases hs.1.2 with h1|⟨k,els,h1,h2⟩
   ·exact⟨_,h1,.inl rfl⟩
   ·exact⟨_,h1,.inr ⟨k,els,rfl,h2⟩⟩
  ·exact hs.2.get b x h
def SubF(n0:Nat)(l:List (Nat×Nat))(S:List Nat)(e0:Env)(m0:SMem)(e:Env)(m:SMem):Prop:=
 n0≤m0.next∧n0≤m.next∧SubRE (qOf l n0 m0.next m.next) e0 e∧SubFB (qOf l n0 m0.next m.next) S m0.bl m∧InjK (qOf l n0 m0.next m.next) m0.bl
theorem SubF.wk{n0 n:Nat}{l:List (Nat×Nat)}{S:List Nat}{e0 e:Env}{m0 m:SMem}(h:SubF n0 l S e0 m0 e m):WkR n n0 e0 m0 e m:=by
 obtain⟨hn0,hn,he,hm,hi⟩:=h;refine⟨hn0,fun W Φ ρ vs w hr ht=>?_⟩
 obtain⟨Φs,hE,f1,f2,f3,f4⟩:=Zrw S hr;refine⟨Φs,fun b=>ρ (qOf l n0 m0.next m.next b),hE.pers,fun b hb=>by simp only[qOf,if_pos hb],⟨hr.base,f1,fun b x hx=>?_,fun b b' x x' l l' h1 h2 h3 h4 h5=>?_,fun b l' hb=>Zv4 (hr.fresh _ _ hb) hn0,f2⟩,?_⟩
 ·obtain⟨hS,y,hy,hs⟩:=hm.get b x hx;obtain⟨l',o,g1,g2,g3,g4,g5⟩:=hr.live _ y hy;refine⟨l',o,g1,g2,f3 _ y l' hy g1 hS,g4,?_⟩;refine BR.unren (q:=qOf l n0 m0.next m.next) (ρ:=ρ) (fun _ _ hb=>hb) ?_
  rcases hs with rfl|⟨k,els,rfl,h2⟩
  ·exact g5.ext hE
  ·rw[h2];exact g5.fz f4
 ·obtain⟨_,y,hy,_⟩:=hm.get b x h1;obtain⟨_,y',hy',_⟩:=hm.get b' x' h2;exact hi.get b b' x x' h1 h2 (hr.inj _ _ y y' l l' hy hy' h3 h4 h5)
 ·refine⟨by rw[ht.1,M7,M7],fun i x v hx hv=>?_⟩
  have hin:i<n:=by
   have:=(gS.1 hx).1;rwa[M7]at this
  rw[I8 hin]at hx;injection hx with hx
  subst hx;rcases he.get i with h1|h1
  ·rw[h1]; exact .bot v
  ·have hR:=ht.2 i (e.get i) v (I8 hin) hv;rw[h1]at hR;exact(hR.unren (ρ':=fun b=>ρ (qOf l n0 m0.next m.next b)) (q:=qOf l n0 m0.next m.next) (fun _ _ hb=>hb) _ rfl).ext ⟨hE.pers,fun _ _ h=>h⟩
theorem Ctr.freeze{P:Program}{g:FuncId}{args:List AVal}{m:SMem}{K K':AVal→SMem→Prop}(h:Ctr P g args m K)(hk:∀ r sm,K r sm → ∃ S,K' (fzV sm.get S r) ⟨S8 S sm.bl,sm.next⟩):Ctr P g args m K':=by
 refine⟨h.1,fun W Φ ρ vs w hr ha hav=>(h.2 W Φ ρ vs w hr ha hav).mono fun e w' he=>?_⟩
 obtain⟨u,r,m1,Φ',ρ',e1,hE,hk1,hr',hR,hn,sm,rfl,hK⟩:=he;obtain⟨S,hS⟩:=hk r sm hK;obtain⟨Φs,f0,f1,f2,f3,f4⟩:=Zrw S hr';refine⟨u,fzV sm.get S r,SMem.mem ⟨S8 S sm.bl,sm.next⟩,Φs,ρ',e1,hE.trans f0,hk1,⟨hr'.base,f1,fun b x hx=>?_,fun b b' x x' l l' h1 h2=>?_,hr'.fresh,f2⟩,f4 _ _ hR,hn,_,rfl,hS⟩
 ·obtain⟨h1,h2⟩:=Zbd hx;obtain⟨l',o,g1,g2,g3,g4,g5⟩:=hr'.live b x h1;have hm0:V3 b S=false:=by
   cases hb:V3 b S with
   | false=>rfl
   | true=>exact absurd (memN_iff.1 hb) h2
  exact⟨l',o,g1,g2,f3 b x l' h1 g1 hm0,g4,g5.ext f0⟩
 ·exact hr'.inj b b' x x' l l' (Zbd h1).1 (Zbd h2).1
theorem Z9q{get:Nat→Option ABlk}:∀ (n:Nat) (x y:AVal),x.closed=true→X0 get n x=some y→y=x:=by
 intro n
 induction n with
 | zero=>intro x y _ h; simp[X0]at h
 | succ n ih=>
  have hL:∀ (l:List AVal) (ds:List AVal),Y0 l=true→W6 (X0 get n) l=some ds→ds=l:=by
   intro l
   induction l with
   | nil=>intro ds _ h; simp only[W6,oI]at h; exact h.symm
   | cons a r ihr=>
    intro ds hc h;simp only[Y0,bA]at hc;simp only[W6]at h;cases h1:X0 get n a with
    | none=>simp[h1]at h
    | some b=>
     cases h2:W6 (X0 get n) r with
     | none=>simp[h1,h2]at h
     | some bs=>
      simp only[h1,h2,oI]at h;subst h;rw[ih a b hc.1 h1,ihr bs hc.2 h2]
  have hLL:∀ (l ds:List (List AVal)),X8 l=true→W6 (W6 (X0 get n)) l=some ds→ds=l:=by
   intro l
   induction l with
   | nil=>intro ds _ h; simp only[W6,oI]at h; exact h.symm
   | cons a r ihr=>
    intro ds hc h;simp only[X8,bA]at hc;simp only[W6]at h;cases h1:W6 (X0 get n) a with
    | none=>simp[h1]at h
    | some b=>
     cases h2:W6 (W6 (X0 get n)) r with
     | none=>simp[h1,h2]at h
     | some bs=>
      simp only[h1,h2,oI]at h;subst h;rw[hL a b hc.1 h1,ihr bs hc.2 h2]
  intro x y hc h;cases x<;>simp only[X0]at h<;>first|(simp only[oI]at h; exact h.symm)|(cases h; done)|(cases hc; done)|skip
  ·rename_i els;cases hm:W6 (W6 (X0 get n)) els with
   | none=>simp[hm]at h
   | some ds=>simp only[hm,oI]at h; subst h; rw[hLL els ds hc hm]
  ·rename_i cs;cases hm:W6 (X0 get n) cs with
   | none=>simp[hm]at h
   | some ds=>simp only[hm,oI]at h; subst h; rw[hL cs ds hc hm]
  ·rename_i cs;cases hm:W6 (X0 get n) cs with
   | none=>simp[hm]at h
   | some ds=>simp only[hm,oI]at h; subst h; rw[hL cs ds hc hm]
theorem Zr8{get:Nat→Option ABlk}{S:List Nat}{x:AVal}(h:x.closed=true):fzV get S x=x:=by
 unfold fzV;cases hz:X0 (Za0 get S) 5 x with
 | none=>rfl
 | some y=>exact Z9q 5 x y h hz
theorem Zza{get:Nat→Option ABlk}{S:List Nat}:∀ {l:List AVal},Y0 l=true→l.map (fzV get S)=l
 | [],_=>rfl
 | x :: r,h=>by
  simp only[Y0,bA]at h;rw[List.map_cons,Zr8 h.1,Zza h.2]
theorem Zo4{get:Nat→Option ABlk}{S:List Nat}:∀ {l:List (List AVal)},X8 l=true→D3 get S l=l
 | [],_=>rfl
 | x :: r,h=>by
  simp only[X8,bA]at h;have:=Zo4 (get:=get) (S:=S) h.2;unfold D3 at this ⊢;rw[List.map_cons,Zza h.1,this]
theorem Z1d{get:Nat→Option ABlk}{S:List Nat}(a b:List (List AVal)):D3 get S (a++b)=D3 get S a++D3 get S b:=by simp[D3]
theorem Zkg{get:Nat→Option ABlk}{n:Nat}:∀ {l:List (List AVal)},(∀ row,row∈l → ∀ x,x∈row→X0 get n x=some x)→W6 (W6 (X0 get n)) l=some l
 | [],_=>rfl
 | a :: r,h=>by
  have h1:W6 (X0 get n) a=some a:=by
   have ha:=h a (List.mem_cons_self ..);clear h
   induction a with
   | nil=>rfl
   | cons x t ih=>
    simp only[W6];rw[ha x (List.mem_cons_self ..),ih fun y hy=>ha y (List.mem_cons_of_mem _ hy)]
  simp only[W6];rw[h1,Zkg fun row hr=>h row (List.mem_cons_of_mem _ hr)]
theorem Zjj{get:Nat→Option ABlk}{S:List Nat}{b k len:Nat}{els:List (List AVal)}(hb:V3 b S=true)(hg:get b=some (.cells k els))(hl:els.length=len)(hs:∀ row,row∈els → ∀ x,x∈row→X0 (Za0 get S) 4 x=some x):fzV get S (.sl b 0 len)=.imm els:=by
 have h:Za0 get S b=some (.cells k els):=by unfold Za0; rw[hb]; exact hg
 subst hl;have h1:Nat.ble (0+els.length) els.length=true:=by rw[Nat.zero_add]; exact Nat.ble_self_eq_true _
 unfold fzV;rw[X0];simp only[h,h1,cond_true,List.drop_zero,List.take_length,Zkg hs]
end Go.AE
end
