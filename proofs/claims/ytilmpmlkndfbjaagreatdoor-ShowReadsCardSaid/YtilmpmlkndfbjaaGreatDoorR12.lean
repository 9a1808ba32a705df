/- Part 12 of the proof: Kt, AeNh. -/
import Derived.Test.YtilmpmlkndfbjaaGreatDoorR10
import Derived.Test.YtilmpmlkndfbjaaGreatDoorR11
set_option linter.all false
section
namespace Go.Known
open Go Go.AE Go.Proofs
def tabL:List (Nat×AFn):=[(8,af5),(13,af6),(52,af9),(24,af10),(11,af12),(19,af18),(16,af19),(9,af20),(17,af21),(20,af22),(21,af23),(22,af24),(23,af25),(25,af26),(34,af27),(51,af30),(67,af31),(94,af32),(95,af33),(14,af34),(40,af41),(41,af42),(42,af43),(26,af45),(27,af46),(28,af47),(46,af48),(47,af49),(48,af50),(49,af51),(50,af52),(44,af53),(65,af54),(66,af55),(68,af56),(69,af57),(70,af58),(71,af59),(129,af62),(130,af63),(36,af64),(37,af65),(80,af68),(73,af71),(74,af72),(53,af76),(54,af77),(32,af78),(79,af79),(81,af80),(82,af81),(83,af82),(84,af83),(85,af84),(86,af85),(87,af86),(88,af87),(89,af88),(90,af89),(91,af90),(78,af93),(101,af94),(102,af95),(103,af96),(104,af97),(105,af98),(106,af99),(107,af100),(108,af101),(109,af102),(110,af103),(111,af104),(174,af105),(72,af109),(115,af110),(116,af111),(58,af114),(119,af115),(120,af116),(121,af117),(122,af118),(123,af119),(124,af120),(125,af121),(128,af124),(134,af125),(135,af126),(140,af131),(141,af132),(142,af133),(143,af134),(144,af135),(189,af136),(190,af137),(112,af139),(113,af140),(114,af141),(147,af142),(152,af147),(155,af150),(156,af151),(158,af153),(159,af154),(160,af155),(169,af164),(171,af166),(172,af167),(173,af168),(145,af169),(146,af170),(180,af176),(188,af183),(193,af186),(195,af188)]
theorem Z15:AllT Tryz.prog tabL:=⟨gd5,gd6,gd9,gd10,gd12,gd18,gd19,gd20,gd21,gd22,gd23,gd24,gd25,gd26,gd27,gd30,gd31,gd32,gd33,gd34,gd41,gd42,gd43,gd45,gd46,gd47,gd48,gd49,gd50,gd51,gd52,gd53,gd54,gd55,gd56,gd57,gd58,gd59,gd62,gd63,gd64,gd65,gd68,gd71,gd72,gd76,gd77,gd78,gd79,gd80,gd81,gd82,gd83,gd84,gd85,gd86,gd87,gd88,gd89,gd90,gd93,gd94,gd95,gd96,gd97,gd98,gd99,Z9a,Yca,Z4e,Z0w,Z7c,Yaz,Ycx,Z7b,Z4k,Z7q,Z39,Z5k,Yc8,Z85,Z2l,Yb1,Z18,Z0p,Z10,Z3o,Zzv,Yar,Z7y,Z79,Yb0,Ybg,Z8o,Z3r,Zzt,Yb5,Z98,Yb4,Yck,Z6r,Ya9,Z9t,Z7e,Z4o,Zz7,Z9m,Z1n,Z0v,Yan,Zzn,Z9y,Ycw,Z3b,trivial⟩
def tabT:Tr AFn:=(.node (.node (.node (.node (.node (.node .nil none (.node (.node .nil (some af154) .nil) (some af33) .nil)) none (.node (.node (.node .nil (some af134) .nil) (some af79) .nil) (some af49) (.node .nil (some af104) .nil))) none (.node (.node (.node (.node .nil (some af126) .nil) (some af59) .nil) none (.node .nil (some af96) .nil)) (some af25) (.node (.node .nil (some af86) .nil) none (.node .nil (some af115) .nil)))) none (.node (.node (.node (.node .nil (some af31) (.node .nil (some af188) .nil)) none .nil) (some af18) (.node (.node (.node .nil (some af142) .nil) (some af82) .nil) (some af30) (.node .nil (some af110) .nil))) (some af12) (.node (.node .nil none (.node (.node .nil (some af166) .nil) (some af100) .nil)) (some af46) (.node (.node (.node .nil (some af150) .nil) (some af90) .nil) none (.node .nil (some af119) .nil))))) none (.node (.node (.node (.node (.node (.node .nil (some af62) .nil) (some af54) (.node .nil (some af186) .nil)) none .nil) (some af21) (.node (.node (.node .nil (some af169) .nil) (some af80) .nil) (some af51) (.node .nil (some af140) .nil))) (some af20) (.node (.node (.node .nil (some af71) .nil) (some af42) (.node (.node .nil (some af164) .nil) (some af98) .nil)) (some af26) (.node (.node .nil (some af88) .nil) none (.node .nil (some af117) .nil)))) none (.node (.node (.node (.node .nil (some af57) .nil) (some af65) (.node .nil (some af94) .nil)) (some af23) (.node (.node .nil (some af84) .nil) (some af76) .nil)) (some af6) (.node (.node (.node (.node .nil (some af132) .nil) none .nil) none (.node (.node .nil (some af168) .nil) (some af102) .nil)) none (.node .nil none (.node (.node .nil (some af136) .nil) (some af121) .nil)))))) none (.node (.node (.node (.node (.node (.node (.node .nil (some af124) .nil) none .nil) (some af78) (.node (.node .nil (some af155) .nil) none .nil)) (some af19) (.node (.node (.node .nil (some af135) .nil) (some af68) .nil) (some af50) (.node .nil (some af139) .nil))) (some af5) (.node (.node (.node .nil (some af109) .nil) (some af41) (.node .nil (some af97) .nil)) (some af10) (.node (.node (.node .nil (some af147) .nil) (some af87) .nil) none (.node .nil (some af116) .nil)))) none (.node (.node (.node (.node .nil (some af56) .nil) (some af64) .nil) (some af22) (.node (.node .nil (some af83) .nil) (some af9) (.node (.node .nil (some af176) .nil) (some af111) .nil))) none (.node (.node (.node (.node .nil (some af131) .nil) none .nil) (some af53) (.node (.node .nil (some af167) .nil) (some af101) .nil)) (some af47) (.node (.node (.node .nil (some af151) .nil) none .nil) none (.node (.node .nil (some af183) .nil) (some af120) .nil))))) none (.node (.node (.node (.node (.node (.node .nil (some af63) .nil) (some af55) .nil) (some af27) .nil) none (.node (.node (.node .nil (some af170) .nil) (some af81) .nil) (some af52) (.node .nil (some af141) .nil))) none (.node (.node (.node .nil (some af72) .nil) (some af43) (.node .nil (some af99) .nil)) (some af45) (.node (.node .nil (some af89) .nil) (some af114) (.node .nil (some af118) .nil)))) none (.node (.node (.node (.node (.node .nil (some af125) .nil) (some af58) .nil) none (.node .nil (some af95) .nil)) (some af24) (.node (.node .nil (some af85) .nil) (some af77) .nil)) (some af34) (.node (.node (.node (.node .nil (some af133) .nil) (some af93) .nil) (some af48) (.node (.node .nil (some af105) .nil) (some af103) .nil)) none (.node (.node (.node .nil (some af153) .nil) (some af32) .nil) none (.node (.node .nil (some af137) .nil) none .nil)))))))
theorem Z1i:tabT=Zhk tabL:=by kernel_rfl
theorem Zi1:Ze5 Tryz.prog (Zpn tabT):=Z5u Z15 Z1i
def ap28:AParts:=⟨19,[(2,none)],[(.region false [⟨(some 1),.box (.tmp 0),none,[]⟩,⟨(some 2),.mov (.const .nilSl),none,[]⟩]),(.region false [⟨(some 3),.alloc [.nilSl],none,[]⟩]),(.seq (.region false [⟨(some 5),.fieldA 1 (.tmp 1),none,[]⟩,⟨(some 6),.load none (.tmp 5),none,[]⟩,⟨(some 7),.lenSl (.tmp 6),none,[]⟩,⟨(some 8),.bin .eql .num (.tmp 7) (.const (.int .i64 0)),none,[]⟩])
 (.cond (.tmp 8) (.seq (.region false [⟨(some 9),.load none (.tmp 3),none,[]⟩,⟨(some 2),.mov (.tmp 9),none,[]⟩])
 .ret)
 .skip))],(.region false [⟨(some 10),.load (some 2) (.tmp 1),none,[]⟩,⟨(some 11),.call (.fn 69) [(.tmp 10)],none,[]⟩,⟨(some 12),.call (.fn 70) [(.tmp 11)],none,[]⟩]),(.tmp 12),[13],(.region false [⟨(some 4),.alloc [(.int .i64 0),(.int .i64 0),(.int .i64 0),(.bool false)],none,[]⟩,⟨none,.store 4 (.tmp 4) (.tmp 13),none,[]⟩]),(.block 1 (.region false [⟨(some 14),.load none (.tmp 3),none,[]⟩,⟨(some 15),.load (some 4) (.tmp 4),none,[]⟩,⟨(some 16),.mkSl 4 1 [(.int .i64 0),(.int .i64 0),(.int .i64 0),(.bool false)] [(0,(.tmp 15))],none,[]⟩,⟨(some 17),.append 4 32 [(.int .i64 0),(.int .i64 0),(.int .i64 0),(.bool false)] (.tmp 14) (.tmp 16),none,[]⟩,⟨none,.store 1 (.tmp 3) (.tmp 17),none,[]⟩])),(.seq (.region false [⟨(some 18),.load none (.tmp 3),none,[]⟩,⟨(some 2),.mov (.tmp 18),none,[]⟩])
 .ret)⟩
theorem cr28:Zju Tryz.prog Tryz.f35=some ap28:=by kernel_rfl
theorem hm:Tryz.prog.follows .mixedOrders=true:=by kernel_rfl
abbrev tab:=Zpn tabT
theorem Zux:Zs9 Tryz.prog 43:=
 ⟨⟨_,Tryz.func43,by kernel_rfl,by kernel_rfl⟩,fun bk o c i a w b d e g h=>Tryz.strings_Join bk o c i a w b d e g h⟩
theorem Z77:Zgu Tryz.prog 137:=⟨_,22,4,3,1,Tryz.func137,by kernel_rfl,by kernel_rfl,by kernel_rfl,by kernel_rfl,by kernel_rfl,Tryz.sizeOf3⟩
theorem Z2y:Zgu Tryz.prog 126:=⟨_,47,4,62,3,Tryz.func126,by kernel_rfl,by kernel_rfl,by kernel_rfl,by kernel_rfl,by kernel_rfl,Tryz.sizeOf62⟩
def Zpa:List (Nat×Nat):=[(109,137),(88,126)]
theorem Z3d:∀ g G,Zff g Zpa=some G→Zgu Tryz.prog G:=by
 intro g G h;unfold Zpa Zff at h;cases a:Nat.beq 109 g with
 | true=>rw[a]at h; injection h with h; subst h; exact Z77
 | false=>
  rw[a]at h;simp only[cond_false]at h;unfold Zff at h;cases b:Nat.beq 88 g with
  | true=>rw[b]at h; injection h with h; subst h; exact Z2y
  | false=>rw[b]at h; simp[Zff]at h
def call1:Caller:=runF tab (Zkn 43) 1000
theorem Z8x:O2 Tryz.prog call1:=Zks hm Zi1 (Zs3 Zux) 1000
def orc2:Caller:=Zib (Zn8 tab call1 Zpa) (Zkn 43)
theorem Zvq:O2 Tryz.prog orc2:=Zrc (Ybn hm Zi1 Z8x Z3d) (Zs3 Zux)
def call2:Caller:=runF tab orc2 1000
theorem Z57:O2 Tryz.prog call2:=Zks hm Zi1 Zvq 1000
def orc3:Caller:=Zib (Zny tab call2 35 ap28) orc2
theorem Z0y:O2 Tryz.prog orc3:=Zrc (Ycm hm Zi1 Z57 Tryz.func35 cr28 (by kernel_rfl)) Zvq
def orcM(l:List Memo):Caller:=Zib (frzC l) orc3
theorem Z2c{l:List Memo}(h:Memo.All Tryz.prog l):O2 Tryz.prog (orcM l):=Zrc (Z4q h) Z0y
theorem Q0{l:List Memo}(a:Memo.All Tryz.prog l)(e:Memo)
 (h:(match runM tab (orcM l) e.g e.args with|some r=>M3 r e.v&&(X4 e.args&&e.v.closed)|none=>false)=true):e.Ok Tryz.prog:=
 Yb8 hm Zi1 (Z2c a) e h
end Go.Known
end
section
namespace Go.AE
open Go.RowKit
def D2(get:Nat→Option ABlk)(S:List Nat)(b:Nat):Option ABlk:=bif Y8 b S then get b else none
def fzV(get:Nat→Option ABlk)(S:List Nat)(x:AVal):AVal:=
 match X3 (D2 get S) 5 x with
 | some y=>y
 | none=>x
theorem Zht{W:Base}{Φ:Pers}{ρ:Rho}{m:Mem}{w:World}(S:List Nat)(i:Rel W Φ ρ m w):∃ Φs:Pers,Ext Φ ρ Φs ρ∧(∀ B c,Φs B=some c → ∃ e fz,w.heap[B]? = some (.cells c e fz)) ∧
 (∀ B c,Φs B=some c→W.p B=some c∨W.Free B)∧(∀ b x l,m.get b=some x→ρ b=some l→Y8 b S=false→Φs l.blk=none) ∧ ∀ x v,R Φ ρ x v→R Φs ρ (fzV m.get S x) v:=by
 have n:∀ B,(∃ b l y,Y8 b S=true∧m.get b=some y∧ρ b=some l∧l.blk=B)→Φ B=none∧W.Free B:=by
  rintro B ⟨b,l,y,_,u,z,rfl⟩;obtain⟨l',o,f,E,t,_⟩:=i.live b y u;rw[z]at f; injection f with f; subst f
  exact⟨t,E⟩
 obtain⟨Φs,G,s⟩:∃ Φs:Pers,(∀ B,(∃ b l y,Y8 b S=true∧m.get b=some y∧ρ b=some l∧l.blk=B)→Φs B=match w.heap[B]? with|some (.cells c _ _)=>some c|_=>none) ∧
  ∀ B,¬(∃ b l y,Y8 b S=true∧m.get b=some y∧ρ b=some l∧l.blk=B)→Φs B=Φ B:=
  ⟨fun B=>@ite _ (∃ b l y,Y8 b S=true∧m.get b=some y∧ρ b=some l∧l.blk=B) (Classical.propDecidable _) (match w.heap[B]? with|some (.cells c _ _)=>some c|_=>none) (Φ B),
   fun B d=>by simp only[d,if_true],fun B d=>by simp only[d,if_false]⟩
 have A:Ext Φ ρ Φs ρ:=⟨fun B c a=>by
  by_cases d:∃ b l y,Y8 b S=true∧m.get b=some y∧ρ b=some l∧l.blk=B
  ·rw[(n B d).1]at a; cases a
  ·rw[s B d]; exact a,fun b l h=>h⟩
 refine⟨Φs,A,fun B c a=>?_,fun B c a=>?_,fun b x l j r g=>?_,fun x v F=>?_⟩
 ·by_cases d:∃ b l y,Y8 b S=true∧m.get b=some y∧ρ b=some l∧l.blk=B
  ·rw[G B d]at a;split at a<;>first|(cases a; done)|skip
   rename_i c' e fz D;injection a with a; subst a
   exact⟨e,fz,D⟩
  ·rw[s B d]at a;exact i.pers B c a
 ·by_cases d:∃ b l y,Y8 b S=true∧m.get b=some y∧ρ b=some l∧l.blk=B
  ·exact .inr (n B d).2
  ·rw[s B d]at a;exact i.newp B c a
 ·have d:¬ ∃ b' l' y,Y8 b' S=true∧m.get b'=some y∧ρ b'=some l'∧l'.blk=l.blk:=by
   rintro⟨b',l',y,u,z,H,I⟩;have:=i.inj b' b y x l' l z j H r I;subst this;rw[u]at g; cases g
  rw[s _ d];obtain⟨l',o,f,E,t,_⟩:=i.live b x j;rw[r]at f; injection f with f; subst f
  exact t
 ·have C:Rel W Φ ρ ⟨D2 m.get S,m.next⟩ w:=i.sub ⟨fun b x j=>by
   unfold D2 at j;cases g:Y8 b S with
   | true=>simpa[g]using j
   | false=>simp[g]at j,Nat.le_refl _⟩
  unfold fzV;cases J:X3 (D2 m.get S) 5 x with
  | none=>exact F.ext A
  | some y=>
   refine Zph (m:=⟨D2 m.get S,m.next⟩) C A (fun b l k els c e fz q r D=>?_) 5 x y v J F
   unfold D2 at q;cases g:Y8 b S with
   | false=>simp[g]at q
   | true=>
    simp[g]at q;rw[G l.blk ⟨b,l,_,g,q,r,rfl⟩,D]
def C2(get:Nat→Option ABlk)(S:List Nat)(els:List (List AVal)):List (List AVal):=els.map (List.map (fzV get S))
theorem BR.fz{Φ Φs:Pers}{ρ:Rho}{get:Nat→Option ABlk}{S:List Nat}(q:∀ x v,R Φ ρ x v→R Φs ρ (fzV get S x) v){k:Nat}{els:List (List AVal)}{l:Loc}{o:Obj}(h:BR Φ ρ (.cells k els) l o):BR Φs ρ (.cells k (C2 get S els)) l o:=by
 cases h with
 | cells _ _ _ c e r t s n p=>
  have a:∀ (i:Nat) (row:List AVal),(C2 get S els)[i]? = some row → ∃ b,els[i]? = some b∧row=b.map (fzV get S):=by
   intro i row hi;rw[C2,List.getElem?_map]at hi;cases f:els[i]? with
   | none=>rw[f]at hi; cases hi
   | some g=>rw[f]at hi; injection hi with hi; exact⟨g,rfl,hi.symm⟩
  refine .cells k _ l c e r t (by rw[C2,List.length_map]; exact s) ⟨fun i row hi=>?_,fun i row j x hi d=>?_⟩ p
  ·obtain⟨g,m,rfl⟩:=a i row hi;rw[List.length_map]; exact n.1 i g m
  ·obtain⟨g,m,rfl⟩:=a i row hi;rw[List.getElem?_map]at d;cases f:g[j]? with
   | none=>rw[f]at d; cases d
   | some x0=>
    rw[f]at d; injection d with d; subst d
    obtain⟨v,u,w,y⟩:=n.2 i g j x0 m f;exact⟨v,u,w,q _ _ y⟩
def SubFB(q:Nat→Nat)(S:List Nat):List (Nat×ABlk)→SMem→Prop
 | [],_=>True
 | (b,x) :: r,m=>(Y8 (q b) S=false∧(m.get (q b)=some (x.ren q) ∨ ∃ k els,m.get (q b)=some (.cells k els)∧x.ren q=.cells k (C2 m.get S els)))∧SubFB q S r m
theorem SubFB.get{q:Nat→Nat}{S:List Nat}:∀ {l:List (Nat×ABlk)} {m:SMem},SubFB q S l m → ∀ b x,Z7 l b=some x→Y8 (q b) S=false ∧ ∃ y,m.get (q b)=some y∧(x.ren q=y ∨ ∃ k els,y=.cells k els∧x.ren q=.cells k (C2 m.get S els))
 | [],m,_,b,x,h=>by simp[Z7]at h
 | (c,y) :: r,m,d,b,x,h=>by
  simp only[Z7]at h;split at h
  ·rename_i f; subst f; injection h with h; subst h
   refine⟨d.1.1,?_⟩;rcases d.1.2 with a|⟨k,els,a,e⟩
   ·exact⟨_,a,.inl rfl⟩
   ·exact⟨_,a,.inr ⟨k,els,rfl,e⟩⟩
  ·exact d.2.get b x h
def SubF(n0:Nat)(l:List (Nat×Nat))(S:List Nat)(e0:Env)(m0:SMem)(e:Env)(m:SMem):Prop:=
 n0≤m0.next∧n0≤m.next∧SubRE (qOf l n0 m0.next m.next) e0 e∧SubFB (qOf l n0 m0.next m.next) S m0.bl m∧InjK (qOf l n0 m0.next m.next) m0.bl
theorem SubF.wk{n0 n:Nat}{l:List (Nat×Nat)}{S:List Nat}{u e:Env}{m0 m:SMem}(h:SubF n0 l S u m0 e m):WkR n n0 u m0 e m:=by
 obtain⟨g,X,O,hm,hi⟩:=h;refine⟨g,fun W Φ ρ vs w j C=>?_⟩
 obtain⟨Φs,s,E,F,G,H⟩:=Zht S j;refine⟨Φs,fun b=>ρ (qOf l n0 m0.next m.next b),s.pers,fun b a=>by simp only[qOf,if_pos a],⟨j.base,E,fun b x c=>?_,fun b b' x D l l' d p K L M=>?_,fun b l' a=>Zrl (j.fresh _ _ a) g,F⟩,?_⟩
 ·obtain⟨N,y,r,P⟩:=hm.get b x c;obtain⟨l',o,z,I,V,J,A⟩:=j.live _ y r;refine⟨l',o,z,I,G _ y l' r z N,J,?_⟩;refine BR.unren (q:=qOf l n0 m0.next m.next) (ρ:=ρ) (fun _ _ a=>a) ?_
  rcases P with rfl|⟨k,els,rfl,p⟩
  ·exact A.ext s
  ·rw[p];exact A.fz H
 ·obtain⟨_,y,r,_⟩:=hm.get b x d;obtain⟨_,U,t,_⟩:=hm.get b' D p;exact hi.get b b' x D d p (j.inj _ _ y U l l' r t K L M)
 ·refine⟨by rw[C.1,M0,M0],fun i x v c Q=>?_⟩
  have f:i<n:=by
   have:=(gS.1 c).1;rwa[M0]at this
  rw[G0 f]at c;injection c with c
  subst c;rcases O.get i with d|d
  ·rw[d]; exact .bot v
  ·have B:=C.2 i (e.get i) v (G0 f) Q;rw[d]at B;exact(B.unren (ρ':=fun b=>ρ (qOf l n0 m0.next m.next b)) (q:=qOf l n0 m0.next m.next) (fun _ _ a=>a) _ rfl).ext ⟨s.pers,fun _ _ h=>h⟩
theorem Z2u{get:Nat→Option ABlk}:∀ (n:Nat) (x y:AVal),x.closed=true→X3 get n x=some y→y=x:=by
 intro n
 induction n with
 | zero=>intro x y _ h; simp[X3]at h
 | succ n m=>
  have j:∀ (l:List AVal) (c:List AVal),X4 l=true→V4 (X3 get n) l=some c→c=l:=by
   intro l
   induction l with
   | nil=>intro c _ h; simp only[V4,oI]at h; exact h.symm
   | cons a r g=>
    intro c d h;simp only[X4,bA]at d;simp only[V4]at h;cases e:X3 get n a with
    | none=>simp[e]at h
    | some b=>
     cases f:V4 (X3 get n) r with
     | none=>simp[e,f]at h
     | some i=>
      simp only[e,f,oI]at h;subst h;rw[m a b d.1 e,g i d.2 f]
  have k:∀ (l c:List (List AVal)),W5 l=true→V4 (V4 (X3 get n)) l=some c→c=l:=by
   intro l
   induction l with
   | nil=>intro c _ h; simp only[V4,oI]at h; exact h.symm
   | cons a r g=>
    intro c d h;simp only[W5,bA]at d;simp only[V4]at h;cases e:V4 (X3 get n) a with
    | none=>simp[e]at h
    | some b=>
     cases f:V4 (V4 (X3 get n)) r with
     | none=>simp[e,f]at h
     | some i=>
      simp only[e,f,oI]at h;subst h;rw[j a b d.1 e,g i d.2 f]
  intro x y d h;cases x<;>simp only[X3]at h<;>first|(simp only[oI]at h; exact h.symm)|(cases h; done)|(cases d; done)|skip
  ·rename_i els;cases hm:V4 (V4 (X3 get n)) els with
   | none=>simp[hm]at h
   | some c=>simp only[hm,oI]at h; subst h; rw[k els c d hm]
  ·rename_i cs;cases hm:V4 (X3 get n) cs with
   | none=>simp[hm]at h
   | some c=>simp only[hm,oI]at h; subst h; rw[j cs c d hm]
  ·rename_i cs;cases hm:V4 (X3 get n) cs with
   | none=>simp[hm]at h
   | some c=>simp only[hm,oI]at h; subst h; rw[j cs c d hm]
theorem Z78{get:Nat→Option ABlk}{S:List Nat}{x:AVal}(h:x.closed=true):fzV get S x=x:=by
 unfold fzV;cases a:X3 (D2 get S) 5 x with
 | none=>rfl
 | some y=>exact Z2u 5 x y h a
theorem Zyw{get:Nat→Option ABlk}{S:List Nat}:∀ {l:List AVal},X4 l=true→l.map (fzV get S)=l
 | [],_=>rfl
 | x :: r,h=>by
  simp only[X4,bA]at h;rw[List.map_cons,Z78 h.1,Zyw h.2]
theorem Zxe{get:Nat→Option ABlk}{S:List Nat}:∀ {l:List (List AVal)},W5 l=true→C2 get S l=l
 | [],_=>rfl
 | x :: r,h=>by
  simp only[W5,bA]at h;have:=Zxe (get:=get) (S:=S) h.2;unfold C2 at this ⊢;rw[List.map_cons,Zyw h.1,this]
theorem Ybm{get:Nat→Option ABlk}{S:List Nat}(a b:List (List AVal)):C2 get S (a++b)=C2 get S a++C2 get S b:=by simp[C2]
theorem Zi0{get:Nat→Option ABlk}{n:Nat}:∀ {l:List (List AVal)},(∀ row,row∈l → ∀ x,x∈row→X3 get n x=some x)→V4 (V4 (X3 get n)) l=some l
 | [],_=>rfl
 | a :: r,h=>by
  have c:V4 (X3 get n) a=some a:=by
   have b:=h a (List.mem_cons_self ..);clear h
   induction a with
   | nil=>rfl
   | cons x t f=>
    simp only[V4];rw[b x (List.mem_cons_self ..),f fun y e=>b y (List.mem_cons_of_mem _ e)]
  simp only[V4];rw[c,Zi0 fun row d=>h row (List.mem_cons_of_mem _ d)]
theorem Zuy{get:Nat→Option ABlk}{S:List Nat}{b k len:Nat}{els:List (List AVal)}(c:Y8 b S=true)(d:get b=some (.cells k els))(e:els.length=len)(f:∀ row,row∈els → ∀ x,x∈row→X3 (D2 get S) 4 x=some x):fzV get S (.sl b 0 len)=.imm els:=by
 have h:D2 get S b=some (.cells k els):=by unfold D2; rw[c]; exact d
 subst e;have a:Nat.ble (0+els.length) els.length=true:=by rw[Nat.zero_add]; exact Nat.ble_self_eq_true _
 unfold fzV;rw[X3];simp only[h,a,cond_true,List.drop_zero,List.take_length,Zi0 f]
end Go.AE
end
