/- Part 12 of the proof: Kt, AeNh. -/
import Derived.Test.YtilmpmlkndfbjaaGreatDoorK10
import Derived.Test.YtilmpmlkndfbjaaGreatDoorK11
set_option linter.all false
section
namespace Go.Ab
open Go Go.AE Go.Proofs
def tabL:List (Nat×Av):=[(8,xC),(13,xD),(52,xE),(24,TG),(11,TH),(19,TI),(16,OV),(9,OW),(17,OX),(20,TJ),(21,TK),(22,TL),(23,TN),(25,TO),(34,TP),(51,OY),(67,TQ),(94,TR),(95,TT),(14,TU),(40,TV),(41,OZ),(42,Pa),(26,Pb),(27,Pc),(28,Pd),(46,TW),(47,TY),(48,TZ),(49,Ua),(50,Ub),(44,Uc),(65,Ud),(66,Ue),(68,Uf),(69,Ug),(70,Uh),(71,Pe),(129,Ui),(130,Uj),(36,Uk),(37,Ul),(80,Um),(73,Un),(74,Pf),(53,Pg),(54,Ph),(32,Pj),(79,Uo),(81,Up),(82,Uq),(83,Ur),(84,Us),(85,Ut),(86,Uu),(87,Uv),(88,Uw),(89,Ux),(90,Uy),(91,Uz),(78,UA),(101,UB),(102,UC),(103,UD),(104,UE),(105,UF),(106,UG),(107,Nq),(108,Nr),(109,Ns),(110,GW),(111,IK),(174,IL),(72,Nt),(115,Nu),(116,IM),(58,IN),(119,Nv),(120,Nw),(121,Nx),(122,Ny),(123,Nz),(124,NA),(125,NB),(128,NC),(134,ND),(135,NF),(140,IQ),(141,IS),(142,IT),(143,IU),(144,IV),(189,IW),(190,IX),(112,NG),(113,NH),(114,NI),(147,NJ),(152,IY),(155,NK),(156,NL),(158,NM),(159,NO),(160,NP),(169,NQ),(171,IZ),(172,Ja),(173,GX),(145,NR),(146,NS),(180,NT),(188,Jb),(193,NU),(195,NV)]
theorem yb:Lo Tryz.prog tabL:=⟨gd5,gd6,gd9,fB,fC,fD,fE,fF,fG,fH,fI,fJ,fK,fL,fM,fN,fO,fP,fQ,fR,fS,fT,fU,fV,fW,fZ,gA,gB,gC,gD,gF,gH,gI,gJ,gK,gL,gN,gO,gP,gQ,gR,gT,gU,gV,gW,gX,gY,iA,iB,iC,iD,iE,iF,iG,iH,iI,iJ,iK,iL,iM,iO,iQ,iR,iS,iT,iU,iW,Z4i,Z8y,zk,Zz2,Z3e,Z72,Z7k,Z7m,zm,w6,Z7z,Z5w,Z53,Z3o,Z64,r9,Z6f,qd,Z6l,Zzy,Z87,wj,zS,tw,Z7v,Z93,Z6h,yj,v7,qv,xw,Z4r,ue,yT,Z31,Zz8,Z92,Z76,Z5m,zq,Z78,Z3s,Z4d,ya,Z8g,Z5i,th,trivial⟩
def Qu:Tr Av:=(.node (.node (.node (.node (.node (.node .nil none (.node (.node .nil (some NO) .nil) (some TT) .nil)) none (.node (.node (.node .nil (some IU) .nil) (some Uo) .nil) (some TY) (.node .nil (some IK) .nil))) none (.node (.node (.node (.node .nil (some NF) .nil) (some Pe) .nil) none (.node .nil (some UD) .nil)) (some TN) (.node (.node .nil (some Uv) .nil) none (.node .nil (some Nv) .nil)))) none (.node (.node (.node (.node .nil (some TQ) (.node .nil (some NV) .nil)) none .nil) (some TI) (.node (.node (.node .nil (some NJ) .nil) (some Ur) .nil) (some OY) (.node .nil (some Nu) .nil))) (some TH) (.node (.node .nil none (.node (.node .nil (some IZ) .nil) (some Nq) .nil)) (some Pc) (.node (.node (.node .nil (some NK) .nil) (some Uz) .nil) none (.node .nil (some Nz) .nil))))) none (.node (.node (.node (.node (.node (.node .nil (some Ui) .nil) (some Ud) (.node .nil (some NU) .nil)) none .nil) (some OX) (.node (.node (.node .nil (some NR) .nil) (some Up) .nil) (some Ua) (.node .nil (some NH) .nil))) (some OW) (.node (.node (.node .nil (some Un) .nil) (some OZ) (.node (.node .nil (some NQ) .nil) (some UF) .nil)) (some TO) (.node (.node .nil (some Ux) .nil) none (.node .nil (some Nx) .nil)))) none (.node (.node (.node (.node .nil (some Ug) .nil) (some Ul) (.node .nil (some UB) .nil)) (some TK) (.node (.node .nil (some Ut) .nil) (some Pg) .nil)) (some xD) (.node (.node (.node (.node .nil (some IS) .nil) none .nil) none (.node (.node .nil (some GX) .nil) (some Ns) .nil)) none (.node .nil none (.node (.node .nil (some IW) .nil) (some NB) .nil)))))) none (.node (.node (.node (.node (.node (.node (.node .nil (some NC) .nil) none .nil) (some Pj) (.node (.node .nil (some NP) .nil) none .nil)) (some OV) (.node (.node (.node .nil (some IV) .nil) (some Um) .nil) (some TZ) (.node .nil (some NG) .nil))) (some xC) (.node (.node (.node .nil (some Nt) .nil) (some TV) (.node .nil (some UE) .nil)) (some TG) (.node (.node (.node .nil (some IY) .nil) (some Uw) .nil) none (.node .nil (some Nw) .nil)))) none (.node (.node (.node (.node .nil (some Uf) .nil) (some Uk) .nil) (some TJ) (.node (.node .nil (some Us) .nil) (some xE) (.node (.node .nil (some NT) .nil) (some IM) .nil))) none (.node (.node (.node (.node .nil (some IQ) .nil) none .nil) (some Uc) (.node (.node .nil (some Ja) .nil) (some Nr) .nil)) (some Pd) (.node (.node (.node .nil (some NL) .nil) none .nil) none (.node (.node .nil (some Jb) .nil) (some NA) .nil))))) none (.node (.node (.node (.node (.node (.node .nil (some Uj) .nil) (some Ue) .nil) (some TP) .nil) none (.node (.node (.node .nil (some NS) .nil) (some Uq) .nil) (some Ub) (.node .nil (some NI) .nil))) none (.node (.node (.node .nil (some Pf) .nil) (some Pa) (.node .nil (some UG) .nil)) (some Pb) (.node (.node .nil (some Uy) .nil) (some IN) (.node .nil (some Ny) .nil)))) none (.node (.node (.node (.node (.node .nil (some ND) .nil) (some Uh) .nil) none (.node .nil (some UC) .nil)) (some TL) (.node (.node .nil (some Uu) .nil) (some Ph) .nil)) (some TU) (.node (.node (.node (.node .nil (some IT) .nil) (some UA) .nil) (some TW) (.node (.node .nil (some IL) .nil) (some GW) .nil)) none (.node (.node (.node .nil (some NM) .nil) (some TR) .nil) none (.node (.node .nil (some IX) .nil) none .nil)))))))
theorem vh:Qu=QV tabL:=by kernel_rfl
theorem St:LJ Tryz.prog (Yj Qu):=Z9m yb vh
def UI:CI:=⟨19,[(2,none)],[(.region false [⟨(some 1),.box (.tmp 0),none,[]⟩,⟨(some 2),.Fp (.const .Ai),none,[]⟩]),(.region false [⟨(some 3),.alloc [.Ai],none,[]⟩]),(.seq (.region false [⟨(some 5),.BH 1 (.tmp 1),none,[]⟩,⟨(some 6),.load none (.tmp 5),none,[]⟩,⟨(some 7),.BC (.tmp 6),none,[]⟩,⟨(some 8),.bin .eql .num (.tmp 7) (.const (.int .i64 0)),none,[]⟩])
 (.cond (.tmp 8) (.seq (.region false [⟨(some 9),.load none (.tmp 3),none,[]⟩,⟨(some 2),.Fp (.tmp 9),none,[]⟩])
 .ret)
 .skip))],(.region false [⟨(some 10),.load (some 2) (.tmp 1),none,[]⟩,⟨(some 11),.call (.fn 69) [(.tmp 10)],none,[]⟩,⟨(some 12),.call (.fn 70) [(.tmp 11)],none,[]⟩]),(.tmp 12),[13],(.region false [⟨(some 4),.alloc [(.int .i64 0),(.int .i64 0),(.int .i64 0),(.bool false)],none,[]⟩,⟨none,.store 4 (.tmp 4) (.tmp 13),none,[]⟩]),(.block 1 (.region false [⟨(some 14),.load none (.tmp 3),none,[]⟩,⟨(some 15),.load (some 4) (.tmp 4),none,[]⟩,⟨(some 16),.CB 4 1 [(.int .i64 0),(.int .i64 0),(.int .i64 0),(.bool false)] [(0,(.tmp 15))],none,[]⟩,⟨(some 17),.append 4 32 [(.int .i64 0),(.int .i64 0),(.int .i64 0),(.bool false)] (.tmp 14) (.tmp 16),none,[]⟩,⟨none,.store 1 (.tmp 3) (.tmp 17),none,[]⟩])),(.seq (.region false [⟨(some 18),.load none (.tmp 3),none,[]⟩,⟨(some 2),.Fp (.tmp 18),none,[]⟩])
 .ret)⟩
theorem eT:RM Tryz.prog Tryz.f35=some UI:=by kernel_rfl
theorem hm:Tryz.prog.follows .mixedOrders=true:=by kernel_rfl
abbrev BE:=Yj Qu
theorem WK:uT Tryz.prog 43:=
 ⟨⟨_,Tryz.func43,by kernel_rfl,by kernel_rfl⟩,fun bk o c xs sep w h1 h2 h3 h4 h5=>Tryz.strings_Join bk o c xs sep w h1 h2 h3 h4 h5⟩
theorem xe:Oq Tryz.prog 137:=⟨_,22,4,3,1,Tryz.func137,by kernel_rfl,by kernel_rfl,by kernel_rfl,by kernel_rfl,by kernel_rfl,Tryz.sizeOf3⟩
theorem yX:Oq Tryz.prog 126:=⟨_,47,4,62,3,Tryz.func126,by kernel_rfl,by kernel_rfl,by kernel_rfl,by kernel_rfl,by kernel_rfl,Tryz.sizeOf62⟩
def aZ:List (Nat×Nat):=[(109,137),(88,126)]
theorem z7:∀ g G,MN g aZ=some G→Oq Tryz.prog G:=by
 intro g G h;unfold aZ MN at h;cases h1:Nat.beq 109 g with
 | true=>rw[h1]at h; injection h with h; subst h; exact xe
 | false=>
  rw[h1]at h;simp only[cond_false]at h;unfold MN at h;cases h2:Nat.beq 88 g with
  | true=>rw[h2]at h; injection h with h; subst h; exact yX
  | false=>rw[h2]at h; simp[MN]at h
def NW:Au:=Fz BE (Xc 43) 1000
theorem uv:P4 Tryz.prog NW:=Wm hm St (uM WK) 1000
def Ql:Au:=Te (Yz BE NW aZ) (Xc 43)
theorem rB:P4 Tryz.prog Ql:=Zs (zg hm St uv z7) (uM WK)
def call2:Au:=Fz BE Ql 1000
theorem Z68:P4 Tryz.prog call2:=Wm hm St rB 1000
def Vo:Au:=Te (bR BE call2 35 UI) Ql
theorem yK:P4 Tryz.prog Vo:=Zs (uj hm St Z68 Tryz.func35 eT (by kernel_rfl)) rB
def Qm(l:List AN):Au:=Te (Pw l) Vo
theorem Z7l{l:List AN}(h:AN.Rz Tryz.prog l):P4 Tryz.prog (Qm l):=Zs (Z4n h) yK
theorem S3{l:List AN}(hl:AN.Rz Tryz.prog l)(e:AN)
 (h:(match runM BE (Qm l) e.g e.args with|some r=>O7 r e.v&&(W9 e.args&&e.v.closed)|none=>false)=true):e.Ok Tryz.prog:=
 Z98 hm St (Z7l hl) e h
end Go.Ab
end
section
namespace Go.AE
open Go.RowKit
def E3(get:Nat→Option Ag)(S:List Nat)(b:Nat):Option Ag:=bif X3 b S then get b else none
def EG(get:Nat→Option Ag)(S:List Nat)(x:Aa):Aa:=
 match W3 (E3 get S) 5 x with
 | some y=>y
 | none=>x
theorem Sn{W:Ap}{Φ:Ao}{ρ:AD}{m:Mem}{w:World}(S:List Nat)(hr:Rel W Φ ρ m w):∃ Bp:Ao,Ext Φ ρ Bp ρ∧(∀ B c,Bp B=some c → ∃ e fz,w.heap[B]? = some (.cells c e fz)) ∧
 (∀ B c,Bp B=some c→W.p B=some c∨W.Cd B)∧(∀ b x l,m.get b=some x→ρ b=some l→X3 b S=false→Bp l.blk=none) ∧ ∀ x v,R Φ ρ x v→R Bp ρ (EG m.get S x) v:=by
 have hlv:∀ B,(∃ b l y,X3 b S=true∧m.get b=some y∧ρ b=some l∧l.blk=B)→Φ B=none∧W.Cd B:=by
  rintro B ⟨b,l,y,_,h1,h2,rfl⟩;obtain⟨l',o,g1,g2,g3,_⟩:=hr.live b y h1;rw[h2]at g1; injection g1 with g1; subst g1
  exact⟨g3,g2⟩
 obtain⟨Bp,hy,hn⟩:∃ Bp:Ao,(∀ B,(∃ b l y,X3 b S=true∧m.get b=some y∧ρ b=some l∧l.blk=B)→Bp B=match w.heap[B]? with|some (.cells c _ _)=>some c|_=>none) ∧
  ∀ B,¬(∃ b l y,X3 b S=true∧m.get b=some y∧ρ b=some l∧l.blk=B)→Bp B=Φ B:=
  ⟨fun B=>@ite _ (∃ b l y,X3 b S=true∧m.get b=some y∧ρ b=some l∧l.blk=B) (Classical.propDecidable _) (match w.heap[B]? with|some (.cells c _ _)=>some c|_=>none) (Φ B),
   fun B hL=>by simp only[hL,if_true],fun B hL=>by simp only[hL,if_false]⟩
 have hE:Ext Φ ρ Bp ρ:=⟨fun B c hB=>by
  by_cases hL:∃ b l y,X3 b S=true∧m.get b=some y∧ρ b=some l∧l.blk=B
  ·rw[(hlv B hL).1]at hB; cases hB
  ·rw[hn B hL]; exact hB,fun b l h=>h⟩
 refine⟨Bp,hE,fun B c hB=>?_,fun B c hB=>?_,fun b x l hx hl hS=>?_,fun x v hR=>?_⟩
 ·by_cases hL:∃ b l y,X3 b S=true∧m.get b=some y∧ρ b=some l∧l.blk=B
  ·rw[hy B hL]at hB;split at hB<;>first|(cases hB; done)|skip
   rename_i c' e fz hw;injection hB with hB; subst hB
   exact⟨e,fz,hw⟩
  ·rw[hn B hL]at hB;exact hr.AX B c hB
 ·by_cases hL:∃ b l y,X3 b S=true∧m.get b=some y∧ρ b=some l∧l.blk=B
  ·exact .inr (hlv B hL).2
  ·rw[hn B hL]at hB;exact hr.By B c hB
 ·have hL:¬ ∃ b' l' y,X3 b' S=true∧m.get b'=some y∧ρ b'=some l'∧l'.blk=l.blk:=by
   rintro⟨b',l',y,h1,h2,h3,h4⟩;have:=hr.inj b' b y x l' l h2 hx h3 hl h4;subst this;rw[h1]at hS; cases hS
  rw[hn _ hL];obtain⟨l',o,g1,g2,g3,_⟩:=hr.live b x hx;rw[hl]at g1; injection g1 with g1; subst g1
  exact g3
 ·have hrS:Rel W Φ ρ ⟨E3 m.get S,m.next⟩ w:=hr.sub ⟨fun b x hx=>by
   unfold E3 at hx;cases hS:X3 b S with
   | true=>simpa[hS]using hx
   | false=>simp[hS]at hx,lR _⟩
  unfold EG;cases hz:W3 (E3 m.get S) 5 x with
  | none=>exact hR.ext hE
  | some y=>
   refine Zy (m:=⟨E3 m.get S,m.next⟩) hrS hE (fun b l k els c e fz hg hl hw=>?_) 5 x y v hz hR
   unfold E3 at hg;cases hS:X3 b S with
   | false=>simp[hS]at hg
   | true=>
    simp[hS]at hg;rw[hy l.blk ⟨b,l,_,hS,hg,hl,rfl⟩,hw]
def FR(get:Nat→Option Ag)(S:List Nat)(els:List (List Aa)):List (List Aa):=els.map (List.map (EG get S))
theorem BR.fz{Φ Bp:Ao}{ρ:AD}{get:Nat→Option Ag}{S:List Nat}(hf:∀ x v,R Φ ρ x v→R Bp ρ (EG get S x) v){k:Nat}{els:List (List Aa)}{l:Loc}{o:Obj}(h:BR Φ ρ (.cells k els) l o):BR Bp ρ (.cells k (FR get S els)) l o:=by
 cases h with
 | cells _ _ _ c e hk hn hl hr h1=>
  have hget:∀ (i:Nat) (row:List Aa),(FR get S els)[i]? = some row → ∃ row0,els[i]? = some row0∧row=row0.map (EG get S):=by
   intro i row hi;rw[FR,gM]at hi;cases h0:els[i]? with
   | none=>rw[h0]at hi; cases hi
   | some r0=>rw[h0]at hi; injection hi with hi; exact⟨r0,rfl,hi.symm⟩
  refine .cells k _ l c e hk hn (by rw[FR,lM]; exact hl) ⟨fun i row hi=>?_,fun i row j x hi hj=>?_⟩ h1
  ·obtain⟨r0,g1,rfl⟩:=hget i row hi;rw[lM]; exact hr.1 i r0 g1
  ·obtain⟨r0,g1,rfl⟩:=hget i row hi;rw[gM]at hj;cases h0:r0[j]? with
   | none=>rw[h0]at hj; cases hj
   | some x0=>
    rw[h0]at hj; injection hj with hj; subst hj
    obtain⟨v,k1,k2,k3⟩:=hr.2 i r0 j x0 g1 h0;exact⟨v,k1,k2,hf _ _ k3⟩
def DX(q:Nat→Nat)(S:List Nat):List (Nat×Ag)→Ac→Prop
 | [],_=>True
 | (b,x) :: r,m=>(X3 (q b) S=false∧(m.get (q b)=some (x.AA q) ∨ ∃ k els,m.get (q b)=some (.cells k els)∧x.AA q=.cells k (FR m.get S els)))∧DX q S r m
theorem DX.get{q:Nat→Nat}{S:List Nat}:∀ {l:List (Nat×Ag)} {m:Ac},DX q S l m → ∀ b x,Y2 l b=some x→X3 (q b) S=false ∧ ∃ y,m.get (q b)=some y∧(x.AA q=y ∨ ∃ k els,y=.cells k els∧x.AA q=.cells k (FR m.get S els))
 | [],m,_,b,x,h=>by simp[Y2]at h
 | (c,y) :: r,m,hs,b,x,h=>by
  simp only[Y2]at h;split at h
  ·rename_i hb; subst hb; injection h with h; subst h
   refine⟨hs.1.1,?_⟩;rcases hs.1.2 with h1|⟨k,els,h1,h2⟩
   ·exact⟨_,h1,.inl rfl⟩
   ·exact⟨_,h1,.inr ⟨k,els,rfl,h2⟩⟩
  ·exact hs.2.get b x h
def yC(n0:Nat)(l:List (Nat×Nat))(S:List Nat)(e0:Env)(m0:Ac)(e:Env)(m:Ac):Prop:=
 n0≤m0.next∧n0≤m.next∧BY (Bz l n0 m0.next m.next) e0 e∧DX (Bz l n0 m0.next m.next) S m0.bl m∧Cz (Bz l n0 m0.next m.next) m0.bl
theorem RH{get:Nat→Option Ag}{n:Nat}:∀ {l:List (List Aa)},(∀ row,row∈l → ∀ x,x∈row→W3 get n x=some x)→T5 (T5 (W3 get n)) l=some l
 | [],_=>rfl
 | a :: r,h=>by
  have h1:T5 (W3 get n) a=some a:=by
   have ha:=h a (List.mem_cons_self ..);clear h
   induction a with
   | nil=>rfl
   | cons x t ih=>
    simp only[T5];rw[ha x (List.mem_cons_self ..),ih fun y hy=>ha y (List.mem_cons_of_mem _ hy)]
  simp only[T5];rw[h1,RH fun row hr=>h row (List.mem_cons_of_mem _ hr)]
theorem uF{get:Nat→Option Ag}{S:List Nat}{b k len:Nat}{els:List (List Aa)}(hb:X3 b S=true)(hg:get b=some (.cells k els))(hl:els.length=len)(hs:∀ row,row∈els → ∀ x,x∈row→W3 (E3 get S) 4 x=some x):EG get S (.sl b 0 len)=.An els:=by
 have h:E3 get S b=some (.cells k els):=by unfold E3; rw[hb]; exact hg
 subst hl;have h1:Nat.ble (0+els.length) els.length=true:=by rw[Nat.zero_add]; exact Nat.ble_self_eq_true _
 unfold EG;rw[W3];simp only[h,h1,cond_true,List.drop_zero,List.take_length,RH hs]
end Go.AE
end
