/- Part 22 of the proof: Kt, La. -/
import Derived.Test.YtggclbeocekgkaaGreatDoorP13
import Derived.Test.YtggclbeocekgkaaGreatDoorP16
import Derived.Test.YtggclbeocekgkaaGreatDoorP20
import Derived.Test.YtggclbeocekgkaaGreatDoorP21
set_option linter.all false
section
namespace Go.Ac
open Go Go.AE Go.Proofs
theorem Z4e:GD 147 ON:=gG Tryz.func147 Uj (by kernel_rfl)
theorem Z7m:GD 148 OO:=gG Tryz.func148 Uk (by kernel_rfl)
theorem Z9k:GD 218 HV:=gG Tryz.func218 rO (by kernel_rfl)
theorem Z3y:GD 277 HY:=gG Tryz.func277 wE (by kernel_rfl)
theorem Z7a:GD 219 HW:=gG Tryz.func219 nP (by kernel_rfl)
theorem Z2a:GD 145 HX:=gG Tryz.func145 xR (by kernel_rfl)
def tabL:List (Nat×As):=[(274,HM),(135,HI),(147,ON),(137,HK),(148,OO),(138,HL),(275,HN),(213,HD),(134,HH),(212,HT),(136,HJ),(218,HV),(88,HC),(245,Ie),(39,OS),(248,Ij),(247,Ih),(74,OU),(246,Ig),(296,Il),(176,Ns),(174,Ic),(253,Ny),(251,Nw),(177,Nt),(249,Nv),(297,Nz),(99,Ip),(154,Is),(155,It),(227,Iz),(156,NB),(157,NC),(233,NJ),(290,NN),(64,Io),(225,Ix),(102,Ir),(165,Iw),(159,ND),(161,NF),(232,NI),(163,Iu),(235,NK),(113,TQ),(112,TO),(111,TN),(172,TX),(110,TL),(170,TV),(11,zY),(66,Tx),(105,Tz),(35,Tu),(23,OK),(13,Ii),(96,OJ),(15,Ge),(277,HY),(40,Gd),(53,OL),(12,OQ),(34,TB),(37,TA),(36,TD),(22,TC),(33,zZ),(65,OM),(108,TJ),(38,OR),(41,HQ),(168,TT),(114,TR),(68,TG),(116,OW),(167,OX),(67,TF),(77,HP),(42,HR),(109,TK),(106,TH),(76,HG),(69,EV),(107,TI),(103,HE),(71,OT),(31,Ik),(101,NA),(231,NH),(100,Iq),(62,Im),(228,IA),(226,Iy),(173,Nk),(115,Ty),(241,Nn),(118,Nl),(187,No),(52,Tv),(75,OV),(230,IB),(211,HS),(215,IC),(104,HF),(229,NG),(171,TW),(169,TU),(273,HU),(164,Iv),(276,ID),(166,HO),(252,Nx),(289,NM),(240,Nu),(219,HW),(237,NL),(145,HX),(78,Np),(178,Nr),(117,Nq),(70,Tw)]
theorem Z2b:Lp Tryz.prog tabL:=⟨Z5y,Z88,Z4e,Z49,Z7m,Z54,Z0s,Z9q,Z1q,zq,Z9e,Z9k,Z7i,Z6y,fE,zo,Z02,fJ,wq,Z9o,Z87,Zzf,Z0c,Z9b,Z5k,Z5x,Z4h,y4,Z6l,Z8h,u7,Z9t,Z2o,Z3q,Z3n,Yde,Z40,Z18,Z4w,Z6b,Z1h,Z6i,Z5t,Z5a,fS,fR,fQ,gF,fP,gC,gq8,eS,eX,eG,eN,vr,eH,Z04,Z3y,Z9g,eU,fB,eZ,eY,fC,fA,gq9,eW,fN,fD,Z5v,fW,fT,fG,fU,fV,fF,Ydr,Z6x,fO,fL,Z22,fH,fM,Z7l,fI,yz,y5,Z16,Z2g,wg,Zz6,zl,za,eV,Zzi,v7,Z69,eO,fK,Z2q,Z7e,Zz1,Z1i,Z7o,gD,fZ,xd,Zzu,Z0x,Z6q,Z0t,Z1u,Z58,Z7a,Z6m,Z2a,Z81,Zzw,uj,eP,trivial⟩
def QZ:Tr As:=(.node (.node (.node (.node (.node (.node .nil (some Ik) (.node (.node .nil (some ND) .nil) none .nil)) (some Ge) (.node .nil none (.node .nil (some TN) .nil))) none (.node (.node (.node (.node .nil (some HI) .nil) (some OT) .nil) (some OS) (.node (.node .nil (some OX) .nil) (some HE) (.node .nil (some NH) .nil))) (some OK) (.node (.node .nil none (.node .nil (some IC) .nil)) none (.node .nil none (.node .nil (some Ih) .nil))))) none (.node (.node (.node (.node .nil (some TF) .nil) (some Tu) (.node (.node .nil (some Iu) .nil) (some Ip) (.node .nil (some Iz) .nil))) none (.node (.node (.node (.node .nil (some HN) .nil) (some ON) .nil) none (.node .nil (some HS) .nil)) none (.node .nil (some Ty) .nil))) (some zY) (.node (.node (.node .nil (some OV) .nil) none (.node (.node .nil (some TW) .nil) (some TI) (.node .nil (some NK) .nil))) none (.node (.node (.node .nil (some It) .nil) none (.node .nil (some HW) .nil)) none (.node (.node .nil (some No) .nil) none (.node .nil (some Nw) .nil)))))) none (.node (.node (.node (.node (.node .nil (some OM) .nil) (some zZ) (.node (.node (.node .nil (some NM) .nil) (some NF) .nil) none (.node .nil (some Ix) .nil))) none (.node (.node (.node (.node .nil (some HU) .nil) (some HX) .nil) none .nil) none (.node (.node .nil (some Nt) .nil) (some TQ) (.node .nil (some Nn) .nil)))) none (.node (.node (.node (.node .nil (some HK) .nil) none .nil) (some HQ) (.node (.node (.node .nil (some Nz) .nil) (some TU) .nil) (some Tz) (.node .nil (some NJ) .nil))) none (.node .nil none (.node .nil none (.node .nil (some Nv) .nil))))) none (.node (.node (.node (.node .nil (some EV) .nil) (some TA) (.node (.node .nil (some Iw) .nil) (some NA) (.node .nil (some NG) .nil))) none (.node (.node (.node (.node .nil (some HY) .nil) none .nil) none (.node .nil (some HD) .nil)) (some OL) (.node .nil (some Nq) (.node .nil (some Ie) .nil)))) (some Ii) (.node (.node (.node .nil (some HP) .nil) none (.node (.node .nil (some Nk) .nil) (some TK) (.node .nil (some NL) .nil))) none (.node (.node (.node .nil (some NC) .nil) none .nil) none (.node .nil none (.node .nil (some Ny) .nil))))))) none (.node (.node (.node (.node (.node (.node .nil (some Io) .nil) none (.node .nil (some OJ) .nil)) none (.node .nil none (.node (.node .nil (some Ns) .nil) (some TO) (.node .nil (some Nu) .nil)))) none (.node (.node (.node (.node .nil (some HJ) .nil) none .nil) (some Gd) (.node (.node (.node .nil (some Il) .nil) (some TT) .nil) (some HF) (.node .nil (some NI) .nil))) none (.node (.node .nil (some HC) .nil) none (.node .nil none (.node .nil (some Ij) .nil))))) none (.node (.node (.node (.node .nil (some TG) .nil) (some TD) (.node (.node .nil (some Iv) .nil) (some Iq) (.node .nil (some IA) .nil))) none (.node (.node (.node (.node .nil (some ID) .nil) (some OO) .nil) none (.node .nil (some HT) .nil)) (some Tv) (.node .nil (some OW) .nil))) (some OQ) (.node (.node (.node .nil (some HG) .nil) none (.node (.node .nil (some TX) .nil) (some TJ) .nil)) none (.node (.node (.node .nil (some NB) .nil) none .nil) none (.node .nil none (.node .nil (some Nx) .nil)))))) none (.node (.node (.node (.node (.node .nil (some Tx) .nil) (some TB) (.node (.node (.node .nil (some NN) .nil) none .nil) none (.node .nil (some Iy) .nil))) none (.node (.node (.node (.node .nil (some HM) .nil) none .nil) none .nil) none (.node (.node .nil (some Nr) .nil) (some TR) .nil))) none (.node (.node (.node (.node .nil (some HL) .nil) (some OU) .nil) (some HR) (.node (.node .nil (some TV) .nil) (some TH) .nil)) none (.node (.node (.node .nil (some Is) .nil) none (.node .nil (some HV) .nil)) none .nil))) none (.node (.node (.node (.node (.node .nil (some HH) .nil) (some Tw) .nil) (some OR) (.node (.node .nil (some HO) .nil) (some Ir) (.node .nil (some IB) .nil))) (some TC) (.node .nil none (.node .nil (some Nl) (.node .nil (some Ig) .nil)))) none (.node (.node (.node .nil (some Np) .nil) none (.node (.node .nil (some Ic) .nil) (some TL) .nil)) none (.node .nil (some Im) .nil))))))
theorem Z90:QZ=Rr tabL:=by kernel_rfl
theorem aI:SI Tryz.prog (Ye QZ):=Z6v Z2b Z90
theorem hm:Tryz.prog.follows .mixedOrders=true:=by kernel_rfl
abbrev Ds:=Ye QZ
def QU(l:List Aq):AP:=Pf l
theorem vM{l:List Aq}(h:Aq.Rh Tryz.prog l):D8 Tryz.prog (QU l):=Z13 h
theorem Y9{l:List Aq}(hl:Aq.Rh Tryz.prog l)(e:Aq)
 (h:(match runM Ds (QU l) e.g e.args with|some r=>N7 r e.v&&(X8 e.args&&e.v.closed)|none=>false)=true):e.Ok Tryz.prog:=
 xg hm aI (vM hl) e h
end Go.Ac
end
section
namespace Go.Ac
open Go Go.AE Go.Proofs
open Go.Plain
attribute [local simp] ZV Yg Zo aH Ym Zi Yi Yk A6 B4 A2 B9 A0 B5 YP Zl Q7 AG Env.get W3 Q9 Y6 Ad.at Ad.app Ad.get X2 Aa.cells Aa.one G7 J3 D6 I4 P0 U6 R8 Fo EJ F0 M3 IX T4 Ag vR yB O6 FT.indep I9 GL D7 Ed IS T3 T2 W2 EE FN FM
def Ab(l:Lt):List Aa:=[.int .i64 l.k,.int .i64 l.g,.int .i64 l.r,.int .i64 l.i,.int .i64 l.s,.bool l.o]
abbrev cV(f:Int)(ls:List Lt):Aa:=.agg [.int .i64 f,.Aj (ls.map Ab)]
theorem X5:∀ (ls:List Lt),U3 (ls.map Ab)=true
 | []=>rfl
 | l :: r=>by simp only[List.map_cons,U3,X5 r,Bool.and_true]; rfl
theorem SD(f:Int)(ls:List Lt):(cV f ls).closed=true:=by
 simp only[Aa.closed,X8,X5,Bool.and_self]
theorem G8{x:Int}(h1 : -9223372036854775808≤x)(h2:x<9223372036854775808):IntKind.i64.wrap x=x:=by
 simp only[IntKind.wrap,IntKind.bits,IntKind.signed]
 first|omega|(simp; omega)
theorem Y7(n:Int)(h:-9223372036854775808≤n∧n<9223372036854775808:=by omega):IntKind.i64.wrap n=n:=G8 h.1 h.2
theorem M2(n m:Int)(h:-9223372036854775808≤n∧n<9223372036854775808∧n=m:=by omega):IntKind.i64.wrap n=m:=(G8 h.1 h.2.1).trans h.2.2
structure Rows (ls:List Lt) (rows:List (List Aa)):Prop where
 len:rows.length=ls.length
 row:∀ i,i<ls.length→rows[i]? = some (Ab (at' ls i))
theorem E3(ls:List Lt):Rows ls (ls.map Ab):=⟨by simp,fun i h=>by
 rw[gM,gE h,at',List.getD,gE h];rfl⟩
theorem Vn{p:Lt→Bool}{ls:List Lt}{i:Nat}(h:i<ls.length):Z9 p (ls.take (i+1))=Z9 p (ls.take i)+(if p (at' ls i)then 1 else 0):=by
 rw[List.take_add_one,YL,at',List.getD,gE h];simp[Z9,List.filter_cons];split<;>rfl
theorem Zy{p:Lt→Bool}{ls:List Lt}(i:Nat):Z9 p (ls.take i)≤i:=by
 have h1:Z9 p (ls.take i)≤(ls.take i).length:=B3;rw[lK]at h1;omega
theorem Zn(a:Nat):Int.tmod (a:Int) 2=((a % 2:Nat):Int):=rfl
theorem si(a b:Nat):Int.tmod (a:Int) (b:Int)=((a % b:Nat):Int):=rfl
theorem r9(a:Nat):Int.tdiv (a:Int) 2=((a / 2:Nat):Int):=rfl
def X6(n i:Nat)(fw:Bool):Nat:=if fw then 2*i else 2*((i+n - 1) % n)+1
def Q4(ls:List Lt)(i:Nat):Nat→Nat→Nat
 | 0,_=>i
 | k+1,j=>if j != i&&Bg (at' ls j)&&(at' ls j).i == (at' ls i).i then j else Q4 ls i k (j+1)
abbrev Y3(l:List Nat):List (List Aa):=l.map fun(i:Nat)=>[Aa.int .i64 (i:Int)]
theorem bL:∀ (l:List Nat),U3 (Y3 l)=true
 | []=>rfl
 | x :: r=>by simp only[Y3,List.map_cons,U3]; exact bL r
theorem P7(f:Int)(ls:List Lt)(h:ls.length≤1000):Al Tryz.prog 40 [cV f ls] (.int .i64 (Z9 Bg ls:Nat)):=by
 refine wZ (by simp[X8,SD]) trivial (yA hm Tryz.func40 yC (Nat.le_of_ble_eq_true rfl) ?_)
 have hR:=E3 ls;unfold cV;generalize ls.map Ab=rows at hR;have hlen:=hR.len;simp[Gd,oR];refine wK (α:=Nat×Nat) (fun a=>[(9,.int .i64 a.1),(8,.int .i64 ls.length),(7,.Aj rows),(3,.int .i64 (Z9 Bg (ls.take a.1):Nat))]) (fun a=>⟨[],a.2⟩)
  (fun a=>ls.length - a.1) (fun a=>a.1≤ls.length) (0,8) (by simp[Z9,hlen]) (by simp) ?_
 rintro⟨i,q⟩ hi;have BT:=Zy (p:=Bg) (ls:=ls) i;simp only at hi ⊢;by_cases hlt:i<ls.length
 ·have hrow:=hR.row i hlt;obtain⟨hil,hrow2⟩:=gS.1 hrow;have hc:=Vn (p:=Bg) hlt;have hw1:=Y7 ((i:Int)+1);have hw2:IntKind.i64.wrap ((Z9 Bg (ls.take i):Nat)+1:Int)=(Z9 Bg (ls.take i):Nat)+1:=G8 (by omega) (by omega)
  generalize at' ls i=l at hrow hrow2 hc;by_cases hk:l.k=2
  ·simp[Bg,hk]at hc;simp[hlen,hlt,hrow2,Ab,hk,hw1,hw2];exact⟨(i+1,q+100),by simp; omega,by simp; omega,by simp[hc]<;>omega⟩
  ·simp[Bg,hk]at hc;simp[hlen,hlt,hrow2,Ab,hk,hw1];exact⟨(i+1,q+100),by simp; omega,by simp; omega,by simp[hc]<;>omega⟩
 ·have he:i=ls.length:=by omega
  subst he;simp[]
theorem P8(f:Int)(ls:List Lt)(h:ls.length≤1000):Al Tryz.prog 15 [cV f ls] (.int .i64 (Z9 Am ls:Nat)):=by
 refine wZ (by simp[X8,SD]) trivial (yA hm Tryz.func15 pT (Nat.le_of_ble_eq_true rfl) ?_)
 have hR:=E3 ls;unfold cV;generalize ls.map Ab=rows at hR;have hlen:=hR.len;simp[Ge,oR];refine wK (α:=Nat×Nat) (fun a=>[(9,.int .i64 a.1),(8,.int .i64 ls.length),(7,.Aj rows),(3,.int .i64 (Z9 Am (ls.take a.1):Nat))]) (fun a=>⟨[],a.2⟩)
  (fun a=>ls.length - a.1) (fun a=>a.1≤ls.length) (0,8) (by simp[Z9,hlen]) (by simp) ?_
 rintro⟨i,q⟩ hi;have BT:=Zy (p:=Am) (ls:=ls) i;simp only at hi ⊢;by_cases hlt:i<ls.length
 ·have hrow:=hR.row i hlt;obtain⟨hil,hrow2⟩:=gS.1 hrow;have hc:=Vn (p:=Am) hlt;have hw1:=Y7 ((i:Int)+1);have hw2:IntKind.i64.wrap ((Z9 Am (ls.take i):Nat)+1:Int)=(Z9 Am (ls.take i):Nat)+1:=G8 (by omega) (by omega)
  generalize at' ls i=l at hrow hrow2 hc;by_cases hk:l.k=1
  ·simp[Am,hk]at hc;simp[hlen,hlt,hrow2,Ab,hk,hw1,hw2];exact⟨(i+1,q+100),by simp; omega,by simp; omega,by simp[hc]<;>omega⟩
  ·simp[Am,hk]at hc;simp[hlen,hlt,hrow2,Ab,hk,hw1];exact⟨(i+1,q+100),by simp; omega,by simp; omega,by simp[hc]<;>omega⟩
 ·have he:i=ls.length:=by omega
  subst he;simp[]
end Go.Ac
end
