/- Part 46 of the proof: Ye, Yg, Yi, Yj, Yo. -/
import Derived.Test.YtipeejpafgnjdaaGreatDoorH12
import Derived.Test.YtipeejpafgnjdaaGreatDoorH23
import Derived.Test.YtipeejpafgnjdaaGreatDoorH31
import Derived.Test.YtipeejpafgnjdaaGreatDoorH40
import Derived.Test.YtipeejpafgnjdaaGreatDoorH43
import Derived.Test.YtipeejpafgnjdaaGreatDoorH44
import Derived.Test.YtipeejpafgnjdaaGreatDoorH45
set_option linter.all false
section
namespace Go.Known
open Go Go.AE Go.Proofs
open Go.Plain
theorem Zfe(rows:List (List AVal)):(imV rows).one=true:=by unfold imV; split<;>rfl
theorem Ze6(rows:List (List AVal)):(imV rows).cells=some [imV rows]:=by unfold imV; split<;>rfl
theorem Znw{l:List Nat}(h:l≠[]):¬Z0 l=[]:=by simpa[Z0]using h
theorem Ydd{l:List Nat}{i:Nat}(h:i<l.length):l.getD i 0=l[i]:=by rw[List.getD,gE h]; rfl
theorem Zm2{l:List Nat}{i:Nat}(h:i<l.length):(Z0 l)[i]? = some [.int .i64 (l.getD i 0:Nat)]:=D6 (by rw[Ydd h]; exact gE h)
end Go.Known
end
section
namespace Go.Known
open Go Go.AE Go.Proofs
open Go.Plain
theorem Yeh{P:Program}{f:FuncId}{args:List AVal}{m:SMem}{K K':AVal→SMem→Prop}(h:Ctr P f args m K)(hk:∀ r sm,K r sm → ∃ mt,Trim mt sm∧K' r mt):Ctr P f args m K':=by
 refine⟨h.1,fun W Φ ρ vs w hr ha hav=>(h.2 W Φ ρ vs w hr ha hav).mono fun e w' he=>?_⟩
 obtain⟨u,r,m1,Φ',ρ',e1,hE,hk1,hr',hR,hn,sm,rfl,hK⟩:=he;obtain⟨mt,ht,hK'⟩:=hk r sm hK;exact⟨u,r,mt.mem,Φ',ρ',e1,hE,hk1,ht.rel hr',hR,by show m.mem.next≤mt.next; rw[← ht.1]; exact hn,mt,rfl,hK'⟩
theorem Z37(k:Nat)(els rest:List (List AVal))(n:Nat):Trim ⟨[(1,.cells k els)],n⟩ ⟨[(1,.cells k (els++rest))],n⟩:=by
 refine⟨rfl,fun b x hx=>?_⟩
 simp only[SMem.get,Z8]at hx ⊢;split at hx
 ·rename_i hb;injection hx with hx
  subst hx;exact .inr ⟨k,els,rest,rfl,by rw[if_pos hb]⟩
 ·cases hx
set_option maxRecDepth 100000 in
set_option maxHeartbeats 2000000 in
theorem Z0f(rows:List (List AVal))(i:Nat)(hi:i+2≤rows.length)(hl:rows.length≤100000)(hc:X8 rows=true) :
 Ctr Tryz.prog 152 [.sl 1 0 rows.length,.int .i64 i,.int .i64 ((i+2:Nat):Int)] ⟨[(1,.cells 1 rows)],2⟩ fun v m=>
  v=.sl 1 0 (rows.length - 2)∧m=⟨[(1,.cells 1 (rows.take i++rows.drop (i+2)))],2⟩:=by
 refine Yeh (K:=fun v m=>v=.sl 1 0 (rows.length - 2)∧m=⟨[(1,.cells 1 ((rows.take i++rows.drop (i+2))++List.replicate 2 [.int .i64 0]))],2⟩) ?_ fun r sm hk=>by
  obtain⟨rfl,rfl⟩:=hk;exact⟨_,Z37 1 _ _ 2,rfl,rfl⟩
 refine J7 hm Tryz.func152 cf98 rfl rfl fun K hK=>?_
 have hK':=hK _ _ ⟨rfl,rfl⟩;clear hK;have hr:∀ q,Z3 q rows=rows:=fun q=>Y6 q _ hc
 obtain⟨j,hj⟩:∃ j,i+2=j:=⟨_,rfl⟩
 have h1:i≤j:=by omega
 have h2:j≤rows.length:=by omega
 have h3:¬(i:Int)=(j:Int):=by omega
 have h3':¬i=j:=by omega
 have h4:¬rows.length=0:=by omega
 have h7:i≤rows.length:=by omega
 have h9:¬rows=[]:=fun e=>h4 (by rw[e]; rfl)
 have hb:min (rows.length - j) (rows.length - j)=rows.length - j:=by omega
 have hd:i+(rows.length - j)=rows.length - 2:=by omega
 have h8:i+(rows.length - j)≤rows.length:=by omega
 have he:rows.length - 2≤rows.length:=by omega
 have hk:rows.length - (rows.length - 2)=2:=by omega
 have hl2:(rows.drop j).take (rows.length - j)=rows.drop j:=List.take_of_length_le (by simp)
 have hg:(rows.take i++rows.drop j).length=rows.length - 2:=by simp; omega
 rw[hj]at hK' ⊢;simp[hb,hd,he,hk,hl2,Zj8,h1,h2,h3,h3',h4,h7,h8,h9,P7];have hA:rows.take i++(rows.drop j++rows.drop (rows.length - 2))=(rows.take i++rows.drop j)++rows.drop (rows.length - 2):=by rw[List.append_assoc]
 have hF1:(rows.take i++(rows.drop j++rows.drop (rows.length - 2))).take (rows.length - 2)=rows.take i++rows.drop j:=by
  rw[hA,List.take_append_of_le_length (by omega),List.take_of_length_le (by omega)]
 have hF2:(rows.take i++(rows.drop j++rows.drop (rows.length - 2))).drop rows.length=[]:=List.drop_eq_nil_of_le (by simp; omega)
 have hF3:(rows.take i++(rows.drop j++rows.drop (rows.length - 2))).length=rows.length:=by simp; omega
 generalize hFF:rows.take i++(rows.drop j++rows.drop (rows.length - 2))=F at *;have hn1:rows.length - 2+2=rows.length:=by omega
 have hm0:rows.length≤i+(rows.length - j+2)+2:=by omega
 have hm1:rows.length≤i+(rows.length - j+2):=by omega
 have hm3:rows.length≤F.length:=by omega
 simp[hm0,hm1,hm3,hk,hF1,hF2,hn1];have hr1:∀ q,Z3 q (rows.take i)=rows.take i:=fun q=>by rw[K7,List.map_take,← K7,hr]
 have hr2:∀ q,Z3 q (rows.drop j)=rows.drop j:=fun q=>by rw[K7,List.map_drop,← K7,hr]
 exact Y1 hK' [] (by simp[hr1,hr2])
end Go.Known
end
section
namespace Go.Known
open Go Go.AE Go.Proofs
open Go.Plain
attribute [local simp] Zjz Zkx Zl5 Zkn Zmn Zm1 Zlq Zj6 Zkw Znl Zka Zlp Zj9 Zks Zru Zn1 Zkr Znd Zmx Zj3 Zo6 Zmu Zqz
theorem Z7f(els rest:List (List AVal))(n:Nat)(t:List (Nat×ABlk)):Trim ⟨[(1,.cells 1 els)],n⟩ ⟨(1,.cells 1 (els++rest)) :: t,n⟩:=by
 refine⟨rfl,fun b x hx=>?_⟩
 simp only[SMem.get,Z8]at hx ⊢;split at hx
 ·rename_i hb;injection hx with hx
  subst hx;exact .inr ⟨1,els,rest,rfl,by rw[if_pos hb]⟩
 ·cases hx
theorem endI{K:AVal→SMem→Prop}{k n:Nat}{els F:List (List AVal)}{t:List (Nat×ABlk)}(hK:K (.sl 3 0 k) ⟨[(3,.cells 1 els)],4⟩)(hF:F.take els.length=els)(hr:∀ q,Z3 q els=els)(hn:3≤n):EndT 3 K (.sl 1 0 k) ⟨(1,.cells 1 F) :: t,n⟩:=by
 have e:F=els++F.drop els.length:=by conv=>lhs; rw[← List.take_append_drop els.length F,hF]
 rw[e];exact⟨_,Z7f els _ n t,Y1 hK [(3,1)] (by simp[hr,hn])⟩
set_option maxRecDepth 100000 in
set_option maxHeartbeats 8000000 in
theorem Z2x(A V:List (List AVal))(i:Nat)(hi:i<A.length)(hl:A.length≤100000)(hV:V≠[])(hvl:V.length≤10)(hv1:(V.all fun x=>x.length == 1)=true)(hcA:X8 A=true)(hcV:X8 V=true) :
 Ctr Tryz.prog 156 [.sl 1 0 A.length,.int .i64 i,.int .i64 A.length,.sl 2 0 V.length] ⟨[(1,.cells 1 A),(2,.cells 1 V)],3⟩ fun r m=>r=.sl 3 0 (i+V.length)∧m=⟨[(3,.cells 1 (A.take i++V))],4⟩:=by
 refine Zrk (b:=1) (k:=1) (els:=A) hm Zll Tryz.func156 Zk8 rfl rfl rfl fun K hK N hN=>?_
 have hrA:∀ q,Z3 q A=A:=fun q=>Y6 q _ hcA
 have hrV:∀ q,Z3 q V=V:=fun q=>Y6 q _ hcV
 have hrT:∀ q,Z3 q (A.take i)=A.take i:=fun q=>by rw[K7,List.map_take,← K7,hrA]
 have hK':=hK _ _ ⟨rfl,rfl⟩;clear hK;obtain⟨E,hE⟩:∃ E,A++List.replicate (N - A.length) (List.replicate 1 AVal.bot)=E:=⟨_,rfl⟩
 have hpad:padS ⟨[(1,.cells 1 A),(2,.cells 1 V)],3⟩ 1 1 A N=⟨[(1,.cells 1 E),(1,.cells 1 A),(2,.cells 1 V)],3⟩:=by rw[← hE]; rfl
 have hEl:E.length=N:=by rw[← hE]; simp; omega
 have hEt:∀ j,j≤A.length→E.take j=A.take j:=fun j hj=>by rw[← hE,List.take_append_of_le_length hj]
 rw[hpad];clear hpad hE;have h1:i≤A.length:=by omega
 have h2:i≤N:=by omega
 have h3:¬i=A.length:=by omega
 have h3':¬(i:Int)=(A.length:Int):=by omega
 have h4:¬N<i:=by omega
 have h5:i+V.length≤1048576:=by omega
 have h6:min i N=i:=by omega
 have hEti:=hEt i h1;by_cases hroom:N<i+V.length
 ·have h7:¬i+V.length<A.length:=by omega
  have h7':¬(i:Int)+(V.length:Int)<(A.length:Int):=by omega
  simp[h1,h2,h3,h3',h4,h5,h6,h7,h7',hN,hEl,hroom,R2,Ze9,hEti];refine⟨_,Trim.refl _,?_⟩;exact Y1 hK' [(3,19)] (by simp[hrT,hrV])
 ·have h8:i+V.length≤N:=by omega
  obtain⟨F,hF⟩:∃ F,E.take i++V++E.drop (i+V.length)=F:=⟨_,rfl⟩
  have hFl:F.length=N:=by rw[← hF]; simp; omega
  have hFt:F.take (i+V.length)=A.take i++V:=by
   rw[← hF,hEti,List.take_append_of_le_length (by simp; omega),List.take_of_length_le (by simp; omega)]
  have hF':A.take i++(V++E.drop (i+V.length))=F:=by rw[← hF,hEti,List.append_assoc]
  have hrE:∀ q,Z3 q (A.take i++V)=A.take i++V:=fun q=>by rw[Zkh,hrT,hrV]
  have hlen:(A.take i++V).length=i+V.length:=by simp; omega
  have ht:((i:Int)+(V.length:Int)).toNat=i+V.length:=by omega
  have hp:(0:Int)≤(i:Int)+(V.length:Int):=by omega
  by_cases hsh:i+V.length<A.length
  ·have h7:(i:Int)+(V.length:Int)<(A.length:Int):=by omega
   have h9:i+V.length≤A.length:=by omega
   have ha:i+V.length+(A.length - (i+V.length))=A.length:=by omega
   simp[h1,h2,h3,h3',h4,h5,h6,hsh,h7,hN,hEl,hroom,R2,Ze9,hEti,h8,hF',hFl,P7,ht,hp,h9,ha];exact endI hK' (by rw[hlen,hFt]; rw[List.take_append_of_le_length (by simp; omega),List.take_of_length_le (by simp; omega)]) hrE (by omega)
  ·have h7:¬(i:Int)+(V.length:Int)<(A.length:Int):=by omega
   simp[h1,h2,h3,h3',h4,h5,h6,hsh,h7,hN,hEl,hroom,R2,Ze9,hEti,h8,hF',hFl,P7];exact endI hK' (by rw[hlen,hFt]) hrE (by omega)
end Go.Known
end
section
namespace Go.Known
open Go Go.AE Go.Proofs
open Go.Plain
attribute [local simp] Zjz Zkx Zl5 Zkn Zmn Zm1 Zlq Zj6 Zkw Znl Zka Zlp Zj9 Zks Zru Zn1 Zkr Znd Zmx Zj3 Zo6 Zmu Zqz
set_option maxRecDepth 100000 in
set_option maxHeartbeats 8000000 in
theorem Yc8(A V:List (List AVal))(i j:Nat)(hij:i<j)(hj:j<A.length)(hl:A.length≤100000)(hV:V≠[])(hvl:V.length≤10)(hcA:X8 A=true)(hcV:X8 V=true) :
 Ctr Tryz.prog 156 [.sl 1 0 A.length,.int .i64 i,.int .i64 j,.sl 2 0 V.length] ⟨[(1,.cells 1 A),(2,.cells 1 V)],3⟩ fun r m=>r=.sl 3 0 (i+V.length+(A.length - j))∧m=⟨[(3,.cells 1 (A.take i++V++A.drop j))],4⟩:=by
 refine Zrk (b:=1) (k:=1) (els:=A) hm Zll Tryz.func156 Zk8 rfl rfl rfl fun K hK N hN=>?_
 have hrA:∀ q,Z3 q A=A:=fun q=>Y6 q _ hcA
 have hrV:∀ q,Z3 q V=V:=fun q=>Y6 q _ hcV
 have hrT:∀ q,Z3 q (A.take i)=A.take i:=fun q=>by rw[K7,List.map_take,← K7,hrA]
 have hrD:∀ q,Z3 q (A.drop j)=A.drop j:=fun q=>by rw[K7,List.map_drop,← K7,hrA]
 have hK':=hK _ _ ⟨rfl,rfl⟩;clear hK;obtain⟨E,hE⟩:∃ E,A++List.replicate (N - A.length) (List.replicate 1 AVal.bot)=E:=⟨_,rfl⟩
 have hpad:padS ⟨[(1,.cells 1 A),(2,.cells 1 V)],3⟩ 1 1 A N=⟨[(1,.cells 1 E),(1,.cells 1 A),(2,.cells 1 V)],3⟩:=by rw[← hE]; rfl
 have hEl:E.length=N:=by rw[← hE]; simp; omega
 have hEt:∀ j,j≤A.length→E.take j=A.take j:=fun j hj=>by rw[← hE,List.take_append_of_le_length hj]
 have hEd:(E.drop j).take (A.length - j)=A.drop j:=by rw[← List.drop_take,hEt _ (Nat.le_refl _),List.take_length]
 rw[hpad];clear hpad hE;have hEti:=hEt i (by omega)
 have hrE:∀ q,Z3 q (A.take i++V++A.drop j)=A.take i++V++A.drop j:=fun q=>by rw[Zkh,Zkh,hrT,hrV,hrD]
 have hlen:(A.take i++V++A.drop j).length=i+V.length+(A.length - j):=by simp; omega
 obtain⟨im,him⟩:∃ im,i+V.length=im:=⟨_,rfl⟩
 obtain⟨rl,hrl⟩:∃ rl,A.length - j=rl:=⟨_,rfl⟩
 obtain⟨tot,htot⟩:∃ tot,im+rl=tot:=⟨_,rfl⟩
 have hvp:0<V.length:=List.length_pos_iff.2 hV;have hw1:IntKind.i64.wrap ((i:Int)+(V.length:Int))=(im:Int):=by rw[Z6 (by omega) (by omega)]; omega
 have hw2:IntKind.i64.wrap ((im:Int)+(rl:Int))=(tot:Int):=by rw[Z6 (by omega) (by omega)]; omega
 have hw3:IntKind.i64.wrap ((tot:Int) - (i:Int))=((tot - i:Nat):Int):=by rw[Z6 (by omega) (by omega)]; omega
 have a1:i≤j:=by omega
 have a2:j≤N:=by omega
 have a3:¬(i:Int)=(j:Int):=by omega
 have a3':¬i=j:=by omega
 have a4:¬(j:Int)=(A.length:Int):=by omega
 have a4':¬j=A.length:=by omega
 have a5:i≤A.length:=by omega
 have a6:j≤A.length:=by omega
 have a7:i≤N:=by omega
 rw[him,hrl,htot]at hK';rw[hrl]at hEd;by_cases hroom:N<tot
 ·have b1:(N:Int)<(tot:Int):=by omega
  have b2:i+(tot - i)=tot:=by omega
  have b3:tot≤1048576:=by omega
  have b4:i≤tot:=by omega
  have b5:im≤tot:=by omega
  have b6:min i N=i:=by omega
  obtain⟨G,hG⟩:∃ G,A.take i++V++List.replicate rl [AVal.int .i64 0]=G:=⟨_,rfl⟩
  have hGl:G.length=tot:=by rw[← hG]; simp; omega
  have hx1:cpR (A.take i++List.replicate (tot - i) [AVal.int .i64 0]) i (tot - i) V=G:=by
   have e1:A.take i++List.replicate (tot - i) [AVal.int .i64 0]=A.take i++List.replicate V.length [AVal.int .i64 0]++List.replicate rl [AVal.int .i64 0]:=by
    rw[List.append_assoc,List.replicate_append_replicate,show V.length+rl=tot - i by omega]
   rw[e1,Zgj (by simp; omega) (by simp) (by omega),hG]
  have hx2:cpR G im (tot - im) (A.drop j)=A.take i++V++A.drop j:=by
   have e3:=Zgj (P:=A.take i++V) (Q:=List.replicate rl [AVal.int .i64 0]) (S:=[]) (xs:=A.drop j) (off:=im) (len:=tot - im) (by simp; omega) (by simp; omega) (by simp; omega)
   rw[List.append_nil,List.append_nil,hG]at e3;exact e3
  have b7:j+rl=A.length:=by omega
  have b8:i+(tot - i)=tot:=by omega
  have b9:im+(tot - im)=tot:=by omega
  simp[hw1,hw2,hw3,a1,a2,a3,a3',a4,a4',a5,a6,a7,hN,hEl,hroom,b1,b2,b3,b4,b5,b6,b7,b8,b9,hrl,R2,Zml,Ze9,hEti,hx1,hGl,hEd,hx2];refine⟨_,Trim.refl _,?_⟩;rw[List.append_assoc]at hK' hrE;exact Y1 hK' [(3,38)] (by simp[hrE])
 ·have b1:¬(N:Int)<(tot:Int):=by omega
  have b2:tot≤N:=by omega
  have b4:i≤tot:=by omega
  have b5:im≤tot:=by omega
  have b7:j+rl=A.length:=by omega
  have b8:i+(tot - i)=tot:=by omega
  have b9:im+(tot - im)=tot:=by omega
  have hEs:E=A.take i++(E.drop i).take V.length++E.drop im:=by
   rw[← hEti,← him,← List.drop_drop,List.append_assoc,List.take_append_drop,List.take_append_drop]
  have hEm:E.drop im=(E.drop im).take rl++E.drop tot:=by
   rw[← htot,← List.drop_drop,List.take_append_drop]
  have hti:(A.take i).length=i:=by simp; omega
  have hdj:(A.drop j).length=rl:=by simp; omega
  have hfin:∀ R:List (List AVal),(A.take i++V++A.drop j++R).take (A.take i++V++A.drop j).length=A.take i++V++A.drop j:=fun R=>by rw[List.take_append_of_le_length (Nat.le_refl _),List.take_length]
  by_cases hsh:im≤j
  ·have c1:(im:Int)≤(j:Int):=by omega
   obtain⟨G,hG⟩:∃ G,A.take i++V++E.drop im=G:=⟨_,rfl⟩
   have hGl:G.length=N:=by rw[← hG]; simp; omega
   have hx1:cpR E i (tot - i) V=G:=by
    have e1:=Zgj (P:=A.take i) (Q:=(E.drop i).take V.length) (S:=E.drop im) (xs:=V) (off:=i) (len:=tot - i) hti (by simp; omega) (by omega)
    rw[← hEs,hG]at e1;exact e1
   have hGd:(G.drop j).take rl=A.drop j:=by
    rw[← hG,List.drop_append,List.drop_eq_nil_of_le (by simp; omega),List.nil_append,List.drop_drop]
    have:im+(j - (A.take i++V).length)=j:=by rw[List.length_append,hti]; omega
    rw[this,hEd]
   obtain⟨H,hH⟩:∃ H,A.take i++V++A.drop j++E.drop tot=H:=⟨_,rfl⟩
   have hHl:H.length=N:=by rw[← hH]; simp; omega
   have hx2:cpR G im (tot - im) (A.drop j)=H:=by
    have e1:=Zgj (P:=A.take i++V) (Q:=(E.drop im).take rl) (S:=E.drop tot) (xs:=A.drop j) (off:=im) (len:=tot - im) (by rw[List.length_append,hti]; omega) (by rw[hdj]; simp; omega) (by omega)
    rw[List.append_assoc _ _ (E.drop tot),← hEm,hG,hH]at e1;exact e1
   have hHt:H.take tot=A.take i++V++A.drop j:=by
    have:=hfin (E.drop tot);rw[hH,hlen,him,hrl,htot]at this;exact this
   have b10:tot≤A.length:=by omega
   have b11:tot+(A.length - tot)=A.length:=by omega
   simp[hw1,hw2,hw3,a1,a2,a3,a3',a4,a4',a5,a6,a7,hN,hEl,hroom,b1,b2,b4,b5,b7,b8,b9,c1,hsh,hrl,R2,Zml,Ze9,hEti,hEd,hx1,hGl,hGd,hx2,hHl,b10,b11];refine endI hK' ?_ hrE (by omega)
   rw[hlen,him,hrl,htot,hHt];have:=hfin (List.replicate (A.length - tot) [AVal.int .i64 0]++H.drop A.length);rw[hlen,him,hrl,htot]at this;exact this
  ·have c1:¬(im:Int)≤(j:Int):=by omega
   obtain⟨G,hG⟩:∃ G,E.take im++A.drop j++E.drop tot=G:=⟨_,rfl⟩
   have hGl:G.length=N:=by rw[← hG]; simp; omega
   have hx1:cpR E im (tot - im) (A.drop j)=G:=by
    have e1:=Zgj (P:=E.take im) (Q:=(E.drop im).take rl) (S:=E.drop tot) (xs:=A.drop j) (off:=im) (len:=tot - im) (by simp; omega) (by rw[hdj]; simp; omega) (by omega)
    rw[List.append_assoc _ _ (E.drop tot),← hEm,List.take_append_drop,hG]at e1;exact e1
   obtain⟨H,hH⟩:∃ H,A.take i++V++A.drop j++E.drop tot=H:=⟨_,rfl⟩
   have hHl:H.length=N:=by rw[← hH]; simp; omega
   have hx2:cpR G i (tot - i) V=H:=by
    have e0:E.take im=A.take i++(E.drop i).take V.length:=by
     rw[← him,List.take_add,hEti]
    have e1:=Zgj (P:=A.take i) (Q:=(E.drop i).take V.length) (S:=A.drop j++E.drop tot) (xs:=V) (off:=i) (len:=tot - i) hti (by simp; omega) (by omega)
    rw[← e0,← List.append_assoc,hG,← List.append_assoc,hH]at e1;exact e1
   have hov:ovOk ⟨[(1,.cells 1 E),(1,.cells 1 A),(2,.cells 1 V)],51⟩ [AVal.sl 1 im (tot - im),AVal.sl 2 0 V.length]:=⟨by omega,by omega,hvp,Nat.zero_lt_one,Nat.zero_lt_one⟩
   simp[hw1,hw2,hw3,a1,a2,a3,a3',a4,a4',a5,a6,a7,hN,hEl,hroom,b1,b2,b4,b5,b7,b8,b9,c1,hsh,hrl,R2,Zml,Ze9,hEti,hEd,hx1,hGl,hx2,hov];refine endI hK' ?_ hrE (by omega)
   have:=hfin (E.drop tot);rw[hH]at this;exact this
end Go.Known
end
section
namespace Go.Known
open Go Go.AE Go.Proofs
open Go.Plain
attribute [local simp] Zjz Zkx Zl5 Zkn Zmn Zm1 Zlq Zj6 Zkw Znl Zka Zlp Zj9 Zks Zru Zn1 Zkr Znd Zmx Zj3 Zo6 Zmu Zqz
set_option maxRecDepth 100000 in
set_option maxHeartbeats 8000000 in
theorem Yc6(A:List (List AVal))(i j:Nat)(hij:i<j)(hj:j≤A.length)(hl:A.length≤100000)(hcA:X8 A=true) :
 Ctr Tryz.prog 156 [.sl 1 0 A.length,.int .i64 i,.int .i64 j,.nilSl] ⟨[(1,.cells 1 A)],3⟩ fun r m=>r=.sl 3 0 (i+(A.length - j))∧m=⟨[(3,.cells 1 (A.take i++A.drop j))],4⟩:=by
 refine Zrk (b:=1) (k:=1) (els:=A) hm Zll Tryz.func156 Zk8 rfl rfl rfl fun K hK N hN=>?_
 have hrA:∀ q,Z3 q A=A:=fun q=>Y6 q _ hcA
 have hrT:∀ q,Z3 q (A.take i)=A.take i:=fun q=>by rw[K7,List.map_take,← K7,hrA]
 have hrD:∀ q,Z3 q (A.drop j)=A.drop j:=fun q=>by rw[K7,List.map_drop,← K7,hrA]
 have hK':=hK _ _ ⟨rfl,rfl⟩;clear hK;obtain⟨E,hE⟩:∃ E,A++List.replicate (N - A.length) (List.replicate 1 AVal.bot)=E:=⟨_,rfl⟩
 have hpad:padS ⟨[(1,.cells 1 A)],3⟩ 1 1 A N=⟨[(1,.cells 1 E),(1,.cells 1 A)],3⟩:=by rw[← hE]; rfl
 have hEl:E.length=N:=by rw[← hE]; simp; omega
 have hEt:∀ j,j≤A.length→E.take j=A.take j:=fun j hj=>by rw[← hE,List.take_append_of_le_length hj]
 have hEd:(E.drop j).take (A.length - j)=A.drop j:=by rw[← List.drop_take,hEt _ (Nat.le_refl _),List.take_length]
 rw[hpad];clear hpad hE;have hEti:=hEt i (by omega)
 have hrE:∀ q,Z3 q (A.take i++A.drop j)=A.take i++A.drop j:=fun q=>by rw[Zkh,hrT,hrD]
 have hlen:(A.take i++A.drop j).length=i+(A.length - j):=by simp; omega
 obtain⟨rl,hrl⟩:∃ rl,A.length - j=rl:=⟨_,rfl⟩
 obtain⟨tot,htot⟩:∃ tot,i+rl=tot:=⟨_,rfl⟩
 have hw2:IntKind.i64.wrap ((i:Int)+(rl:Int))=(tot:Int):=by rw[Z6 (by omega) (by omega)]; omega
 have hw0:IntKind.i64.wrap (i:Int)=(i:Int):=Z6 (by omega) (by omega)
 have a1:i≤j:=by omega
 have a2:j≤N:=by omega
 have a3:¬(i:Int)=(j:Int):=by omega
 have a3':¬i=j:=by omega
 have a5:i≤A.length:=by omega
 have a7:i≤N:=by omega
 have a8:¬N<i:=by omega
 have a9:min i N=i:=by omega
 have a10:i<A.length:=by omega
 have a11:(i:Int)<(A.length:Int):=by omega
 have a12:i+(A.length - i)=A.length:=by omega
 have a13:i≤i+(N - i):=by omega
 rw[hrl,htot]at hK';rw[hrl]at hEd;by_cases hje:j=A.length
 ·have h0:rl=0:=by omega
  have h1:tot=i:=by omega
  have h2:A.drop j=[]:=List.drop_eq_nil_of_le (by omega)
  subst h1;rw[h2,List.append_nil]at hK' hrE hlen;have e1:A.take tot++E.drop tot=E:=by rw[← hEti,List.take_append_drop]
  have e2:tot+(E.length - tot)=N:=by omega
  have a14:¬(tot:Int)=(A.length:Int):=by omega
  have a15:¬tot=A.length:=by omega
  simp[a1,a2,a3,a3',a5,a7,a8,a9,a10,a11,a12,a14,a15,hN,hEl,hje,R2,Ze9,hEti,P7,e1,e2,Znx];have hlt:(A.take tot).length=tot:=by simp; omega
  exact endI hK' (by rw[List.take_left]) hrE (by omega)
 ·have a4:¬(j:Int)=(A.length:Int):=by omega
  have b1:¬(N:Int)<(tot:Int):=by omega
  have b1':¬N<tot:=by omega
  have b2:tot≤N:=by omega
  have b4:i≤tot:=by omega
  have b7:j+rl=A.length:=by omega
  have b8:i+(tot - i)=tot:=by omega
  have a6:j≤A.length:=by omega
  have hti:(A.take i).length=i:=by simp; omega
  have hdj:(A.drop j).length=rl:=by simp; omega
  have hx0:cpR E i (tot - i) []=E:=by
   unfold cpR;simp
  have hEm:E=A.take i++(E.drop i).take rl++E.drop tot:=by
   rw[← hEti,← htot,← List.drop_drop,List.append_assoc,List.take_append_drop,List.take_append_drop]
  obtain⟨H,hH⟩:∃ H,A.take i++A.drop j++E.drop tot=H:=⟨_,rfl⟩
  have hHl:H.length=N:=by rw[← hH]; simp; omega
  have hx2:cpR E i (tot - i) (A.drop j)=H:=by
   have e1:=Zgj (P:=A.take i) (Q:=(E.drop i).take rl) (S:=E.drop tot) (xs:=A.drop j) (off:=i) (len:=tot - i) hti (by rw[hdj]; simp; omega) (by omega)
   rw[← hEm,hH]at e1;exact e1
  have hHt:H.take tot=A.take i++A.drop j:=by
   rw[← hH,List.take_append_of_le_length (by rw[hlen,hrl]; omega),List.take_of_length_le (by rw[hlen,hrl]; omega)]
  have b10:tot≤A.length:=by omega
  have b11:tot+(A.length - tot)=A.length:=by omega
  have b12:(i:Int)≤(j:Int):=by omega
  simp[hw0,hw2,a1,a2,a3,a3',a4,hje,a5,a6,a7,hN,hEl,b1,b1',b2,b4,b7,b8,b10,b11,b12,hrl,R2,Zml,Ze9,hEti,hEd,Znx,hx0,hx2,hHl];refine endI hK' ?_ hrE (by omega)
  rw[hlen,hrl,htot,hHt,List.take_append_of_le_length (by rw[hlen,hrl]; omega),List.take_of_length_le (by rw[hlen,hrl]; omega)]
theorem Z1r(A V:List Nat)(i j:Nat)(hij:i<j)(hj:j≤A.length)(hl:A.length≤100000)(hvl:V.length≤10) :
 Ctr Tryz.prog 156 [.sl 1 0 A.length,.int .i64 i,.int .i64 j,slV 2 (Z0 V)] ⟨(1,.cells 1 (Z0 A)) :: blV 2 1 (Z0 V) [],3⟩ fun r m=>r=.sl 3 0 (A.take i++V++A.drop j).length∧m=⟨[(3,.cells 1 (Z0 (A.take i++V++A.drop j)))],4⟩:=by
 have hA:(Z0 A).length=A.length:=M0 A;have hVl:(Z0 V).length=V.length:=M0 V;have e:Z0 (A.take i++V++A.drop j)=(Z0 A).take i++Z0 V++(Z0 A).drop j:=by simp[Z0]
 have hlen:(A.take i++V++A.drop j).length=i+V.length+(A.length - j):=by simp; omega
 rw[e,hlen];by_cases hV:V=[]
 ·subst hV;have:=Yc6 (Z0 A) i j hij (by rw[hA]; exact hj) (by rw[hA]; exact hl) (G0 _)
  rw[hA]at this;simpa[slV,blV]using this
 ·have hVn:=Znw hV;rw[Zet hVn,Zd7 hVn];by_cases hje:j=A.length
  ·have:=Z2x (Z0 A) (Z0 V) i (by rw[hA]; omega) (by rw[hA]; exact hl) hVn (by rw[hVl]; exact hvl) (by simp[Z0]) (G0 _) (G0 _)
   have h2:(Z0 A).drop j=[]:=List.drop_eq_nil_of_le (by rw[hA]; omega)
   rw[h2,List.append_nil,show A.length - j=0 by omega,Nat.add_zero,hje]
   rw[hA,hVl]at this;rw[hVl];exact this
  ·have:=Yc8 (Z0 A) (Z0 V) i j hij (by rw[hA]; omega) (by rw[hA]; exact hl) hVn (by rw[hVl]; exact hvl) (G0 _) (G0 _)
   rw[hA,hVl]at this;rw[hVl];exact this
end Go.Known
end
