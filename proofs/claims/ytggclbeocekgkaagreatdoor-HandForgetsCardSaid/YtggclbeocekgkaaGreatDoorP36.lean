/- Part 36 of the proof: Sy, AeMg. -/
import Derived.Test.YtggclbeocekgkaaGreatDoorP13
import Derived.Test.YtggclbeocekgkaaGreatDoorP21
import Derived.Test.YtggclbeocekgkaaGreatDoorP35
set_option linter.all false
section
namespace Go.Ac
open Go Go.AE Go.Proofs
open Go.Plain
theorem xy{x:Fg}{l:List Fg}:EY x l<l.length ↔ ∃ j,j<l.length∧Q8 l j=x:=by
 constructor
 ·intro h;refine⟨EY x l,h,?_⟩;have:=List.findIdx_getElem (p:=fun y=>decide (y=x)) (xs:=l) (w:=h)
  rw[Ro h];exact of_decide_eq_true this
 ·rintro⟨j,hj,rfl⟩;refine List.findIdx_lt_length_of_exists ⟨l[j],List.getElem_mem hj,?_⟩;rw[Ro hj];simp
theorem zN{fs:List Fg}{i j:Nat}(hj:j<i):Q8 (fs.take i) j=Q8 fs j:=by
 unfold Q8 List.getD;rw[List.getElem?_take,iP hj]
theorem Z7u{fs:List Fg}{i:Nat}(h:i<fs.length):EY (Q8 fs i) (fs.take i)<(fs.take i).length↔EY (Q8 fs i) fs≠i:=by
 rw[xy];have hl:(fs.take i).length=i:=by rw[lK]; omega
 rw[hl];constructor
 ·rintro⟨j,hj,e⟩ hi;rw[zN hj]at e;have:=List.findIdx_eq (p:=fun y=>decide (y=Q8 fs i)) h
  unfold EY at hi;have h2:=(this.1 hi).2 j hj;rw[← Ro (by omega),e]at h2
  simp at h2
 ·intro hne;refine Classical.byContradiction fun hc=>hne (qW h rfl fun j hj e=>hc ⟨j,hj,?_⟩)
  rw[zN hj,e]
def Hy(x:Fg):Prop:=1≤x.p∧x.p≤9∧0≤x.d∧x.d≤6
instance (x:Fg):Decidable (Hy x):=by unfold Hy; infer_instance
def Sh(fs:List Fg)(re lo:Int):Prop:=fs.length≤40∧0≤re∧re≤40∧1≤lo∧lo≤20 ∧ ∀ i,i<fs.length→Hy (Q8 fs i)∧EY (Q8 fs i) fs=i
open Classical in
noncomputable def Pe(fs:List Fg)(re lo:Int):Bool:=decide (Sh fs re lo)
theorem Z6f{fs:List Fg}{re lo:Int}(h:Sh fs re lo):Pe fs re lo=true:=by unfold Pe; simp[h]
theorem zy{fs:List Fg}{re lo:Int}(h:¬Sh fs re lo):Pe fs re lo=false:=by unfold Pe; simp[h]
set_option maxRecDepth 100000 in
set_option maxHeartbeats 4000000 in
theorem bX(x:Fg)(fs:List Fg)(h:fs.length≤1000):Al Tryz.prog 104 [.Aj (fs.map Ax),.agg (Ax x)] (.bool (decide (EY x fs<fs.length))):=by
 refine R2 hm Tryz.func104 zJ rfl rfl (by simp[X8,Aa.closed,H9,Ax]) trivial fun K hK=>?_
 have h150:=cQ x fs h;have Ak:∀ q,Z3 q (fs.map Ax)=fs.map Ax:=fun q=>Y1 q _ (H9 fs)
 have hle:=Z14 x fs;generalize fs.map Ax=rows at *;unfold Ax at *;simp;refine Y5 h150 ?_;by_cases hlt:EY x fs<fs.length
 ·have:Mg x fs=(EY x fs:Int):=by unfold Mg; rw[iP hlt]
  rw[decide_eq_true hlt]at hK;simp[this];exact Z4 hK [] (by simp)
 ·have:Mg x fs = -1:=by unfold Mg; rw[iN hlt]
  rw[decide_eq_false hlt]at hK;simp[this];exact Z4 hK [] (by simp)
theorem bW(x:Fg):Al Tryz.prog 103 [.agg (Ax x)] (.bool (decide (Hy x))):=by
 refine R2 hm Tryz.func103 wA rfl rfl (by simp[X8,Aa.closed,Ax]) trivial fun K hK=>?_
 by_cases h1:1≤x.p
 ·by_cases h2:x.p≤9
  ·by_cases h3:0≤x.d
   ·by_cases h4:x.d≤6
    ·simp[Ax,h1,h2,h3,h4];exact Z4 hK [] (by simp[Hy,h1,h2,h3,h4])
    ·simp[Ax,h1,h2,h3,h4];exact Z4 hK [] (by simp[Hy,h1,h2,h3,h4])
   ·simp[Ax,h1,h2,h3];exact Z4 hK [] (by simp[Hy,h1,h2,h3])
  ·simp[Ax,h1,h2];exact Z4 hK [] (by simp[Hy,h1,h2])
 ·simp[Ax,h1];exact Z4 hK [] (by simp[Hy,h1])
end Go.Ac
end
section
namespace Go.AE
open Go.RowKit
def NW:Code→Code
 | .seq a _=>a
 | c=>c
def Ga:Code→Code
 | .seq _ b=>b
 | c=>c
def cSc:Code→Code
 | .scope c=>c
 | c=>c
def dN:Code→Array Oper
 | .region _ ops _=>ops
 | _=>#[]
def cId:Code→Nat
 | .region id _ _=>id
 | _=>0
def GB:An→An
 | .seq a _=>a
 | c=>c
def D1:An→An
 | .seq _ b=>b
 | c=>c
def bT:An→An
 | .scope c=>c
 | c=>c
def Tt:An→List Af
 | .region _ ops=>ops
 | _=>[]
def vu(rs:List (Nat×Option (Option Nat)))(l:List (BO×RS)):Option (List (Aa×TM)):=
 F9 (fun es=>match es.1 with
  | .exit _=>none
  | _=>match C4 es.2.t es.2.m rs with
   | some v=>some [(v,es.2.m)]
   | none=>none) l
def Vu(call:AP)(nc:Bp)(a5 a6 aM:An)(s:RS):Option (List (BO×RS)):=
 match V8 call nc 1000 a5 s with
 | some [(.normal,s)]=>match V8 call nc 1000 a6 s with
  | some [(.normal,s)]=>V8 call nc 1000 aM s
  | _=>none
 | _=>none
def Wp(call:AP)(nc:Bp)(a1 a2 a3:An)(oA oB:List Af)(a5 a6 aM:An)(s:RS):Option (List (BO×RS)):=
 match V8 call nc 1000 a1 s with
 | some [(.normal,s)]=>match V8 call nc 1000 a2 s with
  | some [(.normal,s)]=>match V8 call nc 1000 a3 s with
   | some [(.normal,s)]=>
    match A3 call s.m.next s.m.next oA [] ⟨s.t,⟨s.m.tr,s.m.next+oA.length⟩,[]⟩ with
    | some sA=>match A3 call s.m.next s.m.next oB [] ⟨s.t,⟨s.m.tr,s.m.next+oB.length⟩,[]⟩ with
     | some sB=>match Vu call nc a5 a6 aM sA with
      | some x=>match Vu call nc a5 a6 aM sB with
       | some y=>some (x++y)
       | none=>none
      | none=>none
     | none=>none
    | none=>none
   | _=>none
  | _=>none
 | _=>none
def qO(call:AP)(nc:Bp)(aT:An)(rs:List (Nat×Option (Option Nat)))(v:Aa)(o:BO×RS):Bool:=
 match o.1 with
 | .normal=>match V8 call nc 1000 aT o.2 with
  | some l=>match vu rs l with
   | some outs=>Fs (fun p=>match X9 p.2.tr.get 1000 p.1 with|some y=>N7 y v|none=>false) outs
   | none=>false
  | none=>false
 | _=>false
def SS(call:AP)(nc:Bp)(a1 a2 a3:An)(oA oB:List Af)(a5 a6 aM aT:An)(rs:List (Nat×Option (Option Nat)))(e:Aq)(c k i:Nat):Bool:=
 match Wp call nc a1 a2 a3 oA oB a5 a6 aM ⟨D0 .nil 0 e.args,⟨.nil,1⟩,[]⟩ with
 | some l=>Nat.ble l.length (c*k)&&Fs (qO call nc aT rs e.v) ((l.drop (c*i)).take c)
 | none=>false
section
variable {P:Program}
theorem Zzg(hm:P.follows .mixedOrders=true){call:AP}{nc:Bp}(AF:D8 P call)(hnc:Sk P nc){n:Nat}(hn:n≤bound){r1 r2 r3 r5 r6 rM rT:Code}{id lb:Nat}{ops:Array Oper}{x y:Nat}(hxy:x≠y)(g:Ground){p q:Nat→Nat}(hp:DJ ops.size p q)
 {a1 a2 a3 a5 a6 aM:An} {oA oB:List Af} (e1:Y4 P r1=a1) (e2:Y4 P r2=a2) (e3:Y4 P r3=a3) (e5:Y4 P r5=a5) (e6:Y4 P r6=a6) (eM:Y4 P rM=aM) (eA:Y4 P (.region id (J6 ops y ⟨x,g⟩) true)=.region true oA) (eB:Y4 P (.region id (GK (J6 ops x ⟨y,g⟩) p q) true)=.region true oB)
 (d1:U9 n a1=true) (d2:U9 n a2=true) (d3:U9 n a3=true) (dA:U9 n (.region true oA)=true) (dB:U9 n (.region true oB)=true) (d5:U9 n a5=true) (d6:U9 n a6=true) (dM:U9 n aM=true) {s:RS} {outs:List (BO×RS)} (ht:Dj n s.t) (h:Wp call nc a1 a2 a3 oA oB a5 a6 aM s=some outs) {Q:Exit→AY→Prop}
 (hQ:∀ o,o∈outs→Dj n o.2.t→o.1=.normal∧DI P rT (Sn Q) (o.2.st n)):DI P (.seq r1 (.scope (.seq r2 (.seq r3 (.seq (.region id ops true) (.seq r5 (.seq r6 (.seq (.label lb) (.seq rM rT))))))))) Q (s.st n):=by
 unfold Wp at h;split at h<;>first|(cases h; done)|skip
 rename_i s1 hs1;split at h<;>first|(cases h; done)|skip
 rename_i s2 hs2;split at h<;>first|(cases h; done)|skip
 rename_i s3 hs3;split at h<;>first|(cases h; done)|skip
 rename_i sA hsA;split at h<;>first|(cases h; done)|skip
 rename_i sB hsB;split at h<;>first|(cases h; done)|skip
 rename_i xA hxA;split at h<;>first|(cases h; done)|skip
 rename_i xB hxB;injection h with h
 subst h;subst e1; subst e2; subst e3; subst e5; subst e6; subst eM;obtain⟨t1,w1⟩:=LH hm AF hnc hn 1000 r1 s _ ht d1 hs1;have ht1:=t1 _ List.mem_cons_self;obtain⟨t2,w2⟩:=LH hm AF hnc hn 1000 r2 s1 _ ht1 d2 hs2;have ht2:=t2 _ List.mem_cons_self;obtain⟨t3,w3⟩:=LH hm AF hnc hn 1000 r3 s2 _ ht2 d3 hs3;have ht3:=t3 _ List.mem_cons_self;obtain⟨gA,kA⟩:=Oc AF hn oA [] ⟨s3.t,⟨s3.m.tr,s3.m.next+oA.length⟩,[]⟩ sA ht3 (by show s3.m.next≤s3.m.next+oA.length; omega) dA hsA
 obtain⟨gB,kB⟩:=Oc AF hn oB [] ⟨s3.t,⟨s3.m.tr,s3.m.next+oB.length⟩,[]⟩ sB ht3 (by show s3.m.next≤s3.m.next+oB.length; omega) dB hsB
 have one:∀ {s':RS} {Q':Exit→AY→Prop},Q' .normal (s'.st n)→Ia n Q' [(BO.normal,s')]:=fun hh o ho=>by
  simp only[List.mem_singleton]at ho;subst ho;exact hh
 have skip:∀ {s':RS} {Q':Exit→AY→Prop},Dj n s'.t→Q' .normal (s'.st n)→DI P (.label lb) Q' (s'.st n):=fun {s'} {Q'} ht' hh=>
  (LH hm AF hnc hn 1000 (.label lb) s' [(.normal,s')] ht' rfl rfl).2 Q' (one hh)
 have mid:∀ {s':RS} {l:List (BO×RS)},Dj n s'.t→Vu call nc (Y4 P r5) (Y4 P r6) (Y4 P rM) s'=some l→(∀ o,o∈l→o∈xA++xB)→DI P (.seq r5 (.seq r6 (.seq (.label lb) (.seq rM rT)))) (Sn Q) (s'.st n):=by
  intro s' l ht' hl hsub;unfold Vu at hl;split at hl<;>first|(cases hl; done)|skip
  rename_i s5 hs5;split at hl<;>first|(cases hl; done)|skip
  rename_i s6 hs6;obtain⟨t5,w5⟩:=LH hm AF hnc hn 1000 r5 s' _ ht' d5 hs5;have ht5:=t5 _ List.mem_cons_self;obtain⟨t6,w6⟩:=LH hm AF hnc hn 1000 r6 s5 _ ht5 d6 hs6;have ht6:=t6 _ List.mem_cons_self;obtain⟨tM,wM⟩:=LH hm AF hnc hn 1000 rM s6 _ ht6 dM hl;refine LM (w5 _ (one ?_));refine LM (w6 _ (one ?_));refine LM (skip ht6 ?_);refine LM (wM _ fun o ho=>?_)
  obtain⟨h1,h2⟩:=hQ o (hsub o ho) (tM o ho);rw[h1];exact h2
 refine LM (w1 _ (one ?_));refine vX ?_;refine LM (w2 _ (one ?_));refine LM (w3 _ (one ?_));refine LM (Z8c hm x y hxy g p q hp ?_ ?_)
 ·rw[eA];exact kA _ (mid gA.t hxA fun o ho=>List.mem_append_left _ ho)
 ·rw[eB];exact kB _ (mid gB.t hxB fun o ho=>List.mem_append_right _ ho)
theorem yf{g:FuncId}{fn:Func}{af:As}{args:List Aa}{m:TM}{v:Aa}{c:Code}(EK:P.funcs[g]? = some fn)(Fv:AS P fn=some af)(hb:af.ntmps≤bound)(hl:args.length≤af.ntmps)(Ux:fn.body=some c)
 (h2:∀ Q:Exit→AY→Prop,(∀(e:BO) (s:RS),(match e with | .exit _=>False|_=>True)→Dj af.ntmps s.t→(∃ r,C4 s.t s.m af.results=some r∧X9 s.m.tr.get 1000 r=some v)→Q e.exit' (s.st af.ntmps))→DI P c Q ((⟨D0 .nil 0 args,m,[]⟩:RS).st af.ntmps)) (id:Nat) :
 Au P g args m.mem [id] fun r m''=>∃ s:RS,m''=s.m.mem∧X9 s.m.tr.get 1000 r=some v:=by
 obtain⟨c',hbd,hbody,CB,hnt,hname⟩:=SU Fv;rw[Ux]at hbd;injection hbd with hbd
 subst hbd;obtain⟨a1,a2⟩:=Xb hb hl;refine xU (c:=c) (rs:=af.results) EK Ux CB hname ?_;rw[← hnt,← a2];refine h2 _ fun e s he ht hr=>?_
 obtain⟨r,h1,h3⟩:=hr;have hrA:N5 (s.st af.ntmps).t (s.st af.ntmps).m af.results=some r:=by
  show N5 (Cs af.ntmps s.t) s.m.mem af.results=some r;rw[Yb ht];exact h1
 cases e with
 | normal=>show (match N5 (s.st af.ntmps).t (s.st af.ntmps).m af.results with|some r=>_|none=>False); rw[hrA]; exact⟨s,rfl,h3⟩
 | ret=>show (match N5 (s.st af.ntmps).t (s.st af.ntmps).m af.results with|some r=>_|none=>False); rw[hrA]; exact⟨s,rfl,h3⟩
 | exit i=>exact he.elim
theorem Z7h{α:Type}{l:List α}{c k:Nat}(hl:l.length≤c*k){x:α}(hx:x∈l):∃ i,i<k∧x∈(l.drop (c*i)).take c:=by
 obtain⟨j,hj,rfl⟩:=List.getElem_of_mem hx;have hc:0<c:=by
  rcases Nat.eq_zero_or_pos c with h|h
  ·subst h; simp at hl; rw[hl]at hj; simp at hj
  ·exact h
 refine⟨j / c,Nat.div_lt_of_lt_mul (by omega),?_⟩
 have h1:c*(j / c)+j % c=j:=Nat.div_add_mod j c;have h2:=Nat.mod_lt j hc;have:((l.drop (c*(j / c))).take c)[j % c]? = some l[j]:=by
  rw[List.getElem?_take,iP h2,List.getElem?_drop,h1,gE hj]
 exact List.mem_of_getElem? this
theorem wz(hm:P.follows .mixedOrders=true){call:AP}{nc:Bp}(AF:D8 P call)(hnc:Sk P nc){e:Aq}{fn:Func}{af:As}(EK:P.funcs[e.g]? = some fn)(Fv:AS P fn=some af)(hb:Nat.ble af.ntmps bound=true)(hl:Nat.ble e.args.length af.ntmps=true)
 {r1 r2 r3 r5 r6 rM rT:Code} {id lb:Nat} {ops:Array Oper} (hbd:fn.body=some (.seq r1 (.scope (.seq r2 (.seq r3 (.seq (.region id ops true) (.seq r5 (.seq r6 (.seq (.label lb) (.seq rM rT)))))))))) {x y:Nat} (hxy:x≠y) (g:Ground) {p q:Nat→Nat} (hp:DJ ops.size p q)
 {a1 a2 a3 a5 a6 aM aT:An} {oA oB:List Af} (e1:Y4 P r1=a1) (e2:Y4 P r2=a2) (e3:Y4 P r3=a3) (e5:Y4 P r5=a5) (e6:Y4 P r6=a6) (eM:Y4 P rM=aM) (eT:Y4 P rT=aT) (eA:Y4 P (.region id (J6 ops y ⟨x,g⟩) true)=.region true oA) (eB:Y4 P (.region id (GK (J6 ops x ⟨y,g⟩) p q) true)=.region true oB)
 (d1:U9 af.ntmps a1=true) (d2:U9 af.ntmps a2=true) (d3:U9 af.ntmps a3=true) (dA:U9 af.ntmps (.region true oA)=true) (dB:U9 af.ntmps (.region true oB)=true) (d5:U9 af.ntmps a5=true) (d6:U9 af.ntmps a6=true) (dM:U9 af.ntmps aM=true) (dT:U9 af.ntmps aT=true)
 (BT:(X8 e.args&&e.v.closed)=true) (c k:Nat) (hk:0<k) (h:∀ i,i<k→SS call nc a1 a2 a3 oA oB a5 a6 aM aT af.results e c k i=true):e.Ok P:=by
 intro m av;simp only[bA]at BT;have hb':af.ntmps≤bound:=Nd hb;have hl':e.args.length≤af.ntmps:=Nd hl;refine Wg BT.1 BT.2 (m0:=(⟨.nil,1⟩:TM).mem) (fun c=>rfl) (Nat.lt_succ_self 0) (yf (v:=e.v) EK Fv hb' hl' hbd (fun Q hQ=>?_) 0) (fun r m' hk=>?_) m av
 ·cases hr:Wp call nc a1 a2 a3 oA oB a5 a6 aM ⟨D0 .nil 0 e.args,⟨.nil,1⟩,[]⟩ with
  | none=>
   have:=h 0 hk;simp[SS,hr]at this
  | some l=>
   refine Zzg hm AF hnc hb' hxy g hp e1 e2 e3 e5 e6 eM eA eB d1 d2 d3 dA dB d5 d6 dM (Xb hb' hl').1 hr fun o ho hto=>?_
   have hlen:l.length≤c*k:=by
    have:=h 0 hk;simp only[SS,hr,bA]at this;exact Nd this.1
   obtain⟨i,hi,hm'⟩:=Z7h hlen ho;have hc:=h i hi;simp only[SS,hr,bA]at hc;have ht:=ZE hc.2 o hm';unfold qO at ht;split at ht<;>first|(cases ht; done)|skip
   rename_i hn;refine⟨hn,?_⟩;split at ht<;>first|(cases ht; done)|skip
   rename_i l' hl';split at ht<;>first|(cases ht; done)|skip
   rename_i outs hout;subst eT;obtain⟨tT,wT⟩:=LH hm AF hnc hb' 1000 rT o.2 _ hto dT hl';refine wT _ fun es hes=>?_
   obtain⟨a',g2,g3⟩:=Rq hout es hes;have fin:(match C4 es.2.t es.2.m af.results with|some v=>some [(v,es.2.m)]|none=>none)=some a' → ∃ r,C4 es.2.t es.2.m af.results=some r∧X9 es.2.m.tr.get 1000 r=some e.v:=by
    intro hh;cases hv:C4 es.2.t es.2.m af.results with
    | none=>simp[hv]at hh
    | some v=>
     simp only[hv,oI]at hh;subst hh;have:=ZE ht _ (g3 _ List.mem_cons_self);simp only at this;split at this
     ·rename_i y hy;exact⟨v,rfl,by rw[← YN _ _ this]; exact hy⟩
     ·cases this
   have hq:=hQ es.1 es.2;cases he:es.1 with
   | normal=>simp only[he]at g2 hq; exact hq trivial (tT es hes) (fin g2)
   | ret=>simp only[he]at g2 hq; exact hq trivial (tT es hes) (fin g2)
   | exit i=>simp only[he]at g2; cases g2
 ·obtain⟨s,rfl,hf⟩:=hk;exact⟨1000,hf⟩
end
end Go.AE
end
