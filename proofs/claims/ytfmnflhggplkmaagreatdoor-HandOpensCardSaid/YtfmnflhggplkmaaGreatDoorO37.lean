/- Part 37 of the proof: Sy, AeMg. -/
import Derived.Test.YtfmnflhggplkmaaGreatDoorO17
import Derived.Test.YtfmnflhggplkmaaGreatDoorO27
import Derived.Test.YtfmnflhggplkmaaGreatDoorO36
set_option linter.all false
section
namespace Go.Known
open Go Go.AE Go.Proofs
open Go.Plain
theorem fi_lt {x:Fg} {l:List Fg}:fiG x l<l.length ↔ ∃ j,j<l.length∧fgAt l j=x:=by
 constructor
 ·intro h
  refine⟨fiG x l,h,?_⟩
  have:=List.findIdx_getElem (p:=fun y=>decide (y=x)) (xs:=l) (w:=h)
  rw[fgAt_eq h]
  exact of_decide_eq_true this
 ·rintro⟨j,hj,rfl⟩
  refine List.findIdx_lt_length_of_exists ⟨l[j],List.getElem_mem hj,?_⟩
  rw[fgAt_eq hj]
  simp
theorem fg_take {fs:List Fg} {i j:Nat} (hj:j<i):fgAt (fs.take i) j=fgAt fs j:=by
 unfold fgAt List.getD
 rw[List.getElem?_take,if_pos hj]
theorem fi_take {fs:List Fg} {i:Nat} (h:i<fs.length):fiG (fgAt fs i) (fs.take i)<(fs.take i).length↔fiG (fgAt fs i) fs≠i:=by
 rw[fi_lt]
 have hl:(fs.take i).length=i:=by rw[List.length_take]; omega
 rw[hl]
 constructor
 ·rintro⟨j,hj,e⟩ hi
  rw[fg_take hj]at e
  have:=List.findIdx_eq (p:=fun y=>decide (y=fgAt fs i)) h
  unfold fiG at hi
  have h2:=(this.1 hi).2 j hj
  rw[← fgAt_eq (by omega),e]at h2
  simp at h2
 ·intro hne
  refine Classical.byContradiction fun hc=>hne (fi_eq h rfl fun j hj e=>hc ⟨j,hj,?_⟩)
  rw[fg_take hj,e]
def ThereP (x:Fg):Prop:=1≤x.p∧x.p≤9∧0≤x.d∧x.d≤6
instance (x:Fg):Decidable (ThereP x):=by unfold ThereP; infer_instance
def FrV (fs:List Fg) (re lo:Int):Prop:=fs.length≤40∧0≤re∧re≤40∧1≤lo∧lo≤20 ∧ ∀ i,i<fs.length→ThereP (fgAt fs i)∧fiG (fgAt fs i) fs=i
open Classical in
noncomputable def frB (fs:List Fg) (re lo:Int):Bool:=decide (FrV fs re lo)
theorem frB_true {fs:List Fg} {re lo:Int} (h:FrV fs re lo):frB fs re lo=true:=by unfold frB; simp[h]
theorem frB_false {fs:List Fg} {re lo:Int} (h:¬FrV fs re lo):frB fs re lo=false:=by unfold frB; simp[h]
set_option maxRecDepth 100000 in
set_option maxHeartbeats 4000000 in
theorem c119 (x:Fg) (fs:List Fg) (h:fs.length≤1000):PCall Tryz.prog 33 [.imm (fs.map rowG),.agg (rowG x)] (.bool (decide (fiG x fs<fs.length))):=by
 refine PCall_1 hm Tryz.func33 cf119 rfl rfl (by simp[closedL,AVal.closed,closed_rowG,rowG]) trivial fun K hK=>?_
 have h150:=c150 x fs h
 have hrr:∀ q,renLL q (fs.map rowG)=fs.map rowG:=fun q=>renLL_closed q _ (closed_rowG fs)
 have hle:=fi_le x fs
 generalize fs.map rowG=rows at *
 unfold rowG at *
 simp
 refine SC_pure h150 ?_
 by_cases hlt:fiG x fs<fs.length
 ·have:fiI x fs=(fiG x fs:Int):=by unfold fiI; rw[if_pos hlt]
  rw[decide_eq_true hlt]at hK
  simp[this]
  exact endK hK [] (by simp)
 ·have:fiI x fs = -1:=by unfold fiI; rw[if_neg hlt]
  rw[decide_eq_false hlt]at hK
  simp[this]
  exact endK hK [] (by simp)
theorem c118 (x:Fg):PCall Tryz.prog 32 [.agg (rowG x)] (.bool (decide (ThereP x))):=by
 refine PCall_1 hm Tryz.func32 cf118 rfl rfl (by simp[closedL,AVal.closed,rowG]) trivial fun K hK=>?_
 by_cases h1:1≤x.p
 ·by_cases h2:x.p≤9
  ·by_cases h3:0≤x.d
   ·by_cases h4:x.d≤6
    ·simp[rowG,h1,h2,h3,h4]
     exact endK hK [] (by simp[ThereP,h1,h2,h3,h4])
    ·simp[rowG,h1,h2,h3,h4]
     exact endK hK [] (by simp[ThereP,h1,h2,h3,h4])
   ·simp[rowG,h1,h2,h3]
    exact endK hK [] (by simp[ThereP,h1,h2,h3])
  ·simp[rowG,h1,h2]
   exact endK hK [] (by simp[ThereP,h1,h2])
 ·simp[rowG,h1]
  exact endK hK [] (by simp[ThereP,h1])
end Go.Known
end
section
namespace Go.AE
open Go.RowKit
def sqL:Code→Code
 | .seq a _=>a
 | c=>c
def sqR:Code→Code
 | .seq _ b=>b
 | c=>c
def cSc:Code→Code
 | .scope c=>c
 | c=>c
def cOps:Code→Array Oper
 | .region _ ops _=>ops
 | _=>#[]
def cId:Code→Nat
 | .region id _ _=>id
 | _=>0
def sqLa:ACode→ACode
 | .seq a _=>a
 | c=>c
def sqRa:ACode→ACode
 | .seq _ b=>b
 | c=>c
def aSc:ACode→ACode
 | .scope c=>c
 | c=>c
def aOps:ACode→List AOper
 | .region _ ops=>ops
 | _=>[]
def endsOf (rs:List (Nat×Option (Option Nat))) (l:List (REnd×RS)):Option (List (AVal×TM)):=
 appO (fun es=>match es.1 with
  | .exit _=>none
  | _=>match retT es.2.t es.2.m rs with
   | some v=>some [(v,es.2.m)]
   | none=>none) l
def runMid (call:Caller) (nc:NCaller) (a5 a6 aM:ACode) (s:RS):Option (List (REnd×RS)):=
 match runCN call nc 1000 a5 s with
 | some [(.normal,s)]=>match runCN call nc 1000 a6 s with
  | some [(.normal,s)]=>runCN call nc 1000 aM s
  | _=>none
 | _=>none
def runTwo (call:Caller) (nc:NCaller) (a1 a2 a3:ACode) (oA oB:List AOper) (a5 a6 aM:ACode) (s:RS):Option (List (REnd×RS)):=
 match runCN call nc 1000 a1 s with
 | some [(.normal,s)]=>match runCN call nc 1000 a2 s with
  | some [(.normal,s)]=>match runCN call nc 1000 a3 s with
   | some [(.normal,s)]=>
    match runD call s.m.next s.m.next oA [] ⟨s.t,⟨s.m.tr,s.m.next+oA.length⟩,[]⟩ with
    | some sA=>match runD call s.m.next s.m.next oB [] ⟨s.t,⟨s.m.tr,s.m.next+oB.length⟩,[]⟩ with
     | some sB=>match runMid call nc a5 a6 aM sA with
      | some x=>match runMid call nc a5 a6 aM sB with
       | some y=>some (x++y)
       | none=>none
      | none=>none
     | none=>none
    | none=>none
   | _=>none
  | _=>none
 | _=>none
def tailOk (call:Caller) (nc:NCaller) (aT:ACode) (rs:List (Nat×Option (Option Nat))) (v:AVal) (o:REnd×RS):Bool:=
 match o.1 with
 | .normal=>match runCN call nc 1000 aT o.2 with
  | some l=>match endsOf rs l with
   | some outs=>allB (fun p=>match freezeV p.2.tr.get 1000 p.1 with|some y=>beqA y v|none=>false) outs
   | none=>false
  | none=>false
 | _=>false
def chunkOk (call:Caller) (nc:NCaller) (a1 a2 a3:ACode) (oA oB:List AOper) (a5 a6 aM aT:ACode) (rs:List (Nat×Option (Option Nat))) (e:Memo) (c k i:Nat):Bool:=
 match runTwo call nc a1 a2 a3 oA oB a5 a6 aM ⟨argsT .nil 0 e.args,⟨.nil,1⟩,[]⟩ with
 | some l=>Nat.ble l.length (c*k)&&allB (tailOk call nc aT rs e.v) ((l.drop (c*i)).take c)
 | none=>false
section
variable {P:Program}
theorem runTwo_ok (hm:P.follows .mixedOrders=true) {call:Caller} {nc:NCaller} (hcall:CallerOk P call) (hnc:NCallerOk P nc) {n:Nat} (hn:n≤bound) {r1 r2 r3 r5 r6 rM rT:Code} {id lb:Nat} {ops:Array Oper} {x y:Nat} (hxy:x≠y) (g:Ground) {p q:Nat→Nat} (hp:IsPerm ops.size p q)
 {a1 a2 a3 a5 a6 aM:ACode} {oA oB:List AOper} (e1:cCode P r1=a1) (e2:cCode P r2=a2) (e3:cCode P r3=a3) (e5:cCode P r5=a5) (e6:cCode P r6=a6) (eM:cCode P rM=aM) (eA:cCode P (.region id (addEdge ops y ⟨x,g⟩) true)=.region true oA) (eB:cCode P (.region id (permA (addEdge ops x ⟨y,g⟩) p q) true)=.region true oB)
 (d1:dstOk n a1=true) (d2:dstOk n a2=true) (d3:dstOk n a3=true) (dA:dstOk n (.region true oA)=true) (dB:dstOk n (.region true oB)=true) (d5:dstOk n a5=true) (d6:dstOk n a6=true) (dM:dstOk n aM=true) {s:RS} {outs:List (REnd×RS)} (ht:TOk n s.t) (h:runTwo call nc a1 a2 a3 oA oB a5 a6 aM s=some outs) {Q:Exit→ASt→Prop}
 (hQ:∀ o,o∈outs→TOk n o.2.t→o.1=.normal∧AWp P rT (noGotoA Q) (o.2.st n)):AWp P (.seq r1 (.scope (.seq r2 (.seq r3 (.seq (.region id ops true) (.seq r5 (.seq r6 (.seq (.label lb) (.seq rM rT))))))))) Q (s.st n):=by
 unfold runTwo at h
 split at h<;>first|(cases h; done)|skip
 rename_i s1 hs1
 split at h<;>first|(cases h; done)|skip
 rename_i s2 hs2
 split at h<;>first|(cases h; done)|skip
 rename_i s3 hs3
 split at h<;>first|(cases h; done)|skip
 rename_i sA hsA
 split at h<;>first|(cases h; done)|skip
 rename_i sB hsB
 split at h<;>first|(cases h; done)|skip
 rename_i xA hxA
 split at h<;>first|(cases h; done)|skip
 rename_i xB hxB
 injection h with h
 subst h
 subst e1; subst e2; subst e3; subst e5; subst e6; subst eM
 obtain⟨t1,w1⟩:=runCN_ok hm hcall hnc hn 1000 r1 s _ ht d1 hs1
 have ht1:=t1 _ List.mem_cons_self
 obtain⟨t2,w2⟩:=runCN_ok hm hcall hnc hn 1000 r2 s1 _ ht1 d2 hs2
 have ht2:=t2 _ List.mem_cons_self
 obtain⟨t3,w3⟩:=runCN_ok hm hcall hnc hn 1000 r3 s2 _ ht2 d3 hs3
 have ht3:=t3 _ List.mem_cons_self
 obtain⟨gA,kA⟩:=runD_ok hcall hn oA [] ⟨s3.t,⟨s3.m.tr,s3.m.next+oA.length⟩,[]⟩ sA ht3 (by show s3.m.next≤s3.m.next+oA.length; omega) dA hsA
 obtain⟨gB,kB⟩:=runD_ok hcall hn oB [] ⟨s3.t,⟨s3.m.tr,s3.m.next+oB.length⟩,[]⟩ sB ht3 (by show s3.m.next≤s3.m.next+oB.length; omega) dB hsB
 have one:∀ {s':RS} {Q':Exit→ASt→Prop},Q' .normal (s'.st n)→allR n Q' [(REnd.normal,s')]:=fun hh o ho=>by
  simp only[List.mem_singleton]at ho
  subst ho
  exact hh
 have skip:∀ {s':RS} {Q':Exit→ASt→Prop},TOk n s'.t→Q' .normal (s'.st n)→AWp P (.label lb) Q' (s'.st n):=fun {s'} {Q'} ht' hh=>
  (runCN_ok hm hcall hnc hn 1000 (.label lb) s' [(.normal,s')] ht' rfl rfl).2 Q' (one hh)
 have mid:∀ {s':RS} {l:List (REnd×RS)},TOk n s'.t→runMid call nc (cCode P r5) (cCode P r6) (cCode P rM) s'=some l→(∀ o,o∈l→o∈xA++xB)→AWp P (.seq r5 (.seq r6 (.seq (.label lb) (.seq rM rT)))) (noGotoA Q) (s'.st n):=by
  intro s' l ht' hl hsub
  unfold runMid at hl
  split at hl<;>first|(cases hl; done)|skip
  rename_i s5 hs5
  split at hl<;>first|(cases hl; done)|skip
  rename_i s6 hs6
  obtain⟨t5,w5⟩:=runCN_ok hm hcall hnc hn 1000 r5 s' _ ht' d5 hs5
  have ht5:=t5 _ List.mem_cons_self
  obtain⟨t6,w6⟩:=runCN_ok hm hcall hnc hn 1000 r6 s5 _ ht5 d6 hs6
  have ht6:=t6 _ List.mem_cons_self
  obtain⟨tM,wM⟩:=runCN_ok hm hcall hnc hn 1000 rM s6 _ ht6 dM hl
  refine awp_seq (w5 _ (one ?_))
  refine awp_seq (w6 _ (one ?_))
  refine awp_seq (skip ht6 ?_)
  refine awp_seq (wM _ fun o ho=>?_)
  obtain⟨h1,h2⟩:=hQ o (hsub o ho) (tM o ho)
  rw[h1]
  exact h2
 refine awp_seq (w1 _ (one ?_))
 refine awp_scope ?_
 refine awp_seq (w2 _ (one ?_))
 refine awp_seq (w3 _ (one ?_))
 refine awp_seq (region_two hm x y hxy g p q hp ?_ ?_)
 ·rw[eA]
  exact kA _ (mid gA.t hxA fun o ho=>List.mem_append_left _ ho)
 ·rw[eB]
  exact kB _ (mid gB.t hxB fun o ho=>List.mem_append_right _ ho)
theorem acalls_one {g:FuncId} {fn:Func} {af:AFn} {args:List AVal} {m:TM} {v:AVal} {c:Code} (hf1:P.funcs[g]? = some fn) (hf2:cFn P fn=some af) (hb:af.ntmps≤bound) (hl:args.length≤af.ntmps) (hbd0:fn.body=some c)
 (h2:∀ Q:Exit→ASt→Prop,(∀(e:REnd) (s:RS),(match e with | .exit _=>False|_=>True)→TOk af.ntmps s.t→(∃ r,retT s.t s.m af.results=some r∧freezeV s.m.tr.get 1000 r=some v)→Q e.exit' (s.st af.ntmps))→AWp P c Q ((⟨argsT .nil 0 args,m,[]⟩:RS).st af.ntmps)) (id:Nat) :
 ACalls P g args m.mem [id] fun r m''=>∃ s:RS,m''=s.m.mem∧freezeV s.m.tr.get 1000 r=some v:=by
 obtain⟨c',hbd,hbody,hrs,hnt,hname⟩:=cFn_spec hf2
 rw[hbd0]at hbd
 injection hbd with hbd
 subst hbd
 obtain⟨a1,a2⟩:=argsT_ok hb hl
 refine acalls_awp (c:=c) (rs:=af.results) hf1 hbd0 hrs hname ?_
 rw[← hnt,← a2]
 refine h2 _ fun e s he ht hr=>?_
 obtain⟨r,h1,h3⟩:=hr
 have hrA:retA (s.st af.ntmps).t (s.st af.ntmps).m af.results=some r:=by
  show retA (toL af.ntmps s.t) s.m.mem af.results=some r
  rw[retT_eq ht]
  exact h1
 cases e with
 | normal=>show (match retA (s.st af.ntmps).t (s.st af.ntmps).m af.results with|some r=>_|none=>False); rw[hrA]; exact⟨s,rfl,h3⟩
 | ret=>show (match retA (s.st af.ntmps).t (s.st af.ntmps).m af.results with|some r=>_|none=>False); rw[hrA]; exact⟨s,rfl,h3⟩
 | exit i=>exact he.elim
theorem take_drop_mem {α:Type} {l:List α} {c k:Nat} (hl:l.length≤c*k) {x:α} (hx:x∈l):∃ i,i<k∧x∈(l.drop (c*i)).take c:=by
 obtain⟨j,hj,rfl⟩:=List.getElem_of_mem hx
 have hc:0<c:=by
  rcases Nat.eq_zero_or_pos c with h|h
  ·subst h; simp at hl; rw[hl]at hj; simp at hj
  ·exact h
 refine⟨j / c,Nat.div_lt_of_lt_mul (by omega),?_⟩
 have h1:c*(j / c)+j % c=j:=Nat.div_add_mod j c
 have h2:=Nat.mod_lt j hc
 have:((l.drop (c*(j / c))).take c)[j % c]? = some l[j]:=by
  rw[List.getElem?_take,if_pos h2,List.getElem?_drop,h1,List.getElem?_eq_getElem hj]
 exact List.mem_of_getElem? this
theorem memo_two (hm:P.follows .mixedOrders=true) {call:Caller} {nc:NCaller} (hcall:CallerOk P call) (hnc:NCallerOk P nc) {e:Memo} {fn:Func} {af:AFn} (hf1:P.funcs[e.g]? = some fn) (hf2:cFn P fn=some af) (hb:Nat.ble af.ntmps bound=true) (hl:Nat.ble e.args.length af.ntmps=true)
 {r1 r2 r3 r5 r6 rM rT:Code} {id lb:Nat} {ops:Array Oper} (hbd:fn.body=some (.seq r1 (.scope (.seq r2 (.seq r3 (.seq (.region id ops true) (.seq r5 (.seq r6 (.seq (.label lb) (.seq rM rT)))))))))) {x y:Nat} (hxy:x≠y) (g:Ground) {p q:Nat→Nat} (hp:IsPerm ops.size p q)
 {a1 a2 a3 a5 a6 aM aT:ACode} {oA oB:List AOper} (e1:cCode P r1=a1) (e2:cCode P r2=a2) (e3:cCode P r3=a3) (e5:cCode P r5=a5) (e6:cCode P r6=a6) (eM:cCode P rM=aM) (eT:cCode P rT=aT) (eA:cCode P (.region id (addEdge ops y ⟨x,g⟩) true)=.region true oA) (eB:cCode P (.region id (permA (addEdge ops x ⟨y,g⟩) p q) true)=.region true oB)
 (d1:dstOk af.ntmps a1=true) (d2:dstOk af.ntmps a2=true) (d3:dstOk af.ntmps a3=true) (dA:dstOk af.ntmps (.region true oA)=true) (dB:dstOk af.ntmps (.region true oB)=true) (d5:dstOk af.ntmps a5=true) (d6:dstOk af.ntmps a6=true) (dM:dstOk af.ntmps aM=true) (dT:dstOk af.ntmps aT=true)
 (hcl:(closedL e.args&&e.v.closed)=true) (c k:Nat) (hk:0<k) (h:∀ i,i<k→chunkOk call nc a1 a2 a3 oA oB a5 a6 aM aT af.results e c k i=true):e.Ok P:=by
 intro m av
 simp only[Bool.and_eq_true]at hcl
 have hb':af.ntmps≤bound:=ble_true hb
 have hl':e.args.length≤af.ntmps:=ble_true hl
 refine pure_frozen hcl.1 hcl.2 (m0:=(⟨.nil,1⟩:TM).mem) (fun c=>rfl) (Nat.lt_succ_self 0) (acalls_one (v:=e.v) hf1 hf2 hb' hl' hbd (fun Q hQ=>?_) 0) (fun r m' hk=>?_) m av
 ·cases hr:runTwo call nc a1 a2 a3 oA oB a5 a6 aM ⟨argsT .nil 0 e.args,⟨.nil,1⟩,[]⟩ with
  | none=>
   have:=h 0 hk
   simp[chunkOk,hr]at this
  | some l=>
   refine runTwo_ok hm hcall hnc hb' hxy g hp e1 e2 e3 e5 e6 eM eA eB d1 d2 d3 dA dB d5 d6 dM (argsT_ok hb' hl').1 hr fun o ho hto=>?_
   have hlen:l.length≤c*k:=by
    have:=h 0 hk
    simp only[chunkOk,hr,Bool.and_eq_true]at this
    exact ble_true this.1
   obtain⟨i,hi,hm'⟩:=take_drop_mem hlen ho
   have hc:=h i hi
   simp only[chunkOk,hr,Bool.and_eq_true]at hc
   have ht:=allB_spec hc.2 o hm'
   unfold tailOk at ht
   split at ht<;>first|(cases ht; done)|skip
   rename_i hn
   refine⟨hn,?_⟩
   split at ht<;>first|(cases ht; done)|skip
   rename_i l' hl'
   split at ht<;>first|(cases ht; done)|skip
   rename_i outs hout
   subst eT
   obtain⟨tT,wT⟩:=runCN_ok hm hcall hnc hb' 1000 rT o.2 _ hto dT hl'
   refine wT _ fun es hes=>?_
   obtain⟨a',g2,g3⟩:=appO_mem hout es hes
   have fin:(match retT es.2.t es.2.m af.results with|some v=>some [(v,es.2.m)]|none=>none)=some a' → ∃ r,retT es.2.t es.2.m af.results=some r∧freezeV es.2.m.tr.get 1000 r=some e.v:=by
    intro hh
    cases hv:retT es.2.t es.2.m af.results with
    | none=>simp[hv]at hh
    | some v=>
     simp only[hv,Option.some.injEq]at hh
     subst hh
     have:=allB_spec ht _ (g3 _ List.mem_cons_self)
     simp only at this
     split at this
     ·rename_i y hy
      exact⟨v,rfl,by rw[← beqA_eq _ _ this]; exact hy⟩
     ·cases this
   have hq:=hQ es.1 es.2
   cases he:es.1 with
   | normal=>simp only[he]at g2 hq; exact hq trivial (tT es hes) (fin g2)
   | ret=>simp only[he]at g2 hq; exact hq trivial (tT es hes) (fin g2)
   | exit i=>simp only[he]at g2; cases g2
 ·obtain⟨s,rfl,hf⟩:=hk
  exact⟨1000,hf⟩
end
end Go.AE
end
