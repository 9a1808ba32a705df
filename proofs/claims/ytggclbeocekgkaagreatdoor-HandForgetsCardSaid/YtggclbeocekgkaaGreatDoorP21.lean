/- Part 21 of the proof: AeMd. -/
import Derived.Test.YtggclbeocekgkaaGreatDoorP15
import Derived.Test.YtggclbeocekgkaaGreatDoorP20
set_option linter.all false
namespace Go.AE
open Go.RowKit
abbrev Bp:=FuncId→List Aa→TM→Option (List (Aa×TM))
def F9{α β:Type}(f:α→Option (List β)):List α→Option (List β)
 | []=>some []
 | x :: r=>match f x with
  | some a=>match F9 f r with
   | some b=>some (a++b)
   | none=>none
  | none=>none
def Ib{α:Type}(f:α→Bool):List α→Bool
 | []=>false
 | x :: r=>bif f x then true else Ib f r
def Fs{α:Type}(f:α→Bool):List α→Bool
 | []=>true
 | x :: r=>bif f x then Fs f r else false
def OI(it b since:Nat)(seen:List Nat)(clock:Nat)(m:TM):List (Aa×Aa×Nat)→List (Aa×TM)
 | []=>[]
 | e :: r=>bif K2 e.2.2 seen then OI it b since seen clock m r
  else (.tuple [.bool true,e.1,e.2.1],m.set it (some (.AJ (some b) since (seen++[e.2.2]) clock))) :: OI it b since seen clock m r
def XX(since:Nat)(seen:List Nat)(es:List (Aa×Aa×Nat)):Bool:=Fs (fun e=>bif Nat.ble since e.2.2 then true else K2 e.2.2 seen) es
def Vo(v:Aa)(m:TM):Option (List (Aa×TM)):=
 match v with
 | .ptr it 0 0=>match m.tr.get it with
  | some (.AJ (some b) since seen last)=>match m.tr.get b with
   | some (.map es clock)=>bif (seen.isEmpty||es.isEmpty||Ib (fun e=>Nat.ble (e.2.2+1) last) es)&&Nat.ble (it+1) bound then
    bif XX since seen es then some ((.tuple [.bool false],m) :: OI it b since seen clock m es)else some (OI it b since seen clock m es)
    else none
   | _=>none
  | _=>none
 | _=>none
def Vl(id:Nat)(v:Aa)(m:TM):Option (Aa×TM):=
 match v with
 | .map b=>match m.tr.get b with
  | some (.map _ clock)=>bif Nat.ble (id+1) bound then some (.ptr id 0 0,m.set id (some (.AJ (some b) clock [] clock)))else none
  | _=>none
 | _=>none
def VW(v:Aa)(m:TM):Option Aa:=
 match v with
 | .ptr it 0 0=>match m.tr.get it with
  | some (.AJ (some b) _ seen last)=>match m.tr.get b with
   | some (.map es clock)=>bif Nat.beq clock last then match seen.getLast? with
    | some s=>match es.filter fun e=>Nat.beq e.2.2 s with
     | [e]=>some (.tuple [e.1,e.2.1])
     | _=>none
    | none=>none
    else none
   | _=>none
  | _=>none
 | _=>none
def E8(call:AP)(nc:Bp)(base:Nat):List Af→Nat→RS→Option (List RS)
 | [],_,s=>some [s]
 | o :: r,i,s=>
  match MM s.t o.guard with
  | some false=>E8 call nc base r (i+1) { s with t:=R3 s.t o.dst Ag }
  | some true=>
   match o.op with
   | .call f xs=>match MK s.t f xs with
    | some (g,args)=>match call g args s.m with
     | some (v,m',_)=>E8 call nc base r (i+1) ⟨R3 s.t o.dst v,m',[]⟩
     | none=>match nc g args s.m with
      | some outs=>F9 (fun p=>E8 call nc base r (i+1) ⟨R3 s.t o.dst p.1,p.2,[]⟩) outs
      | none=>none
    | none=>none
   | .range x=>match Vl (base+i) (Ch s.t x) s.m with
    | some (v,m')=>E8 call nc base r (i+1) ⟨R3 s.t o.dst v,m',[]⟩
    | none=>none
   | .Cc x=>match Vo (Ch s.t x) s.m with
    | some outs=>F9 (fun p=>E8 call nc base r (i+1) ⟨R3 s.t o.dst p.1,p.2,[]⟩) outs
    | none=>none
   | .BL x=>match VW (Ch s.t x) s.m with
    | some v=>E8 call nc base r (i+1) ⟨R3 s.t o.dst v,s.m,[]⟩
    | none=>none
   | op=>match Y6 (base+i) (Ch s.t) s.m.tr.get op with
    | some (v,d)=>bif FB d then E8 call nc base r (i+1) ⟨R3 s.t o.dst v,s.m.apply d,[]⟩ else none
    | none=>none
  | none=>none
def V8(call:AP)(nc:Bp):Nat→An→RS→Option (List (BO×RS))
 | 0,_,_=>none
 | f+1,c,s=>
  match c with
  | .skip | .label _=>some [(.normal,s)]
  | .region false ops=>
   bif Nat.ble (s.m.next+ops.length) bound then match E8 call nc s.m.next ops 0 ⟨s.t,⟨s.m.tr,s.m.next+ops.length⟩,s.wl⟩ with
    | some outs=>some (outs.map fun s'=>(.normal,s'))
    | none=>none
   else none
  | .region true ops=>
   bif Nat.ble (s.m.next+ops.length) bound then match A3 call s.m.next s.m.next ops [] ⟨s.t,⟨s.m.tr,s.m.next+ops.length⟩,[]⟩ with
    | some s'=>some [(.normal,s')]
    | none=>none
   else none
  | .seq a b=>match V8 call nc f a s with
   | some outs=>F9 (fun es=>match es.1 with
    | .normal=>V8 call nc f b es.2
    | .exit n=>some [(.exit n,es.2)]
    | .ret=>some [(.ret,es.2)]) outs
   | none=>none
  | .cond c a b=>match Ch s.t c with
   | .bool true=>V8 call nc f a s
   | .bool false=>V8 call nc f b s
   | _=>none
  | .block id c=>match V8 call nc f c s with
   | some outs=>some (outs.map fun es=>match es.1 with
    | .exit n=>bif Nat.beq n id then (.normal,es.2)else (.exit n,es.2)
    | .normal=>(.normal,es.2)
    | .ret=>(.ret,es.2))
   | none=>none
  | .loop c=>match V8 call nc f c s with
   | some outs=>F9 (fun es=>match es.1 with
    | .normal=>V8 call nc f (.loop c) es.2
    | .exit n=>some [(.exit n,es.2)]
    | .ret=>some [(.ret,es.2)]) outs
   | none=>none
  | .exit n=>some [(.exit n,s)]
  | .scope c=>V8 call nc f c s
  | .ret=>some [(.ret,s)]
  | .bad=>none
def Rx(Ds:Nat→Option As)(call:AP):Nat→Bp
 | 0,_,_,_=>none
 | f+1,g,args,m=>match Ds g with
  | some af=>bif Nat.ble args.length af.ntmps then match V8 call (Rx Ds call f) 1000 af.body ⟨D0 .nil 0 args,m,[]⟩ with
   | some outs=>F9 (fun es=>match es.1 with
    | .exit _=>none
    | _=>match C4 es.2.t es.2.m af.results with
     | some v=>some [(v,es.2.m)]
     | none=>none) outs
   | none=>none
   else none
  | none=>none
theorem Rq{α β:Type}{f:α→Option (List β)}:∀ {l:List α} {out:List β},F9 f l=some out → ∀ x,x∈l → ∃ a,f x=some a ∧ ∀ y,y∈a→y∈out
 | [],_,_,x,hx=>by simp at hx
 | z :: r,out,h,x,hx=>by
  simp only[F9]at h;cases h1:f z with
  | none=>simp[h1]at h
  | some a=>
   cases h2:F9 f r with
   | none=>simp[h1,h2]at h
   | some b=>
    simp only[h1,h2,oI]at h;subst h;simp only[mC]at hx;rcases hx with rfl|hx
    ·exact⟨a,h1,fun y hy=>List.mem_append_left _ hy⟩
    ·obtain⟨a',h3,h4⟩:=Rq h2 x hx;exact⟨a',h3,fun y hy=>List.mem_append_right _ (h4 y hy)⟩
theorem Wd{α β:Type}{f:α→Option (List β)}:∀ {l:List α} {out:List β},F9 f l=some out → ∀ y,y∈out → ∃ x a,x∈l∧f x=some a∧y∈a
 | [],out,h,y,hy=>by
  simp only[F9,oI]at h;subst h;simp at hy
 | z :: r,out,h,y,hy=>by
  simp only[F9]at h;cases h1:f z with
  | none=>simp[h1]at h
  | some a=>
   cases h2:F9 f r with
   | none=>simp[h1,h2]at h
   | some b=>
    simp only[h1,h2,oI]at h;subst h;rcases List.mem_append.1 hy with hy|hy
    ·exact⟨z,a,by simp,h1,hy⟩
    ·obtain⟨x,a',h3,h4,h5⟩:=Wd h2 y hy;exact⟨x,a',List.mem_cons_of_mem _ h3,h4,h5⟩
theorem xS{α:Type}{f:α→Bool}:∀ {l:List α},Ib f l=true → ∃ x,x∈l∧f x=true
 | [],h=>by cases h
 | x :: r,h=>by
  simp only[Ib]at h;cases h1:f x with
  | true=>exact ⟨x,by simp,h1⟩
  | false=>
   rw[h1]at h;obtain⟨y,h2,h3⟩:=xS (l:=r) h;exact⟨y,List.mem_cons_of_mem _ h2,h3⟩
theorem qN{α:Type}{f:α→Bool}:∀ {l:List α},Fs f l=false → ∃ x,x∈l∧f x=false
 | [],h=>by cases h
 | x :: r,h=>by
  simp only[Fs]at h;cases h1:f x with
  | false=>exact ⟨x,by simp,h1⟩
  | true=>
   rw[h1]at h;obtain⟨y,h2,h3⟩:=qN (l:=r) h;exact⟨y,List.mem_cons_of_mem _ h2,h3⟩
theorem ZH{it b since clock:Nat}{seen:List Nat}{m:TM}:∀ {es:List (Aa×Aa×Nat)} {e:Aa×Aa×Nat},e∈es→e.2.2∉seen →
 (Aa.tuple [.bool true,e.1,e.2.1],m.set it (some (.AJ (some b) since (seen++[e.2.2]) clock)))∈OI it b since seen clock m es
 | [],e,h,_=>by simp at h
 | z :: r,e,h,hs=>by
  simp only[OI];simp only[mC]at h;cases h1:K2 z.2.2 seen with
  | true=>
   simp only[cond_true];rcases h with rfl|h
   ·exact absurd (Cv.1 h1).2 hs
   ·exact ZH h hs
  | false=>
   simp only[cond_false];rcases h with rfl|h
   ·exact List.mem_cons_self
   ·exact List.mem_cons_of_mem _ (ZH h hs)
theorem Z6n{v:Aa}{m:TM}{outs:List (Aa×TM)}(h:Vo v m=some outs){K:Aa→Mem→Prop}(hK:∀ p,p∈outs→K p.1 p.2.mem):RC v m.mem K:=by
 unfold Vo at h;split at h<;>first|(cases h; done)|skip
 rename_i it;split at h<;>first|(cases h; done)|skip
 rename_i b since seen last hi;split at h<;>first|(cases h; done)|skip
 rename_i es clock hg;cases hc:((seen.isEmpty||es.isEmpty||Ib (fun e=>Nat.ble (e.2.2+1) last) es)&&Nat.ble (it+1) bound)with
 | false=>rw[hc]at h; cases h
 | true=>
  rw[hc]at h;simp only[cond_true]at h;simp only[bA]at hc;obtain⟨h1,h2⟩:=hc;have hit:it<bound:=Nd h2;have e1:m.mem.get it=some (.AJ (some b) since seen last):=hi;have e2:m.mem.get b=some (.map es clock):=hg;unfold RC;simp only[e1,e2];have hset:∀ e:Aa×Aa×Nat,(m.set it (some (.AJ (some b) since (seen++[e.2.2]) clock))).mem=m.mem.set it (.AJ (some b) since (seen++[e.2.2]) clock):=fun e=>TM.CE hit
  have hents:∀ p,p∈OI it b since seen clock m es→p∈outs:=by
   cases he:XX since seen es with
   | true=>
    rw[he]at h;injection h with h
    subst h;exact fun p hp=>List.mem_cons_of_mem _ hp
   | false=>
    rw[he]at h;injection h with h
    subst h;exact fun p hp=>hp
  refine⟨?_,fun e he hn=>?_,fun hh=>?_⟩
  ·simp only[Bool.or_eq_true]at h1;rcases h1 with(h1|h1)|h1
   ·exact .inl (List.isEmpty_iff.1 h1)
   ·exact .inr (.inl (List.isEmpty_iff.1 h1))
   ·obtain⟨e,he,hb⟩:=xS h1;exact .inr (.inr ⟨e,he,Nd hb⟩)
  ·have:=hK _ (hents _ (ZH he hn));rw[hset e]at this;exact this
  ·cases he:XX since seen es with
   | true=>
    rw[he]at h;injection h with h
    subst h;exact hK _ List.mem_cons_self
   | false=>
    obtain⟨e,h3,h4⟩:=qN he;cases h5:Nat.ble since e.2.2 with
    | true=>rw[h5]at h4; cases h4
    | false=>
     rw[h5]at h4;exact absurd (hh e h3 (WJ h5)) (Cv.2 h4).2
theorem Z2n{id:Nat}{v:Aa}{m:TM}{p:Aa×TM}(h:Vl id v m=some p){K:Aa→Mem→Prop}(hK:K p.1 p.2.mem):RO id v m.mem K:=by
 unfold Vl at h;split at h<;>first|(cases h; done)|skip
 rename_i b;split at h<;>first|(cases h; done)|skip
 rename_i es clock hg;cases hc:Nat.ble (id+1) bound with
 | false=>rw[hc]at h; cases h
 | true=>
  rw[hc]at h;simp only[cond_true,oI]at h;subst h;have hit:id<bound:=Nd hc;have e2:m.mem.get b=some (.map es clock):=hg;unfold RO;simp only[e2];have:(m.set id (some (.AJ (some b) clock [] clock))).mem=m.mem.set id (.AJ (some b) clock [] clock):=TM.CE hit;simp only[this]at hK;exact hK
theorem Z8i{v:Aa}{m:TM}{y:Aa}(h:VW v m=some y){K:Aa→Prop}(hK:K y):RM v m.mem K:=by
 unfold VW at h;split at h<;>first|(cases h; done)|skip
 rename_i it;split at h<;>first|(cases h; done)|skip
 rename_i b since seen last hi;split at h<;>first|(cases h; done)|skip
 rename_i es clock hg;cases hc:Nat.beq clock last with
 | false=>rw[hc]at h; cases h
 | true=>
  rw[hc]at h;simp only[cond_true]at h;split at h<;>first|(cases h; done)|skip
  rename_i s hs;split at h<;>first|(cases h; done)|skip
  rename_i e hf;injection h with h
  subst h;have e1:m.mem.get it=some (.AJ (some b) since seen last):=hi;have e2:m.mem.get b=some (.map es clock):=hg;unfold RM;simp only[e1,e2];have hmem:e∈es.filter fun e=>Nat.beq e.2.2 s:=by rw[hf]; simp
  rw[List.mem_filter]at hmem;refine⟨Nat.eq_of_beq_eq_true hc,s,hs,⟨e,hmem.1,Nat.eq_of_beq_eq_true hmem.2⟩,fun e' he hs'=>?_⟩
  have:e'∈es.filter fun e=>Nat.beq e.2.2 s:=List.mem_filter.2 ⟨he,by rw[hs']; exact Nat.beq_refl s⟩
  rw[hf]at this;simp only[List.mem_singleton]at this;subst this;exact hK
section
variable {P:Program}
def Sk(P:Program)(nc:Bp):Prop:=
 ∀ g args m outs,nc g args m=some outs → ∀ id,Au P g args m.mem [id] fun r m''=>∃ p,p∈outs∧r=p.1∧m''=p.2.mem
theorem MC{call:AP}{nc:Bp}(AF:D8 P call)(hnc:Sk P nc){n base:Nat}(hn:n≤bound):∀ (ops:List Af) (i:Nat) (s:RS) (outs:List RS),Dj n s.t →
 (ops.all fun o=>match o.dst with|some d=>decide (d<n)|none=>true)=true→E8 call nc base ops i s=some outs →
 (∀ s',s'∈outs→Dj n s'.t) ∧ ∀ K:AY→Prop,(∀ s',s'∈outs→K (s'.st n))→O2 P base ops i K (Cs n s.t) s.m.mem
 | [],i,s,outs,ht,_,h=>by
  simp only[E8,oI]at h;subst h;exact⟨fun s' hs=>by simp only[List.mem_singleton]at hs; subst hs; exact ht,fun K hK=>hK s (by simp)⟩
 | o :: r,i,s,outs,ht,hd,h=>by
  simp only[List.all_cons,bA]at hd;obtain⟨hd1,hd2⟩:=hd;have CU:=ZY hd1;simp only[E8]at h;have many:∀ {l:List (Aa×TM)},F9 (fun p=>E8 call nc base r (i+1) ⟨R3 s.t o.dst p.1,p.2,[]⟩) l=some outs →
   (∀ s',s'∈outs→Dj n s'.t) ∧ ∀ K:AY→Prop,(∀ s',s'∈outs→K (s'.st n)) → ∀ p,p∈l→O2 P base r (i+1) K (put (Cs n s.t) o.dst p.1) p.2.mem:=by
   intro l hl;refine⟨fun s' hs=>?_,fun K hK p hp=>?_⟩
   ·obtain⟨p,a,h1,h2,h3⟩:=Wd hl s' hs;obtain⟨p1,p2⟩:=A4 (v:=p.1) hn ht CU;exact(MC AF hnc hn r (i+1) _ a p1 hd2 h2).1 s' h3
   ·obtain⟨a,h1,h2⟩:=Rq hl p hp;obtain⟨p1,p2⟩:=A4 (v:=p.1) hn ht CU;have:=(MC AF hnc hn r (i+1) _ a p1 hd2 h1).2 K fun s' hs=>hK s' (h2 s' hs)
    rw[← p2];exact this
  cases hw:MM s.t o.guard with
  | none=>simp[hw]at h
  | some q=>
   have hwA:T7 (Cs n s.t) o.guard=some q:=by rw[Yt ht]; exact hw
   cases q with
   | false=>
    simp only[hw]at h;obtain⟨p1,p2⟩:=A4 (v:=Ag) hn ht CU;obtain⟨h1,h2⟩:=MC AF hnc hn r (i+1) ⟨R3 s.t o.dst Ag,s.m,s.wl⟩ outs p1 hd2 h;refine⟨h1,fun K hK=>?_⟩
    simp only[O2,hwA];rw[← p2];exact h2 K hK
   | true=>
    simp only[hw]at h;have other:(∀ f xs,o.op≠.call f xs)→(∀ x,o.op≠.range x)→(∀ x,o.op≠.Cc x)→(∀ x,o.op≠.BL x)→(match Y6 (base+i) (Ch s.t) s.m.tr.get o.op with
     | some (v,d)=>bif FB d then E8 call nc base r (i+1) ⟨R3 s.t o.dst v,s.m.apply d,[]⟩ else none
     | none=>none)=some outs→(∀ s',s'∈outs→Dj n s'.t) ∧ ∀ K:AY→Prop,(∀ s',s'∈outs→K (s'.st n)) → ∃ v m',Z5 (base+i) (Cs n s.t) s.m.mem o.op=some (v,m')∧O2 P base r (i+1) K (put (Cs n s.t) o.dst v) m':=by
     intro _ _ _ _ hh;cases hs:Y6 (base+i) (Ch s.t) s.m.tr.get o.op with
     | none=>simp[hs]at hh
     | some vd=>
      obtain⟨v,d⟩:=vd;simp only[hs]at hh;cases ho:FB d with
      | false=>rw[ho]at hh; cases hh
      | true=>
       rw[ho]at hh;simp only[cond_true]at hh;obtain⟨p1,p2⟩:=A4 (v:=v) hn ht CU;obtain⟨h1,h2⟩:=MC AF hnc hn r (i+1) _ outs p1 hd2 hh;exact⟨h1,fun K hK=>⟨v,_,WK ht hs ho,by rw[← p2]; exact h2 K hK⟩⟩
    by_cases BT:∃ f xs,o.op=.call f xs
    ·obtain⟨f,xs,hop⟩:=BT;simp only[hop]at h;cases hc:MK s.t f xs with
     | none=>simp[hc]at h
     | some ga=>
      obtain⟨g,args⟩:=ga;simp only[hc]at h;have hcA:callee (Cs n s.t) f xs=some (g,args):=by rw[bB ht]; exact hc
      cases Ck:call g args s.m with
      | some vmw=>
       obtain⟨v,m',wl⟩:=vmw;simp only[Ck]at h;obtain⟨q1,q2,q3⟩:=AF g args s.m v m' wl Ck;obtain⟨p1,p2⟩:=A4 (v:=v) hn ht CU;obtain⟨h1,h2⟩:=MC AF hnc hn r (i+1) _ outs p1 hd2 h;refine⟨h1,fun K hK=>?_⟩
       simp only[O2,hwA,hop,hcA];refine(q3 (base+i)).mono fun y m'' hy=>?_
       obtain⟨rfl,rfl⟩:=hy;rw[← p2];exact h2 K hK
      | none=>
       simp only[Ck]at h;cases hno:nc g args s.m with
       | none=>simp[hno]at h
       | some l=>
        simp only[hno]at h;obtain⟨h1,h2⟩:=many h;refine⟨h1,fun K hK=>?_⟩
        simp only[O2,hwA,hop,hcA];refine(hnc g args s.m l hno (base+i)).mono fun y m'' hy=>?_
        obtain⟨p,hp,rfl,rfl⟩:=hy;exact h2 K hK p hp
    ·by_cases Ap:∃ x,o.op=.range x
     ·obtain⟨x,hop⟩:=Ap;simp only[hop]at h;cases hq:Vl (base+i) (Ch s.t x) s.m with
      | none=>simp[hq]at h
      | some p=>
       obtain⟨v,m'⟩:=p;simp only[hq]at h;obtain⟨p1,p2⟩:=A4 (v:=v) hn ht CU;obtain⟨h1,h2⟩:=MC AF hnc hn r (i+1) _ outs p1 hd2 h;refine⟨h1,fun K hK=>?_⟩
       simp only[O2,hwA,hop,Jk ht];refine Z2n hq ?_;rw[← p2];exact h2 K hK
     ·by_cases CY:∃ x,o.op=.Cc x
      ·obtain⟨x,hop⟩:=CY;simp only[hop]at h;cases hq:Vo (Ch s.t x) s.m with
       | none=>simp[hq]at h
       | some l=>
        simp only[hq]at h;obtain⟨h1,h2⟩:=many h;refine⟨h1,fun K hK=>?_⟩
        simp only[O2,hwA,hop,Jk ht];exact Z6n hq fun p hp=>h2 K hK p hp
      ·by_cases hen:∃ x,o.op=.BL x
       ·obtain⟨x,hop⟩:=hen;simp only[hop]at h;cases hq:VW (Ch s.t x) s.m with
        | none=>simp[hq]at h
        | some v=>
         simp only[hq]at h;obtain⟨p1,p2⟩:=A4 (v:=v) hn ht CU;obtain⟨h1,h2⟩:=MC AF hnc hn r (i+1) _ outs p1 hd2 h;refine⟨h1,fun K hK=>?_⟩
         simp only[O2,hwA,hop,Jk ht];refine Z8i hq ?_;rw[← p2];exact h2 K hK
       have n4:∀ x,o.op≠.BL x:=fun x he=>hen ⟨x,he⟩
       have n1:∀ f xs,o.op≠.call f xs:=fun f xs he=>BT ⟨f,xs,he⟩
       have n2:∀ x,o.op≠.range x:=fun x he=>Ap ⟨x,he⟩
       have n3:∀ x,o.op≠.Cc x:=fun x he=>CY ⟨x,he⟩
       have h':(match Y6 (base+i) (Ch s.t) s.m.tr.get o.op with
        | some (v,d)=>bif FB d then E8 call nc base r (i+1) ⟨R3 s.t o.dst v,s.m.apply d,[]⟩ else none
        | none=>none)=some outs:=by
        cases hop:o.op<;>rw[hop]at h<;>first|(exact absurd hop (n1 _ _))|(exact absurd hop (n2 _))|(exact absurd hop (n3 _))|(exact absurd hop (n4 _))|exact h
       obtain⟨h1,h2⟩:=other n1 n2 n3 n4 h';refine⟨h1,fun K hK=>?_⟩
       obtain⟨v,m',h3,h4⟩:=h2 K hK;simp only[O2,hwA];cases hop:o.op<;>rw[hop]at h3<;>first|(exact absurd hop (n1 _ _))|(exact absurd hop (n2 _))|(exact absurd hop (n3 _))|(exact absurd hop (n4 _))|(simp only[h3]; exact h4)
theorem LM{x y:Code}{Q:Exit→AY→Prop}{σ:AY}(hx:DI P x (SF (fun σ'=>DI P y Q σ') Q) σ):DI P (.seq x y) Q σ:=by
 intro W Φ ρ a w hr ht hd;refine wp_seq (wp_mono (hx W Φ ρ a w hr ht hd) ?_);intro e a' w' hl;have key:∀ e',e=e'→e'≠.normal→J7 W Φ ρ σ.m.next Q e a' w':=by
  intro e' he hne;refine VH hl fun σ' hq=>?_
  subst he;cases e<;>first|exact absurd rfl hne|exact hq
 cases e with
 | normal=>
  obtain⟨σ',Ar,ρ',h1,h2,h3,h4,h5,h6,h7⟩:=hl;exact wp_mono (h7 W Ar ρ' a' w' h4 h5 h6) fun e a w hl'=>Xf h1 h2 h3 hl'
 | exit i=>exact key _ rfl (by simp)
 | goto l=>exact key _ rfl (by simp)
 | ret=>exact key _ rfl (by simp)
 | panic ch=>exact key _ rfl (by simp)
 | outgrown=>exact key _ rfl (by simp)
theorem Z59{id:Nat}{c:Code}{Q:Exit→AY→Prop}{σ:AY}(h:DI P c (Hu id Q) σ):DI P (.block id c) Q σ:=by
 intro W Φ ρ a w hr ht hd;refine wp_block (wp_mono (h W Φ ρ a w hr ht hd) ?_);intro e a' w' hl;cases e with
 | exit i=>
  simp only[Exit.inBlock];obtain⟨σ',Ar,ρ',h1,h2,h3,h4,h5,h6,h7⟩:=hl;simp only[Hu]at h7;split
  ·rename_i hi;rw[iP hi]at h7;exact⟨σ',Ar,ρ',h1,h2,h3,h4,h5,h6,h7⟩
  ·rename_i hi;rw[iN hi]at h7;exact⟨σ',Ar,ρ',h1,h2,h3,h4,h5,h6,h7⟩
 | normal=>exact hl
 | goto l=>exact hl
 | ret=>exact hl
 | panic ch=>exact hl
 | outgrown=>exact hl
theorem vX{c:Code}{Q:Exit→AY→Prop}{σ:AY}(h:DI P c (Sn Q) σ):DI P (.scope c) Q σ:=by
 intro W Φ ρ a w hr ht hd;refine wp_scope_straight (wp_mono (h W Φ ρ a w hr ht hd) ?_);intro e a' w' hl;cases e with
 | goto l=>
  obtain⟨σ',Ar,ρ',h1,h2,h3,h4,h5,h6,h7⟩:=hl;exact h7.elim
 | normal=>exact hl
 | exit i=>exact hl
 | ret=>exact hl
 | panic ch=>exact hl
 | outgrown=>exact hl
theorem Z9w{c:Code}{Q:Exit→AY→Prop}{σ:AY}(I:Nat→AY→Prop)(k0:Nat)(h0:I k0 σ)(Dm:∀ k σ1,I k σ1→DI P c (SF (fun σ'=>∃ j,j<k∧I j σ') Q) σ1):DI P (.loop c) Q σ:=by
 intro W Φ ρ a w hr ht hd;refine wp_loop_ghost (fun n a' w'=>∃ σ' Ar ρ',Ext Φ ρ Ar ρ'∧BI σ.m.next ρ ρ'∧σ.m.next≤σ'.m.next∧Rel W Ar ρ' σ'.m w'∧RL Ar ρ' σ'.t a'.tmps∧a'.defers=[]∧I n σ') k0
  ⟨σ,Φ,ρ,.refl _ _,.refl _ _,lR _,hr,ht,hd,h0⟩ ?_
 rintro n a' w' ⟨σ',Ar,ρ',h1,h2,h3,h4,h5,h6,h7⟩;refine wp_mono (Dm n σ' h7 W Ar ρ' a' w' h4 h5 h6) ?_;intro e a'' w'' hl;have key:∀ e',e=e'→e'≠.normal→J7 W Φ ρ σ.m.next Q e a'' w'':=by
  intro e' he hne;refine Xf h1 h2 h3 (VH hl fun σ'' hq=>?_)
  subst he;cases e<;>first|exact absurd rfl hne|exact hq
 cases e with
 | normal=>
  obtain⟨σ'',EN,DG,g1,g2,g3,g4,g5,g6,k,g7,g8⟩:=hl;exact⟨k,g7,σ'',EN,DG,h1.trans g1,h2.trans g2 h3,Nat.le_trans h3 g3,g4,g5,g6,g8⟩
 | exit i=>exact key _ rfl (by simp)
 | goto l=>exact key _ rfl (by simp)
 | ret=>exact key _ rfl (by simp)
 | panic ch=>exact key _ rfl (by simp)
 | outgrown=>exact key _ rfl (by simp)
def Ia(n:Nat)(Q:Exit→AY→Prop)(outs:List (BO×RS)):Prop:=∀ o,o∈outs→Q o.1.exit' (o.2.st n)
theorem LH(hm:P.follows .mixedOrders=true){call:AP}{nc:Bp}(AF:D8 P call)(hnc:Sk P nc){n:Nat}(hn:n≤bound):∀ (f:Nat) (c:Code) (s:RS) (outs:List (BO×RS)),Dj n s.t→U9 n (Y4 P c)=true→V8 call nc f (Y4 P c) s=some outs →
 (∀ o,o∈outs→Dj n o.2.t) ∧ ∀ Q:Exit→AY→Prop,Ia n Q outs→DI P c Q (s.st n):=by
 intro f
 induction f using Nat.strongRecOn with
 | ind f ih=>
  intro c s outs ht hd h;cases f with
  | zero=>simp[V8]at h
  | succ f=>
   have one:∀ {e:BO} {s':RS},Dj n s'.t→outs=[(e,s')]→(∀ o,o∈outs→Dj n o.2.t) ∧ ∀ Q:Exit→AY→Prop,Ia n Q outs→Q e.exit' (s'.st n):=by
    intro e s' h1 h2;subst h2;exact⟨fun o ho=>by simp only[List.mem_singleton]at ho; subst ho; exact h1,fun Q hQ=>hQ (e,s') (by simp)⟩
   have hown:∀ {W:AA} {Φ:Ao} {ρ:AD} {a:Act} {w:World} {Q:Exit→AY→Prop} {e:Exit},Rel W Φ ρ (s.st n).m w→RL Φ ρ (s.st n).t a.tmps→a.defers=[]→Q e (s.st n)→J7 W Φ ρ (s.st n).m.next Q e a w:=
    fun hr hta hda hQ=>⟨s.st n,_,_,.refl _ _,.refl _ _,lR _,hr,hta,hda,hQ⟩
   cases c with
   | skip=>
    simp only[Y4,V8,oI]at h;obtain⟨h1,h2⟩:=one ht h.symm;exact⟨h1,fun Q hQ W Φ ρ a w hr hta hda=>wp_skip (hown hr hta hda (h2 Q hQ))⟩
   | label l=>
    simp only[Y4,V8,oI]at h;obtain⟨h1,h2⟩:=one ht h.symm;exact⟨h1,fun Q hQ W Φ ρ a w hr hta hda=>wp_label (hown hr hta hda (h2 Q hQ))⟩
   | exit i=>
    simp only[Y4,V8,oI]at h;obtain⟨h1,h2⟩:=one ht h.symm;exact⟨h1,fun Q hQ W Φ ρ a w hr hta hda=>wp_exit (hown hr hta hda (h2 Q hQ))⟩
   | ret=>
    simp only[Y4,V8,oI]at h;obtain⟨h1,h2⟩:=one ht h.symm;exact⟨h1,fun Q hQ W Φ ρ a w hr hta hda=>wp_ret (hown hr hta hda (h2 Q hQ))⟩
   | rangeFunc f' ps x y=>simp[Y4,V8]at h
   | goto l=>simp[Y4,V8]at h
   | refuse r=>simp[Y4,V8]at h
   | region id ops draw=>
    cases draw with
    | false=>
     cases hcs:F2 P ops ops.toList with
     | none=>simp[Y4,hcs,V8]at h
     | some EO=>
      simp only[Y4,hcs]at h hd;simp only[V8]at h;cases hb:Nat.ble (s.m.next+EO.length) bound with
      | false=>rw[hb]at h; cases h
      | true=>
       rw[hb]at h;simp only[cond_true]at h;cases hr:E8 call nc s.m.next EO 0 ⟨s.t,⟨s.m.tr,s.m.next+EO.length⟩,s.wl⟩ with
       | none=>simp[hr]at h
       | some l=>
        simp only[hr,oI]at h;subst h;obtain⟨h1,h2⟩:=MC AF hnc hn EO 0 ⟨s.t,⟨s.m.tr,s.m.next+EO.length⟩,s.wl⟩ l ht hd hr;refine⟨fun o ho=>?_,fun Q hQ=>um hcs (h2 (Q .normal) fun s' hs=>hQ (.normal,s') (mM.2 ⟨s',hs,rfl⟩))⟩
        obtain⟨s',hs,rfl⟩:=mM.1 ho;exact h1 s' hs
    | true=>
     obtain⟨C,hC⟩:∃ C,C=Y4 P (.region id ops true):=⟨_,rfl⟩
     have Pm:(∃ os,C=.region true os)∨C=.bad:=by
      rw[hC];simp only[Y4];split
      ·split
       ·exact .inl ⟨_,rfl⟩
       ·exact .inr rfl
      ·exact .inr rfl
     rw[← hC]at h hd;rcases Pm with⟨os,rfl⟩|rfl
     ·simp only[V8]at h;cases hb:Nat.ble (s.m.next+os.length) bound with
      | false=>rw[hb]at h; cases h
      | true=>
       rw[hb]at h;simp only[cond_true]at h;cases hr:A3 call s.m.next s.m.next os [] ⟨s.t,⟨s.m.tr,s.m.next+os.length⟩,[]⟩ with
       | none=>simp[hr]at h
       | some s2=>
        simp only[hr,oI]at h;obtain⟨h1,h2⟩:=Oc AF hn os [] ⟨s.t,⟨s.m.tr,s.m.next+os.length⟩,[]⟩ s2 ht (by show s.m.next≤s.m.next+os.length; omega) hd hr
        obtain⟨k1,k2⟩:=one (e:=.normal) h1.t h.symm;refine⟨k1,fun Q hQ=>bM hm ?_⟩
        rw[← hC];exact h2 (Q .normal) (k2 Q hQ)
     ·simp[V8]at h
   | seq a b=>
    simp only[Y4,U9,bA]at hd;simp only[Y4,V8]at h;cases hr:V8 call nc f (Y4 P a) s with
    | none=>simp[hr]at h
    | some l=>
     simp only[hr]at h;obtain⟨h1,h2⟩:=ih f (Nat.lt_succ_self f) a s l ht hd.1 hr;refine⟨fun o ho=>?_,fun Q hQ=>LM (h2 _ fun es hes=>?_)⟩
     ·obtain⟨es,a',g1,g2,g3⟩:=Wd h o ho;cases hes:es.1 with
      | normal=>simp only[hes]at g2; exact(ih f (Nat.lt_succ_self f) b es.2 a' (h1 es g1) hd.2 g2).1 o g3
      | exit i=>simp only[hes,oI]at g2; subst g2; simp only[List.mem_singleton]at g3; subst g3; exact h1 es g1
      | ret=>simp only[hes,oI]at g2; subst g2; simp only[List.mem_singleton]at g3; subst g3; exact h1 es g1
     ·obtain⟨a',g2,g3⟩:=Rq h es hes;cases he:es.1 with
      | normal=>
       simp only[he]at g2;exact(ih f (Nat.lt_succ_self f) b es.2 a' (h1 es hes) hd.2 g2).2 Q fun o ho=>hQ o (g3 o ho)
      | exit i=>simp only[he,oI]at g2; subst g2; exact hQ _ (g3 _ List.mem_cons_self)
      | ret=>simp only[he,oI]at g2; subst g2; exact hQ _ (g3 _ List.mem_cons_self)
   | cond x a b=>
    cases hx:X3 x with
    | none=>simp[Y4,hx,V8]at h
    | some x'=>
     simp only[Y4,hx,U9,bA]at hd;simp only[Y4,hx,V8]at h;have hev:ev (Cs n s.t) x'=Ch s.t x':=congrFun (Jk ht) x';split at h
     ·rename_i hb;obtain⟨h1,h2⟩:=ih f (Nat.lt_succ_self f) a s outs ht hd.1 h;refine⟨h1,fun Q hQ W Φ ρ ac w hr hta hda=>?_⟩
      have hv:=R4 hta hx;have e0:ev (s.st n).t x'=.bool true:=hev.trans hb;rw[e0]at hv;generalize hz:ac.eval x=v at hv;cases hv;exact wp_cond_true hz (h2 Q hQ W Φ ρ ac w hr hta hda)
     ·rename_i hb;obtain⟨h1,h2⟩:=ih f (Nat.lt_succ_self f) b s outs ht hd.2 h;refine⟨h1,fun Q hQ W Φ ρ ac w hr hta hda=>?_⟩
      have hv:=R4 hta hx;have e0:ev (s.st n).t x'=.bool false:=hev.trans hb;rw[e0]at hv;generalize hz:ac.eval x=v at hv;cases hv;exact wp_cond_false hz (h2 Q hQ W Φ ρ ac w hr hta hda)
     ·cases h
   | block i c=>
    simp only[Y4,U9]at hd;simp only[Y4,V8]at h;cases hr:V8 call nc f (Y4 P c) s with
    | none=>simp[hr]at h
    | some l=>
     simp only[hr,oI]at h;obtain⟨h1,h2⟩:=ih f (Nat.lt_succ_self f) c s l ht hd hr;subst h;refine⟨fun o ho=>?_,fun Q hQ=>Z59 (h2 _ fun es hes=>?_)⟩
     ·obtain⟨es,g1,rfl⟩:=mM.1 ho;have:=h1 es g1;cases es.1 with
      | normal=>exact this
      | ret=>exact this
      | exit k=>cases hq:Nat.beq k i<;>simp only[hq,cond_true,cond_false]<;>exact this
     ·have:=hQ _ (mM.2 ⟨es,hes,rfl⟩);cases he:es.1 with
      | normal=>simp only[he]at this; exact this
      | ret=>simp only[he]at this; exact this
      | exit k=>
       simp only[he]at this;cases hq:Nat.beq k i with
       | true=>
        rw[hq]at this;have hki:=Nat.eq_of_beq_eq_true hq;subst hki;simp only[BO.exit',Hu,if_true];exact this
       | false=>
        rw[hq]at this;have hne:k≠i:=fun e=>by subst e; rw[Nat.beq_refl]at hq; cases hq
        simp only[BO.exit',Hu,iN hne];exact this
   | scope c=>
    simp only[Y4,U9]at hd;simp only[Y4,V8]at h;obtain⟨h1,h2⟩:=ih f (Nat.lt_succ_self f) c s outs ht hd h;refine⟨h1,fun Q hQ=>vX (h2 _ fun es hes=>?_)⟩
    have:=hQ es hes;cases he:es.1<;>rw[he]at this<;>exact this
   | loop c=>
    have hdl:=hd;simp only[Y4,U9]at hd;have step:∀ (k:Nat) (s1:RS) (DA:List (BO×RS)),k≤f→Dj n s1.t→V8 call nc (k+1) (Y4 P (.loop c)) s1=some DA →
     ∃ l,V8 call nc k (Y4 P c) s1=some l∧(∀ es,es∈l→Dj n es.2.t)∧(∀ o,o∈DA → ∃ es a',es∈l∧o∈a'∧(match es.1 with | .normal=>V8 call nc k (Y4 P (.loop c)) es.2=some a'|e=>a'=[(e,es.2)])) ∧
      (∀ es,es∈l → ∃ a',(∀ o,o∈a'→o∈DA)∧(match es.1 with | .normal=>V8 call nc k (Y4 P (.loop c)) es.2=some a'|e=>a'=[(e,es.2)])) ∧ ∀ Q:Exit→AY→Prop,Ia n Q l→DI P c Q (s1.st n):=by
     intro k s1 DA hk ht1 hr1;simp only[Y4,V8]at hr1;cases hr:V8 call nc k (Y4 P c) s1 with
     | none=>simp[hr]at hr1
     | some l=>
      simp only[hr]at hr1;obtain⟨h1,h2⟩:=ih k (by omega) c s1 l ht1 hd hr
      refine⟨l,rfl,h1,fun o ho=>?_,fun es hes=>?_,h2⟩
      ·obtain⟨es,a',g1,g2,g3⟩:=Wd hr1 o ho;refine⟨es,a',g1,g3,?_⟩;cases he:es.1 with
       | normal=>simp only[he]at g2; exact g2
       | exit i=>simp only[he,oI]at g2; exact g2.symm
       | ret=>simp only[he,oI]at g2; exact g2.symm
      ·obtain⟨a',g2,g3⟩:=Rq hr1 es hes;refine⟨a',g3,?_⟩;cases he:es.1 with
       | normal=>simp only[he]at g2; exact g2
       | exit i=>simp only[he,oI]at g2; exact g2.symm
       | ret=>simp only[he,oI]at g2; exact g2.symm
    refine⟨fun o ho=>?_,fun Q hQ=>?_⟩
    ·obtain⟨l,_,h2,h3,_,_⟩:=step f s outs (lR _) ht h;obtain⟨es,a',g1,g2,g3⟩:=h3 o ho;cases he:es.1 with
     | normal=>
      simp only[he]at g3;exact(ih f (Nat.lt_succ_self f) (.loop c) es.2 a' (h2 es g1) hdl g3).1 o g2
     | exit i=>simp only[he]at g3; subst g3; simp only[List.mem_singleton]at g2; subst g2; exact h2 es g1
     | ret=>simp only[he]at g3; subst g3; simp only[List.mem_singleton]at g2; subst g2; exact h2 es g1
    ·refine Z9w (fun k σ=>k≤f ∧ ∃ s1 DA,σ=s1.st n∧Dj n s1.t∧V8 call nc (k+1) (Y4 P (.loop c)) s1=some DA∧Ia n Q DA) f ⟨lR _,s,outs,rfl,ht,h,hQ⟩ ?_
     rintro k σ ⟨hkf,s1,DA,rfl,ht1,hr1,hQ1⟩;obtain⟨l,_,h2,_,h4,h5⟩:=step k s1 DA hkf ht1 hr1;refine h5 _ fun es hes=>?_
     obtain⟨a',g1,g2⟩:=h4 es hes;cases he:es.1 with
     | normal=>
      simp only[he]at g2;cases k with
      | zero=>simp[V8]at g2
      | succ k=>exact ⟨k,Nat.lt_succ_self k,by omega,es.2,a',rfl,h2 es hes,g2,fun o ho=>hQ1 o (g1 o ho)⟩
     | exit i=>simp only[he]at g2; subst g2; exact hQ1 _ (g1 _ List.mem_cons_self)
     | ret=>simp only[he]at g2; subst g2; exact hQ1 _ (g1 _ List.mem_cons_self)
theorem xU{f:FuncId}{fn:Func}{args:List Aa}{m:Mem}{av:List Nat}{K:Aa→Mem→Prop}{c:Code}{rs:List (Nat×Option (Option Nat))}(hf:P.funcs[f]? = some fn)(hb:fn.body=some c)(CB:Ka P fn.results.toList=some rs)(hname:(fn.name == "runtime.NumGoroutine")=false)
 (h:DI P c (FZ rs K) ⟨args++List.replicate (fn.ntmps - args.length) Ag,m⟩):Au P f args m av K:=by
 refine⟨⟨fn,hf,hname,by rw[hb]; rfl⟩,fun W Φ ρ vs w hr ha CN=>?_⟩
 have ht:RL Φ ρ (args++List.replicate (fn.ntmps - args.length) Ag) (vs++Array.replicate (fn.ntmps - vs.size) undef):=by
  refine⟨by simp[ha.1],fun i x v hx hv=>?_⟩
  rw[List.getElem?_append]at hx;rw[Array.getElem?_append,ha.1]at hv;split at hx
  ·rename_i hlt;rw[iP hlt]at hv;exact ha.2 i x v hx hv
  ·rename_i hge;rw[iN hge]at hv;have e1:x=Ag:=by
    have:=gS.1 hx;obtain⟨_,hh⟩:=this;simpa using hh.symm
   have e2:v=undef:=by
    have:=Array.getElem?_eq_some_iff.1 hv;obtain⟨_,hh⟩:=this;simpa using hh.symm
   subst e1; subst e2;exact GM _ _
 have hs:=h W Φ ρ { tmps:=vs++Array.replicate (fn.ntmps - vs.size) undef,defers:=[] } w hr ht rfl;refine calls_of_wp hf hb (wp_mono hs fun e a w' hl=>?_)
 obtain⟨σ,Ar,ρ',h1,h2,h3,h4,h5,h6,h7⟩:=hl;have fin:(match N5 σ.t σ.m rs with|some r=>K r σ.m|none=>False)→a.defers=[] ∧ ∃ v,(results fn a.tmps).run P w'=.ok v w' ∧
  ∃ v' r m' Ar ρ',Ending.returned v=.returned v'∧Ext Φ ρ Ar ρ'∧(∀ b,b<m.next→b∉av→ρ b=none→ρ' b=none)∧Rel W Ar ρ' m' w'∧R Ar ρ' r v'∧m.next≤m'.next∧K r m':=by
  intro hh;cases hz:N5 σ.t σ.m rs with
  | none=>simp[hz]at hh
  | some r=>
   simp only[hz]at hh;obtain⟨u,g1,g2⟩:=Tn h4 h5 CB hz;exact⟨h6,u,g1,u,r,σ.m,Ar,ρ',rfl,h1,fun b hb _ h0=>h2 b hb h0,h4,g2,h3,hh⟩
 cases e with
 | normal=>exact fin h7
 | ret=>exact fin h7
 | exit i=>exact h7.elim
 | goto l=>exact h7.elim
 | panic ch=>exact h7.elim
 | outgrown=>exact h7.elim
theorem qL(hm:P.follows .mixedOrders=true){Ds:Nat→Option As}{call:AP}(FR:SI P Ds)(AF:D8 P call):∀ f,Sk P (Rx Ds call f)
 | 0,g,args,m,outs,h=>by simp[Rx]at h
 | f+1,g,args,m,outs,h=>by
  have ih:=qL hm FR AF f;simp only[Rx]at h;cases ht:Ds g with
  | none=>simp[ht]at h
  | some af=>
   simp only[ht]at h;obtain⟨⟨fn,EK,Fv⟩,hd,hb⟩:=FR g af ht;cases hl:Nat.ble args.length af.ntmps with
   | false=>rw[hl]at h; cases h
   | true=>
    rw[hl]at h;simp only[cond_true]at h;obtain⟨c,hbd,hbody,CB,hnt,hname⟩:=SU Fv;obtain⟨a1,a2⟩:=Xb hb (Nd hl);cases hr:V8 call (Rx Ds call f) 1000 af.body ⟨D0 .nil 0 args,m,[]⟩ with
    | none=>simp[hr]at h
    | some l=>
     simp only[hr]at h;rw[hbody]at hr hd;obtain⟨h1,h2⟩:=LH hm AF ih hb 1000 c _ l a1 hd hr;intro id;refine xU (c:=c) (rs:=af.results) EK hbd CB hname ?_;rw[← hnt,← a2];refine h2 _ fun es hes=>?_
     obtain⟨a',g2,g3⟩:=Rq h es hes;have hrA:∀ v,C4 es.2.t es.2.m af.results=some v→N5 (es.2.st af.ntmps).t (es.2.st af.ntmps).m af.results=some v:=fun v hv=>by
      show N5 (Cs af.ntmps es.2.t) es.2.m.mem af.results=some v;rw[Yb (h1 es hes)];exact hv
     have fin:(match C4 es.2.t es.2.m af.results with|some v=>some [(v,es.2.m)]|none=>none)=some a'→(match N5 (es.2.st af.ntmps).t (es.2.st af.ntmps).m af.results with|some r=>∃ p,p∈outs∧r=p.1∧(es.2.st af.ntmps).m=p.2.mem|none=>False):=by
      intro hh;cases hv:C4 es.2.t es.2.m af.results with
      | none=>simp[hv]at hh
      | some v=>
       simp only[hv,oI]at hh;subst hh;rw[hrA v hv];exact⟨(v,es.2.m),g3 _ List.mem_cons_self,rfl,rfl⟩
     cases he:es.1 with
     | normal=>simp only[he]at g2; exact fin g2
     | ret=>simp only[he]at g2; exact fin g2
     | exit i=>simp only[he]at g2; cases g2
theorem ZE{α:Type}{f:α→Bool}:∀ {l:List α},Fs f l=true → ∀ x,x∈l→f x=true
 | [],_,x,hx=>by simp at hx
 | z :: r,h,x,hx=>by
  simp only[Fs]at h;cases h1:f z with
  | false=>rw[h1]at h; cases h
  | true=>
   rw[h1]at h;simp only[mC]at hx;rcases hx with rfl|hx
   ·exact h1
   ·exact ZE h x hx
end
end Go.AE
