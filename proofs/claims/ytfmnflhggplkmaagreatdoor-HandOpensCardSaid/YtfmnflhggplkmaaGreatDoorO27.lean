/- Part 27 of the proof: AeMd. -/
import Derived.Test.YtfmnflhggplkmaaGreatDoorO19
import Derived.Test.YtfmnflhggplkmaaGreatDoorO26
set_option linter.all false
namespace Go.AE
open Go.RowKit
abbrev NCaller:=FuncId→List AVal→TM→Option (List (AVal×TM))
def appO {α β:Type} (f:α→Option (List β)):List α→Option (List β)
 | []=>some []
 | x :: r=>match f x with
  | some a=>match appO f r with
   | some b=>some (a++b)
   | none=>none
  | none=>none
def anyB {α:Type} (f:α→Bool):List α→Bool
 | []=>false
 | x :: r=>bif f x then true else anyB f r
def allB {α:Type} (f:α→Bool):List α→Bool
 | []=>true
 | x :: r=>bif f x then allB f r else false
def entsT (it b since:Nat) (seen:List Nat) (clock:Nat) (m:TM):List (AVal×AVal×Nat)→List (AVal×TM)
 | []=>[]
 | e :: r=>bif mem1 e.2.2 seen then entsT it b since seen clock m r
  else (.tuple [.bool true,e.1,e.2.1],m.set it (some (.miter (some b) since (seen++[e.2.2]) clock))) :: entsT it b since seen clock m r
def endsT (since:Nat) (seen:List Nat) (es:List (AVal×AVal×Nat)):Bool:=allB (fun e=>bif Nat.ble since e.2.2 then true else mem1 e.2.2 seen) es
def nextT (v:AVal) (m:TM):Option (List (AVal×TM)):=
 match v with
 | .ptr it 0 0=>match m.tr.get it with
  | some (.miter (some b) since seen last)=>match m.tr.get b with
   | some (.map es clock)=>bif (seen.isEmpty||es.isEmpty||anyB (fun e=>Nat.ble (e.2.2+1) last) es)&&Nat.ble (it+1) bound then
    bif endsT since seen es then some ((.tuple [.bool false],m) :: entsT it b since seen clock m es)else some (entsT it b since seen clock m es)
    else none
   | _=>none
  | _=>none
 | _=>none
def rangeT (id:Nat) (v:AVal) (m:TM):Option (AVal×TM):=
 match v with
 | .map b=>match m.tr.get b with
  | some (.map _ clock)=>bif Nat.ble (id+1) bound then some (.ptr id 0 0,m.set id (some (.miter (some b) clock [] clock)))else none
  | _=>none
 | _=>none
def entryT (v:AVal) (m:TM):Option AVal:=
 match v with
 | .ptr it 0 0=>match m.tr.get it with
  | some (.miter (some b) _ seen last)=>match m.tr.get b with
   | some (.map es clock)=>bif Nat.beq clock last then match seen.getLast? with
    | some s=>match es.filter fun e=>Nat.beq e.2.2 s with
     | [e]=>some (.tuple [e.1,e.2.1])
     | _=>none
    | none=>none
    else none
   | _=>none
  | _=>none
 | _=>none
def runPN (call:Caller) (nc:NCaller) (base:Nat):List AOper→Nat→RS→Option (List RS)
 | [],_,s=>some [s]
 | o :: r,i,s=>
  match wantedT s.t o.guard with
  | some false=>runPN call nc base r (i+1) { s with t:=putT s.t o.dst aundef }
  | some true=>
   match o.op with
   | .call f xs=>match calleeT s.t f xs with
    | some (g,args)=>match call g args s.m with
     | some (v,m',_)=>runPN call nc base r (i+1) ⟨putT s.t o.dst v,m',[]⟩
     | none=>match nc g args s.m with
      | some outs=>appO (fun p=>runPN call nc base r (i+1) ⟨putT s.t o.dst p.1,p.2,[]⟩) outs
      | none=>none
    | none=>none
   | .range x=>match rangeT (base+i) (evT s.t x) s.m with
    | some (v,m')=>runPN call nc base r (i+1) ⟨putT s.t o.dst v,m',[]⟩
    | none=>none
   | .nextM x=>match nextT (evT s.t x) s.m with
    | some outs=>appO (fun p=>runPN call nc base r (i+1) ⟨putT s.t o.dst p.1,p.2,[]⟩) outs
    | none=>none
   | .nextS x=>match entryT (evT s.t x) s.m with
    | some v=>runPN call nc base r (i+1) ⟨putT s.t o.dst v,s.m,[]⟩
    | none=>none
   | op=>match stepD (base+i) (evT s.t) s.m.tr.get op with
    | some (v,d)=>bif okD d then runPN call nc base r (i+1) ⟨putT s.t o.dst v,s.m.apply d,[]⟩ else none
    | none=>none
  | none=>none
def runCN (call:Caller) (nc:NCaller):Nat→ACode→RS→Option (List (REnd×RS))
 | 0,_,_=>none
 | f+1,c,s=>
  match c with
  | .skip | .label _=>some [(.normal,s)]
  | .region false ops=>
   bif Nat.ble (s.m.next+ops.length) bound then match runPN call nc s.m.next ops 0 ⟨s.t,⟨s.m.tr,s.m.next+ops.length⟩,s.wl⟩ with
    | some outs=>some (outs.map fun s'=>(.normal,s'))
    | none=>none
   else none
  | .region true ops=>
   bif Nat.ble (s.m.next+ops.length) bound then match runD call s.m.next s.m.next ops [] ⟨s.t,⟨s.m.tr,s.m.next+ops.length⟩,[]⟩ with
    | some s'=>some [(.normal,s')]
    | none=>none
   else none
  | .seq a b=>match runCN call nc f a s with
   | some outs=>appO (fun es=>match es.1 with
    | .normal=>runCN call nc f b es.2
    | .exit n=>some [(.exit n,es.2)]
    | .ret=>some [(.ret,es.2)]) outs
   | none=>none
  | .cond c a b=>match evT s.t c with
   | .bool true=>runCN call nc f a s
   | .bool false=>runCN call nc f b s
   | _=>none
  | .block id c=>match runCN call nc f c s with
   | some outs=>some (outs.map fun es=>match es.1 with
    | .exit n=>bif Nat.beq n id then (.normal,es.2)else (.exit n,es.2)
    | .normal=>(.normal,es.2)
    | .ret=>(.ret,es.2))
   | none=>none
  | .loop c=>match runCN call nc f c s with
   | some outs=>appO (fun es=>match es.1 with
    | .normal=>runCN call nc f (.loop c) es.2
    | .exit n=>some [(.exit n,es.2)]
    | .ret=>some [(.ret,es.2)]) outs
   | none=>none
  | .exit n=>some [(.exit n,s)]
  | .scope c=>runCN call nc f c s
  | .ret=>some [(.ret,s)]
  | .bad=>none
def runFN (tab:Nat→Option AFn) (call:Caller):Nat→NCaller
 | 0,_,_,_=>none
 | f+1,g,args,m=>match tab g with
  | some af=>bif Nat.ble args.length af.ntmps then match runCN call (runFN tab call f) 1000 af.body ⟨argsT .nil 0 args,m,[]⟩ with
   | some outs=>appO (fun es=>match es.1 with
    | .exit _=>none
    | _=>match retT es.2.t es.2.m af.results with
     | some v=>some [(v,es.2.m)]
     | none=>none) outs
   | none=>none
   else none
  | none=>none
theorem appO_mem {α β:Type} {f:α→Option (List β)}:∀ {l:List α} {out:List β},appO f l=some out → ∀ x,x∈l → ∃ a,f x=some a ∧ ∀ y,y∈a→y∈out
 | [],_,_,x,hx=>by simp at hx
 | z :: r,out,h,x,hx=>by
  simp only[appO]at h
  cases h1:f z with
  | none=>simp[h1]at h
  | some a=>
   cases h2:appO f r with
   | none=>simp[h1,h2]at h
   | some b=>
    simp only[h1,h2,Option.some.injEq]at h
    subst h
    simp only[List.mem_cons]at hx
    rcases hx with rfl|hx
    ·exact⟨a,h1,fun y hy=>List.mem_append_left _ hy⟩
    ·obtain⟨a',h3,h4⟩:=appO_mem h2 x hx
     exact⟨a',h3,fun y hy=>List.mem_append_right _ (h4 y hy)⟩
theorem appO_from {α β:Type} {f:α→Option (List β)}:∀ {l:List α} {out:List β},appO f l=some out → ∀ y,y∈out → ∃ x a,x∈l∧f x=some a∧y∈a
 | [],out,h,y,hy=>by
  simp only[appO,Option.some.injEq]at h
  subst h
  simp at hy
 | z :: r,out,h,y,hy=>by
  simp only[appO]at h
  cases h1:f z with
  | none=>simp[h1]at h
  | some a=>
   cases h2:appO f r with
   | none=>simp[h1,h2]at h
   | some b=>
    simp only[h1,h2,Option.some.injEq]at h
    subst h
    rcases List.mem_append.1 hy with hy|hy
    ·exact⟨z,a,by simp,h1,hy⟩
    ·obtain⟨x,a',h3,h4,h5⟩:=appO_from h2 y hy
     exact⟨x,a',List.mem_cons_of_mem _ h3,h4,h5⟩
theorem anyB_spec {α:Type} {f:α→Bool}:∀ {l:List α},anyB f l=true → ∃ x,x∈l∧f x=true
 | [],h=>by cases h
 | x :: r,h=>by
  simp only[anyB]at h
  cases h1:f x with
  | true=>exact ⟨x,by simp,h1⟩
  | false=>
   rw[h1]at h
   obtain⟨y,h2,h3⟩:=anyB_spec (l:=r) h
   exact⟨y,List.mem_cons_of_mem _ h2,h3⟩
theorem allB_not {α:Type} {f:α→Bool}:∀ {l:List α},allB f l=false → ∃ x,x∈l∧f x=false
 | [],h=>by cases h
 | x :: r,h=>by
  simp only[allB]at h
  cases h1:f x with
  | false=>exact ⟨x,by simp,h1⟩
  | true=>
   rw[h1]at h
   obtain⟨y,h2,h3⟩:=allB_not (l:=r) h
   exact⟨y,List.mem_cons_of_mem _ h2,h3⟩
theorem entsT_mem {it b since clock:Nat} {seen:List Nat} {m:TM}:∀ {es:List (AVal×AVal×Nat)} {e:AVal×AVal×Nat},e∈es→e.2.2∉seen →
 (AVal.tuple [.bool true,e.1,e.2.1],m.set it (some (.miter (some b) since (seen++[e.2.2]) clock)))∈entsT it b since seen clock m es
 | [],e,h,_=>by simp at h
 | z :: r,e,h,hs=>by
  simp only[entsT]
  simp only[List.mem_cons]at h
  cases h1:mem1 z.2.2 seen with
  | true=>
   simp only[cond_true]
   rcases h with rfl|h
   ·exact absurd (mem1_spec.1 h1).2 hs
   ·exact entsT_mem h hs
  | false=>
   simp only[cond_false]
   rcases h with rfl|h
   ·exact List.mem_cons_self
   ·exact List.mem_cons_of_mem _ (entsT_mem h hs)
theorem nextT_W {v:AVal} {m:TM} {outs:List (AVal×TM)} (h:nextT v m=some outs) {K:AVal→Mem→Prop} (hK:∀ p,p∈outs→K p.1 p.2.mem):nextW v m.mem K:=by
 unfold nextT at h
 split at h<;>first|(cases h; done)|skip
 rename_i it
 split at h<;>first|(cases h; done)|skip
 rename_i b since seen last hi
 split at h<;>first|(cases h; done)|skip
 rename_i es clock hg
 cases hc:((seen.isEmpty||es.isEmpty||anyB (fun e=>Nat.ble (e.2.2+1) last) es)&&Nat.ble (it+1) bound)with
 | false=>rw[hc]at h; cases h
 | true=>
  rw[hc]at h
  simp only[cond_true]at h
  simp only[Bool.and_eq_true]at hc
  obtain⟨h1,h2⟩:=hc
  have hit:it<bound:=ble_true h2
  have e1:m.mem.get it=some (.miter (some b) since seen last):=hi
  have e2:m.mem.get b=some (.map es clock):=hg
  unfold nextW
  simp only[e1,e2]
  have hset:∀ e:AVal×AVal×Nat,(m.set it (some (.miter (some b) since (seen++[e.2.2]) clock))).mem=m.mem.set it (.miter (some b) since (seen++[e.2.2]) clock):=fun e=>TM.set_mem_some hit
  have hents:∀ p,p∈entsT it b since seen clock m es→p∈outs:=by
   cases he:endsT since seen es with
   | true=>
    rw[he]at h
    injection h with h
    subst h
    exact fun p hp=>List.mem_cons_of_mem _ hp
   | false=>
    rw[he]at h
    injection h with h
    subst h
    exact fun p hp=>hp
  refine⟨?_,fun e he hn=>?_,fun hh=>?_⟩
  ·simp only[Bool.or_eq_true]at h1
   rcases h1 with(h1|h1)|h1
   ·exact .inl (List.isEmpty_iff.1 h1)
   ·exact .inr (.inl (List.isEmpty_iff.1 h1))
   ·obtain⟨e,he,hb⟩:=anyB_spec h1
    exact .inr (.inr ⟨e,he,ble_true hb⟩)
  ·have:=hK _ (hents _ (entsT_mem he hn))
   rw[hset e]at this
   exact this
  ·cases he:endsT since seen es with
   | true=>
    rw[he]at h
    injection h with h
    subst h
    exact hK _ List.mem_cons_self
   | false=>
    obtain⟨e,h3,h4⟩:=allB_not he
    cases h5:Nat.ble since e.2.2 with
    | true=>rw[h5]at h4; cases h4
    | false=>
     rw[h5]at h4
     exact absurd (hh e h3 (ble_false h5)) (mem1_spec.2 h4).2
theorem rangeT_W {id:Nat} {v:AVal} {m:TM} {p:AVal×TM} (h:rangeT id v m=some p) {K:AVal→Mem→Prop} (hK:K p.1 p.2.mem):rangeW id v m.mem K:=by
 unfold rangeT at h
 split at h<;>first|(cases h; done)|skip
 rename_i b
 split at h<;>first|(cases h; done)|skip
 rename_i es clock hg
 cases hc:Nat.ble (id+1) bound with
 | false=>rw[hc]at h; cases h
 | true=>
  rw[hc]at h
  simp only[cond_true,Option.some.injEq]at h
  subst h
  have hit:id<bound:=ble_true hc
  have e2:m.mem.get b=some (.map es clock):=hg
  unfold rangeW
  simp only[e2]
  have:(m.set id (some (.miter (some b) clock [] clock))).mem=m.mem.set id (.miter (some b) clock [] clock):=TM.set_mem_some hit
  simp only[this]at hK
  exact hK
theorem entryT_W {v:AVal} {m:TM} {y:AVal} (h:entryT v m=some y) {K:AVal→Prop} (hK:K y):entryW v m.mem K:=by
 unfold entryT at h
 split at h<;>first|(cases h; done)|skip
 rename_i it
 split at h<;>first|(cases h; done)|skip
 rename_i b since seen last hi
 split at h<;>first|(cases h; done)|skip
 rename_i es clock hg
 cases hc:Nat.beq clock last with
 | false=>rw[hc]at h; cases h
 | true=>
  rw[hc]at h
  simp only[cond_true]at h
  split at h<;>first|(cases h; done)|skip
  rename_i s hs
  split at h<;>first|(cases h; done)|skip
  rename_i e hf
  injection h with h
  subst h
  have e1:m.mem.get it=some (.miter (some b) since seen last):=hi
  have e2:m.mem.get b=some (.map es clock):=hg
  unfold entryW
  simp only[e1,e2]
  have hmem:e∈es.filter fun e=>Nat.beq e.2.2 s:=by rw[hf]; simp
  rw[List.mem_filter]at hmem
  refine⟨Nat.eq_of_beq_eq_true hc,s,hs,⟨e,hmem.1,Nat.eq_of_beq_eq_true hmem.2⟩,fun e' he hs'=>?_⟩
  have:e'∈es.filter fun e=>Nat.beq e.2.2 s:=List.mem_filter.2 ⟨he,by rw[hs']; exact Nat.beq_refl s⟩
  rw[hf]at this
  simp only[List.mem_singleton]at this
  subst this
  exact hK
section
variable {P:Program}
def NCallerOk (P:Program) (nc:NCaller):Prop:=
 ∀ g args m outs,nc g args m=some outs → ∀ id,ACalls P g args m.mem [id] fun r m''=>∃ p,p∈outs∧r=p.1∧m''=p.2.mem
theorem runPN_ok {call:Caller} {nc:NCaller} (hcall:CallerOk P call) (hnc:NCallerOk P nc) {n base:Nat} (hn:n≤bound):∀ (ops:List AOper) (i:Nat) (s:RS) (outs:List RS),TOk n s.t →
 (ops.all fun o=>match o.dst with|some d=>decide (d<n)|none=>true)=true→runPN call nc base ops i s=some outs →
 (∀ s',s'∈outs→TOk n s'.t) ∧ ∀ K:ASt→Prop,(∀ s',s'∈outs→K (s'.st n))→wopsM P base ops i K (toL n s.t) s.m.mem
 | [],i,s,outs,ht,_,h=>by
  simp only[runPN,Option.some.injEq]at h
  subst h
  exact⟨fun s' hs=>by simp only[List.mem_singleton]at hs; subst hs; exact ht,fun K hK=>hK s (by simp)⟩
 | o :: r,i,s,outs,ht,hd,h=>by
  simp only[List.all_cons,Bool.and_eq_true]at hd
  obtain⟨hd1,hd2⟩:=hd
  have hdst:=dst_of hd1
  simp only[runPN]at h
  have many:∀ {l:List (AVal×TM)},appO (fun p=>runPN call nc base r (i+1) ⟨putT s.t o.dst p.1,p.2,[]⟩) l=some outs →
   (∀ s',s'∈outs→TOk n s'.t) ∧ ∀ K:ASt→Prop,(∀ s',s'∈outs→K (s'.st n)) → ∀ p,p∈l→wopsM P base r (i+1) K (put (toL n s.t) o.dst p.1) p.2.mem:=by
   intro l hl
   refine⟨fun s' hs=>?_,fun K hK p hp=>?_⟩
   ·obtain⟨p,a,h1,h2,h3⟩:=appO_from hl s' hs
    obtain⟨p1,p2⟩:=putT_ok (v:=p.1) hn ht hdst
    exact(runPN_ok hcall hnc hn r (i+1) _ a p1 hd2 h2).1 s' h3
   ·obtain⟨a,h1,h2⟩:=appO_mem hl p hp
    obtain⟨p1,p2⟩:=putT_ok (v:=p.1) hn ht hdst
    have:=(runPN_ok hcall hnc hn r (i+1) _ a p1 hd2 h1).2 K fun s' hs=>hK s' (h2 s' hs)
    rw[← p2]
    exact this
  cases hw:wantedT s.t o.guard with
  | none=>simp[hw]at h
  | some q=>
   have hwA:wantedA (toL n s.t) o.guard=some q:=by rw[wantedT_eq ht]; exact hw
   cases q with
   | false=>
    simp only[hw]at h
    obtain⟨p1,p2⟩:=putT_ok (v:=aundef) hn ht hdst
    obtain⟨h1,h2⟩:=runPN_ok hcall hnc hn r (i+1) ⟨putT s.t o.dst aundef,s.m,s.wl⟩ outs p1 hd2 h
    refine⟨h1,fun K hK=>?_⟩
    simp only[wopsM,hwA]
    rw[← p2]
    exact h2 K hK
   | true=>
    simp only[hw]at h
    have other:(∀ f xs,o.op≠.call f xs)→(∀ x,o.op≠.range x)→(∀ x,o.op≠.nextM x)→(∀ x,o.op≠.nextS x)→(match stepD (base+i) (evT s.t) s.m.tr.get o.op with
     | some (v,d)=>bif okD d then runPN call nc base r (i+1) ⟨putT s.t o.dst v,s.m.apply d,[]⟩ else none
     | none=>none)=some outs→(∀ s',s'∈outs→TOk n s'.t) ∧ ∀ K:ASt→Prop,(∀ s',s'∈outs→K (s'.st n)) → ∃ v m',stepA (base+i) (toL n s.t) s.m.mem o.op=some (v,m')∧wopsM P base r (i+1) K (put (toL n s.t) o.dst v) m':=by
     intro _ _ _ _ hh
     cases hs:stepD (base+i) (evT s.t) s.m.tr.get o.op with
     | none=>simp[hs]at hh
     | some vd=>
      obtain⟨v,d⟩:=vd
      simp only[hs]at hh
      cases ho:okD d with
      | false=>rw[ho]at hh; cases hh
      | true=>
       rw[ho]at hh
       simp only[cond_true]at hh
       obtain⟨p1,p2⟩:=putT_ok (v:=v) hn ht hdst
       obtain⟨h1,h2⟩:=runPN_ok hcall hnc hn r (i+1) _ outs p1 hd2 hh
       exact⟨h1,fun K hK=>⟨v,_,stepT_ok ht hs ho,by rw[← p2]; exact h2 K hK⟩⟩
    by_cases hcl:∃ f xs,o.op=.call f xs
    ·obtain⟨f,xs,hop⟩:=hcl
     simp only[hop]at h
     cases hc:calleeT s.t f xs with
     | none=>simp[hc]at h
     | some ga=>
      obtain⟨g,args⟩:=ga
      simp only[hc]at h
      have hcA:callee (toL n s.t) f xs=some (g,args):=by rw[calleeT_eq ht]; exact hc
      cases hcc:call g args s.m with
      | some vmw=>
       obtain⟨v,m',wl⟩:=vmw
       simp only[hcc]at h
       obtain⟨q1,q2,q3⟩:=hcall g args s.m v m' wl hcc
       obtain⟨p1,p2⟩:=putT_ok (v:=v) hn ht hdst
       obtain⟨h1,h2⟩:=runPN_ok hcall hnc hn r (i+1) _ outs p1 hd2 h
       refine⟨h1,fun K hK=>?_⟩
       simp only[wopsM,hwA,hop,hcA]
       refine(q3 (base+i)).mono fun y m'' hy=>?_
       obtain⟨rfl,rfl⟩:=hy
       rw[← p2]
       exact h2 K hK
      | none=>
       simp only[hcc]at h
       cases hno:nc g args s.m with
       | none=>simp[hno]at h
       | some l=>
        simp only[hno]at h
        obtain⟨h1,h2⟩:=many h
        refine⟨h1,fun K hK=>?_⟩
        simp only[wopsM,hwA,hop,hcA]
        refine(hnc g args s.m l hno (base+i)).mono fun y m'' hy=>?_
        obtain⟨p,hp,rfl,rfl⟩:=hy
        exact h2 K hK p hp
    ·by_cases hrg:∃ x,o.op=.range x
     ·obtain⟨x,hop⟩:=hrg
      simp only[hop]at h
      cases hq:rangeT (base+i) (evT s.t x) s.m with
      | none=>simp[hq]at h
      | some p=>
       obtain⟨v,m'⟩:=p
       simp only[hq]at h
       obtain⟨p1,p2⟩:=putT_ok (v:=v) hn ht hdst
       obtain⟨h1,h2⟩:=runPN_ok hcall hnc hn r (i+1) _ outs p1 hd2 h
       refine⟨h1,fun K hK=>?_⟩
       simp only[wopsM,hwA,hop,ev_toL ht]
       refine rangeT_W hq ?_
       rw[← p2]
       exact h2 K hK
     ·by_cases hnx:∃ x,o.op=.nextM x
      ·obtain⟨x,hop⟩:=hnx
       simp only[hop]at h
       cases hq:nextT (evT s.t x) s.m with
       | none=>simp[hq]at h
       | some l=>
        simp only[hq]at h
        obtain⟨h1,h2⟩:=many h
        refine⟨h1,fun K hK=>?_⟩
        simp only[wopsM,hwA,hop,ev_toL ht]
        exact nextT_W hq fun p hp=>h2 K hK p hp
      ·by_cases hen:∃ x,o.op=.nextS x
       ·obtain⟨x,hop⟩:=hen
        simp only[hop]at h
        cases hq:entryT (evT s.t x) s.m with
        | none=>simp[hq]at h
        | some v=>
         simp only[hq]at h
         obtain⟨p1,p2⟩:=putT_ok (v:=v) hn ht hdst
         obtain⟨h1,h2⟩:=runPN_ok hcall hnc hn r (i+1) _ outs p1 hd2 h
         refine⟨h1,fun K hK=>?_⟩
         simp only[wopsM,hwA,hop,ev_toL ht]
         refine entryT_W hq ?_
         rw[← p2]
         exact h2 K hK
       have n4:∀ x,o.op≠.nextS x:=fun x he=>hen ⟨x,he⟩
       have n1:∀ f xs,o.op≠.call f xs:=fun f xs he=>hcl ⟨f,xs,he⟩
       have n2:∀ x,o.op≠.range x:=fun x he=>hrg ⟨x,he⟩
       have n3:∀ x,o.op≠.nextM x:=fun x he=>hnx ⟨x,he⟩
       have h':(match stepD (base+i) (evT s.t) s.m.tr.get o.op with
        | some (v,d)=>bif okD d then runPN call nc base r (i+1) ⟨putT s.t o.dst v,s.m.apply d,[]⟩ else none
        | none=>none)=some outs:=by
        cases hop:o.op<;>rw[hop]at h<;>first|(exact absurd hop (n1 _ _))|(exact absurd hop (n2 _))|(exact absurd hop (n3 _))|(exact absurd hop (n4 _))|exact h
       obtain⟨h1,h2⟩:=other n1 n2 n3 n4 h'
       refine⟨h1,fun K hK=>?_⟩
       obtain⟨v,m',h3,h4⟩:=h2 K hK
       simp only[wopsM,hwA]
       cases hop:o.op<;>rw[hop]at h3<;>first|(exact absurd hop (n1 _ _))|(exact absurd hop (n2 _))|(exact absurd hop (n3 _))|(exact absurd hop (n4 _))|(simp only[h3]; exact h4)
theorem awp_seq {x y:Code} {Q:Exit→ASt→Prop} {σ:ASt} (hx:AWp P x (thenA (fun σ'=>AWp P y Q σ') Q) σ):AWp P (.seq x y) Q σ:=by
 intro W Φ ρ a w hr ht hd
 refine wp_seq (wp_mono (hx W Φ ρ a w hr ht hd) ?_)
 intro e a' w' hl
 have key:∀ e',e=e'→e'≠.normal→lift W Φ ρ σ.m.next Q e a' w':=by
  intro e' he hne
  refine lift_mono hl fun σ' hq=>?_
  subst he
  cases e<;>first|exact absurd rfl hne|exact hq
 cases e with
 | normal=>
  obtain⟨σ',Φ',ρ',h1,h2,h3,h4,h5,h6,h7⟩:=hl
  exact wp_mono (h7 W Φ' ρ' a' w' h4 h5 h6) fun e a w hl'=>lift_trans h1 h2 h3 hl'
 | exit i=>exact key _ rfl (by simp)
 | goto l=>exact key _ rfl (by simp)
 | ret=>exact key _ rfl (by simp)
 | panic ch=>exact key _ rfl (by simp)
 | outgrown=>exact key _ rfl (by simp)
theorem awp_block {id:Nat} {c:Code} {Q:Exit→ASt→Prop} {σ:ASt} (h:AWp P c (blockA id Q) σ):AWp P (.block id c) Q σ:=by
 intro W Φ ρ a w hr ht hd
 refine wp_block (wp_mono (h W Φ ρ a w hr ht hd) ?_)
 intro e a' w' hl
 cases e with
 | exit i=>
  simp only[Exit.inBlock]
  obtain⟨σ',Φ',ρ',h1,h2,h3,h4,h5,h6,h7⟩:=hl
  simp only[blockA]at h7
  split
  ·rename_i hi
   rw[if_pos hi]at h7
   exact⟨σ',Φ',ρ',h1,h2,h3,h4,h5,h6,h7⟩
  ·rename_i hi
   rw[if_neg hi]at h7
   exact⟨σ',Φ',ρ',h1,h2,h3,h4,h5,h6,h7⟩
 | normal=>exact hl
 | goto l=>exact hl
 | ret=>exact hl
 | panic ch=>exact hl
 | outgrown=>exact hl
theorem awp_scope {c:Code} {Q:Exit→ASt→Prop} {σ:ASt} (h:AWp P c (noGotoA Q) σ):AWp P (.scope c) Q σ:=by
 intro W Φ ρ a w hr ht hd
 refine wp_scope_straight (wp_mono (h W Φ ρ a w hr ht hd) ?_)
 intro e a' w' hl
 cases e with
 | goto l=>
  obtain⟨σ',Φ',ρ',h1,h2,h3,h4,h5,h6,h7⟩:=hl
  exact h7.elim
 | normal=>exact hl
 | exit i=>exact hl
 | ret=>exact hl
 | panic ch=>exact hl
 | outgrown=>exact hl
theorem awp_loop {c:Code} {Q:Exit→ASt→Prop} {σ:ASt} (I:Nat→ASt→Prop) (k0:Nat) (h0:I k0 σ) (hround:∀ k σ1,I k σ1→AWp P c (thenA (fun σ'=>∃ j,j<k∧I j σ') Q) σ1):AWp P (.loop c) Q σ:=by
 intro W Φ ρ a w hr ht hd
 refine wp_loop_ghost (fun n a' w'=>∃ σ' Φ' ρ',Ext Φ ρ Φ' ρ'∧KeepN σ.m.next ρ ρ'∧σ.m.next≤σ'.m.next∧Rel W Φ' ρ' σ'.m w'∧RL Φ' ρ' σ'.t a'.tmps∧a'.defers=[]∧I n σ') k0
  ⟨σ,Φ,ρ,.refl _ _,.refl _ _,Nat.le_refl _,hr,ht,hd,h0⟩ ?_
 rintro n a' w' ⟨σ',Φ',ρ',h1,h2,h3,h4,h5,h6,h7⟩
 refine wp_mono (hround n σ' h7 W Φ' ρ' a' w' h4 h5 h6) ?_
 intro e a'' w'' hl
 have key:∀ e',e=e'→e'≠.normal→lift W Φ ρ σ.m.next Q e a'' w'':=by
  intro e' he hne
  refine lift_trans h1 h2 h3 (lift_mono hl fun σ'' hq=>?_)
  subst he
  cases e<;>first|exact absurd rfl hne|exact hq
 cases e with
 | normal=>
  obtain⟨σ'',Φ'',ρ'',g1,g2,g3,g4,g5,g6,k,g7,g8⟩:=hl
  exact⟨k,g7,σ'',Φ'',ρ'',h1.trans g1,h2.trans g2 h3,Nat.le_trans h3 g3,g4,g5,g6,g8⟩
 | exit i=>exact key _ rfl (by simp)
 | goto l=>exact key _ rfl (by simp)
 | ret=>exact key _ rfl (by simp)
 | panic ch=>exact key _ rfl (by simp)
 | outgrown=>exact key _ rfl (by simp)
def allR (n:Nat) (Q:Exit→ASt→Prop) (outs:List (REnd×RS)):Prop:=∀ o,o∈outs→Q o.1.exit' (o.2.st n)
theorem runCN_ok (hm:P.follows .mixedOrders=true) {call:Caller} {nc:NCaller} (hcall:CallerOk P call) (hnc:NCallerOk P nc) {n:Nat} (hn:n≤bound):∀ (f:Nat) (c:Code) (s:RS) (outs:List (REnd×RS)),TOk n s.t→dstOk n (cCode P c)=true→runCN call nc f (cCode P c) s=some outs →
 (∀ o,o∈outs→TOk n o.2.t) ∧ ∀ Q:Exit→ASt→Prop,allR n Q outs→AWp P c Q (s.st n):=by
 intro f
 induction f using Nat.strongRecOn with
 | ind f ih=>
  intro c s outs ht hd h
  cases f with
  | zero=>simp[runCN]at h
  | succ f=>
   have one:∀ {e:REnd} {s':RS},TOk n s'.t→outs=[(e,s')]→(∀ o,o∈outs→TOk n o.2.t) ∧ ∀ Q:Exit→ASt→Prop,allR n Q outs→Q e.exit' (s'.st n):=by
    intro e s' h1 h2
    subst h2
    exact⟨fun o ho=>by simp only[List.mem_singleton]at ho; subst ho; exact h1,fun Q hQ=>hQ (e,s') (by simp)⟩
   have hown:∀ {W:Base} {Φ:Pers} {ρ:Rho} {a:Act} {w:World} {Q:Exit→ASt→Prop} {e:Exit},Rel W Φ ρ (s.st n).m w→RL Φ ρ (s.st n).t a.tmps→a.defers=[]→Q e (s.st n)→lift W Φ ρ (s.st n).m.next Q e a w:=
    fun hr hta hda hQ=>⟨s.st n,_,_,.refl _ _,.refl _ _,Nat.le_refl _,hr,hta,hda,hQ⟩
   cases c with
   | skip=>
    simp only[cCode,runCN,Option.some.injEq]at h
    obtain⟨h1,h2⟩:=one ht h.symm
    exact⟨h1,fun Q hQ W Φ ρ a w hr hta hda=>wp_skip (hown hr hta hda (h2 Q hQ))⟩
   | label l=>
    simp only[cCode,runCN,Option.some.injEq]at h
    obtain⟨h1,h2⟩:=one ht h.symm
    exact⟨h1,fun Q hQ W Φ ρ a w hr hta hda=>wp_label (hown hr hta hda (h2 Q hQ))⟩
   | exit i=>
    simp only[cCode,runCN,Option.some.injEq]at h
    obtain⟨h1,h2⟩:=one ht h.symm
    exact⟨h1,fun Q hQ W Φ ρ a w hr hta hda=>wp_exit (hown hr hta hda (h2 Q hQ))⟩
   | ret=>
    simp only[cCode,runCN,Option.some.injEq]at h
    obtain⟨h1,h2⟩:=one ht h.symm
    exact⟨h1,fun Q hQ W Φ ρ a w hr hta hda=>wp_ret (hown hr hta hda (h2 Q hQ))⟩
   | rangeFunc f' ps x y=>simp[cCode,runCN]at h
   | goto l=>simp[cCode,runCN]at h
   | refuse r=>simp[cCode,runCN]at h
   | region id ops draw=>
    cases draw with
    | false=>
     cases hcs:cOpers P ops ops.toList with
     | none=>simp[cCode,hcs,runCN]at h
     | some asl=>
      simp only[cCode,hcs]at h hd
      simp only[runCN]at h
      cases hb:Nat.ble (s.m.next+asl.length) bound with
      | false=>rw[hb]at h; cases h
      | true=>
       rw[hb]at h
       simp only[cond_true]at h
       cases hr:runPN call nc s.m.next asl 0 ⟨s.t,⟨s.m.tr,s.m.next+asl.length⟩,s.wl⟩ with
       | none=>simp[hr]at h
       | some l=>
        simp only[hr,Option.some.injEq]at h
        subst h
        obtain⟨h1,h2⟩:=runPN_ok hcall hnc hn asl 0 ⟨s.t,⟨s.m.tr,s.m.next+asl.length⟩,s.wl⟩ l ht hd hr
        refine⟨fun o ho=>?_,fun Q hQ=>region_plainM hcs (h2 (Q .normal) fun s' hs=>hQ (.normal,s') (List.mem_map.2 ⟨s',hs,rfl⟩))⟩
        obtain⟨s',hs,rfl⟩:=List.mem_map.1 ho
        exact h1 s' hs
    | true=>
     obtain⟨C,hC⟩:∃ C,C=cCode P (.region id ops true):=⟨_,rfl⟩
     have hreg:(∃ os,C=.region true os)∨C=.bad:=by
      rw[hC]
      simp only[cCode]
      split
      ·split
       ·exact .inl ⟨_,rfl⟩
       ·exact .inr rfl
      ·exact .inr rfl
     rw[← hC]at h hd
     rcases hreg with⟨os,rfl⟩|rfl
     ·simp only[runCN]at h
      cases hb:Nat.ble (s.m.next+os.length) bound with
      | false=>rw[hb]at h; cases h
      | true=>
       rw[hb]at h
       simp only[cond_true]at h
       cases hr:runD call s.m.next s.m.next os [] ⟨s.t,⟨s.m.tr,s.m.next+os.length⟩,[]⟩ with
       | none=>simp[hr]at h
       | some s2=>
        simp only[hr,Option.some.injEq]at h
        obtain⟨h1,h2⟩:=runD_ok hcall hn os [] ⟨s.t,⟨s.m.tr,s.m.next+os.length⟩,[]⟩ s2 ht (by show s.m.next≤s.m.next+os.length; omega) hd hr
        obtain⟨k1,k2⟩:=one (e:=.normal) h1.t h.symm
        refine⟨k1,fun Q hQ=>region_draw hm ?_⟩
        rw[← hC]
        exact h2 (Q .normal) (k2 Q hQ)
     ·simp[runCN]at h
   | seq a b=>
    simp only[cCode,dstOk,Bool.and_eq_true]at hd
    simp only[cCode,runCN]at h
    cases hr:runCN call nc f (cCode P a) s with
    | none=>simp[hr]at h
    | some l=>
     simp only[hr]at h
     obtain⟨h1,h2⟩:=ih f (Nat.lt_succ_self f) a s l ht hd.1 hr
     refine⟨fun o ho=>?_,fun Q hQ=>awp_seq (h2 _ fun es hes=>?_)⟩
     ·obtain⟨es,a',g1,g2,g3⟩:=appO_from h o ho
      cases hes:es.1 with
      | normal=>simp only[hes]at g2; exact(ih f (Nat.lt_succ_self f) b es.2 a' (h1 es g1) hd.2 g2).1 o g3
      | exit i=>simp only[hes,Option.some.injEq]at g2; subst g2; simp only[List.mem_singleton]at g3; subst g3; exact h1 es g1
      | ret=>simp only[hes,Option.some.injEq]at g2; subst g2; simp only[List.mem_singleton]at g3; subst g3; exact h1 es g1
     ·obtain⟨a',g2,g3⟩:=appO_mem h es hes
      cases he:es.1 with
      | normal=>
       simp only[he]at g2
       exact(ih f (Nat.lt_succ_self f) b es.2 a' (h1 es hes) hd.2 g2).2 Q fun o ho=>hQ o (g3 o ho)
      | exit i=>simp only[he,Option.some.injEq]at g2; subst g2; exact hQ _ (g3 _ List.mem_cons_self)
      | ret=>simp only[he,Option.some.injEq]at g2; subst g2; exact hQ _ (g3 _ List.mem_cons_self)
   | cond x a b=>
    cases hx:cOpd x with
    | none=>simp[cCode,hx,runCN]at h
    | some x'=>
     simp only[cCode,hx,dstOk,Bool.and_eq_true]at hd
     simp only[cCode,hx,runCN]at h
     have hev:ev (toL n s.t) x'=evT s.t x':=congrFun (ev_toL ht) x'
     split at h
     ·rename_i hb
      obtain⟨h1,h2⟩:=ih f (Nat.lt_succ_self f) a s outs ht hd.1 h
      refine⟨h1,fun Q hQ W Φ ρ ac w hr hta hda=>?_⟩
      have hv:=ev_R hta hx
      have e0:ev (s.st n).t x'=.bool true:=hev.trans hb
      rw[e0]at hv
      generalize hz:ac.eval x=v at hv
      cases hv
      exact wp_cond_true hz (h2 Q hQ W Φ ρ ac w hr hta hda)
     ·rename_i hb
      obtain⟨h1,h2⟩:=ih f (Nat.lt_succ_self f) b s outs ht hd.2 h
      refine⟨h1,fun Q hQ W Φ ρ ac w hr hta hda=>?_⟩
      have hv:=ev_R hta hx
      have e0:ev (s.st n).t x'=.bool false:=hev.trans hb
      rw[e0]at hv
      generalize hz:ac.eval x=v at hv
      cases hv
      exact wp_cond_false hz (h2 Q hQ W Φ ρ ac w hr hta hda)
     ·cases h
   | block i c=>
    simp only[cCode,dstOk]at hd
    simp only[cCode,runCN]at h
    cases hr:runCN call nc f (cCode P c) s with
    | none=>simp[hr]at h
    | some l=>
     simp only[hr,Option.some.injEq]at h
     obtain⟨h1,h2⟩:=ih f (Nat.lt_succ_self f) c s l ht hd hr
     subst h
     refine⟨fun o ho=>?_,fun Q hQ=>awp_block (h2 _ fun es hes=>?_)⟩
     ·obtain⟨es,g1,rfl⟩:=List.mem_map.1 ho
      have:=h1 es g1
      cases es.1 with
      | normal=>exact this
      | ret=>exact this
      | exit k=>cases hq:Nat.beq k i<;>simp only[hq,cond_true,cond_false]<;>exact this
     ·have:=hQ _ (List.mem_map.2 ⟨es,hes,rfl⟩)
      cases he:es.1 with
      | normal=>simp only[he]at this; exact this
      | ret=>simp only[he]at this; exact this
      | exit k=>
       simp only[he]at this
       cases hq:Nat.beq k i with
       | true=>
        rw[hq]at this
        have hki:=Nat.eq_of_beq_eq_true hq
        subst hki
        simp only[REnd.exit',blockA,if_true]
        exact this
       | false=>
        rw[hq]at this
        have hne:k≠i:=fun e=>by subst e; rw[Nat.beq_refl]at hq; cases hq
        simp only[REnd.exit',blockA,if_neg hne]
        exact this
   | scope c=>
    simp only[cCode,dstOk]at hd
    simp only[cCode,runCN]at h
    obtain⟨h1,h2⟩:=ih f (Nat.lt_succ_self f) c s outs ht hd h
    refine⟨h1,fun Q hQ=>awp_scope (h2 _ fun es hes=>?_)⟩
    have:=hQ es hes
    cases he:es.1<;>rw[he]at this<;>exact this
   | loop c=>
    have hdl:=hd
    simp only[cCode,dstOk]at hd
    have step:∀ (k:Nat) (s1:RS) (outs1:List (REnd×RS)),k≤f→TOk n s1.t→runCN call nc (k+1) (cCode P (.loop c)) s1=some outs1 →
     ∃ l,runCN call nc k (cCode P c) s1=some l∧(∀ es,es∈l→TOk n es.2.t)∧(∀ o,o∈outs1 → ∃ es a',es∈l∧o∈a'∧(match es.1 with | .normal=>runCN call nc k (cCode P (.loop c)) es.2=some a'|e=>a'=[(e,es.2)])) ∧
      (∀ es,es∈l → ∃ a',(∀ o,o∈a'→o∈outs1)∧(match es.1 with | .normal=>runCN call nc k (cCode P (.loop c)) es.2=some a'|e=>a'=[(e,es.2)])) ∧ ∀ Q:Exit→ASt→Prop,allR n Q l→AWp P c Q (s1.st n):=by
     intro k s1 outs1 hk ht1 hr1
     simp only[cCode,runCN]at hr1
     cases hr:runCN call nc k (cCode P c) s1 with
     | none=>simp[hr]at hr1
     | some l=>
      simp only[hr]at hr1
      obtain⟨h1,h2⟩:=ih k (by omega) c s1 l ht1 hd hr
      refine⟨l,rfl,h1,fun o ho=>?_,fun es hes=>?_,h2⟩
      ·obtain⟨es,a',g1,g2,g3⟩:=appO_from hr1 o ho
       refine⟨es,a',g1,g3,?_⟩
       cases he:es.1 with
       | normal=>simp only[he]at g2; exact g2
       | exit i=>simp only[he,Option.some.injEq]at g2; exact g2.symm
       | ret=>simp only[he,Option.some.injEq]at g2; exact g2.symm
      ·obtain⟨a',g2,g3⟩:=appO_mem hr1 es hes
       refine⟨a',g3,?_⟩
       cases he:es.1 with
       | normal=>simp only[he]at g2; exact g2
       | exit i=>simp only[he,Option.some.injEq]at g2; exact g2.symm
       | ret=>simp only[he,Option.some.injEq]at g2; exact g2.symm
    refine⟨fun o ho=>?_,fun Q hQ=>?_⟩
    ·obtain⟨l,_,h2,h3,_,_⟩:=step f s outs (Nat.le_refl _) ht h
     obtain⟨es,a',g1,g2,g3⟩:=h3 o ho
     cases he:es.1 with
     | normal=>
      simp only[he]at g3
      exact(ih f (Nat.lt_succ_self f) (.loop c) es.2 a' (h2 es g1) hdl g3).1 o g2
     | exit i=>simp only[he]at g3; subst g3; simp only[List.mem_singleton]at g2; subst g2; exact h2 es g1
     | ret=>simp only[he]at g3; subst g3; simp only[List.mem_singleton]at g2; subst g2; exact h2 es g1
    ·refine awp_loop (fun k σ=>k≤f ∧ ∃ s1 outs1,σ=s1.st n∧TOk n s1.t∧runCN call nc (k+1) (cCode P (.loop c)) s1=some outs1∧allR n Q outs1) f ⟨Nat.le_refl _,s,outs,rfl,ht,h,hQ⟩ ?_
     rintro k σ ⟨hkf,s1,outs1,rfl,ht1,hr1,hQ1⟩
     obtain⟨l,_,h2,_,h4,h5⟩:=step k s1 outs1 hkf ht1 hr1
     refine h5 _ fun es hes=>?_
     obtain⟨a',g1,g2⟩:=h4 es hes
     cases he:es.1 with
     | normal=>
      simp only[he]at g2
      cases k with
      | zero=>simp[runCN]at g2
      | succ k=>exact ⟨k,Nat.lt_succ_self k,by omega,es.2,a',rfl,h2 es hes,g2,fun o ho=>hQ1 o (g1 o ho)⟩
     | exit i=>simp only[he]at g2; subst g2; exact hQ1 _ (g1 _ List.mem_cons_self)
     | ret=>simp only[he]at g2; subst g2; exact hQ1 _ (g1 _ List.mem_cons_self)
theorem acalls_awp {f:FuncId} {fn:Func} {args:List AVal} {m:Mem} {av:List Nat} {K:AVal→Mem→Prop} {c:Code} {rs:List (Nat×Option (Option Nat))} (hf:P.funcs[f]? = some fn) (hb:fn.body=some c) (hrs:cResults P fn.results.toList=some rs) (hname:(fn.name == "runtime.NumGoroutine")=false)
 (h:AWp P c (retK rs K) ⟨args++List.replicate (fn.ntmps - args.length) aundef,m⟩):ACalls P f args m av K:=by
 refine⟨⟨fn,hf,hname,by rw[hb]; rfl⟩,fun W Φ ρ vs w hr ha hav=>?_⟩
 have ht:RL Φ ρ (args++List.replicate (fn.ntmps - args.length) aundef) (vs++Array.replicate (fn.ntmps - vs.size) undef):=by
  refine⟨by simp[ha.1],fun i x v hx hv=>?_⟩
  rw[List.getElem?_append]at hx
  rw[Array.getElem?_append,ha.1]at hv
  split at hx
  ·rename_i hlt
   rw[if_pos hlt]at hv
   exact ha.2 i x v hx hv
  ·rename_i hge
   rw[if_neg hge]at hv
   have e1:x=aundef:=by
    have:=List.getElem?_eq_some_iff.1 hx
    obtain⟨_,hh⟩:=this
    simpa using hh.symm
   have e2:v=undef:=by
    have:=Array.getElem?_eq_some_iff.1 hv
    obtain⟨_,hh⟩:=this
    simpa using hh.symm
   subst e1; subst e2
   exact R_undef _ _
 have hs:=h W Φ ρ { tmps:=vs++Array.replicate (fn.ntmps - vs.size) undef,defers:=[] } w hr ht rfl
 refine calls_of_wp hf hb (wp_mono hs fun e a w' hl=>?_)
 obtain⟨σ,Φ',ρ',h1,h2,h3,h4,h5,h6,h7⟩:=hl
 have fin:(match retA σ.t σ.m rs with|some r=>K r σ.m|none=>False)→a.defers=[] ∧ ∃ v,(results fn a.tmps).run P w'=.ok v w' ∧
  ∃ v' r m' Φ' ρ',Ending.returned v=.returned v'∧Ext Φ ρ Φ' ρ'∧(∀ b,b<m.next→b∉av→ρ b=none→ρ' b=none)∧Rel W Φ' ρ' m' w'∧R Φ' ρ' r v'∧m.next≤m'.next∧K r m':=by
  intro hh
  cases hz:retA σ.t σ.m rs with
  | none=>simp[hz]at hh
  | some r=>
   simp only[hz]at hh
   obtain⟨u,g1,g2⟩:=retA_run h4 h5 hrs hz
   exact⟨h6,u,g1,u,r,σ.m,Φ',ρ',rfl,h1,fun b hb _ h0=>h2 b hb h0,h4,g2,h3,hh⟩
 cases e with
 | normal=>exact fin h7
 | ret=>exact fin h7
 | exit i=>exact h7.elim
 | goto l=>exact h7.elim
 | panic ch=>exact h7.elim
 | outgrown=>exact h7.elim
theorem runFN_ok (hm:P.follows .mixedOrders=true) {tab:Nat→Option AFn} {call:Caller} (htab:TabOk P tab) (hcall:CallerOk P call):∀ f,NCallerOk P (runFN tab call f)
 | 0,g,args,m,outs,h=>by simp[runFN]at h
 | f+1,g,args,m,outs,h=>by
  have ih:=runFN_ok hm htab hcall f
  simp only[runFN]at h
  cases ht:tab g with
  | none=>simp[ht]at h
  | some af=>
   simp only[ht]at h
   obtain⟨⟨fn,hf1,hf2⟩,hd,hb⟩:=htab g af ht
   cases hl:Nat.ble args.length af.ntmps with
   | false=>rw[hl]at h; cases h
   | true=>
    rw[hl]at h
    simp only[cond_true]at h
    obtain⟨c,hbd,hbody,hrs,hnt,hname⟩:=cFn_spec hf2
    obtain⟨a1,a2⟩:=argsT_ok hb (ble_true hl)
    cases hr:runCN call (runFN tab call f) 1000 af.body ⟨argsT .nil 0 args,m,[]⟩ with
    | none=>simp[hr]at h
    | some l=>
     simp only[hr]at h
     rw[hbody]at hr hd
     obtain⟨h1,h2⟩:=runCN_ok hm hcall ih hb 1000 c _ l a1 hd hr
     intro id
     refine acalls_awp (c:=c) (rs:=af.results) hf1 hbd hrs hname ?_
     rw[← hnt,← a2]
     refine h2 _ fun es hes=>?_
     obtain⟨a',g2,g3⟩:=appO_mem h es hes
     have hrA:∀ v,retT es.2.t es.2.m af.results=some v→retA (es.2.st af.ntmps).t (es.2.st af.ntmps).m af.results=some v:=fun v hv=>by
      show retA (toL af.ntmps es.2.t) es.2.m.mem af.results=some v
      rw[retT_eq (h1 es hes)]
      exact hv
     have fin:(match retT es.2.t es.2.m af.results with|some v=>some [(v,es.2.m)]|none=>none)=some a'→(match retA (es.2.st af.ntmps).t (es.2.st af.ntmps).m af.results with|some r=>∃ p,p∈outs∧r=p.1∧(es.2.st af.ntmps).m=p.2.mem|none=>False):=by
      intro hh
      cases hv:retT es.2.t es.2.m af.results with
      | none=>simp[hv]at hh
      | some v=>
       simp only[hv,Option.some.injEq]at hh
       subst hh
       rw[hrA v hv]
       exact⟨(v,es.2.m),g3 _ List.mem_cons_self,rfl,rfl⟩
     cases he:es.1 with
     | normal=>simp only[he]at g2; exact fin g2
     | ret=>simp only[he]at g2; exact fin g2
     | exit i=>simp only[he]at g2; cases g2
theorem allB_spec {α:Type} {f:α→Bool}:∀ {l:List α},allB f l=true → ∀ x,x∈l→f x=true
 | [],_,x,hx=>by simp at hx
 | z :: r,h,x,hx=>by
  simp only[allB]at h
  cases h1:f z with
  | false=>rw[h1]at h; cases h
  | true=>
   rw[h1]at h
   simp only[List.mem_cons]at hx
   rcases hx with rfl|hx
   ·exact h1
   ·exact allB_spec h x hx
end
end Go.AE
