/- Part 18 of the proof: AeFz. -/
import Derived.Test.YtfmnflhggplkmaaGreatDoorO17
set_option linter.all false
namespace Go.AE
open Go.RowKit
def mapO {α β:Type} (f:α→Option β):List α→Option (List β)
 | []=>some []
 | x :: r=>match f x,mapO f r with
  | some y,some ys=>some (y :: ys)
  | _,_=>none
theorem mapO_spec {α β:Type} {f:α→Option β}:∀ {l:List α} {l':List β},mapO f l=some l'→l'.length=l.length ∧ ∀(i:Nat) (y:β),l'[i]? = some y → ∃ x,l[i]? = some x∧f x=some y
 | [],l',h=>by
  simp only[mapO,Option.some.injEq]at h
  grind
 | x :: r,l',h=>by
  simp only[mapO]at h
  cases h1:f x with
  | none=>simp[h1]at h
  | some y=>
   cases h2:mapO f r with
   | none=>simp[h1,h2]at h
   | some ys=>
    simp only[h1,h2,Option.some.injEq]at h
    subst h
    obtain⟨h3,h4⟩:=mapO_spec h2
    grind
def freezeV (get:Nat→Option ABlk):Nat→AVal→Option AVal
 | 0,_=>none
 | n+1,x=>match x with
  | .sl b off len=>match get b with
   | some (.cells _ els)=>bif Nat.ble (off+len) els.length then match mapO (mapO (freezeV get n)) ((els.drop off).take len)with
    | some rows=>some (.imm rows)
    | none=>none
    else none
   | _=>none
  | .agg cs=>match mapO (freezeV get n) cs with
   | some ds=>some (.agg ds)
   | none=>none
  | .tuple cs=>match mapO (freezeV get n) cs with
   | some ds=>some (.tuple ds)
   | none=>none
  | .imm els=>match mapO (mapO (freezeV get n)) els with
   | some rows=>some (.imm rows)
   | none=>none
  | .bool b=>some (.bool b)
  | .int k i=>some (.int k i)
  | .str s=>some (.str s)
  | .nilPtr=>some .nilPtr
  | .nilSl=>some .nilSl
  | .emp=>some .emp
  | .nilMap=>some .nilMap
  | .nilFunc=>some .nilFunc
  | .nilIface=>some .nilIface
  | .bot=>some .bot
  | _=>none
section
variable {W:Base} {Φ Φs:Pers} {ρ:Rho} {m:Mem} {w:World}
theorem rl_freeze {f:AVal→Option AVal} (hf:∀ x y v,f x=some y→R Φ ρ x v→R Φs ρ y v) {cs ds:List AVal} {vs:Array Value} (h:RL Φ ρ cs vs) (hm:mapO f cs=some ds):RL Φs ρ ds vs:=by
 obtain⟨h1,h2⟩:=mapO_spec hm
 refine⟨by rw[h.1,h1],fun i y v hy hv=>?_⟩
 obtain⟨x,hx,hxy⟩:=h2 i y hy
 exact hf x y v hxy (h.2 i x v hx hv)
theorem freeze_R (hr:Rel W Φ ρ m w) (hE:Ext Φ ρ Φs ρ) (hs:∀ b l k els c e fz,m.get b=some (.cells k els)→ρ b=some l→w.heap[l.blk]? = some (.cells c e fz)→Φs l.blk=some c) :
 ∀(n:Nat) (x y:AVal) (v:Value),freezeV m.get n x=some y→R Φ ρ x v→R Φs ρ y v:=by
 intro n
 induction n with
 | zero=>intro x y v h; simp[freezeV]at h
 | succ n ih=>
  intro x y v h hR
  simp only[freezeV]at h
  cases hR with
  | bool b=>injection h with h; subst h; exact .bool b
  | int k i=>injection h with h; subst h; exact .int k i
  | str s=>injection h with h; subst h; exact .str s
  | nilPtr=>injection h with h; subst h; exact .nilPtr
  | nilSl=>injection h with h; subst h; exact .nilSl
  | emp a=>injection h with h; subst h; exact .emp a
  | nilMap=>injection h with h; subst h; exact .nilMap
  | nilFunc=>injection h with h; subst h; exact .nilFunc
  | nilIface=>injection h with h; subst h; exact .nilIface
  | ptr b i j l h1=>simp at h
  | iptr els i j B o k c f hB hk hcc hrr=>simp at h
  | map b l h1=>simp at h
  | yld b l h1=>simp at h
  | atLeast n' c' h1=>simp at h
  | func fn fs cs vf vc hf hc h1 h2=>simp at h
  | iface t x v h1=>simp at h
  | bot v=>injection h with h; subst h; exact .bot v
  | agg cs vs hsz hrr=>
   simp only at h
   cases hm:mapO (freezeV m.get n) cs with
   | none=>simp[hm]at h
   | some ds=>
    simp only[hm,Option.some.injEq]at h
    subst h
    have:=rl_freeze (Φs:=Φs) (fun x y v hxy hx=>ih x y v hxy hx) ⟨hsz,hrr⟩ hm
    exact .agg _ _ this.1 this.2
  | tuple cs vs hsz hrr=>
   simp only at h
   cases hm:mapO (freezeV m.get n) cs with
   | none=>simp[hm]at h
   | some ds=>
    simp only[hm,Option.some.injEq]at h
    subst h
    have:=rl_freeze (Φs:=Φs) (fun x y v hxy hx=>ih x y v hxy hx) ⟨hsz,hrr⟩ hm
    exact .tuple _ _ this.1 this.2
  | imm0 a cap hz=>
   simp only[mapO,Option.some.injEq]at h
   subst h
   exact .imm0 a cap hz
  | imm els B o k cap c f hne hcap hB hk hcc hrr=>
   simp only at h
   cases hm:mapO (mapO (freezeV m.get n)) els with
   | none=>simp[hm]at h
   | some rows=>
    simp only[hm,Option.some.injEq]at h
    subst h
    obtain⟨h1,h2⟩:=mapO_spec hm
    have hrow:∀ (i:Nat) (row':List AVal),rows[i]? = some row' → ∃ row,els[i]? = some row∧row'.length=row.length ∧ ∀(j:Nat) (y:AVal),row'[j]? = some y → ∃ x,row[j]? = some x∧freezeV m.get n x=some y:=by
     intro i row' hi
     obtain⟨row,g1,g2⟩:=h2 i row' hi
     obtain⟨g3,g4⟩:=mapO_spec g2
     exact⟨row,g1,g3,g4⟩
    rw[← h1]
    refine .imm rows B o k cap c f (fun e=>hne ?_) (by rw[h1]; exact hcap) (hE.pers _ _ hB) (fun i row' hi=>?_) (fun i row' j y hi hj=>?_) (fun i row' j y hi hj=>?_)
    ·rw[e]at h1
     exact List.length_eq_zero_iff.1 h1.symm
    ·obtain⟨row,g1,g2,_⟩:=hrow i row' hi
     rw[g2]; exact hk i row g1
    ·obtain⟨row,g1,_,g3⟩:=hrow i row' hi
     obtain⟨x,g4,_⟩:=g3 j y hj
     exact hcc i row j x g1 g4
    grind
  | sl b off len a cap l hl hle hn hc ha=>
   simp only at h
   cases hg:m.get b with
   | none=>simp[hg]at h
   | some blk=>
    cases blk<;>simp only[hg]at h<;>first|(cases h; done)|skip
    rename_i k els
    cases hb:Nat.ble (off+len) els.length with
    | false=>grind
    | true=>
     rw[hb]at h
     simp only[cond_true]at h
     have hol:=Nat.le_of_ble_eq_true hb
     cases hm:mapO (mapO (freezeV m.get n)) ((els.drop off).take len)with
     | none=>simp[hm]at h
     | some rows=>
      simp only[hm,Option.some.injEq]at h
      subst h
      obtain⟨h1,h2⟩:=mapO_spec hm
      have hlen:rows.length=len:=by grind
      obtain⟨l',o,g1,g2,g3,g4,g5⟩:=hr.live b _ hg
      rw[hl]at g1; injection g1 with g1; subst g1
      cases g5 with
      | cells _ _ _ c e hk hsz hsl hrows _=>
       by_cases h0:len=0
       ·subst h0
        have:rows=[]:=by grind
        subst this
        exact .imm0 a cap fun hp=>⟨_,_,hc hp⟩
       ·have hae:=hc (by omega)
        subst hae
        have hrow:∀ (i:Nat) (row':List AVal),rows[i]? = some row' → ∃ row,els[off+i]? = some row∧row'.length=row.length ∧ ∀(j:Nat) (y:AVal),row'[j]? = some y → ∃ x,row[j]? = some x∧freezeV m.get n x=some y:=by
         intro i row' hi
         obtain⟨row,q1,q2⟩:=h2 i row' hi
         obtain⟨q3,q4⟩:=mapO_spec q2
         grind
        have hcell:∀ (i:Nat) (row:List AVal) (j:Nat) (x:AVal),els[off+i]? = some row→row[j]? = some x → ∃ u,c[(l.sh+off)*l.k+i*l.k+j]? = some u∧u.oneCell'=true∧R Φ ρ x u:=by
         intro i row j x hi hj
         obtain⟨u,q1,q2,q3⟩:=hrows.2 (off+i) row j x hi hj
         grind
        rw[← hlen]
        refine .imm rows l.blk ((l.sh+off)*l.k) k cap c (fun i j=>(c[(l.sh+off)*l.k+i*k+j]?).getD undef) (fun e=>h0 (by grind)) (by omega) (hs b l k els c e (0,0) hg hl g4)
         (fun i row' hi=>?_) (fun i row' j y hi hj=>?_) (fun i row' j y hi hj=>?_)
        ·obtain⟨row,q1,q2,_⟩:=hrow i row' hi
         rw[q2]; exact hrows.1 (off+i) row q1
        ·obtain⟨row,q1,_,q3⟩:=hrow i row' hi
         obtain⟨x,q4,_⟩:=q3 j y hj
         obtain⟨u,p1,p2,_⟩:=hcell i row j x q1 q4
         grind
        ·obtain⟨row,q1,_,q3⟩:=hrow i row' hi
         obtain⟨x,q4,q5⟩:=q3 j y hj
         grind
end
theorem freeze_all {W:Base} {Φ:Pers} {ρ:Rho} {m:Mem} {w:World} (hr:Rel W Φ ρ m w):∃ Φs:Pers,Ext Φ ρ Φs ρ∧(∀ B c,Φs B=some c → ∃ e fz,w.heap[B]? = some (.cells c e fz)) ∧
 (∀ B c,Φs B=some c→W.p B=some c∨W.Free B) ∧ ∀ b l k els c e fz,m.get b=some (.cells k els)→ρ b=some l→w.heap[l.blk]? = some (.cells c e fz)→Φs l.blk=some c:=by
 have hlv:∀ B,(∃ b l y,m.get b=some y∧ρ b=some l∧l.blk=B)→Φ B=none∧W.Free B:=by
  rintro B ⟨b,l,y,h1,h2,rfl⟩
  obtain⟨l',o,g1,g2,g3,_⟩:=hr.live b y h1
  grind
 refine⟨fun B=>@ite _ (∃ b l y,m.get b=some y∧ρ b=some l∧l.blk=B) (Classical.propDecidable _) (match w.heap[B]? with|some (.cells c _ _)=>some c|_=>none) (Φ B),⟨fun B c hB=>?_,fun b l h=>h⟩,fun B c hB=>?_,fun B c hB=>?_,fun b l k els c e fz hg hl hw=>?_⟩
 ·grind
 ·by_cases hL:∃ b l y,m.get b=some y∧ρ b=some l∧l.blk=B
  ·simp only[hL,if_true]at hB
   grind
  ·simp only[hL,if_false]at hB
   exact hr.pers B c hB
 ·by_cases hL:∃ b l y,m.get b=some y∧ρ b=some l∧l.blk=B
  ·grind
  ·simp only[hL,if_false]at hB
   exact hr.newp B c hB
 ·have hL:∃ b' l' y,m.get b'=some y∧ρ b'=some l'∧l'.blk=l.blk:=by grind
  simp_all
theorem pure_frozen {P:Program} {g:FuncId} {args:List AVal} {v:AVal} {m0:Mem} {K:AVal→Mem→Prop} (hca:closedL args=true) (hcv:v.closed=true) (h0:∀ c,m0.get c=none) (h1:0<m0.next)
 (h:ACalls P g args m0 [0] K) (hK:∀ r m',K r m' → ∃ n,freezeV m'.get n r=some v) (m:Mem) (av:List Nat):ACalls P g args m av fun r m'=>r=v∧m'=m:=by
 refine pure_closed (K:=fun r _=>r=v) (m0:=m0) hca hcv h0 h1 ⟨h.1,fun W Φ ρ vs w hr ha hav=>(h.2 W Φ ρ vs w hr ha hav).mono fun e w' he=>?_⟩ (fun r m' h=>h) m av
 obtain⟨u,r,m1,Φ',ρ',e1,hE,hk,hr',hR,hn,hKr⟩:=he
 obtain⟨n,hn2⟩:=hK r m1 hKr
 obtain⟨Φs,f1,f2,f3,f4⟩:=freeze_all hr'
 have hR2:=freeze_R hr' f1 f4 n r v u hn2 hR
 refine⟨u,v,⟨fun _=>none,m1.next⟩,Φs,ρ',e1,hE.trans f1,hk,⟨hr'.base,f2,fun b x hx=>(by cases hx),fun b b' x x' l l' h1=>(by cases h1),hr'.fresh,f3⟩,hR2,hn,rfl⟩
end Go.AE
