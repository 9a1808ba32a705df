/- Part 14 of the proof: AeFz. -/
import Derived.Test.YtggclbeocekgkaaGreatDoorP13
set_option linter.all false
namespace Go.AE
open Go.RowKit
def U1{α β:Type}(f:α→Option β):List α→Option (List β)
 | []=>some []
 | x :: r=>match f x,U1 f r with
  | some y,some ys=>some (y :: ys)
  | _,_=>none
theorem Rl{α β:Type}{f:α→Option β}:∀ {l:List α} {l':List β},U1 f l=some l'→l'.length=l.length ∧ ∀(i:Nat) (y:β),l'[i]? = some y → ∃ x,l[i]? = some x∧f x=some y
 | [],l',h=>by
  simp only[U1,oI]at h
  grind
 | x :: r,l',h=>by
  simp only[U1]at h;cases h1:f x with
  | none=>simp[h1]at h
  | some y=>
   cases h2:U1 f r with
   | none=>simp[h1,h2]at h
   | some ys=>
    simp only[h1,h2,oI]at h;subst h;obtain⟨h3,h4⟩:=Rl h2
    grind
def X9(get:Nat→Option Ai):Nat→Aa→Option Aa
 | 0,_=>none
 | n+1,x=>match x with
  | .sl b off len=>match get b with
   | some (.cells _ els)=>bif Nat.ble (off+len) els.length then match U1 (U1 (X9 get n)) ((els.drop off).take len)with
    | some rows=>some (.Aj rows)
    | none=>none
    else none
   | _=>none
  | .agg cs=>match U1 (X9 get n) cs with
   | some ds=>some (.agg ds)
   | none=>none
  | .tuple cs=>match U1 (X9 get n) cs with
   | some ds=>some (.tuple ds)
   | none=>none
  | .Aj els=>match U1 (U1 (X9 get n)) els with
   | some rows=>some (.Aj rows)
   | none=>none
  | .bool b=>some (.bool b)
  | .int k i=>some (.int k i)
  | .str s=>some (.str s)
  | .nilPtr=>some .nilPtr
  | .Ae=>some .Ae
  | .emp=>some .emp
  | .Av=>some .Av
  | .nilFunc=>some .nilFunc
  | .nilIface=>some .nilIface
  | .bot=>some .bot
  | _=>none
section
variable {W:AA} {Φ BM:Ao} {ρ:AD} {m:Mem} {w:World}
theorem Yu{f:Aa→Option Aa}(hf:∀ x y v,f x=some y→R Φ ρ x v→R BM ρ y v){cs ds:List Aa}{vs:Array Value}(h:RL Φ ρ cs vs)(hm:U1 f cs=some ds):RL BM ρ ds vs:=by
 obtain⟨h1,h2⟩:=Rl hm;refine⟨by rw[h.1,h1],fun i y v hy hv=>?_⟩
 obtain⟨x,hx,hxy⟩:=h2 i y hy;exact hf x y v hxy (h.2 i x v hx hv)
theorem Zu(hr:Rel W Φ ρ m w)(hE:Ext Φ ρ BM ρ)(hs:∀ b l k els c e fz,m.get b=some (.cells k els)→ρ b=some l→w.heap[l.blk]? = some (.cells c e fz)→BM l.blk=some c) :
 ∀(n:Nat) (x y:Aa) (v:Value),X9 m.get n x=some y→R Φ ρ x v→R BM ρ y v:=by
 intro n
 induction n with
 | zero=>intro x y v h; simp[X9]at h
 | succ n ih=>
  intro x y v h hR;simp only[X9]at h;cases hR with
  | bool b=>injection h with h; subst h; exact .bool b
  | int k i=>injection h with h; subst h; exact .int k i
  | str s=>injection h with h; subst h; exact .str s
  | nilPtr=>injection h with h; subst h; exact .nilPtr
  | Ae=>injection h with h; subst h; exact .Ae
  | emp a=>injection h with h; subst h; exact .emp a
  | Av=>injection h with h; subst h; exact .Av
  | nilFunc=>injection h with h; subst h; exact .nilFunc
  | nilIface=>injection h with h; subst h; exact .nilIface
  | ptr b i j l h1=>simp at h
  | AW els i j B o k c f hB hk Ck Ak=>simp at h
  | map b l h1=>simp at h
  | FH b l h1=>simp at h
  | atLeast n' c' h1=>simp at h
  | func fn fs cs vf vc hf hc h1 h2=>simp at h
  | iface t x v h1=>simp at h
  | bot v=>injection h with h; subst h; exact .bot v
  | agg cs vs hsz Ak=>
   simp only at h;cases hm:U1 (X9 m.get n) cs with
   | none=>simp[hm]at h
   | some ds=>
    simp only[hm,oI]at h;subst h;have:=Yu (BM:=BM) (fun x y v hxy hx=>ih x y v hxy hx) ⟨hsz,Ak⟩ hm
    exact .agg _ _ this.1 this.2
  | tuple cs vs hsz Ak=>
   simp only at h;cases hm:U1 (X9 m.get n) cs with
   | none=>simp[hm]at h
   | some ds=>
    simp only[hm,oI]at h;subst h;have:=Yu (BM:=BM) (fun x y v hxy hx=>ih x y v hxy hx) ⟨hsz,Ak⟩ hm
    exact .tuple _ _ this.1 this.2
  | BS a cap hz=>
   simp only[U1,oI]at h;subst h;exact .BS a cap hz
  | Aj els B o k cap c f hne hcap hB hk Ck Ak=>
   simp only at h;cases hm:U1 (U1 (X9 m.get n)) els with
   | none=>simp[hm]at h
   | some rows=>
    simp only[hm,oI]at h;subst h;obtain⟨h1,h2⟩:=Rl hm;have hrow:∀ (i:Nat) (row':List Aa),rows[i]? = some row' → ∃ row,els[i]? = some row∧row'.length=row.length ∧ ∀(j:Nat) (y:Aa),row'[j]? = some y → ∃ x,row[j]? = some x∧X9 m.get n x=some y:=by
     intro i row' hi;obtain⟨row,g1,g2⟩:=h2 i row' hi;obtain⟨g3,g4⟩:=Rl g2;exact⟨row,g1,g3,g4⟩
    rw[← h1];refine .Aj rows B o k cap c f (fun e=>hne ?_) (by rw[h1]; exact hcap) (hE.Bn _ _ hB) (fun i row' hi=>?_) (fun i row' j y hi hj=>?_) (fun i row' j y hi hj=>?_)
    ·rw[e]at h1;exact List.length_eq_zero_iff.1 h1.symm
    ·obtain⟨row,g1,g2,_⟩:=hrow i row' hi;rw[g2]; exact hk i row g1
    ·obtain⟨row,g1,_,g3⟩:=hrow i row' hi;obtain⟨x,g4,_⟩:=g3 j y hj;exact Ck i row j x g1 g4
    grind
  | sl b off len a cap l hl hle hn hc ha=>
   simp only at h;cases hg:m.get b with
   | none=>simp[hg]at h
   | some blk=>
    cases blk<;>simp only[hg]at h<;>first|(cases h; done)|skip
    rename_i k els;cases hb:Nat.ble (off+len) els.length with
    | false=>grind
    | true=>
     rw[hb]at h;simp only[cond_true]at h;have Fa:=Nat.le_of_ble_eq_true hb;cases hm:U1 (U1 (X9 m.get n)) ((els.drop off).take len)with
     | none=>simp[hm]at h
     | some rows=>
      simp only[hm,oI]at h;subst h;obtain⟨h1,h2⟩:=Rl hm;have hlen:rows.length=len:=by grind
      obtain⟨l',o,g1,g2,g3,g4,g5⟩:=hr.live b _ hg;rw[hl]at g1; injection g1 with g1; subst g1
      cases g5 with
      | cells _ _ _ c e hk hsz hsl hrows _=>
       by_cases h0:len=0
       ·subst h0;have:rows=[]:=by grind
        subst this;exact .BS a cap fun hp=>⟨_,_,hc hp⟩
       ·have hae:=hc (by omega)
        subst hae;have hrow:∀ (i:Nat) (row':List Aa),rows[i]? = some row' → ∃ row,els[off+i]? = some row∧row'.length=row.length ∧ ∀(j:Nat) (y:Aa),row'[j]? = some y → ∃ x,row[j]? = some x∧X9 m.get n x=some y:=by
         intro i row' hi;obtain⟨row,q1,q2⟩:=h2 i row' hi;obtain⟨q3,q4⟩:=Rl q2
         grind
        have hcell:∀ (i:Nat) (row:List Aa) (j:Nat) (x:Aa),els[off+i]? = some row→row[j]? = some x → ∃ u,c[(l.sh+off)*l.k+i*l.k+j]? = some u∧u.oneCell'=true∧R Φ ρ x u:=by
         intro i row j x hi hj;obtain⟨u,q1,q2,q3⟩:=hrows.2 (off+i) row j x hi hj
         grind
        rw[← hlen];refine .Aj rows l.blk ((l.sh+off)*l.k) k cap c (fun i j=>(c[(l.sh+off)*l.k+i*k+j]?).getD undef) (fun e=>h0 (by grind)) (by omega) (hs b l k els c e (0,0) hg hl g4)
         (fun i row' hi=>?_) (fun i row' j y hi hj=>?_) (fun i row' j y hi hj=>?_)
        ·obtain⟨row,q1,q2,_⟩:=hrow i row' hi;rw[q2]; exact hrows.1 (off+i) row q1
        ·obtain⟨row,q1,_,q3⟩:=hrow i row' hi;obtain⟨x,q4,_⟩:=q3 j y hj;obtain⟨u,p1,p2,_⟩:=hcell i row j x q1 q4
         grind
        ·obtain⟨row,q1,_,q3⟩:=hrow i row' hi;obtain⟨x,q4,q5⟩:=q3 j y hj
         grind
end
theorem Zzq{W:AA}{Φ:Ao}{ρ:AD}{m:Mem}{w:World}(hr:Rel W Φ ρ m w):∃ BM:Ao,Ext Φ ρ BM ρ∧(∀ B c,BM B=some c → ∃ e fz,w.heap[B]? = some (.cells c e fz)) ∧
 (∀ B c,BM B=some c→W.p B=some c∨W.CR B) ∧ ∀ b l k els c e fz,m.get b=some (.cells k els)→ρ b=some l→w.heap[l.blk]? = some (.cells c e fz)→BM l.blk=some c:=by
 have hlv:∀ B,(∃ b l y,m.get b=some y∧ρ b=some l∧l.blk=B)→Φ B=none∧W.CR B:=by
  rintro B ⟨b,l,y,h1,h2,rfl⟩;obtain⟨l',o,g1,g2,g3,_⟩:=hr.live b y h1
  grind
 refine⟨fun B=>@ite _ (∃ b l y,m.get b=some y∧ρ b=some l∧l.blk=B) (Classical.propDecidable _) (match w.heap[B]? with|some (.cells c _ _)=>some c|_=>none) (Φ B),⟨fun B c hB=>?_,fun b l h=>h⟩,fun B c hB=>?_,fun B c hB=>?_,fun b l k els c e fz hg hl hw=>?_⟩
 ·grind
 ·by_cases hL:∃ b l y,m.get b=some y∧ρ b=some l∧l.blk=B
  ·simp only[hL,if_true]at hB
   grind
  ·simp only[hL,if_false]at hB;exact hr.Bn B c hB
 ·by_cases hL:∃ b l y,m.get b=some y∧ρ b=some l∧l.blk=B
  ·grind
  ·simp only[hL,if_false]at hB;exact hr.Cr B c hB
 ·have hL:∃ b' l' y,m.get b'=some y∧ρ b'=some l'∧l'.blk=l.blk:=by grind
  simp_all
theorem Wg{P:Program}{g:FuncId}{args:List Aa}{v:Aa}{m0:Mem}{K:Aa→Mem→Prop}(hca:X8 args=true)(Pj:v.closed=true)(h0:∀ c,m0.get c=none)(h1:0<m0.next)
 (h:Au P g args m0 [0] K) (hK:∀ r m',K r m' → ∃ n,X9 m'.get n r=some v) (m:Mem) (av:List Nat):Au P g args m av fun r m'=>r=v∧m'=m:=by
 refine w9 (K:=fun r _=>r=v) (m0:=m0) hca Pj h0 h1 ⟨h.1,fun W Φ ρ vs w hr ha CN=>(h.2 W Φ ρ vs w hr ha CN).mono fun e w' he=>?_⟩ (fun r m' h=>h) m av
 obtain⟨u,r,m1,Ar,ρ',e1,hE,hk,hr',hR,hn,hKr⟩:=he;obtain⟨n,hn2⟩:=hK r m1 hKr;obtain⟨BM,f1,f2,f3,f4⟩:=Zzq hr';have hR2:=Zu hr' f1 f4 n r v u hn2 hR;refine⟨u,v,⟨fun _=>none,m1.next⟩,BM,ρ',e1,hE.trans f1,hk,⟨hr'.base,f2,fun b x hx=>(by cases hx),fun b b' x x' l l' h1=>(by cases h1),hr'.fresh,f3⟩,hR2,hn,rfl⟩
end Go.AE
