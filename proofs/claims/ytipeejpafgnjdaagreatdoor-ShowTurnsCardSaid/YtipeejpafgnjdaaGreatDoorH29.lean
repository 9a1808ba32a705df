/- Part 29 of the proof: Rr, Rv. -/
import Derived.Test.YtipeejpafgnjdaaGreatDoorH12
import Derived.Test.YtipeejpafgnjdaaGreatDoorH26
import Derived.Test.YtipeejpafgnjdaaGreatDoorH28
set_option linter.all false
section
namespace Go.Known
open Go Go.AE Go.Proofs
open Go.Plain
theorem w00:IntKind.i64.wrap 0=0:=by decide
attribute [local simp] w00
theorem Zyy{T:Nat→Nat}{N:Nat}(hT:∀ d,d<N→T d<N):∀ (k:Nat) (seen:List Bool) (x:Nat),x<N → ∀ y,y∈tr T k seen x→y<N
 | 0,_,_,_,y,h=>by simp[tr]at h
 | k+1,seen,x,hx,y,h=>by
  simp only[tr]at h;split at h
  ·simp at h
  ·rcases List.mem_cons.1 h with rfl|h
   ·exact hx
   ·exact Zyy hT k _ _ (hT x hx) y h
theorem Zrj{T:Nat→Nat}{N:Nat}(hT:∀ d,d<N→T d<N):∀ (k:Nat) (seen:List Bool),k≤N→(wks T N k seen).length≤k ∧ ∀ w,w∈wks T N k seen→w.length≤N+1 ∧ ∀ x,x∈w→x<N
 | 0,_,_=>by simp[wks]
 | k+1,seen,hk=>by
  simp only[wks];split
  ·have:=Zrj hT k seen (by omega)
   exact⟨by omega,this.2⟩
  ·have:=Zrj hT k (Plain.mark T (N+1) seen (N - (k+1))) (by omega)
   refine⟨by simp; omega,fun w hw=>?_⟩
   rcases List.mem_cons.1 hw with rfl|hw
   ·exact⟨Zp4 T _ _ _,Zyy hT _ _ _ (by omega)⟩
   ·exact this.2 w hw
theorem Zq4{T:Nat→Nat}{n N:Nat}(hn:n≤N)(hA:∀ z,n≤z→z<N→T z<n)(hT:∀ d,d<N→T d<N)(hI:∀ y y',y<n→y'<n→n≤T y→T y=T y'→y=y')(hS:∀ z,n≤z→z<N → ∃ y,y<n∧T y=z) :
 ∀(k:Nat) (seen:List Bool),k≤n→seen.length=N→(∀ y,y<n - k→seen.getD y true=true)→(∀ y,y<n→n≤T y→seen.getD (T y) true=seen.getD y true) →
  ∀ w,w∈wks T N (k+(N - n)) seen → ∃ d r,w=d :: r∧d<n
 | 0,seen,_,hs,hd,hJ=>by
  rw[Zow]
  ·intro w hw; simp at hw
  ·intro x;rcases Nat.lt_or_ge x n with h1|h1
   ·exact hd x (by omega)
   ·rcases Nat.lt_or_ge x N with h2|h2
    ·obtain⟨y,hy,rfl⟩:=hS x h1 h2;rw[hJ y hy h1];exact hd y (by omega)
    ·rw[List.getD_eq_getElem?_getD,List.getElem?_eq_none (by omega)]; rfl
 | k+1,seen,hk,hs,hd,hJ=>by
  have e:k+1+(N - n)=(k+(N - n))+1:=by omega
  have e2:N - (k+(N - n)+1)=n - (k+1):=by omega
  rw[e];simp only[wks,e2];have hstep:∀ seen':List Bool,(∀ y,seen.getD y true=true→seen'.getD y true=true)→seen'.getD (n - (k+1)) true=true → ∀ y,y<n - k→seen'.getD y true=true:=fun seen' h1 h2 y hy=>by
   rcases Nat.lt_or_ge y (n - (k+1))with h3|h3
   ·exact h1 y (hd y h3)
   ·have:y=n - (k+1):=by omega
    rw[this]; exact h2
  cases hx:seen.getD (n - (k+1)) true with
  | true=>
   simp only[if_true];exact Zq4 hn hA hT hI hS k seen (by omega) hs (hstep seen (fun _ h=>h) hx) hJ
  | false=>
   have hul:=Ze3 (l:=seen);have hul2:=Ze3 (l:=seen.take n);rw[List.length_take]at hul2;obtain⟨_,_,h3⟩:=Zws hn hA hT hI (N+1) (2*n+2) seen (n - (k+1)) hs (by omega) (by omega) (by rw[if_neg (by omega)]; omega)
    (fun y hy hTy=>by
      rw[hJ y hy hTy];have:T y≠n - (k+1):=by omega
      simp[this]) (fun h=>by omega)
   simp only[bF,if_false];intro w hw;rcases List.mem_cons.1 hw with rfl|hw
   ·refine⟨n - (k+1),tr T N (seen.set (n - (k+1)) true) (T (n - (k+1))),?_,by omega⟩
    simp only[tr,hx,bF,if_false]
   ·refine Zq4 hn hA hT hI hS k _ (by omega) (by rw[Zmr]; exact hs) (hstep _ (fun y hy=>Zf6 _ _ _ hy) ?_) h3 w hw
    simp only[Plain.mark,hx,bF,if_false];exact Zf6 _ _ _ (by rw[C8 (by omega)]; simp)
theorem Z9h{T:Nat→Nat}{n N:Nat}(hn:n≤N)(hA:∀ z,n≤z→z<N→T z<n)(hT:∀ d,d<N→T d<N)(hI:∀ y y',y<n→y'<n→n≤T y→T y=T y'→y=y')(hS:∀ z,n≤z→z<N → ∃ y,y<n∧T y=z) :
 ∀ w,w∈Q5 T N → ∃ d r,w=d :: r∧d<n:=by
 have h:=Zq4 hn hA hT hI hS n (List.replicate N false) (Nat.le_refl _) (by simp) (fun y hy=>by omega) (fun y hy hTy=>by
  have h1:∀ y,y<N→(List.replicate N false).getD y true=false:=fun y hy=>by rw[List.getD_eq_getElem?_getD,List.getElem?_replicate,if_pos hy]; rfl
  rw[h1 y (by omega),h1 (T y) (hT y (by omega))])
 rw[Nat.add_sub_cancel' hn]at h;exact h
theorem Zvl{f:Int}{ls:List Lt}(he:W4 f ls=0)(h0:ls≠[]):0≤f∧f≤40∧Ze2 f.toNat ls:=by
 unfold W4 at he;split at he
 ·cases he
 ·split at he
  ·cases he
  ·rename_i h1 h2;split at he
   ·rename_i h3;exact⟨by omega,by omega,h3.resolve_left h0⟩
   ·cases he
structure ValidC (f:Int) (ls:List Lt):Prop where
 fill:Filled ls (crE ls ls.length)
 pas:0<Z1 ls
 kin:∀ v,v<ls.length→(at' ls v).k≠2→(at' ls v).k=1
 axi:∀ v,v∈Z2 ls→v<ls.length∧0≤(at' ls v).g∧(at' ls v).g≤40
theorem Z1w{f:Int}{ls:List Lt}(h:ls.length≤1000)(he:W4 f ls=0)(h0:ls≠[]):ValidC f ls:=by
 obtain⟨hf0,hf1,h1,h2,h3,h4,h5,h6⟩:=Zvl he h0;have hpos:0<ls.length:=List.length_pos_iff.2 h0;have hfl:=Zyn h h1 hpos h2 h4 h5;have hG:=Zgn h1;refine⟨hfl,by rw[← O6]; exact hfl.some,fun v hv hk=>(hfl.kind v hv).resolve_right hk,fun v hv=>?_⟩
 obtain⟨hv1,hv2⟩:=mem_axis.1 hv;have:=hG _ (R9 hv1) hv2;exact⟨hv1,this.1,by omega⟩
section
variable {f:Int} {ls:List Lt}
abbrev wksC(ls:List Lt):List (List Nat):=Q5 (Y3 ls (Z2 ls)) (2*ls.length+2*Z1 ls)
theorem ValidC.faces(h:ValidC f ls):(wksC ls).map (D4 (2*ls.length))=Za4 (Y3 ls (Z2 ls)) (2*ls.length):=Zs6 h.pas h.kin
theorem ValidC.wk(h:ValidC f ls):(wksC ls).length≤4000 ∧ ∀ w,w∈wksC ls → ∃ d r,w=d :: r∧d<2*ls.length∧w.length≤4001 ∧ ∀ x,x∈w→x<2*ls.length+2*Z1 ls:=by
 obtain⟨h1,h2,h3,h4⟩:=Zg3 h.pas h.kin;have hpl:Z1 ls≤ls.length:=E5;have hs:=h.fill.small;obtain⟨a1,a2⟩:=Zrj h2 (2*ls.length+2*Z1 ls) (List.replicate (2*ls.length+2*Z1 ls) false) (Nat.le_refl _);refine⟨Nat.le_trans a1 (by omega),fun w hw=>?_⟩
 obtain⟨d,r,e,hd⟩:=Z9h (by omega) h1 h2 h3 h4 w hw
 obtain⟨b1,b2⟩:=a2 w hw;exact⟨d,r,e,hd,by omega,b2⟩
theorem ValidC.ne(h:ValidC f ls)(h0:ls≠[]):Za4 (Y3 ls (Z2 ls)) (2*ls.length)≠[]:=by
 have hpos:0<ls.length:=List.length_pos_iff.2 h0;exact Z7t (by omega)
theorem ValidC.fc(h:ValidC f ls):(Za4 (Y3 ls (Z2 ls)) (2*ls.length)).length≤4000 ∧ ∀ w,w∈Za4 (Y3 ls (Z2 ls)) (2*ls.length)→w.1≠[]∧w.1.length≤5000 ∧ ∀ x,x∈w.1→x<2*ls.length:=by
 obtain⟨h1,h2⟩:=h.wk;rw[← h.faces];refine⟨by simpa using h1,fun w hw=>?_⟩
 obtain⟨v,hv,rfl⟩:=List.mem_map.1 hw;obtain⟨d,r,e,hd,hl,_⟩:=h2 v hv;refine⟨?_,?_,fun x hx=>?_⟩
 ·subst e;simp[D4,hd]
 ·have:(D4 (2*ls.length) v).1.length≤v.length:=List.length_filter_le _ _;omega
 ·have:=(List.mem_filter.1 hx).2;simpa using this
theorem ValidC.T(h:ValidC f ls):(∀ d,d<2*ls.length+2*(Z2 ls).length→Y3 ls (Z2 ls) d<2*ls.length+2*(Z2 ls).length) ∧
 ∀ d,2*ls.length≤d→d<2*ls.length+2*(Z2 ls).length→Y3 ls (Z2 ls) d<2*ls.length:=by
 obtain⟨h1,h2,_,_⟩:=Zg3 h.pas h.kin;rw[O6];exact⟨h2,h1⟩
end
set_option maxHeartbeats 4000000 in
theorem c35e(l:List Nat)(hl:l.length≤10000):PCall Tryz.prog 34 [imV (Z0 l),.imm (Z0 l)] (.bool true):=by
 refine Zbb hm Tryz.func34 cf35 rfl rfl (by simp[Y0,G6,G0,AVal.closed]) trivial fun K hK=>?_
 have hr:∀ q,Z3 q (Z0 l)=Z0 l:=fun q=>Z5 q _
 by_cases h0:l=[]
 ·subst h0;simp[Z0];refine T1 (α:=Unit) (fun _=>[(5,.int .i64 0),(1,.imm []),(0,.nilSl)]) (fun _=>⟨[],1⟩) (fun _=>0) (fun _=>True) () [] (by simp) trivial ?_
  intro _ _ N hN;simp;exact Y1 hK [] (by simp)
 ·have hn:¬Z0 l=[]:=fun e=>h0 (by simpa[Z0]using e)
  have hlen:(Z0 l).length=l.length:=M0 l;have hg:∀ (i x:Nat),l[i]? = some x→(Z0 l)[i]? = some [.int .i64 (x:Int)]:=fun i x=>D6
  rw[Zex hn];generalize Z0 l=rows at *;simp;refine T1 (α:=Nat) (fun i=>[(5,.int .i64 i),(1,.imm rows),(0,.imm rows)]) (fun _=>⟨[],1⟩) (fun i=>l.length - i) (fun i=>i≤l.length) 0 [] (by simp[hr]) (by simp) ?_
  intro i hi N hN
  try simp only at hi hN ⊢
  by_cases hlt:i<l.length
  ·obtain⟨x,hx⟩:∃ x,l[i]? = some x:=⟨_,gE hlt⟩
   have hxg:=hg i x hx;obtain⟨_,hxg2⟩:=Y9 hxg;have hw:IntKind.i64.wrap ((i:Int)+1)=(i:Int)+1:=Z6 (by omega) (by omega)
   simp[hlt,hlen,hxg,hxg2,hw];exact hN (i+1) [] _ _ (by omega) (by omega) (by simp[hr])
  ·simp[hlt,hlen];exact Y1 hK [] (by simp)
theorem c18(f:Int)(ls:List Lt):PCall Tryz.prog 12 [cV f ls,.int .i64 40] (.bool (decide (ls.length≤40)&&decide (W4 f ls=0))):=by
 refine Zbb hm Tryz.func12 ch18 rfl rfl (by simp[Y0,AVal.closed,Z9]) trivial fun K hK=>?_
 have hlen:(ls.map rowL).length=ls.length:=List.length_map ..;have hrr:∀ q,Z3 q (ls.map rowL)=ls.map rowL:=fun q=>Y6 q _ (Z9 ls)
 have h4:=fun h=>c4 f ls h
 unfold cV at *;generalize ls.map rowL=rows at *;generalize W4 f ls=e at *;by_cases hl:ls.length≤40
 ·have hl':(ls.length:Int)≤40:=by omega
  simp[hlen,hl,hl'];refine W3 (h4 (by omega)) ?_
  simp[hl]at hK ⊢;exact Y1 hK [] (by simp[hl])
 ·have hl':¬(ls.length:Int)≤40:=by omega
  simp[hlen,hl,hl'];simp[hl]at hK ⊢;exact Y1 hK [] (by simp)
end Go.Known
end
section
namespace Go.Known
open Go Go.AE Go.Proofs
open Go.Plain
@[simp] theorem Yfr(id : Nat)(f : AOpd → AVal)(get : Nat → Option ABlk)(k : Nat)(x : AOpd)(lo hi : Option AOpd) : stepD id f get (.slSl k x lo hi none) = match f x with
 | .nilSl=>match I6 f 0 0 lo hi with
  | some _=>some (.nilSl,[])
  | none=>none
 | .emp=>match I6 f 0 0 lo hi with
  | some _=>some (.emp,[])
  | none=>none
 | .imm els=>if els.all (·.length == k)then match I6 f els.length els.length lo hi with
  | some (l,h)=>some (.imm ((els.take h).drop l),[])
  | none=>none
  else none
 | .sl b off len=>match get b with
  | some (.cells k' els)=>if k'=k∧off+len≤els.length then match I6 f len (els.length - off) lo hi with
   | some (l,h)=>some (.sl b (off+l) (h - l),[])
   | none=>none
   else none
  | _=>none
 | _=>none:=rfl
theorem c31s(rows:List (List AVal))(hn:rows≠[])(hl:rows.length≤1000)(h6:(rows.all fun x=>x.length == 6)=true)(hc:X8 rows=true) :
 Ctr Tryz.prog 57 [.imm rows] ⟨[],1⟩ fun v m=>v=.sl 1 0 rows.length∧m=⟨[(1,.cells 6 rows)],2⟩:=by
 refine J7 hm Tryz.func57 cf31 rfl rfl fun K hK=>?_
 have hr:∀ q,Z3 q rows=rows:=fun q=>Y6 q _ hc
 have hK':=hK _ _ ⟨rfl,rfl⟩;clear hK;have hb:rows.length≤1048576:=by omega
 have he:X6 .eql .slice (.imm rows) .nilSl=some (.bool false):=by
  have:rows.isEmpty=false:=by cases rows with
   | nil=>exact absurd rfl hn
   | cons=>rfl
  simp[X6,eqA,Zay,J1,this]
 simp[he,Zi7,h6,hn,hb,P7,AVal.cells];exact Y1 hK' [(1,6)] (by simp[hr])
theorem Zj8(get:Nat→Option ABlk)(k b off len:Nat):P9 get k (.sl b off len)=match get b with
 | some (.cells k' els)=>if k'=k∧off+len≤els.length then some ((els.drop off).take len)else none
 | _=>if len=0 then some []else none:=by
 simp only[P9,R2];rfl
theorem c56s(R:List (List AVal))(a:Nat)(h0:0<a)(ha:a<R.length)(hl:R.length≤1000)(hc:X8 R=true) :
 Ctr Tryz.prog 71 [.sl 1 0 R.length,.int .i64 a] ⟨[(1,.cells 6 R)],2⟩ fun v m=>v=.sl 2 0 R.length∧m=⟨[(1,.cells 6 R),(2,.cells 6 (R.drop a++R.take a))],3⟩:=by
 refine J7 hm Tryz.func71 cf56 rfl rfl fun K hK=>?_
 have hr:∀ q,Z3 q R=R:=fun q=>Y6 q _ hc
 have hK':=hK _ _ ⟨rfl,rfl⟩;clear hK;have h1:a≤R.length:=by omega
 have hX:(R.drop a).take (R.length - a)=R.drop a:=by rw[List.take_of_length_le (by simp)]
 have hXl:(R.drop a).length=R.length - a:=by simp
 have hYl:(R.take a).length=a:=by simp; omega
 have hrD:∀ q,Z3 q (R.drop a)=R.drop a:=fun q=>by
  have h:=hr q;rw[K7]at h ⊢;rw[List.map_drop,h]
 have hrT:∀ q,Z3 q (R.take a)=R.take a:=fun q=>by
  have h:=hr q;rw[K7]at h ⊢;rw[List.map_take,h]
 have e1:R.length - a≤1048576:=by omega
 have e2:¬(R.length - a=0):=by omega
 have e3:R.length - a+a=R.length:=by omega
 have e4:R.length≤1048576:=by omega
 have e5:a+(R.length - a)=R.length:=by omega
 have e6:¬R.length≤a:=by omega
 have e7:¬R.length≤R.length - a:=by omega
 have e8:min a R.length=a:=by omega
 simp[h1,Zj8,e5,hX,e2,e6,e1,P7,e8,e3,e7,e4];exact Y1 hK' [(2,10)] (by simp[hr,hrD,hrT])
end Go.Known
end
