/- Part 28 of the proof: Rr, Rv. -/
import Derived.Test.YtilmpmlkndfbjaaGreatDoorI12
import Derived.Test.YtilmpmlkndfbjaaGreatDoorI26
import Derived.Test.YtilmpmlkndfbjaaGreatDoorI27
set_option linter.all false
section
namespace Go.Known
open Go Go.AE Go.Proofs
open Go.Plain
theorem w00:IntKind.i64.wrap 0=0:=by decide
attribute [local simp] w00
theorem Z1j{T:Nat→Nat}{N:Nat}(a:∀ d,d<N→T d<N):∀ (k:Nat) (seen:List Bool) (x:Nat),x<N → ∀ y,y∈tr T k seen x→y<N
 | 0,_,_,_,y,h=>by simp[tr]at h
 | k+1,seen,x,b,y,h=>by
  simp only[tr]at h;split at h
  ·simp at h
  ·rcases List.mem_cons.1 h with rfl|h
   ·exact b
   ·exact Z1j a k _ _ (a x b) y h
theorem Zsa{T:Nat→Nat}{N:Nat}(a:∀ d,d<N→T d<N):∀ (k:Nat) (seen:List Bool),k≤N→(wks T N k seen).length≤k ∧ ∀ w,w∈wks T N k seen→w.length≤N+1 ∧ ∀ x,x∈w→x<N
 | 0,_,_=>by simp[wks]
 | k+1,seen,c=>by
  simp only[wks];split
  ·have:=Zsa a k seen (by omega)
   exact⟨by omega,this.2⟩
  ·have:=Zsa a k (Plain.mark T (N+1) seen (N - (k+1))) (by omega)
   refine⟨by simp; omega,fun w b=>?_⟩
   rcases List.mem_cons.1 b with rfl|b
   ·exact⟨Zsn T _ _ _,Z1j a _ _ _ (by omega)⟩
   ·exact this.2 w b
theorem Zpn{T:Nat→Nat}{n N:Nat}(B:n≤N)(s:∀ z,n≤z→z<N→T z<n)(v:∀ d,d<N→T d<N)(t:∀ y D,y<n→D<n→n≤T y→T y=T D→y=D)(u:∀ z,n≤z→z<N → ∃ y,y<n∧T y=z) :
 ∀(k:Nat) (seen:List Bool),k≤n→seen.length=N→(∀ y,y<n - k→seen.getD y true=true)→(∀ y,y<n→n≤T y→seen.getD (T y) true=seen.getD y true) →
  ∀ w,w∈wks T N (k+(N - n)) seen → ∃ d r,w=d :: r∧d<n
 | 0,seen,_,q,p,o=>by
  rw[Zow]
  ·intro w i; simp at i
  ·intro x;rcases Nat.lt_or_ge x n with f|f
   ·exact p x (by omega)
   ·rcases Nat.lt_or_ge x N with j|j
    ·obtain⟨y,c,rfl⟩:=u x f j;rw[o y c f];exact p y (by omega)
    ·rw[List.getD_eq_getElem?_getD,List.getElem?_eq_none (by omega)]; rfl
 | k+1,seen,G,q,p,o=>by
  have e:k+1+(N - n)=(k+(N - n))+1:=by omega
  have E:N - (k+(N - n)+1)=n - (k+1):=by omega
  rw[e];simp only[wks,E];have b:∀ a:List Bool,(∀ y,seen.getD y true=true→a.getD y true=true)→a.getD (n - (k+1)) true=true → ∀ y,y<n - k→a.getD y true=true:=fun a f j y c=>by
   rcases Nat.lt_or_ge y (n - (k+1))with m|m
   ·exact f y (p y m)
   ·have:y=n - (k+1):=by omega
    rw[this]; exact j
  cases C:seen.getD (n - (k+1)) true with
  | true=>
   simp only[if_true];exact Zpn B s v t u k seen (by omega) q (b seen (fun _ h=>h) C) o
  | false=>
   have F:=Zfp (l:=seen);have g:=Zfp (l:=seen.take n);rw[List.length_take]at g;obtain⟨_,_,m⟩:=Z11 B s v t (N+1) (2*n+2) seen (n - (k+1)) q (by omega) (by omega) (by rw[if_neg (by omega)]; omega)
    (fun y c A=>by
      rw[o y c A];have:T y≠n - (k+1):=by omega
      simp[this]) (fun h=>by omega)
   simp only[bF,if_false];intro w i;rcases List.mem_cons.1 i with rfl|i
   ·refine⟨n - (k+1),tr T N (seen.set (n - (k+1)) true) (T (n - (k+1))),?_,by omega⟩
    simp only[tr,C,bF,if_false]
   ·refine Zpn B s v t u k _ (by omega) (by rw[Zjm]; exact q) (b _ (fun y c=>Ze4 _ _ _ c) ?_) m w i
    simp only[Plain.mark,C,bF,if_false];exact Ze4 _ _ _ (by rw[C6 (by omega)]; simp)
theorem Yg4{T:Nat→Nat}{n N:Nat}(f:n≤N)(g:∀ z,n≤z→z<N→T z<n)(e:∀ d,d<N→T d<N)(i:∀ y b,y<n→b<n→n≤T y→T y=T b→y=b)(j:∀ z,n≤z→z<N → ∃ y,y<n∧T y=z) :
 ∀ w,w∈T3 T N → ∃ d r,w=d :: r∧d<n:=by
 have h:=Zpn f g e i j n (List.replicate N false) (Nat.le_refl _) (by simp) (fun y a=>by omega) (fun y a k=>by
  have c:∀ y,y<N→(List.replicate N false).getD y true=false:=fun y a=>by rw[List.getD_eq_getElem?_getD,List.getElem?_replicate,if_pos a]; rfl
  rw[c y (by omega),c (T y) (e y (by omega))])
 rw[Nat.add_sub_cancel' f]at h;exact h
theorem Yd4{f:Int}{ls:List Lt}(a:W7 f ls=0)(b:ls≠[]):0≤f∧f≤40∧Zf7 f.toNat ls:=by
 unfold W7 at a;split at a
 ·cases a
 ·split at a
  ·cases a
  ·rename_i d e;split at a
   ·rename_i c;exact⟨by omega,by omega,c.resolve_left b⟩
   ·cases a
structure ValidC (f:Int) (ls:List Lt):Prop where
 fill:Filled ls (crE ls ls.length)
 pas:0<Z0 ls
 kin:∀ v,v<ls.length→(at' ls v).k≠2→(at' ls v).k=1
 axi:∀ v,v∈Z1 ls→v<ls.length∧0≤(at' ls v).g∧(at' ls v).g≤40
section
variable {f:Int} {ls:List Lt}
abbrev wksC(ls:List Lt):List (List Nat):=T3 (Y4 ls (Z1 ls)) (2*ls.length+2*Z0 ls)
theorem ValidC.wk(h:ValidC f ls):(wksC ls).length≤4000 ∧ ∀ w,w∈wksC ls → ∃ d r,w=d :: r∧d<2*ls.length∧w.length≤4001 ∧ ∀ x,x∈w→x<2*ls.length+2*Z0 ls:=by
 obtain⟨j,a,k,l⟩:=Zhv h.pas h.kin;have n:Z0 ls≤ls.length:=D2;have p:=h.fill.small;obtain⟨c,g⟩:=Zsa a (2*ls.length+2*Z0 ls) (List.replicate (2*ls.length+2*Z0 ls) false) (Nat.le_refl _);refine⟨Nat.le_trans c (by omega),fun w b=>?_⟩
 obtain⟨d,r,e,m⟩:=Yg4 (by omega) j a k l w b
 obtain⟨o,i⟩:=g w b;exact⟨d,r,e,m,by omega,i⟩
theorem ValidC.ne(h:ValidC f ls)(b:ls≠[]):Zg0 (Y4 ls (Z1 ls)) (2*ls.length)≠[]:=by
 have a:0<ls.length:=List.length_pos_iff.2 b;exact Yca (by omega)
theorem ValidC.T(h:ValidC f ls):(∀ d,d<2*ls.length+2*(Z1 ls).length→Y4 ls (Z1 ls) d<2*ls.length+2*(Z1 ls).length) ∧
 ∀ d,2*ls.length≤d→d<2*ls.length+2*(Z1 ls).length→Y4 ls (Z1 ls) d<2*ls.length:=by
 obtain⟨a,b,_,_⟩:=Zhv h.pas h.kin;rw[T4];exact⟨b,a⟩
end
theorem c18(f:Int)(ls:List Lt):PCall Tryz.prog 12 [cV f ls,.int .i64 40] (.bool (decide (ls.length≤40)&&decide (W7 f ls=0))):=by
 refine Zbg hm Tryz.func12 ch18 rfl rfl (by simp[Y7,AVal.closed,Y5]) trivial fun K d=>?_
 have a:(ls.map rowL).length=ls.length:=List.length_map ..;have i:∀ q,Z4 q (ls.map rowL)=ls.map rowL:=fun q=>X1 q _ (Y5 ls)
 have g:=fun h=>c4 f ls h
 unfold cV at *;generalize ls.map rowL=rows at *;generalize W7 f ls=e at *;by_cases c:ls.length≤40
 ·have b:(ls.length:Int)≤40:=by omega
  simp[a,c,b];refine U1 (g (by omega)) ?_
  simp[c]at d ⊢;exact Y1 d [] (by simp[c])
 ·have b:¬(ls.length:Int)≤40:=by omega
  simp[a,c,b];simp[c]at d ⊢;exact Y1 d [] (by simp)
end Go.Known
end
section
namespace Go.Known
open Go Go.AE Go.Proofs
open Go.Plain
@[simp] theorem Yh8(id : Nat)(f : AOpd → AVal)(get : Nat → Option ABlk)(k : Nat)(x : AOpd)(lo hi : Option AOpd) : stepD id f get (.slSl k x lo hi none) = match f x with
 | .nilSl=>match G7 f 0 0 lo hi with
  | some _=>some (.nilSl,[])
  | none=>none
 | .emp=>match G7 f 0 0 lo hi with
  | some _=>some (.emp,[])
  | none=>none
 | .imm els=>if els.all (·.length == k)then match G7 f els.length els.length lo hi with
  | some (l,h)=>some (.imm ((els.take h).drop l),[])
  | none=>none
  else none
 | .sl b off len=>match get b with
  | some (.cells a els)=>if a=k∧off+len≤els.length then match G7 f len (els.length - off) lo hi with
   | some (l,h)=>some (.sl b (off+l) (h - l),[])
   | none=>none
   else none
  | _=>none
 | _=>none:=rfl
theorem c31s(rows:List (List AVal))(c:rows≠[])(j:rows.length≤1000)(d:(rows.all fun x=>x.length == 6)=true)(g:V3 rows=true) :
 Ctr Tryz.prog 67 [.imm rows] ⟨[],1⟩ fun v m=>v=.sl 1 0 rows.length∧m=⟨[(1,.cells 6 rows)],2⟩:=by
 refine E7 hm Tryz.func67 cf31 rfl rfl fun K b=>?_
 have i:∀ q,Z4 q rows=rows:=fun q=>X1 q _ g
 have a:=b _ _ ⟨rfl,rfl⟩;clear b;have e:rows.length≤1048576:=by omega
 have h:X7 .eql .slice (.imm rows) .nilSl=some (.bool false):=by
  have:rows.isEmpty=false:=by cases rows with
   | nil=>exact absurd rfl c
   | cons=>rfl
  simp[X7,eqA,Zbk,J9,this]
 simp[h,Zi8,d,c,e,O6,AVal.cells];exact Y1 a [(1,6)] (by simp[i])
theorem Zkz(get:Nat→Option ABlk)(k b off len:Nat):N5 get k (.sl b off len)=match get b with
 | some (.cells a els)=>if a=k∧off+len≤els.length then some ((els.drop off).take len)else none
 | _=>if len=0 then some []else none:=by
 simp only[N5,R4];rfl
theorem c56s(R:List (List AVal))(a:Nat)(z:0<a)(A:a<R.length)(B:R.length≤1000)(y:V3 R=true) :
 Ctr Tryz.prog 68 [.sl 1 0 R.length,.int .i64 a] ⟨[(1,.cells 6 R)],2⟩ fun v m=>v=.sl 2 0 R.length∧m=⟨[(1,.cells 6 R),(2,.cells 6 (R.drop a++R.take a))],3⟩:=by
 refine E7 hm Tryz.func68 cf56 rfl rfl fun K g=>?_
 have c:∀ q,Z4 q R=R:=fun q=>X1 q _ y
 have b:=g _ _ ⟨rfl,rfl⟩;clear g;have s:a≤R.length:=by omega
 have t:(R.drop a).take (R.length - a)=R.drop a:=by rw[List.take_of_length_le (by simp)]
 have u:(R.drop a).length=R.length - a:=by simp
 have w:(R.take a).length=a:=by simp; omega
 have d:∀ q,Z4 q (R.drop a)=R.drop a:=fun q=>by
  have h:=c q;rw[J3]at h ⊢;rw[List.map_drop,h]
 have e:∀ q,Z4 q (R.take a)=R.take a:=fun q=>by
  have h:=c q;rw[J3]at h ⊢;rw[List.map_take,h]
 have i:R.length - a≤1048576:=by omega
 have j:¬(R.length - a=0):=by omega
 have k:R.length - a+a=R.length:=by omega
 have l:R.length≤1048576:=by omega
 have n:a+(R.length - a)=R.length:=by omega
 have o:¬R.length≤a:=by omega
 have p:¬R.length≤R.length - a:=by omega
 have r:min a R.length=a:=by omega
 simp[s,Zkz,n,t,j,o,i,O6,r,k,p,l];exact Y1 b [(2,10)] (by simp[c,d,e])
end Go.Known
end
