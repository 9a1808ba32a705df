/- Part 49 of the proof: Es. -/
import Derived.Test.YtilmpmlkndfbjaaGreatDoorR34
import Derived.Test.YtilmpmlkndfbjaaGreatDoorR47
import Derived.Test.YtilmpmlkndfbjaaGreatDoorR48
set_option linter.all false
namespace Go.Known
open Go Go.AE Go.Proofs
open Go.Plain
set_option maxHeartbeats 2000000 in
theorem Zr6(V:AVal)(a:List Ro)(q:RowsV V a)(H:a.length≤1000):PCall Tryz.prog 29 [V] (.int .i64 (W9 a:Nat)):=by
 obtain⟨B,C,m⟩:=q.cells;refine Za0 hm Tryz.func29 Ybd rfl rfl (by simp[X4,m]) trivial fun K z=>?_
 have c:=q.len;have d:=q.ren;have u:=fun {get:Nat→Option ABlk} {i:Nat} (hi:i<a.length)=>q.idx (get:=get) hi
 have t:∀ i (h:i<a.length),(a.map roR)[i]? = some (roR a[i]):=fun i h=>by rw[List.getElem?_map,gE h]; rfl
 simp;refine B0 (α:=Nat) (fun i=>[(0,V),(3,.int .i64 (W9 (a.take i):Nat)),(4,.int .i64 i)]) (fun _=>⟨[],1⟩) (fun i=>a.length - i) (fun i=>i≤a.length) 0 [] (by simp[d,W9]) (by omega) ?_
 intro i hi N A;have v:=Zgh (a.take i);rw[List.length_take]at v;by_cases e:¬i=a.length
 ·have g:i<a.length:=by omega
  have l:(i:Int)<a.length:=by omega
  have b:=A (i+1);rw[Zwp g]at b;have o:=fun (get:Nat→Option ABlk)=>u (get:=get) g
  have n:=t i g;obtain⟨_,j⟩:=Y5 n;generalize a.map roR=G at *;have p:IntKind.i64.wrap ((i:Int)+1)=((i+1:Nat):Int):=by rw[Z1 (by omega) (by omega)]; omega
  obtain⟨⟨F,y,nn,ov⟩,E⟩:∃ r,r=a[i]:=⟨_,rfl⟩
  rw[← E]at n j b;simp only[roR]at n j b;generalize D:W9 (a.take i)=s at *;have w:IntKind.i64.wrap ((s:Int)+1)=((s+1:Nat):Int):=by rw[Z1 (by omega) (by omega)]; omega
  by_cases k:F=2
  ·rw[if_pos k]at b;simp[g,l,c,o,n,j,k,p,w];exact b [] _ _ (by omega) (by omega) (by simp[d])
  ·rw[if_neg k,Nat.add_zero]at b;simp[g,l,c,o,n,j,k,p];exact b [] _ _ (by omega) (by omega) (by simp[d])
 ·replace e:i=a.length:=Classical.not_not.1 e
  subst e;rw[List.take_length]at *;generalize W9 a=s at *;simp[c];exact Z9 z [] (by simp)
def jnZ(n:Nat)(L:List (Nat×Nat)):List Int:=L.foldl (fun J p=>M7 J p.1 p.2) (List.replicate n 0)
theorem Zgb(n:Nat)(L:List (Nat×Nat)):(jnZ n L).length=n:=by rw[jnZ,Zpi,List.length_replicate]
theorem Zu6(n:Nat)(L:List (Nat×Nat))(a b:Nat):jnZ n (L++[(a,b)])=M7 (jnZ n L) a b:=by rw[jnZ,List.foldl_append]; rfl
set_option maxHeartbeats 4000000 in
theorem Zrt(m:Nat)(J:List Int)(v u:List (List AVal))(a b:Nat)(s:a<J.length)(t:b<J.length) :
 Ctr Tryz.prog 55 [.agg [.int .i64 m,.sl 1 0 J.length,slV 2 v,slV 3 u],.int .i64 a,.int .i64 b] ⟨[(1,.cells 1 (Z2 J))],4⟩ fun r B=>
  r=.tuple []∧B=⟨[(1,.cells 1 (Z2 (M7 J a b)))],4⟩:=by
 refine Za1 hm Tryz.func55 Z9d rfl rfl fun K w=>?_
 have k:=Zap J;have e:=Zf6 s;obtain⟨_,g⟩:=Y5 e;have c:(J.set a (b:Int)).length=J.length:=List.length_set;have h:=Zf6 (l:=J.set a (b:Int)) (i:=b) (by rw[c]; exact t)
 obtain⟨_,j⟩:=Y5 h;have o:=Zl4 J a (b:Int);have p:=Zl4 (J.set a (b:Int)) b (a:Int);have d:=Zap (J.set a (b:Int));have n:∀ q,Z6 q (Z2 (M7 J a b))=Z2 (M7 J a b):=fun q=>X6 q _ (L5 _)
 unfold M7 at *;generalize (J.set a (b:Int)).getD b 0=y at *;generalize J.getD a 0=x at *;generalize A:Z2 ((J.set a (b:Int)).set b (a:Int))=E at *;generalize z:Z2 (J.set a (b:Int))=D at *;generalize Z2 J=C at *;simp[s,t,k,e,g,o,d,c,h,j,p,D7,C6];exact Z9 w [(1,1)] (by simp +contextual [n])
set_option maxHeartbeats 2000000 in
theorem Z1a(m e:Nat)(r:m≤1000)(v:e≤5000):PCall Tryz.prog 56 [.int .i64 m,.int .i64 e] (.int .i64 (wiE m e:Nat)):=by
 refine Za0 hm Tryz.func56 Z42 rfl rfl (by simp[X4,AVal.closed]) trivial fun K b=>?_
 have g:=Zz9 e (by omega)
 have a:IntKind.i64.wrap (2*(m:Int))=2*m:=Z1 (by omega) (by omega)
 by_cases h:e<2*m
 ·have hi:(e:Int)<2*m:=by omega
  have c:wiE m e=bkN e:=by unfold wiE; rw[if_pos h]
  rw[c]at b;simp[a,hi];refine J7 g ?_;simp;exact Z9 b [] (by simp)
 ·have hi:¬(e:Int)<2*m:=by omega
  have k:IntKind.i64.wrap ((e:Int) - 2*m)=((e - 2*m:Nat):Int):=by rw[Z1 (by omega) (by omega)]; omega
  have i:((e - 2*m:Nat):Int).tmod 4=(((e - 2*m) % 4:Nat):Int):=rfl;have c:wiE m e=e - (e - 2*m) % 4+((e - 2*m) % 4+2) % 4:=by unfold wiE; rw[if_neg h]
  have y:=Nat.mod_lt (e - 2*m) (show 0<4 by omega)
  have t:(e - 2*m) % 4≤e:=by have:=Nat.mod_le (e - 2*m) 4; omega
  rw[c]at b;generalize (e - 2*m) % 4=q at *;generalize e - 2*m=d at *;have l:IntKind.i64.wrap ((q:Int)+2)=((q+2:Nat):Int):=by rw[Z1 (by omega) (by omega)]; omega
  have j:((q+2:Nat):Int).tmod 4=(((q+2) % 4:Nat):Int):=rfl;have s:=Nat.mod_lt (q+2) (show 0<4 by omega)
  generalize (q+2) % 4=p at *;generalize q+2=u at *;have n:IntKind.i64.wrap ((e:Int) - q)=((e - q:Nat):Int):=by rw[Z1 (by omega) (by omega)]; omega
  have o:IntKind.i64.wrap (((e - q:Nat):Int)+p)=((e - q+p:Nat):Int):=by rw[Z1 (by omega) (by omega)]; omega
  generalize e - q+p=w at *;generalize e - q=z at *;simp[a,hi,k,i,l,j,n,o];exact Z9 b [] (by simp)
theorem Z38(a b:Nat)(o:Bool):PCall Tryz.prog 57 [.int .i64 a,.int .i64 b,.bool o] (.int .i64 (sgE a b o)):=by
 refine Za0 hm Tryz.func57 Z89 rfl rfl (by simp[X4,AVal.closed]) trivial fun K c=>?_
 unfold sgE at c;have d:((b:Int)=3)=(b=3):=propext ⟨fun h=>by omega,fun h=>by omega⟩
 have e:((a:Int)=0)=(a=0):=propext ⟨fun h=>by omega,fun h=>by omega⟩
 simp[d,e];cases g:decide (a=0)<;>cases i:decide (b=3)<;>cases o<;>rw[g,i]at c<;>simp at c ⊢ <;> exact Z9 c [] (by simp)
end Go.Known
