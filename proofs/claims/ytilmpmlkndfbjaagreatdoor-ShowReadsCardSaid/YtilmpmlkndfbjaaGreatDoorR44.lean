/- Part 44 of the proof: Ek, El, Em. -/
import Derived.Test.YtilmpmlkndfbjaaGreatDoorR41
import Derived.Test.YtilmpmlkndfbjaaGreatDoorR42
import Derived.Test.YtilmpmlkndfbjaaGreatDoorR43
set_option linter.all false
section
namespace Go.Known
open Go Go.AE Go.Proofs
open Go.Plain
theorem Znv(p:Nat×Nat)(L:List (Nat×Nat)):U9 (p :: L)=p.1 :: p.2 :: U9 L:=rfl
theorem Zpd:∀ (L:List (Nat×Nat)) (J:List Int) (e:Nat),e∉U9 L→(L.foldl (fun J p=>M7 J p.1 p.2) J)[e]? = J[e]?
 | [],_,_,_=>rfl
 | p :: L,J,e,h=>by
  rw[Znv,List.mem_cons,List.mem_cons,not_or,not_or]at h;rw[List.foldl_cons,Zpd L _ e h.2.2];unfold M7;rw[List.getElem?_set_ne (Ne.symm h.2.1),List.getElem?_set_ne (Ne.symm h.1)]
theorem Z8c(p:Nat×Nat)(L:List (Nat×Nat))(e:Nat):ptn (p :: L) e=if p.1=e then p.2 else if p.2=e then p.1 else ptn L e:=by
 unfold ptn;rw[List.find?_cons];by_cases a:p.1=e
 ·rw[if_pos a];have:(p.1 == e||p.2 == e)=true:=by simp[a]
  rw[this];simp only;rw[if_pos a]
 ·rw[if_neg a];by_cases b:p.2=e
  ·rw[if_pos b];have:(p.1 == e||p.2 == e)=true:=by simp[b]
   rw[this];simp only;rw[if_neg a]
  ·rw[if_neg b];have:(p.1 == e||p.2 == e)=false:=by simp[a,b]
   rw[this]
theorem Zo9:∀ (L:List (Nat×Nat)) (J:List Int) (e:Nat),(U9 L).Nodup→(∀ p,p∈L→p.1<J.length∧p.2<J.length)→e∈U9 L→(L.foldl (fun J p=>M7 J p.1 p.2) J)[e]? = some ((ptn L e:Nat):Int)
 | [],_,_,_,_,h=>by cases h
 | p :: L,J,e,d,c,h=>by
  rw[Znv,List.nodup_cons,List.nodup_cons,List.mem_cons,not_or]at d;obtain⟨⟨n1,n2⟩,j,k⟩:=d;obtain⟨f,g⟩:=c p (List.mem_cons_self ..);rw[List.foldl_cons,Z8c];rw[Znv,List.mem_cons,List.mem_cons]at h;by_cases a:p.1=e
  ·subst a;rw[if_pos rfl,Zpd L _ _ n2];unfold M7;rw[List.getElem?_set_ne (Ne.symm n1),List.getElem?_set_self f]
  ·rw[if_neg a];by_cases b:p.2=e
   ·subst b;rw[if_pos rfl,Zpd L _ _ j];unfold M7;rw[List.getElem?_set_self (by rw[List.length_set]; exact g)]
   ·rw[if_neg b];refine Zo9 L _ e k (fun q i=>?_) ((h.resolve_left (Ne.symm a)).resolve_left (Ne.symm b))
    rw[Zqu];exact c q (List.mem_cons_of_mem _ i)
theorem Z52{n:Nat}{L:List (Nat×Nat)}(c:(U9 L).Nodup)(a:∀ p,p∈L→p.1<n∧p.2<n){e:Nat}(b:e∈U9 L):(Z2 (jnA n L))[e]? = some [.int .i64 ((ptn L e:Nat):Int)]:=by
 unfold Z2 jnA;rw[List.getElem?_map,Zo9 L _ e c (by simpa using a) b]
 rfl
end Go.Known
end
section
namespace Go.Known
open Go Go.AE Go.Proofs
open Go.Plain
attribute [local simp] Zd6 Ze1 Zeb Zee Zep Ze7 Zex Zen Zef Zd8 Ze4 isV isVo Zeo Zez Zeu Zd9
def ltN(m:Nat)(PL:List (Nat×Nat))(L:List (Nat×Nat))(t:Nat):Lt:=
 if arE m L t<2*m then passL (PL.getD (arE m L t / 2) (0,0))else ⟨2,0,0,((Y6 ((xoE m (arE m L t):Nat):Int) ((nmE m L (t+1)).map fun x=>((x:Nat):Int)):Nat):Int),0,false⟩
def G6(m:Nat)(PL:List (Nat×Nat))(L:List (Nat×Nat))(t:Nat):List Lt:=(List.range t).map (ltN m PL L)
def visR(p:Nat×Nat):List AVal:=[.int .i64 (p.1:Nat),.int .i64 (p.2:Nat)]
theorem Zhf:∀ (l:List (Nat×Nat)),W5 (l.map visR)=true
 | []=>rfl
 | r :: l=>by
  have:=Zhf l;simp only[List.map_cons,W5,visR,X4,AVal.closed,Bool.and_true,Bool.true_and]at this ⊢;exact this
def nmI(m:Nat)(L:List (Nat×Nat))(t:Nat):List Int:=(nmE m L t).map fun x=>((x:Nat):Int)
theorem Zus(x:Nat):∀ N:List Nat,Y6 (((x+1:Nat):Nat):Int) (N.map fun x=>((x+1:Nat):Int))=Y6 ((x:Nat):Int) (N.map fun x=>((x:Nat):Int))
 | []=>rfl
 | y :: r=>by
  have a:=Zus x r;simp only[List.map_cons,Y6];rw[a];by_cases h:x=y
  ·subst h; simp
  ·rw[if_neg (show ¬((x+1:Nat):Int)=((y+1:Nat):Int) by omega),if_neg (show ¬((x:Nat):Int)=((y:Nat):Int) by omega)]
theorem Zwv{m:Nat}{L:List (Nat×Nat)}{x:Nat}:∀ t,T1 m L t x=[]↔x∉nmE m L t
 | 0=>by simp[T1,nmE]
 | t+1=>by
  have d:=Zwv (m:=m) (L:=L) (x:=x) t;have f:T1 m L (t+1) x=if ¬arE m L t<2*m∧xoE m (arE m L t)=x then T1 m L t x++[(t,qoE m (arE m L t))]else T1 m L t x:=rfl
  have g:nmE m L (t+1)=if arE m L t<2*m∨xoE m (arE m L t)∈nmE m L t then nmE m L t else nmE m L t++[xoE m (arE m L t)]:=rfl
  rw[f,g];by_cases b:arE m L t<2*m
  ·rw[if_neg (fun e=>e.1 b),if_pos (.inl b)]; exact d
  ·by_cases c:xoE m (arE m L t)=x
   ·subst c;rw[if_pos ⟨b,rfl⟩];by_cases a:xoE m (arE m L t)∈nmE m L t
    ·rw[if_pos (.inr a)]; simp[a]
    ·rw[if_neg (fun e=>e.elim b a)]; simp
   ·rw[if_neg (fun e=>c e.2)]
    by_cases a:xoE m (arE m L t)∈nmE m L t
    ·rw[if_pos (.inr a)]; exact d
    ·rw[if_neg (fun e=>e.elim b a),d]
     simp[Ne.symm c]
theorem Ztn{m:Nat}{L:List (Nat×Nat)}{x:Nat}:∀ t,(T1 m L t x).length≤t
 | 0=>Nat.le_refl _
 | t+1=>by
  have b:=Ztn (m:=m) (L:=L) (x:=x) t;have a:T1 m L (t+1) x=if ¬arE m L t<2*m∧xoE m (arE m L t)=x then T1 m L t x++[(t,qoE m (arE m L t))]else T1 m L t x:=rfl
  rw[a];split
  ·rw[List.length_append,List.length_singleton]; omega
  ·omega
theorem Zv4{m:Nat}{L:List (Nat×Nat)}:∀ t,(nmI m L t).length≤t
 | 0=>Nat.le_refl _
 | t+1=>by
  have a:=Zv4 (m:=m) (L:=L) t;have b:nmE m L (t+1)=if arE m L t<2*m∨xoE m (arE m L t)∈nmE m L t then nmE m L t else nmE m L t++[xoE m (arE m L t)]:=rfl
  unfold nmI at a ⊢;rw[b];rw[List.length_map]at a ⊢;split
  ·omega
  ·rw[List.length_append,List.length_singleton]; omega
theorem nm_mem{m:Nat}{L:List (Nat×Nat)}{t x:Nat}:Y6 ((x:Nat):Int) (nmI m L t)=0↔x∉nmE m L t:=by
 rw[Zn9];unfold nmI;refine not_congr ⟨fun a=>?_,fun a=>List.mem_map.2 ⟨_,a,rfl⟩⟩
 obtain⟨y,b,e⟩:=List.mem_map.1 a;have:y=x:=by omega
 exact this ▸ b
theorem xorI(d:Nat)(c:d≤10000):W7 .xor .num (.int .i64 d) (.int .i64 1)=some (.int .i64 (bkN d:Nat)):=by
 have b:bkN d≤10001:=by unfold bkN; split<;>omega
 have a:(BitVec.ofInt 64 (d:Int) ^^^ BitVec.ofInt 64 1).toNat=bkN d:=by
  rw[BitVec.toNat_xor,← Z8r];have:(BitVec.ofInt 64 (d:Int)).toNat=d:=by
   rw[BitVec.ofInt_natCast,BitVec.toNat_ofNat,Nat.mod_eq_of_lt (by omega)]
  rw[this];rfl
 show some (AVal.int .i64 (IntKind.i64.wrap ((BitVec.ofInt 64 (d:Int) ^^^ BitVec.ofInt 64 1).toNat:Nat)))=_;rw[a,Z1 (by omega) (by omega)]
end Go.Known
end
section
namespace Go.Known
open Go Go.AE Go.Proofs
open Go.Plain
attribute [local simp] Zd6 Ze1 Zeb Zee Zep Ze7 Zex Zen Zef Zd8 Ze4 isV isVo Zeo Zez Zeu Zd9
attribute [local simp] Zra Zqh
theorem nBx{x n a k:Nat}(h:x<n)(b:20+n≤a):¬(20+x=a+k):=by omega
theorem le1{a i:Nat}:a≤a+i:=by omega
theorem le2{a i j:Nat}:a≤a+i+j:=by omega
theorem le3{a i j k:Nat}:a≤a+i+j+k:=by omega
theorem le4{a i j k l:Nat}:a≤a+i+j+k+l:=by omega
theorem le5{a i j k l n:Nat}:a≤a+i+j+k+l+n:=by omega
theorem le6{a i j k l n o:Nat}:a≤a+i+j+k+l+n+o:=by omega
theorem le7{a i j k l n o p:Nat}:a≤a+i+j+k+l+n+o+p:=by omega
theorem le8{a i j k l n o p q:Nat}:a≤a+i+j+k+l+n+o+p+q:=by omega
theorem n20{n c:Nat}(h:c<20):¬(20+n=c):=by omega
def cLp3:ACode:=.loop (sr [cL 172 171 170]
(.seq (.cond (tZ 172) .skip
(.exit 4))
(.seq (.block 5 (sr [ix 173 2 169 171,lw 174 2 173,oZ 21 (.alloc [(.int .i64 0),(.int .i64 0)]),so 2 21 174]
(sr [fa 175 1 6,lo 176 175,fa 177 0 21,lo 178 177,ix 179 6 176 178,mv 22 179]
(.region true [mv 180 22,mv 181 22,mv 182 19,lw 183 2 21,lw 184 2 17,oZ 185 (.bin .eql (.flat [.int,.int]) (tZ 183) (tZ 184)),fa 186 5 16,lo 187 186,oZ 188 (.bin .neq .bool (tZ 185) (tZ 187)),nc 189 180,fa 190 4 189,⟨none,.store 1 (tZ 190) (tZ 182),none,[3,4,7]⟩,nc 191 181,fa 192 5 191,so 1 192 188]))))
(rf [aDk 193 171 1,mv 171 193]))))
def eI(n x:Nat)(sg:Int)(k:Nat):Env:=[(0,.ptr 1 0 0),(4,.ptr 10 0 0),(6,.ptr 11 0 0),(133,.sl 12 0 n),(134,.int .i64 n),(135,.int .i64 x),(16,.ptr 15 0 0),(17,.ptr 16 0 0),(19,.int .i64 sg),(169,.sl (20+x) 0 2),(170,.int .i64 2),(171,.int .i64 k)]
def mI(f:Int)(n K j:Nat)(F:Nat→List (List AVal))(P XX R:List (List AVal))(x0 x1 x2 x3:Int)(d low:Bool)(so po:Nat):SMem:=⟨K6 2 20 F n ([(10,.cells 2 [[.int .i64 0,.nilSl]]),(11,.cells 2 [[.int .i64 f,.sl 14 0 K]]),(12,.cells 1 (L7 20 n F)),
 (1,.cells 3 [[.imm P,.sl 2 0 j,slV 3 XX]]),(14,.cells 6 R),(15,.cells 6 [[.int .i64 x0,.int .i64 x1,.int .i64 x2,.int .i64 x3,.bool d,.bool low]]),(16,.cells 2 [[.int .i64 so,.int .i64 po]])]++blV 3 6 XX []),20+n⟩
theorem Zqs(q:Nat→Nat)(R:List (List AVal))(i:Nat)(row:List AVal):Z6 q (R.set i row)=(Z6 q R).set i (U7 q row):=by
 rw[Zah,Zah,List.map_set]
theorem fixI(b:List (List AVal))(A B C D G H I:ABlk)(c:Nat)(y:ABlk)(d:Z7 ([(10,A),(11,B),(12,C),(1,D),(14,G),(15,H),(16,I)]++blV 3 6 b []) c=some y):c<20:=by
 refine Zip (fun p a=>?_) d
 simp only[List.cons_append,List.nil_append,List.mem_cons]at a;rcases a with rfl|rfl|rfl|rfl|rfl|rfl|rfl|a
 any_goals (show _<_; omega)
 rcases Ziv a with e|a
 ·omega
 ·cases a
set_option maxRecDepth 100000 in
set_option maxHeartbeats 16000000 in
theorem Yas(f:Int)(n K j x s t p q so o h u:Nat)(i:Int)(F:Nat→List (List AVal))(P v R:List (List AVal))(x0 x1 x2 x3:Int)(d g Z bt:Bool)(U:∀ q,Z6 q P=P)(Y:∀ q,Z6 q v=v)(J:¬v=[])(V:∀ q,Z6 q R=R)(ac:∀ y,W5 (F y)=true)
 (hx:x<n) (E:R.length=K) (al:s<t) (ht:t<K) (hK:K≤1000) (hF:F x=[[.int .i64 s,.int .i64 p],[.int .i64 t,.int .i64 q]])
 (G:R[s]? = some (rowL ⟨2,0,0,(h:Nat),0,false⟩)) (I:R[t]? = some (rowL ⟨2,0,0,(u:Nat),0,false⟩)) (aa:Z=(decide (s=so∧p=o) != g)) (ab:bt=(decide (t=so∧q=o) != g))
 (Q:Exit→Env→SMem→Prop) (e:Env) (mm:SMem) (hW:WkR 199 4 (eI n x i 0) (mI f n K j F P v R x0 x1 x2 x3 d g so o) e mm)
 (hQ:Q (.exit 4) ((172,.bool false) :: eI n x i 2) ((mI f n K j F P v ((R.set s (rowL ⟨2,0,0,(h:Nat),i,Z⟩)).set t (rowL ⟨2,0,0,(u:Nat),i,bt⟩)) x0 x1 x2 x3 d g so o).at (20+n+1))):wpW Tryz.prog [] 199 4 cLp3 Q e mm:=by
 unfold cLp3;have aj:(L7 20 n F).length=n:=Zqr;have S:∀ z,Z7 (K6 2 20 F n z) (20+x)=some (.cells 2 [[.int .i64 s,.int .i64 p],[.int .i64 t,.int .i64 q]]):=fun z=>by rw[M1 _ hx,hF,if_neg (by simp)]
 obtain⟨Rk,r⟩:∃ Rk:Nat→List (List AVal),Rk=fun k=>if k=0 then R else if k=1 then R.set s (rowL ⟨2,0,0,(h:Nat),i,Z⟩)else (R.set s (rowL ⟨2,0,0,(h:Nat),i,Z⟩)).set t (rowL ⟨2,0,0,(u:Nat),i,bt⟩):=⟨_,rfl⟩
 refine Zjy (fun k=>eI n x i k) (fun k=>mI f n K j F P v (Rk k) x0 x1 x2 x3 d g so o) (fun k=>2 - k) (fun k=>k≤2) 0 (by rw[r]; exact hW) (by omega) ?_
 intro k hk N hN;by_cases h2:k=2
 ·subst h2;rw[r]at hN ⊢;unfold eI mI at *;simpa using hQ
 ·have ad:k=0∨k=1:=by omega
  have m:=hN (k+1);clear hN hW hQ;have ak:∀ (A B:Int),(A=B)=(B=A):=fun A B=>propext ⟨Eq.symm,Eq.symm⟩
  obtain⟨_,H⟩:=Y5 G;obtain⟨_,ai⟩:=Y5 I;have ae:s≠t:=by omega
  have af:s<K:=by omega
  have M:∀ a b c d:Nat,W7 .eql (.flat [.int,.int]) (.agg [.int .i64 a,.int .i64 b]) (.agg [.int .i64 c,.int .i64 d])=some (.bool (decide (a=c∧b=d))):=fun a b c d=>by
   have e1:((a:Int) == (c:Int))=decide (a=c):=by rw[Bool.eq_iff_iff]; simp; omega
   have e2:((b:Int) == (d:Int))=decide (b=d):=by rw[Bool.eq_iff_iff]; simp; omega
   simp only[W7,eqA,Zbl,B3,if_true,e1,e2];by_cases h1:a=c<;>by_cases h2:b=d<;>simp[h1,h2]
  subst aa;subst ab;have L:∀ a b:Bool,(!(a == b))=(a != b):=fun _ _=>rfl
  have ag:IntKind.i64.wrap 1=1:=rfl;have ah:IntKind.i64.wrap 2=2:=rfl;have O:∀ y,y<n→W5 (F y)=true:=fun y _=>ac y
  rcases ad with rfl|rfl
  ·rw[r]at m ⊢;unfold eI mI at *;simp only[rowL]at *;simp[S,M,G,H,E,af,J,n20,ag];refine m _ _ (by omega) (by omega) (WkR.famG (x:=n) (N:=0) (l:=[]) (by omega) (fixI v _ _ _ _ _ _ _) trivial (fun e=>absurd e (Nat.lt_irrefl _)) ?_ ?_ ?_ (fun e=>absurd e (Nat.lt_irrefl _)) O)
   ·simp[S8,W3,Zf1 hx (show x≠n by omega)]
   ·simp +contextual [S8,W3,Zak,Zqs,U,Y,V,n20,L]
   ·simp;intro y hy _ hv
    repeat rw[if_neg (by omega)]
    rw[M1 _ hy,if_neg (by simpa using hv)]
  ·rw[r]at m ⊢;unfold eI mI at *;have D:(R.set s (rowL ⟨2,0,0,(h:Nat),i,(decide (s=so∧p=o) != g)⟩)).length=K:=by rw[List.length_set,E]
   have w:(R.set s (rowL ⟨2,0,0,(h:Nat),i,(decide (s=so∧p=o) != g)⟩))[t]? = some (rowL ⟨2,0,0,(u:Nat),0,false⟩):=by rw[List.getElem?_set_ne ae,I]
   have X:∀ q,Z6 q (R.set s (rowL ⟨2,0,0,(h:Nat),i,(decide (s=so∧p=o) != g)⟩))=R.set s (rowL ⟨2,0,0,(h:Nat),i,(decide (s=so∧p=o) != g)⟩):=fun q=>by rw[Zqs,V]; rfl
   simp only[Nat.one_ne_zero,if_false,if_true]at m ⊢;generalize R.set s (rowL ⟨2,0,0,(h:Nat),i,(decide (s=so∧p=o) != g)⟩)=R1 at *;obtain⟨_,C⟩:=Y5 w;simp only[rowL]at *;simp[S,M,w,C,D,ht,J,n20,ah];refine m _ _ (by omega) (by omega) (WkR.famG (x:=n) (N:=0) (l:=[]) (by omega) (fixI v _ _ _ _ _ _ _) trivial (fun e=>absurd e (Nat.lt_irrefl _)) ?_ ?_ ?_ (fun e=>absurd e (Nat.lt_irrefl _)) O)
   ·simp[S8,W3,Zf1 hx (show x≠n by omega)]
   ·simp +contextual [S8,W3,Zak,Zqs,U,Y,X,n20,L]
   ·simp;intro y hy _ hv
    repeat rw[if_neg (by omega)]
    rw[M1 _ hy,if_neg (by simpa using hv)]
end Go.Known
end
