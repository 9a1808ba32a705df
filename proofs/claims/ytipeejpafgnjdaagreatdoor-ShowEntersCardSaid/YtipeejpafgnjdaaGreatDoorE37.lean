/- Part 37 of the proof: Sf, Sj, Sl, Sp, Sr. -/
import Derived.Test.YtipeejpafgnjdaaGreatDoorE15
import Derived.Test.YtipeejpafgnjdaaGreatDoorE32
import Derived.Test.YtipeejpafgnjdaaGreatDoorE33
import Derived.Test.YtipeejpafgnjdaaGreatDoorE36
set_option linter.all false
section
namespace Go.Known
open Go Go.AE Go.Proofs
open Go.Plain
theorem Zxv (a b:Lt):Zc5 [.int,.int,.int,.int,.int,.bool] (rowL a) (rowL b)=some (decide (a=b)):=by
 obtain⟨a1,a2,a3,a4,a5,a6⟩:=a
 obtain⟨b1,b2,b3,b4,b5,b6⟩:=b
 simp only [rowL,Zc5,Zk4,if_true,Lt.mk.injEq]
 by_cases h1:a1=b1
 · by_cases h2:a2=b2
   · by_cases h3:a3=b3
     · by_cases h4:a4=b4
       · by_cases h5:a5=b5
         · by_cases h6:a6=b6
           · simp [h1,h2,h3,h4,h5,h6]
           · simp [h1,h2,h3,h4,h5,h6,beq_false_of_ne h6]
         · simp [h1,h2,h3,h4,h5,beq_false_of_ne h5]
       · simp [h1,h2,h3,h4,beq_false_of_ne h4]
     · simp [h1,h2,h3,beq_false_of_ne h3]
   · simp [h1,h2,beq_false_of_ne h2]
 · simp [h1,beq_false_of_ne h1]
theorem Z4x (a b:Lt):binA .neq (.flat [.int,.int,.int,.int,.int,.bool]) (.agg (rowL a)) (.agg (rowL b))=some (.bool (!decide (a=b))):=by
 simp only [binA,eqA,Zxv]
theorem Ze1 (ls:List Lt) {i:Nat} (h:i<ls.length):(ls.map rowL)[i]? = some (rowL (at' ls i)):=by
 rw [List.getElem?_map,List.getElem?_eq_getElem h,at',List.getD,List.getElem?_eq_getElem h]
 rfl
theorem Zxc {a b:List Lt} {i:Nat} (ha:i<a.length) (hb:i<b.length) (h:at' a i=at' b i):(a.drop i=b.drop i)=(a.drop (i+1)=b.drop (i+1)):=by
 rw [List.drop_eq_getElem_cons ha,List.drop_eq_getElem_cons hb]
 have e:a[i]=b[i]:=by simpa [at',List.getD,ha,hb] using h
 rw [e]
 simp only [List.cons.injEq,true_and]
theorem Zwu {a b:List Lt} {i:Nat} (ha:i<a.length) (hb:i<b.length) (h:at' a i≠at' b i):¬a.drop i=b.drop i:=by
 rw [List.drop_eq_getElem_cons ha,List.drop_eq_getElem_cons hb]
 have e1:at' a i=a[i]:=by simp [at',List.getD,ha]
 have e2:at' b i=b[i]:=by simp [at',List.getD,hb]
 rw [e1,e2] at h
 intro e
 injection e with e3 _
 exact h e3
end Go.Known
end
section
namespace Go.AE
open Go.RowKit
variable {P:Program}
def Wk (v v':AVal):Prop:=∀ (Φ:Pers) (ρ:Rho) (u:Value),R Φ ρ v u→R Φ ρ v' u
def WkL:List AVal→List AVal→Prop
 | [],[]=>True
 | x :: r,y :: s=>Wk x y∧WkL r s
 | _,_=>False
theorem Wk.refl (v:AVal):Wk v v:=fun _ _ _ h=>h
theorem Wk_nil:Wk .nilSl (.imm []):=fun Φ ρ u h=>Zyv Φ ρ u h Φ ρ
theorem Zzt:∀ {xs ys:List AVal},WkL xs ys→xs.length=ys.length ∧ ∀(i:Nat) (y:AVal),ys[i]? = some y → ∃ x,xs[i]? = some x∧Wk x y
 | [],[],_=>⟨rfl,fun i y h=>by simp at h⟩
 | [],_ :: _,h=>h.elim
 | _ :: _,[],h=>h.elim
 | x :: r,y :: s,h=>by
  obtain⟨h1,h2⟩:=Zzt h.2
  refine⟨by simp [h1],fun i z hz=>?_⟩
  cases i with
  | zero=>cases hz; exact⟨x,rfl,h.1⟩
  | succ i=>exact h2 i z (by simpa using hz)
theorem Wk_agg {xs ys:List AVal} (h:WkL xs ys):Wk (.agg xs) (.agg ys):=fun Φ ρ u hu=>by
 obtain⟨h1,h2⟩:=Zzt h
 cases hu with
 | agg cs vs hs hr=>
  refine .agg _ _ (by rw [hs,h1]) fun i y v hy hv=>?_
  obtain⟨x,hx,hw⟩:=h2 i y hy
  exact hw _ _ _ (hr i x v hx hv)
theorem PCall.wk {g:FuncId} {args:List AVal} {v v':AVal} (h:PCall P g args v) (hv:Wk v v'):PCall P g args v':=by
 intro m av
 refine⟨(h m av).1,fun W Φ ρ vs w hr ha hav=>((h m av).2 W Φ ρ vs w hr ha hav).mono fun e w' he=>?_⟩
 obtain⟨u,r,m',Φ',ρ',e1,hE,hk,hr',hR,hn,rfl,rfl⟩:=he
 exact⟨u,_,_,Φ',ρ',e1,hE,hk,hr',hv _ _ _ hR,hn,rfl,rfl⟩
end Go.AE
namespace Go.Known
open Go Go.AE Go.Proofs
open Go.Plain
end Go.Known
end
section
namespace Go.Known
open Go Go.AE Go.Proofs
open Go.Plain
theorem fz_cV (f:Int) (L:List Lt):Zaj (SMem.get ⟨[(1,.cells 6 (L.map rowL))],2⟩) 4 (.agg [.int .i64 f,.sl 1 0 L.length])=some (cV f L):=by
 have:=Zeb (n:=2) (get:=SMem.get ⟨[(1,.cells 6 (L.map rowL))],2⟩) (b:=1) (k:=6) (rows:=L.map rowL) (by simp) (Zdr _)
 rw [List.length_map] at this
 rw [Zaj]
 simp only [mapO]
 rw [this]
 rfl
theorem c114s (f:Int) (ls:List Lt) (h0:ls≠[]) (h:ls.length≤1000) :
 Ctr Tryz.prog 60 [cV f ls] ⟨[],1⟩ fun v m=>v=.agg [.int .i64 f,.sl 1 0 ls.length]∧m=⟨[(1,.cells 6 (ls.map rowL))],2⟩:=by
 refine Zhq hm Tryz.func60 Z4w rfl rfl fun K hK=>?_
 have hK':=hK _ _ ⟨rfl,rfl⟩
 clear hK
 have hrr:∀ q,Zam q (ls.map rowL)=ls.map rowL:=fun q=>Zaa q _ (Zab ls)
 have h6:=Z0r ls
 have hne:¬ls.map rowL=[]:=by simpa using h0
 have hlen:(ls.map rowL).length=ls.length:=List.length_map ..
 unfold cV at *
 generalize ls.map rowL=rows at *
 have hb:ls.length≤1048576:=by omega
 simp [Zk8,h6,hne,hlen,hb,Zan]
 exact endK hK' [(1,7)] (by simp [hrr])
theorem c114v (f:Int) (ls:List Lt) (h:ls.length≤1000):PCall Tryz.prog 60 [cV f ls] (cV f ls):=by
 by_cases h0:ls=[]
 · subst h0
   refine PCall.wk (v:=.agg [.int .i64 f,.nilSl]) ?_ (Wk_agg ⟨Wk.refl _,Wk_nil,trivial⟩)
   refine Zcx hm 4 Tryz.func60 Z4w rfl rfl (by simp [Zae,AVal.closed,Zap]) (by simp [AVal.closed,Zae]) fun K hK=>?_
   have hK':=hK (.agg [.int .i64 f,.nilSl]) ⟨[],1⟩ rfl
   clear hK
   unfold cV at *
   simp [Zk8,Zan]
   exact endK hK' [] (by simp)
 · refine Zoh (k:=4) (by simp [Zae,AVal.closed,Zab]) (by simp [AVal.closed,Zae,Zab]) ((c114s f ls h0 h).mono fun r sm=>?_)
   rintro⟨rfl,rfl⟩
   exact fz_cV f ls
end Go.Known
end
section
namespace Go.Known
open Go Go.AE Go.Proofs
open Go.Plain
set_option maxRecDepth 100000 in
set_option maxHeartbeats 8000000 in
theorem c12v (f g:Int) (a b:List Lt) (ha:a.length≤1000) (hb:b.length≤1000):PCall Tryz.prog 21 [cV f a,cV g b] (.bool (decide (f=g)&&decide (a=b))):=by
 refine Zbr hm Tryz.func21 cf12 rfl rfl (by simp [Zae,AVal.closed,Zab]) trivial fun K hK=>?_
 have hra:∀ q,Zam q (a.map rowL)=a.map rowL:=fun q=>Zaa q _ (Zab a)
 have hrb:∀ q,Zam q (b.map rowL)=b.map rowL:=fun q=>Zaa q _ (Zab b)
 have hla:(a.map rowL).length=a.length:=List.length_map ..
 have hlb:(b.map rowL).length=b.length:=List.length_map ..
 have hga:=fun i hi=>Ze1 a (i:=i) hi
 have hgb:=fun i hi=>Ze1 b (i:=i) hi
 unfold cV at *
 generalize a.map rowL=A at *
 generalize b.map rowL=B at *
 by_cases hfg:f=g
 rotate_left
 · rw [decide_eq_false hfg,Bool.false_and] at hK
   simp [hfg]
   exact endK hK [] (by simp)
 subst hfg
 rw [decide_eq_true rfl,Bool.true_and] at hK
 by_cases hl:a.length=b.length
 rotate_left
 · have hne:¬a=b:=fun e=>hl (by rw [e])
   rw [decide_eq_false hne] at hK
   have hl':¬(a.length:Int)=(b.length:Int):=by omega
   simp [hla,hlb,hl,hl']
   exact endK hK [] (by simp)
 simp [hla,hlb,hl]
 refine Zay (α:=Nat) (fun i=>[(5,.int .i64 i),(3,.ptr 2 0 0),(2,.ptr 1 0 0)]) (fun _=>⟨[(1,.cells 2 [[.int .i64 f,.imm A]]),(2,.cells 2 [[.int .i64 f,.imm B]])],3⟩) (fun i=>a.length - i) (fun i=>i≤a.length∧(a.drop i=b.drop i)=(a=b)) 0 [] (by simp [hra,hrb]) (by simp) ?_
 rintro i ⟨hi,hI⟩ N hN
 try simp only at hi hN ⊢
 by_cases hlt:i<a.length
 · have ga:=hga i hlt
   have gb:=hgb i (by omega)
   obtain⟨_,ga2⟩:=getE ga
   obtain⟨_,gb2⟩:=getE gb
   have hw:IntKind.i64.wrap ((i:Int)+1)=(i:Int)+1:=Zad (by omega) (by omega)
   have he:=Z4x (at' a i) (at' b i)
   have l6a:(rowL (at' a i)).length=6:=rfl
   have l6b:(rowL (at' b i)).length=6:=rfl
   have t6a:(rowL (at' a i)).take 6=rowL (at' a i):=rfl
   have t6b:(rowL (at' b i)).take 6=rowL (at' b i):=rfl
   by_cases hab:at' a i=at' b i
   · have hN':=hN (i+1) []
     rw [hab] at he
     rw [decide_eq_true rfl] at he
     rw [Zxc hlt (by omega) hab] at hI
     rw [hab] at ga ga2
     generalize rowL (at' b i)=rb at *
     simp [hlt,hla,hlb,ga,gb,ga2,gb2,hw,l6b,t6b,he]
     exact hN' _ _ (by omega) ⟨by omega,hI⟩ (by simp [hra,hrb])
   · rw [decide_eq_false hab] at he
     have hne:¬a=b:=by
      rw [← hI]
      exact Zwu hlt (by omega) hab
     rw [decide_eq_false hne] at hK
     generalize rowL (at' a i)=ra at *
     generalize rowL (at' b i)=rb at *
     simp [hlt,hla,hlb,ga,gb,ga2,gb2,hw,l6a,l6b,t6a,t6b,he]
     exact endK hK [] (by simp)
 · have hie:i=a.length:=by omega
   have hyes:a=b:=by
    rw [← hI,List.drop_eq_nil_of_le (by omega),List.drop_eq_nil_of_le (by omega)]
   rw [decide_eq_true hyes] at hK
   simp [hlt,hla]
   exact endK hK [] (by simp)
end Go.Known
end
section
namespace Go.AE
open Go.RowKit
variable {P:Program}
end Go.AE
namespace Go.Known
open Go Go.AE Go.Proofs
open Go.Plain
theorem fz_cVi {get:Nat→Option ABlk} (f:Int) (L:List Lt):Zaj get 4 (cV f L)=some (cV f L):=by
 unfold cV
 rw [Zaj]
 simp only [mapO]
 rw [Zff (Zdr _)]
 rfl
end Go.Known
end
