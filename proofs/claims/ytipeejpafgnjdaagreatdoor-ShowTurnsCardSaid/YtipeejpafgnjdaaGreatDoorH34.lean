/- Part 34 of the proof: Yb, Si. -/
import Derived.Test.YtipeejpafgnjdaaGreatDoorH33
set_option linter.all false
section
namespace Go.Known
open Go.Plain
theorem Zlo{n u:Nat}(hu:u<n)(fw:Bool):bkN (U3 n u fw)=arr n u (!fw):=by
 unfold bkN U3 arr;cases fw
 ·simp only[bF,if_false,Bool.not_false,if_true];rw[if_neg (by omega)]
  omega
 ·simp only[if_true,Bool.not_true,bF,if_false];rw[if_pos (by omega)]
theorem Ztl{n u:Nat}(b:Bool):bkN (arr n u b)=U3 n u (!b):=by
 unfold bkN U3 arr;cases b
 ·simp only[bF,if_false,Bool.not_false,if_true];rw[if_neg (by omega)]
  omega
 ·simp only[if_true,Bool.not_true,bF,if_false];rw[if_pos (by omega)]
theorem Zo3(d:Nat):bkN (bkN d)=d:=by
 unfold bkN;split
 ·rw[if_neg (by omega)]; omega
 ·rw[if_pos (by omega)]; omega
theorem Zmf{n d:Nat}(h:d<2*n):bkN d<2*n:=by unfold bkN; split<;>omega
section
variable {ls:List Lt}
def smN(ls:List Lt)(v:Nat):Bool:=((at' ls v).o == ((at' ls v).s == 1))
abbrev otN(ls:List Lt)(v:Nat):Nat:=W1 ls v ls.length 0
theorem Zq8{v:Nat}(hv:v<ls.length)(hk:(at' ls v).k=2)(b:Bool):tnN ls (arr ls.length v b)=U3 ls.length (otN ls v) (b == smN ls v):=by
 unfold tnN;rw[Zff hv,if_pos hk];rfl
theorem Ze4{v:Nat}(hv:v<ls.length)(b:Bool):ldN ls (arr ls.length v b)=at' ls v:=by
 unfold ldN;rw[(Zer hv b).2.1]
def U5(ls:List Lt)(d:Nat):Nat:=bkN (tnN ls d)
theorem Zg1(hw:Wv ls){v:Nat}(hv:v<ls.length)(hk:(at' ls v).k=2)(b:Bool):U5 ls (arr ls.length v b)=arr ls.length (otN ls v) (b != smN ls v):=by
 have h1:=hw.oth v hv hk;unfold U5;rw[Zq8 hv hk,Zlo h1.1];rfl
theorem Z6n(hw:Wv ls){v:Nat}(hv:v<ls.length)(hk:(at' ls v).k=2):smN ls (otN ls v) = !smN ls v:=by
 obtain⟨h1,h2,h3,h4,h5⟩:=hw.oth v hv hk;unfold smN otN;rw[h4,h5];cases (at' ls v).o<;>cases ((at' ls v).s == 1)<;>rfl
theorem rot2(hw:Wv ls){v:Nat}(hv:v<ls.length)(hk:(at' ls v).k=2)(b:Bool):U5 ls (U5 ls (arr ls.length v b))=arr ls.length v (!b):=by
 obtain⟨h1,h2,h3,h4,h5⟩:=hw.oth v hv hk;rw[Zg1 hw hv hk,Zg1 hw h1 h2,Z6n hw hv hk];have:otN ls (otN ls v)=v:=h3;rw[this]
 congr 1
 cases b<;>cases smN ls v<;>rfl
theorem rot4(hw:Wv ls){d:Nat}(hd:d<2*ls.length)(hk:(ldN ls d).k=2):U5 ls (U5 ls (U5 ls (U5 ls d)))=d:=by
 obtain⟨v,b,hv,rfl⟩:=B5 hd;rw[Ze4 hv]at hk;rw[rot2 hw hv hk,rot2 hw hv hk,Bool.not_not]
theorem Zje(hw:Wv ls){d:Nat}(hd:d<2*ls.length)(hk:(ldN ls d).k=2):tnN ls d<2*ls.length∧U5 ls d<2*ls.length∧(ldN ls (U5 ls d)).k=2:=by
 obtain⟨v,b,hv,rfl⟩:=B5 hd;rw[Ze4 hv]at hk;obtain⟨h1,h2,h3,h4,h5⟩:=hw.oth v hv hk;have ht:tnN ls (arr ls.length v b)<2*ls.length:=by rw[Zq8 hv hk]; exact Zfd h1
 refine⟨ht,Zmf ht,?_⟩;rw[Zg1 hw hv hk,Ze4 h1];exact h2
theorem Zhr{n v v':Nat}{b b':Bool}(hv:v<n)(hv':v'<n)(h:arr n v b=arr n v' b'):v=v'∧b=b':=by
 obtain⟨_,h1,h2⟩:=Zer hv b;obtain⟨_,h3,h4⟩:=Zer hv' b';rw[h]at h1 h2;exact⟨h1.symm.trans h3,h2.symm.trans h4⟩
structure Frt (ls:List Lt) (front:List Nat) (done:List Int):Prop where
 nd:front.Nodup
 lt:∀ d,d∈front→d<2*ls.length
 tl:∀ d,d∈front→(ldN ls (bkN d)).k=2→(ldN ls (bkN d)).i∈done
theorem Z76(hw:Wv ls){d:Nat}(hd:d<2*ls.length)(hk:(ldN ls d).k=2)(hi:∀ v,v<ls.length→(at' ls v).k=2→(at' ls (W1 ls v ls.length 0)).i=(at' ls v).i):(ldN ls (bkN (tnN ls d))).i=(ldN ls d).i:=by
 obtain⟨v,b,hv,rfl⟩:=B5 hd;rw[Ze4 hv]at hk ⊢;have:=Zg1 hw hv hk b;unfold U5 at this;rw[this,Ze4 (hw.oth v hv hk).1];exact hi v hv hk
theorem Zip{l:List Nat}{i:Nat}(h:i<l.length):l.getD i 0∈l:=by
 rw[List.getD,gE h];exact List.getElem_mem _
theorem Z04(hw:Wv ls){front:List Nat}{done:List Int}(hF:Frt ls front done)(id:Int)(i:Nat):D0 ls id front (i+1)≤3:=by
 have step:∀ j,okF ls id front j=true→j<front.length→(ldN ls (front.getD j 0)).k=2∧U5 ls (front.getD j 0)=front.getD (j - 1) 0:=fun j h hj=>by
  simp only[okF,bA,decide_eq_true_eq]at h;refine⟨h.1.1,?_⟩;unfold U5;rw[h.2,Zo3]
 by_cases h1:i+1<front.length∧okF ls id front (i+1)=true
 ·rw[Zf7 h1.1 h1.2];by_cases h2:i+2<front.length∧okF ls id front (i+2)=true
  ·rw[Zf7 h2.1 h2.2];by_cases h3:i+3<front.length∧okF ls id front (i+3)=true
   ·rw[Zf7 h3.1 h3.2];by_cases h4:i+4<front.length∧okF ls id front (i+4)=true
    ·exfalso;have s1:=(step _ h1.2 h1.1).2;have s2:=(step _ h2.2 h2.1).2;have s3:=(step _ h3.2 h3.1).2;obtain⟨s5,s4⟩:=step _ h4.2 h4.1;have e1:i+1 - 1=i:=rfl;have e2:i+2 - 1=i+1:=rfl;have e3:i+3 - 1=i+2:=rfl;have e4:i+4 - 1=i+3:=rfl;rw[e1]at s1;rw[e2]at s2;rw[e3]at s3;rw[e4]at s4;have:=rot4 hw (hF.lt _ (Zip h4.1)) s5;rw[s4,s3,s2,s1]at this;have hne:=List.pairwise_iff_getElem.1 hF.nd i (i+4) (by omega) h4.1 (by omega)
     apply hne;rw[List.getD,List.getD,gE (show i<front.length by omega),gE h4.1]at this
     simpa using this
    ·rw[Zau h4]; omega
   ·rw[Zau h3]; omega
  ·rw[Zau h2]; omega
 ·rw[Zau h1]; omega
theorem Z63(hw:Wv ls)(hi:∀ v,v<ls.length→(at' ls v).k=2→(at' ls (W1 ls v ls.length 0)).i=(at' ls v).i):∀ k x,x<2*ls.length→(ldN ls x).k=2 → ∀ d,d∈U7 ls x k→d<2*ls.length∧(ldN ls (bkN d)).k=2∧(ldN ls (bkN d)).i=(ldN ls x).i:=by
 intro k
 induction k with
 | zero=>intro x _ _ d hd; simp[U7]at hd
 | succ k ih=>
  intro x hx hk d hd;obtain⟨t1,t2,t3⟩:=Zje hw hx hk;have t4:=Z76 hw hx hk hi;rcases List.mem_cons.1 hd with rfl|hd
  ·exact⟨t1,t3,t4⟩
  ·obtain⟨q1,q2,q3⟩:=ih _ t2 t3 d hd;exact⟨q1,q2,q3.trans t4⟩
theorem Z5r(hw:Wv ls)(hn:∀ v,v<ls.length→(at' ls v).k=2→W1 ls v ls.length 0≠v){x:Nat}(hx:x<2*ls.length)(hk:(ldN ls x).k=2){k:Nat}(h:k≤3):(U7 ls x k).Nodup:=by
 have bi:∀ a b,bkN a=bkN b→a=b:=fun a b e=>by rw[← Zo3 a,e,Zo3]
 have full:(U7 ls x 3).Nodup:=by
  obtain⟨v,b,hv,rfl⟩:=B5 hx;rw[Ze4 hv]at hk;obtain⟨h1,h2,h3,h4,h5⟩:=hw.oth v hv hk;have r1:=Zg1 hw hv hk b;have r2:=rot2 hw hv hk b;have r3:U5 ls (U5 ls (U5 ls (arr ls.length v b)))=arr ls.length (otN ls v) ((!b) != smN ls v):=by rw[r2,Zg1 hw hv hk]
  have ho:otN ls v≠v:=hn v hv hk;have e:U7 ls (arr ls.length v b) 3=[tnN ls (arr ls.length v b),tnN ls (U5 ls (arr ls.length v b)),tnN ls (U5 ls (U5 ls (arr ls.length v b)))]:=rfl;have n12:tnN ls (arr ls.length v b)≠tnN ls (U5 ls (arr ls.length v b)):=fun e=>by
   have:U5 ls (arr ls.length v b)=U5 ls (U5 ls (arr ls.length v b)):=by unfold U5 at e ⊢; rw[← e]
   rw[r2,r1]at this;exact ho (Zhr h1 hv this).1
  have n13:tnN ls (arr ls.length v b)≠tnN ls (U5 ls (U5 ls (arr ls.length v b))):=fun e=>by
   have:U5 ls (arr ls.length v b)=U5 ls (U5 ls (U5 ls (arr ls.length v b))):=by unfold U5 at e ⊢; rw[← e]
   rw[r3,r1]at this;have:=(Zhr h1 h1 this).2
   revert this
   cases b<;>cases smN ls v<;>simp
  have n23:tnN ls (U5 ls (arr ls.length v b))≠tnN ls (U5 ls (U5 ls (arr ls.length v b))):=fun e=>by
   have:U5 ls (U5 ls (arr ls.length v b))=U5 ls (U5 ls (U5 ls (arr ls.length v b))):=by unfold U5 at e ⊢; rw[← e]
   rw[r3,r2]at this;exact ho (Zhr hv h1 this).1.symm
  rw[e];simp[n12,n13,n23]
 have hs:List.Sublist (U7 ls x k) (U7 ls x 3):=by
  have e:∀ k y,List.Sublist (U7 ls y k) (U7 ls y (k+1)):=by
   intro k
   induction k with
   | zero=>intro y; exact List.nil_sublist _
   | succ k ih=>intro y; exact(ih _).cons_cons _
  have:∀ j,k+j=3→List.Sublist (U7 ls x k) (U7 ls x 3):=by
   intro j
   induction j generalizing k with
   | zero=>intro hj; rw[show k=3 by omega]; exact List.Sublist.refl _
   | succ j ih=>intro hj; exact(e k x).trans (ih (by omega) (by omega))
  exact this (3 - k) (by omega)
 exact List.Nodup.sublist hs full
theorem Frt.step(hw:Wv ls)(hi:∀ v,v<ls.length→(at' ls v).k=2→W1 ls v ls.length 0≠v∧(at' ls (W1 ls v ls.length 0)).i=(at' ls v).i){front f:List Nat}{done dn:List Int}{r:Rw}(hF:Frt ls front done)(h0:front≠[])(h:D1 4 ls front done=some (r,f,dn)):Frt ls f dn:=by
 have hpos:0<front.length:=List.length_pos_iff.2 h0;unfold D1 at h;split at h
 ·rename_i hc;simp only[oI,pI2]at h;obtain⟨_,rfl,rfl⟩:=h;have hs:List.Sublist (front.take (D5 front)++front.drop (D5 front+2)) front:=by
   have h1:List.Sublist (front.drop (D5 front+2)) (front.drop (D5 front)):=by
    rw[← List.drop_drop];exact List.drop_sublist _ _
   have h2:=List.Sublist.append (List.Sublist.refl (front.take (D5 front))) h1;rwa[List.take_append_drop]at h2
  exact⟨List.Nodup.sublist hs hF.nd,fun d hd=>hF.lt d (hs.subset hd),fun d hd=>hF.tl d (hs.subset hd)⟩
 ·split at h
  ·cases h
  ·rename_i hb;simp only[oI,pI2]at h;obtain⟨_,rfl,rfl⟩:=h;rcases Zhu (S2 4 ls done front) front.length with⟨h1,_,_⟩|⟨h1,h2,h3⟩
   ·exact absurd h1 hb
   ·obtain⟨k1,k2,k3⟩:=Zns (c:=4) (ls:=ls) (done:=done) (front:=front) (i:=(X5 (S2 4 ls done front) front.length).1) (by rw[h3]; exact h1)
    generalize (X5 (S2 4 ls done front) front.length).1=a at *;generalize (X5 (S2 4 ls done front) front.length).2=n at *;have hm:=hF.lt _ (Zip h2);have hout:=Z63 hw (fun v hv hk=>(hi v hv hk).2) (4 - n) _ hm k1
    have hnd:=Z5r hw (fun v hv hk=>(hi v hv hk).1) hm k1 (k:=4 - n) (by omega)
    have htake:∀ d,d∈front.take a→d∈front:=fun d hd=>List.mem_of_mem_take hd
    have hdrop:∀ d,d∈front.drop (a+n)→d∈front:=fun d hd=>List.mem_of_mem_drop hd
    have hdis:∀ d,d∈front→d∉U7 ls (front.getD a 0) (4 - n):=fun d hd ho=>by
     obtain⟨_,q2,q3⟩:=hout d ho;have:=hF.tl d hd q2;rw[q3]at this;exact k2 this
    have hsplit:(front.take a++front.drop (a+n)).Nodup:=by
     refine List.Nodup.sublist ?_ hF.nd;have h1:List.Sublist (front.drop (a+n)) (front.drop a):=by
      rw[← List.drop_drop];exact List.drop_sublist _ _
     have h2:=List.Sublist.append (List.Sublist.refl (front.take a)) h1;rwa[List.take_append_drop]at h2
    rw[List.nodup_append]at hsplit;refine⟨?_,fun d hd=>?_,fun d hd hk=>?_⟩
    ·rw[List.append_assoc,List.nodup_append];refine⟨hsplit.1,?_,fun x hx y hy=>?_⟩
     ·rw[List.nodup_append];exact⟨hnd,hsplit.2.1,fun x hx y hy e=>hdis y (hdrop y hy) (e ▸ hx)⟩
     ·rcases List.mem_append.1 hy with hy|hy
      ·exact fun e=>hdis x (htake x hx) (e ▸ hy)
      ·exact hsplit.2.2 x hx y hy
    ·rcases List.mem_append.1 hd with hd|hd
     ·rcases List.mem_append.1 hd with hd|hd
      ·exact hF.lt d (htake d hd)
      ·exact(hout d hd).1
     ·exact hF.lt d (hdrop d hd)
    ·rcases List.mem_append.1 hd with hd|hd
     ·rcases List.mem_append.1 hd with hd|hd
      ·exact List.mem_append_left _ (hF.tl d (htake d hd) hk)
      ·rw[(hout d hd).2.2]; simp
     ·exact List.mem_append_left _ (hF.tl d (hdrop d hd) hk)
theorem Zoy(ls:List Lt)(hk:∀ v,v<ls.length→(at' ls v).k≠2→(at' ls v).k=1):Frt ls (T2 ls) []:=by
 have hup:∀ v,v<ls.length→bkN (upN ls v)=arr ls.length v (down ls v):=fun v hv=>by
  unfold upN;rw[Zlo hv,Bool.not_not]
 refine⟨?_,fun d hd=>?_,fun d hd hk2=>?_⟩
 ·unfold T2;unfold List.Nodup;rw[List.pairwise_map];refine List.Pairwise.imp_of_mem (fun {a b} ha hb hne e=>hne ?_) (Zga ls)
  have ha:=(mem_axis.1 ha).1;have hb:=(mem_axis.1 hb).1;have e2:bkN (upN ls a)=bkN (upN ls b):=by rw[e]
  rw[hup a ha,hup b hb]at e2;exact(Zhr ha hb e2).1
 ·obtain⟨v,hv,rfl⟩:=List.mem_map.1 hd;exact Zfd (mem_axis.1 hv).1
 ·obtain⟨v,hv,rfl⟩:=List.mem_map.1 hd;obtain⟨h1,h2⟩:=mem_axis.1 hv;rw[hup v h1,Ze4 h1]at hk2;simp[isP,hk2]at h2
end
end Go.Known
end
section
namespace Go.Known
open Go Go.AE Go.Proofs
open Go.Plain
def lsV:Option (List Lt)→AVal
 | none=>.nilSl
 | some w=>.imm (w.map rowL)
theorem Zmt(q:Nat→Nat):∀ z,(lsV z).ren q=lsV z
 | none=>rfl
 | some w=>by simp only[lsV,AVal.ren]; rw[Y6 q _ (Z9 w)]
theorem Z84:∀ z,(lsV z).cells=some [lsV z]
 | none=>rfl
 | some _=>rfl
theorem Z6f:∀ z,AVal.one (lsV z)=true
 | none=>rfl
 | some _=>rfl
def Zei(ls:List Lt):Nat→List Lt
 | 0=>ls
 | _=>U4 ls
def Zgm(ls:List Lt):Nat→Option (List Lt)
 | 0=>none
 | 1=>I1 ls none ls.length
 | _=>Za9 ls
theorem Zwb(ls:List Lt):∀ i,(Zei ls i).length=ls.length
 | 0=>rfl
 | _+1=>Zhe ls
theorem Z57(ls:List Lt){i:Nat}(h:i<2):Zgm ls (i+1)=I1 (Zei ls i) (Zgm ls i) ls.length:=by
 rcases (show i=0∨i=1 by omega)with rfl|rfl<;>rfl
theorem Z0w(ls:List Lt){i:Nat}(h:i<2):∀ w,Zgm ls i=some w→w.length=ls.length:=by
 rcases (show i=0∨i=1 by omega)with rfl|rfl
 ·intro w hw; cases hw
 ·exact fun w hw=>Zrb rfl (fun w h=>by cases h) _ w hw
theorem Z41{R:List (List AVal)}(h:R≠[]):X6 .eql .slice (.imm R) .nilSl=some (.bool false):=by
 have:R.isEmpty=false:=by cases R with
  | nil=>exact absurd rfl h
  | cons=>rfl
 simp[X6,eqA,Zay,J1,this]
theorem Yci:X6 .eql .slice .nilSl .nilSl=some (.bool true):=rfl
set_option maxRecDepth 100000 in
set_option maxHeartbeats 16000000 in
theorem c109(F:Nat)(ls:List Lt)(E:List Ent)(h:ls.length≤1000)(hx:∃ i,i<ls.length∧bkC ls i=true)(hf:isP (at' ls 0)=true) :
 Ctr Tryz.prog 74 [.ptr 1 0 0] (dF F ls (ls.map rowL) E) fun v m=>v=.agg [.int .i64 F,lsV (Za9 ls)]∧m=⟨(dF F ls (ls.map rowL) E).bl,7⟩:=by
 refine J7 hm Tryz.func74 Zou rfl rfl fun K hK=>?_
 have hK':=hK _ _ ⟨rfl,rfl⟩;clear hK;have hlp:0<ls.length:=by obtain⟨i,hi,_⟩:=hx; omega
 have h139:=Zsd F ls E h hx;have hrr:∀ q,Z3 q (ls.map rowL)=ls.map rowL:=fun q=>Y6 q _ (Z9 ls)
 have hrb:∀ q,Z3 q ((U4 ls).map rowL)=(U4 ls).map rowL:=fun q=>Y6 q _ (Z9 _)
 have hrs:∀ i q,Z3 q ((Zei ls i).map rowL)=(Zei ls i).map rowL:=fun i q=>Y6 q _ (Z9 _)
 have hsl:∀ i,((Zei ls i).map rowL).length=ls.length:=fun i=>by rw[List.length_map,Zwb]
 obtain⟨BK,hBK⟩:∃ BK:List (List AVal),BK=[[.imm (ls.map rowL)],[.imm ((U4 ls).map rowL)]]:=⟨_,rfl⟩
 have hBl:BK.length=2:=by rw[hBK]; rfl
 have hBg:∀ i,i<2→BK[i]? = some [.imm ((Zei ls i).map rowL)]:=fun i hi=>by
  rw[hBK];rcases (show i=0∨i=1 by omega)with rfl|rfl<;>rfl
 have hBr:∀ q,Z3 q BK=BK:=fun q=>by
  rw[hBK];simp only[Z3,Q0,AVal.ren,hrr,hrb]
 unfold dF dM dV2 at *;generalize hBe:bls (X2 ls.length ls.length (V0 ls) false)=B at *;generalize hCe:Z0 (X2 ls.length ls.length (S6 ls) 0)=C at *;generalize hAe:Z0 (Z2 ls)=A at *;have hrA:∀ q,Z3 q A=A:=fun q=>by rw[← hAe]; exact Z5 q _
 have hrB:∀ q,Z3 q B=B:=fun q=>by rw[← hBe]; exact X7 q _
 have hrC:∀ q,Z3 q C=C:=fun q=>by rw[← hCe]; exact Z5 q _
 clear hBe hCe hAe;generalize (Z2 ls).length=m at *;have hl0:lsV (Zgm ls 0)=.nilSl:=rfl;have hl2:lsV (Zgm ls 2)=lsV (Za9 ls):=rfl;simp;refine Zea h139 (by simp) [(1,1),(2,2),(3,3),(4,4),(5,5),(6,6)] (by simp) (by simp[EqRB,hrr,hrA,hrB,hrC,Z7,Z5]) (by simp) (fun s=>by simp[hrb]) (by simp) ?_
 simp[hrr,hrA,hrB,hrC,Z7,Z5,hrb,FT.indep];refine T1 (α:=Nat) (fun i=>[(19,.int .i64 i),(18,.int .i64 2),(17,.sl 8 0 2),(3,lsV (Zgm ls i)),(2,.ptr 7 0 0),(0,.ptr 1 0 0)])
  (fun i=>⟨[(1,.cells 7 [[.int .i64 (F:Int),.imm (ls.map rowL),.sl 3 0 ls.length,.sl 5 0 m,.sl 4 0 ls.length,.map 6,.sl 2 0 (F+1)]]),(2,.cells 1 (Z0 (S7 F ls))),(3,.cells 1 B),(4,.cells 1 C),(5,.cells 1 A),(6,.map (mkE 0 E) E.length),(7,.cells 2 [[.int .i64 0,.nilSl]]),(8,.cells 1 BK)],9⟩)
  (fun i=>2 - i) (fun i=>i≤2) 0 [(8,16)] (by rw[hBK]; simp[hrr,hrb,hrA,hrB,hrC,Z7,Z5,hl0,AVal.ren]) (by simp) ?_
 intro i hi N hN
 try simp only at hi hN ⊢
 by_cases hlt:i<2
 ·have hb:=hBg i hlt;obtain⟨hbl,hb2⟩:=Y9 hb;have hw:IntKind.i64.wrap ((i:Int)+1)=(i:Int)+1:=Z6 (by omega) (by omega)
  have hlsc:=Z57 ls hlt;have hlen:=Z0w ls hlt;have hN':=hN (i+1);rw[hlsc]at hN';have hLl:=Zwb ls i;have hLR:=hsl i;have hLr:=hrs i;have hgL:=fun j hj=>C6 (Zei ls i) (i:=j) hj
  have h56:=fun j hj=>c56g (Zei ls i) j hj (by rw[hLl]; exact h)
  generalize Zgm ls i=z0 at *;generalize Zei ls i=L at *;clear hN hBK;have hlt':(i:Int)<2:=by omega
  simp[hlt,hlt',hb,hb2,hBl,hLR];have h140:=fun j=>c140 (V5 j L) (by
   intro e;have:=congrArg List.length e;rw[B1,hLl,List.length_nil]at this;omega) (by rw[B1]; omega)
  have h0d:down L 0=true:=rfl;have hcand:∀ j,O0 (V5 j L)=Q4 L j:=fun _=>rfl
  simp only[hcand]at h140;have hcl:∀ j,(Q4 L j).length=ls.length:=fun j=>by rw[Zna,hLl]
  have hnl:=fun j=>Zrb hLl hlen j
  have h00:lsV (I1 L z0 0)=lsV z0:=rfl;have hzr:=fun j q=>Zmt q (I1 L z0 j)
  have hds:∀ j,j<ls.length→down L (j+1)=if isP (at' L j)then !down L j else down L j:=fun j hj=>Zo5 (by omega)
  have hcr:∀ j q,Z3 q ((Q4 L j).map rowL)=(Q4 L j).map rowL:=fun j q=>Y6 q _ (Z9 _)
  have hrows:=fun q=>hrr q
  generalize ls.map rowL=rows at *;generalize L.map rowL=LR at *;refine T1 (α:=Nat) (fun j=>[(25,.int .i64 j),(24,.int .i64 ls.length),(23,.imm LR),(6,.bool (down L j)),(5,.imm LR),(19,.int .i64 i),(18,.int .i64 2),(17,.sl 8 0 2),(3,lsV (I1 L z0 j)),(2,.ptr 7 0 0),(0,.ptr 1 0 0)])
   (fun _=>⟨[(1,.cells 7 [[.int .i64 (F:Int),.imm rows,.sl 3 0 ls.length,.sl 5 0 m,.sl 4 0 ls.length,.map 6,.sl 2 0 (F+1)]]),(2,.cells 1 (Z0 (S7 F ls))),(3,.cells 1 B),(4,.cells 1 C),(5,.cells 1 A),(6,.map (mkE 0 E) E.length),(7,.cells 2 [[.int .i64 0,.nilSl]]),(8,.cells 1 BK)],9⟩)
   (fun j=>ls.length - j) (fun j=>j≤ls.length) 0 [] (by simp[hrows,hrA,hrB,hrC,Z7,Z5,hBr,hLr,h0d,h00,Zmt]) (by simp) ?_
  intro j hj N2 hN2
  try simp only at hj hN2 ⊢
  by_cases hjl:j<ls.length
  ·have hg:=hgL j (by omega)
   obtain⟨hgl,hg2⟩:=Y9 hg;have hwj:IntKind.i64.wrap ((j:Int)+1)=(j:Int)+1:=Z6 (by omega) (by omega)
   have hdj:=hds j hjl;have hN2':=hN2 (j+1) [];have hst:I1 L z0 (j+1)=Zcj L j (I1 L z0 j):=rfl;rw[hst,hdj]at hN2';have hnlj:=hnl j;have hzrj:=hzr j;generalize I1 L z0 j=z at *;unfold Zcj at hN2';by_cases hk:(at' L j).k=1
   ·have hP:isP (at' L j)=true:=by simp[isP,hk]
    rw[hP]at hN2';cases hd:down L j with
    | false=>
     rw[hd]at hN2';simp[hjl,hg,hg2,hLR,rowL,hk,hwj];simp only[Bool.true_and,bF,if_false,if_true,Bool.not_false]at hN2';exact hN2' _ _ (by omega) (by omega) (by simp[hrows,hrA,hrB,hrC,Z7,Z5,hBr,hLr,hzrj])
    | true=>
     rw[hd]at hN2';have h56':=h56 j (by omega)
     have h140':=h140 j;have hcrj:=hcr j;cases z with
     | none=>
      simp only[Bool.and_self,if_true,lsV,Bool.not_true]at hN2';generalize (Q4 L j).map rowL=C1 at *;simp[hjl,hg,hg2,hLR,rowL,hk,hwj,lsV];refine W3 h56' ?_;simp;refine W3 h140' ?_;simp[Yci,hwj];exact hN2' _ _ (by omega) (by omega) (by simp[hrows,hrA,hrB,hrC,Z7,Z5,hBr,hLr,hcrj])
     | some w=>
      have hwl:w.length=ls.length:=hnlj w rfl;have h141:=c141 (Q4 L j) w (by rw[hcl,hwl]; exact Nat.le_refl _) (by omega)
      have hwr:∀ q,Z3 q (w.map rowL)=w.map rowL:=fun q=>Y6 q _ (Z9 w)
      have hni:=Z41 (R:=w.map rowL) (by
       intro e;have:=congrArg List.length e;rw[List.length_map,List.length_nil]at this;omega)
      simp only[Bool.and_self,if_true,Bool.not_true]at hN2';cases hlw:J4 (Q4 L j) w with
      | true=>
       rw[hlw]at hN2' h141;simp only[if_true,lsV]at hN2';generalize (Q4 L j).map rowL=C1 at *;rw[show lsV (some w)=.imm (w.map rowL) from rfl]
       generalize w.map rowL=W at *;simp[hjl,hg,hg2,hLR,rowL,hk,hwj,lsV];refine W3 h56' ?_;simp;refine W3 h140' ?_;simp[hni];refine W3 h141 ?_;simp[hwj];exact hN2' _ _ (by omega) (by omega) (by simp[hrows,hrA,hrB,hrC,Z7,Z5,hBr,hLr,hcrj])
      | false=>
       rw[hlw]at hN2' h141;simp only[bF,if_false,lsV]at hN2';generalize (Q4 L j).map rowL=C1 at *;rw[show lsV (some w)=.imm (w.map rowL) from rfl]
       generalize w.map rowL=W at *;simp[hjl,hg,hg2,hLR,rowL,hk,hwj,lsV];refine W3 h56' ?_;simp;refine W3 h140' ?_;simp[hni];refine W3 h141 ?_;simp[hwj];exact hN2' _ _ (by omega) (by omega) (by simp[hrows,hrA,hrB,hrC,Z7,Z5,hBr,hLr,hwr])
   ·have hP:isP (at' L j)=false:=by simp[isP,hk]
    rw[hP]at hN2';simp only[Bool.false_and,bF,if_false]at hN2';simp[hjl,hg,hg2,hLR,rowL,hk,hwj];exact hN2' _ _ (by omega) (by omega) (by simp[hrows,hrA,hrB,hrC,Z7,Z5,hBr,hLr,hzrj])
  ·have hje:j=ls.length:=by omega
   rw[hje];simp[hw];exact hN' [] _ _ (by omega) (by omega) (by simp[hrows,hrA,hrB,hrC,Z7,Z5,hBr,Zmt])
 ·have hie:i=2:=by omega
  subst hie;rw[hl2];have hrz:=fun q=>Zmt q (Za9 ls)
  have hz1:=Z84 (Za9 ls);have hz2:=Z6f (Za9 ls);generalize lsV (Za9 ls)=Z at *;simp[hz1,hz2];exact Y1 hK' [] (by simp[hrr,hrA,hrB,hrC,Z7,Z5,hrz])
end Go.Known
end
