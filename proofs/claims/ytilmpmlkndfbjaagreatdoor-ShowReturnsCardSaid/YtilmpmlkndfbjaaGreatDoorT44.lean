/- Part 44 -/
import Derived.Test.YtilmpmlkndfbjaaGreatDoorT43
set_option linter.all false
open List (range getD map_map getElem?_eq_none range_succ)
namespace Go.Ad
open Go.Plain
section
variable {ls:List Lt}
theorem Dr.pieces(p:Wv ls){Mb:Nat->Prop}{A:Nat}{f:List Int}{front:List Nat}{done:List Int}{e:List Nat}{c:Nat}(h:Dr ls Mb A f front done e c)
 (m:front≠[] -> ∀i,i+1<front.length->front.getD (i+1) 0≠Av (front.getD i 0)) :
 ∃S:List (List Nat),(∀s,s∈S->Kv (DM ls) s)/\S.flatten.Perm e/\S.length+(S.filter (KN (DM ls))).length+2*f.length<=Z0 ls+2*done.length+(if front=[]then 2 else 1):=by
 have g:=h.cnt;by_cases b:front=[]
 ·subst b;obtain⟨S,j,k,q⟩:=h.gT.done;refine⟨S,λs o=>(j s o).seg.1,k,?_⟩;grind
 have l:Cl (DM ls) (2*ls.length+2*Z0 ls):=pV p;obtain⟨S,j,k,q,t⟩:=h.gT.stuck (N:=2*ls.length+2*Z0 ls) l.inj (λa r=>by unfold Av;split<;>omega) b (λd n=>by have:=(h.fd d n).2;omega) (m b);grind
theorem Yih{l:List Nat}{i:Nat}(h:i<l.length):l.reverse.getD i 0=l.getD (l.length-1-i) 0:=by
 grind
theorem Z8u{l:List Int}{c:Nat}(hn:l.Nodup)(h:∀z,z∈l->1<=z/\z<=(c:Nat)):l.length<=c:=by
 have:=List.Nodup.length_le_of_subset (l₁:=l) (l₂:=(range c).map λi:Nat=>(i:Int)+1) hn λz a=>by
  obtain⟨b,d⟩:=h z a;exact mM.2 ⟨(z-1).toNat,mR.2 (by omega),by omega⟩
 simpa using this
def tI(ls:List Lt)(d0:List Int):List Nat×List Int:=A0 ls (En ls (Y4 ls) d0+1) (Y4 ls) d0
theorem iT(e:Wv ls)(a:List Int):Mm ls (Y4 ls) a:=by
 have:=WM ls e.Cs;exact⟨this.nd,this.lt,λd b c=>absurd (this.tl d b c) (by simp)⟩
theorem oV{f:Int}(m:AH f ls)(h0:ls≠[]):(tI ls []).1=[]:=by
 have n:=m.wv h0;have V:=m.wu h0;obtain⟨g,ai⟩:=z6 m h0;have hy:=(m.IL h0).1;have Z:=zl m h0;have KR:=hy.wv Z;have X:=hy.wu Z;have S:(Bi ls).length=ls.length:=E8;obtain⟨y,av⟩:∃y,y=Bi ls:=⟨_,rfl⟩;rw[<-av]at g ai hy Z KR X S;generalize a0:CN ls.length (BP ls ls.length)=ρ at *;generalize wP:KS ls.length (BP ls ls.length)=σ at *;have hi:∀v,v<ls.length->(at' y (ρ v)).i=(at' ls v).i:=λv m=>by rw[ai v m,Ft]
 obtain⟨U,hU⟩:∃U:List Nat->List Int->Prop,U=λfr dn=>Mm ls fr dn /\ ∃CR c,Dr ls (Kk ls) (2*ls.length+2*(Z0 ls-1)) [] fr dn CR c:=⟨_,rfl⟩;have ah:∀f d r P N,U f d->f≠[]->O5 4 ls f d=some (r,P,N)->U P N:=λf d r P N h hf I=>by
  rw[hU]at h ⊢;obtain⟨o,CR,c,Q⟩:=h;exact⟨o.step n (λv D h4=>m.CK D h4) hf I,Q.step V (WY n) (jQ V o.lt hf I)⟩
 have ag:U (Y4 ls) []:=by
  rw[hU];exact⟨iT n _,_,_,s6 n [] (by simp)⟩
 have u1:=eV ah (En ls (Y4 ls) []+1) _ _ ag;have u2:=nV ah (λf d h=>by rw[hU]at h;exact h.1.lt) (En ls (Y4 ls) []+1) _ _ ag (Nat.lt_succ_self _);show(A0 ls (En ls (Y4 ls) []+1) (Y4 ls) []).1=[];generalize (A0 ls (En ls (Y4 ls) []+1) (Y4 ls) []).1=fu at *;generalize (A0 ls (En ls (Y4 ls) []+1) (Y4 ls) []).2=B at *;rw[hU]at u1;obtain⟨uF,dU,cU,J⟩:=u1;obtain⟨L,hL⟩:∃L:List Nat->List Int->Prop,L=λfr dn=>Mm y fr dn /\ ∃CR c,Dr ls (PM ls) (2*ls.length+2*(Z0 ls-1)+1) B (fr.map (th σ)).reverse dn CR c:=⟨_,rfl⟩;have af:∀f d r P N,L f d->f≠[]->O5 4 y f d=some (r,P,N)->L P N:=λf d r P N h hf I=>by
  rw[hL]at h ⊢;obtain⟨o,CR,c,Q⟩:=h;exact⟨o.step KR (λv D h4=>hy.CK D h4) hf I,Q.step V (kJ n) (Kw.Uh g X hi (jQ X o.lt hf I))⟩
 have ae:L (Y4 y) B:=by
  rw[hL];refine⟨iT KR _,(range (Z0 ls)).map (λp=>2*ls.length+2*p+1)++L9 ls,0,?_⟩;rw[Z5p g KR.Cs];exact Yln n B J.gI
 have l1:=eV af (En y (Y4 y) B+1) _ _ ae;have l2:=nV af (λf d h=>by rw[hL]at h;exact h.1.lt) (En y (Y4 y) B+1) _ _ ae (Nat.lt_succ_self _);generalize (A0 y (En y (Y4 y) B+1) (Y4 y) B).1=fl at *;generalize (A0 y (En y (Y4 y) B+1) (Y4 y) B).2=dl at *;rw[hL]at l1;obtain⟨lF,dL,cL,C⟩:=l1;have an:∀(z:List Lt),AH f z -> ∀d,d<2*z.length->(Ay z d).k=2->(Ay z d).i≠0:=λz hz d A q=>by
  have:=(Ik q).1 (hz.Ea _ (eA A));omega
 have uN:fu≠[]->(∀i,i+1<fu.length->fu.getD (i+1) 0≠Av (fu.getD i 0)) /\ ∀d,d∈fu->(Ay ls d).k=2->(Ay ls d).i∈B:=λhn=>zo hn (u2.resolve_left hn) λd A=>an ls m d (uF.lt d A);have lN:fl≠[]->(∀i,i+1<fl.length->fl.getD (i+1) 0≠Av (fl.getD i 0)) /\ ∀d,d∈fl->(Ay y d).k=2->(Ay y d).i∈dl:=λhn=>zo hn (l2.resolve_left hn) λd A=>an y hy d (lF.lt d A);have ao:(fl.map (th σ)).reverse≠[] -> ∀i,i+1<(fl.map (th σ)).reverse.length->(fl.map (th σ)).reverse.getD (i+1) 0≠Av ((fl.map (th σ)).reverse.getD i 0):=λhn i hi e=>by
  have au:fl≠[]:=λe=>hn (by rw[e];rfl);rw[List.length_reverse,lM]at hi;have M:∀j,j<fl.length->(fl.map (th σ)).reverse.getD j 0=th σ (fl.getD (fl.length-1-j) 0)/\fl.getD (fl.length-1-j) 0<2*ls.length:=λj hj=>by
   rw[Yih (by rw[lM];exact hj),lM,getD,gM,gE (by omega)];refine⟨?_,?_⟩
   ·rw[getD,gE (by omega)];rfl
   rw[<-S];exact lF.lt _ (Kz (by omega))
  obtain⟨a1,a2⟩:=M (i+1) hi;obtain⟨b1,b2⟩:=M i (by omega);rw[a1,b1,<-UM]at e;have inj:∀a b,a<2*ls.length->b<2*ls.length->th σ a=th σ b->a=b:=λa b E l e=>by
   obtain⟨u,c,V,rfl⟩:=L4 E;obtain⟨w,c',Y,rfl⟩:=L4 l;rw[Sj g V,Sj g Y]at e;obtain⟨O,e2⟩:=Jf (g.Fz u V) (g.Fz w Y) e;have:u=w:=by rw[<-g.inr u V,O,g.inr w Y]
   rw[this,e2]
  have e3:=inj _ _ a2 (JS b2) e;have e4:=(lN au).1 (fl.length-1-(i+1)) (by omega);rw[show fl.length-1-(i+1)+1=fl.length-1-i by omega]at e4;apply e4;rw[e3,K3]
 obtain⟨SU,ay,ab,a2⟩:=J.pieces n λhn=>(uN hn).1;obtain⟨SL,ax,aa,a1⟩:=C.pieces n ao;have tail:∀v,v<ls.length->(at' ls v).k=2->(at' ls v).i∈dl->2*v∈dU\/2*v∈dL:=λv m q hm=>by
  have l:Av (2*v)=arr ls.length v false:=by
   have:=JZ m true;simpa[Y5]using this
  by_cases H:(at' ls v).i∈B
  ·exact .inl ((J.GH _).2 (.inr ⟨by omega,by rw[l,K1 m];exact q,by rw[l,K1 m];exact H,by simp⟩))
  exact .inr ((C.GH _).2 (.inr ⟨by omega,by rw[l,K1 m];exact q,by rw[l,K1 m];exact hm,by rw[l,K1 m];exact H⟩))
 have ac:∀v,v<ls.length->(at' ls v).k=1->2*v∈dU\/2*v∈dL:=λv m q=>by
  cases A:down ls v with
  |false=>
   refine .inl ((J.GH _).2 (.inl (.inr ((IX n.Cs).1.2 ⟨v,m,q,?_⟩))));unfold Ca Y5;rw[A];rfl
  |true=>
   refine .inr ((C.GH _).2 (.inl (.inr ((IX n.Cs).2.2 ⟨v,m,q,?_⟩))));unfold Fe Y5;rw[A];rfl
 have aw:∀v,v+1<ls.length->Ay ls (2*v)=at' ls (v+1)/\Ay ls (Av (Av (2*v)))=at' ls (v+1):=λv m=>by
  have o:Ay ls (2*v)=at' ls (v+1):=by
   unfold Ay V2;rw[iP (by omega),show 2*v / 2=v by omega,Nat.mod_eq_of_lt m]
  exact⟨o,by rw[K3];exact o⟩
 have ad:∀v,v<ls.length->(at' ls v).k=2->(at' ls v).i∈dl:=by
  intro v;induction v with
  |zero=>
   intro _ q;have:=m.fst;omega
  |succ v ih=>
   intro G q;obtain⟨O,e2⟩:=aw v G;have am:2*v∈dU\/2*v∈dL:=by
    rcases Decidable.em ((at' ls v).k=2)with K|K
    ·exact tail v (by omega) K (ih (by omega) K)
    exact ac v (by omega) (n.Cs v (by omega) K)
   rcases am with hm|hm
   ·rcases J.jn _ hm (by omega)with o|o
    ·have T:fu≠[]:=λe=>by rw[e]at o;cases o
     have:=(uN T).2 _ o (by rw[O];exact q);rw[O]at this;exact C.sub _ this
    rcases (J.GH _).1 o with Q|⟨_,_,D,_⟩
    ·exact absurd (by rw[e2];exact q) (WY n _ Q (JS (by omega)))
    rw[e2]at D;exact C.sub _ D
   rcases C.jn _ hm (by omega)with o|o
   ·rw[List.mem_reverse]at o;obtain⟨d,A,e⟩:=mM.1 o;have T:fl≠[]:=λe=>by rw[e]at A;cases A
    have t:=lF.lt d A;rw[S]at t;obtain⟨w,w1,w2,w3⟩:=yj g t;rw[e,O]at w2;have:=(lN T).2 d A (by rw[w3,g.Cs w w1,<-w2];exact q);rw[w3,hi w w1,<-w2]at this;exact this
   rcases (C.GH _).1 o with Q|⟨_,_,D,_⟩
   ·exact absurd (by rw[e2];exact q) (kJ n _ Q (JS (by omega)))
   rw[e2]at D;exact D
 have hC:yG (DM ls) (2*ls.length+2*Z0 ls) (SU++SL):=by
  refine⟨λs I=>?_,?_,λd=>?_⟩
  ·rcases List.mem_append.1 I with I|I
   ·exact ay s I
   exact ax s I
  ·rw[List.flatten_append,List.nodup_append];refine⟨ab.nodup_iff.2 J.nd,aa.nodup_iff.2 C.nd,λa E b l e=>?_⟩;subst e;have E:=(J.GH a).1 (ab.mem_iff.1 E);have l:=(C.GH a).1 (aa.mem_iff.1 l);rcases E with E|⟨a1,a2,a3,_⟩
   ·rcases l with l|⟨b1,b2,b3,b4⟩
    ·rcases E with E|E
     ·rcases l with l|l
      ·omega
      obtain⟨v,v1,_,rfl⟩:=(IX n.Cs).2.1 l;have:Fe ls v<2*ls.length:=HJ v1;omega
     obtain⟨u,o,_,O⟩:=(IX n.Cs).1.1 E;rcases l with l|l
     ·have:Ca ls u<2*ls.length:=HJ o;omega
     obtain⟨w,D,_,e3⟩:=(IX n.Cs).2.1 l;rw[O]at e3;obtain⟨q1,q2⟩:=J4 o D e3;subst q1;revert q2;cases down ls u<;>simp
    exact WY n a E b1 b2
   rcases l with l|⟨b1,b2,b3,b4⟩
   ·exact kJ n a l a1 a2
   exact b4 a3
  rw[List.flatten_append,List.mem_append,ab.mem_iff,aa.mem_iff,J.GH,C.GH];constructor
  ·intro A;by_cases G:d<2*ls.length
   ·obtain⟨v,b,Fh,e⟩:=L4 (JS G);have aj:d=Y5 ls.length v (!b):=by rw[<-K3 d,e,KF]
    have F:Ay ls (Av d)=at' ls v:=by rw[e,K1 Fh]
    rcases Decidable.em ((at' ls v).k=2)with q|q
    ·by_cases H:(at' ls v).i∈B
     ·exact .inl (.inr ⟨G,by rw[F];exact q,by rw[F];exact H,by simp⟩)
     exact .inr (.inr ⟨G,by rw[F];exact q,by rw[F];exact ad v Fh q,by rw[F];exact H⟩)
    have ak:=n.Cs v Fh q;by_cases l:b=down ls v
    ·refine .inl (.inl (.inr ((IX n.Cs).1.2 ⟨v,Fh,ak,?_⟩)));unfold Ca;rw[aj,l]
    refine .inr (.inl (.inr ((IX n.Cs).2.2 ⟨v,Fh,ak,?_⟩)));unfold Fe;rw[aj]
    congr 1
    revert l;cases b<;>cases down ls v<;>simp
   rcases Nat.mod_two_eq_zero_or_one d with e|e
   ·exact .inl (.inl (.inl ⟨by omega,A,e⟩))
   exact .inr (.inl (.inl ⟨by omega,A,e⟩))
  have t:∀v b,v<ls.length->Y5 ls.length v b<2*ls.length+2*Z0 ls:=λv b m=>by
   have:=HJ m (fw:=b);omega
  rintro((h|h)|h)
  ·rcases h with h|h
   ·exact h.2.1
   obtain⟨v,v1,_,rfl⟩:=(IX n.Cs).1.1 h;exact t v _ v1
  ·omega
  rcases h with(h|h)|h
  ·exact h.2.1
  ·obtain⟨v,v1,_,rfl⟩:=(IX n.Cs).2.1 h;exact t v _ v1
  omega
 have al:=Yjm (show Cl (DM ls) _ from pV n) hC;rw[lA,List.filter_append,lA]at al;have aq:H0 (DM ls) (2*ls.length+2*Z0 ls)=Z0 ls+X6 ls / 2+2:=m.Gu;rw[aq]at al;have az:dl.length<=X6 ls / 2:=Z8u C.gI λz hz=>by
  have:∃v,v<ls.length/\(at' ls v).k=2/\(at' ls v).i=z:=by
   rcases C.ids z hz with h|h
   ·rcases J.ids z h with h|h
    ·cases h
    exact h
   exact h
  obtain⟨v,v1,v2,rfl⟩:=this;have:=(Ik v2).1 (m.Ea _ (P4 v1));exact⟨this.2.2.2.1,this.2.2.2.2.1⟩
 grind
end
section
variable {ls:List Lt}
theorem Zxy(c:Wu ls){u:Nat}(g:u<2*ls.length)(f:(Ay ls u).k=2):∀j,it (Z8 ls) j u<2*ls.length/\(Ay ls (it (Z8 ls) j u)).k=2/\(Ay ls (it (Z8 ls) j u)).i=(Ay ls u).i
 |0=>⟨g,f,rfl⟩
 |j+1=>by
  obtain⟨d,e,h⟩:=Zxy c g f j;obtain⟨_,l,m⟩:=UN c.w d e;exact⟨l,m,(Zv9 c.w d e λv a b=>(c.ne v a b).2).trans h⟩
theorem Zzf(ls:List Lt):∀(k x:Nat),U8 ls x k=(range k).map λj=>Av (it (Z8 ls) (j+1) x)
 |0,_=>rfl
 |k+1,x=>by
  rw[List.range_succ_eq_map,List.map_cons,map_map];show CX ls x::U8 ls (Z8 ls x) k=_;rw[Zzf ls k (Z8 ls x)]
  congr 1
  ·show CX ls x=Av (Z8 ls x);unfold Z8;rw[K3]
  refine List.map_congr_left λj _=>?_;show Av (it (Z8 ls) (j+1) (Z8 ls x))=Av (it (Z8 ls) (j+1+1) x);rw[KK];rfl
theorem Yli(A:Wu ls){front f:List Nat}{done dn:List Int}{r:Rw}(p:∀d,d∈front->d<2*ls.length)(v:front≠[])(h:O5 4 ls front done=some (r,f,dn)) :
 (∃i,r=(1,i,0,false)/\i+1<front.length/\Av (front.getD i 0)=front.getD (i+1) 0/\f=front.take i++front.drop (i+2)/\dn=done) \/
 (∃a n,r=(2,a,n,(Ay ls (front.getD a 0)).o)/\1<=n/\n<=4/\a+n<=front.length/\(Ay ls (front.getD a 0)).k=2/\(Ay ls (front.getD a 0)).i∉done /\
   (∀i,i<n->front.getD (a+i) 0=it (Z8 ls) (4-i) (front.getD a 0))/\f=front.take a++U8 ls (front.getD a 0) (4-n)++front.drop (a+n)/\dn=done++[(Ay ls (front.getD a 0)).i]):=by
 have s:0<front.length:=List.length_pos_iff.2 v;unfold O5 at h;split at h
 ·rename_i z;simp only[oI,AT]at h;obtain⟨rfl,rfl,rfl⟩:=h;have b:=iD (Pj front) (front.length-1) 0 (by
   have:L7 front<front.length-1:=z;unfold L7 at this;omega)
  have q:front.getD (L7 front) 0=Av (front.getD (L7 front+1) 0):=of_decide_eq_true b;exact .inl ⟨L7 front,rfl,by omega,by rw[q,K3],rfl,rfl⟩
 split at h
 ·cases h
 rename_i y;simp only[oI,AT]at h;obtain⟨rfl,rfl,rfl⟩:=h;rcases QE (U6 4 ls done front) front.length with⟨b,_,_⟩|⟨b,q,j⟩
 ·exact absurd b y
 obtain⟨t,C,D⟩:=Um (c:=4) (ls:=ls) (done:=done) (front:=front) (i:=(W1 (U6 4 ls done front) front.length).1) (by rw[j];exact b);generalize (W1 (U6 4 ls done front) front.length).1=a at *;generalize (W1 (U6 4 ls done front) front.length).2=n at *;have g:n<=1+D0 ls (Ay ls (front.getD a 0)).i front (a+1)/\n<=4:=by
  unfold U6 at j;rw[D]at j;split at j
  ·omega
  omega
 obtain⟨E,u⟩:=nF (ls:=ls) (id:=(Ay ls (front.getD a 0)).i) (front:=front) (n-1) (a+1) (by omega) (by omega);have e:∀i,i+1<n->(Ay ls (front.getD (a+(i+1)) 0)).k=2/\Z8 ls (front.getD (a+(i+1)) 0)=front.getD (a+i) 0:=λi hi=>by
  have:=u i (by omega);simp only[okF,bA,decide_eq_true_eq]at this;rw[show a+1+i=a+(i+1) by omega,show a+(i+1)-1=a+i by omega]at this;refine⟨this.1.1,?_⟩;unfold Z8;rw[this.2,K3]
 have l:∀i,i<n->it (Z8 ls) i (front.getD (a+i) 0)=front.getD a 0:=by
  intro i;induction i with
  |zero=>intro _;rfl
  |succ i B=>
   intro hi;have:=KK (Z8 ls) i (front.getD (a+(i+1)) 0);show Z8 ls (it (Z8 ls) i _)=_;rw[<-this,(e i hi).2];exact B (by omega)
 refine .inr ⟨a,n,rfl,by omega,g.2,by omega,t,C,λi hi=>?_,rfl,rfl⟩;rw[<-l i hi,<-Sq,show 4-i+i=4 by omega];have m:(Ay ls (front.getD (a+i) 0)).k=2:=by
  cases i with
  |zero=>exact t
  |succ i=>exact (e i hi).1
 exact(Qd A.w (p _ (Kz (by omega))) m).symm
end
structure Pr (x y:List Lt) (fp P:List (Nat×Nat)) (dx:List Int):Prop where
 fr:∀ p,p∈fp→p∈P
 jn:∀ p,p∈P→p∈fp∨(Av p.1,Av p.2)∈P
 lt:∀ p,p∈P→p.1<2*x.length∧p.2<2*y.length
 kd:∀ p,p∈P→(Ay x (Av p.1)).k=(Ay y (Av p.2)).k
 rt:∀ p,p∈P→(Ay x (Av p.1)).k=2→(CX x (Av p.1),CX y (Av p.2))∈P∧(Ay x (Av p.1)).o=(Ay y (Av p.2)).o∧(Ay x (Av p.1)).i∈dx
 fn:∀ p q,p∈P→q∈P→p.1=q.1→p.2=q.2
 ps:∀ p,p∈P→(Ay x (Av p.1)).k≠2 → ∃ i,i<Z0 x∧p=(Ca x ((Z2 x).getD i 0),Ca y ((Z2 y).getD i 0))
theorem cM{l:List (Nat×Nat)}{i:Nat}(h:i<l.length):(l.map Prod.fst).getD i 0=l[i].1/\(l.map Prod.snd).getD i 0=l[i].2:=by
 rw[getD,getD,gM,gM,gE h];exact⟨rfl,rfl⟩
section
variable {x y:List Lt} (hx:Wu x) (hy:Wu y)
include hx hy
omit hx hy in
omit hx hy in
theorem eD(ls:List Lt):Y4 ls=(range (Z0 ls)).map λi=>Ca ls ((Z2 ls).getD i 0):=by
 unfold Y4;apply List.ext_getElem?;intro i;rw[gM,gM];by_cases h:i<Z0 ls
 ·have a:i<(Z2 ls).length:=by rw[Q7];exact h
  rw[gE a,List.getElem?_range h];show some (Ca ls (Z2 ls)[i])=some (Ca ls ((Z2 ls).getD i 0));rw[getD,gE a];rfl
 rw[getElem?_eq_none (by rw[Q7];omega),getElem?_eq_none (by rw[List.length_range];omega)];rfl
end
structure Rl (x y:List Lt) (sd:Bool) (R:Nat→Nat→Prop):Prop where
 bk:∀ d d',R d d'→R (Av d) (Av d')
 lt:∀ d d',R d d'→d<2*x.length∧d'<2*y.length
 kd:∀ v b w b',v<x.length→w<y.length→R (Y5 x.length v b) (Y5 y.length w b')→(at' x v).k=(at' y w).k
 tn:∀ v b w b',v<x.length→w<y.length→R (Y5 x.length v b) (Y5 y.length w b')→(at' x v).k=2 →
  R (Y5 x.length (BY x v) (((!b) == Cw x v) == sd)) (Y5 y.length (BY y w) (((!b') == Cw y w) == sd))∧(at' x v).o=(at' y w).o
 fn:∀ d d1 d2,R d d1→R d d2→d1=d2
 ps:∀ v b w b',v<x.length→w<y.length→R (Y5 x.length v b) (Y5 y.length w b')→(at' x v).k≠2 → ∃ i,i<Z0 x∧v=(Z2 x).getD i 0∧w=(Z2 y).getD i 0∧b=(down x v != sd)∧b'=(down y w != sd)
 Mb:∀ i,i<Z0 x→R (Y5 x.length ((Z2 x).getD i 0) (down x ((Z2 x).getD i 0) != sd)) (Y5 y.length ((Z2 y).getD i 0) (down y ((Z2 y).getD i 0) != sd))
theorem oJ{ls:List Lt}{v:Nat}(a:v<ls.length)(b:Bool):Ay ls (Av (Y5 ls.length v b))=at' ls v:=by
 rw[JZ a,K1 a]
section
variable {x y:List Lt}
theorem Ylu(ls:List Lt):L9 ls=(range (Z0 ls)).map λi=>Fe ls ((Z2 ls).getD i 0):=by
 unfold L9;apply List.ext_getElem?;intro i;rw[gM,gM];by_cases h:i<Z0 ls
 ·have a:i<(Z2 ls).length:=by rw[Q7];exact h
  grind
 rw[getElem?_eq_none (by rw[Q7];omega),getElem?_eq_none (by grind)];rfl
theorem Ye9{a:List Lt}{ρ σ:Nat->Nat}(h:RK x a ρ σ true)(c:∀v,v<a.length->(at' a v).k≠2->(at' a v).k=1){i:Nat}(hi:i<Z0 x):th σ (Ca a ((Z2 a).getD i 0))=Fe x ((Z2 x).getD i 0):=by
 have b:=Z5p h c;rw[eD,Ylu,h.Eo,map_map]at b;simp_all
theorem Yhd{l:List Lt}{ρ σ:Nat->Nat}(h:RK x l ρ σ true):∀a b,a<2*x.length->b<2*x.length->th σ a=th σ b->a=b:=λa b j k e=>by
 obtain⟨u,c,f,rfl⟩:=L4 j;obtain⟨w,c',d,rfl⟩:=L4 k;rw[Sj h f,Sj h d]at e;obtain⟨g,i⟩:=Jf (h.Fz u f) (h.Fz w d) e;have:u=w:=by rw[<-h.inr u f,g,h.inr w d]
 rw[this,i]
end
def M8(ls:List Lt)(v:Nat):Bool:=decide (Z0 (ls.take (v+1)) % 2=0)
theorem qj{n v:Nat}(a:v+1<n):Y5 n (v+1) false=2*v+1/\Y5 n (v+1) true=2*(v+1):=by
 unfold Y5;simp only[bF,if_false,if_true];rw[OS a,iN (by omega)];grind
theorem eR(v:Nat):Av (2*v)=2*v+1:=by unfold Av;rw[iP (by omega)]
theorem Ykd{f:Int}{ls:List Lt}(b:AH f ls)(j:ls≠[]):∃done a c,Dr ls (Kk ls) (2*ls.length+2*(Z0 ls-1)) [] [] done a c:=by
 have e:=b.wv j;have q:=b.wu j;obtain⟨U,n⟩:∃U:List Nat->List Int->Prop,U=λfr dn=>Mm ls fr dn /\ ∃a c,Dr ls (Kk ls) (2*ls.length+2*(Z0 ls-1)) [] fr dn a c:=⟨_,rfl⟩;have l:∀f d r i g,U f d->f≠[]->O5 4 ls f d=some (r,i,g)->U i g:=λf d r i g h o p=>by
  rw[n]at h ⊢;obtain⟨m,a,c,s⟩:=h;exact⟨m.step e (λv t u=>b.CK t u) o p,s.step q (WY e) (jQ q m.lt o p)⟩
 have k:U (Y4 ls) []:=by
  rw[n];exact⟨iT e _,_,_,s6 e [] (by simp)⟩
 have y:=eV l (En ls (Y4 ls) []+1) _ _ k;have w:(A0 ls (En ls (Y4 ls) []+1) (Y4 ls) []).1=[]:=oV b j;grind
theorem Z7d{f:Int}{ls:List Lt}(y:AH f ls)(I:ls≠[]){v:Nat}(l:v<ls.length)(g:(at' ls v).k=2):M8 ls (BY ls v)=M8 ls v:=by
 have z:=y.wv I;obtain⟨done,p,c,B⟩:=Ykd y I;have m:0<ls.length:=by omega
 have D:∀d,d<2*ls.length->(d∈p↔Av d∈p):=λd J=>by
  constructor
  ·intro h;rcases B.jn d h J with j|j
   ·cases j
   exact j
  intro h;rcases B.jn _ h (JS J)with j|j
  ·cases j
  rw[K3]at j;exact j
 have A:∀u b,u<ls.length->(at' ls u).k=2->(Y5 ls.length u b∈p↔(at' ls u).i∈done):=λu b a g=>by
  rw[B.GH,oJ a];constructor
  ·rintro(h|h)
   ·exact absurd (by rw[oJ a];exact g) (WY z _ h (HJ a))
   exact h.2.2.1
  exact λh=>.inr ⟨HJ a,g,h,by simp⟩
 have r:∀u b,u<ls.length->(at' ls u).k=1->(Y5 ls.length u b∈p↔b = !down ls u):=λu b a g=>by
  rw[B.GH,oJ a];constructor
  ·rintro(h|h)
   ·rcases h with h|h
    ·have:=HJ (fw:=b) a;omega
    obtain⟨w,w1,_,e⟩:=(IX z.Cs).1.1 h;obtain⟨H,C⟩:=J4 a w1 e;rw[C,H]
   omega
  exact λh=>.inl (.inr ((IX z.Cs).1.2 ⟨u,a,g,by rw[h];rfl⟩))
 have n:∀u,u<ls.length->(at' ls u).k=1->Z0 (ls.take (u+1))=Z0 (ls.take u)+1:=λu a g=>by
  rw[ON a,iP (by simp[As,g])]
 have t:∀u,u<ls.length->(at' ls u).k=2->Z0 (ls.take (u+1))=Z0 (ls.take u):=λu a g=>by
  rw[ON a,iN (by simp[As,g])];rfl
 have o:∀u,u<ls.length->(2*u∈p↔M8 ls u=true):=by
  intro u;induction u with
  |zero=>
   intro _;have j:=r 0 true m y.fst;have M:Y5 ls.length 0 true=2*0:=rfl;rw[M]at j;rw[j];unfold M8;rw[n 0 m y.fst];unfold down;simp[Z0,Z4]
  |succ u E=>
   intro a;obtain⟨F,G⟩:=qj a;have N:2*u∈p↔2*u+1∈p:=by
    have:=D (2*u) (by omega);rw[eR]at this;exact this
   have E:=E (by omega);rcases Decidable.em ((at' ls (u+1)).k=2)with g|g
   ·have j:=A (u+1) false a g;have s:=A (u+1) true a g;rw[F]at j;rw[G]at s;have e:M8 ls (u+1)=M8 ls u:=by unfold M8;rw[t _ a g]
    rw[s,<-j,<-N,E,e]
   have q:=z.Cs _ a g;have j:=r (u+1) false a q;have s:=r (u+1) true a q;rw[F]at j;rw[G]at s;have H:down ls (u+1)=M8 ls u:=by
    unfold down M8;rw[Bool.eq_iff_iff];simp
   have C:M8 ls (u+1) = !down ls (u+1):=by
    unfold down M8;rw[n _ a q,Bool.eq_iff_iff];simp;omega
   rw[s,C];constructor
   ·intro h;exact h.symm
   intro h;exact h.symm
 have j:=o v l;obtain⟨w1,w2,_⟩:=z.Cp v l g;have s:=o _ w1;have O:=A v true l g;have K:=A _ true w1 w2;have L:=(y.CK l g).2;rw[L]at K;have ev:Y5 ls.length v true=2*v:=rfl;have P:Y5 ls.length (V4 ls v ls.length 0) true=2*V4 ls v ls.length 0:=rfl;grind
section
variable {T bk:Nat→Nat} {E base:Nat} {y:Nat→Nat}
end
def Q5(m:Nat):List Nat:=(range m).map fun i=>2*i
def J5(m:Nat):List Nat:=(range m).map fun i=>2*i+1
section
variable {m:Nat} {X:List Nd} {L:List (Nat×Nat)}
variable (hn:(O1 L).Nodup) (hE:∀ e,e<2*m+4*X.length↔e∈O1 L)
include hn hE
theorem Yb8{e:Nat}(a:e<2*m+4*X.length):Eb L e<2*m+4*X.length/\Eb L (Eb L e)=e/\Eb L e≠e:=by
 obtain⟨b,c,d⟩:=Z9y hn ((hE e).1 a);grind
omit hn hE in
omit hn hE in
omit hn hE in
end
theorem qG:∀m:Nat,(Q5 m++J5 m).Perm (range (2*m))
 |0=>List.Perm.refl _
 |m+1=>by
  have c:=qG m;have a:Q5 (m+1)=Q5 m++[2*m]:=by unfold Q5;rw[range_succ,List.map_append];rfl
  have b:J5 (m+1)=J5 m++[2*m+1]:=by unfold J5;rw[range_succ,List.map_append];rfl
  rw[a,b,show 2*(m+1)=2*m+1+1 by omega,range_succ,range_succ];grind
def K9(m:Nat)(above below:List Ro):Bool×List (Nat×Nat)×List Nd:=
 if (U1 m false above (Q5 m) [] []).1 then U1 m true below (J5 m) (U1 m false above (Q5 m) [] []).2.1 (U1 m false above (Q5 m) [] []).2.2 else U1 m false above (Q5 m) [] []
theorem iA{m:Nat}{below:Bool}:∀(a:List Ro) (front:List Nat) (L:List (Nat×Nat)) (X:List Nd) (b:List (Nat×Nat)) (c:List Nd),U1 m below a front L X=(true,b,c)->front.length%2=0
 |[],front,L,X,b,c,h=>by
  simp only[U1,AT,decide_eq_true_eq]at h;rw[h.1];rfl
 |r::a,front,L,X,b,c,h=>by
  simp only[U1]at h;split at h
  ·rename_i d;obtain⟨_,e,f,_,_⟩:=d;have:=iA a _ _ _ _ _ h;rw[lA,lK,List.length_drop]at this;omega
  split at h
  ·rename_i d;obtain⟨_,e,f,c4,g⟩:=d;have:=iA a _ _ _ _ _ h;unfold DW at this;rw[lA,lA,lK,List.length_drop,lM,List.length_range]at this;omega
  cases h
theorem Ya4{m:Nat}{a below:List Ro}{L:List (Nat×Nat)}{X:List Nd}(h:K9 m a below=(true,L,X)) :
 (O1 L).Nodup/\(∀e,e<2*m+4*X.length↔e∈O1 L)/\m%2=0:=by
 unfold K9 at h;obtain⟨d,b,c,f⟩:∃d b c,U1 m false a (Q5 m) [] []=(d,b,c):=⟨_,_,_,rfl⟩;rw[f]at h;cases d with
 |false=>simp at h
 |true=>
  simp only[if_true]at h;have l:Fw m (Q5 m) (J5 m) [] []:=by
   unfold Fw;have:=qG m;simpa[O1]using this
  obtain⟨j,_,_⟩:=Wl a _ _ _ _ _ l f;have g:Fw m (J5 m) [] b c:=by
   unfold Fw at j ⊢;simpa using j
  obtain⟨k,_⟩:=Wl below _ _ _ _ _ g h;have i:(O1 L).Perm (range (2*m+4*X.length)):=by
   unfold Fw at k;simpa using k
  have n:=iA _ _ _ _ _ _ f;have o:(Q5 m).length=m:=by unfold Q5;simp
  exact⟨i.nodup_iff.2 List.nodup_range,λe=>by rw[i.mem_iff,mR],by omega⟩
end Go.Ad
