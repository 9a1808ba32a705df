/- Part 42 -/
import Derived.Test.YtilmpmlkndfbjaaGreatDoorT41
set_option linter.all false
open List (flatten_cons range)
namespace Go.Ad
open Go.Plain
section
variable {ls:List Lt}
def Fe(ls:List Lt)(v:Nat):Nat:=Y5 ls.length v (down ls v)
def L9(ls:List Lt):List Nat:=(Z2 ls).map (Fe ls)
def Kk(ls:List Lt)(d:Nat):Prop:=(2*ls.length≤d∧d<2*ls.length+2*Z0 ls∧d % 2=0)∨d∈Y4 ls
def PM(ls:List Lt)(d:Nat):Prop:=(2*ls.length≤d∧d<2*ls.length+2*Z0 ls∧d % 2=1)∨d∈L9 ls
theorem bO(h:Wv ls){p:Nat}(a:p<Z0 ls):∃v,v<ls.length/\(at' ls v).k=1/\V9 v (Z2 ls)=p/\(Z2 ls).getD p 0=v/\(Y4 ls)[p]?=some (Ca ls v)/\(L9 ls)[p]?=some (Fe ls v):=by
 obtain⟨v,b,c,d,e⟩:=IV a;have g:p<(Z2 ls).length:=by rw[Q7];exact a
 have f:(Z2 ls)[p]=v:=by
  grind
 refine⟨v,b,c,e,d,?_,?_⟩
 ·unfold Y4;grind
 unfold L9;grind
theorem Xi:(Y4 ls).length=Z0 ls:=by unfold Y4;rw[lM,Q7]
theorem Zxh:(L9 ls).length=Z0 ls:=by unfold L9;rw[lM,Q7]
theorem r8{v:Nat}(a:v<ls.length)(b:(at' ls v).k=1):DM ls (Av (Ca ls v))=2*ls.length+2*V9 v (Z2 ls):=by
 have:Av (Ca ls v)=arr ls.length v (down ls v):=by
  unfold Ca;rw[JZ a,Bool.not_not]
 rw[this];show X4 ls (Z2 ls) _=_;rw[NZ a,iN (by omega),iP rfl]
theorem uk{v:Nat}(a:v<ls.length)(b:(at' ls v).k=1):DM ls (Av (Fe ls v))=2*ls.length+2*((V9 v (Z2 ls)+Z0 ls-1)%Z0 ls)+1:=by
 have:Av (Fe ls v)=arr ls.length v (!down ls v):=by
  unfold Fe;rw[JZ a]
 rw[this];show X4 ls (Z2 ls) _=_;rw[NZ a,iN (by omega),iN (by grind)]
theorem Zr(d:Wv ls):∀(k j v:Nat),j+k+1=Z0 ls->(Y4 ls)[j]?=some (Ca ls v)->v<ls.length->(at' ls v).k=1->V9 v (Z2 ls)=j ->
 ∃ps,Gs (DM ls) Av (Av (Ca ls v)) ((Y4 ls).drop (j+1)++[2*ls.length+2*(Z0 ls-1)]) ps/\ps.flatten.Perm ((List.range' j (k+1)).map (λp=>2*ls.length+2*p)++(Y4 ls).drop (j+1))
 |0,j,v,g,f,c,b,hi=>by
  have a:(Y4 ls).drop (j+1)=[]:=List.drop_eq_nil_of_le (by rw[Xi];omega);rw[a];refine⟨[[2*ls.length+2*j]],⟨by simp,⟨?_,?_⟩,trivial⟩,by simp⟩
  ·rw[r8 c b,hi]
  show 2*ls.length+2*j=2*ls.length+2*(Z0 ls-1);omega
 |k+1,j,v,g,f,c,b,hi=>by
  obtain⟨u,i,l,m,n,o,_⟩:=bO d (p:=j+1) (by omega);obtain⟨ps,e,q⟩:=Zr d k (j+1) u (by omega) o i l m;have h:j+1<(Y4 ls).length:=by rw[Xi];omega
  have a:(Y4 ls).drop (j+1)=Ca ls u::(Y4 ls).drop (j+1+1):=by
   rw[List.drop_eq_getElem_cons h];grind
  rw[a];refine⟨[2*ls.length+2*j,Ca ls u]::ps,⟨by simp,⟨?_,?_,rfl⟩,e⟩,?_⟩
  ·rw[r8 c b,hi]
  ·show Ca ls u=X4 ls (Z2 ls) _;rw[Se,Nat.mod_eq_of_lt (by omega),n];rfl
  rw[flatten_cons,List.range'_succ,List.map_cons];grind
theorem Zq(c:Wv ls):∀(j v:Nat),j<Z0 ls->(L9 ls)[j]?=some (Fe ls v)->v<ls.length->(at' ls v).k=1->V9 v (Z2 ls)=j ->
 ∃ps,Gs (DM ls) Av (Av (Fe ls v)) (((L9 ls).take j).reverse++[2*ls.length+2*(Z0 ls-1)+1]) ps/\ps.flatten.Perm ((range j).map (λp=>2*ls.length+2*p+1)++[2*ls.length+2*(Z0 ls-1)+1]++(L9 ls).take j)
 |0,v,h,g,b,a,hi=>by
  refine⟨[[2*ls.length+2*(Z0 ls-1)+1]],⟨by simp,⟨?_,rfl⟩,trivial⟩,by simp⟩;rw[uk b a,hi,Nat.zero_add,Nat.mod_eq_of_lt (by omega)]
 |j+1,v,h,g,b,a,hi=>by
  obtain⟨u,i,l,m,n,_,d⟩:=bO c (p:=j) (by omega);obtain⟨ps,e,o⟩:=Zq c j u (by omega) d i l m;have f:(L9 ls).take (j+1)=(L9 ls).take j++[Fe ls u]:=by
   rw[List.take_add_one,d];rfl
  rw[f,List.reverse_append];refine⟨[2*ls.length+2*j+1,Fe ls u]::ps,⟨by simp,⟨?_,?_,rfl⟩,e⟩,?_⟩
  ·rw[uk b a,hi,show j+1+Z0 ls-1=j+Z0 ls by omega,Nat.add_mod_right,Nat.mod_eq_of_lt (by omega)]
  ·show Fe ls u=X4 ls (Z2 ls) _;rw[Sx,n];rfl
  rw[flatten_cons,List.range_succ,List.map_append];grind
theorem Z9h(a:Wv ls):Jz (DM ls) Av (2*ls.length+2*(Z0 ls-1)) (Y4 ls) ((range (Z0 ls)).map (λp=>2*ls.length+2*p)++Y4 ls) 0:=by
 have f:=a.Eo;obtain⟨v,v1,g,h,i,j,_⟩:=bO a (p:=0) f;obtain⟨ps,c,b⟩:=Zr a (Z0 ls-1) 0 v (by omega) j v1 g h;have e:0<(Y4 ls).length:=by rw[Xi];omega
 have d:Y4 ls=Ca ls v::(Y4 ls).drop 1:=by
  conv=>lhs;rw[<-List.drop_zero (l:=Y4 ls),List.drop_eq_getElem_cons e]
  grind
 refine⟨[Ca ls v]::ps,[],?_,λw a=>(by cases a),rfl,?_⟩
 ·have k:Gs (DM ls) Av (2*ls.length+2*(Z0 ls-1)) (Ca ls v::(Y4 ls).drop 1++[2*ls.length+2*(Z0 ls-1)]) ([Ca ls v]::ps):=by
   refine⟨by simp,⟨?_,rfl⟩,c⟩;show Ca ls v=X4 ls (Z2 ls) _;rw[Se,show Z0 ls-1+1=Z0 ls by omega,Nat.mod_self,i];rfl
  grind
 rw[List.flatten_nil,List.nil_append,flatten_cons];rw[show Z0 ls-1+1=Z0 ls by omega]at b;simp only[Nat.zero_add]at b
 conv=>rhs;rw[d]
 rw[List.range_eq_range'];grind
theorem Z6v(a:Wv ls):Jz (DM ls) Av (2*ls.length+2*(Z0 ls-1)+1) (L9 ls).reverse ((range (Z0 ls)).map (λp=>2*ls.length+2*p+1)++L9 ls) 0:=by
 have k:=a.Eo;obtain⟨v,v1,e,f,g,_,b⟩:=bO a (p:=Z0 ls-1) (by omega);obtain⟨ps,c,h⟩:=Zq a (Z0 ls-1) v (by omega) b v1 e f;have d:L9 ls=(L9 ls).take (Z0 ls-1)++[Fe ls v]:=by
  have:=List.take_add_one (l:=L9 ls) (i:=Z0 ls-1);rw[b,show Z0 ls-1+1=Z0 ls by omega,tL (by rw[Zxh];exact lR _)]at this;exact this
 refine⟨[Fe ls v]::ps,[],?_,λw a=>(by cases a),rfl,?_⟩
 ·have j:Gs (DM ls) Av (2*ls.length+2*(Z0 ls-1)+1) (Fe ls v::((L9 ls).take (Z0 ls-1)).reverse++[2*ls.length+2*(Z0 ls-1)+1]) ([Fe ls v]::ps):=by
   refine⟨by simp,⟨?_,rfl⟩,c⟩;show Fe ls v=X4 ls (Z2 ls) _;rw[Sx,g];rfl
  grind
 rw[List.flatten_nil,List.nil_append,flatten_cons]
 conv=>rhs;rw[d]
 have m:(range (Z0 ls)).map (λp=>2*ls.length+2*p+1)=(range (Z0 ls-1)).map (λp=>2*ls.length+2*p+1)++[2*ls.length+2*(Z0 ls-1)+1]:=by
  conv=>lhs;rw[show Z0 ls=Z0 ls-1+1 by omega,List.range_succ,List.map_append]
  rfl
 grind
theorem IX{d:Nat}(e:∀v,v<ls.length->(at' ls v).k≠2->(at' ls v).k=1):(d∈Y4 ls ↔ ∃v,v<ls.length/\(at' ls v).k=1/\d=Ca ls v)/\(d∈L9 ls ↔ ∃v,v<ls.length/\(at' ls v).k=1/\d=Fe ls v):=by
 unfold Y4 L9;constructor
 ·rw[mM];constructor
  ·rintro⟨v,c,rfl⟩;obtain⟨a,b⟩:=AA.1 c;exact⟨v,a,by simpa[As]using b,rfl⟩
  rintro⟨v,a,b,rfl⟩;exact⟨v,AA.2 ⟨a,by simp[As,b]⟩,rfl⟩
 rw[mM];constructor
 ·rintro⟨v,c,rfl⟩;obtain⟨a,b⟩:=AA.1 c;exact⟨v,a,by simpa[As]using b,rfl⟩
 rintro⟨v,a,b,rfl⟩;exact⟨v,AA.2 ⟨a,by simp[As,b]⟩,rfl⟩
theorem ru{v:Nat}(a:v<ls.length):Ay ls (Av (Ca ls v))=at' ls v:=by
 unfold Ca;rw[JZ a,K1 a]
theorem Yja{v:Nat}(a:v<ls.length):Ay ls (Av (Fe ls v))=at' ls v:=by
 unfold Fe;rw[JZ a,K1 a]
theorem WY(c:Wv ls):∀d,Kk ls d->d<2*ls.length->(Ay ls (Av d)).k≠2:=by
 rintro d (h|h) b
 ·omega
 obtain⟨v,a,e,rfl⟩:=(IX c.Cs).1.1 h;rw[ru a];omega
theorem kJ(c:Wv ls):∀d,PM ls d->d<2*ls.length->(Ay ls (Av d)).k≠2:=by
 rintro d (h|h) b
 ·omega
 obtain⟨v,a,e,rfl⟩:=(IX c.Cs).2.1 h;rw[Yja a];omega
theorem s6(i:Wv ls)(f:List Int)(c:f.Nodup):Dr ls (Kk ls) (2*ls.length+2*(Z0 ls-1)) f (Y4 ls) f ((range (Z0 ls)).map (λp=>2*ls.length+2*p)++Y4 ls) 0:=by
 have g:=WM ls i.Cs;refine⟨Z9h i,?_,λd=>?_,λd c=>⟨List.mem_append_right _ c,g.lt d c⟩,λd c n=>?_,?_,λ_ h=>h,c,λ_ h=>.inl h⟩
 ·rw[List.nodup_append];refine⟨KJ (λx y _ _ e=>by omega) List.nodup_range,g.nd,λa l b m e=>?_⟩;obtain⟨p,o,rfl⟩:=mM.1 l;have:=g.lt b m;omega
 ·unfold Kk;rw[List.mem_append];constructor
  ·grind
  rintro((h|h)|⟨_,_,j,k⟩)
  ·refine .inl (mM.2 ⟨(d-2*ls.length) / 2,mR.2 (by omega),by omega⟩)
  ·exact .inr h
  exact absurd j k
 ·grind
 rw[Xi];omega
theorem Yln(m:Wv ls)(i:List Int)(c:i.Nodup):Dr ls (PM ls) (2*ls.length+2*(Z0 ls-1)+1) i (L9 ls).reverse i ((range (Z0 ls)).map (λp=>2*ls.length+2*p+1)++L9 ls) 0:=by
 have k:∀d,d∈L9 ls->d<2*ls.length:=λd c=>by
  obtain⟨v,j,l,rfl⟩:=(IX m.Cs).2.1 c;exact HJ j
 have n:(L9 ls).Nodup:=by
  unfold L9;refine KJ (λa b f g e=>?_) (Qx ls);have f:=(AA.1 f).1;have g:=(AA.1 g).1;exact(J4 f g e).1
 refine⟨Z6v m,?_,λd=>?_,λd c=>?_,λd c k=>?_,?_,λ_ h=>h,c,λ_ h=>.inl h⟩
 ·rw[List.nodup_append];refine⟨KJ (λx y _ _ e=>by omega) List.nodup_range,n,λa f b g e=>?_⟩;grind
 ·unfold PM;rw[List.mem_append];constructor
  ·grind
  rintro((h|h)|⟨_,_,j,l⟩)
  ·refine .inl (mM.2 ⟨(d-2*ls.length) / 2,mR.2 (by omega),by omega⟩)
  ·exact .inr h
  exact absurd j l
 ·grind
 ·grind
 rw[List.length_reverse,Zxh];omega
end
end Go.Ad
