/- Part 32 of the proof: Pj. -/
import Derived.Test.YtpaedbidpkepnaaGreatDoorC31
set_option linter.all false
namespace Go.Known
open Go.Plain
abbrev Pol:=Nat×Nat×Bool
def isC (ls:List Lt) (d:Nat):Bool:=(at' ls (headN ls.length d)).k == 2
def cornN (ls:List Lt) (w:List Nat):Nat:=(w.filter (isC ls)).length
def polN (ls:List Lt) (w:List Nat×Bool):Pol:=(cornN ls w.1,w.1.length,!w.2)
def polys (ls:List Lt):List Pol:=(faces2 (turnN ls (axis ls)) (2*ls.length)).map (polN ls)
def growP (out:List Nat) (c:Nat):List Nat:=out++List.replicate (c+1 - out.length) 0
def addP (out:List Nat) (c:Nat):List Nat:=out.set c (out.getD c 0+1)
def patS (out:List Nat) (p:Pol):List Nat:=if p.2.2 then addP (growP out p.1) p.1 else out
def patP (ps:List Pol):List Nat:=ps.foldl patS []
def mxS (m:Nat) (p:Pol):Nat:=if p.2.2 then max m (p.1+1) else m
def mxP (ps:List Pol):Nat:=ps.foldl mxS 0
def patT (out:List Nat) (p:Pol):List Nat:=if p.2.2 then addP out p.1 else out
def patR (ps:List Pol):List Nat:=ps.foldl patT (List.replicate (mxP ps) 0)
theorem growP_length (out:List Nat) (c:Nat):(growP out c).length=max out.length (c+1):=by simp [growP]; omega
theorem addP_length (out:List Nat) (c:Nat):(addP out c).length=out.length:=by simp [addP]
theorem addP_append {a b:List Nat} {c:Nat} (h:c<a.length):addP (a++b) c=addP a c++b:=by
 unfold addP
 rw [List.set_append_left _ _ h,List.getD_eq_getElem?_getD,List.getD_eq_getElem?_getD,List.getElem?_append_left h]
theorem mxS_le (p:Pol) (m:Nat):m≤mxS m p:=by unfold mxS; split<;>omega
theorem mx_mono:∀ (ps:List Pol) (m:Nat),m≤ps.foldl mxS m
 | [],m=>Nat.le_refl _
 | p :: r,m=>Nat.le_trans (mxS_le p m) (mx_mono r _)
theorem pat_fold (M:Nat):∀ (ps:List Pol) (out:List Nat),ps.foldl mxS out.length≤M→ps.foldl patT (out++List.replicate (M - out.length) 0)=ps.foldl patS out++List.replicate (M - (ps.foldl patS out).length) 0∧(ps.foldl patS out).length=ps.foldl mxS out.length
 | [],out,_=>⟨rfl,rfl⟩
 | p :: r,out,h=>by
  simp only [List.foldl_cons] at h ⊢
  cases hp:p.2.2 with
  | false=>
   have e1:patT (out++List.replicate (M - out.length) 0) p=out++List.replicate (M - out.length) 0:=by simp [patT,hp]
   have e2:patS out p=out:=by simp [patS,hp]
   have e3:mxS out.length p=out.length:=by simp [mxS,hp]
   rw [e1,e2,e3]
   rw [e3] at h
   exact pat_fold M r out h
  | true=>
   have e3:mxS out.length p=max out.length (p.1+1):=by simp [mxS,hp]
   rw [e3] at h ⊢
   have hM:max out.length (p.1+1)≤M:=Nat.le_trans (mx_mono r _) h
   have e2:patS out p=addP (growP out p.1) p.1:=by simp [patS,hp]
   have hl:(patS out p).length=max out.length (p.1+1):=by rw [e2,addP_length,growP_length]
   have e1:patT (out++List.replicate (M - out.length) 0) p=patS out p++List.replicate (M - (patS out p).length) 0:=by
    have:out++List.replicate (M - out.length) 0=growP out p.1++List.replicate (M - max out.length (p.1+1)) 0:=by
     unfold growP
     rw [List.append_assoc,List.replicate_append_replicate]
     congr 2
     omega
    rw [hl,e2,this]
    simp only [patT,hp,if_true]
    exact addP_append (by rw [growP_length]; omega)
   rw [e1,← hl]
   rw [← hl] at h
   exact pat_fold M r _ h
theorem pat_eq (ps:List Pol):patR ps=patP ps:=by
 obtain⟨h1,h2⟩:=pat_fold (mxP ps) ps [] (Nat.le_refl _)
 unfold patR patP
 have h3:(ps.foldl patS []).length=mxP ps:=h2
 rw [h3,Nat.sub_self] at h1
 simpa using h1
end Go.Known
