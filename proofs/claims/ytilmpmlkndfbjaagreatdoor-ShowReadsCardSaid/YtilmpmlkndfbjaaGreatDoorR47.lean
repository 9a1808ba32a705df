/- Part 47 of the proof: Eq, Lp. -/
import Derived.Test.YtilmpmlkndfbjaaGreatDoorR10
import Derived.Test.YtilmpmlkndfbjaaGreatDoorR46
set_option linter.all false
section
namespace Go.Known
open Go Go.AE Go.Proofs
open Go.Plain
def minL:List Int→Int
 | []=>0
 | x :: r=>r.foldl (fun a b=>if b<a then b else a) x
theorem Zuu:∀ (l:List Int) (x:Int),(l.foldl (fun a b=>if b<a then b else a) x<0)↔(x<0 ∨ ∃ y,y∈l∧y<0)
 | [],x=>by simp
 | y :: r,x=>by
  rw[List.foldl_cons,Zuu r];simp only[List.mem_cons,exists_eq_or_imp];split<;>constructor<;>intro h
  ·rcases h with h|h
   ·exact .inr (.inl h)
   ·exact .inr (.inr h)
  ·rcases h with h|h|h
   ·exact .inl (by omega)
   ·exact .inl h
   ·exact .inr h
  ·rcases h with h|h
   ·exact .inl h
   ·exact .inr (.inr h)
  ·rcases h with h|h|h
   ·exact .inl h
   ·exact .inl (by omega)
   ·exact .inr h
theorem Zop{l:List Int}(h:l≠[]):minL l<0 ↔ ∃ y,y∈l∧y<0:=by
 cases l with
 | nil=>exact absurd rfl h
 | cons x r=>
  rw[minL,Zuu];simp[List.mem_cons]
set_option maxHeartbeats 2000000 in
theorem cMin(x:Int)(l:List Int)(D:l.length≤100000):PCall Tryz.prog 26 [.imm (Z2 (x :: l))] (.int .i64 (minL (x :: l))):=by
 refine Za0 hm Tryz.func26 cf45 rfl rfl (by simp only[X4,AVal.closed,L5,Bool.and_true]) trivial fun K v=>?_
 have c:=Zap (x :: l);have k:∀ q,Z6 q (Z2 (x :: l))=Z2 (x :: l):=fun q=>X6 q _ (L5 _)
 have g:=fun i (h:i<(x :: l).length)=>Zf6 h
 have t:=g 0 (by simp)
 obtain⟨_,m⟩:=Y5 t;rw[List.length_cons]at c;generalize Z2 (x :: l)=R at *;have p:¬((l.length:Int)+1<1):=by omega
 have A:¬((R.length:Int)<1):=by omega
 simp[c,p,t,m];refine B0 (α:=Nat) (fun i=>[(0,.imm R),(3,.int .i64 ((l.take i).foldl (fun a b=>if b<a then b else a) x)),(4,.int .i64 ((i:Int)+1))]) (fun _=>⟨[],1⟩) (fun i=>l.length - i) (fun i=>i≤l.length) 0 [] (by simp[k]) (by omega) ?_
 intro i hi N w;by_cases j:i=l.length
 ·subst j;rw[List.take_length];simp[c];exact Z9 v [] (by simp[minL])
 ·have d:i<l.length:=by omega
  have u:=g (i+1) (by simp; omega)
  obtain⟨_,n⟩:=Y5 u;have B:IntKind.i64.wrap ((i:Int)+1+1)=((i+1:Nat):Int)+1:=by rw[Z1 (by omega) (by omega)]; omega
  have o:(i:Int)+1<(l.length:Int)+1:=by omega
  have r:(l.take (i+1)).foldl (fun a b=>if b<a then b else a) x=if (x :: l).getD (i+1) 0<(l.take i).foldl (fun a b=>if b<a then b else a) x then (x :: l).getD (i+1) 0 else (l.take i).foldl (fun a b=>if b<a then b else a) x:=by
   rw[List.take_add_one,gE d,Option.toList_some,List.foldl_append];have:(x :: l).getD (i+1) 0=l[i]:=by rw[List.getD,List.getElem?_cons_succ,gE d]; rfl
   rw[this];rfl
  have e:=w (i+1);rw[r]at e;have C:(0:Int)≤(i:Int)+1:=by omega
  have s:((i:Int)+1).toNat=i+1:=by omega
  generalize (x :: l).getD (i+1) 0=y at *;generalize (l.take i).foldl (fun a b=>if b<a then b else a) x=z at *
  simp[c,o,u,n,B,C,s,d,Zct];exact e [] _ _ (by omega) (by omega) (by simp[k])
end Go.Known
end
section
namespace Go.Known
open Go Go.AE Go.Proofs
def anReads:AFn:=⟨32,[(2,none)],(sr [bo 1 0,mfZ 2]
 (.seq (sr [lw 7 4 1,ca1 8 7 7,no 9 8]
 (.cond (tZ 9) (sr [oZ 10 (.call (.fn 8) []),mv 2 10]
 .ret)
 .skip))
 (sr [lw 12 4 1,ca1 13 9 12,mv 11 13,ex 14 11 0,ex 15 11 1,oZ 3 (.alloc [(.int .i64 0),.nilSl]),so 2 3 14,mv 4 15]
 (sr [lw 17 4 1,ca1 18 10 17,mv 16 18,ex 19 16 0,ex 20 16 1,oZ 5 (.alloc [(.int .i64 0),.nilSl]),so 2 5 19,mv 6 20]
 (sr [mv 21 4,mv 22 6,cE 23 21 22,mv 24 23,gZ 25 24 true (.load (some 2) (tZ 3)),gZ 26 24 true (.load (some 2) (tZ 5)),gZ 27 24 true (.call (.fn 11) [tZ 25,tZ 26]),pk0 28 24 27,mv 29 28,gZ 30 29 true (.call (.fn 8) []),pk0 31 29 30,mv 2 31]
 .ret)))))⟩
theorem Z7m:cFn Tryz.prog Tryz.f3=some anReads:=by kernel_rfl
def anFew:AFn:=⟨19,[(2,none)],(sr [bo 1 0,mfZ 2]
 (sr [fa 3 1 1,lo 4 3,le 5 4,cKk 6 5 60,mv 7 6,gtf 8 7 2 1,gtl 9 7 8,gZ 10 7 true (.lenSl (tZ 9)),gZ 11 7 true (.bin .leq .num (tZ 10) (kZ 60)),pk0 12 7 11,mv 13 12,gtf 14 13 3 1,gtl 15 13 14,gZ 16 13 true (.lenSl (tZ 15)),gZ 17 13 true (.bin .leq .num (tZ 16) (kZ 60)),pk0 18 13 17,mv 2 18]
 .ret))⟩
theorem Z16:cFn Tryz.prog Tryz.f7=some anFew:=by kernel_rfl
def anRRead:AFn:=⟨154,[(2,(some (some 2))),(3,none)],(sr [bo 1 0,oZ 2 (.alloc [(.int .i64 0),.nilSl]),mk 3 0]
 (.seq (sr [fa 14 0 1,lo 15 14,cLk 16 15 0,mv 17 16,gff 18 17 0 1,gfl 19 17 18,gZ 20 17 false (.bin .gtr .num (tZ 19) (kZ 40)),pk1 21 17 20,mv 22 21,gff 23 22 1 1,gfl 24 22 23,gZ 25 22 false (.lenSl (tZ 24)),gff 26 22 0 1,gfl 27 22 26,gZ 28 22 false (.bin .add .num (tZ 27) (kZ 1)),gZ 29 22 false (.bin .neq .num (tZ 25) (tZ 28)),pk1 30 22 29]
 (.cond (tZ 30) (sr [oZ 31 (.build [(.int .i64 0),.nilSl] []),so 2 2 31,mk 3 2]
 .ret)
 .skip))
 (sr [mk 4 0]
 (.seq (sr [mk 5 0]
 (.block 0 (.loop (.seq (sr [mv 32 5,fa 33 1 1,lo 34 33,le 35 34,cL 36 32 35]
 (.cond (tZ 36) .skip
 (.exit 0)))
 (.seq (.block 1 (sr [fa 39 1 1,lo 40 39,mv 41 5,ix 42 1 40 41,lo 43 42,cLk 44 43 0]
 (.cond (tZ 44) (sr [oZ 45 (.build [(.int .i64 0),.nilSl] []),so 2 2 45,mk 3 2]
 .ret)
 .skip)))
 (rf [mv 37 5,aDk 38 37 1,mv 5 38]))))))
 (.seq (sr [mk 6 0]
 (.block 2 (.loop (.seq (sr [mv 46 6,fa 47 1 1,lo 48 47,le 49 48,cL 50 46 49]
 (.cond (tZ 50) .skip
 (.exit 2)))
 (.seq (.block 3 (.seq (sr [fa 53 1 1,lo 54 53,mv 55 6,ix 56 1 54 55,lo 57 56,cGk 58 57 400]
 (.cond (tZ 58) (sr [oZ 59 (.build [(.int .i64 0),.nilSl] []),so 2 2 59,mk 3 7]
 .ret)
 .skip))
 (rf [mv 60 4,fa 61 1 1,lo 62 61,mv 63 6,ix 64 1 62 63,lo 65 64,aD 66 60 65,mv 4 66])))
 (rf [mv 51 6,aDk 52 51 1,mv 6 52]))))))
 (.seq (.region true [fa 67 2 1,lo 68 67,ca1 69 29 68,fa 70 3 1,⟨(some 71),.load none (tZ 70),none,[2]⟩,ca1 72 29 71,aD 73 69 72,mv 7 73])
 (.seq (sr [mv 74 4,cGk 75 74 400,mv 76 75,gfm 77 76 7,gZ 78 76 false (.bin .gtr .num (tZ 77) (kZ 100)),pk1 79 76 78,mv 80 79,gfm 81 80 4,gfm 82 80 7,gZ 83 80 false (.bin .mul .num (kZ 2) (tZ 82)),gZ 84 80 false (.bin .add .num (tZ 81) (tZ 83)),gZ 85 80 false (.bin .gtr .num (tZ 84) (kZ 400)),pk1 86 80 85]
 (.cond (tZ 86) (sr [oZ 87 (.build [(.int .i64 0),.nilSl] []),so 2 2 87,mk 3 7]
 .ret)
 .skip))
 (sr [mv 88 4,mv 89 4,oZ 90 (.bin .mul .num (kZ 2) (tZ 89)),mv 91 7,oZ 92 (.bin .mul .num (kZ 4) (tZ 91)),aD 93 90 92,oZ 94 (.makeSl 1 8 [(.int .i64 0)] (tZ 93) (tZ 93)),oZ 95 (.build [(.int .i64 0),.nilSl,.nilSl,.nilSl] [(0,1,tZ 88),(1,1,tZ 94)]),oZ 8 (.alloc [(.int .i64 0),.nilSl,.nilSl,.nilSl]),so 4 8 95]
 (sr [lw 97 4 8,fa 98 2 1,lo 99 98,oZ 100 (.call (.fn 30) [tZ 97,tZ 99,kZ 0,kZ 0]),mv 96 100,ex 101 96 0,ex 102 96 1,ex 103 96 2,so 4 8 101,mv 9 102,mv 10 103]
 (sr [lw 105 4 8,fa 106 3 1,lo 107 106,mv 108 9,oZ 109 (.call (.fn 30) [tZ 105,tZ 107,kZ 1,tZ 108]),mv 104 109,ex 110 104 0,ex 111 104 1,ex 112 104 2,so 4 8 110,mv 11 111,mv 12 112]
 (.seq (sr [mv 113 10,no 114 113,mv 115 114,gfm 116 115 12,gZ 117 115 false (.un .not (tZ 116)),pk1 118 115 117]
 (.cond (tZ 118) (sr [oZ 119 (.build [(.int .i64 0),.nilSl] []),so 2 2 119,mk 3 3]
 .ret)
 .skip))
 (sr [fa 120 0 1,lo 121 120,oZ 122 (.build [(.int .i64 0),.nilSl] [(0,1,tZ 121)]),oZ 13 (.alloc [(.int .i64 0),.nilSl]),so 2 13 122]
 (.seq (sr [mv 123 4,cEk 124 123 0]
 (.cond (tZ 124) (.seq (sr [mv 125 7,fa 126 2 1,lo 127 126,le 128 127,aD 129 125 128,fa 130 3 1,lo 131 130,le 132 131,aD 133 129 132,cGk 134 133 0]
 (.cond (tZ 134) (sr [oZ 135 (.build [(.int .i64 0),.nilSl] []),so 2 2 135,mk 3 3]
 .ret)
 .skip))
 (sr [lw 136 2 13,so 2 2 136,mk 3 0]
 .ret))
 .skip))
 (sr [lw 137 4 8,fa 138 1 1,lo 139 138,mv 140 7,ca3 141 31 137 139 140,fa 142 1 13,so 1 142 141]
 (.seq (sr [fa 143 1 13,lo 144 143,le 145 144,mv 146 4,mv 147 7,oZ 148 (.bin .mul .num (kZ 2) (tZ 147)),aD 149 146 148,cN 150 145 149]
 (.cond (tZ 150) (sr [oZ 151 (.build [(.int .i64 0),.nilSl] []),so 2 2 151,mk 3 3]
 .ret)
 .skip))
 (sr [lw 152 2 13,ca1 153 32 152,so 2 2 153,mk 3 0]
 .ret))))))))))))))))⟩
theorem Yad:cFn Tryz.prog Tryz.f10=some anRRead:=by kernel_rfl
def anRCrosses:AFn:=⟨20,[(2,none)],(sr [mk 2 0]
 (sr [mk 3 0]
 (.seq (sr [mk 4 0]
 (.block 0 (.loop (.seq (sr [mv 5 4,mv 6 0,le 7 6,cL 8 5 7]
 (.cond (tZ 8) .skip
 (.exit 0)))
 (.seq (.block 1 (sr [mv 11 0,mv 12 4,ix 13 4 11 12,fa 14 0 13,lo 15 14,cEk 16 15 2]
 (.cond (tZ 16) (rf [mv 17 3,aDk 18 17 1,mv 3 18])
 .skip)))
 (rf [mv 9 4,aDk 10 9 1,mv 4 10]))))))
 (sr [mv 19 3,mv 2 19]
 .ret))))⟩
theorem Ybd:cFn Tryz.prog Tryz.f29=some anRCrosses:=by kernel_rfl
def anRHalf:AFn:=⟨176,[(8,(some (some 4))),(9,none),(10,none)],(sr [bo 4 0,oZ 8 (.alloc [(.int .i64 0),.nilSl,.nilSl,.nilSl]),mk 9 0,mfZ 10]
 (sr [mnZ 11]
 (.seq (sr [mk 12 0]
 (.block 0 (.loop (.seq (sr [mv 21 12,fa 22 0 4,lo 23 22,cL 24 21 23]
 (.cond (tZ 24) .skip
 (.exit 0)))
 (.seq (.block 1 (rf [mv 27 11,mv 28 12,oZ 29 (.bin .mul .num (kZ 2) (tZ 28)),mv 30 2,aD 31 29 30,oZ 32 (.mkSl 1 1 [(.int .i64 0)] [(0,tZ 31)]),oZ 33 (.append 1 8 [(.int .i64 0)] (tZ 27) (tZ 32)),mv 11 33]))
 (rf [mv 25 12,aDk 26 25 1,mv 12 26]))))))
 (.seq (sr [mk 13 0]
 (.block 2 (.loop (.seq (sr [mv 34 13,mv 35 1,le 36 35,cL 37 34 36]
 (.cond (tZ 37) .skip
 (.exit 2)))
 (.seq (.block 3 (sr [mv 40 1,mv 41 13,ix 42 4 40 41,lw 43 4 42,oZ 14 (.alloc [(.int .i64 0),(.int .i64 0),(.int .i64 0),(.bool false)]),so 4 14 43]
 (sr [mk 15 2]
 (.seq (sr [fa 44 0 14,lo 45 44,cEk 46 45 2]
 (.cond (tZ 46) (rf [fa 47 2 14,lo 48 47,mv 15 48])
 .skip))
 (.seq (sr [fa 49 1 14,lo 50 49,cLk 51 50 0,mv 52 51,gfm 53 52 15,gZ 54 52 false (.bin .lss .num (tZ 53) (kZ 1)),pk1 55 52 54,mv 56 55,gfm 57 56 15,gZ 58 56 false (.bin .gtr .num (tZ 57) (kZ 4)),pk1 59 56 58,mv 60 59,gff 61 60 1 14,gfl 62 60 61,gfm 63 60 11,gZ 64 60 false (.lenSl (tZ 63)),gfm 65 60 15,gZ 66 60 false (.bin .sub .num (tZ 64) (tZ 65)),gZ 67 60 false (.bin .gtr .num (tZ 62) (tZ 66)),pk1 68 60 67]
 (.cond (tZ 68) (sr [lw 69 4 4,mv 70 3,so 4 8 69,mv 9 70,mfZ 10]
 .ret)
 .skip))
 (sr [mv 71 11,fa 72 1 14,lo 73 72,mv 74 15,aD 75 73 74,oZ 76 (.slSl 1 (tZ 71) (some (tZ 75)) none none),oZ 77 (.append 1 8 [(.int .i64 0)] (.const .nilSl) (tZ 76)),mv 16 77]
 (sr [mv 78 11,fa 79 1 14,lo 80 79,oZ 81 (.slSl 1 (tZ 78) none (some (tZ 80)) none),oZ 82 (.append 1 8 [(.int .i64 0)] (.const .nilSl) (tZ 81)),mv 17 82]
 (.seq (sr [fa 83 0 14,lo 84 83]
 (.block 4 (sr [cEk 88 84 1,mv 87 88]
 (.cond (tZ 87) (.seq (sr [fa 89 2 14,lo 90 89,cNk 91 90 0,mv 92 91,gff 93 92 3 14,gfl 94 92 93,pk1 95 92 94]
 (.cond (tZ 95) (sr [lw 96 4 4,mv 97 3,so 4 8 96,mv 9 97,mfZ 10]
 .ret)
 .skip))
 (.region true [lw 98 4 4,mv 99 11,fa 100 1 14,lo 101 100,ix 102 1 99 101,lo 103 102,mv 104 11,fa 105 1 14,lo 106 105,aDk 107 106 1,ix 108 1 104 107,lo 109 108,ca3 110 55 98 103 109]))
 (sr [cEk 112 84 2,mv 111 112]
 (.cond (tZ 111) (sr [fa 113 0 4,lo 114 113,oZ 115 (.bin .mul .num (kZ 2) (tZ 114)),mv 116 3,oZ 117 (.bin .mul .num (kZ 4) (tZ 116)),aD 118 115 117,mv 18 118]
 (.seq (sr [mk 19 0]
 (.block 5 (.loop (.seq (sr [mv 119 19,fa 120 2 14,lo 121 120,cL 122 119 121]
 (.cond (tZ 122) .skip
 (.exit 5)))
 (.seq (.block 6 (.region true [lw 125 4 4,mv 126 11,fa 127 1 14,lo 128 127,mv 129 19,aD 130 128 129,ix 131 1 126 130,lo 132 131,mv 133 18,mv 134 19,oZ 135 (.bin .sub .num (kZ 4) (tZ 134)),aRk 136 135 4,aD 137 133 136,ca3 138 55 125 132 137]))
 (rf [mv 123 19,aDk 124 123 1,mv 19 124]))))))
 (.seq (sr [mk 20 1]
 (.block 7 (.loop (.seq (sr [mv 139 20,fa 140 2 14,lo 141 140,oZ 142 (.bin .sub .num (kZ 4) (tZ 141)),cK 143 139 142]
 (.cond (tZ 143) .skip
 (.exit 7)))
 (.seq (.block 8 (rf [mv 146 17,mv 147 18,mv 148 20,aD 149 147 148,oZ 150 (.mkSl 1 1 [(.int .i64 0)] [(0,tZ 149)]),oZ 151 (.append 1 8 [(.int .i64 0)] (tZ 146) (tZ 150)),mv 17 151]))
 (rf [mv 144 20,aDk 145 144 1,mv 20 145]))))))
 (.seq (.region true [fa 152 2 4,lo 153 152,fa 154 3 14,lo 155 154,⟨(some 156),.mkSl 1 1 [(.bool false)] [(0,tZ 155)],none,[1]⟩,oZ 157 (.append 1 1 [(.bool false)] (tZ 153) (tZ 156)),fa 158 3 4,⟨(some 159),.load none (tZ 158),none,[4,5]⟩,mv 160 2,cEk 161 160 1,⟨(some 162),.mkSl 1 1 [(.bool false)] [(0,tZ 161)],none,[1,3,4,5,7]⟩,oZ 163 (.append 1 1 [(.bool false)] (tZ 159) (tZ 162)),fa 164 2 4,so 1 164 157,fa 165 3 4,so 1 165 163])
 (rf [mv 166 3,aDk 167 166 1,mv 3 167])))))
 (sr [lw 85 4 4,mv 86 3,so 4 8 85,mv 9 86,mfZ 10]
 .ret)))))))
 (rf [mv 168 17,mv 169 16,oZ 170 (.append 1 8 [(.int .i64 0)] (tZ 168) (tZ 169)),mv 11 170])))))))))
 (rf [mv 38 13,aDk 39 38 1,mv 13 39]))))))
 (sr [lw 171 4 4,mv 172 3,mv 173 11,le 174 173,cEk 175 174 0,so 4 8 171,mv 9 172,mv 10 175]
 .ret)))))⟩
theorem Z8w:cFn Tryz.prog Tryz.f30=some anRHalf:=by kernel_rfl
def anRFollow:AFn:=⟨142,[(6,none)],(sr [bo 3 0,mnZ 6]
 (sr [mnZ 7]
 (sr [mv 17 2,oZ 18 (.bin .mul .num (kZ 2) (tZ 17)),oZ 19 (.makeSl 1 8 [(.int .i64 0)] (tZ 18) (tZ 18)),mv 8 19]
 (sr [mk 9 0]
 (.seq (sr [mtZ 10]
 (.block 0 (.loop (.seq (sr [mv 20 10,mv 21 20,gfm 22 21 9,gZ 23 21 false (.bin .neq .num (tZ 22) (kZ 0)),pk1 24 21 23]
 (.cond (tZ 24) .skip
 (.exit 0)))
 (.seq (.block 1 (.seq (sr [mv 25 9,fa 26 0 3,lo 27 26,oZ 28 (.bin .mul .num (kZ 2) (tZ 27)),cL 29 25 28]
 (.cond (tZ 29) (sr [mv 30 9,aQk 31 30 2,mk 11 0,mv 12 31]
 (.seq (.block 2 (.loop (.seq (sr [mv 32 12,mv 33 1,mv 34 11,ix 35 1 33 34,lo 36 35,cH 37 32 36]
 (.cond (tZ 37) .skip
 (.exit 2)))
 (.block 3 (sr [mv 38 12,mv 39 1,mv 40 11,ix 41 1 39 40,lo 42 41,aS 43 38 42,mv 12 43]
 (rf [mv 44 11,aDk 45 44 1,mv 11 45]))))))
 (rf [mv 46 7,mv 47 11,mv 48 12,aDk 49 48 1,oZ 50 (.build [(.int .i64 0),(.int .i64 0),(.int .i64 0),(.int .i64 0),(.int .i64 0),(.bool false)] [(0,1,kZ 1),(1,1,tZ 47),(2,1,tZ 49)]),oZ 51 (.mkSl 6 1 [(.int .i64 0),(.int .i64 0),(.int .i64 0),(.int .i64 0),(.int .i64 0),(.bool false)] [(0,tZ 50)]),oZ 52 (.append 6 48 [(.int .i64 0),(.int .i64 0),(.int .i64 0),(.int .i64 0),(.int .i64 0),(.bool false)] (tZ 46) (tZ 51)),mv 7 52])))
 (.seq (.region true [mv 53 9,fa 54 0 3,lo 55 54,oZ 56 (.bin .mul .num (kZ 2) (tZ 55)),aS 57 53 56,aQk 58 57 4,mv 59 9,fa 60 0 3,lo 61 60,oZ 62 (.bin .mul .num (kZ 2) (tZ 61)),aS 63 59 62,aRk 64 63 4,mv 13 58,mv 14 64])
 (sr [mv 65 8,mv 66 13,oZ 67 (.bin .mul .num (kZ 2) (tZ 66)),mv 68 14,aRk 69 68 2,aD 70 67 69,mv 71 14,ix 72 1 65 70,so 1 72 71]
 (.region true [mv 73 7,mv 74 13,aDk 75 74 1,fa 76 2 3,lo 77 76,mv 78 13,ix 79 1 77 78,lo 80 79,mv 81 14,aRk 82 81 2,cEk 83 82 0,oZ 84 (.bin .eql .bool (tZ 80) (tZ 83)),fa 85 3 3,lo 86 85,mv 87 13,ix 88 1 86 87,lo 89 88,oZ 90 (.bin .neq .bool (tZ 84) (tZ 89)),oZ 91 (.build [(.int .i64 0),(.int .i64 0),(.int .i64 0),(.int .i64 0),(.int .i64 0),(.bool false)] [(0,1,kZ 2),(3,1,tZ 75),(5,1,tZ 90)]),oZ 92 (.mkSl 6 1 [(.int .i64 0),(.int .i64 0),(.int .i64 0),(.int .i64 0),(.int .i64 0),(.bool false)] [(0,tZ 91)]),oZ 93 (.append 6 48 [(.int .i64 0),(.int .i64 0),(.int .i64 0),(.int .i64 0),(.int .i64 0),(.bool false)] (tZ 73) (tZ 92)),mv 7 93])))))
 (.region true [fa 94 1 3,lo 95 94,fa 96 0 3,lo 97 96,mv 98 9,⟨(some 99),.call (.fn 56) [tZ 97,tZ 98],none,[1]⟩,ix 100 1 95 99,lo 101 100,mv 9 101])))
 (rf [mfZ 10]))))))
 (.seq (sr [mk 15 0]
 (.block 4 (.loop (.seq (sr [mv 102 15,mv 103 7,le 104 103,cL 105 102 104]
 (.cond (tZ 105) .skip
 (.exit 4)))
 (.seq (.block 5 (sr [mv 108 7,mv 109 15,ix 110 6 108 109,fa 111 0 110,lo 112 111,cEk 113 112 2]
 (.cond (tZ 113) (sr [mv 114 7,mv 115 15,ix 116 6 114 115,fa 117 3 116,lo 118 117,aSk 119 118 1,mv 16 119]
 (.region true [mv 120 7,mv 121 15,mv 122 8,mv 123 16,oZ 124 (.bin .mul .num (kZ 2) (tZ 123)),ix 125 1 122 124,lo 126 125,mv 127 8,mv 128 16,oZ 129 (.bin .mul .num (kZ 2) (tZ 128)),aDk 130 129 1,ix 131 1 127 130,lo 132 131,fa 133 2 3,lo 134 133,mv 135 16,ix 136 1 134 135,lo 137 136,ca3 138 57 126 132 137,ix 139 6 120 121,fa 140 4 139,so 1 140 138]))
 .skip)))
 (rf [mv 106 15,aDk 107 106 1,mv 15 107]))))))
 (sr [mv 141 7,mv 6 141]
 .ret)))))))⟩
theorem Z8v:cFn Tryz.prog Tryz.f31=some anRFollow:=by kernel_rfl
def anRJoin:AFn:=⟨16,[],(sr [bo 3 0]
 (.region true [fa 6 1 3,lo 7 6,mv 8 1,fa 9 1 3,lo 10 9,mv 11 2,mv 12 2,mv 13 1,ix 14 1 7 8,⟨none,.store 1 (tZ 14) (tZ 12),none,[4]⟩,ix 15 1 10 11,so 1 15 13]))⟩
theorem Z9d:cFn Tryz.prog Tryz.f55=some anRJoin:=by kernel_rfl
def anRWithin:AFn:=⟨26,[(4,none)],(sr [mk 4 0]
 (.seq (sr [mv 5 1,mv 6 0,oZ 7 (.bin .mul .num (kZ 2) (tZ 6)),cL 8 5 7]
 (.cond (tZ 8) (sr [mv 9 1,ca1 10 96 9,mv 4 10]
 .ret)
 .skip))
 (sr [mv 11 1,mv 12 1,mv 13 0,oZ 14 (.bin .mul .num (kZ 2) (tZ 13)),aS 15 12 14,aRk 16 15 4,aS 17 11 16,mv 18 1,mv 19 0,oZ 20 (.bin .mul .num (kZ 2) (tZ 19)),aS 21 18 20,aRk 22 21 4,aDk 23 22 2,aRk 24 23 4,aD 25 17 24,mv 4 25]
 .ret)))⟩
theorem Z42:cFn Tryz.prog Tryz.f56=some anRWithin:=by kernel_rfl
def anRSign:AFn:=⟨15,[(6,none)],(sr [mk 6 0]
 (.seq (sr [mv 7 0,cEk 8 7 0,mv 9 1,cEk 10 9 3,oZ 11 (.bin .neq .bool (tZ 8) (tZ 10)),mv 12 2,no 13 12,oZ 14 (.bin .neq .bool (tZ 11) (tZ 13))]
 (.cond (tZ 14) (sr [mk 6 (-1)]
 .ret)
 .skip))
 (sr [mk 6 1]
 .ret)))⟩
theorem Z89:cFn Tryz.prog Tryz.f57=some anRSign:=by kernel_rfl
end Go.Known
end
