/- Part 26 of the proof: AeNf, Lh, Lq1, AeNg, AeMb, AeNi. -/
import Derived.Test.YtfmnflhggplkmaaGreatDoorO19
import Derived.Test.YtfmnflhggplkmaaGreatDoorO23
import Derived.Test.YtfmnflhggplkmaaGreatDoorO24
import Derived.Test.YtfmnflhggplkmaaGreatDoorO25
set_option linter.all false
section
namespace Go.AE
open Go.RowKit
variable {P:Program}
theorem ctr_P (hm:P.follows .mixedOrders=true) {f:FuncId} {fn:Func} {af:AFn} {args:List AVal} {m:SMem} {Post:AVal→SMem→Prop} (hf:P.funcs[f]? = some fn) (hc:cFn P fn=some af) {nt:Nat} {rs:List (Nat×Option (Option Nat))} {bd:ACode} (hd:af=⟨nt,rs,bd⟩) (hl:Nat.ble args.length nt=true)
 (h:∀ K:AVal→SMem→Prop,(∀ r sm,Post r sm→K r sm)→wpZ P nt m.next bd (retN nt rs (EndK m.next K)) (argE 0 args []) m):Ctr P f args m Post:=
 by subst hd; exact ctr_Z hm hf hc hl (h Post fun _ _ h=>h)
theorem ctr_1 (hm:P.follows .mixedOrders=true) {f:FuncId} {fn:Func} {af:AFn} {args:List AVal} {m:SMem} {v:AVal} {M:SMem} (hf:P.funcs[f]? = some fn) (hc:cFn P fn=some af) {nt:Nat} {rs:List (Nat×Option (Option Nat))} {bd:ACode} (hd:af=⟨nt,rs,bd⟩) (hl:Nat.ble args.length nt=true)
 (h:∀ K:AVal→SMem→Prop,K v M→wpZ P nt m.next bd (retN nt rs (EndK m.next K)) (argE 0 args []) m):Ctr P f args m fun r sm=>r=v∧sm=M:=
 by subst hd; exact ctr_Z hm hf hc hl (h _ ⟨rfl,rfl⟩)
theorem endK {n0:Nat} {K:AVal→SMem→Prop} {v0 v:AVal} {m0 m:SMem} (hK:K v0 m0) (l:List (Nat×Nat)) (h:SubR n0 l [(0,v0)] m0 [(0,v)] m):EndK n0 K v m:=⟨v0,m0,l,h,hK⟩
theorem PCall_1 (hm:P.follows .mixedOrders=true) {f:FuncId} {fn:Func} {af:AFn} {args:List AVal} {v:AVal} (hf:P.funcs[f]? = some fn) (hc:cFn P fn=some af) {nt:Nat} {rs:List (Nat×Option (Option Nat))} {bd:ACode} (hd:af=⟨nt,rs,bd⟩) (hl:Nat.ble args.length nt=true) (hca:closedL args=true)
 (hv:match v with | .int _ _ | .bool _ | .str _=>True|_=>False)
 (h:∀ K:AVal→SMem→Prop,K v ⟨[],1⟩→wpZ P nt 1 bd (retN nt rs (EndK 1 K)) (argE 0 args []) ⟨[],1⟩):PCall P f args v:=by
 refine PCall_ctr (k:=1) hca (by cases v<;>first|exact hv.elim|rfl) ((ctr_1 (m:=⟨[],1⟩) (M:=⟨[],1⟩) hm hf hc hd hl h).mono fun r m' hr=>?_)
 obtain⟨rfl,rfl⟩:=hr
 exact scalar_freeze _ 0 _ hv
theorem PCall_F (hm:P.follows .mixedOrders=true) {f:FuncId} {fn:Func} {af:AFn} {args:List AVal} {v:AVal} (k:Nat) (hf:P.funcs[f]? = some fn) (hc:cFn P fn=some af) {nt:Nat} {rs:List (Nat×Option (Option Nat))} {bd:ACode} (hd:af=⟨nt,rs,bd⟩) (hl:Nat.ble args.length nt=true) (hca:closedL args=true) (hcv:v.closed=true)
 (h:∀ K:AVal→SMem→Prop,(∀ r sm,freezeV sm.get k r=some v→K r sm)→wpZ P nt 1 bd (retN nt rs (EndK 1 K)) (argE 0 args []) ⟨[],1⟩):PCall P f args v:=
 PCall_ctr (k:=k) hca hcv (ctr_P (m:=⟨[],1⟩) hm hf hc hd hl h)
end Go.AE
end
section
namespace Go.Known
open Go Go.AE Go.Proofs
def ag85:AFn:=⟨41,[(2,none)],(sr [mnZ 2]
 (sr [mv 7 0,nc 8 7,fa 9 0 8,fa 10 1 9,lo 11 10,le 12 11,oZ 13 (.makeSl 1 1 [(.bool false)] (tZ 12) (tZ 12)),mv 3 13]
 (sr [mfZ 4]
 (.seq (sr [mv 14 0,nc 15 14,fa 16 0 15,fa 17 1 16,lo 18 17,le 19 18,mk 20 0]
 (.block 0 (.loop (sr [cL 21 20 19]
 (.seq (.cond (tZ 21) .skip
 (.exit 0))
 (.seq (.block 1 (sr [mv 22 20,ix 23 6 18 20,lw 24 6 23,oZ 6 (.alloc [(.int .i64 0),(.int .i64 0),(.int .i64 0),(.int .i64 0),(.int .i64 0),(.bool false)]),mv 5 22,so 6 6 24]
 (.seq (sr [fa 25 0 6,lo 26 25,cEk 27 26 1]
 (.cond (tZ 27) (rf [mv 28 0,nc 29 28,fa 30 2 29,lo 31 30,mv 32 5,ix 33 1 31 32,lo 34 33,mv 4 34])
 .skip))
 (rf [mv 35 3,mv 36 5,mv 37 4,ix 38 1 35 36,so 1 38 37]))))
 (rf [aDk 39 20 1,mv 20 39])))))))
 (sr [mv 40 3,mv 2 40]
 .ret)))))⟩
theorem ch85:cFn Tryz.prog Tryz.f106=some ag85:=by kernel_rfl
def ag86:AFn:=⟨93,[(8,(some (some 5)))],(sr [oZ 8 (.alloc [(.bool false),.nilSl,.nilSl,.nilSl,(.bool false)])]
 (.scope (.seq (.region true [mv 16 0,nc 17 16,fa 18 0 17,fa 19 1 18,lo 20 19,le 21 20,mv 22 0,nc 23 22,fa 24 3 23,lo 25 24,le 26 25,mv 9 21,mv 10 26])
 (sr [mv 27 3,mv 28 1,aQk 29 28 2,ix 30 1 27 29,lo 31 30,no 32 31,oZ 33 (.build [(.bool false),.nilSl,.nilSl,.nilSl,(.bool false)] [(0,1,tZ 32)]),oZ 11 (.alloc [(.bool false),.nilSl,.nilSl,.nilSl,(.bool false)]),so 5 11 33]
 (.seq .skip
 (.seq (sr [mv 34 1,mv 12 34]
 (.block 0 (.loop (.seq (.block 1 (.seq (sr [mv 38 12,mv 39 9,oZ 40 (.bin .mul .num (kZ 2) (tZ 39)),cL 41 38 40]
 (.cond (tZ 41) (.seq (sr [mv 42 2,mv 43 12,ix 44 1 42 43,lo 45 44]
 (.cond (tZ 45) (.exit 0)
 .skip))
 (sr [mv 46 2,mv 47 12,ix 48 1 46 47,pZ (.store 1 (tZ 48) (bZ true))]
 (sr [fa 49 1 11,lo 50 49,mv 51 12,oZ 52 (.mkSl 1 1 [(.int .i64 0)] [(0,tZ 51)]),oZ 53 (.append 1 8 [(.int .i64 0)] (tZ 50) (tZ 52)),fa 54 1 11,so 1 54 53]
 (.exit 1))))
 .skip))
 (sr [mv 55 12,mv 56 9,oZ 57 (.bin .mul .num (kZ 2) (tZ 56)),aS 58 55 57,aQk 59 58 2,mv 13 59]
 (sr [mv 61 0,mv 62 13,ca2 63 132 61 62,mv 60 63,ex 64 60 0,ex 65 60 1,mv 14 64,mv 15 65]
 (.seq (sr [mv 66 12,aRk 67 66 2,cEk 68 67 1]
 (.cond (tZ 68) (sr [mv 69 14,ca1 70 133 69]
 (rf [mv 71 15,ca1 72 134 71]))
 .skip))
 (.seq (.region true [fa 73 2 11,lo 74 73,mv 75 14,oZ 76 (.append 2 16 [(.int .i64 0),(.int .i64 0)] (tZ 74) (tZ 75)),fa 77 3 11,⟨(some 78),.load none (tZ 77),none,[3]⟩,mv 79 15,oZ 80 (.append 1 8 [(.int .i64 0)] (tZ 78) (tZ 79)),fa 81 2 11,so 1 81 76,fa 82 3 11,so 1 82 80])
 (rf [fa 83 4 11,lo 84 83,mv 85 84,gfm 86 85 13,gfm 87 85 10,gZ 88 85 false (.bin .sub .num (tZ 87) (kZ 1)),gZ 89 85 false (.bin .eql .num (tZ 86) (tZ 88)),pk1 90 85 89,fa 91 4 11,so 1 91 90])))))))
 (rf [mv 35 0,mv 36 12,ca2 37 121 35 36,mv 12 37])))))
 (sr [lw 92 5 11,so 5 8 92]
 .ret)))))))⟩
theorem ch86:cFn Tryz.prog Tryz.f107=some ag86:=by kernel_rfl
def ag143:AFn:=⟨98,[(4,none),(5,none)],(sr [mnZ 4,mnZ 5]
 (sr [mv 14 0,nc 15 14,fa 16 3 15,lo 17 16,le 18 17,mv 6 18]
 (.seq (.region true [mv 19 0,nc 20 19,fa 21 0 20,fa 22 1 21,lo 23 22,mv 24 0,nc 25 24,fa 26 3 25,lo 27 26,mv 28 1,ix 29 1 27 28,lo 30 29,ix 31 6 23 30,lw 32 6 31,mv 33 0,nc 34 33,fa 35 0 34,fa 36 1 35,lo 37 36,mv 38 0,nc 39 38,fa 40 3 39,lo 41 40,mv 42 1,aDk 43 42 1,mv 44 6,aR 45 43 44,ix 46 1 41 45,lo 47 46,ix 48 6 37 47,lw 49 6 48,⟨(some 7),.alloc [(.int .i64 0),(.int .i64 0),(.int .i64 0),(.int .i64 0),(.int .i64 0),(.bool false)],none,[4,8,10,11,12,13,18,22,27,28,29,30]⟩,⟨(some 8),.alloc [(.int .i64 0),(.int .i64 0),(.int .i64 0),(.int .i64 0),(.int .i64 0),(.bool false)],none,[4,8,10,11,12,13,18,22,27,28,29,30,31]⟩,⟨none,.store 6 (tZ 7) (tZ 32),none,[18,22,27,28,29,30]⟩,so 6 8 49])
 (sr [fa 50 1 7,lo 51 50,fa 52 2 7,lo 53 52,oZ 54 (.build [(.int .i64 0),(.int .i64 0)] [(0,1,tZ 51),(1,1,tZ 53)]),oZ 9 (.alloc [(.int .i64 0),(.int .i64 0)]),so 2 9 54]
 (sr [fa 55 1 8,lo 56 55,fa 57 2 8,lo 58 57,aSk 59 58 1,oZ 60 (.build [(.int .i64 0),(.int .i64 0)] [(0,1,tZ 56),(1,1,tZ 59)]),oZ 10 (.alloc [(.int .i64 0),(.int .i64 0)]),so 2 10 60]
 (.seq (sr [mv 61 1,mv 62 6,aSk 63 62 1,cL 64 61 63]
 (.cond (tZ 64) (sr [lw 65 2 9,lw 66 2 10,oZ 67 (.call (.fn 144) [tZ 65,tZ 66,(.const .nilSl),(.const .nilSl)]),ex 68 67 0,ex 69 67 1,mv 4 68,mv 5 69]
 .ret)
 .skip))
 (sr [mv 70 0,nc 71 70,fa 72 0 71,fa 73 0 72,lo 74 73,oZ 75 (.build [(.int .i64 0),(.int .i64 0)] [(0,1,tZ 74)]),oZ 11 (.alloc [(.int .i64 0),(.int .i64 0)]),so 2 11 75]
 (.seq (.seq (.region true [fa 76 1 7,lo 77 76,mv 78 0,nc 79 78,fa 80 0 79,fa 81 0 80,lo 82 81,cE 83 77 82])
 (.cond (tZ 83) (rf [lw 84 2 9,so 2 11 84])
 .skip))
 (sr [lw 86 2 9,lw 87 2 11,oZ 88 (.call (.fn 144) [tZ 86,tZ 87,(.const .nilSl),(.const .nilSl)]),mv 85 88,ex 89 85 0,ex 90 85 1,mv 12 89,mv 13 90]
 (sr [oZ 91 (.build [(.int .i64 0),(.int .i64 0)] []),lw 92 2 10,mv 93 12,mv 94 13,oZ 95 (.call (.fn 144) [tZ 91,tZ 92,tZ 93,tZ 94]),ex 96 95 0,ex 97 95 1,mv 4 96,mv 5 97]
 .ret))))))))))⟩
theorem ch143:cFn Tryz.prog Tryz.f132=some ag143:=by kernel_rfl
def ag179:AFn:=⟨33,[(8,none),(9,none)],(sr [bo 4 0,bo 5 1,mnZ 8,mnZ 9]
 (.seq (.block 0 (.loop (.seq (sr [fa 10 0 4,lo 11 10,fa 12 0 5,lo 13 12,cL 14 11 13]
 (.cond (tZ 14) .skip
 (.exit 0)))
 (.block 1 (sr [mv 15 2,lw 16 2 4,oZ 17 (.mkSl 2 1 [(.int .i64 0),(.int .i64 0)] [(0,tZ 16)]),oZ 18 (.append 2 16 [(.int .i64 0),(.int .i64 0)] (tZ 15) (tZ 17)),mv 2 18]
 (sr [fa 19 0 4,lo 20 19,aDk 21 20 1,oZ 22 (.build [(.int .i64 0),(.int .i64 0)] [(0,1,tZ 21)]),so 2 4 22]
 (rf [mv 23 3,fa 24 0 4,lo 25 24,oZ 26 (.mkSl 1 1 [(.int .i64 0)] [(0,tZ 25)]),oZ 27 (.append 1 8 [(.int .i64 0)] (tZ 23) (tZ 26)),mv 3 27])))))))
 (sr [mv 28 2,lw 29 2 5,oZ 30 (.mkSl 2 1 [(.int .i64 0),(.int .i64 0)] [(0,tZ 29)]),oZ 31 (.append 2 16 [(.int .i64 0),(.int .i64 0)] (tZ 28) (tZ 30)),mv 32 3,mv 8 31,mv 9 32]
 .ret)))⟩
theorem ch179:cFn Tryz.prog Tryz.f144=some ag179:=by kernel_rfl
def ag144:AFn:=⟨28,[],(sr [mv 4 0,le 5 4,aSk 6 5 1,mk 2 0,mv 3 6]
 (.block 0 (.loop (.seq (sr [mv 7 2,mv 8 3,cL 9 7 8]
 (.cond (tZ 9) .skip
 (.exit 0)))
 (.seq (.block 1 (.region true [mv 14 0,mv 15 2,mv 16 0,mv 17 3,mv 18 0,mv 19 3,ix 20 2 18 19,lw 21 2 20,mv 22 0,mv 23 2,ix 24 2 22 23,lw 25 2 24,ix 26 2 14 15,so 2 26 21,ix 27 2 16 17,so 2 27 25]))
 (rf [mv 10 2,aDk 11 10 1,mv 12 3,aSk 13 12 1,mv 2 11,mv 3 13]))))))⟩
theorem ch144:cFn Tryz.prog Tryz.f133=some ag144:=by kernel_rfl
def ag145:AFn:=⟨28,[],(sr [mv 4 0,le 5 4,aSk 6 5 1,mk 2 0,mv 3 6]
 (.block 0 (.loop (.seq (sr [mv 7 2,mv 8 3,cL 9 7 8]
 (.cond (tZ 9) .skip
 (.exit 0)))
 (.seq (.block 1 (.region true [mv 14 0,mv 15 2,mv 16 0,mv 17 3,mv 18 0,mv 19 3,ix 20 1 18 19,lo 21 20,mv 22 0,mv 23 2,ix 24 1 22 23,lo 25 24,ix 26 1 14 15,so 1 26 21,ix 27 1 16 17,so 1 27 25]))
 (rf [mv 10 2,aDk 11 10 1,mv 12 3,aSk 13 12 1,mv 2 11,mv 3 13]))))))⟩
theorem ch145:cFn Tryz.prog Tryz.f134=some ag145:=by kernel_rfl
end Go.Known
end
section
namespace Go.Known
open Go Go.AE Go.Proofs
set_option maxRecDepth 100000
def aq65:AFn:=⟨18,[(6,none)],(sr [bo 3 0,mk 6 0]
 (sr [mv 8 1,oZ 9 (.bin .mul .num (kZ 2) (tZ 8)),aDk 10 9 1,oZ 7 (.alloc [(.int .i64 0)]),so 1 7 10]
 (.seq (sr [mv 11 2]
 (.cond (tZ 11) (rf [mv 12 1,oZ 13 (.bin .mul .num (kZ 2) (tZ 12)),so 1 7 13])
 .skip))
 (sr [fa 14 0 3,lo 15 14,oZ 16 (.mkFunc (.func 80) [] [tZ 7]),ca2 17 79 15 16,mv 6 17]
 .ret))))⟩
theorem cq65:cFn Tryz.prog Tryz.f65=some aq65:=by kernel_rfl
theorem gq65:GD 65 aq65:=gG Tryz.func65 cq65 (by kernel_rfl)
def aq80:AFn:=⟨8,[(3,none)],(sr [bo 2 0,mfZ 3]
 (sr [fa 4 1 2,lo 5 4,lo 6 1,ca2 7 81 5 6,mv 3 7]
 .ret))⟩
theorem cq80:cFn Tryz.prog Tryz.f80=some aq80:=by kernel_rfl
theorem gq80:GD 80 aq80:=gG Tryz.func80 cq80 (by kernel_rfl)
def aq8:AFn:=⟨126,[(0,none)],(sr [mfZ 0]
 (sr [oZ 15 (.call (.fn 9) [kZ 1]),mv 14 15,ex 16 14 0,ex 17 14 1,oZ 1 (.alloc [.nilSl,(.int .i64 0),(.int .i64 0)]),so 3 1 16,mv 2 17]
 (sr [lw 19 3 1,oZ 20 (.mkSl 1 4 [(.int .i64 0)] [(0,kZ 1),(1,kZ 5),(2,kZ 6),(3,kZ 10)]),ca2 21 19 19 20,mv 18 21,ex 22 18 0,ex 23 18 1,oZ 3 (.alloc [(.int .i64 0),.nilSl]),so 2 3 22,mv 4 23]
 (sr [lw 25 3 1,oZ 26 (.mkSl 1 2 [(.int .i64 0)] [(0,kZ 1),(1,kZ 10)]),ca2 27 19 25 26,mv 24 27,ex 28 24 0,ex 29 24 1,oZ 5 (.alloc [(.int .i64 0),.nilSl]),so 2 5 28,mv 6 29]
 (.seq (sr [mv 30 2,cNk 31 30 0,mv 32 31,gfm 33 32 4,gZ 34 32 false (.bin .neq .num (tZ 33) (kZ 0)),pk1 35 32 34,mv 36 35,gfm 37 36 6,gZ 38 36 false (.bin .neq .num (tZ 37) (kZ 0)),pk1 39 36 38,mv 40 39,gZ 41 40 false (.load (some 2) (tZ 3)),gZ 42 40 false (.call (.fn 29) [tZ 41]),gZ 43 40 false (.bin .neq .num (tZ 42) (.const (.str [49,48,58,32,48,46,49,32,49,46,49,32,52,46,49,32,53,46,49,32,53,46,50,32,54,46,49,32,57,46,49,32,49,48,46,49]))),pk1 44 40 43]
 (.cond (tZ 44) (sr [mfZ 0]
 .ret)
 .skip))
 (sr [lw 46 3 1,lw 47 2 3,oZ 48 (.build [(.int .i64 0),(.int .i64 0),(.bool false),(.int .i64 0)] [(0,1,kZ 5)]),oZ 49 (.build [(.int .i64 0),(.int .i64 0),(.int .i64 0),(.int .i64 0),(.bool false),(.int .i64 0),.nilSl,(.bool false)] [(0,1,kZ 3),(1,1,kZ 3),(2,4,tZ 48)]),ca3 50 30 46 47 49,mv 45 50,ex 51 45 0,ex 52 45 1,ex 53 45 2,oZ 7 (.alloc [(.int .i64 0),.nilSl]),so 2 7 51,mv 8 52,mv 2 53]
 (sr [lw 55 3 1,lw 56 2 5,oZ 57 (.build [(.int .i64 0),(.int .i64 0),(.int .i64 0),(.int .i64 0),(.bool false),(.int .i64 0),.nilSl,(.bool false)] [(0,1,kZ 4),(1,1,kZ 1),(7,1,bZ true)]),ca3 58 30 55 56 57,mv 54 58,ex 59 54 0,ex 60 54 1,ex 61 54 2,oZ 9 (.alloc [(.int .i64 0),.nilSl]),so 2 9 59,mv 10 60,mv 4 61]
 (sr [lw 63 3 1,lw 64 2 5,oZ 65 (.build [(.int .i64 0),(.int .i64 0),(.int .i64 0),(.int .i64 0),(.bool false),(.int .i64 0),.nilSl,(.bool false)] [(0,1,kZ 1),(1,1,kZ 10)]),oZ 66 (.build [(.int .i64 0),(.int .i64 0),(.int .i64 0),(.int .i64 0),(.bool false),(.int .i64 0),.nilSl,(.bool false)] [(0,1,kZ 1),(1,1,kZ 1)]),oZ 67 (.mkSl 8 2 [(.int .i64 0),(.int .i64 0),(.int .i64 0),(.int .i64 0),(.bool false),(.int .i64 0),.nilSl,(.bool false)] [(0,tZ 65),(1,tZ 66)]),ca3 68 28 63 64 67,mv 62 68,ex 69 62 0,ex 70 62 1,ex 71 62 2,oZ 11 (.alloc [(.int .i64 0),.nilSl]),so 2 11 69,mv 12 70,mv 6 71]
 (.seq (sr [mv 72 2,cNk 73 72 0,mv 74 73,gfm 75 74 4,gZ 76 74 false (.bin .neq .num (tZ 75) (kZ 0)),pk1 77 74 76,mv 78 77,gfm 79 78 6,gZ 80 78 false (.bin .neq .num (tZ 79) (kZ 0)),pk1 81 78 80,mv 82 81,gfm 83 82 12,gZ 84 82 false (.bin .neq .num (tZ 83) (kZ 2)),pk1 85 82 84,mv 86 85,gff 87 86 1 11,gfl 88 86 87,gZ 89 86 false (.lenSl (tZ 88)),gZ 90 86 false (.bin .neq .num (tZ 89) (kZ 0)),pk1 91 86 90]
 (.cond (tZ 91) (sr [mfZ 0]
 .ret)
 .skip))
 (.seq (sr [lw 92 2 7,ca1 93 29 92,oZ 94 (.bin .neq .num (tZ 93) (.const (.str [49,48,58,32,48,46,49,32,49,46,49,32,50,46,49,32,51,46,49,32,52,46,49,32,53,46,49,32,53,46,50,32,54,46,49,32,57,46,49,32,49,48,46,49]))),mv 95 94,gZ 96 95 false (.load (some 2) (tZ 9)),gZ 97 95 false (.call (.fn 29) [tZ 96]),gZ 98 95 false (.bin .neq .num (tZ 97) (.const (.str [49,48,58,32,49,46,49,32,48,46,49,32,49,117,43,32,57,46,49,32,49,48,46,49,32,49,111,43]))),pk1 99 95 98]
 (.cond (tZ 99) (sr [mfZ 0]
 .ret)
 .skip))
 (sr [lw 101 3 1,lw 102 2 3,oZ 103 (.build [(.int .i64 0),(.int .i64 0),(.bool false),(.int .i64 0)] [(0,1,kZ 5)]),oZ 104 (.call (.fn 31) [tZ 101,tZ 102,kZ 9,tZ 103]),mv 100 104,ex 105 100 0,ex 106 100 1,mv 13 105,mv 2 106]
 (sr [mv 107 2,cEk 108 107 0,mv 109 108,gtm 110 109 13,gZ 111 109 true (.lenSl (tZ 110)),gZ 112 109 true (.bin .eql .num (tZ 111) (kZ 1)),pk0 113 109 112,mv 114 113,gtm 115 114 13,gZ 116 114 true (.idxA 4 (tZ 115) (kZ 0)),gZ 117 114 true (.load (some 4) (tZ 116)),gZ 118 114 true (.build [(.int .i64 0),(.int .i64 0),(.bool false),(.int .i64 0)] [(0,1,kZ 6),(1,1,kZ 1)]),gZ 119 114 true (.bin .eql (.flat [.int,.int,.bool,.int]) (tZ 117) (tZ 118)),pk0 120 114 119,mv 121 120,gZ 122 121 true (.build [(.int .i64 0),(.bool false),(.int .i64 0)] [(0,1,kZ 2),(1,1,bZ true),(2,1,kZ 5)]),gZ 123 121 true (.call (.fn 17) [tZ 122]),gZ 124 121 true (.bin .eql .num (tZ 123) (.const (.str [50,82,53]))),pk0 125 121 124,mv 0 125]
 .ret))))))))))))⟩
theorem cq8:cFn Tryz.prog Tryz.f8=some aq8:=by kernel_rfl
theorem gq8:GD 8 aq8:=gG Tryz.func8 cq8 (by kernel_rfl)
def aq125:AFn:=⟨6,[(2,none)],(sr [bo 1 0,mk 2 0]
 (sr [lw 3 2 1,ca1 4 73 3,aQk 5 4 2,mv 2 5]
 .ret))⟩
theorem cq125:cFn Tryz.prog Tryz.f125=some aq125:=by kernel_rfl
theorem gq125:GD 125 aq125:=gG Tryz.func125 cq125 (by kernel_rfl)
def aq30:AFn:=⟨43,[(6,(some (some 2))),(7,none),(8,none)],(sr [bo 3 0,bo 4 1,bo 5 2,oZ 6 (.alloc [(.int .i64 0),.nilSl]),mnZ 7,mk 8 0]
 (sr [lw 12 3 3,lw 13 2 4,lw 14 8 5,ca3 15 45 12 13 14,mv 11 15,ex 16 11 0,ex 17 11 1,mv 9 16,mv 10 17]
 (.seq (sr [mv 18 10,cNk 19 18 0]
 (.cond (tZ 19) (sr [oZ 20 (.build [(.int .i64 0),.nilSl] []),mv 21 10,so 2 6 20,mnZ 7,mv 8 21]
 .ret)
 .skip))
 (sr [mv 22 9,lw 23 8 5,ca2 24 46 22 23]
 (.seq (sr [mv 25 9,nc 26 25,fa 27 6 26,lo 28 27,cNk 29 28 0]
 (.cond (tZ 29) (.seq (.region true [oZ 30 (.build [(.int .i64 0),.nilSl] []),mv 31 9,nc 32 31,fa 33 6 32,lo 34 33,⟨none,.store 2 (tZ 6) (tZ 30),none,[4]⟩,mnZ 7,mv 8 34])
 .ret)
 .skip))
 (.seq (.region true [mv 35 9,nc 36 35,fa 37 3 36,lw 38 2 37,mv 39 9,nc 40 39,fa 41 5 40,lo 42 41,⟨none,.store 2 (tZ 6) (tZ 38),none,[7]⟩,mv 7 42,mk 8 0])
 .ret))))))⟩
theorem cq30:cFn Tryz.prog Tryz.f30=some aq30:=by kernel_rfl
theorem gq30:GD 30 aq30:=gG Tryz.func30 cq30 (by kernel_rfl)
def aq19:AFn:=⟨72,[(4,(some (some 2))),(5,none)],(sr [bo 2 0,oZ 4 (.alloc [(.int .i64 0),.nilSl]),mk 5 0]
 (.seq (sr [lw 10 3 2,ca1 11 10 10,no 12 11]
 (.cond (tZ 12) (sr [oZ 13 (.build [(.int .i64 0),.nilSl] []),so 2 4 13,mk 5 2]
 .ret)
 .skip))
 (sr [fa 14 0 2,lo 15 14,le 16 15,oZ 17 (.build [(.int .i64 0),.nilSl] [(0,1,tZ 16)]),oZ 6 (.alloc [(.int .i64 0),.nilSl]),so 2 6 17]
 (.seq (sr [mv 18 1,le 19 18,mk 20 0]
 (.block 0 (.loop (sr [cL 21 20 19]
 (.seq (.cond (tZ 21) .skip
 (.exit 0))
 (.seq (.block 1 (sr [mv 22 20,ix 23 1 18 20,lo 24 23,mv 7 22,mv 8 24]
 (sr [mk 9 1]
 (.seq (sr [mv 25 7,cGk 26 25 0,mv 27 26,gtm 28 27 1,gtm 29 27 7,gZ 30 27 true (.bin .sub .num (tZ 29) (kZ 1)),gZ 31 27 true (.idxA 1 (tZ 28) (tZ 30)),gtl 32 27 31,gtm 33 27 8,gZ 34 27 true (.bin .geq .num (tZ 32) (tZ 33)),pk0 35 27 34,mv 36 35,gfm 37 36 8,gZ 38 36 false (.bin .lss .num (tZ 37) (kZ 1)),pk1 39 36 38,mv 40 39,gfm 41 40 8,gff 42 40 0 6,gfl 43 40 42,gZ 44 40 false (.bin .gtr .num (tZ 41) (tZ 43)),pk1 45 40 44]
 (.cond (tZ 45) (sr [oZ 46 (.build [(.int .i64 0),.nilSl] []),so 2 4 46,mk 5 2]
 .ret)
 .skip))
 (.seq (sr [mv 47 7,cGk 48 47 0,mv 49 48,gtm 50 49 1,gtm 51 49 7,gZ 52 49 true (.bin .sub .num (tZ 51) (kZ 1)),gZ 53 49 true (.idxA 1 (tZ 50) (tZ 52)),gtl 54 49 53,gtm 55 49 8,gZ 56 49 true (.bin .sub .num (tZ 55) (kZ 1)),gZ 57 49 true (.bin .eql .num (tZ 54) (tZ 56)),pk0 58 49 57]
 (.cond (tZ 58) (rf [mk 9 2])
 .skip))
 (rf [fa 59 1 6,lo 60 59,mv 61 8,aSk 62 61 1,mv 63 9,oZ 64 (.build [(.int .i64 0),(.int .i64 0),(.int .i64 0),(.int .i64 0),(.int .i64 0),(.bool false)] [(0,1,kZ 1),(1,1,tZ 62),(2,1,tZ 63)]),mv 65 8,oZ 66 (.build [(.int .i64 0),(.int .i64 0),(.int .i64 0),(.int .i64 0),(.int .i64 0),(.bool false)] [(0,1,kZ 1),(1,1,tZ 65),(2,1,kZ 1)]),oZ 67 (.mkSl 6 2 [(.int .i64 0),(.int .i64 0),(.int .i64 0),(.int .i64 0),(.int .i64 0),(.bool false)] [(0,tZ 64),(1,tZ 66)]),oZ 68 (.append 6 48 [(.int .i64 0),(.int .i64 0),(.int .i64 0),(.int .i64 0),(.int .i64 0),(.bool false)] (tZ 60) (tZ 67)),fa 69 1 6,so 1 69 68]))))))
 (rf [aDk 70 20 1,mv 20 70])))))))
 (sr [lw 71 2 6,so 2 4 71,mk 5 0]
 .ret)))))⟩
theorem cq19:cFn Tryz.prog Tryz.f19=some aq19:=by kernel_rfl
theorem gq19:GD 19 aq19:=gG Tryz.func19 cq19 (by kernel_rfl)
def aq17:AFn:=⟨21,[(2,none)],(sr [bo 1 0,oZ 2 (.mov (.const (.str [])))]
 (sr [oZ 3 (.mov (.const (.str [])))]
 (.seq (sr [fa 4 0 1,lo 5 4,cNk 6 5 1]
 (.cond (tZ 6) (rf [fa 7 0 1,lo 8 7,ca1 9 35 8,mv 3 9])
 .skip))
 (.seq (sr [fa 10 1 1,lo 11 10]
 (.cond (tZ 11) (rf [mv 12 3,oZ 13 (.bin .add .num (tZ 12) (.const (.str [82]))),mv 3 13])
 (rf [mv 14 3,oZ 15 (.bin .add .num (tZ 14) (.const (.str [76]))),mv 3 15])))
 (sr [mv 16 3,fa 17 2 1,lo 18 17,ca1 19 35 18,aD 20 16 19,mv 2 20]
 .ret)))))⟩
theorem cq17:cFn Tryz.prog Tryz.f17=some aq17:=by kernel_rfl
theorem gq17:GD 17 aq17:=gG Tryz.func17 cq17 (by kernel_rfl)
def aq31:AFn:=⟨54,[(8,none),(9,none)],(sr [bo 4 0,bo 5 1,bo 7 3,mnZ 8,mk 9 0]
 (.seq (sr [lw 14 3 4,lw 15 2 5,ca2 16 37 14 15,mv 10 16]
 (sr [mv 17 10,cNk 18 17 0]
 (.cond (tZ 18) (sr [mv 19 10,mnZ 8,mv 9 19]
 .ret)
 .skip)))
 (.seq (sr [mv 20 2,cLk 21 20 1,mv 22 21,gfm 23 22 2,gff 24 22 0 5,gfl 25 22 24,gZ 26 22 false (.bin .gtr .num (tZ 23) (tZ 25)),pk1 27 22 26,mv 28 27,gZ 29 28 false (.load (some 3) (tZ 4)),gZ 30 28 false (.load (some 4) (tZ 7)),gZ 31 28 false (.call (.fn 47) [tZ 29,tZ 30]),gZ 32 28 false (.un .not (tZ 31)),pk1 33 28 32]
 (.cond (tZ 33) (sr [mnZ 8,mk 9 2]
 .ret)
 .skip))
 (sr [lw 35 3 4,lw 36 2 5,lw 37 4 7,ca3 38 48 35 36 37,mv 34 38,ex 39 34 0,ex 40 34 1,mv 11 39,mv 12 40]
 (.seq (sr [mv 41 12,no 42 41]
 (.cond (tZ 42) (sr [mnZ 8,mk 9 8]
 .ret)
 .skip))
 (sr [lw 44 3 4,lw 45 2 5,mv 46 2,mv 47 11,oZ 48 (.call (.fn 49) [tZ 44,tZ 45,tZ 46,tZ 47]),mv 43 48,ex 49 43 0,ex 50 43 1,mv 13 49,mv 12 50]
 (.seq (sr [mv 51 12,no 52 51]
 (.cond (tZ 52) (sr [mnZ 8,mk 9 4]
 .ret)
 .skip))
 (sr [mv 53 13,mv 8 53,mk 9 0]
 .ret))))))))⟩
theorem cq31:cFn Tryz.prog Tryz.f31=some aq31:=by kernel_rfl
theorem gq31:GD 31 aq31:=gG Tryz.func31 cq31 (by kernel_rfl)
def aq28:AFn:=⟨51,[(6,(some (some 2))),(7,none),(8,none)],(sr [bo 3 0,bo 4 1,oZ 6 (.alloc [(.int .i64 0),.nilSl]),mk 7 0,mk 8 0]
 (.seq (sr [lw 15 3 3,lw 16 2 4,ca2 17 37 15 16,mv 9 17]
 (sr [mv 18 9,cNk 19 18 0]
 (.cond (tZ 19) (sr [oZ 20 (.build [(.int .i64 0),.nilSl] []),mv 21 9,so 2 6 20,mk 7 0,mv 8 21]
 .ret)
 .skip)))
 (sr [fa 22 1 4,lo 23 22,ca1 24 44 23,fa 25 1 4,so 1 25 24]
 (.seq (sr [mv 26 2,le 27 26,mk 28 0]
 (.block 0 (.loop (sr [cL 29 28 27]
 (.seq (.cond (tZ 29) .skip
 (.exit 0))
 (.seq (.block 1 (sr [mv 30 28,ix 31 8 26 28,lw 32 8 31,oZ 11 (.alloc [(.int .i64 0),(.int .i64 0),(.int .i64 0),(.int .i64 0),(.bool false),(.int .i64 0),.nilSl,(.bool false)]),mv 10 30,so 8 11 32]
 (sr [lw 34 3 3,lw 35 2 4,lw 36 8 11,ca3 37 30 34 35 36,mv 33 37,ex 38 33 0,ex 39 33 1,ex 40 33 2,oZ 12 (.alloc [(.int .i64 0),.nilSl]),so 2 12 38,mv 13 39,mv 14 40]
 (.seq (sr [mv 41 14,cNk 42 41 0]
 (.cond (tZ 42) (sr [oZ 43 (.build [(.int .i64 0),.nilSl] []),mv 44 10,mv 45 14,so 2 6 43,mv 7 44,mv 8 45]
 .ret)
 .skip))
 (rf [lw 46 2 12,so 2 4 46])))))
 (rf [aDk 47 28 1,mv 28 47])))))))
 (sr [lw 48 2 4,mv 49 2,le 50 49,so 2 6 48,mv 7 50,mk 8 0]
 .ret)))))⟩
theorem cq28:cFn Tryz.prog Tryz.f28=some aq28:=by kernel_rfl
theorem gq28:GD 28 aq28:=gG Tryz.func28 cq28 (by kernel_rfl)
def aq9:AFn:=⟨46,[(2,(some (some 3))),(3,none)],(sr [oZ 2 (.alloc [.nilSl,(.int .i64 0),(.int .i64 0)]),mk 3 0]
 (.seq (sr [mv 8 0,cLk 9 8 0,mv 10 9,gfm 11 10 0,gZ 12 10 false (.bin .gtr .num (tZ 11) (kZ 4)),pk1 13 10 12]
 (.cond (tZ 13) (sr [oZ 14 (.build [.nilSl,(.int .i64 0),(.int .i64 0)] []),so 3 2 14,mk 3 2]
 .ret)
 .skip))
 (sr [oZ 15 (.build [.nilSl,(.int .i64 0),(.int .i64 0)] [(1,1,kZ 6),(2,1,kZ 4)]),oZ 4 (.alloc [.nilSl,(.int .i64 0),(.int .i64 0)]),so 3 4 15]
 (.seq (sr [mk 5 1]
 (.block 0 (.loop (.seq (sr [mv 16 5,mv 17 0,cK 18 16 17]
 (.cond (tZ 18) .skip
 (.exit 0)))
 (.seq (.block 1 (.seq (sr [mk 6 1]
 (.block 2 (.loop (.seq (sr [mv 21 6,cKk 22 21 5]
 (.cond (tZ 22) .skip
 (.exit 2)))
 (.seq (.block 3 (rf [fa 25 0 4,lo 26 25,mv 27 5,mv 28 6,oZ 29 (.build [(.int .i64 0),(.bool false),(.int .i64 0)] [(0,1,tZ 27),(2,1,tZ 28)]),oZ 30 (.mkSl 3 1 [(.int .i64 0),(.bool false),(.int .i64 0)] [(0,tZ 29)]),oZ 31 (.append 3 24 [(.int .i64 0),(.bool false),(.int .i64 0)] (tZ 26) (tZ 30)),fa 32 0 4,so 1 32 31]))
 (rf [mv 23 6,aDk 24 23 1,mv 6 24]))))))
 (sr [mk 7 5]
 (.block 4 (.loop (.seq (sr [mv 33 7,cHk 34 33 1]
 (.cond (tZ 34) .skip
 (.exit 4)))
 (.seq (.block 5 (rf [fa 37 0 4,lo 38 37,mv 39 5,mv 40 7,oZ 41 (.build [(.int .i64 0),(.bool false),(.int .i64 0)] [(0,1,tZ 39),(1,1,bZ true),(2,1,tZ 40)]),oZ 42 (.mkSl 3 1 [(.int .i64 0),(.bool false),(.int .i64 0)] [(0,tZ 41)]),oZ 43 (.append 3 24 [(.int .i64 0),(.bool false),(.int .i64 0)] (tZ 38) (tZ 42)),fa 44 0 4,so 1 44 43]))
 (rf [mv 35 7,aSk 36 35 1,mv 7 36]))))))))
 (rf [mv 19 5,aDk 20 19 1,mv 5 20]))))))
 (sr [lw 45 3 4,so 3 2 45,mk 3 0]
 .ret)))))⟩
theorem cq9:cFn Tryz.prog Tryz.f9=some aq9:=by kernel_rfl
theorem gq9:GD 9 aq9:=gG Tryz.func9 cq9 (by kernel_rfl)
def aq63:AFn:=⟨12,[(2,(some (some 1)))],(sr [bo 1 0,oZ 2 (.alloc [.nilSl])]
 (sr [lw 6 2 1,ca1 7 77 6,mv 5 7,ex 8 5 0,ex 9 5 1,mv 3 8,mv 4 9]
 (sr [mv 10 3,oZ 11 (.build [.nilSl] [(0,1,tZ 10)]),so 1 2 11]
 .ret)))⟩
theorem cq63:cFn Tryz.prog Tryz.f63=some aq63:=by kernel_rfl
theorem gq63:GD 63 aq63:=gG Tryz.func63 cq63 (by kernel_rfl)
def aq45:AFn:=⟨22,[(6,none),(7,none)],(sr [bo 3 0,bo 4 1,bo 5 2,oZ 6 (.mov (.const .nilPtr)),mk 7 0]
 (.seq (sr [lw 9 3 3,lw 10 2 4,ca2 11 37 9 10,mv 8 11]
 (sr [mv 12 8,cNk 13 12 0]
 (.cond (tZ 13) (sr [mv 14 8,oZ 6 (.mov (.const .nilPtr)),mv 7 14]
 .ret)
 .skip)))
 (.seq (sr [lw 15 3 3,lw 16 8 5,ca2 17 56 15 16]
 (.cond (tZ 17) (sr [oZ 6 (.mov (.const .nilPtr)),mk 7 2]
 .ret)
 .skip))
 (sr [lw 18 3 3,lw 19 2 4,oZ 20 (.build [.nilSl,(.int .i64 0),(.int .i64 0),(.int .i64 0),.nilSl,.nilSl,(.int .i64 0)] [(0,3,tZ 18),(3,2,tZ 19)]),bo 21 20,mv 6 21,mk 7 0]
 .ret))))⟩
theorem cq45:cFn Tryz.prog Tryz.f45=some aq45:=by kernel_rfl
theorem gq45:GD 45 aq45:=gG Tryz.func45 cq45 (by kernel_rfl)
def aq78:AFn:=⟨41,[(4,none)],(sr [bo 2 0,bo 3 1,mk 4 0]
 (sr [mk 5 0]
 (.seq (sr [fa 8 2 2,lo 9 8,fa 10 2 3,lo 11 10,oZ 12 (.bin .neq .bool (tZ 9) (tZ 11))]
 (.cond (tZ 12) (sr [mk 5 (-1)]
 (sr [fa 13 2 2,lo 14 13]
 (.cond (tZ 14) (rf [mk 5 1])
 .skip)))
 .skip))
 (.seq (sr [fa 15 0 2,lo 16 15,fa 17 0 3,lo 18 17,aS 19 16 18,fa 20 1 2,lo 21 20,fa 22 1 3,lo 23 22,aS 24 21 23,mv 25 5,fa 26 3 2,lo 27 26,fa 28 3 3,lo 29 28,aS 30 27 29,oZ 31 (.mkSl 1 4 [(.int .i64 0)] [(0,tZ 19),(1,tZ 24),(2,tZ 25),(3,tZ 30)]),le 32 31,mk 33 0]
 (.block 0 (.loop (sr [cL 34 33 32]
 (.seq (.cond (tZ 34) .skip
 (.exit 0))
 (.seq (.block 1 (sr [ix 35 1 31 33,lo 36 35,mv 7 36]
 (sr [mv 37 7,cNk 38 37 0]
 (.cond (tZ 38) (sr [mv 39 7,mv 4 39]
 .ret)
 .skip))))
 (rf [aDk 40 33 1,mv 33 40])))))))
 (sr [mk 4 0]
 .ret)))))⟩
theorem cq78:cFn Tryz.prog Tryz.f78=some aq78:=by kernel_rfl
theorem gq78:GD 78 aq78:=gG Tryz.func78 cq78 (by kernel_rfl)
def aq69:AFn:=⟨71,[(8,none)],(sr [bo 4 0,mnZ 8]
 (sr [mnZ 9]
 (.seq (.block 0 (.loop (.seq (sr [mv 16 2,mv 17 3,oZ 18 (.lookup .int (.int .i64 0) false (tZ 16) (tZ 17)),cGk 19 18 0]
 (.cond (tZ 19) .skip
 (.exit 0)))
 (.block 1 (sr [oZ 10 (.alloc [(.int .i64 0),(.int .i64 0),(.bool false),(.int .i64 0)])]
 (sr [mk 11 (-1)]
 (.seq (sr [mv 20 1,oZ 21 (.range (tZ 20))]
 (.block 2 (.loop (sr [oZ 22 (.nextM (tZ 21)),ex 23 22 0]
 (.seq (.cond (tZ 23) .skip
 (.exit 2))
 (.block 3 (sr [oZ 24 (.nextS (tZ 21)),ex 25 24 0,ex 26 24 1,oZ 13 (.alloc [(.int .i64 0),(.int .i64 0),(.bool false),(.int .i64 0)]),mv 12 25,so 4 13 26]
 (.seq (sr [lw 27 1 4,mv 28 3,mv 29 12,ca3 30 67 27 28 29,no 31 30]
 (.cond (tZ 31) (.exit 3)
 .skip))
 (sr [mv 33 2,lw 34 1 4,mv 35 3,mv 36 12,ca3 37 68 34 35 36,oZ 38 (.lookup .int (.int .i64 0) true (tZ 33) (tZ 37)),mv 32 38,ex 39 32 0,ex 40 32 1,mv 14 39,mv 15 40]
 (sr [mv 41 15,mv 42 41,gtm 43 42 14,gtm 44 42 2,gtm 45 42 3,gZ 46 42 true (.lookup .int (.int .i64 0) false (tZ 44) (tZ 45)),gZ 47 42 true (.bin .sub .num (tZ 46) (kZ 1)),gZ 48 42 true (.bin .eql .num (tZ 43) (tZ 47)),pk0 49 42 48,mv 50 49,gtm 51 50 11,gZ 52 50 true (.bin .lss .num (tZ 51) (kZ 0)),gtm 53 50 52,gZ 54 53 false (.load (some 4) (tZ 13)),gZ 55 53 false (.load (some 4) (tZ 10)),gZ 56 53 false (.call (.fn 78) [tZ 54,tZ 55]),gZ 57 53 false (.bin .lss .num (tZ 56) (kZ 0)),gZ 58 50 true (.pick (tZ 53) (bZ true) (tZ 57)),pk0 59 50 58]
 (.cond (tZ 59) (.region true [lw 60 4 13,lw 61 1 4,mv 62 3,mv 63 12,⟨(some 64),.call (.fn 68) [tZ 61,tZ 62,tZ 63],none,[0]⟩,so 4 10 60,mv 11 64])
 .skip)))))))))))
 (sr [mv 65 9,lw 66 4 10,oZ 67 (.mkSl 4 1 [(.int .i64 0),(.int .i64 0),(.bool false),(.int .i64 0)] [(0,tZ 66)]),oZ 68 (.append 4 32 [(.int .i64 0),(.int .i64 0),(.bool false),(.int .i64 0)] (tZ 65) (tZ 67)),mv 9 68]
 (rf [mv 69 11,mv 3 69])))))))))
 (sr [mv 70 9,mv 8 70]
 .ret))))⟩
theorem cq69:cFn Tryz.prog Tryz.f69=some aq69:=by kernel_rfl
theorem gq69:GD 69 aq69:=gG Tryz.func69 cq69 (by kernel_rfl)
def aq48:AFn:=⟨63,[(6,none),(7,none)],(sr [bo 3 0,bo 4 1,bo 5 2,mk 6 0,mfZ 7]
 (sr [lw 12 2 4,fa 13 0 5,lo 14 13,ca2 15 38 12 14,mv 8 15]
 (sr [fa 16 1 5,lo 17 16,mv 9 17]
 (.seq (sr [mv 18 9,cEk 19 18 0]
 (.cond (tZ 19) (rf [mv 20 8,le 21 20,mv 9 21])
 .skip))
 (.seq (sr [mv 22 9,cLk 23 22 1,mv 24 23,gfm 25 24 9,gfm 26 24 8,gZ 27 24 false (.lenSl (tZ 26)),gZ 28 24 false (.bin .gtr .num (tZ 25) (tZ 27)),pk1 29 24 28]
 (.cond (tZ 29) (sr [mk 6 0,mfZ 7]
 .ret)
 .skip))
 (sr [mv 30 8,mv 31 9,aSk 32 31 1,ix 33 2 30 32,fa 34 0 33,lo 35 34,mv 10 35]
 (.seq (.seq (.region true [lw 36 3 3,fa 37 0 5,lo 38 37,ca2 39 61 36 38,cEk 40 39 1,fa 41 2 5,⟨(some 42),.load none (tZ 41),none,[3]⟩,oZ 43 (.bin .neq .bool (tZ 40) (tZ 42))])
 (.cond (tZ 43) (rf [mv 44 8,mv 45 9,aSk 46 45 1,ix 47 2 44 46,fa 48 1 47,lo 49 48,mv 10 49])
 .skip))
 (sr [lw 50 2 4,mv 51 10,ca2 52 62 50 51,mv 11 52]
 (.seq (sr [fa 53 3 5,lo 54 53,mv 55 11,le 56 55,cH 57 54 56]
 (.cond (tZ 57) (sr [mk 6 0,mfZ 7]
 .ret)
 .skip))
 (sr [mv 58 11,fa 59 3 5,lo 60 59,ix 61 1 58 60,lo 62 61,mv 6 62,mtZ 7]
 .ret))))))))))⟩
theorem cq48:cFn Tryz.prog Tryz.f48=some aq48:=by kernel_rfl
theorem gq48:GD 48 aq48:=gG Tryz.func48 cq48 (by kernel_rfl)
def aq75:AFn:=⟨3,[(0,none)],(sr [oZ 0 (.mov (.const .nilMap))]
 (sr [oZ 1 (.mkMap),pZ (.mapUpd .int (tZ 1) (kZ 1) (.fn 102)),pZ (.mapUpd .int (tZ 1) (kZ 2) (.fn 103)),pZ (.mapUpd .int (tZ 1) (kZ 3) (.fn 104)),pZ (.mapUpd .int (tZ 1) (kZ 4) (.fn 105)),mv 2 1,mv 0 2]
 .ret))⟩
theorem cq75:cFn Tryz.prog Tryz.f75=some aq75:=by kernel_rfl
theorem gq75:GD 75 aq75:=gG Tryz.func75 cq75 (by kernel_rfl)
def aq76:AFn:=⟨23,[(4,none)],(sr [bo 2 0,mfZ 4]
 (sr [mtZ 5]
 (.seq (sr [fa 8 1 2,lo 9 8,mv 10 1,oZ 11 (.slSl 6 (tZ 9) none (some (tZ 10)) none),le 12 11,mk 13 0]
 (.block 0 (.loop (sr [cL 14 13 12]
 (.seq (.cond (tZ 14) .skip
 (.exit 0))
 (.seq (.block 1 (sr [ix 15 6 11 13,lw 16 6 15,oZ 7 (.alloc [(.int .i64 0),(.int .i64 0),(.int .i64 0),(.int .i64 0),(.int .i64 0),(.bool false)]),so 6 7 16]
 (sr [lw 17 6 7,ca1 18 52 17]
 (.cond (tZ 18) (rf [mv 19 5,no 20 19,mv 5 20])
 .skip))))
 (rf [aDk 21 13 1,mv 13 21])))))))
 (sr [mv 22 5,mv 4 22]
 .ret))))⟩
theorem cq76:cFn Tryz.prog Tryz.f76=some aq76:=by kernel_rfl
theorem gq76:GD 76 aq76:=gG Tryz.func76 cq76 (by kernel_rfl)
def aq47:AFn:=⟨26,[(4,none)],(sr [bo 2 0,bo 3 1,mfZ 4]
 (sr [fa 5 0 3,lo 6 5,cHk 7 6 1,mv 8 7,gtf 9 8 0 3,gtl 10 8 9,gtf 11 8 0 2,gtl 12 8 11,gZ 13 8 true (.lenSl (tZ 12)),gZ 14 8 true (.bin .leq .num (tZ 10) (tZ 13)),pk0 15 8 14,mv 16 15,gtf 17 16 1 3,gtl 18 16 17,gZ 19 16 true (.bin .geq .num (tZ 18) (kZ 0)),pk0 20 16 19,mv 21 20,gtf 22 21 3 3,gtl 23 21 22,gZ 24 21 true (.bin .geq .num (tZ 23) (kZ 0)),pk0 25 21 24,mv 4 25]
 .ret))⟩
theorem cq47:cFn Tryz.prog Tryz.f47=some aq47:=by kernel_rfl
theorem gq47:GD 47 aq47:=gG Tryz.func47 cq47 (by kernel_rfl)
def aq64:AFn:=⟨83,[(4,none)],(sr [bo 2 0,bo 3 1,oZ 4 (.mov (.const .nilMap))]
 (sr [oZ 16 (.mkMap),mv 5 16]
 (.seq (sr [mk 6 1]
 (.block 0 (.loop (.seq (sr [mv 17 6,fa 18 0 3,lo 19 18,cK 20 17 19]
 (.cond (tZ 20) .skip
 (.exit 0)))
 (.seq (.block 1 (sr [lw 23 2 3,mv 24 6,ca2 25 38 23 24,le 26 25,mk 27 0]
 (.block 2 (.loop (sr [cL 28 27 26]
 (.seq (.cond (tZ 28) .skip
 (.exit 2))
 (.seq (.block 3 (sr [mv 29 27,ix 30 2 25 27,lw 31 2 30,oZ 8 (.alloc [(.int .i64 0),(.int .i64 0)]),mv 7 29,so 2 8 31]
 (sr [fa 32 0 8,lo 33 32,fa 34 1 8,lo 35 34,oZ 36 (.mkSl 1 2 [(.int .i64 0)] [(0,tZ 33),(1,tZ 35)]),le 37 36,mk 38 0]
 (.block 4 (.loop (sr [cL 39 38 37]
 (.seq (.cond (tZ 39) .skip
 (.exit 4))
 (.seq (.block 5 (sr [mv 40 38,ix 41 1 36 38,lo 42 41,mv 9 40,mv 10 42]
 (sr [lw 43 2 3,mv 44 10,ca2 45 62 43 44,le 46 45,mk 47 0]
 (.block 6 (.loop (sr [cL 48 47 46]
 (.seq (.cond (tZ 48) .skip
 (.exit 6))
 (.seq (.block 7 (sr [mv 49 47,ix 50 1 45 47,lo 51 50,mv 11 49,mv 12 51]
 (sr [mv 52 6,mv 53 7,aDk 54 53 1,mv 55 9,lw 56 3 2,mv 57 6,ca2 58 61 56 57,cN 59 55 58,mv 60 11,oZ 61 (.build [(.int .i64 0),(.int .i64 0),(.bool false),(.int .i64 0)] [(0,1,tZ 52),(1,1,tZ 54),(2,1,tZ 59),(3,1,tZ 60)]),oZ 13 (.alloc [(.int .i64 0),(.int .i64 0),(.bool false),(.int .i64 0)]),so 4 13 61]
 (sr [mv 63 5,mv 64 12,oZ 65 (.lookup .int (.agg [(.int .i64 0),(.int .i64 0),(.bool false),(.int .i64 0)]) true (tZ 63) (tZ 64)),mv 62 65,ex 66 62 0,ex 67 62 1,oZ 14 (.alloc [(.int .i64 0),(.int .i64 0),(.bool false),(.int .i64 0)]),so 4 14 66,mv 15 67]
 (sr [mv 68 15,no 69 68,mv 70 69,gZ 71 70 false (.load (some 4) (tZ 13)),gZ 72 70 false (.load (some 4) (tZ 14)),gZ 73 70 false (.call (.fn 78) [tZ 71,tZ 72]),gZ 74 70 false (.bin .lss .num (tZ 73) (kZ 0)),pk1 75 70 74]
 (.cond (tZ 75) (rf [mv 76 5,mv 77 12,lw 78 4 13,pZ (.mapUpd .int (tZ 76) (tZ 77) (tZ 78))])
 .skip))))))
 (rf [aDk 79 47 1,mv 47 79])))))))))
 (rf [aDk 80 38 1,mv 38 80])))))))))
 (rf [aDk 81 27 1,mv 27 81]))))))))
 (rf [mv 21 6,aDk 22 21 1,mv 6 22]))))))
 (sr [mv 82 5,mv 4 82]
 .ret))))⟩
theorem cq64:cFn Tryz.prog Tryz.f64=some aq64:=by kernel_rfl
theorem gq64:GD 64 aq64:=gG Tryz.func64 cq64 (by kernel_rfl)
def aq61:AFn:=⟨12,[(4,none)],(sr [bo 2 0,mk 4 0]
 (.seq (sr [fa 5 0 2,lo 6 5,mv 7 1,aSk 8 7 1,ix 9 3 6 8,fa 10 1 9,lo 11 10]
 (.cond (tZ 11) (sr [mk 4 1]
 .ret)
 .skip))
 (sr [mk 4 0]
 .ret)))⟩
theorem cq61:cFn Tryz.prog Tryz.f61=some aq61:=by kernel_rfl
theorem gq61:GD 61 aq61:=gG Tryz.func61 cq61 (by kernel_rfl)
def aq49:AFn:=⟨126,[(8,none),(9,none)],(sr [bo 4 0,bo 5 1,mnZ 8,mfZ 9]
 (.scope (sr [lw 22 2 5,ca1 23 63 22,oZ 10 (.alloc [.nilSl]),so 1 10 23]
 (sr [lw 24 3 4,lw 25 2 5,ca2 26 64 24 25,mv 11 26]
 (.seq (.region true [oZ 27 (.mkMap),⟨(some 28),.load (some 1) (tZ 10),none,[0]⟩,mv 29 3,⟨(some 30),.call (.fn 65) [tZ 28,tZ 29,bZ true],none,[0]⟩,pZ (.mapUpd .int (tZ 27) (tZ 30) (kZ 0)),⟨(some 31),.load (some 1) (tZ 10),none,[0,3,4]⟩,mv 32 3,⟨(some 33),.call (.fn 65) [tZ 31,tZ 32,bZ false],none,[0,4]⟩,⟨none,.mapUpd .int (tZ 27) (tZ 33) (kZ 0),none,[4]⟩,mv 34 27,mv 12 34])
 (.seq (.region true [lw 35 1 10,mv 36 3,oZ 37 (.call (.fn 65) [tZ 35,tZ 36,bZ true]),⟨(some 38),.load (some 1) (tZ 10),none,[2]⟩,mv 39 3,oZ 40 (.call (.fn 65) [tZ 38,tZ 39,bZ false]),oZ 41 (.mkSl 1 2 [(.int .i64 0)] [(0,tZ 37),(1,tZ 40)]),mv 13 41])
 (sr [lw 42 1 10,mv 43 2,ca2 44 66 42 43,mv 14 44]
 (.seq .skip
 (.seq (sr [mk 15 0]
 (.block 0 (.loop (.seq (sr [mv 45 15,mv 46 13,le 47 46,cL 48 45 47]
 (.cond (tZ 48) .skip
 (.exit 0)))
 (.seq (.block 1 (sr [mv 51 11,oZ 52 (.range (tZ 51))]
 (.block 2 (.loop (sr [oZ 53 (.nextM (tZ 52)),ex 54 53 0]
 (.seq (.cond (tZ 54) .skip
 (.exit 2))
 (.block 3 (sr [oZ 55 (.nextS (tZ 52)),ex 56 55 0,mv 16 56]
 (.seq (.seq (.region true [lw 57 1 10,mv 58 13,mv 59 15,ix 60 1 58 59,lo 61 60,mv 62 16,ca3 63 67 57 61 62,no 64 63])
 (.cond (tZ 64) (.exit 3)
 .skip))
 (.seq (.region true [lw 65 1 10,mv 66 13,mv 67 15,ix 68 1 66 67,lo 69 68,mv 70 16,ca3 71 68 65 69 70,mv 17 71])
 (.seq (sr [mv 73 12,mv 74 17,oZ 75 (.lookup .int (.int .i64 0) true (tZ 73) (tZ 74)),mv 72 75,ex 76 72 0,ex 77 72 1,mv 18 76,mv 19 77]
 (sr [mv 78 19,no 79 78]
 (.cond (tZ 79) (sr [mv 80 12,mv 81 17,mv 82 12,mv 83 13,mv 84 15,ix 85 1 83 84,lo 86 85,oZ 87 (.lookup .int (.int .i64 0) false (tZ 82) (tZ 86)),aDk 88 87 1,pZ (.mapUpd .int (tZ 80) (tZ 81) (tZ 88))]
 (rf [mv 89 13,mv 90 17,oZ 91 (.mkSl 1 1 [(.int .i64 0)] [(0,tZ 90)]),oZ 92 (.append 1 8 [(.int .i64 0)] (tZ 89) (tZ 91)),mv 13 92]))
 .skip)))
 (.seq (.region true [mv 93 17,mv 94 14,cE 95 93 94,mv 96 95,gtm 97 96 12,gtm 98 96 17,gZ 99 96 true (.lookup .int (.int .i64 0) false (tZ 97) (tZ 98)),gtm 100 96 12,gtm 101 96 13,gtm 102 96 15,gZ 103 96 true (.idxA 1 (tZ 101) (tZ 102)),gtl 104 96 103,gZ 105 96 true (.lookup .int (.int .i64 0) false (tZ 100) (tZ 104)),gZ 106 96 true (.bin .add .num (tZ 105) (kZ 1)),gZ 107 96 true (.bin .eql .num (tZ 99) (tZ 106)),pk0 108 96 107])
 (.cond (tZ 108) (.exit 0)
 .skip)))))))))))))
 (rf [mv 49 15,aDk 50 49 1,mv 15 50]))))))
 (.seq (sr [mv 110 12,mv 111 14,oZ 112 (.lookup .int (.int .i64 0) true (tZ 110) (tZ 111)),mv 109 112,ex 113 109 0,ex 114 109 1,mv 20 113,mv 21 114]
 (sr [mv 115 21,no 116 115,mv 117 116,gfm 118 117 14,gZ 119 117 false (.bin .lss .num (tZ 118) (kZ 0)),pk1 120 117 119]
 (.cond (tZ 120) (sr [mnZ 8,mfZ 9]
 .ret)
 .skip)))
 (sr [lw 121 1 10,mv 122 11,mv 123 12,mv 124 14,oZ 125 (.call (.fn 69) [tZ 121,tZ 122,tZ 123,tZ 124]),mv 8 125,mtZ 9]
 .ret)))))))))))⟩
theorem cq49:cFn Tryz.prog Tryz.f49=some aq49:=by kernel_rfl
theorem gq49:GD 49 aq49:=gG Tryz.func49 cq49 (by kernel_rfl)
def aq62:AFn:=⟨57,[(4,none)],(sr [bo 2 0,mnZ 4]
 (sr [fa 9 1 2,lo 10 9,le 11 10,mv 5 11]
 (sr [mnZ 6]
 (.seq (sr [lw 12 2 2,mv 13 1,ca2 14 76 12 13]
 (.cond (tZ 14) (sr [mv 15 1,mv 16 5,aD 17 15 16,aSk 18 17 1,mv 19 5,aR 20 18 19,mv 7 20]
 (.block 0 (.loop (.seq (.block 1 (sr [mv 27 6,mv 28 7,oZ 29 (.mkSl 1 1 [(.int .i64 0)] [(0,tZ 28)]),oZ 30 (.append 1 8 [(.int .i64 0)] (tZ 27) (tZ 29)),mv 6 30]
 (sr [fa 31 1 2,lo 32 31,mv 33 7,ix 34 6 32 33,lw 35 6 34,ca1 36 52 35]
 (.cond (tZ 36) (sr [mv 37 6,mv 4 37]
 .ret)
 .skip))))
 (rf [mv 21 7,mv 22 5,aD 23 21 22,aSk 24 23 1,mv 25 5,aR 26 24 25,mv 7 26])))))
 .skip))
 (sr [mv 38 1,mv 8 38]
 (.block 2 (.loop (.seq (.block 3 (sr [mv 43 6,mv 44 8,oZ 45 (.mkSl 1 1 [(.int .i64 0)] [(0,tZ 44)]),oZ 46 (.append 1 8 [(.int .i64 0)] (tZ 43) (tZ 45)),mv 6 46]
 (.seq (.region true [fa 47 1 2,lo 48 47,mv 49 8,aDk 50 49 1,mv 51 5,aR 52 50 51,ix 53 6 48 52,lw 54 6 53,ca1 55 52 54])
 (.cond (tZ 55) (sr [mv 56 6,mv 4 56]
 .ret)
 .skip))))
 (rf [mv 39 8,aDk 40 39 1,mv 41 5,aR 42 40 41,mv 8 42])))))))))⟩
theorem cq62:cFn Tryz.prog Tryz.f62=some aq62:=by kernel_rfl
theorem gq62:GD 62 aq62:=gG Tryz.func62 cq62 (by kernel_rfl)
def aq56:AFn:=⟨120,[(4,none)],(sr [bo 2 0,bo 3 1,mfZ 4]
 (sr [fa 8 0 2,lo 9 8,le 10 9,mv 5 10]
 (.seq (sr [fa 11 1 3,lo 12 11,cLk 13 12 1,mv 14 13,gff 15 14 1 3,gfl 16 14 15,gfm 17 14 5,gZ 18 14 false (.bin .gtr .num (tZ 16) (tZ 17)),pk1 19 14 18]
 (.cond (tZ 19) (sr [mtZ 4]
 .ret)
 .skip))
 (.seq (sr [fa 20 6 3,lo 21 20,le 22 21,mk 23 0]
 (.block 0 (.loop (sr [cL 24 23 22]
 (.seq (.cond (tZ 24) .skip
 (.exit 0))
 (.seq (.block 1 (sr [ix 25 5 21 23,lw 26 5 25,oZ 7 (.alloc [(.int .i64 0),(.int .i64 0),(.bool false),(.int .i64 0),(.bool false)]),so 5 7 26]
 (sr [lw 27 3 2,fa 28 0 7,lw 29 4 28,ca2 30 47 27 29,no 31 30]
 (.cond (tZ 31) (sr [mtZ 4]
 .ret)
 .skip))))
 (rf [aDk 32 23 1,mv 23 32])))))))
 (.seq (sr [fa 33 0 3,lo 34 33]
 (.block 2 (.seq (sr [cEk 36 34 1,mv 35 36]
 (.cond (tZ 35) .skip
 (sr [cEk 37 34 2,mv 35 37]
 (.cond (tZ 35) .skip
 (rf [cEk 38 34 8,mv 35 38])))))
 (.cond (tZ 35) (sr [fa 39 7 3,lo 40 39,mv 41 40,gff 42 41 6 3,gfl 43 41 42,gZ 44 41 false (.lenSl (tZ 43)),gZ 45 41 false (.bin .gtr .num (tZ 44) (kZ 0)),pk1 46 41 45,mv 47 46,gff 48 47 2 3,gZ 49 47 false (.load (some 4) (tZ 48)),gZ 50 47 false (.build [(.int .i64 0),(.int .i64 0),(.bool false),(.int .i64 0)] []),gZ 51 47 false (.bin .neq (.flat [.int,.int,.bool,.int]) (tZ 49) (tZ 50)),pk1 52 47 51,mv 4 52]
 .ret)
 (sr [cEk 54 34 4,mv 53 54]
 (.cond (tZ 53) (sr [fa 55 6 3,lo 56 55,le 57 56,cGk 58 57 0,mv 59 58,gff 60 59 2 3,gZ 61 59 false (.load (some 4) (tZ 60)),gZ 62 59 false (.build [(.int .i64 0),(.int .i64 0),(.bool false),(.int .i64 0)] []),gZ 63 59 false (.bin .neq (.flat [.int,.int,.bool,.int]) (tZ 61) (tZ 62)),pk1 64 59 63,mv 4 64]
 .ret)
 (sr [cEk 66 34 3,mv 65 66]
 (.cond (tZ 65) (sr [fa 67 7 3,lo 68 67,mv 69 68,gZ 70 69 false (.load (some 3) (tZ 2)),gff 71 69 2 3,gZ 72 69 false (.load (some 4) (tZ 71)),gZ 73 69 false (.call (.fn 47) [tZ 70,tZ 72]),gZ 74 69 false (.un .not (tZ 73)),pk1 75 69 74,mv 4 75]
 .ret)
 (sr [cEk 77 34 5,mv 76 77]
 (.cond (tZ 76) (sr [fa 78 6 3,lo 79 78,le 80 79,cGk 81 80 0,mv 82 81,gZ 83 82 false (.load (some 3) (tZ 2)),gff 84 82 2 3,gZ 85 82 false (.load (some 4) (tZ 84)),gZ 86 82 false (.call (.fn 47) [tZ 83,tZ 85]),gZ 87 82 false (.un .not (tZ 86)),pk1 88 82 87,mv 4 88]
 .ret)
 (.seq (sr [cEk 90 34 6,mv 89 90]
 (.cond (tZ 89) .skip
 (rf [cEk 91 34 7,mv 89 91])))
 (.cond (tZ 89) (sr [fa 92 6 3,lo 93 92,le 94 93,cGk 95 94 0,mv 96 95,gZ 97 96 false (.load (some 3) (tZ 2)),gff 98 96 2 3,gZ 99 96 false (.load (some 4) (tZ 98)),gZ 100 96 false (.call (.fn 47) [tZ 97,tZ 99]),gZ 101 96 false (.un .not (tZ 100)),pk1 102 96 101,mv 103 102,gff 104 103 2 3,gZ 105 103 false (.load (some 4) (tZ 104)),gff 106 103 2 3,gff 107 103 0 106,gfl 108 103 107,gZ 109 103 false (.build [(.int .i64 0),(.int .i64 0),(.bool false),(.int .i64 0)] [(0,1,tZ 108)]),gZ 110 103 false (.bin .neq (.flat [.int,.int,.bool,.int]) (tZ 105) (tZ 109)),pk1 111 103 110,mv 112 111,gff 113 112 2 3,gff 114 112 0 113,gfl 115 112 114,gff 116 112 1 3,gfl 117 112 116,gZ 118 112 false (.bin .eql .num (tZ 115) (tZ 117)),pk1 119 112 118,mv 4 119]
 .ret)
 .skip))))))))))))
 (sr [mtZ 4]
 .ret))))))⟩
theorem cq56:cFn Tryz.prog Tryz.f56=some aq56:=by kernel_rfl
theorem gq56:GD 56 aq56:=gG Tryz.func56 cq56 (by kernel_rfl)
def aq141:AFn:=⟨22,[(4,(some (some 2))),(5,none)],(sr [bo 2 0,bo 3 1,oZ 4 (.alloc [(.int .i64 0),.nilSl]),mk 5 0]
 (sr [lw 9 2 2,ca1 10 145 9,mv 8 10,ex 11 8 0,ex 12 8 1,mv 6 11,mv 7 12]
 (.seq (sr [mv 13 7,cNk 14 13 0]
 (.cond (tZ 14) (sr [oZ 15 (.build [(.int .i64 0),.nilSl] []),mv 16 7,so 2 4 15,mv 5 16]
 .ret)
 .skip))
 (sr [mv 17 6,lw 18 7 3,ca2 19 146 17 18,ex 20 19 0,ex 21 19 1,so 2 4 20,mv 5 21]
 .ret))))⟩
theorem cq141:cFn Tryz.prog Tryz.f141=some aq141:=by kernel_rfl
theorem gq141:GD 141 aq141:=gG Tryz.func141 cq141 (by kernel_rfl)
def aq149:AFn:=⟨11,[(2,none),(3,none)],(sr [mk 2 0,mk 3 0]
 (.seq (sr [mv 4 0]
 (.block 0 (sr [cEk 6 4 2,mv 5 6]
 (.cond (tZ 5) (sr [mk 2 2,mk 3 0]
 .ret)
 (sr [cEk 8 4 5,mv 7 8]
 (.cond (tZ 7) (sr [mk 2 2,mk 3 1]
 .ret)
 (sr [cEk 10 4 7,mv 9 10]
 (.cond (tZ 9) (sr [mk 2 4,mk 3 2]
 .ret)
 .skip))))))))
 (sr [mk 2 0,mk 3 0]
 .ret)))⟩
theorem cq149:cFn Tryz.prog Tryz.f149=some aq149:=by kernel_rfl
theorem gq149:GD 149 aq149:=gG Tryz.func149 cq149 (by kernel_rfl)
def aq169:AFn:=⟨22,[(6,none)],(sr [mnZ 6]
 (sr [mv 8 0,mv 9 1,aDk 10 9 1,oZ 11 (.slSl 7 (tZ 8) none (some (tZ 10)) none),oZ 12 (.append 7 56 [(.int .i64 0),(.int .i64 0),(.int .i64 0),(.int .i64 0),(.int .i64 0),(.bool false),(.bool false)] (.const .nilSl) (tZ 11)),mv 7 12]
 (sr [mv 13 7,mv 14 2,oZ 15 (.append 7 56 [(.int .i64 0),(.int .i64 0),(.int .i64 0),(.int .i64 0),(.int .i64 0),(.bool false),(.bool false)] (tZ 13) (tZ 14)),mv 7 15]
 (sr [mv 16 7,mv 17 0,mv 18 1,aDk 19 18 1,oZ 20 (.slSl 7 (tZ 17) (some (tZ 19)) none none),oZ 21 (.append 7 56 [(.int .i64 0),(.int .i64 0),(.int .i64 0),(.int .i64 0),(.int .i64 0),(.bool false),(.bool false)] (tZ 16) (tZ 20)),mv 6 21]
 .ret))))⟩
theorem cq169:cFn Tryz.prog Tryz.f169=some aq169:=by kernel_rfl
theorem gq169:GD 169 aq169:=gG Tryz.func169 cq169 (by kernel_rfl)
def aq148:AFn:=⟨2,[(0,(some (some 11)))],(sr [oZ 0 (.alloc [.nilFunc,.nilFunc,.nilFunc,.nilFunc,.nilFunc,.nilFunc,.nilFunc,.nilFunc,.nilFunc,.nilFunc,.nilFunc])]
 (sr [oZ 1 (.build [.nilFunc,.nilFunc,.nilFunc,.nilFunc,.nilFunc,.nilFunc,.nilFunc,.nilFunc,.nilFunc,.nilFunc,.nilFunc] [(1,1,(.fn 152)),(2,1,(.fn 153)),(3,1,(.fn 154)),(4,1,(.fn 155)),(5,1,(.fn 156)),(6,1,(.fn 157)),(7,1,(.fn 158)),(8,1,(.fn 159)),(9,1,(.fn 160)),(10,1,(.fn 160))]),so 11 0 1]
 .ret))⟩
theorem cq148:cFn Tryz.prog Tryz.f148=some aq148:=by kernel_rfl
theorem gq148:GD 148 aq148:=gG Tryz.func148 cq148 (by kernel_rfl)
def aq145:AFn:=⟨102,[(2,none),(3,none)],(sr [bo 1 0,oZ 2 (.mov (.const .nilPtr)),mk 3 0]
 (sr [lw 16 2 1,ca1 17 77 16,mv 15 17,ex 18 15 0,ex 19 15 1,mv 4 18,mv 5 19]
 (.seq (sr [mv 20 5,cNk 21 20 0]
 (.cond (tZ 21) (sr [mv 22 5,oZ 2 (.mov (.const .nilPtr)),mv 3 22]
 .ret)
 .skip))
 (.seq (.region true [fa 23 0 1,lo 24 23,mv 25 4,fa 26 1 1,lo 27 26,le 28 27,oZ 29 (.bin .mul .num (kZ 2) (tZ 28)),⟨(some 30),.makeSl 1 8 [(.int .i64 0)] (tZ 29) (tZ 29),none,[1]⟩,⟨(some 31),.load (some 2) (tZ 1),none,[7]⟩,⟨(some 32),.call (.fn 120) [tZ 31],none,[1,4,7]⟩,⟨(some 33),.load (some 2) (tZ 1),none,[7,9]⟩,⟨(some 34),.call (.fn 125) [tZ 33],none,[1,4,7]⟩,fa 35 0 1,⟨(some 36),.load none (tZ 35),none,[7,9,11]⟩,aDk 37 36 1,⟨(some 38),.makeSl 1 8 [(.int .i64 0)] (tZ 37) (tZ 37),none,[1,4,7,8,9,10,11]⟩,oZ 39 (.build [(.int .i64 0),.nilSl,.nilSl,.nilSl,(.int .i64 0),(.int .i64 0),.nilSl] [(0,1,tZ 24),(2,1,tZ 25),(3,1,tZ 30),(4,1,tZ 32),(5,1,tZ 34),(6,1,tZ 38)]),bo 40 39,mv 6 40])
 (sr [mtZ 7]
 (.seq (sr [fa 41 1 1,lo 42 41,le 43 42,mk 44 0]
 (.block 0 (.loop (sr [cL 45 44 43]
 (.seq (.cond (tZ 45) .skip
 (.exit 0))
 (.seq (.block 1 (sr [ix 46 6 42 44,lw 47 6 46,oZ 9 (.alloc [(.int .i64 0),(.int .i64 0),(.int .i64 0),(.int .i64 0),(.int .i64 0),(.bool false)]),so 6 9 47]
 (sr [lw 48 6 9,oZ 49 (.build [(.int .i64 0),(.int .i64 0),(.int .i64 0),(.int .i64 0),(.int .i64 0),(.bool false),(.bool false)] [(0,6,tZ 48)]),oZ 10 (.alloc [(.int .i64 0),(.int .i64 0),(.int .i64 0),(.int .i64 0),(.int .i64 0),(.bool false),(.bool false)]),so 7 10 49]
 (.seq (sr [fa 50 0 9,lo 51 50,cEk 52 51 1]
 (.cond (tZ 52) (sr [mv 53 7,fa 54 6 10,so 1 54 53]
 (sr [mv 55 7,no 56 55,mv 7 56]
 (.region true [mv 57 6,nc 58 57,fa 59 6 58,lo 60 59,fa 61 1 9,lo 62 61,ix 63 1 60 62,lo 64 63,aDk 65 64 1,ix 66 1 60 62,so 1 66 65])))
 .skip))
 (.region true [mv 67 6,mv 68 6,nc 69 68,fa 70 1 69,lo 71 70,lw 72 7 10,⟨(some 73),.mkSl 7 1 [(.int .i64 0),(.int .i64 0),(.int .i64 0),(.int .i64 0),(.int .i64 0),(.bool false),(.bool false)] [(0,tZ 72)],none,[4]⟩,oZ 74 (.append 7 56 [(.int .i64 0),(.int .i64 0),(.int .i64 0),(.int .i64 0),(.int .i64 0),(.bool false),(.bool false)] (tZ 71) (tZ 73)),nc 75 67,fa 76 1 75,so 1 76 74])))))
 (rf [aDk 77 44 1,mv 44 77])))))))
 (.seq (sr [mv 78 4,le 79 78,mk 80 0]
 (.block 2 (.loop (sr [cL 81 80 79]
 (.seq (.cond (tZ 81) .skip
 (.exit 2))
 (.seq (.block 3 (sr [mv 82 80,ix 83 5 78 80,lw 84 5 83,oZ 12 (.alloc [(.bool false),.nilSl,.nilSl,.nilSl,(.bool false)]),mv 11 82,so 5 12 84]
 (sr [fa 85 1 12,lo 86 85,le 87 86,mk 88 0]
 (.block 4 (.loop (sr [cL 89 88 87]
 (.seq (.cond (tZ 89) .skip
 (.exit 4))
 (.seq (.block 5 (sr [ix 90 1 86 88,lo 91 90,mv 14 91]
 (rf [mv 92 6,nc 93 92,fa 94 3 93,lo 95 94,mv 96 14,mv 97 11,ix 98 1 95 96,so 1 98 97])))
 (rf [aDk 99 88 1,mv 88 99])))))))))
 (rf [aDk 100 80 1,mv 80 100])))))))
 (sr [mv 101 6,mv 2 101,mk 3 0]
 .ret))))))))⟩
theorem cq145:cFn Tryz.prog Tryz.f145=some aq145:=by kernel_rfl
theorem gq145:GD 145 aq145:=gG Tryz.func145 cq145 (by kernel_rfl)
def aq166:AFn:=⟨53,[],(sr [mv 9 0,le 10 9,mk 11 0]
 (.block 0 (.loop (sr [cL 12 11 10]
 (.seq (.cond (tZ 12) .skip
 (.exit 0))
 (.seq (.block 1 (sr [mv 13 11,mv 8 13]
 (sr [mv 14 0,mv 15 8,ix 16 7 14 15,fa 17 0 16,fa 18 0 17,lo 19 18,cEk 20 19 1,mv 21 20,gtm 22 21 0,gtm 23 21 8,gZ 24 21 true (.idxA 7 (tZ 22) (tZ 23)),gtf 25 21 0 24,gtf 26 21 1 25,gtl 27 21 26,gtm 28 21 1,gZ 29 21 true (.bin .eql .num (tZ 27) (tZ 28)),pk0 30 21 29,mv 31 30,gtm 32 31 0,gtm 33 31 8,gZ 34 31 true (.idxA 7 (tZ 32) (tZ 33)),gtf 35 31 0 34,gtf 36 31 2 35,gtl 37 31 36,gtm 38 31 2,gZ 39 31 true (.bin .gtr .num (tZ 37) (tZ 38)),pk0 40 31 39]
 (.cond (tZ 40) (rf [mv 41 0,mv 42 8,ix 43 7 41 42,fa 44 0 43,fa 45 2 44,lo 46 45,mv 47 3,aD 48 46 47,ix 49 7 41 42,fa 50 0 49,fa 51 2 50,so 1 51 48])
 .skip))))
 (rf [aDk 52 11 1,mv 11 52])))))))⟩
theorem cq166:cFn Tryz.prog Tryz.f166=some aq166:=by kernel_rfl
theorem gq166:GD 166 aq166:=gG Tryz.func166 cq166 (by kernel_rfl)
def aq164:AFn:=⟨26,[(4,none)],(sr [mnZ 4]
 (sr [mnZ 5]
 (.seq (sr [mv 8 0,le 9 8,mk 10 0]
 (.block 0 (.loop (sr [cL 11 10 9]
 (.seq (.cond (tZ 11) .skip
 (.exit 0))
 (.seq (.block 1 (sr [mv 12 10,ix 13 7 8 10,lw 14 7 13,oZ 7 (.alloc [(.int .i64 0),(.int .i64 0),(.int .i64 0),(.int .i64 0),(.int .i64 0),(.bool false),(.bool false)]),mv 6 12,so 7 7 14]
 (sr [mv 15 1,mv 16 6,lw 17 7 7,oZ 18 (.call (tZ 15) [tZ 16,tZ 17]),no 19 18]
 (.cond (tZ 19) (rf [mv 20 5,lw 21 7 7,oZ 22 (.mkSl 7 1 [(.int .i64 0),(.int .i64 0),(.int .i64 0),(.int .i64 0),(.int .i64 0),(.bool false),(.bool false)] [(0,tZ 21)]),oZ 23 (.append 7 56 [(.int .i64 0),(.int .i64 0),(.int .i64 0),(.int .i64 0),(.int .i64 0),(.bool false),(.bool false)] (tZ 20) (tZ 22)),mv 5 23])
 .skip))))
 (rf [aDk 24 10 1,mv 10 24])))))))
 (sr [mv 25 5,mv 4 25]
 .ret))))⟩
theorem cq164:cFn Tryz.prog Tryz.f164=some aq164:=by kernel_rfl
theorem gq164:GD 164 aq164:=gG Tryz.func164 cq164 (by kernel_rfl)
def aq60:AFn:=⟨8,[(2,none)],(sr [mnZ 2]
 (.seq (sr [mv 3 0,oZ 4 (.bin .eql .slice (tZ 3) (.const .nilSl))]
 (.cond (tZ 4) (sr [mnZ 2]
 .ret)
 .skip))
 (sr [oZ 5 (.mkSl 5 0 [(.int .i64 0),(.int .i64 0),(.bool false),(.int .i64 0),(.bool false)] []),mv 6 0,oZ 7 (.append 5 40 [(.int .i64 0),(.int .i64 0),(.bool false),(.int .i64 0),(.bool false)] (tZ 5) (tZ 6)),mv 2 7]
 .ret)))⟩
theorem cq60:cFn Tryz.prog Tryz.f60=some aq60:=by kernel_rfl
theorem gq60:GD 60 aq60:=gG Tryz.func60 cq60 (by kernel_rfl)
def aq168:AFn:=⟨8,[(2,none)],(sr [mnZ 2]
 (.seq (sr [mv 3 0,oZ 4 (.bin .eql .slice (tZ 3) (.const .nilSl))]
 (.cond (tZ 4) (sr [mnZ 2]
 .ret)
 .skip))
 (sr [oZ 5 (.mkSl 7 0 [(.int .i64 0),(.int .i64 0),(.int .i64 0),(.int .i64 0),(.int .i64 0),(.bool false),(.bool false)] []),mv 6 0,oZ 7 (.append 7 56 [(.int .i64 0),(.int .i64 0),(.int .i64 0),(.int .i64 0),(.int .i64 0),(.bool false),(.bool false)] (tZ 5) (tZ 6)),mv 2 7]
 .ret)))⟩
theorem cq168:cFn Tryz.prog Tryz.f168=some aq168:=by kernel_rfl
theorem gq168:GD 168 aq168:=gG Tryz.func168 cq168 (by kernel_rfl)
def aq180:AFn:=⟨9,[(4,none)],(sr [mfZ 4]
 (sr [mv 5 0,mv 6 1,ca2 7 184 5 6,cHk 8 7 0,mv 4 8]
 .ret))⟩
theorem cq180:cFn Tryz.prog Tryz.f180=some aq180:=by kernel_rfl
theorem gq180:GD 180 aq180:=gG Tryz.func180 cq180 (by kernel_rfl)
def aq167:AFn:=⟨9,[(4,none)],(sr [bo 3 1,mfZ 4]
 (sr [mv 5 0,lw 6 2 3,ca2 7 179 5 6,cHk 8 7 0,mv 4 8]
 .ret))⟩
theorem cq167:cFn Tryz.prog Tryz.f167=some aq167:=by kernel_rfl
theorem gq167:GD 167 aq167:=gG Tryz.func167 cq167 (by kernel_rfl)
def aq81:AFn:=⟨9,[(4,none)],(sr [mfZ 4]
 (sr [mv 5 0,mv 6 1,ca2 7 108 5 6,cHk 8 7 0,mv 4 8]
 .ret))⟩
theorem cq81:cFn Tryz.prog Tryz.f81=some aq81:=by kernel_rfl
theorem gq81:GD 81 aq81:=gG Tryz.func81 cq81 (by kernel_rfl)
def aq79:AFn:=⟨19,[(4,none)],(sr [mk 4 0]
 (.seq (sr [mv 6 0,le 7 6,mk 8 0]
 (.block 0 (.loop (sr [cL 9 8 7]
 (.seq (.cond (tZ 9) .skip
 (.exit 0))
 (.seq (.block 1 (sr [mv 10 8,mv 5 10]
 (sr [mv 11 1,mv 12 0,mv 13 5,ix 14 5 12 13,lw 15 5 14,oZ 16 (.call (tZ 11) [tZ 15])]
 (.cond (tZ 16) (sr [mv 17 5,mv 4 17]
 .ret)
 .skip))))
 (rf [aDk 18 8 1,mv 8 18])))))))
 (sr [mk 4 (-1)]
 .ret)))⟩
theorem cq79:cFn Tryz.prog Tryz.f79=some aq79:=by kernel_rfl
theorem gq79:GD 79 aq79:=gG Tryz.func79 cq79 (by kernel_rfl)
def aq161:AFn:=⟨19,[(4,none)],(sr [mk 4 0]
 (.seq (sr [mv 6 0,le 7 6,mk 8 0]
 (.block 0 (.loop (sr [cL 9 8 7]
 (.seq (.cond (tZ 9) .skip
 (.exit 0))
 (.seq (.block 1 (sr [mv 10 8,mv 5 10]
 (sr [mv 11 1,mv 12 0,mv 13 5,ix 14 7 12 13,lw 15 7 14,oZ 16 (.call (tZ 11) [tZ 15])]
 (.cond (tZ 16) (sr [mv 17 5,mv 4 17]
 .ret)
 .skip))))
 (rf [aDk 18 8 1,mv 8 18])))))))
 (sr [mk 4 (-1)]
 .ret)))⟩
theorem cq161:cFn Tryz.prog Tryz.f161=some aq161:=by kernel_rfl
theorem gq161:GD 161 aq161:=gG Tryz.func161 cq161 (by kernel_rfl)
def aq184:AFn:=⟨19,[(4,none)],(sr [mk 4 0]
 (.seq (sr [mv 6 0,le 7 6,mk 8 0]
 (.block 0 (.loop (sr [cL 9 8 7]
 (.seq (.cond (tZ 9) .skip
 (.exit 0))
 (.seq (.block 1 (sr [mv 10 8,mv 5 10]
 (sr [mv 11 1,mv 12 0,mv 13 5,ix 14 1 12 13,lo 15 14,oZ 16 (.call (tZ 11) [tZ 15])]
 (.cond (tZ 16) (sr [mv 17 5,mv 4 17]
 .ret)
 .skip))))
 (rf [aDk 18 8 1,mv 8 18])))))))
 (sr [mk 4 (-1)]
 .ret)))⟩
theorem cq184:cFn Tryz.prog Tryz.f184=some aq184:=by kernel_rfl
theorem gq184:GD 184 aq184:=gG Tryz.func184 cq184 (by kernel_rfl)
def aq179:AFn:=⟨19,[(4,none)],(sr [bo 3 1,mk 4 0]
 (.seq (sr [mv 6 0,le 7 6,mk 8 0]
 (.block 0 (.loop (sr [cL 9 8 7]
 (.seq (.cond (tZ 9) .skip
 (.exit 0))
 (.seq (.block 1 (sr [mv 10 8,mv 5 10]
 (.seq (.region true [lw 11 2 3,mv 12 0,mv 13 5,ix 14 2 12 13,lw 15 2 14,oZ 16 (.bin .eql (.flat [.int,.int]) (tZ 11) (tZ 15))])
 (.cond (tZ 16) (sr [mv 17 5,mv 4 17]
 .ret)
 .skip))))
 (rf [aDk 18 8 1,mv 8 18])))))))
 (sr [mk 4 (-1)]
 .ret)))⟩
theorem cq179:cFn Tryz.prog Tryz.f179=some aq179:=by kernel_rfl
theorem gq179:GD 179 aq179:=gG Tryz.func179 cq179 (by kernel_rfl)
def aq108:AFn:=⟨19,[(4,none)],(sr [mk 4 0]
 (.seq (sr [mv 6 0,le 7 6,mk 8 0]
 (.block 0 (.loop (sr [cL 9 8 7]
 (.seq (.cond (tZ 9) .skip
 (.exit 0))
 (.seq (.block 1 (sr [mv 10 8,mv 5 10]
 (sr [mv 11 1,mv 12 0,mv 13 5,ix 14 1 12 13,lo 15 14,cE 16 11 15]
 (.cond (tZ 16) (sr [mv 17 5,mv 4 17]
 .ret)
 .skip))))
 (rf [aDk 18 8 1,mv 8 18])))))))
 (sr [mk 4 (-1)]
 .ret)))⟩
theorem cq108:cFn Tryz.prog Tryz.f108=some aq108:=by kernel_rfl
theorem gq108:GD 108 aq108:=gG Tryz.func108 cq108 (by kernel_rfl)
def aq158:AFn:=⟨121,[(4,none),(5,none)],(sr [bo 3 1,mnZ 4,mfZ 5]
 (sr [mk 6 1,mk 7 (-1)]
 (.seq (sr [fa 12 4 3,lo 13 12]
 (.cond (tZ 13) (rf [mk 6 0])
 .skip))
 (.seq (.region true [mv 14 0,nc 15 14,fa 16 3 15,lo 17 16,fa 18 1 3,lo 19 18,oZ 20 (.bin .mul .num (kZ 2) (tZ 19)),mv 21 6,aD 22 20 21,ix 23 1 17 22,lo 24 23,mv 8 24])
 (.seq (.region true [mv 25 0,nc 26 25,fa 27 3 26,lo 28 27,fa 29 2 3,lo 30 29,oZ 31 (.bin .mul .num (kZ 2) (tZ 30)),mv 32 6,aD 33 31 32,ix 34 1 28 33,lo 35 34,mv 36 8,cE 37 35 36,mv 9 37])
 (.seq (.seq (.region true [mv 38 9,no 39 38,mv 40 39,gtm 41 40 0,gZ 42 40 true (.nilChk (tZ 41)),gtf 43 40 3 42,gtl 44 40 43,gtf 45 40 2 3,gtl 46 40 45,gZ 47 40 true (.bin .mul .num (kZ 2) (tZ 46)),gZ 48 40 true (.bin .add .num (tZ 47) (kZ 1)),gtm 49 40 6,gZ 50 40 true (.bin .sub .num (tZ 48) (tZ 49)),gZ 51 40 true (.idxA 1 (tZ 44) (tZ 50)),gtl 52 40 51,gtm 53 40 8,gZ 54 40 true (.bin .neq .num (tZ 52) (tZ 53)),pk0 55 40 54])
 (.cond (tZ 55) (sr [mnZ 4,mfZ 5]
 .ret)
 .skip))
 (.seq (sr [fa 56 5 3,lo 57 56,mv 58 9,fa 59 4 3,lo 60 59,oZ 61 (.bin .eql .bool (tZ 58) (tZ 60)),oZ 62 (.bin .eql .bool (tZ 57) (tZ 61))]
 (.cond (tZ 62) (rf [mk 7 1])
 .skip))
 (.seq (.region true [mv 63 0,mv 64 7,fa 65 5 3,lo 66 65,oZ 67 (.call (.fn 173) [tZ 63,kZ 1,tZ 64,tZ 66]),mv 68 0,mv 69 7,oZ 70 (.un .neg (tZ 69)),fa 71 5 3,⟨(some 72),.load none (tZ 71),none,[4]⟩,oZ 73 (.call (.fn 173) [tZ 68,kZ 2,tZ 70,tZ 72]),oZ 74 (.mkSl 7 2 [(.int .i64 0),(.int .i64 0),(.int .i64 0),(.int .i64 0),(.int .i64 0),(.bool false),(.bool false)] [(0,tZ 67),(1,tZ 73)]),mv 10 74])
 (.seq (.region true [mv 75 0,mv 76 7,fa 77 5 3,lo 78 77,no 79 78,oZ 80 (.call (.fn 173) [tZ 75,kZ 1,tZ 76,tZ 79]),mv 81 0,mv 82 7,oZ 83 (.un .neg (tZ 82)),fa 84 5 3,⟨(some 85),.load none (tZ 84),none,[5]⟩,no 86 85,oZ 87 (.call (.fn 173) [tZ 81,kZ 2,tZ 83,tZ 86]),oZ 88 (.mkSl 7 2 [(.int .i64 0),(.int .i64 0),(.int .i64 0),(.int .i64 0),(.int .i64 0),(.bool false),(.bool false)] [(0,tZ 80),(1,tZ 87)]),mv 11 88])
 (.seq (sr [mv 89 9]
 (.cond (tZ 89) (rf [mv 90 11,ca1 91 175 90])
 .skip))
 (.seq (sr [fa 92 1 3,lo 93 92,fa 94 2 3,lo 95 94,cL 96 93 95]
 (.cond (tZ 96) (.seq (.region true [mv 97 0,nc 98 97,fa 99 1 98,lo 100 99,fa 101 2 3,lo 102 101,mv 103 11,ca3 104 169 100 102 103,fa 105 1 3,⟨(some 106),.load none (tZ 105),none,[7]⟩,mv 107 10,ca3 108 169 104 106 107,mv 4 108,mtZ 5])
 .ret)
 .skip))
 (.seq (.region true [mv 109 0,nc 110 109,fa 111 1 110,lo 112 111,fa 113 1 3,lo 114 113,mv 115 10,ca3 116 169 112 114 115,fa 117 2 3,⟨(some 118),.load none (tZ 117),none,[7]⟩,mv 119 11,ca3 120 169 116 118 119,mv 4 120,mtZ 5])
 .ret))))))))))))⟩
theorem cq158:cFn Tryz.prog Tryz.f158=some aq158:=by kernel_rfl
theorem gq158:GD 158 aq158:=gG Tryz.func158 cq158 (by kernel_rfl)
def aq130:AFn:=⟨19,[(4,none)],(sr [bo 3 1,mk 4 0]
 (.seq (sr [mv 6 0,le 7 6,mk 8 0]
 (.block 0 (.loop (sr [cL 9 8 7]
 (.seq (.cond (tZ 9) .skip
 (.exit 0))
 (.seq (.block 1 (sr [mv 10 8,mv 5 10]
 (.seq (.region true [lw 11 6 3,mv 12 0,mv 13 5,ix 14 6 12 13,lw 15 6 14,oZ 16 (.bin .eql (.flat [.int,.int,.int,.int,.int,.bool]) (tZ 11) (tZ 15))])
 (.cond (tZ 16) (sr [mv 17 5,mv 4 17]
 .ret)
 .skip))))
 (rf [aDk 18 8 1,mv 8 18])))))))
 (sr [mk 4 (-1)]
 .ret)))⟩
theorem cq130:cFn Tryz.prog Tryz.f130=some aq130:=by kernel_rfl
theorem gq130:GD 130 aq130:=gG Tryz.func130 cq130 (by kernel_rfl)
def aq175:AFn:=⟨28,[],(sr [mv 4 0,le 5 4,aSk 6 5 1,mk 2 0,mv 3 6]
 (.block 0 (.loop (.seq (sr [mv 7 2,mv 8 3,cL 9 7 8]
 (.cond (tZ 9) .skip
 (.exit 0)))
 (.seq (.block 1 (.region true [mv 14 0,mv 15 2,mv 16 0,mv 17 3,mv 18 0,mv 19 3,ix 20 7 18 19,lw 21 7 20,mv 22 0,mv 23 2,ix 24 7 22 23,lw 25 7 24,ix 26 7 14 15,so 7 26 21,ix 27 7 16 17,so 7 27 25]))
 (rf [mv 10 2,aDk 11 10 1,mv 12 3,aSk 13 12 1,mv 2 11,mv 3 13]))))))⟩
theorem cq175:cFn Tryz.prog Tryz.f175=some aq175:=by kernel_rfl
theorem gq175:GD 175 aq175:=gG Tryz.func175 cq175 (by kernel_rfl)
end Go.Known
end
section
namespace Go.AE
open Go.RowKit
def wr {α:Type} (x:α):α:=x
theorem wr_eq {α:Type} (x:α):wr x=x:=Eq.trans (Eq.refl x) (Eq.refl x)
@[congr] theorem SC_congr2 {P : Program} {g : FuncId} {args args' : List AVal} {m : SMem} {w : Nat} {K : AVal → SMem → Prop} (h : wr args = args') : SC P g args m w K = SC P g args' m w K := by cases h; rfl
@[congr] theorem DC_congr2 {P : Program} {g : FuncId} {args args' : List AVal} {n : Nat} {x : List Nat} {m : SMem} {K : AVal → Option ABlk → Prop} (h : wr args = args') : DC P g args n x m K = DC P g args' n x m K := by cases h; rfl
end Go.AE
end
section
namespace Go.AE
open Go.RowKit
def wopsM (P:Program) (base:Nat):List AOper→Nat→(ASt→Prop)→List AVal→Mem→Prop
 | [],_,K,t,m=>K ⟨t,m⟩
 | o :: r,i,K,t,m=>
  match wantedA t o.guard with
  | some false=>wopsM P base r (i+1) K (put t o.dst aundef) m
  | some true=>
   match o.op with
   | .call f xs=>match callee t f xs with
    | some (g,args)=>ACalls P g args m [base+i] fun v m'=>wopsM P base r (i+1) K (put t o.dst v) m'
    | none=>False
   | .range x=>rangeW (base+i) (ev t x) m fun v m'=>wopsM P base r (i+1) K (put t o.dst v) m'
   | .nextM x=>nextW (ev t x) m fun v m'=>wopsM P base r (i+1) K (put t o.dst v) m'
   | .nextS x=>entryW (ev t x) m fun v=>wopsM P base r (i+1) K (put t o.dst v) m
   | op=>match stepA (base+i) t m op with
    | some (v,m')=>wopsM P base r (i+1) K (put t o.dst v) m'
    | none=>False
  | none=>False
section
variable {P:Program}
theorem wopsM_cons {base i:Nat} {b:AOper} {rest:List AOper} {K:ASt→Prop} {t:List AVal} {m:Mem} (h:wopsM P base (b :: rest) i K t m) :
 (wantedA t b.guard=some false∧wopsM P base rest (i+1) K (put t b.dst aundef) m) ∨
 (wantedA t b.guard=some true∧((∃ f xs g args,b.op=.call f xs∧callee t f xs=some (g,args)∧ACalls P g args m [base+i] fun v m'=>wopsM P base rest (i+1) K (put t b.dst v) m') ∨
   (∃ x,b.op=.range x∧rangeW (base+i) (ev t x) m fun v m'=>wopsM P base rest (i+1) K (put t b.dst v) m') ∨
   (∃ x,b.op=.nextM x∧nextW (ev t x) m fun v m'=>wopsM P base rest (i+1) K (put t b.dst v) m') ∨
   (∃ x,b.op=.nextS x∧entryW (ev t x) m fun v=>wopsM P base rest (i+1) K (put t b.dst v) m) ∨
   (∃ v m',stepA (base+i) t m b.op=some (v,m')∧wopsM P base rest (i+1) K (put t b.dst v) m'))):=by
 simp only[wopsM]at h
 cases hw:wantedA t b.guard with
 | none=>simp[hw]at h
 | some q=>
  cases q with
  | false=>simp only[hw]at h; exact .inl ⟨rfl,h⟩
  | true=>
   simp only[hw]at h
   refine .inr ⟨rfl,?_⟩
   have other:∀ op,b.op=op→(match stepA (base+i) t m op with|some (v,m')=>wopsM P base rest (i+1) K (put t b.dst v) m'|none=>False) →
    ∃ v m',stepA (base+i) t m op=some (v,m')∧wopsM P base rest (i+1) K (put t b.dst v) m':=by
    intro op _ hh
    cases hs:stepA (base+i) t m op with
    | none=>simp[hs]at hh
    | some r=>obtain ⟨v,m'⟩:=r; simp only[hs]at hh; exact⟨v,m',rfl,hh⟩
   cases hop:b.op with
   | call f xs=>
    simp only[hop]at h
    cases hc:callee t f xs with
    | none=>simp[hc]at h
    | some r=>
     obtain⟨g,args⟩:=r
     simp only[hc]at h
     exact .inl ⟨f,xs,g,args,rfl,hc,h⟩
   | range x=>rw[hop]at h; exact .inr (.inl ⟨x,rfl,h⟩)
   | nextM x=>rw[hop]at h; exact .inr (.inr (.inl ⟨x,rfl,h⟩))
   | nextS x=>rw[hop]at h; exact .inr (.inr (.inr (.inl ⟨x,rfl,h⟩)))
   | _=>rw[hop]at h; exact .inr (.inr (.inr (.inr (other _ hop h))))
theorem plain_soundM (W:Base) (base:Nat) (n0:Nat) (ops:Array Oper) (Q:Exit→ASt→Prop) (Φ0:Pers) (ρ0:Rho) (hb:n0≤base) :
 ∀(l:List Oper) (asl:List AOper) (i:Nat) (t:List AVal) (m:Mem) (Φ:Pers) (ρ:Rho) (a:Act) (w:World),
  asl.length=l.length→(∀(j:Nat) (o:Oper) (b:AOper),l[j]? = some o→asl[j]? = some b→b.dst=o.dst∧b.op=cOp' P o∧cGuard ops o.guard=some b.guard) →
  wopsM P base asl i (Q .normal) t m→Rel W Φ ρ m w→RL Φ ρ t a.tmps→a.defers=[]→Ext Φ0 ρ0 Φ ρ→KeepN n0 ρ0 ρ→(∀ j,i≤j→j<i+asl.length→ρ (base+j)=none)→base+i+asl.length≤m.next→n0≤m.next →
  wpList P ops (lift W Φ0 ρ0 n0 Q) l a w
 | [],[],i,t,m,Φ,ρ,a,w,_,_,h,hr,ht,hd,he,hk,_,_,hn=>⟨⟨t,m⟩,Φ,ρ,he,hk,hn,hr,ht,hd,h⟩
 | [],_ :: _,_,_,_,_,_,_,_,hl,_,_,_,_,_,_,_,_,_,_=>by simp at hl
 | _ :: _,[],_,_,_,_,_,_,_,hl,_,_,_,_,_,_,_,_,_,_=>by simp at hl
 | o :: l,b :: asl,i,t,m,Φ,ρ,a,w,hl,hg,h,hr,ht,hd,he,hk,hfree,hnx,hn=>by
  obtain⟨e1,e2,e3⟩:=hg 0 o b rfl rfl
  have hg':∀ (j:Nat) (o:Oper) (b:AOper),l[j]? = some o→asl[j]? = some b→b.dst=o.dst∧b.op=cOp' P o∧cGuard ops o.guard=some b.guard:=fun j o b ho hb=>hg (j+1) o b (by simpa using ho) (by simpa using hb)
  have hl':asl.length=l.length:=by simpa using hl
  simp only[List.length_cons]at hnx hfree
  have hlt:base+i<m.next:=by omega
  have hni:ρ (base+i)=none:=hfree i (Nat.le_refl _) (by omega)
  unfold wpList
  rcases wopsM_cons h with⟨hw,h'⟩|⟨hw,h'⟩
  ·rw[wanted_ok ht e3 hw,if_neg (by simp)]
   rw[← e1]
   exact plain_soundM W base n0 ops Q Φ0 ρ0 hb l asl (i+1) _ m Φ ρ _ w hl' hg' h' hr (ht.put b.dst (R_undef Φ ρ)) (by rw[put_defers]; exact hd) he hk (fun j h1 h2=>hfree j (by omega) (by omega)) (by omega) hn
  ·rw[wanted_ok ht e3 hw,if_pos rfl]
   refine .inl ?_
   rcases h' with⟨f,xs,g,args,hop,hcal,hA⟩|⟨x,hop,h'⟩|⟨x,hop,h'⟩|⟨x,hop,h'⟩|⟨v,m',hs,h'⟩
   ·refine op_call ht hr hni hlt o (by rw[← e2]; exact hop) hcal hA fun Φ' ρ' x m' u w' hE hfr hr' hx hnx' hW=>?_
    rw[← e1]
    exact plain_soundM W base n0 ops Q Φ0 ρ0 hb l asl (i+1) _ m' Φ' ρ' _ w' hl' hg' hW hr' ((ht.ext hE).put b.dst hx) (by rw[put_defers]; exact hd) (he.trans hE) (fun c hc h0=>hfr c (by omega) (by omega) (hk c hc h0))
     (fun j h1 h2=>hfr _ (by omega) (by omega) (hfree j (by omega) (by omega))) (by omega) (by omega)
   ·refine op_range ht hr hni hlt o (by rw[← e2]; exact hop) h' fun Φ' ρ' x m' u w' hE hfr hr' hx hnx' hW=>?_
    rw[← e1]
    exact plain_soundM W base n0 ops Q Φ0 ρ0 hb l asl (i+1) _ m' Φ' ρ' _ w' hl' hg' hW hr' ((ht.ext hE).put b.dst hx) (by rw[put_defers]; exact hd) (he.trans hE) (fun c hc h0=>hfr c (by omega) (hk c hc h0))
     (fun j h1 h2=>hfr _ (by omega) (hfree j (by omega) (by omega))) (by rw[hnx']; omega) (by rw[hnx']; exact hn)
   ·refine op_next ht hr o (by rw[← e2]; exact hop) h' fun x m' u w' hr' hx hnx' hW=>?_
    rw[← e1]
    exact plain_soundM W base n0 ops Q Φ0 ρ0 hb l asl (i+1) _ m' Φ ρ _ w' hl' hg' hW hr' (ht.put b.dst hx) (by rw[put_defers]; exact hd) he hk
     (fun j h1 h2=>hfree j (by omega) (by omega)) (by rw[hnx']; omega) (by rw[hnx']; exact hn)
   ·refine op_entry ht hr o (by rw[← e2]; exact hop) h' fun x u hx hW=>?_
    rw[← e1]
    exact plain_soundM W base n0 ops Q Φ0 ρ0 hb l asl (i+1) _ m Φ ρ _ w hl' hg' hW hr (ht.put b.dst hx) (by rw[put_defers]; exact hd) he hk
     (fun j h1 h2=>hfree j (by omega) (by omega)) (by omega) hn
   ·have hnx':=stepA_next hs
    rw[e2]at hs
    refine op_step ht hr hni hlt o hs fun Φ' ρ' u w' hE hfr hr' hx=>?_
    rw[← e1]
    exact plain_soundM W base n0 ops Q Φ0 ρ0 hb l asl (i+1) _ m' Φ' ρ' _ w' hl' hg' h' hr' ((ht.ext hE).put b.dst hx) (by rw[put_defers]; exact hd) (he.trans hE) (fun c hc h0=>hfr c (by omega) (hk c hc h0))
     (fun j h1 h2=>hfr _ (by omega) (hfree j (by omega) (by omega))) (by rw[hnx']; omega) (by rw[hnx']; exact hn)
theorem region_plainM {id:Nat} {ops:Array Oper} {os:List AOper} {Q:Exit→ASt→Prop} {σ:ASt} (hc:cOpers P ops ops.toList=some os) (h:wopsM P σ.m.next os 0 (Q .normal) σ.t (σ.m.at (σ.m.next+os.length))):AWp P (.region id ops false) Q σ:=by
 intro W Φ ρ a w hr ht hd
 obtain⟨h1,h2⟩:=cOpers_get P ops _ _ hc
 refine wp_region_list (plain_soundM W σ.m.next σ.m.next ops Q Φ ρ (Nat.le_refl _) ops.toList os 0 σ.t _ Φ ρ a w h1 h2 h (hr.at_ (by omega)) ht hd (.refl _ _) (.refl _ _) ?_ (by simp) (by simp))
 intro j _ _
 cases hq:ρ (σ.m.next+j)with
 | none=>rfl
 | some l=>have:=hr.fresh _ _ hq; omega
def nextS (v:AVal) (m:SMem) (K:AVal→SMem→Prop):Prop:=
 match v with
 | .ptr it 0 0=>match m.get it with
  | some (.miter (some b) since seen last)=>match m.get b with
   | some (.map es clock)=>(seen=[]∨es=[] ∨ ∃ e,e∈es∧e.2.2<last) ∧
    (∀ e,e∈es→e.2.2∉seen→K (.tuple [.bool true,e.1,e.2.1]) (m.app [(it,some (.miter (some b) since (seen++[e.2.2]) clock))])) ∧
    ((∀ e,e∈es→e.2.2<since→e.2.2∈seen)→K (.tuple [.bool false]) m)
   | _=>False
  | _=>False
 | _=>False
variable {n n0:Nat}
variable {Q:Exit→Env→SMem→Prop} {e:Env} {m:SMem} {base:Nat} {K:Env→SMem→Prop}
end
end Go.AE
end
section
namespace Go.AE
open Go.RowKit
def slV (b:Nat) (rows:List (List AVal)):AVal:=if rows=[]then .nilSl else .sl b 0 rows.length
def blV (b k:Nat) (rows:List (List AVal)) (rest:List (Nat×ABlk)):List (Nat×ABlk):=if rows=[]then rest else (b,.cells k rows) :: rest
def imV (rows:List (List AVal)):AVal:=if rows=[]then .nilSl else .imm rows
def dlV (b id:Nat) (rows:List (List AVal)) (x:ABlk):List (Nat×Option ABlk):=if rows=[]then [(id,some x)]else [(b,none),(id,some x)]
def dlS (b k:Nat) (rows:List (List AVal)):List (Nat×Option ABlk):=if rows=[]then []else [(b,some (.cells k rows))]
section
variable {b c id k bytes i n:Nat} {rows xs:List (List AVal)} {rest:List (Nat×ABlk)} {get:Nat→Option ABlk} {q:Nat→Nat} {m:SMem}
theorem slV_nil:slV b []=.nilSl:=rfl
theorem slV_snoc (x:List AVal):slV b (rows++[x])=.sl b 0 (rows.length+1):=by simp[slV]
theorem blV_nil:blV b k [] rest=rest:=rfl
theorem blV_snoc (x:List AVal):blV b k (rows++[x]) rest=(b,.cells k (rows++[x])) :: rest:=by simp[blV]
theorem sl_slV:sliceLen (slV b rows)=some rows.length:=by
 unfold slV
 split
 ·rename_i h; subst h; rfl
 ·rfl
theorem ren_slV:(slV b rows).ren q=slV (q b) rows:=by unfold slV; split<;>rfl
theorem cells_slV:(slV b rows).cells=some [slV b rows]:=by unfold slV; split<;>rfl
theorem one_slV:(slV b rows).one=true:=by unfold slV; split<;>rfl
theorem look_blV (h:¬c=b):lookB (blV b k rows rest) c=lookB rest c:=by
 unfold blV
 split
 ·rfl
 ·simp only[lookB]; rw[if_neg h]
theorem look_blV_eq:lookB (blV b k rows rest) b=if rows=[]then lookB rest b else some (.cells k rows):=by
 unfold blV
 split
 ·rfl
 ·simp only[lookB]; rw[if_pos trivial]
theorem erase_blV (h:¬c=b):eraseB (blV b k rows rest) c=blV b k rows (eraseB rest c):=by
 unfold blV
 split
 ·rfl
 ·simp only[eraseB]; rw[if_neg h]
theorem erase_blV_eq:eraseB (blV b k rows rest) b=eraseB rest b:=by
 unfold blV
 split
 ·rfl
 ·simp only[eraseB]; rw[if_pos trivial]
theorem ren_blV {t:List (Nat×ABlk)}:renB q (blV b k rows rest) t=blV (q b) k (renLL q rows) (renB q rest t):=by
 unfold blV
 by_cases h:rows=[]
 ·subst h; simp[renLL]
 ·have:renLL q rows≠[]:=fun e=>h (List.length_eq_zero_iff.1 (by rw[← renLL_length q,e]; rfl))
  rw[if_neg h,if_neg this]
  rfl
theorem less_nil (l:List (Nat×ABlk)):lessB [] l=l:=by
 induction l with
 | nil=>rfl
 | cons a r ih=>obtain ⟨c,y⟩:=a; simp only[lessB,memN,cond_false,ih]
theorem less_blV {ks:List Nat}:lessB ks (blV b k rows rest)=bif memN b ks then lessB ks rest else blV b k rows (lessB ks rest):=by
 unfold blV
 cases hm:memN b ks with
 | true=>
  split
  ·rfl
  ·simp[lessB,hm]
 | false=>
  split
  ·rfl
  ·simp[lessB,hm]
theorem keys_blV:qKeys q (blV b k rows rest)=if rows=[]then qKeys q rest else q b :: qKeys q rest:=by
 unfold blV
 split<;>rfl
theorem sub_blV:SubRB q (blV b k rows rest) m=((rows≠[]→m.get (q b)=some (.cells k (renLL q rows)) ∨ ∃ y,m.get (q b)=some y∧BSub (.cells k (renLL q rows)) y)∧SubRB q rest m):=by
 unfold blV
 split
 ·rename_i h; simp[h]
 ·rename_i h; simp[h,SubRB,ABlk.ren]
theorem injA_blV:InjA q c (blV b k rows rest)=((rows≠[]→q c=q b→c=b)∧InjA q c rest):=by
 unfold blV
 split
 ·grind
 ·rename_i h; simp[h,InjA]
theorem injK_blV:InjK q (blV b k rows rest)=((rows≠[]→InjA q b rest)∧InjK q rest):=by
 unfold blV
 split
 ·grind
 ·rename_i h; simp[h,InjK]
theorem apart1_app (x:Nat) (a l:List Nat):apart1 x (a++l)=(apart1 x a∧apart1 x l):=by
 induction a with
 | nil=>simp[apart1]
 | cons y r ih=>simp only[List.cons_append,apart1,ih,and_assoc]
theorem apart_slV (l:List Nat):apartL (blkOf (slV b rows)) l=(¬rows=[]→apart1 b l):=by
 unfold slV
 split
 ·rename_i h; simp[blkOf,apartL,h]
 ·rename_i h; simp[blkOf,apartL,h]
theorem apart1_slV (x:Nat):apart1 x (blkOf (slV b rows))=(¬rows=[]→x≠b):=by
 unfold slV
 split
 ·rename_i h; simp[blkOf,apart1,h]
 ·rename_i h; simp[blkOf,apart1,h]
theorem bk_ptr (b i j:Nat):blkOf (.ptr b i j)=[b]:=rfl
theorem bk_sl (b i j:Nat):blkOf (.sl b i j)=[b]:=rfl
theorem bk_map (b:Nat):blkOf (.map b)=[b]:=rfl
theorem bk_imm (l:List (List AVal)):blkOf (.imm l)=[]:=rfl
theorem bk_iptr (l:List (List AVal)) (i j:Nat):blkOf (.iptr l i j)=[]:=rfl
theorem bk_nil:blkOf .nilSl=[]:=rfl
theorem bk_int (k:IntKind) (n:Int):blkOf (.int k n)=[]:=rfl
theorem bk_str (l:List UInt8):blkOf (.str l)=[]:=rfl
theorem bk_imV:blkOf (imV rows)=[]:=by unfold imV; split<;>rfl
theorem ap_slV (hx:xs≠[]) (hg:get b=if rows=[]then none else some (.cells k rows)) (hr:rows.length+xs.length≤1048576) (hb:bytes≤1048576) :
 appendRowsD id k bytes get (slV b rows) xs=some (.sl id 0 (rows.length+xs.length),dlV b id rows (.cells k (rows++xs))):=by
 have hrm:room=1048576:=rfl
 rw[← hrm]at hr hb
 have hxl:0<xs.length:=by grind
 unfold slV dlV
 by_cases h:rows=[]
 ·subst h
  simp only[if_true,appendRowsD,if_neg hx,List.length_nil,Nat.zero_add,List.nil_append]
  grind
 ·rw[if_neg h,if_neg h]
  simp only[appendRowsD,hg,if_neg h]
  grind
theorem ap_slV0 (hg:get b=if rows=[]then none else some (.cells k rows)):appendRowsD id k bytes get (slV b rows) []=some (slV b rows,dlS b k rows):=by
 unfold slV dlS
 by_cases h:rows=[]
 ·subst h; rfl
 ·rw[if_neg h,if_neg h]
  simp only[appendRowsD,hg,if_neg h]
  grind
theorem app_dlV {x:ABlk} (h:rows=[]→lookB m.bl b=none):m.app (dlV b id rows x)=⟨(id,x) :: eraseB m.bl b,m.next⟩:=by
 have key:∀ l:List (Nat×ABlk),lookB l b=none→eraseB l b=l:=by
  intro l
  induction l with
  | nil=>intro _; rfl
  | cons a r ih=>
   obtain⟨d,y⟩:=a
   intro hl
   simp only[lookB]at hl
   split at hl
   ·cases hl
   ·rename_i hd
    simp only[eraseB]
    grind
 unfold dlV
 by_cases h0:rows=[]
 ·rw[if_pos h0,key _ (h h0)]; rfl
 ·rw[if_neg h0]; rfl
theorem app_dlS:m.app (dlS b k rows)=⟨blV b k rows m.bl,m.next⟩:=by
 unfold dlS blV
 split<;>rfl
theorem ix_slV (hg:get b=if rows=[]then none else some (.cells k rows)) (hi:i<rows.length):idxZ get k (slV b rows) (some i)=some (.ptr b i 0,[]):=by
 have h:rows≠[]:=fun e=>by subst e; simp at hi
 unfold slV
 rw[if_neg h,ix_sl,hg,if_neg h]
 simp[hi]
theorem sr_slV (hg:get b=if rows=[]then none else some (.cells k rows)):srcRowsD get k (slV b rows)=some rows:=by
 unfold slV
 by_cases h:rows=[]
 ·subst h; rfl
 ·rw[if_neg h]
  simp[srcRowsD,rowsOfD,hg,h]
theorem sr_sl0 (len:Nat):srcRowsD get k (.sl b 0 len)=match get b with
 | some (.cells k' els)=>if k'=k∧len≤els.length then some (els.take len)else none
 | _=>if len=0 then some []else none:=by
 simp only[srcRowsD,rowsOfD,Nat.zero_add,List.drop_zero]
 rfl
theorem sr_nil:srcRowsD get k .nilSl=some []:=rfl
theorem sr_imm:srcRowsD get k (.imm rows)=if rows.all (·.length == k)then some rows else none:=rfl
theorem fz_slV {S:List Nat} (hb:memN b S=true) (hg:get b=if rows=[]then none else some (.cells k rows)) (hs:∀ row,row∈rows → ∀ x,x∈row→freezeV (onlyG get S) 4 x=some x):fzV get S (slV b rows)=imV rows:=by
 unfold slV imV
 by_cases h:rows=[]
 ·rw[if_pos h,if_pos h]; rfl
 ·rw[if_neg h,if_neg h]; exact fzV_sl hb (by rw[hg,if_neg h]) rfl hs
end
end Go.AE
end
