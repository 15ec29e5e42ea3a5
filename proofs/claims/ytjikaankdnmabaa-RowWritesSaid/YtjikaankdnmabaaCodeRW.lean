/- The code of the functions that the statement reaches, as the abstract machine has it, and that it is the program's: part all. No condition. -/
import Derived.Test.YtjikaankdnmabaaProg
import Derived.Test.YtjikaankdnmabaaAMb
set_option maxRecDepth 100000
namespace Go.Proofs.Ytjikaankdnmabaa
open Go Go.AM
abbrev Om (a b : Sl) : AOper := ⟨some a, .quiet false (qMov (.t b)), none⟩
abbrev Ol (a b : Sl) : AOper := ⟨some a, .quiet true (qLoad1 (.t b)), none⟩
abbrev Oe (a : Sl) (i : Nat) (b : Sl) : AOper := ⟨some a, .quiet false (qExt i (.t b)), none⟩
abbrev Ob (o : BinOp) (a b c : Sl) : AOper := ⟨some a, .quiet false (qBin o (.t b) (.t c)), none⟩
abbrev Of (a : Sl) (q : Slots → Mem → Option V) : AOper := ⟨some a, .quiet false q, none⟩
abbrev Og (a : Sl) (q : Slots → Mem → Option V) : AOper := ⟨some a, .quiet true q, none⟩
abbrev Oc (a : Sl) (n : Nat) (l : List Opd) : AOper := ⟨some a, .call (.c (.func (.func n) [] [])) l, none⟩
abbrev Oq (a : Sl) (o : AOp) : AOper := ⟨some a, o, none⟩
abbrev On (o : AOp) : AOper := ⟨none, o, none⟩
abbrev Gq (a : Sl) (o : AOp) (g : Sl) (b : Bool) : AOper := ⟨some a, o, some (g, b)⟩
def c3l0 : ACode :=
 (.seq (.ops [(Oq s32 (.next (.t s31))), (Oe s33 0 s32)])
 (.seq (.cond (.t s33) .skip (.exit 0))
 (.block 1 (.seq (.ops [(Og s34 (qEntry (.t s31))), (Oe s35 0 s34), (Oe s36 1 s34), (Om s12 s35), (Om s13 s36)])
 (.ops [(Om s37 s11), (Om s38 s12), (Om s39 s13), (On (.loud (lMset (.one .int) (.t s37) (.t s38) (.t s39))))])))))
def c3 : AFunc :=
 ⟨100, [(.tmp s10)], (.seq (.ops [(Oq s5 (.alloc (aBox (.t s0)))), (Oq s7 (.alloc (aBox (.t s2)))), (Of s10 (qMov (.c (.bool false))))])
 (.seq (.seq (.ops [(Om s22 s4), (Oc s23 8 [(.t s22)]), (Om s24 s23), (Gq s25 (.quiet false (qMov (.t s3))) s24 false), (Gq s26 (.call (.c (.func (.func 8) [] [])) [(.t s25)]) s24 false), (Of s27 (qPick (.t s24) (.c (.bool true)) (.t s26)))])
 (.cond (.t s27) (.seq (.ops [(Oc s28 9 []), (Om s10 s28)])
 .ret) .skip))
 (.seq (.ops [(Oq s29 (.alloc aMkm)), (Om s11 s29)])
 (.seq (.seq (.ops [(Om s30 s3), (Oq s31 (.loud (lRng (.t s30))))])
 (.block 0 (.loop c3l0)))
 (.seq (.ops [(Og s41 (qLoadN 3 (.t s5))), (Om s42 s1), (Og s43 (qLoadN 4 (.t s7))), (Om s44 s3), (Oc s45 10 [(.t s41), (.t s42), (.t s43), (.t s44)]), (Om s40 s45), (Oe s46 0 s40), (Oe s47 1 s40), (Om s14 s46), (Om s15 s47)])
 (.seq (.ops [(Og s49 (qLoadN 3 (.t s5))), (Om s50 s1), (Og s51 (qLoadN 4 (.t s7))), (Om s52 s3), (Oc s53 11 [(.t s49), (.t s50), (.t s51), (.t s52)]), (Om s48 s53), (Oe s54 0 s48), (Oe s55 1 s48), (Om s16 s54), (Om s17 s55)])
 (.seq (.ops [(Og s57 (qLoadN 3 (.t s5))), (Om s58 s1), (Og s59 (qLoadN 4 (.t s7))), (Om s60 s3), (Om s61 s4), (Oc s62 12 [(.t s57), (.t s58), (.t s59), (.t s60), (.t s61)]), (Om s56 s62), (Oe s63 0 s56), (Oe s64 1 s56), (Om s18 s63), (Om s19 s64)])
 (.seq (.ops [(Og s66 (qLoadN 3 (.t s5))), (Om s67 s1), (Og s68 (qLoadN 4 (.t s7))), (Om s69 s3), (Om s70 s4), (Oc s71 13 [(.t s66), (.t s67), (.t s68), (.t s69), (.t s70)]), (Om s65 s71), (Oe s72 0 s65), (Oe s73 1 s65), (Om s20 s72), (Om s21 s73)])
 (.seq (.ops [(Om s74 s15), (Om s75 s17), (Ob .eql s76 s74 s75), (Om s77 s76), (Gq s78 (.quiet false (qMov (.t s14))) s77 true), (Gq s79 (.quiet false (qMov (.t s16))) s77 true), (Gq s80 (.call (.c (.func (.func 14) [] [])) [(.t s78), (.t s79)]) s77 true), (Of s81 (qPick (.t s77) (.t s80) (.c (.bool false)))), (Om s82 s81), (Gq s83 (.quiet false (qMov (.t s19))) s82 true), (Gq s84 (.quiet false (qMov (.t s21))) s82 true), (Gq s85 (.quiet false (qBin .eql (.t s83) (.t s84))) s82 true), (Of s86 (qPick (.t s82) (.t s85) (.c (.bool false)))), (Om s87 s86), (Gq s88 (.quiet false (qMov (.t s18))) s87 true), (Gq s89 (.quiet false (qMov (.t s20))) s87 true), (Gq s90 (.call (.c (.func (.func 15) [] [])) [(.t s88), (.t s89)]) s87 true), (Of s91 (qPick (.t s87) (.t s90) (.c (.bool false)))), (Om s92 s91), (Gq s93 (.quiet false (qMov (.t s3))) s92 true), (Gq s94 (.quiet false (qMov (.t s11))) s92 true), (Gq s95 (.call (.c (.func (.func 15) [] [])) [(.t s93), (.t s94)]) s92 true), (Of s96 (qPick (.t s92) (.t s95) (.c (.bool false)))), (Om s97 s96), (Gq s98 (.call (.c (.func (.func 9) [] [])) []) s97 true), (Of s99 (qPick (.t s97) (.t s98) (.c (.bool false)))), (Om s10 s99)])
 .ret)))))))))⟩
def c8l0 : ACode :=
 (.seq (.ops [(Oq s10 (.next (.t s9))), (Oe s11 0 s10)])
 (.seq (.cond (.t s11) .skip (.exit 0))
 (.block 1 (.seq (.ops [(Og s12 (qEntry (.t s9))), (Oe s13 1 s12), (Om s4 s13)])
 (.seq (.ops [(Om s14 s4), (Of s15 (qLenS (.t s14))), (Of s16 (qBin .gtr (.t s15) (.c (.int .i64 200))))])
 (.cond (.t s16) (.seq (.ops [(Of s2 (qMov (.c (.bool true))))])
 .ret) .skip))))))
def c8 : AFunc :=
 ⟨17, [(.tmp s2)], (.seq (.ops [(Of s2 (qMov (.c (.bool false))))])
 (.seq (.seq (.ops [(Om s5 s0), (Og s6 (qLenM (.t s5))), (Of s7 (qBin .gtr (.t s6) (.c (.int .i64 20))))])
 (.cond (.t s7) (.seq (.ops [(Of s2 (qMov (.c (.bool true))))])
 .ret) .skip))
 (.seq (.seq (.ops [(Om s8 s0), (Oq s9 (.loud (lRng (.t s8))))])
 (.block 0 (.loop c8l0)))
 (.seq (.ops [(Of s2 (qMov (.c (.bool false))))])
 .ret))))⟩
def c9 : AFunc :=
 ⟨67, [(.tmp s0)], (.seq (.ops [(Of s0 (qMov (.c (.bool false))))])
 (.seq (.ops [(Oc s6 29 []), (Of s7 (qBld [(.bool false), (.bool false), (.bool false), (.bool false)] [(0, (1, (.c (.bool true)))), (1, (1, (.c (.bool false)))), (2, (1, (.c (.bool true))))])), (Oq s8 (.alloc aMkm)), (Oc s9 18 [(.c (.int .u8 1))]), (On (.loud (lMset (.one .int) (.t s8) (.c (.int .i64 0)) (.t s9)))), (Om s10 s8), (Oc s11 10 [(.t s6), (.c (.int .i64 0)), (.t s7), (.t s10)]), (Om s5 s11), (Oe s12 0 s5), (Oe s13 1 s5), (Om s1 s12), (Om s2 s13)])
 (.seq (.ops [(Oc s15 29 []), (Of s16 (qBld [(.bool false), (.bool false), (.bool false), (.bool false)] [(0, (1, (.c (.bool true)))), (1, (1, (.c (.bool false)))), (2, (1, (.c (.bool true))))])), (Oq s17 (.alloc aMkm)), (Oc s18 18 [(.c (.int .u8 1))]), (On (.loud (lMset (.one .int) (.t s17) (.c (.int .i64 0)) (.t s18)))), (Om s19 s17), (Oq s20 (.alloc aMkm)), (Oc s21 18 [(.c (.int .u8 2))]), (On (.loud (lMset (.one .int) (.t s20) (.c (.int .i64 0)) (.t s21)))), (Oc s22 18 [(.c (.int .u8 4))]), (On (.loud (lMset (.one .int) (.t s20) (.c (.int .i64 2)) (.t s22)))), (Om s23 s20), (Oc s24 12 [(.t s15), (.c (.int .i64 0)), (.t s16), (.t s19), (.t s23)]), (Om s14 s24), (Oe s25 0 s14), (Oe s26 1 s14), (Om s3 s25), (Om s4 s26)])
 (.seq (.draw (.calm (Om s27 s2) (.calm (Of s28 (qBin .eql (.t s27) (.c (.int .i64 0)))) (.calm (Om s29 s28) (.calm (Gq s30 (.quiet false (qMov (.t s1))) s29 true) (.calm (Gq s31 (.quiet false (qLenL (.t s30))) s29 true) (.calm (Gq s32 (.quiet false (qBin .eql (.t s31) (.c (.int .i64 2)))) s29 true) (.calm (Of s33 (qPick (.t s29) (.t s32) (.c (.bool false)))) (.calm (Om s34 s33) (.calm (Gq s35 (.quiet false (qMov (.t s1))) s34 true) (.calm (Gq s36 (.quiet false (qIaddrS 1 (.t s35) (.c (.int .i64 0)))) s34 true) (.calm (Gq s37 (.quiet true (qLoad1 (.t s36))) s34 true) (.calm (Gq s38 (.quiet false (qBin .eql (.t s37) (.c (.int .i64 0)))) s34 true) (.calm (Of s39 (qPick (.t s34) (.t s38) (.c (.bool false)))) (.calm (Om s40 s39) (.calm (Gq s41 (.quiet false (qMov (.t s1))) s40 true) (.calm (Gq s42 (.quiet false (qIaddrS 1 (.t s41) (.c (.int .i64 1)))) s40 true) (.calm (Gq s43 (.quiet true (qLoad1 (.t s42))) s40 true) (.calm (Gq s44 (.quiet false (qBin .eql (.t s43) (.c (.int .i64 2)))) s40 true) (.calm (Of s45 (qPick (.t s40) (.t s44) (.c (.bool false)))) (.calm (Om s46 s45) (.calm (Gq s47 (.quiet false (qMov (.t s4))) s46 true) (.calm (Gq s48 (.quiet false (qBin .eql (.t s47) (.c (.int .i64 0)))) s46 true) (.calm (Of s49 (qPick (.t s46) (.t s48) (.c (.bool false)))) (.calm (Om s50 s49) (.calm (Gq s51 (.quiet false (qMov (.t s3))) s50 true) (.calm (Gq s52 (.quiet true (qLenM (.t s51))) s50 true) (.calm (Gq s53 (.quiet false (qBin .eql (.t s52) (.c (.int .i64 2)))) s50 true) (.calm (Of s54 (qPick (.t s50) (.t s53) (.c (.bool false)))) (.calm (Om s55 s54) (.calm (Gq s56 (.quiet false (qMov (.t s3))) s55 true) (.calm (Gq s57 (.quiet true (qLook (.one .int) false (.str []) (.t s56) (.c (.int .i64 0)))) s55 true) (.last ⟨(Gq s58 (.call (.c (.func (.func 18) [] [])) [(.c (.int .u8 1))]) s55 true), [(Gq s57 (.quiet true (qLook (.one .int) false (.str []) (.t s56) (.c (.int .i64 0)))) s55 true)]⟩ (.calm (Gq s59 (.quiet false (qBin .eql (.t s57) (.t s58))) s55 true) (.calm (Of s60 (qPick (.t s55) (.t s59) (.c (.bool false)))) (.calm (Om s61 s60) (.calm (Gq s62 (.quiet false (qMov (.t s3))) s61 true) (.calm (Gq s63 (.quiet true (qLook (.one .int) false (.str []) (.t s62) (.c (.int .i64 2)))) s61 true) (.last ⟨(Gq s64 (.call (.c (.func (.func 18) [] [])) [(.c (.int .u8 7))]) s61 true), [(Gq s63 (.quiet true (qLook (.one .int) false (.str []) (.t s62) (.c (.int .i64 2)))) s61 true)]⟩ .fin)))))))))))))))))))))))))))))))))))))) [(Gq s65 (.quiet false (qBin .eql (.t s63) (.t s64))) s61 true), (Of s66 (qPick (.t s61) (.t s65) (.c (.bool false)))), (Om s0 s66)])
 .ret))))⟩
def c10l0 : ACode :=
 (.seq (.ops [(Oq s29 (.next (.t s28))), (Oe s30 0 s29)])
 (.seq (.cond (.t s30) .skip (.exit 0))
 (.block 1 (.seq (.ops [(Og s31 (qEntry (.t s28))), (Oe s32 0 s31), (Oe s33 1 s31), (Om s12 s32), (Om s13 s33)])
 (.seq (.ops [(Om s34 s11), (Om s35 s12), (Oc s36 31 [(.t s34), (.t s35)]), (Of s37 (qUn .not (.t s36))), (Om s38 s37), (Gq s39 (.quiet false (qMov (.t s13))) s38 false), (Gq s40 (.call (.c (.func (.func 32) [] [])) [(.t s39)]) s38 false), (Gq s41 (.quiet false (qUn .not (.t s40))) s38 false), (Of s42 (qPick (.t s38) (.c (.bool true)) (.t s41)))])
 (.cond (.t s42) (.seq (.ops [(Of s8 (qMov (.c .nilslice))), (Of s9 (qMov (.c (.int .i64 1))))])
 .ret) .skip))))))
def c10 : AFunc :=
 ⟨74, [(.tmp s8), (.tmp s9)], (.seq (.ops [(Oq s4 (.alloc (aBox (.t s0)))), (Oq s6 (.alloc (aBox (.t s2)))), (Of s8 (qMov (.c .nilslice))), (Of s9 (qMov (.c (.int .i64 0))))])
 (.seq (.seq (.ops [(Og s17 (qLoadN 3 (.t s4))), (Om s18 s1), (Og s19 (qLoadN 4 (.t s6))), (Oc s20 30 [(.t s17), (.t s18), (.t s19)]), (Om s10 s20)])
 (.seq (.ops [(Om s21 s10), (Of s22 (qBin .neq (.t s21) (.c (.int .i64 0))))])
 (.cond (.t s22) (.seq (.ops [(Om s23 s10), (Of s8 (qMov (.c .nilslice))), (Om s9 s23)])
 .ret) .skip)))
 (.seq (.ops [(Og s24 (qLoadN 3 (.t s4))), (Om s25 s1), (Oc s26 16 [(.t s24), (.t s25)]), (Om s11 s26)])
 (.seq (.seq (.ops [(Om s27 s3), (Oq s28 (.loud (lRng (.t s27))))])
 (.block 0 (.loop c10l0)))
 (.seq (.seq (.ops [(Om s43 s3), (Og s44 (qLenM (.t s43))), (Of s45 (qBin .eql (.t s44) (.c (.int .i64 0))))])
 (.cond (.t s45) (.seq (.ops [(Of s8 (qMov (.c .nilslice))), (Of s9 (qMov (.c (.int .i64 1))))])
 .ret) .skip))
 (.seq (.ops [(Og s47 (qLoadN 3 (.t s4))), (Om s48 s1), (Oc s49 27 [(.t s47), (.t s48)]), (Om s46 s49), (Oe s50 0 s46), (Oe s51 1 s46), (Om s14 s50), (Om s15 s51)])
 (.seq (.ops [(Og s52 (qLoadN 3 (.t s4))), (Om s53 s1), (Om s54 s3), (Oc s55 33 [(.t s52), (.t s53), (.t s54)]), (Om s16 s55)])
 (.seq (.block 2 (.seq (.ops [(Om s57 s14), (Of s58 (qIaddrA 4 1 (.t s6) (.t s57))), (Ol s59 s58), (Of s60 (qUn .not (.t s59))), (Om s56 s60)])
 (.cond (.t s56) (.seq (.ops [(Of s8 (qMov (.c .nilslice))), (Of s9 (qMov (.c (.int .i64 0))))])
 .ret) (.seq (.ops [(Og s62 (qLoadN 4 (.t s6))), (Om s63 s16), (Oc s64 34 [(.t s62), (.t s63)]), (Om s61 s64)])
 (.cond (.t s61) (.seq (.ops [(Om s65 s16), (Om s8 s65), (Of s9 (qMov (.c (.int .i64 0))))])
 .ret) .skip)))))
 (.seq (.ops [(Om s66 s3), (Oc s67 38 [(.t s66)]), (Oc s68 37 [(.t s67)]), (Om s69 s14), (Oq s70 (.alloc (aBsl 1 1 [(.int .i64 0)] [(0, (1, (.t s69)))]))), (Oq s71 (.loud (lApp 1 8 (.t s68) (.t s70)))), (Oc s72 36 [(.t s71)]), (Oc s73 35 [(.t s72)]), (Om s8 s73), (Of s9 (qMov (.c (.int .i64 0))))])
 .ret)))))))))⟩
def c11l0 : ACode :=
 (.seq (.ops [(Oq s35 (.next (.t s34))), (Oe s36 0 s35)])
 (.seq (.cond (.t s36) .skip (.exit 0))
 (.block 1 (.seq (.ops [(Og s37 (qEntry (.t s34))), (Oe s38 0 s37), (Oe s39 1 s37), (Om s12 s38), (Om s13 s39)])
 (.seq (.ops [(Om s40 s12), (Of s41 (qBin .lss (.t s40) (.c (.int .i64 0)))), (Om s42 s41), (Gq s43 (.quiet false (qMov (.t s12))) s42 false), (Gq s44 (.quiet false (qFaddr 1 (.t s4))) s42 false), (Gq s45 (.quiet true (qLoad1 (.t s44))) s42 false), (Gq s46 (.quiet false (qBin .geq (.t s43) (.t s45))) s42 false), (Of s47 (qPick (.t s42) (.c (.bool true)) (.t s46))), (Om s48 s47), (Gq s49 (.quiet false (qMov (.t s12))) s48 false), (Gq s50 (.quiet false (qMov (.t s11))) s48 false), (Gq s51 (.quiet false (qBin .eql (.t s49) (.t s50))) s48 false), (Of s52 (qPick (.t s48) (.c (.bool true)) (.t s51))), (Om s53 s52), (Gq s54 (.quiet false (qMov (.t s13))) s53 false), (Gq s55 (.quiet false (qLenS (.t s54))) s53 false), (Gq s56 (.quiet false (qBin .neq (.t s55) (.c (.int .i64 64)))) s53 false), (Of s57 (qPick (.t s53) (.c (.bool true)) (.t s56)))])
 (.cond (.t s57) (.seq (.ops [(Of s8 (qMov (.c .nilslice))), (Of s9 (qMov (.c (.int .i64 1))))])
 .ret) .skip))))))
def c11l1 : ACode :=
 (.seq (.seq (.ops [(Om s62 s17), (Of s63 (qFaddr 1 (.t s4))), (Ol s64 s63), (Ob .lss s65 s62 s64)])
 (.cond (.t s65) .skip (.exit 2)))
 (.seq (.block 3 (.seq (.ops [(Om s69 s3), (Om s70 s17), (Og s71 (qLook (.one .int) true (.str []) (.t s69) (.t s70))), (Om s68 s71), (Oe s72 0 s68), (Oe s73 1 s68), (Om s18 s72), (Om s19 s73)])
 (.seq (.ops [(Om s74 s17), (Om s75 s11), (Ob .eql s76 s74 s75), (Om s77 s76), (Gq s78 (.quiet false (qMov (.t s19))) s77 false), (Of s79 (qPick (.t s77) (.c (.bool true)) (.t s78)))])
 (.cond (.t s79) (.ops [(Om s80 s15), (Om s81 s17), (Oq s82 (.alloc (aBsl 1 1 [(.int .i64 0)] [(0, (1, (.t s81)))]))), (Oq s83 (.loud (lApp 1 8 (.t s80) (.t s82)))), (Om s15 s83)]) (.seq (.ops [(Om s84 s14), (Om s85 s17), (Oq s86 (.alloc (aBsl 1 1 [(.int .i64 0)] [(0, (1, (.t s85)))]))), (Oq s87 (.loud (lApp 1 8 (.t s84) (.t s86)))), (Om s14 s87)])
 (.ops [(Om s88 s16), (Om s89 s88), (Gq s90 (.quiet false (qMov (.t s17))) s89 false), (Gq s91 (.quiet false (qIaddrA 4 1 (.t s6) (.t s90))) s89 false), (Gq s92 (.quiet true (qLoad1 (.t s91))) s89 false), (Gq s93 (.quiet false (qUn .not (.t s92))) s89 false), (Of s94 (qPick (.t s89) (.c (.bool true)) (.t s93))), (Om s16 s94)]))))))
 (.ops [(Om s66 s17), (Of s67 (qBin .add (.t s66) (.c (.int .i64 1)))), (Om s17 s67)])))
def c11 : AFunc :=
 ⟨98, [(.tmp s8), (.tmp s9)], (.seq (.ops [(Oq s4 (.alloc (aBox (.t s0)))), (Oq s6 (.alloc (aBox (.t s2)))), (Of s8 (qMov (.c .nilslice))), (Of s9 (qMov (.c (.int .i64 0))))])
 (.seq (.ops [(Og s20 (qLoadN 3 (.t s4))), (Om s21 s1), (Og s22 (qLoadN 4 (.t s6))), (Oc s23 39 [(.t s20), (.t s21), (.t s22)]), (Om s10 s23)])
 (.seq (.seq (.ops [(Om s24 s10), (Of s25 (qBin .neq (.t s24) (.c (.int .i64 0))))])
 (.cond (.t s25) (.seq (.ops [(Om s26 s10), (Of s8 (qMov (.c .nilslice))), (Om s9 s26)])
 .ret) .skip))
 (.seq (.ops [(Og s27 (qLoadN 3 (.t s4))), (Om s28 s1), (Oc s29 40 [(.t s27), (.t s28)]), (Om s11 s29)])
 (.seq (.seq (.ops [(Om s30 s3), (Og s31 (qLenM (.t s30))), (Of s32 (qBin .eql (.t s31) (.c (.int .i64 0))))])
 (.cond (.t s32) (.seq (.ops [(Of s8 (qMov (.c .nilslice))), (Of s9 (qMov (.c (.int .i64 1))))])
 .ret) .skip))
 (.seq (.seq (.ops [(Om s33 s3), (Oq s34 (.loud (lRng (.t s33))))])
 (.block 0 (.loop c11l0)))
 (.seq (.seq (.ops [(Om s58 s11), (Of s59 (qIaddrA 4 1 (.t s6) (.t s58))), (Ol s60 s59), (Of s61 (qUn .not (.t s60)))])
 (.cond (.t s61) (.seq (.ops [(Of s8 (qMov (.c .nilslice))), (Of s9 (qMov (.c (.int .i64 0))))])
 .ret) .skip))
 (.seq (.ops [(Of s14 (qMov (.c .nilslice)))])
 (.seq (.ops [(Of s15 (qMov (.c .nilslice)))])
 (.seq (.ops [(Of s16 (qMov (.c (.bool false))))])
 (.seq (.seq (.ops [(Of s17 (qMov (.c (.int .i64 0))))])
 (.block 2 (.loop c11l1)))
 (.seq (.seq (.ops [(Om s95 s16)])
 (.cond (.t s95) (.seq (.ops [(Om s96 s15), (Om s8 s96), (Of s9 (qMov (.c (.int .i64 0))))])
 .ret) .skip))
 (.seq (.ops [(Om s97 s14), (Om s8 s97), (Of s9 (qMov (.c (.int .i64 0))))])
 .ret)))))))))))))⟩
def c12l0 : ACode :=
 (.seq (.ops [(Oq s39 (.next (.t s38))), (Oe s40 0 s39)])
 (.seq (.cond (.t s40) .skip (.exit 0))
 (.block 1 (.seq (.ops [(Og s41 (qEntry (.t s38))), (Oe s42 0 s41), (Oe s43 1 s41), (Om s15 s42), (Om s16 s43)])
 (.seq (.ops [(Om s44 s15), (Of s45 (qIaddrA 4 1 (.t s7) (.t s44))), (Ol s46 s45)])
 (.cond (.t s46) (.ops [(Om s47 s14), (Om s48 s15), (Om s49 s16), (On (.loud (lMset (.one .int) (.t s47) (.t s48) (.t s49))))]) .skip))))))
def c12 : AFunc :=
 ⟨77, [(.tmp s10), (.tmp s11)], (.seq (.ops [(Oq s5 (.alloc (aBox (.t s0)))), (Oq s7 (.alloc (aBox (.t s2)))), (Of s10 (qMov (.c .nilmap))), (Of s11 (qMov (.c (.int .i64 0))))])
 (.seq (.ops [(Og s22 (qLoadN 3 (.t s5))), (Om s23 s1), (Og s24 (qLoadN 4 (.t s7))), (Om s25 s3), (Oc s26 10 [(.t s22), (.t s23), (.t s24), (.t s25)]), (Om s21 s26), (Oe s27 0 s21), (Oe s28 1 s21), (Om s12 s27), (Om s13 s28)])
 (.seq (.seq (.ops [(Om s29 s13), (Of s30 (qBin .neq (.t s29) (.c (.int .i64 0))))])
 (.cond (.t s30) (.seq (.ops [(Om s31 s13), (Of s10 (qMov (.c .nilmap))), (Om s11 s31)])
 .ret) .skip))
 (.seq (.seq (.ops [(Om s32 s4), (Om s33 s12), (Oc s34 41 [(.t s32), (.t s33)]), (Of s35 (qUn .not (.t s34)))])
 (.cond (.t s35) (.seq (.ops [(Of s10 (qMov (.c .nilmap))), (Of s11 (qMov (.c (.int .i64 1))))])
 .ret) .skip))
 (.seq (.ops [(Oq s36 (.alloc aMkm)), (Om s14 s36)])
 (.seq (.seq (.ops [(Om s37 s3), (Oq s38 (.loud (lRng (.t s37))))])
 (.block 0 (.loop c12l0)))
 (.seq (.seq (.ops [(Og s51 (qLoadN 3 (.t s5))), (Om s52 s1), (Oc s53 27 [(.t s51), (.t s52)]), (Om s50 s53), (Oe s54 0 s50), (Oe s55 1 s50), (Om s17 s54), (Om s18 s55)])
 (.seq (.ops [(Om s56 s17), (Of s57 (qIaddrA 4 1 (.t s7) (.t s56))), (Ol s58 s57)])
 (.cond (.t s58) (.seq (.ops [(Om s60 s3), (Oc s61 43 [(.t s60)]), (Oc s62 42 [(.t s61)]), (Om s63 s4), (Om s64 s12), (Oc s65 44 [(.t s63), (.t s64)]), (Oq s66 (.loud (lApp 1 16 (.t s62) (.t s65)))), (Oc s67 28 [(.t s66)]), (Om s59 s67), (Oe s68 0 s59), (Oe s69 1 s59), (Om s19 s68), (Om s20 s69)])
 (.seq (.seq (.ops [(Om s70 s20), (Of s71 (qBin .neq (.t s70) (.c (.int .i64 0))))])
 (.cond (.t s71) (.seq (.ops [(Om s72 s20), (Of s10 (qMov (.c .nilmap))), (Om s11 s72)])
 .ret) .skip))
 (.ops [(Om s73 s14), (Om s74 s17), (Om s75 s19), (On (.loud (lMset (.one .int) (.t s73) (.t s74) (.t s75))))]))) .skip)))
 (.seq (.ops [(Om s76 s14), (Om s10 s76), (Of s11 (qMov (.c (.int .i64 0))))])
 .ret))))))))⟩
def c13l0 : ACode :=
 (.seq (.ops [(Oq s42 (.next (.t s41))), (Oe s43 0 s42)])
 (.seq (.cond (.t s43) .skip (.exit 0))
 (.block 1 (.seq (.ops [(Og s44 (qEntry (.t s41))), (Oe s45 0 s44), (Oe s46 1 s44), (Om s17 s45), (Om s18 s46)])
 (.seq (.ops [(Om s47 s14), (Om s48 s18), (Oq s49 (.alloc (aBsl 1 1 [(.str [])] [(0, (1, (.t s48)))]))), (Oq s50 (.loud (lApp 1 16 (.t s47) (.t s49)))), (Om s14 s50)])
 (.seq (.ops [(Om s51 s17), (Of s52 (qIaddrA 4 1 (.t s7) (.t s51))), (Ol s53 s52)])
 (.cond (.t s53) (.ops [(Om s54 s16), (Om s55 s17), (Om s56 s18), (On (.loud (lMset (.one .int) (.t s54) (.t s55) (.t s56))))]) .skip)))))))
def c13 : AFunc :=
 ⟨71, [(.tmp s10), (.tmp s11)], (.seq (.ops [(Oq s5 (.alloc (aBox (.t s0)))), (Oq s7 (.alloc (aBox (.t s2)))), (Of s10 (qMov (.c .nilmap))), (Of s11 (qMov (.c (.int .i64 0))))])
 (.seq (.ops [(Og s21 (qLoadN 3 (.t s5))), (Om s22 s1), (Og s23 (qLoadN 4 (.t s7))), (Om s24 s3), (Oc s25 11 [(.t s21), (.t s22), (.t s23), (.t s24)]), (Om s20 s25), (Oe s26 0 s20), (Oe s27 1 s20), (Om s12 s26), (Om s13 s27)])
 (.seq (.seq (.ops [(Om s28 s13), (Of s29 (qBin .neq (.t s28) (.c (.int .i64 0))))])
 (.cond (.t s29) (.seq (.ops [(Om s30 s13), (Of s10 (qMov (.c .nilmap))), (Om s11 s30)])
 .ret) .skip))
 (.seq (.ops [(Om s32 s4), (Om s33 s12), (Oc s34 45 [(.t s32), (.t s33)]), (Om s31 s34), (Oe s35 0 s31), (Oe s36 1 s31), (Om s14 s35), (Om s15 s36)])
 (.seq (.seq (.ops [(Om s37 s15), (Of s38 (qUn .not (.t s37)))])
 (.cond (.t s38) (.seq (.ops [(Of s10 (qMov (.c .nilmap))), (Of s11 (qMov (.c (.int .i64 1))))])
 .ret) .skip))
 (.seq (.ops [(Oq s39 (.alloc aMkm)), (Om s16 s39)])
 (.seq (.seq (.ops [(Om s40 s3), (Oq s41 (.loud (lRng (.t s40))))])
 (.block 0 (.loop c13l0)))
 (.seq (.ops [(Og s57 (qLoadN 3 (.t s5))), (Om s58 s1), (Oc s59 40 [(.t s57), (.t s58)]), (Om s19 s59)])
 (.seq (.seq (.ops [(Om s60 s19), (Of s61 (qIaddrA 4 1 (.t s7) (.t s60))), (Ol s62 s61)])
 (.cond (.t s62) (.ops [(Om s64 s16), (Om s65 s19), (Om s66 s14), (Oc s67 46 [(.t s66)]), (Om s63 s67), (Oe s68 0 s63), (Oe s69 1 s63), (On (.loud (lMset (.one .int) (.t s64) (.t s65) (.t s68))))]) .skip))
 (.seq (.ops [(Om s70 s16), (Om s10 s70), (Of s11 (qMov (.c (.int .i64 0))))])
 .ret))))))))))⟩
def c14l0 : ACode :=
 (.seq (.seq (.ops [(Om s11 s5), (Om s12 s0), (Of s13 (qLenL (.t s12))), (Ob .lss s14 s11 s13)])
 (.cond (.t s14) .skip (.exit 0)))
 (.seq (.block 1 (.seq (.draw (.calm (Om s17 s0) (.calm (Om s18 s5) (.calm (Of s19 (qIaddrS 1 (.t s17) (.t s18))) (.calm (Ol s20 s19) (.calm (Om s21 s1) (.calm (Om s22 s5) (.calm (Of s23 (qIaddrS 1 (.t s21) (.t s22))) (.calm (Ol s24 s23) .fin)))))))) [(Ob .neq s25 s20 s24)])
 (.cond (.t s25) (.seq (.ops [(Of s4 (qMov (.c (.bool false))))])
 .ret) .skip)))
 (.ops [(Om s15 s5), (Of s16 (qBin .add (.t s15) (.c (.int .i64 1)))), (Om s5 s16)])))
def c14 : AFunc :=
 ⟨26, [(.tmp s4)], (.seq (.ops [(Of s4 (qMov (.c (.bool false))))])
 (.seq (.seq (.ops [(Om s6 s0), (Of s7 (qLenL (.t s6))), (Om s8 s1), (Of s9 (qLenL (.t s8))), (Ob .neq s10 s7 s9)])
 (.cond (.t s10) (.seq (.ops [(Of s4 (qMov (.c (.bool false))))])
 .ret) .skip))
 (.seq (.seq (.ops [(Of s5 (qMov (.c (.int .i64 0))))])
 (.block 0 (.loop c14l0)))
 (.seq (.ops [(Of s4 (qMov (.c (.bool true))))])
 .ret))))⟩
def c15l0 : ACode :=
 (.seq (.ops [(Oq s16 (.next (.t s15))), (Oe s17 0 s16)])
 (.seq (.cond (.t s17) .skip (.exit 0))
 (.block 1 (.seq (.ops [(Og s18 (qEntry (.t s15))), (Oe s19 0 s18), (Oe s20 1 s18), (Om s5 s19), (Om s6 s20)])
 (.seq (.ops [(Om s22 s1), (Om s23 s5), (Og s24 (qLook (.one .int) true (.str []) (.t s22) (.t s23))), (Om s21 s24), (Oe s25 0 s21), (Oe s26 1 s21), (Om s7 s25), (Om s8 s26)])
 (.seq (.ops [(Om s27 s8), (Of s28 (qUn .not (.t s27))), (Om s29 s28), (Gq s30 (.quiet false (qMov (.t s6))) s29 false), (Gq s31 (.quiet false (qMov (.t s7))) s29 false), (Gq s32 (.quiet false (qBin .neq (.t s30) (.t s31))) s29 false), (Of s33 (qPick (.t s29) (.c (.bool true)) (.t s32)))])
 (.cond (.t s33) (.seq (.ops [(Of s4 (qMov (.c (.bool false))))])
 .ret) .skip)))))))
def c15 : AFunc :=
 ⟨34, [(.tmp s4)], (.seq (.ops [(Of s4 (qMov (.c (.bool false))))])
 (.seq (.seq (.ops [(Om s9 s0), (Og s10 (qLenM (.t s9))), (Om s11 s1), (Og s12 (qLenM (.t s11))), (Ob .neq s13 s10 s12)])
 (.cond (.t s13) (.seq (.ops [(Of s4 (qMov (.c (.bool false))))])
 .ret) .skip))
 (.seq (.seq (.ops [(Om s14 s0), (Oq s15 (.loud (lRng (.t s14))))])
 (.block 0 (.loop c15l0)))
 (.seq (.ops [(Of s4 (qMov (.c (.bool true))))])
 .ret))))⟩
def c16l0 : ACode :=
 (.seq (.ops [(Ob .lss s21 s20 s19)])
 (.seq (.cond (.t s21) .skip (.exit 0))
 (.seq (.block 1 (.seq (.ops [(Om s22 s20), (Om s8 s22)])
 (.ops [(Om s23 s7), (Om s24 s5), (Of s25 (qBin .add (.t s24) (.c (.int .i64 1)))), (Om s26 s8), (Ob .add s27 s25 s26), (Of s28 (qFaddr 1 (.t s2))), (Ol s29 s28), (Ob .rem s30 s27 s29), (Oq s31 (.alloc (aBsl 1 1 [(.int .i64 0)] [(0, (1, (.t s30)))]))), (Oq s32 (.loud (lApp 1 8 (.t s23) (.t s31)))), (Om s7 s32)])))
 (.ops [(Of s33 (qBin .add (.t s20) (.c (.int .i64 1)))), (Om s20 s33)]))))
def c16 : AFunc :=
 ⟨35, [(.tmp s4)], (.seq (.ops [(Oq s2 (.alloc (aBox (.t s0)))), (Of s4 (qMov (.c .nilslice)))])
 (.seq (.ops [(Og s10 (qLoadN 3 (.t s2))), (Om s11 s1), (Oc s12 27 [(.t s10), (.t s11)]), (Om s9 s12), (Oe s13 0 s9), (Oe s14 1 s9), (Om s5 s13), (Om s6 s14)])
 (.seq (.seq (.ops [(Om s15 s6), (Of s16 (qUn .not (.t s15)))])
 (.cond (.t s16) (.seq (.ops [(Of s4 (qMov (.c .nilslice)))])
 .ret) .skip))
 (.seq (.ops [(Of s7 (qMov (.c .nilslice)))])
 (.seq (.seq (.ops [(Of s17 (qFaddr 1 (.t s2))), (Ol s18 s17), (Of s19 (qBin .sub (.t s18) (.c (.int .i64 1)))), (Of s20 (qMov (.c (.int .i64 0))))])
 (.block 0 (.loop c16l0)))
 (.seq (.ops [(Om s34 s7), (Om s4 s34)])
 .ret))))))⟩
def c18l0 : ACode :=
 (.seq (.seq (.ops [(Om s6 s4), (Of s7 (qBin .lss (.t s6) (.c (.int .i64 64))))])
 (.cond (.t s7) .skip (.exit 0)))
 (.seq (.block 1 (.ops [(Om s10 s3), (Om s11 s4), (Om s12 s0), (Of s13 (qIaddrS 1 (.t s10) (.t s11))), (On (.loud (lSto 1 (.t s13) (.t s12))))]))
 (.ops [(Om s8 s4), (Of s9 (qBin .add (.t s8) (.c (.int .i64 1)))), (Om s4 s9)])))
def c18 : AFunc :=
 ⟨16, [(.tmp s2)], (.seq (.ops [(Of s2 (qMov (.c (.str []))))])
 (.seq (.ops [(Oq s5 (.alloc (aMks 1 1 [(.int .u8 0)] (.c (.int .i64 64)) (.c (.int .i64 64))))), (Om s3 s5)])
 (.seq (.seq (.ops [(Of s4 (qMov (.c (.int .i64 0))))])
 (.block 0 (.loop c18l0)))
 (.seq (.ops [(Om s14 s3), (Og s15 (qB2s (.t s14))), (Om s2 s15)])
 .ret))))⟩
def c27 : AFunc :=
 ⟨24, [(.tmp s4), (.tmp s5)], (.seq (.ops [(Oq s2 (.alloc (aBox (.t s0)))), (Of s4 (qMov (.c (.int .i64 0)))), (Of s5 (qMov (.c (.bool false))))])
 (.seq (.block 0 (.seq (.ops [(Og s7 (qLoadN 3 (.t s2))), (Om s8 s1), (Oc s9 47 [(.t s7), (.t s8)]), (Of s10 (qUn .not (.t s9))), (Om s6 s10)])
 (.cond (.t s6) (.seq (.ops [(Of s4 (qMov (.c (.int .i64 0)))), (Of s5 (qMov (.c (.bool false))))])
 .ret) (.seq (.ops [(Of s12 (qFaddr 0 (.t s2))), (Ol s13 s12), (Of s14 (qBin .eql (.t s13) (.c (.int .i64 1)))), (Om s11 s14)])
 (.cond (.t s11) (.seq (.ops [(Of s4 (qMov (.c (.int .i64 1)))), (Of s5 (qMov (.c (.bool true))))])
 .ret) .skip)))))
 (.seq (.draw (.calm (Of s15 (qFaddr 1 (.t s2))) (.calm (Ol s16 s15) (.calm (Of s17 (qBin .sub (.t s16) (.c (.int .i64 1)))) (.calm (Om s18 s1) (.calm (Of s19 (qBin .quo (.t s18) (.c (.int .i64 2)))) (.calm (Of s20 (qFaddr 1 (.t s2))) (.calm (Ol s21 s20) (.calm (Ob .rem s22 s19 s21) .fin)))))))) [(Ob .sub s23 s17 s22), (Om s4 s23), (Of s5 (qMov (.c (.bool true))))])
 .ret)))⟩
def c28l0 : ACode :=
 (.seq (.ops [(Ob .lss s21 s20 s19)])
 (.seq (.cond (.t s21) .skip (.exit 2))
 (.seq (.block 3 (.seq (.ops [(Om s22 s20), (Om s7 s22)])
 (.draw (.calm (Om s23 s4) (.calm (Om s24 s7) (.calm (Of s25 (qIaddrS 1 (.t s23) (.t s24))) (.calm (Ol s26 s25) (.calm (Om s27 s6) (.calm (Om s28 s7) (.calm (Of s29 (qIdxS (.t s27) (.t s28))) .fin))))))) [(Ob .xor s30 s26 s29), (Of s31 (qIaddrS 1 (.t s23) (.t s24))), (On (.loud (lSto 1 (.t s31) (.t s30))))])))
 (.ops [(Of s32 (qBin .add (.t s20) (.c (.int .i64 1)))), (Om s20 s32)]))))
def c28l1 : ACode :=
 (.seq (.ops [(Ob .lss s12 s11 s10)])
 (.seq (.cond (.t s12) .skip (.exit 0))
 (.seq (.block 1 (.seq (.ops [(Of s13 (qIaddrS 1 (.t s9) (.t s11))), (Ol s14 s13), (Om s6 s14)])
 (.seq (.seq (.ops [(Om s15 s6), (Oc s16 32 [(.t s15)]), (Of s17 (qUn .not (.t s16)))])
 (.cond (.t s17) (.seq (.ops [(Of s2 (qMov (.c (.str [])))), (Of s3 (qMov (.c (.int .i64 1))))])
 .ret) .skip))
 (.seq (.ops [(Om s18 s4), (Of s19 (qLenL (.t s18))), (Of s20 (qMov (.c (.int .i64 0))))])
 (.block 2 (.loop c28l0))))))
 (.ops [(Of s33 (qBin .add (.t s11) (.c (.int .i64 1)))), (Om s11 s33)]))))
def c28 : AFunc :=
 ⟨36, [(.tmp s2), (.tmp s3)], (.seq (.ops [(Of s2 (qMov (.c (.str [])))), (Of s3 (qMov (.c (.int .i64 0))))])
 (.seq (.ops [(Oq s8 (.alloc (aMks 1 1 [(.int .u8 0)] (.c (.int .i64 64)) (.c (.int .i64 64))))), (Om s4 s8)])
 (.seq (.seq (.ops [(Om s9 s0), (Of s10 (qLenL (.t s9))), (Of s11 (qMov (.c (.int .i64 0))))])
 (.block 0 (.loop c28l1)))
 (.seq (.ops [(Om s34 s4), (Og s35 (qB2s (.t s34))), (Om s2 s35), (Of s3 (qMov (.c (.int .i64 0))))])
 .ret))))⟩
def c29 : AFunc :=
 ⟨2, [(.cellN 3 s0)], (.seq (.ops [(Oq s0 (.alloc (aBox (.c (.agg [(.int .i64 0), (.int .i64 0), (.int .i64 0)])))))])
 (.seq (.ops [(Of s1 (qBld [(.int .i64 0), (.int .i64 0), (.int .i64 0)] [(0, (1, (.c (.int .i64 5)))), (1, (1, (.c (.int .i64 3)))), (2, (1, (.c (.int .i64 6))))])), (On (.loud (lSto 3 (.t s0) (.t s1))))])
 .ret))⟩
def c30l0 : ACode :=
 (.seq (.ops [(Ob .lss s22 s21 s20)])
 (.seq (.cond (.t s22) .skip (.exit 0))
 (.seq (.block 1 (.seq (.ops [(Om s23 s21), (Om s10 s23)])
 (.seq (.ops [(Om s24 s10), (Of s25 (qIaddrA 4 1 (.t s5) (.t s24))), (Ol s26 s25), (Of s27 (qUn .not (.t s26)))])
 (.cond (.t s27) (.ops [(Om s28 s9), (Of s29 (qBin .add (.t s28) (.c (.int .i64 1)))), (Om s9 s29)]) .skip))))
 (.ops [(Of s30 (qBin .add (.t s21) (.c (.int .i64 1)))), (Om s21 s30)]))))
def c30 : AFunc :=
 ⟨33, [(.tmp s6)], (.seq (.ops [(Oq s3 (.alloc (aBox (.t s0)))), (Oq s5 (.alloc (aBox (.t s2)))), (Of s6 (qMov (.c (.int .i64 0))))])
 (.seq (.seq (.ops [(Og s12 (qLoadN 3 (.t s3))), (Om s13 s1), (Oc s14 27 [(.t s12), (.t s13)]), (Om s11 s14), (Oe s15 0 s11), (Oe s16 1 s11), (Om s7 s15), (Om s8 s16)])
 (.seq (.ops [(Om s17 s8), (Of s18 (qUn .not (.t s17)))])
 (.cond (.t s18) (.seq (.ops [(Of s6 (qMov (.c (.int .i64 1))))])
 .ret) .skip)))
 (.seq (.ops [(Of s9 (qMov (.c (.int .i64 0))))])
 (.seq (.seq (.ops [(Of s19 (qFaddr 1 (.t s3))), (Ol s20 s19), (Of s21 (qMov (.c (.int .i64 0))))])
 (.block 0 (.loop c30l0)))
 (.seq (.seq (.ops [(Om s31 s9), (Of s32 (qBin .gtr (.t s31) (.c (.int .i64 1))))])
 (.cond (.t s32) (.seq (.ops [(Of s6 (qMov (.c (.int .i64 20))))])
 .ret) .skip))
 (.seq (.ops [(Of s6 (qMov (.c (.int .i64 0))))])
 .ret))))))⟩
def c31 : AFunc :=
 ⟨9, [(.tmp s4)], (.seq (.ops [(Of s4 (qMov (.c (.bool false))))])
 (.seq (.ops [(Om s5 s0), (Om s6 s1), (Oc s7 48 [(.t s5), (.t s6)]), (Of s8 (qBin .geq (.t s7) (.c (.int .i64 0)))), (Om s4 s8)])
 .ret))⟩
def c32 : AFunc :=
 ⟨6, [(.tmp s2)], (.seq (.ops [(Of s2 (qMov (.c (.bool false))))])
 (.seq (.ops [(Om s3 s0), (Of s4 (qLenS (.t s3))), (Of s5 (qBin .eql (.t s4) (.c (.int .i64 64)))), (Om s2 s5)])
 .ret))⟩
def c33 : AFunc :=
 ⟨14, [(.tmp s6)], (.seq (.ops [(Oq s3 (.alloc (aBox (.t s0)))), (Oq s5 (.alloc (aBox (.t s2)))), (Of s6 (qMov (.c .nilslice)))])
 (.seq (.ops [(Og s7 (qLoadN 3 (.t s3))), (Om s8 s1), (Oc s9 16 [(.t s7), (.t s8)]), (Of s10 (qMkf (.func 50) [] [(.t s5)])), (Oc s11 49 [(.t s9), (.t s10)]), (Oc s12 36 [(.t s11)]), (Oc s13 35 [(.t s12)]), (Om s6 s13)])
 .ret))⟩
def c34 : AFunc :=
 ⟨9, [(.tmp s4)], (.seq (.ops [(Oq s2 (.alloc (aBox (.t s0)))), (Of s4 (qMov (.c (.bool false))))])
 (.seq (.ops [(Om s5 s1), (Of s6 (qMkf (.func 52) [] [(.t s2)])), (Oc s7 51 [(.t s5), (.t s6)]), (Of s8 (qUn .not (.t s7))), (Om s4 s8)])
 .ret))⟩
def c35 : AFunc :=
 ⟨9, [(.tmp s2)], (.seq (.ops [(Of s2 (qMov (.c .nilslice)))])
 (.seq (.ops [(Om s4 s0), (Oc s5 37 [(.t s4)]), (Om s3 s5)])
 (.seq (.ops [(Om s6 s3), (Oc s7 53 [(.t s6)])])
 (.seq (.ops [(Om s8 s3), (Om s2 s8)])
 .ret))))⟩
def c36 : AFunc :=
 ⟨4, [(.tmp s2)], (.seq (.ops [(Oq s1 (.alloc (aBox (.t s0)))), (Of s2 (qMov (.c .nilfunc)))])
 (.seq (.ops [(Of s3 (qMkf (.func 54) [] [(.t s1)])), (Om s2 s3)])
 .ret))⟩
def c37 : AFunc :=
 ⟨5, [(.tmp s2)], (.seq (.ops [(Of s2 (qMov (.c .nilslice)))])
 (.seq (.ops [(Om s3 s0), (Oc s4 55 [(.c .nilslice), (.t s3)]), (Om s2 s4)])
 .ret))⟩
def c38 : AFunc :=
 ⟨4, [(.tmp s2)], (.seq (.ops [(Oq s1 (.alloc (aBox (.t s0)))), (Of s2 (qMov (.c .nilfunc)))])
 (.seq (.ops [(Of s3 (qMkf (.func 56) [] [(.t s1)])), (Om s2 s3)])
 .ret))⟩
def c39l0 : ACode :=
 (.seq (.seq (.ops [(Om s22 s8), (Of s23 (qFaddr 1 (.t s3))), (Ol s24 s23), (Ob .lss s25 s22 s24)])
 (.cond (.t s25) .skip (.exit 0)))
 (.seq (.block 1 (.seq (.ops [(Om s28 s8), (Of s29 (qIaddrA 4 1 (.t s5) (.t s28))), (Ol s30 s29), (Of s31 (qUn .not (.t s30)))])
 (.cond (.t s31) (.ops [(Om s32 s7), (Of s33 (qBin .add (.t s32) (.c (.int .i64 1)))), (Om s7 s33)]) .skip)))
 (.ops [(Om s26 s8), (Of s27 (qBin .add (.t s26) (.c (.int .i64 1)))), (Om s8 s27)])))
def c39 : AFunc :=
 ⟨36, [(.tmp s6)], (.seq (.ops [(Oq s3 (.alloc (aBox (.t s0)))), (Oq s5 (.alloc (aBox (.t s2)))), (Of s6 (qMov (.c (.int .i64 0))))])
 (.seq (.seq (.ops [(Og s9 (qLoadN 3 (.t s3))), (Oc s10 57 [(.t s9)]), (Of s11 (qUn .not (.t s10))), (Om s12 s11), (Gq s13 (.quiet false (qMov (.t s1))) s12 false), (Gq s14 (.quiet false (qBin .lss (.t s13) (.c (.int .i64 0)))) s12 false), (Of s15 (qPick (.t s12) (.c (.bool true)) (.t s14))), (Om s16 s15), (Gq s17 (.quiet false (qMov (.t s1))) s16 false), (Gq s18 (.quiet false (qFaddr 2 (.t s3))) s16 false), (Gq s19 (.quiet true (qLoad1 (.t s18))) s16 false), (Gq s20 (.quiet false (qBin .geq (.t s17) (.t s19))) s16 false), (Of s21 (qPick (.t s16) (.c (.bool true)) (.t s20)))])
 (.cond (.t s21) (.seq (.ops [(Of s6 (qMov (.c (.int .i64 1))))])
 .ret) .skip))
 (.seq (.ops [(Of s7 (qMov (.c (.int .i64 0))))])
 (.seq (.seq (.ops [(Of s8 (qMov (.c (.int .i64 0))))])
 (.block 0 (.loop c39l0)))
 (.seq (.seq (.ops [(Om s34 s7), (Of s35 (qBin .gtr (.t s34) (.c (.int .i64 1))))])
 (.cond (.t s35) (.seq (.ops [(Of s6 (qMov (.c (.int .i64 20))))])
 .ret) .skip))
 (.seq (.ops [(Of s6 (qMov (.c (.int .i64 0))))])
 .ret))))))⟩
def c40l0 : ACode :=
 (.seq (.seq (.ops [(Om s13 s6), (Om s14 s1), (Of s15 (qBin .quo (.t s14) (.c (.int .i64 2)))), (Ob .lss s16 s13 s15)])
 (.cond (.t s16) .skip (.exit 0)))
 (.seq (.block 1 (.seq (.ops [(Om s19 s5), (Of s20 (qBin .sub (.t s19) (.c (.int .i64 1)))), (Om s5 s20)])
 (.seq (.ops [(Om s21 s5), (Of s22 (qBin .lss (.t s21) (.c (.int .i64 0))))])
 (.cond (.t s22) (.ops [(Of s23 (qFaddr 1 (.t s2))), (Ol s24 s23), (Of s25 (qBin .sub (.t s24) (.c (.int .i64 1)))), (Om s5 s25)]) .skip))))
 (.ops [(Om s17 s6), (Of s18 (qBin .add (.t s17) (.c (.int .i64 1)))), (Om s6 s18)])))
def c40 : AFunc :=
 ⟨27, [(.tmp s4)], (.seq (.ops [(Oq s2 (.alloc (aBox (.t s0)))), (Of s4 (qMov (.c (.int .i64 0))))])
 (.seq (.seq (.ops [(Of s7 (qFaddr 0 (.t s2))), (Ol s8 s7), (Of s9 (qBin .eql (.t s8) (.c (.int .i64 1))))])
 (.cond (.t s9) (.seq (.ops [(Of s4 (qMov (.c (.int .i64 1))))])
 .ret) .skip))
 (.seq (.ops [(Of s10 (qFaddr 1 (.t s2))), (Ol s11 s10), (Of s12 (qBin .sub (.t s11) (.c (.int .i64 1)))), (Om s5 s12)])
 (.seq (.seq (.ops [(Of s6 (qMov (.c (.int .i64 0))))])
 (.block 0 (.loop c40l0)))
 (.seq (.ops [(Om s26 s5), (Om s4 s26)])
 .ret)))))⟩
def c41 : AFunc :=
 ⟨9, [(.tmp s4)], (.seq (.ops [(Oq s2 (.alloc (aBox (.t s0)))), (Of s4 (qMov (.c (.bool false))))])
 (.seq (.ops [(Om s5 s1), (Of s6 (qMkf (.func 58) [] [(.t s2)])), (Oc s7 51 [(.t s5), (.t s6)]), (Of s8 (qUn .not (.t s7))), (Om s4 s8)])
 .ret))⟩
def c42 : AFunc :=
 ⟨5, [(.tmp s2)], (.seq (.ops [(Of s2 (qMov (.c .nilslice)))])
 (.seq (.ops [(Om s3 s0), (Oc s4 59 [(.c .nilslice), (.t s3)]), (Om s2 s4)])
 .ret))⟩
def c43 : AFunc :=
 ⟨4, [(.tmp s2)], (.seq (.ops [(Oq s1 (.alloc (aBox (.t s0)))), (Of s2 (qMov (.c .nilfunc)))])
 (.seq (.ops [(Of s3 (qMkf (.func 60) [] [(.t s1)])), (Om s2 s3)])
 .ret))⟩
def c44l0 : ACode :=
 (.seq (.ops [(Ob .lss s11 s10 s9)])
 (.seq (.cond (.t s11) .skip (.exit 0))
 (.seq (.block 1 (.seq (.ops [(Of s12 (qIaddrS 1 (.t s8) (.t s10))), (Ol s13 s12), (Om s7 s13)])
 (.ops [(Om s14 s5), (Om s15 s0), (Om s16 s7), (Og s17 (qLook (.one .int) false (.str []) (.t s15) (.t s16))), (Oq s18 (.alloc (aBsl 1 1 [(.str [])] [(0, (1, (.t s17)))]))), (Oq s19 (.loud (lApp 1 16 (.t s14) (.t s18)))), (Om s5 s19)])))
 (.ops [(Of s20 (qBin .add (.t s10) (.c (.int .i64 1)))), (Om s10 s20)]))))
def c44 : AFunc :=
 ⟨22, [(.tmp s4)], (.seq (.ops [(Of s4 (qMov (.c .nilslice)))])
 (.seq (.ops [(Of s5 (qMov (.c .nilslice)))])
 (.seq (.seq (.ops [(Om s8 s1), (Of s9 (qLenL (.t s8))), (Of s10 (qMov (.c (.int .i64 0))))])
 (.block 0 (.loop c44l0)))
 (.seq (.ops [(Om s21 s5), (Om s4 s21)])
 .ret))))⟩
def c45l0 : ACode :=
 (.seq (.seq (.ops [(Om s8 s7), (Om s9 s1), (Of s10 (qLenL (.t s9))), (Ob .lss s11 s8 s10)])
 (.cond (.t s11) .skip (.exit 0)))
 (.seq (.block 1 (.seq (.seq (.ops [(Om s14 s0), (Om s15 s1), (Om s16 s7), (Of s17 (qIaddrS 1 (.t s15) (.t s16))), (Ol s18 s17), (Og s19 (qLook (.one .int) false (.str []) (.t s14) (.t s18))), (Of s20 (qLenS (.t s19))), (Of s21 (qBin .neq (.t s20) (.c (.int .i64 64))))])
 (.cond (.t s21) (.seq (.ops [(Of s4 (qMov (.c .nilslice))), (Of s5 (qMov (.c (.bool false))))])
 .ret) .skip))
 (.ops [(Om s22 s6), (Om s23 s0), (Om s24 s1), (Om s25 s7), (Of s26 (qIaddrS 1 (.t s24) (.t s25))), (Ol s27 s26), (Og s28 (qLook (.one .int) false (.str []) (.t s23) (.t s27))), (Oq s29 (.alloc (aBsl 1 1 [(.str [])] [(0, (1, (.t s28)))]))), (Oq s30 (.loud (lApp 1 16 (.t s22) (.t s29)))), (Om s6 s30)])))
 (.ops [(Om s12 s7), (Of s13 (qBin .add (.t s12) (.c (.int .i64 1)))), (Om s7 s13)])))
def c45 : AFunc :=
 ⟨32, [(.tmp s4), (.tmp s5)], (.seq (.ops [(Of s4 (qMov (.c .nilslice))), (Of s5 (qMov (.c (.bool false))))])
 (.seq (.ops [(Of s6 (qMov (.c .nilslice)))])
 (.seq (.seq (.ops [(Of s7 (qMov (.c (.int .i64 0))))])
 (.block 0 (.loop c45l0)))
 (.seq (.ops [(Om s31 s6), (Om s4 s31), (Of s5 (qMov (.c (.bool true))))])
 .ret))))⟩
def c46l0 : ACode :=
 (.seq (.seq (.ops [(Om s12 s7), (Om s13 s0), (Of s14 (qLenL (.t s13))), (Ob .lss s15 s12 s14)])
 (.cond (.t s15) .skip (.exit 2)))
 (.seq (.block 3 (.seq (.seq (.ops [(Om s18 s0), (Om s19 s7), (Of s20 (qIaddrS 1 (.t s18) (.t s19))), (Ol s21 s20), (Of s22 (qLenS (.t s21))), (Of s23 (qBin .neq (.t s22) (.c (.int .i64 64))))])
 (.cond (.t s23) (.seq (.ops [(Of s2 (qMov (.c (.str [])))), (Of s3 (qMov (.c (.bool false))))])
 .ret) .skip))
 (.ops [(Om s24 s6), (Om s25 s0), (Om s26 s7), (Of s27 (qIaddrS 1 (.t s25) (.t s26))), (Ol s28 s27), (Om s29 s5), (Of s30 (qIdxS (.t s28) (.t s29))), (Ob .xor s31 s24 s30), (Om s6 s31)])))
 (.ops [(Om s16 s7), (Of s17 (qBin .add (.t s16) (.c (.int .i64 1)))), (Om s7 s17)])))
def c46l1 : ACode :=
 (.seq (.seq (.ops [(Om s8 s5), (Of s9 (qBin .lss (.t s8) (.c (.int .i64 64))))])
 (.cond (.t s9) .skip (.exit 0)))
 (.seq (.block 1 (.seq (.ops [(Of s6 (qMov (.c (.int .u8 0))))])
 (.seq (.seq (.ops [(Of s7 (qMov (.c (.int .i64 0))))])
 (.block 2 (.loop c46l0)))
 (.ops [(Om s32 s4), (Om s33 s6), (Oq s34 (.alloc (aBsl 1 1 [(.int .u8 0)] [(0, (1, (.t s33)))]))), (Og s35 (qB2s (.t s34))), (Ob .add s36 s32 s35), (Om s4 s36)]))))
 (.ops [(Om s10 s5), (Of s11 (qBin .add (.t s10) (.c (.int .i64 1)))), (Om s5 s11)])))
def c46 : AFunc :=
 ⟨38, [(.tmp s2), (.tmp s3)], (.seq (.ops [(Of s2 (qMov (.c (.str [])))), (Of s3 (qMov (.c (.bool false))))])
 (.seq (.ops [(Of s4 (qMov (.c (.str []))))])
 (.seq (.seq (.ops [(Of s5 (qMov (.c (.int .i64 0))))])
 (.block 0 (.loop c46l1)))
 (.seq (.ops [(Om s37 s4), (Om s2 s37), (Of s3 (qMov (.c (.bool true))))])
 .ret))))⟩
def c47 : AFunc :=
 ⟨17, [(.tmp s4)], (.seq (.ops [(Oq s2 (.alloc (aBox (.t s0)))), (Of s4 (qMov (.c (.bool false))))])
 (.seq (.ops [(Og s5 (qLoadN 3 (.t s2))), (Oc s6 61 [(.t s5)]), (Om s7 s6), (Gq s8 (.quiet false (qMov (.t s1))) s7 true), (Gq s9 (.quiet false (qBin .geq (.t s8) (.c (.int .i64 0)))) s7 true), (Of s10 (qPick (.t s7) (.t s9) (.c (.bool false)))), (Om s11 s10), (Gq s12 (.quiet false (qMov (.t s1))) s11 true), (Gq s13 (.quiet false (qFaddr 2 (.t s2))) s11 true), (Gq s14 (.quiet true (qLoad1 (.t s13))) s11 true), (Gq s15 (.quiet false (qBin .lss (.t s12) (.t s14))) s11 true), (Of s16 (qPick (.t s11) (.t s15) (.c (.bool false)))), (Om s4 s16)])
 .ret))⟩
def c48l0 : ACode :=
 (.seq (.ops [(Ob .lss s9 s8 s7)])
 (.seq (.cond (.t s9) .skip (.exit 0))
 (.seq (.block 1 (.seq (.ops [(Om s10 s8), (Om s5 s10)])
 (.seq (.ops [(Om s11 s1), (Om s12 s0), (Om s13 s5), (Of s14 (qIaddrS 1 (.t s12) (.t s13))), (Ol s15 s14), (Ob .eql s16 s11 s15)])
 (.cond (.t s16) (.seq (.ops [(Om s17 s5), (Om s4 s17)])
 .ret) .skip))))
 (.ops [(Of s18 (qBin .add (.t s8) (.c (.int .i64 1)))), (Om s8 s18)]))))
def c48 : AFunc :=
 ⟨19, [(.tmp s4)], (.seq (.ops [(Of s4 (qMov (.c (.int .i64 0))))])
 (.seq (.seq (.ops [(Om s6 s0), (Of s7 (qLenL (.t s6))), (Of s8 (qMov (.c (.int .i64 0))))])
 (.block 0 (.loop c48l0)))
 (.seq (.ops [(Of s4 (qMov (.c (.int .i64 (-1)))))])
 .ret)))⟩
def c49l0 : ACode :=
 (.seq (.seq (.ops [(Om s16 s6), (Om s17 s0), (Of s18 (qLenL (.t s17))), (Ob .lss s19 s16 s18)])
 (.cond (.t s19) .skip (.exit 0)))
 (.seq (.block 1 (.seq (.ops [(Om s22 s0), (Om s23 s6), (Of s24 (qIaddrS 1 (.t s22) (.t s23))), (Ol s25 s24), (Om s7 s25)])
 (.seq (.ops [(Om s26 s1), (Om s27 s7), (Oq s28 (.call (.t s26) [(.t s27)])), (Of s29 (qUn .not (.t s28)))])
 (.cond (.t s29) (.seq (.ops [(Om s30 s0), (Om s31 s5), (Om s32 s7), (Of s33 (qIaddrS 1 (.t s30) (.t s31))), (On (.loud (lSto 1 (.t s33) (.t s32))))])
 (.ops [(Om s34 s5), (Of s35 (qBin .add (.t s34) (.c (.int .i64 1)))), (Om s5 s35)])) .skip))))
 (.ops [(Om s20 s6), (Of s21 (qBin .add (.t s20) (.c (.int .i64 1)))), (Om s6 s21)])))
def c49 : AFunc :=
 ⟨42, [(.tmp s4)], (.seq (.ops [(Of s4 (qMov (.c .nilslice)))])
 (.seq (.ops [(Om s8 s0), (Om s9 s1), (Oc s10 62 [(.t s8), (.t s9)]), (Om s5 s10)])
 (.seq (.seq (.ops [(Om s11 s5), (Of s12 (qBin .eql (.t s11) (.c (.int .i64 (-1)))))])
 (.cond (.t s12) (.seq (.ops [(Om s13 s0), (Om s4 s13)])
 .ret) .skip))
 (.seq (.seq (.ops [(Om s14 s5), (Of s15 (qBin .add (.t s14) (.c (.int .i64 1)))), (Om s6 s15)])
 (.block 0 (.loop c49l0)))
 (.seq (.ops [(Om s36 s0), (Om s37 s5), (Of s38 (qSlcS 1 (.t s36) (some (.t s37)) none none)), (On (.loud (lClrS [(.int .i64 0)] (.t s38))))])
 (.seq (.ops [(Om s39 s0), (Om s40 s5), (Of s41 (qSlcS 1 (.t s39) none (some (.t s40)) none)), (Om s4 s41)])
 .ret))))))⟩
def c50 : AFunc :=
 ⟨13, [(.tmp s3)], (.seq (.ops [(Of s3 (qMov (.c (.bool false))))])
 (.seq (.ops [(Ol s7 s1), (Om s8 s0), (Og s9 (qLook (.one .int) true (.str []) (.t s7) (.t s8))), (Om s6 s9), (Oe s10 0 s6), (Oe s11 1 s6), (Om s4 s10), (Om s5 s11)])
 (.seq (.ops [(Om s12 s5), (Om s3 s12)])
 .ret)))⟩
def c51 : AFunc :=
 ⟨9, [(.tmp s4)], (.seq (.ops [(Of s4 (qMov (.c (.bool false))))])
 (.seq (.ops [(Om s5 s0), (Om s6 s1), (Oc s7 62 [(.t s5), (.t s6)]), (Of s8 (qBin .geq (.t s7) (.c (.int .i64 0)))), (Om s4 s8)])
 .ret))⟩
def c52 : AFunc :=
 ⟨8, [(.tmp s3)], (.seq (.ops [(Of s3 (qMov (.c (.bool false))))])
 (.seq (.ops [(Om s4 s0), (Of s5 (qIaddrA 4 1 (.t s1) (.t s4))), (Ol s6 s5), (Of s7 (qUn .not (.t s6))), (Om s3 s7)])
 .ret))⟩
def c53 : AFunc :=
 ⟨11, [], (.seq (.ops [(Om s3 s0), (Of s4 (qLenL (.t s3))), (Om s2 s4)])
 (.ops [(Om s5 s0), (Om s6 s2), (Om s7 s2), (Of s8 (qConv .u64 (.t s7))), (Oc s9 64 [(.t s8)]), (Oc s10 63 [(.t s5), (.c (.int .i64 0)), (.t s6), (.t s9)])]))⟩
def c54l0 : ACode :=
 (.seq (.ops [(Ob .lss s8 s7 s6)])
 (.seq (.cond (.t s8) .skip (.exit 0))
 (.seq (.block 1 (.seq (.ops [(Of s9 (qIaddrS 1 (.t s5) (.t s7))), (Ol s10 s9), (Om s4 s10)])
 (.seq (.ops [(Om s11 s0), (Om s12 s4), (Oq s13 (.call (.t s11) [(.t s12)])), (Of s14 (qUn .not (.t s13)))])
 (.cond (.t s14) .ret .skip))))
 (.ops [(Of s15 (qBin .add (.t s7) (.c (.int .i64 1)))), (Om s7 s15)]))))
def c54 : AFunc :=
 ⟨16, [], (.seq (.ops [(Ol s5 s1), (Of s6 (qLenL (.t s5))), (Of s7 (qMov (.c (.int .i64 0))))])
 (.block 0 (.loop c54l0)))⟩
def c55 : AFunc :=
 ⟨13, [(.tmp s4)], (.seq (.ops [(Oq s2 (.alloc (aBox (.t s0)))), (Of s4 (qMov (.c .nilslice)))])
 (.seq (.seq (.ops [(Om s6 s1)])
 (.block 0 (.rangeFunc (.t s6) [s7] (.ops [(Om s5 s7)]) (.block 1 (.ops [(Ol s8 s2), (Om s9 s5), (Oq s10 (.alloc (aBsl 1 1 [(.int .i64 0)] [(0, (1, (.t s9)))]))), (Oq s11 (.loud (lApp 1 8 (.t s8) (.t s10)))), (On (.loud (lSto 1 (.t s2) (.t s11))))])))))
 (.seq (.ops [(Ol s12 s2), (Om s4 s12)])
 .ret)))⟩
def c56l0 : ACode :=
 (.seq (.ops [(Oq s6 (.next (.t s5))), (Oe s7 0 s6)])
 (.seq (.cond (.t s7) .skip (.exit 0))
 (.block 1 (.seq (.ops [(Og s8 (qEntry (.t s5))), (Oe s9 0 s8), (Om s3 s9)])
 (.seq (.ops [(Om s10 s0), (Om s11 s3), (Oq s12 (.call (.t s10) [(.t s11)])), (Of s13 (qUn .not (.t s12)))])
 (.cond (.t s13) .ret .skip))))))
def c56 : AFunc :=
 ⟨14, [], (.seq (.ops [(Ol s4 s1), (Oq s5 (.loud (lRng (.t s4))))])
 (.block 0 (.loop c56l0)))⟩
def c57 : AFunc :=
 ⟨36, [(.tmp s2)], (.seq (.ops [(Oq s1 (.alloc (aBox (.t s0)))), (Of s2 (qMov (.c (.bool false))))])
 (.seq (.seq (.ops [(Of s3 (qFaddr 2 (.t s1))), (Ol s4 s3), (Of s5 (qBin .lss (.t s4) (.c (.int .i64 2)))), (Om s6 s5), (Gq s7 (.quiet false (qFaddr 2 (.t s1))) s6 false), (Gq s8 (.quiet true (qLoad1 (.t s7))) s6 false), (Gq s9 (.quiet false (qBin .gtr (.t s8) (.c (.int .i64 64)))) s6 false), (Of s10 (qPick (.t s6) (.c (.bool true)) (.t s9))), (Om s11 s10), (Gq s12 (.quiet false (qFaddr 2 (.t s1))) s11 false), (Gq s13 (.quiet true (qLoad1 (.t s12))) s11 false), (Gq s14 (.quiet false (qBin .rem (.t s13) (.c (.int .i64 2)))) s11 false), (Gq s15 (.quiet false (qBin .neq (.t s14) (.c (.int .i64 0)))) s11 false), (Of s16 (qPick (.t s11) (.c (.bool true)) (.t s15)))])
 (.cond (.t s16) (.seq (.ops [(Of s2 (qMov (.c (.bool false))))])
 .ret) .skip))
 (.seq (.seq (.ops [(Of s17 (qFaddr 0 (.t s1))), (Ol s18 s17), (Of s19 (qBin .eql (.t s18) (.c (.int .i64 1))))])
 (.cond (.t s19) (.seq (.ops [(Of s20 (qFaddr 1 (.t s1))), (Ol s21 s20), (Of s22 (qBin .eql (.t s21) (.c (.int .i64 2)))), (Om s2 s22)])
 .ret) .skip))
 (.seq (.ops [(Of s23 (qFaddr 0 (.t s1))), (Ol s24 s23), (Of s25 (qBin .eql (.t s24) (.c (.int .i64 5)))), (Om s26 s25), (Gq s27 (.quiet false (qFaddr 1 (.t s1))) s26 true), (Gq s28 (.quiet true (qLoad1 (.t s27))) s26 true), (Gq s29 (.quiet false (qBin .geq (.t s28) (.c (.int .i64 3)))) s26 true), (Of s30 (qPick (.t s26) (.t s29) (.c (.bool false)))), (Om s31 s30), (Gq s32 (.quiet false (qFaddr 1 (.t s1))) s31 true), (Gq s33 (.quiet true (qLoad1 (.t s32))) s31 true), (Gq s34 (.quiet false (qBin .leq (.t s33) (.c (.int .i64 4)))) s31 true), (Of s35 (qPick (.t s31) (.t s34) (.c (.bool false)))), (Om s2 s35)])
 .ret))))⟩
def c58 : AFunc :=
 ⟨9, [(.tmp s3)], (.seq (.ops [(Of s3 (qMov (.c (.bool false))))])
 (.seq (.ops [(Ol s4 s1), (Om s5 s0), (Og s6 (qLook (.one .int) false (.str []) (.t s4) (.t s5))), (Oc s7 32 [(.t s6)]), (Of s8 (qUn .not (.t s7))), (Om s3 s8)])
 .ret))⟩
def c59 : AFunc :=
 ⟨13, [(.tmp s4)], (.seq (.ops [(Oq s2 (.alloc (aBox (.t s0)))), (Of s4 (qMov (.c .nilslice)))])
 (.seq (.seq (.ops [(Om s6 s1)])
 (.block 0 (.rangeFunc (.t s6) [s7] (.ops [(Om s5 s7)]) (.block 1 (.ops [(Ol s8 s2), (Om s9 s5), (Oq s10 (.alloc (aBsl 1 1 [(.str [])] [(0, (1, (.t s9)))]))), (Oq s11 (.loud (lApp 1 16 (.t s8) (.t s10)))), (On (.loud (lSto 1 (.t s2) (.t s11))))])))))
 (.seq (.ops [(Ol s12 s2), (Om s4 s12)])
 .ret)))⟩
def c60l0 : ACode :=
 (.seq (.ops [(Oq s7 (.next (.t s6))), (Oe s8 0 s7)])
 (.seq (.cond (.t s8) .skip (.exit 0))
 (.block 1 (.seq (.ops [(Og s9 (qEntry (.t s6))), (Oe s10 1 s9), (Om s4 s10)])
 (.seq (.ops [(Om s11 s0), (Om s12 s4), (Oq s13 (.call (.t s11) [(.t s12)])), (Of s14 (qUn .not (.t s13)))])
 (.cond (.t s14) .ret .skip))))))
def c60 : AFunc :=
 ⟨15, [], (.seq (.ops [(Ol s5 s1), (Oq s6 (.loud (lRng (.t s5))))])
 (.block 0 (.loop c60l0)))⟩
def c61 : AFunc :=
 ⟨44, [(.tmp s2)], (.seq (.ops [(Oq s1 (.alloc (aBox (.t s0)))), (Of s2 (qMov (.c (.bool false))))])
 (.seq (.ops [(Of s4 (qFaddr 0 (.t s1))), (Ol s5 s4), (Of s6 (qBin .eql (.t s5) (.c (.int .i64 1)))), (Om s7 s6), (Gq s8 (.quiet false (qFaddr 1 (.t s1))) s7 true), (Gq s9 (.quiet true (qLoad1 (.t s8))) s7 true), (Gq s10 (.quiet false (qBin .eql (.t s9) (.c (.int .i64 2)))) s7 true), (Of s11 (qPick (.t s7) (.t s10) (.c (.bool false)))), (Om s12 s11), (Gq s13 (.quiet false (qFaddr 0 (.t s1))) s12 false), (Gq s14 (.quiet true (qLoad1 (.t s13))) s12 false), (Gq s15 (.quiet false (qBin .eql (.t s14) (.c (.int .i64 5)))) s12 false), (Gq s16 (.quiet false (qMov (.t s15))) s12 false), (Gq s17 (.quiet false (qFaddr 1 (.t s1))) s16 true), (Gq s18 (.quiet true (qLoad1 (.t s17))) s16 true), (Gq s19 (.quiet false (qBin .eql (.t s18) (.c (.int .i64 3)))) s16 true), (Gq s20 (.quiet false (qMov (.t s19))) s16 true), (Gq s21 (.quiet false (qFaddr 1 (.t s1))) s20 false), (Gq s22 (.quiet true (qLoad1 (.t s21))) s20 false), (Gq s23 (.quiet false (qBin .eql (.t s22) (.c (.int .i64 4)))) s20 false), (Gq s24 (.quiet false (qPick (.t s20) (.c (.bool true)) (.t s23))) s16 true), (Gq s25 (.quiet false (qPick (.t s16) (.t s24) (.c (.bool false)))) s12 false), (Of s26 (qPick (.t s12) (.c (.bool true)) (.t s25))), (Om s3 s26)])
 (.seq (.ops [(Om s27 s3), (Om s28 s27), (Gq s29 (.quiet false (qFaddr 2 (.t s1))) s28 true), (Gq s30 (.quiet true (qLoad1 (.t s29))) s28 true), (Gq s31 (.quiet false (qBin .geq (.t s30) (.c (.int .i64 2)))) s28 true), (Of s32 (qPick (.t s28) (.t s31) (.c (.bool false)))), (Om s33 s32), (Gq s34 (.quiet false (qFaddr 2 (.t s1))) s33 true), (Gq s35 (.quiet true (qLoad1 (.t s34))) s33 true), (Gq s36 (.quiet false (qBin .leq (.t s35) (.c (.int .i64 64)))) s33 true), (Of s37 (qPick (.t s33) (.t s36) (.c (.bool false)))), (Om s38 s37), (Gq s39 (.quiet false (qFaddr 2 (.t s1))) s38 true), (Gq s40 (.quiet true (qLoad1 (.t s39))) s38 true), (Gq s41 (.quiet false (qBin .rem (.t s40) (.c (.int .i64 2)))) s38 true), (Gq s42 (.quiet false (qBin .eql (.t s41) (.c (.int .i64 0)))) s38 true), (Of s43 (qPick (.t s38) (.t s42) (.c (.bool false)))), (Om s2 s43)])
 .ret)))⟩
def c62l0 : ACode :=
 (.seq (.ops [(Ob .lss s9 s8 s7)])
 (.seq (.cond (.t s9) .skip (.exit 0))
 (.seq (.block 1 (.seq (.ops [(Om s10 s8), (Om s5 s10)])
 (.seq (.ops [(Om s11 s1), (Om s12 s0), (Om s13 s5), (Of s14 (qIaddrS 1 (.t s12) (.t s13))), (Ol s15 s14), (Oq s16 (.call (.t s11) [(.t s15)]))])
 (.cond (.t s16) (.seq (.ops [(Om s17 s5), (Om s4 s17)])
 .ret) .skip))))
 (.ops [(Of s18 (qBin .add (.t s8) (.c (.int .i64 1)))), (Om s8 s18)]))))
def c62 : AFunc :=
 ⟨19, [(.tmp s4)], (.seq (.ops [(Of s4 (qMov (.c (.int .i64 0))))])
 (.seq (.seq (.ops [(Om s6 s0), (Of s7 (qLenL (.t s6))), (Of s8 (qMov (.c (.int .i64 0))))])
 (.block 0 (.loop c62l0)))
 (.seq (.ops [(Of s4 (qMov (.c (.int .i64 (-1)))))])
 .ret)))⟩
def c63l0 : ACode :=
 (.block 1 (.seq (.ops [(Om s19 s2), (Om s20 s1), (Ob .sub s21 s19 s20), (Om s10 s21)])
 (.seq (.seq (.ops [(Om s22 s10), (Of s23 (qBin .leq (.t s22) (.c (.int .i64 12))))])
 (.cond (.t s23) (.seq (.ops [(Om s24 s0), (Om s25 s1), (Om s26 s2), (Oc s27 65 [(.t s24), (.t s25), (.t s26)])])
 .ret) .skip))
 (.seq (.seq (.ops [(Om s28 s3), (Of s29 (qBin .eql (.t s28) (.c (.int .i64 0))))])
 (.cond (.t s29) (.seq (.ops [(Om s30 s0), (Om s31 s1), (Om s32 s2), (Oc s33 66 [(.t s30), (.t s31), (.t s32)])])
 .ret) .skip))
 (.seq (.seq (.ops [(Om s34 s8), (Of s35 (qUn .not (.t s34)))])
 (.cond (.t s35) (.seq (.ops [(Om s36 s0), (Om s37 s1), (Om s38 s2), (Oc s39 67 [(.t s36), (.t s37), (.t s38)])])
 (.ops [(Om s40 s3), (Of s41 (qBin .sub (.t s40) (.c (.int .i64 1)))), (Om s3 s41)])) .skip))
 (.seq (.ops [(Om s43 s0), (Om s44 s1), (Om s45 s2), (Oc s46 68 [(.t s43), (.t s44), (.t s45)]), (Om s42 s46), (Oe s47 0 s42), (Oe s48 1 s42), (Om s11 s47), (Om s12 s48)])
 (.seq (.seq (.ops [(Om s49 s12), (Of s50 (qBin .eql (.t s49) (.c (.int .i64 2))))])
 (.cond (.t s50) (.seq (.ops [(Om s51 s0), (Om s52 s1), (Om s53 s2), (Oc s54 69 [(.t s51), (.t s52), (.t s53)])])
 (.seq (.ops [(Om s55 s2), (Of s56 (qBin .sub (.t s55) (.c (.int .i64 1)))), (Om s57 s11), (Om s58 s1), (Ob .sub s59 s57 s58), (Ob .sub s60 s56 s59), (Om s11 s60)])
 (.ops [(Of s12 (qMov (.c (.int .i64 1))))]))) .skip))
 (.seq (.seq (.ops [(Om s61 s8), (Om s62 s61), (Gq s63 (.quiet false (qMov (.t s9))) s62 true), (Of s64 (qPick (.t s62) (.t s63) (.c (.bool false)))), (Om s65 s64), (Gq s66 (.quiet false (qMov (.t s12))) s65 true), (Gq s67 (.quiet false (qBin .eql (.t s66) (.c (.int .i64 1)))) s65 true), (Of s68 (qPick (.t s65) (.t s67) (.c (.bool false))))])
 (.cond (.t s68) (.seq (.ops [(Om s69 s0), (Om s70 s1), (Om s71 s2), (Oc s72 70 [(.t s69), (.t s70), (.t s71)])])
 (.cond (.t s72) .ret .skip)) .skip))
 (.seq (.seq (.draw (.calm (Om s73 s1) (.calm (Of s74 (qBin .gtr (.t s73) (.c (.int .i64 0)))) (.calm (Om s75 s74) (.calm (Gq s76 (.quiet false (qMov (.t s0))) s75 true) (.calm (Gq s77 (.quiet false (qMov (.t s1))) s75 true) (.calm (Gq s78 (.quiet false (qBin .sub (.t s77) (.c (.int .i64 1)))) s75 true) (.calm (Gq s79 (.quiet false (qIaddrS 1 (.t s76) (.t s78))) s75 true) (.calm (Gq s80 (.quiet true (qLoad1 (.t s79))) s75 true) (.calm (Gq s81 (.quiet false (qMov (.t s0))) s75 true) (.calm (Gq s82 (.quiet false (qMov (.t s11))) s75 true) (.calm (Gq s83 (.quiet false (qIaddrS 1 (.t s81) (.t s82))) s75 true) (.calm (Gq s84 (.quiet true (qLoad1 (.t s83))) s75 true) .fin)))))))))))) [(Gq s85 (.call (.c (.func (.func 71) [] [])) [(.t s80), (.t s84)]) s75 true), (Gq s86 (.quiet false (qUn .not (.t s85))) s75 true), (Of s87 (qPick (.t s75) (.t s86) (.c (.bool false))))])
 (.cond (.t s87) (.seq (.ops [(Om s88 s0), (Om s89 s1), (Om s90 s2), (Om s91 s11), (Oc s92 72 [(.t s88), (.t s89), (.t s90), (.t s91)]), (Om s13 s92)])
 (.seq (.ops [(Om s93 s13), (Om s1 s93)])
 (.exit 1))) .skip))
 (.seq (.ops [(Om s95 s0), (Om s96 s1), (Om s97 s2), (Om s98 s11), (Oc s99 73 [(.t s95), (.t s96), (.t s97), (.t s98)]), (Om s94 s99), (Oe s100 0 s94), (Oe s101 1 s94), (Om s14 s100), (Om s15 s101)])
 (.seq (.ops [(Om s102 s15), (Om s9 s102)])
 (.seq (.ops [(Om s103 s14), (Om s104 s1), (Ob .sub s105 s103 s104), (Om s106 s2), (Om s107 s14), (Ob .sub s108 s106 s107), (Om s16 s105), (Om s17 s108)])
 (.seq (.ops [(Om s109 s10), (Of s110 (qBin .quo (.t s109) (.c (.int .i64 8)))), (Om s18 s110)])
 (.seq (.ops [(Om s111 s16), (Om s112 s17), (Ob .lss s113 s111 s112)])
 (.cond (.t s113) (.seq (.ops [(Om s114 s16), (Om s115 s18), (Ob .geq s116 s114 s115), (Om s8 s116)])
 (.seq (.ops [(Om s117 s0), (Om s118 s1), (Om s119 s14), (Om s120 s3), (Oc s121 63 [(.t s117), (.t s118), (.t s119), (.t s120)])])
 (.ops [(Om s122 s14), (Of s123 (qBin .add (.t s122) (.c (.int .i64 1)))), (Om s1 s123)]))) (.seq (.ops [(Om s124 s17), (Om s125 s18), (Ob .geq s126 s124 s125), (Om s8 s126)])
 (.seq (.ops [(Om s127 s0), (Om s128 s14), (Of s129 (qBin .add (.t s128) (.c (.int .i64 1)))), (Om s130 s2), (Om s131 s3), (Oc s132 63 [(.t s127), (.t s129), (.t s130), (.t s131)])])
 (.ops [(Om s133 s14), (Om s2 s133)]))))))))))))))))))
def c63 : AFunc :=
 ⟨134, [], (.seq (.ops [(Of s8 (qMov (.c (.bool true))))])
 (.seq (.ops [(Of s9 (qMov (.c (.bool true))))])
 (.block 0 (.loop c63l0))))⟩
def c64 : AFunc :=
 ⟨8, [(.tmp s2)], (.seq (.ops [(Of s2 (qMov (.c (.int .i64 0))))])
 (.seq (.cond (.c (.bool false)) (.seq (.ops [(Om s3 s0), (Of s4 (qConv .u32 (.t s3))), (Oc s5 74 [(.t s4)]), (Om s2 s5)])
 .ret) .skip)
 (.seq (.ops [(Om s6 s0), (Oc s7 75 [(.t s6)]), (Om s2 s7)])
 .ret)))⟩
def c65l0 : ACode :=
 (.seq (.seq (.draw (.calm (Om s16 s7) (.calm (Om s17 s1) (.calm (Ob .gtr s18 s16 s17) (.calm (Om s19 s18) (.calm (Gq s20 (.quiet false (qMov (.t s0))) s19 true) (.calm (Gq s21 (.quiet false (qMov (.t s7))) s19 true) (.calm (Gq s22 (.quiet false (qIaddrS 1 (.t s20) (.t s21))) s19 true) (.calm (Gq s23 (.quiet true (qLoad1 (.t s22))) s19 true) (.calm (Gq s24 (.quiet false (qMov (.t s0))) s19 true) (.calm (Gq s25 (.quiet false (qMov (.t s7))) s19 true) (.calm (Gq s26 (.quiet false (qBin .sub (.t s25) (.c (.int .i64 1)))) s19 true) (.calm (Gq s27 (.quiet false (qIaddrS 1 (.t s24) (.t s26))) s19 true) (.calm (Gq s28 (.quiet true (qLoad1 (.t s27))) s19 true) .fin))))))))))))) [(Gq s29 (.call (.c (.func (.func 71) [] [])) [(.t s23), (.t s28)]) s19 true), (Of s30 (qPick (.t s19) (.t s29) (.c (.bool false))))])
 (.cond (.t s30) .skip (.exit 2)))
 (.seq (.block 3 (.draw (.calm (Om s33 s0) (.calm (Om s34 s7) (.calm (Om s35 s0) (.calm (Om s36 s7) (.calm (Of s37 (qBin .sub (.t s36) (.c (.int .i64 1)))) (.calm (Om s38 s0) (.calm (Om s39 s7) (.calm (Of s40 (qBin .sub (.t s39) (.c (.int .i64 1)))) (.calm (Of s41 (qIaddrS 1 (.t s38) (.t s40))) (.calm (Ol s42 s41) (.calm (Om s43 s0) (.calm (Om s44 s7) (.calm (Of s45 (qIaddrS 1 (.t s43) (.t s44))) (.calm (Ol s46 s45) (.calm (Of s47 (qIaddrS 1 (.t s33) (.t s34))) (.last ⟨(On (.loud (lSto 1 (.t s47) (.t s42)))), []⟩ .fin)))))))))))))))) [(Of s48 (qIaddrS 1 (.t s35) (.t s37))), (On (.loud (lSto 1 (.t s48) (.t s46))))]))
 (.ops [(Om s31 s7), (Of s32 (qBin .sub (.t s31) (.c (.int .i64 1)))), (Om s7 s32)])))
def c65l1 : ACode :=
 (.seq (.seq (.ops [(Om s10 s6), (Om s11 s2), (Ob .lss s12 s10 s11)])
 (.cond (.t s12) .skip (.exit 0)))
 (.seq (.block 1 (.seq (.ops [(Om s15 s6), (Om s7 s15)])
 (.block 2 (.loop c65l0))))
 (.ops [(Om s13 s6), (Of s14 (qBin .add (.t s13) (.c (.int .i64 1)))), (Om s6 s14)])))
def c65 : AFunc :=
 ⟨49, [], (.seq (.ops [(Om s8 s1), (Of s9 (qBin .add (.t s8) (.c (.int .i64 1)))), (Om s6 s9)])
 (.block 0 (.loop c65l1)))⟩
def c71 : AFunc :=
 ⟨17, [(.tmp s4)], (.seq (.ops [(Of s4 (qMov (.c (.bool false))))])
 (.seq (.ops [(Om s5 s0), (Oc s6 81 [(.t s5)]), (Om s7 s6), (Gq s8 (.quiet false (qMov (.t s1))) s7 true), (Gq s9 (.call (.c (.func (.func 81) [] [])) [(.t s8)]) s7 true), (Gq s10 (.quiet false (qUn .not (.t s9))) s7 true), (Of s11 (qPick (.t s7) (.t s10) (.c (.bool false)))), (Om s12 s11), (Gq s13 (.quiet false (qMov (.t s0))) s12 false), (Gq s14 (.quiet false (qMov (.t s1))) s12 false), (Gq s15 (.quiet false (qBin .lss (.t s13) (.t s14))) s12 false), (Of s16 (qPick (.t s12) (.c (.bool true)) (.t s15))), (Om s4 s16)])
 .ret))⟩
def c74 : AFunc :=
 ⟨19, [(.tmp s2)], (.seq (.ops [(Of s2 (qMov (.c (.int .i64 0))))])
 (.seq (.seq (.ops [(Om s3 s0), (Of s4 (qBin .geq (.t s3) (.c (.int .u32 65536))))])
 (.cond (.t s4) (.seq (.ops [(Om s5 s0), (Of s6 (qBin .shr (.t s5) (.c (.int .u64 16)))), (Om s0 s6)])
 (.ops [(Of s2 (qMov (.c (.int .i64 16))))])) .skip))
 (.seq (.seq (.ops [(Om s7 s0), (Of s8 (qBin .geq (.t s7) (.c (.int .u32 256))))])
 (.cond (.t s8) (.seq (.ops [(Om s9 s0), (Of s10 (qBin .shr (.t s9) (.c (.int .u64 8)))), (Om s0 s10)])
 (.ops [(Om s11 s2), (Of s12 (qBin .add (.t s11) (.c (.int .i64 8)))), (Om s2 s12)])) .skip))
 (.seq (.ops [(Om s13 s2), (Om s14 s0), (Of s15 (qConv .u8 (.t s14))), (Of s16 (qIdxS (.c (.str [0, 1, 2, 2, 3, 3, 3, 3, 4, 4, 4, 4, 4, 4, 4, 4, 5, 5, 5, 5, 5, 5, 5, 5, 5, 5, 5, 5, 5, 5, 5, 5, 6, 6, 6, 6, 6, 6, 6, 6, 6, 6, 6, 6, 6, 6, 6, 6, 6, 6, 6, 6, 6, 6, 6, 6, 6, 6, 6, 6, 6, 6, 6, 6, 7, 7, 7, 7, 7, 7, 7, 7, 7, 7, 7, 7, 7, 7, 7, 7, 7, 7, 7, 7, 7, 7, 7, 7, 7, 7, 7, 7, 7, 7, 7, 7, 7, 7, 7, 7, 7, 7, 7, 7, 7, 7, 7, 7, 7, 7, 7, 7, 7, 7, 7, 7, 7, 7, 7, 7, 7, 7, 7, 7, 7, 7, 7, 7, 8, 8, 8, 8, 8, 8, 8, 8, 8, 8, 8, 8, 8, 8, 8, 8, 8, 8, 8, 8, 8, 8, 8, 8, 8, 8, 8, 8, 8, 8, 8, 8, 8, 8, 8, 8, 8, 8, 8, 8, 8, 8, 8, 8, 8, 8, 8, 8, 8, 8, 8, 8, 8, 8, 8, 8, 8, 8, 8, 8, 8, 8, 8, 8, 8, 8, 8, 8, 8, 8, 8, 8, 8, 8, 8, 8, 8, 8, 8, 8, 8, 8, 8, 8, 8, 8, 8, 8, 8, 8, 8, 8, 8, 8, 8, 8, 8, 8, 8, 8, 8, 8, 8, 8, 8, 8, 8, 8, 8, 8, 8, 8, 8, 8, 8, 8, 8, 8, 8, 8, 8, 8, 8, 8, 8, 8, 8, 8])) (.t s15))), (Of s17 (qConv .i64 (.t s16))), (Ob .add s18 s13 s17), (Om s2 s18)])
 .ret))))⟩
def c75 : AFunc :=
 ⟨25, [(.tmp s2)], (.seq (.ops [(Of s2 (qMov (.c (.int .i64 0))))])
 (.seq (.seq (.ops [(Om s3 s0), (Of s4 (qBin .geq (.t s3) (.c (.int .u64 4294967296))))])
 (.cond (.t s4) (.seq (.ops [(Om s5 s0), (Of s6 (qBin .shr (.t s5) (.c (.int .u64 32)))), (Om s0 s6)])
 (.ops [(Of s2 (qMov (.c (.int .i64 32))))])) .skip))
 (.seq (.seq (.ops [(Om s7 s0), (Of s8 (qBin .geq (.t s7) (.c (.int .u64 65536))))])
 (.cond (.t s8) (.seq (.ops [(Om s9 s0), (Of s10 (qBin .shr (.t s9) (.c (.int .u64 16)))), (Om s0 s10)])
 (.ops [(Om s11 s2), (Of s12 (qBin .add (.t s11) (.c (.int .i64 16)))), (Om s2 s12)])) .skip))
 (.seq (.seq (.ops [(Om s13 s0), (Of s14 (qBin .geq (.t s13) (.c (.int .u64 256))))])
 (.cond (.t s14) (.seq (.ops [(Om s15 s0), (Of s16 (qBin .shr (.t s15) (.c (.int .u64 8)))), (Om s0 s16)])
 (.ops [(Om s17 s2), (Of s18 (qBin .add (.t s17) (.c (.int .i64 8)))), (Om s2 s18)])) .skip))
 (.seq (.ops [(Om s19 s2), (Om s20 s0), (Of s21 (qConv .u8 (.t s20))), (Of s22 (qIdxS (.c (.str [0, 1, 2, 2, 3, 3, 3, 3, 4, 4, 4, 4, 4, 4, 4, 4, 5, 5, 5, 5, 5, 5, 5, 5, 5, 5, 5, 5, 5, 5, 5, 5, 6, 6, 6, 6, 6, 6, 6, 6, 6, 6, 6, 6, 6, 6, 6, 6, 6, 6, 6, 6, 6, 6, 6, 6, 6, 6, 6, 6, 6, 6, 6, 6, 7, 7, 7, 7, 7, 7, 7, 7, 7, 7, 7, 7, 7, 7, 7, 7, 7, 7, 7, 7, 7, 7, 7, 7, 7, 7, 7, 7, 7, 7, 7, 7, 7, 7, 7, 7, 7, 7, 7, 7, 7, 7, 7, 7, 7, 7, 7, 7, 7, 7, 7, 7, 7, 7, 7, 7, 7, 7, 7, 7, 7, 7, 7, 7, 8, 8, 8, 8, 8, 8, 8, 8, 8, 8, 8, 8, 8, 8, 8, 8, 8, 8, 8, 8, 8, 8, 8, 8, 8, 8, 8, 8, 8, 8, 8, 8, 8, 8, 8, 8, 8, 8, 8, 8, 8, 8, 8, 8, 8, 8, 8, 8, 8, 8, 8, 8, 8, 8, 8, 8, 8, 8, 8, 8, 8, 8, 8, 8, 8, 8, 8, 8, 8, 8, 8, 8, 8, 8, 8, 8, 8, 8, 8, 8, 8, 8, 8, 8, 8, 8, 8, 8, 8, 8, 8, 8, 8, 8, 8, 8, 8, 8, 8, 8, 8, 8, 8, 8, 8, 8, 8, 8, 8, 8, 8, 8, 8, 8, 8, 8, 8, 8, 8, 8, 8, 8, 8, 8, 8, 8, 8, 8])) (.t s21))), (Of s23 (qConv .i64 (.t s22))), (Ob .add s24 s19 s23), (Om s2 s24)])
 .ret)))))⟩
def c81 : AFunc :=
 ⟨6, [(.tmp s2)], (.seq (.ops [(Of s2 (qMov (.c (.bool false))))])
 (.seq (.ops [(Om s3 s0), (Om s4 s0), (Ob .neq s5 s3 s4), (Om s2 s5)])
 .ret))⟩
def ft : FT :=
 (.node none (.node none (.node (some c3) (.node none (.node (some c15) (.node (some c31) (.node (some c63) .leaf .leaf) .leaf) (.node (some c47) (.node none .leaf .leaf) .leaf)) (.node none (.node (some c39) (.node (some c71) .leaf .leaf) .leaf) (.node (some c55) .leaf .leaf))) (.node (some c11) (.node none (.node (some c35) (.node none .leaf .leaf) .leaf) (.node (some c51) .leaf .leaf)) (.node (some c27) (.node (some c43) (.node (some c75) .leaf .leaf) .leaf) (.node (some c59) .leaf .leaf)))) (.node none (.node (some c9) (.node none (.node (some c33) (.node (some c65) .leaf .leaf) .leaf) (.node (some c49) (.node (some c81) .leaf .leaf) .leaf)) (.node none (.node (some c41) (.node none .leaf .leaf) .leaf) (.node (some c57) .leaf .leaf))) (.node (some c13) (.node none (.node (some c37) (.node none .leaf .leaf) .leaf) (.node (some c53) .leaf .leaf)) (.node (some c29) (.node (some c45) (.node none .leaf .leaf) .leaf) (.node (some c61) .leaf .leaf))))) (.node none (.node none (.node (some c8) (.node (some c16) (.node (some c32) (.node (some c64) .leaf .leaf) .leaf) (.node (some c48) (.node none .leaf .leaf) .leaf)) (.node none (.node (some c40) (.node none .leaf .leaf) .leaf) (.node (some c56) .leaf .leaf))) (.node (some c12) (.node none (.node (some c36) (.node none .leaf .leaf) .leaf) (.node (some c52) .leaf .leaf)) (.node (some c28) (.node (some c44) (.node none .leaf .leaf) .leaf) (.node (some c60) .leaf .leaf)))) (.node none (.node (some c10) (.node (some c18) (.node (some c34) (.node none .leaf .leaf) .leaf) (.node (some c50) (.node none .leaf .leaf) .leaf)) (.node none (.node (some c42) (.node (some c74) .leaf .leaf) .leaf) (.node (some c58) .leaf .leaf))) (.node (some c14) (.node none (.node (some c38) (.node none .leaf .leaf) .leaf) (.node (some c54) .leaf .leaf)) (.node (some c30) (.node (some c46) (.node none .leaf .leaf) .leaf) (.node (some c62) .leaf .leaf))))))
theorem ok3 : FOk Try.prog 3 c3 := FOk.mk Try.func3 (by kernel_rfl) (by kernel_rfl)
theorem ok8 : FOk Try.prog 8 c8 := FOk.mk Try.func8 (by kernel_rfl) (by kernel_rfl)
theorem ok9 : FOk Try.prog 9 c9 := FOk.mk Try.func9 (by kernel_rfl) (by kernel_rfl)
theorem ok10 : FOk Try.prog 10 c10 := FOk.mk Try.func10 (by kernel_rfl) (by kernel_rfl)
theorem ok11 : FOk Try.prog 11 c11 := FOk.mk Try.func11 (by kernel_rfl) (by kernel_rfl)
theorem ok12 : FOk Try.prog 12 c12 := FOk.mk Try.func12 (by kernel_rfl) (by kernel_rfl)
theorem ok13 : FOk Try.prog 13 c13 := FOk.mk Try.func13 (by kernel_rfl) (by kernel_rfl)
theorem ok14 : FOk Try.prog 14 c14 := FOk.mk Try.func14 (by kernel_rfl) (by kernel_rfl)
theorem ok15 : FOk Try.prog 15 c15 := FOk.mk Try.func15 (by kernel_rfl) (by kernel_rfl)
theorem ok16 : FOk Try.prog 16 c16 := FOk.mk Try.func16 (by kernel_rfl) (by kernel_rfl)
theorem ok18 : FOk Try.prog 18 c18 := FOk.mk Try.func18 (by kernel_rfl) (by kernel_rfl)
theorem ok27 : FOk Try.prog 27 c27 := FOk.mk Try.func27 (by kernel_rfl) (by kernel_rfl)
theorem ok28 : FOk Try.prog 28 c28 := FOk.mk Try.func28 (by kernel_rfl) (by kernel_rfl)
theorem ok29 : FOk Try.prog 29 c29 := FOk.mk Try.func29 (by kernel_rfl) (by kernel_rfl)
theorem ok30 : FOk Try.prog 30 c30 := FOk.mk Try.func30 (by kernel_rfl) (by kernel_rfl)
theorem ok31 : FOk Try.prog 31 c31 := FOk.mk Try.func31 (by kernel_rfl) (by kernel_rfl)
theorem ok32 : FOk Try.prog 32 c32 := FOk.mk Try.func32 (by kernel_rfl) (by kernel_rfl)
theorem ok33 : FOk Try.prog 33 c33 := FOk.mk Try.func33 (by kernel_rfl) (by kernel_rfl)
theorem ok34 : FOk Try.prog 34 c34 := FOk.mk Try.func34 (by kernel_rfl) (by kernel_rfl)
theorem ok35 : FOk Try.prog 35 c35 := FOk.mk Try.func35 (by kernel_rfl) (by kernel_rfl)
theorem ok36 : FOk Try.prog 36 c36 := FOk.mk Try.func36 (by kernel_rfl) (by kernel_rfl)
theorem ok37 : FOk Try.prog 37 c37 := FOk.mk Try.func37 (by kernel_rfl) (by kernel_rfl)
theorem ok38 : FOk Try.prog 38 c38 := FOk.mk Try.func38 (by kernel_rfl) (by kernel_rfl)
theorem ok39 : FOk Try.prog 39 c39 := FOk.mk Try.func39 (by kernel_rfl) (by kernel_rfl)
theorem ok40 : FOk Try.prog 40 c40 := FOk.mk Try.func40 (by kernel_rfl) (by kernel_rfl)
theorem ok41 : FOk Try.prog 41 c41 := FOk.mk Try.func41 (by kernel_rfl) (by kernel_rfl)
theorem ok42 : FOk Try.prog 42 c42 := FOk.mk Try.func42 (by kernel_rfl) (by kernel_rfl)
theorem ok43 : FOk Try.prog 43 c43 := FOk.mk Try.func43 (by kernel_rfl) (by kernel_rfl)
theorem ok44 : FOk Try.prog 44 c44 := FOk.mk Try.func44 (by kernel_rfl) (by kernel_rfl)
theorem ok45 : FOk Try.prog 45 c45 := FOk.mk Try.func45 (by kernel_rfl) (by kernel_rfl)
theorem ok46 : FOk Try.prog 46 c46 := FOk.mk Try.func46 (by kernel_rfl) (by kernel_rfl)
theorem ok47 : FOk Try.prog 47 c47 := FOk.mk Try.func47 (by kernel_rfl) (by kernel_rfl)
theorem ok48 : FOk Try.prog 48 c48 := FOk.mk Try.func48 (by kernel_rfl) (by kernel_rfl)
theorem ok49 : FOk Try.prog 49 c49 := FOk.mk Try.func49 (by kernel_rfl) (by kernel_rfl)
theorem ok50 : FOk Try.prog 50 c50 := FOk.mk Try.func50 (by kernel_rfl) (by kernel_rfl)
theorem ok51 : FOk Try.prog 51 c51 := FOk.mk Try.func51 (by kernel_rfl) (by kernel_rfl)
theorem ok52 : FOk Try.prog 52 c52 := FOk.mk Try.func52 (by kernel_rfl) (by kernel_rfl)
theorem ok53 : FOk Try.prog 53 c53 := FOk.mk Try.func53 (by kernel_rfl) (by kernel_rfl)
theorem ok54 : FOk Try.prog 54 c54 := FOk.mk Try.func54 (by kernel_rfl) (by kernel_rfl)
theorem ok55 : FOk Try.prog 55 c55 := FOk.mk Try.func55 (by kernel_rfl) (by kernel_rfl)
theorem ok56 : FOk Try.prog 56 c56 := FOk.mk Try.func56 (by kernel_rfl) (by kernel_rfl)
theorem ok57 : FOk Try.prog 57 c57 := FOk.mk Try.func57 (by kernel_rfl) (by kernel_rfl)
theorem ok58 : FOk Try.prog 58 c58 := FOk.mk Try.func58 (by kernel_rfl) (by kernel_rfl)
theorem ok59 : FOk Try.prog 59 c59 := FOk.mk Try.func59 (by kernel_rfl) (by kernel_rfl)
theorem ok60 : FOk Try.prog 60 c60 := FOk.mk Try.func60 (by kernel_rfl) (by kernel_rfl)
theorem ok61 : FOk Try.prog 61 c61 := FOk.mk Try.func61 (by kernel_rfl) (by kernel_rfl)
theorem ok62 : FOk Try.prog 62 c62 := FOk.mk Try.func62 (by kernel_rfl) (by kernel_rfl)
theorem ok63 : FOk Try.prog 63 c63 := FOk.mk Try.func63 (by kernel_rfl) (by kernel_rfl)
theorem ok64 : FOk Try.prog 64 c64 := FOk.mk Try.func64 (by kernel_rfl) (by kernel_rfl)
theorem ok65 : FOk Try.prog 65 c65 := FOk.mk Try.func65 (by kernel_rfl) (by kernel_rfl)
theorem ok71 : FOk Try.prog 71 c71 := FOk.mk Try.func71 (by kernel_rfl) (by kernel_rfl)
theorem ok74 : FOk Try.prog 74 c74 := FOk.mk Try.func74 (by kernel_rfl) (by kernel_rfl)
theorem ok75 : FOk Try.prog 75 c75 := FOk.mk Try.func75 (by kernel_rfl) (by kernel_rfl)
theorem ok81 : FOk Try.prog 81 c81 := FOk.mk Try.func81 (by kernel_rfl) (by kernel_rfl)
theorem ftOk : ft.Ok Try.prog 1 0 :=
 ⟨trivial, ⟨trivial, ⟨ok3, ⟨trivial, ⟨ok15, ⟨ok31, ⟨ok63, trivial, trivial⟩, trivial⟩, ⟨ok47, ⟨trivial, trivial, trivial⟩, trivial⟩⟩, ⟨trivial, ⟨ok39, ⟨ok71, trivial, trivial⟩, trivial⟩, ⟨ok55, trivial, trivial⟩⟩⟩, ⟨ok11, ⟨trivial, ⟨ok35, ⟨trivial, trivial, trivial⟩, trivial⟩, ⟨ok51, trivial, trivial⟩⟩, ⟨ok27, ⟨ok43, ⟨ok75, trivial, trivial⟩, trivial⟩, ⟨ok59, trivial, trivial⟩⟩⟩⟩, ⟨trivial, ⟨ok9, ⟨trivial, ⟨ok33, ⟨ok65, trivial, trivial⟩, trivial⟩, ⟨ok49, ⟨ok81, trivial, trivial⟩, trivial⟩⟩, ⟨trivial, ⟨ok41, ⟨trivial, trivial, trivial⟩, trivial⟩, ⟨ok57, trivial, trivial⟩⟩⟩, ⟨ok13, ⟨trivial, ⟨ok37, ⟨trivial, trivial, trivial⟩, trivial⟩, ⟨ok53, trivial, trivial⟩⟩, ⟨ok29, ⟨ok45, ⟨trivial, trivial, trivial⟩, trivial⟩, ⟨ok61, trivial, trivial⟩⟩⟩⟩⟩, ⟨trivial, ⟨trivial, ⟨ok8, ⟨ok16, ⟨ok32, ⟨ok64, trivial, trivial⟩, trivial⟩, ⟨ok48, ⟨trivial, trivial, trivial⟩, trivial⟩⟩, ⟨trivial, ⟨ok40, ⟨trivial, trivial, trivial⟩, trivial⟩, ⟨ok56, trivial, trivial⟩⟩⟩, ⟨ok12, ⟨trivial, ⟨ok36, ⟨trivial, trivial, trivial⟩, trivial⟩, ⟨ok52, trivial, trivial⟩⟩, ⟨ok28, ⟨ok44, ⟨trivial, trivial, trivial⟩, trivial⟩, ⟨ok60, trivial, trivial⟩⟩⟩⟩, ⟨trivial, ⟨ok10, ⟨ok18, ⟨ok34, ⟨trivial, trivial, trivial⟩, trivial⟩, ⟨ok50, ⟨trivial, trivial, trivial⟩, trivial⟩⟩, ⟨trivial, ⟨ok42, ⟨ok74, trivial, trivial⟩, trivial⟩, ⟨ok58, trivial, trivial⟩⟩⟩, ⟨ok14, ⟨trivial, ⟨ok38, ⟨trivial, trivial, trivial⟩, trivial⟩, ⟨ok54, trivial, trivial⟩⟩, ⟨ok30, ⟨ok46, ⟨trivial, trivial, trivial⟩, trivial⟩, ⟨ok62, trivial, trivial⟩⟩⟩⟩⟩⟩
end Go.Proofs.Ytjikaankdnmabaa
