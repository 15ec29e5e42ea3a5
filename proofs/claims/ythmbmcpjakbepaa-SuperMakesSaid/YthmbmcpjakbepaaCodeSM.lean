/- The code of the functions that the statement reaches, as the abstract machine has it, and that it is the program's: part all. No condition. -/
import Derived.Test.YthmbmcpjakbepaaProg
import Derived.Test.YthmbmcpjakbepaaAMb
set_option maxRecDepth 100000
namespace Go.Proofs.Ythmbmcpjakbepaa
open Go Go.AM
abbrev Om (a b : Sl) : AOper := ⟨some a, .quiet false (qMov (.t b)), none⟩
abbrev Ol (a b : Sl) : AOper := ⟨some a, .quiet true (qLoad1 (.t b)), none⟩
abbrev Oe (a : Sl) (i : Nat) (b : Sl) : AOper := ⟨some a, .quiet false (qExt i (.t b)), none⟩
abbrev Ob (o : BinOp) (a b c : Sl) : AOper := ⟨some a, .quiet false (qBin o (.t b) (.t c)), none⟩
abbrev Of (a : Sl) (q : Slots → Mem → Option V) : AOper := ⟨some a, .quiet false q, none⟩
abbrev Og (a : Sl) (q : Slots → Mem → Option V) : AOper := ⟨some a, .quiet true q, none⟩
abbrev Oc (a : Sl) (n : Nat) (l : List Opd) : AOper := ⟨some a, .call (.c (.func (.func n) [] [])) l, none⟩
abbrev Oq (a : Sl) (o : AOp) : AOper := ⟨some a, o, none⟩
abbrev On (o : AOp) : AOper := ⟨none, o, none⟩
abbrev Gq (a : Sl) (o : AOp) (g : Sl) (b : Bool) : AOper := ⟨some a, o, some (g, b)⟩
abbrev Oa (a : Sl) (i : Nat) (b : Sl) : AOper := ⟨some a, .quiet false (qFaddr i (.t b)), none⟩
abbrev Ok (o : BinOp) (a b : Sl) (k : Int) : AOper := ⟨some a, .quiet false (qBin o (.t b) (.c (.int .i64 k))), none⟩
abbrev Ou (a b : Sl) : AOper := ⟨some a, .quiet false (qUn .not (.t b)), none⟩
abbrev Oy (a b c : Sl) : AOper := ⟨some a, .quiet false (qPick (.t b) (.t c) (.c (.bool false))), none⟩
abbrev Oz (a b c : Sl) : AOper := ⟨some a, .quiet false (qPick (.t b) (.c (.bool true)) (.t c)), none⟩
abbrev OL (a : Sl) (n : Nat) (b : Sl) : AOper := ⟨some a, .quiet true (qLoadN n (.t b)), none⟩
abbrev OK (a : Sl) (v : V) : AOper := ⟨some a, .quiet false (qMov (.c v)), none⟩
abbrev Gm (a b g : Sl) (h : Bool) : AOper := ⟨some a, .quiet false (qMov (.t b)), some (g, h)⟩
abbrev Ga (a : Sl) (i : Nat) (b g : Sl) (h : Bool) : AOper := ⟨some a, .quiet false (qFaddr i (.t b)), some (g, h)⟩
abbrev Gl (a b g : Sl) (h : Bool) : AOper := ⟨some a, .quiet true (qLoad1 (.t b)), some (g, h)⟩
abbrev GL (a : Sl) (n : Nat) (b g : Sl) (h : Bool) : AOper := ⟨some a, .quiet true (qLoadN n (.t b)), some (g, h)⟩
abbrev Gk (o : BinOp) (a b : Sl) (k : Int) (g : Sl) (h : Bool) : AOper := ⟨some a, .quiet false (qBin o (.t b) (.c (.int .i64 k))), some (g, h)⟩
abbrev Gb (o : BinOp) (a b c g : Sl) (h : Bool) : AOper := ⟨some a, .quiet false (qBin o (.t b) (.t c)), some (g, h)⟩
abbrev Gy (a b c g : Sl) (h : Bool) : AOper := ⟨some a, .quiet false (qPick (.t b) (.t c) (.c (.bool false))), some (g, h)⟩
abbrev Gz (a b c g : Sl) (h : Bool) : AOper := ⟨some a, .quiet false (qPick (.t b) (.c (.bool true)) (.t c)), some (g, h)⟩
abbrev Z0 : V := .int .i64 0
abbrev Z3 : List V := [Z0, Z0, Z0]
abbrev Z12 : List V := [Z0, Z0, Z0, Z0, Z0, Z0, Z0, Z0, Z0, Z0, Z0, Z0]
abbrev Z20 : List V := [Z0, Z0, Z0, Z0, Z0, Z0, Z0, Z0, Z0, Z0, Z0, Z0, Z0, Z0, Z0, Z0, .bool false, .bool false, .bool false, .bool false]
abbrev K12z : KT := .many [.int, .int, .int, .int, .int, .int, .int, .int, .int, .int, .int, .int]
def c9l0 : ACode :=
 (.seq (.seq (.ops [(Om s26 s10), (Om s27 s0), (Of s28 (qLenL (.t s27))), (Ob .lss s29 s26 s28)])
 (.cond (.t s29) .skip (.exit 0)))
 (.seq (.block 1 (.draw (.calm (Om s32 s9) (.calm (Om s33 s0) (.calm (Om s34 s10) (.calm (Of s35 (qIaddrS 24 (.t s33) (.t s34))) (.calm (Of s36 (qIaddrA 2 12 (.t s35) (.c (.int .i64 0)))) (.calm (OL s37 12 s36) (.calm (Om s39 s0) (.calm (Om s40 s10) (.calm (Of s41 (qIaddrS 24 (.t s39) (.t s40))) (.calm (Of s42 (qIaddrA 2 12 (.t s41) (.c (.int .i64 1)))) (.calm (OL s43 12 s42) (.last ⟨(Oc s38 24 [(.t s37)]), [(OL s43 12 s42)]⟩ (.last ⟨(Oc s44 24 [(.t s43)]), []⟩ (.calm (Of s45 (qBld [(.str []), (.str [])] [(0, (1, (.t s38))), (1, (1, (.t s44)))])) (.calm (Oq s46 (.alloc (aBsl 2 1 [(.str []), (.str [])] [(0, (2, (.t s45)))]))) .fin))))))))))))))) [(Oq s47 (.loud (lApp 2 32 (.t s32) (.t s46)))), (Om s9 s47)]))
 (.ops [(Om s30 s10), (Ok .add s31 s30 1), (Om s10 s31)])))
def c9l1 : ACode :=
 (.seq (.seq (.ops [(Om s98 s16), (Oa s99 0 s13), (Oa s100 2 s99), (Oa s101 1 s100), (Ol s102 s101), (Ob .lss s103 s98 s102)])
 (.cond (.t s103) .skip (.exit 2)))
 (.seq (.block 3 (.seq (.ops [(Om s106 s16), (Oa s107 16 s13), (Of s108 (qIaddrA 4 1 (.t s107) (.t s106))), (Ol s109 s108), (Ou s110 s109), (Om s111 s110), (Gm s112 s16 s111 false), (Ga s113 0 s13 s111 false), (Ga s114 7 s113 s111 false), (Gq s115 (.quiet false (qIaddrA 4 1 (.t s114) (.t s112))) s111 false), (Gl s116 s115 s111 false), (Gk .neq s117 s116 1 s111 false), (Oz s118 s111 s117)])
 (.cond (.t s118) (.ops [(Om s119 s15), (Ok .add s120 s119 1), (Om s15 s120)]) .skip)))
 (.ops [(Om s104 s16), (Ok .add s105 s104 1), (Om s16 s105)])))
def c9 : AFunc :=
 ⟨156, [(.tmp s8)], (.seq (.ops [(OK s8 (.bool false))])
 (.seq (.seq (.ops [(Om s17 s0), (Of s18 (qLenL (.t s17))), (Ok .gtr s19 s18 10), (Om s20 s19), (Gm s21 s2 s20 false), (Gq s22 (.quiet false (qLenS (.t s21))) s20 false), (Gk .gtr s23 s22 100 s20 false), (Oz s24 s20 s23)])
 (.cond (.t s24) (.seq (.ops [(Oc s25 16 []), (Om s8 s25)])
 .ret) .skip))
 (.seq (.ops [(OK s9 .nilslice)])
 (.seq (.seq (.ops [(OK s10 (.int .i64 0))])
 (.block 0 (.loop c9l0)))
 (.seq (.seq (.ops [(Om s48 s9), (Of s49 (qLenL (.t s48))), (Ok .gtr s50 s49 0), (Om s51 s50), (Gm s52 s1 s51 true), (Gk .geq s53 s52 0 s51 true), (Oy s54 s51 s53)])
 (.cond (.t s54) (.ops [(Om s55 s9), (Om s56 s1), (Om s57 s9), (Of s58 (qLenL (.t s57))), (Ob .rem s59 s56 s58), (Om s60 s1), (Ok .quo s61 s60 2), (Ok .rem s62 s61 2), (Om s63 s2), (Of s64 (qIaddrS 2 (.t s55) (.t s59))), (Of s65 (qIaddrA 2 1 (.t s64) (.t s62))), (On (.loud (lSto 1 (.t s65) (.t s63))))]) .skip))
 (.seq (.ops [(Om s67 s9), (Om s68 s3), (Oc s69 23 [(.t s67), (.t s68)]), (Om s66 s69), (Oe s70 0 s66), (Oe s71 1 s66), (Oq s11 (.alloc (aBox (.c (.agg Z20))))), (On (.loud (lSto 20 (.t s11) (.t s70)))), (Om s12 s71)])
 (.seq (.ops [(Om s73 s9), (Om s74 s3), (Oc s75 25 [(.t s73), (.t s74)]), (Om s72 s75), (Oe s76 0 s72), (Oe s77 1 s72), (Oq s13 (.alloc (aBox (.c (.agg Z20))))), (On (.loud (lSto 20 (.t s13) (.t s76)))), (Om s14 s77)])
 (.seq (.seq (.ops [(Om s78 s14), (Om s79 s12), (Ok .eql s80 s79 0), (Of s81 (qEqv true (.one .bool) (.t s78) (.t s80))), (Om s82 s81), (Gm s83 s12 s82 false), (Gk .neq s84 s83 0 s82 false), (Gm s85 s84 s82 false), (Gm s86 s12 s85 true), (Gk .neq s87 s86 4 s85 true), (Gy s88 s85 s87 s82 false), (Oz s89 s82 s88)])
 (.cond (.t s89) (.seq (.ops [(OK s8 (.bool false))])
 .ret) .skip))
 (.seq (.seq (.ops [(Om s90 s14), (Ou s91 s90)])
 (.cond (.t s91) (.seq (.ops [(OL s92 20 s11), (Of s93 (qBld Z20 [])), (Of s94 (qEqv false (.many [.int, .int, .int, .int, .int, .int, .int, .int, .int, .int, .int, .int, .int, .int, .int, .int, .bool, .bool, .bool, .bool]) (.t s92) (.t s93))), (Om s95 s94), (Gq s96 (.call (.c (.func (.func 16) [] [])) []) s95 true), (Oy s97 s95 s96), (Om s8 s97)])
 .ret) .skip))
 (.seq (.ops [(OK s15 (.int .i64 0))])
 (.seq (.seq (.ops [(OK s16 (.int .i64 0))])
 (.block 2 (.loop c9l1)))
 (.seq (.draw (.calm (Oa s121 0 s11) (.calm (OL s122 12 s121) (.calm (Oa s124 0 s13) (.calm (OL s125 12 s124) (.last ⟨(Oc s123 14 [(.t s122)]), [(OL s125 12 s124)]⟩ (.calm (Of s126 (qEqv false K12z (.t s123) (.t s125))) (.calm (Om s127 s126) (.calm (Ga s128 12 s11 s127 true) (.calm (GL s129 4 s128 s127 true) (.calm (Ga s130 12 s13 s127 true) (.calm (GL s131 4 s130 s127 true) (.calm (Gq s132 (.quiet false (qEqv false (.many [.int, .int, .int, .int]) (.t s129) (.t s131))) s127 true) (.calm (Oy s133 s127 s132) (.calm (Om s134 s133) (.calm (Ga s135 16 s11 s134 true) (.calm (GL s136 4 s135 s134 true) (.calm (Ga s137 16 s13 s134 true) (.calm (GL s138 4 s137 s134 true) (.calm (Gq s139 (.quiet false (qEqv false (.many [.bool, .bool, .bool, .bool]) (.t s136) (.t s138))) s134 true) (.calm (Oy s140 s134 s139) (.calm (Om s141 s140) (.calm (GL s142 20 s11 s141 true) (.calm (Gm s144 s15 s141 true) (.calm (Gk .leq s145 s144 1 s141 true) (.last ⟨(Gq s143 (.call (.c (.func (.func 26) [] [])) [(.t s142)]) s141 true), []⟩ .fin))))))))))))))))))))))))) [(Gq s146 (.quiet false (qEqv false (.one .bool) (.t s143) (.t s145))) s141 true), (Oy s147 s141 s146), (Om s148 s147), (Gq s149 (.quiet false (qBld Z20 [])) s148 true), (Gq s150 (.call (.c (.func (.func 26) [] [])) [(.t s149)]) s148 true), (Gq s151 (.quiet false (qUn .not (.t s150))) s148 true), (Oy s152 s148 s151), (Om s153 s152), (Gq s154 (.call (.c (.func (.func 16) [] [])) []) s153 true), (Oy s155 s153 s154), (Om s8 s155)])
 .ret))))))))))))⟩
def c12l0 : ACode :=
 (.seq (.ops [(Ob .lss s15 s14 s13)])
 (.seq (.cond (.t s15) .skip (.exit 0))
 (.seq (.block 1 (.seq (.ops [(Of s16 (qIaddrS 1 (.t s12) (.t s14))), (Ol s17 s16), (Om s6 s17)])
 (.ops [(Om s18 s4), (Om s19 s6), (Of s20 (qNilck (.t s19))), (Ol s21 s20), (Of s22 (qConv .u32 (.t s21))), (Oc s23 29 [(.t s18), (.t s22)]), (Om s4 s23)])))
 (.ops [(Ok .add s24 s14 1), (Om s14 s24)]))))
def c12 : AFunc :=
 ⟨36, [(.tmp s2), (.tmp s3)], (.seq (.ops [(Oq s1 (.alloc (aBox (.t s0)))), (OK s2 (.str [])), (OK s3 (.int .i64 0))])
 (.seq (.seq (.ops [(OL s7 12 s1), (Oc s8 15 [(.t s7)]), (Ou s9 s8)])
 (.cond (.t s9) (.seq (.ops [(OK s2 (.str [])), (OK s3 (.int .i64 1))])
 .ret) .skip))
 (.seq (.ops [(Oq s10 (.alloc (aBsl 1 4 [(.int .u8 0)] [(0, (1, (.c (.int .u8 66)))), (1, (1, (.c (.int .u8 89)))), (2, (1, (.c (.int .u8 83)))), (3, (1, (.c (.int .u8 1))))]))), (Oq s11 (.loud (lMark (.t s10)))), (Om s4 s11)])
 (.seq (.seq (.ops [(Oc s12 28 [(.t s1)]), (Of s13 (qLenL (.t s12))), (OK s14 (.int .i64 0))])
 (.block 0 (.loop c12l0)))
 (.seq (.ops [(Om s25 s4), (Om s26 s4), (Of s27 (qLenL (.t s26))), (Of s28 (qBin .sub (.c (.int .i64 60)) (.t s27))), (Oq s29 (.loud (lAppZ 1 1 [(.int .u8 0)] (.t s25) (.t s28)))), (Om s4 s29)])
 (.seq (.ops [(Om s30 s4), (Om s31 s4), (Og s32 (qB2s (.t s31))), (Oc s33 30 [(.t s32)]), (Oc s34 29 [(.t s30), (.t s33)]), (Og s35 (qB2s (.t s34))), (Om s2 s35), (OK s3 (.int .i64 0))])
 .ret))))))⟩
def c13l0 : ACode :=
 (.seq (.seq (.ops [(Om s51 s5), (Ok .lss s52 s51 4)])
 (.cond (.t s52) .skip (.exit 0)))
 (.seq (.block 1 (.seq (.seq (.ops [(Om s55 s5), (Oa s56 2 s1), (Oa s57 1 s56), (Ol s58 s57), (Ob .geq s59 s55 s58)])
 (.cond (.t s59) (.seq (.seq (.ops [(Om s60 s5), (Oa s61 7 s1), (Of s62 (qIaddrA 4 1 (.t s61) (.t s60))), (Ol s63 s62), (Ok .neq s64 s63 0)])
 (.cond (.t s64) (.seq (.ops [(OK s2 (.bool false))])
 .ret) .skip))
 (.exit 1)) .skip))
 (.seq (.seq (.ops [(Om s65 s5), (Oa s66 7 s1), (Of s67 (qIaddrA 4 1 (.t s66) (.t s65))), (Ol s68 s67), (Ok .neq s69 s68 1), (Om s70 s69), (Gm s71 s5 s70 true), (Ga s72 7 s1 s70 true), (Gq s73 (.quiet false (qIaddrA 4 1 (.t s72) (.t s71))) s70 true), (Gl s74 s73 s70 true), (Gk .neq s75 s74 2 s70 true), (Oy s76 s70 s75), (Om s77 s76), (Gm s78 s5 s77 true), (Ga s79 7 s1 s77 true), (Gq s80 (.quiet false (qIaddrA 4 1 (.t s79) (.t s78))) s77 true), (Gl s81 s80 s77 true), (Gk .neq s82 s81 3 s77 true), (Oy s83 s77 s82)])
 (.cond (.t s83) (.seq (.ops [(OK s2 (.bool false))])
 .ret) .skip))
 (.seq (.seq (.ops [(Om s84 s5), (Oa s85 7 s1), (Of s86 (qIaddrA 4 1 (.t s85) (.t s84))), (Ol s87 s86), (Ok .neq s88 s87 1)])
 (.cond (.t s88) (.ops [(Om s89 s3), (Ok .add s90 s89 1), (Om s3 s90)]) .skip))
 (.seq (.ops [(Om s91 s5), (Oa s92 7 s1), (Of s93 (qIaddrA 4 1 (.t s92) (.t s91))), (Ol s94 s93), (Ok .eql s95 s94 3)])
 (.cond (.t s95) (.ops [(OK s4 (.bool true))]) .skip))))))
 (.ops [(Om s53 s5), (Ok .add s54 s53 1), (Om s5 s54)])))
def c13 : AFunc :=
 ⟨117, [(.tmp s2)], (.seq (.ops [(Oq s1 (.alloc (aBox (.t s0)))), (OK s2 (.bool false))])
 (.seq (.seq (.ops [(Oa s6 0 s1), (Ol s7 s6), (Ok .lss s8 s7 1), (Om s9 s8), (Ga s10 0 s1 s9 false), (Gl s11 s10 s9 false), (Gk .gtr s12 s11 255 s9 false), (Oz s13 s9 s12), (Om s14 s13), (Ga s15 2 s1 s14 false), (GL s16 3 s15 s14 false), (Gq s17 (.call (.c (.func (.func 31) [] [])) [(.t s16)]) s14 false), (Gq s18 (.quiet false (qUn .not (.t s17))) s14 false), (Oz s19 s14 s18), (Om s20 s19), (Ga s21 1 s1 s20 false), (Gl s22 s21 s20 false), (Gk .lss s23 s22 0 s20 false), (Oz s24 s20 s23), (Om s25 s24), (Ga s26 1 s1 s25 false), (Gl s27 s26 s25 false), (Ga s28 2 s1 s25 false), (Ga s29 1 s28 s25 false), (Gl s30 s29 s25 false), (Gb .geq s31 s27 s30 s25 false), (Oz s32 s25 s31)])
 (.cond (.t s32) (.seq (.ops [(OK s2 (.bool false))])
 .ret) .skip))
 (.seq (.seq (.ops [(Oa s33 5 s1), (Ol s34 s33), (Ok .lss s35 s34 1), (Om s36 s35), (Ga s37 5 s1 s36 false), (Gl s38 s37 s36 false), (Gk .gtr s39 s38 2147483647 s36 false), (Oz s40 s36 s39), (Om s41 s40), (Ga s42 6 s1 s41 false), (Gl s43 s42 s41 false), (Gk .lss s44 s43 1 s41 false), (Oz s45 s41 s44), (Om s46 s45), (Ga s47 6 s1 s46 false), (Gl s48 s47 s46 false), (Gk .gtr s49 s48 2147483647 s46 false), (Oz s50 s46 s49)])
 (.cond (.t s50) (.seq (.ops [(OK s2 (.bool false))])
 .ret) .skip))
 (.seq (.ops [(OK s3 (.int .i64 0))])
 (.seq (.ops [(OK s4 (.bool false))])
 (.seq (.seq (.ops [(OK s5 (.int .i64 0))])
 (.block 0 (.loop c13l0)))
 (.seq (.seq (.ops [(Om s96 s3), (Ok .gtr s97 s96 1), (Om s98 s97), (Ga s99 11 s1 s98 false), (Gl s100 s99 s98 false), (Gk .lss s101 s100 0 s98 false), (Oz s102 s98 s101), (Om s103 s102), (Ga s104 11 s1 s103 false), (Gl s105 s104 s103 false), (Ga s106 2 s1 s103 false), (Ga s107 2 s106 s103 false), (Gl s108 s107 s103 false), (Gb .gtr s109 s105 s108 s103 false), (Oz s110 s103 s109)])
 (.cond (.t s110) (.seq (.ops [(OK s2 (.bool false))])
 .ret) .skip))
 (.seq (.ops [(Om s111 s4), (Om s112 s111), (Ga s113 11 s1 s112 false), (Gl s114 s113 s112 false), (Gk .eql s115 s114 0 s112 false), (Oz s116 s112 s115), (Om s2 s116)])
 .ret))))))))⟩
def c14 : AFunc :=
 ⟨18, [(.cellN 12 s2)], (.seq (.ops [(Oq s1 (.alloc (aBox (.t s0)))), (Oq s2 (.alloc (aBox (.c (.agg Z12)))))])
 (.seq (.ops [(Oa s3 0 s1), (Ol s4 s3), (Oa s5 1 s1), (Ol s6 s5), (Oa s7 2 s1), (OL s8 3 s7), (Oa s9 5 s1), (Ol s10 s9), (Oa s11 6 s1), (Ol s12 s11), (Oa s13 7 s1), (OL s14 4 s13), (Oa s15 11 s1), (Ol s16 s15), (Of s17 (qBld Z12 [(0, (1, (.t s4))), (1, (1, (.t s6))), (2, (3, (.t s8))), (5, (1, (.t s10))), (6, (1, (.t s12))), (7, (4, (.t s14))), (11, (1, (.t s16)))])), (On (.loud (lSto 12 (.t s2) (.t s17))))])
 .ret))⟩
def c15 : AFunc :=
 ⟨43, [(.tmp s2)], (.seq (.ops [(Oq s1 (.alloc (aBox (.t s0)))), (OK s2 (.bool false))])
 (.seq (.ops [(Oa s3 0 s1), (Ol s4 s3), (Ok .geq s5 s4 1), (Om s6 s5), (Ga s7 0 s1 s6 true), (Gl s8 s7 s6 true), (Gk .leq s9 s8 255 s6 true), (Oy s10 s6 s9), (Om s11 s10), (Ga s12 2 s1 s11 true), (GL s13 3 s12 s11 true), (Gq s14 (.call (.c (.func (.func 32) [] [])) [(.t s13)]) s11 true), (Oy s15 s11 s14), (Om s16 s15), (Ga s17 1 s1 s16 true), (Gl s18 s17 s16 true), (Gk .geq s19 s18 0 s16 true), (Oy s20 s16 s19), (Om s21 s20), (Ga s22 1 s1 s21 true), (Gl s23 s22 s21 true), (Ga s24 2 s1 s21 true), (Ga s25 1 s24 s21 true), (Gl s26 s25 s21 true), (Gb .lss s27 s23 s26 s21 true), (Oy s28 s21 s27), (Om s29 s28), (Ga s30 5 s1 s29 true), (Gl s31 s30 s29 true), (Gq s32 (.call (.c (.func (.func 33) [] [])) [(.t s31)]) s29 true), (Oy s33 s29 s32), (Om s34 s33), (Ga s35 6 s1 s34 true), (Gl s36 s35 s34 true), (Gq s37 (.call (.c (.func (.func 33) [] [])) [(.t s36)]) s34 true), (Oy s38 s34 s37), (Om s39 s38), (GL s40 12 s1 s39 true), (Gq s41 (.call (.c (.func (.func 34) [] [])) [(.t s40)]) s39 true), (Oy s42 s39 s41), (Om s2 s42)])
 .ret))⟩
def c16 : AFunc :=
 ⟨48, [(.tmp s0)], (.seq (.ops [(OK s0 (.bool false))])
 (.seq (.ops [(Oc s9 27 []), (Oc s10 12 [(.t s9)]), (Om s8 s10), (Oe s11 0 s8), (Oe s12 1 s8), (Om s1 s11), (Om s2 s12)])
 (.seq (.ops [(Om s14 s1), (Oc s15 18 [(.t s14)]), (Om s13 s15), (Oe s16 0 s13), (Oe s17 1 s13), (Oq s3 (.alloc (aBox (.c (.agg Z12))))), (On (.loud (lSto 12 (.t s3) (.t s16)))), (Om s4 s17)])
 (.seq (.ops [(Om s19 s1), (Oc s20 22 []), (Oc s21 20 [(.t s19), (.t s20)]), (Om s18 s21), (Oe s22 0 s18), (Oe s23 1 s18), (Oe s24 2 s18), (Oq s5 (.alloc (aBox (.c (.agg Z12))))), (On (.loud (lSto 12 (.t s5) (.t s22)))), (Om s6 s23), (Om s7 s24)])
 (.seq (.draw (.calm (Om s25 s2) (.calm (Ok .eql s26 s25 0) (.calm (Om s27 s26) (.calm (Gm s28 s4 s27 true) (.calm (Gk .eql s29 s28 0 s27 true) (.calm (Oy s30 s27 s29) (.calm (Om s31 s30) (.calm (GL s32 12 s3 s31 true) (.last ⟨(Gq s33 (.call (.c (.func (.func 27) [] [])) []) s31 true), [(GL s32 12 s3 s31 true)]⟩ (.calm (Gq s34 (.quiet false (qEqv false K12z (.t s32) (.t s33))) s31 true) (.calm (Oy s35 s31 s34) (.calm (Om s36 s35) (.calm (GL s37 12 s5 s36 true) (.calm (GL s38 12 s3 s36 true) .fin)))))))))))))) [(Gq s39 (.quiet false (qEqv false K12z (.t s37) (.t s38))) s36 true), (Oy s40 s36 s39), (Om s41 s40), (Gm s42 s6 s41 true), (Gk .eql s43 s42 1 s41 true), (Oy s44 s41 s43), (Om s45 s44), (Gm s46 s7 s45 true), (Oy s47 s45 s46), (Om s0 s47)])
 .ret)))))⟩
def c17l0 : ACode :=
 (.seq (.seq (.ops [(Om s38 s5), (Om s39 s4), (Of s40 (qLenL (.t s39))), (Ob .lss s41 s38 s40)])
 (.cond (.t s41) .skip (.exit 0)))
 (.seq (.block 1 (.ops [(Om s44 s3), (Om s45 s4), (Om s46 s5), (Of s47 (qIaddrS 1 (.t s45) (.t s46))), (Ol s48 s47), (Of s49 (qConv .u32 (.t s48))), (Oc s50 35 [(.t s49)]), (Ob .add s51 s44 s50), (Om s3 s51)]))
 (.ops [(Om s42 s5), (Ok .add s43 s42 1), (Om s5 s43)])))
def c17l1 : ACode :=
 (.seq (.seq (.ops [(Om s52 s3), (Of s53 (qLenS (.t s52))), (Ok .lss s54 s53 60)])
 (.cond (.t s54) .skip (.exit 2)))
 (.block 3 (.ops [(Om s55 s3), (Of s56 (qBin .add (.t s55) (.c (.str [0])))), (Om s3 s56)])))
def c17 : AFunc :=
 ⟨62, [(.tmp s2)], (.seq (.ops [(Oq s1 (.alloc (aBox (.t s0)))), (OK s2 (.str []))])
 (.seq (.ops [(OK s3 (.str [66, 89, 83, 1]))])
 (.seq (.ops [(Oa s6 0 s1), (Ol s7 s6), (Oa s8 1 s1), (Ol s9 s8), (Oa s10 2 s1), (Oa s11 0 s10), (Ol s12 s11), (Oa s13 2 s1), (Oa s14 1 s13), (Ol s15 s14), (Oa s16 2 s1), (Oa s17 2 s16), (Ol s18 s17), (Oa s19 5 s1), (Ol s20 s19), (Oa s21 6 s1), (Ol s22 s21), (Oa s23 11 s1), (Ol s24 s23), (Oa s25 7 s1), (Of s26 (qIaddrA 4 1 (.t s25) (.c (.int .i64 0)))), (Ol s27 s26), (Oa s28 7 s1), (Of s29 (qIaddrA 4 1 (.t s28) (.c (.int .i64 1)))), (Ol s30 s29), (Oa s31 7 s1), (Of s32 (qIaddrA 4 1 (.t s31) (.c (.int .i64 2)))), (Ol s33 s32), (Oa s34 7 s1), (Of s35 (qIaddrA 4 1 (.t s34) (.c (.int .i64 3)))), (Ol s36 s35), (Oq s37 (.alloc (aBsl 1 12 [(.int .i64 0)] [(0, (1, (.t s7))), (1, (1, (.t s9))), (2, (1, (.t s12))), (3, (1, (.t s15))), (4, (1, (.t s18))), (5, (1, (.t s20))), (6, (1, (.t s22))), (7, (1, (.t s24))), (8, (1, (.t s27))), (9, (1, (.t s30))), (10, (1, (.t s33))), (11, (1, (.t s36)))]))), (Om s4 s37)])
 (.seq (.seq (.ops [(OK s5 (.int .i64 0))])
 (.block 0 (.loop c17l0)))
 (.seq (.block 2 (.loop c17l1))
 (.seq (.ops [(Om s57 s3), (Om s58 s3), (Oc s59 36 [(.t s58)]), (Oc s60 35 [(.t s59)]), (Ob .add s61 s57 s60), (Om s2 s61)])
 .ret))))))⟩
def c18l0 : ACode :=
 (.seq (.ops [(Ob .lss s32 s31 s30)])
 (.seq (.cond (.t s32) .skip (.exit 0))
 (.seq (.block 1 (.seq (.ops [(Om s33 s31), (Of s34 (qIaddrS 1 (.t s29) (.t s31))), (Ol s35 s34), (Om s6 s33), (Om s7 s35)])
 (.ops [(Om s36 s7), (Om s37 s4), (Om s38 s6), (Of s39 (qBin .mul (.c (.int .i64 4)) (.t s38))), (Of s40 (qBin .add (.c (.int .i64 4)) (.t s39))), (Of s41 (qSlcS 1 (.t s37) (some (.t s40)) none none)), (Oc s42 37 [(.t s41)]), (Of s43 (qConv .i64 (.t s42))), (Of s44 (qNilck (.t s36))), (On (.loud (lSto 1 (.t s44) (.t s43))))])))
 (.ops [(Ok .add s45 s31 1), (Om s31 s45)]))))
def c18 : AFunc :=
 ⟨60, [(.cellN 12 s2), (.tmp s3)], (.seq (.ops [(Oq s2 (.alloc (aBox (.c (.agg Z12))))), (OK s3 (.int .i64 0))])
 (.seq (.seq (.ops [(Om s10 s0), (Of s11 (qLenS (.t s10))), (Ok .neq s12 s11 64), (Om s13 s12), (Gm s14 s0 s13 false), (Gq s15 (.quiet false (qSlcStr (.t s14) none (some (.c (.int .i64 4))))) s13 false), (Gq s16 (.quiet false (qBin .neq (.t s15) (.c (.str [66, 89, 83, 1])))) s13 false), (Oz s17 s13 s16)])
 (.cond (.t s17) (.seq (.ops [(Of s18 (qBld Z12 [])), (On (.loud (lSto 12 (.t s2) (.t s18)))), (OK s3 (.int .i64 8))])
 .ret) .skip))
 (.seq (.ops [(Om s19 s0), (Oq s20 (.alloc (aS2b (.t s19)))), (Om s4 s20)])
 (.seq (.seq (.draw (.calm (Om s21 s4) (.calm (Of s22 (qSlcS 1 (.t s21) (some (.c (.int .i64 60))) none none)) (.calm (Om s24 s0) (.calm (Of s25 (qSlcStr (.t s24) none (some (.c (.int .i64 60))))) (.last ⟨(Oc s23 37 [(.t s22)]), []⟩ .fin))))) [(Oc s26 30 [(.t s25)]), (Ob .neq s27 s23 s26)])
 (.cond (.t s27) (.seq (.ops [(Of s28 (qBld Z12 [])), (On (.loud (lSto 12 (.t s2) (.t s28)))), (OK s3 (.int .i64 9))])
 .ret) .skip))
 (.seq (.ops [(Oq s5 (.alloc (aBox (.c (.agg Z12)))))])
 (.seq (.seq (.ops [(Oc s29 28 [(.t s5)]), (Of s30 (qLenL (.t s29))), (OK s31 (.int .i64 0))])
 (.block 0 (.loop c18l0)))
 (.seq (.seq (.ops [(OL s47 12 s5), (Oc s48 12 [(.t s47)]), (Om s46 s48), (Oe s49 0 s46), (Oe s50 1 s46), (Om s8 s49), (Om s9 s50)])
 (.seq (.ops [(Om s51 s9), (Ok .neq s52 s51 0), (Om s53 s52), (Gm s54 s8 s53 false), (Gm s55 s0 s53 false), (Gb .neq s56 s54 s55 s53 false), (Oz s57 s53 s56)])
 (.cond (.t s57) (.seq (.ops [(Of s58 (qBld Z12 [])), (On (.loud (lSto 12 (.t s2) (.t s58)))), (OK s3 (.int .i64 8))])
 .ret) .skip)))
 (.seq (.ops [(OL s59 12 s5), (On (.loud (lSto 12 (.t s2) (.t s59)))), (OK s3 (.int .i64 0))])
 .ret))))))))⟩
def c19l0 : ACode :=
 (.seq (.seq (.ops [(Om s41 s5), (Ok .lss s42 s41 4)])
 (.cond (.t s42) .skip (.exit 0)))
 (.seq (.block 1 (.ops [(Om s45 s5), (Om s46 s0), (Om s47 s5), (Of s48 (qBin .mul (.c (.int .i64 4)) (.t s47))), (Of s49 (qBin .add (.c (.int .i64 36)) (.t s48))), (Oc s50 38 [(.t s46), (.t s49)]), (Oa s51 7 s4), (Of s52 (qIaddrA 4 1 (.t s51) (.t s45))), (On (.loud (lSto 1 (.t s52) (.t s50))))]))
 (.ops [(Om s43 s5), (Ok .add s44 s43 1), (Om s5 s44)])))
def c19 : AFunc :=
 ⟨64, [(.cellN 12 s2), (.tmp s3)], (.seq (.ops [(Oq s2 (.alloc (aBox (.c (.agg Z12))))), (OK s3 (.int .i64 0))])
 (.seq (.seq (.ops [(Om s6 s0), (Of s7 (qLenS (.t s6))), (Ok .neq s8 s7 64), (Om s9 s8), (Gm s10 s0 s9 false), (Gq s11 (.quiet false (qSlcStr (.t s10) none (some (.c (.int .i64 4))))) s9 false), (Gq s12 (.quiet false (qBin .neq (.t s11) (.c (.str [66, 89, 83, 1])))) s9 false), (Oz s13 s9 s12)])
 (.cond (.t s13) (.seq (.ops [(Of s14 (qBld Z12 [])), (On (.loud (lSto 12 (.t s2) (.t s14)))), (OK s3 (.int .i64 8))])
 .ret) .skip))
 (.seq (.seq (.draw (.calm (Om s15 s0) (.calm (Om s18 s0) (.calm (Of s19 (qSlcStr (.t s18) none (some (.c (.int .i64 60))))) (.last ⟨(Oc s16 38 [(.t s15), (.c (.int .i64 60))]), []⟩ (.calm (Of s17 (qConv .u32 (.t s16))) (.last ⟨(Oc s20 36 [(.t s19)]), []⟩ .fin)))))) [(Ob .neq s21 s17 s20)])
 (.cond (.t s21) (.seq (.ops [(Of s22 (qBld Z12 [])), (On (.loud (lSto 12 (.t s2) (.t s22)))), (OK s3 (.int .i64 9))])
 .ret) .skip))
 (.seq (.ops [(Om s23 s0), (Oc s24 38 [(.t s23), (.c (.int .i64 4))]), (Om s25 s0), (Oc s26 38 [(.t s25), (.c (.int .i64 8))]), (Om s27 s0), (Oc s28 38 [(.t s27), (.c (.int .i64 12))]), (Om s29 s0), (Oc s30 38 [(.t s29), (.c (.int .i64 16))]), (Om s31 s0), (Oc s32 38 [(.t s31), (.c (.int .i64 20))]), (Of s33 (qBld Z3 [(0, (1, (.t s28))), (1, (1, (.t s30))), (2, (1, (.t s32)))])), (Om s34 s0), (Oc s35 38 [(.t s34), (.c (.int .i64 24))]), (Om s36 s0), (Oc s37 38 [(.t s36), (.c (.int .i64 28))]), (Om s38 s0), (Oc s39 38 [(.t s38), (.c (.int .i64 32))]), (Of s40 (qBld Z12 [(0, (1, (.t s24))), (1, (1, (.t s26))), (2, (3, (.t s33))), (5, (1, (.t s35))), (6, (1, (.t s37))), (11, (1, (.t s39)))])), (Oq s4 (.alloc (aBox (.c (.agg Z12))))), (On (.loud (lSto 12 (.t s4) (.t s40))))])
 (.seq (.seq (.ops [(OK s5 (.int .i64 0))])
 (.block 0 (.loop c19l0)))
 (.seq (.seq (.ops [(OL s53 12 s4), (Oc s54 13 [(.t s53)]), (Ou s55 s54), (Om s56 s55), (GL s57 12 s4 s56 false), (Gq s58 (.call (.c (.func (.func 17) [] [])) [(.t s57)]) s56 false), (Gm s59 s0 s56 false), (Gb .neq s60 s58 s59 s56 false), (Oz s61 s56 s60)])
 (.cond (.t s61) (.seq (.ops [(Of s62 (qBld Z12 [])), (On (.loud (lSto 12 (.t s2) (.t s62)))), (OK s3 (.int .i64 8))])
 .ret) .skip))
 (.seq (.ops [(OL s63 12 s4), (On (.loud (lSto 12 (.t s2) (.t s63)))), (OK s3 (.int .i64 0))])
 .ret)))))))⟩
def c20 : AFunc :=
 ⟨45, [(.cellN 12 s4), (.tmp s5), (.tmp s6)], (.seq (.ops [(Oq s4 (.alloc (aBox (.c (.agg Z12))))), (OK s5 (.int .i64 0)), (OK s6 (.bool false))])
 (.seq (.ops [(Om s12 s0), (Oc s13 18 [(.t s12)]), (Om s11 s13), (Oe s14 0 s11), (Oe s15 1 s11), (Oq s7 (.alloc (aBox (.c (.agg Z12))))), (On (.loud (lSto 12 (.t s7) (.t s14)))), (Om s8 s15)])
 (.seq (.ops [(Om s17 s1), (Oc s18 18 [(.t s17)]), (Om s16 s18), (Oe s19 0 s16), (Oe s20 1 s16), (Oq s9 (.alloc (aBox (.c (.agg Z12))))), (On (.loud (lSto 12 (.t s9) (.t s19)))), (Om s10 s20)])
 (.seq (.block 0 (.seq (.ops [(Om s22 s8), (Ok .neq s23 s22 0), (Om s24 s23), (Gm s25 s10 s24 true), (Gk .neq s26 s25 0 s24 true), (Oy s27 s24 s26), (Om s21 s27)])
 (.cond (.t s21) (.seq (.ops [(Of s28 (qBld Z12 [])), (On (.loud (lSto 12 (.t s4) (.t s28)))), (OK s5 (.int .i64 0)), (OK s6 (.bool false))])
 .ret) (.seq (.ops [(Om s30 s10), (Ok .neq s31 s30 0), (Om s32 s31), (Gm s33 s8 s32 false), (Gk .eql s34 s33 0 s32 false), (Gm s35 s34 s32 false), (Ga s36 5 s7 s35 true), (Gl s37 s36 s35 true), (Ga s38 5 s9 s35 true), (Gl s39 s38 s35 true), (Gb .geq s40 s37 s39 s35 true), (Gy s41 s35 s40 s32 false), (Oz s42 s32 s41), (Om s29 s42)])
 (.cond (.t s29) (.seq (.ops [(OL s43 12 s7), (On (.loud (lSto 12 (.t s4) (.t s43)))), (OK s5 (.int .i64 1)), (OK s6 (.bool true))])
 .ret) .skip)))))
 (.seq (.ops [(OL s44 12 s9), (On (.loud (lSto 12 (.t s4) (.t s44)))), (OK s5 (.int .i64 0)), (OK s6 (.bool true))])
 .ret)))))⟩
def c21 : AFunc :=
 ⟨39, [(.cellN 12 s4), (.tmp s5), (.tmp s6)], (.seq (.ops [(Oq s4 (.alloc (aBox (.c (.agg Z12))))), (OK s5 (.int .i64 0)), (OK s6 (.bool false))])
 (.seq (.ops [(Om s12 s0), (Oc s13 19 [(.t s12)]), (Om s11 s13), (Oe s14 0 s11), (Oe s15 1 s11), (Oq s7 (.alloc (aBox (.c (.agg Z12))))), (On (.loud (lSto 12 (.t s7) (.t s14)))), (Om s8 s15)])
 (.seq (.ops [(Om s17 s1), (Oc s18 19 [(.t s17)]), (Om s16 s18), (Oe s19 0 s16), (Oe s20 1 s16), (Oq s9 (.alloc (aBox (.c (.agg Z12))))), (On (.loud (lSto 12 (.t s9) (.t s19)))), (Om s10 s20)])
 (.seq (.seq (.ops [(Om s21 s8), (Ok .eql s22 s21 0), (Om s23 s22), (Gm s24 s10 s23 true), (Gk .neq s25 s24 0 s23 true), (Gm s26 s25 s23 true), (Ga s27 5 s7 s26 false), (Gl s28 s27 s26 false), (Ga s29 5 s9 s26 false), (Gl s30 s29 s26 false), (Gb .geq s31 s28 s30 s26 false), (Gz s32 s26 s31 s23 true), (Oy s33 s23 s32)])
 (.cond (.t s33) (.seq (.ops [(OL s34 12 s7), (On (.loud (lSto 12 (.t s4) (.t s34)))), (OK s5 (.int .i64 1)), (OK s6 (.bool true))])
 .ret) .skip))
 (.seq (.seq (.ops [(Om s35 s10), (Ok .eql s36 s35 0)])
 (.cond (.t s36) (.seq (.ops [(OL s37 12 s9), (On (.loud (lSto 12 (.t s4) (.t s37)))), (OK s5 (.int .i64 0)), (OK s6 (.bool true))])
 .ret) .skip))
 (.seq (.ops [(Of s38 (qBld Z12 [])), (On (.loud (lSto 12 (.t s4) (.t s38)))), (OK s5 (.int .i64 0)), (OK s6 (.bool false))])
 .ret))))))⟩
def c22 : AFunc :=
 ⟨3, [(.tmp s0)], (.seq (.ops [(OK s0 (.str []))])
 (.seq (.ops [(Oq s1 (.alloc (aMks 1 1 [(.int .u8 0)] (.c (.int .i64 64)) (.c (.int .i64 64))))), (Og s2 (qB2s (.t s1))), (Om s0 s2)])
 .ret))⟩
def c23l0 : ACode :=
 (.seq (.ops [(Ob .lss s26 s25 s24)])
 (.seq (.cond (.t s26) .skip (.exit 0))
 (.seq (.block 1 (.seq (.ops [(Om s27 s25), (Of s28 (qIaddrS 2 (.t s23) (.t s25))), (OL s29 2 s28), (Oq s9 (.alloc (aBox (.c (.agg [(.str []), (.str [])]))))), (Om s8 s27), (On (.loud (lSto 2 (.t s9) (.t s29))))])
 (.seq (.ops [(Of s31 (qIaddrA 2 1 (.t s9) (.c (.int .i64 0)))), (Ol s32 s31), (Of s33 (qIaddrA 2 1 (.t s9) (.c (.int .i64 1)))), (Ol s34 s33), (Oc s35 20 [(.t s32), (.t s34)]), (Om s30 s35), (Oe s36 0 s30), (Oe s37 1 s30), (Oe s38 2 s30), (Oq s10 (.alloc (aBox (.c (.agg Z12))))), (On (.loud (lSto 12 (.t s10) (.t s36)))), (Om s11 s37), (Om s12 s38)])
 (.seq (.seq (.ops [(Om s39 s12), (Ou s40 s39), (Om s41 s40), (Ga s42 0 s10 s41 false), (Gl s43 s42 s41 false), (Gm s44 s1 s41 false), (Gb .neq s45 s43 s44 s41 false), (Oz s46 s41 s45)])
 (.cond (.t s46) (.exit 1) .skip))
 (.ops [(Om s47 s7), (Om s48 s8), (OL s49 12 s10), (On (.loud (lMset (.one .int) (.t s47) (.t s48) (.t s49))))])))))
 (.ops [(Ok .add s50 s25 1), (Om s25 s50)]))))
def c23l1 : ACode :=
 (.seq (.ops [(Ob .lss s61 s60 s59)])
 (.seq (.cond (.t s61) .skip (.exit 2))
 (.seq (.block 3 (.seq (.ops [(Om s62 s60), (Om s13 s62)])
 (.seq (.ops [(Om s64 s7), (Om s65 s13), (Og s66 (qLook (.one .int) true (.agg Z12) (.t s64) (.t s65))), (Om s63 s66), (Oe s67 0 s63), (Oe s68 1 s63), (Oq s14 (.alloc (aBox (.c (.agg Z12))))), (On (.loud (lSto 12 (.t s14) (.t s67)))), (Om s15 s68)])
 (.seq (.seq (.ops [(Om s69 s15), (Ou s70 s69), (Om s71 s70), (Ga s72 2 s14 s71 false), (GL s73 3 s72 s71 false), (Ga s74 0 s6 s71 false), (Ga s75 2 s74 s71 false), (GL s76 3 s75 s71 false), (Gq s77 (.quiet false (qEqv true (.many [.int, .int, .int]) (.t s73) (.t s76))) s71 false), (Oz s78 s71 s77)])
 (.cond (.t s78) (.exit 3) .skip))
 (.seq (.ops [(Oa s79 1 s14), (Ol s80 s79), (Oa s81 12 s6), (Of s82 (qIaddrA 4 1 (.t s81) (.t s80))), (Ol s83 s82), (Om s16 s83)])
 (.seq (.ops [(Om s84 s16), (Ok .lss s85 s84 0), (Om s86 s85), (Gm s87 s7 s86 false), (Gm s88 s16 s86 false), (Gq s89 (.quiet true (qLook (.one .int) false (.agg Z12) (.t s87) (.t s88))) s86 false), (Gq s90 (.quiet false (qField 5 1 false (.t s89))) s86 false), (Ga s91 5 s14 s86 false), (Gl s92 s91 s86 false), (Gb .lss s93 s90 s92 s86 false), (Oz s94 s86 s93)])
 (.cond (.t s94) (.ops [(Oa s95 1 s14), (Ol s96 s95), (Om s97 s13), (Oa s98 12 s6), (Of s99 (qIaddrA 4 1 (.t s98) (.t s96))), (On (.loud (lSto 1 (.t s99) (.t s97))))]) .skip)))))))
 (.ops [(Ok .add s100 s60 1), (Om s60 s100)]))))
def c23l2 : ACode :=
 (.seq (.ops [(Ok .lss s104 s103 4)])
 (.seq (.cond (.t s104) .skip (.exit 4))
 (.seq (.block 5 (.seq (.ops [(Om s105 s103), (Of s106 (qIdxA 4 1 false (.t s102) (.t s103))), (Om s17 s105), (Om s18 s106)])
 (.seq (.ops [(Om s107 s17), (Oa s108 0 s6), (Oa s109 7 s108), (Of s110 (qIaddrA 4 1 (.t s109) (.t s107))), (Ol s111 s110), (Om s19 s111)])
 (.ops [(Om s112 s17), (Om s113 s18), (Ok .geq s114 s113 0), (Om s115 s114), (Gm s116 s19 s115 true), (Gk .eql s117 s116 1 s115 true), (Gm s118 s117 s115 true), (Gm s119 s19 s118 false), (Gk .eql s120 s119 3 s118 false), (Gz s121 s118 s120 s115 true), (Oy s122 s115 s121), (Om s123 s122), (Gm s124 s7 s123 true), (Gm s125 s18 s123 true), (Gq s126 (.quiet true (qLook (.one .int) false (.agg Z12) (.t s124) (.t s125))) s123 true), (Gq s127 (.quiet false (qField 5 1 false (.t s126))) s123 true), (Ga s128 0 s6 s123 true), (Ga s129 5 s128 s123 true), (Gl s130 s129 s123 true), (Gk .sub s131 s130 1 s123 true), (Gb .geq s132 s127 s131 s123 true), (Oy s133 s123 s132), (Oa s134 16 s6), (Of s135 (qIaddrA 4 1 (.t s134) (.t s112))), (On (.loud (lSto 1 (.t s135) (.t s133))))]))))
 (.ops [(Ok .add s136 s103 1), (Om s103 s136)]))))
def c23 : AFunc :=
 ⟨138, [(.cellN 20 s4), (.tmp s5)], (.seq (.ops [(Oq s4 (.alloc (aBox (.c (.agg Z20))))), (OK s5 (.int .i64 0))])
 (.seq (.ops [(Of s20 (qBld [(.int .i64 0), (.int .i64 0), (.int .i64 0), (.int .i64 0)] [(0, (1, (.c (.int .i64 (-1))))), (1, (1, (.c (.int .i64 (-1))))), (2, (1, (.c (.int .i64 (-1))))), (3, (1, (.c (.int .i64 (-1)))))])), (Of s21 (qBld Z20 [(12, (4, (.t s20)))])), (Oq s6 (.alloc (aBox (.c (.agg Z20))))), (On (.loud (lSto 20 (.t s6) (.t s21))))])
 (.seq (.ops [(Oq s22 (.alloc aMkm)), (Om s7 s22)])
 (.seq (.seq (.ops [(Om s23 s0), (Of s24 (qLenL (.t s23))), (OK s25 (.int .i64 0))])
 (.block 0 (.loop c23l0)))
 (.seq (.seq (.ops [(Om s51 s7), (Og s52 (qLenM (.t s51))), (Ok .eql s53 s52 0)])
 (.cond (.t s53) (.seq (.ops [(Of s54 (qBld Z20 [])), (On (.loud (lSto 20 (.t s4) (.t s54)))), (OK s5 (.int .i64 4))])
 .ret) .skip))
 (.seq (.ops [(Om s55 s7), (Oc s56 39 [(.t s55)]), (Oa s57 0 s6), (On (.loud (lSto 12 (.t s57) (.t s56))))])
 (.seq (.seq (.ops [(Om s58 s0), (Of s59 (qLenL (.t s58))), (OK s60 (.int .i64 0))])
 (.block 2 (.loop c23l1)))
 (.seq (.seq (.ops [(Oa s101 12 s6), (OL s102 4 s101), (OK s103 (.int .i64 0))])
 (.block 4 (.loop c23l2)))
 (.seq (.ops [(OL s137 20 s6), (On (.loud (lSto 20 (.t s4) (.t s137)))), (OK s5 (.int .i64 0))])
 .ret)))))))))⟩
def c24 : AFunc :=
 ⟨11, [(.tmp s2)], (.seq (.ops [(Oq s1 (.alloc (aBox (.t s0)))), (OK s2 (.str []))])
 (.seq (.seq (.ops [(OL s3 12 s1), (Oc s4 14 [(.t s3)]), (Oc s5 13 [(.t s4)]), (Ou s6 s5)])
 (.cond (.t s6) (.seq (.ops [(Oc s7 22 []), (Om s2 s7)])
 .ret) .skip))
 (.seq (.ops [(OL s8 12 s1), (Oc s9 14 [(.t s8)]), (Oc s10 17 [(.t s9)]), (Om s2 s10)])
 .ret)))⟩
def c25l0 : ACode :=
 (.seq (.seq (.ops [(Om s20 s8), (Om s21 s0), (Of s22 (qLenL (.t s21))), (Ob .lss s23 s20 s22)])
 (.cond (.t s23) .skip (.exit 0)))
 (.seq (.block 1 (.seq (.draw (.calm (Om s27 s0) (.calm (Om s28 s8) (.calm (Of s29 (qIaddrS 2 (.t s27) (.t s28))) (.calm (Of s30 (qIaddrA 2 1 (.t s29) (.c (.int .i64 0)))) (.calm (Ol s31 s30) (.calm (Om s32 s0) (.calm (Om s33 s8) (.calm (Of s34 (qIaddrS 2 (.t s32) (.t s33))) (.calm (Of s35 (qIaddrA 2 1 (.t s34) (.c (.int .i64 1)))) (.calm (Ol s36 s35) (.calm (Oq s9 (.alloc (aBox (.c (.agg Z12))))) (.last ⟨(Oc s37 21 [(.t s31), (.t s36)]), [(Oq s9 (.alloc (aBox (.c (.agg Z12)))))]⟩ (.calm (Om s26 s37) (.calm (Oe s38 0 s26) (.calm (Oe s39 1 s26) (.calm (Oe s40 2 s26) (.last ⟨(On (.loud (lSto 12 (.t s9) (.t s38)))), []⟩ (.calm (Om s10 s39) .fin)))))))))))))))))) [(Om s11 s40)])
 (.seq (.ops [(Om s41 s11), (Om s42 s41), (Ga s43 0 s9 s42 true), (Gl s44 s43 s42 true), (Gm s45 s1 s42 true), (Gb .eql s46 s44 s45 s42 true), (Oy s47 s42 s46)])
 (.cond (.t s47) (.ops [(Om s48 s7), (OL s49 12 s9), (Oq s50 (.alloc (aBsl 12 1 Z12 [(0, (12, (.t s49)))]))), (Oq s51 (.loud (lApp 12 96 (.t s48) (.t s50)))), (Om s7 s51)]) .skip))))
 (.ops [(Om s24 s8), (Ok .add s25 s24 1), (Om s8 s25)])))
def c25l1 : ACode :=
 (.seq (.seq (.ops [(Om s60 s12), (Om s61 s7), (Of s62 (qLenL (.t s61))), (Ob .lss s63 s60 s62)])
 (.cond (.t s63) .skip (.exit 2)))
 (.seq (.block 3 (.seq (.draw (.calm (Om s66 s7) (.calm (Om s67 s12) (.calm (Of s68 (qIaddrS 12 (.t s66) (.t s67))) (.calm (Oa s69 5 s68) (.calm (Ol s70 s69) (.calm (Oa s71 0 s6) (.calm (Oa s72 5 s71) (.calm (Ol s73 s72) (.calm (Ob .gtr s74 s70 s73) (.calm (Om s75 s74) (.calm (Gm s76 s7 s75 false) (.calm (Gm s77 s12 s75 false) (.calm (Gq s78 (.quiet false (qIaddrS 12 (.t s76) (.t s77))) s75 false) (.calm (Ga s79 5 s78 s75 false) (.calm (Gl s80 s79 s75 false) (.calm (Ga s81 0 s6 s75 false) (.calm (Ga s82 5 s81 s75 false) (.calm (Gl s83 s82 s75 false) (.calm (Gb .eql s84 s80 s83 s75 false) (.calm (Gm s85 s84 s75 false) (.calm (Gm s86 s7 s85 true) (.calm (Gm s87 s7 s85 true) (.calm (Gm s88 s12 s85 true) (.calm (Gq s89 (.quiet false (qIaddrS 12 (.t s87) (.t s88))) s85 true) (.calm (GL s90 12 s89 s85 true) (.calm (Ga s91 0 s6 s85 true) (.calm (GL s92 12 s91 s85 true) .fin))))))))))))))))))))))))))) [(Gq s93 (.call (.c (.func (.func 40) [] [])) [(.t s86), (.t s90), (.t s92)]) s85 true), (Gy s94 s85 s93 s75 false), (Oz s95 s75 s94)])
 (.cond (.t s95) (.ops [(Om s96 s7), (Om s97 s12), (Of s98 (qIaddrS 12 (.t s96) (.t s97))), (OL s99 12 s98), (Oa s100 0 s6), (On (.loud (lSto 12 (.t s100) (.t s99))))]) .skip)))
 (.ops [(Om s64 s12), (Ok .add s65 s64 1), (Om s12 s65)])))
def c25l2 : ACode :=
 (.seq (.seq (.ops [(Om s108 s15), (Om s109 s0), (Of s110 (qLenL (.t s109))), (Ob .lss s111 s108 s110)])
 (.cond (.t s111) .skip (.exit 6)))
 (.seq (.block 7 (.seq (.draw (.calm (Om s115 s0) (.calm (Om s116 s15) (.calm (Of s117 (qIaddrS 2 (.t s115) (.t s116))) (.calm (Of s118 (qIaddrA 2 1 (.t s117) (.c (.int .i64 0)))) (.calm (Ol s119 s118) (.calm (Om s120 s0) (.calm (Om s121 s15) (.calm (Of s122 (qIaddrS 2 (.t s120) (.t s121))) (.calm (Of s123 (qIaddrA 2 1 (.t s122) (.c (.int .i64 1)))) (.calm (Ol s124 s123) (.calm (Oq s16 (.alloc (aBox (.c (.agg Z12))))) (.last ⟨(Oc s125 21 [(.t s119), (.t s124)]), [(Oq s16 (.alloc (aBox (.c (.agg Z12)))))]⟩ (.calm (Om s114 s125) (.calm (Oe s126 0 s114) (.calm (Oe s127 1 s114) (.calm (Oe s128 2 s114) (.last ⟨(On (.loud (lSto 12 (.t s16) (.t s126)))), []⟩ (.calm (Om s17 s127) .fin)))))))))))))))))) [(Om s18 s128)])
 (.seq (.ops [(Om s129 s18), (Om s130 s129), (Ga s131 0 s16 s130 true), (Gl s132 s131 s130 true), (Gm s133 s1 s130 true), (Gb .eql s134 s132 s133 s130 true), (Oy s135 s130 s134), (Om s136 s135), (Ga s137 1 s16 s136 true), (Gl s138 s137 s136 true), (Gm s139 s13 s136 true), (Gb .eql s140 s138 s139 s136 true), (Oy s141 s136 s140), (Om s142 s141), (Ga s143 2 s16 s142 true), (GL s144 3 s143 s142 true), (Ga s145 0 s6 s142 true), (Ga s146 2 s145 s142 true), (GL s147 3 s146 s142 true), (Gq s148 (.quiet false (qEqv false (.many [.int, .int, .int]) (.t s144) (.t s147))) s142 true), (Oy s149 s142 s148), (Om s150 s149), (Ga s151 5 s16 s150 true), (Gl s152 s151 s150 true), (Gm s153 s14 s150 true), (Gb .gtr s154 s152 s153 s150 true), (Oy s155 s150 s154)])
 (.cond (.t s155) (.seq (.ops [(Oa s156 5 s16), (Ol s157 s156), (Om s14 s157)])
 (.ops [(Om s158 s13), (Om s159 s15), (Oa s160 12 s6), (Of s161 (qIaddrA 4 1 (.t s160) (.t s158))), (On (.loud (lSto 1 (.t s161) (.t s159))))])) .skip))))
 (.ops [(Om s112 s15), (Ok .add s113 s112 1), (Om s15 s113)])))
def c25l3 : ACode :=
 (.seq (.seq (.ops [(Om s101 s13), (Ok .lss s102 s101 4)])
 (.cond (.t s102) .skip (.exit 4)))
 (.seq (.block 5 (.seq (.ops [(Om s105 s13), (Oa s106 12 s6), (Of s107 (qIaddrA 4 1 (.t s106) (.t s105))), (On (.loud (lSto 1 (.t s107) (.c (.int .i64 (-1))))))])
 (.seq (.ops [(OK s14 (.int .i64 0))])
 (.seq (.seq (.ops [(OK s15 (.int .i64 0))])
 (.block 6 (.loop c25l2)))
 (.seq (.ops [(Om s162 s13), (Oa s163 0 s6), (Oa s164 7 s163), (Of s165 (qIaddrA 4 1 (.t s164) (.t s162))), (Ol s166 s165), (Om s19 s166)])
 (.ops [(Om s167 s13), (Om s168 s13), (Oa s169 12 s6), (Of s170 (qIaddrA 4 1 (.t s169) (.t s168))), (Ol s171 s170), (Ok .geq s172 s171 0), (Om s173 s172), (Gm s174 s19 s173 true), (Gk .eql s175 s174 1 s173 true), (Gm s176 s175 s173 true), (Gm s177 s19 s176 false), (Gk .eql s178 s177 3 s176 false), (Gz s179 s176 s178 s173 true), (Oy s180 s173 s179), (Om s181 s180), (Gm s182 s14 s181 true), (Gk .add s183 s182 1 s181 true), (Ga s184 0 s6 s181 true), (Ga s185 5 s184 s181 true), (Gl s186 s185 s181 true), (Gb .geq s187 s183 s186 s181 true), (Oy s188 s181 s187), (Oa s189 16 s6), (Of s190 (qIaddrA 4 1 (.t s189) (.t s167))), (On (.loud (lSto 1 (.t s190) (.t s188))))]))))))
 (.ops [(Om s103 s13), (Ok .add s104 s103 1), (Om s13 s104)])))
def c25 : AFunc :=
 ⟨192, [(.cellN 20 s4), (.tmp s5)], (.seq (.ops [(Oq s4 (.alloc (aBox (.c (.agg Z20))))), (OK s5 (.bool false))])
 (.seq (.ops [(Oq s6 (.alloc (aBox (.c (.agg Z20)))))])
 (.seq (.ops [(OK s7 .nilslice)])
 (.seq (.seq (.ops [(OK s8 (.int .i64 0))])
 (.block 0 (.loop c25l0)))
 (.seq (.seq (.ops [(Om s52 s7), (Of s53 (qLenL (.t s52))), (Ok .eql s54 s53 0)])
 (.cond (.t s54) (.seq (.ops [(Of s55 (qBld Z20 [])), (On (.loud (lSto 20 (.t s4) (.t s55)))), (OK s5 (.bool false))])
 .ret) .skip))
 (.seq (.ops [(Om s56 s7), (Of s57 (qIaddrS 12 (.t s56) (.c (.int .i64 0)))), (OL s58 12 s57), (Oa s59 0 s6), (On (.loud (lSto 12 (.t s59) (.t s58))))])
 (.seq (.seq (.ops [(OK s12 (.int .i64 1))])
 (.block 2 (.loop c25l1)))
 (.seq (.seq (.ops [(OK s13 (.int .i64 0))])
 (.block 4 (.loop c25l3)))
 (.seq (.ops [(OL s191 20 s6), (On (.loud (lSto 20 (.t s4) (.t s191)))), (OK s5 (.bool true))])
 .ret)))))))))⟩
def c26l0 : ACode :=
 (.seq (.ops [(Ob .lss s14 s13 s12)])
 (.seq (.cond (.t s14) .skip (.exit 0))
 (.seq (.block 1 (.seq (.ops [(Om s15 s13), (Om s4 s15)])
 (.seq (.ops [(Om s16 s4), (Oa s17 16 s1), (Of s18 (qIaddrA 4 1 (.t s17) (.t s16))), (Ol s19 s18), (Ou s20 s19), (Om s21 s20), (Gm s22 s4 s21 false), (Ga s23 0 s1 s21 false), (Ga s24 7 s23 s21 false), (Gq s25 (.quiet false (qIaddrA 4 1 (.t s24) (.t s22))) s21 false), (Gl s26 s25 s21 false), (Gk .neq s27 s26 1 s21 false), (Oz s28 s21 s27)])
 (.cond (.t s28) (.ops [(Om s29 s3), (Ok .add s30 s29 1), (Om s3 s30)]) .skip))))
 (.ops [(Ok .add s31 s13 1), (Om s13 s31)]))))
def c26 : AFunc :=
 ⟨34, [(.tmp s2)], (.seq (.ops [(Oq s1 (.alloc (aBox (.t s0)))), (OK s2 (.bool false))])
 (.seq (.seq (.ops [(Oa s5 0 s1), (OL s6 12 s5), (Oc s7 15 [(.t s6)]), (Ou s8 s7)])
 (.cond (.t s8) (.seq (.ops [(OK s2 (.bool false))])
 .ret) .skip))
 (.seq (.ops [(OK s3 (.int .i64 0))])
 (.seq (.seq (.ops [(Oa s9 0 s1), (Oa s10 2 s9), (Oa s11 1 s10), (Ol s12 s11), (OK s13 (.int .i64 0))])
 (.block 0 (.loop c26l0)))
 (.seq (.ops [(Om s32 s3), (Ok .leq s33 s32 1), (Om s2 s33)])
 .ret)))))⟩
def c27 : AFunc :=
 ⟨4, [(.cellN 12 s0)], (.seq (.ops [(Oq s0 (.alloc (aBox (.c (.agg Z12)))))])
 (.seq (.ops [(Of s1 (qBld Z3 [(0, (1, (.c (.int .i64 1)))), (1, (1, (.c (.int .i64 2)))), (2, (1, (.c (.int .i64 2))))])), (Of s2 (qBld [(.int .i64 0), (.int .i64 0), (.int .i64 0), (.int .i64 0)] [(0, (1, (.c (.int .i64 1)))), (1, (1, (.c (.int .i64 1)))), (2, (1, (.c (.int .i64 0)))), (3, (1, (.c (.int .i64 0))))])), (Of s3 (qBld Z12 [(0, (1, (.c (.int .i64 1)))), (2, (3, (.t s1))), (5, (1, (.c (.int .i64 5)))), (6, (1, (.c (.int .i64 1)))), (7, (4, (.t s2)))])), (On (.loud (lSto 12 (.t s0) (.t s3))))])
 .ret))⟩
def c28l0 : ACode :=
 (.seq (.ops [(Ok .lss s34 s33 4)])
 (.seq (.cond (.t s34) .skip (.exit 0))
 (.seq (.block 1 (.seq (.ops [(Om s35 s33), (Om s4 s35)])
 (.ops [(Om s36 s3), (Om s37 s0), (Om s38 s4), (Of s39 (qNilck (.t s37))), (Oa s40 7 s39), (Of s41 (qIaddrA 4 1 (.t s40) (.t s38))), (Oq s42 (.alloc (aBsl 1 1 [.nilptr] [(0, (1, (.t s41)))]))), (Oq s43 (.loud (lApp 1 8 (.t s36) (.t s42)))), (Om s3 s43)])))
 (.ops [(Ok .add s44 s33 1), (Om s33 s44)]))))
def c28 : AFunc :=
 ⟨46, [(.tmp s2)], (.seq (.ops [(OK s2 .nilslice)])
 (.seq (.draw (.calm (Om s5 s0) (.calm (Of s6 (qNilck (.t s5))) (.calm (Oa s7 0 s6) (.calm (Om s8 s0) (.calm (Of s9 (qNilck (.t s8))) (.calm (Oa s10 1 s9) (.calm (Om s11 s0) (.calm (Of s12 (qNilck (.t s11))) (.calm (Oa s13 2 s12) (.calm (Oa s14 0 s13) (.calm (Om s15 s0) (.calm (Of s16 (qNilck (.t s15))) (.calm (Oa s17 2 s16) (.calm (Oa s18 1 s17) (.calm (Om s19 s0) (.calm (Of s20 (qNilck (.t s19))) (.calm (Oa s21 2 s20) (.calm (Oa s22 2 s21) (.calm (Om s23 s0) (.calm (Of s24 (qNilck (.t s23))) (.calm (Oa s25 5 s24) (.calm (Om s26 s0) (.calm (Of s27 (qNilck (.t s26))) (.calm (Oa s28 6 s27) (.calm (Om s29 s0) (.calm (Of s30 (qNilck (.t s29))) (.calm (Oa s31 11 s30) .fin))))))))))))))))))))))))))) [(Oq s32 (.alloc (aBsl 1 8 [.nilptr] [(0, (1, (.t s7))), (1, (1, (.t s10))), (2, (1, (.t s14))), (3, (1, (.t s18))), (4, (1, (.t s22))), (5, (1, (.t s25))), (6, (1, (.t s28))), (7, (1, (.t s31)))]))), (Om s3 s32)])
 (.seq (.seq (.ops [(OK s33 (.int .i64 0))])
 (.block 0 (.loop c28l0)))
 (.seq (.ops [(Om s45 s3), (Om s2 s45)])
 .ret))))⟩
def c29 : AFunc :=
 ⟨19, [(.tmp s4)], (.seq (.ops [(OK s4 .nilslice)])
 (.seq (.ops [(Om s5 s0), (Om s6 s1), (Of s7 (qConv .u8 (.t s6))), (Om s8 s1), (Of s9 (qBin .shr (.t s8) (.c (.int .u64 8)))), (Of s10 (qConv .u8 (.t s9))), (Om s11 s1), (Of s12 (qBin .shr (.t s11) (.c (.int .u64 16)))), (Of s13 (qConv .u8 (.t s12))), (Om s14 s1), (Of s15 (qBin .shr (.t s14) (.c (.int .u64 24)))), (Of s16 (qConv .u8 (.t s15))), (Oq s17 (.alloc (aBsl 1 4 [(.int .u8 0)] [(0, (1, (.t s7))), (1, (1, (.t s10))), (2, (1, (.t s13))), (3, (1, (.t s16)))]))), (Oq s18 (.loud (lApp 1 1 (.t s5) (.t s17)))), (Om s4 s18)])
 .ret))⟩
def c30l0 : ACode :=
 (.seq (.ops [(Ok .lss s18 s17 8)])
 (.seq (.cond (.t s18) .skip (.exit 2))
 (.seq (.block 3 (.seq (.ops [(Om s19 s3), (Of s20 (qBin .and (.t s19) (.c (.int .u32 1)))), (Om s5 s20)])
 (.seq (.ops [(Om s21 s3), (Of s22 (qBin .shr (.t s21) (.c (.int .u64 1)))), (Om s3 s22)])
 (.seq (.ops [(Om s23 s5), (Of s24 (qBin .eql (.t s23) (.c (.int .u32 1))))])
 (.cond (.t s24) (.ops [(Om s25 s3), (Of s26 (qBin .xor (.t s25) (.c (.int .u32 3988292384)))), (Om s3 s26)]) .skip)))))
 (.ops [(Ok .add s27 s17 1), (Om s17 s27)]))))
def c30l1 : ACode :=
 (.seq (.ops [(Ob .lss s9 s8 s7)])
 (.seq (.cond (.t s9) .skip (.exit 0))
 (.seq (.block 1 (.seq (.ops [(Om s10 s8), (Om s4 s10)])
 (.seq (.ops [(Om s11 s3), (Om s12 s0), (Om s13 s4), (Of s14 (qIdxS (.t s12) (.t s13))), (Of s15 (qConv .u32 (.t s14))), (Ob .xor s16 s11 s15), (Om s3 s16)])
 (.seq (.ops [(OK s17 (.int .i64 0))])
 (.block 2 (.loop c30l0))))))
 (.ops [(Ok .add s28 s8 1), (Om s8 s28)]))))
def c30 : AFunc :=
 ⟨31, [(.tmp s2)], (.seq (.ops [(OK s2 (.int .u32 0))])
 (.seq (.ops [(OK s3 (.int .u32 4294967295))])
 (.seq (.seq (.ops [(Om s6 s0), (Of s7 (qLenS (.t s6))), (OK s8 (.int .i64 0))])
 (.block 0 (.loop c30l1)))
 (.seq (.ops [(Om s29 s3), (Of s30 (qUn .xor (.t s29))), (Om s2 s30)])
 .ret))))⟩
def c31 : AFunc :=
 ⟨36, [(.tmp s2)], (.seq (.ops [(Oq s1 (.alloc (aBox (.t s0)))), (OK s2 (.bool false))])
 (.seq (.seq (.ops [(Oa s3 2 s1), (Ol s4 s3), (Ok .lss s5 s4 2), (Om s6 s5), (Ga s7 2 s1 s6 false), (Gl s8 s7 s6 false), (Gk .gtr s9 s8 64 s6 false), (Oz s10 s6 s9), (Om s11 s10), (Ga s12 2 s1 s11 false), (Gl s13 s12 s11 false), (Gk .rem s14 s13 2 s11 false), (Gk .neq s15 s14 0 s11 false), (Oz s16 s11 s15)])
 (.cond (.t s16) (.seq (.ops [(OK s2 (.bool false))])
 .ret) .skip))
 (.seq (.seq (.ops [(Oa s17 0 s1), (Ol s18 s17), (Ok .eql s19 s18 1)])
 (.cond (.t s19) (.seq (.ops [(Oa s20 1 s1), (Ol s21 s20), (Ok .eql s22 s21 2), (Om s2 s22)])
 .ret) .skip))
 (.seq (.ops [(Oa s23 0 s1), (Ol s24 s23), (Ok .eql s25 s24 5), (Om s26 s25), (Ga s27 1 s1 s26 true), (Gl s28 s27 s26 true), (Gk .geq s29 s28 3 s26 true), (Oy s30 s26 s29), (Om s31 s30), (Ga s32 1 s1 s31 true), (Gl s33 s32 s31 true), (Gk .leq s34 s33 4 s31 true), (Oy s35 s31 s34), (Om s2 s35)])
 .ret))))⟩
def c32 : AFunc :=
 ⟨44, [(.tmp s2)], (.seq (.ops [(Oq s1 (.alloc (aBox (.t s0)))), (OK s2 (.bool false))])
 (.seq (.ops [(Oa s4 0 s1), (Ol s5 s4), (Ok .eql s6 s5 1), (Om s7 s6), (Ga s8 1 s1 s7 true), (Gl s9 s8 s7 true), (Gk .eql s10 s9 2 s7 true), (Oy s11 s7 s10), (Om s12 s11), (Ga s13 0 s1 s12 false), (Gl s14 s13 s12 false), (Gk .eql s15 s14 5 s12 false), (Gm s16 s15 s12 false), (Ga s17 1 s1 s16 true), (Gl s18 s17 s16 true), (Gk .eql s19 s18 3 s16 true), (Gm s20 s19 s16 true), (Ga s21 1 s1 s20 false), (Gl s22 s21 s20 false), (Gk .eql s23 s22 4 s20 false), (Gz s24 s20 s23 s16 true), (Gy s25 s16 s24 s12 false), (Oz s26 s12 s25), (Om s3 s26)])
 (.seq (.ops [(Om s27 s3), (Om s28 s27), (Ga s29 2 s1 s28 true), (Gl s30 s29 s28 true), (Gk .geq s31 s30 2 s28 true), (Oy s32 s28 s31), (Om s33 s32), (Ga s34 2 s1 s33 true), (Gl s35 s34 s33 true), (Gk .leq s36 s35 64 s33 true), (Oy s37 s33 s36), (Om s38 s37), (Ga s39 2 s1 s38 true), (Gl s40 s39 s38 true), (Gk .rem s41 s40 2 s38 true), (Gk .eql s42 s41 0 s38 true), (Oy s43 s38 s42), (Om s2 s43)])
 .ret)))⟩
def c33 : AFunc :=
 ⟨9, [(.tmp s2)], (.seq (.ops [(OK s2 (.bool false))])
 (.seq (.ops [(Om s3 s0), (Ok .geq s4 s3 1), (Om s5 s4), (Gm s6 s0 s5 true), (Gk .leq s7 s6 2147483647 s5 true), (Oy s8 s5 s7), (Om s2 s8)])
 .ret))⟩
def c34l0 : ACode :=
 (.seq (.ops [(Ok .lss s10 s9 4)])
 (.seq (.cond (.t s10) .skip (.exit 0))
 (.seq (.block 1 (.seq (.ops [(Om s11 s9), (Of s12 (qIdxA 4 1 false (.t s8) (.t s9))), (Om s5 s11), (Om s6 s12)])
 (.block 2 (.seq (.seq (.ops [(Om s14 s5), (Oa s15 2 s1), (Oa s16 1 s15), (Ol s17 s16), (Ob .geq s18 s14 s17), (Om s19 s18), (Gm s20 s6 s19 true), (Gk .neq s21 s20 0 s19 true), (Oy s22 s19 s21), (Om s13 s22)])
 (.cond (.t s13) .skip (.ops [(Om s23 s5), (Oa s24 2 s1), (Oa s25 1 s24), (Ol s26 s25), (Ob .lss s27 s23 s26), (Om s28 s27), (Gm s29 s6 s28 true), (Gk .lss s30 s29 1 s28 true), (Gm s31 s30 s28 true), (Gm s32 s6 s31 false), (Gk .gtr s33 s32 3 s31 false), (Gz s34 s31 s33 s28 true), (Oy s35 s28 s34), (Om s13 s35)])))
 (.cond (.t s13) (.seq (.ops [(OK s2 (.bool false))])
 .ret) (.seq (.ops [(Om s37 s5), (Oa s38 2 s1), (Oa s39 1 s38), (Ol s40 s39), (Ob .lss s41 s37 s40), (Om s42 s41), (Gm s43 s6 s42 true), (Gk .neq s44 s43 1 s42 true), (Oy s45 s42 s44), (Om s36 s45)])
 (.cond (.t s36) (.seq (.ops [(Om s46 s3), (Ok .add s47 s46 1), (Om s3 s47)])
 (.ops [(Om s48 s6), (Ok .eql s49 s48 3), (Om s4 s49)])) .skip)))))))
 (.ops [(Ok .add s50 s9 1), (Om s9 s50)]))))
def c34 : AFunc :=
 ⟨74, [(.tmp s2)], (.seq (.ops [(Oq s1 (.alloc (aBox (.t s0)))), (OK s2 (.bool false))])
 (.seq (.ops [(OK s3 (.int .i64 0)), (OK s4 (.bool false))])
 (.seq (.seq (.ops [(Oa s7 7 s1), (OL s8 4 s7), (OK s9 (.int .i64 0))])
 (.block 0 (.loop c34l0)))
 (.seq (.ops [(Om s51 s3), (Ok .leq s52 s51 1), (Om s53 s52), (Ga s54 11 s1 s53 true), (Gl s55 s54 s53 true), (Gk .geq s56 s55 0 s53 true), (Oy s57 s53 s56), (Om s58 s57), (Ga s59 11 s1 s58 true), (Gl s60 s59 s58 true), (Ga s61 2 s1 s58 true), (Ga s62 2 s61 s58 true), (Gl s63 s62 s58 true), (Gb .leq s64 s60 s63 s58 true), (Oy s65 s58 s64), (Om s66 s65), (Gm s67 s4 s66 true), (Gm s68 s67 s66 true), (Ga s69 11 s1 s68 false), (Gl s70 s69 s68 false), (Gk .eql s71 s70 0 s68 false), (Gz s72 s68 s71 s66 true), (Oy s73 s66 s72), (Om s2 s73)])
 .ret))))⟩
def c35 : AFunc :=
 ⟨16, [(.tmp s2)], (.seq (.ops [(OK s2 (.str []))])
 (.seq (.ops [(Om s3 s0), (Of s4 (qConv .u8 (.t s3))), (Om s5 s0), (Of s6 (qBin .shr (.t s5) (.c (.int .u64 8)))), (Of s7 (qConv .u8 (.t s6))), (Om s8 s0), (Of s9 (qBin .shr (.t s8) (.c (.int .u64 16)))), (Of s10 (qConv .u8 (.t s9))), (Om s11 s0), (Of s12 (qBin .shr (.t s11) (.c (.int .u64 24)))), (Of s13 (qConv .u8 (.t s12))), (Oq s14 (.alloc (aBsl 1 4 [(.int .u8 0)] [(0, (1, (.t s4))), (1, (1, (.t s7))), (2, (1, (.t s10))), (3, (1, (.t s13)))]))), (Og s15 (qB2s (.t s14))), (Om s2 s15)])
 .ret))⟩
def c36l0 : ACode :=
 (.seq (.seq (.ops [(Om s18 s5), (Ok .lss s19 s18 8)])
 (.cond (.t s19) .skip (.exit 2)))
 (.seq (.block 3 (.seq (.ops [(Om s22 s3), (Of s23 (qBin .rem (.t s22) (.c (.int .u32 2)))), (Of s24 (qBin .eql (.t s23) (.c (.int .u32 1))))])
 (.cond (.t s24) (.ops [(Om s25 s3), (Of s26 (qBin .quo (.t s25) (.c (.int .u32 2)))), (Of s27 (qBin .xor (.t s26) (.c (.int .u32 3988292384)))), (Om s3 s27)]) (.ops [(Om s28 s3), (Of s29 (qBin .quo (.t s28) (.c (.int .u32 2)))), (Om s3 s29)]))))
 (.ops [(Om s20 s5), (Ok .add s21 s20 1), (Om s5 s21)])))
def c36l1 : ACode :=
 (.seq (.seq (.ops [(Om s6 s4), (Om s7 s0), (Of s8 (qLenS (.t s7))), (Ob .lss s9 s6 s8)])
 (.cond (.t s9) .skip (.exit 0)))
 (.seq (.block 1 (.seq (.ops [(Om s12 s3), (Om s13 s0), (Om s14 s4), (Of s15 (qIdxS (.t s13) (.t s14))), (Of s16 (qConv .u32 (.t s15))), (Ob .xor s17 s12 s16), (Om s3 s17)])
 (.seq (.ops [(OK s5 (.int .i64 0))])
 (.block 2 (.loop c36l0)))))
 (.ops [(Om s10 s4), (Ok .add s11 s10 1), (Om s4 s11)])))
def c36 : AFunc :=
 ⟨32, [(.tmp s2)], (.seq (.ops [(OK s2 (.int .u32 0))])
 (.seq (.ops [(OK s3 (.int .u32 4294967295))])
 (.seq (.seq (.ops [(OK s4 (.int .i64 0))])
 (.block 0 (.loop c36l1)))
 (.seq (.ops [(Om s30 s3), (Of s31 (qBin .xor (.t s30) (.c (.int .u32 4294967295)))), (Om s2 s31)])
 .ret))))⟩
def c37 : AFunc :=
 ⟨25, [(.tmp s2)], (.seq (.ops [(OK s2 (.int .u32 0))])
 (.seq (.draw (.calm (Om s3 s0) (.calm (Of s4 (qIaddrS 1 (.t s3) (.c (.int .i64 0)))) (.calm (Ol s5 s4) (.calm (Of s6 (qConv .u32 (.t s5))) (.calm (Om s7 s0) (.calm (Of s8 (qIaddrS 1 (.t s7) (.c (.int .i64 1)))) (.calm (Ol s9 s8) (.calm (Of s10 (qConv .u32 (.t s9))) (.calm (Of s11 (qBin .shl (.t s10) (.c (.int .u64 8)))) (.calm (Ob .or s12 s6 s11) (.calm (Om s13 s0) (.calm (Of s14 (qIaddrS 1 (.t s13) (.c (.int .i64 2)))) (.calm (Ol s15 s14) (.calm (Of s16 (qConv .u32 (.t s15))) (.calm (Of s17 (qBin .shl (.t s16) (.c (.int .u64 16)))) (.calm (Ob .or s18 s12 s17) (.calm (Om s19 s0) (.calm (Of s20 (qIaddrS 1 (.t s19) (.c (.int .i64 3)))) (.calm (Ol s21 s20) (.calm (Of s22 (qConv .u32 (.t s21))) (.calm (Of s23 (qBin .shl (.t s22) (.c (.int .u64 24)))) .fin))))))))))))))))))))) [(Ob .or s24 s18 s23), (Om s2 s24)])
 .ret))⟩
def c38 : AFunc :=
 ⟨30, [(.tmp s4)], (.seq (.ops [(OK s4 (.int .i64 0))])
 (.seq (.draw (.calm (Om s5 s0) (.calm (Om s6 s1) (.calm (Of s7 (qIdxS (.t s5) (.t s6))) (.calm (Of s8 (qConv .i64 (.t s7))) (.calm (Om s9 s0) (.calm (Om s10 s1) (.calm (Ok .add s11 s10 1) (.calm (Of s12 (qIdxS (.t s9) (.t s11))) (.calm (Of s13 (qConv .i64 (.t s12))) (.calm (Of s14 (qBin .shl (.t s13) (.c (.int .u64 8)))) (.calm (Ob .add s15 s8 s14) (.calm (Om s16 s0) (.calm (Om s17 s1) (.calm (Ok .add s18 s17 2) (.calm (Of s19 (qIdxS (.t s16) (.t s18))) (.calm (Of s20 (qConv .i64 (.t s19))) (.calm (Of s21 (qBin .shl (.t s20) (.c (.int .u64 16)))) (.calm (Ob .add s22 s15 s21) (.calm (Om s23 s0) (.calm (Om s24 s1) (.calm (Ok .add s25 s24 3) (.calm (Of s26 (qIdxS (.t s23) (.t s25))) (.calm (Of s27 (qConv .i64 (.t s26))) (.calm (Of s28 (qBin .shl (.t s27) (.c (.int .u64 24)))) .fin)))))))))))))))))))))))) [(Ob .add s29 s22 s28), (Om s4 s29)])
 .ret))⟩
def c39l0 : ACode :=
 (.seq (.ops [(Oq s15 (.next (.t s14))), (Oe s16 0 s15)])
 (.seq (.cond (.t s16) .skip (.exit 0))
 (.block 1 (.seq (.ops [(Og s17 (qEntry (.t s14))), (Oe s18 1 s17), (Oq s6 (.alloc (aBox (.c (.agg Z12))))), (On (.loud (lSto 12 (.t s6) (.t s18))))])
 (.seq (.ops [(Om s19 s3), (Oa s20 5 s6), (Ol s21 s20), (Of s22 (qMaxi [(.t s19), (.t s21)])), (Om s3 s22)])
 (.draw (.calm (Ol s23 s4) (.calm (OL s24 12 s6) (.last ⟨(Oc s25 41 [(.t s24)]), [(Ol s23 s4)]⟩ (.calm (Og s26 (qLook K12z false (.int .i64 0) (.t s23) (.t s25))) (.calm (Ok .add s27 s26 1) (.last ⟨(Oq s28 (.loud (lMent K12z (.int .i64 0) (.t s23) (.t s25)))), [(Og s26 (qLook K12z false (.int .i64 0) (.t s23) (.t s25)))]⟩ (.calm (Oe s29 1 s28) .fin))))))) [(On (.loud (lEsto (.t s23) (.t s29) (.t s27))))]))))))
def c39l1 : ACode :=
 (.seq (.ops [(Ob .lss s36 s35 s34)])
 (.seq (.cond (.t s36) .skip (.exit 2))
 (.seq (.block 3 (.seq (.ops [(Of s37 (qIaddrS 1 (.t s33) (.t s35))), (Ol s38 s37), (Om s10 s38)])
 (.seq (.ops [(Om s39 s0), (Om s40 s10), (Og s41 (qLook (.one .int) false (.agg Z12) (.t s39) (.t s40))), (Oq s11 (.alloc (aBox (.c (.agg Z12))))), (On (.loud (lSto 12 (.t s11) (.t s41))))])
 (.seq (.draw (.calm (Oa s42 5 s11) (.calm (Ol s43 s42) (.calm (Om s44 s3) (.calm (Ob .eql s45 s43 s44) (.calm (Om s46 s45) (.calm (Ga s47 5 s8 s46 true) (.calm (Gl s48 s47 s46 true) (.calm (Gk .eql s49 s48 0 s46 true) (.calm (Gm s50 s49 s46 true) (.calm (Gm s51 s7 s50 false) (.calm (GL s52 12 s11 s50 false) (.calm (Gm s54 s7 s50 false) (.calm (GL s55 12 s8 s50 false) (.last ⟨(Gq s53 (.call (.t s51) [(.t s52)]) s50 false), [(GL s55 12 s8 s50 false)]⟩ .fin)))))))))))))) [(Gq s56 (.call (.t s54) [(.t s55)]) s50 false), (Gb .gtr s57 s53 s56 s50 false), (Gz s58 s50 s57 s46 true), (Oy s59 s46 s58)])
 (.cond (.t s59) (.ops [(OL s60 12 s11), (On (.loud (lSto 12 (.t s8) (.t s60))))]) .skip)))))
 (.ops [(Ok .add s61 s35 1), (Om s35 s61)]))))
def c39 : AFunc :=
 ⟨63, [(.cellN 12 s2)], (.seq (.ops [(Oq s2 (.alloc (aBox (.c (.agg Z12)))))])
 (.seq (.ops [(OK s3 (.int .i64 0))])
 (.seq (.ops [(Oq s12 (.alloc aMkm)), (Oq s4 (.alloc (aBox (.c .nilmap)))), (On (.loud (lSto 1 (.t s4) (.t s12))))])
 (.seq (.seq (.ops [(Om s13 s0), (Oq s14 (.loud (lRng (.t s13))))])
 (.block 0 (.loop c39l0)))
 (.seq (.ops [(Of s30 (qMkf (.func 42) [] [(.t s4)])), (Om s7 s30)])
 (.seq (.ops [(Oq s8 (.alloc (aBox (.c (.agg Z12)))))])
 (.seq (.seq (.ops [(Om s31 s0), (Oc s32 46 [(.t s31)]), (Oc s33 45 [(.t s32)]), (Of s34 (qLenL (.t s33))), (OK s35 (.int .i64 0))])
 (.block 2 (.loop c39l1)))
 (.seq (.ops [(OL s62 12 s8), (On (.loud (lSto 12 (.t s2) (.t s62))))])
 .ret))))))))⟩
def c40 : AFunc :=
 ⟨28, [(.tmp s6)], (.seq (.ops [(Oq s4 (.alloc (aBox (.t s1)))), (Oq s5 (.alloc (aBox (.t s2)))), (OK s6 (.bool false))])
 (.seq (.ops [(Om s9 s0), (OL s10 12 s4), (Oc s11 47 [(.t s9), (.t s10)]), (Om s7 s11)])
 (.seq (.ops [(Om s12 s0), (OL s13 12 s5), (Oc s14 47 [(.t s12), (.t s13)]), (Om s8 s14)])
 (.seq (.seq (.ops [(Om s15 s7), (Om s16 s8), (Ob .neq s17 s15 s16)])
 (.cond (.t s17) (.seq (.ops [(Om s18 s7), (Om s19 s8), (Ob .gtr s20 s18 s19), (Om s6 s20)])
 .ret) .skip))
 (.seq (.ops [(OL s21 12 s4), (Oc s22 48 [(.t s21)]), (Om s23 s22), (GL s24 12 s5 s23 true), (Gq s25 (.call (.c (.func (.func 48) [] [])) [(.t s24)]) s23 true), (Gq s26 (.quiet false (qUn .not (.t s25))) s23 true), (Oy s27 s23 s26), (Om s6 s27)])
 .ret)))))⟩
def c41 : AFunc :=
 ⟨5, [(.cellN 12 s2)], (.seq (.ops [(Oq s1 (.alloc (aBox (.t s0)))), (Oq s2 (.alloc (aBox (.c (.agg Z12)))))])
 (.seq (.ops [(Oa s3 1 s1), (On (.loud (lSto 1 (.t s3) (.c (.int .i64 0)))))])
 (.seq (.ops [(OL s4 12 s1), (On (.loud (lSto 12 (.t s2) (.t s4))))])
 .ret)))⟩
def c42 : AFunc :=
 ⟨19, [(.tmp s3)], (.seq (.ops [(Oq s2 (.alloc (aBox (.t s0)))), (OK s3 (.int .i64 0))])
 (.seq (.draw (.calm (Ol s5 s1) (.calm (OL s6 12 s2) (.last ⟨(Oc s7 41 [(.t s6)]), [(Ol s5 s1)]⟩ .fin))) [(Og s8 (qLook K12z false (.int .i64 0) (.t s5) (.t s7))), (Of s9 (qBin .mul (.c (.int .i64 2)) (.t s8))), (Om s4 s9)])
 (.seq (.seq (.ops [(Oa s10 7 s2), (Oa s11 2 s2), (Oa s12 1 s11), (Ol s13 s12), (Og s14 (qSlcA 4 1 (.t s10) none (some (.t s13)) none)), (Oc s15 43 [(.t s14), (.c (.func (.func 44) [] []))])])
 (.cond (.t s15) (.ops [(Om s16 s4), (Ok .add s17 s16 1), (Om s4 s17)]) .skip))
 (.seq (.ops [(Om s18 s4), (Om s3 s18)])
 .ret))))⟩
def c43 : AFunc :=
 ⟨9, [(.tmp s4)], (.seq (.ops [(OK s4 (.bool false))])
 (.seq (.ops [(Om s5 s0), (Om s6 s1), (Oc s7 49 [(.t s5), (.t s6)]), (Ok .geq s8 s7 0), (Om s4 s8)])
 .ret))⟩
def c44 : AFunc :=
 ⟨5, [(.tmp s2)], (.seq (.ops [(OK s2 (.bool false))])
 (.seq (.ops [(Om s3 s0), (Ok .neq s4 s3 1), (Om s2 s4)])
 .ret))⟩
def c45 : AFunc :=
 ⟨9, [(.tmp s2)], (.seq (.ops [(OK s2 .nilslice)])
 (.seq (.ops [(Om s4 s0), (Oc s5 50 [(.t s4)]), (Om s3 s5)])
 (.seq (.ops [(Om s6 s3), (Oc s7 51 [(.t s6)])])
 (.seq (.ops [(Om s8 s3), (Om s2 s8)])
 .ret))))⟩
def c46 : AFunc :=
 ⟨4, [(.tmp s2)], (.seq (.ops [(Oq s1 (.alloc (aBox (.t s0)))), (OK s2 .nilfunc)])
 (.seq (.ops [(Of s3 (qMkf (.func 52) [] [(.t s1)])), (Om s2 s3)])
 .ret))⟩
def c47l0 : ACode :=
 (.seq (.seq (.ops [(Om s8 s6), (Om s9 s0), (Of s10 (qLenL (.t s9))), (Ob .lss s11 s8 s10)])
 (.cond (.t s11) .skip (.exit 0)))
 (.seq (.block 1 (.seq (.ops [(Om s14 s0), (Om s15 s6), (Of s16 (qIaddrS 12 (.t s14) (.t s15))), (OL s17 12 s16), (Oq s7 (.alloc (aBox (.c (.agg Z12))))), (On (.loud (lSto 12 (.t s7) (.t s17))))])
 (.seq (.ops [(Oa s18 1 s3), (Ol s19 s18), (Oa s20 1 s7), (On (.loud (lSto 1 (.t s20) (.t s19))))])
 (.seq (.ops [(OL s21 12 s7), (OL s22 12 s3), (Of s23 (qEqv false K12z (.t s21) (.t s22)))])
 (.cond (.t s23) (.ops [(Om s24 s5), (Ok .add s25 s24 1), (Om s5 s25)]) .skip)))))
 (.ops [(Om s12 s6), (Ok .add s13 s12 1), (Om s6 s13)])))
def c47 : AFunc :=
 ⟨27, [(.tmp s4)], (.seq (.ops [(Oq s3 (.alloc (aBox (.t s1)))), (OK s4 (.int .i64 0))])
 (.seq (.ops [(OK s5 (.int .i64 0))])
 (.seq (.seq (.ops [(OK s6 (.int .i64 0))])
 (.block 0 (.loop c47l0)))
 (.seq (.ops [(Om s26 s5), (Om s4 s26)])
 .ret))))⟩
def c48l0 : ACode :=
 (.seq (.seq (.ops [(Om s4 s3), (Oa s5 2 s1), (Oa s6 1 s5), (Ol s7 s6), (Ob .lss s8 s4 s7)])
 (.cond (.t s8) .skip (.exit 0)))
 (.seq (.block 1 (.seq (.ops [(Om s11 s3), (Oa s12 7 s1), (Of s13 (qIaddrA 4 1 (.t s12) (.t s11))), (Ol s14 s13), (Ok .neq s15 s14 1)])
 (.cond (.t s15) (.seq (.ops [(OK s2 (.bool true))])
 .ret) .skip)))
 (.ops [(Om s9 s3), (Ok .add s10 s9 1), (Om s3 s10)])))
def c48 : AFunc :=
 ⟨16, [(.tmp s2)], (.seq (.ops [(Oq s1 (.alloc (aBox (.t s0)))), (OK s2 (.bool false))])
 (.seq (.seq (.ops [(OK s3 (.int .i64 0))])
 (.block 0 (.loop c48l0)))
 (.seq (.ops [(OK s2 (.bool false))])
 .ret)))⟩
def c49l0 : ACode :=
 (.seq (.ops [(Ob .lss s9 s8 s7)])
 (.seq (.cond (.t s9) .skip (.exit 0))
 (.seq (.block 1 (.seq (.ops [(Om s10 s8), (Om s5 s10)])
 (.seq (.ops [(Om s11 s1), (Om s12 s0), (Om s13 s5), (Of s14 (qIaddrS 1 (.t s12) (.t s13))), (Ol s15 s14), (Oq s16 (.call (.t s11) [(.t s15)]))])
 (.cond (.t s16) (.seq (.ops [(Om s17 s5), (Om s4 s17)])
 .ret) .skip))))
 (.ops [(Ok .add s18 s8 1), (Om s8 s18)]))))
def c49 : AFunc :=
 ⟨19, [(.tmp s4)], (.seq (.ops [(OK s4 (.int .i64 0))])
 (.seq (.seq (.ops [(Om s6 s0), (Of s7 (qLenL (.t s6))), (OK s8 (.int .i64 0))])
 (.block 0 (.loop c49l0)))
 (.seq (.ops [(Of s4 (qMov (.c (.int .i64 (-1)))))])
 .ret)))⟩
def c50 : AFunc :=
 ⟨5, [(.tmp s2)], (.seq (.ops [(OK s2 .nilslice)])
 (.seq (.ops [(Om s3 s0), (Oc s4 53 [(.c .nilslice), (.t s3)]), (Om s2 s4)])
 .ret))⟩
def c52l0 : ACode :=
 (.seq (.ops [(Oq s6 (.next (.t s5))), (Oe s7 0 s6)])
 (.seq (.cond (.t s7) .skip (.exit 0))
 (.block 1 (.seq (.ops [(Og s8 (qEntry (.t s5))), (Oe s9 0 s8), (Om s3 s9)])
 (.seq (.ops [(Om s10 s0), (Om s11 s3), (Oq s12 (.call (.t s10) [(.t s11)])), (Ou s13 s12)])
 (.cond (.t s13) .ret .skip))))))
def c52 : AFunc :=
 ⟨14, [], (.seq (.ops [(Ol s4 s1), (Oq s5 (.loud (lRng (.t s4))))])
 (.block 0 (.loop c52l0)))⟩
def c53 : AFunc :=
 ⟨13, [(.tmp s4)], (.seq (.ops [(Oq s2 (.alloc (aBox (.t s0)))), (OK s4 .nilslice)])
 (.seq (.seq (.ops [(Om s6 s1)])
 (.block 0 (.rangeFunc (.t s6) [s7] (.ops [(Om s5 s7)]) (.block 1 (.ops [(Ol s8 s2), (Om s9 s5), (Oq s10 (.alloc (aBsl 1 1 [(.int .i64 0)] [(0, (1, (.t s9)))]))), (Oq s11 (.loud (lApp 1 8 (.t s8) (.t s10)))), (On (.loud (lSto 1 (.t s2) (.t s11))))])))))
 (.seq (.ops [(Ol s12 s2), (Om s4 s12)])
 .ret)))⟩
def ft : FT :=
 (.node none (.node none (.node none (.node none (.node (some c15) (.node (some c31) (.node none .leaf .leaf) .leaf) (.node (some c47) .leaf .leaf)) (.node (some c23) (.node (some c39) (.node none .leaf .leaf) .leaf) (.node none .leaf .leaf))) (.node none (.node (some c19) (.node (some c35) (.node none .leaf .leaf) .leaf) (.node none .leaf .leaf)) (.node (some c27) (.node (some c43) .leaf .leaf) (.node none .leaf .leaf)))) (.node none (.node (some c9) (.node (some c17) (.node (some c33) (.node none .leaf .leaf) .leaf) (.node (some c49) .leaf .leaf)) (.node (some c25) (.node (some c41) (.node none .leaf .leaf) .leaf) (.node none .leaf .leaf))) (.node (some c13) (.node (some c21) (.node (some c37) (.node none .leaf .leaf) .leaf) (.node (some c53) .leaf .leaf)) (.node (some c29) (.node (some c45) .leaf .leaf) (.node none .leaf .leaf))))) (.node none (.node none (.node none (.node (some c16) (.node (some c32) (.node none .leaf .leaf) .leaf) (.node (some c48) .leaf .leaf)) (.node (some c24) (.node (some c40) (.node none .leaf .leaf) .leaf) (.node none .leaf .leaf))) (.node (some c12) (.node (some c20) (.node (some c36) (.node none .leaf .leaf) .leaf) (.node (some c52) .leaf .leaf)) (.node (some c28) (.node (some c44) .leaf .leaf) (.node none .leaf .leaf)))) (.node none (.node none (.node (some c18) (.node (some c34) (.node none .leaf .leaf) .leaf) (.node (some c50) .leaf .leaf)) (.node (some c26) (.node (some c42) .leaf .leaf) (.node none .leaf .leaf))) (.node (some c14) (.node (some c22) (.node (some c38) (.node none .leaf .leaf) .leaf) (.node none .leaf .leaf)) (.node (some c30) (.node (some c46) .leaf .leaf) (.node none .leaf .leaf))))))
theorem ok9 : FOk Try.prog 9 c9 := FOk.mk Try.func9 (by kernel_rfl) (by kernel_rfl)
theorem ok12 : FOk Try.prog 12 c12 := FOk.mk Try.func12 (by kernel_rfl) (by kernel_rfl)
theorem ok13 : FOk Try.prog 13 c13 := FOk.mk Try.func13 (by kernel_rfl) (by kernel_rfl)
theorem ok14 : FOk Try.prog 14 c14 := FOk.mk Try.func14 (by kernel_rfl) (by kernel_rfl)
theorem ok15 : FOk Try.prog 15 c15 := FOk.mk Try.func15 (by kernel_rfl) (by kernel_rfl)
theorem ok16 : FOk Try.prog 16 c16 := FOk.mk Try.func16 (by kernel_rfl) (by kernel_rfl)
theorem ok17 : FOk Try.prog 17 c17 := FOk.mk Try.func17 (by kernel_rfl) (by kernel_rfl)
theorem ok18 : FOk Try.prog 18 c18 := FOk.mk Try.func18 (by kernel_rfl) (by kernel_rfl)
theorem ok19 : FOk Try.prog 19 c19 := FOk.mk Try.func19 (by kernel_rfl) (by kernel_rfl)
theorem ok20 : FOk Try.prog 20 c20 := FOk.mk Try.func20 (by kernel_rfl) (by kernel_rfl)
theorem ok21 : FOk Try.prog 21 c21 := FOk.mk Try.func21 (by kernel_rfl) (by kernel_rfl)
theorem ok22 : FOk Try.prog 22 c22 := FOk.mk Try.func22 (by kernel_rfl) (by kernel_rfl)
theorem ok23 : FOk Try.prog 23 c23 := FOk.mk Try.func23 (by kernel_rfl) (by kernel_rfl)
theorem ok24 : FOk Try.prog 24 c24 := FOk.mk Try.func24 (by kernel_rfl) (by kernel_rfl)
theorem ok25 : FOk Try.prog 25 c25 := FOk.mk Try.func25 (by kernel_rfl) (by kernel_rfl)
theorem ok26 : FOk Try.prog 26 c26 := FOk.mk Try.func26 (by kernel_rfl) (by kernel_rfl)
theorem ok27 : FOk Try.prog 27 c27 := FOk.mk Try.func27 (by kernel_rfl) (by kernel_rfl)
theorem ok28 : FOk Try.prog 28 c28 := FOk.mk Try.func28 (by kernel_rfl) (by kernel_rfl)
theorem ok29 : FOk Try.prog 29 c29 := FOk.mk Try.func29 (by kernel_rfl) (by kernel_rfl)
theorem ok30 : FOk Try.prog 30 c30 := FOk.mk Try.func30 (by kernel_rfl) (by kernel_rfl)
theorem ok31 : FOk Try.prog 31 c31 := FOk.mk Try.func31 (by kernel_rfl) (by kernel_rfl)
theorem ok32 : FOk Try.prog 32 c32 := FOk.mk Try.func32 (by kernel_rfl) (by kernel_rfl)
theorem ok33 : FOk Try.prog 33 c33 := FOk.mk Try.func33 (by kernel_rfl) (by kernel_rfl)
theorem ok34 : FOk Try.prog 34 c34 := FOk.mk Try.func34 (by kernel_rfl) (by kernel_rfl)
theorem ok35 : FOk Try.prog 35 c35 := FOk.mk Try.func35 (by kernel_rfl) (by kernel_rfl)
theorem ok36 : FOk Try.prog 36 c36 := FOk.mk Try.func36 (by kernel_rfl) (by kernel_rfl)
theorem ok37 : FOk Try.prog 37 c37 := FOk.mk Try.func37 (by kernel_rfl) (by kernel_rfl)
theorem ok38 : FOk Try.prog 38 c38 := FOk.mk Try.func38 (by kernel_rfl) (by kernel_rfl)
theorem ok39 : FOk Try.prog 39 c39 := FOk.mk Try.func39 (by kernel_rfl) (by kernel_rfl)
theorem ok40 : FOk Try.prog 40 c40 := FOk.mk Try.func40 (by kernel_rfl) (by kernel_rfl)
theorem ok41 : FOk Try.prog 41 c41 := FOk.mk Try.func41 (by kernel_rfl) (by kernel_rfl)
theorem ok42 : FOk Try.prog 42 c42 := FOk.mk Try.func42 (by kernel_rfl) (by kernel_rfl)
theorem ok43 : FOk Try.prog 43 c43 := FOk.mk Try.func43 (by kernel_rfl) (by kernel_rfl)
theorem ok44 : FOk Try.prog 44 c44 := FOk.mk Try.func44 (by kernel_rfl) (by kernel_rfl)
theorem ok45 : FOk Try.prog 45 c45 := FOk.mk Try.func45 (by kernel_rfl) (by kernel_rfl)
theorem ok46 : FOk Try.prog 46 c46 := FOk.mk Try.func46 (by kernel_rfl) (by kernel_rfl)
theorem ok47 : FOk Try.prog 47 c47 := FOk.mk Try.func47 (by kernel_rfl) (by kernel_rfl)
theorem ok48 : FOk Try.prog 48 c48 := FOk.mk Try.func48 (by kernel_rfl) (by kernel_rfl)
theorem ok49 : FOk Try.prog 49 c49 := FOk.mk Try.func49 (by kernel_rfl) (by kernel_rfl)
theorem ok50 : FOk Try.prog 50 c50 := FOk.mk Try.func50 (by kernel_rfl) (by kernel_rfl)
theorem ok52 : FOk Try.prog 52 c52 := FOk.mk Try.func52 (by kernel_rfl) (by kernel_rfl)
theorem ok53 : FOk Try.prog 53 c53 := FOk.mk Try.func53 (by kernel_rfl) (by kernel_rfl)
theorem ftOk : ft.Ok Try.prog 1 0 :=
 ⟨trivial, ⟨trivial, ⟨trivial, ⟨trivial, ⟨ok15, ⟨ok31, ⟨trivial, trivial, trivial⟩, trivial⟩, ⟨ok47, trivial, trivial⟩⟩, ⟨ok23, ⟨ok39, ⟨trivial, trivial, trivial⟩, trivial⟩, ⟨trivial, trivial, trivial⟩⟩⟩, ⟨trivial, ⟨ok19, ⟨ok35, ⟨trivial, trivial, trivial⟩, trivial⟩, ⟨trivial, trivial, trivial⟩⟩, ⟨ok27, ⟨ok43, trivial, trivial⟩, ⟨trivial, trivial, trivial⟩⟩⟩⟩, ⟨trivial, ⟨ok9, ⟨ok17, ⟨ok33, ⟨trivial, trivial, trivial⟩, trivial⟩, ⟨ok49, trivial, trivial⟩⟩, ⟨ok25, ⟨ok41, ⟨trivial, trivial, trivial⟩, trivial⟩, ⟨trivial, trivial, trivial⟩⟩⟩, ⟨ok13, ⟨ok21, ⟨ok37, ⟨trivial, trivial, trivial⟩, trivial⟩, ⟨ok53, trivial, trivial⟩⟩, ⟨ok29, ⟨ok45, trivial, trivial⟩, ⟨trivial, trivial, trivial⟩⟩⟩⟩⟩, ⟨trivial, ⟨trivial, ⟨trivial, ⟨ok16, ⟨ok32, ⟨trivial, trivial, trivial⟩, trivial⟩, ⟨ok48, trivial, trivial⟩⟩, ⟨ok24, ⟨ok40, ⟨trivial, trivial, trivial⟩, trivial⟩, ⟨trivial, trivial, trivial⟩⟩⟩, ⟨ok12, ⟨ok20, ⟨ok36, ⟨trivial, trivial, trivial⟩, trivial⟩, ⟨ok52, trivial, trivial⟩⟩, ⟨ok28, ⟨ok44, trivial, trivial⟩, ⟨trivial, trivial, trivial⟩⟩⟩⟩, ⟨trivial, ⟨trivial, ⟨ok18, ⟨ok34, ⟨trivial, trivial, trivial⟩, trivial⟩, ⟨ok50, trivial, trivial⟩⟩, ⟨ok26, ⟨ok42, trivial, trivial⟩, ⟨trivial, trivial, trivial⟩⟩⟩, ⟨ok14, ⟨ok22, ⟨ok38, ⟨trivial, trivial, trivial⟩, trivial⟩, ⟨trivial, trivial, trivial⟩⟩, ⟨ok30, ⟨ok46, trivial, trivial⟩, ⟨trivial, trivial, trivial⟩⟩⟩⟩⟩⟩
end Go.Proofs.Ythmbmcpjakbepaa
