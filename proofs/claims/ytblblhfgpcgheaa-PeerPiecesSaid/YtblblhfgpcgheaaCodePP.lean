/- The code of the functions that the statement reaches, as the abstract machine has it, and that it is the program's: part all. No condition. -/
import Derived.Test.YtblblhfgpcgheaaProg
import Derived.Test.YtblblhfgpcgheaaAMb
set_option maxRecDepth 100000
namespace Go.Proofs.Ytblblhfgpcgheaa
open Go Go.AM
abbrev Om (a b : Sl) : AOper := ⟨some a, .quiet false (qMov (.t b)), none⟩
abbrev Ol (a b : Sl) : AOper := ⟨some a, .quiet true (qLoad1 (.t b)), none⟩
abbrev Oe (a : Sl) (i : Nat) (b : Sl) : AOper := ⟨some a, .quiet false (qExt i (.t b)), none⟩
abbrev Ob (o : BinOp) (a b c : Sl) : AOper := ⟨some a, .quiet false (qBin o (.t b) (.t c)), none⟩
abbrev Of (a : Sl) (q : Slots → Mem → Option V) : AOper := ⟨some a, .quiet false q, none⟩
abbrev Og (a : Sl) (q : Slots → Mem → Option V) : AOper := ⟨some a, .quiet true q, none⟩
abbrev Oc (a : Sl) (n : Nat) (l : List Opd) : AOper := ⟨some a, .call (.c (.func (.func n) [] [])) l, none⟩
abbrev Oq (a : Sl) (o : AOp) : AOper := ⟨some a, o, none⟩
abbrev On (o : AOp) : AOper := ⟨none, o, none⟩
abbrev Gq (a : Sl) (o : AOp) (g : Sl) (b : Bool) : AOper := ⟨some a, o, some (g, b)⟩
abbrev Oa (a : Sl) (i : Nat) (b : Sl) : AOper := ⟨some a, .quiet false (qFaddr i (.t b)), none⟩
abbrev Ok (o : BinOp) (a b : Sl) (k : Int) : AOper := ⟨some a, .quiet false (qBin o (.t b) (.c (.int .i64 k))), none⟩
abbrev Ou (a b : Sl) : AOper := ⟨some a, .quiet false (qUn .not (.t b)), none⟩
abbrev Oy (a b c : Sl) : AOper := ⟨some a, .quiet false (qPick (.t b) (.t c) (.c (.bool false))), none⟩
abbrev Oz (a b c : Sl) : AOper := ⟨some a, .quiet false (qPick (.t b) (.c (.bool true)) (.t c)), none⟩
abbrev OL (a : Sl) (n : Nat) (b : Sl) : AOper := ⟨some a, .quiet true (qLoadN n (.t b)), none⟩
abbrev OK (a : Sl) (v : V) : AOper := ⟨some a, .quiet false (qMov (.c v)), none⟩
abbrev Gm (a b g : Sl) (h : Bool) : AOper := ⟨some a, .quiet false (qMov (.t b)), some (g, h)⟩
abbrev Ga (a : Sl) (i : Nat) (b g : Sl) (h : Bool) : AOper := ⟨some a, .quiet false (qFaddr i (.t b)), some (g, h)⟩
abbrev Gl (a b g : Sl) (h : Bool) : AOper := ⟨some a, .quiet true (qLoad1 (.t b)), some (g, h)⟩
abbrev GL (a : Sl) (n : Nat) (b g : Sl) (h : Bool) : AOper := ⟨some a, .quiet true (qLoadN n (.t b)), some (g, h)⟩
abbrev Gk (o : BinOp) (a b : Sl) (k : Int) (g : Sl) (h : Bool) : AOper := ⟨some a, .quiet false (qBin o (.t b) (.c (.int .i64 k))), some (g, h)⟩
abbrev Gb (o : BinOp) (a b c g : Sl) (h : Bool) : AOper := ⟨some a, .quiet false (qBin o (.t b) (.t c)), some (g, h)⟩
abbrev Gy (a b c g : Sl) (h : Bool) : AOper := ⟨some a, .quiet false (qPick (.t b) (.t c) (.c (.bool false))), some (g, h)⟩
def c3l0 : ACode :=
 (.seq (.seq (.ops [(Om s41 s10), (Om s42 s2), (Of s43 (qLenL (.t s42))), (Ob .lss s44 s41 s43)])
 (.cond (.t s44) .skip (.exit 0)))
 (.seq (.block 1 (.ops [(Om s47 s9), (Om s48 s2), (Om s49 s10), (Of s50 (qIaddrS 10 (.t s48) (.t s49))), (OL s51 10 s50), (Oc s52 6 [(.t s51)]), (Ob .add s53 s47 s52), (Om s9 s53)]))
 (.ops [(Om s45 s10), (Ok .add s46 s45 1), (Om s10 s46)])))
def c3l1 : ACode :=
 (.seq (.ops [(Ob .lss s73 s72 s71)])
 (.seq (.cond (.t s73) .skip (.exit 2))
 (.seq (.block 3 (.seq (.ops [(Of s74 (qIaddrS 1 (.t s70) (.t s72))), (Ol s75 s74), (Om s14 s75)])
 (.ops [(Om s76 s12), (Om s77 s14), (Oq s78 (.alloc (aBsl 1 1 [(.int .u8 0)] [(0, (1, (.t s77)))]))), (Og s79 (qB2s (.t s78))), (Oc s80 8 [(.t s76), (.t s79)])])))
 (.ops [(Ok .add s81 s72 1), (Om s72 s81)]))))
def c3l2 : ACode :=
 (.seq (.seq (.ops [(Om s82 s15), (Om s83 s1), (Of s84 (qLenL (.t s83))), (Ob .lss s85 s82 s84), (Om s86 s85), (Gm s87 s15 s86 true), (Gk .lss s88 s87 8 s86 true), (Oy s89 s86 s88)])
 (.cond (.t s89) .skip (.exit 4)))
 (.seq (.block 5 (.seq (.draw (.calm (Om s92 s1) (.calm (Om s93 s15) (.calm (Of s94 (qIaddrS 10 (.t s92) (.t s93))) (.calm (Oa s95 2 s94) (.calm (Ol s96 s95) (.calm (Of s97 (qConv .u16 (.t s96))) (.calm (Om s98 s1) (.calm (Om s99 s15) (.calm (Of s100 (qIaddrS 10 (.t s98) (.t s99))) (.calm (Oa s101 7 s100) (.calm (Ol s102 s101) (.calm (Om s103 s1) (.calm (Om s104 s15) (.calm (Of s105 (qIaddrS 10 (.t s103) (.t s104))) (.calm (Oa s106 4 s105) (.calm (Ol s107 s106) (.calm (Om s108 s1) (.calm (Om s109 s15) (.calm (Of s110 (qIaddrS 10 (.t s108) (.t s109))) (.calm (Oa s111 8 s110) (.calm (Ol s112 s111) (.calm (Of s113 (qBld [(.int .u16 0), (.int .u16 0), (.int .u64 0), (.int .u64 0), (.int .u32 0), (.str [])] [(1, (1, (.t s97))), (3, (1, (.t s102))), (4, (1, (.t s107))), (5, (1, (.t s112)))])) (.calm (Oq s16 (.alloc (aBox (.c (.agg [(.int .u16 0), (.int .u16 0), (.int .u64 0), (.int .u64 0), (.int .u32 0), (.str [])]))))) .fin))))))))))))))))))))))) [(On (.loud (lSto 6 (.t s16) (.t s113))))])
 (.seq (.ops [(Om s115 s11), (OL s116 6 s16), (Oc s117 11 [(.t s115), (.t s116)]), (Om s114 s117), (Oe s118 0 s114), (Oe s119 1 s114), (Om s17 s118), (Om s18 s119)])
 (.seq (.ops [(Om s121 s12), (OL s122 6 s16), (Oc s123 11 [(.t s121), (.t s122)]), (Om s120 s123), (Oe s124 0 s120), (Oe s125 1 s120), (Om s19 s124), (Om s20 s125)])
 (.seq (.ops [(Om s126 s17), (Om s127 s19), (Ob .neq s128 s126 s127), (Om s129 s128), (Gm s130 s18 s129 false), (Gm s131 s20 s129 false), (Gb .neq s132 s130 s131 s129 false), (Oz s133 s129 s132)])
 (.cond (.t s133) (.seq (.ops [(OK s8 (.bool false))])
 .ret) .skip))))))
 (.ops [(Om s90 s15), (Ok .add s91 s90 1), (Om s15 s91)])))
def c3l3 : ACode :=
 (.seq (.seq (.ops [(Om s137 s21), (Om s138 s9), (Of s139 (qLenS (.t s138))), (Ob .lss s140 s137 s139)])
 (.cond (.t s140) .skip (.exit 6)))
 (.seq (.block 7 (.seq (.ops [(OK s23 (.int .i64 1))])
 (.seq (.seq (.ops [(Om s143 s22), (Om s144 s3), (Of s145 (qLenL (.t s144))), (Ob .lss s146 s143 s145)])
 (.cond (.t s146) (.ops [(Om s147 s3), (Om s148 s22), (Of s149 (qIaddrS 1 (.t s147) (.t s148))), (Ol s150 s149), (Of s151 (qConv .i64 (.t s150))), (Of s152 (qBin .add (.c (.int .i64 1)) (.t s151))), (Om s23 s152)]) .skip))
 (.seq (.ops [(Om s153 s9), (Of s154 (qLenS (.t s153))), (Om s155 s21), (Om s156 s23), (Ob .add s157 s155 s156), (Of s158 (qMini [(.t s154), (.t s157)])), (Om s24 s158)])
 (.seq (.ops [(Om s159 s12), (Om s160 s9), (Om s161 s21), (Om s162 s24), (Of s163 (qSlcStr (.t s160) (some (.t s161)) (some (.t s162)))), (Oc s164 8 [(.t s159), (.t s163)])])
 (.ops [(Om s165 s24), (Om s21 s165)]))))))
 (.ops [(Om s141 s22), (Ok .add s142 s141 1), (Om s22 s142)])))
def c3l4 : ACode :=
 (.seq (.seq (.ops [(Om s175 s27), (Om s176 s25), (Of s177 (qLenL (.t s176))), (Ob .lss s178 s175 s177)])
 (.cond (.t s178) .skip (.exit 8)))
 (.seq (.block 9 (.seq (.draw (.calm (Om s181 s25) (.calm (Om s182 s27) (.calm (Of s183 (qIaddrS 3 (.t s181) (.t s182))) (.calm (OL s184 3 s183) (.calm (Om s185 s26) (.calm (Om s186 s27) (.calm (Of s187 (qIaddrS 3 (.t s185) (.t s186))) (.calm (OL s188 3 s187) .fin)))))))) [(Of s189 (qEqv true (.many [.int, .int, .str]) (.t s184) (.t s188)))])
 (.cond (.t s189) (.seq (.ops [(OK s8 (.bool false))])
 .ret) .skip)))
 (.ops [(Om s179 s27), (Ok .add s180 s179 1), (Om s27 s180)])))
def c3 : AFunc :=
 ⟨217, [(.tmp s8)], (.seq (.ops [(OK s8 (.bool false))])
 (.seq (.seq (.ops [(Oc s28 4 []), (Ou s29 s28)])
 (.cond (.t s29) (.seq (.ops [(OK s8 (.bool false))])
 .ret) .skip))
 (.seq (.seq (.ops [(Om s30 s1), (Oc s31 5 [(.t s30)]), (Om s32 s31), (Gm s33 s2 s32 false), (Gq s34 (.call (.c (.func (.func 5) [] [])) [(.t s33)]) s32 false), (Oz s35 s32 s34), (Om s36 s35), (Gm s37 s3 s36 false), (Gq s38 (.quiet false (qLenL (.t s37))) s36 false), (Gk .gtr s39 s38 200 s36 false), (Oz s40 s36 s39)])
 (.cond (.t s40) (.seq (.ops [(OK s8 (.bool true))])
 .ret) .skip))
 (.seq (.ops [(OK s9 (.str []))])
 (.seq (.seq (.ops [(OK s10 (.int .i64 0))])
 (.block 0 (.loop c3l0)))
 (.seq (.ops [(Om s54 s0), (Oc s55 7 [(.c (.str [97])), (.t s54)]), (Om s11 s55)])
 (.seq (.ops [(Om s56 s0), (Oc s57 7 [(.c (.str [97])), (.t s56)]), (Om s12 s57)])
 (.seq (.ops [(Om s58 s11), (Oc s59 9 []), (Oc s60 10 [(.c (.int .u64 8)), (.c (.int .u64 1)), (.c (.str []))]), (Ob .add s61 s59 s60), (Oc s62 10 [(.c (.int .u64 7)), (.c (.int .u64 1)), (.c (.str []))]), (Ob .add s63 s61 s62), (Oc s64 8 [(.t s58), (.t s63)])])
 (.seq (.seq (.ops [(Oc s65 9 []), (Oc s66 10 [(.c (.int .u64 8)), (.c (.int .u64 1)), (.c (.str []))]), (Ob .add s67 s65 s66), (Oc s68 10 [(.c (.int .u64 7)), (.c (.int .u64 1)), (.c (.str []))]), (Ob .add s69 s67 s68), (Oq s70 (.alloc (aS2b (.t s69)))), (Of s71 (qLenL (.t s70))), (OK s72 (.int .i64 0))])
 (.block 2 (.loop c3l1)))
 (.seq (.seq (.ops [(OK s15 (.int .i64 0))])
 (.block 4 (.loop c3l2)))
 (.seq (.ops [(Om s134 s11), (Om s135 s9), (Oc s136 8 [(.t s134), (.t s135)])])
 (.seq (.ops [(OK s21 (.int .i64 0))])
 (.seq (.seq (.ops [(OK s22 (.int .i64 0))])
 (.block 6 (.loop c3l3)))
 (.seq (.ops [(Om s166 s11), (Oc s167 12 [(.t s166)]), (Om s168 s12), (Oc s169 12 [(.t s168)]), (Om s25 s167), (Om s26 s169)])
 (.seq (.seq (.ops [(Om s170 s25), (Of s171 (qLenL (.t s170))), (Om s172 s26), (Of s173 (qLenL (.t s172))), (Ob .neq s174 s171 s173)])
 (.cond (.t s174) (.seq (.ops [(OK s8 (.bool false))])
 .ret) .skip))
 (.seq (.seq (.ops [(OK s27 (.int .i64 0))])
 (.block 8 (.loop c3l4)))
 (.seq (.ops [(Om s190 s11), (Oc s191 13 [(.t s190)]), (Om s192 s12), (Oc s193 13 [(.t s192)]), (Ob .eql s194 s191 s193), (Om s195 s194), (Gm s196 s11 s195 true), (Gq s197 (.call (.c (.func (.func 14) [] [])) [(.t s196)]) s195 true), (Oy s198 s195 s197), (Om s199 s198), (Gm s200 s12 s199 true), (Gq s201 (.call (.c (.func (.func 14) [] [])) [(.t s200)]) s199 true), (Oy s202 s199 s201), (Om s203 s202), (Gm s204 s11 s203 true), (Gq s205 (.call (.c (.func (.func 15) [] [])) [(.t s204)]) s203 true), (Gm s206 s12 s203 true), (Gq s207 (.call (.c (.func (.func 15) [] [])) [(.t s206)]) s203 true), (Gq s208 (.quiet false (qEqv false (.one .bool) (.t s205) (.t s207))) s203 true), (Oy s209 s203 s208), (Om s210 s209), (Gm s211 s11 s210 true), (Gq s212 (.call (.c (.func (.func 16) [] [])) [(.t s211)]) s210 true), (Gm s213 s12 s210 true), (Gq s214 (.call (.c (.func (.func 16) [] [])) [(.t s213)]) s210 true), (Gb .eql s215 s212 s214 s210 true), (Oy s216 s210 s215), (Om s8 s216)])
 .ret)))))))))))))))))⟩
def c4 : AFunc :=
 ⟨54, [(.tmp s0)], (.seq (.ops [(OK s0 (.bool false))])
 (.seq (.ops [(Oc s6 7 [(.c (.str [97])), (.c (.bool false))]), (Om s1 s6)])
 (.seq (.ops [(Om s7 s1), (Oc s8 9 []), (Oc s9 8 [(.t s7), (.t s8)])])
 (.seq (.ops [(Om s10 s1), (Oc s11 13 [(.t s10)]), (Om s2 s11)])
 (.seq (.ops [(Om s12 s1), (Oc s13 10 [(.c (.int .u64 7)), (.c (.int .u64 1)), (.c (.str []))]), (Oc s14 8 [(.t s12), (.t s13)])])
 (.seq (.ops [(Om s16 s1), (Of s17 (qBld [(.int .u16 0), (.int .u16 0), (.int .u64 0), (.int .u64 0), (.int .u32 0), (.str [])] [(1, (1, (.c (.int .u16 0)))), (4, (1, (.c (.int .u32 64))))])), (Oc s18 11 [(.t s16), (.t s17)]), (Om s15 s18), (Oe s19 0 s15), (Oe s20 1 s15), (Om s3 s19), (Om s4 s20)])
 (.seq (.ops [(Om s21 s1), (Oc s22 18 [(.c (.str [120])), (.c (.int .i64 64))]), (Oc s23 17 [(.c (.int .u64 0)), (.c (.int .u64 1)), (.t s22)]), (Oc s24 8 [(.t s21), (.t s23)])])
 (.seq (.ops [(Om s25 s1), (Oc s26 12 [(.t s25)]), (Om s5 s26)])
 (.seq (.draw (.calm (Om s27 s2) (.calm (Of s28 (qBin .eql (.t s27) (.c (.str [0, 0, 0, 3, 73, 72, 65, 86, 69, 79, 80, 84, 0, 0, 0, 7, 0, 0, 0, 7, 0, 0, 0, 1, 97, 0, 0])))) (.calm (Om s29 s28) (.calm (Gm s30 s1 s29 true) (.last ⟨(Gq s31 (.call (.c (.func (.func 14) [] [])) [(.t s30)]) s29 true), []⟩ (.calm (Oy s32 s29 s31) (.calm (Om s33 s32) (.calm (Gm s34 s3 s33 true) (.calm (Gq s35 (.quiet false (qBin .eql (.t s34) (.c (.int .u64 1)))) s33 true) (.calm (Oy s36 s33 s35) (.calm (Om s37 s36) (.calm (Gm s38 s4 s37 true) (.calm (Gk .eql s39 s38 0 s37 true) (.calm (Oy s40 s37 s39) (.calm (Om s41 s40) (.calm (Gm s42 s5 s41 true) (.calm (Gq s43 (.quiet false (qLenL (.t s42))) s41 true) (.calm (Gk .eql s44 s43 1 s41 true) (.calm (Oy s45 s41 s44) (.calm (Om s46 s45) (.calm (Gm s47 s5 s46 true) (.calm (Gq s48 (.quiet false (qIaddrS 3 (.t s47) (.c (.int .i64 0)))) s46 true) (.calm (GL s49 3 s48 s46 true) (.last ⟨(Gq s50 (.call (.c (.func (.func 18) [] [])) [(.c (.str [120])), (.c (.int .i64 64))]) s46 true), [(GL s49 3 s48 s46 true)]⟩ (.calm (Gq s51 (.quiet false (qBld [(.int .u32 0), (.int .u64 0), (.str [])] [(1, (1, (.c (.int .u64 1)))), (2, (1, (.t s50)))])) s46 true) .fin))))))))))))))))))))))))) [(Gq s52 (.quiet false (qEqv false (.many [.int, .int, .str]) (.t s49) (.t s51))) s46 true), (Oy s53 s46 s52), (Om s0 s53)])
 .ret)))))))))⟩
def c5l0 : ACode :=
 (.seq (.seq (.ops [(Om s5 s4), (Om s6 s0), (Of s7 (qLenL (.t s6))), (Ob .lss s8 s5 s7), (Om s9 s8), (Gm s10 s4 s9 true), (Gk .leq s11 s10 100 s9 true), (Oy s12 s9 s11)])
 (.cond (.t s12) .skip (.exit 0)))
 (.seq (.block 1 (.ops [(Om s15 s3), (Om s16 s0), (Om s17 s4), (Of s18 (qIaddrS 10 (.t s16) (.t s17))), (Oa s19 8 s18), (Ol s20 s19), (Of s21 (qLenS (.t s20))), (Of s22 (qMini [(.t s21), (.c (.int .i64 30001))])), (Ob .add s23 s15 s22), (Om s3 s23)]))
 (.ops [(Om s13 s4), (Ok .add s14 s13 1), (Om s4 s14)])))
def c5 : AFunc :=
 ⟨31, [(.tmp s2)], (.seq (.ops [(OK s2 (.bool false))])
 (.seq (.ops [(OK s3 (.int .i64 0))])
 (.seq (.seq (.ops [(OK s4 (.int .i64 0))])
 (.block 0 (.loop c5l0)))
 (.seq (.ops [(Om s24 s0), (Of s25 (qLenL (.t s24))), (Ok .gtr s26 s25 100), (Om s27 s26), (Gm s28 s3 s27 false), (Gk .gtr s29 s28 30000 s27 false), (Oz s30 s27 s29), (Om s2 s30)])
 .ret))))⟩
def c6 : AFunc :=
 ⟨62, [(.tmp s2)], (.seq (.ops [(Oq s1 (.alloc (aBox (.t s0)))), (OK s2 (.str []))])
 (.seq (.seq (.ops [(Oa s3 0 s1), (Ol s4 s3)])
 (.block 0 (.seq (.ops [(Ok .eql s6 s4 0), (Om s5 s6)])
 (.cond (.t s5) (.seq (.ops [(Oa s7 8 s1), (Ol s8 s7), (Om s2 s8)])
 .ret) (.seq (.ops [(Ok .eql s10 s4 1), (Om s9 s10)])
 (.cond (.t s9) (.seq (.ops [(Oa s11 1 s1), (Ol s12 s11), (Of s13 (qConv .u64 (.t s12))), (Oa s14 2 s1), (Ol s15 s14), (Of s16 (qConv .u64 (.t s15))), (Oa s17 8 s1), (Ol s18 s17), (Oc s19 10 [(.t s13), (.t s16), (.t s18)]), (Om s2 s19)])
 .ret) (.seq (.ops [(Ok .eql s21 s4 2), (Om s20 s21)])
 (.cond (.t s20) (.seq (.ops [(Oa s22 3 s1), (Ol s23 s22), (Of s24 (qConv .u64 (.t s23))), (Oa s25 6 s1), (Ol s26 s25), (Oa s27 8 s1), (Ol s28 s27), (Oc s29 17 [(.t s24), (.t s26), (.t s28)]), (Om s2 s29)])
 .ret) (.seq (.ops [(Ok .eql s31 s4 3), (Om s30 s31)])
 (.cond (.t s30) (.seq (.seq (.ops [(Oa s32 2 s1), (Ol s33 s32), (Of s34 (qBin .eql (.t s33) (.c (.int .u32 1))))])
 (.cond (.t s34) (.seq (.draw (.calm (Oa s35 5 s1) (.calm (Ol s36 s35) (.calm (Of s37 (qConv .u64 (.t s36))) (.calm (Oa s38 6 s1) (.calm (Ol s39 s38) (.calm (Oa s40 7 s1) (.calm (Ol s41 s40) (.calm (Oa s43 8 s1) (.calm (Ol s44 s43) (.last ⟨(Oc s42 20 [(.t s41), (.c (.int .i64 8))]), [(Ol s36 s35), (Ol s39 s38), (Ol s44 s43)]⟩ (.calm (Ob .add s45 s42 s44) .fin))))))))))) [(Oc s46 19 [(.t s37), (.c (.int .u64 1)), (.t s39), (.t s45)]), (Om s2 s46)])
 .ret) .skip))
 (.seq (.ops [(Oa s47 5 s1), (Ol s48 s47), (Of s49 (qConv .u64 (.t s48))), (Oa s50 2 s1), (Ol s51 s50), (Of s52 (qConv .u64 (.t s51))), (Of s53 (qBin .rem (.t s52) (.c (.int .u64 65536)))), (Oa s54 6 s1), (Ol s55 s54), (Oa s56 8 s1), (Ol s57 s56), (Oc s58 19 [(.t s49), (.t s53), (.t s55), (.t s57)]), (Om s2 s58)])
 .ret)) (.seq (.ops [(Ok .eql s60 s4 6), (Om s59 s60)])
 (.cond (.t s59) (.seq (.ops [(Oc s61 9 []), (Om s2 s61)])
 .ret) .skip))))))))))))
 (.seq (.ops [(OK s2 (.str []))])
 .ret)))⟩
def c7 : AFunc :=
 ⟨14, [(.tmp s4)], (.seq (.ops [(OK s4 .nilptr)])
 (.seq (.ops [(Om s5 s0), (Om s6 s0), (Of s7 (qLenS (.t s6))), (Of s8 (qMini [(.t s7), (.c (.int .i64 255))])), (Of s9 (qSlcStr (.t s5) none (some (.t s8)))), (Om s10 s1), (Oq s11 (.alloc aMkm)), (Of s12 (qBld [(.str []), (.bool false), (.bool false), (.bool false), (.bool false), (.bool false), (.bool false), (.int .u64 0), (.str []), (.str []), .nilmap, (.int .u64 0), .nilslice] [(0, (1, (.t s9))), (1, (1, (.t s10))), (10, (1, (.t s11)))])), (Oq s13 (.alloc (aBox (.t s12)))), (Om s4 s13)])
 .ret))⟩
def c8l0 : ACode :=
 (.seq (.seq (.ops [(Om s21 s4), (Ok .gtr s22 s21 0), (Om s23 s22), (Gm s24 s0 s23 true), (Gq s25 (.quiet false (qNilck (.t s24))) s23 true), (Ga s26 6 s25 s23 true), (Gl s27 s26 s23 true), (Gq s28 (.quiet false (qUn .not (.t s27))) s23 true), (Oy s29 s23 s28)])
 (.cond (.t s29) .skip (.exit 0)))
 (.block 1 (.seq (.block 2 (.seq (.ops [(Om s33 s0), (Of s34 (qNilck (.t s33))), (Oa s35 3 s34), (Ol s36 s35), (Ou s37 s36), (Om s32 s37)])
 (.cond (.t s32) (.ops [(Om s38 s0), (Oc s39 22 [(.t s38)]), (Om s4 s39)]) (.seq (.ops [(Om s41 s0), (Of s42 (qNilck (.t s41))), (Oa s43 4 s42), (Ol s44 s43), (Ou s45 s44), (Om s40 s45)])
 (.cond (.t s40) (.ops [(Om s46 s0), (Oc s47 23 [(.t s46)]), (Om s4 s47)]) (.ops [(Om s30 s0), (Oc s31 24 [(.t s30)]), (Om s4 s31)]))))))
 (.ops [(Om s48 s0), (Om s49 s0), (Of s50 (qNilck (.t s49))), (Oa s51 8 s50), (Ol s52 s51), (Om s53 s4), (Of s54 (qSlcStr (.t s52) (some (.t s53)) none)), (Of s55 (qNilck (.t s48))), (Oa s56 8 s55), (On (.loud (lSto 1 (.t s56) (.t s54))))]))))
def c8 : AFunc :=
 ⟨57, [], (.seq (.seq (.ops [(Om s5 s0), (Oc s6 21 [(.t s5)]), (Om s7 s6), (Gm s8 s0 s7 false), (Gq s9 (.quiet false (qNilck (.t s8))) s7 false), (Ga s10 6 s9 s7 false), (Gl s11 s10 s7 false), (Oz s12 s7 s11)])
 (.cond (.t s12) .ret .skip))
 (.seq (.ops [(Om s13 s0), (Of s14 (qNilck (.t s13))), (Oa s15 8 s14), (Ol s16 s15), (Om s17 s1), (Ob .add s18 s16 s17), (Of s19 (qNilck (.t s13))), (Oa s20 8 s19), (On (.loud (lSto 1 (.t s20) (.t s18))))])
 (.seq (.ops [(OK s4 (.int .i64 1))])
 (.block 0 (.loop c8l0)))))⟩
def c9 : AFunc :=
 ⟨1, [(.tmp s0)], (.seq (.ops [(OK s0 (.str []))])
 (.seq (.ops [(OK s0 (.str [78, 66, 68, 77, 65, 71, 73, 67, 73, 72, 65, 86, 69, 79, 80, 84, 0, 3]))])
 .ret))⟩
def c10 : AFunc :=
 ⟨21, [(.tmp s6)], (.seq (.ops [(OK s6 (.str []))])
 (.seq (.ops [(Oc s7 20 [(.c (.int .u64 1100100111001001)), (.c (.int .i64 8))]), (Om s8 s0), (Oc s9 20 [(.t s8), (.c (.int .i64 4))]), (Ob .add s10 s7 s9), (Om s11 s1), (Oc s12 20 [(.t s11), (.c (.int .i64 4))]), (Ob .add s13 s10 s12), (Om s14 s2), (Of s15 (qLenS (.t s14))), (Of s16 (qConv .u64 (.t s15))), (Oc s17 20 [(.t s16), (.c (.int .i64 4))]), (Ob .add s18 s13 s17), (Om s19 s2), (Ob .add s20 s18 s19), (Om s6 s20)])
 .ret))⟩
def c11 : AFunc :=
 ⟨66, [(.tmp s4), (.tmp s5)], (.seq (.ops [(Oq s3 (.alloc (aBox (.t s1)))), (OK s4 (.int .u64 0)), (OK s5 (.int .i64 0))])
 (.seq (.block 0 (.seq (.ops [(Om s9 s0), (Oc s10 21 [(.t s9)]), (Om s8 s10)])
 (.cond (.t s8) (.seq (.ops [(OK s4 (.int .u64 0)), (OK s5 (.int .i64 2))])
 .ret) (.seq (.ops [(Om s12 s0), (Oc s13 25 [(.t s12)]), (Ou s14 s13), (Om s11 s14)])
 (.cond (.t s11) (.seq (.ops [(OK s4 (.int .u64 0)), (OK s5 (.int .i64 11))])
 .ret) (.seq (.ops [(Oa s16 1 s3), (Ol s17 s16), (Of s18 (qBin .eql (.t s17) (.c (.int .u16 2)))), (Om s15 s18)])
 (.cond (.t s15) (.seq (.ops [(OK s4 (.int .u64 0)), (OK s5 (.int .i64 10))])
 .ret) (.seq (.ops [(Om s20 s0), (Of s21 (qNilck (.t s20))), (Oa s22 10 s21), (Ol s23 s22), (Og s24 (qLenM (.t s23))), (Ok .geq s25 s24 8), (Om s19 s25)])
 (.cond (.t s19) (.seq (.ops [(OK s4 (.int .u64 0)), (OK s5 (.int .i64 6))])
 .ret) .skip)))))))))
 (.seq (.ops [(Om s26 s0), (Of s27 (qNilck (.t s26))), (Oa s28 11 s27), (Ol s29 s28), (Of s30 (qBin .add (.t s29) (.c (.int .u64 1)))), (Oa s31 2 s3), (On (.loud (lSto 1 (.t s31) (.t s30))))])
 (.seq (.ops [(OL s33 6 s3), (Oc s34 26 [(.t s33)]), (Om s32 s34), (Oe s35 0 s32), (Oe s36 1 s32), (Om s6 s35), (Om s7 s36)])
 (.seq (.seq (.ops [(Om s37 s7), (Ok .neq s38 s37 0)])
 (.cond (.t s38) (.seq (.ops [(Om s39 s7), (OK s4 (.int .u64 0)), (Om s5 s39)])
 .ret) .skip))
 (.seq (.ops [(Om s40 s0), (Of s41 (qNilck (.t s40))), (Oa s42 11 s41), (Ol s43 s42), (Of s44 (qBin .add (.t s43) (.c (.int .u64 1)))), (Of s45 (qNilck (.t s40))), (Oa s46 11 s45), (On (.loud (lSto 1 (.t s46) (.t s44))))])
 (.seq (.ops [(Om s47 s0), (Of s48 (qNilck (.t s47))), (Oa s49 9 s48), (Ol s50 s49), (Om s51 s6), (Ob .add s52 s50 s51), (Of s53 (qNilck (.t s47))), (Oa s54 9 s53), (On (.loud (lSto 1 (.t s54) (.t s52))))])
 (.seq (.draw (.calm (Om s55 s0) (.calm (Of s56 (qNilck (.t s55))) (.calm (Oa s57 10 s56) (.calm (Ol s58 s57) (.calm (Oa s59 2 s3) (.calm (Ol s60 s59) (.calm (OL s61 6 s3) (.calm (Of s62 (qBld [(.int .u16 0), (.int .u16 0), (.int .u64 0), (.int .u64 0), (.int .u32 0), (.str []), (.str []), (.int .u32 0)] [(0, (6, (.t s61)))])) (.calm (Oq s63 (.alloc (aBox (.t s62)))) .fin))))))))) [(On (.loud (lMset (.one .int) (.t s58) (.t s60) (.t s63))))])
 (.seq (.ops [(Oa s64 2 s3), (Ol s65 s64), (Om s4 s65), (OK s5 (.int .i64 0))])
 .ret)))))))))⟩
def c12 : AFunc :=
 ⟨14, [(.tmp s2)], (.seq (.ops [(OK s2 .nilslice)])
 (.seq (.seq (.ops [(Om s4 s0), (Oc s5 21 [(.t s4)])])
 (.cond (.t s5) (.seq (.ops [(OK s2 .nilslice)])
 .ret) .skip))
 (.seq (.ops [(Om s6 s0), (Of s7 (qNilck (.t s6))), (Oa s8 12 s7), (Ol s9 s8), (Om s3 s9)])
 (.seq (.ops [(Om s10 s0), (Of s11 (qNilck (.t s10))), (Oa s12 12 s11), (On (.loud (lSto 1 (.t s12) (.c .nilslice))))])
 (.seq (.ops [(Om s13 s3), (Om s2 s13)])
 .ret)))))⟩
def c13 : AFunc :=
 ⟨14, [(.tmp s2)], (.seq (.ops [(OK s2 (.str []))])
 (.seq (.seq (.ops [(Om s4 s0), (Oc s5 21 [(.t s4)])])
 (.cond (.t s5) (.seq (.ops [(OK s2 (.str []))])
 .ret) .skip))
 (.seq (.ops [(Om s6 s0), (Of s7 (qNilck (.t s6))), (Oa s8 9 s7), (Ol s9 s8), (Om s3 s9)])
 (.seq (.ops [(Om s10 s0), (Of s11 (qNilck (.t s10))), (Oa s12 9 s11), (On (.loud (lSto 1 (.t s12) (.c (.str [])))))])
 (.seq (.ops [(Om s13 s3), (Om s2 s13)])
 .ret)))))⟩
def c14 : AFunc :=
 ⟨12, [(.tmp s2)], (.seq (.ops [(OK s2 (.bool false))])
 (.seq (.ops [(Om s3 s0), (Oc s4 21 [(.t s3)]), (Ou s5 s4), (Om s6 s5), (Gm s7 s0 s6 true), (Gq s8 (.quiet false (qNilck (.t s7))) s6 true), (Ga s9 4 s8 s6 true), (Gl s10 s9 s6 true), (Oy s11 s6 s10), (Om s2 s11)])
 .ret))⟩
def c15 : AFunc :=
 ⟨11, [(.tmp s2)], (.seq (.ops [(OK s2 (.bool false))])
 (.seq (.ops [(Om s3 s0), (Oc s4 21 [(.t s3)]), (Om s5 s4), (Gm s6 s0 s5 false), (Gq s7 (.quiet false (qNilck (.t s6))) s5 false), (Ga s8 6 s7 s5 false), (Gl s9 s8 s5 false), (Oz s10 s5 s9), (Om s2 s10)])
 .ret))⟩
def c16 : AFunc :=
 ⟨10, [(.tmp s2)], (.seq (.ops [(OK s2 (.int .i64 0))])
 (.seq (.seq (.ops [(Om s3 s0), (Oc s4 21 [(.t s3)])])
 (.cond (.t s4) (.seq (.ops [(OK s2 (.int .i64 0))])
 .ret) .skip))
 (.seq (.ops [(Om s5 s0), (Of s6 (qNilck (.t s5))), (Oa s7 10 s6), (Ol s8 s7), (Og s9 (qLenM (.t s8))), (Om s2 s9)])
 .ret)))⟩
def c17 : AFunc :=
 ⟨16, [(.tmp s6)], (.seq (.ops [(OK s6 (.str []))])
 (.seq (.ops [(Oc s7 20 [(.c (.int .u64 1732535960)), (.c (.int .i64 4))]), (Om s8 s0), (Oc s9 20 [(.t s8), (.c (.int .i64 4))]), (Ob .add s10 s7 s9), (Om s11 s1), (Oc s12 20 [(.t s11), (.c (.int .i64 8))]), (Ob .add s13 s10 s12), (Om s14 s2), (Ob .add s15 s13 s14), (Om s6 s15)])
 .ret))⟩
def c18l0 : ACode :=
 (.seq (.seq (.ops [(Oc s111 31 [(.t s9)]), (Om s112 s7), (Ob .lss s113 s111 s112)])
 (.cond (.t s113) .skip (.exit 3)))
 (.block 4 (.seq (.ops [(Om s114 s7), (Oc s115 31 [(.t s9)]), (Ob .sub s116 s114 s115), (Oc s117 31 [(.t s9)]), (Om s118 s8), (Of s119 (qMini [(.t s116), (.t s117), (.t s118)])), (Om s10 s119)])
 (.ops [(Oc s120 32 [(.t s9)]), (Om s121 s10), (Of s122 (qSlcStr (.t s120) none (some (.t s121)))), (Oc s123 30 [(.t s9), (.t s122)])]))))
def c18 : AFunc :=
 ⟨125, [(.tmp s4)], (.seq (.ops [(OK s4 (.str []))])
 (.seq (.seq (.ops [(Om s11 s1)])
 (.block 0 (.seq (.ops [(Ok .eql s13 s11 0), (Om s12 s13)])
 (.cond (.t s12) (.seq (.ops [(OK s4 (.str []))])
 .ret) (.seq (.ops [(Ok .eql s15 s11 1), (Om s14 s15)])
 (.cond (.t s14) (.seq (.ops [(Om s16 s0), (Om s4 s16)])
 .ret) .skip))))))
 (.seq (.seq (.ops [(Om s17 s1), (Ok .lss s18 s17 0)])
 (.cond (.t s18) (.ops [(Of s19 (qMki 9 (.c (.str [115, 116, 114, 105, 110, 103, 115, 58, 32, 110, 101, 103, 97, 116, 105, 118, 101, 32, 82, 101, 112, 101, 97, 116, 32, 99, 111, 117, 110, 116])))), (On (.loud lFail))]) .skip))
 (.seq (.ops [(Om s21 s0), (Of s22 (qLenS (.t s21))), (Of s23 (qConv .u64 (.t s22))), (Om s24 s1), (Of s25 (qConv .u64 (.t s24))), (Oc s26 27 [(.t s23), (.t s25)]), (Om s20 s26), (Oe s27 0 s20), (Oe s28 1 s20), (Om s5 s27), (Om s6 s28)])
 (.seq (.seq (.ops [(Om s29 s5), (Of s30 (qBin .gtr (.t s29) (.c (.int .u64 0)))), (Om s31 s30), (Gm s32 s6 s31 false), (Gq s33 (.quiet false (qBin .gtr (.t s32) (.c (.int .u64 9223372036854775807)))) s31 false), (Oz s34 s31 s33)])
 (.cond (.t s34) (.ops [(Of s35 (qMki 9 (.c (.str [115, 116, 114, 105, 110, 103, 115, 58, 32, 82, 101, 112, 101, 97, 116, 32, 111, 117, 116, 112, 117, 116, 32, 108, 101, 110, 103, 116, 104, 32, 111, 118, 101, 114, 102, 108, 111, 119])))), (On (.loud lFail))]) .skip))
 (.seq (.ops [(Om s36 s6), (Of s37 (qConv .i64 (.t s36))), (Om s7 s37)])
 (.seq (.seq (.ops [(Om s38 s0), (Of s39 (qLenS (.t s38))), (Ok .eql s40 s39 0)])
 (.cond (.t s40) (.seq (.ops [(OK s4 (.str []))])
 .ret) .skip))
 (.seq (.seq (.ops [(Om s41 s0), (Of s42 (qIdxS (.t s41) (.c (.int .i64 0))))])
 (.block 1 (.seq (.seq (.ops [(Of s44 (qBin .eql (.t s42) (.c (.int .u8 32)))), (Om s43 s44)])
 (.cond (.t s43) .skip (.seq (.ops [(Of s45 (qBin .eql (.t s42) (.c (.int .u8 45)))), (Om s43 s45)])
 (.cond (.t s43) .skip (.seq (.ops [(Of s46 (qBin .eql (.t s42) (.c (.int .u8 48)))), (Om s43 s46)])
 (.cond (.t s43) .skip (.seq (.ops [(Of s47 (qBin .eql (.t s42) (.c (.int .u8 61)))), (Om s43 s47)])
 (.cond (.t s43) .skip (.ops [(Of s48 (qBin .eql (.t s42) (.c (.int .u8 9)))), (Om s43 s48)])))))))))
 (.cond (.t s43) (.block 2 (.seq (.ops [(Om s50 s7), (Ok .leq s51 s50 128), (Om s52 s51), (Gm s53 s0 s52 true), (Gq s54 (.call (.c (.func (.func 28) [] [])) [(.c (.str [32, 32, 32, 32, 32, 32, 32, 32, 32, 32, 32, 32, 32, 32, 32, 32, 32, 32, 32, 32, 32, 32, 32, 32, 32, 32, 32, 32, 32, 32, 32, 32, 32, 32, 32, 32, 32, 32, 32, 32, 32, 32, 32, 32, 32, 32, 32, 32, 32, 32, 32, 32, 32, 32, 32, 32, 32, 32, 32, 32, 32, 32, 32, 32, 32, 32, 32, 32, 32, 32, 32, 32, 32, 32, 32, 32, 32, 32, 32, 32, 32, 32, 32, 32, 32, 32, 32, 32, 32, 32, 32, 32, 32, 32, 32, 32, 32, 32, 32, 32, 32, 32, 32, 32, 32, 32, 32, 32, 32, 32, 32, 32, 32, 32, 32, 32, 32, 32, 32, 32, 32, 32, 32, 32, 32, 32, 32, 32])), (.t s53)]) s52 true), (Oy s55 s52 s54), (Om s49 s55)])
 (.cond (.t s49) (.seq (.ops [(Om s56 s7), (Of s57 (qSlcStr (.c (.str [32, 32, 32, 32, 32, 32, 32, 32, 32, 32, 32, 32, 32, 32, 32, 32, 32, 32, 32, 32, 32, 32, 32, 32, 32, 32, 32, 32, 32, 32, 32, 32, 32, 32, 32, 32, 32, 32, 32, 32, 32, 32, 32, 32, 32, 32, 32, 32, 32, 32, 32, 32, 32, 32, 32, 32, 32, 32, 32, 32, 32, 32, 32, 32, 32, 32, 32, 32, 32, 32, 32, 32, 32, 32, 32, 32, 32, 32, 32, 32, 32, 32, 32, 32, 32, 32, 32, 32, 32, 32, 32, 32, 32, 32, 32, 32, 32, 32, 32, 32, 32, 32, 32, 32, 32, 32, 32, 32, 32, 32, 32, 32, 32, 32, 32, 32, 32, 32, 32, 32, 32, 32, 32, 32, 32, 32, 32, 32])) none (some (.t s56)))), (Om s4 s57)])
 .ret) (.seq (.ops [(Om s59 s7), (Ok .leq s60 s59 128), (Om s61 s60), (Gm s62 s0 s61 true), (Gq s63 (.call (.c (.func (.func 28) [] [])) [(.c (.str [45, 45, 45, 45, 45, 45, 45, 45, 45, 45, 45, 45, 45, 45, 45, 45, 45, 45, 45, 45, 45, 45, 45, 45, 45, 45, 45, 45, 45, 45, 45, 45, 45, 45, 45, 45, 45, 45, 45, 45, 45, 45, 45, 45, 45, 45, 45, 45, 45, 45, 45, 45, 45, 45, 45, 45, 45, 45, 45, 45, 45, 45, 45, 45, 45, 45, 45, 45, 45, 45, 45, 45, 45, 45, 45, 45, 45, 45, 45, 45, 45, 45, 45, 45, 45, 45, 45, 45, 45, 45, 45, 45, 45, 45, 45, 45, 45, 45, 45, 45, 45, 45, 45, 45, 45, 45, 45, 45, 45, 45, 45, 45, 45, 45, 45, 45, 45, 45, 45, 45, 45, 45, 45, 45, 45, 45, 45, 45])), (.t s62)]) s61 true), (Oy s64 s61 s63), (Om s58 s64)])
 (.cond (.t s58) (.seq (.ops [(Om s65 s7), (Of s66 (qSlcStr (.c (.str [45, 45, 45, 45, 45, 45, 45, 45, 45, 45, 45, 45, 45, 45, 45, 45, 45, 45, 45, 45, 45, 45, 45, 45, 45, 45, 45, 45, 45, 45, 45, 45, 45, 45, 45, 45, 45, 45, 45, 45, 45, 45, 45, 45, 45, 45, 45, 45, 45, 45, 45, 45, 45, 45, 45, 45, 45, 45, 45, 45, 45, 45, 45, 45, 45, 45, 45, 45, 45, 45, 45, 45, 45, 45, 45, 45, 45, 45, 45, 45, 45, 45, 45, 45, 45, 45, 45, 45, 45, 45, 45, 45, 45, 45, 45, 45, 45, 45, 45, 45, 45, 45, 45, 45, 45, 45, 45, 45, 45, 45, 45, 45, 45, 45, 45, 45, 45, 45, 45, 45, 45, 45, 45, 45, 45, 45, 45, 45])) none (some (.t s65)))), (Om s4 s66)])
 .ret) (.seq (.ops [(Om s68 s7), (Ok .leq s69 s68 64), (Om s70 s69), (Gm s71 s0 s70 true), (Gq s72 (.call (.c (.func (.func 28) [] [])) [(.c (.str [48, 48, 48, 48, 48, 48, 48, 48, 48, 48, 48, 48, 48, 48, 48, 48, 48, 48, 48, 48, 48, 48, 48, 48, 48, 48, 48, 48, 48, 48, 48, 48, 48, 48, 48, 48, 48, 48, 48, 48, 48, 48, 48, 48, 48, 48, 48, 48, 48, 48, 48, 48, 48, 48, 48, 48, 48, 48, 48, 48, 48, 48, 48, 48])), (.t s71)]) s70 true), (Oy s73 s70 s72), (Om s67 s73)])
 (.cond (.t s67) (.seq (.ops [(Om s74 s7), (Of s75 (qSlcStr (.c (.str [48, 48, 48, 48, 48, 48, 48, 48, 48, 48, 48, 48, 48, 48, 48, 48, 48, 48, 48, 48, 48, 48, 48, 48, 48, 48, 48, 48, 48, 48, 48, 48, 48, 48, 48, 48, 48, 48, 48, 48, 48, 48, 48, 48, 48, 48, 48, 48, 48, 48, 48, 48, 48, 48, 48, 48, 48, 48, 48, 48, 48, 48, 48, 48])) none (some (.t s74)))), (Om s4 s75)])
 .ret) (.seq (.ops [(Om s77 s7), (Ok .leq s78 s77 128), (Om s79 s78), (Gm s80 s0 s79 true), (Gq s81 (.call (.c (.func (.func 28) [] [])) [(.c (.str [61, 61, 61, 61, 61, 61, 61, 61, 61, 61, 61, 61, 61, 61, 61, 61, 61, 61, 61, 61, 61, 61, 61, 61, 61, 61, 61, 61, 61, 61, 61, 61, 61, 61, 61, 61, 61, 61, 61, 61, 61, 61, 61, 61, 61, 61, 61, 61, 61, 61, 61, 61, 61, 61, 61, 61, 61, 61, 61, 61, 61, 61, 61, 61, 61, 61, 61, 61, 61, 61, 61, 61, 61, 61, 61, 61, 61, 61, 61, 61, 61, 61, 61, 61, 61, 61, 61, 61, 61, 61, 61, 61, 61, 61, 61, 61, 61, 61, 61, 61, 61, 61, 61, 61, 61, 61, 61, 61, 61, 61, 61, 61, 61, 61, 61, 61, 61, 61, 61, 61, 61, 61, 61, 61, 61, 61, 61, 61])), (.t s80)]) s79 true), (Oy s82 s79 s81), (Om s76 s82)])
 (.cond (.t s76) (.seq (.ops [(Om s83 s7), (Of s84 (qSlcStr (.c (.str [61, 61, 61, 61, 61, 61, 61, 61, 61, 61, 61, 61, 61, 61, 61, 61, 61, 61, 61, 61, 61, 61, 61, 61, 61, 61, 61, 61, 61, 61, 61, 61, 61, 61, 61, 61, 61, 61, 61, 61, 61, 61, 61, 61, 61, 61, 61, 61, 61, 61, 61, 61, 61, 61, 61, 61, 61, 61, 61, 61, 61, 61, 61, 61, 61, 61, 61, 61, 61, 61, 61, 61, 61, 61, 61, 61, 61, 61, 61, 61, 61, 61, 61, 61, 61, 61, 61, 61, 61, 61, 61, 61, 61, 61, 61, 61, 61, 61, 61, 61, 61, 61, 61, 61, 61, 61, 61, 61, 61, 61, 61, 61, 61, 61, 61, 61, 61, 61, 61, 61, 61, 61, 61, 61, 61, 61, 61, 61])) none (some (.t s83)))), (Om s4 s84)])
 .ret) (.seq (.ops [(Om s86 s7), (Ok .leq s87 s86 64), (Om s88 s87), (Gm s89 s0 s88 true), (Gq s90 (.call (.c (.func (.func 28) [] [])) [(.c (.str [9, 9, 9, 9, 9, 9, 9, 9, 9, 9, 9, 9, 9, 9, 9, 9, 9, 9, 9, 9, 9, 9, 9, 9, 9, 9, 9, 9, 9, 9, 9, 9, 9, 9, 9, 9, 9, 9, 9, 9, 9, 9, 9, 9, 9, 9, 9, 9, 9, 9, 9, 9, 9, 9, 9, 9, 9, 9, 9, 9, 9, 9, 9, 9])), (.t s89)]) s88 true), (Oy s91 s88 s90), (Om s85 s91)])
 (.cond (.t s85) (.seq (.ops [(Om s92 s7), (Of s93 (qSlcStr (.c (.str [9, 9, 9, 9, 9, 9, 9, 9, 9, 9, 9, 9, 9, 9, 9, 9, 9, 9, 9, 9, 9, 9, 9, 9, 9, 9, 9, 9, 9, 9, 9, 9, 9, 9, 9, 9, 9, 9, 9, 9, 9, 9, 9, 9, 9, 9, 9, 9, 9, 9, 9, 9, 9, 9, 9, 9, 9, 9, 9, 9, 9, 9, 9, 9])) none (some (.t s92)))), (Om s4 s93)])
 .ret) .skip))))))))))) .skip))))
 (.seq (.ops [(Om s94 s7), (Om s8 s94)])
 (.seq (.seq (.ops [(Om s95 s7), (Ok .gtr s96 s95 8192)])
 (.cond (.t s96) (.seq (.ops [(Om s97 s0), (Of s98 (qLenS (.t s97))), (Of s99 (qBin .quo (.c (.int .i64 8192)) (.t s98))), (Om s100 s0), (Of s101 (qLenS (.t s100))), (Ob .mul s102 s99 s101), (Om s8 s102)])
 (.seq (.ops [(Om s103 s8), (Ok .eql s104 s103 0)])
 (.cond (.t s104) (.ops [(Om s105 s0), (Of s106 (qLenS (.t s105))), (Om s8 s106)]) .skip))) .skip))
 (.seq (.ops [(Oq s9 (.alloc (aBox (.c (.agg [.nilptr, .nilslice])))))])
 (.seq (.ops [(Om s107 s7), (Oc s108 29 [(.t s9), (.t s107)])])
 (.seq (.ops [(Om s109 s0), (Oc s110 30 [(.t s9), (.t s109)])])
 (.seq (.block 3 (.loop c18l0))
 (.seq (.ops [(Oc s124 32 [(.t s9)]), (Om s4 s124)])
 .ret)))))))))))))))⟩
def c19 : AFunc :=
 ⟨26, [(.tmp s8)], (.seq (.ops [(OK s8 (.str []))])
 (.seq (.ops [(Oc s9 20 [(.c (.int .u64 1720595439)), (.c (.int .i64 4))]), (Om s10 s0), (Oc s11 20 [(.t s10), (.c (.int .i64 2))]), (Ob .add s12 s9 s11), (Om s13 s1), (Oc s14 20 [(.t s13), (.c (.int .i64 2))]), (Ob .add s15 s12 s14), (Om s16 s2), (Oc s17 20 [(.t s16), (.c (.int .i64 8))]), (Ob .add s18 s15 s17), (Om s19 s3), (Of s20 (qLenS (.t s19))), (Of s21 (qConv .u64 (.t s20))), (Oc s22 20 [(.t s21), (.c (.int .i64 4))]), (Ob .add s23 s18 s22), (Om s24 s3), (Ob .add s25 s23 s24), (Om s8 s25)])
 .ret))⟩
def c20 : AFunc :=
 ⟨8, [(.tmp s4)], (.seq (.ops [(OK s4 (.str []))])
 (.seq (.ops [(Om s5 s0), (Om s6 s1), (Oc s7 33 [(.t s5), (.t s6)]), (Om s4 s7)])
 .ret))⟩
def c21 : AFunc :=
 ⟨12, [(.tmp s2)], (.seq (.ops [(OK s2 (.bool false))])
 (.seq (.ops [(Om s3 s0), (Of s4 (qIsnil false .ptr (.t s3))), (Om s5 s4), (Gm s6 s0 s5 false), (Gq s7 (.quiet false (qNilck (.t s6))) s5 false), (Ga s8 10 s7 s5 false), (Gl s9 s8 s5 false), (Gq s10 (.quiet false (qIsnil false .map (.t s9))) s5 false), (Oz s11 s5 s10), (Om s2 s11)])
 .ret))⟩
def c22 : AFunc :=
 ⟨70, [(.tmp s2)], (.seq (.ops [(OK s2 (.int .i64 0))])
 (.seq (.ops [(Oc s4 34 []), (Om s3 s4)])
 (.seq (.seq (.ops [(Om s5 s0), (Of s6 (qNilck (.t s5))), (Oa s7 8 s6), (Ol s8 s7), (Om s9 s3), (Oc s10 28 [(.t s8), (.t s9)]), (Ou s11 s10)])
 (.cond (.t s11) (.seq (.seq (.ops [(Om s12 s3), (Om s13 s0), (Of s14 (qNilck (.t s13))), (Oa s15 8 s14), (Ol s16 s15), (Oc s17 28 [(.t s12), (.t s16)]), (Ou s18 s17)])
 (.cond (.t s18) (.ops [(Om s19 s0), (Oc s20 35 [(.t s19)])]) .skip))
 (.seq (.ops [(OK s2 (.int .i64 0))])
 .ret)) .skip))
 (.seq (.ops [(Om s21 s0), (Of s22 (qNilck (.t s21))), (Oa s23 3 s22), (On (.loud (lSto 1 (.t s23) (.c (.bool true)))))])
 (.seq (.draw (.calm (Om s24 s0) (.calm (Of s25 (qNilck (.t s24))) (.calm (Oa s26 9 s25) (.calm (Ol s27 s26) (.last ⟨(Oc s28 36 [(.c (.int .u64 3)), (.c (.int .i64 4))]), [(Ol s27 s26)]⟩ .fin))))) [(Ob .add s29 s27 s28), (Of s30 (qNilck (.t s24))), (Oa s31 9 s30), (On (.loud (lSto 1 (.t s31) (.t s29))))])
 (.seq (.seq (.ops [(Om s32 s0), (Of s33 (qNilck (.t s32))), (Oa s34 1 s33), (Ol s35 s34)])
 (.cond (.t s35) (.draw (.calm (Om s36 s0) (.calm (Of s37 (qNilck (.t s36))) (.calm (Oa s38 9 s37) (.calm (Ol s39 s38) (.calm (Of s40 (qBld [(.int .u32 0), (.str [])] [(0, (1, (.c (.int .u32 8))))])) (.last ⟨(Oc s41 37 [(.t s40)]), [(Ol s39 s38)]⟩ .fin)))))) [(Ob .add s42 s39 s41), (Of s43 (qNilck (.t s36))), (Oa s44 9 s43), (On (.loud (lSto 1 (.t s44) (.t s42))))]) .skip))
 (.seq (.draw (.calm (Om s45 s0) (.calm (Of s46 (qNilck (.t s45))) (.calm (Oa s47 9 s46) (.calm (Ol s48 s47) (.calm (Om s49 s0) (.calm (Of s50 (qNilck (.t s49))) (.calm (Oa s51 0 s50) (.calm (Ol s52 s51) (.calm (Of s53 (qLenS (.t s52))) (.calm (Of s54 (qConv .u64 (.t s53))) (.calm (Om s56 s0) (.calm (Of s57 (qNilck (.t s56))) (.calm (Oa s58 0 s57) (.calm (Ol s59 s58) (.last ⟨(Oc s55 36 [(.t s54), (.c (.int .i64 4))]), [(Ol s48 s47), (Ol s59 s58)]⟩ (.calm (Ob .add s60 s55 s59) (.last ⟨(Oc s61 36 [(.c (.int .u64 0)), (.c (.int .i64 2))]), [(Ol s48 s47), (Ol s59 s58)]⟩ (.calm (Ob .add s62 s60 s61) (.calm (Of s63 (qBld [(.int .u32 0), (.str [])] [(0, (1, (.c (.int .u32 7)))), (1, (1, (.t s62)))])) (.last ⟨(Oc s64 37 [(.t s63)]), [(Ol s48 s47)]⟩ .fin)))))))))))))))))))) [(Ob .add s65 s48 s64), (Of s66 (qNilck (.t s45))), (Oa s67 9 s66), (On (.loud (lSto 1 (.t s67) (.t s65))))])
 (.seq (.ops [(Om s68 s3), (Of s69 (qLenS (.t s68))), (Om s2 s69)])
 .ret))))))))⟩
def c23 : AFunc :=
 ⟨90, [(.tmp s2)], (.seq (.ops [(OK s2 (.int .i64 0))])
 (.seq (.ops [(Om s7 s0), (Of s8 (qNilck (.t s7))), (Oa s9 8 s8), (Ol s10 s9), (Oc s11 38 [(.t s10), (.c (.int .i64 1024))]), (Om s6 s11), (Oe s12 0 s6), (Oe s13 1 s6), (Oe s14 2 s6), (Oq s3 (.alloc (aBox (.c (.agg [(.int .u32 0), (.int .u32 0), (.str [])]))))), (On (.loud (lSto 3 (.t s3) (.t s12)))), (Om s4 s13), (Om s5 s14)])
 (.seq (.seq (.ops [(Om s15 s5), (Ok .neq s16 s15 0)])
 (.cond (.t s16) (.seq (.ops [(Om s17 s0), (Oc s18 35 [(.t s17)])])
 (.seq (.ops [(OK s2 (.int .i64 0))])
 .ret)) .skip))
 (.seq (.block 0 (.seq (.ops [(Om s20 s4), (Ok .eql s21 s20 0), (Om s19 s21)])
 (.cond (.t s19) .skip (.seq (.ops [(Oa s23 0 s3), (Ol s24 s23), (Of s25 (qBin .eql (.t s24) (.c (.int .u32 8)))), (Om s22 s25)])
 (.cond (.t s22) (.ops [(Om s26 s0), (Om s27 s0), (Of s28 (qNilck (.t s27))), (Oa s29 2 s28), (Ol s30 s29), (Om s31 s30), (Ga s32 1 s3 s31 false), (Gl s33 s32 s31 false), (Gq s34 (.quiet false (qBin .eql (.t s33) (.c (.int .u32 1)))) s31 false), (Oz s35 s31 s34), (Of s36 (qNilck (.t s26))), (Oa s37 2 s36), (On (.loud (lSto 1 (.t s37) (.t s35))))]) (.seq (.ops [(Oa s39 0 s3), (Ol s40 s39), (Of s41 (qBin .neq (.t s40) (.c (.int .u32 7)))), (Om s38 s41)])
 (.cond (.t s38) .skip (.seq (.ops [(Oa s43 1 s3), (Ol s44 s43), (Of s45 (qBin .eql (.t s44) (.c (.int .u32 3)))), (Om s46 s45), (Ga s47 2 s3 s46 true), (Gl s48 s47 s46 true), (Gq s49 (.quiet false (qLenS (.t s48))) s46 true), (Gk .eql s50 s49 12 s46 true), (Oy s51 s46 s50), (Om s52 s51), (Ga s53 2 s3 s52 true), (Gl s54 s53 s52 true), (Gq s55 (.quiet false (qSlcStr (.t s54) none (some (.c (.int .i64 2))))) s52 true), (Gq s56 (.quiet false (qBin .eql (.t s55) (.c (.str [0, 0])))) s52 true), (Oy s57 s52 s56), (Om s42 s57)])
 (.cond (.t s42) (.ops [(Om s59 s0), (Oa s60 2 s3), (Ol s61 s60), (Oc s62 39 [(.t s61), (.c (.int .i64 2)), (.c (.int .i64 8))]), (Om s58 s62), (Oe s63 0 s58), (Oe s64 1 s58), (Of s65 (qNilck (.t s59))), (Oa s66 7 s65), (On (.loud (lSto 1 (.t s66) (.t s63))))]) (.seq (.ops [(Oa s68 1 s3), (Ol s69 s68), (Of s70 (qBin .eql (.t s69) (.c (.int .u32 1)))), (Om s67 s70)])
 (.cond (.t s67) (.ops [(Om s71 s0), (Of s72 (qNilck (.t s71))), (Oa s73 4 s72), (On (.loud (lSto 1 (.t s73) (.c (.bool true)))))]) (.seq (.ops [(Oa s75 1 s3), (Ol s76 s75), (Of s77 (qBin .geq (.t s76) (.c (.int .u32 2147483648)))), (Om s74 s77)])
 (.cond (.t s74) (.seq (.draw (.calm (Om s78 s0) (.calm (Of s79 (qNilck (.t s78))) (.calm (Oa s80 9 s79) (.calm (Ol s81 s80) (.calm (Of s82 (qBld [(.int .u32 0), (.str [])] [(0, (1, (.c (.int .u32 2))))])) (.last ⟨(Oc s83 37 [(.t s82)]), [(Ol s81 s80)]⟩ .fin)))))) [(Ob .add s84 s81 s83), (Of s85 (qNilck (.t s78))), (Oa s86 9 s85), (On (.loud (lSto 1 (.t s86) (.t s84))))])
 (.ops [(Om s87 s0), (Oc s88 35 [(.t s87)])])) .skip)))))))))))))
 (.seq (.ops [(Om s89 s4), (Om s2 s89)])
 .ret)))))⟩
def c24 : AFunc :=
 ⟨107, [(.tmp s2)], (.seq (.ops [(OK s2 (.int .i64 0))])
 (.seq (.seq (.ops [(Om s13 s0), (Of s14 (qNilck (.t s13))), (Oa s15 2 s14), (Ol s16 s15), (Om s17 s16), (Gm s18 s0 s17 true), (Gq s19 (.quiet false (qNilck (.t s18))) s17 true), (Ga s20 8 s19 s17 true), (Gl s21 s20 s17 true), (Gq s22 (.quiet false (qLenS (.t s21))) s17 true), (Gk .lss s23 s22 4 s17 true), (Oy s24 s17 s23)])
 (.cond (.t s24) (.seq (.ops [(OK s2 (.int .i64 0))])
 .ret) .skip))
 (.seq (.seq (.ops [(Om s26 s0), (Of s27 (qNilck (.t s26))), (Oa s28 8 s27), (Ol s29 s28), (Oc s30 39 [(.t s29), (.c (.int .i64 0)), (.c (.int .i64 4))]), (Om s25 s30), (Oe s31 0 s25), (Oe s32 1 s25), (Om s3 s31), (Om s4 s32)])
 (.seq (.ops [(Om s33 s3), (Of s34 (qBin .eql (.t s33) (.c (.int .u64 1720595439)))), (Om s35 s34), (Gm s36 s0 s35 true), (Gq s37 (.quiet false (qNilck (.t s36))) s35 true), (Ga s38 2 s37 s35 true), (Gl s39 s38 s35 true), (Oy s40 s35 s39)])
 (.cond (.t s40) (.seq (.ops [(Om s41 s0), (Oc s42 40 [(.t s41)]), (Om s2 s42)])
 .ret) .skip)))
 (.seq (.ops [(Om s44 s0), (Of s45 (qNilck (.t s44))), (Oa s46 8 s45), (Ol s47 s46), (Oc s48 39 [(.t s47), (.c (.int .i64 8)), (.c (.int .i64 8))]), (Om s43 s48), (Oe s49 0 s43), (Oe s50 1 s43), (Om s5 s49), (Om s6 s50)])
 (.seq (.ops [(Om s52 s0), (Of s53 (qNilck (.t s52))), (Oa s54 10 s53), (Ol s55 s54), (Om s56 s5), (Og s57 (qLook (.one .int) true .nilptr (.t s55) (.t s56))), (Om s51 s57), (Oe s58 0 s51), (Oe s59 1 s51), (Om s7 s58), (Om s8 s59)])
 (.seq (.ops [(OK s9 (.int .i64 0))])
 (.seq (.seq (.ops [(Om s60 s8), (Om s61 s60), (Gm s62 s7 s61 true), (Gq s63 (.quiet false (qNilck (.t s62))) s61 true), (Ga s64 0 s63 s61 true), (Ga s65 1 s64 s61 true), (Gl s66 s65 s61 true), (Gq s67 (.quiet false (qBin .eql (.t s66) (.c (.int .u16 0)))) s61 true), (Oy s68 s61 s67)])
 (.cond (.t s68) (.ops [(Om s69 s7), (Of s70 (qNilck (.t s69))), (Oa s71 0 s70), (Oa s72 4 s71), (Ol s73 s72), (Of s74 (qConv .i64 (.t s73))), (Om s9 s74)]) .skip))
 (.seq (.ops [(Om s76 s0), (Of s77 (qNilck (.t s76))), (Oa s78 8 s77), (Ol s79 s78), (Om s80 s9), (Oc s81 41 [(.t s79), (.t s80)]), (Om s75 s81), (Oe s82 0 s75), (Oe s83 1 s75), (Oe s84 2 s75), (Oq s10 (.alloc (aBox (.c (.agg [(.int .u32 0), (.int .u64 0), (.str [])]))))), (On (.loud (lSto 3 (.t s10) (.t s82)))), (Om s11 s83), (Om s12 s84)])
 (.seq (.seq (.ops [(Om s85 s12), (Ok .neq s86 s85 0), (Om s87 s86), (Gm s88 s11 s87 false), (Gk .gtr s89 s88 0 s87 false), (Gm s90 s89 s87 false), (Gm s91 s8 s90 true), (Gq s92 (.quiet false (qUn .not (.t s91))) s90 true), (Gy s93 s90 s92 s87 false), (Oz s94 s87 s93)])
 (.cond (.t s94) (.seq (.ops [(Om s95 s0), (Oc s96 35 [(.t s95)])])
 (.seq (.ops [(OK s2 (.int .i64 0))])
 .ret)) .skip))
 (.seq (.seq (.ops [(Om s97 s11), (Ok .gtr s98 s97 0)])
 (.cond (.t s98) (.ops [(Om s99 s0), (Om s100 s5), (Oa s101 0 s10), (Ol s102 s101), (Oa s103 2 s10), (Ol s104 s103), (Oc s105 42 [(.t s99), (.t s100), (.t s102), (.t s104)])]) .skip))
 (.seq (.ops [(Om s106 s11), (Om s2 s106)])
 .ret)))))))))))⟩
def c25 : AFunc :=
 ⟨21, [(.tmp s2)], (.seq (.ops [(OK s2 (.bool false))])
 (.seq (.ops [(Om s3 s0), (Of s4 (qNilck (.t s3))), (Oa s5 4 s4), (Ol s6 s5), (Om s7 s6), (Gm s8 s0 s7 true), (Gq s9 (.quiet false (qNilck (.t s8))) s7 true), (Ga s10 5 s9 s7 true), (Gl s11 s10 s7 true), (Gq s12 (.quiet false (qUn .not (.t s11))) s7 true), (Oy s13 s7 s12), (Om s14 s13), (Gm s15 s0 s14 true), (Gq s16 (.quiet false (qNilck (.t s15))) s14 true), (Ga s17 6 s16 s14 true), (Gl s18 s17 s14 true), (Gq s19 (.quiet false (qUn .not (.t s18))) s14 true), (Oy s20 s14 s19), (Om s2 s20)])
 .ret))⟩
def c26 : AFunc :=
 ⟨37, [(.tmp s2), (.tmp s3)], (.seq (.ops [(Oq s1 (.alloc (aBox (.t s0)))), (OK s2 (.str [])), (OK s3 (.int .i64 0))])
 (.seq (.ops [(OK s4 (.int .i64 0))])
 (.seq (.seq (.ops [(Oa s5 1 s1), (Ol s6 s5), (Of s7 (qBin .eql (.t s6) (.c (.int .u16 1))))])
 (.cond (.t s7) (.ops [(Oa s8 4 s1), (Ol s9 s8), (Of s10 (qConv .i64 (.t s9))), (Om s4 s10)]) .skip))
 (.seq (.seq (.ops [(Oa s11 5 s1), (Ol s12 s11), (Of s13 (qLenS (.t s12))), (Om s14 s4), (Ob .neq s15 s13 s14)])
 (.cond (.t s15) (.seq (.ops [(OK s2 (.str [])), (OK s3 (.int .i64 1))])
 .ret) .skip))
 (.seq (.draw (.calm (Oa s16 0 s1) (.calm (Ol s17 s16) (.calm (Of s18 (qMki 28 (.t s17))) (.calm (Oa s19 1 s1) (.calm (Ol s20 s19) (.calm (Of s21 (qMki 28 (.t s20))) (.calm (Oa s22 2 s1) (.calm (Ol s23 s22) (.calm (Of s24 (qMki 29 (.t s23))) (.calm (Oa s25 3 s1) (.calm (Ol s26 s25) (.calm (Of s27 (qMki 29 (.t s26))) (.calm (Oa s28 4 s1) (.calm (Ol s29 s28) (.calm (Of s30 (qMki 27 (.t s29))) (.calm (Oq s31 (.alloc (aBsl 1 5 [.niliface] [(0, (1, (.t s18))), (1, (1, (.t s21))), (2, (1, (.t s24))), (3, (1, (.t s27))), (4, (1, (.t s30)))]))) (.calm (Oa s34 5 s1) (.calm (Ol s35 s34) (.last ⟨(Oc s32 43 [(.t s31)]), [(Ol s35 s34)]⟩ (.calm (Of s33 (qBin .add (.c (.str [37, 96, 149, 19])) (.t s32))) .fin)))))))))))))))))))) [(Ob .add s36 s33 s35), (Om s2 s36), (OK s3 (.int .i64 0))])
 .ret)))))⟩
def c27 : AFunc :=
 ⟨30, [(.tmp s4), (.tmp s5)], (.seq (.ops [(OK s4 (.int .u64 0)), (OK s5 (.int .u64 0))])
 (.seq (.cond (.c (.bool false)) (.seq (.ops [(Om s11 s0), (Of s12 (qConv .u32 (.t s11))), (Om s13 s1), (Of s14 (qConv .u32 (.t s13))), (Oc s15 44 [(.t s12), (.t s14)]), (Om s10 s15), (Oe s16 0 s10), (Oe s17 1 s10), (Om s6 s16), (Om s7 s17)])
 (.seq (.ops [(Om s18 s6), (Of s19 (qConv .u64 (.t s18))), (Om s20 s7), (Of s21 (qConv .u64 (.t s20))), (Om s4 s19), (Om s5 s21)])
 .ret)) .skip)
 (.seq (.ops [(Om s23 s0), (Om s24 s1), (Oc s25 45 [(.t s23), (.t s24)]), (Om s22 s25), (Oe s26 0 s22), (Oe s27 1 s22), (Om s8 s26), (Om s9 s27)])
 (.seq (.ops [(Om s28 s8), (Om s29 s9), (Om s4 s28), (Om s5 s29)])
 .ret))))⟩
def c28 : AFunc :=
 ⟨8, [(.tmp s4)], (.seq (.ops [(OK s4 (.bool false))])
 (.seq (.ops [(Om s5 s0), (Om s6 s1), (Oc s7 46 [(.t s5), (.t s6)]), (Om s4 s7)])
 .ret))⟩
def c30 : AFunc :=
 ⟨19, [(.tmp s4), (.tmp s5)], (.seq (.ops [(OK s4 (.int .i64 0)), (OK s5 .niliface)])
 (.seq (.ops [(Om s6 s0), (Oc s7 47 [(.t s6)])])
 (.seq (.ops [(Om s8 s0), (Om s9 s0), (Of s10 (qNilck (.t s9))), (Oa s11 1 s10), (Ol s12 s11), (Om s13 s1), (Oq s14 (.loud (lApp 1 1 (.t s12) (.t s13)))), (Of s15 (qNilck (.t s8))), (Oa s16 1 s15), (On (.loud (lSto 1 (.t s16) (.t s14))))])
 (.seq (.ops [(Om s17 s1), (Of s18 (qLenS (.t s17))), (Om s4 s18), (OK s5 .niliface)])
 .ret))))⟩
def c31 : AFunc :=
 ⟨8, [(.tmp s2)], (.seq (.ops [(OK s2 (.int .i64 0))])
 (.seq (.ops [(Om s3 s0), (Of s4 (qNilck (.t s3))), (Oa s5 1 s4), (Ol s6 s5), (Of s7 (qLenL (.t s6))), (Om s2 s7)])
 .ret))⟩
def c33l0 : ACode :=
 (.seq (.seq (.ops [(Om s7 s6), (Om s8 s1), (Ob .lss s9 s7 s8)])
 (.cond (.t s9) .skip (.exit 0)))
 (.seq (.block 1 (.seq (.ops [(Om s12 s0), (Of s13 (qConv .u8 (.t s12))), (Oq s14 (.alloc (aBsl 1 1 [(.int .u8 0)] [(0, (1, (.t s13)))]))), (Og s15 (qB2s (.t s14))), (Om s16 s5), (Ob .add s17 s15 s16), (Om s5 s17)])
 (.ops [(Om s18 s0), (Of s19 (qBin .quo (.t s18) (.c (.int .u64 256)))), (Om s0 s19)])))
 (.ops [(Om s10 s6), (Ok .add s11 s10 1), (Om s6 s11)])))
def c33 : AFunc :=
 ⟨21, [(.tmp s4)], (.seq (.ops [(OK s4 (.str []))])
 (.seq (.ops [(OK s5 (.str []))])
 (.seq (.seq (.ops [(OK s6 (.int .i64 0))])
 (.block 0 (.loop c33l0)))
 (.seq (.ops [(Om s20 s5), (Om s4 s20)])
 .ret))))⟩
def c34 : AFunc :=
 ⟨5, [(.tmp s0)], (.seq (.ops [(OK s0 (.str []))])
 (.seq (.ops [(Of s1 (qMki 28 (.c (.int .u16 3)))), (Oq s2 (.alloc (aBsl 1 1 [.niliface] [(0, (1, (.t s1)))]))), (Oc s3 43 [(.t s2)]), (Of s4 (qBin .add (.c (.str [78, 66, 68, 77, 65, 71, 73, 67, 73, 72, 65, 86, 69, 79, 80, 84])) (.t s3))), (Om s0 s4)])
 .ret))⟩
def c35 : AFunc :=
 ⟨9, [], (.seq (.ops [(Om s2 s0), (Of s3 (qNilck (.t s2))), (Oa s4 6 s3), (On (.loud (lSto 1 (.t s4) (.c (.bool true)))))])
 (.ops [(Om s5 s0), (Of s6 (qNilck (.t s5))), (Oa s7 10 s6), (Ol s8 s7), (On (.loud (lClrM (.t s8))))]))⟩
def c36 : AFunc :=
 ⟨14, [(.tmp s4)], (.seq (.ops [(OK s4 (.str []))])
 (.seq (.ops [(Om s6 s0), (Om s7 s1), (Oc s8 49 [(.t s6), (.t s7)]), (Oq s9 (.alloc (aS2b (.t s8)))), (Om s5 s9)])
 (.seq (.ops [(Om s10 s5), (Oc s11 50 [(.t s10)])])
 (.seq (.ops [(Om s12 s5), (Og s13 (qB2s (.t s12))), (Om s4 s13)])
 .ret))))⟩
def c37 : AFunc :=
 ⟨17, [(.tmp s2)], (.seq (.ops [(Oq s1 (.alloc (aBox (.t s0)))), (OK s2 (.str []))])
 (.seq (.draw (.calm (Oa s3 0 s1) (.calm (Ol s4 s3) (.calm (Of s5 (qMki 27 (.t s4))) (.calm (Oa s6 1 s1) (.calm (Ol s7 s6) (.calm (Of s8 (qLenS (.t s7))) (.calm (Of s9 (qConv .u32 (.t s8))) (.calm (Of s10 (qMki 27 (.t s9))) (.calm (Oq s11 (.alloc (aBsl 1 2 [.niliface] [(0, (1, (.t s5))), (1, (1, (.t s10)))]))) (.calm (Oa s14 1 s1) (.calm (Ol s15 s14) (.last ⟨(Oc s12 43 [(.t s11)]), [(Ol s15 s14)]⟩ (.calm (Of s13 (qBin .add (.c (.str [73, 72, 65, 86, 69, 79, 80, 84])) (.t s12))) .fin))))))))))))) [(Ob .add s16 s13 s15), (Om s2 s16)])
 .ret))⟩
def c38 : AFunc :=
 ⟨30, [(.cellN 3 s4), (.tmp s5), (.tmp s6)], (.seq (.ops [(Oq s4 (.alloc (aBox (.c (.agg [(.int .u32 0), (.int .u32 0), (.str [])]))))), (OK s5 (.int .i64 0)), (OK s6 (.int .i64 0))])
 (.seq (.seq (.ops [(Om s8 s0), (Oc s9 51 [(.t s8), (.c (.str [0, 3, 232, 137, 4, 85, 101, 169]))]), (Ou s10 s9)])
 (.cond (.t s10) (.seq (.ops [(Of s11 (qBld [(.int .u32 0), (.int .u32 0), (.str [])] [])), (On (.loud (lSto 3 (.t s4) (.t s11)))), (OK s5 (.int .i64 0)), (OK s6 (.int .i64 8))])
 .ret) .skip))
 (.seq (.ops [(Om s13 s0), (Om s14 s1), (Oc s15 52 [(.t s13), (.c (.int .i64 20)), (.t s14)]), (Om s12 s15), (Oe s16 0 s12), (Oe s17 1 s12), (Oe s18 2 s12), (Om s7 s16), (Om s5 s17), (Om s6 s18)])
 (.seq (.seq (.ops [(Om s19 s5), (Ok .eql s20 s19 0)])
 (.cond (.t s20) (.seq (.ops [(Of s21 (qBld [(.int .u32 0), (.int .u32 0), (.str [])] [])), (Om s22 s6), (On (.loud (lSto 3 (.t s4) (.t s21)))), (OK s5 (.int .i64 0)), (Om s6 s22)])
 .ret) .skip))
 (.seq (.ops [(Om s23 s0), (Oc s24 53 [(.t s23), (.c (.int .i64 8))]), (Om s25 s0), (Oc s26 53 [(.t s25), (.c (.int .i64 12))]), (Om s27 s7), (Of s28 (qBld [(.int .u32 0), (.int .u32 0), (.str [])] [(0, (1, (.t s24))), (1, (1, (.t s26))), (2, (1, (.t s27)))])), (Om s29 s5), (On (.loud (lSto 3 (.t s4) (.t s28)))), (Om s5 s29), (OK s6 (.int .i64 0))])
 .ret)))))⟩
def c39 : AFunc :=
 ⟨20, [(.tmp s6), (.tmp s7)], (.seq (.ops [(OK s6 (.int .u64 0)), (OK s7 (.bool false))])
 (.seq (.ops [(Om s11 s0), (Om s12 s1), (Om s13 s2), (Oc s14 54 [(.t s11), (.t s12), (.t s13)]), (Om s10 s14), (Oe s15 0 s10), (Oe s16 1 s10), (Om s8 s15), (Om s9 s16)])
 (.seq (.ops [(Om s17 s8), (Oc s18 55 [(.t s17)]), (Om s19 s9), (Om s6 s18), (Om s7 s19)])
 .ret)))⟩
def c40 : AFunc :=
 ⟨115, [(.tmp s2)], (.seq (.ops [(OK s2 (.int .i64 0))])
 (.seq (.ops [(Om s11 s0), (Of s12 (qNilck (.t s11))), (Oa s13 8 s12), (Ol s14 s13), (Oc s15 56 [(.t s14), (.c (.int .i64 1032))]), (Om s10 s15), (Oe s16 0 s10), (Oe s17 1 s10), (Oe s18 2 s10), (Oq s3 (.alloc (aBox (.c (.agg [(.int .u16 0), (.int .u16 0), (.int .u64 0), (.str [])]))))), (On (.loud (lSto 4 (.t s3) (.t s16)))), (Om s4 s17), (Om s5 s18)])
 (.seq (.seq (.ops [(Om s19 s5), (Ok .neq s20 s19 0)])
 (.cond (.t s20) (.seq (.ops [(Om s21 s0), (Oc s22 35 [(.t s21)])])
 (.seq (.ops [(OK s2 (.int .i64 0))])
 .ret)) .skip))
 (.seq (.seq (.ops [(Om s23 s4), (Ok .eql s24 s23 0)])
 (.cond (.t s24) (.seq (.ops [(OK s2 (.int .i64 0))])
 .ret) .skip))
 (.seq (.draw (.calm (Om s26 s0) (.calm (Of s27 (qNilck (.t s26))) (.calm (Oa s28 10 s27) (.calm (Ol s29 s28) (.calm (Oa s30 2 s3) (.calm (Ol s31 s30) (.calm (Og s32 (qLook (.one .int) true .nilptr (.t s29) (.t s31))) (.calm (Om s25 s32) (.calm (Oe s33 0 s25) (.calm (Oe s34 1 s25) (.calm (Om s6 s33) .fin))))))))))) [(Om s7 s34)])
 (.seq (.seq (.ops [(Om s35 s7), (Ou s36 s35), (Om s37 s36), (Ga s38 1 s3 s37 false), (Gl s39 s38 s37 false), (Gq s40 (.quiet false (qBin .eql (.t s39) (.c (.int .u16 1)))) s37 false), (Gm s41 s40 s37 false), (Gm s42 s6 s41 true), (Ga s43 3 s3 s41 true), (Gl s44 s43 s41 true), (Gq s45 (.call (.c (.func (.func 57) [] [])) [(.t s42), (.t s44)]) s41 true), (Gq s46 (.quiet false (qUn .not (.t s45))) s41 true), (Gy s47 s41 s46 s37 false), (Oz s48 s37 s47)])
 (.cond (.t s48) (.seq (.ops [(Om s49 s0), (Oc s50 35 [(.t s49)])])
 (.seq (.ops [(OK s2 (.int .i64 0))])
 .ret)) .skip))
 (.seq (.seq (.ops [(Oa s51 1 s3), (Ol s52 s51), (Of s53 (qBin .geq (.t s52) (.c (.int .u16 32768))))])
 (.cond (.t s53) (.seq (.ops [(Om s54 s6), (Of s55 (qNilck (.t s54))), (Oa s56 7 s55), (On (.loud (lSto 1 (.t s56) (.c (.int .u32 5)))))])
 (.seq (.ops [(Oa s58 3 s3), (Ol s59 s58), (Oc s60 39 [(.t s59), (.c (.int .i64 0)), (.c (.int .i64 4))]), (Om s57 s60), (Oe s61 0 s57), (Oe s62 1 s57), (Om s8 s61), (Om s9 s62)])
 (.seq (.ops [(Om s63 s9)])
 (.cond (.t s63) (.ops [(Om s64 s6), (Om s65 s8), (Of s66 (qConv .u32 (.t s65))), (Of s67 (qNilck (.t s64))), (Oa s68 7 s67), (On (.loud (lSto 1 (.t s68) (.t s66))))]) .skip)))) .skip))
 (.seq (.seq (.ops [(Oa s69 0 s3), (Ol s70 s69), (Of s71 (qBin .and (.t s70) (.c (.int .u16 1)))), (Of s72 (qBin .neq (.t s71) (.c (.int .u16 0))))])
 (.cond (.t s72) (.seq (.seq (.draw (.calm (Om s73 s6) (.calm (Of s74 (qNilck (.t s73))) (.calm (Oa s75 7 s74) (.calm (Ol s76 s75) (.calm (Of s77 (qBin .eql (.t s76) (.c (.int .u32 0)))) (.calm (Om s78 s77) (.calm (Gm s79 s6 s78 true) (.calm (Gq s80 (.quiet false (qNilck (.t s79))) s78 true) (.calm (Ga s81 0 s80 s78 true) (.calm (Ga s82 1 s81 s78 true) (.calm (Gl s83 s82 s78 true) (.calm (Gq s84 (.quiet false (qBin .eql (.t s83) (.c (.int .u16 0)))) s78 true) (.calm (Oy s85 s78 s84) (.calm (Om s86 s85) (.calm (Gm s87 s6 s86 true) (.calm (Gq s88 (.quiet false (qNilck (.t s87))) s86 true) (.calm (Ga s89 6 s88 s86 true) (.calm (Gl s90 s89 s86 true) (.calm (Gq s91 (.quiet false (qLenS (.t s90))) s86 true) (.calm (Gm s92 s6 s86 true) (.calm (Gq s93 (.quiet false (qNilck (.t s92))) s86 true) (.calm (Ga s94 0 s93 s86 true) (.calm (Ga s95 4 s94 s86 true) (.calm (Gl s96 s95 s86 true) (.calm (Gq s97 (.quiet false (qConv .i64 (.t s96))) s86 true) .fin))))))))))))))))))))))))) [(Gb .lss s98 s91 s97 s86 true), (Oy s99 s86 s98)])
 (.cond (.t s99) (.seq (.ops [(Om s100 s0), (Oc s101 35 [(.t s100)])])
 (.seq (.ops [(OK s2 (.int .i64 0))])
 .ret)) .skip))
 (.draw (.calm (Om s102 s0) (.calm (Oa s103 2 s3) (.calm (Ol s104 s103) (.calm (Om s105 s6) (.calm (Of s106 (qNilck (.t s105))) (.calm (Oa s107 7 s106) (.calm (Ol s108 s107) (.calm (Om s109 s6) (.calm (Of s110 (qNilck (.t s109))) (.calm (Oa s111 6 s110) (.calm (Ol s112 s111) .fin))))))))))) [(Oc s113 42 [(.t s102), (.t s104), (.t s108), (.t s112)])])) .skip))
 (.seq (.ops [(Om s114 s4), (Om s2 s114)])
 .ret)))))))))⟩
def c41 : AFunc :=
 ⟨42, [(.cellN 3 s4), (.tmp s5), (.tmp s6)], (.seq (.ops [(Oq s4 (.alloc (aBox (.c (.agg [(.int .u32 0), (.int .u64 0), (.str [])]))))), (OK s5 (.int .i64 0)), (OK s6 (.int .i64 0))])
 (.seq (.seq (.ops [(Om s7 s0), (Oc s8 51 [(.t s7), (.c (.str [103, 68, 102, 152]))]), (Ou s9 s8)])
 (.cond (.t s9) (.seq (.ops [(Of s10 (qBld [(.int .u32 0), (.int .u64 0), (.str [])] [])), (On (.loud (lSto 3 (.t s4) (.t s10)))), (OK s5 (.int .i64 0)), (OK s6 (.int .i64 8))])
 .ret) .skip))
 (.seq (.seq (.ops [(Om s11 s0), (Of s12 (qLenS (.t s11))), (Ok .lss s13 s12 16)])
 (.cond (.t s13) (.seq (.ops [(Of s14 (qBld [(.int .u32 0), (.int .u64 0), (.str [])] [])), (On (.loud (lSto 3 (.t s4) (.t s14)))), (OK s5 (.int .i64 0)), (OK s6 (.int .i64 0))])
 .ret) .skip))
 (.seq (.ops [(Om s15 s0), (Oc s16 53 [(.t s15), (.c (.int .i64 4))]), (Om s17 s0), (Oc s18 58 [(.t s17), (.c (.int .i64 8))]), (Of s19 (qBld [(.int .u32 0), (.int .u64 0), (.str [])] [(0, (1, (.t s16))), (1, (1, (.t s18)))])), (On (.loud (lSto 3 (.t s4) (.t s19))))])
 (.seq (.ops [(OK s5 (.int .i64 16))])
 (.seq (.seq (.ops [(Oa s20 0 s4), (Ol s21 s20), (Of s22 (qBin .eql (.t s21) (.c (.int .u32 0)))), (Om s23 s22), (Gm s24 s1 s23 true), (Gk .gtr s25 s24 0 s23 true), (Oy s26 s23 s25)])
 (.cond (.t s26) (.seq (.seq (.ops [(Om s27 s0), (Of s28 (qLenS (.t s27))), (Ok .sub s29 s28 16), (Om s30 s1), (Ob .lss s31 s29 s30)])
 (.cond (.t s31) (.seq (.ops [(Of s32 (qBld [(.int .u32 0), (.int .u64 0), (.str [])] [])), (On (.loud (lSto 3 (.t s4) (.t s32)))), (OK s5 (.int .i64 0)), (OK s6 (.int .i64 0))])
 .ret) .skip))
 (.seq (.ops [(Om s33 s5), (Om s34 s1), (Ob .add s35 s33 s34), (Om s5 s35)])
 (.ops [(Om s36 s0), (Om s37 s5), (Of s38 (qSlcStr (.t s36) (some (.c (.int .i64 16))) (some (.t s37)))), (Oa s39 2 s4), (On (.loud (lSto 1 (.t s39) (.t s38))))]))) .skip))
 (.seq (.ops [(OL s40 3 s4), (Om s41 s5), (On (.loud (lSto 3 (.t s4) (.t s40)))), (Om s5 s41), (OK s6 (.int .i64 0))])
 .ret)))))))⟩
def c42 : AFunc :=
 ⟨42, [], (.seq (.seq (.ops [(Om s8 s2), (Of s9 (qBin .neq (.t s8) (.c (.int .u32 0))))])
 (.cond (.t s9) (.ops [(OK s3 (.str []))]) .skip))
 (.seq (.ops [(Om s10 s0), (Of s11 (qNilck (.t s10))), (Oa s12 10 s11), (Ol s13 s12), (Om s14 s1), (On (.loud (lMdel (.one .int) (.t s13) (.t s14))))])
 (.seq (.ops [(Om s15 s0), (Om s16 s0), (Of s17 (qNilck (.t s16))), (Oa s18 12 s17), (Ol s19 s18), (Om s20 s2), (Om s21 s1), (Om s22 s3), (Of s23 (qBld [(.int .u32 0), (.int .u64 0), (.str [])] [(0, (1, (.t s20))), (1, (1, (.t s21))), (2, (1, (.t s22)))])), (Oq s24 (.alloc (aBsl 3 1 [(.int .u32 0), (.int .u64 0), (.str [])] [(0, (3, (.t s23)))]))), (Oq s25 (.loud (lApp 3 32 (.t s19) (.t s24)))), (Of s26 (qNilck (.t s15))), (Oa s27 12 s26), (On (.loud (lSto 1 (.t s27) (.t s25))))])
 (.seq (.ops [(Om s28 s0), (Of s29 (qNilck (.t s28))), (Oa s30 5 s29), (Ol s31 s30), (Om s32 s31), (Gm s33 s0 s32 true), (Gq s34 (.quiet false (qNilck (.t s33))) s32 true), (Ga s35 10 s34 s32 true), (Gl s36 s35 s32 true), (Gq s37 (.quiet true (qLenM (.t s36))) s32 true), (Gk .eql s38 s37 0 s32 true), (Oy s39 s32 s38)])
 (.cond (.t s39) (.ops [(Om s40 s0), (Oc s41 35 [(.t s40)])]) .skip)))))⟩
def c43l0 : ACode :=
 (.seq (.ops [(Ob .lss s12 s11 s10)])
 (.seq (.cond (.t s12) .skip (.exit 0))
 (.seq (.block 1 (.seq (.ops [(Of s13 (qIaddrS 1 (.t s9) (.t s11))), (Ol s14 s13), (Om s5 s14)])
 (.seq (.ops [(Om s15 s5)])
 (.block 2 (.seq (.ops [(Of s16 (qTa 28 true (.int .u16 0) (.t s15))), (Oe s17 1 s16), (Oe s18 0 s16)])
 (.cond (.t s17) (.seq (.ops [(Om s6 s18)])
 (.ops [(Om s19 s3), (Om s20 s6), (Of s21 (qConv .u64 (.t s20))), (Oc s22 59 [(.t s19), (.t s21), (.c (.int .i64 2))]), (Om s3 s22)])) (.seq (.ops [(Of s23 (qTa 27 true (.int .u32 0) (.t s15))), (Oe s24 1 s23), (Oe s25 0 s23)])
 (.cond (.t s24) (.seq (.ops [(Om s7 s25)])
 (.ops [(Om s26 s3), (Om s27 s7), (Of s28 (qConv .u64 (.t s27))), (Oc s29 59 [(.t s26), (.t s28), (.c (.int .i64 4))]), (Om s3 s29)])) (.seq (.ops [(Of s30 (qTa 29 true (.int .u64 0) (.t s15))), (Oe s31 1 s30), (Oe s32 0 s30)])
 (.cond (.t s31) (.seq (.ops [(Om s8 s32)])
 (.ops [(Om s33 s3), (Om s34 s8), (Oc s35 59 [(.t s33), (.t s34), (.c (.int .i64 8))]), (Om s3 s35)])) .skip))))))))))
 (.ops [(Ok .add s36 s11 1), (Om s11 s36)]))))
def c43 : AFunc :=
 ⟨39, [(.tmp s2)], (.seq (.ops [(OK s2 (.str []))])
 (.seq (.ops [(OK s3 .nilslice)])
 (.seq (.seq (.ops [(Om s9 s0), (Of s10 (qLenL (.t s9))), (OK s11 (.int .i64 0))])
 (.block 0 (.loop c43l0)))
 (.seq (.ops [(Om s37 s3), (Og s38 (qB2s (.t s37))), (Om s2 s38)])
 .ret))))⟩
def c44 : AFunc :=
 ⟨17, [(.tmp s4), (.tmp s5)], (.seq (.ops [(OK s4 (.int .u32 0)), (OK s5 (.int .u32 0))])
 (.seq (.ops [(Om s7 s0), (Of s8 (qConv .u64 (.t s7))), (Om s9 s1), (Of s10 (qConv .u64 (.t s9))), (Ob .mul s11 s8 s10), (Om s6 s11)])
 (.seq (.ops [(Om s12 s6), (Of s13 (qBin .shr (.t s12) (.c (.int .u64 32)))), (Of s14 (qConv .u32 (.t s13))), (Om s15 s6), (Of s16 (qConv .u32 (.t s15))), (Om s4 s14), (Om s5 s16)])
 .ret)))⟩
def c45 : AFunc :=
 ⟨51, [(.tmp s4), (.tmp s5)], (.seq (.ops [(OK s4 (.int .u64 0)), (OK s5 (.int .u64 0))])
 (.seq (.ops [(Om s14 s0), (Of s15 (qBin .and (.t s14) (.c (.int .u64 4294967295)))), (Om s6 s15)])
 (.seq (.ops [(Om s16 s0), (Of s17 (qBin .shr (.t s16) (.c (.int .u64 32)))), (Om s7 s17)])
 (.seq (.ops [(Om s18 s1), (Of s19 (qBin .and (.t s18) (.c (.int .u64 4294967295)))), (Om s8 s19)])
 (.seq (.ops [(Om s20 s1), (Of s21 (qBin .shr (.t s20) (.c (.int .u64 32)))), (Om s9 s21)])
 (.seq (.ops [(Om s22 s6), (Om s23 s8), (Ob .mul s24 s22 s23), (Om s10 s24)])
 (.seq (.ops [(Om s25 s7), (Om s26 s8), (Ob .mul s27 s25 s26), (Om s28 s10), (Of s29 (qBin .shr (.t s28) (.c (.int .u64 32)))), (Ob .add s30 s27 s29), (Om s11 s30)])
 (.seq (.ops [(Om s31 s11), (Of s32 (qBin .and (.t s31) (.c (.int .u64 4294967295)))), (Om s12 s32)])
 (.seq (.ops [(Om s33 s11), (Of s34 (qBin .shr (.t s33) (.c (.int .u64 32)))), (Om s13 s34)])
 (.seq (.ops [(Om s35 s12), (Om s36 s6), (Om s37 s9), (Ob .mul s38 s36 s37), (Ob .add s39 s35 s38), (Om s12 s39)])
 (.seq (.ops [(Om s40 s7), (Om s41 s9), (Ob .mul s42 s40 s41), (Om s43 s13), (Ob .add s44 s42 s43), (Om s45 s12), (Of s46 (qBin .shr (.t s45) (.c (.int .u64 32)))), (Ob .add s47 s44 s46), (Om s4 s47)])
 (.seq (.ops [(Om s48 s0), (Om s49 s1), (Ob .mul s50 s48 s49), (Om s5 s50)])
 .ret))))))))))))⟩
def c46 : AFunc :=
 ⟨18, [(.tmp s4)], (.seq (.ops [(OK s4 (.bool false))])
 (.seq (.ops [(Om s5 s0), (Of s6 (qLenS (.t s5))), (Om s7 s1), (Of s8 (qLenS (.t s7))), (Ob .geq s9 s6 s8), (Om s10 s9), (Gm s11 s0 s10 true), (Gm s12 s1 s10 true), (Gq s13 (.quiet false (qLenS (.t s12))) s10 true), (Gq s14 (.quiet false (qSlcStr (.t s11) none (some (.t s13)))) s10 true), (Gm s15 s1 s10 true), (Gb .eql s16 s14 s15 s10 true), (Oy s17 s10 s16), (Om s4 s17)])
 .ret))⟩
def c49l0 : ACode :=
 (.seq (.ops [(Ob .lss s17 s16 s15)])
 (.seq (.cond (.t s17) .skip (.exit 0))
 (.seq (.block 1 (.seq (.ops [(Om s18 s16), (Om s6 s18)])
 (.ops [(Om s19 s5), (Om s20 s6), (Om s21 s0), (Om s22 s6), (Of s23 (qBin .mul (.c (.int .i64 8)) (.t s22))), (Ob .shr s24 s21 s23), (Of s25 (qConv .u8 (.t s24))), (Of s26 (qIaddrS 1 (.t s19) (.t s20))), (On (.loud (lSto 1 (.t s26) (.t s25))))])))
 (.ops [(Ok .add s27 s16 1), (Om s16 s27)]))))
def c49 : AFunc :=
 ⟨30, [(.tmp s4)], (.seq (.ops [(OK s4 (.str []))])
 (.seq (.seq (.ops [(Om s7 s1), (Ok .lss s8 s7 1), (Om s9 s8), (Gm s10 s1 s9 false), (Gk .gtr s11 s10 8 s9 false), (Oz s12 s9 s11)])
 (.cond (.t s12) (.seq (.ops [(OK s4 (.str []))])
 .ret) .skip))
 (.seq (.ops [(Om s13 s1), (Oq s14 (.alloc (aMks 1 1 [(.int .u8 0)] (.t s13) (.t s13)))), (Om s5 s14)])
 (.seq (.seq (.ops [(Om s15 s1), (OK s16 (.int .i64 0))])
 (.block 0 (.loop c49l0)))
 (.seq (.ops [(Om s28 s5), (Og s29 (qB2s (.t s28))), (Om s4 s29)])
 .ret)))))⟩
def c50l0 : ACode :=
 (.seq (.seq (.ops [(Om s7 s2), (Om s8 s3), (Ob .lss s9 s7 s8)])
 (.cond (.t s9) .skip (.exit 0)))
 (.seq (.block 1 (.draw (.calm (Om s14 s0) (.calm (Om s15 s2) (.calm (Om s16 s0) (.calm (Om s17 s3) (.calm (Om s18 s0) (.calm (Om s19 s3) (.calm (Of s20 (qIaddrS 1 (.t s18) (.t s19))) (.calm (Ol s21 s20) (.calm (Om s22 s0) (.calm (Om s23 s2) (.calm (Of s24 (qIaddrS 1 (.t s22) (.t s23))) (.calm (Ol s25 s24) (.calm (Of s26 (qIaddrS 1 (.t s14) (.t s15))) (.last ⟨(On (.loud (lSto 1 (.t s26) (.t s21)))), []⟩ .fin)))))))))))))) [(Of s27 (qIaddrS 1 (.t s16) (.t s17))), (On (.loud (lSto 1 (.t s27) (.t s25))))]))
 (.ops [(Om s10 s2), (Ok .add s11 s10 1), (Om s12 s3), (Ok .sub s13 s12 1), (Om s2 s11), (Om s3 s13)])))
def c50 : AFunc :=
 ⟨28, [], (.seq (.ops [(Om s4 s0), (Of s5 (qLenL (.t s4))), (Ok .sub s6 s5 1), (OK s2 (.int .i64 0)), (Om s3 s6)])
 (.block 0 (.loop c50l0)))⟩
def c51 : AFunc :=
 ⟨16, [(.tmp s4)], (.seq (.ops [(OK s4 (.bool false))])
 (.seq (.ops [(Om s6 s0), (Of s7 (qLenS (.t s6))), (Om s8 s1), (Of s9 (qLenS (.t s8))), (Of s10 (qMini [(.t s7), (.t s9)])), (Om s5 s10)])
 (.seq (.ops [(Om s11 s1), (Om s12 s0), (Om s13 s5), (Of s14 (qSlcStr (.t s12) none (some (.t s13)))), (Oc s15 28 [(.t s11), (.t s14)]), (Om s4 s15)])
 .ret)))⟩
def c52 : AFunc :=
 ⟨43, [(.tmp s6), (.tmp s7), (.tmp s8)], (.seq (.ops [(OK s6 (.str [])), (OK s7 (.int .i64 0)), (OK s8 (.int .i64 0))])
 (.seq (.seq (.ops [(Om s10 s0), (Of s11 (qLenS (.t s10))), (Om s12 s1), (Ob .lss s13 s11 s12)])
 (.cond (.t s13) (.seq (.ops [(OK s6 (.str [])), (OK s7 (.int .i64 0)), (OK s8 (.int .i64 0))])
 .ret) .skip))
 (.seq (.ops [(Om s14 s0), (Om s15 s1), (Ok .sub s16 s15 4), (Oc s17 53 [(.t s14), (.t s16)]), (Of s18 (qConv .u64 (.t s17))), (Om s9 s18)])
 (.seq (.seq (.ops [(Om s19 s2), (Ok .lss s20 s19 0), (Om s21 s20), (Gm s22 s9 s21 false), (Gm s23 s2 s21 false), (Gq s24 (.quiet false (qConv .u64 (.t s23))) s21 false), (Gb .gtr s25 s22 s24 s21 false), (Oz s26 s21 s25)])
 (.cond (.t s26) (.seq (.ops [(OK s6 (.str [])), (OK s7 (.int .i64 0)), (OK s8 (.int .i64 1))])
 .ret) .skip))
 (.seq (.seq (.ops [(Om s27 s0), (Of s28 (qLenS (.t s27))), (Om s29 s1), (Ob .sub s30 s28 s29), (Of s31 (qConv .u64 (.t s30))), (Om s32 s9), (Ob .lss s33 s31 s32)])
 (.cond (.t s33) (.seq (.ops [(OK s6 (.str [])), (OK s7 (.int .i64 0)), (OK s8 (.int .i64 0))])
 .ret) .skip))
 (.seq (.ops [(Om s34 s1), (Om s35 s9), (Of s36 (qConv .i64 (.t s35))), (Ob .add s37 s34 s36), (Om s7 s37)])
 (.seq (.ops [(Om s38 s0), (Om s39 s1), (Om s40 s7), (Of s41 (qSlcStr (.t s38) (some (.t s39)) (some (.t s40)))), (Om s42 s7), (Om s6 s41), (Om s7 s42), (OK s8 (.int .i64 0))])
 .ret)))))))⟩
def c53 : AFunc :=
 ⟨12, [(.tmp s4)], (.seq (.ops [(OK s4 (.int .u32 0))])
 (.seq (.ops [(Om s5 s0), (Om s6 s1), (Om s7 s1), (Ok .add s8 s7 4), (Of s9 (qSlcStr (.t s5) (some (.t s6)) (some (.t s8)))), (Oc s10 62 [(.t s9)]), (Of s11 (qConv .u32 (.t s10))), (Om s4 s11)])
 .ret))⟩
def c54 : AFunc :=
 ⟨39, [(.tmp s6), (.tmp s7)], (.seq (.ops [(OK s6 .nilslice), (OK s7 (.bool false))])
 (.seq (.seq (.ops [(Om s8 s2), (Ok .lss s9 s8 1), (Om s10 s9), (Gm s11 s2 s10 false), (Gk .gtr s12 s11 8 s10 false), (Oz s13 s10 s12), (Om s14 s13), (Gm s15 s1 s14 false), (Gk .lss s16 s15 0 s14 false), (Oz s17 s14 s16), (Om s18 s17), (Gm s19 s2 s18 false), (Gm s20 s0 s18 false), (Gq s21 (.quiet false (qLenS (.t s20))) s18 false), (Gb .gtr s22 s19 s21 s18 false), (Oz s23 s18 s22), (Om s24 s23), (Gm s25 s1 s24 false), (Gm s26 s0 s24 false), (Gq s27 (.quiet false (qLenS (.t s26))) s24 false), (Gm s28 s2 s24 false), (Gb .sub s29 s27 s28 s24 false), (Gb .gtr s30 s25 s29 s24 false), (Oz s31 s24 s30)])
 (.cond (.t s31) (.seq (.ops [(OK s6 .nilslice), (OK s7 (.bool false))])
 .ret) .skip))
 (.seq (.ops [(Om s32 s0), (Om s33 s1), (Om s34 s1), (Om s35 s2), (Ob .add s36 s34 s35), (Of s37 (qSlcStr (.t s32) (some (.t s33)) (some (.t s36)))), (Oq s38 (.alloc (aS2b (.t s37)))), (Om s6 s38), (OK s7 (.bool true))])
 .ret)))⟩
def c55l0 : ACode :=
 (.seq (.ops [(Ob .lss s8 s7 s6)])
 (.seq (.cond (.t s8) .skip (.exit 0))
 (.seq (.block 1 (.seq (.ops [(Om s9 s7), (Om s4 s9)])
 (.ops [(Om s10 s3), (Of s11 (qBin .shl (.t s10) (.c (.int .u64 8)))), (Om s12 s0), (Om s13 s4), (Of s14 (qIaddrS 1 (.t s12) (.t s13))), (Ol s15 s14), (Of s16 (qConv .u64 (.t s15))), (Ob .or s17 s11 s16), (Om s3 s17)])))
 (.ops [(Ok .add s18 s7 1), (Om s7 s18)]))))
def c55 : AFunc :=
 ⟨20, [(.tmp s2)], (.seq (.ops [(OK s2 (.int .u64 0))])
 (.seq (.ops [(OK s3 (.int .u64 0))])
 (.seq (.seq (.ops [(Om s5 s0), (Of s6 (qLenL (.t s5))), (OK s7 (.int .i64 0))])
 (.block 0 (.loop c55l0)))
 (.seq (.ops [(Om s19 s3), (Om s2 s19)])
 .ret))))⟩
def c56 : AFunc :=
 ⟨32, [(.cellN 4 s4), (.tmp s5), (.tmp s6)], (.seq (.ops [(Oq s4 (.alloc (aBox (.c (.agg [(.int .u16 0), (.int .u16 0), (.int .u64 0), (.str [])]))))), (OK s5 (.int .i64 0)), (OK s6 (.int .i64 0))])
 (.seq (.seq (.ops [(Om s8 s0), (Oc s9 51 [(.t s8), (.c (.str [102, 142, 51, 239]))]), (Ou s10 s9)])
 (.cond (.t s10) (.seq (.ops [(Of s11 (qBld [(.int .u16 0), (.int .u16 0), (.int .u64 0), (.str [])] [])), (On (.loud (lSto 4 (.t s4) (.t s11)))), (OK s5 (.int .i64 0)), (OK s6 (.int .i64 8))])
 .ret) .skip))
 (.seq (.ops [(Om s13 s0), (Om s14 s1), (Oc s15 52 [(.t s13), (.c (.int .i64 20)), (.t s14)]), (Om s12 s15), (Oe s16 0 s12), (Oe s17 1 s12), (Oe s18 2 s12), (Om s7 s16), (Om s5 s17), (Om s6 s18)])
 (.seq (.seq (.ops [(Om s19 s5), (Ok .eql s20 s19 0)])
 (.cond (.t s20) (.seq (.ops [(Of s21 (qBld [(.int .u16 0), (.int .u16 0), (.int .u64 0), (.str [])] [])), (Om s22 s6), (On (.loud (lSto 4 (.t s4) (.t s21)))), (OK s5 (.int .i64 0)), (Om s6 s22)])
 .ret) .skip))
 (.seq (.ops [(Om s23 s0), (Oc s24 63 [(.t s23), (.c (.int .i64 4))]), (Om s25 s0), (Oc s26 63 [(.t s25), (.c (.int .i64 6))]), (Om s27 s0), (Oc s28 58 [(.t s27), (.c (.int .i64 8))]), (Om s29 s7), (Of s30 (qBld [(.int .u16 0), (.int .u16 0), (.int .u64 0), (.str [])] [(0, (1, (.t s24))), (1, (1, (.t s26))), (2, (1, (.t s28))), (3, (1, (.t s29)))])), (Om s31 s5), (On (.loud (lSto 4 (.t s4) (.t s30)))), (Om s5 s31), (OK s6 (.int .i64 0))])
 .ret)))))⟩
def c57 : AFunc :=
 ⟨65, [(.tmp s4)], (.seq (.ops [(OK s4 (.bool false))])
 (.seq (.ops [(Om s8 s1), (Oc s9 39 [(.t s8), (.c (.int .i64 0)), (.c (.int .i64 8))]), (Om s7 s9), (Oe s10 0 s7), (Oe s11 1 s7), (Om s5 s10), (Om s6 s11)])
 (.seq (.seq (.draw (.calm (Om s12 s6) (.calm (Ou s13 s12) (.calm (Om s14 s13) (.calm (Gm s15 s0 s14 false) (.calm (Gq s16 (.quiet false (qNilck (.t s15))) s14 false) (.calm (Ga s17 0 s16 s14 false) (.calm (Ga s18 1 s17 s14 false) (.calm (Gl s19 s18 s14 false) (.calm (Gq s20 (.quiet false (qBin .neq (.t s19) (.c (.int .u16 0)))) s14 false) (.calm (Oz s21 s14 s20) (.calm (Om s22 s21) (.calm (Gm s23 s5 s22 false) (.calm (Gm s24 s0 s22 false) (.calm (Gq s25 (.quiet false (qNilck (.t s24))) s22 false) (.calm (Ga s26 0 s25 s22 false) (.calm (Ga s27 3 s26 s22 false) (.calm (Gl s28 s27 s22 false) (.calm (Gm s29 s0 s22 false) (.calm (Gq s30 (.quiet false (qNilck (.t s29))) s22 false) (.calm (Ga s31 6 s30 s22 false) (.calm (Gl s32 s31 s22 false) (.calm (Gq s33 (.quiet false (qLenS (.t s32))) s22 false) (.calm (Gq s34 (.quiet false (qConv .u64 (.t s33))) s22 false) (.calm (Gb .add s35 s28 s34 s22 false) (.calm (Gb .neq s36 s23 s35 s22 false) (.calm (Oz s37 s22 s36) (.calm (Om s38 s37) (.calm (Gm s39 s1 s38 false) (.calm (Gq s40 (.quiet false (qLenS (.t s39))) s38 false) (.calm (Gk .sub s41 s40 8 s38 false) (.calm (Gm s42 s0 s38 false) (.calm (Gq s43 (.quiet false (qNilck (.t s42))) s38 false) (.calm (Ga s44 0 s43 s38 false) (.calm (Ga s45 4 s44 s38 false) (.calm (Gl s46 s45 s38 false) (.calm (Gq s47 (.quiet false (qConv .i64 (.t s46))) s38 false) (.calm (Gm s48 s0 s38 false) (.calm (Gq s49 (.quiet false (qNilck (.t s48))) s38 false) (.calm (Ga s50 6 s49 s38 false) (.calm (Gl s51 s50 s38 false) (.calm (Gq s52 (.quiet false (qLenS (.t s51))) s38 false) (.calm (Gb .sub s53 s47 s52 s38 false) .fin)))))))))))))))))))))))))))))))))))))))))) [(Gb .gtr s54 s41 s53 s38 false), (Oz s55 s38 s54)])
 (.cond (.t s55) (.seq (.ops [(OK s4 (.bool false))])
 .ret) .skip))
 (.seq (.draw (.calm (Om s56 s0) (.calm (Of s57 (qNilck (.t s56))) (.calm (Oa s58 6 s57) (.calm (Ol s59 s58) (.calm (Om s60 s1) (.calm (Of s61 (qSlcStr (.t s60) (some (.c (.int .i64 8))) none)) .fin)))))) [(Ob .add s62 s59 s61), (Of s63 (qNilck (.t s56))), (Oa s64 6 s63), (On (.loud (lSto 1 (.t s64) (.t s62))))])
 (.seq (.ops [(OK s4 (.bool true))])
 .ret)))))⟩
def c58 : AFunc :=
 ⟨11, [(.tmp s4)], (.seq (.ops [(OK s4 (.int .u64 0))])
 (.seq (.ops [(Om s5 s0), (Om s6 s1), (Om s7 s1), (Ok .add s8 s7 8), (Of s9 (qSlcStr (.t s5) (some (.t s6)) (some (.t s8)))), (Oc s10 62 [(.t s9)]), (Om s4 s10)])
 .ret))⟩
def c59l0 : ACode :=
 (.seq (.seq (.ops [(Om s10 s7), (Ok .geq s11 s10 0)])
 (.cond (.t s11) .skip (.exit 0)))
 (.seq (.block 1 (.ops [(Om s14 s0), (Om s15 s1), (Om s16 s7), (Of s17 (qBin .mul (.c (.int .i64 8)) (.t s16))), (Ob .shr s18 s15 s17), (Of s19 (qConv .u8 (.t s18))), (Oq s20 (.alloc (aBsl 1 1 [(.int .u8 0)] [(0, (1, (.t s19)))]))), (Oq s21 (.loud (lApp 1 1 (.t s14) (.t s20)))), (Om s0 s21)]))
 (.ops [(Om s12 s7), (Ok .sub s13 s12 1), (Om s7 s13)])))
def c59 : AFunc :=
 ⟨23, [(.tmp s6)], (.seq (.ops [(OK s6 .nilslice)])
 (.seq (.seq (.ops [(Om s8 s2), (Ok .sub s9 s8 1), (Om s7 s9)])
 (.block 0 (.loop c59l0)))
 (.seq (.ops [(Om s22 s0), (Om s6 s22)])
 .ret)))⟩
def c62l0 : ACode :=
 (.seq (.ops [(Ob .lss s8 s7 s6)])
 (.seq (.cond (.t s8) .skip (.exit 0))
 (.seq (.block 1 (.seq (.ops [(Om s9 s7), (Om s4 s9)])
 (.ops [(Om s10 s3), (Of s11 (qBin .shl (.t s10) (.c (.int .u64 8)))), (Om s12 s0), (Om s13 s4), (Of s14 (qIdxS (.t s12) (.t s13))), (Of s15 (qConv .u64 (.t s14))), (Ob .or s16 s11 s15), (Om s3 s16)])))
 (.ops [(Ok .add s17 s7 1), (Om s7 s17)]))))
def c62 : AFunc :=
 ⟨19, [(.tmp s2)], (.seq (.ops [(OK s2 (.int .u64 0))])
 (.seq (.ops [(OK s3 (.int .u64 0))])
 (.seq (.seq (.ops [(Om s5 s0), (Of s6 (qLenS (.t s5))), (OK s7 (.int .i64 0))])
 (.block 0 (.loop c62l0)))
 (.seq (.ops [(Om s18 s3), (Om s2 s18)])
 .ret))))⟩
def c63 : AFunc :=
 ⟨12, [(.tmp s4)], (.seq (.ops [(OK s4 (.int .u16 0))])
 (.seq (.ops [(Om s5 s0), (Om s6 s1), (Om s7 s1), (Ok .add s8 s7 2), (Of s9 (qSlcStr (.t s5) (some (.t s6)) (some (.t s8)))), (Oc s10 62 [(.t s9)]), (Of s11 (qConv .u16 (.t s10))), (Om s4 s11)])
 .ret))⟩
def ft : FT :=
 (.node none (.node none (.node (some c3) (.node (some c7) (.node (some c15) (.node (some c31) (.node (some c63) .leaf .leaf) .leaf) .leaf) (.node (some c23) (.node (some c39) .leaf .leaf) (.node (some c55) .leaf .leaf))) (.node (some c11) (.node (some c19) (.node (some c35) .leaf .leaf) (.node (some c51) .leaf .leaf)) (.node (some c27) (.node (some c43) .leaf .leaf) (.node (some c59) .leaf .leaf)))) (.node (some c5) (.node (some c9) (.node (some c17) (.node (some c33) .leaf .leaf) (.node (some c49) .leaf .leaf)) (.node (some c25) (.node (some c41) .leaf .leaf) (.node (some c57) .leaf .leaf))) (.node (some c13) (.node (some c21) (.node (some c37) .leaf .leaf) (.node (some c53) .leaf .leaf)) (.node none (.node (some c45) .leaf .leaf) .leaf)))) (.node none (.node (some c4) (.node (some c8) (.node (some c16) .leaf .leaf) (.node (some c24) (.node (some c40) .leaf .leaf) (.node (some c56) .leaf .leaf))) (.node (some c12) (.node (some c20) (.node (some c36) .leaf .leaf) (.node (some c52) .leaf .leaf)) (.node (some c28) (.node (some c44) .leaf .leaf) .leaf))) (.node (some c6) (.node (some c10) (.node (some c18) (.node (some c34) .leaf .leaf) (.node (some c50) .leaf .leaf)) (.node (some c26) (.node (some c42) .leaf .leaf) (.node (some c58) .leaf .leaf))) (.node (some c14) (.node (some c22) (.node (some c38) .leaf .leaf) (.node (some c54) .leaf .leaf)) (.node (some c30) (.node (some c46) .leaf .leaf) (.node (some c62) .leaf .leaf))))))
theorem ok3 : FOk Try.prog 3 c3 := FOk.mk Try.func3 (by kernel_rfl) (by kernel_rfl)
theorem ok4 : FOk Try.prog 4 c4 := FOk.mk Try.func4 (by kernel_rfl) (by kernel_rfl)
theorem ok5 : FOk Try.prog 5 c5 := FOk.mk Try.func5 (by kernel_rfl) (by kernel_rfl)
theorem ok6 : FOk Try.prog 6 c6 := FOk.mk Try.func6 (by kernel_rfl) (by kernel_rfl)
theorem ok7 : FOk Try.prog 7 c7 := FOk.mk Try.func7 (by kernel_rfl) (by kernel_rfl)
theorem ok8 : FOk Try.prog 8 c8 := FOk.mk Try.func8 (by kernel_rfl) (by kernel_rfl)
theorem ok9 : FOk Try.prog 9 c9 := FOk.mk Try.func9 (by kernel_rfl) (by kernel_rfl)
theorem ok10 : FOk Try.prog 10 c10 := FOk.mk Try.func10 (by kernel_rfl) (by kernel_rfl)
theorem ok11 : FOk Try.prog 11 c11 := FOk.mk Try.func11 (by kernel_rfl) (by kernel_rfl)
theorem ok12 : FOk Try.prog 12 c12 := FOk.mk Try.func12 (by kernel_rfl) (by kernel_rfl)
theorem ok13 : FOk Try.prog 13 c13 := FOk.mk Try.func13 (by kernel_rfl) (by kernel_rfl)
theorem ok14 : FOk Try.prog 14 c14 := FOk.mk Try.func14 (by kernel_rfl) (by kernel_rfl)
theorem ok15 : FOk Try.prog 15 c15 := FOk.mk Try.func15 (by kernel_rfl) (by kernel_rfl)
theorem ok16 : FOk Try.prog 16 c16 := FOk.mk Try.func16 (by kernel_rfl) (by kernel_rfl)
theorem ok17 : FOk Try.prog 17 c17 := FOk.mk Try.func17 (by kernel_rfl) (by kernel_rfl)
theorem ok18 : FOk Try.prog 18 c18 := FOk.mk Try.func18 (by kernel_rfl) (by kernel_rfl)
theorem ok19 : FOk Try.prog 19 c19 := FOk.mk Try.func19 (by kernel_rfl) (by kernel_rfl)
theorem ok20 : FOk Try.prog 20 c20 := FOk.mk Try.func20 (by kernel_rfl) (by kernel_rfl)
theorem ok21 : FOk Try.prog 21 c21 := FOk.mk Try.func21 (by kernel_rfl) (by kernel_rfl)
theorem ok22 : FOk Try.prog 22 c22 := FOk.mk Try.func22 (by kernel_rfl) (by kernel_rfl)
theorem ok23 : FOk Try.prog 23 c23 := FOk.mk Try.func23 (by kernel_rfl) (by kernel_rfl)
theorem ok24 : FOk Try.prog 24 c24 := FOk.mk Try.func24 (by kernel_rfl) (by kernel_rfl)
theorem ok25 : FOk Try.prog 25 c25 := FOk.mk Try.func25 (by kernel_rfl) (by kernel_rfl)
theorem ok26 : FOk Try.prog 26 c26 := FOk.mk Try.func26 (by kernel_rfl) (by kernel_rfl)
theorem ok27 : FOk Try.prog 27 c27 := FOk.mk Try.func27 (by kernel_rfl) (by kernel_rfl)
theorem ok28 : FOk Try.prog 28 c28 := FOk.mk Try.func28 (by kernel_rfl) (by kernel_rfl)
theorem ok30 : FOk Try.prog 30 c30 := FOk.mk Try.func30 (by kernel_rfl) (by kernel_rfl)
theorem ok31 : FOk Try.prog 31 c31 := FOk.mk Try.func31 (by kernel_rfl) (by kernel_rfl)
theorem ok33 : FOk Try.prog 33 c33 := FOk.mk Try.func33 (by kernel_rfl) (by kernel_rfl)
theorem ok34 : FOk Try.prog 34 c34 := FOk.mk Try.func34 (by kernel_rfl) (by kernel_rfl)
theorem ok35 : FOk Try.prog 35 c35 := FOk.mk Try.func35 (by kernel_rfl) (by kernel_rfl)
theorem ok36 : FOk Try.prog 36 c36 := FOk.mk Try.func36 (by kernel_rfl) (by kernel_rfl)
theorem ok37 : FOk Try.prog 37 c37 := FOk.mk Try.func37 (by kernel_rfl) (by kernel_rfl)
theorem ok38 : FOk Try.prog 38 c38 := FOk.mk Try.func38 (by kernel_rfl) (by kernel_rfl)
theorem ok39 : FOk Try.prog 39 c39 := FOk.mk Try.func39 (by kernel_rfl) (by kernel_rfl)
theorem ok40 : FOk Try.prog 40 c40 := FOk.mk Try.func40 (by kernel_rfl) (by kernel_rfl)
theorem ok41 : FOk Try.prog 41 c41 := FOk.mk Try.func41 (by kernel_rfl) (by kernel_rfl)
theorem ok42 : FOk Try.prog 42 c42 := FOk.mk Try.func42 (by kernel_rfl) (by kernel_rfl)
theorem ok43 : FOk Try.prog 43 c43 := FOk.mk Try.func43 (by kernel_rfl) (by kernel_rfl)
theorem ok44 : FOk Try.prog 44 c44 := FOk.mk Try.func44 (by kernel_rfl) (by kernel_rfl)
theorem ok45 : FOk Try.prog 45 c45 := FOk.mk Try.func45 (by kernel_rfl) (by kernel_rfl)
theorem ok46 : FOk Try.prog 46 c46 := FOk.mk Try.func46 (by kernel_rfl) (by kernel_rfl)
theorem ok49 : FOk Try.prog 49 c49 := FOk.mk Try.func49 (by kernel_rfl) (by kernel_rfl)
theorem ok50 : FOk Try.prog 50 c50 := FOk.mk Try.func50 (by kernel_rfl) (by kernel_rfl)
theorem ok51 : FOk Try.prog 51 c51 := FOk.mk Try.func51 (by kernel_rfl) (by kernel_rfl)
theorem ok52 : FOk Try.prog 52 c52 := FOk.mk Try.func52 (by kernel_rfl) (by kernel_rfl)
theorem ok53 : FOk Try.prog 53 c53 := FOk.mk Try.func53 (by kernel_rfl) (by kernel_rfl)
theorem ok54 : FOk Try.prog 54 c54 := FOk.mk Try.func54 (by kernel_rfl) (by kernel_rfl)
theorem ok55 : FOk Try.prog 55 c55 := FOk.mk Try.func55 (by kernel_rfl) (by kernel_rfl)
theorem ok56 : FOk Try.prog 56 c56 := FOk.mk Try.func56 (by kernel_rfl) (by kernel_rfl)
theorem ok57 : FOk Try.prog 57 c57 := FOk.mk Try.func57 (by kernel_rfl) (by kernel_rfl)
theorem ok58 : FOk Try.prog 58 c58 := FOk.mk Try.func58 (by kernel_rfl) (by kernel_rfl)
theorem ok59 : FOk Try.prog 59 c59 := FOk.mk Try.func59 (by kernel_rfl) (by kernel_rfl)
theorem ok62 : FOk Try.prog 62 c62 := FOk.mk Try.func62 (by kernel_rfl) (by kernel_rfl)
theorem ok63 : FOk Try.prog 63 c63 := FOk.mk Try.func63 (by kernel_rfl) (by kernel_rfl)
theorem ftOk : ft.Ok Try.prog 1 0 :=
 ⟨trivial, ⟨trivial, ⟨ok3, ⟨ok7, ⟨ok15, ⟨ok31, ⟨ok63, trivial, trivial⟩, trivial⟩, trivial⟩, ⟨ok23, ⟨ok39, trivial, trivial⟩, ⟨ok55, trivial, trivial⟩⟩⟩, ⟨ok11, ⟨ok19, ⟨ok35, trivial, trivial⟩, ⟨ok51, trivial, trivial⟩⟩, ⟨ok27, ⟨ok43, trivial, trivial⟩, ⟨ok59, trivial, trivial⟩⟩⟩⟩, ⟨ok5, ⟨ok9, ⟨ok17, ⟨ok33, trivial, trivial⟩, ⟨ok49, trivial, trivial⟩⟩, ⟨ok25, ⟨ok41, trivial, trivial⟩, ⟨ok57, trivial, trivial⟩⟩⟩, ⟨ok13, ⟨ok21, ⟨ok37, trivial, trivial⟩, ⟨ok53, trivial, trivial⟩⟩, ⟨trivial, ⟨ok45, trivial, trivial⟩, trivial⟩⟩⟩⟩, ⟨trivial, ⟨ok4, ⟨ok8, ⟨ok16, trivial, trivial⟩, ⟨ok24, ⟨ok40, trivial, trivial⟩, ⟨ok56, trivial, trivial⟩⟩⟩, ⟨ok12, ⟨ok20, ⟨ok36, trivial, trivial⟩, ⟨ok52, trivial, trivial⟩⟩, ⟨ok28, ⟨ok44, trivial, trivial⟩, trivial⟩⟩⟩, ⟨ok6, ⟨ok10, ⟨ok18, ⟨ok34, trivial, trivial⟩, ⟨ok50, trivial, trivial⟩⟩, ⟨ok26, ⟨ok42, trivial, trivial⟩, ⟨ok58, trivial, trivial⟩⟩⟩, ⟨ok14, ⟨ok22, ⟨ok38, trivial, trivial⟩, ⟨ok54, trivial, trivial⟩⟩, ⟨ok30, ⟨ok46, trivial, trivial⟩, ⟨ok62, trivial, trivial⟩⟩⟩⟩⟩⟩
end Go.Proofs.Ytblblhfgpcgheaa
