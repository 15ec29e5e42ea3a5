/- The code of the functions that the statement reaches, as the abstract machine has it, and that it is the program's: part all. No condition. -/
import Derived.Test.YtjekgdkaejgpdaaGreatProg
import Derived.Test.YtjekgdkaejgpdaaGreatAMb
set_option maxRecDepth 100000
namespace Go.Proofs.YtjekgdkaejgpdaaGreat
open Go Go.AM
abbrev Om (a b : Sl) : zAO := ⟨some a, .quiet false (zA3 (.t b)), none⟩
abbrev Ol (a b : Sl) : zAO := ⟨some a, .quiet true (zB0 (.t b)), none⟩
abbrev Oe (a : Sl) (i : Nat) (b : Sl) : zAO := ⟨some a, .quiet false (qExt i (.t b)), none⟩
abbrev Ob (o : BinOp) (a b c : Sl) : zAO := ⟨some a, .quiet false (zAN o (.t b) (.t c)), none⟩
abbrev Of (a : Sl) (q : zAa → Mem → Option V) : zAO := ⟨some a, .quiet false q, none⟩
abbrev Og (a : Sl) (q : zAa → Mem → Option V) : zAO := ⟨some a, .quiet true q, none⟩
abbrev Oc (a : Sl) (n : Nat) (l : List Opd) : zAO := ⟨some a, .call (.c (.func (.func n) [] [])) l, none⟩
abbrev Oq (a : Sl) (o : AOp) : zAO := ⟨some a, o, none⟩
abbrev On (o : AOp) : zAO := ⟨none, o, none⟩
abbrev Gq (a : Sl) (o : AOp) (g : Sl) (b : Bool) : zAO := ⟨some a, o, some (g, b)⟩
abbrev Oa (a : Sl) (i : Nat) (b : Sl) : zAO := ⟨some a, .quiet false (zDi i (.t b)), none⟩
abbrev Ok (o : BinOp) (a b : Sl) (k : Int) : zAO := ⟨some a, .quiet false (zAN o (.t b) (.c (.int .i64 k))), none⟩
abbrev Ou (a b : Sl) : zAO := ⟨some a, .quiet false (qUn .not (.t b)), none⟩
abbrev Oy (a b c : Sl) : zAO := ⟨some a, .quiet false (zC6 (.t b) (.t c) (.c (.bool false))), none⟩
abbrev Oz (a b c : Sl) : zAO := ⟨some a, .quiet false (zC6 (.t b) (.c (.bool true)) (.t c)), none⟩
abbrev OL (a : Sl) (n : Nat) (b : Sl) : zAO := ⟨some a, .quiet true (zDC n (.t b)), none⟩
abbrev OS (n : Nat) (a b : Sl) : zAO := ⟨none, .loud (zA0 n (.t a) (.t b)), none⟩
abbrev OK (a : Sl) (v : V) : zAO := ⟨some a, .quiet false (zA3 (.c v)), none⟩
abbrev Gm (a b g : Sl) (h : Bool) : zAO := ⟨some a, .quiet false (zA3 (.t b)), some (g, h)⟩
abbrev Ga (a : Sl) (i : Nat) (b g : Sl) (h : Bool) : zAO := ⟨some a, .quiet false (zDi i (.t b)), some (g, h)⟩
abbrev Gl (a b g : Sl) (h : Bool) : zAO := ⟨some a, .quiet true (zB0 (.t b)), some (g, h)⟩
abbrev GL (a : Sl) (n : Nat) (b g : Sl) (h : Bool) : zAO := ⟨some a, .quiet true (zDC n (.t b)), some (g, h)⟩
abbrev Gk (o : BinOp) (a b : Sl) (k : Int) (g : Sl) (h : Bool) : zAO := ⟨some a, .quiet false (zAN o (.t b) (.c (.int .i64 k))), some (g, h)⟩
abbrev Gb (o : BinOp) (a b c g : Sl) (h : Bool) : zAO := ⟨some a, .quiet false (zAN o (.t b) (.t c)), some (g, h)⟩
abbrev Gy (a b c g : Sl) (h : Bool) : zAO := ⟨some a, .quiet false (zC6 (.t b) (.t c) (.c (.bool false))), some (g, h)⟩
abbrev Gz (a b c g : Sl) (h : Bool) : zAO := ⟨some a, .quiet false (zC6 (.t b) (.c (.bool true)) (.t c)), some (g, h)⟩
def c3l0 : zAz :=
 (.seq (.seq (.ops [(Om s42 s9), (Ok .lss s43 s42 4)])
 (.cond (.t s43) .skip (.exit 0)))
 (.seq (.block 1 (.ops [(Om s46 s7), (Om s47 s8), (Om s48 s7), (Oc s49 9 [(.t s48)]), (Oc s50 8 [(.t s47), (.t s49)]), (Oc s51 7 [(.t s46), (.t s50)])]))
 (.ops [(Om s44 s9), (Ok .add s45 s44 1), (Om s9 s45)])))
def c3l1 : zAz :=
 (.seq (.seq (.ops [(Om s208 s21), (Om s209 s20), (Of s210 (zBP (.t s209))), (Ob .lss s211 s208 s210)])
 (.cond (.t s211) .skip (.exit 4)))
 (.seq (.block 5 (.seq (.ops [(Om s215 s10), (Om s216 s20), (Om s217 s21), (Of s218 (zAU 3 (.t s216) (.t s217))), (Oa s219 1 s218), (Ol s220 s219), (Og s221 (zGb (.one .int) true (.agg [(.int .u16 0), (.int .u16 0), (.int .u64 0), (.int .u64 0), (.int .u32 0), (.str [])]) (.t s215) (.t s220))), (Om s214 s221), (Oe s222 0 s214), (Oe s223 1 s214), (Oq s22 (.alloc (zCs (.c (.agg [(.int .u16 0), (.int .u16 0), (.int .u64 0), (.int .u64 0), (.int .u32 0), (.str [])]))))), (On (.loud (zA0 6 (.t s22) (.t s222)))), (Om s23 s223)])
 (.seq (.ops [(Om s224 s11), (Om s225 s20), (Om s226 s21), (Of s227 (zAU 3 (.t s225) (.t s226))), (Oa s228 1 s227), (Ol s229 s228), (Og s230 (zGb (.one .int) false (.int .i64 0) (.t s224) (.t s229))), (Om s24 s230)])
 (.seq (.seq (.draw (.calm (Om s231 s23) (.calm (Ou s232 s231) (.calm (Om s233 s232) (.calm (Gm s234 s20 s233 false) (.calm (Gm s235 s21 s233 false) (.calm (Gq s236 (.quiet false (zAU 3 (.t s234) (.t s235))) s233 false) (.calm (GL s237 3 s236 s233 false) (.calm (GL s238 6 s22 s233 false) (.last ⟨(Gq s239 (.call (.c (.func (.func 17) [] [])) [(.t s237), (.t s238)]) s233 false), []⟩ (.calm (Gq s240 (.quiet false (qUn .not (.t s239))) s233 false) (.calm (Oz s241 s233 s240) (.calm (Om s242 s241) (.calm (Gm s243 s24 s242 false) (.calm (Gk .gtr s244 s243 0 s242 false) (.calm (Gm s245 s244 s242 false) (.calm (Gm s246 s20 s245 true) (.calm (Gm s247 s21 s245 true) (.calm (Gq s248 (.quiet false (zAU 3 (.t s246) (.t s247))) s245 true) (.calm (Ga s249 2 s248 s245 true) (.calm (Gl s250 s249 s245 true) (.calm (Gm s251 s12 s245 true) (.calm (Gm s252 s24 s245 true) (.calm (Gk .sub s253 s252 1 s245 true) (.calm (Gq s254 (.quiet false (zAU 1 (.t s251) (.t s253))) s245 true) (.calm (Gl s255 s254 s245 true) .fin))))))))))))))))))))))))) [(Gb .neq s256 s250 s255 s245 true), (Gy s257 s245 s256 s242 false), (Oz s258 s242 s257)])
 (.cond (.t s258) (.seq (.ops [(OK s6 (.bool false))])
 .ret) .skip))
 (.ops [(Om s259 s10), (Om s260 s20), (Om s261 s21), (Of s262 (zAU 3 (.t s260) (.t s261))), (Oa s263 1 s262), (Ol s264 s263), (On (.loud (zCp (.one .int) (.t s259) (.t s264))))])))))
 (.ops [(Om s212 s21), (Ok .add s213 s212 1), (Om s21 s213)])))
def c3l2 : zAz :=
 (.seq (.seq (.ops [(Om s62 s14), (Ok .lss s63 s62 500), (Om s64 s63), (Gm s65 s13 s64 true), (Gm s66 s1 s64 true), (Gq s67 (.quiet false (zBP (.t s66))) s64 true), (Gb .lss s68 s65 s67 s64 true), (Gm s69 s68 s64 true), (Gm s70 s10 s69 false), (Gq s71 (.quiet true (zCw (.t s70))) s69 false), (Gk .gtr s72 s71 0 s69 false), (Gz s73 s69 s72 s64 true), (Oy s74 s64 s73)])
 (.cond (.t s74) .skip (.exit 2)))
 (.seq (.block 3 (.seq (.seq (.ops [(Om s77 s13), (Om s78 s1), (Of s79 (zBP (.t s78))), (Ob .lss s80 s77 s79), (Om s81 s80), (Gm s82 s14 s81 true), (Gm s83 s2 s81 true), (Gq s84 (.quiet false (zBP (.t s83))) s81 true), (Gb .geq s85 s82 s84 s81 true), (Gm s86 s85 s81 true), (Gm s87 s2 s86 false), (Gm s88 s14 s86 false), (Gq s89 (.quiet false (zAU 1 (.t s87) (.t s88))) s86 false), (Gl s90 s89 s86 false), (Gq s91 (.quiet false (zAN .rem (.t s90) (.c (.int .u8 2)))) s86 false), (Gq s92 (.quiet false (zAN .eql (.t s91) (.c (.int .u8 0)))) s86 false), (Gz s93 s86 s92 s81 true), (Gm s94 s93 s81 true), (Gm s95 s10 s94 false), (Gq s96 (.quiet true (zCw (.t s95))) s94 false), (Gk .eql s97 s96 0 s94 false), (Gz s98 s94 s97 s81 true), (Oy s99 s81 s98)])
 (.cond (.t s99) (.seq (.ops [(Om s100 s1), (Om s101 s13), (Of s102 (zAU 1 (.t s100) (.t s101))), (Ol s103 s102), (Oc s104 12 [(.t s103)]), (Oq s15 (.alloc (zCs (.c (.agg [(.int .u16 0), (.int .u16 0), (.int .u64 0), (.int .u64 0), (.int .u32 0), (.str [])]))))), (On (.loud (zA0 6 (.t s15) (.t s104))))])
 (.seq (.ops [(Om s106 s7), (OL s107 6 s15), (Oc s108 13 [(.t s106), (.t s107)]), (Om s105 s108), (Oe s109 0 s105), (Oe s110 1 s105), (Om s16 s109), (Om s17 s110)])
 (.seq (.seq (.ops [(Om s111 s17), (Ok .eql s112 s111 0), (Om s113 s10), (Og s114 (zCw (.t s113))), (Ok .lss s115 s114 8), (Of s116 (qEqv true (.one .bool) (.t s112) (.t s115)))])
 (.cond (.t s116) (.seq (.ops [(OK s6 (.bool false))])
 .ret) .skip))
 (.seq (.ops [(Om s117 s17), (Ok .eql s118 s117 0)])
 (.cond (.t s118) (.seq (.seq (.ops [(Om s119 s10), (Og s120 (zCw (.t s119))), (Ok .eql s121 s120 0), (Om s122 s121), (Gm s123 s8 s122 true), (Gq s124 (.quiet false (zAd (.t s123))) s122 true), (Ga s125 18 s124 s122 true), (Gl s126 s125 s122 true), (Gq s127 (.quiet false (zBP (.t s126))) s122 true), (Gk .eql s128 s127 0 s122 true), (Oy s129 s122 s128), (Om s130 s129), (Ga s131 1 s15 s130 true), (Gl s132 s131 s130 true), (Gq s133 (.quiet false (zAN .eql (.t s132) (.c (.int .u16 0)))) s130 true), (Oy s134 s130 s133), (Om s135 s134), (Ga s136 3 s15 s135 true), (Gl s137 s136 s135 true), (Gq s138 (.quiet false (zAN .rem (.t s137) (.c (.int .u64 64)))) s135 true), (Gq s139 (.quiet false (zAN .eql (.t s138) (.c (.int .u64 0)))) s135 true), (Oy s140 s135 s139)])
 (.cond (.t s140) (.seq (.ops [(Oa s141 3 s15), (Ol s142 s141), (Of s143 (zBj .i64 (.t s142))), (Ok .quo s144 s143 64), (Om s18 s144)])
 (.seq (.draw (.calm (Om s145 s12) (.calm (Om s146 s8) (.calm (Of s147 (zAd (.t s146))) (.calm (Oa s148 2 s147) (.calm (Om s149 s18) (.calm (Om s150 s18) (.calm (Oa s151 4 s15) (.calm (Ol s152 s151) (.calm (Of s153 (zBj .i64 (.t s152))) (.calm (Ok .quo s154 s153 64) (.calm (Ob .add s155 s150 s154) (.calm (Og s156 (zIW 16 1 (.t s148) (some (.t s149)) (some (.t s155)) none)) (.last ⟨(Oc s157 14 [(.t s156), (.c (.str []))]), []⟩ (.calm (Oq s158 (.alloc (zF3 1 1 [(.str [])] [(0, (1, (.t s157)))]))) .fin)))))))))))))) [(Oq s159 (.loud (zE2 1 16 (.t s145) (.t s158)))), (Om s12 s159)])
 (.ops [(Om s160 s11), (Om s161 s16), (Om s162 s12), (Of s163 (zBP (.t s162))), (On (.loud (zB3 (.one .int) (.t s160) (.t s161) (.t s163))))]))) .skip))
 (.seq (.ops [(Om s164 s10), (Om s165 s16), (OL s166 6 s15), (On (.loud (zB3 (.one .int) (.t s164) (.t s165) (.t s166))))])
 (.seq (.ops [(Om s167 s13), (Ok .add s168 s167 1), (Om s13 s168)])
 (.seq (.ops [(Om s169 s7), (Om s170 s8), (Om s171 s7), (Oc s172 9 [(.t s171)]), (Oc s173 8 [(.t s170), (.t s172)]), (Oc s174 7 [(.t s169), (.t s173)])])
 (.seq (.ops [(Om s175 s10), (Og s176 (zCw (.t s175))), (Ok .gtr s177 s176 1)])
 (.cond (.t s177) (.ops [(Oq s178 (.alloc aMkm)), (Om s11 s178)]) .skip)))))) .skip))))) .skip))
 (.seq (.ops [(Om s179 s14), (Om s19 s179)])
 (.seq (.seq (.ops [(Om s180 s14), (Om s181 s2), (Of s182 (zBP (.t s181))), (Ob .lss s183 s180 s182)])
 (.cond (.t s183) (.ops [(Om s184 s2), (Om s185 s14), (Of s186 (zAU 1 (.t s184) (.t s185))), (Ol s187 s186), (Of s188 (zBj .i64 (.t s187))), (Om s19 s188)]) .skip))
 (.seq (.seq (.ops [(Om s189 s14), (Om s190 s2), (Of s191 (zBP (.t s190))), (Ob .geq s192 s189 s191), (Om s193 s192), (Gm s194 s2 s193 false), (Gm s195 s14 s193 false), (Gq s196 (.quiet false (zAU 1 (.t s194) (.t s195))) s193 false), (Gl s197 s196 s193 false), (Gq s198 (.quiet false (zAN .rem (.t s197) (.c (.int .u8 3)))) s193 false), (Gq s199 (.quiet false (zAN .neq (.t s198) (.c (.int .u8 0)))) s193 false), (Oz s200 s193 s199)])
 (.cond (.t s200) (.ops [(Om s201 s7), (Om s202 s8), (Om s203 s19), (Oc s204 15 [(.t s202), (.t s203)]), (Oc s205 7 [(.t s201), (.t s204)])]) .skip))
 (.seq (.ops [(Om s206 s7), (Oc s207 16 [(.t s206)]), (Om s20 s207)])
 (.seq (.seq (.ops [(OK s21 (.int .i64 0))])
 (.block 4 (.loop c3l1)))
 (.seq (.ops [(Om s265 s7), (Oc s266 18 [(.t s265)]), (Om s267 s10), (Og s268 (zCw (.t s267))), (Ob .neq s269 s266 s268), (Om s270 s269), (Gm s271 s7 s270 false), (Gq s272 (.call (.c (.func (.func 19) [] [])) [(.t s271)]) s270 false), (Oz s273 s270 s272)])
 (.cond (.t s273) (.seq (.ops [(OK s6 (.bool false))])
 .ret) .skip)))))))))
 (.ops [(Om s75 s14), (Ok .add s76 s75 1), (Om s14 s76)])))
def c3 : zAr :=
 ⟨294, [(.tmp s6)], (.seq (.ops [(OK s6 (.bool false))])
 (.seq (.seq (.ops [(Oc s25 4 []), (Ou s26 s25)])
 (.cond (.t s26) (.seq (.ops [(OK s6 (.bool false))])
 .ret) .skip))
 (.seq (.seq (.ops [(Om s27 s1), (Of s28 (zBP (.t s27))), (Ok .gtr s29 s28 100), (Om s30 s29), (Gm s31 s2 s30 false), (Gq s32 (.quiet false (zBP (.t s31))) s30 false), (Gk .gtr s33 s32 100 s30 false), (Oz s34 s30 s33)])
 (.cond (.t s34) (.seq (.ops [(OK s6 (.bool true))])
 .ret) .skip))
 (.seq (.ops [(Om s35 s0), (Oc s36 5 [(.c (.str [97])), (.t s35)]), (Om s7 s36)])
 (.seq (.ops [(Oc s37 6 []), (Om s8 s37)])
 (.seq (.ops [(Om s38 s7), (Om s39 s8), (Oc s40 8 [(.t s39), (.c (.str []))]), (Oc s41 7 [(.t s38), (.t s40)])])
 (.seq (.seq (.ops [(OK s9 (.int .i64 0))])
 (.block 0 (.loop c3l0)))
 (.seq (.seq (.ops [(Om s52 s7), (Oc s53 10 [(.t s52)]), (Ou s54 s53), (Om s55 s54), (Gm s56 s7 s55 false), (Gq s57 (.call (.c (.func (.func 11) [] [])) [(.t s56)]) s55 false), (Gq s58 (.quiet false (zAN .neq (.t s57) (.c (.int .u64 1024)))) s55 false), (Oz s59 s55 s58)])
 (.cond (.t s59) (.seq (.ops [(OK s6 (.bool false))])
 .ret) .skip))
 (.seq (.ops [(Oq s60 (.alloc aMkm)), (Om s10 s60)])
 (.seq (.ops [(Oq s61 (.alloc aMkm)), (Om s11 s61)])
 (.seq (.ops [(OK s12 .nilslice)])
 (.seq (.ops [(OK s13 (.int .i64 0))])
 (.seq (.seq (.ops [(OK s14 (.int .i64 0))])
 (.block 2 (.loop c3l2)))
 (.seq (.ops [(Om s274 s7), (Oc s275 20 [(.t s274)])])
 (.seq (.ops [(Om s276 s8), (Om s277 s7), (Oc s278 9 [(.t s277)]), (Oc s279 8 [(.t s276), (.t s278)])])
 (.seq (.ops [(Om s280 s10), (Og s281 (zCw (.t s280))), (Ok .eql s282 s281 0), (Om s283 s282), (Gm s284 s7 s283 true), (Gq s285 (.call (.c (.func (.func 19) [] [])) [(.t s284)]) s283 true), (Oy s286 s283 s285), (Om s287 s286), (Gm s288 s8 s287 true), (Gq s289 (.quiet false (zAd (.t s288))) s287 true), (Ga s290 1 s289 s287 true), (Gl s291 s290 s287 true), (Gq s292 (.call (.c (.func (.func 21) [] [])) [(.t s291)]) s287 true), (Oy s293 s287 s292), (Om s6 s293)])
 .ret))))))))))))))))⟩
def c4 : zAr :=
 ⟨54, [(.tmp s0)], (.seq (.ops [(OK s0 (.bool false))])
 (.seq (.ops [(Oc s6 5 [(.c (.str [97])), (.c (.bool false))]), (Om s1 s6)])
 (.seq (.ops [(Om s7 s1), (Oc s8 22 []), (Oc s9 7 [(.t s7), (.t s8)])])
 (.seq (.ops [(Om s10 s1), (Oc s11 9 [(.t s10)]), (Om s2 s11)])
 (.seq (.ops [(Om s12 s1), (Oc s13 23 [(.c (.int .u64 7)), (.c (.int .u64 1)), (.c (.str []))]), (Oc s14 7 [(.t s12), (.t s13)])])
 (.seq (.ops [(Om s16 s1), (Of s17 (zC7 [(.int .u16 0), (.int .u16 0), (.int .u64 0), (.int .u64 0), (.int .u32 0), (.str [])] [(1, (1, (.c (.int .u16 0)))), (4, (1, (.c (.int .u32 64))))])), (Oc s18 13 [(.t s16), (.t s17)]), (Om s15 s18), (Oe s19 0 s15), (Oe s20 1 s15), (Om s3 s19), (Om s4 s20)])
 (.seq (.ops [(Om s21 s1), (Oc s22 25 [(.c (.str [120])), (.c (.int .i64 64))]), (Oc s23 24 [(.c (.int .u64 0)), (.c (.int .u64 1)), (.t s22)]), (Oc s24 7 [(.t s21), (.t s23)])])
 (.seq (.ops [(Om s25 s1), (Oc s26 16 [(.t s25)]), (Om s5 s26)])
 (.seq (.draw (.calm (Om s27 s2) (.calm (Of s28 (zAN .eql (.t s27) (.c (.str [0, 0, 0, 3, 73, 72, 65, 86, 69, 79, 80, 84, 0, 0, 0, 7, 0, 0, 0, 7, 0, 0, 0, 1, 97, 0, 0])))) (.calm (Om s29 s28) (.calm (Gm s30 s1 s29 true) (.last ⟨(Gq s31 (.call (.c (.func (.func 10) [] [])) [(.t s30)]) s29 true), []⟩ (.calm (Oy s32 s29 s31) (.calm (Om s33 s32) (.calm (Gm s34 s3 s33 true) (.calm (Gq s35 (.quiet false (zAN .eql (.t s34) (.c (.int .u64 1)))) s33 true) (.calm (Oy s36 s33 s35) (.calm (Om s37 s36) (.calm (Gm s38 s4 s37 true) (.calm (Gk .eql s39 s38 0 s37 true) (.calm (Oy s40 s37 s39) (.calm (Om s41 s40) (.calm (Gm s42 s5 s41 true) (.calm (Gq s43 (.quiet false (zBP (.t s42))) s41 true) (.calm (Gk .eql s44 s43 1 s41 true) (.calm (Oy s45 s41 s44) (.calm (Om s46 s45) (.calm (Gm s47 s5 s46 true) (.calm (Gq s48 (.quiet false (zAU 3 (.t s47) (.c (.int .i64 0)))) s46 true) (.calm (GL s49 3 s48 s46 true) (.last ⟨(Gq s50 (.call (.c (.func (.func 25) [] [])) [(.c (.str [120])), (.c (.int .i64 64))]) s46 true), [(GL s49 3 s48 s46 true)]⟩ (.calm (Gq s51 (.quiet false (zC7 [(.int .u32 0), (.int .u64 0), (.str [])] [(1, (1, (.c (.int .u64 1)))), (2, (1, (.t s50)))])) s46 true) .fin))))))))))))))))))))))))) [(Gq s52 (.quiet false (qEqv false (.many [.int, .int, .str]) (.t s49) (.t s51))) s46 true), (Oy s53 s46 s52), (Om s0 s53)])
 .ret)))))))))⟩
def c5 : zAr :=
 ⟨14, [(.tmp s4)], (.seq (.ops [(OK s4 .nilptr)])
 (.seq (.ops [(Om s5 s0), (Om s6 s0), (Of s7 (zBw (.t s6))), (Of s8 (qMini [(.t s7), (.c (.int .i64 255))])), (Of s9 (zA8 (.t s5) none (some (.t s8)))), (Om s10 s1), (Oq s11 (.alloc aMkm)), (Of s12 (zC7 [(.str []), (.bool false), (.bool false), (.bool false), (.bool false), (.bool false), (.bool false), (.int .u64 0), (.str []), (.str []), .nilmap, (.int .u64 0), .nilslice] [(0, (1, (.t s9))), (1, (1, (.t s10))), (10, (1, (.t s11)))])), (Oq s13 (.alloc (zCs (.t s12)))), (Om s4 s13)])
 .ret))⟩
def c6l0 : zAz :=
 (.seq (.seq (.ops [(Om s8 s2), (Ok .lss s9 s8 16)])
 (.cond (.t s9) .skip (.exit 0)))
 (.seq (.block 1 (.draw (.calm (Om s12 s1) (.calm (Om s13 s2) (.calm (Of s15 (zAd (.t s12))) (.calm (Oa s16 2 s15) (.last ⟨(Oc s14 25 [(.c (.str [0])), (.c (.int .i64 64))]), []⟩ .fin))))) [(Of s17 (zDQ 16 1 (.t s16) (.t s13))), (On (.loud (zA0 1 (.t s17) (.t s14))))]))
 (.ops [(Om s10 s2), (Ok .add s11 s10 1), (Om s2 s11)])))
def c6 : zAr :=
 ⟨19, [(.tmp s0)], (.seq (.ops [(OK s0 .nilptr)])
 (.seq (.ops [(Of s3 (zC7 [(.str []), (.int .u64 0), (.int .u16 0)] [(0, (1, (.c (.str [97])))), (1, (1, (.c (.int .u64 1024)))), (2, (1, (.c (.int .u16 1))))])), (Oq s4 (.alloc (zF3 3 1 [(.str []), (.int .u64 0), (.int .u16 0)] [(0, (3, (.t s3)))]))), (Oc s5 26 [(.t s4)]), (Of s6 (zC7 [.nilptr, .nilptr, (.str []), (.str []), (.str []), (.str []), (.str []), (.str []), (.str []), (.str []), (.str []), (.str []), (.str []), (.str []), (.str []), (.str []), (.str []), (.str []), .nilslice] [(0, (1, (.t s5)))])), (Oq s7 (.alloc (zCs (.t s6)))), (Om s1 s7)])
 (.seq (.seq (.ops [(OK s2 (.int .i64 0))])
 (.block 0 (.loop c6l0)))
 (.seq (.ops [(Om s18 s1), (Om s0 s18)])
 .ret))))⟩
def c7l0 : zAz :=
 (.seq (.seq (.ops [(Om s21 s4), (Ok .gtr s22 s21 0), (Om s23 s22), (Gm s24 s0 s23 true), (Gq s25 (.quiet false (zAd (.t s24))) s23 true), (Ga s26 6 s25 s23 true), (Gl s27 s26 s23 true), (Gq s28 (.quiet false (qUn .not (.t s27))) s23 true), (Oy s29 s23 s28)])
 (.cond (.t s29) .skip (.exit 0)))
 (.block 1 (.seq (.block 2 (.seq (.ops [(Om s33 s0), (Of s34 (zAd (.t s33))), (Oa s35 3 s34), (Ol s36 s35), (Ou s37 s36), (Om s32 s37)])
 (.cond (.t s32) (.ops [(Om s38 s0), (Oc s39 28 [(.t s38)]), (Om s4 s39)]) (.seq (.ops [(Om s41 s0), (Of s42 (zAd (.t s41))), (Oa s43 4 s42), (Ol s44 s43), (Ou s45 s44), (Om s40 s45)])
 (.cond (.t s40) (.ops [(Om s46 s0), (Oc s47 29 [(.t s46)]), (Om s4 s47)]) (.ops [(Om s30 s0), (Oc s31 30 [(.t s30)]), (Om s4 s31)]))))))
 (.ops [(Om s48 s0), (Om s49 s0), (Of s50 (zAd (.t s49))), (Oa s51 8 s50), (Ol s52 s51), (Om s53 s4), (Of s54 (zA8 (.t s52) (some (.t s53)) none)), (Of s55 (zAd (.t s48))), (Oa s56 8 s55), (On (.loud (zA0 1 (.t s56) (.t s54))))]))))
def c7 : zAr :=
 ⟨57, [], (.seq (.seq (.ops [(Om s5 s0), (Oc s6 27 [(.t s5)]), (Om s7 s6), (Gm s8 s0 s7 false), (Gq s9 (.quiet false (zAd (.t s8))) s7 false), (Ga s10 6 s9 s7 false), (Gl s11 s10 s7 false), (Oz s12 s7 s11)])
 (.cond (.t s12) .ret .skip))
 (.seq (.ops [(Om s13 s0), (Of s14 (zAd (.t s13))), (Oa s15 8 s14), (Ol s16 s15), (Om s17 s1), (Ob .add s18 s16 s17), (Of s19 (zAd (.t s13))), (Oa s20 8 s19), (On (.loud (zA0 1 (.t s20) (.t s18))))])
 (.seq (.ops [(OK s4 (.int .i64 1))])
 (.block 0 (.loop c7l0)))))⟩
def c8 : zAr :=
 ⟨57, [(.tmp s4)], (.seq (.ops [(OK s4 (.str []))])
 (.seq (.ops [(OK s5 (.str []))])
 (.seq (.seq (.ops [(Om s9 s0), (Of s10 (zAd (.t s9))), (Oa s11 1 s10), (Ol s12 s11), (Of s13 (zCN false .ptr (.t s12)))])
 (.cond (.t s13) (.seq (.ops [(Om s14 s0), (Of s15 (zAd (.t s14))), (Oa s16 0 s15), (Ol s17 s16), (Om s18 s1), (Oc s19 31 [(.t s17), (.t s18)]), (Om s5 s19)])
 (.seq (.ops [(Om s21 s0), (Of s22 (zAd (.t s21))), (Oa s23 0 s22), (Ol s24 s23), (Oc s25 32 [(.t s24)]), (Om s20 s25), (Oe s26 0 s20), (Oe s27 1 s20), (Oe s28 2 s20), (Om s6 s26), (Om s7 s27), (Om s8 s28)])
 (.seq (.seq (.ops [(Om s29 s8), (Ou s30 s29)])
 (.cond (.t s30) (.seq (.ops [(Om s31 s5), (Om s4 s31)])
 .ret) .skip))
 (.seq (.ops [(Om s32 s0), (Om s33 s0), (Of s34 (zAd (.t s33))), (Oa s35 0 s34), (Ol s36 s35), (Oc s37 34 [(.t s36)]), (Oc s38 33 [(.c (.int .i64 16)), (.t s37)]), (Of s39 (zAd (.t s32))), (Oa s40 1 s39), (On (.loud (zA0 1 (.t s40) (.t s38))))])
 (.ops [(Om s41 s7), (Om s1 s41)]))))) .skip))
 (.seq (.ops [(Om s42 s0), (Of s43 (zAd (.t s42))), (Oa s44 1 s43), (Ol s45 s44), (Om s46 s1), (Oc s47 35 [(.t s45), (.t s46)])])
 (.seq (.ops [(Om s48 s0), (Oc s49 36 [(.t s48)])])
 (.seq (.ops [(Om s50 s5), (Om s51 s0), (Of s52 (zAd (.t s51))), (Oa s53 1 s52), (Ol s54 s53), (Oc s55 37 [(.t s54)]), (Ob .add s56 s50 s55), (Om s4 s56)])
 .ret))))))⟩
def c9 : zAr :=
 ⟨14, [(.tmp s2)], (.seq (.ops [(OK s2 (.str []))])
 (.seq (.seq (.ops [(Om s4 s0), (Oc s5 27 [(.t s4)])])
 (.cond (.t s5) (.seq (.ops [(OK s2 (.str []))])
 .ret) .skip))
 (.seq (.ops [(Om s6 s0), (Of s7 (zAd (.t s6))), (Oa s8 9 s7), (Ol s9 s8), (Om s3 s9)])
 (.seq (.ops [(Om s10 s0), (Of s11 (zAd (.t s10))), (Oa s12 9 s11), (On (.loud (zA0 1 (.t s12) (.c (.str [])))))])
 (.seq (.ops [(Om s13 s3), (Om s2 s13)])
 .ret)))))⟩
def c10 : zAr :=
 ⟨12, [(.tmp s2)], (.seq (.ops [(OK s2 (.bool false))])
 (.seq (.ops [(Om s3 s0), (Oc s4 27 [(.t s3)]), (Ou s5 s4), (Om s6 s5), (Gm s7 s0 s6 true), (Gq s8 (.quiet false (zAd (.t s7))) s6 true), (Ga s9 4 s8 s6 true), (Gl s10 s9 s6 true), (Oy s11 s6 s10), (Om s2 s11)])
 .ret))⟩
def c11 : zAr :=
 ⟨9, [(.tmp s2)], (.seq (.ops [(OK s2 (.int .u64 0))])
 (.seq (.seq (.ops [(Om s3 s0), (Oc s4 27 [(.t s3)])])
 (.cond (.t s4) (.seq (.ops [(OK s2 (.int .u64 0))])
 .ret) .skip))
 (.seq (.ops [(Om s5 s0), (Of s6 (zAd (.t s5))), (Oa s7 7 s6), (Ol s8 s7), (Om s2 s8)])
 .ret)))⟩
def c12 : zAr :=
 ⟨45, [(.cellN 6 s2)], (.seq (.ops [(Oq s2 (.alloc (zCs (.c (.agg [(.int .u16 0), (.int .u16 0), (.int .u64 0), (.int .u64 0), (.int .u32 0), (.str [])])))))])
 (.seq (.ops [(Oq s4 (.alloc (zF3 1 8 [(.int .u16 0)] [(0, (1, (.c (.int .u16 0)))), (1, (1, (.c (.int .u16 1)))), (2, (1, (.c (.int .u16 0)))), (3, (1, (.c (.int .u16 6)))), (4, (1, (.c (.int .u16 3)))), (5, (1, (.c (.int .u16 1)))), (6, (1, (.c (.int .u16 0)))), (7, (1, (.c (.int .u16 9))))]))), (Om s5 s0), (Of s6 (zAN .rem (.t s5) (.c (.int .u16 8)))), (Of s7 (zAU 1 (.t s4) (.t s6))), (Ol s8 s7), (Om s9 s0), (Of s10 (zAN .quo (.t s9) (.c (.int .u16 8)))), (Of s11 (zAN .rem (.t s10) (.c (.int .u16 15)))), (Of s12 (zBj .u64 (.t s11))), (Of s13 (zAN .mul (.c (.int .u64 64)) (.t s12))), (Om s14 s0), (Of s15 (zAN .quo (.t s14) (.c (.int .u16 128)))), (Of s16 (zAN .rem (.t s15) (.c (.int .u16 2)))), (Of s17 (zAN .add (.c (.int .u16 1)) (.t s16))), (Of s18 (zBj .u32 (.t s17))), (Of s19 (zAN .mul (.c (.int .u32 64)) (.t s18))), (Of s20 (zC7 [(.int .u16 0), (.int .u16 0), (.int .u64 0), (.int .u64 0), (.int .u32 0), (.str [])] [(1, (1, (.t s8))), (3, (1, (.t s13))), (4, (1, (.t s19)))])), (Oq s3 (.alloc (zCs (.c (.agg [(.int .u16 0), (.int .u16 0), (.int .u64 0), (.int .u64 0), (.int .u32 0), (.str [])]))))), (On (.loud (zA0 6 (.t s3) (.t s20))))])
 (.seq (.seq (.ops [(Oa s21 1 s3), (Ol s22 s21)])
 (.block 0 (.seq (.ops [(Of s24 (zAN .eql (.t s22) (.c (.int .u16 1)))), (Om s23 s24)])
 (.cond (.t s23) (.ops [(Om s25 s0), (Of s26 (zAN .rem (.t s25) (.c (.int .u16 26)))), (Of s27 (zAN .add (.c (.int .u16 97)) (.t s26))), (Of s28 (zBj .u8 (.t s27))), (Oq s29 (.alloc (zF3 1 1 [(.int .u8 0)] [(0, (1, (.t s28)))]))), (Og s30 (qB2s (.t s29))), (Oa s31 4 s3), (Ol s32 s31), (Of s33 (zBj .i64 (.t s32))), (Oc s34 25 [(.t s30), (.t s33)]), (Oa s35 5 s3), (On (.loud (zA0 1 (.t s35) (.t s34))))]) (.seq (.ops [(Of s37 (zAN .eql (.t s22) (.c (.int .u16 3)))), (Om s36 s37)])
 (.cond (.t s36) (.ops [(Oa s38 3 s3), (On (.loud (zA0 1 (.t s38) (.c (.int .u64 0))))), (Oa s39 4 s3), (On (.loud (zA0 1 (.t s39) (.c (.int .u32 0)))))]) .skip))))))
 (.seq (.seq (.ops [(Om s40 s0), (Of s41 (zAN .rem (.t s40) (.c (.int .u16 97)))), (Of s42 (zAN .eql (.t s41) (.c (.int .u16 0))))])
 (.cond (.t s42) (.ops [(Oa s43 3 s3), (On (.loud (zA0 1 (.t s43) (.c (.int .u64 1)))))]) .skip))
 (.seq (.ops [(OL s44 6 s3), (On (.loud (zA0 6 (.t s2) (.t s44))))])
 .ret)))))⟩
def c13 : zAr :=
 ⟨66, [(.tmp s4), (.tmp s5)], (.seq (.ops [(Oq s3 (.alloc (zCs (.t s1)))), (OK s4 (.int .u64 0)), (OK s5 (.int .i64 0))])
 (.seq (.block 0 (.seq (.ops [(Om s9 s0), (Oc s10 27 [(.t s9)]), (Om s8 s10)])
 (.cond (.t s8) (.seq (.ops [(OK s4 (.int .u64 0)), (OK s5 (.int .i64 2))])
 .ret) (.seq (.ops [(Om s12 s0), (Oc s13 38 [(.t s12)]), (Ou s14 s13), (Om s11 s14)])
 (.cond (.t s11) (.seq (.ops [(OK s4 (.int .u64 0)), (OK s5 (.int .i64 11))])
 .ret) (.seq (.ops [(Oa s16 1 s3), (Ol s17 s16), (Of s18 (zAN .eql (.t s17) (.c (.int .u16 2)))), (Om s15 s18)])
 (.cond (.t s15) (.seq (.ops [(OK s4 (.int .u64 0)), (OK s5 (.int .i64 10))])
 .ret) (.seq (.ops [(Om s20 s0), (Of s21 (zAd (.t s20))), (Oa s22 10 s21), (Ol s23 s22), (Og s24 (zCw (.t s23))), (Ok .geq s25 s24 8), (Om s19 s25)])
 (.cond (.t s19) (.seq (.ops [(OK s4 (.int .u64 0)), (OK s5 (.int .i64 6))])
 .ret) .skip)))))))))
 (.seq (.ops [(Om s26 s0), (Of s27 (zAd (.t s26))), (Oa s28 11 s27), (Ol s29 s28), (Of s30 (zAN .add (.t s29) (.c (.int .u64 1)))), (Oa s31 2 s3), (On (.loud (zA0 1 (.t s31) (.t s30))))])
 (.seq (.ops [(OL s33 6 s3), (Oc s34 39 [(.t s33)]), (Om s32 s34), (Oe s35 0 s32), (Oe s36 1 s32), (Om s6 s35), (Om s7 s36)])
 (.seq (.seq (.ops [(Om s37 s7), (Ok .neq s38 s37 0)])
 (.cond (.t s38) (.seq (.ops [(Om s39 s7), (OK s4 (.int .u64 0)), (Om s5 s39)])
 .ret) .skip))
 (.seq (.ops [(Om s40 s0), (Of s41 (zAd (.t s40))), (Oa s42 11 s41), (Ol s43 s42), (Of s44 (zAN .add (.t s43) (.c (.int .u64 1)))), (Of s45 (zAd (.t s40))), (Oa s46 11 s45), (On (.loud (zA0 1 (.t s46) (.t s44))))])
 (.seq (.ops [(Om s47 s0), (Of s48 (zAd (.t s47))), (Oa s49 9 s48), (Ol s50 s49), (Om s51 s6), (Ob .add s52 s50 s51), (Of s53 (zAd (.t s47))), (Oa s54 9 s53), (On (.loud (zA0 1 (.t s54) (.t s52))))])
 (.seq (.draw (.calm (Om s55 s0) (.calm (Of s56 (zAd (.t s55))) (.calm (Oa s57 10 s56) (.calm (Ol s58 s57) (.calm (Oa s59 2 s3) (.calm (Ol s60 s59) (.calm (OL s61 6 s3) (.calm (Of s62 (zC7 [(.int .u16 0), (.int .u16 0), (.int .u64 0), (.int .u64 0), (.int .u32 0), (.str []), (.str []), (.int .u32 0)] [(0, (6, (.t s61)))])) (.calm (Oq s63 (.alloc (zCs (.t s62)))) .fin))))))))) [(On (.loud (zB3 (.one .int) (.t s58) (.t s60) (.t s63))))])
 (.seq (.ops [(Oa s64 2 s3), (Ol s65 s64), (Om s4 s65), (OK s5 (.int .i64 0))])
 .ret)))))))))⟩
def zDf : zAz :=
 (.seq (.seq (.ops [(Om s48 s8), (Oa s49 3 s6), (Ol s50 s49), (Ob .lss s51 s48 s50)])
 (.cond (.t s51) .skip (.exit 0)))
 (.seq (.block 1 (.seq (.ops [(Oa s54 1 s6), (Ol s55 s54)])
 (.block 2 (.seq (.ops [(Of s57 (zAN .eql (.t s55) (.c (.int .u8 1)))), (Om s56 s57)])
 (.cond (.t s56) (.draw (.calm (Om s58 s7) (.calm (Om s59 s0) (.calm (Oa s60 2 s6) (.calm (Ol s61 s60) (.calm (Om s62 s8) (.calm (Ob .add s63 s61 s62) (.calm (Of s64 (zAd (.t s59))) (.calm (Oa s65 2 s64) (.calm (Of s66 (zDQ 16 1 (.t s65) (.t s63))) (.calm (Ol s67 s66) .fin)))))))))) [(Ob .add s68 s58 s67), (Om s7 s68)]) (.seq (.ops [(Of s70 (zAN .eql (.t s55) (.c (.int .u8 2)))), (Om s69 s70)])
 (.cond (.t s69) (.draw (.calm (Om s71 s0) (.calm (Oa s72 2 s6) (.calm (Ol s73 s72) (.calm (Om s74 s8) (.calm (Ob .add s75 s73 s74) (.calm (Oa s76 4 s6) (.calm (Ol s77 s76) (.calm (Om s78 s8) (.calm (Of s79 (zAN .mul (.c (.int .i64 64)) (.t s78))) (.calm (Om s80 s8) (.calm (Of s81 (zAN .mul (.c (.int .i64 64)) (.t s80))) (.calm (Ok .add s82 s81 64) (.calm (Of s83 (zA8 (.t s77) (some (.t s79)) (some (.t s82)))) (.calm (Of s84 (zAd (.t s71))) (.calm (Oa s85 2 s84) .fin))))))))))))))) [(Of s86 (zDQ 16 1 (.t s85) (.t s75))), (On (.loud (zA0 1 (.t s86) (.t s83))))]) (.seq (.ops [(Of s88 (zAN .eql (.t s55) (.c (.int .u8 4)))), (Om s87 s88)])
 (.cond (.t s87) (.draw (.calm (Om s89 s0) (.calm (Oa s90 2 s6) (.calm (Ol s91 s90) (.calm (Om s92 s8) (.calm (Ob .add s93 s91 s92) (.calm (Of s95 (zAd (.t s89))) (.calm (Oa s96 2 s95) (.last ⟨(Oc s94 25 [(.c (.str [0])), (.c (.int .i64 64))]), [(Ol s91 s90)]⟩ .fin)))))))) [(Of s97 (zDQ 16 1 (.t s96) (.t s93))), (On (.loud (zA0 1 (.t s97) (.t s94))))]) .skip)))))))))
 (.ops [(Om s52 s8), (Ok .add s53 s52 1), (Om s8 s53)])))
def c15 : zAr :=
 ⟨113, [(.tmp s4)], (.seq (.ops [(OK s4 (.str []))])
 (.seq (.seq (.ops [(Om s9 s0), (Of s10 (zAd (.t s9))), (Oa s11 18 s10), (Ol s12 s11), (Of s13 (zBP (.t s12))), (Ok .eql s14 s13 0)])
 (.cond (.t s14) (.seq (.ops [(OK s4 (.str []))])
 .ret) .skip))
 (.seq (.ops [(Om s15 s1), (Om s16 s0), (Of s17 (zAd (.t s16))), (Oa s18 18 s17), (Ol s19 s18), (Of s20 (zBP (.t s19))), (Ob .rem s21 s15 s20), (Om s5 s21)])
 (.seq (.ops [(Om s22 s0), (Of s23 (zAd (.t s22))), (Oa s24 18 s23), (Ol s25 s24), (Om s26 s5), (Of s27 (zAU 5 (.t s25) (.t s26))), (OL s28 5 s27), (Oq s6 (.alloc (zCs (.c (.agg [(.int .i64 0), (.int .u8 0), (.int .i64 0), (.int .i64 0), (.str [])]))))), (On (.loud (zA0 5 (.t s6) (.t s28))))])
 (.seq (.draw (.calm (Om s29 s0) (.calm (Oq s30 (.alloc (zF3 5 0 [(.int .i64 0), (.int .u8 0), (.int .i64 0), (.int .i64 0), (.str [])] []))) (.calm (Om s31 s0) (.calm (Of s32 (zAd (.t s31))) (.calm (Oa s33 18 s32) (.calm (Ol s34 s33) (.calm (Om s35 s5) (.calm (Of s36 (qSlcS 5 (.t s34) none (some (.t s35)) none)) (.calm (Om s38 s0) (.calm (Of s39 (zAd (.t s38))) (.calm (Oa s40 18 s39) (.calm (Ol s41 s40) (.calm (Om s42 s5) (.calm (Ok .add s43 s42 1) (.calm (Of s44 (qSlcS 5 (.t s41) (some (.t s43)) none none)) (.last ⟨(Oq s37 (.loud (zE2 5 48 (.t s30) (.t s36)))), [(Ol s41 s40)]⟩ (.last ⟨(Oq s45 (.loud (zE2 5 48 (.t s37) (.t s44)))), []⟩ .fin))))))))))))))))) [(Of s46 (zAd (.t s29))), (Oa s47 18 s46), (On (.loud (zA0 1 (.t s47) (.t s45))))])
 (.seq (.ops [(OK s7 (.str []))])
 (.seq (.seq (.ops [(OK s8 (.int .i64 0))])
 (.block 0 (.loop zDf)))
 (.seq (.draw (.calm (Om s98 s0) (.calm (Of s99 (zAd (.t s98))) (.calm (Oa s100 1 s99) (.calm (Ol s101 s100) (.calm (Oa s102 0 s6) (.calm (Ol s103 s102) (.calm (Om s104 s7) .fin))))))) [(Oc s105 43 [(.t s101), (.t s103), (.c (.bool true)), (.t s104)])])
 (.seq (.ops [(Om s106 s0), (Oc s107 36 [(.t s106)])])
 (.seq (.ops [(Om s108 s0), (Of s109 (zAd (.t s108))), (Oa s110 1 s109), (Ol s111 s110), (Oc s112 37 [(.t s111)]), (Om s4 s112)])
 .ret))))))))))⟩
def c16 : zAr :=
 ⟨14, [(.tmp s2)], (.seq (.ops [(OK s2 .nilslice)])
 (.seq (.seq (.ops [(Om s4 s0), (Oc s5 27 [(.t s4)])])
 (.cond (.t s5) (.seq (.ops [(OK s2 .nilslice)])
 .ret) .skip))
 (.seq (.ops [(Om s6 s0), (Of s7 (zAd (.t s6))), (Oa s8 12 s7), (Ol s9 s8), (Om s3 s9)])
 (.seq (.ops [(Om s10 s0), (Of s11 (zAd (.t s10))), (Oa s12 12 s11), (On (.loud (zA0 1 (.t s12) (.c .nilslice))))])
 (.seq (.ops [(Om s13 s3), (Om s2 s13)])
 .ret)))))⟩
def c17 : zAr :=
 ⟨56, [(.tmp s4)], (.seq (.ops [(Oq s2 (.alloc (zCs (.t s0)))), (Oq s3 (.alloc (zCs (.t s1)))), (OK s4 (.bool false))])
 (.seq (.ops [(Oa s7 1 s3), (Ol s8 s7), (Of s9 (zAN .eql (.t s8) (.c (.int .u16 9)))), (Om s10 s9), (Ga s11 3 s3 s10 false), (Gl s12 s11 s10 false), (Gq s13 (.quiet false (zAN .rem (.t s12) (.c (.int .u64 64)))) s10 false), (Gq s14 (.quiet false (zAN .neq (.t s13) (.c (.int .u64 0)))) s10 false), (Gm s15 s14 s10 false), (Ga s16 1 s3 s15 true), (Gl s17 s16 s15 true), (Gq s18 (.quiet false (zAN .neq (.t s17) (.c (.int .u16 3)))) s15 true), (Gy s19 s15 s18 s10 false), (Oz s20 s10 s19), (Om s21 s20), (Ga s22 1 s3 s21 false), (Gl s23 s22 s21 false), (Gq s24 (.quiet false (zAN .eql (.t s23) (.c (.int .u16 3)))) s21 false), (Gm s25 s24 s21 false), (Ga s26 3 s3 s25 true), (Gl s27 s26 s25 true), (Gq s28 (.quiet false (zAN .neq (.t s27) (.c (.int .u64 0)))) s25 true), (Gy s29 s25 s28 s21 false), (Oz s30 s21 s29), (Om s5 s30)])
 (.seq (.seq (.ops [(Om s31 s5)])
 (.cond (.t s31) (.seq (.ops [(Oa s32 0 s2), (Ol s33 s32), (Of s34 (zAN .eql (.t s33) (.c (.int .u32 22)))), (Om s35 s34), (Ga s36 2 s2 s35 true), (Gl s37 s36 s35 true), (Gq s38 (.quiet false (zAN .eql (.t s37) (.c (.str [])))) s35 true), (Oy s39 s35 s38), (Om s4 s39)])
 .ret) .skip))
 (.seq (.ops [(OK s6 (.int .i64 0))])
 (.seq (.seq (.ops [(Oa s40 1 s3), (Ol s41 s40), (Of s42 (zAN .eql (.t s41) (.c (.int .u16 0))))])
 (.cond (.t s42) (.ops [(Oa s43 4 s3), (Ol s44 s43), (Of s45 (zBj .i64 (.t s44))), (Om s6 s45)]) .skip))
 (.seq (.ops [(Oa s46 0 s2), (Ol s47 s46), (Of s48 (zAN .eql (.t s47) (.c (.int .u32 0)))), (Om s49 s48), (Ga s50 2 s2 s49 true), (Gl s51 s50 s49 true), (Gq s52 (.quiet false (zBw (.t s51))) s49 true), (Gm s53 s6 s49 true), (Gb .eql s54 s52 s53 s49 true), (Oy s55 s49 s54), (Om s4 s55)])
 .ret))))))⟩
def c18 : zAr :=
 ⟨10, [(.tmp s2)], (.seq (.ops [(OK s2 (.int .i64 0))])
 (.seq (.seq (.ops [(Om s3 s0), (Oc s4 27 [(.t s3)])])
 (.cond (.t s4) (.seq (.ops [(OK s2 (.int .i64 0))])
 .ret) .skip))
 (.seq (.ops [(Om s5 s0), (Of s6 (zAd (.t s5))), (Oa s7 10 s6), (Ol s8 s7), (Og s9 (zCw (.t s8))), (Om s2 s9)])
 .ret)))⟩
def c19 : zAr :=
 ⟨11, [(.tmp s2)], (.seq (.ops [(OK s2 (.bool false))])
 (.seq (.ops [(Om s3 s0), (Oc s4 27 [(.t s3)]), (Om s5 s4), (Gm s6 s0 s5 false), (Gq s7 (.quiet false (zAd (.t s6))) s5 false), (Ga s8 6 s7 s5 false), (Gl s9 s8 s5 false), (Oz s10 s5 s9), (Om s2 s10)])
 .ret))⟩
def c20 : zAr :=
 ⟨46, [], (.seq (.seq (.ops [(Om s4 s0), (Oc s5 27 [(.t s4)]), (Om s6 s5), (Gm s7 s0 s6 false), (Gq s8 (.call (.c (.func (.func 38) [] [])) [(.t s7)]) s6 false), (Gq s9 (.quiet false (qUn .not (.t s8))) s6 false), (Oz s10 s6 s9)])
 (.cond (.t s10) .ret .skip))
 (.seq (.ops [(Om s11 s0), (Of s12 (zAd (.t s11))), (Oa s13 11 s12), (Ol s14 s13), (Of s15 (zAN .add (.t s14) (.c (.int .u64 1)))), (Of s16 (zAd (.t s11))), (Oa s17 11 s16), (On (.loud (zA0 1 (.t s17) (.t s15))))])
 (.seq (.ops [(Om s19 s0), (Of s20 (zAd (.t s19))), (Oa s21 11 s20), (Ol s22 s21), (Of s23 (zC7 [(.int .u16 0), (.int .u16 0), (.int .u64 0), (.int .u64 0), (.int .u32 0), (.str [])] [(1, (1, (.c (.int .u16 2)))), (2, (1, (.t s22)))])), (Oc s24 39 [(.t s23)]), (Om s18 s24), (Oe s25 0 s18), (Oe s26 1 s18), (Om s2 s25), (Om s3 s26)])
 (.seq (.ops [(Om s27 s0), (Of s28 (zAd (.t s27))), (Oa s29 9 s28), (Ol s30 s29), (Om s31 s2), (Ob .add s32 s30 s31), (Of s33 (zAd (.t s27))), (Oa s34 9 s33), (On (.loud (zA0 1 (.t s34) (.t s32))))])
 (.seq (.ops [(Om s35 s0), (Of s36 (zAd (.t s35))), (Oa s37 5 s36), (On (.loud (zA0 1 (.t s37) (.c (.bool true)))))])
 (.seq (.ops [(Om s38 s0), (Of s39 (zAd (.t s38))), (Oa s40 10 s39), (Ol s41 s40), (Og s42 (zCw (.t s41))), (Ok .eql s43 s42 0)])
 (.cond (.t s43) (.ops [(Om s44 s0), (Oc s45 44 [(.t s44)])]) .skip)))))))⟩
def c21 : zAr :=
 ⟨25, [(.tmp s2)], (.seq (.ops [(OK s2 (.bool false))])
 (.seq (.ops [(Om s3 s0), (Oc s4 45 [(.t s3)]), (Om s5 s4), (Gm s6 s0 s5 false), (Gq s7 (.quiet false (zAd (.t s6))) s5 false), (Ga s8 8 s7 s5 false), (Gl s9 s8 s5 false), (Oz s10 s5 s9), (Om s11 s10), (Gm s12 s0 s11 false), (Gq s13 (.quiet false (zAd (.t s12))) s11 false), (Ga s14 7 s13 s11 false), (Gl s15 s14 s11 false), (Gm s16 s15 s11 false), (Gm s17 s0 s16 true), (Gq s18 (.quiet false (zAd (.t s17))) s16 true), (Ga s19 6 s18 s16 true), (Gl s20 s19 s16 true), (Gq s21 (.quiet true (zCw (.t s20))) s16 true), (Gk .eql s22 s21 0 s16 true), (Gy s23 s16 s22 s11 false), (Oz s24 s11 s23), (Om s2 s24)])
 .ret))⟩
def c22 : zAr :=
 ⟨1, [(.tmp s0)], (.seq (.ops [(OK s0 (.str []))])
 (.seq (.ops [(OK s0 (.str [78, 66, 68, 77, 65, 71, 73, 67, 73, 72, 65, 86, 69, 79, 80, 84, 0, 3]))])
 .ret))⟩
def c23 : zAr :=
 ⟨21, [(.tmp s6)], (.seq (.ops [(OK s6 (.str []))])
 (.seq (.ops [(Oc s7 46 [(.c (.int .u64 1100100111001001)), (.c (.int .i64 8))]), (Om s8 s0), (Oc s9 46 [(.t s8), (.c (.int .i64 4))]), (Ob .add s10 s7 s9), (Om s11 s1), (Oc s12 46 [(.t s11), (.c (.int .i64 4))]), (Ob .add s13 s10 s12), (Om s14 s2), (Of s15 (zBw (.t s14))), (Of s16 (zBj .u64 (.t s15))), (Oc s17 46 [(.t s16), (.c (.int .i64 4))]), (Ob .add s18 s13 s17), (Om s19 s2), (Ob .add s20 s18 s19), (Om s6 s20)])
 .ret))⟩
def c24 : zAr :=
 ⟨16, [(.tmp s6)], (.seq (.ops [(OK s6 (.str []))])
 (.seq (.ops [(Oc s7 46 [(.c (.int .u64 1732535960)), (.c (.int .i64 4))]), (Om s8 s0), (Oc s9 46 [(.t s8), (.c (.int .i64 4))]), (Ob .add s10 s7 s9), (Om s11 s1), (Oc s12 46 [(.t s11), (.c (.int .i64 8))]), (Ob .add s13 s10 s12), (Om s14 s2), (Ob .add s15 s13 s14), (Om s6 s15)])
 .ret))⟩
def c26 : zAr :=
 ⟨26, [(.tmp s2)], (.seq (.ops [(OK s2 .nilptr)])
 (.seq (.ops [(Om s4 s0), (Oc s5 50 [(.t s4)]), (Of s6 (zC7 [.nilslice, (.str []), (.bool false), (.bool false), (.bool false), (.bool false), (.bool false), (.int .i64 0), .nilmap] [(0, (1, (.t s5))), (7, (1, (.c (.int .i64 (-1)))))])), (Oq s7 (.alloc (zCs (.t s6)))), (Om s3 s7)])
 (.seq (.ops [(Om s8 s3), (Oq s9 (.alloc aMkm)), (Om s10 s3), (Of s11 (qMkf (.func 51) [(.t s10)] [])), (On (.loud (zB3 (.one .int) (.t s9) (.c (.int .u32 1)) (.t s11)))), (Om s12 s3), (Of s13 (qMkf (.func 52) [(.t s12)] [])), (On (.loud (zB3 (.one .int) (.t s9) (.c (.int .u32 2)) (.t s13)))), (Om s14 s3), (Of s15 (qMkf (.func 53) [(.t s14)] [])), (On (.loud (zB3 (.one .int) (.t s9) (.c (.int .u32 3)) (.t s15)))), (Om s16 s3), (Of s17 (qMkf (.func 54) [(.t s16)] [])), (On (.loud (zB3 (.one .int) (.t s9) (.c (.int .u32 6)) (.t s17)))), (Om s18 s3), (Of s19 (qMkf (.func 54) [(.t s18)] [])), (On (.loud (zB3 (.one .int) (.t s9) (.c (.int .u32 7)) (.t s19)))), (Om s20 s3), (Of s21 (qMkf (.func 55) [(.t s20)] [])), (On (.loud (zB3 (.one .int) (.t s9) (.c (.int .u32 8)) (.t s21)))), (Om s22 s9), (Of s23 (zAd (.t s8))), (Oa s24 8 s23), (On (.loud (zA0 1 (.t s24) (.t s22))))])
 (.seq (.ops [(Om s25 s3), (Om s2 s25)])
 .ret))))⟩
def c27 : zAr :=
 ⟨12, [(.tmp s2)], (.seq (.ops [(OK s2 (.bool false))])
 (.seq (.ops [(Om s3 s0), (Of s4 (zCN false .ptr (.t s3))), (Om s5 s4), (Gm s6 s0 s5 false), (Gq s7 (.quiet false (zAd (.t s6))) s5 false), (Ga s8 10 s7 s5 false), (Gl s9 s8 s5 false), (Gq s10 (.quiet false (zCN false .map (.t s9))) s5 false), (Oz s11 s5 s10), (Om s2 s11)])
 .ret))⟩
def c28 : zAr :=
 ⟨70, [(.tmp s2)], (.seq (.ops [(OK s2 (.int .i64 0))])
 (.seq (.ops [(Oc s4 56 []), (Om s3 s4)])
 (.seq (.seq (.ops [(Om s5 s0), (Of s6 (zAd (.t s5))), (Oa s7 8 s6), (Ol s8 s7), (Om s9 s3), (Oc s10 48 [(.t s8), (.t s9)]), (Ou s11 s10)])
 (.cond (.t s11) (.seq (.seq (.ops [(Om s12 s3), (Om s13 s0), (Of s14 (zAd (.t s13))), (Oa s15 8 s14), (Ol s16 s15), (Oc s17 48 [(.t s12), (.t s16)]), (Ou s18 s17)])
 (.cond (.t s18) (.ops [(Om s19 s0), (Oc s20 44 [(.t s19)])]) .skip))
 (.seq (.ops [(OK s2 (.int .i64 0))])
 .ret)) .skip))
 (.seq (.ops [(Om s21 s0), (Of s22 (zAd (.t s21))), (Oa s23 3 s22), (On (.loud (zA0 1 (.t s23) (.c (.bool true)))))])
 (.seq (.draw (.calm (Om s24 s0) (.calm (Of s25 (zAd (.t s24))) (.calm (Oa s26 9 s25) (.calm (Ol s27 s26) (.last ⟨(Oc s28 57 [(.c (.int .u64 3)), (.c (.int .i64 4))]), [(Ol s27 s26)]⟩ .fin))))) [(Ob .add s29 s27 s28), (Of s30 (zAd (.t s24))), (Oa s31 9 s30), (On (.loud (zA0 1 (.t s31) (.t s29))))])
 (.seq (.seq (.ops [(Om s32 s0), (Of s33 (zAd (.t s32))), (Oa s34 1 s33), (Ol s35 s34)])
 (.cond (.t s35) (.draw (.calm (Om s36 s0) (.calm (Of s37 (zAd (.t s36))) (.calm (Oa s38 9 s37) (.calm (Ol s39 s38) (.calm (Of s40 (zC7 [(.int .u32 0), (.str [])] [(0, (1, (.c (.int .u32 8))))])) (.last ⟨(Oc s41 58 [(.t s40)]), [(Ol s39 s38)]⟩ .fin)))))) [(Ob .add s42 s39 s41), (Of s43 (zAd (.t s36))), (Oa s44 9 s43), (On (.loud (zA0 1 (.t s44) (.t s42))))]) .skip))
 (.seq (.draw (.calm (Om s45 s0) (.calm (Of s46 (zAd (.t s45))) (.calm (Oa s47 9 s46) (.calm (Ol s48 s47) (.calm (Om s49 s0) (.calm (Of s50 (zAd (.t s49))) (.calm (Oa s51 0 s50) (.calm (Ol s52 s51) (.calm (Of s53 (zBw (.t s52))) (.calm (Of s54 (zBj .u64 (.t s53))) (.calm (Om s56 s0) (.calm (Of s57 (zAd (.t s56))) (.calm (Oa s58 0 s57) (.calm (Ol s59 s58) (.last ⟨(Oc s55 57 [(.t s54), (.c (.int .i64 4))]), [(Ol s48 s47), (Ol s59 s58)]⟩ (.calm (Ob .add s60 s55 s59) (.last ⟨(Oc s61 57 [(.c (.int .u64 0)), (.c (.int .i64 2))]), [(Ol s48 s47), (Ol s59 s58)]⟩ (.calm (Ob .add s62 s60 s61) (.calm (Of s63 (zC7 [(.int .u32 0), (.str [])] [(0, (1, (.c (.int .u32 7)))), (1, (1, (.t s62)))])) (.last ⟨(Oc s64 58 [(.t s63)]), [(Ol s48 s47)]⟩ .fin)))))))))))))))))))) [(Ob .add s65 s48 s64), (Of s66 (zAd (.t s45))), (Oa s67 9 s66), (On (.loud (zA0 1 (.t s67) (.t s65))))])
 (.seq (.ops [(Om s68 s3), (Of s69 (zBw (.t s68))), (Om s2 s69)])
 .ret))))))))⟩
def c29 : zAr :=
 ⟨90, [(.tmp s2)], (.seq (.ops [(OK s2 (.int .i64 0))])
 (.seq (.ops [(Om s7 s0), (Of s8 (zAd (.t s7))), (Oa s9 8 s8), (Ol s10 s9), (Oc s11 59 [(.t s10), (.c (.int .i64 1024))]), (Om s6 s11), (Oe s12 0 s6), (Oe s13 1 s6), (Oe s14 2 s6), (Oq s3 (.alloc (zCs (.c (.agg [(.int .u32 0), (.int .u32 0), (.str [])]))))), (On (.loud (zA0 3 (.t s3) (.t s12)))), (Om s4 s13), (Om s5 s14)])
 (.seq (.seq (.ops [(Om s15 s5), (Ok .neq s16 s15 0)])
 (.cond (.t s16) (.seq (.ops [(Om s17 s0), (Oc s18 44 [(.t s17)])])
 (.seq (.ops [(OK s2 (.int .i64 0))])
 .ret)) .skip))
 (.seq (.block 0 (.seq (.ops [(Om s20 s4), (Ok .eql s21 s20 0), (Om s19 s21)])
 (.cond (.t s19) .skip (.seq (.ops [(Oa s23 0 s3), (Ol s24 s23), (Of s25 (zAN .eql (.t s24) (.c (.int .u32 8)))), (Om s22 s25)])
 (.cond (.t s22) (.ops [(Om s26 s0), (Om s27 s0), (Of s28 (zAd (.t s27))), (Oa s29 2 s28), (Ol s30 s29), (Om s31 s30), (Ga s32 1 s3 s31 false), (Gl s33 s32 s31 false), (Gq s34 (.quiet false (zAN .eql (.t s33) (.c (.int .u32 1)))) s31 false), (Oz s35 s31 s34), (Of s36 (zAd (.t s26))), (Oa s37 2 s36), (On (.loud (zA0 1 (.t s37) (.t s35))))]) (.seq (.ops [(Oa s39 0 s3), (Ol s40 s39), (Of s41 (zAN .neq (.t s40) (.c (.int .u32 7)))), (Om s38 s41)])
 (.cond (.t s38) .skip (.seq (.ops [(Oa s43 1 s3), (Ol s44 s43), (Of s45 (zAN .eql (.t s44) (.c (.int .u32 3)))), (Om s46 s45), (Ga s47 2 s3 s46 true), (Gl s48 s47 s46 true), (Gq s49 (.quiet false (zBw (.t s48))) s46 true), (Gk .eql s50 s49 12 s46 true), (Oy s51 s46 s50), (Om s52 s51), (Ga s53 2 s3 s52 true), (Gl s54 s53 s52 true), (Gq s55 (.quiet false (zA8 (.t s54) none (some (.c (.int .i64 2))))) s52 true), (Gq s56 (.quiet false (zAN .eql (.t s55) (.c (.str [0, 0])))) s52 true), (Oy s57 s52 s56), (Om s42 s57)])
 (.cond (.t s42) (.ops [(Om s59 s0), (Oa s60 2 s3), (Ol s61 s60), (Oc s62 60 [(.t s61), (.c (.int .i64 2)), (.c (.int .i64 8))]), (Om s58 s62), (Oe s63 0 s58), (Oe s64 1 s58), (Of s65 (zAd (.t s59))), (Oa s66 7 s65), (On (.loud (zA0 1 (.t s66) (.t s63))))]) (.seq (.ops [(Oa s68 1 s3), (Ol s69 s68), (Of s70 (zAN .eql (.t s69) (.c (.int .u32 1)))), (Om s67 s70)])
 (.cond (.t s67) (.ops [(Om s71 s0), (Of s72 (zAd (.t s71))), (Oa s73 4 s72), (On (.loud (zA0 1 (.t s73) (.c (.bool true)))))]) (.seq (.ops [(Oa s75 1 s3), (Ol s76 s75), (Of s77 (zAN .geq (.t s76) (.c (.int .u32 2147483648)))), (Om s74 s77)])
 (.cond (.t s74) (.seq (.draw (.calm (Om s78 s0) (.calm (Of s79 (zAd (.t s78))) (.calm (Oa s80 9 s79) (.calm (Ol s81 s80) (.calm (Of s82 (zC7 [(.int .u32 0), (.str [])] [(0, (1, (.c (.int .u32 2))))])) (.last ⟨(Oc s83 58 [(.t s82)]), [(Ol s81 s80)]⟩ .fin)))))) [(Ob .add s84 s81 s83), (Of s85 (zAd (.t s78))), (Oa s86 9 s85), (On (.loud (zA0 1 (.t s86) (.t s84))))])
 (.ops [(Om s87 s0), (Oc s88 44 [(.t s87)])])) .skip)))))))))))))
 (.seq (.ops [(Om s89 s4), (Om s2 s89)])
 .ret)))))⟩
def c30 : zAr :=
 ⟨107, [(.tmp s2)], (.seq (.ops [(OK s2 (.int .i64 0))])
 (.seq (.seq (.ops [(Om s13 s0), (Of s14 (zAd (.t s13))), (Oa s15 2 s14), (Ol s16 s15), (Om s17 s16), (Gm s18 s0 s17 true), (Gq s19 (.quiet false (zAd (.t s18))) s17 true), (Ga s20 8 s19 s17 true), (Gl s21 s20 s17 true), (Gq s22 (.quiet false (zBw (.t s21))) s17 true), (Gk .lss s23 s22 4 s17 true), (Oy s24 s17 s23)])
 (.cond (.t s24) (.seq (.ops [(OK s2 (.int .i64 0))])
 .ret) .skip))
 (.seq (.seq (.ops [(Om s26 s0), (Of s27 (zAd (.t s26))), (Oa s28 8 s27), (Ol s29 s28), (Oc s30 60 [(.t s29), (.c (.int .i64 0)), (.c (.int .i64 4))]), (Om s25 s30), (Oe s31 0 s25), (Oe s32 1 s25), (Om s3 s31), (Om s4 s32)])
 (.seq (.ops [(Om s33 s3), (Of s34 (zAN .eql (.t s33) (.c (.int .u64 1720595439)))), (Om s35 s34), (Gm s36 s0 s35 true), (Gq s37 (.quiet false (zAd (.t s36))) s35 true), (Ga s38 2 s37 s35 true), (Gl s39 s38 s35 true), (Oy s40 s35 s39)])
 (.cond (.t s40) (.seq (.ops [(Om s41 s0), (Oc s42 61 [(.t s41)]), (Om s2 s42)])
 .ret) .skip)))
 (.seq (.ops [(Om s44 s0), (Of s45 (zAd (.t s44))), (Oa s46 8 s45), (Ol s47 s46), (Oc s48 60 [(.t s47), (.c (.int .i64 8)), (.c (.int .i64 8))]), (Om s43 s48), (Oe s49 0 s43), (Oe s50 1 s43), (Om s5 s49), (Om s6 s50)])
 (.seq (.ops [(Om s52 s0), (Of s53 (zAd (.t s52))), (Oa s54 10 s53), (Ol s55 s54), (Om s56 s5), (Og s57 (zGb (.one .int) true .nilptr (.t s55) (.t s56))), (Om s51 s57), (Oe s58 0 s51), (Oe s59 1 s51), (Om s7 s58), (Om s8 s59)])
 (.seq (.ops [(OK s9 (.int .i64 0))])
 (.seq (.seq (.ops [(Om s60 s8), (Om s61 s60), (Gm s62 s7 s61 true), (Gq s63 (.quiet false (zAd (.t s62))) s61 true), (Ga s64 0 s63 s61 true), (Ga s65 1 s64 s61 true), (Gl s66 s65 s61 true), (Gq s67 (.quiet false (zAN .eql (.t s66) (.c (.int .u16 0)))) s61 true), (Oy s68 s61 s67)])
 (.cond (.t s68) (.ops [(Om s69 s7), (Of s70 (zAd (.t s69))), (Oa s71 0 s70), (Oa s72 4 s71), (Ol s73 s72), (Of s74 (zBj .i64 (.t s73))), (Om s9 s74)]) .skip))
 (.seq (.ops [(Om s76 s0), (Of s77 (zAd (.t s76))), (Oa s78 8 s77), (Ol s79 s78), (Om s80 s9), (Oc s81 62 [(.t s79), (.t s80)]), (Om s75 s81), (Oe s82 0 s75), (Oe s83 1 s75), (Oe s84 2 s75), (Oq s10 (.alloc (zCs (.c (.agg [(.int .u32 0), (.int .u64 0), (.str [])]))))), (On (.loud (zA0 3 (.t s10) (.t s82)))), (Om s11 s83), (Om s12 s84)])
 (.seq (.seq (.ops [(Om s85 s12), (Ok .neq s86 s85 0), (Om s87 s86), (Gm s88 s11 s87 false), (Gk .gtr s89 s88 0 s87 false), (Gm s90 s89 s87 false), (Gm s91 s8 s90 true), (Gq s92 (.quiet false (qUn .not (.t s91))) s90 true), (Gy s93 s90 s92 s87 false), (Oz s94 s87 s93)])
 (.cond (.t s94) (.seq (.ops [(Om s95 s0), (Oc s96 44 [(.t s95)])])
 (.seq (.ops [(OK s2 (.int .i64 0))])
 .ret)) .skip))
 (.seq (.seq (.ops [(Om s97 s11), (Ok .gtr s98 s97 0)])
 (.cond (.t s98) (.ops [(Om s99 s0), (Om s100 s5), (Oa s101 0 s10), (Ol s102 s101), (Oa s103 2 s10), (Ol s104 s103), (Oc s105 63 [(.t s99), (.t s100), (.t s102), (.t s104)])]) .skip))
 (.seq (.ops [(Om s106 s11), (Om s2 s106)])
 .ret)))))))))))⟩
def c31l0 : zAz :=
 (.seq (.seq (.ops [(Om s27 s0), (Of s28 (zAd (.t s27))), (Oa s29 6 s28), (Ol s30 s29), (Ou s31 s30), (Om s32 s31), (Gm s33 s0 s32 true), (Gq s34 (.quiet false (zAd (.t s33))) s32 true), (Ga s35 7 s34 s32 true), (Gl s36 s35 s32 true), (Gk .lss s37 s36 0 s32 true), (Oy s38 s32 s37)])
 (.cond (.t s38) .skip (.exit 0)))
 (.block 1 (.seq (.ops [(Om s40 s0), (Oc s41 65 [(.t s40)]), (Om s39 s41), (Oe s42 0 s39), (Oe s43 1 s39), (Om s6 s42), (Om s7 s43)])
 (.seq (.ops [(Om s44 s5), (Om s45 s6), (Ob .add s46 s44 s45), (Om s5 s46)])
 (.seq (.ops [(Om s47 s7), (Ou s48 s47)])
 (.cond (.t s48) (.exit 0) .skip))))))
def c31 : zAr :=
 ⟨50, [(.tmp s4)], (.seq (.ops [(OK s4 (.str []))])
 (.seq (.seq (.ops [(Om s8 s0), (Oc s9 64 [(.t s8)])])
 (.cond (.t s9) (.seq (.ops [(OK s4 (.str []))])
 .ret) .skip))
 (.seq (.ops [(OK s5 (.str []))])
 (.seq (.seq (.ops [(Om s10 s0), (Of s11 (zAd (.t s10))), (Oa s12 2 s11), (Ol s13 s12), (Ou s14 s13)])
 (.cond (.t s14) (.seq (.ops [(Om s15 s0), (Of s16 (zAd (.t s15))), (Oa s17 2 s16), (On (.loud (zA0 1 (.t s17) (.c (.bool true)))))])
 (.ops [(Oc s18 56 []), (Om s5 s18)])) .skip))
 (.seq (.ops [(Om s19 s0), (Of s20 (zAd (.t s19))), (Oa s21 1 s20), (Ol s22 s21), (Om s23 s1), (Ob .add s24 s22 s23), (Of s25 (zAd (.t s19))), (Oa s26 1 s25), (On (.loud (zA0 1 (.t s26) (.t s24))))])
 (.seq (.block 0 (.loop c31l0))
 (.seq (.ops [(Om s49 s5), (Om s4 s49)])
 .ret)))))))⟩
def c32 : zAr :=
 ⟨22, [(.tmp s2), (.tmp s3), (.tmp s4)], (.seq (.ops [(OK s2 (.int .i64 0)), (OK s3 (.str [])), (OK s4 (.bool false))])
 (.seq (.seq (.ops [(Om s5 s0), (Oc s6 64 [(.t s5)]), (Om s7 s6), (Gm s8 s0 s7 false), (Gq s9 (.quiet false (zAd (.t s8))) s7 false), (Ga s10 7 s9 s7 false), (Gl s11 s10 s7 false), (Gk .lss s12 s11 0 s7 false), (Oz s13 s7 s12)])
 (.cond (.t s13) (.seq (.ops [(Of s2 (zA3 (.c (.int .i64 (-1))))), (OK s3 (.str [])), (OK s4 (.bool false))])
 .ret) .skip))
 (.seq (.draw (.calm (Om s14 s0) (.calm (Of s15 (zAd (.t s14))) (.calm (Oa s16 7 s15) (.calm (Ol s17 s16) (.calm (Om s18 s0) (.calm (Of s19 (zAd (.t s18))) (.calm (Oa s20 1 s19) (.calm (Ol s21 s20) (.calm (Om s2 s17) .fin))))))))) [(Om s3 s21), (OK s4 (.bool true))])
 .ret)))⟩
def c33 : zAr :=
 ⟨11, [(.tmp s4)], (.seq (.ops [(OK s4 .nilptr)])
 (.seq (.ops [(Om s5 s0), (Of s6 (qMaxi [(.t s5), (.c (.int .i64 0))])), (Om s7 s1), (Oq s8 (.alloc aMkm)), (Of s9 (zC7 [(.int .i64 0), (.bool false), (.str []), (.str []), (.int .i64 0), .nilslice, .nilmap, (.bool false), (.bool false)] [(0, (1, (.t s6))), (1, (1, (.t s7))), (6, (1, (.t s8)))])), (Oq s10 (.alloc (zCs (.t s9)))), (Om s4 s10)])
 .ret))⟩
def c34 : zAr :=
 ⟨12, [(.tmp s2)], (.seq (.ops [(OK s2 (.bool false))])
 (.seq (.ops [(Om s3 s0), (Oc s4 64 [(.t s3)]), (Ou s5 s4), (Om s6 s5), (Gm s7 s0 s6 true), (Gq s8 (.quiet false (zAd (.t s7))) s6 true), (Ga s9 5 s8 s6 true), (Gl s10 s9 s6 true), (Oy s11 s6 s10), (Om s2 s11)])
 .ret))⟩
def c35 : zAr :=
 ⟨20, [], (.seq (.seq (.ops [(Om s4 s0), (Oc s5 45 [(.t s4)]), (Om s6 s5), (Gm s7 s0 s6 false), (Gq s8 (.call (.c (.func (.func 21) [] [])) [(.t s7)]) s6 false), (Oz s9 s6 s8)])
 (.cond (.t s9) .ret .skip))
 (.seq (.ops [(Om s10 s0), (Of s11 (zAd (.t s10))), (Oa s12 2 s11), (Ol s13 s12), (Om s14 s1), (Ob .add s15 s13 s14), (Of s16 (zAd (.t s10))), (Oa s17 2 s16), (On (.loud (zA0 1 (.t s17) (.t s15))))])
 (.ops [(Om s18 s0), (Oc s19 66 [(.t s18)])])))⟩
def c36l0 : zAz :=
 (.seq (.seq (.ops [(Om s4 s0), (Of s5 (zAd (.t s4))), (Oa s6 18 s5), (Ol s7 s6), (Of s8 (zBP (.t s7))), (Ok .leq s9 s8 1000)])
 (.cond (.t s9) .skip (.exit 0)))
 (.block 1 (.seq (.ops [(Om s11 s0), (Of s12 (zAd (.t s11))), (Oa s13 1 s12), (Ol s14 s13), (Oc s15 67 [(.t s14)]), (Om s10 s15), (Oe s16 0 s10), (Oe s17 1 s10), (Oq s2 (.alloc (zCs (.c (.agg [(.int .i64 0), (.int .u8 0), (.int .i64 0), (.int .i64 0), (.str [])]))))), (On (.loud (zA0 5 (.t s2) (.t s16)))), (Om s3 s17)])
 (.seq (.seq (.ops [(Om s18 s3), (Ou s19 s18), (Om s20 s19), (Gm s21 s0 s20 false), (Gq s22 (.quiet false (zAd (.t s21))) s20 false), (Ga s23 1 s22 s20 false), (Gl s24 s23 s20 false), (Gq s25 (.call (.c (.func (.func 68) [] [])) [(.t s24)]) s20 false), (Gq s26 (.quiet false (qUn .not (.t s25))) s20 false), (Oz s27 s20 s26)])
 (.cond (.t s27) .ret .skip))
 (.draw (.calm (Om s28 s0) (.calm (Om s29 s0) (.calm (Of s30 (zAd (.t s29))) (.calm (Oa s31 18 s30) (.calm (Ol s32 s31) (.calm (OL s33 5 s2) (.calm (Oq s34 (.alloc (zF3 5 1 [(.int .i64 0), (.int .u8 0), (.int .i64 0), (.int .i64 0), (.str [])] [(0, (5, (.t s33)))]))) (.last ⟨(Oq s35 (.loud (zE2 5 48 (.t s32) (.t s34)))), []⟩ .fin)))))))) [(Of s36 (zAd (.t s28))), (Oa s37 18 s36), (On (.loud (zA0 1 (.t s37) (.t s35))))])))))
def c36 : zAr :=
 ⟨38, [], (.block 0 (.loop c36l0))⟩
def c37 : zAr :=
 ⟨14, [(.tmp s2)], (.seq (.ops [(OK s2 (.str []))])
 (.seq (.seq (.ops [(Om s4 s0), (Oc s5 45 [(.t s4)])])
 (.cond (.t s5) (.seq (.ops [(OK s2 (.str []))])
 .ret) .skip))
 (.seq (.ops [(Om s6 s0), (Of s7 (zAd (.t s6))), (Oa s8 3 s7), (Ol s9 s8), (Om s3 s9)])
 (.seq (.ops [(Om s10 s0), (Of s11 (zAd (.t s10))), (Oa s12 3 s11), (On (.loud (zA0 1 (.t s12) (.c (.str [])))))])
 (.seq (.ops [(Om s13 s3), (Om s2 s13)])
 .ret)))))⟩
def c38 : zAr :=
 ⟨21, [(.tmp s2)], (.seq (.ops [(OK s2 (.bool false))])
 (.seq (.ops [(Om s3 s0), (Of s4 (zAd (.t s3))), (Oa s5 4 s4), (Ol s6 s5), (Om s7 s6), (Gm s8 s0 s7 true), (Gq s9 (.quiet false (zAd (.t s8))) s7 true), (Ga s10 5 s9 s7 true), (Gl s11 s10 s7 true), (Gq s12 (.quiet false (qUn .not (.t s11))) s7 true), (Oy s13 s7 s12), (Om s14 s13), (Gm s15 s0 s14 true), (Gq s16 (.quiet false (zAd (.t s15))) s14 true), (Ga s17 6 s16 s14 true), (Gl s18 s17 s14 true), (Gq s19 (.quiet false (qUn .not (.t s18))) s14 true), (Oy s20 s14 s19), (Om s2 s20)])
 .ret))⟩
def c39 : zAr :=
 ⟨37, [(.tmp s2), (.tmp s3)], (.seq (.ops [(Oq s1 (.alloc (zCs (.t s0)))), (OK s2 (.str [])), (OK s3 (.int .i64 0))])
 (.seq (.ops [(OK s4 (.int .i64 0))])
 (.seq (.seq (.ops [(Oa s5 1 s1), (Ol s6 s5), (Of s7 (zAN .eql (.t s6) (.c (.int .u16 1))))])
 (.cond (.t s7) (.ops [(Oa s8 4 s1), (Ol s9 s8), (Of s10 (zBj .i64 (.t s9))), (Om s4 s10)]) .skip))
 (.seq (.seq (.ops [(Oa s11 5 s1), (Ol s12 s11), (Of s13 (zBw (.t s12))), (Om s14 s4), (Ob .neq s15 s13 s14)])
 (.cond (.t s15) (.seq (.ops [(OK s2 (.str [])), (OK s3 (.int .i64 1))])
 .ret) .skip))
 (.seq (.draw (.calm (Oa s16 0 s1) (.calm (Ol s17 s16) (.calm (Of s18 (zGa 37 (.t s17))) (.calm (Oa s19 1 s1) (.calm (Ol s20 s19) (.calm (Of s21 (zGa 37 (.t s20))) (.calm (Oa s22 2 s1) (.calm (Ol s23 s22) (.calm (Of s24 (zGa 32 (.t s23))) (.calm (Oa s25 3 s1) (.calm (Ol s26 s25) (.calm (Of s27 (zGa 32 (.t s26))) (.calm (Oa s28 4 s1) (.calm (Ol s29 s28) (.calm (Of s30 (zGa 38 (.t s29))) (.calm (Oq s31 (.alloc (zF3 1 5 [.niliface] [(0, (1, (.t s18))), (1, (1, (.t s21))), (2, (1, (.t s24))), (3, (1, (.t s27))), (4, (1, (.t s30)))]))) (.calm (Oa s34 5 s1) (.calm (Ol s35 s34) (.last ⟨(Oc s32 69 [(.t s31)]), [(Ol s35 s34)]⟩ (.calm (Of s33 (zAN .add (.c (.str [37, 96, 149, 19])) (.t s32))) .fin)))))))))))))))))))) [(Ob .add s36 s33 s35), (Om s2 s36), (OK s3 (.int .i64 0))])
 .ret)))))⟩
def c43 : zAr :=
 ⟨71, [(.tmp s8)], (.seq (.ops [(OK s8 (.bool false))])
 (.seq (.seq (.ops [(Om s11 s0), (Oc s12 45 [(.t s11)])])
 (.cond (.t s12) (.seq (.ops [(OK s8 (.bool false))])
 .ret) .skip))
 (.seq (.ops [(Om s14 s0), (Of s15 (zAd (.t s14))), (Oa s16 6 s15), (Ol s17 s16), (Om s18 s1), (Og s19 (zGb (.one .int) true (.agg [(.int .u16 0), (.int .u16 0), (.int .u64 0), (.int .u64 0), (.int .u32 0), (.str [])]) (.t s17) (.t s18))), (Om s13 s19), (Oe s20 0 s13), (Oe s21 1 s13), (Oq s9 (.alloc (zCs (.c (.agg [(.int .u16 0), (.int .u16 0), (.int .u64 0), (.int .u64 0), (.int .u32 0), (.str [])]))))), (On (.loud (zA0 6 (.t s9) (.t s20)))), (Om s10 s21)])
 (.seq (.seq (.ops [(Om s22 s10), (Ou s23 s22), (Om s24 s23), (Gm s25 s0 s24 false), (Gq s26 (.quiet false (zAd (.t s25))) s24 false), (Ga s27 5 s26 s24 false), (Gl s28 s27 s24 false), (Gq s29 (.quiet false (zBP (.t s28))) s24 false), (Gk .gtr s30 s29 0 s24 false), (Gm s31 s30 s24 false), (Gm s32 s1 s31 true), (Gm s33 s0 s31 true), (Gq s34 (.quiet false (zAd (.t s33))) s31 true), (Ga s35 5 s34 s31 true), (Gl s36 s35 s31 true), (Gq s37 (.quiet false (zAU 5 (.t s36) (.c (.int .i64 0)))) s31 true), (Ga s38 0 s37 s31 true), (Gl s39 s38 s31 true), (Gb .geq s40 s32 s39 s31 true), (Gy s41 s31 s40 s24 false), (Oz s42 s24 s41)])
 (.cond (.t s42) (.seq (.ops [(OK s8 (.bool false))])
 .ret) .skip))
 (.seq (.ops [(Om s43 s0), (Of s44 (zAd (.t s43))), (Oa s45 6 s44), (Ol s46 s45), (Om s47 s1), (On (.loud (zCp (.one .int) (.t s46) (.t s47))))])
 (.seq (.seq (.ops [(Om s48 s0), (Of s49 (zAd (.t s48))), (Oa s50 8 s49), (Ol s51 s50)])
 (.cond (.t s51) (.seq (.ops [(OK s8 (.bool true))])
 .ret) .skip))
 (.seq (.seq (.ops [(Oa s52 1 s9), (Ol s53 s52), (Of s54 (zAN .neq (.t s53) (.c (.int .u16 0))))])
 (.cond (.t s54) (.ops [(OK s3 (.str []))]) (.seq (.ops [(Om s55 s3), (Of s56 (zBw (.t s55))), (Oa s57 4 s9), (Ol s58 s57), (Of s59 (zBj .i64 (.t s58))), (Ob .neq s60 s56 s59)])
 (.cond (.t s60) (.ops [(OK s2 (.bool false))]) .skip))))
 (.seq (.seq (.ops [(Om s61 s2)])
 (.cond (.t s61) (.ops [(Om s62 s0), (OL s63 6 s9), (Om s64 s3), (Oc s65 72 [(.t s62), (.t s63), (.c (.int .u32 0)), (.t s64)])]) (.ops [(Om s66 s0), (OL s67 6 s9), (Oc s68 72 [(.t s66), (.t s67), (.c (.int .u32 5)), (.c (.str []))])])))
 (.seq (.ops [(Om s69 s0), (Oc s70 66 [(.t s69)])])
 (.seq (.ops [(OK s8 (.bool true))])
 .ret))))))))))⟩
def c44 : zAr :=
 ⟨9, [], (.seq (.ops [(Om s2 s0), (Of s3 (zAd (.t s2))), (Oa s4 6 s3), (On (.loud (zA0 1 (.t s4) (.c (.bool true)))))])
 (.ops [(Om s5 s0), (Of s6 (zAd (.t s5))), (Oa s7 10 s6), (Ol s8 s7), (On (.loud (lClrM (.t s8))))]))⟩
def c45 : zAr :=
 ⟨12, [(.tmp s2)], (.seq (.ops [(OK s2 (.bool false))])
 (.seq (.ops [(Om s3 s0), (Of s4 (zCN false .ptr (.t s3))), (Om s5 s4), (Gm s6 s0 s5 false), (Gq s7 (.quiet false (zAd (.t s6))) s5 false), (Ga s8 6 s7 s5 false), (Gl s9 s8 s5 false), (Gq s10 (.quiet false (zCN false .map (.t s9))) s5 false), (Oz s11 s5 s10), (Om s2 s11)])
 .ret))⟩
def c46 : zAr :=
 ⟨8, [(.tmp s4)], (.seq (.ops [(OK s4 (.str []))])
 (.seq (.ops [(Om s5 s0), (Om s6 s1), (Oc s7 73 [(.t s5), (.t s6)]), (Om s4 s7)])
 .ret))⟩
def c48 : zAr :=
 ⟨8, [(.tmp s4)], (.seq (.ops [(OK s4 (.bool false))])
 (.seq (.ops [(Om s5 s0), (Om s6 s1), (Oc s7 76 [(.t s5), (.t s6)]), (Om s4 s7)])
 .ret))⟩
def c50 : zAr :=
 ⟨8, [(.tmp s2)], (.seq (.ops [(OK s2 .nilslice)])
 (.seq (.seq (.ops [(Om s3 s0), (Of s4 (zCN false .slice (.t s3)))])
 (.cond (.t s4) (.seq (.ops [(OK s2 .nilslice)])
 .ret) .skip))
 (.seq (.ops [(Oq s5 (.alloc (zF3 3 0 [(.str []), (.int .u64 0), (.int .u16 0)] []))), (Om s6 s0), (Oq s7 (.loud (zE2 3 32 (.t s5) (.t s6)))), (Om s2 s7)])
 .ret)))⟩
def c54 : zAr :=
 ⟨54, [(.tmp s4)], (.seq (.ops [(Oq s3 (.alloc (zCs (.t s1)))), (OK s4 (.str []))])
 (.seq (.ops [(Oa s9 1 s3), (Ol s10 s9), (Oc s11 81 [(.t s10)]), (Om s8 s11), (Oe s12 0 s8), (Oe s13 1 s8), (Om s5 s12), (Om s6 s13)])
 (.seq (.seq (.ops [(Om s14 s6), (Ou s15 s14)])
 (.cond (.t s15) (.seq (.ops [(OL s16 2 s3), (Oc s17 78 [(.t s16), (.c (.int .u32 2147483651)), (.c (.str []))]), (Om s4 s17)])
 .ret) .skip))
 (.seq (.ops [(Om s18 s0), (Om s19 s5), (Oc s20 77 [(.t s18), (.t s19)]), (Om s7 s20)])
 (.seq (.seq (.ops [(Om s21 s7), (Ok .lss s22 s21 0)])
 (.cond (.t s22) (.seq (.ops [(OL s23 2 s3), (Oc s24 78 [(.t s23), (.c (.int .u32 2147483654)), (.c (.str []))]), (Om s4 s24)])
 .ret) .skip))
 (.seq (.seq (.ops [(Oa s25 0 s3), (Ol s26 s25), (Of s27 (zAN .eql (.t s26) (.c (.int .u32 7))))])
 (.cond (.t s27) (.ops [(Om s28 s0), (Om s29 s7), (Of s30 (zAd (.t s28))), (Oa s31 7 s30), (On (.loud (zA0 1 (.t s31) (.t s29))))]) .skip))
 (.seq (.draw (.calm (OL s32 2 s3) (.calm (Om s33 s0) (.calm (Of s34 (zAd (.t s33))) (.calm (Oa s35 0 s34) (.calm (Ol s36 s35) (.calm (Om s37 s7) (.calm (Of s38 (zAU 3 (.t s36) (.t s37))) (.calm (Oa s39 1 s38) (.calm (Ol s40 s39) (.calm (Om s41 s0) (.calm (Of s42 (zAd (.t s41))) (.calm (Oa s43 0 s42) (.calm (Ol s44 s43) (.calm (Om s45 s7) (.calm (Of s46 (zAU 3 (.t s44) (.t s45))) (.calm (Oa s47 2 s46) (.calm (Ol s48 s47) (.calm (OL s51 2 s3) (.last ⟨(Oc s49 82 [(.t s40), (.t s48)]), [(OL s32 2 s3), (OL s51 2 s3)]⟩ (.last ⟨(Oc s50 78 [(.t s32), (.c (.int .u32 3)), (.t s49)]), [(OL s51 2 s3)]⟩ .fin)))))))))))))))))))) [(Oc s52 78 [(.t s51), (.c (.int .u32 1)), (.c (.str []))]), (Ob .add s53 s50 s52), (Om s4 s53)])
 .ret)))))))⟩
def c55 : zAr :=
 ⟨15, [(.tmp s4)], (.seq (.ops [(Oq s3 (.alloc (zCs (.t s1)))), (OK s4 (.str []))])
 (.seq (.seq (.ops [(Oa s5 1 s3), (Ol s6 s5), (Of s7 (zAN .neq (.t s6) (.c (.str []))))])
 (.cond (.t s7) (.seq (.ops [(OL s8 2 s3), (Oc s9 78 [(.t s8), (.c (.int .u32 2147483651)), (.c (.str []))]), (Om s4 s9)])
 .ret) .skip))
 (.seq (.ops [(Om s10 s0), (Of s11 (zAd (.t s10))), (Oa s12 5 s11), (On (.loud (zA0 1 (.t s12) (.c (.bool true)))))])
 (.seq (.ops [(OL s13 2 s3), (Oc s14 78 [(.t s13), (.c (.int .u32 1)), (.c (.str []))]), (Om s4 s14)])
 .ret))))⟩
def c56 : zAr :=
 ⟨5, [(.tmp s0)], (.seq (.ops [(OK s0 (.str []))])
 (.seq (.ops [(Of s1 (zGa 37 (.c (.int .u16 3)))), (Oq s2 (.alloc (zF3 1 1 [.niliface] [(0, (1, (.t s1)))]))), (Oc s3 69 [(.t s2)]), (Of s4 (zAN .add (.c (.str [78, 66, 68, 77, 65, 71, 73, 67, 73, 72, 65, 86, 69, 79, 80, 84])) (.t s3))), (Om s0 s4)])
 .ret))⟩
def c57 : zAr :=
 ⟨14, [(.tmp s4)], (.seq (.ops [(OK s4 (.str []))])
 (.seq (.ops [(Om s6 s0), (Om s7 s1), (Oc s8 83 [(.t s6), (.t s7)]), (Oq s9 (.alloc (aS2b (.t s8)))), (Om s5 s9)])
 (.seq (.ops [(Om s10 s5), (Oc s11 84 [(.t s10)])])
 (.seq (.ops [(Om s12 s5), (Og s13 (qB2s (.t s12))), (Om s4 s13)])
 .ret))))⟩
def c58 : zAr :=
 ⟨17, [(.tmp s2)], (.seq (.ops [(Oq s1 (.alloc (zCs (.t s0)))), (OK s2 (.str []))])
 (.seq (.draw (.calm (Oa s3 0 s1) (.calm (Ol s4 s3) (.calm (Of s5 (zGa 38 (.t s4))) (.calm (Oa s6 1 s1) (.calm (Ol s7 s6) (.calm (Of s8 (zBw (.t s7))) (.calm (Of s9 (zBj .u32 (.t s8))) (.calm (Of s10 (zGa 38 (.t s9))) (.calm (Oq s11 (.alloc (zF3 1 2 [.niliface] [(0, (1, (.t s5))), (1, (1, (.t s10)))]))) (.calm (Oa s14 1 s1) (.calm (Ol s15 s14) (.last ⟨(Oc s12 69 [(.t s11)]), [(Ol s15 s14)]⟩ (.calm (Of s13 (zAN .add (.c (.str [73, 72, 65, 86, 69, 79, 80, 84])) (.t s12))) .fin))))))))))))) [(Ob .add s16 s13 s15), (Om s2 s16)])
 .ret))⟩
def c59 : zAr :=
 ⟨30, [(.cellN 3 s4), (.tmp s5), (.tmp s6)], (.seq (.ops [(Oq s4 (.alloc (zCs (.c (.agg [(.int .u32 0), (.int .u32 0), (.str [])]))))), (OK s5 (.int .i64 0)), (OK s6 (.int .i64 0))])
 (.seq (.seq (.ops [(Om s8 s0), (Oc s9 85 [(.t s8), (.c (.str [0, 3, 232, 137, 4, 85, 101, 169]))]), (Ou s10 s9)])
 (.cond (.t s10) (.seq (.ops [(Of s11 (zC7 [(.int .u32 0), (.int .u32 0), (.str [])] [])), (On (.loud (zA0 3 (.t s4) (.t s11)))), (OK s5 (.int .i64 0)), (OK s6 (.int .i64 8))])
 .ret) .skip))
 (.seq (.ops [(Om s13 s0), (Om s14 s1), (Oc s15 86 [(.t s13), (.c (.int .i64 20)), (.t s14)]), (Om s12 s15), (Oe s16 0 s12), (Oe s17 1 s12), (Oe s18 2 s12), (Om s7 s16), (Om s5 s17), (Om s6 s18)])
 (.seq (.seq (.ops [(Om s19 s5), (Ok .eql s20 s19 0)])
 (.cond (.t s20) (.seq (.ops [(Of s21 (zC7 [(.int .u32 0), (.int .u32 0), (.str [])] [])), (Om s22 s6), (On (.loud (zA0 3 (.t s4) (.t s21)))), (OK s5 (.int .i64 0)), (Om s6 s22)])
 .ret) .skip))
 (.seq (.ops [(Om s23 s0), (Oc s24 87 [(.t s23), (.c (.int .i64 8))]), (Om s25 s0), (Oc s26 87 [(.t s25), (.c (.int .i64 12))]), (Om s27 s7), (Of s28 (zC7 [(.int .u32 0), (.int .u32 0), (.str [])] [(0, (1, (.t s24))), (1, (1, (.t s26))), (2, (1, (.t s27)))])), (Om s29 s5), (On (.loud (zA0 3 (.t s4) (.t s28)))), (Om s5 s29), (OK s6 (.int .i64 0))])
 .ret)))))⟩
def c60 : zAr :=
 ⟨20, [(.tmp s6), (.tmp s7)], (.seq (.ops [(OK s6 (.int .u64 0)), (OK s7 (.bool false))])
 (.seq (.ops [(Om s11 s0), (Om s12 s1), (Om s13 s2), (Oc s14 88 [(.t s11), (.t s12), (.t s13)]), (Om s10 s14), (Oe s15 0 s10), (Oe s16 1 s10), (Om s8 s15), (Om s9 s16)])
 (.seq (.ops [(Om s17 s8), (Oc s18 89 [(.t s17)]), (Om s19 s9), (Om s6 s18), (Om s7 s19)])
 .ret)))⟩
def c61 : zAr :=
 ⟨115, [(.tmp s2)], (.seq (.ops [(OK s2 (.int .i64 0))])
 (.seq (.ops [(Om s11 s0), (Of s12 (zAd (.t s11))), (Oa s13 8 s12), (Ol s14 s13), (Oc s15 90 [(.t s14), (.c (.int .i64 1032))]), (Om s10 s15), (Oe s16 0 s10), (Oe s17 1 s10), (Oe s18 2 s10), (Oq s3 (.alloc (zCs (.c (.agg [(.int .u16 0), (.int .u16 0), (.int .u64 0), (.str [])]))))), (On (.loud (zA0 4 (.t s3) (.t s16)))), (Om s4 s17), (Om s5 s18)])
 (.seq (.seq (.ops [(Om s19 s5), (Ok .neq s20 s19 0)])
 (.cond (.t s20) (.seq (.ops [(Om s21 s0), (Oc s22 44 [(.t s21)])])
 (.seq (.ops [(OK s2 (.int .i64 0))])
 .ret)) .skip))
 (.seq (.seq (.ops [(Om s23 s4), (Ok .eql s24 s23 0)])
 (.cond (.t s24) (.seq (.ops [(OK s2 (.int .i64 0))])
 .ret) .skip))
 (.seq (.draw (.calm (Om s26 s0) (.calm (Of s27 (zAd (.t s26))) (.calm (Oa s28 10 s27) (.calm (Ol s29 s28) (.calm (Oa s30 2 s3) (.calm (Ol s31 s30) (.calm (Og s32 (zGb (.one .int) true .nilptr (.t s29) (.t s31))) (.calm (Om s25 s32) (.calm (Oe s33 0 s25) (.calm (Oe s34 1 s25) (.calm (Om s6 s33) .fin))))))))))) [(Om s7 s34)])
 (.seq (.seq (.ops [(Om s35 s7), (Ou s36 s35), (Om s37 s36), (Ga s38 1 s3 s37 false), (Gl s39 s38 s37 false), (Gq s40 (.quiet false (zAN .eql (.t s39) (.c (.int .u16 1)))) s37 false), (Gm s41 s40 s37 false), (Gm s42 s6 s41 true), (Ga s43 3 s3 s41 true), (Gl s44 s43 s41 true), (Gq s45 (.call (.c (.func (.func 91) [] [])) [(.t s42), (.t s44)]) s41 true), (Gq s46 (.quiet false (qUn .not (.t s45))) s41 true), (Gy s47 s41 s46 s37 false), (Oz s48 s37 s47)])
 (.cond (.t s48) (.seq (.ops [(Om s49 s0), (Oc s50 44 [(.t s49)])])
 (.seq (.ops [(OK s2 (.int .i64 0))])
 .ret)) .skip))
 (.seq (.seq (.ops [(Oa s51 1 s3), (Ol s52 s51), (Of s53 (zAN .geq (.t s52) (.c (.int .u16 32768))))])
 (.cond (.t s53) (.seq (.ops [(Om s54 s6), (Of s55 (zAd (.t s54))), (Oa s56 7 s55), (On (.loud (zA0 1 (.t s56) (.c (.int .u32 5)))))])
 (.seq (.ops [(Oa s58 3 s3), (Ol s59 s58), (Oc s60 60 [(.t s59), (.c (.int .i64 0)), (.c (.int .i64 4))]), (Om s57 s60), (Oe s61 0 s57), (Oe s62 1 s57), (Om s8 s61), (Om s9 s62)])
 (.seq (.ops [(Om s63 s9)])
 (.cond (.t s63) (.ops [(Om s64 s6), (Om s65 s8), (Of s66 (zBj .u32 (.t s65))), (Of s67 (zAd (.t s64))), (Oa s68 7 s67), (On (.loud (zA0 1 (.t s68) (.t s66))))]) .skip)))) .skip))
 (.seq (.seq (.ops [(Oa s69 0 s3), (Ol s70 s69), (Of s71 (zAN .and (.t s70) (.c (.int .u16 1)))), (Of s72 (zAN .neq (.t s71) (.c (.int .u16 0))))])
 (.cond (.t s72) (.seq (.seq (.draw (.calm (Om s73 s6) (.calm (Of s74 (zAd (.t s73))) (.calm (Oa s75 7 s74) (.calm (Ol s76 s75) (.calm (Of s77 (zAN .eql (.t s76) (.c (.int .u32 0)))) (.calm (Om s78 s77) (.calm (Gm s79 s6 s78 true) (.calm (Gq s80 (.quiet false (zAd (.t s79))) s78 true) (.calm (Ga s81 0 s80 s78 true) (.calm (Ga s82 1 s81 s78 true) (.calm (Gl s83 s82 s78 true) (.calm (Gq s84 (.quiet false (zAN .eql (.t s83) (.c (.int .u16 0)))) s78 true) (.calm (Oy s85 s78 s84) (.calm (Om s86 s85) (.calm (Gm s87 s6 s86 true) (.calm (Gq s88 (.quiet false (zAd (.t s87))) s86 true) (.calm (Ga s89 6 s88 s86 true) (.calm (Gl s90 s89 s86 true) (.calm (Gq s91 (.quiet false (zBw (.t s90))) s86 true) (.calm (Gm s92 s6 s86 true) (.calm (Gq s93 (.quiet false (zAd (.t s92))) s86 true) (.calm (Ga s94 0 s93 s86 true) (.calm (Ga s95 4 s94 s86 true) (.calm (Gl s96 s95 s86 true) (.calm (Gq s97 (.quiet false (zBj .i64 (.t s96))) s86 true) .fin))))))))))))))))))))))))) [(Gb .lss s98 s91 s97 s86 true), (Oy s99 s86 s98)])
 (.cond (.t s99) (.seq (.ops [(Om s100 s0), (Oc s101 44 [(.t s100)])])
 (.seq (.ops [(OK s2 (.int .i64 0))])
 .ret)) .skip))
 (.draw (.calm (Om s102 s0) (.calm (Oa s103 2 s3) (.calm (Ol s104 s103) (.calm (Om s105 s6) (.calm (Of s106 (zAd (.t s105))) (.calm (Oa s107 7 s106) (.calm (Ol s108 s107) (.calm (Om s109 s6) (.calm (Of s110 (zAd (.t s109))) (.calm (Oa s111 6 s110) (.calm (Ol s112 s111) .fin))))))))))) [(Oc s113 63 [(.t s102), (.t s104), (.t s108), (.t s112)])])) .skip))
 (.seq (.ops [(Om s114 s4), (Om s2 s114)])
 .ret)))))))))⟩
def c62 : zAr :=
 ⟨42, [(.cellN 3 s4), (.tmp s5), (.tmp s6)], (.seq (.ops [(Oq s4 (.alloc (zCs (.c (.agg [(.int .u32 0), (.int .u64 0), (.str [])]))))), (OK s5 (.int .i64 0)), (OK s6 (.int .i64 0))])
 (.seq (.seq (.ops [(Om s7 s0), (Oc s8 85 [(.t s7), (.c (.str [103, 68, 102, 152]))]), (Ou s9 s8)])
 (.cond (.t s9) (.seq (.ops [(Of s10 (zC7 [(.int .u32 0), (.int .u64 0), (.str [])] [])), (On (.loud (zA0 3 (.t s4) (.t s10)))), (OK s5 (.int .i64 0)), (OK s6 (.int .i64 8))])
 .ret) .skip))
 (.seq (.seq (.ops [(Om s11 s0), (Of s12 (zBw (.t s11))), (Ok .lss s13 s12 16)])
 (.cond (.t s13) (.seq (.ops [(Of s14 (zC7 [(.int .u32 0), (.int .u64 0), (.str [])] [])), (On (.loud (zA0 3 (.t s4) (.t s14)))), (OK s5 (.int .i64 0)), (OK s6 (.int .i64 0))])
 .ret) .skip))
 (.seq (.ops [(Om s15 s0), (Oc s16 87 [(.t s15), (.c (.int .i64 4))]), (Om s17 s0), (Oc s18 92 [(.t s17), (.c (.int .i64 8))]), (Of s19 (zC7 [(.int .u32 0), (.int .u64 0), (.str [])] [(0, (1, (.t s16))), (1, (1, (.t s18)))])), (On (.loud (zA0 3 (.t s4) (.t s19))))])
 (.seq (.ops [(OK s5 (.int .i64 16))])
 (.seq (.seq (.ops [(Oa s20 0 s4), (Ol s21 s20), (Of s22 (zAN .eql (.t s21) (.c (.int .u32 0)))), (Om s23 s22), (Gm s24 s1 s23 true), (Gk .gtr s25 s24 0 s23 true), (Oy s26 s23 s25)])
 (.cond (.t s26) (.seq (.seq (.ops [(Om s27 s0), (Of s28 (zBw (.t s27))), (Ok .sub s29 s28 16), (Om s30 s1), (Ob .lss s31 s29 s30)])
 (.cond (.t s31) (.seq (.ops [(Of s32 (zC7 [(.int .u32 0), (.int .u64 0), (.str [])] [])), (On (.loud (zA0 3 (.t s4) (.t s32)))), (OK s5 (.int .i64 0)), (OK s6 (.int .i64 0))])
 .ret) .skip))
 (.seq (.ops [(Om s33 s5), (Om s34 s1), (Ob .add s35 s33 s34), (Om s5 s35)])
 (.ops [(Om s36 s0), (Om s37 s5), (Of s38 (zA8 (.t s36) (some (.c (.int .i64 16))) (some (.t s37)))), (Oa s39 2 s4), (On (.loud (zA0 1 (.t s39) (.t s38))))]))) .skip))
 (.seq (.ops [(OL s40 3 s4), (Om s41 s5), (On (.loud (zA0 3 (.t s4) (.t s40)))), (Om s5 s41), (OK s6 (.int .i64 0))])
 .ret)))))))⟩
def c63 : zAr :=
 ⟨42, [], (.seq (.seq (.ops [(Om s8 s2), (Of s9 (zAN .neq (.t s8) (.c (.int .u32 0))))])
 (.cond (.t s9) (.ops [(OK s3 (.str []))]) .skip))
 (.seq (.ops [(Om s10 s0), (Of s11 (zAd (.t s10))), (Oa s12 10 s11), (Ol s13 s12), (Om s14 s1), (On (.loud (zCp (.one .int) (.t s13) (.t s14))))])
 (.seq (.ops [(Om s15 s0), (Om s16 s0), (Of s17 (zAd (.t s16))), (Oa s18 12 s17), (Ol s19 s18), (Om s20 s2), (Om s21 s1), (Om s22 s3), (Of s23 (zC7 [(.int .u32 0), (.int .u64 0), (.str [])] [(0, (1, (.t s20))), (1, (1, (.t s21))), (2, (1, (.t s22)))])), (Oq s24 (.alloc (zF3 3 1 [(.int .u32 0), (.int .u64 0), (.str [])] [(0, (3, (.t s23)))]))), (Oq s25 (.loud (zE2 3 32 (.t s19) (.t s24)))), (Of s26 (zAd (.t s15))), (Oa s27 12 s26), (On (.loud (zA0 1 (.t s27) (.t s25))))])
 (.seq (.ops [(Om s28 s0), (Of s29 (zAd (.t s28))), (Oa s30 5 s29), (Ol s31 s30), (Om s32 s31), (Gm s33 s0 s32 true), (Gq s34 (.quiet false (zAd (.t s33))) s32 true), (Ga s35 10 s34 s32 true), (Gl s36 s35 s32 true), (Gq s37 (.quiet true (zCw (.t s36))) s32 true), (Gk .eql s38 s37 0 s32 true), (Oy s39 s32 s38)])
 (.cond (.t s39) (.ops [(Om s40 s0), (Oc s41 44 [(.t s40)])]) .skip)))))⟩
def c64 : zAr :=
 ⟨12, [(.tmp s2)], (.seq (.ops [(OK s2 (.bool false))])
 (.seq (.ops [(Om s3 s0), (Of s4 (zCN false .ptr (.t s3))), (Om s5 s4), (Gm s6 s0 s5 false), (Gq s7 (.quiet false (zAd (.t s6))) s5 false), (Ga s8 8 s7 s5 false), (Gl s9 s8 s5 false), (Gq s10 (.quiet false (zCN false .map (.t s9))) s5 false), (Oz s11 s5 s10), (Om s2 s11)])
 .ret))⟩
def c65 : zAr :=
 ⟨106, [(.tmp s2), (.tmp s3)], (.seq (.ops [(OK s2 (.str [])), (OK s3 (.bool false))])
 (.seq (.seq (.ops [(Om s11 s0), (Of s12 (zAd (.t s11))), (Oa s13 3 s12), (Ol s14 s13), (Ou s15 s14)])
 (.cond (.t s15) (.seq (.ops [(Om s17 s0), (Of s18 (zAd (.t s17))), (Oa s19 1 s18), (Ol s20 s19), (Oc s21 93 [(.t s20)]), (Om s16 s21), (Oe s22 0 s16), (Oe s23 1 s16), (Om s4 s22), (Om s5 s23)])
 (.seq (.ops [(Om s24 s0), (Om s25 s0), (Of s26 (zAd (.t s25))), (Oa s27 1 s26), (Ol s28 s27), (Om s29 s5), (Of s30 (zA8 (.t s28) (some (.t s29)) none)), (Of s31 (zAd (.t s24))), (Oa s32 1 s31), (On (.loud (zA0 1 (.t s32) (.t s30))))])
 (.seq (.ops [(Om s33 s0), (Om s34 s5), (Ok .gtr s35 s34 0), (Of s36 (zAd (.t s33))), (Oa s37 3 s36), (On (.loud (zA0 1 (.t s37) (.t s35))))])
 (.seq (.ops [(Om s38 s0), (Om s39 s4), (Of s40 (zAN .and (.t s39) (.c (.int .u32 2)))), (Of s41 (zAN .neq (.t s40) (.c (.int .u32 0)))), (Of s42 (zAd (.t s38))), (Oa s43 4 s42), (On (.loud (zA0 1 (.t s43) (.t s41))))])
 (.seq (.ops [(Om s44 s0), (Om s45 s0), (Of s46 (zAd (.t s45))), (Oa s47 3 s46), (Ol s48 s47), (Om s49 s48), (Gm s50 s4 s49 true), (Gq s51 (.quiet false (zAN .and (.t s50) (.c (.int .u32 1)))) s49 true), (Gq s52 (.quiet false (zAN .eql (.t s51) (.c (.int .u32 0)))) s49 true), (Gm s53 s52 s49 true), (Gm s54 s4 s53 false), (Gq s55 (.quiet false (zAN .andNot (.t s54) (.c (.int .u32 3)))) s53 false), (Gq s56 (.quiet false (zAN .neq (.t s55) (.c (.int .u32 0)))) s53 false), (Gz s57 s53 s56 s49 true), (Oy s58 s49 s57), (Of s59 (zAd (.t s44))), (Oa s60 6 s59), (On (.loud (zA0 1 (.t s60) (.t s58))))])
 (.seq (.draw (.calm (Om s61 s0) (.calm (Of s62 (zAd (.t s61))) (.calm (Oa s63 3 s62) (.calm (Ol s64 s63) (.calm (OK s2 (.str [])) .fin))))) [(Om s3 s64)])
 .ret)))))) .skip))
 (.seq (.ops [(Om s66 s0), (Of s67 (zAd (.t s66))), (Oa s68 1 s67), (Ol s69 s68), (Oc s70 94 [(.t s69), (.c (.int .i64 1024))]), (Om s65 s70), (Oe s71 0 s65), (Oe s72 1 s65), (Oe s73 2 s65), (Oq s6 (.alloc (zCs (.c (.agg [(.int .u32 0), (.str [])]))))), (On (.loud (zA0 2 (.t s6) (.t s71)))), (Om s7 s72), (Om s8 s73)])
 (.seq (.seq (.ops [(Om s74 s8), (Ok .neq s75 s74 0)])
 (.cond (.t s75) (.seq (.ops [(Om s76 s0), (Of s77 (zAd (.t s76))), (Oa s78 6 s77), (On (.loud (zA0 1 (.t s78) (.c (.bool true)))))])
 (.seq (.ops [(OK s2 (.str [])), (OK s3 (.bool false))])
 .ret)) .skip))
 (.seq (.seq (.ops [(Om s79 s7), (Ok .eql s80 s79 0)])
 (.cond (.t s80) (.seq (.ops [(OK s2 (.str [])), (OK s3 (.bool false))])
 .ret) .skip))
 (.seq (.ops [(Om s81 s0), (Om s82 s0), (Of s83 (zAd (.t s82))), (Oa s84 1 s83), (Ol s85 s84), (Om s86 s7), (Of s87 (zA8 (.t s85) (some (.t s86)) none)), (Of s88 (zAd (.t s81))), (Oa s89 1 s88), (On (.loud (zA0 1 (.t s89) (.t s87))))])
 (.seq (.seq (.draw (.calm (Om s91 s0) (.calm (Of s92 (zAd (.t s91))) (.calm (Oa s93 8 s92) (.calm (Ol s94 s93) (.calm (Oa s95 0 s6) (.calm (Ol s96 s95) (.calm (Og s97 (zGb (.one .int) true .nilfunc (.t s94) (.t s96))) (.calm (Om s90 s97) (.calm (Oe s98 0 s90) (.calm (Oe s99 1 s90) (.calm (Om s9 s98) .fin))))))))))) [(Om s10 s99)])
 (.seq (.ops [(Om s100 s10)])
 (.cond (.t s100) (.seq (.ops [(Om s101 s9), (OL s102 2 s6), (Oq s103 (.call (.t s101) [(.t s102)])), (Om s2 s103), (OK s3 (.bool true))])
 .ret) .skip)))
 (.seq (.ops [(OL s104 2 s6), (Oc s105 78 [(.t s104), (.c (.int .u32 2147483649)), (.c (.str []))]), (Om s2 s105), (OK s3 (.bool true))])
 .ret))))))))⟩
def c66l0 : zAz :=
 (.seq (.seq (.ops [(Om s5 s0), (Of s6 (zAd (.t s5))), (Oa s7 7 s6), (Ol s8 s7), (Ou s9 s8), (Om s10 s9), (Gm s11 s0 s10 true), (Gq s12 (.quiet false (zAd (.t s11))) s10 true), (Ga s13 8 s12 s10 true), (Gl s14 s13 s10 true), (Gq s15 (.quiet false (qUn .not (.t s14))) s10 true), (Oy s16 s10 s15), (Om s17 s16), (Gm s18 s0 s17 true), (Gq s19 (.quiet false (zAd (.t s18))) s17 true), (Ga s20 6 s19 s17 true), (Gl s21 s20 s17 true), (Gq s22 (.quiet true (zCw (.t s21))) s17 true), (Gk .lss s23 s22 8 s17 true), (Oy s24 s17 s23)])
 (.cond (.t s24) .skip (.exit 0)))
 (.block 1 (.seq (.ops [(Om s26 s0), (Of s27 (zAd (.t s26))), (Oa s28 2 s27), (Ol s29 s28), (Oc s30 95 [(.t s29), (.c (.int .i64 1024))]), (Om s25 s30), (Oe s31 0 s25), (Oe s32 1 s25), (Oe s33 2 s25), (Oq s2 (.alloc (zCs (.c (.agg [(.int .u16 0), (.int .u16 0), (.int .u64 0), (.int .u64 0), (.int .u32 0), (.str [])]))))), (On (.loud (zA0 6 (.t s2) (.t s31)))), (Om s3 s32), (Om s4 s33)])
 (.seq (.seq (.ops [(Om s34 s4), (Ok .neq s35 s34 0)])
 (.cond (.t s35) (.seq (.ops [(Om s36 s0), (Of s37 (zAd (.t s36))), (Oa s38 8 s37), (On (.loud (zA0 1 (.t s38) (.c (.bool true)))))])
 .ret) .skip))
 (.seq (.seq (.ops [(Om s39 s3), (Ok .eql s40 s39 0)])
 (.cond (.t s40) .ret .skip))
 (.seq (.ops [(Om s41 s0), (Om s42 s0), (Of s43 (zAd (.t s42))), (Oa s44 2 s43), (Ol s45 s44), (Om s46 s3), (Of s47 (zA8 (.t s45) (some (.t s46)) none)), (Of s48 (zAd (.t s41))), (Oa s49 2 s48), (On (.loud (zA0 1 (.t s49) (.t s47))))])
 (.ops [(Om s50 s0), (OL s51 6 s2), (Oc s52 96 [(.t s50), (.t s51)])])))))))
def c66 : zAr :=
 ⟨53, [], (.block 0 (.loop c66l0))⟩
def c67 : zAr :=
 ⟨27, [(.cellN 5 s2), (.tmp s3)], (.seq (.ops [(Oq s2 (.alloc (zCs (.c (.agg [(.int .i64 0), (.int .u8 0), (.int .i64 0), (.int .i64 0), (.str [])]))))), (OK s3 (.bool false))])
 (.seq (.seq (.ops [(Om s4 s0), (Oc s5 45 [(.t s4)]), (Om s6 s5), (Gm s7 s0 s6 false), (Gq s8 (.quiet false (zAd (.t s7))) s6 false), (Ga s9 8 s8 s6 false), (Gl s10 s9 s6 false), (Oz s11 s6 s10), (Om s12 s11), (Gm s13 s0 s12 false), (Gq s14 (.quiet false (zAd (.t s13))) s12 false), (Ga s15 5 s14 s12 false), (Gl s16 s15 s12 false), (Gq s17 (.quiet false (zBP (.t s16))) s12 false), (Gk .eql s18 s17 0 s12 false), (Oz s19 s12 s18)])
 (.cond (.t s19) (.seq (.ops [(Of s20 (zC7 [(.int .i64 0), (.int .u8 0), (.int .i64 0), (.int .i64 0), (.str [])] [])), (On (.loud (zA0 5 (.t s2) (.t s20)))), (OK s3 (.bool false))])
 .ret) .skip))
 (.seq (.ops [(Om s21 s0), (Of s22 (zAd (.t s21))), (Oa s23 5 s22), (Ol s24 s23), (Of s25 (zAU 5 (.t s24) (.c (.int .i64 0)))), (OL s26 5 s25), (On (.loud (zA0 5 (.t s2) (.t s26)))), (OK s3 (.bool true))])
 .ret)))⟩
def c68 : zAr :=
 ⟨20, [(.tmp s2)], (.seq (.ops [(OK s2 (.bool false))])
 (.seq (.seq (.ops [(Om s6 s0), (Oc s7 67 [(.t s6)]), (Om s5 s7), (Oe s8 0 s5), (Oe s9 1 s5), (Oq s3 (.alloc (zCs (.c (.agg [(.int .i64 0), (.int .u8 0), (.int .i64 0), (.int .i64 0), (.str [])]))))), (On (.loud (zA0 5 (.t s3) (.t s8)))), (Om s4 s9)])
 (.seq (.ops [(Om s10 s4), (Ou s11 s10)])
 (.cond (.t s11) (.seq (.ops [(OK s2 (.bool false))])
 .ret) .skip)))
 (.seq (.ops [(Om s12 s0), (Om s13 s0), (Of s14 (zAd (.t s13))), (Oa s15 5 s14), (Ol s16 s15), (Of s17 (qSlcS 5 (.t s16) (some (.c (.int .i64 1))) none none)), (Of s18 (zAd (.t s12))), (Oa s19 5 s18), (On (.loud (zA0 1 (.t s19) (.t s17))))])
 (.seq (.ops [(OK s2 (.bool true))])
 .ret))))⟩
def c69l0 : zAz :=
 (.seq (.ops [(Ob .lss s12 s11 s10)])
 (.seq (.cond (.t s12) .skip (.exit 0))
 (.seq (.block 1 (.seq (.ops [(Of s13 (zAU 1 (.t s9) (.t s11))), (Ol s14 s13), (Om s5 s14)])
 (.seq (.ops [(Om s15 s5)])
 (.block 2 (.seq (.ops [(Of s16 (qTa 37 true (.int .u16 0) (.t s15))), (Oe s17 1 s16), (Oe s18 0 s16)])
 (.cond (.t s17) (.seq (.ops [(Om s6 s18)])
 (.ops [(Om s19 s3), (Om s20 s6), (Of s21 (zBj .u64 (.t s20))), (Oc s22 97 [(.t s19), (.t s21), (.c (.int .i64 2))]), (Om s3 s22)])) (.seq (.ops [(Of s23 (qTa 38 true (.int .u32 0) (.t s15))), (Oe s24 1 s23), (Oe s25 0 s23)])
 (.cond (.t s24) (.seq (.ops [(Om s7 s25)])
 (.ops [(Om s26 s3), (Om s27 s7), (Of s28 (zBj .u64 (.t s27))), (Oc s29 97 [(.t s26), (.t s28), (.c (.int .i64 4))]), (Om s3 s29)])) (.seq (.ops [(Of s30 (qTa 32 true (.int .u64 0) (.t s15))), (Oe s31 1 s30), (Oe s32 0 s30)])
 (.cond (.t s31) (.seq (.ops [(Om s8 s32)])
 (.ops [(Om s33 s3), (Om s34 s8), (Oc s35 97 [(.t s33), (.t s34), (.c (.int .i64 8))]), (Om s3 s35)])) .skip))))))))))
 (.ops [(Ok .add s36 s11 1), (Om s11 s36)]))))
def c69 : zAr :=
 ⟨39, [(.tmp s2)], (.seq (.ops [(OK s2 (.str []))])
 (.seq (.ops [(OK s3 .nilslice)])
 (.seq (.seq (.ops [(Om s9 s0), (Of s10 (zBP (.t s9))), (OK s11 (.int .i64 0))])
 (.block 0 (.loop c69l0)))
 (.seq (.ops [(Om s37 s3), (Og s38 (qB2s (.t s37))), (Om s2 s38)])
 .ret))))⟩
def c72 : zAr :=
 ⟨61, [], (.seq (.ops [(Oq s5 (.alloc (zCs (.t s1))))])
 (.block 0 (.seq (.ops [(Oa s23 1 s5), (Ol s24 s23), (Of s25 (zAN .neq (.t s24) (.c (.int .u16 0)))), (Om s26 s25), (Gm s27 s0 s26 false), (Gq s28 (.quiet false (zAd (.t s27))) s26 false), (Ga s29 1 s28 s26 false), (Gl s30 s29 s26 false), (Gq s31 (.quiet false (qUn .not (.t s30))) s26 false), (Oz s32 s26 s31), (Om s22 s32)])
 (.cond (.t s22) (.draw (.calm (Om s33 s0) (.calm (Of s34 (zAd (.t s33))) (.calm (Oa s35 3 s34) (.calm (Ol s36 s35) (.calm (Om s37 s2) (.calm (Oa s38 2 s5) (.calm (Ol s39 s38) (.calm (Om s40 s3) (.calm (Of s41 (zC7 [(.int .u32 0), (.int .u64 0), (.str [])] [(0, (1, (.t s37))), (1, (1, (.t s39))), (2, (1, (.t s40)))])) (.last ⟨(Oc s42 100 [(.t s41)]), [(Ol s36 s35)]⟩ .fin)))))))))) [(Ob .add s43 s36 s42), (Of s44 (zAd (.t s33))), (Oa s45 3 s44), (On (.loud (zA0 1 (.t s45) (.t s43))))]) (.seq (.ops [(Om s47 s2), (Of s48 (zAN .neq (.t s47) (.c (.int .u32 0)))), (Om s46 s48)])
 (.cond (.t s46) (.draw (.calm (Om s49 s0) (.calm (Of s50 (zAd (.t s49))) (.calm (Oa s51 3 s50) (.calm (Ol s52 s51) (.calm (Oa s53 2 s5) (.calm (Ol s54 s53) (.calm (Om s55 s2) (.last ⟨(Oc s56 102 [(.t s54), (.t s55)]), [(Ol s52 s51)]⟩ (.last ⟨(Oc s57 101 [(.t s56)]), [(Ol s52 s51)]⟩ .fin))))))))) [(Ob .add s58 s52 s57), (Of s59 (zAd (.t s49))), (Oa s60 3 s59), (On (.loud (zA0 1 (.t s60) (.t s58))))]) (.draw (.calm (Om s8 s0) (.calm (Of s9 (zAd (.t s8))) (.calm (Oa s10 3 s9) (.calm (Ol s11 s10) (.calm (Oa s12 2 s5) (.calm (Ol s13 s12) (.calm (Oa s14 3 s5) (.calm (Ol s15 s14) (.calm (Om s16 s3) (.last ⟨(Oc s17 103 [(.t s13), (.t s15), (.t s16)]), [(Ol s11 s10)]⟩ (.last ⟨(Oc s18 101 [(.t s17)]), [(Ol s11 s10)]⟩ .fin))))))))))) [(Ob .add s19 s11 s18), (Of s20 (zAd (.t s8))), (Oa s21 3 s20), (On (.loud (zA0 1 (.t s21) (.t s19))))])))))))⟩
def c73l0 : zAz :=
 (.seq (.seq (.ops [(Om s7 s6), (Om s8 s1), (Ob .lss s9 s7 s8)])
 (.cond (.t s9) .skip (.exit 0)))
 (.seq (.block 1 (.seq (.ops [(Om s12 s0), (Of s13 (zBj .u8 (.t s12))), (Oq s14 (.alloc (zF3 1 1 [(.int .u8 0)] [(0, (1, (.t s13)))]))), (Og s15 (qB2s (.t s14))), (Om s16 s5), (Ob .add s17 s15 s16), (Om s5 s17)])
 (.ops [(Om s18 s0), (Of s19 (zAN .quo (.t s18) (.c (.int .u64 256)))), (Om s0 s19)])))
 (.ops [(Om s10 s6), (Ok .add s11 s10 1), (Om s6 s11)])))
def c73 : zAr :=
 ⟨21, [(.tmp s4)], (.seq (.ops [(OK s4 (.str []))])
 (.seq (.ops [(OK s5 (.str []))])
 (.seq (.seq (.ops [(OK s6 (.int .i64 0))])
 (.block 0 (.loop c73l0)))
 (.seq (.ops [(Om s20 s5), (Om s4 s20)])
 .ret))))⟩
def c76 : zAr :=
 ⟨18, [(.tmp s4)], (.seq (.ops [(OK s4 (.bool false))])
 (.seq (.ops [(Om s5 s0), (Of s6 (zBw (.t s5))), (Om s7 s1), (Of s8 (zBw (.t s7))), (Ob .geq s9 s6 s8), (Om s10 s9), (Gm s11 s0 s10 true), (Gm s12 s1 s10 true), (Gq s13 (.quiet false (zBw (.t s12))) s10 true), (Gq s14 (.quiet false (zA8 (.t s11) none (some (.t s13)))) s10 true), (Gm s15 s1 s10 true), (Gb .eql s16 s14 s15 s10 true), (Oy s17 s10 s16), (Om s4 s17)])
 .ret))⟩
def c77 : zAr :=
 ⟨11, [(.tmp s4)], (.seq (.ops [(Oq s3 (.alloc (zCs (.t s1)))), (OK s4 (.int .i64 0))])
 (.seq (.ops [(Om s5 s0), (Of s6 (zAd (.t s5))), (Oa s7 0 s6), (Ol s8 s7), (Of s9 (qMkf (.func 105) [] [(.t s3)])), (Oc s10 104 [(.t s8), (.t s9)]), (Om s4 s10)])
 .ret))⟩
def c78 : zAr :=
 ⟨13, [(.tmp s6)], (.seq (.ops [(Oq s3 (.alloc (zCs (.t s0)))), (OK s6 (.str []))])
 (.seq (.ops [(Oa s7 0 s3), (Ol s8 s7), (Om s9 s1), (Om s10 s2), (Of s11 (zC7 [(.int .u32 0), (.int .u32 0), (.str [])] [(0, (1, (.t s8))), (1, (1, (.t s9))), (2, (1, (.t s10)))])), (Oc s12 80 [(.t s11)]), (Om s6 s12)])
 .ret))⟩
def c80 : zAr :=
 ⟨20, [(.tmp s2)], (.seq (.ops [(Oq s1 (.alloc (zCs (.t s0)))), (OK s2 (.str []))])
 (.seq (.draw (.calm (Oa s3 0 s1) (.calm (Ol s4 s3) (.calm (Of s5 (zGa 38 (.t s4))) (.calm (Oa s6 1 s1) (.calm (Ol s7 s6) (.calm (Of s8 (zGa 38 (.t s7))) (.calm (Oa s9 2 s1) (.calm (Ol s10 s9) (.calm (Of s11 (zBw (.t s10))) (.calm (Of s12 (zBj .u32 (.t s11))) (.calm (Of s13 (zGa 38 (.t s12))) (.calm (Oq s14 (.alloc (zF3 1 3 [.niliface] [(0, (1, (.t s5))), (1, (1, (.t s8))), (2, (1, (.t s13)))]))) (.calm (Oa s17 2 s1) (.calm (Ol s18 s17) (.last ⟨(Oc s15 69 [(.t s14)]), [(Ol s18 s17)]⟩ (.calm (Of s16 (zAN .add (.c (.str [0, 3, 232, 137, 4, 85, 101, 169])) (.t s15))) .fin)))))))))))))))) [(Ob .add s19 s16 s18), (Om s2 s19)])
 .ret))⟩
def c81 : zAr :=
 ⟨39, [(.tmp s2), (.tmp s3)], (.seq (.ops [(OK s2 (.str [])), (OK s3 (.bool false))])
 (.seq (.seq (.ops [(Om s8 s0), (Of s9 (zBw (.t s8))), (Ok .lss s10 s9 4)])
 (.cond (.t s10) (.seq (.ops [(OK s2 (.str [])), (OK s3 (.bool false))])
 .ret) .skip))
 (.seq (.ops [(Om s11 s0), (Of s12 (zA8 (.t s11) none (some (.c (.int .i64 4))))), (Oc s13 106 [(.t s12)]), (Om s4 s13)])
 (.seq (.ops [(Om s14 s0), (Of s15 (zA8 (.t s14) (some (.c (.int .i64 4))) none)), (Om s5 s15)])
 (.seq (.seq (.ops [(Om s16 s5), (Of s17 (zBw (.t s16))), (Of s18 (zBj .u64 (.t s17))), (Om s19 s4), (Of s20 (zAN .add (.t s19) (.c (.int .u64 2)))), (Ob .lss s21 s18 s20)])
 (.cond (.t s21) (.seq (.ops [(OK s2 (.str [])), (OK s3 (.bool false))])
 .ret) .skip))
 (.seq (.draw (.calm (Om s22 s5) (.calm (Om s23 s4) (.calm (Of s24 (zA8 (.t s22) none (some (.t s23)))) (.calm (Om s25 s5) (.calm (Om s26 s4) (.calm (Of s27 (zA8 (.t s25) (some (.t s26)) none)) (.calm (Om s6 s24) .fin))))))) [(Om s5 s27)])
 (.seq (.ops [(Om s28 s5), (Of s29 (zA8 (.t s28) none (some (.c (.int .i64 2))))), (Oc s30 106 [(.t s29)]), (Of s31 (zBj .i64 (.t s30))), (Om s7 s31)])
 (.seq (.ops [(Om s32 s6), (Om s33 s5), (Of s34 (zBw (.t s33))), (Om s35 s7), (Of s36 (zAN .mul (.c (.int .i64 2)) (.t s35))), (Of s37 (zAN .add (.c (.int .i64 2)) (.t s36))), (Ob .eql s38 s34 s37), (Om s2 s32), (Om s3 s38)])
 .ret))))))))⟩
def c82 : zAr :=
 ⟨12, [(.tmp s4)], (.seq (.ops [(OK s4 (.str []))])
 (.seq (.ops [(Of s5 (zGa 37 (.c (.int .u16 0)))), (Om s6 s0), (Of s7 (zGa 32 (.t s6))), (Om s8 s1), (Of s9 (zGa 37 (.t s8))), (Oq s10 (.alloc (zF3 1 3 [.niliface] [(0, (1, (.t s5))), (1, (1, (.t s7))), (2, (1, (.t s9)))]))), (Oc s11 69 [(.t s10)]), (Om s4 s11)])
 .ret))⟩
def c83l0 : zAz :=
 (.seq (.ops [(Ob .lss s17 s16 s15)])
 (.seq (.cond (.t s17) .skip (.exit 0))
 (.seq (.block 1 (.seq (.ops [(Om s18 s16), (Om s6 s18)])
 (.ops [(Om s19 s5), (Om s20 s6), (Om s21 s0), (Om s22 s6), (Of s23 (zAN .mul (.c (.int .i64 8)) (.t s22))), (Ob .shr s24 s21 s23), (Of s25 (zBj .u8 (.t s24))), (Of s26 (zAU 1 (.t s19) (.t s20))), (On (.loud (zA0 1 (.t s26) (.t s25))))])))
 (.ops [(Ok .add s27 s16 1), (Om s16 s27)]))))
def c83 : zAr :=
 ⟨30, [(.tmp s4)], (.seq (.ops [(OK s4 (.str []))])
 (.seq (.seq (.ops [(Om s7 s1), (Ok .lss s8 s7 1), (Om s9 s8), (Gm s10 s1 s9 false), (Gk .gtr s11 s10 8 s9 false), (Oz s12 s9 s11)])
 (.cond (.t s12) (.seq (.ops [(OK s4 (.str []))])
 .ret) .skip))
 (.seq (.ops [(Om s13 s1), (Oq s14 (.alloc (aMks 1 1 [(.int .u8 0)] (.t s13) (.t s13)))), (Om s5 s14)])
 (.seq (.seq (.ops [(Om s15 s1), (OK s16 (.int .i64 0))])
 (.block 0 (.loop c83l0)))
 (.seq (.ops [(Om s28 s5), (Og s29 (qB2s (.t s28))), (Om s4 s29)])
 .ret)))))⟩
def c84l0 : zAz :=
 (.seq (.seq (.ops [(Om s7 s2), (Om s8 s3), (Ob .lss s9 s7 s8)])
 (.cond (.t s9) .skip (.exit 0)))
 (.seq (.block 1 (.draw (.calm (Om s14 s0) (.calm (Om s15 s2) (.calm (Om s16 s0) (.calm (Om s17 s3) (.calm (Om s18 s0) (.calm (Om s19 s3) (.calm (Of s20 (zAU 1 (.t s18) (.t s19))) (.calm (Ol s21 s20) (.calm (Om s22 s0) (.calm (Om s23 s2) (.calm (Of s24 (zAU 1 (.t s22) (.t s23))) (.calm (Ol s25 s24) (.calm (Of s26 (zAU 1 (.t s14) (.t s15))) (.last ⟨(On (.loud (zA0 1 (.t s26) (.t s21)))), []⟩ .fin)))))))))))))) [(Of s27 (zAU 1 (.t s16) (.t s17))), (On (.loud (zA0 1 (.t s27) (.t s25))))]))
 (.ops [(Om s10 s2), (Ok .add s11 s10 1), (Om s12 s3), (Ok .sub s13 s12 1), (Om s2 s11), (Om s3 s13)])))
def c84 : zAr :=
 ⟨28, [], (.seq (.ops [(Om s4 s0), (Of s5 (zBP (.t s4))), (Ok .sub s6 s5 1), (OK s2 (.int .i64 0)), (Om s3 s6)])
 (.block 0 (.loop c84l0)))⟩
def c85 : zAr :=
 ⟨16, [(.tmp s4)], (.seq (.ops [(OK s4 (.bool false))])
 (.seq (.ops [(Om s6 s0), (Of s7 (zBw (.t s6))), (Om s8 s1), (Of s9 (zBw (.t s8))), (Of s10 (qMini [(.t s7), (.t s9)])), (Om s5 s10)])
 (.seq (.ops [(Om s11 s1), (Om s12 s0), (Om s13 s5), (Of s14 (zA8 (.t s12) none (some (.t s13)))), (Oc s15 48 [(.t s11), (.t s14)]), (Om s4 s15)])
 .ret)))⟩
def c86 : zAr :=
 ⟨43, [(.tmp s6), (.tmp s7), (.tmp s8)], (.seq (.ops [(OK s6 (.str [])), (OK s7 (.int .i64 0)), (OK s8 (.int .i64 0))])
 (.seq (.seq (.ops [(Om s10 s0), (Of s11 (zBw (.t s10))), (Om s12 s1), (Ob .lss s13 s11 s12)])
 (.cond (.t s13) (.seq (.ops [(OK s6 (.str [])), (OK s7 (.int .i64 0)), (OK s8 (.int .i64 0))])
 .ret) .skip))
 (.seq (.ops [(Om s14 s0), (Om s15 s1), (Ok .sub s16 s15 4), (Oc s17 87 [(.t s14), (.t s16)]), (Of s18 (zBj .u64 (.t s17))), (Om s9 s18)])
 (.seq (.seq (.ops [(Om s19 s2), (Ok .lss s20 s19 0), (Om s21 s20), (Gm s22 s9 s21 false), (Gm s23 s2 s21 false), (Gq s24 (.quiet false (zBj .u64 (.t s23))) s21 false), (Gb .gtr s25 s22 s24 s21 false), (Oz s26 s21 s25)])
 (.cond (.t s26) (.seq (.ops [(OK s6 (.str [])), (OK s7 (.int .i64 0)), (OK s8 (.int .i64 1))])
 .ret) .skip))
 (.seq (.seq (.ops [(Om s27 s0), (Of s28 (zBw (.t s27))), (Om s29 s1), (Ob .sub s30 s28 s29), (Of s31 (zBj .u64 (.t s30))), (Om s32 s9), (Ob .lss s33 s31 s32)])
 (.cond (.t s33) (.seq (.ops [(OK s6 (.str [])), (OK s7 (.int .i64 0)), (OK s8 (.int .i64 0))])
 .ret) .skip))
 (.seq (.ops [(Om s34 s1), (Om s35 s9), (Of s36 (zBj .i64 (.t s35))), (Ob .add s37 s34 s36), (Om s7 s37)])
 (.seq (.ops [(Om s38 s0), (Om s39 s1), (Om s40 s7), (Of s41 (zA8 (.t s38) (some (.t s39)) (some (.t s40)))), (Om s42 s7), (Om s6 s41), (Om s7 s42), (OK s8 (.int .i64 0))])
 .ret)))))))⟩
def c87 : zAr :=
 ⟨12, [(.tmp s4)], (.seq (.ops [(OK s4 (.int .u32 0))])
 (.seq (.ops [(Om s5 s0), (Om s6 s1), (Om s7 s1), (Ok .add s8 s7 4), (Of s9 (zA8 (.t s5) (some (.t s6)) (some (.t s8)))), (Oc s10 107 [(.t s9)]), (Of s11 (zBj .u32 (.t s10))), (Om s4 s11)])
 .ret))⟩
def c88 : zAr :=
 ⟨39, [(.tmp s6), (.tmp s7)], (.seq (.ops [(OK s6 .nilslice), (OK s7 (.bool false))])
 (.seq (.seq (.ops [(Om s8 s2), (Ok .lss s9 s8 1), (Om s10 s9), (Gm s11 s2 s10 false), (Gk .gtr s12 s11 8 s10 false), (Oz s13 s10 s12), (Om s14 s13), (Gm s15 s1 s14 false), (Gk .lss s16 s15 0 s14 false), (Oz s17 s14 s16), (Om s18 s17), (Gm s19 s2 s18 false), (Gm s20 s0 s18 false), (Gq s21 (.quiet false (zBw (.t s20))) s18 false), (Gb .gtr s22 s19 s21 s18 false), (Oz s23 s18 s22), (Om s24 s23), (Gm s25 s1 s24 false), (Gm s26 s0 s24 false), (Gq s27 (.quiet false (zBw (.t s26))) s24 false), (Gm s28 s2 s24 false), (Gb .sub s29 s27 s28 s24 false), (Gb .gtr s30 s25 s29 s24 false), (Oz s31 s24 s30)])
 (.cond (.t s31) (.seq (.ops [(OK s6 .nilslice), (OK s7 (.bool false))])
 .ret) .skip))
 (.seq (.ops [(Om s32 s0), (Om s33 s1), (Om s34 s1), (Om s35 s2), (Ob .add s36 s34 s35), (Of s37 (zA8 (.t s32) (some (.t s33)) (some (.t s36)))), (Oq s38 (.alloc (aS2b (.t s37)))), (Om s6 s38), (OK s7 (.bool true))])
 .ret)))⟩
def c89l0 : zAz :=
 (.seq (.ops [(Ob .lss s8 s7 s6)])
 (.seq (.cond (.t s8) .skip (.exit 0))
 (.seq (.block 1 (.seq (.ops [(Om s9 s7), (Om s4 s9)])
 (.ops [(Om s10 s3), (Of s11 (zAN .shl (.t s10) (.c (.int .u64 8)))), (Om s12 s0), (Om s13 s4), (Of s14 (zAU 1 (.t s12) (.t s13))), (Ol s15 s14), (Of s16 (zBj .u64 (.t s15))), (Ob .or s17 s11 s16), (Om s3 s17)])))
 (.ops [(Ok .add s18 s7 1), (Om s7 s18)]))))
def c89 : zAr :=
 ⟨20, [(.tmp s2)], (.seq (.ops [(OK s2 (.int .u64 0))])
 (.seq (.ops [(OK s3 (.int .u64 0))])
 (.seq (.seq (.ops [(Om s5 s0), (Of s6 (zBP (.t s5))), (OK s7 (.int .i64 0))])
 (.block 0 (.loop c89l0)))
 (.seq (.ops [(Om s19 s3), (Om s2 s19)])
 .ret))))⟩
def c90 : zAr :=
 ⟨32, [(.cellN 4 s4), (.tmp s5), (.tmp s6)], (.seq (.ops [(Oq s4 (.alloc (zCs (.c (.agg [(.int .u16 0), (.int .u16 0), (.int .u64 0), (.str [])]))))), (OK s5 (.int .i64 0)), (OK s6 (.int .i64 0))])
 (.seq (.seq (.ops [(Om s8 s0), (Oc s9 85 [(.t s8), (.c (.str [102, 142, 51, 239]))]), (Ou s10 s9)])
 (.cond (.t s10) (.seq (.ops [(Of s11 (zC7 [(.int .u16 0), (.int .u16 0), (.int .u64 0), (.str [])] [])), (On (.loud (zA0 4 (.t s4) (.t s11)))), (OK s5 (.int .i64 0)), (OK s6 (.int .i64 8))])
 .ret) .skip))
 (.seq (.ops [(Om s13 s0), (Om s14 s1), (Oc s15 86 [(.t s13), (.c (.int .i64 20)), (.t s14)]), (Om s12 s15), (Oe s16 0 s12), (Oe s17 1 s12), (Oe s18 2 s12), (Om s7 s16), (Om s5 s17), (Om s6 s18)])
 (.seq (.seq (.ops [(Om s19 s5), (Ok .eql s20 s19 0)])
 (.cond (.t s20) (.seq (.ops [(Of s21 (zC7 [(.int .u16 0), (.int .u16 0), (.int .u64 0), (.str [])] [])), (Om s22 s6), (On (.loud (zA0 4 (.t s4) (.t s21)))), (OK s5 (.int .i64 0)), (Om s6 s22)])
 .ret) .skip))
 (.seq (.ops [(Om s23 s0), (Oc s24 108 [(.t s23), (.c (.int .i64 4))]), (Om s25 s0), (Oc s26 108 [(.t s25), (.c (.int .i64 6))]), (Om s27 s0), (Oc s28 92 [(.t s27), (.c (.int .i64 8))]), (Om s29 s7), (Of s30 (zC7 [(.int .u16 0), (.int .u16 0), (.int .u64 0), (.str [])] [(0, (1, (.t s24))), (1, (1, (.t s26))), (2, (1, (.t s28))), (3, (1, (.t s29)))])), (Om s31 s5), (On (.loud (zA0 4 (.t s4) (.t s30)))), (Om s5 s31), (OK s6 (.int .i64 0))])
 .ret)))))⟩
def c91 : zAr :=
 ⟨65, [(.tmp s4)], (.seq (.ops [(OK s4 (.bool false))])
 (.seq (.ops [(Om s8 s1), (Oc s9 60 [(.t s8), (.c (.int .i64 0)), (.c (.int .i64 8))]), (Om s7 s9), (Oe s10 0 s7), (Oe s11 1 s7), (Om s5 s10), (Om s6 s11)])
 (.seq (.seq (.draw (.calm (Om s12 s6) (.calm (Ou s13 s12) (.calm (Om s14 s13) (.calm (Gm s15 s0 s14 false) (.calm (Gq s16 (.quiet false (zAd (.t s15))) s14 false) (.calm (Ga s17 0 s16 s14 false) (.calm (Ga s18 1 s17 s14 false) (.calm (Gl s19 s18 s14 false) (.calm (Gq s20 (.quiet false (zAN .neq (.t s19) (.c (.int .u16 0)))) s14 false) (.calm (Oz s21 s14 s20) (.calm (Om s22 s21) (.calm (Gm s23 s5 s22 false) (.calm (Gm s24 s0 s22 false) (.calm (Gq s25 (.quiet false (zAd (.t s24))) s22 false) (.calm (Ga s26 0 s25 s22 false) (.calm (Ga s27 3 s26 s22 false) (.calm (Gl s28 s27 s22 false) (.calm (Gm s29 s0 s22 false) (.calm (Gq s30 (.quiet false (zAd (.t s29))) s22 false) (.calm (Ga s31 6 s30 s22 false) (.calm (Gl s32 s31 s22 false) (.calm (Gq s33 (.quiet false (zBw (.t s32))) s22 false) (.calm (Gq s34 (.quiet false (zBj .u64 (.t s33))) s22 false) (.calm (Gb .add s35 s28 s34 s22 false) (.calm (Gb .neq s36 s23 s35 s22 false) (.calm (Oz s37 s22 s36) (.calm (Om s38 s37) (.calm (Gm s39 s1 s38 false) (.calm (Gq s40 (.quiet false (zBw (.t s39))) s38 false) (.calm (Gk .sub s41 s40 8 s38 false) (.calm (Gm s42 s0 s38 false) (.calm (Gq s43 (.quiet false (zAd (.t s42))) s38 false) (.calm (Ga s44 0 s43 s38 false) (.calm (Ga s45 4 s44 s38 false) (.calm (Gl s46 s45 s38 false) (.calm (Gq s47 (.quiet false (zBj .i64 (.t s46))) s38 false) (.calm (Gm s48 s0 s38 false) (.calm (Gq s49 (.quiet false (zAd (.t s48))) s38 false) (.calm (Ga s50 6 s49 s38 false) (.calm (Gl s51 s50 s38 false) (.calm (Gq s52 (.quiet false (zBw (.t s51))) s38 false) (.calm (Gb .sub s53 s47 s52 s38 false) .fin)))))))))))))))))))))))))))))))))))))))))) [(Gb .gtr s54 s41 s53 s38 false), (Oz s55 s38 s54)])
 (.cond (.t s55) (.seq (.ops [(OK s4 (.bool false))])
 .ret) .skip))
 (.seq (.draw (.calm (Om s56 s0) (.calm (Of s57 (zAd (.t s56))) (.calm (Oa s58 6 s57) (.calm (Ol s59 s58) (.calm (Om s60 s1) (.calm (Of s61 (zA8 (.t s60) (some (.c (.int .i64 8))) none)) .fin)))))) [(Ob .add s62 s59 s61), (Of s63 (zAd (.t s56))), (Oa s64 6 s63), (On (.loud (zA0 1 (.t s64) (.t s62))))])
 (.seq (.ops [(OK s4 (.bool true))])
 .ret)))))⟩
def c92 : zAr :=
 ⟨11, [(.tmp s4)], (.seq (.ops [(OK s4 (.int .u64 0))])
 (.seq (.ops [(Om s5 s0), (Om s6 s1), (Om s7 s1), (Ok .add s8 s7 8), (Of s9 (zA8 (.t s5) (some (.t s6)) (some (.t s8)))), (Oc s10 107 [(.t s9)]), (Om s4 s10)])
 .ret))⟩
def c93 : zAr :=
 ⟨9, [(.tmp s2), (.tmp s3)], (.seq (.ops [(OK s2 (.int .u32 0)), (OK s3 (.int .i64 0))])
 (.seq (.seq (.ops [(Om s4 s0), (Of s5 (zBw (.t s4))), (Ok .lss s6 s5 4)])
 (.cond (.t s6) (.seq (.ops [(OK s2 (.int .u32 0)), (OK s3 (.int .i64 0))])
 .ret) .skip))
 (.seq (.ops [(Om s7 s0), (Oc s8 87 [(.t s7), (.c (.int .i64 0))]), (Om s2 s8), (OK s3 (.int .i64 4))])
 .ret)))⟩
def c94 : zAr :=
 ⟨28, [(.cellN 2 s4), (.tmp s5), (.tmp s6)], (.seq (.ops [(Oq s4 (.alloc (zCs (.c (.agg [(.int .u32 0), (.str [])]))))), (OK s5 (.int .i64 0)), (OK s6 (.int .i64 0))])
 (.seq (.seq (.ops [(Om s8 s0), (Oc s9 85 [(.t s8), (.c (.str [73, 72, 65, 86, 69, 79, 80, 84]))]), (Ou s10 s9)])
 (.cond (.t s10) (.seq (.ops [(Of s11 (zC7 [(.int .u32 0), (.str [])] [])), (On (.loud (zA0 2 (.t s4) (.t s11)))), (OK s5 (.int .i64 0)), (OK s6 (.int .i64 8))])
 .ret) .skip))
 (.seq (.ops [(Om s13 s0), (Om s14 s1), (Oc s15 86 [(.t s13), (.c (.int .i64 16)), (.t s14)]), (Om s12 s15), (Oe s16 0 s12), (Oe s17 1 s12), (Oe s18 2 s12), (Om s7 s16), (Om s5 s17), (Om s6 s18)])
 (.seq (.seq (.ops [(Om s19 s5), (Ok .eql s20 s19 0)])
 (.cond (.t s20) (.seq (.ops [(Of s21 (zC7 [(.int .u32 0), (.str [])] [])), (Om s22 s6), (On (.loud (zA0 2 (.t s4) (.t s21)))), (OK s5 (.int .i64 0)), (Om s6 s22)])
 .ret) .skip))
 (.seq (.ops [(Om s23 s0), (Oc s24 87 [(.t s23), (.c (.int .i64 8))]), (Om s25 s7), (Of s26 (zC7 [(.int .u32 0), (.str [])] [(0, (1, (.t s24))), (1, (1, (.t s25)))])), (Om s27 s5), (On (.loud (zA0 2 (.t s4) (.t s26)))), (Om s5 s27), (OK s6 (.int .i64 0))])
 .ret)))))⟩
def c95 : zAr :=
 ⟨46, [(.cellN 6 s4), (.tmp s5), (.tmp s6)], (.seq (.ops [(Oq s4 (.alloc (zCs (.c (.agg [(.int .u16 0), (.int .u16 0), (.int .u64 0), (.int .u64 0), (.int .u32 0), (.str [])]))))), (OK s5 (.int .i64 0)), (OK s6 (.int .i64 0))])
 (.seq (.seq (.ops [(Om s8 s0), (Oc s9 85 [(.t s8), (.c (.str [37, 96, 149, 19]))]), (Ou s10 s9)])
 (.cond (.t s10) (.seq (.ops [(Of s11 (zC7 [(.int .u16 0), (.int .u16 0), (.int .u64 0), (.int .u64 0), (.int .u32 0), (.str [])] [])), (On (.loud (zA0 6 (.t s4) (.t s11)))), (OK s5 (.int .i64 0)), (OK s6 (.int .i64 8))])
 .ret) .skip))
 (.seq (.seq (.ops [(Om s12 s0), (Of s13 (zBw (.t s12))), (Ok .lss s14 s13 28)])
 (.cond (.t s14) (.seq (.ops [(Of s15 (zC7 [(.int .u16 0), (.int .u16 0), (.int .u64 0), (.int .u64 0), (.int .u32 0), (.str [])] [])), (On (.loud (zA0 6 (.t s4) (.t s15)))), (OK s5 (.int .i64 0)), (OK s6 (.int .i64 0))])
 .ret) .skip))
 (.seq (.ops [(Om s16 s0), (Oc s17 108 [(.t s16), (.c (.int .i64 4))]), (Om s18 s0), (Oc s19 108 [(.t s18), (.c (.int .i64 6))]), (Om s20 s0), (Oc s21 92 [(.t s20), (.c (.int .i64 8))]), (Om s22 s0), (Oc s23 92 [(.t s22), (.c (.int .i64 16))]), (Om s24 s0), (Oc s25 87 [(.t s24), (.c (.int .i64 24))]), (Of s26 (zC7 [(.int .u16 0), (.int .u16 0), (.int .u64 0), (.int .u64 0), (.int .u32 0), (.str [])] [(0, (1, (.t s17))), (1, (1, (.t s19))), (2, (1, (.t s21))), (3, (1, (.t s23))), (4, (1, (.t s25)))])), (On (.loud (zA0 6 (.t s4) (.t s26))))])
 (.seq (.seq (.ops [(Oa s27 1 s4), (Ol s28 s27), (Of s29 (zAN .neq (.t s28) (.c (.int .u16 1))))])
 (.cond (.t s29) (.seq (.ops [(OL s30 6 s4), (On (.loud (zA0 6 (.t s4) (.t s30)))), (OK s5 (.int .i64 28)), (OK s6 (.int .i64 0))])
 .ret) .skip))
 (.seq (.ops [(Om s32 s0), (Om s33 s1), (Oc s34 86 [(.t s32), (.c (.int .i64 28)), (.t s33)]), (Om s31 s34), (Oe s35 0 s31), (Oe s36 1 s31), (Oe s37 2 s31), (Om s7 s35), (Om s5 s36), (Om s6 s37)])
 (.seq (.seq (.ops [(Om s38 s5), (Ok .eql s39 s38 0)])
 (.cond (.t s39) (.seq (.ops [(Of s40 (zC7 [(.int .u16 0), (.int .u16 0), (.int .u64 0), (.int .u64 0), (.int .u32 0), (.str [])] [])), (Om s41 s6), (On (.loud (zA0 6 (.t s4) (.t s40)))), (OK s5 (.int .i64 0)), (Om s6 s41)])
 .ret) .skip))
 (.seq (.ops [(Om s42 s7), (Oa s43 5 s4), (On (.loud (zA0 1 (.t s43) (.t s42))))])
 (.seq (.ops [(OL s44 6 s4), (Om s45 s5), (On (.loud (zA0 6 (.t s4) (.t s44)))), (Om s5 s45), (OK s6 (.int .i64 0))])
 .ret)))))))))⟩
def c96 : zAr :=
 ⟨64, [], (.seq (.ops [(Oq s3 (.alloc (zCs (.t s1))))])
 (.seq (.seq (.ops [(Oa s6 1 s3), (Ol s7 s6), (Of s8 (zAN .eql (.t s7) (.c (.int .u16 2))))])
 (.cond (.t s8) (.seq (.ops [(Om s9 s0), (Of s10 (zAd (.t s9))), (Oa s11 7 s10), (On (.loud (zA0 1 (.t s11) (.c (.bool true)))))])
 .ret) .skip))
 (.seq (.seq (.ops [(Om s12 s0), (OL s13 6 s3), (Oc s14 109 [(.t s12), (.t s13)]), (Om s4 s14)])
 (.seq (.ops [(Om s15 s4), (Of s16 (zAN .neq (.t s15) (.c (.int .u32 0))))])
 (.cond (.t s16) (.seq (.ops [(Om s17 s0), (OL s18 6 s3), (Om s19 s4), (Oc s20 72 [(.t s17), (.t s18), (.t s19), (.c (.str []))])])
 .ret) .skip)))
 (.seq (.ops [(Om s21 s0), (Of s22 (zAd (.t s21))), (Oa s23 4 s22), (Ol s24 s23), (Ok .add s25 s24 1), (Of s26 (zAd (.t s21))), (Oa s27 4 s26), (On (.loud (zA0 1 (.t s27) (.t s25))))])
 (.seq (.draw (.calm (Om s28 s0) (.calm (Of s29 (zAd (.t s28))) (.calm (Oa s30 4 s29) (.calm (Ol s31 s30) (.calm (Oa s32 1 s3) (.calm (Ol s33 s32) (.calm (Oa s35 3 s3) (.calm (Ol s36 s35) (.calm (Of s37 (zAN .quo (.t s36) (.c (.int .u64 64)))) (.calm (Of s38 (zBj .i64 (.t s37))) (.calm (Oa s39 4 s3) (.calm (Ol s40 s39) (.calm (Of s41 (zAN .quo (.t s40) (.c (.int .u32 64)))) (.calm (Of s42 (zBj .i64 (.t s41))) (.calm (Oa s43 5 s3) (.calm (Ol s44 s43) (.calm (Oq s5 (.alloc (zCs (.c (.agg [(.int .i64 0), (.int .u8 0), (.int .i64 0), (.int .i64 0), (.str [])]))))) (.last ⟨(Oc s34 110 [(.t s33)]), [(Ol s31 s30), (Ol s36 s35), (Ol s40 s39), (Ol s44 s43), (Oq s5 (.alloc (zCs (.c (.agg [(.int .i64 0), (.int .u8 0), (.int .i64 0), (.int .i64 0), (.str [])])))))]⟩ (.calm (Of s45 (zC7 [(.int .i64 0), (.int .u8 0), (.int .i64 0), (.int .i64 0), (.str [])] [(0, (1, (.t s31))), (1, (1, (.t s34))), (2, (1, (.t s38))), (3, (1, (.t s42))), (4, (1, (.t s44)))])) .fin))))))))))))))))))) [(On (.loud (zA0 5 (.t s5) (.t s45))))])
 (.seq (.draw (.calm (Om s46 s0) (.calm (Om s47 s0) (.calm (Of s48 (zAd (.t s47))) (.calm (Oa s49 5 s48) (.calm (Ol s50 s49) (.calm (OL s51 5 s5) (.calm (Oq s52 (.alloc (zF3 5 1 [(.int .i64 0), (.int .u8 0), (.int .i64 0), (.int .i64 0), (.str [])] [(0, (5, (.t s51)))]))) (.last ⟨(Oq s53 (.loud (zE2 5 48 (.t s50) (.t s52)))), []⟩ .fin)))))))) [(Of s54 (zAd (.t s46))), (Oa s55 5 s54), (On (.loud (zA0 1 (.t s55) (.t s53))))])
 (.seq (.ops [(Oa s56 5 s3), (On (.loud (zA0 1 (.t s56) (.c (.str [])))))])
 (.draw (.calm (Om s57 s0) (.calm (Of s58 (zAd (.t s57))) (.calm (Oa s59 6 s58) (.calm (Ol s60 s59) (.calm (Oa s61 0 s5) (.calm (Ol s62 s61) (.calm (OL s63 6 s3) .fin))))))) [(On (.loud (zB3 (.one .int) (.t s60) (.t s62) (.t s63))))]))))))))⟩
def c97l0 : zAz :=
 (.seq (.seq (.ops [(Om s10 s7), (Ok .geq s11 s10 0)])
 (.cond (.t s11) .skip (.exit 0)))
 (.seq (.block 1 (.ops [(Om s14 s0), (Om s15 s1), (Om s16 s7), (Of s17 (zAN .mul (.c (.int .i64 8)) (.t s16))), (Ob .shr s18 s15 s17), (Of s19 (zBj .u8 (.t s18))), (Oq s20 (.alloc (zF3 1 1 [(.int .u8 0)] [(0, (1, (.t s19)))]))), (Oq s21 (.loud (zE2 1 1 (.t s14) (.t s20)))), (Om s0 s21)]))
 (.ops [(Om s12 s7), (Ok .sub s13 s12 1), (Om s7 s13)])))
def c97 : zAr :=
 ⟨23, [(.tmp s6)], (.seq (.ops [(OK s6 .nilslice)])
 (.seq (.seq (.ops [(Om s8 s2), (Ok .sub s9 s8 1), (Om s7 s9)])
 (.block 0 (.loop c97l0)))
 (.seq (.ops [(Om s22 s0), (Om s6 s22)])
 .ret)))⟩
def c100 : zAr :=
 ⟨15, [(.tmp s2)], (.seq (.ops [(Oq s1 (.alloc (zCs (.t s0)))), (OK s2 (.str []))])
 (.seq (.draw (.calm (Oa s3 0 s1) (.calm (Ol s4 s3) (.calm (Of s5 (zGa 38 (.t s4))) (.calm (Oa s6 1 s1) (.calm (Ol s7 s6) (.calm (Of s8 (zGa 32 (.t s7))) (.calm (Oq s9 (.alloc (zF3 1 2 [.niliface] [(0, (1, (.t s5))), (1, (1, (.t s8)))]))) (.calm (Oa s12 2 s1) (.calm (Ol s13 s12) (.last ⟨(Oc s10 69 [(.t s9)]), [(Ol s13 s12)]⟩ (.calm (Of s11 (zAN .add (.c (.str [103, 68, 102, 152])) (.t s10))) .fin))))))))))) [(Ob .add s14 s11 s13), (Om s2 s14)])
 .ret))⟩
def c101 : zAr :=
 ⟨23, [(.tmp s2)], (.seq (.ops [(Oq s1 (.alloc (zCs (.t s0)))), (OK s2 (.str []))])
 (.seq (.draw (.calm (Oa s3 0 s1) (.calm (Ol s4 s3) (.calm (Of s5 (zGa 37 (.t s4))) (.calm (Oa s6 1 s1) (.calm (Ol s7 s6) (.calm (Of s8 (zGa 37 (.t s7))) (.calm (Oa s9 2 s1) (.calm (Ol s10 s9) (.calm (Of s11 (zGa 32 (.t s10))) (.calm (Oa s12 3 s1) (.calm (Ol s13 s12) (.calm (Of s14 (zBw (.t s13))) (.calm (Of s15 (zBj .u32 (.t s14))) (.calm (Of s16 (zGa 38 (.t s15))) (.calm (Oq s17 (.alloc (zF3 1 4 [.niliface] [(0, (1, (.t s5))), (1, (1, (.t s8))), (2, (1, (.t s11))), (3, (1, (.t s16)))]))) (.calm (Oa s20 3 s1) (.calm (Ol s21 s20) (.last ⟨(Oc s18 69 [(.t s17)]), [(Ol s21 s20)]⟩ (.calm (Of s19 (zAN .add (.c (.str [102, 142, 51, 239])) (.t s18))) .fin))))))))))))))))))) [(Ob .add s22 s19 s21), (Om s2 s22)])
 .ret))⟩
def c102 : zAr :=
 ⟨12, [(.cellN 4 s4)], (.seq (.ops [(Oq s4 (.alloc (zCs (.c (.agg [(.int .u16 0), (.int .u16 0), (.int .u64 0), (.str [])])))))])
 (.seq (.ops [(Om s5 s0), (Om s6 s1), (Of s7 (zGa 38 (.t s6))), (Of s8 (zGa 37 (.c (.int .u16 0)))), (Oq s9 (.alloc (zF3 1 2 [.niliface] [(0, (1, (.t s7))), (1, (1, (.t s8)))]))), (Oc s10 69 [(.t s9)]), (Of s11 (zC7 [(.int .u16 0), (.int .u16 0), (.int .u64 0), (.str [])] [(0, (1, (.c (.int .u16 1)))), (1, (1, (.c (.int .u16 32769)))), (2, (1, (.t s5))), (3, (1, (.t s10)))])), (On (.loud (zA0 4 (.t s4) (.t s11))))])
 .ret))⟩
def c103 : zAr :=
 ⟨15, [(.cellN 4 s6)], (.seq (.ops [(Oq s6 (.alloc (zCs (.c (.agg [(.int .u16 0), (.int .u16 0), (.int .u64 0), (.str [])])))))])
 (.seq (.ops [(Om s7 s0), (Om s8 s1), (Of s9 (zGa 32 (.t s8))), (Oq s10 (.alloc (zF3 1 1 [.niliface] [(0, (1, (.t s9)))]))), (Oc s11 69 [(.t s10)]), (Om s12 s2), (Ob .add s13 s11 s12), (Of s14 (zC7 [(.int .u16 0), (.int .u16 0), (.int .u64 0), (.str [])] [(0, (1, (.c (.int .u16 1)))), (1, (1, (.c (.int .u16 1)))), (2, (1, (.t s7))), (3, (1, (.t s13)))])), (On (.loud (zA0 4 (.t s6) (.t s14))))])
 .ret))⟩
def c104l0 : zAz :=
 (.seq (.ops [(Ob .lss s9 s8 s7)])
 (.seq (.cond (.t s9) .skip (.exit 0))
 (.seq (.block 1 (.seq (.ops [(Om s10 s8), (Om s5 s10)])
 (.seq (.ops [(Om s11 s1), (Om s12 s0), (Om s13 s5), (Of s14 (zAU 3 (.t s12) (.t s13))), (OL s15 3 s14), (Oq s16 (.call (.t s11) [(.t s15)]))])
 (.cond (.t s16) (.seq (.ops [(Om s17 s5), (Om s4 s17)])
 .ret) .skip))))
 (.ops [(Ok .add s18 s8 1), (Om s8 s18)]))))
def c104 : zAr :=
 ⟨19, [(.tmp s4)], (.seq (.ops [(OK s4 (.int .i64 0))])
 (.seq (.seq (.ops [(Om s6 s0), (Of s7 (zBP (.t s6))), (OK s8 (.int .i64 0))])
 (.block 0 (.loop c104l0)))
 (.seq (.ops [(Of s4 (zA3 (.c (.int .i64 (-1)))))])
 .ret)))⟩
def c105 : zAr :=
 ⟨8, [(.tmp s3)], (.seq (.ops [(Oq s2 (.alloc (zCs (.t s0)))), (OK s3 (.bool false))])
 (.seq (.ops [(Oa s4 0 s2), (Ol s5 s4), (Ol s6 s1), (Ob .eql s7 s5 s6), (Om s3 s7)])
 .ret))⟩
def c106l0 : zAz :=
 (.seq (.ops [(Ob .lss s8 s7 s6)])
 (.seq (.cond (.t s8) .skip (.exit 0))
 (.seq (.block 1 (.seq (.ops [(Om s9 s7), (Om s4 s9)])
 (.ops [(Om s10 s3), (Of s11 (zAN .shl (.t s10) (.c (.int .u64 8)))), (Om s12 s0), (Om s13 s4), (Of s14 (qIdxS (.t s12) (.t s13))), (Of s15 (zBj .u64 (.t s14))), (Ob .or s16 s11 s15), (Om s3 s16)])))
 (.ops [(Ok .add s17 s7 1), (Om s7 s17)]))))
def c106 : zAr :=
 ⟨19, [(.tmp s2)], (.seq (.ops [(OK s2 (.int .u64 0))])
 (.seq (.ops [(OK s3 (.int .u64 0))])
 (.seq (.seq (.ops [(Om s5 s0), (Of s6 (zBw (.t s5))), (OK s7 (.int .i64 0))])
 (.block 0 (.loop c106l0)))
 (.seq (.ops [(Om s18 s3), (Om s2 s18)])
 .ret))))⟩
def c107l0 : zAz :=
 (.seq (.ops [(Ob .lss s8 s7 s6)])
 (.seq (.cond (.t s8) .skip (.exit 0))
 (.seq (.block 1 (.seq (.ops [(Om s9 s7), (Om s4 s9)])
 (.ops [(Om s10 s3), (Of s11 (zAN .shl (.t s10) (.c (.int .u64 8)))), (Om s12 s0), (Om s13 s4), (Of s14 (qIdxS (.t s12) (.t s13))), (Of s15 (zBj .u64 (.t s14))), (Ob .or s16 s11 s15), (Om s3 s16)])))
 (.ops [(Ok .add s17 s7 1), (Om s7 s17)]))))
def c107 : zAr :=
 ⟨19, [(.tmp s2)], (.seq (.ops [(OK s2 (.int .u64 0))])
 (.seq (.ops [(OK s3 (.int .u64 0))])
 (.seq (.seq (.ops [(Om s5 s0), (Of s6 (zBw (.t s5))), (OK s7 (.int .i64 0))])
 (.block 0 (.loop c107l0)))
 (.seq (.ops [(Om s18 s3), (Om s2 s18)])
 .ret))))⟩
def c108 : zAr :=
 ⟨12, [(.tmp s4)], (.seq (.ops [(OK s4 (.int .u16 0))])
 (.seq (.ops [(Om s5 s0), (Om s6 s1), (Om s7 s1), (Ok .add s8 s7 2), (Of s9 (zA8 (.t s5) (some (.t s6)) (some (.t s8)))), (Oc s10 107 [(.t s9)]), (Of s11 (zBj .u16 (.t s10))), (Om s4 s11)])
 .ret))⟩
def c109 : zAr :=
 ⟨75, [(.tmp s4)], (.seq (.ops [(Oq s3 (.alloc (zCs (.t s1)))), (OK s4 (.int .u32 0))])
 (.seq (.seq (.ops [(Oa s6 1 s3), (Ol s7 s6), (Oc s8 110 [(.t s7)]), (Of s9 (zAN .eql (.t s8) (.c (.int .u8 0)))), (Om s10 s9), (Ga s11 0 s3 s10 false), (Gl s12 s11 s10 false), (Gq s13 (.quiet false (zAN .andNot (.t s12) (.c (.int .u16 1)))) s10 false), (Gq s14 (.quiet false (zAN .neq (.t s13) (.c (.int .u16 0)))) s10 false), (Oz s15 s10 s14)])
 (.cond (.t s15) (.seq (.ops [(OK s4 (.int .u32 22))])
 .ret) .skip))
 (.seq (.seq (.ops [(Oa s16 1 s3), (Ol s17 s16), (Of s18 (zAN .eql (.t s17) (.c (.int .u16 3))))])
 (.cond (.t s18) (.seq (.seq (.ops [(Oa s19 3 s3), (Ol s20 s19), (Of s21 (zAN .neq (.t s20) (.c (.int .u64 0)))), (Om s22 s21), (Ga s23 4 s3 s22 false), (Gl s24 s23 s22 false), (Gq s25 (.quiet false (zAN .neq (.t s24) (.c (.int .u32 0)))) s22 false), (Oz s26 s22 s25)])
 (.cond (.t s26) (.seq (.ops [(OK s4 (.int .u32 22))])
 .ret) .skip))
 (.seq (.ops [(OK s4 (.int .u32 0))])
 .ret)) .skip))
 (.seq (.seq (.ops [(Oa s27 3 s3), (Ol s28 s27), (Of s29 (zAN .rem (.t s28) (.c (.int .u64 64)))), (Of s30 (zAN .neq (.t s29) (.c (.int .u64 0)))), (Om s31 s30), (Ga s32 4 s3 s31 false), (Gl s33 s32 s31 false), (Gq s34 (.quiet false (zAN .rem (.t s33) (.c (.int .u32 64)))) s31 false), (Gq s35 (.quiet false (zAN .neq (.t s34) (.c (.int .u32 0)))) s31 false), (Oz s36 s31 s35), (Om s37 s36), (Ga s38 4 s3 s37 false), (Gl s39 s38 s37 false), (Gq s40 (.quiet false (zAN .eql (.t s39) (.c (.int .u32 0)))) s37 false), (Oz s41 s37 s40), (Om s42 s41), (Ga s43 4 s3 s42 false), (Gl s44 s43 s42 false), (Gq s45 (.quiet false (zAN .gtr (.t s44) (.c (.int .u32 1024)))) s42 false), (Oz s46 s42 s45)])
 (.cond (.t s46) (.seq (.ops [(OK s4 (.int .u32 22))])
 .ret) .skip))
 (.seq (.ops [(Om s47 s0), (Of s48 (zAd (.t s47))), (Oa s49 0 s48), (Ol s50 s49), (Of s51 (zBj .u64 (.t s50))), (Of s52 (zAN .mul (.t s51) (.c (.int .u64 64)))), (Om s5 s52)])
 (.seq (.seq (.ops [(Oa s53 3 s3), (Ol s54 s53), (Om s55 s5), (Ob .leq s56 s54 s55), (Om s57 s56), (Ga s58 4 s3 s57 true), (Gl s59 s58 s57 true), (Gq s60 (.quiet false (zBj .u64 (.t s59))) s57 true), (Gm s61 s5 s57 true), (Ga s62 3 s3 s57 true), (Gl s63 s62 s57 true), (Gb .sub s64 s61 s63 s57 true), (Gb .leq s65 s60 s64 s57 true), (Oy s66 s57 s65)])
 (.cond (.t s66) (.seq (.ops [(OK s4 (.int .u32 0))])
 .ret) .skip))
 (.seq (.seq (.ops [(Oa s67 1 s3), (Ol s68 s67), (Of s69 (zAN .eql (.t s68) (.c (.int .u16 1)))), (Om s70 s69), (Ga s71 1 s3 s70 false), (Gl s72 s71 s70 false), (Gq s73 (.quiet false (zAN .eql (.t s72) (.c (.int .u16 6)))) s70 false), (Oz s74 s70 s73)])
 (.cond (.t s74) (.seq (.ops [(OK s4 (.int .u32 28))])
 .ret) .skip))
 (.seq (.ops [(OK s4 (.int .u32 22))])
 .ret))))))))⟩
def c110 : zAr :=
 ⟨14, [(.tmp s2)], (.seq (.ops [(OK s2 (.int .u8 0))])
 (.seq (.seq (.ops [(Om s3 s0)])
 (.block 0 (.seq (.ops [(Of s5 (zAN .eql (.t s3) (.c (.int .u16 0)))), (Om s4 s5)])
 (.cond (.t s4) (.seq (.ops [(OK s2 (.int .u8 1))])
 .ret) (.seq (.ops [(Of s7 (zAN .eql (.t s3) (.c (.int .u16 1)))), (Om s6 s7)])
 (.cond (.t s6) (.seq (.ops [(OK s2 (.int .u8 2))])
 .ret) (.seq (.ops [(Of s9 (zAN .eql (.t s3) (.c (.int .u16 3)))), (Om s8 s9)])
 (.cond (.t s8) (.seq (.ops [(OK s2 (.int .u8 3))])
 .ret) (.seq (.ops [(Of s11 (zAN .eql (.t s3) (.c (.int .u16 4)))), (Om s10 s11)])
 (.cond (.t s10) (.seq (.ops [(OK s2 (.int .u8 5))])
 .ret) (.seq (.ops [(Of s13 (zAN .eql (.t s3) (.c (.int .u16 6)))), (Om s12 s13)])
 (.cond (.t s12) (.seq (.ops [(OK s2 (.int .u8 4))])
 .ret) .skip))))))))))))
 (.seq (.ops [(OK s2 (.int .u8 0))])
 .ret)))⟩
def ft : FT :=
 (.node none (.node none (.node (some c3) (.node (some c7) (.node (some c15) (.node (some c31) (.node (some c63) .leaf .leaf) (.node (some c95) .leaf .leaf)) (.node none (.node none .leaf .leaf) .leaf)) (.node (some c23) (.node (some c39) .leaf (.node (some c103) .leaf .leaf)) (.node (some c55) (.node (some c87) .leaf .leaf) .leaf))) (.node (some c11) (.node (some c19) (.node (some c35) (.node (some c67) .leaf .leaf) .leaf) (.node none (.node (some c83) .leaf .leaf) .leaf)) (.node (some c27) (.node (some c43) (.node none .leaf .leaf) (.node (some c107) .leaf .leaf)) (.node (some c59) (.node (some c91) .leaf .leaf) .leaf)))) (.node (some c5) (.node (some c9) (.node (some c17) (.node (some c33) (.node (some c65) .leaf .leaf) (.node (some c97) .leaf .leaf)) (.node none (.node (some c81) .leaf .leaf) .leaf)) (.node none (.node none (.node (some c73) .leaf .leaf) (.node (some c105) .leaf .leaf)) (.node (some c57) (.node (some c89) .leaf .leaf) .leaf))) (.node (some c13) (.node (some c21) (.node (some c37) (.node (some c69) .leaf .leaf) (.node (some c101) .leaf .leaf)) (.node none (.node (some c85) .leaf .leaf) .leaf)) (.node (some c29) (.node (some c45) (.node (some c77) .leaf .leaf) (.node (some c109) .leaf .leaf)) (.node (some c61) (.node (some c93) .leaf .leaf) .leaf))))) (.node none (.node (some c4) (.node (some c8) (.node (some c16) (.node (some c32) (.node (some c64) .leaf .leaf) (.node (some c96) .leaf .leaf)) (.node (some c48) (.node (some c80) .leaf .leaf) .leaf)) (.node (some c24) (.node none (.node (some c72) .leaf .leaf) (.node (some c104) .leaf .leaf)) (.node (some c56) (.node (some c88) .leaf .leaf) .leaf))) (.node (some c12) (.node (some c20) (.node (some c36) (.node (some c68) .leaf .leaf) (.node (some c100) .leaf .leaf)) (.node none (.node (some c84) .leaf .leaf) .leaf)) (.node (some c28) (.node (some c44) (.node (some c76) .leaf .leaf) (.node (some c108) .leaf .leaf)) (.node (some c60) (.node (some c92) .leaf .leaf) .leaf)))) (.node (some c6) (.node (some c10) (.node (some c18) (.node (some c34) (.node (some c66) .leaf .leaf) .leaf) (.node (some c50) (.node (some c82) .leaf .leaf) .leaf)) (.node (some c26) (.node none (.node none .leaf .leaf) (.node (some c106) .leaf .leaf)) (.node (some c58) (.node (some c90) .leaf .leaf) .leaf))) (.node none (.node (some c22) (.node (some c38) .leaf (.node (some c102) .leaf .leaf)) (.node (some c54) (.node (some c86) .leaf .leaf) .leaf)) (.node (some c30) (.node (some c46) (.node (some c78) .leaf .leaf) (.node (some c110) .leaf .leaf)) (.node (some c62) (.node (some c94) .leaf .leaf) .leaf))))))
theorem ok3 : FOk Tryz.prog 3 c3 := FOk.mk Tryz.func3 (by kernel_rfl) (by kernel_rfl)
theorem ok4 : FOk Tryz.prog 4 c4 := FOk.mk Tryz.func4 (by kernel_rfl) (by kernel_rfl)
theorem ok5 : FOk Tryz.prog 5 c5 := FOk.mk Tryz.func5 (by kernel_rfl) (by kernel_rfl)
theorem ok6 : FOk Tryz.prog 6 c6 := FOk.mk Tryz.func6 (by kernel_rfl) (by kernel_rfl)
theorem ok7 : FOk Tryz.prog 7 c7 := FOk.mk Tryz.func7 (by kernel_rfl) (by kernel_rfl)
theorem ok8 : FOk Tryz.prog 8 c8 := FOk.mk Tryz.func8 (by kernel_rfl) (by kernel_rfl)
theorem ok9 : FOk Tryz.prog 9 c9 := FOk.mk Tryz.func9 (by kernel_rfl) (by kernel_rfl)
theorem ok10 : FOk Tryz.prog 10 c10 := FOk.mk Tryz.func10 (by kernel_rfl) (by kernel_rfl)
theorem ok11 : FOk Tryz.prog 11 c11 := FOk.mk Tryz.func11 (by kernel_rfl) (by kernel_rfl)
theorem ok12 : FOk Tryz.prog 12 c12 := FOk.mk Tryz.func12 (by kernel_rfl) (by kernel_rfl)
theorem ok13 : FOk Tryz.prog 13 c13 := FOk.mk Tryz.func13 (by kernel_rfl) (by kernel_rfl)
theorem ok15 : FOk Tryz.prog 15 c15 := FOk.mk Tryz.func15 (by kernel_rfl) (by kernel_rfl)
theorem ok16 : FOk Tryz.prog 16 c16 := FOk.mk Tryz.func16 (by kernel_rfl) (by kernel_rfl)
theorem ok17 : FOk Tryz.prog 17 c17 := FOk.mk Tryz.func17 (by kernel_rfl) (by kernel_rfl)
theorem ok18 : FOk Tryz.prog 18 c18 := FOk.mk Tryz.func18 (by kernel_rfl) (by kernel_rfl)
theorem ok19 : FOk Tryz.prog 19 c19 := FOk.mk Tryz.func19 (by kernel_rfl) (by kernel_rfl)
theorem ok20 : FOk Tryz.prog 20 c20 := FOk.mk Tryz.func20 (by kernel_rfl) (by kernel_rfl)
theorem ok21 : FOk Tryz.prog 21 c21 := FOk.mk Tryz.func21 (by kernel_rfl) (by kernel_rfl)
theorem ok22 : FOk Tryz.prog 22 c22 := FOk.mk Tryz.func22 (by kernel_rfl) (by kernel_rfl)
theorem ok23 : FOk Tryz.prog 23 c23 := FOk.mk Tryz.func23 (by kernel_rfl) (by kernel_rfl)
theorem ok24 : FOk Tryz.prog 24 c24 := FOk.mk Tryz.func24 (by kernel_rfl) (by kernel_rfl)
theorem ok26 : FOk Tryz.prog 26 c26 := FOk.mk Tryz.func26 (by kernel_rfl) (by kernel_rfl)
theorem ok27 : FOk Tryz.prog 27 c27 := FOk.mk Tryz.func27 (by kernel_rfl) (by kernel_rfl)
theorem ok28 : FOk Tryz.prog 28 c28 := FOk.mk Tryz.func28 (by kernel_rfl) (by kernel_rfl)
theorem ok29 : FOk Tryz.prog 29 c29 := FOk.mk Tryz.func29 (by kernel_rfl) (by kernel_rfl)
theorem ok30 : FOk Tryz.prog 30 c30 := FOk.mk Tryz.func30 (by kernel_rfl) (by kernel_rfl)
theorem ok31 : FOk Tryz.prog 31 c31 := FOk.mk Tryz.func31 (by kernel_rfl) (by kernel_rfl)
theorem ok32 : FOk Tryz.prog 32 c32 := FOk.mk Tryz.func32 (by kernel_rfl) (by kernel_rfl)
theorem ok33 : FOk Tryz.prog 33 c33 := FOk.mk Tryz.func33 (by kernel_rfl) (by kernel_rfl)
theorem ok34 : FOk Tryz.prog 34 c34 := FOk.mk Tryz.func34 (by kernel_rfl) (by kernel_rfl)
theorem ok35 : FOk Tryz.prog 35 c35 := FOk.mk Tryz.func35 (by kernel_rfl) (by kernel_rfl)
theorem ok36 : FOk Tryz.prog 36 c36 := FOk.mk Tryz.func36 (by kernel_rfl) (by kernel_rfl)
theorem ok37 : FOk Tryz.prog 37 c37 := FOk.mk Tryz.func37 (by kernel_rfl) (by kernel_rfl)
theorem ok38 : FOk Tryz.prog 38 c38 := FOk.mk Tryz.func38 (by kernel_rfl) (by kernel_rfl)
theorem ok39 : FOk Tryz.prog 39 c39 := FOk.mk Tryz.func39 (by kernel_rfl) (by kernel_rfl)
theorem ok43 : FOk Tryz.prog 43 c43 := FOk.mk Tryz.func43 (by kernel_rfl) (by kernel_rfl)
theorem ok44 : FOk Tryz.prog 44 c44 := FOk.mk Tryz.func44 (by kernel_rfl) (by kernel_rfl)
theorem ok45 : FOk Tryz.prog 45 c45 := FOk.mk Tryz.func45 (by kernel_rfl) (by kernel_rfl)
theorem ok46 : FOk Tryz.prog 46 c46 := FOk.mk Tryz.func46 (by kernel_rfl) (by kernel_rfl)
theorem ok48 : FOk Tryz.prog 48 c48 := FOk.mk Tryz.func48 (by kernel_rfl) (by kernel_rfl)
theorem ok50 : FOk Tryz.prog 50 c50 := FOk.mk Tryz.func50 (by kernel_rfl) (by kernel_rfl)
theorem ok54 : FOk Tryz.prog 54 c54 := FOk.mk Tryz.func54 (by kernel_rfl) (by kernel_rfl)
theorem ok55 : FOk Tryz.prog 55 c55 := FOk.mk Tryz.func55 (by kernel_rfl) (by kernel_rfl)
theorem ok56 : FOk Tryz.prog 56 c56 := FOk.mk Tryz.func56 (by kernel_rfl) (by kernel_rfl)
theorem ok57 : FOk Tryz.prog 57 c57 := FOk.mk Tryz.func57 (by kernel_rfl) (by kernel_rfl)
theorem ok58 : FOk Tryz.prog 58 c58 := FOk.mk Tryz.func58 (by kernel_rfl) (by kernel_rfl)
theorem ok59 : FOk Tryz.prog 59 c59 := FOk.mk Tryz.func59 (by kernel_rfl) (by kernel_rfl)
theorem ok60 : FOk Tryz.prog 60 c60 := FOk.mk Tryz.func60 (by kernel_rfl) (by kernel_rfl)
theorem ok61 : FOk Tryz.prog 61 c61 := FOk.mk Tryz.func61 (by kernel_rfl) (by kernel_rfl)
theorem ok62 : FOk Tryz.prog 62 c62 := FOk.mk Tryz.func62 (by kernel_rfl) (by kernel_rfl)
theorem ok63 : FOk Tryz.prog 63 c63 := FOk.mk Tryz.func63 (by kernel_rfl) (by kernel_rfl)
theorem ok64 : FOk Tryz.prog 64 c64 := FOk.mk Tryz.func64 (by kernel_rfl) (by kernel_rfl)
theorem ok65 : FOk Tryz.prog 65 c65 := FOk.mk Tryz.func65 (by kernel_rfl) (by kernel_rfl)
theorem ok66 : FOk Tryz.prog 66 c66 := FOk.mk Tryz.func66 (by kernel_rfl) (by kernel_rfl)
theorem ok67 : FOk Tryz.prog 67 c67 := FOk.mk Tryz.func67 (by kernel_rfl) (by kernel_rfl)
theorem ok68 : FOk Tryz.prog 68 c68 := FOk.mk Tryz.func68 (by kernel_rfl) (by kernel_rfl)
theorem ok69 : FOk Tryz.prog 69 c69 := FOk.mk Tryz.func69 (by kernel_rfl) (by kernel_rfl)
theorem ok72 : FOk Tryz.prog 72 c72 := FOk.mk Tryz.func72 (by kernel_rfl) (by kernel_rfl)
theorem ok73 : FOk Tryz.prog 73 c73 := FOk.mk Tryz.func73 (by kernel_rfl) (by kernel_rfl)
theorem ok76 : FOk Tryz.prog 76 c76 := FOk.mk Tryz.func76 (by kernel_rfl) (by kernel_rfl)
theorem ok77 : FOk Tryz.prog 77 c77 := FOk.mk Tryz.func77 (by kernel_rfl) (by kernel_rfl)
theorem ok78 : FOk Tryz.prog 78 c78 := FOk.mk Tryz.func78 (by kernel_rfl) (by kernel_rfl)
theorem ok80 : FOk Tryz.prog 80 c80 := FOk.mk Tryz.func80 (by kernel_rfl) (by kernel_rfl)
theorem ok81 : FOk Tryz.prog 81 c81 := FOk.mk Tryz.func81 (by kernel_rfl) (by kernel_rfl)
theorem ok82 : FOk Tryz.prog 82 c82 := FOk.mk Tryz.func82 (by kernel_rfl) (by kernel_rfl)
theorem ok83 : FOk Tryz.prog 83 c83 := FOk.mk Tryz.func83 (by kernel_rfl) (by kernel_rfl)
theorem ok84 : FOk Tryz.prog 84 c84 := FOk.mk Tryz.func84 (by kernel_rfl) (by kernel_rfl)
theorem ok85 : FOk Tryz.prog 85 c85 := FOk.mk Tryz.func85 (by kernel_rfl) (by kernel_rfl)
theorem ok86 : FOk Tryz.prog 86 c86 := FOk.mk Tryz.func86 (by kernel_rfl) (by kernel_rfl)
theorem ok87 : FOk Tryz.prog 87 c87 := FOk.mk Tryz.func87 (by kernel_rfl) (by kernel_rfl)
theorem ok88 : FOk Tryz.prog 88 c88 := FOk.mk Tryz.func88 (by kernel_rfl) (by kernel_rfl)
theorem ok89 : FOk Tryz.prog 89 c89 := FOk.mk Tryz.func89 (by kernel_rfl) (by kernel_rfl)
theorem ok90 : FOk Tryz.prog 90 c90 := FOk.mk Tryz.func90 (by kernel_rfl) (by kernel_rfl)
theorem ok91 : FOk Tryz.prog 91 c91 := FOk.mk Tryz.func91 (by kernel_rfl) (by kernel_rfl)
theorem ok92 : FOk Tryz.prog 92 c92 := FOk.mk Tryz.func92 (by kernel_rfl) (by kernel_rfl)
theorem ok93 : FOk Tryz.prog 93 c93 := FOk.mk Tryz.func93 (by kernel_rfl) (by kernel_rfl)
theorem ok94 : FOk Tryz.prog 94 c94 := FOk.mk Tryz.func94 (by kernel_rfl) (by kernel_rfl)
theorem ok95 : FOk Tryz.prog 95 c95 := FOk.mk Tryz.func95 (by kernel_rfl) (by kernel_rfl)
theorem ok96 : FOk Tryz.prog 96 c96 := FOk.mk Tryz.func96 (by kernel_rfl) (by kernel_rfl)
theorem ok97 : FOk Tryz.prog 97 c97 := FOk.mk Tryz.func97 (by kernel_rfl) (by kernel_rfl)
theorem ok100 : FOk Tryz.prog 100 c100 := FOk.mk Tryz.func100 (by kernel_rfl) (by kernel_rfl)
theorem ok101 : FOk Tryz.prog 101 c101 := FOk.mk Tryz.func101 (by kernel_rfl) (by kernel_rfl)
theorem ok102 : FOk Tryz.prog 102 c102 := FOk.mk Tryz.func102 (by kernel_rfl) (by kernel_rfl)
theorem ok103 : FOk Tryz.prog 103 c103 := FOk.mk Tryz.func103 (by kernel_rfl) (by kernel_rfl)
theorem ok104 : FOk Tryz.prog 104 c104 := FOk.mk Tryz.func104 (by kernel_rfl) (by kernel_rfl)
theorem ok105 : FOk Tryz.prog 105 c105 := FOk.mk Tryz.func105 (by kernel_rfl) (by kernel_rfl)
theorem ok106 : FOk Tryz.prog 106 c106 := FOk.mk Tryz.func106 (by kernel_rfl) (by kernel_rfl)
theorem ok107 : FOk Tryz.prog 107 c107 := FOk.mk Tryz.func107 (by kernel_rfl) (by kernel_rfl)
theorem ok108 : FOk Tryz.prog 108 c108 := FOk.mk Tryz.func108 (by kernel_rfl) (by kernel_rfl)
theorem ok109 : FOk Tryz.prog 109 c109 := FOk.mk Tryz.func109 (by kernel_rfl) (by kernel_rfl)
theorem ok110 : FOk Tryz.prog 110 c110 := FOk.mk Tryz.func110 (by kernel_rfl) (by kernel_rfl)
theorem ftOk : ft.Ok Tryz.prog 1 0 :=
 ⟨trivial, ⟨trivial, ⟨ok3, ⟨ok7, ⟨ok15, ⟨ok31, ⟨ok63, trivial, trivial⟩, ⟨ok95, trivial, trivial⟩⟩, ⟨trivial, ⟨trivial, trivial, trivial⟩, trivial⟩⟩, ⟨ok23, ⟨ok39, trivial, ⟨ok103, trivial, trivial⟩⟩, ⟨ok55, ⟨ok87, trivial, trivial⟩, trivial⟩⟩⟩, ⟨ok11, ⟨ok19, ⟨ok35, ⟨ok67, trivial, trivial⟩, trivial⟩, ⟨trivial, ⟨ok83, trivial, trivial⟩, trivial⟩⟩, ⟨ok27, ⟨ok43, ⟨trivial, trivial, trivial⟩, ⟨ok107, trivial, trivial⟩⟩, ⟨ok59, ⟨ok91, trivial, trivial⟩, trivial⟩⟩⟩⟩, ⟨ok5, ⟨ok9, ⟨ok17, ⟨ok33, ⟨ok65, trivial, trivial⟩, ⟨ok97, trivial, trivial⟩⟩, ⟨trivial, ⟨ok81, trivial, trivial⟩, trivial⟩⟩, ⟨trivial, ⟨trivial, ⟨ok73, trivial, trivial⟩, ⟨ok105, trivial, trivial⟩⟩, ⟨ok57, ⟨ok89, trivial, trivial⟩, trivial⟩⟩⟩, ⟨ok13, ⟨ok21, ⟨ok37, ⟨ok69, trivial, trivial⟩, ⟨ok101, trivial, trivial⟩⟩, ⟨trivial, ⟨ok85, trivial, trivial⟩, trivial⟩⟩, ⟨ok29, ⟨ok45, ⟨ok77, trivial, trivial⟩, ⟨ok109, trivial, trivial⟩⟩, ⟨ok61, ⟨ok93, trivial, trivial⟩, trivial⟩⟩⟩⟩⟩, ⟨trivial, ⟨ok4, ⟨ok8, ⟨ok16, ⟨ok32, ⟨ok64, trivial, trivial⟩, ⟨ok96, trivial, trivial⟩⟩, ⟨ok48, ⟨ok80, trivial, trivial⟩, trivial⟩⟩, ⟨ok24, ⟨trivial, ⟨ok72, trivial, trivial⟩, ⟨ok104, trivial, trivial⟩⟩, ⟨ok56, ⟨ok88, trivial, trivial⟩, trivial⟩⟩⟩, ⟨ok12, ⟨ok20, ⟨ok36, ⟨ok68, trivial, trivial⟩, ⟨ok100, trivial, trivial⟩⟩, ⟨trivial, ⟨ok84, trivial, trivial⟩, trivial⟩⟩, ⟨ok28, ⟨ok44, ⟨ok76, trivial, trivial⟩, ⟨ok108, trivial, trivial⟩⟩, ⟨ok60, ⟨ok92, trivial, trivial⟩, trivial⟩⟩⟩⟩, ⟨ok6, ⟨ok10, ⟨ok18, ⟨ok34, ⟨ok66, trivial, trivial⟩, trivial⟩, ⟨ok50, ⟨ok82, trivial, trivial⟩, trivial⟩⟩, ⟨ok26, ⟨trivial, ⟨trivial, trivial, trivial⟩, ⟨ok106, trivial, trivial⟩⟩, ⟨ok58, ⟨ok90, trivial, trivial⟩, trivial⟩⟩⟩, ⟨trivial, ⟨ok22, ⟨ok38, trivial, ⟨ok102, trivial, trivial⟩⟩, ⟨ok54, ⟨ok86, trivial, trivial⟩, trivial⟩⟩, ⟨ok30, ⟨ok46, ⟨ok78, trivial, trivial⟩, ⟨ok110, trivial, trivial⟩⟩, ⟨ok62, ⟨ok94, trivial, trivial⟩, trivial⟩⟩⟩⟩⟩⟩
end Go.Proofs.YtjekgdkaejgpdaaGreat
