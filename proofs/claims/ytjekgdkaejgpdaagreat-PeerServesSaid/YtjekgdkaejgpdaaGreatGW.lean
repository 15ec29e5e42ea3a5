/- The law in pieces: runs by script. No condition. -/
import Derived.Test.YtjekgdkaejgpdaaGreatFW
import Derived.Test.YtjekgdkaejgpdaaGreatAM56
import Derived.Test.YtjekgdkaejgpdaaGreatAMJ
namespace Go.Proofs.YtjekgdkaejgpdaaGreat
open Go Go.AM
set_option maxRecDepth 100000
set_option maxHeartbeats 0
set_option linter.unusedVariables false
set_option linter.unusedSectionVars false
noncomputable section
def c3p0 : zAz :=
 (.ops [⟨(some s6), (.quiet false (zA3 (.c bF))), none⟩])
def c3p1 : zAz :=
 (.seq (.ops [⟨(some s25), (.call (.c (.func (.func 4) [] [])) []), none⟩, ⟨(some s26), (.quiet false (qUn .not (.t s25))), none⟩])
 (.cond (.t s26) (.seq (.ops [⟨(some s6), (.quiet false (zA3 (.c bF))), none⟩])
 .ret) .skip))
def c3p2 : zAz :=
 (.seq (.ops [⟨(some s27), (.quiet false (zA3 (.t s1))), none⟩, ⟨(some s28), (.quiet false (zBP (.t s27))), none⟩, ⟨(some s29), (.quiet false (zAN .gtr (.t s28) (.c (vi 100)))), none⟩, ⟨(some s30), (.quiet false (zA3 (.t s29))), none⟩, ⟨(some s31), (.quiet false (zA3 (.t s2))), (some (s30, false))⟩, ⟨(some s32), (.quiet false (zBP (.t s31))), (some (s30, false))⟩, ⟨(some s33), (.quiet false (zAN .gtr (.t s32) (.c (vi 100)))), (some (s30, false))⟩, ⟨(some s34), (.quiet false (zC6 (.t s30) (.c bT) (.t s33))), none⟩])
 (.cond (.t s34) (.seq (.ops [⟨(some s6), (.quiet false (zA3 (.c bT))), none⟩])
 .ret) .skip))
def c3p3 : zAz :=
 (.ops [⟨(some s35), (.quiet false (zA3 (.t s0))), none⟩, ⟨(some s36), (.call (.c (.func (.func 5) [] [])) [(.c (V.str [97])), (.t s35)]), none⟩, ⟨(some s7), (.quiet false (zA3 (.t s36))), none⟩])
def c3p4 : zAz :=
 (.ops [⟨(some s37), (.call (.c (.func (.func 6) [] [])) []), none⟩, ⟨(some s8), (.quiet false (zA3 (.t s37))), none⟩])
def c3p5 : zAz :=
 (.ops [⟨(some s38), (.quiet false (zA3 (.t s7))), none⟩, ⟨(some s39), (.quiet false (zA3 (.t s8))), none⟩, ⟨(some s40), (.call (.c (.func (.func 8) [] [])) [(.t s39), (.c (V.str []))]), none⟩, ⟨(some s41), (.call (.c (.func (.func 7) [] [])) [(.t s38), (.t s40)]), none⟩])
def c3p7 : zAz :=
 (.seq (.ops [⟨(some s52), (.quiet false (zA3 (.t s7))), none⟩, ⟨(some s53), (.call (.c (.func (.func 10) [] [])) [(.t s52)]), none⟩, ⟨(some s54), (.quiet false (qUn .not (.t s53))), none⟩, ⟨(some s55), (.quiet false (zA3 (.t s54))), none⟩, ⟨(some s56), (.quiet false (zA3 (.t s7))), (some (s55, false))⟩, ⟨(some s57), (.call (.c (.func (.func 11) [] [])) [(.t s56)]), (some (s55, false))⟩, ⟨(some s58), (.quiet false (zAN .neq (.t s57) (.c (vq 1024)))), (some (s55, false))⟩, ⟨(some s59), (.quiet false (zC6 (.t s55) (.c bT) (.t s58))), none⟩])
 (.cond (.t s59) (.seq (.ops [⟨(some s6), (.quiet false (zA3 (.c bF))), none⟩])
 .ret) .skip))
def c3p8 : zAz :=
 (.ops [⟨(some s60), (.alloc aMkm), none⟩, ⟨(some s10), (.quiet false (zA3 (.t s60))), none⟩])
def c3p9 : zAz :=
 (.ops [⟨(some s61), (.alloc aMkm), none⟩, ⟨(some s11), (.quiet false (zA3 (.t s61))), none⟩])
def c3p10 : zAz :=
 (.ops [⟨(some s12), (.quiet false (zA3 (.c .nilslice))), none⟩])
def c3p11 : zAz :=
 (.ops [⟨(some s13), (.quiet false (zA3 (.c (vi 0)))), none⟩])
def c3p13 : zAz :=
 (.ops [⟨(some s274), (.quiet false (zA3 (.t s7))), none⟩, ⟨(some s275), (.call (.c (.func (.func 20) [] [])) [(.t s274)]), none⟩])
def c3p14 : zAz :=
 (.ops [⟨(some s276), (.quiet false (zA3 (.t s8))), none⟩, ⟨(some s277), (.quiet false (zA3 (.t s7))), none⟩, ⟨(some s278), (.call (.c (.func (.func 9) [] [])) [(.t s277)]), none⟩, ⟨(some s279), (.call (.c (.func (.func 8) [] [])) [(.t s276), (.t s278)]), none⟩])
def c3p15 : zAz :=
 (.ops [⟨(some s280), (.quiet false (zA3 (.t s10))), none⟩, ⟨(some s281), (.quiet true (zCw (.t s280))), none⟩, ⟨(some s282), (.quiet false (zAN .eql (.t s281) (.c (vi 0)))), none⟩, ⟨(some s283), (.quiet false (zA3 (.t s282))), none⟩, ⟨(some s284), (.quiet false (zA3 (.t s7))), (some (s283, true))⟩, ⟨(some s285), (.call (.c (.func (.func 19) [] [])) [(.t s284)]), (some (s283, true))⟩, ⟨(some s286), (.quiet false (zC6 (.t s283) (.t s285) (.c bF))), none⟩, ⟨(some s287), (.quiet false (zA3 (.t s286))), none⟩, ⟨(some s288), (.quiet false (zA3 (.t s8))), (some (s287, true))⟩, ⟨(some s289), (.quiet false (zAd (.t s288))), (some (s287, true))⟩, ⟨(some s290), (.quiet false (zDi 1 (.t s289))), (some (s287, true))⟩, ⟨(some s291), (.quiet true (zB0 (.t s290))), (some (s287, true))⟩, ⟨(some s292), (.call (.c (.func (.func 21) [] [])) [(.t s291)]), (some (s287, true))⟩, ⟨(some s293), (.quiet false (zC6 (.t s287) (.t s292) (.c bF))), none⟩, ⟨(some s6), (.quiet false (zA3 (.t s293))), none⟩])
def c3q0 : zAz :=
 (.seq (.ops [⟨(some s62), (.quiet false (zA3 (.t s14))), none⟩, ⟨(some s63), (.quiet false (zAN .lss (.t s62) (.c (vi 500)))), none⟩, ⟨(some s64), (.quiet false (zA3 (.t s63))), none⟩, ⟨(some s65), (.quiet false (zA3 (.t s13))), (some (s64, true))⟩, ⟨(some s66), (.quiet false (zA3 (.t s1))), (some (s64, true))⟩, ⟨(some s67), (.quiet false (zBP (.t s66))), (some (s64, true))⟩, ⟨(some s68), (.quiet false (zAN .lss (.t s65) (.t s67))), (some (s64, true))⟩, ⟨(some s69), (.quiet false (zA3 (.t s68))), (some (s64, true))⟩, ⟨(some s70), (.quiet false (zA3 (.t s10))), (some (s69, false))⟩, ⟨(some s71), (.quiet true (zCw (.t s70))), (some (s69, false))⟩, ⟨(some s72), (.quiet false (zAN .gtr (.t s71) (.c (vi 0)))), (some (s69, false))⟩, ⟨(some s73), (.quiet false (zC6 (.t s69) (.c bT) (.t s72))), (some (s64, true))⟩, ⟨(some s74), (.quiet false (zC6 (.t s64) (.t s73) (.c bF))), none⟩])
 (.cond (.t s74) .skip (.exit 2)))
def c3q13 : zAz :=
 (.ops [⟨(some s75), (.quiet false (zA3 (.t s14))), none⟩, ⟨(some s76), (.quiet false (zAN .add (.t s75) (.c (vi 1)))), none⟩, ⟨(some s14), (.quiet false (zA3 (.t s76))), none⟩])
def c3q1 : zAz :=
 (.ops [⟨(some s77), (.quiet false (zA3 (.t s13))), none⟩, ⟨(some s78), (.quiet false (zA3 (.t s1))), none⟩, ⟨(some s79), (.quiet false (zBP (.t s78))), none⟩, ⟨(some s80), (.quiet false (zAN .lss (.t s77) (.t s79))), none⟩, ⟨(some s81), (.quiet false (zA3 (.t s80))), none⟩, ⟨(some s82), (.quiet false (zA3 (.t s14))), (some (s81, true))⟩, ⟨(some s83), (.quiet false (zA3 (.t s2))), (some (s81, true))⟩, ⟨(some s84), (.quiet false (zBP (.t s83))), (some (s81, true))⟩, ⟨(some s85), (.quiet false (zAN .geq (.t s82) (.t s84))), (some (s81, true))⟩, ⟨(some s86), (.quiet false (zA3 (.t s85))), (some (s81, true))⟩, ⟨(some s87), (.quiet false (zA3 (.t s2))), (some (s86, false))⟩, ⟨(some s88), (.quiet false (zA3 (.t s14))), (some (s86, false))⟩, ⟨(some s89), (.quiet false (zAU 1 (.t s87) (.t s88))), (some (s86, false))⟩, ⟨(some s90), (.quiet true (zB0 (.t s89))), (some (s86, false))⟩, ⟨(some s91), (.quiet false (zAN .rem (.t s90) (.c (vy 2)))), (some (s86, false))⟩, ⟨(some s92), (.quiet false (zAN .eql (.t s91) (.c (vy 0)))), (some (s86, false))⟩, ⟨(some s93), (.quiet false (zC6 (.t s86) (.c bT) (.t s92))), (some (s81, true))⟩, ⟨(some s94), (.quiet false (zA3 (.t s93))), (some (s81, true))⟩, ⟨(some s95), (.quiet false (zA3 (.t s10))), (some (s94, false))⟩, ⟨(some s96), (.quiet true (zCw (.t s95))), (some (s94, false))⟩, ⟨(some s97), (.quiet false (zAN .eql (.t s96) (.c (vi 0)))), (some (s94, false))⟩, ⟨(some s98), (.quiet false (zC6 (.t s94) (.c bT) (.t s97))), (some (s81, true))⟩, ⟨(some s99), (.quiet false (zC6 (.t s81) (.t s98) (.c bF))), none⟩])
def c3q2 : zAz :=
 (.ops [⟨(some s100), (.quiet false (zA3 (.t s1))), none⟩, ⟨(some s101), (.quiet false (zA3 (.t s13))), none⟩, ⟨(some s102), (.quiet false (zAU 1 (.t s100) (.t s101))), none⟩, ⟨(some s103), (.quiet true (zB0 (.t s102))), none⟩, ⟨(some s104), (.call (.c (.func (.func 12) [] [])) [(.t s103)]), none⟩, ⟨(some s15), (.alloc (zCs (.c (V.agg [(vh 0), (vh 0), (vq 0), (vq 0), (vw 0), (V.str [])])))), none⟩, ⟨none, (.loud (zA0 6 (.t s15) (.t s104))), none⟩])
def c3q3 : zAz :=
 (.ops [⟨(some s106), (.quiet false (zA3 (.t s7))), none⟩, ⟨(some s107), (.quiet true (zDC 6 (.t s15))), none⟩, ⟨(some s108), (.call (.c (.func (.func 13) [] [])) [(.t s106), (.t s107)]), none⟩, ⟨(some s105), (.quiet false (zA3 (.t s108))), none⟩, ⟨(some s109), (.quiet false (qExt 0 (.t s105))), none⟩, ⟨(some s110), (.quiet false (qExt 1 (.t s105))), none⟩, ⟨(some s16), (.quiet false (zA3 (.t s109))), none⟩, ⟨(some s17), (.quiet false (zA3 (.t s110))), none⟩])
def c3q4 : zAz :=
 (.seq (.ops [⟨(some s111), (.quiet false (zA3 (.t s17))), none⟩, ⟨(some s112), (.quiet false (zAN .eql (.t s111) (.c (vi 0)))), none⟩, ⟨(some s113), (.quiet false (zA3 (.t s10))), none⟩, ⟨(some s114), (.quiet true (zCw (.t s113))), none⟩, ⟨(some s115), (.quiet false (zAN .lss (.t s114) (.c (vi 8)))), none⟩, ⟨(some s116), (.quiet false (qEqv true (.one .bool) (.t s112) (.t s115))), none⟩])
 (.cond (.t s116) (.seq (.ops [⟨(some s6), (.quiet false (zA3 (.c bF))), none⟩])
 .ret) .skip))
def c3q5 : zAz :=
 (.ops [⟨(some s117), (.quiet false (zA3 (.t s17))), none⟩, ⟨(some s118), (.quiet false (zAN .eql (.t s117) (.c (vi 0)))), none⟩])
def c3q6 : zAz :=
 (.seq (.ops [⟨(some s119), (.quiet false (zA3 (.t s10))), none⟩, ⟨(some s120), (.quiet true (zCw (.t s119))), none⟩, ⟨(some s121), (.quiet false (zAN .eql (.t s120) (.c (vi 0)))), none⟩, ⟨(some s122), (.quiet false (zA3 (.t s121))), none⟩, ⟨(some s123), (.quiet false (zA3 (.t s8))), (some (s122, true))⟩, ⟨(some s124), (.quiet false (zAd (.t s123))), (some (s122, true))⟩, ⟨(some s125), (.quiet false (zDi 18 (.t s124))), (some (s122, true))⟩, ⟨(some s126), (.quiet true (zB0 (.t s125))), (some (s122, true))⟩, ⟨(some s127), (.quiet false (zBP (.t s126))), (some (s122, true))⟩, ⟨(some s128), (.quiet false (zAN .eql (.t s127) (.c (vi 0)))), (some (s122, true))⟩, ⟨(some s129), (.quiet false (zC6 (.t s122) (.t s128) (.c bF))), none⟩, ⟨(some s130), (.quiet false (zA3 (.t s129))), none⟩, ⟨(some s131), (.quiet false (zDi 1 (.t s15))), (some (s130, true))⟩, ⟨(some s132), (.quiet true (zB0 (.t s131))), (some (s130, true))⟩, ⟨(some s133), (.quiet false (zAN .eql (.t s132) (.c (vh 0)))), (some (s130, true))⟩, ⟨(some s134), (.quiet false (zC6 (.t s130) (.t s133) (.c bF))), none⟩, ⟨(some s135), (.quiet false (zA3 (.t s134))), none⟩, ⟨(some s136), (.quiet false (zDi 3 (.t s15))), (some (s135, true))⟩, ⟨(some s137), (.quiet true (zB0 (.t s136))), (some (s135, true))⟩, ⟨(some s138), (.quiet false (zAN .rem (.t s137) (.c (vq 64)))), (some (s135, true))⟩, ⟨(some s139), (.quiet false (zAN .eql (.t s138) (.c (vq 0)))), (some (s135, true))⟩, ⟨(some s140), (.quiet false (zC6 (.t s135) (.t s139) (.c bF))), none⟩])
 (.cond (.t s140) (.seq (.ops [⟨(some s141), (.quiet false (zDi 3 (.t s15))), none⟩, ⟨(some s142), (.quiet true (zB0 (.t s141))), none⟩, ⟨(some s143), (.quiet false (zBj .i64 (.t s142))), none⟩, ⟨(some s144), (.quiet false (zAN .quo (.t s143) (.c (vi 64)))), none⟩, ⟨(some s18), (.quiet false (zA3 (.t s144))), none⟩])
 (.seq (.draw (.calm ⟨(some s145), (.quiet false (zA3 (.t s12))), none⟩ (.calm ⟨(some s146), (.quiet false (zA3 (.t s8))), none⟩ (.calm ⟨(some s147), (.quiet false (zAd (.t s146))), none⟩ (.calm ⟨(some s148), (.quiet false (zDi 2 (.t s147))), none⟩ (.calm ⟨(some s149), (.quiet false (zA3 (.t s18))), none⟩ (.calm ⟨(some s150), (.quiet false (zA3 (.t s18))), none⟩ (.calm ⟨(some s151), (.quiet false (zDi 4 (.t s15))), none⟩ (.calm ⟨(some s152), (.quiet true (zB0 (.t s151))), none⟩ (.calm ⟨(some s153), (.quiet false (zBj .i64 (.t s152))), none⟩ (.calm ⟨(some s154), (.quiet false (zAN .quo (.t s153) (.c (vi 64)))), none⟩ (.calm ⟨(some s155), (.quiet false (zAN .add (.t s150) (.t s154))), none⟩ (.calm ⟨(some s156), (.quiet true (zIW 16 1 (.t s148) (some (.t s149)) (some (.t s155)) none)), none⟩ (.last ⟨⟨(some s157), (.call (.c (.func (.func 14) [] [])) [(.t s156), (.c (V.str []))]), none⟩, []⟩ (.calm ⟨(some s158), (.alloc (zF3 1 1 [(V.str [])] [(0, (1, (.t s157)))])), none⟩ .fin)))))))))))))) [⟨(some s159), (.loud (zE2 1 16 (.t s145) (.t s158))), none⟩, ⟨(some s12), (.quiet false (zA3 (.t s159))), none⟩])
 (.ops [⟨(some s160), (.quiet false (zA3 (.t s11))), none⟩, ⟨(some s161), (.quiet false (zA3 (.t s16))), none⟩, ⟨(some s162), (.quiet false (zA3 (.t s12))), none⟩, ⟨(some s163), (.quiet false (zBP (.t s162))), none⟩, ⟨none, (.loud (zB3 (.one .int) (.t s160) (.t s161) (.t s163))), none⟩]))) .skip))
def c3q61 : zAz :=
 (.ops [⟨(some s164), (.quiet false (zA3 (.t s10))), none⟩, ⟨(some s165), (.quiet false (zA3 (.t s16))), none⟩, ⟨(some s166), (.quiet true (zDC 6 (.t s15))), none⟩, ⟨none, (.loud (zB3 (.one .int) (.t s164) (.t s165) (.t s166))), none⟩])
def c3q62 : zAz :=
 (.ops [⟨(some s167), (.quiet false (zA3 (.t s13))), none⟩, ⟨(some s168), (.quiet false (zAN .add (.t s167) (.c (vi 1)))), none⟩, ⟨(some s13), (.quiet false (zA3 (.t s168))), none⟩])
def c3q63 : zAz :=
 (.ops [⟨(some s169), (.quiet false (zA3 (.t s7))), none⟩, ⟨(some s170), (.quiet false (zA3 (.t s8))), none⟩, ⟨(some s171), (.quiet false (zA3 (.t s7))), none⟩, ⟨(some s172), (.call (.c (.func (.func 9) [] [])) [(.t s171)]), none⟩, ⟨(some s173), (.call (.c (.func (.func 8) [] [])) [(.t s170), (.t s172)]), none⟩, ⟨(some s174), (.call (.c (.func (.func 7) [] [])) [(.t s169), (.t s173)]), none⟩])
def c3q64 : zAz :=
 (.seq (.ops [⟨(some s175), (.quiet false (zA3 (.t s10))), none⟩, ⟨(some s176), (.quiet true (zCw (.t s175))), none⟩, ⟨(some s177), (.quiet false (zAN .gtr (.t s176) (.c (vi 1)))), none⟩])
 (.cond (.t s177) (.ops [⟨(some s178), (.alloc aMkm), none⟩, ⟨(some s11), (.quiet false (zA3 (.t s178))), none⟩]) .skip))
def c3q7 : zAz :=
 (.ops [⟨(some s179), (.quiet false (zA3 (.t s14))), none⟩, ⟨(some s19), (.quiet false (zA3 (.t s179))), none⟩])
def c3q8 : zAz :=
 (.seq (.ops [⟨(some s180), (.quiet false (zA3 (.t s14))), none⟩, ⟨(some s181), (.quiet false (zA3 (.t s2))), none⟩, ⟨(some s182), (.quiet false (zBP (.t s181))), none⟩, ⟨(some s183), (.quiet false (zAN .lss (.t s180) (.t s182))), none⟩])
 (.cond (.t s183) (.ops [⟨(some s184), (.quiet false (zA3 (.t s2))), none⟩, ⟨(some s185), (.quiet false (zA3 (.t s14))), none⟩, ⟨(some s186), (.quiet false (zAU 1 (.t s184) (.t s185))), none⟩, ⟨(some s187), (.quiet true (zB0 (.t s186))), none⟩, ⟨(some s188), (.quiet false (zBj .i64 (.t s187))), none⟩, ⟨(some s19), (.quiet false (zA3 (.t s188))), none⟩]) .skip))
def c3q9 : zAz :=
 (.ops [⟨(some s189), (.quiet false (zA3 (.t s14))), none⟩, ⟨(some s190), (.quiet false (zA3 (.t s2))), none⟩, ⟨(some s191), (.quiet false (zBP (.t s190))), none⟩, ⟨(some s192), (.quiet false (zAN .geq (.t s189) (.t s191))), none⟩, ⟨(some s193), (.quiet false (zA3 (.t s192))), none⟩, ⟨(some s194), (.quiet false (zA3 (.t s2))), (some (s193, false))⟩, ⟨(some s195), (.quiet false (zA3 (.t s14))), (some (s193, false))⟩, ⟨(some s196), (.quiet false (zAU 1 (.t s194) (.t s195))), (some (s193, false))⟩, ⟨(some s197), (.quiet true (zB0 (.t s196))), (some (s193, false))⟩, ⟨(some s198), (.quiet false (zAN .rem (.t s197) (.c (vy 3)))), (some (s193, false))⟩, ⟨(some s199), (.quiet false (zAN .neq (.t s198) (.c (vy 0)))), (some (s193, false))⟩, ⟨(some s200), (.quiet false (zC6 (.t s193) (.c bT) (.t s199))), none⟩])
def c3q9b : zAz :=
 (.ops [⟨(some s201), (.quiet false (zA3 (.t s7))), none⟩, ⟨(some s202), (.quiet false (zA3 (.t s8))), none⟩, ⟨(some s203), (.quiet false (zA3 (.t s19))), none⟩, ⟨(some s204), (.call (.c (.func (.func 15) [] [])) [(.t s202), (.t s203)]), none⟩, ⟨(some s205), (.call (.c (.func (.func 7) [] [])) [(.t s201), (.t s204)]), none⟩])
def c3q10 : zAz :=
 (.ops [⟨(some s206), (.quiet false (zA3 (.t s7))), none⟩, ⟨(some s207), (.call (.c (.func (.func 16) [] [])) [(.t s206)]), none⟩, ⟨(some s20), (.quiet false (zA3 (.t s207))), none⟩])
def c3q11 : zAz :=
 (.ops [⟨(some s21), (.quiet false (zA3 (.c (vi 0)))), none⟩])
def c3q12 : zAz :=
 (.seq (.ops [⟨(some s265), (.quiet false (zA3 (.t s7))), none⟩, ⟨(some s266), (.call (.c (.func (.func 18) [] [])) [(.t s265)]), none⟩, ⟨(some s267), (.quiet false (zA3 (.t s10))), none⟩, ⟨(some s268), (.quiet true (zCw (.t s267))), none⟩, ⟨(some s269), (.quiet false (zAN .neq (.t s266) (.t s268))), none⟩, ⟨(some s270), (.quiet false (zA3 (.t s269))), none⟩, ⟨(some s271), (.quiet false (zA3 (.t s7))), (some (s270, false))⟩, ⟨(some s272), (.call (.c (.func (.func 19) [] [])) [(.t s271)]), (some (s270, false))⟩, ⟨(some s273), (.quiet false (zC6 (.t s270) (.c bT) (.t s272))), none⟩])
 (.cond (.t s273) (.seq (.ops [⟨(some s6), (.quiet false (zA3 (.c bF))), none⟩])
 .ret) .skip))
def c3p6a : zAz :=
 (.ops [⟨(some s9), (.quiet false (zA3 (.c (vi 0)))), none⟩])
def c3p12a : zAz :=
 (.ops [⟨(some s14), (.quiet false (zA3 (.c (vi 0)))), none⟩])
def c3pre : List zAz := [c3p3, c3p4, c3p5, .seq c3p6a (.block 0 (.loop c3l0)), c3p7, c3p8, c3p9, c3p10, c3p11]
theorem c3l2_eq : c3l2 = .seq c3q0 (.seq (.block 3 (.seq (.seq c3q1 (.cond (.t s99) (.seq c3q2 (.seq c3q3 (.seq c3q4 (.seq c3q5 (.cond (.t s118) (.seq c3q6 (.seq c3q61 (.seq c3q62 (.seq c3q63 c3q64)))) .skip))))) .skip)) (.seq c3q7 (.seq c3q8 (.seq (.seq c3q9 (.cond (.t s200) c3q9b .skip)) (.seq c3q10 (.seq (.seq c3q11 (.block 4 (.loop c3l1))) c3q12))))))) c3q13) := rfl
def tail3 : zAz := .seq (.seq c3p12a (.block 2 (.loop c3l2))) (.seq c3p13 (.seq c3p14 (.seq c3p15 .ret)))
theorem c3_eq : c3 = ⟨294, [(.tmp s6)], .seq c3p0 (.seq c3p1 (.seq c3p2 (seqAll c3pre tail3)))⟩ := rfl
abbrev zAB (sa so tv : V) (ak i : Nat) : List (Sl × V) := [(s1, sa), (s2, so), (s7, .ptr 2 0), (s8, .ptr 12 0), (s10, .map 17), (s11, .map 18), (s12, tv), (s13, vi ↑ak), (s14, vi ↑i)]
abbrev zBp (I Q L M A B C D E F G H W S P J N : zAe) (es : EnL) (co : Nat) (O U R : zAe) : Mem := y21 I Q L M A B C D E F G H W S P J N (oM es co false) O U R
abbrev w1a_Qa (sa so tv : V) (ak i : Nat) : List (Sl × V) := [(s1, sa), (s2, so), (s7, .ptr 2 0), (s8, .ptr 12 0), (s10, .map 17), (s11, .map 18), (s12, tv), (s13, vi ↑ak), (s14, vi ↑i), (s99, bF)]
abbrev w1b_Qa (sa so tv : V) (ak i : Nat) : List (Sl × V) := [(s1, sa), (s2, so), (s7, .ptr 2 0), (s8, .ptr 12 0), (s10, .map 17), (s11, .map 18), (s12, tv), (s13, vi ↑ak), (s14, vi ↑i), (s99, bT)]
section
variable (Y : Ys Prop) (LA : CF Prop) (hLA : zBi LA) (A B C D E F G H I J L M N O P Q R S U W : zAe) (sa so tv : V) (ak i : Nat) (es : EnL) (co : Nat) (hes : es.length ≤ 1000) (na : Nat) (hna : na ≤ 100) (hla : zBN sa = some (vi ↑na))
include Y LA hLA A B C D E F G H I J L M N O P Q R S U W sa so tv ak i es co hes na hna hla
theorem w0a (hi : i < 500) (hak : ak ≤ 100) (ha : ak < na) (T : zAa) (hT : zAG T (zAB sa so tv ak i)) (K : EK) (hK : hKt K .normal (zAB sa so tv ak i) (zBp I Q L M A B C D E F G H W S P J N es co O U R)) :
   code pA (zAt pA tb0 LA 5) Y c3q0 T (zBp I Q L M A B C D E F G H W S P J N es co O U R) K :=
  zAf (hLA) (zCa (zAB sa so tv ak i) (wt 2 (.fix s63 bT (wt 3 (.res (vi ↑na) (wt 1 (.fix s68 bT .nil)))))))
  (show (zBU T (zAB sa so tv ak i) (vb (ltI (↑i) 500) = bT ∧ zBN sa = some (vi ↑na) ∧ vb (ltI ↑ak ↑na) = bT ∧ rR Ex.normal ∧ rR (zBp I Q L M A B C D E F G H W S P J N es co O U R) ∧ zBY (zAB sa so tv ak i))) from
  zBW hT ⟨(cb (ltT rfl rfl (by omega))), hla, (cb (ltT rfl rfl (by omega))), rfl, rfl, (zBZ _)⟩)
  (by kernel_rfl) Y K hK
theorem w0b (hi : i < 500) (hak : ak ≤ 100) (ha : na ≤ ak) (he : 1 ≤ es.length) (T : zAa) (hT : zAG T (zAB sa so tv ak i)) (K : EK) (hK : hKt K .normal (zAB sa so tv ak i) (zBp I Q L M A B C D E F G H W S P J N es co O U R)) :
   code pA (zAt pA tb0 LA 5) Y c3q0 T (zBp I Q L M A B C D E F G H W S P J N es co O U R) K :=
  zAf (hLA) (zCa (zAB sa so tv ak i) (wt 2 (.fix s63 bT (wt 3 (.res (vi ↑na) (wt 1 (.fix s68 bF (wt 4 (.fix s72 bT .nil)))))))))
  (show (zBU T (zAB sa so tv ak i) (vb (ltI (↑i) 500) = bT ∧ zBN sa = some (vi ↑na) ∧ vb (ltI ↑ak ↑na) = bF ∧ vb (ltI 0 ↑es.length) = bT ∧ rR Ex.normal ∧ rR (zBp I Q L M A B C D E F G H W S P J N es co O U R) ∧ zBY (zAB sa so tv ak i))) from
  zBW hT ⟨(cb (ltT rfl rfl (by omega))), hla, (cb (ltF rfl rfl (by omega))), (cb (ltT rfl rfl (by omega))), rfl, rfl, (zBZ _)⟩)
  (by kernel_rfl) Y K hK
theorem w0c (hi : i < 500) (hak : ak ≤ 100) (ha : na ≤ ak) (he : es.length = 0) (T : zAa) (hT : zAG T (zAB sa so tv ak i)) (K : EK) (hK : hKt K (.exit 2) (zAB sa so tv ak i) (zBp I Q L M A B C D E F G H W S P J N es co O U R)) :
   code pA (zAt pA tb0 LA 5) Y c3q0 T (zBp I Q L M A B C D E F G H W S P J N es co O U R) K :=
  zAf (hLA) (zCa (zAB sa so tv ak i) (wt 2 (.fix s63 bT (wt 3 (.res (vi ↑na) (wt 1 (.fix s68 bF (wt 3 (.fix s71 (vi ↑0) .nil)))))))))
  (show (zBU T (zAB sa so tv ak i) (vb (ltI (↑i) 500) = bT ∧ zBN sa = some (vi ↑na) ∧ vb (ltI ↑ak ↑na) = bF ∧ vi ↑es.length = vi ↑0 ∧ rR (Ex.exit 2) ∧ rR (zBp I Q L M A B C D E F G H W S P J N es co O U R) ∧ zBY (zAB sa so tv ak i))) from
  zBW hT ⟨(cb (ltT rfl rfl (by omega))), hla, (cb (ltF rfl rfl (by omega))), (ci (zBc he)), rfl, rfl, (zBZ _)⟩)
  (by kernel_rfl) Y K hK
theorem w1a (hi : i < 500) (hak : ak ≤ 100) (ha : na ≤ ak) (T : zAa) (hT : zAG T (zAB sa so tv ak i)) (K : EK) (hK : hKt K .normal (w1a_Qa sa so tv ak i) (zBp I Q L M A B C D E F G H W S P J N es co O U R)) :
   code pA (zAt pA tb0 LA 5) Y c3q1 T (zBp I Q L M A B C D E F G H W S P J N es co O U R) K :=
  zAf (hLA) (zCa (zAB sa so tv ak i) (wt 2 (.res (vi ↑na) (wt 1 (.fix s80 bF .nil)))))
  (show (zBU T (zAB sa so tv ak i) (zBN sa = some (vi ↑na) ∧ vb (ltI ↑ak ↑na) = bF ∧ rR Ex.normal ∧ rR (zBp I Q L M A B C D E F G H W S P J N es co O U R) ∧ zBY (w1a_Qa sa so tv ak i))) from
  zBW hT ⟨hla, (cb (ltF rfl rfl (by omega))), rfl, rfl, (zBZ _)⟩)
  (by kernel_rfl) Y K hK
theorem w1b (no : Nat) (hno : no ≤ 100) (hlo : zBN so = some (vi ↑no)) (hi : i < 500) (hak : ak ≤ 100) (ha : ak < na) (ho : no ≤ i) (T : zAa) (hT : zAG T (zAB sa so tv ak i)) (K : EK) (hK : hKt K .normal (w1b_Qa sa so tv ak i) (zBp I Q L M A B C D E F G H W S P J N es co O U R)) :
   code pA (zAt pA tb0 LA 5) Y c3q1 T (zBp I Q L M A B C D E F G H W S P J N es co O U R) K :=
  zAf (hLA) (zCa (zAB sa so tv ak i) (wt 2 (.res (vi ↑na) (wt 1 (.fix s80 bT (wt 3 (.res (vi ↑no) (wt 1 (.fix s85 bT .nil)))))))))
  (show (zBU T (zAB sa so tv ak i) (zBN sa = some (vi ↑na) ∧ vb (ltI ↑ak ↑na) = bT ∧ zBN so = some (vi ↑no) ∧ vb (nB (ltI ↑i ↑no)) = bT ∧ rR Ex.normal ∧ rR (zBp I Q L M A B C D E F G H W S P J N es co O U R) ∧ zBY (w1b_Qa sa so tv ak i))) from
  zBW hT ⟨hla, (cb (ltT rfl rfl (by omega))), hlo, (cb (nn (ltF rfl rfl (by omega)))), rfl, rfl, (zBZ _)⟩)
  (by kernel_rfl) Y K hK
end
abbrev zFr (sa tv : V) (ak i no kk : Nat) : List (Sl × V) := [(s1, sa), (s2, .slice 1 0 no kk 1), (s7, .ptr 2 0), (s8, .ptr 12 0), (s10, .map 17), (s11, .map 18), (s12, tv), (s13, vi ↑ak), (s14, vi ↑i)]
abbrev w1c_Qb (sa tv : V) (ak i no kk : Nat) : List (Sl × V) := [(s1, sa), (s2, .slice 1 0 no kk 1), (s7, .ptr 2 0), (s8, .ptr 12 0), (s10, .map 17), (s11, .map 18), (s12, tv), (s13, vi ↑ak), (s14, vi ↑i), (s99, bT)]
abbrev fGW3 (I : zAe) (YO : List V) (L M A B C D E F G H W S P J N : zAe) (es : EnL) (co : Nat) (O U R : zAe) : Mem := y21 I (oC YO true) L M A B C D E F G H W S P J N (oM es co false) O U R
abbrev w1e_Qa (sa tv : V) (ak i no kk : Nat) : List (Sl × V) := [(s1, sa), (s2, .slice 1 0 no kk 1), (s7, .ptr 2 0), (s8, .ptr 12 0), (s10, .map 17), (s11, .map 18), (s12, tv), (s13, vi ↑ak), (s14, vi ↑i), (s99, bF)]
section
variable (Y : Ys Prop) (LA : CF Prop) (hLA : zBi LA) (A B C D E F G H I J L M N O P R S U W : zAe) (sa tv : V) (ak i : Nat) (es : EnL) (co : Nat) (hes : es.length ≤ 1000) (na : Nat) (hna : na ≤ 100) (hla : zBN sa = some (vi ↑na)) (hi : i < 500) (hak : ak ≤ 100) (ha : ak < na) (no kk bb : Nat) (hno : no ≤ 100) (YO : List V) (ho : i < no) (hbb : bb < 256) (hy : nth YO i = some (vy ↑bb))
include Y LA hLA A B C D E F G H I J L M N O P R S U W sa tv ak i es co hes na hna hla hi hak ha no kk bb hno YO ho hbb hy
theorem w1c (h2 : bb % 2 = 0) (T : zAa) (hT : zAG T (zFr sa tv ak i no kk)) (K : EK) (hK : hKt K .normal (w1c_Qb sa tv ak i no kk) (fGW3 I YO L M A B C D E F G H W S P J N es co O U R)) :
   code pA (zAt pA tb0 LA 5) Y c3q1 T (fGW3 I YO L M A B C D E F G H W S P J N es co O U R) K :=
  zAf (hLA) (zCa (zFr sa tv ak i no kk) (wt 2 (.res (vi ↑na) (wt 1 (.fix s80 bT (wt 5 (.fix s85 bF (wt 3 (.res (V.ptr 1 i) (.res (vy ↑bb) (wt 1 (.fix s91 (vy ↑(bb % 2)) (wt 1 (.fix s92 bT .nil))))))))))))))
  (show (zBU T (zFr sa tv ak i no kk) (zBN sa = some (vi ↑na) ∧ vb (ltI ↑ak ↑na) = bT ∧ vb (nB (ltI ↑i ↑no)) = bF ∧ zBh 1 (V.slice 1 0 no kk 1) (vi ↑i) = some (V.ptr 1 i) ∧ nth (YO) (i) = some (vy ↑bb) ∧ vy (Int.tmod (↑bb) 2) = vy ↑(bb % 2) ∧ vb (eqI (↑(bb % 2)) 0) = bT ∧ rR Ex.normal ∧ rR (fGW3 I YO L M A B C D E F G H W S P J N es co O U R) ∧ zBY (w1c_Qb sa tv ak i no kk))) from
  zBW hT ⟨hla, (cb (ltT rfl rfl (by omega))), (cb (nn (ltT rfl rfl (by omega)))), (zBm (i := i) rfl (by omega)), hy, (cy (zBe (a := bb) (b := 2) rfl rfl)), (cb (eqT (zBc h2) rfl (by omega))), rfl, rfl, (zBZ _)⟩)
  (by kernel_rfl) Y K hK
theorem w1d (h2 : bb % 2 = 1) (he : es.length = 0) (T : zAa) (hT : zAG T (zFr sa tv ak i no kk)) (K : EK) (hK : hKt K .normal (w1c_Qb sa tv ak i no kk) (fGW3 I YO L M A B C D E F G H W S P J N es co O U R)) :
   code pA (zAt pA tb0 LA 5) Y c3q1 T (fGW3 I YO L M A B C D E F G H W S P J N es co O U R) K :=
  zAf (hLA) (zCa (zFr sa tv ak i no kk) (wt 2 (.res (vi ↑na) (wt 1 (.fix s80 bT (wt 5 (.fix s85 bF (wt 3 (.res (V.ptr 1 i) (.res (vy ↑bb) (wt 1 (.fix s91 (vy ↑(bb % 2)) (wt 1 (.fix s92 bF (wt 4 (.fix s96 (vi ↑0) .nil))))))))))))))))
  (show (zBU T (zFr sa tv ak i no kk) (zBN sa = some (vi ↑na) ∧ vb (ltI ↑ak ↑na) = bT ∧ vb (nB (ltI ↑i ↑no)) = bF ∧ zBh 1 (V.slice 1 0 no kk 1) (vi ↑i) = some (V.ptr 1 i) ∧ nth (YO) (i) = some (vy ↑bb) ∧ vy (Int.tmod (↑bb) 2) = vy ↑(bb % 2) ∧ vb (eqI (↑(bb % 2)) 0) = bF ∧ vi ↑es.length = vi ↑0 ∧ rR Ex.normal ∧ rR (fGW3 I YO L M A B C D E F G H W S P J N es co O U R) ∧ zBY (w1c_Qb sa tv ak i no kk))) from
  zBW hT ⟨hla, (cb (ltT rfl rfl (by omega))), (cb (nn (ltT rfl rfl (by omega)))), (zBm (i := i) rfl (by omega)), hy, (cy (zBe (a := bb) (b := 2) rfl rfl)), (cb (eqF (zBc h2) rfl (by omega))), (ci (zBc he)), rfl, rfl, (zBZ _)⟩)
  (by kernel_rfl) Y K hK
theorem w1e (h2 : bb % 2 = 1) (he : 1 ≤ es.length) (T : zAa) (hT : zAG T (zFr sa tv ak i no kk)) (K : EK) (hK : hKt K .normal (w1e_Qa sa tv ak i no kk) (fGW3 I YO L M A B C D E F G H W S P J N es co O U R)) :
   code pA (zAt pA tb0 LA 5) Y c3q1 T (fGW3 I YO L M A B C D E F G H W S P J N es co O U R) K :=
  zAf (hLA) (zCa (zFr sa tv ak i no kk) (wt 2 (.res (vi ↑na) (wt 1 (.fix s80 bT (wt 5 (.fix s85 bF (wt 3 (.res (V.ptr 1 i) (.res (vy ↑bb) (wt 1 (.fix s91 (vy ↑(bb % 2)) (wt 1 (.fix s92 bF (wt 5 (.fix s97 bF .nil))))))))))))))))
  (show (zBU T (zFr sa tv ak i no kk) (zBN sa = some (vi ↑na) ∧ vb (ltI ↑ak ↑na) = bT ∧ vb (nB (ltI ↑i ↑no)) = bF ∧ zBh 1 (V.slice 1 0 no kk 1) (vi ↑i) = some (V.ptr 1 i) ∧ nth (YO) (i) = some (vy ↑bb) ∧ vy (Int.tmod (↑bb) 2) = vy ↑(bb % 2) ∧ vb (eqI (↑(bb % 2)) 0) = bF ∧ vb (eqI (↑es.length) 0) = bF ∧ rR Ex.normal ∧ rR (fGW3 I YO L M A B C D E F G H W S P J N es co O U R) ∧ zBY (w1e_Qa sa tv ak i no kk))) from
  zBW hT ⟨hla, (cb (ltT rfl rfl (by omega))), (cb (nn (ltT rfl rfl (by omega)))), (zBm (i := i) rfl (by omega)), hy, (cy (zBe (a := bb) (b := 2) rfl rfl)), (cb (eqF (zBc h2) rfl (by omega))), (cb (eqF rfl rfl (by omega))), rfl, rfl, (zBZ _)⟩)
  (by kernel_rfl) Y K hK
end
abbrev w2_Qa (so tv : V) (ak i na ka : Nat) : List (Sl × V) := [(s1, .slice 0 0 na ka 1), (s2, so), (s7, .ptr 2 0), (s8, .ptr 12 0), (s10, .map 17), (s11, .map 18), (s12, tv), (s13, vi ↑ak), (s14, vi ↑i)]
abbrev w2_Qb (so tv : V) (ak i na ka : Nat) : List (Sl × V) := [(s1, .slice 0 0 na ka 1), (s2, so), (s7, .ptr 2 0), (s8, .ptr 12 0), (s10, .map 17), (s11, .map 18), (s12, tv), (s13, vi ↑ak), (s14, vi ↑i), (s15, .ptr 21 0)]
abbrev zIh (t fo ln : Nat) (dd : List Nat) : List V := [vh 0, vh ↑t, vq 0, vq ↑fo, vw ↑ln, V.str dd]
abbrev zEK (t fo ln : Nat) (dd : List Nat) : zAe := oC (zIh t fo ln dd) false
abbrev zIp (sa so tv : V) (ak i : Nat) : List (Sl × V) := [(s1, sa), (s2, so), (s7, .ptr 2 0), (s8, .ptr 12 0), (s10, .map 17), (s11, .map 18), (s12, tv), (s13, vi ↑ak), (s14, vi ↑i), (s15, .ptr 21 0)]
abbrev zBt (sa so tv : V) (ak i ck : Nat) : List (Sl × V) := [(s1, sa), (s2, so), (s7, .ptr 2 0), (s8, .ptr 12 0), (s10, .map 17), (s11, .map 18), (s12, tv), (s13, vi ↑ak), (s14, vi ↑i), (s15, .ptr 21 0), (s16, vq ↑ck), (s17, vi 0)]
abbrev zI8 (I Q L M A B C D E F G H W S P J N : zAe) (es : EnL) (co : Nat) (O U R : zAe) (t fo ln : Nat) (dd : List Nat) : Mem := y22 I Q L M A B C D E F G H W S P J N (oM es co false) O U R (zEK t fo ln dd)
abbrev zEV (sa so tv : V) (ak i : Nat) : List (Sl × V) := [(s1, sa), (s2, so), (s7, .ptr 2 0), (s8, .ptr 12 0), (s10, .map 17), (s11, .map 18), (s12, tv), (s13, vi ↑ak), (s14, vi ↑i), (s15, .ptr 21 0), (s16, vq ↑(0)), (s17, vi 6)]
section
variable (Y : Ys Prop) (LA : CF Prop) (hLA : zBi LA)
include Y LA hLA
theorem w2 (A B C D E F G H J L M N O P Q R S U W : zAe) (so tv : V) (ak i : Nat) (es : EnL) (co : Nat) (hes : es.length ≤ 1000) (t fo ln : Nat) (dd : List Nat) (ht : t < 65536) (hfo : fo ≤ 2000) (hln : ln ≤ 2000) (hi : i < 500) (hak : ak ≤ 100) (na ka nn : Nat) (hna : na ≤ 100) (YA : List V) (ha : ak < na) (hnn : nn < 65536) (hy : nth YA ak = some (vh ↑nn)) (hr : zAw LA (.func (.func 12) [] []) [vh ↑nn] (y21 (oC YA true) Q L M A B C D E F G H W S P J N (oM es co false) O U R) (V.agg (zIh t fo ln dd)) (y21 (oC YA true) Q L M A B C D E F G H W S P J N (oM es co false) O U R))  (T : zAa) (hT : zAG T (w2_Qa so tv ak i na ka)) (K : EK) (hK : hKt K .normal (w2_Qb so tv ak i na ka) (y22 (oC YA true) Q L M A B C D E F G H W S P J N (oM es co false) O U R (zEK t fo ln dd))) :
   code pA (zAt pA tb0 LA 5) Y c3q2 T (y21 (oC YA true) Q L M A B C D E F G H W S P J N (oM es co false) O U R) K :=
  zAf (hLA) (zCa (w2_Qa so tv ak i na ka) (wt 2 (.res (V.ptr 0 ak) (.res (vh ↑nn) (.cal (V.agg (zIh t fo ln dd)) (y21 (oC YA true) Q L M A B C D E F G H W S P J N (oM es co false) O U R) (y21 (oC YA true) Q L M A B C D E F G H W S P J N (oM es co false) O U R) .nil)))))
  (show (zBU T (w2_Qa so tv ak i na ka) (zBh 1 (V.slice 0 0 na ka 1) (vi ↑ak) = some (V.ptr 0 ak) ∧ nth (YA) (ak) = some (vh ↑nn) ∧ rR (y21 (oC YA true) Q L M A B C D E F G H W S P J N (oM es co false) O U R) ∧ zAw (LA) (.func (.func 12) [] []) ([vh ↑nn]) (y21 (oC YA true) Q L M A B C D E F G H W S P J N (oM es co false) O U R) (V.agg (zIh t fo ln dd)) (y21 (oC YA true) Q L M A B C D E F G H W S P J N (oM es co false) O U R) ∧ (rR Ex.normal ∧ rR (y22 (oC YA true) Q L M A B C D E F G H W S P J N (oM es co false) O U R (zEK t fo ln dd)) ∧ zBY (w2_Qb so tv ak i na ka)))) from
  zBW hT ⟨(zBm (i := ak) rfl (by omega)), hy, rfl, zFm (zAu (rfl) rfl) hr, ⟨rfl, rfl, (zBZ _)⟩⟩)
  (by kernel_rfl) Y K hK
theorem w3o (A B C D E F G H n1 I J L Z of2 M N O P Q R S U W : zAe) (sa so tv : V) (ak i : Nat) (es : EnL) (co : Nat) (hes : es.length ≤ 1000) (t fo ln : Nat) (dd : List Nat) (ht : t < 65536) (hfo : fo ≤ 2000) (hln : ln ≤ 2000) (ck : Nat) (hck : ck ≤ 1000) (hr : zAw LA (.func (.func 13) [] []) [.ptr 2 0, V.agg (zIh t fo ln dd)] (zI8 I Q L M A B C D E F G H W S P J N es co O U R t fo ln dd) (V.tuple [vq ↑ck, vi 0]) (y23 I Q Z of2 A B C D E F G H W S P J N (oM es co false) O U R (zEK t fo ln dd) n1))  (T : zAa) (hT : zAG T (zIp sa so tv ak i)) (K : EK) (hK : hKt K .normal (zBt sa so tv ak i ck) (y23 I Q Z of2 A B C D E F G H W S P J N (oM es co false) O U R (zEK t fo ln dd) n1)) :
   code pA (zAt pA tb0 LA 5) Y c3q3 T (zI8 I Q L M A B C D E F G H W S P J N es co O U R t fo ln dd) K :=
  zAf (hLA) (zCa (zIp sa so tv ak i) (wt 2 (.cal (V.tuple [vq ↑ck, vi 0]) (zI8 I Q L M A B C D E F G H W S P J N es co O U R t fo ln dd) (y23 I Q Z of2 A B C D E F G H W S P J N (oM es co false) O U R (zEK t fo ln dd) n1) .nil)))
  (show (zBU T (zIp sa so tv ak i) (rR (zI8 I Q L M A B C D E F G H W S P J N es co O U R t fo ln dd) ∧ zAw (LA) (.func (.func 13) [] []) ([V.ptr 2 0, V.agg (zIh t fo ln dd)]) (zI8 I Q L M A B C D E F G H W S P J N es co O U R t fo ln dd) (V.tuple [vq ↑ck, vi 0]) (y23 I Q Z of2 A B C D E F G H W S P J N (oM es co false) O U R (zEK t fo ln dd) n1) ∧ (rR Ex.normal ∧ rR (y23 I Q Z of2 A B C D E F G H W S P J N (oM es co false) O U R (zEK t fo ln dd) n1) ∧ zBY (zBt sa so tv ak i ck)))) from
  zBW hT ⟨rfl, zFm (zAu (rfl) (zAu (rfl) rfl)) hr, ⟨rfl, rfl, (zBZ _)⟩⟩)
  (by kernel_rfl) Y K hK
theorem w3f (A B C D E F G H I J L M N O P Q R S U W : zAe) (sa so tv : V) (ak i : Nat) (es : EnL) (co : Nat) (hes : es.length ≤ 1000) (t fo ln : Nat) (dd : List Nat) (ht : t < 65536) (hfo : fo ≤ 2000) (hln : ln ≤ 2000) (ck : Nat) (hck : ck ≤ 1000) (hr : zAw LA (.func (.func 13) [] []) [.ptr 2 0, V.agg (zIh t fo ln dd)] (zI8 I Q L M A B C D E F G H W S P J N es co O U R t fo ln dd) (V.tuple [vq ↑(0), vi 6]) (zI8 I Q L M A B C D E F G H W S P J N es co O U R t fo ln dd))  (T : zAa) (hT : zAG T (zIp sa so tv ak i)) (K : EK) (hK : hKt K .normal (zEV sa so tv ak i) (zI8 I Q L M A B C D E F G H W S P J N es co O U R t fo ln dd)) :
   code pA (zAt pA tb0 LA 5) Y c3q3 T (zI8 I Q L M A B C D E F G H W S P J N es co O U R t fo ln dd) K :=
  zAf (hLA) (zCa (zIp sa so tv ak i) (wt 2 (.cal (V.tuple [vq 0, vi 6]) (zI8 I Q L M A B C D E F G H W S P J N es co O U R t fo ln dd) (zI8 I Q L M A B C D E F G H W S P J N es co O U R t fo ln dd) .nil)))
  (show (zBU T (zIp sa so tv ak i) (rR (zI8 I Q L M A B C D E F G H W S P J N es co O U R t fo ln dd) ∧ zAw (LA) (.func (.func 13) [] []) ([V.ptr 2 0, V.agg (zIh t fo ln dd)]) (zI8 I Q L M A B C D E F G H W S P J N es co O U R t fo ln dd) (V.tuple [vq 0, vi 6]) (zI8 I Q L M A B C D E F G H W S P J N es co O U R t fo ln dd) ∧ (rR Ex.normal ∧ rR (zI8 I Q L M A B C D E F G H W S P J N es co O U R t fo ln dd) ∧ zBY (zEV sa so tv ak i)))) from
  zBW hT ⟨rfl, zFm (zAu (rfl) (zAu (rfl) rfl)) hr, ⟨rfl, rfl, (zBZ _)⟩⟩)
  (by kernel_rfl) Y K hK
end
abbrev w5o_Qa (sa so tv : V) (ak i ck : Nat) : List (Sl × V) := [(s1, sa), (s2, so), (s7, .ptr 2 0), (s8, .ptr 12 0), (s10, .map 17), (s11, .map 18), (s12, tv), (s13, vi ↑ak), (s14, vi ↑i), (s15, .ptr 21 0), (s16, vq ↑ck), (s17, vi 0), (s118, bT)]
abbrev w5f_Qa (sa so tv : V) (ak i : Nat) : List (Sl × V) := [(s1, sa), (s2, so), (s7, .ptr 2 0), (s8, .ptr 12 0), (s10, .map 17), (s11, .map 18), (s12, tv), (s13, vi ↑ak), (s14, vi ↑i), (s118, bF)]
section
variable (Y : Ys Prop) (LA : CF Prop) (hLA : zBi LA) (A B C D E F G H X I J L M N O P Q R S U W : zAe) (sa so tv : V) (ak i : Nat) (es : EnL) (co : Nat) (hes : es.length ≤ 1000)
include Y LA hLA A B C D E F G H X I J L M N O P Q R S U W sa so tv ak i es co hes
theorem w4o (ck : Nat) (he : es.length < 8) (T : zAa) (hT : zAG T (zBt sa so tv ak i ck)) (K : EK) (hK : hKt K .normal (zBt sa so tv ak i ck) (y22 I Q L M A B C D E F G H W S P J N (oM es co false) O U R X)) :
   code pA (zAt pA tb0 LA 5) Y c3q4 T (y22 I Q L M A B C D E F G H W S P J N (oM es co false) O U R X) K :=
  zAf (hLA) (zCa (zBt sa so tv ak i ck) (wt 5 (.fix s115 bT .nil)))
  (show (zBU T (zBt sa so tv ak i ck) (vb (ltI (↑es.length) 8) = bT ∧ rR Ex.normal ∧ rR (y22 I Q L M A B C D E F G H W S P J N (oM es co false) O U R X) ∧ zBY (zBt sa so tv ak i ck))) from
  zBW hT ⟨(cb (ltT rfl rfl (by omega))), rfl, rfl, (zBZ _)⟩)
  (by kernel_rfl) Y K hK
theorem w4f (he : 8 ≤ es.length) (T : zAa) (hT : zAG T (zEV sa so tv ak i)) (K : EK) (hK : hKt K .normal (zEV sa so tv ak i) (y22 I Q L M A B C D E F G H W S P J N (oM es co false) O U R X)) :
   code pA (zAt pA tb0 LA 5) Y c3q4 T (y22 I Q L M A B C D E F G H W S P J N (oM es co false) O U R X) K :=
  zAf (hLA) (zCa (zEV sa so tv ak i) (wt 5 (.fix s115 bF .nil)))
  (show (zBU T (zEV sa so tv ak i) (vb (ltI (↑es.length) 8) = bF ∧ rR Ex.normal ∧ rR (y22 I Q L M A B C D E F G H W S P J N (oM es co false) O U R X) ∧ zBY (zEV sa so tv ak i))) from
  zBW hT ⟨(cb (ltF rfl rfl (by omega))), rfl, rfl, (zBZ _)⟩)
  (by kernel_rfl) Y K hK
theorem w5o (ck : Nat) (T : zAa) (hT : zAG T (zBt sa so tv ak i ck)) (K : EK) (hK : hKt K .normal (w5o_Qa sa so tv ak i ck) (y22 I Q L M A B C D E F G H W S P J N (oM es co false) O U R X)) :
   code pA (zAt pA tb0 LA 5) Y c3q5 T (y22 I Q L M A B C D E F G H W S P J N (oM es co false) O U R X) K :=
  zAf (hLA) (zCa (zBt sa so tv ak i ck) .nil)
  (show (zBU T (zBt sa so tv ak i ck) (rR Ex.normal ∧ rR (y22 I Q L M A B C D E F G H W S P J N (oM es co false) O U R X) ∧ zBY (w5o_Qa sa so tv ak i ck))) from
  zBW hT ⟨rfl, rfl, (zBZ _)⟩)
  (by kernel_rfl) Y K hK
theorem w5f (T : zAa) (hT : zAG T (zEV sa so tv ak i)) (K : EK) (hK : hKt K .normal (w5f_Qa sa so tv ak i) (y22 I Q L M A B C D E F G H W S P J N (oM es co false) O U R X)) :
   code pA (zAt pA tb0 LA 5) Y c3q5 T (y22 I Q L M A B C D E F G H W S P J N (oM es co false) O U R X) K :=
  zAf (hLA) (zCa (zEV sa so tv ak i) .nil)
  (show (zBU T (zEV sa so tv ak i) (rR Ex.normal ∧ rR (y22 I Q L M A B C D E F G H W S P J N (oM es co false) O U R X) ∧ zBY (w5f_Qa sa so tv ak i))) from
  zBW hT ⟨rfl, rfl, (zBZ _)⟩)
  (by kernel_rfl) Y K hK
end
theorem w6n (Y : Ys Prop) (LA : CF Prop) (hLA : zBi LA) (A B C D E F G H I J L M N O P Q R S U W : zAe) (sa so tv : V) (ak i : Nat) (es : EnL) (co : Nat) (hes : es.length ≤ 1000) (t fo ln : Nat) (dd : List Nat) (ht : t < 65536) (hfo : fo ≤ 2000) (hln : ln ≤ 2000) (ck : Nat) (he : 1 ≤ es.length) (T : zAa) (hT : zAG T (zBt sa so tv ak i ck)) (K : EK) (hK : hKt K .normal (zBt sa so tv ak i ck) (zI8 I Q L M A B C D E F G H W S P J N es co O U R t fo ln dd)) :
   code pA (zAt pA tb0 LA 5) Y c3q6 T (zI8 I Q L M A B C D E F G H W S P J N es co O U R t fo ln dd) K :=
  zAf (hLA) (zCa (zBt sa so tv ak i ck) (wt 3 (.fix s121 bF .nil)))
  (show (zBU T (zBt sa so tv ak i ck) (vb (eqI (↑es.length) 0) = bF ∧ rR Ex.normal ∧ rR (zI8 I Q L M A B C D E F G H W S P J N es co O U R t fo ln dd) ∧ zBY (zBt sa so tv ak i ck))) from
  zBW hT ⟨(cb (eqF rfl rfl (by omega))), rfl, rfl, (zBZ _)⟩)
  (by kernel_rfl) Y K hK
section
variable (Y : Ys Prop) (LA : CF Prop) (hLA : zBi LA) (A B C D E F G H I J L M N O P Q R S U : zAe) (sa so tv : V) (ak i : Nat) (es : EnL) (co : Nat) (hes : es.length ≤ 1000) (t fo ln : Nat) (dd : List Nat) (ht : t < 65536) (hfo : fo ≤ 2000) (hln : ln ≤ 2000) (XL : List V) (hv : V) (hx : nth XL 18 = some hv) (hh : zBN hv = some (vi 0)) (ck : Nat) (he : es.length = 0)
include Y LA hLA A B C D E F G H I J L M N O P Q R S U sa so tv ak i es co hes t fo ln dd ht hfo hln XL hv hx hh ck he
theorem w6t (h1 : t ≠ 0) (T : zAa) (hT : zAG T (zBt sa so tv ak i ck)) (K : EK) (hK : hKt K .normal (zBt sa so tv ak i ck) (y22 I Q L M A B C D E F G H (oC XL false) S P J N (oM es co false) O U R (zEK t fo ln dd))) :
   code pA (zAt pA tb0 LA 5) Y c3q6 T (y22 I Q L M A B C D E F G H (oC XL false) S P J N (oM es co false) O U R (zEK t fo ln dd)) K :=
  zAf (hLA) (zCa (zBt sa so tv ak i ck) (wt 2 (.fix s120 (vi ↑0) (wt 5 (.res (hv) (.res (vi 0) (wt 6 (.fix s133 bF .nil))))))))
  (show (zBU T (zBt sa so tv ak i ck) (vi ↑es.length = vi ↑0 ∧ nth (XL) (18) = some (hv) ∧ zBN hv = some (vi 0) ∧ vb (eqI (↑t) 0) = bF ∧ rR Ex.normal ∧ rR (y22 I Q L M A B C D E F G H (oC XL false) S P J N (oM es co false) O U R (zEK t fo ln dd)) ∧ zBY (zBt sa so tv ak i ck))) from
  zBW hT ⟨(ci (zBc he)), hx, hh, (cb (eqF rfl rfl (by omega))), rfl, rfl, (zBZ _)⟩)
  (by kernel_rfl) Y K hK
theorem w6o (h1 : t = 0) (ho : fo = 1) (T : zAa) (hT : zAG T (zBt sa so tv ak i ck)) (K : EK) (hK : hKt K .normal (zBt sa so tv ak i ck) (y22 I Q L M A B C D E F G H (oC XL false) S P J N (oM es co false) O U R (zEK t fo ln dd))) :
   code pA (zAt pA tb0 LA 5) Y c3q6 T (y22 I Q L M A B C D E F G H (oC XL false) S P J N (oM es co false) O U R (zEK t fo ln dd)) K :=
  zAf (hLA) (zCa (zBt sa so tv ak i ck) (wt 2 (.fix s120 (vi ↑0) (wt 5 (.res (hv) (.res (vi 0) (wt 6 (.fix s133 bT (wt 5 (.fix s138 (vq ↑(fo % 64)) (wt 1 (.fix s139 bF .nil))))))))))))
  (show (zBU T (zBt sa so tv ak i ck) (vi ↑es.length = vi ↑0 ∧ nth (XL) (18) = some (hv) ∧ zBN hv = some (vi 0) ∧ vb (eqI (↑t) 0) = bT ∧ vq (Int.tmod (↑fo) 64) = vq ↑(fo % 64) ∧ vb (eqI (↑(fo % 64)) 0) = bF ∧ rR Ex.normal ∧ rR (y22 I Q L M A B C D E F G H (oC XL false) S P J N (oM es co false) O U R (zEK t fo ln dd)) ∧ zBY (zBt sa so tv ak i ck))) from
  zBW hT ⟨(ci (zBc he)), hx, hh, (cb (eqT rfl rfl (by omega))), (cq (zBe (a := fo) (b := 64) rfl rfl)), (cb (eqF (zBc (zAP rfl (by omega))) rfl (by omega))), rfl, rfl, (zBZ _)⟩)
  (by kernel_rfl) Y K hK
end
abbrev w6a_Qa (sa so : V) (ak i ck : Nat) : List (Sl × V) := [(s1, sa), (s2, so), (s7, .ptr 2 0), (s8, .ptr 12 0), (s10, .map 17), (s11, .map 18), (s12, .nilslice), (s13, vi ↑ak), (s14, vi ↑i), (s15, .ptr 21 0), (s16, vq ↑ck), (s17, vi 0)]
abbrev w6a_Qb (sa so : V) (ak i ck : Nat) : List (Sl × V) := [(s1, sa), (s2, so), (s7, .ptr 2 0), (s8, .ptr 12 0), (s10, .map 17), (s11, .map 18), (s12, .slice 23 0 1 1 1), (s13, vi ↑ak), (s14, vi ↑i), (s15, .ptr 21 0), (s16, vq ↑ck), (s17, vi 0)]
abbrev fGW6 (I Q L M A B C D E F G H : zAe) (XL : List V) (S P J N : zAe) (es : EnL) (co : Nat) (al : EnL) (ca : Nat) (R : zAe) (t fo ln : Nat) (dd : List Nat) : Mem := y22 I Q L M A B C D E F G H (oC XL false) S P J N (oM es co false) (oM al ca false) .dead R (zEK t fo ln dd)
abbrev w6b_Qa (sa so : V) (ak i ck nt : Nat) : List (Sl × V) := [(s1, sa), (s2, so), (s7, .ptr 2 0), (s8, .ptr 12 0), (s10, .map 17), (s11, .map 18), (s12, .slice 19 0 nt nt 1), (s13, vi ↑ak), (s14, vi ↑i), (s15, .ptr 21 0), (s16, vq ↑ck), (s17, vi 0)]
abbrev w6b_Qb (sa so : V) (ak i ck nt : Nat) : List (Sl × V) := [(s1, sa), (s2, so), (s7, .ptr 2 0), (s8, .ptr 12 0), (s10, .map 17), (s11, .map 18), (s12, .slice 23 0 (nt + 1) (nt + 1) 1), (s13, vi ↑ak), (s14, vi ↑i), (s15, .ptr 21 0), (s16, vq ↑ck), (s17, vi 0)]
abbrev fGW5 (I Q L M A B C D E F G H : zAe) (XL : List V) (S P J N : zAe) (es : EnL) (co : Nat) (al : EnL) (ca : Nat) (TL : List V) (R : zAe) (t fo ln : Nat) (dd : List Nat) : Mem := y22 I Q L M A B C D E F G H (oC XL false) S P J N (oM es co false) (oM al ca false) (oC TL false) R (zEK t fo ln dd)
section
variable (Y : Ys Prop) (LA : CF Prop) (hLA : zBi LA) (A B C D E F G H I J L M N P Q R S : zAe) (sa so : V) (ak i : Nat) (es : EnL) (co : Nat) (hes : es.length ≤ 1000) (t fo ln : Nat) (dd : List Nat) (ht : t < 65536) (hfo : fo ≤ 2000) (hln : ln ≤ 2000) (XL : List V) (hv : V) (hx : nth XL 18 = some hv) (hh : zBN hv = some (vi 0)) (ck kf kg nt ca : Nat) (w : List Nat) (al : EnL) (he : es.length = 0) (h1 : t = 0) (ho : fo = 64 * kf) (hl : ln = 64 * kg) (hg : 1 ≤ kg) (hg2 : kg ≤ 2) (hf : kf ≤ 14) (hnt : nt ≤ 100) (hck : ck ≤ 1000) (hal : zBC (.one .int) (vq ↑ck) al = some none) (hsl : slcAV 16 1 12 2 (fo / 64) (fo / 64 + ln / 64) 16 XL = some (.slice 12 (2 + kf * 1) kg (16 - kf) 1))
include Y LA hLA A B C D E F G H I J L M N P Q R S sa so ak i es co hes t fo ln dd ht hfo hln XL hv hx hh ck kf kg nt ca w al he h1 ho hl hg hg2 hf hnt hck hal hsl
theorem w6a (hn0 : nt = 0) (hj : zAw LA (.func (.func 14) [] []) [.slice 12 (2 + kf * 1) kg (16 - kf) 1, V.str []] (fGW6 I Q L M A B C D E F G H XL S P J N es co al ca R t fo ln dd) (V.str w) (fGW6 I Q L M A B C D E F G H XL S P J N es co al ca R t fo ln dd))  (T : zAa) (hT : zAG T (w6a_Qa sa so ak i ck)) (K : EK) (hK : hKt K .normal (w6a_Qb sa so ak i ck) (y24 I Q L M A B C D E F G H (oC XL false) S P J N (oM es co false) (oM (al ++ [(vq ↑ck, .int .i64 1, ca)]) (ca + 1) false) .dead R (zEK t fo ln dd) (oC [V.str w] false) (oC [V.str w] false))) :
   code pA (zAt pA tb0 LA 5) Y c3q6 T (fGW6 I Q L M A B C D E F G H XL S P J N es co al ca R t fo ln dd) K :=
  zAf (hLA) (zCa (w6a_Qa sa so ak i ck) (wt 2 (.fix s120 (vi ↑0) (wt 5 (.res (hv) (.res (vi 0) (wt 6 (.fix s133 bT (wt 5 (.fix s138 (vq ↑(fo % 64)) (wt 1 (.fix s139 bT (wt 5 (.fix s143 (vi ↑fo) (wt 1 (.fix s144 (vi ↑(fo / 64)) (wt 10 (.fix s153 (vi ↑ln) (wt 1 (.fix s154 (vi ↑(ln / 64)) (wt 1 (.fix s155 (vi ↑(fo / 64 + ln / 64)) (.res (V.slice 12 (2 + kf * 1) kg (16 - kf) 1) (.cal (V.str w) (fGW6 I Q L M A B C D E F G H XL S P J N es co al ca R t fo ln dd) (fGW6 I Q L M A B C D E F G H XL S P J N es co al ca R t fo ln dd) (wt 7 (.mset (KT.one SK.int) (Opd.t s160) (Opd.t s161) (Opd.t s163) 18 (al) (ca) (al ++ [(vq ↑ck, vi 1, ca)]) .nil))))))))))))))))))))))))))
  (show (zBU T (w6a_Qa sa so ak i ck) (vi ↑es.length = vi ↑0 ∧ nth (XL) (18) = some (hv) ∧ zBN hv = some (vi 0) ∧ vb (eqI (↑t) 0) = bT ∧ vq (Int.tmod (↑fo) 64) = vq ↑(fo % 64) ∧ vb (eqI (↑(fo % 64)) 0) = bT ∧ vi (wr IntKind.i64 ↑fo) = vi ↑fo ∧ vi (wr IntKind.i64 (Int.tdiv (↑fo) 64)) = vi ↑(fo / 64) ∧ vi (wr IntKind.i64 ↑ln) = vi ↑ln ∧ vi (wr IntKind.i64 (Int.tdiv (↑ln) 64)) = vi ↑(ln / 64) ∧ vi (wr IntKind.i64 (zCe ↑(fo / 64) ↑(ln / 64))) = vi ↑(fo / 64 + ln / 64) ∧ slcAV 16 1 12 2 (fo / 64) (fo / 64 + ln / 64) 16 XL = some (V.slice 12 (2 + kf * 1) kg (16 - kf) 1) ∧ rR (fGW6 I Q L M A B C D E F G H XL S P J N es co al ca R t fo ln dd) ∧ zAw (LA) (.func (.func 14) [] []) ([V.slice 12 (2 + kf * 1) kg (16 - kf) 1, V.str []]) (fGW6 I Q L M A B C D E F G H XL S P J N es co al ca R t fo ln dd) (V.str w) (fGW6 I Q L M A B C D E F G H XL S P J N es co al ca R t fo ln dd) ∧ (True ∧ rR (zB3 (KT.one SK.int) (Opd.t s160) (Opd.t s161) (Opd.t s163)) ∧ rR (V.map 18) ∧ rR (some (oM al ca false)) ∧ zBC (KT.one SK.int) (vq ↑ck) al = some none ∧ rR (al ++ [(vq ↑ck, vi 1, ca)]) ∧ (rR Ex.normal ∧ rR (y24 I Q L M A B C D E F G H (oC XL false) S P J N (oM es co false) (oM (al ++ [(vq ↑ck, vi 1, ca)]) (ca + 1) false) .dead R (zEK t fo ln dd) (oC [V.str w] false) (oC [V.str w] false)) ∧ zBY (w6a_Qb sa so ak i ck))))) from
  zBW hT ⟨(ci (zBc he)), hx, hh, (cb (eqT rfl rfl (by omega))), (cq (zBe (a := fo) (b := 64) rfl rfl)), (cb (eqT rfl rfl (by omega))), (ci (zAs rfl (by omega) (by omega))), (ci (zAs (zCn (a := fo) (b := 64) rfl rfl) (by omega) (by omega))), (ci (zAs rfl (by omega) (by omega))), (ci (zAs (zCn (a := ln) (b := 64) rfl rfl) (by omega) (by omega))), (ci (zAs (addN (a := fo / 64) (b := ln / 64) rfl rfl) (by omega) (by omega))), hsl, rfl, zFm (zAu (rfl) (zAu (rfl) rfl)) hj, ⟨trivial, rfl, rfl, rfl, hal, rfl, ⟨rfl, rfl, (zBZ _)⟩⟩⟩)
  (by kernel_rfl) Y K hK
theorem w6b (TL TL2 : List V) (hg3 : zBv 1 16 1 [V.str w] 0 nt nt TL = some TL2) (hj : zAw LA (.func (.func 14) [] []) [.slice 12 (2 + kf * 1) kg (16 - kf) 1, V.str []] (fGW5 I Q L M A B C D E F G H XL S P J N es co al ca TL R t fo ln dd) (V.str w) (fGW5 I Q L M A B C D E F G H XL S P J N es co al ca TL R t fo ln dd))  (T : zAa) (hT : zAG T (w6b_Qa sa so ak i ck nt)) (K : EK) (hK : hKt K .normal (w6b_Qb sa so ak i ck nt) (y24 I Q L M A B C D E F G H (oC XL false) S P J N (oM es co false) (oM (al ++ [(vq ↑ck, vi ↑(nt + 1), ca)]) (ca + 1) false) .dead R (zEK t fo ln dd) (oC [V.str w] false) (oC TL2 false))) :
   code pA (zAt pA tb0 LA 5) Y c3q6 T (fGW5 I Q L M A B C D E F G H XL S P J N es co al ca TL R t fo ln dd) K :=
  zAf (hLA) (zCa (w6b_Qa sa so ak i ck nt) (wt 2 (.fix s120 (vi ↑0) (wt 5 (.res (hv) (.res (vi 0) (wt 6 (.fix s133 bT (wt 5 (.fix s138 (vq ↑(fo % 64)) (wt 1 (.fix s139 bT (wt 5 (.fix s143 (vi ↑fo) (wt 1 (.fix s144 (vi ↑(fo / 64)) (wt 10 (.fix s153 (vi ↑ln) (wt 1 (.fix s154 (vi ↑(ln / 64)) (wt 1 (.fix s155 (vi ↑(fo / 64 + ln / 64)) (.res (V.slice 12 (2 + kf * 1) kg (16 - kf) 1) (.cal (V.str w) (fGW5 I Q L M A B C D E F G H XL S P J N es co al ca TL R t fo ln dd) (fGW5 I Q L M A B C D E F G H XL S P J N es co al ca TL R t fo ln dd) (wt 1 (.grow (Opd.t s145) (Opd.t s158) 1 16 19 (0) (nt) (nt) (TL) (1) ([V.str w]) (TL2) (wt 5 (.mset (KT.one SK.int) (Opd.t s160) (Opd.t s161) (Opd.t s163) 18 (al) (ca) (al ++ [(vq ↑ck, vi ↑(nt + 1), ca)]) .nil))))))))))))))))))))))))))))
  (show (zBU T (w6b_Qa sa so ak i ck nt) (vi ↑es.length = vi ↑0 ∧ nth (XL) (18) = some (hv) ∧ zBN hv = some (vi 0) ∧ vb (eqI (↑t) 0) = bT ∧ vq (Int.tmod (↑fo) 64) = vq ↑(fo % 64) ∧ vb (eqI (↑(fo % 64)) 0) = bT ∧ vi (wr IntKind.i64 ↑fo) = vi ↑fo ∧ vi (wr IntKind.i64 (Int.tdiv (↑fo) 64)) = vi ↑(fo / 64) ∧ vi (wr IntKind.i64 ↑ln) = vi ↑ln ∧ vi (wr IntKind.i64 (Int.tdiv (↑ln) 64)) = vi ↑(ln / 64) ∧ vi (wr IntKind.i64 (zCe ↑(fo / 64) ↑(ln / 64))) = vi ↑(fo / 64 + ln / 64) ∧ slcAV 16 1 12 2 (fo / 64) (fo / 64 + ln / 64) 16 XL = some (V.slice 12 (2 + kf * 1) kg (16 - kf) 1) ∧ rR (fGW5 I Q L M A B C D E F G H XL S P J N es co al ca TL R t fo ln dd) ∧ zAw (LA) (.func (.func 14) [] []) ([V.slice 12 (2 + kf * 1) kg (16 - kf) 1, V.str []]) (fGW5 I Q L M A B C D E F G H XL S P J N es co al ca TL R t fo ln dd) (V.str w) (fGW5 I Q L M A B C D E F G H XL S P J N es co al ca TL R t fo ln dd) ∧ (True ∧ rR (zE2 1 16 (Opd.t s145) (Opd.t s158)) ∧ rR (V.slice 19 0 nt nt 1) ∧ true = true ∧ rR (some (1)) ∧ rR (some ([V.str w])) ∧ rR (some (oC TL false)) ∧ zBv 1 16 1 [V.str w] 0 nt nt TL = some (TL2) ∧ (rR (zB3 (KT.one SK.int) (Opd.t s160) (Opd.t s161) (Opd.t s163)) ∧ rR (V.map 18) ∧ rR (some (oM al ca false)) ∧ zBC (KT.one SK.int) (vq ↑ck) al = some none ∧ rR (al ++ [(vq ↑ck, vi ↑(nt + 1), ca)]) ∧ (rR Ex.normal ∧ rR (y24 I Q L M A B C D E F G H (oC XL false) S P J N (oM es co false) (oM (al ++ [(vq ↑ck, vi ↑(nt + 1), ca)]) (ca + 1) false) .dead R (zEK t fo ln dd) (oC [V.str w] false) (oC TL2 false)) ∧ zBY (w6b_Qb sa so ak i ck nt)))))) from
  zBW hT ⟨(ci (zBc he)), hx, hh, (cb (eqT rfl rfl (by omega))), (cq (zBe (a := fo) (b := 64) rfl rfl)), (cb (eqT rfl rfl (by omega))), (ci (zAs rfl (by omega) (by omega))), (ci (zAs (zCn (a := fo) (b := 64) rfl rfl) (by omega) (by omega))), (ci (zAs rfl (by omega) (by omega))), (ci (zAs (zCn (a := ln) (b := 64) rfl rfl) (by omega) (by omega))), (ci (zAs (addN (a := fo / 64) (b := ln / 64) rfl rfl) (by omega) (by omega))), hsl, rfl, zFm (zAu (rfl) (zAu (rfl) rfl)) hj, ⟨trivial, rfl, rfl, rfl, rfl, rfl, rfl, hg3, ⟨rfl, rfl, rfl, hal, rfl, ⟨rfl, rfl, (zBZ _)⟩⟩⟩⟩)
  (by kernel_rfl) Y K hK
end
abbrev w61_Qa (sa so tv : V) (ak i ck : Nat) : List (Sl × V) := [(s1, sa), (s2, so), (s7, .ptr 2 0), (s8, .ptr 12 0), (s10, .map 17), (s11, .map 18), (s12, tv), (s13, vi ↑ak), (s14, vi ↑i), (s15, .ptr 21 0), (s16, vq ↑ck)]
abbrev w62_Qa (sa so tv : V) (ak i : Nat) : List (Sl × V) := [(s1, sa), (s2, so), (s7, .ptr 2 0), (s8, .ptr 12 0), (s10, .map 17), (s11, .map 18), (s12, tv), (s13, vi ↑(ak + 1)), (s14, vi ↑i)]
section
variable (Y : Ys Prop) (LA : CF Prop) (hLA : zBi LA)
include Y LA hLA
theorem w61 (A B C D E F G H I J L M N O P Q R S U W : zAe) (sa so tv : V) (ak i : Nat) (es : EnL) (co : Nat) (hes : es.length ≤ 1000) (t fo ln : Nat) (dd : List Nat) (ht : t < 65536) (hfo : fo ≤ 2000) (hln : ln ≤ 2000) (ck : Nat) (hck : ck ≤ 1000) (hk : zBC (.one .int) (vq ↑ck) es = some none) (T : zAa) (hT : zAG T (zBt sa so tv ak i ck)) (K : EK) (hK : hKt K .normal (w61_Qa sa so tv ak i ck) (y22 I Q L M A B C D E F G H W S P J N (oM (es ++ [(vq ↑ck, V.agg [.int .u16 0, vh ↑t, .int .u64 0, vq ↑fo, vw ↑ln, V.str dd], co)]) (co + 1) false) O U R (zEK t fo ln dd))) :
   code pA (zAt pA tb0 LA 5) Y c3q61 T (zI8 I Q L M A B C D E F G H W S P J N es co O U R t fo ln dd) K :=
  zAf (hLA) (zCa (zBt sa so tv ak i ck) (wt 3 (.mset (KT.one SK.int) (Opd.t s164) (Opd.t s165) (Opd.t s166) 17 (es) (co) (es ++ [(vq ↑ck, V.agg (zIh t fo ln dd), co)]) .nil)))
  (show (zBU T (zBt sa so tv ak i ck) (rR (zB3 (KT.one SK.int) (Opd.t s164) (Opd.t s165) (Opd.t s166)) ∧ rR (V.map 17) ∧ rR (some (oM es co false)) ∧ zBC (KT.one SK.int) (vq ↑ck) es = some none ∧ rR (es ++ [(vq ↑ck, V.agg (zIh t fo ln dd), co)]) ∧ (rR Ex.normal ∧ rR (y22 I Q L M A B C D E F G H W S P J N (oM (es ++ [(vq ↑ck, V.agg (zIh t fo ln dd), co)]) (co + 1) false) O U R (zEK t fo ln dd)) ∧ zBY (w61_Qa sa so tv ak i ck)))) from
  zBW hT ⟨rfl, rfl, rfl, hk, rfl, ⟨rfl, rfl, (zBZ _)⟩⟩)
  (by kernel_rfl) Y K hK
theorem w62 (A B C D E F G H X I J L M N O P Q R S U W : zAe) (sa so tv : V) (ak i : Nat) (es : EnL) (co : Nat) (hes : es.length ≤ 1000) (hak : ak ≤ 100) (T : zAa) (hT : zAG T (zAB sa so tv ak i)) (K : EK) (hK : hKt K .normal (w62_Qa sa so tv ak i) (y22 I Q L M A B C D E F G H W S P J N (oM es co false) O U R X)) :
   code pA (zAt pA tb0 LA 5) Y c3q62 T (y22 I Q L M A B C D E F G H W S P J N (oM es co false) O U R X) K :=
  zAf (hLA) (zCa (zAB sa so tv ak i) (wt 2 (.fix s168 (vi ↑(ak + 1)) .nil)))
  (show (zBU T (zAB sa so tv ak i) (vi (wr IntKind.i64 (zCe (↑ak) 1)) = vi ↑(ak + 1) ∧ rR Ex.normal ∧ rR (y22 I Q L M A B C D E F G H W S P J N (oM es co false) O U R X) ∧ zBY (w62_Qa sa so tv ak i))) from
  zBW hT ⟨(ci (zAs (addN (a := ak) (b := 1) rfl rfl) (by omega) (by omega))), rfl, rfl, (zBZ _)⟩)
  (by kernel_rfl) Y K hK
theorem w63g (A B C D E F G H b1 b2 b3 b4 b5 b6 b7 b8 X n1 n2 I J ob2 L Z oc3 of2 M N oh2 O P om2 Q R os2 S U W ox2 : zAe) (sa so tv : V) (ak i : Nat) (es : EnL) (co : Nat) (hes : es.length ≤ 1000) (bw w : List Nat) (hs : zAw LA (.func (.func 9) [] []) [.ptr 2 0] (y22 I Q L M A B C D E F G H W S P J N (oM es co false) O U R X) (V.str bw) (y22 I Q Z M A B C D E F G H W S P J N (oM es co false) O U R X)) (hh : zAw LA (.func (.func 8) [] []) [.ptr 12 0, V.str bw] (y22 I Q Z M A B C D E F G H W S P J N (oM es co false) O U R X) (V.str w) (y24 I Q Z M A B C D E F G H ox2 os2 om2 ob2 oh2 (oM es co false) O U R X n1 n2)) (hf : zAw LA (.func (.func 7) [] []) [.ptr 2 0, V.str w] (y24 I Q Z M A B C D E F G H ox2 os2 om2 ob2 oh2 (oM es co false) O U R X n1 n2) (V.tuple []) (y24 I Q oc3 of2 b1 b2 b3 b4 b5 b6 b7 b8 ox2 os2 om2 ob2 oh2 (oM es co false) O U R X n1 n2))  (T : zAa) (hT : zAG T (zAB sa so tv ak i)) (K : EK) (hK : hKt K .normal (zAB sa so tv ak i) (y24 I Q oc3 of2 b1 b2 b3 b4 b5 b6 b7 b8 ox2 os2 om2 ob2 oh2 (oM es co false) O U R X n1 n2)) :
   code pA (zAt pA tb0 LA 5) Y c3q63 T (y22 I Q L M A B C D E F G H W S P J N (oM es co false) O U R X) K :=
  zAf (hLA) (zCa (zAB sa so tv ak i) (wt 3 (.cal (V.str bw) (y22 I Q L M A B C D E F G H W S P J N (oM es co false) O U R X) (y22 I Q Z M A B C D E F G H W S P J N (oM es co false) O U R X) (.cal (V.str w) (y22 I Q Z M A B C D E F G H W S P J N (oM es co false) O U R X) (y24 I Q Z M A B C D E F G H ox2 os2 om2 ob2 oh2 (oM es co false) O U R X n1 n2) (.cal (V.tuple []) (y24 I Q Z M A B C D E F G H ox2 os2 om2 ob2 oh2 (oM es co false) O U R X n1 n2) (y24 I Q oc3 of2 b1 b2 b3 b4 b5 b6 b7 b8 ox2 os2 om2 ob2 oh2 (oM es co false) O U R X n1 n2) .nil)))))
  (show (zBU T (zAB sa so tv ak i) (rR (y22 I Q L M A B C D E F G H W S P J N (oM es co false) O U R X) ∧ zAw (LA) (.func (.func 9) [] []) ([V.ptr 2 0]) (y22 I Q L M A B C D E F G H W S P J N (oM es co false) O U R X) (V.str bw) (y22 I Q Z M A B C D E F G H W S P J N (oM es co false) O U R X) ∧ (rR (y22 I Q Z M A B C D E F G H W S P J N (oM es co false) O U R X) ∧ zAw (LA) (.func (.func 8) [] []) ([V.ptr 12 0, V.str bw]) (y22 I Q Z M A B C D E F G H W S P J N (oM es co false) O U R X) (V.str w) (y24 I Q Z M A B C D E F G H ox2 os2 om2 ob2 oh2 (oM es co false) O U R X n1 n2) ∧ (rR (y24 I Q Z M A B C D E F G H ox2 os2 om2 ob2 oh2 (oM es co false) O U R X n1 n2) ∧ zAw (LA) (.func (.func 7) [] []) ([V.ptr 2 0, V.str w]) (y24 I Q Z M A B C D E F G H ox2 os2 om2 ob2 oh2 (oM es co false) O U R X n1 n2) (V.tuple []) (y24 I Q oc3 of2 b1 b2 b3 b4 b5 b6 b7 b8 ox2 os2 om2 ob2 oh2 (oM es co false) O U R X n1 n2) ∧ (rR Ex.normal ∧ rR (y24 I Q oc3 of2 b1 b2 b3 b4 b5 b6 b7 b8 ox2 os2 om2 ob2 oh2 (oM es co false) O U R X n1 n2) ∧ zBY (zAB sa so tv ak i)))))) from
  zBW hT ⟨rfl, zFm (zAu (rfl) rfl) hs, ⟨rfl, zFm (zAu (rfl) (zAu (rfl) rfl)) hh, ⟨rfl, zFm (zAu (rfl) (zAu (rfl) rfl)) hf, ⟨rfl, rfl, (zBZ _)⟩⟩⟩⟩)
  (by kernel_rfl) Y K hK
theorem w63b (A B C D E F G H b1 b2 b3 b4 b5 b6 b7 b8 X n1 I J L Z oc3 of2 M N O P Q R S U W : zAe) (sa so tv : V) (ak i : Nat) (es : EnL) (co : Nat) (hes : es.length ≤ 1000) (bw w : List Nat) (hs : zAw LA (.func (.func 9) [] []) [.ptr 2 0] (y22 I Q L M A B C D E F G H W S P J N (oM es co false) O U R X) (V.str bw) (y22 I Q Z M A B C D E F G H W S P J N (oM es co false) O U R X)) (hh : zAw LA (.func (.func 8) [] []) [.ptr 12 0, V.str bw] (y22 I Q Z M A B C D E F G H W S P J N (oM es co false) O U R X) (V.str w) (y22 I Q Z M A B C D E F G H W S P J N (oM es co false) O U R X)) (hf : zAw LA (.func (.func 7) [] []) [.ptr 2 0, V.str w] (y22 I Q Z M A B C D E F G H W S P J N (oM es co false) O U R X) (V.tuple []) (y23 I Q oc3 of2 b1 b2 b3 b4 b5 b6 b7 b8 W S P J N (oM es co false) O U R X n1))  (T : zAa) (hT : zAG T (zAB sa so tv ak i)) (K : EK) (hK : hKt K .normal (zAB sa so tv ak i) (y23 I Q oc3 of2 b1 b2 b3 b4 b5 b6 b7 b8 W S P J N (oM es co false) O U R X n1)) :
   code pA (zAt pA tb0 LA 5) Y c3q63 T (y22 I Q L M A B C D E F G H W S P J N (oM es co false) O U R X) K :=
  zAf (hLA) (zCa (zAB sa so tv ak i) (wt 3 (.cal (V.str bw) (y22 I Q L M A B C D E F G H W S P J N (oM es co false) O U R X) (y22 I Q Z M A B C D E F G H W S P J N (oM es co false) O U R X) (.cal (V.str w) (y22 I Q Z M A B C D E F G H W S P J N (oM es co false) O U R X) (y22 I Q Z M A B C D E F G H W S P J N (oM es co false) O U R X) (.cal (V.tuple []) (y22 I Q Z M A B C D E F G H W S P J N (oM es co false) O U R X) (y23 I Q oc3 of2 b1 b2 b3 b4 b5 b6 b7 b8 W S P J N (oM es co false) O U R X n1) .nil)))))
  (show (zBU T (zAB sa so tv ak i) (rR (y22 I Q L M A B C D E F G H W S P J N (oM es co false) O U R X) ∧ zAw (LA) (.func (.func 9) [] []) ([V.ptr 2 0]) (y22 I Q L M A B C D E F G H W S P J N (oM es co false) O U R X) (V.str bw) (y22 I Q Z M A B C D E F G H W S P J N (oM es co false) O U R X) ∧ (rR (y22 I Q Z M A B C D E F G H W S P J N (oM es co false) O U R X) ∧ zAw (LA) (.func (.func 8) [] []) ([V.ptr 12 0, V.str bw]) (y22 I Q Z M A B C D E F G H W S P J N (oM es co false) O U R X) (V.str w) (y22 I Q Z M A B C D E F G H W S P J N (oM es co false) O U R X) ∧ (rR (y22 I Q Z M A B C D E F G H W S P J N (oM es co false) O U R X) ∧ zAw (LA) (.func (.func 7) [] []) ([V.ptr 2 0, V.str w]) (y22 I Q Z M A B C D E F G H W S P J N (oM es co false) O U R X) (V.tuple []) (y23 I Q oc3 of2 b1 b2 b3 b4 b5 b6 b7 b8 W S P J N (oM es co false) O U R X n1) ∧ (rR Ex.normal ∧ rR (y23 I Q oc3 of2 b1 b2 b3 b4 b5 b6 b7 b8 W S P J N (oM es co false) O U R X n1) ∧ zBY (zAB sa so tv ak i)))))) from
  zBW hT ⟨rfl, zFm (zAu (rfl) rfl) hs, ⟨rfl, zFm (zAu (rfl) (zAu (rfl) rfl)) hh, ⟨rfl, zFm (zAu (rfl) (zAu (rfl) rfl)) hf, ⟨rfl, rfl, (zBZ _)⟩⟩⟩⟩)
  (by kernel_rfl) Y K hK
end
abbrev w64y_Qa (sa so tv : V) (ak i : Nat) : List (Sl × V) := [(s1, sa), (s2, so), (s7, .ptr 2 0), (s8, .ptr 12 0), (s10, .map 17), (s11, .map 21), (s12, tv), (s13, vi ↑ak), (s14, vi ↑i)]
abbrev w7_Qa (sa so tv : V) (ak i : Nat) : List (Sl × V) := [(s1, sa), (s2, so), (s7, .ptr 2 0), (s8, .ptr 12 0), (s10, .map 17), (s11, .map 18), (s12, tv), (s13, vi ↑ak), (s14, vi ↑i), (s19, vi ↑i)]
section
variable (Y : Ys Prop) (LA : CF Prop) (hLA : zBi LA) (A B C D E F G H I J L M N O P Q R S U W : zAe) (sa so tv : V) (ak i : Nat) (es : EnL) (co : Nat) (hes : es.length ≤ 1000)
include Y LA hLA A B C D E F G H I J L M N O P Q R S U W sa so tv ak i es co hes
theorem w64y (he : 2 ≤ es.length) (T : zAa) (hT : zAG T (zAB sa so tv ak i)) (K : EK) (hK : hKt K .normal (w64y_Qa sa so tv ak i) (y22 I Q L M A B C D E F G H W S P J N (oM es co false) O U R (oM [] 0 false))) :
   code pA (zAt pA tb0 LA 5) Y c3q64 T (zBp I Q L M A B C D E F G H W S P J N es co O U R) K :=
  zAf (hLA) (zCa (zAB sa so tv ak i) (wt 3 (.fix s177 bT .nil)))
  (show (zBU T (zAB sa so tv ak i) (vb (ltI 1 ↑es.length) = bT ∧ rR Ex.normal ∧ rR (y22 I Q L M A B C D E F G H W S P J N (oM es co false) O U R (oM [] 0 false)) ∧ zBY (w64y_Qa sa so tv ak i))) from
  zBW hT ⟨cb (ltT rfl rfl (by omega)), rfl, rfl, (zBZ _)⟩)
  (by kernel_rfl) Y K hK
theorem w64n (he : es.length ≤ 1) (T : zAa) (hT : zAG T (zAB sa so tv ak i)) (K : EK) (hK : hKt K .normal (zAB sa so tv ak i) (zBp I Q L M A B C D E F G H W S P J N es co O U R)) :
   code pA (zAt pA tb0 LA 5) Y c3q64 T (zBp I Q L M A B C D E F G H W S P J N es co O U R) K :=
  zAf (hLA) (zCa (zAB sa so tv ak i) (wt 3 (.fix s177 bF .nil)))
  (show (zBU T (zAB sa so tv ak i) (vb (ltI 1 ↑es.length) = bF ∧ rR Ex.normal ∧ rR (zBp I Q L M A B C D E F G H W S P J N es co O U R) ∧ zBY (zAB sa so tv ak i))) from
  zBW hT ⟨cb (ltF rfl rfl (by omega)), rfl, rfl, (zBZ _)⟩)
  (by kernel_rfl) Y K hK
theorem w7 (hi : i < 500) (hak : ak ≤ 100)  (T : zAa) (hT : zAG T (zAB sa so tv ak i)) (K : EK) (hK : hKt K .normal (w7_Qa sa so tv ak i) (zBp I Q L M A B C D E F G H W S P J N es co O U R)) :
   code pA (zAt pA tb0 LA 5) Y c3q7 T (zBp I Q L M A B C D E F G H W S P J N es co O U R) K :=
  zAf (hLA) (zCa (zAB sa so tv ak i) .nil)
  (show (zBU T (zAB sa so tv ak i) (rR Ex.normal ∧ rR (zBp I Q L M A B C D E F G H W S P J N es co O U R) ∧ zBY (w7_Qa sa so tv ak i))) from
  zBW hT ⟨rfl, rfl, (zBZ _)⟩)
  (by kernel_rfl) Y K hK
theorem w8a (no : Nat) (hno : no ≤ 100) (hlo : zBN so = some (vi ↑no)) (hi : i < 500) (hak : ak ≤ 100) (ho : no ≤ i) (T : zAa) (hT : zAG T (w7_Qa sa so tv ak i)) (K : EK) (hK : hKt K .normal (w7_Qa sa so tv ak i) (zBp I Q L M A B C D E F G H W S P J N es co O U R)) :
   code pA (zAt pA tb0 LA 5) Y c3q8 T (zBp I Q L M A B C D E F G H W S P J N es co O U R) K :=
  zAf (hLA) (zCa (w7_Qa sa so tv ak i) (wt 2 (.res (vi ↑no) (wt 1 (.fix s183 bF .nil)))))
  (show (zBU T (w7_Qa sa so tv ak i) (zBN so = some (vi ↑no) ∧ vb (ltI ↑i ↑no) = bF ∧ rR Ex.normal ∧ rR (zBp I Q L M A B C D E F G H W S P J N es co O U R) ∧ zBY (w7_Qa sa so tv ak i))) from
  zBW hT ⟨hlo, cb (ltF rfl rfl (by omega)), rfl, rfl, (zBZ _)⟩)
  (by kernel_rfl) Y K hK
end
abbrev w8b_Qa (sa tv : V) (ak i no kk : Nat) : List (Sl × V) := [(s1, sa), (s2, .slice 1 0 no kk 1), (s7, .ptr 2 0), (s8, .ptr 12 0), (s10, .map 17), (s11, .map 18), (s12, tv), (s13, vi ↑ak), (s14, vi ↑i), (s19, vi ↑i)]
abbrev w8b_Qb (sa tv : V) (ak i no kk bb : Nat) : List (Sl × V) := [(s1, sa), (s2, .slice 1 0 no kk 1), (s7, .ptr 2 0), (s8, .ptr 12 0), (s10, .map 17), (s11, .map 18), (s12, tv), (s13, vi ↑ak), (s14, vi ↑i), (s19, vi ↑bb)]
abbrev zFq (sa so tv : V) (ak i nd : Nat) : List (Sl × V) := [(s1, sa), (s2, so), (s7, .ptr 2 0), (s8, .ptr 12 0), (s10, .map 17), (s11, .map 18), (s12, tv), (s13, vi ↑ak), (s14, vi ↑i), (s19, vi ↑nd)]
abbrev w9a_Qb (sa so tv : V) (ak i nd : Nat) : List (Sl × V) := [(s1, sa), (s2, so), (s7, .ptr 2 0), (s8, .ptr 12 0), (s10, .map 17), (s11, .map 18), (s12, tv), (s13, vi ↑ak), (s14, vi ↑i), (s19, vi ↑nd), (s200, bT)]
section
variable (Y : Ys Prop) (LA : CF Prop) (hLA : zBi LA)
include Y LA hLA
theorem w8b (A B C D E F G H I J L M N O P R S U W : zAe) (sa tv : V) (ak i : Nat) (es : EnL) (co : Nat) (hes : es.length ≤ 1000) (hi : i < 500) (hak : ak ≤ 100) (no kk bb : Nat) (hno : no ≤ 100) (YO : List V) (ho : i < no) (hbb : bb < 256) (hy : nth YO i = some (vy ↑bb))  (T : zAa) (hT : zAG T (w8b_Qa sa tv ak i no kk)) (K : EK) (hK : hKt K .normal (w8b_Qb sa tv ak i no kk bb) (fGW3 I YO L M A B C D E F G H W S P J N es co O U R)) :
   code pA (zAt pA tb0 LA 5) Y c3q8 T (fGW3 I YO L M A B C D E F G H W S P J N es co O U R) K :=
  zAf (hLA) (zCa (w8b_Qa sa tv ak i no kk) (wt 4 (.fix s183 bT (wt 3 (.res (V.ptr 1 i) (.res (vy ↑bb) (wt 1 (.fix s188 (vi ↑bb) .nil))))))))
  (show (zBU T (w8b_Qa sa tv ak i no kk) (vb (ltI ↑i ↑no) = bT ∧ zBh 1 (V.slice 1 0 no kk 1) (vi ↑i) = some (V.ptr 1 i) ∧ nth (YO) (i) = some (vy ↑bb) ∧ vi (wr IntKind.i64 ↑bb) = vi ↑bb ∧ rR Ex.normal ∧ rR (fGW3 I YO L M A B C D E F G H W S P J N es co O U R) ∧ zBY (w8b_Qb sa tv ak i no kk bb))) from
  zBW hT ⟨cb (ltT rfl rfl (by omega)), (zBm (i := i) rfl (by omega)), hy, (ci (zAs rfl (by omega) (by omega))), rfl, rfl, (zBZ _)⟩)
  (by kernel_rfl) Y K hK
theorem w9a (A B C D E F G H I J L M N O P Q R S U W : zAe) (sa so tv : V) (ak i : Nat) (es : EnL) (co : Nat) (hes : es.length ≤ 1000) (no : Nat) (hno : no ≤ 100) (hlo : zBN so = some (vi ↑no)) (hi : i < 500) (hak : ak ≤ 100) (ho : no ≤ i) (nd : Nat) (T : zAa) (hT : zAG T (zFq sa so tv ak i nd)) (K : EK) (hK : hKt K .normal (w9a_Qb sa so tv ak i nd) (zBp I Q L M A B C D E F G H W S P J N es co O U R)) :
   code pA (zAt pA tb0 LA 5) Y c3q9 T (zBp I Q L M A B C D E F G H W S P J N es co O U R) K :=
  zAf (hLA) (zCa (zFq sa so tv ak i nd) (wt 2 (.res (vi ↑no) (wt 1 (.fix s192 bT .nil)))))
  (show (zBU T (zFq sa so tv ak i nd) (zBN so = some (vi ↑no) ∧ vb (nB (ltI ↑i ↑no)) = bT ∧ rR Ex.normal ∧ rR (zBp I Q L M A B C D E F G H W S P J N es co O U R) ∧ zBY (w9a_Qb sa so tv ak i nd))) from
  zBW hT ⟨hlo, (cb (nn (ltF rfl rfl (by omega)))), rfl, rfl, (zBZ _)⟩)
  (by kernel_rfl) Y K hK
end
abbrev zIo (sa tv : V) (ak i no kk nd : Nat) : List (Sl × V) := [(s1, sa), (s2, .slice 1 0 no kk 1), (s7, .ptr 2 0), (s8, .ptr 12 0), (s10, .map 17), (s11, .map 18), (s12, tv), (s13, vi ↑ak), (s14, vi ↑i), (s19, vi ↑nd)]
abbrev w9b_Qb (sa tv : V) (ak i no kk nd : Nat) : List (Sl × V) := [(s1, sa), (s2, .slice 1 0 no kk 1), (s7, .ptr 2 0), (s8, .ptr 12 0), (s10, .map 17), (s11, .map 18), (s12, tv), (s13, vi ↑ak), (s14, vi ↑i), (s19, vi ↑nd), (s200, bT)]
abbrev w9c_Qa (sa tv : V) (ak i no kk nd : Nat) : List (Sl × V) := [(s1, sa), (s2, .slice 1 0 no kk 1), (s7, .ptr 2 0), (s8, .ptr 12 0), (s10, .map 17), (s11, .map 18), (s12, tv), (s13, vi ↑ak), (s14, vi ↑i), (s19, vi ↑nd), (s200, bF)]
section
variable (Y : Ys Prop) (LA : CF Prop) (hLA : zBi LA) (A B C D E F G H I J L M N O P R S U W : zAe) (sa tv : V) (ak i : Nat) (es : EnL) (co : Nat) (hes : es.length ≤ 1000) (hi : i < 500) (hak : ak ≤ 100) (no kk bb : Nat) (hno : no ≤ 100) (YO : List V) (ho : i < no) (hbb : bb < 256) (hy : nth YO i = some (vy ↑bb)) (nd : Nat)
include Y LA hLA A B C D E F G H I J L M N O P R S U W sa tv ak i es co hes hi hak no kk bb hno YO ho hbb hy nd
theorem w9b (h3 : bb % 3 ≠ 0) (T : zAa) (hT : zAG T (zIo sa tv ak i no kk nd)) (K : EK) (hK : hKt K .normal (w9b_Qb sa tv ak i no kk nd) (fGW3 I YO L M A B C D E F G H W S P J N es co O U R)) :
   code pA (zAt pA tb0 LA 5) Y c3q9 T (fGW3 I YO L M A B C D E F G H W S P J N es co O U R) K :=
  zAf (hLA) (zCa (zIo sa tv ak i no kk nd) (wt 4 (.fix s192 bF (wt 3 (.res (V.ptr 1 i) (.res (vy ↑bb) (wt 1 (.fix s198 (vy ↑(bb % 3)) (wt 1 (.fix s199 bT .nil))))))))))
  (show (zBU T (zIo sa tv ak i no kk nd) (vb (nB (ltI ↑i ↑no)) = bF ∧ zBh 1 (V.slice 1 0 no kk 1) (vi ↑i) = some (V.ptr 1 i) ∧ nth (YO) (i) = some (vy ↑bb) ∧ vy (Int.tmod (↑bb) 3) = vy ↑(bb % 3) ∧ vb (nB (eqI (↑(bb % 3)) 0)) = bT ∧ rR Ex.normal ∧ rR (fGW3 I YO L M A B C D E F G H W S P J N es co O U R) ∧ zBY (w9b_Qb sa tv ak i no kk nd))) from
  zBW hT ⟨(cb (nn (ltT rfl rfl (by omega)))), (zBm (i := i) rfl (by omega)), hy, (cy (zBe (a := bb) (b := 3) rfl rfl)), (cb (nn (eqF rfl rfl (by omega)))), rfl, rfl, (zBZ _)⟩)
  (by kernel_rfl) Y K hK
theorem w9c (h3 : bb % 3 = 0) (T : zAa) (hT : zAG T (zIo sa tv ak i no kk nd)) (K : EK) (hK : hKt K .normal (w9c_Qa sa tv ak i no kk nd) (fGW3 I YO L M A B C D E F G H W S P J N es co O U R)) :
   code pA (zAt pA tb0 LA 5) Y c3q9 T (fGW3 I YO L M A B C D E F G H W S P J N es co O U R) K :=
  zAf (hLA) (zCa (zIo sa tv ak i no kk nd) (wt 4 (.fix s192 bF (wt 3 (.res (V.ptr 1 i) (.res (vy ↑bb) (wt 1 (.fix s198 (vy ↑(bb % 3)) (wt 1 (.fix s199 bF .nil))))))))))
  (show (zBU T (zIo sa tv ak i no kk nd) (vb (nB (ltI ↑i ↑no)) = bF ∧ zBh 1 (V.slice 1 0 no kk 1) (vi ↑i) = some (V.ptr 1 i) ∧ nth (YO) (i) = some (vy ↑bb) ∧ vy (Int.tmod (↑bb) 3) = vy ↑(bb % 3) ∧ vb (nB (eqI (↑(bb % 3)) 0)) = bF ∧ rR Ex.normal ∧ rR (fGW3 I YO L M A B C D E F G H W S P J N es co O U R) ∧ zBY (w9c_Qa sa tv ak i no kk nd))) from
  zBW hT ⟨(cb (nn (ltT rfl rfl (by omega)))), (zBm (i := i) rfl (by omega)), hy, (cy (zBe (a := bb) (b := 3) rfl rfl)), (cb (nn (eqT (zBc h3) rfl (by omega)))), rfl, rfl, (zBZ _)⟩)
  (by kernel_rfl) Y K hK
end
abbrev w10_Qa (sa so tv : V) (ak i : Nat) (rv : V) : List (Sl × V) := [(s1, sa), (s2, so), (s7, .ptr 2 0), (s8, .ptr 12 0), (s10, .map 17), (s11, .map 18), (s12, tv), (s13, vi ↑ak), (s14, vi ↑i), (s20, rv)]
abbrev w11_Qa (sa so tv : V) (ak i : Nat) (rv : V) : List (Sl × V) := [(s1, sa), (s2, so), (s7, .ptr 2 0), (s8, .ptr 12 0), (s10, .map 17), (s11, .map 18), (s12, tv), (s13, vi ↑ak), (s14, vi ↑i), (s20, rv), (s21, vi ↑(0))]
abbrev w_ra_Qa (sa so tv : V) (ak i j k : Nat) : List (Sl × V) := [(s1, sa), (s2, so), (s7, .ptr 2 0), (s8, .ptr 12 0), (s10, .map 17), (s11, .map 18), (s12, tv), (s13, vi ↑ak), (s14, vi ↑i), (s20, .slice 20 0 j j 3), (s21, vi ↑k)]
abbrev w_ra_Qb (sa so tv : V) (ak i j k : Nat) : List (Sl × V) := [(s1, sa), (s2, so), (s7, .ptr 2 0), (s8, .ptr 12 0), (s10, .map 17), (s11, .map 18), (s12, tv), (s13, vi ↑ak), (s14, vi ↑i), (s20, .slice 20 0 j j 3), (s21, vi ↑(k + 1))]
abbrev fGW7 : V := V.agg [vh 0, vh 0, vq 0, vq 0, vw 0, V.str []]
abbrev w_rb_Qa (sa so : V) (ak i nt j k : Nat) : List (Sl × V) := [(s1, sa), (s2, so), (s7, .ptr 2 0), (s8, .ptr 12 0), (s10, .map 17), (s11, .map 18), (s12, .slice 19 0 nt nt 1), (s13, vi ↑ak), (s14, vi ↑i), (s20, .slice 20 0 j j 3), (s21, vi ↑k)]
abbrev w_rb_Qb (sa so : V) (ak i nt j k : Nat) : List (Sl × V) := [(s1, sa), (s2, so), (s7, .ptr 2 0), (s8, .ptr 12 0), (s10, .map 17), (s11, .map 18), (s12, .slice 19 0 nt nt 1), (s13, vi ↑ak), (s14, vi ↑i), (s20, .slice 20 0 j j 3), (s21, vi ↑(k + 1))]
abbrev fGW9 (I Q L M A B C D E F G H W S P J N : zAe) (es : EnL) (co : Nat) (al : EnL) (ca : Nat) (TL RL : List V) (t fo ln : Nat) (dd : List Nat) : Mem := y22 I Q L M A B C D E F G H W S P J N (oM es co false) (oM al ca false) (oC TL false) (oC RL false) (zEK t fo ln dd)
section
variable (Y : Ys Prop) (LA : CF Prop) (hLA : zBi LA)
include Y LA hLA
theorem w9n (A B C D E F G H I J L Z M N O P Q R S U W : zAe) (sa so tv : V) (ak i : Nat) (es : EnL) (co : Nat) (hes : es.length ≤ 1000) (nd : Nat) (w : List Nat) (hd : zAw LA (.func (.func 15) [] []) [.ptr 12 0, vi ↑nd] (zBp I Q L M A B C D E F G H W S P J N es co O U R) (V.str w) (zBp I Q L M A B C D E F G H W S P J N es co O U R)) (hf : zAw LA (.func (.func 7) [] []) [.ptr 2 0, V.str w] (zBp I Q L M A B C D E F G H W S P J N es co O U R) (V.tuple []) (y21 I Q Z M A B C D E F G H W S P J N (oM es co false) O U R))  (T : zAa) (hT : zAG T (zFq sa so tv ak i nd)) (K : EK) (hK : hKt K .normal (zAB sa so tv ak i) (y21 I Q Z M A B C D E F G H W S P J N (oM es co false) O U R)) :
   code pA (zAt pA tb0 LA 5) Y c3q9b T (zBp I Q L M A B C D E F G H W S P J N es co O U R) K :=
  zAf (hLA) (zCa (zFq sa so tv ak i nd) (wt 3 (.cal (V.str w) (zBp I Q L M A B C D E F G H W S P J N es co O U R) (zBp I Q L M A B C D E F G H W S P J N es co O U R) (.cal (V.tuple []) (zBp I Q L M A B C D E F G H W S P J N es co O U R) (y21 I Q Z M A B C D E F G H W S P J N (oM es co false) O U R) .nil))))
  (show (zBU T (zFq sa so tv ak i nd) (rR (zBp I Q L M A B C D E F G H W S P J N es co O U R) ∧ zAw (LA) (.func (.func 15) [] []) ([V.ptr 12 0, vi ↑nd]) (zBp I Q L M A B C D E F G H W S P J N es co O U R) (V.str w) (zBp I Q L M A B C D E F G H W S P J N es co O U R) ∧ (rR (zBp I Q L M A B C D E F G H W S P J N es co O U R) ∧ zAw (LA) (.func (.func 7) [] []) ([V.ptr 2 0, V.str w]) (zBp I Q L M A B C D E F G H W S P J N es co O U R) (V.tuple []) (y21 I Q Z M A B C D E F G H W S P J N (oM es co false) O U R) ∧ (rR Ex.normal ∧ rR (y21 I Q Z M A B C D E F G H W S P J N (oM es co false) O U R) ∧ zBY (zAB sa so tv ak i))))) from
  zBW hT ⟨rfl, zFm (zAu (rfl) (zAu (rfl) rfl)) hd, ⟨rfl, zFm (zAu (rfl) (zAu (rfl) rfl)) hf, ⟨rfl, rfl, (zBZ _)⟩⟩⟩)
  (by kernel_rfl) Y K hK
theorem w9d (A B C D E F G H b1 b2 b3 b4 b5 b6 b7 b8 n1 n2 I J ob2 L Z of2 M N oh2 O P om2 Q R os2 S U W ox2 : zAe) (sa so tv : V) (ak i : Nat) (es : EnL) (co : Nat) (hes : es.length ≤ 1000) (nd : Nat) (w : List Nat) (hd : zAw LA (.func (.func 15) [] []) [.ptr 12 0, vi ↑nd] (zBp I Q L M A B C D E F G H W S P J N es co O U R) (V.str w) (y22 I Q L M A B C D E F G H ox2 os2 om2 ob2 oh2 (oM es co false) O U R n1)) (hf : zAw LA (.func (.func 7) [] []) [.ptr 2 0, V.str w] (y22 I Q L M A B C D E F G H ox2 os2 om2 ob2 oh2 (oM es co false) O U R n1) (V.tuple []) (y23 I Q Z of2 b1 b2 b3 b4 b5 b6 b7 b8 ox2 os2 om2 ob2 oh2 (oM es co false) O U .dead n1 n2))  (T : zAa) (hT : zAG T (zFq sa so tv ak i nd)) (K : EK) (hK : hKt K .normal (zAB sa so tv ak i) (y23 I Q Z of2 b1 b2 b3 b4 b5 b6 b7 b8 ox2 os2 om2 ob2 oh2 (oM es co false) O U .dead n1 n2)) :
   code pA (zAt pA tb0 LA 5) Y c3q9b T (zBp I Q L M A B C D E F G H W S P J N es co O U R) K :=
  zAf (hLA) (zCa (zFq sa so tv ak i nd) (wt 3 (.cal (V.str w) (zBp I Q L M A B C D E F G H W S P J N es co O U R) (y22 I Q L M A B C D E F G H ox2 os2 om2 ob2 oh2 (oM es co false) O U R n1) (.cal (V.tuple []) (y22 I Q L M A B C D E F G H ox2 os2 om2 ob2 oh2 (oM es co false) O U R n1) (y23 I Q Z of2 b1 b2 b3 b4 b5 b6 b7 b8 ox2 os2 om2 ob2 oh2 (oM es co false) O U .dead n1 n2) .nil))))
  (show (zBU T (zFq sa so tv ak i nd) (rR (zBp I Q L M A B C D E F G H W S P J N es co O U R) ∧ zAw (LA) (.func (.func 15) [] []) ([V.ptr 12 0, vi ↑nd]) (zBp I Q L M A B C D E F G H W S P J N es co O U R) (V.str w) (y22 I Q L M A B C D E F G H ox2 os2 om2 ob2 oh2 (oM es co false) O U R n1) ∧ (rR (y22 I Q L M A B C D E F G H ox2 os2 om2 ob2 oh2 (oM es co false) O U R n1) ∧ zAw (LA) (.func (.func 7) [] []) ([V.ptr 2 0, V.str w]) (y22 I Q L M A B C D E F G H ox2 os2 om2 ob2 oh2 (oM es co false) O U R n1) (V.tuple []) (y23 I Q Z of2 b1 b2 b3 b4 b5 b6 b7 b8 ox2 os2 om2 ob2 oh2 (oM es co false) O U .dead n1 n2) ∧ (rR Ex.normal ∧ rR (y23 I Q Z of2 b1 b2 b3 b4 b5 b6 b7 b8 ox2 os2 om2 ob2 oh2 (oM es co false) O U .dead n1 n2) ∧ zBY (zAB sa so tv ak i))))) from
  zBW hT ⟨rfl, zFm (zAu (rfl) (zAu (rfl) rfl)) hd, ⟨rfl, zFm (zAu (rfl) (zAu (rfl) rfl)) hf, ⟨rfl, rfl, (zBZ _)⟩⟩⟩)
  (by kernel_rfl) Y K hK
theorem w10 (A B C D E F G H I J L Z M N O P Q R S U W : zAe) (sa so tv : V) (ak i : Nat) (es : EnL) (co : Nat) (hes : es.length ≤ 1000) (rv : V) (hr : zAw LA (.func (.func 16) [] []) [.ptr 2 0] (zBp I Q L M A B C D E F G H W S P J N es co O U R) (rv) (y21 I Q Z M A B C D E F G H W S P J N (oM es co false) O U R))  (T : zAa) (hT : zAG T (zAB sa so tv ak i)) (K : EK) (hK : hKt K .normal (w10_Qa sa so tv ak i rv) (y21 I Q Z M A B C D E F G H W S P J N (oM es co false) O U R)) :
   code pA (zAt pA tb0 LA 5) Y c3q10 T (zBp I Q L M A B C D E F G H W S P J N es co O U R) K :=
  zAf (hLA) (zCa (zAB sa so tv ak i) (wt 1 (.cal (rv) (zBp I Q L M A B C D E F G H W S P J N es co O U R) (y21 I Q Z M A B C D E F G H W S P J N (oM es co false) O U R) .nil)))
  (show (zBU T (zAB sa so tv ak i) (rR (zBp I Q L M A B C D E F G H W S P J N es co O U R) ∧ zAw (LA) (.func (.func 16) [] []) ([V.ptr 2 0]) (zBp I Q L M A B C D E F G H W S P J N es co O U R) (rv) (y21 I Q Z M A B C D E F G H W S P J N (oM es co false) O U R) ∧ (rR Ex.normal ∧ rR (y21 I Q Z M A B C D E F G H W S P J N (oM es co false) O U R) ∧ zBY (w10_Qa sa so tv ak i rv)))) from
  zBW hT ⟨rfl, zFm (zAu (rfl) rfl) hr, ⟨rfl, rfl, (zBZ _)⟩⟩)
  (by kernel_rfl) Y K hK
theorem w11 (A B C D E F G H I J L M N O P Q R S U W : zAe) (sa so tv : V) (ak i : Nat) (es : EnL) (co : Nat) (hes : es.length ≤ 1000) (rv : V) (T : zAa) (hT : zAG T (w10_Qa sa so tv ak i rv)) (K : EK) (hK : hKt K .normal (w11_Qa sa so tv ak i rv) (zBp I Q L M A B C D E F G H W S P J N es co O U R)) :
   code pA (zAt pA tb0 LA 5) Y c3q11 T (zBp I Q L M A B C D E F G H W S P J N es co O U R) K :=
  zAf (hLA) (zCa (w10_Qa sa so tv ak i rv) .nil)
  (show (zBU T (w10_Qa sa so tv ak i rv) (rR Ex.normal ∧ rR (zBp I Q L M A B C D E F G H W S P J N es co O U R) ∧ zBY (w11_Qa sa so tv ak i rv))) from
  zBW hT ⟨rfl, rfl, (zBZ _)⟩)
  (by kernel_rfl) Y K hK
theorem w_ra (A B C D E F G H I J L M N P Q S U W : zAe) (sa so tv : V) (ak i : Nat) (es : EnL) (co : Nat) (hes : es.length ≤ 1000) (t fo ln : Nat) (dd : List Nat) (ht : t < 65536) (hfo : fo ≤ 2000) (hln : ln ≤ 2000) (j k er ck ca : Nat) (hj : j ≤ 100) (hkj : k < j) (her : er < 4294967296) (hck : ck ≤ 1000) (x : List Nat) (RL : List V) (al es2 : EnL) (hr1 : nth RL (k * 3 + 1) = some (vq ↑ck)) (hr3 : zEQ 3 (k * 3) RL = some (V.agg [vw ↑er, vq ↑ck, V.str x])) (lo : zBk (.one .int) true fGW7 (vq ↑ck) es = some (V.tuple [V.agg (zIh t fo ln dd), bT])) (la : zBk (.one .int) false (vi 0) (vq ↑ck) al = some (vi 0)) (hd : zCo (.one .int) (vq ↑ck) es = some es2) (hg : zAw LA (.func (.func 17) [] []) [V.agg [vw ↑er, vq ↑ck, V.str x], V.agg (zIh t fo ln dd)] (y22 I Q L M A B C D E F G H W S P J N (oM es co false) (oM al ca false) U (oC RL false) (zEK t fo ln dd)) bT (y22 I Q L M A B C D E F G H W S P J N (oM es co false) (oM al ca false) U (oC RL false) (zEK t fo ln dd)))  (T : zAa) (hT : zAG T (w_ra_Qa sa so tv ak i j k)) (K : EK) (hK : hKt K .normal (w_ra_Qb sa so tv ak i j k) (y22 I Q L M A B C D E F G H W S P J N (oM es2 co false) (oM al ca false) U (oC RL false) (zEK t fo ln dd))) :
   code pA (zAt pA tb0 LA 5) Y c3l1 T (y21 I Q L M A B C D E F G H W S P J N (oM es co false) (oM al ca false) U (oC RL false)) K :=
  zAf (hLA) (zCa (w_ra_Qa sa so tv ak i j k) (wt 4 (.fix s211 bT (wt 4 (.res (V.ptr 20 (k * 3)) (wt 1 (.res (vq ↑ck) (.res (V.tuple [V.agg (zIh t fo ln dd), bT]) (wt 9 (.res (V.ptr 20 (k * 3)) (wt 1 (.res (vq ↑ck) (.res (vi 0) (wt 6 (.res (V.ptr 20 (k * 3)) (.res (V.agg [vw ↑er, vq ↑ck, V.str x]) (wt 1 (.cal bT (y22 I Q L M A B C D E F G H W S P J N (oM es co false) (oM al ca false) U (oC RL false) (zEK t fo ln dd)) (y22 I Q L M A B C D E F G H W S P J N (oM es co false) (oM al ca false) U (oC RL false) (zEK t fo ln dd)) (wt 23 (.res (V.ptr 20 (k * 3)) (wt 1 (.res (vq ↑ck) (.mdel (KT.one SK.int) (Opd.t s259) (Opd.t s264) 17 (es) (co) (es2) (wt 2 (.fix s213 (vi ↑(k + 1)) .nil)))))))))))))))))))))))))
  (show (zBU T (w_ra_Qa sa so tv ak i j k) (vb (ltI ↑k ↑j) = bT ∧ zBh 3 (V.slice 20 0 j j 3) (vi ↑k) = some (V.ptr 20 (k * 3)) ∧ nth (RL) (k * 3 + 1) = some (vq ↑ck) ∧ zBk (KT.one SK.int) true fGW7 (vq ↑ck) (es) = some (V.tuple [V.agg (zIh t fo ln dd), bT]) ∧ zBh 3 (V.slice 20 0 j j 3) (vi ↑k) = some (V.ptr 20 (k * 3)) ∧ nth (RL) (k * 3 + 1) = some (vq ↑ck) ∧ zBk (KT.one SK.int) false (vi 0) (vq ↑ck) (al) = some (vi 0) ∧ zBh 3 (V.slice 20 0 j j 3) (vi ↑k) = some (V.ptr 20 (k * 3)) ∧ zEQ 3 (k * 3) RL = some (V.agg [vw ↑er, vq ↑ck, V.str x]) ∧ rR (y22 I Q L M A B C D E F G H W S P J N (oM es co false) (oM al ca false) U (oC RL false) (zEK t fo ln dd)) ∧ zAw (LA) (.func (.func 17) [] []) ([V.agg [vw ↑er, vq ↑ck, V.str x], V.agg (zIh t fo ln dd)]) (y22 I Q L M A B C D E F G H W S P J N (oM es co false) (oM al ca false) U (oC RL false) (zEK t fo ln dd)) bT (y22 I Q L M A B C D E F G H W S P J N (oM es co false) (oM al ca false) U (oC RL false) (zEK t fo ln dd)) ∧ (True ∧ zBh 3 (V.slice 20 0 j j 3) (vi ↑k) = some (V.ptr 20 (k * 3)) ∧ nth (RL) (k * 3 + 1) = some (vq ↑ck) ∧ rR (zCp (KT.one SK.int) (Opd.t s259) (Opd.t s264)) ∧ rR (V.map 17) ∧ rR (some (oM es co false)) ∧ zCo (KT.one SK.int) (vq ↑ck) es = some (es2) ∧ (vi (wr IntKind.i64 (zCe (↑k) 1)) = vi ↑(k + 1) ∧ rR Ex.normal ∧ rR (y22 I Q L M A B C D E F G H W S P J N (oM es2 co false) (oM al ca false) U (oC RL false) (zEK t fo ln dd)) ∧ zBY (w_ra_Qb sa so tv ak i j k))))) from
  zBW hT ⟨cb (ltT rfl rfl (by omega)), (zBq (i := k) rfl (by omega)), hr1, lo, (zBq (i := k) rfl (by omega)), hr1, la, (zBq (i := k) rfl (by omega)), hr3, rfl, zFm (zAu (rfl) (zAu (rfl) rfl)) hg, ⟨trivial, (zBq (i := k) rfl (by omega)), hr1, rfl, rfl, rfl, hd, ⟨(ci (zAs (addN (a := k) (b := 1) rfl rfl) (by omega) (by omega))), rfl, rfl, (zBZ _)⟩⟩⟩)
  (by kernel_rfl) Y K hK
theorem w_rb (A B C D E F G H I J L M N P Q S W : zAe) (sa so : V) (ak i : Nat) (es : EnL) (co : Nat) (hes : es.length ≤ 1000) (t fo ln : Nat) (dd : List Nat) (ht : t < 65536) (hfo : fo ≤ 2000) (hln : ln ≤ 2000) (nt wa wb : Nat) (j k er ck ca : Nat) (hj : j ≤ 100) (hkj : k < j) (her : er < 4294967296) (hck : ck ≤ 1000) (x : List Nat) (RL : List V) (al es2 : EnL) (hr1 : nth RL (k * 3 + 1) = some (vq ↑ck)) (hr3 : zEQ 3 (k * 3) RL = some (V.agg [vw ↑er, vq ↑ck, V.str x])) (lo : zBk (.one .int) true fGW7 (vq ↑ck) es = some (V.tuple [V.agg (zIh t fo ln dd), bT])) (la : zBk (.one .int) false (vi 0) (vq ↑ck) al = some (vi ↑wb)) (hd : zCo (.one .int) (vq ↑ck) es = some es2) (hwa1 : wa ≤ 100) (hwb : wb = wa + 1) (hsw : ((wb : Nat) : Int) - 1 = ((wa : Nat) : Int)) (hnt : nt ≤ 100) (hwa : wa < nt) (TL : List V) (ht2 : nth TL wa = some (V.str x)) (hr2 : nth RL (k * 3 + 2) = some (V.str x)) (hq : zFn x x = true) (hg : zAw LA (.func (.func 17) [] []) [V.agg [vw ↑er, vq ↑ck, V.str x], V.agg (zIh t fo ln dd)] (fGW9 I Q L M A B C D E F G H W S P J N es co al ca TL RL t fo ln dd) bT (fGW9 I Q L M A B C D E F G H W S P J N es co al ca TL RL t fo ln dd))  (T : zAa) (hT : zAG T (w_rb_Qa sa so ak i nt j k)) (K : EK) (hK : hKt K .normal (w_rb_Qb sa so ak i nt j k) (y22 I Q L M A B C D E F G H W S P J N (oM es2 co false) (oM al ca false) (oC TL false) (oC RL false) (zEK t fo ln dd))) :
   code pA (zAt pA tb0 LA 5) Y c3l1 T (y21 I Q L M A B C D E F G H W S P J N (oM es co false) (oM al ca false) (oC TL false) (oC RL false)) K :=
  zAf (hLA) (zCa (w_rb_Qa sa so ak i nt j k) (wt 4 (.fix s211 bT (wt 4 (.res (V.ptr 20 (k * 3)) (wt 1 (.res (vq ↑ck) (.res (V.tuple [V.agg (zIh t fo ln dd), bT]) (wt 9 (.res (V.ptr 20 (k * 3)) (wt 1 (.res (vq ↑ck) (.res (vi ↑wb) (wt 6 (.res (V.ptr 20 (k * 3)) (.res (V.agg [vw ↑er, vq ↑ck, V.str x]) (wt 1 (.cal bT (fGW9 I Q L M A B C D E F G H W S P J N es co al ca TL RL t fo ln dd) (fGW9 I Q L M A B C D E F G H W S P J N es co al ca TL RL t fo ln dd) (wt 5 (.fix s244 bT (wt 3 (.res (V.ptr 20 (k * 3)) (wt 1 (.res (V.str x) (wt 3 (.fix s253 (vi ↑wa) (.res (V.ptr 19 wa) (.res (V.str x) (wt 1 (.fix s256 bF (wt 6 (.res (V.ptr 20 (k * 3)) (wt 1 (.res (vq ↑ck) (.mdel (KT.one SK.int) (Opd.t s259) (Opd.t s264) 17 (es) (co) (es2) (wt 2 (.fix s213 (vi ↑(k + 1)) .nil)))))))))))))))))))))))))))))))))))))
  (show (zBU T (w_rb_Qa sa so ak i nt j k) (vb (ltI ↑k ↑j) = bT ∧ zBh 3 (V.slice 20 0 j j 3) (vi ↑k) = some (V.ptr 20 (k * 3)) ∧ nth (RL) (k * 3 + 1) = some (vq ↑ck) ∧ zBk (KT.one SK.int) true fGW7 (vq ↑ck) (es) = some (V.tuple [V.agg (zIh t fo ln dd), bT]) ∧ zBh 3 (V.slice 20 0 j j 3) (vi ↑k) = some (V.ptr 20 (k * 3)) ∧ nth (RL) (k * 3 + 1) = some (vq ↑ck) ∧ zBk (KT.one SK.int) false (vi 0) (vq ↑ck) (al) = some (vi ↑wb) ∧ zBh 3 (V.slice 20 0 j j 3) (vi ↑k) = some (V.ptr 20 (k * 3)) ∧ zEQ 3 (k * 3) RL = some (V.agg [vw ↑er, vq ↑ck, V.str x]) ∧ rR (fGW9 I Q L M A B C D E F G H W S P J N es co al ca TL RL t fo ln dd) ∧ zAw (LA) (.func (.func 17) [] []) ([V.agg [vw ↑er, vq ↑ck, V.str x], V.agg (zIh t fo ln dd)]) (fGW9 I Q L M A B C D E F G H W S P J N es co al ca TL RL t fo ln dd) bT (fGW9 I Q L M A B C D E F G H W S P J N es co al ca TL RL t fo ln dd) ∧ (True ∧ vb (ltI 0 ↑wb) = bT ∧ zBh 3 (V.slice 20 0 j j 3) (vi ↑k) = some (V.ptr 20 (k * 3)) ∧ nth (RL) (k * 3 + 2) = some (V.str x) ∧ vi (wr IntKind.i64 (zIb (↑wb) 1)) = vi ↑wa ∧ zBh 1 (V.slice 19 0 nt nt 1) (vi ↑wa) = some (V.ptr 19 wa) ∧ nth (TL) (wa) = some (V.str x) ∧ vb (nB (zFn x x)) = bF ∧ zBh 3 (V.slice 20 0 j j 3) (vi ↑k) = some (V.ptr 20 (k * 3)) ∧ nth (RL) (k * 3 + 1) = some (vq ↑ck) ∧ rR (zCp (KT.one SK.int) (Opd.t s259) (Opd.t s264)) ∧ rR (V.map 17) ∧ rR (some (oM es co false)) ∧ zCo (KT.one SK.int) (vq ↑ck) es = some (es2) ∧ (vi (wr IntKind.i64 (zCe (↑k) 1)) = vi ↑(k + 1) ∧ rR Ex.normal ∧ rR (y22 I Q L M A B C D E F G H W S P J N (oM es2 co false) (oM al ca false) (oC TL false) (oC RL false) (zEK t fo ln dd)) ∧ zBY (w_rb_Qb sa so ak i nt j k))))) from
  zBW hT ⟨cb (ltT rfl rfl (by omega)), (zBq (i := k) rfl (by omega)), hr1, lo, (zBq (i := k) rfl (by omega)), hr1, la, (zBq (i := k) rfl (by omega)), hr3, rfl, zFm (zAu (rfl) (zAu (rfl) rfl)) hg, ⟨trivial, (cb (ltT rfl rfl (by omega))), (zBq (i := k) rfl (by omega)), hr2, (ci (zAs ((subE rfl rfl).trans hsw) (by omega) (by omega))), (zBm (i := wa) rfl (by omega)), ht2, (cb (nn hq)), (zBq (i := k) rfl (by omega)), hr1, rfl, rfl, rfl, hd, ⟨(ci (zAs (addN (a := k) (b := 1) rfl rfl) (by omega) (by omega))), rfl, rfl, (zBZ _)⟩⟩⟩)
  (by kernel_rfl) Y K hK
end
abbrev w_re_Qa (sa so tv : V) (ak i j : Nat) : List (Sl × V) := [(s1, sa), (s2, so), (s7, .ptr 2 0), (s8, .ptr 12 0), (s10, .map 17), (s11, .map 18), (s12, tv), (s13, vi ↑ak), (s14, vi ↑i), (s20, .slice 20 0 j j 3), (s21, vi ↑j)]
abbrev w_rn_Qa (sa so tv : V) (ak i : Nat) : List (Sl × V) := [(s1, sa), (s2, so), (s7, .ptr 2 0), (s8, .ptr 12 0), (s10, .map 17), (s11, .map 18), (s12, tv), (s13, vi ↑ak), (s14, vi ↑i), (s20, .nilslice), (s21, vi ↑(0))]
abbrev w13_Qa (sa so tv : V) (ak i : Nat) : List (Sl × V) := [(s1, sa), (s2, so), (s7, .ptr 2 0), (s8, .ptr 12 0), (s10, .map 17), (s11, .map 18), (s12, tv), (s13, vi ↑ak), (s14, vi ↑(i + 1))]
section
variable (Y : Ys Prop) (LA : CF Prop) (hLA : zBi LA) (A B C D E F G H I J L M N O P Q R S U W : zAe) (sa so tv : V) (ak i : Nat) (es : EnL) (co : Nat) (hes : es.length ≤ 1000)
include Y LA hLA A B C D E F G H I J L M N O P Q R S U W sa so tv ak i es co hes
theorem w_re (j : Nat) (hj : j ≤ 100) (T : zAa) (hT : zAG T (w_re_Qa sa so tv ak i j)) (K : EK) (hK : hKt K (.exit 4) (zAB sa so tv ak i) (zBp I Q L M A B C D E F G H W S P J N es co O U R)) :
   code pA (zAt pA tb0 LA 5) Y c3l1 T (zBp I Q L M A B C D E F G H W S P J N es co O U R) K :=
  zAf (hLA) (zCa (w_re_Qa sa so tv ak i j) (wt 4 (.fix s211 bF .nil)))
  (show (zBU T (w_re_Qa sa so tv ak i j) (vb (ltI ↑j ↑j) = bF ∧ rR (Ex.exit 4) ∧ rR (zBp I Q L M A B C D E F G H W S P J N es co O U R) ∧ zBY (zAB sa so tv ak i))) from
  zBW hT ⟨cb (ltF rfl rfl (by omega)), rfl, rfl, (zBZ _)⟩)
  (by kernel_rfl) Y K hK
theorem w_rn (T : zAa) (hT : zAG T (w_rn_Qa sa so tv ak i)) (K : EK) (hK : hKt K (.exit 4) (zAB sa so tv ak i) (zBp I Q L M A B C D E F G H W S P J N es co O U R)) :
   code pA (zAt pA tb0 LA 5) Y c3l1 T (zBp I Q L M A B C D E F G H W S P J N es co O U R) K :=
  zAf (hLA) (zCa (w_rn_Qa sa so tv ak i) .nil)
  (show (zBU T (w_rn_Qa sa so tv ak i) (rR (Ex.exit 4) ∧ rR (zBp I Q L M A B C D E F G H W S P J N es co O U R) ∧ zBY (zAB sa so tv ak i))) from
  zBW hT ⟨rfl, rfl, (zBZ _)⟩)
  (by kernel_rfl) Y K hK
theorem w12 (hn : zAw LA (.func (.func 18) [] []) [.ptr 2 0] (zBp I Q L M A B C D E F G H W S P J N es co O U R) (vi ↑es.length) (zBp I Q L M A B C D E F G H W S P J N es co O U R)) (ho : zAw LA (.func (.func 19) [] []) [.ptr 2 0] (zBp I Q L M A B C D E F G H W S P J N es co O U R) bF (zBp I Q L M A B C D E F G H W S P J N es co O U R))  (T : zAa) (hT : zAG T (zAB sa so tv ak i)) (K : EK) (hK : hKt K .normal (zAB sa so tv ak i) (zBp I Q L M A B C D E F G H W S P J N es co O U R)) :
   code pA (zAt pA tb0 LA 5) Y c3q12 T (zBp I Q L M A B C D E F G H W S P J N es co O U R) K :=
  zAf (hLA) (zCa (zAB sa so tv ak i) (wt 1 (.cal (vi ↑es.length) (zBp I Q L M A B C D E F G H W S P J N es co O U R) (zBp I Q L M A B C D E F G H W S P J N es co O U R) (wt 3 (.fix s269 bF (wt 2 (.cal bF (zBp I Q L M A B C D E F G H W S P J N es co O U R) (zBp I Q L M A B C D E F G H W S P J N es co O U R) .nil)))))))
  (show (zBU T (zAB sa so tv ak i) (rR (zBp I Q L M A B C D E F G H W S P J N es co O U R) ∧ zAw (LA) (.func (.func 18) [] []) ([V.ptr 2 0]) (zBp I Q L M A B C D E F G H W S P J N es co O U R) (vi ↑es.length) (zBp I Q L M A B C D E F G H W S P J N es co O U R) ∧ (vb (nB (eqI ↑es.length ↑es.length)) = bF ∧ rR (zBp I Q L M A B C D E F G H W S P J N es co O U R) ∧ zAw (LA) (.func (.func 19) [] []) ([V.ptr 2 0]) (zBp I Q L M A B C D E F G H W S P J N es co O U R) bF (zBp I Q L M A B C D E F G H W S P J N es co O U R) ∧ (rR Ex.normal ∧ rR (zBp I Q L M A B C D E F G H W S P J N es co O U R) ∧ zBY (zAB sa so tv ak i))))) from
  zBW hT ⟨rfl, zFm (zAu (rfl) rfl) hn, ⟨(cb (nn (eqT rfl rfl (by omega)))), rfl, zFm (zAu (rfl) rfl) ho, ⟨rfl, rfl, (zBZ _)⟩⟩⟩)
  (by kernel_rfl) Y K hK
theorem w13 (hi : i < 500) (hak : ak ≤ 100)  (T : zAa) (hT : zAG T (zAB sa so tv ak i)) (K : EK) (hK : hKt K .normal (w13_Qa sa so tv ak i) (zBp I Q L M A B C D E F G H W S P J N es co O U R)) :
   code pA (zAt pA tb0 LA 5) Y c3q13 T (zBp I Q L M A B C D E F G H W S P J N es co O U R) K :=
  zAf (hLA) (zCa (zAB sa so tv ak i) (wt 2 (.fix s76 (vi ↑(i + 1)) .nil)))
  (show (zBU T (zAB sa so tv ak i) (vi (wr IntKind.i64 (zCe (↑i) 1)) = vi ↑(i + 1) ∧ rR Ex.normal ∧ rR (zBp I Q L M A B C D E F G H W S P J N es co O U R) ∧ zBY (w13_Qa sa so tv ak i))) from
  zBW hT ⟨(ci (zAs (addN (a := i) (b := 1) rfl rfl) (by omega) (by omega))), rfl, rfl, (zBZ _)⟩)
  (by kernel_rfl) Y K hK
end
abbrev zDs (st : Bool) (sa so : V) : List (Sl × V) := [(s0, vb st), (s1, sa), (s2, so)]
section
variable (Y : Ys Prop) (LA : CF Prop) (hLA : zBi LA) (I Q : zAe) (st : Bool) (sa so : V)
include Y LA hLA I Q st sa so
theorem l0 (T : zAa) (hT : zAG T (zDs st sa so)) (K : EK) (hK : hKt K .normal (zDs st sa so) (zCc 2 [(0, I), (1, Q)])) :
   code pA (zAt pA tb0 LA 5) Y c3p0 T (zCc 2 [(0, I), (1, Q)]) K :=
  zAf (hLA) (zCa (zDs st sa so) .nil)
  (show (zBU T (zDs st sa so) (rR Ex.normal ∧ rR (zCc 2 [(0, I), (1, Q)]) ∧ zBY (zDs st sa so))) from
  zBW hT ⟨rfl, rfl, (zBZ _)⟩)
  (by kernel_rfl) Y K hK
theorem l1 (hw : zAw LA (.func (.func 4) [] []) [] (zCc 2 [(0, I), (1, Q)]) bT (zCc 2 [(0, I), (1, Q)]))  (T : zAa) (hT : zAG T (zDs st sa so)) (K : EK) (hK : hKt K .normal (zDs st sa so) (zCc 2 [(0, I), (1, Q)])) :
   code pA (zAt pA tb0 LA 5) Y c3p1 T (zCc 2 [(0, I), (1, Q)]) K :=
  zAf (hLA) (zCa (zDs st sa so) (.cal bT (zCc 2 [(0, I), (1, Q)]) (zCc 2 [(0, I), (1, Q)]) .nil))
  (show (zBU T (zDs st sa so) (rR (zCc 2 [(0, I), (1, Q)]) ∧ zAw (LA) (.func (.func 4) [] []) ([]) (zCc 2 [(0, I), (1, Q)]) bT (zCc 2 [(0, I), (1, Q)]) ∧ (rR Ex.normal ∧ rR (zCc 2 [(0, I), (1, Q)]) ∧ zBY (zDs st sa so)))) from
  zBW hT ⟨rfl, zFm rfl hw, ⟨rfl, rfl, (zBZ _)⟩⟩)
  (by kernel_rfl) Y K hK
theorem l2 (na : Nat) (hna : na ≤ 100) (hla : zBN sa = some (vi ↑na)) (no : Nat) (hno : no ≤ 100) (hlo : zBN so = some (vi ↑no))  (T : zAa) (hT : zAG T (zDs st sa so)) (K : EK) (hK : hKt K .normal (zDs st sa so) (zCc 2 [(0, I), (1, Q)])) :
   code pA (zAt pA tb0 LA 5) Y c3p2 T (zCc 2 [(0, I), (1, Q)]) K :=
  zAf (hLA) (zCa (zDs st sa so) (wt 1 (.res (vi ↑na) (wt 1 (.fix s29 bF (wt 2 (.res (vi ↑no) (wt 1 (.fix s33 bF .nil)))))))))
  (show (zBU T (zDs st sa so) (zBN sa = some (vi ↑na) ∧ vb (ltI 100 ↑na) = bF ∧ zBN so = some (vi ↑no) ∧ vb (ltI 100 ↑no) = bF ∧ rR Ex.normal ∧ rR (zCc 2 [(0, I), (1, Q)]) ∧ zBY (zDs st sa so))) from
  zBW hT ⟨hla, (cb (ltF rfl rfl (by omega))), hlo, (cb (ltF rfl rfl (by omega))), rfl, rfl, (zBZ _)⟩)
  (by kernel_rfl) Y K hK
theorem l2a (na : Nat) (hla : zBN sa = some (vi ↑na)) (hna : 100 < na) (T : zAa) (hT : zAG T (zDs st sa so)) (K : EK) (hK : ∀ T' m', zAa.get T' s6 = bT → K .ret T' m') :
   code pA (zAt pA tb0 LA 5) Y c3p2 T (zCc 2 [(0, I), (1, Q)]) K :=
  zHN (hLA) (zCa (zDs st sa so) (wt 1 (.res (vi ↑na) (wt 1 (.fix s29 bT .nil)))))
  (show (zBU T (zDs st sa so) (zBN sa = some (vi ↑na) ∧ vb (ltI 100 ↑na) = bT ∧ Ex.ret = Ex.ret ∧ rR bT)) from
  zBW hT ⟨hla, (cb (ltT rfl rfl (by omega))), rfl, (by rfl)⟩)
  (by kernel_rfl) Y K hK
theorem l2b (na : Nat) (hna : na ≤ 100) (hla : zBN sa = some (vi ↑na)) (no : Nat) (hlo : zBN so = some (vi ↑no)) (hno : 100 < no) (T : zAa) (hT : zAG T (zDs st sa so)) (K : EK) (hK : ∀ T' m', zAa.get T' s6 = bT → K .ret T' m') :
   code pA (zAt pA tb0 LA 5) Y c3p2 T (zCc 2 [(0, I), (1, Q)]) K :=
  zHN (hLA) (zCa (zDs st sa so) (wt 1 (.res (vi ↑na) (wt 1 (.fix s29 bF (wt 2 (.res (vi ↑no) (wt 1 (.fix s33 bT .nil)))))))))
  (show (zBU T (zDs st sa so) (zBN sa = some (vi ↑na) ∧ vb (ltI 100 ↑na) = bF ∧ zBN so = some (vi ↑no) ∧ vb (ltI 100 ↑no) = bT ∧ Ex.ret = Ex.ret ∧ rR bT)) from
  zBW hT ⟨hla, (cb (ltF rfl rfl (by omega))), hlo, (cb (ltT rfl rfl (by omega))), rfl, (by rfl)⟩)
  (by kernel_rfl) Y K hK
end
abbrev l12_Qa (sa so tv : V) (ak : Nat) : List (Sl × V) := [(s1, sa), (s2, so), (s7, .ptr 2 0), (s8, .ptr 12 0), (s10, .map 17), (s11, .map 18), (s12, tv), (s13, vi ↑ak)]
abbrev l12_Qb (sa so tv : V) (ak : Nat) : List (Sl × V) := [(s1, sa), (s2, so), (s7, .ptr 2 0), (s8, .ptr 12 0), (s10, .map 17), (s11, .map 18), (s12, tv), (s13, vi ↑ak), (s14, vi ↑(0))]
abbrev l15_Qa : List (Sl × V) := [(s6, bT)]
abbrev fGW4 (I Q L M A B C D E F G H : zAe) (XL : List V) (S P J N : zAe) (es : EnL) (co : Nat) (O U R : zAe) : Mem := y21 I Q L M A B C D E F G H (oC XL false) S P J N (oM es co false) O U R
section
variable (Y : Ys Prop) (LA : CF Prop) (hLA : zBi LA)
include Y LA hLA
theorem l12 (A B C D E F G H I J L M N O P Q R S U W : zAe) (sa so tv : V) (ak i : Nat) (es : EnL) (co : Nat) (hes : es.length ≤ 1000)  (T : zAa) (hT : zAG T (l12_Qa sa so tv ak)) (K : EK) (hK : hKt K .normal (l12_Qb sa so tv ak) (zBp I Q L M A B C D E F G H W S P J N es co O U R)) :
   code pA (zAt pA tb0 LA 5) Y c3p12a T (zBp I Q L M A B C D E F G H W S P J N es co O U R) K :=
  zAf (hLA) (zCa (l12_Qa sa so tv ak) .nil)
  (show (zBU T (l12_Qa sa so tv ak) (rR Ex.normal ∧ rR (zBp I Q L M A B C D E F G H W S P J N es co O U R) ∧ zBY (l12_Qb sa so tv ak))) from
  zBW hT ⟨rfl, rfl, (zBZ _)⟩)
  (by kernel_rfl) Y K hK
theorem l13 (A B C D E F G H I J L Z M N O P Q R S U W : zAe) (sa so tv : V) (ak i : Nat) (es : EnL) (co : Nat) (hes : es.length ≤ 1000) (hl : zAw LA (.func (.func 20) [] []) [.ptr 2 0] (zBp I Q L M A B C D E F G H W S P J N es co O U R) (V.tuple []) (y21 I Q Z M A B C D E F G H W S P J N (oM es co false) O U R))  (T : zAa) (hT : zAG T (zAB sa so tv ak i)) (K : EK) (hK : hKt K .normal (zAB sa so tv ak i) (y21 I Q Z M A B C D E F G H W S P J N (oM es co false) O U R)) :
   code pA (zAt pA tb0 LA 5) Y c3p13 T (zBp I Q L M A B C D E F G H W S P J N es co O U R) K :=
  zAf (hLA) (zCa (zAB sa so tv ak i) (wt 1 (.cal (V.tuple []) (zBp I Q L M A B C D E F G H W S P J N es co O U R) (y21 I Q Z M A B C D E F G H W S P J N (oM es co false) O U R) .nil)))
  (show (zBU T (zAB sa so tv ak i) (rR (zBp I Q L M A B C D E F G H W S P J N es co O U R) ∧ zAw (LA) (.func (.func 20) [] []) ([V.ptr 2 0]) (zBp I Q L M A B C D E F G H W S P J N es co O U R) (V.tuple []) (y21 I Q Z M A B C D E F G H W S P J N (oM es co false) O U R) ∧ (rR Ex.normal ∧ rR (y21 I Q Z M A B C D E F G H W S P J N (oM es co false) O U R) ∧ zBY (zAB sa so tv ak i)))) from
  zBW hT ⟨rfl, zFm (zAu (rfl) rfl) hl, ⟨rfl, rfl, (zBZ _)⟩⟩)
  (by kernel_rfl) Y K hK
theorem l14 (A B C D E F G H I J L Z M N O P Q R os2 S U W : zAe) (sa so tv : V) (ak i : Nat) (es : EnL) (co : Nat) (hes : es.length ≤ 1000) (bw w : List Nat) (hs : zAw LA (.func (.func 9) [] []) [.ptr 2 0] (zBp I Q L M A B C D E F G H W S P J N es co O U R) (V.str bw) (y21 I Q Z M A B C D E F G H W S P J N (oM es co false) O U R)) (hh : zAw LA (.func (.func 8) [] []) [.ptr 12 0, V.str bw] (y21 I Q Z M A B C D E F G H W S P J N (oM es co false) O U R) (V.str w) (y21 I Q Z M A B C D E F G H W os2 P J N (oM es co false) O U R))  (T : zAa) (hT : zAG T (zAB sa so tv ak i)) (K : EK) (hK : hKt K .normal (zAB sa so tv ak i) (y21 I Q Z M A B C D E F G H W os2 P J N (oM es co false) O U R)) :
   code pA (zAt pA tb0 LA 5) Y c3p14 T (zBp I Q L M A B C D E F G H W S P J N es co O U R) K :=
  zAf (hLA) (zCa (zAB sa so tv ak i) (wt 2 (.cal (V.str bw) (zBp I Q L M A B C D E F G H W S P J N es co O U R) (y21 I Q Z M A B C D E F G H W S P J N (oM es co false) O U R) (.cal (V.str w) (y21 I Q Z M A B C D E F G H W S P J N (oM es co false) O U R) (y21 I Q Z M A B C D E F G H W os2 P J N (oM es co false) O U R) .nil))))
  (show (zBU T (zAB sa so tv ak i) (rR (zBp I Q L M A B C D E F G H W S P J N es co O U R) ∧ zAw (LA) (.func (.func 9) [] []) ([V.ptr 2 0]) (zBp I Q L M A B C D E F G H W S P J N es co O U R) (V.str bw) (y21 I Q Z M A B C D E F G H W S P J N (oM es co false) O U R) ∧ (rR (y21 I Q Z M A B C D E F G H W S P J N (oM es co false) O U R) ∧ zAw (LA) (.func (.func 8) [] []) ([V.ptr 12 0, V.str bw]) (y21 I Q Z M A B C D E F G H W S P J N (oM es co false) O U R) (V.str w) (y21 I Q Z M A B C D E F G H W os2 P J N (oM es co false) O U R) ∧ (rR Ex.normal ∧ rR (y21 I Q Z M A B C D E F G H W os2 P J N (oM es co false) O U R) ∧ zBY (zAB sa so tv ak i))))) from
  zBW hT ⟨rfl, zFm (zAu (rfl) rfl) hs, ⟨rfl, zFm (zAu (rfl) (zAu (rfl) rfl)) hh, ⟨rfl, rfl, (zBZ _)⟩⟩⟩)
  (by kernel_rfl) Y K hK
theorem l15 (A B C D E F G H I J L M N O P Q R S U : zAe) (sa so tv : V) (ak i : Nat) (es : EnL) (co : Nat) (hes : es.length ≤ 1000) (XL : List V) (hx : nth XL 1 = some (.ptr 13 0)) (he : es.length = 0) (ho : zAw LA (.func (.func 19) [] []) [.ptr 2 0] (fGW4 I Q L M A B C D E F G H XL S P J N es co O U R) bT (fGW4 I Q L M A B C D E F G H XL S P J N es co O U R)) (hc : zAw LA (.func (.func 21) [] []) [.ptr 13 0] (fGW4 I Q L M A B C D E F G H XL S P J N es co O U R) bT (fGW4 I Q L M A B C D E F G H XL S P J N es co O U R))  (T : zAa) (hT : zAG T (zAB sa so tv ak i)) (K : EK) (hK : hKt K .normal (l15_Qa) (fGW4 I Q L M A B C D E F G H XL S P J N es co O U R)) :
   code pA (zAt pA tb0 LA 5) Y c3p15 T (fGW4 I Q L M A B C D E F G H XL S P J N es co O U R) K :=
  zAf (hLA) (zCa (zAB sa so tv ak i) (wt 2 (.fix s281 (vi ↑0) (wt 3 (.cal bT (fGW4 I Q L M A B C D E F G H XL S P J N es co O U R) (fGW4 I Q L M A B C D E F G H XL S P J N es co O U R) (wt 5 (.res (V.ptr 13 0) (.cal bT (fGW4 I Q L M A B C D E F G H XL S P J N es co O U R) (fGW4 I Q L M A B C D E F G H XL S P J N es co O U R) .nil))))))))
  (show (zBU T (zAB sa so tv ak i) (vi ↑es.length = vi ↑0 ∧ rR (fGW4 I Q L M A B C D E F G H XL S P J N es co O U R) ∧ zAw (LA) (.func (.func 19) [] []) ([V.ptr 2 0]) (fGW4 I Q L M A B C D E F G H XL S P J N es co O U R) bT (fGW4 I Q L M A B C D E F G H XL S P J N es co O U R) ∧ (nth (XL) (1) = some (V.ptr 13 0) ∧ rR (fGW4 I Q L M A B C D E F G H XL S P J N es co O U R) ∧ zAw (LA) (.func (.func 21) [] []) ([V.ptr 13 0]) (fGW4 I Q L M A B C D E F G H XL S P J N es co O U R) bT (fGW4 I Q L M A B C D E F G H XL S P J N es co O U R) ∧ (rR Ex.normal ∧ rR (fGW4 I Q L M A B C D E F G H XL S P J N es co O U R) ∧ zBY (l15_Qa))))) from
  zBW hT ⟨(ci (zBc he)), rfl, zFm (zAu (rfl) rfl) ho, ⟨hx, rfl, zFm (zAu (rfl) rfl) hc, ⟨rfl, rfl, (zBZ _)⟩⟩⟩)
  (by kernel_rfl) Y K hK
end
end
end Go.Proofs.YtjekgdkaejgpdaaGreat
