/- The code of the functions that the statement reaches, as the abstract machine has it, and that it is the program's: part all. No condition. -/
import Derived.Test.YtefklpegpecliaaProg
import Derived.Test.YtefklpegpecliaaAMb
set_option maxRecDepth 100000
namespace Go.Proofs.Ytefklpegpecliaa
open Go Go.AM
/- blockyard/blockyardlaw17.PlaceRows -/
def c4l0 : ACode :=
 (.seq (.seq (.ops [⟨(some s87), (.quiet false (qMov (.t s16))), none⟩, ⟨(some s88), (.quiet false (qMov (.t s12))), none⟩, ⟨(some s89), (.quiet false (qLenL (.t s88))), none⟩, ⟨(some s90), (.quiet false (qBin .lss (.t s87) (.t s89))), none⟩])
 (.cond (.t s90) .skip (.exit 0)))
 (.seq (.block 1 (.seq (.seq (.ops [⟨(some s93), (.quiet false (qMov (.t s12))), none⟩, ⟨(some s94), (.quiet false (qMov (.t s16))), none⟩, ⟨(some s95), (.quiet false (qIaddrS 2 (.t s93) (.t s94))), none⟩, ⟨(some s96), (.quiet false (qFaddr 0 (.t s95))), none⟩, ⟨(some s97), (.quiet true (qLoad1 (.t s96))), none⟩, ⟨(some s98), (.quiet false (qMov (.t s1))), none⟩, ⟨(some s99), (.quiet false (qBin .neq (.t s97) (.t s98))), none⟩])
 (.cond (.t s99) (.exit 1) .skip))
 (.seq (.seq (.draw (.calm ⟨(some s100), (.quiet false (qMov (.t s13))), none⟩ (.calm ⟨(some s101), (.quiet false (qMov (.t s9))), none⟩ (.calm ⟨(some s102), (.quiet false (qLenL (.t s101))), none⟩ (.calm ⟨(some s103), (.quiet false (qBin .geq (.t s100) (.t s102))), none⟩ (.calm ⟨(some s104), (.quiet false (qMov (.t s103))), none⟩ (.calm ⟨(some s105), (.quiet false (qMov (.t s9))), (some (s104, false))⟩ (.calm ⟨(some s106), (.quiet false (qMov (.t s13))), (some (s104, false))⟩ (.calm ⟨(some s107), (.quiet false (qIaddrS 1 (.t s105) (.t s106))), (some (s104, false))⟩ (.calm ⟨(some s108), (.quiet true (qLoad1 (.t s107))), (some (s104, false))⟩ (.calm ⟨(some s109), (.quiet false (qMov (.t s12))), (some (s104, false))⟩ (.calm ⟨(some s110), (.quiet false (qMov (.t s16))), (some (s104, false))⟩ (.calm ⟨(some s111), (.quiet false (qIaddrS 2 (.t s109) (.t s110))), (some (s104, false))⟩ (.calm ⟨(some s112), (.quiet false (qFaddr 1 (.t s111))), (some (s104, false))⟩ (.calm ⟨(some s113), (.quiet true (qLoad1 (.t s112))), (some (s104, false))⟩ .fin)))))))))))))) [⟨(some s114), (.quiet false (qBin .neq (.t s108) (.t s113))), (some (s104, false))⟩, ⟨(some s115), (.quiet false (qPick (.t s104) (.c (.bool true)) (.t s114))), none⟩])
 (.cond (.t s115) (.seq (.ops [⟨(some s6), (.quiet false (qMov (.c (.bool false)))), none⟩])
 .ret) .skip))
 (.seq (.ops [⟨(some s116), (.quiet false (qMov (.t s13))), none⟩, ⟨(some s117), (.quiet false (qBin .add (.t s116) (.c (.int .i64 1)))), none⟩, ⟨(some s13), (.quiet false (qMov (.t s117))), none⟩])
 (.seq (.ops [⟨(some s118), (.quiet false (qMov (.t s12))), none⟩, ⟨(some s119), (.quiet false (qMov (.t s16))), none⟩, ⟨(some s120), (.quiet false (qIaddrS 2 (.t s118) (.t s119))), none⟩, ⟨(some s121), (.quiet false (qFaddr 1 (.t s120))), none⟩, ⟨(some s122), (.quiet true (qLoad1 (.t s121))), none⟩, ⟨(some s123), (.quiet false (qMov (.t s2))), none⟩, ⟨(some s124), (.quiet false (qBin .eql (.t s122) (.t s123))), none⟩])
 (.cond (.t s124) (.seq (.ops [⟨(some s125), (.quiet false (qMov (.t s16))), none⟩, ⟨(some s14), (.quiet false (qMov (.t s125))), none⟩])
 (.ops [⟨(some s15), (.quiet false (qMov (.c (.bool true)))), none⟩])) .skip))))))
 (.ops [⟨(some s91), (.quiet false (qMov (.t s16))), none⟩, ⟨(some s92), (.quiet false (qBin .add (.t s91) (.c (.int .i64 1)))), none⟩, ⟨(some s16), (.quiet false (qMov (.t s92))), none⟩])))
def c4 : AFunc :=
 ⟨137, [(.tmp s6)], (.seq (.ops [⟨(some s3), (.alloc (aBox (.t s0))), none⟩, ⟨(some s6), (.quiet false (qMov (.c (.bool false)))), none⟩])
 (.seq (.ops [⟨(some s18), (.quiet true (qLoadN 3 (.t s3))), none⟩, ⟨(some s19), (.quiet false (qMov (.t s1))), none⟩, ⟨(some s20), (.call (.c (.func (.func 16) [] [])) [(.t s18), (.t s19)]), none⟩, ⟨(some s17), (.quiet false (qMov (.t s20))), none⟩, ⟨(some s21), (.quiet false (qExt 0 (.t s17))), none⟩, ⟨(some s22), (.quiet false (qExt 1 (.t s17))), none⟩, ⟨(some s7), (.quiet false (qMov (.t s21))), none⟩, ⟨(some s8), (.quiet false (qMov (.t s22))), none⟩])
 (.seq (.ops [⟨(some s23), (.quiet true (qLoadN 3 (.t s3))), none⟩, ⟨(some s24), (.quiet false (qMov (.t s1))), none⟩, ⟨(some s25), (.call (.c (.func (.func 17) [] [])) [(.t s23), (.t s24)]), none⟩, ⟨(some s9), (.quiet false (qMov (.t s25))), none⟩])
 (.seq (.ops [⟨(some s27), (.quiet true (qLoadN 3 (.t s3))), none⟩, ⟨(some s28), (.quiet false (qMov (.t s1))), none⟩, ⟨(some s29), (.quiet false (qMov (.t s2))), none⟩, ⟨(some s30), (.call (.c (.func (.func 18) [] [])) [(.t s27), (.t s28), (.t s29)]), none⟩, ⟨(some s26), (.quiet false (qMov (.t s30))), none⟩, ⟨(some s31), (.quiet false (qExt 0 (.t s26))), none⟩, ⟨(some s32), (.quiet false (qExt 1 (.t s26))), none⟩, ⟨(some s10), (.quiet false (qMov (.t s31))), none⟩, ⟨(some s11), (.quiet false (qMov (.t s32))), none⟩])
 (.seq (.seq (.ops [⟨(some s33), (.quiet true (qLoadN 3 (.t s3))), none⟩, ⟨(some s34), (.call (.c (.func (.func 11) [] [])) [(.t s33)]), none⟩, ⟨(some s35), (.quiet false (qUn .not (.t s34))), none⟩, ⟨(some s36), (.quiet false (qMov (.t s35))), none⟩, ⟨(some s37), (.quiet false (qMov (.t s1))), (some (s36, false))⟩, ⟨(some s38), (.quiet false (qBin .lss (.t s37) (.c (.int .i64 0)))), (some (s36, false))⟩, ⟨(some s39), (.quiet false (qPick (.t s36) (.c (.bool true)) (.t s38))), none⟩, ⟨(some s40), (.quiet false (qMov (.t s39))), none⟩, ⟨(some s41), (.quiet false (qMov (.t s1))), (some (s40, false))⟩, ⟨(some s42), (.quiet false (qFaddr 2 (.t s3))), (some (s40, false))⟩, ⟨(some s43), (.quiet true (qLoad1 (.t s42))), (some (s40, false))⟩, ⟨(some s44), (.quiet false (qBin .geq (.t s41) (.t s43))), (some (s40, false))⟩, ⟨(some s45), (.quiet false (qPick (.t s40) (.c (.bool true)) (.t s44))), none⟩])
 (.cond (.t s45) (.seq (.ops [⟨(some s46), (.quiet false (qMov (.t s7))), none⟩, ⟨(some s47), (.quiet false (qBin .eql (.t s46) (.c (.int .i64 0)))), none⟩, ⟨(some s48), (.quiet false (qMov (.t s47))), none⟩, ⟨(some s49), (.quiet false (qMov (.t s8))), (some (s48, true))⟩, ⟨(some s50), (.quiet false (qUn .not (.t s49))), (some (s48, true))⟩, ⟨(some s51), (.quiet false (qPick (.t s48) (.t s50) (.c (.bool false)))), none⟩, ⟨(some s52), (.quiet false (qMov (.t s51))), none⟩, ⟨(some s53), (.quiet false (qMov (.t s9))), (some (s52, true))⟩, ⟨(some s54), (.quiet false (qLenL (.t s53))), (some (s52, true))⟩, ⟨(some s55), (.quiet false (qBin .eql (.t s54) (.c (.int .i64 0)))), (some (s52, true))⟩, ⟨(some s56), (.quiet false (qPick (.t s52) (.t s55) (.c (.bool false)))), none⟩, ⟨(some s57), (.quiet false (qMov (.t s56))), none⟩, ⟨(some s58), (.quiet false (qMov (.t s10))), (some (s57, true))⟩, ⟨(some s59), (.quiet false (qBin .eql (.t s58) (.c (.int .i64 0)))), (some (s57, true))⟩, ⟨(some s60), (.quiet false (qPick (.t s57) (.t s59) (.c (.bool false)))), none⟩, ⟨(some s61), (.quiet false (qMov (.t s60))), none⟩, ⟨(some s62), (.quiet false (qMov (.t s11))), (some (s61, true))⟩, ⟨(some s63), (.quiet false (qUn .not (.t s62))), (some (s61, true))⟩, ⟨(some s64), (.quiet false (qPick (.t s61) (.t s63) (.c (.bool false)))), none⟩, ⟨(some s65), (.quiet false (qMov (.t s64))), none⟩, ⟨(some s66), (.call (.c (.func (.func 14) [] [])) []), (some (s65, true))⟩, ⟨(some s67), (.quiet false (qPick (.t s65) (.t s66) (.c (.bool false)))), none⟩, ⟨(some s6), (.quiet false (qMov (.t s67))), none⟩])
 .ret) .skip))
 (.seq (.seq (.ops [⟨(some s68), (.quiet false (qMov (.t s8))), none⟩, ⟨(some s69), (.quiet false (qUn .not (.t s68))), none⟩, ⟨(some s70), (.quiet false (qMov (.t s69))), none⟩, ⟨(some s71), (.quiet false (qMov (.t s7))), (some (s70, false))⟩, ⟨(some s72), (.quiet true (qLoadN 3 (.t s3))), (some (s70, false))⟩, ⟨(some s73), (.quiet false (qMov (.t s1))), (some (s70, false))⟩, ⟨(some s74), (.call (.c (.func (.func 19) [] [])) [(.t s72), (.t s73)]), (some (s70, false))⟩, ⟨(some s75), (.quiet false (qBin .neq (.t s71) (.t s74))), (some (s70, false))⟩, ⟨(some s76), (.quiet false (qPick (.t s70) (.c (.bool true)) (.t s75))), none⟩, ⟨(some s77), (.quiet false (qMov (.t s76))), none⟩, ⟨(some s78), (.quiet false (qMov (.t s9))), (some (s77, false))⟩, ⟨(some s79), (.quiet false (qLenL (.t s78))), (some (s77, false))⟩, ⟨(some s80), (.quiet false (qFaddr 1 (.t s3))), (some (s77, false))⟩, ⟨(some s81), (.quiet true (qLoad1 (.t s80))), (some (s77, false))⟩, ⟨(some s82), (.quiet false (qBin .sub (.t s81) (.c (.int .i64 1)))), (some (s77, false))⟩, ⟨(some s83), (.quiet false (qBin .neq (.t s79) (.t s82))), (some (s77, false))⟩, ⟨(some s84), (.quiet false (qPick (.t s77) (.c (.bool true)) (.t s83))), none⟩])
 (.cond (.t s84) (.seq (.ops [⟨(some s6), (.quiet false (qMov (.c (.bool false)))), none⟩])
 .ret) .skip))
 (.seq (.ops [⟨(some s85), (.quiet true (qLoadN 3 (.t s3))), none⟩, ⟨(some s86), (.call (.c (.func (.func 15) [] [])) [(.t s85)]), none⟩, ⟨(some s12), (.quiet false (qMov (.t s86))), none⟩])
 (.seq (.ops [⟨(some s13), (.quiet false (qMov (.c (.int .i64 0)))), none⟩])
 (.seq (.ops [⟨(some s14), (.quiet false (qMov (.c (.int .i64 0)))), none⟩])
 (.seq (.ops [⟨(some s15), (.quiet false (qMov (.c (.bool false)))), none⟩])
 (.seq (.seq (.ops [⟨(some s16), (.quiet false (qMov (.c (.int .i64 0)))), none⟩])
 (.block 0 (.loop c4l0)))
 (.seq (.ops [⟨(some s126), (.quiet false (qMov (.t s11))), none⟩, ⟨(some s127), (.quiet false (qMov (.t s15))), none⟩, ⟨(some s128), (.quiet false (qEqv false (.one .bool) (.t s126) (.t s127))), none⟩, ⟨(some s129), (.quiet false (qMov (.t s128))), none⟩, ⟨(some s130), (.quiet false (qMov (.t s10))), (some (s129, true))⟩, ⟨(some s131), (.quiet false (qMov (.t s14))), (some (s129, true))⟩, ⟨(some s132), (.quiet false (qBin .eql (.t s130) (.t s131))), (some (s129, true))⟩, ⟨(some s133), (.quiet false (qPick (.t s129) (.t s132) (.c (.bool false)))), none⟩, ⟨(some s134), (.quiet false (qMov (.t s133))), none⟩, ⟨(some s135), (.call (.c (.func (.func 14) [] [])) []), (some (s134, true))⟩, ⟨(some s136), (.quiet false (qPick (.t s134) (.t s135) (.c (.bool false)))), none⟩, ⟨(some s6), (.quiet false (qMov (.t s136))), none⟩])
 .ret))))))))))))⟩
/- blockyard/place.Right -/
def c10 : AFunc :=
 ⟨44, [(.tmp s2)], (.seq (.ops [⟨(some s1), (.alloc (aBox (.t s0))), none⟩, ⟨(some s2), (.quiet false (qMov (.c (.bool false)))), none⟩])
 (.seq (.ops [⟨(some s4), (.quiet false (qFaddr 0 (.t s1))), none⟩, ⟨(some s5), (.quiet true (qLoad1 (.t s4))), none⟩, ⟨(some s6), (.quiet false (qBin .eql (.t s5) (.c (.int .i64 1)))), none⟩, ⟨(some s7), (.quiet false (qMov (.t s6))), none⟩, ⟨(some s8), (.quiet false (qFaddr 1 (.t s1))), (some (s7, true))⟩, ⟨(some s9), (.quiet true (qLoad1 (.t s8))), (some (s7, true))⟩, ⟨(some s10), (.quiet false (qBin .eql (.t s9) (.c (.int .i64 2)))), (some (s7, true))⟩, ⟨(some s11), (.quiet false (qPick (.t s7) (.t s10) (.c (.bool false)))), none⟩, ⟨(some s12), (.quiet false (qMov (.t s11))), none⟩, ⟨(some s13), (.quiet false (qFaddr 0 (.t s1))), (some (s12, false))⟩, ⟨(some s14), (.quiet true (qLoad1 (.t s13))), (some (s12, false))⟩, ⟨(some s15), (.quiet false (qBin .eql (.t s14) (.c (.int .i64 5)))), (some (s12, false))⟩, ⟨(some s16), (.quiet false (qMov (.t s15))), (some (s12, false))⟩, ⟨(some s17), (.quiet false (qFaddr 1 (.t s1))), (some (s16, true))⟩, ⟨(some s18), (.quiet true (qLoad1 (.t s17))), (some (s16, true))⟩, ⟨(some s19), (.quiet false (qBin .eql (.t s18) (.c (.int .i64 3)))), (some (s16, true))⟩, ⟨(some s20), (.quiet false (qMov (.t s19))), (some (s16, true))⟩, ⟨(some s21), (.quiet false (qFaddr 1 (.t s1))), (some (s20, false))⟩, ⟨(some s22), (.quiet true (qLoad1 (.t s21))), (some (s20, false))⟩, ⟨(some s23), (.quiet false (qBin .eql (.t s22) (.c (.int .i64 4)))), (some (s20, false))⟩, ⟨(some s24), (.quiet false (qPick (.t s20) (.c (.bool true)) (.t s23))), (some (s16, true))⟩, ⟨(some s25), (.quiet false (qPick (.t s16) (.t s24) (.c (.bool false)))), (some (s12, false))⟩, ⟨(some s26), (.quiet false (qPick (.t s12) (.c (.bool true)) (.t s25))), none⟩, ⟨(some s3), (.quiet false (qMov (.t s26))), none⟩])
 (.seq (.ops [⟨(some s27), (.quiet false (qMov (.t s3))), none⟩, ⟨(some s28), (.quiet false (qMov (.t s27))), none⟩, ⟨(some s29), (.quiet false (qFaddr 2 (.t s1))), (some (s28, true))⟩, ⟨(some s30), (.quiet true (qLoad1 (.t s29))), (some (s28, true))⟩, ⟨(some s31), (.quiet false (qBin .geq (.t s30) (.c (.int .i64 2)))), (some (s28, true))⟩, ⟨(some s32), (.quiet false (qPick (.t s28) (.t s31) (.c (.bool false)))), none⟩, ⟨(some s33), (.quiet false (qMov (.t s32))), none⟩, ⟨(some s34), (.quiet false (qFaddr 2 (.t s1))), (some (s33, true))⟩, ⟨(some s35), (.quiet true (qLoad1 (.t s34))), (some (s33, true))⟩, ⟨(some s36), (.quiet false (qBin .leq (.t s35) (.c (.int .i64 64)))), (some (s33, true))⟩, ⟨(some s37), (.quiet false (qPick (.t s33) (.t s36) (.c (.bool false)))), none⟩, ⟨(some s38), (.quiet false (qMov (.t s37))), none⟩, ⟨(some s39), (.quiet false (qFaddr 2 (.t s1))), (some (s38, true))⟩, ⟨(some s40), (.quiet true (qLoad1 (.t s39))), (some (s38, true))⟩, ⟨(some s41), (.quiet false (qBin .rem (.t s40) (.c (.int .i64 2)))), (some (s38, true))⟩, ⟨(some s42), (.quiet false (qBin .eql (.t s41) (.c (.int .i64 0)))), (some (s38, true))⟩, ⟨(some s43), (.quiet false (qPick (.t s38) (.t s42) (.c (.bool false)))), none⟩, ⟨(some s2), (.quiet false (qMov (.t s43))), none⟩])
 .ret)))⟩
/- blockyard/blockyardref17.Right -/
def c11 : AFunc :=
 ⟨36, [(.tmp s2)], (.seq (.ops [⟨(some s1), (.alloc (aBox (.t s0))), none⟩, ⟨(some s2), (.quiet false (qMov (.c (.bool false)))), none⟩])
 (.seq (.seq (.ops [⟨(some s3), (.quiet false (qFaddr 2 (.t s1))), none⟩, ⟨(some s4), (.quiet true (qLoad1 (.t s3))), none⟩, ⟨(some s5), (.quiet false (qBin .lss (.t s4) (.c (.int .i64 2)))), none⟩, ⟨(some s6), (.quiet false (qMov (.t s5))), none⟩, ⟨(some s7), (.quiet false (qFaddr 2 (.t s1))), (some (s6, false))⟩, ⟨(some s8), (.quiet true (qLoad1 (.t s7))), (some (s6, false))⟩, ⟨(some s9), (.quiet false (qBin .gtr (.t s8) (.c (.int .i64 64)))), (some (s6, false))⟩, ⟨(some s10), (.quiet false (qPick (.t s6) (.c (.bool true)) (.t s9))), none⟩, ⟨(some s11), (.quiet false (qMov (.t s10))), none⟩, ⟨(some s12), (.quiet false (qFaddr 2 (.t s1))), (some (s11, false))⟩, ⟨(some s13), (.quiet true (qLoad1 (.t s12))), (some (s11, false))⟩, ⟨(some s14), (.quiet false (qBin .rem (.t s13) (.c (.int .i64 2)))), (some (s11, false))⟩, ⟨(some s15), (.quiet false (qBin .neq (.t s14) (.c (.int .i64 0)))), (some (s11, false))⟩, ⟨(some s16), (.quiet false (qPick (.t s11) (.c (.bool true)) (.t s15))), none⟩])
 (.cond (.t s16) (.seq (.ops [⟨(some s2), (.quiet false (qMov (.c (.bool false)))), none⟩])
 .ret) .skip))
 (.seq (.seq (.ops [⟨(some s17), (.quiet false (qFaddr 0 (.t s1))), none⟩, ⟨(some s18), (.quiet true (qLoad1 (.t s17))), none⟩, ⟨(some s19), (.quiet false (qBin .eql (.t s18) (.c (.int .i64 1)))), none⟩])
 (.cond (.t s19) (.seq (.ops [⟨(some s20), (.quiet false (qFaddr 1 (.t s1))), none⟩, ⟨(some s21), (.quiet true (qLoad1 (.t s20))), none⟩, ⟨(some s22), (.quiet false (qBin .eql (.t s21) (.c (.int .i64 2)))), none⟩, ⟨(some s2), (.quiet false (qMov (.t s22))), none⟩])
 .ret) .skip))
 (.seq (.ops [⟨(some s23), (.quiet false (qFaddr 0 (.t s1))), none⟩, ⟨(some s24), (.quiet true (qLoad1 (.t s23))), none⟩, ⟨(some s25), (.quiet false (qBin .eql (.t s24) (.c (.int .i64 5)))), none⟩, ⟨(some s26), (.quiet false (qMov (.t s25))), none⟩, ⟨(some s27), (.quiet false (qFaddr 1 (.t s1))), (some (s26, true))⟩, ⟨(some s28), (.quiet true (qLoad1 (.t s27))), (some (s26, true))⟩, ⟨(some s29), (.quiet false (qBin .geq (.t s28) (.c (.int .i64 3)))), (some (s26, true))⟩, ⟨(some s30), (.quiet false (qPick (.t s26) (.t s29) (.c (.bool false)))), none⟩, ⟨(some s31), (.quiet false (qMov (.t s30))), none⟩, ⟨(some s32), (.quiet false (qFaddr 1 (.t s1))), (some (s31, true))⟩, ⟨(some s33), (.quiet true (qLoad1 (.t s32))), (some (s31, true))⟩, ⟨(some s34), (.quiet false (qBin .leq (.t s33) (.c (.int .i64 4)))), (some (s31, true))⟩, ⟨(some s35), (.quiet false (qPick (.t s31) (.t s34) (.c (.bool false)))), none⟩, ⟨(some s2), (.quiet false (qMov (.t s35))), none⟩])
 .ret))))⟩
/- blockyard/place.At -/
def c12 : AFunc :=
 ⟨44, [(.tmp s4), (.tmp s5), (.tmp s6)], (.seq (.ops [⟨(some s2), (.alloc (aBox (.t s0))), none⟩, ⟨(some s4), (.quiet false (qMov (.c (.int .i64 0)))), none⟩, ⟨(some s5), (.quiet false (qMov (.c (.int .i64 0)))), none⟩, ⟨(some s6), (.quiet false (qMov (.c (.bool false)))), none⟩])
 (.seq (.seq (.ops [⟨(some s11), (.quiet false (qMov (.t s1))), none⟩, ⟨(some s12), (.quiet false (qBin .lss (.t s11) (.c (.int .i64 0)))), none⟩, ⟨(some s13), (.quiet false (qMov (.t s12))), none⟩, ⟨(some s14), (.quiet false (qMov (.t s1))), (some (s13, false))⟩, ⟨(some s15), (.quiet true (qLoadN 3 (.t s2))), (some (s13, false))⟩, ⟨(some s16), (.call (.c (.func (.func 13) [] [])) [(.t s15)]), (some (s13, false))⟩, ⟨(some s17), (.quiet false (qBin .geq (.t s14) (.t s16))), (some (s13, false))⟩, ⟨(some s18), (.quiet false (qPick (.t s13) (.c (.bool true)) (.t s17))), none⟩])
 (.cond (.t s18) (.seq (.ops [⟨(some s4), (.quiet false (qMov (.c (.int .i64 0)))), none⟩, ⟨(some s5), (.quiet false (qMov (.c (.int .i64 0)))), none⟩, ⟨(some s6), (.quiet false (qMov (.c (.bool false)))), none⟩])
 .ret) .skip))
 (.seq (.ops [⟨(some s19), (.quiet false (qMov (.t s1))), none⟩, ⟨(some s20), (.quiet false (qBin .quo (.t s19) (.c (.int .i64 2)))), none⟩, ⟨(some s21), (.quiet false (qMov (.t s1))), none⟩, ⟨(some s22), (.quiet false (qBin .rem (.t s21) (.c (.int .i64 2)))), none⟩, ⟨(some s7), (.quiet false (qMov (.t s20))), none⟩, ⟨(some s8), (.quiet false (qMov (.t s22))), none⟩])
 (.seq (.draw (.calm ⟨(some s23), (.quiet false (qMov (.t s7))), none⟩ (.calm ⟨(some s24), (.quiet false (qFaddr 1 (.t s2))), none⟩ (.calm ⟨(some s25), (.quiet true (qLoad1 (.t s24))), none⟩ (.calm ⟨(some s26), (.quiet false (qBin .sub (.t s25) (.c (.int .i64 1)))), none⟩ (.calm ⟨(some s27), (.quiet false (qBin .quo (.t s23) (.t s26))), none⟩ (.calm ⟨(some s28), (.quiet false (qMov (.t s7))), none⟩ (.calm ⟨(some s29), (.quiet false (qFaddr 1 (.t s2))), none⟩ (.calm ⟨(some s30), (.quiet true (qLoad1 (.t s29))), none⟩ (.calm ⟨(some s31), (.quiet false (qBin .sub (.t s30) (.c (.int .i64 1)))), none⟩ (.calm ⟨(some s32), (.quiet false (qBin .rem (.t s28) (.t s31))), none⟩ (.calm ⟨(some s9), (.quiet false (qMov (.t s27))), none⟩ .fin))))))))))) [⟨(some s10), (.quiet false (qMov (.t s32))), none⟩])
 (.seq (.ops [⟨(some s33), (.quiet false (qMov (.t s9))), none⟩, ⟨(some s34), (.quiet false (qBin .mul (.t s33) (.c (.int .i64 2)))), none⟩, ⟨(some s35), (.quiet false (qMov (.t s8))), none⟩, ⟨(some s36), (.quiet false (qBin .add (.t s34) (.t s35))), none⟩, ⟨(some s4), (.quiet false (qMov (.t s36))), none⟩])
 (.seq (.draw (.calm ⟨(some s37), (.quiet false (qMov (.t s4))), none⟩ (.calm ⟨(some s38), (.quiet true (qLoadN 3 (.t s2))), none⟩ (.calm ⟨(some s39), (.quiet false (qMov (.t s4))), none⟩ (.calm ⟨(some s41), (.quiet false (qMov (.t s10))), none⟩ (.last ⟨⟨(some s40), (.call (.c (.func (.func 17) [] [])) [(.t s38), (.t s39)]), none⟩, []⟩ (.calm ⟨(some s42), (.quiet false (qIaddrS 1 (.t s40) (.t s41))), none⟩ (.calm ⟨(some s43), (.quiet true (qLoad1 (.t s42))), none⟩ (.calm ⟨(some s4), (.quiet false (qMov (.t s37))), none⟩ .fin)))))))) [⟨(some s5), (.quiet false (qMov (.t s43))), none⟩, ⟨(some s6), (.quiet false (qMov (.c (.bool true)))), none⟩])
 .ret))))))⟩
/- blockyard/place.Size -/
def c13 : AFunc :=
 ⟨12, [(.tmp s2)], (.seq (.ops [⟨(some s1), (.alloc (aBox (.t s0))), none⟩, ⟨(some s2), (.quiet false (qMov (.c (.int .i64 0)))), none⟩])
 (.seq (.seq (.ops [⟨(some s3), (.quiet true (qLoadN 3 (.t s1))), none⟩, ⟨(some s4), (.call (.c (.func (.func 10) [] [])) [(.t s3)]), none⟩, ⟨(some s5), (.quiet false (qUn .not (.t s4))), none⟩])
 (.cond (.t s5) (.seq (.ops [⟨(some s2), (.quiet false (qMov (.c (.int .i64 0)))), none⟩])
 .ret) .skip))
 (.seq (.ops [⟨(some s6), (.quiet false (qFaddr 2 (.t s1))), none⟩, ⟨(some s7), (.quiet true (qLoad1 (.t s6))), none⟩, ⟨(some s8), (.quiet false (qFaddr 1 (.t s1))), none⟩, ⟨(some s9), (.quiet true (qLoad1 (.t s8))), none⟩, ⟨(some s10), (.quiet false (qBin .sub (.t s9) (.c (.int .i64 1)))), none⟩, ⟨(some s11), (.quiet false (qBin .mul (.t s7) (.t s10))), none⟩, ⟨(some s2), (.quiet false (qMov (.t s11))), none⟩])
 .ret)))⟩
/- blockyard/blockyardlaw17.wakes -/
def c14 : AFunc :=
 ⟨52, [(.tmp s0)], (.seq (.ops [⟨(some s0), (.quiet false (qMov (.c (.bool false)))), none⟩])
 (.seq (.ops [⟨(some s9), (.call (.c (.func (.func 21) [] [])) []), none⟩, ⟨(some s10), (.call (.c (.func (.func 12) [] [])) [(.t s9), (.c (.int .i64 4))]), none⟩, ⟨(some s8), (.quiet false (qMov (.t s10))), none⟩, ⟨(some s11), (.quiet false (qExt 0 (.t s8))), none⟩, ⟨(some s12), (.quiet false (qExt 1 (.t s8))), none⟩, ⟨(some s13), (.quiet false (qExt 2 (.t s8))), none⟩, ⟨(some s1), (.quiet false (qMov (.t s11))), none⟩, ⟨(some s2), (.quiet false (qMov (.t s12))), none⟩, ⟨(some s3), (.quiet false (qMov (.t s13))), none⟩])
 (.seq (.ops [⟨(some s15), (.call (.c (.func (.func 21) [] [])) []), none⟩, ⟨(some s16), (.call (.c (.func (.func 18) [] [])) [(.t s15), (.c (.int .i64 2)), (.c (.int .i64 2))]), none⟩, ⟨(some s14), (.quiet false (qMov (.t s16))), none⟩, ⟨(some s17), (.quiet false (qExt 0 (.t s14))), none⟩, ⟨(some s18), (.quiet false (qExt 1 (.t s14))), none⟩, ⟨(some s4), (.quiet false (qMov (.t s17))), none⟩, ⟨(some s5), (.quiet false (qMov (.t s18))), none⟩])
 (.seq (.ops [⟨(some s20), (.call (.c (.func (.func 21) [] [])) []), none⟩, ⟨(some s21), (.call (.c (.func (.func 16) [] [])) [(.t s20), (.c (.int .i64 4))]), none⟩, ⟨(some s19), (.quiet false (qMov (.t s21))), none⟩, ⟨(some s22), (.quiet false (qExt 0 (.t s19))), none⟩, ⟨(some s23), (.quiet false (qExt 1 (.t s19))), none⟩, ⟨(some s6), (.quiet false (qMov (.t s22))), none⟩, ⟨(some s7), (.quiet false (qMov (.t s23))), none⟩])
 (.seq (.ops [⟨(some s24), (.quiet false (qMov (.t s1))), none⟩, ⟨(some s25), (.quiet false (qBin .eql (.t s24) (.c (.int .i64 2)))), none⟩, ⟨(some s26), (.quiet false (qMov (.t s25))), none⟩, ⟨(some s27), (.quiet false (qMov (.t s2))), (some (s26, true))⟩, ⟨(some s28), (.quiet false (qBin .eql (.t s27) (.c (.int .i64 2)))), (some (s26, true))⟩, ⟨(some s29), (.quiet false (qPick (.t s26) (.t s28) (.c (.bool false)))), none⟩, ⟨(some s30), (.quiet false (qMov (.t s29))), none⟩, ⟨(some s31), (.quiet false (qMov (.t s3))), (some (s30, true))⟩, ⟨(some s32), (.quiet false (qPick (.t s30) (.t s31) (.c (.bool false)))), none⟩, ⟨(some s33), (.quiet false (qMov (.t s32))), none⟩, ⟨(some s34), (.quiet false (qMov (.t s4))), (some (s33, true))⟩, ⟨(some s35), (.quiet false (qBin .eql (.t s34) (.c (.int .i64 4)))), (some (s33, true))⟩, ⟨(some s36), (.quiet false (qPick (.t s33) (.t s35) (.c (.bool false)))), none⟩, ⟨(some s37), (.quiet false (qMov (.t s36))), none⟩, ⟨(some s38), (.quiet false (qMov (.t s5))), (some (s37, true))⟩, ⟨(some s39), (.quiet false (qPick (.t s37) (.t s38) (.c (.bool false)))), none⟩, ⟨(some s40), (.quiet false (qMov (.t s39))), none⟩, ⟨(some s41), (.quiet false (qMov (.t s6))), (some (s40, true))⟩, ⟨(some s42), (.quiet false (qBin .eql (.t s41) (.c (.int .i64 0)))), (some (s40, true))⟩, ⟨(some s43), (.quiet false (qPick (.t s40) (.t s42) (.c (.bool false)))), none⟩, ⟨(some s44), (.quiet false (qMov (.t s43))), none⟩, ⟨(some s45), (.quiet false (qMov (.t s7))), (some (s44, true))⟩, ⟨(some s46), (.quiet false (qPick (.t s44) (.t s45) (.c (.bool false)))), none⟩, ⟨(some s47), (.quiet false (qMov (.t s46))), none⟩, ⟨(some s48), (.call (.c (.func (.func 21) [] [])) []), (some (s47, true))⟩, ⟨(some s49), (.call (.c (.func (.func 13) [] [])) [(.t s48)]), (some (s47, true))⟩, ⟨(some s50), (.quiet false (qBin .eql (.t s49) (.c (.int .i64 12)))), (some (s47, true))⟩, ⟨(some s51), (.quiet false (qPick (.t s47) (.t s50) (.c (.bool false)))), none⟩, ⟨(some s0), (.quiet false (qMov (.t s51))), none⟩])
 .ret)))))⟩
/- blockyard/blockyardref17.All -/
def c15l0 : ACode :=
 (.seq (.seq (.ops [⟨(some s18), (.quiet false (qMov (.t s6))), none⟩, ⟨(some s19), (.quiet false (qFaddr 1 (.t s1))), none⟩, ⟨(some s20), (.quiet true (qLoad1 (.t s19))), none⟩, ⟨(some s21), (.quiet false (qBin .sub (.t s20) (.c (.int .i64 1)))), none⟩, ⟨(some s22), (.quiet false (qBin .lss (.t s18) (.t s21))), none⟩])
 (.cond (.t s22) .skip (.exit 2)))
 (.seq (.block 3 (.seq (.ops [⟨(some s25), (.quiet false (qMov (.t s5))), none⟩, ⟨(some s26), (.quiet false (qBin .add (.t s25) (.c (.int .i64 1)))), none⟩, ⟨(some s5), (.quiet false (qMov (.t s26))), none⟩])
 (.seq (.seq (.ops [⟨(some s27), (.quiet false (qMov (.t s5))), none⟩, ⟨(some s28), (.quiet false (qFaddr 1 (.t s1))), none⟩, ⟨(some s29), (.quiet true (qLoad1 (.t s28))), none⟩, ⟨(some s30), (.quiet false (qBin .eql (.t s27) (.t s29))), none⟩])
 (.cond (.t s30) (.ops [⟨(some s5), (.quiet false (qMov (.c (.int .i64 0)))), none⟩]) .skip))
 (.ops [⟨(some s31), (.quiet false (qMov (.t s3))), none⟩, ⟨(some s32), (.quiet false (qMov (.t s4))), none⟩, ⟨(some s33), (.quiet false (qBin .mul (.c (.int .i64 2)) (.t s32))), none⟩, ⟨(some s34), (.quiet false (qMov (.t s5))), none⟩, ⟨(some s35), (.quiet false (qBld [(.int .i64 0), (.int .i64 0)] [(0, (1, (.t s33))), (1, (1, (.t s34)))])), none⟩, ⟨(some s36), (.quiet false (qMov (.t s4))), none⟩, ⟨(some s37), (.quiet false (qBin .mul (.c (.int .i64 2)) (.t s36))), none⟩, ⟨(some s38), (.quiet false (qBin .add (.t s37) (.c (.int .i64 1)))), none⟩, ⟨(some s39), (.quiet false (qMov (.t s5))), none⟩, ⟨(some s40), (.quiet false (qBld [(.int .i64 0), (.int .i64 0)] [(0, (1, (.t s38))), (1, (1, (.t s39)))])), none⟩, ⟨(some s41), (.alloc (aBsl 2 2 [(.int .i64 0), (.int .i64 0)] [(0, (2, (.t s35))), (2, (2, (.t s40)))])), none⟩, ⟨(some s42), (.loud (lApp 2 16 (.t s31) (.t s41))), none⟩, ⟨(some s3), (.quiet false (qMov (.t s42))), none⟩]))))
 (.ops [⟨(some s23), (.quiet false (qMov (.t s6))), none⟩, ⟨(some s24), (.quiet false (qBin .add (.t s23) (.c (.int .i64 1)))), none⟩, ⟨(some s6), (.quiet false (qMov (.t s24))), none⟩])))
def c15l1 : ACode :=
 (.seq (.seq (.ops [⟨(some s7), (.quiet false (qMov (.t s4))), none⟩, ⟨(some s8), (.quiet false (qFaddr 2 (.t s1))), none⟩, ⟨(some s9), (.quiet true (qLoad1 (.t s8))), none⟩, ⟨(some s10), (.quiet false (qBin .quo (.t s9) (.c (.int .i64 2)))), none⟩, ⟨(some s11), (.quiet false (qBin .lss (.t s7) (.t s10))), none⟩])
 (.cond (.t s11) .skip (.exit 0)))
 (.seq (.block 1 (.seq (.ops [⟨(some s14), (.quiet true (qLoadN 3 (.t s1))), none⟩, ⟨(some s15), (.quiet false (qMov (.t s4))), none⟩, ⟨(some s16), (.quiet false (qBin .mul (.c (.int .i64 2)) (.t s15))), none⟩, ⟨(some s17), (.call (.c (.func (.func 19) [] [])) [(.t s14), (.t s16)]), none⟩, ⟨(some s5), (.quiet false (qMov (.t s17))), none⟩])
 (.seq (.ops [⟨(some s6), (.quiet false (qMov (.c (.int .i64 0)))), none⟩])
 (.block 2 (.loop c15l0)))))
 (.ops [⟨(some s12), (.quiet false (qMov (.t s4))), none⟩, ⟨(some s13), (.quiet false (qBin .add (.t s12) (.c (.int .i64 1)))), none⟩, ⟨(some s4), (.quiet false (qMov (.t s13))), none⟩])))
def c15 : AFunc :=
 ⟨44, [(.tmp s2)], (.seq (.ops [⟨(some s1), (.alloc (aBox (.t s0))), none⟩, ⟨(some s2), (.quiet false (qMov (.c .nilslice))), none⟩])
 (.seq (.ops [⟨(some s3), (.quiet false (qMov (.c .nilslice))), none⟩])
 (.seq (.seq (.ops [⟨(some s4), (.quiet false (qMov (.c (.int .i64 0)))), none⟩])
 (.block 0 (.loop c15l1)))
 (.seq (.ops [⟨(some s43), (.quiet false (qMov (.t s3))), none⟩, ⟨(some s2), (.quiet false (qMov (.t s43))), none⟩])
 .ret))))⟩
/- blockyard/place.Parity -/
def c16 : AFunc :=
 ⟨24, [(.tmp s4), (.tmp s5)], (.seq (.ops [⟨(some s2), (.alloc (aBox (.t s0))), none⟩, ⟨(some s4), (.quiet false (qMov (.c (.int .i64 0)))), none⟩, ⟨(some s5), (.quiet false (qMov (.c (.bool false)))), none⟩])
 (.seq (.block 0 (.seq (.ops [⟨(some s7), (.quiet true (qLoadN 3 (.t s2))), none⟩, ⟨(some s8), (.quiet false (qMov (.t s1))), none⟩, ⟨(some s9), (.call (.c (.func (.func 22) [] [])) [(.t s7), (.t s8)]), none⟩, ⟨(some s10), (.quiet false (qUn .not (.t s9))), none⟩, ⟨(some s6), (.quiet false (qMov (.t s10))), none⟩])
 (.cond (.t s6) (.seq (.ops [⟨(some s4), (.quiet false (qMov (.c (.int .i64 0)))), none⟩, ⟨(some s5), (.quiet false (qMov (.c (.bool false)))), none⟩])
 .ret) (.seq (.ops [⟨(some s12), (.quiet false (qFaddr 0 (.t s2))), none⟩, ⟨(some s13), (.quiet true (qLoad1 (.t s12))), none⟩, ⟨(some s14), (.quiet false (qBin .eql (.t s13) (.c (.int .i64 1)))), none⟩, ⟨(some s11), (.quiet false (qMov (.t s14))), none⟩])
 (.cond (.t s11) (.seq (.ops [⟨(some s4), (.quiet false (qMov (.c (.int .i64 1)))), none⟩, ⟨(some s5), (.quiet false (qMov (.c (.bool true)))), none⟩])
 .ret) .skip)))))
 (.seq (.draw (.calm ⟨(some s15), (.quiet false (qFaddr 1 (.t s2))), none⟩ (.calm ⟨(some s16), (.quiet true (qLoad1 (.t s15))), none⟩ (.calm ⟨(some s17), (.quiet false (qBin .sub (.t s16) (.c (.int .i64 1)))), none⟩ (.calm ⟨(some s18), (.quiet false (qMov (.t s1))), none⟩ (.calm ⟨(some s19), (.quiet false (qBin .quo (.t s18) (.c (.int .i64 2)))), none⟩ (.calm ⟨(some s20), (.quiet false (qFaddr 1 (.t s2))), none⟩ (.calm ⟨(some s21), (.quiet true (qLoad1 (.t s20))), none⟩ (.calm ⟨(some s22), (.quiet false (qBin .rem (.t s19) (.t s21))), none⟩ .fin)))))))) [⟨(some s23), (.quiet false (qBin .sub (.t s17) (.t s22))), none⟩, ⟨(some s4), (.quiet false (qMov (.t s23))), none⟩, ⟨(some s5), (.quiet false (qMov (.c (.bool true)))), none⟩])
 .ret)))⟩
/- blockyard/place.Data -/
def c17l0 : ACode :=
 (.seq (.ops [⟨(some s21), (.quiet false (qBin .lss (.t s20) (.t s19))), none⟩])
 (.seq (.cond (.t s21) .skip (.exit 0))
 (.seq (.block 1 (.seq (.ops [⟨(some s22), (.quiet false (qMov (.t s20))), none⟩, ⟨(some s8), (.quiet false (qMov (.t s22))), none⟩])
 (.ops [⟨(some s23), (.quiet false (qMov (.t s7))), none⟩, ⟨(some s24), (.quiet false (qMov (.t s5))), none⟩, ⟨(some s25), (.quiet false (qBin .add (.t s24) (.c (.int .i64 1)))), none⟩, ⟨(some s26), (.quiet false (qMov (.t s8))), none⟩, ⟨(some s27), (.quiet false (qBin .add (.t s25) (.t s26))), none⟩, ⟨(some s28), (.quiet false (qFaddr 1 (.t s2))), none⟩, ⟨(some s29), (.quiet true (qLoad1 (.t s28))), none⟩, ⟨(some s30), (.quiet false (qBin .rem (.t s27) (.t s29))), none⟩, ⟨(some s31), (.alloc (aBsl 1 1 [(.int .i64 0)] [(0, (1, (.t s30)))])), none⟩, ⟨(some s32), (.loud (lApp 1 8 (.t s23) (.t s31))), none⟩, ⟨(some s7), (.quiet false (qMov (.t s32))), none⟩])))
 (.ops [⟨(some s33), (.quiet false (qBin .add (.t s20) (.c (.int .i64 1)))), none⟩, ⟨(some s20), (.quiet false (qMov (.t s33))), none⟩]))))
def c17 : AFunc :=
 ⟨35, [(.tmp s4)], (.seq (.ops [⟨(some s2), (.alloc (aBox (.t s0))), none⟩, ⟨(some s4), (.quiet false (qMov (.c .nilslice))), none⟩])
 (.seq (.ops [⟨(some s10), (.quiet true (qLoadN 3 (.t s2))), none⟩, ⟨(some s11), (.quiet false (qMov (.t s1))), none⟩, ⟨(some s12), (.call (.c (.func (.func 16) [] [])) [(.t s10), (.t s11)]), none⟩, ⟨(some s9), (.quiet false (qMov (.t s12))), none⟩, ⟨(some s13), (.quiet false (qExt 0 (.t s9))), none⟩, ⟨(some s14), (.quiet false (qExt 1 (.t s9))), none⟩, ⟨(some s5), (.quiet false (qMov (.t s13))), none⟩, ⟨(some s6), (.quiet false (qMov (.t s14))), none⟩])
 (.seq (.seq (.ops [⟨(some s15), (.quiet false (qMov (.t s6))), none⟩, ⟨(some s16), (.quiet false (qUn .not (.t s15))), none⟩])
 (.cond (.t s16) (.seq (.ops [⟨(some s4), (.quiet false (qMov (.c .nilslice))), none⟩])
 .ret) .skip))
 (.seq (.ops [⟨(some s7), (.quiet false (qMov (.c .nilslice))), none⟩])
 (.seq (.seq (.ops [⟨(some s17), (.quiet false (qFaddr 1 (.t s2))), none⟩, ⟨(some s18), (.quiet true (qLoad1 (.t s17))), none⟩, ⟨(some s19), (.quiet false (qBin .sub (.t s18) (.c (.int .i64 1)))), none⟩, ⟨(some s20), (.quiet false (qMov (.c (.int .i64 0)))), none⟩])
 (.block 0 (.loop c17l0)))
 (.seq (.ops [⟨(some s34), (.quiet false (qMov (.t s7))), none⟩, ⟨(some s4), (.quiet false (qMov (.t s34))), none⟩])
 .ret))))))⟩
/- blockyard/place.Sector -/
def c18 : AFunc :=
 ⟨30, [(.tmp s6), (.tmp s7)], (.seq (.ops [⟨(some s3), (.alloc (aBox (.t s0))), none⟩, ⟨(some s6), (.quiet false (qMov (.c (.int .i64 0)))), none⟩, ⟨(some s7), (.quiet false (qMov (.c (.bool false)))), none⟩])
 (.seq (.ops [⟨(some s10), (.quiet true (qLoadN 3 (.t s3))), none⟩, ⟨(some s11), (.quiet false (qMov (.t s1))), none⟩, ⟨(some s12), (.call (.c (.func (.func 17) [] [])) [(.t s10), (.t s11)]), none⟩, ⟨(some s13), (.quiet false (qMov (.t s2))), none⟩, ⟨(some s14), (.call (.c (.func (.func 23) [] [])) [(.t s12), (.t s13)]), none⟩, ⟨(some s8), (.quiet false (qMov (.t s14))), none⟩])
 (.seq (.seq (.ops [⟨(some s15), (.quiet false (qMov (.t s8))), none⟩, ⟨(some s16), (.quiet false (qBin .lss (.t s15) (.c (.int .i64 0)))), none⟩])
 (.cond (.t s16) (.seq (.ops [⟨(some s6), (.quiet false (qMov (.c (.int .i64 0)))), none⟩, ⟨(some s7), (.quiet false (qMov (.c (.bool false)))), none⟩])
 .ret) .skip))
 (.seq (.ops [⟨(some s17), (.quiet false (qMov (.t s1))), none⟩, ⟨(some s18), (.quiet false (qBin .quo (.t s17) (.c (.int .i64 2)))), none⟩, ⟨(some s19), (.quiet false (qFaddr 1 (.t s3))), none⟩, ⟨(some s20), (.quiet true (qLoad1 (.t s19))), none⟩, ⟨(some s21), (.quiet false (qBin .sub (.t s20) (.c (.int .i64 1)))), none⟩, ⟨(some s22), (.quiet false (qBin .mul (.t s18) (.t s21))), none⟩, ⟨(some s23), (.quiet false (qMov (.t s8))), none⟩, ⟨(some s24), (.quiet false (qBin .add (.t s22) (.t s23))), none⟩, ⟨(some s9), (.quiet false (qMov (.t s24))), none⟩])
 (.seq (.ops [⟨(some s25), (.quiet false (qMov (.t s9))), none⟩, ⟨(some s26), (.quiet false (qBin .mul (.t s25) (.c (.int .i64 2)))), none⟩, ⟨(some s27), (.quiet false (qMov (.t s1))), none⟩, ⟨(some s28), (.quiet false (qBin .rem (.t s27) (.c (.int .i64 2)))), none⟩, ⟨(some s29), (.quiet false (qBin .add (.t s26) (.t s28))), none⟩, ⟨(some s6), (.quiet false (qMov (.t s29))), none⟩, ⟨(some s7), (.quiet false (qMov (.c (.bool true)))), none⟩])
 .ret)))))⟩
/- blockyard/blockyardref17.Parity -/
def c19l0 : ACode :=
 (.seq (.seq (.ops [⟨(some s13), (.quiet false (qMov (.t s6))), none⟩, ⟨(some s14), (.quiet false (qMov (.t s1))), none⟩, ⟨(some s15), (.quiet false (qBin .quo (.t s14) (.c (.int .i64 2)))), none⟩, ⟨(some s16), (.quiet false (qBin .lss (.t s13) (.t s15))), none⟩])
 (.cond (.t s16) .skip (.exit 0)))
 (.seq (.block 1 (.seq (.ops [⟨(some s19), (.quiet false (qMov (.t s5))), none⟩, ⟨(some s20), (.quiet false (qBin .sub (.t s19) (.c (.int .i64 1)))), none⟩, ⟨(some s5), (.quiet false (qMov (.t s20))), none⟩])
 (.seq (.ops [⟨(some s21), (.quiet false (qMov (.t s5))), none⟩, ⟨(some s22), (.quiet false (qBin .lss (.t s21) (.c (.int .i64 0)))), none⟩])
 (.cond (.t s22) (.ops [⟨(some s23), (.quiet false (qFaddr 1 (.t s2))), none⟩, ⟨(some s24), (.quiet true (qLoad1 (.t s23))), none⟩, ⟨(some s25), (.quiet false (qBin .sub (.t s24) (.c (.int .i64 1)))), none⟩, ⟨(some s5), (.quiet false (qMov (.t s25))), none⟩]) .skip))))
 (.ops [⟨(some s17), (.quiet false (qMov (.t s6))), none⟩, ⟨(some s18), (.quiet false (qBin .add (.t s17) (.c (.int .i64 1)))), none⟩, ⟨(some s6), (.quiet false (qMov (.t s18))), none⟩])))
def c19 : AFunc :=
 ⟨27, [(.tmp s4)], (.seq (.ops [⟨(some s2), (.alloc (aBox (.t s0))), none⟩, ⟨(some s4), (.quiet false (qMov (.c (.int .i64 0)))), none⟩])
 (.seq (.seq (.ops [⟨(some s7), (.quiet false (qFaddr 0 (.t s2))), none⟩, ⟨(some s8), (.quiet true (qLoad1 (.t s7))), none⟩, ⟨(some s9), (.quiet false (qBin .eql (.t s8) (.c (.int .i64 1)))), none⟩])
 (.cond (.t s9) (.seq (.ops [⟨(some s4), (.quiet false (qMov (.c (.int .i64 1)))), none⟩])
 .ret) .skip))
 (.seq (.ops [⟨(some s10), (.quiet false (qFaddr 1 (.t s2))), none⟩, ⟨(some s11), (.quiet true (qLoad1 (.t s10))), none⟩, ⟨(some s12), (.quiet false (qBin .sub (.t s11) (.c (.int .i64 1)))), none⟩, ⟨(some s5), (.quiet false (qMov (.t s12))), none⟩])
 (.seq (.seq (.ops [⟨(some s6), (.quiet false (qMov (.c (.int .i64 0)))), none⟩])
 (.block 0 (.loop c19l0)))
 (.seq (.ops [⟨(some s26), (.quiet false (qMov (.t s5))), none⟩, ⟨(some s4), (.quiet false (qMov (.t s26))), none⟩])
 .ret)))))⟩
/- blockyard/blockyardlaw17.five -/
def c21 : AFunc :=
 ⟨2, [(.cellN 3 s0)], (.seq (.ops [⟨(some s0), (.alloc (aBox (.c (.agg [(.int .i64 0), (.int .i64 0), (.int .i64 0)])))), none⟩])
 (.seq (.ops [⟨(some s1), (.quiet false (qBld [(.int .i64 0), (.int .i64 0), (.int .i64 0)] [(0, (1, (.c (.int .i64 5)))), (1, (1, (.c (.int .i64 3)))), (2, (1, (.c (.int .i64 6))))])), none⟩, ⟨none, (.loud (lSto 3 (.t s0) (.t s1))), none⟩])
 .ret))⟩
/- blockyard/place.row -/
def c22 : AFunc :=
 ⟨17, [(.tmp s4)], (.seq (.ops [⟨(some s2), (.alloc (aBox (.t s0))), none⟩, ⟨(some s4), (.quiet false (qMov (.c (.bool false)))), none⟩])
 (.seq (.ops [⟨(some s5), (.quiet true (qLoadN 3 (.t s2))), none⟩, ⟨(some s6), (.call (.c (.func (.func 10) [] [])) [(.t s5)]), none⟩, ⟨(some s7), (.quiet false (qMov (.t s6))), none⟩, ⟨(some s8), (.quiet false (qMov (.t s1))), (some (s7, true))⟩, ⟨(some s9), (.quiet false (qBin .geq (.t s8) (.c (.int .i64 0)))), (some (s7, true))⟩, ⟨(some s10), (.quiet false (qPick (.t s7) (.t s9) (.c (.bool false)))), none⟩, ⟨(some s11), (.quiet false (qMov (.t s10))), none⟩, ⟨(some s12), (.quiet false (qMov (.t s1))), (some (s11, true))⟩, ⟨(some s13), (.quiet false (qFaddr 2 (.t s2))), (some (s11, true))⟩, ⟨(some s14), (.quiet true (qLoad1 (.t s13))), (some (s11, true))⟩, ⟨(some s15), (.quiet false (qBin .lss (.t s12) (.t s14))), (some (s11, true))⟩, ⟨(some s16), (.quiet false (qPick (.t s11) (.t s15) (.c (.bool false)))), none⟩, ⟨(some s4), (.quiet false (qMov (.t s16))), none⟩])
 .ret))⟩
/- slices.Index[[]int,int] -/
def c23l0 : ACode :=
 (.seq (.ops [⟨(some s9), (.quiet false (qBin .lss (.t s8) (.t s7))), none⟩])
 (.seq (.cond (.t s9) .skip (.exit 0))
 (.seq (.block 1 (.seq (.ops [⟨(some s10), (.quiet false (qMov (.t s8))), none⟩, ⟨(some s5), (.quiet false (qMov (.t s10))), none⟩])
 (.seq (.ops [⟨(some s11), (.quiet false (qMov (.t s1))), none⟩, ⟨(some s12), (.quiet false (qMov (.t s0))), none⟩, ⟨(some s13), (.quiet false (qMov (.t s5))), none⟩, ⟨(some s14), (.quiet false (qIaddrS 1 (.t s12) (.t s13))), none⟩, ⟨(some s15), (.quiet true (qLoad1 (.t s14))), none⟩, ⟨(some s16), (.quiet false (qBin .eql (.t s11) (.t s15))), none⟩])
 (.cond (.t s16) (.seq (.ops [⟨(some s17), (.quiet false (qMov (.t s5))), none⟩, ⟨(some s4), (.quiet false (qMov (.t s17))), none⟩])
 .ret) .skip))))
 (.ops [⟨(some s18), (.quiet false (qBin .add (.t s8) (.c (.int .i64 1)))), none⟩, ⟨(some s8), (.quiet false (qMov (.t s18))), none⟩]))))
def c23 : AFunc :=
 ⟨19, [(.tmp s4)], (.seq (.ops [⟨(some s4), (.quiet false (qMov (.c (.int .i64 0)))), none⟩])
 (.seq (.seq (.ops [⟨(some s6), (.quiet false (qMov (.t s0))), none⟩, ⟨(some s7), (.quiet false (qLenL (.t s6))), none⟩, ⟨(some s8), (.quiet false (qMov (.c (.int .i64 0)))), none⟩])
 (.block 0 (.loop c23l0)))
 (.seq (.ops [⟨(some s4), (.quiet false (qMov (.c (.int .i64 (-1))))), none⟩])
 .ret)))⟩
def ft : FT :=
 (.node none (.node none (.node none (.node none (.node (some c15) .leaf .leaf) (.node (some c23) .leaf .leaf)) (.node (some c11) (.node (some c19) .leaf .leaf) .leaf)) (.node none (.node none (.node (some c17) .leaf .leaf) .leaf) (.node (some c13) (.node (some c21) .leaf .leaf) .leaf))) (.node none (.node (some c4) (.node none (.node (some c16) .leaf .leaf) .leaf) (.node (some c12) .leaf .leaf)) (.node none (.node (some c10) (.node (some c18) .leaf .leaf) .leaf) (.node (some c14) (.node (some c22) .leaf .leaf) .leaf))))
theorem ok4 : FOk Try.prog 4 c4 := FOk.mk Try.func4 (by kernel_rfl) (by kernel_rfl)
theorem ok10 : FOk Try.prog 10 c10 := FOk.mk Try.func10 (by kernel_rfl) (by kernel_rfl)
theorem ok11 : FOk Try.prog 11 c11 := FOk.mk Try.func11 (by kernel_rfl) (by kernel_rfl)
theorem ok12 : FOk Try.prog 12 c12 := FOk.mk Try.func12 (by kernel_rfl) (by kernel_rfl)
theorem ok13 : FOk Try.prog 13 c13 := FOk.mk Try.func13 (by kernel_rfl) (by kernel_rfl)
theorem ok14 : FOk Try.prog 14 c14 := FOk.mk Try.func14 (by kernel_rfl) (by kernel_rfl)
theorem ok15 : FOk Try.prog 15 c15 := FOk.mk Try.func15 (by kernel_rfl) (by kernel_rfl)
theorem ok16 : FOk Try.prog 16 c16 := FOk.mk Try.func16 (by kernel_rfl) (by kernel_rfl)
theorem ok17 : FOk Try.prog 17 c17 := FOk.mk Try.func17 (by kernel_rfl) (by kernel_rfl)
theorem ok18 : FOk Try.prog 18 c18 := FOk.mk Try.func18 (by kernel_rfl) (by kernel_rfl)
theorem ok19 : FOk Try.prog 19 c19 := FOk.mk Try.func19 (by kernel_rfl) (by kernel_rfl)
theorem ok21 : FOk Try.prog 21 c21 := FOk.mk Try.func21 (by kernel_rfl) (by kernel_rfl)
theorem ok22 : FOk Try.prog 22 c22 := FOk.mk Try.func22 (by kernel_rfl) (by kernel_rfl)
theorem ok23 : FOk Try.prog 23 c23 := FOk.mk Try.func23 (by kernel_rfl) (by kernel_rfl)
theorem ftOk : ft.Ok Try.prog 1 0 :=
 ⟨trivial, ⟨trivial, ⟨trivial, ⟨trivial, ⟨ok15, trivial, trivial⟩, ⟨ok23, trivial, trivial⟩⟩, ⟨ok11, ⟨ok19, trivial, trivial⟩, trivial⟩⟩, ⟨trivial, ⟨trivial, ⟨ok17, trivial, trivial⟩, trivial⟩, ⟨ok13, ⟨ok21, trivial, trivial⟩, trivial⟩⟩⟩, ⟨trivial, ⟨ok4, ⟨trivial, ⟨ok16, trivial, trivial⟩, trivial⟩, ⟨ok12, trivial, trivial⟩⟩, ⟨trivial, ⟨ok10, ⟨ok18, trivial, trivial⟩, trivial⟩, ⟨ok14, ⟨ok22, trivial, trivial⟩, trivial⟩⟩⟩⟩

end Go.Proofs.Ytefklpegpecliaa
