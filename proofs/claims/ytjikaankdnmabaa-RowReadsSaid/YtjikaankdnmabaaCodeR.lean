/- The code of the functions that the statement reaches, as the abstract machine has it, and that it is the program's: part all. No condition. -/
import Derived.Test.YtjikaankdnmabaaProg
import Derived.Test.YtjikaankdnmabaaAMb
set_option maxRecDepth 100000
namespace Go.Proofs.Ytjikaankdnmabaa
open Go Go.AM
/- blockyard/blockyardlaw22.RowReads -/
def c5 : AFunc :=
 ⟨77, [(.tmp s10)], (.seq (.ops [⟨(some s5), (.alloc (aBox (.t s0))), none⟩, ⟨(some s7), (.alloc (aBox (.t s2))), none⟩, ⟨(some s10), (.quiet false (qMov (.c (.bool false)))), none⟩])
 (.seq (.seq (.ops [⟨(some s19), (.quiet false (qMov (.t s4))), none⟩, ⟨(some s20), (.call (.c (.func (.func 8) [] [])) [(.t s19)]), none⟩])
 (.cond (.t s20) (.seq (.ops [⟨(some s21), (.call (.c (.func (.func 9) [] [])) []), none⟩, ⟨(some s10), (.quiet false (qMov (.t s21))), none⟩])
 .ret) .skip))
 (.seq (.ops [⟨(some s23), (.quiet true (qLoadN 3 (.t s5))), none⟩, ⟨(some s24), (.quiet false (qMov (.t s1))), none⟩, ⟨(some s25), (.quiet true (qLoadN 4 (.t s7))), none⟩, ⟨(some s26), (.quiet false (qMov (.t s3))), none⟩, ⟨(some s27), (.call (.c (.func (.func 19) [] [])) [(.t s23), (.t s24), (.t s25), (.t s26)]), none⟩, ⟨(some s22), (.quiet false (qMov (.t s27))), none⟩, ⟨(some s28), (.quiet false (qExt 0 (.t s22))), none⟩, ⟨(some s29), (.quiet false (qExt 1 (.t s22))), none⟩, ⟨(some s11), (.quiet false (qMov (.t s28))), none⟩, ⟨(some s12), (.quiet false (qMov (.t s29))), none⟩])
 (.seq (.ops [⟨(some s31), (.quiet true (qLoadN 3 (.t s5))), none⟩, ⟨(some s32), (.quiet false (qMov (.t s1))), none⟩, ⟨(some s33), (.quiet true (qLoadN 4 (.t s7))), none⟩, ⟨(some s34), (.quiet false (qMov (.t s3))), none⟩, ⟨(some s35), (.call (.c (.func (.func 20) [] [])) [(.t s31), (.t s32), (.t s33), (.t s34)]), none⟩, ⟨(some s30), (.quiet false (qMov (.t s35))), none⟩, ⟨(some s36), (.quiet false (qExt 0 (.t s30))), none⟩, ⟨(some s37), (.quiet false (qExt 1 (.t s30))), none⟩, ⟨(some s13), (.quiet false (qMov (.t s36))), none⟩, ⟨(some s14), (.quiet false (qMov (.t s37))), none⟩])
 (.seq (.ops [⟨(some s39), (.quiet true (qLoadN 3 (.t s5))), none⟩, ⟨(some s40), (.quiet false (qMov (.t s1))), none⟩, ⟨(some s41), (.quiet true (qLoadN 4 (.t s7))), none⟩, ⟨(some s42), (.quiet false (qMov (.t s3))), none⟩, ⟨(some s43), (.quiet false (qMov (.t s4))), none⟩, ⟨(some s44), (.call (.c (.func (.func 21) [] [])) [(.t s39), (.t s40), (.t s41), (.t s42), (.t s43)]), none⟩, ⟨(some s38), (.quiet false (qMov (.t s44))), none⟩, ⟨(some s45), (.quiet false (qExt 0 (.t s38))), none⟩, ⟨(some s46), (.quiet false (qExt 1 (.t s38))), none⟩, ⟨(some s15), (.quiet false (qMov (.t s45))), none⟩, ⟨(some s16), (.quiet false (qMov (.t s46))), none⟩])
 (.seq (.ops [⟨(some s48), (.quiet true (qLoadN 3 (.t s5))), none⟩, ⟨(some s49), (.quiet false (qMov (.t s1))), none⟩, ⟨(some s50), (.quiet true (qLoadN 4 (.t s7))), none⟩, ⟨(some s51), (.quiet false (qMov (.t s3))), none⟩, ⟨(some s52), (.quiet false (qMov (.t s4))), none⟩, ⟨(some s53), (.call (.c (.func (.func 22) [] [])) [(.t s48), (.t s49), (.t s50), (.t s51), (.t s52)]), none⟩, ⟨(some s47), (.quiet false (qMov (.t s53))), none⟩, ⟨(some s54), (.quiet false (qExt 0 (.t s47))), none⟩, ⟨(some s55), (.quiet false (qExt 1 (.t s47))), none⟩, ⟨(some s17), (.quiet false (qMov (.t s54))), none⟩, ⟨(some s18), (.quiet false (qMov (.t s55))), none⟩])
 (.seq (.ops [⟨(some s56), (.quiet false (qMov (.t s12))), none⟩, ⟨(some s57), (.quiet false (qMov (.t s14))), none⟩, ⟨(some s58), (.quiet false (qBin .eql (.t s56) (.t s57))), none⟩, ⟨(some s59), (.quiet false (qMov (.t s58))), none⟩, ⟨(some s60), (.quiet false (qMov (.t s11))), (some (s59, true))⟩, ⟨(some s61), (.quiet false (qMov (.t s13))), (some (s59, true))⟩, ⟨(some s62), (.call (.c (.func (.func 14) [] [])) [(.t s60), (.t s61)]), (some (s59, true))⟩, ⟨(some s63), (.quiet false (qPick (.t s59) (.t s62) (.c (.bool false)))), none⟩, ⟨(some s64), (.quiet false (qMov (.t s63))), none⟩, ⟨(some s65), (.quiet false (qMov (.t s15))), (some (s64, true))⟩, ⟨(some s66), (.quiet false (qMov (.t s17))), (some (s64, true))⟩, ⟨(some s67), (.quiet false (qBin .eql (.t s65) (.t s66))), (some (s64, true))⟩, ⟨(some s68), (.quiet false (qPick (.t s64) (.t s67) (.c (.bool false)))), none⟩, ⟨(some s69), (.quiet false (qMov (.t s68))), none⟩, ⟨(some s70), (.quiet false (qMov (.t s16))), (some (s69, true))⟩, ⟨(some s71), (.quiet false (qMov (.t s18))), (some (s69, true))⟩, ⟨(some s72), (.quiet false (qBin .eql (.t s70) (.t s71))), (some (s69, true))⟩, ⟨(some s73), (.quiet false (qPick (.t s69) (.t s72) (.c (.bool false)))), none⟩, ⟨(some s74), (.quiet false (qMov (.t s73))), none⟩, ⟨(some s75), (.call (.c (.func (.func 9) [] [])) []), (some (s74, true))⟩, ⟨(some s76), (.quiet false (qPick (.t s74) (.t s75) (.c (.bool false)))), none⟩, ⟨(some s10), (.quiet false (qMov (.t s76))), none⟩])
 .ret)))))))⟩
/- blockyard/blockyardlaw22.Great -/
def c8l0 : ACode :=
 (.seq (.ops [⟨(some s10), (.next (.t s9)), none⟩, ⟨(some s11), (.quiet false (qExt 0 (.t s10))), none⟩])
 (.seq (.cond (.t s11) .skip (.exit 0))
 (.block 1 (.seq (.ops [⟨(some s12), (.quiet true (qEntry (.t s9))), none⟩, ⟨(some s13), (.quiet false (qExt 1 (.t s12))), none⟩, ⟨(some s4), (.quiet false (qMov (.t s13))), none⟩])
 (.seq (.ops [⟨(some s14), (.quiet false (qMov (.t s4))), none⟩, ⟨(some s15), (.quiet false (qLenS (.t s14))), none⟩, ⟨(some s16), (.quiet false (qBin .gtr (.t s15) (.c (.int .i64 200)))), none⟩])
 (.cond (.t s16) (.seq (.ops [⟨(some s2), (.quiet false (qMov (.c (.bool true)))), none⟩])
 .ret) .skip))))))
def c8 : AFunc :=
 ⟨17, [(.tmp s2)], (.seq (.ops [⟨(some s2), (.quiet false (qMov (.c (.bool false)))), none⟩])
 (.seq (.seq (.ops [⟨(some s5), (.quiet false (qMov (.t s0))), none⟩, ⟨(some s6), (.quiet true (qLenM (.t s5))), none⟩, ⟨(some s7), (.quiet false (qBin .gtr (.t s6) (.c (.int .i64 20)))), none⟩])
 (.cond (.t s7) (.seq (.ops [⟨(some s2), (.quiet false (qMov (.c (.bool true)))), none⟩])
 .ret) .skip))
 (.seq (.seq (.ops [⟨(some s8), (.quiet false (qMov (.t s0))), none⟩, ⟨(some s9), (.loud (lRng (.t s8))), none⟩])
 (.block 0 (.loop c8l0)))
 (.seq (.ops [⟨(some s2), (.quiet false (qMov (.c (.bool false)))), none⟩])
 .ret))))⟩
/- blockyard/blockyardlaw22.wakes -/
def c9 : AFunc :=
 ⟨67, [(.tmp s0)], (.seq (.ops [⟨(some s0), (.quiet false (qMov (.c (.bool false)))), none⟩])
 (.seq (.ops [⟨(some s6), (.call (.c (.func (.func 29) [] [])) []), none⟩, ⟨(some s7), (.quiet false (qBld [(.bool false), (.bool false), (.bool false), (.bool false)] [(0, (1, (.c (.bool true)))), (1, (1, (.c (.bool false)))), (2, (1, (.c (.bool true))))])), none⟩, ⟨(some s8), (.alloc aMkm), none⟩, ⟨(some s9), (.call (.c (.func (.func 18) [] [])) [(.c (.int .u8 1))]), none⟩, ⟨none, (.loud (lMset (.one .int) (.t s8) (.c (.int .i64 0)) (.t s9))), none⟩, ⟨(some s10), (.quiet false (qMov (.t s8))), none⟩, ⟨(some s11), (.call (.c (.func (.func 10) [] [])) [(.t s6), (.c (.int .i64 0)), (.t s7), (.t s10)]), none⟩, ⟨(some s5), (.quiet false (qMov (.t s11))), none⟩, ⟨(some s12), (.quiet false (qExt 0 (.t s5))), none⟩, ⟨(some s13), (.quiet false (qExt 1 (.t s5))), none⟩, ⟨(some s1), (.quiet false (qMov (.t s12))), none⟩, ⟨(some s2), (.quiet false (qMov (.t s13))), none⟩])
 (.seq (.ops [⟨(some s15), (.call (.c (.func (.func 29) [] [])) []), none⟩, ⟨(some s16), (.quiet false (qBld [(.bool false), (.bool false), (.bool false), (.bool false)] [(0, (1, (.c (.bool true)))), (1, (1, (.c (.bool false)))), (2, (1, (.c (.bool true))))])), none⟩, ⟨(some s17), (.alloc aMkm), none⟩, ⟨(some s18), (.call (.c (.func (.func 18) [] [])) [(.c (.int .u8 1))]), none⟩, ⟨none, (.loud (lMset (.one .int) (.t s17) (.c (.int .i64 0)) (.t s18))), none⟩, ⟨(some s19), (.quiet false (qMov (.t s17))), none⟩, ⟨(some s20), (.alloc aMkm), none⟩, ⟨(some s21), (.call (.c (.func (.func 18) [] [])) [(.c (.int .u8 2))]), none⟩, ⟨none, (.loud (lMset (.one .int) (.t s20) (.c (.int .i64 0)) (.t s21))), none⟩, ⟨(some s22), (.call (.c (.func (.func 18) [] [])) [(.c (.int .u8 4))]), none⟩, ⟨none, (.loud (lMset (.one .int) (.t s20) (.c (.int .i64 2)) (.t s22))), none⟩, ⟨(some s23), (.quiet false (qMov (.t s20))), none⟩, ⟨(some s24), (.call (.c (.func (.func 12) [] [])) [(.t s15), (.c (.int .i64 0)), (.t s16), (.t s19), (.t s23)]), none⟩, ⟨(some s14), (.quiet false (qMov (.t s24))), none⟩, ⟨(some s25), (.quiet false (qExt 0 (.t s14))), none⟩, ⟨(some s26), (.quiet false (qExt 1 (.t s14))), none⟩, ⟨(some s3), (.quiet false (qMov (.t s25))), none⟩, ⟨(some s4), (.quiet false (qMov (.t s26))), none⟩])
 (.seq (.draw (.calm ⟨(some s27), (.quiet false (qMov (.t s2))), none⟩ (.calm ⟨(some s28), (.quiet false (qBin .eql (.t s27) (.c (.int .i64 0)))), none⟩ (.calm ⟨(some s29), (.quiet false (qMov (.t s28))), none⟩ (.calm ⟨(some s30), (.quiet false (qMov (.t s1))), (some (s29, true))⟩ (.calm ⟨(some s31), (.quiet false (qLenL (.t s30))), (some (s29, true))⟩ (.calm ⟨(some s32), (.quiet false (qBin .eql (.t s31) (.c (.int .i64 2)))), (some (s29, true))⟩ (.calm ⟨(some s33), (.quiet false (qPick (.t s29) (.t s32) (.c (.bool false)))), none⟩ (.calm ⟨(some s34), (.quiet false (qMov (.t s33))), none⟩ (.calm ⟨(some s35), (.quiet false (qMov (.t s1))), (some (s34, true))⟩ (.calm ⟨(some s36), (.quiet false (qIaddrS 1 (.t s35) (.c (.int .i64 0)))), (some (s34, true))⟩ (.calm ⟨(some s37), (.quiet true (qLoad1 (.t s36))), (some (s34, true))⟩ (.calm ⟨(some s38), (.quiet false (qBin .eql (.t s37) (.c (.int .i64 0)))), (some (s34, true))⟩ (.calm ⟨(some s39), (.quiet false (qPick (.t s34) (.t s38) (.c (.bool false)))), none⟩ (.calm ⟨(some s40), (.quiet false (qMov (.t s39))), none⟩ (.calm ⟨(some s41), (.quiet false (qMov (.t s1))), (some (s40, true))⟩ (.calm ⟨(some s42), (.quiet false (qIaddrS 1 (.t s41) (.c (.int .i64 1)))), (some (s40, true))⟩ (.calm ⟨(some s43), (.quiet true (qLoad1 (.t s42))), (some (s40, true))⟩ (.calm ⟨(some s44), (.quiet false (qBin .eql (.t s43) (.c (.int .i64 2)))), (some (s40, true))⟩ (.calm ⟨(some s45), (.quiet false (qPick (.t s40) (.t s44) (.c (.bool false)))), none⟩ (.calm ⟨(some s46), (.quiet false (qMov (.t s45))), none⟩ (.calm ⟨(some s47), (.quiet false (qMov (.t s4))), (some (s46, true))⟩ (.calm ⟨(some s48), (.quiet false (qBin .eql (.t s47) (.c (.int .i64 0)))), (some (s46, true))⟩ (.calm ⟨(some s49), (.quiet false (qPick (.t s46) (.t s48) (.c (.bool false)))), none⟩ (.calm ⟨(some s50), (.quiet false (qMov (.t s49))), none⟩ (.calm ⟨(some s51), (.quiet false (qMov (.t s3))), (some (s50, true))⟩ (.calm ⟨(some s52), (.quiet true (qLenM (.t s51))), (some (s50, true))⟩ (.calm ⟨(some s53), (.quiet false (qBin .eql (.t s52) (.c (.int .i64 2)))), (some (s50, true))⟩ (.calm ⟨(some s54), (.quiet false (qPick (.t s50) (.t s53) (.c (.bool false)))), none⟩ (.calm ⟨(some s55), (.quiet false (qMov (.t s54))), none⟩ (.calm ⟨(some s56), (.quiet false (qMov (.t s3))), (some (s55, true))⟩ (.calm ⟨(some s57), (.quiet true (qLook (.one .int) false (.str []) (.t s56) (.c (.int .i64 0)))), (some (s55, true))⟩ (.last ⟨⟨(some s58), (.call (.c (.func (.func 18) [] [])) [(.c (.int .u8 1))]), (some (s55, true))⟩, [⟨(some s57), (.quiet true (qLook (.one .int) false (.str []) (.t s56) (.c (.int .i64 0)))), (some (s55, true))⟩]⟩ (.calm ⟨(some s59), (.quiet false (qBin .eql (.t s57) (.t s58))), (some (s55, true))⟩ (.calm ⟨(some s60), (.quiet false (qPick (.t s55) (.t s59) (.c (.bool false)))), none⟩ (.calm ⟨(some s61), (.quiet false (qMov (.t s60))), none⟩ (.calm ⟨(some s62), (.quiet false (qMov (.t s3))), (some (s61, true))⟩ (.calm ⟨(some s63), (.quiet true (qLook (.one .int) false (.str []) (.t s62) (.c (.int .i64 2)))), (some (s61, true))⟩ (.last ⟨⟨(some s64), (.call (.c (.func (.func 18) [] [])) [(.c (.int .u8 7))]), (some (s61, true))⟩, [⟨(some s63), (.quiet true (qLook (.one .int) false (.str []) (.t s62) (.c (.int .i64 2)))), (some (s61, true))⟩]⟩ .fin)))))))))))))))))))))))))))))))))))))) [⟨(some s65), (.quiet false (qBin .eql (.t s63) (.t s64))), (some (s61, true))⟩, ⟨(some s66), (.quiet false (qPick (.t s61) (.t s65) (.c (.bool false)))), none⟩, ⟨(some s0), (.quiet false (qMov (.t s66))), none⟩])
 .ret))))⟩
/- blockyard/row.Needs -/
def c10l0 : ACode :=
 (.seq (.ops [⟨(some s29), (.next (.t s28)), none⟩, ⟨(some s30), (.quiet false (qExt 0 (.t s29))), none⟩])
 (.seq (.cond (.t s30) .skip (.exit 0))
 (.block 1 (.seq (.ops [⟨(some s31), (.quiet true (qEntry (.t s28))), none⟩, ⟨(some s32), (.quiet false (qExt 0 (.t s31))), none⟩, ⟨(some s33), (.quiet false (qExt 1 (.t s31))), none⟩, ⟨(some s12), (.quiet false (qMov (.t s32))), none⟩, ⟨(some s13), (.quiet false (qMov (.t s33))), none⟩])
 (.seq (.ops [⟨(some s34), (.quiet false (qMov (.t s11))), none⟩, ⟨(some s35), (.quiet false (qMov (.t s12))), none⟩, ⟨(some s36), (.call (.c (.func (.func 31) [] [])) [(.t s34), (.t s35)]), none⟩, ⟨(some s37), (.quiet false (qUn .not (.t s36))), none⟩, ⟨(some s38), (.quiet false (qMov (.t s37))), none⟩, ⟨(some s39), (.quiet false (qMov (.t s13))), (some (s38, false))⟩, ⟨(some s40), (.call (.c (.func (.func 32) [] [])) [(.t s39)]), (some (s38, false))⟩, ⟨(some s41), (.quiet false (qUn .not (.t s40))), (some (s38, false))⟩, ⟨(some s42), (.quiet false (qPick (.t s38) (.c (.bool true)) (.t s41))), none⟩])
 (.cond (.t s42) (.seq (.ops [⟨(some s8), (.quiet false (qMov (.c .nilslice))), none⟩, ⟨(some s9), (.quiet false (qMov (.c (.int .i64 1)))), none⟩])
 .ret) .skip))))))
def c10 : AFunc :=
 ⟨74, [(.tmp s8), (.tmp s9)], (.seq (.ops [⟨(some s4), (.alloc (aBox (.t s0))), none⟩, ⟨(some s6), (.alloc (aBox (.t s2))), none⟩, ⟨(some s8), (.quiet false (qMov (.c .nilslice))), none⟩, ⟨(some s9), (.quiet false (qMov (.c (.int .i64 0)))), none⟩])
 (.seq (.seq (.ops [⟨(some s17), (.quiet true (qLoadN 3 (.t s4))), none⟩, ⟨(some s18), (.quiet false (qMov (.t s1))), none⟩, ⟨(some s19), (.quiet true (qLoadN 4 (.t s6))), none⟩, ⟨(some s20), (.call (.c (.func (.func 30) [] [])) [(.t s17), (.t s18), (.t s19)]), none⟩, ⟨(some s10), (.quiet false (qMov (.t s20))), none⟩])
 (.seq (.ops [⟨(some s21), (.quiet false (qMov (.t s10))), none⟩, ⟨(some s22), (.quiet false (qBin .neq (.t s21) (.c (.int .i64 0)))), none⟩])
 (.cond (.t s22) (.seq (.ops [⟨(some s23), (.quiet false (qMov (.t s10))), none⟩, ⟨(some s8), (.quiet false (qMov (.c .nilslice))), none⟩, ⟨(some s9), (.quiet false (qMov (.t s23))), none⟩])
 .ret) .skip)))
 (.seq (.ops [⟨(some s24), (.quiet true (qLoadN 3 (.t s4))), none⟩, ⟨(some s25), (.quiet false (qMov (.t s1))), none⟩, ⟨(some s26), (.call (.c (.func (.func 16) [] [])) [(.t s24), (.t s25)]), none⟩, ⟨(some s11), (.quiet false (qMov (.t s26))), none⟩])
 (.seq (.seq (.ops [⟨(some s27), (.quiet false (qMov (.t s3))), none⟩, ⟨(some s28), (.loud (lRng (.t s27))), none⟩])
 (.block 0 (.loop c10l0)))
 (.seq (.seq (.ops [⟨(some s43), (.quiet false (qMov (.t s3))), none⟩, ⟨(some s44), (.quiet true (qLenM (.t s43))), none⟩, ⟨(some s45), (.quiet false (qBin .eql (.t s44) (.c (.int .i64 0)))), none⟩])
 (.cond (.t s45) (.seq (.ops [⟨(some s8), (.quiet false (qMov (.c .nilslice))), none⟩, ⟨(some s9), (.quiet false (qMov (.c (.int .i64 1)))), none⟩])
 .ret) .skip))
 (.seq (.ops [⟨(some s47), (.quiet true (qLoadN 3 (.t s4))), none⟩, ⟨(some s48), (.quiet false (qMov (.t s1))), none⟩, ⟨(some s49), (.call (.c (.func (.func 27) [] [])) [(.t s47), (.t s48)]), none⟩, ⟨(some s46), (.quiet false (qMov (.t s49))), none⟩, ⟨(some s50), (.quiet false (qExt 0 (.t s46))), none⟩, ⟨(some s51), (.quiet false (qExt 1 (.t s46))), none⟩, ⟨(some s14), (.quiet false (qMov (.t s50))), none⟩, ⟨(some s15), (.quiet false (qMov (.t s51))), none⟩])
 (.seq (.ops [⟨(some s52), (.quiet true (qLoadN 3 (.t s4))), none⟩, ⟨(some s53), (.quiet false (qMov (.t s1))), none⟩, ⟨(some s54), (.quiet false (qMov (.t s3))), none⟩, ⟨(some s55), (.call (.c (.func (.func 33) [] [])) [(.t s52), (.t s53), (.t s54)]), none⟩, ⟨(some s16), (.quiet false (qMov (.t s55))), none⟩])
 (.seq (.block 2 (.seq (.ops [⟨(some s57), (.quiet false (qMov (.t s14))), none⟩, ⟨(some s58), (.quiet false (qIaddrA 4 1 (.t s6) (.t s57))), none⟩, ⟨(some s59), (.quiet true (qLoad1 (.t s58))), none⟩, ⟨(some s60), (.quiet false (qUn .not (.t s59))), none⟩, ⟨(some s56), (.quiet false (qMov (.t s60))), none⟩])
 (.cond (.t s56) (.seq (.ops [⟨(some s8), (.quiet false (qMov (.c .nilslice))), none⟩, ⟨(some s9), (.quiet false (qMov (.c (.int .i64 0)))), none⟩])
 .ret) (.seq (.ops [⟨(some s62), (.quiet true (qLoadN 4 (.t s6))), none⟩, ⟨(some s63), (.quiet false (qMov (.t s16))), none⟩, ⟨(some s64), (.call (.c (.func (.func 34) [] [])) [(.t s62), (.t s63)]), none⟩, ⟨(some s61), (.quiet false (qMov (.t s64))), none⟩])
 (.cond (.t s61) (.seq (.ops [⟨(some s65), (.quiet false (qMov (.t s16))), none⟩, ⟨(some s8), (.quiet false (qMov (.t s65))), none⟩, ⟨(some s9), (.quiet false (qMov (.c (.int .i64 0)))), none⟩])
 .ret) .skip)))))
 (.seq (.ops [⟨(some s66), (.quiet false (qMov (.t s3))), none⟩, ⟨(some s67), (.call (.c (.func (.func 38) [] [])) [(.t s66)]), none⟩, ⟨(some s68), (.call (.c (.func (.func 37) [] [])) [(.t s67)]), none⟩, ⟨(some s69), (.quiet false (qMov (.t s14))), none⟩, ⟨(some s70), (.alloc (aBsl 1 1 [(.int .i64 0)] [(0, (1, (.t s69)))])), none⟩, ⟨(some s71), (.loud (lApp 1 8 (.t s68) (.t s70))), none⟩, ⟨(some s72), (.call (.c (.func (.func 36) [] [])) [(.t s71)]), none⟩, ⟨(some s73), (.call (.c (.func (.func 35) [] [])) [(.t s72)]), none⟩, ⟨(some s8), (.quiet false (qMov (.t s73))), none⟩, ⟨(some s9), (.quiet false (qMov (.c (.int .i64 0)))), none⟩])
 .ret)))))))))⟩
/- blockyard/row.Makes -/
def c12l0 : ACode :=
 (.seq (.ops [⟨(some s39), (.next (.t s38)), none⟩, ⟨(some s40), (.quiet false (qExt 0 (.t s39))), none⟩])
 (.seq (.cond (.t s40) .skip (.exit 0))
 (.block 1 (.seq (.ops [⟨(some s41), (.quiet true (qEntry (.t s38))), none⟩, ⟨(some s42), (.quiet false (qExt 0 (.t s41))), none⟩, ⟨(some s43), (.quiet false (qExt 1 (.t s41))), none⟩, ⟨(some s15), (.quiet false (qMov (.t s42))), none⟩, ⟨(some s16), (.quiet false (qMov (.t s43))), none⟩])
 (.seq (.ops [⟨(some s44), (.quiet false (qMov (.t s15))), none⟩, ⟨(some s45), (.quiet false (qIaddrA 4 1 (.t s7) (.t s44))), none⟩, ⟨(some s46), (.quiet true (qLoad1 (.t s45))), none⟩])
 (.cond (.t s46) (.ops [⟨(some s47), (.quiet false (qMov (.t s14))), none⟩, ⟨(some s48), (.quiet false (qMov (.t s15))), none⟩, ⟨(some s49), (.quiet false (qMov (.t s16))), none⟩, ⟨none, (.loud (lMset (.one .int) (.t s47) (.t s48) (.t s49))), none⟩]) .skip))))))
def c12 : AFunc :=
 ⟨77, [(.tmp s10), (.tmp s11)], (.seq (.ops [⟨(some s5), (.alloc (aBox (.t s0))), none⟩, ⟨(some s7), (.alloc (aBox (.t s2))), none⟩, ⟨(some s10), (.quiet false (qMov (.c .nilmap))), none⟩, ⟨(some s11), (.quiet false (qMov (.c (.int .i64 0)))), none⟩])
 (.seq (.ops [⟨(some s22), (.quiet true (qLoadN 3 (.t s5))), none⟩, ⟨(some s23), (.quiet false (qMov (.t s1))), none⟩, ⟨(some s24), (.quiet true (qLoadN 4 (.t s7))), none⟩, ⟨(some s25), (.quiet false (qMov (.t s3))), none⟩, ⟨(some s26), (.call (.c (.func (.func 10) [] [])) [(.t s22), (.t s23), (.t s24), (.t s25)]), none⟩, ⟨(some s21), (.quiet false (qMov (.t s26))), none⟩, ⟨(some s27), (.quiet false (qExt 0 (.t s21))), none⟩, ⟨(some s28), (.quiet false (qExt 1 (.t s21))), none⟩, ⟨(some s12), (.quiet false (qMov (.t s27))), none⟩, ⟨(some s13), (.quiet false (qMov (.t s28))), none⟩])
 (.seq (.seq (.ops [⟨(some s29), (.quiet false (qMov (.t s13))), none⟩, ⟨(some s30), (.quiet false (qBin .neq (.t s29) (.c (.int .i64 0)))), none⟩])
 (.cond (.t s30) (.seq (.ops [⟨(some s31), (.quiet false (qMov (.t s13))), none⟩, ⟨(some s10), (.quiet false (qMov (.c .nilmap))), none⟩, ⟨(some s11), (.quiet false (qMov (.t s31))), none⟩])
 .ret) .skip))
 (.seq (.seq (.ops [⟨(some s32), (.quiet false (qMov (.t s4))), none⟩, ⟨(some s33), (.quiet false (qMov (.t s12))), none⟩, ⟨(some s34), (.call (.c (.func (.func 41) [] [])) [(.t s32), (.t s33)]), none⟩, ⟨(some s35), (.quiet false (qUn .not (.t s34))), none⟩])
 (.cond (.t s35) (.seq (.ops [⟨(some s10), (.quiet false (qMov (.c .nilmap))), none⟩, ⟨(some s11), (.quiet false (qMov (.c (.int .i64 1)))), none⟩])
 .ret) .skip))
 (.seq (.ops [⟨(some s36), (.alloc aMkm), none⟩, ⟨(some s14), (.quiet false (qMov (.t s36))), none⟩])
 (.seq (.seq (.ops [⟨(some s37), (.quiet false (qMov (.t s3))), none⟩, ⟨(some s38), (.loud (lRng (.t s37))), none⟩])
 (.block 0 (.loop c12l0)))
 (.seq (.seq (.ops [⟨(some s51), (.quiet true (qLoadN 3 (.t s5))), none⟩, ⟨(some s52), (.quiet false (qMov (.t s1))), none⟩, ⟨(some s53), (.call (.c (.func (.func 27) [] [])) [(.t s51), (.t s52)]), none⟩, ⟨(some s50), (.quiet false (qMov (.t s53))), none⟩, ⟨(some s54), (.quiet false (qExt 0 (.t s50))), none⟩, ⟨(some s55), (.quiet false (qExt 1 (.t s50))), none⟩, ⟨(some s17), (.quiet false (qMov (.t s54))), none⟩, ⟨(some s18), (.quiet false (qMov (.t s55))), none⟩])
 (.seq (.ops [⟨(some s56), (.quiet false (qMov (.t s17))), none⟩, ⟨(some s57), (.quiet false (qIaddrA 4 1 (.t s7) (.t s56))), none⟩, ⟨(some s58), (.quiet true (qLoad1 (.t s57))), none⟩])
 (.cond (.t s58) (.seq (.ops [⟨(some s60), (.quiet false (qMov (.t s3))), none⟩, ⟨(some s61), (.call (.c (.func (.func 43) [] [])) [(.t s60)]), none⟩, ⟨(some s62), (.call (.c (.func (.func 42) [] [])) [(.t s61)]), none⟩, ⟨(some s63), (.quiet false (qMov (.t s4))), none⟩, ⟨(some s64), (.quiet false (qMov (.t s12))), none⟩, ⟨(some s65), (.call (.c (.func (.func 44) [] [])) [(.t s63), (.t s64)]), none⟩, ⟨(some s66), (.loud (lApp 1 16 (.t s62) (.t s65))), none⟩, ⟨(some s67), (.call (.c (.func (.func 28) [] [])) [(.t s66)]), none⟩, ⟨(some s59), (.quiet false (qMov (.t s67))), none⟩, ⟨(some s68), (.quiet false (qExt 0 (.t s59))), none⟩, ⟨(some s69), (.quiet false (qExt 1 (.t s59))), none⟩, ⟨(some s19), (.quiet false (qMov (.t s68))), none⟩, ⟨(some s20), (.quiet false (qMov (.t s69))), none⟩])
 (.seq (.seq (.ops [⟨(some s70), (.quiet false (qMov (.t s20))), none⟩, ⟨(some s71), (.quiet false (qBin .neq (.t s70) (.c (.int .i64 0)))), none⟩])
 (.cond (.t s71) (.seq (.ops [⟨(some s72), (.quiet false (qMov (.t s20))), none⟩, ⟨(some s10), (.quiet false (qMov (.c .nilmap))), none⟩, ⟨(some s11), (.quiet false (qMov (.t s72))), none⟩])
 .ret) .skip))
 (.ops [⟨(some s73), (.quiet false (qMov (.t s14))), none⟩, ⟨(some s74), (.quiet false (qMov (.t s17))), none⟩, ⟨(some s75), (.quiet false (qMov (.t s19))), none⟩, ⟨none, (.loud (lMset (.one .int) (.t s73) (.t s74) (.t s75))), none⟩]))) .skip)))
 (.seq (.ops [⟨(some s76), (.quiet false (qMov (.t s14))), none⟩, ⟨(some s10), (.quiet false (qMov (.t s76))), none⟩, ⟨(some s11), (.quiet false (qMov (.c (.int .i64 0)))), none⟩])
 .ret))))))))⟩
/- blockyard/blockyardlaw22.sameInts -/
def c14l0 : ACode :=
 (.seq (.seq (.ops [⟨(some s11), (.quiet false (qMov (.t s5))), none⟩, ⟨(some s12), (.quiet false (qMov (.t s0))), none⟩, ⟨(some s13), (.quiet false (qLenL (.t s12))), none⟩, ⟨(some s14), (.quiet false (qBin .lss (.t s11) (.t s13))), none⟩])
 (.cond (.t s14) .skip (.exit 0)))
 (.seq (.block 1 (.seq (.draw (.calm ⟨(some s17), (.quiet false (qMov (.t s0))), none⟩ (.calm ⟨(some s18), (.quiet false (qMov (.t s5))), none⟩ (.calm ⟨(some s19), (.quiet false (qIaddrS 1 (.t s17) (.t s18))), none⟩ (.calm ⟨(some s20), (.quiet true (qLoad1 (.t s19))), none⟩ (.calm ⟨(some s21), (.quiet false (qMov (.t s1))), none⟩ (.calm ⟨(some s22), (.quiet false (qMov (.t s5))), none⟩ (.calm ⟨(some s23), (.quiet false (qIaddrS 1 (.t s21) (.t s22))), none⟩ (.calm ⟨(some s24), (.quiet true (qLoad1 (.t s23))), none⟩ .fin)))))))) [⟨(some s25), (.quiet false (qBin .neq (.t s20) (.t s24))), none⟩])
 (.cond (.t s25) (.seq (.ops [⟨(some s4), (.quiet false (qMov (.c (.bool false)))), none⟩])
 .ret) .skip)))
 (.ops [⟨(some s15), (.quiet false (qMov (.t s5))), none⟩, ⟨(some s16), (.quiet false (qBin .add (.t s15) (.c (.int .i64 1)))), none⟩, ⟨(some s5), (.quiet false (qMov (.t s16))), none⟩])))
def c14 : AFunc :=
 ⟨26, [(.tmp s4)], (.seq (.ops [⟨(some s4), (.quiet false (qMov (.c (.bool false)))), none⟩])
 (.seq (.seq (.ops [⟨(some s6), (.quiet false (qMov (.t s0))), none⟩, ⟨(some s7), (.quiet false (qLenL (.t s6))), none⟩, ⟨(some s8), (.quiet false (qMov (.t s1))), none⟩, ⟨(some s9), (.quiet false (qLenL (.t s8))), none⟩, ⟨(some s10), (.quiet false (qBin .neq (.t s7) (.t s9))), none⟩])
 (.cond (.t s10) (.seq (.ops [⟨(some s4), (.quiet false (qMov (.c (.bool false)))), none⟩])
 .ret) .skip))
 (.seq (.seq (.ops [⟨(some s5), (.quiet false (qMov (.c (.int .i64 0)))), none⟩])
 (.block 0 (.loop c14l0)))
 (.seq (.ops [⟨(some s4), (.quiet false (qMov (.c (.bool true)))), none⟩])
 .ret))))⟩
/- blockyard/place.Data -/
def c16l0 : ACode :=
 (.seq (.ops [⟨(some s21), (.quiet false (qBin .lss (.t s20) (.t s19))), none⟩])
 (.seq (.cond (.t s21) .skip (.exit 0))
 (.seq (.block 1 (.seq (.ops [⟨(some s22), (.quiet false (qMov (.t s20))), none⟩, ⟨(some s8), (.quiet false (qMov (.t s22))), none⟩])
 (.ops [⟨(some s23), (.quiet false (qMov (.t s7))), none⟩, ⟨(some s24), (.quiet false (qMov (.t s5))), none⟩, ⟨(some s25), (.quiet false (qBin .add (.t s24) (.c (.int .i64 1)))), none⟩, ⟨(some s26), (.quiet false (qMov (.t s8))), none⟩, ⟨(some s27), (.quiet false (qBin .add (.t s25) (.t s26))), none⟩, ⟨(some s28), (.quiet false (qFaddr 1 (.t s2))), none⟩, ⟨(some s29), (.quiet true (qLoad1 (.t s28))), none⟩, ⟨(some s30), (.quiet false (qBin .rem (.t s27) (.t s29))), none⟩, ⟨(some s31), (.alloc (aBsl 1 1 [(.int .i64 0)] [(0, (1, (.t s30)))])), none⟩, ⟨(some s32), (.loud (lApp 1 8 (.t s23) (.t s31))), none⟩, ⟨(some s7), (.quiet false (qMov (.t s32))), none⟩])))
 (.ops [⟨(some s33), (.quiet false (qBin .add (.t s20) (.c (.int .i64 1)))), none⟩, ⟨(some s20), (.quiet false (qMov (.t s33))), none⟩]))))
def c16 : AFunc :=
 ⟨35, [(.tmp s4)], (.seq (.ops [⟨(some s2), (.alloc (aBox (.t s0))), none⟩, ⟨(some s4), (.quiet false (qMov (.c .nilslice))), none⟩])
 (.seq (.ops [⟨(some s10), (.quiet true (qLoadN 3 (.t s2))), none⟩, ⟨(some s11), (.quiet false (qMov (.t s1))), none⟩, ⟨(some s12), (.call (.c (.func (.func 27) [] [])) [(.t s10), (.t s11)]), none⟩, ⟨(some s9), (.quiet false (qMov (.t s12))), none⟩, ⟨(some s13), (.quiet false (qExt 0 (.t s9))), none⟩, ⟨(some s14), (.quiet false (qExt 1 (.t s9))), none⟩, ⟨(some s5), (.quiet false (qMov (.t s13))), none⟩, ⟨(some s6), (.quiet false (qMov (.t s14))), none⟩])
 (.seq (.seq (.ops [⟨(some s15), (.quiet false (qMov (.t s6))), none⟩, ⟨(some s16), (.quiet false (qUn .not (.t s15))), none⟩])
 (.cond (.t s16) (.seq (.ops [⟨(some s4), (.quiet false (qMov (.c .nilslice))), none⟩])
 .ret) .skip))
 (.seq (.ops [⟨(some s7), (.quiet false (qMov (.c .nilslice))), none⟩])
 (.seq (.seq (.ops [⟨(some s17), (.quiet false (qFaddr 1 (.t s2))), none⟩, ⟨(some s18), (.quiet true (qLoad1 (.t s17))), none⟩, ⟨(some s19), (.quiet false (qBin .sub (.t s18) (.c (.int .i64 1)))), none⟩, ⟨(some s20), (.quiet false (qMov (.c (.int .i64 0)))), none⟩])
 (.block 0 (.loop c16l0)))
 (.seq (.ops [⟨(some s34), (.quiet false (qMov (.t s7))), none⟩, ⟨(some s4), (.quiet false (qMov (.t s34))), none⟩])
 .ret))))))⟩
/- blockyard/blockyardlaw22.full -/
def c18l0 : ACode :=
 (.seq (.seq (.ops [⟨(some s6), (.quiet false (qMov (.t s4))), none⟩, ⟨(some s7), (.quiet false (qBin .lss (.t s6) (.c (.int .i64 64)))), none⟩])
 (.cond (.t s7) .skip (.exit 0)))
 (.seq (.block 1 (.ops [⟨(some s10), (.quiet false (qMov (.t s3))), none⟩, ⟨(some s11), (.quiet false (qMov (.t s4))), none⟩, ⟨(some s12), (.quiet false (qMov (.t s0))), none⟩, ⟨(some s13), (.quiet false (qIaddrS 1 (.t s10) (.t s11))), none⟩, ⟨none, (.loud (lSto 1 (.t s13) (.t s12))), none⟩]))
 (.ops [⟨(some s8), (.quiet false (qMov (.t s4))), none⟩, ⟨(some s9), (.quiet false (qBin .add (.t s8) (.c (.int .i64 1)))), none⟩, ⟨(some s4), (.quiet false (qMov (.t s9))), none⟩])))
def c18 : AFunc :=
 ⟨16, [(.tmp s2)], (.seq (.ops [⟨(some s2), (.quiet false (qMov (.c (.str [])))), none⟩])
 (.seq (.ops [⟨(some s5), (.alloc (aMks 1 1 [(.int .u8 0)] (.c (.int .i64 64)) (.c (.int .i64 64)))), none⟩, ⟨(some s3), (.quiet false (qMov (.t s5))), none⟩])
 (.seq (.seq (.ops [⟨(some s4), (.quiet false (qMov (.c (.int .i64 0)))), none⟩])
 (.block 0 (.loop c18l0)))
 (.seq (.ops [⟨(some s14), (.quiet false (qMov (.t s3))), none⟩, ⟨(some s15), (.quiet true (qB2s (.t s14))), none⟩, ⟨(some s2), (.quiet false (qMov (.t s15))), none⟩])
 .ret))))⟩
/- blockyard/row.Reads -/
def c19l0 : ACode :=
 (.seq (.ops [⟨(some s36), (.quiet false (qBin .lss (.t s35) (.t s34))), none⟩])
 (.seq (.cond (.t s36) .skip (.exit 0))
 (.seq (.block 1 (.seq (.ops [⟨(some s37), (.quiet false (qMov (.t s35))), none⟩, ⟨(some s12), (.quiet false (qMov (.t s37))), none⟩])
 (.seq (.ops [⟨(some s38), (.quiet false (qMov (.t s12))), none⟩, ⟨(some s39), (.quiet false (qMov (.t s3))), none⟩, ⟨(some s40), (.quiet false (qBin .neq (.t s38) (.t s39))), none⟩])
 (.cond (.t s40) (.ops [⟨(some s41), (.quiet false (qMov (.t s11))), none⟩, ⟨(some s42), (.quiet false (qMov (.t s12))), none⟩, ⟨(some s43), (.alloc (aBsl 1 1 [(.int .i64 0)] [(0, (1, (.t s42)))])), none⟩, ⟨(some s44), (.loud (lApp 1 8 (.t s41) (.t s43))), none⟩, ⟨(some s11), (.quiet false (qMov (.t s44))), none⟩]) .skip))))
 (.ops [⟨(some s45), (.quiet false (qBin .add (.t s35) (.c (.int .i64 1)))), none⟩, ⟨(some s35), (.quiet false (qMov (.t s45))), none⟩]))))
def c19 : AFunc :=
 ⟨47, [(.tmp s8), (.tmp s9)], (.seq (.ops [⟨(some s4), (.alloc (aBox (.t s0))), none⟩, ⟨(some s6), (.alloc (aBox (.t s2))), none⟩, ⟨(some s8), (.quiet false (qMov (.c .nilslice))), none⟩, ⟨(some s9), (.quiet false (qMov (.c (.int .i64 0)))), none⟩])
 (.seq (.seq (.ops [⟨(some s13), (.quiet true (qLoadN 3 (.t s4))), none⟩, ⟨(some s14), (.quiet false (qMov (.t s1))), none⟩, ⟨(some s15), (.quiet true (qLoadN 4 (.t s6))), none⟩, ⟨(some s16), (.call (.c (.func (.func 30) [] [])) [(.t s13), (.t s14), (.t s15)]), none⟩, ⟨(some s10), (.quiet false (qMov (.t s16))), none⟩])
 (.seq (.ops [⟨(some s17), (.quiet false (qMov (.t s10))), none⟩, ⟨(some s18), (.quiet false (qBin .neq (.t s17) (.c (.int .i64 0)))), none⟩])
 (.cond (.t s18) (.seq (.ops [⟨(some s19), (.quiet false (qMov (.t s10))), none⟩, ⟨(some s8), (.quiet false (qMov (.c .nilslice))), none⟩, ⟨(some s9), (.quiet false (qMov (.t s19))), none⟩])
 .ret) .skip)))
 (.seq (.seq (.ops [⟨(some s20), (.quiet false (qMov (.t s3))), none⟩, ⟨(some s21), (.quiet false (qBin .lss (.t s20) (.c (.int .i64 0)))), none⟩, ⟨(some s22), (.quiet false (qMov (.t s21))), none⟩, ⟨(some s23), (.quiet false (qMov (.t s3))), (some (s22, false))⟩, ⟨(some s24), (.quiet false (qFaddr 1 (.t s4))), (some (s22, false))⟩, ⟨(some s25), (.quiet true (qLoad1 (.t s24))), (some (s22, false))⟩, ⟨(some s26), (.quiet false (qBin .geq (.t s23) (.t s25))), (some (s22, false))⟩, ⟨(some s27), (.quiet false (qPick (.t s22) (.c (.bool true)) (.t s26))), none⟩])
 (.cond (.t s27) (.seq (.ops [⟨(some s8), (.quiet false (qMov (.c .nilslice))), none⟩, ⟨(some s9), (.quiet false (qMov (.c (.int .i64 1)))), none⟩])
 .ret) .skip))
 (.seq (.seq (.ops [⟨(some s28), (.quiet false (qMov (.t s3))), none⟩, ⟨(some s29), (.quiet false (qIaddrA 4 1 (.t s6) (.t s28))), none⟩, ⟨(some s30), (.quiet true (qLoad1 (.t s29))), none⟩])
 (.cond (.t s30) (.seq (.ops [⟨(some s31), (.quiet false (qMov (.t s3))), none⟩, ⟨(some s32), (.alloc (aBsl 1 1 [(.int .i64 0)] [(0, (1, (.t s31)))])), none⟩, ⟨(some s8), (.quiet false (qMov (.t s32))), none⟩, ⟨(some s9), (.quiet false (qMov (.c (.int .i64 0)))), none⟩])
 .ret) .skip))
 (.seq (.ops [⟨(some s11), (.quiet false (qMov (.c .nilslice))), none⟩])
 (.seq (.seq (.ops [⟨(some s33), (.quiet false (qFaddr 1 (.t s4))), none⟩, ⟨(some s34), (.quiet true (qLoad1 (.t s33))), none⟩, ⟨(some s35), (.quiet false (qMov (.c (.int .i64 0)))), none⟩])
 (.block 0 (.loop c19l0)))
 (.seq (.ops [⟨(some s46), (.quiet false (qMov (.t s11))), none⟩, ⟨(some s8), (.quiet false (qMov (.t s46))), none⟩, ⟨(some s9), (.quiet false (qMov (.c (.int .i64 0)))), none⟩])
 .ret)))))))⟩
/- blockyard/blockyardref22.Reads -/
def c20l0 : ACode :=
 (.seq (.seq (.ops [⟨(some s28), (.quiet false (qMov (.t s12))), none⟩, ⟨(some s29), (.quiet false (qFaddr 1 (.t s4))), none⟩, ⟨(some s30), (.quiet true (qLoad1 (.t s29))), none⟩, ⟨(some s31), (.quiet false (qBin .lss (.t s28) (.t s30))), none⟩])
 (.cond (.t s31) .skip (.exit 0)))
 (.seq (.block 1 (.seq (.ops [⟨(some s34), (.quiet false (qMov (.t s3))), none⟩, ⟨(some s35), (.quiet false (qIaddrA 4 1 (.t s6) (.t s34))), none⟩, ⟨(some s36), (.quiet true (qLoad1 (.t s35))), none⟩, ⟨(some s37), (.quiet false (qMov (.t s12))), none⟩, ⟨(some s38), (.quiet false (qMov (.t s3))), none⟩, ⟨(some s39), (.quiet false (qBin .eql (.t s37) (.t s38))), none⟩, ⟨(some s40), (.quiet false (qEqv false (.one .bool) (.t s36) (.t s39))), none⟩])
 (.cond (.t s40) (.ops [⟨(some s41), (.quiet false (qMov (.t s11))), none⟩, ⟨(some s42), (.quiet false (qMov (.t s12))), none⟩, ⟨(some s43), (.alloc (aBsl 1 1 [(.int .i64 0)] [(0, (1, (.t s42)))])), none⟩, ⟨(some s44), (.loud (lApp 1 8 (.t s41) (.t s43))), none⟩, ⟨(some s11), (.quiet false (qMov (.t s44))), none⟩]) .skip)))
 (.ops [⟨(some s32), (.quiet false (qMov (.t s12))), none⟩, ⟨(some s33), (.quiet false (qBin .add (.t s32) (.c (.int .i64 1)))), none⟩, ⟨(some s12), (.quiet false (qMov (.t s33))), none⟩])))
def c20 : AFunc :=
 ⟨46, [(.tmp s8), (.tmp s9)], (.seq (.ops [⟨(some s4), (.alloc (aBox (.t s0))), none⟩, ⟨(some s6), (.alloc (aBox (.t s2))), none⟩, ⟨(some s8), (.quiet false (qMov (.c .nilslice))), none⟩, ⟨(some s9), (.quiet false (qMov (.c (.int .i64 0)))), none⟩])
 (.seq (.ops [⟨(some s13), (.quiet true (qLoadN 3 (.t s4))), none⟩, ⟨(some s14), (.quiet false (qMov (.t s1))), none⟩, ⟨(some s15), (.quiet true (qLoadN 4 (.t s6))), none⟩, ⟨(some s16), (.call (.c (.func (.func 39) [] [])) [(.t s13), (.t s14), (.t s15)]), none⟩, ⟨(some s10), (.quiet false (qMov (.t s16))), none⟩])
 (.seq (.seq (.ops [⟨(some s17), (.quiet false (qMov (.t s10))), none⟩, ⟨(some s18), (.quiet false (qBin .neq (.t s17) (.c (.int .i64 0)))), none⟩])
 (.cond (.t s18) (.seq (.ops [⟨(some s19), (.quiet false (qMov (.t s10))), none⟩, ⟨(some s8), (.quiet false (qMov (.c .nilslice))), none⟩, ⟨(some s9), (.quiet false (qMov (.t s19))), none⟩])
 .ret) .skip))
 (.seq (.seq (.ops [⟨(some s20), (.quiet false (qMov (.t s3))), none⟩, ⟨(some s21), (.quiet false (qBin .lss (.t s20) (.c (.int .i64 0)))), none⟩, ⟨(some s22), (.quiet false (qMov (.t s21))), none⟩, ⟨(some s23), (.quiet false (qMov (.t s3))), (some (s22, false))⟩, ⟨(some s24), (.quiet false (qFaddr 1 (.t s4))), (some (s22, false))⟩, ⟨(some s25), (.quiet true (qLoad1 (.t s24))), (some (s22, false))⟩, ⟨(some s26), (.quiet false (qBin .geq (.t s23) (.t s25))), (some (s22, false))⟩, ⟨(some s27), (.quiet false (qPick (.t s22) (.c (.bool true)) (.t s26))), none⟩])
 (.cond (.t s27) (.seq (.ops [⟨(some s8), (.quiet false (qMov (.c .nilslice))), none⟩, ⟨(some s9), (.quiet false (qMov (.c (.int .i64 1)))), none⟩])
 .ret) .skip))
 (.seq (.ops [⟨(some s11), (.quiet false (qMov (.c .nilslice))), none⟩])
 (.seq (.seq (.ops [⟨(some s12), (.quiet false (qMov (.c (.int .i64 0)))), none⟩])
 (.block 0 (.loop c20l0)))
 (.seq (.ops [⟨(some s45), (.quiet false (qMov (.t s11))), none⟩, ⟨(some s8), (.quiet false (qMov (.t s45))), none⟩, ⟨(some s9), (.quiet false (qMov (.c (.int .i64 0)))), none⟩])
 .ret)))))))⟩
/- blockyard/row.Value -/
def c21 : AFunc :=
 ⟨35, [(.tmp s10), (.tmp s11)], (.seq (.ops [⟨(some s5), (.alloc (aBox (.t s0))), none⟩, ⟨(some s7), (.alloc (aBox (.t s2))), none⟩, ⟨(some s10), (.quiet false (qMov (.c (.str [])))), none⟩, ⟨(some s11), (.quiet false (qMov (.c (.int .i64 0)))), none⟩])
 (.seq (.ops [⟨(some s15), (.quiet true (qLoadN 3 (.t s5))), none⟩, ⟨(some s16), (.quiet false (qMov (.t s1))), none⟩, ⟨(some s17), (.quiet true (qLoadN 4 (.t s7))), none⟩, ⟨(some s18), (.quiet false (qMov (.t s3))), none⟩, ⟨(some s19), (.call (.c (.func (.func 19) [] [])) [(.t s15), (.t s16), (.t s17), (.t s18)]), none⟩, ⟨(some s14), (.quiet false (qMov (.t s19))), none⟩, ⟨(some s20), (.quiet false (qExt 0 (.t s14))), none⟩, ⟨(some s21), (.quiet false (qExt 1 (.t s14))), none⟩, ⟨(some s12), (.quiet false (qMov (.t s20))), none⟩, ⟨(some s13), (.quiet false (qMov (.t s21))), none⟩])
 (.seq (.seq (.ops [⟨(some s22), (.quiet false (qMov (.t s13))), none⟩, ⟨(some s23), (.quiet false (qBin .neq (.t s22) (.c (.int .i64 0)))), none⟩])
 (.cond (.t s23) (.seq (.ops [⟨(some s24), (.quiet false (qMov (.t s13))), none⟩, ⟨(some s10), (.quiet false (qMov (.c (.str [])))), none⟩, ⟨(some s11), (.quiet false (qMov (.t s24))), none⟩])
 .ret) .skip))
 (.seq (.seq (.ops [⟨(some s25), (.quiet false (qMov (.t s4))), none⟩, ⟨(some s26), (.quiet false (qMov (.t s12))), none⟩, ⟨(some s27), (.call (.c (.func (.func 41) [] [])) [(.t s25), (.t s26)]), none⟩, ⟨(some s28), (.quiet false (qUn .not (.t s27))), none⟩])
 (.cond (.t s28) (.seq (.ops [⟨(some s10), (.quiet false (qMov (.c (.str [])))), none⟩, ⟨(some s11), (.quiet false (qMov (.c (.int .i64 1)))), none⟩])
 .ret) .skip))
 (.seq (.ops [⟨(some s29), (.quiet false (qMov (.t s4))), none⟩, ⟨(some s30), (.quiet false (qMov (.t s12))), none⟩, ⟨(some s31), (.call (.c (.func (.func 44) [] [])) [(.t s29), (.t s30)]), none⟩, ⟨(some s32), (.call (.c (.func (.func 28) [] [])) [(.t s31)]), none⟩, ⟨(some s33), (.quiet false (qExt 0 (.t s32))), none⟩, ⟨(some s34), (.quiet false (qExt 1 (.t s32))), none⟩, ⟨(some s10), (.quiet false (qMov (.t s33))), none⟩, ⟨(some s11), (.quiet false (qMov (.t s34))), none⟩])
 .ret)))))⟩
/- blockyard/blockyardref22.Value -/
def c22 : AFunc :=
 ⟨43, [(.tmp s10), (.tmp s11)], (.seq (.ops [⟨(some s5), (.alloc (aBox (.t s0))), none⟩, ⟨(some s7), (.alloc (aBox (.t s2))), none⟩, ⟨(some s10), (.quiet false (qMov (.c (.str [])))), none⟩, ⟨(some s11), (.quiet false (qMov (.c (.int .i64 0)))), none⟩])
 (.seq (.ops [⟨(some s19), (.quiet true (qLoadN 3 (.t s5))), none⟩, ⟨(some s20), (.quiet false (qMov (.t s1))), none⟩, ⟨(some s21), (.quiet true (qLoadN 4 (.t s7))), none⟩, ⟨(some s22), (.quiet false (qMov (.t s3))), none⟩, ⟨(some s23), (.call (.c (.func (.func 20) [] [])) [(.t s19), (.t s20), (.t s21), (.t s22)]), none⟩, ⟨(some s18), (.quiet false (qMov (.t s23))), none⟩, ⟨(some s24), (.quiet false (qExt 0 (.t s18))), none⟩, ⟨(some s25), (.quiet false (qExt 1 (.t s18))), none⟩, ⟨(some s12), (.quiet false (qMov (.t s24))), none⟩, ⟨(some s13), (.quiet false (qMov (.t s25))), none⟩])
 (.seq (.seq (.ops [⟨(some s26), (.quiet false (qMov (.t s13))), none⟩, ⟨(some s27), (.quiet false (qBin .neq (.t s26) (.c (.int .i64 0)))), none⟩])
 (.cond (.t s27) (.seq (.ops [⟨(some s28), (.quiet false (qMov (.t s13))), none⟩, ⟨(some s10), (.quiet false (qMov (.c (.str [])))), none⟩, ⟨(some s11), (.quiet false (qMov (.t s28))), none⟩])
 .ret) .skip))
 (.seq (.ops [⟨(some s30), (.quiet false (qMov (.t s4))), none⟩, ⟨(some s31), (.quiet false (qMov (.t s12))), none⟩, ⟨(some s32), (.call (.c (.func (.func 45) [] [])) [(.t s30), (.t s31)]), none⟩, ⟨(some s29), (.quiet false (qMov (.t s32))), none⟩, ⟨(some s33), (.quiet false (qExt 0 (.t s29))), none⟩, ⟨(some s34), (.quiet false (qExt 1 (.t s29))), none⟩, ⟨(some s14), (.quiet false (qMov (.t s33))), none⟩, ⟨(some s15), (.quiet false (qMov (.t s34))), none⟩])
 (.seq (.seq (.ops [⟨(some s35), (.quiet false (qMov (.t s15))), none⟩, ⟨(some s36), (.quiet false (qUn .not (.t s35))), none⟩])
 (.cond (.t s36) (.seq (.ops [⟨(some s10), (.quiet false (qMov (.c (.str [])))), none⟩, ⟨(some s11), (.quiet false (qMov (.c (.int .i64 1)))), none⟩])
 .ret) .skip))
 (.seq (.ops [⟨(some s38), (.quiet false (qMov (.t s14))), none⟩, ⟨(some s39), (.call (.c (.func (.func 46) [] [])) [(.t s38)]), none⟩, ⟨(some s37), (.quiet false (qMov (.t s39))), none⟩, ⟨(some s40), (.quiet false (qExt 0 (.t s37))), none⟩, ⟨(some s41), (.quiet false (qExt 1 (.t s37))), none⟩, ⟨(some s16), (.quiet false (qMov (.t s40))), none⟩, ⟨(some s17), (.quiet false (qMov (.t s41))), none⟩])
 (.seq (.ops [⟨(some s42), (.quiet false (qMov (.t s16))), none⟩, ⟨(some s10), (.quiet false (qMov (.t s42))), none⟩, ⟨(some s11), (.quiet false (qMov (.c (.int .i64 0)))), none⟩])
 .ret)))))))⟩
/- blockyard/place.Parity -/
def c27 : AFunc :=
 ⟨24, [(.tmp s4), (.tmp s5)], (.seq (.ops [⟨(some s2), (.alloc (aBox (.t s0))), none⟩, ⟨(some s4), (.quiet false (qMov (.c (.int .i64 0)))), none⟩, ⟨(some s5), (.quiet false (qMov (.c (.bool false)))), none⟩])
 (.seq (.block 0 (.seq (.ops [⟨(some s7), (.quiet true (qLoadN 3 (.t s2))), none⟩, ⟨(some s8), (.quiet false (qMov (.t s1))), none⟩, ⟨(some s9), (.call (.c (.func (.func 47) [] [])) [(.t s7), (.t s8)]), none⟩, ⟨(some s10), (.quiet false (qUn .not (.t s9))), none⟩, ⟨(some s6), (.quiet false (qMov (.t s10))), none⟩])
 (.cond (.t s6) (.seq (.ops [⟨(some s4), (.quiet false (qMov (.c (.int .i64 0)))), none⟩, ⟨(some s5), (.quiet false (qMov (.c (.bool false)))), none⟩])
 .ret) (.seq (.ops [⟨(some s12), (.quiet false (qFaddr 0 (.t s2))), none⟩, ⟨(some s13), (.quiet true (qLoad1 (.t s12))), none⟩, ⟨(some s14), (.quiet false (qBin .eql (.t s13) (.c (.int .i64 1)))), none⟩, ⟨(some s11), (.quiet false (qMov (.t s14))), none⟩])
 (.cond (.t s11) (.seq (.ops [⟨(some s4), (.quiet false (qMov (.c (.int .i64 1)))), none⟩, ⟨(some s5), (.quiet false (qMov (.c (.bool true)))), none⟩])
 .ret) .skip)))))
 (.seq (.draw (.calm ⟨(some s15), (.quiet false (qFaddr 1 (.t s2))), none⟩ (.calm ⟨(some s16), (.quiet true (qLoad1 (.t s15))), none⟩ (.calm ⟨(some s17), (.quiet false (qBin .sub (.t s16) (.c (.int .i64 1)))), none⟩ (.calm ⟨(some s18), (.quiet false (qMov (.t s1))), none⟩ (.calm ⟨(some s19), (.quiet false (qBin .quo (.t s18) (.c (.int .i64 2)))), none⟩ (.calm ⟨(some s20), (.quiet false (qFaddr 1 (.t s2))), none⟩ (.calm ⟨(some s21), (.quiet true (qLoad1 (.t s20))), none⟩ (.calm ⟨(some s22), (.quiet false (qBin .rem (.t s19) (.t s21))), none⟩ .fin)))))))) [⟨(some s23), (.quiet false (qBin .sub (.t s17) (.t s22))), none⟩, ⟨(some s4), (.quiet false (qMov (.t s23))), none⟩, ⟨(some s5), (.quiet false (qMov (.c (.bool true)))), none⟩])
 .ret)))⟩
/- blockyard/parity.Sum -/
def c28l0 : ACode :=
 (.seq (.ops [⟨(some s21), (.quiet false (qBin .lss (.t s20) (.t s19))), none⟩])
 (.seq (.cond (.t s21) .skip (.exit 2))
 (.seq (.block 3 (.seq (.ops [⟨(some s22), (.quiet false (qMov (.t s20))), none⟩, ⟨(some s7), (.quiet false (qMov (.t s22))), none⟩])
 (.draw (.calm ⟨(some s23), (.quiet false (qMov (.t s4))), none⟩ (.calm ⟨(some s24), (.quiet false (qMov (.t s7))), none⟩ (.calm ⟨(some s25), (.quiet false (qIaddrS 1 (.t s23) (.t s24))), none⟩ (.calm ⟨(some s26), (.quiet true (qLoad1 (.t s25))), none⟩ (.calm ⟨(some s27), (.quiet false (qMov (.t s6))), none⟩ (.calm ⟨(some s28), (.quiet false (qMov (.t s7))), none⟩ (.calm ⟨(some s29), (.quiet false (qIdxS (.t s27) (.t s28))), none⟩ .fin))))))) [⟨(some s30), (.quiet false (qBin .xor (.t s26) (.t s29))), none⟩, ⟨(some s31), (.quiet false (qIaddrS 1 (.t s23) (.t s24))), none⟩, ⟨none, (.loud (lSto 1 (.t s31) (.t s30))), none⟩])))
 (.ops [⟨(some s32), (.quiet false (qBin .add (.t s20) (.c (.int .i64 1)))), none⟩, ⟨(some s20), (.quiet false (qMov (.t s32))), none⟩]))))
def c28l1 : ACode :=
 (.seq (.ops [⟨(some s12), (.quiet false (qBin .lss (.t s11) (.t s10))), none⟩])
 (.seq (.cond (.t s12) .skip (.exit 0))
 (.seq (.block 1 (.seq (.ops [⟨(some s13), (.quiet false (qIaddrS 1 (.t s9) (.t s11))), none⟩, ⟨(some s14), (.quiet true (qLoad1 (.t s13))), none⟩, ⟨(some s6), (.quiet false (qMov (.t s14))), none⟩])
 (.seq (.seq (.ops [⟨(some s15), (.quiet false (qMov (.t s6))), none⟩, ⟨(some s16), (.call (.c (.func (.func 32) [] [])) [(.t s15)]), none⟩, ⟨(some s17), (.quiet false (qUn .not (.t s16))), none⟩])
 (.cond (.t s17) (.seq (.ops [⟨(some s2), (.quiet false (qMov (.c (.str [])))), none⟩, ⟨(some s3), (.quiet false (qMov (.c (.int .i64 1)))), none⟩])
 .ret) .skip))
 (.seq (.ops [⟨(some s18), (.quiet false (qMov (.t s4))), none⟩, ⟨(some s19), (.quiet false (qLenL (.t s18))), none⟩, ⟨(some s20), (.quiet false (qMov (.c (.int .i64 0)))), none⟩])
 (.block 2 (.loop c28l0))))))
 (.ops [⟨(some s33), (.quiet false (qBin .add (.t s11) (.c (.int .i64 1)))), none⟩, ⟨(some s11), (.quiet false (qMov (.t s33))), none⟩]))))
def c28 : AFunc :=
 ⟨36, [(.tmp s2), (.tmp s3)], (.seq (.ops [⟨(some s2), (.quiet false (qMov (.c (.str [])))), none⟩, ⟨(some s3), (.quiet false (qMov (.c (.int .i64 0)))), none⟩])
 (.seq (.ops [⟨(some s8), (.alloc (aMks 1 1 [(.int .u8 0)] (.c (.int .i64 64)) (.c (.int .i64 64)))), none⟩, ⟨(some s4), (.quiet false (qMov (.t s8))), none⟩])
 (.seq (.seq (.ops [⟨(some s9), (.quiet false (qMov (.t s0))), none⟩, ⟨(some s10), (.quiet false (qLenL (.t s9))), none⟩, ⟨(some s11), (.quiet false (qMov (.c (.int .i64 0)))), none⟩])
 (.block 0 (.loop c28l1)))
 (.seq (.ops [⟨(some s34), (.quiet false (qMov (.t s4))), none⟩, ⟨(some s35), (.quiet true (qB2s (.t s34))), none⟩, ⟨(some s2), (.quiet false (qMov (.t s35))), none⟩, ⟨(some s3), (.quiet false (qMov (.c (.int .i64 0)))), none⟩])
 .ret))))⟩
/- blockyard/blockyardlaw22.five -/
def c29 : AFunc :=
 ⟨2, [(.cellN 3 s0)], (.seq (.ops [⟨(some s0), (.alloc (aBox (.c (.agg [(.int .i64 0), (.int .i64 0), (.int .i64 0)])))), none⟩])
 (.seq (.ops [⟨(some s1), (.quiet false (qBld [(.int .i64 0), (.int .i64 0), (.int .i64 0)] [(0, (1, (.c (.int .i64 5)))), (1, (1, (.c (.int .i64 3)))), (2, (1, (.c (.int .i64 6))))])), none⟩, ⟨none, (.loud (lSto 3 (.t s0) (.t s1))), none⟩])
 .ret))⟩
/- blockyard/row.may -/
def c30l0 : ACode :=
 (.seq (.ops [⟨(some s22), (.quiet false (qBin .lss (.t s21) (.t s20))), none⟩])
 (.seq (.cond (.t s22) .skip (.exit 0))
 (.seq (.block 1 (.seq (.ops [⟨(some s23), (.quiet false (qMov (.t s21))), none⟩, ⟨(some s10), (.quiet false (qMov (.t s23))), none⟩])
 (.seq (.ops [⟨(some s24), (.quiet false (qMov (.t s10))), none⟩, ⟨(some s25), (.quiet false (qIaddrA 4 1 (.t s5) (.t s24))), none⟩, ⟨(some s26), (.quiet true (qLoad1 (.t s25))), none⟩, ⟨(some s27), (.quiet false (qUn .not (.t s26))), none⟩])
 (.cond (.t s27) (.ops [⟨(some s28), (.quiet false (qMov (.t s9))), none⟩, ⟨(some s29), (.quiet false (qBin .add (.t s28) (.c (.int .i64 1)))), none⟩, ⟨(some s9), (.quiet false (qMov (.t s29))), none⟩]) .skip))))
 (.ops [⟨(some s30), (.quiet false (qBin .add (.t s21) (.c (.int .i64 1)))), none⟩, ⟨(some s21), (.quiet false (qMov (.t s30))), none⟩]))))
def c30 : AFunc :=
 ⟨33, [(.tmp s6)], (.seq (.ops [⟨(some s3), (.alloc (aBox (.t s0))), none⟩, ⟨(some s5), (.alloc (aBox (.t s2))), none⟩, ⟨(some s6), (.quiet false (qMov (.c (.int .i64 0)))), none⟩])
 (.seq (.seq (.ops [⟨(some s12), (.quiet true (qLoadN 3 (.t s3))), none⟩, ⟨(some s13), (.quiet false (qMov (.t s1))), none⟩, ⟨(some s14), (.call (.c (.func (.func 27) [] [])) [(.t s12), (.t s13)]), none⟩, ⟨(some s11), (.quiet false (qMov (.t s14))), none⟩, ⟨(some s15), (.quiet false (qExt 0 (.t s11))), none⟩, ⟨(some s16), (.quiet false (qExt 1 (.t s11))), none⟩, ⟨(some s7), (.quiet false (qMov (.t s15))), none⟩, ⟨(some s8), (.quiet false (qMov (.t s16))), none⟩])
 (.seq (.ops [⟨(some s17), (.quiet false (qMov (.t s8))), none⟩, ⟨(some s18), (.quiet false (qUn .not (.t s17))), none⟩])
 (.cond (.t s18) (.seq (.ops [⟨(some s6), (.quiet false (qMov (.c (.int .i64 1)))), none⟩])
 .ret) .skip)))
 (.seq (.ops [⟨(some s9), (.quiet false (qMov (.c (.int .i64 0)))), none⟩])
 (.seq (.seq (.ops [⟨(some s19), (.quiet false (qFaddr 1 (.t s3))), none⟩, ⟨(some s20), (.quiet true (qLoad1 (.t s19))), none⟩, ⟨(some s21), (.quiet false (qMov (.c (.int .i64 0)))), none⟩])
 (.block 0 (.loop c30l0)))
 (.seq (.seq (.ops [⟨(some s31), (.quiet false (qMov (.t s9))), none⟩, ⟨(some s32), (.quiet false (qBin .gtr (.t s31) (.c (.int .i64 1)))), none⟩])
 (.cond (.t s32) (.seq (.ops [⟨(some s6), (.quiet false (qMov (.c (.int .i64 20)))), none⟩])
 .ret) .skip))
 (.seq (.ops [⟨(some s6), (.quiet false (qMov (.c (.int .i64 0)))), none⟩])
 .ret))))))⟩
/- slices.Contains[[]int,int] -/
def c31 : AFunc :=
 ⟨9, [(.tmp s4)], (.seq (.ops [⟨(some s4), (.quiet false (qMov (.c (.bool false)))), none⟩])
 (.seq (.ops [⟨(some s5), (.quiet false (qMov (.t s0))), none⟩, ⟨(some s6), (.quiet false (qMov (.t s1))), none⟩, ⟨(some s7), (.call (.c (.func (.func 48) [] [])) [(.t s5), (.t s6)]), none⟩, ⟨(some s8), (.quiet false (qBin .geq (.t s7) (.c (.int .i64 0)))), none⟩, ⟨(some s4), (.quiet false (qMov (.t s8))), none⟩])
 .ret))⟩
/- blockyard/parity.Is -/
def c32 : AFunc :=
 ⟨6, [(.tmp s2)], (.seq (.ops [⟨(some s2), (.quiet false (qMov (.c (.bool false)))), none⟩])
 (.seq (.ops [⟨(some s3), (.quiet false (qMov (.t s0))), none⟩, ⟨(some s4), (.quiet false (qLenS (.t s3))), none⟩, ⟨(some s5), (.quiet false (qBin .eql (.t s4) (.c (.int .i64 64)))), none⟩, ⟨(some s2), (.quiet false (qMov (.t s5))), none⟩])
 .ret))⟩
/- blockyard/row.others -/
def c33 : AFunc :=
 ⟨14, [(.tmp s6)], (.seq (.ops [⟨(some s3), (.alloc (aBox (.t s0))), none⟩, ⟨(some s5), (.alloc (aBox (.t s2))), none⟩, ⟨(some s6), (.quiet false (qMov (.c .nilslice))), none⟩])
 (.seq (.ops [⟨(some s7), (.quiet true (qLoadN 3 (.t s3))), none⟩, ⟨(some s8), (.quiet false (qMov (.t s1))), none⟩, ⟨(some s9), (.call (.c (.func (.func 16) [] [])) [(.t s7), (.t s8)]), none⟩, ⟨(some s10), (.quiet false (qMkf (.func 50) [] [(.t s5)])), none⟩, ⟨(some s11), (.call (.c (.func (.func 49) [] [])) [(.t s9), (.t s10)]), none⟩, ⟨(some s12), (.call (.c (.func (.func 36) [] [])) [(.t s11)]), none⟩, ⟨(some s13), (.call (.c (.func (.func 35) [] [])) [(.t s12)]), none⟩, ⟨(some s6), (.quiet false (qMov (.t s13))), none⟩])
 .ret))⟩
/- blockyard/row.whole -/
def c34 : AFunc :=
 ⟨9, [(.tmp s4)], (.seq (.ops [⟨(some s2), (.alloc (aBox (.t s0))), none⟩, ⟨(some s4), (.quiet false (qMov (.c (.bool false)))), none⟩])
 (.seq (.ops [⟨(some s5), (.quiet false (qMov (.t s1))), none⟩, ⟨(some s6), (.quiet false (qMkf (.func 52) [] [(.t s2)])), none⟩, ⟨(some s7), (.call (.c (.func (.func 51) [] [])) [(.t s5), (.t s6)]), none⟩, ⟨(some s8), (.quiet false (qUn .not (.t s7))), none⟩, ⟨(some s4), (.quiet false (qMov (.t s8))), none⟩])
 .ret))⟩
/- slices.Sorted[int] -/
def c35 : AFunc :=
 ⟨9, [(.tmp s2)], (.seq (.ops [⟨(some s2), (.quiet false (qMov (.c .nilslice))), none⟩])
 (.seq (.ops [⟨(some s4), (.quiet false (qMov (.t s0))), none⟩, ⟨(some s5), (.call (.c (.func (.func 37) [] [])) [(.t s4)]), none⟩, ⟨(some s3), (.quiet false (qMov (.t s5))), none⟩])
 (.seq (.ops [⟨(some s6), (.quiet false (qMov (.t s3))), none⟩, ⟨(some s7), (.call (.c (.func (.func 53) [] [])) [(.t s6)]), none⟩])
 (.seq (.ops [⟨(some s8), (.quiet false (qMov (.t s3))), none⟩, ⟨(some s2), (.quiet false (qMov (.t s8))), none⟩])
 .ret))))⟩
/- slices.Values[[]int,int] -/
def c36 : AFunc :=
 ⟨4, [(.tmp s2)], (.seq (.ops [⟨(some s1), (.alloc (aBox (.t s0))), none⟩, ⟨(some s2), (.quiet false (qMov (.c .nilfunc))), none⟩])
 (.seq (.ops [⟨(some s3), (.quiet false (qMkf (.func 54) [] [(.t s1)])), none⟩, ⟨(some s2), (.quiet false (qMov (.t s3))), none⟩])
 .ret))⟩
/- slices.Collect[int] -/
def c37 : AFunc :=
 ⟨5, [(.tmp s2)], (.seq (.ops [⟨(some s2), (.quiet false (qMov (.c .nilslice))), none⟩])
 (.seq (.ops [⟨(some s3), (.quiet false (qMov (.t s0))), none⟩, ⟨(some s4), (.call (.c (.func (.func 55) [] [])) [(.c .nilslice), (.t s3)]), none⟩, ⟨(some s2), (.quiet false (qMov (.t s4))), none⟩])
 .ret))⟩
/- maps.Keys[map[int]string,int,string] -/
def c38 : AFunc :=
 ⟨4, [(.tmp s2)], (.seq (.ops [⟨(some s1), (.alloc (aBox (.t s0))), none⟩, ⟨(some s2), (.quiet false (qMov (.c .nilfunc))), none⟩])
 (.seq (.ops [⟨(some s3), (.quiet false (qMkf (.func 56) [] [(.t s1)])), none⟩, ⟨(some s2), (.quiet false (qMov (.t s3))), none⟩])
 .ret))⟩
/- blockyard/blockyardref22.may -/
def c39l0 : ACode :=
 (.seq (.seq (.ops [⟨(some s22), (.quiet false (qMov (.t s8))), none⟩, ⟨(some s23), (.quiet false (qFaddr 1 (.t s3))), none⟩, ⟨(some s24), (.quiet true (qLoad1 (.t s23))), none⟩, ⟨(some s25), (.quiet false (qBin .lss (.t s22) (.t s24))), none⟩])
 (.cond (.t s25) .skip (.exit 0)))
 (.seq (.block 1 (.seq (.ops [⟨(some s28), (.quiet false (qMov (.t s8))), none⟩, ⟨(some s29), (.quiet false (qIaddrA 4 1 (.t s5) (.t s28))), none⟩, ⟨(some s30), (.quiet true (qLoad1 (.t s29))), none⟩, ⟨(some s31), (.quiet false (qUn .not (.t s30))), none⟩])
 (.cond (.t s31) (.ops [⟨(some s32), (.quiet false (qMov (.t s7))), none⟩, ⟨(some s33), (.quiet false (qBin .add (.t s32) (.c (.int .i64 1)))), none⟩, ⟨(some s7), (.quiet false (qMov (.t s33))), none⟩]) .skip)))
 (.ops [⟨(some s26), (.quiet false (qMov (.t s8))), none⟩, ⟨(some s27), (.quiet false (qBin .add (.t s26) (.c (.int .i64 1)))), none⟩, ⟨(some s8), (.quiet false (qMov (.t s27))), none⟩])))
def c39 : AFunc :=
 ⟨36, [(.tmp s6)], (.seq (.ops [⟨(some s3), (.alloc (aBox (.t s0))), none⟩, ⟨(some s5), (.alloc (aBox (.t s2))), none⟩, ⟨(some s6), (.quiet false (qMov (.c (.int .i64 0)))), none⟩])
 (.seq (.seq (.ops [⟨(some s9), (.quiet true (qLoadN 3 (.t s3))), none⟩, ⟨(some s10), (.call (.c (.func (.func 57) [] [])) [(.t s9)]), none⟩, ⟨(some s11), (.quiet false (qUn .not (.t s10))), none⟩, ⟨(some s12), (.quiet false (qMov (.t s11))), none⟩, ⟨(some s13), (.quiet false (qMov (.t s1))), (some (s12, false))⟩, ⟨(some s14), (.quiet false (qBin .lss (.t s13) (.c (.int .i64 0)))), (some (s12, false))⟩, ⟨(some s15), (.quiet false (qPick (.t s12) (.c (.bool true)) (.t s14))), none⟩, ⟨(some s16), (.quiet false (qMov (.t s15))), none⟩, ⟨(some s17), (.quiet false (qMov (.t s1))), (some (s16, false))⟩, ⟨(some s18), (.quiet false (qFaddr 2 (.t s3))), (some (s16, false))⟩, ⟨(some s19), (.quiet true (qLoad1 (.t s18))), (some (s16, false))⟩, ⟨(some s20), (.quiet false (qBin .geq (.t s17) (.t s19))), (some (s16, false))⟩, ⟨(some s21), (.quiet false (qPick (.t s16) (.c (.bool true)) (.t s20))), none⟩])
 (.cond (.t s21) (.seq (.ops [⟨(some s6), (.quiet false (qMov (.c (.int .i64 1)))), none⟩])
 .ret) .skip))
 (.seq (.ops [⟨(some s7), (.quiet false (qMov (.c (.int .i64 0)))), none⟩])
 (.seq (.seq (.ops [⟨(some s8), (.quiet false (qMov (.c (.int .i64 0)))), none⟩])
 (.block 0 (.loop c39l0)))
 (.seq (.seq (.ops [⟨(some s34), (.quiet false (qMov (.t s7))), none⟩, ⟨(some s35), (.quiet false (qBin .gtr (.t s34) (.c (.int .i64 1)))), none⟩])
 (.cond (.t s35) (.seq (.ops [⟨(some s6), (.quiet false (qMov (.c (.int .i64 20)))), none⟩])
 .ret) .skip))
 (.seq (.ops [⟨(some s6), (.quiet false (qMov (.c (.int .i64 0)))), none⟩])
 .ret))))))⟩
/- blockyard/row.has -/
def c41 : AFunc :=
 ⟨9, [(.tmp s4)], (.seq (.ops [⟨(some s2), (.alloc (aBox (.t s0))), none⟩, ⟨(some s4), (.quiet false (qMov (.c (.bool false)))), none⟩])
 (.seq (.ops [⟨(some s5), (.quiet false (qMov (.t s1))), none⟩, ⟨(some s6), (.quiet false (qMkf (.func 58) [] [(.t s2)])), none⟩, ⟨(some s7), (.call (.c (.func (.func 51) [] [])) [(.t s5), (.t s6)]), none⟩, ⟨(some s8), (.quiet false (qUn .not (.t s7))), none⟩, ⟨(some s4), (.quiet false (qMov (.t s8))), none⟩])
 .ret))⟩
/- slices.Collect[string] -/
def c42 : AFunc :=
 ⟨5, [(.tmp s2)], (.seq (.ops [⟨(some s2), (.quiet false (qMov (.c .nilslice))), none⟩])
 (.seq (.ops [⟨(some s3), (.quiet false (qMov (.t s0))), none⟩, ⟨(some s4), (.call (.c (.func (.func 59) [] [])) [(.c .nilslice), (.t s3)]), none⟩, ⟨(some s2), (.quiet false (qMov (.t s4))), none⟩])
 .ret))⟩
/- maps.Values[map[int]string,int,string] -/
def c43 : AFunc :=
 ⟨4, [(.tmp s2)], (.seq (.ops [⟨(some s1), (.alloc (aBox (.t s0))), none⟩, ⟨(some s2), (.quiet false (qMov (.c .nilfunc))), none⟩])
 (.seq (.ops [⟨(some s3), (.quiet false (qMkf (.func 60) [] [(.t s1)])), none⟩, ⟨(some s2), (.quiet false (qMov (.t s3))), none⟩])
 .ret))⟩
/- blockyard/row.sectors -/
def c44l0 : ACode :=
 (.seq (.ops [⟨(some s11), (.quiet false (qBin .lss (.t s10) (.t s9))), none⟩])
 (.seq (.cond (.t s11) .skip (.exit 0))
 (.seq (.block 1 (.seq (.ops [⟨(some s12), (.quiet false (qIaddrS 1 (.t s8) (.t s10))), none⟩, ⟨(some s13), (.quiet true (qLoad1 (.t s12))), none⟩, ⟨(some s7), (.quiet false (qMov (.t s13))), none⟩])
 (.ops [⟨(some s14), (.quiet false (qMov (.t s5))), none⟩, ⟨(some s15), (.quiet false (qMov (.t s0))), none⟩, ⟨(some s16), (.quiet false (qMov (.t s7))), none⟩, ⟨(some s17), (.quiet true (qLook (.one .int) false (.str []) (.t s15) (.t s16))), none⟩, ⟨(some s18), (.alloc (aBsl 1 1 [(.str [])] [(0, (1, (.t s17)))])), none⟩, ⟨(some s19), (.loud (lApp 1 16 (.t s14) (.t s18))), none⟩, ⟨(some s5), (.quiet false (qMov (.t s19))), none⟩])))
 (.ops [⟨(some s20), (.quiet false (qBin .add (.t s10) (.c (.int .i64 1)))), none⟩, ⟨(some s10), (.quiet false (qMov (.t s20))), none⟩]))))
def c44 : AFunc :=
 ⟨22, [(.tmp s4)], (.seq (.ops [⟨(some s4), (.quiet false (qMov (.c .nilslice))), none⟩])
 (.seq (.ops [⟨(some s5), (.quiet false (qMov (.c .nilslice))), none⟩])
 (.seq (.seq (.ops [⟨(some s8), (.quiet false (qMov (.t s1))), none⟩, ⟨(some s9), (.quiet false (qLenL (.t s8))), none⟩, ⟨(some s10), (.quiet false (qMov (.c (.int .i64 0)))), none⟩])
 (.block 0 (.loop c44l0)))
 (.seq (.ops [⟨(some s21), (.quiet false (qMov (.t s5))), none⟩, ⟨(some s4), (.quiet false (qMov (.t s21))), none⟩])
 .ret))))⟩
/- blockyard/blockyardref22.all -/
def c45l0 : ACode :=
 (.seq (.seq (.ops [⟨(some s8), (.quiet false (qMov (.t s7))), none⟩, ⟨(some s9), (.quiet false (qMov (.t s1))), none⟩, ⟨(some s10), (.quiet false (qLenL (.t s9))), none⟩, ⟨(some s11), (.quiet false (qBin .lss (.t s8) (.t s10))), none⟩])
 (.cond (.t s11) .skip (.exit 0)))
 (.seq (.block 1 (.seq (.seq (.ops [⟨(some s14), (.quiet false (qMov (.t s0))), none⟩, ⟨(some s15), (.quiet false (qMov (.t s1))), none⟩, ⟨(some s16), (.quiet false (qMov (.t s7))), none⟩, ⟨(some s17), (.quiet false (qIaddrS 1 (.t s15) (.t s16))), none⟩, ⟨(some s18), (.quiet true (qLoad1 (.t s17))), none⟩, ⟨(some s19), (.quiet true (qLook (.one .int) false (.str []) (.t s14) (.t s18))), none⟩, ⟨(some s20), (.quiet false (qLenS (.t s19))), none⟩, ⟨(some s21), (.quiet false (qBin .neq (.t s20) (.c (.int .i64 64)))), none⟩])
 (.cond (.t s21) (.seq (.ops [⟨(some s4), (.quiet false (qMov (.c .nilslice))), none⟩, ⟨(some s5), (.quiet false (qMov (.c (.bool false)))), none⟩])
 .ret) .skip))
 (.ops [⟨(some s22), (.quiet false (qMov (.t s6))), none⟩, ⟨(some s23), (.quiet false (qMov (.t s0))), none⟩, ⟨(some s24), (.quiet false (qMov (.t s1))), none⟩, ⟨(some s25), (.quiet false (qMov (.t s7))), none⟩, ⟨(some s26), (.quiet false (qIaddrS 1 (.t s24) (.t s25))), none⟩, ⟨(some s27), (.quiet true (qLoad1 (.t s26))), none⟩, ⟨(some s28), (.quiet true (qLook (.one .int) false (.str []) (.t s23) (.t s27))), none⟩, ⟨(some s29), (.alloc (aBsl 1 1 [(.str [])] [(0, (1, (.t s28)))])), none⟩, ⟨(some s30), (.loud (lApp 1 16 (.t s22) (.t s29))), none⟩, ⟨(some s6), (.quiet false (qMov (.t s30))), none⟩])))
 (.ops [⟨(some s12), (.quiet false (qMov (.t s7))), none⟩, ⟨(some s13), (.quiet false (qBin .add (.t s12) (.c (.int .i64 1)))), none⟩, ⟨(some s7), (.quiet false (qMov (.t s13))), none⟩])))
def c45 : AFunc :=
 ⟨32, [(.tmp s4), (.tmp s5)], (.seq (.ops [⟨(some s4), (.quiet false (qMov (.c .nilslice))), none⟩, ⟨(some s5), (.quiet false (qMov (.c (.bool false)))), none⟩])
 (.seq (.ops [⟨(some s6), (.quiet false (qMov (.c .nilslice))), none⟩])
 (.seq (.seq (.ops [⟨(some s7), (.quiet false (qMov (.c (.int .i64 0)))), none⟩])
 (.block 0 (.loop c45l0)))
 (.seq (.ops [⟨(some s31), (.quiet false (qMov (.t s6))), none⟩, ⟨(some s4), (.quiet false (qMov (.t s31))), none⟩, ⟨(some s5), (.quiet false (qMov (.c (.bool true)))), none⟩])
 .ret))))⟩
/- blockyard/blockyardref18.Sum -/
def c46l0 : ACode :=
 (.seq (.seq (.ops [⟨(some s12), (.quiet false (qMov (.t s7))), none⟩, ⟨(some s13), (.quiet false (qMov (.t s0))), none⟩, ⟨(some s14), (.quiet false (qLenL (.t s13))), none⟩, ⟨(some s15), (.quiet false (qBin .lss (.t s12) (.t s14))), none⟩])
 (.cond (.t s15) .skip (.exit 2)))
 (.seq (.block 3 (.seq (.seq (.ops [⟨(some s18), (.quiet false (qMov (.t s0))), none⟩, ⟨(some s19), (.quiet false (qMov (.t s7))), none⟩, ⟨(some s20), (.quiet false (qIaddrS 1 (.t s18) (.t s19))), none⟩, ⟨(some s21), (.quiet true (qLoad1 (.t s20))), none⟩, ⟨(some s22), (.quiet false (qLenS (.t s21))), none⟩, ⟨(some s23), (.quiet false (qBin .neq (.t s22) (.c (.int .i64 64)))), none⟩])
 (.cond (.t s23) (.seq (.ops [⟨(some s2), (.quiet false (qMov (.c (.str [])))), none⟩, ⟨(some s3), (.quiet false (qMov (.c (.bool false)))), none⟩])
 .ret) .skip))
 (.ops [⟨(some s24), (.quiet false (qMov (.t s6))), none⟩, ⟨(some s25), (.quiet false (qMov (.t s0))), none⟩, ⟨(some s26), (.quiet false (qMov (.t s7))), none⟩, ⟨(some s27), (.quiet false (qIaddrS 1 (.t s25) (.t s26))), none⟩, ⟨(some s28), (.quiet true (qLoad1 (.t s27))), none⟩, ⟨(some s29), (.quiet false (qMov (.t s5))), none⟩, ⟨(some s30), (.quiet false (qIdxS (.t s28) (.t s29))), none⟩, ⟨(some s31), (.quiet false (qBin .xor (.t s24) (.t s30))), none⟩, ⟨(some s6), (.quiet false (qMov (.t s31))), none⟩])))
 (.ops [⟨(some s16), (.quiet false (qMov (.t s7))), none⟩, ⟨(some s17), (.quiet false (qBin .add (.t s16) (.c (.int .i64 1)))), none⟩, ⟨(some s7), (.quiet false (qMov (.t s17))), none⟩])))
def c46l1 : ACode :=
 (.seq (.seq (.ops [⟨(some s8), (.quiet false (qMov (.t s5))), none⟩, ⟨(some s9), (.quiet false (qBin .lss (.t s8) (.c (.int .i64 64)))), none⟩])
 (.cond (.t s9) .skip (.exit 0)))
 (.seq (.block 1 (.seq (.ops [⟨(some s6), (.quiet false (qMov (.c (.int .u8 0)))), none⟩])
 (.seq (.seq (.ops [⟨(some s7), (.quiet false (qMov (.c (.int .i64 0)))), none⟩])
 (.block 2 (.loop c46l0)))
 (.ops [⟨(some s32), (.quiet false (qMov (.t s4))), none⟩, ⟨(some s33), (.quiet false (qMov (.t s6))), none⟩, ⟨(some s34), (.alloc (aBsl 1 1 [(.int .u8 0)] [(0, (1, (.t s33)))])), none⟩, ⟨(some s35), (.quiet true (qB2s (.t s34))), none⟩, ⟨(some s36), (.quiet false (qBin .add (.t s32) (.t s35))), none⟩, ⟨(some s4), (.quiet false (qMov (.t s36))), none⟩]))))
 (.ops [⟨(some s10), (.quiet false (qMov (.t s5))), none⟩, ⟨(some s11), (.quiet false (qBin .add (.t s10) (.c (.int .i64 1)))), none⟩, ⟨(some s5), (.quiet false (qMov (.t s11))), none⟩])))
def c46 : AFunc :=
 ⟨38, [(.tmp s2), (.tmp s3)], (.seq (.ops [⟨(some s2), (.quiet false (qMov (.c (.str [])))), none⟩, ⟨(some s3), (.quiet false (qMov (.c (.bool false)))), none⟩])
 (.seq (.ops [⟨(some s4), (.quiet false (qMov (.c (.str [])))), none⟩])
 (.seq (.seq (.ops [⟨(some s5), (.quiet false (qMov (.c (.int .i64 0)))), none⟩])
 (.block 0 (.loop c46l1)))
 (.seq (.ops [⟨(some s37), (.quiet false (qMov (.t s4))), none⟩, ⟨(some s2), (.quiet false (qMov (.t s37))), none⟩, ⟨(some s3), (.quiet false (qMov (.c (.bool true)))), none⟩])
 .ret))))⟩
/- blockyard/place.row -/
def c47 : AFunc :=
 ⟨17, [(.tmp s4)], (.seq (.ops [⟨(some s2), (.alloc (aBox (.t s0))), none⟩, ⟨(some s4), (.quiet false (qMov (.c (.bool false)))), none⟩])
 (.seq (.ops [⟨(some s5), (.quiet true (qLoadN 3 (.t s2))), none⟩, ⟨(some s6), (.call (.c (.func (.func 61) [] [])) [(.t s5)]), none⟩, ⟨(some s7), (.quiet false (qMov (.t s6))), none⟩, ⟨(some s8), (.quiet false (qMov (.t s1))), (some (s7, true))⟩, ⟨(some s9), (.quiet false (qBin .geq (.t s8) (.c (.int .i64 0)))), (some (s7, true))⟩, ⟨(some s10), (.quiet false (qPick (.t s7) (.t s9) (.c (.bool false)))), none⟩, ⟨(some s11), (.quiet false (qMov (.t s10))), none⟩, ⟨(some s12), (.quiet false (qMov (.t s1))), (some (s11, true))⟩, ⟨(some s13), (.quiet false (qFaddr 2 (.t s2))), (some (s11, true))⟩, ⟨(some s14), (.quiet true (qLoad1 (.t s13))), (some (s11, true))⟩, ⟨(some s15), (.quiet false (qBin .lss (.t s12) (.t s14))), (some (s11, true))⟩, ⟨(some s16), (.quiet false (qPick (.t s11) (.t s15) (.c (.bool false)))), none⟩, ⟨(some s4), (.quiet false (qMov (.t s16))), none⟩])
 .ret))⟩
/- slices.Index[[]int,int] -/
def c48l0 : ACode :=
 (.seq (.ops [⟨(some s9), (.quiet false (qBin .lss (.t s8) (.t s7))), none⟩])
 (.seq (.cond (.t s9) .skip (.exit 0))
 (.seq (.block 1 (.seq (.ops [⟨(some s10), (.quiet false (qMov (.t s8))), none⟩, ⟨(some s5), (.quiet false (qMov (.t s10))), none⟩])
 (.seq (.ops [⟨(some s11), (.quiet false (qMov (.t s1))), none⟩, ⟨(some s12), (.quiet false (qMov (.t s0))), none⟩, ⟨(some s13), (.quiet false (qMov (.t s5))), none⟩, ⟨(some s14), (.quiet false (qIaddrS 1 (.t s12) (.t s13))), none⟩, ⟨(some s15), (.quiet true (qLoad1 (.t s14))), none⟩, ⟨(some s16), (.quiet false (qBin .eql (.t s11) (.t s15))), none⟩])
 (.cond (.t s16) (.seq (.ops [⟨(some s17), (.quiet false (qMov (.t s5))), none⟩, ⟨(some s4), (.quiet false (qMov (.t s17))), none⟩])
 .ret) .skip))))
 (.ops [⟨(some s18), (.quiet false (qBin .add (.t s8) (.c (.int .i64 1)))), none⟩, ⟨(some s8), (.quiet false (qMov (.t s18))), none⟩]))))
def c48 : AFunc :=
 ⟨19, [(.tmp s4)], (.seq (.ops [⟨(some s4), (.quiet false (qMov (.c (.int .i64 0)))), none⟩])
 (.seq (.seq (.ops [⟨(some s6), (.quiet false (qMov (.t s0))), none⟩, ⟨(some s7), (.quiet false (qLenL (.t s6))), none⟩, ⟨(some s8), (.quiet false (qMov (.c (.int .i64 0)))), none⟩])
 (.block 0 (.loop c48l0)))
 (.seq (.ops [⟨(some s4), (.quiet false (qMov (.c (.int .i64 (-1))))), none⟩])
 .ret)))⟩
/- slices.DeleteFunc[[]int,int] -/
def c49l0 : ACode :=
 (.seq (.seq (.ops [⟨(some s16), (.quiet false (qMov (.t s6))), none⟩, ⟨(some s17), (.quiet false (qMov (.t s0))), none⟩, ⟨(some s18), (.quiet false (qLenL (.t s17))), none⟩, ⟨(some s19), (.quiet false (qBin .lss (.t s16) (.t s18))), none⟩])
 (.cond (.t s19) .skip (.exit 0)))
 (.seq (.block 1 (.seq (.ops [⟨(some s22), (.quiet false (qMov (.t s0))), none⟩, ⟨(some s23), (.quiet false (qMov (.t s6))), none⟩, ⟨(some s24), (.quiet false (qIaddrS 1 (.t s22) (.t s23))), none⟩, ⟨(some s25), (.quiet true (qLoad1 (.t s24))), none⟩, ⟨(some s7), (.quiet false (qMov (.t s25))), none⟩])
 (.seq (.ops [⟨(some s26), (.quiet false (qMov (.t s1))), none⟩, ⟨(some s27), (.quiet false (qMov (.t s7))), none⟩, ⟨(some s28), (.call (.t s26) [(.t s27)]), none⟩, ⟨(some s29), (.quiet false (qUn .not (.t s28))), none⟩])
 (.cond (.t s29) (.seq (.ops [⟨(some s30), (.quiet false (qMov (.t s0))), none⟩, ⟨(some s31), (.quiet false (qMov (.t s5))), none⟩, ⟨(some s32), (.quiet false (qMov (.t s7))), none⟩, ⟨(some s33), (.quiet false (qIaddrS 1 (.t s30) (.t s31))), none⟩, ⟨none, (.loud (lSto 1 (.t s33) (.t s32))), none⟩])
 (.ops [⟨(some s34), (.quiet false (qMov (.t s5))), none⟩, ⟨(some s35), (.quiet false (qBin .add (.t s34) (.c (.int .i64 1)))), none⟩, ⟨(some s5), (.quiet false (qMov (.t s35))), none⟩])) .skip))))
 (.ops [⟨(some s20), (.quiet false (qMov (.t s6))), none⟩, ⟨(some s21), (.quiet false (qBin .add (.t s20) (.c (.int .i64 1)))), none⟩, ⟨(some s6), (.quiet false (qMov (.t s21))), none⟩])))
def c49 : AFunc :=
 ⟨42, [(.tmp s4)], (.seq (.ops [⟨(some s4), (.quiet false (qMov (.c .nilslice))), none⟩])
 (.seq (.ops [⟨(some s8), (.quiet false (qMov (.t s0))), none⟩, ⟨(some s9), (.quiet false (qMov (.t s1))), none⟩, ⟨(some s10), (.call (.c (.func (.func 62) [] [])) [(.t s8), (.t s9)]), none⟩, ⟨(some s5), (.quiet false (qMov (.t s10))), none⟩])
 (.seq (.seq (.ops [⟨(some s11), (.quiet false (qMov (.t s5))), none⟩, ⟨(some s12), (.quiet false (qBin .eql (.t s11) (.c (.int .i64 (-1))))), none⟩])
 (.cond (.t s12) (.seq (.ops [⟨(some s13), (.quiet false (qMov (.t s0))), none⟩, ⟨(some s4), (.quiet false (qMov (.t s13))), none⟩])
 .ret) .skip))
 (.seq (.seq (.ops [⟨(some s14), (.quiet false (qMov (.t s5))), none⟩, ⟨(some s15), (.quiet false (qBin .add (.t s14) (.c (.int .i64 1)))), none⟩, ⟨(some s6), (.quiet false (qMov (.t s15))), none⟩])
 (.block 0 (.loop c49l0)))
 (.seq (.ops [⟨(some s36), (.quiet false (qMov (.t s0))), none⟩, ⟨(some s37), (.quiet false (qMov (.t s5))), none⟩, ⟨(some s38), (.quiet false (qSlcS 1 (.t s36) (some (.t s37)) none none)), none⟩, ⟨none, (.loud (lClrS [(.int .i64 0)] (.t s38))), none⟩])
 (.seq (.ops [⟨(some s39), (.quiet false (qMov (.t s0))), none⟩, ⟨(some s40), (.quiet false (qMov (.t s5))), none⟩, ⟨(some s41), (.quiet false (qSlcS 1 (.t s39) none (some (.t s40)) none)), none⟩, ⟨(some s4), (.quiet false (qMov (.t s41))), none⟩])
 .ret))))))⟩
/- blockyard/row.others$1 -/
def c50 : AFunc :=
 ⟨13, [(.tmp s3)], (.seq (.ops [⟨(some s3), (.quiet false (qMov (.c (.bool false)))), none⟩])
 (.seq (.ops [⟨(some s7), (.quiet true (qLoad1 (.t s1))), none⟩, ⟨(some s8), (.quiet false (qMov (.t s0))), none⟩, ⟨(some s9), (.quiet true (qLook (.one .int) true (.str []) (.t s7) (.t s8))), none⟩, ⟨(some s6), (.quiet false (qMov (.t s9))), none⟩, ⟨(some s10), (.quiet false (qExt 0 (.t s6))), none⟩, ⟨(some s11), (.quiet false (qExt 1 (.t s6))), none⟩, ⟨(some s4), (.quiet false (qMov (.t s10))), none⟩, ⟨(some s5), (.quiet false (qMov (.t s11))), none⟩])
 (.seq (.ops [⟨(some s12), (.quiet false (qMov (.t s5))), none⟩, ⟨(some s3), (.quiet false (qMov (.t s12))), none⟩])
 .ret)))⟩
/- slices.ContainsFunc[[]int,int] -/
def c51 : AFunc :=
 ⟨9, [(.tmp s4)], (.seq (.ops [⟨(some s4), (.quiet false (qMov (.c (.bool false)))), none⟩])
 (.seq (.ops [⟨(some s5), (.quiet false (qMov (.t s0))), none⟩, ⟨(some s6), (.quiet false (qMov (.t s1))), none⟩, ⟨(some s7), (.call (.c (.func (.func 62) [] [])) [(.t s5), (.t s6)]), none⟩, ⟨(some s8), (.quiet false (qBin .geq (.t s7) (.c (.int .i64 0)))), none⟩, ⟨(some s4), (.quiet false (qMov (.t s8))), none⟩])
 .ret))⟩
/- blockyard/row.whole$1 -/
def c52 : AFunc :=
 ⟨8, [(.tmp s3)], (.seq (.ops [⟨(some s3), (.quiet false (qMov (.c (.bool false)))), none⟩])
 (.seq (.ops [⟨(some s4), (.quiet false (qMov (.t s0))), none⟩, ⟨(some s5), (.quiet false (qIaddrA 4 1 (.t s1) (.t s4))), none⟩, ⟨(some s6), (.quiet true (qLoad1 (.t s5))), none⟩, ⟨(some s7), (.quiet false (qUn .not (.t s6))), none⟩, ⟨(some s3), (.quiet false (qMov (.t s7))), none⟩])
 .ret))⟩
/- slices.Sort[[]int,int] -/
def c53 : AFunc :=
 ⟨11, [], (.seq (.ops [⟨(some s3), (.quiet false (qMov (.t s0))), none⟩, ⟨(some s4), (.quiet false (qLenL (.t s3))), none⟩, ⟨(some s2), (.quiet false (qMov (.t s4))), none⟩])
 (.ops [⟨(some s5), (.quiet false (qMov (.t s0))), none⟩, ⟨(some s6), (.quiet false (qMov (.t s2))), none⟩, ⟨(some s7), (.quiet false (qMov (.t s2))), none⟩, ⟨(some s8), (.quiet false (qConv .u64 (.t s7))), none⟩, ⟨(some s9), (.call (.c (.func (.func 64) [] [])) [(.t s8)]), none⟩, ⟨(some s10), (.call (.c (.func (.func 63) [] [])) [(.t s5), (.c (.int .i64 0)), (.t s6), (.t s9)]), none⟩]))⟩
/- slices.Values[[]int,int]$1 -/
def c54l0 : ACode :=
 (.seq (.ops [⟨(some s8), (.quiet false (qBin .lss (.t s7) (.t s6))), none⟩])
 (.seq (.cond (.t s8) .skip (.exit 0))
 (.seq (.block 1 (.seq (.ops [⟨(some s9), (.quiet false (qIaddrS 1 (.t s5) (.t s7))), none⟩, ⟨(some s10), (.quiet true (qLoad1 (.t s9))), none⟩, ⟨(some s4), (.quiet false (qMov (.t s10))), none⟩])
 (.seq (.ops [⟨(some s11), (.quiet false (qMov (.t s0))), none⟩, ⟨(some s12), (.quiet false (qMov (.t s4))), none⟩, ⟨(some s13), (.call (.t s11) [(.t s12)]), none⟩, ⟨(some s14), (.quiet false (qUn .not (.t s13))), none⟩])
 (.cond (.t s14) .ret .skip))))
 (.ops [⟨(some s15), (.quiet false (qBin .add (.t s7) (.c (.int .i64 1)))), none⟩, ⟨(some s7), (.quiet false (qMov (.t s15))), none⟩]))))
def c54 : AFunc :=
 ⟨16, [], (.seq (.ops [⟨(some s5), (.quiet true (qLoad1 (.t s1))), none⟩, ⟨(some s6), (.quiet false (qLenL (.t s5))), none⟩, ⟨(some s7), (.quiet false (qMov (.c (.int .i64 0)))), none⟩])
 (.block 0 (.loop c54l0)))⟩
/- slices.AppendSeq[[]int,int] -/
def c55 : AFunc :=
 ⟨13, [(.tmp s4)], (.seq (.ops [⟨(some s2), (.alloc (aBox (.t s0))), none⟩, ⟨(some s4), (.quiet false (qMov (.c .nilslice))), none⟩])
 (.seq (.seq (.ops [⟨(some s6), (.quiet false (qMov (.t s1))), none⟩])
 (.block 0 (.rangeFunc (.t s6) [s7] (.ops [⟨(some s5), (.quiet false (qMov (.t s7))), none⟩]) (.block 1 (.ops [⟨(some s8), (.quiet true (qLoad1 (.t s2))), none⟩, ⟨(some s9), (.quiet false (qMov (.t s5))), none⟩, ⟨(some s10), (.alloc (aBsl 1 1 [(.int .i64 0)] [(0, (1, (.t s9)))])), none⟩, ⟨(some s11), (.loud (lApp 1 8 (.t s8) (.t s10))), none⟩, ⟨none, (.loud (lSto 1 (.t s2) (.t s11))), none⟩])))))
 (.seq (.ops [⟨(some s12), (.quiet true (qLoad1 (.t s2))), none⟩, ⟨(some s4), (.quiet false (qMov (.t s12))), none⟩])
 .ret)))⟩
/- maps.Keys[map[int]string,int,string]$1 -/
def c56l0 : ACode :=
 (.seq (.ops [⟨(some s6), (.next (.t s5)), none⟩, ⟨(some s7), (.quiet false (qExt 0 (.t s6))), none⟩])
 (.seq (.cond (.t s7) .skip (.exit 0))
 (.block 1 (.seq (.ops [⟨(some s8), (.quiet true (qEntry (.t s5))), none⟩, ⟨(some s9), (.quiet false (qExt 0 (.t s8))), none⟩, ⟨(some s3), (.quiet false (qMov (.t s9))), none⟩])
 (.seq (.ops [⟨(some s10), (.quiet false (qMov (.t s0))), none⟩, ⟨(some s11), (.quiet false (qMov (.t s3))), none⟩, ⟨(some s12), (.call (.t s10) [(.t s11)]), none⟩, ⟨(some s13), (.quiet false (qUn .not (.t s12))), none⟩])
 (.cond (.t s13) .ret .skip))))))
def c56 : AFunc :=
 ⟨14, [], (.seq (.ops [⟨(some s4), (.quiet true (qLoad1 (.t s1))), none⟩, ⟨(some s5), (.loud (lRng (.t s4))), none⟩])
 (.block 0 (.loop c56l0)))⟩
/- blockyard/blockyardref17.Right -/
def c57 : AFunc :=
 ⟨36, [(.tmp s2)], (.seq (.ops [⟨(some s1), (.alloc (aBox (.t s0))), none⟩, ⟨(some s2), (.quiet false (qMov (.c (.bool false)))), none⟩])
 (.seq (.seq (.ops [⟨(some s3), (.quiet false (qFaddr 2 (.t s1))), none⟩, ⟨(some s4), (.quiet true (qLoad1 (.t s3))), none⟩, ⟨(some s5), (.quiet false (qBin .lss (.t s4) (.c (.int .i64 2)))), none⟩, ⟨(some s6), (.quiet false (qMov (.t s5))), none⟩, ⟨(some s7), (.quiet false (qFaddr 2 (.t s1))), (some (s6, false))⟩, ⟨(some s8), (.quiet true (qLoad1 (.t s7))), (some (s6, false))⟩, ⟨(some s9), (.quiet false (qBin .gtr (.t s8) (.c (.int .i64 64)))), (some (s6, false))⟩, ⟨(some s10), (.quiet false (qPick (.t s6) (.c (.bool true)) (.t s9))), none⟩, ⟨(some s11), (.quiet false (qMov (.t s10))), none⟩, ⟨(some s12), (.quiet false (qFaddr 2 (.t s1))), (some (s11, false))⟩, ⟨(some s13), (.quiet true (qLoad1 (.t s12))), (some (s11, false))⟩, ⟨(some s14), (.quiet false (qBin .rem (.t s13) (.c (.int .i64 2)))), (some (s11, false))⟩, ⟨(some s15), (.quiet false (qBin .neq (.t s14) (.c (.int .i64 0)))), (some (s11, false))⟩, ⟨(some s16), (.quiet false (qPick (.t s11) (.c (.bool true)) (.t s15))), none⟩])
 (.cond (.t s16) (.seq (.ops [⟨(some s2), (.quiet false (qMov (.c (.bool false)))), none⟩])
 .ret) .skip))
 (.seq (.seq (.ops [⟨(some s17), (.quiet false (qFaddr 0 (.t s1))), none⟩, ⟨(some s18), (.quiet true (qLoad1 (.t s17))), none⟩, ⟨(some s19), (.quiet false (qBin .eql (.t s18) (.c (.int .i64 1)))), none⟩])
 (.cond (.t s19) (.seq (.ops [⟨(some s20), (.quiet false (qFaddr 1 (.t s1))), none⟩, ⟨(some s21), (.quiet true (qLoad1 (.t s20))), none⟩, ⟨(some s22), (.quiet false (qBin .eql (.t s21) (.c (.int .i64 2)))), none⟩, ⟨(some s2), (.quiet false (qMov (.t s22))), none⟩])
 .ret) .skip))
 (.seq (.ops [⟨(some s23), (.quiet false (qFaddr 0 (.t s1))), none⟩, ⟨(some s24), (.quiet true (qLoad1 (.t s23))), none⟩, ⟨(some s25), (.quiet false (qBin .eql (.t s24) (.c (.int .i64 5)))), none⟩, ⟨(some s26), (.quiet false (qMov (.t s25))), none⟩, ⟨(some s27), (.quiet false (qFaddr 1 (.t s1))), (some (s26, true))⟩, ⟨(some s28), (.quiet true (qLoad1 (.t s27))), (some (s26, true))⟩, ⟨(some s29), (.quiet false (qBin .geq (.t s28) (.c (.int .i64 3)))), (some (s26, true))⟩, ⟨(some s30), (.quiet false (qPick (.t s26) (.t s29) (.c (.bool false)))), none⟩, ⟨(some s31), (.quiet false (qMov (.t s30))), none⟩, ⟨(some s32), (.quiet false (qFaddr 1 (.t s1))), (some (s31, true))⟩, ⟨(some s33), (.quiet true (qLoad1 (.t s32))), (some (s31, true))⟩, ⟨(some s34), (.quiet false (qBin .leq (.t s33) (.c (.int .i64 4)))), (some (s31, true))⟩, ⟨(some s35), (.quiet false (qPick (.t s31) (.t s34) (.c (.bool false)))), none⟩, ⟨(some s2), (.quiet false (qMov (.t s35))), none⟩])
 .ret))))⟩
/- blockyard/row.has$1 -/
def c58 : AFunc :=
 ⟨9, [(.tmp s3)], (.seq (.ops [⟨(some s3), (.quiet false (qMov (.c (.bool false)))), none⟩])
 (.seq (.ops [⟨(some s4), (.quiet true (qLoad1 (.t s1))), none⟩, ⟨(some s5), (.quiet false (qMov (.t s0))), none⟩, ⟨(some s6), (.quiet true (qLook (.one .int) false (.str []) (.t s4) (.t s5))), none⟩, ⟨(some s7), (.call (.c (.func (.func 32) [] [])) [(.t s6)]), none⟩, ⟨(some s8), (.quiet false (qUn .not (.t s7))), none⟩, ⟨(some s3), (.quiet false (qMov (.t s8))), none⟩])
 .ret))⟩
/- slices.AppendSeq[[]string,string] -/
def c59 : AFunc :=
 ⟨13, [(.tmp s4)], (.seq (.ops [⟨(some s2), (.alloc (aBox (.t s0))), none⟩, ⟨(some s4), (.quiet false (qMov (.c .nilslice))), none⟩])
 (.seq (.seq (.ops [⟨(some s6), (.quiet false (qMov (.t s1))), none⟩])
 (.block 0 (.rangeFunc (.t s6) [s7] (.ops [⟨(some s5), (.quiet false (qMov (.t s7))), none⟩]) (.block 1 (.ops [⟨(some s8), (.quiet true (qLoad1 (.t s2))), none⟩, ⟨(some s9), (.quiet false (qMov (.t s5))), none⟩, ⟨(some s10), (.alloc (aBsl 1 1 [(.str [])] [(0, (1, (.t s9)))])), none⟩, ⟨(some s11), (.loud (lApp 1 16 (.t s8) (.t s10))), none⟩, ⟨none, (.loud (lSto 1 (.t s2) (.t s11))), none⟩])))))
 (.seq (.ops [⟨(some s12), (.quiet true (qLoad1 (.t s2))), none⟩, ⟨(some s4), (.quiet false (qMov (.t s12))), none⟩])
 .ret)))⟩
/- maps.Values[map[int]string,int,string]$1 -/
def c60l0 : ACode :=
 (.seq (.ops [⟨(some s7), (.next (.t s6)), none⟩, ⟨(some s8), (.quiet false (qExt 0 (.t s7))), none⟩])
 (.seq (.cond (.t s8) .skip (.exit 0))
 (.block 1 (.seq (.ops [⟨(some s9), (.quiet true (qEntry (.t s6))), none⟩, ⟨(some s10), (.quiet false (qExt 1 (.t s9))), none⟩, ⟨(some s4), (.quiet false (qMov (.t s10))), none⟩])
 (.seq (.ops [⟨(some s11), (.quiet false (qMov (.t s0))), none⟩, ⟨(some s12), (.quiet false (qMov (.t s4))), none⟩, ⟨(some s13), (.call (.t s11) [(.t s12)]), none⟩, ⟨(some s14), (.quiet false (qUn .not (.t s13))), none⟩])
 (.cond (.t s14) .ret .skip))))))
def c60 : AFunc :=
 ⟨15, [], (.seq (.ops [⟨(some s5), (.quiet true (qLoad1 (.t s1))), none⟩, ⟨(some s6), (.loud (lRng (.t s5))), none⟩])
 (.block 0 (.loop c60l0)))⟩
/- blockyard/place.Right -/
def c61 : AFunc :=
 ⟨44, [(.tmp s2)], (.seq (.ops [⟨(some s1), (.alloc (aBox (.t s0))), none⟩, ⟨(some s2), (.quiet false (qMov (.c (.bool false)))), none⟩])
 (.seq (.ops [⟨(some s4), (.quiet false (qFaddr 0 (.t s1))), none⟩, ⟨(some s5), (.quiet true (qLoad1 (.t s4))), none⟩, ⟨(some s6), (.quiet false (qBin .eql (.t s5) (.c (.int .i64 1)))), none⟩, ⟨(some s7), (.quiet false (qMov (.t s6))), none⟩, ⟨(some s8), (.quiet false (qFaddr 1 (.t s1))), (some (s7, true))⟩, ⟨(some s9), (.quiet true (qLoad1 (.t s8))), (some (s7, true))⟩, ⟨(some s10), (.quiet false (qBin .eql (.t s9) (.c (.int .i64 2)))), (some (s7, true))⟩, ⟨(some s11), (.quiet false (qPick (.t s7) (.t s10) (.c (.bool false)))), none⟩, ⟨(some s12), (.quiet false (qMov (.t s11))), none⟩, ⟨(some s13), (.quiet false (qFaddr 0 (.t s1))), (some (s12, false))⟩, ⟨(some s14), (.quiet true (qLoad1 (.t s13))), (some (s12, false))⟩, ⟨(some s15), (.quiet false (qBin .eql (.t s14) (.c (.int .i64 5)))), (some (s12, false))⟩, ⟨(some s16), (.quiet false (qMov (.t s15))), (some (s12, false))⟩, ⟨(some s17), (.quiet false (qFaddr 1 (.t s1))), (some (s16, true))⟩, ⟨(some s18), (.quiet true (qLoad1 (.t s17))), (some (s16, true))⟩, ⟨(some s19), (.quiet false (qBin .eql (.t s18) (.c (.int .i64 3)))), (some (s16, true))⟩, ⟨(some s20), (.quiet false (qMov (.t s19))), (some (s16, true))⟩, ⟨(some s21), (.quiet false (qFaddr 1 (.t s1))), (some (s20, false))⟩, ⟨(some s22), (.quiet true (qLoad1 (.t s21))), (some (s20, false))⟩, ⟨(some s23), (.quiet false (qBin .eql (.t s22) (.c (.int .i64 4)))), (some (s20, false))⟩, ⟨(some s24), (.quiet false (qPick (.t s20) (.c (.bool true)) (.t s23))), (some (s16, true))⟩, ⟨(some s25), (.quiet false (qPick (.t s16) (.t s24) (.c (.bool false)))), (some (s12, false))⟩, ⟨(some s26), (.quiet false (qPick (.t s12) (.c (.bool true)) (.t s25))), none⟩, ⟨(some s3), (.quiet false (qMov (.t s26))), none⟩])
 (.seq (.ops [⟨(some s27), (.quiet false (qMov (.t s3))), none⟩, ⟨(some s28), (.quiet false (qMov (.t s27))), none⟩, ⟨(some s29), (.quiet false (qFaddr 2 (.t s1))), (some (s28, true))⟩, ⟨(some s30), (.quiet true (qLoad1 (.t s29))), (some (s28, true))⟩, ⟨(some s31), (.quiet false (qBin .geq (.t s30) (.c (.int .i64 2)))), (some (s28, true))⟩, ⟨(some s32), (.quiet false (qPick (.t s28) (.t s31) (.c (.bool false)))), none⟩, ⟨(some s33), (.quiet false (qMov (.t s32))), none⟩, ⟨(some s34), (.quiet false (qFaddr 2 (.t s1))), (some (s33, true))⟩, ⟨(some s35), (.quiet true (qLoad1 (.t s34))), (some (s33, true))⟩, ⟨(some s36), (.quiet false (qBin .leq (.t s35) (.c (.int .i64 64)))), (some (s33, true))⟩, ⟨(some s37), (.quiet false (qPick (.t s33) (.t s36) (.c (.bool false)))), none⟩, ⟨(some s38), (.quiet false (qMov (.t s37))), none⟩, ⟨(some s39), (.quiet false (qFaddr 2 (.t s1))), (some (s38, true))⟩, ⟨(some s40), (.quiet true (qLoad1 (.t s39))), (some (s38, true))⟩, ⟨(some s41), (.quiet false (qBin .rem (.t s40) (.c (.int .i64 2)))), (some (s38, true))⟩, ⟨(some s42), (.quiet false (qBin .eql (.t s41) (.c (.int .i64 0)))), (some (s38, true))⟩, ⟨(some s43), (.quiet false (qPick (.t s38) (.t s42) (.c (.bool false)))), none⟩, ⟨(some s2), (.quiet false (qMov (.t s43))), none⟩])
 .ret)))⟩
/- slices.IndexFunc[[]int,int] -/
def c62l0 : ACode :=
 (.seq (.ops [⟨(some s9), (.quiet false (qBin .lss (.t s8) (.t s7))), none⟩])
 (.seq (.cond (.t s9) .skip (.exit 0))
 (.seq (.block 1 (.seq (.ops [⟨(some s10), (.quiet false (qMov (.t s8))), none⟩, ⟨(some s5), (.quiet false (qMov (.t s10))), none⟩])
 (.seq (.ops [⟨(some s11), (.quiet false (qMov (.t s1))), none⟩, ⟨(some s12), (.quiet false (qMov (.t s0))), none⟩, ⟨(some s13), (.quiet false (qMov (.t s5))), none⟩, ⟨(some s14), (.quiet false (qIaddrS 1 (.t s12) (.t s13))), none⟩, ⟨(some s15), (.quiet true (qLoad1 (.t s14))), none⟩, ⟨(some s16), (.call (.t s11) [(.t s15)]), none⟩])
 (.cond (.t s16) (.seq (.ops [⟨(some s17), (.quiet false (qMov (.t s5))), none⟩, ⟨(some s4), (.quiet false (qMov (.t s17))), none⟩])
 .ret) .skip))))
 (.ops [⟨(some s18), (.quiet false (qBin .add (.t s8) (.c (.int .i64 1)))), none⟩, ⟨(some s8), (.quiet false (qMov (.t s18))), none⟩]))))
def c62 : AFunc :=
 ⟨19, [(.tmp s4)], (.seq (.ops [⟨(some s4), (.quiet false (qMov (.c (.int .i64 0)))), none⟩])
 (.seq (.seq (.ops [⟨(some s6), (.quiet false (qMov (.t s0))), none⟩, ⟨(some s7), (.quiet false (qLenL (.t s6))), none⟩, ⟨(some s8), (.quiet false (qMov (.c (.int .i64 0)))), none⟩])
 (.block 0 (.loop c62l0)))
 (.seq (.ops [⟨(some s4), (.quiet false (qMov (.c (.int .i64 (-1))))), none⟩])
 .ret)))⟩
/- slices.pdqsortOrdered[int] -/
def c63l0 : ACode :=
 (.block 1 (.seq (.ops [⟨(some s19), (.quiet false (qMov (.t s2))), none⟩, ⟨(some s20), (.quiet false (qMov (.t s1))), none⟩, ⟨(some s21), (.quiet false (qBin .sub (.t s19) (.t s20))), none⟩, ⟨(some s10), (.quiet false (qMov (.t s21))), none⟩])
 (.seq (.seq (.ops [⟨(some s22), (.quiet false (qMov (.t s10))), none⟩, ⟨(some s23), (.quiet false (qBin .leq (.t s22) (.c (.int .i64 12)))), none⟩])
 (.cond (.t s23) (.seq (.ops [⟨(some s24), (.quiet false (qMov (.t s0))), none⟩, ⟨(some s25), (.quiet false (qMov (.t s1))), none⟩, ⟨(some s26), (.quiet false (qMov (.t s2))), none⟩, ⟨(some s27), (.call (.c (.func (.func 65) [] [])) [(.t s24), (.t s25), (.t s26)]), none⟩])
 .ret) .skip))
 (.seq (.seq (.ops [⟨(some s28), (.quiet false (qMov (.t s3))), none⟩, ⟨(some s29), (.quiet false (qBin .eql (.t s28) (.c (.int .i64 0)))), none⟩])
 (.cond (.t s29) (.seq (.ops [⟨(some s30), (.quiet false (qMov (.t s0))), none⟩, ⟨(some s31), (.quiet false (qMov (.t s1))), none⟩, ⟨(some s32), (.quiet false (qMov (.t s2))), none⟩, ⟨(some s33), (.call (.c (.func (.func 66) [] [])) [(.t s30), (.t s31), (.t s32)]), none⟩])
 .ret) .skip))
 (.seq (.seq (.ops [⟨(some s34), (.quiet false (qMov (.t s8))), none⟩, ⟨(some s35), (.quiet false (qUn .not (.t s34))), none⟩])
 (.cond (.t s35) (.seq (.ops [⟨(some s36), (.quiet false (qMov (.t s0))), none⟩, ⟨(some s37), (.quiet false (qMov (.t s1))), none⟩, ⟨(some s38), (.quiet false (qMov (.t s2))), none⟩, ⟨(some s39), (.call (.c (.func (.func 67) [] [])) [(.t s36), (.t s37), (.t s38)]), none⟩])
 (.ops [⟨(some s40), (.quiet false (qMov (.t s3))), none⟩, ⟨(some s41), (.quiet false (qBin .sub (.t s40) (.c (.int .i64 1)))), none⟩, ⟨(some s3), (.quiet false (qMov (.t s41))), none⟩])) .skip))
 (.seq (.ops [⟨(some s43), (.quiet false (qMov (.t s0))), none⟩, ⟨(some s44), (.quiet false (qMov (.t s1))), none⟩, ⟨(some s45), (.quiet false (qMov (.t s2))), none⟩, ⟨(some s46), (.call (.c (.func (.func 68) [] [])) [(.t s43), (.t s44), (.t s45)]), none⟩, ⟨(some s42), (.quiet false (qMov (.t s46))), none⟩, ⟨(some s47), (.quiet false (qExt 0 (.t s42))), none⟩, ⟨(some s48), (.quiet false (qExt 1 (.t s42))), none⟩, ⟨(some s11), (.quiet false (qMov (.t s47))), none⟩, ⟨(some s12), (.quiet false (qMov (.t s48))), none⟩])
 (.seq (.seq (.ops [⟨(some s49), (.quiet false (qMov (.t s12))), none⟩, ⟨(some s50), (.quiet false (qBin .eql (.t s49) (.c (.int .i64 2)))), none⟩])
 (.cond (.t s50) (.seq (.ops [⟨(some s51), (.quiet false (qMov (.t s0))), none⟩, ⟨(some s52), (.quiet false (qMov (.t s1))), none⟩, ⟨(some s53), (.quiet false (qMov (.t s2))), none⟩, ⟨(some s54), (.call (.c (.func (.func 69) [] [])) [(.t s51), (.t s52), (.t s53)]), none⟩])
 (.seq (.ops [⟨(some s55), (.quiet false (qMov (.t s2))), none⟩, ⟨(some s56), (.quiet false (qBin .sub (.t s55) (.c (.int .i64 1)))), none⟩, ⟨(some s57), (.quiet false (qMov (.t s11))), none⟩, ⟨(some s58), (.quiet false (qMov (.t s1))), none⟩, ⟨(some s59), (.quiet false (qBin .sub (.t s57) (.t s58))), none⟩, ⟨(some s60), (.quiet false (qBin .sub (.t s56) (.t s59))), none⟩, ⟨(some s11), (.quiet false (qMov (.t s60))), none⟩])
 (.ops [⟨(some s12), (.quiet false (qMov (.c (.int .i64 1)))), none⟩]))) .skip))
 (.seq (.seq (.ops [⟨(some s61), (.quiet false (qMov (.t s8))), none⟩, ⟨(some s62), (.quiet false (qMov (.t s61))), none⟩, ⟨(some s63), (.quiet false (qMov (.t s9))), (some (s62, true))⟩, ⟨(some s64), (.quiet false (qPick (.t s62) (.t s63) (.c (.bool false)))), none⟩, ⟨(some s65), (.quiet false (qMov (.t s64))), none⟩, ⟨(some s66), (.quiet false (qMov (.t s12))), (some (s65, true))⟩, ⟨(some s67), (.quiet false (qBin .eql (.t s66) (.c (.int .i64 1)))), (some (s65, true))⟩, ⟨(some s68), (.quiet false (qPick (.t s65) (.t s67) (.c (.bool false)))), none⟩])
 (.cond (.t s68) (.seq (.ops [⟨(some s69), (.quiet false (qMov (.t s0))), none⟩, ⟨(some s70), (.quiet false (qMov (.t s1))), none⟩, ⟨(some s71), (.quiet false (qMov (.t s2))), none⟩, ⟨(some s72), (.call (.c (.func (.func 70) [] [])) [(.t s69), (.t s70), (.t s71)]), none⟩])
 (.cond (.t s72) .ret .skip)) .skip))
 (.seq (.seq (.draw (.calm ⟨(some s73), (.quiet false (qMov (.t s1))), none⟩ (.calm ⟨(some s74), (.quiet false (qBin .gtr (.t s73) (.c (.int .i64 0)))), none⟩ (.calm ⟨(some s75), (.quiet false (qMov (.t s74))), none⟩ (.calm ⟨(some s76), (.quiet false (qMov (.t s0))), (some (s75, true))⟩ (.calm ⟨(some s77), (.quiet false (qMov (.t s1))), (some (s75, true))⟩ (.calm ⟨(some s78), (.quiet false (qBin .sub (.t s77) (.c (.int .i64 1)))), (some (s75, true))⟩ (.calm ⟨(some s79), (.quiet false (qIaddrS 1 (.t s76) (.t s78))), (some (s75, true))⟩ (.calm ⟨(some s80), (.quiet true (qLoad1 (.t s79))), (some (s75, true))⟩ (.calm ⟨(some s81), (.quiet false (qMov (.t s0))), (some (s75, true))⟩ (.calm ⟨(some s82), (.quiet false (qMov (.t s11))), (some (s75, true))⟩ (.calm ⟨(some s83), (.quiet false (qIaddrS 1 (.t s81) (.t s82))), (some (s75, true))⟩ (.calm ⟨(some s84), (.quiet true (qLoad1 (.t s83))), (some (s75, true))⟩ .fin)))))))))))) [⟨(some s85), (.call (.c (.func (.func 71) [] [])) [(.t s80), (.t s84)]), (some (s75, true))⟩, ⟨(some s86), (.quiet false (qUn .not (.t s85))), (some (s75, true))⟩, ⟨(some s87), (.quiet false (qPick (.t s75) (.t s86) (.c (.bool false)))), none⟩])
 (.cond (.t s87) (.seq (.ops [⟨(some s88), (.quiet false (qMov (.t s0))), none⟩, ⟨(some s89), (.quiet false (qMov (.t s1))), none⟩, ⟨(some s90), (.quiet false (qMov (.t s2))), none⟩, ⟨(some s91), (.quiet false (qMov (.t s11))), none⟩, ⟨(some s92), (.call (.c (.func (.func 72) [] [])) [(.t s88), (.t s89), (.t s90), (.t s91)]), none⟩, ⟨(some s13), (.quiet false (qMov (.t s92))), none⟩])
 (.seq (.ops [⟨(some s93), (.quiet false (qMov (.t s13))), none⟩, ⟨(some s1), (.quiet false (qMov (.t s93))), none⟩])
 (.exit 1))) .skip))
 (.seq (.ops [⟨(some s95), (.quiet false (qMov (.t s0))), none⟩, ⟨(some s96), (.quiet false (qMov (.t s1))), none⟩, ⟨(some s97), (.quiet false (qMov (.t s2))), none⟩, ⟨(some s98), (.quiet false (qMov (.t s11))), none⟩, ⟨(some s99), (.call (.c (.func (.func 73) [] [])) [(.t s95), (.t s96), (.t s97), (.t s98)]), none⟩, ⟨(some s94), (.quiet false (qMov (.t s99))), none⟩, ⟨(some s100), (.quiet false (qExt 0 (.t s94))), none⟩, ⟨(some s101), (.quiet false (qExt 1 (.t s94))), none⟩, ⟨(some s14), (.quiet false (qMov (.t s100))), none⟩, ⟨(some s15), (.quiet false (qMov (.t s101))), none⟩])
 (.seq (.ops [⟨(some s102), (.quiet false (qMov (.t s15))), none⟩, ⟨(some s9), (.quiet false (qMov (.t s102))), none⟩])
 (.seq (.ops [⟨(some s103), (.quiet false (qMov (.t s14))), none⟩, ⟨(some s104), (.quiet false (qMov (.t s1))), none⟩, ⟨(some s105), (.quiet false (qBin .sub (.t s103) (.t s104))), none⟩, ⟨(some s106), (.quiet false (qMov (.t s2))), none⟩, ⟨(some s107), (.quiet false (qMov (.t s14))), none⟩, ⟨(some s108), (.quiet false (qBin .sub (.t s106) (.t s107))), none⟩, ⟨(some s16), (.quiet false (qMov (.t s105))), none⟩, ⟨(some s17), (.quiet false (qMov (.t s108))), none⟩])
 (.seq (.ops [⟨(some s109), (.quiet false (qMov (.t s10))), none⟩, ⟨(some s110), (.quiet false (qBin .quo (.t s109) (.c (.int .i64 8)))), none⟩, ⟨(some s18), (.quiet false (qMov (.t s110))), none⟩])
 (.seq (.ops [⟨(some s111), (.quiet false (qMov (.t s16))), none⟩, ⟨(some s112), (.quiet false (qMov (.t s17))), none⟩, ⟨(some s113), (.quiet false (qBin .lss (.t s111) (.t s112))), none⟩])
 (.cond (.t s113) (.seq (.ops [⟨(some s114), (.quiet false (qMov (.t s16))), none⟩, ⟨(some s115), (.quiet false (qMov (.t s18))), none⟩, ⟨(some s116), (.quiet false (qBin .geq (.t s114) (.t s115))), none⟩, ⟨(some s8), (.quiet false (qMov (.t s116))), none⟩])
 (.seq (.ops [⟨(some s117), (.quiet false (qMov (.t s0))), none⟩, ⟨(some s118), (.quiet false (qMov (.t s1))), none⟩, ⟨(some s119), (.quiet false (qMov (.t s14))), none⟩, ⟨(some s120), (.quiet false (qMov (.t s3))), none⟩, ⟨(some s121), (.call (.c (.func (.func 63) [] [])) [(.t s117), (.t s118), (.t s119), (.t s120)]), none⟩])
 (.ops [⟨(some s122), (.quiet false (qMov (.t s14))), none⟩, ⟨(some s123), (.quiet false (qBin .add (.t s122) (.c (.int .i64 1)))), none⟩, ⟨(some s1), (.quiet false (qMov (.t s123))), none⟩]))) (.seq (.ops [⟨(some s124), (.quiet false (qMov (.t s17))), none⟩, ⟨(some s125), (.quiet false (qMov (.t s18))), none⟩, ⟨(some s126), (.quiet false (qBin .geq (.t s124) (.t s125))), none⟩, ⟨(some s8), (.quiet false (qMov (.t s126))), none⟩])
 (.seq (.ops [⟨(some s127), (.quiet false (qMov (.t s0))), none⟩, ⟨(some s128), (.quiet false (qMov (.t s14))), none⟩, ⟨(some s129), (.quiet false (qBin .add (.t s128) (.c (.int .i64 1)))), none⟩, ⟨(some s130), (.quiet false (qMov (.t s2))), none⟩, ⟨(some s131), (.quiet false (qMov (.t s3))), none⟩, ⟨(some s132), (.call (.c (.func (.func 63) [] [])) [(.t s127), (.t s129), (.t s130), (.t s131)]), none⟩])
 (.ops [⟨(some s133), (.quiet false (qMov (.t s14))), none⟩, ⟨(some s2), (.quiet false (qMov (.t s133))), none⟩]))))))))))))))))))
def c63 : AFunc :=
 ⟨134, [], (.seq (.ops [⟨(some s8), (.quiet false (qMov (.c (.bool true)))), none⟩])
 (.seq (.ops [⟨(some s9), (.quiet false (qMov (.c (.bool true)))), none⟩])
 (.block 0 (.loop c63l0))))⟩
/- math/bits.Len -/
def c64 : AFunc :=
 ⟨8, [(.tmp s2)], (.seq (.ops [⟨(some s2), (.quiet false (qMov (.c (.int .i64 0)))), none⟩])
 (.seq (.cond (.c (.bool false)) (.seq (.ops [⟨(some s3), (.quiet false (qMov (.t s0))), none⟩, ⟨(some s4), (.quiet false (qConv .u32 (.t s3))), none⟩, ⟨(some s5), (.call (.c (.func (.func 74) [] [])) [(.t s4)]), none⟩, ⟨(some s2), (.quiet false (qMov (.t s5))), none⟩])
 .ret) .skip)
 (.seq (.ops [⟨(some s6), (.quiet false (qMov (.t s0))), none⟩, ⟨(some s7), (.call (.c (.func (.func 75) [] [])) [(.t s6)]), none⟩, ⟨(some s2), (.quiet false (qMov (.t s7))), none⟩])
 .ret)))⟩
/- slices.insertionSortOrdered[int] -/
def c65l0 : ACode :=
 (.seq (.seq (.draw (.calm ⟨(some s16), (.quiet false (qMov (.t s7))), none⟩ (.calm ⟨(some s17), (.quiet false (qMov (.t s1))), none⟩ (.calm ⟨(some s18), (.quiet false (qBin .gtr (.t s16) (.t s17))), none⟩ (.calm ⟨(some s19), (.quiet false (qMov (.t s18))), none⟩ (.calm ⟨(some s20), (.quiet false (qMov (.t s0))), (some (s19, true))⟩ (.calm ⟨(some s21), (.quiet false (qMov (.t s7))), (some (s19, true))⟩ (.calm ⟨(some s22), (.quiet false (qIaddrS 1 (.t s20) (.t s21))), (some (s19, true))⟩ (.calm ⟨(some s23), (.quiet true (qLoad1 (.t s22))), (some (s19, true))⟩ (.calm ⟨(some s24), (.quiet false (qMov (.t s0))), (some (s19, true))⟩ (.calm ⟨(some s25), (.quiet false (qMov (.t s7))), (some (s19, true))⟩ (.calm ⟨(some s26), (.quiet false (qBin .sub (.t s25) (.c (.int .i64 1)))), (some (s19, true))⟩ (.calm ⟨(some s27), (.quiet false (qIaddrS 1 (.t s24) (.t s26))), (some (s19, true))⟩ (.calm ⟨(some s28), (.quiet true (qLoad1 (.t s27))), (some (s19, true))⟩ .fin))))))))))))) [⟨(some s29), (.call (.c (.func (.func 71) [] [])) [(.t s23), (.t s28)]), (some (s19, true))⟩, ⟨(some s30), (.quiet false (qPick (.t s19) (.t s29) (.c (.bool false)))), none⟩])
 (.cond (.t s30) .skip (.exit 2)))
 (.seq (.block 3 (.draw (.calm ⟨(some s33), (.quiet false (qMov (.t s0))), none⟩ (.calm ⟨(some s34), (.quiet false (qMov (.t s7))), none⟩ (.calm ⟨(some s35), (.quiet false (qMov (.t s0))), none⟩ (.calm ⟨(some s36), (.quiet false (qMov (.t s7))), none⟩ (.calm ⟨(some s37), (.quiet false (qBin .sub (.t s36) (.c (.int .i64 1)))), none⟩ (.calm ⟨(some s38), (.quiet false (qMov (.t s0))), none⟩ (.calm ⟨(some s39), (.quiet false (qMov (.t s7))), none⟩ (.calm ⟨(some s40), (.quiet false (qBin .sub (.t s39) (.c (.int .i64 1)))), none⟩ (.calm ⟨(some s41), (.quiet false (qIaddrS 1 (.t s38) (.t s40))), none⟩ (.calm ⟨(some s42), (.quiet true (qLoad1 (.t s41))), none⟩ (.calm ⟨(some s43), (.quiet false (qMov (.t s0))), none⟩ (.calm ⟨(some s44), (.quiet false (qMov (.t s7))), none⟩ (.calm ⟨(some s45), (.quiet false (qIaddrS 1 (.t s43) (.t s44))), none⟩ (.calm ⟨(some s46), (.quiet true (qLoad1 (.t s45))), none⟩ (.calm ⟨(some s47), (.quiet false (qIaddrS 1 (.t s33) (.t s34))), none⟩ (.last ⟨⟨none, (.loud (lSto 1 (.t s47) (.t s42))), none⟩, []⟩ .fin)))))))))))))))) [⟨(some s48), (.quiet false (qIaddrS 1 (.t s35) (.t s37))), none⟩, ⟨none, (.loud (lSto 1 (.t s48) (.t s46))), none⟩]))
 (.ops [⟨(some s31), (.quiet false (qMov (.t s7))), none⟩, ⟨(some s32), (.quiet false (qBin .sub (.t s31) (.c (.int .i64 1)))), none⟩, ⟨(some s7), (.quiet false (qMov (.t s32))), none⟩])))
def c65l1 : ACode :=
 (.seq (.seq (.ops [⟨(some s10), (.quiet false (qMov (.t s6))), none⟩, ⟨(some s11), (.quiet false (qMov (.t s2))), none⟩, ⟨(some s12), (.quiet false (qBin .lss (.t s10) (.t s11))), none⟩])
 (.cond (.t s12) .skip (.exit 0)))
 (.seq (.block 1 (.seq (.ops [⟨(some s15), (.quiet false (qMov (.t s6))), none⟩, ⟨(some s7), (.quiet false (qMov (.t s15))), none⟩])
 (.block 2 (.loop c65l0))))
 (.ops [⟨(some s13), (.quiet false (qMov (.t s6))), none⟩, ⟨(some s14), (.quiet false (qBin .add (.t s13) (.c (.int .i64 1)))), none⟩, ⟨(some s6), (.quiet false (qMov (.t s14))), none⟩])))
def c65 : AFunc :=
 ⟨49, [], (.seq (.ops [⟨(some s8), (.quiet false (qMov (.t s1))), none⟩, ⟨(some s9), (.quiet false (qBin .add (.t s8) (.c (.int .i64 1)))), none⟩, ⟨(some s6), (.quiet false (qMov (.t s9))), none⟩])
 (.block 0 (.loop c65l1)))⟩
/- slices.heapSortOrdered[int] -/
def c66l0 : ACode :=
 (.seq (.seq (.ops [⟨(some s18), (.quiet false (qMov (.t s9))), none⟩, ⟨(some s19), (.quiet false (qBin .geq (.t s18) (.c (.int .i64 0)))), none⟩])
 (.cond (.t s19) .skip (.exit 0)))
 (.seq (.block 1 (.ops [⟨(some s22), (.quiet false (qMov (.t s0))), none⟩, ⟨(some s23), (.quiet false (qMov (.t s9))), none⟩, ⟨(some s24), (.quiet false (qMov (.t s8))), none⟩, ⟨(some s25), (.quiet false (qMov (.t s6))), none⟩, ⟨(some s26), (.call (.c (.func (.func 76) [] [])) [(.t s22), (.t s23), (.t s24), (.t s25)]), none⟩]))
 (.ops [⟨(some s20), (.quiet false (qMov (.t s9))), none⟩, ⟨(some s21), (.quiet false (qBin .sub (.t s20) (.c (.int .i64 1)))), none⟩, ⟨(some s9), (.quiet false (qMov (.t s21))), none⟩])))
def c66l1 : ACode :=
 (.seq (.seq (.ops [⟨(some s29), (.quiet false (qMov (.t s10))), none⟩, ⟨(some s30), (.quiet false (qBin .geq (.t s29) (.c (.int .i64 0)))), none⟩])
 (.cond (.t s30) .skip (.exit 2)))
 (.seq (.block 3 (.seq (.draw (.calm ⟨(some s33), (.quiet false (qMov (.t s0))), none⟩ (.calm ⟨(some s34), (.quiet false (qMov (.t s6))), none⟩ (.calm ⟨(some s35), (.quiet false (qMov (.t s0))), none⟩ (.calm ⟨(some s36), (.quiet false (qMov (.t s6))), none⟩ (.calm ⟨(some s37), (.quiet false (qMov (.t s10))), none⟩ (.calm ⟨(some s38), (.quiet false (qBin .add (.t s36) (.t s37))), none⟩ (.calm ⟨(some s39), (.quiet false (qMov (.t s0))), none⟩ (.calm ⟨(some s40), (.quiet false (qMov (.t s6))), none⟩ (.calm ⟨(some s41), (.quiet false (qMov (.t s10))), none⟩ (.calm ⟨(some s42), (.quiet false (qBin .add (.t s40) (.t s41))), none⟩ (.calm ⟨(some s43), (.quiet false (qIaddrS 1 (.t s39) (.t s42))), none⟩ (.calm ⟨(some s44), (.quiet true (qLoad1 (.t s43))), none⟩ (.calm ⟨(some s45), (.quiet false (qMov (.t s0))), none⟩ (.calm ⟨(some s46), (.quiet false (qMov (.t s6))), none⟩ (.calm ⟨(some s47), (.quiet false (qIaddrS 1 (.t s45) (.t s46))), none⟩ (.calm ⟨(some s48), (.quiet true (qLoad1 (.t s47))), none⟩ (.calm ⟨(some s49), (.quiet false (qIaddrS 1 (.t s33) (.t s34))), none⟩ (.last ⟨⟨none, (.loud (lSto 1 (.t s49) (.t s44))), none⟩, []⟩ .fin)))))))))))))))))) [⟨(some s50), (.quiet false (qIaddrS 1 (.t s35) (.t s38))), none⟩, ⟨none, (.loud (lSto 1 (.t s50) (.t s48))), none⟩])
 (.ops [⟨(some s51), (.quiet false (qMov (.t s0))), none⟩, ⟨(some s52), (.quiet false (qMov (.t s7))), none⟩, ⟨(some s53), (.quiet false (qMov (.t s10))), none⟩, ⟨(some s54), (.quiet false (qMov (.t s6))), none⟩, ⟨(some s55), (.call (.c (.func (.func 76) [] [])) [(.t s51), (.t s52), (.t s53), (.t s54)]), none⟩])))
 (.ops [⟨(some s31), (.quiet false (qMov (.t s10))), none⟩, ⟨(some s32), (.quiet false (qBin .sub (.t s31) (.c (.int .i64 1)))), none⟩, ⟨(some s10), (.quiet false (qMov (.t s32))), none⟩])))
def c66 : AFunc :=
 ⟨56, [], (.seq (.ops [⟨(some s11), (.quiet false (qMov (.t s1))), none⟩, ⟨(some s6), (.quiet false (qMov (.t s11))), none⟩])
 (.seq (.ops [⟨(some s7), (.quiet false (qMov (.c (.int .i64 0)))), none⟩])
 (.seq (.ops [⟨(some s12), (.quiet false (qMov (.t s2))), none⟩, ⟨(some s13), (.quiet false (qMov (.t s1))), none⟩, ⟨(some s14), (.quiet false (qBin .sub (.t s12) (.t s13))), none⟩, ⟨(some s8), (.quiet false (qMov (.t s14))), none⟩])
 (.seq (.seq (.ops [⟨(some s15), (.quiet false (qMov (.t s8))), none⟩, ⟨(some s16), (.quiet false (qBin .sub (.t s15) (.c (.int .i64 1)))), none⟩, ⟨(some s17), (.quiet false (qBin .quo (.t s16) (.c (.int .i64 2)))), none⟩, ⟨(some s9), (.quiet false (qMov (.t s17))), none⟩])
 (.block 0 (.loop c66l0)))
 (.seq (.ops [⟨(some s27), (.quiet false (qMov (.t s8))), none⟩, ⟨(some s28), (.quiet false (qBin .sub (.t s27) (.c (.int .i64 1)))), none⟩, ⟨(some s10), (.quiet false (qMov (.t s28))), none⟩])
 (.block 2 (.loop c66l1)))))))⟩
/- slices.breakPatternsOrdered[int] -/
def c67l0 : ACode :=
 (.seq (.seq (.ops [⟨(some s26), (.quiet false (qMov (.t s9))), none⟩, ⟨(some s27), (.quiet false (qMov (.t s1))), none⟩, ⟨(some s28), (.quiet false (qMov (.t s6))), none⟩, ⟨(some s29), (.quiet false (qBin .quo (.t s28) (.c (.int .i64 4)))), none⟩, ⟨(some s30), (.quiet false (qBin .mul (.t s29) (.c (.int .i64 2)))), none⟩, ⟨(some s31), (.quiet false (qBin .add (.t s27) (.t s30))), none⟩, ⟨(some s32), (.quiet false (qBin .add (.t s31) (.c (.int .i64 1)))), none⟩, ⟨(some s33), (.quiet false (qBin .leq (.t s26) (.t s32))), none⟩])
 (.cond (.t s33) .skip (.exit 0)))
 (.seq (.block 1 (.seq (.ops [⟨(some s36), (.call (.c (.func (.func 78) [] [])) [(.t s7)]), none⟩, ⟨(some s37), (.quiet false (qMov (.t s8))), none⟩, ⟨(some s38), (.quiet false (qBin .sub (.t s37) (.c (.int .u64 1)))), none⟩, ⟨(some s39), (.quiet false (qBin .and (.t s36) (.t s38))), none⟩, ⟨(some s40), (.quiet false (qConv .i64 (.t s39))), none⟩, ⟨(some s10), (.quiet false (qMov (.t s40))), none⟩])
 (.seq (.seq (.ops [⟨(some s41), (.quiet false (qMov (.t s10))), none⟩, ⟨(some s42), (.quiet false (qMov (.t s6))), none⟩, ⟨(some s43), (.quiet false (qBin .geq (.t s41) (.t s42))), none⟩])
 (.cond (.t s43) (.ops [⟨(some s44), (.quiet false (qMov (.t s10))), none⟩, ⟨(some s45), (.quiet false (qMov (.t s6))), none⟩, ⟨(some s46), (.quiet false (qBin .sub (.t s44) (.t s45))), none⟩, ⟨(some s10), (.quiet false (qMov (.t s46))), none⟩]) .skip))
 (.draw (.calm ⟨(some s47), (.quiet false (qMov (.t s0))), none⟩ (.calm ⟨(some s48), (.quiet false (qMov (.t s9))), none⟩ (.calm ⟨(some s49), (.quiet false (qMov (.t s0))), none⟩ (.calm ⟨(some s50), (.quiet false (qMov (.t s1))), none⟩ (.calm ⟨(some s51), (.quiet false (qMov (.t s10))), none⟩ (.calm ⟨(some s52), (.quiet false (qBin .add (.t s50) (.t s51))), none⟩ (.calm ⟨(some s53), (.quiet false (qMov (.t s0))), none⟩ (.calm ⟨(some s54), (.quiet false (qMov (.t s1))), none⟩ (.calm ⟨(some s55), (.quiet false (qMov (.t s10))), none⟩ (.calm ⟨(some s56), (.quiet false (qBin .add (.t s54) (.t s55))), none⟩ (.calm ⟨(some s57), (.quiet false (qIaddrS 1 (.t s53) (.t s56))), none⟩ (.calm ⟨(some s58), (.quiet true (qLoad1 (.t s57))), none⟩ (.calm ⟨(some s59), (.quiet false (qMov (.t s0))), none⟩ (.calm ⟨(some s60), (.quiet false (qMov (.t s9))), none⟩ (.calm ⟨(some s61), (.quiet false (qIaddrS 1 (.t s59) (.t s60))), none⟩ (.calm ⟨(some s62), (.quiet true (qLoad1 (.t s61))), none⟩ (.calm ⟨(some s63), (.quiet false (qIaddrS 1 (.t s47) (.t s48))), none⟩ (.last ⟨⟨none, (.loud (lSto 1 (.t s63) (.t s58))), none⟩, []⟩ .fin)))))))))))))))))) [⟨(some s64), (.quiet false (qIaddrS 1 (.t s49) (.t s52))), none⟩, ⟨none, (.loud (lSto 1 (.t s64) (.t s62))), none⟩]))))
 (.ops [⟨(some s34), (.quiet false (qMov (.t s9))), none⟩, ⟨(some s35), (.quiet false (qBin .add (.t s34) (.c (.int .i64 1)))), none⟩, ⟨(some s9), (.quiet false (qMov (.t s35))), none⟩])))
def c67 : AFunc :=
 ⟨65, [], (.seq (.ops [⟨(some s11), (.quiet false (qMov (.t s2))), none⟩, ⟨(some s12), (.quiet false (qMov (.t s1))), none⟩, ⟨(some s13), (.quiet false (qBin .sub (.t s11) (.t s12))), none⟩, ⟨(some s6), (.quiet false (qMov (.t s13))), none⟩])
 (.seq (.ops [⟨(some s14), (.quiet false (qMov (.t s6))), none⟩, ⟨(some s15), (.quiet false (qBin .geq (.t s14) (.c (.int .i64 8)))), none⟩])
 (.cond (.t s15) (.seq (.ops [⟨(some s16), (.quiet false (qMov (.t s6))), none⟩, ⟨(some s17), (.quiet false (qConv .u64 (.t s16))), none⟩, ⟨(some s7), (.alloc (aBox (.c (.int .u64 0)))), none⟩, ⟨none, (.loud (lSto 1 (.t s7) (.t s17))), none⟩])
 (.seq (.ops [⟨(some s18), (.quiet false (qMov (.t s6))), none⟩, ⟨(some s19), (.call (.c (.func (.func 77) [] [])) [(.t s18)]), none⟩, ⟨(some s8), (.quiet false (qMov (.t s19))), none⟩])
 (.seq (.ops [⟨(some s20), (.quiet false (qMov (.t s1))), none⟩, ⟨(some s21), (.quiet false (qMov (.t s6))), none⟩, ⟨(some s22), (.quiet false (qBin .quo (.t s21) (.c (.int .i64 4)))), none⟩, ⟨(some s23), (.quiet false (qBin .mul (.t s22) (.c (.int .i64 2)))), none⟩, ⟨(some s24), (.quiet false (qBin .add (.t s20) (.t s23))), none⟩, ⟨(some s25), (.quiet false (qBin .sub (.t s24) (.c (.int .i64 1)))), none⟩, ⟨(some s9), (.quiet false (qMov (.t s25))), none⟩])
 (.block 0 (.loop c67l0))))) .skip)))⟩
/- slices.choosePivotOrdered[int] -/
def c68 : AFunc :=
 ⟨57, [(.tmp s6), (.tmp s7)], (.seq (.ops [⟨(some s6), (.quiet false (qMov (.c (.int .i64 0)))), none⟩, ⟨(some s7), (.quiet false (qMov (.c (.int .i64 0)))), none⟩])
 (.seq (.ops [⟨(some s13), (.quiet false (qMov (.t s2))), none⟩, ⟨(some s14), (.quiet false (qMov (.t s1))), none⟩, ⟨(some s15), (.quiet false (qBin .sub (.t s13) (.t s14))), none⟩, ⟨(some s8), (.quiet false (qMov (.t s15))), none⟩])
 (.seq (.ops [⟨(some s9), (.alloc (aBox (.c (.int .i64 0)))), none⟩])
 (.seq (.ops [⟨(some s16), (.quiet false (qMov (.t s1))), none⟩, ⟨(some s17), (.quiet false (qMov (.t s8))), none⟩, ⟨(some s18), (.quiet false (qBin .quo (.t s17) (.c (.int .i64 4)))), none⟩, ⟨(some s19), (.quiet false (qBin .mul (.t s18) (.c (.int .i64 1)))), none⟩, ⟨(some s20), (.quiet false (qBin .add (.t s16) (.t s19))), none⟩, ⟨(some s10), (.quiet false (qMov (.t s20))), none⟩])
 (.seq (.ops [⟨(some s21), (.quiet false (qMov (.t s1))), none⟩, ⟨(some s22), (.quiet false (qMov (.t s8))), none⟩, ⟨(some s23), (.quiet false (qBin .quo (.t s22) (.c (.int .i64 4)))), none⟩, ⟨(some s24), (.quiet false (qBin .mul (.t s23) (.c (.int .i64 2)))), none⟩, ⟨(some s25), (.quiet false (qBin .add (.t s21) (.t s24))), none⟩, ⟨(some s11), (.quiet false (qMov (.t s25))), none⟩])
 (.seq (.ops [⟨(some s26), (.quiet false (qMov (.t s1))), none⟩, ⟨(some s27), (.quiet false (qMov (.t s8))), none⟩, ⟨(some s28), (.quiet false (qBin .quo (.t s27) (.c (.int .i64 4)))), none⟩, ⟨(some s29), (.quiet false (qBin .mul (.t s28) (.c (.int .i64 3)))), none⟩, ⟨(some s30), (.quiet false (qBin .add (.t s26) (.t s29))), none⟩, ⟨(some s12), (.quiet false (qMov (.t s30))), none⟩])
 (.seq (.seq (.ops [⟨(some s31), (.quiet false (qMov (.t s8))), none⟩, ⟨(some s32), (.quiet false (qBin .geq (.t s31) (.c (.int .i64 8)))), none⟩])
 (.cond (.t s32) (.seq (.seq (.ops [⟨(some s33), (.quiet false (qMov (.t s8))), none⟩, ⟨(some s34), (.quiet false (qBin .geq (.t s33) (.c (.int .i64 50)))), none⟩])
 (.cond (.t s34) (.seq (.ops [⟨(some s35), (.quiet false (qMov (.t s0))), none⟩, ⟨(some s36), (.quiet false (qMov (.t s10))), none⟩, ⟨(some s37), (.call (.c (.func (.func 79) [] [])) [(.t s35), (.t s36), (.t s9)]), none⟩, ⟨(some s10), (.quiet false (qMov (.t s37))), none⟩])
 (.seq (.ops [⟨(some s38), (.quiet false (qMov (.t s0))), none⟩, ⟨(some s39), (.quiet false (qMov (.t s11))), none⟩, ⟨(some s40), (.call (.c (.func (.func 79) [] [])) [(.t s38), (.t s39), (.t s9)]), none⟩, ⟨(some s11), (.quiet false (qMov (.t s40))), none⟩])
 (.ops [⟨(some s41), (.quiet false (qMov (.t s0))), none⟩, ⟨(some s42), (.quiet false (qMov (.t s12))), none⟩, ⟨(some s43), (.call (.c (.func (.func 79) [] [])) [(.t s41), (.t s42), (.t s9)]), none⟩, ⟨(some s12), (.quiet false (qMov (.t s43))), none⟩]))) .skip))
 (.ops [⟨(some s44), (.quiet false (qMov (.t s0))), none⟩, ⟨(some s45), (.quiet false (qMov (.t s10))), none⟩, ⟨(some s46), (.quiet false (qMov (.t s11))), none⟩, ⟨(some s47), (.quiet false (qMov (.t s12))), none⟩, ⟨(some s48), (.call (.c (.func (.func 80) [] [])) [(.t s44), (.t s45), (.t s46), (.t s47), (.t s9)]), none⟩, ⟨(some s11), (.quiet false (qMov (.t s48))), none⟩])) .skip))
 (.seq (.ops [⟨(some s49), (.quiet true (qLoad1 (.t s9))), none⟩])
 (.block 0 (.seq (.ops [⟨(some s52), (.quiet false (qBin .eql (.t s49) (.c (.int .i64 0)))), none⟩, ⟨(some s51), (.quiet false (qMov (.t s52))), none⟩])
 (.cond (.t s51) (.seq (.ops [⟨(some s53), (.quiet false (qMov (.t s11))), none⟩, ⟨(some s6), (.quiet false (qMov (.t s53))), none⟩, ⟨(some s7), (.quiet false (qMov (.c (.int .i64 1)))), none⟩])
 .ret) (.seq (.ops [⟨(some s55), (.quiet false (qBin .eql (.t s49) (.c (.int .i64 12)))), none⟩, ⟨(some s54), (.quiet false (qMov (.t s55))), none⟩])
 (.cond (.t s54) (.seq (.ops [⟨(some s56), (.quiet false (qMov (.t s11))), none⟩, ⟨(some s6), (.quiet false (qMov (.t s56))), none⟩, ⟨(some s7), (.quiet false (qMov (.c (.int .i64 2)))), none⟩])
 .ret) (.seq (.ops [⟨(some s50), (.quiet false (qMov (.t s11))), none⟩, ⟨(some s6), (.quiet false (qMov (.t s50))), none⟩, ⟨(some s7), (.quiet false (qMov (.c (.int .i64 0)))), none⟩])
 .ret))))))))))))))⟩
/- slices.reverseRangeOrdered[int] -/
def c69l0 : ACode :=
 (.seq (.seq (.ops [⟨(some s11), (.quiet false (qMov (.t s6))), none⟩, ⟨(some s12), (.quiet false (qMov (.t s7))), none⟩, ⟨(some s13), (.quiet false (qBin .lss (.t s11) (.t s12))), none⟩])
 (.cond (.t s13) .skip (.exit 0)))
 (.block 1 (.seq (.draw (.calm ⟨(some s14), (.quiet false (qMov (.t s0))), none⟩ (.calm ⟨(some s15), (.quiet false (qMov (.t s6))), none⟩ (.calm ⟨(some s16), (.quiet false (qMov (.t s0))), none⟩ (.calm ⟨(some s17), (.quiet false (qMov (.t s7))), none⟩ (.calm ⟨(some s18), (.quiet false (qMov (.t s0))), none⟩ (.calm ⟨(some s19), (.quiet false (qMov (.t s7))), none⟩ (.calm ⟨(some s20), (.quiet false (qIaddrS 1 (.t s18) (.t s19))), none⟩ (.calm ⟨(some s21), (.quiet true (qLoad1 (.t s20))), none⟩ (.calm ⟨(some s22), (.quiet false (qMov (.t s0))), none⟩ (.calm ⟨(some s23), (.quiet false (qMov (.t s6))), none⟩ (.calm ⟨(some s24), (.quiet false (qIaddrS 1 (.t s22) (.t s23))), none⟩ (.calm ⟨(some s25), (.quiet true (qLoad1 (.t s24))), none⟩ (.calm ⟨(some s26), (.quiet false (qIaddrS 1 (.t s14) (.t s15))), none⟩ (.last ⟨⟨none, (.loud (lSto 1 (.t s26) (.t s21))), none⟩, []⟩ .fin)))))))))))))) [⟨(some s27), (.quiet false (qIaddrS 1 (.t s16) (.t s17))), none⟩, ⟨none, (.loud (lSto 1 (.t s27) (.t s25))), none⟩])
 (.seq (.ops [⟨(some s28), (.quiet false (qMov (.t s6))), none⟩, ⟨(some s29), (.quiet false (qBin .add (.t s28) (.c (.int .i64 1)))), none⟩, ⟨(some s6), (.quiet false (qMov (.t s29))), none⟩])
 (.ops [⟨(some s30), (.quiet false (qMov (.t s7))), none⟩, ⟨(some s31), (.quiet false (qBin .sub (.t s30) (.c (.int .i64 1)))), none⟩, ⟨(some s7), (.quiet false (qMov (.t s31))), none⟩])))))
def c69 : AFunc :=
 ⟨32, [], (.seq (.ops [⟨(some s8), (.quiet false (qMov (.t s1))), none⟩, ⟨(some s6), (.quiet false (qMov (.t s8))), none⟩])
 (.seq (.ops [⟨(some s9), (.quiet false (qMov (.t s2))), none⟩, ⟨(some s10), (.quiet false (qBin .sub (.t s9) (.c (.int .i64 1)))), none⟩, ⟨(some s7), (.quiet false (qMov (.t s10))), none⟩])
 (.block 0 (.loop c69l0))))⟩
/- slices.partialInsertionSortOrdered[int] -/
def c70l0 : ACode :=
 (.seq (.seq (.draw (.calm ⟨(some s17), (.quiet false (qMov (.t s7))), none⟩ (.calm ⟨(some s18), (.quiet false (qMov (.t s2))), none⟩ (.calm ⟨(some s19), (.quiet false (qBin .lss (.t s17) (.t s18))), none⟩ (.calm ⟨(some s20), (.quiet false (qMov (.t s19))), none⟩ (.calm ⟨(some s21), (.quiet false (qMov (.t s0))), (some (s20, true))⟩ (.calm ⟨(some s22), (.quiet false (qMov (.t s7))), (some (s20, true))⟩ (.calm ⟨(some s23), (.quiet false (qIaddrS 1 (.t s21) (.t s22))), (some (s20, true))⟩ (.calm ⟨(some s24), (.quiet true (qLoad1 (.t s23))), (some (s20, true))⟩ (.calm ⟨(some s25), (.quiet false (qMov (.t s0))), (some (s20, true))⟩ (.calm ⟨(some s26), (.quiet false (qMov (.t s7))), (some (s20, true))⟩ (.calm ⟨(some s27), (.quiet false (qBin .sub (.t s26) (.c (.int .i64 1)))), (some (s20, true))⟩ (.calm ⟨(some s28), (.quiet false (qIaddrS 1 (.t s25) (.t s27))), (some (s20, true))⟩ (.calm ⟨(some s29), (.quiet true (qLoad1 (.t s28))), (some (s20, true))⟩ .fin))))))))))))) [⟨(some s30), (.call (.c (.func (.func 71) [] [])) [(.t s24), (.t s29)]), (some (s20, true))⟩, ⟨(some s31), (.quiet false (qUn .not (.t s30))), (some (s20, true))⟩, ⟨(some s32), (.quiet false (qPick (.t s20) (.t s31) (.c (.bool false)))), none⟩])
 (.cond (.t s32) .skip (.exit 2)))
 (.block 3 (.ops [⟨(some s33), (.quiet false (qMov (.t s7))), none⟩, ⟨(some s34), (.quiet false (qBin .add (.t s33) (.c (.int .i64 1)))), none⟩, ⟨(some s7), (.quiet false (qMov (.t s34))), none⟩])))
def c70l1 : ACode :=
 (.seq (.seq (.ops [⟨(some s64), (.quiet false (qMov (.t s9))), none⟩, ⟨(some s65), (.quiet false (qBin .geq (.t s64) (.c (.int .i64 1)))), none⟩])
 (.cond (.t s65) .skip (.exit 4)))
 (.seq (.block 5 (.seq (.seq (.draw (.calm ⟨(some s68), (.quiet false (qMov (.t s0))), none⟩ (.calm ⟨(some s69), (.quiet false (qMov (.t s9))), none⟩ (.calm ⟨(some s70), (.quiet false (qIaddrS 1 (.t s68) (.t s69))), none⟩ (.calm ⟨(some s71), (.quiet true (qLoad1 (.t s70))), none⟩ (.calm ⟨(some s72), (.quiet false (qMov (.t s0))), none⟩ (.calm ⟨(some s73), (.quiet false (qMov (.t s9))), none⟩ (.calm ⟨(some s74), (.quiet false (qBin .sub (.t s73) (.c (.int .i64 1)))), none⟩ (.calm ⟨(some s75), (.quiet false (qIaddrS 1 (.t s72) (.t s74))), none⟩ (.calm ⟨(some s76), (.quiet true (qLoad1 (.t s75))), none⟩ .fin))))))))) [⟨(some s77), (.call (.c (.func (.func 71) [] [])) [(.t s71), (.t s76)]), none⟩, ⟨(some s78), (.quiet false (qUn .not (.t s77))), none⟩])
 (.cond (.t s78) (.exit 4) .skip))
 (.draw (.calm ⟨(some s79), (.quiet false (qMov (.t s0))), none⟩ (.calm ⟨(some s80), (.quiet false (qMov (.t s9))), none⟩ (.calm ⟨(some s81), (.quiet false (qMov (.t s0))), none⟩ (.calm ⟨(some s82), (.quiet false (qMov (.t s9))), none⟩ (.calm ⟨(some s83), (.quiet false (qBin .sub (.t s82) (.c (.int .i64 1)))), none⟩ (.calm ⟨(some s84), (.quiet false (qMov (.t s0))), none⟩ (.calm ⟨(some s85), (.quiet false (qMov (.t s9))), none⟩ (.calm ⟨(some s86), (.quiet false (qBin .sub (.t s85) (.c (.int .i64 1)))), none⟩ (.calm ⟨(some s87), (.quiet false (qIaddrS 1 (.t s84) (.t s86))), none⟩ (.calm ⟨(some s88), (.quiet true (qLoad1 (.t s87))), none⟩ (.calm ⟨(some s89), (.quiet false (qMov (.t s0))), none⟩ (.calm ⟨(some s90), (.quiet false (qMov (.t s9))), none⟩ (.calm ⟨(some s91), (.quiet false (qIaddrS 1 (.t s89) (.t s90))), none⟩ (.calm ⟨(some s92), (.quiet true (qLoad1 (.t s91))), none⟩ (.calm ⟨(some s93), (.quiet false (qIaddrS 1 (.t s79) (.t s80))), none⟩ (.last ⟨⟨none, (.loud (lSto 1 (.t s93) (.t s88))), none⟩, []⟩ .fin)))))))))))))))) [⟨(some s94), (.quiet false (qIaddrS 1 (.t s81) (.t s83))), none⟩, ⟨none, (.loud (lSto 1 (.t s94) (.t s92))), none⟩])))
 (.ops [⟨(some s66), (.quiet false (qMov (.t s9))), none⟩, ⟨(some s67), (.quiet false (qBin .sub (.t s66) (.c (.int .i64 1)))), none⟩, ⟨(some s9), (.quiet false (qMov (.t s67))), none⟩])))
def c70l2 : ACode :=
 (.seq (.seq (.ops [⟨(some s101), (.quiet false (qMov (.t s10))), none⟩, ⟨(some s102), (.quiet false (qMov (.t s2))), none⟩, ⟨(some s103), (.quiet false (qBin .lss (.t s101) (.t s102))), none⟩])
 (.cond (.t s103) .skip (.exit 6)))
 (.seq (.block 7 (.seq (.seq (.draw (.calm ⟨(some s106), (.quiet false (qMov (.t s0))), none⟩ (.calm ⟨(some s107), (.quiet false (qMov (.t s10))), none⟩ (.calm ⟨(some s108), (.quiet false (qIaddrS 1 (.t s106) (.t s107))), none⟩ (.calm ⟨(some s109), (.quiet true (qLoad1 (.t s108))), none⟩ (.calm ⟨(some s110), (.quiet false (qMov (.t s0))), none⟩ (.calm ⟨(some s111), (.quiet false (qMov (.t s10))), none⟩ (.calm ⟨(some s112), (.quiet false (qBin .sub (.t s111) (.c (.int .i64 1)))), none⟩ (.calm ⟨(some s113), (.quiet false (qIaddrS 1 (.t s110) (.t s112))), none⟩ (.calm ⟨(some s114), (.quiet true (qLoad1 (.t s113))), none⟩ .fin))))))))) [⟨(some s115), (.call (.c (.func (.func 71) [] [])) [(.t s109), (.t s114)]), none⟩, ⟨(some s116), (.quiet false (qUn .not (.t s115))), none⟩])
 (.cond (.t s116) (.exit 6) .skip))
 (.draw (.calm ⟨(some s117), (.quiet false (qMov (.t s0))), none⟩ (.calm ⟨(some s118), (.quiet false (qMov (.t s10))), none⟩ (.calm ⟨(some s119), (.quiet false (qMov (.t s0))), none⟩ (.calm ⟨(some s120), (.quiet false (qMov (.t s10))), none⟩ (.calm ⟨(some s121), (.quiet false (qBin .sub (.t s120) (.c (.int .i64 1)))), none⟩ (.calm ⟨(some s122), (.quiet false (qMov (.t s0))), none⟩ (.calm ⟨(some s123), (.quiet false (qMov (.t s10))), none⟩ (.calm ⟨(some s124), (.quiet false (qBin .sub (.t s123) (.c (.int .i64 1)))), none⟩ (.calm ⟨(some s125), (.quiet false (qIaddrS 1 (.t s122) (.t s124))), none⟩ (.calm ⟨(some s126), (.quiet true (qLoad1 (.t s125))), none⟩ (.calm ⟨(some s127), (.quiet false (qMov (.t s0))), none⟩ (.calm ⟨(some s128), (.quiet false (qMov (.t s10))), none⟩ (.calm ⟨(some s129), (.quiet false (qIaddrS 1 (.t s127) (.t s128))), none⟩ (.calm ⟨(some s130), (.quiet true (qLoad1 (.t s129))), none⟩ (.calm ⟨(some s131), (.quiet false (qIaddrS 1 (.t s117) (.t s118))), none⟩ (.last ⟨⟨none, (.loud (lSto 1 (.t s131) (.t s126))), none⟩, []⟩ .fin)))))))))))))))) [⟨(some s132), (.quiet false (qIaddrS 1 (.t s119) (.t s121))), none⟩, ⟨none, (.loud (lSto 1 (.t s132) (.t s130))), none⟩])))
 (.ops [⟨(some s104), (.quiet false (qMov (.t s10))), none⟩, ⟨(some s105), (.quiet false (qBin .add (.t s104) (.c (.int .i64 1)))), none⟩, ⟨(some s10), (.quiet false (qMov (.t s105))), none⟩])))
def c70l3 : ACode :=
 (.seq (.seq (.ops [⟨(some s13), (.quiet false (qMov (.t s8))), none⟩, ⟨(some s14), (.quiet false (qBin .lss (.t s13) (.c (.int .i64 5)))), none⟩])
 (.cond (.t s14) .skip (.exit 0)))
 (.seq (.block 1 (.seq (.block 2 (.loop c70l0))
 (.seq (.seq (.ops [⟨(some s35), (.quiet false (qMov (.t s7))), none⟩, ⟨(some s36), (.quiet false (qMov (.t s2))), none⟩, ⟨(some s37), (.quiet false (qBin .eql (.t s35) (.t s36))), none⟩])
 (.cond (.t s37) (.seq (.ops [⟨(some s6), (.quiet false (qMov (.c (.bool true)))), none⟩])
 .ret) .skip))
 (.seq (.seq (.ops [⟨(some s38), (.quiet false (qMov (.t s2))), none⟩, ⟨(some s39), (.quiet false (qMov (.t s1))), none⟩, ⟨(some s40), (.quiet false (qBin .sub (.t s38) (.t s39))), none⟩, ⟨(some s41), (.quiet false (qBin .lss (.t s40) (.c (.int .i64 50)))), none⟩])
 (.cond (.t s41) (.seq (.ops [⟨(some s6), (.quiet false (qMov (.c (.bool false)))), none⟩])
 .ret) .skip))
 (.seq (.draw (.calm ⟨(some s42), (.quiet false (qMov (.t s0))), none⟩ (.calm ⟨(some s43), (.quiet false (qMov (.t s7))), none⟩ (.calm ⟨(some s44), (.quiet false (qMov (.t s0))), none⟩ (.calm ⟨(some s45), (.quiet false (qMov (.t s7))), none⟩ (.calm ⟨(some s46), (.quiet false (qBin .sub (.t s45) (.c (.int .i64 1)))), none⟩ (.calm ⟨(some s47), (.quiet false (qMov (.t s0))), none⟩ (.calm ⟨(some s48), (.quiet false (qMov (.t s7))), none⟩ (.calm ⟨(some s49), (.quiet false (qBin .sub (.t s48) (.c (.int .i64 1)))), none⟩ (.calm ⟨(some s50), (.quiet false (qIaddrS 1 (.t s47) (.t s49))), none⟩ (.calm ⟨(some s51), (.quiet true (qLoad1 (.t s50))), none⟩ (.calm ⟨(some s52), (.quiet false (qMov (.t s0))), none⟩ (.calm ⟨(some s53), (.quiet false (qMov (.t s7))), none⟩ (.calm ⟨(some s54), (.quiet false (qIaddrS 1 (.t s52) (.t s53))), none⟩ (.calm ⟨(some s55), (.quiet true (qLoad1 (.t s54))), none⟩ (.calm ⟨(some s56), (.quiet false (qIaddrS 1 (.t s42) (.t s43))), none⟩ (.last ⟨⟨none, (.loud (lSto 1 (.t s56) (.t s51))), none⟩, []⟩ .fin)))))))))))))))) [⟨(some s57), (.quiet false (qIaddrS 1 (.t s44) (.t s46))), none⟩, ⟨none, (.loud (lSto 1 (.t s57) (.t s55))), none⟩])
 (.seq (.seq (.ops [⟨(some s58), (.quiet false (qMov (.t s7))), none⟩, ⟨(some s59), (.quiet false (qMov (.t s1))), none⟩, ⟨(some s60), (.quiet false (qBin .sub (.t s58) (.t s59))), none⟩, ⟨(some s61), (.quiet false (qBin .geq (.t s60) (.c (.int .i64 2)))), none⟩])
 (.cond (.t s61) (.seq (.ops [⟨(some s62), (.quiet false (qMov (.t s7))), none⟩, ⟨(some s63), (.quiet false (qBin .sub (.t s62) (.c (.int .i64 1)))), none⟩, ⟨(some s9), (.quiet false (qMov (.t s63))), none⟩])
 (.block 4 (.loop c70l1))) .skip))
 (.seq (.ops [⟨(some s95), (.quiet false (qMov (.t s2))), none⟩, ⟨(some s96), (.quiet false (qMov (.t s7))), none⟩, ⟨(some s97), (.quiet false (qBin .sub (.t s95) (.t s96))), none⟩, ⟨(some s98), (.quiet false (qBin .geq (.t s97) (.c (.int .i64 2)))), none⟩])
 (.cond (.t s98) (.seq (.ops [⟨(some s99), (.quiet false (qMov (.t s7))), none⟩, ⟨(some s100), (.quiet false (qBin .add (.t s99) (.c (.int .i64 1)))), none⟩, ⟨(some s10), (.quiet false (qMov (.t s100))), none⟩])
 (.block 6 (.loop c70l2))) .skip))))))))
 (.ops [⟨(some s15), (.quiet false (qMov (.t s8))), none⟩, ⟨(some s16), (.quiet false (qBin .add (.t s15) (.c (.int .i64 1)))), none⟩, ⟨(some s8), (.quiet false (qMov (.t s16))), none⟩])))
def c70 : AFunc :=
 ⟨133, [(.tmp s6)], (.seq (.ops [⟨(some s6), (.quiet false (qMov (.c (.bool false)))), none⟩])
 (.seq (.ops [⟨(some s11), (.quiet false (qMov (.t s1))), none⟩, ⟨(some s12), (.quiet false (qBin .add (.t s11) (.c (.int .i64 1)))), none⟩, ⟨(some s7), (.quiet false (qMov (.t s12))), none⟩])
 (.seq (.seq (.ops [⟨(some s8), (.quiet false (qMov (.c (.int .i64 0)))), none⟩])
 (.block 0 (.loop c70l3)))
 (.seq (.ops [⟨(some s6), (.quiet false (qMov (.c (.bool false)))), none⟩])
 .ret))))⟩
/- cmp.Less[int] -/
def c71 : AFunc :=
 ⟨17, [(.tmp s4)], (.seq (.ops [⟨(some s4), (.quiet false (qMov (.c (.bool false)))), none⟩])
 (.seq (.ops [⟨(some s5), (.quiet false (qMov (.t s0))), none⟩, ⟨(some s6), (.call (.c (.func (.func 81) [] [])) [(.t s5)]), none⟩, ⟨(some s7), (.quiet false (qMov (.t s6))), none⟩, ⟨(some s8), (.quiet false (qMov (.t s1))), (some (s7, true))⟩, ⟨(some s9), (.call (.c (.func (.func 81) [] [])) [(.t s8)]), (some (s7, true))⟩, ⟨(some s10), (.quiet false (qUn .not (.t s9))), (some (s7, true))⟩, ⟨(some s11), (.quiet false (qPick (.t s7) (.t s10) (.c (.bool false)))), none⟩, ⟨(some s12), (.quiet false (qMov (.t s11))), none⟩, ⟨(some s13), (.quiet false (qMov (.t s0))), (some (s12, false))⟩, ⟨(some s14), (.quiet false (qMov (.t s1))), (some (s12, false))⟩, ⟨(some s15), (.quiet false (qBin .lss (.t s13) (.t s14))), (some (s12, false))⟩, ⟨(some s16), (.quiet false (qPick (.t s12) (.c (.bool true)) (.t s15))), none⟩, ⟨(some s4), (.quiet false (qMov (.t s16))), none⟩])
 .ret))⟩
/- slices.partitionEqualOrdered[int] -/
def c72l0 : ACode :=
 (.seq (.seq (.draw (.calm ⟨(some s29), (.quiet false (qMov (.t s9))), none⟩ (.calm ⟨(some s30), (.quiet false (qMov (.t s10))), none⟩ (.calm ⟨(some s31), (.quiet false (qBin .leq (.t s29) (.t s30))), none⟩ (.calm ⟨(some s32), (.quiet false (qMov (.t s31))), none⟩ (.calm ⟨(some s33), (.quiet false (qMov (.t s0))), (some (s32, true))⟩ (.calm ⟨(some s34), (.quiet false (qMov (.t s1))), (some (s32, true))⟩ (.calm ⟨(some s35), (.quiet false (qIaddrS 1 (.t s33) (.t s34))), (some (s32, true))⟩ (.calm ⟨(some s36), (.quiet true (qLoad1 (.t s35))), (some (s32, true))⟩ (.calm ⟨(some s37), (.quiet false (qMov (.t s0))), (some (s32, true))⟩ (.calm ⟨(some s38), (.quiet false (qMov (.t s9))), (some (s32, true))⟩ (.calm ⟨(some s39), (.quiet false (qIaddrS 1 (.t s37) (.t s38))), (some (s32, true))⟩ (.calm ⟨(some s40), (.quiet true (qLoad1 (.t s39))), (some (s32, true))⟩ .fin)))))))))))) [⟨(some s41), (.call (.c (.func (.func 71) [] [])) [(.t s36), (.t s40)]), (some (s32, true))⟩, ⟨(some s42), (.quiet false (qUn .not (.t s41))), (some (s32, true))⟩, ⟨(some s43), (.quiet false (qPick (.t s32) (.t s42) (.c (.bool false)))), none⟩])
 (.cond (.t s43) .skip (.exit 2)))
 (.block 3 (.ops [⟨(some s44), (.quiet false (qMov (.t s9))), none⟩, ⟨(some s45), (.quiet false (qBin .add (.t s44) (.c (.int .i64 1)))), none⟩, ⟨(some s9), (.quiet false (qMov (.t s45))), none⟩])))
def c72l1 : ACode :=
 (.seq (.seq (.draw (.calm ⟨(some s46), (.quiet false (qMov (.t s9))), none⟩ (.calm ⟨(some s47), (.quiet false (qMov (.t s10))), none⟩ (.calm ⟨(some s48), (.quiet false (qBin .leq (.t s46) (.t s47))), none⟩ (.calm ⟨(some s49), (.quiet false (qMov (.t s48))), none⟩ (.calm ⟨(some s50), (.quiet false (qMov (.t s0))), (some (s49, true))⟩ (.calm ⟨(some s51), (.quiet false (qMov (.t s1))), (some (s49, true))⟩ (.calm ⟨(some s52), (.quiet false (qIaddrS 1 (.t s50) (.t s51))), (some (s49, true))⟩ (.calm ⟨(some s53), (.quiet true (qLoad1 (.t s52))), (some (s49, true))⟩ (.calm ⟨(some s54), (.quiet false (qMov (.t s0))), (some (s49, true))⟩ (.calm ⟨(some s55), (.quiet false (qMov (.t s10))), (some (s49, true))⟩ (.calm ⟨(some s56), (.quiet false (qIaddrS 1 (.t s54) (.t s55))), (some (s49, true))⟩ (.calm ⟨(some s57), (.quiet true (qLoad1 (.t s56))), (some (s49, true))⟩ .fin)))))))))))) [⟨(some s58), (.call (.c (.func (.func 71) [] [])) [(.t s53), (.t s57)]), (some (s49, true))⟩, ⟨(some s59), (.quiet false (qPick (.t s49) (.t s58) (.c (.bool false)))), none⟩])
 (.cond (.t s59) .skip (.exit 4)))
 (.block 5 (.ops [⟨(some s60), (.quiet false (qMov (.t s10))), none⟩, ⟨(some s61), (.quiet false (qBin .sub (.t s60) (.c (.int .i64 1)))), none⟩, ⟨(some s10), (.quiet false (qMov (.t s61))), none⟩])))
def c72l2 : ACode :=
 (.block 1 (.seq (.block 2 (.loop c72l0))
 (.seq (.block 4 (.loop c72l1))
 (.seq (.seq (.ops [⟨(some s62), (.quiet false (qMov (.t s9))), none⟩, ⟨(some s63), (.quiet false (qMov (.t s10))), none⟩, ⟨(some s64), (.quiet false (qBin .gtr (.t s62) (.t s63))), none⟩])
 (.cond (.t s64) (.exit 0) .skip))
 (.seq (.draw (.calm ⟨(some s65), (.quiet false (qMov (.t s0))), none⟩ (.calm ⟨(some s66), (.quiet false (qMov (.t s9))), none⟩ (.calm ⟨(some s67), (.quiet false (qMov (.t s0))), none⟩ (.calm ⟨(some s68), (.quiet false (qMov (.t s10))), none⟩ (.calm ⟨(some s69), (.quiet false (qMov (.t s0))), none⟩ (.calm ⟨(some s70), (.quiet false (qMov (.t s10))), none⟩ (.calm ⟨(some s71), (.quiet false (qIaddrS 1 (.t s69) (.t s70))), none⟩ (.calm ⟨(some s72), (.quiet true (qLoad1 (.t s71))), none⟩ (.calm ⟨(some s73), (.quiet false (qMov (.t s0))), none⟩ (.calm ⟨(some s74), (.quiet false (qMov (.t s9))), none⟩ (.calm ⟨(some s75), (.quiet false (qIaddrS 1 (.t s73) (.t s74))), none⟩ (.calm ⟨(some s76), (.quiet true (qLoad1 (.t s75))), none⟩ (.calm ⟨(some s77), (.quiet false (qIaddrS 1 (.t s65) (.t s66))), none⟩ (.last ⟨⟨none, (.loud (lSto 1 (.t s77) (.t s72))), none⟩, []⟩ .fin)))))))))))))) [⟨(some s78), (.quiet false (qIaddrS 1 (.t s67) (.t s68))), none⟩, ⟨none, (.loud (lSto 1 (.t s78) (.t s76))), none⟩])
 (.seq (.ops [⟨(some s79), (.quiet false (qMov (.t s9))), none⟩, ⟨(some s80), (.quiet false (qBin .add (.t s79) (.c (.int .i64 1)))), none⟩, ⟨(some s9), (.quiet false (qMov (.t s80))), none⟩])
 (.ops [⟨(some s81), (.quiet false (qMov (.t s10))), none⟩, ⟨(some s82), (.quiet false (qBin .sub (.t s81) (.c (.int .i64 1)))), none⟩, ⟨(some s10), (.quiet false (qMov (.t s82))), none⟩])))))))
def c72 : AFunc :=
 ⟨84, [(.tmp s8)], (.seq (.ops [⟨(some s8), (.quiet false (qMov (.c (.int .i64 0)))), none⟩])
 (.seq (.draw (.calm ⟨(some s11), (.quiet false (qMov (.t s0))), none⟩ (.calm ⟨(some s12), (.quiet false (qMov (.t s1))), none⟩ (.calm ⟨(some s13), (.quiet false (qMov (.t s0))), none⟩ (.calm ⟨(some s14), (.quiet false (qMov (.t s3))), none⟩ (.calm ⟨(some s15), (.quiet false (qMov (.t s0))), none⟩ (.calm ⟨(some s16), (.quiet false (qMov (.t s3))), none⟩ (.calm ⟨(some s17), (.quiet false (qIaddrS 1 (.t s15) (.t s16))), none⟩ (.calm ⟨(some s18), (.quiet true (qLoad1 (.t s17))), none⟩ (.calm ⟨(some s19), (.quiet false (qMov (.t s0))), none⟩ (.calm ⟨(some s20), (.quiet false (qMov (.t s1))), none⟩ (.calm ⟨(some s21), (.quiet false (qIaddrS 1 (.t s19) (.t s20))), none⟩ (.calm ⟨(some s22), (.quiet true (qLoad1 (.t s21))), none⟩ (.calm ⟨(some s23), (.quiet false (qIaddrS 1 (.t s11) (.t s12))), none⟩ (.last ⟨⟨none, (.loud (lSto 1 (.t s23) (.t s18))), none⟩, []⟩ .fin)))))))))))))) [⟨(some s24), (.quiet false (qIaddrS 1 (.t s13) (.t s14))), none⟩, ⟨none, (.loud (lSto 1 (.t s24) (.t s22))), none⟩])
 (.seq (.ops [⟨(some s25), (.quiet false (qMov (.t s1))), none⟩, ⟨(some s26), (.quiet false (qBin .add (.t s25) (.c (.int .i64 1)))), none⟩, ⟨(some s27), (.quiet false (qMov (.t s2))), none⟩, ⟨(some s28), (.quiet false (qBin .sub (.t s27) (.c (.int .i64 1)))), none⟩, ⟨(some s9), (.quiet false (qMov (.t s26))), none⟩, ⟨(some s10), (.quiet false (qMov (.t s28))), none⟩])
 (.seq (.block 0 (.loop c72l2))
 (.seq (.ops [⟨(some s83), (.quiet false (qMov (.t s9))), none⟩, ⟨(some s8), (.quiet false (qMov (.t s83))), none⟩])
 .ret)))))⟩
/- slices.partitionOrdered[int] -/
def c73l0 : ACode :=
 (.seq (.seq (.draw (.calm ⟨(some s30), (.quiet false (qMov (.t s10))), none⟩ (.calm ⟨(some s31), (.quiet false (qMov (.t s11))), none⟩ (.calm ⟨(some s32), (.quiet false (qBin .leq (.t s30) (.t s31))), none⟩ (.calm ⟨(some s33), (.quiet false (qMov (.t s32))), none⟩ (.calm ⟨(some s34), (.quiet false (qMov (.t s0))), (some (s33, true))⟩ (.calm ⟨(some s35), (.quiet false (qMov (.t s10))), (some (s33, true))⟩ (.calm ⟨(some s36), (.quiet false (qIaddrS 1 (.t s34) (.t s35))), (some (s33, true))⟩ (.calm ⟨(some s37), (.quiet true (qLoad1 (.t s36))), (some (s33, true))⟩ (.calm ⟨(some s38), (.quiet false (qMov (.t s0))), (some (s33, true))⟩ (.calm ⟨(some s39), (.quiet false (qMov (.t s1))), (some (s33, true))⟩ (.calm ⟨(some s40), (.quiet false (qIaddrS 1 (.t s38) (.t s39))), (some (s33, true))⟩ (.calm ⟨(some s41), (.quiet true (qLoad1 (.t s40))), (some (s33, true))⟩ .fin)))))))))))) [⟨(some s42), (.call (.c (.func (.func 71) [] [])) [(.t s37), (.t s41)]), (some (s33, true))⟩, ⟨(some s43), (.quiet false (qPick (.t s33) (.t s42) (.c (.bool false)))), none⟩])
 (.cond (.t s43) .skip (.exit 0)))
 (.block 1 (.ops [⟨(some s44), (.quiet false (qMov (.t s10))), none⟩, ⟨(some s45), (.quiet false (qBin .add (.t s44) (.c (.int .i64 1)))), none⟩, ⟨(some s10), (.quiet false (qMov (.t s45))), none⟩])))
def c73l1 : ACode :=
 (.seq (.seq (.draw (.calm ⟨(some s46), (.quiet false (qMov (.t s10))), none⟩ (.calm ⟨(some s47), (.quiet false (qMov (.t s11))), none⟩ (.calm ⟨(some s48), (.quiet false (qBin .leq (.t s46) (.t s47))), none⟩ (.calm ⟨(some s49), (.quiet false (qMov (.t s48))), none⟩ (.calm ⟨(some s50), (.quiet false (qMov (.t s0))), (some (s49, true))⟩ (.calm ⟨(some s51), (.quiet false (qMov (.t s11))), (some (s49, true))⟩ (.calm ⟨(some s52), (.quiet false (qIaddrS 1 (.t s50) (.t s51))), (some (s49, true))⟩ (.calm ⟨(some s53), (.quiet true (qLoad1 (.t s52))), (some (s49, true))⟩ (.calm ⟨(some s54), (.quiet false (qMov (.t s0))), (some (s49, true))⟩ (.calm ⟨(some s55), (.quiet false (qMov (.t s1))), (some (s49, true))⟩ (.calm ⟨(some s56), (.quiet false (qIaddrS 1 (.t s54) (.t s55))), (some (s49, true))⟩ (.calm ⟨(some s57), (.quiet true (qLoad1 (.t s56))), (some (s49, true))⟩ .fin)))))))))))) [⟨(some s58), (.call (.c (.func (.func 71) [] [])) [(.t s53), (.t s57)]), (some (s49, true))⟩, ⟨(some s59), (.quiet false (qUn .not (.t s58))), (some (s49, true))⟩, ⟨(some s60), (.quiet false (qPick (.t s49) (.t s59) (.c (.bool false)))), none⟩])
 (.cond (.t s60) .skip (.exit 2)))
 (.block 3 (.ops [⟨(some s61), (.quiet false (qMov (.t s11))), none⟩, ⟨(some s62), (.quiet false (qBin .sub (.t s61) (.c (.int .i64 1)))), none⟩, ⟨(some s11), (.quiet false (qMov (.t s62))), none⟩])))
def c73l2 : ACode :=
 (.seq (.seq (.draw (.calm ⟨(some s99), (.quiet false (qMov (.t s10))), none⟩ (.calm ⟨(some s100), (.quiet false (qMov (.t s11))), none⟩ (.calm ⟨(some s101), (.quiet false (qBin .leq (.t s99) (.t s100))), none⟩ (.calm ⟨(some s102), (.quiet false (qMov (.t s101))), none⟩ (.calm ⟨(some s103), (.quiet false (qMov (.t s0))), (some (s102, true))⟩ (.calm ⟨(some s104), (.quiet false (qMov (.t s10))), (some (s102, true))⟩ (.calm ⟨(some s105), (.quiet false (qIaddrS 1 (.t s103) (.t s104))), (some (s102, true))⟩ (.calm ⟨(some s106), (.quiet true (qLoad1 (.t s105))), (some (s102, true))⟩ (.calm ⟨(some s107), (.quiet false (qMov (.t s0))), (some (s102, true))⟩ (.calm ⟨(some s108), (.quiet false (qMov (.t s1))), (some (s102, true))⟩ (.calm ⟨(some s109), (.quiet false (qIaddrS 1 (.t s107) (.t s108))), (some (s102, true))⟩ (.calm ⟨(some s110), (.quiet true (qLoad1 (.t s109))), (some (s102, true))⟩ .fin)))))))))))) [⟨(some s111), (.call (.c (.func (.func 71) [] [])) [(.t s106), (.t s110)]), (some (s102, true))⟩, ⟨(some s112), (.quiet false (qPick (.t s102) (.t s111) (.c (.bool false)))), none⟩])
 (.cond (.t s112) .skip (.exit 6)))
 (.block 7 (.ops [⟨(some s113), (.quiet false (qMov (.t s10))), none⟩, ⟨(some s114), (.quiet false (qBin .add (.t s113) (.c (.int .i64 1)))), none⟩, ⟨(some s10), (.quiet false (qMov (.t s114))), none⟩])))
def c73l3 : ACode :=
 (.seq (.seq (.draw (.calm ⟨(some s115), (.quiet false (qMov (.t s10))), none⟩ (.calm ⟨(some s116), (.quiet false (qMov (.t s11))), none⟩ (.calm ⟨(some s117), (.quiet false (qBin .leq (.t s115) (.t s116))), none⟩ (.calm ⟨(some s118), (.quiet false (qMov (.t s117))), none⟩ (.calm ⟨(some s119), (.quiet false (qMov (.t s0))), (some (s118, true))⟩ (.calm ⟨(some s120), (.quiet false (qMov (.t s11))), (some (s118, true))⟩ (.calm ⟨(some s121), (.quiet false (qIaddrS 1 (.t s119) (.t s120))), (some (s118, true))⟩ (.calm ⟨(some s122), (.quiet true (qLoad1 (.t s121))), (some (s118, true))⟩ (.calm ⟨(some s123), (.quiet false (qMov (.t s0))), (some (s118, true))⟩ (.calm ⟨(some s124), (.quiet false (qMov (.t s1))), (some (s118, true))⟩ (.calm ⟨(some s125), (.quiet false (qIaddrS 1 (.t s123) (.t s124))), (some (s118, true))⟩ (.calm ⟨(some s126), (.quiet true (qLoad1 (.t s125))), (some (s118, true))⟩ .fin)))))))))))) [⟨(some s127), (.call (.c (.func (.func 71) [] [])) [(.t s122), (.t s126)]), (some (s118, true))⟩, ⟨(some s128), (.quiet false (qUn .not (.t s127))), (some (s118, true))⟩, ⟨(some s129), (.quiet false (qPick (.t s118) (.t s128) (.c (.bool false)))), none⟩])
 (.cond (.t s129) .skip (.exit 8)))
 (.block 9 (.ops [⟨(some s130), (.quiet false (qMov (.t s11))), none⟩, ⟨(some s131), (.quiet false (qBin .sub (.t s130) (.c (.int .i64 1)))), none⟩, ⟨(some s11), (.quiet false (qMov (.t s131))), none⟩])))
def c73l4 : ACode :=
 (.block 5 (.seq (.block 6 (.loop c73l2))
 (.seq (.block 8 (.loop c73l3))
 (.seq (.seq (.ops [⟨(some s132), (.quiet false (qMov (.t s10))), none⟩, ⟨(some s133), (.quiet false (qMov (.t s11))), none⟩, ⟨(some s134), (.quiet false (qBin .gtr (.t s132) (.t s133))), none⟩])
 (.cond (.t s134) (.exit 4) .skip))
 (.seq (.draw (.calm ⟨(some s135), (.quiet false (qMov (.t s0))), none⟩ (.calm ⟨(some s136), (.quiet false (qMov (.t s10))), none⟩ (.calm ⟨(some s137), (.quiet false (qMov (.t s0))), none⟩ (.calm ⟨(some s138), (.quiet false (qMov (.t s11))), none⟩ (.calm ⟨(some s139), (.quiet false (qMov (.t s0))), none⟩ (.calm ⟨(some s140), (.quiet false (qMov (.t s11))), none⟩ (.calm ⟨(some s141), (.quiet false (qIaddrS 1 (.t s139) (.t s140))), none⟩ (.calm ⟨(some s142), (.quiet true (qLoad1 (.t s141))), none⟩ (.calm ⟨(some s143), (.quiet false (qMov (.t s0))), none⟩ (.calm ⟨(some s144), (.quiet false (qMov (.t s10))), none⟩ (.calm ⟨(some s145), (.quiet false (qIaddrS 1 (.t s143) (.t s144))), none⟩ (.calm ⟨(some s146), (.quiet true (qLoad1 (.t s145))), none⟩ (.calm ⟨(some s147), (.quiet false (qIaddrS 1 (.t s135) (.t s136))), none⟩ (.last ⟨⟨none, (.loud (lSto 1 (.t s147) (.t s142))), none⟩, []⟩ .fin)))))))))))))) [⟨(some s148), (.quiet false (qIaddrS 1 (.t s137) (.t s138))), none⟩, ⟨none, (.loud (lSto 1 (.t s148) (.t s146))), none⟩])
 (.seq (.ops [⟨(some s149), (.quiet false (qMov (.t s10))), none⟩, ⟨(some s150), (.quiet false (qBin .add (.t s149) (.c (.int .i64 1)))), none⟩, ⟨(some s10), (.quiet false (qMov (.t s150))), none⟩])
 (.ops [⟨(some s151), (.quiet false (qMov (.t s11))), none⟩, ⟨(some s152), (.quiet false (qBin .sub (.t s151) (.c (.int .i64 1)))), none⟩, ⟨(some s11), (.quiet false (qMov (.t s152))), none⟩])))))))
def c73 : AFunc :=
 ⟨168, [(.tmp s8), (.tmp s9)], (.seq (.ops [⟨(some s8), (.quiet false (qMov (.c (.int .i64 0)))), none⟩, ⟨(some s9), (.quiet false (qMov (.c (.bool false)))), none⟩])
 (.seq (.draw (.calm ⟨(some s12), (.quiet false (qMov (.t s0))), none⟩ (.calm ⟨(some s13), (.quiet false (qMov (.t s1))), none⟩ (.calm ⟨(some s14), (.quiet false (qMov (.t s0))), none⟩ (.calm ⟨(some s15), (.quiet false (qMov (.t s3))), none⟩ (.calm ⟨(some s16), (.quiet false (qMov (.t s0))), none⟩ (.calm ⟨(some s17), (.quiet false (qMov (.t s3))), none⟩ (.calm ⟨(some s18), (.quiet false (qIaddrS 1 (.t s16) (.t s17))), none⟩ (.calm ⟨(some s19), (.quiet true (qLoad1 (.t s18))), none⟩ (.calm ⟨(some s20), (.quiet false (qMov (.t s0))), none⟩ (.calm ⟨(some s21), (.quiet false (qMov (.t s1))), none⟩ (.calm ⟨(some s22), (.quiet false (qIaddrS 1 (.t s20) (.t s21))), none⟩ (.calm ⟨(some s23), (.quiet true (qLoad1 (.t s22))), none⟩ (.calm ⟨(some s24), (.quiet false (qIaddrS 1 (.t s12) (.t s13))), none⟩ (.last ⟨⟨none, (.loud (lSto 1 (.t s24) (.t s19))), none⟩, []⟩ .fin)))))))))))))) [⟨(some s25), (.quiet false (qIaddrS 1 (.t s14) (.t s15))), none⟩, ⟨none, (.loud (lSto 1 (.t s25) (.t s23))), none⟩])
 (.seq (.ops [⟨(some s26), (.quiet false (qMov (.t s1))), none⟩, ⟨(some s27), (.quiet false (qBin .add (.t s26) (.c (.int .i64 1)))), none⟩, ⟨(some s28), (.quiet false (qMov (.t s2))), none⟩, ⟨(some s29), (.quiet false (qBin .sub (.t s28) (.c (.int .i64 1)))), none⟩, ⟨(some s10), (.quiet false (qMov (.t s27))), none⟩, ⟨(some s11), (.quiet false (qMov (.t s29))), none⟩])
 (.seq (.block 0 (.loop c73l0))
 (.seq (.block 2 (.loop c73l1))
 (.seq (.seq (.ops [⟨(some s63), (.quiet false (qMov (.t s10))), none⟩, ⟨(some s64), (.quiet false (qMov (.t s11))), none⟩, ⟨(some s65), (.quiet false (qBin .gtr (.t s63) (.t s64))), none⟩])
 (.cond (.t s65) (.seq (.draw (.calm ⟨(some s66), (.quiet false (qMov (.t s0))), none⟩ (.calm ⟨(some s67), (.quiet false (qMov (.t s11))), none⟩ (.calm ⟨(some s68), (.quiet false (qMov (.t s0))), none⟩ (.calm ⟨(some s69), (.quiet false (qMov (.t s1))), none⟩ (.calm ⟨(some s70), (.quiet false (qMov (.t s0))), none⟩ (.calm ⟨(some s71), (.quiet false (qMov (.t s1))), none⟩ (.calm ⟨(some s72), (.quiet false (qIaddrS 1 (.t s70) (.t s71))), none⟩ (.calm ⟨(some s73), (.quiet true (qLoad1 (.t s72))), none⟩ (.calm ⟨(some s74), (.quiet false (qMov (.t s0))), none⟩ (.calm ⟨(some s75), (.quiet false (qMov (.t s11))), none⟩ (.calm ⟨(some s76), (.quiet false (qIaddrS 1 (.t s74) (.t s75))), none⟩ (.calm ⟨(some s77), (.quiet true (qLoad1 (.t s76))), none⟩ (.calm ⟨(some s78), (.quiet false (qIaddrS 1 (.t s66) (.t s67))), none⟩ (.last ⟨⟨none, (.loud (lSto 1 (.t s78) (.t s73))), none⟩, []⟩ .fin)))))))))))))) [⟨(some s79), (.quiet false (qIaddrS 1 (.t s68) (.t s69))), none⟩, ⟨none, (.loud (lSto 1 (.t s79) (.t s77))), none⟩])
 (.seq (.ops [⟨(some s80), (.quiet false (qMov (.t s11))), none⟩, ⟨(some s8), (.quiet false (qMov (.t s80))), none⟩, ⟨(some s9), (.quiet false (qMov (.c (.bool true)))), none⟩])
 .ret)) .skip))
 (.seq (.draw (.calm ⟨(some s81), (.quiet false (qMov (.t s0))), none⟩ (.calm ⟨(some s82), (.quiet false (qMov (.t s10))), none⟩ (.calm ⟨(some s83), (.quiet false (qMov (.t s0))), none⟩ (.calm ⟨(some s84), (.quiet false (qMov (.t s11))), none⟩ (.calm ⟨(some s85), (.quiet false (qMov (.t s0))), none⟩ (.calm ⟨(some s86), (.quiet false (qMov (.t s11))), none⟩ (.calm ⟨(some s87), (.quiet false (qIaddrS 1 (.t s85) (.t s86))), none⟩ (.calm ⟨(some s88), (.quiet true (qLoad1 (.t s87))), none⟩ (.calm ⟨(some s89), (.quiet false (qMov (.t s0))), none⟩ (.calm ⟨(some s90), (.quiet false (qMov (.t s10))), none⟩ (.calm ⟨(some s91), (.quiet false (qIaddrS 1 (.t s89) (.t s90))), none⟩ (.calm ⟨(some s92), (.quiet true (qLoad1 (.t s91))), none⟩ (.calm ⟨(some s93), (.quiet false (qIaddrS 1 (.t s81) (.t s82))), none⟩ (.last ⟨⟨none, (.loud (lSto 1 (.t s93) (.t s88))), none⟩, []⟩ .fin)))))))))))))) [⟨(some s94), (.quiet false (qIaddrS 1 (.t s83) (.t s84))), none⟩, ⟨none, (.loud (lSto 1 (.t s94) (.t s92))), none⟩])
 (.seq (.ops [⟨(some s95), (.quiet false (qMov (.t s10))), none⟩, ⟨(some s96), (.quiet false (qBin .add (.t s95) (.c (.int .i64 1)))), none⟩, ⟨(some s10), (.quiet false (qMov (.t s96))), none⟩])
 (.seq (.ops [⟨(some s97), (.quiet false (qMov (.t s11))), none⟩, ⟨(some s98), (.quiet false (qBin .sub (.t s97) (.c (.int .i64 1)))), none⟩, ⟨(some s11), (.quiet false (qMov (.t s98))), none⟩])
 (.seq (.block 4 (.loop c73l4))
 (.seq (.draw (.calm ⟨(some s153), (.quiet false (qMov (.t s0))), none⟩ (.calm ⟨(some s154), (.quiet false (qMov (.t s11))), none⟩ (.calm ⟨(some s155), (.quiet false (qMov (.t s0))), none⟩ (.calm ⟨(some s156), (.quiet false (qMov (.t s1))), none⟩ (.calm ⟨(some s157), (.quiet false (qMov (.t s0))), none⟩ (.calm ⟨(some s158), (.quiet false (qMov (.t s1))), none⟩ (.calm ⟨(some s159), (.quiet false (qIaddrS 1 (.t s157) (.t s158))), none⟩ (.calm ⟨(some s160), (.quiet true (qLoad1 (.t s159))), none⟩ (.calm ⟨(some s161), (.quiet false (qMov (.t s0))), none⟩ (.calm ⟨(some s162), (.quiet false (qMov (.t s11))), none⟩ (.calm ⟨(some s163), (.quiet false (qIaddrS 1 (.t s161) (.t s162))), none⟩ (.calm ⟨(some s164), (.quiet true (qLoad1 (.t s163))), none⟩ (.calm ⟨(some s165), (.quiet false (qIaddrS 1 (.t s153) (.t s154))), none⟩ (.last ⟨⟨none, (.loud (lSto 1 (.t s165) (.t s160))), none⟩, []⟩ .fin)))))))))))))) [⟨(some s166), (.quiet false (qIaddrS 1 (.t s155) (.t s156))), none⟩, ⟨none, (.loud (lSto 1 (.t s166) (.t s164))), none⟩])
 (.seq (.ops [⟨(some s167), (.quiet false (qMov (.t s11))), none⟩, ⟨(some s8), (.quiet false (qMov (.t s167))), none⟩, ⟨(some s9), (.quiet false (qMov (.c (.bool false)))), none⟩])
 .ret))))))))))))⟩
/- math/bits.Len32 -/
def c74 : AFunc :=
 ⟨19, [(.tmp s2)], (.seq (.ops [⟨(some s2), (.quiet false (qMov (.c (.int .i64 0)))), none⟩])
 (.seq (.seq (.ops [⟨(some s3), (.quiet false (qMov (.t s0))), none⟩, ⟨(some s4), (.quiet false (qBin .geq (.t s3) (.c (.int .u32 65536)))), none⟩])
 (.cond (.t s4) (.seq (.ops [⟨(some s5), (.quiet false (qMov (.t s0))), none⟩, ⟨(some s6), (.quiet false (qBin .shr (.t s5) (.c (.int .u64 16)))), none⟩, ⟨(some s0), (.quiet false (qMov (.t s6))), none⟩])
 (.ops [⟨(some s2), (.quiet false (qMov (.c (.int .i64 16)))), none⟩])) .skip))
 (.seq (.seq (.ops [⟨(some s7), (.quiet false (qMov (.t s0))), none⟩, ⟨(some s8), (.quiet false (qBin .geq (.t s7) (.c (.int .u32 256)))), none⟩])
 (.cond (.t s8) (.seq (.ops [⟨(some s9), (.quiet false (qMov (.t s0))), none⟩, ⟨(some s10), (.quiet false (qBin .shr (.t s9) (.c (.int .u64 8)))), none⟩, ⟨(some s0), (.quiet false (qMov (.t s10))), none⟩])
 (.ops [⟨(some s11), (.quiet false (qMov (.t s2))), none⟩, ⟨(some s12), (.quiet false (qBin .add (.t s11) (.c (.int .i64 8)))), none⟩, ⟨(some s2), (.quiet false (qMov (.t s12))), none⟩])) .skip))
 (.seq (.ops [⟨(some s13), (.quiet false (qMov (.t s2))), none⟩, ⟨(some s14), (.quiet false (qMov (.t s0))), none⟩, ⟨(some s15), (.quiet false (qConv .u8 (.t s14))), none⟩, ⟨(some s16), (.quiet false (qIdxS (.c (.str [0, 1, 2, 2, 3, 3, 3, 3, 4, 4, 4, 4, 4, 4, 4, 4, 5, 5, 5, 5, 5, 5, 5, 5, 5, 5, 5, 5, 5, 5, 5, 5, 6, 6, 6, 6, 6, 6, 6, 6, 6, 6, 6, 6, 6, 6, 6, 6, 6, 6, 6, 6, 6, 6, 6, 6, 6, 6, 6, 6, 6, 6, 6, 6, 7, 7, 7, 7, 7, 7, 7, 7, 7, 7, 7, 7, 7, 7, 7, 7, 7, 7, 7, 7, 7, 7, 7, 7, 7, 7, 7, 7, 7, 7, 7, 7, 7, 7, 7, 7, 7, 7, 7, 7, 7, 7, 7, 7, 7, 7, 7, 7, 7, 7, 7, 7, 7, 7, 7, 7, 7, 7, 7, 7, 7, 7, 7, 7, 8, 8, 8, 8, 8, 8, 8, 8, 8, 8, 8, 8, 8, 8, 8, 8, 8, 8, 8, 8, 8, 8, 8, 8, 8, 8, 8, 8, 8, 8, 8, 8, 8, 8, 8, 8, 8, 8, 8, 8, 8, 8, 8, 8, 8, 8, 8, 8, 8, 8, 8, 8, 8, 8, 8, 8, 8, 8, 8, 8, 8, 8, 8, 8, 8, 8, 8, 8, 8, 8, 8, 8, 8, 8, 8, 8, 8, 8, 8, 8, 8, 8, 8, 8, 8, 8, 8, 8, 8, 8, 8, 8, 8, 8, 8, 8, 8, 8, 8, 8, 8, 8, 8, 8, 8, 8, 8, 8, 8, 8, 8, 8, 8, 8, 8, 8, 8, 8, 8, 8, 8, 8, 8, 8, 8, 8, 8, 8])) (.t s15))), none⟩, ⟨(some s17), (.quiet false (qConv .i64 (.t s16))), none⟩, ⟨(some s18), (.quiet false (qBin .add (.t s13) (.t s17))), none⟩, ⟨(some s2), (.quiet false (qMov (.t s18))), none⟩])
 .ret))))⟩
/- math/bits.Len64 -/
def c75 : AFunc :=
 ⟨25, [(.tmp s2)], (.seq (.ops [⟨(some s2), (.quiet false (qMov (.c (.int .i64 0)))), none⟩])
 (.seq (.seq (.ops [⟨(some s3), (.quiet false (qMov (.t s0))), none⟩, ⟨(some s4), (.quiet false (qBin .geq (.t s3) (.c (.int .u64 4294967296)))), none⟩])
 (.cond (.t s4) (.seq (.ops [⟨(some s5), (.quiet false (qMov (.t s0))), none⟩, ⟨(some s6), (.quiet false (qBin .shr (.t s5) (.c (.int .u64 32)))), none⟩, ⟨(some s0), (.quiet false (qMov (.t s6))), none⟩])
 (.ops [⟨(some s2), (.quiet false (qMov (.c (.int .i64 32)))), none⟩])) .skip))
 (.seq (.seq (.ops [⟨(some s7), (.quiet false (qMov (.t s0))), none⟩, ⟨(some s8), (.quiet false (qBin .geq (.t s7) (.c (.int .u64 65536)))), none⟩])
 (.cond (.t s8) (.seq (.ops [⟨(some s9), (.quiet false (qMov (.t s0))), none⟩, ⟨(some s10), (.quiet false (qBin .shr (.t s9) (.c (.int .u64 16)))), none⟩, ⟨(some s0), (.quiet false (qMov (.t s10))), none⟩])
 (.ops [⟨(some s11), (.quiet false (qMov (.t s2))), none⟩, ⟨(some s12), (.quiet false (qBin .add (.t s11) (.c (.int .i64 16)))), none⟩, ⟨(some s2), (.quiet false (qMov (.t s12))), none⟩])) .skip))
 (.seq (.seq (.ops [⟨(some s13), (.quiet false (qMov (.t s0))), none⟩, ⟨(some s14), (.quiet false (qBin .geq (.t s13) (.c (.int .u64 256)))), none⟩])
 (.cond (.t s14) (.seq (.ops [⟨(some s15), (.quiet false (qMov (.t s0))), none⟩, ⟨(some s16), (.quiet false (qBin .shr (.t s15) (.c (.int .u64 8)))), none⟩, ⟨(some s0), (.quiet false (qMov (.t s16))), none⟩])
 (.ops [⟨(some s17), (.quiet false (qMov (.t s2))), none⟩, ⟨(some s18), (.quiet false (qBin .add (.t s17) (.c (.int .i64 8)))), none⟩, ⟨(some s2), (.quiet false (qMov (.t s18))), none⟩])) .skip))
 (.seq (.ops [⟨(some s19), (.quiet false (qMov (.t s2))), none⟩, ⟨(some s20), (.quiet false (qMov (.t s0))), none⟩, ⟨(some s21), (.quiet false (qConv .u8 (.t s20))), none⟩, ⟨(some s22), (.quiet false (qIdxS (.c (.str [0, 1, 2, 2, 3, 3, 3, 3, 4, 4, 4, 4, 4, 4, 4, 4, 5, 5, 5, 5, 5, 5, 5, 5, 5, 5, 5, 5, 5, 5, 5, 5, 6, 6, 6, 6, 6, 6, 6, 6, 6, 6, 6, 6, 6, 6, 6, 6, 6, 6, 6, 6, 6, 6, 6, 6, 6, 6, 6, 6, 6, 6, 6, 6, 7, 7, 7, 7, 7, 7, 7, 7, 7, 7, 7, 7, 7, 7, 7, 7, 7, 7, 7, 7, 7, 7, 7, 7, 7, 7, 7, 7, 7, 7, 7, 7, 7, 7, 7, 7, 7, 7, 7, 7, 7, 7, 7, 7, 7, 7, 7, 7, 7, 7, 7, 7, 7, 7, 7, 7, 7, 7, 7, 7, 7, 7, 7, 7, 8, 8, 8, 8, 8, 8, 8, 8, 8, 8, 8, 8, 8, 8, 8, 8, 8, 8, 8, 8, 8, 8, 8, 8, 8, 8, 8, 8, 8, 8, 8, 8, 8, 8, 8, 8, 8, 8, 8, 8, 8, 8, 8, 8, 8, 8, 8, 8, 8, 8, 8, 8, 8, 8, 8, 8, 8, 8, 8, 8, 8, 8, 8, 8, 8, 8, 8, 8, 8, 8, 8, 8, 8, 8, 8, 8, 8, 8, 8, 8, 8, 8, 8, 8, 8, 8, 8, 8, 8, 8, 8, 8, 8, 8, 8, 8, 8, 8, 8, 8, 8, 8, 8, 8, 8, 8, 8, 8, 8, 8, 8, 8, 8, 8, 8, 8, 8, 8, 8, 8, 8, 8, 8, 8, 8, 8, 8, 8])) (.t s21))), none⟩, ⟨(some s23), (.quiet false (qConv .i64 (.t s22))), none⟩, ⟨(some s24), (.quiet false (qBin .add (.t s19) (.t s23))), none⟩, ⟨(some s2), (.quiet false (qMov (.t s24))), none⟩])
 .ret)))))⟩
/- slices.siftDownOrdered[int] -/
def c76l0 : ACode :=
 (.block 1 (.seq (.ops [⟨(some s11), (.quiet false (qMov (.t s8))), none⟩, ⟨(some s12), (.quiet false (qBin .mul (.c (.int .i64 2)) (.t s11))), none⟩, ⟨(some s13), (.quiet false (qBin .add (.t s12) (.c (.int .i64 1)))), none⟩, ⟨(some s9), (.quiet false (qMov (.t s13))), none⟩])
 (.seq (.seq (.ops [⟨(some s14), (.quiet false (qMov (.t s9))), none⟩, ⟨(some s15), (.quiet false (qMov (.t s2))), none⟩, ⟨(some s16), (.quiet false (qBin .geq (.t s14) (.t s15))), none⟩])
 (.cond (.t s16) (.exit 0) .skip))
 (.seq (.seq (.draw (.calm ⟨(some s17), (.quiet false (qMov (.t s9))), none⟩ (.calm ⟨(some s18), (.quiet false (qBin .add (.t s17) (.c (.int .i64 1)))), none⟩ (.calm ⟨(some s19), (.quiet false (qMov (.t s2))), none⟩ (.calm ⟨(some s20), (.quiet false (qBin .lss (.t s18) (.t s19))), none⟩ (.calm ⟨(some s21), (.quiet false (qMov (.t s20))), none⟩ (.calm ⟨(some s22), (.quiet false (qMov (.t s0))), (some (s21, true))⟩ (.calm ⟨(some s23), (.quiet false (qMov (.t s3))), (some (s21, true))⟩ (.calm ⟨(some s24), (.quiet false (qMov (.t s9))), (some (s21, true))⟩ (.calm ⟨(some s25), (.quiet false (qBin .add (.t s23) (.t s24))), (some (s21, true))⟩ (.calm ⟨(some s26), (.quiet false (qIaddrS 1 (.t s22) (.t s25))), (some (s21, true))⟩ (.calm ⟨(some s27), (.quiet true (qLoad1 (.t s26))), (some (s21, true))⟩ (.calm ⟨(some s28), (.quiet false (qMov (.t s0))), (some (s21, true))⟩ (.calm ⟨(some s29), (.quiet false (qMov (.t s3))), (some (s21, true))⟩ (.calm ⟨(some s30), (.quiet false (qMov (.t s9))), (some (s21, true))⟩ (.calm ⟨(some s31), (.quiet false (qBin .add (.t s29) (.t s30))), (some (s21, true))⟩ (.calm ⟨(some s32), (.quiet false (qBin .add (.t s31) (.c (.int .i64 1)))), (some (s21, true))⟩ (.calm ⟨(some s33), (.quiet false (qIaddrS 1 (.t s28) (.t s32))), (some (s21, true))⟩ (.calm ⟨(some s34), (.quiet true (qLoad1 (.t s33))), (some (s21, true))⟩ .fin)))))))))))))))))) [⟨(some s35), (.call (.c (.func (.func 71) [] [])) [(.t s27), (.t s34)]), (some (s21, true))⟩, ⟨(some s36), (.quiet false (qPick (.t s21) (.t s35) (.c (.bool false)))), none⟩])
 (.cond (.t s36) (.ops [⟨(some s37), (.quiet false (qMov (.t s9))), none⟩, ⟨(some s38), (.quiet false (qBin .add (.t s37) (.c (.int .i64 1)))), none⟩, ⟨(some s9), (.quiet false (qMov (.t s38))), none⟩]) .skip))
 (.seq (.seq (.draw (.calm ⟨(some s39), (.quiet false (qMov (.t s0))), none⟩ (.calm ⟨(some s40), (.quiet false (qMov (.t s3))), none⟩ (.calm ⟨(some s41), (.quiet false (qMov (.t s8))), none⟩ (.calm ⟨(some s42), (.quiet false (qBin .add (.t s40) (.t s41))), none⟩ (.calm ⟨(some s43), (.quiet false (qIaddrS 1 (.t s39) (.t s42))), none⟩ (.calm ⟨(some s44), (.quiet true (qLoad1 (.t s43))), none⟩ (.calm ⟨(some s45), (.quiet false (qMov (.t s0))), none⟩ (.calm ⟨(some s46), (.quiet false (qMov (.t s3))), none⟩ (.calm ⟨(some s47), (.quiet false (qMov (.t s9))), none⟩ (.calm ⟨(some s48), (.quiet false (qBin .add (.t s46) (.t s47))), none⟩ (.calm ⟨(some s49), (.quiet false (qIaddrS 1 (.t s45) (.t s48))), none⟩ (.calm ⟨(some s50), (.quiet true (qLoad1 (.t s49))), none⟩ .fin)))))))))))) [⟨(some s51), (.call (.c (.func (.func 71) [] [])) [(.t s44), (.t s50)]), none⟩, ⟨(some s52), (.quiet false (qUn .not (.t s51))), none⟩])
 (.cond (.t s52) .ret .skip))
 (.seq (.draw (.calm ⟨(some s53), (.quiet false (qMov (.t s0))), none⟩ (.calm ⟨(some s54), (.quiet false (qMov (.t s3))), none⟩ (.calm ⟨(some s55), (.quiet false (qMov (.t s8))), none⟩ (.calm ⟨(some s56), (.quiet false (qBin .add (.t s54) (.t s55))), none⟩ (.calm ⟨(some s57), (.quiet false (qMov (.t s0))), none⟩ (.calm ⟨(some s58), (.quiet false (qMov (.t s3))), none⟩ (.calm ⟨(some s59), (.quiet false (qMov (.t s9))), none⟩ (.calm ⟨(some s60), (.quiet false (qBin .add (.t s58) (.t s59))), none⟩ (.calm ⟨(some s61), (.quiet false (qMov (.t s0))), none⟩ (.calm ⟨(some s62), (.quiet false (qMov (.t s3))), none⟩ (.calm ⟨(some s63), (.quiet false (qMov (.t s9))), none⟩ (.calm ⟨(some s64), (.quiet false (qBin .add (.t s62) (.t s63))), none⟩ (.calm ⟨(some s65), (.quiet false (qIaddrS 1 (.t s61) (.t s64))), none⟩ (.calm ⟨(some s66), (.quiet true (qLoad1 (.t s65))), none⟩ (.calm ⟨(some s67), (.quiet false (qMov (.t s0))), none⟩ (.calm ⟨(some s68), (.quiet false (qMov (.t s3))), none⟩ (.calm ⟨(some s69), (.quiet false (qMov (.t s8))), none⟩ (.calm ⟨(some s70), (.quiet false (qBin .add (.t s68) (.t s69))), none⟩ (.calm ⟨(some s71), (.quiet false (qIaddrS 1 (.t s67) (.t s70))), none⟩ (.calm ⟨(some s72), (.quiet true (qLoad1 (.t s71))), none⟩ (.calm ⟨(some s73), (.quiet false (qIaddrS 1 (.t s53) (.t s56))), none⟩ (.last ⟨⟨none, (.loud (lSto 1 (.t s73) (.t s66))), none⟩, []⟩ .fin)))))))))))))))))))))) [⟨(some s74), (.quiet false (qIaddrS 1 (.t s57) (.t s60))), none⟩, ⟨none, (.loud (lSto 1 (.t s74) (.t s72))), none⟩])
 (.ops [⟨(some s75), (.quiet false (qMov (.t s9))), none⟩, ⟨(some s8), (.quiet false (qMov (.t s75))), none⟩])))))))
def c76 : AFunc :=
 ⟨76, [], (.seq (.ops [⟨(some s10), (.quiet false (qMov (.t s1))), none⟩, ⟨(some s8), (.quiet false (qMov (.t s10))), none⟩])
 (.block 0 (.loop c76l0)))⟩
/- slices.nextPowerOfTwo -/
def c77 : AFunc :=
 ⟨7, [(.tmp s2)], (.seq (.ops [⟨(some s2), (.quiet false (qMov (.c (.int .u64 0)))), none⟩])
 (.seq (.ops [⟨(some s3), (.quiet false (qMov (.t s0))), none⟩, ⟨(some s4), (.quiet false (qConv .u64 (.t s3))), none⟩, ⟨(some s5), (.call (.c (.func (.func 64) [] [])) [(.t s4)]), none⟩, ⟨(some s6), (.quiet false (qBin .shl (.c (.int .u64 1)) (.t s5))), none⟩, ⟨(some s2), (.quiet false (qMov (.t s6))), none⟩])
 .ret))⟩
/- (*slices.xorshift).Next -/
def c78 : AFunc :=
 ⟨33, [(.tmp s2)], (.seq (.ops [⟨(some s2), (.quiet false (qMov (.c (.int .u64 0)))), none⟩])
 (.seq (.draw (.calm ⟨(some s3), (.quiet false (qMov (.t s0))), none⟩ (.calm ⟨(some s4), (.quiet false (qNilck (.t s3))), none⟩ (.calm ⟨(some s5), (.quiet true (qLoad1 (.t s4))), none⟩ (.calm ⟨(some s6), (.quiet false (qMov (.t s0))), none⟩ (.calm ⟨(some s7), (.quiet false (qNilck (.t s6))), none⟩ (.calm ⟨(some s8), (.quiet true (qLoad1 (.t s7))), none⟩ (.calm ⟨(some s9), (.quiet false (qBin .shl (.t s8) (.c (.int .u64 13)))), none⟩ .fin))))))) [⟨(some s10), (.quiet false (qBin .xor (.t s5) (.t s9))), none⟩, ⟨(some s11), (.quiet false (qNilck (.t s3))), none⟩, ⟨none, (.loud (lSto 1 (.t s11) (.t s10))), none⟩])
 (.seq (.draw (.calm ⟨(some s12), (.quiet false (qMov (.t s0))), none⟩ (.calm ⟨(some s13), (.quiet false (qNilck (.t s12))), none⟩ (.calm ⟨(some s14), (.quiet true (qLoad1 (.t s13))), none⟩ (.calm ⟨(some s15), (.quiet false (qMov (.t s0))), none⟩ (.calm ⟨(some s16), (.quiet false (qNilck (.t s15))), none⟩ (.calm ⟨(some s17), (.quiet true (qLoad1 (.t s16))), none⟩ (.calm ⟨(some s18), (.quiet false (qBin .shr (.t s17) (.c (.int .u64 7)))), none⟩ .fin))))))) [⟨(some s19), (.quiet false (qBin .xor (.t s14) (.t s18))), none⟩, ⟨(some s20), (.quiet false (qNilck (.t s12))), none⟩, ⟨none, (.loud (lSto 1 (.t s20) (.t s19))), none⟩])
 (.seq (.draw (.calm ⟨(some s21), (.quiet false (qMov (.t s0))), none⟩ (.calm ⟨(some s22), (.quiet false (qNilck (.t s21))), none⟩ (.calm ⟨(some s23), (.quiet true (qLoad1 (.t s22))), none⟩ (.calm ⟨(some s24), (.quiet false (qMov (.t s0))), none⟩ (.calm ⟨(some s25), (.quiet false (qNilck (.t s24))), none⟩ (.calm ⟨(some s26), (.quiet true (qLoad1 (.t s25))), none⟩ (.calm ⟨(some s27), (.quiet false (qBin .shl (.t s26) (.c (.int .u64 17)))), none⟩ .fin))))))) [⟨(some s28), (.quiet false (qBin .xor (.t s23) (.t s27))), none⟩, ⟨(some s29), (.quiet false (qNilck (.t s21))), none⟩, ⟨none, (.loud (lSto 1 (.t s29) (.t s28))), none⟩])
 (.seq (.ops [⟨(some s30), (.quiet false (qMov (.t s0))), none⟩, ⟨(some s31), (.quiet false (qNilck (.t s30))), none⟩, ⟨(some s32), (.quiet true (qLoad1 (.t s31))), none⟩, ⟨(some s2), (.quiet false (qMov (.t s32))), none⟩])
 .ret)))))⟩
/- slices.medianAdjacentOrdered[int] -/
def c79 : AFunc :=
 ⟨15, [(.tmp s6)], (.seq (.ops [⟨(some s6), (.quiet false (qMov (.c (.int .i64 0)))), none⟩])
 (.seq (.ops [⟨(some s7), (.quiet false (qMov (.t s0))), none⟩, ⟨(some s8), (.quiet false (qMov (.t s1))), none⟩, ⟨(some s9), (.quiet false (qBin .sub (.t s8) (.c (.int .i64 1)))), none⟩, ⟨(some s10), (.quiet false (qMov (.t s1))), none⟩, ⟨(some s11), (.quiet false (qMov (.t s1))), none⟩, ⟨(some s12), (.quiet false (qBin .add (.t s11) (.c (.int .i64 1)))), none⟩, ⟨(some s13), (.quiet false (qMov (.t s2))), none⟩, ⟨(some s14), (.call (.c (.func (.func 80) [] [])) [(.t s7), (.t s9), (.t s10), (.t s12), (.t s13)]), none⟩, ⟨(some s6), (.quiet false (qMov (.t s14))), none⟩])
 .ret))⟩
/- slices.medianOrdered[int] -/
def c80 : AFunc :=
 ⟨36, [(.tmp s10)], (.seq (.ops [⟨(some s10), (.quiet false (qMov (.c (.int .i64 0)))), none⟩])
 (.seq (.ops [⟨(some s12), (.quiet false (qMov (.t s0))), none⟩, ⟨(some s13), (.quiet false (qMov (.t s1))), none⟩, ⟨(some s14), (.quiet false (qMov (.t s2))), none⟩, ⟨(some s15), (.quiet false (qMov (.t s4))), none⟩, ⟨(some s16), (.call (.c (.func (.func 82) [] [])) [(.t s12), (.t s13), (.t s14), (.t s15)]), none⟩, ⟨(some s11), (.quiet false (qMov (.t s16))), none⟩, ⟨(some s17), (.quiet false (qExt 0 (.t s11))), none⟩, ⟨(some s18), (.quiet false (qExt 1 (.t s11))), none⟩, ⟨(some s1), (.quiet false (qMov (.t s17))), none⟩, ⟨(some s2), (.quiet false (qMov (.t s18))), none⟩])
 (.seq (.ops [⟨(some s20), (.quiet false (qMov (.t s0))), none⟩, ⟨(some s21), (.quiet false (qMov (.t s2))), none⟩, ⟨(some s22), (.quiet false (qMov (.t s3))), none⟩, ⟨(some s23), (.quiet false (qMov (.t s4))), none⟩, ⟨(some s24), (.call (.c (.func (.func 82) [] [])) [(.t s20), (.t s21), (.t s22), (.t s23)]), none⟩, ⟨(some s19), (.quiet false (qMov (.t s24))), none⟩, ⟨(some s25), (.quiet false (qExt 0 (.t s19))), none⟩, ⟨(some s26), (.quiet false (qExt 1 (.t s19))), none⟩, ⟨(some s2), (.quiet false (qMov (.t s25))), none⟩, ⟨(some s3), (.quiet false (qMov (.t s26))), none⟩])
 (.seq (.ops [⟨(some s28), (.quiet false (qMov (.t s0))), none⟩, ⟨(some s29), (.quiet false (qMov (.t s1))), none⟩, ⟨(some s30), (.quiet false (qMov (.t s2))), none⟩, ⟨(some s31), (.quiet false (qMov (.t s4))), none⟩, ⟨(some s32), (.call (.c (.func (.func 82) [] [])) [(.t s28), (.t s29), (.t s30), (.t s31)]), none⟩, ⟨(some s27), (.quiet false (qMov (.t s32))), none⟩, ⟨(some s33), (.quiet false (qExt 0 (.t s27))), none⟩, ⟨(some s34), (.quiet false (qExt 1 (.t s27))), none⟩, ⟨(some s1), (.quiet false (qMov (.t s33))), none⟩, ⟨(some s2), (.quiet false (qMov (.t s34))), none⟩])
 (.seq (.ops [⟨(some s35), (.quiet false (qMov (.t s2))), none⟩, ⟨(some s10), (.quiet false (qMov (.t s35))), none⟩])
 .ret)))))⟩
/- cmp.isNaN[int] -/
def c81 : AFunc :=
 ⟨6, [(.tmp s2)], (.seq (.ops [⟨(some s2), (.quiet false (qMov (.c (.bool false)))), none⟩])
 (.seq (.ops [⟨(some s3), (.quiet false (qMov (.t s0))), none⟩, ⟨(some s4), (.quiet false (qMov (.t s0))), none⟩, ⟨(some s5), (.quiet false (qBin .neq (.t s3) (.t s4))), none⟩, ⟨(some s2), (.quiet false (qMov (.t s5))), none⟩])
 .ret))⟩
/- slices.order2Ordered[int] -/
def c82 : AFunc :=
 ⟨28, [(.tmp s8), (.tmp s9)], (.seq (.ops [⟨(some s8), (.quiet false (qMov (.c (.int .i64 0)))), none⟩, ⟨(some s9), (.quiet false (qMov (.c (.int .i64 0)))), none⟩])
 (.seq (.seq (.draw (.calm ⟨(some s10), (.quiet false (qMov (.t s0))), none⟩ (.calm ⟨(some s11), (.quiet false (qMov (.t s2))), none⟩ (.calm ⟨(some s12), (.quiet false (qIaddrS 1 (.t s10) (.t s11))), none⟩ (.calm ⟨(some s13), (.quiet true (qLoad1 (.t s12))), none⟩ (.calm ⟨(some s14), (.quiet false (qMov (.t s0))), none⟩ (.calm ⟨(some s15), (.quiet false (qMov (.t s1))), none⟩ (.calm ⟨(some s16), (.quiet false (qIaddrS 1 (.t s14) (.t s15))), none⟩ (.calm ⟨(some s17), (.quiet true (qLoad1 (.t s16))), none⟩ .fin)))))))) [⟨(some s18), (.call (.c (.func (.func 71) [] [])) [(.t s13), (.t s17)]), none⟩])
 (.cond (.t s18) (.seq (.ops [⟨(some s19), (.quiet false (qMov (.t s3))), none⟩, ⟨(some s20), (.quiet false (qNilck (.t s19))), none⟩, ⟨(some s21), (.quiet true (qLoad1 (.t s20))), none⟩, ⟨(some s22), (.quiet false (qBin .add (.t s21) (.c (.int .i64 1)))), none⟩, ⟨(some s23), (.quiet false (qNilck (.t s19))), none⟩, ⟨none, (.loud (lSto 1 (.t s23) (.t s22))), none⟩])
 (.seq (.ops [⟨(some s24), (.quiet false (qMov (.t s2))), none⟩, ⟨(some s25), (.quiet false (qMov (.t s1))), none⟩, ⟨(some s8), (.quiet false (qMov (.t s24))), none⟩, ⟨(some s9), (.quiet false (qMov (.t s25))), none⟩])
 .ret)) .skip))
 (.seq (.ops [⟨(some s26), (.quiet false (qMov (.t s1))), none⟩, ⟨(some s27), (.quiet false (qMov (.t s2))), none⟩, ⟨(some s8), (.quiet false (qMov (.t s26))), none⟩, ⟨(some s9), (.quiet false (qMov (.t s27))), none⟩])
 .ret)))⟩
def ft : FT :=
 (.node none (.node none (.node none (.node none (.node none (.node (some c31) (.node (some c63) .leaf .leaf) .leaf) (.node (some c47) (.node (some c79) .leaf .leaf) .leaf)) (.node none (.node (some c39) (.node (some c71) .leaf .leaf) .leaf) (.node (some c55) .leaf .leaf))) (.node none (.node (some c19) (.node (some c35) (.node (some c67) .leaf .leaf) .leaf) (.node (some c51) .leaf .leaf)) (.node (some c27) (.node (some c43) (.node (some c75) .leaf .leaf) .leaf) (.node (some c59) .leaf .leaf)))) (.node (some c5) (.node (some c9) (.node none (.node (some c33) (.node (some c65) .leaf .leaf) .leaf) (.node (some c49) (.node (some c81) .leaf .leaf) .leaf)) (.node none (.node (some c41) (.node (some c73) .leaf .leaf) .leaf) (.node (some c57) .leaf .leaf))) (.node none (.node (some c21) (.node (some c37) (.node (some c69) .leaf .leaf) .leaf) (.node (some c53) .leaf .leaf)) (.node (some c29) (.node (some c45) (.node (some c77) .leaf .leaf) .leaf) (.node (some c61) .leaf .leaf))))) (.node none (.node none (.node (some c8) (.node (some c16) (.node (some c32) (.node (some c64) .leaf .leaf) .leaf) (.node (some c48) (.node (some c80) .leaf .leaf) .leaf)) (.node none (.node none (.node (some c72) .leaf .leaf) .leaf) (.node (some c56) .leaf .leaf))) (.node (some c12) (.node (some c20) (.node (some c36) (.node (some c68) .leaf .leaf) .leaf) (.node (some c52) .leaf .leaf)) (.node (some c28) (.node (some c44) (.node (some c76) .leaf .leaf) .leaf) (.node (some c60) .leaf .leaf)))) (.node none (.node (some c10) (.node (some c18) (.node (some c34) (.node (some c66) .leaf .leaf) .leaf) (.node (some c50) (.node (some c82) .leaf .leaf) .leaf)) (.node none (.node (some c42) (.node (some c74) .leaf .leaf) .leaf) (.node (some c58) .leaf .leaf))) (.node (some c14) (.node (some c22) (.node (some c38) (.node (some c70) .leaf .leaf) .leaf) (.node (some c54) .leaf .leaf)) (.node (some c30) (.node (some c46) (.node (some c78) .leaf .leaf) .leaf) (.node (some c62) .leaf .leaf))))))
theorem ok5 : FOk Try.prog 5 c5 := FOk.mk Try.func5 (by kernel_rfl) (by kernel_rfl)
theorem ok8 : FOk Try.prog 8 c8 := FOk.mk Try.func8 (by kernel_rfl) (by kernel_rfl)
theorem ok9 : FOk Try.prog 9 c9 := FOk.mk Try.func9 (by kernel_rfl) (by kernel_rfl)
theorem ok10 : FOk Try.prog 10 c10 := FOk.mk Try.func10 (by kernel_rfl) (by kernel_rfl)
theorem ok12 : FOk Try.prog 12 c12 := FOk.mk Try.func12 (by kernel_rfl) (by kernel_rfl)
theorem ok14 : FOk Try.prog 14 c14 := FOk.mk Try.func14 (by kernel_rfl) (by kernel_rfl)
theorem ok16 : FOk Try.prog 16 c16 := FOk.mk Try.func16 (by kernel_rfl) (by kernel_rfl)
theorem ok18 : FOk Try.prog 18 c18 := FOk.mk Try.func18 (by kernel_rfl) (by kernel_rfl)
theorem ok19 : FOk Try.prog 19 c19 := FOk.mk Try.func19 (by kernel_rfl) (by kernel_rfl)
theorem ok20 : FOk Try.prog 20 c20 := FOk.mk Try.func20 (by kernel_rfl) (by kernel_rfl)
theorem ok21 : FOk Try.prog 21 c21 := FOk.mk Try.func21 (by kernel_rfl) (by kernel_rfl)
theorem ok22 : FOk Try.prog 22 c22 := FOk.mk Try.func22 (by kernel_rfl) (by kernel_rfl)
theorem ok27 : FOk Try.prog 27 c27 := FOk.mk Try.func27 (by kernel_rfl) (by kernel_rfl)
theorem ok28 : FOk Try.prog 28 c28 := FOk.mk Try.func28 (by kernel_rfl) (by kernel_rfl)
theorem ok29 : FOk Try.prog 29 c29 := FOk.mk Try.func29 (by kernel_rfl) (by kernel_rfl)
theorem ok30 : FOk Try.prog 30 c30 := FOk.mk Try.func30 (by kernel_rfl) (by kernel_rfl)
theorem ok31 : FOk Try.prog 31 c31 := FOk.mk Try.func31 (by kernel_rfl) (by kernel_rfl)
theorem ok32 : FOk Try.prog 32 c32 := FOk.mk Try.func32 (by kernel_rfl) (by kernel_rfl)
theorem ok33 : FOk Try.prog 33 c33 := FOk.mk Try.func33 (by kernel_rfl) (by kernel_rfl)
theorem ok34 : FOk Try.prog 34 c34 := FOk.mk Try.func34 (by kernel_rfl) (by kernel_rfl)
theorem ok35 : FOk Try.prog 35 c35 := FOk.mk Try.func35 (by kernel_rfl) (by kernel_rfl)
theorem ok36 : FOk Try.prog 36 c36 := FOk.mk Try.func36 (by kernel_rfl) (by kernel_rfl)
theorem ok37 : FOk Try.prog 37 c37 := FOk.mk Try.func37 (by kernel_rfl) (by kernel_rfl)
theorem ok38 : FOk Try.prog 38 c38 := FOk.mk Try.func38 (by kernel_rfl) (by kernel_rfl)
theorem ok39 : FOk Try.prog 39 c39 := FOk.mk Try.func39 (by kernel_rfl) (by kernel_rfl)
theorem ok41 : FOk Try.prog 41 c41 := FOk.mk Try.func41 (by kernel_rfl) (by kernel_rfl)
theorem ok42 : FOk Try.prog 42 c42 := FOk.mk Try.func42 (by kernel_rfl) (by kernel_rfl)
theorem ok43 : FOk Try.prog 43 c43 := FOk.mk Try.func43 (by kernel_rfl) (by kernel_rfl)
theorem ok44 : FOk Try.prog 44 c44 := FOk.mk Try.func44 (by kernel_rfl) (by kernel_rfl)
theorem ok45 : FOk Try.prog 45 c45 := FOk.mk Try.func45 (by kernel_rfl) (by kernel_rfl)
theorem ok46 : FOk Try.prog 46 c46 := FOk.mk Try.func46 (by kernel_rfl) (by kernel_rfl)
theorem ok47 : FOk Try.prog 47 c47 := FOk.mk Try.func47 (by kernel_rfl) (by kernel_rfl)
theorem ok48 : FOk Try.prog 48 c48 := FOk.mk Try.func48 (by kernel_rfl) (by kernel_rfl)
theorem ok49 : FOk Try.prog 49 c49 := FOk.mk Try.func49 (by kernel_rfl) (by kernel_rfl)
theorem ok50 : FOk Try.prog 50 c50 := FOk.mk Try.func50 (by kernel_rfl) (by kernel_rfl)
theorem ok51 : FOk Try.prog 51 c51 := FOk.mk Try.func51 (by kernel_rfl) (by kernel_rfl)
theorem ok52 : FOk Try.prog 52 c52 := FOk.mk Try.func52 (by kernel_rfl) (by kernel_rfl)
theorem ok53 : FOk Try.prog 53 c53 := FOk.mk Try.func53 (by kernel_rfl) (by kernel_rfl)
theorem ok54 : FOk Try.prog 54 c54 := FOk.mk Try.func54 (by kernel_rfl) (by kernel_rfl)
theorem ok55 : FOk Try.prog 55 c55 := FOk.mk Try.func55 (by kernel_rfl) (by kernel_rfl)
theorem ok56 : FOk Try.prog 56 c56 := FOk.mk Try.func56 (by kernel_rfl) (by kernel_rfl)
theorem ok57 : FOk Try.prog 57 c57 := FOk.mk Try.func57 (by kernel_rfl) (by kernel_rfl)
theorem ok58 : FOk Try.prog 58 c58 := FOk.mk Try.func58 (by kernel_rfl) (by kernel_rfl)
theorem ok59 : FOk Try.prog 59 c59 := FOk.mk Try.func59 (by kernel_rfl) (by kernel_rfl)
theorem ok60 : FOk Try.prog 60 c60 := FOk.mk Try.func60 (by kernel_rfl) (by kernel_rfl)
theorem ok61 : FOk Try.prog 61 c61 := FOk.mk Try.func61 (by kernel_rfl) (by kernel_rfl)
theorem ok62 : FOk Try.prog 62 c62 := FOk.mk Try.func62 (by kernel_rfl) (by kernel_rfl)
theorem ok63 : FOk Try.prog 63 c63 := FOk.mk Try.func63 (by kernel_rfl) (by kernel_rfl)
theorem ok64 : FOk Try.prog 64 c64 := FOk.mk Try.func64 (by kernel_rfl) (by kernel_rfl)
theorem ok65 : FOk Try.prog 65 c65 := FOk.mk Try.func65 (by kernel_rfl) (by kernel_rfl)
theorem ok66 : FOk Try.prog 66 c66 := FOk.mk Try.func66 (by kernel_rfl) (by kernel_rfl)
theorem ok67 : FOk Try.prog 67 c67 := FOk.mk Try.func67 (by kernel_rfl) (by kernel_rfl)
theorem ok68 : FOk Try.prog 68 c68 := FOk.mk Try.func68 (by kernel_rfl) (by kernel_rfl)
theorem ok69 : FOk Try.prog 69 c69 := FOk.mk Try.func69 (by kernel_rfl) (by kernel_rfl)
theorem ok70 : FOk Try.prog 70 c70 := FOk.mk Try.func70 (by kernel_rfl) (by kernel_rfl)
theorem ok71 : FOk Try.prog 71 c71 := FOk.mk Try.func71 (by kernel_rfl) (by kernel_rfl)
theorem ok72 : FOk Try.prog 72 c72 := FOk.mk Try.func72 (by kernel_rfl) (by kernel_rfl)
theorem ok73 : FOk Try.prog 73 c73 := FOk.mk Try.func73 (by kernel_rfl) (by kernel_rfl)
theorem ok74 : FOk Try.prog 74 c74 := FOk.mk Try.func74 (by kernel_rfl) (by kernel_rfl)
theorem ok75 : FOk Try.prog 75 c75 := FOk.mk Try.func75 (by kernel_rfl) (by kernel_rfl)
theorem ok76 : FOk Try.prog 76 c76 := FOk.mk Try.func76 (by kernel_rfl) (by kernel_rfl)
theorem ok77 : FOk Try.prog 77 c77 := FOk.mk Try.func77 (by kernel_rfl) (by kernel_rfl)
theorem ok78 : FOk Try.prog 78 c78 := FOk.mk Try.func78 (by kernel_rfl) (by kernel_rfl)
theorem ok79 : FOk Try.prog 79 c79 := FOk.mk Try.func79 (by kernel_rfl) (by kernel_rfl)
theorem ok80 : FOk Try.prog 80 c80 := FOk.mk Try.func80 (by kernel_rfl) (by kernel_rfl)
theorem ok81 : FOk Try.prog 81 c81 := FOk.mk Try.func81 (by kernel_rfl) (by kernel_rfl)
theorem ok82 : FOk Try.prog 82 c82 := FOk.mk Try.func82 (by kernel_rfl) (by kernel_rfl)
theorem ftOk : ft.Ok Try.prog 1 0 :=
 ⟨trivial, ⟨trivial, ⟨trivial, ⟨trivial, ⟨trivial, ⟨ok31, ⟨ok63, trivial, trivial⟩, trivial⟩, ⟨ok47, ⟨ok79, trivial, trivial⟩, trivial⟩⟩, ⟨trivial, ⟨ok39, ⟨ok71, trivial, trivial⟩, trivial⟩, ⟨ok55, trivial, trivial⟩⟩⟩, ⟨trivial, ⟨ok19, ⟨ok35, ⟨ok67, trivial, trivial⟩, trivial⟩, ⟨ok51, trivial, trivial⟩⟩, ⟨ok27, ⟨ok43, ⟨ok75, trivial, trivial⟩, trivial⟩, ⟨ok59, trivial, trivial⟩⟩⟩⟩, ⟨ok5, ⟨ok9, ⟨trivial, ⟨ok33, ⟨ok65, trivial, trivial⟩, trivial⟩, ⟨ok49, ⟨ok81, trivial, trivial⟩, trivial⟩⟩, ⟨trivial, ⟨ok41, ⟨ok73, trivial, trivial⟩, trivial⟩, ⟨ok57, trivial, trivial⟩⟩⟩, ⟨trivial, ⟨ok21, ⟨ok37, ⟨ok69, trivial, trivial⟩, trivial⟩, ⟨ok53, trivial, trivial⟩⟩, ⟨ok29, ⟨ok45, ⟨ok77, trivial, trivial⟩, trivial⟩, ⟨ok61, trivial, trivial⟩⟩⟩⟩⟩, ⟨trivial, ⟨trivial, ⟨ok8, ⟨ok16, ⟨ok32, ⟨ok64, trivial, trivial⟩, trivial⟩, ⟨ok48, ⟨ok80, trivial, trivial⟩, trivial⟩⟩, ⟨trivial, ⟨trivial, ⟨ok72, trivial, trivial⟩, trivial⟩, ⟨ok56, trivial, trivial⟩⟩⟩, ⟨ok12, ⟨ok20, ⟨ok36, ⟨ok68, trivial, trivial⟩, trivial⟩, ⟨ok52, trivial, trivial⟩⟩, ⟨ok28, ⟨ok44, ⟨ok76, trivial, trivial⟩, trivial⟩, ⟨ok60, trivial, trivial⟩⟩⟩⟩, ⟨trivial, ⟨ok10, ⟨ok18, ⟨ok34, ⟨ok66, trivial, trivial⟩, trivial⟩, ⟨ok50, ⟨ok82, trivial, trivial⟩, trivial⟩⟩, ⟨trivial, ⟨ok42, ⟨ok74, trivial, trivial⟩, trivial⟩, ⟨ok58, trivial, trivial⟩⟩⟩, ⟨ok14, ⟨ok22, ⟨ok38, ⟨ok70, trivial, trivial⟩, trivial⟩, ⟨ok54, trivial, trivial⟩⟩, ⟨ok30, ⟨ok46, ⟨ok78, trivial, trivial⟩, trivial⟩, ⟨ok62, trivial, trivial⟩⟩⟩⟩⟩⟩

end Go.Proofs.Ytjikaankdnmabaa
