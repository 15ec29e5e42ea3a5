/- The law's beginning, by a run. No condition. -/
import Derived.Test.YtjekgdkaejgpdaaGreatOJ
import Derived.Test.YtjekgdkaejgpdaaGreatAM57
import Derived.Test.YtjekgdkaejgpdaaGreatAM34
namespace Go.Proofs.YtjekgdkaejgpdaaGreat
open Go Go.AM
set_option maxRecDepth 100000
set_option maxHeartbeats 4000000
set_option linter.unusedVariables false
set_option linter.unusedSectionVars false
abbrev cfR : Ys Prop → CF Prop := zAt pA (without ft.get 25) (lastM pA (without ft.get 25) (zI1 25 la0) 30) 60
abbrev z64 : List Nat := Go.AM.repL [0] 64
def xR (sh S : Nat) : List V := .ptr sh 0 :: .ptr S 0 :: .str z64 :: .str z64 :: .str z64 :: .str z64 :: .str z64 :: .str z64 :: .str z64 :: .str z64 :: .str z64 :: .str z64 :: .str z64 :: .str z64 :: .str z64 :: .str z64 :: .str z64 :: .str z64 :: .nilslice :: []
structure Rdy (sa so : V) (oa oo : zAe) (st : Bool) (S FM OUT AL N : Nat) (T : zAa) (m : Mem) : Prop where
  t : zAG T ((s1, sa) :: (s2, so) :: (s7, .ptr 3 0) :: (s8, .ptr 9 0) :: (s10, .map OUT) :: (s11, .map AL) :: (s12, .nilslice) :: (s13, .int .i64 0) :: [])
  n : m.next = N
  g0 : m.get 0 = some oa
  g1 : m.get 1 = some oo
  c : m.get 3 = some (cB st [] 0 2 .nilslice)
  f : m.get 2 = some (.map [] 0 false)
  x : m.get 9 = some (.cells (xR 7 S) false)
  s : m.get S = some (zA4 st 0 .nilslice FM [] false)
  fm : m.get FM = some (.map [] 0 false)
  o : m.get OUT = some (.map [] 0 false)
  al : m.get AL = some (.map [] 0 false)
  d5 : m.get 5 = some .dead
  d12 : m.get 12 = some .dead
  d17 : m.get 17 = some .dead
def rdyP (sa so : V) (oa oo : zAe) (st : Bool) (S FM OUT AL N : Nat) (T : zAa) (m : Mem) : Prop :=
  T.get s1 = sa ∧ T.get s2 = so ∧ T.get s7 = .ptr 3 0 ∧ T.get s8 = .ptr 9 0 ∧ T.get s10 = .map OUT ∧ T.get s11 = .map AL ∧ T.get s12 = .nilslice ∧ T.get s13 = .int .i64 0 ∧ m.next = N ∧ m.get 0 = some oa ∧ m.get 1 = some oo ∧ m.get 3 = some (cB st [] 0 2 .nilslice) ∧ m.get 2 = some (.map [] 0 false) ∧ m.get 9 = some (.cells (xR 7 S) false) ∧ m.get S = some (zA4 st 0 .nilslice FM [] false) ∧ m.get FM = some (.map [] 0 false) ∧ m.get OUT = some (.map [] 0 false) ∧ m.get AL = some (.map [] 0 false) ∧ m.get 5 = some .dead ∧ m.get 12 = some .dead ∧ m.get 17 = some .dead
theorem rdy_of {sa so : V} {oa oo : zAe} {st : Bool} {S FM OUT AL N : Nat} {T : zAa} {m : Mem} (h : rdyP sa so oa oo st S FM OUT AL N T m) : Rdy sa so oa oo st S FM OUT AL N T m := by
  obtain ⟨a1, a2, a3, a4, a5, a6, a7, a8, b1, b2, b3, b4, b5, b6, b7, b8, b9, c1, c2, c3, c4⟩ := h
  exact ⟨⟨a1, a2, a3, a4, a5, a6, a7, a8, trivial⟩, b1, b2, b3, b4, b5, b6, b7, b8, b9, c1, c2, c3, c4⟩
def rdyQ (sa so : V) (oa oo : zAe) (st : Bool) (S FM OUT AL N : Nat) : Prop :=
  sa = sa ∧ so = so ∧ V.ptr 3 0 = .ptr 3 0 ∧ V.ptr 9 0 = .ptr 9 0 ∧ V.map OUT = .map OUT ∧ V.map AL = .map AL ∧ V.nilslice = .nilslice ∧ V.int .i64 0 = .int .i64 0 ∧ N = N ∧ some oa = some oa ∧ some oo = some oo ∧ some (cB st [] 0 2 .nilslice) = some (cB st [] 0 2 .nilslice) ∧ some (zAe.map [] 0 false) = some (.map [] 0 false) ∧ some (zAe.cells (xR 7 S) false) = some (.cells (xR 7 S) false) ∧ some (zA4 st 0 .nilslice FM [] false) = some (zA4 st 0 .nilslice FM [] false) ∧ some (zAe.map [] 0 false) = some (.map [] 0 false) ∧ some (zAe.map [] 0 false) = some (.map [] 0 false) ∧ some (zAe.map [] 0 false) = some (.map [] 0 false) ∧ some zAe.dead = some .dead ∧ some zAe.dead = some .dead ∧ some zAe.dead = some .dead
theorem rdyQ_ok {sa so : V} {oa oo : zAe} {st : Bool} {S FM OUT AL N : Nat} : rdyQ sa so oa oo st S FM OUT AL N := ⟨rfl, rfl, rfl, rfl, rfl, rfl, rfl, rfl, rfl, rfl, rfl, rfl, rfl, rfl, rfl, rfl, rfl, rfl, rfl, rfl, rfl⟩
theorem castR {p q : Prop} (h : p = q) (x : q) : p := h ▸ x
def preP (T : zAa) (m : Mem) (R : zAa → Mem → Prop) : Prop := runAll cfR Ys.none c3pre T m R
section
theorem pre_t (sa so : V) (oa oo : zAe) (T : zAa) : preP (setS [(s0, .bool true), (s1, sa), (s2, so)] T) (zCc 2 [(0, oa), (1, oo)]) (rdyP sa so oa oo true 179 178 203 204 205) = rdyQ sa so oa oo true 179 178 203 204 205 := by kernel_rfl
theorem pre_f (sa so : V) (oa oo : zAe) (T : zAa) : preP (setS [(s0, .bool false), (s1, sa), (s2, so)] T) (zCc 2 [(0, oa), (1, oo)]) (rdyP sa so oa oo false 131 130 161 162 163) = rdyQ sa so oa oo false 131 130 161 162 163 := by kernel_rfl
end
end Go.Proofs.YtjekgdkaejgpdaaGreat
