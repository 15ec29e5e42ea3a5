/- What the law asks for: contracts. No condition. -/
import Derived.Test.YtjikaankdnmabaaWW
namespace Go.Proofs.Ytjikaankdnmabaa
open Go Go.AM
set_option maxRecDepth 100000
set_option maxHeartbeats 0
set_option linter.unusedVariables false
/-! RowFew: what the law asks for, and closed runs of it. -/
def wakesS : List V → Option V
  | [] => some (.bool true)
  | _ => none
def shapes : List (Nat × Nat × Nat) := [(1, 2, 1), (5, 3, 0), (5, 3, 1), (5, 3, 2), (5, 4, 0), (5, 4, 1), (5, 4, 2), (5, 4, 3)]
def dataN (m p : Nat) : List V := (List.range (m - 1)).map fun d => .int .i64 (.ofNat ((p + 1 + d) % m))
def tos : List V := (List.range 4).map fun i => .str (List.replicate 64 i)
def wrE (k : Nat) : List V → Nat → Nat → List (V × V × Nat)
  | [], _, _ => []
  | d :: l, i, n => bif Nat.beq (k / 2 ^ i % 2) 1 then (d, .str (List.replicate 64 i), n) :: wrE k l (i + 1) (n + 1) else wrE k l (i + 1) n
/-- What 'written' makes of some data members, by bits. -/
def cW (m p k : Nat) (mk : Int) : Con := ⟨[.slice 0 0 (m - 1) (m - 1) 1, .agg tos, .int .u8 mk], [.cells (dataN m p) false], .map 2, [.cells (dataN m p) false], [(2, .map (wrE k (dataN m p) 0 0) (wrE k (dataN m p) 0 0).length false)]⟩
def wrS (m p k : Nat) (args : List V) (mm : Mem) : Option (Con × List Nat × List V) :=
  match args with
  | [.slice b 0 n c 1, .agg t, .int .u8 mk] => match mm.get b with
    | some o => bif Nat.beq n (m - 1) && (Nat.beq c (m - 1) && (o.same (.cells (dataN m p) false) && sames t tos)) then some (cW m p k mk, [b], [.int .u8 mk]) else none
    | none => none
  | _ => none
def lay1 (p : Nat) : Lay := .plain (.tuple [.int .i64 (.ofNat p), .bool true])
def lay2 (m p : Nat) : Lay := .new (.slice (m - 1) 1) none (.cells (dataN m p) false)
def lastX (m p k : Nat) : CF Ob := lastCO 17 (wrS m p k) (lastFn 9 wakesS (lastFn 18 fullS (lastO 16 (lay2 m p) (lastO 27 (lay1 p) lastFO))))
def tabX : Nat → Option AFunc := tabPart ft.get fun f => !(Nat.beq f 9 || (Nat.beq f 16 || (Nat.beq f 27 || (Nat.beq f 18 || Nat.beq f 17))))
def runF (l m p : Nat) (rows r mk : Int) (b0 b1 b2 b3 : Bool) (k : Nat) : Ob :=
  callD obA tabX (lastX m p k) 60 Ys.none (.func (.func 4) [] []) [.agg [.int .i64 (.ofNat l), .int .i64 (.ofNat m), .int .i64 rows], .int .i64 r, .agg [.bool b0, .bool b1, .bool b2, .bool b3], .int .u8 mk] ⟨0, .leaf⟩ endO
def bit (b i : Nat) : Bool := Nat.beq (b / 2 ^ i % 2) 1
def runsB (l m p : Nat) (rows r mk : Int) (b : Nat) : Ob := allO ((List.range (2 ^ (m - 1))).map fun k => runF l m p rows r mk (bit b 0) (bit b 1) (bit b 2) (bit b 3) k)
def runsL (l m p : Nat) (rows r mk : Int) (bs : List Nat) : Ob := allO (bs.map fun b => runsB l m p rows r mk b)
/-- Where the shape or the row is not right. -/
def layN1 : Lay := .plain (.tuple [.int .i64 0, .bool false])
def layN2 : Lay := .plain .nilslice
def lastN : CF Ob := lastFn 9 wakesS (lastFn 18 fullS (lastO 16 layN2 (lastO 27 layN1 lastFO)))
def tabN : Nat → Option AFunc := tabPart ft.get fun f => !(Nat.beq f 9 || (Nat.beq f 16 || (Nat.beq f 27 || Nat.beq f 18)))
def runN (l m rows r mk : Int) (b0 b1 b2 b3 : Bool) : Ob :=
  callD obA tabN lastN 60 Ys.none (.func (.func 4) [] []) [.agg [.int .i64 l, .int .i64 m, .int .i64 rows], .int .i64 r, .agg [.bool b0, .bool b1, .bool b2, .bool b3], .int .u8 mk] ⟨0, .leaf⟩ endO
abbrev C_2_0 (d0 n : Nat) : Con := ⟨[.slice 0 0 1 1 1, .agg [.str z0, .str z1, .str z2, .str z3], .int .u8 ((n : Nat) : Int)], [.cells [.int .i64 ((d0 : Nat) : Int)] false], .map 2, [.cells [.int .i64 ((d0 : Nat) : Int)] false], [(2, .map [] 0 false)]⟩
abbrev C_2_1 (d0 n : Nat) : Con := ⟨[.slice 0 0 1 1 1, .agg [.str z0, .str z1, .str z2, .str z3], .int .u8 ((n : Nat) : Int)], [.cells [.int .i64 ((d0 : Nat) : Int)] false], .map 2, [.cells [.int .i64 ((d0 : Nat) : Int)] false], [(2, .map [(V.int .i64 ((d0 : Nat) : Int), (V.str z0, 0))] 1 false)]⟩
abbrev C_3_0 (d0 d1 n : Nat) : Con := ⟨[.slice 0 0 2 2 1, .agg [.str z0, .str z1, .str z2, .str z3], .int .u8 ((n : Nat) : Int)], [.cells [.int .i64 ((d0 : Nat) : Int), .int .i64 ((d1 : Nat) : Int)] false], .map 2, [.cells [.int .i64 ((d0 : Nat) : Int), .int .i64 ((d1 : Nat) : Int)] false], [(2, .map [] 0 false)]⟩
abbrev C_3_1 (d0 d1 n : Nat) : Con := ⟨[.slice 0 0 2 2 1, .agg [.str z0, .str z1, .str z2, .str z3], .int .u8 ((n : Nat) : Int)], [.cells [.int .i64 ((d0 : Nat) : Int), .int .i64 ((d1 : Nat) : Int)] false], .map 2, [.cells [.int .i64 ((d0 : Nat) : Int), .int .i64 ((d1 : Nat) : Int)] false], [(2, .map [(V.int .i64 ((d0 : Nat) : Int), (V.str z0, 0))] 1 false)]⟩
abbrev C_3_2 (d0 d1 n : Nat) : Con := ⟨[.slice 0 0 2 2 1, .agg [.str z0, .str z1, .str z2, .str z3], .int .u8 ((n : Nat) : Int)], [.cells [.int .i64 ((d0 : Nat) : Int), .int .i64 ((d1 : Nat) : Int)] false], .map 2, [.cells [.int .i64 ((d0 : Nat) : Int), .int .i64 ((d1 : Nat) : Int)] false], [(2, .map [(V.int .i64 ((d1 : Nat) : Int), (V.str z1, 0))] 1 false)]⟩
abbrev C_3_3 (d0 d1 n : Nat) : Con := ⟨[.slice 0 0 2 2 1, .agg [.str z0, .str z1, .str z2, .str z3], .int .u8 ((n : Nat) : Int)], [.cells [.int .i64 ((d0 : Nat) : Int), .int .i64 ((d1 : Nat) : Int)] false], .map 2, [.cells [.int .i64 ((d0 : Nat) : Int), .int .i64 ((d1 : Nat) : Int)] false], [(2, .map [(V.int .i64 ((d0 : Nat) : Int), (V.str z0, 0)), (V.int .i64 ((d1 : Nat) : Int), (V.str z1, 1))] 2 false)]⟩
abbrev C_4_0 (d0 d1 d2 n : Nat) : Con := ⟨[.slice 0 0 3 3 1, .agg [.str z0, .str z1, .str z2, .str z3], .int .u8 ((n : Nat) : Int)], [.cells [.int .i64 ((d0 : Nat) : Int), .int .i64 ((d1 : Nat) : Int), .int .i64 ((d2 : Nat) : Int)] false], .map 2, [.cells [.int .i64 ((d0 : Nat) : Int), .int .i64 ((d1 : Nat) : Int), .int .i64 ((d2 : Nat) : Int)] false], [(2, .map [] 0 false)]⟩
abbrev C_4_1 (d0 d1 d2 n : Nat) : Con := ⟨[.slice 0 0 3 3 1, .agg [.str z0, .str z1, .str z2, .str z3], .int .u8 ((n : Nat) : Int)], [.cells [.int .i64 ((d0 : Nat) : Int), .int .i64 ((d1 : Nat) : Int), .int .i64 ((d2 : Nat) : Int)] false], .map 2, [.cells [.int .i64 ((d0 : Nat) : Int), .int .i64 ((d1 : Nat) : Int), .int .i64 ((d2 : Nat) : Int)] false], [(2, .map [(V.int .i64 ((d0 : Nat) : Int), (V.str z0, 0))] 1 false)]⟩
abbrev C_4_2 (d0 d1 d2 n : Nat) : Con := ⟨[.slice 0 0 3 3 1, .agg [.str z0, .str z1, .str z2, .str z3], .int .u8 ((n : Nat) : Int)], [.cells [.int .i64 ((d0 : Nat) : Int), .int .i64 ((d1 : Nat) : Int), .int .i64 ((d2 : Nat) : Int)] false], .map 2, [.cells [.int .i64 ((d0 : Nat) : Int), .int .i64 ((d1 : Nat) : Int), .int .i64 ((d2 : Nat) : Int)] false], [(2, .map [(V.int .i64 ((d1 : Nat) : Int), (V.str z1, 0))] 1 false)]⟩
abbrev C_4_3 (d0 d1 d2 n : Nat) : Con := ⟨[.slice 0 0 3 3 1, .agg [.str z0, .str z1, .str z2, .str z3], .int .u8 ((n : Nat) : Int)], [.cells [.int .i64 ((d0 : Nat) : Int), .int .i64 ((d1 : Nat) : Int), .int .i64 ((d2 : Nat) : Int)] false], .map 2, [.cells [.int .i64 ((d0 : Nat) : Int), .int .i64 ((d1 : Nat) : Int), .int .i64 ((d2 : Nat) : Int)] false], [(2, .map [(V.int .i64 ((d0 : Nat) : Int), (V.str z0, 0)), (V.int .i64 ((d1 : Nat) : Int), (V.str z1, 1))] 2 false)]⟩
abbrev C_4_4 (d0 d1 d2 n : Nat) : Con := ⟨[.slice 0 0 3 3 1, .agg [.str z0, .str z1, .str z2, .str z3], .int .u8 ((n : Nat) : Int)], [.cells [.int .i64 ((d0 : Nat) : Int), .int .i64 ((d1 : Nat) : Int), .int .i64 ((d2 : Nat) : Int)] false], .map 2, [.cells [.int .i64 ((d0 : Nat) : Int), .int .i64 ((d1 : Nat) : Int), .int .i64 ((d2 : Nat) : Int)] false], [(2, .map [(V.int .i64 ((d2 : Nat) : Int), (V.str z2, 0))] 1 false)]⟩
abbrev C_4_5 (d0 d1 d2 n : Nat) : Con := ⟨[.slice 0 0 3 3 1, .agg [.str z0, .str z1, .str z2, .str z3], .int .u8 ((n : Nat) : Int)], [.cells [.int .i64 ((d0 : Nat) : Int), .int .i64 ((d1 : Nat) : Int), .int .i64 ((d2 : Nat) : Int)] false], .map 2, [.cells [.int .i64 ((d0 : Nat) : Int), .int .i64 ((d1 : Nat) : Int), .int .i64 ((d2 : Nat) : Int)] false], [(2, .map [(V.int .i64 ((d0 : Nat) : Int), (V.str z0, 0)), (V.int .i64 ((d2 : Nat) : Int), (V.str z2, 1))] 2 false)]⟩
abbrev C_4_6 (d0 d1 d2 n : Nat) : Con := ⟨[.slice 0 0 3 3 1, .agg [.str z0, .str z1, .str z2, .str z3], .int .u8 ((n : Nat) : Int)], [.cells [.int .i64 ((d0 : Nat) : Int), .int .i64 ((d1 : Nat) : Int), .int .i64 ((d2 : Nat) : Int)] false], .map 2, [.cells [.int .i64 ((d0 : Nat) : Int), .int .i64 ((d1 : Nat) : Int), .int .i64 ((d2 : Nat) : Int)] false], [(2, .map [(V.int .i64 ((d1 : Nat) : Int), (V.str z1, 0)), (V.int .i64 ((d2 : Nat) : Int), (V.str z2, 1))] 2 false)]⟩
abbrev C_4_7 (d0 d1 d2 n : Nat) : Con := ⟨[.slice 0 0 3 3 1, .agg [.str z0, .str z1, .str z2, .str z3], .int .u8 ((n : Nat) : Int)], [.cells [.int .i64 ((d0 : Nat) : Int), .int .i64 ((d1 : Nat) : Int), .int .i64 ((d2 : Nat) : Int)] false], .map 2, [.cells [.int .i64 ((d0 : Nat) : Int), .int .i64 ((d1 : Nat) : Int), .int .i64 ((d2 : Nat) : Int)] false], [(2, .map [(V.int .i64 ((d0 : Nat) : Int), (V.str z0, 0)), (V.int .i64 ((d1 : Nat) : Int), (V.str z1, 1)), (V.int .i64 ((d2 : Nat) : Int), (V.str z2, 2))] 3 false)]⟩
theorem fullRun (b : Nat) : joinG ft.get (fun _ _ _ _ => none) 18 [.int .u8 (.ofNat b)] ⟨0, .leaf⟩ = some (.str (List.replicate 64 (b % 256))) := by kernel_rfl
section
variable {P : Program}
variable (hmix : P.follows .mixedOrders = true) (ht : ft.Ok P 1 0)
include hmix ht
theorem fullS_ok : ∀ (ρ : Ren) (args : List V) (args' : List Value) (v : V), fullS args = some v → VRs ρ args args' → Answers P 18 args' v := by
  intro ρ args args' v h ha
  unfold fullS at h
  split at h
  · rename_i b
    cases h
    exact answers_of_join hmix (FT.tabOk ht) (fun v => last_none (A := optA) (optHolds v)) ha rfl (fullRun b)
  · cases h
theorem laW_ok (o18 : FOk P 18 c18) : CFOk P (callD pA (fun _ => none) laW 5) id := callD_sound pHolds hmix (fun _ _ h => by cases h) (lastFn_ok (callable_fok o18) (fullS_ok hmix ht) (last_none (A := pA) pHolds)) 5
theorem conW_2_1 (o17 : FOk P 17 c17) (o18 : FOk P 18 c18) {n : Nat} (hn : n < 256) : ConOk P 17 (cW 2 1 (n % 2) (.ofNat n)) := by
  rcases Nat.mod_two_eq_zero_or_one (n) with q0 | q0
  ·
    rw [show n % 2 = 0 by omega]
    exact (show C_2_0 0 n = cW 2 1 0 (.ofNat n) by kernel_rfl) ▸ conOk_walk hmix o17 (laW_ok hmix ht o18) (wr_2_0 Ys.none 0 n hn q0)
  ·
    rw [show n % 2 = 1 by omega]
    exact (show C_2_1 0 n = cW 2 1 1 (.ofNat n) by kernel_rfl) ▸ conOk_walk hmix o17 (laW_ok hmix ht o18) (wr_2_1 Ys.none 0 n hn q0)
theorem conW_3_0 (o17 : FOk P 17 c17) (o18 : FOk P 18 c18) {n : Nat} (hn : n < 256) : ConOk P 17 (cW 3 0 (n % 4) (.ofNat n)) := by
  rcases Nat.mod_two_eq_zero_or_one (n) with q0 | q0
  ·
    rcases Nat.mod_two_eq_zero_or_one (n / 2) with q1 | q1
    ·
      rw [show n % 4 = 0 by omega]
      exact (show C_3_0 1 2 n = cW 3 0 0 (.ofNat n) by kernel_rfl) ▸ conOk_walk hmix o17 (laW_ok hmix ht o18) (wr_3_0 Ys.none 1 2 n hn q0 q1)
    ·
      rw [show n % 4 = 2 by omega]
      exact (show C_3_2 1 2 n = cW 3 0 2 (.ofNat n) by kernel_rfl) ▸ conOk_walk hmix o17 (laW_ok hmix ht o18) (wr_3_2 Ys.none 1 2 n hn q0 q1)
  ·
    rcases Nat.mod_two_eq_zero_or_one (n / 2) with q1 | q1
    ·
      rw [show n % 4 = 1 by omega]
      exact (show C_3_1 1 2 n = cW 3 0 1 (.ofNat n) by kernel_rfl) ▸ conOk_walk hmix o17 (laW_ok hmix ht o18) (wr_3_1 Ys.none 1 2 n hn q0 q1)
    ·
      rw [show n % 4 = 3 by omega]
      exact (show C_3_3 1 2 n = cW 3 0 3 (.ofNat n) by kernel_rfl) ▸ conOk_walk hmix o17 (laW_ok hmix ht o18) (wr_3_3 Ys.none 1 2 n hn q0 q1 rfl)
theorem conW_3_1 (o17 : FOk P 17 c17) (o18 : FOk P 18 c18) {n : Nat} (hn : n < 256) : ConOk P 17 (cW 3 1 (n % 4) (.ofNat n)) := by
  rcases Nat.mod_two_eq_zero_or_one (n) with q0 | q0
  ·
    rcases Nat.mod_two_eq_zero_or_one (n / 2) with q1 | q1
    ·
      rw [show n % 4 = 0 by omega]
      exact (show C_3_0 2 0 n = cW 3 1 0 (.ofNat n) by kernel_rfl) ▸ conOk_walk hmix o17 (laW_ok hmix ht o18) (wr_3_0 Ys.none 2 0 n hn q0 q1)
    ·
      rw [show n % 4 = 2 by omega]
      exact (show C_3_2 2 0 n = cW 3 1 2 (.ofNat n) by kernel_rfl) ▸ conOk_walk hmix o17 (laW_ok hmix ht o18) (wr_3_2 Ys.none 2 0 n hn q0 q1)
  ·
    rcases Nat.mod_two_eq_zero_or_one (n / 2) with q1 | q1
    ·
      rw [show n % 4 = 1 by omega]
      exact (show C_3_1 2 0 n = cW 3 1 1 (.ofNat n) by kernel_rfl) ▸ conOk_walk hmix o17 (laW_ok hmix ht o18) (wr_3_1 Ys.none 2 0 n hn q0 q1)
    ·
      rw [show n % 4 = 3 by omega]
      exact (show C_3_3 2 0 n = cW 3 1 3 (.ofNat n) by kernel_rfl) ▸ conOk_walk hmix o17 (laW_ok hmix ht o18) (wr_3_3 Ys.none 2 0 n hn q0 q1 rfl)
theorem conW_3_2 (o17 : FOk P 17 c17) (o18 : FOk P 18 c18) {n : Nat} (hn : n < 256) : ConOk P 17 (cW 3 2 (n % 4) (.ofNat n)) := by
  rcases Nat.mod_two_eq_zero_or_one (n) with q0 | q0
  ·
    rcases Nat.mod_two_eq_zero_or_one (n / 2) with q1 | q1
    ·
      rw [show n % 4 = 0 by omega]
      exact (show C_3_0 0 1 n = cW 3 2 0 (.ofNat n) by kernel_rfl) ▸ conOk_walk hmix o17 (laW_ok hmix ht o18) (wr_3_0 Ys.none 0 1 n hn q0 q1)
    ·
      rw [show n % 4 = 2 by omega]
      exact (show C_3_2 0 1 n = cW 3 2 2 (.ofNat n) by kernel_rfl) ▸ conOk_walk hmix o17 (laW_ok hmix ht o18) (wr_3_2 Ys.none 0 1 n hn q0 q1)
  ·
    rcases Nat.mod_two_eq_zero_or_one (n / 2) with q1 | q1
    ·
      rw [show n % 4 = 1 by omega]
      exact (show C_3_1 0 1 n = cW 3 2 1 (.ofNat n) by kernel_rfl) ▸ conOk_walk hmix o17 (laW_ok hmix ht o18) (wr_3_1 Ys.none 0 1 n hn q0 q1)
    ·
      rw [show n % 4 = 3 by omega]
      exact (show C_3_3 0 1 n = cW 3 2 3 (.ofNat n) by kernel_rfl) ▸ conOk_walk hmix o17 (laW_ok hmix ht o18) (wr_3_3 Ys.none 0 1 n hn q0 q1 rfl)
theorem conW_4_0 (o17 : FOk P 17 c17) (o18 : FOk P 18 c18) {n : Nat} (hn : n < 256) : ConOk P 17 (cW 4 0 (n % 8) (.ofNat n)) := by
  rcases Nat.mod_two_eq_zero_or_one (n) with q0 | q0
  ·
    rcases Nat.mod_two_eq_zero_or_one (n / 2) with q1 | q1
    ·
      rcases Nat.mod_two_eq_zero_or_one (n / 4) with q2 | q2
      ·
        rw [show n % 8 = 0 by omega]
        exact (show C_4_0 1 2 3 n = cW 4 0 0 (.ofNat n) by kernel_rfl) ▸ conOk_walk hmix o17 (laW_ok hmix ht o18) (wr_4_0 Ys.none 1 2 3 n hn q0 q1 q2)
      ·
        rw [show n % 8 = 4 by omega]
        exact (show C_4_4 1 2 3 n = cW 4 0 4 (.ofNat n) by kernel_rfl) ▸ conOk_walk hmix o17 (laW_ok hmix ht o18) (wr_4_4 Ys.none 1 2 3 n hn q0 q1 q2)
    ·
      rcases Nat.mod_two_eq_zero_or_one (n / 4) with q2 | q2
      ·
        rw [show n % 8 = 2 by omega]
        exact (show C_4_2 1 2 3 n = cW 4 0 2 (.ofNat n) by kernel_rfl) ▸ conOk_walk hmix o17 (laW_ok hmix ht o18) (wr_4_2 Ys.none 1 2 3 n hn q0 q1 q2)
      ·
        rw [show n % 8 = 6 by omega]
        exact (show C_4_6 1 2 3 n = cW 4 0 6 (.ofNat n) by kernel_rfl) ▸ conOk_walk hmix o17 (laW_ok hmix ht o18) (wr_4_6 Ys.none 1 2 3 n hn q0 q1 q2 rfl)
  ·
    rcases Nat.mod_two_eq_zero_or_one (n / 2) with q1 | q1
    ·
      rcases Nat.mod_two_eq_zero_or_one (n / 4) with q2 | q2
      ·
        rw [show n % 8 = 1 by omega]
        exact (show C_4_1 1 2 3 n = cW 4 0 1 (.ofNat n) by kernel_rfl) ▸ conOk_walk hmix o17 (laW_ok hmix ht o18) (wr_4_1 Ys.none 1 2 3 n hn q0 q1 q2)
      ·
        rw [show n % 8 = 5 by omega]
        exact (show C_4_5 1 2 3 n = cW 4 0 5 (.ofNat n) by kernel_rfl) ▸ conOk_walk hmix o17 (laW_ok hmix ht o18) (wr_4_5 Ys.none 1 2 3 n hn q0 q1 q2 rfl)
    ·
      rcases Nat.mod_two_eq_zero_or_one (n / 4) with q2 | q2
      ·
        rw [show n % 8 = 3 by omega]
        exact (show C_4_3 1 2 3 n = cW 4 0 3 (.ofNat n) by kernel_rfl) ▸ conOk_walk hmix o17 (laW_ok hmix ht o18) (wr_4_3 Ys.none 1 2 3 n hn q0 q1 q2 rfl)
      ·
        rw [show n % 8 = 7 by omega]
        exact (show C_4_7 1 2 3 n = cW 4 0 7 (.ofNat n) by kernel_rfl) ▸ conOk_walk hmix o17 (laW_ok hmix ht o18) (wr_4_7 Ys.none 1 2 3 n hn q0 q1 q2 rfl rfl)
theorem conW_4_1 (o17 : FOk P 17 c17) (o18 : FOk P 18 c18) {n : Nat} (hn : n < 256) : ConOk P 17 (cW 4 1 (n % 8) (.ofNat n)) := by
  rcases Nat.mod_two_eq_zero_or_one (n) with q0 | q0
  ·
    rcases Nat.mod_two_eq_zero_or_one (n / 2) with q1 | q1
    ·
      rcases Nat.mod_two_eq_zero_or_one (n / 4) with q2 | q2
      ·
        rw [show n % 8 = 0 by omega]
        exact (show C_4_0 2 3 0 n = cW 4 1 0 (.ofNat n) by kernel_rfl) ▸ conOk_walk hmix o17 (laW_ok hmix ht o18) (wr_4_0 Ys.none 2 3 0 n hn q0 q1 q2)
      ·
        rw [show n % 8 = 4 by omega]
        exact (show C_4_4 2 3 0 n = cW 4 1 4 (.ofNat n) by kernel_rfl) ▸ conOk_walk hmix o17 (laW_ok hmix ht o18) (wr_4_4 Ys.none 2 3 0 n hn q0 q1 q2)
    ·
      rcases Nat.mod_two_eq_zero_or_one (n / 4) with q2 | q2
      ·
        rw [show n % 8 = 2 by omega]
        exact (show C_4_2 2 3 0 n = cW 4 1 2 (.ofNat n) by kernel_rfl) ▸ conOk_walk hmix o17 (laW_ok hmix ht o18) (wr_4_2 Ys.none 2 3 0 n hn q0 q1 q2)
      ·
        rw [show n % 8 = 6 by omega]
        exact (show C_4_6 2 3 0 n = cW 4 1 6 (.ofNat n) by kernel_rfl) ▸ conOk_walk hmix o17 (laW_ok hmix ht o18) (wr_4_6 Ys.none 2 3 0 n hn q0 q1 q2 rfl)
  ·
    rcases Nat.mod_two_eq_zero_or_one (n / 2) with q1 | q1
    ·
      rcases Nat.mod_two_eq_zero_or_one (n / 4) with q2 | q2
      ·
        rw [show n % 8 = 1 by omega]
        exact (show C_4_1 2 3 0 n = cW 4 1 1 (.ofNat n) by kernel_rfl) ▸ conOk_walk hmix o17 (laW_ok hmix ht o18) (wr_4_1 Ys.none 2 3 0 n hn q0 q1 q2)
      ·
        rw [show n % 8 = 5 by omega]
        exact (show C_4_5 2 3 0 n = cW 4 1 5 (.ofNat n) by kernel_rfl) ▸ conOk_walk hmix o17 (laW_ok hmix ht o18) (wr_4_5 Ys.none 2 3 0 n hn q0 q1 q2 rfl)
    ·
      rcases Nat.mod_two_eq_zero_or_one (n / 4) with q2 | q2
      ·
        rw [show n % 8 = 3 by omega]
        exact (show C_4_3 2 3 0 n = cW 4 1 3 (.ofNat n) by kernel_rfl) ▸ conOk_walk hmix o17 (laW_ok hmix ht o18) (wr_4_3 Ys.none 2 3 0 n hn q0 q1 q2 rfl)
      ·
        rw [show n % 8 = 7 by omega]
        exact (show C_4_7 2 3 0 n = cW 4 1 7 (.ofNat n) by kernel_rfl) ▸ conOk_walk hmix o17 (laW_ok hmix ht o18) (wr_4_7 Ys.none 2 3 0 n hn q0 q1 q2 rfl rfl)
theorem conW_4_2 (o17 : FOk P 17 c17) (o18 : FOk P 18 c18) {n : Nat} (hn : n < 256) : ConOk P 17 (cW 4 2 (n % 8) (.ofNat n)) := by
  rcases Nat.mod_two_eq_zero_or_one (n) with q0 | q0
  ·
    rcases Nat.mod_two_eq_zero_or_one (n / 2) with q1 | q1
    ·
      rcases Nat.mod_two_eq_zero_or_one (n / 4) with q2 | q2
      ·
        rw [show n % 8 = 0 by omega]
        exact (show C_4_0 3 0 1 n = cW 4 2 0 (.ofNat n) by kernel_rfl) ▸ conOk_walk hmix o17 (laW_ok hmix ht o18) (wr_4_0 Ys.none 3 0 1 n hn q0 q1 q2)
      ·
        rw [show n % 8 = 4 by omega]
        exact (show C_4_4 3 0 1 n = cW 4 2 4 (.ofNat n) by kernel_rfl) ▸ conOk_walk hmix o17 (laW_ok hmix ht o18) (wr_4_4 Ys.none 3 0 1 n hn q0 q1 q2)
    ·
      rcases Nat.mod_two_eq_zero_or_one (n / 4) with q2 | q2
      ·
        rw [show n % 8 = 2 by omega]
        exact (show C_4_2 3 0 1 n = cW 4 2 2 (.ofNat n) by kernel_rfl) ▸ conOk_walk hmix o17 (laW_ok hmix ht o18) (wr_4_2 Ys.none 3 0 1 n hn q0 q1 q2)
      ·
        rw [show n % 8 = 6 by omega]
        exact (show C_4_6 3 0 1 n = cW 4 2 6 (.ofNat n) by kernel_rfl) ▸ conOk_walk hmix o17 (laW_ok hmix ht o18) (wr_4_6 Ys.none 3 0 1 n hn q0 q1 q2 rfl)
  ·
    rcases Nat.mod_two_eq_zero_or_one (n / 2) with q1 | q1
    ·
      rcases Nat.mod_two_eq_zero_or_one (n / 4) with q2 | q2
      ·
        rw [show n % 8 = 1 by omega]
        exact (show C_4_1 3 0 1 n = cW 4 2 1 (.ofNat n) by kernel_rfl) ▸ conOk_walk hmix o17 (laW_ok hmix ht o18) (wr_4_1 Ys.none 3 0 1 n hn q0 q1 q2)
      ·
        rw [show n % 8 = 5 by omega]
        exact (show C_4_5 3 0 1 n = cW 4 2 5 (.ofNat n) by kernel_rfl) ▸ conOk_walk hmix o17 (laW_ok hmix ht o18) (wr_4_5 Ys.none 3 0 1 n hn q0 q1 q2 rfl)
    ·
      rcases Nat.mod_two_eq_zero_or_one (n / 4) with q2 | q2
      ·
        rw [show n % 8 = 3 by omega]
        exact (show C_4_3 3 0 1 n = cW 4 2 3 (.ofNat n) by kernel_rfl) ▸ conOk_walk hmix o17 (laW_ok hmix ht o18) (wr_4_3 Ys.none 3 0 1 n hn q0 q1 q2 rfl)
      ·
        rw [show n % 8 = 7 by omega]
        exact (show C_4_7 3 0 1 n = cW 4 2 7 (.ofNat n) by kernel_rfl) ▸ conOk_walk hmix o17 (laW_ok hmix ht o18) (wr_4_7 Ys.none 3 0 1 n hn q0 q1 q2 rfl rfl)
theorem conW_4_3 (o17 : FOk P 17 c17) (o18 : FOk P 18 c18) {n : Nat} (hn : n < 256) : ConOk P 17 (cW 4 3 (n % 8) (.ofNat n)) := by
  rcases Nat.mod_two_eq_zero_or_one (n) with q0 | q0
  ·
    rcases Nat.mod_two_eq_zero_or_one (n / 2) with q1 | q1
    ·
      rcases Nat.mod_two_eq_zero_or_one (n / 4) with q2 | q2
      ·
        rw [show n % 8 = 0 by omega]
        exact (show C_4_0 0 1 2 n = cW 4 3 0 (.ofNat n) by kernel_rfl) ▸ conOk_walk hmix o17 (laW_ok hmix ht o18) (wr_4_0 Ys.none 0 1 2 n hn q0 q1 q2)
      ·
        rw [show n % 8 = 4 by omega]
        exact (show C_4_4 0 1 2 n = cW 4 3 4 (.ofNat n) by kernel_rfl) ▸ conOk_walk hmix o17 (laW_ok hmix ht o18) (wr_4_4 Ys.none 0 1 2 n hn q0 q1 q2)
    ·
      rcases Nat.mod_two_eq_zero_or_one (n / 4) with q2 | q2
      ·
        rw [show n % 8 = 2 by omega]
        exact (show C_4_2 0 1 2 n = cW 4 3 2 (.ofNat n) by kernel_rfl) ▸ conOk_walk hmix o17 (laW_ok hmix ht o18) (wr_4_2 Ys.none 0 1 2 n hn q0 q1 q2)
      ·
        rw [show n % 8 = 6 by omega]
        exact (show C_4_6 0 1 2 n = cW 4 3 6 (.ofNat n) by kernel_rfl) ▸ conOk_walk hmix o17 (laW_ok hmix ht o18) (wr_4_6 Ys.none 0 1 2 n hn q0 q1 q2 rfl)
  ·
    rcases Nat.mod_two_eq_zero_or_one (n / 2) with q1 | q1
    ·
      rcases Nat.mod_two_eq_zero_or_one (n / 4) with q2 | q2
      ·
        rw [show n % 8 = 1 by omega]
        exact (show C_4_1 0 1 2 n = cW 4 3 1 (.ofNat n) by kernel_rfl) ▸ conOk_walk hmix o17 (laW_ok hmix ht o18) (wr_4_1 Ys.none 0 1 2 n hn q0 q1 q2)
      ·
        rw [show n % 8 = 5 by omega]
        exact (show C_4_5 0 1 2 n = cW 4 3 5 (.ofNat n) by kernel_rfl) ▸ conOk_walk hmix o17 (laW_ok hmix ht o18) (wr_4_5 Ys.none 0 1 2 n hn q0 q1 q2 rfl)
    ·
      rcases Nat.mod_two_eq_zero_or_one (n / 4) with q2 | q2
      ·
        rw [show n % 8 = 3 by omega]
        exact (show C_4_3 0 1 2 n = cW 4 3 3 (.ofNat n) by kernel_rfl) ▸ conOk_walk hmix o17 (laW_ok hmix ht o18) (wr_4_3 Ys.none 0 1 2 n hn q0 q1 q2 rfl)
      ·
        rw [show n % 8 = 7 by omega]
        exact (show C_4_7 0 1 2 n = cW 4 3 7 (.ofNat n) by kernel_rfl) ▸ conOk_walk hmix o17 (laW_ok hmix ht o18) (wr_4_7 Ys.none 0 1 2 n hn q0 q1 q2 rfl rfl)
end
theorem rens_ints (σ : Nat → Nat) (g : Nat → Int) : ∀ l : List Nat, rens σ (l.map fun d => V.int .i64 (g d)) = l.map fun d => V.int .i64 (g d)
  | [] => rfl
  | x :: l => by simp only [List.map_cons, rens, V.ren, rens_ints σ g l]
theorem wfAll (mk : Int) : (shapes.all fun s => (List.range 8).all fun k => (cW s.2.1 s.2.2 k mk).wf) = true := by kernel_rfl
theorem shape_cases {q : Nat × Nat × Nat → Prop} (h1 : q (1, 2, 1)) (h2 : q (5, 3, 0)) (h3 : q (5, 3, 1)) (h4 : q (5, 3, 2)) (h5 : q (5, 4, 0)) (h6 : q (5, 4, 1)) (h7 : q (5, 4, 2)) (h8 : q (5, 4, 3)) : ∀ s ∈ shapes, q s := by
  intro s h
  simp only [shapes, List.mem_cons, List.not_mem_nil, or_false] at h
  rcases h with rfl | rfl | rfl | rfl | rfl | rfl | rfl | rfl <;> assumption
theorem nlt_of {s : Nat × Nat × Nat} (h : s ∈ shapes) (n : Nat) : n % 2 ^ (s.2.1 - 1) < 8 := by
  have hm : s.2.1 ≤ 4 := shape_cases (q := fun s => s.2.1 ≤ 4) (by decide) (by decide) (by decide) (by decide) (by decide) (by decide) (by decide) (by decide) s h
  have h1 : 2 ^ (s.2.1 - 1) ≤ 2 ^ 3 := Nat.pow_le_pow_right (by decide) (by omega)
  have h2 := Nat.mod_lt n (show 2 ^ (s.2.1 - 1) > 0 from Nat.two_pow_pos _)
  omega
theorem wakesS_ok {P : Program} (hw : ∀ w, Calls P 9 #[] w fun e w' => e = .returned (.bool true) ∧ Stays w w') : ∀ (ρ : Ren) (args : List V) (args' : List Value) (v : V), wakesS args = some v → VRs ρ args args' → Answers P 9 args' v := by
  intro ρ args args' v h ha w
  unfold wakesS at h
  split at h
  · cases h
    cases ha
    exact (hw w).mono fun e w' ⟨he, hs⟩ => ⟨_, he, fun _ => .bool true, hs⟩
  · cases h
section
variable {P : Program}
variable (hmix : P.follows .mixedOrders = true) (ht : ft.Ok P 1 0)
include hmix ht
theorem conW (o17 : FOk P 17 c17) (o18 : FOk P 18 c18) {n : Nat} (hn : n < 256) : ∀ s ∈ shapes, ConOk P 17 (cW s.2.1 s.2.2 (n % 2 ^ (s.2.1 - 1)) (.ofNat n)) :=
  shape_cases (conW_2_1 hmix ht o17 o18 hn) (conW_3_0 hmix ht o17 o18 hn) (conW_3_1 hmix ht o17 o18 hn) (conW_3_2 hmix ht o17 o18 hn) (conW_4_0 hmix ht o17 o18 hn) (conW_4_1 hmix ht o17 o18 hn) (conW_4_2 hmix ht o17 o18 hn) (conW_4_3 hmix ht o17 o18 hn)
theorem wrS_ok (o17 : FOk P 17 c17) (o18 : FOk P 18 c18) {s : Nat × Nat × Nat} (hs : s ∈ shapes) {n : Nat} (hn : n < 256) :
    ∀ args m C l x, wrS s.2.1 s.2.2 (n % 2 ^ (s.2.1 - 1)) args m = some (C, l, x) → x = [.int .u8 (.ofNat n)] → ConAt C (nthD l) args m ∧ ConOk P 17 C := by
  intro args m C l x h hx
  unfold wrS at h
  split at h
  · rename_i b k c t mk
    split at h
    · rename_i o ho
      obtain ⟨h1, h2⟩ := bif_some h
      simp only [Option.some.injEq, Prod.mk.injEq] at h2
      obtain ⟨rfl, rfl, rfl⟩ := h2
      simp only [Bool.and_eq_true] at h1
      obtain ⟨e1, e2, e3, e4⟩ := h1
      have e1 := Nat.eq_of_beq_eq_true e1
      have e2 := Nat.eq_of_beq_eq_true e2
      have e4 := sames_eq _ _ e4
      have e3 := AObj.same_eq e3
      simp only [List.cons.injEq, V.int.injEq, true_and, and_true] at hx
      subst e1; subst e2; subst e4; subst e3; subst hx
      have hk := nlt_of hs n
      have hwf := List.all_eq_true.1 (List.all_eq_true.1 (wfAll (.ofNat n)) s hs) _ (List.mem_range.2 hk)
      refine ⟨conAt_of hwf rfl rfl ⟨?_, trivial⟩, conW hmix ht o17 o18 hn s hs⟩
      show m.get b = some (.cells (rens (nthD [b]) (dataN s.2.1 s.2.2)) false)
      rw [ho]
      unfold dataN
      rw [rens_ints]
    · cases h
  · cases h
theorem lastX_ok (hw : ∀ w, Calls P 9 #[] w fun e w' => e = .returned (.bool true) ∧ Stays w w') (o17 : FOk P 17 c17) (o18 : FOk P 18 c18) (o9 : FOk P 9 c9) (o16 : FOk P 16 c16) (o27 : FOk P 27 c27) (o47 : FOk P 47 c47) (o61 : FOk P 61 c61)
    {s : Nat × Nat × Nat} (hs : s ∈ shapes) {n : Nat} (hn : n < 256) {rows r : Int} (ho : roB (.ofNat s.1) (.ofNat s.2.1) rows r = true) (hp : pz (.ofNat s.1) (.ofNat s.2.1) rows r = .ofNat s.2.2) :
    LastOk P (lastX s.2.1 s.2.2 (n % 2 ^ (s.2.1 - 1))) (obH (fun x => x = [geo (.ofNat s.1) (.ofNat s.2.1) rows, .int .i64 r]) (fun y => y = [.int .u8 (.ofNat n)])) := by
  refine lastCO_ok (callable_fok o17) (wrS_ok hmix ht o17 o18 hs hn) (lastFn_ok (callable_fok o9) (wakesS_ok hw) (lastFn_ok (callable_fok o18) (fullS_ok hmix ht) (lastO_ok (callable_fok o16) (fun ρ args args' hx ha => ?_) (lastO_ok (callable_fok o27) (fun ρ args args' hx ha => ?_) lastFO_ok))))
  · subst hx
    have h1 := data_ans hmix o61 o47 o27 o16 ho ha
    rw [hp] at h1
    have e : Lay.new (.slice (Int.ofNat s.2.1 - 1).toNat 1) none (.cells (dataF (.ofNat s.2.1) (.ofNat s.2.2)) false) = lay2 s.2.1 s.2.2 := 
      shape_cases (q := fun s => Lay.new (.slice (Int.ofNat s.2.1 - 1).toNat 1) none (.cells (dataF (.ofNat s.2.1) (.ofNat s.2.2)) false) = lay2 s.2.1 s.2.2) (by kernel_rfl) (by kernel_rfl) (by kernel_rfl) (by kernel_rfl) (by kernel_rfl) (by kernel_rfl) (by kernel_rfl) (by kernel_rfl) s hs
    rw [← e]
    exact ⟨by show (true && (!false && plains (dataF _ _))) = true; rw [plain_dataF]; rfl, h1⟩
  · subst hx
    have h1 := par_ans hmix o61 o47 o27 _ _ _ _ ha
    rw [hp, ho] at h1
    exact ⟨rfl, fun w => (h1 w).mono fun e w' ⟨v', he, hv, hs⟩ => ⟨v', he, hs, hv⟩⟩
theorem lastN_ok (hw : ∀ w, Calls P 9 #[] w fun e w' => e = .returned (.bool true) ∧ Stays w w') (o18 : FOk P 18 c18) (o9 : FOk P 9 c9) (o16 : FOk P 16 c16) (o27 : FOk P 27 c27) (o47 : FOk P 47 c47) (o61 : FOk P 61 c61)
    {l m rows r : Int} (ho : roB l m rows r = false) {y : List V} :
    LastOk P lastN (obH (fun x => x = [geo l m rows, .int .i64 r]) (fun b => b = y)) := by
  refine lastFn_ok (callable_fok o9) (wakesS_ok hw) (lastFn_ok (callable_fok o18) (fullS_ok hmix ht) (lastO_ok (callable_fok o16) (fun ρ args args' hx ha => ?_) (lastO_ok (callable_fok o27) (fun ρ args args' hx ha => ?_) lastFO_ok)))
  · subst hx
    exact ⟨rfl, data_nil hmix o61 o47 o27 o16 ho ha⟩
  · subst hx
    have h1 := par_ans hmix o61 o47 o27 _ _ _ _ ha
    rw [pz_0 ho, ho] at h1
    exact ⟨rfl, fun w => (h1 w).mono fun e w' ⟨v', he, hv, hs⟩ => ⟨v', he, hs, hv⟩⟩
omit hmix in
theorem tabX_ok : TabOk P tabX := tabPart_ok (FT.tabOk ht) _
omit hmix in
theorem tabN_ok : TabOk P tabN := tabPart_ok (FT.tabOk ht) _
end
theorem runN_eq (l m rows r mk : Int) (b0 b1 b2 b3 : Bool) : runN l m rows r mk b0 b1 b2 b3 = .ok (List.replicate 2 [geo l m rows, .int .i64 r]) (List.replicate 0 [.int .u8 mk]) := by kernel_rfl
theorem bit_of (b0 b1 b2 b3 : Bool) : ∃ b, b < 16 ∧ bit b 0 = b0 ∧ bit b 1 = b1 ∧ bit b 2 = b2 ∧ bit b 3 = b3 := by
  cases b0 <;> cases b1 <;> cases b2 <;> cases b3
  · exact ⟨0, by decide, rfl, rfl, rfl, rfl⟩
  · exact ⟨8, by decide, rfl, rfl, rfl, rfl⟩
  · exact ⟨4, by decide, rfl, rfl, rfl, rfl⟩
  · exact ⟨12, by decide, rfl, rfl, rfl, rfl⟩
  · exact ⟨2, by decide, rfl, rfl, rfl, rfl⟩
  · exact ⟨10, by decide, rfl, rfl, rfl, rfl⟩
  · exact ⟨6, by decide, rfl, rfl, rfl, rfl⟩
  · exact ⟨14, by decide, rfl, rfl, rfl, rfl⟩
  · exact ⟨1, by decide, rfl, rfl, rfl, rfl⟩
  · exact ⟨9, by decide, rfl, rfl, rfl, rfl⟩
  · exact ⟨5, by decide, rfl, rfl, rfl, rfl⟩
  · exact ⟨13, by decide, rfl, rfl, rfl, rfl⟩
  · exact ⟨3, by decide, rfl, rfl, rfl, rfl⟩
  · exact ⟨11, by decide, rfl, rfl, rfl, rfl⟩
  · exact ⟨7, by decide, rfl, rfl, rfl, rfl⟩
  · exact ⟨15, by decide, rfl, rfl, rfl, rfl⟩
/-- A run out of those that are done at once. -/
theorem runs_one {l m p : Nat} {rows r mk : Int} {p1 q1 : List V → Prop} {bs : List Nat} (h : obH p1 q1 (runsL l m p rows r mk bs)) {b : Nat} (hb : b ∈ bs) {k : Nat} (hk : k < 2 ^ (m - 1)) : obH p1 q1 (runF l m p rows r mk (bit b 0) (bit b 1) (bit b 2) (bit b 3) k) := by
  have h1 := allO_mem h _ (List.mem_map_of_mem hb)
  exact allO_mem h1 _ (List.mem_map_of_mem (List.mem_range.2 hk))

end Go.Proofs.Ytjikaankdnmabaa
