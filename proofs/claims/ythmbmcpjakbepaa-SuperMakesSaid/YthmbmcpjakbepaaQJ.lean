/- The law by its cases. No condition. -/
import Derived.Test.YthmbmcpjakbepaaTW
import Derived.Test.YthmbmcpjakbepaaKG
import Derived.Test.YthmbmcpjakbepaaAM53
namespace Go.Proofs.Ythmbmcpjakbepaa
open Go Go.AM
set_option maxRecDepth 100000
set_option maxHeartbeats 4000000
set_option linter.unusedVariables false
set_option linter.unusedSectionVars false
def oW (f0 f1 f2 f3 : Bool) (x0 x1 x2 x3 : Int) : Nat → Int
 | 0 => 0
 | 1 => one0 f0 x0
 | 2 => one0 f0 x0 + one0 f1 x1
 | 3 => one0 f0 x0 + one0 f1 x1 + one0 f2 x2
 | _ => one0 f0 x0 + one0 f1 x1 + one0 f2 x2 + one0 f3 x3
theorem one0_b (f : Bool) (x : Int) : 0 ≤ one0 f x ∧ one0 f x ≤ 1 := by unfold one0; split <;> decide
theorem oW_b (f0 f1 f2 f3 : Bool) (x0 x1 x2 x3 : Int) (i : Nat) : 0 ≤ oW f0 f1 f2 f3 x0 x1 x2 x3 i ∧ oW f0 f1 f2 f3 x0 x1 x2 x3 i ≤ 10 := by
 have h0 := one0_b f0 x0; have h1 := one0_b f1 x1; have h2 := one0_b f2 x2; have h3 := one0_b f3 x3
 unfold oW
 split <;> omega
theorem one0_c {f : Bool} {x : Int} (hf : f = true) (hx : x = 1) : one0 f x = 0 := if_pos ⟨hf, hx⟩
theorem one0_a {f : Bool} {x : Int} (hf : f = false) : one0 f x = 1 := if_neg fun h => by rw [hf] at h; exact absurd h.1 (by decide)
theorem one0_x {f : Bool} {x : Int} (hx : x ≠ 1) : one0 f x = 1 := if_neg fun h => hx h.2
theorem wk_st (Y : Ys Prop) (a m l n r e p x0 x1 x2 x3 c d0 d1 d2 d3 : Int) (f0 f1 f2 f3 : Bool) {o ov x : Int} {f : Bool} (o1 : 0 ≤ o) (o2 : o ≤ 10) (n1 : 2 ≤ n) (n2 : n ≤ 4) (i : Nat) (i4 : i < 4) (hi : ((i : Nat) : Int) < n) (hf : nth (mad a m l n r e p x0 x1 x2 x3 c d0 d1 d2 d3 f0 f1 f2 f3) (16 + i * 1) = some (.bool f)) (hx : nth (mad a m l n r e p x0 x1 x2 x3 c d0 d1 d2 d3 f0 f1 f2 f3) (7 + i * 1) = some (.int .i64 x)) (ue : ov = o + one0 f x)
  (T : Slots) (hT : allS T [(s1, .ptr 0 0), (s2, .bool false), (s3, .int .i64 o), (s12, .int .i64 n), (s13, .int .i64 ((i : Nat) : Int))]) (K : Ex → Slots → Mem → Prop) (hK : ∀ T', allS T' [(s1, .ptr 0 0), (s2, .bool false), (s3, .int .i64 ov), (s12, .int .i64 n), (s13, .int .i64 ((i + 1 : Nat) : Int))] → K .normal T' (memL 1 [(0, .cells (mad a m l n r e p x0 x1 x2 x3 c d0 d1 d2 d3 f0 f1 f2 f3) false)])) :
  code pA (callD pA tb0 la2 5) Y c26l0 T (memL 1 [(0, .cells (mad a m l n r e p x0 x1 x2 x3 c d0 d1 d2 d3 f0 f1 f2 f3) false)]) K := by
 cases f with
 | false =>
  rw [one0_a rfl] at ue
  subst ue
  exact wk_a Y a m l n r e p x0 x1 x2 x3 c d0 d1 d2 d3 f0 f1 f2 f3 o o1 o2 n1 n2 i i4 hi hf T hT K hK
 | true =>
  by_cases h : x = 1
  ·rw [one0_c rfl h] at ue
   obtain rfl : ov = o := by omega
   exact wk_c Y a m l n r e p x0 x1 x2 x3 c d0 d1 d2 d3 f0 f1 f2 f3 ov o1 o2 n1 n2 i i4 hi hf (by rw [hx, h]) T hT K hK
  ·rw [one0_x h] at ue
   subst ue
   exact wk_b Y a m l n r e p x0 x1 x2 x3 c d0 d1 d2 d3 f0 f1 f2 f3 o o1 o2 n1 n2 i i4 hi hf x hx h T hT K hK
theorem wk_run (Y : Ys Prop) (a m l n r e p x0 x1 x2 x3 c d0 d1 d2 d3 : Int) (f0 f1 f2 f3 : Bool) (K : V → Mem → Prop) (hK : ∀ mm, K (.bool (wkS a m l n r e p x0 x1 x2 x3 c f0 f1 f2 f3)) mm) : body1 pA (callD pA tb0 la2 5) Y c26 [.agg (mad a m l n r e p x0 x1 x2 x3 c d0 d1 d2 d3 f0 f1 f2 f3)] ⟨0, .leaf⟩ K := by
 cases g : rightS a m l n r e p x0 x1 x2 x3 c with
 | false => exact wk_n Y a m l n r e p x0 x1 x2 x3 c d0 d1 d2 d3 f0 f1 f2 f3 g K (by rw [wkS_eq, g] at hK; exact hK)
 | true =>
  have hn : n = 2 ∨ n = 3 ∨ n = 4 := by
   rw [rightS_eq, decide_eq_true_eq] at g
   unfold rightP rgP at g
   omega
  rw [wkS_eq, g, Bool.true_and] at hK
  have hb := oW_b f0 f1 f2 f3 x0 x1 x2 x3
  rcases hn with rfl | rfl | rfl
  ·refine wk_2 Y a m l r e p x0 x1 x2 x3 c d0 d1 d2 d3 f0 f1 f2 f3 g (oW f0 f1 f2 f3 x0 x1 x2 x3 2) (loop2 2 (by decide) (fun _ => memL 1 [(0, .cells (mad a m l 2 r e p x0 x1 x2 x3 c d0 d1 d2 d3 f0 f1 f2 f3) false)]) (fun i => [(s1, .ptr 0 0), (s2, .bool false), (s3, .int .i64 (oW f0 f1 f2 f3 x0 x1 x2 x3 i)), (s12, .int .i64 2), (s13, .int .i64 ((i : Nat) : Int))]) ?_ ?_) K (fun mm => by
     have e : outs 2 f0 f1 f2 f3 x0 x1 x2 x3 = oW f0 f1 f2 f3 x0 x1 x2 x3 2 := by unfold outs oW; simp
     rw [← e]; exact hK mm)
   ·intro Y i T hi hT K hK
    match i, hi with
    | 0, _ => exact wk_st Y a m l 2 r e p x0 x1 x2 x3 c d0 d1 d2 d3 f0 f1 f2 f3 (ov := oW f0 f1 f2 f3 x0 x1 x2 x3 1) (hb 0).1 (hb 0).2 (by decide) (by decide) 0 (by decide) (by decide) rfl rfl (by simp only [oW, Int.zero_add]) T hT K hK
    | 1, _ => exact wk_st Y a m l 2 r e p x0 x1 x2 x3 c d0 d1 d2 d3 f0 f1 f2 f3 (ov := oW f0 f1 f2 f3 x0 x1 x2 x3 2) (hb 1).1 (hb 1).2 (by decide) (by decide) 1 (by decide) (by decide) rfl rfl (by simp only [oW, Int.zero_add]) T hT K hK
    | i + 2, hi => omega
   ·intro Y T hT K hK
    exact wkf_2 Y a m l r e p x0 x1 x2 x3 c d0 d1 d2 d3 f0 f1 f2 f3 (oW f0 f1 f2 f3 x0 x1 x2 x3 2) (hb 2).1 (hb 2).2 T hT K hK
  ·refine wk_3 Y a m l r e p x0 x1 x2 x3 c d0 d1 d2 d3 f0 f1 f2 f3 g (oW f0 f1 f2 f3 x0 x1 x2 x3 3) (loop2 3 (by decide) (fun _ => memL 1 [(0, .cells (mad a m l 3 r e p x0 x1 x2 x3 c d0 d1 d2 d3 f0 f1 f2 f3) false)]) (fun i => [(s1, .ptr 0 0), (s2, .bool false), (s3, .int .i64 (oW f0 f1 f2 f3 x0 x1 x2 x3 i)), (s12, .int .i64 3), (s13, .int .i64 ((i : Nat) : Int))]) ?_ ?_) K (fun mm => by
     have e : outs 3 f0 f1 f2 f3 x0 x1 x2 x3 = oW f0 f1 f2 f3 x0 x1 x2 x3 3 := by unfold outs oW; simp
     rw [← e]; exact hK mm)
   ·intro Y i T hi hT K hK
    match i, hi with
    | 0, _ => exact wk_st Y a m l 3 r e p x0 x1 x2 x3 c d0 d1 d2 d3 f0 f1 f2 f3 (ov := oW f0 f1 f2 f3 x0 x1 x2 x3 1) (hb 0).1 (hb 0).2 (by decide) (by decide) 0 (by decide) (by decide) rfl rfl (by simp only [oW, Int.zero_add]) T hT K hK
    | 1, _ => exact wk_st Y a m l 3 r e p x0 x1 x2 x3 c d0 d1 d2 d3 f0 f1 f2 f3 (ov := oW f0 f1 f2 f3 x0 x1 x2 x3 2) (hb 1).1 (hb 1).2 (by decide) (by decide) 1 (by decide) (by decide) rfl rfl (by simp only [oW, Int.zero_add]) T hT K hK
    | 2, _ => exact wk_st Y a m l 3 r e p x0 x1 x2 x3 c d0 d1 d2 d3 f0 f1 f2 f3 (ov := oW f0 f1 f2 f3 x0 x1 x2 x3 3) (hb 2).1 (hb 2).2 (by decide) (by decide) 2 (by decide) (by decide) rfl rfl (by simp only [oW, Int.zero_add]) T hT K hK
    | i + 3, hi => omega
   ·intro Y T hT K hK
    exact wkf_3 Y a m l r e p x0 x1 x2 x3 c d0 d1 d2 d3 f0 f1 f2 f3 (oW f0 f1 f2 f3 x0 x1 x2 x3 3) (hb 3).1 (hb 3).2 T hT K hK
  ·refine wk_4 Y a m l r e p x0 x1 x2 x3 c d0 d1 d2 d3 f0 f1 f2 f3 g (oW f0 f1 f2 f3 x0 x1 x2 x3 4) (loop2 4 (by decide) (fun _ => memL 1 [(0, .cells (mad a m l 4 r e p x0 x1 x2 x3 c d0 d1 d2 d3 f0 f1 f2 f3) false)]) (fun i => [(s1, .ptr 0 0), (s2, .bool false), (s3, .int .i64 (oW f0 f1 f2 f3 x0 x1 x2 x3 i)), (s12, .int .i64 4), (s13, .int .i64 ((i : Nat) : Int))]) ?_ ?_) K (fun mm => by
     have e : outs 4 f0 f1 f2 f3 x0 x1 x2 x3 = oW f0 f1 f2 f3 x0 x1 x2 x3 4 := by unfold outs oW; simp
     rw [← e]; exact hK mm)
   ·intro Y i T hi hT K hK
    match i, hi with
    | 0, _ => exact wk_st Y a m l 4 r e p x0 x1 x2 x3 c d0 d1 d2 d3 f0 f1 f2 f3 (ov := oW f0 f1 f2 f3 x0 x1 x2 x3 1) (hb 0).1 (hb 0).2 (by decide) (by decide) 0 (by decide) (by decide) rfl rfl (by simp only [oW, Int.zero_add]) T hT K hK
    | 1, _ => exact wk_st Y a m l 4 r e p x0 x1 x2 x3 c d0 d1 d2 d3 f0 f1 f2 f3 (ov := oW f0 f1 f2 f3 x0 x1 x2 x3 2) (hb 1).1 (hb 1).2 (by decide) (by decide) 1 (by decide) (by decide) rfl rfl (by simp only [oW, Int.zero_add]) T hT K hK
    | 2, _ => exact wk_st Y a m l 4 r e p x0 x1 x2 x3 c d0 d1 d2 d3 f0 f1 f2 f3 (ov := oW f0 f1 f2 f3 x0 x1 x2 x3 3) (hb 2).1 (hb 2).2 (by decide) (by decide) 2 (by decide) (by decide) rfl rfl (by simp only [oW, Int.zero_add]) T hT K hK
    | 3, _ => exact wk_st Y a m l 4 r e p x0 x1 x2 x3 c d0 d1 d2 d3 f0 f1 f2 f3 (ov := oW f0 f1 f2 f3 x0 x1 x2 x3 4) (hb 3).1 (hb 3).2 (by decide) (by decide) 3 (by decide) (by decide) rfl rfl (by simp only [oW, Int.zero_add]) T hT K hK
    | i + 4, hi => omega
   ·intro Y T hT K hK
    exact wkf_4 Y a m l r e p x0 x1 x2 x3 c d0 d1 d2 d3 f0 f1 f2 f3 (oW f0 f1 f2 f3 x0 x1 x2 x3 4) (hb 4).1 (hb 4).2 T hT K hK
section
variable {P : Program}
variable (hmix : P.follows .mixedOrders = true)
include hmix
theorem s47_ok (o47 : FOk P 47 c47) : ∀ C, S47 C → C.wf = true → ConOk P 47 C := by
 intro C h _
 cases h with | mk l n hl hn s =>
 exact conOk_walkD hmix o47 (callD_sound pHolds hmix tb0_ok la0_ok 5) (say_run _ hl hn s)
theorem ills_ok (o48 : FOk P 48 c48) : LastOk P (lastFn 48 R48 la0) id := lastFn_ok (callable_fok o48) (fun ρ args args' v hv ha => by
 unfold R48 at hv; split at hv
 ·split at hv
  ·rename_i hn; cases hv
   exact answers_of_walk hmix o48 (callD_sound pHolds hmix tb0_ok la0_ok 5) ha rfl rfl (fun K hK => ills_walk _ ⟨_, _, _, _, _, _, _, _, _, _, _, _⟩ hn K hK)
  ·cases hv
 ·cases hv) la0_ok
theorem s40_ok (o40 : FOk P 40 c40) (o47 : FOk P 47 c47) (o48 : FOk P 48 c48) : ∀ C, S40 C → C.wf = true → ConOk P 40 C := by
 intro C h _
 cases h with | mk l n hl hn a b ha hb =>
 exact conOk_walk hmix o40 (callD_sound pHolds hmix tb0_ok (lastC_ok (callable_fok o47) (s47_ok hmix o47) (ills_ok hmix o48)) 5) (ahead_run _ hl hn a b ha hb)
theorem of21_ok (h6 : LastOk P la6 id) (o21 : FOk P 21 c21) : LastOk P (lastFn 21 ofRs la0) id := lastFn_ok (callable_fok o21) (fun ρ args args' v hv ha => by
  rw [ofRs_eq] at hv
  unfold ofR at hv; split at hv
  ·cases hv; exact answers_of_walk hmix o21 (callD_sound pHolds hmix tb0_ok h6 5) ha rfl rfl (fun K hK => zof_r _ _ _ K hK)
  ·cases hv) la0_ok
theorem s25_ok (h6 : LastOk P la6 id) (o21 : FOk P 21 c21) (o25 : FOk P 25 c25) (o40 : FOk P 40 c40) (o47 : FOk P 47 c47) (o48 : FOk P 48 c48) (D : Dk) (X : List V) (n k : Nat) (q : Int) (ok : DkOk D ofRs X n) (hX : ∀ σ, rens σ X = X) (h1 : ∀ i, i < n → D.ok i = true → 1 ≤ (D.sp i).e) : ConOk P 25 ⟨[.slice 0 0 n k 2, .int .i64 q], [.cells X false], makeR D q n, [.cells X false], []⟩ :=
 conOk_walkD hmix o25 (callD_sound pHolds hmix tb0_ok (lastC_ok (callable_fok o40) (s40_ok hmix o40 o47 o48) (of21_ok hmix h6 o21)) 5) (refmake_run _ ok hX h1 k q)
end
def spAt (zs : List Int) (o : Nat) : Sp := ⟨zs.getD o 0, zs.getD (o + 1) 0, zs.getD (o + 2) 0, zs.getD (o + 3) 0, zs.getD (o + 4) 0, zs.getD (o + 5) 0, zs.getD (o + 6) 0, zs.getD (o + 7) 0, zs.getD (o + 8) 0, zs.getD (o + 9) 0, zs.getD (o + 10) 0, zs.getD (o + 11) 0⟩
theorem drop_iV : ∀ (k : Nat) (l : List Int), dropN k (iV l) = iV (l.drop k)
 | 0, _ => rfl
 | k + 1, [] => rfl
 | k + 1, _ :: l => drop_iV k l
theorem load_iV {zs : List Int} {o : Nat} (h : o + 12 ≤ zs.length) : loadV 12 o (iV zs) = some (spAt zs o).v := by
 have h1 : ∀ k, zs.getD (o + k) 0 = (zs.drop o).getD k 0 := fun k => by rw [List.getD_eq_getElem?_getD, List.getD_eq_getElem?_getD, List.getElem?_drop]
 unfold loadV spAt
 rw [drop_iV, show zs.getD o 0 = (zs.drop o).getD 0 0 from h1 0]
 simp only [h1]
 have hl : 12 ≤ (zs.drop o).length := by rw [List.length_drop]; omega
 match zs.drop o, hl with
 | _ :: _ :: _ :: _ :: _ :: _ :: _ :: _ :: _ :: _ :: _ :: _ :: l, _ => rfl
theorem bels_stV (p : Nat → Bool) : ∀ l : List (List Nat), bels p (stV l) = true
 | [] => rfl
 | x :: l => by have := bels_stV p l; simp only [stV, List.map_cons, bels, V.bel, Bool.true_and] at *; exact this
theorem stV_app (a b : List (List Nat)) : stV (a ++ b) = stV a ++ stV b := List.map_append
theorem stV_len (a : List (List Nat)) : (stV a).length = a.length := List.length_map _
theorem grow_stV {ls : List (List Nat)} {z o : List Nat} {w : Nat} (h : ls.length = 2 * w) (hl : w ≤ 192) : growV 2 32 1 ((.str z) :: (.str o) :: []) 0 w w (stV ls) = some (stV (ls ++ [z, o])) := by
 have h1 : Nat.ble (w + 1) w = false := by
  cases e : Nat.ble (w + 1) w with
  | false => rfl
  | true => have := nble_iff.1 e; omega
 have h2 : small (w + 1) 32 = true := small_iff.2 (by omega)
 unfold growV
 rw [h1, h2, show takeN (w * 2) (dropN 0 (stV ls)) = some (stV ls) from takeN_all (stV ls) _ (by rw [stV_len, h, Nat.mul_comm]), stV_app]
 rfl
theorem kT {σ : Nat → Nat} {l : List (List Nat)} : some (AObj.cells (stV l) false) = some ((AObj.cells (stV l) false).ren σ) := congrArg (fun c => some (AObj.cells c false)) (rens_stV _ _).symm
theorem kZ {σ : Nat → Nat} {l : List Int} {b : Bool} : some (AObj.cells (iV l) b) = some ((AObj.cells (iV l) b).ren σ) := congrArg (fun c => some (AObj.cells c b)) (rens_iV _ _).symm
noncomputable def secL (zs : List Int) : Nat → List (List Nat)
 | 0 => []
 | i + 1 => secL zs i ++ [secP (spAt zs (i * 24 + 0 * 12)), secP (spAt zs (i * 24 + 1 * 12))]
theorem secL_len (zs : List Int) : ∀ i, (secL zs i).length = 2 * i
 | 0 => rfl
 | i + 1 => by rw [secL, List.length_append, secL_len zs i]; simp only [List.length_cons, List.length_nil]; omega
def slS (b i : Nat) : V := match i with
 | 0 => .nilslice
 | j + 1 => .slice b 0 (j + 1) (j + 1) 2
noncomputable def obS (zs : List Int) (i : Nat) : AObj := match i with
 | 0 => .dead
 | j + 1 => .cells (stV (secL zs (j + 1))) false
abbrev sM (nn k : Nat) (w q : Int) (tx : List Nat) (v : V) (i : Nat) : List (Sl × V) := [(s0, .slice 0 0 nn k 24), (s1, .int .i64 w), (s2, .str tx), (s3, .int .i64 q), (s8, .bool false), (s9, v), (s10, .int .i64 ((i : Nat) : Int))]
theorem loopM (zs : List Int) {nn : Nat} (hz : zs.length = nn * 24) (k : Nat) (w q : Int) (tx : List Nat) (hn : nn ≤ 10) (h1 : 1 ≤ nn) :
  LoopOkD (callD pA tbG la9m 5) 1 c9l0 (.exit 0) (memL 1 [(0, .cells (iV zs) true)]) (sM nn k w q tx .nilslice 0) (fun _ => True) (fun _ => memL 2 [(0, .cells (iV zs) true), (1, .cells (stV (secL zs nn)) false)]) (fun _ => sM nn k w q tx (.slice 1 0 nn nn 2) nn) := by
 have key := loopR (cfy := callD pA tbG la9m 5) (b := c9l0) (e := .exit 0) (B := 1) (by intro h; cases h) nn (Nat.lt_of_le_of_lt hn (by decide)) (memL 1 [(0, .cells (iV zs) true)]) (sM nn k w q tx .nilslice 0) [0, 1] (fun i => memL 2 [(0, .cells (iV zs) true), (1, obS zs i)])
  (fun i => memL 4 [(0, .cells (iV zs) true), (1, .dead), (2, .cells ((.str (secP (spAt zs (i * 24 + 0 * 12)))) :: (.str (secP (spAt zs (i * 24 + 1 * 12)))) :: []) false), (3, .cells (stV (secL zs (i + 1))) false)])
  (fun i => sM nn k w q tx (slS 1 i) i) (fun i => sM nn k w q tx (slS 3 (i + 1)) (i + 1)) (fun _ => [0, 3]) (memL 2 [(0, .cells (iV zs) true), (1, obS zs nn)]) (sM nn k w q tx (slS 1 nn) nn) ?_ rfl (fun i hi => ?_) (fun i hi => ?_) ?_ ?_
 ·match nn, h1 with
  | j + 1, _ => exact key
 ·exact renM_of (objs := [.cells (iV zs) true, .dead]) rfl (by decide) rfl ⟨.inr (.inr ⟨kZ, bels_iV _ _⟩), .inl rfl, trivial⟩
 ·exact renM_of (objs := [.cells (iV zs) true, obS zs (i + 1)]) rfl (by decide) rfl ⟨.inr (.inr ⟨kZ, bels_iV _ _⟩), .inr (.inr ⟨kT, bels_stV _ _⟩), trivial⟩
 ·simp only [backS, List.map_cons, List.map_nil]
  rw [show slS 3 (i + 1) = .slice 3 0 (i + 1) (i + 1) 2 from rfl, sliceN_back (b := 3) (b' := 1) rfl rfl, sliceN_back (b := 0) (b' := 0) rfl rfl]
  rfl
 ·intro Y i T hi hT K hK
  have hA := load_iV (zs := zs) (o := i * 24 + 0 * 12) (by omega)
  have hB := load_iV (zs := zs) (o := i * 24 + 1 * 12) (by omega)
  have hl := secL_len zs i
  match i with
  | 0 => exact mq3_a Y (iV zs) w q tx nn k hn h1 0 hi _ _ hA hB T hT K hK
  | j + 1 =>
   have hg := grow_stV (z := secP (spAt zs ((j + 1) * 24 + 0 * 12))) (o := secP (spAt zs ((j + 1) * 24 + 1 * 12))) hl (by omega)
   exact mq3_s Y (iV zs) w q tx nn k hn h1 (j + 1) hi _ _ hA hB _ _ hg T hT K hK
 ·intro Y T hT K hK
  exact mq3_e Y (iV zs) w q tx nn k hn h1 _ _ T hT K hK
theorem put_str (tx : List Nat) : ∀ {l : List (List Nat)} {i : Nat}, i < l.length → putAt [.str tx] i (stV l) = some (stV (l.set i tx))
 | [], i, h => absurd h (Nat.not_lt_zero _)
 | x :: l, 0, h => rfl
 | x :: l, i + 1, h => by
  have h1 := put_str tx (l := l) (i := i) (by simpa using h)
  show (match putAt [.str tx] i (stV l) with | some r => some (V.str x :: r) | none => none) = _
  rw [h1]; rfl
theorem load2 : ∀ {l : List (List Nat)} {i n : Nat}, l.length = 2 * n → i < n → loadV 2 (i * 2) (stV l) = some (.agg [.str (l.getD (2 * i) []), .str (l.getD (2 * i + 1) [])])
 | [], i, n, h, hi => by simp at h; omega
 | [x], i, n, h, hi => by simp at h; omega
 | x :: y :: l, 0, n, h, hi => rfl
 | x :: y :: l, i + 1, n, h, hi => by
  have h1 := load2 (l := l) (i := i) (n := n - 1) (by simp at h; omega) (by omega)
  rw [show 2 * (i + 1) = 2 * i + 1 + 1 by omega, show (i + 1) * 2 = i * 2 + 1 + 1 by omega]
  exact h1
theorem read_right {t : List Nat} (h : errR t = 0) : rightS (fld t 4) (fld t 8) (fld t 12) (fld t 16) (fld t 20) (fld t 24) (fld t 28) (fld t 36) (fld t 40) (fld t 44) (fld t 48) (fld t 32) = true := by
 have e : errV t = 0 := by rw [← errR_eq]; exact h
 simp only [fld_eq, if_pos e]
 unfold errV at e
 split at e
 ·split at e
  ·split at e
   ·rename_i hh; exact hh.1
   ·exact absurd e (by decide)
  ·exact absurd e (by decide)
 ·exact absurd e (by decide)
noncomputable def spO (z o : List Nat) : Sp := ⟨ofl z o 4, ofl z o 8, ofl z o 12, ofl z o 16, ofl z o 20, ofl z o 24, ofl z o 28, ofl z o 36, ofl z o 40, ofl z o 44, ofl z o 48, ofl z o 32⟩
theorem of_rightS {z o : List Nat} (h : okO z o = true) : rightS (ofl z o 4) (ofl z o 8) (ofl z o 12) (ofl z o 16) (ofl z o 20) (ofl z o 24) (ofl z o 28) (ofl z o 36) (ofl z o 40) (ofl z o 44) (ofl z o 48) (ofl z o 32) = true := by
 rw [okO_eq, decide_eq_true_eq] at h
 simp only [ofl_eq]
 by_cases h1 : pickV z o = 1
 ·simp only [if_pos h1]
  refine read_right ?_
  unfold pickV at h1
  split at h1
  ·rename_i hh; exact hh.1
  ·split at h1 <;> exact absurd h1 (by decide)
 ·by_cases h2 : pickV z o = 2
  ·simp only [if_neg h1, if_pos h2]
   refine read_right ?_
   unfold pickV at h2
   split at h2
   ·exact absurd h2 (by decide)
   ·split at h2
    ·rename_i hh; exact hh
    ·exact absurd h2 (by decide)
  ·refine absurd ?_ h
   unfold pickV at h1 h2 ⊢
   split
   ·rename_i hh; rw [if_pos hh] at h1; exact absurd rfl h1
   ·rename_i hh; rw [if_neg hh] at h2
    split
    ·rename_i hk; rw [if_pos hk] at h2; exact absurd rfl h2
    ·rfl
theorem right_facts {s : Sp} (h : rightS s.a s.m s.l s.n s.r s.e s.p s.x0 s.x1 s.x2 s.x3 s.c = true) : SpOk s ∧ 1 ≤ s.e := by
 rw [rightS_eq, decide_eq_true_eq] at h
 unfold rightP rgP at h
 exact ⟨⟨by omega, by omega, by omega, by omega⟩, by omega⟩
noncomputable def dkL (l : List (List Nat)) : Dk := ⟨fun i => l.getD (2 * i) [], fun i => l.getD (2 * i + 1) [], fun i => spO (l.getD (2 * i) []) (l.getD (2 * i + 1) []), fun i => oth (l.getD (2 * i) []) (l.getD (2 * i + 1) []), fun i => okO (l.getD (2 * i) []) (l.getD (2 * i + 1) [])⟩
theorem dkL_right {l : List (List Nat)} {i : Nat} (h : (dkL l).ok i = true) : rightS ((dkL l).sp i).a ((dkL l).sp i).m ((dkL l).sp i).l ((dkL l).sp i).n ((dkL l).sp i).r ((dkL l).sp i).e ((dkL l).sp i).p ((dkL l).sp i).x0 ((dkL l).sp i).x1 ((dkL l).sp i).x2 ((dkL l).sp i).x3 ((dkL l).sp i).c = true := of_rightS h
theorem dkL_ok {l : List (List Nat)} {n : Nat} (hl : l.length = 2 * n) (hn : n ≤ 100) : DkOk (dkL l) ofRs (stV l) n :=
 ⟨hn, fun p => bels_stV p l, fun i hi => load2 hl hi, fun i hi => by rw [ofRs_eq]; rfl, fun i hi h => (right_facts (dkL_right h)).1⟩
theorem wfD (l : List (List Nat)) (nn : Nat) (q : Int) {v : V} (hv : ∀ p : Nat → Bool, V.bel p v = true) : Con.wf ⟨[.slice 0 0 nn nn 2, .int .i64 q], [.cells (stV l) false], v, [.cells (stV l) false], []⟩ = true := by
 simp only [Con.wf, hv, bels, V.bel, Con.p0, List.length_cons, List.length_nil, List.all_cons, List.all_nil, AObj.bel, bels_stV, AObj.live, Bool.and_true, nodupN, Bool.and_self]
 rfl
theorem eq12 (s : Sp) : eqvV false K12 s.v s.v = some (.bool true) := by
 rw [eqvV, keyEq_sp, decide_eq_true rfl]; rfl
theorem eq4 (a b c d : Int) : eqvV false (.many [.int, .int, .int, .int]) (.agg [.int .i64 a, .int .i64 b, .int .i64 c, .int .i64 d]) (.agg [.int .i64 a, .int .i64 b, .int .i64 c, .int .i64 d]) = some (.bool true) := by
 have h : keyEq (.many [.int, .int, .int, .int]) (.agg [.int .i64 a, .int .i64 b, .int .i64 c, .int .i64 d]) (.agg [.int .i64 a, .int .i64 b, .int .i64 c, .int .i64 d]) = some (eqI a a && (eqI b b && (eqI c c && (eqI d d && true)))) := eqC_cons rfl (eqC_cons rfl (eqC_cons rfl (eqC_cons rfl rfl)))
 simp only [eqvV, h, eqI_eq, decide_true, Bool.and_true]; rfl
theorem eqb4 (a b c d : Bool) : eqvV false (.many [.bool, .bool, .bool, .bool]) (.agg [.bool a, .bool b, .bool c, .bool d]) (.agg [.bool a, .bool b, .bool c, .bool d]) = some (.bool true) := by
 cases a <;> cases b <;> cases c <;> cases d <;> rfl
theorem seqDD {cf : Ys Prop → CF Prop} {Y : Ys Prop} {B : Nat} {a b : ACode} {T : Slots} {m M1 : Mem} {l1 : List (Sl × V)} {K : Ex → Slots → Mem → Prop}
  (h1 : ∀ K' : Ex → Slots → Mem → Prop, (∀ T', allS T' l1 → K' .normal T' M1) → codeD cf Y B a T m K') (h2 : ∀ T', allS T' l1 → codeD cf Y B b T' M1 K) : codeD cf Y B (.seq a b) T m K :=
 .inr (h1 _ fun T' hT' => h2 T' hT')
theorem loopW (X : List V) (w q : Int) (tx : List Nat) (nn k : Nat) (ts : List (List Nat)) (g : Sp) (E : D4) (f0 f1 f2 f3 : Bool) (hn : g.n = 2 ∨ g.n = 3 ∨ g.n = 4) :
  LoopOk2 (callD pA tbG la9m 5) c9l1 (.exit 2) (memL 4 [(0, .cells X true), (1, .cells (stV ts) false), (2, .cells (mad g.a g.m g.l g.n g.r g.e g.p g.x0 g.x1 g.x2 g.x3 g.c E.d0 E.d1 E.d2 E.d3 f0 f1 f2 f3) false), (3, .cells (mad g.a g.m g.l g.n g.r g.e g.p g.x0 g.x1 g.x2 g.x3 g.c E.d0 E.d1 E.d2 E.d3 f0 f1 f2 f3) false)]) [(s0, .slice 0 0 nn k 24), (s1, .int .i64 w), (s2, .str tx), (s3, .int .i64 q), (s8, .bool false), (s9, .slice 1 0 nn nn 2), (s11, .ptr 2 0), (s12, .int .i64 0), (s13, .ptr 3 0), (s14, .bool true), (s15, .int .i64 0), (s16, .int .i64 ((0 : Nat) : Int))] (memL 4 [(0, .cells X true), (1, .cells (stV ts) false), (2, .cells (mad g.a g.m g.l g.n g.r g.e g.p g.x0 g.x1 g.x2 g.x3 g.c E.d0 E.d1 E.d2 E.d3 f0 f1 f2 f3) false), (3, .cells (mad g.a g.m g.l g.n g.r g.e g.p g.x0 g.x1 g.x2 g.x3 g.c E.d0 E.d1 E.d2 E.d3 f0 f1 f2 f3) false)]) [(s0, .slice 0 0 nn k 24), (s1, .int .i64 w), (s2, .str tx), (s3, .int .i64 q), (s8, .bool false), (s9, .slice 1 0 nn nn 2), (s11, .ptr 2 0), (s12, .int .i64 0), (s13, .ptr 3 0), (s14, .bool true), (s15, .int .i64 (oW f0 f1 f2 f3 g.x0 g.x1 g.x2 g.x3 g.n.toNat)), (s16, .int .i64 g.n)] := by
 have hb := oW_b f0 f1 f2 f3 g.x0 g.x1 g.x2 g.x3
 refine loop2 g.n.toNat (Nat.lt_of_le_of_lt (show g.n.toNat ≤ 4 by omega) (by decide)) (fun _ => memL 4 [(0, .cells X true), (1, .cells (stV ts) false), (2, .cells (mad g.a g.m g.l g.n g.r g.e g.p g.x0 g.x1 g.x2 g.x3 g.c E.d0 E.d1 E.d2 E.d3 f0 f1 f2 f3) false), (3, .cells (mad g.a g.m g.l g.n g.r g.e g.p g.x0 g.x1 g.x2 g.x3 g.c E.d0 E.d1 E.d2 E.d3 f0 f1 f2 f3) false)]) (fun i => [(s0, .slice 0 0 nn k 24), (s1, .int .i64 w), (s2, .str tx), (s3, .int .i64 q), (s8, .bool false), (s9, .slice 1 0 nn nn 2), (s11, .ptr 2 0), (s12, .int .i64 0), (s13, .ptr 3 0), (s14, .bool true), (s15, .int .i64 (oW f0 f1 f2 f3 g.x0 g.x1 g.x2 g.x3 i)), (s16, .int .i64 ((i : Nat) : Int))]) ?_ ?_
 ·intro Y i T hi hT K hK
  have hi2 : ((i : Nat) : Int) < g.n := by omega
  have i4 : i < 4 := by omega
  obtain ⟨f, x, hf, hx, ho⟩ : ∃ f x, nth (mad g.a g.m g.l g.n g.r g.e g.p g.x0 g.x1 g.x2 g.x3 g.c E.d0 E.d1 E.d2 E.d3 f0 f1 f2 f3) (16 + i * 1) = some (.bool f) ∧ nth (mad g.a g.m g.l g.n g.r g.e g.p g.x0 g.x1 g.x2 g.x3 g.c E.d0 E.d1 E.d2 E.d3 f0 f1 f2 f3) (7 + i * 1) = some (.int .i64 x) ∧ (oW f0 f1 f2 f3 g.x0 g.x1 g.x2 g.x3 (i + 1)) = (oW f0 f1 f2 f3 g.x0 g.x1 g.x2 g.x3 i) + one0 f x := by
   match i, i4 with
   | 0, _ => exact ⟨f0, g.x0, rfl, rfl, by simp only [oW, Int.zero_add]⟩
   | 1, _ => exact ⟨f1, g.x1, rfl, rfl, by simp only [oW]⟩
   | 2, _ => exact ⟨f2, g.x2, rfl, rfl, by simp only [oW]⟩
   | 3, _ => exact ⟨f3, g.x3, rfl, rfl, by simp only [oW]⟩
   | j + 4, h => omega
  have hb1 := hb i
  simp only [ho] at hK
  generalize (oW f0 f1 f2 f3 g.x0 g.x1 g.x2 g.x3 i) = u at hT hK hb1
  cases f with
  | false =>
   rw [one0_a rfl] at hK
   exact mw_a Y X w q tx nn k ts g E f0 f1 f2 f3 u hb1.1 hb1.2 (by omega) (by omega) i i4 hi2 hf T hT K hK
  | true =>
   by_cases h : x = 1
   ·rw [one0_c rfl h, Int.add_zero] at hK
    exact mw_c Y X w q tx nn k ts g E f0 f1 f2 f3 u hb1.1 hb1.2 (by omega) (by omega) i i4 hi2 hf (by rw [hx, h]) T hT K hK
   ·rw [one0_x h] at hK
    exact mw_b Y X w q tx nn k ts g E f0 f1 f2 f3 u hb1.1 hb1.2 (by omega) (by omega) i i4 hi2 hf x hx h T hT K hK
 ·intro Y T hT K hK
  rw [show ((g.n.toNat : Nat) : Int) = g.n by omega] at hT
  exact mw_e Y X w q tx nn k ts g E f0 f1 f2 f3 _ (hb _).1 (hb _).2 (by omega) (by omega) T hT K hK
theorem outs_oW (n : Int) (hn : n = 2 ∨ n = 3 ∨ n = 4) (f0 f1 f2 f3 : Bool) (x0 x1 x2 x3 : Int) : outs n f0 f1 f2 f3 x0 x1 x2 x3 = oW f0 f1 f2 f3 x0 x1 x2 x3 n.toNat := by
 rcases hn with rfl | rfl | rfl <;> unfold outs <;> simp [oW]
theorem wk_zero : wkS 0 0 0 0 0 0 0 0 0 0 0 0 false false false false = false := by
 rw [wkS_eq, rightS_eq, decide_eq_false (by unfold rightP; omega), Bool.false_and]
theorem rest_run (X : List V) (w q : Int) (tx : List Nat) (nn k : Nat) (ts : List (List Nat)) (hl : ts.length = 2 * nn) (hn : nn ≤ 10) (Y : Ys Prop) (T : Slots) (hT : allS T [(s0, .slice 0 0 nn k 24), (s1, .int .i64 w), (s2, .str tx), (s3, .int .i64 q), (s8, .bool false), (s9, .slice 1 0 nn nn 2)]) (K : Ex → Slots → Mem → Prop) (hK : ∀ T' m', Slots.get T' s8 = .bool true → K .ret T' m') :
  codeD (callD pA tbG la9m 5) Y 1 c9r5 T (memL 2 [(0, .cells X true), (1, .cells (stV ts) false)]) K := by
 have ok := dkL_ok hl (by omega)
 have h23 := S23m.mk _ (S23.mk (dkL ts) (stV ts) nn nn q ok)
 have h25 := S25.mk (dkL ts) (stV ts) nn nn q ok (fun σ => rens_stV σ ts) (fun i hi h => (right_facts (dkL_right h)).2)
 by_cases ho : own (dkL ts) q nn = []
 ·rw [show makeV (dkL ts) q nn = .tuple [.agg mad0, .int .i64 4] from if_pos ho] at h23
  rw [show makeR (dkL ts) q nn = .tuple [.agg mad0, .bool false] from if_pos ho] at h25
  exact mq5_n Y X w q tx nn k ts h23 (wfD ts nn q fun _ => rfl) h25 (wfD ts nn q fun _ => rfl) T hT K hK
 ·rw [show makeV (dkL ts) q nn = _ from if_neg ho] at h23
  rw [show makeR (dkL ts) q nn = _ from if_neg ho] at h25
  have hg : ∃ u, u < nn ∧ (dkL ts).ok u = true ∧ gOf (dkL ts) q nn = (dkL ts).sp u := by
   have hne : ownL (dkL ts) q nn ≠ [] := fun e => ho (List.map_eq_nil_iff.1 e)
   have h1 : ∀ s ∈ ownL (dkL ts) q nn, ∃ u, u < nn ∧ (dkL ts).ok u = true ∧ s = (dkL ts).sp u := fun s hs => by
    obtain ⟨x, hx, rfl⟩ := List.mem_map.1 hs
    obtain ⟨k1, k2, k3⟩ := mem_own.1 (show (x.1, x.2) ∈ own (dkL ts) q nn from hx)
    exact ⟨x.1, k1, k2.1, k3⟩
   have hp : pickN (ownL (dkL ts) q nn) ((ownL (dkL ts) q nn).length - 1) = gOf (dkL ts) q nn := pick_doc hne fun s hs => by
    obtain ⟨u, _, u2, rfl⟩ := h1 s hs
    exact (right_facts (dkL_right u2)).2
   rw [← hp]
   exact h1 _ (pickN_mem _ (by have := List.length_pos_iff.2 hne; omega))
  obtain ⟨u, _, u2, u3⟩ := hg
  have hr := dkL_right u2
  rw [← u3] at hr
  unfold madeA at h23
  generalize inB (dkL ts) (gOf (dkL ts) q nn) (dk (dkL ts) q (gOf (dkL ts) q nn) nn) 0 (gOf (dkL ts) q nn).x0 = f0 at h23 h25
  generalize inB (dkL ts) (gOf (dkL ts) q nn) (dk (dkL ts) q (gOf (dkL ts) q nn) nn) 1 (gOf (dkL ts) q nn).x1 = f1 at h23 h25
  generalize inB (dkL ts) (gOf (dkL ts) q nn) (dk (dkL ts) q (gOf (dkL ts) q nn) nn) 2 (gOf (dkL ts) q nn).x2 = f2 at h23 h25
  generalize inB (dkL ts) (gOf (dkL ts) q nn) (dk (dkL ts) q (gOf (dkL ts) q nn) nn) 3 (gOf (dkL ts) q nn).x3 = f3 at h23 h25
  generalize dk (dkL ts) q (gOf (dkL ts) q nn) nn = E at h23 h25
  generalize gOf (dkL ts) q nn = g at h23 h25 hr
  have hgn := (right_facts hr).1.n
  have hL := loopW X w q tx nn k ts g E f0 f1 f2 f3 hgn
  have hw : wkS g.a g.m g.l g.n g.r g.e g.p g.x0 g.x1 g.x2 g.x3 g.c f0 f1 f2 f3 = decide (oW f0 f1 f2 f3 g.x0 g.x1 g.x2 g.x3 g.n.toNat ≤ 1) := by rw [wkS_eq, hr, Bool.true_and, outs_oW _ hgn]
  have hb := oW_b f0 f1 f2 f3 g.x0 g.x1 g.x2 g.x3 g.n.toNat
  generalize oW f0 f1 f2 f3 g.x0 g.x1 g.x2 g.x3 g.n.toNat = o at hL hw hb
  by_cases h1 : o ≤ 1
  ·rw [decide_eq_true h1] at hw
   exact mq5_y Y X w q tx nn k ts g E f0 f1 f2 f3 h23 (wfD ts nn q fun _ => rfl) h25 (wfD ts nn q fun _ => rfl) o h1 hb.1 hb.2 hL (eq12 g) (eq4 _ _ _ _) (eqb4 _ _ _ _) hw wk_zero T hT K hK
  ·rw [decide_eq_false h1] at hw
   exact mq5_z Y X w q tx nn k ts g E f0 f1 f2 f3 h23 (wfD ts nn q fun _ => rfl) h25 (wfD ts nn q fun _ => rfl) o (by omega) hb.1 hb.2 hL (eq12 g) (eq4 _ _ _ _) (eqb4 _ _ _ _) hw wk_zero T hT K hK
theorem body1D_of {cfy : Ys Prop → CF Prop} {Y : Ys Prop} {f : AFunc} {args : List V} {m : Mem} {K : V → Mem → Prop} (h : body1 pA cfy Y f args m K) : body1D cfy Y f args m K := by
 unfold body1D; unfold body1 at h
 cases e : Nat.ble args.length f.nt with
 | false => rw [e] at h; exact h
 | true => rw [e] at h; exact codeD_of h
theorem law_run (zs : List Int) (w q : Int) (tx : List Nat) (nn k : Nat) (hz : zs.length = nn * 24) (h1 : 1 ≤ nn) (hn2 : nn ≤ 9223372036854775807) (ht2 : tx.length ≤ 9223372036854775807) (hw2 : w ≤ 9223372036854775807)
  (h23 : ∀ q, S23m ⟨[.nilslice, .int .i64 q], [], .tuple [.agg mad0, .int .i64 4], [], []⟩) (h25 : ∀ q, S25 ⟨[.nilslice, .int .i64 q], [], .tuple [.agg mad0, .bool false], [], []⟩) :
  body1D (callD pA tbG la9m 5) Ys.none c9 [.slice 0 0 nn k 24, .int .i64 w, .str tx, .int .i64 q] (memO [.cells (iV zs) true]) (endC ⟨[.slice 0 0 nn k 24, .int .i64 w, .str tx, .int .i64 q], [.cells (iV zs) true], .bool true, [], []⟩) := by
 by_cases hn : nn ≤ 10
 case neg => exact body1D_of (mq_w Ys.none (iV zs) w q tx nn k (by omega) hn2)
 by_cases ht : tx.length ≤ 100
 case neg => exact body1D_of (mq_t Ys.none (iV zs) w q tx nn k hn (by omega) ht2)
 rw [c9_eq]
 refine body_retD (s := s8) (v := .bool true) rfl (fun K' hK' => ?_) (fun mm => ⟨rfl, trivial, trivial⟩)
 refine seqD (fun K hK => mq0 Ys.none (iV zs) w q tx nn k hn h1 _ ⟨rfl, rfl, rfl, rfl, trivial⟩ K hK) fun T0 hT0 => ?_
 refine seqD (fun K hK => mq1 Ys.none (iV zs) w q tx nn k hn h1 ht T0 hT0 K hK) fun T1 hT1 => ?_
 refine seqD (fun K hK => mq2 Ys.none (iV zs) w q tx nn k hn h1 T1 hT1 K hK) fun T2 hT2 => ?_
 refine seqDD (fun K hK => mq3 Ys.none (iV zs) w q tx nn k hn h1 _ (loopM zs hz k w q tx hn h1) T2 hT2 K hK) fun T3 hT3 => ?_
 have hT3' : allS T3 [(s0, .slice 0 0 nn k 24), (s1, .int .i64 w), (s2, .str tx), (s3, .int .i64 q), (s8, .bool false), (s9, .slice 1 0 nn nn 2)] := ⟨hT3.1, hT3.2.1, hT3.2.2.1, hT3.2.2.2.1, hT3.2.2.2.2.1, hT3.2.2.2.2.2.1, trivial⟩
 have hl := secL_len zs nn
 generalize secL zs nn = ts at hl ⊢
 by_cases hw : w < 0
 ·refine seqD (fun K hK => mq4_n Ys.none (iV zs) w q tx nn k hn h1 ts hw T3 hT3' K hK) fun T4 hT4 => ?_
  exact rest_run _ w q tx nn k ts hl hn Ys.none T4 hT4 K' hK'
 ·obtain ⟨w0, rfl⟩ := Int.eq_ofNat_of_zero_le (show 0 ≤ w by omega)
  have hm : w0 % nn < nn := Nat.mod_lt _ h1
  refine seqD (fun K hK => mq4_y Ys.none (iV zs) q w0 tx nn k hn h1 ts (by omega) (w0 % nn) (by rw [← Int.ofNat_tmod]) hm _ (put_str tx (l := ts) (i := w0 % nn * 2 + w0 / 2 % 2 * 1) (by omega)) T3 hT3' K hK) fun T4 hT4 => ?_
  exact rest_run _ _ q tx nn k _ (by rw [List.length_set]; exact hl) hn Ys.none T4 hT4 K' hK'
theorem law_nil (ob : AObj) (w q : Int) (tx : List Nat) (ht2 : tx.length ≤ 9223372036854775807) (h23 : ∀ q, S23m ⟨[.nilslice, .int .i64 q], [], .tuple [.agg mad0, .int .i64 4], [], []⟩) (h25 : ∀ q, S25 ⟨[.nilslice, .int .i64 q], [], .tuple [.agg mad0, .bool false], [], []⟩) :
  body1 pA (callD pA tbG la9m 5) Ys.none c9 [.nilslice, .int .i64 w, .str tx, .int .i64 q] (memO [ob]) (endC ⟨[.nilslice, .int .i64 w, .str tx, .int .i64 q], [ob], .bool true, [], []⟩) := by
 by_cases ht : tx.length ≤ 100
 case neg => exact mq_xa Ys.none ob w q tx (by omega) ht2
 exact mq_0a Ys.none ob w q tx ht (h23 q) (h25 q)
theorem law_zero (ob : AObj) (w q : Int) (tx : List Nat) (k : Nat) (ht2 : tx.length ≤ 9223372036854775807) (h23 : ∀ q, S23m ⟨[.nilslice, .int .i64 q], [], .tuple [.agg mad0, .int .i64 4], [], []⟩) (h25 : ∀ q, S25 ⟨[.nilslice, .int .i64 q], [], .tuple [.agg mad0, .bool false], [], []⟩) :
  body1 pA (callD pA tbG la9m 5) Ys.none c9 [.slice 0 0 0 k 24, .int .i64 w, .str tx, .int .i64 q] (memO [ob]) (endC ⟨[.slice 0 0 0 k 24, .int .i64 w, .str tx, .int .i64 q], [ob], .bool true, [], []⟩) := by
 by_cases ht : tx.length ≤ 100
 case neg => exact mq_xb Ys.none ob w q tx k (by omega) ht2
 exact mq_0b Ys.none ob w q tx k ht (h23 q) (h25 q)
section
variable {P : Program}
theorem sec_run (Y : Ys Prop) (a m l n r e p x0 x1 x2 x3 c : Int) (K : V → Mem → Prop) (hK : ∀ mm, K (.str (secS a m l n r e p x0 x1 x2 x3 c)) mm) : body1 pA (callD pA tbG la24 5) Y c24 [sup a m l n r e p x0 x1 x2 x3 c] ⟨0, .leaf⟩ K := by
 rw [secS_eq] at hK
 cases h : rightS a m l n r e p x0 x1 x2 x3 c with
 | true => rw [if_pos h] at hK; exact sec_y Y a m l n r e p x0 x1 x2 x3 c h K hK
 | false => rw [if_neg (by rw [h]; decide)] at hK; exact sec_n Y a m l n r e p x0 x1 x2 x3 c h K hK
variable (hmix : P.follows .mixedOrders = true)
include hmix
theorem sec24_ok {la : CF Prop} (hla : LastOk P la id) (h24 : LastOk P la24 id) (tg : TabOk P tbG) (o24 : FOk P 24 c24) : LastOk P (lastFn 24 secR la) id := lastFn_ok (callable_fok o24) (fun ρ args args' v hv ha => by
  unfold secR at hv; split at hv
  ·cases hv; exact answers_of_walk hmix o24 (callD_sound pHolds hmix tg h24 5) ha rfl rfl (fun K hK => sec_run _ _ _ _ _ _ _ _ _ _ _ _ _ K hK)
  ·cases hv) hla
theorem wk26_ok {la : CF Prop} (hla : LastOk P la id) (h2 : LastOk P la2 id) (o26 : FOk P 26 c26) : LastOk P (lastFn 26 wkR la) id := lastFn_ok (callable_fok o26) (fun ρ args args' v hv ha => by
  unfold wkR at hv; split at hv
  ·cases hv; exact answers_of_walk hmix o26 (callD_sound pHolds hmix tb0_ok h2 5) ha rfl rfl (fun K hK => wk_run _ _ _ _ _ _ _ _ _ _ _ _ _ _ _ _ _ _ _ _ _ K hK)
  ·cases hv) hla
theorem s23m_ok (h39 : LastOk P (la23 fun _ => none) id) (h23 : ∀ C, S23 C → C.wf = true → ConOk P 23 C) (o23 : FOk P 23 c23) : ∀ C, S23m C → C.wf = true → ConOk P 23 C := by
 intro C h hw
 cases h with
 | mk _ h => exact h23 _ h hw
 | nil q => exact conOk_walk hmix o23 (callD_sound pHolds hmix tb23_ok h39 5) (mk_0 _ q)
theorem s25m_ok (h40 : LastOk P (la25 fun _ => none) id) (h25 : ∀ (D : Dk) (X : List V) (n k : Nat) (q : Int), DkOk D ofRs X n → (∀ σ, rens σ X = X) → (∀ i, i < n → D.ok i = true → 1 ≤ (D.sp i).e) → ConOk P 25 ⟨[.slice 0 0 n k 2, .int .i64 q], [.cells X false], makeR D q n, [.cells X false], []⟩) (o25 : FOk P 25 c25) : ∀ C, S25 C → C.wf = true → ConOk P 25 C := by
 intro C h hw
 cases h with
 | mk D X n k q ok hX h1 => exact h25 D X n k q ok hX h1
 | nil q => exact conOk_walk hmix o25 (callD_sound pHolds hmix tb0_ok h40 5) (rm_0 _ q)
theorem s9_ok (h9 : LastOk P la9m id) (tg : TabOk P tbG) (o9 : FOk P 9 c9) {w : World} {v : Value} (hv : IsSliceI w 24 v) (at' q : Int) (hw2 : at' ≤ 9223372036854775807) (tx : ByteArray) (ht2 : (bytesOf tx).length ≤ 9223372036854775807) :
  Calls P 9 ⟨[v, .int .i64 at', .string tx, .int .i64 q]⟩ w fun e w' => e = .returned (.bool true) ∧ Stays w w' := by
 have hcf := callD_sound (A := pA) pHolds hmix tg h9 5
 exact calls_slice (by decide) hv (fun ρ => .cons (.int _ _) (.cons (.str tx) (.cons (.int _ _) .nil)))
  (conOk_walk hmix o9 hcf (law_nil .dead at' q _ ht2 S23m.nil S25.nil)) (fun k => conOk_walk hmix o9 hcf (law_zero .dead at' q _ k ht2 S23m.nil S25.nil))
  (fun zs nn h1 h2 hz => conOk_walkD hmix o9 hcf (law_run zs at' q _ nn nn hz h1 (by unfold maxLen at h2; omega) ht2 hw2 S23m.nil S25.nil))
end
end Go.Proofs.Ythmbmcpjakbepaa
