/- A server does requests. No condition. -/
import Derived.Test.YtjekgdkaejgpdaaGreatHJ
namespace Go.Proofs.YtjekgdkaejgpdaaGreat
open Go Go.AM
set_option maxRecDepth 100000
set_option maxHeartbeats 4000000
set_option linter.unusedVariables false
set_option linter.unusedSectionVars false
def upD (D : Nat → List Nat) (k : Nat) (t : List Nat) : Nat → List Nat := fun j => if j = k then t else D j
theorem k16 {k : Nat} (h : k < 16) : k = 0 ∨ k = 1 ∨ k = 2 ∨ k = 3 ∨ k = 4 ∨ k = 5 ∨ k = 6 ∨ k = 7 ∨ k = 8 ∨ k = 9 ∨ k = 10 ∨ k = 11 ∨ k = 12 ∨ k = 13 ∨ k = 14 ∨ k = 15 := by omega
theorem x_at (D : Nat → List Nat) (s h : V) {k : Nat} (hk : k < 16) : nth (xL D s h) (2 + k * 1) = some (.str (D k)) := by
 rcases k16 hk with rfl | rfl | rfl | rfl | rfl | rfl | rfl | rfl | rfl | rfl | rfl | rfl | rfl | rfl | rfl | rfl <;> kernel_rfl
theorem x_up (D : Nat → List Nat) (s h : V) (t : List Nat) {k : Nat} (hk : k < 16) : putAt [.str t] (2 + k * 1) (xL D s h) = some (xL (upD D k t) s h) := by
 rcases k16 hk with rfl | rfl | rfl | rfl | rfl | rfl | rfl | rfl | rfl | rfl | rfl | rfl | rfl | rfl | rfl | rfl <;> kernel_rfl
abbrev kdN (n : Nat) : Nat := kdT (rqT n)
abbrev rqF (n : Nat) : Nat := rqO n / 64
abbrev rqG (n : Nat) : Nat := rqN n / 64
def dkS (D : Nat → List Nat) (n : Nat) : Nat → (Nat → List Nat)
 | 0 => D
 | i + 1 => if kdN n = 2 then upD (dkS D n i) (rqF n + i) (((rqD n).take (64 * i + 64)).drop (64 * i)) else if kdN n = 4 then upD (dkS D n i) (rqF n + i) (Go.AM.repL [0] 64) else dkS D n i
def duS (D : Nat → List Nat) (n : Nat) : Nat → List Nat
 | 0 => []
 | i + 1 => if kdN n = 1 then duS D n i ++ D (rqF n + i) else duS D n i
theorem zG2 {D : Nat → List Nat} {n : Nat} (h : kdN n = 1) : ∀ i, dkS D n i = D
 | 0 => rfl
 | i + 1 => by unfold dkS; rw [if_neg (by omega), if_neg (by omega), zG2 h i]
theorem zHH {D : Nat → List Nat} {n : Nat} (h : kdN n ≠ 1) : ∀ i, duS D n i = []
 | 0 => rfl
 | i + 1 => by unfold duS; rw [if_neg h, zHH h i]
structure DkOk (D : Nat → List Nat) : Prop where
 len : ∀ k, (D k).length = 64
 lt : ∀ k, ∀ b ∈ D k, b < 256
theorem zGk {D : Nat → List Nat} (hD : DkOk D) {n : Nat} (h : kdN n = 1) : ∀ i, (duS D n i).length = 64 * i
 | 0 => rfl
 | i + 1 => by unfold duS; rw [if_pos h, List.length_append, zGk hD h i, hD.len]; omega
theorem duS_lt {D : Nat → List Nat} (hD : DkOk D) {n : Nat} : ∀ i, ∀ b ∈ duS D n i, b < 256
 | 0, b, hb => by cases hb
 | i + 1, b, hb => by
  unfold duS at hb
  split at hb
  ·rcases List.mem_append.1 hb with hb | hb
   ·exact duS_lt hD i b hb
   ·exact hD.lt _ b hb
  ·exact duS_lt hD i b hb
theorem upD_ok {D : Nat → List Nat} (hD : DkOk D) {k : Nat} {t : List Nat} (h1 : t.length = 64) (h2 : ∀ b ∈ t, b < 256) : DkOk (upD D k t) := by
 refine ⟨fun j => ?_, fun j => ?_⟩
 ·unfold upD; split
  ·exact h1
  ·exact hD.len j
 ·unfold upD; split
  ·exact h2
  ·exact hD.lt j
theorem zGT {n : Nat} (h : Good n) (hk : kdN n = 2) : (rqD n).length = 64 * rqG n := by
 have h1 : rqT n = 1 := by
  rcases zBf n with ⟨_, e⟩ | ⟨_, e⟩ | ⟨_, e⟩ | ⟨_, e⟩ | ⟨_, e⟩ <;> first | exact e | (unfold kdN at hk; rw [e] at hk; exact absurd hk (by decide))
 rw [rqD_1 h1]
 have := zGy h (by omega)
 show rqN n = 64 * (rqN n / 64)
 omega
theorem dkS_ok {D : Nat → List Nat} (hD : DkOk D) {n : Nat} (h : Good n) : ∀ i, i ≤ rqG n → DkOk (dkS D n i)
 | 0, _ => hD
 | i + 1, hi => by
  have ih := dkS_ok hD h i (by omega)
  unfold dkS
  split
  ·rename_i hk
   have hl := zGT h hk
   refine upD_ok ih ?_ fun b hb => rqD_lt n b (List.mem_of_mem_take (List.mem_of_mem_drop hb))
   rw [List.length_drop, List.length_take]; omega
  ·split
   ·exact upD_ok ih (zFx 0 64) (zGQ (by decide) 64)
   ·exact ih
theorem slc64 {d : List Nat} {i g : Nat} (h : d.length = 64 * g) (hi : i < g) : zAp d (64 * i) (64 * i + 64) = some (.str ((d.take (64 * i + 64)).drop (64 * i))) := by
 unfold zAp
 rw [zAA.2 (by omega), zAA.2 (by omega)]
 rfl
theorem zGg {n : Nat} (h : Good n) : rqG n ≤ 2 ∧ rqF n + rqG n ≤ 16 ∧ rqF n ≤ 14 := by
 by_cases h3 : rqT n = 3
 ·obtain ⟨e1, e2⟩ := good_f h h3
  show rqN n / 64 ≤ 2 ∧ rqO n / 64 + rqN n / 64 ≤ 16 ∧ rqO n / 64 ≤ 14
  rw [e1, e2]; decide
 ·obtain ⟨e1, e2⟩ := zGy h h3
  show rqN n / 64 ≤ 2 ∧ rqO n / 64 + rqN n / 64 ≤ 16 ∧ rqO n / 64 ≤ 14
  omega
theorem good_kd {n : Nat} (h : Good n) : kdN n = 1 ∨ kdN n = 2 ∨ kdN n = 4 ∨ (kdN n = 3 ∧ rqG n = 0) := by
 have h7 := h.2
 rcases zBf n with ⟨_, e⟩ | ⟨_, e⟩ | ⟨_, e⟩ | ⟨_, e⟩ | ⟨h7', e⟩
 ·exact .inl (by show kdT (rqT n) = 1; rw [e]; rfl)
 ·exact .inr (.inl (by show kdT (rqT n) = 2; rw [e]; rfl))
 ·exact .inr (.inr (.inl (by show kdT (rqT n) = 4; rw [e]; rfl)))
 ·refine .inr (.inr (.inr ⟨by show kdT (rqT n) = 3; rw [e]; rfl, ?_⟩))
  have := (good_f h e).2
  show rqN n / 64 = 0; rw [this]
 ·exact absurd h7' h7
abbrev slD (u : List Nat) (i : Nat) : List (Sl × V) := [(s0, .ptr 0 0), (s6, .ptr 5 0), (s7, .str u), (s8, .int .i64 ((i : Nat) : Int))]
abbrev bxO (tg n : Nat) : zAe := .cells [.int .i64 ((tg : Nat) : Int), .int .u8 ((kdN n : Nat) : Int), .int .i64 ((rqF n : Nat) : Int), .int .i64 ((rqG n : Nat) : Int), .str (rqD n)] false
abbrev lfF (P : Program) : CF Prop := zAH 43 (zAq P 43) (zAi 25 rrR la0)
theorem zCj {b : Nat → Bool} {kd : IntKind} (L : List It) : zDJ b (enG kd (fmL L)) = true := enG_bel fun x hx => by
 obtain ⟨y, _, rfl⟩ := List.mem_map.1 hx
 rfl
theorem fm_ren {σ : Nat → Nat} (L : List It) : zCT σ (enG .i64 (fmL L)) = enG .i64 (fmL L) := by
 rw [enG_ren]
 congr 1
 unfold fmL
 rw [List.map_map]
 rfl
theorem does_loop7 {P : Program} {D : Nat → List Nat} (hD : DkOk D) {s h : V} {OS OM OB OH b6 : zAe} {tg n : Nat} (hn : Good n) :
  zDc (zAt pA tbF (lfF P) 5) zDf (.exit 0) (y7 (.cells (xL D s h) false) OS OM OB OH (bxO tg n) b6) (slD [] 0) (y7 (.cells (xL (dkS D n (rqG n)) s h) false) OS OM OB OH (bxO tg n) b6) (slD (duS D n (rqG n)) (rqG n)) := by
 obtain ⟨hg, hfg, hf⟩ := zGg hn
 refine loop2 (cfy := zAt pA tbF (lfF P) 5) (b := zDf) (x := 0) (M1 := (y7 (.cells (xL (dkS D n (rqG n)) s h) false) OS OM OB OH (bxO tg n) b6)) (l1 := slD (duS D n (rqG n)) (rqG n)) (rqG n) (Nat.lt_of_lt_of_le (zCv (by omega)) (Nat.sub_le _ _)) (fun i => (y7 (.cells (xL (dkS D n i) s h) false) OS OM OB OH (bxO tg n) b6)) (fun i => slD (duS D n i) i) ?_ ?_
 ·intro Y i T hi hT K hK
  have hx := x_at (dkS D n i) s h (k := rqF n + i) (by omega)
  have hup := fun t => x_up (dkS D n i) s h t (k := rqF n + i) (by omega)
  by_cases e1 : kdN n = 1
  ·have hK' : ∀ T', zAG T' (slD (duS D n i ++ D (rqF n + i)) (i + 1)) → K .normal T' (y7 (.cells (xL (dkS D n i) s h) false) OS OM OB OH (bxO tg n) b6) := fun T' hT' => by
    have := hK T'
    unfold duS dkS at this
    rw [if_pos e1, if_neg (by omega), if_neg (by omega)] at this
    exact this hT'
   have hl := zGk hD e1 i
   have hl2 := hD.len (rqF n + i)
   rw [show dkS D n i (rqF n + i) = D (rqF n + i) by rw [zG2 e1]] at hx
   exact dl_r7 Y _ _ OS OM OB OH b6 (xL (dkS D n i) s h) (xL (dkS D n i) s h) tg (kdN n) (rqF n) (rqG n) i (rqD n) (duS D n i) _ _ (by omega) (by omega) hi (by omega) e1 hx (addS (by omega)) T hT K hK'
  ·by_cases e2 : kdN n = 2
   ·have hs := slc64 (zGT hn e2) hi
    have hK' : ∀ T', zAG T' (slD (duS D n i) (i + 1)) → K .normal T' (y7 (.cells (xL (upD (dkS D n i) (rqF n + i) (((rqD n).take (64 * i + 64)).drop (64 * i))) s h) false) OS OM OB OH (bxO tg n) b6) := fun T' hT' => by
     have := hK T'
     unfold duS dkS at this
     rw [if_neg e1, if_pos e2] at this
     exact this hT'
    exact dl_w7 Y _ _ OS OM OB OH b6 (xL (dkS D n i) s h) _ tg (kdN n) (rqF n) (rqG n) i (rqD n) (duS D n i) _ [] (by omega) (by omega) hi (by omega) e2 hs (hup _) T hT K hK'
   ·have e4 : kdN n = 4 := by rcases good_kd hn with e | e | e | ⟨_, e⟩ <;> omega
    have hr := rrR_y (s := [0]) (c := 64) (Nat.le_refl 1) (by decide)
    have hK' : ∀ T', zAG T' (slD (duS D n i) (i + 1)) → K .normal T' (y7 (.cells (xL (upD (dkS D n i) (rqF n + i) (Go.AM.repL [0] 64)) s h) false) OS OM OB OH (bxO tg n) b6) := fun T' hT' => by
     have := hK T'
     unfold duS dkS at this
     rw [if_neg e1, if_neg e2, if_pos e4] at this
     exact this hT'
    exact dl_z7 Y _ _ OS OM OB OH b6 (xL (dkS D n i) s h) _ tg (kdN n) (rqF n) (rqG n) i (rqD n) (duS D n i) _ [] (by omega) (by omega) hi (by omega) e4 hr (hup _) T hT K hK'
 ·intro Y T hT K hK
  exact dl_e7 Y _ _ OS OM OB OH b6 _ tg (kdN n) (rqF n) (rqG n) (rqD n) _ (by omega) T hT K hK
theorem zII {P : Program} {D : Nat → List Nat} (hD : DkOk D) {s h : V} {OS OM OB OH b6 b7 : zAe} {tg n : Nat} (hn : Good n) :
  zDc (zAt pA tbF (lfF P) 5) zDf (.exit 0) (y8 (.cells (xL D s h) false) OS OM OB OH (bxO tg n) b6 b7) (slD [] 0) (y8 (.cells (xL (dkS D n (rqG n)) s h) false) OS OM OB OH (bxO tg n) b6 b7) (slD (duS D n (rqG n)) (rqG n)) := by
 obtain ⟨hg, hfg, hf⟩ := zGg hn
 refine loop2 (cfy := zAt pA tbF (lfF P) 5) (b := zDf) (x := 0) (M1 := (y8 (.cells (xL (dkS D n (rqG n)) s h) false) OS OM OB OH (bxO tg n) b6 b7)) (l1 := slD (duS D n (rqG n)) (rqG n)) (rqG n) (Nat.lt_of_lt_of_le (zCv (by omega)) (Nat.sub_le _ _)) (fun i => (y8 (.cells (xL (dkS D n i) s h) false) OS OM OB OH (bxO tg n) b6 b7)) (fun i => slD (duS D n i) i) ?_ ?_
 ·intro Y i T hi hT K hK
  have hx := x_at (dkS D n i) s h (k := rqF n + i) (by omega)
  have hup := fun t => x_up (dkS D n i) s h t (k := rqF n + i) (by omega)
  by_cases e1 : kdN n = 1
  ·have hK' : ∀ T', zAG T' (slD (duS D n i ++ D (rqF n + i)) (i + 1)) → K .normal T' (y8 (.cells (xL (dkS D n i) s h) false) OS OM OB OH (bxO tg n) b6 b7) := fun T' hT' => by
    have := hK T'
    unfold duS dkS at this
    rw [if_pos e1, if_neg (by omega), if_neg (by omega)] at this
    exact this hT'
   have hl := zGk hD e1 i
   have hl2 := hD.len (rqF n + i)
   rw [show dkS D n i (rqF n + i) = D (rqF n + i) by rw [zG2 e1]] at hx
   exact dl_r8 Y _ _ OS OM OB OH b6 b7 (xL (dkS D n i) s h) (xL (dkS D n i) s h) tg (kdN n) (rqF n) (rqG n) i (rqD n) (duS D n i) _ _ (by omega) (by omega) hi (by omega) e1 hx (addS (by omega)) T hT K hK'
  ·by_cases e2 : kdN n = 2
   ·have hs := slc64 (zGT hn e2) hi
    have hK' : ∀ T', zAG T' (slD (duS D n i) (i + 1)) → K .normal T' (y8 (.cells (xL (upD (dkS D n i) (rqF n + i) (((rqD n).take (64 * i + 64)).drop (64 * i))) s h) false) OS OM OB OH (bxO tg n) b6 b7) := fun T' hT' => by
     have := hK T'
     unfold duS dkS at this
     rw [if_neg e1, if_pos e2] at this
     exact this hT'
    exact dl_w8 Y _ _ OS OM OB OH b6 b7 (xL (dkS D n i) s h) _ tg (kdN n) (rqF n) (rqG n) i (rqD n) (duS D n i) _ [] (by omega) (by omega) hi (by omega) e2 hs (hup _) T hT K hK'
   ·have e4 : kdN n = 4 := by rcases good_kd hn with e | e | e | ⟨_, e⟩ <;> omega
    have hr := rrR_y (s := [0]) (c := 64) (Nat.le_refl 1) (by decide)
    have hK' : ∀ T', zAG T' (slD (duS D n i) (i + 1)) → K .normal T' (y8 (.cells (xL (upD (dkS D n i) (rqF n + i) (Go.AM.repL [0] 64)) s h) false) OS OM OB OH (bxO tg n) b6 b7) := fun T' hT' => by
     have := hK T'
     unfold duS dkS at this
     rw [if_neg e1, if_neg e2, if_pos e4] at this
     exact this hT'
    exact dl_z8 Y _ _ OS OM OB OH b6 b7 (xL (dkS D n i) s h) _ tg (kdN n) (rqF n) (rqG n) i (rqD n) (duS D n i) _ [] (by omega) (by omega) hi (by omega) e4 hr (hup _) T hT K hK'
 ·intro Y T hT K hK
  exact dl_e8 Y _ _ OS OM OB OH b6 b7 _ tg (kdN n) (rqF n) (rqG n) (rqD n) _ (by omega) T hT K hK
theorem does_loop9 {P : Program} {D : Nat → List Nat} (hD : DkOk D) {s h : V} {OS OM OB OH b6 b7 b8 : zAe} {tg n : Nat} (hn : Good n) :
  zDc (zAt pA tbF (lfF P) 5) zDf (.exit 0) (y9 (.cells (xL D s h) false) OS OM OB OH (bxO tg n) b6 b7 b8) (slD [] 0) (y9 (.cells (xL (dkS D n (rqG n)) s h) false) OS OM OB OH (bxO tg n) b6 b7 b8) (slD (duS D n (rqG n)) (rqG n)) := by
 obtain ⟨hg, hfg, hf⟩ := zGg hn
 refine loop2 (cfy := zAt pA tbF (lfF P) 5) (b := zDf) (x := 0) (M1 := (y9 (.cells (xL (dkS D n (rqG n)) s h) false) OS OM OB OH (bxO tg n) b6 b7 b8)) (l1 := slD (duS D n (rqG n)) (rqG n)) (rqG n) (Nat.lt_of_lt_of_le (zCv (by omega)) (Nat.sub_le _ _)) (fun i => (y9 (.cells (xL (dkS D n i) s h) false) OS OM OB OH (bxO tg n) b6 b7 b8)) (fun i => slD (duS D n i) i) ?_ ?_
 ·intro Y i T hi hT K hK
  have hx := x_at (dkS D n i) s h (k := rqF n + i) (by omega)
  have hup := fun t => x_up (dkS D n i) s h t (k := rqF n + i) (by omega)
  by_cases e1 : kdN n = 1
  ·have hK' : ∀ T', zAG T' (slD (duS D n i ++ D (rqF n + i)) (i + 1)) → K .normal T' (y9 (.cells (xL (dkS D n i) s h) false) OS OM OB OH (bxO tg n) b6 b7 b8) := fun T' hT' => by
    have := hK T'
    unfold duS dkS at this
    rw [if_pos e1, if_neg (by omega), if_neg (by omega)] at this
    exact this hT'
   have hl := zGk hD e1 i
   have hl2 := hD.len (rqF n + i)
   rw [show dkS D n i (rqF n + i) = D (rqF n + i) by rw [zG2 e1]] at hx
   exact dl_r9 Y _ _ OS OM OB OH b6 b7 b8 (xL (dkS D n i) s h) (xL (dkS D n i) s h) tg (kdN n) (rqF n) (rqG n) i (rqD n) (duS D n i) _ _ (by omega) (by omega) hi (by omega) e1 hx (addS (by omega)) T hT K hK'
  ·by_cases e2 : kdN n = 2
   ·have hs := slc64 (zGT hn e2) hi
    have hK' : ∀ T', zAG T' (slD (duS D n i) (i + 1)) → K .normal T' (y9 (.cells (xL (upD (dkS D n i) (rqF n + i) (((rqD n).take (64 * i + 64)).drop (64 * i))) s h) false) OS OM OB OH (bxO tg n) b6 b7 b8) := fun T' hT' => by
     have := hK T'
     unfold duS dkS at this
     rw [if_neg e1, if_pos e2] at this
     exact this hT'
    exact dl_w9 Y _ _ OS OM OB OH b6 b7 b8 (xL (dkS D n i) s h) _ tg (kdN n) (rqF n) (rqG n) i (rqD n) (duS D n i) _ [] (by omega) (by omega) hi (by omega) e2 hs (hup _) T hT K hK'
   ·have e4 : kdN n = 4 := by rcases good_kd hn with e | e | e | ⟨_, e⟩ <;> omega
    have hr := rrR_y (s := [0]) (c := 64) (Nat.le_refl 1) (by decide)
    have hK' : ∀ T', zAG T' (slD (duS D n i) (i + 1)) → K .normal T' (y9 (.cells (xL (upD (dkS D n i) (rqF n + i) (Go.AM.repL [0] 64)) s h) false) OS OM OB OH (bxO tg n) b6 b7 b8) := fun T' hT' => by
     have := hK T'
     unfold duS dkS at this
     rw [if_neg e1, if_neg e2, if_pos e4] at this
     exact this hT'
    exact dl_z9 Y _ _ OS OM OB OH b6 b7 b8 (xL (dkS D n i) s h) _ tg (kdN n) (rqF n) (rqG n) i (rqD n) (duS D n i) _ [] (by omega) (by omega) hi (by omega) e4 hr (hup _) T hT K hK'
 ·intro Y T hT K hK
  exact dl_e9 Y _ _ OS OM OB OH b6 b7 b8 _ tg (kdN n) (rqF n) (rqG n) (rqD n) _ (by omega) T hT K hK
abbrev enC (st : Bool) (l c tg : Nat) (dt w : List Nat) (L L2 : List It) : Con := ⟨[.ptr 0 0, .int .i64 ((tg : Nat) : Int), .bool true, .str dt], [zA4 st l (.slice 2 c 0 0 5) 1 [] false, .map (enG .i64 (fmL L)) l false, .dead], .bool true, [zA4 st l (.slice 2 c 0 0 5) 1 w false, .map (enG .i64 (fmL L2)) l false, .dead], []⟩
theorem en_wf {st : Bool} {l c tg : Nat} {dt w : List Nat} {L L2 : List It} : (enC st l c tg dt w L L2).wfG = true := by
 simp only [Con.wfG, List.all_cons, List.all_nil, zAe.bel, zCj]
 rfl
end Go.Proofs.YtjekgdkaejgpdaaGreat
