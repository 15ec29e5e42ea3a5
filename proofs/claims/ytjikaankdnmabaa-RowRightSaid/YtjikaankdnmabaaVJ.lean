/- The functions by what they answer. No condition. -/
import Derived.Test.YtjikaankdnmabaaVP
import Derived.Test.YtjikaankdnmabaaVW
import Derived.Test.YtjikaankdnmabaaVK
namespace Go.Proofs.Ytjikaankdnmabaa
open Go Go.AM
set_option maxRecDepth 100000
set_option maxHeartbeats 4000000
set_option linter.unusedVariables false
set_option linter.unusedSectionVars false
theorem may30_walk (Y : Ys Prop) (l m r s : Int) (b0 b1 b2 b3 : Bool) (K : V → Mem → Prop) (hK : ∀ mm, K (.int .i64 (mayE l m r s b0 b1 b2 b3)) mm) : body1 pA (callD pA tb0 la3 5) Y c30 [geo l m r, .int .i64 s, ag b0 b1 b2 b3] ⟨0, .leaf⟩ K := by
  cases ho : roB l m r s with
  | false => exact m30_n Y l m r s b0 b1 b2 b3 ho (pz_0 ho) K fun mm => by have h := hK mm; rw [show mayE l m r s b0 b1 b2 b3 = 1 by rw [mayE_eq, ho]; rfl] at h; exact h
  | true =>
  obtain ⟨g, s0, s1⟩ := ro_t.1 ho
  have h1 := g.1
  rcases h1 with ⟨rfl, rfl⟩ | ⟨rfl, rfl | rfl⟩
  · cases b0 with
    | false =>
      cases b1 with
      | false =>
        exact m30_2_0 Y r s b2 b3 ho K fun mm => by have h := hK mm; rw [show mayE 1 2 r s false false b2 b3 = 20 by rw [mayE_eq, if_pos ho]; rfl] at h; exact h
      | true =>
        exact m30_2_2 Y r s b2 b3 ho K fun mm => by have h := hK mm; rw [show mayE 1 2 r s false true b2 b3 = 0 by rw [mayE_eq, if_pos ho]; rfl] at h; exact h
    | true =>
      cases b1 with
      | false =>
        exact m30_2_1 Y r s b2 b3 ho K fun mm => by have h := hK mm; rw [show mayE 1 2 r s true false b2 b3 = 0 by rw [mayE_eq, if_pos ho]; rfl] at h; exact h
      | true =>
        exact m30_2_3 Y r s b2 b3 ho K fun mm => by have h := hK mm; rw [show mayE 1 2 r s true true b2 b3 = 0 by rw [mayE_eq, if_pos ho]; rfl] at h; exact h
  · cases b0 with
    | false =>
      cases b1 with
      | false =>
        cases b2 with
        | false =>
          exact m30_3_0 Y r s b3 ho K fun mm => by have h := hK mm; rw [show mayE 5 3 r s false false false b3 = 20 by rw [mayE_eq, if_pos ho]; rfl] at h; exact h
        | true =>
          exact m30_3_4 Y r s b3 ho K fun mm => by have h := hK mm; rw [show mayE 5 3 r s false false true b3 = 20 by rw [mayE_eq, if_pos ho]; rfl] at h; exact h
      | true =>
        cases b2 with
        | false =>
          exact m30_3_2 Y r s b3 ho K fun mm => by have h := hK mm; rw [show mayE 5 3 r s false true false b3 = 20 by rw [mayE_eq, if_pos ho]; rfl] at h; exact h
        | true =>
          exact m30_3_6 Y r s b3 ho K fun mm => by have h := hK mm; rw [show mayE 5 3 r s false true true b3 = 0 by rw [mayE_eq, if_pos ho]; rfl] at h; exact h
    | true =>
      cases b1 with
      | false =>
        cases b2 with
        | false =>
          exact m30_3_1 Y r s b3 ho K fun mm => by have h := hK mm; rw [show mayE 5 3 r s true false false b3 = 20 by rw [mayE_eq, if_pos ho]; rfl] at h; exact h
        | true =>
          exact m30_3_5 Y r s b3 ho K fun mm => by have h := hK mm; rw [show mayE 5 3 r s true false true b3 = 0 by rw [mayE_eq, if_pos ho]; rfl] at h; exact h
      | true =>
        cases b2 with
        | false =>
          exact m30_3_3 Y r s b3 ho K fun mm => by have h := hK mm; rw [show mayE 5 3 r s true true false b3 = 0 by rw [mayE_eq, if_pos ho]; rfl] at h; exact h
        | true =>
          exact m30_3_7 Y r s b3 ho K fun mm => by have h := hK mm; rw [show mayE 5 3 r s true true true b3 = 0 by rw [mayE_eq, if_pos ho]; rfl] at h; exact h
  · cases b0 with
    | false =>
      cases b1 with
      | false =>
        cases b2 with
        | false =>
          cases b3 with
          | false =>
            exact m30_4_0 Y r s  ho K fun mm => by have h := hK mm; rw [show mayE 5 4 r s false false false false = 20 by rw [mayE_eq, if_pos ho]; rfl] at h; exact h
          | true =>
            exact m30_4_8 Y r s  ho K fun mm => by have h := hK mm; rw [show mayE 5 4 r s false false false true = 20 by rw [mayE_eq, if_pos ho]; rfl] at h; exact h
        | true =>
          cases b3 with
          | false =>
            exact m30_4_4 Y r s  ho K fun mm => by have h := hK mm; rw [show mayE 5 4 r s false false true false = 20 by rw [mayE_eq, if_pos ho]; rfl] at h; exact h
          | true =>
            exact m30_4_12 Y r s  ho K fun mm => by have h := hK mm; rw [show mayE 5 4 r s false false true true = 20 by rw [mayE_eq, if_pos ho]; rfl] at h; exact h
      | true =>
        cases b2 with
        | false =>
          cases b3 with
          | false =>
            exact m30_4_2 Y r s  ho K fun mm => by have h := hK mm; rw [show mayE 5 4 r s false true false false = 20 by rw [mayE_eq, if_pos ho]; rfl] at h; exact h
          | true =>
            exact m30_4_10 Y r s  ho K fun mm => by have h := hK mm; rw [show mayE 5 4 r s false true false true = 20 by rw [mayE_eq, if_pos ho]; rfl] at h; exact h
        | true =>
          cases b3 with
          | false =>
            exact m30_4_6 Y r s  ho K fun mm => by have h := hK mm; rw [show mayE 5 4 r s false true true false = 20 by rw [mayE_eq, if_pos ho]; rfl] at h; exact h
          | true =>
            exact m30_4_14 Y r s  ho K fun mm => by have h := hK mm; rw [show mayE 5 4 r s false true true true = 0 by rw [mayE_eq, if_pos ho]; rfl] at h; exact h
    | true =>
      cases b1 with
      | false =>
        cases b2 with
        | false =>
          cases b3 with
          | false =>
            exact m30_4_1 Y r s  ho K fun mm => by have h := hK mm; rw [show mayE 5 4 r s true false false false = 20 by rw [mayE_eq, if_pos ho]; rfl] at h; exact h
          | true =>
            exact m30_4_9 Y r s  ho K fun mm => by have h := hK mm; rw [show mayE 5 4 r s true false false true = 20 by rw [mayE_eq, if_pos ho]; rfl] at h; exact h
        | true =>
          cases b3 with
          | false =>
            exact m30_4_5 Y r s  ho K fun mm => by have h := hK mm; rw [show mayE 5 4 r s true false true false = 20 by rw [mayE_eq, if_pos ho]; rfl] at h; exact h
          | true =>
            exact m30_4_13 Y r s  ho K fun mm => by have h := hK mm; rw [show mayE 5 4 r s true false true true = 0 by rw [mayE_eq, if_pos ho]; rfl] at h; exact h
      | true =>
        cases b2 with
        | false =>
          cases b3 with
          | false =>
            exact m30_4_3 Y r s  ho K fun mm => by have h := hK mm; rw [show mayE 5 4 r s true true false false = 20 by rw [mayE_eq, if_pos ho]; rfl] at h; exact h
          | true =>
            exact m30_4_11 Y r s  ho K fun mm => by have h := hK mm; rw [show mayE 5 4 r s true true false true = 0 by rw [mayE_eq, if_pos ho]; rfl] at h; exact h
        | true =>
          cases b3 with
          | false =>
            exact m30_4_7 Y r s  ho K fun mm => by have h := hK mm; rw [show mayE 5 4 r s true true true false = 0 by rw [mayE_eq, if_pos ho]; rfl] at h; exact h
          | true =>
            exact m30_4_15 Y r s  ho K fun mm => by have h := hK mm; rw [show mayE 5 4 r s true true true true = 0 by rw [mayE_eq, if_pos ho]; rfl] at h; exact h
theorem ro_of_may {l m r s : Int} {b0 b1 b2 b3 : Bool} (h : mayE l m r s b0 b1 b2 b3 = 0) : roB l m r s = true := by
  cases ho : roB l m r s with
  | true => rfl
  | false => rw [mayE_eq, ho] at h; simp at h
theorem readsL_in {l m r s x : Int} {b0 b1 b2 b3 : Bool} (he : mayE l m r s b0 b1 b2 b3 = 0) (h0 : 0 ≤ x) (h1 : x < m) : readsL l m r s b0 b1 b2 b3 x = .new (.slice (readL m.toNat [b0, b1, b2, b3] x.toNat).length 1) (some [.int .i64 0]) (.cells (iL (readL m.toNat [b0, b1, b2, b3] x.toNat)) false) := by
  unfold readsL; rw [if_pos he, if_pos ⟨h0, h1⟩]
theorem reads19_walk (Y : Ys Prop) (l m r s x : Int) (b0 b1 b2 b3 : Bool) : body1 pA (callD pA tb0 la30 5) Y c19 [geo l m r, .int .i64 s, ag b0 b1 b2 b3, .int .i64 x] ⟨0, .leaf⟩ (endL (readsL l m r s b0 b1 b2 b3 x)) := by
  by_cases he : mayE l m r s b0 b1 b2 b3 = 0
  · by_cases h0 : x < 0
    · rw [show readsL l m r s b0 b1 b2 b3 x = .plain (.tuple [.nilslice, .int .i64 1]) by unfold readsL; rw [if_pos he, if_neg (by omega)]]
      exact r19_lo Y l m r s x b0 b1 b2 b3 he h0 _ fun _ => rfl
    · by_cases h1 : m ≤ x
      · rw [show readsL l m r s b0 b1 b2 b3 x = .plain (.tuple [.nilslice, .int .i64 1]) by unfold readsL; rw [if_pos he, if_neg (by omega)]]
        exact r19_hi Y l m r s x b0 b1 b2 b3 he (by omega) h1 _ fun _ => rfl
      · rw [readsL_in he (by omega) (by omega)]
        have g := (ro_t.1 (ro_of_may he)).1.1
        rcases g with ⟨rfl, rfl⟩ | ⟨rfl, rfl | rfl⟩
        · rcases (show x = 0 ∨ x = 1 by omega) with rfl | rfl
          · cases b0 with
            | false => exact r19_2_0n Y r s b1 b2 b3 he
            | true => exact r19_2_0y Y r s b1 b2 b3 he
          · cases b1 with
            | false => exact r19_2_1n Y r s b0 b2 b3 he
            | true => exact r19_2_1y Y r s b0 b2 b3 he
        · rcases (show x = 0 ∨ x = 1 ∨ x = 2 by omega) with rfl | rfl | rfl
          · cases b0 with
            | false => exact r19_3_0n Y r s b1 b2 b3 he
            | true => exact r19_3_0y Y r s b1 b2 b3 he
          · cases b1 with
            | false => exact r19_3_1n Y r s b0 b2 b3 he
            | true => exact r19_3_1y Y r s b0 b2 b3 he
          · cases b2 with
            | false => exact r19_3_2n Y r s b0 b1 b3 he
            | true => exact r19_3_2y Y r s b0 b1 b3 he
        · rcases (show x = 0 ∨ x = 1 ∨ x = 2 ∨ x = 3 by omega) with rfl | rfl | rfl | rfl
          · cases b0 with
            | false => exact r19_4_0n Y r s b1 b2 b3 he
            | true => exact r19_4_0y Y r s b1 b2 b3 he
          · cases b1 with
            | false => exact r19_4_1n Y r s b0 b2 b3 he
            | true => exact r19_4_1y Y r s b0 b2 b3 he
          · cases b2 with
            | false => exact r19_4_2n Y r s b0 b1 b3 he
            | true => exact r19_4_2y Y r s b0 b1 b3 he
          · cases b3 with
            | false => exact r19_4_3n Y r s b0 b1 b2 he
            | true => exact r19_4_3y Y r s b0 b1 b2 he
  · rw [show readsL l m r s b0 b1 b2 b3 x = .plain (.tuple [.nilslice, .int .i64 (mayE l m r s b0 b1 b2 b3)]) by unfold readsL; rw [if_neg he]]
    exact r19_e Y l m r s x b0 b1 b2 b3 _ he rfl _ fun _ => rfl
theorem plains_iL : ∀ l : List Int, plains (iL l) = true
  | [] => rfl
  | x :: l => by have := plains_iL l; simp only [iL, List.map_cons, plains, V.plain, Bool.true_and] at *; exact this
theorem readsL_plain (l m r s x : Int) (b0 b1 b2 b3 : Bool) : (readsL l m r s b0 b1 b2 b3 x).isPlain = true := by
  unfold readsL
  split
  · split
    · show (true && (!false && plains (iL _))) = true
      rw [plains_iL]; rfl
    · rfl
  · rfl
theorem readL_len {l m r s x : Int} {b0 b1 b2 b3 : Bool} (he : mayE l m r s b0 b1 b2 b3 = 0) (h0 : 0 ≤ x) (h1 : x < m) : 1 ≤ (readL m.toNat [b0, b1, b2, b3] x.toNat).length ∧ (readL m.toNat [b0, b1, b2, b3] x.toNat).length ≤ 3 := by
  have g := (ro_t.1 (ro_of_may he)).1.1
  have hm : m = 2 ∨ m = 3 ∨ m = 4 := by omega
  have hx : x = 0 ∨ x = 1 ∨ x = 2 ∨ x = 3 := by omega
  rcases hm with rfl | rfl | rfl <;> rcases hx with rfl | rfl | rfl | rfl <;> first | omega | (cases b0 <;> cases b1 <;> cases b2 <;> cases b3 <;> decide)
def valX (xs : List Int) (L : List (Int × List Nat × Nat)) : List Nat × Int := if ∀ y ∈ xs, (lookG L y).length = 64 then (sumG (xs.map (lookG L)), 0) else ([], 1)
theorem valF_in {l m r s x : Int} {b0 b1 b2 b3 : Bool} (he : mayE l m r s b0 b1 b2 b3 = 0) (h0 : 0 ≤ x) (h1 : x < m) (L : List (Int × List Nat × Nat)) : valF l m r s b0 b1 b2 b3 x L = valX (readL m.toNat [b0, b1, b2, b3] x.toNat) L := by
  unfold valF valX; rw [if_pos he, if_pos ⟨h0, h1⟩]
theorem reads_cases (l m r s x : Int) (b0 b1 b2 b3 : Bool) : (∃ e : Int, e ≠ 0 ∧ S19s [geo l m r, .int .i64 s, ag b0 b1 b2 b3, .int .i64 x] = some (.plain (.tuple [.nilslice, .int .i64 e])) ∧ ∀ L, valF l m r s b0 b1 b2 b3 x L = ([], e)) ∨
    ∃ xs : List Int, 1 ≤ xs.length ∧ xs.length ≤ 3 ∧ S19s [geo l m r, .int .i64 s, ag b0 b1 b2 b3, .int .i64 x] = some (.new (.slice xs.length 1) (some [.int .i64 0]) (.cells (iL xs) false)) ∧ ∀ L, valF l m r s b0 b1 b2 b3 x L = valX xs L := by
  have h19 : S19s [geo l m r, .int .i64 s, ag b0 b1 b2 b3, .int .i64 x] = some (readsL l m r s b0 b1 b2 b3 x) := by rw [S19s_eq]; rfl
  by_cases he : mayE l m r s b0 b1 b2 b3 = 0
  · by_cases hx : 0 ≤ x ∧ x < m
    · refine .inr ⟨readL m.toNat [b0, b1, b2, b3] x.toNat, (readL_len he hx.1 hx.2).1, (readL_len he hx.1 hx.2).2, ?_, valF_in he hx.1 hx.2⟩
      rw [h19, readsL_in he hx.1 hx.2]
    · refine .inl ⟨1, by decide, ?_, fun L => ?_⟩
      · rw [h19]; unfold readsL; rw [if_pos he, if_neg hx]
      · unfold valF; rw [if_pos he, if_neg hx]
  · refine .inl ⟨_, he, ?_, fun L => ?_⟩
    · rw [h19]; unfold readsL; rw [if_neg he]
    · unfold valF; rw [if_neg he]
theorem val21_in (Y : Ys Prop) (l m r s x : Int) (b0 b1 b2 b3 : Bool) (L : List (Int × List Nat × Nat)) (c : Nat) (ro : Bool) : ∀ xs : List Int, 1 ≤ xs.length → xs.length ≤ 3 → S19s [geo l m r, .int .i64 s, ag b0 b1 b2 b3, .int .i64 x] = some (.new (.slice xs.length 1) (some [.int .i64 0]) (.cells (iL xs) false)) →
    body1 pA (callD pA tbV la21 6) Y c21 [geo l m r, .int .i64 s, ag b0 b1 b2 b3, .int .i64 x, .map 0] (memO [.map (mV L) c ro]) (endC ⟨[geo l m r, .int .i64 s, ag b0 b1 b2 b3, .int .i64 x, .map 0], [.map (mV L) c ro], .tuple [.str (valX xs L).1, .int .i64 (valX xs L).2], [.map (mV L) c ro], []⟩)
  | [x0], _, _, h => by
    by_cases z0 : (lookG L x0).length = 64
    ·
      have e : valX [x0] L = (sumG [lookG L x0], 0) := if_pos (by intro y hy; simp only [List.mem_cons, List.not_mem_nil, or_false] at hy; rcases hy with rfl <;> assumption)
      rw [e]
      exact v21_1_ok Y l m r s x b0 b1 b2 b3 L c ro x0 h _ _ (look_G L x0) z0 (S28.mk [lookG L x0] (by intro y hy; simp only [List.mem_cons, List.not_mem_nil, or_false] at hy; rcases hy with rfl <;> assumption) (by simp) (by simp))
    ·
      have e : valX [x0] L = ([], 1) := if_neg (fun h => z0 (h x0 (by simp)))
      rw [e]
      exact v21_1_b0 Y l m r s x b0 b1 b2 b3 L c ro x0 h _ (look_G L x0) z0
  | [x0, x1], _, _, h => by
    by_cases z0 : (lookG L x0).length = 64
    ·
      by_cases z1 : (lookG L x1).length = 64
      ·
        have e : valX [x0, x1] L = (sumG [lookG L x0, lookG L x1], 0) := if_pos (by intro y hy; simp only [List.mem_cons, List.not_mem_nil, or_false] at hy; rcases hy with rfl | rfl <;> assumption)
        rw [e]
        exact v21_2_ok Y l m r s x b0 b1 b2 b3 L c ro x0 x1 h _ _ _ (look_G L x0) (look_G L x1) z0 z1 (S28.mk [lookG L x0, lookG L x1] (by intro y hy; simp only [List.mem_cons, List.not_mem_nil, or_false] at hy; rcases hy with rfl | rfl <;> assumption) (by simp) (by simp))
      ·
        have e : valX [x0, x1] L = ([], 1) := if_neg (fun h => z1 (h x1 (by simp)))
        rw [e]
        exact v21_2_b1 Y l m r s x b0 b1 b2 b3 L c ro x0 x1 h _ _ (look_G L x0) (look_G L x1) z0 z1
    ·
      have e : valX [x0, x1] L = ([], 1) := if_neg (fun h => z0 (h x0 (by simp)))
      rw [e]
      exact v21_2_b0 Y l m r s x b0 b1 b2 b3 L c ro x0 x1 h _ _ (look_G L x0) (look_G L x1) z0
  | [x0, x1, x2], _, _, h => by
    by_cases z0 : (lookG L x0).length = 64
    ·
      by_cases z1 : (lookG L x1).length = 64
      ·
        by_cases z2 : (lookG L x2).length = 64
        ·
          have e : valX [x0, x1, x2] L = (sumG [lookG L x0, lookG L x1, lookG L x2], 0) := if_pos (by intro y hy; simp only [List.mem_cons, List.not_mem_nil, or_false] at hy; rcases hy with rfl | rfl | rfl <;> assumption)
          rw [e]
          exact v21_3_ok Y l m r s x b0 b1 b2 b3 L c ro x0 x1 x2 h _ _ _ _ (look_G L x0) (look_G L x1) (look_G L x2) z0 z1 z2 (S28.mk [lookG L x0, lookG L x1, lookG L x2] (by intro y hy; simp only [List.mem_cons, List.not_mem_nil, or_false] at hy; rcases hy with rfl | rfl | rfl <;> assumption) (by simp) (by simp))
        ·
          have e : valX [x0, x1, x2] L = ([], 1) := if_neg (fun h => z2 (h x2 (by simp)))
          rw [e]
          exact v21_3_b2 Y l m r s x b0 b1 b2 b3 L c ro x0 x1 x2 h _ _ _ (look_G L x0) (look_G L x1) (look_G L x2) z0 z1 z2
      ·
        have e : valX [x0, x1, x2] L = ([], 1) := if_neg (fun h => z1 (h x1 (by simp)))
        rw [e]
        exact v21_3_b1 Y l m r s x b0 b1 b2 b3 L c ro x0 x1 x2 h _ _ _ (look_G L x0) (look_G L x1) (look_G L x2) z0 z1
    ·
      have e : valX [x0, x1, x2] L = ([], 1) := if_neg (fun h => z0 (h x0 (by simp)))
      rw [e]
      exact v21_3_b0 Y l m r s x b0 b1 b2 b3 L c ro x0 x1 x2 h _ _ _ (look_G L x0) (look_G L x1) (look_G L x2) z0
  | [], h1, _, _ => absurd h1 (by simp)
  | _ :: _ :: _ :: _ :: _, _, h3, _ => absurd h3 (by simp)
section
variable {P : Program}
variable (hmix : P.follows .mixedOrders = true)
include hmix
theorem la30_ok (l3 : LastOk P la3 id) (o30 : FOk P 30 c30) : LastOk P la30 id :=
  lastFn_ok (callable_fok o30) (fun ρ args args' v hv ha => by
    unfold R30 at hv; split at hv
    · cases hv; exact answers_of_walk hmix o30 (callD_sound pHolds hmix tb0_ok l3 5) ha rfl rfl (fun K hK => may30_walk _ _ _ _ _ _ _ _ _ K hK)
    · cases hv) la0_ok
theorem lr_ok (l30 : LastOk P la30 id) (o19 : FOk P 19 c19) : LastOk P (lastL 19 S19s la0) id :=
  lastL_ok (callable_fok o19) (fun ρ args args' L hv ha => by
    rw [S19s_eq] at hv; unfold S19 at hv; split at hv
    · cases hv; exact ⟨readsL_plain _ _ _ _ _ _ _ _ _, answersL_walk hmix o19 (callD_sound pHolds hmix tb0_ok l30 5) ha rfl (readsL_plain _ _ _ _ _ _ _ _ _) (reads19_walk _ _ _ _ _ _ _ _ _ _)⟩
    · cases hv) la0_ok
theorem la21_ok (lr : LastOk P (lastL 19 S19s la0) id) (o32 : FOk P 32 c32) (o28 : FOk P 28 c28) : LastOk P la21 id :=
  lastC_ok (callable_fok o28) (S28_ok hmix o32 o28) lr
omit hmix in
theorem tbV_ok (o41 : FOk P 41 c41) (o51 : FOk P 51 c51) (o58 : FOk P 58 c58) (o32 : FOk P 32 c32) (o44 : FOk P 44 c44) (o62 : FOk P 62 c62) : TabOk P tbV := by
  intro f af h
  unfold tbV at h
  cases e1 : Nat.beq f 41 with
  | true => rw [e1] at h; cases h; rw [Nat.eq_of_beq_eq_true e1]; exact o41
  | false =>
  cases e2 : Nat.beq f 51 with
  | true => rw [e1, e2] at h; cases h; rw [Nat.eq_of_beq_eq_true e2]; exact o51
  | false =>
  cases e3 : Nat.beq f 58 with
  | true => rw [e1, e2, e3] at h; cases h; rw [Nat.eq_of_beq_eq_true e3]; exact o58
  | false =>
  cases e4 : Nat.beq f 32 with
  | true => rw [e1, e2, e3, e4] at h; cases h; rw [Nat.eq_of_beq_eq_true e4]; exact o32
  | false =>
  cases e5 : Nat.beq f 44 with
  | true => rw [e1, e2, e3, e4, e5] at h; cases h; rw [Nat.eq_of_beq_eq_true e5]; exact o44
  | false =>
  cases e6 : Nat.beq f 62 with
  | true => rw [e1, e2, e3, e4, e5, e6] at h; cases h; rw [Nat.eq_of_beq_eq_true e6]; exact o62
  | false =>
  rw [e1, e2, e3, e4, e5, e6] at h; cases h
theorem S21_ok (tv : TabOk P tbV) (l21 : LastOk P la21 id) (o21 : FOk P 21 c21) : ∀ C, S21 C → C.wf = true → ConOk P 21 C := by
  intro C h _
  cases h with
  | mk l m r s b0 b1 b2 b3 x L c ro =>
    refine conOk_walk hmix o21 (callD_sound pHolds hmix tv l21 6) ?_
    rcases reads_cases l m r s x b0 b1 b2 b3 with ⟨e, he, h19, hv⟩ | ⟨xs, x1, x3, h19, hv⟩
    · rw [hv L]; exact v21_e _ l m r s x b0 b1 b2 b3 L c ro e he h19
    · rw [hv L]; exact val21_in _ l m r s x b0 b1 b2 b3 L c ro xs x1 x3 h19
end
end Go.Proofs.Ytjikaankdnmabaa
