/- Needs: contracts. No condition. -/
import Derived.Test.YtjikaankdnmabaaEW
import Derived.Test.YtjikaankdnmabaaNW
import Derived.Test.YtjikaankdnmabaaVK
import Derived.Test.YtjikaankdnmabaaAM47
namespace Go.Proofs.Ytjikaankdnmabaa
open Go Go.AM
set_option maxRecDepth 100000
set_option maxHeartbeats 4000000
set_option linter.unusedVariables false
set_option linter.unusedSectionVars false
theorem wfM (L : List (Int × List Nat × Nat)) (c : Nat) (ro : Bool) (x : Int) (b : Bool) : Con.wf ⟨[.int .i64 x, .ptr 0 0], [.cells [.map 1] false, .map (mV L) c ro], .bool b, [.cells [.map 1] false, .map (mV L) c ro], []⟩ = true := by
  simp only [Con.wf, bels, V.bel, Con.p0, List.length_cons, List.length_nil, List.all_cons, List.all_nil, AObj.bel, ebels_mV, AObj.live, Bool.and_true, nodupN, Bool.and_self]
  rfl
section
variable {P : Program}
variable (hmix : P.follows .mixedOrders = true)
include hmix
theorem s50_ok (o50 : FOk P 50 c50) : ∀ C, S50 C → C.wf = true → ConOk P 50 C := by
  intro C h _
  cases h with | mk L c ro x =>
  exact conOk_walk hmix o50 (callD_sound pHolds hmix tb0_ok la0_ok 5) (oc Ys.none L c ro x _ _ (look_G2 L x))
theorem la50_ok (o50 : FOk P 50 c50) : LastOk P la50 id := lastCl_ok (callable_fok o50) (s50_ok hmix o50) la0_ok
omit hmix in
theorem tbDel_ok (o62 : FOk P 62 c62) : TabOk P tbDel := by
  intro f af h
  simp only [tbDel] at h
  by_cases e : f = 62
  · subst e; cases h; exact o62
  · rw [nbeqF e] at h; cases h
theorem s49_ok (o50 : FOk P 50 c50) (o62 : FOk P 62 c62) (o49 : FOk P 49 c49) : ∀ C, S49 C → C.wf = true → ConOk P 49 C := by
  intro C h _
  cases h with | mk L c ro xs h1 h3 =>
  have hcf := callD_sound pHolds hmix (tbDel_ok o62) (la50_ok hmix o50) 6
  have u1 : ∀ {x : Int}, hasG L x = true → S50 ⟨[.int .i64 x, .ptr 0 0], [.cells [.map 1] false, .map (mV L) c ro], .bool true, [.cells [.map 1] false, .map (mV L) c ro], []⟩ := fun {x} h => by have := S50.mk L c ro x; rwa [h] at this
  have u0 : ∀ {x : Int}, hasG L x = false → S50 ⟨[.int .i64 x, .ptr 0 0], [.cells [.map 1] false, .map (mV L) c ro], .bool false, [.cells [.map 1] false, .map (mV L) c ro], []⟩ := fun {x} h => by have := S50.mk L c ro x; rwa [h] at this
  have w := fun x b => wfM L c ro x b
  match xs, h1, h3 with
  | [d0], _, _ =>
    cases h0 : hasG L d0 with
    | false =>
      have e : restL L [d0] = [d0] := by simp [restL, h0]
      rw [e]
      exact conOk_walk hmix o49 hcf (del_1_0 Ys.none L c ro d0 (u0 h0) (w _ _))
    | true =>
      have e : restL L [d0] = [] := by simp [restL, h0]
      rw [e]
      exact conOk_walk hmix o49 hcf (del_1_1 Ys.none L c ro d0 (u1 h0) (w _ _))
  | [d0, d1], _, _ =>
    cases h0 : hasG L d0 with
    | false =>
      cases h1 : hasG L d1 with
      | false =>
        have e : restL L [d0, d1] = [d0, d1] := by simp [restL, h0, h1]
        rw [e]
        exact conOk_walk hmix o49 hcf (del_2_0 Ys.none L c ro d0 d1 (u0 h0) (w _ _) (u0 h1) (w _ _))
      | true =>
        have e : restL L [d0, d1] = [d0] := by simp [restL, h0, h1]
        rw [e]
        exact conOk_walk hmix o49 hcf (del_2_2 Ys.none L c ro d0 d1 (u0 h0) (w _ _) (u1 h1) (w _ _))
    | true =>
      cases h1 : hasG L d1 with
      | false =>
        have e : restL L [d0, d1] = [d1] := by simp [restL, h0, h1]
        rw [e]
        exact conOk_walk hmix o49 hcf (del_2_1 Ys.none L c ro d0 d1 (u1 h0) (w _ _) (u0 h1) (w _ _))
      | true =>
        have e : restL L [d0, d1] = [] := by simp [restL, h0, h1]
        rw [e]
        exact conOk_walk hmix o49 hcf (del_2_3 Ys.none L c ro d0 d1 (u1 h0) (w _ _) (u1 h1) (w _ _))
  | [d0, d1, d2], _, _ =>
    cases h0 : hasG L d0 with
    | false =>
      cases h1 : hasG L d1 with
      | false =>
        cases h2 : hasG L d2 with
        | false =>
          have e : restL L [d0, d1, d2] = [d0, d1, d2] := by simp [restL, h0, h1, h2]
          rw [e]
          exact conOk_walk hmix o49 hcf (del_3_0 Ys.none L c ro d0 d1 d2 (u0 h0) (w _ _) (u0 h1) (w _ _) (u0 h2) (w _ _))
        | true =>
          have e : restL L [d0, d1, d2] = [d0, d1] := by simp [restL, h0, h1, h2]
          rw [e]
          exact conOk_walk hmix o49 hcf (del_3_4 Ys.none L c ro d0 d1 d2 (u0 h0) (w _ _) (u0 h1) (w _ _) (u1 h2) (w _ _))
      | true =>
        cases h2 : hasG L d2 with
        | false =>
          have e : restL L [d0, d1, d2] = [d0, d2] := by simp [restL, h0, h1, h2]
          rw [e]
          exact conOk_walk hmix o49 hcf (del_3_2 Ys.none L c ro d0 d1 d2 (u0 h0) (w _ _) (u1 h1) (w _ _) (u0 h2) (w _ _))
        | true =>
          have e : restL L [d0, d1, d2] = [d0] := by simp [restL, h0, h1, h2]
          rw [e]
          exact conOk_walk hmix o49 hcf (del_3_6 Ys.none L c ro d0 d1 d2 (u0 h0) (w _ _) (u1 h1) (w _ _) (u1 h2) (w _ _))
    | true =>
      cases h1 : hasG L d1 with
      | false =>
        cases h2 : hasG L d2 with
        | false =>
          have e : restL L [d0, d1, d2] = [d1, d2] := by simp [restL, h0, h1, h2]
          rw [e]
          exact conOk_walk hmix o49 hcf (del_3_1 Ys.none L c ro d0 d1 d2 (u1 h0) (w _ _) (u0 h1) (w _ _) (u0 h2) (w _ _))
        | true =>
          have e : restL L [d0, d1, d2] = [d1] := by simp [restL, h0, h1, h2]
          rw [e]
          exact conOk_walk hmix o49 hcf (del_3_5 Ys.none L c ro d0 d1 d2 (u1 h0) (w _ _) (u0 h1) (w _ _) (u1 h2) (w _ _))
      | true =>
        cases h2 : hasG L d2 with
        | false =>
          have e : restL L [d0, d1, d2] = [d2] := by simp [restL, h0, h1, h2]
          rw [e]
          exact conOk_walk hmix o49 hcf (del_3_3 Ys.none L c ro d0 d1 d2 (u1 h0) (w _ _) (u1 h1) (w _ _) (u0 h2) (w _ _))
        | true =>
          have e : restL L [d0, d1, d2] = [] := by simp [restL, h0, h1, h2]
          rw [e]
          exact conOk_walk hmix o49 hcf (del_3_7 Ys.none L c ro d0 d1 d2 (u1 h0) (w _ _) (u1 h1) (w _ _) (u1 h2) (w _ _))
  | [], h, _ => exact absurd h (by simp)
  | _ :: _ :: _ :: _ :: _, _, h => exact absurd h (by simp)
omit hmix in
theorem tbIx_ok (o48 : FOk P 48 c48) : TabOk P tbIx := by
  intro f af h
  simp only [tbIx] at h
  by_cases e : f = 48
  · subst e; cases h; exact o48
  · rw [nbeqF e] at h; cases h
theorem s31_ok (o48 : FOk P 48 c48) (o31 : FOk P 31 c31) : ∀ C, S31 C → C.wf = true → ConOk P 31 C := by
  intro C h _
  cases h with | mk xs x k hk h1 h3 =>
  subst hk
  have hcf := callD_sound pHolds hmix (tbIx_ok o48) la0_ok 5
  match xs, h1, h3 with
  | [d0], _, _ =>
    by_cases e0 : x = d0
    · rw [show decide (x ∈ [d0]) = true from decide_eq_true (by simp [e0])]
      exact conOk_walk hmix o31 hcf (has_1_0 Ys.none x d0  e0)
    rw [show decide (x ∈ [d0]) = false from decide_eq_false (by simp [e0])]
    exact conOk_walk hmix o31 hcf (has_1_n Ys.none x d0 e0)
  | [d0, d1], _, _ =>
    by_cases e0 : x = d0
    · rw [show decide (x ∈ [d0, d1]) = true from decide_eq_true (by simp [e0])]
      exact conOk_walk hmix o31 hcf (has_2_0 Ys.none x d0 d1  e0)
    by_cases e1 : x = d1
    · rw [show decide (x ∈ [d0, d1]) = true from decide_eq_true (by simp [e1])]
      exact conOk_walk hmix o31 hcf (has_2_1 Ys.none x d0 d1 e0 e1)
    rw [show decide (x ∈ [d0, d1]) = false from decide_eq_false (by simp [e0, e1])]
    exact conOk_walk hmix o31 hcf (has_2_n Ys.none x d0 d1 e0 e1)
  | [d0, d1, d2], _, _ =>
    by_cases e0 : x = d0
    · rw [show decide (x ∈ [d0, d1, d2]) = true from decide_eq_true (by simp [e0])]
      exact conOk_walk hmix o31 hcf (has_3_0 Ys.none x d0 d1 d2  e0)
    by_cases e1 : x = d1
    · rw [show decide (x ∈ [d0, d1, d2]) = true from decide_eq_true (by simp [e1])]
      exact conOk_walk hmix o31 hcf (has_3_1 Ys.none x d0 d1 d2 e0 e1)
    by_cases e2 : x = d2
    · rw [show decide (x ∈ [d0, d1, d2]) = true from decide_eq_true (by simp [e2])]
      exact conOk_walk hmix o31 hcf (has_3_2 Ys.none x d0 d1 d2 e0 e1 e2)
    rw [show decide (x ∈ [d0, d1, d2]) = false from decide_eq_false (by simp [e0, e1, e2])]
    exact conOk_walk hmix o31 hcf (has_3_n Ys.none x d0 d1 d2 e0 e1 e2)
  | [], h, _ => exact absurd h (by simp)
  | _ :: _ :: _ :: _ :: _, _, h => exact absurd h (by simp)
theorem s52_ok (o52 : FOk P 52 c52) : ∀ C, S52 C → C.wf = true → ConOk P 52 C := by
  intro C h _
  cases h with | mk b0 b1 b2 b3 x h0 h1 =>
  obtain ⟨n, rfl⟩ := Int.eq_ofNat_of_zero_le h0
  have hn : n < 4 := by omega
  refine conOk_walk hmix o52 (callD_sound pHolds hmix tb0_ok la0_ok 5) (wc Ys.none b0 b1 b2 b3 _ n hn ?_)
  match n, hn with
  | 0, _ => rfl
  | 1, _ => rfl
  | 2, _ => rfl
  | 3, _ => rfl
  | n + 4, h => omega
theorem la52_ok (o52 : FOk P 52 c52) : LastOk P la52 id := lastCl_ok (callable_fok o52) (s52_ok hmix o52) la0_ok
omit hmix in
theorem tbWh_ok (o51 : FOk P 51 c51) (o62 : FOk P 62 c62) : TabOk P tbWh := by
  intro f af h
  simp only [tbWh] at h
  by_cases e : f = 51
  · subst e; cases h; exact o51
  · rw [nbeqF e, cond_false] at h
    by_cases e' : f = 62
    · subst e'; cases h; exact o62
    · rw [nbeqF e'] at h; cases h
theorem s34_ok (o52 : FOk P 52 c52) (o51 : FOk P 51 c51) (o62 : FOk P 62 c62) (o34 : FOk P 34 c34) : ∀ C, S34 C → C.wf = true → ConOk P 34 C := by
  intro C h _
  have hcf := callD_sound pHolds hmix (tbWh_ok o51 o62) (la52_ok hmix o52) 6
  cases h with
  | nil b0 b1 b2 b3 => exact conOk_walk hmix o34 hcf (wh_0 Ys.none b0 b1 b2 b3)
  | mk b0 b1 b2 b3 ys h h1 h3 j hj =>
  subst hj
  have u1 : ∀ {x : Int}, 0 ≤ x ∧ x < 4 → inB4 b0 b1 b2 b3 x = false → S52 ⟨[.int .i64 x, .ptr 0 0], [.cells (inP b0 b1 b2 b3) false], .bool true, [.cells (inP b0 b1 b2 b3) false], []⟩ := fun {x} h e => by have := S52.mk b0 b1 b2 b3 x h.1 h.2; rwa [e] at this
  have u0 : ∀ {x : Int}, 0 ≤ x ∧ x < 4 → inB4 b0 b1 b2 b3 x = true → S52 ⟨[.int .i64 x, .ptr 0 0], [.cells (inP b0 b1 b2 b3) false], .bool false, [.cells (inP b0 b1 b2 b3) false], []⟩ := fun {x} h e => by have := S52.mk b0 b1 b2 b3 x h.1 h.2; rwa [e] at this
  match ys, h, h1, h3 with
  | [d0], h, _, _ =>
    have r0 := h d0 (by simp)
    cases e0 : inB4 b0 b1 b2 b3 d0 with
    | false =>
      rw [show List.all [d0] (inB4 b0 b1 b2 b3) = false by simp [e0]]
      exact conOk_walk hmix o34 hcf (wh_1_0 Ys.none b0 b1 b2 b3 d0 (u1 r0 e0))
    | true =>
      rw [show List.all [d0] (inB4 b0 b1 b2 b3) = true by simp [e0]]
      exact conOk_walk hmix o34 hcf (wh_1_1 Ys.none b0 b1 b2 b3 d0 (u0 r0 e0))
  | [d0, d1], h, _, _ =>
    have r0 := h d0 (by simp)
    have r1 := h d1 (by simp)
    cases e0 : inB4 b0 b1 b2 b3 d0 with
    | false =>
      rw [show List.all [d0, d1] (inB4 b0 b1 b2 b3) = false by simp [e0]]
      exact conOk_walk hmix o34 hcf (wh_2_0 Ys.none b0 b1 b2 b3 d0 d1 (u1 r0 e0))
    | true =>
      cases e1 : inB4 b0 b1 b2 b3 d1 with
      | false =>
        rw [show List.all [d0, d1] (inB4 b0 b1 b2 b3) = false by simp [e0, e1]]
        exact conOk_walk hmix o34 hcf (wh_2_1 Ys.none b0 b1 b2 b3 d0 d1 (u0 r0 e0) (u1 r1 e1))
      | true =>
        rw [show List.all [d0, d1] (inB4 b0 b1 b2 b3) = true by simp [e0, e1]]
        exact conOk_walk hmix o34 hcf (wh_2_2 Ys.none b0 b1 b2 b3 d0 d1 (u0 r0 e0) (u0 r1 e1))
  | [d0, d1, d2], h, _, _ =>
    have r0 := h d0 (by simp)
    have r1 := h d1 (by simp)
    have r2 := h d2 (by simp)
    cases e0 : inB4 b0 b1 b2 b3 d0 with
    | false =>
      rw [show List.all [d0, d1, d2] (inB4 b0 b1 b2 b3) = false by simp [e0]]
      exact conOk_walk hmix o34 hcf (wh_3_0 Ys.none b0 b1 b2 b3 d0 d1 d2 (u1 r0 e0))
    | true =>
      cases e1 : inB4 b0 b1 b2 b3 d1 with
      | false =>
        rw [show List.all [d0, d1, d2] (inB4 b0 b1 b2 b3) = false by simp [e0, e1]]
        exact conOk_walk hmix o34 hcf (wh_3_1 Ys.none b0 b1 b2 b3 d0 d1 d2 (u0 r0 e0) (u1 r1 e1))
      | true =>
        cases e2 : inB4 b0 b1 b2 b3 d2 with
        | false =>
          rw [show List.all [d0, d1, d2] (inB4 b0 b1 b2 b3) = false by simp [e0, e1, e2]]
          exact conOk_walk hmix o34 hcf (wh_3_2 Ys.none b0 b1 b2 b3 d0 d1 d2 (u0 r0 e0) (u0 r1 e1) (u1 r2 e2))
        | true =>
          rw [show List.all [d0, d1, d2] (inB4 b0 b1 b2 b3) = true by simp [e0, e1, e2]]
          exact conOk_walk hmix o34 hcf (wh_3_3 Ys.none b0 b1 b2 b3 d0 d1 d2 (u0 r0 e0) (u0 r1 e1) (u0 r2 e2))
  | [], _, h, _ => exact absurd h (by simp)
  | _ :: _ :: _ :: _ :: _, _, _, h => exact absurd h (by simp)
end
end Go.Proofs.Ytjikaankdnmabaa
