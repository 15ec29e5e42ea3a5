/- The functions by what they answer. No condition. -/
import Derived.Test.YtjikaankdnmabaaVP
import Derived.Test.YtjikaankdnmabaaVW
import Derived.Test.YtjikaankdnmabaaVK
namespace Go.Proofs.Ytjikaankdnmabaa
open Go Go.AM
set_option maxRecDepth 100000
set_option maxHeartbeats 4000000
set_option linter.unusedVariables false
set_option linter.unusedSectionVars false
theorem may30_walk (Y : Ys Prop) (l m r s : Int) (b0 b1 b2 b3 : Bool) (K : V → Mem → Prop) (hK : ∀ mm, K (.int .i64 (mayE l m r s b0 b1 b2 b3)) mm) : body1 pA (callD pA tb0 la3 5) Y c30 [geo l m r, .int .i64 s, ag b0 b1 b2 b3] ⟨0, .leaf⟩ K := by
  cases ho : roB l m r s with
  | false => exact m30_n Y l m r s b0 b1 b2 b3 ho (pz_0 ho) K fun mm => by have h := hK mm; rw [show mayE l m r s b0 b1 b2 b3 = 1 by rw [mayE_eq, ho]; rfl] at h; exact h
  | true =>
  obtain ⟨g, s0, s1⟩ := ro_t.1 ho
  have h1 := g.1
  rcases h1 with ⟨rfl, rfl⟩ | ⟨rfl, rfl | rfl⟩
  · cases b0 with
    | false =>
      cases b1 with
      | false =>
        exact m30_2_0 Y r s b2 b3 ho K fun mm => by have h := hK mm; rw [show mayE 1 2 r s false false b2 b3 = 20 by rw [mayE_eq, if_pos ho]; rfl] at h; exact h
      | true =>
        exact m30_2_2 Y r s b2 b3 ho K fun mm => by have h := hK mm; rw [show mayE 1 2 r s false true b2 b3 = 0 by rw [mayE_eq, if_pos ho]; rfl] at h; exact h
    | true =>
      cases b1 with
      | false =>
        exact m30_2_1 Y r s b2 b3 ho K fun mm => by have h := hK mm; rw [show mayE 1 2 r s true false b2 b3 = 0 by rw [mayE_eq, if_pos ho]; rfl] at h; exact h
      | true =>
        exact m30_2_3 Y r s b2 b3 ho K fun mm => by have h := hK mm; rw [show mayE 1 2 r s true true b2 b3 = 0 by rw [mayE_eq, if_pos ho]; rfl] at h; exact h
  · cases b0 with
    | false =>
      cases b1 with
      | false =>
        cases b2 with
        | false =>
          exact m30_3_0 Y r s b3 ho K fun mm => by have h := hK mm; rw [show mayE 5 3 r s false false false b3 = 20 by rw [mayE_eq, if_pos ho]; rfl] at h; exact h
        | true =>
          exact m30_3_4 Y r s b3 ho K fun mm => by have h := hK mm; rw [show mayE 5 3 r s false false true b3 = 20 by rw [mayE_eq, if_pos ho]; rfl] at h; exact h
      | true =>
        cases b2 with
        | false =>
          exact m30_3_2 Y r s b3 ho K fun mm => by have h := hK mm; rw [show mayE 5 3 r s false true false b3 = 20 by rw [mayE_eq, if_pos ho]; rfl] at h; exact h
        | true =>
          exact m30_3_6 Y r s b3 ho K fun mm => by have h := hK mm; rw [show mayE 5 3 r s false true true b3 = 0 by rw [mayE_eq, if_pos ho]; rfl] at h; exact h
    | true =>
      cases b1 with
      | false =>
        cases b2 with
        | false =>
          exact m30_3_1 Y r s b3 ho K fun mm => by have h := hK mm; rw [show mayE 5 3 r s true false false b3 = 20 by rw [mayE_eq, if_pos ho]; rfl] at h; exact h
        | true =>
          exact m30_3_5 Y r s b3 ho K fun mm => by have h := hK mm; rw [show mayE 5 3 r s true false true b3 = 0 by rw [mayE_eq, if_pos ho]; rfl] at h; exact h
      | true =>
        cases b2 with
        | false =>
          exact m30_3_3 Y r s b3 ho K fun mm => by have h := hK mm; rw [show mayE 5 3 r s true true false b3 = 0 by rw [mayE_eq, if_pos ho]; rfl] at h; exact h
        | true =>
          exact m30_3_7 Y r s b3 ho K fun mm => by have h := hK mm; rw [show mayE 5 3 r s true true true b3 = 0 by rw [mayE_eq, if_pos ho]; rfl] at h; exact h
  · cases b0 with
    | false =>
      cases b1 with
      | false =>
        cases b2 with
        | false =>
          cases b3 with
          | false =>
            exact m30_4_0 Y r s  ho K fun mm => by have h := hK mm; rw [show mayE 5 4 r s false false false false = 20 by rw [mayE_eq, if_pos ho]; rfl] at h; exact h
          | true =>
            exact m30_4_8 Y r s  ho K fun mm => by have h := hK mm; rw [show mayE 5 4 r s false false false true = 20 by rw [mayE_eq, if_pos ho]; rfl] at h; exact h
        | true =>
          cases b3 with
          | false =>
            exact m30_4_4 Y r s  ho K fun mm => by have h := hK mm; rw [show mayE 5 4 r s false false true false = 20 by rw [mayE_eq, if_pos ho]; rfl] at h; exact h
          | true =>
            exact m30_4_12 Y r s  ho K fun mm => by have h := hK mm; rw [show mayE 5 4 r s false false true true = 20 by rw [mayE_eq, if_pos ho]; rfl] at h; exact h
      | true =>
        cases b2 with
        | false =>
          cases b3 with
          | false =>
            exact m30_4_2 Y r s  ho K fun mm => by have h := hK mm; rw [show mayE 5 4 r s false true false false = 20 by rw [mayE_eq, if_pos ho]; rfl] at h; exact h
          | true =>
            exact m30_4_10 Y r s  ho K fun mm => by have h := hK mm; rw [show mayE 5 4 r s false true false true = 20 by rw [mayE_eq, if_pos ho]; rfl] at h; exact h
        | true =>
          cases b3 with
          | false =>
            exact m30_4_6 Y r s  ho K fun mm => by have h := hK mm; rw [show mayE 5 4 r s false true true false = 20 by rw [mayE_eq, if_pos ho]; rfl] at h; exact h
          | true =>
            exact m30_4_14 Y r s  ho K fun mm => by have h := hK mm; rw [show mayE 5 4 r s false true true true = 0 by rw [mayE_eq, if_pos ho]; rfl] at h; exact h
    | true =>
      cases b1 with
      | false =>
        cases b2 with
        | false =>
          cases b3 with
          | false =>
            exact m30_4_1 Y r s  ho K fun mm => by have h := hK mm; rw [show mayE 5 4 r s true false false false = 20 by rw [mayE_eq, if_pos ho]; rfl] at h; exact h
          | true =>
            exact m30_4_9 Y r s  ho K fun mm => by have h := hK mm; rw [show mayE 5 4 r s true false false true = 20 by rw [mayE_eq, if_pos ho]; rfl] at h; exact h
        | true =>
          cases b3 with
          | false =>
            exact m30_4_5 Y r s  ho K fun mm => by have h := hK mm; rw [show mayE 5 4 r s true false true false = 20 by rw [mayE_eq, if_pos ho]; rfl] at h; exact h
          | true =>
            exact m30_4_13 Y r s  ho K fun mm => by have h := hK mm; rw [show mayE 5 4 r s true false true true = 0 by rw [mayE_eq, if_pos ho]; rfl] at h; exact h
      | true =>
        cases b2 with
        | false =>
          cases b3 with
          | false =>
            exact m30_4_3 Y r s  ho K fun mm => by have h := hK mm; rw [show mayE 5 4 r s true true false false = 20 by rw [mayE_eq, if_pos ho]; rfl] at h; exact h
          | true =>
            exact m30_4_11 Y r s  ho K fun mm => by have h := hK mm; rw [show mayE 5 4 r s true true false true = 0 by rw [mayE_eq, if_pos ho]; rfl] at h; exact h
        | true =>
          cases b3 with
          | false =>
            exact m30_4_7 Y r s  ho K fun mm => by have h := hK mm; rw [show mayE 5 4 r s true true true false = 0 by rw [mayE_eq, if_pos ho]; rfl] at h; exact h
          | true =>
            exact m30_4_15 Y r s  ho K fun mm => by have h := hK mm; rw [show mayE 5 4 r s true true true true = 0 by rw [mayE_eq, if_pos ho]; rfl] at h; exact h
theorem may39_walk (Y : Ys Prop) (l m r s : Int) (b0 b1 b2 b3 : Bool) (K : V → Mem → Prop) (hK : ∀ mm, K (.int .i64 (mayE l m r s b0 b1 b2 b3)) mm) : body1 pA (callD pA tb0 la57 5) Y c39 [geo l m r, .int .i64 s, ag b0 b1 b2 b3] ⟨0, .leaf⟩ K := by
  cases ho : roB l m r s with
  | false =>
    have e : mayE l m r s b0 b1 b2 b3 = 1 := by rw [mayE_eq, ho]; rfl
    have hK1 : ∀ mm, K (.int .i64 1) mm := fun mm => by have h := hK mm; rw [e] at h; exact h
    by_cases g : rgP l m r
    · by_cases s0 : s < 0
      · exact m39_n2 Y l m r s b0 b1 b2 b3 (rg_t g) s0 K hK1
      · by_cases s1 : r ≤ s
        · exact m39_n3 Y l m r s b0 b1 b2 b3 (rg_t g) (by omega) s1 K hK1
        · have hh := ro_t.2 (⟨g, by omega, by omega⟩ : rgP l m r ∧ 0 ≤ s ∧ s < r)
          rw [ho] at hh; cases hh
    · exact m39_n1 Y l m r s b0 b1 b2 b3 (rg_f g) K hK1
  | true =>
  obtain ⟨g, s0, s1⟩ := ro_t.1 ho
  have h1 := g.1
  rcases h1 with ⟨rfl, rfl⟩ | ⟨rfl, rfl | rfl⟩
  · cases b0 with
    | false =>
      cases b1 with
      | false =>
        exact m39_2_0 Y r s b2 b3 (rg_t g) s0 s1 K fun mm => by have h := hK mm; rw [show mayE 1 2 r s false false b2 b3 = 20 by rw [mayE_eq, if_pos ho]; rfl] at h; exact h
      | true =>
        exact m39_2_2 Y r s b2 b3 (rg_t g) s0 s1 K fun mm => by have h := hK mm; rw [show mayE 1 2 r s false true b2 b3 = 0 by rw [mayE_eq, if_pos ho]; rfl] at h; exact h
    | true =>
      cases b1 with
      | false =>
        exact m39_2_1 Y r s b2 b3 (rg_t g) s0 s1 K fun mm => by have h := hK mm; rw [show mayE 1 2 r s true false b2 b3 = 0 by rw [mayE_eq, if_pos ho]; rfl] at h; exact h
      | true =>
        exact m39_2_3 Y r s b2 b3 (rg_t g) s0 s1 K fun mm => by have h := hK mm; rw [show mayE 1 2 r s true true b2 b3 = 0 by rw [mayE_eq, if_pos ho]; rfl] at h; exact h
  · cases b0 with
    | false =>
      cases b1 with
      | false =>
        cases b2 with
        | false =>
          exact m39_3_0 Y r s b3 (rg_t g) s0 s1 K fun mm => by have h := hK mm; rw [show mayE 5 3 r s false false false b3 = 20 by rw [mayE_eq, if_pos ho]; rfl] at h; exact h
        | true =>
          exact m39_3_4 Y r s b3 (rg_t g) s0 s1 K fun mm => by have h := hK mm; rw [show mayE 5 3 r s false false true b3 = 20 by rw [mayE_eq, if_pos ho]; rfl] at h; exact h
      | true =>
        cases b2 with
        | false =>
          exact m39_3_2 Y r s b3 (rg_t g) s0 s1 K fun mm => by have h := hK mm; rw [show mayE 5 3 r s false true false b3 = 20 by rw [mayE_eq, if_pos ho]; rfl] at h; exact h
        | true =>
          exact m39_3_6 Y r s b3 (rg_t g) s0 s1 K fun mm => by have h := hK mm; rw [show mayE 5 3 r s false true true b3 = 0 by rw [mayE_eq, if_pos ho]; rfl] at h; exact h
    | true =>
      cases b1 with
      | false =>
        cases b2 with
        | false =>
          exact m39_3_1 Y r s b3 (rg_t g) s0 s1 K fun mm => by have h := hK mm; rw [show mayE 5 3 r s true false false b3 = 20 by rw [mayE_eq, if_pos ho]; rfl] at h; exact h
        | true =>
          exact m39_3_5 Y r s b3 (rg_t g) s0 s1 K fun mm => by have h := hK mm; rw [show mayE 5 3 r s true false true b3 = 0 by rw [mayE_eq, if_pos ho]; rfl] at h; exact h
      | true =>
        cases b2 with
        | false =>
          exact m39_3_3 Y r s b3 (rg_t g) s0 s1 K fun mm => by have h := hK mm; rw [show mayE 5 3 r s true true false b3 = 0 by rw [mayE_eq, if_pos ho]; rfl] at h; exact h
        | true =>
          exact m39_3_7 Y r s b3 (rg_t g) s0 s1 K fun mm => by have h := hK mm; rw [show mayE 5 3 r s true true true b3 = 0 by rw [mayE_eq, if_pos ho]; rfl] at h; exact h
  · cases b0 with
    | false =>
      cases b1 with
      | false =>
        cases b2 with
        | false =>
          cases b3 with
          | false =>
            exact m39_4_0 Y r s  (rg_t g) s0 s1 K fun mm => by have h := hK mm; rw [show mayE 5 4 r s false false false false = 20 by rw [mayE_eq, if_pos ho]; rfl] at h; exact h
          | true =>
            exact m39_4_8 Y r s  (rg_t g) s0 s1 K fun mm => by have h := hK mm; rw [show mayE 5 4 r s false false false true = 20 by rw [mayE_eq, if_pos ho]; rfl] at h; exact h
        | true =>
          cases b3 with
          | false =>
            exact m39_4_4 Y r s  (rg_t g) s0 s1 K fun mm => by have h := hK mm; rw [show mayE 5 4 r s false false true false = 20 by rw [mayE_eq, if_pos ho]; rfl] at h; exact h
          | true =>
            exact m39_4_12 Y r s  (rg_t g) s0 s1 K fun mm => by have h := hK mm; rw [show mayE 5 4 r s false false true true = 20 by rw [mayE_eq, if_pos ho]; rfl] at h; exact h
      | true =>
        cases b2 with
        | false =>
          cases b3 with
          | false =>
            exact m39_4_2 Y r s  (rg_t g) s0 s1 K fun mm => by have h := hK mm; rw [show mayE 5 4 r s false true false false = 20 by rw [mayE_eq, if_pos ho]; rfl] at h; exact h
          | true =>
            exact m39_4_10 Y r s  (rg_t g) s0 s1 K fun mm => by have h := hK mm; rw [show mayE 5 4 r s false true false true = 20 by rw [mayE_eq, if_pos ho]; rfl] at h; exact h
        | true =>
          cases b3 with
          | false =>
            exact m39_4_6 Y r s  (rg_t g) s0 s1 K fun mm => by have h := hK mm; rw [show mayE 5 4 r s false true true false = 20 by rw [mayE_eq, if_pos ho]; rfl] at h; exact h
          | true =>
            exact m39_4_14 Y r s  (rg_t g) s0 s1 K fun mm => by have h := hK mm; rw [show mayE 5 4 r s false true true true = 0 by rw [mayE_eq, if_pos ho]; rfl] at h; exact h
    | true =>
      cases b1 with
      | false =>
        cases b2 with
        | false =>
          cases b3 with
          | false =>
            exact m39_4_1 Y r s  (rg_t g) s0 s1 K fun mm => by have h := hK mm; rw [show mayE 5 4 r s true false false false = 20 by rw [mayE_eq, if_pos ho]; rfl] at h; exact h
          | true =>
            exact m39_4_9 Y r s  (rg_t g) s0 s1 K fun mm => by have h := hK mm; rw [show mayE 5 4 r s true false false true = 20 by rw [mayE_eq, if_pos ho]; rfl] at h; exact h
        | true =>
          cases b3 with
          | false =>
            exact m39_4_5 Y r s  (rg_t g) s0 s1 K fun mm => by have h := hK mm; rw [show mayE 5 4 r s true false true false = 20 by rw [mayE_eq, if_pos ho]; rfl] at h; exact h
          | true =>
            exact m39_4_13 Y r s  (rg_t g) s0 s1 K fun mm => by have h := hK mm; rw [show mayE 5 4 r s true false true true = 0 by rw [mayE_eq, if_pos ho]; rfl] at h; exact h
      | true =>
        cases b2 with
        | false =>
          cases b3 with
          | false =>
            exact m39_4_3 Y r s  (rg_t g) s0 s1 K fun mm => by have h := hK mm; rw [show mayE 5 4 r s true true false false = 20 by rw [mayE_eq, if_pos ho]; rfl] at h; exact h
          | true =>
            exact m39_4_11 Y r s  (rg_t g) s0 s1 K fun mm => by have h := hK mm; rw [show mayE 5 4 r s true true false true = 0 by rw [mayE_eq, if_pos ho]; rfl] at h; exact h
        | true =>
          cases b3 with
          | false =>
            exact m39_4_7 Y r s  (rg_t g) s0 s1 K fun mm => by have h := hK mm; rw [show mayE 5 4 r s true true true false = 0 by rw [mayE_eq, if_pos ho]; rfl] at h; exact h
          | true =>
            exact m39_4_15 Y r s  (rg_t g) s0 s1 K fun mm => by have h := hK mm; rw [show mayE 5 4 r s true true true true = 0 by rw [mayE_eq, if_pos ho]; rfl] at h; exact h
theorem ro_of_may {l m r s : Int} {b0 b1 b2 b3 : Bool} (h : mayE l m r s b0 b1 b2 b3 = 0) : roB l m r s = true := by
  cases ho : roB l m r s with
  | true => rfl
  | false => rw [mayE_eq, ho] at h; simp at h
theorem great_walk (Y : Ys Prop) (L : List (Int × List Nat × Nat)) (c : Nat) (ro : Bool) (h : ∀ y ∈ L, y.2.2 < c) (hn : (L.map fun y => y.2.2).Nodup) :
    body1 pA (callD pA tb0 la0 5) Y c8 [.map 0] (memO [.map (mV L) c ro]) (endC ⟨[.map 0], [.map (mV L) c ro], .bool (greatB L), [.map (mV L) c ro], []⟩) := by
  by_cases h20 : 20 < L.length
  · have e : greatB L = true := by unfold greatB; rw [decide_eq_true h20]; rfl
    rw [e]
    exact g_big Y L c ro (by rw [mV_length]; exact h20)
  · have hle : (mV L).length ≤ 20 := by rw [mV_length]; omega
    have hs : Stamped (mV L) c := ⟨fun y hy => by obtain ⟨z, hz, rfl⟩ := mV_mem hy; exact h z hz, by rw [mV_stamps]; exact hn, by unfold rounds; omega⟩
    have hb : ∀ (vis : List En) (y : En), (memL 2 [(0, .map (mV L) c ro), (1, itO 0 c vis)]).set 1 (itO1 0 c vis y.2.2) = memL 2 [(0, .map (mV L) c ro), (1, itO1 0 c vis y.2.2)] := fun _ _ => rfl
    by_cases hbad : ∃ y ∈ mV L, ∃ s, y.2.1 = .str s ∧ 200 < s.length
    · have e : greatB L = true := by
        obtain ⟨y, hy, s, h1, h2⟩ := hbad
        obtain ⟨z, hz, rfl⟩ := mV_mem hy
        cases h1
        unfold greatB
        rw [Bool.or_eq_true]
        exact .inr (List.any_eq_true.2 ⟨z, hz, decide_eq_true h2⟩)
      rw [e]
      refine g_yes Y L c ro hle ?_
      show LoopOk3 (callD pA tb0 la0 5) c8l0 .ret (memL 2 [(0, .map (mV L) c ro), (1, .iter (some 0) c [] c)]) [(s9, .ptr 1 0)] (fun v => Vis (mV L) v) (fun v => memL 2 [(0, .map (mV L) c ro), (1, .iter (some 0) c (stamps v) c)]) (fun v => [(s2, .bool true)])
      rw [c8l0_eq]
      refine rangeX hs (fun y => ∃ s, y.2.1 = .str s ∧ 200 < s.length) (fun vis => memL 2 [(0, .map (mV L) c ro), (1, itO 0 c vis)]) (fun vis y => memL 2 [(0, .map (mV L) c ro), (1, itO1 0 c vis y.2.2)]) (fun _ => [(s9, .ptr 1 0)]) (by intro h; cases h) _ _
        (fun _ => rfl) (fun _ => rfl) hb (fun _ _ hT => hT.1) (fun _ => ⟨rfl, rfl⟩) (fun Y vis y T _ hy _ hnb hT K hK => ?_) (fun Y vis y T _ hy _ hbd hT K hK => ?_) hbad
      · obtain ⟨z, hz, rfl⟩ := mV_mem hy
        refine g_s Y L c z.2.2 (stamps vis) ro z.1 z.2.1 (entry_ok hs hy _ _) (Nat.not_lt.1 fun hh => hnb ⟨_, rfl, hh⟩) T hT K fun T' hT' => ?_
        have := hK T' hT'
        rw [show itO 0 c (vis ++ [(V.int .i64 z.1, V.str z.2.1, z.2.2)]) = .iter (some 0) c (stamps vis ++ [z.2.2]) c by unfold itO; rw [stamps_app]] at this
        exact this
      · obtain ⟨z, hz, rfl⟩ := mV_mem hy
        obtain ⟨s, h1, h2⟩ := hbd
        cases h1
        refine g_x Y L c z.2.2 (stamps vis) ro z.1 z.2.1 (entry_ok hs hy _ _) h2 T hT K fun T' hT' => ?_
        have := hK T' hT'
        rw [stamps_app] at this
        exact this
    · have e : greatB L = false := by
        unfold greatB
        rw [decide_eq_false h20, Bool.false_or]
        refine Bool.eq_false_iff.2 fun hh => ?_
        obtain ⟨z, hz, h2⟩ := List.any_eq_true.1 hh
        exact hbad ⟨_, mem_mV hz, _, rfl, of_decide_eq_true h2⟩
      rw [e]
      refine g_no Y L c ro hle ?_
      show LoopOk3 (callD pA tb0 la0 5) c8l0 (.exit 0) (memL 2 [(0, .map (mV L) c ro), (1, .iter (some 0) c [] c)]) [(s9, .ptr 1 0)] (fun v => List.Perm v (mV L)) (fun v => memL 2 [(0, .map (mV L) c ro), (1, .iter (some 0) c (stamps v) c)]) (fun v => [])
      rw [c8l0_eq]
      intro Y T hT K hK
      refine rangeL hs (fun vis => memL 2 [(0, .map (mV L) c ro), (1, itO 0 c vis)]) (fun vis y => memL 2 [(0, .map (mV L) c ro), (1, itO1 0 c vis y.2.2)]) (fun _ => [(s9, .ptr 1 0)])
        (fun _ => rfl) (fun _ => rfl) hb (fun _ _ hT => hT.1) (fun _ => ⟨rfl, rfl⟩) (fun Y vis y T _ hy _ hT K hK => ?_) Y T hT K (fun v hv T' hT' => hK v hv T' trivial)
      obtain ⟨z, hz, rfl⟩ := mV_mem hy
      refine g_s Y L c z.2.2 (stamps vis) ro z.1 z.2.1 (entry_ok hs hy _ _) (Nat.not_lt.1 fun hh => hbad ⟨_, hy, _, rfl, hh⟩) T hT K fun T' hT' => ?_
      have := hK T' hT'
      rw [show itO 0 c (vis ++ [(V.int .i64 z.1, V.str z.2.1, z.2.2)]) = .iter (some 0) c (stamps vis ++ [z.2.2]) c by unfold itO; rw [stamps_app]] at this
      exact this
section
variable {P : Program}
variable (hmix : P.follows .mixedOrders = true)
include hmix
theorem la57_ok (o57 : FOk P 57 c57) : LastOk P la57 id := lastFn_ok (callable_fok o57) (fun ρ args args' v hv ha => by
  unfold R61 at hv; split at hv
  · cases hv; exact answers_of_walk hmix o57 (callD_sound pHolds hmix tb0_ok la0_ok 5) ha rfl rfl (fun K hK => xright _ _ _ _ K hK)
  · cases hv) la0_ok
theorem S8_ok (o8 : FOk P 8 c8) : ∀ C, S8 C → C.wf = true → ConOk P 8 C := by
  intro C h _
  cases h with
  | mk L c ro h hn => exact conOk_walk hmix o8 (callD_sound pHolds hmix tb0_ok la0_ok 5) (great_walk _ L c ro h hn)
  | nil => exact conOk_walk hmix o8 (callD_sound pHolds hmix tb0_ok la0_ok 5) (g_nil _)
end
end Go.Proofs.Ytjikaankdnmabaa
