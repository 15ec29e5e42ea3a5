/- The law by its cases. No condition. -/
import Derived.Test.YthmbmcpjakbepaaTW
import Derived.Test.YthmbmcpjakbepaaKG
namespace Go.Proofs.Ythmbmcpjakbepaa
open Go Go.AM
set_option maxRecDepth 100000
set_option maxHeartbeats 4000000
section
variable {a l n r E p x0 x1 x2 x3 c : Int}
theorem right_n (h : rightS a 0 l n r E p x0 x1 x2 x3 c = true) : (n = 2 ∨ n = 3 ∨ n = 4) ∧ 1 ≤ x0 ∧ x0 ≤ 3 ∧ 1 ≤ x1 ∧ x1 ≤ 3 ∧ (n ≤ 2 ∧ x2 = 0 ∨ 3 ≤ n ∧ 1 ≤ x2 ∧ x2 ≤ 3) ∧ (n ≤ 3 ∧ x3 = 0 ∨ 4 ≤ n ∧ 1 ≤ x3 ∧ x3 ≤ 3) := by
  rw [rightS_eq, decide_eq_true_eq] at h
  unfold rightP rgP at h
  obtain ⟨k1, k2, k3, k4, k5, k6, k7, k8, k9, j0, j1, j2, j3, j4, j5, _⟩ := h
  exact ⟨by omega, j0, j1, j2, j3, j4, j5⟩
end
theorem maxE_fold (E : Int) : ∀ (l : List Sp) (g : Int), (∀ s ∈ l, s.e ≤ E) → g ≤ E → (g = E ∨ ∃ s ∈ l, s.e = E) → l.foldl (fun g s => bif decide (s.e > g) then s.e else g) g = E
  | [], g, _, _, h => by
    rcases h with h | ⟨s, h, _⟩
    · exact h
    · cases h
  | s :: l, g, h1, h2, h3 => by
    rw [List.foldl_cons]
    have hs := h1 s List.mem_cons_self
    refine maxE_fold E l _ (fun t ht => h1 t (List.mem_cons_of_mem _ ht)) ?_ ?_
    · by_cases e : s.e > g <;> simp only [e, decide_true, decide_false, cond_true, cond_false] <;> omega
    · by_cases e : s.e > g
      · simp only [e, decide_true, cond_true]
        rcases h3 with h3 | ⟨t, ht, h4⟩
        · exact .inl (by omega)
        · rcases List.mem_cons.1 ht with rfl | ht
          · exact .inl h4
          · exact .inr ⟨t, ht, h4⟩
      · simp only [e, decide_false, cond_false]
        rcases h3 with h3 | ⟨t, ht, h4⟩
        · exact .inl h3
        · rcases List.mem_cons.1 ht with rfl | ht
          · exact .inl (by omega)
          · exact .inr ⟨t, ht, h4⟩
theorem own_ne {D : Dk} {q : Int} {n u : Nat} (hu : u < n) (ho : isOwn D q u) : own D q n ≠ [] := fun e => by
  have h : (u, D.sp u) ∈ own D q n := mem_own.2 ⟨hu, ho, rfl⟩
  rw [e] at h; cases h
def oW (f0 f1 f2 f3 : Bool) (x0 x1 x2 x3 : Int) : Nat → Int
  | 0 => 0
  | 1 => one0 f0 x0
  | 2 => one0 f0 x0 + one0 f1 x1
  | 3 => one0 f0 x0 + one0 f1 x1 + one0 f2 x2
  | _ => one0 f0 x0 + one0 f1 x1 + one0 f2 x2 + one0 f3 x3
theorem one0_b (f : Bool) (x : Int) : 0 ≤ one0 f x ∧ one0 f x ≤ 1 := by unfold one0; split <;> decide
theorem oW_b (f0 f1 f2 f3 : Bool) (x0 x1 x2 x3 : Int) (i : Nat) : 0 ≤ oW f0 f1 f2 f3 x0 x1 x2 x3 i ∧ oW f0 f1 f2 f3 x0 x1 x2 x3 i ≤ 10 := by
  have h0 := one0_b f0 x0; have h1 := one0_b f1 x1; have h2 := one0_b f2 x2; have h3 := one0_b f3 x3
  unfold oW
  split <;> omega
theorem one0_c {f : Bool} {x : Int} (hf : f = true) (hx : x = 1) : one0 f x = 0 := if_pos ⟨hf, hx⟩
theorem one0_a {f : Bool} {x : Int} (hf : f = false) : one0 f x = 1 := if_neg fun h => by rw [hf] at h; exact absurd h.1 (by decide)
theorem one0_x {f : Bool} {x : Int} (hx : x ≠ 1) : one0 f x = 1 := if_neg fun h => hx h.2
theorem wk_st (Y : Ys Prop) (a m l n r e p x0 x1 x2 x3 c d0 d1 d2 d3 : Int) (f0 f1 f2 f3 : Bool) {o ov x : Int} {f : Bool} (o1 : 0 ≤ o) (o2 : o ≤ 10) (n1 : 2 ≤ n) (n2 : n ≤ 4) (i : Nat) (i4 : i < 4) (hi : ((i : Nat) : Int) < n) (hf : nth (mad a m l n r e p x0 x1 x2 x3 c d0 d1 d2 d3 f0 f1 f2 f3) (16 + i * 1) = some (.bool f)) (hx : nth (mad a m l n r e p x0 x1 x2 x3 c d0 d1 d2 d3 f0 f1 f2 f3) (7 + i * 1) = some (.int .i64 x)) (ue : ov = o + one0 f x)
    (T : Slots) (hT : allS T [(s1, .ptr 0 0), (s2, .bool false), (s3, .int .i64 o), (s12, .int .i64 n), (s13, .int .i64 ((i : Nat) : Int))]) (K : Ex → Slots → Mem → Prop) (hK : ∀ T', allS T' [(s1, .ptr 0 0), (s2, .bool false), (s3, .int .i64 ov), (s12, .int .i64 n), (s13, .int .i64 ((i + 1 : Nat) : Int))] → K .normal T' (memL 1 [(0, .cells (mad a m l n r e p x0 x1 x2 x3 c d0 d1 d2 d3 f0 f1 f2 f3) false)])) :
    code pA (callD pA tb0 la2 5) Y c26l0 T (memL 1 [(0, .cells (mad a m l n r e p x0 x1 x2 x3 c d0 d1 d2 d3 f0 f1 f2 f3) false)]) K := by
  cases f with
  | false =>
    rw [one0_a rfl] at ue
    subst ue
    exact wk_a Y a m l n r e p x0 x1 x2 x3 c d0 d1 d2 d3 f0 f1 f2 f3 o o1 o2 n1 n2 i i4 hi hf T hT K hK
  | true =>
    by_cases h : x = 1
    · rw [one0_c rfl h] at ue
      obtain rfl : ov = o := by omega
      exact wk_c Y a m l n r e p x0 x1 x2 x3 c d0 d1 d2 d3 f0 f1 f2 f3 ov o1 o2 n1 n2 i i4 hi hf (by rw [hx, h]) T hT K hK
    · rw [one0_x h] at ue
      subst ue
      exact wk_b Y a m l n r e p x0 x1 x2 x3 c d0 d1 d2 d3 f0 f1 f2 f3 o o1 o2 n1 n2 i i4 hi hf x hx h T hT K hK
theorem wk_run (Y : Ys Prop) (a m l n r e p x0 x1 x2 x3 c d0 d1 d2 d3 : Int) (f0 f1 f2 f3 : Bool) (K : V → Mem → Prop) (hK : ∀ mm, K (.bool (wkS a m l n r e p x0 x1 x2 x3 c f0 f1 f2 f3)) mm) : body1 pA (callD pA tb0 la2 5) Y c26 [.agg (mad a m l n r e p x0 x1 x2 x3 c d0 d1 d2 d3 f0 f1 f2 f3)] ⟨0, .leaf⟩ K := by
  cases g : rightS a m l n r e p x0 x1 x2 x3 c with
  | false => exact wk_n Y a m l n r e p x0 x1 x2 x3 c d0 d1 d2 d3 f0 f1 f2 f3 g K (by rw [wkS_eq, g] at hK; exact hK)
  | true =>
    have hn : n = 2 ∨ n = 3 ∨ n = 4 := by
      rw [rightS_eq, decide_eq_true_eq] at g
      unfold rightP rgP at g
      omega
    rw [wkS_eq, g, Bool.true_and] at hK
    have hb := oW_b f0 f1 f2 f3 x0 x1 x2 x3
    rcases hn with rfl | rfl | rfl
    · refine wk_2 Y a m l r e p x0 x1 x2 x3 c d0 d1 d2 d3 f0 f1 f2 f3 g (oW f0 f1 f2 f3 x0 x1 x2 x3 2) (loop2 2 (by decide) (fun _ => memL 1 [(0, .cells (mad a m l 2 r e p x0 x1 x2 x3 c d0 d1 d2 d3 f0 f1 f2 f3) false)]) (fun i => [(s1, .ptr 0 0), (s2, .bool false), (s3, .int .i64 (oW f0 f1 f2 f3 x0 x1 x2 x3 i)), (s12, .int .i64 2), (s13, .int .i64 ((i : Nat) : Int))]) ?_ ?_) K (fun mm => by
          have e : outs 2 f0 f1 f2 f3 x0 x1 x2 x3 = oW f0 f1 f2 f3 x0 x1 x2 x3 2 := by unfold outs oW; simp
          rw [← e]; exact hK mm)
      · intro Y i T hi hT K hK
        match i, hi with
        | 0, _ => exact wk_st Y a m l 2 r e p x0 x1 x2 x3 c d0 d1 d2 d3 f0 f1 f2 f3 (ov := oW f0 f1 f2 f3 x0 x1 x2 x3 1) (hb 0).1 (hb 0).2 (by decide) (by decide) 0 (by decide) (by decide) rfl rfl (by simp only [oW, Int.zero_add]) T hT K hK
        | 1, _ => exact wk_st Y a m l 2 r e p x0 x1 x2 x3 c d0 d1 d2 d3 f0 f1 f2 f3 (ov := oW f0 f1 f2 f3 x0 x1 x2 x3 2) (hb 1).1 (hb 1).2 (by decide) (by decide) 1 (by decide) (by decide) rfl rfl (by simp only [oW, Int.zero_add]) T hT K hK
        | i + 2, hi => omega
      · intro Y T hT K hK
        exact wkf_2 Y a m l r e p x0 x1 x2 x3 c d0 d1 d2 d3 f0 f1 f2 f3 (oW f0 f1 f2 f3 x0 x1 x2 x3 2) (hb 2).1 (hb 2).2 T hT K hK
    · refine wk_3 Y a m l r e p x0 x1 x2 x3 c d0 d1 d2 d3 f0 f1 f2 f3 g (oW f0 f1 f2 f3 x0 x1 x2 x3 3) (loop2 3 (by decide) (fun _ => memL 1 [(0, .cells (mad a m l 3 r e p x0 x1 x2 x3 c d0 d1 d2 d3 f0 f1 f2 f3) false)]) (fun i => [(s1, .ptr 0 0), (s2, .bool false), (s3, .int .i64 (oW f0 f1 f2 f3 x0 x1 x2 x3 i)), (s12, .int .i64 3), (s13, .int .i64 ((i : Nat) : Int))]) ?_ ?_) K (fun mm => by
          have e : outs 3 f0 f1 f2 f3 x0 x1 x2 x3 = oW f0 f1 f2 f3 x0 x1 x2 x3 3 := by unfold outs oW; simp
          rw [← e]; exact hK mm)
      · intro Y i T hi hT K hK
        match i, hi with
        | 0, _ => exact wk_st Y a m l 3 r e p x0 x1 x2 x3 c d0 d1 d2 d3 f0 f1 f2 f3 (ov := oW f0 f1 f2 f3 x0 x1 x2 x3 1) (hb 0).1 (hb 0).2 (by decide) (by decide) 0 (by decide) (by decide) rfl rfl (by simp only [oW, Int.zero_add]) T hT K hK
        | 1, _ => exact wk_st Y a m l 3 r e p x0 x1 x2 x3 c d0 d1 d2 d3 f0 f1 f2 f3 (ov := oW f0 f1 f2 f3 x0 x1 x2 x3 2) (hb 1).1 (hb 1).2 (by decide) (by decide) 1 (by decide) (by decide) rfl rfl (by simp only [oW, Int.zero_add]) T hT K hK
        | 2, _ => exact wk_st Y a m l 3 r e p x0 x1 x2 x3 c d0 d1 d2 d3 f0 f1 f2 f3 (ov := oW f0 f1 f2 f3 x0 x1 x2 x3 3) (hb 2).1 (hb 2).2 (by decide) (by decide) 2 (by decide) (by decide) rfl rfl (by simp only [oW, Int.zero_add]) T hT K hK
        | i + 3, hi => omega
      · intro Y T hT K hK
        exact wkf_3 Y a m l r e p x0 x1 x2 x3 c d0 d1 d2 d3 f0 f1 f2 f3 (oW f0 f1 f2 f3 x0 x1 x2 x3 3) (hb 3).1 (hb 3).2 T hT K hK
    · refine wk_4 Y a m l r e p x0 x1 x2 x3 c d0 d1 d2 d3 f0 f1 f2 f3 g (oW f0 f1 f2 f3 x0 x1 x2 x3 4) (loop2 4 (by decide) (fun _ => memL 1 [(0, .cells (mad a m l 4 r e p x0 x1 x2 x3 c d0 d1 d2 d3 f0 f1 f2 f3) false)]) (fun i => [(s1, .ptr 0 0), (s2, .bool false), (s3, .int .i64 (oW f0 f1 f2 f3 x0 x1 x2 x3 i)), (s12, .int .i64 4), (s13, .int .i64 ((i : Nat) : Int))]) ?_ ?_) K (fun mm => by
          have e : outs 4 f0 f1 f2 f3 x0 x1 x2 x3 = oW f0 f1 f2 f3 x0 x1 x2 x3 4 := by unfold outs oW; simp
          rw [← e]; exact hK mm)
      · intro Y i T hi hT K hK
        match i, hi with
        | 0, _ => exact wk_st Y a m l 4 r e p x0 x1 x2 x3 c d0 d1 d2 d3 f0 f1 f2 f3 (ov := oW f0 f1 f2 f3 x0 x1 x2 x3 1) (hb 0).1 (hb 0).2 (by decide) (by decide) 0 (by decide) (by decide) rfl rfl (by simp only [oW, Int.zero_add]) T hT K hK
        | 1, _ => exact wk_st Y a m l 4 r e p x0 x1 x2 x3 c d0 d1 d2 d3 f0 f1 f2 f3 (ov := oW f0 f1 f2 f3 x0 x1 x2 x3 2) (hb 1).1 (hb 1).2 (by decide) (by decide) 1 (by decide) (by decide) rfl rfl (by simp only [oW, Int.zero_add]) T hT K hK
        | 2, _ => exact wk_st Y a m l 4 r e p x0 x1 x2 x3 c d0 d1 d2 d3 f0 f1 f2 f3 (ov := oW f0 f1 f2 f3 x0 x1 x2 x3 3) (hb 2).1 (hb 2).2 (by decide) (by decide) 2 (by decide) (by decide) rfl rfl (by simp only [oW, Int.zero_add]) T hT K hK
        | 3, _ => exact wk_st Y a m l 4 r e p x0 x1 x2 x3 c d0 d1 d2 d3 f0 f1 f2 f3 (ov := oW f0 f1 f2 f3 x0 x1 x2 x3 4) (hb 3).1 (hb 3).2 (by decide) (by decide) 3 (by decide) (by decide) rfl rfl (by simp only [oW, Int.zero_add]) T hT K hK
        | i + 4, hi => omega
      · intro Y T hT K hK
        exact wkf_4 Y a m l r e p x0 x1 x2 x3 c d0 d1 d2 d3 f0 f1 f2 f3 (oW f0 f1 f2 f3 x0 x1 x2 x3 4) (hb 4).1 (hb 4).2 T hT K hK
theorem outs_2 (f0 f1 f2 f3 : Bool) (x0 x1 x2 x3 : Int) : outs 2 f0 f1 f2 f3 x0 x1 x2 x3 = one0 f0 x0 + one0 f1 x1 := by unfold outs; simp
theorem outs_3 (f0 f1 f2 f3 : Bool) (x0 x1 x2 x3 : Int) : outs 3 f0 f1 f2 f3 x0 x1 x2 x3 = one0 f0 x0 + one0 f1 x1 + one0 f2 x2 := by unfold outs; simp
theorem outs_4 (f0 f1 f2 f3 : Bool) (x0 x1 x2 x3 : Int) : outs 4 f0 f1 f2 f3 x0 x1 x2 x3 = one0 f0 x0 + one0 f1 x1 + one0 f2 x2 + one0 f3 x3 := by unfold outs; simp
theorem pick_max_go {E : Int} (hE : E ≠ 0) {w : Sp → Nat} {P : Sp → Prop} {l0 : List Sp} (h1 : ∀ s ∈ l0, s.e = E) (h2 : ∀ s ∈ l0, ∀ t ∈ l0, P s → ¬ P t → w t < w s) : ∀ (l : List Sp) (o : Sp), (∀ s ∈ l, s ∈ l0) → (o.e = 0 ∨ o ∈ l0) → (o ∈ l0 ∧ P o ∨ ∃ s ∈ l, P s) → P (l.foldl (pickF E w) o)
  | [], o, _, _, h => by
    rcases h with h | ⟨s, h, _⟩
    · exact h.2
    · cases h
  | s :: l, o, hl, ho, h => by
    rw [List.foldl_cons]
    have hs := hl s List.mem_cons_self
    have hl' := fun t ht => hl t (List.mem_cons_of_mem _ ht)
    unfold pickF
    split
    · rename_i hc
      refine pick_max_go hE h1 h2 l s hl' (.inr hs) ?_
      by_cases hp : P s
      · exact .inl ⟨hs, hp⟩
      · rcases h with ⟨h3, h4⟩ | ⟨t, ht, h4⟩
        · rcases hc.2 with e | e
          · exact absurd ((h1 o h3).symm.trans e) hE
          · have := h2 o h3 s hs h4 hp; omega
        · rcases List.mem_cons.1 ht with rfl | ht
          · exact absurd h4 hp
          · exact .inr ⟨t, ht, h4⟩
    · rename_i hc
      refine pick_max_go hE h1 h2 l o hl' ho ?_
      rcases h with h | ⟨t, ht, h4⟩
      · exact .inl h
      · rcases List.mem_cons.1 ht with rfl | ht
        · rcases ho with e | e
          · exact absurd ⟨h1 t hs, .inl e⟩ hc
          · by_cases hp : P o
            · exact .inl ⟨e, hp⟩
            · exact absurd ⟨h1 t hs, .inr (h2 t hs o e h4 hp)⟩ hc
        · exact .inr ⟨t, ht, h4⟩
theorem pick_max {l : List Sp} {E : Int} (hE : 0 < E) {P : Sp → Prop} (h1 : ∀ s ∈ l, s.e = E) (h2 : ∀ s ∈ l, ∀ t ∈ l, P s → ¬ P t → wgtL l t < wgtL l s) (h3 : ∃ s ∈ l, P s) : P (pick l) := by
  obtain ⟨s, hs, hp⟩ := h3
  have e : maxE l = E := maxE_fold E l 0 (fun s hs => by rw [h1 s hs]; exact Int.le_refl _) (by omega) (.inr ⟨s, hs, h1 s hs⟩)
  unfold pick
  rw [e]
  exact pick_max_go (by omega) h1 h2 l sp0 (fun _ h => h) (.inl rfl) (.inr ⟨s, hs, hp⟩)
theorem put_get (E : D4) (m v : Int) (hm : m = 0 ∨ m = 1 ∨ m = 2 ∨ m = 3) : (E.put m v).get m = v := by
  rcases hm with rfl | rfl | rfl | rfl <;> simp [D4.put, D4.get]
theorem dkT_ge {ev : Int → Int} {E : D4} {s : Sp} {i : Nat} (hm : s.m = 0 ∨ s.m = 1 ∨ s.m = 2 ∨ s.m = 3) (k : Int) (h : E.get k ≥ 0) : (dkT ev E s i).get k ≥ 0 := by
  unfold dkT
  split
  · rcases get_put E s.m k ((i : Nat) : Int) hm with e | e
    · rw [e]; omega
    · rw [e]; exact h
  · exact h
theorem dk_has {D : Dk} {q : Int} {g : Sp} {n : Nat} (ho : ∀ i, isOwn D q i) (hg : ∀ i, geoEq (D.sp i) g) (hm : ∀ i, i < n → (D.sp i).m = 0 ∨ (D.sp i).m = 1 ∨ (D.sp i).m = 2 ∨ (D.sp i).m = 3) : ∀ i, i ≤ n → ∀ j, j < i → (dk D q g i).get (D.sp j).m ≥ 0
  | 0, _, j, h => absurd h (Nat.not_lt_zero _)
  | i + 1, hi, j, hj => by
    show (dkS D q g (dk D q g i) i).get (D.sp j).m ≥ 0
    rw [show dkS D q g (dk D q g i) i = dkT (evO D) (dk D q g i) (D.sp i) i from if_pos ⟨ho i, hg i⟩]
    rcases Nat.lt_or_ge j i with h | h
    · exact dkT_ge (hm i (by omega)) _ (dk_has ho hg hm i (by omega) j h)
    · have : j = i := by omega
      subst this
      unfold dkT
      split
      · rw [put_get _ _ _ (hm j (by omega))]; omega
      · rename_i h; omega
theorem in_one {D : Dk} {g : Sp} {E : D4} {m : Int} (h0 : E.get m ≥ 0) (he : g.e - 1 ≤ evO D (E.get m)) : inB D g E m 1 = true := by
  simp only [inB, decide_eq_true h0, decide_eq_true he]; rfl
theorem in_two {D : Dk} {g : Sp} {E : D4} {m : Int} : inB D g E m 2 = false := by
  simp only [inB]; cases decide (E.get m ≥ 0) <;> rfl
noncomputable def txtP (s : Sp) : List Nat := txtS s.a s.m s.l s.n s.r s.e s.p s.x0 s.x1 s.x2 s.x3 s.c
def yS (k j : Nat) (x : Int) : Int := if k = j then 2 else x
def spS (a l n r e p x0 x1 x2 x3 : Int) (k M : Nat) : Sp := if M = k then ⟨a, ((M : Nat) : Int), l, n, r, e, p, x0, x1, x2, x3, 0⟩ else ⟨a, ((M : Nat) : Int), l, n, r, e, p, yS k 0 x0, yS k 1 x1, yS k 2 x2, yS k 3 x3, 0⟩
theorem sto_y (k : Nat) (hk : k < 4) (a M l n r e p x0 x1 x2 x3 c : Int) : putAt [.int .i64 2] (7 + k * 1) (cel a M l n r e p x0 x1 x2 x3 c) = some (cel a M l n r e p (yS k 0 x0) (yS k 1 x1) (yS k 2 x2) (yS k 3 x3) c) := by
  match k, hk with
  | 0, _ => rfl
  | 1, _ => rfl
  | 2, _ => rfl
  | 3, _ => rfl
  | k + 4, h => omega
theorem right_d {a l n r e p x0 x1 x2 x3 c : Int} (h : rightS a 0 l n r e p x0 x1 x2 x3 c = true) (hx : x0 = 1 ∧ x1 = 1 ∧ (n ≤ 2 ∨ x2 = 1) ∧ (n ≤ 3 ∨ x3 = 1)) {k : Nat} (hk : ((k : Nat) : Int) < n) : c = 0 ∧ (n ≤ 2 → x2 = 0) ∧ (n ≤ 3 → x3 = 0) ∧ (∀ M : Int, 0 ≤ M → M < n → rightS a M l n r e p x0 x1 x2 x3 0 = true) ∧ ∀ M : Int, 0 ≤ M → M < n → rightS a M l n r e p (yS k 0 x0) (yS k 1 x1) (yS k 2 x2) (yS k 3 x3) 0 = true := by
  obtain ⟨h1, h2, h3, h4⟩ := hx
  rw [rightS_eq, decide_eq_true_eq] at h
  unfold rightP rgP at h
  refine ⟨by omega, by omega, by omega, fun M m0 m1 => ?_, fun M m0 m1 => ?_⟩
  · rw [rightS_eq, decide_eq_true_eq]; unfold rightP rgP; omega
  · rw [rightS_eq, decide_eq_true_eq]
    have : k = 0 ∨ k = 1 ∨ k = 2 ∨ k = 3 := by omega
    rcases this with rfl | rfl | rfl | rfl
    · show rightP a M l n r e p 2 x1 x2 x3 0; unfold rightP rgP; omega
    · show rightP a M l n r e p x0 2 x2 x3 0; unfold rightP rgP; omega
    · show rightP a M l n r e p x0 x1 2 x3 0; unfold rightP rgP; omega
    · show rightP a M l n r e p x0 x1 x2 2 0; unfold rightP rgP; omega
theorem spS_right {a l n r e p x0 x1 x2 x3 : Int} {k M : Nat} (hM : ((M : Nat) : Int) < n) (h1 : ∀ M : Int, 0 ≤ M → M < n → rightS a M l n r e p x0 x1 x2 x3 0 = true) (h2 : ∀ M : Int, 0 ≤ M → M < n → rightS a M l n r e p (yS k 0 x0) (yS k 1 x1) (yS k 2 x2) (yS k 3 x3) 0 = true) :
    let s := spS a l n r e p x0 x1 x2 x3 k M; rightS s.a s.m s.l s.n s.r s.e s.p s.x0 s.x1 s.x2 s.x3 s.c = true := by
  unfold spS
  split
  · exact h1 ((M : Nat) : Int) (by omega) hM
  · exact h2 ((M : Nat) : Int) (by omega) hM
theorem spS_f (a l n r e p x0 x1 x2 x3 : Int) (k M : Nat) : (spS a l n r e p x0 x1 x2 x3 k M).a = a ∧ (spS a l n r e p x0 x1 x2 x3 k M).m = ((M : Nat) : Int) ∧ (spS a l n r e p x0 x1 x2 x3 k M).l = l ∧ (spS a l n r e p x0 x1 x2 x3 k M).n = n ∧ (spS a l n r e p x0 x1 x2 x3 k M).r = r ∧ (spS a l n r e p x0 x1 x2 x3 k M).e = e := by
  unfold spS; split <;> exact ⟨rfl, rfl, rfl, rfl, rfl, rfl⟩
theorem cnt_cons (K s : Sp) (l : List Sp) : cnt K (s :: l) = (if says s = K then 1 else 0) + cnt K l := by
  unfold cnt
  rw [List.filter_cons]
  by_cases h : says s = K
  · simp only [h, decide_true, if_true, List.length_cons]; omega
  · simp only [h, decide_false, if_false]; exact (Nat.zero_add _).symm
theorem slS_0 (Y : Ys Prop) (a l n r e p x0 x1 x2 x3 : Int) (k z M : Nat)  (hz : z < 256) (n1 : 2 ≤ n) (n2 : n ≤ 4) (hi : 0 < n) (hM : Int.tmod ((0 + z : Nat) : Int) n = ((M : Nat) : Int)) (hMn : ((M : Nat) : Int) < n) (k4 : k < 4)
    (h1 : ∀ M : Int, 0 ≤ M → M < n → rightS a M l n r e p x0 x1 x2 x3 0 = true) (h2 : ∀ M : Int, 0 ≤ M → M < n → rightS a M l n r e p (yS k 0 x0) (yS k 1 x1) (yS k 2 x2) (yS k 3 x3) 0 = true) (T : Slots) (hT : allS T [(s2, .int .u8 ((z : Nat) : Int)), (s3, .ptr 0 0), (s8, .int .i64 ((k : Nat) : Int)), (s9, .nilslice), (s10, .int .i64 0)]) (K : Ex → Slots → Mem → Prop) (hK : ∀ T', allS T' [(s2, .int .u8 ((z : Nat) : Int)), (s3, .ptr 0 0), (s8, .int .i64 ((k : Nat) : Int)), (s9, .slice 3 0 1 1 2), (s10, .int .i64 1)] → K .normal T' (memL 4 [(0, .cells (cel a 0 l n r e p x0 x1 x2 x3 0) false), (1, .cells (spS a l n r e p x0 x1 x2 x3 k M).cs false), (2, .cells [.str (txtP (spS a l n r e p x0 x1 x2 x3 k M)), .str zz] false), (3, .cells [.str (txtP (spS a l n r e p x0 x1 x2 x3 k M)), .str zz] false)])) :
    code pA (callD pA tb0 la12 5) Y c10l1 T (memL 1 [(0, .cells (cel a 0 l n r e p x0 x1 x2 x3 0) false)]) K := by
  by_cases hk : M = k
  · rw [show spS a l n r e p x0 x1 x2 x3 k M = ⟨a, ((M : Nat) : Int), l, n, r, e, p, x0, x1, x2, x3, 0⟩ from if_pos hk] at hK
    exact sl0_a Y a l n r e p x0 x1 x2 x3 0 ((M : Nat) : Int) k z  hz n1 n2 hi hM (by omega) (errS_y (h1 _ (by omega) hMn)) T hT K hK
  · rw [show spS a l n r e p x0 x1 x2 x3 k M = _ from if_neg hk] at hK
    exact sl0_b Y (yS k 0 x0) (yS k 1 x1) (yS k 2 x2) (yS k 3 x3) a l n r e p x0 x1 x2 x3 0 ((M : Nat) : Int) k z  hz n1 n2 hi hM (by omega) k4 (errS_y (h2 _ (by omega) hMn)) (sto_y k k4 _ _ _ _ _ _ _ _ _ _ _ _) T hT K hK
theorem slS_1 (Y : Ys Prop) (a l n r e p x0 x1 x2 x3 : Int) (k z M : Nat) (B0 : List V) (t0 : List Nat) (hz : z < 256) (n1 : 2 ≤ n) (n2 : n ≤ 4) (hi : 1 < n) (hM : Int.tmod ((1 + z : Nat) : Int) n = ((M : Nat) : Int)) (hMn : ((M : Nat) : Int) < n) (k4 : k < 4)
    (h1 : ∀ M : Int, 0 ≤ M → M < n → rightS a M l n r e p x0 x1 x2 x3 0 = true) (h2 : ∀ M : Int, 0 ≤ M → M < n → rightS a M l n r e p (yS k 0 x0) (yS k 1 x1) (yS k 2 x2) (yS k 3 x3) 0 = true) (T : Slots) (hT : allS T [(s2, .int .u8 ((z : Nat) : Int)), (s3, .ptr 0 0), (s8, .int .i64 ((k : Nat) : Int)), (s9, .slice 3 0 1 1 2), (s10, .int .i64 1)]) (K : Ex → Slots → Mem → Prop) (hK : ∀ T', allS T' [(s2, .int .u8 ((z : Nat) : Int)), (s3, .ptr 0 0), (s8, .int .i64 ((k : Nat) : Int)), (s9, .slice 6 0 2 2 2), (s10, .int .i64 2)] → K .normal T' (memL 7 [(0, .cells (cel a 0 l n r e p x0 x1 x2 x3 0) false), (1, .cells B0 false), (2, .cells [.str t0, .str zz] false), (3, .dead), (4, .cells (spS a l n r e p x0 x1 x2 x3 k M).cs false), (5, .cells [.str (txtP (spS a l n r e p x0 x1 x2 x3 k M)), .str zz] false), (6, .cells [.str t0, .str zz, .str (txtP (spS a l n r e p x0 x1 x2 x3 k M)), .str zz] false)])) :
    code pA (callD pA tb0 la12 5) Y c10l1 T (memL 4 [(0, .cells (cel a 0 l n r e p x0 x1 x2 x3 0) false), (1, .cells B0 false), (2, .cells [.str t0, .str zz] false), (3, .cells [.str t0, .str zz] false)]) K := by
  by_cases hk : M = k
  · rw [show spS a l n r e p x0 x1 x2 x3 k M = ⟨a, ((M : Nat) : Int), l, n, r, e, p, x0, x1, x2, x3, 0⟩ from if_pos hk] at hK
    exact sl1_a Y a l n r e p x0 x1 x2 x3 0 ((M : Nat) : Int) k z B0 t0 hz n1 n2 hi hM (by omega) (errS_y (h1 _ (by omega) hMn)) T hT K hK
  · rw [show spS a l n r e p x0 x1 x2 x3 k M = _ from if_neg hk] at hK
    exact sl1_b Y (yS k 0 x0) (yS k 1 x1) (yS k 2 x2) (yS k 3 x3) a l n r e p x0 x1 x2 x3 0 ((M : Nat) : Int) k z B0 t0 hz n1 n2 hi hM (by omega) k4 (errS_y (h2 _ (by omega) hMn)) (sto_y k k4 _ _ _ _ _ _ _ _ _ _ _ _) T hT K hK
theorem slS_2 (Y : Ys Prop) (a l n r e p x0 x1 x2 x3 : Int) (k z M : Nat) (B0 : List V) (t0 : List Nat) (B1 : List V) (t1 : List Nat) (hz : z < 256) (n1 : 2 ≤ n) (n2 : n ≤ 4) (hi : 2 < n) (hM : Int.tmod ((2 + z : Nat) : Int) n = ((M : Nat) : Int)) (hMn : ((M : Nat) : Int) < n) (k4 : k < 4)
    (h1 : ∀ M : Int, 0 ≤ M → M < n → rightS a M l n r e p x0 x1 x2 x3 0 = true) (h2 : ∀ M : Int, 0 ≤ M → M < n → rightS a M l n r e p (yS k 0 x0) (yS k 1 x1) (yS k 2 x2) (yS k 3 x3) 0 = true) (T : Slots) (hT : allS T [(s2, .int .u8 ((z : Nat) : Int)), (s3, .ptr 0 0), (s8, .int .i64 ((k : Nat) : Int)), (s9, .slice 6 0 2 2 2), (s10, .int .i64 2)]) (K : Ex → Slots → Mem → Prop) (hK : ∀ T', allS T' [(s2, .int .u8 ((z : Nat) : Int)), (s3, .ptr 0 0), (s8, .int .i64 ((k : Nat) : Int)), (s9, .slice 9 0 3 3 2), (s10, .int .i64 3)] → K .normal T' (memL 10 [(0, .cells (cel a 0 l n r e p x0 x1 x2 x3 0) false), (1, .cells B0 false), (2, .cells [.str t0, .str zz] false), (3, .dead), (4, .cells B1 false), (5, .cells [.str t1, .str zz] false), (6, .dead), (7, .cells (spS a l n r e p x0 x1 x2 x3 k M).cs false), (8, .cells [.str (txtP (spS a l n r e p x0 x1 x2 x3 k M)), .str zz] false), (9, .cells [.str t0, .str zz, .str t1, .str zz, .str (txtP (spS a l n r e p x0 x1 x2 x3 k M)), .str zz] false)])) :
    code pA (callD pA tb0 la12 5) Y c10l1 T (memL 7 [(0, .cells (cel a 0 l n r e p x0 x1 x2 x3 0) false), (1, .cells B0 false), (2, .cells [.str t0, .str zz] false), (3, .dead), (4, .cells B1 false), (5, .cells [.str t1, .str zz] false), (6, .cells [.str t0, .str zz, .str t1, .str zz] false)]) K := by
  by_cases hk : M = k
  · rw [show spS a l n r e p x0 x1 x2 x3 k M = ⟨a, ((M : Nat) : Int), l, n, r, e, p, x0, x1, x2, x3, 0⟩ from if_pos hk] at hK
    exact sl2_a Y a l n r e p x0 x1 x2 x3 0 ((M : Nat) : Int) k z B0 t0 B1 t1 hz n1 n2 hi hM (by omega) (errS_y (h1 _ (by omega) hMn)) T hT K hK
  · rw [show spS a l n r e p x0 x1 x2 x3 k M = _ from if_neg hk] at hK
    exact sl2_b Y (yS k 0 x0) (yS k 1 x1) (yS k 2 x2) (yS k 3 x3) a l n r e p x0 x1 x2 x3 0 ((M : Nat) : Int) k z B0 t0 B1 t1 hz n1 n2 hi hM (by omega) k4 (errS_y (h2 _ (by omega) hMn)) (sto_y k k4 _ _ _ _ _ _ _ _ _ _ _ _) T hT K hK
theorem slS_3 (Y : Ys Prop) (a l n r e p x0 x1 x2 x3 : Int) (k z M : Nat) (B0 : List V) (t0 : List Nat) (B1 : List V) (t1 : List Nat) (B2 : List V) (t2 : List Nat) (hz : z < 256) (n1 : 2 ≤ n) (n2 : n ≤ 4) (hi : 3 < n) (hM : Int.tmod ((3 + z : Nat) : Int) n = ((M : Nat) : Int)) (hMn : ((M : Nat) : Int) < n) (k4 : k < 4)
    (h1 : ∀ M : Int, 0 ≤ M → M < n → rightS a M l n r e p x0 x1 x2 x3 0 = true) (h2 : ∀ M : Int, 0 ≤ M → M < n → rightS a M l n r e p (yS k 0 x0) (yS k 1 x1) (yS k 2 x2) (yS k 3 x3) 0 = true) (T : Slots) (hT : allS T [(s2, .int .u8 ((z : Nat) : Int)), (s3, .ptr 0 0), (s8, .int .i64 ((k : Nat) : Int)), (s9, .slice 9 0 3 3 2), (s10, .int .i64 3)]) (K : Ex → Slots → Mem → Prop) (hK : ∀ T', allS T' [(s2, .int .u8 ((z : Nat) : Int)), (s3, .ptr 0 0), (s8, .int .i64 ((k : Nat) : Int)), (s9, .slice 12 0 4 4 2), (s10, .int .i64 4)] → K .normal T' (memL 13 [(0, .cells (cel a 0 l n r e p x0 x1 x2 x3 0) false), (1, .cells B0 false), (2, .cells [.str t0, .str zz] false), (3, .dead), (4, .cells B1 false), (5, .cells [.str t1, .str zz] false), (6, .dead), (7, .cells B2 false), (8, .cells [.str t2, .str zz] false), (9, .dead), (10, .cells (spS a l n r e p x0 x1 x2 x3 k M).cs false), (11, .cells [.str (txtP (spS a l n r e p x0 x1 x2 x3 k M)), .str zz] false), (12, .cells [.str t0, .str zz, .str t1, .str zz, .str t2, .str zz, .str (txtP (spS a l n r e p x0 x1 x2 x3 k M)), .str zz] false)])) :
    code pA (callD pA tb0 la12 5) Y c10l1 T (memL 10 [(0, .cells (cel a 0 l n r e p x0 x1 x2 x3 0) false), (1, .cells B0 false), (2, .cells [.str t0, .str zz] false), (3, .dead), (4, .cells B1 false), (5, .cells [.str t1, .str zz] false), (6, .dead), (7, .cells B2 false), (8, .cells [.str t2, .str zz] false), (9, .cells [.str t0, .str zz, .str t1, .str zz, .str t2, .str zz] false)]) K := by
  by_cases hk : M = k
  · rw [show spS a l n r e p x0 x1 x2 x3 k M = ⟨a, ((M : Nat) : Int), l, n, r, e, p, x0, x1, x2, x3, 0⟩ from if_pos hk] at hK
    exact sl3_a Y a l n r e p x0 x1 x2 x3 0 ((M : Nat) : Int) k z B0 t0 B1 t1 B2 t2 hz n1 n2 hi hM (by omega) (errS_y (h1 _ (by omega) hMn)) T hT K hK
  · rw [show spS a l n r e p x0 x1 x2 x3 k M = _ from if_neg hk] at hK
    exact sl3_b Y (yS k 0 x0) (yS k 1 x1) (yS k 2 x2) (yS k 3 x3) a l n r e p x0 x1 x2 x3 0 ((M : Nat) : Int) k z B0 t0 B1 t1 B2 t2 hz n1 n2 hi hM (by omega) k4 (errS_y (h2 _ (by omega) hMn)) (sto_y k k4 _ _ _ _ _ _ _ _ _ _ _ _) T hT K hK
abbrev sq2 (a l r e p : Int) (k z j : Nat) : Sp := spS a l 2 r e p 1 1 0 0 k ((j + z) % 2)
abbrev gq2 (a l r e p : Int) (k M : Nat) : Sp := ⟨a, ((M : Nat) : Int), l, 2, r, e, p, yS k 0 1, yS k 1 1, yS k 2 0, yS k 3 0, 0⟩
noncomputable def mS2 (a l r e p : Int) (k z : Nat) : Nat → Mem
  | 0 => memL 1 [(0, .cells (cel a 0 l 2 r e p 1 1 0 0 0) false)]
  | 1 => memL 4 [(0, .cells (cel a 0 l 2 r e p 1 1 0 0 0) false), (1, .cells (sq2 a l r e p k z 0).cs false), (2, .cells [.str (txtP (sq2 a l r e p k z 0)), .str zz] false), (3, .cells [.str (txtP (sq2 a l r e p k z 0)), .str zz] false)]
  | _ => memL 7 [(0, .cells (cel a 0 l 2 r e p 1 1 0 0 0) false), (1, .cells (sq2 a l r e p k z 0).cs false), (2, .cells [.str (txtP (sq2 a l r e p k z 0)), .str zz] false), (3, .dead), (4, .cells (sq2 a l r e p k z 1).cs false), (5, .cells [.str (txtP (sq2 a l r e p k z 1)), .str zz] false), (6, .cells [.str (txtP (sq2 a l r e p k z 0)), .str zz, .str (txtP (sq2 a l r e p k z 1)), .str zz] false)]
def lS2 (k z : Nat) : Nat → List (Sl × V)
  | 0 => [(s2, .int .u8 ((z : Nat) : Int)), (s3, .ptr 0 0), (s8, .int .i64 ((k : Nat) : Int)), (s9, .nilslice), (s10, .int .i64 0)]
  | 1 => [(s2, .int .u8 ((z : Nat) : Int)), (s3, .ptr 0 0), (s8, .int .i64 ((k : Nat) : Int)), (s9, .slice 3 0 1 1 2), (s10, .int .i64 1)]
  | _ => [(s2, .int .u8 ((z : Nat) : Int)), (s3, .ptr 0 0), (s8, .int .i64 ((k : Nat) : Int)), (s9, .slice 6 0 2 2 2), (s10, .int .i64 2)]
theorem stale_loop2 (a l r e p : Int) {k z : Nat} (hz : z < 256) (hk : k < 2) (h1 : ∀ M : Int, 0 ≤ M → M < 2 → rightS a M l 2 r e p 1 1 0 0 0 = true) (h2 : ∀ M : Int, 0 ≤ M → M < 2 → rightS a M l 2 r e p (yS k 0 1) (yS k 1 1) (yS k 2 0) (yS k 3 0) 0 = true) :
    LoopOk2 (callD pA tb0 la12 5) c10l1 (.exit 2) (mS2 a l r e p k z 0) (lS2 k z 0) (mS2 a l r e p k z 2) (lS2 k z 2) := by
  have hM : ∀ i : Nat, (((i + z) % 2 : Nat) : Int) < 2 := fun i => by have := Nat.mod_lt (i + z) (show 2 > 0 by decide); omega
  refine loop2 2 (by decide) (mS2 a l r e p k z) (lS2 k z) ?_ ?_
  · intro Y i T hi hT K hK
    match i, hi with
    | 0, _ => exact slS_0 Y a l 2 r e p 1 1 0 0 k z ((0 + z) % 2)  hz (by decide) (by decide) (by decide) rfl (hM 0) (by omega) h1 h2 T hT K hK
    | 1, _ => exact slS_1 Y a l 2 r e p 1 1 0 0 k z ((1 + z) % 2) (sq2 a l r e p k z 0).cs (txtP (sq2 a l r e p k z 0)) hz (by decide) (by decide) (by decide) rfl (hM 1) (by omega) h1 h2 T hT K hK
    | i + 2, hi => omega
  · intro Y T hT K hK
    exact slf_2 Y a l r e p 1 1 0 0 0 k z (sq2 a l r e p k z 0).cs (txtP (sq2 a l r e p k z 0)) (sq2 a l r e p k z 1).cs (txtP (sq2 a l r e p k z 1)) T hT K hK
theorem stale_made2 {a l r e p : Int} {k z : Nat} (hk : k < 2) (he : 1 ≤ e ∧ e ≤ 2147483647) (h1 : ∀ M : Int, 0 ≤ M → M < 2 → rightS a M l 2 r e p 1 1 0 0 0 = true) (h2 : ∀ M : Int, 0 ≤ M → M < 2 → rightS a M l 2 r e p (yS k 0 1) (yS k 1 1) (yS k 2 0) (yS k 3 0) 0 = true) :
    ∃ (gg : Sp) (d0 d1 d2 d3 : Int) (f0 f1 f2 f3 : Bool), S23 ⟨[.slice 0 0 2 2 2, .int .i64 a], [.cells [.str (txtP (sq2 a l r e p k z 0)), .str zz, .str (txtP (sq2 a l r e p k z 1)), .str zz] false], .tuple [.agg (mad gg.a gg.m gg.l gg.n gg.r gg.e gg.p gg.x0 gg.x1 gg.x2 gg.x3 gg.c d0 d1 d2 d3 f0 f1 f2 f3), .int .i64 0], [.cells [.str (txtP (sq2 a l r e p k z 0)), .str zz, .str (txtP (sq2 a l r e p k z 1)), .str zz] false], []⟩ ∧
      nth (mad gg.a gg.m gg.l gg.n gg.r gg.e gg.p gg.x0 gg.x1 gg.x2 gg.x3 gg.c d0 d1 d2 d3 f0 f1 f2 f3) (7 + k * 1) = some (.int .i64 2) ∧ nth (mad gg.a gg.m gg.l gg.n gg.r gg.e gg.p gg.x0 gg.x1 gg.x2 gg.x3 gg.c d0 d1 d2 d3 f0 f1 f2 f3) (16 + k * 1) = some (.bool false) ∧ wkS gg.a gg.m gg.l gg.n gg.r gg.e gg.p gg.x0 gg.x1 gg.x2 gg.x3 gg.c f0 f1 f2 f3 = true ∧ (0 ≠ ((k : Nat) : Int) → nB f0 = false) ∧ (1 ≠ ((k : Nat) : Int) → nB f1 = false) := by
  let D : Dk := ⟨fun i => txtP (spS a l 2 r e p 1 1 0 0 k ((i + z) % 2)), fun _ => zz, fun i => spS a l 2 r e p 1 1 0 0 k ((i + z) % 2), fun _ => 1, fun _ => true⟩
  have hf := fun i : Nat => spS_f a l 2 r e p 1 1 0 0 k ((i + z) % 2)
  have hM : ∀ i : Nat, (i + z) % 2 < 2 := fun i => Nat.mod_lt _ (by decide)
  have hown : ∀ i, isOwn D a i := fun i => ⟨rfl, (hf i).1⟩
  have hm : ∀ i, (D.sp i).m = 0 ∨ (D.sp i).m = 1 ∨ (D.sp i).m = 2 ∨ (D.sp i).m = 3 := fun i => by
    have h : (D.sp i).m = (((i + z) % 2 : Nat) : Int) := (hf i).2.1
    have := hM i
    omega
  have hev : ∀ i, (D.sp i).e = e := fun i => (hf i).2.2.2.2.2
  have ok : DkOk D ofRs [.str (txtP (sq2 a l r e p k z 0)), .str zz, .str (txtP (sq2 a l r e p k z 1)), .str zz] 2 := by
    refine ⟨by decide, fun p => rfl, ?_, fun i hi => ?_, fun i hi _ => ⟨?_, hm i, ?_, ?_⟩⟩
    · intro i hi
      match i, hi with
      | 0, _ => rfl
      | 1, _ => rfl
      | i + 2, hi => omega
    · exact (back_T (spS_right (by have := hM i; omega) h1 h2) (E := (D.sp i).e) (by rw [hev]; exact he.1) (by rw [hev]; exact he.2)).2.2.1 zz (.inl errR_zz)
    · exact .inl (hf i).2.2.2.1
    · rw [hev]; omega
    · rw [hev]; omega
  have hS := S23.mk D _ 2 2 a ok
  have hl : (own D a 2).map (·.2) = [D.sp 0, D.sp 1] := by
    simp only [own, hown, if_true, List.nil_append, List.map_append, List.map_cons, List.map_nil, List.cons_append] <;> rfl
  have hmem : ∀ s, s ∈ (own D a 2).map (·.2) ↔ ∃ i, i < 2 ∧ s = D.sp i := by
    intro s
    constructor
    · intro hs
      obtain ⟨x, hx, rfl⟩ := List.mem_map.1 hs
      obtain ⟨k1, _, k3⟩ := mem_own.1 (show (x.1, x.2) ∈ own D a 2 from hx)
      exact ⟨x.1, k1, k3⟩
    · rintro ⟨i, hi, rfl⟩
      exact List.mem_map.2 ⟨(i, D.sp i), mem_own.2 ⟨hi, hown i, rfl⟩, rfl⟩
  let KA : Sp := ⟨a, 0, l, 2, r, e, p, 1, 1, 0, 0, 0⟩
  let KD : Sp := ⟨a, 0, l, 2, r, e, p, yS k 0 1, yS k 1 1, yS k 2 0, yS k 3 0, 0⟩
  have hne : KA ≠ KD := by
    intro h
    have e0 := congrArg Sp.x0 h; have e1 := congrArg Sp.x1 h; have e2 := congrArg Sp.x2 h; have e3 := congrArg Sp.x3 h
    simp only [KA, KD, yS] at e0 e1 e2 e3
    have : k = 0 ∨ k = 1 ∨ k = 2 ∨ k = 3 := by omega
    rcases this with rfl | rfl | rfl | rfl <;> simp at e0 e1 e2 e3 <;> omega
  have hsA : ∀ i, (i + z) % 2 = k → says (D.sp i) = KA ∧ aliveB (D.sp i) = true := fun i hi => by
    rw [show D.sp i = _ from if_pos hi]; exact ⟨rfl, rfl⟩
  have hsD : ∀ i, (i + z) % 2 ≠ k → says (D.sp i) = KD ∧ aliveB (D.sp i) = false := fun i hi => by
    rw [show D.sp i = _ from if_neg hi]
    refine ⟨rfl, ?_⟩
    have : k = 0 ∨ k = 1 := by omega
    rcases this with rfl | rfl <;> rfl
  have hcA : cnt KA ((own D a 2).map (·.2)) ≤ 1 := by
    rw [hl]
    simp only [cnt_cons]
    rw [show cnt KA [] = 0 from rfl]
    have c0 : says (D.sp 0) = KA → (0 + z) % 2 = k := fun h => by
      by_cases hi : (0 + z) % 2 = k
      · exact hi
      · exact absurd (h.symm.trans (hsD 0 hi).1) hne
    have c1 : says (D.sp 1) = KA → (1 + z) % 2 = k := fun h => by
      by_cases hi : (1 + z) % 2 = k
      · exact hi
      · exact absurd (h.symm.trans (hsD 1 hi).1) hne
    have b0 : (if says (D.sp 0) = KA then 1 else 0) = 0 ∨ (if says (D.sp 0) = KA then 1 else 0) = 1 ∧ (0 + z) % 2 = k := by
      by_cases h : says (D.sp 0) = KA
      · exact .inr ⟨if_pos h, c0 h⟩
      · exact .inl (if_neg h)
    have b1 : (if says (D.sp 1) = KA then 1 else 0) = 0 ∨ (if says (D.sp 1) = KA then 1 else 0) = 1 ∧ (1 + z) % 2 = k := by
      by_cases h : says (D.sp 1) = KA
      · exact .inr ⟨if_pos h, c1 h⟩
      · exact .inl (if_neg h)
    omega
  obtain ⟨v, hv1, hv2⟩ : ∃ v, v < 2 ∧ (v + z) % 2 ≠ k := by
    by_cases h0 : (0 + z) % 2 = k
    · exact ⟨1, by decide, by omega⟩
    · exact ⟨0, by decide, h0⟩
  have hg : says (gOf D a 2) = KD ∧ ∃ u, u < 2 ∧ gOf D a 2 = D.sp u := by
    refine pick_max (E := e) (P := fun s => says s = KD ∧ ∃ u, u < 2 ∧ s = D.sp u) (by omega) ?_ ?_ ?_
    · intro s hs
      obtain ⟨i, _, rfl⟩ := (hmem s).1 hs
      exact hev i
    · intro s hs t ht h3 h4
      obtain ⟨i, i1, rfl⟩ := (hmem s).1 hs
      obtain ⟨j, j1, rfl⟩ := (hmem t).1 ht
      have hi : (i + z) % 2 ≠ k := fun h => hne ((hsA i h).1.symm.trans h3.1)
      have hj : (j + z) % 2 = k := by
        by_cases h : (j + z) % 2 = k
        · exact h
        · exact absurd ⟨(hsD j h).1, j, j1, rfl⟩ h4
      unfold wgtL
      rw [(hsA j hj).1, (hsA j hj).2, (hsD i hi).1, (hsD i hi).2, cond_true, cond_false]
      have : 0 < cnt KD ((own D a 2).map (·.2)) := List.length_pos_of_mem (List.mem_filter.2 ⟨hs, decide_eq_true (hsD i hi).1⟩)
      omega
    · exact ⟨D.sp v, (hmem _).2 ⟨v, hv1, rfl⟩, (hsD v hv2).1, v, hv1, rfl⟩
  obtain ⟨u, hu1, hu2⟩ := hg.2
  have hg3 : ∃ M : Nat, M < 2 ∧ gOf D a 2 = ⟨a, ((M : Nat) : Int), l, 2, r, e, p, yS k 0 1, yS k 1 1, yS k 2 0, yS k 3 0, 0⟩ := by
    refine ⟨(u + z) % 2, hM u, ?_⟩
    rw [hu2]
    exact if_neg fun h => hne ((hsA u h).1.symm.trans (by rw [← hu2]; exact hg.1))
  obtain ⟨M, hM1, hg4⟩ := hg3
  have hgeo : ∀ i, geoEq (D.sp i) (gOf D a 2) := fun i => by
    rw [hg4]; exact ⟨(hf i).2.2.1, (hf i).2.2.2.1, (hf i).2.2.2.2.1⟩
  rw [show makeV D a 2 = _ from if_neg (own_ne (u := 0) (by decide) (hown 0))] at hS
  have hE := dk_has (D := D) (q := a) (g := gOf D a 2) (n := 2) hown hgeo (fun i _ => hm i) 2 (Nat.le_refl _)
  rw [hg4] at hS hE
  generalize dk D a _ 2 = E at hS hE
  have e0 : E.get 0 ≥ 0 := by
    have h := hE ((0 + 1 * 2 - z % 2) % 2) (Nat.mod_lt _ (by decide))
    have h2 := (hf ((0 + 1 * 2 - z % 2) % 2)).2.1
    rw [show (D.sp ((0 + 1 * 2 - z % 2) % 2)).m = 0 from h2.trans (by omega)] at h
    exact h
  have e1 : E.get 1 ≥ 0 := by
    have h := hE ((1 + 1 * 2 - z % 2) % 2) (Nat.mod_lt _ (by decide))
    have h2 := (hf ((1 + 1 * 2 - z % 2) % 2)).2.1
    rw [show (D.sp ((1 + 1 * 2 - z % 2) % 2)).m = 1 from h2.trans (by omega)] at h
    exact h
  have hfe : ∀ d, e - 1 ≤ evO D d := fun d => by rw [show evO D d = e from hev _]; omega
  have q0 : ∀ g : Sp, g.e = e → inB D g E 0 1 = true := fun g h => in_one e0 (by rw [h]; exact hfe _)
  have q1 : ∀ g : Sp, g.e = e → inB D g E 1 1 = true := fun g h => in_one e1 (by rw [h]; exact hfe _)
  have hr := h2 M (by omega) (by omega)
  refine ⟨_, _, _, _, _, _, _, _, _, hS, ?_⟩
  have : k = 0 ∨ k = 1 := by omega
  rcases this with rfl | rfl
  · refine ⟨rfl, congrArg (fun b => some (V.bool b)) in_two, ?_, fun h => absurd rfl h, fun _ => congrArg nB (q1 (gq2 a l r e p 0 M) rfl)⟩
    rw [wkS_eq]
    refine Bool.and_eq_true_iff.2 ⟨hr, decide_eq_true ?_⟩
    show outs 2 _ _ _ _ _ _ _ _ ≤ 1
    rw [outs_2]
    have w0 : one0 (inB D (gq2 a l r e p 0 M) E 0 (yS 0 0 1)) (yS 0 0 1) = 1 := one0_a in_two
    have w1 : one0 (inB D (gq2 a l r e p 0 M) E 1 (yS 0 1 1)) (yS 0 1 1) = 0 := one0_c (q1 (gq2 a l r e p 0 M) rfl) rfl
    rw [w0, w1]
    decide
  · refine ⟨rfl, congrArg (fun b => some (V.bool b)) in_two, ?_, fun _ => congrArg nB (q0 (gq2 a l r e p 1 M) rfl), fun h => absurd rfl h⟩
    rw [wkS_eq]
    refine Bool.and_eq_true_iff.2 ⟨hr, decide_eq_true ?_⟩
    show outs 2 _ _ _ _ _ _ _ _ ≤ 1
    rw [outs_2]
    have w0 : one0 (inB D (gq2 a l r e p 1 M) E 0 (yS 1 0 1)) (yS 1 0 1) = 0 := one0_c (q0 (gq2 a l r e p 1 M) rfl) rfl
    have w1 : one0 (inB D (gq2 a l r e p 1 M) E 1 (yS 1 1 1)) (yS 1 1 1) = 1 := one0_a in_two
    rw [w0, w1]
    decide
abbrev sq3 (a l r e p : Int) (k z j : Nat) : Sp := spS a l 3 r e p 1 1 1 0 k ((j + z) % 3)
abbrev gq3 (a l r e p : Int) (k M : Nat) : Sp := ⟨a, ((M : Nat) : Int), l, 3, r, e, p, yS k 0 1, yS k 1 1, yS k 2 1, yS k 3 0, 0⟩
noncomputable def mS3 (a l r e p : Int) (k z : Nat) : Nat → Mem
  | 0 => memL 1 [(0, .cells (cel a 0 l 3 r e p 1 1 1 0 0) false)]
  | 1 => memL 4 [(0, .cells (cel a 0 l 3 r e p 1 1 1 0 0) false), (1, .cells (sq3 a l r e p k z 0).cs false), (2, .cells [.str (txtP (sq3 a l r e p k z 0)), .str zz] false), (3, .cells [.str (txtP (sq3 a l r e p k z 0)), .str zz] false)]
  | 2 => memL 7 [(0, .cells (cel a 0 l 3 r e p 1 1 1 0 0) false), (1, .cells (sq3 a l r e p k z 0).cs false), (2, .cells [.str (txtP (sq3 a l r e p k z 0)), .str zz] false), (3, .dead), (4, .cells (sq3 a l r e p k z 1).cs false), (5, .cells [.str (txtP (sq3 a l r e p k z 1)), .str zz] false), (6, .cells [.str (txtP (sq3 a l r e p k z 0)), .str zz, .str (txtP (sq3 a l r e p k z 1)), .str zz] false)]
  | _ => memL 10 [(0, .cells (cel a 0 l 3 r e p 1 1 1 0 0) false), (1, .cells (sq3 a l r e p k z 0).cs false), (2, .cells [.str (txtP (sq3 a l r e p k z 0)), .str zz] false), (3, .dead), (4, .cells (sq3 a l r e p k z 1).cs false), (5, .cells [.str (txtP (sq3 a l r e p k z 1)), .str zz] false), (6, .dead), (7, .cells (sq3 a l r e p k z 2).cs false), (8, .cells [.str (txtP (sq3 a l r e p k z 2)), .str zz] false), (9, .cells [.str (txtP (sq3 a l r e p k z 0)), .str zz, .str (txtP (sq3 a l r e p k z 1)), .str zz, .str (txtP (sq3 a l r e p k z 2)), .str zz] false)]
def lS3 (k z : Nat) : Nat → List (Sl × V)
  | 0 => [(s2, .int .u8 ((z : Nat) : Int)), (s3, .ptr 0 0), (s8, .int .i64 ((k : Nat) : Int)), (s9, .nilslice), (s10, .int .i64 0)]
  | 1 => [(s2, .int .u8 ((z : Nat) : Int)), (s3, .ptr 0 0), (s8, .int .i64 ((k : Nat) : Int)), (s9, .slice 3 0 1 1 2), (s10, .int .i64 1)]
  | 2 => [(s2, .int .u8 ((z : Nat) : Int)), (s3, .ptr 0 0), (s8, .int .i64 ((k : Nat) : Int)), (s9, .slice 6 0 2 2 2), (s10, .int .i64 2)]
  | _ => [(s2, .int .u8 ((z : Nat) : Int)), (s3, .ptr 0 0), (s8, .int .i64 ((k : Nat) : Int)), (s9, .slice 9 0 3 3 2), (s10, .int .i64 3)]
theorem stale_loop3 (a l r e p : Int) {k z : Nat} (hz : z < 256) (hk : k < 3) (h1 : ∀ M : Int, 0 ≤ M → M < 3 → rightS a M l 3 r e p 1 1 1 0 0 = true) (h2 : ∀ M : Int, 0 ≤ M → M < 3 → rightS a M l 3 r e p (yS k 0 1) (yS k 1 1) (yS k 2 1) (yS k 3 0) 0 = true) :
    LoopOk2 (callD pA tb0 la12 5) c10l1 (.exit 2) (mS3 a l r e p k z 0) (lS3 k z 0) (mS3 a l r e p k z 3) (lS3 k z 3) := by
  have hM : ∀ i : Nat, (((i + z) % 3 : Nat) : Int) < 3 := fun i => by have := Nat.mod_lt (i + z) (show 3 > 0 by decide); omega
  refine loop2 3 (by decide) (mS3 a l r e p k z) (lS3 k z) ?_ ?_
  · intro Y i T hi hT K hK
    match i, hi with
    | 0, _ => exact slS_0 Y a l 3 r e p 1 1 1 0 k z ((0 + z) % 3)  hz (by decide) (by decide) (by decide) rfl (hM 0) (by omega) h1 h2 T hT K hK
    | 1, _ => exact slS_1 Y a l 3 r e p 1 1 1 0 k z ((1 + z) % 3) (sq3 a l r e p k z 0).cs (txtP (sq3 a l r e p k z 0)) hz (by decide) (by decide) (by decide) rfl (hM 1) (by omega) h1 h2 T hT K hK
    | 2, _ => exact slS_2 Y a l 3 r e p 1 1 1 0 k z ((2 + z) % 3) (sq3 a l r e p k z 0).cs (txtP (sq3 a l r e p k z 0)) (sq3 a l r e p k z 1).cs (txtP (sq3 a l r e p k z 1)) hz (by decide) (by decide) (by decide) rfl (hM 2) (by omega) h1 h2 T hT K hK
    | i + 3, hi => omega
  · intro Y T hT K hK
    exact slf_3 Y a l r e p 1 1 1 0 0 k z (sq3 a l r e p k z 0).cs (txtP (sq3 a l r e p k z 0)) (sq3 a l r e p k z 1).cs (txtP (sq3 a l r e p k z 1)) (sq3 a l r e p k z 2).cs (txtP (sq3 a l r e p k z 2)) T hT K hK
theorem stale_made3 {a l r e p : Int} {k z : Nat} (hk : k < 3) (he : 1 ≤ e ∧ e ≤ 2147483647) (h1 : ∀ M : Int, 0 ≤ M → M < 3 → rightS a M l 3 r e p 1 1 1 0 0 = true) (h2 : ∀ M : Int, 0 ≤ M → M < 3 → rightS a M l 3 r e p (yS k 0 1) (yS k 1 1) (yS k 2 1) (yS k 3 0) 0 = true) :
    ∃ (gg : Sp) (d0 d1 d2 d3 : Int) (f0 f1 f2 f3 : Bool), S23 ⟨[.slice 0 0 3 3 2, .int .i64 a], [.cells [.str (txtP (sq3 a l r e p k z 0)), .str zz, .str (txtP (sq3 a l r e p k z 1)), .str zz, .str (txtP (sq3 a l r e p k z 2)), .str zz] false], .tuple [.agg (mad gg.a gg.m gg.l gg.n gg.r gg.e gg.p gg.x0 gg.x1 gg.x2 gg.x3 gg.c d0 d1 d2 d3 f0 f1 f2 f3), .int .i64 0], [.cells [.str (txtP (sq3 a l r e p k z 0)), .str zz, .str (txtP (sq3 a l r e p k z 1)), .str zz, .str (txtP (sq3 a l r e p k z 2)), .str zz] false], []⟩ ∧
      nth (mad gg.a gg.m gg.l gg.n gg.r gg.e gg.p gg.x0 gg.x1 gg.x2 gg.x3 gg.c d0 d1 d2 d3 f0 f1 f2 f3) (7 + k * 1) = some (.int .i64 2) ∧ nth (mad gg.a gg.m gg.l gg.n gg.r gg.e gg.p gg.x0 gg.x1 gg.x2 gg.x3 gg.c d0 d1 d2 d3 f0 f1 f2 f3) (16 + k * 1) = some (.bool false) ∧ wkS gg.a gg.m gg.l gg.n gg.r gg.e gg.p gg.x0 gg.x1 gg.x2 gg.x3 gg.c f0 f1 f2 f3 = true ∧ (0 ≠ ((k : Nat) : Int) → nB f0 = false) ∧ (1 ≠ ((k : Nat) : Int) → nB f1 = false) ∧ (2 ≠ ((k : Nat) : Int) → nB f2 = false) := by
  let D : Dk := ⟨fun i => txtP (spS a l 3 r e p 1 1 1 0 k ((i + z) % 3)), fun _ => zz, fun i => spS a l 3 r e p 1 1 1 0 k ((i + z) % 3), fun _ => 1, fun _ => true⟩
  have hf := fun i : Nat => spS_f a l 3 r e p 1 1 1 0 k ((i + z) % 3)
  have hM : ∀ i : Nat, (i + z) % 3 < 3 := fun i => Nat.mod_lt _ (by decide)
  have hown : ∀ i, isOwn D a i := fun i => ⟨rfl, (hf i).1⟩
  have hm : ∀ i, (D.sp i).m = 0 ∨ (D.sp i).m = 1 ∨ (D.sp i).m = 2 ∨ (D.sp i).m = 3 := fun i => by
    have h : (D.sp i).m = (((i + z) % 3 : Nat) : Int) := (hf i).2.1
    have := hM i
    omega
  have hev : ∀ i, (D.sp i).e = e := fun i => (hf i).2.2.2.2.2
  have ok : DkOk D ofRs [.str (txtP (sq3 a l r e p k z 0)), .str zz, .str (txtP (sq3 a l r e p k z 1)), .str zz, .str (txtP (sq3 a l r e p k z 2)), .str zz] 3 := by
    refine ⟨by decide, fun p => rfl, ?_, fun i hi => ?_, fun i hi _ => ⟨?_, hm i, ?_, ?_⟩⟩
    · intro i hi
      match i, hi with
      | 0, _ => rfl
      | 1, _ => rfl
      | 2, _ => rfl
      | i + 3, hi => omega
    · exact (back_T (spS_right (by have := hM i; omega) h1 h2) (E := (D.sp i).e) (by rw [hev]; exact he.1) (by rw [hev]; exact he.2)).2.2.1 zz (.inl errR_zz)
    · exact .inr (.inl (hf i).2.2.2.1)
    · rw [hev]; omega
    · rw [hev]; omega
  have hS := S23.mk D _ 3 3 a ok
  have hl : (own D a 3).map (·.2) = [D.sp 0, D.sp 1, D.sp 2] := by
    simp only [own, hown, if_true, List.nil_append, List.map_append, List.map_cons, List.map_nil, List.cons_append] <;> rfl
  have hmem : ∀ s, s ∈ (own D a 3).map (·.2) ↔ ∃ i, i < 3 ∧ s = D.sp i := by
    intro s
    constructor
    · intro hs
      obtain ⟨x, hx, rfl⟩ := List.mem_map.1 hs
      obtain ⟨k1, _, k3⟩ := mem_own.1 (show (x.1, x.2) ∈ own D a 3 from hx)
      exact ⟨x.1, k1, k3⟩
    · rintro ⟨i, hi, rfl⟩
      exact List.mem_map.2 ⟨(i, D.sp i), mem_own.2 ⟨hi, hown i, rfl⟩, rfl⟩
  let KA : Sp := ⟨a, 0, l, 3, r, e, p, 1, 1, 1, 0, 0⟩
  let KD : Sp := ⟨a, 0, l, 3, r, e, p, yS k 0 1, yS k 1 1, yS k 2 1, yS k 3 0, 0⟩
  have hne : KA ≠ KD := by
    intro h
    have e0 := congrArg Sp.x0 h; have e1 := congrArg Sp.x1 h; have e2 := congrArg Sp.x2 h; have e3 := congrArg Sp.x3 h
    simp only [KA, KD, yS] at e0 e1 e2 e3
    have : k = 0 ∨ k = 1 ∨ k = 2 ∨ k = 3 := by omega
    rcases this with rfl | rfl | rfl | rfl <;> simp at e0 e1 e2 e3 <;> omega
  have hsA : ∀ i, (i + z) % 3 = k → says (D.sp i) = KA ∧ aliveB (D.sp i) = true := fun i hi => by
    rw [show D.sp i = _ from if_pos hi]; exact ⟨rfl, rfl⟩
  have hsD : ∀ i, (i + z) % 3 ≠ k → says (D.sp i) = KD ∧ aliveB (D.sp i) = false := fun i hi => by
    rw [show D.sp i = _ from if_neg hi]
    refine ⟨rfl, ?_⟩
    have : k = 0 ∨ k = 1 ∨ k = 2 := by omega
    rcases this with rfl | rfl | rfl <;> rfl
  have hcA : cnt KA ((own D a 3).map (·.2)) ≤ 1 := by
    rw [hl]
    simp only [cnt_cons]
    rw [show cnt KA [] = 0 from rfl]
    have c0 : says (D.sp 0) = KA → (0 + z) % 3 = k := fun h => by
      by_cases hi : (0 + z) % 3 = k
      · exact hi
      · exact absurd (h.symm.trans (hsD 0 hi).1) hne
    have c1 : says (D.sp 1) = KA → (1 + z) % 3 = k := fun h => by
      by_cases hi : (1 + z) % 3 = k
      · exact hi
      · exact absurd (h.symm.trans (hsD 1 hi).1) hne
    have c2 : says (D.sp 2) = KA → (2 + z) % 3 = k := fun h => by
      by_cases hi : (2 + z) % 3 = k
      · exact hi
      · exact absurd (h.symm.trans (hsD 2 hi).1) hne
    have b0 : (if says (D.sp 0) = KA then 1 else 0) = 0 ∨ (if says (D.sp 0) = KA then 1 else 0) = 1 ∧ (0 + z) % 3 = k := by
      by_cases h : says (D.sp 0) = KA
      · exact .inr ⟨if_pos h, c0 h⟩
      · exact .inl (if_neg h)
    have b1 : (if says (D.sp 1) = KA then 1 else 0) = 0 ∨ (if says (D.sp 1) = KA then 1 else 0) = 1 ∧ (1 + z) % 3 = k := by
      by_cases h : says (D.sp 1) = KA
      · exact .inr ⟨if_pos h, c1 h⟩
      · exact .inl (if_neg h)
    have b2 : (if says (D.sp 2) = KA then 1 else 0) = 0 ∨ (if says (D.sp 2) = KA then 1 else 0) = 1 ∧ (2 + z) % 3 = k := by
      by_cases h : says (D.sp 2) = KA
      · exact .inr ⟨if_pos h, c2 h⟩
      · exact .inl (if_neg h)
    omega
  obtain ⟨v, hv1, hv2⟩ : ∃ v, v < 3 ∧ (v + z) % 3 ≠ k := by
    by_cases h0 : (0 + z) % 3 = k
    · exact ⟨1, by decide, by omega⟩
    · exact ⟨0, by decide, h0⟩
  have hg : says (gOf D a 3) = KD ∧ ∃ u, u < 3 ∧ gOf D a 3 = D.sp u := by
    refine pick_max (E := e) (P := fun s => says s = KD ∧ ∃ u, u < 3 ∧ s = D.sp u) (by omega) ?_ ?_ ?_
    · intro s hs
      obtain ⟨i, _, rfl⟩ := (hmem s).1 hs
      exact hev i
    · intro s hs t ht h3 h4
      obtain ⟨i, i1, rfl⟩ := (hmem s).1 hs
      obtain ⟨j, j1, rfl⟩ := (hmem t).1 ht
      have hi : (i + z) % 3 ≠ k := fun h => hne ((hsA i h).1.symm.trans h3.1)
      have hj : (j + z) % 3 = k := by
        by_cases h : (j + z) % 3 = k
        · exact h
        · exact absurd ⟨(hsD j h).1, j, j1, rfl⟩ h4
      unfold wgtL
      rw [(hsA j hj).1, (hsA j hj).2, (hsD i hi).1, (hsD i hi).2, cond_true, cond_false]
      have : 0 < cnt KD ((own D a 3).map (·.2)) := List.length_pos_of_mem (List.mem_filter.2 ⟨hs, decide_eq_true (hsD i hi).1⟩)
      omega
    · exact ⟨D.sp v, (hmem _).2 ⟨v, hv1, rfl⟩, (hsD v hv2).1, v, hv1, rfl⟩
  obtain ⟨u, hu1, hu2⟩ := hg.2
  have hg3 : ∃ M : Nat, M < 3 ∧ gOf D a 3 = ⟨a, ((M : Nat) : Int), l, 3, r, e, p, yS k 0 1, yS k 1 1, yS k 2 1, yS k 3 0, 0⟩ := by
    refine ⟨(u + z) % 3, hM u, ?_⟩
    rw [hu2]
    exact if_neg fun h => hne ((hsA u h).1.symm.trans (by rw [← hu2]; exact hg.1))
  obtain ⟨M, hM1, hg4⟩ := hg3
  have hgeo : ∀ i, geoEq (D.sp i) (gOf D a 3) := fun i => by
    rw [hg4]; exact ⟨(hf i).2.2.1, (hf i).2.2.2.1, (hf i).2.2.2.2.1⟩
  rw [show makeV D a 3 = _ from if_neg (own_ne (u := 0) (by decide) (hown 0))] at hS
  have hE := dk_has (D := D) (q := a) (g := gOf D a 3) (n := 3) hown hgeo (fun i _ => hm i) 3 (Nat.le_refl _)
  rw [hg4] at hS hE
  generalize dk D a _ 3 = E at hS hE
  have e0 : E.get 0 ≥ 0 := by
    have h := hE ((0 + 1 * 3 - z % 3) % 3) (Nat.mod_lt _ (by decide))
    have h2 := (hf ((0 + 1 * 3 - z % 3) % 3)).2.1
    rw [show (D.sp ((0 + 1 * 3 - z % 3) % 3)).m = 0 from h2.trans (by omega)] at h
    exact h
  have e1 : E.get 1 ≥ 0 := by
    have h := hE ((1 + 1 * 3 - z % 3) % 3) (Nat.mod_lt _ (by decide))
    have h2 := (hf ((1 + 1 * 3 - z % 3) % 3)).2.1
    rw [show (D.sp ((1 + 1 * 3 - z % 3) % 3)).m = 1 from h2.trans (by omega)] at h
    exact h
  have e2 : E.get 2 ≥ 0 := by
    have h := hE ((2 + 1 * 3 - z % 3) % 3) (Nat.mod_lt _ (by decide))
    have h2 := (hf ((2 + 1 * 3 - z % 3) % 3)).2.1
    rw [show (D.sp ((2 + 1 * 3 - z % 3) % 3)).m = 2 from h2.trans (by omega)] at h
    exact h
  have hfe : ∀ d, e - 1 ≤ evO D d := fun d => by rw [show evO D d = e from hev _]; omega
  have q0 : ∀ g : Sp, g.e = e → inB D g E 0 1 = true := fun g h => in_one e0 (by rw [h]; exact hfe _)
  have q1 : ∀ g : Sp, g.e = e → inB D g E 1 1 = true := fun g h => in_one e1 (by rw [h]; exact hfe _)
  have q2 : ∀ g : Sp, g.e = e → inB D g E 2 1 = true := fun g h => in_one e2 (by rw [h]; exact hfe _)
  have hr := h2 M (by omega) (by omega)
  refine ⟨_, _, _, _, _, _, _, _, _, hS, ?_⟩
  have : k = 0 ∨ k = 1 ∨ k = 2 := by omega
  rcases this with rfl | rfl | rfl
  · refine ⟨rfl, congrArg (fun b => some (V.bool b)) in_two, ?_, fun h => absurd rfl h, fun _ => congrArg nB (q1 (gq3 a l r e p 0 M) rfl), fun _ => congrArg nB (q2 (gq3 a l r e p 0 M) rfl)⟩
    rw [wkS_eq]
    refine Bool.and_eq_true_iff.2 ⟨hr, decide_eq_true ?_⟩
    show outs 3 _ _ _ _ _ _ _ _ ≤ 1
    rw [outs_3]
    have w0 : one0 (inB D (gq3 a l r e p 0 M) E 0 (yS 0 0 1)) (yS 0 0 1) = 1 := one0_a in_two
    have w1 : one0 (inB D (gq3 a l r e p 0 M) E 1 (yS 0 1 1)) (yS 0 1 1) = 0 := one0_c (q1 (gq3 a l r e p 0 M) rfl) rfl
    have w2 : one0 (inB D (gq3 a l r e p 0 M) E 2 (yS 0 2 1)) (yS 0 2 1) = 0 := one0_c (q2 (gq3 a l r e p 0 M) rfl) rfl
    rw [w0, w1, w2]
    decide
  · refine ⟨rfl, congrArg (fun b => some (V.bool b)) in_two, ?_, fun _ => congrArg nB (q0 (gq3 a l r e p 1 M) rfl), fun h => absurd rfl h, fun _ => congrArg nB (q2 (gq3 a l r e p 1 M) rfl)⟩
    rw [wkS_eq]
    refine Bool.and_eq_true_iff.2 ⟨hr, decide_eq_true ?_⟩
    show outs 3 _ _ _ _ _ _ _ _ ≤ 1
    rw [outs_3]
    have w0 : one0 (inB D (gq3 a l r e p 1 M) E 0 (yS 1 0 1)) (yS 1 0 1) = 0 := one0_c (q0 (gq3 a l r e p 1 M) rfl) rfl
    have w1 : one0 (inB D (gq3 a l r e p 1 M) E 1 (yS 1 1 1)) (yS 1 1 1) = 1 := one0_a in_two
    have w2 : one0 (inB D (gq3 a l r e p 1 M) E 2 (yS 1 2 1)) (yS 1 2 1) = 0 := one0_c (q2 (gq3 a l r e p 1 M) rfl) rfl
    rw [w0, w1, w2]
    decide
  · refine ⟨rfl, congrArg (fun b => some (V.bool b)) in_two, ?_, fun _ => congrArg nB (q0 (gq3 a l r e p 2 M) rfl), fun _ => congrArg nB (q1 (gq3 a l r e p 2 M) rfl), fun h => absurd rfl h⟩
    rw [wkS_eq]
    refine Bool.and_eq_true_iff.2 ⟨hr, decide_eq_true ?_⟩
    show outs 3 _ _ _ _ _ _ _ _ ≤ 1
    rw [outs_3]
    have w0 : one0 (inB D (gq3 a l r e p 2 M) E 0 (yS 2 0 1)) (yS 2 0 1) = 0 := one0_c (q0 (gq3 a l r e p 2 M) rfl) rfl
    have w1 : one0 (inB D (gq3 a l r e p 2 M) E 1 (yS 2 1 1)) (yS 2 1 1) = 0 := one0_c (q1 (gq3 a l r e p 2 M) rfl) rfl
    have w2 : one0 (inB D (gq3 a l r e p 2 M) E 2 (yS 2 2 1)) (yS 2 2 1) = 1 := one0_a in_two
    rw [w0, w1, w2]
    decide
abbrev sq4 (a l r e p : Int) (k z j : Nat) : Sp := spS a l 4 r e p 1 1 1 1 k ((j + z) % 4)
abbrev gq4 (a l r e p : Int) (k M : Nat) : Sp := ⟨a, ((M : Nat) : Int), l, 4, r, e, p, yS k 0 1, yS k 1 1, yS k 2 1, yS k 3 1, 0⟩
noncomputable def mS4 (a l r e p : Int) (k z : Nat) : Nat → Mem
  | 0 => memL 1 [(0, .cells (cel a 0 l 4 r e p 1 1 1 1 0) false)]
  | 1 => memL 4 [(0, .cells (cel a 0 l 4 r e p 1 1 1 1 0) false), (1, .cells (sq4 a l r e p k z 0).cs false), (2, .cells [.str (txtP (sq4 a l r e p k z 0)), .str zz] false), (3, .cells [.str (txtP (sq4 a l r e p k z 0)), .str zz] false)]
  | 2 => memL 7 [(0, .cells (cel a 0 l 4 r e p 1 1 1 1 0) false), (1, .cells (sq4 a l r e p k z 0).cs false), (2, .cells [.str (txtP (sq4 a l r e p k z 0)), .str zz] false), (3, .dead), (4, .cells (sq4 a l r e p k z 1).cs false), (5, .cells [.str (txtP (sq4 a l r e p k z 1)), .str zz] false), (6, .cells [.str (txtP (sq4 a l r e p k z 0)), .str zz, .str (txtP (sq4 a l r e p k z 1)), .str zz] false)]
  | 3 => memL 10 [(0, .cells (cel a 0 l 4 r e p 1 1 1 1 0) false), (1, .cells (sq4 a l r e p k z 0).cs false), (2, .cells [.str (txtP (sq4 a l r e p k z 0)), .str zz] false), (3, .dead), (4, .cells (sq4 a l r e p k z 1).cs false), (5, .cells [.str (txtP (sq4 a l r e p k z 1)), .str zz] false), (6, .dead), (7, .cells (sq4 a l r e p k z 2).cs false), (8, .cells [.str (txtP (sq4 a l r e p k z 2)), .str zz] false), (9, .cells [.str (txtP (sq4 a l r e p k z 0)), .str zz, .str (txtP (sq4 a l r e p k z 1)), .str zz, .str (txtP (sq4 a l r e p k z 2)), .str zz] false)]
  | _ => memL 13 [(0, .cells (cel a 0 l 4 r e p 1 1 1 1 0) false), (1, .cells (sq4 a l r e p k z 0).cs false), (2, .cells [.str (txtP (sq4 a l r e p k z 0)), .str zz] false), (3, .dead), (4, .cells (sq4 a l r e p k z 1).cs false), (5, .cells [.str (txtP (sq4 a l r e p k z 1)), .str zz] false), (6, .dead), (7, .cells (sq4 a l r e p k z 2).cs false), (8, .cells [.str (txtP (sq4 a l r e p k z 2)), .str zz] false), (9, .dead), (10, .cells (sq4 a l r e p k z 3).cs false), (11, .cells [.str (txtP (sq4 a l r e p k z 3)), .str zz] false), (12, .cells [.str (txtP (sq4 a l r e p k z 0)), .str zz, .str (txtP (sq4 a l r e p k z 1)), .str zz, .str (txtP (sq4 a l r e p k z 2)), .str zz, .str (txtP (sq4 a l r e p k z 3)), .str zz] false)]
def lS4 (k z : Nat) : Nat → List (Sl × V)
  | 0 => [(s2, .int .u8 ((z : Nat) : Int)), (s3, .ptr 0 0), (s8, .int .i64 ((k : Nat) : Int)), (s9, .nilslice), (s10, .int .i64 0)]
  | 1 => [(s2, .int .u8 ((z : Nat) : Int)), (s3, .ptr 0 0), (s8, .int .i64 ((k : Nat) : Int)), (s9, .slice 3 0 1 1 2), (s10, .int .i64 1)]
  | 2 => [(s2, .int .u8 ((z : Nat) : Int)), (s3, .ptr 0 0), (s8, .int .i64 ((k : Nat) : Int)), (s9, .slice 6 0 2 2 2), (s10, .int .i64 2)]
  | 3 => [(s2, .int .u8 ((z : Nat) : Int)), (s3, .ptr 0 0), (s8, .int .i64 ((k : Nat) : Int)), (s9, .slice 9 0 3 3 2), (s10, .int .i64 3)]
  | _ => [(s2, .int .u8 ((z : Nat) : Int)), (s3, .ptr 0 0), (s8, .int .i64 ((k : Nat) : Int)), (s9, .slice 12 0 4 4 2), (s10, .int .i64 4)]
theorem stale_loop4 (a l r e p : Int) {k z : Nat} (hz : z < 256) (hk : k < 4) (h1 : ∀ M : Int, 0 ≤ M → M < 4 → rightS a M l 4 r e p 1 1 1 1 0 = true) (h2 : ∀ M : Int, 0 ≤ M → M < 4 → rightS a M l 4 r e p (yS k 0 1) (yS k 1 1) (yS k 2 1) (yS k 3 1) 0 = true) :
    LoopOk2 (callD pA tb0 la12 5) c10l1 (.exit 2) (mS4 a l r e p k z 0) (lS4 k z 0) (mS4 a l r e p k z 4) (lS4 k z 4) := by
  have hM : ∀ i : Nat, (((i + z) % 4 : Nat) : Int) < 4 := fun i => by have := Nat.mod_lt (i + z) (show 4 > 0 by decide); omega
  refine loop2 4 (by decide) (mS4 a l r e p k z) (lS4 k z) ?_ ?_
  · intro Y i T hi hT K hK
    match i, hi with
    | 0, _ => exact slS_0 Y a l 4 r e p 1 1 1 1 k z ((0 + z) % 4)  hz (by decide) (by decide) (by decide) rfl (hM 0) (by omega) h1 h2 T hT K hK
    | 1, _ => exact slS_1 Y a l 4 r e p 1 1 1 1 k z ((1 + z) % 4) (sq4 a l r e p k z 0).cs (txtP (sq4 a l r e p k z 0)) hz (by decide) (by decide) (by decide) rfl (hM 1) (by omega) h1 h2 T hT K hK
    | 2, _ => exact slS_2 Y a l 4 r e p 1 1 1 1 k z ((2 + z) % 4) (sq4 a l r e p k z 0).cs (txtP (sq4 a l r e p k z 0)) (sq4 a l r e p k z 1).cs (txtP (sq4 a l r e p k z 1)) hz (by decide) (by decide) (by decide) rfl (hM 2) (by omega) h1 h2 T hT K hK
    | 3, _ => exact slS_3 Y a l 4 r e p 1 1 1 1 k z ((3 + z) % 4) (sq4 a l r e p k z 0).cs (txtP (sq4 a l r e p k z 0)) (sq4 a l r e p k z 1).cs (txtP (sq4 a l r e p k z 1)) (sq4 a l r e p k z 2).cs (txtP (sq4 a l r e p k z 2)) hz (by decide) (by decide) (by decide) rfl (hM 3) (by omega) h1 h2 T hT K hK
    | i + 4, hi => omega
  · intro Y T hT K hK
    exact slf_4 Y a l r e p 1 1 1 1 0 k z (sq4 a l r e p k z 0).cs (txtP (sq4 a l r e p k z 0)) (sq4 a l r e p k z 1).cs (txtP (sq4 a l r e p k z 1)) (sq4 a l r e p k z 2).cs (txtP (sq4 a l r e p k z 2)) (sq4 a l r e p k z 3).cs (txtP (sq4 a l r e p k z 3)) T hT K hK
theorem stale_made4 {a l r e p : Int} {k z : Nat} (hk : k < 4) (he : 1 ≤ e ∧ e ≤ 2147483647) (h1 : ∀ M : Int, 0 ≤ M → M < 4 → rightS a M l 4 r e p 1 1 1 1 0 = true) (h2 : ∀ M : Int, 0 ≤ M → M < 4 → rightS a M l 4 r e p (yS k 0 1) (yS k 1 1) (yS k 2 1) (yS k 3 1) 0 = true) :
    ∃ (gg : Sp) (d0 d1 d2 d3 : Int) (f0 f1 f2 f3 : Bool), S23 ⟨[.slice 0 0 4 4 2, .int .i64 a], [.cells [.str (txtP (sq4 a l r e p k z 0)), .str zz, .str (txtP (sq4 a l r e p k z 1)), .str zz, .str (txtP (sq4 a l r e p k z 2)), .str zz, .str (txtP (sq4 a l r e p k z 3)), .str zz] false], .tuple [.agg (mad gg.a gg.m gg.l gg.n gg.r gg.e gg.p gg.x0 gg.x1 gg.x2 gg.x3 gg.c d0 d1 d2 d3 f0 f1 f2 f3), .int .i64 0], [.cells [.str (txtP (sq4 a l r e p k z 0)), .str zz, .str (txtP (sq4 a l r e p k z 1)), .str zz, .str (txtP (sq4 a l r e p k z 2)), .str zz, .str (txtP (sq4 a l r e p k z 3)), .str zz] false], []⟩ ∧
      nth (mad gg.a gg.m gg.l gg.n gg.r gg.e gg.p gg.x0 gg.x1 gg.x2 gg.x3 gg.c d0 d1 d2 d3 f0 f1 f2 f3) (7 + k * 1) = some (.int .i64 2) ∧ nth (mad gg.a gg.m gg.l gg.n gg.r gg.e gg.p gg.x0 gg.x1 gg.x2 gg.x3 gg.c d0 d1 d2 d3 f0 f1 f2 f3) (16 + k * 1) = some (.bool false) ∧ wkS gg.a gg.m gg.l gg.n gg.r gg.e gg.p gg.x0 gg.x1 gg.x2 gg.x3 gg.c f0 f1 f2 f3 = true ∧ (0 ≠ ((k : Nat) : Int) → nB f0 = false) ∧ (1 ≠ ((k : Nat) : Int) → nB f1 = false) ∧ (2 ≠ ((k : Nat) : Int) → nB f2 = false) ∧ (3 ≠ ((k : Nat) : Int) → nB f3 = false) := by
  let D : Dk := ⟨fun i => txtP (spS a l 4 r e p 1 1 1 1 k ((i + z) % 4)), fun _ => zz, fun i => spS a l 4 r e p 1 1 1 1 k ((i + z) % 4), fun _ => 1, fun _ => true⟩
  have hf := fun i : Nat => spS_f a l 4 r e p 1 1 1 1 k ((i + z) % 4)
  have hM : ∀ i : Nat, (i + z) % 4 < 4 := fun i => Nat.mod_lt _ (by decide)
  have hown : ∀ i, isOwn D a i := fun i => ⟨rfl, (hf i).1⟩
  have hm : ∀ i, (D.sp i).m = 0 ∨ (D.sp i).m = 1 ∨ (D.sp i).m = 2 ∨ (D.sp i).m = 3 := fun i => by
    have h : (D.sp i).m = (((i + z) % 4 : Nat) : Int) := (hf i).2.1
    have := hM i
    omega
  have hev : ∀ i, (D.sp i).e = e := fun i => (hf i).2.2.2.2.2
  have ok : DkOk D ofRs [.str (txtP (sq4 a l r e p k z 0)), .str zz, .str (txtP (sq4 a l r e p k z 1)), .str zz, .str (txtP (sq4 a l r e p k z 2)), .str zz, .str (txtP (sq4 a l r e p k z 3)), .str zz] 4 := by
    refine ⟨by decide, fun p => rfl, ?_, fun i hi => ?_, fun i hi _ => ⟨?_, hm i, ?_, ?_⟩⟩
    · intro i hi
      match i, hi with
      | 0, _ => rfl
      | 1, _ => rfl
      | 2, _ => rfl
      | 3, _ => rfl
      | i + 4, hi => omega
    · exact (back_T (spS_right (by have := hM i; omega) h1 h2) (E := (D.sp i).e) (by rw [hev]; exact he.1) (by rw [hev]; exact he.2)).2.2.1 zz (.inl errR_zz)
    · exact .inr (.inr (hf i).2.2.2.1)
    · rw [hev]; omega
    · rw [hev]; omega
  have hS := S23.mk D _ 4 4 a ok
  have hl : (own D a 4).map (·.2) = [D.sp 0, D.sp 1, D.sp 2, D.sp 3] := by
    simp only [own, hown, if_true, List.nil_append, List.map_append, List.map_cons, List.map_nil, List.cons_append] <;> rfl
  have hmem : ∀ s, s ∈ (own D a 4).map (·.2) ↔ ∃ i, i < 4 ∧ s = D.sp i := by
    intro s
    constructor
    · intro hs
      obtain ⟨x, hx, rfl⟩ := List.mem_map.1 hs
      obtain ⟨k1, _, k3⟩ := mem_own.1 (show (x.1, x.2) ∈ own D a 4 from hx)
      exact ⟨x.1, k1, k3⟩
    · rintro ⟨i, hi, rfl⟩
      exact List.mem_map.2 ⟨(i, D.sp i), mem_own.2 ⟨hi, hown i, rfl⟩, rfl⟩
  let KA : Sp := ⟨a, 0, l, 4, r, e, p, 1, 1, 1, 1, 0⟩
  let KD : Sp := ⟨a, 0, l, 4, r, e, p, yS k 0 1, yS k 1 1, yS k 2 1, yS k 3 1, 0⟩
  have hne : KA ≠ KD := by
    intro h
    have e0 := congrArg Sp.x0 h; have e1 := congrArg Sp.x1 h; have e2 := congrArg Sp.x2 h; have e3 := congrArg Sp.x3 h
    simp only [KA, KD, yS] at e0 e1 e2 e3
    have : k = 0 ∨ k = 1 ∨ k = 2 ∨ k = 3 := by omega
    rcases this with rfl | rfl | rfl | rfl <;> simp at e0 e1 e2 e3 <;> omega
  have hsA : ∀ i, (i + z) % 4 = k → says (D.sp i) = KA ∧ aliveB (D.sp i) = true := fun i hi => by
    rw [show D.sp i = _ from if_pos hi]; exact ⟨rfl, rfl⟩
  have hsD : ∀ i, (i + z) % 4 ≠ k → says (D.sp i) = KD ∧ aliveB (D.sp i) = false := fun i hi => by
    rw [show D.sp i = _ from if_neg hi]
    refine ⟨rfl, ?_⟩
    have : k = 0 ∨ k = 1 ∨ k = 2 ∨ k = 3 := by omega
    rcases this with rfl | rfl | rfl | rfl <;> rfl
  have hcA : cnt KA ((own D a 4).map (·.2)) ≤ 1 := by
    rw [hl]
    simp only [cnt_cons]
    rw [show cnt KA [] = 0 from rfl]
    have c0 : says (D.sp 0) = KA → (0 + z) % 4 = k := fun h => by
      by_cases hi : (0 + z) % 4 = k
      · exact hi
      · exact absurd (h.symm.trans (hsD 0 hi).1) hne
    have c1 : says (D.sp 1) = KA → (1 + z) % 4 = k := fun h => by
      by_cases hi : (1 + z) % 4 = k
      · exact hi
      · exact absurd (h.symm.trans (hsD 1 hi).1) hne
    have c2 : says (D.sp 2) = KA → (2 + z) % 4 = k := fun h => by
      by_cases hi : (2 + z) % 4 = k
      · exact hi
      · exact absurd (h.symm.trans (hsD 2 hi).1) hne
    have c3 : says (D.sp 3) = KA → (3 + z) % 4 = k := fun h => by
      by_cases hi : (3 + z) % 4 = k
      · exact hi
      · exact absurd (h.symm.trans (hsD 3 hi).1) hne
    have b0 : (if says (D.sp 0) = KA then 1 else 0) = 0 ∨ (if says (D.sp 0) = KA then 1 else 0) = 1 ∧ (0 + z) % 4 = k := by
      by_cases h : says (D.sp 0) = KA
      · exact .inr ⟨if_pos h, c0 h⟩
      · exact .inl (if_neg h)
    have b1 : (if says (D.sp 1) = KA then 1 else 0) = 0 ∨ (if says (D.sp 1) = KA then 1 else 0) = 1 ∧ (1 + z) % 4 = k := by
      by_cases h : says (D.sp 1) = KA
      · exact .inr ⟨if_pos h, c1 h⟩
      · exact .inl (if_neg h)
    have b2 : (if says (D.sp 2) = KA then 1 else 0) = 0 ∨ (if says (D.sp 2) = KA then 1 else 0) = 1 ∧ (2 + z) % 4 = k := by
      by_cases h : says (D.sp 2) = KA
      · exact .inr ⟨if_pos h, c2 h⟩
      · exact .inl (if_neg h)
    have b3 : (if says (D.sp 3) = KA then 1 else 0) = 0 ∨ (if says (D.sp 3) = KA then 1 else 0) = 1 ∧ (3 + z) % 4 = k := by
      by_cases h : says (D.sp 3) = KA
      · exact .inr ⟨if_pos h, c3 h⟩
      · exact .inl (if_neg h)
    omega
  obtain ⟨v, hv1, hv2⟩ : ∃ v, v < 4 ∧ (v + z) % 4 ≠ k := by
    by_cases h0 : (0 + z) % 4 = k
    · exact ⟨1, by decide, by omega⟩
    · exact ⟨0, by decide, h0⟩
  have hg : says (gOf D a 4) = KD ∧ ∃ u, u < 4 ∧ gOf D a 4 = D.sp u := by
    refine pick_max (E := e) (P := fun s => says s = KD ∧ ∃ u, u < 4 ∧ s = D.sp u) (by omega) ?_ ?_ ?_
    · intro s hs
      obtain ⟨i, _, rfl⟩ := (hmem s).1 hs
      exact hev i
    · intro s hs t ht h3 h4
      obtain ⟨i, i1, rfl⟩ := (hmem s).1 hs
      obtain ⟨j, j1, rfl⟩ := (hmem t).1 ht
      have hi : (i + z) % 4 ≠ k := fun h => hne ((hsA i h).1.symm.trans h3.1)
      have hj : (j + z) % 4 = k := by
        by_cases h : (j + z) % 4 = k
        · exact h
        · exact absurd ⟨(hsD j h).1, j, j1, rfl⟩ h4
      unfold wgtL
      rw [(hsA j hj).1, (hsA j hj).2, (hsD i hi).1, (hsD i hi).2, cond_true, cond_false]
      have : 0 < cnt KD ((own D a 4).map (·.2)) := List.length_pos_of_mem (List.mem_filter.2 ⟨hs, decide_eq_true (hsD i hi).1⟩)
      omega
    · exact ⟨D.sp v, (hmem _).2 ⟨v, hv1, rfl⟩, (hsD v hv2).1, v, hv1, rfl⟩
  obtain ⟨u, hu1, hu2⟩ := hg.2
  have hg3 : ∃ M : Nat, M < 4 ∧ gOf D a 4 = ⟨a, ((M : Nat) : Int), l, 4, r, e, p, yS k 0 1, yS k 1 1, yS k 2 1, yS k 3 1, 0⟩ := by
    refine ⟨(u + z) % 4, hM u, ?_⟩
    rw [hu2]
    exact if_neg fun h => hne ((hsA u h).1.symm.trans (by rw [← hu2]; exact hg.1))
  obtain ⟨M, hM1, hg4⟩ := hg3
  have hgeo : ∀ i, geoEq (D.sp i) (gOf D a 4) := fun i => by
    rw [hg4]; exact ⟨(hf i).2.2.1, (hf i).2.2.2.1, (hf i).2.2.2.2.1⟩
  rw [show makeV D a 4 = _ from if_neg (own_ne (u := 0) (by decide) (hown 0))] at hS
  have hE := dk_has (D := D) (q := a) (g := gOf D a 4) (n := 4) hown hgeo (fun i _ => hm i) 4 (Nat.le_refl _)
  rw [hg4] at hS hE
  generalize dk D a _ 4 = E at hS hE
  have e0 : E.get 0 ≥ 0 := by
    have h := hE ((0 + 1 * 4 - z % 4) % 4) (Nat.mod_lt _ (by decide))
    have h2 := (hf ((0 + 1 * 4 - z % 4) % 4)).2.1
    rw [show (D.sp ((0 + 1 * 4 - z % 4) % 4)).m = 0 from h2.trans (by omega)] at h
    exact h
  have e1 : E.get 1 ≥ 0 := by
    have h := hE ((1 + 1 * 4 - z % 4) % 4) (Nat.mod_lt _ (by decide))
    have h2 := (hf ((1 + 1 * 4 - z % 4) % 4)).2.1
    rw [show (D.sp ((1 + 1 * 4 - z % 4) % 4)).m = 1 from h2.trans (by omega)] at h
    exact h
  have e2 : E.get 2 ≥ 0 := by
    have h := hE ((2 + 1 * 4 - z % 4) % 4) (Nat.mod_lt _ (by decide))
    have h2 := (hf ((2 + 1 * 4 - z % 4) % 4)).2.1
    rw [show (D.sp ((2 + 1 * 4 - z % 4) % 4)).m = 2 from h2.trans (by omega)] at h
    exact h
  have e3 : E.get 3 ≥ 0 := by
    have h := hE ((3 + 1 * 4 - z % 4) % 4) (Nat.mod_lt _ (by decide))
    have h2 := (hf ((3 + 1 * 4 - z % 4) % 4)).2.1
    rw [show (D.sp ((3 + 1 * 4 - z % 4) % 4)).m = 3 from h2.trans (by omega)] at h
    exact h
  have hfe : ∀ d, e - 1 ≤ evO D d := fun d => by rw [show evO D d = e from hev _]; omega
  have q0 : ∀ g : Sp, g.e = e → inB D g E 0 1 = true := fun g h => in_one e0 (by rw [h]; exact hfe _)
  have q1 : ∀ g : Sp, g.e = e → inB D g E 1 1 = true := fun g h => in_one e1 (by rw [h]; exact hfe _)
  have q2 : ∀ g : Sp, g.e = e → inB D g E 2 1 = true := fun g h => in_one e2 (by rw [h]; exact hfe _)
  have q3 : ∀ g : Sp, g.e = e → inB D g E 3 1 = true := fun g h => in_one e3 (by rw [h]; exact hfe _)
  have hr := h2 M (by omega) (by omega)
  refine ⟨_, _, _, _, _, _, _, _, _, hS, ?_⟩
  have : k = 0 ∨ k = 1 ∨ k = 2 ∨ k = 3 := by omega
  rcases this with rfl | rfl | rfl | rfl
  · refine ⟨rfl, congrArg (fun b => some (V.bool b)) in_two, ?_, fun h => absurd rfl h, fun _ => congrArg nB (q1 (gq4 a l r e p 0 M) rfl), fun _ => congrArg nB (q2 (gq4 a l r e p 0 M) rfl), fun _ => congrArg nB (q3 (gq4 a l r e p 0 M) rfl)⟩
    rw [wkS_eq]
    refine Bool.and_eq_true_iff.2 ⟨hr, decide_eq_true ?_⟩
    show outs 4 _ _ _ _ _ _ _ _ ≤ 1
    rw [outs_4]
    have w0 : one0 (inB D (gq4 a l r e p 0 M) E 0 (yS 0 0 1)) (yS 0 0 1) = 1 := one0_a in_two
    have w1 : one0 (inB D (gq4 a l r e p 0 M) E 1 (yS 0 1 1)) (yS 0 1 1) = 0 := one0_c (q1 (gq4 a l r e p 0 M) rfl) rfl
    have w2 : one0 (inB D (gq4 a l r e p 0 M) E 2 (yS 0 2 1)) (yS 0 2 1) = 0 := one0_c (q2 (gq4 a l r e p 0 M) rfl) rfl
    have w3 : one0 (inB D (gq4 a l r e p 0 M) E 3 (yS 0 3 1)) (yS 0 3 1) = 0 := one0_c (q3 (gq4 a l r e p 0 M) rfl) rfl
    rw [w0, w1, w2, w3]
    decide
  · refine ⟨rfl, congrArg (fun b => some (V.bool b)) in_two, ?_, fun _ => congrArg nB (q0 (gq4 a l r e p 1 M) rfl), fun h => absurd rfl h, fun _ => congrArg nB (q2 (gq4 a l r e p 1 M) rfl), fun _ => congrArg nB (q3 (gq4 a l r e p 1 M) rfl)⟩
    rw [wkS_eq]
    refine Bool.and_eq_true_iff.2 ⟨hr, decide_eq_true ?_⟩
    show outs 4 _ _ _ _ _ _ _ _ ≤ 1
    rw [outs_4]
    have w0 : one0 (inB D (gq4 a l r e p 1 M) E 0 (yS 1 0 1)) (yS 1 0 1) = 0 := one0_c (q0 (gq4 a l r e p 1 M) rfl) rfl
    have w1 : one0 (inB D (gq4 a l r e p 1 M) E 1 (yS 1 1 1)) (yS 1 1 1) = 1 := one0_a in_two
    have w2 : one0 (inB D (gq4 a l r e p 1 M) E 2 (yS 1 2 1)) (yS 1 2 1) = 0 := one0_c (q2 (gq4 a l r e p 1 M) rfl) rfl
    have w3 : one0 (inB D (gq4 a l r e p 1 M) E 3 (yS 1 3 1)) (yS 1 3 1) = 0 := one0_c (q3 (gq4 a l r e p 1 M) rfl) rfl
    rw [w0, w1, w2, w3]
    decide
  · refine ⟨rfl, congrArg (fun b => some (V.bool b)) in_two, ?_, fun _ => congrArg nB (q0 (gq4 a l r e p 2 M) rfl), fun _ => congrArg nB (q1 (gq4 a l r e p 2 M) rfl), fun h => absurd rfl h, fun _ => congrArg nB (q3 (gq4 a l r e p 2 M) rfl)⟩
    rw [wkS_eq]
    refine Bool.and_eq_true_iff.2 ⟨hr, decide_eq_true ?_⟩
    show outs 4 _ _ _ _ _ _ _ _ ≤ 1
    rw [outs_4]
    have w0 : one0 (inB D (gq4 a l r e p 2 M) E 0 (yS 2 0 1)) (yS 2 0 1) = 0 := one0_c (q0 (gq4 a l r e p 2 M) rfl) rfl
    have w1 : one0 (inB D (gq4 a l r e p 2 M) E 1 (yS 2 1 1)) (yS 2 1 1) = 0 := one0_c (q1 (gq4 a l r e p 2 M) rfl) rfl
    have w2 : one0 (inB D (gq4 a l r e p 2 M) E 2 (yS 2 2 1)) (yS 2 2 1) = 1 := one0_a in_two
    have w3 : one0 (inB D (gq4 a l r e p 2 M) E 3 (yS 2 3 1)) (yS 2 3 1) = 0 := one0_c (q3 (gq4 a l r e p 2 M) rfl) rfl
    rw [w0, w1, w2, w3]
    decide
  · refine ⟨rfl, congrArg (fun b => some (V.bool b)) in_two, ?_, fun _ => congrArg nB (q0 (gq4 a l r e p 3 M) rfl), fun _ => congrArg nB (q1 (gq4 a l r e p 3 M) rfl), fun _ => congrArg nB (q2 (gq4 a l r e p 3 M) rfl), fun h => absurd rfl h⟩
    rw [wkS_eq]
    refine Bool.and_eq_true_iff.2 ⟨hr, decide_eq_true ?_⟩
    show outs 4 _ _ _ _ _ _ _ _ ≤ 1
    rw [outs_4]
    have w0 : one0 (inB D (gq4 a l r e p 3 M) E 0 (yS 3 0 1)) (yS 3 0 1) = 0 := one0_c (q0 (gq4 a l r e p 3 M) rfl) rfl
    have w1 : one0 (inB D (gq4 a l r e p 3 M) E 1 (yS 3 1 1)) (yS 3 1 1) = 0 := one0_c (q1 (gq4 a l r e p 3 M) rfl) rfl
    have w2 : one0 (inB D (gq4 a l r e p 3 M) E 2 (yS 3 2 1)) (yS 3 2 1) = 0 := one0_c (q2 (gq4 a l r e p 3 M) rfl) rfl
    have w3 : one0 (inB D (gq4 a l r e p 3 M) E 3 (yS 3 3 1)) (yS 3 3 1) = 1 := one0_a in_two
    rw [w0, w1, w2, w3]
    decide
theorem stale_walk (Y : Ys Prop) (a m l n r e p x0 x1 x2 x3 c : Int) (w z : Nat) (hw8 : w < 256) (hz : z < 256) (K : V → Mem → Prop) (hK : ∀ mm, K (.bool true) mm) :
    body1 pA (callD pA tb0 la12 5) Y c10 [sup a m l n r e p x0 x1 x2 x3 c, .int .u8 ((w : Nat) : Int), .int .u8 ((z : Nat) : Int)] ⟨0, .leaf⟩ K := by
  cases g : rightS a 0 l n r e p x0 x1 x2 x3 c with
  | false => exact st_no Y a m l n r e p x0 x1 x2 x3 c w z g K hK
  | true =>
    have he : 1 ≤ e ∧ e ≤ 2147483647 := by rw [rightS_eq, decide_eq_true_eq] at g; unfold rightP at g; omega
    rcases (right_n g).1 with rfl | rfl | rfl
    · by_cases hx : x0 = 1 ∧ x1 = 1
      · obtain ⟨rfl, rfl⟩ := hx
        have hk : w % 2 < 2 := Nat.mod_lt _ (by decide)
        obtain ⟨rfl, q2, q3, h1, h2⟩ := right_d g ⟨rfl, rfl, .inl (by decide), .inl (by decide)⟩ (k := w % 2) (by omega)
        obtain rfl := q2 (by decide)
        obtain rfl := q3 (by decide)
        obtain ⟨gg, d0, d1, d2, d3, f0, f1, f2, f3, hS, l1, l2, hw, hf0, hf1⟩ := stale_made2 (z := z) hk he h1 h2
        exact st_2 Y a l r e p m w z (w % 2) hw8 hz rfl g (sq2 a l r e p (w % 2) z 0).cs (txtP (sq2 a l r e p (w % 2) z 0)) (sq2 a l r e p (w % 2) z 1).cs (txtP (sq2 a l r e p (w % 2) z 1)) (stale_loop2 a l r e p hz hk h1 h2) gg.a gg.m gg.l gg.n gg.r gg.e gg.p gg.x0 gg.x1 gg.x2 gg.x3 gg.c d0 d1 d2 d3 f0 f1 f2 f3 hS (by omega) l1 l2 hw hf0 hf1 K hK
      · exact st_dead_2 Y a m l r e p x0 x1 x2 x3 c w z g hx K hK
    · by_cases hx : x0 = 1 ∧ x1 = 1 ∧ x2 = 1
      · obtain ⟨rfl, rfl, rfl⟩ := hx
        have hk : w % 3 < 3 := Nat.mod_lt _ (by decide)
        obtain ⟨rfl, q2, q3, h1, h2⟩ := right_d g ⟨rfl, rfl, .inr rfl, .inl (by decide)⟩ (k := w % 3) (by omega)
        obtain rfl := q3 (by decide)
        obtain ⟨gg, d0, d1, d2, d3, f0, f1, f2, f3, hS, l1, l2, hw, hf0, hf1, hf2⟩ := stale_made3 (z := z) hk he h1 h2
        exact st_3 Y a l r e p m w z (w % 3) hw8 hz rfl g (sq3 a l r e p (w % 3) z 0).cs (txtP (sq3 a l r e p (w % 3) z 0)) (sq3 a l r e p (w % 3) z 1).cs (txtP (sq3 a l r e p (w % 3) z 1)) (sq3 a l r e p (w % 3) z 2).cs (txtP (sq3 a l r e p (w % 3) z 2)) (stale_loop3 a l r e p hz hk h1 h2) gg.a gg.m gg.l gg.n gg.r gg.e gg.p gg.x0 gg.x1 gg.x2 gg.x3 gg.c d0 d1 d2 d3 f0 f1 f2 f3 hS (by omega) l1 l2 hw hf0 hf1 hf2 K hK
      · exact st_dead_3 Y a m l r e p x0 x1 x2 x3 c w z g hx K hK
    · by_cases hx : x0 = 1 ∧ x1 = 1 ∧ x2 = 1 ∧ x3 = 1
      · obtain ⟨rfl, rfl, rfl, rfl⟩ := hx
        have hk : w % 4 < 4 := Nat.mod_lt _ (by decide)
        obtain ⟨rfl, q2, q3, h1, h2⟩ := right_d g ⟨rfl, rfl, .inr rfl, .inr rfl⟩ (k := w % 4) (by omega)
        obtain ⟨gg, d0, d1, d2, d3, f0, f1, f2, f3, hS, l1, l2, hw, hf0, hf1, hf2, hf3⟩ := stale_made4 (z := z) hk he h1 h2
        exact st_4 Y a l r e p m w z (w % 4) hw8 hz rfl g (sq4 a l r e p (w % 4) z 0).cs (txtP (sq4 a l r e p (w % 4) z 0)) (sq4 a l r e p (w % 4) z 1).cs (txtP (sq4 a l r e p (w % 4) z 1)) (sq4 a l r e p (w % 4) z 2).cs (txtP (sq4 a l r e p (w % 4) z 2)) (sq4 a l r e p (w % 4) z 3).cs (txtP (sq4 a l r e p (w % 4) z 3)) (stale_loop4 a l r e p hz hk h1 h2) gg.a gg.m gg.l gg.n gg.r gg.e gg.p gg.x0 gg.x1 gg.x2 gg.x3 gg.c d0 d1 d2 d3 f0 f1 f2 f3 hS (by omega) l1 l2 hw hf0 hf1 hf2 hf3 K hK
      · exact st_dead_4 Y a m l r e p x0 x1 x2 x3 c w z g hx K hK
section
variable {P : Program} (hmix : P.follows .mixedOrders = true)
include hmix
theorem wk26_ok (h2 : LastOk P la2 id) (h9 : LastOk P la9 id) (o26 : FOk P 26 c26) : LastOk P (lastFn 26 wkR la9) id := lastFn_ok (callable_fok o26) (fun ρ args args' v hv ha => by
    unfold wkR at hv; split at hv
    · cases hv; exact answers_of_walk hmix o26 (callD_sound pHolds hmix tb0_ok h2 5) ha rfl rfl (fun K hK => wk_run _ _ _ _ _ _ _ _ _ _ _ _ _ _ _ _ _ _ _ _ _ K hK)
    · cases hv) h9
end
end Go.Proofs.Ythmbmcpjakbepaa
