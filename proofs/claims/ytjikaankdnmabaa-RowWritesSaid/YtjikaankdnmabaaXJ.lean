/- The document's Needs by what it answers. No condition. -/
import Derived.Test.YtjikaankdnmabaaXW
import Derived.Test.YtjikaankdnmabaaTP
namespace Go.Proofs.Ytjikaankdnmabaa
open Go Go.AM
set_option maxRecDepth 100000
set_option maxHeartbeats 4000000
set_option linter.unusedVariables false
set_option linter.unusedSectionVars false
def badR (m p : Int) (y : En) : Prop := ¬ (0 ≤ keyI y ∧ keyI y < m ∧ keyI y ≠ p ∧ ∃ g, y.2.1 = .str g ∧ g.length = 64)
theorem ql_ok (l m r s : Int) (b0 b1 b2 b3 : Bool) {L : List (Int × List Nat × Nat)} {c : Nat} (ro : Bool) (p : Int) (hs : Stamped (mV L) c) (hb : ∀ y ∈ mV L, ¬ badR m p y) : LoopOk3 (callD pA tb0 la11 5) c11l0 (.exit 0) (memL 4 [(0, .map (mV L) c ro), (1, .cells [.int .i64 l, .int .i64 m, .int .i64 r] false), (2, .cells (inP b0 b1 b2 b3) false), (3, .iter (some 0) c [] c)]) [(s1, .int .i64 s), (s3, .map 0), (s4, .ptr 1 0), (s6, .ptr 2 0), (s11, .int .i64 p), (s34, .ptr 3 0)] (fun v => List.Perm v (mV L)) (fun v => memL 4 [(0, .map (mV L) c ro), (1, .cells [.int .i64 l, .int .i64 m, .int .i64 r] false), (2, .cells (inP b0 b1 b2 b3) false), (3, .iter (some 0) c (stamps v) c)]) (fun v => [(s1, .int .i64 s), (s3, .map 0), (s4, .ptr 1 0), (s6, .ptr 2 0), (s11, .int .i64 p), (s34, .ptr 3 0)]) := by
  rw [c11l0_eq]
  refine rangeL hs (fun vis => memL 4 [(0, .map (mV L) c ro), (1, .cells [.int .i64 l, .int .i64 m, .int .i64 r] false), (2, .cells (inP b0 b1 b2 b3) false), (3, itO 0 c vis)]) (fun vis y => memL 4 [(0, .map (mV L) c ro), (1, .cells [.int .i64 l, .int .i64 m, .int .i64 r] false), (2, .cells (inP b0 b1 b2 b3) false), (3, itO1 0 c vis y.2.2)]) (fun _ => [(s1, .int .i64 s), (s3, .map 0), (s4, .ptr 1 0), (s6, .ptr 2 0), (s11, .int .i64 p), (s34, .ptr 3 0)]) (fun _ => rfl) (fun _ => rfl) (fun _ _ => rfl) (fun _ _ hT => hT.2.2.2.2.2.1) (fun _ => ⟨rfl, rfl⟩) (fun Y vis y T _ hy _ hT K hK => ?_)
  obtain ⟨z, hz, rfl⟩ := mV_mem hy
  obtain ⟨g0, g1, g2, g, g3, g4⟩ := Classical.not_not.1 (hb _ hy)
  cases g3
  refine qn_g Y l m r s b0 b1 b2 b3 L c ro p z.2.2 (stamps vis) z.1 z.2.1 (entry_ok hs hy _ _) g0 g1 g2 g4 T hT K fun T' hT' => ?_
  have := hK T' hT'
  rw [show itO 0 c (vis ++ [(V.int .i64 z.1, V.str z.2.1, z.2.2)]) = .iter (some 0) c (stamps vis ++ [z.2.2]) c by unfold itO; rw [stamps_app]] at this
  exact this
theorem ql_bad (l m r s : Int) (b0 b1 b2 b3 : Bool) {L : List (Int × List Nat × Nat)} {c : Nat} (ro : Bool) (p : Int) (hs : Stamped (mV L) c) (hb : ∃ y ∈ mV L, badR m p y) : LoopOk3 (callD pA tb0 la11 5) c11l0 .ret (memL 4 [(0, .map (mV L) c ro), (1, .cells [.int .i64 l, .int .i64 m, .int .i64 r] false), (2, .cells (inP b0 b1 b2 b3) false), (3, .iter (some 0) c [] c)]) [(s1, .int .i64 s), (s3, .map 0), (s4, .ptr 1 0), (s6, .ptr 2 0), (s11, .int .i64 p), (s34, .ptr 3 0)] (fun v => Vis (mV L) v) (fun v => memL 4 [(0, .map (mV L) c ro), (1, .cells [.int .i64 l, .int .i64 m, .int .i64 r] false), (2, .cells (inP b0 b1 b2 b3) false), (3, .iter (some 0) c (stamps v) c)]) (fun v => [(s8, .nilslice), (s9, .int .i64 1)]) := by
  rw [c11l0_eq]
  refine rangeX hs (badR m p) (fun vis => memL 4 [(0, .map (mV L) c ro), (1, .cells [.int .i64 l, .int .i64 m, .int .i64 r] false), (2, .cells (inP b0 b1 b2 b3) false), (3, itO 0 c vis)]) (fun vis y => memL 4 [(0, .map (mV L) c ro), (1, .cells [.int .i64 l, .int .i64 m, .int .i64 r] false), (2, .cells (inP b0 b1 b2 b3) false), (3, itO1 0 c vis y.2.2)]) (fun _ => [(s1, .int .i64 s), (s3, .map 0), (s4, .ptr 1 0), (s6, .ptr 2 0), (s11, .int .i64 p), (s34, .ptr 3 0)]) (by intro h; cases h) _ _ (fun _ => rfl) (fun _ => rfl) (fun _ _ => rfl) (fun _ _ hT => hT.2.2.2.2.2.1) (fun _ => ⟨rfl, rfl⟩) (fun Y vis y T _ hy _ hnb hT K hK => ?_) (fun Y vis y T _ hy _ hbd hT K hK => ?_) hb
  · obtain ⟨z, hz, rfl⟩ := mV_mem hy
    obtain ⟨g0, g1, g2, g, g3, g4⟩ := Classical.not_not.1 hnb
    cases g3
    refine qn_g Y l m r s b0 b1 b2 b3 L c ro p z.2.2 (stamps vis) z.1 z.2.1 (entry_ok hs hy _ _) g0 g1 g2 g4 T hT K fun T' hT' => ?_
    have := hK T' hT'
    rw [show itO 0 c (vis ++ [(V.int .i64 z.1, V.str z.2.1, z.2.2)]) = .iter (some 0) c (stamps vis ++ [z.2.2]) c by unfold itO; rw [stamps_app]] at this
    exact this
  · obtain ⟨z, hz, rfl⟩ := mV_mem hy
    have hz1 : z.1 < 0 ∨ m ≤ z.1 ∨ z.1 = p ∨ z.2.1.length ≠ 64 := by
      by_cases h0 : z.1 < 0
      · exact .inl h0
      by_cases h1 : m ≤ z.1
      · exact .inr (.inl h1)
      by_cases h2 : z.1 = p
      · exact .inr (.inr (.inl h2))
      refine .inr (.inr (.inr fun h3 => hbd ⟨?_, ?_, h2, _, rfl, h3⟩))
      · show 0 ≤ z.1; omega
      · show z.1 < m; omega
    refine qn_b Y l m r s b0 b1 b2 b3 L c ro p z.2.2 (stamps vis) z.1 z.2.1 (entry_ok hs hy _ _) hz1 T hT K fun T' hT' => ?_
    have := hK T' hT'
    rw [stamps_app] at this
    exact this
theorem rest_mem (L : List (Int × List Nat × Nat)) (p : Int) {y : Int} : ∀ {n : Nat}, y ∈ restF L p n ↔ 0 ≤ y ∧ y < ((n : Nat) : Int) ∧ y ≠ p ∧ hasG L y = false
  | 0 => by simp only [restF, List.not_mem_nil, false_iff]; omega
  | n + 1 => by
    have ih := rest_mem L p (y := y) (n := n)
    unfold restF
    cases ho : ownB L p n with
    | true =>
      rw [if_pos rfl, ih]
      have hor : ((n : Nat) : Int) = p ∨ hasG L ((n : Nat) : Int) = true := by unfold ownB at ho; simpa using ho
      refine ⟨fun h => ⟨h.1, by omega, h.2.2⟩, fun h => ⟨h.1, ?_, h.2.2⟩⟩
      have hne : y ≠ ((n : Nat) : Int) := fun e => by
        rcases hor with h1 | h1
        · exact h.2.2.1 (e.trans h1)
        · rw [← e, h.2.2.2] at h1; cases h1
      have := h.2.1
      omega
    | false =>
      rw [if_neg (by decide), List.mem_append, ih, List.mem_singleton]
      have hn : ((n : Nat) : Int) ≠ p ∧ hasG L ((n : Nat) : Int) = false := by unfold ownB at ho; simpa using ho
      constructor
      · rintro (h | rfl)
        · exact ⟨h.1, by omega, h.2.2⟩
        · exact ⟨by omega, by omega, hn⟩
      · intro h
        by_cases e : y = ((n : Nat) : Int)
        · exact .inr e
        · exact .inl ⟨h.1, by have := h.2.1; omega, h.2.2⟩
theorem own_mem (L : List (Int × List Nat × Nat)) (p : Int) {y : Int} : ∀ {n : Nat}, y ∈ ownF L p n ↔ 0 ≤ y ∧ y < ((n : Nat) : Int) ∧ (y = p ∨ hasG L y = true)
  | 0 => by simp only [ownF, List.not_mem_nil, false_iff]; omega
  | n + 1 => by
    have ih := own_mem L p (y := y) (n := n)
    unfold ownF
    cases ho : ownB L p n with
    | true =>
      rw [if_pos rfl, List.mem_append, ih, List.mem_singleton]
      have hor : ((n : Nat) : Int) = p ∨ hasG L ((n : Nat) : Int) = true := by unfold ownB at ho; simpa using ho
      constructor
      · rintro (h | rfl)
        · exact ⟨h.1, by omega, h.2.2⟩
        · exact ⟨by omega, by omega, hor⟩
      · intro h
        by_cases e : y = ((n : Nat) : Int)
        · exact .inr e
        · exact .inl ⟨h.1, by have := h.2.1; omega, h.2.2⟩
    | false =>
      rw [if_neg (by decide), ih]
      have hn : ((n : Nat) : Int) ≠ p ∧ hasG L ((n : Nat) : Int) = false := by unfold ownB at ho; simpa using ho
      refine ⟨fun h => ⟨h.1, by omega, h.2.2⟩, fun h => ⟨h.1, ?_, h.2.2⟩⟩
      have hne : y ≠ ((n : Nat) : Int) := fun e => by
        rcases h.2.2 with h1 | h1
        · exact hn.1 (e.symm.trans h1)
        · rw [e, hn.2] at h1; cases h1
      have := h.2.1
      omega
theorem grow_sorted {l : List Int} {n : Nat} (h : l.Pairwise (· < ·)) (hb : ∀ y ∈ l, y < ((n : Nat) : Int)) : (l ++ [((n : Nat) : Int)]).Pairwise (· < ·) := by
  rw [List.pairwise_append]
  refine ⟨h, List.pairwise_singleton _ _, fun a ha b hb2 => ?_⟩
  rw [List.mem_singleton.1 hb2]; exact hb a ha
theorem rest_sorted (L : List (Int × List Nat × Nat)) (p : Int) : ∀ n, (restF L p n).Pairwise (· < ·)
  | 0 => .nil
  | n + 1 => by
    unfold restF
    split
    · exact rest_sorted L p n
    · exact grow_sorted (rest_sorted L p n) fun y hy => ((rest_mem L p).1 hy).2.1
theorem own_sorted (L : List (Int × List Nat × Nat)) (p : Int) : ∀ n, (ownF L p n).Pairwise (· < ·)
  | 0 => .nil
  | n + 1 => by
    unfold ownF
    split
    · exact grow_sorted (own_sorted L p n) fun y hy => ((own_mem L p).1 hy).2.1
    · exact own_sorted L p n
theorem lt_nodup {l : List Int} (h : l.Pairwise (· < ·)) : l.Nodup := h.imp fun h e => by omega
theorem sort_id {l : List Int} (h : l.Pairwise (· < ·)) : sortI l = l := List.mergeSort_of_pairwise (h.imp fun h => by simp only [decide_eq_true_eq]; omega)
theorem lack_all (L : List (Int × List Nat × Nat)) (p : Int) (b0 b1 b2 b3 : Bool) : ∀ n, lackF L p b0 b1 b2 b3 n = !(restF L p n).all (inB4 b0 b1 b2 b3)
  | 0 => rfl
  | n + 1 => by
    have ih := lack_all L p b0 b1 b2 b3 n
    unfold lackF restF
    split
    · exact ih
    · rw [ih, List.all_append]
      simp [Bool.not_and]
theorem need_same {l m r s : Int} {b0 b1 b2 b3 : Bool} {L : List (Int × List Nat × Nat)} (hm : m = 2 ∨ m = 3 ∨ m = 4) (hp : 0 ≤ pz l m r s ∧ pz l m r s < m) (hg : goodW m (pz l m r s) L) (hk : (keysG L).Nodup) (hin : inB4 b0 b1 b2 b3 (pz l m r s) = true) :
    needY l m r s b0 b1 b2 b3 L = if lackF L (pz l m r s) b0 b1 b2 b3 m.toNat = true then ownF L (pz l m r s) m.toNat else restF L (pz l m r s) m.toNat := by
  have h1 : sortI (restL L (dataL m (pz l m r s))) = restF L (pz l m r s) m.toNat := by
    rw [← sort_id (rest_sorted L (pz l m r s) m.toNat)]
    refine sortI_perm ((List.perm_ext_iff_of_nodup ((dataL_nodup hm hp).filter _) (lt_nodup (rest_sorted L _ _))).2 fun y => ?_)
    rw [rest_mem]
    simp only [restL, List.mem_filter, Bool.not_eq_true']
    constructor
    · intro h
      have h2 := dataL_mem hm hp h.1
      exact ⟨h2.1, by omega, h2.2.2, h.2⟩
    · intro h
      exact ⟨(mem_of_range hm hp h.1 (by omega)).resolve_right h.2.2.1, h.2.2.2⟩
  have h2 : sortI (keysG L ++ [pz l m r s]) = ownF L (pz l m r s) m.toNat := by
    rw [← sort_id (own_sorted L (pz l m r s) m.toNat)]
    have hdk : ∀ y ∈ keysG L, y ∈ dataL m (pz l m r s) := fun y hy => by obtain ⟨e, he, rfl⟩ := List.mem_map.1 hy; exact (hg e he).1
    refine sortI_perm ((List.perm_ext_iff_of_nodup (List.nodup_append.2 ⟨hk, by simp, fun a ha b hb e => ?_⟩) (lt_nodup (own_sorted L _ _))).2 fun y => ?_)
    · rw [List.mem_singleton.1 hb] at e
      have h := hdk a ha
      rw [e] at h
      exact par_notin hm hp h
    · rw [own_mem, List.mem_append, List.mem_singleton]
      constructor
      · rintro (h | rfl)
        · have h2 := dataL_mem hm hp (hdk y h)
          exact ⟨h2.1, by omega, .inr (has_iff.2 h)⟩
        · exact ⟨hp.1, by omega, .inl rfl⟩
      · rintro ⟨_, _, h | h⟩
        · exact .inr h
        · exact .inl (has_iff.1 h)
  unfold needY
  rw [if_neg (by rw [hin]; decide), h1, h2, lack_all]
  cases (restF L (pz l m r s) m.toNat).all (inB4 b0 b1 b2 b3) <;> rfl
theorem plain_iV (l : List Int) : (AObj.cells (iV l) false).plain = true := by show (!false && plains (iV l)) = true; rw [plains_iV]; rfl
section
variable {P : Program}
variable (hmix : P.follows .mixedOrders = true)
include hmix
theorem s11_ok (l11 : LastOk P la11 id) (o11 : FOk P 11 c11) : ∀ C, S10 C → C.wf = true → ConOk P 11 C := by
  intro C h _
  have hcf := callD_sound (A := pA) pHolds hmix tb0_ok l11 5
  have h40 : ∀ {l m r s : Int} {b0 b1 b2 b3 : Bool}, mayE l m r s b0 b1 b2 b3 = 0 → R40 [geo l m r, .int .i64 s] = some (.int .i64 (pz l m r s)) := fun h => if_pos (ro_of_may h)
  cases h with
  | err l m r s b0 b1 b2 b3 L c ro hM e he h =>
    by_cases hmay : mayE l m r s b0 b1 b2 b3 = 0
    · have e1 : e = 1 := by
        unfold needE at h
        rw [if_neg (by simp [hmay])] at h
        split at h
        · exact absurd h.symm he
        · exact h.symm
      subst e1
      obtain ⟨hmm, hp⟩ := may_mp hmay
      obtain ⟨p, hpp⟩ := Int.eq_ofNat_of_zero_le hp.1
      have h4 := h40 hmay
      rw [hpp] at h4
      by_cases hL : L = []
      · subst hL
        exact conOk_walkD hmix o11 hcf (qd_0 Ys.none l m r s b0 b1 b2 b3 [] c ro hmay p (by omega) h4 rfl)
      · have hbad : ∃ y ∈ mV L, badR m ((p : Nat) : Int) y := by
          have hng : ¬ goodW m (pz l m r s) L := fun hg => by
            unfold needE at h
            rw [if_neg (by simp [hmay]), if_pos ⟨hg, hL⟩] at h
            exact absurd h (by decide)
          refine Classical.byContradiction fun hn => hng fun y hy => ?_
          have h5 : ¬ badR m ((p : Nat) : Int) ((.int .i64 y.1, .str y.2.1, y.2.2) : En) := fun hb => hn ⟨_, mem_mV hy, hb⟩
          obtain ⟨g0, g1, g2, g, g3, g4⟩ := Classical.not_not.1 h5
          cases g3
          exact ⟨(mem_of_range hmm hp g0 g1).resolve_right (by rw [hpp]; exact g2), g4⟩
        have hne : List.length (mV L) ≠ 0 := by rw [mV_length]; exact fun e => hL (List.length_eq_zero_iff.1 e)
        exact conOk_walkD hmix o11 hcf (qd_b Ys.none l m r s b0 b1 b2 b3 L c ro hmay p (by omega) h4 hne (ql_bad l m r s b0 b1 b2 b3 ro _ (stamped_of hM) hbad))
    · have e1 : e = mayE l m r s b0 b1 b2 b3 := by
        unfold needE at h
        rw [if_pos hmay] at h
        exact h.symm
      exact conOk_walkD hmix o11 hcf (qd_e Ys.none l m r s b0 b1 b2 b3 L c ro e he e1.symm)
  | nil l m r s b0 b1 b2 b3 L c ro hM he hy =>
    obtain ⟨hmay, hg, hL⟩ := need0 he
    obtain ⟨hmm, hp⟩ := may_mp hmay
    obtain ⟨p, hpp⟩ := Int.eq_ofNat_of_zero_le hp.1
    have p4 : p < 4 := by omega
    have h4 := h40 hmay
    rw [hpp] at h4
    have hne : List.length (mV L) ≠ 0 := by rw [mV_length]; exact fun e => hL (List.length_eq_zero_iff.1 e)
    have hgood : ∀ y ∈ mV L, ¬ badR m ((p : Nat) : Int) y := fun y hy hb => by
      obtain ⟨z, hz, rfl⟩ := mV_mem hy
      have h1 := dataL_mem hmm hp (hg z hz).1
      exact hb ⟨h1.1, h1.2.1, by rw [← hpp]; exact h1.2.2, _, rfl, (hg z hz).2⟩
    have H := ql_ok l m r s b0 b1 b2 b3 ro ((p : Nat) : Int) (stamped_of hM) hgood
    have hv := inP_nth b0 b1 b2 b3 p p4
    have hq := fun x : EnL => qloop l m r s b0 b1 b2 b3 L c ro ((p : Nat) : Int) (stamps x) (by omega) (by omega)
    cases hi : inB4 b0 b1 b2 b3 (pz l m r s) with
    | false =>
      rw [← hpp, hi] at hv
      exact conOk_walkD hmix o11 hcf (qd_p Ys.none l m r s b0 b1 b2 b3 L c ro hmay p p4 h4 hne H hv)
    | true =>
      rw [← hpp, hi] at hv
      have hs := need_same hmm hp hg hM.ks hi
      rw [hy, hpp] at hs
      cases hlk : lackF L ((p : Nat) : Int) b0 b1 b2 b3 m.toNat with
      | true =>
        rw [hlk, if_pos rfl] at hs
        have hm : ((p : Nat) : Int) ∈ ownF L ((p : Nat) : Int) m.toNat := (own_mem L _).2 ⟨by omega, by omega, .inl rfl⟩
        rw [← hs] at hm
        cases hm
      | false =>
        rw [hlk, if_neg (by decide)] at hs
        rw [hlk, ← hs] at hq
        exact conOk_walkD hmix o11 hcf (qd_n Ys.none l m r s b0 b1 b2 b3 L c ro hmay p p4 h4 hne H hv m.toNat _ _ _ (fun x _ => hq x))
  | mk l m r s b0 b1 b2 b3 L c ro hM he j hj h1 =>
    obtain ⟨hmay, hg, hL⟩ := need0 he
    obtain ⟨hmm, hp⟩ := may_mp hmay
    obtain ⟨p, hpp⟩ := Int.eq_ofNat_of_zero_le hp.1
    have p4 : p < 4 := by omega
    have h4 := h40 hmay
    rw [hpp] at h4
    have hne : List.length (mV L) ≠ 0 := by rw [mV_length]; exact fun e => hL (List.length_eq_zero_iff.1 e)
    have hgood : ∀ y ∈ mV L, ¬ badR m ((p : Nat) : Int) y := fun y hy hb => by
      obtain ⟨z, hz, rfl⟩ := mV_mem hy
      have h1 := dataL_mem hmm hp (hg z hz).1
      exact hb ⟨h1.1, h1.2.1, by rw [← hpp]; exact h1.2.2, _, rfl, (hg z hz).2⟩
    have H := ql_ok l m r s b0 b1 b2 b3 ro ((p : Nat) : Int) (stamped_of hM) hgood
    have hv := inP_nth b0 b1 b2 b3 p p4
    have hq := fun x : EnL => qloop l m r s b0 b1 b2 b3 L c ro ((p : Nat) : Int) (stamps x) (by omega) (by omega)
    have hi : inB4 b0 b1 b2 b3 (pz l m r s) = true := by
      cases hi : inB4 b0 b1 b2 b3 (pz l m r s) with
      | true => rfl
      | false => rw [needY, if_pos hi] at hj; simp at hj; omega
    rw [← hpp, hi] at hv
    have hs := need_same hmm hp hg hM.ks hi
    rw [hpp] at hs
    generalize hN : needY l m r s b0 b1 b2 b3 L = Q at hs hj
    cases Q with
    | nil => simp at hj; omega
    | cons y Q =>
    have hj2 : Q.length + 1 = j := hj
    cases hlk : lackF L ((p : Nat) : Int) b0 b1 b2 b3 m.toNat with
    | true =>
      rw [hlk, if_pos rfl] at hs
      rw [hlk, ← hs] at hq
      have run := qd_o Ys.none l m r s b0 b1 b2 b3 L c ro hmay p p4 h4 hne H hv m.toNat (Q.length + 1) (y :: Q) _ _ (fun x _ => hq x)
      rw [hj2] at run
      exact conOk_newD (f := fun b => .tuple [.slice b 0 j j 1, .int .i64 0]) (ob := .cells (iV (y :: Q)) false) hmix o11 hcf (names_int (names_slice j j) 0) (plain_iV _) (fun o h => by simp only [List.mem_cons, List.not_mem_nil, or_false] at h; subst h; exact ebels_mV _ _) (fun u m' h => endN_of (pre := [AObj.map (mV L) c ro]) (f := fun b => .tuple [.slice b 0 j j 1, .int .i64 0]) (b := 4) (show (1 : Nat) ≤ 4 by decide) h) run
    | false =>
      rw [hlk, if_neg (by decide)] at hs
      rw [hlk, ← hs] at hq
      have run := qd_r Ys.none l m r s b0 b1 b2 b3 L c ro hmay p p4 h4 hne H hv m.toNat (Q.length + 1) (y :: Q) _ _ (fun x _ => hq x)
      rw [hj2] at run
      exact conOk_newD (f := fun b => .tuple [.slice b 0 j j 1, .int .i64 0]) (ob := .cells (iV (y :: Q)) false) hmix o11 hcf (names_int (names_slice j j) 0) (plain_iV _) (fun o h => by simp only [List.mem_cons, List.not_mem_nil, or_false] at h; subst h; exact ebels_mV _ _) (fun u m' h => endN_of (pre := [AObj.map (mV L) c ro]) (f := fun b => .tuple [.slice b 0 j j 1, .int .i64 0]) (b := 5) (show (1 : Nat) ≤ 5 by decide) h) run
end
end Go.Proofs.Ytjikaankdnmabaa
