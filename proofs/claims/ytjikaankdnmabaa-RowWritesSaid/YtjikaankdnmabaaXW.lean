/- The document's Needs: runs by script. No condition. -/
import Derived.Test.YtjikaankdnmabaaUW
namespace Go.Proofs.Ytjikaankdnmabaa
open Go Go.AM
set_option maxRecDepth 100000
set_option maxHeartbeats 0
set_option linter.unusedVariables false
def ownB (L : List (Int × List Nat × Nat)) (p : Int) (i : Nat) : Bool := decide (((i : Nat) : Int) = p) || hasG L ((i : Nat) : Int)
def ownF (L : List (Int × List Nat × Nat)) (p : Int) : Nat → List Int
  | 0 => []
  | i + 1 => if ownB L p i = true then ownF L p i ++ [((i : Nat) : Int)] else ownF L p i
def restF (L : List (Int × List Nat × Nat)) (p : Int) : Nat → List Int
  | 0 => []
  | i + 1 => if ownB L p i = true then restF L p i else restF L p i ++ [((i : Nat) : Int)]
def lackF (L : List (Int × List Nat × Nat)) (p : Int) (b0 b1 b2 b3 : Bool) : Nat → Bool
  | 0 => false
  | i + 1 => if ownB L p i = true then lackF L p b0 b1 b2 b3 i else lackF L p b0 b1 b2 b3 i || !inB4 b0 b1 b2 b3 ((i : Nat) : Int)
def slV (b : Nat) : List Int → V
  | [] => .nilslice
  | _ :: l => .slice b 0 (l.length + 1) (l.length + 1) 1
def obV : List Int → AObj
  | [] => .dead
  | x :: l => .cells (iV (x :: l)) false
theorem slV_app (b : Nat) (l : List Int) (x : Int) : slV b (l ++ [x]) = .slice b 0 (l.length + 1) (l.length + 1) 1 := by
  cases l <;> simp [slV]
theorem obV_app (l : List Int) (x : Int) : obV (l ++ [x]) = .cells (iV (l ++ [x])) false := by cases l <;> rfl
theorem slV_back {b b' : Nat} {q : List Nat} (h : inL b q = true) (hb : idxL b q = b') (l : List Int) : (slV b l).back q = slV b' l := by
  cases l with
  | nil => rfl
  | cons x l =>
    unfold V.back
    rw [show (slV b (x :: l)).bel (fun c => inL c q) = true from h]
    show V.slice (idxL b q) 0 (l.length + 1) (l.length + 1) 1 = _
    rw [hb]; rfl
theorem slice_back {b b' n : Nat} {q : List Nat} (h : inL b q = true) (hb : idxL b q = b') : (V.slice b 0 n n 1).back q = .slice b' 0 n n 1 := by
  unfold V.back
  rw [show (V.slice b 0 n n 1).bel (fun c => inL c q) = true from h]
  show V.slice (idxL b q) 0 n n 1 = _
  rw [hb]
theorem own_len (L : List (Int × List Nat × Nat)) (p : Int) : ∀ i, (ownF L p i).length ≤ i ∧ (restF L p i).length ≤ i
  | 0 => ⟨Nat.le_refl _, Nat.le_refl _⟩
  | i + 1 => by
    have h := own_len L p i
    unfold ownF restF
    split
    · rw [List.length_append]; simp only [List.length_cons, List.length_nil]; omega
    · rw [List.length_append]; simp only [List.length_cons, List.length_nil]; omega
theorem obV_pre (B N : Nat) (σ : Nat → Nat) (l : List Int) : obV l = .dead ∨ ((obV l).lowIt B = true ∧ some (obV l) = some (obV l)) ∨ some (obV l) = some ((obV l).ren σ) ∧ (obV l).bel (fun c => Nat.blt c N) = true := by
  cases l with
  | nil => exact .inl rfl
  | cons x l => exact .inr (.inr ⟨congrArg (fun c => some (AObj.cells c false)) (rens_iV _ _).symm, bels_iV _ _⟩)
theorem obV_new (B N : Nat) (σ : Nat → Nat) (l : List Int) (x : Int) : obV (l ++ [x]) = .dead ∨ ((obV (l ++ [x])).lowIt B = true ∧ some (AObj.cells (iV (l ++ [x])) false) = some (obV (l ++ [x]))) ∨ some (AObj.cells (iV (l ++ [x])) false) = some ((obV (l ++ [x])).ren σ) ∧ (obV (l ++ [x])).bel (fun c => Nat.blt c N) = true := by
  rw [obV_app]; exact .inr (.inr ⟨congrArg (fun c => some (AObj.cells c false)) (rens_iV _ _).symm, bels_iV _ _⟩)
theorem qloop (l m r s : Int) (b0 b1 b2 b3 : Bool) (L : List (Int × List Nat × Nat)) (c : Nat) (ro : Bool) (p : Int) (S : List Nat) (m0 : 0 ≤ m) (m4 : m ≤ 4) : LoopOkD (callD pA tb0 la11 5) 1 c11l1 (.exit 2) (memL 4 [(0, .map (mV L) c ro), (1, .cells [.int .i64 l, .int .i64 m, .int .i64 r] false), (2, .cells (inP b0 b1 b2 b3) false), (3, .iter (some 0) c S c)]) [(s3, .map 0), (s4, .ptr 1 0), (s6, .ptr 2 0), (s11, .int .i64 p), (s14, .nilslice), (s15, .nilslice), (s16, .bool false), (s17, .int .i64 ((0 : Nat) : Int))] (fun _ => True) (fun _ => memL 6 [(0, .map (mV L) c ro), (1, .cells [.int .i64 l, .int .i64 m, .int .i64 r] false), (2, .cells (inP b0 b1 b2 b3) false), (3, .dead), (4, obV (ownF L p m.toNat)), (5, obV (restF L p m.toNat))]) (fun _ => [(s3, .map 0), (s4, .ptr 1 0), (s6, .ptr 2 0), (s11, .int .i64 p), (s14, slV 5 (restF L p m.toNat)), (s15, slV 4 (ownF L p m.toNat)), (s16, .bool (lackF L p b0 b1 b2 b3 m.toNat)), (s17, .int .i64 ((m.toNat : Nat) : Int))]) := by
  refine loopR (B := 1) (by intro h; cases h) m.toNat (Nat.lt_of_lt_of_le (rounds_big (by omega)) (Nat.sub_le _ _)) _ _ [0, 1, 2, 3, 4, 5] (fun i => memL 6 [(0, .map (mV L) c ro), (1, .cells [.int .i64 l, .int .i64 m, .int .i64 r] false), (2, .cells (inP b0 b1 b2 b3) false), (3, .dead), (4, obV (ownF L p i)), (5, obV (restF L p i))]) (fun i => bif ownB L p i then memL 8 [(0, .map (mV L) c ro), (1, .cells [.int .i64 l, .int .i64 m, .int .i64 r] false), (2, .cells (inP b0 b1 b2 b3) false), (3, .dead), (4, .dead), (5, obV (restF L p i)), (6, .cells [.int .i64 ((i : Nat) : Int)] false), (7, .cells (iV (ownF L p i ++ [((i : Nat) : Int)])) false)] else memL 8 [(0, .map (mV L) c ro), (1, .cells [.int .i64 l, .int .i64 m, .int .i64 r] false), (2, .cells (inP b0 b1 b2 b3) false), (3, .dead), (4, obV (ownF L p i)), (5, .dead), (6, .cells [.int .i64 ((i : Nat) : Int)] false), (7, .cells (iV (restF L p i ++ [((i : Nat) : Int)])) false)]) (fun i => [(s3, .map 0), (s4, .ptr 1 0), (s6, .ptr 2 0), (s11, .int .i64 p), (s14, slV 5 (restF L p i)), (s15, slV 4 (ownF L p i)), (s16, .bool (lackF L p b0 b1 b2 b3 i)), (s17, .int .i64 ((i : Nat) : Int))]) (fun i => bif ownB L p i then [(s3, .map 0), (s4, .ptr 1 0), (s6, .ptr 2 0), (s11, .int .i64 p), (s14, slV 5 (restF L p i)), (s15, .slice 7 0 ((ownF L p i).length + 1) ((ownF L p i).length + 1) 1), (s16, .bool (lackF L p b0 b1 b2 b3 i)), (s17, .int .i64 ((i + 1 : Nat) : Int))] else [(s3, .map 0), (s4, .ptr 1 0), (s6, .ptr 2 0), (s11, .int .i64 p), (s14, .slice 7 0 ((restF L p i).length + 1) ((restF L p i).length + 1) 1), (s15, slV 4 (ownF L p i)), (s16, .bool (lackF L p b0 b1 b2 b3 i || !inB4 b0 b1 b2 b3 ((i : Nat) : Int))), (s17, .int .i64 ((i + 1 : Nat) : Int))]) (fun i => bif ownB L p i then [0, 1, 2, 3, 7, 5] else [0, 1, 2, 3, 4, 7]) _ _ ?_ rfl (fun i hi => ?_) (fun i hi => ?_) ?_ ?_
  · exact renM_of (objs := [.map (mV L) c ro, .cells [.int .i64 l, .int .i64 m, .int .i64 r] false, .cells (inP b0 b1 b2 b3) false, .dead, .dead, .dead]) rfl (by decide) rfl ⟨.inr (.inr ⟨kMs, ebels_mV _ _⟩), .inr (.inr ⟨rfl, rfl⟩), .inr (.inr ⟨rfl, rfl⟩), .inl rfl, .inl rfl, .inl rfl, trivial⟩
  · cases ho : ownB L p i with
    | true =>
      simp only [cond_true]
      rw [show ownF L p (i + 1) = ownF L p i ++ [((i : Nat) : Int)] from if_pos ho, show restF L p (i + 1) = restF L p i from if_pos ho]
      exact renM_of (objs := [.map (mV L) c ro, .cells [.int .i64 l, .int .i64 m, .int .i64 r] false, .cells (inP b0 b1 b2 b3) false, .dead, obV (ownF L p i ++ [((i : Nat) : Int)]), obV (restF L p i)]) rfl (by decide) rfl ⟨.inr (.inr ⟨kMs, ebels_mV _ _⟩), .inr (.inr ⟨rfl, rfl⟩), .inr (.inr ⟨rfl, rfl⟩), .inl rfl, obV_new _ _ _ _ _, obV_pre _ _ _ _, trivial⟩
    | false =>
      simp only [cond_false]
      rw [show ownF L p (i + 1) = ownF L p i from if_neg (by rw [ho]; decide), show restF L p (i + 1) = restF L p i ++ [((i : Nat) : Int)] from if_neg (by rw [ho]; decide)]
      exact renM_of (objs := [.map (mV L) c ro, .cells [.int .i64 l, .int .i64 m, .int .i64 r] false, .cells (inP b0 b1 b2 b3) false, .dead, obV (ownF L p i), obV (restF L p i ++ [((i : Nat) : Int)])]) rfl (by decide) rfl ⟨.inr (.inr ⟨kMs, ebels_mV _ _⟩), .inr (.inr ⟨rfl, rfl⟩), .inr (.inr ⟨rfl, rfl⟩), .inl rfl, obV_pre _ _ _ _, obV_new _ _ _ _ _, trivial⟩
  · cases ho : ownB L p i with
    | true =>
      simp only [cond_true]
      rw [show ownF L p (i + 1) = ownF L p i ++ [((i : Nat) : Int)] from if_pos ho, show restF L p (i + 1) = restF L p i from if_pos ho, show lackF L p b0 b1 b2 b3 (i + 1) = lackF L p b0 b1 b2 b3 i from if_pos ho, slV_app]
      simp only [backS, List.map_cons, List.map_nil]
      rw [slV_back (b' := 5) rfl rfl, slice_back (b' := 4) rfl rfl]
      rfl
    | false =>
      simp only [cond_false]
      rw [show ownF L p (i + 1) = ownF L p i from if_neg (by rw [ho]; decide), show restF L p (i + 1) = restF L p i ++ [((i : Nat) : Int)] from if_neg (by rw [ho]; decide), show lackF L p b0 b1 b2 b3 (i + 1) = (lackF L p b0 b1 b2 b3 i || !inB4 b0 b1 b2 b3 ((i : Nat) : Int)) from if_neg (by rw [ho]; decide), slV_app]
      simp only [backS, List.map_cons, List.map_nil]
      rw [slV_back (b' := 4) rfl rfl, slice_back (b' := 5) rfl rfl]
      rfl
  · intro Y i T hi hT K hK
    have hi2 : ((i : Nat) : Int) < m := by omega
    have hlk := look_G2 L ((i : Nat) : Int)
    have hle := own_len L p i
    have hv := inP_nth b0 b1 b2 b3 i (by omega)
    cases ho : ownB L p i with
    | true =>
      simp only [ho, cond_true] at hK
      have hor : p = ((i : Nat) : Int) ∨ (((i : Nat) : Int) ≠ p ∧ hasG L ((i : Nat) : Int) = true) := by
        by_cases e : ((i : Nat) : Int) = p
        · exact .inl e.symm
        · exact .inr ⟨e, by unfold ownB at ho; simpa [e] using ho⟩
      generalize ownF L p i = A at hT hK hle
      cases A with
      | nil =>
        rcases hor with e | ⟨e, h⟩
        · exact qop_n Y l m r s b0 b1 b2 b3 L c ro p _ i hi2 m4 _ _ hlk _ _ _ e T hT K hK
        · exact qoh_n Y l m r s b0 b1 b2 b3 L c ro p _ i hi2 m4 _ _ hlk _ _ _ e h T hT K hK
      | cons x A =>
        have hg := grow_iV (ls := x :: A) (x := ((i : Nat) : Int)) (len := A.length + 1) rfl (by simp only [List.length_cons] at hle; omega)
        rcases hor with e | ⟨e, h⟩
        · exact qop_s Y l m r s b0 b1 b2 b3 L c ro p _ i hi2 m4 _ _ hlk (A.length + 1) (x :: A) _ (by simp only [List.length_cons] at hle; omega) hg _ _ _ e T hT K hK
        · exact qoh_s Y l m r s b0 b1 b2 b3 L c ro p _ i hi2 m4 _ _ hlk (A.length + 1) (x :: A) _ (by simp only [List.length_cons] at hle; omega) hg _ _ _ e h T hT K hK
    | false =>
      simp only [ho, cond_false] at hK
      have hne : ((i : Nat) : Int) ≠ p ∧ hasG L ((i : Nat) : Int) = false := by
        unfold ownB at ho
        simpa using ho
      obtain ⟨e, h⟩ := hne
      generalize hlf : lackF L p b0 b1 b2 b3 i = lk at hT hK
      generalize restF L p i = A at hT hK hle
      cases A with
      | nil =>
        cases lk with
        | true => exact qrt_n Y l m r s b0 b1 b2 b3 L c ro p _ i hi2 m4 _ _ hlk _ _ e h T hT K hK
        | false =>
          cases hb : inB4 b0 b1 b2 b3 ((i : Nat) : Int) with
          | true => rw [hb] at hv hK; exact qri_n Y l m r s b0 b1 b2 b3 L c ro p _ i hi2 m4 _ _ hlk _ _ e h hv T hT K hK
          | false => rw [hb] at hv hK; exact qro_n Y l m r s b0 b1 b2 b3 L c ro p _ i hi2 m4 _ _ hlk _ _ e h hv T hT K hK
      | cons x A =>
        have hg := grow_iV (ls := x :: A) (x := ((i : Nat) : Int)) (len := A.length + 1) rfl (by simp only [List.length_cons] at hle; omega)
        have h4 : A.length + 1 ≤ 4 := by simp only [List.length_cons] at hle; omega
        cases lk with
        | true => exact qrt_s Y l m r s b0 b1 b2 b3 L c ro p _ i hi2 m4 _ _ hlk (A.length + 1) (x :: A) _ h4 hg _ _ e h T hT K hK
        | false =>
          cases hb : inB4 b0 b1 b2 b3 ((i : Nat) : Int) with
          | true => rw [hb] at hv hK; exact qri_s Y l m r s b0 b1 b2 b3 L c ro p _ i hi2 m4 _ _ hlk (A.length + 1) (x :: A) _ h4 hg _ _ e h hv T hT K hK
          | false => rw [hb] at hv hK; exact qro_s Y l m r s b0 b1 b2 b3 L c ro p _ i hi2 m4 _ _ hlk (A.length + 1) (x :: A) _ h4 hg _ _ e h hv T hT K hK
  · intro Y T hT K hK
    exact qe Y l m r s b0 b1 b2 b3 L c ro p _ _ _ m.toNat (by omega) _ _ _ T hT K hK
noncomputable abbrev qd_e_Qa (l m r s : Int) (b0 b1 b2 b3 : Bool) (L : LL) (c : Nat) (ro : Bool) (e : Int) : Con := ⟨[geo l m r, .int .i64 s, ag b0 b1 b2 b3, .map 0], [.map (mV L) c ro], .tuple [.nilslice, .int .i64 e], [.map (mV L) c ro], []⟩
theorem qd_e_o0 (e : Int) (he : e ≠ (0 : Int)) : ¬e = (0 : Int) := by omega
theorem qd_e (Y : Ys Prop) (l m r s : Int) (b0 b1 b2 b3 : Bool) (L : LL) (c : Nat) (ro : Bool) (e : Int) (he : e ≠ 0) (h : mayE l m r s b0 b1 b2 b3 = e) :
   body1D (callD pA tb0 la11 5) Y c11 (qd_e_Qa l m r s b0 b1 b2 b3 L c ro e).args (memO (qd_e_Qa l m r s b0 b1 b2 b3 L c ro e).pre) (endC (qd_e_Qa l m r s b0 b1 b2 b3 L c ro e)) :=
  walkCD_of_vc (C := (qd_e_Qa l m r s b0 b1 b2 b3 L c ro e)) (mono11) (.wait 8 (.fix s23 (vi e) (.wait 3 (.fix s25 (vb true) .nil))))
  (show (vi (mayE l m r s b0 b1 b2 b3) = vi e ∧ vb (nB (eqI e 0)) = vb true ∧ rR (V.tuple [V.nilslice, vi e]) ∧ (rR (some (oM (mV L) c ro)) ∧ True) ∧ True) from
  ⟨(ci h), cb (congrArg Bool.not (eqF rfl rfl (qd_e_o0 e he))), (by rfl), ⟨(by rfl), trivial⟩, trivial⟩)
  (by kernel_rfl) Y
noncomputable abbrev qd_0_Qa (l m r s : Int) (b0 b1 b2 b3 : Bool) (L : LL) (c : Nat) (ro : Bool) : Con := ⟨[geo l m r, .int .i64 s, ag b0 b1 b2 b3, .map 0], [.map (mV L) c ro], .tuple [.nilslice, .int .i64 1], [.map (mV L) c ro], []⟩
theorem qd_0 (Y : Ys Prop) (l m r s : Int) (b0 b1 b2 b3 : Bool) (L : LL) (c : Nat) (ro : Bool) (hm : mayE l m r s b0 b1 b2 b3 = 0) (p : Nat) (p4 : p < 4) (h40 : R40 [geo l m r, .int .i64 s] = some (.int .i64 ((p : Nat) : Int))) (h0 : List.length (mV L) = 0) :
   body1D (callD pA tb0 la11 5) Y c11 (qd_0_Qa l m r s b0 b1 b2 b3 L c ro).args (memO (qd_0_Qa l m r s b0 b1 b2 b3 L c ro).pre) (endC (qd_0_Qa l m r s b0 b1 b2 b3 L c ro)) :=
  walkCD_of_vc (C := (qd_0_Qa l m r s b0 b1 b2 b3 L c ro)) (mono11) (.wait 8 (.fix s23 (vi 0) (.wait 6 (.lay (Lay.plain (vi ↑p)) (.wait 3 (.fix s31 (vi ↑0) .nil))))))
  (show (vi (mayE l m r s b0 b1 b2 b3) = vi 0 ∧ (∀ (m' : Mem) (K' : V → Mem → Prop), la11 (.func (.func 40) [] []) ([geo l m r, vi s]) m' K' = Lay.go (Lay.plain (vi ↑p)) m' K') ∧ (vi ↑(List.length (mV L)) = vi ↑0 ∧ V.tuple [V.nilslice, vi (Int.ofNat 1)] = V.tuple [V.nilslice, vi 1] ∧ (rR (some (oM (mV L) c ro)) ∧ True) ∧ True)) from
  ⟨(ci hm), fun m' K' => fnE h40, ⟨(ci (casN h0)), (by rfl), ⟨(by rfl), trivial⟩, trivial⟩⟩)
  (by kernel_rfl) Y
noncomputable abbrev qd_b_Qa (l m r : Int) (b0 b1 b2 b3 : Bool) (L : LL) (c : Nat) (ro : Bool) : Mem := memL 4 [(0, oM (mV L) c ro), (1, oC [vi l, vi m, vi r] false), (2, oC (inP b0 b1 b2 b3) false), (3, oI (some 0) c [] c)]
noncomputable abbrev qd_b_Qb (l m r : Int) (b0 b1 b2 b3 : Bool) (L : LL) (c : Nat) (ro : Bool) (z0 : EnL) : Mem := memL 4 [(0, oM (mV L) c ro), (1, oC [vi l, vi m, vi r] false), (2, oC (inP b0 b1 b2 b3) false), (3, oI (some 0) c (stamps z0) c)]
noncomputable abbrev qd_b_Qc (s : Int) (p : Nat) : List (Sl × V) := [(s1, vi s), (s3, V.map 0), (s4, V.ptr 1 0), (s6, V.ptr 2 0), (s11, vi ↑p), (s34, V.ptr 3 0)]
noncomputable abbrev qd_b_Qd (l m r s : Int) (b0 b1 b2 b3 : Bool) (L : LL) (c : Nat) (ro : Bool) (p : Nat) : Prop := LoopOk3 (callD pA tb0 la11 5) c11l0 Ex.ret (qd_b_Qa l m r b0 b1 b2 b3 L c ro) (qd_b_Qc s p) (fun V0 => Vis (mV L) V0) (fun V0 => (qd_b_Qb l m r b0 b1 b2 b3 L c ro V0)) fun V0 => [(s8, V.nilslice), (s9, vi 1)]
theorem qd_b_o0 (L : List (Int × List Nat × Nat)) (h0 : List.length (mV L) ≠ (0 : Nat)) : ¬(↑(List.length (mV L)) : Int) = (0 : Int) := by omega
theorem qd_b (Y : Ys Prop) (l m r s : Int) (b0 b1 b2 b3 : Bool) (L : LL) (c : Nat) (ro : Bool) (hm : mayE l m r s b0 b1 b2 b3 = 0) (p : Nat) (p4 : p < 4) (h40 : R40 [geo l m r, .int .i64 s] = some (.int .i64 ((p : Nat) : Int))) (h0 : List.length (mV L) ≠ 0) (H : qd_b_Qd l m r s b0 b1 b2 b3 L c ro p) :
   body1D (callD pA tb0 la11 5) Y c11 (qd_0_Qa l m r s b0 b1 b2 b3 L c ro).args (memO (qd_0_Qa l m r s b0 b1 b2 b3 L c ro).pre) (endC (qd_0_Qa l m r s b0 b1 b2 b3 L c ro)) :=
  walkCD_of_vc (C := (qd_0_Qa l m r s b0 b1 b2 b3 L c ro)) (mono11) (.wait 8 (.fix s23 (vi 0) (.wait 6 (.lay (Lay.plain (vi ↑p)) (.wait 4 (.fix s32 (vb false) (.wait 3 (.inv3 (Ex.ret) (qd_b_Qa l m r b0 b1 b2 b3 L c ro) (qd_b_Qc s p) (fun v => Vis (mV L) v) (fun v => (qd_b_Qb l m r b0 b1 b2 b3 L c ro v)) (fun v => [(s8, V.nilslice), (s9, vi 1)]) fun xv0 => .nil))))))))
  (show (vi (mayE l m r s b0 b1 b2 b3) = vi 0 ∧ (∀ (m' : Mem) (K' : V → Mem → Prop), la11 (.func (.func 40) [] []) ([geo l m r, vi s]) m' K' = Lay.go (Lay.plain (vi ↑p)) m' K') ∧ (vb (eqI (↑(List.length (mV L))) 0) = vb false ∧ rR (qd_b_Qa l m r b0 b1 b2 b3 L c ro) ∧ (EqZ [vi s, V.map 0, V.ptr 1 0, V.ptr 2 0, vi ↑p, V.ptr 3 0]) ∧ (qd_b_Qd l m r s b0 b1 b2 b3 L c ro p) ∧ (∀ (xv0 : EnL), Vis (mV L) xv0 → ∀ (T0 : Slots), allS T0 ([(s8, V.nilslice), (s9, vi 1)]) → (V.tuple [V.nilslice, vi (Int.ofNat 1)] = V.tuple [V.nilslice, vi 1] ∧ (rR (some (oM (mV L) c ro)) ∧ True) ∧ True)))) from
  ⟨(ci hm), fun m' K' => fnE h40, ⟨cb (eqF rfl rfl (qd_b_o0 L h0)), rfl, (eqZ _), H, fun xv0 hq0 T0 hj0 => ⟨(by rfl), ⟨(by rfl), trivial⟩, trivial⟩⟩⟩)
  (by kernel_rfl) Y
noncomputable abbrev qd_p_Qa (l m r s : Int) (b0 b1 b2 b3 : Bool) (L : LL) (c : Nat) (ro : Bool) : Con := ⟨[geo l m r, .int .i64 s, ag b0 b1 b2 b3, .map 0], [.map (mV L) c ro], .tuple [.nilslice, .int .i64 0], [.map (mV L) c ro], []⟩
noncomputable abbrev qd_p_Qb (l m r s : Int) (b0 b1 b2 b3 : Bool) (L : LL) (c : Nat) (ro : Bool) (p : Nat) : Prop := LoopOk3 (callD pA tb0 la11 5) c11l0 (Ex.exit 0) (qd_b_Qa l m r b0 b1 b2 b3 L c ro) (qd_b_Qc s p) (fun V0 => List.Perm V0 (mV L)) (fun V0 => (qd_b_Qb l m r b0 b1 b2 b3 L c ro V0)) fun V0 => (qd_b_Qc s p)
theorem qd_p_o1 (p : Nat) (p4 : p < (4 : Nat)) : p < (4 : Nat) := by omega
theorem qd_p (Y : Ys Prop) (l m r s : Int) (b0 b1 b2 b3 : Bool) (L : LL) (c : Nat) (ro : Bool) (hm : mayE l m r s b0 b1 b2 b3 = 0) (p : Nat) (p4 : p < 4) (h40 : R40 [geo l m r, .int .i64 s] = some (.int .i64 ((p : Nat) : Int))) (h0 : List.length (mV L) ≠ 0) (H : qd_p_Qb l m r s b0 b1 b2 b3 L c ro p) (hv : nth (inP b0 b1 b2 b3) p = some (.bool false)) :
   body1D (callD pA tb0 la11 5) Y c11 (qd_p_Qa l m r s b0 b1 b2 b3 L c ro).args (memO (qd_p_Qa l m r s b0 b1 b2 b3 L c ro).pre) (endC (qd_p_Qa l m r s b0 b1 b2 b3 L c ro)) :=
  walkCD_of_vc (C := (qd_p_Qa l m r s b0 b1 b2 b3 L c ro)) (mono11) (.wait 8 (.fix s23 (vi 0) (.wait 6 (.lay (Lay.plain (vi ↑p)) (.wait 4 (.fix s32 (vb false) (.wait 3 (.inv3 (Ex.exit 0) (qd_b_Qa l m r b0 b1 b2 b3 L c ro) (qd_b_Qc s p) (fun v => List.Perm v (mV L)) (fun v => (qd_b_Qb l m r b0 b1 b2 b3 L c ro v)) (fun v => (qd_b_Qc s p)) fun xv0 => (.wait 1 (.res (V.ptr 2 p) (.res (vb false) .nil)))))))))))
  (show (vi (mayE l m r s b0 b1 b2 b3) = vi 0 ∧ (∀ (m' : Mem) (K' : V → Mem → Prop), la11 (.func (.func 40) [] []) ([geo l m r, vi s]) m' K' = Lay.go (Lay.plain (vi ↑p)) m' K') ∧ (vb (eqI (↑(List.length (mV L))) 0) = vb false ∧ rR (qd_b_Qa l m r b0 b1 b2 b3 L c ro) ∧ (EqZ [vi s, V.map 0, V.ptr 1 0, V.ptr 2 0, vi ↑p, V.ptr 3 0]) ∧ (qd_p_Qb l m r s b0 b1 b2 b3 L c ro p) ∧ (∀ (xv0 : EnL), List.Perm xv0 (mV L) → ∀ (T0 : Slots), allS T0 (qd_b_Qc s p) → (iaddrAV (4) 1 (V.ptr 2 0) (vi ↑p) = some (V.ptr 2 p) ∧ nth (inP b0 b1 b2 b3) (p) = some (vb false) ∧ V.tuple [V.nilslice, vi (Int.ofNat 0)] = V.tuple [V.nilslice, vi 0] ∧ (rR (some (oM (mV L) c ro)) ∧ True) ∧ True)))) from
  ⟨(ci hm), fun m' K' => fnE h40, ⟨cb (eqF rfl rfl (qd_b_o0 L h0)), rfl, (eqZ _), H, fun xv0 hq0 T0 hj0 => ⟨(iaddrA_ok1 (i := p) rfl (qd_p_o1 p p4)), hv, (by rfl), ⟨(by rfl), trivial⟩, trivial⟩⟩⟩)
  (by kernel_rfl) Y
noncomputable abbrev qd_o_Qa (l m r s : Int) (b0 b1 b2 b3 : Bool) (L : LL) (c : Nat) (ro : Bool) (a : Nat) (Q : List Int) : Con := ⟨[geo l m r, .int .i64 s, ag b0 b1 b2 b3, .map 0], [.map (mV L) c ro], .tuple [.slice 4 0 a a 1, .int .i64 0], [.map (mV L) c ro], [(4, .cells (iV Q) false)]⟩
noncomputable abbrev qd_o_Qb (l m r : Int) (b0 b1 b2 b3 : Bool) (L : LL) (c : Nat) (ro : Bool) (Q : List Int) (orr : AObj) : Mem := memL 6 [(0, oM (mV L) c ro), (1, oC [vi l, vi m, vi r] false), (2, oC (inP b0 b1 b2 b3) false), (3, AObj.dead), (4, oC (iV Q) false), (5, orr)]
noncomputable abbrev qd_o_Qc (p : Nat) : List (Sl × V) := [(s3, V.map 0), (s4, V.ptr 1 0), (s6, V.ptr 2 0), (s11, vi ↑p), (s14, V.nilslice), (s15, V.nilslice), (s16, vb false), (s17, vi ↑0)]
noncomputable abbrev qd_o_Qd (p k a : Nat) (vr : V) : List (Sl × V) := [(s3, V.map 0), (s4, V.ptr 1 0), (s6, V.ptr 2 0), (s11, vi ↑p), (s14, vr), (s15, V.slice 4 0 a a 1), (s16, vb true), (s17, vi ↑k)]
noncomputable abbrev qd_o_Qe (l m r : Int) (b0 b1 b2 b3 : Bool) (L : LL) (c : Nat) (ro : Bool) (p k a : Nat) (Q : List Int) (vr : V) (orr : AObj) (z0 : EnL) : Prop := LoopOkD (callD pA tb0 la11 5) 1 c11l1 (Ex.exit 2) (qd_b_Qb l m r b0 b1 b2 b3 L c ro z0) (qd_o_Qc p) (fun _ => True) (fun _ => (qd_o_Qb l m r b0 b1 b2 b3 L c ro Q orr)) fun _ => (qd_o_Qd p k a vr)
theorem qd_o (Y : Ys Prop) (l m r s : Int) (b0 b1 b2 b3 : Bool) (L : LL) (c : Nat) (ro : Bool) (hm : mayE l m r s b0 b1 b2 b3 = 0) (p : Nat) (p4 : p < 4) (h40 : R40 [geo l m r, .int .i64 s] = some (.int .i64 ((p : Nat) : Int))) (h0 : List.length (mV L) ≠ 0) (H : qd_p_Qb l m r s b0 b1 b2 b3 L c ro p) (hv : nth (inP b0 b1 b2 b3) p = some (.bool true)) (k a : Nat) (Q : List Int) (vr : V) (orr : AObj) (H2 : ∀ x_0, List.Perm x_0 (mV L) → qd_o_Qe l m r b0 b1 b2 b3 L c ro p k a Q vr orr x_0)  :
   body1D (callD pA tb0 la11 5) Y c11 (qd_o_Qa l m r s b0 b1 b2 b3 L c ro a Q).args (memO (qd_o_Qa l m r s b0 b1 b2 b3 L c ro a Q).pre) (endC (qd_o_Qa l m r s b0 b1 b2 b3 L c ro a Q)) :=
  walkCD_of_vc (C := (qd_o_Qa l m r s b0 b1 b2 b3 L c ro a Q)) (mono11) (.wait 8 (.fix s23 (vi 0) (.wait 6 (.lay (Lay.plain (vi ↑p)) (.wait 4 (.fix s32 (vb false) (.wait 3 (.inv3 (Ex.exit 0) (qd_b_Qa l m r b0 b1 b2 b3 L c ro) (qd_b_Qc s p) (fun v => List.Perm v (mV L)) (fun v => (qd_b_Qb l m r b0 b1 b2 b3 L c ro v)) (fun v => (qd_b_Qc s p)) fun xv0 => (.wait 1 (.res (V.ptr 2 p) (.res (vb true) (.wait 6 (.invd (Ex.exit 2) (qd_b_Qb l m r b0 b1 b2 b3 L c ro xv0) (qd_o_Qc p) (fun x => True) (fun x => (qd_o_Qb l m r b0 b1 b2 b3 L c ro Q orr)) (fun x => (qd_o_Qd p k a vr)) fun xv1 => .nil)))))))))))))
  (show (vi (mayE l m r s b0 b1 b2 b3) = vi 0 ∧ (∀ (m' : Mem) (K' : V → Mem → Prop), la11 (.func (.func 40) [] []) ([geo l m r, vi s]) m' K' = Lay.go (Lay.plain (vi ↑p)) m' K') ∧ (vb (eqI (↑(List.length (mV L))) 0) = vb false ∧ rR (qd_b_Qa l m r b0 b1 b2 b3 L c ro) ∧ (EqZ [vi s, V.map 0, V.ptr 1 0, V.ptr 2 0, vi ↑p, V.ptr 3 0]) ∧ (qd_p_Qb l m r s b0 b1 b2 b3 L c ro p) ∧ (∀ (xv0 : EnL), List.Perm xv0 (mV L) → ∀ (T0 : Slots), allS T0 (qd_b_Qc s p) → (iaddrAV (4) 1 (V.ptr 2 0) (vi ↑p) = some (V.ptr 2 p) ∧ nth (inP b0 b1 b2 b3) (p) = some (vb true) ∧ rR (qd_b_Qb l m r b0 b1 b2 b3 L c ro xv0) ∧ (EqZ [V.map 0, V.ptr 1 0, V.ptr 2 0, vi ↑p, V.nilslice, V.nilslice, vb false, vi ↑0]) ∧ (qd_o_Qe l m r b0 b1 b2 b3 L c ro p k a Q vr orr xv0) ∧ (∀ (xv1 : EnL), True → ∀ (T1 : Slots), allS T1 (qd_o_Qd p k a vr) → (V.tuple [V.slice 4 0 a a 1, vi (Int.ofNat 0)] = V.tuple [V.slice 4 0 a a 1, vi 0] ∧ (rR (some (oM (mV L) c ro)) ∧ True) ∧ (rR (some (oC (iV Q) false)) ∧ True))))))) from
  ⟨(ci hm), fun m' K' => fnE h40, ⟨cb (eqF rfl rfl (qd_b_o0 L h0)), rfl, (eqZ _), H, fun xv0 hq0 T0 hj0 => ⟨(iaddrA_ok1 (i := p) rfl (qd_p_o1 p p4)), hv, rfl, (eqZ _), (H2 xv0 hq0), fun xv1 hq1 T1 hj1 => ⟨(by rfl), ⟨(by rfl), trivial⟩, ⟨(by rfl), trivial⟩⟩⟩⟩⟩)
  (by kernel_rfl) Y
noncomputable abbrev qd_r_Qa (l m r s : Int) (b0 b1 b2 b3 : Bool) (L : LL) (c : Nat) (ro : Bool) (a : Nat) (Q : List Int) : Con := ⟨[geo l m r, .int .i64 s, ag b0 b1 b2 b3, .map 0], [.map (mV L) c ro], .tuple [.slice 5 0 a a 1, .int .i64 0], [.map (mV L) c ro], [(5, .cells (iV Q) false)]⟩
noncomputable abbrev qd_r_Qb (l m r : Int) (b0 b1 b2 b3 : Bool) (L : LL) (c : Nat) (ro : Bool) (Q : List Int) (oo : AObj) : Mem := memL 6 [(0, oM (mV L) c ro), (1, oC [vi l, vi m, vi r] false), (2, oC (inP b0 b1 b2 b3) false), (3, AObj.dead), (4, oo), (5, oC (iV Q) false)]
noncomputable abbrev qd_r_Qc (p k a : Nat) (vo : V) : List (Sl × V) := [(s3, V.map 0), (s4, V.ptr 1 0), (s6, V.ptr 2 0), (s11, vi ↑p), (s14, V.slice 5 0 a a 1), (s15, vo), (s16, vb false), (s17, vi ↑k)]
noncomputable abbrev qd_r_Qd (l m r : Int) (b0 b1 b2 b3 : Bool) (L : LL) (c : Nat) (ro : Bool) (p k a : Nat) (Q : List Int) (vo : V) (oo : AObj) (z0 : EnL) : Prop := LoopOkD (callD pA tb0 la11 5) 1 c11l1 (Ex.exit 2) (qd_b_Qb l m r b0 b1 b2 b3 L c ro z0) (qd_o_Qc p) (fun _ => True) (fun _ => (qd_r_Qb l m r b0 b1 b2 b3 L c ro Q oo)) fun _ => (qd_r_Qc p k a vo)
theorem qd_r (Y : Ys Prop) (l m r s : Int) (b0 b1 b2 b3 : Bool) (L : LL) (c : Nat) (ro : Bool) (hm : mayE l m r s b0 b1 b2 b3 = 0) (p : Nat) (p4 : p < 4) (h40 : R40 [geo l m r, .int .i64 s] = some (.int .i64 ((p : Nat) : Int))) (h0 : List.length (mV L) ≠ 0) (H : qd_p_Qb l m r s b0 b1 b2 b3 L c ro p) (hv : nth (inP b0 b1 b2 b3) p = some (.bool true)) (k a : Nat) (Q : List Int) (vo : V) (oo : AObj) (H2 : ∀ x_0, List.Perm x_0 (mV L) → qd_r_Qd l m r b0 b1 b2 b3 L c ro p k a Q vo oo x_0)  :
   body1D (callD pA tb0 la11 5) Y c11 (qd_r_Qa l m r s b0 b1 b2 b3 L c ro a Q).args (memO (qd_r_Qa l m r s b0 b1 b2 b3 L c ro a Q).pre) (endC (qd_r_Qa l m r s b0 b1 b2 b3 L c ro a Q)) :=
  walkCD_of_vc (C := (qd_r_Qa l m r s b0 b1 b2 b3 L c ro a Q)) (mono11) (.wait 8 (.fix s23 (vi 0) (.wait 6 (.lay (Lay.plain (vi ↑p)) (.wait 4 (.fix s32 (vb false) (.wait 3 (.inv3 (Ex.exit 0) (qd_b_Qa l m r b0 b1 b2 b3 L c ro) (qd_b_Qc s p) (fun v => List.Perm v (mV L)) (fun v => (qd_b_Qb l m r b0 b1 b2 b3 L c ro v)) (fun v => (qd_b_Qc s p)) fun xv0 => (.wait 1 (.res (V.ptr 2 p) (.res (vb true) (.wait 6 (.invd (Ex.exit 2) (qd_b_Qb l m r b0 b1 b2 b3 L c ro xv0) (qd_o_Qc p) (fun x => True) (fun x => (qd_r_Qb l m r b0 b1 b2 b3 L c ro Q oo)) (fun x => (qd_r_Qc p k a vo)) fun xv1 => .nil)))))))))))))
  (show (vi (mayE l m r s b0 b1 b2 b3) = vi 0 ∧ (∀ (m' : Mem) (K' : V → Mem → Prop), la11 (.func (.func 40) [] []) ([geo l m r, vi s]) m' K' = Lay.go (Lay.plain (vi ↑p)) m' K') ∧ (vb (eqI (↑(List.length (mV L))) 0) = vb false ∧ rR (qd_b_Qa l m r b0 b1 b2 b3 L c ro) ∧ (EqZ [vi s, V.map 0, V.ptr 1 0, V.ptr 2 0, vi ↑p, V.ptr 3 0]) ∧ (qd_p_Qb l m r s b0 b1 b2 b3 L c ro p) ∧ (∀ (xv0 : EnL), List.Perm xv0 (mV L) → ∀ (T0 : Slots), allS T0 (qd_b_Qc s p) → (iaddrAV (4) 1 (V.ptr 2 0) (vi ↑p) = some (V.ptr 2 p) ∧ nth (inP b0 b1 b2 b3) (p) = some (vb true) ∧ rR (qd_b_Qb l m r b0 b1 b2 b3 L c ro xv0) ∧ (EqZ [V.map 0, V.ptr 1 0, V.ptr 2 0, vi ↑p, V.nilslice, V.nilslice, vb false, vi ↑0]) ∧ (qd_r_Qd l m r b0 b1 b2 b3 L c ro p k a Q vo oo xv0) ∧ (∀ (xv1 : EnL), True → ∀ (T1 : Slots), allS T1 (qd_r_Qc p k a vo) → (V.tuple [V.slice 5 0 a a 1, vi (Int.ofNat 0)] = V.tuple [V.slice 5 0 a a 1, vi 0] ∧ (rR (some (oM (mV L) c ro)) ∧ True) ∧ (rR (some (oC (iV Q) false)) ∧ True))))))) from
  ⟨(ci hm), fun m' K' => fnE h40, ⟨cb (eqF rfl rfl (qd_b_o0 L h0)), rfl, (eqZ _), H, fun xv0 hq0 T0 hj0 => ⟨(iaddrA_ok1 (i := p) rfl (qd_p_o1 p p4)), hv, rfl, (eqZ _), (H2 xv0 hq0), fun xv1 hq1 T1 hj1 => ⟨(by rfl), ⟨(by rfl), trivial⟩, ⟨(by rfl), trivial⟩⟩⟩⟩⟩)
  (by kernel_rfl) Y
noncomputable abbrev qd_n_Qa (l m r : Int) (b0 b1 b2 b3 : Bool) (L : LL) (c : Nat) (ro : Bool) (oo orr : AObj) : Mem := memL 6 [(0, oM (mV L) c ro), (1, oC [vi l, vi m, vi r] false), (2, oC (inP b0 b1 b2 b3) false), (3, AObj.dead), (4, oo), (5, orr)]
noncomputable abbrev qd_n_Qb (p k : Nat) (vo : V) : List (Sl × V) := [(s3, V.map 0), (s4, V.ptr 1 0), (s6, V.ptr 2 0), (s11, vi ↑p), (s14, V.nilslice), (s15, vo), (s16, vb false), (s17, vi ↑k)]
noncomputable abbrev qd_n_Qc (l m r : Int) (b0 b1 b2 b3 : Bool) (L : LL) (c : Nat) (ro : Bool) (p k : Nat) (vo : V) (oo orr : AObj) (z0 : EnL) : Prop := LoopOkD (callD pA tb0 la11 5) 1 c11l1 (Ex.exit 2) (qd_b_Qb l m r b0 b1 b2 b3 L c ro z0) (qd_o_Qc p) (fun _ => True) (fun _ => (qd_n_Qa l m r b0 b1 b2 b3 L c ro oo orr)) fun _ => (qd_n_Qb p k vo)
theorem qd_n (Y : Ys Prop) (l m r s : Int) (b0 b1 b2 b3 : Bool) (L : LL) (c : Nat) (ro : Bool) (hm : mayE l m r s b0 b1 b2 b3 = 0) (p : Nat) (p4 : p < 4) (h40 : R40 [geo l m r, .int .i64 s] = some (.int .i64 ((p : Nat) : Int))) (h0 : List.length (mV L) ≠ 0) (H : qd_p_Qb l m r s b0 b1 b2 b3 L c ro p) (hv : nth (inP b0 b1 b2 b3) p = some (.bool true)) (k : Nat) (vo : V) (oo orr : AObj) (H2 : ∀ x_0, List.Perm x_0 (mV L) → qd_n_Qc l m r b0 b1 b2 b3 L c ro p k vo oo orr x_0)  :
   body1D (callD pA tb0 la11 5) Y c11 (qd_p_Qa l m r s b0 b1 b2 b3 L c ro).args (memO (qd_p_Qa l m r s b0 b1 b2 b3 L c ro).pre) (endC (qd_p_Qa l m r s b0 b1 b2 b3 L c ro)) :=
  walkCD_of_vc (C := (qd_p_Qa l m r s b0 b1 b2 b3 L c ro)) (mono11) (.wait 8 (.fix s23 (vi 0) (.wait 6 (.lay (Lay.plain (vi ↑p)) (.wait 4 (.fix s32 (vb false) (.wait 3 (.inv3 (Ex.exit 0) (qd_b_Qa l m r b0 b1 b2 b3 L c ro) (qd_b_Qc s p) (fun v => List.Perm v (mV L)) (fun v => (qd_b_Qb l m r b0 b1 b2 b3 L c ro v)) (fun v => (qd_b_Qc s p)) fun xv0 => (.wait 1 (.res (V.ptr 2 p) (.res (vb true) (.wait 6 (.invd (Ex.exit 2) (qd_b_Qb l m r b0 b1 b2 b3 L c ro xv0) (qd_o_Qc p) (fun x => True) (fun x => (qd_n_Qa l m r b0 b1 b2 b3 L c ro oo orr)) (fun x => (qd_n_Qb p k vo)) fun xv1 => .nil)))))))))))))
  (show (vi (mayE l m r s b0 b1 b2 b3) = vi 0 ∧ (∀ (m' : Mem) (K' : V → Mem → Prop), la11 (.func (.func 40) [] []) ([geo l m r, vi s]) m' K' = Lay.go (Lay.plain (vi ↑p)) m' K') ∧ (vb (eqI (↑(List.length (mV L))) 0) = vb false ∧ rR (qd_b_Qa l m r b0 b1 b2 b3 L c ro) ∧ (EqZ [vi s, V.map 0, V.ptr 1 0, V.ptr 2 0, vi ↑p, V.ptr 3 0]) ∧ (qd_p_Qb l m r s b0 b1 b2 b3 L c ro p) ∧ (∀ (xv0 : EnL), List.Perm xv0 (mV L) → ∀ (T0 : Slots), allS T0 (qd_b_Qc s p) → (iaddrAV (4) 1 (V.ptr 2 0) (vi ↑p) = some (V.ptr 2 p) ∧ nth (inP b0 b1 b2 b3) (p) = some (vb true) ∧ rR (qd_b_Qb l m r b0 b1 b2 b3 L c ro xv0) ∧ (EqZ [V.map 0, V.ptr 1 0, V.ptr 2 0, vi ↑p, V.nilslice, V.nilslice, vb false, vi ↑0]) ∧ (qd_n_Qc l m r b0 b1 b2 b3 L c ro p k vo oo orr xv0) ∧ (∀ (xv1 : EnL), True → ∀ (T1 : Slots), allS T1 (qd_n_Qb p k vo) → (V.tuple [V.nilslice, vi (Int.ofNat 0)] = V.tuple [V.nilslice, vi 0] ∧ (rR (some (oM (mV L) c ro)) ∧ True) ∧ True)))))) from
  ⟨(ci hm), fun m' K' => fnE h40, ⟨cb (eqF rfl rfl (qd_b_o0 L h0)), rfl, (eqZ _), H, fun xv0 hq0 T0 hj0 => ⟨(iaddrA_ok1 (i := p) rfl (qd_p_o1 p p4)), hv, rfl, (eqZ _), (H2 xv0 hq0), fun xv1 hq1 T1 hj1 => ⟨(by rfl), ⟨(by rfl), trivial⟩, trivial⟩⟩⟩⟩)
  (by kernel_rfl) Y
end Go.Proofs.Ytjikaankdnmabaa
