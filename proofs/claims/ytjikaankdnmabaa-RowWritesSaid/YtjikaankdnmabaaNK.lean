/- Needs: contracts. No condition. -/
import Derived.Test.YtjikaankdnmabaaNJ
import Derived.Test.YtjikaankdnmabaaNC
namespace Go.Proofs.Ytjikaankdnmabaa
open Go Go.AM
set_option maxRecDepth 100000
set_option maxHeartbeats 4000000
set_option linter.unusedVariables false
set_option linter.unusedSectionVars false
theorem wf37 (j k : Nat) (zs xs : List Int) : Con.wf ⟨[.func (.func 54) [] [.ptr 0 0]], [.cells [.slice 1 0 j k 1] false, .cells (iV zs) false], .slice 2 0 j j 1, [.cells [.slice 1 0 j k 1] false, .cells (iV zs) false], [(2, .cells (iV xs) false)]⟩ = true := by
  simp only [Con.wf, bels, V.bel, Con.p0, Con.p1, hasN, List.length_cons, List.length_nil, List.all_cons, List.all_nil, AObj.bel, bels_iV, AObj.live, AObj.wr, Bool.and_true, nodupN, Bool.and_self]
  rfl
theorem wf370 (j k : Nat) (zs : List Int) : Con.wf ⟨[.func (.func 54) [] [.ptr 0 0]], [.cells [.slice 1 0 j k 1] false, .cells (iV zs) false], .nilslice, [.cells [.slice 1 0 j k 1] false, .cells (iV zs) false], []⟩ = true := by
  simp only [Con.wf, bels, V.bel, Con.p0, List.length_cons, List.length_nil, List.all_cons, List.all_nil, AObj.bel, bels_iV, AObj.live, Bool.and_true, nodupN, Bool.and_self]
  rfl
theorem wf49 (L : List (Int × List Nat × Nat)) (c : Nat) (ro : Bool) (j k : Nat) (zs zs1 : List Int) : Con.wf ⟨[.slice 0 0 k k 1, .func (.func 50) [] [.ptr 1 0]], [.cells (iV zs) false, .cells [.map 2] false, .map (mV L) c ro], .slice 0 0 j k 1, [.cells (iV zs1) false, .cells [.map 2] false, .map (mV L) c ro], []⟩ = true := by
  simp only [Con.wf, bels, V.bel, Con.p0, List.length_cons, List.length_nil, List.all_cons, List.all_nil, AObj.bel, bels_iV, ebels_mV, AObj.live, Bool.and_true, nodupN, Bool.and_self]
  rfl
theorem dataL_len (m p : Int) : (dataL m p).length = (m - 1).toNat := by simp [dataL]
theorem restL_len (L : List (Int × List Nat × Nat)) (xs : List Int) : (restL L xs).length ≤ xs.length := List.length_filter_le _ _
def isUnit (u : V) (_ : Mem) : Bool := match u with | .tuple [] => true | _ => false
theorem sort_nil : body1 boolAns (callD boolAns tbSn (fun _ _ _ _ => false) 8) Ys.none c53 [.nilslice] (memO []) isUnit = true := by kernel_rfl
section
variable {P : Program}
variable (hmix : P.follows .mixedOrders = true)
include hmix
omit hmix in
theorem tbCol_ok (o54 : FOk P 54 c54) (o55 : FOk P 55 c55) : TabOk P tbCol := by
  intro f af h
  simp only [tbCol] at h
  by_cases e54 : f = 54
  · subst e54; cases h; exact o54
  rw [nbeqF e54, cond_false] at h
  by_cases e55 : f = 55
  · subst e55; cases h; exact o55
  rw [nbeqF e55] at h
  cases h
omit hmix in
theorem tbSn_ok (o63 : FOk P 63 c63) (o64 : FOk P 64 c64) (o65 : FOk P 65 c65) (o75 : FOk P 75 c75) : TabOk P tbSn := by
  intro f af h
  simp only [tbSn] at h
  by_cases e63 : f = 63
  · subst e63; cases h; exact o63
  rw [nbeqF e63, cond_false] at h
  by_cases e64 : f = 64
  · subst e64; cases h; exact o64
  rw [nbeqF e64, cond_false] at h
  by_cases e65 : f = 65
  · subst e65; cases h; exact o65
  rw [nbeqF e65, cond_false] at h
  by_cases e75 : f = 75
  · subst e75; cases h; exact o75
  rw [nbeqF e75] at h
  cases h
omit hmix in
theorem tbVal_ok (o36 : FOk P 36 c36) : TabOk P tbVal := by
  intro f af h
  simp only [tbVal] at h
  by_cases e36 : f = 36
  · subst e36; cases h; exact o36
  rw [nbeqF e36] at h
  cases h
omit hmix in
theorem tb10_ok (o36 : FOk P 36 c36) (o38 : FOk P 38 c38) (o32 : FOk P 32 c32) : TabOk P tb10 := by
  intro f af h
  simp only [tb10] at h
  by_cases e36 : f = 36
  · subst e36; cases h; exact o36
  rw [nbeqF e36, cond_false] at h
  by_cases e38 : f = 38
  · subst e38; cases h; exact o38
  rw [nbeqF e38, cond_false] at h
  by_cases e32 : f = 32
  · subst e32; cases h; exact o32
  rw [nbeqF e32] at h
  cases h
theorem s37_ok (o54 : FOk P 54 c54) (o55 : FOk P 55 c55) (o37 : FOk P 37 c37) : ∀ C, S37 C → C.wf = true → ConOk P 37 C := by
  intro C h _
  have hcf := callD_sound pHolds hmix (tbCol_ok o54 o55) la0_ok 8
  cases h with
  | nil k zs hk k1 k4 =>
    subst hk
    match zs, k1, k4 with
    | [x0], _, _ => exact conOk_walk hmix o37 hcf (col_0_1 x0)
    | [x0, x1], _, _ => exact conOk_walk hmix o37 hcf (col_0_2 x0 x1)
    | [x0, x1, x2], _, _ => exact conOk_walk hmix o37 hcf (col_0_3 x0 x1 x2)
    | [x0, x1, x2, x3], _, _ => exact conOk_walk hmix o37 hcf (col_0_4 x0 x1 x2 x3)
    | [], h, _ => exact absurd h (by simp)
    | _ :: _ :: _ :: _ :: _ :: _, _, h => exact absurd h (by simp)
  | mk j k xs zs hj h1 h4 hk k4 =>
    subst hj
    subst hk
    match xs, zs, h1, k4 with
    | [x0], [], _, _ => exact conOk_new (f := fun b => .slice b 0 1 1 1) (ob := .cells [.int .i64 x0] false) hmix o37 hcf (names_slice 1 1) rfl (by intro o ho; simp only [List.mem_cons, List.not_mem_nil, or_false] at ho; rcases ho with rfl | rfl <;> rfl) (fun u m h => endN_of (pre := [.cells [.slice 1 0 1 1 1] false, .cells [.int .i64 x0] false]) (b := 5) (show (2 : Nat) ≤ 5 by decide) h) (col_1_1 x0)
    | [x0], [x1], _, _ => exact conOk_new (f := fun b => .slice b 0 1 1 1) (ob := .cells [.int .i64 x0] false) hmix o37 hcf (names_slice 1 1) rfl (by intro o ho; simp only [List.mem_cons, List.not_mem_nil, or_false] at ho; rcases ho with rfl | rfl <;> rfl) (fun u m h => endN_of (pre := [.cells [.slice 1 0 1 2 1] false, .cells [.int .i64 x0, .int .i64 x1] false]) (b := 5) (show (2 : Nat) ≤ 5 by decide) h) (col_1_2 x0 x1)
    | [x0, x1], [], _, _ => exact conOk_new (f := fun b => .slice b 0 2 2 1) (ob := .cells [.int .i64 x0, .int .i64 x1] false) hmix o37 hcf (names_slice 2 2) rfl (by intro o ho; simp only [List.mem_cons, List.not_mem_nil, or_false] at ho; rcases ho with rfl | rfl <;> rfl) (fun u m h => endN_of (pre := [.cells [.slice 1 0 2 2 1] false, .cells [.int .i64 x0, .int .i64 x1] false]) (b := 7) (show (2 : Nat) ≤ 7 by decide) h) (col_2_2 x0 x1)
    | [x0], [x1, x2], _, _ => exact conOk_new (f := fun b => .slice b 0 1 1 1) (ob := .cells [.int .i64 x0] false) hmix o37 hcf (names_slice 1 1) rfl (by intro o ho; simp only [List.mem_cons, List.not_mem_nil, or_false] at ho; rcases ho with rfl | rfl <;> rfl) (fun u m h => endN_of (pre := [.cells [.slice 1 0 1 3 1] false, .cells [.int .i64 x0, .int .i64 x1, .int .i64 x2] false]) (b := 5) (show (2 : Nat) ≤ 5 by decide) h) (col_1_3 x0 x1 x2)
    | [x0, x1], [x2], _, _ => exact conOk_new (f := fun b => .slice b 0 2 2 1) (ob := .cells [.int .i64 x0, .int .i64 x1] false) hmix o37 hcf (names_slice 2 2) rfl (by intro o ho; simp only [List.mem_cons, List.not_mem_nil, or_false] at ho; rcases ho with rfl | rfl <;> rfl) (fun u m h => endN_of (pre := [.cells [.slice 1 0 2 3 1] false, .cells [.int .i64 x0, .int .i64 x1, .int .i64 x2] false]) (b := 7) (show (2 : Nat) ≤ 7 by decide) h) (col_2_3 x0 x1 x2)
    | [x0, x1, x2], [], _, _ => exact conOk_new (f := fun b => .slice b 0 3 3 1) (ob := .cells [.int .i64 x0, .int .i64 x1, .int .i64 x2] false) hmix o37 hcf (names_slice 3 3) rfl (by intro o ho; simp only [List.mem_cons, List.not_mem_nil, or_false] at ho; rcases ho with rfl | rfl <;> rfl) (fun u m h => endN_of (pre := [.cells [.slice 1 0 3 3 1] false, .cells [.int .i64 x0, .int .i64 x1, .int .i64 x2] false]) (b := 9) (show (2 : Nat) ≤ 9 by decide) h) (col_3_3 x0 x1 x2)
    | [x0], [x1, x2, x3], _, _ => exact conOk_new (f := fun b => .slice b 0 1 1 1) (ob := .cells [.int .i64 x0] false) hmix o37 hcf (names_slice 1 1) rfl (by intro o ho; simp only [List.mem_cons, List.not_mem_nil, or_false] at ho; rcases ho with rfl | rfl <;> rfl) (fun u m h => endN_of (pre := [.cells [.slice 1 0 1 4 1] false, .cells [.int .i64 x0, .int .i64 x1, .int .i64 x2, .int .i64 x3] false]) (b := 5) (show (2 : Nat) ≤ 5 by decide) h) (col_1_4 x0 x1 x2 x3)
    | [x0, x1], [x2, x3], _, _ => exact conOk_new (f := fun b => .slice b 0 2 2 1) (ob := .cells [.int .i64 x0, .int .i64 x1] false) hmix o37 hcf (names_slice 2 2) rfl (by intro o ho; simp only [List.mem_cons, List.not_mem_nil, or_false] at ho; rcases ho with rfl | rfl <;> rfl) (fun u m h => endN_of (pre := [.cells [.slice 1 0 2 4 1] false, .cells [.int .i64 x0, .int .i64 x1, .int .i64 x2, .int .i64 x3] false]) (b := 7) (show (2 : Nat) ≤ 7 by decide) h) (col_2_4 x0 x1 x2 x3)
    | [x0, x1, x2], [x3], _, _ => exact conOk_new (f := fun b => .slice b 0 3 3 1) (ob := .cells [.int .i64 x0, .int .i64 x1, .int .i64 x2] false) hmix o37 hcf (names_slice 3 3) rfl (by intro o ho; simp only [List.mem_cons, List.not_mem_nil, or_false] at ho; rcases ho with rfl | rfl <;> rfl) (fun u m h => endN_of (pre := [.cells [.slice 1 0 3 4 1] false, .cells [.int .i64 x0, .int .i64 x1, .int .i64 x2, .int .i64 x3] false]) (b := 9) (show (2 : Nat) ≤ 9 by decide) h) (col_3_4 x0 x1 x2 x3)
    | [x0, x1, x2, x3], [], _, _ => exact conOk_new (f := fun b => .slice b 0 4 4 1) (ob := .cells [.int .i64 x0, .int .i64 x1, .int .i64 x2, .int .i64 x3] false) hmix o37 hcf (names_slice 4 4) rfl (by intro o ho; simp only [List.mem_cons, List.not_mem_nil, or_false] at ho; rcases ho with rfl | rfl <;> rfl) (fun u m h => endN_of (pre := [.cells [.slice 1 0 4 4 1] false, .cells [.int .i64 x0, .int .i64 x1, .int .i64 x2, .int .i64 x3] false]) (b := 11) (show (2 : Nat) ≤ 11 by decide) h) (col_4_4 x0 x1 x2 x3)
    | [], _, h, _ => exact absurd h (by simp)
    | [_], _ :: _ :: _ :: _ :: _, _, h => exfalso; simp only [List.cons_append, List.nil_append, List.length_cons, List.length_append] at h; omega
    | [_, _], _ :: _ :: _ :: _, _, h => exfalso; simp only [List.cons_append, List.nil_append, List.length_cons, List.length_append] at h; omega
    | [_, _, _], _ :: _ :: _, _, h => exfalso; simp only [List.cons_append, List.nil_append, List.length_cons, List.length_append] at h; omega
    | [_, _, _, _], _ :: _, _, h => exfalso; simp only [List.cons_append, List.nil_append, List.length_cons, List.length_append] at h; omega
    | _ :: _ :: _ :: _ :: _ :: _, _, _, h => exfalso; simp only [List.cons_append, List.length_cons, List.length_append] at h; omega
theorem s53_ok (hs : ∀ C, SortS C → C.wf = true → ConOk P 53 C) (o63 : FOk P 63 c63) (o64 : FOk P 64 c64) (o65 : FOk P 65 c65) (o75 : FOk P 75 c75) (o53 : FOk P 53 c53) : ∀ C, S53 C → C.wf = true → ConOk P 53 C := by
  intro C h w
  cases h with
  | s _ h => exact hs C h w
  | nil =>
    refine conOk_of (A := boolAns) (H := (· = true)) boolHolds hmix o53 (callD_sound boolHolds hmix (tbSn_ok o63 o64 o65 o75) (last_none (A := boolAns) boolHolds) 8) (fun u m h => ?_) sort_nil
    have h : isUnit u m = true := h
    unfold isUnit at h
    split at h
    · exact ⟨rfl, trivial, trivial⟩
    · cases h
theorem s35_ok (h37 : ∀ C, S37 C → C.wf = true → ConOk P 37 C) (h53 : ∀ C, S53 C → C.wf = true → ConOk P 53 C) (c37 : Callable P 37) (c53 : Callable P 53) (o35 : FOk P 35 c35) : ∀ C, S35 C → C.wf = true → ConOk P 35 C := by
  intro C h _
  have hcf := callD_sound pHolds hmix tb0_ok (lastC_ok c37 h37 (lastC_ok c53 h53 la0_ok)) 5
  cases h with
  | nil k zs hk k1 k4 => exact conOk_walk hmix o35 hcf (srt0 Ys.none 0 k zs (S37.nil k zs hk k1 k4) (wf370 _ _ _) S53.nil)
  | mk j k xs zs hj h1 h4 hk k4 =>
    refine conOk_walk hmix o35 hcf (srt Ys.none j k (xs ++ zs) xs (sortI xs) (S37.mk j k xs zs hj h1 h4 hk k4) (wf37 _ _ _ _) (S53.s _ ?_) (wfSort _ _ _))
    have := SortS.mk xs (by intro e; rw [e] at hj; simp at hj; omega) (by omega)
    rwa [hj] at this
theorem la33_ok (h49 : ∀ C, S49 C → C.wf = true → ConOk P 49 C) (h35 : ∀ C, S35 C → C.wf = true → ConOk P 35 C) (c49 : Callable P 49) (c35 : Callable P 35) (l16 : LastOk P (lastL 16 S16s la0) id) : LastOk P la33 id := lastC_ok c49 h49 (lastC_ok c35 h35 l16)
theorem l16_ok (o61 : FOk P 61 c61) (o47 : FOk P 47 c47) (o27 : FOk P 27 c27) (o16 : FOk P 16 c16) {last : CF Prop} (hl : LastOk P last id) : LastOk P (lastL 16 S16s last) id :=
  lastL_ok (callable_fok o16) (fun ρ args args' L hv ha => by
    rw [S16s_eq] at hv; unfold S16 at hv; split at hv
    · split at hv
      · rename_i h
        cases hv
        exact ⟨by show (true && (!false && plains (dataF _ _))) = true; rw [plain_dataF]; rfl, data_ans hmix o61 o47 o27 o16 h ha⟩
      · rename_i h
        cases hv
        exact ⟨rfl, data_nil hmix o61 o47 o27 o16 (Bool.eq_false_iff.2 h) ha⟩
    · cases hv) hl
theorem s33_ok (l33 : LastOk P la33 id) (o36 : FOk P 36 c36) (o33 : FOk P 33 c33) : ∀ C, S33 C → C.wf = true → ConOk P 33 C := by
  intro C h _
  have hcf := callD_sound pHolds hmix (tbVal_ok o36) l33 5
  have key : ∀ {l m r s : Int}, roB l m r s = true → 1 ≤ (dataL m (pz l m r s)).length ∧ (dataL m (pz l m r s)).length ≤ 3 ∧ S16s [geo l m r, .int .i64 s] = some (Lay.new (Hd.slice (dataL m (pz l m r s)).length 1) none (AObj.cells (iV (dataL m (pz l m r s))) false)) := by
    intro l m r s ho
    have g := (ro_t.1 ho).1.1
    rw [dataL_len]
    refine ⟨by omega, by omega, ?_⟩
    rw [S16s_eq]
    exact if_pos ho
  cases h with
  | nil l m r s L c ro ho hj =>
    obtain ⟨k1, k3, h16⟩ := key ho
    have h49 := S49.mk L c ro (dataL m (pz l m r s)) k1 k3
    rw [hj] at h49
    exact conOk_walk hmix o33 hcf (oth0 Ys.none l m r s L c ro _ 0 (dataL m (pz l m r s)) _ [] h16 h49 (wf49 _ _ _ _ _ _ _) (S35.nil _ (([] : List Int) ++ List.replicate ((dataL m (pz l m r s)).length - ([] : List Int).length) 0) (by simp) k1 (by omega)) (wf370 _ _ _))
  | mk l m r s L c ro ho j hj h1 =>
    obtain ⟨k1, k3, h16⟩ := key ho
    have h49 := S49.mk L c ro (dataL m (pz l m r s)) k1 k3
    have hle := restL_len L (dataL m (pz l m r s))
    rw [hj] at h49 hle
    exact conOk_walk hmix o33 hcf (oth Ys.none l m r s L c ro _ j (dataL m (pz l m r s)) _ _ h16 h49 (wf49 _ _ _ _ _ _ _) (S35.mk j _ _ _ hj h1 (by omega) (by rw [List.length_append, List.length_replicate, hj]; omega) (by omega)) (wf37 _ _ _ _))
end
end Go.Proofs.Ytjikaankdnmabaa
