/- Writes by their keys; the same sectors. No condition. -/
import Derived.Test.YtjikaankdnmabaaTW
namespace Go.Proofs.Ytjikaankdnmabaa
open Go Go.AM
set_option maxRecDepth 100000
set_option maxHeartbeats 4000000
set_option linter.unusedVariables false
set_option linter.unusedSectionVars false
theorem data_perm {m p : Int} (hm : m = 2 ∨ m = 3 ∨ m = 4) (hp : 0 ≤ p ∧ p < m) : (dataL m p ++ [p]).Perm ((List.range m.toNat).map fun k : Nat => ((k : Nat) : Int)) := by
  have hpp : p = 0 ∨ p = 1 ∨ p = 2 ∨ p = 3 := by omega
  rcases hm with rfl | rfl | rfl <;> rcases hpp with rfl | rfl | rfl | rfl <;> first | omega | decide
theorem mem_of_range {m p : Int} (hm : m = 2 ∨ m = 3 ∨ m = 4) (hp : 0 ≤ p ∧ p < m) {y : Int} (h0 : 0 ≤ y) (h1 : y < m) : y ∈ dataL m p ∨ y = p := by
  have h : y ∈ (List.range m.toNat).map fun k : Nat => ((k : Nat) : Int) := List.mem_map.2 ⟨y.toNat, List.mem_range.2 (by omega), by omega⟩
  rcases List.mem_append.1 ((data_perm hm hp).mem_iff.2 h) with h | h
  · exact .inl h
  · exact .inr (List.mem_singleton.1 h)
theorem look_mem : ∀ {L : List (Int × List Nat × Nat)}, (keysG L).Nodup → ∀ {y}, y ∈ L → lookG L y.1 = y.2.1
  | [], _, _, h => by cases h
  | (n, g, t) :: L, hn, y, h => by
    simp only [keysG, List.map_cons, List.nodup_cons] at hn
    rcases List.mem_cons.1 h with rfl | h
    · simp only [lookG, if_true]
    · have : y.1 ≠ n := fun e => hn.1 (by rw [← e]; exact List.mem_map.2 ⟨y, h, rfl⟩)
      simp only [lookG, this, if_false]
      exact look_mem hn.2 h
theorem par_notin {m p : Int} (hm : m = 2 ∨ m = 3 ∨ m = 4) (hp : 0 ≤ p ∧ p < m) : p ∉ dataL m p := fun h => (dataL_mem hm hp h).2.2 rfl
theorem has_iff {W : List (Int × List Nat × Nat)} {y : Int} : hasG W y = true ↔ y ∈ keysG W := by
  constructor
  · induction W with
    | nil => intro h; cases h
    | cons a W ih =>
      intro h
      simp only [hasG, Bool.or_eq_true, decide_eq_true_eq] at h
      simp only [keysG, List.map_cons, List.mem_cons]
      rcases h with h | h
      · exact .inl h
      · exact .inr (ih h)
  · exact hasG_of_key
abbrev cpG (v : EnL) : List (Int × List Nat × Nat) := outG true true true true 0 v
theorem in4_t (x : Int) : inB4 true true true true x = true := by
  unfold inB4
  repeat' split
  all_goals rfl
theorem cp_app (v : EnL) (e : En) : cpG (v ++ [e]) = cpG v ++ [(keyI e, valI e, (cpG v).length)] := by
  have h := outG_app true true true true e v 0
  rw [Nat.zero_add, if_pos (in4_t _)] at h
  exact h
theorem out_mem {b0 b1 b2 b3 : Bool} {e : En} (hin : inB4 b0 b1 b2 b3 (keyI e) = true) : ∀ {v : EnL} {i : Nat}, e ∈ v → ∃ j, (keyI e, valI e, j) ∈ outG b0 b1 b2 b3 i v
  | [], _, h => by cases h
  | a :: v, i, h => by
    simp only [outG]
    rcases List.mem_cons.1 h with rfl | h
    · rw [if_pos hin]; exact ⟨i, List.mem_cons_self⟩
    · split
      · obtain ⟨j, hj⟩ := out_mem hin (i := i + 1) h
        exact ⟨j, List.mem_cons_of_mem _ hj⟩
      · exact out_mem hin h
theorem out_key_in {b0 b1 b2 b3 : Bool} : ∀ {v : EnL} {i : Nat}, ∀ y ∈ outG b0 b1 b2 b3 i v, inB4 b0 b1 b2 b3 y.1 = true
  | [], _, _, h => by cases h
  | a :: v, i, y, h => by
    simp only [outG] at h
    split at h
    · rename_i hb
      rcases List.mem_cons.1 h with rfl | h
      · exact hb
      · exact out_key_in y h
    · exact out_key_in y h
theorem out_keys {b0 b1 b2 b3 : Bool} : ∀ (v : EnL) (i : Nat), keysG (outG b0 b1 b2 b3 i v) = (v.map keyI).filter (inB4 b0 b1 b2 b3)
  | [], _ => rfl
  | a :: v, i => by
    simp only [outG, List.map_cons, List.filter_cons]
    split
    · have := out_keys (b0 := b0) (b1 := b1) (b2 := b2) (b3 := b3) v (i + 1)
      simp only [keysG] at this
      simp only [keysG, List.map_cons, this]
    · exact out_keys v i
theorem out_stamps {b0 b1 b2 b3 : Bool} : ∀ (v : EnL) (i : Nat), (outG b0 b1 b2 b3 i v).map (·.2.2) = List.range' i (outG b0 b1 b2 b3 i v).length
  | [], _ => rfl
  | a :: v, i => by
    simp only [outG]
    split
    · rw [List.map_cons, out_stamps v (i + 1), List.length_cons, List.range'_succ]
    · exact out_stamps v i
theorem keys_mV : ∀ L : List (Int × List Nat × Nat), (mV L).map keyI = keysG L
  | [] => rfl
  | (n, g, t) :: L => by have := keys_mV L; simp only [keysG] at this; simp only [mV, keysG, List.map_cons, this]; rfl
theorem mem_mV {L : List (Int × List Nat × Nat)} {y : Int × List Nat × Nat} (h : y ∈ L) : ((.int .i64 y.1, .str y.2.1, y.2.2) : En) ∈ mV L := by
  induction L with
  | nil => cases h
  | cons a L ih =>
    rcases List.mem_cons.1 h with rfl | h
    · exact List.mem_cons_self
    · exact List.mem_cons_of_mem _ (ih h)
theorem cp_keys {L : List (Int × List Nat × Nat)} {v : EnL} (hv : v.Perm (mV L)) : (keysG (cpG v)).Perm (keysG L) := by
  rw [out_keys, List.filter_eq_self.2 fun a _ => in4_t a, ← keys_mV]
  exact hv.map keyI
theorem stamped_of {L : List (Int × List Nat × Nat)} {c : Nat} (h : MapOk L c) : Stamped (mV L) c := ⟨fun y hy => by obtain ⟨z, hz, rfl⟩ := mV_mem hy; exact h.lt z hz, by rw [mV_stamps]; exact h.st, by rw [mV_length]; exact rounds_big h.small⟩
theorem nth_iV {ys : List Int} {i : Nat} {d : Int} (h : ys[i]? = some d) : nth (iV ys) i = some (.int .i64 d) := by
  rw [nth_eq, iV_get, h]; rfl
structure WrOk (m p : Int) (W : List (Int × List Nat × Nat)) : Prop where
  ks : (keysG W).Nodup
  sub : ∀ y ∈ W, y.1 ∈ dataL m p
section
variable {l m r s : Int} {b0 b1 b2 b3 : Bool} (hm : m = 2 ∨ m = 3 ∨ m = 4) (hp : 0 ≤ pz l m r s ∧ pz l m r s < m) {W G : List (Int × List Nat × Nat)} (hW : WrOk m (pz l m r s) W) {x : EnL} (hx : x.Perm (mV W))
include hm hp hW hx
theorem x_keys : ∀ e ∈ x, keyI e ∈ dataL m (pz l m r s) := fun e he => by
  obtain ⟨z, hz, rfl⟩ := mV_mem (hx.mem_iff.1 he)
  exact hW.sub z hz
theorem make_mem : ∀ z ∈ makeG l m r s b0 b1 b2 b3 W G x, inB4 b0 b1 b2 b3 z.1 = true ∧ ((∃ e ∈ x, keyI e = z.1) ∨ z.1 = pz l m r s) := fun z hz => by
  unfold makeG at hz
  rcases List.mem_append.1 hz with h | h
  · obtain ⟨e, he, h2⟩ := outG_key b0 b1 b2 b3 x 0 z h
    exact ⟨out_key_in z h, .inl ⟨e, he, h2⟩⟩
  · split at h
    · rename_i hi
      simp only [List.mem_cons, List.not_mem_nil, or_false] at h
      subst h
      exact ⟨hi, .inr rfl⟩
    · cases h
theorem make_map : MapOk (makeG l m r s b0 b1 b2 b3 W G x) (makeG l m r s b0 b1 b2 b3 W G x).length := by
  have hst : (makeG l m r s b0 b1 b2 b3 W G x).map (·.2.2) = List.range (makeG l m r s b0 b1 b2 b3 W G x).length := by
    unfold makeG
    rw [List.map_append, out_stamps, ← List.range_eq_range']
    split
    · simp only [List.map_cons, List.map_nil, List.length_append, List.length_cons, List.length_nil]
      rw [Nat.zero_add, List.range_succ]
    · simp
  have hkn : ((x.map keyI).filter (inB4 b0 b1 b2 b3)).Nodup := ((hx.map keyI).nodup_iff.2 (by rw [keys_mV]; exact hW.ks)).filter _
  have hks : (keysG (makeG l m r s b0 b1 b2 b3 W G x)).Nodup := by
    unfold makeG keysG
    rw [List.map_append]
    have e := out_keys (b0 := b0) (b1 := b1) (b2 := b2) (b3 := b3) x 0
    unfold keysG at e
    rw [e]
    split
    · rw [List.nodup_append]
      refine ⟨hkn, by simp, fun a ha b hb e => ?_⟩
      simp only [List.map_cons, List.map_nil, List.mem_cons, List.not_mem_nil, or_false] at hb
      subst hb; subst e
      obtain ⟨z, hz, e⟩ := List.mem_map.1 (List.mem_filter.1 ha).1
      have h := x_keys hm hp hW hx z hz
      rw [e] at h
      exact par_notin hm hp h
    · simp only [List.map_nil, List.append_nil]; exact hkn
  have hlen : (makeG l m r s b0 b1 b2 b3 W G x).length ≤ 4 := by
    have h1 := nodup_sub_len (k := dataL m (pz l m r s) ++ [pz l m r s]) hks fun a ha => by
      obtain ⟨z, hz, rfl⟩ := List.mem_map.1 ha
      rcases (make_mem hm hp hW hx z hz).2 with ⟨e, he, h2⟩ | h2
      · rw [← h2]; exact List.mem_append_left _ (x_keys hm hp hW hx e he)
      · rw [h2]; exact List.mem_append_right _ (List.mem_singleton.2 rfl)
    rw [keysG, List.length_map, List.length_append, dataL_len] at h1
    simp only [List.length_cons, List.length_nil] at h1
    omega
  refine ⟨fun y hy => ?_, by rw [hst]; exact List.nodup_range, hks, by omega⟩
  have : y.2.2 ∈ (makeG l m r s b0 b1 b2 b3 W G x).map (·.2.2) := List.mem_map.2 ⟨y, hy, rfl⟩
  rw [hst] at this
  exact List.mem_range.1 this
end
theorem cp_length : ∀ (v : EnL) (i : Nat), (outG true true true true i v).length = v.length
  | [], _ => rfl
  | e :: v, i => by simp only [outG]; rw [if_pos (in4_t _), List.length_cons, List.length_cons, cp_length v (i + 1)]
theorem same_of {A B : List (Int × List Nat × Nat)} (hl : A.length = B.length) (hn : (keysG B).Nodup) (h : ∀ y ∈ A, ∃ i, (y.1, y.2.1, i) ∈ B) : SameG A B := ⟨hl, fun y hy => by
  obtain ⟨i, hi⟩ := h y hy
  exact ⟨has_iff.2 (List.mem_map.2 ⟨_, hi, rfl⟩), look_mem (y := (y.1, y.2.1, i)) hn hi⟩⟩
theorem same_cp {L : List (Int × List Nat × Nat)} (hn : (keysG L).Nodup) {v : EnL} (hv : v.Perm (mV L)) : SameG L (cpG v) :=
  same_of (by rw [cp_length, hv.length_eq, mV_length]) ((cp_keys hv).nodup_iff.2 hn) fun y hy => out_mem (e := ((.int .i64 y.1, .str y.2.1, y.2.2) : En)) (in4_t _) (hv.mem_iff.2 (mem_mV hy))
theorem out_from {b0 b1 b2 b3 : Bool} : ∀ {v : EnL} {i : Nat}, ∀ y ∈ outG b0 b1 b2 b3 i v, ∃ e ∈ v, keyI e = y.1 ∧ valI e = y.2.1
  | [], _, _, h => by cases h
  | a :: v, i, y, h => by
    simp only [outG] at h
    split at h
    · rcases List.mem_cons.1 h with rfl | h
      · exact ⟨a, List.mem_cons_self, rfl, rfl⟩
      · obtain ⟨e, he, h2⟩ := out_from y h
        exact ⟨e, List.mem_cons_of_mem _ he, h2⟩
    · obtain ⟨e, he, h2⟩ := out_from y h
      exact ⟨e, List.mem_cons_of_mem _ he, h2⟩
theorem out_len {b0 b1 b2 b3 : Bool} {v u : EnL} (h : v.Perm u) : (outG b0 b1 b2 b3 0 v).length = (outG b0 b1 b2 b3 0 u).length := by
  have e1 := congrArg List.length (out_keys (b0 := b0) (b1 := b1) (b2 := b2) (b3 := b3) v 0)
  have e2 := congrArg List.length (out_keys (b0 := b0) (b1 := b1) (b2 := b2) (b3 := b3) u 0)
  rw [keysG, List.length_map] at e1 e2
  rw [e1, e2]
  exact ((h.map keyI).filter _).length_eq
theorem same_make {l m r s : Int} {b0 b1 b2 b3 : Bool} (hm : m = 2 ∨ m = 3 ∨ m = 4) (hp : 0 ≤ pz l m r s ∧ pz l m r s < m) {W G : List (Int × List Nat × Nat)} (hW : WrOk m (pz l m r s) W) {x y : EnL} (hx : x.Perm (mV W)) (hy : y.Perm (mV W)) : SameG (makeG l m r s b0 b1 b2 b3 W G x) (makeG l m r s b0 b1 b2 b3 W G y) := by
  have hl := out_len (b0 := b0) (b1 := b1) (b2 := b2) (b3 := b3) (hx.trans hy.symm)
  refine same_of ?_ (make_map (b0 := b0) (b1 := b1) (b2 := b2) (b3 := b3) (G := G) hm hp hW hy).ks fun z hz => ?_
  · unfold makeG
    rw [List.length_append, List.length_append, hl]
  · unfold makeG at hz ⊢
    rcases List.mem_append.1 hz with h | h
    · obtain ⟨e, he, h1, h2⟩ := out_from z h
      obtain ⟨j, hj⟩ := out_mem (b0 := b0) (b1 := b1) (b2 := b2) (b3 := b3) (e := e) (by rw [h1]; exact out_key_in z h) (i := 0) (hy.mem_iff.2 (hx.mem_iff.1 he))
      rw [h1, h2] at hj
      exact ⟨j, List.mem_append_left _ hj⟩
    · split at h
      · rename_i hi
        rw [if_pos hi]
        simp only [List.mem_cons, List.not_mem_nil, or_false] at h
        subst h
        exact ⟨_, List.mem_append_right _ (List.mem_singleton.2 rfl)⟩
      · cases h
end Go.Proofs.Ytjikaankdnmabaa
