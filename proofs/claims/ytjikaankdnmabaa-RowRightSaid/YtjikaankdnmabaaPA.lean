/- The plain law: sums, rows, writes. No condition. -/
import Derived.Test.YtjikaankdnmabaaMJ
namespace Go.Proofs.Ytjikaankdnmabaa
open Go Go.AM
set_option maxRecDepth 100000
set_option maxHeartbeats 4000000
set_option linter.unusedVariables false
set_option linter.unusedSectionVars false
def xrL : List Nat → Nat
  | [] => 0
  | b :: l => b ^^^ xrL l
theorem xrL_app : ∀ a b : List Nat, xrL (a ++ b) = xrL a ^^^ xrL b
  | [], b => (Nat.zero_xor _).symm
  | x :: a, b => by rw [List.cons_append, xrL, xrL, xrL_app a b, Nat.xor_assoc]
theorem xrL_perm {a b : List Nat} (h : a.Perm b) : xrL a = xrL b := by
  induction h with
  | nil => rfl
  | cons x _ ih => rw [xrL, xrL, ih]
  | swap x y l => rw [xrL, xrL, xrL, xrL, ← Nat.xor_assoc, ← Nat.xor_assoc, Nat.xor_comm y x]
  | trans _ _ h1 h2 => exact h1.trans h2
theorem xor_lt {a b : Nat} (ha : a < 256) (hb : b < 256) : a ^^^ b < 256 := Nat.xor_lt_two_pow (n := 8) ha hb
theorem xrL_lt : ∀ {l : List Nat}, (∀ b ∈ l, b < 256) → xrL l < 256
  | [], _ => by decide
  | x :: l, h => xor_lt (h x List.mem_cons_self) (xrL_lt fun b hb => h b (List.mem_cons_of_mem _ hb))
theorem xz {a b : Nat} (h : a ^^^ b = 0) : b = a := by
  have : a ^^^ (a ^^^ b) = b := by rw [← Nat.xor_assoc, Nat.xor_self, Nat.zero_xor]
  rw [h, Nat.xor_zero] at this
  exact this.symm
def byX (i : Nat) (g : List Nat) : Nat := g.getD i 0
def Sec (g : List Nat) : Prop := g.length = 64 ∧ ∀ b ∈ g, b < 256
theorem byX_lt {g : List Nat} (h : ∀ b ∈ g, b < 256) (i : Nat) : byX i g < 256 := by
  unfold byX
  rw [List.getD_eq_getElem?_getD]
  cases e : g[i]? with
  | none => decide
  | some v => exact h v (List.mem_iff_getElem?.2 ⟨i, e⟩)
theorem accB_xr : ∀ (l : List Nat) (a : Nat), a < 256 → (∀ b ∈ l, b < 256) → accB a l = a ^^^ xrL l
  | [], a, _, _ => (Nat.xor_zero a).symm
  | b :: l, a, ha, h => by
    have hb := h b List.mem_cons_self
    have hx := xor_lt ha hb
    rw [accB, Nat.mod_eq_of_lt ha, Nat.mod_eq_of_lt hb, Nat.mod_eq_of_lt hx, accB_xr l _ hx (fun c hc => h c (List.mem_cons_of_mem _ hc)), xrL, Nat.xor_assoc]
theorem sumG_by {gs : List (List Nat)} (h : ∀ g ∈ gs, ∀ b ∈ g, b < 256) {i : Nat} (hi : i < 64) : byX i (sumG gs) = xrL (gs.map (byX i)) := by
  have hb : ∀ b ∈ gs.map (fun g => g.getD i 0), b < 256 := fun b hb => by obtain ⟨g, hg, rfl⟩ := List.mem_map.1 hb; exact byX_lt (h g hg) i
  unfold byX sumG
  rw [List.getD_eq_getElem?_getD, List.getElem?_map, List.getElem?_range hi]
  simp only [Option.map_some, Option.getD_some]
  rw [accB_xr _ 0 (by decide) hb, Nat.zero_xor, Nat.mod_eq_of_lt (xrL_lt hb)]
theorem sumG_sec (gs : List (List Nat)) : Sec (sumG gs) := by
  constructor
  · unfold sumG; rw [List.length_map, List.length_range]
  · intro b hb
    unfold sumG at hb
    obtain ⟨i, _, rfl⟩ := List.mem_map.1 hb
    exact Nat.mod_lt _ (by decide)
theorem sec_ext {a b : List Nat} (ha : Sec a) (hb : Sec b) (h : ∀ i, i < 64 → byX i a = byX i b) : a = b := by
  apply List.ext_getElem (by rw [ha.1, hb.1])
  intro i h1 h2
  have := h i (by rw [← ha.1]; exact h1)
  unfold byX at this
  rw [List.getD_eq_getElem?_getD, List.getD_eq_getElem?_getD, List.getElem?_eq_getElem h1, List.getElem?_eq_getElem h2] at this
  exact this
theorem rest_perm {m : Nat} (hm : m = 2 ∨ m = 3 ∨ m = 4) {x : Nat} (hx : x < m) : (List.range m).Perm (x :: (List.range m).filter fun k => !Nat.beq k x) := by
  have hxx : x = 0 ∨ x = 1 ∨ x = 2 ∨ x = 3 := by omega
  rcases hm with rfl | rfl | rfl <;> rcases hxx with rfl | rfl | rfl | rfl <;> first | omega | decide
theorem readL_sum {m : Nat} (hm : m = 2 ∨ m = 3 ∨ m = 4) {x : Nat} (hx : x < m) (bs : List Bool) (f : Int → Nat) (h0 : xrL ((List.range m).map fun y : Nat => f ((y : Nat) : Int)) = 0) : xrL ((readL m bs x).map f) = f ((x : Nat) : Int) := by
  unfold readL
  split
  · simp only [List.map_cons, List.map_nil, xrL, Nat.xor_zero]
  · have h1 := xrL_perm ((rest_perm hm hx).map fun y : Nat => f ((y : Nat) : Int))
    rw [h0, List.map_cons, xrL] at h1
    rw [List.map_map]
    exact xz h1.symm
theorem look_byF (F : Int → List Nat) {y : Int} : ∀ {xs : List Int} {i : Nat}, y ∈ xs → lookG (byF F i xs) y = F y
  | [], _, h => by cases h
  | x :: xs, i, h => by
    simp only [byF, lookG]
    by_cases e : y = x
    · rw [if_pos e, e]
    · rw [if_neg e]
      exact look_byF F ((List.mem_cons.1 h).resolve_left e)
theorem keys_byF (F : Int → List Nat) : ∀ (xs : List Int) (i : Nat), keysG (byF F i xs) = xs
  | [], _ => rfl
  | x :: xs, i => by
    have := keys_byF F xs (i + 1)
    simp only [keysG] at this
    simp only [byF, keysG, List.map_cons, this]
theorem tell_of {l m r s : Int} {b0 b1 b2 b3 : Bool} (hmay : mayE l m r s b0 b1 b2 b3 = 0) {F G : Int → List Nat} (hs : ∀ y : Int, 0 ≤ y → y < m → Sec (G y)) (h0 : ∀ i, i < 64 → xrL ((List.range m.toNat).map fun y : Nat => byX i (G ((y : Nat) : Int))) = 0)
    (heq : ∀ y : Int, 0 ≤ y → y < m → inB4 b0 b1 b2 b3 y = true → F y = G y) : TellOk l m r s b0 b1 b2 b3 F G := by
  intro x hx
  obtain ⟨hmm, _⟩ := may_mp hmay
  have ho := outs_le hmay
  obtain ⟨_, _, hy⟩ := readL_good hmm ho hx
  have hrange : ∀ y ∈ rdX m b0 b1 b2 b3 x, y < m := fun y h => by
    unfold rdX readL at h
    split at h
    · simp only [List.mem_cons, List.not_mem_nil, or_false] at h; subst h; exact hx
    · obtain ⟨k, hk, rfl⟩ := List.mem_map.1 h
      have := List.mem_range.1 (List.mem_filter.1 hk).1
      omega
  have hF : ∀ y ∈ rdX m b0 b1 b2 b3 x, lookG (byF F 0 (rdX m b0 b1 b2 b3 x)) y = G y := fun y h => by
    rw [look_byF F h]
    exact heq y (hy y h).1 (hrange y h) (hy y h).2.2
  rw [valF_in hmay (by omega) hx]
  show valX (rdX m b0 b1 b2 b3 x) _ = _
  unfold valX
  rw [if_pos (fun y h => by rw [hF y h]; exact (hs y (hy y h).1 (hrange y h)).1), List.map_congr_left hF]
  have hsec : ∀ g ∈ (rdX m b0 b1 b2 b3 x).map G, ∀ b ∈ g, b < 256 := fun g hg => by
    obtain ⟨y, h, rfl⟩ := List.mem_map.1 hg
    exact (hs y (hy y h).1 (hrange y h)).2
  have e : sumG ((rdX m b0 b1 b2 b3 x).map G) = G ((x : Nat) : Int) := sec_ext (sumG_sec _) (hs _ (by omega) hx) fun i hi => by
    rw [sumG_by hsec hi, List.map_map]
    exact readL_sum (by omega) (by omega) _ (fun y => byX i (G y)) (h0 i hi)
  rw [e]
theorem data_perm {m p : Int} (hm : m = 2 ∨ m = 3 ∨ m = 4) (hp : 0 ≤ p ∧ p < m) : (dataL m p ++ [p]).Perm ((List.range m.toNat).map fun k : Nat => ((k : Nat) : Int)) := by
  have hpp : p = 0 ∨ p = 1 ∨ p = 2 ∨ p = 3 := by omega
  rcases hm with rfl | rfl | rfl <;> rcases hpp with rfl | rfl | rfl | rfl <;> first | omega | decide
theorem total_of {m p : Int} (hm : m = 2 ∨ m = 3 ∨ m = 4) (hp : 0 ≤ p ∧ p < m) {f : Int → Nat} (h : f p = xrL ((dataL m p).map f)) : xrL ((List.range m.toNat).map fun y : Nat => f ((y : Nat) : Int)) = 0 := by
  have h1 := xrL_perm ((data_perm hm hp).map f)
  rw [List.map_append, xrL_app, List.map_map] at h1
  refine Eq.trans h1.symm ?_
  rw [List.map_cons, List.map_nil, xrL, xrL, Nat.xor_zero, h, Nat.xor_self]
theorem mem_of_range {m p : Int} (hm : m = 2 ∨ m = 3 ∨ m = 4) (hp : 0 ≤ p ∧ p < m) {y : Int} (h0 : 0 ≤ y) (h1 : y < m) : y ∈ dataL m p ∨ y = p := by
  have h : y ∈ (List.range m.toNat).map fun k : Nat => ((k : Nat) : Int) := List.mem_map.2 ⟨y.toNat, List.mem_range.2 (by omega), by omega⟩
  rcases List.mem_append.1 ((data_perm hm hp).mem_iff.2 h) with h | h
  · exact .inl h
  · exact .inr (List.mem_singleton.1 h)
theorem look_mem : ∀ {L : List (Int × List Nat × Nat)}, (keysG L).Nodup → ∀ {y}, y ∈ L → lookG L y.1 = y.2.1
  | [], _, _, h => by cases h
  | (n, g, t) :: L, hn, y, h => by
    simp only [keysG, List.map_cons, List.nodup_cons] at hn
    rcases List.mem_cons.1 h with rfl | h
    · simp only [lookG, if_true]
    · have : y.1 ≠ n := fun e => hn.1 (by rw [← e]; exact List.mem_map.2 ⟨y, h, rfl⟩)
      simp only [lookG, this, if_false]
      exact look_mem hn.2 h
theorem look_app : ∀ {L : List (Int × List Nat × Nat)} {y : Int} {L2 : List (Int × List Nat × Nat)}, y ∈ keysG L → lookG (L ++ L2) y = lookG L y
  | [], _, _, h => by cases h
  | (n, g, t) :: L, y, L2, h => by
    simp only [List.cons_append, lookG]
    by_cases e : y = n
    · rw [if_pos e, if_pos e]
    · rw [if_neg e, if_neg e]
      simp only [keysG, List.map_cons, List.mem_cons] at h
      exact look_app (h.resolve_left e)
theorem look_app2 : ∀ {L : List (Int × List Nat × Nat)} {y : Int} {L2 : List (Int × List Nat × Nat)}, y ∉ keysG L → lookG (L ++ L2) y = lookG L2 y
  | [], _, _, _ => rfl
  | (n, g, t) :: L, y, L2, h => by
    simp only [keysG, List.map_cons, List.mem_cons, not_or] at h
    simp only [List.cons_append, lookG, h.1, if_false]
    exact look_app2 h.2
theorem keys_byI (t : Nat → List Nat) : ∀ (ys : List Int) (i : Nat), keysG (byI t i ys) = ys
  | [], _ => rfl
  | y :: ys, i => by
    have := keys_byI t ys (i + 1)
    simp only [keysG] at this
    simp only [byI, keysG, List.map_cons, this]
theorem texts_byI (t : Nat → List Nat) : ∀ (ys : List Int) (i : Nat), (byI t i ys).map (·.2.1) = (List.range' i ys.length).map fun k => cutT (t k)
  | [], _ => rfl
  | y :: ys, i => by
    rw [byI, List.map_cons, texts_byI t ys (i + 1), List.length_cons, List.range'_succ, List.map_cons]
theorem stamps_byI (t : Nat → List Nat) : ∀ (ys : List Int) (i : Nat), (byI t i ys).map (·.2.2) = List.range' i ys.length
  | [], _ => rfl
  | y :: ys, i => by rw [byI, List.map_cons, stamps_byI t ys (i + 1), List.length_cons, List.range'_succ]
structure RowOk (m p : Int) (M : List (Int × List Nat × Nat)) : Prop where
  sec : ∀ y : Int, 0 ≤ y → y < m → Sec (lookG M y)
  par : ∀ i, i < 64 → byX i (lookG M p) = xrL ((dataL m p).map fun y => byX i (lookG M y))
theorem cut_sec {t : List Nat} (h : ∀ b ∈ t, b < 256) : Sec (cutT t) := by
  refine ⟨cut_len t, fun b hb => ?_⟩
  unfold cutT at hb
  rcases List.mem_append.1 (List.mem_of_mem_take hb) with hb | hb
  · exact h b hb
  · rw [zr_eq] at hb
    rw [(List.mem_replicate.1 hb).2]; decide
theorem par_notin {m p : Int} (hm : m = 2 ∨ m = 3 ∨ m = 4) (hp : 0 ≤ p ∧ p < m) : p ∉ dataL m p := fun h => (dataL_mem hm hp h).2.2 rfl
theorem made_keys (m p : Int) (t : Nat → List Nat) : keysG (madeL m p t) = dataL m p ++ [p] := by
  unfold madeL keysG
  rw [List.map_append]
  have := keys_byI t (dataL m p) 0
  unfold keysG at this
  rw [this]; rfl
theorem made_nodup {m p : Int} (hm : m = 2 ∨ m = 3 ∨ m = 4) (hp : 0 ≤ p ∧ p < m) (t : Nat → List Nat) : (keysG (madeL m p t)).Nodup := by
  rw [made_keys, List.nodup_append]
  refine ⟨dataL_nodup hm hp, by simp, fun a ha b hb e => ?_⟩
  simp only [List.mem_cons, List.not_mem_nil, or_false] at hb
  subst hb; subst e
  exact par_notin hm hp ha
theorem made_ok {m p : Int} (hm : m = 2 ∨ m = 3 ∨ m = 4) (hp : 0 ≤ p ∧ p < m) {t : Nat → List Nat} (ht : ∀ i, ∀ b ∈ t i, b < 256) : RowOk m p (madeL m p t) := by
  have hn := made_nodup hm hp t
  have hlen : (dataL m p).length = (m - 1).toNat := dataL_len m p
  have hdata : ∀ e ∈ byI t 0 (dataL m p), lookG (madeL m p t) e.1 = e.2.1 := fun e he => look_mem hn (List.mem_append_left _ he)
  have hpar : lookG (madeL m p t) p = sumG ((List.range (m - 1).toNat).map fun i => cutT (t i)) := look_mem hn (y := (p, sumG ((List.range (m - 1).toNat).map fun i => cutT (t i)), (m - 1).toNat)) (List.mem_append_right _ (List.mem_singleton.2 rfl))
  have hmap : (dataL m p).map (lookG (madeL m p t)) = (List.range (m - 1).toNat).map fun i => cutT (t i) := by
    have h1 := keys_byI t (dataL m p) 0
    have h2 := texts_byI t (dataL m p) 0
    unfold keysG at h1
    rw [hlen, ← List.range_eq_range'] at h2
    rw [← h2]
    conv => lhs; rw [← h1]
    rw [List.map_map]
    exact List.map_congr_left hdata
  constructor
  · intro y h0 h1
    rcases mem_of_range hm hp h0 h1 with h | h
    · have : lookG (madeL m p t) y ∈ (List.range (m - 1).toNat).map fun i => cutT (t i) := by rw [← hmap]; exact List.mem_map.2 ⟨y, h, rfl⟩
      obtain ⟨i, _, e⟩ := List.mem_map.1 this
      rw [← e]; exact cut_sec (ht i)
    · rw [h, hpar]; exact sumG_sec _
  · intro i hi
    rw [hpar, sumG_by (fun g hg => by obtain ⟨k, _, rfl⟩ := List.mem_map.1 hg; exact (cut_sec (ht k)).2) hi, ← hmap, List.map_map]
    rfl
theorem made_map {m p : Int} (hm : m = 2 ∨ m = 3 ∨ m = 4) (hp : 0 ≤ p ∧ p < m) (t : Nat → List Nat) {n : Nat} (hn : m = ((n : Nat) : Int)) : MapOk (madeL m p t) n := by
  have hlen : (dataL m p).length = (m - 1).toNat := dataL_len m p
  have hst : (madeL m p t).map (·.2.2) = List.range n := by
    unfold madeL
    rw [List.map_append, stamps_byI, hlen, show n = (m - 1).toNat + 1 by omega, List.range_succ, List.range_eq_range']
    rfl
  have hl : (madeL m p t).length = n := by have := congrArg List.length hst; rw [List.length_map, List.length_range] at this; exact this
  refine ⟨fun y hy => ?_, ?_, made_nodup hm hp t, by omega⟩
  · have : y.2.2 ∈ (madeL m p t).map (·.2.2) := List.mem_map.2 ⟨y, hy, rfl⟩
    rw [hst] at this
    exact List.mem_range.1 this
  · rw [hst]; exact List.nodup_range
theorem wr_stamps (k : Int) (tx : Nat → List Nat) (ys : List Int) : ∀ i, (wrL k tx ys i).map (·.2.2) = List.range (wrL k tx ys i).length
  | 0 => rfl
  | i + 1 => by
    have ih := wr_stamps k tx ys i
    simp only [wrL]
    split
    · rw [List.map_append, ih, List.length_append]
      simp only [List.map_cons, List.map_nil, List.length_cons, List.length_nil]
      rw [Nat.zero_add, List.range_succ]
    · exact ih
theorem wr_nodup (k : Int) (tx : Nat → List Nat) {ys : List Int} (hn : ys.Nodup) : ∀ i, i ≤ ys.length → (keysG (wrL k tx ys i)).Nodup
  | 0, _ => List.nodup_nil
  | i + 1, hi => by
    have ih := wr_nodup k tx hn i (by omega)
    simp only [wrL]
    split
    · unfold keysG at ih ⊢
      rw [List.map_append, List.nodup_append]
      refine ⟨ih, by simp, fun a ha b hb e => ?_⟩
      simp only [List.map_cons, List.map_nil, List.mem_cons, List.not_mem_nil, or_false] at hb
      subst hb; subst e
      obtain ⟨y, hy, e⟩ := List.mem_map.1 ha
      obtain ⟨j, hj, e2⟩ := wrL_key k tx ys i y hy
      have h1 : ys[j]? = some (ys.getD i 0) := by
        rw [List.getElem?_eq_getElem (show j < ys.length by omega)]
        rw [List.getD_eq_getElem?_getD, List.getElem?_eq_getElem (show j < ys.length by omega)] at e2
        rw [← e, e2]; rfl
      have h2 : ys[i]? = some (ys.getD i 0) := by
        rw [List.getD_eq_getElem?_getD, List.getElem?_eq_getElem (show i < ys.length by omega)]; rfl
      have := (List.getElem?_inj (show j < ys.length by omega) hn).1 (h1.trans h2.symm)
      omega
    · exact ih
theorem wr_mem (k : Int) (tx : Nat → List Nat) (ys : List Int) : ∀ i, i ≤ ys.length → ∀ y ∈ wrL k tx ys i, y.1 ∈ ys ∧ ∃ j, y.2.1 = cutT (tx j)
  | 0, _, _, h => by cases h
  | i + 1, hi, y, h => by
    simp only [wrL] at h
    split at h
    · rcases List.mem_append.1 h with h | h
      · exact wr_mem k tx ys i (by omega) y h
      · simp only [List.mem_cons, List.not_mem_nil, or_false] at h
        subst h
        refine ⟨?_, i, rfl⟩
        show ys.getD i 0 ∈ ys
        rw [List.getD_eq_getElem?_getD, List.getElem?_eq_getElem (show i < ys.length by omega)]
        exact List.getElem_mem _
    · exact wr_mem k tx ys i (by omega) y h
structure WrOk (m p : Int) (W : List (Int × List Nat × Nat)) : Prop where
  ks : (keysG W).Nodup
  sub : ∀ y ∈ W, y.1 ∈ dataL m p
  sec : ∀ y ∈ W, Sec y.2.1
theorem wr_len {m p : Int} (hm : m = 2 ∨ m = 3 ∨ m = 4) (hp : 0 ≤ p ∧ p < m) {W : List (Int × List Nat × Nat)} (h : WrOk m p W) : W.length ≤ 3 := by
  have h1 := nodup_sub_len (l := keysG W) (k := dataL m p) h.ks fun x hx => by obtain ⟨y, hy, rfl⟩ := List.mem_map.1 hx; exact h.sub y hy
  rw [keysG, List.length_map, dataL_len] at h1
  omega
theorem wr_ok {m p : Int} (hm : m = 2 ∨ m = 3 ∨ m = 4) (hp : 0 ≤ p ∧ p < m) (k : Int) {tx : Nat → List Nat} (ht : ∀ i, ∀ b ∈ tx i, b < 256) {j : Nat} (hj : (dataL m p).length = j) : WrOk m p (wrL k tx (dataL m p) j) := by
  subst hj
  refine ⟨wr_nodup k tx (dataL_nodup hm hp) _ (Nat.le_refl _), fun y h => (wr_mem k tx _ _ (Nat.le_refl _) y h).1, fun y h => ?_⟩
  obtain ⟨_, i, e⟩ := wr_mem k tx _ _ (Nat.le_refl _) y h
  rw [e]; exact cut_sec (ht i)
theorem wr_map {m p : Int} (hm : m = 2 ∨ m = 3 ∨ m = 4) (hp : 0 ≤ p ∧ p < m) {W : List (Int × List Nat × Nat)} (h : WrOk m p W) (hs : W.map (·.2.2) = List.range W.length) : MapOk W W.length := by
  refine ⟨fun y hy => ?_, ?_, h.ks, by have := wr_len hm hp h; omega⟩
  · have : y.2.2 ∈ W.map (·.2.2) := List.mem_map.2 ⟨y, hy, rfl⟩
    rw [hs] at this
    exact List.mem_range.1 this
  · rw [hs]; exact List.nodup_range
theorem has_iff {W : List (Int × List Nat × Nat)} {y : Int} : hasG W y = true ↔ y ∈ keysG W := by
  constructor
  · induction W with
    | nil => intro h; cases h
    | cons a W ih =>
      intro h
      simp only [hasG, Bool.or_eq_true, decide_eq_true_eq] at h
      simp only [keysG, List.map_cons, List.mem_cons]
      rcases h with h | h
      · exact .inl h
      · exact .inr (ih h)
  · exact hasG_of_key
theorem want_sec {m p : Int} {M W : List (Int × List Nat × Nat)} (hM : RowOk m p M) (hW : WrOk m p W) {y : Int} (h0 : 0 ≤ y) (h1 : y < m) : Sec (wantF M W y) := by
  unfold wantF
  split
  · rename_i h
    obtain ⟨e, he, rfl⟩ := List.mem_map.1 (has_iff.1 h)
    rw [look_mem hW.ks he]; exact hW.sec e he
  · exact hM.sec y h0 h1
noncomputable def smF (F : Int → List Nat) (l : List Int) : List Nat := l.foldl (fun s y => sumG [s, F y]) zr
theorem smF_app (F : Int → List Nat) (l : List Int) (y : Int) : smF F (l ++ [y]) = sumG [smF F l, F y] := by unfold smF; rw [List.foldl_append]; rfl
theorem zr_sec : Sec zr := ⟨zr_len, fun b hb => by rw [zr_eq] at hb; rw [(List.mem_replicate.1 hb).2]; decide⟩
theorem fold_sec (F : Int → List Nat) : ∀ (l : List Int) (s : List Nat), Sec s → Sec (l.foldl (fun s y => sumG [s, F y]) s)
  | [], _, h => h
  | y :: l, s, _ => fold_sec F l _ (sumG_sec _)
theorem fold_by (F : Int → List Nat) {i : Nat} (hi : i < 64) : ∀ (l : List Int) (s : List Nat), Sec s → (∀ y ∈ l, Sec (F y)) → byX i (l.foldl (fun s y => sumG [s, F y]) s) = byX i s ^^^ xrL (l.map fun y => byX i (F y))
  | [], s, _, _ => (Nat.xor_zero _).symm
  | y :: l, s, hs, h => by
    have hy := h y List.mem_cons_self
    rw [List.foldl_cons, fold_by F hi l _ (sumG_sec _) (fun z hz => h z (List.mem_cons_of_mem _ hz)), sumG_by (fun g hg => by
      simp only [List.mem_cons, List.not_mem_nil, or_false] at hg
      rcases hg with rfl | rfl
      · exact hs.2
      · exact hy.2) hi]
    simp only [List.map_cons, List.map_nil, xrL, Nat.xor_zero, Nat.xor_assoc]
theorem zr_by {i : Nat} (hi : i < 64) : byX i zr = 0 := by
  unfold byX
  rw [zr_eq, List.getD_eq_getElem?_getD, List.getElem?_replicate]
  rw [if_pos hi]; rfl
theorem smF_sec (F : Int → List Nat) (l : List Int) : Sec (smF F l) := fold_sec F l zr zr_sec
theorem smF_by (F : Int → List Nat) {i : Nat} (hi : i < 64) {l : List Int} (h : ∀ y ∈ l, Sec (F y)) : byX i (smF F l) = xrL (l.map fun y => byX i (F y)) := by
  unfold smF
  rw [fold_by F hi l zr zr_sec h, zr_by hi, Nat.zero_xor]
noncomputable def wantL (m p : Int) (M W : List (Int × List Nat × Nat)) (j : Nat) : List (Int × List Nat × Nat) := byF (wantF M W) 0 (dataL m p) ++ [(p, smF (wantF M W) (dataL m p), j)]
theorem want_at {m p : Int} {M W : List (Int × List Nat × Nat)} {j : Nat} {y : Int} (h : y ∈ dataL m p) : lookG (wantL m p M W j) y = wantF M W y := by
  unfold wantL
  rw [look_app (by rw [keys_byF]; exact h), look_byF _ h]
theorem want_par {m p : Int} (hm : m = 2 ∨ m = 3 ∨ m = 4) (hp : 0 ≤ p ∧ p < m) {M W : List (Int × List Nat × Nat)} {j : Nat} : lookG (wantL m p M W j) p = smF (wantF M W) (dataL m p) := by
  unfold wantL
  rw [look_app2 (by rw [keys_byF]; exact par_notin hm hp)]
  simp only [lookG, if_true]
theorem data_rng {m p : Int} (hm : m = 2 ∨ m = 3 ∨ m = 4) (hp : 0 ≤ p ∧ p < m) {y : Int} (h : y ∈ dataL m p) : 0 ≤ y ∧ y < m := ⟨(dataL_mem hm hp h).1, (dataL_mem hm hp h).2.1⟩
theorem want_ok {m p : Int} (hm : m = 2 ∨ m = 3 ∨ m = 4) (hp : 0 ≤ p ∧ p < m) {M W : List (Int × List Nat × Nat)} (hM : RowOk m p M) (hW : WrOk m p W) (j : Nat) : RowOk m p (wantL m p M W j) := by
  constructor
  · intro y h0 h1
    rcases mem_of_range hm hp h0 h1 with h | h
    · rw [want_at h]; exact want_sec hM hW h0 h1
    · rw [h, want_par hm hp]; exact smF_sec _ _
  · intro i hi
    rw [want_par hm hp, smF_by _ hi fun y h => want_sec hM hW (data_rng hm hp h).1 (data_rng hm hp h).2]
    exact congrArg xrL (List.map_congr_left fun y h => by rw [want_at h])
theorem keys_perm {m p : Int} (hm : m = 2 ∨ m = 3 ∨ m = 4) (hp : 0 ≤ p ∧ p < m) {W : List (Int × List Nat × Nat)} (hW : WrOk m p W) : (keysG W ++ restL W (dataL m p)).Perm (dataL m p) := by
  have h1 : ((dataL m p).filter (hasG W)).Perm (keysG W) := by
    refine (List.perm_ext_iff_of_nodup ((dataL_nodup hm hp).filter _) hW.ks).2 fun y => ?_
    rw [List.mem_filter, has_iff]
    exact ⟨fun h => h.2, fun h => ⟨by obtain ⟨e, he, rfl⟩ := List.mem_map.1 h; exact hW.sub e he, h⟩⟩
  exact (h1.symm.append_right _).trans (List.filter_append_perm (hasG W) (dataL m p))
theorem texts_look {W : List (Int × List Nat × Nat)} (hn : (keysG W).Nodup) : (keysG W).map (lookG W) = textsG W := by
  unfold keysG textsG
  rw [List.map_map]
  exact List.map_congr_left fun y hy => look_mem hn hy
theorem want_split {m p : Int} (hm : m = 2 ∨ m = 3 ∨ m = 4) (hp : 0 ≤ p ∧ p < m) {M W : List (Int × List Nat × Nat)} (hW : WrOk m p W) (i : Nat) :
    xrL ((textsG W).map (byX i)) ^^^ xrL ((restL W (dataL m p)).map fun y => byX i (lookG M y)) = xrL ((dataL m p).map fun y => byX i (wantF M W y)) := by
  rw [← xrL_perm ((keys_perm hm hp hW).map fun y => byX i (wantF M W y)), List.map_append, xrL_app, ← texts_look hW.ks, List.map_map]
  congr 2
  · exact List.map_congr_left fun y h => by
      show byX i (lookG W y) = byX i (wantF M W y)
      unfold wantF; rw [if_pos (has_iff.2 h)]
  · exact List.map_congr_left fun y h => by
      have hh := (List.mem_filter.1 h).2
      simp only [Bool.not_eq_true'] at hh
      unfold wantF; rw [if_neg (by rw [hh]; decide)]
theorem row_split {m p : Int} (hm : m = 2 ∨ m = 3 ∨ m = 4) (hp : 0 ≤ p ∧ p < m) {M W : List (Int × List Nat × Nat)} (hM : RowOk m p M) (hW : WrOk m p W) {i : Nat} (hi : i < 64) :
    xrL ((keysG W ++ [p]).map fun y => byX i (lookG M y)) = xrL ((restL W (dataL m p)).map fun y => byX i (lookG M y)) := by
  rw [List.map_append, xrL_app, List.map_cons, List.map_nil, xrL, xrL, Nat.xor_zero, hM.par i hi, ← xrL_perm ((keys_perm hm hp hW).map fun y => byX i (lookG M y)), List.map_append, xrL_app, ← Nat.xor_assoc, Nat.xor_self, Nat.zero_xor]
theorem sort_perm (l : List Int) : (sortI l).Perm l := List.mergeSort_perm _ _
theorem make_sum {l m r s : Int} {b0 b1 b2 b3 : Bool} (hm : m = 2 ∨ m = 3 ∨ m = 4) (hp : 0 ≤ pz l m r s ∧ pz l m r s < m) {M W : List (Int × List Nat × Nat)} (hM : RowOk m (pz l m r s) M) (hW : WrOk m (pz l m r s) W) (hin : inB4 b0 b1 b2 b3 (pz l m r s) = true)
    {G : List (Int × List Nat × Nat)} (hG : ∀ y ∈ needY l m r s b0 b1 b2 b3 W, lookG G y = lookG M y) : makeS l m r s b0 b1 b2 b3 W G = smF (wantF M W) (dataL m (pz l m r s)) := by
  unfold makeS
  rw [List.map_congr_left hG]
  have hmem : ∀ y ∈ needY l m r s b0 b1 b2 b3 W, 0 ≤ y ∧ y < m := fun y h => by
    unfold needY at h
    rw [if_neg (by rw [hin]; decide)] at h
    split at h
    · exact data_rng hm hp (List.mem_filter.1 (sortI_mem.1 h)).1
    · rcases List.mem_append.1 (sortI_mem.1 h) with h | h
      · obtain ⟨e, he, rfl⟩ := List.mem_map.1 h
        exact data_rng hm hp (hW.sub e he)
      · rw [List.mem_singleton.1 h]; exact hp
  refine sec_ext (sumG_sec _) (smF_sec _ _) fun i hi => ?_
  rw [smF_by _ hi fun y h => want_sec hM hW (data_rng hm hp h).1 (data_rng hm hp h).2, sumG_by (fun g hg => by
    rcases List.mem_append.1 hg with h | h
    · obtain ⟨e, he, rfl⟩ := List.mem_map.1 h; exact (hW.sec e he).2
    · obtain ⟨y, hy, rfl⟩ := List.mem_map.1 h; exact (hM.sec y (hmem y hy).1 (hmem y hy).2).2) hi, List.map_append, xrL_app, List.map_map, ← want_split hm hp hW i]
  congr 1
  show xrL ((needY l m r s b0 b1 b2 b3 W).map fun y => byX i (lookG M y)) = _
  unfold needY
  rw [if_neg (by rw [hin]; decide)]
  split
  · exact xrL_perm ((sort_perm _).map _)
  · rw [xrL_perm ((sort_perm _).map _)]
    exact row_split hm hp hM hW hi
abbrev cpG (v : EnL) : List (Int × List Nat × Nat) := outG true true true true 0 v
theorem in4_t (x : Int) : inB4 true true true true x = true := by
  unfold inB4
  repeat' split
  all_goals rfl
theorem cp_app (v : EnL) (e : En) : cpG (v ++ [e]) = cpG v ++ [(keyI e, valI e, (cpG v).length)] := by
  have h := outG_app true true true true e v 0
  rw [Nat.zero_add, if_pos (in4_t _)] at h
  exact h
theorem out_mem {b0 b1 b2 b3 : Bool} {e : En} (hin : inB4 b0 b1 b2 b3 (keyI e) = true) : ∀ {v : EnL} {i : Nat}, e ∈ v → ∃ j, (keyI e, valI e, j) ∈ outG b0 b1 b2 b3 i v
  | [], _, h => by cases h
  | a :: v, i, h => by
    simp only [outG]
    rcases List.mem_cons.1 h with rfl | h
    · rw [if_pos hin]; exact ⟨i, List.mem_cons_self⟩
    · split
      · obtain ⟨j, hj⟩ := out_mem hin (i := i + 1) h
        exact ⟨j, List.mem_cons_of_mem _ hj⟩
      · exact out_mem hin h
theorem out_key_in {b0 b1 b2 b3 : Bool} : ∀ {v : EnL} {i : Nat}, ∀ y ∈ outG b0 b1 b2 b3 i v, inB4 b0 b1 b2 b3 y.1 = true
  | [], _, _, h => by cases h
  | a :: v, i, y, h => by
    simp only [outG] at h
    split at h
    · rename_i hb
      rcases List.mem_cons.1 h with rfl | h
      · exact hb
      · exact out_key_in y h
    · exact out_key_in y h
theorem out_keys {b0 b1 b2 b3 : Bool} : ∀ (v : EnL) (i : Nat), keysG (outG b0 b1 b2 b3 i v) = (v.map keyI).filter (inB4 b0 b1 b2 b3)
  | [], _ => rfl
  | a :: v, i => by
    simp only [outG, List.map_cons, List.filter_cons]
    split
    · have := out_keys (b0 := b0) (b1 := b1) (b2 := b2) (b3 := b3) v (i + 1)
      simp only [keysG] at this
      simp only [keysG, List.map_cons, this]
    · exact out_keys v i
theorem out_stamps {b0 b1 b2 b3 : Bool} : ∀ (v : EnL) (i : Nat), (outG b0 b1 b2 b3 i v).map (·.2.2) = List.range' i (outG b0 b1 b2 b3 i v).length
  | [], _ => rfl
  | a :: v, i => by
    simp only [outG]
    split
    · rw [List.map_cons, out_stamps v (i + 1), List.length_cons, List.range'_succ]
    · exact out_stamps v i
theorem keys_mV : ∀ L : List (Int × List Nat × Nat), (mV L).map keyI = keysG L
  | [] => rfl
  | (n, g, t) :: L => by have := keys_mV L; simp only [keysG] at this; simp only [mV, keysG, List.map_cons, this]; rfl
theorem mem_mV {L : List (Int × List Nat × Nat)} {y : Int × List Nat × Nat} (h : y ∈ L) : ((.int .i64 y.1, .str y.2.1, y.2.2) : En) ∈ mV L := by
  induction L with
  | nil => cases h
  | cons a L ih =>
    rcases List.mem_cons.1 h with rfl | h
    · exact List.mem_cons_self
    · exact List.mem_cons_of_mem _ (ih h)
theorem cp_keys {L : List (Int × List Nat × Nat)} {v : EnL} (hv : v.Perm (mV L)) : (keysG (cpG v)).Perm (keysG L) := by
  rw [out_keys, List.filter_eq_self.2 fun a _ => in4_t a, ← keys_mV]
  exact hv.map keyI
theorem cp_look {L : List (Int × List Nat × Nat)} (hn : (keysG L).Nodup) {v : EnL} (hv : v.Perm (mV L)) {y : Int} (hy : y ∈ keysG L) : lookG (cpG v) y = lookG L y := by
  obtain ⟨e, he, rfl⟩ := List.mem_map.1 hy
  obtain ⟨j, hj⟩ := out_mem (e := ((.int .i64 e.1, .str e.2.1, e.2.2) : En)) (in4_t _) (i := 0) (hv.mem_iff.2 (mem_mV he))
  rw [look_mem hn he]
  have h := look_mem ((cp_keys hv).nodup_iff.2 hn) hj
  exact h
def putG (N : List (Int × List Nat × Nat)) (k : Int) (g : List Nat) : List (Int × List Nat × Nat) := N.map fun e => if e.1 = k then (k, g, e.2.2) else e
theorem put_keys (N : List (Int × List Nat × Nat)) (k : Int) (g : List Nat) : keysG (putG N k g) = keysG N := by
  unfold keysG putG
  rw [List.map_map]
  refine List.map_congr_left fun e _ => ?_
  show (if e.1 = k then (k, g, e.2.2) else e).1 = e.1
  split
  · rename_i h; exact h.symm
  · rfl
theorem put_self {N : List (Int × List Nat × Nat)} {k : Int} {g : List Nat} (h : k ∉ keysG N) : putG N k g = N := by
  induction N with
  | nil => rfl
  | cons a N ih =>
    simp only [keysG, List.map_cons, List.mem_cons, not_or] at h
    have := ih h.2
    simp only [putG] at this
    simp only [putG, List.map_cons, this, if_neg (fun e => h.1 (Eq.symm e))]
theorem put_look {k : Int} {g : List Nat} : ∀ {N : List (Int × List Nat × Nat)}, k ∈ keysG N → lookG (putG N k g) k = g
  | [], h => by cases h
  | (n, t, i) :: N, h => by
    by_cases e : n = k
    · subst e
      simp only [putG, List.map_cons, if_true, lookG]
    · simp only [keysG, List.map_cons, List.mem_cons] at h
      have ih := put_look (g := g) (h.resolve_left (fun x => e x.symm))
      simp only [putG] at ih
      simp only [putG, List.map_cons, if_neg e, lookG, if_neg (fun x : k = n => e x.symm), ih]
theorem put_look_ne {k y : Int} {g : List Nat} (hy : y ≠ k) : ∀ {N : List (Int × List Nat × Nat)}, lookG (putG N k g) y = lookG N y
  | [] => rfl
  | (n, t, i) :: N => by
    have ih := put_look_ne (g := g) hy (N := N)
    simp only [putG] at ih
    by_cases e : n = k
    · subst e
      simp only [putG, List.map_cons, if_true, lookG, if_neg hy, ih]
    · simp only [putG, List.map_cons, if_neg e, lookG, ih]
def puts (N : List (Int × List Nat × Nat)) (v : EnL) : List (Int × List Nat × Nat) := v.foldl (fun N e => putG N (keyI e) (valI e)) N
theorem puts_app (N : List (Int × List Nat × Nat)) (v : EnL) (e : En) : puts N (v ++ [e]) = putG (puts N v) (keyI e) (valI e) := by unfold puts; rw [List.foldl_append]; rfl
theorem puts_keys : ∀ (v : EnL) (N : List (Int × List Nat × Nat)), keysG (puts N v) = keysG N
  | [], _ => rfl
  | e :: v, N => (puts_keys v (putG N (keyI e) (valI e))).trans (put_keys _ _ _)
theorem puts_out {y : Int} : ∀ {v : EnL} {N : List (Int × List Nat × Nat)}, (∀ e ∈ v, keyI e ≠ y) → lookG (puts N v) y = lookG N y
  | [], _, _ => rfl
  | e :: v, N, h => (puts_out (v := v) fun z hz => h z (List.mem_cons_of_mem _ hz)).trans (put_look_ne fun x => h e List.mem_cons_self x.symm)
theorem puts_in {e : En} : ∀ {v : EnL} {N : List (Int × List Nat × Nat)}, (v.map keyI).Nodup → e ∈ v → keyI e ∈ keysG N → lookG (puts N v) (keyI e) = valI e
  | [], _, _, h, _ => by cases h
  | a :: v, N, hn, h, hk => by
    rw [List.map_cons, List.nodup_cons] at hn
    rcases List.mem_cons.1 h with rfl | h
    · exact (puts_out (v := v) fun z hz x => hn.1 (by rw [← x]; exact List.mem_map.2 ⟨z, hz, rfl⟩)).trans (put_look hk)
    · exact puts_in (v := v) hn.2 h (by rw [put_keys]; exact hk)
theorem find_put {k : Int} {g : List Nat} : ∀ {N : List (Int × List Nat × Nat)} (i : Nat), k ∈ keysG N → (keysG N).Nodup → ∃ (j : Nat) (v : V), findE (.one .int) (.int .i64 k) (mV N) i = some (some (i + j, v)) ∧ (mV N).modify j (fun e => (V.int .i64 k, V.str g, e.2.2)) = mV (putG N k g)
  | [], _, h, _ => by cases h
  | (n, t, x) :: N, i, h, hn => by
    have hk : keyEq (.one .int) (.int .i64 k) (.int .i64 n) = some (eqI k n) := rfl
    simp only [keysG, List.map_cons, List.nodup_cons] at hn
    by_cases e : k = n
    · subst e
      refine ⟨0, .str t, ?_, ?_⟩
      · simp only [mV, findE, hk, eqI_eq, decide_true, Nat.add_zero]
      · have hs := put_self (g := g) hn.1
        unfold putG at hs
        simp only [putG, List.map_cons, if_true, mV, List.modify_zero_cons, hs]
    · simp only [keysG, List.map_cons, List.mem_cons] at h
      obtain ⟨j, v, h1, h2⟩ := find_put (g := g) (i + 1) (h.resolve_left e) hn.2
      refine ⟨j + 1, v, ?_, ?_⟩
      · simp only [mV, findE, hk, eqI_eq, e, decide_false]
        rw [h1, show i + 1 + j = i + (j + 1) by omega]
      · unfold putG at h2
        simp only [putG, List.map_cons, if_neg (fun x : n = k => e x.symm), mV, List.modify_succ_cons, h2]
theorem mset_put {N : List (Int × List Nat × Nat)} {k : Int} {g : List Nat} {c : Nat} (hk : k ∈ keysG N) (hn : (keysG N).Nodup) : msetV (.one .int) (.int .i64 k) (.str g) (mV N) c = some (mV (putG N k g), c) := by
  have hf : findK (.one .int) (.int .i64 k) (mV N) = findE (.one .int) (.int .i64 k) (mV N) 0 := rfl
  obtain ⟨j, v, h1, h2⟩ := find_put (g := g) 0 hk hn
  unfold msetV
  rw [hf, h1, Nat.zero_add]
  simp only [h2]
theorem stamped_of {L : List (Int × List Nat × Nat)} {c : Nat} (h : MapOk L c) : Stamped (mV L) c := ⟨fun y hy => by obtain ⟨z, hz, rfl⟩ := mV_mem hy; exact h.lt z hz, by rw [mV_stamps]; exact h.st, by rw [mV_length]; exact rounds_big h.small⟩
section
variable {l m r s : Int} {b0 b1 b2 b3 : Bool} (hm : m = 2 ∨ m = 3 ∨ m = 4) (hp : 0 ≤ pz l m r s ∧ pz l m r s < m) {M W G : List (Int × List Nat × Nat)} (hM : RowOk m (pz l m r s) M) (hW : WrOk m (pz l m r s) W) {x : EnL} (hx : x.Perm (mV W))
include hm hp hW hx
theorem x_keys : ∀ e ∈ x, keyI e ∈ dataL m (pz l m r s) := fun e he => by
  obtain ⟨z, hz, rfl⟩ := mV_mem (hx.mem_iff.1 he)
  exact hW.sub z hz
theorem make_mem : ∀ z ∈ makeG l m r s b0 b1 b2 b3 W G x, inB4 b0 b1 b2 b3 z.1 = true ∧ ((∃ e ∈ x, keyI e = z.1) ∨ z.1 = pz l m r s) := fun z hz => by
  unfold makeG at hz
  rcases List.mem_append.1 hz with h | h
  · obtain ⟨e, he, h2⟩ := outG_key b0 b1 b2 b3 x 0 z h
    exact ⟨out_key_in z h, .inl ⟨e, he, h2⟩⟩
  · split at h
    · rename_i hi
      simp only [List.mem_cons, List.not_mem_nil, or_false] at h
      subst h
      exact ⟨hi, .inr rfl⟩
    · cases h
theorem make_map : MapOk (makeG l m r s b0 b1 b2 b3 W G x) (makeG l m r s b0 b1 b2 b3 W G x).length := by
  have hst : (makeG l m r s b0 b1 b2 b3 W G x).map (·.2.2) = List.range (makeG l m r s b0 b1 b2 b3 W G x).length := by
    unfold makeG
    rw [List.map_append, out_stamps, ← List.range_eq_range']
    split
    · simp only [List.map_cons, List.map_nil, List.length_append, List.length_cons, List.length_nil]
      rw [Nat.zero_add, List.range_succ]
    · simp
  have hkn : ((x.map keyI).filter (inB4 b0 b1 b2 b3)).Nodup := ((hx.map keyI).nodup_iff.2 (by rw [keys_mV]; exact hW.ks)).filter _
  have hks : (keysG (makeG l m r s b0 b1 b2 b3 W G x)).Nodup := by
    unfold makeG keysG
    rw [List.map_append]
    have e := out_keys (b0 := b0) (b1 := b1) (b2 := b2) (b3 := b3) x 0
    unfold keysG at e
    rw [e]
    split
    · rw [List.nodup_append]
      refine ⟨hkn, by simp, fun a ha b hb e => ?_⟩
      simp only [List.map_cons, List.map_nil, List.mem_cons, List.not_mem_nil, or_false] at hb
      subst hb; subst e
      obtain ⟨z, hz, e⟩ := List.mem_map.1 (List.mem_filter.1 ha).1
      have h := x_keys hm hp hW hx z hz
      rw [e] at h
      exact par_notin hm hp h
    · simp only [List.map_nil, List.append_nil]; exact hkn
  have hlen : (makeG l m r s b0 b1 b2 b3 W G x).length ≤ 4 := by
    have h1 := nodup_sub_len (k := dataL m (pz l m r s) ++ [pz l m r s]) hks fun a ha => by
      obtain ⟨z, hz, rfl⟩ := List.mem_map.1 ha
      rcases (make_mem hm hp hW hx z hz).2 with ⟨e, he, h2⟩ | h2
      · rw [← h2]; exact List.mem_append_left _ (x_keys hm hp hW hx e he)
      · rw [h2]; exact List.mem_append_right _ (List.mem_singleton.2 rfl)
    rw [keysG, List.length_map, List.length_append, dataL_len] at h1
    simp only [List.length_cons, List.length_nil] at h1
    omega
  refine ⟨fun y hy => ?_, by rw [hst]; exact List.nodup_range, hks, by omega⟩
  have : y.2.2 ∈ (makeG l m r s b0 b1 b2 b3 W G x).map (·.2.2) := List.mem_map.2 ⟨y, hy, rfl⟩
  rw [hst] at this
  exact List.mem_range.1 this
include hM
theorem now_look (hkM : (keysG M).Perm (dataL m (pz l m r s) ++ [pz l m r s])) (hnM : (keysG M).Nodup) (hG : ∀ y ∈ needY l m r s b0 b1 b2 b3 W, lookG G y = lookG M y) {x1 x2 : EnL} (hx1 : x1.Perm (mV M)) (hx2 : x2.Perm (mV (makeG l m r s b0 b1 b2 b3 W G x))) (j : Nat)
    {y : Int} (h0 : 0 ≤ y) (h1 : y < m) (hin : inB4 b0 b1 b2 b3 y = true) : lookG (puts (cpG x1) x2) y = lookG (wantL m (pz l m r s) M W j) y := by
  have hX := make_map (b0 := b0) (b1 := b1) (b2 := b2) (b3 := b3) (G := G) hm hp hW hx
  have hn2 : (x2.map keyI).Nodup := (hx2.map keyI).nodup_iff.2 (by rw [keys_mV]; exact hX.ks)
  have hyM : y ∈ keysG M := hkM.mem_iff.2 (List.mem_append.2 ((mem_of_range hm hp h0 h1).imp id fun h => List.mem_singleton.2 h))
  have hyc : y ∈ keysG (cpG x1) := (cp_keys hx1).mem_iff.2 hyM
  have put : ∀ {g : List Nat} {i : Nat}, (y, g, i) ∈ makeG l m r s b0 b1 b2 b3 W G x → lookG (puts (cpG x1) x2) y = g := fun {g i} h =>
    puts_in (e := ((.int .i64 y, .str g, i) : En)) hn2 (hx2.mem_iff.2 (mem_mV h)) hyc
  rcases mem_of_range hm hp h0 h1 with hd | rfl
  · rw [want_at hd]
    unfold wantF
    cases hh : hasG W y with
    | true =>
      rw [if_pos rfl]
      obtain ⟨e, he, rfl⟩ := List.mem_map.1 (has_iff.1 hh)
      obtain ⟨i, hi⟩ := out_mem (e := ((.int .i64 e.1, .str e.2.1, e.2.2) : En)) hin (i := 0) (hx.mem_iff.2 (mem_mV he))
      rw [look_mem hW.ks he]
      exact put (i := i) (List.mem_append_left _ hi)
    | false =>
      rw [if_neg (by decide), ← cp_look hnM hx1 hyM]
      refine puts_out fun e he hk => ?_
      obtain ⟨z, hz, rfl⟩ := mV_mem (hx2.mem_iff.1 he)
      have hk' : z.1 = y := hk
      rcases (make_mem hm hp hW hx z hz).2 with ⟨e, he, h2⟩ | h2
      · obtain ⟨w, hw, rfl⟩ := mV_mem (hx.mem_iff.1 he)
        have : y ∈ keysG W := List.mem_map.2 ⟨w, hw, (show w.1 = y from (show w.1 = z.1 from h2).trans hk')⟩
        rw [has_iff.2 this] at hh; cases hh
      · have e := hk'.symm.trans h2
        rw [e] at hd
        exact par_notin hm hp hd
  · rw [want_par hm hp, ← make_sum hm hp hM hW hin hG]
    refine put (i := (outG b0 b1 b2 b3 0 x).length) (List.mem_append_right _ ?_)
    rw [if_pos hin]
    exact List.mem_singleton.2 rfl
end
def bq (q : Int) (j n : Nat) : Bool := decide (j < n) && !decide (((j : Nat) : Int) = q)
theorem outs_bq {m : Int} (hm : m = 2 ∨ m = 3 ∨ m = 4) (q : Int) : outsF m (bq q 0 m.toNat) (bq q 1 m.toNat) (bq q 2 m.toNat) (bq q 3 m.toNat) ≤ 1 := by
  by_cases e0 : (0 : Int) = q
  · subst e0; rcases hm with rfl | rfl | rfl <;> decide
  · by_cases e1 : (1 : Int) = q
    · subst e1; rcases hm with rfl | rfl | rfl <;> decide
    · by_cases e2 : (2 : Int) = q
      · subst e2; rcases hm with rfl | rfl | rfl <;> decide
      · by_cases e3 : (3 : Int) = q
        · subst e3; rcases hm with rfl | rfl | rfl <;> decide
        · rcases hm with rfl | rfl | rfl <;> simp [outsF, bq, e0, e1, e2, e3]
theorem may_bq {l m r s : Int} (ho : roB l m r s = true) (hm : m = 2 ∨ m = 3 ∨ m = 4) (q : Int) : mayE l m r s (bq q 0 m.toNat) (bq q 1 m.toNat) (bq q 2 m.toNat) (bq q 3 m.toNat) = 0 := by
  rw [mayE_eq, if_pos ho, if_neg (by have := outs_bq hm q; omega)]
end Go.Proofs.Ytjikaankdnmabaa
