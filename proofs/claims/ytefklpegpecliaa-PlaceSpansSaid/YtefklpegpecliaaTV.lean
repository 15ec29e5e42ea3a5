/- The law by its cases. No condition. -/
import Derived.Test.YtefklpegpecliaaTR
import Derived.Test.YtefklpegpecliaaTJ
namespace Go.Proofs.Ytefklpegpecliaa
open Go Go.AM
set_option maxRecDepth 100000
set_option maxHeartbeats 0
set_option linter.unusedVariables false
theorem S20_n {l m r F n : Int} (h : ¬ (1 ≤ n ∧ 0 ≤ F ∧ F + n ≤ sz l m r)) : S20 [geo l m r, .int .i64 F, .int .i64 n] = some (.plain .nilslice) := if_neg h
theorem S20_y {l m r : Int} {F n : Nat} (h : 1 ≤ n) (h2 : ((F + n : Nat) : Int) ≤ sz l m r) : S20 [geo l m r, .int .i64 ((F : Nat) : Int), .int .i64 ((n : Nat) : Int)] = some (.new (.slice (rowsL l m r F n).length 1) none (.cells (iV (rowsL l m r F n ++ List.replicate (n - (rowsL l m r F n).length) 0)) false)) := if_pos ⟨by omega, by omega, by omega⟩
/-- Of a rising row, compact: strictly rising, of the same members. -/
theorem cut_inv (d : Array Int) (n : Nat) (hs : ∀ i j, i ≤ j → j < n → d[i]! ≤ d[j]!) : ∀ k, k ≤ n → (Go.Lib.compactUpTo d k).Pairwise (· < ·) ∧ ∀ x, x ∈ Go.Lib.compactUpTo d k ↔ ∃ i, i < k ∧ d[i]! = x
  | 0, _ => ⟨List.Pairwise.nil, fun x => ⟨fun h => (nomatch h), fun ⟨i, h, _⟩ => by omega⟩⟩
  | k + 1, hk => by
    obtain ⟨h1, h2⟩ := cut_inv d n hs k (by omega)
    rw [Go.Lib.compactUpTo_succ]
    by_cases e : Go.Lib.keeps d k = true
    · rw [if_pos e]
      unfold Go.Lib.keeps at e
      have e := of_decide_eq_true e
      refine ⟨List.pairwise_append.2 ⟨h1, List.pairwise_singleton _ _, fun x hx y hy => ?_⟩, fun x => ?_⟩
      · rw [List.mem_singleton] at hy
        subst hy
        obtain ⟨i, hi, rfl⟩ := (h2 x).1 hx
        have a1 := hs i (k - 1) (by omega) (by omega)
        have a2 := hs (k - 1) k (by omega) (by omega)
        rcases e with e | e
        · omega
        · omega
      · rw [List.mem_append, List.mem_singleton, h2 x]
        constructor
        · rintro (⟨i, hi, q⟩ | q)
          · exact ⟨i, by omega, q⟩
          · exact ⟨k, by omega, q.symm⟩
        · rintro ⟨i, hi, q⟩
          by_cases c : i = k
          · subst c; exact .inr q.symm
          · exact .inl ⟨i, by omega, q⟩
    · rw [if_neg e, List.append_nil]
      unfold Go.Lib.keeps at e
      have e : ¬ (k = 0 ∨ d[k]! ≠ d[k - 1]!) := fun q => e (decide_eq_true q)
      refine ⟨h1, fun x => ?_⟩
      rw [h2 x]
      constructor
      · rintro ⟨i, hi, q⟩; exact ⟨i, by omega, q⟩
      · rintro ⟨i, hi, q⟩
        by_cases c : i = k
        · subst c
          have e2 : d[i]! = d[i - 1]! := Decidable.byContradiction fun q => e (.inr q)
          exact ⟨i - 1, by have : i ≠ 0 := fun q => e (.inl q); omega, by rw [← e2, q]⟩
        · exact ⟨i, by omega, q⟩
theorem cut_ok (zs : List Int) : (Go.Lib.compact (zs.mergeSort fun x y => decide (x ≤ y))).Pairwise (· < ·) ∧ ∀ x, x ∈ Go.Lib.compact (zs.mergeSort fun x y => decide (x ≤ y)) ↔ x ∈ zs := by
  have hp := List.pairwise_mergeSort (le := fun x y : Int => decide (x ≤ y)) (fun a b c h1 h2 => by simp only [decide_eq_true_eq] at *; omega) (fun a b => by simp only [Bool.or_eq_true, decide_eq_true_eq]; omega) zs
  obtain ⟨ys, hy⟩ : ∃ ys, ys = zs.mergeSort fun x y => decide (x ≤ y) := ⟨_, rfl⟩
  have hm : ∀ x, x ∈ ys ↔ x ∈ zs := fun x => by rw [hy]; exact List.mem_mergeSort
  rw [← hy] at hp ⊢
  have hg : ∀ i (h : i < ys.length), ys.toArray[i]! = ys[i] := fun i h => by simp [h]
  have hs : ∀ i j, i ≤ j → j < ys.length → ys.toArray[i]! ≤ ys.toArray[j]! := by
    intro i j hij hj
    rw [hg i (by omega), hg j hj]
    by_cases e : i = j
    · subst e; exact Int.le_refl _
    · have := List.pairwise_iff_getElem.1 hp i j (by omega) hj (by omega)
      exact of_decide_eq_true this
  obtain ⟨h1, h2⟩ := cut_inv ys.toArray ys.length hs ys.length (Nat.le_refl _)
  refine ⟨h1, fun x => ?_⟩
  unfold Go.Lib.compact
  rw [h2 x, ← hm x]
  constructor
  · rintro ⟨i, hi, q⟩
    rw [hg i hi] at q
    exact q ▸ List.getElem_mem hi
  · intro h
    obtain ⟨i, hi, q⟩ := List.getElem_of_mem h
    exact ⟨i, hi, by rw [hg i hi, q]⟩
/-- How many of a rising list lie under j. -/
def cnt : List Int → Int → Nat
  | [], _ => 0
  | x :: l, j => (if x < j then 1 else 0) + cnt l j
theorem cnt_zero : ∀ (l : List Int) (j : Int), (∀ x ∈ l, j ≤ x) → cnt l j = 0
  | [], _, _ => rfl
  | x :: l, j, h => by
    have := h x List.mem_cons_self
    simp only [cnt, if_neg (show ¬ x < j by omega), cnt_zero l j fun y hy => h y (List.mem_cons_of_mem _ hy)]
theorem cnt_all : ∀ (l : List Int) (j : Int), (∀ x ∈ l, x < j) → cnt l j = l.length
  | [], _, _ => rfl
  | x :: l, j, h => by
    have := h x List.mem_cons_self
    simp only [cnt, if_pos this, cnt_all l j fun y hy => h y (List.mem_cons_of_mem _ hy), List.length_cons]
    omega
theorem cnt_no : ∀ (l : List Int) (j : Int), j ∉ l → cnt l (j + 1) = cnt l j
  | [], _, _ => rfl
  | x :: l, j, h => by
    simp only [List.mem_cons, not_or] at h
    have e : (if x < j + 1 then 1 else 0) = if x < j then 1 else 0 := by
      by_cases k : x < j
      · rw [if_pos k, if_pos (by omega)]
      · rw [if_neg k, if_neg (by omega)]
    simp only [cnt, e, cnt_no l j h.2]
theorem cnt_yes : ∀ (l : List Int) (j : Int), l.Pairwise (· < ·) → j ∈ l → cnt l (j + 1) = cnt l j + 1 ∧ l[cnt l j]? = some j
  | [], _, _, h => nomatch h
  | x :: l, j, hp, h => by
    obtain ⟨h1, h2⟩ := List.pairwise_cons.1 hp
    by_cases e : x = j
    · subst e
      have z := cnt_zero l x fun y hy => by have := h1 y hy; omega
      have z1 := cnt_zero l (x + 1) fun y hy => by have := h1 y hy; omega
      have q1 : cnt (x :: l) x = 0 := by simp only [cnt, z, if_neg (show ¬ x < x by omega)]
      have q2 : cnt (x :: l) (x + 1) = 1 := by simp only [cnt, z1, if_pos (show x < x + 1 by omega)]
      rw [q1, q2]
      exact ⟨rfl, rfl⟩
    · rcases List.mem_cons.1 h with h | h
      · exact absurd h.symm e
      · have q := h1 j h
        obtain ⟨i1, i2⟩ := cnt_yes l j h2 h
        simp only [cnt, if_pos q, if_pos (show x < j + 1 by omega), i1]
        exact ⟨by omega, by rw [show 1 + cnt l j = cnt l j + 1 by omega, List.getElem?_cons_succ, i2]⟩
noncomputable def hitF (l m r : Int) (F : Nat) (j : Int) : Nat → Bool
  | 0 => false
  | i + 1 => hitF l m r F j i || decide (ar l m r ((F + i : Nat) : Int) = j)
theorem hitF_iff {l m r : Int} {F : Nat} {j : Int} : ∀ i, hitF l m r F j i = true ↔ j ∈ rl l m r F i
  | 0 => ⟨fun h => (nomatch h), fun h => (nomatch h)⟩
  | i + 1 => by
    simp only [hitF, rl, Bool.or_eq_true, hitF_iff i, decide_eq_true_eq, List.mem_append, List.mem_singleton]
    exact ⟨fun h => h.imp id Eq.symm, fun h => h.imp id Eq.symm⟩
theorem rl_mem {l m r : Int} {F : Nat} : ∀ i x, x ∈ rl l m r F i → ∃ k, k < i ∧ x = ar l m r ((F + k : Nat) : Int)
  | 0, x, h => (nomatch h)
  | i + 1, x, h => by
    rcases List.mem_append.1 h with h | h
    · obtain ⟨k, hk, e⟩ := rl_mem i x h; exact ⟨k, by omega, e⟩
    · exact ⟨i, by omega, List.mem_singleton.1 h⟩
def slI (F n k N c j : Nat) (h : Bool) (i : Nat) : List (Sl × V) := [(s1, .int .i64 ((F : Nat) : Int)), (s2, .int .i64 ((n : Nat) : Int)), (s3, .ptr 0 0), (s7, .slice 1 0 k k 1), (s8, .slice 2 0 N N 2), (s9, .int .i64 ((c : Nat) : Int)), (s10, .int .i64 ((j : Nat) : Int)), (s11, .bool h), (s12, .int .i64 ((i : Nat) : Int))]
def slO (F n k N c j : Nat) : List (Sl × V) := [(s1, .int .i64 ((F : Nat) : Int)), (s2, .int .i64 ((n : Nat) : Int)), (s3, .ptr 0 0), (s7, .slice 1 0 k k 1), (s8, .slice 2 0 N N 2), (s9, .int .i64 ((c : Nat) : Int)), (s10, .int .i64 ((j : Nat) : Int))]
def slH (F n k N c j : Nat) (h : Bool) : List (Sl × V) := [(s1, .int .i64 ((F : Nat) : Int)), (s2, .int .i64 ((n : Nat) : Int)), (s3, .ptr 0 0), (s7, .slice 1 0 k k 1), (s8, .slice 2 0 N N 2), (s9, .int .i64 ((c : Nat) : Int)), (s10, .int .i64 ((j : Nat) : Int)), (s11, .bool h)]
noncomputable def meS (l m : Int) (R : Nat) (al cs : List V) : Mem := memL 3 [(0, .cells [.int .i64 l, .int .i64 m, .int .i64 ((R : Nat) : Int)] false), (1, .cells cs false), (2, .cells al false)]
theorem span_in {l m : Int} {R N F n k c j : Nat} {cs : List V} (g : rgP l m R) (hN : szN m R = N) (hN2 : N ≤ 192) (hF : F + n ≤ N) :
    LoopOk2 (callD pA tb0 laS 5) c8l0 (.exit 2) (meS l m R (cellsF l m N 0) cs) (slI F n k N c j false F) (meS l m R (cellsF l m N 0) cs) (slH F n k N c j (hitF l m R F j n)) :=
  loop2 n (by unfold rounds; omega) (fun _ => meS l m R (cellsF l m N 0) cs) (fun i => slI F n k N c j (hitF l m R F j i) (F + i))
    (fun Y i T hi hT K hK => by
      have hT : allS T (slI F n k N c j (hitF l m R F j i) (F + i)) := hT
      have hK : ∀ T', allS T' (slI F n k N c j (hitF l m R F j (i + 1)) (F + (i + 1))) → K .normal T' (meS l m R (cellsF l m N 0) cs) := hK
      have h0 := nth_row l m N 0 (F + i) (by omega)
      have ha := (at_in g (k := F + i) (by omega)).2.1
      rw [Nat.zero_add, ← ha] at h0
      cases e : hitF l m R F j i with
      | true =>
        rw [e] at hT
        refine sp_t Y l m R N F n k c j i _ _ hN2 hF (by omega) T hT K fun T' hT' => hK T' ?_
        rw [show hitF l m R F j (i + 1) = true by simp only [hitF, e, Bool.true_or]]
        exact hT'
      | false =>
        rw [e] at hT
        by_cases u : ar l m R ((F + i : Nat) : Int) = j
        · refine sp_e Y l m R N F n k c j i _ _ hN2 hF _ (by omega) h0 u T hT K fun T' hT' => hK T' ?_
          rw [show hitF l m R F j (i + 1) = true by simp only [hitF, decide_eq_true u, Bool.or_true]]
          exact hT'
        · refine sp_u Y l m R N F n k c j i _ _ hN2 hF _ (by omega) h0 u T hT K fun T' hT' => hK T' ?_
          rw [show hitF l m R F j (i + 1) = false by simp only [hitF, decide_eq_false u, e, Bool.or_self]]
          exact hT')
    (fun Y T hT K hK => sp_f Y l m R N F n k c j _ _ hN2 hF (hitF l m R F j n) T hT K hK)
theorem span_out {l m : Int} {R N F n : Nat} {cl ts : List Int} (g : rgP l m R) (hN : szN m R = N) (hN2 : N ≤ 192) (hF : F + n ≤ N) (hc : cl.Pairwise (· < ·)) (hm : ∀ x, x ∈ cl ↔ x ∈ rl l m R F n) (hk : cl.length ≤ 192) :
    LoopOk2 (callD pA tb0 laS 5) c8l1 (.exit 0) (meS l m R (cellsF l m N 0) (iV (cl ++ ts))) (slO F n cl.length N 0 0) (meS l m R (cellsF l m N 0) (iV (cl ++ ts))) (slO F n cl.length N cl.length R) := by
  have hR : (R : Int) ≤ 64 := g.2.2.1
  have hat : ∀ x ∈ cl, 0 ≤ x ∧ x < R := by
    intro x hx
    obtain ⟨k, hk, rfl⟩ := rl_mem _ _ ((hm x).1 hx)
    have := at_rng g (k := F + k) (by omega)
    exact ⟨this.1, this.2.1⟩
  have e0 : cnt cl ((0 : Nat) : Int) = 0 := cnt_zero cl _ fun x hx => (hat x hx).1
  have eR : cnt cl ((R : Nat) : Int) = cl.length := cnt_all cl _ fun x hx => (hat x hx).2
  have L : LoopOk2 (callD pA tb0 laS 5) c8l1 (.exit 0) (meS l m R (cellsF l m N 0) (iV (cl ++ ts))) (slO F n cl.length N (cnt cl ((0 : Nat) : Int)) 0) (meS l m R (cellsF l m N 0) (iV (cl ++ ts))) (slO F n cl.length N (cnt cl ((R : Nat) : Int)) R) :=
    loop2 R (by unfold rounds; omega) (fun _ => meS l m R (cellsF l m N 0) (iV (cl ++ ts))) (fun j => slO F n cl.length N (cnt cl ((j : Nat) : Int)) j)
      (fun Y j T hj hT K hK => by
        have hK : ∀ T', allS T' (slO F n cl.length N (cnt cl ((j + 1 : Nat) : Int)) (j + 1)) → K .normal T' (meS l m R (cellsF l m N 0) (iV (cl ++ ts))) := hK
        have L := span_in (k := cl.length) (c := cnt cl ((j : Nat) : Int)) (j := j) (cs := iV (cl ++ ts)) g hN hN2 hF
        cases e : hitF l m R F j n with
        | true =>
          rw [e] at L
          obtain ⟨c1, c2⟩ := cnt_yes cl j hc ((hm _).2 ((hitF_iff n).1 e))
          have hlt : cnt cl ((j : Nat) : Int) < cl.length := (List.getElem?_eq_some_iff.1 c2).1
          have hn : nth (iV (cl ++ ts)) (cnt cl ((j : Nat) : Int)) = some (.int .i64 ((j : Nat) : Int)) := by
            rw [nth_eq, iV_get, List.getElem?_append_left hlt, c2]; rfl
          refine so_y Y l m R N F n cl.length _ j _ _ hN2 hF (by omega) hj hlt hk hn L T hT K fun T' hT' => hK T' ?_
          rw [show ((j + 1 : Nat) : Int) = (j : Int) + 1 by omega, c1]
          exact hT'
        | false =>
          rw [e] at L
          have c1 := cnt_no cl j fun q => by rw [(hitF_iff n).2 ((hm _).1 q)] at e; cases e
          refine so_n Y l m R N F n cl.length _ j _ _ hN2 hF (by omega) hj L T hT K fun T' hT' => hK T' ?_
          rw [show ((j + 1 : Nat) : Int) = (j : Int) + 1 by omega, c1]
          exact hT')
      (fun Y T hT K hK => so_f Y l m R N F n cl.length _ _ _ hN2 hF (by omega) T hT K hK)
  rw [e0, eR] at L
  exact L
theorem spans_walk (Y : Ys Prop) (l m r F n : Int) (K : V → Mem → Prop) (hK : ∀ mm, K (.bool true) mm) : body1 pA (callD pA tb0 laS 5) Y c8 [geo l m r, .int .i64 F, .int .i64 n] ⟨0, .leaf⟩ K := by
  by_cases g : rgP l m r
  · have hz := szN_eq g
    by_cases v : 1 ≤ n ∧ 0 ≤ F ∧ F + n ≤ sz l m r
    · obtain ⟨v1, v2, v3⟩ := v
      obtain ⟨R, rfl⟩ := Int.eq_ofNat_of_zero_le (show 0 ≤ r by have := g.2.1; omega)
      obtain ⟨F, rfl⟩ := Int.eq_ofNat_of_zero_le v2
      obtain ⟨n, rfl⟩ := Int.eq_ofNat_of_zero_le (show 0 ≤ n by omega)
      have hR : (R : Int) ≤ 64 := g.2.2.1
      have hF : F + n ≤ szN m R := by omega
      have hc := cut_ok (rl l m R F n)
      have hle : (rowsL l m R F n).length ≤ n := by
        have := compact_le (zs := (rl l m R F n).mergeSort fun x y => decide (x ≤ y))
        rw [List.length_mergeSort, rl_len] at this
        exact this
      exact sp_y Y l m R (szN m R) F n (rowsL l m R F n).length _ _ hz.2 hF (by omega) (by omega) (by omega) (rg_t g) (S15_y g) (S20_y (by omega) (by omega)) (span_out (cl := rowsL l m R F n) g rfl hz.2 hF hc.1 hc.2 (by omega)) K hK
    · have hS := S20_n v
      by_cases a1 : n < 1
      · exact sp_n2a Y l m r F n _ _ hS (rg_t g) (S15_y g) hz.2 a1 K hK
      · by_cases a2 : (szN m r : Int) < n
        · exact sp_n2b Y l m r F n _ _ hS (rg_t g) (S15_y g) hz.2 (by omega) a2 K hK
        · by_cases a3 : F < 0
          · exact sp_n2c Y l m r F n _ _ hS (rg_t g) (S15_y g) hz.2 (by omega) (by omega) a3 K hK
          · exact sp_n2d Y l m r F n _ _ hS (rg_t g) (S15_y g) hz.2 (by omega) (by omega) (by omega) (by omega) K hK
  · have hz : sz l m r = 0 := by rw [sz_eq, if_neg g]
    exact sp_n1 Y l m r F n (S20_n (by omega)) (rg_f g) K hK
section
variable {P : Program}
variable (hmix : P.follows .mixedOrders = true)
include hmix
theorem laR_ok (h4 : LastOk P la4 id) (o12 : FOk P 12 c12) (o17 : FOk P 17 c17) (k24 : Callable P 24) (k25 : Callable P 25) (q24 : ∀ C, S24 C → C.wf = true → ConOk P 24 C) (q25 : ∀ C, S25 C → C.wf = true → ConOk P 25 C) : LastOk P laR id :=
  lastC_ok k24 q24 (lastC_ok k25 q25 (la5a_ok hmix h4 o12 o17))
omit hmix in
theorem plains_iV : ∀ l : List Int, plains (iV l) = true
  | [] => rfl
  | x :: l => by
    have := plains_iV l
    simp only [iV, List.map_cons, plains, V.plain, Bool.true_and] at *
    exact this
theorem S20_ok (hR : LastOk P laR id) (o : FOk P 20 c20) : ∀ (ρ : Ren) (args : List V) (args' : List Value) (L : Lay), S20 args = some L → VRs ρ args args' → L.isPlain = true ∧ AnswersL P 20 args' L := by
  intro ρ args args' L hS ha
  unfold S20 at hS; split at hS
  · rename_i l m r F n
    by_cases v : 1 ≤ n ∧ 0 ≤ F ∧ F + n ≤ sz l m r
    · rw [if_pos v] at hS
      obtain ⟨v1, v2, v3⟩ := v
      have g : rgP l m r := Decidable.byContradiction fun g => by rw [sz_eq, if_neg g] at v3; omega
      have hz := szN_eq g
      obtain ⟨F, rfl⟩ := Int.eq_ofNat_of_zero_le v2
      obtain ⟨n, rfl⟩ := Int.eq_ofNat_of_zero_le (show 0 ≤ n by omega)
      simp only [Int.toNat_natCast] at hS
      cases hS
      refine ⟨?_, answersL_walkG hmix o (callD_sound pHolds hmix tb0_ok hR 5) ha rfl (plains_iV _) (rows_run (Z := szN m r) hz.1 hz.2 (by omega) (by omega) (fun i hi => (at_in g (k := F + i) (by omega)).1) Ys.none)⟩
      show (true && (!false && plains (iV _))) = true
      rw [plains_iV]; rfl
    · rw [if_neg v] at hS
      cases hS
      refine ⟨rfl, answersL_walk hmix o (callD_sound pHolds hmix tb0_ok hR 5) ha rfl rfl ?_⟩
      have hz : 0 ≤ sz l m r ∧ sz l m r ≤ 192 := by
        by_cases g : rgP l m r
        · have := szN_eq g; omega
        · rw [sz_eq, if_neg g]; omega
      by_cases a1 : n < 1
      · exact rnil_a Ys.none l m r F n _ rfl hz.1 hz.2 a1 _ fun _ => rfl
      · by_cases a2 : F < 0
        · exact rnil_b Ys.none l m r F n _ rfl hz.1 hz.2 (by omega) a2 _ fun _ => rfl
        · by_cases a3 : sz l m r ≤ F
          · exact rnil_c Ys.none l m r F n _ rfl hz.1 hz.2 (by omega) (by omega) a3 _ fun _ => rfl
          · exact rnil_d Ys.none l m r F n _ rfl hz.1 hz.2 (by omega) (by omega) (by omega) (by omega) _ fun _ => rfl
  · cases hS
theorem laSa_ok (h4 : LastOk P la4 id) (hR : LastOk P laR id) (o11 : FOk P 11 c11) (o15 : FOk P 15 c15) (o19 : FOk P 19 c19) (o20 : FOk P 20 c20) : LastOk P (lastL 20 S20 (lastL 15 S15 (lastFn 11 R10 la4))) id :=
  lastL_ok (callable_fok o20) (S20_ok hmix hR o20) (lastL_ok (callable_fok o15) (S15_ok hmix o19 o15) (lastFn_ok (callable_fok o11) (fun ρ args args' v hv ha => by
    unfold R10 at hv; split at hv
    · cases hv; exact answers_of_walk hmix o11 (callD_sound pHolds hmix tb0_ok la0_ok 5) ha rfl rfl (fun K hK => xright _ _ _ _ K hK)
    · cases hv) h4))
end

end Go.Proofs.Ytefklpegpecliaa
