/- The law: some, wanted, written by contract. No condition. -/
import Derived.Test.YtjikaankdnmabaaRW
namespace Go.Proofs.Ytjikaankdnmabaa
open Go Go.AM
set_option maxRecDepth 100000
set_option maxHeartbeats 4000000
set_option linter.unusedVariables false
set_option linter.unusedSectionVars false
def byF (F : Int → List Nat) : Nat → List Int → List (Int × List Nat × Nat)
  | _, [] => []
  | i, y :: ys => (y, F y, i) :: byF F (i + 1) ys
theorem byF_app (F : Int → List Nat) (d : Int) : ∀ (l : List Int) (i : Nat), byF F i (l ++ [d]) = byF F i l ++ [(d, F d, i + l.length)]
  | [], i => rfl
  | y :: l, i => by
    simp only [List.cons_append, byF, byF_app F d l (i + 1), List.length_cons]
    rw [show i + 1 + l.length = i + (l.length + 1) by omega]
theorem byF_key (F : Int → List Nat) : ∀ (l : List Int) (i : Nat), ∀ y ∈ byF F i l, y.1 ∈ l
  | [], _, _, h => by cases h
  | a :: l, i, y, h => by
    simp only [byF] at h
    rcases List.mem_cons.1 h with rfl | h
    · exact List.mem_cons_self
    · exact List.mem_cons_of_mem _ (byF_key F l (i + 1) y h)
theorem byF_take (F : Int → List Nat) {ys : List Int} {i : Nat} {d : Int} (h : ys[i]? = some d) : byF F 0 (ys.take (i + 1)) = byF F 0 (ys.take i) ++ [(d, F d, i)] := by
  have hi := (List.getElem?_eq_some_iff.1 h).1
  rw [List.take_add_one, h]
  simp only [Option.toList_some]
  rw [byF_app, List.length_take, Nat.zero_add, Nat.min_eq_left (by omega)]
theorem byF_fresh (F : Int → List Nat) {ys : List Int} (hn : ys.Nodup) {i : Nat} {d : Int} (h : ys[i]? = some d) : ∀ y ∈ byF F 0 (ys.take i), y.1 ≠ d := fun y hy e => by
  have h1 := byF_key F _ _ y hy
  obtain ⟨j, hj⟩ := List.mem_iff_getElem?.1 h1
  rw [List.getElem?_take] at hj
  split at hj
  · rename_i hlt
    rw [e] at hj
    have hj1 := (List.getElem?_eq_some_iff.1 hj).1
    have := (List.getElem?_inj hj1 hn).1 (hj.trans h.symm)
    omega
  · cases hj
theorem nth_iV {ys : List Int} {i : Nat} {d : Int} (h : ys[i]? = some d) : nth (iV ys) i = some (.int .i64 d) := by
  rw [nth_eq, iV_get, h]; rfl
inductive S26 : Con → Prop
  | mk (G : List (Int × List Nat × Nat)) (c2 : Nat) (ro2 : Bool) (ys : List Int) (j : Nat) (hj : ys.length = j) (h1 : 1 ≤ j) (h4 : j ≤ 100) (hn : ys.Nodup) : S26 ⟨[.map 0, .slice 1 0 j j 1], [.map (mV G) c2 ro2, .cells (iV ys) false], .map 2, [.map (mV G) c2 ro2, .cells (iV ys) false], [(2, .map (mV (byF (lookG G) 0 ys)) j false)]⟩
  | nil (G : List (Int × List Nat × Nat)) (c2 : Nat) (ro2 : Bool) : S26 ⟨[.map 0, .nilslice], [.map (mV G) c2 ro2], .map 1, [.map (mV G) c2 ro2], [(1, .map [] 0 false)]⟩
def wantF (G W : List (Int × List Nat × Nat)) (y : Int) : List Nat := if hasG W y = true then lookG W y else lookG G y
inductive S24 : Con → Prop
  | mk (G : List (Int × List Nat × Nat)) (c2 : Nat) (ro2 : Bool) (W : List (Int × List Nat × Nat)) (c3 : Nat) (ro3 : Bool) (ys : List Int) (j : Nat) (hj : ys.length = j) (h1 : 1 ≤ j) (h4 : j ≤ 100) (hn : ys.Nodup) : S24 ⟨[.slice 0 0 j j 1, .map 1, .map 2], [.cells (iV ys) false, .map (mV G) c2 ro2, .map (mV W) c3 ro3], .map 3, [.cells (iV ys) false, .map (mV G) c2 ro2, .map (mV W) c3 ro3], [(3, .map (mV (byF (wantF G W) 0 ys)) j false)]⟩
section
variable {P : Program}
variable (hmix : P.follows .mixedOrders = true)
include hmix
theorem s26_ok (o26 : FOk P 26 c26) : ∀ C, S26 C → C.wf = true → ConOk P 26 C := by
  intro C h _
  have hcf := callD_sound (A := pA) pHolds hmix tb0_ok (la0_ok (P := P)) 5
  cases h with
  | nil G c2 ro2 => exact conOk_walk hmix o26 hcf (sm0 Ys.none G c2 ro2)
  | mk G c2 ro2 ys j hj h1 h4 hn =>
    have H : LoopOk2 (callD pA tb0 la0 5) c26l0 (.exit 0) (memL 3 [(0, .map (mV G) c2 ro2), (1, .cells (iV ys) false), (2, .map [] 0 false)]) [(s0, .map 0), (s1, .slice 1 0 j j 1), (s5, .map 2), (s6, .int .i64 ((0 : Nat) : Int))] (memL 3 [(0, .map (mV G) c2 ro2), (1, .cells (iV ys) false), (2, .map (mV (byF (lookG G) 0 (ys.take j))) j false)]) [(s0, .map 0), (s1, .slice 1 0 j j 1), (s5, .map 2), (s6, .int .i64 ((j : Nat) : Int))] := loop2 j (Nat.lt_of_lt_of_le (rounds_big (by omega)) (Nat.sub_le _ _)) (fun i => memL 3 [(0, .map (mV G) c2 ro2), (1, .cells (iV ys) false), (2, .map (mV (byF (lookG G) 0 (ys.take i))) i false)]) (fun i => [(s0, .map 0), (s1, .slice 1 0 j j 1), (s5, .map 2), (s6, .int .i64 ((i : Nat) : Int))]) (fun Y i T hi hT K hK => by
        obtain ⟨d, hd⟩ : ∃ d, ys[i]? = some d := ⟨_, List.getElem?_eq_getElem (by omega)⟩
        have hh := sm_s Y G c2 ro2 ys j h4 (byF (lookG G) 0 (ys.take i)) i i d _ hi (nth_iV hd) (look_G G d) (mV (byF (lookG G) 0 (ys.take (i + 1)))) (by rw [byF_take _ hd, mV_app]; rfl) (find_none (byF_fresh _ hn hd)) T hT K
        exact hh hK) (fun Y T hT K hK => sm_f Y G c2 ro2 ys j h4 _ j T hT K hK)
    have e : ys.take j = ys := List.take_of_length_le (by omega)
    rw [e] at H
    exact conOk_walk hmix o26 hcf (sm Ys.none G c2 ro2 ys j h4 _ j H)
theorem s24_ok (o24 : FOk P 24 c24) : ∀ C, S24 C → C.wf = true → ConOk P 24 C := by
  intro C h _
  have hcf := callD_sound (A := pA) pHolds hmix tb0_ok (la0_ok (P := P)) 5
  cases h with
  | mk G c2 ro2 W c3 ro3 ys j hj h1 h4 hn =>
    have H : LoopOk2 (callD pA tb0 la0 5) c24l0 (.exit 0) (memL 4 [(0, .cells (iV ys) false), (1, .map (mV G) c2 ro2), (2, .map (mV W) c3 ro3), (3, .map [] 0 false)]) [(s0, .slice 0 0 j j 1), (s1, .map 1), (s2, .map 2), (s7, .map 3), (s8, .int .i64 ((0 : Nat) : Int))] (memL 4 [(0, .cells (iV ys) false), (1, .map (mV G) c2 ro2), (2, .map (mV W) c3 ro3), (3, .map (mV (byF (wantF G W) 0 (ys.take j))) j false)]) [(s0, .slice 0 0 j j 1), (s1, .map 1), (s2, .map 2), (s7, .map 3), (s8, .int .i64 ((j : Nat) : Int))] := loop2 j (Nat.lt_of_lt_of_le (rounds_big (by omega)) (Nat.sub_le _ _)) (fun i => memL 4 [(0, .cells (iV ys) false), (1, .map (mV G) c2 ro2), (2, .map (mV W) c3 ro3), (3, .map (mV (byF (wantF G W) 0 (ys.take i))) i false)]) (fun i => [(s0, .slice 0 0 j j 1), (s1, .map 1), (s2, .map 2), (s7, .map 3), (s8, .int .i64 ((i : Nat) : Int))]) (fun Y i T hi hT K hK => by
        obtain ⟨d, hd⟩ : ∃ d, ys[i]? = some d := ⟨_, List.getElem?_eq_getElem (by omega)⟩
        have ht := byF_take (wantF G W) hd
        have hf := find_none (byF_fresh (wantF G W) hn hd)
        have hw := look_G2 W d
        cases hb : hasG W d with
        | true =>
          rw [hb] at hw
          rw [show wantF G W d = lookG W d from if_pos hb] at ht
          exact wt_y Y G c2 ro2 W c3 ro3 ys j h4 (byF (wantF G W) 0 (ys.take i)) i i d _ hi (nth_iV hd) hw (mV (byF (wantF G W) 0 (ys.take (i + 1)))) (by rw [ht, mV_app]; rfl) hf T hT K hK
        | false =>
          rw [hb] at hw
          rw [show wantF G W d = lookG G d from if_neg (by rw [hb]; decide)] at ht
          exact wt_n Y G c2 ro2 W c3 ro3 ys j h4 (byF (wantF G W) 0 (ys.take i)) i i d _ hi (nth_iV hd) _ hw (look_G G d) (mV (byF (wantF G W) 0 (ys.take (i + 1)))) (by rw [ht, mV_app]; rfl) hf T hT K hK) (fun Y T hT K hK => wt_f Y G c2 ro2 W c3 ro3 ys j h4 _ j T hT K hK)
    have e : ys.take j = ys := List.take_of_length_le (by omega)
    rw [e] at H
    exact conOk_walk hmix o24 hcf (wt Ys.none G c2 ro2 W c3 ro3 ys j h4 _ j H)
end
noncomputable def cutT (t : List Nat) : List Nat := (t ++ zr).take 64
def tx4 (t0 t1 t2 t3 : List Nat) : Nat → List Nat
  | 0 => t0
  | 1 => t1
  | 2 => t2
  | _ => t3
noncomputable def wrL (k : Int) (tx : Nat → List Nat) (ys : List Int) : Nat → List (Int × List Nat × Nat)
  | 0 => []
  | i + 1 => if bitX k i = 1 then wrL k tx ys i ++ [(ys.getD i 0, cutT (tx i), (wrL k tx ys i).length)] else wrL k tx ys i
theorem wrL_key (k : Int) (tx : Nat → List Nat) (ys : List Int) : ∀ i, ∀ y ∈ wrL k tx ys i, ∃ j, j < i ∧ y.1 = ys.getD j 0
  | 0, _, h => by cases h
  | i + 1, y, h => by
    simp only [wrL] at h
    split at h
    · rcases List.mem_append.1 h with h | h
      · obtain ⟨j, hj, e⟩ := wrL_key k tx ys i y h
        exact ⟨j, by omega, e⟩
      · simp only [List.mem_cons, List.not_mem_nil, or_false] at h
        subst h
        exact ⟨i, by omega, rfl⟩
    · obtain ⟨j, hj, e⟩ := wrL_key k tx ys i y h
      exact ⟨j, by omega, e⟩
theorem zr_len : zr.length = 64 := by rw [zr_eq, List.length_replicate]
theorem cut_at (t : List Nat) : slcStrV (t ++ zr) 0 64 = some (.str (cutT t)) := by
  unfold slcStrV cutT
  have h : Nat.ble 64 (t ++ zr).length = true := nble_iff.2 (by rw [List.length_append, zr_len]; omega)
  rw [h]; rfl
theorem add_zr {t : List Nat} (h : t.length ≤ 200) : binV .add (.str t) (.str zr) = some (.str (t ++ zr)) := by
  show (bif Nat.ble (t.length + zr.length) 9223372036854775807 then some (V.str (t ++ zr)) else none) = _
  rw [nble_iff.2 (by rw [zr_len]; omega)]; rfl
theorem cut_len (t : List Nat) : (cutT t).length = 64 := by
  unfold cutT
  rw [List.length_take, List.length_append, zr_len]; omega
theorem pow2_nn (n : Nat) : (0 : Int) ≤ (2 : Int) ^ n := by
  induction n with
  | zero => decide
  | succ n ih => rw [Int.pow_succ]; omega
inductive S17 : Con → Prop
  | mk (ys : List Int) (t0 t1 t2 t3 : List Nat) (k : Int) (j : Nat) (hj : ys.length = j) (h4 : j ≤ 4) (hn : ys.Nodup) (hl : ∀ i, (tx4 t0 t1 t2 t3 i).length ≤ 200) : S17 ⟨[.slice 0 0 j j 1, .agg [.str t0, .str t1, .str t2, .str t3], .int .u8 k], [.cells (iV ys) false], .map 2, [.cells (iV ys) false], [(2, .map (mV (wrL k (tx4 t0 t1 t2 t3) ys j)) (List.length (wrL k (tx4 t0 t1 t2 t3) ys j)) false)]⟩
section
variable {P : Program}
variable (hmix : P.follows .mixedOrders = true)
include hmix
theorem s17_ok (l17 : LastOk P la17 id) (o17 : FOk P 17 c17) : ∀ C, S17 C → C.wf = true → ConOk P 17 C := by
  intro C h _
  have hcf := callD_sound (A := pA) pHolds hmix tb0_ok l17 5
  cases h with
  | mk ys t0 t1 t2 t3 k j hj h4 hn hl =>
    have H : LoopOk2 (callD pA tb0 la17 5) c17l0 (.exit 0) (memL 3 [(0, .cells (iV ys) false), (1, .cells [.str t0, .str t1, .str t2, .str t3] false), (2, .map [] 0 false)]) [(s0, .slice 0 0 j j 1), (s2, .int .u8 k), (s4, .ptr 1 0), (s7, .map 2), (s8, .int .i64 ((0 : Nat) : Int))] (memL 3 [(0, .cells (iV ys) false), (1, .cells [.str t0, .str t1, .str t2, .str t3] false), (2, .map (mV (wrL k (tx4 t0 t1 t2 t3) ys j)) (List.length (wrL k (tx4 t0 t1 t2 t3) ys j)) false)]) [(s0, .slice 0 0 j j 1), (s2, .int .u8 k), (s4, .ptr 1 0), (s7, .map 2), (s8, .int .i64 ((j : Nat) : Int))] := loop2 j (Nat.lt_of_lt_of_le (rounds_big (by omega)) (Nat.sub_le _ _)) (fun i => memL 3 [(0, .cells (iV ys) false), (1, .cells [.str t0, .str t1, .str t2, .str t3] false), (2, .map (mV (wrL k (tx4 t0 t1 t2 t3) ys i)) (List.length (wrL k (tx4 t0 t1 t2 t3) ys i)) false)]) (fun i => [(s0, .slice 0 0 j j 1), (s2, .int .u8 k), (s4, .ptr 1 0), (s7, .map 2), (s8, .int .i64 ((i : Nat) : Int))]) (fun Y i T hi hT K hK => by
        obtain ⟨d, hd⟩ : ∃ d, ys[i]? = some d := ⟨_, List.getElem?_eq_getElem (by omega)⟩
        have hd2 : ys.getD i 0 = d := by rw [List.getD_eq_getElem?_getD, hd]; rfl
        by_cases hb : bitX k i = 1
        · have e : wrL k (tx4 t0 t1 t2 t3) ys (i + 1) = (wrL k (tx4 t0 t1 t2 t3) ys i) ++ [(d, cutT (tx4 t0 t1 t2 t3 i), (List.length (wrL k (tx4 t0 t1 t2 t3) ys i)))] := by rw [← hd2]; exact if_pos hb
          have ht : nth ([.str t0, .str t1, .str t2, .str t3] : List V) i = some (.str (tx4 t0 t1 t2 t3 i)) := by
            match i, hi with
            | 0, _ => rfl
            | 1, _ => rfl
            | 2, _ => rfl
            | 3, _ => rfl
            | i + 4, h => omega
          have hf := find_none (O := (wrL k (tx4 t0 t1 t2 t3) ys i)) (x := d) (fun y hy e2 => by
            obtain ⟨j2, hj2, e3⟩ := wrL_key k _ ys i y hy
            have h1 : ys[j2]? = some d := by rw [List.getElem?_eq_getElem (show j2 < ys.length by omega)]; rw [List.getD_eq_getElem?_getD, List.getElem?_eq_getElem (show j2 < ys.length by omega)] at e3; rw [← e2, e3]; rfl
            have := (List.getElem?_inj (show j2 < ys.length by omega) hn).1 (h1.trans hd.symm)
            omega)
          refine wn_y Y ys t0 t1 t2 t3 k j h4 (wrL k (tx4 t0 t1 t2 t3) ys i) i _ d hi (Int.natCast_nonneg _) (pow2_nn _) hb R18_0 (nth_iV hd) _ _ ht _ (add_zr (hl i)) (cut_at _) (mV (wrL k (tx4 t0 t1 t2 t3) ys (i + 1))) (by rw [e, mV_app]; rfl) hf T hT K fun T' hT' => ?_
          have := hK T' hT'
          rw [show List.length (wrL k (tx4 t0 t1 t2 t3) ys (i + 1)) = List.length (wrL k (tx4 t0 t1 t2 t3) ys i) + 1 by rw [e]; simp] at this
          exact this
        · refine wn_n Y ys t0 t1 t2 t3 k j h4 (wrL k (tx4 t0 t1 t2 t3) ys i) i _ d hi (Int.natCast_nonneg _) (pow2_nn _) hb T hT K fun T' hT' => ?_
          have := hK T' hT'
          rw [show wrL k (tx4 t0 t1 t2 t3) ys (i + 1) = (wrL k (tx4 t0 t1 t2 t3) ys i) from if_neg hb] at this
          exact this) (fun Y T hT K hK => wn_f Y ys t0 t1 t2 t3 k j h4 _ _ T hT K hK)
    exact conOk_walk hmix o17 hcf (wn Ys.none ys t0 t1 t2 t3 k j h4 _ _ H)
end
end Go.Proofs.Ytjikaankdnmabaa
