/- The law: made by contract. No condition. -/
import Derived.Test.YtjikaankdnmabaaMW
namespace Go.Proofs.Ytjikaankdnmabaa
open Go Go.AM
set_option maxRecDepth 100000
set_option maxHeartbeats 4000000
set_option linter.unusedVariables false
set_option linter.unusedSectionVars false
theorem fu_run : body1 pA (callD pA tb0 la0 5) Ys.none c18 [.int .u8 0] ⟨0, .leaf⟩ (fun u _ => u = .str (List.replicate 64 0)) :=
  castP (p := V.str (List.replicate 64 0) = V.str (List.replicate 64 0)) (by kernel_rfl) rfl
noncomputable def byI (t : Nat → List Nat) : Nat → List Int → List (Int × List Nat × Nat)
  | _, [] => []
  | i, y :: ys => (y, cutT (t i), i) :: byI t (i + 1) ys
noncomputable def madeL (m p : Int) (t : Nat → List Nat) : List (Int × List Nat × Nat) := byI t 0 (dataL m p) ++ [(p, sumG ((List.range (m - 1).toNat).map fun i => cutT (t i)), (m - 1).toNat)]
theorem plain_mV (O : List (Int × List Nat × Nat)) (c : Nat) : (AObj.map (mV O) c false).plain = true := by show (!false && plainEs _) = true; rw [plainEs_mV]; rfl
inductive S23 : Con → Prop
  | no (l m r s : Int) (t0 t1 t2 t3 : List Nat) (ho : roB l m r s = false) : S23 ⟨[geo l m r, .int .i64 s, .agg [.str t0, .str t1, .str t2, .str t3]], [], .tuple [.nilmap, .bool false], [], []⟩
  | mk (l m r s : Int) (t0 t1 t2 t3 : List Nat) (ho : roB l m r s = true) (hl : ∀ i, (tx4 t0 t1 t2 t3 i).length ≤ 200) (n : Nat) (hn : m = ((n : Nat) : Int)) : S23 ⟨[geo l m r, .int .i64 s, .agg [.str t0, .str t1, .str t2, .str t3]], [], .tuple [.map 0, .bool true], [], [(0, .map (mV (madeL m (pz l m r s) (tx4 t0 t1 t2 t3))) n false)]⟩
theorem find_lit {O : List (Int × List Nat × Nat)} {x : Int} (h : ∀ y ∈ O, y.1 ≠ x) : findK (.one .int) (.int .i64 x) (mV O) = some none := find_none h
theorem R18_in {b : Int} {v : V} (h : R18 [.int .u8 b] = some v) : b = 0 ∧ v = .str zr := by
  have h' : (if b = 0 then some (V.str zr) else none) = some v := h
  by_cases hb : b = 0
  · rw [if_pos hb] at h'; cases h'; exact ⟨hb, rfl⟩
  · rw [if_neg hb] at h'; cases h'
section
variable {P : Program}
variable (hmix : P.follows .mixedOrders = true)
include hmix
theorem answers_eq {n : Nat} {af : AFunc} (hok : FOk P n af) {cfy : Ys Prop → CF Prop} (hcf : CFOk P cfy id) {args : List V} {args' : List Value} {ρ : Ren} (ha : VRs ρ args args') (hp : plains args = true)
    {v : V} (hv : v.plain = true) (hw : body1 pA cfy Ys.none af args ⟨0, .leaf⟩ fun u _ => u = v) : Answers P n args' v := by
  intro w
  obtain ⟨fn, h3, h4, _⟩ := hok
  have h := func_sound (A := pA) (H := id) pHolds hcf hmix h3 h4 (Y := Ys.none) (ρ := fun _ => none) YOk.none (mr_none ⟨0, .leaf⟩ w) (VRs.any ha hp) (K := fun u _ => u = v) hw
  refine h.mono fun e w' he => ?_
  cases e with
  | panicked c => exact he.elim
  | outgrown => exact he.elim
  | returned v' =>
    obtain ⟨ρ', u, m', g1, _, g3, g4⟩ := he
    have g4' : u = v := g4
    subst g4'
    exact ⟨v', rfl, fun ρ => g1.any hv, g3.stays fun b i o h => nomatch h⟩
theorem l18_ok (o18 : FOk P 18 c18) {last : CF Prop} (hl : LastOk P last id) : LastOk P (lastFn 18 R18 last) id :=
  lastFn_ok (callable_fok o18) (fun ρ args args' v hv ha => by
    have e : ∃ b, args = [.int .u8 b] := by
      unfold R18 at hv
      split at hv
      · exact ⟨_, rfl⟩
      · cases hv
    obtain ⟨b, rfl⟩ := e
    obtain ⟨rfl, rfl⟩ := R18_in hv
    have hw := fu_run
    rw [← zr_eq] at hw
    exact answers_eq hmix o18 (callD_sound (A := pA) pHolds hmix tb0_ok (la0_ok (P := P)) 5) ha rfl rfl hw) hl
theorem s23_ok (l23 : LastOk P la23 id) (o23 : FOk P 23 c23) : ∀ C, S23 C → C.wf = true → ConOk P 23 C := by
  intro C h _
  have hcf := callD_sound (A := pA) pHolds hmix tb0_ok l23 5
  cases h with
  | no l m r s t0 t1 t2 t3 ho => exact conOk_walk hmix o23 hcf (md_n Ys.none l m r s t0 t1 t2 t3 (by rw [S16s_eq]; exact if_neg (by rw [ho]; decide)) ho)
  | mk l m r s t0 t1 t2 t3 ho hl n hn =>
    have g := (ro_t.1 ho).1.1
    have hp := pz_rng ho
    have h16 : S16s [geo l m r, .int .i64 s] = some (.new (.slice (m - 1).toNat 1) none (.cells (dataF m (pz l m r s)) false)) := by rw [S16s_eq]; exact if_pos ho
    have hc : ∀ g ∈ (List.range (m - 1).toNat).map (fun i => cutT (tx4 t0 t1 t2 t3 i)), g.length = 64 := fun g h => by obtain ⟨i, _, rfl⟩ := List.mem_map.1 h; exact cut_len _
    have hq : m = 2 ∨ m = 3 ∨ m = 4 := by omega
    rcases hq with rfl | rfl | rfl
    · have e : n = 2 := by omega
      subst e
      have h28 := S28.mk [cutT t0] (fun g h => by simp only [List.mem_cons, List.not_mem_nil, or_false] at h; rcases h with rfl <;> exact cut_len _) (by simp) (by simp)
      have run := md_1 Ys.none l 2 r s t0 t1 t2 t3 ((pz l 2 r s + 1 + ((0 : Nat) : Int)) % 2) (pz l 2 r s) (cutT t0) (t0 ++ zr) (sumG [cutT t0]) h16 ho rfl R18_0 (add_zr (show t0.length ≤ 200 from hl 0)) (cut_at t0) (find_lit (O := []) (fun y hy => by cases hy)) h28 rfl (find_lit (O := [((pz l 2 r s + 1 + ((0 : Nat) : Int)) % 2, cutT t0, 0)]) (fun y hy => by simp only [List.mem_cons, List.not_mem_nil, or_false] at hy; rcases hy with rfl <;> simp only <;> omega))
      refine conOk_new (f := fun b => .tuple [.map b, .bool true]) (ob := .map (mV (madeL 2 (pz l 2 r s) (tx4 t0 t1 t2 t3))) 2 false) hmix o23 hcf (names_bool names_map true) (plain_mV _ _) (fun _ h => by cases h) (fun u m' h => endN_of (pre := []) (f := fun b => .tuple [.map b, .bool true]) (b := 2) (Nat.zero_le _) h) run
    · have e : n = 3 := by omega
      subst e
      have h28 := S28.mk [cutT t0, cutT t1] (fun g h => by simp only [List.mem_cons, List.not_mem_nil, or_false] at h; rcases h with rfl | rfl <;> exact cut_len _) (by simp) (by simp)
      have run := md_2 Ys.none l 3 r s t0 t1 t2 t3 ((pz l 3 r s + 1 + ((0 : Nat) : Int)) % 3) ((pz l 3 r s + 1 + ((1 : Nat) : Int)) % 3) (pz l 3 r s) (cutT t0) (cutT t1) (t0 ++ zr) (t1 ++ zr) (sumG [cutT t0, cutT t1]) h16 ho rfl R18_0 (add_zr (show t0.length ≤ 200 from hl 0)) (cut_at t0) (find_lit (O := []) (fun y hy => by cases hy)) (add_zr (show t1.length ≤ 200 from hl 1)) (cut_at t1) (find_lit (O := [((pz l 3 r s + 1 + ((0 : Nat) : Int)) % 3, cutT t0, 0)]) (fun y hy => by simp only [List.mem_cons, List.not_mem_nil, or_false] at hy; rcases hy with rfl <;> simp only <;> omega)) h28 rfl (find_lit (O := [((pz l 3 r s + 1 + ((0 : Nat) : Int)) % 3, cutT t0, 0), ((pz l 3 r s + 1 + ((1 : Nat) : Int)) % 3, cutT t1, 1)]) (fun y hy => by simp only [List.mem_cons, List.not_mem_nil, or_false] at hy; rcases hy with rfl | rfl <;> simp only <;> omega))
      refine conOk_new (f := fun b => .tuple [.map b, .bool true]) (ob := .map (mV (madeL 3 (pz l 3 r s) (tx4 t0 t1 t2 t3))) 3 false) hmix o23 hcf (names_bool names_map true) (plain_mV _ _) (fun _ h => by cases h) (fun u m' h => endN_of (pre := []) (f := fun b => .tuple [.map b, .bool true]) (b := 2) (Nat.zero_le _) h) run
    · have e : n = 4 := by omega
      subst e
      have h28 := S28.mk [cutT t0, cutT t1, cutT t2] (fun g h => by simp only [List.mem_cons, List.not_mem_nil, or_false] at h; rcases h with rfl | rfl | rfl <;> exact cut_len _) (by simp) (by simp)
      have run := md_3 Ys.none l 4 r s t0 t1 t2 t3 ((pz l 4 r s + 1 + ((0 : Nat) : Int)) % 4) ((pz l 4 r s + 1 + ((1 : Nat) : Int)) % 4) ((pz l 4 r s + 1 + ((2 : Nat) : Int)) % 4) (pz l 4 r s) (cutT t0) (cutT t1) (cutT t2) (t0 ++ zr) (t1 ++ zr) (t2 ++ zr) (sumG [cutT t0, cutT t1, cutT t2]) h16 ho rfl R18_0 (add_zr (show t0.length ≤ 200 from hl 0)) (cut_at t0) (find_lit (O := []) (fun y hy => by cases hy)) (add_zr (show t1.length ≤ 200 from hl 1)) (cut_at t1) (find_lit (O := [((pz l 4 r s + 1 + ((0 : Nat) : Int)) % 4, cutT t0, 0)]) (fun y hy => by simp only [List.mem_cons, List.not_mem_nil, or_false] at hy; rcases hy with rfl <;> simp only <;> omega)) (add_zr (show t2.length ≤ 200 from hl 2)) (cut_at t2) (find_lit (O := [((pz l 4 r s + 1 + ((0 : Nat) : Int)) % 4, cutT t0, 0), ((pz l 4 r s + 1 + ((1 : Nat) : Int)) % 4, cutT t1, 1)]) (fun y hy => by simp only [List.mem_cons, List.not_mem_nil, or_false] at hy; rcases hy with rfl | rfl <;> simp only <;> omega)) h28 rfl (find_lit (O := [((pz l 4 r s + 1 + ((0 : Nat) : Int)) % 4, cutT t0, 0), ((pz l 4 r s + 1 + ((1 : Nat) : Int)) % 4, cutT t1, 1), ((pz l 4 r s + 1 + ((2 : Nat) : Int)) % 4, cutT t2, 2)]) (fun y hy => by simp only [List.mem_cons, List.not_mem_nil, or_false] at hy; rcases hy with rfl | rfl | rfl <;> simp only <;> omega))
      refine conOk_new (f := fun b => .tuple [.map b, .bool true]) (ob := .map (mV (madeL 4 (pz l 4 r s) (tx4 t0 t1 t2 t3))) 4 false) hmix o23 hcf (names_bool names_map true) (plain_mV _ _) (fun _ h => by cases h) (fun u m' h => endN_of (pre := []) (f := fun b => .tuple [.map b, .bool true]) (b := 2) (Nat.zero_le _) h) run
end
end Go.Proofs.Ytjikaankdnmabaa
