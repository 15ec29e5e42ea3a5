/- What Of says of sectors that were written. No condition. -/
import Derived.Test.YthmbmcpjakbepaaSK
namespace Go.Proofs.Ythmbmcpjakbepaa
open Go Go.AM
set_option maxRecDepth 100000
set_option maxHeartbeats 0
set_option linter.unusedVariables false
theorem zeros (Y : Ys Prop)  (K : V → Mem → Prop) (hK : ∀ mm, K (.str zz) mm) :
   body1 pA (callD pA tb0 la0 5) Y c22 [] ⟨0, .leaf⟩ K :=
  walk_of_vc (mono_false) .nil
  (show (V.str (0 :: 0 :: 0 :: 0 :: 0 :: 0 :: 0 :: 0 :: 0 :: 0 :: 0 :: 0 :: 0 :: 0 :: 0 :: 0 :: 0 :: 0 :: 0 :: 0 :: 0 :: 0 :: 0 :: 0 :: 0 :: 0 :: 0 :: 0 :: 0 :: 0 :: 0 :: 0 :: 0 :: 0 :: 0 :: 0 :: 0 :: 0 :: 0 :: 0 :: 0 :: 0 :: 0 :: 0 :: 0 :: 0 :: 0 :: 0 :: 0 :: 0 :: 0 :: 0 :: 0 :: 0 :: 0 :: 0 :: 0 :: 0 :: 0 :: 0 :: 0 :: 0 :: 0 :: 0 :: []) = V.str zz) from
  (by rw [zz_eq]; kernel_rfl))
  (by kernel_rfl) Y K hK
section
variable {a m l n r e p x0 x1 x2 x3 c : Int}
theorem right_any (h : rightS a m l n r e p x0 x1 x2 x3 c = true) {E : Int} (h1 : 1 ≤ E) (h2 : E ≤ 2147483647) : rightS a m l n r E p x0 x1 x2 x3 c = true := by
  rw [rightS_eq, decide_eq_true_eq] at h ⊢
  unfold rightP at h ⊢
  obtain ⟨k1, k2, k3, k4, k5, k6, k7, k8⟩ := h
  exact ⟨k1, k2, k3, k4, k5, h1, h2, k8⟩
theorem errR_zz : errR zz ≠ 0 := by
  rw [errR_eq]
  have e : errV zz = 8 := by
    unfold errV
    rw [if_neg]
    rw [zz_eq]
    intro h
    have := h.2
    revert this
    decide
  omega
theorem ofR_1 {z o : List Nat} (h : errR z = 0 ∧ (errR o ≠ 0 ∨ fld o 24 ≤ fld z 24)) (f4 : fld z 4 = a) (f8 : fld z 8 = m) (f12 : fld z 12 = l) (f16 : fld z 16 = n) (f20 : fld z 20 = r) (f24 : fld z 24 = e) (f28 : fld z 28 = p) (f36 : fld z 36 = x0) (f40 : fld z 40 = x1) (f44 : fld z 44 = x2) (f48 : fld z 48 = x3) (f32 : fld z 32 = c) :
    ofRs [.str z, .str o] = some (.tuple [sup a m l n r e p x0 x1 x2 x3 c, .int .i64 1, .bool true]) := by
  have e := of1 h
  rw [f4, f8, f12, f16, f20, f24, f28, f36, f40, f44, f48, f32] at e
  rw [ofRs_eq]; exact congrArg some e.symm
theorem ofR_2 {z o : List Nat} (h : ¬ (errR z = 0 ∧ (errR o ≠ 0 ∨ fld o 24 ≤ fld z 24)) ∧ errR o = 0) (f4 : fld o 4 = a) (f8 : fld o 8 = m) (f12 : fld o 12 = l) (f16 : fld o 16 = n) (f20 : fld o 20 = r) (f24 : fld o 24 = e) (f28 : fld o 28 = p) (f36 : fld o 36 = x0) (f40 : fld o 40 = x1) (f44 : fld o 44 = x2) (f48 : fld o 48 = x3) (f32 : fld o 32 = c) :
    ofRs [.str z, .str o] = some (.tuple [sup a m l n r e p x0 x1 x2 x3 c, .int .i64 0, .bool true]) := by
  have e := of2 h
  rw [f4, f8, f12, f16, f20, f24, f28, f36, f40, f44, f48, f32] at e
  rw [ofRs_eq]; exact congrArg some e.symm
theorem back_T (h : rightS a m l n r e p x0 x1 x2 x3 c = true) {E : Int} (h1 : 1 ≤ E) (h2 : E ≤ 2147483647) :
    errR (txtS a m l n r E p x0 x1 x2 x3 c) = 0 ∧ fld (txtS a m l n r E p x0 x1 x2 x3 c) 24 = E ∧ (∀ o, (errR o ≠ 0 ∨ fld o 24 ≤ E) → ofRs [.str (txtS a m l n r E p x0 x1 x2 x3 c), .str o] = some (.tuple [sup a m l n r E p x0 x1 x2 x3 c, .int .i64 1, .bool true]))
     ∧ ∀ z, errR z = 0 → fld z 24 < E → ofRs [.str z, .str (txtS a m l n r E p x0 x1 x2 x3 c)] = some (.tuple [sup a m l n r E p x0 x1 x2 x3 c, .int .i64 0, .bool true]) := by
  have hb := back_all (right_any h h1 h2)
  rw [← txtS_y (right_any h h1 h2)] at hb
  obtain ⟨e1, f4, f8, f12, f16, f20, f24, f28, f36, f40, f44, f48, f32⟩ := hb
  refine ⟨e1, f24, fun o ho => ofR_1 ⟨e1, by rw [f24]; exact ho⟩ f4 f8 f12 f16 f20 f24 f28 f36 f40 f44 f48 f32, fun z e2 hz => ofR_2 ⟨fun x => ?_, e1⟩ f4 f8 f12 f16 f20 f24 f28 f36 f40 f44 f48 f32⟩
  rcases x.2 with y | y
  · exact y e1
  · rw [f24] at y; omega
end
section
variable {P : Program}
variable (hmix : P.follows .mixedOrders = true)
include hmix
theorem la10_ok (h6 : LastOk P la6 id) (o20 : FOk P 20 c20) (o22 : FOk P 22 c22) : LastOk P la10 id := by
  have l1 : LastOk P (lastFn 20 ofRs la6) id := lastFn_ok (callable_fok o20) (fun ρ args args' v hv ha => by
    rw [ofRs_eq] at hv
    unfold ofR at hv; split at hv
    · cases hv; exact answers_of_walk hmix o20 (callD_sound pHolds hmix tb0_ok h6 5) ha rfl rfl (fun K hK => sof_r _ _ _ K hK)
    · cases hv) h6
  exact lastFn_ok (callable_fok o22) (fun ρ args args' v hv ha => by
    unfold zerR at hv; split at hv
    · cases hv; exact answers_of_walk hmix o22 (callD_sound pHolds hmix tb0_ok la0_ok 5) ha rfl rfl (fun K hK => zeros _ K hK)
    · cases hv) l1
end
end Go.Proofs.Ythmbmcpjakbepaa
