/- What is read of what was written; the law by its cases. No condition. -/
import Derived.Test.YthmbmcpjakbepaaSLa
namespace Go.Proofs.Ythmbmcpjakbepaa
open Go Go.AM
set_option maxRecDepth 100000
set_option maxHeartbeats 0
set_option linter.unusedVariables false
/-! SuperBack's plain law. -/
theorem num4 (n : Nat) (h : n < 4294967296) : n % 256 + n / 256 % 256 * 256 + n / 65536 % 256 * 65536 + n / 16777216 * 16777216 = n := by omega
section
variable {a m l n r e p x0 x1 x2 x3 c : Int}
theorem u_of {x : Int} (h0 : 0 ≤ x) (h1 : x < 4294967296) : ((u x : Nat) : Int) = x := by
  obtain ⟨k, rfl⟩ := Int.eq_ofNat_of_zero_le h0
  have : u ((k : Nat) : Int) = k := toUE_u32 rfl (by omega)
  rw [this]
theorem recZ_len : (recZ a m l n r e p x0 x1 x2 x3 c).length = 64 := by rw [recZ_eq]; rfl
theorem recZ_magic : magicB (recZ a m l n r e p x0 x1 x2 x3 c) = true := by rw [recZ_eq]; rfl
theorem recZ_take : (recZ a m l n r e p x0 x1 x2 x3 c).take 60 = bodyL (u a) (u m) (u l) (u n) (u r) (u e) (u p) (u c) (u x0) (u x1) (u x2) (u x3) := by rw [recZ_eq]; rfl
theorem recZ_60 : num (recZ a m l n r e p x0 x1 x2 x3 c) 60 = sumT ((recZ a m l n r e p x0 x1 x2 x3 c).take 60) := by
  rw [recZ_take, recZ_eq]
  exact num4 _ (sumT_lt _)
theorem nI_rec {i : Nat} {x : Int} (h : num (recZ a m l n r e p x0 x1 x2 x3 c) i = u x % 256 + u x / 256 % 256 * 256 + u x / 65536 % 256 * 65536 + u x / 16777216 * 16777216) (h0 : 0 ≤ x) (h1 : x < 4294967296) : nI (recZ a m l n r e p x0 x1 x2 x3 c) i = x := by
  rw [nI, h, num4 _ (toU_lt x)]
  exact u_of h0 h1
theorem back_all (h : rightS a m l n r e p x0 x1 x2 x3 c = true) : errR (recZ a m l n r e p x0 x1 x2 x3 c) = 0 ∧ fld (recZ a m l n r e p x0 x1 x2 x3 c) 4 = a ∧ fld (recZ a m l n r e p x0 x1 x2 x3 c) 8 = m ∧ fld (recZ a m l n r e p x0 x1 x2 x3 c) 12 = l ∧ fld (recZ a m l n r e p x0 x1 x2 x3 c) 16 = n ∧ fld (recZ a m l n r e p x0 x1 x2 x3 c) 20 = r ∧ fld (recZ a m l n r e p x0 x1 x2 x3 c) 24 = e ∧ fld (recZ a m l n r e p x0 x1 x2 x3 c) 28 = p ∧ fld (recZ a m l n r e p x0 x1 x2 x3 c) 36 = x0 ∧ fld (recZ a m l n r e p x0 x1 x2 x3 c) 40 = x1 ∧ fld (recZ a m l n r e p x0 x1 x2 x3 c) 44 = x2 ∧ fld (recZ a m l n r e p x0 x1 x2 x3 c) 48 = x3 ∧ fld (recZ a m l n r e p x0 x1 x2 x3 c) 32 = c := by
  have hp : rightP a m l n r e p x0 x1 x2 x3 c := of_decide_eq_true (by rw [← rightS_eq]; exact h)
  unfold rightP rgP at hp
  have i4 : nI (recZ a m l n r e p x0 x1 x2 x3 c) 4 = a := nI_rec (by rw [recZ_eq]; rfl) (by omega) (by omega)
  have i8 : nI (recZ a m l n r e p x0 x1 x2 x3 c) 8 = m := nI_rec (by rw [recZ_eq]; rfl) (by omega) (by omega)
  have i12 : nI (recZ a m l n r e p x0 x1 x2 x3 c) 12 = l := nI_rec (by rw [recZ_eq]; rfl) (by omega) (by omega)
  have i16 : nI (recZ a m l n r e p x0 x1 x2 x3 c) 16 = n := nI_rec (by rw [recZ_eq]; rfl) (by omega) (by omega)
  have i20 : nI (recZ a m l n r e p x0 x1 x2 x3 c) 20 = r := nI_rec (by rw [recZ_eq]; rfl) (by omega) (by omega)
  have i24 : nI (recZ a m l n r e p x0 x1 x2 x3 c) 24 = e := nI_rec (by rw [recZ_eq]; rfl) (by omega) (by omega)
  have i28 : nI (recZ a m l n r e p x0 x1 x2 x3 c) 28 = p := nI_rec (by rw [recZ_eq]; rfl) (by omega) (by omega)
  have i36 : nI (recZ a m l n r e p x0 x1 x2 x3 c) 36 = x0 := nI_rec (by rw [recZ_eq]; rfl) (by omega) (by omega)
  have i40 : nI (recZ a m l n r e p x0 x1 x2 x3 c) 40 = x1 := nI_rec (by rw [recZ_eq]; rfl) (by omega) (by omega)
  have i44 : nI (recZ a m l n r e p x0 x1 x2 x3 c) 44 = x2 := nI_rec (by rw [recZ_eq]; rfl) (by omega) (by omega)
  have i48 : nI (recZ a m l n r e p x0 x1 x2 x3 c) 48 = x3 := nI_rec (by rw [recZ_eq]; rfl) (by omega) (by omega)
  have i32 : nI (recZ a m l n r e p x0 x1 x2 x3 c) 32 = c := nI_rec (by rw [recZ_eq]; rfl) (by omega) (by omega)
  have hr : rigR (recZ a m l n r e p x0 x1 x2 x3 c) = true := by unfold rigR; rw [i4, i8, i12, i16, i20, i24, i28, i36, i40, i44, i48, i32]; exact h
  have ho : recO (recZ a m l n r e p x0 x1 x2 x3 c) = recZ a m l n r e p x0 x1 x2 x3 c := by unfold recO; rw [i4, i8, i12, i16, i20, i24, i28, i36, i40, i44, i48, i32]
  have e0 : errV (recZ a m l n r e p x0 x1 x2 x3 c) = 0 := by unfold errV; rw [if_pos ⟨recZ_len, recZ_magic⟩, if_pos recZ_60, if_pos ⟨hr, by rw [ho]; exact beqL_self _⟩]
  exact ⟨by rw [errR_eq]; exact e0, by rw [fld_eq, if_pos e0]; exact i4, by rw [fld_eq, if_pos e0]; exact i8, by rw [fld_eq, if_pos e0]; exact i12, by rw [fld_eq, if_pos e0]; exact i16, by rw [fld_eq, if_pos e0]; exact i20, by rw [fld_eq, if_pos e0]; exact i24, by rw [fld_eq, if_pos e0]; exact i28, by rw [fld_eq, if_pos e0]; exact i36, by rw [fld_eq, if_pos e0]; exact i40, by rw [fld_eq, if_pos e0]; exact i44, by rw [fld_eq, if_pos e0]; exact i48, by rw [fld_eq, if_pos e0]; exact i32⟩
end
theorem read_ok {t : List Nat} (h : errR t = 0) : errS (fld t 4) (fld t 8) (fld t 12) (fld t 16) (fld t 20) (fld t 24) (fld t 28) (fld t 36) (fld t 40) (fld t 44) (fld t 48) (fld t 32) = 0 ∧ beqL (txtS (fld t 4) (fld t 8) (fld t 12) (fld t 16) (fld t 20) (fld t 24) (fld t 28) (fld t 36) (fld t 40) (fld t 44) (fld t 48) (fld t 32)) t = true ∧ rightS (fld t 4) (fld t 8) (fld t 12) (fld t 16) (fld t 20) (fld t 24) (fld t 28) (fld t 36) (fld t 40) (fld t 44) (fld t 48) (fld t 32) = true := by
  have e : errV t = 0 := by rw [← errR_eq]; exact h
  have hc : rigR t = true ∧ beqL (recO t) t = true := by
    have e' := e
    unfold errV at e'
    split at e'
    · split at e'
      · split at e'
        · assumption
        · exact absurd e' (by decide)
      · exact absurd e' (by decide)
    · exact absurd e' (by decide)
  have f : ∀ i, fld t i = nI t i := fun i => by rw [fld_eq, if_pos e]
  simp only [f]
  refine ⟨errO_t hc.1, ?_, hc.1⟩
  have := txtO_t hc.1
  unfold txtO at this
  rw [this]; exact hc.2
theorem read_bad {t : List Nat} (h : errR t ≠ 0) (i : Nat) : fld t i = 0 := by
  rw [fld_eq, if_neg]
  rw [← errR_eq]; exact h
theorem lback_walk (Y : Ys Prop) (a m l n r e p x0 x1 x2 x3 c : Int) (t : List Nat) (K : V → Mem → Prop) (hK : ∀ mm, K (.bool true) mm) : body1 pA (callD pA tb0 la8 5) Y c5 [sup a m l n r e p x0 x1 x2 x3 c, .str t] ⟨0, .leaf⟩ K := by
  by_cases lt : 300 < List.length t
  · exact lback_al Y a m l n r e p x0 x1 x2 x3 c t lt K hK
  cases h : rightS a m l n r e p x0 x1 x2 x3 c with
  | true =>
    have hb := back_all h
    rw [← txtS_y h] at hb
    obtain ⟨e1, f4, f8, f12, f16, f20, f24, f28, f36, f40, f44, f48, f32⟩ := hb
    have ln : List.length (txtS a m l n r e p x0 x1 x2 x3 c) = 64 := by rw [txtS_y h]; exact recZ_len
    by_cases g : errR t = 0
    · obtain ⟨q2, w2, r2⟩ := read_ok g
      exact lback_ad Y a m l n r e p x0 x1 x2 x3 c t lt (errS_y h) e1 ln f4 f8 f12 f16 f20 f24 f28 f36 f40 f44 f48 f32 g q2 w2 r2 K hK
    · exact lback_ac Y a m l n r e p x0 x1 x2 x3 c t lt (errS_y h) e1 ln f4 f8 f12 f16 f20 f24 f28 f36 f40 f44 f48 f32 g (read_bad g _) (read_bad g _) (read_bad g _) (read_bad g _) (read_bad g _) (read_bad g _) (read_bad g _) (read_bad g _) (read_bad g _) (read_bad g _) (read_bad g _) (read_bad g _) K hK
  | false =>
    by_cases g : errR t = 0
    · obtain ⟨q2, w2, r2⟩ := read_ok g
      exact lback_bd Y a m l n r e p x0 x1 x2 x3 c t lt (errS_n h) g q2 w2 r2 K hK
    · exact lback_bc Y a m l n r e p x0 x1 x2 x3 c t lt (errS_n h) g (read_bad g _) (read_bad g _) (read_bad g _) (read_bad g _) (read_bad g _) (read_bad g _) (read_bad g _) (read_bad g _) (read_bad g _) (read_bad g _) (read_bad g _) (read_bad g _) K hK

end Go.Proofs.Ythmbmcpjakbepaa
