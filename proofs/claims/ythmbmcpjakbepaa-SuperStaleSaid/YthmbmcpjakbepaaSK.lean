/- Read and Of by what they answer; what is read of what was written. No condition. -/
import Derived.Test.YthmbmcpjakbepaaSR
namespace Go.Proofs.Ythmbmcpjakbepaa
open Go Go.AM
set_option maxRecDepth 100000
set_option maxHeartbeats 0
set_option linter.unusedVariables false
theorem len_succ {s : List Nat} {n : Nat} (h : s.length = n + 1) : ∃ b t, s = b :: t ∧ t.length = n := by
  cases s with
  | nil => simp at h
  | cons b t => exact ⟨b, t, rfl, by simpa using h⟩
theorem all_cons {b : Nat} {t : List Nat} (h : ∀ x ∈ b :: t, x < 256) : b < 256 ∧ ∀ x ∈ t, x < 256 := ⟨h b List.mem_cons_self, fun x hx => h x (List.mem_cons_of_mem _ hx)⟩
theorem sread_walk (Y : Ys Prop) (s : List Nat) (hs : ∀ b ∈ s, b < 256) (K : V → Mem → Prop) (hK : ∀ mm, K (rdV s) mm) : body1 pA (callD pA tbD la4 5) Y c18 [.str s] ⟨0, .leaf⟩ K := by
  by_cases hl : s.length = 64
  · obtain ⟨b0, s0, rfl, hl1⟩ := len_succ hl
    obtain ⟨k0, hs1⟩ := all_cons hs
    obtain ⟨b1, s1, rfl, hl2⟩ := len_succ hl1
    obtain ⟨k1, hs2⟩ := all_cons hs1
    obtain ⟨b2, s2, rfl, hl3⟩ := len_succ hl2
    obtain ⟨k2, hs3⟩ := all_cons hs2
    obtain ⟨b3, s3, rfl, hl4⟩ := len_succ hl3
    obtain ⟨k3, hs4⟩ := all_cons hs3
    obtain ⟨b4, s4, rfl, hl5⟩ := len_succ hl4
    obtain ⟨k4, hs5⟩ := all_cons hs4
    obtain ⟨b5, s5, rfl, hl6⟩ := len_succ hl5
    obtain ⟨k5, hs6⟩ := all_cons hs5
    obtain ⟨b6, s6, rfl, hl7⟩ := len_succ hl6
    obtain ⟨k6, hs7⟩ := all_cons hs6
    obtain ⟨b7, s7, rfl, hl8⟩ := len_succ hl7
    obtain ⟨k7, hs8⟩ := all_cons hs7
    obtain ⟨b8, s8, rfl, hl9⟩ := len_succ hl8
    obtain ⟨k8, hs9⟩ := all_cons hs8
    obtain ⟨b9, s9, rfl, hl10⟩ := len_succ hl9
    obtain ⟨k9, hs10⟩ := all_cons hs9
    obtain ⟨b10, s10, rfl, hl11⟩ := len_succ hl10
    obtain ⟨k10, hs11⟩ := all_cons hs10
    obtain ⟨b11, s11, rfl, hl12⟩ := len_succ hl11
    obtain ⟨k11, hs12⟩ := all_cons hs11
    obtain ⟨b12, s12, rfl, hl13⟩ := len_succ hl12
    obtain ⟨k12, hs13⟩ := all_cons hs12
    obtain ⟨b13, s13, rfl, hl14⟩ := len_succ hl13
    obtain ⟨k13, hs14⟩ := all_cons hs13
    obtain ⟨b14, s14, rfl, hl15⟩ := len_succ hl14
    obtain ⟨k14, hs15⟩ := all_cons hs14
    obtain ⟨b15, s15, rfl, hl16⟩ := len_succ hl15
    obtain ⟨k15, hs16⟩ := all_cons hs15
    obtain ⟨b16, s16, rfl, hl17⟩ := len_succ hl16
    obtain ⟨k16, hs17⟩ := all_cons hs16
    obtain ⟨b17, s17, rfl, hl18⟩ := len_succ hl17
    obtain ⟨k17, hs18⟩ := all_cons hs17
    obtain ⟨b18, s18, rfl, hl19⟩ := len_succ hl18
    obtain ⟨k18, hs19⟩ := all_cons hs18
    obtain ⟨b19, s19, rfl, hl20⟩ := len_succ hl19
    obtain ⟨k19, hs20⟩ := all_cons hs19
    obtain ⟨b20, s20, rfl, hl21⟩ := len_succ hl20
    obtain ⟨k20, hs21⟩ := all_cons hs20
    obtain ⟨b21, s21, rfl, hl22⟩ := len_succ hl21
    obtain ⟨k21, hs22⟩ := all_cons hs21
    obtain ⟨b22, s22, rfl, hl23⟩ := len_succ hl22
    obtain ⟨k22, hs23⟩ := all_cons hs22
    obtain ⟨b23, s23, rfl, hl24⟩ := len_succ hl23
    obtain ⟨k23, hs24⟩ := all_cons hs23
    obtain ⟨b24, s24, rfl, hl25⟩ := len_succ hl24
    obtain ⟨k24, hs25⟩ := all_cons hs24
    obtain ⟨b25, s25, rfl, hl26⟩ := len_succ hl25
    obtain ⟨k25, hs26⟩ := all_cons hs25
    obtain ⟨b26, s26, rfl, hl27⟩ := len_succ hl26
    obtain ⟨k26, hs27⟩ := all_cons hs26
    obtain ⟨b27, s27, rfl, hl28⟩ := len_succ hl27
    obtain ⟨k27, hs28⟩ := all_cons hs27
    obtain ⟨b28, s28, rfl, hl29⟩ := len_succ hl28
    obtain ⟨k28, hs29⟩ := all_cons hs28
    obtain ⟨b29, s29, rfl, hl30⟩ := len_succ hl29
    obtain ⟨k29, hs30⟩ := all_cons hs29
    obtain ⟨b30, s30, rfl, hl31⟩ := len_succ hl30
    obtain ⟨k30, hs31⟩ := all_cons hs30
    obtain ⟨b31, s31, rfl, hl32⟩ := len_succ hl31
    obtain ⟨k31, hs32⟩ := all_cons hs31
    obtain ⟨b32, s32, rfl, hl33⟩ := len_succ hl32
    obtain ⟨k32, hs33⟩ := all_cons hs32
    obtain ⟨b33, s33, rfl, hl34⟩ := len_succ hl33
    obtain ⟨k33, hs34⟩ := all_cons hs33
    obtain ⟨b34, s34, rfl, hl35⟩ := len_succ hl34
    obtain ⟨k34, hs35⟩ := all_cons hs34
    obtain ⟨b35, s35, rfl, hl36⟩ := len_succ hl35
    obtain ⟨k35, hs36⟩ := all_cons hs35
    obtain ⟨b36, s36, rfl, hl37⟩ := len_succ hl36
    obtain ⟨k36, hs37⟩ := all_cons hs36
    obtain ⟨b37, s37, rfl, hl38⟩ := len_succ hl37
    obtain ⟨k37, hs38⟩ := all_cons hs37
    obtain ⟨b38, s38, rfl, hl39⟩ := len_succ hl38
    obtain ⟨k38, hs39⟩ := all_cons hs38
    obtain ⟨b39, s39, rfl, hl40⟩ := len_succ hl39
    obtain ⟨k39, hs40⟩ := all_cons hs39
    obtain ⟨b40, s40, rfl, hl41⟩ := len_succ hl40
    obtain ⟨k40, hs41⟩ := all_cons hs40
    obtain ⟨b41, s41, rfl, hl42⟩ := len_succ hl41
    obtain ⟨k41, hs42⟩ := all_cons hs41
    obtain ⟨b42, s42, rfl, hl43⟩ := len_succ hl42
    obtain ⟨k42, hs43⟩ := all_cons hs42
    obtain ⟨b43, s43, rfl, hl44⟩ := len_succ hl43
    obtain ⟨k43, hs44⟩ := all_cons hs43
    obtain ⟨b44, s44, rfl, hl45⟩ := len_succ hl44
    obtain ⟨k44, hs45⟩ := all_cons hs44
    obtain ⟨b45, s45, rfl, hl46⟩ := len_succ hl45
    obtain ⟨k45, hs46⟩ := all_cons hs45
    obtain ⟨b46, s46, rfl, hl47⟩ := len_succ hl46
    obtain ⟨k46, hs47⟩ := all_cons hs46
    obtain ⟨b47, s47, rfl, hl48⟩ := len_succ hl47
    obtain ⟨k47, hs48⟩ := all_cons hs47
    obtain ⟨b48, s48, rfl, hl49⟩ := len_succ hl48
    obtain ⟨k48, hs49⟩ := all_cons hs48
    obtain ⟨b49, s49, rfl, hl50⟩ := len_succ hl49
    obtain ⟨k49, hs50⟩ := all_cons hs49
    obtain ⟨b50, s50, rfl, hl51⟩ := len_succ hl50
    obtain ⟨k50, hs51⟩ := all_cons hs50
    obtain ⟨b51, s51, rfl, hl52⟩ := len_succ hl51
    obtain ⟨k51, hs52⟩ := all_cons hs51
    obtain ⟨b52, s52, rfl, hl53⟩ := len_succ hl52
    obtain ⟨k52, hs53⟩ := all_cons hs52
    obtain ⟨b53, s53, rfl, hl54⟩ := len_succ hl53
    obtain ⟨k53, hs54⟩ := all_cons hs53
    obtain ⟨b54, s54, rfl, hl55⟩ := len_succ hl54
    obtain ⟨k54, hs55⟩ := all_cons hs54
    obtain ⟨b55, s55, rfl, hl56⟩ := len_succ hl55
    obtain ⟨k55, hs56⟩ := all_cons hs55
    obtain ⟨b56, s56, rfl, hl57⟩ := len_succ hl56
    obtain ⟨k56, hs57⟩ := all_cons hs56
    obtain ⟨b57, s57, rfl, hl58⟩ := len_succ hl57
    obtain ⟨k57, hs58⟩ := all_cons hs57
    obtain ⟨b58, s58, rfl, hl59⟩ := len_succ hl58
    obtain ⟨k58, hs59⟩ := all_cons hs58
    obtain ⟨b59, s59, rfl, hl60⟩ := len_succ hl59
    obtain ⟨k59, hs60⟩ := all_cons hs59
    obtain ⟨b60, s60, rfl, hl61⟩ := len_succ hl60
    obtain ⟨k60, hs61⟩ := all_cons hs60
    obtain ⟨b61, s61, rfl, hl62⟩ := len_succ hl61
    obtain ⟨k61, hs62⟩ := all_cons hs61
    obtain ⟨b62, s62, rfl, hl63⟩ := len_succ hl62
    obtain ⟨k62, hs63⟩ := all_cons hs62
    obtain ⟨b63, s63, rfl, hl64⟩ := len_succ hl63
    obtain ⟨k63, hs64⟩ := all_cons hs63
    obtain rfl := List.eq_nil_of_length_eq_zero hl64
    exact sread_t Y b0 b1 b2 b3 b4 b5 b6 b7 b8 b9 b10 b11 b12 b13 b14 b15 b16 b17 b18 b19 b20 b21 b22 b23 b24 b25 b26 b27 b28 b29 b30 b31 b32 b33 b34 b35 b36 b37 b38 b39 b40 b41 b42 b43 b44 b45 b46 b47 b48 b49 b50 b51 b52 b53 b54 b55 b56 b57 b58 b59 b60 b61 b62 b63 k0 k1 k2 k3 k4 k5 k6 k7 k8 k9 k10 k11 k12 k13 k14 k15 k16 k17 k18 k19 k20 k21 k22 k23 k24 k25 k26 k27 k28 k29 k30 k31 k32 k33 k34 k35 k36 k37 k38 k39 k40 k41 k42 k43 k44 k45 k46 k47 k48 k49 k50 k51 k52 k53 k54 k55 k56 k57 k58 k59 k60 k61 k62 k63 K hK
  · exact sread_l Y s hl K hK
section
variable {P : Program}
theorem tbD_ok (o28 : FOk P 28 c28) (o37 : FOk P 37 c37) : TabOk P tbD := by
  intro f af h
  simp only [tbD] at h
  by_cases e : f = 28
  · subst e; cases h; exact o28
  · rw [nbeqF e, cond_false] at h
    by_cases e' : f = 37
    · subst e'; cases h; exact o37
    · rw [nbeqF e'] at h; cases h
variable (hmix : P.follows .mixedOrders = true)
include hmix
theorem rdR_ok {n : Nat} {af : AFunc} (o : FOk P n af) (h4 : LastOk P la4 id) (ht : TabOk P tbD) (hw : ∀ (Y : Ys Prop) (s : List Nat), (∀ b ∈ s, b < 256) → ∀ (K : V → Mem → Prop), (∀ mm, K (rdV s) mm) → body1 pA (callD pA tbD la4 5) Y af [.str s] ⟨0, .leaf⟩ K) :
    ∀ (ρ : Ren) (args : List V) (args' : List Value) (v : V), rdR args = some v → VRs ρ args args' → Answers P n args' v := by
  intro ρ args args' v h ha
  unfold rdR at h
  split at h
  · rename_i s
    cases h
    cases ha with | cons hs hn =>
    cases hn
    cases hs with | str b =>
    exact answers_of_walk hmix o (callD_sound pHolds hmix ht h4 5) (ρ := ρ) (.cons (.str _) .nil) rfl rfl fun K hK => hw _ _ (bytesOf_lt _) K hK
  · cases h
theorem la6_ok (h4 : LastOk P la4 id) (o18 : FOk P 18 c18) (o28 : FOk P 28 c28) (o37 : FOk P 37 c37) : LastOk P la6 id :=
  lastFn_ok (callable_fok o18) (rdR_ok hmix o18 h4 (tbD_ok o28 o37) sread_walk) h4
end
theorem num4 (n : Nat) (h : n < 4294967296) : n % 256 + n / 256 % 256 * 256 + n / 65536 % 256 * 65536 + n / 16777216 * 16777216 = n := by omega
section
variable {a m l n r e p x0 x1 x2 x3 c : Int}
theorem u_of {x : Int} (h0 : 0 ≤ x) (h1 : x < 4294967296) : ((u x : Nat) : Int) = x := by
  obtain ⟨k, rfl⟩ := Int.eq_ofNat_of_zero_le h0
  have : u ((k : Nat) : Int) = k := toUE_u32 rfl (by omega)
  rw [this]
theorem recZ_len : (recZ a m l n r e p x0 x1 x2 x3 c).length = 64 := by rw [recZ_eq]; rfl
theorem recZ_magic : magicB (recZ a m l n r e p x0 x1 x2 x3 c) = true := by rw [recZ_eq]; rfl
theorem recZ_take : (recZ a m l n r e p x0 x1 x2 x3 c).take 60 = bodyL (u a) (u m) (u l) (u n) (u r) (u e) (u p) (u c) (u x0) (u x1) (u x2) (u x3) := by rw [recZ_eq]; rfl
theorem recZ_60 : num (recZ a m l n r e p x0 x1 x2 x3 c) 60 = sumT ((recZ a m l n r e p x0 x1 x2 x3 c).take 60) := by
  rw [recZ_take, recZ_eq]
  exact num4 _ (sumT_lt _)
theorem nI_rec {i : Nat} {x : Int} (h : num (recZ a m l n r e p x0 x1 x2 x3 c) i = u x % 256 + u x / 256 % 256 * 256 + u x / 65536 % 256 * 65536 + u x / 16777216 * 16777216) (h0 : 0 ≤ x) (h1 : x < 4294967296) : nI (recZ a m l n r e p x0 x1 x2 x3 c) i = x := by
  rw [nI, h, num4 _ (toU_lt x)]
  exact u_of h0 h1
theorem back_all (h : rightS a m l n r e p x0 x1 x2 x3 c = true) : errR (recZ a m l n r e p x0 x1 x2 x3 c) = 0 ∧ fld (recZ a m l n r e p x0 x1 x2 x3 c) 4 = a ∧ fld (recZ a m l n r e p x0 x1 x2 x3 c) 8 = m ∧ fld (recZ a m l n r e p x0 x1 x2 x3 c) 12 = l ∧ fld (recZ a m l n r e p x0 x1 x2 x3 c) 16 = n ∧ fld (recZ a m l n r e p x0 x1 x2 x3 c) 20 = r ∧ fld (recZ a m l n r e p x0 x1 x2 x3 c) 24 = e ∧ fld (recZ a m l n r e p x0 x1 x2 x3 c) 28 = p ∧ fld (recZ a m l n r e p x0 x1 x2 x3 c) 36 = x0 ∧ fld (recZ a m l n r e p x0 x1 x2 x3 c) 40 = x1 ∧ fld (recZ a m l n r e p x0 x1 x2 x3 c) 44 = x2 ∧ fld (recZ a m l n r e p x0 x1 x2 x3 c) 48 = x3 ∧ fld (recZ a m l n r e p x0 x1 x2 x3 c) 32 = c := by
  have hp : rightP a m l n r e p x0 x1 x2 x3 c := of_decide_eq_true (by rw [← rightS_eq]; exact h)
  unfold rightP rgP at hp
  have i4 : nI (recZ a m l n r e p x0 x1 x2 x3 c) 4 = a := nI_rec (by rw [recZ_eq]; rfl) (by omega) (by omega)
  have i8 : nI (recZ a m l n r e p x0 x1 x2 x3 c) 8 = m := nI_rec (by rw [recZ_eq]; rfl) (by omega) (by omega)
  have i12 : nI (recZ a m l n r e p x0 x1 x2 x3 c) 12 = l := nI_rec (by rw [recZ_eq]; rfl) (by omega) (by omega)
  have i16 : nI (recZ a m l n r e p x0 x1 x2 x3 c) 16 = n := nI_rec (by rw [recZ_eq]; rfl) (by omega) (by omega)
  have i20 : nI (recZ a m l n r e p x0 x1 x2 x3 c) 20 = r := nI_rec (by rw [recZ_eq]; rfl) (by omega) (by omega)
  have i24 : nI (recZ a m l n r e p x0 x1 x2 x3 c) 24 = e := nI_rec (by rw [recZ_eq]; rfl) (by omega) (by omega)
  have i28 : nI (recZ a m l n r e p x0 x1 x2 x3 c) 28 = p := nI_rec (by rw [recZ_eq]; rfl) (by omega) (by omega)
  have i36 : nI (recZ a m l n r e p x0 x1 x2 x3 c) 36 = x0 := nI_rec (by rw [recZ_eq]; rfl) (by omega) (by omega)
  have i40 : nI (recZ a m l n r e p x0 x1 x2 x3 c) 40 = x1 := nI_rec (by rw [recZ_eq]; rfl) (by omega) (by omega)
  have i44 : nI (recZ a m l n r e p x0 x1 x2 x3 c) 44 = x2 := nI_rec (by rw [recZ_eq]; rfl) (by omega) (by omega)
  have i48 : nI (recZ a m l n r e p x0 x1 x2 x3 c) 48 = x3 := nI_rec (by rw [recZ_eq]; rfl) (by omega) (by omega)
  have i32 : nI (recZ a m l n r e p x0 x1 x2 x3 c) 32 = c := nI_rec (by rw [recZ_eq]; rfl) (by omega) (by omega)
  have hr : rigR (recZ a m l n r e p x0 x1 x2 x3 c) = true := by unfold rigR; rw [i4, i8, i12, i16, i20, i24, i28, i36, i40, i44, i48, i32]; exact h
  have ho : recO (recZ a m l n r e p x0 x1 x2 x3 c) = recZ a m l n r e p x0 x1 x2 x3 c := by unfold recO; rw [i4, i8, i12, i16, i20, i24, i28, i36, i40, i44, i48, i32]
  have e0 : errV (recZ a m l n r e p x0 x1 x2 x3 c) = 0 := by unfold errV; rw [if_pos ⟨recZ_len, recZ_magic⟩, if_pos recZ_60, if_pos ⟨hr, by rw [ho]; exact beqL_self _⟩]
  exact ⟨by rw [errR_eq]; exact e0, by rw [fld_eq, if_pos e0]; exact i4, by rw [fld_eq, if_pos e0]; exact i8, by rw [fld_eq, if_pos e0]; exact i12, by rw [fld_eq, if_pos e0]; exact i16, by rw [fld_eq, if_pos e0]; exact i20, by rw [fld_eq, if_pos e0]; exact i24, by rw [fld_eq, if_pos e0]; exact i28, by rw [fld_eq, if_pos e0]; exact i36, by rw [fld_eq, if_pos e0]; exact i40, by rw [fld_eq, if_pos e0]; exact i44, by rw [fld_eq, if_pos e0]; exact i48, by rw [fld_eq, if_pos e0]; exact i32⟩
end
end Go.Proofs.Ythmbmcpjakbepaa
