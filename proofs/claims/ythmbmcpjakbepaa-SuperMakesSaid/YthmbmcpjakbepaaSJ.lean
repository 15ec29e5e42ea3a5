/- The functions of package super by what they answer. No condition. -/
import Derived.Test.YthmbmcpjakbepaaZW
namespace Go.Proofs.Ythmbmcpjakbepaa
open Go Go.AM
set_option maxRecDepth 100000
set_option maxHeartbeats 4000000
set_option linter.unusedVariables false
set_option linter.unusedSectionVars false
theorem errS_y {a m l n r e p x0 x1 x2 x3 c : Int} (h : rightS a m l n r e p x0 x1 x2 x3 c = true) : errS a m l n r e p x0 x1 x2 x3 c = 0 := by simp [errS, h]
theorem errS_n {a m l n r e p x0 x1 x2 x3 c : Int} (h : rightS a m l n r e p x0 x1 x2 x3 c = false) : errS a m l n r e p x0 x1 x2 x3 c = 1 := by simp [errS, h]
theorem txtS_y {a m l n r e p x0 x1 x2 x3 c : Int} (h : rightS a m l n r e p x0 x1 x2 x3 c = true) : txtS a m l n r e p x0 x1 x2 x3 c = recZ a m l n r e p x0 x1 x2 x3 c := by simp [txtS, h]
theorem txtS_n {a m l n r e p x0 x1 x2 x3 c : Int} (h : rightS a m l n r e p x0 x1 x2 x3 c = false) : txtS a m l n r e p x0 x1 x2 x3 c = [] := by simp [txtS, h]
theorem sright_walk (Y : Ys Prop) (a m l n r e p x0 x1 x2 x3 c : Int) (K : V → Mem → Prop) (hK : ∀ mm, K (.bool (rightS a m l n r e p x0 x1 x2 x3 c)) mm) : body1 pA (callD pA tbR la1 5) Y c15 [sup a m l n r e p x0 x1 x2 x3 c] ⟨0, .leaf⟩ K := by
 by_cases h : rgP l n r
 ·have hh := h
  obtain ⟨h1, h2, h3, h4⟩ := h
  rcases h1 with ⟨rfl, rfl⟩ | ⟨rfl, rfl | rfl⟩
  ·exact sright_2 Y a m r e p x0 x1 x2 x3 c (decide_eq_true hh) h2 h3 h4 K hK
  ·exact sright_3 Y a m r e p x0 x1 x2 x3 c (decide_eq_true hh) h2 h3 h4 K hK
  ·exact sright_4 Y a m r e p x0 x1 x2 x3 c (decide_eq_true hh) h2 h3 h4 K hK
 ·exact sright_n Y a m l n r e p x0 x1 x2 x3 c (decide_eq_false h) h K hK
theorem sbytes_walk (Y : Ys Prop) (a m l n r e p x0 x1 x2 x3 c : Int) (K : V → Mem → Prop) (hK : ∀ mm, K (.tuple [.str (txtS a m l n r e p x0 x1 x2 x3 c), .int .i64 (errS a m l n r e p x0 x1 x2 x3 c)]) mm) : body1 pA (callD pA tbB la3 5) Y c12 [sup a m l n r e p x0 x1 x2 x3 c] ⟨0, .leaf⟩ K := by
 cases h : rightS a m l n r e p x0 x1 x2 x3 c with
 | true =>
  refine sbytes_y Y a m l n r e p x0 x1 x2 x3 c h (toU_lt _) (toU_lt _) (toU_lt _) (toU_lt _) (toU_lt _) (toU_lt _) (toU_lt _) (toU_lt _) (toU_lt _) (toU_lt _) (toU_lt _) (toU_lt _) K fun mm => ?_
  have := hK mm
  rw [txtS_y h, errS_y h] at this
  exact this
 | false =>
  refine sbytes_n Y a m l n r e p x0 x1 x2 x3 c h K fun mm => ?_
  have := hK mm
  rw [txtS_n h, errS_n h] at this
  exact this
section
variable {P : Program}
theorem callable_fok {f : Nat} {af : AFunc} (h : FOk P f af) : Callable P f := by
 obtain ⟨fn, h3, h4, h5⟩ := h
 exact callable_of h3 (body_of_comp h4) h5
theorem la0_ok : LastOk P la0 id := last_none (A := pA) pHolds
theorem tb0_ok : TabOk P tb0 := fun f af h => nomatch h
theorem tbR_ok (o33 : FOk P 33 c33) (o34 : FOk P 34 c34) : TabOk P tbR := by
 intro f af h
 simp only [tbR] at h
 by_cases e : f = 33
 ·subst e; cases h; exact o33
 ·rw [nbeqF e, cond_false] at h
  by_cases e' : f = 34
  ·subst e'; cases h; exact o34
  ·rw [nbeqF e'] at h; cases h
theorem tbB_ok (o28 : FOk P 28 c28) (o29 : FOk P 29 c29) (o35 : FOk P 35 c35) : TabOk P tbB := by
 intro f af h
 simp only [tbB] at h
 by_cases e : f = 28
 ·subst e; cases h; exact o28
 ·rw [nbeqF e, cond_false] at h
  by_cases e' : f = 29
  ·subst e'; cases h; exact o29
  ·rw [nbeqF e', cond_false] at h
   by_cases e'' : f = 35
   ·subst e''; cases h; exact o35
   ·rw [nbeqF e''] at h; cases h
theorem tbG_ok (o14 : FOk P 14 c14) : TabOk P tbG := by
 intro f af h
 simp only [tbG] at h
 by_cases e : f = 14
 ·subst e; cases h; exact o14
 ·rw [nbeqF e] at h; cases h
variable (hmix : P.follows .mixedOrders = true)
include hmix
theorem la1_ok (o31 : FOk P 31 c31) (o32 : FOk P 32 c32) : LastOk P la1 id := by
 have l1 : LastOk P (lastFn 32 geoR la0) id := lastFn_ok (callable_fok o32) (fun ρ args args' v hv ha => by
  unfold geoR at hv; split at hv
  ·cases hv; exact answers_of_walk hmix o32 (callD_sound pHolds hmix tb0_ok la0_ok 5) ha rfl rfl (fun K hK => pright _ _ _ _ K hK)
  ·cases hv) la0_ok
 exact lastFn_ok (callable_fok o31) (fun ρ args args' v hv ha => by
  unfold geoR at hv; split at hv
  ·cases hv; exact answers_of_walk hmix o31 (callD_sound pHolds hmix tb0_ok la0_ok 5) ha rfl rfl (fun K hK => rright _ _ _ _ K hK)
  ·cases hv) l1
theorem sup15_ok (h1 : LastOk P la1 id) (o15 : FOk P 15 c15) (o33 : FOk P 33 c33) (o34 : FOk P 34 c34) {la : CF Prop} (hla : LastOk P la id) : LastOk P (lastFn 15 supR la) id := lastFn_ok (callable_fok o15) (fun ρ args args' v hv ha => by
  unfold supR at hv; split at hv
  ·cases hv; exact answers_of_walk hmix o15 (callD_sound pHolds hmix (tbR_ok o33 o34) h1 5) ha rfl rfl (fun K hK => sright_walk _ _ _ _ _ _ _ _ _ _ _ _ _ K hK)
  ·cases hv) hla
theorem sup13_ok (h1 : LastOk P la1 id) (o13 : FOk P 13 c13) {la : CF Prop} (hla : LastOk P la id) : LastOk P (lastFn 13 supR la) id := lastFn_ok (callable_fok o13) (fun ρ args args' v hv ha => by
  unfold supR at hv; split at hv
  ·cases hv; exact answers_of_walk hmix o13 (callD_sound pHolds hmix tb0_ok h1 5) ha rfl rfl (fun K hK => zright_walk _ _ _ _ _ _ _ _ _ _ _ _ _ K hK)
  ·cases hv) hla
theorem la2_ok (h1 : LastOk P la1 id) (o13 : FOk P 13 c13) (o15 : FOk P 15 c15) (o33 : FOk P 33 c33) (o34 : FOk P 34 c34) : LastOk P la2 id := sup13_ok hmix h1 o13 (sup15_ok hmix h1 o15 o33 o34 h1)
theorem sumR_ok {n : Nat} {af : AFunc} (o : FOk P n af) (hw : ∀ (cfy : Ys Prop → CF Prop) (Y : Ys Prop) (s : List Nat), (∀ b ∈ s, b < 256) → s.length < 4611686018427387904 → s.length < 1099511627776 → ∀ (m : Mem) (K : V → Mem → Prop), K (.int .u32 ((sumOf s : Nat) : Int)) m → body1 pA cfy Y af [.str s] m K) :
  ∀ (ρ : Ren) (args : List V) (args' : List Value) (v : V), sumR args = some v → VRs ρ args args' → Answers P n args' v := by
 intro ρ args args' v h ha
 unfold sumR at h
 split at h
 ·rename_i s
  obtain ⟨h1, h2⟩ := bif_some h
  cases h2
  cases ha with | cons hs hn =>
  cases hn
  cases hs with | str b =>
  have hl := nblt_iff.1 h1
  have e : sumT (bytesOf b) = sumOf (bytesOf b) := by rw [sumT_eq]; exact Nat.mod_eq_of_lt (sumOf_lt (bytesOf_lt b))
  rw [e]
  exact answers_of_walk hmix o cfy_none (ρ := ρ) (.cons (.str _) .nil) rfl rfl fun K hK => hw _ _ _ (bytesOf_lt _) (by omega) hl _ K (hK _)
 ·cases h
theorem la3_ok (h2 : LastOk P la2 id) (o30 : FOk P 30 c30) (o36 : FOk P 36 c36) : LastOk P la3 id :=
 lastFn_ok (callable_fok o30) (sumR_ok hmix o30 sum_walk) (lastFn_ok (callable_fok o36) (sumR_ok hmix o36 rcrc_walk) h2)
theorem rec17_ok (h3 : LastOk P la3 id) (o17 : FOk P 17 c17) (o28 : FOk P 28 c28) (o29 : FOk P 29 c29) (o35 : FOk P 35 c35) {la : CF Prop} (hla : LastOk P la id) : LastOk P (lastFn 17 recR la) id := lastFn_ok (callable_fok o17) (fun ρ args args' v hv ha => by
  unfold recR at hv; split at hv
  ·cases hv; exact answers_of_walk hmix o17 (callD_sound pHolds hmix (tbB_ok o28 o29 o35) h3 5) ha rfl rfl (fun K hK => zbytes _ _ _ _ _ _ _ _ _ _ _ _ _ (toU_lt _) (toU_lt _) (toU_lt _) (toU_lt _) (toU_lt _) (toU_lt _) (toU_lt _) (toU_lt _) (toU_lt _) (toU_lt _) (toU_lt _) (toU_lt _) K hK)
  ·cases hv) hla
theorem byt12_ok (h3 : LastOk P la3 id) (o12 : FOk P 12 c12) (o28 : FOk P 28 c28) (o29 : FOk P 29 c29) (o35 : FOk P 35 c35) {la : CF Prop} (hla : LastOk P la id) : LastOk P (lastFn 12 bytR la) id := lastFn_ok (callable_fok o12) (fun ρ args args' v hv ha => by
  unfold bytR at hv; split at hv
  ·cases hv; exact answers_of_walk hmix o12 (callD_sound pHolds hmix (tbB_ok o28 o29 o35) h3 5) ha rfl rfl (fun K hK => sbytes_walk _ _ _ _ _ _ _ _ _ _ _ _ _ K hK)
  ·cases hv) hla
theorem la4_ok (h3 : LastOk P la3 id) (o12 : FOk P 12 c12) (o17 : FOk P 17 c17) (o28 : FOk P 28 c28) (o29 : FOk P 29 c29) (o35 : FOk P 35 c35) : LastOk P la4 id := byt12_ok hmix h3 o12 o28 o29 o35 (rec17_ok hmix h3 o17 o28 o29 o35 h3)
end
def sumK : List V → Option V
 | [.str s] => bif Nat.blt s.length 1099511627776 then some (.int .u32 ((sumOf s : Nat) : Int)) else none
 | _ => none
theorem sumK_ok {P : Program} (hmix : P.follows .mixedOrders = true) (o : FOk P 30 c30) : ∀ (ρ : Ren) (args : List V) (args' : List Value) (v : V), sumK args = some v → VRs ρ args args' → Answers P 30 args' v := by
 intro ρ args args' v h ha
 unfold sumK at h
 split at h
 ·rename_i s
  obtain ⟨h1, h2⟩ := bif_some h
  cases h2
  cases ha with | cons hs hn =>
  cases hn
  cases hs with | str b =>
  have hl := nblt_iff.1 h1
  exact answers_of_walk hmix o cfy_none (ρ := ρ) (.cons (.str _) .nil) rfl rfl fun K hK => sum_walk _ _ _ (bytesOf_lt _) (by omega) hl _ K (hK _)
 ·cases h
end Go.Proofs.Ythmbmcpjakbepaa
