/- Walks through package place: part Pl. No condition. -/
import Derived.Test.YtefklpegpecliaaPk
namespace Go.Proofs.Ytefklpegpecliaa
open Go Go.AM
set_option maxRecDepth 100000
set_option linter.unusedVariables false
theorem parT_plain (l m r s : Int) : (parT l m r s).plain = true := by unfold parT; cases rowB l m r s <;> rfl
theorem atT_plain (l m r s : Int) : (atT l m r s).plain = true := by unfold atT; cases inB l m r s <;> rfl
theorem secT_plain (l m r s x : Int) : (secT l m r s x).plain = true := by
  unfold secT
  cases rowB l m r s
  · rfl
  · simp only [cond_true]; split
    · rfl
    · split
      · rfl
      · split <;> rfl
section
variable {P : Program}
theorem callable_fok {f : Nat} {af : AFunc} (h : FOk P f af) : Callable P f := by
  obtain ⟨fn, h3, h4, h5⟩ := h
  exact callable_of h3 (body_of_comp h4) h5
theorem last0_ok : LastOk P last0 id := last_none (A := pA) pHolds
theorem tab0_ok : TabOk P tab0 := fun f af h => nomatch h
theorem tabD_ok (o17 : FOk P 17 c17) : TabOk P tabD := by
  intro f af h
  simp only [tabD] at h
  by_cases e : f = 17
  · subst e; cases h; exact o17
  · rw [nbeqF e] at h; cases h
theorem tabS_ok (o17 : FOk P 17 c17) (o23 : FOk P 23 c23) : TabOk P tabS := by
  intro f af h
  simp only [tabS] at h
  by_cases e : f = 17
  · subst e; cases h; exact o17
  · rw [nbeqF e, cond_false] at h
    by_cases e' : f = 23
    · subst e'; cases h; exact o23
    · rw [nbeqF e'] at h; cases h
variable (hmix : P.follows .mixedOrders = true)
include hmix
theorem last1_ok (o10 : FOk P 10 c10) : LastOk P last1 id := lastFn_ok (callable_fok o10) (fun ρ args args' v hv ha => by
  unfold S10 at hv; split at hv
  · cases hv; exact answers_of_walk hmix o10 (callD_sound pHolds hmix tab0_ok last0_ok 5) ha rfl rfl (fun K hK => right_walk _ _ _ _ K hK)
  · cases hv) last0_ok
theorem last2_ok (o10 : FOk P 10 c10) (o13 : FOk P 13 c13) : LastOk P last2 id := lastFn_ok (callable_fok o13) (fun ρ args args' v hv ha => by
  unfold S13 at hv; split at hv
  · cases hv; exact answers_of_walk hmix o13 (callD_sound pHolds hmix tab0_ok (last1_ok hmix o10) 5) ha rfl rfl (fun K hK => size_walk _ _ _ _ K hK)
  · cases hv) (last1_ok hmix o10)
theorem last3_ok (o10 : FOk P 10 c10) (o13 : FOk P 13 c13) (o22 : FOk P 22 c22) : LastOk P last3 id := lastFn_ok (callable_fok o22) (fun ρ args args' v hv ha => by
  unfold S22 at hv; split at hv
  · cases hv; exact answers_of_walk hmix o22 (callD_sound pHolds hmix tab0_ok (last2_ok hmix o10 o13) 5) ha rfl rfl (fun K hK => row_walk _ _ _ _ _ K hK)
  · cases hv) (last2_ok hmix o10 o13)
theorem last4_ok (o10 : FOk P 10 c10) (o13 : FOk P 13 c13) (o22 : FOk P 22 c22) (o16 : FOk P 16 c16) : LastOk P last4 id := lastFn_ok (callable_fok o16) (fun ρ args args' v hv ha => by
  unfold S16 at hv; split at hv
  · cases hv; exact answers_of_walk hmix o16 (callD_sound pHolds hmix tab0_ok (last3_ok hmix o10 o13 o22) 5) ha rfl (parT_plain _ _ _ _) (fun K hK => par_walk _ _ _ _ _ K hK)
  · cases hv) (last3_ok hmix o10 o13 o22)
theorem last5_ok (o10 : FOk P 10 c10) (o13 : FOk P 13 c13) (o22 : FOk P 22 c22) (o16 : FOk P 16 c16) (o12 : FOk P 12 c12) (o17 : FOk P 17 c17) : LastOk P last5 id := lastFn_ok (callable_fok o12) (fun ρ args args' v hv ha => by
  unfold S12 at hv; split at hv
  · cases hv; exact answers_of_walk hmix o12 (callD_sound pHolds hmix (tabD_ok o17) (last4_ok hmix o10 o13 o22 o16) 5) ha rfl (atT_plain _ _ _ _) (fun K hK => at_walk _ _ _ _ _ K hK)
  · cases hv) (last4_ok hmix o10 o13 o22 o16)
theorem last6_ok (o10 : FOk P 10 c10) (o13 : FOk P 13 c13) (o22 : FOk P 22 c22) (o16 : FOk P 16 c16) (o12 : FOk P 12 c12) (o17 : FOk P 17 c17) (o18 : FOk P 18 c18) (o23 : FOk P 23 c23) : LastOk P last6 id := lastFn_ok (callable_fok o18) (fun ρ args args' v hv ha => by
  unfold S18 at hv; split at hv
  · cases hv; exact answers_of_walk hmix o18 (callD_sound pHolds hmix (tabS_ok o17 o23) (last5_ok hmix o10 o13 o22 o16 o12 o17) 5) ha rfl (secT_plain _ _ _ _ _) (fun K hK => sec_walk _ _ _ _ _ _ K hK)
  · cases hv) (last5_ok hmix o10 o13 o22 o16 o12 o17)
end
end Go.Proofs.Ytefklpegpecliaa
