/- An abstract machine: an addition. No condition. -/
import Derived.Test.YthmbmcpjakbepaaAM36
import Derived.Test.YthmbmcpjakbepaaAMb
namespace Go.AM
open Go
def lastCl (n : Nat) (S : Con → Prop) (last : CF Prop) : CF Prop := fun f args m K =>
 match f with
 | .func (.func g) [] cap => bif Nat.beq g n then ((∃ (C : Con) (σ : Nat → Nat), S C ∧ ConAt C σ (args ++ cap) m ∧ K (C.ans.ren (C.tau σ m.next)) (C.mem σ m)) ∨ last (.func (.func g) [] cap) args m K) else last (.func (.func g) [] cap) args m K
 | f => last f args m K
theorem lastCl_ok {P : Program} {n : Nat} (hcl : Callable P n) {S : Con → Prop} (hS : ∀ C, S C → C.wf = true → ConOk P n C) {last : CF Prop} (hl : LastOk P last id) : LastOk P (lastCl n S last) id := by
 intro ρ₀ ρ m w f f' args args' K hle hm hf ha hH
 unfold lastCl at hH
 split at hH
 ·rename_i g cap
  by_cases e : g = n
  ·subst e
   rw [nbeqT rfl, cond_true] at hH
   rcases hH with ⟨C, σ, h1, h2, h3⟩ | hH
   ·cases hf with | func e1 e2 =>
    cases e1
    refine .inl ⟨g, _, callRun_of hcl _ _ w, ?_⟩
    have ha2 := ha.append e2
    rw [h2.args] at ha2
    refine (con_use (hS C h1 h2.wf) h2.wf hm h2.inj h2.pre ha2).mono fun e w' ⟨ρ', v', he, hv, hm', hx⟩ => ?_
    subst he
    exact ⟨ρ', _, _, hv, hm', hx, h3⟩
   ·exact hl ρ₀ ρ m w _ f' args args' K hle hm hf ha hH
  ·rw [nbeqF e, cond_false] at hH
   exact hl ρ₀ ρ m w _ f' args args' K hle hm hf ha hH
 ·exact hl ρ₀ ρ m w f f' args args' K hle hm hf ha hH
theorem conInCl {n : Nat} {S : Con → Prop} {last : CF Prop} {C : Con} {σ : Nat → Nat} {args cap : List V} {m : Mem} {K : V → Mem → Prop} (hS : S C) (h : ConAt C σ (args ++ cap) m) (hK : K (C.ans.ren (C.tau σ m.next)) (C.mem σ m)) : lastCl n S last (.func (.func n) [] cap) args m K := by
 unfold lastCl
 simp only [Nat.beq_refl, cond_true]
 exact .inl ⟨C, σ, hS, h, hK⟩
theorem conMissCl {n g : Nat} {S : Con → Prop} {last : CF Prop} {args cap : List V} {m : Mem} {K : V → Mem → Prop} (hg : Nat.beq g n = false) (h : last (.func (.func g) [] cap) args m K) : lastCl n S last (.func (.func g) [] cap) args m K := by
 unfold lastCl
 simp only [hg, cond_false]
 exact h
theorem mono_cl {n : Nat} {S : Con → Prop} {last : CF Prop} (hl : MonoCF last) : MonoCF (lastCl n S last) := by
 intro f args m K K' hk h
 unfold lastCl at h ⊢
 split at h
 ·rename_i g cap
  cases e : Nat.beq g n with
  | true =>
   simp only [e, cond_true] at h ⊢
   rcases h with ⟨C, σ, h1, h2, h3⟩ | h
   ·exact .inl ⟨C, σ, h1, h2, hk _ _ h3⟩
   ·exact .inr (hl _ _ _ _ _ hk h)
  | false => simp only [e, cond_false] at h ⊢; exact hl _ _ _ _ _ hk h
 ·exact hl _ _ _ _ _ hk h
def loadV (n off : Nat) (cs : List V) : Option V :=
 match takeN n (dropN off cs) with
 | some cs => some (.agg cs)
 | none => none
end Go.AM
