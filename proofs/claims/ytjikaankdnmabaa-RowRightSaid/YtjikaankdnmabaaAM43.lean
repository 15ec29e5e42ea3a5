/- An abstract machine: an addition. No condition. -/
import Derived.Test.YtjikaankdnmabaaAM42
import Derived.ChangeMaps
import Derived.Test.YtjikaankdnmabaaAMb
namespace Go.AM
open Go Go.WideShapes Go.ChangeShapes Go.ChangeMaps
def mV : List (Int × List Nat × Nat) → List En
  | [] => []
  | (n, s, t) :: l => (.int .i64 n, .str s, t) :: mV l
theorem erens_mV (σ : Nat → Nat) : ∀ L, erens σ (mV L) = mV L
  | [] => rfl
  | (n, s, t) :: l => by simp only [mV, erens, V.ren, erens_mV σ l]
theorem ebels_mV (p : Nat → Bool) : ∀ L, ebels p (mV L) = true
  | [] => rfl
  | (n, s, t) :: l => by simp only [mV, ebels, V.bel, ebels_mV p l, Bool.and_self]
theorem mV_length : ∀ L, (mV L).length = L.length
  | [] => rfl
  | (n, s, t) :: l => by simp only [mV, List.length_cons, mV_length l]
theorem mV_stamps : ∀ L, stamps (mV L) = L.map fun x => x.2.2
  | [] => rfl
  | (n, s, t) :: l => by have := mV_stamps l; simp only [stamps, mV, List.map_cons] at *; rw [this]
theorem mV_mem : ∀ {L : List (Int × List Nat × Nat)} {e : En}, e ∈ mV L → ∃ x ∈ L, e = (.int .i64 x.1, .str x.2.1, x.2.2)
  | (n, s, t) :: l, e, h => by
    rcases List.mem_cons.1 h with h | h
    · exact ⟨(n, s, t), List.mem_cons_self, h⟩
    · obtain ⟨x, hx, he⟩ := mV_mem h
      exact ⟨x, List.mem_cons_of_mem _ hx, he⟩
theorem mem_mV : ∀ {L : List (Int × List Nat × Nat)} {x : Int × List Nat × Nat}, x ∈ L → (.int .i64 x.1, .str x.2.1, x.2.2) ∈ mV L
  | (n, s, t) :: l, x, h => by
    rcases List.mem_cons.1 h with h | h
    · subst h; exact List.mem_cons_self
    · exact List.mem_cons_of_mem _ (mem_mV h)
def lookG : List (Int × List Nat × Nat) → Int → List Nat
  | [], _ => []
  | (n, s, _) :: l, x => if x = n then s else lookG l x
def hasG : List (Int × List Nat × Nat) → Int → Bool
  | [], _ => false
  | (n, _, _) :: l, x => decide (x = n) || hasG l x
theorem find_G {x : Int} : ∀ (L : List (Int × List Nat × Nat)) (i : Nat), (hasG L x = false ∧ lookG L x = [] ∧ findE (.one .int) (.int .i64 x) (mV L) i = some none) ∨ (hasG L x = true ∧ ∃ j, findE (.one .int) (.int .i64 x) (mV L) i = some (some (j, .str (lookG L x))))
  | [], _ => .inl ⟨rfl, rfl, rfl⟩
  | (n, s, t) :: L, i => by
    have hk : keyEq (.one .int) (.int .i64 x) (.int .i64 n) = some (eqI x n) := rfl
    simp only [hasG, lookG, mV, findE, hk, eqI_eq]
    by_cases e : x = n
    · subst e
      simp
    · simp only [e, decide_false, Bool.false_or, if_false]
      exact find_G L (i + 1)
theorem look_G (L : List (Int × List Nat × Nat)) (x : Int) : lookV (.one .int) false (.str []) (.int .i64 x) (mV L) = some (.str (lookG L x)) := by
  have hf : findK (.one .int) (.int .i64 x) (mV L) = findE (.one .int) (.int .i64 x) (mV L) 0 := rfl
  unfold lookV
  rw [hf]
  rcases find_G (x := x) L 0 with ⟨_, h2, h3⟩ | ⟨_, j, h3⟩
  · rw [h3, h2]; rfl
  · rw [h3]; rfl
theorem look_G2 (L : List (Int × List Nat × Nat)) (x : Int) : lookV (.one .int) true (.str []) (.int .i64 x) (mV L) = some (.tuple [.str (lookG L x), .bool (hasG L x)]) := by
  have hf : findK (.one .int) (.int .i64 x) (mV L) = findE (.one .int) (.int .i64 x) (mV L) 0 := rfl
  unfold lookV
  rw [hf]
  rcases find_G (x := x) L 0 with ⟨h1, h2, h3⟩ | ⟨h1, j, h3⟩
  · rw [h3, h2, h1]; rfl
  · rw [h3, h1]; rfl
theorem calls_plain {P : Program} {n : Nat} {args : List V} {args' : List Value} {w : World} (hC : ConOk P n ⟨args, [], .bool true, [], []⟩) (ha : VRs (fun _ => none) args args') : Calls P n ⟨args'⟩ w fun e w' => e = .returned (.bool true) ∧ Stays w w' := by
  refine (hC (fun _ => none) w args' (fun x i h => nomatch h) (mr_none _ w) ha).mono fun e w' h => ?_
  obtain ⟨ρ', m', v', h1, h2, h3, h4, _⟩ := h
  exact ⟨by cases h4; exact h1, h3.stays fun x i o hx => nomatch hx⟩
end Go.AM
