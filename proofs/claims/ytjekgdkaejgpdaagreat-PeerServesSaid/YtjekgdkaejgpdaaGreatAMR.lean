/- An abstract machine: an addition. No condition. -/
import Derived.Lib.Repeat
import Derived.Below
import Derived.Test.YtjekgdkaejgpdaaGreatAMb
namespace Go.AM
open Go Go.RowKit
def repL (s : List Nat) : Nat → List Nat
  | 0 => []
  | c + 1 => s ++ repL s c
theorem repL_bytes (s : ByteArray) : ∀ (c : Nat), repL (bytesOf s) c = bytesOf ⟨(Lib.repeatL s.data.toList c).toArray⟩
  | 0 => rfl
  | c + 1 => by
    rw [repL, repL_bytes s c]
    simp [bytesOf, Lib.repeatL]
def zI1 {R : Type} (n : Nat) (last : CF R) : CF R := fun f args m K =>
  match f, args with
  | .func (.func g) [] [], [.str s, .int .i64 (.ofNat c)] =>
    bif Nat.beq g n && (Nat.ble (s.length * c) 140737488355328 && Nat.ble c 9223372036854775807) then K (.str (repL s c)) m else last (.func (.func g) [] []) [.str s, .int .i64 (.ofNat c)] m K
  | f, args => last f args m K
theorem Below.stays {w w' : World} (h : Below w.heap.size w w') : zCd w w' := ⟨⟨h.os, h.output⟩, h.block⟩
theorem zIB {R : Type} {H : R → Prop} {P : Program} {n : Nat} (hcl : zCm P n)
    (hc : ∀ (s : ByteArray) (c : Nat) (w : World), c ≤ 9223372036854775807 → s.size * c ≤ 140737488355328 →
      Calls P n #[.string s, .int .i64 c] w fun e w' => e = .returned (.string ⟨(Lib.repeatL s.data.toList c).toArray⟩) ∧ Below w.heap.size w w') {last : CF R} (hl : zAv P last H) : zAv P (zI1 n last) H := by
  intro ρ₀ ρ m w f f' args args' K hle hm hf ha hH
  unfold zI1 at hH
  split at hH
  · rename_i g s c
    cases e : (Nat.beq g n && (Nat.ble (s.length * c) 140737488355328 && Nat.ble c 9223372036854775807)) with
    | true =>
      rw [e, cond_true] at hH
      simp only [Bool.and_eq_true, zAL, zAA] at e
      obtain ⟨rfl, h1, h2⟩ := e
      cases hf with | func k1 k2 =>
      cases k1; cases k2
      cases ha with | cons k3 k4 =>
      cases k4 with | cons k5 k6 =>
      cases k6
      cases k3 with | str s =>
      cases k5
      refine .inl ⟨g, _, zC1 hcl _ _ w, (hc s c w h2 (by rw [← bytesOf_length]; exact h1)).mono fun e w' ⟨he, hs⟩ => ?_⟩
      subst he
      rw [repL_bytes] at hH
      exact ⟨ρ, _, m, .str _, hm.stays (Below.stays hs), Ext.of_stays (Below.stays hs), hH⟩
    | false =>
      rw [e, cond_false] at hH
      exact hl ρ₀ ρ m w _ f' _ args' K hle hm hf ha hH
  · exact hl ρ₀ ρ m w f f' args args' K hle hm hf ha hH
end Go.AM
