/- Sums of sectors: runs that are closed but for the bytes. No condition. -/
import Derived.Test.YtjikaankdnmabaaVP
namespace Go.Proofs.Ytjikaankdnmabaa
open Go Go.AM
set_option maxRecDepth 100000
set_option maxHeartbeats 0
set_option linter.unusedVariables false
def sp (f : Nat → Nat) : List Nat := (List.range 64).map f
theorem sp_of {g : List Nat} (h : g.length = 64) : g = sp fun i => g.getD i 0 := by
  refine List.ext_getElem (by simp [sp, h]) fun i h1 h2 => ?_
  simp only [sp, List.getElem_map, List.getElem_range]
  rw [List.getD_eq_getElem?_getD, List.getElem?_eq_getElem h1]; rfl
theorem castP {p q : Prop} (h : p = q) (x : p) : q := h ▸ x
abbrev tbS : Nat → Option AFunc := fun f => bif Nat.beq f 32 then some c32 else none
abbrev endP3 (C : Con) (o : AObj) : Prop := C.ans = C.ans ∧ (some o = some o ∧ True) ∧ True
theorem sum28_1 (f : Nat → Nat) : body1 pA (callD pA tbS la0 5) Ys.none c28 (conSum (.int .i64 0) [sp f]).args (memO (conSum (.int .i64 0) [sp f]).pre) (endC (conSum (.int .i64 0) [sp f])) :=
  castP (p := endP3 (conSum (.int .i64 0) [sp f]) (.cells (stV [sp f]) false)) (by kernel_rfl) ⟨rfl, ⟨rfl, trivial⟩, trivial⟩
theorem sum28_2 (f g : Nat → Nat) : body1 pA (callD pA tbS la0 5) Ys.none c28 (conSum (.int .i64 0) [sp f, sp g]).args (memO (conSum (.int .i64 0) [sp f, sp g]).pre) (endC (conSum (.int .i64 0) [sp f, sp g])) :=
  castP (p := endP3 (conSum (.int .i64 0) [sp f, sp g]) (.cells (stV [sp f, sp g]) false)) (by kernel_rfl) ⟨rfl, ⟨rfl, trivial⟩, trivial⟩
theorem sum28_3 (f g h : Nat → Nat) : body1 pA (callD pA tbS la0 5) Ys.none c28 (conSum (.int .i64 0) [sp f, sp g, sp h]).args (memO (conSum (.int .i64 0) [sp f, sp g, sp h]).pre) (endC (conSum (.int .i64 0) [sp f, sp g, sp h])) :=
  castP (p := endP3 (conSum (.int .i64 0) [sp f, sp g, sp h]) (.cells (stV [sp f, sp g, sp h]) false)) (by kernel_rfl) ⟨rfl, ⟨rfl, trivial⟩, trivial⟩
theorem sum28_4 (f g h u : Nat → Nat) : body1 pA (callD pA tbS la0 5) Ys.none c28 (conSum (.int .i64 0) [sp f, sp g, sp h, sp u]).args (memO (conSum (.int .i64 0) [sp f, sp g, sp h, sp u]).pre) (endC (conSum (.int .i64 0) [sp f, sp g, sp h, sp u])) :=
  castP (p := endP3 (conSum (.int .i64 0) [sp f, sp g, sp h, sp u]) (.cells (stV [sp f, sp g, sp h, sp u]) false)) (by kernel_rfl) ⟨rfl, ⟨rfl, trivial⟩, trivial⟩
theorem sum28_5 (f g h u v : Nat → Nat) : body1 pA (callD pA tbS la0 5) Ys.none c28 (conSum (.int .i64 0) [sp f, sp g, sp h, sp u, sp v]).args (memO (conSum (.int .i64 0) [sp f, sp g, sp h, sp u, sp v]).pre) (endC (conSum (.int .i64 0) [sp f, sp g, sp h, sp u, sp v])) :=
  castP (p := endP3 (conSum (.int .i64 0) [sp f, sp g, sp h, sp u, sp v]) (.cells (stV [sp f, sp g, sp h, sp u, sp v]) false)) (by kernel_rfl) ⟨rfl, ⟨rfl, trivial⟩, trivial⟩
theorem sum46_1 (f : Nat → Nat) : body1 pA (callD pA tbS la0 5) Ys.none c46 (conSum (.bool true) [sp f]).args (memO (conSum (.bool true) [sp f]).pre) (endC (conSum (.bool true) [sp f])) :=
  castP (p := endP3 (conSum (.bool true) [sp f]) (.cells (stV [sp f]) false)) (by kernel_rfl) ⟨rfl, ⟨rfl, trivial⟩, trivial⟩
theorem sum46_2 (f g : Nat → Nat) : body1 pA (callD pA tbS la0 5) Ys.none c46 (conSum (.bool true) [sp f, sp g]).args (memO (conSum (.bool true) [sp f, sp g]).pre) (endC (conSum (.bool true) [sp f, sp g])) :=
  castP (p := endP3 (conSum (.bool true) [sp f, sp g]) (.cells (stV [sp f, sp g]) false)) (by kernel_rfl) ⟨rfl, ⟨rfl, trivial⟩, trivial⟩
theorem sum46_3 (f g h : Nat → Nat) : body1 pA (callD pA tbS la0 5) Ys.none c46 (conSum (.bool true) [sp f, sp g, sp h]).args (memO (conSum (.bool true) [sp f, sp g, sp h]).pre) (endC (conSum (.bool true) [sp f, sp g, sp h])) :=
  castP (p := endP3 (conSum (.bool true) [sp f, sp g, sp h]) (.cells (stV [sp f, sp g, sp h]) false)) (by kernel_rfl) ⟨rfl, ⟨rfl, trivial⟩, trivial⟩
theorem sum46_4 (f g h u : Nat → Nat) : body1 pA (callD pA tbS la0 5) Ys.none c46 (conSum (.bool true) [sp f, sp g, sp h, sp u]).args (memO (conSum (.bool true) [sp f, sp g, sp h, sp u]).pre) (endC (conSum (.bool true) [sp f, sp g, sp h, sp u])) :=
  castP (p := endP3 (conSum (.bool true) [sp f, sp g, sp h, sp u]) (.cells (stV [sp f, sp g, sp h, sp u]) false)) (by kernel_rfl) ⟨rfl, ⟨rfl, trivial⟩, trivial⟩
theorem sum46_5 (f g h u v : Nat → Nat) : body1 pA (callD pA tbS la0 5) Ys.none c46 (conSum (.bool true) [sp f, sp g, sp h, sp u, sp v]).args (memO (conSum (.bool true) [sp f, sp g, sp h, sp u, sp v]).pre) (endC (conSum (.bool true) [sp f, sp g, sp h, sp u, sp v])) :=
  castP (p := endP3 (conSum (.bool true) [sp f, sp g, sp h, sp u, sp v]) (.cells (stV [sp f, sp g, sp h, sp u, sp v]) false)) (by kernel_rfl) ⟨rfl, ⟨rfl, trivial⟩, trivial⟩
section
variable {P : Program}
variable (hmix : P.follows .mixedOrders = true)
include hmix
theorem tbS_ok (o32 : FOk P 32 c32) : CFOk P (callD pA tbS la0 5) id := callD_sound pHolds hmix (fun f af h => by
  simp only [tbS] at h
  cases e : Nat.beq f 32 with
  | true => rw [e] at h; cases h; rw [Nat.eq_of_beq_eq_true e]; exact o32
  | false => rw [e] at h; cases h) la0_ok 5
theorem S28_ok (o32 : FOk P 32 c32) (o28 : FOk P 28 c28) : ∀ C, S28 C → C.wf = true → ConOk P 28 C := by
  intro C h _
  cases h with | mk gs h h1 h5 =>
  match gs, h, h1, h5 with
  | [a0], h, _, _ =>
    have e0 := sp_of (h a0 (by simp))
    rw [e0]
    exact conOk_walk hmix o28 (tbS_ok hmix o32) (sum28_1 (fun i => a0.getD i 0))
  | [a0, a1], h, _, _ =>
    have e0 := sp_of (h a0 (by simp))
    have e1 := sp_of (h a1 (by simp))
    rw [e0, e1]
    exact conOk_walk hmix o28 (tbS_ok hmix o32) (sum28_2 (fun i => a0.getD i 0) (fun i => a1.getD i 0))
  | [a0, a1, a2], h, _, _ =>
    have e0 := sp_of (h a0 (by simp))
    have e1 := sp_of (h a1 (by simp))
    have e2 := sp_of (h a2 (by simp))
    rw [e0, e1, e2]
    exact conOk_walk hmix o28 (tbS_ok hmix o32) (sum28_3 (fun i => a0.getD i 0) (fun i => a1.getD i 0) (fun i => a2.getD i 0))
  | [a0, a1, a2, a3], h, _, _ =>
    have e0 := sp_of (h a0 (by simp))
    have e1 := sp_of (h a1 (by simp))
    have e2 := sp_of (h a2 (by simp))
    have e3 := sp_of (h a3 (by simp))
    rw [e0, e1, e2, e3]
    exact conOk_walk hmix o28 (tbS_ok hmix o32) (sum28_4 (fun i => a0.getD i 0) (fun i => a1.getD i 0) (fun i => a2.getD i 0) (fun i => a3.getD i 0))
  | [a0, a1, a2, a3, a4], h, _, _ =>
    have e0 := sp_of (h a0 (by simp))
    have e1 := sp_of (h a1 (by simp))
    have e2 := sp_of (h a2 (by simp))
    have e3 := sp_of (h a3 (by simp))
    have e4 := sp_of (h a4 (by simp))
    rw [e0, e1, e2, e3, e4]
    exact conOk_walk hmix o28 (tbS_ok hmix o32) (sum28_5 (fun i => a0.getD i 0) (fun i => a1.getD i 0) (fun i => a2.getD i 0) (fun i => a3.getD i 0) (fun i => a4.getD i 0))
  | [], _, h1, _ => exact absurd h1 (by simp)
  | _ :: _ :: _ :: _ :: _ :: _ :: _, _, _, h5 => simp at h5
theorem S46_ok (o32 : FOk P 32 c32) (o46 : FOk P 46 c46) : ∀ C, S46 C → C.wf = true → ConOk P 46 C := by
  intro C h _
  cases h with | mk gs h h1 h5 =>
  match gs, h, h1, h5 with
  | [a0], h, _, _ =>
    have e0 := sp_of (h a0 (by simp))
    rw [e0]
    exact conOk_walk hmix o46 (tbS_ok hmix o32) (sum46_1 (fun i => a0.getD i 0))
  | [a0, a1], h, _, _ =>
    have e0 := sp_of (h a0 (by simp))
    have e1 := sp_of (h a1 (by simp))
    rw [e0, e1]
    exact conOk_walk hmix o46 (tbS_ok hmix o32) (sum46_2 (fun i => a0.getD i 0) (fun i => a1.getD i 0))
  | [a0, a1, a2], h, _, _ =>
    have e0 := sp_of (h a0 (by simp))
    have e1 := sp_of (h a1 (by simp))
    have e2 := sp_of (h a2 (by simp))
    rw [e0, e1, e2]
    exact conOk_walk hmix o46 (tbS_ok hmix o32) (sum46_3 (fun i => a0.getD i 0) (fun i => a1.getD i 0) (fun i => a2.getD i 0))
  | [a0, a1, a2, a3], h, _, _ =>
    have e0 := sp_of (h a0 (by simp))
    have e1 := sp_of (h a1 (by simp))
    have e2 := sp_of (h a2 (by simp))
    have e3 := sp_of (h a3 (by simp))
    rw [e0, e1, e2, e3]
    exact conOk_walk hmix o46 (tbS_ok hmix o32) (sum46_4 (fun i => a0.getD i 0) (fun i => a1.getD i 0) (fun i => a2.getD i 0) (fun i => a3.getD i 0))
  | [a0, a1, a2, a3, a4], h, _, _ =>
    have e0 := sp_of (h a0 (by simp))
    have e1 := sp_of (h a1 (by simp))
    have e2 := sp_of (h a2 (by simp))
    have e3 := sp_of (h a3 (by simp))
    have e4 := sp_of (h a4 (by simp))
    rw [e0, e1, e2, e3, e4]
    exact conOk_walk hmix o46 (tbS_ok hmix o32) (sum46_5 (fun i => a0.getD i 0) (fun i => a1.getD i 0) (fun i => a2.getD i 0) (fun i => a3.getD i 0) (fun i => a4.getD i 0))
  | [], _, h1, _ => exact absurd h1 (by simp)
  | _ :: _ :: _ :: _ :: _ :: _ :: _, _, _, h5 => simp at h5
end
end Go.Proofs.Ytjikaankdnmabaa
