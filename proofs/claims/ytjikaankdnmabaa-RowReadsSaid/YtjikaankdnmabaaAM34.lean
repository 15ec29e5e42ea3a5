/- An abstract machine: an addition. No condition. -/
import Derived.Test.YtjikaankdnmabaaAMb
/-
  AM, part 34: functions that answer a plain value, whatever memory they read: run in a memory of their own, in which what was there is only read; what comes of all orders is one answer.
-/
namespace Go.AM
open Go

def frzO : AObj → AObj
  | .cells cs _ => .cells cs true
  | .map es c _ => .map es c true
  | _ => .dead
def Tree.frz : Tree → Tree
  | .leaf => .leaf
  | .node none l r => .node none l.frz r.frz
  | .node (some o) l r => .node (some (frzO o)) l.frz r.frz
/-- What is there is only read. -/
def Mem.frz (m : Mem) : Mem := ⟨m.next, m.t.frz⟩

theorem Tree.get_frz : ∀ (t : Tree) (n : Nat), t.frz.get n = (t.get n).map frzO
  | .leaf, n => rfl
  | .node v l r, n => by
    have hl := Tree.get_frz l (n / 2)
    have hr := Tree.get_frz r (n / 2 - 1)
    cases v with
    | none =>
      simp only [Tree.frz, Tree.get]
      cases Nat.beq n 0 with
      | true => rfl
      | false =>
        simp only [cond_false]
        cases Nat.beq (n % 2) 1 with
        | true => simpa using hl
        | false => simpa using hr
    | some o =>
      simp only [Tree.frz, Tree.get]
      cases Nat.beq n 0 with
      | true => rfl
      | false =>
        simp only [cond_false]
        cases Nat.beq (n % 2) 1 with
        | true => simpa using hl
        | false => simpa using hr
theorem Mem.get_frz (m : Mem) (b : Nat) : m.frz.get b = (m.get b).map frzO := Tree.get_frz m.t b

theorem frzO_wr (o : AObj) : (frzO o).wr = false := by cases o <;> rfl
theorem OR.frz {ρ : Ren} {w : World} {i : Img} : ∀ {o : AObj}, OR ρ w i o → OR ρ w i (frzO o)
  | .cells cs ro, h => by
    obtain ⟨cs', ty, lo, hi, h1, h2, h3, _⟩ := h
    exact ⟨cs', ty, lo, hi, h1, h2, h3, fun h => by cases h⟩
  | .map es c ro, h => h
  | .iter _ _ _ _, _ => trivial
  | .loop _ _, _ => trivial
  | .dead, _ => trivial
theorem MR.frz {ρ : Ren} {m : Mem} {w : World} (h : MR ρ m w) : MR ρ m.frz w where
  lt := h.lt
  obj := fun b i o hb ho => by
    rw [Mem.get_frz] at ho
    cases e : m.get b with
    | none => rw [e] at ho; cases ho
    | some u =>
      rw [e] at ho
      cases ho
      exact (h.obj b i u hb e).frz
  inj := fun b c i j o u hb hc hi ho hw _ _ => by
    rw [Mem.get_frz] at ho
    cases e : m.get b with
    | none => rw [e] at ho; cases ho
    | some u =>
      rw [e] at ho
      cases ho
      rw [frzO_wr] at hw; cases hw

/-! ### Plain values, compared -/
mutual
def V.same : V → V → Bool
  | .bool a, .bool b => a == b
  | .int j a, .int k b => kindEq j k && eqI a b
  | .str a, .str b => beqL a b
  | .nilptr, .nilptr => true
  | .nilslice, .nilslice => true
  | .nilmap, .nilmap => true
  | .nilfunc, .nilfunc => true
  | .niliface, .niliface => true
  | .agg a, .agg b => sames a b
  | .tuple a, .tuple b => sames a b
  | _, _ => false
def sames : List V → List V → Bool
  | [], [] => true
  | a :: as, b :: bs => a.same b && sames as bs
  | _, _ => false
end
theorem beqL_eq : ∀ {a b : List Nat}, beqL a b = true → a = b
  | [], [], _ => rfl
  | a :: x, b :: y, h => by
    simp only [beqL, Bool.and_eq_true] at h
    rw [Nat.eq_of_beq_eq_true h.1, beqL_eq h.2]
  | [], _ :: _, h => by cases h
  | _ :: _, [], h => by cases h
mutual
theorem V.same_eq : ∀ (a b : V), a.same b = true → a = b
  | .bool a, b, h => by cases b <;> simp_all [V.same]
  | .int j a, b, h => by
    cases b <;> simp_all [V.same, kindEq_iff, eqI_eq]
  | .str a, b, h => by
    cases b <;> simp [V.same] at h
    rw [beqL_eq h]
  | .nilptr, b, h => by cases b <;> simp_all [V.same]
  | .nilslice, b, h => by cases b <;> simp_all [V.same]
  | .nilmap, b, h => by cases b <;> simp_all [V.same]
  | .nilfunc, b, h => by cases b <;> simp_all [V.same]
  | .niliface, b, h => by cases b <;> simp_all [V.same]
  | .agg a, b, h => by
    cases b <;> simp [V.same] at h
    rw [sames_eq _ _ h]
  | .tuple a, b, h => by
    cases b <;> simp [V.same] at h
    rw [sames_eq _ _ h]
  | .ptr _ _, b, h => by cases b <;> simp [V.same] at h
  | .slice _ _ _ _ _, b, h => by cases b <;> simp [V.same] at h
  | .map _, b, h => by cases b <;> simp [V.same] at h
  | .func _ _ _, b, h => by cases b <;> simp [V.same] at h
  | .yield _, b, h => by cases b <;> simp [V.same] at h
  | .iface _ _, b, h => by cases b <;> simp [V.same] at h
theorem sames_eq : ∀ (a b : List V), sames a b = true → a = b
  | [], [], _ => rfl
  | a :: as, b :: bs, h => by
    simp only [sames, Bool.and_eq_true] at h
    rw [V.same_eq a b h.1, sames_eq as bs h.2]
  | [], _ :: _, h => by simp [sames] at h
  | _ :: _, [], h => by simp [sames] at h
end

/-- Answers that are values: all must be the same. -/
def optBoth : Option V → Option V → Option V
  | some a, some b => bif a.same b then some a else none
  | _, _ => none
def optA : Ans (Option V) := ⟨none, optBoth⟩
theorem optHolds (v : V) : Holds optA (fun r => r = some v) where
  fail := fun h => by cases h
  both := fun x y h => by
    simp only [optA] at h
    unfold optBoth at h
    split at h
    · rename_i a b
      cases e : a.same b with
      | false => rw [e] at h; cases h
      | true =>
        rw [e] at h
        simp only [cond_true] at h
        have := V.same_eq a b e
        subst this
        exact ⟨h, h⟩
    · cases h
def endP (v : V) (_ : Mem) : Option V := bif v.plain then some v else none
theorem endP_some {v u : V} {m : Mem} (h : endP v m = some u) : v = u ∧ u.plain = true := by
  unfold endP at h
  cases e : v.plain with
  | false => rw [e] at h; cases h
  | true => rw [e] at h; cases h; exact ⟨rfl, e⟩

/-- What a function's calls come to, from a memory. -/
def joinG (g : Nat → Option AFunc) (cf : CF (Option V)) (f : Nat) (args : List V) (m : Mem) : Option V :=
  match g f with
  | some af => body1 optA (fun _ => cf) Ys.none af args m.frz endP
  | none => none

/-- The functions of 'js' are run apart. -/
def lastJ {R : Type} (js : Nat → Option AFunc) (cf : CF (Option V)) (last : CF R) : CF R := fun f args m K =>
  match f with
  | .func (.func g) [] [] => match joinG js cf g args m with
    | some v => K v m
    | none => last (.func (.func g) [] []) args m K
  | f => last f args m K

theorem lastJ_ok {R : Type} {H : R → Prop} {P : Program} (hmix : P.follows .mixedOrders = true) {js : Nat → Option AFunc} (hj : TabOk P js) {cf : CF (Option V)} (hcf : ∀ v, LastOk P cf (fun r => r = some v)) {last : CF R} (hl : LastOk P last H) : LastOk P (lastJ js cf last) H := by
  intro ρ₀ ρ m w f f' args args' K hle hm hf ha hH
  unfold lastJ at hH
  split at hH
  · rename_i g
    split at hH
    · rename_i v hv
      unfold joinG at hv
      split at hv
      · rename_i af haf
        cases hf with | func h1 h2 =>
        cases h1; cases h2
        obtain ⟨fn, h3, h4, h5⟩ := hj g af haf
        refine .inl ⟨g, _, callRun_of (callable_of h3 (body_of_comp h4) h5) _ _ w, ?_⟩
        rw [List.append_nil]
        have hc : CFOk P (fun _ => cf : Ys (Option V) → CF (Option V)) (fun r => r = some v) := fun _ ρ₁ _ => hcf v ρ₁
        refine (func_sound (optHolds v) hc hmix h3 h4 (Y := Ys.none) (ρ := ρ) YOk.none hm.frz ha (K := endP) hv).mono fun e w' he => ?_
        cases e with
        | panicked c => exact he.elim
        | outgrown => exact he.elim
        | returned v' =>
          obtain ⟨ρ', u, m', g1, _, g3, g4⟩ := he
          obtain ⟨rfl, hp⟩ := endP_some g4
          have hst : Stays w w' := g3.stays fun b i o hb ho => by
            rw [Mem.get_frz] at ho
            cases e : m.get b with
            | none => rw [e] at ho; cases ho
            | some u => rw [e] at ho; cases ho; exact frzO_wr u
          exact ⟨ρ, u, m, g1.any hp, hm.stays hst, Ext.of_stays hst, hH⟩
      · cases hv
    · exact hl ρ₀ ρ m w _ f' args args' K hle hm hf ha hH
  · exact hl ρ₀ ρ m w f f' args args' K hle hm hf ha hH

/-! ### Runs apart, in runs apart -/
def jl (js tabX : Nat → Option AFunc) (base : CF (Option V)) : Nat → CF (Option V)
  | 0 => base
  | n + 1 => lastJ js (callD optA tabX (jl js tabX base n) 60 Ys.none) base
theorem jl_ok {P : Program} (hmix : P.follows .mixedOrders = true) {js tabX : Nat → Option AFunc} (hj : TabOk P js) (ht : TabOk P tabX) {base : CF (Option V)} (hb : ∀ v, LastOk P base (fun r => r = some v)) : ∀ (n : Nat) (v : V), LastOk P (jl js tabX base n) (fun r => r = some v)
  | 0, v => hb v
  | n + 1, v => lastJ_ok hmix hj (fun v ρ₀ => callD_sound (optHolds v) hmix ht (jl_ok hmix hj ht hb n v) 60 Ys.none ρ₀ YOk.none) (hb v)
/-- The functions of 'js' run apart, seven deep. -/
def lastJs {R : Type} (js tabX : Nat → Option AFunc) (base : CF (Option V)) (last : CF R) : CF R := lastJ js (callD optA tabX (jl js tabX base 7) 60 Ys.none) last
theorem lastJs_ok {R : Type} {H : R → Prop} {P : Program} (hmix : P.follows .mixedOrders = true) {js tabX : Nat → Option AFunc} (hj : TabOk P js) (ht : TabOk P tabX) {base : CF (Option V)} (hb : ∀ v, LastOk P base (fun r => r = some v)) {last : CF R} (hl : LastOk P last H) : LastOk P (lastJs js tabX base last) H :=
  lastJ_ok hmix hj (fun v ρ₀ => callD_sound (optHolds v) hmix ht (jl_ok hmix hj ht hb 7 v) 60 Ys.none ρ₀ YOk.none) hl
/-- A part of a table, and what is not in it. -/
def tabPart (tab : Nat → Option AFunc) (p : Nat → Bool) (f : Nat) : Option AFunc := bif p f then tab f else none
theorem tabPart_ok {P : Program} {tab : Nat → Option AFunc} (h : TabOk P tab) (p : Nat → Bool) : TabOk P (tabPart tab p) := by
  intro f af hf
  unfold tabPart at hf
  cases e : p f with
  | true => rw [e] at hf; exact h f af hf
  | false => rw [e] at hf; cases hf

/-- Out of a run from the empty memory. -/
theorem answers_of_join {P : Program} (hmix : P.follows .mixedOrders = true) {js : Nat → Option AFunc} (hj : TabOk P js) {cf : CF (Option V)} (hcf : ∀ v, LastOk P cf (fun r => r = some v)) {f : Nat} {args : List V} {args' : List Value} {ρ : Ren} (ha : VRs ρ args args') (hp : plains args = true)
    {v : V} (h : joinG js cf f args ⟨0, .leaf⟩ = some v) : Answers P f args' v := by
  intro w
  unfold joinG at h
  split at h
  · rename_i af haf
    obtain ⟨fn, h3, h4, h5⟩ := hj f af haf
    have hc : CFOk P (fun _ => cf : Ys (Option V) → CF (Option V)) (fun r => r = some v) := fun _ ρ₁ _ => hcf v ρ₁
    refine (func_sound (optHolds v) hc hmix h3 h4 (Y := Ys.none) (ρ := fun _ => none) YOk.none (mr_none (Mem.frz ⟨0, .leaf⟩) w) (VRs.any ha hp) (K := endP) h).mono fun e w' he => ?_
    cases e with
    | panicked c => exact he.elim
    | outgrown => exact he.elim
    | returned v' =>
      obtain ⟨ρ', u, m', g1, _, g3, g4⟩ := he
      obtain ⟨rfl, hp⟩ := endP_some g4
      exact ⟨v', rfl, fun ρ => g1.any hp, g3.stays fun b i o h => nomatch h⟩
  · cases h
theorem cf_ok {P : Program} (hmix : P.follows .mixedOrders = true) {js tabX : Nat → Option AFunc} (hj : TabOk P js) (ht : TabOk P tabX) {base : CF (Option V)} (hb : ∀ v, LastOk P base (fun r => r = some v)) (v : V) : LastOk P (callD optA tabX (jl js tabX base 7) 60 Ys.none) (fun r => r = some v) :=
  fun ρ₀ => callD_sound (optHolds v) hmix ht (jl_ok hmix hj ht hb 7 v) 60 Ys.none ρ₀ YOk.none
end Go.AM
