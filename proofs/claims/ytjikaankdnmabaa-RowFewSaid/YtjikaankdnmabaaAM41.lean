/- An abstract machine: an addition. No condition. -/
import Derived.Test.YtjikaankdnmabaaAM36
import Derived.Test.YtjikaankdnmabaaAMb
/-
  AM, part 41: closed runs but for what is only handed on: answers that tell what functions were asked for; what a function answers may then rest on what was asked being what is said.
-/
namespace Go.AM
open Go

theorem callable_fok {P : Program} {f : Nat} {af : AFunc} (h : FOk P f af) : Callable P f := by
  obtain ⟨fn, h3, h4, h5⟩ := h
  exact callable_of h3 (body_of_comp h4) h5
/-- Answers that tell what was asked: two lists. -/
inductive Ob where
  | fail
  | ok (a b : List (List V))
def Ob.both : Ob → Ob → Ob
  | .ok a b, .ok c d => .ok (a ++ c) (b ++ d)
  | _, _ => .fail
def obA : Ans Ob := ⟨.fail, Ob.both⟩
def Ob.put (x : List V) : Ob → Ob
  | .ok a b => .ok (x :: a) b
  | .fail => .fail
def Ob.put2 (x : List V) : Ob → Ob
  | .ok a b => .ok a (x :: b)
  | .fail => .fail
/-- All that was asked is as is said. -/
def obH (p q : List V → Prop) (r : Ob) : Prop := ∃ a b, r = .ok a b ∧ (∀ x ∈ a, p x) ∧ ∀ x ∈ b, q x
theorem obHolds (p q : List V → Prop) : Holds obA (obH p q) where
  fail := fun ⟨a, b, h, _⟩ => by cases h
  both := fun x y h => by
    obtain ⟨a, b, h, ha, hb⟩ := h
    simp only [obA] at h
    cases x with
    | fail => cases h
    | ok a1 b1 => cases y with
      | fail => cases h
      | ok a2 b2 =>
        simp only [Ob.both, Ob.ok.injEq] at h
        obtain ⟨rfl, rfl⟩ := h
        exact ⟨⟨a1, b1, rfl, fun x h => ha x (List.mem_append_left _ h), fun x h => hb x (List.mem_append_left _ h)⟩, ⟨a2, b2, rfl, fun x h => ha x (List.mem_append_right _ h), fun x h => hb x (List.mem_append_right _ h)⟩⟩
theorem obH_put {p q : List V → Prop} {x : List V} {r : Ob} (h : obH p q (r.put x)) : p x ∧ obH p q r := by
  obtain ⟨a, b, h, ha, hb⟩ := h
  cases r with
  | fail => cases h
  | ok a1 b1 =>
    simp only [Ob.put, Ob.ok.injEq] at h
    obtain ⟨rfl, rfl⟩ := h
    exact ⟨ha x List.mem_cons_self, a1, _, rfl, fun y hy => ha y (List.mem_cons_of_mem _ hy), hb⟩
theorem obH_put2 {p q : List V → Prop} {x : List V} {r : Ob} (h : obH p q (r.put2 x)) : q x ∧ obH p q r := by
  obtain ⟨a, b, h, ha, hb⟩ := h
  cases r with
  | fail => cases h
  | ok a1 b1 =>
    simp only [Ob.put2, Ob.ok.injEq] at h
    obtain ⟨rfl, rfl⟩ := h
    exact ⟨hb x List.mem_cons_self, _, b1, rfl, ha, fun y hy => hb y (List.mem_cons_of_mem _ hy)⟩
def endO (v : V) (_ : Mem) : Ob := match v with | .bool true => .ok [] [] | _ => .fail
theorem endO_true {p q : List V → Prop} {v : V} {m : Mem} (h : obH p q (endO v m)) : v = .bool true := by
  obtain ⟨a, b, h, _⟩ := h
  unfold endO at h
  split at h
  · rfl
  · cases h
def lastFO : CF Ob := fun _ _ _ _ => .fail
theorem lastFO_ok {P : Program} {p q : List V → Prop} : LastOk P lastFO (obH p q) := last_none (A := obA) (obHolds p q)

/-- A function that answers so whenever it is asked what is said. -/
def lastO (n : Nat) (L : Lay) (last : CF Ob) : CF Ob := fun f args m K =>
  match f with
  | .func (.func g) [] [] => bif Nat.beq g n then (L.go m K).put args else last (.func (.func g) [] []) args m K
  | f => last f args m K
open Classical in
theorem lastO_ok {P : Program} {p q : List V → Prop} {n : Nat} (hcl : Callable P n) {L : Lay} (hS : ∀ (ρ : Ren) (args : List V) (args' : List Value), p args → VRs ρ args args' → L.isPlain = true ∧ AnswersL P n args' L) {last : CF Ob} (hl : LastOk P last (obH p q)) :
    LastOk P (lastO n L last) (obH p q) := by
  intro ρ₀ ρ m w f f' args args' K hle hm hf ha hH
  unfold lastO at hH
  split at hH
  · rename_i g
    by_cases e : g = n
    · subst e
      rw [nbeqT rfl, cond_true] at hH
      obtain ⟨h1, h2⟩ := obH_put hH
      refine lastL_ok hcl (S := fun x => if p x then some L else none) (fun ρ args args' L' hs ha => ?_) (lastFO_ok (P := P) (p := p) (q := q)) ρ₀ ρ m w _ f' args args' K hle hm hf ha ?_
      · split at hs
        · rename_i hp
          cases hs
          exact hS ρ args args' hp ha
        · cases hs
      · simp only [lastL, Nat.beq_refl, cond_true, if_pos h1]; exact h2
    · rw [nbeqF e, cond_false] at hH
      exact hl ρ₀ ρ m w _ f' args args' K hle hm hf ha hH
  · exact hl ρ₀ ρ m w f f' args args' K hle hm hf ha hH

/-- A function by a contract over memory, whenever it is asked so; 'q' is what the contract rests on. -/
def lastCO (n : Nat) (S : List V → Mem → Option (Con × List Nat × List V)) (last : CF Ob) : CF Ob := fun f args m K =>
  match f with
  | .func (.func g) [] [] => bif Nat.beq g n then (match S args m with
    | some (C, l, x) => (K (C.ans.ren (C.tau (nthD l) m.next)) (C.mem (nthD l) m)).put2 x
    | none => last (.func (.func g) [] []) args m K) else last (.func (.func g) [] []) args m K
  | f => last f args m K
theorem lastCO_ok {P : Program} {p q : List V → Prop} {n : Nat} (hcl : Callable P n) {S : List V → Mem → Option (Con × List Nat × List V)} (hS : ∀ args m C l x, S args m = some (C, l, x) → q x → ConAt C (nthD l) args m ∧ ConOk P n C) {last : CF Ob} (hl : LastOk P last (obH p q)) :
    LastOk P (lastCO n S last) (obH p q) := by
  intro ρ₀ ρ m w f f' args args' K hle hm hf ha hH
  unfold lastCO at hH
  split at hH
  · rename_i g
    by_cases e : g = n
    · subst e
      rw [nbeqT rfl, cond_true] at hH
      split at hH
      · rename_i C l x hs
        obtain ⟨h1, h2⟩ := obH_put2 hH
        obtain ⟨h3, h4⟩ := hS args m C l x hs h1
        cases hf with | func e1 e2 =>
        cases e1; cases e2
        refine .inl ⟨g, _, callRun_of hcl _ _ w, ?_⟩
        rw [List.append_nil]
        rw [h3.args] at ha
        refine (con_use h4 h3.wf hm h3.inj h3.pre ha).mono fun e w' ⟨ρ', v', he, hv, hm', hx⟩ => ?_
        subst he
        exact ⟨ρ', _, _, hv, hm', hx, h2⟩
      · exact hl ρ₀ ρ m w _ f' args args' K hle hm hf ha hH
    · rw [nbeqF e, cond_false] at hH
      exact hl ρ₀ ρ m w _ f' args args' K hle hm hf ha hH
  · exact hl ρ₀ ρ m w f f' args args' K hle hm hf ha hH

/-! The end of a closed run, as a test. -/
mutual
theorem V.sameN_eq : ∀ (a b : V), a.sameN b = true → a = b
  | .ptr a i, b, h => by
    cases b <;> simp [V.sameN, V.same] at h
    rw [h.1, h.2]
  | .slice a i l c s, b, h => by
    cases b <;> simp [V.sameN, V.same] at h
    obtain ⟨⟨⟨⟨rfl, rfl⟩, rfl⟩, rfl⟩, rfl⟩ := h
    rfl
  | .map a, b, h => by
    cases b <;> simp [V.sameN, V.same] at h
    rw [h]
  | .agg a, b, h => by
    cases b <;> simp only [V.sameN] at h <;> first | (rw [sameNs_eq _ _ h]) | (exact V.same_eq _ _ h)
  | .tuple a, b, h => by
    cases b <;> simp only [V.sameN] at h <;> first | (rw [sameNs_eq _ _ h]) | (exact V.same_eq _ _ h)
  | .bool _, b, h => V.same_eq _ _ (by simpa [V.sameN] using h)
  | .int _ _, b, h => V.same_eq _ _ (by simpa [V.sameN] using h)
  | .str _, b, h => V.same_eq _ _ (by simpa [V.sameN] using h)
  | .nilptr, b, h => V.same_eq _ _ (by simpa [V.sameN] using h)
  | .nilslice, b, h => V.same_eq _ _ (by simpa [V.sameN] using h)
  | .nilmap, b, h => V.same_eq _ _ (by simpa [V.sameN] using h)
  | .func _ _ _, b, h => V.same_eq _ _ (by simpa [V.sameN] using h)
  | .nilfunc, b, h => V.same_eq _ _ (by simpa [V.sameN] using h)
  | .yield _, b, h => V.same_eq _ _ (by simpa [V.sameN] using h)
  | .iface _ _, b, h => V.same_eq _ _ (by simpa [V.sameN] using h)
  | .niliface, b, h => V.same_eq _ _ (by simpa [V.sameN] using h)
theorem sameNs_eq : ∀ (a b : List V), sameNs a b = true → a = b
  | [], [], _ => rfl
  | a :: as, b :: bs, h => by
    simp only [sameNs, Bool.and_eq_true] at h
    rw [V.sameN_eq a b h.1, sameNs_eq as bs h.2]
  | [], _ :: _, h => by simp [sameNs] at h
  | _ :: _, [], h => by simp [sameNs] at h
end
def oldB (m : Mem) : Nat → List AObj → Bool
  | _, [] => true
  | i, o :: l => (match m.get i with | some x => x.same o | none => false) && oldB m (i + 1) l
def newB (m : Mem) : List (Nat × AObj) → Bool
  | [] => true
  | (x, o) :: l => (match m.get x with | some y => y.same o | none => false) && newB m l
def endCB (C : Con) (u : V) (m : Mem) : Bool := u.sameN C.ans && (oldB m 0 C.old && newB m C.new)
theorem oldB_ok {m : Mem} : ∀ {l : List AObj} {i : Nat}, oldB m i l = true → oldOk m i l
  | [], _, _ => trivial
  | o :: l, i, h => by
    simp only [oldB, Bool.and_eq_true] at h
    refine ⟨?_, oldB_ok h.2⟩
    have h1 := h.1
    split at h1
    · rename_i x e; rw [e, AObj.same_eq h1]
    · cases h1
theorem newB_ok {m : Mem} : ∀ {l : List (Nat × AObj)}, newB m l = true → newOk m l
  | [], _ => trivial
  | (x, o) :: l, h => by
    simp only [newB, Bool.and_eq_true] at h
    refine ⟨?_, newB_ok h.2⟩
    have h1 := h.1
    split at h1
    · rename_i x e; rw [e, AObj.same_eq h1]
    · cases h1
theorem endCB_ok {C : Con} {u : V} {m : Mem} (h : endCB C u m = true) : endC C u m := by
  simp only [endCB, Bool.and_eq_true] at h
  exact ⟨V.sameN_eq _ _ h.1, oldB_ok h.2.1, newB_ok h.2.2⟩
/-- Several runs at once. -/
def allO : List Ob → Ob
  | [] => .ok [] []
  | x :: l => x.both (allO l)
theorem allO_mem {p q : List V → Prop} : ∀ {l : List Ob}, obH p q (allO l) → ∀ x ∈ l, obH p q x
  | y :: l, h, x, hx => by
    have := (obHolds p q).both y (allO l) h
    rcases List.mem_cons.1 hx with rfl | hx
    · exact this.1
    · exact allO_mem this.2 x hx
theorem obH_replicate {x y : List V} {r : Ob} {n k : Nat} (h : r = .ok (List.replicate n x) (List.replicate k y)) : obH (fun a => a = x) (fun b => b = y) r :=
  ⟨_, _, h, fun _ h => List.eq_of_mem_replicate h, fun _ h => List.eq_of_mem_replicate h⟩

/-- A law's run, that tells what was asked. -/
theorem said_calls {P : Program} (hmix : P.follows .mixedOrders = true) {tab : Nat → Option AFunc} (ht : TabOk P tab) {p q : List V → Prop} {last : CF Ob} (hl : LastOk P last (obH p q)) {d : Nat} {f : Nat} {af : AFunc} (hf : tab f = some af)
    {args : List V} {args' : List Value} (ha : VRs (fun _ => none) args args')
    (h : obH p q (callD obA tab last (d + 1) Ys.none (.func (.func f) [] []) args ⟨0, .leaf⟩ endO)) (w : World) : Calls P f ⟨args'⟩ w fun e w' => e = .returned (.bool true) ∧ Stays w w' := by
  refine calls_am (obHolds p q) hmix ht hl d hf (mr_none ⟨0, .leaf⟩ w) ha h fun ρ' v v' m' w' hv _ hx hK => ?_
  refine ⟨?_, hx.stays fun b i o h => nomatch h⟩
  have := endO_true hK
  subst this
  cases hv
  rfl
end Go.AM
