/- An abstract machine: an addition. No condition. -/
import Derived.Test.YthmbmcpjakbepaaAM36
import Derived.Test.YthmbmcpjakbepaaAMb
namespace Go.AM
open Go
abbrev En := V × V × Nat
def stamps (l : List En) : List Nat := l.map fun e => e.2.2
theorem stamps_app (l : List En) (e : En) : stamps (l ++ [e]) = stamps l ++ [e.2.2] := by simp [stamps]
structure Stamped (es : List En) (c : Nat) : Prop where
 lt : ∀ e ∈ es, e.2.2 < c
 nd : (stamps es).Nodup
 len : es.length < rounds - 1
structure Vis (es vis : List En) : Prop where
 sub : ∀ e ∈ vis, e ∈ es
 nd : (stamps vis).Nodup
theorem Vis.nil (es : List En) : Vis es [] := ⟨(fun _ h => by cases h), List.nodup_nil⟩
theorem stamp_inj : ∀ {es : List En}, (stamps es).Nodup → ∀ {a b : En}, a ∈ es → b ∈ es → a.2.2 = b.2.2 → a = b
 | [], _, _, _, ha, _, _ => by cases ha
 | x :: es, h, a, b, ha, hb, e => by
  rw [stamps, List.map_cons, List.nodup_cons] at h
  rcases List.mem_cons.1 ha with h1 | h1
  ·rcases List.mem_cons.1 hb with h2 | h2
   ·rw [h1, h2]
   ·exact absurd (List.mem_map.2 ⟨b, h2, by rw [← e, h1]⟩) h.1
  ·rcases List.mem_cons.1 hb with h2 | h2
   ·exact absurd (List.mem_map.2 ⟨a, h1, by rw [e, h2]⟩) h.1
   ·exact stamp_inj h.2 h1 h2 e
theorem length_le_nat : ∀ {a b : List Nat}, a.Nodup → (∀ x ∈ a, x ∈ b) → a.length ≤ b.length
 | [], _, _, _ => Nat.zero_le _
 | x :: a, b, h, hs => by
  rw [List.nodup_cons] at h
  have hx := hs x List.mem_cons_self
  have h1 := length_le_nat (b := b.erase x) h.2 fun y hy => (List.mem_erase_of_ne (fun e : y = x => h.1 (by rw [← e]; exact hy))).2 (hs y (List.mem_cons_of_mem _ hy))
  rw [List.length_erase_of_mem hx] at h1
  have := List.length_pos_of_mem hx
  simp only [List.length_cons]; omega
theorem nodup_of_stamps : ∀ {es : List En}, (stamps es).Nodup → es.Nodup
 | [], _ => List.nodup_nil
 | x :: es, h => by
  rw [stamps, List.map_cons, List.nodup_cons] at h
  exact List.nodup_cons.2 ⟨fun hx => h.1 (List.mem_map.2 ⟨x, hx, rfl⟩), nodup_of_stamps h.2⟩
theorem Vis.snoc {es vis : List En} (v : Vis es vis) {e : En} (he : e ∈ es) (hn : e.2.2 ∉ stamps vis) : Vis es (vis ++ [e]) := by
 refine ⟨fun a ha => ?_, ?_⟩
 ·rcases List.mem_append.1 ha with h | h
  ·exact v.sub a h
  ·rw [List.mem_singleton.1 h]; exact he
 ·rw [stamps_app, List.nodup_append]
  refine ⟨v.nd, by simp, fun a ha b hb => ?_⟩
  rw [List.mem_singleton.1 hb]
  exact fun e => hn (e ▸ ha)
theorem Vis.perm {es vis : List En} (v : Vis es vis) (h : (stamps es).Nodup) (hall : ∀ e ∈ es, e.2.2 ∈ stamps vis) : vis.Perm es := by
 refine (List.perm_ext_iff_of_nodup (nodup_of_stamps v.nd) (nodup_of_stamps h)).2 fun a => ⟨v.sub a, fun ha => ?_⟩
 obtain ⟨b, hb, e⟩ := List.mem_map.1 (hall a ha)
 rw [← stamp_inj h (v.sub b hb) ha e]; exact hb
theorem Vis.le {es vis : List En} (v : Vis es vis) : vis.length ≤ es.length := by
 have h := length_le_nat (a := stamps vis) (b := stamps es) v.nd fun x hx => by
  obtain ⟨e, he, rfl⟩ := List.mem_map.1 hx
  exact List.mem_map.2 ⟨e, v.sub e he, rfl⟩
 simpa [stamps] using h
theorem allR_all {K : V → Mem → Prop} : ∀ {l : List (V × Mem)}, l ≠ [] → (∀ x ∈ l, K x.1 x.2) → allR pA K l
 | [], h, _ => absurd rfl h
 | [(v, m)], _, h => h (v, m) List.mem_cons_self
 | (v, m) :: x :: l, _, h => ⟨h (v, m) List.mem_cons_self, allR_all (by simp) fun y hy => h y (List.mem_cons_of_mem _ hy)⟩
abbrev itO (mb c : Nat) (vis : List En) : AObj := .iter (some mb) c (stamps vis) c
abbrev itO1 (mb c : Nat) (vis : List En) (t : Nat) : AObj := .iter (some mb) c (stamps vis ++ [t]) c
theorem nextS_range {m : Mem} {r mb c : Nat} {es vis : List En} {ro : Bool} (hr : m.get r = some (itO mb c vis)) (hm : m.get mb = some (.map es c ro)) (hs : Stamped es c) :
  (∀ e ∈ es, e.2.2 ∈ stamps vis) ∧ nextS m (.ptr r 0) = some [(.tuple [.bool false], m)] ∨
  ∃ left : List En, left ≠ [] ∧ (∀ e ∈ left, e ∈ es ∧ e.2.2 ∉ stamps vis) ∧ nextS m (.ptr r 0) = some (left.map fun e => (.tuple [.bool true, e.1, e.2.1], m.set r (itO1 mb c vis e.2.2))) := by
 have h1 : (!(stamps vis).isEmpty && !es.isEmpty && es.all fun e => Nat.ble c e.2.2) = false := by
  cases es with
  | nil => simp
  | cons x l =>
   have : Nat.ble c x.2.2 = false := by
    cases e : Nat.ble c x.2.2 with
    | false => rfl
    | true => have := nble_iff.1 e; have := hs.lt x List.mem_cons_self; omega
   simp [this]
 have h2 : ((es.filter fun e => !(stamps vis).contains e.2.2).all fun e => Nat.blt e.2.2 c) = true := by
  rw [List.all_eq_true]
  intro e he
  exact nblt_iff.2 (hs.lt e (List.mem_filter.1 he).1)
 simp only [nextS, hr, hm, h1, cond_false, h2, cond_true]
 cases e : es.filter fun e => !(stamps vis).contains e.2.2 with
 | nil =>
  refine .inl ⟨fun a ha => ?_, rfl⟩
  have : a ∉ es.filter fun e => !(stamps vis).contains e.2.2 := by rw [e]; simp
  rw [List.mem_filter, not_and] at this
  simpa using this ha
 | cons x l =>
  refine .inr ⟨x :: l, by simp, fun a ha => ?_, rfl⟩
  rw [← e, List.mem_filter] at ha
  exact ⟨ha.1, by simpa using ha.2⟩
theorem entry_ok {es : List En} {c : Nat} (hs : Stamped es c) {e : En} (he : e ∈ es) (S : List Nat) (ro : Bool) : entryV (List.getLast? (S ++ [e.2.2])) (some (.map es c ro)) c = some (.tuple [e.1, e.2.1]) := by
 have h1 : es.find? (fun x => Nat.beq x.2.2 e.2.2) = some e := by
  cases h : es.find? (fun x => Nat.beq x.2.2 e.2.2) with
  | none => exact absurd (List.find?_eq_none.1 h e he) (by simp [Nat.beq_refl])
  | some a =>
   have h2 := List.find?_some h
   exact congrArg some (stamp_inj hs.nd (List.mem_of_find?_eq_some h) he (Nat.eq_of_beq_eq_true h2))
 simp only [entryV, List.getLast?_append, List.getLast?_singleton, Option.some_or, Nat.beq_refl, cond_true, h1]
def freeB (s : Sl) : List (Sl × V) → Bool
 | [] => true
 | (t, _) :: l => !(decide (t = s)) && freeB s l
theorem allS_set {T : Slots} {s : Sl} {v : V} : ∀ {l : List (Sl × V)}, freeB s l = true → allS T l → allS (T.set v s) l
 | [], _, _ => trivial
 | (t, u) :: l, h, ⟨h1, h2⟩ => by
  simp only [freeB, Bool.and_eq_true, Bool.not_eq_true', decide_eq_false_iff_not] at h
  refine ⟨?_, allS_set h.2 h2⟩
  rw [Slots.get_set, if_neg h.1]; exact h1
abbrev rangeB (sN sI sB : Sl) (x : Nat) (body : ACode) : ACode :=
 .seq (.ops [⟨some sN, .next (.t sI), none⟩, ⟨some sB, .quiet false (qExt 0 (.t sN)), none⟩]) (.seq (.cond (.t sB) .skip (.exit x)) body)
section
variable {cfy : Ys Prop → CF Prop} {sN sI sB : Sl} {x : Nat} {body : ACode}
theorem range_end {Y : Ys Prop} {T : Slots} {m : Mem} {r : Nat} {K : Ex → Slots → Mem → Prop} (hI : T.get sI = .ptr r 0) (h : nextS m (.ptr r 0) = some [(.tuple [.bool false], m)])
  (hK : K (.exit x) ((T.set (.tuple [.bool false]) sN).set (.bool false) sB) m) : code pA cfy Y (rangeB sN sI sB x body) T m K := by
 simp only [rangeB, code, opers, wantedA, cond_true, oper1, ev, hI, h, allR, putD, qExt, Slots.get_set, if_true, nth]
 exact hK
theorem range_next {Y : Ys Prop} {T : Slots} {m : Mem} {r : Nat} {l : List (V × V × Mem)} {K : Ex → Slots → Mem → Prop} (hI : T.get sI = .ptr r 0) (h : nextS m (.ptr r 0) = some (l.map fun y => (.tuple [.bool true, y.1, y.2.1], y.2.2))) (hl : l ≠ [])
  (hK : ∀ y ∈ l, code pA cfy Y body ((T.set (.tuple [.bool true, y.1, y.2.1]) sN).set (.bool true) sB) y.2.2 K) : code pA cfy Y (rangeB sN sI sB x body) T m K := by
 simp only [rangeB, code, opers, wantedA, cond_true, oper1, ev, hI, h, putD]
 refine allR_all (by simpa using hl) fun z hz => ?_
 obtain ⟨y, hy, rfl⟩ := List.mem_map.1 hz
 simp only [qExt, ev, Slots.get_set, if_true, nth]
 exact hK y hy
end
end Go.AM
