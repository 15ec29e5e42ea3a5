/- An abstract machine: an addition. No condition. -/
import Derived.Test.YtblblhfgpcgheaaAM36
import Derived.Test.YtblblhfgpcgheaaAMb
namespace Go.AM
open Go
abbrev En := V × V × Nat
def stamps (l : List En) : List Nat := l.map fun e => e.2.2
structure Vis (es vis : List En) : Prop where
 sub : ∀ e ∈ vis, e ∈ es
 nd : (stamps vis).Nodup
theorem Vis.nil (es : List En) : Vis es [] := ⟨(fun _ h => by cases h), List.nodup_nil⟩
theorem length_le_nat : ∀ {a b : List Nat}, a.Nodup → (∀ x ∈ a, x ∈ b) → a.length ≤ b.length
 | [], _, _, _ => Nat.zero_le _
 | x :: a, b, h, hs => by
  rw [List.nodup_cons] at h
  have hx := hs x List.mem_cons_self
  have h1 := length_le_nat (b := b.erase x) h.2 fun y hy => (List.mem_erase_of_ne (fun e : y = x => h.1 (by rw [← e]; exact hy))).2 (hs y (List.mem_cons_of_mem _ hy))
  rw [List.length_erase_of_mem hx] at h1
  have := List.length_pos_of_mem hx
  simp only [List.length_cons]; omega
theorem Vis.le {es vis : List En} (v : Vis es vis) : vis.length ≤ es.length := by
 have h := length_le_nat (a := stamps vis) (b := stamps es) v.nd fun x hx => by
  obtain ⟨e, he, rfl⟩ := List.mem_map.1 hx
  exact List.mem_map.2 ⟨e, v.sub e he, rfl⟩
 simpa [stamps] using h
def freeB (s : Sl) : List (Sl × V) → Bool
 | [] => true
 | (t, _) :: l => !(decide (t = s)) && freeB s l
theorem allS_set {T : Slots} {s : Sl} {v : V} : ∀ {l : List (Sl × V)}, freeB s l = true → allS T l → allS (T.set v s) l
 | [], _, _ => trivial
 | (t, u) :: l, h, ⟨h1, h2⟩ => by
  simp only [freeB, Bool.and_eq_true, Bool.not_eq_true', decide_eq_false_iff_not] at h
  refine ⟨?_, allS_set h.2 h2⟩
  rw [Slots.get_set, if_neg h.1]; exact h1
section
variable {cfy : Ys Prop → CF Prop} {sN sI sB : Sl} {x : Nat} {body : ACode}
end
end Go.AM
