/- An abstract machine: an addition. No condition. -/
import Derived.Test.YtjikaankdnmabaaAM51
import Derived.Test.YtjikaankdnmabaaAM38
import Derived.Test.YtjikaankdnmabaaAMb
namespace Go.AM
open Go
theorem con_move {P : Program} {n : Nat} {C C' : Con} (hC : ConOk P n C) (hwf : C.wf = true) (l : List Nat) (hl : (nodupL l && Nat.beq l.length C.pre.length) = true) (hpre : preOk (nthD l) (memO C'.pre) 0 C.pre) (ha : C'.args = rens (nthD l) C.args)
    (hv : C.ans.ren (C.tau (nthD l) C'.pre.length) = C'.ans) (ho : oldOk (C.mem (nthD l) (memO C'.pre)) 0 C'.old) (hn : newOk (C.mem (nthD l) (memO C'.pre)) C'.new) : ConOk P n C' := by
  intro ρ w args' hρ hm hr
  simp only [Bool.and_eq_true] at hl
  have e := Nat.eq_of_beq_eq_true hl.2
  rw [ha] at hr
  refine (con_use hC hwf hm (fun a b ha hb => nthD_inj hl.1 a b (by omega) (by omega)) (fun c o h => by have := preOk_get hpre c o h; rwa [Nat.zero_add] at this) hr).mono fun e w' h => ?_
  obtain ⟨ρ', v', h1, h2, h3, h4⟩ := h
  exact ⟨ρ', _, v', h1, h3, h4, hv ▸ h2, fun c o h => by have := oldOk_get ho c o h; rwa [Nat.zero_add] at this, newOk_get hn⟩
theorem mapK_img {w : World} {v : Value} (h : IsMapK w v) : ∃ (r : Option Img) (c : Nat) (L : List (Int × List Nat × Nat)), (∀ i, r = some i → ∃ es : Array MapEntry, w.heap[i.b]? = some (.map es c) ∧ ∀ ρ : Ren, ERs ρ (mV L) es.toList) ∧ (∀ y ∈ L, y.2.2 < c) ∧ (L.map fun y => y.2.2).Nodup ∧ (L.map fun y => y.1).Nodup ∧
    ((r = none ∧ v = .map none ∧ L = []) ∨ ∃ i, r = some i ∧ v = .map (some i.b)) := by
  rcases h with rfl | ⟨b, es, c, L, rfl, h1, h2, h3, h4, h5⟩
  · exact ⟨none, 0, [], (fun i h => nomatch h), (fun y h => nomatch h), List.nodup_nil, List.nodup_nil, .inl ⟨rfl, rfl, rfl⟩⟩
  · exact ⟨some ⟨b, 0, 0, none⟩, c, L, (fun i h => by cases h; exact ⟨es, h1, h2⟩), h3, h4, h5, .inr ⟨_, rfl, rfl⟩⟩
def ren2 (r0 r1 : Option Img) : Ren
  | 0 => r0
  | 1 => r1
  | _ => none
theorem calls_two {P : Program} {n : Nat} {args : List V} {args' : List Value} {L G : List (Int × List Nat × Nat)} {c c2 : Nat} {w : World} {r0 r1 : Option Img} (hC : ConOk P n ⟨args, [.map (mV L) c true, .map (mV G) c2 true], .bool true, [.map (mV L) c true, .map (mV G) c2 true], []⟩)
    (h0 : ∀ i, r0 = some i → ∃ es : Array MapEntry, w.heap[i.b]? = some (.map es c) ∧ ∀ ρ : Ren, ERs ρ (mV L) es.toList) (h1 : ∀ i, r1 = some i → ∃ es : Array MapEntry, w.heap[i.b]? = some (.map es c2) ∧ ∀ ρ : Ren, ERs ρ (mV G) es.toList) (ha : VRs (ren2 r0 r1) args args') :
    Calls P n ⟨args'⟩ w fun e w' => e = .returned (.bool true) ∧ Stays w w' := by
  have hx : ∀ x i, ren2 r0 r1 x = some i → (x = 0 ∧ r0 = some i) ∨ (x = 1 ∧ r1 = some i) := by
    intro x i h
    match x, h with
    | 0, h => exact .inl ⟨rfl, h⟩
    | 1, h => exact .inr ⟨rfl, h⟩
  have hro : ∀ x i o, ren2 r0 r1 x = some i → (memO [.map (mV L) c true, .map (mV G) c2 true]).get x = some o → o.wr = false := by
    intro x i o h ho
    rw [memO_get] at ho
    rcases hx x i h with ⟨rfl, _⟩ | ⟨rfl, _⟩ <;> · cases ho; rfl
  refine (hC (ren2 r0 r1) w args' (fun x i h => ?_) ⟨fun x i h => ?_, fun x i o h ho => ?_, fun x y i j o u hx' hy _ ho hw _ _ => ?_⟩ ha).mono fun e w' h => ?_
  · rcases hx x i h with ⟨rfl, _⟩ | ⟨rfl, _⟩
    · exact Nat.zero_lt_two
    · exact Nat.one_lt_two
  · rcases hx x i h with ⟨rfl, e⟩ | ⟨rfl, e⟩
    · obtain ⟨es, h2, _⟩ := h0 i e
      exact ⟨Nat.zero_lt_two, (Array.getElem?_eq_some_iff.1 h2).1⟩
    · obtain ⟨es, h2, _⟩ := h1 i e
      exact ⟨Nat.one_lt_two, (Array.getElem?_eq_some_iff.1 h2).1⟩
  · rw [memO_get] at ho
    rcases hx x i h with ⟨rfl, e⟩ | ⟨rfl, e⟩
    · cases ho
      obtain ⟨es, h2, h3⟩ := h0 i e
      exact ⟨es, h2, h3 _⟩
    · cases ho
      obtain ⟨es, h2, h3⟩ := h1 i e
      exact ⟨es, h2, h3 _⟩
  · rw [hro x i o hx' ho] at hw; cases hw
  · obtain ⟨ρ', m', v', h1, h2, h3, h4, _⟩ := h
    exact ⟨by cases h4; exact h1, h3.stays fun x i o hx ho => hro x i o hx ho⟩
end Go.AM
