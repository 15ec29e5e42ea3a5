/- An abstract machine: an addition. No condition. -/
import Derived.Test.YtjikaankdnmabaaAM45
import Derived.Test.YtjikaankdnmabaaAM46
import Derived.Test.YtjikaankdnmabaaAMb
namespace Go.AM
open Go
theorem new1_out {ρ : Ren} {w w' : World} {pre : List AObj} {ρ' : Ren} {m' : Mem} {b : Nat} {ob : AObj} {f : Nat → V} {v' : Value} (hρ : ∀ c i, ρ c = some i → c < pre.length) (hm' : MR ρ' m' w') (hx : Ext ρ (memO pre) w ρ' m' w') (hv : VR ρ' (f b) v')
    (hpl : ob.plain = true) (hbel : ∀ o ∈ pre, o.belD pre.length = true) (hb1 : pre.length ≤ b) (hb2 : m'.get b = some ob) (hb3 : ∀ (c : Nat) (o : AObj), pre[c]? = some o → m'.get c = some o)
    (hf : ∀ (ρ₁ ρ₂ : Ren) (N : Nat), (∀ i, ρ₁ b = some i → ρ₂ N = some i) → VR ρ₁ (f b) v' → VR ρ₂ (f N) v') :
    ∃ (ρ'' : Ren) (m'' : Mem), MR ρ'' m'' w' ∧ Ext ρ (memO pre) w ρ'' m'' w' ∧ VR ρ'' (f pre.length) v' ∧ (∀ (c : Nat) (o : AObj), pre[c]? = some o → m''.get c = some o) ∧ m''.get pre.length = some ob := by
  let N := pre.length
  let ρ'' : Ren := fun c => if c < N then ρ' c else if c = N then ρ' b else none
  let m'' : Mem := memO (pre ++ [ob])
  have hget : ∀ c o, m''.get c = some o → (c < N ∧ pre[c]? = some o) ∨ (c = N ∧ o = ob) := by
    intro c o h
    show _
    rw [memO_get] at h
    rcases Nat.lt_or_ge c N with hc | hc
    · rw [List.getElem?_append_left hc] at h; exact .inl ⟨hc, h⟩
    · rw [List.getElem?_append_right hc] at h
      have : c - N = 0 := by
        rcases Nat.eq_zero_or_pos (c - N) with h0 | h0
        · exact h0
        · rw [List.getElem?_eq_none (by simp; omega)] at h; cases h
      rw [show c - pre.length = 0 from this] at h
      cases h
      exact .inr ⟨by omega, rfl⟩
  have hlow : ∀ c i, c < N → ρ' c = some i → ρ'' c = some i := fun c i hc h => by simp only [ρ'']; rw [if_pos hc]; exact h
  have hkeep : ∀ c i, underN N c = true → ρ' c = some i → ρ'' c = some i := fun c i hc h => hlow c i (nblt_iff.1 hc) h
  have hN : ∀ i, ρ' b = some i → ρ'' N = some i := fun i h => by simp only [ρ'']; rw [if_neg (Nat.lt_irrefl _), if_true]; exact h
  have r0 : ∀ c i, ρ'' c = some i → (c < N ∧ ρ' c = some i) ∨ (c = N ∧ ρ' b = some i) := by
    intro c i h
    simp only [ρ''] at h
    split at h
    · exact .inl ⟨by assumption, h⟩
    · split at h
      · exact .inr ⟨by assumption, h⟩
      · cases h
  have src : ∀ c i o, ρ'' c = some i → m''.get c = some o → ∃ x, ρ' x = some i ∧ m'.get x = some o ∧ ((c < N ∧ x = c) ∨ (c = N ∧ x = b)) := by
    intro c i o h1 h2
    rcases r0 c i h1 with ⟨a1, a2⟩ | ⟨a1, a2⟩
    · rcases hget c o h2 with ⟨_, b2⟩ | ⟨b1, _⟩
      · exact ⟨c, a2, hb3 c o b2, .inl ⟨a1, rfl⟩⟩
      · omega
    · rcases hget c o h2 with ⟨b1, _⟩ | ⟨_, rfl⟩
      · omega
      · exact ⟨b, a2, hb2, .inr ⟨a1, rfl⟩⟩
  have hnext : m''.next = N + 1 := by show (pre ++ [ob]).length = N + 1; simp [N]
  refine ⟨ρ'', m'', ⟨fun c i h => ?_, fun c i o h ho => ?_, fun c e i j o u h1 h2 hij ho hw hu hl => ?_⟩, ⟨fun c i h => ?_, hx.size, ?_, fun c i h => ?_, hx.keep, fun c i o h ho hw hlt => ?_, hx.mute⟩, ?_, fun c o h => ?_, ?_⟩
  · rw [hnext]
    rcases r0 c i h with ⟨a1, a2⟩ | ⟨a1, a2⟩
    · exact ⟨by omega, (hm'.lt c i a2).2⟩
    · exact ⟨by omega, (hm'.lt b i a2).2⟩
  · obtain ⟨x, x1, x2, x3⟩ := src c i o h ho
    have h1 := hm'.obj x i o x1 x2
    rcases x3 with ⟨a1, rfl⟩ | ⟨a1, rfl⟩
    · rcases hget x o ho with ⟨_, b2⟩ | ⟨b1, _⟩
      · exact h1.keep hkeep (hbel o (List.mem_of_getElem? b2))
      · omega
    · rcases hget c o ho with ⟨b1, _⟩ | ⟨_, rfl⟩
      · omega
      · exact h1.any hpl
  · obtain ⟨x, x1, x2, x3⟩ := src c i o h1 ho
    obtain ⟨y, y1, y2, y3⟩ := src e j u h2 hu
    have := hm'.inj x y i j o u x1 y1 hij x2 hw y2 hl
    subst this
    rcases x3 with ⟨a1, a2⟩ | ⟨a1, a2⟩ <;> rcases y3 with ⟨b1, b2⟩ | ⟨b1, b2⟩ <;> omega
  · exact hlow c i (hρ c i h) (hx.ren c i h)
  · rw [hnext]; show pre.length ≤ N + 1; omega
  · rcases r0 c i h with ⟨a1, a2⟩ | ⟨a1, a2⟩
    · rcases hx.fresh c i a2 with h | h
      · exact .inl h
      · exact .inr h
    · exact .inr (by show pre.length ≤ c; omega)
  · obtain ⟨x, x1, x2, _⟩ := src c i o h ho
    exact hx.old x i o x1 x2 hw hlt
  · exact hf ρ' ρ'' _ hN hv
  · have hc : c < N := (List.getElem?_eq_some_iff.1 h).1
    show (memO _).get c = _
    rw [memO_get, List.getElem?_append_left hc]; exact h
  · show (memO _).get _ = _
    rw [memO_get, List.getElem?_append_right (Nat.le_refl _), Nat.sub_self]; rfl
def endN (pre : List AObj) (f : Nat → V) (ob : AObj) (u : V) (m : Mem) : Prop := ∃ b, pre.length ≤ b ∧ u = f b ∧ m.get b = some ob ∧ ∀ (c : Nat) (o : AObj), pre[c]? = some o → m.get c = some o
theorem endN_of {args : List V} {pre : List AObj} {f : Nat → V} {ob : AObj} {b : Nat} (hb : pre.length ≤ b) {u : V} {m : Mem} (h : endC ⟨args, pre, f b, pre, [(b, ob)]⟩ u m) : endN pre f ob u m :=
  ⟨b, hb, h.1, h.2.2.1, fun c o e => by have := oldOk_get h.2.1 c o e; rwa [Nat.zero_add] at this⟩
def Names (f : Nat → V) : Prop := ∀ (b : Nat) (v' : Value) (ρ₁ ρ₂ : Ren) (N : Nat), (∀ i, ρ₁ b = some i → ρ₂ N = some i) → VR ρ₁ (f b) v' → VR ρ₂ (f N) v'
theorem names_slice (n k : Nat) : Names fun b => .slice b 0 n k 1 := fun b v' ρ₁ ρ₂ N h hv => by cases hv with | slice e1 e2 e3 e4 e5 => exact .slice (h _ e1) e2 e3 e4 e5
theorem names_map : Names fun b => .map b := fun b v' ρ₁ ρ₂ N h hv => by cases hv with | map e1 => exact .map (h _ e1)
theorem names_int {f : Nat → V} (hf : Names f) (e : Int) : Names fun b => .tuple [f b, .int .i64 e] := fun b v' ρ₁ ρ₂ N h hv => by
  cases hv with | tuple hs =>
  cases hs with | cons h1 hs =>
  cases hs with | cons h2 hs =>
  cases hs
  cases h2
  exact .tuple (.cons (hf _ _ _ _ _ h h1) (.cons (.int _ _) .nil))
theorem conOk_new {P : Program} (hmix : P.follows .mixedOrders = true) {n : Nat} {af : AFunc} (hok : FOk P n af) {cfy : Ys Prop → CF Prop} (hcf : CFOk P cfy id) {args : List V} {pre : List AObj} {f : Nat → V} {ob : AObj} (hf : Names f) (hpl : ob.plain = true) (hbel : ∀ o ∈ pre, o.belD pre.length = true)
    {K : V → Mem → Prop} (hK : ∀ u m, K u m → endN pre f ob u m) (hw : body1 pA cfy Ys.none af args (memO pre) K) : ConOk P n ⟨args, pre, f pre.length, pre, [(pre.length, ob)]⟩ := by
  intro ρ w args' hρ hm ha
  obtain ⟨fn, h3, h4, _⟩ := hok
  refine (func_sound (A := pA) (H := id) pHolds hcf hmix h3 h4 (Y := Ys.none) (ρ := ρ) YOk.none hm ha hw).mono fun e w' he => ?_
  cases e with
  | panicked c => exact he.elim
  | outgrown => exact he.elim
  | returned v' =>
    obtain ⟨ρ', u, m', hv, hm', hx, he⟩ := he
    obtain ⟨b, hb1, rfl, hb2, hb3⟩ := hK u m' he
    obtain ⟨ρ'', m'', g1, g2, g3, g4, g5⟩ := new1_out (f := f) hρ hm' hx hv hpl hbel hb1 hb2 hb3 (fun ρ₁ ρ₂ N => hf b v' ρ₁ ρ₂ N)
    exact ⟨ρ'', m'', v', rfl, g1, g2, g3, g4, fun x hx => by simp only [List.mem_cons, List.not_mem_nil, or_false] at hx; subst hx; exact g5⟩
theorem conQOk_new {P : Program} (hmix : P.follows .mixedOrders = true) {n : Nat} {af : AFunc} (hok : FOk P n af) {cfy : Ys Prop → CF Prop} (hcf : CFOk P cfy id) {args : List V} {pre : List AObj} {Q : EnL → Prop} {f : Nat → V} {ob : EnL → AObj} (hf : Names f) (hpl : ∀ x, Q x → (ob x).plain = true) (hbel : ∀ o ∈ pre, o.belD pre.length = true)
    {K : V → Mem → Prop} (hK : ∀ u m, K u m → ∃ x, Q x ∧ endN pre f (ob x) u m) (hw : body1 pA cfy Ys.none af args (memO pre) K) : ConQOk P n (fun X => ∃ x, Q x ∧ X = ⟨args, pre, f pre.length, pre, [(pre.length, ob x)]⟩) := by
  intro C₀ ⟨x0, h0, e0⟩ ρ w args' hρ hm ha
  subst e0
  have hρ : ∀ c i, ρ c = some i → c < pre.length := hρ
  have hm : MR ρ (memO pre) w := hm
  obtain ⟨fn, h3, h4, _⟩ := hok
  refine (func_sound (A := pA) (H := id) pHolds hcf hmix h3 h4 (Y := Ys.none) (ρ := ρ) YOk.none hm ha hw).mono fun e w' he => ?_
  cases e with
  | panicked c => exact he.elim
  | outgrown => exact he.elim
  | returned v' =>
    obtain ⟨ρ', u, m', hv, hm', hx, he⟩ := he
    obtain ⟨x, hx0, b, hb1, rfl, hb2, hb3⟩ := hK u m' he
    obtain ⟨ρ'', m'', g1, g2, g3, g4, g5⟩ := new1_out (f := f) hρ hm' hx hv (hpl x hx0) hbel hb1 hb2 hb3 (fun ρ₁ ρ₂ N => hf b v' ρ₁ ρ₂ N)
    exact ⟨_, ⟨x, hx0, rfl⟩, ρ'', m'', v', rfl, g1, g2, g3, g4, fun y hy => by simp only [List.mem_cons, List.not_mem_nil, or_false] at hy; subst hy; exact g5⟩
theorem conOk_newD {P : Program} (hmix : P.follows .mixedOrders = true) {n : Nat} {af : AFunc} (hok : FOk P n af) {cfy : Ys Prop → CF Prop} (hcf : CFOk P cfy id) {args : List V} {pre : List AObj} {f : Nat → V} {ob : AObj} (hf : Names f) (hpl : ob.plain = true) (hbel : ∀ o ∈ pre, o.belD pre.length = true)
    {K : V → Mem → Prop} (hK : ∀ u m, K u m → endN pre f ob u m) (hw : body1D cfy Ys.none af args (memO pre) K) : ConOk P n ⟨args, pre, f pre.length, pre, [(pre.length, ob)]⟩ := by
  intro ρ w args' hρ hm ha
  obtain ⟨fn, h3, h4, _⟩ := hok
  refine (func_soundD hcf hmix h3 h4 (Y := Ys.none) (ρ := ρ) YOk.none hm ha hw).mono fun e w' he => ?_
  cases e with
  | panicked c => exact he.elim
  | outgrown => exact he.elim
  | returned v' =>
    obtain ⟨ρ', u, m', hv, hm', hx, he⟩ := he
    obtain ⟨b, hb1, rfl, hb2, hb3⟩ := hK u m' he
    obtain ⟨ρ'', m'', g1, g2, g3, g4, g5⟩ := new1_out (f := f) hρ hm' hx hv hpl hbel hb1 hb2 hb3 (fun ρ₁ ρ₂ N => hf b v' ρ₁ ρ₂ N)
    exact ⟨ρ'', m'', v', rfl, g1, g2, g3, g4, fun x hx => by simp only [List.mem_cons, List.not_mem_nil, or_false] at hx; subst hx; exact g5⟩
theorem conQOk_newD {P : Program} (hmix : P.follows .mixedOrders = true) {n : Nat} {af : AFunc} (hok : FOk P n af) {cfy : Ys Prop → CF Prop} (hcf : CFOk P cfy id) {args : List V} {pre : List AObj} {Q : EnL → Prop} {f : Nat → V} {ob : EnL → AObj} (hf : Names f) (hpl : ∀ x, Q x → (ob x).plain = true) (hbel : ∀ o ∈ pre, o.belD pre.length = true)
    {K : V → Mem → Prop} (hK : ∀ u m, K u m → ∃ x, Q x ∧ endN pre f (ob x) u m) (hw : body1D cfy Ys.none af args (memO pre) K) : ConQOk P n (fun X => ∃ x, Q x ∧ X = ⟨args, pre, f pre.length, pre, [(pre.length, ob x)]⟩) := by
  intro C₀ ⟨x0, h0, e0⟩ ρ w args' hρ hm ha
  subst e0
  have hρ : ∀ c i, ρ c = some i → c < pre.length := hρ
  have hm : MR ρ (memO pre) w := hm
  obtain ⟨fn, h3, h4, _⟩ := hok
  refine (func_soundD hcf hmix h3 h4 (Y := Ys.none) (ρ := ρ) YOk.none hm ha hw).mono fun e w' he => ?_
  cases e with
  | panicked c => exact he.elim
  | outgrown => exact he.elim
  | returned v' =>
    obtain ⟨ρ', u, m', hv, hm', hx, he⟩ := he
    obtain ⟨x, hx0, b, hb1, rfl, hb2, hb3⟩ := hK u m' he
    obtain ⟨ρ'', m'', g1, g2, g3, g4, g5⟩ := new1_out (f := f) hρ hm' hx hv (hpl x hx0) hbel hb1 hb2 hb3 (fun ρ₁ ρ₂ N => hf b v' ρ₁ ρ₂ N)
    exact ⟨_, ⟨x, hx0, rfl⟩, ρ'', m'', v', rfl, g1, g2, g3, g4, fun y hy => by simp only [List.mem_cons, List.not_mem_nil, or_false] at hy; subst hy; exact g5⟩
end Go.AM
