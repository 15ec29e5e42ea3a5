/- An abstract machine: an addition. No condition. -/
import Derived.Test.YtblblhfgpcgheaaAM36
import Derived.Test.YtblblhfgpcgheaaAMb
namespace Go.AM
open Go
structure Sub (nt B : Nat) (T : Slots) (m : Mem) (T' : Slots) (m' : Mem) (σ : Nat → Nat) : Prop where
 low : ∀ b, b < B → σ b = b
 next : B ≤ m'.next
 slots : ∀ n, n < nt → T.get (slotOf n) = (T'.get (slotOf n)).ren σ ∧ (T'.get (slotOf n)).bel (fun c => Nat.blt c m'.next) = true
 objs : ∀ b o, m'.get b = some o → m.get (σ b) = some (o.ren σ) ∧ o.bel (fun c => Nat.blt c m'.next) = true ∧ b < m'.next
 inj : ∀ b c o u, m'.get b = some o → m'.get c = some u → σ b = σ c → b = c
theorem At.sub {lo : Nat} {ρ₀ : Ren} {m₀ : Mem} {w₀ : World} {nt : Nat} {ρ : Ren} {T : Slots} {m : Mem} {a : Act} {w : World} (hlow : ∀ b i, ρ₀ b = some i → b < m₀.next) (h : At lo ρ₀ m₀ w₀ nt ρ T m a w) {T' : Slots} {m' : Mem} {σ : Nat → Nat} (hs : Sub nt m₀.next T m T' m' σ) :
  At lo ρ₀ m₀ w₀ nt (fun c => if c < m'.next then ρ (σ c) else none) T' m' a w := by
 let ρ' : Ren := fun c => if c < m'.next then ρ (σ c) else none
 have r0 : ∀ c i, ρ' c = some i → c < m'.next ∧ ρ (σ c) = some i := by
  intro c i h
  simp only [ρ'] at h
  split at h
  ·exact ⟨by assumption, h⟩
  ·cases h
 have r1 : ∀ c i, (fun c => Nat.blt c m'.next) c = true → ρ (σ c) = some i → ρ' c = some i := by
  intro c i h1 h2
  simp only [ρ']
  rw [if_pos (nblt_iff.1 h1)]; exact h2
 have hm := h.mr
 have hx := h.ext
 refine ⟨⟨h.sr.size, h.sr.le, fun n hn => ?_⟩, ⟨fun c i hc => ?_, fun c i o hc ho => ?_, fun b c i j o u hb hc hij ho hw hu hl => ?_⟩, ⟨fun b i hb => ?_, hx.size, hs.next, fun b i hb => ?_, hx.keep, fun b i o hb ho hw hlt => ?_, hx.mute⟩, h.df⟩
 ·have h1 := h.sr.get n hn
  obtain ⟨h2, h3⟩ := hs.slots n hn
  rw [h2] at h1
  exact VR.bwd r1 _ h1 h3
 ·obtain ⟨h1, h2⟩ := r0 c i hc
  exact ⟨h1, (hm.lt _ _ h2).2⟩
 ·obtain ⟨h1, h2⟩ := r0 c i hc
  obtain ⟨h3, h4, _⟩ := hs.objs c o ho
  exact (hm.obj _ _ _ h2 h3).bwd r1 h4
 ·obtain ⟨h1, h2⟩ := r0 b i hb
  obtain ⟨h3, h4⟩ := r0 c j hc
  obtain ⟨e1, e2, _⟩ := hs.objs b o ho
  obtain ⟨e3, e4, _⟩ := hs.objs c u hu
  exact hs.inj b c o u ho hu (hm.inj _ _ _ _ _ _ h2 h4 hij e1 (by rw [AObj.ren_wr e2]; exact hw) e3 (by rw [AObj.ren_live e4]; exact hl))
 ·have h1 := hx.ren b i hb
  have h2 : b < m₀.next ∨ m₀.next ≤ b := Nat.lt_or_ge _ _
  rcases h2 with h2 | h2
  ·show ρ' b = some i
   have hn := hs.next
   simp only [ρ']
   rw [if_pos (by omega), hs.low b h2]; exact h1
  ·exact absurd (hlow b i hb) (by omega)
 ·obtain ⟨h1, h2⟩ := r0 b i hb
  by_cases h3 : b < m₀.next
  ·rw [hs.low b h3] at h2
   exact hx.fresh b i h2
  ·exact .inr (by omega)
 ·obtain ⟨h1, h2⟩ := r0 b i hb
  obtain ⟨e1, e2, _⟩ := hs.objs b o ho
  exact hx.old _ _ _ h2 e1 (by rw [AObj.ren_wr e2]; exact hw) hlt
section
variable (cfy : Ys Prop → CF Prop) (Y : Ys Prop) (nt B : Nat)
end
section
variable {P : Program} {cfy : Ys Prop → CF Prop} {nt : Nat}
end
end Go.AM
