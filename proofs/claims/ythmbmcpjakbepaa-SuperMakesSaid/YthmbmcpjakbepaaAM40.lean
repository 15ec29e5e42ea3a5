/- An abstract machine: an addition. No condition. -/
import Derived.Test.YthmbmcpjakbepaaAM39
import Derived.Sort.Row
import Derived.Sort.Grow
import Derived.Lib.SlicesCompact
import Derived.Test.YthmbmcpjakbepaaAMb
namespace Go.AM
open Go
def iV (l : List Int) : List V := l.map fun x => V.int .i64 x
theorem iV_get (l : List Int) (k : Nat) : (iV l)[k]? = (l[k]?).map fun x => V.int .i64 x := by simp [iV]
theorem bels_iV (p : Nat → Bool) : ∀ (l : List Int), bels p (iV l) = true
 | [] => rfl
 | x :: l => by
  have := bels_iV p l
  simp only [iV, List.map_cons] at *
  simp only [bels, V.bel, this, Bool.and_self]
theorem rens_iV (σ : Nat → Nat) : ∀ (l : List Int), rens σ (iV l) = iV l
 | [] => rfl
 | x :: l => by
  have := rens_iV σ l
  simp only [iV, List.map_cons] at *
  simp only [rens, V.ren, this]
open Go.Sort in
theorem conRow {P : Program} {n : Nat} {zs ys : List Int} (h0 : zs ≠ []) (hlen : ys.length = zs.length) {ans : V} {ansv : Nat → Nat → Nat → Value}
  (hans : ∀ (ρ : Ren) (i : Img) (off cap : Nat), ρ 0 = some i → zs.length ≤ cap → (cap ≠ 0 → off = 0 + i.d) → off + cap * 1 ≤ i.n → VR ρ ans (ansv i.b off cap))
  (hC : ∀ (blk off cap : Nat) (w : World), Go.Sort.Holds (Value.int .i64) w blk off zs.toArray → blk < w.heap.size → zs.length ≤ cap → Calls P n #[.slice (some ⟨blk, off, none⟩) zs.length cap] w fun e w' => e = .returned (ansv blk off cap) ∧ ∃ q os, w' = grow (putRow (Value.int .i64) (Sort.ahead w q) blk off ys.toArray) os) :
  ConOk P n ⟨[.slice 0 0 zs.length zs.length 1], [.cells (iV zs) false], ans, [.cells (iV ys) false], []⟩ := by
 intro ρ w args' hρ hm ha
 cases ha with | cons hv hn =>
 cases hn
 cases hv with | slice hb e1 e2 e3 e4 =>
 rename_i i off cap
 have hpos : 0 < zs.length := List.length_pos_iff.2 h0
 have hoff : off = 0 + i.d := e3 (by omega)
 have ho : OR ρ w i (.cells (iV zs) false) := hm.obj 0 i _ hb (by rw [memO_get]; rfl)
 obtain ⟨cs', ty, lo, hi, o1, o2, o3, o4⟩ := ho
 have o4 := o4 rfl
 have hlt := (hm.lt 0 i hb).2
 have hcell : ∀ j, j < zs.length → cs'[off + j]? = some (Value.int .i64 zs[j]!) := by
  intro j hj
  obtain ⟨v', q1, q2⟩ := o3 j (V.int .i64 zs[j]) (by rw [iV_get, List.getElem?_eq_getElem hj]; rfl)
  cases q2
  rw [show off + j = j + i.d by omega, q1, getElem!_pos zs j hj]
 have hH : Go.Sort.Holds (Value.int .i64) w i.b off zs.toArray := by
  intro j hj
  have hj' : j < zs.length := by simpa using hj
  refine ⟨?_, ?_⟩
  ·unfold World.cell?
   rw [o1]
   have := hcell j hj'
   simpa using this
  ·unfold World.frozen?
   rw [o1]
   simp only [Bool.and_eq_false_iff, decide_eq_false_iff_not]
   rcases o4 with ⟨rfl, rfl⟩ | ⟨rfl, rfl⟩
   ·exact .inr (by omega)
   ·exact .inl (by omega)
 have hC := hC i.b off cap w hH hlt e2
 refine hC.mono fun e w' ⟨he, q, os, hw⟩ => ?_
 have hsz : w.heap.size ≤ w'.heap.size := by rw [hw]; simp [grow, putRow, mapBlock, Sort.ahead]
 have hother : ∀ k, k < w.heap.size → k ≠ i.b → w'.heap[k]? = w.heap[k]? := by
  intro k hk hne
  rw [hw]
  simp only [grow, putRow, mapBlock, Sort.ahead]
  rw [Array.getElem?_append_left (by simpa using hk), Array.getElem?_modify, if_neg (fun e => hne e.symm)]
 have hself : w'.heap[i.b]? = some (.cells (putCells (Value.int .i64) off ys.toArray cs') ty (lo, hi)) := by
  rw [hw]
  simp only [grow, putRow, mapBlock, Sort.ahead]
  rw [Array.getElem?_append_left (by simpa using hlt), Array.getElem?_modify, if_pos rfl, o1]
  rfl
 have hput : ∀ j, j < ys.length → (putCells (Value.int .i64) off ys.toArray cs')[off + j]? = some (Value.int .i64 ys[j]!) := by
  intro j hj
  have hb2 : off + j < cs'.size := by omega
  simp only [putCells, Array.getElem?_mapIdx]
  rw [Array.getElem?_eq_getElem hb2]
  simp only [Option.map_some]
  rw [if_pos ⟨by omega, by simp; omega⟩, show off + j - off = j by omega]
  simp
 refine ⟨ρ, memO [.cells (iV ys) false], ansv i.b off cap, he, ⟨fun b k hbk => ?_, fun b k o hbk hok => ?_, fun b c k j o u hb1 hc1 hkj ho1 hw1 hu1 hl1 => ?_⟩, ⟨ρ.le_refl, hsz, by show 1 ≤ 1; omega, fun b k h => .inl h, fun k hk hro => ?_, fun b k o hbk hok hwr hkl => ?_, ?_⟩, hans ρ i off cap hb e2 e3 e4, fun c o hc => ?_, fun x hx => by cases hx⟩
 ·have := hρ b k hbk
  exact ⟨this, Nat.lt_of_lt_of_le (hm.lt b k hbk).2 hsz⟩
 ·have hb0 : b = 0 := by have := hρ b k hbk; simp at this; exact this
  subst hb0
  rw [hb] at hbk; cases hbk
  rw [memO_get] at hok
  cases hok
  refine ⟨_, ty, lo, hi, hself, by simp [putCells, o2], fun k v hk => ?_, fun _ => o4⟩
  rw [iV_get] at hk
  cases e : ys[k]? with
  | none => rw [e] at hk; cases hk
  | some y =>
   rw [e] at hk
   cases hk
   have hky : k < ys.length := (List.getElem?_eq_some_iff.1 e).1
   have := hput k hky
   refine ⟨Value.int .i64 y, ?_, .int _ _⟩
   rw [show k + i.d = off + k by omega, this, getElem!_pos ys k hky]
   rw [List.getElem?_eq_getElem hky] at e
   cases e; rfl
 ·have hb0 : b = 0 := by have := hρ b k hb1; simp at this; exact this
  have hc0 : c = 0 := by have := hρ c j hc1; simp at this; exact this
  rw [hb0, hc0]
 ·by_cases hki : k = i.b
  ·have := hro 0 i _ hb hki.symm (by rw [memO_get]; rfl)
   cases this
  ·exact hother k hk hki
 ·have hb0 : b = 0 := by have := hρ b k hbk; simp at this; exact this
  subst hb0
  exact ⟨0, k, _, hbk, rfl, by rw [memO_get]; rfl, rfl⟩
 ·rw [hw]; exact ⟨rfl, rfl⟩
 ·rw [memO_get]; exact hc
end Go.AM
