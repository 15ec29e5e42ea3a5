/- An abstract machine: an addition. No condition. -/
import Derived.Test.YtjekgdkaejgpdaaGreatAM53
import Derived.Test.YtjekgdkaejgpdaaGreatAMb
namespace Go.AM
open Go Go.WideShapes Go.ChangeShapes Go.ChangeMaps
inductive CK where
 | int (k : IntKind)
 | str
def CK.ok : CK → Value → Prop
 | .int k, v => ∃ n, v = .int k n ∧ (Lit.int k n).wf = true
 | .str, v => ∃ s : ByteArray, v = .string s ∧ s.size ≤ maxLen
def CellsK (P : Program) (t : TypeId) (ks : List CK) : Prop := ∀ (H : Type) (enc : TypeId × Value → H) (w : World) (base : Nat) (sp : Nat → Bool) (held : Bool) (fuel : Nat) (cs : List Value) (x : DataW H × List MemPlace), DataW.trod enc P w base sp held fuel t cs = some x → cs.length = ks.length ∧ ∀ (j : Nat) (k : CK), ks[j]? = some k → ∃ v, cs[j]? = some v ∧ k.ok v
section
variable {P : Program} {t e : TypeId}
theorem cellsK_int {k : IntKind} (ht : P.underlying t = some (.int k)) : CellsK P t [.int k] := by
 intro H enc w base sp held fuel cs x h
 obtain ⟨n, rfl, _, hw⟩ := DataW.trod_int ht h
 refine ⟨rfl, fun j k' hj => ?_⟩
 match j, hj with
 | 0, hj => cases hj; exact ⟨_, rfl, n, rfl, hw⟩
end
theorem list_ofT {α : Type} [Inhabited α] {p : Nat → α → Prop} : ∀ N : Nat, (∀ k, k < N → ∃ z, p k z) → ∃ zs : List α, zs.length = N ∧ ∀ k, k < N → p k (zs.getD k default)
 | 0, _ => ⟨[], rfl, fun k h => absurd h (Nat.not_lt_zero k)⟩
 | N + 1, h => by
  obtain ⟨zs, h1, h2⟩ := list_ofT N fun k hk => h k (by omega)
  obtain ⟨z, hz⟩ := h N (by omega)
  refine ⟨zs ++ [z], by simp [h1], fun k hk => ?_⟩
  by_cases e : k < N
  ·rw [List.getD_eq_getElem?_getD, List.getElem?_append_left (by omega), ← List.getD_eq_getElem?_getD]; exact h2 k e
  ·obtain rfl : k = N := by omega
   rw [List.getD_eq_getElem?_getD, List.getElem?_append_right (by omega), h1, Nat.sub_self]; exact hz
def zG6 (w : World) (ks : List CK) (v : Value) : Prop := v = .slice none 0 0 ∨ ∃ (b off len cap : Nat) (c : Array Value) (ty : TypeId) (lo hi : Nat), v = .slice (some ⟨b, off, none⟩) len cap ∧ len ≤ cap ∧ cap ≤ maxLen ∧ w.heap[b]? = some (.cells c ty (lo, hi)) ∧
 (0 < cap * ks.length → off + cap * ks.length ≤ c.size) ∧ ∀ (i j : Nat) (k : CK), i < len → ks[j]? = some k → ∃ q, c[i * ks.length + j + off]? = some q ∧ k.ok q
theorem mapM_nth {α β : Type} {f : α → Option β} : ∀ {l : List α} {r : List β} {j : Nat} {y : α}, l.mapM f = some r → l[j]? = some y → ∃ z, f y = some z ∧ r[j]? = some z
 | [], r, j, y, h, hy => by simp at hy
 | a :: l, r, j, y, h, hy => by
  rw [List.mapM_cons] at h
  cases ha : f a with
  | none => simp [ha] at h
  | some b =>
   cases hl : l.mapM f with
   | none => simp [ha, hl] at h
   | some bs =>
    simp [ha, hl] at h
    subst h
    cases j with
    | zero => simp at hy; subst hy; exact ⟨b, ha, rfl⟩
    | succ j =>
     obtain ⟨z, h1, h2⟩ := mapM_nth hl (by simpa using hy)
     exact ⟨z, h1, by simpa using h2⟩
theorem open_sliceK {H : Type} {enc : TypeId × Value → H} {P : Program} {w : World} {r : Reach} {b0 : Nat} {held : Bool} {t e : TypeId} {ks : List CK} (ht : P.underlying t = some (.slice e)) (hz : P.cellsOf e = ks.length) (hks : 0 < ks.length) (he : CellsK P e ks) {v : Value} {d : DataW H} {ps : List MemPlace}
  (hval : Value.okWide P w r b0 t v) (hd : DataW.Trod enc P w 0 (fun _ => true) held t v d ps) : zG6 w ks v := by
 obtain ⟨a, len, cap, rfl⟩ := okWide_slice ht hval
 obtain ⟨fuel, hf⟩ := hd
 rcases DataW.trod_slice ht hf with ⟨h0, _⟩ | ⟨a', len', cap', elems, rest, n, _, h0, _, _, hl, hm, hlen, hel, hsp, _⟩
 ·simp [Value.cells] at h0; obtain ⟨rfl, rfl, rfl⟩ := h0; exact .inl rfl
 ·simp [Value.cells] at h0; obtain ⟨rfl, rfl, rfl⟩ := h0
  obtain ⟨hrl, hr⟩ := hsp rfl
  simp only [Value.okWide, ht, Cell.okWide, Cell.ok] at hval
  obtain ⟨_, _, _, hspot, row, cells, hshape, _⟩ := hval
  obtain ⟨b, off, spot⟩ := a'
  simp only at hspot hshape
  subst hspot
  unfold World.shape? at hshape
  split at hshape
  case h_2 => cases hshape
  rename_i c ty tl hheap
  obtain ⟨lo, hi⟩ := tl
  have hcell : ∀ (i j : Nat) (k : CK), i < cap → ks[j]? = some k → ∃ q, c[i * ks.length + j + off]? = some q ∧ k.ok q := by
   intro i j k hi hj
   have hjl := (List.getElem?_eq_some_iff.1 hj).1
   have hb : ∃ y, (w.cells? 0 ((⟨b, off, none⟩ : Addr).add (i * P.cellsOf e)) (P.cellsOf e)).bind (DataW.trod enc P w 0 (fun _ => true) held n e) = some y := by
    by_cases h1 : i < len
    ·exact ⟨_, (hel _ h1).trans (List.getElem?_eq_getElem (by omega))⟩
    ·have h2 := hr (i - len) (by omega)
     rw [show len + (i - len) = i by omega] at h2
     exact ⟨_, h2.trans (List.getElem?_eq_getElem (by omega))⟩
   obtain ⟨y, hy⟩ := hb
   rw [Option.bind_eq_some_iff] at hy
   obtain ⟨cs, hcs, hy⟩ := hy
   obtain ⟨q, hq, hok⟩ := (he _ _ _ _ _ _ _ _ _ hy).2 j k hj
   unfold World.cells? at hcs
   rw [if_pos (Nat.zero_le _), hz] at hcs
   obtain ⟨q', hq1, hq2⟩ := mapM_nth (j := j) (y := j) hcs (by rw [List.getElem?_range hjl])
   rw [hq] at hq2
   cases hq2
   refine ⟨q, ?_, hok⟩
   rw [addr_add, addr_add, show off + i * ks.length + j = i * ks.length + j + off by omega] at hq1
   simp only [World.cell?, hheap, Option.isSome_none, Bool.false_eq_true, if_false] at hq1
   exact hq1
  refine .inr ⟨b, off, len, cap, c, ty, lo, hi, rfl, hl, hm, hheap, fun h0 => ?_, fun i j k hi hj => hcell i j k (by omega) hj⟩
  have hcap : 0 < cap := Nat.pos_of_mul_pos_right h0
  obtain ⟨k, hk⟩ : ∃ k, ks[ks.length - 1]? = some k := ⟨_, List.getElem?_eq_getElem (by omega)⟩
  obtain ⟨q, hq, _⟩ := hcell (cap - 1) (ks.length - 1) k (by omega) hk
  have := (Array.getElem?_eq_some_iff.1 hq).1
  have e : (cap - 1) * ks.length + ks.length = cap * ks.length := by rw [← Nat.succ_mul]; congr 1; omega
  omega
theorem calls_ro {P : Program} {n : Nat} {args : List V} {args' : List Value} {objs : List zAe} {w : World} {r : Ren} (hC : zAq P n ⟨args, objs, .bool true, [], []⟩) (ho : ∀ o ∈ objs, o.wr = false) (h0 : ∀ x i, r x = some i → x < objs.length ∧ i.b < w.heap.size) (hor : ∀ x i o, r x = some i → objs[x]? = some o → OR r w i o) (ha : VRs r args args') :
  Calls P n ⟨args'⟩ w fun e w' => e = .returned (.bool true) ∧ zCd w w' := by
 have hro : ∀ x i u, r x = some i → (zB1 objs).get x = some u → u.wr = false := by
  intro x i u h hu
  rw [zDk] at hu
  exact ho u (List.mem_of_getElem? hu)
 refine (hC r w args' (fun x i h => (h0 x i h).1) ⟨fun x i h => ⟨(h0 x i h).1, (h0 x i h).2⟩, fun x i u h hu => ?_, fun x y i j u u' hx' hy _ hu hw _ _ => ?_⟩ ha).mono fun e w' h => ?_
 ·rw [zDk] at hu; exact hor x i u h hu
 ·rw [hro x i u hx' hu] at hw; cases hw
 ·obtain ⟨ρ', m', v', h1, h2, h3, h4, _⟩ := h
  exact ⟨by cases h4; exact h1, h3.stays fun x i u hx hu => hro x i u hx hu⟩
end Go.AM
