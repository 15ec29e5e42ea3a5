/- An abstract machine: an addition. No condition. -/
import Derived.Test.YthmbmcpjakbepaaAM52
import Derived.Test.YthmbmcpjakbepaaAM40
import Derived.OpenShut
import Derived.Test.YthmbmcpjakbepaaAMb
namespace Go.AM
open Go Go.WideShapes Go.ChangeShapes Go.ChangeMaps
def IntsT (P : Program) (t : TypeId) : Prop := ∀ (H : Type) (enc : TypeId × Value → H) (w : World) (base : Nat) (sp : Nat → Bool) (held : Bool) (fuel : Nat) (cs : List Value) (x : DataW H × List MemPlace), DataW.trod enc P w base sp held fuel t cs = some x → cs.length = P.cellsOf t ∧ ∀ v ∈ cs, ∃ z, v = .int .i64 z
section
variable {P : Program} {t e : TypeId}
theorem ints_int (ht : P.underlying t = some (.int .i64)) (hc : P.cellsOf t = 1) : IntsT P t := by
 intro H enc w base sp held fuel cs x h
 obtain ⟨n, rfl, _, _⟩ := DataW.trod_int ht h
 exact ⟨hc.symm, fun v hv => ⟨n, List.mem_singleton.1 hv⟩⟩
theorem mem_part {α : Type} {l : List α} {v : α} {k o c : Nat} (h : l[k]? = some v) (h1 : o ≤ k) (h2 : k < o + c) : v ∈ (l.drop o).take c := by
 refine List.mem_of_getElem? (i := k - o) ?_
 rw [List.getElem?_take, if_pos (by omega), List.getElem?_drop, show o + (k - o) = k by omega]
 exact h
theorem ints_array {n : Nat} (ht : P.underlying t = some (.array n e)) (hc : P.cellsOf t = n * P.cellsOf e) (he : IntsT P e) : IntsT P t := by
 intro H enc w base sp held fuel cs x h
 obtain ⟨xs, m, _, _, h3, h4, h5⟩ := DataW.trod_array ht h
 refine ⟨h3, fun v hv => ?_⟩
 obtain ⟨k, hk⟩ := List.getElem?_of_mem hv
 have hlt : k < n * P.cellsOf e := by have := (List.getElem?_eq_some_iff.1 hk).1; omega
 have hp : 0 < P.cellsOf e := by
  rcases Nat.eq_zero_or_pos (P.cellsOf e) with h0 | h0
  ·rw [h0, Nat.mul_zero] at hlt; omega
  ·exact h0
 have hi : k / P.cellsOf e < n := Nat.div_lt_of_lt_mul (by rwa [Nat.mul_comm] at hlt)
 have h6 := h5 _ hi
 obtain ⟨y, hy⟩ : ∃ y, xs[k / P.cellsOf e]? = some y := ⟨_, List.getElem?_eq_getElem (by omega)⟩
 rw [hy] at h6
 refine (he _ _ _ _ _ _ _ _ _ h6).2 v (mem_part hk ?_ ?_)
 ·exact Nat.div_mul_le_self _ _
 ·have h1 := Nat.div_add_mod k (P.cellsOf e)
  have h2 := Nat.mod_lt k hp
  rw [Nat.mul_comm (P.cellsOf e) (k / P.cellsOf e)] at h1
  omega
theorem ints_struct {fs : Array Field} (ht : P.underlying t = some (.struct fs)) (hc : ((List.range (P.cellsOf t)).all fun k => fs.toList.any fun f => Nat.ble f.offset k && Nat.blt k (f.offset + P.cellsOf f.type)) = true) (he : ∀ f ∈ fs.toList, IntsT P f.type) : IntsT P t := by
 intro H enc w base sp held fuel cs x h
 obtain ⟨xs, m, _, _, h3, h4, h5⟩ := DataW.trod_struct ht h
 refine ⟨h3, fun v hv => ?_⟩
 obtain ⟨k, hk⟩ := List.getElem?_of_mem hv
 have hlt : k < P.cellsOf t := by have := (List.getElem?_eq_some_iff.1 hk).1; omega
 have h6 := List.all_eq_true.1 hc k (List.mem_range.2 hlt)
 obtain ⟨f, hf, h7⟩ := List.any_eq_true.1 h6
 simp only [Bool.and_eq_true, nble_iff, nblt_iff] at h7
 obtain ⟨i, hi⟩ := List.getElem?_of_mem hf
 have hi' : fs[i]? = some f := by rw [← Array.getElem?_toList]; exact hi
 have h8 := h5 i f hi'
 have hlen : i < xs.length := by
  have := (List.getElem?_eq_some_iff.1 hi).1
  rw [h4]; simpa using this
 obtain ⟨y, hy⟩ : ∃ y, xs[i]? = some y := ⟨_, List.getElem?_eq_getElem hlen⟩
 rw [hy] at h8
 exact (he f hf _ _ _ _ _ _ _ _ _ h8).2 v (mem_part hk h7.1 h7.2)
end
theorem mapM_mem {α β : Type} {f : α → Option β} : ∀ {l : List α} {r : List β}, l.mapM f = some r → ∀ y ∈ l, ∃ z, f y = some z ∧ z ∈ r
 | [], _, _, y, hy => nomatch hy
 | a :: l, r, h, y, hy => by
  rw [List.mapM_cons] at h
  cases ha : f a with
  | none => simp [ha] at h
  | some b =>
   cases hl : l.mapM f with
   | none => simp [ha, hl] at h
   | some bs =>
    simp [ha, hl] at h
    subst h
    rcases List.mem_cons.1 hy with rfl | hy
    ·exact ⟨b, ha, List.mem_cons_self⟩
    ·obtain ⟨z, h1, h2⟩ := mapM_mem hl y hy
     exact ⟨z, h1, List.mem_cons_of_mem _ h2⟩
theorem list_of {p : Nat → Int → Prop} : ∀ N : Nat, (∀ k, k < N → ∃ z, p k z) → ∃ zs : List Int, zs.length = N ∧ ∀ k, k < N → p k (zs.getD k 0)
 | 0, _ => ⟨[], rfl, fun k h => absurd h (Nat.not_lt_zero k)⟩
 | N + 1, h => by
  obtain ⟨zs, h1, h2⟩ := list_of N fun k hk => h k (by omega)
  obtain ⟨z, hz⟩ := h N (by omega)
  refine ⟨zs ++ [z], by simp [h1], fun k hk => ?_⟩
  by_cases e : k < N
  ·rw [List.getD_eq_getElem?_getD, List.getElem?_append_left (by omega), ← List.getD_eq_getElem?_getD]; exact h2 k e
  ·obtain rfl : k = N := by omega
   rw [List.getD_eq_getElem?_getD, List.getElem?_append_right (by omega), h1, Nat.sub_self]; exact hz
def IsSliceI (w : World) (z : Nat) (v : Value) : Prop := v = .slice none 0 0 ∨ ∃ (b off len cap : Nat) (c : Array Value) (ty : TypeId) (lo hi : Nat) (zs : List Int), v = .slice (some ⟨b, off, none⟩) len cap ∧ len ≤ cap ∧ cap ≤ maxLen ∧ w.heap[b]? = some (.cells c ty (lo, hi)) ∧
 (0 < cap * z → off + cap * z ≤ c.size) ∧ zs.length = len * z ∧ ∀ k, k < len * z → c[k + off]? = some (.int .i64 (zs.getD k 0))
theorem addr_add (b off n : Nat) : (⟨b, off, none⟩ : Addr).add n = ⟨b, off + n, none⟩ := by
 unfold Addr.add
 split
 ·rename_i h; subst h; rfl
 ·rfl
theorem open_sliceI {H : Type} {enc : TypeId × Value → H} {P : Program} {w : World} {r : Reach} {b0 : Nat} {held : Bool} {t e : TypeId} {z : Nat} (ht : P.underlying t = some (.slice e)) (hz : P.cellsOf e = z) (he : IntsT P e) {v : Value} {d : DataW H} {ps : List MemPlace}
  (hval : Value.okWide P w r b0 t v) (hd : DataW.Trod enc P w 0 (fun _ => true) held t v d ps) : IsSliceI w z v := by
 subst hz
 obtain ⟨a, len, cap, rfl⟩ := okWide_slice ht hval
 obtain ⟨fuel, hf⟩ := hd
 rcases DataW.trod_slice ht hf with ⟨h0, _⟩ | ⟨a', len', cap', elems, rest, n, _, h0, _, _, hl, hm, hlen, hel, hsp, _⟩
 ·simp [Value.cells] at h0; obtain ⟨rfl, rfl, rfl⟩ := h0; exact .inl rfl
 ·simp [Value.cells] at h0; obtain ⟨rfl, rfl, rfl⟩ := h0
  obtain ⟨hrl, hr⟩ := hsp rfl
  simp only [Value.okWide, ht, Cell.okWide, Cell.ok] at hval
  obtain ⟨_, _, _, hspot, row, cells, hshape, _⟩ := hval
  obtain ⟨b, off, spot⟩ := a'
  simp only at hspot hshape
  subst hspot
  unfold World.shape? at hshape
  split at hshape
  case h_2 => cases hshape
  rename_i c ty tl hheap
  obtain ⟨lo, hi⟩ := tl
  have hcell : ∀ k, k < cap * P.cellsOf e → ∃ q, c[k + off]? = some (.int .i64 q) := by
   intro k hk
   have hp : 0 < P.cellsOf e := by
    rcases Nat.eq_zero_or_pos (P.cellsOf e) with h0 | h0
    ·rw [h0, Nat.mul_zero] at hk; omega
    ·exact h0
   have hi : k / P.cellsOf e < cap := Nat.div_lt_of_lt_mul (by rwa [Nat.mul_comm] at hk)
   have hb : ∃ y, (w.cells? 0 ((⟨b, off, none⟩ : Addr).add (k / P.cellsOf e * P.cellsOf e)) (P.cellsOf e)).bind (DataW.trod enc P w 0 (fun _ => true) held n e) = some y := by
    by_cases h1 : k / P.cellsOf e < len
    ·exact ⟨_, (hel _ h1).trans (List.getElem?_eq_getElem (by omega))⟩
    ·have h2 := hr (k / P.cellsOf e - len) (by omega)
     rw [show len + (k / P.cellsOf e - len) = k / P.cellsOf e by omega] at h2
     exact ⟨_, h2.trans (List.getElem?_eq_getElem (by omega))⟩
   obtain ⟨y, hy⟩ := hb
   rw [Option.bind_eq_some_iff] at hy
   obtain ⟨cs, hcs, hy⟩ := hy
   have hall := (he _ _ _ _ _ _ _ _ _ hy).2
   unfold World.cells? at hcs
   rw [if_pos (Nat.zero_le _)] at hcs
   obtain ⟨q, hq1, hq2⟩ := mapM_mem hcs (k % P.cellsOf e) (List.mem_range.2 (Nat.mod_lt _ hp))
   obtain ⟨q', rfl⟩ := hall q hq2
   refine ⟨q', ?_⟩
   have e1 : off + k / P.cellsOf e * P.cellsOf e + k % P.cellsOf e = k + off := by
    have h1 := Nat.div_add_mod k (P.cellsOf e)
    rw [Nat.mul_comm (P.cellsOf e) (k / P.cellsOf e)] at h1
    omega
   rw [addr_add, addr_add, e1] at hq1
   simp only [World.cell?, hheap, Option.isSome_none, Bool.false_eq_true, if_false] at hq1
   exact hq1
  obtain ⟨zs, z1, z2⟩ := list_of (p := fun k q => c[k + off]? = some (.int .i64 q)) (len * P.cellsOf e) fun k hk => hcell k (Nat.lt_of_lt_of_le hk (Nat.mul_le_mul_right _ hl))
  refine .inr ⟨b, off, len, cap, c, ty, lo, hi, zs, rfl, hl, hm, hheap, fun h0 => ?_, z1, z2⟩
  obtain ⟨q, hq⟩ := hcell (cap * P.cellsOf e - 1) (by omega)
  have := (Array.getElem?_eq_some_iff.1 hq).1
  omega
def ren1 (r0 : Option Img) : Ren
 | 0 => r0
 | _ => none
theorem calls_one {P : Program} {n : Nat} {args : List V} {args' : List Value} {o : AObj} {w : World} {r0 : Option Img} (hC : ConOk P n ⟨args, [o], .bool true, [], []⟩) (ho : o.wr = false) (h0 : ∀ i, r0 = some i → i.b < w.heap.size ∧ OR (ren1 r0) w i o) (ha : VRs (ren1 r0) args args') :
  Calls P n ⟨args'⟩ w fun e w' => e = .returned (.bool true) ∧ Stays w w' := by
 have hx : ∀ x i, ren1 r0 x = some i → x = 0 ∧ r0 = some i := by
  intro x i h
  match x, h with
  | 0, h => exact ⟨rfl, h⟩
 have hro : ∀ x i u, ren1 r0 x = some i → (memO [o]).get x = some u → u.wr = false := by
  intro x i u h hu
  rw [memO_get] at hu
  obtain ⟨rfl, _⟩ := hx x i h
  cases hu; exact ho
 refine (hC (ren1 r0) w args' (fun x i h => ?_) ⟨fun x i h => ?_, fun x i u h hu => ?_, fun x y i j u u' hx' hy _ hu hw _ _ => ?_⟩ ha).mono fun e w' h => ?_
 ·obtain ⟨rfl, _⟩ := hx x i h; exact Nat.zero_lt_one
 ·obtain ⟨rfl, e⟩ := hx x i h; exact ⟨Nat.zero_lt_one, (h0 i e).1⟩
 ·rw [memO_get] at hu
  obtain ⟨rfl, e⟩ := hx x i h
  cases hu
  exact (h0 i e).2
 ·rw [hro x i u hx' hu] at hw; cases hw
 ·obtain ⟨ρ', m', v', h1, h2, h3, h4, _⟩ := h
  exact ⟨by cases h4; exact h1, h3.stays fun x i u hx hu => hro x i u hx hu⟩
theorem iV_at (zs : List Int) (k : Nat) (v : V) (h : (iV zs)[k]? = some v) : k < zs.length ∧ v = .int .i64 (zs.getD k 0) := by
 unfold iV at h
 rw [List.getElem?_map] at h
 cases hk : zs[k]? with
 | none => rw [hk] at h; cases h
 | some q =>
  rw [hk] at h
  cases h
  exact ⟨(List.getElem?_eq_some_iff.1 hk).1, by rw [List.getD_eq_getElem?_getD, hk]; rfl⟩
theorem calls_slice {P : Program} {n z : Nat} (hz : 0 < z) {w : World} {v : Value} (hv : IsSliceI w z v) {ra : List V} {ra' : List Value} (hra : ∀ ρ : Ren, VRs ρ ra ra')
  (hnil : ConOk P n ⟨.nilslice :: ra, [.dead], .bool true, [], []⟩) (hzero : ∀ k, ConOk P n ⟨.slice 0 0 0 k z :: ra, [.dead], .bool true, [], []⟩)
  (hn : ∀ (zs : List Int) (nn : Nat), 1 ≤ nn → nn ≤ maxLen → zs.length = nn * z → ConOk P n ⟨.slice 0 0 nn nn z :: ra, [.cells (iV zs) true], .bool true, [], []⟩) :
  Calls P n ⟨v :: ra'⟩ w fun e w' => e = .returned (.bool true) ∧ Stays w w' := by
 rcases hv with rfl | ⟨b, off, len, cap, c, ty, lo, hi, zs, rfl, h1, h2, h3, h4, h5, h6⟩
 ·exact calls_one (r0 := none) hnil rfl (fun i h => nomatch h) (.cons .nilslice (hra _))
 ·have hb := (Array.getElem?_eq_some_iff.1 h3).1
  by_cases h0 : len = 0
  ·subst h0
   exact calls_one (r0 := some ⟨b, off + cap * z, off, none⟩) (hzero cap) rfl (fun i h => by cases h; exact ⟨hb, trivial⟩) (.cons (.slice (i := ⟨b, off + cap * z, off, none⟩) rfl (Nat.zero_le _) (Nat.le_refl _) (fun _ => by simp) (Nat.le_refl _)) (hra _))
  ·have h7 := h4 (Nat.mul_pos (by omega) hz)
   exact calls_one (r0 := some ⟨b, c.size, off, none⟩) (hn zs len (by omega) (by omega) h5) rfl (fun i h => by
    cases h
    refine ⟨hb, c, ty, lo, hi, h3, rfl, fun k v hk => ?_, fun h => nomatch h⟩
    obtain ⟨k1, rfl⟩ := iV_at zs k v hk
    exact ⟨_, h6 k (by omega), .int _ _⟩) (.cons (.slice (i := ⟨b, c.size, off, none⟩) rfl (Nat.le_refl _) h1 (fun _ => by simp) h7) (hra _))
end Go.AM
