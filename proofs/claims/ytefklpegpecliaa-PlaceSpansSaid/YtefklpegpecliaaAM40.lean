/- An abstract machine: an addition. No condition. -/
import Derived.Test.YtefklpegpecliaaAM39
import Derived.Sort.Row
import Derived.Sort.Grow
import Derived.Lib.SlicesCompact
import Derived.Test.YtefklpegpecliaaAMb
/-
  AM, part 40: the library's functions that turn a slice of integers in place, by the kit's contracts; functions with loops that lay blocks, by what they answer.
-/
namespace Go.AM
open Go

def iV (l : List Int) : List V := l.map fun x => V.int .i64 x
theorem iV_get (l : List Int) (k : Nat) : (iV l)[k]? = (l[k]?).map fun x => V.int .i64 x := by simp [iV]
theorem bels_iV (p : Nat → Bool) : ∀ (l : List Int), bels p (iV l) = true
  | [] => rfl
  | x :: l => by
    have := bels_iV p l
    simp only [iV, List.map_cons] at *
    simp only [bels, V.bel, this, Bool.and_self]
theorem rens_iV (σ : Nat → Nat) : ∀ (l : List Int), rens σ (iV l) = iV l
  | [] => rfl
  | x :: l => by
    have := rens_iV σ l
    simp only [iV, List.map_cons] at *
    simp only [rens, V.ren, this]

open Go.Sort in
/-- A slice of integers, turned in place. -/
theorem conRow {P : Program} {n : Nat} {zs ys : List Int} (h0 : zs ≠ []) (hlen : ys.length = zs.length) {ans : V} {ansv : Nat → Nat → Nat → Value}
    (hans : ∀ (ρ : Ren) (i : Img) (off cap : Nat), ρ 0 = some i → zs.length ≤ cap → (cap ≠ 0 → off = 0 + i.d) → off + cap * 1 ≤ i.n → VR ρ ans (ansv i.b off cap))
    (hC : ∀ (blk off cap : Nat) (w : World), Go.Sort.Holds (Value.int .i64) w blk off zs.toArray → blk < w.heap.size → zs.length ≤ cap → Calls P n #[.slice (some ⟨blk, off, none⟩) zs.length cap] w fun e w' => e = .returned (ansv blk off cap) ∧ ∃ q os, w' = grow (putRow (Value.int .i64) (Sort.ahead w q) blk off ys.toArray) os) :
    ConOk P n ⟨[.slice 0 0 zs.length zs.length 1], [.cells (iV zs) false], ans, [.cells (iV ys) false], []⟩ := by
  intro ρ w args' hρ hm ha
  cases ha with | cons hv hn =>
  cases hn
  cases hv with | slice hb e1 e2 e3 e4 =>
  rename_i i off cap
  have hpos : 0 < zs.length := List.length_pos_iff.2 h0
  have hoff : off = 0 + i.d := e3 (by omega)
  have ho : OR ρ w i (.cells (iV zs) false) := hm.obj 0 i _ hb (by rw [memO_get]; rfl)
  obtain ⟨cs', ty, lo, hi, o1, o2, o3, o4⟩ := ho
  have o4 := o4 rfl
  have hlt := (hm.lt 0 i hb).2
  have hcell : ∀ j, j < zs.length → cs'[off + j]? = some (Value.int .i64 zs[j]!) := by
    intro j hj
    obtain ⟨v', q1, q2⟩ := o3 j (V.int .i64 zs[j]) (by rw [iV_get, List.getElem?_eq_getElem hj]; rfl)
    cases q2
    rw [show off + j = j + i.d by omega, q1, getElem!_pos zs j hj]
  have hH : Go.Sort.Holds (Value.int .i64) w i.b off zs.toArray := by
    intro j hj
    have hj' : j < zs.length := by simpa using hj
    refine ⟨?_, ?_⟩
    · unfold World.cell?
      rw [o1]
      have := hcell j hj'
      simpa using this
    · unfold World.frozen?
      rw [o1]
      simp only [Bool.and_eq_false_iff, decide_eq_false_iff_not]
      rcases o4 with ⟨rfl, rfl⟩ | ⟨rfl, rfl⟩
      · exact .inr (by omega)
      · exact .inl (by omega)
  have hC := hC i.b off cap w hH hlt e2
  refine hC.mono fun e w' ⟨he, q, os, hw⟩ => ?_
  have hsz : w.heap.size ≤ w'.heap.size := by rw [hw]; simp [grow, putRow, mapBlock, Sort.ahead]
  have hother : ∀ k, k < w.heap.size → k ≠ i.b → w'.heap[k]? = w.heap[k]? := by
    intro k hk hne
    rw [hw]
    simp only [grow, putRow, mapBlock, Sort.ahead]
    rw [Array.getElem?_append_left (by simpa using hk), Array.getElem?_modify, if_neg (fun e => hne e.symm)]
  have hself : w'.heap[i.b]? = some (.cells (putCells (Value.int .i64) off ys.toArray cs') ty (lo, hi)) := by
    rw [hw]
    simp only [grow, putRow, mapBlock, Sort.ahead]
    rw [Array.getElem?_append_left (by simpa using hlt), Array.getElem?_modify, if_pos rfl, o1]
    rfl
  have hput : ∀ j, j < ys.length → (putCells (Value.int .i64) off ys.toArray cs')[off + j]? = some (Value.int .i64 ys[j]!) := by
    intro j hj
    have hb2 : off + j < cs'.size := by omega
    simp only [putCells, Array.getElem?_mapIdx]
    rw [Array.getElem?_eq_getElem hb2]
    simp only [Option.map_some]
    rw [if_pos ⟨by omega, by simp; omega⟩, show off + j - off = j by omega]
    simp
  refine ⟨ρ, memO [.cells (iV ys) false], ansv i.b off cap, he, ⟨fun b k hbk => ?_, fun b k o hbk hok => ?_, fun b c k j o u hb1 hc1 hkj ho1 hw1 hu1 hl1 => ?_⟩, ⟨ρ.le_refl, hsz, by show 1 ≤ 1; omega, fun b k h => .inl h, fun k hk hro => ?_, fun b k o hbk hok hwr hkl => ?_, ?_⟩, hans ρ i off cap hb e2 e3 e4, fun c o hc => ?_, fun x hx => by cases hx⟩
  · have := hρ b k hbk
    exact ⟨this, Nat.lt_of_lt_of_le (hm.lt b k hbk).2 hsz⟩
  · have hb0 : b = 0 := by have := hρ b k hbk; simp at this; exact this
    subst hb0
    rw [hb] at hbk; cases hbk
    rw [memO_get] at hok
    cases hok
    refine ⟨_, ty, lo, hi, hself, by simp [putCells, o2], fun k v hk => ?_, fun _ => o4⟩
    rw [iV_get] at hk
    cases e : ys[k]? with
    | none => rw [e] at hk; cases hk
    | some y =>
      rw [e] at hk
      cases hk
      have hky : k < ys.length := (List.getElem?_eq_some_iff.1 e).1
      have := hput k hky
      refine ⟨Value.int .i64 y, ?_, .int _ _⟩
      rw [show k + i.d = off + k by omega, this, getElem!_pos ys k hky]
      rw [List.getElem?_eq_getElem hky] at e
      cases e; rfl
  · have hb0 : b = 0 := by have := hρ b k hb1; simp at this; exact this
    have hc0 : c = 0 := by have := hρ c j hc1; simp at this; exact this
    rw [hb0, hc0]
  · by_cases hki : k = i.b
    · have := hro 0 i _ hb hki.symm (by rw [memO_get]; rfl)
      cases this
    · exact hother k hk hki
  · have hb0 : b = 0 := by have := hρ b k hbk; simp at this; exact this
    subst hb0
    exact ⟨0, k, _, hbk, rfl, by rw [memO_get]; rfl, rfl⟩
  · rw [hw]; exact ⟨rfl, rfl⟩
  · rw [memO_get]; exact hc

/-! ### Functions with loops that lay blocks -/
theorem codeG_of {cfy : Ys Prop → CF Prop} {Y : Ys Prop} {nt B : Nat} {c : ACode} {T : Slots} {m : Mem} {K : Ex → Slots → Mem → Prop} (h : code pA cfy Y c T m K) : codeG cfy Y nt B c T m K := by
  cases c <;> first | exact h | exact .inl h
theorem allS_get {T : Slots} : ∀ {L : List (Sl × V)}, allS T L → ∀ (n : Nat) (x : Sl × V), L[n]? = some x → T.get x.1 = x.2
  | (s, v) :: L, h, 0, x, e => by simp at e; subst e; exact h.1
  | (s, v) :: L, h, n + 1, x, e => allS_get h.2 n x (by simpa using e)
def inS (s : Sl) : List (Sl × V) → Prop
  | [] => False
  | (t, _) :: l => t = s ∨ inS s l
theorem setL_miss {s : Sl} : ∀ {L : List (Sl × V)}, ¬ inS s L → (setL L).get s = .undef
  | [], _ => slots0_get s
  | (t, v) :: L, h => by
    simp only [inS, not_or] at h
    simp only [setL, Slots.get_set]
    rw [if_neg (fun e => h.1 e.symm)]
    exact setL_miss h.2
theorem setL_hit : ∀ {L : List (Sl × V)} {n : Nat} {x : Sl × V}, (∀ (a b : Nat) (x y : Sl × V), L[a]? = some x → L[b]? = some y → x.1 = y.1 → a = b) → L[n]? = some x → (setL L).get x.1 = x.2
  | (t, v) :: L, 0, x, _, e => by
    simp at e; subst e
    simp only [setL, Slots.get_set, if_true]
  | (t, v) :: L, n + 1, x, hd, e => by
    simp only [setL, Slots.get_set]
    rw [if_neg ?_]
    · exact setL_hit (fun a b x y h1 h2 h3 => by have := hd (a + 1) (b + 1) x y (by simpa using h1) (by simpa using h2) h3; omega) (by simpa using e)
    · intro e2
      have := hd (n + 1) 0 x (t, v) e rfl (by simpa using e2)
      omega
/-- The list says all slots. -/
def coverB (nt : Nat) (L : List (Sl × V)) : Prop := L.map (fun x => x.1) = (List.range nt).map slotOf
theorem cover_get {nt : Nat} {L : List (Sl × V)} (h : coverB nt L) {n : Nat} (hn : n < nt) : ∃ v, L[n]? = some (slotOf n, v) := by
  have hl : L.length = nt := by have := congrArg List.length h; simpa using this
  have h1 : n < L.length := by omega
  refine ⟨L[n].2, ?_⟩
  have h2 : (L.map fun x => x.1)[n]? = some (slotOf n) := by rw [h]; simp [hn]
  rw [List.getElem?_map, List.getElem?_eq_getElem h1] at h2
  simp only [Option.map_some, Option.some.injEq] at h2
  rw [List.getElem?_eq_getElem h1]
  exact congrArg some (Prod.ext h2 rfl)
theorem allS_setL {nt : Nat} {L : List (Sl × V)} (hc : coverB nt L) (h512 : nt ≤ 512) : allS (setL L) L := by
  have hl : L.length = nt := by have := congrArg List.length hc; simpa using this
  have hd : ∀ (a b : Nat) (x y : Sl × V), L[a]? = some x → L[b]? = some y → x.1 = y.1 → a = b := by
    intro a b x y h1 h2 h3
    have ka := (List.getElem?_eq_some_iff.1 h1).1
    have kb := (List.getElem?_eq_some_iff.1 h2).1
    obtain ⟨v, e1⟩ := cover_get hc (n := a) (by omega)
    obtain ⟨u, e2⟩ := cover_get hc (n := b) (by omega)
    rw [h1] at e1; rw [h2] at e2
    cases e1; cases e2
    exact slotOf_inj (by omega) (by omega) h3
  have go : ∀ (l : List (Sl × V)), (∀ x ∈ l, (setL L).get x.1 = x.2) → allS (setL L) l := by
    intro l
    induction l with
    | nil => intro _; trivial
    | cons x l ih => intro h; exact ⟨h x List.mem_cons_self, ih fun y hy => h y (List.mem_cons_of_mem _ hy)⟩
  refine go L fun x hx => ?_
  obtain ⟨n, hn⟩ := List.getElem?_of_mem hx
  exact setL_hit hd hn
theorem sub_of {nt : Nat} {T : Slots} {L1 L0 : List (Sl × V)} {objs1 objs : List AObj} (l : List Nat) (hT : allS T L1) (hc : coverB nt L0) (h512 : nt ≤ 512) (hl : (nodupL l && Nat.beq l.length objs.length) = true) (h1 : L1 = L0.map fun x => (x.1, x.2.ren (nthD l))) (h2 : (L0.all fun x => x.2.bel fun c => Nat.blt c objs.length) = true)
    (h3 : preOk (nthD l) (memO objs1) 0 objs) (h4 : ∀ o ∈ objs, o.bel (fun c => Nat.blt c objs.length) = true) : Sub nt 0 T (memO objs1) (setL L0) (memO objs) (nthD l) := by
  simp only [Bool.and_eq_true] at hl
  have hlen := Nat.eq_of_beq_eq_true hl.2
  have h0 := allS_setL hc h512
  refine ⟨fun b h => by omega, Nat.zero_le _, fun n hn => ?_, fun b o h => ?_, fun b c o u h h' e => ?_⟩
  · obtain ⟨v, hv⟩ := cover_get hc hn
    have e0 := allS_get h0 n _ hv
    have e1 := allS_get hT n (slotOf n, v.ren (nthD l)) (by rw [h1, List.getElem?_map, hv]; rfl)
    simp only at e0 e1
    rw [e0, e1]
    exact ⟨rfl, List.all_eq_true.1 h2 _ (List.mem_of_getElem? hv)⟩
  · rw [memO_get] at h
    have := preOk_get h3 b o h
    rw [Nat.zero_add] at this
    exact ⟨this, h4 o (List.mem_of_getElem? h), (List.getElem?_eq_some_iff.1 h).1⟩
  · rw [memO_get] at h h'
    have k1 := (List.getElem?_eq_some_iff.1 h).1
    have k2 := (List.getElem?_eq_some_iff.1 h').1
    exact nthD_inj hl.1 b c (by omega) (by omega) e
theorem iterG_step {nt B : Nat} {body : Slots → Mem → (Ex → Slots → Mem → Prop) → Prop} {n : Nat} {T : Slots} {m : Mem} {K : Ex → Slots → Mem → Prop} {T' : Slots} {m' : Mem} {σ : Nat → Nat} (hs : Sub nt B T m T' m' σ)
    (h : body T' m' fun e T m => match e with | .normal => iterG nt B body n T m K | e => K e T m) : iterG nt B body (n + 1) T m K := ⟨T', m', σ, hs, h⟩

theorem answersL_walkG {P : Program} (hmix : P.follows .mixedOrders = true) {n : Nat} {af : AFunc} (hok : FOk P n af) {cfy : Ys Prop → CF Prop} (hcf : CFOk P cfy id) {args : List V} {args' : List Value} {ρ : Ren} (ha : VRs ρ args args') (hp : plains args = true)
    {k sz : Nat} {cs : List V} (hL : plains cs = true) (hw : body1G cfy Ys.none af args ⟨0, .leaf⟩ fun u m => ∃ b c, u = .slice b 0 k c sz ∧ k ≤ c ∧ m.get b = some (.cells cs false)) : AnswersL P n args' (.new (.slice k sz) none (.cells cs false)) := by
  intro w
  obtain ⟨fn, h3, h4, _⟩ := hok
  have h := func_soundG hcf hmix h3 h4 (Y := Ys.none) (ρ := fun _ => none) YOk.none (mr_none ⟨0, .leaf⟩ w) (VRs.any ha hp) hw
  refine h.mono fun e w' he => ?_
  cases e with
  | panicked c => exact he.elim
  | outgrown => exact he.elim
  | returned v' =>
    obtain ⟨ρ', u, m', g1, g2, g3, g4⟩ := he
    obtain ⟨b, c, rfl, hkc, hb⟩ := g4
    refine ⟨v', rfl, g3.stays (fun b i o h => nomatch h), ?_⟩
    cases g1 with | slice e1 e2 e3 e4 e5 =>
    rename_i i off cap
    have hpl : (AObj.cells cs false).plain = true := by simp only [AObj.plain, hL, Bool.not_false, Bool.and_self]
    refine ⟨i, ?_, (g2.lt b i e1).2, g3.size, fun ρ b' hb' => .slice hb' (Nat.le_refl _) (Nat.le_trans hkc e3) e4 e5, fun ρ => (g2.obj b i _ e1 hb).any hpl⟩
    refine Nat.le_of_not_lt fun hlt => ?_
    obtain ⟨c, j, u, e, _⟩ := g3.old b i _ e1 hb (AObj.wr_of_plain hpl) hlt
    cases e
end Go.AM
