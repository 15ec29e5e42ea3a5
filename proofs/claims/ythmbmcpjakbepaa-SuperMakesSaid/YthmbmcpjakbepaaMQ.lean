/- What Make answers. No condition. -/
import Derived.Test.YthmbmcpjakbepaaMW
namespace Go.Proofs.Ythmbmcpjakbepaa
open Go Go.AM
set_option maxRecDepth 100000
set_option maxHeartbeats 4000000
set_option linter.unusedVariables false
set_option linter.unusedSectionVars false
structure Dk where
 (zs os : Nat → List Nat) (sp : Nat → Sp) (ot : Nat → Int) (ok : Nat → Bool)
structure SpOk (s : Sp) : Prop where
 n : s.n = 2 ∨ s.n = 3 ∨ s.n = 4
 m : s.m = 0 ∨ s.m = 1 ∨ s.m = 2 ∨ s.m = 3
 e1 : 0 ≤ s.e
 e2 : s.e ≤ 4294967296
structure DkOk (D : Dk) (R : List V → Option V) (X : List V) (n : Nat) : Prop where
 le : n ≤ 100
 pl : ∀ p : Nat → Bool, bels p X = true
 ld : ∀ i, i < n → loadV 2 (i * 2) X = some (.agg [.str (D.zs i), .str (D.os i)])
 of : ∀ i, i < n → R [.str (D.zs i), .str (D.os i)] = some (.tuple [(D.sp i).v, .int .i64 (D.ot i), .bool (D.ok i)])
 sp : ∀ i, i < n → D.ok i = true → SpOk (D.sp i)
def isOwn (D : Dk) (q : Int) (i : Nat) : Prop := D.ok i = true ∧ (D.sp i).a = q
instance (D : Dk) (q : Int) (i : Nat) : Decidable (isOwn D q i) := by unfold isOwn; infer_instance
def own (D : Dk) (q : Int) : Nat → List (Nat × Sp)
 | 0 => []
 | i + 1 => if isOwn D q i then own D q i ++ [(i, D.sp i)] else own D q i
theorem mem_own {D : Dk} {q : Int} {d : Nat} {s : Sp} : ∀ {n : Nat}, (d, s) ∈ own D q n ↔ d < n ∧ isOwn D q d ∧ s = D.sp d
 | 0 => by simp [own]
 | n + 1 => by
  have ih := mem_own (D := D) (q := q) (d := d) (s := s) (n := n)
  simp only [own]
  split
  ·rename_i h
   rw [List.mem_append, ih, List.mem_singleton, Prod.mk.injEq]
   constructor
   ·rintro (⟨h1, h2⟩ | ⟨rfl, rfl⟩)
    ·exact ⟨by omega, h2⟩
    ·exact ⟨by omega, h, rfl⟩
   ·rintro ⟨h1, h2, h3⟩
    rcases Nat.lt_or_ge d n with h4 | h4
    ·exact .inl ⟨h4, h2, h3⟩
    ·have : d = n := by omega
     subst this
     exact .inr ⟨rfl, h3⟩
  ·rename_i h
   rw [ih]
   constructor
   ·rintro ⟨h1, h2⟩; exact ⟨by omega, h2⟩
   ·rintro ⟨h1, h2, h3⟩
    refine ⟨?_, h2, h3⟩
    rcases Nat.lt_or_ge d n with h4 | h4
    ·exact h4
    ·have : d = n := by omega
     subst this; exact absurd h2 h
theorem own_inc {D : Dk} {q : Int} : ∀ {n : Nat}, (own D q n).Pairwise fun x y => x.1 < y.1
 | 0 => List.Pairwise.nil
 | n + 1 => by
  simp only [own]
  split
  ·rw [List.pairwise_append]
   refine ⟨own_inc, List.pairwise_singleton _ _, fun x hx y hy => ?_⟩
   rw [List.mem_singleton.1 hy]
   exact (mem_own.1 hx).1
  ·exact own_inc
theorem own_len {D : Dk} {q : Int} : ∀ {n : Nat}, (own D q n).length ≤ n
 | 0 => Nat.le_refl _
 | n + 1 => by
  have := own_len (D := D) (q := q) (n := n)
  simp only [own]
  split
  ·rw [List.length_append]; simp only [List.length_cons, List.length_nil]; omega
  ·omega
theorem oV_app : ∀ (L : List (Nat × Sp)) (i d : Nat) (s : Sp), oV i (L ++ [(d, s)]) = oV i L ++ [(.int .i64 ((d : Nat) : Int), s.v, i + L.length)]
 | [], i, d, s => rfl
 | (d', s') :: L, i, d, s => by
  simp only [List.cons_append, oV, oV_app L (i + 1) d s, List.length_cons]
  rw [show i + 1 + L.length = i + (L.length + 1) from by omega]
theorem findO_no : ∀ (L : List (Nat × Sp)) (i x : Nat) (d : Nat), (∀ y ∈ L, y.1 ≠ d) → findE (.one .int) (.int .i64 ((d : Nat) : Int)) (oV i L) x = some none
 | [], _, _, _, _ => rfl
 | (d', s') :: L, i, x, d, h => by
  have hk : keyEq (.one .int) (.int .i64 ((d : Nat) : Int)) (.int .i64 ((d' : Nat) : Int)) = some (decide (((d : Nat) : Int) = ((d' : Nat) : Int))) := by
   show some (eqI _ _) = _
   rw [eqI_eq]
  have h1 := h _ List.mem_cons_self
  simp only at h1
  simp only [oV, findE, hk]
  rw [decide_eq_false (show ¬ ((d : Nat) : Int) = ((d' : Nat) : Int) from by omega)]
  exact findO_no L (i + 1) (x + 1) d fun y hy => h y (List.mem_cons_of_mem _ hy)
theorem look_own_no {L : List (Nat × Sp)} {d : Nat} (h : ∀ y ∈ L, y.1 ≠ d) (z : V) : lookV (.one .int) true z (.int .i64 ((d : Nat) : Int)) (oV 0 L) = some (.tuple [z, .bool false]) := by
 simp only [lookV, findK, keyOk, cond_true, findO_no L 0 0 d h]
theorem look_own_yes {L : List (Nat × Sp)} (hp : L.Pairwise fun x y => x.1 < y.1) (z : V) {d : Nat} {s : Sp} (h : (d, s) ∈ L) : lookV (.one .int) true z (.int .i64 ((d : Nat) : Int)) (oV 0 L) = some (.tuple [s.v, .bool true]) := by
 obtain ⟨j, hj⟩ := look_oV (z := z) L 0 0 hp d s h
 simp only [lookV, findK, keyOk, cond_true, hj]
abbrev sl23 (n k : Nat) (q : Int) (i : Nat) : List (Sl × V) := [(s0, .slice 0 0 n k 2), (s1, .int .i64 q), (s4, .ptr 1 0), (s5, .int .i64 0), (s6, .ptr 2 0), (s7, .map 3), (s23, .slice 0 0 n k 2), (s24, .int .i64 ((n : Nat) : Int)), (s25, .int .i64 ((i : Nat) : Int))]
abbrev m23 (X : List V) (L : List (Nat × Sp)) : Mem := memL 4 [(0, .cells X false), (1, .cells mad0 false), (2, .cells mad1 false), (3, .map (oV 0 L) L.length false)]
abbrev g23 (X : List V) (L : List (Nat × Sp)) (z o : List Nat) (s : Sp) : Mem := memL 6 [(0, .cells X false), (1, .cells mad0 false), (2, .cells mad1 false), (3, .map (oV 0 L) L.length false), (4, .cells [.str z, .str o] false), (5, .cells s.cs false)]
theorem drop23 {X : List V} (hX : ∀ p : Nat → Bool, bels p X = true) (L : List (Nat × Sp)) (z o : List Nat) (s : Sp) : DropM 4 (g23 X L z o s) (m23 X L) :=
 dropM_of (show (4 : Nat) ≤ 6 by decide) ⟨⟨rfl, hX _⟩, ⟨rfl, rfl⟩, ⟨rfl, rfl⟩, ⟨rfl, belD_o L 4⟩, trivial⟩
theorem drop23a {X : List V} (hX : ∀ p : Nat → Bool, bels p X = true) (L : List (Nat × Sp)) : DropM 4 (m23 X L) (m23 X L) :=
 dropM_of (show (4 : Nat) ≤ 4 by decide) ⟨⟨rfl, hX _⟩, ⟨rfl, rfl⟩, ⟨rfl, rfl⟩, ⟨rfl, belD_o L 4⟩, trivial⟩
theorem loop23 {D : Dk} {R : List V → Option V} {X : List V} {n : Nat} (ok : DkOk D R X n) (k : Nat) (q : Int) :
  LoopOkD (callD pA tb23 (la23 R) 5) 1 c23l0 (.exit 0) (m23 X []) (sl23 n k q 0) (fun _ => True) (fun _ => m23 X (own D q n)) (fun _ => sl23 n k q n) := by
 refine loopD (B := 1) (N := 4) (by decide) n (Nat.lt_of_le_of_lt ok.le (by decide)) (m23 X []) (fun i => m23 X (own D q i)) (fun i => g23 X (own D q (i + 1)) (D.zs i) (D.os i) (D.sp i)) (fun i => sl23 n k q i) _ _ (drop23a ok.pl []) (fun i _ => drop23 ok.pl _ _ _ _) (fun _ => rfl) ?_ ?_
 ·intro Y i T hi hT K hK
  have hx := ok.ld i hi
  have hR := ok.of i hi
  generalize hs : D.sp i = s at hR hK
  generalize hb : D.ok i = b at hR
  generalize D.zs i = z at hx hR hK
  generalize D.os i = o at hx hR hK
  cases b with
  | false =>
   rw [show own D q (i + 1) = own D q i from if_neg fun h => by rw [h.1] at hb; cases hb] at hK
   exact m1_n Y R X n k (own D q i).length (oV 0 (own D q i)) q i z o s (D.ot i) hi ok.le hx hR T hT K hK
  | true =>
   by_cases hq : s.a = q
   ·have ho : isOwn D q i := ⟨hb, by rw [hs]; exact hq⟩
    rw [show own D q (i + 1) = own D q i ++ [(i, s)] from by rw [← hs]; exact if_pos ho, g23, oV_app, List.length_append, Nat.zero_add] at hK
    exact m1_y Y R X n k (own D q i).length (oV 0 (own D q i)) q i z o s (D.ot i) hi ok.le hx hR (by omega) (by omega) (by
     simp only [findK, keyOk, cond_true]
     exact findO_no _ _ _ _ fun y hy => by have := (mem_own.1 (show (y.1, y.2) ∈ own D q i from hy)).1; omega) T hT K hK
   ·rw [show own D q (i + 1) = own D q i from if_neg fun h => hq (by rw [← hs]; exact h.2)] at hK
    exact m1_q Y R X n k (own D q i).length (oV 0 (own D q i)) q i z o s (D.ot i) hi ok.le hx hR hq T hT K hK
 ·intro Y T hT K hK
  exact m1_f Y R X n k (own D q n).length (oV 0 (own D q n)) q T hT K hK
def D4.get (E : D4) (m : Int) : Int := if m = 0 then E.d0 else if m = 1 then E.d1 else if m = 2 then E.d2 else E.d3
def D4.put (E : D4) (m v : Int) : D4 := if m = 0 then ⟨v, E.d1, E.d2, E.d3⟩ else if m = 1 then ⟨E.d0, v, E.d2, E.d3⟩ else if m = 2 then ⟨E.d0, E.d1, v, E.d3⟩ else ⟨E.d0, E.d1, E.d2, v⟩
def geoEq (s g : Sp) : Prop := s.l = g.l ∧ s.n = g.n ∧ s.r = g.r
instance (s g : Sp) : Decidable (geoEq s g) := by unfold geoEq; infer_instance
def evO (D : Dk) (w : Int) : Int := (D.sp w.toNat).e
def dkT (ev : Int → Int) (E : D4) (s : Sp) (i : Nat) : D4 := if E.get s.m < 0 ∨ ev (E.get s.m) < s.e then E.put s.m ((i : Nat) : Int) else E
def dkS (D : Dk) (q : Int) (g : Sp) (E : D4) (i : Nat) : D4 := if isOwn D q i ∧ geoEq (D.sp i) g then dkT (evO D) E (D.sp i) i else E
def dk (D : Dk) (q : Int) (g : Sp) : Nat → D4
 | 0 => ⟨-1, -1, -1, -1⟩
 | i + 1 => dkS D q g (dk D q g i) i
def GoodD (D : Dk) (q : Int) (n : Nat) (E : D4) : Prop := ∀ m, E.get m ≥ 0 → ∃ u : Nat, u < n ∧ E.get m = ((u : Nat) : Int) ∧ isOwn D q u
theorem get_put (E : D4) (m k v : Int) (hm : m = 0 ∨ m = 1 ∨ m = 2 ∨ m = 3) : (E.put m v).get k = v ∨ (E.put m v).get k = E.get k := by
 rcases hm with rfl | rfl | rfl | rfl <;> by_cases k0 : k = 0 <;> by_cases k1 : k = 1 <;> by_cases k2 : k = 2 <;> simp [D4.put, D4.get, k0, k1, k2]
theorem goodS {D : Dk} {q : Int} {g : Sp} {n i : Nat} (hi : i < n) (hs : D.ok i = true → SpOk (D.sp i)) {E : D4} (h : GoodD D q n E) : GoodD D q n (dkS D q g E i) := by
 unfold dkS
 split
 ·rename_i ho
  unfold dkT
  split
  ·intro k hk
   rcases get_put E (D.sp i).m k ((i : Nat) : Int) (hs ho.1.1).m with e | e
   ·exact ⟨i, hi, e, ho.1⟩
   ·rw [e] at hk ⊢; exact h k hk
  ·exact h
 ·exact h
theorem good0 (D : Dk) (q : Int) (n : Nat) : GoodD D q n ⟨-1, -1, -1, -1⟩ := by
 intro k hk
 exfalso
 unfold D4.get at hk
 simp only at hk
 revert hk
 (repeat' split) <;> decide
theorem goodN {D : Dk} {q : Int} {g : Sp} {n : Nat} (hs : ∀ i, i < n → D.ok i = true → SpOk (D.sp i)) : ∀ i, i ≤ n → GoodD D q n (dk D q g i)
 | 0, _ => good0 D q n
 | i + 1, h => goodS (by omega) (hs i (by omega)) (goodN hs i (by omega))
theorem eqv_geo (a b c x y z : Int) : eqvV true (.many [.int, .int, .int]) (.agg [.int .i64 a, .int .i64 b, .int .i64 c]) (.agg [.int .i64 x, .int .i64 y, .int .i64 z]) = some (.bool (!decide (a = x ∧ b = y ∧ c = z))) := by
 have h : keyEq (.many [.int, .int, .int]) (.agg [.int .i64 a, .int .i64 b, .int .i64 c]) (.agg [.int .i64 x, .int .i64 y, .int .i64 z]) = some (eqI a x && (eqI b y && (eqI c z && true))) := eqC_cons rfl (eqC_cons rfl (eqC_cons rfl rfl))
 simp only [eqvV, h, eqI_eq, Bool.and_true, Bool.decide_and]
 cases decide (a = x) <;> cases decide (b = y) <;> cases decide (c = z) <;> rfl
abbrev sl24 (n k : Nat) (q : Int) (i : Nat) : List (Sl × V) := [(s0, .slice 0 0 n k 2), (s1, .int .i64 q), (s4, .ptr 1 0), (s5, .int .i64 0), (s6, .ptr 2 0), (s7, .map 3), (s59, .int .i64 ((n : Nat) : Int)), (s60, .int .i64 ((i : Nat) : Int))]
abbrev m24 (X : List V) (L : List (Nat × Sp)) (g : Sp) (E : D4) : Mem := memL 4 [(0, .cells X false), (1, .cells mad0 false), (2, .cells (mad g.a g.m g.l g.n g.r g.e g.p g.x0 g.x1 g.x2 g.x3 g.c E.d0 E.d1 E.d2 E.d3 false false false false) false), (3, .map (oV 0 L) L.length false)]
abbrev g24 (X : List V) (L : List (Nat × Sp)) (g : Sp) (E : D4) (s : Sp) : Mem := memL 5 [(0, .cells X false), (1, .cells mad0 false), (2, .cells (mad g.a g.m g.l g.n g.r g.e g.p g.x0 g.x1 g.x2 g.x3 g.c E.d0 E.d1 E.d2 E.d3 false false false false) false), (3, .map (oV 0 L) L.length false), (4, .cells s.cs false)]
theorem drop24 {X : List V} (hX : ∀ p : Nat → Bool, bels p X = true) (L : List (Nat × Sp)) (g : Sp) (E : D4) (s : Sp) : DropM 4 (g24 X L g E s) (m24 X L g E) :=
 dropM_of (show (4 : Nat) ≤ 5 by decide) ⟨⟨rfl, hX _⟩, ⟨rfl, rfl⟩, ⟨rfl, rfl⟩, ⟨rfl, belD_o L 4⟩, trivial⟩
theorem drop24a {X : List V} (hX : ∀ p : Nat → Bool, bels p X = true) (L : List (Nat × Sp)) (g : Sp) (E : D4) : DropM 4 (m24 X L g E) (m24 X L g E) :=
 dropM_of (show (4 : Nat) ≤ 4 by decide) ⟨⟨rfl, hX _⟩, ⟨rfl, rfl⟩, ⟨rfl, rfl⟩, ⟨rfl, belD_o L 4⟩, trivial⟩
theorem step24 {D : Dk} {R : List V → Option V} {X : List V} {n : Nat} (ok : DkOk D R X n) (k : Nat) (q : Int) (g : Sp) (Y : Ys Prop) (i : Nat) (T : Slots) (hi : i < n) (E : D4) (hE : GoodD D q n E) (hT : allS T (sl24 n k q i)) (K : Ex → Slots → Mem → Prop)
  (hK : ∀ T', allS T' (sl24 n k q (i + 1)) → K .normal T' (g24 X (own D q n) g (dkS D q g E i) (if isOwn D q i then D.sp i else sp0))) : code pA (callD pA tb23 (la23 R) 5) Y c23l1 T (m24 X (own D q n) g E) K := by
 by_cases ho : isOwn D q i
 ·have hsp := ok.sp i hi ho.1
  have hlk : (i, D.sp i) ∈ own D q n := mem_own.2 ⟨hi, ho, rfl⟩
  have hk := look_own_yes own_inc (sup 0 0 0 0 0 0 0 0 0 0 0 0) hlk
  have hq := eqv_geo (D.sp i).l (D.sp i).n (D.sp i).r g.l g.n g.r
  rw [if_pos ho] at hK
  by_cases hg : geoEq (D.sp i) g
  ·rw [show dkS D q g E i = dkT (evO D) E (D.sp i) i from if_pos ⟨ho, hg⟩] at hK
   rw [decide_eq_true (p := (D.sp i).l = g.l ∧ (D.sp i).n = g.n ∧ (D.sp i).r = g.r) hg] at hq
   clear hlk
   have hm := hsp.m
   have hlu : ∀ m, E.get m ≥ 0 → ∃ w : Sp, lookV (.one .int) false (sup 0 0 0 0 0 0 0 0 0 0 0 0) (.int .i64 (E.get m)) (oV 0 (own D q n)) = some w.v ∧ evO D (E.get m) = w.e := by
    intro m h
    obtain ⟨u, h1, h2, h3⟩ := hE m h
    refine ⟨D.sp u, ?_, ?_⟩
    ·rw [h2]; exact lookO own_inc _ (mem_own.2 ⟨h1, h3, rfl⟩)
    ·rw [h2]; rfl
   generalize evO D = ev at hK hlu
   generalize D.sp i = s at hK hk hq hm
   obtain ⟨a, m, l, n', r, e, p, x0, x1, x2, x3, c⟩ := s
   simp only at hm hq
   rcases hm with rfl | rfl | rfl | rfl
   ·by_cases hv : E.d0 < 0
    ·rw [show dkT ev E ⟨a, 0, l, n', r, e, p, x0, x1, x2, x3, c⟩ i = ⟨((i : Nat) : Int), E.d1, E.d2, E.d3⟩ from if_pos (.inl hv)] at hK
     exact m2_a Y R X n k (own D q n).length (oV 0 (own D q n)) q g E i ⟨a, 0, l, n', r, e, p, x0, x1, x2, x3, c⟩ hi ok.le 0 (by decide) E.d0 rfl hk hq ⟨((i : Nat) : Int), E.d1, E.d2, E.d3⟩ rfl hv T hT K hK
    ·obtain ⟨w, h1, h2⟩ := hlu 0 (show E.d0 ≥ 0 by omega)
     by_cases hlt : w.e < e
     ·rw [show dkT ev E ⟨a, 0, l, n', r, e, p, x0, x1, x2, x3, c⟩ i = ⟨((i : Nat) : Int), E.d1, E.d2, E.d3⟩ from if_pos (.inr (by show ev (E.get 0) < e; rw [h2]; exact hlt))] at hK
      exact m2_b Y R X n k (own D q n).length (oV 0 (own D q n)) q g E i ⟨a, 0, l, n', r, e, p, x0, x1, x2, x3, c⟩ hi ok.le 0 (by decide) E.d0 rfl hk hq ⟨((i : Nat) : Int), E.d1, E.d2, E.d3⟩ rfl (by omega) w h1 hlt T hT K hK
     ·rw [show dkT ev E ⟨a, 0, l, n', r, e, p, x0, x1, x2, x3, c⟩ i = E from if_neg (fun h => h.elim hv (by show ¬ ev (E.get 0) < e; rw [h2]; exact hlt))] at hK
      exact m2_c Y R X n k (own D q n).length (oV 0 (own D q n)) q g E i ⟨a, 0, l, n', r, e, p, x0, x1, x2, x3, c⟩ hi ok.le 0 (by decide) E.d0 rfl hk hq (by omega) w h1 hlt T hT K hK
   ·by_cases hv : E.d1 < 0
    ·rw [show dkT ev E ⟨a, 1, l, n', r, e, p, x0, x1, x2, x3, c⟩ i = ⟨E.d0, ((i : Nat) : Int), E.d2, E.d3⟩ from if_pos (.inl hv)] at hK
     exact m2_a Y R X n k (own D q n).length (oV 0 (own D q n)) q g E i ⟨a, 1, l, n', r, e, p, x0, x1, x2, x3, c⟩ hi ok.le 1 (by decide) E.d1 rfl hk hq ⟨E.d0, ((i : Nat) : Int), E.d2, E.d3⟩ rfl hv T hT K hK
    ·obtain ⟨w, h1, h2⟩ := hlu 1 (show E.d1 ≥ 0 by omega)
     by_cases hlt : w.e < e
     ·rw [show dkT ev E ⟨a, 1, l, n', r, e, p, x0, x1, x2, x3, c⟩ i = ⟨E.d0, ((i : Nat) : Int), E.d2, E.d3⟩ from if_pos (.inr (by show ev (E.get 1) < e; rw [h2]; exact hlt))] at hK
      exact m2_b Y R X n k (own D q n).length (oV 0 (own D q n)) q g E i ⟨a, 1, l, n', r, e, p, x0, x1, x2, x3, c⟩ hi ok.le 1 (by decide) E.d1 rfl hk hq ⟨E.d0, ((i : Nat) : Int), E.d2, E.d3⟩ rfl (by omega) w h1 hlt T hT K hK
     ·rw [show dkT ev E ⟨a, 1, l, n', r, e, p, x0, x1, x2, x3, c⟩ i = E from if_neg (fun h => h.elim hv (by show ¬ ev (E.get 1) < e; rw [h2]; exact hlt))] at hK
      exact m2_c Y R X n k (own D q n).length (oV 0 (own D q n)) q g E i ⟨a, 1, l, n', r, e, p, x0, x1, x2, x3, c⟩ hi ok.le 1 (by decide) E.d1 rfl hk hq (by omega) w h1 hlt T hT K hK
   ·by_cases hv : E.d2 < 0
    ·rw [show dkT ev E ⟨a, 2, l, n', r, e, p, x0, x1, x2, x3, c⟩ i = ⟨E.d0, E.d1, ((i : Nat) : Int), E.d3⟩ from if_pos (.inl hv)] at hK
     exact m2_a Y R X n k (own D q n).length (oV 0 (own D q n)) q g E i ⟨a, 2, l, n', r, e, p, x0, x1, x2, x3, c⟩ hi ok.le 2 (by decide) E.d2 rfl hk hq ⟨E.d0, E.d1, ((i : Nat) : Int), E.d3⟩ rfl hv T hT K hK
    ·obtain ⟨w, h1, h2⟩ := hlu 2 (show E.d2 ≥ 0 by omega)
     by_cases hlt : w.e < e
     ·rw [show dkT ev E ⟨a, 2, l, n', r, e, p, x0, x1, x2, x3, c⟩ i = ⟨E.d0, E.d1, ((i : Nat) : Int), E.d3⟩ from if_pos (.inr (by show ev (E.get 2) < e; rw [h2]; exact hlt))] at hK
      exact m2_b Y R X n k (own D q n).length (oV 0 (own D q n)) q g E i ⟨a, 2, l, n', r, e, p, x0, x1, x2, x3, c⟩ hi ok.le 2 (by decide) E.d2 rfl hk hq ⟨E.d0, E.d1, ((i : Nat) : Int), E.d3⟩ rfl (by omega) w h1 hlt T hT K hK
     ·rw [show dkT ev E ⟨a, 2, l, n', r, e, p, x0, x1, x2, x3, c⟩ i = E from if_neg (fun h => h.elim hv (by show ¬ ev (E.get 2) < e; rw [h2]; exact hlt))] at hK
      exact m2_c Y R X n k (own D q n).length (oV 0 (own D q n)) q g E i ⟨a, 2, l, n', r, e, p, x0, x1, x2, x3, c⟩ hi ok.le 2 (by decide) E.d2 rfl hk hq (by omega) w h1 hlt T hT K hK
   ·by_cases hv : E.d3 < 0
    ·rw [show dkT ev E ⟨a, 3, l, n', r, e, p, x0, x1, x2, x3, c⟩ i = ⟨E.d0, E.d1, E.d2, ((i : Nat) : Int)⟩ from if_pos (.inl hv)] at hK
     exact m2_a Y R X n k (own D q n).length (oV 0 (own D q n)) q g E i ⟨a, 3, l, n', r, e, p, x0, x1, x2, x3, c⟩ hi ok.le 3 (by decide) E.d3 rfl hk hq ⟨E.d0, E.d1, E.d2, ((i : Nat) : Int)⟩ rfl hv T hT K hK
    ·obtain ⟨w, h1, h2⟩ := hlu 3 (show E.d3 ≥ 0 by omega)
     by_cases hlt : w.e < e
     ·rw [show dkT ev E ⟨a, 3, l, n', r, e, p, x0, x1, x2, x3, c⟩ i = ⟨E.d0, E.d1, E.d2, ((i : Nat) : Int)⟩ from if_pos (.inr (by show ev (E.get 3) < e; rw [h2]; exact hlt))] at hK
      exact m2_b Y R X n k (own D q n).length (oV 0 (own D q n)) q g E i ⟨a, 3, l, n', r, e, p, x0, x1, x2, x3, c⟩ hi ok.le 3 (by decide) E.d3 rfl hk hq ⟨E.d0, E.d1, E.d2, ((i : Nat) : Int)⟩ rfl (by omega) w h1 hlt T hT K hK
     ·rw [show dkT ev E ⟨a, 3, l, n', r, e, p, x0, x1, x2, x3, c⟩ i = E from if_neg (fun h => h.elim hv (by show ¬ ev (E.get 3) < e; rw [h2]; exact hlt))] at hK
      exact m2_c Y R X n k (own D q n).length (oV 0 (own D q n)) q g E i ⟨a, 3, l, n', r, e, p, x0, x1, x2, x3, c⟩ hi ok.le 3 (by decide) E.d3 rfl hk hq (by omega) w h1 hlt T hT K hK
  ·rw [show dkS D q g E i = E from if_neg fun h => hg h.2] at hK
   rw [decide_eq_false (p := (D.sp i).l = g.l ∧ (D.sp i).n = g.n ∧ (D.sp i).r = g.r) hg] at hq
   exact m2_g Y R X n k (own D q n).length (oV 0 (own D q n)) q g E i (D.sp i) hi ok.le hk hq T hT K hK
 ·have hk := look_own_no (L := own D q n) (d := i) (fun y hy e => ho (by have := (mem_own.1 (show (y.1, y.2) ∈ own D q n from hy)).2.1; rwa [e] at this)) (sup 0 0 0 0 0 0 0 0 0 0 0 0)
  rw [if_neg ho, show dkS D q g E i = E from if_neg fun h => ho h.1] at hK
  exact m2_n Y R X n k (own D q n).length (oV 0 (own D q n)) q g E i sp0 hi ok.le hk T hT K hK
theorem loop24 {D : Dk} {R : List V → Option V} {X : List V} {n : Nat} (ok : DkOk D R X n) (k : Nat) (q : Int) (g : Sp) :
  LoopOkD (callD pA tb23 (la23 R) 5) 1 c23l1 (.exit 2) (m24 X (own D q n) g ⟨-1, -1, -1, -1⟩) (sl24 n k q 0) (fun _ => True) (fun _ => m24 X (own D q n) g (dk D q g n)) (fun _ => sl24 n k q n) := by
 have hG := fun i h => goodN (q := q) (g := g) ok.sp i h
 have h1 : ∀ i, dk D q g (i + 1) = dkS D q g (dk D q g i) i := fun _ => rfl
 have h0 := drop24a ok.pl (own D q n) g (dk D q g 0)
 refine loopD (B := 1) (N := 4) (by decide) n (Nat.lt_of_le_of_lt ok.le (by decide)) _ (fun i => m24 X (own D q n) g (dk D q g i)) (fun i => g24 X (own D q n) g (dk D q g (i + 1)) (if isOwn D q i then D.sp i else sp0)) (fun i => sl24 n k q i) _ _ h0 (fun i _ => drop24 ok.pl _ _ _ _) (fun _ => rfl) ?_ ?_
 ·intro Y i T hi hT K hK
  rw [h1] at hK
  exact step24 ok k q g Y i T hi (dk D q g i) (hG i (by omega)) hT K hK
 ·intro Y T hT K hK
  generalize dk D q g n = E at hK
  exact m2_f Y R X n k (own D q n).length (oV 0 (own D q n)) q g E T hT K hK
def inB (D : Dk) (g : Sp) (E : D4) (m st : Int) : Bool := decide (E.get m ≥ 0) && (decide (st = 1) || decide (st = 3)) && decide (g.e - 1 ≤ evO D (E.get m))
abbrev sl25 (n k : Nat) (q : Int) (E : D4) (i : Nat) : List (Sl × V) := [(s0, .slice 0 0 n k 2), (s1, .int .i64 q), (s4, .ptr 1 0), (s5, .int .i64 0), (s6, .ptr 2 0), (s7, .map 3), (s102, .agg [.int .i64 E.d0, .int .i64 E.d1, .int .i64 E.d2, .int .i64 E.d3]), (s103, .int .i64 ((i : Nat) : Int))]
abbrev m25 (X : List V) (L : List (Nat × Sp)) (g : Sp) (E : D4) (f0 f1 f2 f3 : Bool) : Mem := memL 4 [(0, .cells X false), (1, .cells mad0 false), (2, .cells (mad g.a g.m g.l g.n g.r g.e g.p g.x0 g.x1 g.x2 g.x3 g.c E.d0 E.d1 E.d2 E.d3 f0 f1 f2 f3) false), (3, .map (oV 0 L) L.length false)]
theorem drop25 {X : List V} (hX : ∀ p : Nat → Bool, bels p X = true) (L : List (Nat × Sp)) (g : Sp) (E : D4) (f0 f1 f2 f3 : Bool) : DropM 4 (m25 X L g E f0 f1 f2 f3) (m25 X L g E f0 f1 f2 f3) :=
 dropM_of (show (4 : Nat) ≤ 4 by decide) ⟨⟨rfl, hX _⟩, ⟨rfl, rfl⟩, ⟨rfl, rfl⟩, ⟨rfl, belD_o L 4⟩, trivial⟩
theorem in_cases (D : Dk) (q : Int) (n : Nat) (g : Sp) (E : D4) (hE : GoodD D q n E) (m st : Int) : (E.get m < 0 ∧ inB D g E m st = false) ∨ (E.get m ≥ 0 ∧ st ≠ 1 ∧ st ≠ 3 ∧ inB D g E m st = false) ∨
  (E.get m ≥ 0 ∧ ∃ w : Sp, lookV (.one .int) false (sup 0 0 0 0 0 0 0 0 0 0 0 0) (.int .i64 (E.get m)) (oV 0 (own D q n)) = some w.v ∧ (st = 1 ∨ st = 3) ∧ ((g.e - 1 ≤ w.e ∧ inB D g E m st = true) ∨ (¬ g.e - 1 ≤ w.e ∧ inB D g E m st = false))) := by
 by_cases h : E.get m < 0
 ·refine .inl ⟨h, ?_⟩
  simp only [inB, decide_eq_false (show ¬ E.get m ≥ 0 by omega), Bool.false_and]
 ·have h0 : E.get m ≥ 0 := by omega
  by_cases hs : st = 1 ∨ st = 3
  ·refine .inr (.inr ⟨h0, ?_⟩)
   obtain ⟨u, h1, h2, h3⟩ := hE m h0
   refine ⟨D.sp u, by rw [h2]; exact lookO own_inc _ (mem_own.2 ⟨h1, h3, rfl⟩), hs, ?_⟩
   have e : evO D (E.get m) = (D.sp u).e := by rw [h2]; rfl
   have e2 : (decide (st = 1) || decide (st = 3)) = true := by rcases hs with rfl | rfl <;> rfl
   simp only [inB, e, decide_eq_true h0, e2, Bool.true_and, Bool.and_self, decide_eq_true_eq, decide_eq_false_iff_not]
   by_cases hl : g.e - 1 ≤ (D.sp u).e
   ·exact .inl ⟨hl, hl⟩
   ·exact .inr ⟨hl, hl⟩
  ·refine .inr (.inl ⟨h0, fun e => hs (.inl e), fun e => hs (.inr e), ?_⟩)
   simp only [inB, decide_eq_false (show ¬ st = 1 from fun e => hs (.inl e)), decide_eq_false (show ¬ st = 3 from fun e => hs (.inr e)), Bool.or_self, Bool.and_false, Bool.false_and]
theorem loop25 {D : Dk} {R : List V → Option V} {X : List V} {n : Nat} (ok : DkOk D R X n) (k : Nat) (q : Int) (g : Sp) (g1 : -1000 ≤ g.e) (g2 : g.e ≤ 4294967296) (E : D4) (hE : GoodD D q n E) :
  LoopOkD (callD pA tb23 (la23 R) 5) 1 c23l2 (.exit 4) (m25 X (own D q n) g E false false false false) (sl25 n k q E 0) (fun _ => True) (fun _ => m25 X (own D q n) g E (inB D g E 0 g.x0) (inB D g E 1 g.x1) (inB D g E 2 g.x2) (inB D g E 3 g.x3)) (fun _ => sl25 n k q E 4) := by
 have c0 := in_cases D q n g E hE 0 g.x0
 have c1 := in_cases D q n g E hE 1 g.x1
 have c2 := in_cases D q n g E hE 2 g.x2
 have c3 := in_cases D q n g E hE 3 g.x3
 generalize inB D g E 0 g.x0 = b0 at c0 ⊢
 generalize inB D g E 1 g.x1 = b1 at c1 ⊢
 generalize inB D g E 2 g.x2 = b2 at c2 ⊢
 generalize inB D g E 3 g.x3 = b3 at c3 ⊢
 refine loopD (B := 1) (N := 4) (by decide) 4 (by decide) _ (fun i => m25 X (own D q n) g E (Nat.blt 0 i && b0) (Nat.blt 1 i && b1) (Nat.blt 2 i && b2) (Nat.blt 3 i && b3)) (fun i => m25 X (own D q n) g E (Nat.blt 0 (i + 1) && b0) (Nat.blt 1 (i + 1) && b1) (Nat.blt 2 (i + 1) && b2) (Nat.blt 3 (i + 1) && b3)) (fun i => sl25 n k q E i) _ _ (drop25 ok.pl _ _ _ _ _ _ _) (fun i _ => drop25 ok.pl _ _ _ _ _ _ _) (fun _ => rfl) ?_ ?_
 ·intro Y i T hi hT K hK
  match i, hi with
  | 0, _ =>
   rcases c0 with ⟨h, rfl⟩ | ⟨h, h1, h3, rfl⟩ | ⟨h, w, hw, hs, ⟨hl, rfl⟩ | ⟨hl, rfl⟩⟩
   ·exact m3_a Y R X n k (own D q n).length (oV 0 (own D q n)) q g E false false false false 0 (by decide) E.d0 g.x0 false false false false rfl rfl rfl h T hT K hK
   ·exact m3_b Y R X n k (own D q n).length (oV 0 (own D q n)) q g E false false false false 0 (by decide) E.d0 g.x0 false false false false rfl rfl rfl h h1 h3 T hT K hK
   ·rcases hs with h1 | h1
    ·exact m3_ct Y R X n k (own D q n).length (oV 0 (own D q n)) q g E false false false false 0 (by decide) E.d0 g.x0 true false false false rfl rfl rfl h h1 g1 g2 w hw hl T hT K hK
    ·exact m3_dt Y R X n k (own D q n).length (oV 0 (own D q n)) q g E false false false false 0 (by decide) E.d0 g.x0 true false false false rfl rfl rfl h h1 g1 g2 w hw hl T hT K hK
   ·rcases hs with h1 | h1
    ·exact m3_cf Y R X n k (own D q n).length (oV 0 (own D q n)) q g E false false false false 0 (by decide) E.d0 g.x0 false false false false rfl rfl rfl h h1 g1 g2 w hw hl T hT K hK
    ·exact m3_df Y R X n k (own D q n).length (oV 0 (own D q n)) q g E false false false false 0 (by decide) E.d0 g.x0 false false false false rfl rfl rfl h h1 g1 g2 w hw hl T hT K hK
  | 1, _ =>
   rcases c1 with ⟨h, rfl⟩ | ⟨h, h1, h3, rfl⟩ | ⟨h, w, hw, hs, ⟨hl, rfl⟩ | ⟨hl, rfl⟩⟩
   ·exact m3_a Y R X n k (own D q n).length (oV 0 (own D q n)) q g E b0 false false false 1 (by decide) E.d1 g.x1 b0 false false false rfl rfl rfl h T hT K hK
   ·exact m3_b Y R X n k (own D q n).length (oV 0 (own D q n)) q g E b0 false false false 1 (by decide) E.d1 g.x1 b0 false false false rfl rfl rfl h h1 h3 T hT K hK
   ·rcases hs with h1 | h1
    ·exact m3_ct Y R X n k (own D q n).length (oV 0 (own D q n)) q g E b0 false false false 1 (by decide) E.d1 g.x1 b0 true false false rfl rfl rfl h h1 g1 g2 w hw hl T hT K hK
    ·exact m3_dt Y R X n k (own D q n).length (oV 0 (own D q n)) q g E b0 false false false 1 (by decide) E.d1 g.x1 b0 true false false rfl rfl rfl h h1 g1 g2 w hw hl T hT K hK
   ·rcases hs with h1 | h1
    ·exact m3_cf Y R X n k (own D q n).length (oV 0 (own D q n)) q g E b0 false false false 1 (by decide) E.d1 g.x1 b0 false false false rfl rfl rfl h h1 g1 g2 w hw hl T hT K hK
    ·exact m3_df Y R X n k (own D q n).length (oV 0 (own D q n)) q g E b0 false false false 1 (by decide) E.d1 g.x1 b0 false false false rfl rfl rfl h h1 g1 g2 w hw hl T hT K hK
  | 2, _ =>
   rcases c2 with ⟨h, rfl⟩ | ⟨h, h1, h3, rfl⟩ | ⟨h, w, hw, hs, ⟨hl, rfl⟩ | ⟨hl, rfl⟩⟩
   ·exact m3_a Y R X n k (own D q n).length (oV 0 (own D q n)) q g E b0 b1 false false 2 (by decide) E.d2 g.x2 b0 b1 false false rfl rfl rfl h T hT K hK
   ·exact m3_b Y R X n k (own D q n).length (oV 0 (own D q n)) q g E b0 b1 false false 2 (by decide) E.d2 g.x2 b0 b1 false false rfl rfl rfl h h1 h3 T hT K hK
   ·rcases hs with h1 | h1
    ·exact m3_ct Y R X n k (own D q n).length (oV 0 (own D q n)) q g E b0 b1 false false 2 (by decide) E.d2 g.x2 b0 b1 true false rfl rfl rfl h h1 g1 g2 w hw hl T hT K hK
    ·exact m3_dt Y R X n k (own D q n).length (oV 0 (own D q n)) q g E b0 b1 false false 2 (by decide) E.d2 g.x2 b0 b1 true false rfl rfl rfl h h1 g1 g2 w hw hl T hT K hK
   ·rcases hs with h1 | h1
    ·exact m3_cf Y R X n k (own D q n).length (oV 0 (own D q n)) q g E b0 b1 false false 2 (by decide) E.d2 g.x2 b0 b1 false false rfl rfl rfl h h1 g1 g2 w hw hl T hT K hK
    ·exact m3_df Y R X n k (own D q n).length (oV 0 (own D q n)) q g E b0 b1 false false 2 (by decide) E.d2 g.x2 b0 b1 false false rfl rfl rfl h h1 g1 g2 w hw hl T hT K hK
  | 3, _ =>
   rcases c3 with ⟨h, rfl⟩ | ⟨h, h1, h3, rfl⟩ | ⟨h, w, hw, hs, ⟨hl, rfl⟩ | ⟨hl, rfl⟩⟩
   ·exact m3_a Y R X n k (own D q n).length (oV 0 (own D q n)) q g E b0 b1 b2 false 3 (by decide) E.d3 g.x3 b0 b1 b2 false rfl rfl rfl h T hT K hK
   ·exact m3_b Y R X n k (own D q n).length (oV 0 (own D q n)) q g E b0 b1 b2 false 3 (by decide) E.d3 g.x3 b0 b1 b2 false rfl rfl rfl h h1 h3 T hT K hK
   ·rcases hs with h1 | h1
    ·exact m3_ct Y R X n k (own D q n).length (oV 0 (own D q n)) q g E b0 b1 b2 false 3 (by decide) E.d3 g.x3 b0 b1 b2 true rfl rfl rfl h h1 g1 g2 w hw hl T hT K hK
    ·exact m3_dt Y R X n k (own D q n).length (oV 0 (own D q n)) q g E b0 b1 b2 false 3 (by decide) E.d3 g.x3 b0 b1 b2 true rfl rfl rfl h h1 g1 g2 w hw hl T hT K hK
   ·rcases hs with h1 | h1
    ·exact m3_cf Y R X n k (own D q n).length (oV 0 (own D q n)) q g E b0 b1 b2 false 3 (by decide) E.d3 g.x3 b0 b1 b2 false rfl rfl rfl h h1 g1 g2 w hw hl T hT K hK
    ·exact m3_df Y R X n k (own D q n).length (oV 0 (own D q n)) q g E b0 b1 b2 false 3 (by decide) E.d3 g.x3 b0 b1 b2 false rfl rfl rfl h h1 g1 g2 w hw hl T hT K hK
  | i + 4, h => omega
 ·intro Y T hT K hK
  exact m3_f Y R X n k (own D q n).length (oV 0 (own D q n)) q g E b0 b1 b2 b3 T hT K hK
theorem oV_len0 (L : List (Nat × Sp)) : (oV 0 L).length = L.length := oV_length L 0
theorem wf39 (L : List (Nat × Sp)) (s : Sp) : Con.wf ⟨[.map 0], [.map (oV 0 L) L.length false], s.v, [.map (oV 0 L) L.length false], []⟩ = true := by
 simp only [Con.wf, bels, V.bel, Con.p0, List.length_cons, List.length_nil, List.all_cons, List.all_nil, AObj.bel, ebels_oV, AObj.live, Bool.and_true, nodupN, Bool.and_self]
 rfl
def gOf (D : Dk) (q : Int) (n : Nat) : Sp := pick ((own D q n).map (·.2))
def madeA (g : Sp) (E : D4) (f0 f1 f2 f3 : Bool) : V := .tuple [.agg (mad g.a g.m g.l g.n g.r g.e g.p g.x0 g.x1 g.x2 g.x3 g.c E.d0 E.d1 E.d2 E.d3 f0 f1 f2 f3), .int .i64 0]
def makeV (D : Dk) (q : Int) (n : Nat) : V := if own D q n = [] then .tuple [.agg mad0, .int .i64 4] else
 madeA (gOf D q n) (dk D q (gOf D q n) n) (inB D (gOf D q n) (dk D q (gOf D q n) n) 0 (gOf D q n).x0) (inB D (gOf D q n) (dk D q (gOf D q n) n) 1 (gOf D q n).x1) (inB D (gOf D q n) (dk D q (gOf D q n) n) 2 (gOf D q n).x2) (inB D (gOf D q n) (dk D q (gOf D q n) n) 3 (gOf D q n).x3)
theorem ownOk {D : Dk} {R : List V → Option V} {X : List V} {n : Nat} (ok : DkOk D R X n) {q : Int} (h : own D q n ≠ []) : OwnOk (own D q n) :=
 ⟨h, Nat.le_trans own_len ok.le, own_inc, fun x hx => by
  obtain ⟨h1, h2, h3⟩ := mem_own.1 (show (x.1, x.2) ∈ own D q n from hx)
  rw [h3]; exact (ok.sp _ h1 h2.1).n⟩
theorem gOf_cases (D : Dk) (q : Int) (n : Nat) : gOf D q n = sp0 ∨ ∃ u, u < n ∧ isOwn D q u ∧ gOf D q n = D.sp u := by
 rcases pickF_or (maxE ((own D q n).map (·.2))) (wgtL ((own D q n).map (·.2))) ((own D q n).map (·.2)) sp0 with h | h
 ·exact .inl h
 ·obtain ⟨x, hx, h2⟩ := List.mem_map.1 h
  obtain ⟨h3, h4, h5⟩ := mem_own.1 (show (x.1, x.2) ∈ own D q n from hx)
  exact .inr ⟨x.1, h3, h4, by rw [← h5]; exact h2.symm⟩
theorem make_run (Y : Ys Prop) {D : Dk} {R : List V → Option V} {X : List V} {n : Nat} (ok : DkOk D R X n) (k : Nat) (q : Int) : body1D (callD pA tb23 (la23 R) 5) Y c23 [.slice 0 0 n k 2, .int .i64 q] (memO [.cells X false]) (endC ⟨[.slice 0 0 n k 2, .int .i64 q], [.cells X false], makeV D q n, [.cells X false], []⟩) := by
 by_cases h : own D q n = []
 ·rw [show makeV D q n = .tuple [.agg mad0, .int .i64 4] from if_pos h]
  have h1 := loop23 ok k q
  exact mk_n Y R X n k (own D q n).length (oV 0 (own D q n)) q ok.le h1 (by rw [oV_len0, h]; rfl)
 ·rw [show makeV D q n = _ from if_neg h]
  have hr : -1000 ≤ (gOf D q n).e ∧ (gOf D q n).e ≤ 4294967296 := by
   rcases gOf_cases D q n with e | ⟨u, h1, h2, e⟩
   ·rw [e]; decide
   ·rw [e]; have := ok.sp u h1 h2.1; exact ⟨by have := this.e1; omega, this.e2⟩
  have hS : S39 ⟨[.map 0], [.map (oV 0 (own D q n)) (own D q n).length false], (gOf D q n).v, [.map (oV 0 (own D q n)) (own D q n).length false], []⟩ := S39.mk (own D q n) (ownOk ok h)
  generalize gOf D q n = g at hr hS ⊢
  have hE := goodN (D := D) (q := q) (g := g) ok.sp n (Nat.le_refl n)
  have h2 := loop24 ok k q g
  generalize dk D q g n = E at hE h2 ⊢
  have h3 := loop25 ok k q g hr.1 hr.2 E hE
  exact mk_y Y R X n k (own D q n).length (oV 0 (own D q n)) q ok.le (loop23 ok k q) (by rw [oV_len0]; exact fun e => h (List.length_eq_zero_iff.1 e)) (fun f => erens_oV f _ 0) g E _ _ _ _ hS (wf39 _ _) h2 h3
end Go.Proofs.Ythmbmcpjakbepaa
