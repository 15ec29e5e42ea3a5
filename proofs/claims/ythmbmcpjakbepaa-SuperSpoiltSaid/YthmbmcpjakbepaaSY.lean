/- The law by its cases. No condition. -/
import Derived.Test.YthmbmcpjakbepaaSVa
namespace Go.Proofs.Ythmbmcpjakbepaa
open Go Go.AM
set_option maxRecDepth 100000
set_option maxHeartbeats 0
set_option linter.unusedVariables false
/-! SuperTurns' plain law. -/
section
variable {a m l n r e p x0 x1 x2 x3 c : Int}
theorem right_any (h : rightS a m l n r e p x0 x1 x2 x3 c = true) {E : Int} (h1 : 1 ≤ E) (h2 : E ≤ 2147483647) : rightS a m l n r E p x0 x1 x2 x3 c = true := by
  rw [rightS_eq, decide_eq_true_eq] at h ⊢
  unfold rightP at h ⊢
  obtain ⟨k1, k2, k3, k4, k5, k6, k7, k8⟩ := h
  exact ⟨k1, k2, k3, k4, k5, h1, h2, k8⟩
theorem errR_zz : errR zz ≠ 0 := by
  rw [errR_eq]
  have e : errV zz = 8 := by
    unfold errV
    rw [if_neg]
    rw [zz_eq]
    intro h
    have := h.2
    revert this
    decide
  omega
theorem of_zz : ofRs [.str zz, .str zz] = some (.tuple [sup 0 0 0 0 0 0 0 0 0 0 0 0, .int .i64 0, .bool false]) := by
  rw [ofRs_eq]; exact congrArg some (of0 ⟨errR_zz, errR_zz⟩).symm
theorem ofR_1 {z o : List Nat} (h : errR z = 0 ∧ (errR o ≠ 0 ∨ fld o 24 ≤ fld z 24)) (f4 : fld z 4 = a) (f8 : fld z 8 = m) (f12 : fld z 12 = l) (f16 : fld z 16 = n) (f20 : fld z 20 = r) (f24 : fld z 24 = e) (f28 : fld z 28 = p) (f36 : fld z 36 = x0) (f40 : fld z 40 = x1) (f44 : fld z 44 = x2) (f48 : fld z 48 = x3) (f32 : fld z 32 = c) :
    ofRs [.str z, .str o] = some (.tuple [sup a m l n r e p x0 x1 x2 x3 c, .int .i64 1, .bool true]) := by
  have e := of1 h
  rw [f4, f8, f12, f16, f20, f24, f28, f36, f40, f44, f48, f32] at e
  rw [ofRs_eq]; exact congrArg some e.symm
theorem ofR_2 {z o : List Nat} (h : ¬ (errR z = 0 ∧ (errR o ≠ 0 ∨ fld o 24 ≤ fld z 24)) ∧ errR o = 0) (f4 : fld o 4 = a) (f8 : fld o 8 = m) (f12 : fld o 12 = l) (f16 : fld o 16 = n) (f20 : fld o 20 = r) (f24 : fld o 24 = e) (f28 : fld o 28 = p) (f36 : fld o 36 = x0) (f40 : fld o 40 = x1) (f44 : fld o 44 = x2) (f48 : fld o 48 = x3) (f32 : fld o 32 = c) :
    ofRs [.str z, .str o] = some (.tuple [sup a m l n r e p x0 x1 x2 x3 c, .int .i64 0, .bool true]) := by
  have e := of2 h
  rw [f4, f8, f12, f16, f20, f24, f28, f36, f40, f44, f48, f32] at e
  rw [ofRs_eq]; exact congrArg some e.symm
theorem back_T (h : rightS a m l n r e p x0 x1 x2 x3 c = true) {E : Int} (h1 : 1 ≤ E) (h2 : E ≤ 2147483647) :
    errR (txtS a m l n r E p x0 x1 x2 x3 c) = 0 ∧ fld (txtS a m l n r E p x0 x1 x2 x3 c) 24 = E ∧ (∀ o, (errR o ≠ 0 ∨ fld o 24 ≤ E) → ofRs [.str (txtS a m l n r E p x0 x1 x2 x3 c), .str o] = some (.tuple [sup a m l n r E p x0 x1 x2 x3 c, .int .i64 1, .bool true]))
     ∧ ∀ z, errR z = 0 → fld z 24 < E → ofRs [.str z, .str (txtS a m l n r E p x0 x1 x2 x3 c)] = some (.tuple [sup a m l n r E p x0 x1 x2 x3 c, .int .i64 0, .bool true]) := by
  have hb := back_all (right_any h h1 h2)
  rw [← txtS_y (right_any h h1 h2)] at hb
  obtain ⟨e1, f4, f8, f12, f16, f20, f24, f28, f36, f40, f44, f48, f32⟩ := hb
  refine ⟨e1, f24, fun o ho => ofR_1 ⟨e1, by rw [f24]; exact ho⟩ f4 f8 f12 f16 f20 f24 f28 f36 f40 f44 f48 f32, fun z e2 hz => ofR_2 ⟨fun x => ?_, e1⟩ f4 f8 f12 f16 f20 f24 f28 f36 f40 f44 f48 f32⟩
  rcases x.2 with y | y
  · exact y e1
  · rw [f24] at y; omega
end
/-! The sum is linear, and none of its steps loses anything. -/
theorem xor_add : ∀ (k a b : Nat), a < 2 ^ k → a ^^^ (2 ^ k * b) = a + 2 ^ k * b := by
  intro k a b h
  have e1 : a + 2 ^ k * b = 2 ^ k * b + a := Nat.add_comm _ _
  rw [e1, Nat.two_pow_add_eq_or_of_lt h b, Nat.xor_comm]
  apply Nat.eq_of_testBit_eq
  intro i
  rw [Nat.testBit_xor, Nat.testBit_or, Nat.testBit_two_pow_mul]
  by_cases hi : k ≤ i
  · have : a.testBit i = false := Nat.testBit_lt_two_pow (Nat.lt_of_lt_of_le h (Nat.pow_le_pow_right (by decide) hi))
    simp [this]
  · simp [hi]
theorem crcBit_xor (x y : Nat) : crcBit (x ^^^ y) = crcBit x ^^^ crcBit y := by
  have e : ∀ n, crcBit n = (n / 2) ^^^ (if n % 2 = 1 then 3988292384 else 0) := by
    intro n
    unfold crcBit
    by_cases h : n % 2 = 1
    · rw [nbeqT h, cond_true, if_pos h]; rfl
    · rw [nbeqF h, cond_false, if_neg h, Nat.xor_zero]
  have hd : (x ^^^ y) / 2 = x / 2 ^^^ y / 2 := Nat.xor_div_two
  have hm : (x ^^^ y) % 2 = (x + y) % 2 := by
    have h := Nat.xor_mod_two_pow (a := x) (b := y) (n := 1)
    rw [show (2 : Nat) ^ 1 = 2 from rfl] at h
    rcases Nat.mod_two_eq_zero_or_one x with hx | hx <;> rcases Nat.mod_two_eq_zero_or_one y with hy | hy <;> rw [hx, hy] at h
    · have : (0 : Nat) ^^^ 0 = 0 := by decide
      omega
    · have : (0 : Nat) ^^^ 1 = 1 := by decide
      omega
    · have : (1 : Nat) ^^^ 0 = 1 := by decide
      omega
    · have : (1 : Nat) ^^^ 1 = 0 := by decide
      omega
  rw [e, e x, e y, hd, hm]
  rcases Nat.mod_two_eq_zero_or_one x with hx | hx <;> rcases Nat.mod_two_eq_zero_or_one y with hy | hy
  · rw [if_neg (by omega), if_neg (by omega), if_neg (by omega)]; simp
  · rw [if_pos (by omega), if_neg (by omega), if_pos (by omega)]; simp [Nat.xor_assoc]
  · rw [if_pos (by omega), if_pos (by omega), if_neg (by omega)]; simp only [Nat.xor_zero]; rw [Nat.xor_assoc, Nat.xor_assoc, Nat.xor_comm (y / 2)]
  · rw [if_neg (by omega), if_pos (by omega), if_pos (by omega)]
    rw [Nat.xor_zero, Nat.xor_assoc (x / 2), ← Nat.xor_assoc 3988292384, Nat.xor_comm 3988292384 (y / 2), Nat.xor_assoc (y / 2), Nat.xor_self, Nat.xor_zero]
theorem crcBits_xor : ∀ (k x y : Nat), crcBits k (x ^^^ y) = crcBits k x ^^^ crcBits k y
  | 0, _, _ => rfl
  | k + 1, x, y => by simp only [crcBits]; rw [crcBit_xor, crcBits_xor k]
theorem crcBit_zero {n : Nat} (h : n < 4294967296) (e : crcBit n = 0) : n = 0 := by
  unfold crcBit at e
  by_cases h2 : n % 2 = 1
  · rw [nbeqT h2, cond_true] at e
    have e' : n / 2 ^^^ 3988292384 = 0 := e
    have e2 : n / 2 = 3988292384 := by
      have : n / 2 ^^^ 3988292384 ^^^ 3988292384 = 0 ^^^ 3988292384 := by rw [e']
      rw [Nat.xor_assoc, Nat.xor_self, Nat.xor_zero, Nat.zero_xor] at this
      exact this
    omega
  · rw [nbeqF h2, cond_false] at e
    omega
theorem crcBits_zero : ∀ (k : Nat) {n : Nat}, n < 4294967296 → crcBits k n = 0 → n = 0
  | 0, _, _, e => e
  | k + 1, n, h, e => crcBit_zero h (crcBits_zero k (crcBit_lt h) e)
theorem crcBits_inj (k : Nat) {x y : Nat} (hx : x < 4294967296) (hy : y < 4294967296) (e : crcBits k x = crcBits k y) : x = y := by
  have h : crcBits k (x ^^^ y) = 0 := by rw [crcBits_xor, e, Nat.xor_self]
  have := crcBits_zero k (Nat.xor_lt_two_pow (n := 32) hx hy) h
  have h2 : x ^^^ y ^^^ y = 0 ^^^ y := by rw [this]
  rw [Nat.xor_assoc, Nat.xor_self, Nat.xor_zero, Nat.zero_xor] at h2
  exact h2
theorem crcBit_two (y : Nat) : crcBit (2 * y) = y := by
  unfold crcBit
  rw [nbeqF (by omega), cond_false]; omega
theorem crcBits_256 (y : Nat) : crcBits 8 (256 * y) = y := by
  simp only [crcBits]
  rw [show 256 * y = 2 * (128 * y) by omega, crcBit_two, show 128 * y = 2 * (64 * y) by omega, crcBit_two, show 64 * y = 2 * (32 * y) by omega, crcBit_two, show 32 * y = 2 * (16 * y) by omega, crcBit_two,
    show 16 * y = 2 * (8 * y) by omega, crcBit_two, show 8 * y = 2 * (4 * y) by omega, crcBit_two, show 4 * y = 2 * (2 * y) by omega, crcBit_two, crcBit_two]
abbrev L8 (n : Nat) : Nat := crcBits 8 n
theorem L8_byte (x y : Nat) : L8 x ^^^ y = L8 (x ^^^ 256 * y) := by
  show crcBits 8 x ^^^ y = crcBits 8 (x ^^^ 256 * y)
  rw [crcBits_xor, crcBits_256]
def word (a b c d : Nat) : Nat := a ^^^ (256 * (b ^^^ (256 * (c ^^^ (256 * d)))))
theorem mul_xor (a b : Nat) : 256 * (a ^^^ b) = 256 * a ^^^ 256 * b := by
  have h := Nat.shiftLeft_xor_distrib (a := a) (b := b) (i := 8)
  rw [Nat.shiftLeft_eq, Nat.shiftLeft_eq, Nat.shiftLeft_eq, Nat.mul_comm _ (2 ^ 8), Nat.mul_comm _ (2 ^ 8), Nat.mul_comm _ (2 ^ 8)] at h
  exact h
theorem crcL_four (n a b c d : Nat) : crcL n [a, b, c, d] = L8 (L8 (L8 (L8 (n ^^^ word a b c d)))) := by
  show L8 (L8 (L8 (L8 (n ^^^ a) ^^^ b) ^^^ c) ^^^ d) = _
  rw [L8_byte (L8 (L8 (n ^^^ a) ^^^ b) ^^^ c) d, Nat.xor_assoc _ c, L8_byte (L8 (n ^^^ a) ^^^ b), Nat.xor_assoc _ b, L8_byte (n ^^^ a), Nat.xor_assoc n]
  rfl
theorem word_eq {a b c d : Nat} (ha : a < 256) (hb : b < 256) (hc : c < 256) : word a b c d = a + b * 256 + c * 65536 + d * 16777216 := by
  unfold word
  have h1 := xor_add 8 c d hc
  have h2 := xor_add 8 b (c + 2 ^ 8 * d) hb
  have h3 := xor_add 8 a (b + 2 ^ 8 * (c + 2 ^ 8 * d)) ha
  simp only [show (2 : Nat) ^ 8 = 256 from rfl] at h1 h2 h3
  rw [h1, h2, h3]
  omega
theorem crcL_app : ∀ (a b : List Nat) (n : Nat), crcL n (a ++ b) = crcL (crcL n a) b
  | [], _, _ => rfl
  | x :: a, b, n => crcL_app a b _
theorem crcL_inj : ∀ (l : List Nat) {n m : Nat}, (∀ b ∈ l, b < 256) → n < 4294967296 → m < 4294967296 → crcL n l = crcL m l → n = m
  | [], _, _, _, _, _, e => e
  | b :: l, n, m, hl, hn, hm, e => by
    have hb : b < 4294967296 := by have := hl b List.mem_cons_self; omega
    have hl' : ∀ c ∈ l, c < 256 := fun c hc => hl c (List.mem_cons_of_mem _ hc)
    have x1 : n ^^^ b < 4294967296 := Nat.xor_lt_two_pow (n := 32) hn hb
    have x2 : m ^^^ b < 4294967296 := Nat.xor_lt_two_pow (n := 32) hm hb
    have := crcBits_inj 8 x1 x2 (crcL_inj l hl' (crcBits_lt 8 x1) (crcBits_lt 8 x2) e)
    have h2 : n ^^^ b ^^^ b = m ^^^ b ^^^ b := by rw [this]
    rw [Nat.xor_assoc, Nat.xor_self, Nat.xor_zero, Nat.xor_assoc, Nat.xor_self, Nat.xor_zero] at h2
    exact h2
/-- A sector that is a superblock's comes to one and the same. -/
theorem residue {t : List Nat} (hb : ∀ b ∈ t, b < 256) (he : errR t = 0) : crcL 4294967295 t = L8 (L8 (L8 (L8 4294967295))) := by
  rw [errR_eq] at he
  unfold errV at he
  split at he
  · rename_i h1
    split at he
    · rename_i h2
      have e : t = t.take 60 ++ t.drop 60 := (List.take_append_drop 60 t).symm
      have hd : (t.drop 60).length = 4 := by rw [List.length_drop, h1.1]
      have hbt : ∀ b ∈ t.take 60, b < 256 := fun b h => hb b (List.mem_of_mem_take h)
      have g : ∀ i, (t.drop 60).getD i 0 = t.getD (60 + i) 0 := fun i => by simp [List.getD_eq_getElem?_getD, List.getElem?_drop]
      have hdb : ∀ b ∈ t.drop 60, b < 256 := fun b h => hb b (List.mem_of_mem_drop h)
      generalize hD : t.drop 60 = D at *
      match D, hd with
      | [c0, c1, c2, c3], _ =>
        have q0 := g 0; have q1 := g 1; have q2 := g 2; have q3 := g 3
        have k0 := hdb c0 (by simp); have k1 := hdb c1 (by simp); have k2 := hdb c2 (by simp)
        have hw : num t 60 = word c0 c1 c2 c3 := by
          rw [word_eq k0 k1 k2]
          unfold num
          rw [← q0, ← q1, ← q2, ← q3]; rfl
        have hs : sumT (t.take 60) = 4294967295 ^^^ crcL 4294967295 (t.take 60) := by
          rw [sumT_eq]; exact Nat.mod_eq_of_lt (sumOf_lt hbt)
        rw [e, crcL_app, crcL_four, ← hw, h2, hs]
        rw [Nat.xor_comm 4294967295, ← Nat.xor_assoc, Nat.xor_self, Nat.zero_xor]
    · exact absurd he (by decide)
  · exact absurd he (by decide)
theorem spoilt {P S : List Nat} {a b c d a' b' c' d' : Nat} (h1 : ∀ x ∈ P ++ (a :: b :: c :: d :: S), x < 256) (h2 : ∀ x ∈ P ++ (a' :: b' :: c' :: d' :: S), x < 256) (e1 : errR (P ++ (a :: b :: c :: d :: S)) = 0) (e2 : errR (P ++ (a' :: b' :: c' :: d' :: S)) = 0) :
    a = a' ∧ b = b' ∧ c = c' ∧ d = d' := by
  have r1 := residue h1 e1
  have r2 := residue h2 e2
  rw [← r2] at r1
  rw [crcL_app, crcL_app, show a :: b :: c :: d :: S = [a, b, c, d] ++ S from rfl, show a' :: b' :: c' :: d' :: S = [a', b', c', d'] ++ S from rfl, crcL_app, crcL_app] at r1
  have m : ∀ {x : Nat} {l : List Nat}, x ∈ l → x ∈ P ++ l := fun h => List.mem_append_right _ h
  have ka := h1 a (m (by simp)); have kb := h1 b (m (by simp)); have kc := h1 c (m (by simp)); have kd := h1 d (m (by simp))
  have ka' := h2 a' (m (by simp)); have kb' := h2 b' (m (by simp)); have kc' := h2 c' (m (by simp)); have kd' := h2 d' (m (by simp))
  have hS : ∀ x ∈ S, x < 256 := fun x hx => h1 x (m (by simp [hx]))
  have hP : ∀ x ∈ P, x < 256 := fun x hx => h1 x (List.mem_append_left _ hx)
  have hn := crcL_lt P (n := 4294967295) (by decide) hP
  generalize crcL 4294967295 P = n at *
  have w1 : word a b c d < 4294967296 := by rw [word_eq ka kb kc]; omega
  have w2 : word a' b' c' d' < 4294967296 := by rw [word_eq ka' kb' kc']; omega
  have r3 := crcL_inj S hS (crcL_lt [a, b, c, d] hn (by intro x hx; exact h1 x (m (by simp at hx ⊢; rcases hx with h | h | h | h <;> simp [h])))) (crcL_lt [a', b', c', d'] hn (by intro x hx; exact h2 x (m (by simp at hx ⊢; rcases hx with h | h | h | h <;> simp [h])))) r1
  rw [crcL_four, crcL_four] at r3
  have y1 : n ^^^ word a b c d < 4294967296 := Nat.xor_lt_two_pow (n := 32) hn w1
  have y2 : n ^^^ word a' b' c' d' < 4294967296 := Nat.xor_lt_two_pow (n := 32) hn w2
  have q : n ^^^ word a b c d = n ^^^ word a' b' c' d' :=
    crcBits_inj 8 y1 y2 (crcBits_inj 8 (crcBits_lt 8 y1) (crcBits_lt 8 y2) (crcBits_inj 8 (crcBits_lt 8 (crcBits_lt 8 y1)) (crcBits_lt 8 (crcBits_lt 8 y2)) (crcBits_inj 8 (crcBits_lt 8 (crcBits_lt 8 (crcBits_lt 8 y1))) (crcBits_lt 8 (crcBits_lt 8 (crcBits_lt 8 y2))) r3)))
  have h : word a b c d = word a' b' c' d' := by
    have : n ^^^ (n ^^^ word a b c d) = n ^^^ (n ^^^ word a' b' c' d') := by rw [q]
    rw [← Nat.xor_assoc, ← Nat.xor_assoc, Nat.xor_self, Nat.zero_xor, Nat.zero_xor] at this
    exact this
  rw [word_eq ka kb kc, word_eq ka' kb' kc'] at h
  omega
/-! Bytes in memory. -/
theorem vB_app : ∀ (p q : List Nat), vBytes (p ++ q) = vBytes p ++ vBytes q
  | [], _ => rfl
  | a :: p, q => congrArg _ (vB_app p q)
theorem nth_at {α : Type} : ∀ (p q : List α) (i : Nat), nth (p ++ q) (p.length + i) = nth q i
  | [], q, i => by simp
  | a :: p, q, i => by
    rw [List.length_cons, show p.length + 1 + i = p.length + i + 1 by omega]
    exact nth_at p q i
theorem put_at (x : V) : ∀ (p q r : List V) (i : Nat), putAt [x] i q = some r → putAt [x] (p.length + i) (p ++ q) = some (p ++ r)
  | [], q, r, i, h => by simpa using h
  | a :: p, q, r, i, h => by
    rw [List.length_cons, show p.length + 1 + i = p.length + i + 1 by omega]
    have := put_at x p q r i h
    simp only [List.cons_append, putAt, this]
theorem vB_len : ∀ (t : List Nat), (vBytes t).length = t.length
  | [] => rfl
  | _ :: t => congrArg (· + 1) (vB_len t)
theorem take_vB : ∀ (t : List Nat), takeN t.length (vBytes t) = some (vBytes t)
  | [] => rfl
  | a :: t => by simp only [List.length_cons, vBytes, takeN, take_vB t]
theorem bytes_vB : ∀ (t : List Nat), (∀ b ∈ t, b < 256) → bytesV (vBytes t) = some t
  | [], _ => rfl
  | a :: t, h => by
    have ha := h a List.mem_cons_self
    simp only [vBytes, bytesV, bytes_vB t (fun b hb => h b (List.mem_cons_of_mem _ hb)), Nat.mod_eq_of_lt ha]
theorem b2s_vB {t : List Nat} {n : Nat} (hn : n = t.length) (h : ∀ b ∈ t, b < 256) : b2sV 0 n (vBytes t) = some (.str t) := by
  subst hn
  simp only [b2sV, dropN, take_vB, bytes_vB t h]
theorem recZ_lt {a m l n r e p x0 x1 x2 x3 c : Int} : ∀ b ∈ recZ a m l n r e p x0 x1 x2 x3 c, b < 256 := by
  have f4 : ∀ n, n < 4294967296 → ∀ b ∈ four n, b < 256 := by
    intro n hn b hb
    simp only [four, List.mem_cons, List.not_mem_nil, or_false] at hb
    rcases hb with h | h | h | h <;> omega
  rw [recZ_eq]
  intro b hb
  unfold recL bodyL at hb
  simp only [List.mem_append] at hb
  have hz : b ∈ [0, 0, 0, 0, 0, 0, 0, 0] → b < 256 := by intro h; simp at h; omega
  have hg : b ∈ [66, 89, 83, 1] → b < 256 := by intro h; simp at h; omega
  rcases hb with (h | h | h | h | h | h | h | h | h | h | h | h | h | h) | h
  · exact hg h
  · exact f4 _ (toU_lt _) b h
  · exact f4 _ (toU_lt _) b h
  · exact f4 _ (toU_lt _) b h
  · exact f4 _ (toU_lt _) b h
  · exact f4 _ (toU_lt _) b h
  · exact f4 _ (toU_lt _) b h
  · exact f4 _ (toU_lt _) b h
  · exact f4 _ (toU_lt _) b h
  · exact f4 _ (toU_lt _) b h
  · exact f4 _ (toU_lt _) b h
  · exact f4 _ (toU_lt _) b h
  · exact f4 _ (toU_lt _) b h
  · exact hz h
  · exact f4 _ (sumT_lt _) b h
theorem eqv4 (z0 z1 z2 z3 : Nat) : eqvV false (.many [.int, .int, .int, .int]) (.agg [.int .u8 ((z0 : Nat) : Int), .int .u8 ((z1 : Nat) : Int), .int .u8 ((z2 : Nat) : Int), .int .u8 ((z3 : Nat) : Int)]) (.agg [.int .u8 0, .int .u8 0, .int .u8 0, .int .u8 0])
    = some (.bool (decide (z0 = 0 ∧ z1 = 0 ∧ z2 = 0 ∧ z3 = 0))) := by
  have e : ∀ z : Nat, eqS .int (.int .u8 ((z : Nat) : Int)) (.int .u8 0) = some (decide (z = 0)) := by
    intro z
    simp only [eqS, kindEq_self, cond_true, eqI_eq]
    congr 1
    exact decide_eq_decide.2 (by omega)
  simp only [eqvV, keyEq, eqCells, e]
  by_cases h0 : z0 = 0 <;> by_cases h1 : z1 = 0 <;> by_cases h2 : z2 = 0 <;> by_cases h3 : z3 = 0 <;> simp [h0, h1, h2, h3]
theorem split4 {t : List Nat} {k : Nat} (hk : k + 4 ≤ t.length) : ∃ P a b c d S, t = P ++ (a :: b :: c :: d :: S) ∧ P.length = k := by
  have h : (t.drop k).length = t.length - k := List.length_drop
  match e : t.drop k with
  | [] => rw [e] at h; simp at h; omega
  | [_] => rw [e] at h; simp at h; omega
  | [_, _] => rw [e] at h; simp at h; omega
  | [_, _, _] => rw [e] at h; simp at h; omega
  | a :: b :: c :: d :: S => exact ⟨t.take k, a, b, c, d, S, by rw [← e]; exact (List.take_append_drop k t).symm, by rw [List.length_take]; omega⟩
theorem spoilt_walk (Y : Ys Prop) (a m l n r e p x0 x1 x2 x3 c q : Int) (z0 z1 z2 z3 : Nat) (y0 : z0 < 256) (y1 : z1 < 256) (y2 : z2 < 256) (y3 : z3 < 256) (K : V → Mem → Prop) (hK : ∀ mm, K (.bool true) mm) :
    body1 pA (callD pA tb0 la9 5) Y c6 [sup a m l n r e p x0 x1 x2 x3 c, .int .i64 q, .agg [.int .u8 ((z0 : Nat) : Int), .int .u8 ((z1 : Nat) : Int), .int .u8 ((z2 : Nat) : Int), .int .u8 ((z3 : Nat) : Int)]] ⟨0, .leaf⟩ K := by
  cases g : rightS a m l n r e p x0 x1 x2 x3 c with
  | false => exact spoilt_n Y a m l n r e p x0 x1 x2 x3 c q z0 z1 z2 z3 (errS_n g) K hK
  | true =>
    have eq := eqv4 z0 z1 z2 z3
    by_cases hz : z0 = 0 ∧ z1 = 0 ∧ z2 = 0 ∧ z3 = 0
    · rw [decide_eq_true hz] at eq
      exact spoilt_z Y a m l n r e p x0 x1 x2 x3 c q z0 z1 z2 z3 (errS_y g) eq K hK
    · rw [decide_eq_false hz] at eq
      have hb := back_all g
      have hl := recZ_len (a := a) (m := m) (l := l) (n := n) (r := r) (e := e) (p := p) (x0 := x0) (x1 := x1) (x2 := x2) (x3 := x3) (c := c)
      have hlt := recZ_lt (a := a) (m := m) (l := l) (n := n) (r := r) (e := e) (p := p) (x0 := x0) (x1 := x1) (x2 := x2) (x3 := x3) (c := c)
      have ht := txtS_y g
      have e1 := hb.1
      clear hb
      generalize recZ a m l n r e p x0 x1 x2 x3 c = t at hl hlt ht e1
      have main : ∀ k : Nat, k ≤ 60 → ∃ (t1 t2 t3 t4 : List Nat) (b0 b1 b2 b3 : Nat), b0 < 256 ∧ b1 < 256 ∧ b2 < 256 ∧ b3 < 256
          ∧ nth (vBytes t) (k + 0) = some (.int .u8 ((b0 : Nat) : Int)) ∧ putAt [.int .u8 ((b0 ^^^ z0 : Nat) : Int)] (k + 0) (vBytes t) = some (vBytes t1)
          ∧ nth (vBytes t1) (k + 1) = some (.int .u8 ((b1 : Nat) : Int)) ∧ putAt [.int .u8 ((b1 ^^^ z1 : Nat) : Int)] (k + 1) (vBytes t1) = some (vBytes t2)
          ∧ nth (vBytes t2) (k + 2) = some (.int .u8 ((b2 : Nat) : Int)) ∧ putAt [.int .u8 ((b2 ^^^ z2 : Nat) : Int)] (k + 2) (vBytes t2) = some (vBytes t3)
          ∧ nth (vBytes t3) (k + 3) = some (.int .u8 ((b3 : Nat) : Int)) ∧ putAt [.int .u8 ((b3 ^^^ z3 : Nat) : Int)] (k + 3) (vBytes t3) = some (vBytes t4)
          ∧ b2sV 0 (List.length t) (vBytes t4) = some (.str t4) ∧ errR t4 ≠ 0 := by
        intro k hk
        obtain ⟨P, b0, b1, b2, b3, S, rfl, rfl⟩ := split4 (t := t) (k := k) (by omega)
        have m : ∀ {x : Nat} {l : List Nat}, x ∈ l → x ∈ P ++ l := fun h => List.mem_append_right _ h
        have w0 := hlt b0 (m (by simp)); have w1 := hlt b1 (m (by simp)); have w2 := hlt b2 (m (by simp)); have w3 := hlt b3 (m (by simp))
        have u0 : b0 ^^^ z0 < 256 := Nat.xor_lt_two_pow (n := 8) w0 y0
        have u1 : b1 ^^^ z1 < 256 := Nat.xor_lt_two_pow (n := 8) w1 y1
        have u2 : b2 ^^^ z2 < 256 := Nat.xor_lt_two_pow (n := 8) w2 y2
        have u3 : b3 ^^^ z3 < 256 := Nat.xor_lt_two_pow (n := 8) w3 y3
        have hlt4 : ∀ x ∈ P ++ ((b0 ^^^ z0) :: (b1 ^^^ z1) :: (b2 ^^^ z2) :: (b3 ^^^ z3) :: S), x < 256 := by
          intro x hx
          rcases List.mem_append.1 hx with h | h
          · exact hlt x (List.mem_append_left _ h)
          · simp only [List.mem_cons] at h
            rcases h with h | h | h | h | h
            · rw [h]; exact u0
            · rw [h]; exact u1
            · rw [h]; exact u2
            · rw [h]; exact u3
            · exact hlt x (m (by simp [h]))
        have hv := vB_len P
        refine ⟨P ++ ((b0 ^^^ z0) :: b1 :: b2 :: b3 :: S), P ++ ((b0 ^^^ z0) :: (b1 ^^^ z1) :: b2 :: b3 :: S), P ++ ((b0 ^^^ z0) :: (b1 ^^^ z1) :: (b2 ^^^ z2) :: b3 :: S), P ++ ((b0 ^^^ z0) :: (b1 ^^^ z1) :: (b2 ^^^ z2) :: (b3 ^^^ z3) :: S), b0, b1, b2, b3, w0, w1, w2, w3, ?_, ?_, ?_, ?_, ?_, ?_, ?_, ?_, ?_, ?_⟩
        · rw [vB_app, ← hv, nth_at]; rfl
        · rw [vB_app, vB_app, ← hv]; exact put_at _ _ _ _ _ rfl
        · rw [vB_app, ← hv, nth_at]; rfl
        · rw [vB_app, vB_app, ← hv]; exact put_at _ _ _ _ _ rfl
        · rw [vB_app, ← hv, nth_at]; rfl
        · rw [vB_app, vB_app, ← hv]; exact put_at _ _ _ _ _ rfl
        · rw [vB_app, ← hv, nth_at]; rfl
        · rw [vB_app, vB_app, ← hv]; exact put_at _ _ _ _ _ rfl
        · exact b2s_vB (by simp) hlt4
        · intro h
          obtain ⟨g0, g1, g2, g3⟩ := spoilt hlt hlt4 e1 h
          have x0 : ∀ {b z : Nat}, b = b ^^^ z → z = 0 := by
            intro b z h
            have : b ^^^ b = b ^^^ (b ^^^ z) := by rw [← h]
            rw [Nat.xor_self, ← Nat.xor_assoc, Nat.xor_self, Nat.zero_xor] at this
            exact this.symm
          exact hz ⟨x0 g0, x0 g1, x0 g2, x0 g3⟩
      have ofz : ∀ t4, errR t4 ≠ 0 → ofRs [.str t4, .str zz] = some (.tuple [sup 0 0 0 0 0 0 0 0 0 0 0 0, .int .i64 0, .bool false]) := fun t4 h => by
        rw [ofRs_eq]; exact congrArg some (of0 ⟨h, errR_zz⟩).symm
      by_cases hq : 0 ≤ Int.tmod q 61
      · have hlq : Int.tmod q 61 < 61 := by have := Int.tmod_lt_of_pos q (b := 61) (by decide); omega
        obtain ⟨k, hk⟩ := Int.eq_ofNat_of_zero_le hq
        obtain ⟨t1, t2, t3, t4, b0, b1, b2, b3, w0, w1, w2, w3, n0, s0, n1, s1, n2, s2, n3, s3, f4, ne⟩ := main k (by omega)
        exact spoilt_p Y a m l n r e p x0 x1 x2 x3 c q z0 z1 z2 z3 (errS_y g) eq t t1 t2 t3 t4 k b0 b1 b2 b3 ht hl (by omega) w0 y0 n0 s0 w1 y1 n1 s1 w2 y2 n2 s2 w3 y3 n3 s3 f4 ne (ofz t4 ne) hk K hK
      · have hlq : -61 < Int.tmod q 61 := by have := Int.lt_tmod_of_pos q (b := 61) (by decide); omega
        obtain ⟨k, hk⟩ := Int.eq_ofNat_of_zero_le (a := Int.tmod q 61 + 64 - 3) (by omega)
        obtain ⟨t1, t2, t3, t4, b0, b1, b2, b3, w0, w1, w2, w3, n0, s0, n1, s1, n2, s2, n3, s3, f4, ne⟩ := main k (by omega)
        exact spoilt_m Y a m l n r e p x0 x1 x2 x3 c q z0 z1 z2 z3 (errS_y g) eq t t1 t2 t3 t4 k b0 b1 b2 b3 ht hl (by omega) w0 y0 n0 s0 w1 y1 n1 s1 w2 y2 n2 s2 w3 y3 n3 s3 f4 ne (ofz t4 ne) _ (by omega) (by omega) rfl hk K hK
section
variable {P : Program}
variable (hmix : P.follows .mixedOrders = true)
include hmix
theorem la10_ok (h6 : LastOk P la6 id) (o20 : FOk P 20 c20) (o22 : FOk P 22 c22) : LastOk P la10 id := by
  have l1 : LastOk P (lastFn 20 ofRs la6) id := lastFn_ok (callable_fok o20) (fun ρ args args' v hv ha => by
    rw [ofRs_eq] at hv
    unfold ofR at hv; split at hv
    · cases hv; exact answers_of_walk hmix o20 (callD_sound pHolds hmix tb0_ok h6 5) ha rfl rfl (fun K hK => sof_r _ _ _ K hK)
    · cases hv) h6
  exact lastFn_ok (callable_fok o22) (fun ρ args args' v hv ha => by
    unfold zerR at hv; split at hv
    · cases hv; exact answers_of_walk hmix o22 (callD_sound pHolds hmix tb0_ok la0_ok 5) ha rfl rfl (fun K hK => zeros _ K hK)
    · cases hv) l1
end

end Go.Proofs.Ythmbmcpjakbepaa
