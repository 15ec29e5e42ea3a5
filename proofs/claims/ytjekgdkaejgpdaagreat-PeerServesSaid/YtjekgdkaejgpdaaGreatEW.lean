/- Readers of texts: runs by script. No condition. -/
import Derived.Test.YtjekgdkaejgpdaaGreatPA
import Derived.Test.YtjekgdkaejgpdaaGreatAM50
import Derived.Test.YtjekgdkaejgpdaaGreatAM36
namespace Go.Proofs.YtjekgdkaejgpdaaGreat
open Go Go.AM
set_option maxRecDepth 100000
set_option maxHeartbeats 0
set_option linter.unusedVariables false
set_option linter.unusedSectionVars false
abbrev vq (n : Int) : V := .int .u64 n
abbrev vh (n : Int) : V := .int .u16 n
abbrev EK : Type := Ex → zAa → Mem → Prop
abbrev hKt (K : Ex → zAa → Mem → Prop) (e : Ex) (l : List (Sl × V)) (m : Mem) : Prop := ∀ T', zAG T' l → K e T' m
abbrev xD : Prop := rR (some zAe.dead)
abbrev wt (n : Nat) (s : Sc) : Sc := .wait n s
abbrev bT : V := .bool true
abbrev bF : V := .bool false
theorem cq {a b : Int} (h : a = b) : V.int .u64 a = V.int .u64 b := congrArg _ h
theorem cj {a b : Int} (h : a = b) : V.int .u16 a = V.int .u16 b := congrArg _ h
theorem nn {a b : Bool} (h : a = b) : (!a) = !b := congrArg _ h
abbrev fnP (L : CF Prop) (f : Nat) (a : List V) (r : V) : Prop := ∀ (m' : Mem) (K' : V → Mem → Prop), L (.func (.func f) [] []) a m' K' = Lay.go (Lay.plain r) m' K'
def oldS : List zAe → Prop
  | [] => True
  | o :: l => some o = some o ∧ oldS l
def newS : List (Nat × zAe) → Prop
  | [] => True
  | x :: l => some x.2 = some x.2 ∧ newS l
def zDy (C : Con) : Prop := C.ans = C.ans ∧ oldS C.old ∧ newS C.new
theorem oldS_ok : ∀ l : List zAe, oldS l
  | [] => trivial
  | _ :: l => ⟨rfl, oldS_ok l⟩
theorem newS_ok : ∀ l : List (Nat × zAe), newS l
  | [] => trivial
  | _ :: l => ⟨rfl, newS_ok l⟩
theorem zAI (C : Con) : zDy C := ⟨rfl, oldS_ok _, newS_ok _⟩
abbrev y7 (x0 x1 x2 x3 x4 x5 x6 : zAe) : Mem := zCc 7 [(0, x0), (1, x1), (2, x2), (3, x3), (4, x4), (5, x5), (6, x6)]
abbrev y8 (x0 x1 x2 x3 x4 x5 x6 x7 : zAe) : Mem := zCc 8 [(0, x0), (1, x1), (2, x2), (3, x3), (4, x4), (5, x5), (6, x6), (7, x7)]
abbrev y9 (x0 x1 x2 x3 x4 x5 x6 x7 x8 : zAe) : Mem := zCc 9 [(0, x0), (1, x1), (2, x2), (3, x3), (4, x4), (5, x5), (6, x6), (7, x7), (8, x8)]
abbrev y12 (x0 x1 x2 x3 x4 x5 x6 x7 x8 x9 x10 x11 : zAe) : Mem := zCc 12 [(0, x0), (1, x1), (2, x2), (3, x3), (4, x4), (5, x5), (6, x6), (7, x7), (8, x8), (9, x9), (10, x10), (11, x11)]
abbrev y21 (x0 x1 x2 x3 x4 x5 x6 x7 x8 x9 x10 x11 x12 x13 x14 x15 x16 x17 x18 x19 x20 : zAe) : Mem := zCc 21 [(0, x0), (1, x1), (2, x2), (3, x3), (4, x4), (5, x5), (6, x6), (7, x7), (8, x8), (9, x9), (10, x10), (11, x11), (12, x12), (13, x13), (14, x14), (15, x15), (16, x16), (17, x17), (18, x18), (19, x19), (20, x20)]
abbrev y22 (x0 x1 x2 x3 x4 x5 x6 x7 x8 x9 x10 x11 x12 x13 x14 x15 x16 x17 x18 x19 x20 x21 : zAe) : Mem := zCc 22 [(0, x0), (1, x1), (2, x2), (3, x3), (4, x4), (5, x5), (6, x6), (7, x7), (8, x8), (9, x9), (10, x10), (11, x11), (12, x12), (13, x13), (14, x14), (15, x15), (16, x16), (17, x17), (18, x18), (19, x19), (20, x20), (21, x21)]
abbrev y23 (x0 x1 x2 x3 x4 x5 x6 x7 x8 x9 x10 x11 x12 x13 x14 x15 x16 x17 x18 x19 x20 x21 x22 : zAe) : Mem := zCc 23 [(0, x0), (1, x1), (2, x2), (3, x3), (4, x4), (5, x5), (6, x6), (7, x7), (8, x8), (9, x9), (10, x10), (11, x11), (12, x12), (13, x13), (14, x14), (15, x15), (16, x16), (17, x17), (18, x18), (19, x19), (20, x20), (21, x21), (22, x22)]
abbrev y24 (x0 x1 x2 x3 x4 x5 x6 x7 x8 x9 x10 x11 x12 x13 x14 x15 x16 x17 x18 x19 x20 x21 x22 x23 : zAe) : Mem := zCc 24 [(0, x0), (1, x1), (2, x2), (3, x3), (4, x4), (5, x5), (6, x6), (7, x7), (8, x8), (9, x9), (10, x10), (11, x11), (12, x12), (13, x13), (14, x14), (15, x15), (16, x16), (17, x17), (18, x18), (19, x19), (20, x20), (21, x21), (22, x22), (23, x23)]
noncomputable section
abbrev la0 : CF Prop := fun _ _ _ _ => False
theorem orb {n b : Nat} (h : b < 256) (h2 : n < 72057594037927936) : (n * 256 ||| b) % 18446744073709551616 = n * 256 + b := by
  have e : n * 256 ||| b = n * 256 + b := by
    have := Nat.two_pow_add_eq_or_of_lt (i := 8) h n
    rw [show (2 : Nat) ^ 8 = 256 from rfl, Nat.mul_comm] at this
    exact this.symm
  rw [e]; omega
abbrev tb39 : Nat → Option zAr := fun f => bif Nat.beq f 88 then some c88 else bif Nat.beq f 89 then some c89 else none
abbrev tb51 : Nat → Option zAr := fun f => bif Nat.beq f 48 then some c48 else bif Nat.beq f 76 then some c76 else none
abbrev tb0 : Nat → Option zAr := fun _ => none
abbrev nu_s_Qa (s : List Nat) (l i n : Nat) : List (Sl × V) := [(s0, V.str s), (s3, vq ↑n), (s6, vi ↑l), (s7, vi ↑i)]
abbrev nu_s_Qb (s : List Nat) (l i n b : Nat) : List (Sl × V) := [(s0, V.str s), (s3, vq ↑(n * 256 + b)), (s6, vi ↑l), (s7, vi ↑(i + 1))]
abbrev zHp (s : List Nat) (l n : Nat) : List (Sl × V) := [(s0, V.str s), (s3, vq ↑n), (s6, vi ↑l), (s7, vi ↑l)]
abbrev nu_w_Qa (s : List Nat) : List (Sl × V) := [(s0, V.str s), (s3, vq ↑0), (s6, vi ↑s.length), (s7, vi ↑0)]
abbrev nu_w_Qb (s : List Nat) (n : Nat) : List (Sl × V) := [(s0, V.str s), (s3, vq ↑n), (s6, vi ↑s.length), (s7, vi ↑s.length)]
abbrev nu_w_Qc (s : List Nat) (n : Nat) : Prop := zDc (zAt pA tb0 la0 5) c107l0 (Ex.exit 0) (zCc 0 []) (nu_w_Qa s) (zCc 0 []) (nu_w_Qb s n)
section
variable (Y : Ys Prop) (s : List Nat)
include Y s
theorem nu_s (l i n b : Nat) (hl : l ≤ 8) (hi : i < l) (hn : n < 72057594037927936) (hb : b < 256) (h : nth s i = some b) (T : zAa) (hT : zAG T (nu_s_Qa s l i n)) (K : EK) (hK : hKt K .normal (nu_s_Qb s l i n b) (zCc 0 [])) :
   code pA (zAt pA tb0 la0 5) Y c107l0 T (zCc 0 []) K :=
  zAf (zAc) (zCa (nu_s_Qa s l i n) (wt 1 (.fix s8 bT (wt 7 (.res (vy ↑b) (wt 1 (.fix s11 (vq ↑(n * 256)) (.fix s15 (vq ↑b) (wt 1 (.fix s16 (vq ↑(n * 256 + b)) (wt 2 (.fix s17 (vi ↑(i + 1)) .nil))))))))))))
  (show (zBU T (nu_s_Qa s l i n) (vb (ltI ↑i ↑l) = bT ∧ idxSV (s) (vi ↑i) = some (vy ↑b) ∧ vq (wr IntKind.u64 (↑n * Int.ofNat (2 ^ min (Int.toNat 8) (IntKind.bits IntKind.u64)))) = vq ↑(n * 256) ∧ vq ↑(b % 18446744073709551616) = vq ↑b ∧ vq ↑((toU IntKind.u64 ↑(n * 256) ||| toU IntKind.u64 ↑b) % 18446744073709551616) = vq ↑(n * 256 + b) ∧ vi (wr IntKind.i64 (zCe (↑i) 1)) = vi ↑(i + 1) ∧ rR Ex.normal ∧ rR (zCc 0 []) ∧ zBY (nu_s_Qb s l i n b))) from
  zBW hT ⟨cb (ltT rfl rfl (by omega)), (idxS_ok (i := i) rfl h), (cq (zBH (hmulN (a := n) (b := 256) rfl rfl) (by omega) (by omega))), (cq (zBc (zAP rfl (by omega)))), (cq (zBc ((hmodC (horC (zGO (a := n * 256) rfl (by omega)) (zGO (a := b) rfl (by omega))) rfl).trans (orb (by omega) (by omega))))), (ci (zAs (addN (a := i) (b := 1) rfl rfl) (by omega) (by omega))), rfl, rfl, (zBZ _)⟩)
  (by kernel_rfl) Y K hK
theorem nu_e (l n : Nat) (hl : l ≤ 8) (T : zAa) (hT : zAG T (zHp s l n)) (K : EK) (hK : hKt K (.exit 0) (zHp s l n) (zCc 0 [])) :
   code pA (zAt pA tb0 la0 5) Y c107l0 T (zCc 0 []) K :=
  zAf (zAc) (zCa (zHp s l n) (wt 1 (.fix s8 bF .nil)))
  (show (zBU T (zHp s l n) (vb (ltI ↑l ↑l) = bF ∧ rR (Ex.exit 0) ∧ rR (zCc 0 []) ∧ zBY (zHp s l n))) from
  zBW hT ⟨cb (ltF rfl rfl (by omega)), rfl, rfl, (zBZ _)⟩)
  (by kernel_rfl) Y K hK
theorem nu_w (hl : s.length ≤ 8) (n : Nat) (H : nu_w_Qc s n) (K : V → Mem → Prop) (hK : ∀ mm, K (vq ↑n) mm) :
   zAD pA (zAt pA tb0 la0 5) Y c107 [V.str s] ⟨0, .leaf⟩ K :=
  zAm (zAc) (wt 5 (.inv2 (Ex.exit 0) (zCc 0 []) (nu_w_Qa s) (zCc 0 []) (nu_w_Qb s n) (.fix s0 (V.str s) (.fix s3 (vq ↑n) (.fix s6 (vi ↑s.length) (.fix s7 (vi ↑s.length) .nil))))))
  (show (rR (zCc 0 []) ∧ (EqZ [V.str s, vq ↑0, vi ↑s.length, vi ↑0]) ∧ (nu_w_Qc s n) ∧ (∀ (T0 : zAa), zAG T0 (nu_w_Qb s n) → (zAa.get T0 s0 = V.str s ∧ zAa.get T0 s3 = vq ↑n ∧ zAa.get T0 s6 = vi ↑s.length ∧ zAa.get T0 s7 = vi ↑s.length ∧ rR (vq ↑n)))) from
  ⟨rfl, (eqZ _), H, fun T0 hj0 => ⟨hj0.1, hj0.2.1, hj0.2.2.1, hj0.2.2.2.1, (by rfl)⟩⟩)
  (by kernel_rfl) Y K hK
end
section
variable (Y : Ys Prop) (R : List V → Option V) (s t : List Nat) (i v : Nat) (hi : i ≤ 1000)
include Y R s t i v hi
theorem nu_two (hv : v < 65536) (q : zAp s i (i + 2) = some (V.str t)) (r : R [V.str t] = some (vq ↑v)) (K : V → Mem → Prop) (hK : ∀ mm, K (vh ↑v) mm) :
   zAD pA (zAt pA tb0 (zAi 107 R la0) 5) Y c108 [V.str s, vi ↑i] ⟨0, .leaf⟩ K :=
  zAm ((zAb zAc)) (wt 5 (.fix s8 (vi ↑(i + 2)) (.res (V.str t) (.lay (Lay.plain (vq ↑v)) (wt 1 (.fix s11 (vh ↑v) .nil))))))
  (show (vi (wr IntKind.i64 (zCe (↑i) 2)) = vi ↑(i + 2) ∧ zAp s i (i + 2) = some (V.str t) ∧ fnP (zAi 107 R la0) 107 [V.str t] (vq ↑v) ∧ (vh ↑(v % 65536) = vh ↑v ∧ rR (vh ↑v))) from
  ⟨(ci (zAs (addN (a := i) (b := 2) rfl rfl) (by omega) (by omega))), q, fun m' K' => fnE r, ⟨(cj (zBc (zAP rfl (by omega)))), (by rfl)⟩⟩)
  (by kernel_rfl) Y K hK
theorem nu_four (hv : v < 4294967296) (q : zAp s i (i + 4) = some (V.str t)) (r : R [V.str t] = some (vq ↑v)) (K : V → Mem → Prop) (hK : ∀ mm, K (vw ↑v) mm) :
   zAD pA (zAt pA tb0 (zAi 107 R la0) 5) Y c87 [V.str s, vi ↑i] ⟨0, .leaf⟩ K :=
  zAm ((zAb zAc)) (wt 5 (.fix s8 (vi ↑(i + 4)) (.res (V.str t) (.lay (Lay.plain (vq ↑v)) (wt 1 (.fix s11 (vw ↑v) .nil))))))
  (show (vi (wr IntKind.i64 (zCe (↑i) 4)) = vi ↑(i + 4) ∧ zAp s i (i + 4) = some (V.str t) ∧ fnP (zAi 107 R la0) 107 [V.str t] (vq ↑v) ∧ (vw ↑(v % 4294967296) = vw ↑v ∧ vw ↑v = vw ↑v)) from
  ⟨(ci (zAs (addN (a := i) (b := 4) rfl rfl) (by omega) (by omega))), q, fun m' K' => fnE r, ⟨(cw (zBc (zAP rfl (by omega)))), (by rfl)⟩⟩)
  (by kernel_rfl) Y K hK
theorem nu_eight (hv : v < 18446744073709551616) (q : zAp s i (i + 8) = some (V.str t)) (r : R [V.str t] = some (vq ↑v)) (K : V → Mem → Prop) (hK : ∀ mm, K (vq ↑v) mm) :
   zAD pA (zAt pA tb0 (zAi 107 R la0) 5) Y c92 [V.str s, vi ↑i] ⟨0, .leaf⟩ K :=
  zAm ((zAb zAc)) (wt 5 (.fix s8 (vi ↑(i + 8)) (.res (V.str t) (.lay (Lay.plain (vq ↑v)) .nil))))
  (show (vi (wr IntKind.i64 (zCe (↑i) 8)) = vi ↑(i + 8) ∧ zAp s i (i + 8) = some (V.str t) ∧ fnP (zAi 107 R la0) 107 [V.str t] (vq ↑v) ∧ (rR (vq ↑v))) from
  ⟨(ci (zAs (addN (a := i) (b := 8) rfl rfl) (by omega) (by omega))), q, fun m' K' => fnE r, (by rfl)⟩)
  (by kernel_rfl) Y K hK
end
abbrev va_s_Qa (l i n : Nat) : List (Sl × V) := [(s0, .slice 0 0 l l 1), (s3, vq ↑n), (s6, vi ↑l), (s7, vi ↑i)]
abbrev va_s_Qb (l i n b : Nat) : List (Sl × V) := [(s0, .slice 0 0 l l 1), (s3, vq ↑(n * 256 + b)), (s6, vi ↑l), (s7, vi ↑(i + 1))]
abbrev zG7 (l n : Nat) : List (Sl × V) := [(s0, .slice 0 0 l l 1), (s3, vq ↑n), (s6, vi ↑l), (s7, vi ↑l)]
abbrev rb_y_Qa (t : List Nat) : List (Sl × V) := [(s0, V.slice 0 0 (t.length) (t.length) 1), (s3, vq ↑0), (s6, vi ↑t.length), (s7, vi ↑0)]
abbrev rb_y_Qb (t : List Nat) (n : Nat) : List (Sl × V) := [(s0, V.slice 0 0 (t.length) (t.length) 1), (s3, vq ↑n), (s6, vi ↑t.length), (s7, vi ↑t.length)]
abbrev rb_y_Qc (t : List Nat) (n : Nat) : Prop := zDc (zAt pA tb39 la0 4) c89l0 (Ex.exit 0) (zCc 1 [(0, oC (zCL t) false)]) (rb_y_Qa t) (zCc 1 [(0, oC (zCL t) false)]) (rb_y_Qb t n)
section
variable (Y : Ys Prop)
include Y
theorem va_s (X : List V) (l i n b : Nat) (hl : l ≤ 8) (hi : i < l) (hn : n < 72057594037927936) (hb : b < 256) (h : nth X i = some (vy ↑b)) (T : zAa) (hT : zAG T (va_s_Qa l i n)) (K : EK) (hK : hKt K .normal (va_s_Qb l i n b) (zCc 1 [(0, oC X false)])) :
   code pA (zAt pA tb39 la0 4) Y c89l0 T (zCc 1 [(0, oC X false)]) K :=
  zAf (zAc) (zCa (va_s_Qa l i n) (wt 1 (.fix s8 bT (wt 7 (.res (V.ptr 0 i) (.res (vy ↑b) (wt 1 (.fix s11 (vq ↑(n * 256)) (.fix s16 (vq ↑b) (wt 1 (.fix s17 (vq ↑(n * 256 + b)) (wt 2 (.fix s18 (vi ↑(i + 1)) .nil)))))))))))))
  (show (zBU T (va_s_Qa l i n) (vb (ltI ↑i ↑l) = bT ∧ zBh 1 (V.slice 0 0 l l 1) (vi ↑i) = some (V.ptr 0 i) ∧ nth (X) (i) = some (vy ↑b) ∧ vq (wr IntKind.u64 (↑n * Int.ofNat (2 ^ min (Int.toNat 8) (IntKind.bits IntKind.u64)))) = vq ↑(n * 256) ∧ vq ↑(b % 18446744073709551616) = vq ↑b ∧ vq ↑((toU IntKind.u64 ↑(n * 256) ||| toU IntKind.u64 ↑b) % 18446744073709551616) = vq ↑(n * 256 + b) ∧ vi (wr IntKind.i64 (zCe (↑i) 1)) = vi ↑(i + 1) ∧ rR Ex.normal ∧ rR (zCc 1 [(0, oC X false)]) ∧ zBY (va_s_Qb l i n b))) from
  zBW hT ⟨cb (ltT rfl rfl (by omega)), (zBm (i := i) rfl (by omega)), h, (cq (zBH (hmulN (a := n) (b := 256) rfl rfl) (by omega) (by omega))), (cq (zBc (zAP rfl (by omega)))), (cq (zBc ((hmodC (horC (zGO (a := n * 256) rfl (by omega)) (zGO (a := b) rfl (by omega))) rfl).trans (orb (by omega) (by omega))))), (ci (zAs (addN (a := i) (b := 1) rfl rfl) (by omega) (by omega))), rfl, rfl, (zBZ _)⟩)
  (by kernel_rfl) Y K hK
theorem va_e (X : List V) (l n : Nat) (hl : l ≤ 8) (T : zAa) (hT : zAG T (zG7 l n)) (K : EK) (hK : hKt K (.exit 0) (zG7 l n) (zCc 1 [(0, oC X false)])) :
   code pA (zAt pA tb39 la0 4) Y c89l0 T (zCc 1 [(0, oC X false)]) K :=
  zAf (zAc) (zCa (zG7 l n) (wt 1 (.fix s8 bF .nil)))
  (show (zBU T (zG7 l n) (vb (ltI ↑l ↑l) = bF ∧ rR (Ex.exit 0) ∧ rR (zCc 1 [(0, oC X false)]) ∧ zBY (zG7 l n))) from
  zBW hT ⟨cb (ltF rfl rfl (by omega)), rfl, rfl, (zBZ _)⟩)
  (by kernel_rfl) Y K hK
theorem rb_y (s t : List Nat) (a k n : Nat) (ha : a ≤ 1000) (hk : 1 ≤ k) (hk8 : k ≤ 8) (hs : a + k ≤ s.length) (hs2 : s.length ≤ 1099511627776) (q : zAp s a (a + k) = some (V.str t)) (H : rb_y_Qc t n) (K : V → Mem → Prop) (hK : ∀ mm, K (V.tuple [vq ↑n, bT]) mm) :
   zAD pA (zAt pA tb39 la0 5) Y c60 [V.str s, vi ↑a, vi ↑k] ⟨0, .leaf⟩ K :=
  zAm (zAc) (wt 10 (.fix s9 bF (wt 3 (.fix s12 bF (wt 4 (.fix s16 bF (wt 6 (.fix s22 bF (wt 7 (.fix s29 (vi (↑s.length - ↑k)) (wt 1 (.fix s30 bF (wt 7 (.fix s36 (vi ↑(a + k)) (.res (V.str t) (wt 15 (.inv2 (Ex.exit 0) (zCc 1 [(0, oC (zCL t) false)]) (rb_y_Qa t) (zCc 1 [(0, oC (zCL t) false)]) (rb_y_Qb t n) (.fix s0 (V.slice 0 0 (t.length) (t.length) 1) (.fix s3 (vq ↑n) (.fix s6 (vi ↑t.length) (.fix s7 (vi ↑t.length) .nil)))))))))))))))))))))
  (show (vb (ltI (↑k) 1) = bF ∧ vb (ltI 8 ↑k) = bF ∧ vb (ltI (↑a) 0) = bF ∧ vb (ltI ↑s.length ↑k) = bF ∧ vi (wr IntKind.i64 (zIb ↑s.length ↑k)) = vi (↑s.length - ↑k) ∧ vb (ltI (↑s.length - ↑k) ↑a) = bF ∧ vi (wr IntKind.i64 (zCe ↑a ↑k)) = vi ↑(a + k) ∧ zAp s a (a + k) = some (V.str t) ∧ rR (zCc 1 [(0, oC (zCL t) false)]) ∧ (EqZ [V.slice 0 0 (t.length) (t.length) 1, vq ↑0, vi ↑t.length, vi ↑0]) ∧ (rb_y_Qc t n) ∧ (∀ (T0 : zAa), zAG T0 (rb_y_Qb t n) → (zAa.get T0 s0 = V.slice 0 0 (t.length) (t.length) 1 ∧ zAa.get T0 s3 = vq ↑n ∧ zAa.get T0 s6 = vi ↑t.length ∧ zAa.get T0 s7 = vi ↑t.length ∧ rR (V.tuple [vq ↑n, bT])))) from
  ⟨(cb (ltF rfl rfl (by omega))), (cb (ltF rfl rfl (by omega))), (cb (ltF rfl rfl (by omega))), (cb (ltF rfl rfl (by omega))), (ci (zAs (subE rfl rfl) (by omega) (by omega))), (cb (ltF rfl rfl (by omega))), (ci (zAs (addN (a := a) (b := k) rfl rfl) (by omega) (by omega))), q, rfl, (eqZ _), H, fun T0 hj0 => ⟨hj0.1, hj0.2.1, hj0.2.2.1, hj0.2.2.2.1, (by rfl)⟩⟩)
  (by kernel_rfl) Y K hK
theorem rb_n (s : List Nat) (a k : Nat) (ha : a ≤ 1000) (hk : 1 ≤ k) (hk8 : k ≤ 8) (hs : s.length < a + k) (hs2 : s.length ≤ 1099511627776) (K : V → Mem → Prop) (hK : ∀ mm, K (V.tuple [vq 0, bF]) mm) :
   zAD pA (zAt pA tb39 la0 5) Y c60 [V.str s, vi ↑a, vi ↑k] ⟨0, .leaf⟩ K :=
  zAm (zAc) (wt 10 (.fix s9 bF (wt 3 (.fix s12 bF (wt 4 (.fix s16 bF (wt 8 (.split s24 (decide ((↑s.length : Int) < (↑k : Int))) .nil (wt 5 (.fix s29 (vi (↑s.length - ↑k)) (wt 1 (.fix s30 bT .nil))))))))))))
  (show (vb (ltI (↑k) 1) = bF ∧ vb (ltI 8 ↑k) = bF ∧ vb (ltI (↑a) 0) = bF ∧ vb (ltI ↑s.length ↑k) = vb (decide ((↑s.length : Int) < (↑k : Int))) ∧ ((decide ((↑s.length : Int) < (↑k : Int))) = true → (V.tuple [vq 0, bF] = V.tuple [vq 0, bF])) ∧ ((decide ((↑s.length : Int) < (↑k : Int))) = false → (vi (wr IntKind.i64 (zIb ↑s.length ↑k)) = vi (↑s.length - ↑k) ∧ vb (ltI (↑s.length - ↑k) ↑a) = bT ∧ V.tuple [vq 0, bF] = V.tuple [vq 0, bF]))) from
  ⟨(cb (ltF rfl rfl (by omega))), (cb (ltF rfl rfl (by omega))), (cb (ltF rfl rfl (by omega))), cb (ltD rfl rfl), (sT fun p0 => (by rfl)), (fun h0 => have p0 := dF h0; ⟨(ci (zAs (subE rfl rfl) (by omega) (by omega))), (cb (ltT rfl rfl (by omega))), (by rfl)⟩)⟩)
  (by kernel_rfl) Y K hK
theorem bg_a (s w t1 u1 : List Nat) (h : s.length ≤ w.length) (hs : s.length ≤ 1099511627776) (hw : w.length ≤ 1000) (q1 : zAp s 0 s.length = some (V.str t1)) (ht : t1.length = s.length) (q2 : zAp w 0 s.length = some (V.str u1)) (K : V → Mem → Prop) (hK : ∀ mm, K (.bool (zFn u1 t1)) mm) :
   zAD pA (zAt pA tb51 la0 5) Y c85 [V.str s, V.str w] ⟨0, .leaf⟩ K :=
  zAm (zAc) (wt 6 (.fix s10 (vi ↑s.length) (wt 4 (.res (V.str t1) (wt 10 (.fix s8 (vi ↑s.length) (wt 1 (.fix s9 bT (wt 4 (.fix s13 (vi ↑s.length) (.res (V.str u1) .nil)))))))))))
  (show (vi (bif decide ((↑w.length : Int) < (↑s.length : Int)) then (↑w.length : Int) else (↑s.length : Int)) = vi ↑s.length ∧ zAp s 0 (s.length) = some (V.str t1) ∧ vi ↑t1.length = vi ↑s.length ∧ vb (nB (ltI ↑w.length ↑s.length)) = bT ∧ vi ↑t1.length = vi ↑s.length ∧ zAp w 0 (s.length) = some (V.str u1) ∧ rR (vb (zFn u1 t1))) from
  ⟨(ci (bifFI (by omega) rfl)), q1, (ci (zBc ht)), (cb (nn (ltF rfl rfl (by omega)))), (ci (zBc ht)), q2, (by rfl)⟩)
  (by kernel_rfl) Y K hK
theorem bg_b (s w t1 u1 : List Nat) (h : w.length < s.length) (hs : s.length ≤ 1099511627776) (hw : w.length ≤ 1000) (q1 : zAp s 0 w.length = some (V.str t1)) (ht : t1.length = w.length) (q2 : zAp w 0 w.length = some (V.str u1)) (K : V → Mem → Prop) (hK : ∀ mm, K (.bool (zFn u1 t1)) mm) :
   zAD pA (zAt pA tb51 la0 5) Y c85 [V.str s, V.str w] ⟨0, .leaf⟩ K :=
  zAm (zAc) (wt 6 (.fix s10 (vi ↑w.length) (wt 4 (.res (V.str t1) (wt 10 (.fix s8 (vi ↑w.length) (wt 1 (.fix s9 bT (wt 4 (.fix s13 (vi ↑w.length) (.res (V.str u1) .nil)))))))))))
  (show (vi (bif decide ((↑w.length : Int) < (↑s.length : Int)) then (↑w.length : Int) else (↑s.length : Int)) = vi ↑w.length ∧ zAp s 0 (w.length) = some (V.str t1) ∧ vi ↑t1.length = vi ↑w.length ∧ vb (nB (ltI ↑w.length ↑w.length)) = bT ∧ vi ↑t1.length = vi ↑w.length ∧ zAp w 0 (w.length) = some (V.str u1) ∧ rR (vb (zFn u1 t1))) from
  ⟨(ci (bifTI (by omega) rfl)), q1, (ci (zBc ht)), (cb (nn (ltF rfl rfl (by omega)))), (ci (zBc ht)), q2, (by rfl)⟩)
  (by kernel_rfl) Y K hK
theorem bo_0 (R : List V → Option V) (s : List Nat) (h m : Nat) (h4 : 4 ≤ h) (hh : h ≤ 1000) (hm : m ≤ 1000000) (hs : s.length ≤ 1099511627776) (g : s.length < h) (K : V → Mem → Prop) (hK : ∀ mm, K (V.tuple [V.str [], vi 0, vi 0]) mm) :
   zAD pA (zAt pA tb0 (zAi 87 R la0) 5) Y c86 [V.str s, vi ↑h, vi ↑m] ⟨0, .leaf⟩ K :=
  zAm ((zAb zAc)) (wt 7 (.fix s13 bT .nil))
  (show (vb (ltI ↑s.length ↑h) = bT ∧ rR (V.tuple [V.str [], vi 0, vi 0])) from
  ⟨cb (ltT rfl rfl (by omega)), (by rfl)⟩)
  (by kernel_rfl) Y K hK
end
section
variable (Y : Ys Prop) (R : List V → Option V) (s : List Nat) (h m : Nat) (h4 : 4 ≤ h) (hh : h ≤ 1000) (hm : m ≤ 1000000) (hs : s.length ≤ 1099511627776) (g : h ≤ s.length) (v : Nat) (hv : v < 4294967296) (r : R [V.str s, .int .i64 (((h : Nat) : Int) - 4)] = some (vw ↑v))
include Y R s h m h4 hh hm hs g v hv r
theorem bo_1 (g2 : m < v) (K : V → Mem → Prop) (hK : ∀ mm, K (V.tuple [V.str [], vi 0, vi 1]) mm) :
   zAD pA (zAt pA tb0 (zAi 87 R la0) 5) Y c86 [V.str s, vi ↑h, vi ↑m] ⟨0, .leaf⟩ K :=
  zAm ((zAb zAc)) (wt 7 (.fix s13 bF (wt 4 (.fix s16 (vi (↑h - 4)) (.lay (Lay.plain (vw ↑v)) (wt 1 (.fix s18 (vq ↑v) (wt 3 (.fix s20 bF (wt 4 (.fix s24 (vq ↑m) (wt 1 (.fix s25 bT .nil)))))))))))))
  (show (vb (ltI ↑s.length ↑h) = bF ∧ vi (wr IntKind.i64 (zIb (↑h) 4)) = vi (↑h - 4) ∧ fnP (zAi 87 R la0) 87 [V.str s, vi (↑h - 4)] (vw ↑v) ∧ (vq ↑(v % 18446744073709551616) = vq ↑v ∧ vb (ltI (↑m) 0) = bF ∧ vq ↑(m % 18446744073709551616) = vq ↑m ∧ vb (ltI ↑m ↑v) = bT ∧ rR (V.tuple [V.str [], vi 0, vi 1]))) from
  ⟨cb (ltF rfl rfl (by omega)), (ci (zAs (subE rfl rfl) (by omega) (by omega))), fun m' K' => fnE r, ⟨(cq (zBc (zAP rfl (by omega)))), (cb (ltF rfl rfl (by omega))), (cq (zBc (zAP rfl (by omega)))), (cb (ltT rfl rfl (by omega))), (by rfl)⟩⟩)
  (by kernel_rfl) Y K hK
theorem bo_2 (g2 : v ≤ m) (g3 : s.length - h < v) (K : V → Mem → Prop) (hK : ∀ mm, K (V.tuple [V.str [], vi 0, vi 0]) mm) :
   zAD pA (zAt pA tb0 (zAi 87 R la0) 5) Y c86 [V.str s, vi ↑h, vi ↑m] ⟨0, .leaf⟩ K :=
  zAm ((zAb zAc)) (wt 7 (.fix s13 bF (wt 4 (.fix s16 (vi (↑h - 4)) (.lay (Lay.plain (vw ↑v)) (wt 1 (.fix s18 (vq ↑v) (wt 3 (.fix s20 bF (wt 4 (.fix s24 (vq ↑m) (wt 1 (.fix s25 bF (wt 6 (.fix s30 (vi (↑s.length - ↑h)) (wt 2 (.fix s31 (vq (↑s.length - ↑h)) (wt 1 (.fix s33 bT .nil)))))))))))))))))))
  (show (vb (ltI ↑s.length ↑h) = bF ∧ vi (wr IntKind.i64 (zIb (↑h) 4)) = vi (↑h - 4) ∧ fnP (zAi 87 R la0) 87 [V.str s, vi (↑h - 4)] (vw ↑v) ∧ (vq ↑(v % 18446744073709551616) = vq ↑v ∧ vb (ltI (↑m) 0) = bF ∧ vq ↑(m % 18446744073709551616) = vq ↑m ∧ vb (ltI ↑m ↑v) = bF ∧ vi (wr IntKind.i64 (zIb ↑s.length ↑h)) = vi (↑s.length - ↑h) ∧ vq (wr IntKind.u64 (↑s.length - ↑h)) = vq (↑s.length - ↑h) ∧ vb (ltI (↑s.length - ↑h) ↑v) = bT ∧ rR (V.tuple [V.str [], vi 0, vi 0]))) from
  ⟨cb (ltF rfl rfl (by omega)), (ci (zAs (subE rfl rfl) (by omega) (by omega))), fun m' K' => fnE r, ⟨(cq (zBc (zAP rfl (by omega)))), (cb (ltF rfl rfl (by omega))), (cq (zBc (zAP rfl (by omega)))), (cb (ltF rfl rfl (by omega))), (ci (zAs (subE rfl rfl) (by omega) (by omega))), (cq (zBH rfl (by omega) (by omega))), cb (ltT rfl rfl (by omega)), (by rfl)⟩⟩)
  (by kernel_rfl) Y K hK
theorem bo_3 (g2 : v ≤ m) (g3 : v ≤ s.length - h) (d : List Nat) (q : zAp s h (h + v) = some (V.str d)) (K : V → Mem → Prop) (hK : ∀ mm, K (V.tuple [V.str d, vi ↑(h + v), vi 0]) mm) :
   zAD pA (zAt pA tb0 (zAi 87 R la0) 5) Y c86 [V.str s, vi ↑h, vi ↑m] ⟨0, .leaf⟩ K :=
  zAm ((zAb zAc)) (wt 7 (.fix s13 bF (wt 4 (.fix s16 (vi (↑h - 4)) (.lay (Lay.plain (vw ↑v)) (wt 1 (.fix s18 (vq ↑v) (wt 3 (.fix s20 bF (wt 4 (.fix s24 (vq ↑m) (wt 1 (.fix s25 bF (wt 6 (.fix s30 (vi (↑s.length - ↑h)) (wt 2 (.fix s31 (vq (↑s.length - ↑h)) (wt 1 (.fix s33 bF (wt 4 (.fix s36 (vi ↑v) (wt 1 (.fix s37 (vi ↑(h + v)) (wt 4 (.res (V.str d) .nil)))))))))))))))))))))))))
  (show (vb (ltI ↑s.length ↑h) = bF ∧ vi (wr IntKind.i64 (zIb (↑h) 4)) = vi (↑h - 4) ∧ fnP (zAi 87 R la0) 87 [V.str s, vi (↑h - 4)] (vw ↑v) ∧ (vq ↑(v % 18446744073709551616) = vq ↑v ∧ vb (ltI (↑m) 0) = bF ∧ vq ↑(m % 18446744073709551616) = vq ↑m ∧ vb (ltI ↑m ↑v) = bF ∧ vi (wr IntKind.i64 (zIb ↑s.length ↑h)) = vi (↑s.length - ↑h) ∧ vq (wr IntKind.u64 (↑s.length - ↑h)) = vq (↑s.length - ↑h) ∧ vb (ltI (↑s.length - ↑h) ↑v) = bF ∧ vi (wr IntKind.i64 ↑v) = vi ↑v ∧ vi (wr IntKind.i64 (zCe ↑h ↑v)) = vi ↑(h + v) ∧ zAp s h (h + v) = some (V.str d) ∧ rR (V.tuple [V.str d, vi ↑(h + v), vi 0]))) from
  ⟨cb (ltF rfl rfl (by omega)), (ci (zAs (subE rfl rfl) (by omega) (by omega))), fun m' K' => fnE r, ⟨(cq (zBc (zAP rfl (by omega)))), (cb (ltF rfl rfl (by omega))), (cq (zBc (zAP rfl (by omega)))), (cb (ltF rfl rfl (by omega))), (ci (zAs (subE rfl rfl) (by omega) (by omega))), (cq (zBH rfl (by omega) (by omega))), cb (ltF rfl rfl (by omega)), (ci (zAs rfl (by omega) (by omega))), (ci (zAs (addN (a := h) (b := v) rfl rfl) (by omega) (by omega))), q, (by rfl)⟩⟩)
  (by kernel_rfl) Y K hK
end
abbrev fEW2 (s : List Nat) : List V := [V.str s, V.str [103, 68, 102, 152]]
abbrev zIE (B F G : List V → Option V) : CF Prop := zAi 85 B (zAi 87 F (zAi 92 G la0))
abbrev fEW3 : V := V.tuple [V.agg [vw 0, vq 0, V.str []], vi 0, vi 0]
section
variable (Y : Ys Prop) (B F G : List V → Option V) (s : List Nat) (hs : s.length ≤ 1099511627776) (d : Nat) (hd : d ≤ 4294967296)
include Y B F G s hs d hd
theorem nr_f (hb : B (fEW2 s) = some bF)  (K : V → Mem → Prop) (hK : ∀ mm, K (V.tuple [V.agg [vw 0, vq 0, V.str []], vi 0, vi 8]) mm) :
   zAD pA (zAt pA tb0 (zIE B F G) 5) Y c62 [V.str s, vi ↑d] ⟨0, .leaf⟩ K :=
  zAm ((zAb (zAb (zAb zAc)))) (wt 4 (.lay (Lay.plain bF) .nil))
  (show (fnP (zIE B F G) 85 (fEW2 s) bF ∧ (rR (V.tuple [V.agg [vw 0, vq 0, V.str []], vi 0, vi 8]))) from
  ⟨fun m' K' => fnE hb, (by rfl)⟩)
  (by kernel_rfl) Y K hK
theorem nr_0 (hb : B (fEW2 s) = some bT) (g : s.length < 16) (K : V → Mem → Prop) (hK : ∀ mm, K fEW3 mm) :
   zAD pA (zAt pA tb0 (zIE B F G) 5) Y c62 [V.str s, vi ↑d] ⟨0, .leaf⟩ K :=
  zAm ((zAb (zAb (zAb zAc)))) (wt 4 (.lay (Lay.plain bT) (wt 5 (.fix s13 bT .nil))))
  (show (fnP (zIE B F G) 85 (fEW2 s) bT ∧ (vb (ltI (↑s.length) 16) = bT ∧ rR fEW3)) from
  ⟨fun m' K' => fnE hb, ⟨cb (ltT rfl rfl (by omega)), (by rfl)⟩⟩)
  (by kernel_rfl) Y K hK
end
abbrev fEW5 (e k : Nat) : V := V.tuple [V.agg [vw ↑e, vq ↑k, V.str []], vi 16, vi 0]
section
variable (Y : Ys Prop) (B F G : List V → Option V) (s : List Nat) (hs : s.length ≤ 1099511627776) (d : Nat) (hd : d ≤ 4294967296) (hb : B (fEW2 s) = some bT) (g : 16 ≤ s.length) (e k : Nat) (he : e < 4294967296) (he2 : F [V.str s, vi 4] = some (vw ↑e)) (hk : G [V.str s, vi 8] = some (vq ↑k))
include Y B F G s hs d hd hb g e k he he2 hk
theorem nr_1 (g1 : 0 < e) (K : V → Mem → Prop) (hK : ∀ mm, K (fEW5 e k) mm) :
   zAD pA (zAt pA tb0 (zIE B F G) 5) Y c62 [V.str s, vi ↑d] ⟨0, .leaf⟩ K :=
  zAm ((zAb (zAb (zAb zAc)))) (wt 4 (.lay (Lay.plain bT) (wt 5 (.fix s13 bF (wt 2 (.lay (Lay.plain (vw ↑e)) (wt 1 (.lay (Lay.plain (vq ↑k)) (wt 6 (.fix s22 bF .nil))))))))))
  (show (fnP (zIE B F G) 85 (fEW2 s) bT ∧ (vb (ltI (↑s.length) 16) = bF ∧ fnP (zIE B F G) 87 [V.str s, vi 4] (vw ↑e) ∧ (fnP (zIE B F G) 92 [V.str s, vi 8] (vq ↑k) ∧ (vb (eqI (↑e) 0) = bF ∧ rR (fEW5 e k))))) from
  ⟨fun m' K' => fnE hb, ⟨cb (ltF rfl rfl (by omega)), fun m' K' => fnE he2, ⟨fun m' K' => fnE hk, ⟨(cb (eqF rfl rfl (by omega))), (by rfl)⟩⟩⟩⟩)
  (by kernel_rfl) Y K hK
theorem nr_2 (g1 : e ≤ 0) (g2 : d = 0) (K : V → Mem → Prop) (hK : ∀ mm, K (fEW5 e k) mm) :
   zAD pA (zAt pA tb0 (zIE B F G) 5) Y c62 [V.str s, vi ↑d] ⟨0, .leaf⟩ K :=
  zAm ((zAb (zAb (zAb zAc)))) (wt 4 (.lay (Lay.plain bT) (wt 5 (.fix s13 bF (wt 2 (.lay (Lay.plain (vw ↑e)) (wt 1 (.lay (Lay.plain (vq ↑k)) (wt 6 (.fix s22 bT (wt 3 (.fix s25 bF .nil))))))))))))
  (show (fnP (zIE B F G) 85 (fEW2 s) bT ∧ (vb (ltI (↑s.length) 16) = bF ∧ fnP (zIE B F G) 87 [V.str s, vi 4] (vw ↑e) ∧ (fnP (zIE B F G) 92 [V.str s, vi 8] (vq ↑k) ∧ (vb (eqI (↑e) 0) = bT ∧ vb (ltI 0 ↑d) = bF ∧ rR (fEW5 e k))))) from
  ⟨fun m' K' => fnE hb, ⟨cb (ltF rfl rfl (by omega)), fun m' K' => fnE he2, ⟨fun m' K' => fnE hk, ⟨(cb (eqT rfl rfl (by omega))), (cb (ltF rfl rfl (by omega))), (by rfl)⟩⟩⟩⟩)
  (by kernel_rfl) Y K hK
theorem nr_3 (g1 : e ≤ 0) (g2 : 0 < d) (g3 : s.length - 16 < d) (K : V → Mem → Prop) (hK : ∀ mm, K fEW3 mm) :
   zAD pA (zAt pA tb0 (zIE B F G) 5) Y c62 [V.str s, vi ↑d] ⟨0, .leaf⟩ K :=
  zAm ((zAb (zAb (zAb zAc)))) (wt 4 (.lay (Lay.plain bT) (wt 5 (.fix s13 bF (wt 2 (.lay (Lay.plain (vw ↑e)) (wt 1 (.lay (Lay.plain (vq ↑k)) (wt 6 (.fix s22 bT (wt 3 (.fix s25 bT (wt 6 (.fix s29 (vi (↑s.length - 16)) (wt 1 (.fix s31 bT .nil))))))))))))))))
  (show (fnP (zIE B F G) 85 (fEW2 s) bT ∧ (vb (ltI (↑s.length) 16) = bF ∧ fnP (zIE B F G) 87 [V.str s, vi 4] (vw ↑e) ∧ (fnP (zIE B F G) 92 [V.str s, vi 8] (vq ↑k) ∧ (vb (eqI (↑e) 0) = bT ∧ vb (ltI 0 ↑d) = bT ∧ vi (wr IntKind.i64 (zIb (↑s.length) 16)) = vi (↑s.length - 16) ∧ vb (ltI (↑s.length - 16) ↑d) = bT ∧ rR fEW3)))) from
  ⟨fun m' K' => fnE hb, ⟨cb (ltF rfl rfl (by omega)), fun m' K' => fnE he2, ⟨fun m' K' => fnE hk, ⟨(cb (eqT rfl rfl (by omega))), (cb (ltT rfl rfl (by omega))), (ci (zAs (subE rfl rfl) (by omega) (by omega))), cb (ltT rfl rfl (by omega)), (by rfl)⟩⟩⟩⟩)
  (by kernel_rfl) Y K hK
theorem nr_4 (g1 : e ≤ 0) (g2 : 0 < d) (g3 : d ≤ s.length - 16) (x1 : List Nat) (q : zAp s 16 (16 + d) = some (V.str x1)) (K : V → Mem → Prop) (hK : ∀ mm, K (V.tuple [V.agg [vw ↑e, vq ↑k, V.str x1], vi ↑(16 + d), vi 0]) mm) :
   zAD pA (zAt pA tb0 (zIE B F G) 5) Y c62 [V.str s, vi ↑d] ⟨0, .leaf⟩ K :=
  zAm ((zAb (zAb (zAb zAc)))) (wt 4 (.lay (Lay.plain bT) (wt 5 (.fix s13 bF (wt 2 (.lay (Lay.plain (vw ↑e)) (wt 1 (.lay (Lay.plain (vq ↑k)) (wt 6 (.fix s22 bT (wt 3 (.fix s25 bT (wt 6 (.fix s29 (vi (↑s.length - 16)) (wt 1 (.fix s31 bF (wt 4 (.fix s35 (vi ↑(16 + d)) (wt 3 (.res (V.str x1) .nil))))))))))))))))))))
  (show (fnP (zIE B F G) 85 (fEW2 s) bT ∧ (vb (ltI (↑s.length) 16) = bF ∧ fnP (zIE B F G) 87 [V.str s, vi 4] (vw ↑e) ∧ (fnP (zIE B F G) 92 [V.str s, vi 8] (vq ↑k) ∧ (vb (eqI (↑e) 0) = bT ∧ vb (ltI 0 ↑d) = bT ∧ vi (wr IntKind.i64 (zIb (↑s.length) 16)) = vi (↑s.length - 16) ∧ vb (ltI (↑s.length - 16) ↑d) = bF ∧ vi (wr IntKind.i64 (zCe 16 ↑d)) = vi ↑(16 + d) ∧ zAp s 16 (16 + d) = some (V.str x1) ∧ rR (V.tuple [V.agg [vw ↑e, vq ↑k, V.str x1], vi ↑(16 + d), vi 0]))))) from
  ⟨fun m' K' => fnE hb, ⟨cb (ltF rfl rfl (by omega)), fun m' K' => fnE he2, ⟨fun m' K' => fnE hk, ⟨(cb (eqT rfl rfl (by omega))), (cb (ltT rfl rfl (by omega))), (ci (zAs (subE rfl rfl) (by omega) (by omega))), cb (ltF rfl rfl (by omega)), (ci (zAs (addN (a := 16) (b := d) rfl rfl) (by omega) (by omega))), q, (by rfl)⟩⟩⟩⟩)
  (by kernel_rfl) Y K hK
end
abbrev fEW4 (s : List Nat) : List V := [V.str s, V.str [102, 142, 51, 239]]
abbrev fEW1 (B F G H2 : List V → Option V) : CF Prop := zAi 85 B (zAi 86 F (zAi 92 G (zAi 108 H2 la0)))
section
variable (Y : Ys Prop) (B F G H2 : List V → Option V) (s : List Nat) (hs : s.length ≤ 1099511627776) (m : Nat) (hm : m ≤ 1000000)
include Y B F G H2 s hs m hm
theorem nc_f (hb : B (fEW4 s) = some bF)  (K : V → Mem → Prop) (hK : ∀ mm, K (V.tuple [V.agg [vh 0, vh 0, vq 0, V.str []], vi 0, vi 8]) mm) :
   zAD pA (zAt pA tb0 (fEW1 B F G H2) 5) Y c90 [V.str s, vi ↑m] ⟨0, .leaf⟩ K :=
  zAm ((zAb (zAb (zAb (zAb zAc))))) (wt 4 (.lay (Lay.plain bF) .nil))
  (show (fnP (fEW1 B F G H2) 85 (fEW4 s) bF ∧ (rR (V.tuple [V.agg [vh 0, vh 0, vq 0, V.str []], vi 0, vi 8]))) from
  ⟨fun m' K' => fnE hb, (by rfl)⟩)
  (by kernel_rfl) Y K hK
theorem nc_0 (e : Int) (hb : B (fEW4 s) = some bT) (hd : F [V.str s, vi 20, vi ↑m] = some (V.tuple [V.str [], vi 0, vi e]))  (K : V → Mem → Prop) (hK : ∀ mm, K (V.tuple [V.agg [vh 0, vh 0, vq 0, V.str []], vi 0, vi e]) mm) :
   zAD pA (zAt pA tb0 (fEW1 B F G H2) 5) Y c90 [V.str s, vi ↑m] ⟨0, .leaf⟩ K :=
  zAm ((zAb (zAb (zAb (zAb zAc))))) (wt 4 (.lay (Lay.plain bT) (wt 4 (.lay (Lay.plain (V.tuple [V.str [], vi 0, vi e])) .nil))))
  (show (fnP (fEW1 B F G H2) 85 (fEW4 s) bT ∧ (fnP (fEW1 B F G H2) 86 [V.str s, vi 20, vi ↑m] (V.tuple [V.str [], vi 0, vi e]) ∧ (rR (V.tuple [V.agg [vh 0, vh 0, vq 0, V.str []], vi 0, vi e])))) from
  ⟨fun m' K' => fnE hb, ⟨fun m' K' => fnE hd, (by rfl)⟩⟩)
  (by kernel_rfl) Y K hK
theorem nc_1 (d : List Nat) (n fg kd ck : Nat) (hn : 0 < n) (hn2 : n ≤ 1099511627776) (hb : B (fEW4 s) = some bT) (hd : F [V.str s, vi 20, vi ↑m] = some (V.tuple [V.str d, vi ↑n, vi 0])) (h1 : H2 [V.str s, vi 4] = some (vh ↑fg)) (h2 : H2 [V.str s, vi 6] = some (vh ↑kd)) (h3 : G [V.str s, vi 8] = some (vq ↑ck)) (K : V → Mem → Prop) (hK : ∀ mm, K (V.tuple [V.agg [vh ↑fg, vh ↑kd, vq ↑ck, V.str d], vi ↑n, vi 0]) mm) :
   zAD pA (zAt pA tb0 (fEW1 B F G H2) 5) Y c90 [V.str s, vi ↑m] ⟨0, .leaf⟩ K :=
  zAm ((zAb (zAb (zAb (zAb zAc))))) (wt 4 (.lay (Lay.plain bT) (wt 4 (.lay (Lay.plain (V.tuple [V.str d, vi ↑n, vi 0])) (wt 9 (.fix s20 bF (wt 2 (.lay (Lay.plain (vh ↑fg)) (wt 1 (.lay (Lay.plain (vh ↑kd)) (wt 1 (.lay (Lay.plain (vq ↑ck)) .nil))))))))))))
  (show (fnP (fEW1 B F G H2) 85 (fEW4 s) bT ∧ (fnP (fEW1 B F G H2) 86 [V.str s, vi 20, vi ↑m] (V.tuple [V.str d, vi ↑n, vi 0]) ∧ (vb (eqI (↑n) 0) = bF ∧ fnP (fEW1 B F G H2) 108 [V.str s, vi 4] (vh ↑fg) ∧ (fnP (fEW1 B F G H2) 108 [V.str s, vi 6] (vh ↑kd) ∧ (fnP (fEW1 B F G H2) 92 [V.str s, vi 8] (vq ↑ck) ∧ (rR (V.tuple [V.agg [vh ↑fg, vh ↑kd, vq ↑ck, V.str d], vi ↑n, vi 0]))))))) from
  ⟨fun m' K' => fnE hb, ⟨fun m' K' => fnE hd, ⟨cb (eqF rfl rfl (by omega)), fun m' K' => fnE h1, ⟨fun m' K' => fnE h2, ⟨fun m' K' => fnE h3, (by rfl)⟩⟩⟩⟩⟩)
  (by kernel_rfl) Y K hK
end
end
end Go.Proofs.YtjekgdkaejgpdaaGreat
