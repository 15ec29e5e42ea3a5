/- An abstract machine for the programs of the model, and that it is sound: part a. No condition: plain definitions and lemmas, used by the proof of this claim. -/
import Derived.Orders
import Derived.KernelRfl
import Derived.Laws.Sem
import Derived.Laws.Cells
import Derived.Laws.World
import Derived.Laws.Strings
import Derived.WideLaws
import Derived.Laws.StructEq
import Derived.Laws.BytesArg
import Derived.Laws.IdiomStrings
import Derived.Laws.Append
import Derived.Laws.AppendOwn
namespace Go.AM
open Go
theorem zCG {a b : Nat} (h : a = b) : Nat.beq a b = true := by subst h; exact Nat.beq_refl a
theorem zAS {a b : Nat} (h : a ≠ b) : Nat.beq a b = false := by
 cases e : Nat.beq a b with
 | false => rfl
 | true => exact absurd (Nat.eq_of_beq_eq_true e) h
theorem nbltT {a b : Nat} (h : a < b) : Nat.blt a b = true := by unfold Nat.blt; rw [Nat.ble_eq]; exact h
theorem nbltF {a b : Nat} (h : ¬ a < b) : Nat.blt a b = false := by
 cases e : Nat.blt a b with
 | false => rfl
 | true => unfold Nat.blt at e; rw [Nat.ble_eq] at e; exact absurd e h
inductive V where
 | bool (b : Bool)
 | int (k : IntKind) (n : Int)
 | str (s : List Nat)
 | ptr (b off : Nat)
 | nilptr
 | slice (b off len cap sz : Nat)
 | nilslice
 | map (b : Nat)
 | nilmap
 | func (fn : Fn) (first captured : List V)
 | nilfunc
 | yield (b : Nat)
 | iface (t : TypeId) (v : V)
 | niliface
 | agg (cs : List V)
 | tuple (vs : List V)
 | any
 deriving Inhabited
abbrev V.undef : V := .tuple []
def V.one : V → Bool
 | .agg _ | .tuple _ | .any => false
 | _ => true
def V.cells : V → List V
 | .agg cs => cs
 | v => [v]
def kindNo : IntKind → Nat
 | .i8 => 0 | .i16 => 1 | .i32 => 2 | .i64 => 3 | .u8 => 4 | .u16 => 5 | .u32 => 6 | .u64 => 7
def zGw (j k : IntKind) : Bool := Nat.beq (kindNo j) (kindNo k)
theorem zEA {j k : IntKind} : zGw j k = true ↔ j = k := by cases j <;> cases k <;> decide
def ltI : Int → Int → Bool
 | .ofNat a, .ofNat b => Nat.blt a b
 | .ofNat _, .negSucc _ => false
 | .negSucc _, .ofNat _ => true
 | .negSucc a, .negSucc b => Nat.blt b a
def eqI : Int → Int → Bool
 | .ofNat a, .ofNat b => Nat.beq a b
 | .negSucc a, .negSucc b => Nat.beq a b
 | _, _ => false
def zCe : Int → Int → Int
 | .ofNat a, .ofNat b => .ofNat (a + b)
 | a, b => a + b
def zIb : Int → Int → Int
 | .ofNat a, .ofNat b => bif Nat.ble b a then .ofNat (a - b) else .negSucc (b - a - 1)
 | a, b => a - b
def zH6 : Int → Int → Int
 | .ofNat a, .ofNat b => .ofNat (a * b)
 | a, b => a * b
theorem zGv (a b : Int) : ltI a b = decide (a < b) := by
 unfold ltI
 split
 ·rename_i a b
  by_cases h : a < b
  ·rw [nbltT h]; simp [h]
  ·rw [nbltF h]; simp [h]
 ·rename_i a b; symm; rw [decide_eq_false_iff_not]; simp only [Int.ofNat_eq_natCast]; omega
 ·rename_i a b; symm; rw [decide_eq_true_eq]; simp only [Int.ofNat_eq_natCast]; omega
 ·rename_i a b
  by_cases h : b < a
  ·rw [nbltT h]; symm; rw [decide_eq_true_eq]; omega
  ·rw [nbltF h]; symm; rw [decide_eq_false_iff_not]; omega
theorem zDI (a b : Int) : eqI a b = decide (a = b) := by
 cases a with
 | ofNat a => cases b with
  | ofNat b =>
   by_cases h : a = b
   ·subst h; simp only [eqI, Nat.beq_refl, decide_true]
   ·simp only [eqI, zAS h]; symm; rw [decide_eq_false_iff_not]; simp only [Int.ofNat_eq_natCast]; omega
  | negSucc b => simp only [eqI]; symm; rw [decide_eq_false_iff_not]; simp only [Int.ofNat_eq_natCast]; omega
 | negSucc a => cases b with
  | ofNat b => simp only [eqI]; symm; rw [decide_eq_false_iff_not]; simp only [Int.ofNat_eq_natCast]; omega
  | negSucc b =>
   by_cases h : a = b
   ·subst h; simp only [eqI, Nat.beq_refl, decide_true]
   ·simp only [eqI, zAS h]; symm; rw [decide_eq_false_iff_not]; omega
theorem addI_eq (a b : Int) : zCe a b = a + b := by
 unfold zCe; split
 ·simp only [Int.ofNat_eq_natCast]; omega
 ·rfl
theorem subI_eq (a b : Int) : zIb a b = a - b := by
 unfold zIb; split
 ·rename_i a b
  by_cases h : b ≤ a
  ·rw [show Nat.ble b a = true from Nat.ble_eq_true_of_le h]; simp only [cond_true, Int.ofNat_eq_natCast]; omega
  ·rw [show Nat.ble b a = false from by cases e : Nat.ble b a with | false => rfl | true => exact absurd (Nat.le_of_ble_eq_true e) h]
   simp only [cond_false, Int.ofNat_eq_natCast]; omega
 ·rfl
theorem mulI_eq (a b : Int) : zH6 a b = a * b := by
 unfold zH6; split
 ·simp
 ·rfl
inductive SK where
 | bool | int | str | ptr
 deriving DecidableEq, Inhabited
inductive KT where
 | one (k : SK)
 | many (ks : List SK)
 deriving Inhabited
def zFn : List Nat → List Nat → Bool
 | [], [] => true
 | a :: x, b :: y => Nat.beq a b && zFn x y
 | _, _ => false
def eqS (k : SK) (x y : V) : Option Bool :=
 match k, x, y with
 | .bool, .bool a, .bool b => some (a == b)
 | .int, .int j a, .int k b => bif zGw j k then some (eqI a b) else none
 | .str, .str a, .str b => some (zFn a b)
 | .ptr, .nilptr, .nilptr => some true
 | .ptr, .nilptr, .ptr _ _ => some false
 | .ptr, .ptr _ _, .nilptr => some false
 | .ptr, .ptr a i, .ptr b j => bif Nat.beq a b then some (Nat.beq i j) else none
 | _, _, _ => none
def zAM : List SK → List V → List V → Option Bool
 | [], [], [] => some true
 | k :: ks, a :: as, b :: bs => match eqS k a b with
  | some true => zAM ks as bs
  | some false => match zAM ks as bs with | some _ => some false | none => none
  | none => none
 | _, _, _ => none
inductive zAe where
 | cells (cs : List V) (ro : Bool)
 | map (es : List (V × V × Nat)) (clock : Nat) (ro : Bool)
 | iter (m : Option Nat) (since : Nat) (seen : List Nat) (stepped : Nat)
 | loop (st : Nat) (pend : Option (Option Nat))
 | dead
 deriving Inhabited
inductive zC2 where
 | leaf
 | node (v : Option zAe) (l r : zC2)
 deriving Inhabited
def zC2.get : zC2 → Nat → Option zAe
 | .leaf, _ => none
 | .node v l r, n => bif Nat.beq n 0 then v else bif Nat.beq (n % 2) 1 then l.get (n / 2) else r.get (n / 2 - 1)
def zC2.single (o : zAe) : (fuel n : Nat) → zC2
 | 0, _ => .leaf
 | f + 1, n => bif Nat.beq n 0 then .node (some o) .leaf .leaf else
   bif Nat.beq (n % 2) 1 then .node none (zC2.single o f (n / 2)) .leaf else .node none .leaf (zC2.single o f (n / 2 - 1))
def zC2.set (o : zAe) : zC2 → Nat → zC2
 | .leaf, n => zC2.single o (n + 1) n
 | .node v l r, n => bif Nat.beq n 0 then .node (some o) l r else
   bif Nat.beq (n % 2) 1 then .node v (l.set o (n / 2)) r else .node v l (r.set o (n / 2 - 1))
structure Mem where
 next : Nat
 t : zC2
 deriving Inhabited
def Mem.get (m : Mem) (b : Nat) : Option zAe := m.t.get b
def Mem.set (m : Mem) (b : Nat) (o : zAe) : Mem := ⟨m.next, m.t.set o b⟩
def Mem.new (m : Mem) (o : zAe) : Mem := ⟨m.next + 1, m.t.set o m.next⟩
theorem zC2.get_single (o : zAe) : ∀ (f n k : Nat), n < f → (zC2.single o f n).get k = if k = n then some o else none
 | 0, n, k, h => by omega
 | f + 1, n, k, h => by
  unfold zC2.single
  by_cases h0 : n = 0
  ·subst h0
   by_cases hk : k = 0
   ·subst hk; simp [zC2.get]
   ·have : Nat.beq k 0 = false := zAS hk
    simp [zC2.get, this, hk]
  ·have hb : Nat.beq n 0 = false := zAS h0
   rw [hb]
   simp only [cond_false]
   by_cases h1 : n % 2 = 1
   ·have hb1 : Nat.beq (n % 2) 1 = true := zCG h1
    rw [hb1]; simp only [cond_true, zC2.get]
    by_cases hk : k = 0
    ·subst hk; simp; omega
    ·have hkb : Nat.beq k 0 = false := zAS hk
     rw [hkb]; simp only [cond_false]
     by_cases hk1 : k % 2 = 1
     ·have hb2 : Nat.beq (k % 2) 1 = true := zCG hk1
      rw [hb2]; simp only [cond_true]
      rw [zC2.get_single o f (n / 2) (k / 2) (by omega)]
      by_cases e : k = n
      ·simp [e]
      ·rw [if_neg e, if_neg (by omega)]
     ·have hb2 : Nat.beq (k % 2) 1 = false := zAS hk1
      rw [hb2]; simp only [cond_false]
      rw [if_neg (by omega)]
   ·have hb1 : Nat.beq (n % 2) 1 = false := zAS h1
    rw [hb1]; simp only [cond_false, zC2.get]
    by_cases hk : k = 0
    ·subst hk; simp; omega
    ·have hkb : Nat.beq k 0 = false := zAS hk
     rw [hkb]; simp only [cond_false]
     by_cases hk1 : k % 2 = 1
     ·have hb2 : Nat.beq (k % 2) 1 = true := zCG hk1
      rw [hb2]; simp only [cond_true]
      rw [if_neg (by omega)]
     ·have hb2 : Nat.beq (k % 2) 1 = false := zAS hk1
      rw [hb2]; simp only [cond_false]
      rw [zC2.get_single o f (n / 2 - 1) (k / 2 - 1) (by omega)]
      by_cases e : k = n
      ·simp [e]
      ·rw [if_neg e, if_neg (by omega)]
theorem zC2.get_set (o : zAe) : ∀ (t : zC2) (n k : Nat), (t.set o n).get k = if k = n then some o else t.get k
 | .leaf, n, k => by
  unfold zC2.set
  rw [zC2.get_single o (n + 1) n k (by omega)]
  simp [zC2.get]
 | .node v l r, n, k => by
  unfold zC2.set
  by_cases h0 : n = 0
  ·subst h0
   by_cases hk : k = 0
   ·subst hk; simp [zC2.get]
   ·have : Nat.beq k 0 = false := zAS hk
    simp [zC2.get, this, hk]
  ·have hb : Nat.beq n 0 = false := zAS h0
   rw [hb]
   simp only [cond_false]
   by_cases h1 : n % 2 = 1
   ·have hb1 : Nat.beq (n % 2) 1 = true := zCG h1
    rw [hb1]; simp only [cond_true, zC2.get]
    by_cases hk : k = 0
    ·subst hk; simp; omega
    ·have hkb : Nat.beq k 0 = false := zAS hk
     rw [hkb]; simp only [cond_false]
     by_cases hk1 : k % 2 = 1
     ·have hb2 : Nat.beq (k % 2) 1 = true := zCG hk1
      rw [hb2]; simp only [cond_true]
      rw [zC2.get_set o l (n / 2) (k / 2)]
      by_cases e : k = n
      ·simp [e]
      ·rw [if_neg e, if_neg (by omega)]
     ·have hb2 : Nat.beq (k % 2) 1 = false := zAS hk1
      rw [hb2]; simp only [cond_false]
      rw [if_neg (by omega)]
   ·have hb1 : Nat.beq (n % 2) 1 = false := zAS h1
    rw [hb1]; simp only [cond_false, zC2.get]
    by_cases hk : k = 0
    ·subst hk; simp; omega
    ·have hkb : Nat.beq k 0 = false := zAS hk
     rw [hkb]; simp only [cond_false]
     by_cases hk1 : k % 2 = 1
     ·have hb2 : Nat.beq (k % 2) 1 = true := zCG hk1
      rw [hb2]; simp only [cond_true]
      rw [if_neg (by omega)]
     ·have hb2 : Nat.beq (k % 2) 1 = false := zAS hk1
      rw [hb2]; simp only [cond_false]
      rw [zC2.get_set o r (n / 2 - 1) (k / 2 - 1)]
      by_cases e : k = n
      ·simp [e]
      ·rw [if_neg e, if_neg (by omega)]
@[simp] theorem Mem.get_set (m : Mem) (b k : Nat) (o : zAe) : (m.set b o).get k = if k = b then some o else m.get k := zC2.get_set o m.t b k
@[simp] theorem Mem.get_new (m : Mem) (k : Nat) (o : zAe) : (m.new o).get k = if k = m.next then some o else m.get k := zC2.get_set o m.t m.next k
@[simp] theorem Mem.next_set (m : Mem) (b : Nat) (o : zAe) : (m.set b o).next = m.next := rfl
@[simp] theorem Mem.next_new (m : Mem) (o : zAe) : (m.new o).next = m.next + 1 := rfl
inductive D8 where
 | d0 | d1 | d2 | d3 | d4 | d5 | d6 | d7
 deriving DecidableEq, Inhabited
inductive N8 (α : Type) where
 | mk (a0 a1 a2 a3 a4 a5 a6 a7 : α)
def N8.s0 {α : Type} : N8 α → α
 | .mk a0 _ _ _ _ _ _ _ => a0
def N8.s1 {α : Type} : N8 α → α
 | .mk _ a1 _ _ _ _ _ _ => a1
def N8.s2 {α : Type} : N8 α → α
 | .mk _ _ a2 _ _ _ _ _ => a2
def N8.s3 {α : Type} : N8 α → α
 | .mk _ _ _ a3 _ _ _ _ => a3
def N8.s4 {α : Type} : N8 α → α
 | .mk _ _ _ _ a4 _ _ _ => a4
def N8.s5 {α : Type} : N8 α → α
 | .mk _ _ _ _ _ a5 _ _ => a5
def N8.s6 {α : Type} : N8 α → α
 | .mk _ _ _ _ _ _ a6 _ => a6
def N8.s7 {α : Type} : N8 α → α
 | .mk _ _ _ _ _ _ _ a7 => a7
def N8.u0 {α : Type} (f : α → α) : N8 α → N8 α
 | .mk a0 a1 a2 a3 a4 a5 a6 a7 => .mk (f a0) a1 a2 a3 a4 a5 a6 a7
def N8.u1 {α : Type} (f : α → α) : N8 α → N8 α
 | .mk a0 a1 a2 a3 a4 a5 a6 a7 => .mk a0 (f a1) a2 a3 a4 a5 a6 a7
def N8.u2 {α : Type} (f : α → α) : N8 α → N8 α
 | .mk a0 a1 a2 a3 a4 a5 a6 a7 => .mk a0 a1 (f a2) a3 a4 a5 a6 a7
def N8.u3 {α : Type} (f : α → α) : N8 α → N8 α
 | .mk a0 a1 a2 a3 a4 a5 a6 a7 => .mk a0 a1 a2 (f a3) a4 a5 a6 a7
def N8.u4 {α : Type} (f : α → α) : N8 α → N8 α
 | .mk a0 a1 a2 a3 a4 a5 a6 a7 => .mk a0 a1 a2 a3 (f a4) a5 a6 a7
def N8.u5 {α : Type} (f : α → α) : N8 α → N8 α
 | .mk a0 a1 a2 a3 a4 a5 a6 a7 => .mk a0 a1 a2 a3 a4 (f a5) a6 a7
def N8.u6 {α : Type} (f : α → α) : N8 α → N8 α
 | .mk a0 a1 a2 a3 a4 a5 a6 a7 => .mk a0 a1 a2 a3 a4 a5 (f a6) a7
def N8.u7 {α : Type} (f : α → α) : N8 α → N8 α
 | .mk a0 a1 a2 a3 a4 a5 a6 a7 => .mk a0 a1 a2 a3 a4 a5 a6 (f a7)
def D8.sel {α : Type} : D8 → N8 α → α
 | .d0 => N8.s0
 | .d1 => N8.s1
 | .d2 => N8.s2
 | .d3 => N8.s3
 | .d4 => N8.s4
 | .d5 => N8.s5
 | .d6 => N8.s6
 | .d7 => N8.s7
def D8.upd {α : Type} : D8 → (α → α) → N8 α → N8 α
 | .d0 => N8.u0
 | .d1 => N8.u1
 | .d2 => N8.u2
 | .d3 => N8.u3
 | .d4 => N8.u4
 | .d5 => N8.u5
 | .d6 => N8.u6
 | .d7 => N8.u7
theorem D8.sel_upd {α : Type} (d e : D8) (f : α → α) (n : N8 α) : d.sel (e.upd f n) = if d = e then f (e.sel n) else d.sel n := by
 cases n; cases d <;> cases e <;> rfl
inductive Sl where
 | mk (a b c : D8)
 deriving DecidableEq, Inhabited
abbrev zAa := N8 (N8 (N8 V))
def zAa.get (T : zAa) : Sl → V
 | .mk a b c => c.sel (b.sel (a.sel T))
def zAa.set (T : zAa) (v : V) : Sl → zAa
 | .mk a b c => a.upd (b.upd (c.upd fun _ => v)) T
theorem zAa.get_set (T : zAa) (v : V) (p q : Sl) : (T.set v p).get q = if q = p then v else T.get q := by
 obtain ⟨a, b, c⟩ := p
 obtain ⟨d, e, f⟩ := q
 simp only [zAa.get, zAa.set, D8.sel_upd]
 by_cases h1 : d = a
 ·by_cases h2 : e = b
  ·by_cases h3 : f = c
   ·simp [h1, h2, h3, D8.sel_upd]
   ·simp [h1, h2, h3, D8.sel_upd]
  ·simp [h1, h2, D8.sel_upd]
 ·simp [h1]
def D8.ofN : Nat → D8
 | 0 => .d0 | 1 => .d1 | 2 => .d2 | 3 => .d3 | 4 => .d4 | 5 => .d5 | 6 => .d6 | _ => .d7
def D8.toNat : D8 → Nat
 | .d0 => 0 | .d1 => 1 | .d2 => 2 | .d3 => 3 | .d4 => 4 | .d5 => 5 | .d6 => 6 | .d7 => 7
def zAW (n : Nat) : Sl := .mk (.ofN (n / 64)) (.ofN (n / 8 % 8)) (.ofN (n % 8))
def Sl.toNat : Sl → Nat
 | .mk a b c => a.toNat * 64 + b.toNat * 8 + c.toNat
theorem D8.toNat_ofNat {n : Nat} (h : n < 8) : (D8.ofN n).toNat = n := by
 match n, h with
 | 0, _ | 1, _ | 2, _ | 3, _ | 4, _ | 5, _ | 6, _ | 7, _ => rfl
theorem zGr {n : Nat} (h : n < 512) : (zAW n).toNat = n := by
 simp only [zAW, Sl.toNat]
 rw [D8.toNat_ofNat (by omega), D8.toNat_ofNat (by omega), D8.toNat_ofNat (by omega)]
 omega
theorem zF7 {n k : Nat} (hn : n < 512) (hk : k < 512) (h : zAW n = zAW k) : n = k := by
 rw [← zGr hn, ← zGr hk, h]
def N8.all {α : Type} (x : α) : N8 α := .mk x x x x x x x x
def zFv : zAa := .all (.all (.all .undef))
def zHA : Nat → List V → zAa → zAa
 | _, [], T => T
 | n, v :: l, T => zHA (n + 1) l (T.set v (zAW n))
def nth {α : Type} : List α → Nat → Option α
 | [], _ => none
 | v :: _, 0 => some v
 | _ :: l, n + 1 => nth l n
theorem nth_eq {α : Type} : ∀ (l : List α) (n : Nat), nth l n = l[n]?
 | [], _ => rfl
 | _ :: _, 0 => rfl
 | _ :: l, n + 1 => by simpa [nth] using nth_eq l n
inductive Opd where
 | t (p : Sl)
 | c (v : V)
 deriving Inhabited
def ev (T : zAa) : Opd → V
 | .t p => T.get p
 | .c v => v
def wr (k : IntKind) (n : Int) : Int :=
 match k, n with
 | .i64, .ofNat m => bif Nat.blt m 9223372036854775808 then .ofNat m else k.wrap n
 | .i64, .negSucc m => bif Nat.blt m 9223372036854775808 then .negSucc m else k.wrap n
 | .u8, .ofNat m => .ofNat (m % 256)
 | .u16, .ofNat m => .ofNat (m % 65536)
 | .u32, .ofNat m => .ofNat (m % 4294967296)
 | .u64, .ofNat m => .ofNat (m % 18446744073709551616)
 | k, n => k.wrap n
theorem zC4 (n : Int) (h1 : -9223372036854775808 ≤ n) (h2 : n < 9223372036854775808) : IntKind.wrap .i64 n = n := by
 unfold IntKind.wrap
 have e1 : (2 ^ IntKind.bits .i64 : Int) = 18446744073709551616 := by decide
 have e2 : (2 ^ (IntKind.bits .i64 - 1) : Int) = 9223372036854775808 := by decide
 have e3 : IntKind.signed .i64 = true := rfl
 simp only [e1, e2, e3, Bool.true_and, ge_iff_le, decide_eq_true_eq]
 split <;> omega
theorem zF4 (k : IntKind) (n : Int) : wr k n = k.wrap n := by
 unfold wr
 split
 ·rename_i m
  by_cases h : m < 9223372036854775808
  ·rw [nbltT h, cond_true, zC4 _ (by simp only [Int.ofNat_eq_natCast]; omega) (by simp only [Int.ofNat_eq_natCast]; omega)]
  ·rw [nbltF h, cond_false]
 ·rename_i m
  by_cases h : m < 9223372036854775808
  ·rw [nbltT h, cond_true, zC4 _ (by omega) (by omega)]
  ·rw [nbltF h, cond_false]
 all_goals first
  | rfl
  | (simp [IntKind.wrap, IntKind.bits, IntKind.signed])
def toU (k : IntKind) (n : Int) : Nat :=
 match n with
 | .ofNat m => m % 2 ^ k.bits
 | n => (n % (2 ^ k.bits : Int)).toNat
def zDw : List Nat → List Nat → Bool
 | _, [] => false
 | [], _ :: _ => true
 | a :: x, b :: y => Nat.blt a b || (Nat.beq a b && zDw x y)
def binInt : BinOp → IntKind → Int → Int → Option V
 | .add => fun k a b => some (.int k (wr k (zCe a b)))
 | .sub => fun k a b => some (.int k (wr k (zIb a b)))
 | .mul => fun k a b => some (.int k (wr k (zH6 a b)))
 | .quo => fun k a b => bif eqI b 0 then none else some (.int k (wr k (a.tdiv b)))
 | .rem => fun k a b => bif eqI b 0 then none else some (.int k (a.tmod b))
 | .and => fun k a b => some (.int k (wr k (.ofNat (toU k a &&& toU k b))))
 | .or => fun k a b => some (.int k (wr k (.ofNat (toU k a ||| toU k b))))
 | .xor => fun k a b => some (.int k (wr k (.ofNat (toU k a ^^^ toU k b))))
 | .andNot => fun k a b => some (.int k (wr k (.ofNat (toU k a &&& (2 ^ k.bits - 1 - toU k b)))))
 | .eql => fun _ a b => some (.bool (eqI a b))
 | .neq => fun _ a b => some (.bool (!eqI a b))
 | .lss => fun _ a b => some (.bool (ltI a b))
 | .leq => fun _ a b => some (.bool (!ltI b a))
 | .gtr => fun _ a b => some (.bool (ltI b a))
 | .geq => fun _ a b => some (.bool (!ltI a b))
 | _ => fun _ _ _ => none
def zIQ (op : BinOp) (k : IntKind) (a b : Int) : Option V :=
 bif ltI b 0 then none else
 match op with
 | .shl => some (.int k (wr k (a * .ofNat (2 ^ min b.toNat k.bits))))
 | .shr => some (.int k (a.fdiv (.ofNat (2 ^ min b.toNat k.bits))))
 | _ => none
def binStr (op : BinOp) (a b : List Nat) : Option V :=
 match op with
 | .add => bif Nat.ble (a.length + b.length) 9223372036854775807 then some (.str (a ++ b)) else none
 | .eql => some (.bool (zFn a b))
 | .neq => some (.bool (!zFn a b))
 | .lss => some (.bool (zDw a b))
 | .leq => some (.bool (zDw a b || zFn a b))
 | .gtr => some (.bool !(zDw a b || zFn a b))
 | .geq => some (.bool !(zDw a b))
 | _ => none
def zGf : BinOp → Bool
 | .shl | .shr => true
 | _ => false
def zBg (op : BinOp) (x y : V) : Option V :=
 match x, y with
 | .int k a, .int j b => bif zGf op then zIQ op k a b else bif zGw k j then binInt op k a b else none
 | .str a, .str b => binStr op a b
 | _, _ => none
def unV (op : UnOp) (x : V) : Option V :=
 match op, x with
 | .neg, .int k n => some (.int k (wr k (0 - n)))
 | .not, .bool b => some (.bool !b)
 | .xor, .int k n => some (.int k (wr k (.ofNat (toU k (if k.signed then -1 else k.max) ^^^ toU k n))))
 | _, _ => none
end Go.AM
namespace Go.AM
open Go
inductive AOp where
 | quiet (reads : Bool) (f : zAa → Mem → Option V)
 | alloc (f : zAa → Nat → Option (V × zAe))
 | loud (f : zAa → Mem → Option (V × Mem))
 | next (it : Opd)
 | call (f : Opd) (args : List Opd)
instance : Inhabited AOp := ⟨.call (.c .undef) []⟩
structure zAO where
 dst : Option Sl
 op : AOp
 guard : Option (Sl × Bool)
instance : Inhabited zAO := ⟨⟨none, default, none⟩⟩
def Opd.evs (T : zAa) : List Opd → List V
 | [] => []
 | x :: xs => ev T x :: Opd.evs T xs
def zCz (m : Mem) (b : Nat) : Option (List V) :=
 match m.get b with
 | some (.cells cs _) => some cs
 | _ => none
def takeN : Nat → List V → Option (List V)
 | 0, _ => some []
 | _ + 1, [] => none
 | n + 1, v :: l => match takeN n l with | some r => some (v :: r) | none => none
def zCk : Nat → List V → List V
 | 0, l => l
 | _ + 1, [] => []
 | n + 1, _ :: l => zCk n l
def putN : List V → List V → Option (List V)
 | [], l => some l
 | _ :: _, [] => none
 | x :: xs, _ :: l => bif x.one then (match putN xs l with | some r => some (x :: r) | none => none) else none
def putAt (xs : List V) : Nat → List V → Option (List V)
 | 0, l => putN xs l
 | _ + 1, [] => none
 | n + 1, v :: l => match putAt xs n l with | some r => some (v :: r) | none => none
def zHd (m : Mem) (b off n : Nat) : Option (List V) :=
 match zCz m b with
 | some cs => takeN n (zCk off cs)
 | none => none
def zGq (m : Mem) (b off : Nat) (xs : List V) : Option Mem :=
 match m.get b with
 | some (.cells cs false) => match putAt xs off cs with | some r => some (m.set b (.cells r false)) | none => none
 | _ => none
def V.nat? : V → Option Nat
 | .int _ (.ofNat n) => some n
 | _ => none
def bytesV : List V → Option (List Nat)
 | [] => some []
 | .int .u8 (.ofNat n) :: l => match bytesV l with | some r => some (n % 256 :: r) | none => none
 | _ => none
def zCL : List Nat → List V
 | [] => []
 | n :: l => .int .u8 (.ofNat n) :: zCL l
def bound (T : zAa) (x : Option Opd) (d : Nat) : Option Nat :=
 match x with
 | none => some d
 | some x => (ev T x).nat?
def zIg (T : zAa) (cs : List V) : List (Nat × Nat × Opd) → Option (List V)
 | [] => some cs
 | (off, n, x) :: ps =>
  bif Nat.beq (ev T x).cells.length n then
   match putAt (ev T x).cells off cs with | some r => zIg T r ps | none => none
  else none
def zFG (kt : KT) (x y : V) : Option Bool :=
 match kt with
 | .one k => eqS k x y
 | .many ks => match x, y with | .agg a, .agg b => zAM ks a b | _, _ => none
def zFO (kt : KT) (k : V) : List (V × V × Nat) → Nat → Option (Option (Nat × V))
 | [], _ => some none
 | (j, v, _) :: es, i => match zFG kt k j with
  | some true => some (some (i, v))
  | some false => zFO kt k es (i + 1)
  | none => none
def keyOk (kt : KT) (k : V) : Bool :=
 match kt with
 | .one _ => true
 | .many ks => match k with | .agg cs => Nat.beq cs.length ks.length | _ => false
def zBC (kt : KT) (k : V) (es : List (V × V × Nat)) : Option (Option (Nat × V)) := bif keyOk kt k then zFO kt k es 0 else none
inductive NK where
 | ptr | slice | map | func | iface
def isNilK : NK → V → Option Bool
 | .ptr, .nilptr => some true
 | .ptr, .ptr _ _ => some false
 | .slice, .nilslice => some true
 | .slice, .slice _ _ _ _ _ => some false
 | .map, .nilmap => some true
 | .map, .map _ => some false
 | .func, .nilfunc => some true
 | .func, .func _ _ _ => some false
 | .iface, .niliface => some true
 | .iface, .iface _ _ => some false
 | _, _ => none
def zHy : V → List V → Option V
 | v, [] => some v
 | .int k a, .int _ b :: l => zHy (.int k (bif decide (b > a) then b else a)) l
 | _, _ => none
def zHx : V → List V → Option V
 | v, [] => some v
 | .int k a, .int _ b :: l => zHx (.int k (bif decide (b < a) then b else a)) l
 | _, _ => none
def slice3 (l h mx cap : Nat) : Bool := Nat.ble l h && Nat.ble h mx && Nat.ble mx cap
def zA3 (x : Opd) (T : zAa) (_ : Mem) : Option V :=
 some (ev T x)
def zAN (op : BinOp) (x y : Opd) (T : zAa) (_ : Mem) : Option V :=
 zBg op (ev T x) (ev T y)
def qEqv (neg : Bool) (kt : KT) (x y : Opd) (T : zAa) (_ : Mem) : Option V :=
 match zFG kt (ev T x) (ev T y) with | some b => some (.bool (b != neg)) | none => none
def zCN (neg : Bool) (k : NK) (x : Opd) (T : zAa) (_ : Mem) : Option V :=
 match isNilK k (ev T x) with | some b => some (.bool (b != neg)) | none => none
def qUn (op : UnOp) (x : Opd) (T : zAa) (_ : Mem) : Option V :=
 unV op (ev T x)
def zBj (k : IntKind) (x : Opd) (T : zAa) (_ : Mem) : Option V :=
 match ev T x with | .int _ n => some (.int k (wr k n)) | _ => none
def qB2s (x : Opd) (T : zAa) (m : Mem) : Option V :=
 match ev T x with
  | .nilslice => some (.str [])
  | .slice b off n _ _ => match zHd m b off n with
   | some cs => match bytesV cs with | some s => some (.str s) | none => none
   | none => none
  | _ => none
def zC6 (c a b : Opd) (T : zAa) (_ : Mem) : Option V :=
 match ev T c with | .bool t => some (bif t then ev T a else ev T b) | _ => none
def qIdxS (x i : Opd) (T : zAa) (_ : Mem) : Option V :=
 match ev T x, (ev T i).nat? with
  | .str s, some i => match nth s i with | some b => some (.int .u8 (.ofNat b)) | none => none
  | _, _ => none
def qExt (i : Nat) (x : Opd) (T : zAa) (_ : Mem) : Option V :=
 match ev T x with | .tuple vs => nth vs i | _ => none
def zDi (off : Nat) (x : Opd) (T : zAa) (_ : Mem) : Option V :=
 match ev T x with | .ptr b o => some (.ptr b (o + off)) | _ => none
def zAU (sz : Nat) (x i : Opd) (T : zAa) (_ : Mem) : Option V :=
 match ev T x, (ev T i).nat? with
  | .slice b off len _ sz', some i => bif Nat.blt i len && Nat.beq sz sz' then some (.ptr b (off + i * sz)) else none
  | _, _ => none
def zDQ (len sz : Nat) (x i : Opd) (T : zAa) (_ : Mem) : Option V :=
 match ev T x, (ev T i).nat? with
  | .ptr b off, some i => bif Nat.blt i len then some (.ptr b (off + i * sz)) else none
  | _, _ => none
def zB0 (x : Opd) (T : zAa) (m : Mem) : Option V :=
 match ev T x with
  | .ptr b off => match zCz m b with | some cs => nth cs off | none => none
  | _ => none
def zDC (n : Nat) (x : Opd) (T : zAa) (m : Mem) : Option V :=
 match ev T x with
  | .ptr b off => match zHd m b off n with | some cs => some (.agg cs) | none => none
  | _ => none
def zAd (x : Opd) (T : zAa) (_ : Mem) : Option V :=
 match ev T x with
  | .nilptr | .niliface | .nilfunc | .any => none
  | .func (.method _) _ _ => none
  | v => some v
def zBw (x : Opd) (T : zAa) (_ : Mem) : Option V :=
 match ev T x with
 | .str s => some (.int .i64 (.ofNat s.length))
 | _ => none
def zBP (x : Opd) (T : zAa) (_ : Mem) : Option V :=
 match ev T x with
 | .nilslice => some (.int .i64 0)
 | .slice _ _ n _ _ => some (.int .i64 (.ofNat n))
 | _ => none
def zCw (x : Opd) (T : zAa) (m : Mem) : Option V :=
 match ev T x with
 | .nilmap => some (.int .i64 0)
 | .map b => match m.get b with | some (.map es _ _) => some (.int .i64 (.ofNat es.length)) | _ => none
 | _ => none
def zA8 (x : Opd) (lo hi : Option Opd) (T : zAa) (_ : Mem) : Option V :=
 match ev T x with
  | .str s => match bound T lo 0, bound T hi s.length with
   | some l, some h => bif Nat.ble l h && Nat.ble h s.length then some (.str ((s.take h).drop l)) else none
   | _, _ => none
  | _ => none
def qSlcS (sz : Nat) (x : Opd) (lo hi mx : Option Opd) (T : zAa) (_ : Mem) : Option V :=
 match ev T x with
  | .nilslice => match bound T lo 0, bound T hi 0, bound T mx 0 with
   | some 0, some 0, some 0 => some .nilslice
   | _, _, _ => none
  | .slice b off len cap sz' => match bound T lo 0, bound T hi len, bound T mx cap with
   | some l, some h, some c => bif slice3 l h c cap && Nat.beq sz sz' then some (.slice b (off + l * sz) (h - l) (c - l) sz) else none
   | _, _, _ => none
  | _ => none
def zIW (len sz : Nat) (x : Opd) (lo hi mx : Option Opd) (T : zAa) (m : Mem) : Option V :=
 match ev T x with
 | .ptr b off => match zCz m b with
  | some cs => match bound T lo 0, bound T hi len, bound T mx len with
   | some l, some h, some c => bif slice3 l h c len && Nat.ble (off + len * sz) cs.length && Nat.blt 0 cs.length then some (.slice b (off + l * sz) (h - l) (c - l) sz) else none
   | _, _, _ => none
  | none => none
 | _ => none
def qMkf (fn : Fn) (a b : List Opd) (T : zAa) (_ : Mem) : Option V :=
 some (.func fn (Opd.evs T a) (Opd.evs T b))
def zGa (t : TypeId) (x : Opd) (T : zAa) (_ : Mem) : Option V :=
 some (.iface t (ev T x))
def qTa (t : TypeId) (ok : Bool) (zero : V) (x : Opd) (T : zAa) (_ : Mem) : Option V :=
 match ev T x with
 | .niliface => bif ok then some (.tuple [zero, .bool false]) else none
 | .iface u v => bif Nat.beq u t then some (bif ok then .tuple [v, .bool true] else v) else bif ok then some (.tuple [zero, .bool false]) else none
 | _ => none
def lFail (_ : zAa) (_ : Mem) : Option (V × Mem) := none
def zGb (kt : KT) (ok : Bool) (zero : V) (mp k : Opd) (T : zAa) (m : Mem) : Option V :=
  let out (v : V) (b : Bool) : V := bif ok then .tuple [v, .bool b] else v
  match ev T mp with
  | .nilmap => bif keyOk kt (ev T k) then some (out zero false) else none
  | .map b => match m.get b with
   | some (.map es _ _) => match zBC kt (ev T k) es with
    | some (some (_, v)) => some (out v true)
    | some none => some (out zero false)
    | none => none
   | _ => none
  | _ => none
def zC7 (zero : List V) (parts : List (Nat × Nat × Opd)) (T : zAa) (_ : Mem) : Option V :=
 match zIg T zero parts with | some cs => some (.agg cs) | none => none
def qMaxi (xs : List Opd) (T : zAa) (_ : Mem) : Option V :=
 match Opd.evs T xs with | v :: l => zHy v l | [] => none
def qMini (xs : List Opd) (T : zAa) (_ : Mem) : Option V :=
 match Opd.evs T xs with | v :: l => zHx v l | [] => none
def small (n bytes : Nat) : Bool := Nat.ble (n * bytes) 1099511627776 && Nat.ble n 1099511627776
def zCs (x : Opd) (T : zAa) (nx : Nat) : Option (V × zAe) :=
 match ev T x with
 | .any => none
 | v => some (.ptr nx 0, .cells v.cells false)
def zF3 (sz len : Nat) (zero : List V) (parts : List (Nat × Nat × Opd)) (T : zAa) (nx : Nat) : Option (V × zAe) :=
 match zIg T ((List.replicate len zero).flatten) parts with
  | some cs => some (.slice nx 0 len len sz, .cells cs false)
  | none => none
def aMks (sz bytes : Nat) (zero : List V) (l c : Opd) (T : zAa) (nx : Nat) : Option (V × zAe) :=
 match (ev T l).nat?, (ev T c).nat? with
  | some l, some c => bif Nat.ble l c && small c bytes then some (.slice nx 0 l c sz, .cells ((List.replicate c zero).flatten) false) else none
  | _, _ => none
def aMkm  (_ : zAa) (nx : Nat) : Option (V × zAe) :=
 some (.map nx, .map [] 0 false)
def aS2b (x : Opd) (T : zAa) (nx : Nat) : Option (V × zAe) :=
 match ev T x with
  | .str s => some (.slice nx 0 s.length s.length 1, .cells (zCL s) false)
  | _ => none
def minO (k : Option Nat) (n : Nat) : Nat :=
 match k with
 | none => n
 | some k => min k n
def takeO (k : Option Nat) (s : List Nat) : List Nat :=
 match k with
 | none => s
 | some k => s.take k
def zDL : List V → Bool
 | [] => true
 | v :: l => v.one && zDL l
def zCg (m : Mem) (sz : Nat) (n : Option Nat) : V → Option (List V)
 | .nilslice => some []
 | .slice b off len _ sz' => bif Nat.beq sz sz' then zHd m b off (minO n len * sz) else none
 | .str s => some (zCL (takeO n s))
 | _ => none
def srcLen : V → Option Nat
 | .nilslice => some 0
 | .slice _ _ len _ _ => some len
 | .str s => some s.length
 | _ => none
def zA0 (n : Nat) (a x : Opd) (T : zAa) (m : Mem) : Option (V × Mem) :=
 match ev T a with
  | .ptr b off => bif Nat.beq (ev T x).cells.length n then
    match zGq m b off (ev T x).cells with | some m' => some (.undef, m') | none => none
   else none
  | _ => none
def zGo (sz bytes n : Nat) (new : List V) (s : V) (m : Mem) : Option (V × Mem) :=
 match s with
 | .nilslice => bif Nat.beq n 0 then some (.nilslice, m) else
   bif small n bytes then some (.slice m.next 0 n n sz, m.new (.cells new false)) else none
 | .slice b off len cap sz' =>
  bif Nat.beq n 0 then some (.slice b off len cap sz', m) else
  bif Nat.beq sz sz' then
   bif Nat.ble (len + n) cap then
    match zGq m b (off + len * sz) new with | some m' => some (.slice b off (len + n) cap sz, m') | none => none
   else
    bif small (len + n) bytes && zDL new then
     match m.get b with
     | some (.cells cs false) => match takeN (len * sz) (zCk off cs) with
      | some old => some (.slice m.next 0 (len + n) (len + n) sz, (m.set b .dead).new (.cells (old ++ new) false))
      | none => none
     | _ => none
    else none
  else none
 | _ => none
def strOk (sz : Nat) : V → Bool
 | .str _ => Nat.beq sz 1
 | _ => true
def zE2 (sz bytes : Nat) (s x : Opd) (T : zAa) (m : Mem) : Option (V × Mem) :=
 bif strOk sz (ev T x) then
  match srcLen (ev T x), zCg m sz none (ev T x) with
  | some n, some new => zGo sz bytes n new (ev T s) m
  | _, _ => none
 else none
def lRng (x : Opd) (T : zAa) (m : Mem) : Option (V × Mem) :=
 match ev T x with
 | .nilmap => some (.ptr m.next 0, m.new (.iter none 0 [] 0))
 | .map b => match m.get b with | some (.map _ clock _) => some (.ptr m.next 0, m.new (.iter (some b) clock [] clock)) | _ => none
 | _ => none
def lClrS (zero : List V) (s : Opd) (T : zAa) (m : Mem) : Option (V × Mem) :=
 match ev T s with
  | .nilslice => some (.tuple [], m)
  | .slice b off len _ sz => bif Nat.beq sz zero.length then
    (match len with
     | 0 => some (.tuple [], m)
     | len => match zGq m b off ((List.replicate len zero).flatten) with | some m' => some (.tuple [], m') | none => none)
   else none
  | _ => none
def zB3 (kt : KT) (mp k x : Opd) (T : zAa) (m : Mem) : Option (V × Mem) :=
 match ev T mp with
  | .map b => match m.get b with
   | some (.map es clock false) => match zBC kt (ev T k) es with
    | some (some (i, _)) => some (.undef, m.set b (.map (es.modify i fun e => (ev T k, ev T x, e.2.2)) clock false))
    | some none => some (.undef, m.set b (.map (es ++ [(ev T k, ev T x, clock)]) (clock + 1) false))
    | none => none
   | _ => none
  | _ => none
def lMent (kt : KT) (zero : V) (mp k : Opd) (T : zAa) (m : Mem) : Option (V × Mem) :=
 match ev T mp with
 | .map b => match m.get b with
  | some (.map es clock false) => match zBC kt (ev T k) es with
   | some (some (i, v)) => match nth es i with
    | some e => some (.tuple [v, .int .i64 (.ofNat e.2.2)], m.set b (.map (es.modify i fun e => (ev T k, e.2)) clock false))
    | none => none
   | some none => some (.tuple [zero, .int .i64 (.ofNat clock)], m.set b (.map (es ++ [(ev T k, zero, clock)]) (clock + 1) false))
   | none => none
  | _ => none
 | _ => none
def findB (s : Nat) : List (V × V × Nat) → Nat → Option Nat
 | [], _ => none
 | e :: es, i => bif Nat.beq e.2.2 s then some i else findB s es (i + 1)
def lEsto (mp s x : Opd) (T : zAa) (m : Mem) : Option (V × Mem) :=
 match ev T mp, ev T s with
 | .map b, .int _ (.ofNat s) => match m.get b with
  | some (.map es clock false) => match findB s es 0 with
   | some i => some (.undef, m.set b (.map (es.modify i fun e => (e.1, ev T x, e.2.2)) clock false))
   | none => none
  | _ => none
 | _, _ => none
def lClrM (mp : Opd) (T : zAa) (m : Mem) : Option (V × Mem) :=
 match ev T mp with
 | .nilmap => some (.tuple [], m)
 | .map b => match m.get b with
  | some (.map _ clock false) => some (.tuple [], m.set b (.map [] clock false))
  | _ => none
 | _ => none
def zCp (kt : KT) (mp k : Opd) (T : zAa) (m : Mem) : Option (V × Mem) :=
 match ev T mp with
  | .nilmap => bif keyOk kt (ev T k) then some (.tuple [], m) else none
  | .map b => match m.get b with
   | some (.map es clock false) => match zBC kt (ev T k) es with
    | some (some (i, _)) => some (.tuple [], m.set b (.map (es.eraseIdx i) clock false))
    | some none => some (.tuple [], m)
    | none => none
   | _ => none
  | _ => none
def entryV (last : Option Nat) (mo : Option zAe) (stepped : Nat) : Option V :=
 match last, mo with
 | some stamp, some (.map es clock _) => bif Nat.beq clock stepped then
   (match es.find? (fun e => Nat.beq e.2.2 stamp) with | some e => some (.tuple [e.1, e.2.1]) | none => none)
  else none
 | _, _ => none
def zHf (it : Opd) (T : zAa) (m : Mem) : Option V :=
 match ev T it with
  | .ptr b 0 => match m.get b with
   | some (.iter (some mb) _ seen stepped) => entryV seen.getLast? (m.get mb) stepped
   | _ => none
  | _ => none
structure DItem where
 o : zAO
 again : List zAO
inductive DT where
 | fin
 | calm (o : zAO) (t : DT)
 | last (d : DItem) (t : DT)
 | fork (d : DItem) (t o : DT)
inductive zAz where
 | skip
 | ops (l : List zAO)
 | draw (main : DT) (suf : List zAO)
 | seq (a b : zAz)
 | cond (c : Opd) (a b : zAz)
 | block (id : Nat) (b : zAz)
 | loop (b : zAz)
 | exit (id : Nat)
 | ret
 | rangeFunc (f : Opd) (ps : List Sl) (a b : zAz)
inductive Ex where
 | normal
 | exit (id : Nat)
 | ret
structure Ans (R : Type) where
 fail : R
 both : R → R → R
abbrev CF (R : Type) := V → List V → Mem → (V → Mem → R) → R
section
variable {R : Type} (A : Ans R) (cf : CF R)
def zAT (o : zAO) (T : zAa) : Bool :=
 match o.guard with
 | none => true
 | some (t, want) => match T.get t with | .bool b => b == want | _ => false
def zD7 (dst : Option Sl) (v : V) (T : zAa) : zAa :=
 match dst with
 | none => T
 | some d => T.set v d
def nextS (m : Mem) (it : V) : Option (List (V × Mem)) :=
 match it with
 | .ptr r 0 => match m.get r with
  | some (.iter none _ _ _) => some [(.tuple [.bool false], m)]
  | some (.iter (some mb) since seen stepped) => match m.get mb with
   | some (.map es clock _) =>
    bif !seen.isEmpty && !es.isEmpty && es.all (fun e => Nat.ble stepped e.2.2) then none else
    let left := es.filter fun e => !seen.contains e.2.2
    bif left.all (fun e => Nat.blt e.2.2 since) then
     match left with
     | [] => some [(.tuple [.bool false], m)]
     | left => some (left.map fun e => (.tuple [.bool true, e.1, e.2.1], m.set r (.iter (some mb) since (seen ++ [e.2.2]) clock)))
    else none
   | _ => none
  | _ => none
 | _ => none
def allR (K : V → Mem → R) : List (V × Mem) → R
 | [] => A.fail
 | [(v, m)] => K v m
 | (v, m) :: l => A.both (K v m) (allR K l)
def zCE (o : AOp) (T : zAa) (m : Mem) (K : V → Mem → R) : R :=
 match o with
 | .quiet _ f => match f T m with | some v => K v m | none => A.fail
 | .alloc f => match f T m.next with | some (v, ob) => K v (m.new ob) | none => A.fail
 | .loud f => match f T m with | some (v, m') => K v m' | none => A.fail
 | .next it => match nextS m (ev T it) with | some l => allR A K l | none => A.fail
 | .call f args => cf (ev T f) (Opd.evs T args) m K
def opers : List zAO → zAa → Mem → (zAa → Mem → R) → R
 | [], T, m, K => K T m
 | o :: os, T, m, K =>
  bif zAT o T then zCE A cf o.op T m fun v m' => opers os (zD7 o.dst v T) m' K
  else opers os (zD7 o.dst .undef T) m K
def V.eqB : V → V → Bool
 | .bool a, .bool b => a == b
 | .int j a, .int k b => decide (j = k) && decide (a = b)
 | .str a, .str b => zFn a b
 | .ptr a i, .ptr b j => Nat.beq a b && Nat.beq i j
 | .nilptr, .nilptr => true
 | .slice a i j k n, .slice b i' j' k' n' => Nat.beq a b && Nat.beq i i' && Nat.beq j j' && Nat.beq k k' && Nat.beq n n'
 | .nilslice, .nilslice => true
 | .map a, .map b => Nat.beq a b
 | .nilmap, .nilmap => true
 | .nilfunc, .nilfunc => true
 | .niliface, .niliface => true
 | .iface t v, .iface u w => Nat.beq t u && v.eqB w
 | _, _ => false
def eqBs : List V → List V → Bool
 | [], [] => true
 | a :: as, b :: bs => a.eqB b && eqBs as bs
 | _, _ => false
def V.eqB1 : V → V → Bool
 | .agg a, .agg b => eqBs a b
 | .tuple a, .tuple b => eqBs a b
 | a, b => a.eqB b
def eqEs : List (V × V × Nat) → List (V × V × Nat) → Bool
 | [], [] => true
 | (k, v, n) :: a, (k', v', n') :: b => k.eqB1 k' && v.eqB1 v' && Nat.beq n n' && eqEs a b
 | _, _ => false
def zAe.eqB : zAe → zAe → Bool
 | .cells a r, .cells b q => (r == q) && eqBs a b
 | .map a c r, .map b d q => eqEs a b && Nat.beq c d && (r == q)
 | _, _ => false
def zE9 (T : zAa) (m m' : Mem) (o : zAO) : Bool :=
 bif zAT o T then
  match o.op, o.dst with
  | .quiet _ f, some d => match f T m' with | some v => v.eqB1 (T.get d) | none => false
  | .alloc _, some d => match T.get d with
   | .ptr b _ | .slice b _ _ _ _ | .map b => match m.get b, m'.get b with | some x, some y => x.eqB y | _, _ => false
   | _ => false
  | _, _ => false
 else true
def freshB (m : Mem) : AOp → Bool
 | .alloc _ => match m.get m.next with | none => true | some _ => false
 | _ => true
def drawn : DT → zAa → Mem → (zAa → Mem → R) → R
 | .fin, T, m, K => K T m
 | .calm o t, T, m, K =>
  bif zAT o T then
   bif freshB m o.op then zCE A cf o.op T m fun v m' => drawn t (zD7 o.dst v T) m' K else A.fail
  else drawn t (zD7 o.dst .undef T) m K
 | .last d t, T, m, K =>
  bif zAT d.o T then zCE A cf d.o.op T m fun v m' =>
   bif d.again.all (zE9 T m m') then drawn t (zD7 d.o.dst v T) m' K else A.fail
  else drawn t (zD7 d.o.dst .undef T) m K
 | .fork d t o, T, m, K => A.both
  (bif zAT d.o T then zCE A cf d.o.op T m fun v m' =>
   bif d.again.all (zE9 T m m') then drawn t (zD7 d.o.dst v T) m' K else A.fail
  else drawn t (zD7 d.o.dst .undef T) m K)
  (drawn o T m K)
def iter (body : zAa → Mem → (Ex → zAa → Mem → R) → R) : Nat → zAa → Mem → (Ex → zAa → Mem → R) → R
 | 0, _, _, _ => A.fail
 | n + 1, T, m, K => body T m fun e T' m' => match e with
  | .normal => iter body n T' m' K
  | e => K e T' m'
def rounds : Nat := 1099511627776
abbrev Ys (R : Type) := Nat → Option (List V → Mem → (V → Mem → R) → R)
def Ys.none {R : Type} : Ys R := fun _ => .none
def Ys.put {R : Type} (Y : Ys R) (l : Nat) (h : List V → Mem → (V → Mem → R) → R) : Ys R := fun k => bif Nat.beq k l then some h else Y k
def fillA : List Sl → List V → zAa → Option zAa
 | [], [], T => some T
 | p :: ps, v :: vs, T => fillA ps vs (T.set v p)
 | _, _, _ => .none
def zHD (l : Nat) (e : Ex) (m : Mem) (K : V → Mem → R) : R :=
 match m.get l with
 | some (.loop _ _) => match e with
  | .normal => K (.bool true) (m.set l (.loop 0 .none))
  | .exit id => K (.bool false) (m.set l (.loop 1 (some (some id))))
  | .ret => K (.bool false) (m.set l (.loop 1 (some .none)))
 | _ => A.fail
def roundA (l : Nat) (ps : List Sl) (a b : zAa → Mem → (Ex → zAa → Mem → R) → R) (T : zAa) : List V → Mem → (V → Mem → R) → R := fun args m K =>
 match m.get l, fillA ps args T with
 | some (.loop _ _), some T1 => a T1 m fun e T2 m2 => match e with
  | .normal => (match m2.get l with
   | some (.loop 0 p) => b T2 (m2.set l (.loop 2 p)) fun e _ m3 => zHD A l e m3 K
   | _ => A.fail)
  | _ => A.fail
 | _, _ => A.fail
def endLoopA (l : Nat) (T : zAa) (m : Mem) (K : Ex → zAa → Mem → R) : R :=
 match m.get l with
 | some (.loop st p) => bif Nat.beq st 2 then A.fail else
  match p with
  | .none => K .normal T (m.set l (.loop 3 p))
  | some .none => K .ret T (m.set l (.loop 3 p))
  | some (some id) => K (.exit id) T (m.set l (.loop 3 p))
 | _ => A.fail
variable (cfy : Ys R → CF R) (Y : Ys R)
def code : zAz → zAa → Mem → (Ex → zAa → Mem → R) → R
 | .skip, T, m, K => K .normal T m
 | .ops l, T, m, K => opers A (cfy Y) l T m fun T m => K .normal T m
 | .draw l s, T, m, K => drawn A (cfy Y) l T m fun T m => opers A (cfy Y) s T m fun T m => K .normal T m
 | .seq a b, T, m, K => code a T m fun e T' m' => match e with
  | .normal => code b T' m' K
  | e => K e T' m'
 | .cond c a b, T, m, K => match ev T c with
  | .bool true => code a T m K
  | .bool false => code b T m K
  | _ => A.fail
 | .block id b, T, m, K => code b T m fun e T' m' => match e with
  | .exit j => bif Nat.beq j id then K .normal T' m' else K e T' m'
  | e => K e T' m'
 | .loop b, T, m, K => iter A (code b) rounds T m K
 | .exit id, T, m, K => K (.exit id) T m
 | .ret, T, m, K => K .ret T m
 | .rangeFunc f ps a b, T, m, K => match ev T f with
  | .func (.func g) [] cap => cfy (Y.put m.next (roundA A m.next ps (code a) (code b) T)) (.func (.func g) [] cap) [.yield m.next] (m.new (.loop 0 .none)) fun _ m' => endLoopA A m.next T m' K
  | _ => A.fail
inductive ARes where
 | tmp (t : Sl)
 | cell1 (t : Sl)
 | cellN (n : Nat) (t : Sl)
 deriving Inhabited
structure zAr where
 nt : Nat
 res : List ARes
 body : zAz
def resV (T : zAa) (m : Mem) : ARes → Option V
 | .tmp t => some (T.get t)
 | .cell1 t => zB0 (.t t) T m
 | .cellN n t => zDC n (.t t) T m
def resVs (T : zAa) (m : Mem) : List ARes → Option (List V)
 | [] => some []
 | r :: rs => match resV T m r with
  | some v => match resVs T m rs with | some vs => some (v :: vs) | none => none
  | none => none
def zGt (f : zAr) (T : zAa) (m : Mem) : Option V :=
 match resVs T m f.res with
 | some [v] => some v
 | some vs => some (.tuple vs)
 | none => none
def zAD (f : zAr) (args : List V) (m : Mem) (K : V → Mem → R) : R :=
 bif Nat.ble args.length f.nt then
  code A cfy Y f.body (zHA 0 args zFv) m fun e T m' => match e with
   | .exit _ => A.fail
   | _ => match zGt f T m' with | some v => K v m' | none => A.fail
 else A.fail
end
def zAt {R : Type} (A : Ans R) (tab : Nat → Option zAr) (last : CF R) : Nat → Ys R → CF R
 | 0 => fun _ => last
 | d + 1 => fun Y f args m K => match f with
  | .func (.func f) [] cap => match tab f with
   | some af => zAD A (zAt A tab last d) Y af (args ++ cap) m K
   | none => last (.func (.func f) [] cap) args m K
  | .yield l => match Y l with
   | some h => h args m K
   | none => A.fail
  | f => last f args m K
end Go.AM
namespace Go.AM
open Go
mutual
def zB7 : Value → Option V
 | .bool b => some (.bool b)
 | .int k n => some (.int k n)
 | .string s => some (.str (s.data.toList.map UInt8.toNat))
 | .pointer none => some .nilptr
 | .slice none 0 0 => some .nilslice
 | .map none => some .nilmap
 | .nilFunc => some .nilfunc
 | .nilIface => some .niliface
 | .agg ⟨cs⟩ => match zGu cs with | some l => some (.agg l) | none => none
 | .tuple ⟨cs⟩ => match zGu cs with | some l => some (.tuple l) | none => none
 | .func (.func f) ⟨a⟩ ⟨b⟩ => match zGu a, zGu b with | some a, some b => some (.func (.func f) a b) | _, _ => none
 | .iface t v => match zB7 v with | some v => some (.iface t v) | none => none
 | _ => none
def zGu : List Value → Option (List V)
 | [] => some []
 | v :: l => match zB7 v, zGu l with | some v, some l => some (v :: l) | _, _ => none
end
def opd (nt : Nat) : Operand → Option Opd
 | .tmp t => bif Nat.blt t nt then some (.t (zAW t)) else none
 | .const v => match zB7 v with | some v => some (.c v) | none => none
 | .func f => some (.c (.func (.func f) [] []))
 | .global _ => none
def zIY (nt : Nat) : List Operand → Option (List Opd)
 | [] => some []
 | x :: l => match opd nt x, zIY nt l with | some x, some l => some (x :: l) | _, _ => none
def zEy (nt : Nat) : Option Operand → Option (Option Opd)
 | none => some none
 | some x => match opd nt x with | some x => some (some x) | none => none
section
variable (P : Program) (nt : Nat)
def zFo (t : TypeId) : Option Bool :=
 match P.underlying t with
 | some (.struct _) | some (.array _ _) => some true
 | some _ => some false
 | none => none
def zBa (t : TypeId) : Option Nat := (P.info? t).map (·.size)
def zFY (t : TypeId) : Option Nat := (P.info? t).map (·.bytes)
def zB6 (t : TypeId) : Option V := match P.info? t with
 | some i => match i.zero with | some v => zB7 v | none => none
 | none => none
def zHs (kd : TypeId → Option (List SK)) : List Field → Nat → Option (List SK)
 | [], _ => some []
 | f :: fs, off => bif decide (f.name = "_") || !Nat.beq f.offset off then none else
  match kd f.type, zBa P f.type with
  | some k, some n => bif Nat.beq n k.length then (match zHs kd fs (off + k.length) with | some r => some (k ++ r) | none => none) else none
  | _, _ => none
def kinds : Nat → TypeId → Option (List SK)
 | 0, _ => none
 | d + 1, t =>
  match P.underlying t with
  | some .bool => some [.bool]
  | some (.int _) => some [.int]
  | some .string => some [.str]
  | some (.struct fs) => bif P.stoodInHeld t then none else zHs P (kinds d) fs.toList 0
  | some (.array n e) => match kinds d e, zBa P e with
   | some k, some z => bif Nat.beq z k.length then some ((List.replicate n k).flatten) else none
   | _, _ => none
  | _ => none
def keyT (t : TypeId) : Option KT :=
 match P.underlying t with
 | some .bool => some (.one .bool)
 | some (.int _) => some (.one .int)
 | some .string => some (.one .str)
 | some (.struct _) | some (.array _ _) => match kinds P 30 t with | some ks => some (.many ks) | none => none
 | some (.pointer e) => match zBa P e with | some 0 | none => none | some _ => some (.one .ptr)
 | _ => none
def zHl (fs : Array Field) : List (Nat × Operand) → Option (List (Nat × Nat × Opd))
 | [] => some []
 | (i, x) :: ps => match fs[i]?, opd nt x, zHl fs ps with
  | some f, some x, some ps => match zBa P f.type with | some n => some ((f.offset, n, x) :: ps) | none => none
  | _, _, _ => none
def zE0 (sz : Nat) : List (Nat × Operand) → Option (List (Nat × Nat × Opd))
 | [] => some []
 | (i, x) :: ps => match opd nt x, zE0 sz ps with
  | some x, some ps => some ((i * sz, sz, x) :: ps)
  | _, _ => none
def nilT (t : TypeId) : Option NK :=
 match P.underlying t with
 | some (.slice _) => some .slice
 | some (.map _ _) => some .map
 | some (.interface _) => some .iface
 | some (.func _ _ _) => some .func
 | some (.pointer _) => some .ptr
 | _ => none
def zGx : NK → Operand → Bool
 | .slice, .const (.slice none 0 0) | .map, .const (.map none) | .func, .const .nilFunc | .iface, .const .nilIface | .ptr, .const (.pointer none) => true
 | _, _ => false
def compOp (o : Op) : Option AOp :=
 match o with
 | .move x | .assign x => do some (.quiet false (zA3 (← opd nt x)))
 | .pick c a b => do some (.quiet false (zC6 (← opd nt c) (← opd nt a) (← opd nt b)))
 | .alloc t => do some (.alloc (zCs (.c (← zB6 P t))))
 | .box _ x => do some (.alloc (zCs (← opd nt x)))
 | .build t parts => do
  let .agg z ← zB6 P t | none
  match P.underlying t with
  | some (.struct fs) => bif fs.all (fun f => (zBa P f.type).isSome) then some (.quiet false (zC7 z (← zHl P nt fs parts.toList))) else none
  | some (.array _ e) => some (.quiet false (zC7 z (← zE0 nt (← zBa P e) parts.toList)))
  | _ => none
 | .buildSlice t len parts => do
  let some (.slice e) := P.underlying t | none
  let sz ← zBa P e
  let z ← zB6 P e
  bif Nat.ble (len * sz) 16777216 && Nat.beq z.cells.length sz && !Nat.beq sz 0 then some (.alloc (zF3 sz len z.cells (← zE0 nt sz parts.toList))) else none
 | .insert t m k x | .mapUpdate t m k x => do
  let some (.map kt _) := P.underlying t | none
  some (.loud (zB3 (← keyT P kt) (← opd nt m) (← opd nt k) (← opd nt x)))
 | .load t a => do
  match ← zFo P t with
  | true => some (.quiet true (zDC (← zBa P t) (← opd nt a)))
  | false => some (.quiet true (zB0 (← opd nt a)))
 | .store t a x => do some (.loud (zA0 (← zBa P t) (← opd nt a) (← opd nt x)))
 | .nilCheck x => do some (.quiet false (zAd (← opd nt x)))
 | .binOp op t x y _ => do
  match P.underlying t with
  | some (.int _) | some .string => some (.quiet false (zAN op (← opd nt x) (← opd nt y)))
  | _ =>
   let neg ← (match op with | .eql => some false | .neq => some true | _ => none)
   let x' ← opd nt x
   let y' ← opd nt y
   match nilT P t, keyT P t with
   | some nk, kt =>
    bif zGx nk y then some (.quiet false (zCN neg nk x'))
    else bif zGx nk x then some (.quiet false (zCN neg nk y'))
    else match kt with
     | some (.one k) => some (.quiet false (qEqv neg (.one k) x' y'))
     | _ => none
   | none, some (.one k) => some (.quiet false (qEqv neg (.one k) x' y'))
   | none, some (.many ks) => bif P.eqGuardType P.depth t then none else some (.quiet false (qEqv neg (.many ks) x' y'))
   | none, none => none
 | .unOp op _ x => do some (.quiet false (qUn op (← opd nt x)))
 | .convert s d x => do
  match P.underlying s, P.underlying d with
  | some (.int _), some (.int k) => some (.quiet false (zBj k (← opd nt x)))
  | some (.slice e), some .string => match P.underlying e with | some (.int .u8) => some (.quiet true (qB2s (← opd nt x))) | _ => none
  | some .string, some (.slice e) => match P.underlying e with | some (.int .u8) => some (.alloc (aS2b (← opd nt x))) | _ => none
  | _, _ => none
 | .makeInterface t x => match P.underlying t with
  | some (.interface _) | none => none
  | some _ => do some (.quiet false (zGa t (← opd nt x)))
 | .typeAssert x _ t ok => match P.underlying t with
  | some (.interface _) | none => none
  | some _ => do some (.quiet false (qTa t ok (← zB6 P t) (← opd nt x)))
 | .panic _ => some (.loud lFail)
 | .makeFunc fn a b => do
  match fn with
  | .func f => some (.quiet false (qMkf (.func f) (← zIY nt a.toList) (← zIY nt b.toList)))
  | _ => none
 | .makeMap _ none => some (.alloc aMkm)
 | .makeSlice t l c => do
  let some (.slice e) := P.underlying t | none
  let sz ← zBa P e
  let z ← zB6 P e
  bif Nat.beq z.cells.length sz && !Nat.beq sz 0 then some (.alloc (aMks sz (← zFY P e) z.cells (← opd nt l) (← opd nt c))) else none
 | .slice t x lo hi mx => bif mx.isSome && !hi.isSome then none else do
  match P.underlying t with
  | some .string => bif mx.isSome then none else some (.quiet false (zA8 (← opd nt x) (← zEy nt lo) (← zEy nt hi)))
  | some (.slice e) => some (.quiet false (qSlcS (← zBa P e) (← opd nt x) (← zEy nt lo) (← zEy nt hi) (← zEy nt mx)))
  | some (.array n e) => some (.quiet true (zIW n (← zBa P e) (← opd nt x) (← zEy nt lo) (← zEy nt hi) (← zEy nt mx)))
  | _ => none
 | .fieldAddr t x f => do
  let some (.struct fs) := P.underlying t | none
  let fl ← fs[f]?
  match ← zBa P fl.type with
  | 0 => none
  | _ => some (.quiet false (zDi fl.offset (← opd nt x)))
 | .indexAddr t x i => do
  match P.underlying t with
  | some (.array n e) => some (.quiet false (zDQ n (← zBa P e) (← opd nt x) (← opd nt i)))
  | some (.slice e) => some (.quiet false (zAU (← zBa P e) (← opd nt x) (← opd nt i)))
  | _ => none
 | .index t x i => do
  match P.underlying t with
  | some .string => some (.quiet false (qIdxS (← opd nt x) (← opd nt i)))
  | _ => none
 | .lookup t m k ok => do
  let some (.map kt e) := P.underlying t | none
  some (.quiet true (zGb (← keyT P kt) ok (← zB6 P e) (← opd nt m) (← opd nt k)))
 | .range t x => match P.underlying t with
  | some (.map _ _) => do some (.loud (lRng (← opd nt x)))
  | _ => none
 | .next it false => do some (.next (← opd nt it))
 | .entry it => do some (.quiet true (zHf (← opd nt it)))
 | .extract x i => do some (.quiet false (qExt i (← opd nt x)))
 | .call c =>
  match c.callee with
  | .value f => do some (.call (← opd nt f) (← zIY nt c.args.toList))
  | .builtin b =>
   match b, c.argTypes.toList, c.args.toList with
   | .append, [t, u], [s, x] => do
    let some (.slice e) := P.underlying t | none
    match P.underlying u with
    | some (.slice _) => do
     let sz ← zBa P e
     let z ← zB6 P e
     bif Nat.beq sz 0 || !Nat.beq z.cells.length sz then none else some (.loud (zE2 sz (← zFY P e) (← opd nt s) (← opd nt x)))
    | some .string => do
     let sz ← zBa P e
     let z ← zB6 P e
     bif !Nat.beq sz 1 || !Nat.beq z.cells.length sz then none else some (.loud (zE2 sz (← zFY P e) (← opd nt s) (← opd nt x)))
    | _ => none
   | .len, [t], [x] => match P.underlying t with
    | some .string => do some (.quiet false (zBw (← opd nt x)))
    | some (.slice _) => do some (.quiet false (zBP (← opd nt x)))
    | some (.map _ _) => do some (.quiet true (zCw (← opd nt x)))
    | _ => none
   | .max, _, xs => do some (.quiet false (qMaxi (← zIY nt xs)))
   | .min, _, xs => do some (.quiet false (qMini (← zIY nt xs)))
   | .delete, [t, _], [m, k] => do
    let some (.map kt _) := P.underlying t | none
    some (.loud (zCp (← keyT P kt) (← opd nt m) (← opd nt k)))
   | .clear, [t], [s] => match P.underlying t with
    | some (.slice e) => do
     let z ← zB6 P e
     bif Nat.beq z.cells.length 0 then none else some (.loud (lClrS z.cells (← opd nt s)))
    | some (.map _ _) => do some (.loud (lClrM (← opd nt s)))
    | _ => none
   | _, _, _ => none
  | .invoke _ _ => none
 | _ => none
def zHM (ops : Array Oper) : Option (Nat × Bool) → Option (Option (Sl × Bool))
 | none => some none
 | some (j, want) => match ops[j]? with
  | some o => match o.dst with | some d => bif Nat.blt d nt then some (some (zAW d, want)) else none | none => none
  | none => none
def zJh (ops : Array Oper) (o : Oper) : Option zAO := do
 let op ← compOp P nt o.op
 let g ← zHM nt ops o.guard
 match o.dst with
 | none => some ⟨none, op, g⟩
 | some d => bif Nat.blt d nt then some ⟨some (zAW d), op, g⟩ else none
def zEm (ops : Array Oper) : List Oper → Option (List zAO)
 | [] => some []
 | o :: l => match zJh P nt ops o, zEm ops l with | some o, some l => some (o :: l) | _, _ => none
def zBB (ops : Array Oper) : List Nat :=
 ops.toList.foldl (fun acc o => acc ++ [o.after.toList.foldl (fun s e => bif Region.binds .any e then s ||| 2 ^ e.on ||| (acc.getD e.on 0) else s) 0]) []
def AOp.asks : AOp → Bool
 | .quiet r _ => r
 | .alloc _ => true
 | _ => false
def AOp.loudB : AOp → Bool
 | .quiet _ _ | .alloc _ => false
 | _ => true
def memB (i : Nat) : List Nat → Bool
 | [] => false
 | j :: l => Nat.beq i j || memB i l
inductive OT where
 | fin
 | calm (i : Nat) (t : OT)
 | last (i : Nat) (t : OT)
 | fork (i : Nat) (t o : OT)
def forks (g : Nat → OT) : List Nat → OT
 | [] => .fin
 | [i] => .last i (g i)
 | i :: l => .fork i (g i) (forks g l)
def mayB (pre : List Nat) (k : Nat) (before : List Nat) (i : Nat) : Bool := (List.range k).all fun j => !(pre.getD i 0).testBit j || memB j before
def order (aops : List zAO) (pre : List Nat) (k : Nat) : (fuel : Nat) → List Nat → OT
 | 0, _ => .fin
 | f + 1, before =>
  let ready := (List.range k).filter fun i => !memB i before && mayB pre k before i
  match ready.filter fun i => !(aops.getD i default).op.loudB with
  | i :: _ => .calm i (order aops pre k f (before ++ [i]))
  | [] => forks (fun i => order aops pre k f (before ++ [i])) ready
def sufFrom (pre : List Nat) : (n : Nat) → Nat
 | 0 => 0
 | n + 1 => bif Nat.beq (pre.getD n 0) (2 ^ n - 1) then sufFrom pre n else n + 1
def zEL (aops : List zAO) (pre : List Nat) (before : List Nat) (i : Nat) : DItem :=
 ⟨aops.getD i default, (before.filter fun j => (aops.getD j default).op.asks && !(pre.getD i 0).testBit j).map fun j => aops.getD j default⟩
def zBr (aops : List zAO) (pre : List Nat) : List Nat → OT → DT
 | _, .fin => .fin
 | before, .calm i t => .calm (aops.getD i default) (zBr aops pre (before ++ [i]) t)
 | before, .last i t => .last (zEL aops pre before i) (zBr aops pre (before ++ [i]) t)
 | before, .fork i t o => .fork (zEL aops pre before i) (zBr aops pre (before ++ [i]) t) (zBr aops pre before o)
def zB4 (aops : List zAO) (pre : List Nat) (k : Nat) : List Nat → List Nat → OT → Bool
 | before, [], .fin => (List.range k).all fun j => memB j before
 | _, _ :: _, .fin => false
 | before, [], .calm i t => Nat.blt i k && !memB i before && mayB pre k before i && !(aops.getD i default).op.loudB && zB4 aops pre k (before ++ [i]) [] t
 | _, _ :: _, .calm _ _ => false
 | before, alts, .last i t => Nat.blt i k && !memB i before && mayB pre k before i && (aops.getD i default).op.loudB &&
  ((List.range k).all fun j => memB j before || memB j (i :: alts) || !mayB pre k before j) && zB4 aops pre k (before ++ [i]) [] t
 | before, alts, .fork i t o => Nat.blt i k && !memB i before && mayB pre k before i && (aops.getD i default).op.loudB &&
  zB4 aops pre k (before ++ [i]) [] t && zB4 aops pre k before (i :: alts) o
def chkDraw (ops : Array Oper) (aops : List zAO) (pre : List Nat) (k : Nat) : Bool :=
 ((List.range ops.size).all fun i => match ops[i]? with
  | some o => (o.after.toList.all fun e => !Region.binds .any e || Nat.blt e.on i) && (Nat.blt i k || Nat.beq (pre.getD i 0) (2 ^ i - 1))
  | none => false) &&
 ((List.range k).all fun i => match ops[i]? with
  | some o => match o.dst with
   | some d => (List.range k).all fun j => match ops[j]? with
    | some p => (Nat.beq i j || !(match p.dst with | some q => Nat.beq d q | none => false)) &&
     ((pre.getD j 0).testBit i || !memB d (p.looksAt ops) || ((pre.getD i 0).testBit j && !(aops.getD j default).op.asks))
    | none => false
   | none => true
  | none => false) && Nat.ble k ops.size
def zC0 (ops : Array Oper) (draw : Bool) : Option zAz :=
 match zEm P nt ops ops.toList with
 | none => none
 | some aops =>
  bif !draw then some (.ops aops) else
   let pre := zBB ops
   let k := sufFrom pre aops.length
   let ord := order aops pre k k []
   bif chkDraw ops aops pre k && zB4 aops pre k [] [] ord then some (.draw (zBr aops pre [] ord) (aops.drop k)) else none
def zAY : Code → Bool
 | .seq a b | .cond _ a b => zAY a && zAY b
 | .block _ c | .loop c => zAY c
 | .rangeFunc _ _ _ _ | .scope _ => false
 | _ => true
def zDK : List Tmp → Option (List Sl)
 | [] => some []
 | t :: l => bif Nat.blt t nt then (match zDK l with | some r => some (zAW t :: r) | none => none) else none
def zBG : Code → Option zAz
 | .skip => some .skip
 | .region _ ops d => zC0 P nt ops d
 | .seq a b => match zBG a, zBG b with | some a, some b => some (.seq a b) | _, _ => none
 | .cond c a b => match opd nt c, zBG a, zBG b with | some c, some a, some b => some (.cond c a b) | _, _, _ => none
 | .block id c => match zBG c with | some c => some (.block id c) | none => none
 | .loop c => match zBG c with | some c => some (.loop c) | none => none
 | .exit id => some (.exit id)
 | .ret => some .ret
 | .rangeFunc f ps a b => bif zAY a && zAY b then (match opd nt f, zDK nt ps.toList, zBG a, zBG b with | some f, some ps, some a, some b => some (.rangeFunc f ps a b) | _, _, _, _ => none) else none
 | .refuse _ => some (.ops [⟨none, .loud lFail, none⟩])
 | _ => none
def zJg : ResultVar → Option ARes
 | .tmp t => bif Nat.blt t nt then some (.tmp (zAW t)) else none
 | .cell a t => match zFo P t with
  | some true => match zBa P t with | some n => bif Nat.blt a nt then some (.cellN n (zAW a)) else none | none => none
  | some false => bif Nat.blt a nt then some (.cell1 (zAW a)) else none
  | none => none
def zEN : List ResultVar → Option (List ARes)
 | [] => some []
 | r :: l => match zJg P nt r, zEN l with | some r, some l => some (r :: l) | _, _ => none
def zCU (f : Func) : Option zAr :=
 match f.body with
 | some c => match zBG P f.ntmps c, zEN P f.ntmps f.results.toList with
  | some c, some r => bif Nat.ble f.ntmps 512 then some ⟨f.ntmps, r, c⟩ else none
  | _, _ => none
 | none => none
end
end Go.AM
namespace Go.AM
abbrev s0 : Sl := .mk .d0 .d0 .d0
abbrev s1 : Sl := .mk .d0 .d0 .d1
abbrev s2 : Sl := .mk .d0 .d0 .d2
abbrev s3 : Sl := .mk .d0 .d0 .d3
abbrev s4 : Sl := .mk .d0 .d0 .d4
abbrev s5 : Sl := .mk .d0 .d0 .d5
abbrev s6 : Sl := .mk .d0 .d0 .d6
abbrev s7 : Sl := .mk .d0 .d0 .d7
abbrev s8 : Sl := .mk .d0 .d1 .d0
abbrev s9 : Sl := .mk .d0 .d1 .d1
abbrev s10 : Sl := .mk .d0 .d1 .d2
abbrev s11 : Sl := .mk .d0 .d1 .d3
abbrev s12 : Sl := .mk .d0 .d1 .d4
abbrev s13 : Sl := .mk .d0 .d1 .d5
abbrev s14 : Sl := .mk .d0 .d1 .d6
abbrev s15 : Sl := .mk .d0 .d1 .d7
abbrev s16 : Sl := .mk .d0 .d2 .d0
abbrev s17 : Sl := .mk .d0 .d2 .d1
abbrev s18 : Sl := .mk .d0 .d2 .d2
abbrev s19 : Sl := .mk .d0 .d2 .d3
abbrev s20 : Sl := .mk .d0 .d2 .d4
abbrev s21 : Sl := .mk .d0 .d2 .d5
abbrev s22 : Sl := .mk .d0 .d2 .d6
abbrev s23 : Sl := .mk .d0 .d2 .d7
abbrev s24 : Sl := .mk .d0 .d3 .d0
abbrev s25 : Sl := .mk .d0 .d3 .d1
abbrev s26 : Sl := .mk .d0 .d3 .d2
abbrev s27 : Sl := .mk .d0 .d3 .d3
abbrev s28 : Sl := .mk .d0 .d3 .d4
abbrev s29 : Sl := .mk .d0 .d3 .d5
abbrev s30 : Sl := .mk .d0 .d3 .d6
abbrev s31 : Sl := .mk .d0 .d3 .d7
abbrev s32 : Sl := .mk .d0 .d4 .d0
abbrev s33 : Sl := .mk .d0 .d4 .d1
abbrev s34 : Sl := .mk .d0 .d4 .d2
abbrev s35 : Sl := .mk .d0 .d4 .d3
abbrev s36 : Sl := .mk .d0 .d4 .d4
abbrev s37 : Sl := .mk .d0 .d4 .d5
abbrev s38 : Sl := .mk .d0 .d4 .d6
abbrev s39 : Sl := .mk .d0 .d4 .d7
abbrev s40 : Sl := .mk .d0 .d5 .d0
abbrev s41 : Sl := .mk .d0 .d5 .d1
abbrev s42 : Sl := .mk .d0 .d5 .d2
abbrev s43 : Sl := .mk .d0 .d5 .d3
abbrev s44 : Sl := .mk .d0 .d5 .d4
abbrev s45 : Sl := .mk .d0 .d5 .d5
abbrev s46 : Sl := .mk .d0 .d5 .d6
abbrev s47 : Sl := .mk .d0 .d5 .d7
abbrev s48 : Sl := .mk .d0 .d6 .d0
abbrev s49 : Sl := .mk .d0 .d6 .d1
abbrev s50 : Sl := .mk .d0 .d6 .d2
abbrev s51 : Sl := .mk .d0 .d6 .d3
abbrev s52 : Sl := .mk .d0 .d6 .d4
abbrev s53 : Sl := .mk .d0 .d6 .d5
abbrev s54 : Sl := .mk .d0 .d6 .d6
abbrev s55 : Sl := .mk .d0 .d6 .d7
abbrev s56 : Sl := .mk .d0 .d7 .d0
abbrev s57 : Sl := .mk .d0 .d7 .d1
abbrev s58 : Sl := .mk .d0 .d7 .d2
abbrev s59 : Sl := .mk .d0 .d7 .d3
abbrev s60 : Sl := .mk .d0 .d7 .d4
abbrev s61 : Sl := .mk .d0 .d7 .d5
abbrev s62 : Sl := .mk .d0 .d7 .d6
abbrev s63 : Sl := .mk .d0 .d7 .d7
abbrev s64 : Sl := .mk .d1 .d0 .d0
abbrev s65 : Sl := .mk .d1 .d0 .d1
abbrev s66 : Sl := .mk .d1 .d0 .d2
abbrev s67 : Sl := .mk .d1 .d0 .d3
abbrev s68 : Sl := .mk .d1 .d0 .d4
abbrev s69 : Sl := .mk .d1 .d0 .d5
abbrev s70 : Sl := .mk .d1 .d0 .d6
abbrev s71 : Sl := .mk .d1 .d0 .d7
abbrev s72 : Sl := .mk .d1 .d1 .d0
abbrev s73 : Sl := .mk .d1 .d1 .d1
abbrev s74 : Sl := .mk .d1 .d1 .d2
abbrev s75 : Sl := .mk .d1 .d1 .d3
abbrev s76 : Sl := .mk .d1 .d1 .d4
abbrev s77 : Sl := .mk .d1 .d1 .d5
abbrev s78 : Sl := .mk .d1 .d1 .d6
abbrev s79 : Sl := .mk .d1 .d1 .d7
abbrev s80 : Sl := .mk .d1 .d2 .d0
abbrev s81 : Sl := .mk .d1 .d2 .d1
abbrev s82 : Sl := .mk .d1 .d2 .d2
abbrev s83 : Sl := .mk .d1 .d2 .d3
abbrev s84 : Sl := .mk .d1 .d2 .d4
abbrev s85 : Sl := .mk .d1 .d2 .d5
abbrev s86 : Sl := .mk .d1 .d2 .d6
abbrev s87 : Sl := .mk .d1 .d2 .d7
abbrev s88 : Sl := .mk .d1 .d3 .d0
abbrev s89 : Sl := .mk .d1 .d3 .d1
abbrev s90 : Sl := .mk .d1 .d3 .d2
abbrev s91 : Sl := .mk .d1 .d3 .d3
abbrev s92 : Sl := .mk .d1 .d3 .d4
abbrev s93 : Sl := .mk .d1 .d3 .d5
abbrev s94 : Sl := .mk .d1 .d3 .d6
abbrev s95 : Sl := .mk .d1 .d3 .d7
abbrev s96 : Sl := .mk .d1 .d4 .d0
abbrev s97 : Sl := .mk .d1 .d4 .d1
abbrev s98 : Sl := .mk .d1 .d4 .d2
abbrev s99 : Sl := .mk .d1 .d4 .d3
abbrev s100 : Sl := .mk .d1 .d4 .d4
abbrev s101 : Sl := .mk .d1 .d4 .d5
abbrev s102 : Sl := .mk .d1 .d4 .d6
abbrev s103 : Sl := .mk .d1 .d4 .d7
abbrev s104 : Sl := .mk .d1 .d5 .d0
abbrev s105 : Sl := .mk .d1 .d5 .d1
abbrev s106 : Sl := .mk .d1 .d5 .d2
abbrev s107 : Sl := .mk .d1 .d5 .d3
abbrev s108 : Sl := .mk .d1 .d5 .d4
abbrev s109 : Sl := .mk .d1 .d5 .d5
abbrev s110 : Sl := .mk .d1 .d5 .d6
abbrev s111 : Sl := .mk .d1 .d5 .d7
abbrev s112 : Sl := .mk .d1 .d6 .d0
abbrev s113 : Sl := .mk .d1 .d6 .d1
abbrev s114 : Sl := .mk .d1 .d6 .d2
abbrev s115 : Sl := .mk .d1 .d6 .d3
abbrev s116 : Sl := .mk .d1 .d6 .d4
abbrev s117 : Sl := .mk .d1 .d6 .d5
abbrev s118 : Sl := .mk .d1 .d6 .d6
abbrev s119 : Sl := .mk .d1 .d6 .d7
abbrev s120 : Sl := .mk .d1 .d7 .d0
abbrev s121 : Sl := .mk .d1 .d7 .d1
abbrev s122 : Sl := .mk .d1 .d7 .d2
abbrev s123 : Sl := .mk .d1 .d7 .d3
abbrev s124 : Sl := .mk .d1 .d7 .d4
abbrev s125 : Sl := .mk .d1 .d7 .d5
abbrev s126 : Sl := .mk .d1 .d7 .d6
abbrev s127 : Sl := .mk .d1 .d7 .d7
abbrev s128 : Sl := .mk .d2 .d0 .d0
abbrev s129 : Sl := .mk .d2 .d0 .d1
abbrev s130 : Sl := .mk .d2 .d0 .d2
abbrev s131 : Sl := .mk .d2 .d0 .d3
abbrev s132 : Sl := .mk .d2 .d0 .d4
abbrev s133 : Sl := .mk .d2 .d0 .d5
abbrev s134 : Sl := .mk .d2 .d0 .d6
abbrev s135 : Sl := .mk .d2 .d0 .d7
abbrev s136 : Sl := .mk .d2 .d1 .d0
abbrev s137 : Sl := .mk .d2 .d1 .d1
abbrev s138 : Sl := .mk .d2 .d1 .d2
abbrev s139 : Sl := .mk .d2 .d1 .d3
abbrev s140 : Sl := .mk .d2 .d1 .d4
abbrev s141 : Sl := .mk .d2 .d1 .d5
abbrev s142 : Sl := .mk .d2 .d1 .d6
abbrev s143 : Sl := .mk .d2 .d1 .d7
abbrev s144 : Sl := .mk .d2 .d2 .d0
abbrev s145 : Sl := .mk .d2 .d2 .d1
abbrev s146 : Sl := .mk .d2 .d2 .d2
abbrev s147 : Sl := .mk .d2 .d2 .d3
abbrev s148 : Sl := .mk .d2 .d2 .d4
abbrev s149 : Sl := .mk .d2 .d2 .d5
abbrev s150 : Sl := .mk .d2 .d2 .d6
abbrev s151 : Sl := .mk .d2 .d2 .d7
abbrev s152 : Sl := .mk .d2 .d3 .d0
abbrev s153 : Sl := .mk .d2 .d3 .d1
abbrev s154 : Sl := .mk .d2 .d3 .d2
abbrev s155 : Sl := .mk .d2 .d3 .d3
abbrev s156 : Sl := .mk .d2 .d3 .d4
abbrev s157 : Sl := .mk .d2 .d3 .d5
abbrev s158 : Sl := .mk .d2 .d3 .d6
abbrev s159 : Sl := .mk .d2 .d3 .d7
abbrev s160 : Sl := .mk .d2 .d4 .d0
abbrev s161 : Sl := .mk .d2 .d4 .d1
abbrev s162 : Sl := .mk .d2 .d4 .d2
abbrev s163 : Sl := .mk .d2 .d4 .d3
abbrev s164 : Sl := .mk .d2 .d4 .d4
abbrev s165 : Sl := .mk .d2 .d4 .d5
abbrev s166 : Sl := .mk .d2 .d4 .d6
abbrev s167 : Sl := .mk .d2 .d4 .d7
abbrev s168 : Sl := .mk .d2 .d5 .d0
abbrev s169 : Sl := .mk .d2 .d5 .d1
abbrev s170 : Sl := .mk .d2 .d5 .d2
abbrev s171 : Sl := .mk .d2 .d5 .d3
abbrev s172 : Sl := .mk .d2 .d5 .d4
abbrev s173 : Sl := .mk .d2 .d5 .d5
abbrev s174 : Sl := .mk .d2 .d5 .d6
abbrev s175 : Sl := .mk .d2 .d5 .d7
abbrev s176 : Sl := .mk .d2 .d6 .d0
abbrev s177 : Sl := .mk .d2 .d6 .d1
abbrev s178 : Sl := .mk .d2 .d6 .d2
abbrev s179 : Sl := .mk .d2 .d6 .d3
abbrev s180 : Sl := .mk .d2 .d6 .d4
abbrev s181 : Sl := .mk .d2 .d6 .d5
abbrev s182 : Sl := .mk .d2 .d6 .d6
abbrev s183 : Sl := .mk .d2 .d6 .d7
abbrev s184 : Sl := .mk .d2 .d7 .d0
abbrev s185 : Sl := .mk .d2 .d7 .d1
abbrev s186 : Sl := .mk .d2 .d7 .d2
abbrev s187 : Sl := .mk .d2 .d7 .d3
abbrev s188 : Sl := .mk .d2 .d7 .d4
abbrev s189 : Sl := .mk .d2 .d7 .d5
abbrev s190 : Sl := .mk .d2 .d7 .d6
abbrev s191 : Sl := .mk .d2 .d7 .d7
abbrev s192 : Sl := .mk .d3 .d0 .d0
abbrev s193 : Sl := .mk .d3 .d0 .d1
abbrev s194 : Sl := .mk .d3 .d0 .d2
abbrev s195 : Sl := .mk .d3 .d0 .d3
abbrev s196 : Sl := .mk .d3 .d0 .d4
abbrev s197 : Sl := .mk .d3 .d0 .d5
abbrev s198 : Sl := .mk .d3 .d0 .d6
abbrev s199 : Sl := .mk .d3 .d0 .d7
abbrev s200 : Sl := .mk .d3 .d1 .d0
abbrev s201 : Sl := .mk .d3 .d1 .d1
abbrev s202 : Sl := .mk .d3 .d1 .d2
abbrev s203 : Sl := .mk .d3 .d1 .d3
abbrev s204 : Sl := .mk .d3 .d1 .d4
abbrev s205 : Sl := .mk .d3 .d1 .d5
abbrev s206 : Sl := .mk .d3 .d1 .d6
abbrev s207 : Sl := .mk .d3 .d1 .d7
abbrev s208 : Sl := .mk .d3 .d2 .d0
abbrev s209 : Sl := .mk .d3 .d2 .d1
abbrev s210 : Sl := .mk .d3 .d2 .d2
abbrev s211 : Sl := .mk .d3 .d2 .d3
abbrev s212 : Sl := .mk .d3 .d2 .d4
abbrev s213 : Sl := .mk .d3 .d2 .d5
abbrev s214 : Sl := .mk .d3 .d2 .d6
abbrev s215 : Sl := .mk .d3 .d2 .d7
abbrev s216 : Sl := .mk .d3 .d3 .d0
abbrev s217 : Sl := .mk .d3 .d3 .d1
abbrev s218 : Sl := .mk .d3 .d3 .d2
abbrev s219 : Sl := .mk .d3 .d3 .d3
abbrev s220 : Sl := .mk .d3 .d3 .d4
abbrev s221 : Sl := .mk .d3 .d3 .d5
abbrev s222 : Sl := .mk .d3 .d3 .d6
abbrev s223 : Sl := .mk .d3 .d3 .d7
abbrev s224 : Sl := .mk .d3 .d4 .d0
abbrev s225 : Sl := .mk .d3 .d4 .d1
abbrev s226 : Sl := .mk .d3 .d4 .d2
abbrev s227 : Sl := .mk .d3 .d4 .d3
abbrev s228 : Sl := .mk .d3 .d4 .d4
abbrev s229 : Sl := .mk .d3 .d4 .d5
abbrev s230 : Sl := .mk .d3 .d4 .d6
abbrev s231 : Sl := .mk .d3 .d4 .d7
abbrev s232 : Sl := .mk .d3 .d5 .d0
abbrev s233 : Sl := .mk .d3 .d5 .d1
abbrev s234 : Sl := .mk .d3 .d5 .d2
abbrev s235 : Sl := .mk .d3 .d5 .d3
abbrev s236 : Sl := .mk .d3 .d5 .d4
abbrev s237 : Sl := .mk .d3 .d5 .d5
abbrev s238 : Sl := .mk .d3 .d5 .d6
abbrev s239 : Sl := .mk .d3 .d5 .d7
abbrev s240 : Sl := .mk .d3 .d6 .d0
abbrev s241 : Sl := .mk .d3 .d6 .d1
abbrev s242 : Sl := .mk .d3 .d6 .d2
abbrev s243 : Sl := .mk .d3 .d6 .d3
abbrev s244 : Sl := .mk .d3 .d6 .d4
abbrev s245 : Sl := .mk .d3 .d6 .d5
abbrev s246 : Sl := .mk .d3 .d6 .d6
abbrev s247 : Sl := .mk .d3 .d6 .d7
abbrev s248 : Sl := .mk .d3 .d7 .d0
abbrev s249 : Sl := .mk .d3 .d7 .d1
abbrev s250 : Sl := .mk .d3 .d7 .d2
abbrev s251 : Sl := .mk .d3 .d7 .d3
abbrev s252 : Sl := .mk .d3 .d7 .d4
abbrev s253 : Sl := .mk .d3 .d7 .d5
abbrev s254 : Sl := .mk .d3 .d7 .d6
abbrev s255 : Sl := .mk .d3 .d7 .d7
abbrev s256 : Sl := .mk .d4 .d0 .d0
abbrev s257 : Sl := .mk .d4 .d0 .d1
abbrev s258 : Sl := .mk .d4 .d0 .d2
abbrev s259 : Sl := .mk .d4 .d0 .d3
abbrev s260 : Sl := .mk .d4 .d0 .d4
abbrev s261 : Sl := .mk .d4 .d0 .d5
abbrev s262 : Sl := .mk .d4 .d0 .d6
abbrev s263 : Sl := .mk .d4 .d0 .d7
abbrev s264 : Sl := .mk .d4 .d1 .d0
abbrev s265 : Sl := .mk .d4 .d1 .d1
abbrev s266 : Sl := .mk .d4 .d1 .d2
abbrev s267 : Sl := .mk .d4 .d1 .d3
abbrev s268 : Sl := .mk .d4 .d1 .d4
abbrev s269 : Sl := .mk .d4 .d1 .d5
abbrev s270 : Sl := .mk .d4 .d1 .d6
abbrev s271 : Sl := .mk .d4 .d1 .d7
abbrev s272 : Sl := .mk .d4 .d2 .d0
abbrev s273 : Sl := .mk .d4 .d2 .d1
abbrev s274 : Sl := .mk .d4 .d2 .d2
abbrev s275 : Sl := .mk .d4 .d2 .d3
abbrev s276 : Sl := .mk .d4 .d2 .d4
abbrev s277 : Sl := .mk .d4 .d2 .d5
abbrev s278 : Sl := .mk .d4 .d2 .d6
abbrev s279 : Sl := .mk .d4 .d2 .d7
abbrev s280 : Sl := .mk .d4 .d3 .d0
abbrev s281 : Sl := .mk .d4 .d3 .d1
abbrev s282 : Sl := .mk .d4 .d3 .d2
abbrev s283 : Sl := .mk .d4 .d3 .d3
abbrev s284 : Sl := .mk .d4 .d3 .d4
abbrev s285 : Sl := .mk .d4 .d3 .d5
abbrev s286 : Sl := .mk .d4 .d3 .d6
abbrev s287 : Sl := .mk .d4 .d3 .d7
abbrev s288 : Sl := .mk .d4 .d4 .d0
abbrev s289 : Sl := .mk .d4 .d4 .d1
abbrev s290 : Sl := .mk .d4 .d4 .d2
abbrev s291 : Sl := .mk .d4 .d4 .d3
abbrev s292 : Sl := .mk .d4 .d4 .d4
abbrev s293 : Sl := .mk .d4 .d4 .d5
end Go.AM
namespace Go.AM
open Go
structure zH5 where
 fn : FuncId
 tmps : Array Value
 params : Array Tmp
 assign : Code
 body : Code
structure Img where
 b : Nat
 n : Nat
 d : Nat
 lp : Option zH5
abbrev Ren := Nat → Option Img
def bytesOf (s : ByteArray) : List Nat := s.data.toList.map UInt8.toNat
mutual
inductive VR (ρ : Ren) : V → Value → Prop
 | bool (b : Bool) : VR ρ (.bool b) (.bool b)
 | int (k : IntKind) (n : Int) : VR ρ (.int k n) (.int k n)
 | str (s : ByteArray) : VR ρ (.str (bytesOf s)) (.string s)
 | ptr {b off : Nat} {i : Img} : ρ b = some i → VR ρ (.ptr b off) (.pointer (some ⟨i.b, off + i.d, none⟩))
 | nilptr : VR ρ .nilptr (.pointer none)
 | slice {b off len cap sz : Nat} {i : Img} {off' cap' : Nat} : ρ b = some i → len ≤ cap → cap ≤ cap' → (cap' ≠ 0 → off' = off + i.d) → off' + cap' * sz ≤ i.n →
   VR ρ (.slice b off len cap sz) (.slice (some ⟨i.b, off', none⟩) len cap')
 | nilslice : VR ρ .nilslice (.slice none 0 0)
 | map {b : Nat} {i : Img} : ρ b = some i → VR ρ (.map b) (.map (some i.b))
 | nilmap : VR ρ .nilmap (.map none)
 | func {fn : Fn} {a b : List V} {a' b' : List Value} : VRs ρ a a' → VRs ρ b b' → VR ρ (.func fn a b) (.func fn ⟨a'⟩ ⟨b'⟩)
 | nilfunc : VR ρ .nilfunc .nilFunc
 | yield {b : Nat} {i : Img} : ρ b = some i → VR ρ (.yield b) (.func (.yield i.b) ⟨[]⟩ ⟨[]⟩)
 | iface {t : TypeId} {v : V} {v' : Value} : VR ρ v v' → VR ρ (.iface t v) (.iface t v')
 | niliface : VR ρ .niliface .nilIface
 | agg {cs : List V} {cs' : List Value} : VRs ρ cs cs' → VR ρ (.agg cs) (.agg ⟨cs'⟩)
 | tuple {cs : List V} {cs' : List Value} : VRs ρ cs cs' → VR ρ (.tuple cs) (.tuple ⟨cs'⟩)
 | unk {v' : Value} : (∀ b, v' ≠ .bool b) → VR ρ .any v'
inductive VRs (ρ : Ren) : List V → List Value → Prop
 | nil : VRs ρ [] []
 | cons {v : V} {v' : Value} {l : List V} {l' : List Value} : VR ρ v v' → VRs ρ l l' → VRs ρ (v :: l) (v' :: l')
end
def Ren.le (ρ ρ' : Ren) : Prop := ∀ b i, ρ b = some i → ρ' b = some i
theorem Ren.le_refl (ρ : Ren) : ρ.le ρ := fun _ _ h => h
theorem Ren.le_trans {a b c : Ren} (h : a.le b) (h' : b.le c) : a.le c := fun x i hx => h' x i (h x i hx)
def Ren.put (ρ : Ren) (b : Nat) (i : Img) : Ren := fun c => if c = b then some i else ρ c
theorem Ren.le_put {ρ : Ren} {b : Nat} {i : Img} (h : ρ b = none) : ρ.le (ρ.put b i) := by
 intro c j hc
 unfold Ren.put
 split
 ·rename_i e; subst e; rw [h] at hc; cases hc
 ·exact hc
theorem Ren.put_self (ρ : Ren) (b : Nat) (i : Img) : ρ.put b i b = some i := if_pos rfl
theorem Ren.put_ne {ρ : Ren} {b c : Nat} {i : Img} (h : c ≠ b) : ρ.put b i c = ρ c := if_neg h
mutual
theorem VR.mono {ρ ρ' : Ren} (h : ρ.le ρ') : ∀ {v : V} {v' : Value}, VR ρ v v' → VR ρ' v v'
 | _, _, .bool b => .bool b
 | _, _, .int k n => .int k n
 | _, _, .str s => .str s
 | _, _, .ptr hb => .ptr (h _ _ hb)
 | _, _, .nilptr => .nilptr
 | _, _, .slice hb h1 h2 h3 h4 => .slice (h _ _ hb) h1 h2 h3 h4
 | _, _, .nilslice => .nilslice
 | _, _, .map hb => .map (h _ _ hb)
 | _, _, .nilmap => .nilmap
 | _, _, .func ha hb => .func (VRs.mono h ha) (VRs.mono h hb)
 | _, _, .nilfunc => .nilfunc
 | _, _, .yield hb => .yield (h _ _ hb)
 | _, _, .iface hv => .iface (VR.mono h hv)
 | _, _, .niliface => .niliface
 | _, _, .agg hc => .agg (VRs.mono h hc)
 | _, _, .tuple hc => .tuple (VRs.mono h hc)
 | _, _, .unk h => .unk h
theorem VRs.mono {ρ ρ' : Ren} (h : ρ.le ρ') : ∀ {l : List V} {l' : List Value}, VRs ρ l l' → VRs ρ' l l'
 | _, _, .nil => .nil
 | _, _, .cons hv hl => .cons (VR.mono h hv) (VRs.mono h hl)
end
theorem VRs.length {ρ : Ren} : ∀ {l : List V} {l' : List Value}, VRs ρ l l' → l.length = l'.length
 | _, _, .nil => rfl
 | _, _, .cons _ hl => by simp [VRs.length hl]
theorem VRs.get {ρ : Ren} : ∀ {l : List V} {l' : List Value}, VRs ρ l l' → ∀ (n : Nat) (v : V), l[n]? = some v → ∃ v', l'[n]? = some v' ∧ VR ρ v v'
 | _, _, .nil, n, v, h => by simp at h
 | _, _, .cons hv _, 0, v, h => by simp at h; subst h; exact ⟨_, rfl, hv⟩
 | _, _, .cons _ hl, n + 1, v, h => by simpa using VRs.get hl n v (by simpa using h)
theorem VRs.of_get {ρ : Ren} : ∀ {l : List V} {l' : List Value}, l.length = l'.length → (∀ (n : Nat) (v : V), l[n]? = some v → ∃ v', l'[n]? = some v' ∧ VR ρ v v') → VRs ρ l l'
 | [], [], _, _ => .nil
 | [], _ :: _, h, _ => by simp at h
 | _ :: _, [], h, _ => by simp at h
 | v :: l, v' :: l', h, hg => by
  obtain ⟨w, hw, hv⟩ := hg 0 v rfl
  simp at hw; subst hw
  exact .cons hv (VRs.of_get (by simpa using h) fun n u hu => by simpa using hg (n + 1) u (by simpa using hu))
theorem VRs.append {ρ : Ren} : ∀ {l : List V} {l' : List Value} {k : List V} {k' : List Value}, VRs ρ l l' → VRs ρ k k' → VRs ρ (l ++ k) (l' ++ k')
 | _, _, _, _, .nil, hk => hk
 | _, _, _, _, .cons hv hl, hk => .cons hv (VRs.append hl hk)
theorem VRs.drop {ρ : Ren} : ∀ {l : List V} {l' : List Value} (n : Nat), VRs ρ l l' → VRs ρ (l.drop n) (l'.drop n)
 | _, _, 0, h => h
 | _, _, _ + 1, .nil => .nil
 | _, _, n + 1, .cons _ hl => by simpa using VRs.drop n hl
theorem VRs.take {ρ : Ren} : ∀ {l : List V} {l' : List Value} (n : Nat), VRs ρ l l' → VRs ρ (l.take n) (l'.take n)
 | _, _, 0, _ => by simpa using VRs.nil
 | _, _, _ + 1, .nil => .nil
 | _, _, n + 1, .cons hv hl => by simpa using VRs.cons hv (VRs.take n hl)
theorem VR.cells {ρ : Ren} {v : V} {v' : Value} (h : VR ρ v v') (hn : v ≠ .any) : VRs ρ v.cells v'.cells.toList := by
 cases h with
 | unk _ => exact absurd rfl hn
 | agg hc => exact hc
 | bool b => exact .cons (.bool b) .nil
 | int k n => exact .cons (.int k n) .nil
 | str s => exact .cons (.str s) .nil
 | ptr hb => exact .cons (.ptr hb) .nil
 | nilptr => exact .cons .nilptr .nil
 | slice a b c d e => exact .cons (.slice a b c d e) .nil
 | nilslice => exact .cons .nilslice .nil
 | map hb => exact .cons (.map hb) .nil
 | nilmap => exact .cons .nilmap .nil
 | func a b => exact .cons (.func a b) .nil
 | nilfunc => exact .cons .nilfunc .nil
 | yield hb => exact .cons (.yield hb) .nil
 | iface hv => exact .cons (.iface hv) .nil
 | niliface => exact .cons .niliface .nil
 | tuple hc => exact .cons (.tuple hc) .nil
theorem putAt_one {x : V} : ∀ {off : Nat} {cs r : List V}, putAt [x] off cs = some r → x.one = true
 | 0, [], r, h => by simp [putAt, putN] at h
 | 0, _ :: l, r, h => by
  simp only [putAt, putN] at h
  cases e : x.one with
  | true => rfl
  | false => rw [e] at h; cases h
 | off + 1, [], r, h => by cases h
 | off + 1, _ :: l, r, h => by
  simp only [putAt] at h
  split at h
  ·rename_i r' h'; exact putAt_one h'
  ·cases h
theorem zHg {v : V} {off : Nat} {cs r : List V} (h : putAt v.cells off cs = some r) : v ≠ .any := by
 intro e; subst e
 have := putAt_one h
 cases this
theorem zIN {v : V} {m m' : Mem} {b off : Nat} (h : zGq m b off v.cells = some m') : v ≠ .any := by
 unfold zGq at h
 split at h
 ·split at h
  ·rename_i hr; exact zHg hr
  ·cases h
 ·cases h
theorem VR.one {ρ : Ren} {v : V} {v' : Value} (h : VR ρ v v') (h1 : v.one = true) : v'.oneCell' = true := by
 cases h <;> first | rfl | (simp [V.one] at h1)
def CR (ρ : Ren) (d : Nat) (cs : List V) (cs' : Array Value) : Prop := ∀ k v, cs[k]? = some v → ∃ v', cs'[k + d]? = some v' ∧ VR ρ v v'
inductive ERs (ρ : Ren) : List (V × V × Nat) → List MapEntry → Prop
 | nil : ERs ρ [] []
 | cons {k v : V} {k' v' : Value} {b : Nat} {l : List (V × V × Nat)} {l' : List MapEntry} : VR ρ k k' → VR ρ v v' → ERs ρ l l' → ERs ρ ((k, v, b) :: l) ({ key := k', val := v', born := b } :: l')
theorem ERs.mono {ρ ρ' : Ren} (h : ρ.le ρ') : ∀ {l : List (V × V × Nat)} {l' : List MapEntry}, ERs ρ l l' → ERs ρ' l l'
 | _, _, .nil => .nil
 | _, _, .cons a b c => .cons (a.mono h) (b.mono h) (c.mono h)
def stOf : Nat → LoopState
 | 0 => .ready
 | 1 => .done
 | 2 => .busy
 | _ => .exhausted
def jumpOf : Option Nat → Code
 | none => .ret
 | some id => .exit id
def OR (ρ : Ren) (w : World) (i : Img) : zAe → Prop
 | .cells cs ro => ∃ cs' ty lo hi, w.heap[i.b]? = some (.cells cs' ty (lo, hi)) ∧ cs'.size = i.n ∧ CR ρ i.d cs cs' ∧ (ro = false → (lo = 0 ∧ hi = 0) ∨ (lo = i.n ∧ hi = i.n + 1))
 | .map es clock _ => ∃ es', w.heap[i.b]? = some (.map es' clock) ∧ ERs ρ es es'.toList
 | .iter none since seen stepped => i.d = 0 ∧ w.heap[i.b]? = some (.mapIter none since seen.toArray stepped)
 | .iter (some mb) since seen stepped => i.d = 0 ∧ ∃ j, ρ mb = some j ∧ w.heap[i.b]? = some (.mapIter (some j.b) since seen.toArray stepped)
 | .loop st p => i.d = 0 ∧ ∃ L D, i.lp = some L ∧ w.heap[i.b]? = some (.loop { state := stOf st, pending := p.map jumpOf, fn := L.fn, tmps := L.tmps, params := L.params, assign := L.assign, body := L.body, defers := D })
 | .dead => True
theorem CR.mono {ρ ρ' : Ren} (h : ρ.le ρ') {d : Nat} {cs : List V} {cs' : Array Value} (hc : CR ρ d cs cs') : CR ρ' d cs cs' :=
 fun k v hk => let ⟨v', h1, h2⟩ := hc k v hk; ⟨v', h1, h2.mono h⟩
theorem OR.mono {ρ ρ' : Ren} (h : ρ.le ρ') {w w' : World} {i : Img} (hw : w'.heap[i.b]? = w.heap[i.b]?) {o : zAe} (ho : OR ρ w i o) : OR ρ' w' i o := by
 cases o with
 | cells cs ro =>
  obtain ⟨cs', ty, lo, hi, h1, h2, h3, h4⟩ := ho
  exact ⟨cs', ty, lo, hi, by rw [hw]; exact h1, h2, h3.mono h, h4⟩
 | map es clock ro =>
  obtain ⟨es', h1, h2⟩ := ho
  exact ⟨es', by rw [hw]; exact h1, h2.mono h⟩
 | iter mo since seen stepped =>
  cases mo with
  | none => simp only [OR] at *; rw [hw]; exact ho
  | some mb =>
   obtain ⟨hd, j, h1, h2⟩ := ho
   exact ⟨hd, j, h _ _ h1, by rw [hw]; exact h2⟩
 | loop st p =>
  obtain ⟨hd, L, D, h1, h2⟩ := ho
  exact ⟨hd, L, D, h1, by rw [hw]; exact h2⟩
 | dead => trivial
def zAe.wr : zAe → Bool
 | .cells _ ro => !ro
 | .map _ _ ro => !ro
 | .iter _ _ _ _ => true
 | .loop _ _ => true
 | .dead => false
def zAe.live : zAe → Bool
 | .dead => false
 | _ => true
theorem zAe.live_of_wr {o : zAe} (h : o.wr = true) : o.live = true := by cases o <;> simp_all [zAe.wr, zAe.live]
structure MR (ρ : Ren) (m : Mem) (w : World) : Prop where
 lt : ∀ b i, ρ b = some i → b < m.next ∧ i.b < w.heap.size
 obj : ∀ b i o, ρ b = some i → m.get b = some o → OR ρ w i o
 inj : ∀ b c i j o u, ρ b = some i → ρ c = some j → i.b = j.b → m.get b = some o → o.wr = true → m.get c = some u → u.live = true → b = c
def zH8 (w w' : World) : Prop := w'.os = w.os ∧ w'.output = w.output
theorem zH8.refl (w : World) : zH8 w w := ⟨rfl, rfl⟩
theorem zH8.trans {a b c : World} (h : zH8 a b) (h' : zH8 b c) : zH8 a c := ⟨h'.1.trans h.1, h'.2.trans h.2⟩
def Push (w w' : World) (o : Obj) : Prop := w'.heap = w.heap.push o ∧ zH8 w w'
structure Ext (ρ : Ren) (m : Mem) (w : World) (ρ' : Ren) (m' : Mem) (w' : World) : Prop where
 ren : ρ.le ρ'
 size : w.heap.size ≤ w'.heap.size
 next : m.next ≤ m'.next
 fresh : ∀ b i, ρ' b = some i → ρ b = some i ∨ m.next ≤ b
 keep : ∀ k, k < w.heap.size → (∀ b i o, ρ b = some i → i.b = k → m.get b = some o → o.wr = false) → w'.heap[k]? = w.heap[k]?
 old : ∀ b i o, ρ' b = some i → m'.get b = some o → o.wr = true → i.b < w.heap.size → ∃ c j u, ρ c = some j ∧ j.b = i.b ∧ m.get c = some u ∧ u.wr = true
 mute : zH8 w w'
theorem Ext.refl (ρ : Ren) (m : Mem) (w : World) : Ext ρ m w ρ m w where
 ren := ρ.le_refl
 size := Nat.le_refl _
 next := Nat.le_refl _
 fresh := fun _ _ h => .inl h
 keep := fun _ _ _ => rfl
 old := fun b i o h1 h2 h3 _ => ⟨b, i, o, h1, rfl, h2, h3⟩
 mute := zH8.refl w
theorem Ext.trans {ρ ρ₁ ρ₂ : Ren} {m m₁ m₂ : Mem} {w w₁ w₂ : World} (h : Ext ρ m w ρ₁ m₁ w₁) (h' : Ext ρ₁ m₁ w₁ ρ₂ m₂ w₂) : Ext ρ m w ρ₂ m₂ w₂ where
 ren := Ren.le_trans h.ren h'.ren
 size := Nat.le_trans h.size h'.size
 next := Nat.le_trans h.next h'.next
 fresh := fun b i hb => by
  rcases h'.fresh b i hb with h1 | h1
  ·exact h.fresh b i h1
  ·exact .inr (Nat.le_trans h.next h1)
 keep := fun k hk hro => by
  rw [h'.keep k (Nat.lt_of_lt_of_le hk h.size) ?_, h.keep k hk hro]
  intro b i o hb hi ho
  cases hw : o.wr with
  | false => rfl
  | true =>
   subst hi
   obtain ⟨c, j, u, h1, h2, h3, h4⟩ := h.old b i o hb ho hw hk
   have := hro c j u h1 h2 h3
   rw [this] at h4; cases h4
 old := fun b i o hb ho hw hlt => by
  obtain ⟨c, j, u, h1, h2, h3, h4⟩ := h'.old b i o hb ho hw (Nat.lt_of_lt_of_le hlt h.size)
  obtain ⟨c', j', u', h5, h6, h7, h8⟩ := h.old c j u h1 h3 h4 (by rw [h2]; exact hlt)
  exact ⟨c', j', u', h5, by rw [h6, h2], h7, h8⟩
 mute := h.mute.trans h'.mute
theorem MR.heap {ρ : Ren} {m : Mem} {w w' : World} (h : MR ρ m w) (e : w'.heap = w.heap) : MR ρ m w' where
 lt := fun b i hb => by rw [e]; exact h.lt b i hb
 obj := fun b i o hb ho => (h.obj b i o hb ho).mono ρ.le_refl (by rw [e])
 inj := h.inj
theorem Ext.heap {ρ : Ren} {m : Mem} {w w' : World} (e : w'.heap = w.heap) (em : zH8 w w') : Ext ρ m w ρ m w' where
 ren := ρ.le_refl
 size := by rw [e]; exact Nat.le_refl _
 next := Nat.le_refl _
 fresh := fun _ _ h => .inl h
 keep := fun _ _ _ => by rw [e]
 old := fun b i o h1 h2 h3 _ => ⟨b, i, o, h1, rfl, h2, h3⟩
 mute := em
structure SR (ρ : Ren) (nt : Nat) (T : zAa) (t : Array Value) : Prop where
 size : t.size = nt
 le : nt ≤ 512
 get : ∀ n, n < nt → VR ρ (T.get (zAW n)) (t.getD n undef)
theorem SR.mono {ρ ρ' : Ren} (h : ρ.le ρ') {nt : Nat} {T : zAa} {t : Array Value} (hs : SR ρ nt T t) : SR ρ' nt T t :=
 ⟨hs.size, hs.le, fun n hn => (hs.get n hn).mono h⟩
theorem VR.undef (ρ : Ren) : VR ρ .undef Go.undef := .tuple .nil
theorem SR.put {ρ : Ren} {nt : Nat} {T : zAa} {a : Act} (hs : SR ρ nt T a.tmps) {v : V} {v' : Value} (hv : VR ρ v v') {dst : Option Tmp} {d : Option Sl}
  (hd : (dst = none ∧ d = none) ∨ ∃ n, n < nt ∧ dst = some n ∧ d = some (zAW n)) : SR ρ nt (zD7 d v T) (a.put dst v').tmps := by
 rcases hd with ⟨rfl, rfl⟩ | ⟨n, hn, rfl, rfl⟩
 ·exact hs
 ·refine ⟨by simp [Act.put, hs.size], hs.le, fun k hk => ?_⟩
  have hl := hs.le
  simp only [zD7, zAa.get_set, Act.put]
  by_cases e : k = n
  ·subst e
   rw [if_pos rfl]
   simp [Array.getD_eq_getD_getElem?, Array.getElem?_setIfInBounds, hs.size, hn]
   exact hv
  ·rw [if_neg fun h => e (zF7 (by omega) (by omega) h)]
   have := hs.get k hk
   simp only [Array.getD_eq_getD_getElem?] at *
   rw [Array.getElem?_setIfInBounds_ne (fun h => e h.symm)]
   exact this
end Go.AM
namespace Go.AM
open Go
theorem zGY : ∀ (n : Nat) (l : List V), zCk n l = l.drop n
 | 0, _ => rfl
 | _ + 1, [] => rfl
 | n + 1, _ :: l => by simpa [zCk] using zGY n l
theorem zIO : ∀ (n : Nat) (l r : List V), takeN n l = some r → r = l.take n ∧ n ≤ l.length
 | 0, l, r, h => by simp [takeN] at h; subst h; simp
 | n + 1, [], r, h => by simp [takeN] at h
 | n + 1, v :: l, r, h => by
  simp only [takeN] at h
  split at h
  ·rename_i r' hr
   obtain ⟨h1, h2⟩ := zIO n l r' hr
   simp at h; subst h; subst h1
   exact ⟨by simp, by simpa using h2⟩
  ·cases h
theorem putN_eq : ∀ (xs l r : List V), putN xs l = some r → r.length = l.length ∧ xs.length ≤ l.length ∧ (∀ x ∈ xs, x.one = true) ∧ ∀ k, r[k]? = if k < xs.length then xs[k]? else l[k]?
 | [], l, r, h => by simp [putN] at h; subst h; simp
 | x :: xs, [], r, h => by simp [putN] at h
 | x :: xs, v :: l, r, h => by
  simp only [putN] at h
  cases hx : x.one with
  | false => simp [hx] at h
  | true =>
   simp only [hx, cond_true] at h
   split at h
   ·rename_i r' hr
    obtain ⟨h1, h2, h3, h4⟩ := putN_eq xs l r' hr
    simp at h; subst h
    refine ⟨by simp [h1], by simpa using h2, ?_, ?_⟩
    ·intro y hy
     rcases List.mem_cons.1 hy with rfl | hy
     ·exact hx
     ·exact h3 y hy
    ·intro k
     cases k with
     | zero => simp
     | succ k => simp [h4 k]
   ·cases h
theorem zIX (xs : List V) : ∀ (n : Nat) (l r : List V), putAt xs n l = some r → r.length = l.length ∧ n + xs.length ≤ l.length ∧ (∀ x ∈ xs, x.one = true) ∧
  ∀ k, r[k]? = if n ≤ k ∧ k < n + xs.length then xs[k - n]? else l[k]?
 | 0, l, r, h => by
  obtain ⟨h1, h2, h3, h4⟩ := putN_eq xs l r h
  exact ⟨h1, by omega, h3, fun k => by rw [h4 k]; simp⟩
 | n + 1, [], r, h => by simp [putAt] at h
 | n + 1, v :: l, r, h => by
  simp only [putAt] at h
  split at h
  ·rename_i r' hr
   obtain ⟨h1, h2, h3, h4⟩ := zIX xs n l r' hr
   simp at h; subst h
   refine ⟨by simp [h1], by simp; omega, h3, ?_⟩
   intro k
   cases k with
   | zero => simp
   | succ k =>
    rw [List.getElem?_cons_succ, h4 k, List.getElem?_cons_succ]
    by_cases hk : n ≤ k ∧ k < n + xs.length
    ·rw [if_pos hk, if_pos (by omega)]; congr 1; omega
    ·rw [if_neg hk, if_neg (by omega)]
  ·cases h
section
variable {ρ : Ren} {m : Mem} {w : World}
theorem cell_of_heap {b : Nat} {cs' : Array Value} {ty : TypeId} {fz : Nat × Nat} (h : w.heap[b]? = some (.cells cs' ty fz)) (o : Nat) : w.cell? ⟨b, o, none⟩ = cs'[o]? := by
 simp [World.cell?, h]
theorem frozen_of_heap {b : Nat} {cs' : Array Value} {ty : TypeId} {lo hi : Nat} (h : w.heap[b]? = some (.cells cs' ty (lo, hi))) (o : Nat) : w.frozen? ⟨b, o, none⟩ = (decide (lo ≤ o) && decide (o < hi)) := by
 simp [World.frozen?, h]
theorem zCC (b o k : Nat) : (⟨b, o, none⟩ : Addr).add k = ⟨b, o + k, none⟩ := by
 unfold Addr.add
 split
 ·rename_i h; subst h; rfl
 ·rfl
theorem MR.read (h : MR ρ m w) {b : Nat} {i : Img} (hb : ρ b = some i) {off n : Nat} {l : List V} (hr : zHd m b off n = some l) :
  l.length = n ∧ ∃ l', VRs ρ l l' ∧ ∀ j v', l'[j]? = some v' → w.cell? ((⟨i.b, off + i.d, none⟩ : Addr).add j) = some v' := by
 unfold zHd zCz at hr
 cases ho : m.get b with
 | none => simp [ho] at hr
 | some o =>
  cases o with
  | cells cs ro =>
   simp only [ho] at hr
   rw [zGY] at hr
   obtain ⟨h1, h2⟩ := zIO _ _ _ hr
   obtain ⟨cs', ty, lo, hi, h3, h4, h5, h6⟩ := h.obj b i _ hb ho
   have hlen : l.length = n := by rw [h1]; simp at *; omega
   refine ⟨hlen, ?_⟩
   let l' := (cs'.toList.drop (off + i.d)).take n
   have hat : ∀ (j : Nat) (v : V), l[j]? = some v → ∃ v', l'[j]? = some v' ∧ VR ρ v v' := by
    intro j v hj
    have hjn : j < n := by
     have := (List.getElem?_eq_some_iff.1 hj).1
     omega
    rw [h1] at hj
    rw [List.getElem?_take_of_lt hjn, List.getElem?_drop] at hj
    obtain ⟨v', h7, h8⟩ := h5 _ _ hj
    refine ⟨v', ?_, h8⟩
    show ((cs'.toList.drop (off + i.d)).take n)[j]? = some v'
    rw [List.getElem?_take_of_lt hjn, List.getElem?_drop, Array.getElem?_toList]
    rw [← h7]; congr 1; omega
   have hlen' : l'.length = n := by
    by_cases hn : n = 0
    ·subst hn; simp [l']
    ·have hlt : n - 1 < l.length := by omega
     obtain ⟨v', h7, _⟩ := hat (n - 1) (l[n - 1]) (List.getElem?_eq_getElem hlt)
     have := (List.getElem?_eq_some_iff.1 h7).1
     have h8 : l'.length ≤ n := List.length_take_le _ _
     omega
   refine ⟨l', VRs.of_get (by omega) hat, ?_⟩
   intro j v' hj
   have hjn : j < n := by
    have := (List.getElem?_eq_some_iff.1 hj).1
    omega
   rw [zCC, cell_of_heap h3]
   have hj' : ((cs'.toList.drop (off + i.d)).take n)[j]? = some v' := hj
   rw [List.getElem?_take_of_lt hjn, List.getElem?_drop, Array.getElem?_toList] at hj'
   exact hj'
  | _ => simp [ho] at hr
theorem MR.read1 (h : MR ρ m w) {b : Nat} {i : Img} (hb : ρ b = some i) {cs : List V} (hc : zCz m b = some cs) {off : Nat} {v : V} (hv : cs[off]? = some v) :
  ∃ v', w.cell? ⟨i.b, off + i.d, none⟩ = some v' ∧ VR ρ v v' := by
 unfold zCz at hc
 cases ho : m.get b with
 | none => simp [ho] at hc
 | some o =>
  cases o with
  | cells cs0 ro =>
   simp only [ho, Option.some.injEq] at hc; subst hc
   obtain ⟨cs', ty, lo, hi, h3, h4, h5, h6⟩ := h.obj b i _ hb ho
   obtain ⟨v', h7, h8⟩ := h5 _ _ hv
   exact ⟨v', by rw [cell_of_heap h3]; exact h7, h8⟩
  | _ => simp [ho] at hc
def zFp (cur : Array Value) (p : Nat) : List Value → Array Value
 | [] => cur
 | v :: vs => zFp (cur.setIfInBounds p v) (p + 1) vs
theorem zC3 : ∀ (vs : List Value) (cur : Array Value) (p : Nat), (zFp cur p vs).size = cur.size
 | [], _, _ => rfl
 | v :: vs, cur, p => by rw [zFp, zC3 vs]; simp
theorem zEs : ∀ (vs : List Value) (cur : Array Value) (p : Nat), p + vs.length ≤ cur.size → ∀ k, (zFp cur p vs)[k]? = if p ≤ k ∧ k < p + vs.length then vs[k - p]? else cur[k]?
 | [], cur, p, _, k => by
  rw [if_neg (by simp only [List.length_nil]; omega)]; rfl
 | v :: vs, cur, p, h, k => by
  have hp : p < cur.size := by simp at h; omega
  rw [zFp, zEs vs _ _ (by simp at *; omega) k]
  by_cases h1 : p + 1 ≤ k ∧ k < p + 1 + vs.length
  ·rw [if_pos h1, if_pos (by simp; omega)]
   rw [show k - p = (k - (p + 1)) + 1 by omega, List.getElem?_cons_succ]
  ·rw [if_neg h1]
   by_cases h2 : k = p
   ·subst h2
    rw [if_pos (by simp)]
    simp [hp]
   ·rw [if_neg (by simp; omega), Array.getElem?_setIfInBounds_ne (fun e => h2 e.symm)]
theorem zCK (P : Program) (g o : Nat) (ty : TypeId) (lo hi : Nat) : ∀ (vs : List Value) (i : Nat) (cur : Array Value) (w : World), w.heap[g]? = some (.cells cur ty (lo, hi)) →
  o + i + vs.length ≤ cur.size → (hi ≤ lo ∨ cur.size ≤ lo) → (∀ v ∈ vs, v.oneCell' = true) →
  ∃ w', (storeCells ⟨g, o, none⟩ vs i).run P w = .ok () w' ∧ w'.heap.size = w.heap.size ∧ zH8 w w' ∧ (∀ k, k ≠ g → w'.heap[k]? = w.heap[k]?) ∧ w'.heap[g]? = some (.cells (zFp cur (o + i) vs) ty (lo, hi))
 | [], i, cur, w, hg, _, _, _ => ⟨w, rfl, rfl, zH8.refl w, fun _ _ => rfl, hg⟩
 | v :: vs, i, cur, w, hg, hs, hf, h1 => by
  have hlt : o + i < cur.size := by simp at hs; omega
  have hfr : w.frozen? ⟨g, o + i, none⟩ = false := by
   rw [frozen_of_heap hg]
   simp only [Bool.and_eq_false_iff, decide_eq_false_iff_not]
   omega
  have hgl : g < w.heap.size := by
   rcases Nat.lt_or_ge g w.heap.size with h | h
   ·exact h
   ·simp [Array.getElem?_eq_none h] at hg
  let w1 := w.setCell ⟨g, o + i, none⟩ v
  have hw1 : w1.heap[g]? = some (.cells (cur.setIfInBounds (o + i) v) ty (lo, hi)) := by
   show (w.heap.modify g _)[g]? = _
   rw [Array.getElem?_modify, if_pos rfl, hg]
   simp
  have hw2 : ∀ k, k ≠ g → w1.heap[k]? = w.heap[k]? := by
   intro k hk
   show (w.heap.modify g _)[k]? = _
   rw [Array.getElem?_modify, if_neg fun e => hk e.symm]
  obtain ⟨w', h3, h4, h4m, h5, h6⟩ := zCK P g o ty lo hi vs (i + 1) _ w1 hw1 (by simp at *; omega) (by simpa using hf) (fun u hu => h1 u (List.mem_cons_of_mem _ hu))
  refine ⟨w', ?_, ?_, ⟨h4m.1, h4m.2⟩, ?_, ?_⟩
  ·simp only [storeCells]
   rw [Sem.run_bind, zCC, run_store P w _ v .plain (h1 v List.mem_cons_self), cell_of_heap hg, Array.getElem?_eq_getElem hlt]
   simp only [hfr, Bool.false_eq_true, if_false, Result.andThen_ok]
   exact h3
  ·rw [h4]; show (w.heap.modify g _).size = _; simp
  ·intro k hk; rw [h5 k hk, hw2 k hk]
  ·rw [h6]; rfl
theorem MR.put (h : MR ρ m w) {b : Nat} {i : Img} (hb : ρ b = some i) {o o' : zAe} (ho : m.get b = some o) (hw : o.wr = true) {w' : World} (hs : w'.heap.size = w.heap.size) (hm' : zH8 w w')
  (hk : ∀ k, k ≠ i.b → w'.heap[k]? = w.heap[k]?) (hor : OR ρ w' i o') : MR ρ (m.set b o') w' ∧ Ext ρ m w ρ (m.set b o') w' := by
 refine ⟨⟨fun c j hc => ?_, fun c j u hc hu => ?_, fun c e j l u z hc he hjl hu huw hz hzl => ?_⟩, ⟨ρ.le_refl, by omega, Nat.le_refl _, fun _ _ h => .inl h, fun k hk' hro => ?_, fun c j u hc hu huw hlt => ?_, hm'⟩⟩
 ·rw [hs]; exact h.lt c j hc
 ·rw [Mem.get_set] at hu
  by_cases e : c = b
  ·subst e; rw [if_pos rfl] at hu; cases hu
   rw [hb] at hc; cases hc; exact hor
  ·rw [if_neg e] at hu
   have hor' := h.obj c j u hc hu
   cases hl : u.live with
   | false => cases u <;> simp_all [zAe.live, OR]
   | true =>
    have hne : j.b ≠ i.b := fun e' => e (h.inj b c i j o u hb hc e'.symm ho hw hu hl).symm
    exact hor'.mono ρ.le_refl (hk _ hne)
 ·rw [Mem.get_set] at hu hz
  have key : ∀ x (y : zAe), (if x = b then some o' else m.get x) = some y → ∃ y', m.get x = some y' ∧ (y.wr = true → x = b ∨ y' = y) ∧ (y.live = true → x = b ∨ y' = y) ∧ (x = b → y' = o) := by
   intro x y hx
   by_cases e : x = b
   ·subst e; exact ⟨o, ho, fun _ => .inl rfl, fun _ => .inl rfl, fun _ => rfl⟩
   ·rw [if_neg e] at hx; exact ⟨y, hx, fun _ => .inr rfl, fun _ => .inr rfl, fun h => absurd h e⟩
  obtain ⟨u', h1, h2, _, h3⟩ := key c u hu
  obtain ⟨z', h4, _, h5, h6⟩ := key e z hz
  have hu' : u'.wr = true := by
   rcases h2 huw with e1 | e1
   ·rw [h3 e1]; exact hw
   ·rw [e1]; exact huw
  have hz' : z'.live = true := by
   rcases h5 hzl with e1 | e1
   ·rw [h6 e1]; exact zAe.live_of_wr hw
   ·rw [e1]; exact hzl
  exact h.inj c e j l u' z' hc he hjl h1 hu' h4 hz'
 ·refine hk k fun e => ?_
  have := hro b i o hb e.symm ho
  rw [this] at hw; cases hw
 ·rw [Mem.get_set] at hu
  by_cases e : c = b
  ·subst e; exact ⟨c, i, o, hb, by rw [hb] at hc; cases hc; rfl, ho, hw⟩
  ·rw [if_neg e] at hu; exact ⟨c, j, u, hc, rfl, hu, huw⟩
theorem MR.write (h : MR ρ m w) {b : Nat} {i : Img} (hb : ρ b = some i) {off : Nat} {xs : List V} {m' : Mem} (hw : zGq m b off xs = some m') {xs' : List Value} (hx : VRs ρ xs xs') (P : Program) :
  ∃ w', (storeCells ⟨i.b, off + i.d, none⟩ xs' 0).run P w = .ok () w' ∧ MR ρ m' w' ∧ Ext ρ m w ρ m' w' := by
 unfold zGq at hw
 split at hw
 ·rename_i cs ho
  split at hw
  ·rename_i r hr
   simp at hw; subst hw
   obtain ⟨h1, h2, h3, h4⟩ := zIX xs off cs r hr
   obtain ⟨cs', ty, lo, hi, h5, h6, h7, h8⟩ := h.obj b i _ hb ho
   have hlen := hx.length
   cases xs with
   | nil =>
    cases hx
    have : r = cs := by
     apply List.ext_getElem?
     intro k
     rw [h4 k, if_neg (by simp only [List.length_nil]; omega)]
    subst this
    refine ⟨w, rfl, ?_⟩
    exact h.put hb ho rfl rfl (zH8.refl w) (fun _ _ => rfl) ⟨cs', ty, lo, hi, h5, h6, h7, h8⟩
   | cons x xs =>
    have hin : off + i.d + 0 + xs'.length ≤ cs'.size := by
     simp only [List.length_cons] at h2 hlen
     obtain ⟨v', h9, _⟩ := h7 (off + xs.length) (cs[off + xs.length]'(by omega)) (List.getElem?_eq_getElem (by omega))
     have := (Array.getElem?_eq_some_iff.1 h9).1
     omega
    have hone : ∀ v ∈ xs', v.oneCell' = true := by
     intro v hv
     obtain ⟨j, hj, rfl⟩ := List.getElem_of_mem hv
     obtain ⟨u', h9, h10⟩ := hx.get j ((x :: xs)[j]'(by omega)) (List.getElem?_eq_getElem (by omega))
     rw [List.getElem?_eq_getElem hj] at h9
     cases h9
     exact h10.one (h3 _ (List.getElem_mem _))
    obtain ⟨w', h9, h10, h10m, h11, h12⟩ := zCK P i.b (off + i.d) ty lo hi xs' 0 cs' w h5 hin (by rw [h6]; have := h8 rfl; omega) hone
    refine ⟨w', h9, h.put hb ho rfl h10 h10m h11 ⟨_, ty, lo, hi, h12, by rw [zC3]; exact h6, ?_, h8⟩⟩
    intro k v hk
    rw [zEs xs' cs' _ hin]
    rw [h4 k] at hk
    by_cases hkk : off ≤ k ∧ k < off + (x :: xs).length
    ·rw [if_pos hkk] at hk
     rw [if_pos (by omega)]
     obtain ⟨u', h13, h14⟩ := hx.get _ _ hk
     exact ⟨u', by rw [← h13]; congr 1; omega, h14⟩
    ·rw [if_neg hkk] at hk
     rw [if_neg (by omega)]
     exact h7 k v hk
  ·cases hw
 ·cases hw
theorem MR.alloc (h : MR ρ m w) {o : zAe} {o' : Obj} {w' : World} (hw0 : Push w w' o') {n : Nat} {lp : Option zH5}
  (hor : OR (ρ.put m.next ⟨w.heap.size, n, 0, lp⟩) w' ⟨w.heap.size, n, 0, lp⟩ o) :
  MR (ρ.put m.next ⟨w.heap.size, n, 0, lp⟩) (m.new o) w' ∧ Ext ρ m w (ρ.put m.next ⟨w.heap.size, n, 0, lp⟩) (m.new o) w' := by
 have hw := hw0.1
 have hfree : ρ m.next = none := by
  cases e : ρ m.next with
  | none => rfl
  | some i => have := (h.lt _ _ e).1; omega
 have hle := Ren.le_put (i := ⟨w.heap.size, n, 0, lp⟩) hfree
 have hold : ∀ k, k < w.heap.size → w'.heap[k]? = w.heap[k]? := by
  intro k hk
  rw [hw, Array.getElem?_push, if_neg (by omega)]
 have hsz : w'.heap.size = w.heap.size + 1 := by rw [hw]; simp
 refine ⟨⟨fun c j hc => ?_, fun c j u hc hu => ?_, fun c e j l u z hc he hjl hu huw hz hzl => ?_⟩, ⟨hle, by omega, by simp, fun c j hc => ?_, fun k hk' _ => hold k hk', fun c j u hc hu huw hlt => ?_, hw0.2⟩⟩
 ·by_cases e : c = m.next
  ·subst e; rw [Ren.put_self] at hc; cases hc; simp; omega
  ·rw [Ren.put_ne e] at hc; have := h.lt c j hc; simp; omega
 ·rw [Mem.get_new] at hu
  by_cases e : c = m.next
  ·subst e; rw [Ren.put_self] at hc; cases hc; rw [if_pos rfl] at hu; cases hu; exact hor
  ·rw [Ren.put_ne e] at hc; rw [if_neg e] at hu
   exact (h.obj c j u hc hu).mono hle (hold _ (h.lt c j hc).2)
 ·rw [Mem.get_new] at hu hz
  by_cases e1 : c = m.next
  ·by_cases e2 : e = m.next
   ·rw [e1, e2]
   ·subst e1; rw [Ren.put_self] at hc; cases hc
    rw [Ren.put_ne e2] at he
    have := (h.lt e l he).2; simp at hjl; omega
  ·by_cases e2 : e = m.next
   ·subst e2; rw [Ren.put_self] at he; cases he
    rw [Ren.put_ne e1] at hc
    have := (h.lt c j hc).2; simp at hjl; omega
   ·rw [Ren.put_ne e1] at hc; rw [Ren.put_ne e2] at he; rw [if_neg e1] at hu; rw [if_neg e2] at hz
    exact h.inj c e j l u z hc he hjl hu huw hz hzl
 ·by_cases e : c = m.next
  ·exact .inr (by omega)
  ·rw [Ren.put_ne e] at hc; exact .inl hc
 ·rw [Mem.get_new] at hu
  by_cases e : c = m.next
  ·subst e; rw [Ren.put_self] at hc; cases hc; simp at hlt
  ·rw [Ren.put_ne e] at hc; rw [if_neg e] at hu; exact ⟨c, j, u, hc, rfl, hu, huw⟩
theorem MR.alloc_late (h : MR ρ m w) {x : Nat} (hx : x < m.next) (hfree : ρ x = none) {o : zAe} (ho : m.get x = some o) {o' : Obj} {w' : World} (hw0 : Push w w' o') {n : Nat}
  (hor : OR (ρ.put x ⟨w.heap.size, n, 0, none⟩) w' ⟨w.heap.size, n, 0, none⟩ o) : MR (ρ.put x ⟨w.heap.size, n, 0, none⟩) m w' := by
 have hw := hw0.1
 have hle := Ren.le_put (i := ⟨w.heap.size, n, 0, none⟩) hfree
 have hold : ∀ k, k < w.heap.size → w'.heap[k]? = w.heap[k]? := by
  intro k hk
  rw [hw, Array.getElem?_push, if_neg (by omega)]
 have hsz : w'.heap.size = w.heap.size + 1 := by rw [hw]; simp
 refine ⟨fun c j hc => ?_, fun c j u hc hu => ?_, fun c e j l u z hc he hjl hu huw hz hzl => ?_⟩
 ·by_cases e : c = x
  ·subst e; rw [Ren.put_self] at hc; cases hc; simp; omega
  ·rw [Ren.put_ne e] at hc; have := h.lt c j hc; omega
 ·by_cases e : c = x
  ·subst e; rw [Ren.put_self] at hc; cases hc; rw [ho] at hu; cases hu; exact hor
  ·rw [Ren.put_ne e] at hc
   exact (h.obj c j u hc hu).mono hle (hold _ (h.lt c j hc).2)
 ·by_cases e1 : c = x
  ·by_cases e2 : e = x
   ·rw [e1, e2]
   ·subst e1; rw [Ren.put_self] at hc; cases hc
    rw [Ren.put_ne e2] at he
    have := (h.lt e l he).2; simp at hjl; omega
  ·by_cases e2 : e = x
   ·subst e2; rw [Ren.put_self] at he; cases he
    rw [Ren.put_ne e1] at hc
    have := (h.lt c j hc).2; simp at hjl; omega
   ·rw [Ren.put_ne e1] at hc; rw [Ren.put_ne e2] at he
    exact h.inj c e j l u z hc he hjl hu huw hz hzl
theorem MR.alias (h : MR ρ m w) {b : Nat} {i : Img} (hb : ρ b = some i) {o o' : zAe} (ho : m.get b = some o) (hw : o.wr = true) {w' : World} (hs : w'.heap.size = w.heap.size) (hm' : zH8 w w')
  (hk : ∀ k, k ≠ i.b → w'.heap[k]? = w.heap[k]?) {d : Nat} (hor : OR (ρ.put m.next ⟨i.b, i.n, d, none⟩) w' ⟨i.b, i.n, d, none⟩ o') :
  MR (ρ.put m.next ⟨i.b, i.n, d, none⟩) ((m.set b .dead).new o') w' ∧ Ext ρ m w (ρ.put m.next ⟨i.b, i.n, d, none⟩) ((m.set b .dead).new o') w' := by
 have hfree : ρ m.next = none := by
  cases e : ρ m.next with
  | none => rfl
  | some i => have := (h.lt _ _ e).1; omega
 have hbn : b ≠ m.next := fun e => by rw [e] at hb; rw [hb] at hfree; cases hfree
 have hle := Ren.le_put (i := ⟨i.b, i.n, d, none⟩) hfree
 have hget : ∀ c, ((m.set b .dead).new o').get c = if c = m.next then some o' else if c = b then some .dead else m.get c := by
  intro c; simp
 refine ⟨⟨fun c j hc => ?_, fun c j u hc hu => ?_, fun c e j l u z hc he hjl hu huw hz hzl => ?_⟩, ⟨hle, by omega, by simp, fun c j hc => ?_, fun k hk' hro => ?_, fun c j u hc hu huw hlt => ?_, hm'⟩⟩
 ·by_cases e : c = m.next
  ·subst e; rw [Ren.put_self] at hc; cases hc; have := h.lt b i hb; simp; omega
  ·rw [Ren.put_ne e] at hc; have := h.lt c j hc; simp; omega
 ·rw [hget] at hu
  by_cases e : c = m.next
  ·subst e; rw [Ren.put_self] at hc; cases hc; rw [if_pos rfl] at hu; cases hu; exact hor
  ·rw [Ren.put_ne e] at hc; rw [if_neg e] at hu
   by_cases e2 : c = b
   ·rw [if_pos e2] at hu; cases hu; trivial
   ·rw [if_neg e2] at hu
    cases hl : u.live with
    | false => cases u <;> simp_all [zAe.live, OR]
    | true =>
     have hne : j.b ≠ i.b := fun e' => e2 (h.inj b c i j o u hb hc e'.symm ho hw hu hl).symm
     exact (h.obj c j u hc hu).mono hle (hk _ hne)
 ·rw [hget] at hu hz
  have key : ∀ y (j : Img) (t : zAe), ρ y = some j → y ≠ m.next → (if y = m.next then some o' else if y = b then some zAe.dead else m.get y) = some t → t.live = true → j.b ≠ i.b := by
   intro y j t hy hyn ht htl e'
   rw [if_neg hyn] at ht
   by_cases e2 : y = b
   ·rw [if_pos e2] at ht; cases ht; cases htl
   ·rw [if_neg e2] at ht
    exact e2 (h.inj b y i j o t hb hy e'.symm ho hw ht htl).symm
  by_cases e1 : c = m.next
  ·by_cases e2 : e = m.next
   ·rw [e1, e2]
   ·subst e1; rw [Ren.put_self] at hc; cases hc
    rw [Ren.put_ne e2] at he
    exact absurd hjl.symm (key e l z he e2 hz hzl)
  ·by_cases e2 : e = m.next
   ·subst e2; rw [Ren.put_self] at he; cases he
    rw [Ren.put_ne e1] at hc
    exact absurd hjl (key c j u hc e1 hu (zAe.live_of_wr huw))
   ·rw [Ren.put_ne e1] at hc; rw [Ren.put_ne e2] at he
    rw [if_neg e1] at hu; rw [if_neg e2] at hz
    by_cases e3 : c = b
    ·rw [if_pos e3] at hu; cases hu; cases huw
    ·by_cases e4 : e = b
     ·rw [if_pos e4] at hz; cases hz; cases hzl
     ·rw [if_neg e3] at hu; rw [if_neg e4] at hz
      exact h.inj c e j l u z hc he hjl hu huw hz hzl
 ·by_cases e : c = m.next
  ·exact .inr (by omega)
  ·rw [Ren.put_ne e] at hc; exact .inl hc
 ·refine hk k fun e => ?_
  have := hro b i o hb e.symm ho
  rw [this] at hw; cases hw
 ·rw [hget] at hu
  by_cases e : c = m.next
  ·subst e; rw [Ren.put_self] at hc; cases hc; exact ⟨b, i, o, hb, rfl, ho, hw⟩
  ·rw [Ren.put_ne e] at hc; rw [if_neg e] at hu
   by_cases e2 : c = b
   ·rw [if_pos e2] at hu; cases hu; cases huw
   ·rw [if_neg e2] at hu; exact ⟨c, j, u, hc, rfl, hu, huw⟩
end
end Go.AM
namespace Go.AM
open Go
theorem zAh {P : Program} {t : TypeId} {d : TypeDesc} (h : P.underlying t = some d) (w : World) : (underlying t).run P w = .ok d w := by
 simp [underlying, h]
mutual
theorem zDU (ρ : Ren) : ∀ (v : Value) (x : V), zB7 v = some x → VR ρ x v
 | .bool b, x, h => by simp only [zB7, Option.some.injEq] at h; subst h; exact .bool b
 | .int k n, x, h => by simp only [zB7, Option.some.injEq] at h; subst h; exact .int k n
 | .string s, x, h => by simp only [zB7, Option.some.injEq] at h; subst h; exact .str s
 | .pointer none, x, h => by simp only [zB7, Option.some.injEq] at h; subst h; exact .nilptr
 | .pointer (some _), x, h => by simp [zB7] at h
 | .slice none 0 0, x, h => by simp only [zB7, Option.some.injEq] at h; subst h; exact .nilslice
 | .slice none 0 (_ + 1), x, h => by simp [zB7] at h
 | .slice none (_ + 1) _, x, h => by simp [zB7] at h
 | .slice (some _) _ _, x, h => by simp [zB7] at h
 | .map none, x, h => by simp only [zB7, Option.some.injEq] at h; subst h; exact .nilmap
 | .map (some _), x, h => by simp [zB7] at h
 | .nilFunc, x, h => by simp only [zB7, Option.some.injEq] at h; subst h; exact .nilfunc
 | .nilIface, x, h => by simp only [zB7, Option.some.injEq] at h; subst h; exact .niliface
 | .agg ⟨cs⟩, x, h => by
  simp only [zB7] at h
  split at h
  ·rename_i l hl
   simp only [Option.some.injEq] at h; subst h
   exact .agg (zCF ρ cs l hl)
  ·cases h
 | .tuple ⟨cs⟩, x, h => by
  simp only [zB7] at h
  split at h
  ·rename_i l hl
   simp only [Option.some.injEq] at h; subst h
   exact .tuple (zCF ρ cs l hl)
  ·cases h
 | .func (.func f) ⟨a⟩ ⟨b⟩, x, h => by
  simp only [zB7] at h
  split at h
  ·rename_i a' b' ha hb
   simp only [Option.some.injEq] at h; subst h
   exact .func (zCF ρ a a' ha) (zCF ρ b b' hb)
  ·cases h
 | .func (.method _) _ _, x, h => by simp [zB7] at h
 | .func (.methodOf _ _) _ _, x, h => by simp [zB7] at h
 | .func (.via _ _ _ _) _ _, x, h => by simp [zB7] at h
 | .func (.yield _) _ _, x, h => by simp [zB7] at h
 | .iface t v, x, h => by
  simp only [zB7] at h
  split at h
  ·rename_i v' hv
   simp only [Option.some.injEq] at h; subst h
   exact .iface (zDU ρ v v' hv)
  ·cases h
 | .float _ _, x, h => by simp [zB7] at h
 | .complex _ _ _, x, h => by simp [zB7] at h
 | .chan _, x, h => by simp [zB7] at h
theorem zCF (ρ : Ren) : ∀ (l : List Value) (x : List V), zGu l = some x → VRs ρ x l
 | [], x, h => by simp only [zGu, Option.some.injEq] at h; subst h; exact .nil
 | v :: l, x, h => by
  simp only [zGu] at h
  split at h
  ·rename_i v' l' hv hl
   simp only [Option.some.injEq] at h; subst h
   exact .cons (zDU ρ v v' hv) (zCF ρ l l' hl)
  ·cases h
end
section
variable {P : Program} {ρ : Ren} {nt : Nat} {T : zAa} {a : Act}
theorem zAk (hs : SR ρ nt T a.tmps) {x : Operand} {y : Opd} (h : opd nt x = some y) : VR ρ (ev T y) (a.eval x) := by
 cases x with
 | tmp t =>
  simp only [opd] at h
  by_cases ht : t < nt
  ·rw [nbltT ht, cond_true, Option.some.injEq] at h; subst h
   exact hs.get t ht
  ·rw [nbltF ht, cond_false] at h; cases h
 | const v =>
  simp only [opd] at h
  split at h
  ·rename_i v' hv
   simp only [Option.some.injEq] at h; subst h
   exact zDU ρ v v' hv
  ·cases h
 | global g => simp [opd] at h
 | func f =>
  simp only [opd, Option.some.injEq] at h; subst h
  exact .func .nil .nil
theorem zCY (hs : SR ρ nt T a.tmps) : ∀ {l : List Operand} {ys : List Opd}, zIY nt l = some ys → VRs ρ (Opd.evs T ys) (l.map a.eval)
 | [], ys, h => by simp only [zIY, Option.some.injEq] at h; subst h; exact .nil
 | x :: l, ys, h => by
  simp only [zIY] at h
  split at h
  ·rename_i y ys' hy hl
   simp only [Option.some.injEq] at h; subst h
   exact .cons (zAk hs hy) (zCY hs hl)
  ·cases h
theorem opdO_none {x : Option Operand} (h : zEy nt x = some none) : x = none := by
 cases x with
 | none => rfl
 | some x =>
  simp only [zEy] at h
  split at h <;> simp at h
theorem opdO_some {x : Option Operand} {y : Opd} (h : zEy nt x = some (some y)) : ∃ z, x = some z ∧ opd nt z = some y := by
 cases x with
 | none => simp [zEy] at h
 | some x =>
  simp only [zEy] at h
  split at h
  ·rename_i y' hy; simp at h; subst h; exact ⟨x, rfl, hy⟩
  ·simp at h
end
theorem bytesOf_length (s : ByteArray) : (bytesOf s).length = s.size := by simp [bytesOf]
theorem u8_inj {a b : UInt8} (h : a.toNat = b.toNat) : a = b := UInt8.toNat_inj.1 h
theorem zDV : ∀ {a b : List UInt8}, a.map UInt8.toNat = b.map UInt8.toNat → a = b
 | [], [], _ => rfl
 | [], _ :: _, h => by simp at h
 | _ :: _, [], h => by simp at h
 | x :: a, y :: b, h => by
  rw [List.map_cons, List.map_cons, List.cons.injEq] at h
  obtain ⟨h1, h2⟩ := h
  rw [zDV h2, show x = y from UInt8.toNat_inj.1 h1]
theorem zHX {a b : ByteArray} (h : bytesOf a = bytesOf b) : a = b := by
 have := zDV h
 exact ByteArray.ext (Array.ext' this)
theorem zD3 : ∀ {a b : List Nat}, zFn a b = true ↔ a = b
 | [], [] => by simp [zFn]
 | [], _ :: _ => by simp [zFn]
 | _ :: _, [] => by simp [zFn]
 | x :: a, y :: b => by
  simp only [zFn, Bool.and_eq_true, List.cons.injEq, zD3 (a := a)]
  constructor
  ·rintro ⟨h1, h2⟩; exact ⟨Nat.eq_of_beq_eq_true h1, h2⟩
  ·rintro ⟨h1, h2⟩; exact ⟨zCG h1, h2⟩
theorem zEO (a b : ByteArray) : zFn (bytesOf a) (bytesOf b) = (a.toList == b.toList) := by
 rw [ByteArray.toList_eq, ByteArray.toList_eq, Bool.eq_iff_iff, zD3, beq_iff_eq]
 constructor
 ·exact fun h => zDV h
 ·exact fun h => by unfold bytesOf; rw [h]
theorem zH1 (a b : ByteArray) : zFn (bytesOf a) (bytesOf b) = (a == b) := by
 have e : (a == b) = (a.data == b.data) := rfl
 rw [e, Bool.eq_iff_iff, zD3, beq_iff_eq]
 exact ⟨fun h => by rw [zHX h], fun h => by unfold bytesOf; rw [h]⟩
theorem zHZ : ∀ (a b : List UInt8), zDw (a.map UInt8.toNat) (b.map UInt8.toNat) = Op.bytesLess a b
 | a, [] => by cases a <;> simp [zDw, Op.bytesLess]
 | [], _ :: _ => by simp [zDw, Op.bytesLess]
 | x :: a, y :: b => by
  simp only [List.map_cons, zDw, Op.bytesLess, zHZ a b]
  congr 1
  ·rw [Bool.eq_iff_iff, decide_eq_true_iff]
   constructor
   ·intro h; exact UInt8.lt_iff_toNat_lt.2 (by unfold Nat.blt at h; exact Nat.le_of_ble_eq_true h)
   ·intro h; exact nbltT (UInt8.lt_iff_toNat_lt.1 h)
  ·congr 1
   rw [Bool.eq_iff_iff, beq_iff_eq]
   constructor
   ·intro h; exact u8_inj (Nat.eq_of_beq_eq_true h)
   ·intro h; rw [h]; exact zCG rfl
theorem zCX (a b : ByteArray) : zDw (bytesOf a) (bytesOf b) = Op.bytesLess a.toList b.toList := by
 rw [ByteArray.toList_eq, ByteArray.toList_eq]; exact zHZ _ _
theorem zIn (a b : ByteArray) : bytesOf (a ++ b) = bytesOf a ++ bytesOf b := by
 simp [bytesOf, ByteArray.data_append]
theorem pow_cast (n : Nat) : ((2 : Int) ^ n) = Int.ofNat (2 ^ n) := by simp
theorem zEW (k : IntKind) (x : Int) : toU k x = (BitVec.ofInt k.bits x).toNat := by
 unfold toU
 rw [BitVec.toNat_ofInt]
 split
 ·rename_i m
  have : (Int.ofNat m % ((2 ^ k.bits : Nat) : Int)) = ((m % 2 ^ k.bits : Nat) : Int) := by simp
  rw [this, Int.toNat_natCast]
 ·simp
end Go.AM
namespace Go.AM
open Go
section
variable {P : Program} {ρ : Ren} (w : World) (t : TypeId)
theorem binInt_sound {op : BinOp} (hop : zGf op = false) {k : IntKind} {x y : Int} {v : V} (h : binInt op k x y = some v) :
  ∃ v', (binOp op t (.int k x) (.int k y)).run P w = .ok v' w ∧ VR ρ v v' := by
 cases op <;> simp only [binInt, Option.some.injEq, reduceCtorEq] at h <;> simp only [zGf, reduceCtorEq] at hop
 case add => subst h; exact ⟨.int k (k.wrap (x + y)), by simp [binOp, Op.intArith], by rw [zF4, addI_eq]; exact .int _ _⟩
 case sub => subst h; exact ⟨.int k (k.wrap (x - y)), by simp [binOp, Op.intArith], by rw [zF4, subI_eq]; exact .int _ _⟩
 case mul => subst h; exact ⟨.int k (k.wrap (x * y)), by simp [binOp, Op.intArith], by rw [zF4, mulI_eq]; exact .int _ _⟩
 case quo =>
  rw [zDI] at h
  by_cases hy : y = 0
  ·simp [hy] at h
  ·simp only [hy, decide_false, cond_false, Option.some.injEq] at h; subst h
   exact ⟨.int k (k.wrap (x.tdiv y)), by simp [binOp, Op.intDiv, hy], by rw [zF4]; exact .int _ _⟩
 case rem =>
  rw [zDI] at h
  by_cases hy : y = 0
  ·simp [hy] at h
  ·simp only [hy, decide_false, cond_false, Option.some.injEq] at h; subst h
   exact ⟨.int k (x.tmod y), by simp [binOp, Op.intDiv, hy], .int _ _⟩
 case and => subst h; exact ⟨.int k (k.wrap ((BitVec.ofInt k.bits x &&& BitVec.ofInt k.bits y).toNat)), by simp [binOp, Op.intBits], by rw [zF4, zEW, zEW, ← BitVec.toNat_and]; exact .int _ _⟩
 case or => subst h; exact ⟨.int k (k.wrap ((BitVec.ofInt k.bits x ||| BitVec.ofInt k.bits y).toNat)), by simp [binOp, Op.intBits], by rw [zF4, zEW, zEW, ← BitVec.toNat_or]; exact .int _ _⟩
 case andNot => subst h; exact ⟨.int k (k.wrap ((BitVec.ofInt k.bits x &&& ~~~BitVec.ofInt k.bits y).toNat)), by simp [binOp, Op.intBits], by rw [zF4, zEW, zEW, ← BitVec.toNat_not, ← BitVec.toNat_and]; exact .int _ _⟩
 case xor => subst h; exact ⟨.int k (k.wrap ((BitVec.ofInt k.bits x ^^^ BitVec.ofInt k.bits y).toNat)), by simp [binOp, Op.intBits], by rw [zF4, zEW, zEW, ← BitVec.toNat_xor]; exact .int _ _⟩
 case eql => subst h; exact ⟨.bool (x == y), by simp [binOp, Op.intCmp], by rw [zDI]; exact .bool _⟩
 case neq => subst h; exact ⟨.bool (x != y), by simp [binOp, Op.intCmp], by rw [zDI]; exact .bool _⟩
 case lss => subst h; exact ⟨.bool (x < y), by simp [binOp, Op.intCmp], by rw [zGv]; exact .bool _⟩
 case leq => subst h; exact ⟨.bool (x ≤ y), by simp [binOp, Op.intCmp], by rw [zGv, ← decide_not, show decide (¬ y < x) = decide (x ≤ y) from decide_eq_decide.2 (by omega)]; exact .bool _⟩
 case gtr => subst h; exact ⟨.bool (x > y), by simp [binOp, Op.intCmp], by rw [zGv]; exact .bool _⟩
 case geq => subst h; exact ⟨.bool (x ≥ y), by simp [binOp, Op.intCmp], by rw [zGv, ← decide_not, show decide (¬ x < y) = decide (x ≥ y) from decide_eq_decide.2 (by omega)]; exact .bool _⟩
theorem zId {op : BinOp} (hop : zGf op = true) {k j : IntKind} {x y : Int} {v : V} (h : zIQ op k x y = some v) :
  ∃ v', (binOp op t (.int k x) (.int j y)).run P w = .ok v' w ∧ VR ρ v v' := by
 unfold zIQ at h
 rw [zGv] at h
 by_cases hy : y < 0
 ·simp [hy] at h
 ·simp only [hy, decide_false, cond_false] at h
  cases op <;> simp only [zGf, reduceCtorEq] at hop <;> simp only [Option.some.injEq] at h <;> subst h
  ·exact ⟨.int k (k.wrap (x * 2 ^ min y.toNat k.bits)), by simp [binOp, Op.shift, hy], by rw [zF4, ← pow_cast]; exact .int _ _⟩
  ·exact ⟨.int k (x.fdiv (2 ^ min y.toNat k.bits)), by simp [binOp, Op.shift, hy], by rw [← pow_cast]; exact .int _ _⟩
theorem binStr_sound {op : BinOp} {x y : ByteArray} {v : V} (h : binStr op (bytesOf x) (bytesOf y) = some v) :
  ∃ v', (binOp op t (.string x) (.string y)).run P w = .ok v' w ∧ VR ρ v v' := by
 cases op <;> simp only [binStr, Option.some.injEq, reduceCtorEq] at h
 case add =>
  rw [bytesOf_length, bytesOf_length] at h
  by_cases hl : x.size + y.size ≤ 9223372036854775807
  ·rw [show Nat.ble (x.size + y.size) 9223372036854775807 = true from Nat.ble_eq_true_of_le hl, cond_true, Option.some.injEq] at h; subst h
   refine ⟨.string (x ++ y), ?_, by rw [← zIn]; exact .str _⟩
   have e : ¬ (((x.size + y.size : Nat) : Int) > IntKind.i64.max) := by
    have : IntKind.i64.max = 9223372036854775807 := by decide
    omega
   simp only [binOp, Op.stringOp, e, if_false]; rfl
  ·rw [show Nat.ble (x.size + y.size) 9223372036854775807 = false from by cases e : Nat.ble (x.size + y.size) 9223372036854775807 with | false => rfl | true => exact absurd (Nat.le_of_ble_eq_true e) hl, cond_false] at h
   cases h
 case eql => subst h; exact ⟨.bool (x.toList == y.toList), by simp [binOp, Op.stringOp], by rw [zEO]; exact .bool _⟩
 case neq => subst h; exact ⟨.bool !(x.toList == y.toList), by simp [binOp, Op.stringOp], by rw [zEO]; exact .bool _⟩
 case lss => subst h; exact ⟨.bool (Op.bytesLess x.toList y.toList), by simp [binOp, Op.stringOp], by rw [zCX]; exact .bool _⟩
 case leq => subst h; exact ⟨.bool (Op.bytesLess x.toList y.toList || x.toList == y.toList), by simp [binOp, Op.stringOp], by rw [zCX, zEO]; exact .bool _⟩
 case gtr => subst h; exact ⟨.bool !(Op.bytesLess x.toList y.toList || x.toList == y.toList), by simp [binOp, Op.stringOp], by rw [zCX, zEO]; exact .bool _⟩
 case geq => subst h; exact ⟨.bool !(Op.bytesLess x.toList y.toList), by simp [binOp, Op.stringOp], by rw [zCX]; exact .bool _⟩
theorem binV_sound {op : BinOp} {x y v : V} {x' y' : Value} (hx : VR ρ x x') (hy : VR ρ y y') (h : zBg op x y = some v) (o1 o2 : Operand) :
  ∃ v', (do eqGuard op t o1 o2 x' y'; binOp op t x' y').run P w = .ok v' w ∧ VR ρ v v' := by
 have key : (eqGuard op t o1 o2 x' y').run P w = .ok () w → (∃ v', (binOp op t x' y').run P w = .ok v' w ∧ VR ρ v v') → ∃ v', (do eqGuard op t o1 o2 x' y'; binOp op t x' y').run P w = .ok v' w ∧ VR ρ v v' := by
  rintro h1 ⟨v', h2, h3⟩
  exact ⟨v', by rw [Sem.run_bind, h1]; exact h2, h3⟩
 unfold zBg at h
 split at h
 ·rename_i k x j y
  cases hx; cases hy
  refine key (by cases op <;> simp [eqGuard]) ?_
  cases hsh : zGf op with
  | true => rw [hsh, cond_true] at h; exact zId w t hsh h
  | false =>
   rw [hsh, cond_false] at h
   cases hk : zGw k j with
   | false => simp [hk] at h
   | true =>
    rw [hk, cond_true] at h
    have := zEA.1 hk; subst this
    exact binInt_sound w t hsh h
 ·cases hx; cases hy
  exact key (by cases op <;> simp [eqGuard]) (binStr_sound w t h)
 ·cases h
theorem unV_sound {op : UnOp} {x v : V} {x' : Value} (hx : VR ρ x x') (h : unV op x = some v) : ∃ v', (Op.unary op x').run P w = .ok v' w ∧ VR ρ v v' := by
 unfold unV at h
 split at h
 ·rename_i k n
  cases hx
  simp only [Option.some.injEq] at h; subst h
  exact ⟨.int k (k.wrap (0 - n)), by simp [Op.unary, Op.intArith], by rw [zF4]; exact .int _ _⟩
 ·cases hx
  simp only [Option.some.injEq] at h; subst h
  exact ⟨_, by simp [Op.unary], .bool _⟩
 ·rename_i k n
  cases hx
  simp only [Option.some.injEq] at h; subst h
  refine ⟨.int k (k.wrap ((BitVec.ofInt k.bits (if k.signed then -1 else k.max) ^^^ BitVec.ofInt k.bits n).toNat)), by simp [Op.unary, Op.intBits], ?_⟩
  rw [zF4, zEW, zEW, ← BitVec.toNat_xor]
  exact .int _ _
 ·cases h
def skT (P : Program) (k : SK) (t : TypeId) : Prop :=
 match k with
 | .bool => P.underlying t = some .bool
 | .int => ∃ j, P.underlying t = some (.int j)
 | .str => P.underlying t = some .string
 | .ptr => ∃ e n, P.underlying t = some (.pointer e) ∧ zBa P e = some (n + 1)
theorem zAQ {e : TypeId} {n : Nat} (h : zBa P e = some n) : (sizeOf e).run P w = .ok n w := by
 unfold zBa at h
 simp only [Option.map_eq_some_iff] at h
 obtain ⟨i, hi, rfl⟩ := h
 simp [sizeOf, typeInfo, hi]
theorem eqS_sound {k : SK} {t : TypeId} (ht : skT P k t) {x y : V} {x' y' : Value} (hx : VR ρ x x') (hy : VR ρ y y') {b : Bool} (h : eqS k x y = some b) (d : Nat) :
  (Op.equalIn (d + 1) t x' y').run P w = .ok b w := by
 unfold eqS at h
 split at h
 ·cases hx; cases hy
  simp only [Option.some.injEq] at h; subst h
  simp only [skT] at ht
  simp [Op.equalIn, zAh ht]
 ·cases hx; cases hy
  obtain ⟨j, hj⟩ := ht
  rename_i k1 a k2 b'
  cases hk : zGw k1 k2 with
  | false => simp [hk] at h
  | true =>
   rw [hk, cond_true, Option.some.injEq, zDI] at h; subst h
   have := zEA.1 hk; subst this
   simp [Op.equalIn, zAh hj]
   rfl
 ·cases hx; cases hy
  simp only [Option.some.injEq] at h; subst h
  simp only [skT] at ht
  simp [Op.equalIn, zAh ht, zH1]
 ·cases hx; cases hy
  obtain ⟨e, n, h1, h2⟩ := ht
  simp only [Option.some.injEq] at h; subst h
  simp [Op.equalIn, zAh h1]
 ·cases hx; cases hy
  obtain ⟨e, n, h1, h2⟩ := ht
  simp only [Option.some.injEq] at h; subst h
  simp [Op.equalIn, zAh h1]
 ·cases hx; cases hy
  obtain ⟨e, n, h1, h2⟩ := ht
  simp only [Option.some.injEq] at h; subst h
  simp [Op.equalIn, zAh h1]
 ·rename_i b1 o1 b2 o2
  obtain ⟨e, n, h1, h2⟩ := ht
  cases hb : Nat.beq b1 b2 with
  | false => simp [hb] at h
  | true =>
   rw [hb, cond_true, Option.some.injEq] at h; subst h
   have := Nat.eq_of_beq_eq_true hb; subst this
   cases hx with | ptr hi => cases hy with | ptr hj =>
   rw [hi] at hj; cases hj
   have hsz := zAQ (P := P) w h2
   simp only [Op.equalIn, Sem.run_bind, zAh h1, Result.andThen_ok, hsz]
   simp [sameAddr]
   rw [Bool.eq_iff_iff, beq_iff_eq]
   simp only [Addr.mk.injEq, true_and, and_true]
   constructor
   ·intro h; exact zCG (by omega)
   ·intro h; have := Nat.eq_of_beq_eq_true h; omega
 ·cases h
end
end Go.AM
namespace Go.AM
open Go
def valOf (P : Program) (t : TypeId) (cs : List Value) : Value :=
 match zFo P t with
 | some true => .agg ⟨cs⟩
 | _ => cs.getD 0 Go.undef
section
variable {P : Program} {ρ : Ren} (w : World)
theorem zJl {t : TypeId} {b : Bool} (h : zFo P t = some b) : (isAgg t).run P w = .ok b w := by
 unfold zFo at h
 unfold isAgg
 rw [Sem.run_bind]
 cases hu : P.underlying t with
 | none => simp [hu] at h
 | some d =>
  rw [zAh hu, Result.andThen_ok]
  cases d <;> simp_all
theorem zEw {t : TypeId} {b : Bool} {n : Nat} (ha : zFo P t = some b) (hn : zBa P t = some n) (cs : List Value) {off : Nat} (hoff : off + n ≤ cs.length) (hb : b = false → n = 1) :
  (part t ⟨cs⟩ off).run P w = .ok (valOf P t ((cs.drop off).take n)) w := by
 unfold part
 rw [Sem.run_bind, zJl w ha, Result.andThen_ok]
 cases b with
 | true =>
  simp only [if_true, Sem.run_bind, zAQ w hn, Result.andThen_ok, Sem.run_pure, valOf, ha]
  congr 2
  simp [List.take_drop, Nat.add_comm]
 | false =>
  have h1 := hb rfl; subst h1
  have hlt : off < cs.length := by omega
  simp only [Bool.false_eq_true, if_false, valOf, ha, List.getElem?_toArray, List.getElem?_eq_getElem hlt, Sem.run_pure]
  congr 1
  rw [List.getD_eq_getElem?_getD, List.getElem?_take_of_lt (by omega), List.getElem?_drop, Nat.add_zero, List.getElem?_eq_getElem hlt]
  rfl
theorem zCB : ∀ (k1 k2 : List SK) (xs ys : List V) (b : Bool), zAM (k1 ++ k2) xs ys = some b →
  ∃ b1 b2, zAM k1 (xs.take k1.length) (ys.take k1.length) = some b1 ∧ zAM k2 (xs.drop k1.length) (ys.drop k1.length) = some b2 ∧ b = (b1 && b2)
 | [], k2, xs, ys, b, h => ⟨true, b, by simp [zAM], by simpa using h, by simp⟩
 | k :: k1, k2, [], ys, b, h => by simp [zAM] at h
 | k :: k1, k2, _ :: _, [], b, h => by simp [zAM] at h
 | k :: k1, k2, x :: xs, y :: ys, b, h => by
  simp only [List.cons_append, zAM] at h
  split at h
  ·rename_i he
   obtain ⟨b1, b2, h1, h2, h3⟩ := zCB k1 k2 xs ys b h
   exact ⟨b1, b2, by simp [zAM, he, h1], by simpa using h2, h3⟩
  ·rename_i he
   split at h
   ·rename_i b' hb'
    obtain ⟨b1, b2, h1, h2, h3⟩ := zCB k1 k2 xs ys b' hb'
    simp only [Option.some.injEq] at h; subst h
    exact ⟨false, b2, by simp [zAM, he, h1], by simpa using h2, by simp⟩
   ·cases h
  ·cases h
theorem zCA : ∀ {ks : List SK} {xs ys : List V} {b : Bool}, zAM ks xs ys = some b → xs.length = ks.length ∧ ys.length = ks.length
 | [], [], [], _, _ => ⟨rfl, rfl⟩
 | [], [], _ :: _, _, h => by simp [zAM] at h
 | [], _ :: _, _, _, h => by simp [zAM] at h
 | _ :: _, [], _, _, h => by simp [zAM] at h
 | _ :: _, _ :: _, [], _, h => by simp [zAM] at h
 | k :: ks, x :: xs, y :: ys, b, h => by
  simp only [zAM] at h
  have key : ∃ b', zAM ks xs ys = some b' := by
   split at h
   ·exact ⟨b, h⟩
   ·split at h
    ·rename_i b' hb'; exact ⟨b', hb'⟩
    ·cases h
   ·cases h
  obtain ⟨b', hb'⟩ := key
  obtain ⟨h1, h2⟩ := zCA hb'
  exact ⟨by simp [h1], by simp [h2]⟩
theorem zFF {d : Nat} {t : TypeId} {ks : List SK} (h : kinds P d t = some ks) : ∃ b, zFo P t = some b ∧ (b = false → ks.length = 1) := by
 cases d with
 | zero => simp [kinds] at h
 | succ d =>
  unfold kinds at h
  unfold zFo
  split at h
  ·rename_i hu; rw [hu]; cases h; exact ⟨false, rfl, fun _ => rfl⟩
  ·rename_i hu; rw [hu]; cases h; exact ⟨false, rfl, fun _ => rfl⟩
  ·rename_i hu; rw [hu]; cases h; exact ⟨false, rfl, fun _ => rfl⟩
  ·rename_i hu; rw [hu]; exact ⟨true, rfl, fun h => by cases h⟩
  ·rename_i hu; rw [hu]; exact ⟨true, rfl, fun h => by cases h⟩
  ·cases h
def EqAt (P : Program) (ρ : Ren) (D : Nat) (t : TypeId) (ks : List SK) : Prop :=
 ∀ (w : World) (xs ys : List V) (xs' ys' : List Value) (b : Bool), VRs ρ xs xs' → VRs ρ ys ys' → zAM ks xs ys = some b →
  (Op.equalIn D t (valOf P t xs') (valOf P t ys')).run P w = .ok b w
theorem zE5 {kd : TypeId → Option (List SK)} {D : Nat} (hkd : ∀ t ks, kd t = some ks → EqAt P ρ D t ks ∧ ∃ b, zFo P t = some b ∧ (b = false → ks.length = 1)) :
  ∀ (fs : List Field) (off : Nat) (ks : List SK), zHs P kd fs off = some ks → ∀ (w : World) (xs ys : List V) (xs' ys' : List Value) (b : Bool),
   VRs ρ xs xs' → VRs ρ ys ys' → off ≤ xs.length → off ≤ ys.length → zAM ks (xs.drop off) (ys.drop off) = some b → (Op.eqFields D ⟨xs'⟩ ⟨ys'⟩ fs).run P w = .ok b w
 | [], off, ks, h, w, xs, ys, xs', ys', b, hx, hy, _, _, he => by
  simp only [zHs, Option.some.injEq] at h; subst h
  have : b = true := by
   generalize xs.drop off = x at he
   generalize ys.drop off = y at he
   cases x <;> cases y <;> simp_all [zAM]
  subst this
  rfl
 | f :: fs, off, ks, h, w, xs, ys, xs', ys', b, hx, hy, hox, hoy, he => by
  unfold zHs at h
  by_cases hname : f.name = "_"
  ·simp [hname] at h
  ·cases hoff : Nat.beq f.offset off with
   | false => simp [hname, hoff] at h
   | true =>
    have hoff' := Nat.eq_of_beq_eq_true hoff
    simp only [hname, decide_false, hoff, Bool.not_true, Bool.or_self, cond_false] at h
    split at h
    ·rename_i k n hk hn
     cases hnk : Nat.beq n k.length with
     | false => simp [hnk] at h
     | true =>
      have hnk' := Nat.eq_of_beq_eq_true hnk
      rw [hnk, cond_true] at h
      split at h
      ·rename_i r hr
       simp only [Option.some.injEq] at h; subst h
       obtain ⟨hE, bb, hagg, h1⟩ := hkd _ _ hk
       obtain ⟨b1, b2, e1, e2, e3⟩ := zCB k r _ _ b he
       have hl := zCA he
       have hlx := hx.length
       have hly := hy.length
       simp only [List.length_drop, List.length_append] at hl
       unfold Op.eqFields
       rw [if_pos hname]
       subst hnk'
       simp only [Sem.run_bind]
       have hxl : f.offset + k.length ≤ xs'.length := by omega
       have hyl : f.offset + k.length ≤ ys'.length := by omega
       rw [zEw w hagg hn xs' hxl h1, Result.andThen_ok]
       rw [zEw w hagg hn ys' hyl h1, Result.andThen_ok]
       rw [hE w _ _ _ _ b1 ((hx.drop f.offset).take k.length) ((hy.drop f.offset).take k.length) (by rw [hoff']; exact e1), Result.andThen_ok]
       cases b1 with
       | false => simp only [Bool.not_false, if_true]; rw [e3]; rfl
       | true =>
        simp only [Bool.not_true, Bool.false_eq_true, if_false]
        rw [e3]
        exact zE5 hkd fs (off + k.length) r hr w xs ys xs' ys' b2 hx hy (by omega) (by omega) (by rw [← List.drop_drop, ← List.drop_drop]; exact e2)
      ·cases h
    ·cases h
theorem forIn_no (g : Nat → Sem Bool) (v : Nat → Bool) : ∀ (l : List Nat) (w : World), (∀ i ∈ l, ∀ w, (g i).run P w = .ok (v i) w) →
  ((forIn l ((none, ()) : Option Bool × Unit) (fun i _ => do
    let r ← g i
    if (!r) = true then pure (ForInStep.done (some false, ())) else pure (ForInStep.yield (none, ()))) : Sem (Option Bool × Unit)).run P w).andThen
   (fun a w' => Sem.run P (match a.fst with | some r => pure r | none => pure true) w') = .ok (l.all v) w
 | [], w, _ => rfl
 | i :: l, w, h => by
  simp only [List.forIn_cons, Sem.run_bind, h i List.mem_cons_self, Result.andThen_ok, Sem.run_ite]
  cases hv : v i with
  | false => simp [hv]
  | true =>
   have := forIn_no g v l w fun j hj => h j (List.mem_cons_of_mem _ hj)
   simp only [Bool.not_true, Bool.false_eq_true, if_false, Sem.run_pure, Result.andThen_ok]
   rw [this]
   simp [hv]
theorem zE6 (k : List SK) : ∀ (n : Nat) (xs ys : List V) (b : Bool), zAM ((List.replicate n k).flatten) xs ys = some b →
  ∃ v : Nat → Bool, (∀ i, i < n → zAM k ((xs.drop (i * k.length)).take k.length) ((ys.drop (i * k.length)).take k.length) = some (v i)) ∧ b = (List.range n).all v
 | 0, xs, ys, b, h => by
  refine ⟨fun _ => true, fun i hi => by omega, ?_⟩
  cases xs <;> cases ys <;> simp_all [zAM]
 | n + 1, xs, ys, b, h => by
  rw [List.replicate_succ, List.flatten_cons] at h
  obtain ⟨b1, b2, h1, h2, h3⟩ := zCB k _ xs ys b h
  obtain ⟨v, hv, hb⟩ := zE6 k n _ _ b2 h2
  refine ⟨fun i => match i with | 0 => b1 | i + 1 => v i, ?_, ?_⟩
  ·intro i hi
   cases i with
   | zero => simpa using h1
   | succ i =>
    have := hv i (by omega)
    simp only [List.drop_drop] at this
    rw [Nat.succ_mul, Nat.add_comm (i * k.length)]
    exact this
  ·rw [List.range_succ_eq_map, List.all_cons, h3, hb]
   simp [List.all_map, Function.comp_def]
theorem zFf : ∀ (d D : Nat) (t : TypeId) (ks : List SK), d ≤ D → kinds P d t = some ks → EqAt P ρ D t ks
 | 0, D, t, ks, _, h => by simp [kinds] at h
 | d + 1, 0, t, ks, hD, h => by omega
 | d + 1, D + 1, t, ks, hD, h => by
  have scalar : ∀ (k : SK), skT P k t → zFo P t = some false → EqAt P ρ (D + 1) t [k] := by
   intro k hk ha w xs ys xs' ys' b hx hy he
   obtain ⟨l1, l2⟩ := zCA he
   match xs, ys, xs', ys', hx, hy, l1, l2 with
   | [x], [y], [x'], [y'], .cons hx1 .nil, .cons hy1 .nil, _, _ =>
    simp only [valOf, ha]
    simp only [zAM] at he
    have : eqS k x y = some b := by
     split at he
     ·rename_i e; rw [e]; exact he
     ·rename_i e; rw [e]; exact he
     ·cases he
    exact eqS_sound w hk hx1 hy1 this D
  unfold kinds at h
  split at h
  ·rename_i hu; cases h; exact scalar .bool hu (by unfold zFo; rw [hu])
  ·rename_i hu; cases h; exact scalar .int ⟨_, hu⟩ (by unfold zFo; rw [hu])
  ·rename_i hu; cases h; exact scalar .str hu (by unfold zFo; rw [hu])
  ·rename_i fs hu
   cases hst : P.stoodInHeld t with
   | true => simp [hst] at h
   | false =>
    rw [hst, cond_false] at h
    intro w xs ys xs' ys' b hx hy he
    have ha : zFo P t = some true := by unfold zFo; rw [hu]
    simp only [valOf, ha]
    have hu' : P.underlying t = some (.struct (P.fieldsOf t)) := by unfold Program.fieldsOf; rw [hu]
    have hfs : P.fieldsOf t = fs := by unfold Program.fieldsOf; rw [hu]
    rw [run_equalIn_struct w D t _ _ hu' hst, hfs]
    exact zE5 (fun t' ks' hk => ⟨zFf d D t' ks' (by omega) hk, zFF hk⟩) fs.toList 0 ks h w xs ys xs' ys' b hx hy (Nat.zero_le _) (Nat.zero_le _) (by simpa using he)
  ·rename_i n e hu
   split at h
   ·rename_i k z hk hz
    cases hzk : Nat.beq z k.length with
    | false => simp [hzk] at h
    | true =>
     have hzk' := Nat.eq_of_beq_eq_true hzk
     rw [hzk, cond_true, Option.some.injEq] at h; subst h; subst hzk'
     intro w xs ys xs' ys' b hx hy he
     have ha : zFo P t = some true := by unfold zFo; rw [hu]
     simp only [valOf, ha]
     obtain ⟨v, hv, hb⟩ := zE6 k n xs ys b he
     obtain ⟨bb, hagg, h1⟩ := zFF hk
     obtain ⟨l1, l2⟩ := zCA he
     have hlen : ((List.replicate n k).flatten).length = n * k.length := by simp
     have hlx := hx.length
     have hly := hy.length
     simp only [Op.equalIn, Sem.run_bind, zAh hu, Result.andThen_ok, zAQ w hz]
     have hloop := forIn_no (P := P) (fun i => do
       let a ← part e ⟨xs'⟩ (i * k.length)
       let b ← part e ⟨ys'⟩ (i * k.length)
       Op.equalIn D e a b) v (List.range n) w (fun i hi w => by
      have hin : i < n := List.mem_range.1 hi
      have hmul : i * k.length + k.length ≤ n * k.length := by
       have := Nat.mul_le_mul_right k.length (show i + 1 ≤ n by omega)
       rw [Nat.succ_mul] at this; exact this
      simp only [Sem.run_bind]
      rw [zEw w hagg hz xs' (by omega) h1, Result.andThen_ok, zEw w hagg hz ys' (by omega) h1, Result.andThen_ok]
      exact zFf d D e k (by omega) hk w _ _ _ _ (v i) ((hx.drop _).take _) ((hy.drop _).take _) (hv i hin))
     simp only [bind_assoc] at hloop
     simp only [Std.Legacy.Range.forIn_eq_forIn_range', Std.Legacy.Range.size, Nat.sub_zero, Nat.add_one_sub_one, Nat.div_one, ← List.range_eq_range']
     rw [hb]
     generalize Sem.run P (forIn (List.range n) _ _) w = r at hloop ⊢
     cases r with
     | halt x w' => exact hloop
     | ok a w' =>
      obtain ⟨o, u⟩ := a
      cases o <;> exact hloop
   ·cases h
  ·cases h
end
end Go.AM
namespace Go.AM
open Go
section
variable {P : Program} {ρ : Ren}
theorem zGh {α : Type} (body : α → PUnit → Sem (ForInStep PUnit)) : ∀ (l : List α) (w : World), (∀ i ∈ l, ∀ w, (body i PUnit.unit).run P w = .ok (.yield PUnit.unit) w) →
  (forIn l PUnit.unit body : Sem PUnit).run P w = .ok PUnit.unit w
 | [], w, _ => rfl
 | i :: l, w, h => by
  simp only [List.forIn_cons, Sem.run_bind, h i List.mem_cons_self w, Result.andThen_ok]
  exact zGh body l w fun j hj => h j (List.mem_cons_of_mem _ hj)
def CheckA (P : Program) (em : Bool) (D : Nat) (t : TypeId) (ks : List SK) : Prop :=
 ∀ (w : World) (xs' : List Value), xs'.length = ks.length → (Instr.checkKey em D t (valOf P t xs')).run P w = .ok () w
theorem kindsF_at {kd : TypeId → Option (List SK)} : ∀ (fs : List Field) (off : Nat) (ks : List SK), zHs P kd fs off = some ks →
  ∀ f ∈ fs, ∃ k, kd f.type = some k ∧ zBa P f.type = some k.length ∧ off ≤ f.offset ∧ f.offset + k.length ≤ off + ks.length
 | [], _, _, _, f, hf => by cases hf
 | g :: fs, off, ks, h, f, hf => by
  unfold zHs at h
  by_cases hname : g.name = "_"
  ·simp [hname] at h
  ·cases hoff : Nat.beq g.offset off with
   | false => simp [hname, hoff] at h
   | true =>
    have hoff' := Nat.eq_of_beq_eq_true hoff
    simp only [hname, decide_false, hoff, Bool.not_true, Bool.or_self, cond_false] at h
    split at h
    ·rename_i k n hk hn
     cases hnk : Nat.beq n k.length with
     | false => simp [hnk] at h
     | true =>
      have hnk' := Nat.eq_of_beq_eq_true hnk
      rw [hnk, cond_true] at h
      split at h
      ·rename_i r hr
       simp only [Option.some.injEq] at h; subst h
       rcases List.mem_cons.1 hf with rfl | hf
       ·exact ⟨k, hk, by rw [hn, hnk'], by omega, by simp; omega⟩
       ·obtain ⟨k', h1, h2, h3, h4⟩ := kindsF_at fs _ r hr f hf
        exact ⟨k', h1, h2, by omega, by simp; omega⟩
      ·cases h
    ·cases h
theorem zFk (em : Bool) : ∀ (d D : Nat) (t : TypeId) (ks : List SK), d ≤ D → kinds P d t = some ks → CheckA P em D t ks
 | 0, D, t, ks, _, h => by simp [kinds] at h
 | d + 1, 0, t, ks, hD, h => by omega
 | d + 1, D + 1, t, ks, hD, h => by
  intro w xs' hl
  unfold kinds at h
  split at h
  ·rename_i hu; simp only [Instr.checkKey, Sem.run_bind, zAh hu, Result.andThen_ok]; rfl
  ·rename_i hu; simp only [Instr.checkKey, Sem.run_bind, zAh hu, Result.andThen_ok]; rfl
  ·rename_i hu; simp only [Instr.checkKey, Sem.run_bind, zAh hu, Result.andThen_ok]; rfl
  ·rename_i fs hu
   cases hst : P.stoodInHeld t with
   | true => simp [hst] at h
   | false =>
    rw [hst, cond_false] at h
    have ha : zFo P t = some true := by unfold zFo; rw [hu]
    simp only [valOf, ha, Instr.checkKey, Sem.run_bind, zAh hu, Result.andThen_ok]
    rw [← Array.forIn_toList]
    rw [zGh (P := P) _ fs.toList w ?_]
    ·rfl
    ·intro f hf w
     obtain ⟨k, h1, h2, h3, h4⟩ := kindsF_at fs.toList 0 ks h f hf
     obtain ⟨bb, hagg, hb⟩ := zFF h1
     by_cases hn : f.name ≠ "_"
     ·simp only [if_pos hn, Sem.run_bind]
      rw [zEw w hagg h2 xs' (by omega) hb, Result.andThen_ok, zFk em d D f.type k (by omega) h1 w _ (by simp; omega)]
      rfl
     ·simp only [if_neg hn]; rfl
  ·rename_i n e hu
   split at h
   ·rename_i k z hk hz
    cases hzk : Nat.beq z k.length with
    | false => simp [hzk] at h
    | true =>
     have hzk' := Nat.eq_of_beq_eq_true hzk
     rw [hzk, cond_true, Option.some.injEq] at h; subst h; subst hzk'
     have ha : zFo P t = some true := by unfold zFo; rw [hu]
     simp only [valOf, ha, Instr.checkKey, Sem.run_bind, zAh hu, Result.andThen_ok]
     obtain ⟨bb, hagg, h1⟩ := zFF hk
     have hlen : ((List.replicate n k).flatten).length = n * k.length := by simp
     simp only [Std.Legacy.Range.forIn_eq_forIn_range', Std.Legacy.Range.size, Nat.sub_zero, Nat.add_one_sub_one, Nat.div_one, ← List.range_eq_range']
     rw [zGh (P := P) _ (List.range n) w ?_]
     ·rfl
     ·intro i hi w
      have hin : i < n := List.mem_range.1 hi
      have hmul : i * k.length + k.length ≤ n * k.length := by
       have := Nat.mul_le_mul_right k.length (show i + 1 ≤ n by omega)
       rw [Nat.succ_mul] at this; exact this
      simp only [Sem.run_bind, zAQ w hz, Result.andThen_ok]
      rw [zEw w hagg hz xs' (by omega) h1, Result.andThen_ok, zFk em d D e k (by omega) hk w _ (by simp; omega)]
      rfl
   ·cases h
  ·cases h
def KTok (P : Program) (t : TypeId) : KT → Prop
 | .one k => skT P k t
 | .many ks => zFo P t = some true ∧ kinds P 30 t = some ks
theorem zCZ {t : TypeId} {kt : KT} (h : keyT P t = some kt) : KTok P t kt := by
 unfold keyT at h
 split at h
 ·rename_i hu; cases h; exact hu
 ·rename_i hu; cases h; exact ⟨_, hu⟩
 ·rename_i hu; cases h; exact hu
 ·rename_i hu
  split at h
  ·rename_i ks hk; cases h; exact ⟨by unfold zFo; rw [hu], hk⟩
  ·cases h
 ·rename_i hu
  split at h
  ·rename_i ks hk; cases h; exact ⟨by unfold zFo; rw [hu], hk⟩
  ·cases h
 ·rename_i e hu
  split at h
  ·cases h
  ·cases h
  ·rename_i n hne hn; cases h
   cases n with
   | zero => exact (hne rfl).elim
   | succ n => exact ⟨e, n, hu, hn⟩
 ·cases h
theorem zHt {t : TypeId} {kt : KT} (hk : KTok P t kt) {x y : V} {x' y' : Value} (hx : VR ρ x x') (hy : VR ρ y y') {b : Bool} (h : zFG kt x y = some b) (w : World) :
  (Op.equal t x' y').run P w = .ok b w := by
 unfold zFG at h
 unfold Op.equal Op.maxDepth
 cases kt with
 | one k => exact eqS_sound w hk hx hy h 9999
 | many ks =>
  obtain ⟨ha, hks⟩ := hk
  simp only at h
  split at h
  ·cases hx with | agg hx => cases hy with | agg hy =>
   have := zFf (ρ := ρ) 30 10000 t ks (by omega) hks w _ _ _ _ b hx hy h
   simp only [valOf, ha] at this
   exact this
  ·cases h
theorem zD1 {t : TypeId} {d : TypeDesc} (hd : P.underlying t = some d) (hs : match d with | .bool | .int _ | .string | .pointer _ => True | _ => False) (x' : Value) (em : Bool) (w : World) (D : Nat) :
  (Instr.checkKey em (D + 1) t x').run P w = .ok () w := by
 unfold Instr.checkKey
 rw [Sem.run_bind, zAh hd, Result.andThen_ok]
 cases d <;> first | rfl | exact hs.elim
theorem zEn {t : TypeId} {kt : KT} (hk : KTok P t kt) {x : V} {x' : Value} (hx : VR ρ x x') (hs : match kt with | .one _ => True | .many ks => ∃ cs, x = .agg cs ∧ cs.length = ks.length) (em : Bool) (w : World) :
  (Instr.checkKey em 10000 t x').run P w = .ok () w := by
 cases kt with
 | one k =>
  simp only [KTok] at hk
  cases k <;> simp only [skT] at hk
  ·exact zD1 hk trivial x' em w 9999
  ·obtain ⟨j, hk⟩ := hk; exact zD1 hk trivial x' em w 9999
  ·exact zD1 hk trivial x' em w 9999
  ·obtain ⟨e, n, hk, _⟩ := hk; exact zD1 hk trivial x' em w 9999
 | many ks =>
  obtain ⟨ha, hks⟩ := hk
  obtain ⟨cs, rfl, hl⟩ := hs
  cases hx with | agg hx =>
  have := zFk (P := P) em 30 10000 t ks (by omega) hks w _ (by rw [← hx.length]; exact hl)
  simp only [valOf, ha] at this
  exact this
def FR (ρ : Ren) : Option (Nat × V) → Option (Nat × Value) → Prop
 | none, none => True
 | some (j, v), some (j', v') => j = j' ∧ VR ρ v v'
 | _, _ => False
theorem zD8 {t : TypeId} {kt : KT} (hk : KTok P t kt) {x : V} {x' : Value} (hx : VR ρ x x') (w : World) :
  ∀ {es : List (V × V × Nat)} {es' : List MapEntry} (i : Nat) {r : Option (Nat × V)}, ERs ρ es es' → zFO kt x es i = some r →
   ∃ r', (Instr.findAsking t x' es' i).run P w = .ok r' w ∧ FR ρ r r'
 | [], _, i, r, .nil, h => by simp only [zFO, Option.some.injEq] at h; subst h; exact ⟨none, rfl, trivial⟩
 | _, _, i, r, .cons (k := k) (v := v) hkey hval hrest, h => by
  simp only [zFO] at h
  split at h
  ·rename_i he
   simp only [Option.some.injEq] at h; subst h
   refine ⟨some (i, _), ?_, rfl, hval⟩
   simp only [Instr.findAsking, Sem.run_bind, zHt hk hx hkey he w, Result.andThen_ok, if_true]; rfl
  ·rename_i he
   obtain ⟨r', h1, h2⟩ := zD8 hk hx w (i + 1) hrest h
   refine ⟨r', ?_, h2⟩
   simp only [Instr.findAsking, Sem.run_bind, zHt hk hx hkey he w, Result.andThen_ok, Bool.false_eq_true, if_false]
   exact h1
  ·cases h
theorem sameNow_eq {t : TypeId} {d : TypeDesc} (hd : P.underlying t = some d) {x' y' : Value} {b : Bool} (hb : Instr.sameNow d x' y' = some b) (w : World) (D : Nat) :
  (Op.equalIn (D + 1) t x' y').run P w = .ok b w := by
 unfold Instr.sameNow at hb
 split at hb
 ·split at hb
  ·rename_i hk; subst hk
   simp only [Option.some.injEq] at hb; subst hb
   simp [Op.equalIn, zAh hd]
  ·cases hb
 ·simp only [Option.some.injEq] at hb; subst hb
  simp [Op.equalIn, zAh hd]
 ·simp only [Option.some.injEq] at hb; subst hb
  simp [Op.equalIn, zAh hd]
 ·cases hb
theorem zHz {t : TypeId} {d : TypeDesc} (hd : P.underlying t = some d) (x' : Value) (w : World) : ∀ (es : List MapEntry) (i : Nat) (r : Option (Nat × Value)),
  Instr.findNow d x' es i = some r → (Instr.findAsking t x' es i).run P w = .ok r w
 | [], i, r, h => by simp only [Instr.findNow, Option.some.injEq] at h; subst h; rfl
 | e :: es, i, r, h => by
  simp only [Instr.findNow] at h
  have hs : ∀ b, Instr.sameNow d x' e.key = some b → (Op.equal t x' e.key).run P w = .ok b w := by
   intro b hb
   exact sameNow_eq hd hb w 9999
  split at h
  ·rename_i he
   simp only [Option.some.injEq] at h; subst h
   simp only [Instr.findAsking, Sem.run_bind, hs _ he, Result.andThen_ok, if_true]; rfl
  ·rename_i he
   simp only [Instr.findAsking, Sem.run_bind, hs _ he, Result.andThen_ok, Bool.false_eq_true, if_false]
   exact zHz hd x' w es (i + 1) r h
  ·cases h
theorem zI5 {t : TypeId} {kt : KT} (hk : KTok P t kt) {x : V} {x' : Value} (hx : VR ρ x x') (w : World)
  {es : List (V × V × Nat)} {es' : List MapEntry} {r : Option (Nat × V)} (he : ERs ρ es es') (h : zFO kt x es 0 = some r) :
   ∃ r', (Instr.findKey t x' es').run P w = .ok r' w ∧ FR ρ r r' := by
 obtain ⟨r', h1, h2⟩ := zD8 hk hx w 0 he h
 refine ⟨r', ?_, h2⟩
 have hd : ∃ d, P.underlying t = some d := by
  cases kt with
  | one k => cases k <;> simp only [KTok, skT] at hk <;> first | exact ⟨_, hk⟩ | (obtain ⟨_, hk⟩ := hk; exact ⟨_, hk⟩) | (obtain ⟨_, _, hk, _⟩ := hk; exact ⟨_, hk⟩)
  | many ks =>
   obtain ⟨ha, _⟩ := hk
   unfold zFo at ha
   cases hu : P.underlying t with
   | none => simp [hu] at ha
   | some d => exact ⟨d, rfl⟩
 obtain ⟨d, hd⟩ := hd
 unfold Instr.findKey
 rw [Sem.run_bind, zAh hd, Result.andThen_ok]
 cases hn : Instr.findNow d x' es' 0 with
 | none => exact h1
 | some q =>
  have := zHz hd x' w es' 0 q hn
  rw [h1] at this
  cases this
  rfl
end
end Go.AM
namespace Go.AM
open Go
theorem zAA {a b : Nat} : Nat.ble a b = true ↔ a ≤ b := ⟨Nat.le_of_ble_eq_true, Nat.ble_eq_true_of_le⟩
theorem zAV {a b : Nat} : Nat.blt a b = true ↔ a < b := by unfold Nat.blt; rw [zAA]; rfl
theorem zAL {a b : Nat} : Nat.beq a b = true ↔ a = b := ⟨Nat.eq_of_beq_eq_true, zCG⟩
theorem zAF {α : Type} {c : Bool} {x : α} {o : Option α} (h : (bif c then o else none) = some x) : c = true ∧ o = some x := by
 cases c with
 | false => simp at h
 | true => exact ⟨rfl, h⟩
section
variable {P : Program} {ρ : Ren} {nt : Nat} {T : zAa} {a : Act} {m : Mem} {w : World}
theorem VR.nat {v : V} {v' : Value} (h : VR ρ v v') {n : Nat} (hn : v.nat? = some n) : ∃ k, v' = .int k (n : Int) := by
 cases h <;> simp only [V.nat?, reduceCtorEq] at hn
 rename_i k x
 cases x with
 | ofNat x => simp only [Option.some.injEq] at hn; subst hn; exact ⟨k, rfl⟩
 | negSucc x => simp at hn
theorem zEt {s : Sem Value} {v' : Value} {w' : World} (h : s.run P w = .ok v' w') : (do pure (Next.value (← s)) : Sem Next).run P w = .ok (.value v') w' := by
 rw [Sem.run_bind, h]; rfl
theorem nth_bytes {s : ByteArray} {k : Nat} {b : Nat} (h : nth (bytesOf s) k = some b) : ∃ u : UInt8, s[k]? = some u ∧ u.toNat = b := by
 rw [nth_eq] at h
 unfold bytesOf at h
 rw [List.getElem?_map, Option.map_eq_some_iff] at h
 obtain ⟨u, h1, h2⟩ := h
 refine ⟨u, ?_, h2⟩
 rw [Array.getElem?_toList] at h1
 obtain ⟨hk, hu⟩ := Array.getElem?_eq_some_iff.1 h1
 have hk' : k < s.size := hk
 rw [getElem?_pos s k hk']
 exact congrArg some hu
theorem sIdxS {xt : TypeId} (hu : P.underlying xt = some .string) {x i : Opd} {x' i' : Value} (hx : VR ρ (ev T x) x') (hi : VR ρ (ev T i) i') {v : V} (h : qIdxS x i T m = some v) :
  ∃ v', (Instr.index xt x' i').run P w = .ok v' w ∧ VR ρ v v' := by
 unfold qIdxS at h
 split at h
 ·rename_i s k hs hk
  rw [hs] at hx
  obtain ⟨kk, rfl⟩ := hi.nat hk
  generalize hv : V.str s = vs at hx
  cases hx <;> simp only [V.str.injEq, reduceCtorEq] at hv
  rename_i s'
  subst hv
  split at h
  ·rename_i b hb
   simp only [Option.some.injEq] at h; subst h
   obtain ⟨u, h1, h2⟩ := nth_bytes hb
   refine ⟨.int .u8 u.toNat, ?_, by rw [h2]; exact .int _ _⟩
   have hc1 : (0 : Int) ≤ (k : Int) := by omega
   simp only [Instr.index, asIntOf, Sem.run_bind, Sem.run_pure, Result.andThen_ok, zAh hu, if_pos hc1, Int.toNat_natCast, h1]
  ·cases h
 ·cases h
theorem sExt {x : Opd} {x' : Value} (hx : VR ρ (ev T x) x') {i : Nat} {v : V} (h : qExt i x T m = some v) : ∃ v', (Instr.extract x' i).run P w = .ok v' w ∧ VR ρ v v' := by
 unfold qExt at h
 split at h
 ·rename_i vs hvs
  rw [hvs] at hx
  cases hx with | tuple hc =>
  rw [nth_eq] at h
  obtain ⟨v', h1, h2⟩ := hc.get i v h
  exact ⟨v', by simp only [Instr.extract, List.getElem?_toArray, h1, Sem.run_pure], h2⟩
 ·cases h
theorem sFaddr {xt : TypeId} {fs : Array Field} (hu : P.underlying xt = some (.struct fs)) {f : Nat} {fl : Field} (hf : fs[f]? = some fl) {n : Nat} (hn : zBa P fl.type = some (n + 1))
  {x : Opd} {x' : Value} (hx : VR ρ (ev T x) x') {v : V} (h : zDi fl.offset x T m = some v) : ∃ v', (Instr.fieldAt xt x' f).run P w = .ok v' w ∧ VR ρ v v' := by
 unfold zDi at h
 split at h
 ·rename_i b o hb
  rw [hb] at hx
  cases hx with | ptr hi =>
  simp only [Option.some.injEq] at h; subst h
  rename_i i
  refine ⟨.pointer (some ⟨i.b, o + fl.offset + i.d, none⟩), ?_, .ptr hi⟩
  simp only [Instr.fieldAt, Sem.run_bind, zAh hu, Result.andThen_ok, hf, Instr.sureAddr, Sem.run_pure, fieldPlace, zAQ w hn, Nat.add_one_ne_zero, if_false, zCC]
  congr 4; omega
 ·cases h
theorem sIaddrS {xt : TypeId} {e : TypeId} (hu : P.underlying xt = some (.slice e)) {n : Nat} (hn : zBa P e = some n)
  {x i : Opd} {x' i' : Value} (hx : VR ρ (ev T x) x') (hi : VR ρ (ev T i) i') {v : V} (h : zAU n x i T m = some v) : ∃ v', (Instr.indexAt xt x' i').run P w = .ok v' w ∧ VR ρ v v' := by
 unfold zAU at h
 split at h
 ·rename_i b off len cap sz' k hs hk
  rw [hs] at hx
  obtain ⟨kk, rfl⟩ := hi.nat hk
  obtain ⟨h1, h2⟩ := zAF h
  simp only [Bool.and_eq_true] at h1
  have hlt := zAV.1 h1.1
  have hsz := zAL.1 h1.2
  simp only [Option.some.injEq] at h2; subst h2
  cases hx with | slice hb a1 a2 a3 a4 =>
  rename_i i off' cap'
  refine ⟨.pointer (some ⟨i.b, off + k * n + i.d, none⟩), ?_, .ptr hb⟩
  have hc1 : (0 : Int) ≤ (k : Int) ∧ (k : Int) < (len : Int) := by omega
  simp only [Instr.indexAt, asIntOf, Sem.run_bind, Sem.run_pure, Result.andThen_ok, zAh hu, if_pos hc1, zAQ w hn, Int.toNat_natCast, zCC]
  rw [a3 (by omega)]
  congr 4; omega
 ·cases h
theorem sIaddrA {xt : TypeId} {len : Nat} {e : TypeId} (hu : P.underlying xt = some (.array len e)) {n : Nat} (hn : zBa P e = some n)
  {x i : Opd} {x' i' : Value} (hx : VR ρ (ev T x) x') (hi : VR ρ (ev T i) i') {v : V} (h : zDQ len n x i T m = some v) : ∃ v', (Instr.indexAt xt x' i').run P w = .ok v' w ∧ VR ρ v v' := by
 unfold zDQ at h
 split at h
 ·rename_i b off k hs hk
  rw [hs] at hx
  obtain ⟨kk, rfl⟩ := hi.nat hk
  obtain ⟨h1, h2⟩ := zAF h
  have hlt := zAV.1 h1
  simp only [Option.some.injEq] at h2; subst h2
  cases hx with | ptr hb =>
  rename_i i
  refine ⟨.pointer (some ⟨i.b, off + k * n + i.d, none⟩), ?_, .ptr hb⟩
  have hc1 : (0 : Int) ≤ (k : Int) ∧ (k : Int) < (len : Int) := by omega
  simp only [Instr.indexAt, asIntOf, Sem.run_bind, Sem.run_pure, Result.andThen_ok, zAh hu, Instr.sureAddr, if_pos hc1, zAQ w hn, Int.toNat_natCast, zCC]
  congr 4; omega
 ·cases h
theorem sLoad1 (hm : MR ρ m w) {t : TypeId} (ha : zFo P t = some false) {x : Opd} {x' : Value} (hx : VR ρ (ev T x) x') {v : V} (h : zB0 x T m = some v) :
  ∃ v', (Instr.loadAt t x').run P w = .ok v' w ∧ VR ρ v v' := by
 unfold zB0 at h
 split at h
 ·rename_i b off hs
  rw [hs] at hx
  cases hx with | ptr hb =>
  split at h
  ·rename_i cs hc
   rw [nth_eq] at h
   obtain ⟨v', h1, h2⟩ := hm.read1 hb hc h
   refine ⟨v', ?_, h2⟩
   simp only [Instr.loadAt, Instr.sureAddr, Sem.run_bind, Sem.run_pure, Result.andThen_ok, loadVar, zJl w ha, Bool.false_eq_true, if_false, run_load, h1]
  ·cases h
 ·cases h
theorem sLoadN (hm : MR ρ m w) {t : TypeId} {n : Nat} (ha : zFo P t = some true) (hn : zBa P t = some n) {x : Opd} {x' : Value} (hx : VR ρ (ev T x) x') {v : V} (h : zDC n x T m = some v) :
  ∃ v', (Instr.loadAt t x').run P w = .ok v' w ∧ VR ρ v v' := by
 unfold zDC at h
 split at h
 ·rename_i b off hs
  rw [hs] at hx
  cases hx with | ptr hb =>
  split at h
  ·rename_i cs hc
   simp only [Option.some.injEq] at h; subst h
   obtain ⟨h1, l', h2, h3⟩ := hm.read hb hc
   refine ⟨.agg ⟨l'⟩, ?_, .agg h2⟩
   have hl : n = l'.length := by rw [← h2.length]; exact h1.symm
   have := run_loadCells_list (P := P) (w := w) _ l' h3
   simp only [Instr.loadAt, Instr.sureAddr, Sem.run_bind, Sem.run_pure, Result.andThen_ok, loadVar, zJl w ha, if_true, zAQ w hn]
   rw [hl, this]
   rfl
  ·cases h
 ·cases h
theorem sNilck {x : Opd} {x' : Value} (hx : VR ρ (ev T x) x') {v : V} (h : zAd x T m = some v) (dst : Option Tmp) (o : Operand) (he : a.eval o = x') (ty : TypeId) (pos : String) (af : Array Edge) (g : Option (Nat × Bool)) :
  (execOp a.eval ⟨dst, .nilCheck o, ty, pos, af, g⟩).run P w = .ok (.value x') w ∧ VR ρ v x' := by
 unfold zAd at h
 simp only [execOp, he]
 split at h <;> first | (cases h; done) | skip
 rename_i h1 h2 h3 h5 h4
 simp only [Option.some.injEq] at h; subst h
 refine ⟨?_, hx⟩
 generalize hv : ev T x = y at hx h1 h2 h3 h4 h5
 cases hx <;> first
  | exact (h5 rfl).elim
  | rfl
  | exact (h1 rfl).elim
  | exact (h2 rfl).elim
  | exact (h3 rfl).elim
  | (rename_i fn a1 b1 a2 b2 q1 q2
     cases fn <;> first | rfl | exact (h4 _ _ _ rfl).elim)
theorem sPick {c x y : Opd} {c' x' y' : Value} (hc : VR ρ (ev T c) c') (hx : VR ρ (ev T x) x') (hy : VR ρ (ev T y) y') {v : V} (h : zC6 c x y T m = some v) :
  ∃ v', (do pure (Next.value (if ← asBool c' then x' else y')) : Sem Next).run P w = .ok (.value v') w ∧ VR ρ v v' := by
 unfold zC6 at h
 split at h
 ·rename_i b hb
  rw [hb] at hc
  cases hc with | bool =>
  simp only [Option.some.injEq] at h; subst h
  cases b with
  | true => exact ⟨x', by simp [asBool], hx⟩
  | false => exact ⟨y', by simp [asBool], hy⟩
 ·cases h
theorem zGC : ∀ {cs : List V} {cs' : List Value} {s : List Nat}, VRs ρ cs cs' → bytesV cs = some s → ∃ xs : List Int, cs' = xs.map (Value.int .u8) ∧ s = xs.map fun n => n.toNat % 256
 | _, _, s, .nil, h => by simp only [bytesV, Option.some.injEq] at h; subst h; exact ⟨[], rfl, rfl⟩
 | _, _, s, .cons hv hl, h => by
  unfold bytesV at h
  split at h
  ·rename_i he; simp at he
  ·rename_i n l he
   simp only [List.cons.injEq] at he
   obtain ⟨rfl, rfl⟩ := he
   cases hv
   split at h
   ·rename_i r hr
    simp only [Option.some.injEq] at h; subst h
    obtain ⟨xs, h1, h2⟩ := zGC hl hr
    exact ⟨(n : Int) :: xs, by rw [h1]; rfl, by rw [h2]; simp⟩
   ·cases h
  ·cases h
theorem zGl (xs : List Int) : bytesOf (strOfNums xs) = xs.map fun n => n.toNat % 256 := by
 unfold bytesOf
 rw [strOfNums_data, List.map_map]
 apply List.map_congr_left
 intro n _
 simp
theorem sB2s (hm : MR ρ m w) {src e dst : TypeId} (hs : P.underlying src = some (.slice e)) (he : P.underlying e = some (.int .u8)) (hd : P.underlying dst = some .string)
  {x : Opd} {x' : Value} (hx : VR ρ (ev T x) x') {v : V} (h : qB2s x T m = some v) : ∃ v', (convert src dst x').run P w = .ok v' w ∧ VR ρ v v' := by
 unfold qB2s at h
 split at h
 ·rename_i hn
  rw [hn] at hx
  cases hx
  simp only [Option.some.injEq] at h; subst h
  exact ⟨.string ByteArray.empty, run_convert_bytes_nil w src e hs he 0 0 dst hd, .str ByteArray.empty⟩
 ·rename_i b off n cap sz hn
  rw [hn] at hx
  split at h
  ·rename_i cs hc
   split at h
   ·rename_i s hs2
    simp only [Option.some.injEq] at h; subst h
    cases hx with | slice hb a1 a2 a3 a4 =>
    rename_i i off' cap'
    obtain ⟨h1, l', h2, h3⟩ := hm.read hb hc
    obtain ⟨xs, h4, h5⟩ := zGC h2 hs2
    subst h4; subst h5
    have hl : xs.length = n := by rw [← h1, h2.length]; simp
    refine ⟨.string (strOfNums xs), ?_, by rw [← zGl]; exact .str _⟩
    refine run_convert_bytes_arg w src e hs he i.b off' n cap' xs hl ?_ dst hd
    intro j hj
    rw [a3 (by omega)]
    have := h3 j (.int .u8 (xs.getD j 0)) (by
     rw [List.getElem?_map, List.getElem?_eq_getElem (by omega), List.getD_eq_getElem?_getD, List.getElem?_eq_getElem (by omega)]
     rfl)
    rw [zCC] at this
    exact this
   ·cases h
  ·cases h
 ·cases h
theorem sConv {src dst : TypeId} {j k : IntKind} (hs : P.underlying src = some (.int j)) (hd : P.underlying dst = some (.int k)) {x : Opd} {x' : Value} (hx : VR ρ (ev T x) x') {v : V} (h : zBj k x T m = some v) :
  ∃ v', (convert src dst x').run P w = .ok v' w ∧ VR ρ v v' := by
 unfold zBj at h
 split at h
 ·rename_i j' n hn
  rw [hn] at hx
  cases hx
  simp only [Option.some.injEq] at h; subst h
  refine ⟨.int k (k.wrap n), ?_, by rw [zF4]; exact .int _ _⟩
  simp [convert, zAh hs, zAh hd, Conv.intToInt]
 ·cases h
theorem ERs.length {l : List (V × V × Nat)} {l' : List MapEntry} (h : ERs ρ l l') : l.length = l'.length := by
 induction h with
 | nil => rfl
 | cons _ _ _ ih => simp [ih]
theorem sLenS {t : TypeId} (hu : P.underlying t = some .string) (ts : Array TypeId) (ht : ts[0]? = some t) (ty : TypeId) (xs : Array Value)
  {x : Opd} {x' : Value} (hx0 : xs[0]? = some x') (hx : VR ρ (ev T x) x') {v : V} (h : zBw x T m = some v) : ∃ v', (Builtin.len_ ts ty xs).run P w = .ok v' w ∧ VR ρ v v' := by
 unfold zBw at h
 split at h
 ·rename_i s hs
  rw [hs] at hx
  generalize hv : V.str s = vs at hx
  cases hx <;> simp only [V.str.injEq, reduceCtorEq] at hv
  rename_i s'
  subst hv
  simp only [Option.some.injEq] at h; subst h
  refine ⟨goInt s'.size, ?_, by rw [bytesOf_length]; exact .int _ _⟩
  simp [Builtin.len_, ht, hx0, zAh hu]
 ·cases h
theorem sLenL {t e : TypeId} (hu : P.underlying t = some (.slice e)) (ts : Array TypeId) (ht : ts[0]? = some t) (ty : TypeId) (xs : Array Value)
  {x : Opd} {x' : Value} (hx0 : xs[0]? = some x') (hx : VR ρ (ev T x) x') {v : V} (h : zBP x T m = some v) : ∃ v', (Builtin.len_ ts ty xs).run P w = .ok v' w ∧ VR ρ v v' := by
 unfold zBP at h
 split at h
 ·rename_i hs
  rw [hs] at hx
  cases hx
  simp only [Option.some.injEq] at h; subst h
  refine ⟨goInt 0, ?_, .int _ _⟩
  simp [Builtin.len_, ht, hx0, zAh hu]
 ·rename_i b off n cap sz hs
  rw [hs] at hx
  cases hx
  simp only [Option.some.injEq] at h; subst h
  refine ⟨goInt n, ?_, .int _ _⟩
  simp [Builtin.len_, ht, hx0, zAh hu]
 ·cases h
theorem sLenM (hm : MR ρ m w) {t k e : TypeId} (hu : P.underlying t = some (.map k e)) (ts : Array TypeId) (ht : ts[0]? = some t) (ty : TypeId) (xs : Array Value)
  {x : Opd} {x' : Value} (hx0 : xs[0]? = some x') (hx : VR ρ (ev T x) x') {v : V} (h : zCw x T m = some v) : ∃ v', (Builtin.len_ ts ty xs).run P w = .ok v' w ∧ VR ρ v v' := by
 unfold zCw at h
 split at h
 ·rename_i hs
  rw [hs] at hx
  cases hx
  simp only [Option.some.injEq] at h; subst h
  refine ⟨goInt 0, ?_, .int _ _⟩
  simp [Builtin.len_, ht, hx0, zAh hu]
 ·rename_i b hs
  rw [hs] at hx
  cases hx with | map hb =>
  split at h
  ·rename_i es c ro ho
   simp only [Option.some.injEq] at h; subst h
   obtain ⟨es', h1, h2⟩ := hm.obj _ _ _ hb ho
   have hlen := h2.length
   refine ⟨goInt es'.size, ?_, by rw [hlen]; exact .int _ _⟩
   simp [Builtin.len_, ht, hx0, zAh hu, getObj, Sem.run, h1]
  ·cases h
 ·cases h
theorem zIs {x : Option Operand} {x' : Option Opd} (hs : SR ρ nt T a.tmps) (ho : zEy nt x = some x') {d n : Nat} (h : bound T x' d = some n) :
  (x = none ∧ n = d) ∨ ∃ z k, x = some z ∧ a.eval z = .int k (n : Int) := by
 cases x' with
 | none =>
  have := opdO_none ho
  simp only [bound, Option.some.injEq] at h
  exact .inl ⟨this, h.symm⟩
 | some y =>
  obtain ⟨z, h1, h2⟩ := opdO_some ho
  obtain ⟨k, h3⟩ := (zAk hs h2).nat h
  exact .inr ⟨z, k, h1, h3⟩
theorem zA6 {k : IntKind} {n y : Nat} (h : n ≤ y) (c : BoundsCode) : (Instr.sliceBound (.int k (n : Int)) y c).run P w = .ok n w := by
 have h1 : (0 : Int) ≤ (n : Int) ∧ (n : Int) ≤ (y : Int) := by omega
 simp only [Instr.sliceBound, asIntOf, Sem.run_bind, Sem.run_pure, Result.andThen_ok, if_pos h1, Int.toNat_natCast]
theorem zIR (b : Bool) {len capC cap : Nat} {lo hi mx : Option Operand} {lo' hi' mx' : Option Opd} (hs : SR ρ nt T a.tmps) (h1 : zEy nt lo = some lo') (h2 : zEy nt hi = some hi') (h3 : zEy nt mx = some mx')
  (hmx : mx.isSome = true → hi.isSome = true) {l h c : Nat} (e1 : bound T lo' 0 = some l) (e2 : bound T hi' len = some h) (e3 : bound T mx' cap = some c) (hlh : l ≤ h) (hhc : h ≤ c) (hcc : c ≤ cap) (hcap : cap ≤ capC) :
  ∃ c', (Instr.sliceBounds b len capC (lo.map a.eval) (hi.map a.eval) (mx.map a.eval)).run P w = .ok (l, h, c') w ∧ c ≤ c' ∧ c' ≤ capC := by
 rcases zIs hs h3 e3 with ⟨rfl, rfl⟩ | ⟨z3, k3, rfl, v3⟩
 ·refine ⟨capC, ?_, hcap, Nat.le_refl _⟩
  rcases zIs hs h2 e2 with ⟨rfl, rfl⟩ | ⟨z2, k2, rfl, v2⟩
  ·rcases zIs hs h1 e1 with ⟨rfl, rfl⟩ | ⟨z1, k1, rfl, v1⟩
   ·simp [Instr.sliceBounds]
   ·simp [Instr.sliceBounds, v1, zA6 hlh]
  ·rcases zIs hs h1 e1 with ⟨rfl, rfl⟩ | ⟨z1, k1, rfl, v1⟩
   ·simp [Instr.sliceBounds, v2, zA6 (show h ≤ capC by omega)]
   ·simp [Instr.sliceBounds, v1, v2, zA6 hlh, zA6 (show h ≤ capC by omega)]
 ·refine ⟨c, ?_, Nat.le_refl _, by omega⟩
  have hhi := hmx rfl
  rcases zIs hs h2 e2 with ⟨rfl, rfl⟩ | ⟨z2, k2, rfl, v2⟩
  ·simp at hhi
  ·rcases zIs hs h1 e1 with ⟨rfl, rfl⟩ | ⟨z1, k1, rfl, v1⟩
   ·simp [Instr.sliceBounds, v2, v3, zA6 hhc, zA6 (show c ≤ capC by omega)]
   ·simp [Instr.sliceBounds, v1, v2, v3, zA6 hlh, zA6 hhc, zA6 (show c ≤ capC by omega)]
theorem zIr {l h c cap : Nat} (e : slice3 l h c cap = true) : l ≤ h ∧ h ≤ c ∧ c ≤ cap := by
 unfold slice3 at e
 simp only [Bool.and_eq_true] at e
 exact ⟨zAA.1 e.1.1, zAA.1 e.1.2, zAA.1 e.2⟩
theorem zHY (s : ByteArray) (l h : Nat) : bytesOf (s.extract l h) = ((bytesOf s).take h).drop l := by
 unfold bytesOf
 rw [ByteArray.data_extract]
 simp [List.map_take, List.map_drop, List.drop_take]
theorem sSlcStr {t : TypeId} (hu : P.underlying t = some .string) (hs : SR ρ nt T a.tmps) {x : Opd} {x' : Value} (hx : VR ρ (ev T x) x') {lo hi : Option Operand} {lo' hi' : Option Opd}
  (h1 : zEy nt lo = some lo') (h2 : zEy nt hi = some hi') {v : V} (h : zA8 x lo' hi' T m = some v) : ∃ v', (Instr.sliceAt t x' (lo.map a.eval) (hi.map a.eval) none).run P w = .ok v' w ∧ VR ρ v v' := by
 unfold zA8 at h
 split at h
 ·rename_i s hst
  rw [hst] at hx
  generalize hv : V.str s = vs at hx
  cases hx <;> simp only [V.str.injEq, reduceCtorEq] at hv
  rename_i s'
  subst hv
  split at h
  ·rename_i l k e1 e2
   obtain ⟨hc, h⟩ := zAF h
   simp only [Option.some.injEq] at h; subst h
   simp only [Bool.and_eq_true] at hc
   have hl := zAA.1 hc.1
   have hk := zAA.1 hc.2
   rw [bytesOf_length] at hk e2
   obtain ⟨c', h5, _, _⟩ := zIR (P := P) (w := w) (mx := none) (mx' := none) false hs h1 h2 rfl (by simp) e1 e2 rfl hl hk (Nat.le_refl s'.size) (Nat.le_refl _)
   refine ⟨.string (s'.extract l k), ?_, by rw [← zHY]; exact .str _⟩
   simp only [Instr.sliceAt, Instr.slice, Sem.run_bind, zAh hu, Result.andThen_ok]
   simp only [Option.map_none] at h5
   simp [h5]
  ·cases h
 ·cases h
theorem sSlcS {t e : TypeId} (hu : P.underlying t = some (.slice e)) {sz : Nat} (hsz : zBa P e = some sz) (hs : SR ρ nt T a.tmps) {x : Opd} {x' : Value} (hx : VR ρ (ev T x) x') {lo hi mx : Option Operand} {lo' hi' mx' : Option Opd}
  (h1 : zEy nt lo = some lo') (h2 : zEy nt hi = some hi') (h3 : zEy nt mx = some mx') (hmx : mx.isSome = true → hi.isSome = true) {v : V} (h : qSlcS sz x lo' hi' mx' T m = some v) :
  ∃ v', (Instr.sliceAt t x' (lo.map a.eval) (hi.map a.eval) (mx.map a.eval)).run P w = .ok v' w ∧ VR ρ v v' := by
 unfold qSlcS at h
 split at h
 ·rename_i hst
  rw [hst] at hx
  cases hx
  split at h
  ·rename_i e1 e2 e3
   simp only [Option.some.injEq] at h; subst h
   obtain ⟨c', h5, _, h6⟩ := zIR (P := P) (w := w) true hs h1 h2 h3 hmx e1 e2 e3 (Nat.le_refl 0) (Nat.le_refl 0) (Nat.le_refl 0) (Nat.le_refl 0)
   have : c' = 0 := by omega
   subst this
   refine ⟨.slice none 0 0, ?_, .nilslice⟩
   simp only [Instr.sliceAt, Instr.slice, Sem.run_bind, zAh hu, Result.andThen_ok, h5, zAQ w hsz]
   simp
  ·cases h
 ·rename_i b off len cap sz' hst
  rw [hst] at hx
  split at h
  ·rename_i l k c e1 e2 e3
   obtain ⟨hc, h⟩ := zAF h
   simp only [Option.some.injEq] at h; subst h
   simp only [Bool.and_eq_true] at hc
   obtain ⟨hl, hk, hcc⟩ := zIr hc.1
   have hz := zAL.1 hc.2
   cases hx with | slice hb a1 a2 a3 a4 =>
   rename_i i off' cap'
   obtain ⟨c', h5, h6, h7⟩ := zIR (P := P) (w := w) true hs h1 h2 h3 hmx e1 e2 e3 hl hk hcc a2
   subst hz
   have hmul : l * sz + (c' - l) * sz ≤ cap' * sz := by
    rw [← Nat.add_mul]
    exact Nat.mul_le_mul_right sz (by omega)
   by_cases hcl : c' = l
   ·refine ⟨.slice (some ⟨i.b, off', none⟩) (k - l) (c' - l), ?_, .slice hb (by omega) (by omega) (by omega) (by omega)⟩
    simp only [Instr.sliceAt, Instr.slice, Sem.run_bind, zAh hu, Result.andThen_ok, h5, zAQ w hsz, if_pos hcl, Sem.run_pure]
   ·refine ⟨.slice (some ⟨i.b, off' + l * sz, none⟩) (k - l) (c' - l), ?_, .slice hb (by omega) (by omega) (by intro _; rw [a3 (by omega)]; omega) (by omega)⟩
    simp only [Instr.sliceAt, Instr.slice, Sem.run_bind, zAh hu, Result.andThen_ok, h5, zAQ w hsz, if_neg hcl, Sem.run_pure, Option.map_some, zCC]
  ·cases h
 ·cases h
theorem sMkf {fs cs : List Operand} {fs' cs' : List Opd} (hs : SR ρ nt T a.tmps) (h1 : zIY nt fs = some fs') (h2 : zIY nt cs = some cs') {fn : Fn} {v : V} (h : qMkf fn fs' cs' T m = some v) :
  VR ρ v (.func fn ⟨fs.map a.eval⟩ ⟨cs.map a.eval⟩) := by
 simp only [qMkf, Option.some.injEq] at h; subst h
 exact .func (zCY hs h1) (zCY hs h2)
def NoNum : Value → Prop
 | .int _ _ | .string _ | .float _ _ | .complex _ _ _ => False
 | _ => True
theorem zIS {t : TypeId} {op : BinOp} {neg : Bool} (hop : (op = .eql ∧ neg = false) ∨ (op = .neq ∧ neg = true)) {x' y' : Value} {b : Bool} (hr : (Op.equal t x' y').run P w = .ok b w)
  (hx : NoNum x') : (binOp op t x' y').run P w = .ok (.bool (b != neg)) w := by
 have h1 : binOp .eql t x' y' = (do pure (.bool (← Op.equal t x' y'))) := by
  cases x' <;> first | exact hx.elim | (cases y' <;> rfl)
 have h2 : binOp .neq t x' y' = (do pure (.bool (!(← Op.equal t x' y')))) := by
  cases x' <;> first | exact hx.elim | (cases y' <;> rfl)
 rcases hop with ⟨rfl, rfl⟩ | ⟨rfl, rfl⟩
 ·rw [h1, Sem.run_bind, hr]; simp
 ·rw [h2, Sem.run_bind, hr]; simp
theorem sEqv {t : TypeId} {kt : KT} (hk : KTok P t kt) (hkt : match kt with | .one .int | .one .str => False | .many _ => P.eqGuardType P.depth t = false | _ => True)
  {neg : Bool} {op : BinOp} (hop : (op = .eql ∧ neg = false) ∨ (op = .neq ∧ neg = true)) {x y : Opd} {x' y' : Value} (hx : VR ρ (ev T x) x') (hy : VR ρ (ev T y) y')
  (o1 o2 : Operand) {v : V} (h : qEqv neg kt x y T m = some v) :
  ∃ v', (do eqGuard op t o1 o2 x' y'; binOp op t x' y').run P w = .ok v' w ∧ VR ρ v v' := by
 unfold qEqv at h
 split at h
 ·rename_i b hb
  simp only [Option.some.injEq] at h; subst h
  have hr := zHt hk hx hy hb w
  have key : (eqGuard op t o1 o2 x' y').run P w = .ok () w ∧ NoNum x' := by
   cases kt with
   | one k =>
    simp only [zFG] at hb
    generalize ev T x = xv at hb hx
    generalize ev T y = yv at hb hy
    cases k with
    | int => exact hkt.elim
    | str => exact hkt.elim
    | bool => cases hx <;> simp only [eqS, reduceCtorEq] at hb <;> cases hy <;> simp only [reduceCtorEq] at hb <;> exact ⟨by cases op <;> simp [eqGuard], trivial⟩
    | ptr => cases hx <;> simp only [eqS, reduceCtorEq] at hb <;> cases hy <;> simp only [reduceCtorEq] at hb <;> exact ⟨by cases op <;> simp [eqGuard], trivial⟩
   | many ks =>
    simp only [zFG] at hb
    split at hb
    ·rename_i e1 e2
     rw [e1] at hx; rw [e2] at hy
     cases hx; cases hy
     exact ⟨run_eqGuard_agg w op t o1 o2 _ _ hkt, trivial⟩
    ·cases hb
  refine ⟨.bool (b != neg), ?_, .bool _⟩
  rw [Sem.run_bind, key.1, Result.andThen_ok]
  exact zIS hop hr key.2
 ·cases h
end
end Go.AM
namespace Go.AM
open Go
section
variable {P : Program} {ρ : Ren} {nt : Nat} {T : zAa} {a : Act} {m : Mem} {w : World}
def zCq : NK → Value
 | .ptr => .pointer none
 | .slice => .slice none 0 0
 | .map => .map none
 | .func => .nilFunc
 | .iface => .nilIface
theorem zHv {nk : NK} {x : Operand} (h : zGx nk x = true) : x = .const (zCq nk) := by
 unfold zGx at h
 split at h <;> first | rfl | cases h
theorem isNil_equal {nk : NK} {t : TypeId} (hn : nilT P t = some nk) {x : V} {x' : Value} (hx : VR ρ x x') {b : Bool} (h : isNilK nk x = some b) (D : Nat) :
  (Op.equalIn (D + 1) t x' (zCq nk)).run P w = .ok b w ∧ (Op.equalIn (D + 1) t (zCq nk) x').run P w = .ok b w ∧ NoNum x' := by
 unfold nilT at hn
 split at hn <;> first | (cases hn; done) | skip
 all_goals
  rename_i hu
  simp only [Option.some.injEq] at hn; subst hn
  cases hx <;> simp only [isNilK, Option.some.injEq, reduceCtorEq] at h <;> subst h <;>
   exact ⟨by simp only [zCq, Op.equalIn, Sem.run_bind, zAh hu, Result.andThen_ok]; rfl, by simp only [zCq, Op.equalIn, Sem.run_bind, zAh hu, Result.andThen_ok]; rfl, trivial⟩
theorem sIsnil {nk : NK} {t : TypeId} (hn : nilT P t = some nk) {neg : Bool} {op : BinOp} (hop : (op = .eql ∧ neg = false) ∨ (op = .neq ∧ neg = true)) {x : Opd} {x' : Value} (hx : VR ρ (ev T x) x')
  {v : V} (h : zCN neg nk x T m = some v) (o : Operand) :
  (∃ v', (do eqGuard op t o (.const (zCq nk)) x' (zCq nk); binOp op t x' (zCq nk)).run P w = .ok v' w ∧ VR ρ v v') ∧
  (∃ v', (do eqGuard op t (.const (zCq nk)) o (zCq nk) x'; binOp op t (zCq nk) x').run P w = .ok v' w ∧ VR ρ v v') := by
 unfold zCN at h
 split at h
 ·rename_i b hb
  simp only [Option.some.injEq] at h; subst h
  obtain ⟨h1, h2, h3⟩ := isNil_equal (w := w) hn hx hb 9999
  have g1 : (eqGuard op t o (.const (zCq nk)) x' (zCq nk)).run P w = .ok () w := by
   cases op <;> cases nk <;> cases x' <;> first | rfl | (simp [eqGuard, zCq]; done) | exact h3.elim
  have g2 : (eqGuard op t (.const (zCq nk)) o (zCq nk) x').run P w = .ok () w := by
   cases op <;> cases nk <;> cases x' <;> first | rfl | (simp [eqGuard, zCq]; done) | exact h3.elim
  have h4 : NoNum (zCq nk) := by cases nk <;> trivial
  refine ⟨⟨.bool (b != neg), ?_, .bool _⟩, ⟨.bool (b != neg), ?_, .bool _⟩⟩
  ·rw [Sem.run_bind, g1, Result.andThen_ok]; exact zIS hop h1 h3
  ·rw [Sem.run_bind, g2, Result.andThen_ok]; exact zIS hop h2 h4
 ·cases h
theorem zCx {t : TypeId} {kt : KT} (hk : KTok P t kt) {x : V} {x' : Value} (hx : VR ρ x x') {es : List (V × V × Nat)} {es' : List MapEntry} {r : Option (Nat × V)} (he : ERs ρ es es') (h : zBC kt x es = some r) (em : Bool) :
  (Instr.checkKey em 10000 t x').run P w = .ok () w ∧ ∃ r', (Instr.findKey t x' es').run P w = .ok r' w ∧ FR ρ r r' := by
 unfold zBC at h
 obtain ⟨h1, h2⟩ := zAF h
 refine ⟨zEn hk hx ?_ em w, zI5 hk hx w he h2⟩
 unfold keyOk at h1
 cases kt with
 | one k => trivial
 | many ks =>
  simp only at h1 ⊢
  split at h1
  ·rename_i cs; exact ⟨cs, rfl, zAL.1 h1⟩
  ·cases h1
theorem zBK {e : TypeId} {z : V} (h : zB6 P e = some z) (ρ : Ren) (w : World) : ∃ z', (zeroValue e).run P w = .ok z' w ∧ VR ρ z z' ∧ (∀ i, P.info? e = some i → i.zero = some z') := by
 unfold zB6 at h
 split at h
 ·rename_i i hi
  split at h
  ·rename_i v hv
   refine ⟨v, by simp [zeroValue, typeInfo, hi, hv], zDU ρ v z h, ?_⟩
   intro j hj; rw [hi] at hj; cases hj; exact hv
  ·cases h
 ·cases h
theorem ofVal_ne {v : Value} {z : V} (h : zB7 v = some z) : z ≠ .any := by
 intro e; subst e
 unfold zB7 at h
 split at h <;> first | (cases h; done) | (split at h <;> cases h)
theorem zEr {e : TypeId} {z : V} (h : zB6 P e = some z) : z ≠ .any := by
 unfold zB6 at h
 split at h
 ·split at h
  ·exact ofVal_ne h
  ·cases h
 ·cases h
theorem zBE {r : Nat} {es : Array MapEntry} {c : Nat} (h : w.heap[r]? = some (.map es c)) : (getObj r).run P w = .ok (.map es c) w := by
 simp [getObj, Sem.run, h]
theorem sLook (hm : MR ρ m w) {t k e : TypeId} (hu : P.underlying t = some (.map k e)) {kt : KT} (hk : KTok P k kt) {z : V} (hz : zB6 P e = some z) {ok : Bool} {mp ky : Opd} {mp' ky' : Value} (hmp : VR ρ (ev T mp) mp') (hky : VR ρ (ev T ky) ky')
  {v : V} (h : zGb kt ok z mp ky T m = some v) : ∃ v', (Instr.lookup t mp' ky' ok).run P w = .ok v' w ∧ VR ρ v v' := by
 obtain ⟨z', z1, z2, _⟩ := zBK hz ρ w
 have out : ∀ (x : V) (x' : Value) (b : Bool), VR ρ x x' → VR ρ (bif ok then V.tuple [x, .bool b] else x) (if ok then Value.tuple #[x', .bool b] else x') := by
  intro x x' b hx
  cases ok
  ·exact hx
  ·exact .tuple (.cons hx (.cons (.bool b) .nil))
 unfold zGb at h
 simp only at h
 split at h
 ·rename_i hst
  rw [hst] at hmp
  cases hmp
  obtain ⟨h1, h⟩ := zAF h
  simp only [Option.some.injEq] at h; subst h
  refine ⟨_, ?_, out z z' false z2⟩
  have hck : (Instr.checkKey true 10000 k ky').run P w = .ok () w := by
   refine zEn hk hky ?_ true w
   unfold keyOk at h1
   cases kt with
   | one k => trivial
   | many ks =>
    simp only at h1 ⊢
    split at h1
    ·rename_i cs hc; exact ⟨cs, hc, zAL.1 h1⟩
    ·cases h1
  have hfk : (Instr.findKey k ky' []).run P w = .ok none w := by
   have hd : ∃ d, P.underlying k = some d := by
    cases kt with
    | one k => cases k <;> simp only [KTok, skT] at hk <;> first | exact ⟨_, hk⟩ | (obtain ⟨_, hk⟩ := hk; exact ⟨_, hk⟩) | (obtain ⟨_, _, hk, _⟩ := hk; exact ⟨_, hk⟩)
    | many ks =>
     obtain ⟨ha, _⟩ := hk
     unfold zFo at ha
     cases hu : P.underlying k with
     | none => simp [hu] at ha
     | some d => exact ⟨d, rfl⟩
   obtain ⟨d, hd⟩ := hd
   simp [Instr.findKey, zAh hd, Instr.findNow]
  simp only [Instr.lookup, Sem.run_bind, zAh hu, Result.andThen_ok, Sem.run_pure]
  simp only [Array.isEmpty_empty, hck, Result.andThen_ok, hfk, Sem.run_bind, z1, Sem.run_pure]
 ·rename_i b hst
  rw [hst] at hmp
  cases hmp with | map hb =>
  split at h
  ·rename_i es c ro ho
   split at h
   ·rename_i i v0 hf
    simp only [Option.some.injEq] at h; subst h
    obtain ⟨es', h1, h2⟩ := hm.obj _ _ _ hb ho
    obtain ⟨h3, r', h4, h5⟩ := zCx (w := w) hk hky h2 hf es'.isEmpty
    cases r' with
    | none => exact h5.elim
    | some q =>
     obtain ⟨j, v'⟩ := q
     refine ⟨_, ?_, out v0 v' true h5.2⟩
     simp only [Instr.lookup, Sem.run_bind, zAh hu, Result.andThen_ok, zBE h1, Sem.run_pure]
     rw [h3, Result.andThen_ok, h4, Result.andThen_ok]
     have hj := h5.1
     subst hj
     rfl
   ·rename_i hf
    simp only [Option.some.injEq] at h; subst h
    obtain ⟨es', h1, h2⟩ := hm.obj _ _ _ hb ho
    obtain ⟨h3, r', h4, h5⟩ := zCx (w := w) hk hky h2 hf es'.isEmpty
    cases r' with
    | some q => exact h5.elim
    | none =>
     refine ⟨_, ?_, out z z' false z2⟩
     simp only [Instr.lookup, Sem.run_bind, zAh hu, Result.andThen_ok, zBE h1, Sem.run_pure]
     rw [h3, Result.andThen_ok, h4, Result.andThen_ok]
     simp only [Sem.run_bind, z1, Sem.run_pure, Result.andThen_ok]
   ·cases h
  ·cases h
 ·cases h
theorem sMaxi : ∀ {l : List V} {l' : List Value} {v r : V} {v' : Value}, VR ρ v v' → VRs ρ l l' → zHy v l = some r → ∃ r', (l'.foldlM Builtin.max2 v').run P w = .ok r' w ∧ VR ρ r r'
 | _, _, v, r, v', hv, .nil, h => by
  have : r = v := by cases v <;> simp_all [zHy]
  subst this
  exact ⟨v', rfl, hv⟩
 | _, _, v, r, v', hv, .cons hx hl, h => by
  unfold zHy at h
  split at h
  ·rename_i he; simp at he
  ·rename_i k x j y l he
   simp only [List.cons.injEq] at he
   obtain ⟨rfl, rfl⟩ := he
   cases hv; cases hx
   have hv2 : VR ρ (.int k (bif decide (y > x) then y else x)) (.int k (if y > x then y else x)) := by
    by_cases e : y > x <;> simp [e] <;> exact .int _ _
   obtain ⟨r', h1, h2⟩ := sMaxi hv2 hl h
   exact ⟨r', by rw [List.foldlM_cons, Sem.run_bind]; exact h1, h2⟩
  ·cases h
theorem sMini : ∀ {l : List V} {l' : List Value} {v r : V} {v' : Value}, VR ρ v v' → VRs ρ l l' → zHx v l = some r → ∃ r', (l'.foldlM Builtin.min2 v').run P w = .ok r' w ∧ VR ρ r r'
 | _, _, v, r, v', hv, .nil, h => by
  have : r = v := by cases v <;> simp_all [zHx]
  subst this
  exact ⟨v', rfl, hv⟩
 | _, _, v, r, v', hv, .cons hx hl, h => by
  unfold zHx at h
  split at h
  ·rename_i he; simp at he
  ·rename_i k x j y l he
   simp only [List.cons.injEq] at he
   obtain ⟨rfl, rfl⟩ := he
   cases hv; cases hx
   have hv2 : VR ρ (.int k (bif decide (y < x) then y else x)) (.int k (if y < x then y else x)) := by
    by_cases e : y < x <;> simp [e] <;> exact .int _ _
   obtain ⟨r', h1, h2⟩ := sMini hv2 hl h
   exact ⟨r', by rw [List.foldlM_cons, Sem.run_bind]; exact h1, h2⟩
  ·cases h
theorem zEc : ∀ (l : List Value) (off k : Nat) (cs : Array Value), (l.zipIdx k).foldl (fun cs x => cs.setIfInBounds (off + x.2) x.1) cs = zFp cs (off + k) l
 | [], _, _, _ => rfl
 | v :: l, off, k, cs => by
  rw [List.zipIdx_cons, List.foldl_cons, zEc l off (k + 1)]
  rfl
theorem VRs.putAt {cs r xs : List V} {cs' : Array Value} {xs' : List Value} (hc : VRs ρ cs cs'.toList) (hx : VRs ρ xs xs') {off : Nat} (h : putAt xs off cs = some r) :
  off + xs'.length ≤ cs'.size ∧ VRs ρ r (zFp cs' off xs').toList := by
 obtain ⟨h1, h2, h3, h4⟩ := zIX xs off cs r h
 have hlc := hc.length
 have hlx := hx.length
 simp only [Array.length_toList] at hlc
 refine ⟨by omega, VRs.of_get (by simp [zC3]; omega) ?_⟩
 intro n v hn
 rw [h4 n] at hn
 rw [Array.getElem?_toList, zEs xs' cs' off (by omega)]
 by_cases hk : off ≤ n ∧ n < off + xs.length
 ·rw [if_pos hk] at hn
  rw [if_pos (by omega)]
  exact hx.get _ _ hn
 ·rw [if_neg hk] at hn
  rw [if_neg (by omega)]
  rw [← Array.getElem?_toList]
  exact hc.get _ _ hn
inductive zET {α β : Type} (R : α → β → Prop) : List α → List β → Prop
 | nil : zET R [] []
 | cons {x : α} {y : β} {l : List α} {k : List β} : R x y → zET R l k → zET R (x :: l) (y :: k)
theorem zET.imp {α β : Type} {R S : α → β → Prop} (h : ∀ x y, R x y → S x y) : ∀ {l : List α} {k : List β}, zET R l k → zET S l k
 | _, _, .nil => .nil
 | _, _, .cons hx hl => .cons (h _ _ hx) (zET.imp h hl)
theorem sFill (hs : SR ρ nt T a.tmps) (place : Nat → Option (Nat × Nat)) : ∀ (parts : List (Nat × Operand)) (parts' : List (Nat × Nat × Opd)),
  (zET (fun (p : Nat × Operand) (q : Nat × Nat × Opd) => place p.1 = some (q.1, q.2.1) ∧ opd nt p.2 = some q.2.2) parts parts') →
  ∀ (cs r : List V) (cs' : Array Value), VRs ρ cs cs'.toList → zIg T cs parts' = some r → ∃ r', Instr.fill place cs' (parts.map fun p => (p.1, a.eval p.2)) = some r' ∧ VRs ρ r r'.toList
 | _, _, .nil, cs, r, cs', hc, h => by simp only [zIg, Option.some.injEq] at h; subst h; exact ⟨cs', rfl, hc⟩
 | (i, x) :: ps, (off, n, y) :: ps', .cons hp hps, cs, r, cs', hc, h => by
  simp only [zIg] at h
  obtain ⟨h1, h2⟩ := zAF h
  split at h2
  ·rename_i r1 hr1
   obtain ⟨hp1, hp2⟩ := hp
   have hx := (zAk hs hp2).cells (zHg hr1)
   have hn := zAL.1 h1
   have hl := hx.length
   simp only [Array.length_toList] at hl
   obtain ⟨h3, h4⟩ := hc.putAt hx hr1
   obtain ⟨r', h5, h6⟩ := sFill hs place ps ps' hps r1 r _ h4 h2
   refine ⟨r', ?_, h6⟩
   simp only [List.map_cons, Instr.fill, hp1]
   have hsz : (a.eval x).cells.size = n := by rw [← hl]; exact hn
   rw [if_neg (by simp only [Array.length_toList] at h3; simp [hsz]; omega)]
   rw [← h5]
   congr 1
   rw [← Array.foldl_toList, Array.toList_zipIdx]
   exact zEc _ off 0 cs'
  ·cases h2
theorem zGc {fs : Array Field} : ∀ (parts : List (Nat × Operand)) (parts' : List (Nat × Nat × Opd)), zHl P nt fs parts = some parts' →
  zET (fun (p : Nat × Operand) (q : Nat × Nat × Opd) => (∃ f, fs[p.1]? = some f ∧ q.1 = f.offset ∧ zBa P f.type = some q.2.1) ∧ opd nt p.2 = some q.2.2) parts parts'
 | [], ps', h => by simp only [zHl, Option.some.injEq] at h; subst h; exact .nil
 | (i, x) :: ps, ps', h => by
  simp only [zHl] at h
  split at h
  ·rename_i f x' ps2 hf hx hps
   split at h
   ·rename_i n hn
    simp only [Option.some.injEq] at h; subst h
    exact .cons ⟨⟨f, hf, rfl, hn⟩, hx⟩ (zGc ps ps2 hps)
   ·cases h
  ·cases h
theorem zDE {sz : Nat} : ∀ (parts : List (Nat × Operand)) (parts' : List (Nat × Nat × Opd)), zE0 nt sz parts = some parts' →
  zET (fun (p : Nat × Operand) (q : Nat × Nat × Opd) => (fun i => some (i * sz, sz)) p.1 = some (q.1, q.2.1) ∧ opd nt p.2 = some q.2.2) parts parts'
 | [], ps', h => by simp only [zE0, Option.some.injEq] at h; subst h; exact .nil
 | (i, x) :: ps, ps', h => by
  simp only [zE0] at h
  split at h
  ·rename_i x' ps2 hx hps
   simp only [Option.some.injEq] at h; subst h
   exact .cons ⟨rfl, hx⟩ (zDE ps ps2 hps)
  ·cases h
theorem mapM_run {α β : Type} (g : α → Sem β) (f : α → β) : ∀ (l : List α) (w : World), (∀ x ∈ l, ∀ w, (g x).run P w = .ok (f x) w) → (l.mapM g).run P w = .ok (l.map f) w
 | [], w, _ => rfl
 | x :: l, w, h => by
  rw [List.mapM_cons, Sem.run_bind, h x List.mem_cons_self, Result.andThen_ok, Sem.run_bind, mapM_run g f l w fun y hy => h y (List.mem_cons_of_mem _ hy), Result.andThen_ok]
  rfl
theorem sBldS {t : TypeId} {fs : Array Field} (hu : P.underlying t = some (.struct fs)) (hall : fs.all (fun f => (zBa P f.type).isSome) = true) (hs : SR ρ nt T a.tmps) {zs : List V} (hz : zB6 P t = some (.agg zs))
  {parts : Array (Nat × Operand)} {parts' : List (Nat × Nat × Opd)} (hp : zHl P nt fs parts.toList = some parts') {v : V} (h : zC7 zs parts' T m = some v) :
  ∃ v', (Instr.build t (parts.map fun (i, x) => (i, a.eval x))).run P w = .ok v' w ∧ VR ρ v v' := by
 obtain ⟨z', z1, z2, z3⟩ := zBK hz ρ w
 clear z3
 unfold zC7 at h
 split at h
 ·rename_i cs hcs
  simp only [Option.some.injEq] at h; subst h
  cases z2 with | agg hzc =>
  rename_i zc
  have hpl : (fs.mapM fun f => (do pure (f.offset, ← sizeOf f.type) : Sem (Nat × Nat))).run P w = .ok ((fs.toList.map fun f => (f.offset, (zBa P f.type).getD 0)).toArray) w := by
   rw [← Array.toArray_toList (xs := fs), List.mapM_toArray, Sem.run_map, mapM_run _ (fun f => (f.offset, (zBa P f.type).getD 0)) fs.toList w, Result.andThen_ok]
   intro f hf w
   have hsome : (zBa P f.type).isSome = true := by
    rw [Array.all_eq_true'] at hall
    exact hall f (Array.mem_def.2 hf)
   obtain ⟨n, hn⟩ := Option.isSome_iff_exists.1 hsome
   rw [Sem.run_bind, zAQ w hn, Result.andThen_ok, hn]
   rfl
  have hpp := zGc _ _ hp
  have hfa : zET (fun (p : Nat × Operand) (q : Nat × Nat × Opd) => (((fs.toList.map fun f => (f.offset, (zBa P f.type).getD 0)).toArray)[p.1]?) = some (q.1, q.2.1) ∧ opd nt p.2 = some q.2.2) parts.toList parts' := by
   refine zET.imp ?_ hpp
   rintro ⟨i, x⟩ ⟨off, n, y⟩ ⟨⟨f, h1, h2, h3⟩, h4⟩
   refine ⟨?_, h4⟩
   simp only [List.getElem?_toArray, List.getElem?_map, Array.getElem?_toList, h1, Option.map_some]
   simp only at h2 h3
   rw [h2, h3]; rfl
  obtain ⟨r', h1, h2⟩ := sFill hs _ _ _ hfa zs cs ⟨zc⟩ hzc hcs
  refine ⟨.agg r', ?_, ?_⟩
  ·simp only [Instr.build, Sem.run_bind, z1, Result.andThen_ok, zAh hu, hpl]
   have e : (parts.map fun (i, x) => (i, a.eval x)).toList = parts.toList.map fun p => (p.1, a.eval p.2) := by simp
   rw [e]
   simp only [Value.cells, h1, Sem.run_pure]
  ·obtain ⟨l⟩ := r'; exact .agg h2
 ·cases h
theorem sBldA {t e : TypeId} {k n : Nat} (hu : P.underlying t = some (.array k e)) (hn : zBa P e = some n) (hs : SR ρ nt T a.tmps) {zs : List V} (hz : zB6 P t = some (.agg zs))
  {parts : Array (Nat × Operand)} {parts' : List (Nat × Nat × Opd)} (hp : zE0 nt n parts.toList = some parts') {v : V} (h : zC7 zs parts' T m = some v) :
  ∃ v', (Instr.build t (parts.map fun (i, x) => (i, a.eval x))).run P w = .ok v' w ∧ VR ρ v v' := by
 obtain ⟨z', z1, z2, z3⟩ := zBK hz ρ w
 clear z3
 unfold zC7 at h
 split at h
 ·rename_i cs hcs
  simp only [Option.some.injEq] at h; subst h
  cases z2 with | agg hzc =>
  rename_i zc
  obtain ⟨r', h1, h2⟩ := sFill hs (fun i => some (i * n, n)) parts.toList parts' (zDE _ _ hp) zs cs ⟨zc⟩ hzc hcs
  refine ⟨.agg r', ?_, ?_⟩
  ·simp only [Instr.build, Sem.run_bind, z1, Result.andThen_ok, zAh hu, zAQ w hn]
   have e : (parts.map fun (i, x) => (i, a.eval x)).toList = parts.toList.map fun p => (p.1, a.eval p.2) := by simp
   rw [e]
   simp only [Value.cells, h1, Sem.run_pure]
  ·obtain ⟨l⟩ := r'; exact .agg h2
 ·cases h
end
end Go.AM
namespace Go.AM
open Go
section
variable {P : Program} {nt : Nat} {T : zAa} {a : Act} {w : World}
def Laid (P : Program) (ρ : Ren) (w : World) (nx : Nat) (v : V) (ob : zAe) (s : Sem Value) : Prop :=
 ∃ v' ob' w' n, s.run P w = .ok v' w' ∧ Push w w' ob' ∧
  ∀ ρ' : Ren, ρ.le ρ' → ρ' nx = some ⟨w.heap.size, n, 0, none⟩ → VR ρ' v v' ∧ OR ρ' w' ⟨w.heap.size, n, 0, none⟩ ob
variable {ρ : Ren}
theorem zDG {cs : List V} {cs' : Array Value} (hc : VRs ρ cs cs'.toList) (rest : Array Value) {ob' : Obj} {ty : TypeId} {lo hi : Nat} (hob : ob' = .cells (cs' ++ rest) ty (lo, hi)) (hf : (lo = 0 ∧ hi = 0) ∨ (lo = (cs' ++ rest).size ∧ hi = (cs' ++ rest).size + 1))
  {w' : World} (hw : w'.heap = w.heap.push ob') {ρ' : Ren} (hle : ρ.le ρ') : OR ρ' w' ⟨w.heap.size, (cs' ++ rest).size, 0, none⟩ (.cells cs false) := by
 refine ⟨cs' ++ rest, ty, lo, hi, ?_, rfl, ?_, fun _ => hf⟩
 ·rw [hw, hob]; simp
 ·intro k v hk
  obtain ⟨v', h1, h2⟩ := hc.get k v hk
  have hlt := (List.getElem?_eq_some_iff.1 h1).1
  refine ⟨v', ?_, h2.mono hle⟩
  rw [Nat.add_zero, Array.getElem?_append_left (by simpa using hlt)]
  rw [Array.getElem?_toList] at h1
  exact h1
theorem sBox {x : Opd} {x' : Value} (hx : VR ρ (ev T x) x') (e : TypeId) {nx : Nat} {v : V} {ob : zAe} (h : zCs x T nx = some (v, ob)) : Laid P ρ w nx v ob (Instr.box e x') := by
 have hna : ev T x ≠ .any := by intro e; simp only [zCs, e] at h; cases h
 have h : some (V.ptr nx 0, zAe.cells (ev T x).cells false) = some (v, ob) := by
  rw [← h]; unfold zCs
  split
  ·rename_i e; exact absurd e hna
  ·rfl
 simp only [Option.some.injEq, Prod.mk.injEq] at h
 obtain ⟨rfl, rfl⟩ := h
 refine ⟨.pointer (some ⟨w.heap.size, 0, none⟩), .cells x'.cells e, { w with heap := w.heap.push (.cells x'.cells e) }, (x'.cells ++ #[]).size, ?_, ⟨rfl, rfl, rfl⟩, ?_⟩
 ·simp [Instr.box, newVar, newRow]
 ·intro ρ' hle hn
  refine ⟨?_, zDG (hx.cells hna) #[] (ty := e) (lo := 0) (hi := 0) (by simp) (.inl ⟨rfl, rfl⟩) rfl hle⟩
  exact .ptr (i := ⟨w.heap.size, (x'.cells ++ #[]).size, 0, none⟩) (off := 0) hn
theorem sAllocZ {e : TypeId} {z : V} (hz : zB6 P e = some z) {nx : Nat} {v : V} {ob : zAe} (h : zCs (.c z) T nx = some (v, ob)) : Laid P ρ w nx v ob (Instr.alloc e true (.tuple #[])) := by
 obtain ⟨z', z1, z2, _⟩ := zBK hz ρ w
 obtain ⟨v', ob', w', n, h1, h2, h3⟩ := sBox (P := P) (w := w) (x' := z') (T := T) (x := .c z) z2 e h
 refine ⟨v', ob', w', n, ?_, h2, h3⟩
 simp only [Instr.alloc, Sem.run_bind, z1, Result.andThen_ok]
 simpa [Instr.box] using h1
theorem sMkm {t : TypeId} {nx : Nat} {v : V} {ob : zAe} (h : aMkm T nx = some (v, ob)) : Laid P ρ w nx v ob (Instr.makeMap t none) := by
 simp only [aMkm, Option.some.injEq, Prod.mk.injEq] at h
 obtain ⟨rfl, rfl⟩ := h
 refine ⟨.map (some w.heap.size), .map #[] 0, { w with heap := w.heap.push (.map #[] 0) }, 0, ?_, ⟨rfl, rfl, rfl⟩, ?_⟩
 ·simp [Instr.makeMap]
 ·intro ρ' hle hn
  refine ⟨.map (i := ⟨w.heap.size, 0, 0, none⟩) hn, #[], ?_, .nil⟩
  simp
theorem cycle_eq (l : List Value) (hl : l ≠ []) : ∀ n : Nat, (List.range (n * l.length)).map (fun i => l[i % l.length]!) = (List.replicate n l).flatten
 | 0 => by simp
 | n + 1 => by
  have hpos : 0 < l.length := List.length_pos_iff.2 hl
  rw [Nat.succ_mul, List.range_add, List.map_append, cycle_eq l hl n, List.replicate_succ', List.flatten_append]
  congr 1
  simp only [List.map_map, List.flatten_cons, List.flatten_nil, List.append_nil]
  apply List.ext_getElem?
  intro k
  by_cases hk : k < l.length
  ·rw [List.getElem?_map, List.getElem?_range hk]
   simp only [Option.map_some, Function.comp_apply, Nat.mul_add_mod_self_right, Nat.mod_eq_of_lt hk, List.getElem?_eq_getElem hk]
   rw [getElem!_pos l k hk]
  ·rw [List.getElem?_eq_none (by simp; omega), List.getElem?_eq_none (by omega)]
theorem cycleA (z : Array Value) (hz : z.size ≠ 0) (n : Nat) : ((Array.range (n * z.size)).map (fun i => z[i % z.size]!)).toList = (List.replicate n z.toList).flatten := by
 rw [Array.toList_map, Array.toList_range, ← cycle_eq z.toList (by intro h; apply hz; rw [← Array.length_toList, h]; rfl) n]
 simp only [Array.length_toList]
 apply List.map_congr_left
 intro i _
 have hlt : i % z.size < z.size := Nat.mod_lt _ (by omega)
 rw [getElem!_pos z _ hlt, getElem!_pos z.toList _ (by simpa using hlt)]
 simp
theorem VRs.replicate {cs : List V} {cs' : List Value} (h : VRs ρ cs cs') : ∀ n : Nat, VRs ρ ((List.replicate n cs).flatten) ((List.replicate n cs').flatten)
 | 0 => by simpa using VRs.nil
 | n + 1 => by
  rw [List.replicate_succ, List.replicate_succ, List.flatten_cons, List.flatten_cons]
  exact h.append (VRs.replicate h n)
theorem sBsl {t e : TypeId} {len sz : Nat} {z : V} (hu : P.underlying t = some (.slice e)) (hsz : zBa P e = some sz) (hz : zB6 P e = some z) (hzl : z.cells.length = sz) (hsz0 : sz ≠ 0) (hbig : len * sz ≤ 16777216)
  (hs : SR ρ nt T a.tmps) {parts : Array (Nat × Operand)} {parts' : List (Nat × Nat × Opd)} (hp : zE0 nt sz parts.toList = some parts') {nx : Nat} {v : V} {ob : zAe}
  {pm : Array (Nat × Value)} (e1 : pm.toList = parts.toList.map fun p => (p.1, a.eval p.2)) (h : zF3 sz len z.cells parts' T nx = some (v, ob)) : Laid P ρ w nx v ob (Instr.buildSlice t len pm) := by
 obtain ⟨z', z1, z2, z3⟩ := zBK hz ρ w
 clear z3
 unfold zF3 at h
 split at h
 ·rename_i cs hcs
  simp only [Option.some.injEq, Prod.mk.injEq] at h
  obtain ⟨rfl, rfl⟩ := h
  have hzc := z2.cells (zEr hz)
  have hzsz : z'.cells.size = sz := by rw [← hzl, hzc.length]; simp
  have hstart : ∃ zc : Array Value, ((len * sz = 0 ∧ zc = #[]) ∨ (len * sz ≠ 0 ∧ zc = z'.cells)) ∧
    VRs ρ ((List.replicate len z.cells).flatten) ((Array.range (len * sz)).map (fun i => zc[i % zc.size]!)).toList := by
   by_cases h0 : len * sz = 0
   ·have : len = 0 := by
     rcases Nat.mul_eq_zero.1 h0 with h | h
     ·exact h
     ·exact absurd h hsz0
    subst this
    exact ⟨#[], .inl ⟨h0, rfl⟩, by simpa using VRs.nil⟩
   ·refine ⟨z'.cells, .inr ⟨h0, rfl⟩, ?_⟩
    ·rw [← hzsz, cycleA z'.cells (by omega) len]
     exact hzc.replicate len
  obtain ⟨zc, s1, s2⟩ := hstart
  have s3 : ((Array.range (len * sz)).map (fun i => zc[i % zc.size]!)).size = len * sz := by simp
  generalize hst : (Array.range (len * sz)).map (fun i => zc[i % zc.size]!) = st at s2 s3
  obtain ⟨r', f1, f2⟩ := sFill hs (fun i => some (i * sz, sz)) parts.toList parts' (zDE _ _ hp) _ cs st s2 hcs
  have hrl : r'.size = len * sz := by
   have : ∀ (place : Nat → Option (Nat × Nat)) (ps : List (Nat × Value)) (c r : Array Value), Instr.fill place c ps = some r → r.size = c.size := by
    intro place ps
    induction ps with
    | nil => intro c r h; simp only [Instr.fill, Option.some.injEq] at h; rw [h]
    | cons p ps ih =>
     intro c r h
     obtain ⟨i, x⟩ := p
     simp only [Instr.fill] at h
     split at h
     ·cases h
     ·split at h
      ·cases h
      ·rename_i off _ _ _
       rw [ih _ _ h, ← Array.foldl_toList, Array.toList_zipIdx, zEc x.cells.toList off 0 c, zC3]
   rw [this _ _ _ _ f1, s3]
  refine ⟨.slice (some ⟨w.heap.size, 0, none⟩) len len, .cells r' e, { w with heap := w.heap.push (.cells r' e) }, (r' ++ #[]).size, ?_, ⟨rfl, rfl, rfl⟩, ?_⟩
  ·simp only [Instr.buildSlice, Sem.run_bind, zAh hu, Result.andThen_ok, zAQ w hsz, if_neg (show ¬ (len * sz > 2 ^ 24) by omega)]
   rcases s1 with ⟨h0, rfl⟩ | ⟨h0, rfl⟩
   ·rw [if_pos h0]
    simp only [Sem.run_bind, Sem.run_pure, Result.andThen_ok]
    rw [e1, hst, f1]
    simp only [Sem.run_bind, newRow, run_newObj, Sem.run_pure, Result.andThen_ok]
   ·rw [if_neg h0]
    simp only [Sem.run_bind, Sem.run_pure, Result.andThen_ok, z1]
    rw [e1, hst, f1]
    simp only [Sem.run_bind, newRow, run_newObj, Sem.run_pure, Result.andThen_ok]
  ·intro ρ' hle hn
   refine ⟨?_, zDG f2 #[] (ty := e) (lo := 0) (hi := 0) (by simp) (.inl ⟨rfl, rfl⟩) rfl hle⟩
   exact .slice (i := ⟨w.heap.size, (r' ++ #[]).size, 0, none⟩) hn (Nat.le_refl _) (Nat.le_refl _) (fun _ => rfl) (by simp [hrl])
 ·cases h
theorem small_iff {n b : Nat} : small n b = true ↔ n * b ≤ 1099511627776 ∧ n ≤ 1099511627776 := by
 unfold small
 rw [Bool.and_eq_true, zAA, zAA]
theorem sMks {t e : TypeId} {sz by' : Nat} {z : V} (hu : P.underlying t = some (.slice e)) (hsz : zBa P e = some sz) (hby : zFY P e = some by') (hz : zB6 P e = some z) (hzl : z.cells.length = sz) (hsz0 : sz ≠ 0)
  {l c : Opd} {l' c' : Value} (hl : VR ρ (ev T l) l') (hc : VR ρ (ev T c) c') {nx : Nat} {v : V} {ob : zAe} (h : aMks sz by' z.cells l c T nx = some (v, ob)) : Laid P ρ w nx v ob (Instr.makeSlice t l' c') := by
 unfold aMks at h
 split at h
 ·rename_i ln cn h1 h2
  obtain ⟨h3, h4⟩ := zAF h
  simp only [Option.some.injEq, Prod.mk.injEq] at h4
  obtain ⟨rfl, rfl⟩ := h4
  simp only [Bool.and_eq_true] at h3
  have hlc := zAA.1 h3.1
  obtain ⟨hcb, hcn⟩ := small_iff.1 h3.2
  obtain ⟨k1, rfl⟩ := hl.nat h1
  obtain ⟨k2, rfl⟩ := hc.nat h2
  unfold zFY at hby
  simp only [Option.map_eq_some_iff] at hby
  obtain ⟨inf, hi, hib⟩ := hby
  have wl : IntKind.i64.wrap (ln : Int) = ln := zC4 _ (by omega) (by omega)
  have wc : IntKind.i64.wrap (cn : Int) = cn := zC4 _ (by omega) (by omega)
  have hmul : (inf.bytes : Int) * (cn : Int) = ((cn * by' : Nat) : Int) := by rw [hib]; push_cast; rw [Int.mul_comm]
  have hzsize : ∀ z' : Value, VR ρ z z' → z'.cells.size = sz := by
   intro z' hzz; rw [← hzl, (hzz.cells (zEr hz)).length]; simp
  obtain ⟨z', z1, z2, z3⟩ := zBK hz ρ w
  clear z3
  have hzz := hzsize z' z2
  have hstart : ∃ zc : Array Value, ((cn * sz = 0 ∧ zc = #[]) ∨ (cn * sz ≠ 0 ∧ zc = z'.cells)) ∧
    VRs ρ ((List.replicate cn z.cells).flatten) ((Array.range (cn * sz)).map (fun i => zc[i % zc.size]!)).toList := by
   by_cases h0 : cn * sz = 0
   ·have : cn = 0 := by
     rcases Nat.mul_eq_zero.1 h0 with h | h
     ·exact h
     ·exact absurd h hsz0
    subst this
    exact ⟨#[], .inl ⟨h0, rfl⟩, by simpa using VRs.nil⟩
   ·refine ⟨z'.cells, .inr ⟨h0, rfl⟩, ?_⟩
    ·rw [← hzz, cycleA z'.cells (by omega) cn]
     exact (z2.cells (zEr hz)).replicate cn
  obtain ⟨zc, s1, s2⟩ := hstart
  have s3 : ((Array.range (cn * sz)).map (fun i => zc[i % zc.size]!)).size = cn * sz := by simp
  generalize hst : (Array.range (cn * sz)).map (fun i => zc[i % zc.size]!) = st at s2 s3
  refine ⟨.slice (some ⟨w.heap.size, 0, none⟩) ln cn, .cells st e, { w with heap := w.heap.push (.cells st e) }, (st ++ #[]).size, ?_, ⟨rfl, rfl, rfl⟩, ?_⟩
  ·have htl : (decide ((cn : Int) < 0) || decide ((inf.bytes : Int) * (cn : Int) > 2 ^ 48)) = false := by
    rw [hmul, Bool.or_eq_false_iff, decide_eq_false_iff_not, decide_eq_false_iff_not]
    constructor <;> omega
   have hti : (typeInfo e).run P w = .ok inf w := by simp [typeInfo, hi]
   have hcond : ¬ ((decide ((cn : Int) < 0) || decide ((inf.bytes : Int) * (cn : Int) > 2 ^ 48)) = true ∨ (ln : Int) < 0 ∨ (ln : Int) > (cn : Int)) := by
    rw [htl]
    simp
    omega
   simp only [Instr.makeSlice, Sem.run_bind, zAh hu, Result.andThen_ok, asInt, asIntOf, Sem.run_pure, hti, wl, wc]
   simp only [Bool.or_eq_true, decide_eq_true_eq] at hcond ⊢
   rw [if_neg (by simpa only [or_assoc] using hcond)]
   simp only [Sem.run_bind, run_askRoom, Result.andThen_ok, Sem.run_pure, zAQ w hsz, Int.toNat_natCast]
   rcases s1 with ⟨h0, rfl⟩ | ⟨h0, rfl⟩
   ·rw [if_pos h0]
    simp only [Sem.run_bind, Sem.run_pure, Result.andThen_ok]
    rw [hst]
    simp only [Sem.run_bind, newRow, run_newObj, Sem.run_pure, Result.andThen_ok]
   ·rw [if_neg h0]
    simp only [Sem.run_bind, Sem.run_pure, Result.andThen_ok, z1]
    rw [hst]
    simp only [Sem.run_bind, newRow, run_newObj, Sem.run_pure, Result.andThen_ok]
  ·intro ρ' hle hn
   refine ⟨?_, zDG s2 #[] (ty := e) (lo := 0) (hi := 0) (by simp) (.inl ⟨rfl, rfl⟩) rfl hle⟩
   exact .slice (i := ⟨w.heap.size, (st ++ #[]).size, 0, none⟩) hn hlc (Nat.le_refl _) (fun _ => rfl) (by simp [s3])
 ·cases h
theorem vBytes_sound (s : ByteArray) : VRs ρ (zCL (bytesOf s)) (s.data.map (fun b => Value.int .u8 b.toNat)).toList := by
 rw [Array.toList_map]
 unfold bytesOf
 generalize s.data.toList = l
 induction l with
 | nil => exact .nil
 | cons b l ih => exact .cons (.int .u8 _) ih
theorem sS2b {src dst e : TypeId} (h1 : P.underlying src = some .string) (h2 : P.underlying dst = some (.slice e)) (h3 : P.underlying e = some (.int .u8)) {x : Opd} {x' : Value} (hx : VR ρ (ev T x) x')
  {nx : Nat} {v : V} {ob : zAe} (h : aS2b x T nx = some (v, ob)) : Laid P ρ w nx v ob (convert src dst x') := by
 unfold aS2b at h
 split at h
 ·rename_i s hst
  rw [hst] at hx
  generalize hv : V.str s = vs at hx
  cases hx <;> simp only [V.str.injEq, reduceCtorEq] at hv
  rename_i s'
  subst hv
  simp only [Option.some.injEq, Prod.mk.injEq] at h
  obtain ⟨rfl, rfl⟩ := h
  have hge := grownCap_ge w s'.size 0 e
  refine ⟨_, .cells (bytesRow s' (grownCap w s'.size 0 e)) e ((bytesRow s' (grownCap w s'.size 0 e)).size, (bytesRow s' (grownCap w s'.size 0 e)).size + 1), _, (bytesRow s' (grownCap w s'.size 0 e)).size, run_bytes_of_string w src dst e s' h1 h2 h3, ⟨rfl, rfl, rfl⟩, ?_⟩
  intro ρ' hle hn
  refine ⟨?_, zDG (vBytes_sound s') (Array.replicate (grownCap w s'.size 0 e - s'.size) (.int .u8 0)) rfl (.inr ⟨rfl, rfl⟩) rfl hle⟩
  rw [bytesOf_length]
  refine .slice (i := ⟨w.heap.size, _, 0, none⟩) hn (Nat.le_refl _) hge (fun _ => rfl) ?_
  simp [bytesRow]
  have : s'.data.size = s'.size := rfl
  omega
 ·cases h
end
end Go.AM
