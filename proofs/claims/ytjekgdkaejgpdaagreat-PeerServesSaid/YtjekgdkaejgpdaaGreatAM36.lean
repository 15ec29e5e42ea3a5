/- An abstract machine: an addition. No condition. -/
import Derived.Test.YtjekgdkaejgpdaaGreatAM35
import Derived.Test.YtjekgdkaejgpdaaGreatAMb
namespace Go.AM
open Go
theorem zAs {x y : Int} (h : x = y) (h1 : -9223372036854775808 ≤ y) (h2 : y ≤ 9223372036854775807) : wr .i64 x = y := by
 subst h; rw [zF4]; exact zC4 _ h1 (by omega)
theorem zB9 {x y : Int} (h : x = y) (h1 : 0 ≤ y) (h2 : y ≤ 65535) : wr .u16 x = y := by
 subst h
 obtain ⟨n, rfl⟩ := Int.eq_ofNat_of_zero_le h1
 simp only [wr]
 exact congrArg Int.ofNat (Nat.mod_eq_of_lt (by omega))
theorem zD5 {x y : Int} (h : x = y) (h1 : 0 ≤ y) (h2 : y ≤ 4294967295) : wr .u32 x = y := by
 subst h
 obtain ⟨n, rfl⟩ := Int.eq_ofNat_of_zero_le h1
 simp only [wr]
 exact congrArg Int.ofNat (Nat.mod_eq_of_lt (by omega))
theorem zBH {x y : Int} (h : x = y) (h1 : 0 ≤ y) (h2 : y ≤ 18446744073709551615) : wr .u64 x = y := by
 subst h
 obtain ⟨n, rfl⟩ := Int.eq_ofNat_of_zero_le h1
 simp only [wr]
 exact congrArg Int.ofNat (Nat.mod_eq_of_lt (by omega))
theorem subE {x y a b : Int} (h : x = a) (k : y = b) : zIb x y = a - b := by subst h; subst k; exact subI_eq x y
theorem ltT {x y a b : Int} (h : x = a) (k : y = b) (c : a < b) : ltI x y = true := by subst h; subst k; rw [zGv]; exact decide_eq_true c
theorem ltF {x y a b : Int} (h : x = a) (k : y = b) (c : ¬ a < b) : ltI x y = false := by subst h; subst k; rw [zGv]; exact decide_eq_false c
theorem ltD {x y a b : Int} (h : x = a) (k : y = b) : ltI x y = decide (a < b) := by subst h; subst k; exact zGv x y
theorem eqT {x y a b : Int} (h : x = a) (k : y = b) (c : a = b) : eqI x y = true := by subst h; subst k; rw [zDI]; exact decide_eq_true c
theorem eqF {x y a b : Int} (h : x = a) (k : y = b) (c : ¬ a = b) : eqI x y = false := by subst h; subst k; rw [zDI]; exact decide_eq_false c
theorem eqD {x y a b : Int} (h : x = a) (k : y = b) : eqI x y = decide (a = b) := by subst h; subst k; exact zDI x y
theorem addN {x y : Int} {a b : Nat} (h : x = (a : Int)) (k : y = (b : Int)) : zCe x y = ((a + b : Nat) : Int) := by subst h; subst k; rw [addI_eq]; omega
theorem mulN {x y : Int} {a b : Nat} (h : x = (a : Int)) (k : y = (b : Int)) : zH6 x y = ((a * b : Nat) : Int) := by subst h; subst k; rw [mulI_eq, Int.natCast_mul]
theorem hmulN {x y : Int} {a b : Nat} (h : x = (a : Int)) (k : y = (b : Int)) : x * y = ((a * b : Nat) : Int) := by subst h; subst k; rw [Int.natCast_mul]
theorem zCn {x y : Int} {a b : Nat} (h : x = (a : Int)) (k : y = (b : Int)) : x.tdiv y = ((a / b : Nat) : Int) := by subst h; subst k; exact Int.ofNat_tdiv a b
theorem zBe {x y : Int} {a b : Nat} (h : x = (a : Int)) (k : y = (b : Int)) : x.tmod y = ((a % b : Nat) : Int) := by subst h; subst k; exact Int.ofNat_tmod a b
theorem zAK {x y : Int} {a b : Nat} (h : x = (a : Int)) (k : y = (b : Int)) : x.fdiv y = ((a / b : Nat) : Int) := by subst h; subst k; exact (Int.ofNat_fdiv a b).symm
theorem ofN {x y : Nat} (h : x = y) : Int.ofNat x = ((y : Nat) : Int) := by subst h; rfl
theorem zBc {x y : Nat} (h : x = y) : ((x : Nat) : Int) = ((y : Nat) : Int) := by subst h; rfl
theorem zAP {x y c : Nat} (h : x = y) (hl : y < c) : x % c = y := by subst h; exact Nat.mod_eq_of_lt hl
theorem hmodC {x y a b : Nat} (h : x = a) (k : y = b) : x % y = a % b := by subst h; subst k; rfl
theorem horC {x y a b : Nat} (h : x = a) (k : y = b) : x ||| y = a ||| b := by subst h; subst k; rfl
theorem zGO {x : Int} {a : Nat} (h : x = (a : Int)) (hl : a ≤ 18446744073709551615) : toU .u64 x = a := by subst h; exact Nat.mod_eq_of_lt (show a < 18446744073709551616 by omega)
theorem notD (p : Prop) [Decidable p] : (!decide p) = decide (¬ p) := by by_cases h : p <;> simp [h]
theorem zAu {α : Type} {a b : α} {l k : List α} (h : a = b) (e : l = k) : a :: l = b :: k := by rw [h, e]
def zBN : V → Option V
 | .nilslice => some (.int .i64 0)
 | .slice _ _ n _ _ => some (.int .i64 (.ofNat n))
 | _ => none
theorem cb {a b : Bool} (h : a = b) : V.bool a = V.bool b := congrArg V.bool h
theorem dF {p : Prop} [Decidable p] (h : decide p = false) : ¬ p := of_decide_eq_false h
theorem sT {p : Prop} [Decidable p] {Q : Prop} (f : p → Q) : decide p = true → Q := fun h => f (of_decide_eq_true h)
theorem sF {p : Prop} [Decidable p] {Q : Prop} (f : ¬ p → Q) : decide p = false → Q := fun h => f (of_decide_eq_false h)
abbrev vi (n : Int) : V := .int .i64 n
abbrev vw (n : Int) : V := .int .u32 n
abbrev vy (n : Int) : V := .int .u8 n
abbrev vb (b : Bool) : V := .bool b
theorem ci {a b : Int} (h : a = b) : V.int .i64 a = V.int .i64 b := by rw [h]
theorem cw {a b : Int} (h : a = b) : V.int .u32 a = V.int .u32 b := by rw [h]
theorem cy {a b : Int} (h : a = b) : V.int .u8 a = V.int .u8 b := by rw [h]
abbrev nB (b : Bool) : Bool := !b
def zBh (sz : Nat) (x i : V) : Option V :=
 match x, i.nat? with
 | .slice b off len _ sz', some i => bif Nat.blt i len && Nat.beq sz sz' then some (.ptr b (off + i * sz)) else none
 | _, _ => none
def zC9 (len sz : Nat) (x i : V) : Option V :=
 match x, i.nat? with
 | .ptr b off, some i => bif Nat.blt i len then some (.ptr b (off + i * sz)) else none
 | _, _ => none
theorem iaddr_ok {b off len cap sz i : Nat} {k : IntKind} {x : Int} (e : x = ((i : Nat) : Int)) (h : i < len) : zBh sz (.slice b off len cap sz) (.int k x) = some (.ptr b (off + i * sz)) := by
 subst e
 have e : (V.int k ((i : Nat) : Int)).nat? = some i := rfl
 simp only [zBh, e, zAV.2 h, Nat.beq_refl, Bool.and_self, cond_true]
theorem zBq {b len cap sz i : Nat} {k : IntKind} {x : Int} (e : x = ((i : Nat) : Int)) (h : i < len) : zBh sz (.slice b 0 len cap sz) (.int k x) = some (.ptr b (i * sz)) := by rw [iaddr_ok e h, Nat.zero_add]
theorem zBm {b len cap i : Nat} {k : IntKind} {x : Int} (e : x = ((i : Nat) : Int)) (h : i < len) : zBh 1 (.slice b 0 len cap 1) (.int k x) = some (.ptr b i) := by rw [zBq e h, Nat.mul_one]
theorem zCh {b off len sz i : Nat} {k : IntKind} {x : Int} (e : x = ((i : Nat) : Int)) (h : i < len) : zC9 len sz (.ptr b off) (.int k x) = some (.ptr b (off + i * sz)) := by
 subst e
 have e : (V.int k ((i : Nat) : Int)).nat? = some i := rfl
 simp only [zC9, e, zAV.2 h, cond_true]
def zAp (s : List Nat) (l h : Nat) : Option V := bif Nat.ble l h && Nat.ble h s.length then some (.str ((s.take h).drop l)) else none
def zIc (sz b off cap sz' l h c : Nat) : Option V := bif slice3 l h c cap && Nat.beq sz sz' then some (.slice b (off + l * sz) (h - l) (c - l) sz) else none
def slcAV (len sz b off l h c : Nat) (cs : List V) : Option V := bif slice3 l h c len && Nat.ble (off + len * sz) cs.length && Nat.blt 0 cs.length then some (.slice b (off + l * sz) (h - l) (c - l) sz) else none
theorem zEg {b off cap sz l h c o d e : Nat} (h1 : l ≤ h) (h2 : h ≤ c) (h3 : c ≤ cap) (e1 : off + l * sz = o) (e2 : h - l = d) (e3 : c - l = e) : zIc sz b off cap sz l h c = some (.slice b o d e sz) := by
 subst e1; subst e2; subst e3
 simp only [zIc, slice3, zAA.2 h1, zAA.2 h2, zAA.2 h3, Nat.beq_refl, Bool.and_self, cond_true]
theorem rem_ok {k : IntKind} {a b : Int} (h : b ≠ 0) : zBg .rem (.int k a) (.int k b) = some (.int k (Int.tmod a b)) := by
 have e : eqI b 0 = false := by rw [zDI]; exact decide_eq_false h
 cases k <;> (show (bif eqI b 0 then none else some _) = _; rw [e]; rfl)
def idxSV (s : List Nat) (i : V) : Option V :=
 match i.nat? with
 | some i => match nth s i with | some b => some (.int .u8 (.ofNat b)) | none => none
 | none => none
theorem idxS_ok {s : List Nat} {i b : Nat} {k : IntKind} {x : Int} (e : x = ((i : Nat) : Int)) (h : nth s i = some b) : idxSV s (.int k x) = some (.int .u8 ((b : Nat) : Int)) := by
 subst e
 have e : (V.int k ((i : Nat) : Int)).nat? = some i := rfl
 simp only [idxSV, e, h]; rfl
def zBk (kt : KT) (ok : Bool) (zero : V) (k : V) (es : List (V × V × Nat)) : Option V :=
 match zBC kt k es with
 | some (some (_, v)) => some (bif ok then .tuple [v, .bool true] else v)
 | some none => some (bif ok then .tuple [zero, .bool false] else zero)
 | none => none
theorem look_no {kt : KT} {ok : Bool} {zero k : V} {es : List (V × V × Nat)} (h : zBC kt k es = some none) : zBk kt ok zero k es = some (bif ok then .tuple [zero, .bool false] else zero) := by simp only [zBk, h]
theorem look_yes {kt : KT} {ok : Bool} {zero k v : V} {i : Nat} {es : List (V × V × Nat)} (h : zBC kt k es = some (some (i, v))) : zBk kt ok zero k es = some (bif ok then .tuple [v, .bool true] else v) := by simp only [zBk, h]
theorem zAm {tab : Nat → Option zAr} {last : CF Prop} (hl : zBi last) {d : Nat} {af : zAr} {args : List V} {m : Mem} {v : V} (sc : Sc) {VC : Prop} (vc : VC) (e : VC = bodyP (callP tab last d) (zAt pA tab last d) af args m sc fun u _ _ => u = v) (Y : Ys Prop) (K : V → Mem → Prop) (hK : ∀ m, K v m) :
  zAD pA (zAt pA tab last d) Y af args m K := zIa hl sc (e ▸ vc) Y K hK
theorem zAg {tab : Nat → Option zAr} {last : CF Prop} (hl : zBi last) {d : Nat} {af : zAr} {C : Con} (sc : Sc) {VC : Prop} (vc : VC) (e : VC = bodyP (callP tab last d) (zAt pA tab last d) af C.args (zB1 C.pre) sc fun u m' _ => zCi C u m') (Y : Ys Prop) :
  zAD pA (zAt pA tab last d) Y af C.args (zB1 C.pre) (zCi C) :=
 zJk (zFX hl d Y) (e ▸ vc) fun _ _ _ h => h
theorem zAx {P : Program} {f : Nat} {af : zAr} (h : FOk P f af) : zCm P f := by
 obtain ⟨fn, h3, h4, h5⟩ := h
 exact zFl h3 (zEo h4) h5
theorem bifTI {p : Prop} [Decidable p] {a b c : Int} (h : p) (e : a = c) : (bif decide p then a else b) = c := by rw [decide_eq_true h]; exact e
theorem bifFI {p : Prop} [Decidable p] {a b c : Int} (h : ¬ p) (e : b = c) : (bif decide p then a else b) = c := by rw [decide_eq_false h]; exact e
end Go.AM
