/- An abstract machine: an addition. No condition. -/
import Derived.Test.YtblblhfgpcgheaaAM35
import Derived.Test.YtblblhfgpcgheaaAMb
namespace Go.AM
open Go
theorem wE_i64 {x y : Int} (h : x = y) (h1 : -9223372036854775808 ≤ y) (h2 : y ≤ 9223372036854775807) : wr .i64 x = y := by
 subst h; rw [wr_eq]; exact wrap_i64_id _ h1 (by omega)
theorem wE_u64 {x y : Int} (h : x = y) (h1 : 0 ≤ y) (h2 : y ≤ 18446744073709551615) : wr .u64 x = y := by
 subst h
 obtain ⟨n, rfl⟩ := Int.eq_ofNat_of_zero_le h1
 simp only [wr]
 exact congrArg Int.ofNat (Nat.mod_eq_of_lt (by omega))
theorem subE {x y a b : Int} (h : x = a) (k : y = b) : subI x y = a - b := by subst h; subst k; exact subI_eq x y
theorem ltT {x y a b : Int} (h : x = a) (k : y = b) (c : a < b) : ltI x y = true := by subst h; subst k; rw [ltI_eq]; exact decide_eq_true c
theorem ltF {x y a b : Int} (h : x = a) (k : y = b) (c : ¬ a < b) : ltI x y = false := by subst h; subst k; rw [ltI_eq]; exact decide_eq_false c
theorem ltD {x y a b : Int} (h : x = a) (k : y = b) : ltI x y = decide (a < b) := by subst h; subst k; exact ltI_eq x y
theorem eqT {x y a b : Int} (h : x = a) (k : y = b) (c : a = b) : eqI x y = true := by subst h; subst k; rw [eqI_eq]; exact decide_eq_true c
theorem eqF {x y a b : Int} (h : x = a) (k : y = b) (c : ¬ a = b) : eqI x y = false := by subst h; subst k; rw [eqI_eq]; exact decide_eq_false c
theorem eqD {x y a b : Int} (h : x = a) (k : y = b) : eqI x y = decide (a = b) := by subst h; subst k; exact eqI_eq x y
theorem addN {x y : Int} {a b : Nat} (h : x = (a : Int)) (k : y = (b : Int)) : addI x y = ((a + b : Nat) : Int) := by subst h; subst k; rw [addI_eq]; omega
theorem hmulN {x y : Int} {a b : Nat} (h : x = (a : Int)) (k : y = (b : Int)) : x * y = ((a * b : Nat) : Int) := by subst h; subst k; rw [Int.natCast_mul]
theorem tdivN {x y : Int} {a b : Nat} (h : x = (a : Int)) (k : y = (b : Int)) : x.tdiv y = ((a / b : Nat) : Int) := by subst h; subst k; exact Int.ofNat_tdiv a b
theorem tmodN {x y : Int} {a b : Nat} (h : x = (a : Int)) (k : y = (b : Int)) : x.tmod y = ((a % b : Nat) : Int) := by subst h; subst k; exact Int.ofNat_tmod a b
theorem fdivN {x y : Int} {a b : Nat} (h : x = (a : Int)) (k : y = (b : Int)) : x.fdiv y = ((a / b : Nat) : Int) := by subst h; subst k; exact (Int.ofNat_fdiv a b).symm
theorem ofN {x y : Nat} (h : x = y) : Int.ofNat x = ((y : Nat) : Int) := by subst h; rfl
theorem casN {x y : Nat} (h : x = y) : ((x : Nat) : Int) = ((y : Nat) : Int) := by subst h; rfl
theorem modE {x y c : Nat} (h : x = y) (hl : y < c) : x % c = y := by subst h; exact Nat.mod_eq_of_lt hl
theorem hmodC {x y a b : Nat} (h : x = a) (k : y = b) : x % y = a % b := by subst h; subst k; rfl
theorem horC {x y a b : Nat} (h : x = a) (k : y = b) : x ||| y = a ||| b := by subst h; subst k; rfl
theorem handC {x y a b : Nat} (h : x = a) (k : y = b) : x &&& y = a &&& b := by subst h; subst k; rfl
theorem toUE_u64 {x : Int} {a : Nat} (h : x = (a : Int)) (hl : a ≤ 18446744073709551615) : toU .u64 x = a := by subst h; exact Nat.mod_eq_of_lt (show a < 18446744073709551616 by omega)
theorem notD (p : Prop) [Decidable p] : (!decide p) = decide (¬ p) := by by_cases h : p <;> simp [h]
theorem consE {α : Type} {a b : α} {l k : List α} (h : a = b) (e : l = k) : a :: l = b :: k := by rw [h, e]
def eqvV (neg : Bool) (kt : KT) (x y : V) : Option V := match keyEq kt x y with | some b => some (.bool (b != neg)) | none => none
def cellsOk : List SK → List V → Bool
 | [], [] => true
 | .int :: ks, .int _ _ :: l => cellsOk ks l
 | .bool :: ks, .bool _ :: l => cellsOk ks l
 | .str :: ks, .str _ :: l => cellsOk ks l
 | _, _ => false
theorem eqCells_self : ∀ {ks : List SK} {l : List V}, cellsOk ks l = true → eqCells ks l l = some true
 | [], [], _ => rfl
 | .int :: ks, .int k n :: l, h => by
  have e : eqS .int (.int k n) (.int k n) = some true := by simp [eqS, kindEq_self, eqI_eq]
  simp only [eqCells, e]; exact eqCells_self h
 | .bool :: ks, .bool b :: l, h => by
  have e : eqS .bool (.bool b) (.bool b) = some true := by simp [eqS]
  simp only [eqCells, e]; exact eqCells_self h
 | .str :: ks, .str s :: l, h => by
  have e : eqS .str (.str s) (.str s) = some true := by simp [eqS, beqL_self]
  simp only [eqCells, e]; exact eqCells_self h
theorem eqv_self {neg : Bool} {ks : List SK} {l : List V} (h : cellsOk ks l = true) : eqvV neg (.many ks) (.agg l) (.agg l) = some (.bool (!neg)) := by
 simp only [eqvV, keyEq, eqCells_self h]
 cases neg <;> rfl
theorem cb {a b : Bool} (h : a = b) : V.bool a = V.bool b := congrArg V.bool h
theorem dF {p : Prop} [Decidable p] (h : decide p = false) : ¬ p := of_decide_eq_false h
theorem sT {p : Prop} [Decidable p] {Q : Prop} (f : p → Q) : decide p = true → Q := fun h => f (of_decide_eq_true h)
theorem sF {p : Prop} [Decidable p] {Q : Prop} (f : ¬ p → Q) : decide p = false → Q := fun h => f (of_decide_eq_false h)
abbrev vi (n : Int) : V := .int .i64 n
abbrev vw (n : Int) : V := .int .u32 n
abbrev vy (n : Int) : V := .int .u8 n
abbrev vb (b : Bool) : V := .bool b
theorem ci {a b : Int} (h : a = b) : V.int .i64 a = V.int .i64 b := by rw [h]
theorem cw {a b : Int} (h : a = b) : V.int .u32 a = V.int .u32 b := by rw [h]
theorem cy {a b : Int} (h : a = b) : V.int .u8 a = V.int .u8 b := by rw [h]
abbrev nB (b : Bool) : Bool := !b
def iaddrV (sz : Nat) (x i : V) : Option V :=
 match x, i.nat? with
 | .slice b off len _ sz', some i => bif Nat.blt i len && Nat.beq sz sz' then some (.ptr b (off + i * sz)) else none
 | _, _ => none
theorem iaddr_ok {b off len cap sz i : Nat} {k : IntKind} {x : Int} (e : x = ((i : Nat) : Int)) (h : i < len) : iaddrV sz (.slice b off len cap sz) (.int k x) = some (.ptr b (off + i * sz)) := by
 subst e
 have e : (V.int k ((i : Nat) : Int)).nat? = some i := rfl
 simp only [iaddrV, e, nblt_iff.2 h, Nat.beq_refl, Bool.and_self, cond_true]
theorem iaddr_ok0 {b len cap sz i : Nat} {k : IntKind} {x : Int} (e : x = ((i : Nat) : Int)) (h : i < len) : iaddrV sz (.slice b 0 len cap sz) (.int k x) = some (.ptr b (i * sz)) := by rw [iaddr_ok e h, Nat.zero_add]
theorem iaddr_ok1 {b len cap i : Nat} {k : IntKind} {x : Int} (e : x = ((i : Nat) : Int)) (h : i < len) : iaddrV 1 (.slice b 0 len cap 1) (.int k x) = some (.ptr b i) := by rw [iaddr_ok0 e h, Nat.mul_one]
def slcStrV (s : List Nat) (l h : Nat) : Option V := bif Nat.ble l h && Nat.ble h s.length then some (.str ((s.take h).drop l)) else none
def idxSV (s : List Nat) (i : V) : Option V :=
 match i.nat? with
 | some i => match nth s i with | some b => some (.int .u8 (.ofNat b)) | none => none
 | none => none
theorem idxS_ok {s : List Nat} {i b : Nat} {k : IntKind} {x : Int} (e : x = ((i : Nat) : Int)) (h : nth s i = some b) : idxSV s (.int k x) = some (.int .u8 ((b : Nat) : Int)) := by
 subst e
 have e : (V.int k ((i : Nat) : Int)).nat? = some i := rfl
 simp only [idxSV, e, h]; rfl
def lookV (kt : KT) (ok : Bool) (zero : V) (k : V) (es : List (V × V × Nat)) : Option V :=
 match findK kt k es with
 | some (some (_, v)) => some (bif ok then .tuple [v, .bool true] else v)
 | some none => some (bif ok then .tuple [zero, .bool false] else zero)
 | none => none
theorem look_no {kt : KT} {ok : Bool} {zero k : V} {es : List (V × V × Nat)} (h : findK kt k es = some none) : lookV kt ok zero k es = some (bif ok then .tuple [zero, .bool false] else zero) := by simp only [lookV, h]
theorem look_yes {kt : KT} {ok : Bool} {zero k v : V} {i : Nat} {es : List (V × V × Nat)} (h : findK kt k es = some (some (i, v))) : lookV kt ok zero k es = some (bif ok then .tuple [v, .bool true] else v) := by simp only [lookV, h]
theorem walk_of_vc {tab : Nat → Option AFunc} {last : CF Prop} (hl : MonoCF last) {d : Nat} {af : AFunc} {args : List V} {m : Mem} {v : V} (sc : Sc) {VC : Prop} (vc : VC) (e : VC = bodyP (callP tab last d) (callD pA tab last d) af args m sc fun u _ _ => u = v) (Y : Ys Prop) (K : V → Mem → Prop) (hK : ∀ m, K v m) :
  body1 pA (callD pA tab last d) Y af args m K := walk_of_script hl sc (e ▸ vc) Y K hK
theorem walkC_of_vc {tab : Nat → Option AFunc} {last : CF Prop} (hl : MonoCF last) {d : Nat} {af : AFunc} {C : Con} (sc : Sc) {VC : Prop} (vc : VC) (e : VC = bodyP (callP tab last d) (callD pA tab last d) af C.args (memO C.pre) sc fun u m' _ => endC C u m') (Y : Ys Prop) :
  body1 pA (callD pA tab last d) Y af C.args (memO C.pre) (endC C) :=
 bodyP_ok (callP_ok hl d Y) (e ▸ vc) fun _ _ _ h => h
theorem callable_fok {P : Program} {f : Nat} {af : AFunc} (h : FOk P f af) : Callable P f := by
 obtain ⟨fn, h3, h4, h5⟩ := h
 exact callable_of h3 (body_of_comp h4) h5
theorem bifTI {p : Prop} [Decidable p] {a b c : Int} (h : p) (e : a = c) : (bif decide p then a else b) = c := by rw [decide_eq_true h]; exact e
theorem bifFI {p : Prop} [Decidable p] {a b c : Int} (h : ¬ p) (e : b = c) : (bif decide p then a else b) = c := by rw [decide_eq_false h]; exact e
end Go.AM
