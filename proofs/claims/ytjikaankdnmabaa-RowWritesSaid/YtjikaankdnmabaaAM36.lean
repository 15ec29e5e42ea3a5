/- An abstract machine: an addition. No condition. -/
import Derived.Test.YtjikaankdnmabaaAM35
import Derived.Test.YtjikaankdnmabaaAMb
namespace Go.AM
open Go
theorem wE_i64 {x y : Int} (h : x = y) (h1 : -9223372036854775808 ≤ y) (h2 : y ≤ 9223372036854775807) : wr .i64 x = y := by
  subst h; rw [wr_eq]; exact wrap_i64_id _ h1 (by omega)
theorem addE {x y a b : Int} (h : x = a) (k : y = b) : addI x y = a + b := by subst h; subst k; exact addI_eq x y
theorem subE {x y a b : Int} (h : x = a) (k : y = b) : subI x y = a - b := by subst h; subst k; exact subI_eq x y
theorem tdivE {x y a b : Int} (h : x = a) (k : y = b) (h0 : 0 ≤ a) : x.tdiv y = a / b := by subst h; subst k; exact Int.tdiv_eq_ediv_of_nonneg h0
theorem tmodE {x y a b : Int} (h : x = a) (k : y = b) (h0 : 0 ≤ a) : x.tmod y = a % b := by subst h; subst k; exact Int.tmod_eq_emod_of_nonneg h0
theorem ltT {x y a b : Int} (h : x = a) (k : y = b) (c : a < b) : ltI x y = true := by subst h; subst k; rw [ltI_eq]; exact decide_eq_true c
theorem ltF {x y a b : Int} (h : x = a) (k : y = b) (c : ¬ a < b) : ltI x y = false := by subst h; subst k; rw [ltI_eq]; exact decide_eq_false c
theorem ltD {x y a b : Int} (h : x = a) (k : y = b) : ltI x y = decide (a < b) := by subst h; subst k; exact ltI_eq x y
theorem eqT {x y a b : Int} (h : x = a) (k : y = b) (c : a = b) : eqI x y = true := by subst h; subst k; rw [eqI_eq]; exact decide_eq_true c
theorem eqF {x y a b : Int} (h : x = a) (k : y = b) (c : ¬ a = b) : eqI x y = false := by subst h; subst k; rw [eqI_eq]; exact decide_eq_false c
theorem eqD {x y a b : Int} (h : x = a) (k : y = b) : eqI x y = decide (a = b) := by subst h; subst k; exact eqI_eq x y
theorem addN {x y : Int} {a b : Nat} (h : x = (a : Int)) (k : y = (b : Int)) : addI x y = ((a + b : Nat) : Int) := by subst h; subst k; rw [addI_eq]; omega
theorem ofN {x y : Nat} (h : x = y) : Int.ofNat x = ((y : Nat) : Int) := by subst h; rfl
theorem casN {x y : Nat} (h : x = y) : ((x : Nat) : Int) = ((y : Nat) : Int) := by subst h; rfl
theorem notD (p : Prop) [Decidable p] : (!decide p) = decide (¬ p) := by by_cases h : p <;> simp [h]
theorem consE {α : Type} {a b : α} {l k : List α} (h : a = b) (e : l = k) : a :: l = b :: k := by rw [h, e]
theorem cb {a b : Bool} (h : a = b) : V.bool a = V.bool b := congrArg V.bool h
theorem dT {p : Prop} [Decidable p] (h : decide p = true) : p := of_decide_eq_true h
theorem dF {p : Prop} [Decidable p] (h : decide p = false) : ¬ p := of_decide_eq_false h
theorem sT {p : Prop} [Decidable p] {Q : Prop} (f : p → Q) : decide p = true → Q := fun h => f (of_decide_eq_true h)
theorem sF {p : Prop} [Decidable p] {Q : Prop} (f : ¬ p → Q) : decide p = false → Q := fun h => f (of_decide_eq_false h)
abbrev vi (n : Int) : V := .int .i64 n
abbrev vb (b : Bool) : V := .bool b
theorem ci {a b : Int} (h : a = b) : V.int .i64 a = V.int .i64 b := by rw [h]
abbrev nB (b : Bool) : Bool := !b
theorem mono_l {n : Nat} {S : List V → Option Lay} {last : CF Prop} (hl : MonoCF last) : MonoCF (lastL n S last) := mono_L hl
def iaddrV (sz : Nat) (x i : V) : Option V :=
  match x, i.nat? with
  | .slice b off len _ sz', some i => bif Nat.blt i len && Nat.beq sz sz' then some (.ptr b (off + i * sz)) else none
  | _, _ => none
def iaddrAV (len sz : Nat) (x i : V) : Option V :=
  match x, i.nat? with
  | .ptr b off, some i => bif Nat.blt i len then some (.ptr b (off + i * sz)) else none
  | _, _ => none
theorem iaddr_ok {b off len cap sz i : Nat} {k : IntKind} {x : Int} (e : x = ((i : Nat) : Int)) (h : i < len) : iaddrV sz (.slice b off len cap sz) (.int k x) = some (.ptr b (off + i * sz)) := by
  subst e
  have e : (V.int k ((i : Nat) : Int)).nat? = some i := rfl
  simp only [iaddrV, e, nblt_iff.2 h, Nat.beq_refl, Bool.and_self, cond_true]
theorem iaddr_ok0 {b len cap sz i : Nat} {k : IntKind} {x : Int} (e : x = ((i : Nat) : Int)) (h : i < len) : iaddrV sz (.slice b 0 len cap sz) (.int k x) = some (.ptr b (i * sz)) := by rw [iaddr_ok e h, Nat.zero_add]
theorem iaddr_ok1 {b len cap i : Nat} {k : IntKind} {x : Int} (e : x = ((i : Nat) : Int)) (h : i < len) : iaddrV 1 (.slice b 0 len cap 1) (.int k x) = some (.ptr b i) := by rw [iaddr_ok0 e h, Nat.mul_one]
theorem iaddrA_ok {b off len sz i : Nat} {k : IntKind} {x : Int} (e : x = ((i : Nat) : Int)) (h : i < len) : iaddrAV len sz (.ptr b off) (.int k x) = some (.ptr b (off + i * sz)) := by
  subst e
  have e : (V.int k ((i : Nat) : Int)).nat? = some i := rfl
  simp only [iaddrAV, e, nblt_iff.2 h, cond_true]
theorem iaddrA_ok0 {b len sz i : Nat} {k : IntKind} {x : Int} (e : x = ((i : Nat) : Int)) (h : i < len) : iaddrAV len sz (.ptr b 0) (.int k x) = some (.ptr b (i * sz)) := by rw [iaddrA_ok e h, Nat.zero_add]
theorem iaddrA_ok1 {b len i : Nat} {k : IntKind} {x : Int} (e : x = ((i : Nat) : Int)) (h : i < len) : iaddrAV len 1 (.ptr b 0) (.int k x) = some (.ptr b i) := by rw [iaddrA_ok0 e h, Nat.mul_one]
def lookV (kt : KT) (ok : Bool) (zero : V) (k : V) (es : List (V × V × Nat)) : Option V :=
  match findK kt k es with
  | some (some (_, v)) => some (bif ok then .tuple [v, .bool true] else v)
  | some none => some (bif ok then .tuple [zero, .bool false] else zero)
  | none => none
theorem walk_of_vc {tab : Nat → Option AFunc} {last : CF Prop} (hl : MonoCF last) {d : Nat} {af : AFunc} {args : List V} {m : Mem} {v : V} (sc : Sc) {VC : Prop} (vc : VC) (e : VC = bodyP (callP tab last d) (callD pA tab last d) af args m sc fun u _ _ => u = v) (Y : Ys Prop) (K : V → Mem → Prop) (hK : ∀ m, K v m) :
    body1 pA (callD pA tab last d) Y af args m K := walk_of_script hl sc (e ▸ vc) Y K hK
def ptr1 : V → Option Nat
  | .slice b _ _ _ _ => some b
  | .map b => some b
  | _ => none
def ptrOf : V → Option Nat
  | .tuple (v :: _) => ptr1 v
  | v => ptr1 v
def endK (L : Lay) (u : V) (m : Mem) : Prop :=
  match L with
  | .plain v => u = v
  | .new h rest o => match ptrOf u with
    | some b => u = layV h rest b ∧ m.get b = some o
    | none => False
theorem endK_endL {L : Lay} {u : V} {m : Mem} (h : endK L u m) : endL L u m := by
  cases L with
  | plain v => exact h
  | new hd rest o =>
    simp only [endK] at h
    split at h
    · exact ⟨_, h⟩
    · exact h.elim
theorem walkL_of_vc {tab : Nat → Option AFunc} {last : CF Prop} (hl : MonoCF last) {d : Nat} {af : AFunc} {args : List V} {m : Mem} {L : Lay} (sc : Sc) {VC : Prop} (vc : VC) (e : VC = bodyP (callP tab last d) (callD pA tab last d) af args m sc fun u m' _ => endK L u m') (Y : Ys Prop) :
    body1 pA (callD pA tab last d) Y af args m (endL L) :=
  bodyP_ok (callP_ok hl d Y) (e ▸ vc) fun _ _ _ h => endK_endL h
theorem answersL_walk {P : Program} (hmix : P.follows .mixedOrders = true) {n : Nat} {af : AFunc} (hok : FOk P n af) {cfy : Ys Prop → CF Prop} (hcf : CFOk P cfy id) {args : List V} {args' : List Value} {ρ : Ren} (ha : VRs ρ args args') (hp : plains args = true)
    {L : Lay} (hL : L.isPlain = true) (hw : body1 pA cfy Ys.none af args ⟨0, .leaf⟩ (endL L)) : AnswersL P n args' L :=
  answersL_of (A := pA) (H := id) pHolds hmix hok hcf ha hp hL (K := endL L) (fun _ _ h => h) hw
theorem walkC_of_vc {tab : Nat → Option AFunc} {last : CF Prop} (hl : MonoCF last) {d : Nat} {af : AFunc} {C : Con} (sc : Sc) {VC : Prop} (vc : VC) (e : VC = bodyP (callP tab last d) (callD pA tab last d) af C.args (memO C.pre) sc fun u m' _ => endC C u m') (Y : Ys Prop) :
    body1 pA (callD pA tab last d) Y af C.args (memO C.pre) (endC C) :=
  bodyP_ok (callP_ok hl d Y) (e ▸ vc) fun _ _ _ h => h
theorem walkQ_of_vc {tab : Nat → Option AFunc} {last : CF Prop} (hl : MonoCF last) {d : Nat} {af : AFunc} {args : List V} {m : Mem} {Q : EnL → Prop} {C : EnL → Con} (sc : Sc) {VC : Prop} (vc : VC) (e : VC = bodyP (callP tab last d) (callD pA tab last d) af args m sc fun u m' _ => endQ Q C u m') (Y : Ys Prop) :
    body1 pA (callD pA tab last d) Y af args m (endQ Q C) :=
  bodyP_ok (callP_ok hl d Y) (e ▸ vc) fun _ _ _ h => h
theorem mono_c {n : Nat} {S : Con → Prop} {last : CF Prop} (hl : MonoCF last) : MonoCF (lastC n S last) := by
  intro f args m K K' hk h
  unfold lastC at h ⊢
  split at h
  · rename_i g
    cases e : Nat.beq g n with
    | true =>
      simp only [e, cond_true] at h ⊢
      rcases h with ⟨C, σ, h1, h2, h3⟩ | h
      · exact .inl ⟨C, σ, h1, h2, hk _ _ h3⟩
      · exact .inr (hl _ _ _ _ _ hk h)
    | false => simp only [e, cond_false] at h ⊢; exact hl _ _ _ _ _ hk h
  · exact hl _ _ _ _ _ hk h
theorem callable_fok {P : Program} {f : Nat} {af : AFunc} (h : FOk P f af) : Callable P f := by
  obtain ⟨fn, h3, h4, h5⟩ := h
  exact callable_of h3 (body_of_comp h4) h5
def sndC : ACode → ACode
  | .seq _ b => b
  | c => c
end Go.AM
