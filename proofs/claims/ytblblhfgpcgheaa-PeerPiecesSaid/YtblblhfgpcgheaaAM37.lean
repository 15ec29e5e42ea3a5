/- An abstract machine: an addition. No condition. -/
import Derived.Test.YtblblhfgpcgheaaAM34
import Derived.Test.YtblblhfgpcgheaaAMb
namespace Go.AM
open Go
inductive Hd where
  | slice (len sz : Nat)
  | map
def Hd.v (b : Nat) : Hd → V
  | .slice len sz => .slice b 0 len len sz
  | .map => .map b
def layV (h : Hd) (rest : Option (List V)) (b : Nat) : V :=
  match rest with
  | none => h.v b
  | some r => .tuple (h.v b :: r)
def plainEs : List (V × V × Nat) → Bool
  | [] => true
  | (k, v, _) :: l => k.plain && v.plain && plainEs l
def AObj.plain : AObj → Bool
  | .cells cs ro => !ro && plains cs
  | .map es _ ro => !ro && plainEs es
  | _ => false
inductive Lay where
  | plain (v : V)
  | new (h : Hd) (rest : Option (List V)) (o : AObj)
def Lay.go {R : Type} (L : Lay) (m : Mem) (K : V → Mem → R) : R :=
  match L with
  | .plain v => K v m
  | .new h rest o => K (layV h rest m.next) (m.new o)
theorem plains_get : ∀ {l : List V} {k : Nat} {v : V}, plains l = true → l[k]? = some v → v.plain = true
  | v :: l, 0, u, h, e => by simp only [plains, Bool.and_eq_true] at h; simp at e; subst e; exact h.1
  | v :: l, k + 1, u, h, e => by simp only [plains, Bool.and_eq_true] at h; exact plains_get h.2 (by simpa using e)
theorem ERs.any {ρ ρ' : Ren} : ∀ {l : List (V × V × Nat)} {l' : List MapEntry}, ERs ρ l l' → plainEs l = true → ERs ρ' l l'
  | _, _, .nil, _ => .nil
  | _, _, .cons a b c, h => by
    simp only [plainEs, Bool.and_eq_true] at h
    exact .cons (a.any h.1.1) (b.any h.1.2) (c.any h.2)
theorem OR.any {ρ ρ' : Ren} {w : World} {i : Img} : ∀ {o : AObj}, OR ρ w i o → o.plain = true → OR ρ' w i o
  | .cells cs ro, h, p => by
    obtain ⟨cs', ty, lo, hi, h1, h2, h3, h4⟩ := h
    simp only [AObj.plain, Bool.and_eq_true] at p
    exact ⟨cs', ty, lo, hi, h1, h2, fun k v hk => let ⟨v', e1, e2⟩ := h3 k v hk; ⟨v', e1, e2.any (plains_get p.2 hk)⟩, h4⟩
  | .map es c ro, h, p => by
    obtain ⟨es', h1, h2⟩ := h
    simp only [AObj.plain, Bool.and_eq_true] at p
    exact ⟨es', h1, h2.any p.2⟩
  | .iter _ _ _ _, _, p => by cases p
  | .loop _ _, _, p => by cases p
  | .dead, _, p => by cases p
def sameEs : List (V × V × Nat) → List (V × V × Nat) → Bool
  | [], [] => true
  | (k, v, n) :: a, (k', v', n') :: b => k.same k' && v.same v' && Nat.beq n n' && sameEs a b
  | _, _ => false
def AObj.same : AObj → AObj → Bool
  | .cells a false, .cells b false => sames a b
  | .map a c false, .map b d false => sameEs a b && Nat.beq c d
  | _, _ => false
end Go.AM
