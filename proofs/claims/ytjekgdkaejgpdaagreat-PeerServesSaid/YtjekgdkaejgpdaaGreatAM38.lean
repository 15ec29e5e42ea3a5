/- An abstract machine: an addition. No condition. -/
import Derived.Test.YtjekgdkaejgpdaaGreatAM37
import Derived.Test.YtjekgdkaejgpdaaGreatAMb
namespace Go.AM
open Go
mutual
def V.ren (σ : Nat → Nat) : V → V
 | .ptr b o => .ptr (σ b) o
 | .slice b o l c s => .slice (σ b) o l c s
 | .map b => .map (σ b)
 | .yield b => .yield (σ b)
 | .func f a b => .func f (zDr σ a) (zDr σ b)
 | .iface t v => .iface t (v.ren σ)
 | .agg l => .agg (zDr σ l)
 | .tuple l => .tuple (zDr σ l)
 | .bool b => .bool b
 | .int k n => .int k n
 | .str s => .str s
 | .nilptr => .nilptr
 | .nilslice => .nilslice
 | .nilmap => .nilmap
 | .nilfunc => .nilfunc
 | .niliface => .niliface
 | .any => .any
def zDr (σ : Nat → Nat) : List V → List V
 | [] => []
 | v :: l => v.ren σ :: zDr σ l
end
mutual
def V.bel (p : Nat → Bool) : V → Bool
 | .ptr b _ => p b
 | .slice b _ _ _ _ => p b
 | .map b => p b
 | .yield b => p b
 | .func _ a b => zF2 p a && zF2 p b
 | .iface _ v => v.bel p
 | .agg l => zF2 p l
 | .tuple l => zF2 p l
 | _ => true
def zF2 (p : Nat → Bool) : List V → Bool
 | [] => true
 | v :: l => v.bel p && zF2 p l
end
section
variable {ρ₀ ρ : Ren} {σ : Nat → Nat} {p : Nat → Bool}
mutual
theorem VR.fwd (h : ∀ c i, p c = true → ρ₀ c = some i → ρ (σ c) = some i) : ∀ {v : V} {v' : Value}, VR ρ₀ v v' → v.bel p = true → VR ρ (v.ren σ) v'
 | _, _, .bool b, _ => .bool b
 | _, _, .int k n, _ => .int k n
 | _, _, .str s, _ => .str s
 | _, _, .ptr hb, hp => .ptr (h _ _ hp hb)
 | _, _, .nilptr, _ => .nilptr
 | _, _, .slice hb h1 h2 h3 h4, hp => .slice (h _ _ hp hb) h1 h2 h3 h4
 | _, _, .nilslice, _ => .nilslice
 | _, _, .map hb, hp => .map (h _ _ hp hb)
 | _, _, .nilmap, _ => .nilmap
 | _, _, .func ha hb, hp => by
  simp only [V.bel, Bool.and_eq_true] at hp
  exact .func (VRs.fwd h ha hp.1) (VRs.fwd h hb hp.2)
 | _, _, .nilfunc, _ => .nilfunc
 | _, _, .yield hb, hp => .yield (h _ _ hp hb)
 | _, _, .iface hv, hp => .iface (VR.fwd h hv hp)
 | _, _, .niliface, _ => .niliface
 | _, _, .agg hc, hp => .agg (VRs.fwd h hc hp)
 | _, _, .tuple hc, hp => .tuple (VRs.fwd h hc hp)
 | _, _, .unk h, _ => .unk h
theorem VRs.fwd (h : ∀ c i, p c = true → ρ₀ c = some i → ρ (σ c) = some i) : ∀ {l : List V} {l' : List Value}, VRs ρ₀ l l' → zF2 p l = true → VRs ρ (zDr σ l) l'
 | _, _, .nil, _ => .nil
 | _, _, .cons hv hl, hp => by
  simp only [zF2, Bool.and_eq_true] at hp
  exact .cons (VR.fwd h hv hp.1) (VRs.fwd h hl hp.2)
end
mutual
theorem VR.bwd (h : ∀ c i, p c = true → ρ (σ c) = some i → ρ₀ c = some i) : ∀ (v : V) {v' : Value}, VR ρ (v.ren σ) v' → v.bel p = true → VR ρ₀ v v'
 | .bool _, _, hv, _ => by cases hv; exact .bool _
 | .int _ _, _, hv, _ => by cases hv; exact .int _ _
 | .str _, _, hv, _ => by cases hv; exact .str _
 | .ptr _ _, _, hv, hp => by cases hv with | ptr hb => exact .ptr (h _ _ hp hb)
 | .nilptr, _, hv, _ => by cases hv; exact .nilptr
 | .slice _ _ _ _ _, _, hv, hp => by cases hv with | slice hb h1 h2 h3 h4 => exact .slice (h _ _ hp hb) h1 h2 h3 h4
 | .nilslice, _, hv, _ => by cases hv; exact .nilslice
 | .map _, _, hv, hp => by cases hv with | map hb => exact .map (h _ _ hp hb)
 | .nilmap, _, hv, _ => by cases hv; exact .nilmap
 | .func _ a b, _, hv, hp => by
  simp only [V.bel, Bool.and_eq_true] at hp
  cases hv with | func ha hb => exact .func (VRs.bwd h a ha hp.1) (VRs.bwd h b hb hp.2)
 | .nilfunc, _, hv, _ => by cases hv; exact .nilfunc
 | .yield _, _, hv, hp => by cases hv with | yield hb => exact .yield (h _ _ hp hb)
 | .iface _ v, _, hv, hp => by cases hv with | iface hv => exact .iface (VR.bwd h v hv hp)
 | .niliface, _, hv, _ => by cases hv; exact .niliface
 | .agg l, _, hv, hp => by cases hv with | agg hc => exact .agg (VRs.bwd h l hc hp)
 | .tuple l, _, hv, hp => by cases hv with | tuple hc => exact .tuple (VRs.bwd h l hc hp)
 | .any, _, h, _ => by cases h with | unk h => exact .unk h
theorem VRs.bwd (h : ∀ c i, p c = true → ρ (σ c) = some i → ρ₀ c = some i) : ∀ (l : List V) {l' : List Value}, VRs ρ (zDr σ l) l' → zF2 p l = true → VRs ρ₀ l l'
 | [], _, hv, _ => by cases hv; exact .nil
 | v :: l, _, hv, hp => by
  simp only [zF2, Bool.and_eq_true] at hp
  cases hv with | cons h1 h2 => exact .cons (VR.bwd h v h1 hp.1) (VRs.bwd h l h2 hp.2)
end
end
theorem zIU (σ : Nat → Nat) : ∀ (l : List V) (k : Nat), (zDr σ l)[k]? = (l[k]?).map (V.ren σ)
 | [], k => by simp [zDr]
 | v :: l, 0 => by simp [zDr]
 | v :: l, k + 1 => by simpa [zDr] using zIU σ l k
theorem zG4 {p : Nat → Bool} : ∀ {l : List V} {k : Nat} {v : V}, zF2 p l = true → l[k]? = some v → v.bel p = true
 | v :: l, 0, u, h, e => by simp only [zF2, Bool.and_eq_true] at h; simp at e; subst e; exact h.1
 | v :: l, k + 1, u, h, e => by simp only [zF2, Bool.and_eq_true] at h; exact zG4 h.2 (by simpa using e)
def zCT (σ : Nat → Nat) : List (V × V × Nat) → List (V × V × Nat)
 | [] => []
 | (k, v, n) :: l => (k.ren σ, v.ren σ, n) :: zCT σ l
def zDJ (p : Nat → Bool) : List (V × V × Nat) → Bool
 | [] => true
 | (k, v, _) :: l => k.bel p && v.bel p && zDJ p l
def zAe.ren (σ : Nat → Nat) : zAe → zAe
 | .cells cs ro => .cells (zDr σ cs) ro
 | .map es c ro => .map (zCT σ es) c ro
 | _ => .dead
def zAe.bel (p : Nat → Bool) : zAe → Bool
 | .cells cs _ => zF2 p cs
 | .map es _ _ => zDJ p es
 | .dead => true
 | _ => false
theorem zAe.ren_wr {σ : Nat → Nat} {p : Nat → Bool} {o : zAe} (h : o.bel p = true) : (o.ren σ).wr = o.wr := by
 cases o <;> first | rfl | (simp [zAe.bel] at h)
theorem zAe.ren_live {σ : Nat → Nat} {p : Nat → Bool} {o : zAe} (h : o.bel p = true) : (o.ren σ).live = o.live := by
 cases o <;> first | rfl | (simp [zAe.bel] at h)
section
variable {ρ₀ ρ : Ren} {σ : Nat → Nat} {p : Nat → Bool}
theorem ERs.fwd (h : ∀ c i, p c = true → ρ₀ c = some i → ρ (σ c) = some i) : ∀ {l : List (V × V × Nat)} {l' : List MapEntry}, ERs ρ₀ l l' → zDJ p l = true → ERs ρ (zCT σ l) l'
 | _, _, .nil, _ => .nil
 | _, _, .cons a b c, hp => by
  simp only [zDJ, Bool.and_eq_true] at hp
  exact .cons (a.fwd h hp.1.1) (b.fwd h hp.1.2) (c.fwd h hp.2)
theorem ERs.bwd (h : ∀ c i, p c = true → ρ (σ c) = some i → ρ₀ c = some i) : ∀ (l : List (V × V × Nat)) {l' : List MapEntry}, ERs ρ (zCT σ l) l' → zDJ p l = true → ERs ρ₀ l l'
 | [], _, hv, _ => by cases hv; exact .nil
 | (k, v, n) :: l, _, hv, hp => by
  simp only [zDJ, Bool.and_eq_true] at hp
  cases hv with | cons a b c => exact .cons (VR.bwd h k a hp.1.1) (VR.bwd h v b hp.1.2) (ERs.bwd h l c hp.2)
theorem OR.fwd (h : ∀ c i, p c = true → ρ₀ c = some i → ρ (σ c) = some i) {w : World} {i : Img} {o : zAe} (ho : OR ρ₀ w i o) (hp : o.bel p = true) : OR ρ w i (o.ren σ) := by
 cases o with
 | cells cs ro =>
  obtain ⟨cs', ty, lo, hi, h1, h2, h3, h4⟩ := ho
  refine ⟨cs', ty, lo, hi, h1, h2, fun k v hk => ?_, h4⟩
  rw [zIU] at hk
  cases e : cs[k]? with
  | none => rw [e] at hk; cases hk
  | some u =>
   rw [e] at hk; cases hk
   obtain ⟨v', e1, e2⟩ := h3 k u e
   exact ⟨v', e1, e2.fwd h (zG4 hp e)⟩
 | map es c ro =>
  obtain ⟨es', h1, h2⟩ := ho
  exact ⟨es', h1, h2.fwd h hp⟩
 | iter _ _ _ _ => cases hp
 | loop _ _ => cases hp
 | dead => trivial
theorem OR.bwd (h : ∀ c i, p c = true → ρ (σ c) = some i → ρ₀ c = some i) {w : World} {i : Img} {o : zAe} (ho : OR ρ w i (o.ren σ)) (hp : o.bel p = true) : OR ρ₀ w i o := by
 cases o with
 | cells cs ro =>
  obtain ⟨cs', ty, lo, hi, h1, h2, h3, h4⟩ := ho
  refine ⟨cs', ty, lo, hi, h1, h2, fun k v hk => ?_, h4⟩
  obtain ⟨v', e1, e2⟩ := h3 k (v.ren σ) (by rw [zIU, hk]; rfl)
  exact ⟨v', e1, VR.bwd h v e2 (zG4 hp hk)⟩
 | map es c ro =>
  obtain ⟨es', h1, h2⟩ := ho
  exact ⟨es', h1, ERs.bwd h es h2 hp⟩
 | iter _ _ _ _ => cases hp
 | loop _ _ => cases hp
 | dead => trivial
end
structure Con where
 args : List V
 pre : List zAe
 ans : V
 old : List zAe
 new : List (Nat × zAe)
def treeO : Nat → List zAe → zC2 → zC2
 | _, [], t => t
 | i, o :: l, t => treeO (i + 1) l (t.set o i)
def zB1 (l : List zAe) : Mem := ⟨l.length, treeO 0 l .leaf⟩
theorem treeO_get : ∀ (l : List zAe) (i : Nat) (t : zC2) (c : Nat), (treeO i l t).get c = if i ≤ c ∧ c < i + l.length then l[c - i]? else t.get c
 | [], i, t, c => by
  rw [if_neg (by simp only [List.length_nil]; omega)]; rfl
 | o :: l, i, t, c => by
  simp only [treeO]
  rw [treeO_get l (i + 1) (t.set o i) c, zC2.get_set]
  by_cases h1 : i + 1 ≤ c ∧ c < i + 1 + l.length
  ·rw [if_pos h1, if_pos (by simp only [List.length_cons]; omega), show c - i = c - (i + 1) + 1 by omega]
   simp
  ·rw [if_neg h1]
   by_cases h2 : c = i
   ·subst h2
    rw [if_pos rfl, if_pos (by simp only [List.length_cons]; omega)]
    simp
   ·rw [if_neg h2, if_neg (by simp only [List.length_cons]; omega)]
theorem zDk (l : List zAe) (c : Nat) : (zB1 l).get c = l[c]? := by
 unfold zB1 Mem.get
 rw [treeO_get]
 by_cases h : c < l.length
 ·rw [if_pos (by omega)]; simp
 ·rw [if_neg (by omega), List.getElem?_eq_none (by omega)]; rfl
def posN (c : Nat) : List (Nat × zAe) → Nat
 | [] => 0
 | (x, _) :: l => bif Nat.beq x c then 0 else posN c l + 1
def zEH (c : Nat) : List (Nat × zAe) → Bool
 | [] => false
 | (x, _) :: l => Nat.beq x c || zEH c l
def zFE : List (Nat × zAe) → Bool
 | [] => true
 | (x, _) :: l => !zEH x l && zFE l
theorem posN_get {c : Nat} : ∀ {l : List (Nat × zAe)}, zEH c l = true → ∃ o, l[posN c l]? = some (c, o)
 | (x, o) :: l, h => by
  by_cases e : x = c
  ·subst e; simp only [posN, Nat.beq_refl, cond_true]; exact ⟨o, rfl⟩
  ·simp only [zEH, zAS e, Bool.false_or] at h
   simp only [posN, zAS e, cond_false]
   obtain ⟨o', h'⟩ := posN_get h
   exact ⟨o', by simpa using h'⟩
theorem zHw {c : Nat} {o : zAe} : ∀ {l : List (Nat × zAe)} {j : Nat}, l[j]? = some (c, o) → zEH c l = true
 | (x, u) :: l, 0, h => by simp at h; simp [zEH, h.1]
 | (x, u) :: l, j + 1, h => by simp only [zEH]; rw [zHw (by simpa using h), Bool.or_true]
theorem zHh {c : Nat} {o : zAe} : ∀ {l : List (Nat × zAe)} {j : Nat}, zFE l = true → l[j]? = some (c, o) → posN c l = j
 | (x, u) :: l, 0, _, h => by simp at h; simp [posN, h.1]
 | (x, u) :: l, j + 1, hd, h => by
  simp only [zFE, Bool.and_eq_true, Bool.not_eq_true'] at hd
  have h' : l[j]? = some (c, o) := by simpa using h
  have hc := zHw h'
  have e : x ≠ c := fun e => by subst e; rw [hc] at hd; exact absurd hd.1 (by simp)
  simp only [posN, zAS e, cond_false, zHh hd.2 h']
section
variable (C : Con) (σ : Nat → Nat)
def Con.tau (n : Nat) (c : Nat) : Nat := bif Nat.blt c C.pre.length then σ c else n + posN c C.new
def setAll (σ τ : Nat → Nat) : Nat → List zAe → Mem → Mem
 | _, [], m => m
 | i, o :: l, m => setAll σ τ (i + 1) l (m.set (σ i) (o.ren τ))
def zE1 (τ : Nat → Nat) : List (Nat × zAe) → Mem → Mem
 | [], m => m
 | (_, o) :: l, m => zE1 τ l (m.new (o.ren τ))
def Con.mem (m : Mem) : Mem := zE1 (C.tau σ m.next) C.new (setAll σ (C.tau σ m.next) 0 C.old m)
def Con.p0 (c : Nat) : Bool := Nat.blt c C.pre.length
def Con.p1 (c : Nat) : Bool := Nat.blt c C.pre.length || zEH c C.new
def Con.wf : Bool := zF2 C.p0 C.args && C.pre.all (fun o => o.bel C.p0 && o.live) && C.ans.bel C.p1 && C.old.all (fun o => o.bel C.p1) && C.new.all (fun x => x.2.bel C.p1 && x.2.wr && Nat.ble C.pre.length x.1) && zFE C.new && Nat.beq C.old.length C.pre.length
end
theorem zFe (τ : Nat → Nat) : ∀ (l : List (Nat × zAe)) (m : Mem), (zE1 τ l m).next = m.next + l.length
 | [], _ => rfl
 | (_, o) :: l, m => by simp only [zE1]; rw [zFe τ l]; simp; omega
theorem zEz (τ : Nat → Nat) {b : Nat} : ∀ (l : List (Nat × zAe)) (m : Mem), b < m.next → (zE1 τ l m).get b = m.get b
 | [], _, _ => rfl
 | (_, o) :: l, m, h => by
  simp only [zE1]
  rw [zEz τ l _ (by simp; omega), Mem.get_new, if_neg (by omega)]
theorem zIz (τ : Nat → Nat) : ∀ (l : List (Nat × zAe)) (m : Mem) (j c : Nat) (o : zAe), l[j]? = some (c, o) → (zE1 τ l m).get (m.next + j) = some (o.ren τ)
 | [], _, _, _, _, h => by simp at h
 | (x, u) :: l, m, 0, c, o, h => by
  simp at h
  obtain ⟨rfl, rfl⟩ := h
  simp only [zE1]
  rw [zEz τ l _ (by simp), Mem.get_new, if_pos (by omega)]
 | (x, u) :: l, m, j + 1, c, o, h => by
  simp only [zE1]
  have := zIz τ l (m.new (u.ren τ)) j c o (by simpa using h)
  rwa [Mem.next_new, show m.next + 1 + j = m.next + (j + 1) by omega] at this
def zAq (P : Program) (n : Nat) (C : Con) : Prop := ∀ (ρ : Ren) (w : World) (args' : List Value), (∀ c i, ρ c = some i → c < C.pre.length) → MR ρ (zB1 C.pre) w → VRs ρ C.args args' →
 Calls P n ⟨args'⟩ w fun e w' => ∃ (ρ' : Ren) (m' : Mem) (v' : Value), e = .returned v' ∧ MR ρ' m' w' ∧ Ext ρ (zB1 C.pre) w ρ' m' w' ∧ VR ρ' C.ans v' ∧ (∀ c o, C.old[c]? = some o → m'.get c = some o) ∧ ∀ x ∈ C.new, m'.get x.1 = some x.2
structure ConAt (C : Con) (σ : Nat → Nat) (args : List V) (m : Mem) : Prop where
 wf : C.wf = true
 args : args = zDr σ C.args
 inj : ∀ a b, a < C.pre.length → b < C.pre.length → σ a = σ b → a = b
 pre : ∀ c o, C.pre[c]? = some o → m.get (σ c) = some (o.ren σ)
abbrev EnL := List (V × V × Nat)
def zAJ : List Nat → Nat → Nat
 | [], _ => 0
 | x :: _, 0 => x
 | _ :: l, n + 1 => zAJ l n
def inL (x : Nat) : List Nat → Bool
 | [] => false
 | y :: l => Nat.beq x y || inL x l
def zDj : List Nat → Bool
 | [] => true
 | x :: l => !inL x l && zDj l
def preOk (σ : Nat → Nat) (m : Mem) : Nat → List zAe → Prop
 | _, [] => True
 | i, o :: l => m.get (σ i) = some (o.ren σ) ∧ preOk σ m (i + 1) l
theorem preOk_get {σ : Nat → Nat} {m : Mem} : ∀ {l : List zAe} {i : Nat}, preOk σ m i l → ∀ (c : Nat) (o : zAe), l[c]? = some o → m.get (σ (i + c)) = some (o.ren σ)
 | u :: l, i, h, 0, o, e => by simp at e; subst e; exact h.1
 | u :: l, i, h, c + 1, o, e => by
  have := preOk_get h.2 c o (by simpa using e)
  rwa [show i + 1 + c = i + (c + 1) by omega] at this
theorem zI4 : ∀ {l : List Nat} {c : Nat}, c < l.length → inL (zAJ l c) l = true
 | x :: l, 0, _ => by simp [zAJ, inL]
 | x :: l, c + 1, h => by simp only [zAJ, inL]; rw [zI4 (by simpa using h), Bool.or_true]
theorem zGS : ∀ {l : List Nat}, zDj l = true → ∀ a b, a < l.length → b < l.length → zAJ l a = zAJ l b → a = b
 | x :: l, h, 0, 0, _, _, _ => rfl
 | x :: l, h, 0, b + 1, _, hb, e => by
  simp only [zDj, Bool.and_eq_true, Bool.not_eq_true'] at h
  simp only [zAJ] at e
  have := zI4 (l := l) (c := b) (by simpa using hb)
  rw [← e, h.1] at this; cases this
 | x :: l, h, a + 1, 0, ha, _, e => by
  simp only [zDj, Bool.and_eq_true, Bool.not_eq_true'] at h
  simp only [zAJ] at e
  have := zI4 (l := l) (c := a) (by simpa using ha)
  rw [e, h.1] at this; cases this
 | x :: l, h, a + 1, b + 1, ha, hb, e => by
  simp only [zDj, Bool.and_eq_true] at h
  have := zGS h.2 a b (by simpa using ha) (by simpa using hb) e
  omega
theorem conAt_of {C : Con} {l : List Nat} {args : List V} {m : Mem} (h1 : C.wf = true) (h2 : (zDj l && Nat.beq l.length C.pre.length) = true) (h3 : args = zDr (zAJ l) C.args) (h4 : preOk (zAJ l) m 0 C.pre) : ConAt C (zAJ l) args m := by
 simp only [Bool.and_eq_true] at h2
 have e := Nat.eq_of_beq_eq_true h2.2
 exact ⟨h1, h3, fun a b ha hb => zGS h2.1 a b (by omega) (by omega), fun c o h => by have := preOk_get h4 c o h; rwa [Nat.zero_add] at this⟩
def oldOk (m : Mem) : Nat → List zAe → Prop
 | _, [] => True
 | i, o :: l => m.get i = some o ∧ oldOk m (i + 1) l
def newOk (m : Mem) : List (Nat × zAe) → Prop
 | [] => True
 | (x, o) :: l => m.get x = some o ∧ newOk m l
def zCi (C : Con) (u : V) (m : Mem) : Prop := u = C.ans ∧ oldOk m 0 C.old ∧ newOk m C.new
theorem zHo {m : Mem} : ∀ {l : List zAe} {i : Nat}, oldOk m i l → ∀ (c : Nat) (o : zAe), l[c]? = some o → m.get (i + c) = some o
 | u :: l, i, h, 0, o, e => by simp at e; subst e; exact h.1
 | u :: l, i, h, c + 1, o, e => by
  have := zHo h.2 c o (by simpa using e)
  rwa [show i + 1 + c = i + (c + 1) by omega] at this
theorem zHr {m : Mem} : ∀ {l : List (Nat × zAe)}, newOk m l → ∀ x ∈ l, m.get x.1 = some x.2
 | (y, o) :: l, h, x, hx => by
  rcases List.mem_cons.1 hx with e | e
  ·subst e; exact h.1
  ·exact zHr h.2 x e
theorem conOk_of {R : Type} {A : Ans R} {H : R → Prop} {P : Program} (hA : Holds A H) (hmix : P.follows .mixedOrders = true) {n : Nat} {af : zAr} (hok : FOk P n af) {cfy : Ys R → CF R} (hcf : CFOk P cfy H) {C : Con} {K : V → Mem → R} (hK : ∀ u m, H (K u m) → zCi C u m)
  (hw : H (zAD A cfy Ys.none af C.args (zB1 C.pre) K)) : zAq P n C := by
 intro ρ w args' hρ hm ha
 obtain ⟨fn, h3, h4, _⟩ := hok
 refine (zEJ (A := A) (H := H) hA hcf hmix h3 h4 (Y := Ys.none) (ρ := ρ) YOk.none hm ha hw).mono fun e w' he => ?_
 cases e with
 | panicked c => exact he.elim
 | outgrown => exact he.elim
 | returned v' =>
  obtain ⟨ρ', u, m', g1, g2, g3, g4⟩ := he
  obtain ⟨rfl, g6, g7⟩ := hK u m' g4
  exact ⟨ρ', m', v', rfl, g2, g3, g1, fun c o h => by have := zHo g6 c o h; rwa [Nat.zero_add] at this, zHr g7⟩
theorem zAl {P : Program} (hmix : P.follows .mixedOrders = true) {n : Nat} {af : zAr} (hok : FOk P n af) {cfy : Ys Prop → CF Prop} (hcf : CFOk P cfy id) {C : Con} (hw : zAD pA cfy Ys.none af C.args (zB1 C.pre) (zCi C)) : zAq P n C :=
 conOk_of (A := pA) (H := id) zAX hmix hok hcf (K := zCi C) (fun _ _ h => h) hw
end Go.AM
