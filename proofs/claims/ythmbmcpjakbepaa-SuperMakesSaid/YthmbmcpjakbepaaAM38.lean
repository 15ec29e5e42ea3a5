/- An abstract machine: an addition. No condition. -/
import Derived.Test.YthmbmcpjakbepaaAM37
import Derived.Test.YthmbmcpjakbepaaAMb
namespace Go.AM
open Go
mutual
def V.ren (σ : Nat → Nat) : V → V
 | .ptr b o => .ptr (σ b) o
 | .slice b o l c s => .slice (σ b) o l c s
 | .map b => .map (σ b)
 | .yield b => .yield (σ b)
 | .func f a b => .func f (rens σ a) (rens σ b)
 | .iface t v => .iface t (v.ren σ)
 | .agg l => .agg (rens σ l)
 | .tuple l => .tuple (rens σ l)
 | .bool b => .bool b
 | .int k n => .int k n
 | .str s => .str s
 | .nilptr => .nilptr
 | .nilslice => .nilslice
 | .nilmap => .nilmap
 | .nilfunc => .nilfunc
 | .niliface => .niliface
 | .any => .any
def rens (σ : Nat → Nat) : List V → List V
 | [] => []
 | v :: l => v.ren σ :: rens σ l
end
mutual
def V.bel (p : Nat → Bool) : V → Bool
 | .ptr b _ => p b
 | .slice b _ _ _ _ => p b
 | .map b => p b
 | .yield b => p b
 | .func _ a b => bels p a && bels p b
 | .iface _ v => v.bel p
 | .agg l => bels p l
 | .tuple l => bels p l
 | _ => true
def bels (p : Nat → Bool) : List V → Bool
 | [] => true
 | v :: l => v.bel p && bels p l
end
section
variable {ρ₀ ρ : Ren} {σ : Nat → Nat} {p : Nat → Bool}
mutual
theorem VR.fwd (h : ∀ c i, p c = true → ρ₀ c = some i → ρ (σ c) = some i) : ∀ {v : V} {v' : Value}, VR ρ₀ v v' → v.bel p = true → VR ρ (v.ren σ) v'
 | _, _, .bool b, _ => .bool b
 | _, _, .int k n, _ => .int k n
 | _, _, .str s, _ => .str s
 | _, _, .ptr hb, hp => .ptr (h _ _ hp hb)
 | _, _, .nilptr, _ => .nilptr
 | _, _, .slice hb h1 h2 h3 h4, hp => .slice (h _ _ hp hb) h1 h2 h3 h4
 | _, _, .nilslice, _ => .nilslice
 | _, _, .map hb, hp => .map (h _ _ hp hb)
 | _, _, .nilmap, _ => .nilmap
 | _, _, .func ha hb, hp => by
  simp only [V.bel, Bool.and_eq_true] at hp
  exact .func (VRs.fwd h ha hp.1) (VRs.fwd h hb hp.2)
 | _, _, .nilfunc, _ => .nilfunc
 | _, _, .yield hb, hp => .yield (h _ _ hp hb)
 | _, _, .iface hv, hp => .iface (VR.fwd h hv hp)
 | _, _, .niliface, _ => .niliface
 | _, _, .agg hc, hp => .agg (VRs.fwd h hc hp)
 | _, _, .tuple hc, hp => .tuple (VRs.fwd h hc hp)
 | _, _, .unk h, _ => .unk h
theorem VRs.fwd (h : ∀ c i, p c = true → ρ₀ c = some i → ρ (σ c) = some i) : ∀ {l : List V} {l' : List Value}, VRs ρ₀ l l' → bels p l = true → VRs ρ (rens σ l) l'
 | _, _, .nil, _ => .nil
 | _, _, .cons hv hl, hp => by
  simp only [bels, Bool.and_eq_true] at hp
  exact .cons (VR.fwd h hv hp.1) (VRs.fwd h hl hp.2)
end
mutual
theorem VR.bwd (h : ∀ c i, p c = true → ρ (σ c) = some i → ρ₀ c = some i) : ∀ (v : V) {v' : Value}, VR ρ (v.ren σ) v' → v.bel p = true → VR ρ₀ v v'
 | .bool _, _, hv, _ => by cases hv; exact .bool _
 | .int _ _, _, hv, _ => by cases hv; exact .int _ _
 | .str _, _, hv, _ => by cases hv; exact .str _
 | .ptr _ _, _, hv, hp => by cases hv with | ptr hb => exact .ptr (h _ _ hp hb)
 | .nilptr, _, hv, _ => by cases hv; exact .nilptr
 | .slice _ _ _ _ _, _, hv, hp => by cases hv with | slice hb h1 h2 h3 h4 => exact .slice (h _ _ hp hb) h1 h2 h3 h4
 | .nilslice, _, hv, _ => by cases hv; exact .nilslice
 | .map _, _, hv, hp => by cases hv with | map hb => exact .map (h _ _ hp hb)
 | .nilmap, _, hv, _ => by cases hv; exact .nilmap
 | .func _ a b, _, hv, hp => by
  simp only [V.bel, Bool.and_eq_true] at hp
  cases hv with | func ha hb => exact .func (VRs.bwd h a ha hp.1) (VRs.bwd h b hb hp.2)
 | .nilfunc, _, hv, _ => by cases hv; exact .nilfunc
 | .yield _, _, hv, hp => by cases hv with | yield hb => exact .yield (h _ _ hp hb)
 | .iface _ v, _, hv, hp => by cases hv with | iface hv => exact .iface (VR.bwd h v hv hp)
 | .niliface, _, hv, _ => by cases hv; exact .niliface
 | .agg l, _, hv, hp => by cases hv with | agg hc => exact .agg (VRs.bwd h l hc hp)
 | .tuple l, _, hv, hp => by cases hv with | tuple hc => exact .tuple (VRs.bwd h l hc hp)
 | .any, _, h, _ => by cases h with | unk h => exact .unk h
theorem VRs.bwd (h : ∀ c i, p c = true → ρ (σ c) = some i → ρ₀ c = some i) : ∀ (l : List V) {l' : List Value}, VRs ρ (rens σ l) l' → bels p l = true → VRs ρ₀ l l'
 | [], _, hv, _ => by cases hv; exact .nil
 | v :: l, _, hv, hp => by
  simp only [bels, Bool.and_eq_true] at hp
  cases hv with | cons h1 h2 => exact .cons (VR.bwd h v h1 hp.1) (VRs.bwd h l h2 hp.2)
end
end
theorem rens_get (σ : Nat → Nat) : ∀ (l : List V) (k : Nat), (rens σ l)[k]? = (l[k]?).map (V.ren σ)
 | [], k => by simp [rens]
 | v :: l, 0 => by simp [rens]
 | v :: l, k + 1 => by simpa [rens] using rens_get σ l k
theorem bels_get {p : Nat → Bool} : ∀ {l : List V} {k : Nat} {v : V}, bels p l = true → l[k]? = some v → v.bel p = true
 | v :: l, 0, u, h, e => by simp only [bels, Bool.and_eq_true] at h; simp at e; subst e; exact h.1
 | v :: l, k + 1, u, h, e => by simp only [bels, Bool.and_eq_true] at h; exact bels_get h.2 (by simpa using e)
def erens (σ : Nat → Nat) : List (V × V × Nat) → List (V × V × Nat)
 | [] => []
 | (k, v, n) :: l => (k.ren σ, v.ren σ, n) :: erens σ l
def ebels (p : Nat → Bool) : List (V × V × Nat) → Bool
 | [] => true
 | (k, v, _) :: l => k.bel p && v.bel p && ebels p l
def AObj.ren (σ : Nat → Nat) : AObj → AObj
 | .cells cs ro => .cells (rens σ cs) ro
 | .map es c ro => .map (erens σ es) c ro
 | _ => .dead
def AObj.bel (p : Nat → Bool) : AObj → Bool
 | .cells cs _ => bels p cs
 | .map es _ _ => ebels p es
 | .dead => true
 | _ => false
theorem AObj.ren_wr {σ : Nat → Nat} {p : Nat → Bool} {o : AObj} (h : o.bel p = true) : (o.ren σ).wr = o.wr := by
 cases o <;> first | rfl | (simp [AObj.bel] at h)
theorem AObj.ren_live {σ : Nat → Nat} {p : Nat → Bool} {o : AObj} (h : o.bel p = true) : (o.ren σ).live = o.live := by
 cases o <;> first | rfl | (simp [AObj.bel] at h)
section
variable {ρ₀ ρ : Ren} {σ : Nat → Nat} {p : Nat → Bool}
theorem ERs.fwd (h : ∀ c i, p c = true → ρ₀ c = some i → ρ (σ c) = some i) : ∀ {l : List (V × V × Nat)} {l' : List MapEntry}, ERs ρ₀ l l' → ebels p l = true → ERs ρ (erens σ l) l'
 | _, _, .nil, _ => .nil
 | _, _, .cons a b c, hp => by
  simp only [ebels, Bool.and_eq_true] at hp
  exact .cons (a.fwd h hp.1.1) (b.fwd h hp.1.2) (c.fwd h hp.2)
theorem ERs.bwd (h : ∀ c i, p c = true → ρ (σ c) = some i → ρ₀ c = some i) : ∀ (l : List (V × V × Nat)) {l' : List MapEntry}, ERs ρ (erens σ l) l' → ebels p l = true → ERs ρ₀ l l'
 | [], _, hv, _ => by cases hv; exact .nil
 | (k, v, n) :: l, _, hv, hp => by
  simp only [ebels, Bool.and_eq_true] at hp
  cases hv with | cons a b c => exact .cons (VR.bwd h k a hp.1.1) (VR.bwd h v b hp.1.2) (ERs.bwd h l c hp.2)
theorem OR.fwd (h : ∀ c i, p c = true → ρ₀ c = some i → ρ (σ c) = some i) {w : World} {i : Img} {o : AObj} (ho : OR ρ₀ w i o) (hp : o.bel p = true) : OR ρ w i (o.ren σ) := by
 cases o with
 | cells cs ro =>
  obtain ⟨cs', ty, lo, hi, h1, h2, h3, h4⟩ := ho
  refine ⟨cs', ty, lo, hi, h1, h2, fun k v hk => ?_, h4⟩
  rw [rens_get] at hk
  cases e : cs[k]? with
  | none => rw [e] at hk; cases hk
  | some u =>
   rw [e] at hk; cases hk
   obtain ⟨v', e1, e2⟩ := h3 k u e
   exact ⟨v', e1, e2.fwd h (bels_get hp e)⟩
 | map es c ro =>
  obtain ⟨es', h1, h2⟩ := ho
  exact ⟨es', h1, h2.fwd h hp⟩
 | iter _ _ _ _ => cases hp
 | loop _ _ => cases hp
 | dead => trivial
theorem OR.bwd (h : ∀ c i, p c = true → ρ (σ c) = some i → ρ₀ c = some i) {w : World} {i : Img} {o : AObj} (ho : OR ρ w i (o.ren σ)) (hp : o.bel p = true) : OR ρ₀ w i o := by
 cases o with
 | cells cs ro =>
  obtain ⟨cs', ty, lo, hi, h1, h2, h3, h4⟩ := ho
  refine ⟨cs', ty, lo, hi, h1, h2, fun k v hk => ?_, h4⟩
  obtain ⟨v', e1, e2⟩ := h3 k (v.ren σ) (by rw [rens_get, hk]; rfl)
  exact ⟨v', e1, VR.bwd h v e2 (bels_get hp hk)⟩
 | map es c ro =>
  obtain ⟨es', h1, h2⟩ := ho
  exact ⟨es', h1, ERs.bwd h es h2 hp⟩
 | iter _ _ _ _ => cases hp
 | loop _ _ => cases hp
 | dead => trivial
end
structure Con where
 args : List V
 pre : List AObj
 ans : V
 old : List AObj
 new : List (Nat × AObj)
def treeO : Nat → List AObj → Tree → Tree
 | _, [], t => t
 | i, o :: l, t => treeO (i + 1) l (t.set o i)
def memO (l : List AObj) : Mem := ⟨l.length, treeO 0 l .leaf⟩
theorem treeO_get : ∀ (l : List AObj) (i : Nat) (t : Tree) (c : Nat), (treeO i l t).get c = if i ≤ c ∧ c < i + l.length then l[c - i]? else t.get c
 | [], i, t, c => by
  rw [if_neg (by simp only [List.length_nil]; omega)]; rfl
 | o :: l, i, t, c => by
  simp only [treeO]
  rw [treeO_get l (i + 1) (t.set o i) c, Tree.get_set]
  by_cases h1 : i + 1 ≤ c ∧ c < i + 1 + l.length
  ·rw [if_pos h1, if_pos (by simp only [List.length_cons]; omega), show c - i = c - (i + 1) + 1 by omega]
   simp
  ·rw [if_neg h1]
   by_cases h2 : c = i
   ·subst h2
    rw [if_pos rfl, if_pos (by simp only [List.length_cons]; omega)]
    simp
   ·rw [if_neg h2, if_neg (by simp only [List.length_cons]; omega)]
theorem memO_get (l : List AObj) (c : Nat) : (memO l).get c = l[c]? := by
 unfold memO Mem.get
 rw [treeO_get]
 by_cases h : c < l.length
 ·rw [if_pos (by omega)]; simp
 ·rw [if_neg (by omega), List.getElem?_eq_none (by omega)]; rfl
def posN (c : Nat) : List (Nat × AObj) → Nat
 | [] => 0
 | (x, _) :: l => bif Nat.beq x c then 0 else posN c l + 1
def hasN (c : Nat) : List (Nat × AObj) → Bool
 | [] => false
 | (x, _) :: l => Nat.beq x c || hasN c l
def nodupN : List (Nat × AObj) → Bool
 | [] => true
 | (x, _) :: l => !hasN x l && nodupN l
theorem posN_get {c : Nat} : ∀ {l : List (Nat × AObj)}, hasN c l = true → ∃ o, l[posN c l]? = some (c, o)
 | (x, o) :: l, h => by
  by_cases e : x = c
  ·subst e; simp only [posN, Nat.beq_refl, cond_true]; exact ⟨o, rfl⟩
  ·simp only [hasN, nbeqF e, Bool.false_or] at h
   simp only [posN, nbeqF e, cond_false]
   obtain ⟨o', h'⟩ := posN_get h
   exact ⟨o', by simpa using h'⟩
theorem hasN_of_get {c : Nat} {o : AObj} : ∀ {l : List (Nat × AObj)} {j : Nat}, l[j]? = some (c, o) → hasN c l = true
 | (x, u) :: l, 0, h => by simp at h; simp [hasN, h.1]
 | (x, u) :: l, j + 1, h => by simp only [hasN]; rw [hasN_of_get (by simpa using h), Bool.or_true]
theorem posN_of_get {c : Nat} {o : AObj} : ∀ {l : List (Nat × AObj)} {j : Nat}, nodupN l = true → l[j]? = some (c, o) → posN c l = j
 | (x, u) :: l, 0, _, h => by simp at h; simp [posN, h.1]
 | (x, u) :: l, j + 1, hd, h => by
  simp only [nodupN, Bool.and_eq_true, Bool.not_eq_true'] at hd
  have h' : l[j]? = some (c, o) := by simpa using h
  have hc := hasN_of_get h'
  have e : x ≠ c := fun e => by subst e; rw [hc] at hd; exact absurd hd.1 (by simp)
  simp only [posN, nbeqF e, cond_false, posN_of_get hd.2 h']
section
variable (C : Con) (σ : Nat → Nat)
def Con.tau (n : Nat) (c : Nat) : Nat := bif Nat.blt c C.pre.length then σ c else n + posN c C.new
def setAll (σ τ : Nat → Nat) : Nat → List AObj → Mem → Mem
 | _, [], m => m
 | i, o :: l, m => setAll σ τ (i + 1) l (m.set (σ i) (o.ren τ))
def newAll (τ : Nat → Nat) : List (Nat × AObj) → Mem → Mem
 | [], m => m
 | (_, o) :: l, m => newAll τ l (m.new (o.ren τ))
def Con.mem (m : Mem) : Mem := newAll (C.tau σ m.next) C.new (setAll σ (C.tau σ m.next) 0 C.old m)
def Con.p0 (c : Nat) : Bool := Nat.blt c C.pre.length
def Con.p1 (c : Nat) : Bool := Nat.blt c C.pre.length || hasN c C.new
def Con.wf : Bool := bels C.p0 C.args && C.pre.all (fun o => o.bel C.p0 && o.live) && C.ans.bel C.p1 && C.old.all (fun o => o.bel C.p1) && C.new.all (fun x => x.2.bel C.p1 && x.2.wr && Nat.ble C.pre.length x.1) && nodupN C.new && Nat.beq C.old.length C.pre.length
end
theorem setAll_next (σ τ : Nat → Nat) : ∀ (l : List AObj) (i : Nat) (m : Mem), (setAll σ τ i l m).next = m.next
 | [], _, _ => rfl
 | o :: l, i, m => by simp only [setAll]; rw [setAll_next σ τ l]; rfl
theorem setAll_miss (σ τ : Nat → Nat) {b : Nat} : ∀ (l : List AObj) (i : Nat) (m : Mem), (∀ j, j < l.length → b ≠ σ (i + j)) → (setAll σ τ i l m).get b = m.get b
 | [], _, _, _ => rfl
 | o :: l, i, m, h => by
  simp only [setAll]
  rw [setAll_miss σ τ l (i + 1) _ fun j hj => by have := h (j + 1) (by simp; omega); rwa [show i + (j + 1) = i + 1 + j by omega] at this]
  have h0 := h 0 (by simp)
  rw [Nat.add_zero] at h0
  rw [Mem.get_set, if_neg h0]
theorem setAll_hit (σ τ : Nat → Nat) : ∀ (l : List AObj) (i : Nat) (m : Mem), (∀ a b, a < i + l.length → b < i + l.length → σ a = σ b → a = b) → ∀ (j : Nat) (o : AObj), l[j]? = some o → (setAll σ τ i l m).get (σ (i + j)) = some (o.ren τ)
 | [], _, _, _, j, o, h => by simp at h
 | u :: l, i, m, hi, 0, o, h => by
  simp at h; subst h
  show (setAll σ τ (i + 1) l (m.set (σ i) (u.ren τ))).get (σ i) = _
  rw [setAll_miss σ τ l (i + 1) _ fun j hj he => ?_, Mem.get_set, if_pos rfl]
  have := hi i (i + 1 + j) (by simp) (by simp only [List.length_cons]; omega) he
  omega
 | u :: l, i, m, hi, j + 1, o, h => by
  simp only [setAll]
  have := setAll_hit σ τ l (i + 1) (m.set (σ i) (u.ren τ)) (fun a b ha hb => hi a b (by simp; omega) (by simp; omega)) j o (by simpa using h)
  rwa [show i + 1 + j = i + (j + 1) by omega] at this
theorem newAll_next (τ : Nat → Nat) : ∀ (l : List (Nat × AObj)) (m : Mem), (newAll τ l m).next = m.next + l.length
 | [], _ => rfl
 | (_, o) :: l, m => by simp only [newAll]; rw [newAll_next τ l]; simp; omega
theorem newAll_old (τ : Nat → Nat) {b : Nat} : ∀ (l : List (Nat × AObj)) (m : Mem), b < m.next → (newAll τ l m).get b = m.get b
 | [], _, _ => rfl
 | (_, o) :: l, m, h => by
  simp only [newAll]
  rw [newAll_old τ l _ (by simp; omega), Mem.get_new, if_neg (by omega)]
theorem newAll_hit (τ : Nat → Nat) : ∀ (l : List (Nat × AObj)) (m : Mem) (j c : Nat) (o : AObj), l[j]? = some (c, o) → (newAll τ l m).get (m.next + j) = some (o.ren τ)
 | [], _, _, _, _, h => by simp at h
 | (x, u) :: l, m, 0, c, o, h => by
  simp at h
  obtain ⟨rfl, rfl⟩ := h
  simp only [newAll]
  rw [newAll_old τ l _ (by simp), Mem.get_new, if_pos (by omega)]
 | (x, u) :: l, m, j + 1, c, o, h => by
  simp only [newAll]
  have := newAll_hit τ l (m.new (u.ren τ)) j c o (by simpa using h)
  rwa [Mem.next_new, show m.next + 1 + j = m.next + (j + 1) by omega] at this
def ConOk (P : Program) (n : Nat) (C : Con) : Prop := ∀ (ρ : Ren) (w : World) (args' : List Value), (∀ c i, ρ c = some i → c < C.pre.length) → MR ρ (memO C.pre) w → VRs ρ C.args args' →
 Calls P n ⟨args'⟩ w fun e w' => ∃ (ρ' : Ren) (m' : Mem) (v' : Value), e = .returned v' ∧ MR ρ' m' w' ∧ Ext ρ (memO C.pre) w ρ' m' w' ∧ VR ρ' C.ans v' ∧ (∀ c o, C.old[c]? = some o → m'.get c = some o) ∧ ∀ x ∈ C.new, m'.get x.1 = some x.2
def ConQOk (P : Program) (n : Nat) (F : Con → Prop) : Prop := ∀ C₀, F C₀ → ∀ (ρ : Ren) (w : World) (args' : List Value), (∀ c i, ρ c = some i → c < C₀.pre.length) → MR ρ (memO C₀.pre) w → VRs ρ C₀.args args' →
 Calls P n ⟨args'⟩ w fun e w' => ∃ C, F C ∧ ∃ (ρ' : Ren) (m' : Mem) (v' : Value), e = .returned v' ∧ MR ρ' m' w' ∧ Ext ρ (memO C₀.pre) w ρ' m' w' ∧ VR ρ' C.ans v' ∧ (∀ c o, C.old[c]? = some o → m'.get c = some o) ∧ ∀ x ∈ C.new, m'.get x.1 = some x.2
theorem con_useQ {P : Program} {n : Nat} {F : Con → Prop} {C₀ : Con} (h0 : F C₀) (hC : ConQOk P n F) (hwf : ∀ C, F C → C.wf = true) (hpr : ∀ C, F C → C.pre = C₀.pre) {ρ : Ren} {m : Mem} {w : World} (hm : MR ρ m w) {σ : Nat → Nat} (hinj : ∀ a b, a < C₀.pre.length → b < C₀.pre.length → σ a = σ b → a = b)
  (hpre : ∀ c o, C₀.pre[c]? = some o → m.get (σ c) = some (o.ren σ)) {args' : List Value} (ha : VRs ρ (rens σ C₀.args) args') :
  Calls P n ⟨args'⟩ w fun e w' => ∃ C, F C ∧ ∃ (ρ' : Ren) (v' : Value), e = .returned v' ∧ VR ρ' (C.ans.ren (C.tau σ m.next)) v' ∧ MR ρ' (C.mem σ m) w' ∧ Ext ρ m w ρ' (C.mem σ m) w' := by
 have hwf0 := hwf C₀ h0
 simp only [Con.wf, Bool.and_eq_true, List.all_eq_true] at hwf0
 obtain ⟨⟨⟨⟨⟨⟨f1, f2⟩, -⟩, -⟩, -⟩, -⟩, -⟩ := hwf0
 generalize hk : C₀.pre.length = k at *
 let ρ₀ : Ren := fun c => if c < k then ρ (σ c) else none
 have r0 : ∀ c i, ρ₀ c = some i → c < k ∧ ρ (σ c) = some i := by
  intro c i h
  simp only [ρ₀] at h
  split at h
  ·exact ⟨by assumption, h⟩
  ·cases h
 have r1 : ∀ c i, c < k → ρ (σ c) = some i → ρ₀ c = some i := by
  intro c i h1 h2
  simp only [ρ₀]
  rw [if_pos h1]; exact h2
 have p0k : ∀ c, C₀.p0 c = true → c < k := by
  intro c h
  unfold Con.p0 at h
  rw [hk] at h
  exact nblt_iff.1 h
 have preO : ∀ c o, C₀.pre[c]? = some o → o.bel C₀.p0 = true ∧ o.live = true ∧ c < k := by
  intro c o h
  have := f2 o (List.mem_of_getElem? h)
  refine ⟨this.1, this.2, ?_⟩
  rw [← hk]
  exact (List.getElem?_eq_some_iff.1 h).1
 have bwd : ∀ c i, C₀.p0 c = true → ρ (σ c) = some i → ρ₀ c = some i := fun c i h1 h2 => r1 c i (p0k c h1) h2
 have hm0 : MR ρ₀ (memO C₀.pre) w := by
  refine ⟨fun c i h => ?_, fun c i o h ho => ?_, fun b c i j o u hb hc hij ho hw hu hl => ?_⟩
  ·obtain ⟨h1, h2⟩ := r0 c i h
   exact ⟨by show c < C₀.pre.length; omega, (hm.lt _ _ h2).2⟩
  ·rw [memO_get] at ho
   obtain ⟨h1, h2⟩ := r0 c i h
   exact (hm.obj _ _ _ h2 (hpre c o ho)).bwd bwd (preO c o ho).1
  ·rw [memO_get] at ho hu
   obtain ⟨h1, h2⟩ := r0 b i hb
   obtain ⟨h3, h4⟩ := r0 c j hc
   refine hinj b c h1 h3 (hm.inj _ _ _ _ _ _ h2 h4 hij (hpre b o ho) ?_ (hpre c u hu) ?_)
   ·rw [AObj.ren_wr (preO b o ho).1]; exact hw
   ·rw [AObj.ren_live (preO c u hu).1]; exact hl
 refine (hC C₀ h0 ρ₀ w args' (fun c i h => by rw [hk]; exact (r0 c i h).1) hm0 (VRs.bwd bwd C₀.args ha f1)).mono fun e w' ⟨C, hF, ρ', m', v', he, hm', hx, hv, hold, hnew⟩ => ?_
 have hpe := hpr C hF
 have hwf1 := hwf C hF
 simp only [Con.wf, Bool.and_eq_true, List.all_eq_true] at hwf1
 obtain ⟨⟨⟨⟨⟨-, f3⟩, f4⟩, f5⟩, f6⟩, f7⟩ := hwf1
 have f7 := Nat.eq_of_beq_eq_true f7
 have e0 : C.p0 = C₀.p0 := by funext c; unfold Con.p0; rw [hpe]
 rw [← hpe] at hk hx
 have hpre : ∀ c o, C.pre[c]? = some o → m.get (σ c) = some (o.ren σ) := by rw [hpe]; exact hpre
 have preO : ∀ c o, C.pre[c]? = some o → o.bel C.p0 = true ∧ o.live = true ∧ c < k := by rw [hpe, e0]; exact preO
 rw [hk] at f5 f7
 let τ := C.tau σ m.next
 let ρ₁ : Ren := fun b => if b < m.next then ρ b else match C.new[b - m.next]? with | some x => ρ' x.1 | none => none
 have q0 : ∀ b, b < m.next → ρ₁ b = ρ b := fun b h => by simp only [ρ₁]; rw [if_pos h]
 have hle : ρ.le ρ₁ := fun b i h => by rw [q0 b (hm.lt b i h).1]; exact h
 have tk : ∀ c, c < k → τ c = σ c := fun c h => by
  show (bif Nat.blt c C.pre.length then σ c else _) = _
  rw [hk, nbltT h, cond_true]
 have tn : ∀ (j c : Nat) (o : AObj), C.new[j]? = some (c, o) → τ c = m.next + j := fun j c o h => by
  have h1 := (f5 (c, o) (List.mem_of_getElem? h)).2
  have h2 : k ≤ c := nble_iff.1 h1
  show (bif Nat.blt c C.pre.length then σ c else _) = _
  rw [hk, nbltF (by omega), cond_false, posN_of_get f6 h]
 have fwd : ∀ c i, C.p1 c = true → ρ' c = some i → ρ₁ (τ c) = some i := by
  intro c i hp h
  by_cases hc : c < k
  ·rw [tk c hc]
   rcases hx.fresh c i h with h1 | h1
   ·have h2 := (r0 c i h1).2
    rw [q0 _ (hm.lt _ _ h2).1]; exact h2
   ·have : C.pre.length ≤ c := h1
    omega
  ·unfold Con.p1 at hp
   rw [hk, nbltF hc, Bool.false_or] at hp
   obtain ⟨o, ho⟩ := posN_get hp
   rw [tn _ _ _ ho]
   simp only [ρ₁]
   rw [if_neg (by omega), show m.next + posN c C.new - m.next = posN c C.new by omega, ho]
   exact h
 have gOld : ∀ c, c < k → σ c < m.next → ∃ o, C.old[c]? = some o ∧ (C.mem σ m).get (σ c) = some (o.ren τ) := by
  intro c hc hs
  have hl : c < C.old.length := by omega
  refine ⟨C.old[c], List.getElem?_eq_getElem hl, ?_⟩
  unfold Con.mem
  rw [newAll_old _ _ _ (by rw [setAll_next]; exact hs)]
  have := setAll_hit σ τ C.old 0 m (fun a b h1 h2 => hinj a b (by omega) (by omega)) c _ (List.getElem?_eq_getElem hl)
  rwa [Nat.zero_add] at this
 have gMiss : ∀ b, b < m.next → (∀ c, c < k → b ≠ σ c) → (C.mem σ m).get b = m.get b := by
  intro b hb hc
  unfold Con.mem
  rw [newAll_old _ _ _ (by rw [setAll_next]; exact hb), setAll_miss _ _ _ _ _ fun j hj => by rw [Nat.zero_add]; exact hc j (by omega)]
 have gNew : ∀ (j c : Nat) (o : AObj), C.new[j]? = some (c, o) → (C.mem σ m).get (m.next + j) = some (o.ren τ) := by
  intro j c o h
  unfold Con.mem
  have := newAll_hit τ C.new (setAll σ τ 0 C.old m) j c o h
  rwa [setAll_next] at this
 have oldBel : ∀ (c : Nat) (o : AObj), C.old[c]? = some o → o.bel C.p1 = true := fun c o h => f4 o (List.mem_of_getElem? h)
 have kind : ∀ b i o, ρ₁ b = some i → (C.mem σ m).get b = some o → (ρ b = some i ∧ m.get b = some o ∧ ∀ c, c < k → b ≠ σ c) ∨
   ∃ X u, ρ' X = some i ∧ m'.get X = some u ∧ u.bel C.p1 = true ∧ o = u.ren τ ∧ b = τ X ∧ ((X < k ∧ ρ (σ X) = some i ∧ b = σ X) ∨ u.wr = true) := by
  intro b i o h1 h2
  by_cases hb : b < m.next
  ·rw [q0 b hb] at h1
   by_cases hc : ∃ c, c < k ∧ b = σ c
   ·obtain ⟨c, hc, rfl⟩ := hc
    obtain ⟨u, hu, hg⟩ := gOld c hc hb
    rw [hg] at h2
    cases h2
    exact .inr ⟨c, u, hx.ren _ _ (r1 c i hc h1), hold c u hu, oldBel c u hu, rfl, (tk c hc).symm, .inl ⟨hc, h1, rfl⟩⟩
   ·have hc' : ∀ c, c < k → b ≠ σ c := fun c h e => hc ⟨c, h, e⟩
    rw [gMiss b hb hc'] at h2
    exact .inl ⟨h1, h2, hc'⟩
  ·simp only [ρ₁] at h1
   rw [if_neg hb] at h1
   cases e : C.new[b - m.next]? with
   | none => rw [e] at h1; cases h1
   | some x =>
    obtain ⟨c, u⟩ := x
    rw [e] at h1
    have hg := gNew _ c u e
    rw [show m.next + (b - m.next) = b by omega] at hg
    rw [hg] at h2
    cases h2
    have h5 := f5 (c, u) (List.mem_of_getElem? e)
    exact .inr ⟨c, u, h1, hnew (c, u) (List.mem_of_getElem? e), h5.1.1, rfl, by rw [tn _ _ _ e]; omega, .inr h5.1.2⟩
 have wr_old : ∀ X i u, ρ' X = some i → m'.get X = some u → u.wr = true → i.b < w.heap.size → ∃ d j o, d < k ∧ ρ (σ d) = some j ∧ j.b = i.b ∧ C.pre[d]? = some o ∧ o.wr = true := by
  intro X i u h1 h2 h3 h4
  obtain ⟨d, j, o, e1, e2, e3, e4⟩ := hx.old X i u h1 h2 h3 h4
  rw [memO_get] at e3
  obtain ⟨e5, e6⟩ := r0 d j e1
  exact ⟨d, j, o, e5, e6, e2, e3, e4⟩
 refine ⟨C, hF, ρ₁, v', he, hv.fwd fwd f3, ⟨fun b i h => ?_, fun b i o h ho => ?_, fun b c i j o u hb hc hij ho hw hu hl => ?_⟩, ⟨hle, hx.size, ?_, fun b i h => ?_, fun q hq hro => ?_, fun b i o h ho hw hlt => ?_, hx.mute⟩⟩
 ·have hn : (C.mem σ m).next = m.next + C.new.length := by unfold Con.mem; rw [newAll_next, setAll_next]
  by_cases hb : b < m.next
  ·rw [q0 b hb] at h
   have := hm.lt b i h
   have := hx.size
   omega
  ·simp only [ρ₁] at h
   rw [if_neg hb] at h
   cases e : C.new[b - m.next]? with
   | none => rw [e] at h; cases h
   | some x =>
    rw [e] at h
    have h1 := (List.getElem?_eq_some_iff.1 e).1
    exact ⟨by omega, (hm'.lt _ _ h).2⟩
 ·rcases kind b i o h ho with ⟨h1, h2, h3⟩ | ⟨X, u, h1, h2, h3, rfl, h5, _⟩
  ·cases hl : o.live with
   | false => cases o <;> first | trivial | cases hl
   | true =>
    refine (hm.obj b i o h1 h2).mono hle (hx.keep i.b (hm.lt b i h1).2 fun c j u hc hj hu => ?_)
    rw [memO_get] at hu
    obtain ⟨c1, c2⟩ := r0 c j hc
    cases hw : u.wr with
    | false => rfl
    | true =>
     have := hm.inj (σ c) b j i (u.ren σ) o c2 h1 hj (hpre c u hu) (by rw [AObj.ren_wr (preO c u hu).1]; exact hw) h2 hl
     exact absurd this.symm (h3 c c1)
  ·exact (hm'.obj X i u h1 h2).fwd fwd h3
 ·rcases kind b i o hb ho with ⟨h1, h2, h3⟩ | ⟨X, x, h1, h2, h3, rfl, h5, h6⟩
  ·rcases kind c j u hc hu with ⟨g1, g2, g3⟩ | ⟨Z, z, g1, g2, g3, rfl, g5, g6⟩
   ·exact hm.inj b c i j o u h1 g1 hij h2 hw g2 hl
   ·rcases g6 with ⟨g7, g8, g9⟩ | g7
    ·have hp : ∃ po, C.pre[Z]? = some po := ⟨C.pre[Z]'(by omega), List.getElem?_eq_getElem _⟩
     obtain ⟨po, hpo⟩ := hp
     have := hm.inj b (σ Z) i j o (po.ren σ) h1 g8 hij h2 hw (hpre Z po hpo) (by rw [AObj.ren_live (preO Z po hpo).1]; exact (preO Z po hpo).2.1)
     exact absurd this (h3 Z g7)
    ·obtain ⟨d, jj, po, e1, e2, e3, e4, e5⟩ := wr_old Z j z g1 g2 g7 (by rw [← hij]; exact (hm.lt b i h1).2)
     have := hm.inj b (σ d) i jj o (po.ren σ) h1 e2 (by rw [hij, e3]) h2 hw (hpre d po e4) (by rw [AObj.ren_live (preO d po e4).1]; exact (preO d po e4).2.1)
     exact absurd this (h3 d e1)
  ·have hxw : x.wr = true := by rw [AObj.ren_wr h3] at hw; exact hw
   rcases kind c j u hc hu with ⟨g1, g2, g3⟩ | ⟨Z, z, g1, g2, g3, rfl, g5, g6⟩
   ·obtain ⟨d, jj, po, e1, e2, e3, e4, e5⟩ := wr_old X i x h1 h2 hxw (by rw [hij]; exact (hm.lt c j g1).2)
    have := hm.inj (σ d) c jj j (po.ren σ) u e2 g1 (by rw [e3, hij]) (hpre d po e4) (by rw [AObj.ren_wr (preO d po e4).1]; exact e5) g2 hl
    exact absurd this.symm (g3 d e1)
   ·have hzl : z.live = true := by rw [AObj.ren_live g3] at hl; exact hl
    have := hm'.inj X Z i j x z h1 g1 hij h2 hxw g2 hzl
    rw [h5, g5, this]
 ·unfold Con.mem; rw [newAll_next, setAll_next]; omega
 ·by_cases hb : b < m.next
  ·rw [q0 b hb] at h; exact .inl h
  ·exact .inr (by omega)
 ·refine hx.keep q hq fun c i o hc hi ho => ?_
  rw [memO_get] at ho
  obtain ⟨c1, c2⟩ := r0 c i hc
  have := hro (σ c) i (o.ren σ) c2 hi (hpre c o ho)
  rwa [AObj.ren_wr (preO c o ho).1] at this
 ·rcases kind b i o h ho with ⟨h1, h2, h3⟩ | ⟨X, u, h1, h2, h3, rfl, h5, _⟩
  ·exact ⟨b, i, o, h1, rfl, h2, hw⟩
  ·obtain ⟨d, jj, po, e1, e2, e3, e4, e5⟩ := wr_old X i u h1 h2 (by rw [AObj.ren_wr h3] at hw; exact hw) hlt
   exact ⟨σ d, jj, po.ren σ, e2, e3, hpre d po e4, by rw [AObj.ren_wr (preO d po e4).1]; exact e5⟩
theorem con_use {P : Program} {n : Nat} {C : Con} (hC : ConOk P n C) (hwf : C.wf = true) {ρ : Ren} {m : Mem} {w : World} (hm : MR ρ m w) {σ : Nat → Nat} (hinj : ∀ a b, a < C.pre.length → b < C.pre.length → σ a = σ b → a = b)
  (hpre : ∀ c o, C.pre[c]? = some o → m.get (σ c) = some (o.ren σ)) {args' : List Value} (ha : VRs ρ (rens σ C.args) args') :
  Calls P n ⟨args'⟩ w fun e w' => ∃ (ρ' : Ren) (v' : Value), e = .returned v' ∧ VR ρ' (C.ans.ren (C.tau σ m.next)) v' ∧ MR ρ' (C.mem σ m) w' ∧ Ext ρ m w ρ' (C.mem σ m) w' :=
 (con_useQ (F := fun X => X = C) rfl (fun C₀ e ρ w args' h1 h2 h3 => by subst e; exact (hC ρ w args' h1 h2 h3).mono fun e w' h => ⟨_, rfl, h⟩) (fun X e => by subst e; exact hwf) (fun X e => by subst e; rfl) hm hinj hpre ha).mono fun e w' h => by
  obtain ⟨X, rfl, h⟩ := h; exact h
structure ConAt (C : Con) (σ : Nat → Nat) (args : List V) (m : Mem) : Prop where
 wf : C.wf = true
 args : args = rens σ C.args
 inj : ∀ a b, a < C.pre.length → b < C.pre.length → σ a = σ b → a = b
 pre : ∀ c o, C.pre[c]? = some o → m.get (σ c) = some (o.ren σ)
def lastC (n : Nat) (S : Con → Prop) (last : CF Prop) : CF Prop := fun f args m K =>
 match f with
 | .func (.func g) [] [] => bif Nat.beq g n then ((∃ (C : Con) (σ : Nat → Nat), S C ∧ ConAt C σ args m ∧ K (C.ans.ren (C.tau σ m.next)) (C.mem σ m)) ∨ last (.func (.func g) [] []) args m K) else last (.func (.func g) [] []) args m K
 | f => last f args m K
theorem lastC_ok {P : Program} {n : Nat} (hcl : Callable P n) {S : Con → Prop} (hS : ∀ C, S C → C.wf = true → ConOk P n C) {last : CF Prop} (hl : LastOk P last id) : LastOk P (lastC n S last) id := by
 intro ρ₀ ρ m w f f' args args' K hle hm hf ha hH
 unfold lastC at hH
 split at hH
 ·rename_i g
  by_cases e : g = n
  ·subst e
   rw [nbeqT rfl, cond_true] at hH
   rcases hH with ⟨C, σ, h1, h2, h3⟩ | hH
   ·cases hf with | func e1 e2 =>
    cases e1; cases e2
    refine .inl ⟨g, _, callRun_of hcl _ _ w, ?_⟩
    rw [List.append_nil]
    rw [h2.args] at ha
    refine (con_use (hS C h1 h2.wf) h2.wf hm h2.inj h2.pre ha).mono fun e w' ⟨ρ', v', he, hv, hm', hx⟩ => ?_
    subst he
    exact ⟨ρ', _, _, hv, hm', hx, h3⟩
   ·exact hl ρ₀ ρ m w _ f' args args' K hle hm hf ha hH
  ·rw [nbeqF e, cond_false] at hH
   exact hl ρ₀ ρ m w _ f' args args' K hle hm hf ha hH
 ·exact hl ρ₀ ρ m w f f' args args' K hle hm hf ha hH
theorem conIn {n : Nat} {S : Con → Prop} {last : CF Prop} {C : Con} {σ : Nat → Nat} {args : List V} {m : Mem} {K : V → Mem → Prop} (hS : S C) (h : ConAt C σ args m) (hK : K (C.ans.ren (C.tau σ m.next)) (C.mem σ m)) : lastC n S last (.func (.func n) [] []) args m K := by
 unfold lastC
 simp only [Nat.beq_refl, cond_true]
 exact .inl ⟨C, σ, hS, h, hK⟩
theorem conMiss {n g : Nat} {S : Con → Prop} {last : CF Prop} {args : List V} {m : Mem} {K : V → Mem → Prop} (hg : Nat.beq g n = false) (h : last (.func (.func g) [] []) args m K) : lastC n S last (.func (.func g) [] []) args m K := by
 unfold lastC
 simp only [hg, cond_false]
 exact h
abbrev EnL := List (V × V × Nat)
def nthD : List Nat → Nat → Nat
 | [], _ => 0
 | x :: _, 0 => x
 | _ :: l, n + 1 => nthD l n
def inL (x : Nat) : List Nat → Bool
 | [] => false
 | y :: l => Nat.beq x y || inL x l
def nodupL : List Nat → Bool
 | [] => true
 | x :: l => !inL x l && nodupL l
def preOk (σ : Nat → Nat) (m : Mem) : Nat → List AObj → Prop
 | _, [] => True
 | i, o :: l => m.get (σ i) = some (o.ren σ) ∧ preOk σ m (i + 1) l
theorem preOk_get {σ : Nat → Nat} {m : Mem} : ∀ {l : List AObj} {i : Nat}, preOk σ m i l → ∀ (c : Nat) (o : AObj), l[c]? = some o → m.get (σ (i + c)) = some (o.ren σ)
 | u :: l, i, h, 0, o, e => by simp at e; subst e; exact h.1
 | u :: l, i, h, c + 1, o, e => by
  have := preOk_get h.2 c o (by simpa using e)
  rwa [show i + 1 + c = i + (c + 1) by omega] at this
theorem inL_nthD : ∀ {l : List Nat} {c : Nat}, c < l.length → inL (nthD l c) l = true
 | x :: l, 0, _ => by simp [nthD, inL]
 | x :: l, c + 1, h => by simp only [nthD, inL]; rw [inL_nthD (by simpa using h), Bool.or_true]
theorem nthD_inj : ∀ {l : List Nat}, nodupL l = true → ∀ a b, a < l.length → b < l.length → nthD l a = nthD l b → a = b
 | x :: l, h, 0, 0, _, _, _ => rfl
 | x :: l, h, 0, b + 1, _, hb, e => by
  simp only [nodupL, Bool.and_eq_true, Bool.not_eq_true'] at h
  simp only [nthD] at e
  have := inL_nthD (l := l) (c := b) (by simpa using hb)
  rw [← e, h.1] at this; cases this
 | x :: l, h, a + 1, 0, ha, _, e => by
  simp only [nodupL, Bool.and_eq_true, Bool.not_eq_true'] at h
  simp only [nthD] at e
  have := inL_nthD (l := l) (c := a) (by simpa using ha)
  rw [e, h.1] at this; cases this
 | x :: l, h, a + 1, b + 1, ha, hb, e => by
  simp only [nodupL, Bool.and_eq_true] at h
  have := nthD_inj h.2 a b (by simpa using ha) (by simpa using hb) e
  omega
theorem conAt_of {C : Con} {l : List Nat} {args : List V} {m : Mem} (h1 : C.wf = true) (h2 : (nodupL l && Nat.beq l.length C.pre.length) = true) (h3 : args = rens (nthD l) C.args) (h4 : preOk (nthD l) m 0 C.pre) : ConAt C (nthD l) args m := by
 simp only [Bool.and_eq_true] at h2
 have e := Nat.eq_of_beq_eq_true h2.2
 exact ⟨h1, h3, fun a b ha hb => nthD_inj h2.1 a b (by omega) (by omega), fun c o h => by have := preOk_get h4 c o h; rwa [Nat.zero_add] at this⟩
def oldOk (m : Mem) : Nat → List AObj → Prop
 | _, [] => True
 | i, o :: l => m.get i = some o ∧ oldOk m (i + 1) l
def newOk (m : Mem) : List (Nat × AObj) → Prop
 | [] => True
 | (x, o) :: l => m.get x = some o ∧ newOk m l
def endC (C : Con) (u : V) (m : Mem) : Prop := u = C.ans ∧ oldOk m 0 C.old ∧ newOk m C.new
theorem oldOk_get {m : Mem} : ∀ {l : List AObj} {i : Nat}, oldOk m i l → ∀ (c : Nat) (o : AObj), l[c]? = some o → m.get (i + c) = some o
 | u :: l, i, h, 0, o, e => by simp at e; subst e; exact h.1
 | u :: l, i, h, c + 1, o, e => by
  have := oldOk_get h.2 c o (by simpa using e)
  rwa [show i + 1 + c = i + (c + 1) by omega] at this
theorem newOk_get {m : Mem} : ∀ {l : List (Nat × AObj)}, newOk m l → ∀ x ∈ l, m.get x.1 = some x.2
 | (y, o) :: l, h, x, hx => by
  rcases List.mem_cons.1 hx with e | e
  ·subst e; exact h.1
  ·exact newOk_get h.2 x e
theorem conOk_of {R : Type} {A : Ans R} {H : R → Prop} {P : Program} (hA : Holds A H) (hmix : P.follows .mixedOrders = true) {n : Nat} {af : AFunc} (hok : FOk P n af) {cfy : Ys R → CF R} (hcf : CFOk P cfy H) {C : Con} {K : V → Mem → R} (hK : ∀ u m, H (K u m) → endC C u m)
  (hw : H (body1 A cfy Ys.none af C.args (memO C.pre) K)) : ConOk P n C := by
 intro ρ w args' hρ hm ha
 obtain ⟨fn, h3, h4, _⟩ := hok
 refine (func_sound (A := A) (H := H) hA hcf hmix h3 h4 (Y := Ys.none) (ρ := ρ) YOk.none hm ha hw).mono fun e w' he => ?_
 cases e with
 | panicked c => exact he.elim
 | outgrown => exact he.elim
 | returned v' =>
  obtain ⟨ρ', u, m', g1, g2, g3, g4⟩ := he
  obtain ⟨rfl, g6, g7⟩ := hK u m' g4
  exact ⟨ρ', m', v', rfl, g2, g3, g1, fun c o h => by have := oldOk_get g6 c o h; rwa [Nat.zero_add] at this, newOk_get g7⟩
theorem conOk_walk {P : Program} (hmix : P.follows .mixedOrders = true) {n : Nat} {af : AFunc} (hok : FOk P n af) {cfy : Ys Prop → CF Prop} (hcf : CFOk P cfy id) {C : Con} (hw : body1 pA cfy Ys.none af C.args (memO C.pre) (endC C)) : ConOk P n C :=
 conOk_of (A := pA) (H := id) pHolds hmix hok hcf (K := endC C) (fun _ _ h => h) hw
end Go.AM
