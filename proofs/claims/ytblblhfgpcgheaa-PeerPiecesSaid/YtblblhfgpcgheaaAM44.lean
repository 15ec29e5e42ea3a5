/- An abstract machine: an addition. No condition. -/
import Derived.Test.YtblblhfgpcgheaaAM42
import Derived.Test.YtblblhfgpcgheaaAMb
namespace Go.AM
open Go
mutual
theorem V.ren_id : ∀ v : V, v.ren (fun c => c) = v
 | .ptr _ _ => rfl
 | .slice _ _ _ _ _ => rfl
 | .map _ => rfl
 | .yield _ => rfl
 | .func f a b => by simp only [V.ren, rens_id a, rens_id b]
 | .iface t v => by simp only [V.ren, V.ren_id v]
 | .agg l => by simp only [V.ren, rens_id l]
 | .tuple l => by simp only [V.ren, rens_id l]
 | .bool _ => rfl
 | .int _ _ => rfl
 | .str _ => rfl
 | .nilptr => rfl
 | .nilslice => rfl
 | .nilmap => rfl
 | .nilfunc => rfl
 | .niliface => rfl
 | .any => rfl
theorem rens_id : ∀ l : List V, rens (fun c => c) l = l
 | [] => rfl
 | v :: l => by simp only [rens, V.ren_id v, rens_id l]
end
theorem erens_id : ∀ l : List (V × V × Nat), erens (fun c => c) l = l
 | [] => rfl
 | (k, v, n) :: l => by simp only [erens, V.ren_id, erens_id l]
def underN (N : Nat) (c : Nat) : Bool := Nat.blt c N
def V.cut (N : Nat) (v : V) : V := bif v.bel (underN N) then v else .any
def N8.map {α β : Type} (f : α → β) : N8 α → N8 β
 | .mk a0 a1 a2 a3 a4 a5 a6 a7 => .mk (f a0) (f a1) (f a2) (f a3) (f a4) (f a5) (f a6) (f a7)
theorem D8.sel_map {α β : Type} (f : α → β) (d : D8) (n : N8 α) : d.sel (n.map f) = f (d.sel n) := by cases n; cases d <;> rfl
def Slots.cut (N : Nat) (T : Slots) : Slots := N8.map (N8.map (N8.map (V.cut N))) T
theorem Slots.get_cut (N : Nat) (T : Slots) (p : Sl) : (T.cut N).get p = (T.get p).cut N := by
 obtain ⟨a, b, c⟩ := p
 simp only [Slots.cut, Slots.get, D8.sel_map]
def AObj.belD (N : Nat) : AObj → Bool
 | .cells cs _ => bels (underN N) cs
 | .map es _ _ => ebels (underN N) es
 | .iter (some mb) _ _ _ => Nat.blt mb N
 | _ => true
structure DropM (N : Nat) (m m' : Mem) : Prop where
 next : m'.next = N
 le : N ≤ m.next
 objs : ∀ b o, m'.get b = some o → m.get b = some o ∧ o.belD N = true
theorem VR.keep {ρ ρ' : Ren} {N : Nat} (h : ∀ c i, underN N c = true → ρ c = some i → ρ' c = some i) {v : V} {v' : Value} (hv : VR ρ v v') (hb : v.bel (underN N) = true) : VR ρ' v v' := by
 have := VR.fwd (σ := fun c => c) h hv hb
 rwa [V.ren_id] at this
theorem VR.cut {ρ ρ' : Ren} {N : Nat} (h : ∀ c i, underN N c = true → ρ c = some i → ρ' c = some i) {v : V} {v' : Value} (hv : VR ρ v v') : VR ρ' (v.cut N) v' := by
 unfold V.cut
 cases e : v.bel (underN N) with
 | true => exact hv.keep h e
 | false =>
  refine .unk fun b hb => ?_
  subst hb
  cases hv with
  | bool => cases e
  | unk hn => exact hn b rfl
theorem OR.keep {ρ ρ' : Ren} {N : Nat} (h : ∀ c i, underN N c = true → ρ c = some i → ρ' c = some i) {w : World} {i : Img} {o : AObj} (ho : OR ρ w i o) (hb : o.belD N = true) : OR ρ' w i o := by
 cases o with
 | cells cs ro =>
  obtain ⟨cs', ty, lo, hi, h1, h2, h3, h4⟩ := ho
  exact ⟨cs', ty, lo, hi, h1, h2, fun k v hk => let ⟨v', e1, e2⟩ := h3 k v hk; ⟨v', e1, e2.keep h (bels_get hb hk)⟩, h4⟩
 | map es c ro =>
  obtain ⟨es', h1, h2⟩ := ho
  refine ⟨es', h1, ?_⟩
  have := ERs.fwd (σ := fun c => c) h h2 hb
  rwa [erens_id] at this
 | iter mo since seen stepped =>
  cases mo with
  | none => exact ho
  | some mb =>
   obtain ⟨h1, j, h2, h3⟩ := ho
   exact ⟨h1, j, h mb j hb h2, h3⟩
 | loop st p => exact ho
 | dead => trivial
theorem At.drop {lo : Nat} {ρ₀ : Ren} {m₀ : Mem} {w₀ : World} {nt : Nat} {ρ : Ren} {T : Slots} {m : Mem} {a : Act} {w : World} (hlow : ∀ b i, ρ₀ b = some i → b < m₀.next) (h : At lo ρ₀ m₀ w₀ nt ρ T m a w) {N : Nat} {m' : Mem} (hN : m₀.next ≤ N) (hd : DropM N m m') :
  At lo ρ₀ m₀ w₀ nt (fun c => bif underN N c then ρ c else none) (T.cut N) m' a w := by
 let ρ' : Ren := fun c => bif underN N c then ρ c else none
 have r0 : ∀ c i, ρ' c = some i → c < N ∧ ρ c = some i := by
  intro c i h
  simp only [ρ'] at h
  cases e : underN N c with
  | true => rw [e] at h; exact ⟨nblt_iff.1 e, h⟩
  | false => rw [e] at h; cases h
 have r1 : ∀ c i, underN N c = true → ρ c = some i → ρ' c = some i := by
  intro c i h1 h2
  simp only [ρ', h1, cond_true]; exact h2
 have hm := h.mr
 have hx := h.ext
 refine ⟨⟨h.sr.size, h.sr.le, fun n hn => ?_⟩, ⟨fun c i hc => ?_, fun c i o hc ho => ?_, fun b c i j o u hb hc hij ho hw hu hl => ?_⟩, ⟨fun b i hb => ?_, hx.size, by rw [hd.next]; exact hN, fun b i hb => ?_, hx.keep, fun b i o hb ho hw hlt => ?_, hx.mute⟩, h.df⟩
 ·rw [Slots.get_cut]
  exact (h.sr.get n hn).cut r1
 ·obtain ⟨h1, h2⟩ := r0 c i hc
  exact ⟨by rw [hd.next]; exact h1, (hm.lt _ _ h2).2⟩
 ·obtain ⟨h1, h2⟩ := r0 c i hc
  obtain ⟨h3, h4⟩ := hd.objs c o ho
  exact (hm.obj _ _ _ h2 h3).keep r1 h4
 ·exact hm.inj _ _ _ _ _ _ (r0 b i hb).2 (r0 c j hc).2 hij (hd.objs b o ho).1 hw (hd.objs c u hu).1 hl
 ·have h1 := hx.ren b i hb
  have h2 := hlow b i hb
  exact r1 b i (nblt_iff.2 (by omega)) h1
 ·exact hx.fresh b i (r0 b i hb).2
 ·exact hx.old _ _ _ (r0 b i hb).2 (hd.objs b o ho).1 hw hlt
def idxL (x : Nat) : List Nat → Nat
 | [] => 0
 | y :: l => bif Nat.beq x y then 0 else idxL x l + 1
theorem idxL_at : ∀ {l : List Nat} {x : Nat}, inL x l = true → nthD l (idxL x l) = x ∧ idxL x l < l.length
 | [], _, h => by cases h
 | y :: l, x, h => by
  cases e : Nat.beq x y with
  | true =>
   simp only [idxL, e, cond_true]
   exact ⟨(Nat.eq_of_beq_eq_true e).symm, Nat.zero_lt_succ _⟩
  | false =>
   simp only [inL, e, Bool.false_or] at h
   have := idxL_at h
   simp only [idxL, e, cond_false, nthD, List.length_cons]
   exact ⟨this.1, by omega⟩
def V.back (l : List Nat) (v : V) : V := bif v.bel (fun c => inL c l) then v.ren (fun c => idxL c l) else .any
def Slots.back (l : List Nat) (T : Slots) : Slots := N8.map (N8.map (N8.map (V.back l))) T
theorem Slots.get_back (l : List Nat) (T : Slots) (p : Sl) : (T.back l).get p = (T.get p).back l := by
 obtain ⟨a, b, c⟩ := p
 simp only [Slots.back, Slots.get, D8.sel_map]
def AObj.lowIt (B : Nat) : AObj → Bool
 | .iter (some mb) _ _ _ => Nat.blt mb B
 | _ => false
structure RenM (B : Nat) (l : List Nat) (m m' : Mem) : Prop where
 low : ∀ b, b < B → nthD l b = b
 next : B ≤ m'.next
 len : m'.next = l.length
 nd : nodupL l = true
 objs : ∀ b o, m'.get b = some o → b < m'.next ∧ (o = .dead ∨ (o.lowIt B = true ∧ m.get (nthD l b) = some o) ∨ m.get (nthD l b) = some (o.ren (nthD l)) ∧ o.bel (fun c => Nat.blt c m'.next) = true)
theorem At.back {lo : Nat} {ρ₀ : Ren} {m₀ : Mem} {w₀ : World} {nt : Nat} {ρ : Ren} {T : Slots} {m : Mem} {a : Act} {w : World} (hlow : ∀ b i, ρ₀ b = some i → b < m₀.next) (h : At lo ρ₀ m₀ w₀ nt ρ T m a w) {l : List Nat} {m' : Mem} (hs : RenM m₀.next l m m') :
  At lo ρ₀ m₀ w₀ nt (fun c => if c < m'.next then ρ (nthD l c) else none) (T.back l) m' a w := by
 let ρ' : Ren := fun c => if c < m'.next then ρ (nthD l c) else none
 have r0 : ∀ c i, ρ' c = some i → c < m'.next ∧ ρ (nthD l c) = some i := by
  intro c i h
  simp only [ρ'] at h
  split at h
  ·exact ⟨by assumption, h⟩
  ·cases h
 have r1 : ∀ c i, (fun c => Nat.blt c m'.next) c = true → ρ (nthD l c) = some i → ρ' c = some i := by
  intro c i h1 h2
  simp only [ρ']
  rw [if_pos (nblt_iff.1 h1)]; exact h2
 have r2 : ∀ c i, (fun c => inL c l) c = true → ρ c = some i → ρ' (idxL c l) = some i := by
  intro c i h1 h2
  have h3 := idxL_at (l := l) h1
  refine r1 _ _ (nblt_iff.2 (by rw [hs.len]; exact h3.2)) (by rw [h3.1]; exact h2)
 have hm := h.mr
 have hx := h.ext
 have inj : ∀ b c o u, m'.get b = some o → m'.get c = some u → nthD l b = nthD l c → b = c := fun b c o u hb hc e =>
  nthD_inj hs.nd b c (by rw [← hs.len]; exact (hs.objs b o hb).1) (by rw [← hs.len]; exact (hs.objs c u hc).1) e
 refine ⟨⟨h.sr.size, h.sr.le, fun n hn => ?_⟩, ⟨fun c i hc => ?_, fun c i o hc ho => ?_, fun b c i j o u hb hc hij ho hw hu hl => ?_⟩, ⟨fun b i hb => ?_, hx.size, hs.next, fun b i hb => ?_, hx.keep, fun b i o hb ho hw hlt => ?_, hx.mute⟩, h.df⟩
 ·rw [Slots.get_back]
  have hv := h.sr.get n hn
  unfold V.back
  cases e : (T.get (slotOf n)).bel (fun c => inL c l) with
  | true => exact VR.fwd r2 hv e
  | false =>
   refine .unk fun b hb => ?_
   rw [hb] at hv
   generalize T.get (slotOf n) = v at hv e
   cases hv with
   | bool => cases e
   | unk hn => exact hn b rfl
 ·obtain ⟨h1, h2⟩ := r0 c i hc
  exact ⟨h1, (hm.lt _ _ h2).2⟩
 ·obtain ⟨h1, h2⟩ := r0 c i hc
  rcases hs.objs c o ho with ⟨_, rfl | ⟨h3, h4⟩ | ⟨h3, h4⟩⟩
  ·trivial
  ·refine (hm.obj _ _ _ h2 h4).keep (N := m₀.next) (fun c i hc hi => ?_) ?_
   ·have hcl := nblt_iff.1 hc
    exact r1 _ _ (nblt_iff.2 (Nat.lt_of_lt_of_le hcl hs.next)) (by rw [hs.low c hcl]; exact hi)
   ·cases o with
    | iter mb a b d => cases mb with
     | none => cases h3
     | some mb => exact h3
    | _ => cases h3
  ·exact (hm.obj _ _ _ h2 h3).bwd r1 h4
 ·obtain ⟨h1, h2⟩ := r0 b i hb
  obtain ⟨h3, h4⟩ := r0 c j hc
  have hb' : ∃ o', m.get (nthD l b) = some o' ∧ o'.wr = true := by
   rcases hs.objs b o ho with ⟨_, rfl | ⟨e1, e2⟩ | ⟨e1, e2⟩⟩
   ·cases hw
   ·exact ⟨_, e2, hw⟩
   ·exact ⟨_, e1, by rw [AObj.ren_wr e2]; exact hw⟩
  have hc' : ∃ o', m.get (nthD l c) = some o' ∧ o'.live = true := by
   rcases hs.objs c u hu with ⟨_, rfl | ⟨e1, e2⟩ | ⟨e1, e2⟩⟩
   ·cases hl
   ·exact ⟨_, e2, hl⟩
   ·exact ⟨_, e1, by rw [AObj.ren_live e2]; exact hl⟩
  obtain ⟨o', f1, f2⟩ := hb'
  obtain ⟨u', f3, f4⟩ := hc'
  exact inj b c o u ho hu (hm.inj _ _ _ _ _ _ h2 h4 hij f1 f2 f3 f4)
 ·have h1 := hx.ren b i hb
  have h2 := hlow b i hb
  show ρ' b = some i
  have hn := hs.next
  simp only [ρ']
  rw [if_pos (by omega), hs.low b h2]; exact h1
 ·obtain ⟨h1, h2⟩ := r0 b i hb
  by_cases h3 : b < m₀.next
  ·rw [hs.low b h3] at h2
   exact hx.fresh b i h2
  ·exact .inr (by omega)
 ·obtain ⟨h1, h2⟩ := r0 b i hb
  rcases hs.objs b o ho with ⟨_, rfl | ⟨e1, e2⟩ | ⟨e1, e2⟩⟩
  ·cases hw
  ·exact hx.old _ _ _ h2 e2 hw hlt
  ·exact hx.old _ _ _ h2 e1 (by rw [AObj.ren_wr e2]; exact hw) hlt
inductive StepD (B : Nat) (T : Slots) (m : Mem) : Slots → Mem → Prop
 | drop {N : Nat} {m' : Mem} (h : B ≤ N) (hd : DropM N m m') : StepD B T m (T.cut N) m'
 | back {l : List Nat} {m' : Mem} (h : RenM B l m m') : StepD B T m (T.back l) m'
def iterD (B : Nat) (body : Slots → Mem → (Ex → Slots → Mem → Prop) → Prop) : Nat → Slots → Mem → (Ex → Slots → Mem → Prop) → Prop
 | 0, _, _, _ => False
 | n + 1, T, m, K => ∃ (T' : Slots) (m' : Mem), StepD B T m T' m' ∧ body T' m' fun e T m => match e with
  | .normal => iterD B body n T m K
  | e => K e T m
section
variable (cfy : Ys Prop → CF Prop) (Y : Ys Prop) (B : Nat)
def codeD : ACode → Slots → Mem → (Ex → Slots → Mem → Prop) → Prop
 | .seq a b, T, m, K => code pA cfy Y (.seq a b) T m K ∨ codeD a T m fun e T' m' => match e with
  | .normal => codeD b T' m' K
  | e => K e T' m'
 | .block id b, T, m, K => code pA cfy Y (.block id b) T m K ∨ codeD b T m fun e T' m' => match e with
  | .exit j => bif Nat.beq j id then K .normal T' m' else K e T' m'
  | e => K e T' m'
 | .cond c a b, T, m, K => code pA cfy Y (.cond c a b) T m K ∨ match ev T c with
  | .bool true => codeD a T m K
  | .bool false => codeD b T m K
  | _ => False
 | .loop b, T, m, K => code pA cfy Y (.loop b) T m K ∨ iterD B (codeD b) rounds T m K
 | c, T, m, K => code pA cfy Y c T m K
def body1D (f : AFunc) (args : List V) (m : Mem) (K : V → Mem → Prop) : Prop :=
 bif Nat.ble args.length f.nt then
  codeD cfy Y m.next f.body (fillS 0 args slots0) m fun e T m' => match e with
   | .exit _ => False
   | _ => match result f T m' with | some v => K v m' | none => False
 else False
end
theorem codeD_of {cfy : Ys Prop → CF Prop} {Y : Ys Prop} {B : Nat} {c : ACode} {T : Slots} {m : Mem} {K : Ex → Slots → Mem → Prop} (h : code pA cfy Y c T m K) : codeD cfy Y B c T m K := by
 cases c <;> first | exact h | exact .inl h
section
variable {P : Program} {cfy : Ys Prop → CF Prop} {nt : Nat}
theorem iterD_sound {lo : Nat} {r : Option Nat} {ρ₀ : Ren} {m₀ : Mem} {w₀ : World} (hlow : ∀ b i, ρ₀ b = some i → b < m₀.next) {c : Code} {body : Slots → Mem → (Ex → Slots → Mem → Prop) → Prop} {Q : Exit → Act → World → Prop} {K : Ex → Slots → Mem → Prop}
  (hb : ∀ (Q' : Exit → Act → World → Prop) (K' : Ex → Slots → Mem → Prop), (∀ (e : Ex) (ρ : Ren) (T : Slots) (m : Mem) (a : Act) (w : World), At lo ρ₀ m₀ w₀ nt ρ T m a w → K' e T m → Q' e.to a w) →
   ∀ (ρ : Ren) (T : Slots) (m : Mem) (a : Act) (w : World), At lo ρ₀ m₀ w₀ nt ρ T m a w → body T m K' → c.wpIn (Fr r) 0 P Q' a w)
  (hQ : ∀ (e : Ex) (ρ : Ren) (T : Slots) (m : Mem) (a : Act) (w : World), At lo ρ₀ m₀ w₀ nt ρ T m a w → K e T m → Q e.to a w) :
  ∀ (n : Nat) (ρ : Ren) (T : Slots) (m : Mem) (a : Act) (w : World), At lo ρ₀ m₀ w₀ nt ρ T m a w → iterD m₀.next body n T m K → roundsIn (Fr r) P c Q n a w
 | 0, ρ, T, m, a, w, hat, h => h.elim
 | n + 1, ρ, T, m, a, w, hat, h => by
  obtain ⟨T1, m', h1, h3⟩ := h
  have hat2 : ∃ ρ1, At lo ρ₀ m₀ w₀ nt ρ1 T1 m' a w := by
   cases h1 with
   | drop h1 h2 => exact ⟨_, hat.drop hlow h1 h2⟩
   | back h1 => exact ⟨_, hat.back hlow h1⟩
  obtain ⟨ρ1, hat2⟩ := hat2
  refine hb _ _ (fun e ρ' T' m' a' w' hat' h' => ?_) _ _ m' a w hat2 h3
  cases e with
  | normal => exact iterD_sound hlow hb hQ n ρ' T' m' a' w' hat' h'
  | exit id => exact hQ (.exit id) ρ' T' m' a' w' hat' h'
  | ret => exact hQ .ret ρ' T' m' a' w' hat' h'
theorem region_formD {ops : Array Oper} {d : Bool} {ac : ACode} (h : compRegion P nt ops d = some ac) : (∃ l, ac = .ops l) ∨ ∃ t l, ac = .draw t l := by
 unfold compRegion at h
 split at h
 ·cases h
 ·cases d with
  | false =>
   simp only [Bool.not_false, cond_true, Option.some.injEq] at h
   exact .inl ⟨_, h.symm⟩
  | true =>
   simp only [Bool.not_true, cond_false] at h
   obtain ⟨_, h⟩ := bif_some h
   simp only [Option.some.injEq] at h
   exact .inr ⟨_, _, h.symm⟩
theorem codeD_sound (hcf : CFOk P cfy id) (hmix : P.follows .mixedOrders = true) : ∀ (c : Code) (ac : ACode), comp P nt c = some ac → ∀ (Y : Ys Prop) (lo : Nat) (r : Option Nat) (ρ₀ : Ren) (m₀ : Mem) (w₀ : World), (∀ b i, ρ₀ b = some i → b < m₀.next) → lo ≤ w₀.heap.size → YOk P Y id ρ₀ → (r = none ∨ noRange c = true) → ∀ (Q : Exit → Act → World → Prop) (K : Ex → Slots → Mem → Prop),
  (∀ (e : Ex) (ρ : Ren) (T : Slots) (m : Mem) (a : Act) (w : World), At lo ρ₀ m₀ w₀ nt ρ T m a w → K e T m → Q e.to a w) →
  ∀ (ρ : Ren) (T : Slots) (m : Mem) (a : Act) (w : World), At lo ρ₀ m₀ w₀ nt ρ T m a w → codeD cfy Y m₀.next ac T m K → c.wpIn (Fr r) 0 P Q a w := by
 have plain : ∀ (c : Code) (ac : ACode), comp P nt c = some ac → ∀ (Y : Ys Prop) (lo : Nat) (r : Option Nat) (ρ₀ : Ren) (m₀ : Mem) (w₀ : World), lo ≤ w₀.heap.size → YOk P Y id ρ₀ → (r = none ∨ noRange c = true) → ∀ (Q : Exit → Act → World → Prop) (K : Ex → Slots → Mem → Prop),
  (∀ (e : Ex) (ρ : Ren) (T : Slots) (m : Mem) (a : Act) (w : World), At lo ρ₀ m₀ w₀ nt ρ T m a w → K e T m → Q e.to a w) →
  ∀ (ρ : Ren) (T : Slots) (m : Mem) (a : Act) (w : World), At lo ρ₀ m₀ w₀ nt ρ T m a w → code pA cfy Y ac T m K → c.wpIn (Fr r) 0 P Q a w :=
  fun c ac h Y lo r ρ₀ m₀ w₀ hlo hY hr Q K hQ ρ T m a w hat hH => code_sound (A := pA) (H := id) pHolds hcf hmix c ac h Y lo r ρ₀ m₀ w₀ hlo hY hr Q K hQ ρ T m a w hat hH
 intro c
 induction c with
 | seq x y ihx ihy =>
  intro ac h Y lo r ρ₀ m₀ w₀ hlow hlo hY hr Q K hQ ρ T m a w hat hH
  have h0 := h
  simp only [comp] at h
  split at h
  ·rename_i ax ay hx hy
   simp only [Option.some.injEq] at h; subst h
   rcases hH with hH | hH
   ·exact plain _ _ h0 Y lo r ρ₀ m₀ w₀ hlo hY hr Q K hQ ρ T m a w hat hH
   have hr1 : (r = none ∨ noRange x = true) ∧ (r = none ∨ noRange y = true) := by
    rcases hr with h | h
    ·exact ⟨.inl h, .inl h⟩
    ·simp only [noRange, Bool.and_eq_true] at h; exact ⟨.inr h.1, .inr h.2⟩
   refine wpIn_seq (ihx ax hx Y lo r ρ₀ m₀ w₀ hlow hlo hY hr1.1 _ _ (fun e ρ' T' m' a' w' hat' h' => ?_) ρ T m a w hat hH)
   cases e with
   | normal => exact ihy ay hy Y lo r ρ₀ m₀ w₀ hlow hlo hY hr1.2 Q K hQ ρ' T' m' a' w' hat' h'
   | exit id => exact hQ (.exit id) ρ' T' m' a' w' hat' h'
   | ret => exact hQ .ret ρ' T' m' a' w' hat' h'
  ·cases h
 | block id c ih =>
  intro ac h Y lo r ρ₀ m₀ w₀ hlow hlo hY hr Q K hQ ρ T m a w hat hH
  have h0 := h
  simp only [comp] at h
  split at h
  ·rename_i ac' hc
   simp only [Option.some.injEq] at h; subst h
   rcases hH with hH | hH
   ·exact plain _ _ h0 Y lo r ρ₀ m₀ w₀ hlo hY hr Q K hQ ρ T m a w hat hH
   refine wpIn_block (ih ac' hc Y lo r ρ₀ m₀ w₀ hlow hlo hY hr _ _ (fun e ρ' T' m' a' w' hat' h' => ?_) ρ T m a w hat hH)
   cases e with
   | normal => exact hQ .normal ρ' T' m' a' w' hat' h'
   | exit j =>
    simp only [Ex.to, Exit.inBlock]
    simp only at h'
    by_cases e : j = id
    ·rw [if_pos e]
     rw [nbeqT e, cond_true] at h'
     exact hQ .normal ρ' T' m' a' w' hat' h'
    ·rw [if_neg e]
     rw [nbeqF e, cond_false] at h'
     exact hQ (.exit j) ρ' T' m' a' w' hat' h'
   | ret => exact hQ .ret ρ' T' m' a' w' hat' h'
  ·cases h
 | loop c ih =>
  intro ac h Y lo r ρ₀ m₀ w₀ hlow hlo hY hr Q K hQ ρ T m a w hat hH
  have h0 := h
  simp only [comp] at h
  split at h
  ·rename_i ac' hc
   simp only [Option.some.injEq] at h; subst h
   rcases hH with hH | hH
   ·exact plain _ _ h0 Y lo r ρ₀ m₀ w₀ hlo hY hr Q K hQ ρ T m a w hat hH
   have hr1 : r = none ∨ noRange c = true := by
    rcases hr with h | h
    ·exact .inl h
    ·exact .inr h
   exact wpIn_loop_rounds rounds (iterD_sound hlow (fun Q' K' hQ' ρ T m a w hat h => ih ac' hc Y lo r ρ₀ m₀ w₀ hlow hlo hY hr1 Q' K' hQ' ρ T m a w hat h) hQ rounds ρ T m a w hat hH)
  ·cases h
 | skip => intro ac h Y lo r ρ₀ m₀ w₀ hlow hlo hY hr Q K hQ ρ T m a w hat hH; exact plain _ _ h Y lo r ρ₀ m₀ w₀ hlo hY hr Q K hQ ρ T m a w hat (by simp only [comp, Option.some.injEq] at h; subst h; exact hH)
 | region id ops d =>
  intro ac h Y lo r ρ₀ m₀ w₀ hlow hlo hY hr Q K hQ ρ T m a w hat hH
  refine plain _ _ h Y lo r ρ₀ m₀ w₀ hlo hY hr Q K hQ ρ T m a w hat ?_
  simp only [comp] at h
  rcases region_formD h with ⟨l, rfl⟩ | ⟨t, l, rfl⟩
  ·exact hH
  ·exact hH
 | cond c x y ihx ihy =>
  intro ac h Y lo r ρ₀ m₀ w₀ hlow hlo hY hr Q K hQ ρ T m a w hat hH
  have h0 := h
  simp only [comp] at h
  split at h
  ·rename_i c' ax ay hc hx hy
   simp only [Option.some.injEq] at h; subst h
   rcases hH with hH | hH
   ·exact plain _ _ h0 Y lo r ρ₀ m₀ w₀ hlo hY hr Q K hQ ρ T m a w hat hH
   have hr1 : (r = none ∨ noRange x = true) ∧ (r = none ∨ noRange y = true) := by
    rcases hr with h | h
    ·exact ⟨.inl h, .inl h⟩
    ·simp only [noRange, Bool.and_eq_true] at h; exact ⟨.inr h.1, .inr h.2⟩
   have hv := opd_sound hat.sr hc
   split at hH
   ·rename_i he
    rw [he] at hv
    generalize hg : a.eval c = v' at hv
    cases hv
    exact wpIn_cond_true hg (ihx ax hx Y lo r ρ₀ m₀ w₀ hlow hlo hY hr1.1 Q K hQ ρ T m a w hat hH)
   ·rename_i he
    rw [he] at hv
    generalize hg : a.eval c = v' at hv
    cases hv
    exact wpIn_cond_false hg (ihy ay hy Y lo r ρ₀ m₀ w₀ hlow hlo hY hr1.2 Q K hQ ρ T m a w hat hH)
   ·exact hH.elim
  ·cases h
 | exit id => intro ac h Y lo r ρ₀ m₀ w₀ hlow hlo hY hr Q K hQ ρ T m a w hat hH; exact plain _ _ h Y lo r ρ₀ m₀ w₀ hlo hY hr Q K hQ ρ T m a w hat (by simp only [comp, Option.some.injEq] at h; subst h; exact hH)
 | ret => intro ac h Y lo r ρ₀ m₀ w₀ hlow hlo hY hr Q K hQ ρ T m a w hat hH; exact plain _ _ h Y lo r ρ₀ m₀ w₀ hlo hY hr Q K hQ ρ T m a w hat (by simp only [comp, Option.some.injEq] at h; subst h; exact hH)
 | rangeFunc f ps x y ihx ihy =>
  intro ac h Y lo r ρ₀ m₀ w₀ hlow hlo hY hr Q K hQ ρ T m a w hat hH
  refine plain _ _ h Y lo r ρ₀ m₀ w₀ hlo hY hr Q K hQ ρ T m a w hat ?_
  simp only [comp] at h
  obtain ⟨_, h⟩ := bif_some h
  split at h
  ·simp only [Option.some.injEq] at h; subst h; exact hH
  ·cases h
 | refuse why => intro ac h Y lo r ρ₀ m₀ w₀ hlow hlo hY hr Q K hQ ρ T m a w hat hH; exact plain _ _ h Y lo r ρ₀ m₀ w₀ hlo hY hr Q K hQ ρ T m a w hat (by simp only [comp, Option.some.injEq] at h; subst h; exact hH)
 | _ => intro ac h; simp only [comp] at h; cases h
theorem func_soundD (hcf : CFOk P cfy id) (hmix : P.follows .mixedOrders = true) {f : FuncId} {fn : Func} (hf : P.funcs[f]? = some fn) {af : AFunc} (hc : compFunc P fn = some af) {Y : Ys Prop} {ρ : Ren} (hY : YOk P Y id ρ) {m : Mem} {w : World} (hm : MR ρ m w)
  {args : List V} {args' : List Value} (ha : VRs ρ args args') {K : V → Mem → Prop} (hH : body1D cfy Y af args m K) : Calls P f ⟨args'⟩ w (CallPost id ρ m w K) := by
 unfold compFunc at hc
 split at hc
 ·rename_i c hb
  split at hc
  ·rename_i ac ars h1 h2
   obtain ⟨h3, h4⟩ := bif_some hc
   simp only [Option.some.injEq] at h4
   subst h4
   unfold body1D at hH
   by_cases hl : args.length ≤ fn.ntmps
   ·simp only [nble_iff.2 hl, cond_true] at hH
    refine (callsIn_wide (n := 0)).1 (callsIn_of_wp_marks (F := Fr none) hf hb trivial ?_)
    refine codeD_sound hcf hmix c ac h1 Y w.heap.size none ρ m w (fun b i h => (hm.lt b i h).1) (Nat.le_refl _) hY (.inl rfl) _ _ (fun e ρ' T m' a w' hat h' => ?_) ρ _ m _ w ⟨sr_enter ha hl (nble_iff.1 h3), hm, Ext.refl ρ m w, DOk.nil _ w⟩ hH
    have fin : (match result ⟨fn.ntmps, ars, ac⟩ T m' with | some v => K v m' | none => False) → LeavesInM (Fr none) 0 P fn a.tmps (CallPost id ρ m w K) a.defers .returning w' := by
     intro h''
     obtain ⟨rs, r1, r2, r3⟩ := hat.df
     rw [r1]
     refine leaves_marks rs w' hat.mr r2 r3 fun w2 g1 g2 g3 g4 => ?_
     split at h''
     ·rename_i v hv
      obtain ⟨v', h5, h6⟩ := result_sound (af := ⟨fn.ntmps, ars, ac⟩) h2 hat.sr g1 hv
      refine ⟨v', h5, ρ', v, m', h6, g1, ?_, h''⟩
      exact ⟨hat.ext.ren, by rw [g2]; exact hat.ext.size, hat.ext.next, hat.ext.fresh, fun k hk hro => by rw [g4 k hk]; exact hat.ext.keep k hk hro, hat.ext.old, hat.ext.mute.trans g3⟩
     ·exact h''.elim
    cases e with
    | normal => exact fin h'
    | exit id => exact h'.elim
    | ret => exact fin h'
   ·have : Nat.ble args.length fn.ntmps = false := by
     cases e : Nat.ble args.length fn.ntmps with
     | false => rfl
     | true => exact (hl (nble_iff.1 e)).elim
    simp only [this, cond_false] at hH
  ·cases hc
 ·cases hc
theorem conOk_walkD (hmix : P.follows .mixedOrders = true) {n : Nat} {af : AFunc} (hok : FOk P n af) (hcf : CFOk P cfy id) {C : Con} (hw : body1D cfy Ys.none af C.args (memO C.pre) (endC C)) : ConOk P n C := by
 intro ρ w args' hρ hm ha
 obtain ⟨fn, h3, h4, _⟩ := hok
 refine (func_soundD hcf hmix h3 h4 (Y := Ys.none) (ρ := ρ) YOk.none hm ha hw).mono fun e w' he => ?_
 cases e with
 | panicked c => exact he.elim
 | outgrown => exact he.elim
 | returned v' =>
  obtain ⟨ρ', u, m', g1, g2, g3, g4⟩ := he
  obtain ⟨rfl, g6, g7⟩ := g4
  exact ⟨ρ', m', v', rfl, g2, g3, g1, fun c o h => by have := oldOk_get g6 c o h; rwa [Nat.zero_add] at this, newOk_get g7⟩
end
def LoopOkD (cfy : Ys Prop → CF Prop) (B : Nat) (b : ACode) (e : Ex) (M0 : Mem) (l0 : List (Sl × V)) (Q : List (V × V × Nat) → Prop) (M1 : List (V × V × Nat) → Mem) (l1 : List (V × V × Nat) → List (Sl × V)) : Prop :=
 ∀ (Y : Ys Prop) (T : Slots), allS T l0 → ∀ K : Ex → Slots → Mem → Prop, (∀ x, Q x → ∀ T', allS T' (l1 x) → K e T' (M1 x)) → iterD B (codeD cfy Y B b) rounds T M0 K
section
variable (cfp : CFP) (cfy : Ys Prop → CF Prop) (B : Nat)
def codePD : ACode → Slots → Mem → Sc → (Ex → Slots → Mem → Sc → Prop) → Prop
 | .seq a b, T, m, sc, K => codePD a T m sc fun e T' m' sc => match e with
  | .normal => codePD b T' m' sc K
  | e => K e T' m' sc
 | .cond c a b, T, m, sc, K => tickP sc T m fun sc T m => match ev T c with
  | .bool true => codePD a T m sc K
  | .bool false => codePD b T m sc K
  | _ => False
 | .block id b, T, m, sc, K => codePD b T m sc fun e T' m' sc => match e with
  | .exit j => bif Nat.beq j id then K .normal T' m' sc else K e T' m' sc
  | e => K e T' m' sc
 | .loop b, T, m, sc, K => tickP sc T m fun sc T m => match sc with
  | .invd e M0 l0 Q M1 l1 sc => m = M0 ∧ allS T l0 ∧ LoopOkD cfy B b e M0 l0 Q M1 l1 ∧ ∀ x, Q x → ∀ T', allS T' (l1 x) → K e (setS (l1 x) T') (M1 x) (sc x)
  | sc => codeP cfp cfy (.loop b) T m sc K
 | c, T, m, sc, K => codeP cfp cfy c T m sc K
def bodyPD (f : AFunc) (args : List V) (m : Mem) (sc : Sc) (K : V → Mem → Sc → Prop) : Prop :=
 bif Nat.ble args.length f.nt then
  codePD cfp cfy m.next f.body (fillS 0 args slots0) m sc fun e T m' sc => match e with
   | .exit _ => False
   | _ => match result f T m' with | some v => K v m' sc | none => False
 else False
end
section
variable {cfp : CFP}
theorem codePD_ok {cfy : Ys Prop → CF Prop} {Y : Ys Prop} {B : Nat} (h : CFPOk cfp (cfy Y)) :
  ∀ (c : ACode) {T : Slots} {m : Mem} {sc : Sc} {K : Ex → Slots → Mem → Sc → Prop}, codePD cfp cfy B c T m sc K → ∀ {K0 : Ex → Slots → Mem → Prop}, (∀ e T m sc, K e T m sc → K0 e T m) → codeD cfy Y B c T m K0
 | .skip, _, _, _, _, hr, _, hK => codeP_ok h .skip hr hK
 | .ops l, _, _, _, _, hr, _, hK => codeP_ok h (.ops l) hr hK
 | .draw l s, _, _, _, _, hr, _, hK => codeP_ok h (.draw l s) hr hK
 | .exit id, _, _, _, _, hr, _, hK => codeP_ok h (.exit id) hr hK
 | .ret, _, _, _, _, hr, _, hK => codeP_ok h .ret hr hK
 | .rangeFunc _ _ _ _, _, _, _, _, hr, _, _ => hr.elim
 | .seq a b, T, m, sc, K, hr, K0, hK => by
  refine .inr (codePD_ok h a hr fun e T' m' sc' hk => ?_)
  cases e with
  | normal => exact codePD_ok h b hk hK
  | exit id => exact hK _ _ _ _ hk
  | ret => exact hK _ _ _ _ hk
 | .cond c a b, T, m, sc, K, hr, K0, hK => by
  simp only [codePD] at hr
  obtain ⟨sc', hr⟩ := tickP_out sc hr
  simp only [codeD]
  refine .inr ?_
  split at hr
  ·exact codePD_ok h a hr hK
  ·exact codePD_ok h b hr hK
  ·exact hr.elim
 | .block id b, T, m, sc, K, hr, K0, hK => by
  refine .inr (codePD_ok h b hr fun e T' m' sc' hk => ?_)
  cases e with
  | normal => exact hK _ _ _ _ hk
  | exit j =>
   cases e2 : Nat.beq j id with
   | true => simp only [e2, cond_true] at hk ⊢; exact hK _ _ _ _ hk
   | false => simp only [e2, cond_false] at hk ⊢; exact hK _ _ _ _ hk
  | ret => exact hK _ _ _ _ hk
 | .loop b, T, m, sc, K, hr, K0, hK => by
  simp only [codePD] at hr
  obtain ⟨sc', hr⟩ := tickP_out sc hr
  split at hr
  ·obtain ⟨rfl, h1, h2, h3⟩ := hr
   refine .inr (h2 Y T h1 K0 fun x hx T' hj => ?_)
   have h4 := h3 x hx T' hj
   rw [setS_self hj] at h4
   exact hK _ _ _ _ h4
  ·exact .inl (codeP_ok h (.loop b) hr hK)
theorem bodyPD_ok {cfy : Ys Prop → CF Prop} {Y : Ys Prop} (h : CFPOk cfp (cfy Y)) {f : AFunc} {args : List V} {m : Mem} {sc : Sc} {K : V → Mem → Sc → Prop} (hr : bodyPD cfp cfy f args m sc K) {K0 : V → Mem → Prop} (hK : ∀ v m sc, K v m sc → K0 v m) : body1D cfy Y f args m K0 := by
 unfold bodyPD at hr
 unfold body1D
 cases e : Nat.ble args.length f.nt with
 | false => rw [e] at hr; exact hr.elim
 | true =>
  rw [e] at hr
  simp only [cond_true] at hr ⊢
  refine codePD_ok h f.body hr fun e T m' sc' hk => ?_
  cases e with
  | exit id => exact hk.elim
  | normal =>
   try simp only at hk ⊢
   split at hk
   ·exact hK _ _ _ hk
   ·exact hk.elim
  | ret =>
   try simp only at hk ⊢
   split at hk
   ·exact hK _ _ _ hk
   ·exact hk.elim
end
theorem walkCD_of_vc {tab : Nat → Option AFunc} {last : CF Prop} (hl : MonoCF last) {d : Nat} {af : AFunc} {C : Con} (sc : Sc) {VC : Prop} (vc : VC) (e : VC = bodyPD (callP tab last d) (callD pA tab last d) af C.args (memO C.pre) sc fun u m' _ => endC C u m') (Y : Ys Prop) :
  body1D (callD pA tab last d) Y af C.args (memO C.pre) (endC C) :=
 bodyPD_ok (callP_ok hl d Y) (e ▸ vc) fun _ _ _ h => h
def backS (l : List Nat) (L : List (Sl × V)) : List (Sl × V) := L.map fun x => (x.1, x.2.back l)
theorem allS_back {l : List Nat} {T : Slots} : ∀ {L : List (Sl × V)}, allS T L → allS (T.back l) (backS l L)
 | [], _ => trivial
 | (s, v) :: L, h => ⟨by rw [Slots.get_back, h.1], allS_back h.2⟩
def preOkD (B N : Nat) (σ : Nat → Nat) (m : Mem) : Nat → List AObj → Prop
 | _, [] => True
 | i, o :: l => (o = .dead ∨ (o.lowIt B = true ∧ m.get (σ i) = some o) ∨ m.get (σ i) = some (o.ren σ) ∧ o.bel (fun c => Nat.blt c N) = true) ∧ preOkD B N σ m (i + 1) l
theorem preOkD_get {B N : Nat} {σ : Nat → Nat} {m : Mem} : ∀ {l : List AObj} {i : Nat}, preOkD B N σ m i l → ∀ (c : Nat) (o : AObj), l[c]? = some o → o = .dead ∨ (o.lowIt B = true ∧ m.get (σ (i + c)) = some o) ∨ m.get (σ (i + c)) = some (o.ren σ) ∧ o.bel (fun c => Nat.blt c N) = true
 | u :: l, i, h, 0, o, e => by simp at e; subst e; exact h.1
 | u :: l, i, h, c + 1, o, e => by
  have := preOkD_get h.2 c o (by simpa using e)
  rwa [show i + 1 + c = i + (c + 1) by omega] at this
theorem renM_of {B : Nat} {l : List Nat} {m : Mem} {objs : List AObj} (hB : l.take B = List.range B) (hBl : B ≤ l.length) (hl : (nodupL l && Nat.beq l.length objs.length) = true) (h3 : preOkD B objs.length (nthD l) m 0 objs) : RenM B l m (memO objs) := by
 simp only [Bool.and_eq_true] at hl
 have hlen := Nat.eq_of_beq_eq_true hl.2
 have nth : ∀ (l : List Nat) (b : Nat), b < l.length → nthD l b = l.getD b 0 := by
  intro l
  induction l with
  | nil => intro b h; simp at h
  | cons x l ih =>
   intro b h
   cases b with
   | zero => rfl
   | succ b => simp only [nthD, ih b (by simpa using h)]; simp
 refine ⟨fun b hb => ?_, by show B ≤ objs.length; omega, by show objs.length = l.length; omega, hl.1, fun b o h => ?_⟩
 ·rw [nth l b (by omega)]
  have h1 : (l.take B)[b]? = (List.range B)[b]? := by rw [hB]
  rw [List.getElem?_take, if_pos hb, List.getElem?_range hb] at h1
  rw [List.getD_eq_getElem?_getD, h1]; rfl
 ·rw [memO_get] at h
  refine ⟨(List.getElem?_eq_some_iff.1 h).1, ?_⟩
  have := preOkD_get h3 b o h
  rw [Nat.zero_add] at this
  exact this
theorem loopR {cfy : Ys Prop → CF Prop} {b : ACode} {e : Ex} {B : Nat} (he : e ≠ .normal) (n : Nat) (hn : n < rounds) (M0 : Mem) (l0 : List (Sl × V)) (q0 : List Nat) (M Mg : Nat → Mem) (l lg : Nat → List (Sl × V)) (q : Nat → List Nat) (M1 : Mem) (l1 : List (Sl × V)) (h0 : RenM B q0 M0 (M 0)) (e0 : backS q0 l0 = l 0)
  (hd : ∀ i, i < n → RenM B (q i) (Mg i) (M (i + 1))) (hl : ∀ i, i < n → backS (q i) (lg i) = l (i + 1))
  (step : ∀ (Y : Ys Prop) (i : Nat) (T : Slots), i < n → allS T (l i) → ∀ K : Ex → Slots → Mem → Prop, (∀ T', allS T' (lg i) → K .normal T' (Mg i)) → code pA cfy Y b T (M i) K)
  (fin : ∀ (Y : Ys Prop) (T : Slots), allS T (l n) → ∀ K : Ex → Slots → Mem → Prop, (∀ T', allS T' l1 → K e T' M1) → code pA cfy Y b T (M n) K) : LoopOkD cfy B b e M0 l0 (fun _ => True) (fun _ => M1) (fun _ => l1) := by
 intro Y T hT K hK
 have go : ∀ (k i : Nat) (fuel : Nat) (m : Mem) (T : Slots) (p : List Nat), i + k = n → k < fuel → RenM B p m (M i) → allS (T.back p) (l i) → iterD B (codeD cfy Y B b) fuel T m K := by
  intro k
  induction k with
  | zero =>
   intro i fuel m T p hi hf hm hT
   obtain ⟨f, rfl⟩ : ∃ f, fuel = f + 1 := ⟨fuel - 1, by omega⟩
   have e1 : i = n := by omega
   subst e1
   refine ⟨_, M i, .back hm, codeD_of (fin Y _ hT _ fun T' h => ?_)⟩
   have h1 := hK [] trivial T' h
   cases e with
   | normal => exact absurd rfl he
   | exit id => exact h1
   | ret => exact h1
  | succ k ih =>
   intro i fuel m T p hi hf hm hT
   obtain ⟨f, rfl⟩ : ∃ f, fuel = f + 1 := ⟨fuel - 1, by omega⟩
   refine ⟨_, M i, .back hm, codeD_of (step Y i _ (by omega) hT _ fun T' h => ih (i + 1) f _ _ (q i) (by omega) (by omega) (hd i (by omega)) ?_)⟩
   have := allS_back (l := q i) h
   rwa [hl i (by omega)] at this
 refine go n 0 rounds M0 T q0 (by omega) hn h0 ?_
 have := allS_back (l := q0) hT
 rwa [e0] at this
section
variable {cfy : Ys Prop → CF Prop} {sN sI sB : Sl} {x : Nat} {body : ACode}
end
end Go.AM
