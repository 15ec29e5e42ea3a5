/- An abstract machine: an addition. No condition. -/
import Derived.Test.YtjekgdkaejgpdaaGreatAM42
import Derived.Test.YtjekgdkaejgpdaaGreatAMb
namespace Go.AM
open Go
mutual
theorem V.ren_id : ∀ v : V, v.ren (fun c => c) = v
 | .ptr _ _ => rfl
 | .slice _ _ _ _ _ => rfl
 | .map _ => rfl
 | .yield _ => rfl
 | .func f a b => by simp only [V.ren, zHb a, zHb b]
 | .iface t v => by simp only [V.ren, V.ren_id v]
 | .agg l => by simp only [V.ren, zHb l]
 | .tuple l => by simp only [V.ren, zHb l]
 | .bool _ => rfl
 | .int _ _ => rfl
 | .str _ => rfl
 | .nilptr => rfl
 | .nilslice => rfl
 | .nilmap => rfl
 | .nilfunc => rfl
 | .niliface => rfl
 | .any => rfl
theorem zHb : ∀ l : List V, zDr (fun c => c) l = l
 | [] => rfl
 | v :: l => by simp only [zDr, V.ren_id v, zHb l]
end
theorem erens_id : ∀ l : List (V × V × Nat), zCT (fun c => c) l = l
 | [] => rfl
 | (k, v, n) :: l => by simp only [zCT, V.ren_id, erens_id l]
def zD6 (N : Nat) (c : Nat) : Bool := Nat.blt c N
def V.cut (N : Nat) (v : V) : V := bif v.bel (zD6 N) then v else .any
def N8.map {α β : Type} (f : α → β) : N8 α → N8 β
 | .mk a0 a1 a2 a3 a4 a5 a6 a7 => .mk (f a0) (f a1) (f a2) (f a3) (f a4) (f a5) (f a6) (f a7)
theorem D8.sel_map {α β : Type} (f : α → β) (d : D8) (n : N8 α) : d.sel (n.map f) = f (d.sel n) := by cases n; cases d <;> rfl
def zAa.cut (N : Nat) (T : zAa) : zAa := N8.map (N8.map (N8.map (V.cut N))) T
theorem zAa.get_cut (N : Nat) (T : zAa) (p : Sl) : (T.cut N).get p = (T.get p).cut N := by
 obtain ⟨a, b, c⟩ := p
 simp only [zAa.cut, zAa.get, D8.sel_map]
def zAe.belD (N : Nat) : zAe → Bool
 | .cells cs _ => zF2 (zD6 N) cs
 | .map es _ _ => zDJ (zD6 N) es
 | .iter (some mb) _ _ _ => Nat.blt mb N
 | _ => true
structure DropM (N : Nat) (m m' : Mem) : Prop where
 next : m'.next = N
 le : N ≤ m.next
 objs : ∀ b o, m'.get b = some o → m.get b = some o ∧ o.belD N = true
theorem VR.keep {ρ ρ' : Ren} {N : Nat} (h : ∀ c i, zD6 N c = true → ρ c = some i → ρ' c = some i) {v : V} {v' : Value} (hv : VR ρ v v') (hb : v.bel (zD6 N) = true) : VR ρ' v v' := by
 have := VR.fwd (σ := fun c => c) h hv hb
 rwa [V.ren_id] at this
theorem VR.cut {ρ ρ' : Ren} {N : Nat} (h : ∀ c i, zD6 N c = true → ρ c = some i → ρ' c = some i) {v : V} {v' : Value} (hv : VR ρ v v') : VR ρ' (v.cut N) v' := by
 unfold V.cut
 cases e : v.bel (zD6 N) with
 | true => exact hv.keep h e
 | false =>
  refine .unk fun b hb => ?_
  subst hb
  cases hv with
  | bool => cases e
  | unk hn => exact hn b rfl
theorem OR.keep {ρ ρ' : Ren} {N : Nat} (h : ∀ c i, zD6 N c = true → ρ c = some i → ρ' c = some i) {w : World} {i : Img} {o : zAe} (ho : OR ρ w i o) (hb : o.belD N = true) : OR ρ' w i o := by
 cases o with
 | cells cs ro =>
  obtain ⟨cs', ty, lo, hi, h1, h2, h3, h4⟩ := ho
  exact ⟨cs', ty, lo, hi, h1, h2, fun k v hk => let ⟨v', e1, e2⟩ := h3 k v hk; ⟨v', e1, e2.keep h (zG4 hb hk)⟩, h4⟩
 | map es c ro =>
  obtain ⟨es', h1, h2⟩ := ho
  refine ⟨es', h1, ?_⟩
  have := ERs.fwd (σ := fun c => c) h h2 hb
  rwa [erens_id] at this
 | iter mo since seen stepped =>
  cases mo with
  | none => exact ho
  | some mb =>
   obtain ⟨h1, j, h2, h3⟩ := ho
   exact ⟨h1, j, h mb j hb h2, h3⟩
 | loop st p => exact ho
 | dead => trivial
theorem At.drop {lo : Nat} {ρ₀ : Ren} {m₀ : Mem} {w₀ : World} {nt : Nat} {ρ : Ren} {T : zAa} {m : Mem} {a : Act} {w : World} (hlow : ∀ b i, ρ₀ b = some i → b < m₀.next) (h : At lo ρ₀ m₀ w₀ nt ρ T m a w) {N : Nat} {m' : Mem} (hN : m₀.next ≤ N) (hd : DropM N m m') :
  At lo ρ₀ m₀ w₀ nt (fun c => bif zD6 N c then ρ c else none) (T.cut N) m' a w := by
 let ρ' : Ren := fun c => bif zD6 N c then ρ c else none
 have r0 : ∀ c i, ρ' c = some i → c < N ∧ ρ c = some i := by
  intro c i h
  simp only [ρ'] at h
  cases e : zD6 N c with
  | true => rw [e] at h; exact ⟨zAV.1 e, h⟩
  | false => rw [e] at h; cases h
 have r1 : ∀ c i, zD6 N c = true → ρ c = some i → ρ' c = some i := by
  intro c i h1 h2
  simp only [ρ', h1, cond_true]; exact h2
 have hm := h.mr
 have hx := h.ext
 refine ⟨⟨h.sr.size, h.sr.le, fun n hn => ?_⟩, ⟨fun c i hc => ?_, fun c i o hc ho => ?_, fun b c i j o u hb hc hij ho hw hu hl => ?_⟩, ⟨fun b i hb => ?_, hx.size, by rw [hd.next]; exact hN, fun b i hb => ?_, hx.keep, fun b i o hb ho hw hlt => ?_, hx.mute⟩, h.df⟩
 ·rw [zAa.get_cut]
  exact (h.sr.get n hn).cut r1
 ·obtain ⟨h1, h2⟩ := r0 c i hc
  exact ⟨by rw [hd.next]; exact h1, (hm.lt _ _ h2).2⟩
 ·obtain ⟨h1, h2⟩ := r0 c i hc
  obtain ⟨h3, h4⟩ := hd.objs c o ho
  exact (hm.obj _ _ _ h2 h3).keep r1 h4
 ·exact hm.inj _ _ _ _ _ _ (r0 b i hb).2 (r0 c j hc).2 hij (hd.objs b o ho).1 hw (hd.objs c u hu).1 hl
 ·have h1 := hx.ren b i hb
  have h2 := hlow b i hb
  exact r1 b i (zAV.2 (by omega)) h1
 ·exact hx.fresh b i (r0 b i hb).2
 ·exact hx.old _ _ _ (r0 b i hb).2 (hd.objs b o ho).1 hw hlt
def idxL (x : Nat) : List Nat → Nat
 | [] => 0
 | y :: l => bif Nat.beq x y then 0 else idxL x l + 1
theorem idxL_at : ∀ {l : List Nat} {x : Nat}, inL x l = true → zAJ l (idxL x l) = x ∧ idxL x l < l.length
 | [], _, h => by cases h
 | y :: l, x, h => by
  cases e : Nat.beq x y with
  | true =>
   simp only [idxL, e, cond_true]
   exact ⟨(Nat.eq_of_beq_eq_true e).symm, Nat.zero_lt_succ _⟩
  | false =>
   simp only [inL, e, Bool.false_or] at h
   have := idxL_at h
   simp only [idxL, e, cond_false, zAJ, List.length_cons]
   exact ⟨this.1, by omega⟩
def V.back (l : List Nat) (v : V) : V := bif v.bel (fun c => inL c l) then v.ren (fun c => idxL c l) else .any
def zAa.back (l : List Nat) (T : zAa) : zAa := N8.map (N8.map (N8.map (V.back l))) T
theorem zAa.get_back (l : List Nat) (T : zAa) (p : Sl) : (T.back l).get p = (T.get p).back l := by
 obtain ⟨a, b, c⟩ := p
 simp only [zAa.back, zAa.get, D8.sel_map]
def zAe.lowIt (B : Nat) : zAe → Bool
 | .iter (some mb) _ _ _ => Nat.blt mb B
 | _ => false
structure RenM (B : Nat) (l : List Nat) (m m' : Mem) : Prop where
 low : ∀ b, b < B → zAJ l b = b
 next : B ≤ m'.next
 len : m'.next = l.length
 nd : zDj l = true
 objs : ∀ b o, m'.get b = some o → b < m'.next ∧ (o = .dead ∨ (o.lowIt B = true ∧ m.get (zAJ l b) = some o) ∨ m.get (zAJ l b) = some (o.ren (zAJ l)) ∧ o.bel (fun c => Nat.blt c m'.next) = true)
theorem At.back {lo : Nat} {ρ₀ : Ren} {m₀ : Mem} {w₀ : World} {nt : Nat} {ρ : Ren} {T : zAa} {m : Mem} {a : Act} {w : World} (hlow : ∀ b i, ρ₀ b = some i → b < m₀.next) (h : At lo ρ₀ m₀ w₀ nt ρ T m a w) {l : List Nat} {m' : Mem} (hs : RenM m₀.next l m m') :
  At lo ρ₀ m₀ w₀ nt (fun c => if c < m'.next then ρ (zAJ l c) else none) (T.back l) m' a w := by
 let ρ' : Ren := fun c => if c < m'.next then ρ (zAJ l c) else none
 have r0 : ∀ c i, ρ' c = some i → c < m'.next ∧ ρ (zAJ l c) = some i := by
  intro c i h
  simp only [ρ'] at h
  split at h
  ·exact ⟨by assumption, h⟩
  ·cases h
 have r1 : ∀ c i, (fun c => Nat.blt c m'.next) c = true → ρ (zAJ l c) = some i → ρ' c = some i := by
  intro c i h1 h2
  simp only [ρ']
  rw [if_pos (zAV.1 h1)]; exact h2
 have r2 : ∀ c i, (fun c => inL c l) c = true → ρ c = some i → ρ' (idxL c l) = some i := by
  intro c i h1 h2
  have h3 := idxL_at (l := l) h1
  refine r1 _ _ (zAV.2 (by rw [hs.len]; exact h3.2)) (by rw [h3.1]; exact h2)
 have hm := h.mr
 have hx := h.ext
 have inj : ∀ b c o u, m'.get b = some o → m'.get c = some u → zAJ l b = zAJ l c → b = c := fun b c o u hb hc e =>
  zGS hs.nd b c (by rw [← hs.len]; exact (hs.objs b o hb).1) (by rw [← hs.len]; exact (hs.objs c u hc).1) e
 refine ⟨⟨h.sr.size, h.sr.le, fun n hn => ?_⟩, ⟨fun c i hc => ?_, fun c i o hc ho => ?_, fun b c i j o u hb hc hij ho hw hu hl => ?_⟩, ⟨fun b i hb => ?_, hx.size, hs.next, fun b i hb => ?_, hx.keep, fun b i o hb ho hw hlt => ?_, hx.mute⟩, h.df⟩
 ·rw [zAa.get_back]
  have hv := h.sr.get n hn
  unfold V.back
  cases e : (T.get (zAW n)).bel (fun c => inL c l) with
  | true => exact VR.fwd r2 hv e
  | false =>
   refine .unk fun b hb => ?_
   rw [hb] at hv
   generalize T.get (zAW n) = v at hv e
   cases hv with
   | bool => cases e
   | unk hn => exact hn b rfl
 ·obtain ⟨h1, h2⟩ := r0 c i hc
  exact ⟨h1, (hm.lt _ _ h2).2⟩
 ·obtain ⟨h1, h2⟩ := r0 c i hc
  rcases hs.objs c o ho with ⟨_, rfl | ⟨h3, h4⟩ | ⟨h3, h4⟩⟩
  ·trivial
  ·refine (hm.obj _ _ _ h2 h4).keep (N := m₀.next) (fun c i hc hi => ?_) ?_
   ·have hcl := zAV.1 hc
    exact r1 _ _ (zAV.2 (Nat.lt_of_lt_of_le hcl hs.next)) (by rw [hs.low c hcl]; exact hi)
   ·cases o with
    | iter mb a b d => cases mb with
     | none => cases h3
     | some mb => exact h3
    | _ => cases h3
  ·exact (hm.obj _ _ _ h2 h3).bwd r1 h4
 ·obtain ⟨h1, h2⟩ := r0 b i hb
  obtain ⟨h3, h4⟩ := r0 c j hc
  have hb' : ∃ o', m.get (zAJ l b) = some o' ∧ o'.wr = true := by
   rcases hs.objs b o ho with ⟨_, rfl | ⟨e1, e2⟩ | ⟨e1, e2⟩⟩
   ·cases hw
   ·exact ⟨_, e2, hw⟩
   ·exact ⟨_, e1, by rw [zAe.ren_wr e2]; exact hw⟩
  have hc' : ∃ o', m.get (zAJ l c) = some o' ∧ o'.live = true := by
   rcases hs.objs c u hu with ⟨_, rfl | ⟨e1, e2⟩ | ⟨e1, e2⟩⟩
   ·cases hl
   ·exact ⟨_, e2, hl⟩
   ·exact ⟨_, e1, by rw [zAe.ren_live e2]; exact hl⟩
  obtain ⟨o', f1, f2⟩ := hb'
  obtain ⟨u', f3, f4⟩ := hc'
  exact inj b c o u ho hu (hm.inj _ _ _ _ _ _ h2 h4 hij f1 f2 f3 f4)
 ·have h1 := hx.ren b i hb
  have h2 := hlow b i hb
  show ρ' b = some i
  have hn := hs.next
  simp only [ρ']
  rw [if_pos (by omega), hs.low b h2]; exact h1
 ·obtain ⟨h1, h2⟩ := r0 b i hb
  by_cases h3 : b < m₀.next
  ·rw [hs.low b h3] at h2
   exact hx.fresh b i h2
  ·exact .inr (by omega)
 ·obtain ⟨h1, h2⟩ := r0 b i hb
  rcases hs.objs b o ho with ⟨_, rfl | ⟨e1, e2⟩ | ⟨e1, e2⟩⟩
  ·cases hw
  ·exact hx.old _ _ _ h2 e2 hw hlt
  ·exact hx.old _ _ _ h2 e1 (by rw [zAe.ren_wr e2]; exact hw) hlt
inductive StepD (B : Nat) (T : zAa) (m : Mem) : zAa → Mem → Prop
 | drop {N : Nat} {m' : Mem} (h : B ≤ N) (hd : DropM N m m') : StepD B T m (T.cut N) m'
 | back {l : List Nat} {m' : Mem} (h : RenM B l m m') : StepD B T m (T.back l) m'
def iterD (B : Nat) (body : zAa → Mem → (Ex → zAa → Mem → Prop) → Prop) : Nat → zAa → Mem → (Ex → zAa → Mem → Prop) → Prop
 | 0, _, _, _ => False
 | n + 1, T, m, K => ∃ (T' : zAa) (m' : Mem), StepD B T m T' m' ∧ body T' m' fun e T m => match e with
  | .normal => iterD B body n T m K
  | e => K e T m
section
variable (cfy : Ys Prop → CF Prop) (Y : Ys Prop) (B : Nat)
def zIm : zAz → zAa → Mem → (Ex → zAa → Mem → Prop) → Prop
 | .seq a b, T, m, K => code pA cfy Y (.seq a b) T m K ∨ zIm a T m fun e T' m' => match e with
  | .normal => zIm b T' m' K
  | e => K e T' m'
 | .block id b, T, m, K => code pA cfy Y (.block id b) T m K ∨ zIm b T m fun e T' m' => match e with
  | .exit j => bif Nat.beq j id then K .normal T' m' else K e T' m'
  | e => K e T' m'
 | .cond c a b, T, m, K => code pA cfy Y (.cond c a b) T m K ∨ match ev T c with
  | .bool true => zIm a T m K
  | .bool false => zIm b T m K
  | _ => False
 | .loop b, T, m, K => code pA cfy Y (.loop b) T m K ∨ iterD B (zIm b) rounds T m K
 | c, T, m, K => code pA cfy Y c T m K
end
theorem zG3 {cfy : Ys Prop → CF Prop} {Y : Ys Prop} {B : Nat} {c : zAz} {T : zAa} {m : Mem} {K : Ex → zAa → Mem → Prop} (h : code pA cfy Y c T m K) : zIm cfy Y B c T m K := by
 cases c <;> first | exact h | exact .inl h
section
variable {P : Program} {cfy : Ys Prop → CF Prop} {nt : Nat}
theorem zHu {lo : Nat} {r : Option Nat} {ρ₀ : Ren} {m₀ : Mem} {w₀ : World} (hlow : ∀ b i, ρ₀ b = some i → b < m₀.next) {c : Code} {body : zAa → Mem → (Ex → zAa → Mem → Prop) → Prop} {Q : Exit → Act → World → Prop} {K : Ex → zAa → Mem → Prop}
  (hb : ∀ (Q' : Exit → Act → World → Prop) (K' : Ex → zAa → Mem → Prop), (∀ (e : Ex) (ρ : Ren) (T : zAa) (m : Mem) (a : Act) (w : World), At lo ρ₀ m₀ w₀ nt ρ T m a w → K' e T m → Q' e.to a w) →
   ∀ (ρ : Ren) (T : zAa) (m : Mem) (a : Act) (w : World), At lo ρ₀ m₀ w₀ nt ρ T m a w → body T m K' → c.wpIn (Fr r) 0 P Q' a w)
  (hQ : ∀ (e : Ex) (ρ : Ren) (T : zAa) (m : Mem) (a : Act) (w : World), At lo ρ₀ m₀ w₀ nt ρ T m a w → K e T m → Q e.to a w) :
  ∀ (n : Nat) (ρ : Ren) (T : zAa) (m : Mem) (a : Act) (w : World), At lo ρ₀ m₀ w₀ nt ρ T m a w → iterD m₀.next body n T m K → roundsIn (Fr r) P c Q n a w
 | 0, ρ, T, m, a, w, hat, h => h.elim
 | n + 1, ρ, T, m, a, w, hat, h => by
  obtain ⟨T1, m', h1, h3⟩ := h
  have hat2 : ∃ ρ1, At lo ρ₀ m₀ w₀ nt ρ1 T1 m' a w := by
   cases h1 with
   | drop h1 h2 => exact ⟨_, hat.drop hlow h1 h2⟩
   | back h1 => exact ⟨_, hat.back hlow h1⟩
  obtain ⟨ρ1, hat2⟩ := hat2
  refine hb _ _ (fun e ρ' T' m' a' w' hat' h' => ?_) _ _ m' a w hat2 h3
  cases e with
  | normal => exact zHu hlow hb hQ n ρ' T' m' a' w' hat' h'
  | exit id => exact hQ (.exit id) ρ' T' m' a' w' hat' h'
  | ret => exact hQ .ret ρ' T' m' a' w' hat' h'
theorem zEh {ops : Array Oper} {d : Bool} {ac : zAz} (h : zC0 P nt ops d = some ac) : (∃ l, ac = .ops l) ∨ ∃ t l, ac = .draw t l := by
 unfold zC0 at h
 split at h
 ·cases h
 ·cases d with
  | false =>
   simp only [Bool.not_false, cond_true, Option.some.injEq] at h
   exact .inl ⟨_, h.symm⟩
  | true =>
   simp only [Bool.not_true, cond_false] at h
   obtain ⟨_, h⟩ := zAF h
   simp only [Option.some.injEq] at h
   exact .inr ⟨_, _, h.symm⟩
theorem zHP (hcf : CFOk P cfy id) (hmix : P.follows .mixedOrders = true) : ∀ (c : Code) (ac : zAz), zBG P nt c = some ac → ∀ (Y : Ys Prop) (lo : Nat) (r : Option Nat) (ρ₀ : Ren) (m₀ : Mem) (w₀ : World), (∀ b i, ρ₀ b = some i → b < m₀.next) → lo ≤ w₀.heap.size → YOk P Y id ρ₀ → (r = none ∨ zAY c = true) → ∀ (Q : Exit → Act → World → Prop) (K : Ex → zAa → Mem → Prop),
  (∀ (e : Ex) (ρ : Ren) (T : zAa) (m : Mem) (a : Act) (w : World), At lo ρ₀ m₀ w₀ nt ρ T m a w → K e T m → Q e.to a w) →
  ∀ (ρ : Ren) (T : zAa) (m : Mem) (a : Act) (w : World), At lo ρ₀ m₀ w₀ nt ρ T m a w → zIm cfy Y m₀.next ac T m K → c.wpIn (Fr r) 0 P Q a w := by
 have plain : ∀ (c : Code) (ac : zAz), zBG P nt c = some ac → ∀ (Y : Ys Prop) (lo : Nat) (r : Option Nat) (ρ₀ : Ren) (m₀ : Mem) (w₀ : World), lo ≤ w₀.heap.size → YOk P Y id ρ₀ → (r = none ∨ zAY c = true) → ∀ (Q : Exit → Act → World → Prop) (K : Ex → zAa → Mem → Prop),
  (∀ (e : Ex) (ρ : Ren) (T : zAa) (m : Mem) (a : Act) (w : World), At lo ρ₀ m₀ w₀ nt ρ T m a w → K e T m → Q e.to a w) →
  ∀ (ρ : Ren) (T : zAa) (m : Mem) (a : Act) (w : World), At lo ρ₀ m₀ w₀ nt ρ T m a w → code pA cfy Y ac T m K → c.wpIn (Fr r) 0 P Q a w :=
  fun c ac h Y lo r ρ₀ m₀ w₀ hlo hY hr Q K hQ ρ T m a w hat hH => zIJ (A := pA) (H := id) zAX hcf hmix c ac h Y lo r ρ₀ m₀ w₀ hlo hY hr Q K hQ ρ T m a w hat hH
 intro c
 induction c with
 | seq x y ihx ihy =>
  intro ac h Y lo r ρ₀ m₀ w₀ hlow hlo hY hr Q K hQ ρ T m a w hat hH
  have h0 := h
  simp only [zBG] at h
  split at h
  ·rename_i ax ay hx hy
   simp only [Option.some.injEq] at h; subst h
   rcases hH with hH | hH
   ·exact plain _ _ h0 Y lo r ρ₀ m₀ w₀ hlo hY hr Q K hQ ρ T m a w hat hH
   have hr1 : (r = none ∨ zAY x = true) ∧ (r = none ∨ zAY y = true) := by
    rcases hr with h | h
    ·exact ⟨.inl h, .inl h⟩
    ·simp only [zAY, Bool.and_eq_true] at h; exact ⟨.inr h.1, .inr h.2⟩
   refine wpIn_seq (ihx ax hx Y lo r ρ₀ m₀ w₀ hlow hlo hY hr1.1 _ _ (fun e ρ' T' m' a' w' hat' h' => ?_) ρ T m a w hat hH)
   cases e with
   | normal => exact ihy ay hy Y lo r ρ₀ m₀ w₀ hlow hlo hY hr1.2 Q K hQ ρ' T' m' a' w' hat' h'
   | exit id => exact hQ (.exit id) ρ' T' m' a' w' hat' h'
   | ret => exact hQ .ret ρ' T' m' a' w' hat' h'
  ·cases h
 | block id c ih =>
  intro ac h Y lo r ρ₀ m₀ w₀ hlow hlo hY hr Q K hQ ρ T m a w hat hH
  have h0 := h
  simp only [zBG] at h
  split at h
  ·rename_i ac' hc
   simp only [Option.some.injEq] at h; subst h
   rcases hH with hH | hH
   ·exact plain _ _ h0 Y lo r ρ₀ m₀ w₀ hlo hY hr Q K hQ ρ T m a w hat hH
   refine wpIn_block (ih ac' hc Y lo r ρ₀ m₀ w₀ hlow hlo hY hr _ _ (fun e ρ' T' m' a' w' hat' h' => ?_) ρ T m a w hat hH)
   cases e with
   | normal => exact hQ .normal ρ' T' m' a' w' hat' h'
   | exit j =>
    simp only [Ex.to, Exit.inBlock]
    simp only at h'
    by_cases e : j = id
    ·rw [if_pos e]
     rw [zCG e, cond_true] at h'
     exact hQ .normal ρ' T' m' a' w' hat' h'
    ·rw [if_neg e]
     rw [zAS e, cond_false] at h'
     exact hQ (.exit j) ρ' T' m' a' w' hat' h'
   | ret => exact hQ .ret ρ' T' m' a' w' hat' h'
  ·cases h
 | loop c ih =>
  intro ac h Y lo r ρ₀ m₀ w₀ hlow hlo hY hr Q K hQ ρ T m a w hat hH
  have h0 := h
  simp only [zBG] at h
  split at h
  ·rename_i ac' hc
   simp only [Option.some.injEq] at h; subst h
   rcases hH with hH | hH
   ·exact plain _ _ h0 Y lo r ρ₀ m₀ w₀ hlo hY hr Q K hQ ρ T m a w hat hH
   have hr1 : r = none ∨ zAY c = true := by
    rcases hr with h | h
    ·exact .inl h
    ·exact .inr h
   exact wpIn_loop_rounds rounds (zHu hlow (fun Q' K' hQ' ρ T m a w hat h => ih ac' hc Y lo r ρ₀ m₀ w₀ hlow hlo hY hr1 Q' K' hQ' ρ T m a w hat h) hQ rounds ρ T m a w hat hH)
  ·cases h
 | skip => intro ac h Y lo r ρ₀ m₀ w₀ hlow hlo hY hr Q K hQ ρ T m a w hat hH; exact plain _ _ h Y lo r ρ₀ m₀ w₀ hlo hY hr Q K hQ ρ T m a w hat (by simp only [zBG, Option.some.injEq] at h; subst h; exact hH)
 | region id ops d =>
  intro ac h Y lo r ρ₀ m₀ w₀ hlow hlo hY hr Q K hQ ρ T m a w hat hH
  refine plain _ _ h Y lo r ρ₀ m₀ w₀ hlo hY hr Q K hQ ρ T m a w hat ?_
  simp only [zBG] at h
  rcases zEh h with ⟨l, rfl⟩ | ⟨t, l, rfl⟩
  ·exact hH
  ·exact hH
 | cond c x y ihx ihy =>
  intro ac h Y lo r ρ₀ m₀ w₀ hlow hlo hY hr Q K hQ ρ T m a w hat hH
  have h0 := h
  simp only [zBG] at h
  split at h
  ·rename_i c' ax ay hc hx hy
   simp only [Option.some.injEq] at h; subst h
   rcases hH with hH | hH
   ·exact plain _ _ h0 Y lo r ρ₀ m₀ w₀ hlo hY hr Q K hQ ρ T m a w hat hH
   have hr1 : (r = none ∨ zAY x = true) ∧ (r = none ∨ zAY y = true) := by
    rcases hr with h | h
    ·exact ⟨.inl h, .inl h⟩
    ·simp only [zAY, Bool.and_eq_true] at h; exact ⟨.inr h.1, .inr h.2⟩
   have hv := zAk hat.sr hc
   split at hH
   ·rename_i he
    rw [he] at hv
    generalize hg : a.eval c = v' at hv
    cases hv
    exact wpIn_cond_true hg (ihx ax hx Y lo r ρ₀ m₀ w₀ hlow hlo hY hr1.1 Q K hQ ρ T m a w hat hH)
   ·rename_i he
    rw [he] at hv
    generalize hg : a.eval c = v' at hv
    cases hv
    exact wpIn_cond_false hg (ihy ay hy Y lo r ρ₀ m₀ w₀ hlow hlo hY hr1.2 Q K hQ ρ T m a w hat hH)
   ·exact hH.elim
  ·cases h
 | exit id => intro ac h Y lo r ρ₀ m₀ w₀ hlow hlo hY hr Q K hQ ρ T m a w hat hH; exact plain _ _ h Y lo r ρ₀ m₀ w₀ hlo hY hr Q K hQ ρ T m a w hat (by simp only [zBG, Option.some.injEq] at h; subst h; exact hH)
 | ret => intro ac h Y lo r ρ₀ m₀ w₀ hlow hlo hY hr Q K hQ ρ T m a w hat hH; exact plain _ _ h Y lo r ρ₀ m₀ w₀ hlo hY hr Q K hQ ρ T m a w hat (by simp only [zBG, Option.some.injEq] at h; subst h; exact hH)
 | rangeFunc f ps x y ihx ihy =>
  intro ac h Y lo r ρ₀ m₀ w₀ hlow hlo hY hr Q K hQ ρ T m a w hat hH
  refine plain _ _ h Y lo r ρ₀ m₀ w₀ hlo hY hr Q K hQ ρ T m a w hat ?_
  simp only [zBG] at h
  obtain ⟨_, h⟩ := zAF h
  split at h
  ·simp only [Option.some.injEq] at h; subst h; exact hH
  ·cases h
 | refuse why => intro ac h Y lo r ρ₀ m₀ w₀ hlow hlo hY hr Q K hQ ρ T m a w hat hH; exact plain _ _ h Y lo r ρ₀ m₀ w₀ hlo hY hr Q K hQ ρ T m a w hat (by simp only [zBG, Option.some.injEq] at h; subst h; exact hH)
 | _ => intro ac h; simp only [zBG] at h; cases h
end
section
variable (cfp : CFP) (cfy : Ys Prop → CF Prop) (B : Nat)
end
section
variable {cfp : CFP}
end
def backS (l : List Nat) (L : List (Sl × V)) : List (Sl × V) := L.map fun x => (x.1, x.2.back l)
theorem allS_back {l : List Nat} {T : zAa} : ∀ {L : List (Sl × V)}, zAG T L → zAG (T.back l) (backS l L)
 | [], _ => trivial
 | (s, v) :: L, h => ⟨by rw [zAa.get_back, h.1], allS_back h.2⟩
def preOkD (B N : Nat) (σ : Nat → Nat) (m : Mem) : Nat → List zAe → Prop
 | _, [] => True
 | i, o :: l => (o = .dead ∨ (o.lowIt B = true ∧ m.get (σ i) = some o) ∨ m.get (σ i) = some (o.ren σ) ∧ o.bel (fun c => Nat.blt c N) = true) ∧ preOkD B N σ m (i + 1) l
theorem zIw {B N : Nat} {σ : Nat → Nat} {m : Mem} : ∀ {l : List zAe} {i : Nat}, preOkD B N σ m i l → ∀ (c : Nat) (o : zAe), l[c]? = some o → o = .dead ∨ (o.lowIt B = true ∧ m.get (σ (i + c)) = some o) ∨ m.get (σ (i + c)) = some (o.ren σ) ∧ o.bel (fun c => Nat.blt c N) = true
 | u :: l, i, h, 0, o, e => by simp at e; subst e; exact h.1
 | u :: l, i, h, c + 1, o, e => by
  have := zIw h.2 c o (by simpa using e)
  rwa [show i + 1 + c = i + (c + 1) by omega] at this
theorem renM_of {B : Nat} {l : List Nat} {m : Mem} {objs : List zAe} (hB : l.take B = List.range B) (hBl : B ≤ l.length) (hl : (zDj l && Nat.beq l.length objs.length) = true) (h3 : preOkD B objs.length (zAJ l) m 0 objs) : RenM B l m (zB1 objs) := by
 simp only [Bool.and_eq_true] at hl
 have hlen := Nat.eq_of_beq_eq_true hl.2
 have nth : ∀ (l : List Nat) (b : Nat), b < l.length → zAJ l b = l.getD b 0 := by
  intro l
  induction l with
  | nil => intro b h; simp at h
  | cons x l ih =>
   intro b h
   cases b with
   | zero => rfl
   | succ b => simp only [zAJ, ih b (by simpa using h)]; simp
 refine ⟨fun b hb => ?_, by show B ≤ objs.length; omega, by show objs.length = l.length; omega, hl.1, fun b o h => ?_⟩
 ·rw [nth l b (by omega)]
  have h1 : (l.take B)[b]? = (List.range B)[b]? := by rw [hB]
  rw [List.getElem?_take, if_pos hb, List.getElem?_range hb] at h1
  rw [List.getD_eq_getElem?_getD, h1]; rfl
 ·rw [zDk] at h
  refine ⟨(List.getElem?_eq_some_iff.1 h).1, ?_⟩
  have := zIw h3 b o h
  rw [Nat.zero_add] at this
  exact this
section
variable {cfy : Ys Prop → CF Prop} {sN sI sB : Sl} {x : Nat} {body : zAz}
end
end Go.AM
