/- An abstract machine: an addition. No condition. -/
import Derived.Test.YtefklpegpecliaaAM36
import Derived.Test.YtefklpegpecliaaAMb
/-
  AM, part 39: loops whose rounds lay new blocks: at a loop's head slots and memory may be said in other names, and blocks that no slot holds be forgotten.
-/
namespace Go.AM
open Go

/-- Slots and memory in other names: 'B' names stay. -/
structure Sub (nt B : Nat) (T : Slots) (m : Mem) (T' : Slots) (m' : Mem) (σ : Nat → Nat) : Prop where
  low : ∀ b, b < B → σ b = b
  next : B ≤ m'.next
  slots : ∀ n, n < nt → T.get (slotOf n) = (T'.get (slotOf n)).ren σ ∧ (T'.get (slotOf n)).bel (fun c => Nat.blt c m'.next) = true
  objs : ∀ b o, m'.get b = some o → m.get (σ b) = some (o.ren σ) ∧ o.bel (fun c => Nat.blt c m'.next) = true ∧ b < m'.next
  inj : ∀ b c o u, m'.get b = some o → m'.get c = some u → σ b = σ c → b = c

theorem At.sub {lo : Nat} {ρ₀ : Ren} {m₀ : Mem} {w₀ : World} {nt : Nat} {ρ : Ren} {T : Slots} {m : Mem} {a : Act} {w : World} (hlow : ∀ b i, ρ₀ b = some i → b < m₀.next) (h : At lo ρ₀ m₀ w₀ nt ρ T m a w) {T' : Slots} {m' : Mem} {σ : Nat → Nat} (hs : Sub nt m₀.next T m T' m' σ) :
    At lo ρ₀ m₀ w₀ nt (fun c => if c < m'.next then ρ (σ c) else none) T' m' a w := by
  let ρ' : Ren := fun c => if c < m'.next then ρ (σ c) else none
  have r0 : ∀ c i, ρ' c = some i → c < m'.next ∧ ρ (σ c) = some i := by
    intro c i h
    simp only [ρ'] at h
    split at h
    · exact ⟨by assumption, h⟩
    · cases h
  have r1 : ∀ c i, (fun c => Nat.blt c m'.next) c = true → ρ (σ c) = some i → ρ' c = some i := by
    intro c i h1 h2
    simp only [ρ']
    rw [if_pos (nblt_iff.1 h1)]; exact h2
  have hm := h.mr
  have hx := h.ext
  refine ⟨⟨h.sr.size, h.sr.le, fun n hn => ?_⟩, ⟨fun c i hc => ?_, fun c i o hc ho => ?_, fun b c i j o u hb hc hij ho hw hu hl => ?_⟩, ⟨fun b i hb => ?_, hx.size, hs.next, fun b i hb => ?_, hx.keep, fun b i o hb ho hw hlt => ?_, hx.mute⟩, h.df⟩
  · have h1 := h.sr.get n hn
    obtain ⟨h2, h3⟩ := hs.slots n hn
    rw [h2] at h1
    exact VR.bwd r1 _ h1 h3
  · obtain ⟨h1, h2⟩ := r0 c i hc
    exact ⟨h1, (hm.lt _ _ h2).2⟩
  · obtain ⟨h1, h2⟩ := r0 c i hc
    obtain ⟨h3, h4, _⟩ := hs.objs c o ho
    exact (hm.obj _ _ _ h2 h3).bwd r1 h4
  · obtain ⟨h1, h2⟩ := r0 b i hb
    obtain ⟨h3, h4⟩ := r0 c j hc
    obtain ⟨e1, e2, _⟩ := hs.objs b o ho
    obtain ⟨e3, e4, _⟩ := hs.objs c u hu
    exact hs.inj b c o u ho hu (hm.inj _ _ _ _ _ _ h2 h4 hij e1 (by rw [AObj.ren_wr e2]; exact hw) e3 (by rw [AObj.ren_live e4]; exact hl))
  · have h1 := hx.ren b i hb
    have h2 : b < m₀.next ∨ m₀.next ≤ b := Nat.lt_or_ge _ _
    rcases h2 with h2 | h2
    · show ρ' b = some i
      have hn := hs.next
      simp only [ρ']
      rw [if_pos (by omega), hs.low b h2]; exact h1
    · exact absurd (hlow b i hb) (by omega)
  · obtain ⟨h1, h2⟩ := r0 b i hb
    by_cases h3 : b < m₀.next
    · rw [hs.low b h3] at h2
      exact hx.fresh b i h2
    · exact .inr (by omega)
  · obtain ⟨h1, h2⟩ := r0 b i hb
    obtain ⟨e1, e2, _⟩ := hs.objs b o ho
    exact hx.old _ _ _ h2 e1 (by rw [AObj.ren_wr e2]; exact hw) hlt

/-- A loop with names said anew at its head. -/
def iterG (nt B : Nat) (body : Slots → Mem → (Ex → Slots → Mem → Prop) → Prop) : Nat → Slots → Mem → (Ex → Slots → Mem → Prop) → Prop
  | 0, _, _, _ => False
  | n + 1, T, m, K => ∃ (T' : Slots) (m' : Mem) (σ : Nat → Nat), Sub nt B T m T' m' σ ∧ body T' m' fun e T m => match e with
    | .normal => iterG nt B body n T m K
    | e => K e T m
section
variable (cfy : Ys Prop → CF Prop) (Y : Ys Prop) (nt B : Nat)
/-- Code in which loops may be such. -/
def codeG : ACode → Slots → Mem → (Ex → Slots → Mem → Prop) → Prop
  | .seq a b, T, m, K => code pA cfy Y (.seq a b) T m K ∨ codeG a T m fun e T' m' => match e with
    | .normal => codeG b T' m' K
    | e => K e T' m'
  | .block id b, T, m, K => code pA cfy Y (.block id b) T m K ∨ codeG b T m fun e T' m' => match e with
    | .exit j => bif Nat.beq j id then K .normal T' m' else K e T' m'
    | e => K e T' m'
  | .loop b, T, m, K => code pA cfy Y (.loop b) T m K ∨ iterG nt B (code pA cfy Y b) rounds T m K
  | .skip, T, m, K => code pA cfy Y .skip T m K
  | .ops l, T, m, K => code pA cfy Y (.ops l) T m K
  | .draw l s, T, m, K => code pA cfy Y (.draw l s) T m K
  | .cond c a b, T, m, K => code pA cfy Y (.cond c a b) T m K
  | .exit id, T, m, K => code pA cfy Y (.exit id) T m K
  | .ret, T, m, K => code pA cfy Y .ret T m K
  | .rangeFunc f ps a b, T, m, K => code pA cfy Y (.rangeFunc f ps a b) T m K
def body1G (f : AFunc) (args : List V) (m : Mem) (K : V → Mem → Prop) : Prop :=
  bif Nat.ble args.length f.nt then
    codeG cfy Y f.nt m.next f.body (fillS 0 args slots0) m fun e T m' => match e with
      | .exit _ => False
      | _ => match result f T m' with | some v => K v m' | none => False
  else False
end

section
variable {P : Program} {cfy : Ys Prop → CF Prop} {nt : Nat}
theorem iterG_sound {lo : Nat} {r : Option Nat} {ρ₀ : Ren} {m₀ : Mem} {w₀ : World} (hlow : ∀ b i, ρ₀ b = some i → b < m₀.next) {c : Code} {body : Slots → Mem → (Ex → Slots → Mem → Prop) → Prop} {Q : Exit → Act → World → Prop} {K : Ex → Slots → Mem → Prop}
    (hb : ∀ (Q' : Exit → Act → World → Prop) (K' : Ex → Slots → Mem → Prop), (∀ (e : Ex) (ρ : Ren) (T : Slots) (m : Mem) (a : Act) (w : World), At lo ρ₀ m₀ w₀ nt ρ T m a w → K' e T m → Q' e.to a w) →
      ∀ (ρ : Ren) (T : Slots) (m : Mem) (a : Act) (w : World), At lo ρ₀ m₀ w₀ nt ρ T m a w → body T m K' → c.wpIn (Fr r) 0 P Q' a w)
    (hQ : ∀ (e : Ex) (ρ : Ren) (T : Slots) (m : Mem) (a : Act) (w : World), At lo ρ₀ m₀ w₀ nt ρ T m a w → K e T m → Q e.to a w) :
    ∀ (n : Nat) (ρ : Ren) (T : Slots) (m : Mem) (a : Act) (w : World), At lo ρ₀ m₀ w₀ nt ρ T m a w → iterG nt m₀.next body n T m K → roundsIn (Fr r) P c Q n a w
  | 0, ρ, T, m, a, w, hat, h => h.elim
  | n + 1, ρ, T, m, a, w, hat, h => by
    obtain ⟨T', m', σ, h1, h2⟩ := h
    refine hb _ _ (fun e ρ' T' m' a' w' hat' h' => ?_) _ T' m' a w (hat.sub hlow h1) h2
    cases e with
    | normal => exact iterG_sound hlow hb hQ n ρ' T' m' a' w' hat' h'
    | exit id => exact hQ (.exit id) ρ' T' m' a' w' hat' h'
    | ret => exact hQ .ret ρ' T' m' a' w' hat' h'

theorem region_form {ops : Array Oper} {d : Bool} {ac : ACode} (h : compRegion P nt ops d = some ac) : (∃ l, ac = .ops l) ∨ ∃ t l, ac = .draw t l := by
  unfold compRegion at h
  split at h
  · cases h
  · cases d with
    | false =>
      simp only [Bool.not_false, cond_true, Option.some.injEq] at h
      exact .inl ⟨_, h.symm⟩
    | true =>
      simp only [Bool.not_true, cond_false] at h
      obtain ⟨_, h⟩ := bif_some h
      simp only [Option.some.injEq] at h
      exact .inr ⟨_, _, h.symm⟩
theorem codeG_sound (hcf : CFOk P cfy id) (hmix : P.follows .mixedOrders = true) : ∀ (c : Code) (ac : ACode), comp P nt c = some ac → ∀ (Y : Ys Prop) (lo : Nat) (r : Option Nat) (ρ₀ : Ren) (m₀ : Mem) (w₀ : World), (∀ b i, ρ₀ b = some i → b < m₀.next) → lo ≤ w₀.heap.size → YOk P Y id ρ₀ → (r = none ∨ noRange c = true) → ∀ (Q : Exit → Act → World → Prop) (K : Ex → Slots → Mem → Prop),
    (∀ (e : Ex) (ρ : Ren) (T : Slots) (m : Mem) (a : Act) (w : World), At lo ρ₀ m₀ w₀ nt ρ T m a w → K e T m → Q e.to a w) →
    ∀ (ρ : Ren) (T : Slots) (m : Mem) (a : Act) (w : World), At lo ρ₀ m₀ w₀ nt ρ T m a w → codeG cfy Y nt m₀.next ac T m K → c.wpIn (Fr r) 0 P Q a w := by
  have plain : ∀ (c : Code) (ac : ACode), comp P nt c = some ac → ∀ (Y : Ys Prop) (lo : Nat) (r : Option Nat) (ρ₀ : Ren) (m₀ : Mem) (w₀ : World), lo ≤ w₀.heap.size → YOk P Y id ρ₀ → (r = none ∨ noRange c = true) → ∀ (Q : Exit → Act → World → Prop) (K : Ex → Slots → Mem → Prop),
    (∀ (e : Ex) (ρ : Ren) (T : Slots) (m : Mem) (a : Act) (w : World), At lo ρ₀ m₀ w₀ nt ρ T m a w → K e T m → Q e.to a w) →
    ∀ (ρ : Ren) (T : Slots) (m : Mem) (a : Act) (w : World), At lo ρ₀ m₀ w₀ nt ρ T m a w → code pA cfy Y ac T m K → c.wpIn (Fr r) 0 P Q a w :=
    fun c ac h Y lo r ρ₀ m₀ w₀ hlo hY hr Q K hQ ρ T m a w hat hH => code_sound (A := pA) (H := id) pHolds hcf hmix c ac h Y lo r ρ₀ m₀ w₀ hlo hY hr Q K hQ ρ T m a w hat hH
  intro c
  induction c with
  | seq x y ihx ihy =>
    intro ac h Y lo r ρ₀ m₀ w₀ hlow hlo hY hr Q K hQ ρ T m a w hat hH
    have h0 := h
    simp only [comp] at h
    split at h
    · rename_i ax ay hx hy
      simp only [Option.some.injEq] at h; subst h
      rcases hH with hH | hH
      · exact plain _ _ h0 Y lo r ρ₀ m₀ w₀ hlo hY hr Q K hQ ρ T m a w hat hH
      have hr1 : (r = none ∨ noRange x = true) ∧ (r = none ∨ noRange y = true) := by
        rcases hr with h | h
        · exact ⟨.inl h, .inl h⟩
        · simp only [noRange, Bool.and_eq_true] at h; exact ⟨.inr h.1, .inr h.2⟩
      refine wpIn_seq (ihx ax hx Y lo r ρ₀ m₀ w₀ hlow hlo hY hr1.1 _ _ (fun e ρ' T' m' a' w' hat' h' => ?_) ρ T m a w hat hH)
      cases e with
      | normal => exact ihy ay hy Y lo r ρ₀ m₀ w₀ hlow hlo hY hr1.2 Q K hQ ρ' T' m' a' w' hat' h'
      | exit id => exact hQ (.exit id) ρ' T' m' a' w' hat' h'
      | ret => exact hQ .ret ρ' T' m' a' w' hat' h'
    · cases h
  | block id c ih =>
    intro ac h Y lo r ρ₀ m₀ w₀ hlow hlo hY hr Q K hQ ρ T m a w hat hH
    have h0 := h
    simp only [comp] at h
    split at h
    · rename_i ac' hc
      simp only [Option.some.injEq] at h; subst h
      rcases hH with hH | hH
      · exact plain _ _ h0 Y lo r ρ₀ m₀ w₀ hlo hY hr Q K hQ ρ T m a w hat hH
      refine wpIn_block (ih ac' hc Y lo r ρ₀ m₀ w₀ hlow hlo hY hr _ _ (fun e ρ' T' m' a' w' hat' h' => ?_) ρ T m a w hat hH)
      cases e with
      | normal => exact hQ .normal ρ' T' m' a' w' hat' h'
      | exit j =>
        simp only [Ex.to, Exit.inBlock]
        simp only at h'
        by_cases e : j = id
        · rw [if_pos e]
          rw [nbeqT e, cond_true] at h'
          exact hQ .normal ρ' T' m' a' w' hat' h'
        · rw [if_neg e]
          rw [nbeqF e, cond_false] at h'
          exact hQ (.exit j) ρ' T' m' a' w' hat' h'
      | ret => exact hQ .ret ρ' T' m' a' w' hat' h'
    · cases h
  | loop c ih =>
    intro ac h Y lo r ρ₀ m₀ w₀ hlow hlo hY hr Q K hQ ρ T m a w hat hH
    have h0 := h
    simp only [comp] at h
    split at h
    · rename_i ac' hc
      simp only [Option.some.injEq] at h; subst h
      rcases hH with hH | hH
      · exact plain _ _ h0 Y lo r ρ₀ m₀ w₀ hlo hY hr Q K hQ ρ T m a w hat hH
      have hr1 : r = none ∨ noRange c = true := by
        rcases hr with h | h
        · exact .inl h
        · exact .inr h
      exact wpIn_loop_rounds rounds (iterG_sound hlow (fun Q' K' hQ' ρ T m a w hat h => plain c ac' hc Y lo r ρ₀ m₀ w₀ hlo hY hr1 Q' K' hQ' ρ T m a w hat h) hQ rounds ρ T m a w hat hH)
    · cases h
  | skip => intro ac h Y lo r ρ₀ m₀ w₀ hlow hlo hY hr Q K hQ ρ T m a w hat hH; exact plain _ _ h Y lo r ρ₀ m₀ w₀ hlo hY hr Q K hQ ρ T m a w hat (by simp only [comp, Option.some.injEq] at h; subst h; exact hH)
  | region id ops d =>
    intro ac h Y lo r ρ₀ m₀ w₀ hlow hlo hY hr Q K hQ ρ T m a w hat hH
    refine plain _ _ h Y lo r ρ₀ m₀ w₀ hlo hY hr Q K hQ ρ T m a w hat ?_
    simp only [comp] at h
    rcases region_form h with ⟨l, rfl⟩ | ⟨t, l, rfl⟩
    · exact hH
    · exact hH
  | cond c x y ihx ihy =>
    intro ac h Y lo r ρ₀ m₀ w₀ hlow hlo hY hr Q K hQ ρ T m a w hat hH
    refine plain _ _ h Y lo r ρ₀ m₀ w₀ hlo hY hr Q K hQ ρ T m a w hat ?_
    simp only [comp] at h
    split at h
    · simp only [Option.some.injEq] at h; subst h; exact hH
    · cases h
  | exit id => intro ac h Y lo r ρ₀ m₀ w₀ hlow hlo hY hr Q K hQ ρ T m a w hat hH; exact plain _ _ h Y lo r ρ₀ m₀ w₀ hlo hY hr Q K hQ ρ T m a w hat (by simp only [comp, Option.some.injEq] at h; subst h; exact hH)
  | ret => intro ac h Y lo r ρ₀ m₀ w₀ hlow hlo hY hr Q K hQ ρ T m a w hat hH; exact plain _ _ h Y lo r ρ₀ m₀ w₀ hlo hY hr Q K hQ ρ T m a w hat (by simp only [comp, Option.some.injEq] at h; subst h; exact hH)
  | rangeFunc f ps x y ihx ihy =>
    intro ac h Y lo r ρ₀ m₀ w₀ hlow hlo hY hr Q K hQ ρ T m a w hat hH
    refine plain _ _ h Y lo r ρ₀ m₀ w₀ hlo hY hr Q K hQ ρ T m a w hat ?_
    simp only [comp] at h
    obtain ⟨_, h⟩ := bif_some h
    split at h
    · simp only [Option.some.injEq] at h; subst h; exact hH
    · cases h
  | refuse why => intro ac h Y lo r ρ₀ m₀ w₀ hlow hlo hY hr Q K hQ ρ T m a w hat hH; exact plain _ _ h Y lo r ρ₀ m₀ w₀ hlo hY hr Q K hQ ρ T m a w hat (by simp only [comp, Option.some.injEq] at h; subst h; exact hH)
  | _ => intro ac h; simp only [comp] at h; cases h

theorem func_soundG (hcf : CFOk P cfy id) (hmix : P.follows .mixedOrders = true) {f : FuncId} {fn : Func} (hf : P.funcs[f]? = some fn) {af : AFunc} (hc : compFunc P fn = some af) {Y : Ys Prop} {ρ : Ren} (hY : YOk P Y id ρ) {m : Mem} {w : World} (hm : MR ρ m w)
    {args : List V} {args' : List Value} (ha : VRs ρ args args') {K : V → Mem → Prop} (hH : body1G cfy Y af args m K) : Calls P f ⟨args'⟩ w (CallPost id ρ m w K) := by
  unfold compFunc at hc
  split at hc
  · rename_i c hb
    split at hc
    · rename_i ac ars h1 h2
      obtain ⟨h3, h4⟩ := bif_some hc
      simp only [Option.some.injEq] at h4
      subst h4
      unfold body1G at hH
      by_cases hl : args.length ≤ fn.ntmps
      · simp only [nble_iff.2 hl, cond_true] at hH
        refine (callsIn_wide (n := 0)).1 (callsIn_of_wp_marks (F := Fr none) hf hb trivial ?_)
        refine codeG_sound hcf hmix c ac h1 Y w.heap.size none ρ m w (fun b i h => (hm.lt b i h).1) (Nat.le_refl _) hY (.inl rfl) _ _ (fun e ρ' T m' a w' hat h' => ?_) ρ _ m _ w ⟨sr_enter ha hl (nble_iff.1 h3), hm, Ext.refl ρ m w, DOk.nil _ w⟩ hH
        have fin : (match result ⟨fn.ntmps, ars, ac⟩ T m' with | some v => K v m' | none => False) → LeavesInM (Fr none) 0 P fn a.tmps (CallPost id ρ m w K) a.defers .returning w' := by
          intro h''
          obtain ⟨rs, r1, r2, r3⟩ := hat.df
          rw [r1]
          refine leaves_marks rs w' hat.mr r2 r3 fun w2 g1 g2 g3 g4 => ?_
          split at h''
          · rename_i v hv
            obtain ⟨v', h5, h6⟩ := result_sound (af := ⟨fn.ntmps, ars, ac⟩) h2 hat.sr g1 hv
            refine ⟨v', h5, ρ', v, m', h6, g1, ?_, h''⟩
            exact ⟨hat.ext.ren, by rw [g2]; exact hat.ext.size, hat.ext.next, hat.ext.fresh, fun k hk hro => by rw [g4 k hk]; exact hat.ext.keep k hk hro, hat.ext.old, hat.ext.mute.trans g3⟩
          · exact h''.elim
        cases e with
        | normal => exact fin h'
        | exit id => exact h'.elim
        | ret => exact fin h'
      · have : Nat.ble args.length fn.ntmps = false := by
          cases e : Nat.ble args.length fn.ntmps with
          | false => rfl
          | true => exact (hl (nble_iff.1 e)).elim
        simp only [this, cond_false] at hH
    · cases hc
  · cases hc
end
end Go.AM
