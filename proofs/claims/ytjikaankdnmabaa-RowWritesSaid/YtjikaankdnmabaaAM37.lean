/- An abstract machine: an addition. No condition. -/
import Derived.Test.YtjikaankdnmabaaAM34
import Derived.Test.YtjikaankdnmabaaAMb
namespace Go.AM
open Go
inductive Hd where
  | slice (len sz : Nat)
  | map
def Hd.v (b : Nat) : Hd → V
  | .slice len sz => .slice b 0 len len sz
  | .map => .map b
def layV (h : Hd) (rest : Option (List V)) (b : Nat) : V :=
  match rest with
  | none => h.v b
  | some r => .tuple (h.v b :: r)
def plainsO : Option (List V) → Bool
  | none => true
  | some r => plains r
def plainEs : List (V × V × Nat) → Bool
  | [] => true
  | (k, v, _) :: l => k.plain && v.plain && plainEs l
def AObj.plain : AObj → Bool
  | .cells cs ro => !ro && plains cs
  | .map es _ ro => !ro && plainEs es
  | _ => false
inductive Lay where
  | plain (v : V)
  | new (h : Hd) (rest : Option (List V)) (o : AObj)
def Lay.isPlain : Lay → Bool
  | .plain v => v.plain
  | .new _ rest o => plainsO rest && o.plain
def Lay.go {R : Type} (L : Lay) (m : Mem) (K : V → Mem → R) : R :=
  match L with
  | .plain v => K v m
  | .new h rest o => K (layV h rest m.next) (m.new o)
theorem plains_get : ∀ {l : List V} {k : Nat} {v : V}, plains l = true → l[k]? = some v → v.plain = true
  | v :: l, 0, u, h, e => by simp only [plains, Bool.and_eq_true] at h; simp at e; subst e; exact h.1
  | v :: l, k + 1, u, h, e => by simp only [plains, Bool.and_eq_true] at h; exact plains_get h.2 (by simpa using e)
theorem ERs.any {ρ ρ' : Ren} : ∀ {l : List (V × V × Nat)} {l' : List MapEntry}, ERs ρ l l' → plainEs l = true → ERs ρ' l l'
  | _, _, .nil, _ => .nil
  | _, _, .cons a b c, h => by
    simp only [plainEs, Bool.and_eq_true] at h
    exact .cons (a.any h.1.1) (b.any h.1.2) (c.any h.2)
theorem OR.any {ρ ρ' : Ren} {w : World} {i : Img} : ∀ {o : AObj}, OR ρ w i o → o.plain = true → OR ρ' w i o
  | .cells cs ro, h, p => by
    obtain ⟨cs', ty, lo, hi, h1, h2, h3, h4⟩ := h
    simp only [AObj.plain, Bool.and_eq_true] at p
    exact ⟨cs', ty, lo, hi, h1, h2, fun k v hk => let ⟨v', e1, e2⟩ := h3 k v hk; ⟨v', e1, e2.any (plains_get p.2 hk)⟩, h4⟩
  | .map es c ro, h, p => by
    obtain ⟨es', h1, h2⟩ := h
    simp only [AObj.plain, Bool.and_eq_true] at p
    exact ⟨es', h1, h2.any p.2⟩
  | .iter _ _ _ _, _, p => by cases p
  | .loop _ _, _, p => by cases p
  | .dead, _, p => by cases p
theorem AObj.wr_of_plain {o : AObj} (p : o.plain = true) : o.wr = true := by
  cases o <;> simp [AObj.plain] at p <;> simp [AObj.wr, p]
def AnswersL (P : Program) (n : Nat) (args' : List Value) (L : Lay) : Prop :=
  ∀ w, Calls P n ⟨args'⟩ w fun e w' => ∃ v', e = .returned v' ∧ Stays w w' ∧ match L with
    | .plain v => ∀ ρ, VR ρ v v'
    | .new h rest o => ∃ i : Img, w.heap.size ≤ i.b ∧ i.b < w'.heap.size ∧ w.heap.size ≤ w'.heap.size ∧ (∀ (ρ : Ren) (b : Nat), ρ b = some i → VR ρ (layV h rest b) v') ∧ ∀ ρ, OR ρ w' i o
theorem hd_any {ρ ρ' : Ren} {h : Hd} {b b' : Nat} {v' : Value} (hv : VR ρ (h.v b) v') {i : Img} (hb : ρ b = some i) (hb' : ρ' b' = some i) : VR ρ' (h.v b') v' := by
  cases h with
  | slice len sz =>
    cases hv with | slice e1 e2 e3 e4 e5 =>
    rw [hb] at e1; cases e1
    exact .slice hb' e2 e3 e4 e5
  | map =>
    cases hv with | map e1 =>
    rw [hb] at e1; cases e1
    exact .map hb'
theorem hd_has {ρ : Ren} {h : Hd} {b : Nat} {v' : Value} (hv : VR ρ (h.v b) v') : ∃ i, ρ b = some i := by
  cases h with
  | slice len sz => cases hv with | slice e1 _ _ _ _ => exact ⟨_, e1⟩
  | map => cases hv with | map e1 => exact ⟨_, e1⟩
theorem layV_any {ρ ρ' : Ren} {h : Hd} {rest : Option (List V)} {b b' : Nat} {v' : Value} (hr : plainsO rest = true) (hv : VR ρ (layV h rest b) v') {i : Img} (hb : ρ b = some i) (hb' : ρ' b' = some i) : VR ρ' (layV h rest b') v' := by
  cases rest with
  | none => exact hd_any hv hb hb'
  | some r =>
    simp only [layV] at hv ⊢
    cases hv with | tuple hc =>
    cases hc with | cons h1 h2 =>
    exact .tuple (.cons (hd_any h1 hb hb') (VRs.any h2 hr))
theorem layV_has {ρ : Ren} {h : Hd} {rest : Option (List V)} {b : Nat} {v' : Value} (hv : VR ρ (layV h rest b) v') : ∃ i, ρ b = some i := by
  cases rest with
  | none => exact hd_has hv
  | some r =>
    simp only [layV] at hv
    cases hv with | tuple hc =>
    cases hc with | cons h1 h2 => exact hd_has h1
def endL (L : Lay) (u : V) (m : Mem) : Prop :=
  match L with
  | .plain v => u = v
  | .new h rest o => ∃ b, u = layV h rest b ∧ m.get b = some o
theorem answersL_of {R : Type} {A : Ans R} {H : R → Prop} {P : Program} (hA : Holds A H) (hmix : P.follows .mixedOrders = true) {n : Nat} {af : AFunc} (hok : FOk P n af) {cfy : Ys R → CF R} (hcf : CFOk P cfy H) {args : List V} {args' : List Value} {ρ : Ren} (ha : VRs ρ args args') (hp : plains args = true)
    {L : Lay} (hL : L.isPlain = true) {K : V → Mem → R} (hK : ∀ u m, H (K u m) → endL L u m) (hw : H (body1 A cfy Ys.none af args ⟨0, .leaf⟩ K)) : AnswersL P n args' L := by
  intro w
  obtain ⟨fn, h3, h4, _⟩ := hok
  have h := func_sound (A := A) (H := H) hA hcf hmix h3 h4 (Y := Ys.none) (ρ := fun _ => none) YOk.none (mr_none ⟨0, .leaf⟩ w) (VRs.any ha hp) hw
  refine h.mono fun e w' he => ?_
  cases e with
  | panicked c => exact he.elim
  | outgrown => exact he.elim
  | returned v' =>
    obtain ⟨ρ', u, m', g1, g2, g3, g4⟩ := he
    have g5 := hK u m' g4
    refine ⟨v', rfl, g3.stays (fun b i o h => nomatch h), ?_⟩
    cases L with
    | plain v => cases g5; exact fun ρ => g1.any hL
    | new h rest o =>
      obtain ⟨b, rfl, hb⟩ := g5
      simp only [Lay.isPlain, Bool.and_eq_true] at hL
      obtain ⟨i, hi⟩ := layV_has g1
      refine ⟨i, ?_, (g2.lt b i hi).2, g3.size, fun ρ b' hb' => layV_any hL.1 g1 hi hb', fun ρ => (g2.obj b i o hi hb).any hL.2⟩
      refine Nat.le_of_not_lt fun hlt => ?_
      obtain ⟨c, j, u, e, _⟩ := g3.old b i o hi hb (AObj.wr_of_plain hL.2) hlt
      cases e
def lastL {R : Type} (n : Nat) (S : List V → Option Lay) (last : CF R) : CF R := fun f args m K =>
  match f with
  | .func (.func g) [] [] => bif Nat.beq g n then (match S args with | some L => L.go m K | none => last (.func (.func g) [] []) args m K) else last (.func (.func g) [] []) args m K
  | f => last f args m K
theorem lastL_ok {R : Type} {H : R → Prop} {P : Program} {n : Nat} (hcl : Callable P n) {S : List V → Option Lay} (hS : ∀ (ρ : Ren) (args : List V) (args' : List Value) (L : Lay), S args = some L → VRs ρ args args' → L.isPlain = true ∧ AnswersL P n args' L) {last : CF R} (hl : LastOk P last H) :
    LastOk P (lastL n S last) H := by
  intro ρ₀ ρ m w f f' args args' K hle hm hf ha hH
  unfold lastL at hH
  split at hH
  · rename_i g
    by_cases e : g = n
    · subst e
      rw [nbeqT rfl, cond_true] at hH
      split at hH
      · rename_i L hL
        cases hf with | func h1 h2 =>
        cases h1; cases h2
        refine .inl ⟨g, _, callRun_of hcl _ _ w, ?_⟩
        rw [List.append_nil]
        obtain ⟨hp, hAn⟩ := hS ρ args args' L hL ha
        refine (hAn w).mono fun e w' ⟨v', he, hs, hx⟩ => ?_
        subst he
        cases L with
        | plain v => exact ⟨ρ, v, m, hx ρ, hm.stays hs, Ext.of_stays hs, hH⟩
        | new h rest o =>
          obtain ⟨i, i1, i2, i3, hv, ho⟩ := hx
          have hfree : ρ m.next = none := by
            cases e : ρ m.next with
            | none => rfl
            | some i => have := (hm.lt _ _ e).1; omega
          have hlep := Ren.le_put (i := i) hfree
          refine ⟨ρ.put m.next i, layV h rest m.next, m.new o, hv _ _ (Ren.put_self _ _ _), ⟨fun c j hc => ?_, fun c j u hc hu => ?_, fun c e j l u z hc he hjl hu huw hz hzl => ?_⟩, ⟨hlep, i3, by simp, fun c j hc => ?_, fun k hk _ => hs.2 k hk, fun c j u hc hu huw hlt => ?_, hs.1⟩, hH⟩
          · by_cases e : c = m.next
            · subst e; rw [Ren.put_self] at hc; cases hc; exact ⟨by simp, i2⟩
            · rw [Ren.put_ne e] at hc; have := hm.lt c j hc; simp; omega
          · rw [Mem.get_new] at hu
            by_cases e : c = m.next
            · subst e; rw [Ren.put_self] at hc; cases hc; rw [if_pos rfl] at hu; cases hu; exact ho _
            · rw [Ren.put_ne e] at hc; rw [if_neg e] at hu
              exact (hm.obj c j u hc hu).mono hlep (hs.2 _ (hm.lt c j hc).2)
          · rw [Mem.get_new] at hu hz
            by_cases e1 : c = m.next
            · by_cases e2 : e = m.next
              · rw [e1, e2]
              · subst e1; rw [Ren.put_self] at hc; cases hc
                rw [Ren.put_ne e2] at he
                have := (hm.lt e l he).2; omega
            · by_cases e2 : e = m.next
              · subst e2; rw [Ren.put_self] at he; cases he
                rw [Ren.put_ne e1] at hc
                have := (hm.lt c j hc).2; omega
              · rw [Ren.put_ne e1] at hc; rw [Ren.put_ne e2] at he; rw [if_neg e1] at hu; rw [if_neg e2] at hz
                exact hm.inj c e j l u z hc he hjl hu huw hz hzl
          · by_cases e : c = m.next
            · exact .inr (by omega)
            · rw [Ren.put_ne e] at hc; exact .inl hc
          · rw [Mem.get_new] at hu
            by_cases e : c = m.next
            · subst e; rw [Ren.put_self] at hc; cases hc; omega
            · rw [Ren.put_ne e] at hc; rw [if_neg e] at hu; exact ⟨c, j, u, hc, rfl, hu, huw⟩
      · exact hl ρ₀ ρ m w _ f' args args' K hle hm hf ha hH
    · rw [nbeqF e, cond_false] at hH
      exact hl ρ₀ ρ m w _ f' args args' K hle hm hf ha hH
  · exact hl ρ₀ ρ m w f f' args args' K hle hm hf ha hH
def sameEs : List (V × V × Nat) → List (V × V × Nat) → Bool
  | [], [] => true
  | (k, v, n) :: a, (k', v', n') :: b => k.same k' && v.same v' && Nat.beq n n' && sameEs a b
  | _, _ => false
def AObj.same : AObj → AObj → Bool
  | .cells a false, .cells b false => sames a b
  | .map a c false, .map b d false => sameEs a b && Nat.beq c d
  | _, _ => false
theorem mono_L {n : Nat} {S : List V → Option Lay} {last : CF Prop} (hl : ∀ f args m (K K' : V → Mem → Prop), (∀ v m, K v m → K' v m) → last f args m K → last f args m K') :
    ∀ f args m (K K' : V → Mem → Prop), (∀ v m, K v m → K' v m) → lastL n S last f args m K → lastL n S last f args m K' := by
  intro f args m K K' hk h
  unfold lastL at h ⊢
  split at h
  · rename_i g
    cases e : Nat.beq g n with
    | true =>
      simp only [e, cond_true] at h ⊢
      split at h
      · rename_i L _
        cases L <;> exact hk _ _ h
      · exact hl _ _ _ _ _ hk h
    | false => simp only [e, cond_false] at h ⊢; exact hl _ _ _ _ _ hk h
  · exact hl _ _ _ _ _ hk h
end Go.AM
