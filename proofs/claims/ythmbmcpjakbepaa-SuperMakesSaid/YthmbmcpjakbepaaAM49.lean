/- An abstract machine: an addition. No condition. -/
import Derived.Test.YthmbmcpjakbepaaAM44
import Derived.Test.YthmbmcpjakbepaaAMb
namespace Go.AM
theorem codeRD_of_vc {tab : Nat → Option AFunc} {last : CF Prop} (hl : MonoCF last) {d B : Nat} {c : ACode} {T : Slots} {m : Mem} {s : Sl} {v : V} (sc : Sc) {VC : Prop} (vc : VC) (e : VC = codePD (callP tab last d) (callD pA tab last d) B c T m sc fun e T' m' _ => endR s v e T' m') (Y : Ys Prop)
    {K : Ex → Slots → Mem → Prop} (hK : ∀ T' m', T'.get s = v → K .ret T' m') : codeD (callD pA tab last d) Y B c T m K :=
  codePD_ok (callP_ok hl d Y) c (e ▸ vc) fun e T' m' _ h => by obtain ⟨rfl, h⟩ := h; exact hK _ _ h
theorem codeSD_of_vc {tab : Nat → Option AFunc} {last : CF Prop} (hl : MonoCF last) {d B : Nat} {c : ACode} {T : Slots} {m M : Mem} {E : Ex} {l : List (Sl × V)} (sc : Sc) {VC : Prop} (vc : VC) (e : VC = codePD (callP tab last d) (callD pA tab last d) B c T m sc fun e T' m' _ => endS E M l e T' m') (Y : Ys Prop)
    (K : Ex → Slots → Mem → Prop) (hK : ∀ T', allS T' l → K E T' M) : codeD (callD pA tab last d) Y B c T m K :=
  codePD_ok (callP_ok hl d Y) c (e ▸ vc) fun e T' m' _ h => by obtain ⟨rfl, rfl, h⟩ := h; exact hK T' h
theorem loopDD {cfy : Ys Prop → CF Prop} {b : ACode} {x B N : Nat} (hB : B ≤ N) (n : Nat) (hn : n < rounds) (M0 : Mem) (M Mg : Nat → Mem) (l : Nat → List (Sl × V)) (M1 : Mem) (l1 : List (Sl × V)) (h0 : DropM N M0 (M 0)) (hd : ∀ i, i < n → DropM N (Mg i) (M (i + 1))) (hl : ∀ i, belS N (l i) = true)
    (step : ∀ (Y : Ys Prop) (i : Nat) (T : Slots), i < n → allS T (l i) → ∀ K : Ex → Slots → Mem → Prop, (∀ T', allS T' (l (i + 1)) → K .normal T' (Mg i)) → codeD cfy Y B b T (M i) K)
    (fin : ∀ (Y : Ys Prop) (T : Slots), allS T (l n) → ∀ K : Ex → Slots → Mem → Prop, (∀ T', allS T' l1 → K (.exit x) T' M1) → codeD cfy Y B b T (M n) K) : LoopOkD cfy B b (.exit x) M0 (l 0) (fun _ => True) (fun _ => M1) (fun _ => l1) := by
  intro Y T hT K hK
  have go : ∀ (k i : Nat) (fuel : Nat) (m : Mem), i + k = n → k < fuel → DropM N m (M i) → ∀ T, allS T (l i) → iterD B (codeD cfy Y B b) fuel T m K := by
    intro k
    induction k with
    | zero =>
      intro i fuel m hi hf hm T hT
      obtain ⟨f, rfl⟩ : ∃ f, fuel = f + 1 := ⟨fuel - 1, by omega⟩
      have e : i = n := by omega
      subst e
      exact ⟨_, M i, .drop hB hm, fin Y _ (allS_cut (hl i) hT) _ fun T' h => hK [] trivial T' h⟩
    | succ k ih =>
      intro i fuel m hi hf hm T hT
      obtain ⟨f, rfl⟩ : ∃ f, fuel = f + 1 := ⟨fuel - 1, by omega⟩
      exact ⟨_, M i, .drop hB hm, step Y i _ (by omega) (allS_cut (hl i) hT) _ fun T' h => ih (i + 1) f _ (by omega) (by omega) (hd i (by omega)) T' h⟩
  exact go n 0 rounds M0 (by omega) hn h0 T hT
theorem seqD {cf : Ys Prop → CF Prop} {Y : Ys Prop} {B : Nat} {a b : ACode} {T : Slots} {m M1 : Mem} {l1 : List (Sl × V)} {K : Ex → Slots → Mem → Prop}
    (h1 : ∀ K' : Ex → Slots → Mem → Prop, (∀ T', allS T' l1 → K' .normal T' M1) → code pA cf Y a T m K') (h2 : ∀ T', allS T' l1 → codeD cf Y B b T' M1 K) : codeD cf Y B (.seq a b) T m K :=
  .inr (codeD_of (h1 _ fun T' hT' => h2 T' hT'))
theorem body_retD {cf : Ys Prop → CF Prop} {Y : Ys Prop} {nt : Nat} {s : Sl} {c : ACode} {args : List V} {m : Mem} {v : V} {K : V → Mem → Prop} (hn : Nat.ble args.length nt = true)
    (h : ∀ K' : Ex → Slots → Mem → Prop, (∀ T' m', T'.get s = v → K' .ret T' m') → codeD cf Y m.next c (fillS 0 args slots0) m K') (hK : ∀ mm, K v mm) : body1D cf Y ⟨nt, [.tmp s], c⟩ args m K := by
  unfold body1D
  rw [hn, cond_true]
  refine h _ fun T' m' e => ?_
  simp only [result, resVs, resV, e]
  exact hK m'
end Go.AM
