/- An abstract machine: an addition. No condition. -/
import Derived.Test.YtblblhfgpcgheaaAM44
import Derived.Test.YtblblhfgpcgheaaAMb
namespace Go.AM
theorem codeSD_of_vc {tab : Nat → Option AFunc} {last : CF Prop} (hl : MonoCF last) {d B : Nat} {c : ACode} {T : Slots} {m M : Mem} {E : Ex} {l : List (Sl × V)} (sc : Sc) {VC : Prop} (vc : VC) (e : VC = codePD (callP tab last d) (callD pA tab last d) B c T m sc fun e T' m' _ => endS E M l e T' m') (Y : Ys Prop)
    (K : Ex → Slots → Mem → Prop) (hK : ∀ T', allS T' l → K E T' M) : codeD (callD pA tab last d) Y B c T m K :=
  codePD_ok (callP_ok hl d Y) c (e ▸ vc) fun e T' m' _ h => by obtain ⟨rfl, rfl, h⟩ := h; exact hK T' h
theorem seqD {cf : Ys Prop → CF Prop} {Y : Ys Prop} {B : Nat} {a b : ACode} {T : Slots} {m M1 : Mem} {l1 : List (Sl × V)} {K : Ex → Slots → Mem → Prop}
    (h1 : ∀ K' : Ex → Slots → Mem → Prop, (∀ T', allS T' l1 → K' .normal T' M1) → code pA cf Y a T m K') (h2 : ∀ T', allS T' l1 → codeD cf Y B b T' M1 K) : codeD cf Y B (.seq a b) T m K :=
  .inr (codeD_of (h1 _ fun T' hT' => h2 T' hT'))
theorem body_retD {cf : Ys Prop → CF Prop} {Y : Ys Prop} {nt : Nat} {s : Sl} {c : ACode} {args : List V} {m : Mem} {v : V} {K : V → Mem → Prop} (hn : Nat.ble args.length nt = true)
    (h : ∀ K' : Ex → Slots → Mem → Prop, (∀ T' m', T'.get s = v → K' .ret T' m') → codeD cf Y m.next c (fillS 0 args slots0) m K') (hK : ∀ mm, K v mm) : body1D cf Y ⟨nt, [.tmp s], c⟩ args m K := by
  unfold body1D
  rw [hn, cond_true]
  refine h _ fun T' m' e => ?_
  simp only [result, resVs, resV, e]
  exact hK m'
end Go.AM
