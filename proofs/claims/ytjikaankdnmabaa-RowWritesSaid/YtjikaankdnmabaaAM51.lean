/- An abstract machine: an addition. No condition. -/
import Derived.Test.YtjikaankdnmabaaAM43
import Derived.ChangeMaps3
import Derived.Test.YtjikaankdnmabaaAMb
namespace Go.AM
open Go Go.WideShapes Go.ChangeShapes Go.ChangeMaps
theorem apart_gen {H α : Type} {f : MapEntry → Option ((Lit × DataW H) × α)} {l : List MapEntry} {E : List ((Lit × DataW H) × α)} (d : α) (hE : l.mapM f = some E) (hr : DataW.rising ((E.map (·.1)).foldr DataW.insert []) = true)
    {g : Value → Option Lit} (key : ∀ z y, f z = some y → g z.key = some y.1.1) : l.Pairwise fun p q => p.key ≠ q.key := by
  have hap := apart_of_rising _ hr
  have hreads := mapM_each hE
  have hE' := mapM_total ((.bool false, .nil), d) hreads
  obtain rfl := Option.some.inj (hE.symm.trans hE')
  rw [List.map_map, List.pairwise_map] at hap
  refine List.Pairwise.imp_of_mem ?_ hap
  intro a c ha hc hne he
  obtain ⟨ya, hya⟩ := hreads a ha
  obtain ⟨yc, hyc⟩ := hreads c hc
  have h1 := key _ _ hya
  have h2 := key _ _ hyc
  rw [he] at h1
  apply hne
  simp only [Function.comp, hya, hyc, Option.getD_some]
  exact Option.some.inj (h1.symm.trans h2)
theorem keys_apart {H : Type} {enc : TypeId × Value → H} {P : Program} {w : World} {base : Nat} {sp : Nat → Bool} {held : Bool} {t k e : TypeId} (ht : P.underlying t = some (.map k e)) {fuel : Nat} {x : DataW H × List MemPlace} {b : Nat} {es : Array MapEntry} {clock : Nat}
    (h : DataW.trod enc P w base sp held fuel t [.map (some b)] = some x) (hb : w.heap[b]? = some (.map es clock)) : es.toList.Pairwise fun p q => p.key ≠ q.key := by
  cases fuel with
  | zero => simp [DataW.trod] at h
  | succ n =>
    rw [DataW.trod_step] at h
    unfold DataW.trodStep at h
    rw [ht] at h
    simp only [hb] at h
    split at h
    · rw [Option.bind_eq_some_iff] at h
      obtain ⟨E, hE, h⟩ := h
      split at h
      · rename_i hr
        refine apart_gen (g := keyOf P k) [] hE hr fun z y hz => ?_
        simp only [Option.bind_eq_some_iff] at hz
        obtain ⟨kk, h1, h2⟩ := hz
        split at h2
        · simp only [Option.map_eq_some_iff] at h2
          obtain ⟨u, _, rfl⟩ := h2
          exact h1
        · cases h2
      · cases h
    · cases h
def IsMapK (w : World) (v : Value) : Prop := v = .map none ∨ ∃ (b : Nat) (es : Array MapEntry) (c : Nat) (L : List (Int × List Nat × Nat)), v = .map (some b) ∧ w.heap[b]? = some (.map es c) ∧ (∀ ρ : Ren, ERs ρ (mV L) es.toList) ∧ (∀ y ∈ L, y.2.2 < c) ∧ (L.map fun y => y.2.2).Nodup ∧ (L.map fun y => y.1).Nodup
theorem keys_of_es {ρ : Ren} : ∀ {L : List (Int × List Nat × Nat)} {l : List MapEntry}, ERs ρ (mV L) l → l.map (·.key) = L.map fun y => Value.int .i64 y.1
  | [], _, .nil => rfl
  | (n, s, t) :: L, _, .cons h1 h2 h3 => by
    cases h1
    simp only [List.map_cons, keys_of_es h3]
theorem open_gotK {H : Type} {enc : TypeId × Value → H} {P : Program} {w : World} {r : Reach} {b0 base : Nat} {sp : Nat → Bool} {held : Bool} {t k e : TypeId} (ht : P.underlying t = some (.map k e)) (hk : P.underlying k = some (.int .i64)) (he : P.underlying e = some .string) {v : Value} {d : DataW H} {ps : List MemPlace}
    (hval : Value.okWide P w r b0 t v) (hd : DataW.Trod enc P w base sp held t v d ps) : IsMapK w v := by
  rcases open_gotIS ht hk he hval hd with rfl | ⟨b, es, c, L, rfl, hb, h1, h2, h3⟩
  · exact .inl rfl
  · obtain ⟨fuel, hf⟩ := hd
    refine .inr ⟨b, es, c, L, rfl, hb, h1, h2, h3, ?_⟩
    have h4 := keys_apart ht (by simpa [Value.cells] using hf) hb
    have h5 : (es.toList.map (·.key)).Nodup := List.pairwise_map.2 h4
    rw [keys_of_es (h1 fun _ => none)] at h5
    refine List.Pairwise.imp ?_ (List.pairwise_map.1 h5) |> List.pairwise_map.2
    intro a c hne e
    exact hne (by rw [e])
end Go.AM
