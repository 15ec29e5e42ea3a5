/- An abstract machine: an addition. No condition. -/
import Derived.Test.YtjikaankdnmabaaAM42
import Derived.ChangeMaps
import Derived.Test.YtjikaankdnmabaaAMb
namespace Go.AM
open Go Go.WideShapes Go.ChangeShapes Go.ChangeMaps
theorem cells_one {P : Program} {e : TypeId} (he : P.underlying e = some .string) {v : Value} (hf : v.formed P e = true) {s : ByteArray} (h : v.cells.toList = [.string s]) : v = .string s := by
  cases v <;> simp only [Value.cells] at h <;> first | (simp at h; done) | (simp at h; rw [h]) | skip
  all_goals first | (unfold Value.formed at hf; rw [he] at hf; simp at hf) | skip
theorem open_mapIS {H : Type} {enc : TypeId × Value → H} {P : Program} {w : World} {base : Nat} {sp : Nat → Bool} {held : Bool} {t k e : TypeId} (ht : P.underlying t = some (.map k e)) (hk : P.underlying k = some (.int .i64)) (he : P.underlying e = some .string) {fuel : Nat} {cs : List Value} {x : DataW H × List MemPlace}
    (h : DataW.trod enc P w base sp held fuel t cs = some x) :
    cs = [.map none] ∨ ∃ b es clock, cs = [.map (some b)] ∧ w.heap[b]? = some (.map es clock) ∧ (∀ y ∈ es.toList, y.born < clock ∧ (∃ n, y.key = .int .i64 n) ∧ ∃ s, y.val = .string s) ∧ (es.toList.map (·.born)).Nodup := by
  cases fuel with
  | zero => simp [DataW.trod] at h
  | succ n =>
    rw [DataW.trod_step] at h
    unfold DataW.trodStep at h
    rw [ht] at h
    split at h <;> simp_all
    rename_i b _
    cases hb : w.heap[b]? with
    | none => simp [hb] at h
    | some o =>
      cases o <;> simp [hb] at h
      rename_i es clock
      obtain ⟨⟨c1, c2, c3, c4⟩, h⟩ := h
      refine ⟨es, clock, rfl, ?_, nodup_of_eraseDups _ (by rw [c4]; simp)⟩
      intro y hy0
      have hy : y ∈ es.toList := by simpa using hy0
      have hborn : y.born < clock := by
        obtain ⟨i, hi⟩ := List.getElem?_of_mem hy
        have hlt : i < es.size := by
          have := (List.getElem?_eq_some_iff.1 hi).1
          simpa using this
        have h1 := c3 i hlt
        have h2 : es[i] = y := by
          have := (List.getElem?_eq_some_iff.1 hi).2
          simpa using this
        rwa [h2] at h1
      rw [Option.bind_eq_some_iff] at h
      obtain ⟨E, hE, _⟩ := h
      obtain ⟨z, hz⟩ := mapM_each hE y hy
      rw [Option.bind_eq_some_iff] at hz
      obtain ⟨key, hkey, hz⟩ := hz
      refine ⟨hborn, ?_, ?_⟩
      · unfold keyOf at hkey
        rw [hk] at hkey
        simp only at hkey
        unfold mapKey at hkey
        rw [hk] at hkey
        split at hkey
        · rename_i e1 _; cases e1
        · rename_i q q' n e1 e2
          cases e1
          split at hkey
          · rename_i hq; rw [hq.1] at e2; exact ⟨n, e2⟩
          · cases hkey
        · rename_i e1 _; cases e1
        · cases hkey
      · split at hz
        · rename_i hf
          cases n with
          | zero => simp [DataW.trod] at hz
          | succ n =>
            rw [DataW.trod_step] at hz
            unfold DataW.trodStep at hz
            rw [he] at hz
            simp only [Option.map_eq_some_iff] at hz
            obtain ⟨u, hu, _⟩ := hz
            clear hE c1 c2 c3 c4 hkey
            have hs : ∃ s, y.val.cells.toList = [.string s] := by
              generalize y.val.cells.toList = L at hu
              split at hu <;> first | exact ⟨_, rfl⟩ | (exfalso; simp_all; done) | simp_all
            obtain ⟨s, hs⟩ := hs
            exact ⟨s, cells_one he hf hs⟩
        · cases hz
def mV : List (Int × List Nat × Nat) → List En
  | [] => []
  | (n, s, t) :: l => (.int .i64 n, .str s, t) :: mV l
theorem erens_mV (σ : Nat → Nat) : ∀ L, erens σ (mV L) = mV L
  | [] => rfl
  | (n, s, t) :: l => by simp only [mV, erens, V.ren, erens_mV σ l]
theorem ebels_mV (p : Nat → Bool) : ∀ L, ebels p (mV L) = true
  | [] => rfl
  | (n, s, t) :: l => by simp only [mV, ebels, V.bel, ebels_mV p l, Bool.and_self]
theorem mV_length : ∀ L, (mV L).length = L.length
  | [] => rfl
  | (n, s, t) :: l => by simp only [mV, List.length_cons, mV_length l]
theorem mV_stamps : ∀ L, stamps (mV L) = L.map fun x => x.2.2
  | [] => rfl
  | (n, s, t) :: l => by have := mV_stamps l; simp only [stamps, mV, List.map_cons] at *; rw [this]
theorem mV_mem : ∀ {L : List (Int × List Nat × Nat)} {e : En}, e ∈ mV L → ∃ x ∈ L, e = (.int .i64 x.1, .str x.2.1, x.2.2)
  | (n, s, t) :: l, e, h => by
    rcases List.mem_cons.1 h with h | h
    · exact ⟨(n, s, t), List.mem_cons_self, h⟩
    · obtain ⟨x, hx, he⟩ := mV_mem h
      exact ⟨x, List.mem_cons_of_mem _ hx, he⟩
theorem mem_mV : ∀ {L : List (Int × List Nat × Nat)} {x : Int × List Nat × Nat}, x ∈ L → (.int .i64 x.1, .str x.2.1, x.2.2) ∈ mV L
  | (n, s, t) :: l, x, h => by
    rcases List.mem_cons.1 h with h | h
    · subst h; exact List.mem_cons_self
    · exact List.mem_cons_of_mem _ (mem_mV h)
theorem map_es (ρ : Ren) : ∀ {l' : List MapEntry}, (∀ y ∈ l', (∃ n, y.key = .int .i64 n) ∧ ∃ s, y.val = .string s) → ∃ L, ERs ρ (mV L) l' ∧ stamps (mV L) = l'.map (·.born)
  | [], _ => ⟨[], .nil, rfl⟩
  | y :: l, h => by
    obtain ⟨L, h1, h3⟩ := map_es ρ fun z hz => h z (List.mem_cons_of_mem _ hz)
    obtain ⟨⟨n, hn⟩, s, hs⟩ := h y List.mem_cons_self
    obtain ⟨k, v, b⟩ := y
    simp only at hn hs
    subst hn; subst hs
    refine ⟨(n, bytesOf s, b) :: L, .cons (.int _ _) (.str _) h1, ?_⟩
    simp only [mV, stamps, List.map_cons] at *; rw [h3]
def IsMapIS (w : World) (v : Value) : Prop := v = .map none ∨ ∃ (b : Nat) (es : Array MapEntry) (c : Nat) (L : List (Int × List Nat × Nat)), v = .map (some b) ∧ w.heap[b]? = some (.map es c) ∧ (∀ ρ : Ren, ERs ρ (mV L) es.toList) ∧ (∀ y ∈ L, y.2.2 < c) ∧ (L.map fun y => y.2.2).Nodup
theorem mV_any {ρ ρ' : Ren} : ∀ {L : List (Int × List Nat × Nat)} {l : List MapEntry}, ERs ρ (mV L) l → ERs ρ' (mV L) l
  | [], _, .nil => .nil
  | (n, s, t) :: L, _, .cons h1 h2 h3 => .cons (by cases h1; exact .int _ _) (by cases h2; exact .str _) (mV_any h3)
theorem open_gotIS {H : Type} {enc : TypeId × Value → H} {P : Program} {w : World} {r : Reach} {b0 base : Nat} {sp : Nat → Bool} {held : Bool} {t k e : TypeId} (ht : P.underlying t = some (.map k e)) (hk : P.underlying k = some (.int .i64)) (he : P.underlying e = some .string) {v : Value} {d : DataW H} {ps : List MemPlace}
    (hval : Value.okWide P w r b0 t v) (hd : DataW.Trod enc P w base sp held t v d ps) : IsMapIS w v := by
  obtain ⟨a, rfl⟩ := okWide_map ht hval
  obtain ⟨fuel, hf⟩ := hd
  rcases open_mapIS ht hk he hf with h | ⟨b, es, c, h, hb, h1, h2⟩
  · simp [Value.cells] at h; subst h; exact .inl rfl
  · simp [Value.cells] at h; subst h
    obtain ⟨L, e1, e2⟩ := map_es (fun _ => none) fun y hy => (h1 y hy).2
    refine .inr ⟨b, es, c, L, rfl, hb, fun ρ => mV_any e1, fun y hy => ?_, ?_⟩
    · have h3 : y.2.2 ∈ stamps (mV L) := by rw [mV_stamps]; exact List.mem_map.2 ⟨y, hy, rfl⟩
      rw [e2] at h3
      obtain ⟨z, hz, e3⟩ := List.mem_map.1 h3
      rw [← e3]; exact (h1 z hz).1
    · rw [← mV_stamps, e2]; exact h2
def lookG : List (Int × List Nat × Nat) → Int → List Nat
  | [], _ => []
  | (n, s, _) :: l, x => if x = n then s else lookG l x
def hasG : List (Int × List Nat × Nat) → Int → Bool
  | [], _ => false
  | (n, _, _) :: l, x => decide (x = n) || hasG l x
theorem find_G {x : Int} : ∀ (L : List (Int × List Nat × Nat)) (i : Nat), (hasG L x = false ∧ lookG L x = [] ∧ findE (.one .int) (.int .i64 x) (mV L) i = some none) ∨ (hasG L x = true ∧ ∃ j, findE (.one .int) (.int .i64 x) (mV L) i = some (some (j, .str (lookG L x))))
  | [], _ => .inl ⟨rfl, rfl, rfl⟩
  | (n, s, t) :: L, i => by
    have hk : keyEq (.one .int) (.int .i64 x) (.int .i64 n) = some (eqI x n) := rfl
    simp only [hasG, lookG, mV, findE, hk, eqI_eq]
    by_cases e : x = n
    · subst e
      simp
    · simp only [e, decide_false, Bool.false_or, if_false]
      exact find_G L (i + 1)
theorem look_G (L : List (Int × List Nat × Nat)) (x : Int) : lookV (.one .int) false (.str []) (.int .i64 x) (mV L) = some (.str (lookG L x)) := by
  have hf : findK (.one .int) (.int .i64 x) (mV L) = findE (.one .int) (.int .i64 x) (mV L) 0 := rfl
  unfold lookV
  rw [hf]
  rcases find_G (x := x) L 0 with ⟨_, h2, h3⟩ | ⟨_, j, h3⟩
  · rw [h3, h2]; rfl
  · rw [h3]; rfl
theorem look_G2 (L : List (Int × List Nat × Nat)) (x : Int) : lookV (.one .int) true (.str []) (.int .i64 x) (mV L) = some (.tuple [.str (lookG L x), .bool (hasG L x)]) := by
  have hf : findK (.one .int) (.int .i64 x) (mV L) = findE (.one .int) (.int .i64 x) (mV L) 0 := rfl
  unfold lookV
  rw [hf]
  rcases find_G (x := x) L 0 with ⟨h1, h2, h3⟩ | ⟨h1, j, h3⟩
  · rw [h3, h2, h1]; rfl
  · rw [h3, h1]; rfl
end Go.AM
