/- An abstract machine: an addition. No condition. -/
import Derived.Test.YtjikaankdnmabaaAM45
import Derived.Test.YtjikaankdnmabaaAMb
namespace Go.AM
open Go
def rdBS : ACode := .block 1 (.ops [⟨some s8, .quiet true (qLoad1 (.t s2)), none⟩, ⟨some s9, .quiet false (qMov (.t s5)), none⟩, ⟨some s10, .alloc (aBsl 1 1 [.str []] [(0, (1, .t s9))]), none⟩, ⟨some s11, .loud (lApp 1 16 (.t s8) (.t s10)), none⟩, ⟨none, .loud (lSto 1 (.t s2) (.t s11)), none⟩])
def appSeqS : AFunc :=
 ⟨13, [.tmp s4], .seq (.ops [⟨some s2, .alloc (aBox (.t s0)), none⟩, ⟨some s4, .quiet false (qMov (.c .nilslice)), none⟩])
 (.seq (.seq (.ops [⟨some s6, .quiet false (qMov (.t s1)), none⟩]) (.block 0 (.rangeFunc (.t s6) [s7] rdA rdBS)))
 (.seq (.ops [⟨some s12, .quiet true (qLoad1 (.t s2)), none⟩, ⟨some s4, .quiet false (qMov (.t s12)), none⟩]) .ret))⟩
def valsB : ACode := .block 1 (.seq (.ops [⟨some s9, .quiet true (qEntry (.t s6)), none⟩, ⟨some s10, .quiet false (qExt 1 (.t s9)), none⟩, ⟨some s4, .quiet false (qMov (.t s10)), none⟩])
 (.seq (.ops [⟨some s11, .quiet false (qMov (.t s0)), none⟩, ⟨some s12, .quiet false (qMov (.t s4)), none⟩, ⟨some s13, .call (.t s11) [.t s12], none⟩, ⟨some s14, .quiet false (qUn .not (.t s13)), none⟩])
 (.cond (.t s14) .ret .skip)))
def valsL : ACode := rangeB s7 s6 s8 0 valsB
def valsC : AFunc :=
 ⟨15, [], .seq (.ops [⟨some s5, .quiet true (qLoad1 (.t s1)), none⟩, ⟨some s6, .loud (lRng (.t s5)), none⟩]) (.block 0 (.loop valsL))⟩
def appS (m : Mem) (sv : V) (x : List Nat) : V × Mem :=
  match sv with
  | .slice b 0 k _ 1 => (.slice m.next 0 (k + 1) (k + 1) 1, (m.set b .dead).new (.cells ((match m.get b with | some (.cells cs _) => cs | _ => []) ++ [.str x]) false))
  | _ => (.slice m.next 0 1 1 1, m.new (.cells [.str x] false))
def HoldsS (m : Mem) (sv : V) (xs : List (List Nat)) : Prop :=
  (xs = [] ∧ sv = .nilslice) ∨ ∃ b, sv = .slice b 0 xs.length xs.length 1 ∧ xs ≠ [] ∧ m.get b = some (.cells (xs.map fun x => V.str x) false)
theorem app_runS {T : Slots} {m : Mem} {sv : V} {xs : List (List Nat)} {x : List Nat} {p q : Sl} {nb : Nat} (hs : T.get p = sv) (hq : T.get q = .slice nb 0 1 1 1) (hn : m.get nb = some (.cells [.str x] false)) (h : HoldsS m sv xs) (hl : xs.length < 1000000) :
    lApp 1 16 (.t p) (.t q) T m = some (appS m sv x) := by
  have h1 : srcCells m 1 none (.slice nb 0 1 1 1) = some [.str x] := by
    simp only [srcCells, Nat.beq_refl, cond_true, readN, cellsAt, hn, minO, dropN, Nat.mul_one, takeN]
  have h2 : srcLen (.slice nb 0 1 1 1) = some 1 := rfl
  have h3 : strOk 1 (.slice nb 0 1 1 1) = true := rfl
  simp only [lApp, ev, hs, hq, h3, cond_true, h2, h1]
  rcases h with ⟨rfl, rfl⟩ | ⟨b, rfl, hne, hb⟩
  · have e1 : Nat.beq 1 0 = false := rfl
    have e2 : small 1 16 = true := by decide
    simp only [appCore, e1, cond_false, e2, cond_true, appS]
  · have e1 : Nat.beq 1 0 = false := rfl
    have e2 : small (xs.length + 1) 16 = true := by
      unfold small; rw [Bool.and_eq_true]; exact ⟨Nat.ble_eq_true_of_le (by omega), Nat.ble_eq_true_of_le (by omega)⟩
    have e3 : Nat.ble (xs.length + 1) xs.length = false := by
      cases e : Nat.ble (xs.length + 1) xs.length with
      | false => rfl
      | true => have := nble_iff.1 e; omega
    have e4 : allOne [V.str x] = true := rfl
    have e5 : takeN (xs.length * 1) (dropN 0 (xs.map fun x => V.str x)) = some (xs.map fun x => V.str x) := by
      have := takeN_all (xs.map fun x => V.str x)
      simpa [dropN] using this
    simp only [appCore, e1, cond_false, Nat.beq_refl, cond_true, e3, e2, e4, Bool.and_self, hb, e5, appS]
def roundMS (m : Mem) (l bs : Nat) (sv : V) (x : List Nat) : Mem :=
  let m1 := (m.set l (.loop 2 none)).new (.cells [.str x] false)
  let r := appS m1 sv x
  (r.2.set bs (.cells [r.1] false)).set l (.loop 0 none)
theorem round_runS {cfy : Ys Prop → CF Prop} {Y : Ys Prop} {T : Slots} {m : Mem} {l bs : Nat} {x : List Nat} {sv : V} {xs : List (List Nat)} (hT : T.get s2 = .ptr bs 0) (hl : m.get l = some (.loop 0 none)) (hb : m.get bs = some (.cells [sv] false)) (hne : bs ≠ l) (hlt : l < m.next) (hbt : bs < m.next)
    (h : HoldsS m sv xs) (hsl : ∀ b, sv = .slice b 0 xs.length xs.length 1 → b < m.next ∧ b ≠ l ∧ b ≠ bs) (hlen : xs.length < 1000000) {K : V → Mem → Prop} (hK : K (.bool true) (roundMS m l bs sv x)) : roundA pA l [s7] (code pA cfy Y rdA) (code pA cfy Y rdBS) T [.str x] m K := by
  have hf : fillA [s7] [.str x] T = some (T.set (.str x) s7) := rfl
  have g1 : ((T.set (.str x) s7).set (.str x) s5).get s2 = .ptr bs 0 := by rw [get_neq (by decide), get_neq (by decide), hT]
  have g2 : ((T.set (.str x) s7).set (.str x) s5).get s5 = .str x := get_eq
  generalize hT2 : (T.set (.str x) s7).set (.str x) s5 = T2 at g1 g2
  have hq1 : code pA cfy Y rdA (T.set (.str x) s7) m = fun K => K .normal T2 m := by
    funext K
    simp only [rdA, code, opers, wantedA, cond_true, oper1, qMov, ev, putD, get_eq, hT2]
  simp only [roundA, hl, hf, hq1]
  have hbs : (m.set l (.loop 2 none)).get bs = some (.cells [sv] false) := by rw [Mem.get_set, if_neg hne, hb]
  have hld : qLoad1 (.t s2) T2 (m.set l (.loop 2 none)) = some sv := by simp only [qLoad1, ev, g1, cellsAt, hbs, nth]
  let m1 := (m.set l (.loop 2 none)).new (.cells [.str x] false)
  have hnx : (m.set l (.loop 2 none)).next = m.next := rfl
  have hal : aBsl 1 1 [.str []] [(0, (1, .t s9))] ((T2.set sv s8).set (.str x) s9) m.next = some (.slice m.next 0 1 1 1, .cells [.str x] false) := by
    simp only [aBsl, fillP, ev, get_eq]
    rfl
  have h1 : HoldsS m1 sv xs := by
    rcases h with h | ⟨b, e, hne', hb'⟩
    · exact .inl h
    · obtain ⟨b1, b2, b3⟩ := hsl b e
      refine .inr ⟨b, e, hne', ?_⟩
      show ((m.set l (.loop 2 none)).new _).get b = _
      rw [Mem.get_new, if_neg (by show b ≠ m.next; omega), Mem.get_set, if_neg b2, hb']
  have hap := app_runS (T := ((T2.set sv s8).set (.str x) s9).set (.slice m.next 0 1 1 1) s10) (m := m1) (x := x) (p := s8) (q := s10) (nb := m.next) (by rw [get_neq (by decide), get_neq (by decide), get_eq]) get_eq (by show ((m.set l (.loop 2 none)).new _).get m.next = _; rw [Mem.get_new]; exact if_pos rfl) h1 hlen
  have hst : ∀ (r : V × Mem), r.1.one = true → r.1.cells = [r.1] → (∃ u, r.2.get bs = some (.cells [u] false)) → lSto 1 (.t s2) (.t s11) ((((T2.set sv s8).set (.str x) s9).set (.slice m.next 0 1 1 1) s10).set r.1 s11) r.2 = some (.undef, r.2.set bs (.cells [r.1] false)) := by
    intro r h1 h2 ⟨u, h3⟩
    have e1 : ((((T2.set sv s8).set (.str x) s9).set (.slice m.next 0 1 1 1) s10).set r.1 s11).get s2 = .ptr bs 0 := by
      rw [get_neq (by decide), get_neq (by decide), get_neq (by decide), get_neq (by decide), g1]
    simp only [lSto, ev, e1, get_eq, h2, List.length_cons, List.length_nil, Nat.zero_add, Nat.beq_refl, cond_true, writeN, h3, putAt, putN, h1]
  have hr : (appS m1 sv x).1.one = true ∧ (appS m1 sv x).1.cells = [(appS m1 sv x).1] ∧ (∃ u, (appS m1 sv x).2.get bs = some (.cells [u] false)) ∧ ∃ u, ((appS m1 sv x).2.set bs (.cells [(appS m1 sv x).1] false)).get l = some (.loop 2 u) := by
    have hm1b : m1.get bs = some (.cells [sv] false) := by
      show ((m.set l (.loop 2 none)).new _).get bs = _
      rw [Mem.get_new, if_neg (by show bs ≠ m.next; omega)]; exact hbs
    have hm1l : m1.get l = some (.loop 2 none) := by
      show ((m.set l (.loop 2 none)).new _).get l = _
      rw [Mem.get_new, if_neg (by show l ≠ m.next; omega), Mem.get_set, if_pos rfl]
    have hmn : m1.next = m.next + 1 := rfl
    rcases h with ⟨_, rfl⟩ | ⟨b, rfl, _, _⟩
    · refine ⟨rfl, rfl, ⟨.nilslice, ?_⟩, none, ?_⟩
      · simp only [appS, Mem.get_new]; rw [if_neg (by omega)]; exact hm1b
      · simp only [appS, Mem.get_set, Mem.get_new]; rw [if_neg (fun e => hne e.symm), if_neg (by omega)]; exact hm1l
    · obtain ⟨b1, b2, b3⟩ := hsl b rfl
      refine ⟨rfl, rfl, ⟨.slice b 0 xs.length xs.length 1, ?_⟩, none, ?_⟩
      · simp only [appS, Mem.get_new, Mem.get_set, Mem.next_set]; rw [if_neg (by omega), if_neg (fun e => b3 e.symm)]; exact hm1b
      · simp only [appS, Mem.get_new, Mem.get_set, Mem.next_set]; rw [if_neg (fun e => hne e.symm), if_neg (by omega), if_neg (fun e => b2 e.symm)]; exact hm1l
  obtain ⟨r1, r2, r3, u, r4⟩ := hr
  have hbody : code pA cfy Y rdBS T2 (m.set l (.loop 2 none)) = fun K => K .normal ((((T2.set sv s8).set (.str x) s9).set (.slice m.next 0 1 1 1) s10).set (appS m1 sv x).1 s11) ((appS m1 sv x).2.set bs (.cells [(appS m1 sv x).1] false)) := by
    funext K
    simp only [rdBS, code, opers, wantedA, cond_true, oper1, putD, hld]
    simp only [qMov, ev, get_neq (show s5 ≠ s8 by decide), g2, hnx, hal]
    show (match lApp 1 16 (.t s8) (.t s10) (((T2.set sv s8).set (.str x) s9).set (.slice m.next 0 1 1 1) s10) m1 with | some (v, m') => _ | none => _) = _
    rw [hap]
    show (match lSto 1 (.t s2) (.t s11) ((((T2.set sv s8).set (.str x) s9).set (.slice m.next 0 1 1 1) s10).set (appS m1 sv x).1 s11) (appS m1 sv x).2 with | some (v, m') => _ | none => _) = _
    rw [hst _ r1 r2 r3]
    rfl
  simp only [hbody, endRoundA, r4]
  exact hK
theorem roundMS_get {m : Mem} {l bs : Nat} {sv : V} {x : List Nat} {i : Nat} (hi : i < m.next) (h1 : i ≠ l) (h2 : i ≠ bs) (h3 : ∀ b k c, sv = .slice b 0 k c 1 → i ≠ b) : (roundMS m l bs sv x).get i = m.get i := by
  unfold roundMS
  rw [Mem.get_set, if_neg h1, Mem.get_set, if_neg h2]
  unfold appS
  split
  · rename_i b k c
    have := h3 b k c rfl
    rw [Mem.get_new, Mem.get_set, if_neg (by simp only [Mem.next_set, Mem.next_new]; omega), if_neg this, Mem.get_new, if_neg (by simp only [Mem.next_set]; omega), Mem.get_set, if_neg h1]
  · rw [Mem.get_new, if_neg (by simp only [Mem.next_set, Mem.next_new]; omega), Mem.get_new, if_neg (by simp only [Mem.next_set]; omega), Mem.get_set, if_neg h1]
theorem roundMS_next (m : Mem) (l bs : Nat) (sv : V) (x : List Nat) : (roundMS m l bs sv x).next = m.next + 2 := by
  unfold roundMS appS
  split <;> simp only [Mem.next_set, Mem.next_new]
theorem roundMS_new {m : Mem} {l bs : Nat} {sv : V} {x : List Nat} {xs : List (List Nat)} (hlt : l < m.next) (hbt : bs < m.next) (hne : bs ≠ l) (h : HoldsS m sv xs) (hsl : ∀ b, sv = .slice b 0 xs.length xs.length 1 → b < m.next ∧ b ≠ l ∧ b ≠ bs) :
    (roundMS m l bs sv x).get l = some (.loop 0 none) ∧ (roundMS m l bs sv x).get bs = some (.cells [.slice (m.next + 1) 0 (xs.length + 1) (xs.length + 1) 1] false) ∧ (roundMS m l bs sv x).get (m.next + 1) = some (.cells ((xs ++ [x]).map fun x => V.str x) false) := by
  unfold roundMS
  refine ⟨by rw [Mem.get_set, if_pos rfl], ?_, ?_⟩
  · rw [Mem.get_set, if_neg hne, Mem.get_set, if_pos rfl]
    rcases h with ⟨rfl, rfl⟩ | ⟨b, rfl, hn, hb⟩
    · rfl
    · rfl
  · rw [Mem.get_set, if_neg (by omega), Mem.get_set, if_neg (by omega)]
    rcases h with ⟨rfl, rfl⟩ | ⟨b, rfl, hn, hb⟩
    · simp only [appS, Mem.get_new, Mem.next_new, Mem.next_set, if_true]
      rfl
    · obtain ⟨b1, b2, b3⟩ := hsl b rfl
      have hb' : ((m.set l (.loop 2 none)).new (.cells [.str x] false)).get b = some (.cells (xs.map fun x => V.str x) false) := by
        rw [Mem.get_new, if_neg (by simp only [Mem.next_set]; omega), Mem.get_set, if_neg b2, hb]
      simp only [appS, hb', Mem.get_new, Mem.next_new, Mem.next_set, if_true, List.map_append, List.map_cons, List.map_nil]
def valI (e : En) : List Nat := match e.2.1 with | .str g => g | _ => []
def StrVals (es : List En) : Prop := ∀ e ∈ es, e.2.1 = .str (valI e)
structure KIS (m0 : Mem) (mb c : Nat) (es : List En) (ro : Bool) (vis : List En) (m : Mem) : Prop where
  it : m.get (m0.next + 2) = some (itO mb c vis)
  lp : m.get (m0.next + 1) = some (.loop 0 none)
  bx : ∃ sv, m.get m0.next = some (.cells [sv] false) ∧ HoldsS m sv (vis.map valI) ∧ ∀ b k c', sv = .slice b 0 k c' 1 → m0.next + 2 < b ∧ b < m.next
  old : ∀ b, b < m0.next → m.get b = m0.get b
  nx : m0.next + 2 < m.next
theorem KIS.round {m0 : Mem} {mb c : Nat} {es : List En} {ro : Bool} {vis : List En} {m : Mem} (h : KIS m0 mb c es ro vis m) (e : En) {sv : V} (hsv : m.get m0.next = some (.cells [sv] false)) : KIS m0 mb c es ro (vis ++ [e]) (roundMS (m.set (m0.next + 2) (itO1 mb c vis e.2.2)) (m0.next + 1) m0.next sv (valI e)) := by
  obtain ⟨sv', h1, h2, h3⟩ := h.bx
  rw [hsv] at h1
  simp only [Option.some.injEq, AObj.cells.injEq, List.cons.injEq, and_true] at h1
  subst h1
  have hnx := h.nx
  let m1 := m.set (m0.next + 2) (itO1 mb c vis e.2.2)
  have hn1 : m1.next = m.next := rfl
  have g : ∀ i, i ≠ m0.next + 2 → m1.get i = m.get i := fun i hi => by show (m.set _ _).get i = _; rw [Mem.get_set, if_neg hi]
  have hh : HoldsS m1 sv (vis.map valI) := by
    rcases h2 with h2 | ⟨b, e1, e2, e3⟩
    · exact .inl h2
    · refine .inr ⟨b, e1, e2, ?_⟩
      have := (h3 b _ _ e1).1
      rw [g b (by omega)]; exact e3
  have hsl : ∀ b, sv = .slice b 0 (vis.map valI).length (vis.map valI).length 1 → b < m1.next ∧ b ≠ m0.next + 1 ∧ b ≠ m0.next := fun b e1 => by
    have := h3 b _ _ e1
    exact ⟨this.2, by omega, by omega⟩
  obtain ⟨r1, r2, r3⟩ := roundMS_new (m := m1) (l := m0.next + 1) (bs := m0.next) (x := valI e) (by rw [hn1]; omega) (by rw [hn1]; omega) (by omega) hh hsl
  have hmiss : ∀ i, i ≤ m0.next + 2 → ∀ b k c', sv = .slice b 0 k c' 1 → i ≠ b := fun i hi b k c' e1 => by have := (h3 b k c' e1).1; omega
  refine ⟨?_, r1, ⟨_, r2, .inr ⟨m1.next + 1, by rw [hn1]; simp, by simp, ?_⟩, fun b k c' e1 => ?_⟩, fun b hb => ?_, ?_⟩
  · rw [roundMS_get (m := m1) (by rw [hn1]; omega) (by omega) (by omega) (hmiss _ (by omega))]
    show (m.set _ _).get _ = _
    rw [Mem.get_set, if_pos rfl]
    simp only [itO, itO1, stamps_app]
  · rw [r3]; simp
  · cases e1; rw [roundMS_next, hn1]; omega
  · rw [roundMS_get (m := m1) (by rw [hn1]; omega) (by omega) (by omega) (hmiss _ (by omega)), g b (by omega)]
    exact h.old b hb
  · rw [roundMS_next]; show m0.next + 2 < m1.next + 2; omega
section
variable {tab : Nat → Option AFunc} {last : CF Prop}
theorem vals_run {cfy2 : Ys Prop → CF Prop} {d : Nat} {Y : Ys Prop} {T0 : Slots} {m0 : Mem} {bx mb c : Nat} {es : List En} {ro ro2 : Bool} (hs : Stamped es c) (hk : StrVals es) (hlen : es.length < 1000000) (hmb : mb < m0.next) (hbx : bx < m0.next) (hgb : m0.get bx = some (.cells [.map mb] ro2)) (hgm : m0.get mb = some (.map es c ro))
    (hT0 : T0.get s2 = .ptr m0.next 0) {K : V → Mem → Prop} (hK : ∀ vis m u, vis.Perm es → KIS m0 mb c es ro vis m → K u m) :
    body1 pA (callD pA tab last (d + 1)) (Y.put (m0.next + 1) (roundA pA (m0.next + 1) [s7] (code pA cfy2 Y rdA) (code pA cfy2 Y rdBS) T0)) valsC [.yield (m0.next + 1), .ptr bx 0] ((m0.new (.cells [.nilslice] false)).new (.loop 0 none)) K := by
  let m1 := (m0.new (.cells [.nilslice] false)).new (.loop 0 none)
  have hn1 : m1.next = m0.next + 2 := rfl
  have g1 : ∀ b, b < m0.next → m1.get b = m0.get b := fun b hb => by
    show ((m0.new _).new _).get b = _
    rw [Mem.get_new, if_neg (by simp only [Mem.next_new]; omega), Mem.get_new, if_neg (by omega)]
  let m2 := m1.new (itO mb c [])
  have hld : ∀ T : Slots, T.get s1 = .ptr bx 0 → qLoad1 (.t s1) T m1 = some (.map mb) := fun T hT => by
    simp only [qLoad1, ev, hT, cellsAt, g1 bx hbx, hgb, nth]
  have hrg : ∀ T : Slots, T.get s5 = .map mb → lRng (.t s5) T m1 = some (.ptr (m0.next + 2) 0, m2) := fun T hT => by
    simp only [lRng, ev, hT, g1 mb hmb, hgm]; rfl
  have hi0 : KIS m0 mb c es ro [] m2 := by
    have hn2 : m2.next = m0.next + 3 := rfl
    have g2 : ∀ b, b < m0.next + 2 → m2.get b = m1.get b := fun b hb => by show (m1.new _).get b = _; rw [Mem.get_new, if_neg (by rw [hn1]; omega)]
    refine ⟨?_, ?_, ⟨.nilslice, ?_, .inl ⟨rfl, rfl⟩, fun b k c' h => by cases h⟩, fun b hb => by rw [g2 b (by omega), g1 b hb], by rw [hn2]; omega⟩
    · show (m1.new _).get _ = _; rw [Mem.get_new, if_pos hn1.symm]
    · rw [g2 _ (by omega)]; show ((m0.new _).new _).get _ = _; rw [Mem.get_new]; exact if_pos rfl
    · rw [g2 _ (by omega)]; show ((m0.new _).new _).get _ = _
      rw [Mem.get_new, if_neg (by simp only [Mem.next_new]; omega), Mem.get_new]; exact if_pos rfl
  unfold body1
  have hnt : Nat.ble [V.yield (m0.next + 1), V.ptr bx 0].length valsC.nt = true := rfl
  rw [hnt, cond_true]
  have hT1 : (fillS 0 [V.yield (m0.next + 1), V.ptr bx 0] slots0).get s1 = .ptr bx 0 := rfl
  generalize hTT : fillS 0 [V.yield (m0.next + 1), V.ptr bx 0] slots0 = T at hT1
  have hT2 : T.get s0 = .yield (m0.next + 1) := by rw [← hTT]; rfl
  simp only [valsC, code, opers, wantedA, cond_true, oper1, putD]
  rw [hld T hT1]
  simp only
  rw [hrg _ get_eq]
  simp only
  refine range_pred (sN := s7) (sI := s6) (sB := s8) (x := 0) hs (KIS m0 mb c es ro) (fun T => T.get s0 = .yield (m0.next + 1) ∧ T.get s6 = .ptr (m0.next + 2) 0) (fun vis m h => h.it) (fun vis m h => by rw [h.old mb hmb]; exact hgm) (fun T h => h.2) (fun T v u h => ?_) (fun vis e T m v he hne hi hj K' hK' => ?_) (fun vis T m hp hi hj => ?_) rounds [] _ m2 (Vis.nil es) (by have := hs.len; simp only [List.length_nil]; omega) hi0 ⟨?_, get_eq⟩
  · exact ⟨by rw [get_neq (by decide), get_neq (by decide)]; exact h.1, by rw [get_neq (by decide), get_neq (by decide)]; exact h.2⟩
  ·
    obtain ⟨sv, e1, e2, e3⟩ := hi.bx
    have hnx := hi.nx
    let mm := m.set (m0.next + 2) (itO1 mb c vis e.2.2)
    have hgi : mm.get (m0.next + 2) = some (itO1 mb c vis e.2.2) := by show (m.set _ _).get _ = _; rw [Mem.get_set, if_pos rfl]
    have gm : ∀ i, i ≠ m0.next + 2 → mm.get i = m.get i := fun i h => by show (m.set _ _).get i = _; rw [Mem.get_set, if_neg h]
    have hen : ∀ T : Slots, T.get s6 = .ptr (m0.next + 2) 0 → qEntry (.t s6) T mm = some (.tuple [e.1, e.2.1]) := fun T hT => by
      simp only [qEntry, ev, hT, hgi, itO1]
      rw [gm mb (by omega), hi.old mb hmb, hgm]
      exact entry_ok hs he _ _
    have hx := hk e he
    have hlen2 : (vis.map valI).length < 1000000 := by rw [List.length_map]; exact Nat.lt_of_le_of_lt v.le hlen
    have hround : ∀ K3 : V → Mem → Prop, K3 (.bool true) (roundMS mm (m0.next + 1) m0.next sv (valI e)) → callD pA tab last (d + 1) (Y.put (m0.next + 1) (roundA pA (m0.next + 1) [s7] (code pA cfy2 Y rdA) (code pA cfy2 Y rdBS) T0)) (.yield (m0.next + 1)) [.str (valI e)] mm K3 := by
      intro K3 hK3
      simp only [callD, Ys.put, Nat.beq_refl, cond_true]
      refine round_runS (xs := vis.map valI) hT0 ?_ ?_ (by omega) (by show m0.next + 1 < m.next; omega) (by show m0.next < m.next; omega) ?_ (fun b hb => ?_) hlen2 hK3
      · rw [gm _ (by omega)]; exact hi.lp
      · rw [gm _ (by omega)]; exact e1
      · rcases e2 with e2 | ⟨b, f1, f2, f3⟩
        · exact .inl e2
        · refine .inr ⟨b, f1, f2, ?_⟩
          have := (e3 b _ _ f1).1
          rw [gm b (by omega)]; exact f3
      · have := e3 b _ _ hb
        exact ⟨this.2, by omega, by omega⟩
    show code pA _ _ valsB T mm K'
    have ha : (((T.set (.tuple [e.1, e.2.1]) s9).set e.2.1 s10).set e.2.1 s4).get s0 = .yield (m0.next + 1) := by rw [get_neq (by decide), get_neq (by decide), get_neq (by decide)]; exact hj.1
    have hb : (((T.set (.tuple [e.1, e.2.1]) s9).set e.2.1 s10).set e.2.1 s4).get s6 = .ptr (m0.next + 2) 0 := by rw [get_neq (by decide), get_neq (by decide), get_neq (by decide)]; exact hj.2
    simp only [valsB, code, opers, wantedA, cond_true, oper1, putD]
    rw [hen T hj.2]
    simp only [qExt, ev, get_eq, nth, qMov]
    generalize hT3 : ((T.set (.tuple [e.1, e.2.1]) s9).set e.2.1 s10).set e.2.1 s4 = T3 at ha hb
    have hc : T3.get s4 = e.2.1 := by rw [← hT3]; exact get_eq
    simp only [Opd.evs, ev, get_eq, ha, get_neq (show s4 ≠ s11 by decide), hc, get_neq (show s11 ≠ s12 by decide)]
    rw [hx]
    refine hround _ ?_
    simp only [qUn, ev, get_eq, unV, Bool.not_true]
    refine hK' _ _ ⟨?_, ?_⟩ (hi.round e e1)
    · rw [get_neq (by decide), get_neq (by decide), get_neq (by decide), get_neq (by decide)]; exact ha
    · rw [get_neq (by decide), get_neq (by decide), get_neq (by decide), get_neq (by decide)]; exact hb
  · simp only [Nat.beq_refl, cond_true, result, valsC, resVs]
    exact hK vis m _ hp hi
  · rw [get_neq (by decide), get_neq (by decide)]; exact hT2
theorem appSeqS_run {g : Nat} (hg : tab g = some valsC) {d : Nat} {Y : Ys Prop} {m0 : Mem} {bx mb c : Nat} {es : List En} {ro ro2 : Bool} (hs : Stamped es c) (hk : StrVals es) (hlen : es.length < 1000000) (hmb : mb < m0.next) (hbx : bx < m0.next) (hgb : m0.get bx = some (.cells [.map mb] ro2)) (hgm : m0.get mb = some (.map es c ro)) {K : V → Mem → Prop}
    (hK : ∀ (vis : List En) (m : Mem) (u : V), vis.Perm es → m0.next ≤ m.next → (∀ b, b < m0.next → m.get b = m0.get b) → HoldsS m u (vis.map valI) → (∀ b k c', u = .slice b 0 k c' 1 → m0.next ≤ b ∧ b < m.next) → K u m) :
    body1 pA (callD pA tab last (d + 2)) Y appSeqS [.nilslice, .func (.func g) [] [.ptr bx 0]] m0 K := by
  unfold body1
  have hnt : Nat.ble [V.nilslice, V.func (.func g) [] [.ptr bx 0]].length appSeqS.nt = true := rfl
  rw [hnt, cond_true]
  have hT0 : (fillS 0 [V.nilslice, V.func (.func g) [] [.ptr bx 0]] slots0).get s0 = .nilslice := rfl
  have hT1 : (fillS 0 [V.nilslice, V.func (.func g) [] [.ptr bx 0]] slots0).get s1 = .func (.func g) [] [.ptr bx 0] := rfl
  generalize fillS 0 [V.nilslice, V.func (.func g) [] [.ptr bx 0]] slots0 = T at hT0 hT1
  have hbox : aBox (.t s0) T m0.next = some (.ptr m0.next 0, .cells [.nilslice] false) := by simp only [aBox, ev, hT0, V.cells]
  simp only [appSeqS, code, opers, wantedA, cond_true, oper1, putD, hbox, qMov, ev]
  simp only [get_neq (show s1 ≠ s4 by decide), get_neq (show s1 ≠ s2 by decide), hT1, get_eq, callD, hg, List.cons_append, List.nil_append]
  refine vals_run (mb := mb) (bx := bx) (c := c) (es := es) (ro := ro) (ro2 := ro2) hs hk hlen hmb hbx hgb hgm ?_ fun vis m u hp hi => ?_
  · rw [get_neq (by decide), get_neq (by decide)]; exact get_eq
  · have hnx := hi.nx
    obtain ⟨sv, e1, e2, e3⟩ := hi.bx
    have hle : (m0.new (.cells [.nilslice] false)).next = m0.next + 1 := rfl
    simp only [endLoopA, hle, hi.lp]
    have e0 : Nat.beq 0 2 = false := rfl
    simp only [e0, cond_false]
    have gm : ∀ i, i ≠ m0.next + 1 → (m.set (m0.next + 1) (.loop 3 none)).get i = m.get i := fun i h => by rw [Mem.get_set, if_neg h]
    have hld : ∀ T' : Slots, T'.get s2 = .ptr m0.next 0 → qLoad1 (.t s2) T' (m.set (m0.next + 1) (.loop 3 none)) = some sv := fun T' h => by
      simp only [qLoad1, ev, h, cellsAt]
      rw [gm _ (by omega), e1]; rfl
    rw [hld _ (by rw [get_neq (by decide), get_neq (by decide)]; exact get_eq)]
    simp only [get_eq, result, resVs, resV]
    refine hK vis _ sv hp (by show m0.next ≤ m.next; omega) (fun b hb => by rw [gm b (by omega)]; exact hi.old b hb) ?_ fun b k c' h => ?_
    · rcases e2 with e2 | ⟨b, f1, f2, f3⟩
      · exact .inl e2
      · refine .inr ⟨b, f1, f2, ?_⟩
        have := (e3 b _ _ f1).1
        rw [gm b (by omega)]; exact f3
    · have := e3 b k c' h
      exact ⟨by omega, this.2⟩
theorem collectS_run {a g : Nat} (ha : tab a = some appSeqS) (hg : tab g = some valsC) {d : Nat} {Y : Ys Prop} {m0 : Mem} {bx mb c : Nat} {es : List En} {ro ro2 : Bool} (hs : Stamped es c) (hk : StrVals es) (hlen : es.length < 1000000) (hmb : mb < m0.next) (hbx : bx < m0.next) (hgb : m0.get bx = some (.cells [.map mb] ro2)) (hgm : m0.get mb = some (.map es c ro)) {K : V → Mem → Prop}
    (hK : ∀ (vis : List En) (m : Mem) (u : V), vis.Perm es → m0.next ≤ m.next → (∀ b, b < m0.next → m.get b = m0.get b) → HoldsS m u (vis.map valI) → (∀ b k c', u = .slice b 0 k c' 1 → m0.next ≤ b ∧ b < m.next) → K u m) :
    body1 pA (callD pA tab last (d + 3)) Y (collectC a) [.func (.func g) [] [.ptr bx 0]] m0 K := by
  unfold body1
  have hnt : Nat.ble [V.func (.func g) [] [.ptr bx 0]].length (collectC a).nt = true := rfl
  rw [hnt, cond_true]
  have hT0 : (fillS 0 [V.func (.func g) [] [.ptr bx 0]] slots0).get s0 = .func (.func g) [] [.ptr bx 0] := rfl
  generalize fillS 0 [V.func (.func g) [] [.ptr bx 0]] slots0 = T at hT0
  simp only [collectC, code, opers, wantedA, cond_true, oper1, putD, qMov, ev, Opd.evs]
  simp only [get_neq (show s0 ≠ s2 by decide), hT0, get_eq, callD, ha, List.append_nil]
  refine appSeqS_run (mb := mb) (bx := bx) (c := c) (es := es) (ro := ro) (ro2 := ro2) hg hs hk hlen hmb hbx hgb hgm fun vis m u hp hn ho hh hb => ?_
  simp only [get_eq, result, resVs, resV]
  exact hK vis m u hp hn ho hh hb
end
def tV (x : EnL) : List V := x.map fun e => V.str (valI e)
theorem rens_tV (σ : Nat → Nat) : ∀ x : EnL, rens σ (tV x) = tV x
  | [] => rfl
  | e :: x => by have := rens_tV σ x; simp only [tV] at this; simp only [tV, List.map_cons, rens, V.ren, this]
theorem plains_tV : ∀ x : EnL, plains (tV x) = true
  | [] => rfl
  | e :: x => by have := plains_tV x; simp only [tV] at this; simp only [tV, List.map_cons, plains, V.plain, Bool.true_and, this]
def tW (x : EnL) (l : List (List Nat)) : List V := (x.map valI ++ l).map fun g => V.str g
theorem rens_str (σ : Nat → Nat) : ∀ l : List (List Nat), rens σ (l.map fun g => V.str g) = l.map fun g => V.str g
  | [] => rfl
  | g :: l => by simp only [List.map_cons, rens, V.ren, rens_str σ l]
theorem rens_tW (σ : Nat → Nat) (x : EnL) (l : List (List Nat)) : rens σ (tW x l) = tW x l := rens_str σ _
theorem bels_str (p : Nat → Bool) : ∀ l : List (List Nat), bels p (l.map fun g => V.str g) = true
  | [] => rfl
  | g :: l => by simp only [List.map_cons, bels, V.bel, bels_str p l, Bool.and_self]
theorem tV_tW (x : EnL) : tV x = tW x [] := by simp [tV, tW]
end Go.AM
