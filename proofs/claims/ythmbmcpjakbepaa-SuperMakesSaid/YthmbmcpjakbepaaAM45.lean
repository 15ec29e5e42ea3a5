/- An abstract machine: an addition. No condition. -/
import Derived.Test.YthmbmcpjakbepaaAM44
import Derived.Test.YthmbmcpjakbepaaAM40
import Derived.Test.YthmbmcpjakbepaaAMb
namespace Go.AM
open Go
def rdA : ACode := .ops [⟨some s5, .quiet false (qMov (.t s7)), none⟩]
def rdB : ACode := .block 1 (.ops [⟨some s8, .quiet true (qLoad1 (.t s2)), none⟩, ⟨some s9, .quiet false (qMov (.t s5)), none⟩, ⟨some s10, .alloc (aBsl 1 1 [.int .i64 0] [(0, (1, .t s9))]), none⟩, ⟨some s11, .loud (lApp 1 8 (.t s8) (.t s10)), none⟩, ⟨none, .loud (lSto 1 (.t s2) (.t s11)), none⟩])
def appSeqC : AFunc :=
 ⟨13, [.tmp s4], .seq (.ops [⟨some s2, .alloc (aBox (.t s0)), none⟩, ⟨some s4, .quiet false (qMov (.c .nilslice)), none⟩])
 (.seq (.seq (.ops [⟨some s6, .quiet false (qMov (.t s1)), none⟩]) (.block 0 (.rangeFunc (.t s6) [s7] rdA rdB)))
 (.seq (.ops [⟨some s12, .quiet true (qLoad1 (.t s2)), none⟩, ⟨some s4, .quiet false (qMov (.t s12)), none⟩]) .ret))⟩
def keysB : ACode := .block 1 (.seq (.ops [⟨some s8, .quiet true (qEntry (.t s5)), none⟩, ⟨some s9, .quiet false (qExt 0 (.t s8)), none⟩, ⟨some s3, .quiet false (qMov (.t s9)), none⟩])
 (.seq (.ops [⟨some s10, .quiet false (qMov (.t s0)), none⟩, ⟨some s11, .quiet false (qMov (.t s3)), none⟩, ⟨some s12, .call (.t s10) [.t s11], none⟩, ⟨some s13, .quiet false (qUn .not (.t s12)), none⟩])
 (.cond (.t s13) .ret .skip)))
def keysL : ACode := rangeB s6 s5 s7 0 keysB
def keysC : AFunc :=
 ⟨14, [], .seq (.ops [⟨some s4, .quiet true (qLoad1 (.t s1)), none⟩, ⟨some s5, .loud (lRng (.t s4)), none⟩]) (.block 0 (.loop keysL))⟩
def collectC (f : Nat) : AFunc :=
 ⟨5, [.tmp s2], .seq (.ops [⟨some s2, .quiet false (qMov (.c .nilslice)), none⟩])
 (.seq (.ops [⟨some s3, .quiet false (qMov (.t s0)), none⟩, ⟨some s4, .call (.c (.func (.func f) [] [])) [.c .nilslice, .t s3], none⟩, ⟨some s2, .quiet false (qMov (.t s4)), none⟩]) .ret)⟩
def sortedC (f g : Nat) : AFunc :=
 ⟨9, [.tmp s2], .seq (.ops [⟨some s2, .quiet false (qMov (.c .nilslice)), none⟩])
 (.seq (.ops [⟨some s4, .quiet false (qMov (.t s0)), none⟩, ⟨some s5, .call (.c (.func (.func f) [] [])) [.t s4], none⟩, ⟨some s3, .quiet false (qMov (.t s5)), none⟩])
 (.seq (.ops [⟨some s6, .quiet false (qMov (.t s3)), none⟩, ⟨some s7, .call (.c (.func (.func g) [] [])) [.t s6], none⟩])
 (.seq (.ops [⟨some s8, .quiet false (qMov (.t s3)), none⟩, ⟨some s2, .quiet false (qMov (.t s8)), none⟩]) .ret)))⟩
theorem get_neq {T : Slots} {v : V} {p q : Sl} (h : q ≠ p) : (T.set v p).get q = T.get q := by rw [Slots.get_set, if_neg h]
theorem get_eq {T : Slots} {v : V} {p : Sl} : (T.set v p).get p = v := by rw [Slots.get_set, if_pos rfl]
def appI (m : Mem) (sv : V) (x : Int) : V × Mem :=
 match sv with
 | .slice b 0 k _ 1 => (.slice m.next 0 (k + 1) (k + 1) 1, (m.set b .dead).new (.cells ((match m.get b with | some (.cells cs _) => cs | _ => []) ++ [.int .i64 x]) false))
 | _ => (.slice m.next 0 1 1 1, m.new (.cells [.int .i64 x] false))
def Holds1 (m : Mem) (sv : V) (xs : List Int) : Prop :=
 (xs = [] ∧ sv = .nilslice) ∨ ∃ b, sv = .slice b 0 xs.length xs.length 1 ∧ xs ≠ [] ∧ m.get b = some (.cells (xs.map fun x => V.int .i64 x) false)
theorem takeN_all : ∀ (l : List V), takeN l.length l = some l
 | [] => rfl
 | v :: l => by simp only [List.length_cons, takeN, takeN_all l]
theorem app_run {T : Slots} {m : Mem} {sv : V} {xs : List Int} {x : Int} {p q : Sl} {nb : Nat} (hs : T.get p = sv) (hq : T.get q = .slice nb 0 1 1 1) (hn : m.get nb = some (.cells [.int .i64 x] false)) (h : Holds1 m sv xs) (hl : xs.length < 1000000) :
  lApp 1 8 (.t p) (.t q) T m = some (appI m sv x) := by
 have h1 : srcCells m 1 none (.slice nb 0 1 1 1) = some [.int .i64 x] := by
  simp only [srcCells, Nat.beq_refl, cond_true, readN, cellsAt, hn, minO, dropN, Nat.mul_one, takeN]
 have h2 : srcLen (.slice nb 0 1 1 1) = some 1 := rfl
 have h3 : strOk 1 (.slice nb 0 1 1 1) = true := rfl
 simp only [lApp, ev, hs, hq, h3, cond_true, h2, h1]
 rcases h with ⟨rfl, rfl⟩ | ⟨b, rfl, hne, hb⟩
 ·have e1 : Nat.beq 1 0 = false := rfl
  have e2 : small 1 8 = true := by decide
  simp only [appCore, e1, cond_false, e2, cond_true, appI]
 ·have e1 : Nat.beq 1 0 = false := rfl
  have e2 : small (xs.length + 1) 8 = true := by
   unfold small; rw [Bool.and_eq_true]; exact ⟨Nat.ble_eq_true_of_le (by omega), Nat.ble_eq_true_of_le (by omega)⟩
  have e3 : Nat.ble (xs.length + 1) xs.length = false := by
   cases e : Nat.ble (xs.length + 1) xs.length with
   | false => rfl
   | true => have := nble_iff.1 e; omega
  have e4 : allOne [V.int .i64 x] = true := rfl
  have e5 : takeN (xs.length * 1) (dropN 0 (xs.map fun x => V.int .i64 x)) = some (xs.map fun x => V.int .i64 x) := by
   have := takeN_all (xs.map fun x => V.int .i64 x)
   simpa [dropN] using this
  simp only [appCore, e1, cond_false, Nat.beq_refl, cond_true, e3, e2, e4, Bool.and_self, hb, e5, appI]
def roundM (m : Mem) (l bs : Nat) (sv : V) (x : Int) : Mem :=
 let m1 := (m.set l (.loop 2 none)).new (.cells [.int .i64 x] false)
 let r := appI m1 sv x
 (r.2.set bs (.cells [r.1] false)).set l (.loop 0 none)
theorem round_run {cfy : Ys Prop → CF Prop} {Y : Ys Prop} {T : Slots} {m : Mem} {l bs : Nat} {x : Int} {sv : V} {xs : List Int} (hT : T.get s2 = .ptr bs 0) (hl : m.get l = some (.loop 0 none)) (hb : m.get bs = some (.cells [sv] false)) (hne : bs ≠ l) (hlt : l < m.next) (hbt : bs < m.next)
  (h : Holds1 m sv xs) (hsl : ∀ b, sv = .slice b 0 xs.length xs.length 1 → b < m.next ∧ b ≠ l ∧ b ≠ bs) (hlen : xs.length < 1000000) {K : V → Mem → Prop} (hK : K (.bool true) (roundM m l bs sv x)) : roundA pA l [s7] (code pA cfy Y rdA) (code pA cfy Y rdB) T [.int .i64 x] m K := by
 have hf : fillA [s7] [.int .i64 x] T = some (T.set (.int .i64 x) s7) := rfl
 have g1 : ((T.set (.int .i64 x) s7).set (.int .i64 x) s5).get s2 = .ptr bs 0 := by rw [get_neq (by decide), get_neq (by decide), hT]
 have g2 : ((T.set (.int .i64 x) s7).set (.int .i64 x) s5).get s5 = .int .i64 x := get_eq
 generalize hT2 : (T.set (.int .i64 x) s7).set (.int .i64 x) s5 = T2 at g1 g2
 have hq1 : code pA cfy Y rdA (T.set (.int .i64 x) s7) m = fun K => K .normal T2 m := by
  funext K
  simp only [rdA, code, opers, wantedA, cond_true, oper1, qMov, ev, putD, get_eq, hT2]
 simp only [roundA, hl, hf, hq1]
 have hbs : (m.set l (.loop 2 none)).get bs = some (.cells [sv] false) := by rw [Mem.get_set, if_neg hne, hb]
 have hld : qLoad1 (.t s2) T2 (m.set l (.loop 2 none)) = some sv := by simp only [qLoad1, ev, g1, cellsAt, hbs, nth]
 let m1 := (m.set l (.loop 2 none)).new (.cells [.int .i64 x] false)
 have hnx : (m.set l (.loop 2 none)).next = m.next := rfl
 have hal : aBsl 1 1 [.int .i64 0] [(0, (1, .t s9))] ((T2.set sv s8).set (.int .i64 x) s9) m.next = some (.slice m.next 0 1 1 1, .cells [.int .i64 x] false) := by
  simp only [aBsl, fillP, ev, get_eq]
  rfl
 have h1 : Holds1 m1 sv xs := by
  rcases h with h | ⟨b, e, hne', hb'⟩
  ·exact .inl h
  ·obtain ⟨b1, b2, b3⟩ := hsl b e
   refine .inr ⟨b, e, hne', ?_⟩
   show ((m.set l (.loop 2 none)).new _).get b = _
   rw [Mem.get_new, if_neg (by show b ≠ m.next; omega), Mem.get_set, if_neg b2, hb']
 have hap := app_run (T := ((T2.set sv s8).set (.int .i64 x) s9).set (.slice m.next 0 1 1 1) s10) (m := m1) (x := x) (p := s8) (q := s10) (nb := m.next) (by rw [get_neq (by decide), get_neq (by decide), get_eq]) get_eq (by show ((m.set l (.loop 2 none)).new _).get m.next = _; rw [Mem.get_new]; exact if_pos rfl) h1 hlen
 have hst : ∀ (r : V × Mem), r.1.one = true → r.1.cells = [r.1] → (∃ u, r.2.get bs = some (.cells [u] false)) → lSto 1 (.t s2) (.t s11) ((((T2.set sv s8).set (.int .i64 x) s9).set (.slice m.next 0 1 1 1) s10).set r.1 s11) r.2 = some (.undef, r.2.set bs (.cells [r.1] false)) := by
  intro r h1 h2 ⟨u, h3⟩
  have e1 : ((((T2.set sv s8).set (.int .i64 x) s9).set (.slice m.next 0 1 1 1) s10).set r.1 s11).get s2 = .ptr bs 0 := by
   rw [get_neq (by decide), get_neq (by decide), get_neq (by decide), get_neq (by decide), g1]
  simp only [lSto, ev, e1, get_eq, h2, List.length_cons, List.length_nil, Nat.zero_add, Nat.beq_refl, cond_true, writeN, h3, putAt, putN, h1]
 have hr : (appI m1 sv x).1.one = true ∧ (appI m1 sv x).1.cells = [(appI m1 sv x).1] ∧ (∃ u, (appI m1 sv x).2.get bs = some (.cells [u] false)) ∧ ∃ u, ((appI m1 sv x).2.set bs (.cells [(appI m1 sv x).1] false)).get l = some (.loop 2 u) := by
  have hm1b : m1.get bs = some (.cells [sv] false) := by
   show ((m.set l (.loop 2 none)).new _).get bs = _
   rw [Mem.get_new, if_neg (by show bs ≠ m.next; omega)]; exact hbs
  have hm1l : m1.get l = some (.loop 2 none) := by
   show ((m.set l (.loop 2 none)).new _).get l = _
   rw [Mem.get_new, if_neg (by show l ≠ m.next; omega), Mem.get_set, if_pos rfl]
  have hmn : m1.next = m.next + 1 := rfl
  rcases h with ⟨_, rfl⟩ | ⟨b, rfl, _, _⟩
  ·refine ⟨rfl, rfl, ⟨.nilslice, ?_⟩, none, ?_⟩
   ·simp only [appI, Mem.get_new]; rw [if_neg (by omega)]; exact hm1b
   ·simp only [appI, Mem.get_set, Mem.get_new]; rw [if_neg (fun e => hne e.symm), if_neg (by omega)]; exact hm1l
  ·obtain ⟨b1, b2, b3⟩ := hsl b rfl
   refine ⟨rfl, rfl, ⟨.slice b 0 xs.length xs.length 1, ?_⟩, none, ?_⟩
   ·simp only [appI, Mem.get_new, Mem.get_set, Mem.next_set]; rw [if_neg (by omega), if_neg (fun e => b3 e.symm)]; exact hm1b
   ·simp only [appI, Mem.get_new, Mem.get_set, Mem.next_set]; rw [if_neg (fun e => hne e.symm), if_neg (by omega), if_neg (fun e => b2 e.symm)]; exact hm1l
 obtain ⟨r1, r2, r3, u, r4⟩ := hr
 have hbody : code pA cfy Y rdB T2 (m.set l (.loop 2 none)) = fun K => K .normal ((((T2.set sv s8).set (.int .i64 x) s9).set (.slice m.next 0 1 1 1) s10).set (appI m1 sv x).1 s11) ((appI m1 sv x).2.set bs (.cells [(appI m1 sv x).1] false)) := by
  funext K
  simp only [rdB, code, opers, wantedA, cond_true, oper1, putD, hld]
  simp only [qMov, ev, get_neq (show s5 ≠ s8 by decide), g2, hnx, hal]
  show (match lApp 1 8 (.t s8) (.t s10) (((T2.set sv s8).set (.int .i64 x) s9).set (.slice m.next 0 1 1 1) s10) m1 with | some (v, m') => _ | none => _) = _
  rw [hap]
  show (match lSto 1 (.t s2) (.t s11) ((((T2.set sv s8).set (.int .i64 x) s9).set (.slice m.next 0 1 1 1) s10).set (appI m1 sv x).1 s11) (appI m1 sv x).2 with | some (v, m') => _ | none => _) = _
  rw [hst _ r1 r2 r3]
  rfl
 simp only [hbody, endRoundA, r4]
 exact hK
theorem roundM_get {m : Mem} {l bs : Nat} {sv : V} {x : Int} {i : Nat} (hi : i < m.next) (h1 : i ≠ l) (h2 : i ≠ bs) (h3 : ∀ b k c, sv = .slice b 0 k c 1 → i ≠ b) : (roundM m l bs sv x).get i = m.get i := by
 unfold roundM
 rw [Mem.get_set, if_neg h1, Mem.get_set, if_neg h2]
 unfold appI
 split
 ·rename_i b k c
  have := h3 b k c rfl
  rw [Mem.get_new, Mem.get_set, if_neg (by simp only [Mem.next_set, Mem.next_new]; omega), if_neg this, Mem.get_new, if_neg (by simp only [Mem.next_set]; omega), Mem.get_set, if_neg h1]
 ·rw [Mem.get_new, if_neg (by simp only [Mem.next_set, Mem.next_new]; omega), Mem.get_new, if_neg (by simp only [Mem.next_set]; omega), Mem.get_set, if_neg h1]
theorem roundM_next (m : Mem) (l bs : Nat) (sv : V) (x : Int) : (roundM m l bs sv x).next = m.next + 2 := by
 unfold roundM appI
 split <;> simp only [Mem.next_set, Mem.next_new]
theorem roundM_new {m : Mem} {l bs : Nat} {sv : V} {x : Int} {xs : List Int} (hlt : l < m.next) (hbt : bs < m.next) (hne : bs ≠ l) (h : Holds1 m sv xs) (hsl : ∀ b, sv = .slice b 0 xs.length xs.length 1 → b < m.next ∧ b ≠ l ∧ b ≠ bs) :
  (roundM m l bs sv x).get l = some (.loop 0 none) ∧ (roundM m l bs sv x).get bs = some (.cells [.slice (m.next + 1) 0 (xs.length + 1) (xs.length + 1) 1] false) ∧ (roundM m l bs sv x).get (m.next + 1) = some (.cells ((xs ++ [x]).map fun x => V.int .i64 x) false) := by
 unfold roundM
 refine ⟨by rw [Mem.get_set, if_pos rfl], ?_, ?_⟩
 ·rw [Mem.get_set, if_neg hne, Mem.get_set, if_pos rfl]
  rcases h with ⟨rfl, rfl⟩ | ⟨b, rfl, hn, hb⟩
  ·rfl
  ·rfl
 ·rw [Mem.get_set, if_neg (by omega), Mem.get_set, if_neg (by omega)]
  rcases h with ⟨rfl, rfl⟩ | ⟨b, rfl, hn, hb⟩
  ·simp only [appI, Mem.get_new, Mem.next_new, Mem.next_set, if_true]
   rfl
  ·obtain ⟨b1, b2, b3⟩ := hsl b rfl
   have hb' : ((m.set l (.loop 2 none)).new (.cells [.int .i64 x] false)).get b = some (.cells (xs.map fun x => V.int .i64 x) false) := by
    rw [Mem.get_new, if_neg (by simp only [Mem.next_set]; omega), Mem.get_set, if_neg b2, hb]
   simp only [appI, hb', Mem.get_new, Mem.next_new, Mem.next_set, if_true, List.map_append, List.map_cons, List.map_nil]
theorem range_pred {cfy : Ys Prop → CF Prop} {Y : Ys Prop} {sN sI sB : Sl} {x : Nat} {body : ACode} {r mb c : Nat} {es : List En} {ro : Bool} (hs : Stamped es c) (I : List En → Mem → Prop) (J : Slots → Prop)
  (hr : ∀ vis m, I vis m → m.get r = some (itO mb c vis)) (hm : ∀ vis m, I vis m → m.get mb = some (.map es c ro)) (hI : ∀ T, J T → T.get sI = .ptr r 0) (hJ : ∀ T v u, J T → J ((T.set v sN).set u sB)) {K : Ex → Slots → Mem → Prop}
  (step : ∀ vis e T m, Vis es vis → e ∈ es → e.2.2 ∉ stamps vis → I vis m → J T → ∀ K : Ex → Slots → Mem → Prop, (∀ T' m', J T' → I (vis ++ [e]) m' → K .normal T' m') → code pA cfy Y body T (m.set r (itO1 mb c vis e.2.2)) K)
  (fin : ∀ vis T m, vis.Perm es → I vis m → J T → K (.exit x) T m) : ∀ (fuel : Nat) (vis : List En) (T : Slots) (m : Mem), Vis es vis → es.length < vis.length + fuel → I vis m → J T → iter pA (code pA cfy Y (rangeB sN sI sB x body)) fuel T m K
 | 0, vis, T, m, v, h, _, _ => absurd v.le (by omega)
 | fuel + 1, vis, T, m, v, h, hi, hj => by
  simp only [iter]
  rcases nextS_range (hr vis m hi) (hm vis m hi) hs with ⟨h1, h2⟩ | ⟨left, h1, h2, h3⟩
  ·exact range_end (hI T hj) h2 (fin vis _ m (v.perm hs.nd h1) hi (hJ _ _ _ hj))
  ·refine range_next (l := left.map fun e => (e.1, e.2.1, m.set r (itO1 mb c vis e.2.2))) (hI T hj) ?_ (by simpa using h1) fun y hy => ?_
   ·rw [h3, List.map_map]; rfl
   ·obtain ⟨e, he, rfl⟩ := List.mem_map.1 hy
    obtain ⟨e1, e2⟩ := h2 e he
    exact step vis e _ m v e1 e2 hi (hJ _ _ _ hj) _ fun T' m' hj' hi' => range_pred hs I J hr hm hI hJ step fin fuel (vis ++ [e]) T' m' (v.snoc e1 e2) (by simp; omega) hi' hj'
def keyI (e : En) : Int := match e.1 with | .int _ n => n | _ => 0
def IntKeys (es : List En) : Prop := ∀ e ∈ es, e.1 = .int .i64 (keyI e)
structure KI (m0 : Mem) (mb c : Nat) (es : List En) (ro : Bool) (vis : List En) (m : Mem) : Prop where
 it : m.get (m0.next + 2) = some (itO mb c vis)
 lp : m.get (m0.next + 1) = some (.loop 0 none)
 bx : ∃ sv, m.get m0.next = some (.cells [sv] false) ∧ Holds1 m sv (vis.map keyI) ∧ ∀ b k c', sv = .slice b 0 k c' 1 → m0.next + 2 < b ∧ b < m.next
 old : ∀ b, b < m0.next → m.get b = m0.get b
 nx : m0.next + 2 < m.next
theorem KI.round {m0 : Mem} {mb c : Nat} {es : List En} {ro : Bool} {vis : List En} {m : Mem} (h : KI m0 mb c es ro vis m) (e : En) {sv : V} (hsv : m.get m0.next = some (.cells [sv] false)) : KI m0 mb c es ro (vis ++ [e]) (roundM (m.set (m0.next + 2) (itO1 mb c vis e.2.2)) (m0.next + 1) m0.next sv (keyI e)) := by
 obtain ⟨sv', h1, h2, h3⟩ := h.bx
 rw [hsv] at h1
 simp only [Option.some.injEq, AObj.cells.injEq, List.cons.injEq, and_true] at h1
 subst h1
 have hnx := h.nx
 let m1 := m.set (m0.next + 2) (itO1 mb c vis e.2.2)
 have hn1 : m1.next = m.next := rfl
 have g : ∀ i, i ≠ m0.next + 2 → m1.get i = m.get i := fun i hi => by show (m.set _ _).get i = _; rw [Mem.get_set, if_neg hi]
 have hh : Holds1 m1 sv (vis.map keyI) := by
  rcases h2 with h2 | ⟨b, e1, e2, e3⟩
  ·exact .inl h2
  ·refine .inr ⟨b, e1, e2, ?_⟩
   have := (h3 b _ _ e1).1
   rw [g b (by omega)]; exact e3
 have hsl : ∀ b, sv = .slice b 0 (vis.map keyI).length (vis.map keyI).length 1 → b < m1.next ∧ b ≠ m0.next + 1 ∧ b ≠ m0.next := fun b e1 => by
  have := h3 b _ _ e1
  exact ⟨this.2, by omega, by omega⟩
 obtain ⟨r1, r2, r3⟩ := roundM_new (m := m1) (l := m0.next + 1) (bs := m0.next) (x := keyI e) (by rw [hn1]; omega) (by rw [hn1]; omega) (by omega) hh hsl
 have hmiss : ∀ i, i ≤ m0.next + 2 → ∀ b k c', sv = .slice b 0 k c' 1 → i ≠ b := fun i hi b k c' e1 => by have := (h3 b k c' e1).1; omega
 refine ⟨?_, r1, ⟨_, r2, .inr ⟨m1.next + 1, by rw [hn1]; simp, by simp, ?_⟩, fun b k c' e1 => ?_⟩, fun b hb => ?_, ?_⟩
 ·rw [roundM_get (m := m1) (by rw [hn1]; omega) (by omega) (by omega) (hmiss _ (by omega))]
  show (m.set _ _).get _ = _
  rw [Mem.get_set, if_pos rfl]
  simp only [itO, itO1, stamps_app]
 ·rw [r3]; simp
 ·cases e1; rw [roundM_next, hn1]; omega
 ·rw [roundM_get (m := m1) (by rw [hn1]; omega) (by omega) (by omega) (hmiss _ (by omega)), g b (by omega)]
  exact h.old b hb
 ·rw [roundM_next]; show m0.next + 2 < m1.next + 2; omega
section
variable {tab : Nat → Option AFunc} {last : CF Prop}
theorem keys_run {cfy2 : Ys Prop → CF Prop} {d : Nat} {Y : Ys Prop} {T0 : Slots} {m0 : Mem} {bx mb c : Nat} {es : List En} {ro ro2 : Bool} (hs : Stamped es c) (hk : IntKeys es) (hlen : es.length < 1000000) (hmb : mb < m0.next) (hbx : bx < m0.next) (hgb : m0.get bx = some (.cells [.map mb] ro2)) (hgm : m0.get mb = some (.map es c ro))
  (hT0 : T0.get s2 = .ptr m0.next 0) {K : V → Mem → Prop} (hK : ∀ vis m u, vis.Perm es → KI m0 mb c es ro vis m → K u m) :
  body1 pA (callD pA tab last (d + 1)) (Y.put (m0.next + 1) (roundA pA (m0.next + 1) [s7] (code pA cfy2 Y rdA) (code pA cfy2 Y rdB) T0)) keysC [.yield (m0.next + 1), .ptr bx 0] ((m0.new (.cells [.nilslice] false)).new (.loop 0 none)) K := by
 let m1 := (m0.new (.cells [.nilslice] false)).new (.loop 0 none)
 have hn1 : m1.next = m0.next + 2 := rfl
 have g1 : ∀ b, b < m0.next → m1.get b = m0.get b := fun b hb => by
  show ((m0.new _).new _).get b = _
  rw [Mem.get_new, if_neg (by simp only [Mem.next_new]; omega), Mem.get_new, if_neg (by omega)]
 let m2 := m1.new (itO mb c [])
 have hld : ∀ T : Slots, T.get s1 = .ptr bx 0 → qLoad1 (.t s1) T m1 = some (.map mb) := fun T hT => by
  simp only [qLoad1, ev, hT, cellsAt, g1 bx hbx, hgb, nth]
 have hrg : ∀ T : Slots, T.get s4 = .map mb → lRng (.t s4) T m1 = some (.ptr (m0.next + 2) 0, m2) := fun T hT => by
  simp only [lRng, ev, hT, g1 mb hmb, hgm]; rfl
 have hi0 : KI m0 mb c es ro [] m2 := by
  have hn2 : m2.next = m0.next + 3 := rfl
  have g2 : ∀ b, b < m0.next + 2 → m2.get b = m1.get b := fun b hb => by show (m1.new _).get b = _; rw [Mem.get_new, if_neg (by rw [hn1]; omega)]
  refine ⟨?_, ?_, ⟨.nilslice, ?_, .inl ⟨rfl, rfl⟩, fun b k c' h => by cases h⟩, fun b hb => by rw [g2 b (by omega), g1 b hb], by rw [hn2]; omega⟩
  ·show (m1.new _).get _ = _; rw [Mem.get_new, if_pos hn1.symm]
  ·rw [g2 _ (by omega)]; show ((m0.new _).new _).get _ = _; rw [Mem.get_new]; exact if_pos rfl
  ·rw [g2 _ (by omega)]; show ((m0.new _).new _).get _ = _
   rw [Mem.get_new, if_neg (by simp only [Mem.next_new]; omega), Mem.get_new]; exact if_pos rfl
 unfold body1
 have hnt : Nat.ble [V.yield (m0.next + 1), V.ptr bx 0].length keysC.nt = true := rfl
 rw [hnt, cond_true]
 have hT1 : (fillS 0 [V.yield (m0.next + 1), V.ptr bx 0] slots0).get s1 = .ptr bx 0 := rfl
 generalize hTT : fillS 0 [V.yield (m0.next + 1), V.ptr bx 0] slots0 = T at hT1
 have hT2 : T.get s0 = .yield (m0.next + 1) := by rw [← hTT]; rfl
 simp only [keysC, code, opers, wantedA, cond_true, oper1, putD]
 rw [hld T hT1]
 simp only
 rw [hrg _ get_eq]
 simp only
 refine range_pred (sN := s6) (sI := s5) (sB := s7) (x := 0) hs (KI m0 mb c es ro) (fun T => T.get s0 = .yield (m0.next + 1) ∧ T.get s5 = .ptr (m0.next + 2) 0) (fun vis m h => h.it) (fun vis m h => by rw [h.old mb hmb]; exact hgm) (fun T h => h.2) (fun T v u h => ?_) (fun vis e T m v he hne hi hj K' hK' => ?_) (fun vis T m hp hi hj => ?_) rounds [] _ m2 (Vis.nil es) (by have := hs.len; simp only [List.length_nil]; omega) hi0 ⟨?_, get_eq⟩
 ·exact ⟨by rw [get_neq (by decide), get_neq (by decide)]; exact h.1, by rw [get_neq (by decide), get_neq (by decide)]; exact h.2⟩
 ·
  obtain ⟨sv, e1, e2, e3⟩ := hi.bx
  have hnx := hi.nx
  let mm := m.set (m0.next + 2) (itO1 mb c vis e.2.2)
  have hgi : mm.get (m0.next + 2) = some (itO1 mb c vis e.2.2) := by show (m.set _ _).get _ = _; rw [Mem.get_set, if_pos rfl]
  have gm : ∀ i, i ≠ m0.next + 2 → mm.get i = m.get i := fun i h => by show (m.set _ _).get i = _; rw [Mem.get_set, if_neg h]
  have hen : ∀ T : Slots, T.get s5 = .ptr (m0.next + 2) 0 → qEntry (.t s5) T mm = some (.tuple [e.1, e.2.1]) := fun T hT => by
   simp only [qEntry, ev, hT, hgi, itO1]
   rw [gm mb (by omega), hi.old mb hmb, hgm]
   exact entry_ok hs he _ _
  have hx := hk e he
  have hlen2 : (vis.map keyI).length < 1000000 := by rw [List.length_map]; exact Nat.lt_of_le_of_lt v.le hlen
  have hround : ∀ K3 : V → Mem → Prop, K3 (.bool true) (roundM mm (m0.next + 1) m0.next sv (keyI e)) → callD pA tab last (d + 1) (Y.put (m0.next + 1) (roundA pA (m0.next + 1) [s7] (code pA cfy2 Y rdA) (code pA cfy2 Y rdB) T0)) (.yield (m0.next + 1)) [.int .i64 (keyI e)] mm K3 := by
   intro K3 hK3
   simp only [callD, Ys.put, Nat.beq_refl, cond_true]
   refine round_run (xs := vis.map keyI) hT0 ?_ ?_ (by omega) (by show m0.next + 1 < m.next; omega) (by show m0.next < m.next; omega) ?_ (fun b hb => ?_) hlen2 hK3
   ·rw [gm _ (by omega)]; exact hi.lp
   ·rw [gm _ (by omega)]; exact e1
   ·rcases e2 with e2 | ⟨b, f1, f2, f3⟩
    ·exact .inl e2
    ·refine .inr ⟨b, f1, f2, ?_⟩
     have := (e3 b _ _ f1).1
     rw [gm b (by omega)]; exact f3
   ·have := e3 b _ _ hb
    exact ⟨this.2, by omega, by omega⟩
  show code pA _ _ keysB T mm K'
  have ha : (((T.set (.tuple [e.1, e.2.1]) s8).set e.1 s9).set e.1 s3).get s0 = .yield (m0.next + 1) := by rw [get_neq (by decide), get_neq (by decide), get_neq (by decide)]; exact hj.1
  have hb : (((T.set (.tuple [e.1, e.2.1]) s8).set e.1 s9).set e.1 s3).get s5 = .ptr (m0.next + 2) 0 := by rw [get_neq (by decide), get_neq (by decide), get_neq (by decide)]; exact hj.2
  simp only [keysB, code, opers, wantedA, cond_true, oper1, putD]
  rw [hen T hj.2]
  simp only [qExt, ev, get_eq, nth, qMov]
  generalize hT3 : ((T.set (.tuple [e.1, e.2.1]) s8).set e.1 s9).set e.1 s3 = T3 at ha hb
  have hc : T3.get s3 = e.1 := by rw [← hT3]; exact get_eq
  simp only [Opd.evs, ev, get_eq, ha, get_neq (show s3 ≠ s10 by decide), hc, get_neq (show s10 ≠ s11 by decide)]
  rw [hx]
  refine hround _ ?_
  simp only [qUn, ev, get_eq, unV, Bool.not_true]
  refine hK' _ _ ⟨?_, ?_⟩ (hi.round e e1)
  ·rw [get_neq (by decide), get_neq (by decide), get_neq (by decide), get_neq (by decide)]; exact ha
  ·rw [get_neq (by decide), get_neq (by decide), get_neq (by decide), get_neq (by decide)]; exact hb
 ·simp only [Nat.beq_refl, cond_true, result, keysC, resVs]
  exact hK vis m _ hp hi
 ·rw [get_neq (by decide), get_neq (by decide)]; exact hT2
theorem appSeq_run {g : Nat} (hg : tab g = some keysC) {d : Nat} {Y : Ys Prop} {m0 : Mem} {bx mb c : Nat} {es : List En} {ro ro2 : Bool} (hs : Stamped es c) (hk : IntKeys es) (hlen : es.length < 1000000) (hmb : mb < m0.next) (hbx : bx < m0.next) (hgb : m0.get bx = some (.cells [.map mb] ro2)) (hgm : m0.get mb = some (.map es c ro)) {K : V → Mem → Prop}
  (hK : ∀ (vis : List En) (m : Mem) (u : V), vis.Perm es → m0.next ≤ m.next → (∀ b, b < m0.next → m.get b = m0.get b) → Holds1 m u (vis.map keyI) → (∀ b k c', u = .slice b 0 k c' 1 → m0.next ≤ b ∧ b < m.next) → K u m) :
  body1 pA (callD pA tab last (d + 2)) Y appSeqC [.nilslice, .func (.func g) [] [.ptr bx 0]] m0 K := by
 unfold body1
 have hnt : Nat.ble [V.nilslice, V.func (.func g) [] [.ptr bx 0]].length appSeqC.nt = true := rfl
 rw [hnt, cond_true]
 have hT0 : (fillS 0 [V.nilslice, V.func (.func g) [] [.ptr bx 0]] slots0).get s0 = .nilslice := rfl
 have hT1 : (fillS 0 [V.nilslice, V.func (.func g) [] [.ptr bx 0]] slots0).get s1 = .func (.func g) [] [.ptr bx 0] := rfl
 generalize fillS 0 [V.nilslice, V.func (.func g) [] [.ptr bx 0]] slots0 = T at hT0 hT1
 have hbox : aBox (.t s0) T m0.next = some (.ptr m0.next 0, .cells [.nilslice] false) := by simp only [aBox, ev, hT0, V.cells]
 simp only [appSeqC, code, opers, wantedA, cond_true, oper1, putD, hbox, qMov, ev]
 simp only [get_neq (show s1 ≠ s4 by decide), get_neq (show s1 ≠ s2 by decide), hT1, get_eq, callD, hg, List.cons_append, List.nil_append]
 refine keys_run (mb := mb) (bx := bx) (c := c) (es := es) (ro := ro) (ro2 := ro2) hs hk hlen hmb hbx hgb hgm ?_ fun vis m u hp hi => ?_
 ·rw [get_neq (by decide), get_neq (by decide)]; exact get_eq
 ·have hnx := hi.nx
  obtain ⟨sv, e1, e2, e3⟩ := hi.bx
  have hle : (m0.new (.cells [.nilslice] false)).next = m0.next + 1 := rfl
  simp only [endLoopA, hle, hi.lp]
  have e0 : Nat.beq 0 2 = false := rfl
  simp only [e0, cond_false]
  have gm : ∀ i, i ≠ m0.next + 1 → (m.set (m0.next + 1) (.loop 3 none)).get i = m.get i := fun i h => by rw [Mem.get_set, if_neg h]
  have hld : ∀ T' : Slots, T'.get s2 = .ptr m0.next 0 → qLoad1 (.t s2) T' (m.set (m0.next + 1) (.loop 3 none)) = some sv := fun T' h => by
   simp only [qLoad1, ev, h, cellsAt]
   rw [gm _ (by omega), e1]; rfl
  rw [hld _ (by rw [get_neq (by decide), get_neq (by decide)]; exact get_eq)]
  simp only [get_eq, result, resVs, resV]
  refine hK vis _ sv hp (by show m0.next ≤ m.next; omega) (fun b hb => by rw [gm b (by omega)]; exact hi.old b hb) ?_ fun b k c' h => ?_
  ·rcases e2 with e2 | ⟨b, f1, f2, f3⟩
   ·exact .inl e2
   ·refine .inr ⟨b, f1, f2, ?_⟩
    have := (e3 b _ _ f1).1
    rw [gm b (by omega)]; exact f3
  ·have := e3 b k c' h
   exact ⟨by omega, this.2⟩
theorem collect_run {a g : Nat} (ha : tab a = some appSeqC) (hg : tab g = some keysC) {d : Nat} {Y : Ys Prop} {m0 : Mem} {bx mb c : Nat} {es : List En} {ro ro2 : Bool} (hs : Stamped es c) (hk : IntKeys es) (hlen : es.length < 1000000) (hmb : mb < m0.next) (hbx : bx < m0.next) (hgb : m0.get bx = some (.cells [.map mb] ro2)) (hgm : m0.get mb = some (.map es c ro)) {K : V → Mem → Prop}
  (hK : ∀ (vis : List En) (m : Mem) (u : V), vis.Perm es → m0.next ≤ m.next → (∀ b, b < m0.next → m.get b = m0.get b) → Holds1 m u (vis.map keyI) → (∀ b k c', u = .slice b 0 k c' 1 → m0.next ≤ b ∧ b < m.next) → K u m) :
  body1 pA (callD pA tab last (d + 3)) Y (collectC a) [.func (.func g) [] [.ptr bx 0]] m0 K := by
 unfold body1
 have hnt : Nat.ble [V.func (.func g) [] [.ptr bx 0]].length (collectC a).nt = true := rfl
 rw [hnt, cond_true]
 have hT0 : (fillS 0 [V.func (.func g) [] [.ptr bx 0]] slots0).get s0 = .func (.func g) [] [.ptr bx 0] := rfl
 generalize fillS 0 [V.func (.func g) [] [.ptr bx 0]] slots0 = T at hT0
 simp only [collectC, code, opers, wantedA, cond_true, oper1, putD, qMov, ev, Opd.evs]
 simp only [get_neq (show s0 ≠ s2 by decide), hT0, get_eq, callD, ha, List.append_nil]
 refine appSeq_run (mb := mb) (bx := bx) (c := c) (es := es) (ro := ro) (ro2 := ro2) hg hs hk hlen hmb hbx hgb hgm fun vis m u hp hn ho hh hb => ?_
 simp only [get_eq, result, resVs, resV]
 exact hK vis m u hp hn ho hh hb
end
def sortI (l : List Int) : List Int := l.mergeSort fun x y => decide (x ≤ y)
theorem sortI_perm {l k : List Int} (h : l.Perm k) : sortI l = sortI k := by
 have tr : ∀ a b c : Int, decide (a ≤ b) = true → decide (b ≤ c) = true → decide (a ≤ c) = true := fun a b c h1 h2 => by
  rw [decide_eq_true_eq] at *; omega
 have to : ∀ a b : Int, (decide (a ≤ b) || decide (b ≤ a)) = true := fun a b => by
  rw [Bool.or_eq_true, decide_eq_true_eq, decide_eq_true_eq]; omega
 refine List.Perm.eq_of_pairwise (le := fun a b => decide (a ≤ b) = true) (fun a b _ _ h1 h2 => ?_) (List.pairwise_mergeSort tr to l) (List.pairwise_mergeSort tr to k) (((List.mergeSort_perm l _).trans h).trans (List.mergeSort_perm k _).symm)
 rw [decide_eq_true_eq] at h1 h2; omega
inductive SortS : Con → Prop
 | mk (zs : List Int) (h : zs ≠ []) (hl : zs.length < 4611686018427387904) : SortS ⟨[.slice 0 0 zs.length zs.length 1], [.cells (iV zs) false], .tuple [], [.cells (iV (sortI zs)) false], []⟩
theorem wfSort (zs ys : List Int) (k : Nat) : Con.wf ⟨[.slice 0 0 k k 1], [.cells (iV zs) false], .tuple [], [.cells (iV ys) false], []⟩ = true := by
 simp only [Con.wf, bels, V.bel, Con.p0, List.length_cons, List.length_nil, List.all_cons, List.all_nil, AObj.bel, bels_iV, AObj.live, Bool.and_true, nodupN, Bool.and_self]
 rfl
section
variable {tab : Nat → Option AFunc} {last0 : CF Prop}
theorem sorted_run {f a g h : Nat} (hf : tab f = some (collectC a)) (ha : tab a = some appSeqC) (hg : tab g = some keysC) (hh : tab h = none) {d : Nat} {Y : Ys Prop} {m0 : Mem} {bx mb c : Nat} {es : List En} {ro ro2 : Bool} (hne : es ≠ []) (hs : Stamped es c) (hk : IntKeys es) (hlen : es.length < 1000000) (hmb : mb < m0.next) (hbx : bx < m0.next)
  (hgb : m0.get bx = some (.cells [.map mb] ro2)) (hgm : m0.get mb = some (.map es c ro)) {K : V → Mem → Prop}
  (hK : ∀ (m : Mem) (b : Nat), m0.next ≤ b → b < m.next → (∀ i, i < m0.next → m.get i = m0.get i) → m.get b = some (.cells (iV (sortI (es.map keyI))) false) → K (.slice b 0 es.length es.length 1) m) :
  body1 pA (callD pA tab (lastC h SortS last0) (d + 4)) Y (sortedC f h) [.func (.func g) [] [.ptr bx 0]] m0 K := by
 unfold body1
 have hnt : Nat.ble [V.func (.func g) [] [.ptr bx 0]].length (sortedC f h).nt = true := rfl
 rw [hnt, cond_true]
 have hT0 : (fillS 0 [V.func (.func g) [] [.ptr bx 0]] slots0).get s0 = .func (.func g) [] [.ptr bx 0] := rfl
 generalize fillS 0 [V.func (.func g) [] [.ptr bx 0]] slots0 = T at hT0
 simp only [sortedC, code, opers, wantedA, cond_true, oper1, putD, qMov, ev, Opd.evs]
 simp only [get_neq (show s0 ≠ s2 by decide), hT0, get_eq]
 show callD pA tab (lastC h SortS last0) (d + 3 + 1) Y (.func (.func f) [] []) [.func (.func g) [] [.ptr bx 0]] m0 _
 simp only [callD, hf, List.append_nil]
 refine collect_run (mb := mb) (bx := bx) (c := c) (es := es) (ro := ro) (ro2 := ro2) ha hg hs hk hlen hmb hbx hgb hgm fun vis m u hp hn ho hv hb => ?_
 rcases hv with ⟨h1, _⟩ | ⟨b, rfl, h1, h2⟩
 ·exfalso
  have : vis = [] := by simpa using h1
  subst this
  exact hne hp.nil_eq.symm
 ·have hl : (vis.map keyI).length = es.length := by rw [List.length_map]; exact hp.length_eq
  obtain ⟨b1, b2⟩ := hb b _ _ rfl
  have hat : ConAt ⟨[.slice 0 0 (vis.map keyI).length (vis.map keyI).length 1], [.cells (iV (vis.map keyI)) false], .tuple [], [.cells (iV (sortI (vis.map keyI))) false], []⟩ (nthD [b]) [.slice b 0 (vis.map keyI).length (vis.map keyI).length 1] m :=
   conAt_of (wfSort _ _ _) rfl rfl ⟨by rw [show (nthD [b] 0) = b from rfl, h2]; exact congrArg (fun c => some (AObj.cells c false)) (rens_iV _ _).symm, trivial⟩
  simp only [get_eq, get_neq (show s3 ≠ s6 by decide), hh]
  refine conIn (SortS.mk (vis.map keyI) h1 (by rw [hl]; omega)) hat ?_
  have hmem : Con.mem ⟨[.slice 0 0 (vis.map keyI).length (vis.map keyI).length 1], [.cells (iV (vis.map keyI)) false], .tuple [], [.cells (iV (sortI (vis.map keyI))) false], []⟩ (nthD [b]) m = m.set b (.cells (iV (sortI (es.map keyI))) false) := by
   show m.set b ((AObj.cells (iV (sortI (vis.map keyI))) false).ren _) = _
   simp only [AObj.ren]
   rw [rens_iV, sortI_perm (hp.map keyI)]
  rw [hmem]
  simp only [get_eq, get_neq (show s3 ≠ s7 by decide), get_neq (show s3 ≠ s6 by decide), result, resVs, resV]
  rw [hl]
  refine hK _ b b1 (by show b < m.next; exact b2) (fun i hi => ?_) ?_
  ·rw [Mem.get_set, if_neg (by omega)]; exact ho i hi
  ·rw [Mem.get_set, if_pos rfl]
end
theorem conOk_slice {P : Program} (hmix : P.follows .mixedOrders = true) {n : Nat} {af : AFunc} (hok : FOk P n af) {cfy : Ys Prop → CF Prop} (hcf : CFOk P cfy id) {args : List V} {pre : List AObj} {k : Nat} {cs : List V} (hpl : plains cs = true) (hbel : ∀ o ∈ pre, o.belD pre.length = true)
  (hw : body1 pA cfy Ys.none af args (memO pre) fun u m => ∃ b, pre.length ≤ b ∧ u = .slice b 0 k k 1 ∧ m.get b = some (.cells cs false) ∧ ∀ (c : Nat) (o : AObj), pre[c]? = some o → m.get c = some o) :
  ConOk P n ⟨args, pre, .slice pre.length 0 k k 1, pre, [(pre.length, .cells cs false)]⟩ := by
 intro ρ w args' hρ hm ha
 have hρ : ∀ c i, ρ c = some i → c < pre.length := hρ
 have hm : MR ρ (memO pre) w := hm
 obtain ⟨fn, h3, h4, _⟩ := hok
 refine (func_sound (A := pA) (H := id) pHolds hcf hmix h3 h4 (Y := Ys.none) (ρ := ρ) YOk.none hm ha hw).mono fun e w' he => ?_
 cases e with
 | panicked c => exact he.elim
 | outgrown => exact he.elim
 | returned v' =>
  obtain ⟨ρ', u, m', hv, hm', hx, b, hb1, rfl, hb2, hb3⟩ := he
  let N := pre.length
  let ρ'' : Ren := fun c => if c < N then ρ' c else if c = N then ρ' b else none
  let m'' : Mem := memO (pre ++ [.cells cs false])
  have hget : ∀ c o, m''.get c = some o → (c < N ∧ pre[c]? = some o) ∨ (c = N ∧ o = .cells cs false) := by
   intro c o h
   show _
   rw [memO_get] at h
   rcases Nat.lt_or_ge c N with hc | hc
   ·rw [List.getElem?_append_left hc] at h; exact .inl ⟨hc, h⟩
   ·rw [List.getElem?_append_right hc] at h
    have : c - N = 0 := by
     rcases Nat.eq_zero_or_pos (c - N) with h0 | h0
     ·exact h0
     ·rw [List.getElem?_eq_none (by simp; omega)] at h; cases h
    rw [show c - pre.length = 0 from this] at h
    cases h
    exact .inr ⟨by omega, rfl⟩
  have hlow : ∀ c i, c < N → ρ' c = some i → ρ'' c = some i := fun c i hc h => by simp only [ρ'']; rw [if_pos hc]; exact h
  have hkeep : ∀ c i, underN N c = true → ρ' c = some i → ρ'' c = some i := fun c i hc h => hlow c i (nblt_iff.1 hc) h
  have hN : ∀ i, ρ' b = some i → ρ'' N = some i := fun i h => by simp only [ρ'']; rw [if_neg (Nat.lt_irrefl _), if_true]; exact h
  have r0 : ∀ c i, ρ'' c = some i → (c < N ∧ ρ' c = some i) ∨ (c = N ∧ ρ' b = some i) := by
   intro c i h
   simp only [ρ''] at h
   split at h
   ·exact .inl ⟨by assumption, h⟩
   ·split at h
    ·exact .inr ⟨by assumption, h⟩
    ·cases h
  have src : ∀ c i o, ρ'' c = some i → m''.get c = some o → ∃ x, ρ' x = some i ∧ m'.get x = some o ∧ ((c < N ∧ x = c) ∨ (c = N ∧ x = b)) := by
   intro c i o h1 h2
   rcases r0 c i h1 with ⟨a1, a2⟩ | ⟨a1, a2⟩
   ·rcases hget c o h2 with ⟨_, b2⟩ | ⟨b1, _⟩
    ·exact ⟨c, a2, hb3 c o b2, .inl ⟨a1, rfl⟩⟩
    ·omega
   ·rcases hget c o h2 with ⟨b1, _⟩ | ⟨_, rfl⟩
    ·omega
    ·exact ⟨b, a2, hb2, .inr ⟨a1, rfl⟩⟩
  have hnext : m''.next = N + 1 := by show (pre ++ [AObj.cells cs false]).length = N + 1; simp [N]
  refine ⟨ρ'', m'', v', rfl, ⟨fun c i h => ?_, fun c i o h ho => ?_, fun c e i j o u h1 h2 hij ho hw hu hl => ?_⟩, ⟨fun c i h => ?_, hx.size, ?_, fun c i h => ?_, hx.keep, fun c i o h ho hw hlt => ?_, hx.mute⟩, ?_, fun c o h => ?_, fun x hx => ?_⟩
  ·rw [hnext]
   rcases r0 c i h with ⟨a1, a2⟩ | ⟨a1, a2⟩
   ·exact ⟨by omega, (hm'.lt c i a2).2⟩
   ·exact ⟨by omega, (hm'.lt b i a2).2⟩
  ·obtain ⟨x, x1, x2, x3⟩ := src c i o h ho
   have h1 := hm'.obj x i o x1 x2
   rcases x3 with ⟨a1, rfl⟩ | ⟨a1, rfl⟩
   ·rcases hget x o ho with ⟨_, b2⟩ | ⟨b1, _⟩
    ·exact h1.keep hkeep (hbel o (List.mem_of_getElem? b2))
    ·omega
   ·rcases hget c o ho with ⟨b1, _⟩ | ⟨_, rfl⟩
    ·omega
    ·exact h1.any (by simp only [AObj.plain, hpl, Bool.not_false, Bool.and_self])
  ·obtain ⟨x, x1, x2, x3⟩ := src c i o h1 ho
   obtain ⟨y, y1, y2, y3⟩ := src e j u h2 hu
   have := hm'.inj x y i j o u x1 y1 hij x2 hw y2 hl
   subst this
   rcases x3 with ⟨a1, a2⟩ | ⟨a1, a2⟩ <;> rcases y3 with ⟨b1, b2⟩ | ⟨b1, b2⟩ <;> omega
  ·exact hlow c i (hρ c i h) (hx.ren c i h)
  ·rw [hnext]; show pre.length ≤ N + 1; omega
  ·rcases r0 c i h with ⟨a1, a2⟩ | ⟨a1, a2⟩
   ·rcases hx.fresh c i a2 with h | h
    ·exact .inl h
    ·exact .inr h
   ·exact .inr (by show pre.length ≤ c; omega)
  ·obtain ⟨x, x1, x2, _⟩ := src c i o h ho
   exact hx.old x i o x1 x2 hw hlt
  ·cases hv with | slice e1 e2 e3 e4 e5 => exact .slice (hN _ e1) e2 e3 e4 e5
  ·have hc : c < N := (List.getElem?_eq_some_iff.1 h).1
   show (memO _).get c = _
   rw [memO_get, List.getElem?_append_left hc]; exact h
  ·simp only [List.mem_cons, List.not_mem_nil, or_false] at hx
   subst hx
   show (memO _).get _ = _
   rw [memO_get, List.getElem?_append_right (Nat.le_refl _), Nat.sub_self]; rfl
end Go.AM
