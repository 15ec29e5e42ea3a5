/- The document's Make answers what Make answers. No condition. -/
import Derived.Test.YthmbmcpjakbepaaOW
namespace Go.Proofs.Ythmbmcpjakbepaa
open Go Go.AM
set_option maxRecDepth 100000
set_option maxHeartbeats 4000000
set_option linter.unusedVariables false
set_option linter.unusedSectionVars false
theorem nth_drop : ∀ (k : Nat) (l : List V) (j : Nat), nth (dropN k l) j = nth l (k + j)
 | 0, l, j => by rw [Nat.zero_add]; rfl
 | k + 1, [], j => rfl
 | k + 1, v :: l, j => by rw [show k + 1 + j = (k + j) + 1 from by omega]; exact nth_drop k l j
theorem takeN_nth : ∀ {n : Nat} {l r : List V} {j : Nat}, takeN n l = some r → j < n → nth l j = nth r j
 | 0, _, _, _, _, hj => by omega
 | n + 1, [], _, _, h, _ => by cases h
 | n + 1, v :: l, r, j, h, hj => by
  unfold takeN at h
  cases h1 : takeN n l with
  | none => rw [h1] at h; cases h
  | some r' =>
   rw [h1] at h; cases h
   cases j with
   | zero => rfl
   | succ j => exact takeN_nth (n := n) (l := l) (r := r') (j := j) h1 (by omega)
theorem load_nth {n off : Nat} {X r : List V} {j : Nat} (h : loadV n off X = some (.agg r)) (hj : j < n) : nth X (off + j) = nth r j := by
 unfold loadV at h
 split at h
 ·rename_i cs h1; cases h; rw [← takeN_nth h1 hj, nth_drop]
 ·cases h
theorem cF_app : ∀ a b : List Sp, cF (a ++ b) = cF a ++ cF b
 | [], b => rfl
 | s :: a, b => by simp only [List.cons_append, List.nil_append, cF, cF_app a b]
theorem cF_len : ∀ l : List Sp, (cF l).length = l.length * 12
 | [] => rfl
 | s :: l => by
  have h : (cF (s :: l)).length = 12 + (cF l).length := by rw [cF, List.length_append]; rfl
  rw [h, cF_len l, List.length_cons]; omega
theorem load_cF : ∀ {l : List Sp} {i : Nat} {s : Sp}, l[i]? = some s → loadV 12 (i * 12) (cF l) = some s.v
 | [], i, s, h => by simp at h
 | t :: l, 0, s, h => by simp at h; subst h; rfl
 | t :: l, i + 1, s, h => by
  rw [show (i + 1) * 12 = i * 12 + 12 from by omega]
  exact load_cF (l := l) (i := i) (by simpa using h)
theorem nth_cF {l : List Sp} {i : Nat} {s : Sp} (h : l[i]? = some s) : nth (cF l) (i * 12 + 5) = some (.int .i64 s.e) := load_nth (load_cF h) (by decide)
theorem takeN_all : ∀ (l : List V) (n : Nat), l.length = n → takeN n l = some l
 | [], n, h => by subst h; rfl
 | a :: l, n, h => by subst h; simp only [List.length_cons, takeN, takeN_all l _ rfl]
theorem grow_cF {ls : List Sp} {s : Sp} {w : Nat} (h : ls.length = w) (hl : w ≤ 192) : growV 12 96 1 s.cs 0 w w (cF ls) = some (cF (ls ++ [s])) := by
 have h1 : Nat.ble (w + 1) w = false := by
  cases e : Nat.ble (w + 1) w with
  | false => rfl
  | true => have := nble_iff.1 e; omega
 have h2 : small (w + 1) 96 = true := small_iff.2 (by omega)
 unfold growV
 rw [h1, h2, show takeN (w * 12) (dropN 0 (cF ls)) = some (cF ls) from takeN_all (cF ls) _ (by rw [cF_len, h]), cF_app]
 rfl
theorem eqv_says (x s : Sp) : eqvV false K12 (sup x.a s.m x.l x.n x.r x.e x.p x.x0 x.x1 x.x2 x.x3 x.c) s.v = some (.bool (decide (says x = says s))) := by
 have h := keyEq_sp ⟨x.a, s.m, x.l, x.n, x.r, x.e, x.p, x.x0, x.x1, x.x2, x.x3, x.c⟩ s
 rw [eqvV, h]
 have e : decide ((⟨x.a, s.m, x.l, x.n, x.r, x.e, x.p, x.x0, x.x1, x.x2, x.x3, x.c⟩ : Sp) = s) = decide (says x = says s) := by
  cases s; cases x
  simp only [says, Sp.mk.injEq, true_and]
 rw [e]
 cases decide (says x = says s) <;> rfl
theorem cnt_take {k : Sp} {l : List Sp} {i : Nat} {s : Sp} (h : l[i]? = some s) : cnt k (l.take (i + 1)) = cnt k (l.take i) + (if says s = k then 1 else 0) := by
 rw [List.take_add_one, h, Option.toList_some, cnt, cnt, List.filter_append, List.length_append]
 by_cases e : says s = k
 ·simp [e]
 ·simp [e]
theorem kF {σ : Nat → Nat} {l : List Sp} : some (AObj.cells (cF l) false) = some ((AObj.cells (cF l) false).ren σ) := congrArg (fun c => some (AObj.cells c false)) (rens_cF _ _).symm
theorem wf47 (ll : List Sp) (n : Nat) (s : Sp) (k : Nat) : Con.wf ⟨[.slice 0 0 n n 12, s.v], [.cells (cF ll) false], .int .i64 ((k : Nat) : Int), [.cells (cF ll) false], []⟩ = true := by
 simp only [Con.wf, bels, V.bel, Con.p0, List.length_cons, List.length_nil, List.all_cons, List.all_nil, AObj.bel, bels_cF, AObj.live, Bool.and_true, nodupN, Bool.and_self]
 rfl
theorem wf40 (ll : List Sp) (n : Nat) (a b : Sp) (k : Bool) : Con.wf ⟨[.slice 0 0 n n 12, a.v, b.v], [.cells (cF ll) false], .bool k, [.cells (cF ll) false], []⟩ = true := by
 simp only [Con.wf, bels, V.bel, Con.p0, List.length_cons, List.length_nil, List.all_cons, List.all_nil, AObj.bel, bels_cF, AObj.live, Bool.and_true, nodupN, Bool.and_self]
 rfl
theorem say_run (Y : Ys Prop) {ll : List Sp} {n : Nat} (hl : ll.length = n) (hn : n ≤ 100) (s : Sp) : body1D (callD pA tb0 la0 5) Y c47 [.slice 0 0 n n 12, s.v] (memO [.cells (cF ll) false]) (endC ⟨[.slice 0 0 n n 12, s.v], [.cells (cF ll) false], .int .i64 ((cnt (says s) ll : Nat) : Int), [.cells (cF ll) false], []⟩) := by
 have hc : ∀ i, cnt (says s) (ll.take i) ≤ 100 := fun i => Nat.le_trans (cnt_le _ _) (by rw [List.length_take]; omega)
 refine sy Y s.a s.m s.l s.n s.r s.e s.p s.x0 s.x1 s.x2 s.x3 s.c n (cF ll) hn (cnt (says s) ll) (by have := hc n; rwa [List.take_of_length_le (by omega)] at this) ?_
 refine loopD (B := 1) (N := 2) (by decide) n (Nat.lt_of_le_of_lt hn (by decide)) _ (fun _ => memL 2 [(0, .cells (cF ll) false), (1, .cells s.cs false)]) (fun i => memL 3 [(0, .cells (cF ll) false), (1, .cells s.cs false), (2, .cells (Sp.cs ⟨(ll.getD i sp0).a, s.m, (ll.getD i sp0).l, (ll.getD i sp0).n, (ll.getD i sp0).r, (ll.getD i sp0).e, (ll.getD i sp0).p, (ll.getD i sp0).x0, (ll.getD i sp0).x1, (ll.getD i sp0).x2, (ll.getD i sp0).x3, (ll.getD i sp0).c⟩) false)]) (fun i => [(s0, .slice 0 0 n n 12), (s3, .ptr 1 0), (s5, .int .i64 ((cnt (says s) (ll.take i) : Nat) : Int)), (s6, .int .i64 ((i : Nat) : Int))]) _ _ (dropM_of (show (2 : Nat) ≤ 2 by decide) ⟨⟨rfl, bels_cF _ _⟩, ⟨rfl, rfl⟩, trivial⟩) (fun i _ => dropM_of (show (2 : Nat) ≤ 3 by decide) ⟨⟨rfl, bels_cF _ _⟩, ⟨rfl, rfl⟩, trivial⟩) (fun _ => rfl) ?_ ?_
 ·intro Y i T hi hT K hK
  have hx : ll[i]? = some (ll.getD i sp0) := by rw [List.getD_eq_getElem?_getD, List.getElem?_eq_getElem (by omega)]; rfl
  have hq := eqv_says (ll.getD i sp0) s
  rw [cnt_take hx] at hK
  generalize ll.getD i sp0 = x at hx hq hK
  by_cases e : says x = says s
  ·rw [if_pos e] at hK; rw [decide_eq_true e] at hq
   exact sy_y Y s.a s.m s.l s.n s.r s.e s.p s.x0 s.x1 s.x2 s.x3 s.c n (cF ll) hn i _ hi (hc i) x.a x.m x.l x.n x.r x.e x.p x.x0 x.x1 x.x2 x.x3 x.c (load_cF hx) hq T hT K hK
  ·rw [if_neg e, Nat.add_zero] at hK; rw [decide_eq_false e] at hq
   exact sy_n Y s.a s.m s.l s.n s.r s.e s.p s.x0 s.x1 s.x2 s.x3 s.c n (cF ll) hn i _ hi (hc i) x.a x.m x.l x.n x.r x.e x.p x.x0 x.x1 x.x2 x.x3 x.c (load_cF hx) hq T hT K hK
 ·intro Y T hT K hK
  rw [List.take_of_length_le (by omega)] at hT
  exact sy_e Y s.a s.m s.l s.n s.r s.e s.p s.x0 s.x1 s.x2 s.x3 s.c n (cF ll) hn _ T hT K hK
theorem ills_walk (Y : Ys Prop) (s : Sp) (hn : s.n = 2 ∨ s.n = 3 ∨ s.n = 4) (K : V → Mem → Prop) (hK : ∀ mm, K (.bool (!aliveB s)) mm) : body1 pA (callD pA tb0 la0 5) Y c48 [s.v] ⟨0, .leaf⟩ K := by
 obtain ⟨a, m, l, n, r, e, p, x0, x1, x2, x3, c⟩ := s
 simp only at hn hK
 rcases hn with rfl | rfl | rfl
 ·skip
  by_cases u0 : x0 = 1
  case neg => rw [show aliveB ⟨a, m, l, 2, r, e, p, x0, x1, x2, x3, c⟩ = false from by simp [aliveB, u0]] at hK; exact il_2_0 Y a m l r e p x0 x1 x2 x3 c u0 K hK
  by_cases u1 : x1 = 1
  case neg => rw [show aliveB ⟨a, m, l, 2, r, e, p, x0, x1, x2, x3, c⟩ = false from by simp [aliveB, u0, u1]] at hK; exact il_2_1 Y a m l r e p x0 x1 x2 x3 c u0 u1 K hK
  rw [show aliveB ⟨a, m, l, 2, r, e, p, x0, x1, x2, x3, c⟩ = true from by simp [aliveB, u0, u1]] at hK; exact il_2_2 Y a m l r e p x0 x1 x2 x3 c u0 u1 K hK
 ·skip
  by_cases u0 : x0 = 1
  case neg => rw [show aliveB ⟨a, m, l, 3, r, e, p, x0, x1, x2, x3, c⟩ = false from by simp [aliveB, u0]] at hK; exact il_3_0 Y a m l r e p x0 x1 x2 x3 c u0 K hK
  by_cases u1 : x1 = 1
  case neg => rw [show aliveB ⟨a, m, l, 3, r, e, p, x0, x1, x2, x3, c⟩ = false from by simp [aliveB, u0, u1]] at hK; exact il_3_1 Y a m l r e p x0 x1 x2 x3 c u0 u1 K hK
  by_cases u2 : x2 = 1
  case neg => rw [show aliveB ⟨a, m, l, 3, r, e, p, x0, x1, x2, x3, c⟩ = false from by simp [aliveB, u0, u1, u2]] at hK; exact il_3_2 Y a m l r e p x0 x1 x2 x3 c u0 u1 u2 K hK
  rw [show aliveB ⟨a, m, l, 3, r, e, p, x0, x1, x2, x3, c⟩ = true from by simp [aliveB, u0, u1, u2]] at hK; exact il_3_3 Y a m l r e p x0 x1 x2 x3 c u0 u1 u2 K hK
 ·skip
  by_cases u0 : x0 = 1
  case neg => rw [show aliveB ⟨a, m, l, 4, r, e, p, x0, x1, x2, x3, c⟩ = false from by simp [aliveB, u0]] at hK; exact il_4_0 Y a m l r e p x0 x1 x2 x3 c u0 K hK
  by_cases u1 : x1 = 1
  case neg => rw [show aliveB ⟨a, m, l, 4, r, e, p, x0, x1, x2, x3, c⟩ = false from by simp [aliveB, u0, u1]] at hK; exact il_4_1 Y a m l r e p x0 x1 x2 x3 c u0 u1 K hK
  by_cases u2 : x2 = 1
  case neg => rw [show aliveB ⟨a, m, l, 4, r, e, p, x0, x1, x2, x3, c⟩ = false from by simp [aliveB, u0, u1, u2]] at hK; exact il_4_2 Y a m l r e p x0 x1 x2 x3 c u0 u1 u2 K hK
  by_cases u3 : x3 = 1
  case neg => rw [show aliveB ⟨a, m, l, 4, r, e, p, x0, x1, x2, x3, c⟩ = false from by simp [aliveB, u0, u1, u2, u3]] at hK; exact il_4_3 Y a m l r e p x0 x1 x2 x3 c u0 u1 u2 u3 K hK
  rw [show aliveB ⟨a, m, l, 4, r, e, p, x0, x1, x2, x3, c⟩ = true from by simp [aliveB, u0, u1, u2, u3]] at hK; exact il_4_4 Y a m l r e p x0 x1 x2 x3 c u0 u1 u2 u3 K hK
theorem R48_y (s : Sp) (hn : s.n = 2 ∨ s.n = 3 ∨ s.n = 4) : R48 [s.v] = some (.bool (!aliveB s)) := if_pos hn
theorem ahead_run (Y : Ys Prop) {ll : List Sp} {n : Nat} (hl : ll.length = n) (hn : n ≤ 100) (a b : Sp) (ha : a.n = 2 ∨ a.n = 3 ∨ a.n = 4) (hb : b.n = 2 ∨ b.n = 3 ∨ b.n = 4) : body1 pA (callD pA tb0 la40 5) Y c40 [.slice 0 0 n n 12, a.v, b.v] (memO [.cells (cF ll) false]) (endC ⟨[.slice 0 0 n n 12, a.v, b.v], [.cells (cF ll) false], .bool (aheadB ll a b), [.cells (cF ll) false], []⟩) := by
 have k1 := S47.mk ll n hl hn a
 have k2 := S47.mk ll n hl hn b
 have w1 := wf47 ll n a (cnt (says a) ll)
 have w2 := wf47 ll n b (cnt (says b) ll)
 have i1 := R48_y a ha
 have i2 := R48_y b hb
 unfold aheadB
 generalize cnt (says a) ll = ka at k1 w1 ⊢
 generalize cnt (says b) ll = kb at k2 w2 ⊢
 by_cases h : ka = kb
 ·rw [if_pos h]
  cases ea : aliveB a with
  | true => rw [ea] at i1; exact ah_n Y a.a a.m a.l a.n a.r a.e a.p a.x0 a.x1 a.x2 a.x3 a.c b.a b.m b.l b.n b.r b.e b.p b.x0 b.x1 b.x2 b.x3 b.c n ll hn ka kb k1 w1 k2 w2 h i1
  | false =>
   rw [ea] at i1
   cases eb : aliveB b with
   | true => rw [eb] at i2; exact ah_yf Y a.a a.m a.l a.n a.r a.e a.p a.x0 a.x1 a.x2 a.x3 a.c b.a b.m b.l b.n b.r b.e b.p b.x0 b.x1 b.x2 b.x3 b.c n ll hn ka kb k1 w1 k2 w2 h i1 i2
   | false => rw [eb] at i2; exact ah_yt Y a.a a.m a.l a.n a.r a.e a.p a.x0 a.x1 a.x2 a.x3 a.c b.a b.m b.l b.n b.r b.e b.p b.x0 b.x1 b.x2 b.x3 b.c n ll hn ka kb k1 w1 k2 w2 h i1 i2
 ·rw [if_neg h]
  by_cases g : kb < ka
  ·rw [decide_eq_true g]; exact ah_g Y a.a a.m a.l a.n a.r a.e a.p a.x0 a.x1 a.x2 a.x3 a.c b.a b.m b.l b.n b.r b.e b.p b.x0 b.x1 b.x2 b.x3 b.c n ll hn ka kb k1 w1 k2 w2 g
  ·rw [decide_eq_false g]; exact ah_l Y a.a a.m a.l a.n a.r a.e a.p a.x0 a.x1 a.x2 a.x3 a.c b.a b.m b.l b.n b.r b.e b.p b.x0 b.x1 b.x2 b.x3 b.c n ll hn ka kb k1 w1 k2 w2 (by omega)
def ownL (D : Dk) (q : Int) (i : Nat) : List Sp := (own D q i).map (·.2)
theorem ownL_y {D : Dk} {q : Int} {i : Nat} (h : isOwn D q i) : ownL D q (i + 1) = ownL D q i ++ [D.sp i] := by
 unfold ownL; rw [show own D q (i + 1) = own D q i ++ [(i, D.sp i)] from if_pos h, List.map_append]; rfl
theorem ownL_n {D : Dk} {q : Int} {i : Nat} (h : ¬ isOwn D q i) : ownL D q (i + 1) = ownL D q i := by
 unfold ownL; rw [show own D q (i + 1) = own D q i from if_neg h]
theorem ownL_len {D : Dk} {q : Int} {i : Nat} : (ownL D q i).length ≤ i := by rw [ownL, List.length_map]; exact own_len
def slF (b : Nat) : List Sp → V
 | [] => .nilslice
 | _ :: l => .slice b 0 (l.length + 1) (l.length + 1) 12
def obF : List Sp → AObj
 | [] => .dead
 | x :: l => .cells (cF (x :: l)) false
theorem slF_app (b : Nat) (l : List Sp) (x : Sp) : slF b (l ++ [x]) = .slice b 0 (l.length + 1) (l.length + 1) 12 := by
 cases l <;> simp [slF]
theorem obF_app (l : List Sp) (x : Sp) : obF (l ++ [x]) = .cells (cF (l ++ [x])) false := by cases l <;> rfl
theorem slF_ne {b : Nat} {l : List Sp} (h : l ≠ []) : slF b l = .slice b 0 l.length l.length 12 := by
 cases l with
 | nil => exact absurd rfl h
 | cons x l => rfl
theorem obF_ne {l : List Sp} (h : l ≠ []) : obF l = .cells (cF l) false := by
 cases l with
 | nil => exact absurd rfl h
 | cons x l => rfl
theorem sliceN_back {b b' n c z : Nat} {q : List Nat} (h : inL b q = true) (hb : idxL b q = b') : (V.slice b 0 n c z).back q = .slice b' 0 n c z := by
 unfold V.back
 rw [show (V.slice b 0 n c z).bel (fun c => inL c q) = true from h]
 show V.slice (idxL b q) 0 n c z = _
 rw [hb]
theorem slF_back {b b' : Nat} {q : List Nat} (h : inL b q = true) (hb : idxL b q = b') (l : List Sp) : (slF b l).back q = slF b' l := by
 cases l with
 | nil => rfl
 | cons x l => exact sliceN_back h hb
theorem obF_pre (B N : Nat) (σ : Nat → Nat) (l : List Sp) : obF l = .dead ∨ ((obF l).lowIt B = true ∧ some (obF l) = some (obF l)) ∨ some (obF l) = some ((obF l).ren σ) ∧ (obF l).bel (fun c => Nat.blt c N) = true := by
 cases l with
 | nil => exact .inl rfl
 | cons x l => exact .inr (.inr ⟨kF, bels_cF _ _⟩)
theorem obF_new (B N : Nat) (σ : Nat → Nat) (l : List Sp) (x : Sp) : obF (l ++ [x]) = .dead ∨ ((obF (l ++ [x])).lowIt B = true ∧ some (AObj.cells (cF (l ++ [x])) false) = some (obF (l ++ [x]))) ∨ some (AObj.cells (cF (l ++ [x])) false) = some ((obF (l ++ [x])).ren σ) ∧ (obF (l ++ [x])).bel (fun c => Nat.blt c N) = true := by
 rw [obF_app]; exact .inr (.inr ⟨kF, bels_cF _ _⟩)
theorem zo_of {D : Dk} {R : List V → Option V} {X : List V} {n : Nat} (ok : DkOk D R X n) {i : Nat} (hi : i < n) : nth X (i * 2 + 0) = some (.str (D.zs i)) ∧ nth X (i * 2 + 1) = some (.str (D.os i)) :=
 ⟨load_nth (ok.ld i hi) (by decide), load_nth (ok.ld i hi) (by decide)⟩
abbrev sR0 (n k : Nat) (q : Int) (v : V) (i : Nat) : List (Sl × V) := [(s0, .slice 0 0 n k 2), (s1, .int .i64 q), (s4, .ptr 1 0), (s5, .bool false), (s6, .ptr 2 0), (s7, v), (s8, .int .i64 ((i : Nat) : Int))]
abbrev mR0 (X : List V) (ob : AObj) : Mem := memL 4 [(0, .cells X false), (1, .cells mad0 false), (2, .cells mad0 false), (3, ob)]
theorem loopR0 {D : Dk} {R : List V → Option V} {X : List V} {n : Nat} (ok : DkOk D R X n) (hX : ∀ σ, rens σ X = X) (k : Nat) (q : Int) :
  LoopOkD (callD pA tb0 (la25 R) 5) 1 c25l0 (.exit 0) (memL 3 [(0, .cells X false), (1, .cells mad0 false), (2, .cells mad0 false)]) (sR0 n k q .nilslice 0) (fun _ => True) (fun _ => mR0 X (obF (ownL D q n))) (fun _ => sR0 n k q (slF 3 (ownL D q n)) n) := by
 have kX : ∀ σ, some (AObj.cells X false) = some ((AObj.cells X false).ren σ) := fun σ => congrArg (fun c => some (AObj.cells c false)) (hX σ).symm
 refine loopR (B := 1) (by intro h; cases h) n (Nat.lt_of_le_of_lt ok.le (by decide)) _ _ [0, 1, 2, 3] (fun i => mR0 X (obF (ownL D q i)))
  (fun i => bif decide (isOwn D q i) then memL 7 [(0, .cells X false), (1, .cells mad0 false), (2, .cells mad0 false), (3, .dead), (4, .cells (D.sp i).cs false), (5, .cells (D.sp i).cs false), (6, .cells (cF (ownL D q (i + 1))) false)] else memL 5 [(0, .cells X false), (1, .cells mad0 false), (2, .cells mad0 false), (3, obF (ownL D q i)), (4, .cells (D.sp i).cs false)])
  (fun i => sR0 n k q (slF 3 (ownL D q i)) i) (fun i => bif decide (isOwn D q i) then sR0 n k q (slF 6 (ownL D q (i + 1))) (i + 1) else sR0 n k q (slF 3 (ownL D q i)) (i + 1)) (fun i => bif decide (isOwn D q i) then [0, 1, 2, 6] else [0, 1, 2, 3]) _ _ ?_ rfl (fun i hi => ?_) (fun i hi => ?_) ?_ ?_
 ·exact renM_of (objs := [.cells X false, .cells mad0 false, .cells mad0 false, .dead]) rfl (by decide) rfl ⟨.inr (.inr ⟨kX _, ok.pl _⟩), .inr (.inr ⟨rfl, rfl⟩), .inr (.inr ⟨rfl, rfl⟩), .inl rfl, trivial⟩
 ·by_cases ho : isOwn D q i
  ·simp only [decide_eq_true ho, cond_true]
   rw [ownL_y ho]
   exact renM_of (objs := [.cells X false, .cells mad0 false, .cells mad0 false, obF (ownL D q i ++ [D.sp i])]) rfl (by decide) rfl ⟨.inr (.inr ⟨kX _, ok.pl _⟩), .inr (.inr ⟨rfl, rfl⟩), .inr (.inr ⟨rfl, rfl⟩), obF_new _ _ _ _ _, trivial⟩
  ·simp only [decide_eq_false ho, cond_false]
   rw [ownL_n ho]
   exact renM_of (objs := [.cells X false, .cells mad0 false, .cells mad0 false, obF (ownL D q i)]) rfl (by decide) rfl ⟨.inr (.inr ⟨kX _, ok.pl _⟩), .inr (.inr ⟨rfl, rfl⟩), .inr (.inr ⟨rfl, rfl⟩), obF_pre _ _ _ _, trivial⟩
 ·by_cases ho : isOwn D q i
  ·simp only [decide_eq_true ho, cond_true, backS, List.map_cons, List.map_nil]
   rw [slF_back (b' := 3) rfl rfl, sliceN_back (b' := 0) rfl rfl]
   rfl
  ·simp only [decide_eq_false ho, cond_false, backS, List.map_cons, List.map_nil]
   rw [slF_back (b' := 3) rfl rfl, sliceN_back (b' := 0) rfl rfl, ownL_n ho]
   rfl
 ·intro Y i T hi hT K hK
  obtain ⟨hz, hq⟩ := zo_of ok hi
  have hR := ok.of i hi
  have hle := ownL_len (D := D) (q := q) (i := i)
  have hn := ok.le
  by_cases ho : isOwn D q i
  ·simp only [decide_eq_true ho, cond_true] at hK
   rw [ho.1] at hR
   rw [ownL_y ho] at hK
   generalize ownL D q i = A at hT hK hle
   cases A with
   | nil => exact rf_a Y R X n k hn q i hi _ _ (D.sp i) (D.ot i) hz hq hR (by have := ho.2; omega) (by have := ho.2; omega) T hT K hK
   | cons x A =>
    rw [slF_app] at hK
    have hg := grow_cF (ls := x :: A) (s := D.sp i) (w := A.length + 1) rfl (by simp only [List.length_cons] at hle; omega)
    exact rf_s Y R X n k hn q i hi _ _ (D.sp i) (D.ot i) hz hq hR (by have := ho.2; omega) (by have := ho.2; omega) (A.length + 1) (by simp only [List.length_cons] at hle; omega) (x :: A) _ hg T hT K hK
  ·simp only [decide_eq_false ho, cond_false] at hK
   cases hb : D.ok i with
   | false => rw [hb] at hR; exact rf_n Y R X n k hn q i hi _ _ (D.sp i) (D.ot i) hz hq hR _ _ T hT K hK
   | true => rw [hb] at hR; exact rf_q Y R X n k hn q i hi _ _ (D.sp i) (D.ot i) hz hq hR (fun e => ho ⟨hb, e⟩) _ _ T hT K hK
 ·intro Y T hT K hK
  exact rf_e Y R X n k ok.le q _ _ T hT K hK
def pickS (ll : List Sp) (g s : Sp) : Sp := if s.e > g.e ∨ s.e = g.e ∧ aheadB ll s g = true then s else g
def pickN (ll : List Sp) : Nat → Sp
 | 0 => ll.getD 0 sp0
 | i + 1 => pickS ll (pickN ll i) (ll.getD (i + 1) sp0)
abbrev sR1 (n k : Nat) (q : Int) (w i : Nat) : List (Sl × V) := [(s0, .slice 0 0 n k 2), (s1, .int .i64 q), (s4, .ptr 1 0), (s5, .bool false), (s6, .ptr 2 0), (s7, .slice 3 0 w w 12), (s12, .int .i64 ((i : Nat) : Int))]
abbrev mR1 (X : List V) (ll : List Sp) (g : Sp) : Mem := memL 4 [(0, .cells X false), (1, .cells mad0 false), (2, .cells (mad g.a g.m g.l g.n g.r g.e g.p g.x0 g.x1 g.x2 g.x3 g.c 0 0 0 0 false false false false) false), (3, .cells (cF ll) false)]
theorem drR1 {X : List V} (hX : ∀ p : Nat → Bool, bels p X = true) (ll : List Sp) (g : Sp) : DropM 4 (mR1 X ll g) (mR1 X ll g) :=
 dropM_of (show (4 : Nat) ≤ 4 by decide) ⟨⟨rfl, hX _⟩, ⟨rfl, rfl⟩, ⟨rfl, rfl⟩, ⟨rfl, bels_cF _ _⟩, trivial⟩
theorem pickN_mem {ll : List Sp} : ∀ i, i < ll.length → pickN ll i ∈ ll
 | 0, h => by rw [pickN, List.getD_eq_getElem?_getD, List.getElem?_eq_getElem h]; exact List.getElem_mem h
 | i + 1, h => by
  unfold pickN pickS
  split
  ·rw [List.getD_eq_getElem?_getD, List.getElem?_eq_getElem h]; exact List.getElem_mem h
  ·exact pickN_mem i (by omega)
theorem loopR1 {X : List V} (hX : ∀ p : Nat → Bool, bels p X = true) (R : List V → Option V) (n k : Nat) (hn : n ≤ 100) (q : Int) {ll : List Sp} {w : Nat} (hw : ll.length = w) (w1 : 1 ≤ w) (hw2 : w ≤ 100) (hs : ∀ s ∈ ll, s.n = 2 ∨ s.n = 3 ∨ s.n = 4) :
  LoopOkD (callD pA tb0 (la25 R) 5) 1 c25l1 (.exit 2) (mR1 X ll (pickN ll 0)) (sR1 n k q w 1) (fun _ => True) (fun _ => mR1 X ll (pickN ll (w - 1))) (fun _ => sR1 n k q w w) := by
 refine loopD (B := 1) (N := 4) (by decide) (w - 1) (Nat.lt_of_le_of_lt (show w - 1 ≤ 100 by omega) (by decide)) _ (fun i => mR1 X ll (pickN ll i)) (fun i => mR1 X ll (pickN ll (i + 1))) (fun i => sR1 n k q w (i + 1)) _ _ (drR1 hX _ _) (fun i _ => drR1 hX _ _) (fun _ => rfl) ?_ ?_
 ·intro Y i T hi hT K hK
  have hx : ll[i + 1]? = some (ll.getD (i + 1) sp0) := by rw [List.getD_eq_getElem?_getD, List.getElem?_eq_getElem (by omega)]; rfl
  have hsm := hs _ (List.mem_of_getElem? hx)
  have hgm := hs _ (pickN_mem (ll := ll) i (by omega))
  have h1 : pickN ll (i + 1) = pickS ll (pickN ll i) (ll.getD (i + 1) sp0) := rfl
  rw [h1] at hK
  generalize ll.getD (i + 1) sp0 = s at hx hsm hK
  generalize pickN ll i = g at hT hgm hK ⊢
  have hA := S40.mk ll w hw hw2 s g hsm hgm
  have hW := wf40 ll w s g (aheadB ll s g)
  unfold pickS at hK
  rcases Int.lt_trichotomy s.e g.e with h | h | h
  ·rw [if_neg (by omega)] at hK
   exact pk_l Y R X n k hn q ll w hw2 g (i + 1) (by omega) s (nth_cF hx) (load_cF hx) h T hT K hK
  ·cases ea : aheadB ll s g with
   | true =>
    rw [ea] at hA hW hK
    rw [if_pos (.inr ⟨h, rfl⟩)] at hK
    exact pk_y Y R X n k hn q ll w hw2 g (i + 1) (by omega) s (nth_cF hx) (load_cF hx) (by omega) (by omega) hA hW T hT K hK
   | false =>
    rw [ea] at hA hW hK
    rw [if_neg (fun e => e.elim (fun e => by omega) fun e => by cases e.2)] at hK
    exact pk_n Y R X n k hn q ll w hw2 g (i + 1) (by omega) s (nth_cF hx) (load_cF hx) (by omega) (by omega) hA hW T hT K hK
  ·rw [if_pos (.inl h)] at hK
   exact pk_g Y R X n k hn q ll w hw2 g (i + 1) (by omega) s (nth_cF hx) (load_cF hx) h T hT K hK
 ·intro Y T hT K hK
  rw [show w - 1 + 1 = w from by omega] at hT
  exact pk_e Y R X n k hn q ll w hw2 (pickN ll (w - 1)) T hT K hK
theorem maxE_go : ∀ (l : List Sp) (g : Int), g ≤ l.foldl (fun g s => bif decide (s.e > g) then s.e else g) g ∧ (∀ s ∈ l, s.e ≤ l.foldl (fun g s => bif decide (s.e > g) then s.e else g) g) ∧ (l.foldl (fun g s => bif decide (s.e > g) then s.e else g) g = g ∨ ∃ s ∈ l, s.e = l.foldl (fun g s => bif decide (s.e > g) then s.e else g) g)
 | [], g => ⟨Int.le_refl _, (fun _ h => nomatch h), .inl rfl⟩
 | t :: l, g => by
  rw [List.foldl_cons]
  have h := maxE_go l (bif decide (t.e > g) then t.e else g)
  generalize List.foldl (fun g s => bif decide (s.e > g) then s.e else g) (bif decide (t.e > g) then t.e else g) l = r at h
  obtain ⟨h1, h2, h3⟩ := h
  by_cases e : t.e > g
  ·rw [decide_eq_true e, cond_true] at h1 h3
   refine ⟨by omega, fun s hs => ?_, ?_⟩
   ·rcases List.mem_cons.1 hs with rfl | hs
    ·exact h1
    ·exact h2 s hs
   ·rcases h3 with h3 | ⟨s, hs, h3⟩
    ·exact .inr ⟨t, List.mem_cons_self, h3.symm⟩
    ·exact .inr ⟨s, List.mem_cons_of_mem _ hs, h3⟩
  ·rw [decide_eq_false e, cond_false] at h1 h3
   refine ⟨h1, fun s hs => ?_, ?_⟩
   ·rcases List.mem_cons.1 hs with rfl | hs
    ·omega
    ·exact h2 s hs
   ·rcases h3 with h3 | ⟨s, hs, h3⟩
    ·exact .inl h3
    ·exact .inr ⟨s, List.mem_cons_of_mem _ hs, h3⟩
theorem take_fold {α : Type} (f : α → Sp → α) (L : List Sp) (z : α) {i : Nat} (h : i < L.length) : (L.take (i + 1)).foldl f z = f ((L.take i).foldl f z) (L.getD i sp0) := by
 rw [List.take_add_one, List.getElem?_eq_getElem h, Option.toList_some, List.foldl_append, List.getD_eq_getElem?_getD, List.getElem?_eq_getElem h]; rfl
theorem ahead_wgt (L : List Sp) (a b : Sp) : aheadB L a b = true ↔ wgtL L b < wgtL L a := by
 unfold aheadB wgtL
 by_cases h : cnt (says a) L = cnt (says b) L
 ·rw [if_pos h, h]
  cases aliveB a <;> cases aliveB b <;> simp
 ·rw [if_neg h, decide_eq_true_eq]
  cases aliveB a <;> cases aliveB b <;> simp only [cond_true, cond_false] <;> omega
theorem pick_go {L : List Sp} {E : Int} (hE : 0 < E) (h2 : ∀ s ∈ L, s.e ≤ E) : ∀ i, i < L.length →
  ((pickN L i).e = E → (L.take (i + 1)).foldl (pickF E (wgtL L)) sp0 = pickN L i) ∧ ((pickN L i).e ≠ E → (L.take (i + 1)).foldl (pickF E (wgtL L)) sp0 = sp0) ∧ ∀ j, j ≤ i → (L.getD j sp0).e ≤ (pickN L i).e := by
 intro i
 induction i with
 | zero =>
  intro hi
  rw [take_fold _ _ _ hi]
  show (_ → pickF E (wgtL L) sp0 (L.getD 0 sp0) = L.getD 0 sp0) ∧ (_ → pickF E (wgtL L) sp0 (L.getD 0 sp0) = sp0) ∧ ∀ j, j ≤ 0 → (L.getD j sp0).e ≤ (L.getD 0 sp0).e
  refine ⟨fun h => if_pos ⟨h, .inl rfl⟩, fun h => if_neg fun e => h e.1, fun j hj => ?_⟩
  obtain rfl : j = 0 := by omega
  exact Int.le_refl _
 | succ i ih =>
  intro hi
  obtain ⟨k1, k2, k3⟩ := ih (by omega)
  rw [take_fold _ _ _ hi]
  have hg := h2 _ (pickN_mem (ll := L) i (by omega))
  have hs := h2 (L.getD (i + 1) sp0) (by rw [List.getD_eq_getElem?_getD, List.getElem?_eq_getElem hi]; exact List.getElem_mem hi)
  have h1 : pickN L (i + 1) = pickS L (pickN L i) (L.getD (i + 1) sp0) := rfl
  have k4 : ∀ j, j ≤ i + 1 → j ≤ i ∨ L.getD j sp0 = L.getD (i + 1) sp0 := fun j hj => by
   by_cases e : j = i + 1
   ·exact .inr (by rw [e])
   ·exact .inl (by omega)
  rw [h1]
  generalize L.getD (i + 1) sp0 = s at hs k4 ⊢
  generalize pickN L i = g at k1 k2 k3 hg ⊢
  generalize (L.take (i + 1)).foldl (pickF E (wgtL L)) sp0 = o at k1 k2 ⊢
  unfold pickS pickF
  by_cases hge : g.e = E
  ·rw [k1 hge]
   by_cases ha : s.e = g.e ∧ aheadB L s g = true
   ·rw [if_pos (.inr ha), if_pos (show s.e = E ∧ (g.e = 0 ∨ wgtL L g < wgtL L s) from ⟨ha.1.trans hge, .inr ((ahead_wgt _ _ _).1 ha.2)⟩)]
    refine ⟨fun _ => rfl, fun h => absurd (ha.1.trans hge) h, fun j hj => ?_⟩
    rcases k4 j hj with h | h
    ·have := k3 j h; omega
    ·rw [h]; exact Int.le_refl _
   ·rw [if_neg (fun h => h.elim (fun h => by omega) ha), if_neg (fun h => h.2.elim (fun h => by omega) fun h' => ha ⟨h.1.trans hge.symm, (ahead_wgt _ _ _).2 h'⟩)]
    refine ⟨fun _ => rfl, fun h => absurd hge h, fun j hj => ?_⟩
    rcases k4 j hj with h | h
    ·exact k3 j h
    ·rw [h]; omega
  ·rw [k2 hge]
   by_cases hse : s.e = E
   ·rw [if_pos (.inl (show s.e > g.e by omega)), if_pos ⟨hse, .inl rfl⟩]
    refine ⟨fun _ => rfl, fun h => absurd hse h, fun j hj => ?_⟩
    rcases k4 j hj with h | h
    ·have := k3 j h; omega
    ·rw [h]; exact Int.le_refl _
   ·rw [if_neg (show ¬ (s.e = E ∧ _) from fun h => hse h.1)]
    by_cases ht : s.e > g.e ∨ s.e = g.e ∧ aheadB L s g = true
    ·rw [if_pos ht]
     refine ⟨fun h => absurd h hse, fun _ => rfl, fun j hj => ?_⟩
     rcases k4 j hj with h | h
     ·have := k3 j h; rcases ht with h | h <;> omega
     ·rw [h]; exact Int.le_refl _
    ·rw [if_neg ht]
     refine ⟨fun h => absurd h hge, fun _ => rfl, fun j hj => ?_⟩
     rcases k4 j hj with h | h
     ·exact k3 j h
     ·rw [h]
      by_cases e : s.e > g.e
      ·exact absurd (.inl e) ht
      ·omega
theorem pick_doc {L : List Sp} (h0 : L ≠ []) (h1 : ∀ s ∈ L, 1 ≤ s.e) : pickN L (L.length - 1) = pick L := by
 have hp : 0 < L.length := List.length_pos_iff.2 h0
 obtain ⟨m1, m2, m3⟩ := maxE_go L 0
 have hE : ∃ s ∈ L, s.e = maxE L := by
  rcases m3 with h | h
  ·obtain ⟨s, hs⟩ := List.exists_mem_of_ne_nil L h0
   have := h1 s hs; have := m2 s hs; omega
  ·exact h
 obtain ⟨s, hs, he⟩ := hE
 have hpos : 0 < maxE L := by have := h1 s hs; omega
 obtain ⟨k1, _, k3⟩ := pick_go hpos m2 (L.length - 1) (by omega)
 rw [show L.length - 1 + 1 = L.length by omega, List.take_of_length_le (Nat.le_refl _)] at k1
 refine (k1 ?_).symm
 obtain ⟨j, hj, hj2⟩ := List.getElem_of_mem hs
 have h4 := k3 j (by omega)
 rw [List.getD_eq_getElem?_getD, List.getElem?_eq_getElem hj, Option.getD_some, hj2] at h4
 have h5 := m2 _ (pickN_mem (ll := L) (L.length - 1) (by omega))
 have : s.e = maxE L := he
 show _ = maxE L
 have h6 : (pickN L (L.length - 1)).e ≤ maxE L := h5
 omega
def D4.pN (E : D4) : Nat → Int → D4
 | 0, v => ⟨v, E.d1, E.d2, E.d3⟩
 | 1, v => ⟨E.d0, v, E.d2, E.d3⟩
 | 2, v => ⟨E.d0, E.d1, v, E.d3⟩
 | _, v => ⟨E.d0, E.d1, E.d2, v⟩
def D4.gN (E : D4) : Nat → Int
 | 0 => E.d0
 | 1 => E.d1
 | 2 => E.d2
 | _ => E.d3
theorem gN_get (E : D4) {mm : Nat} (h : mm < 4) : E.gN mm = E.get ((mm : Nat) : Int) := by
 match mm, h with
 | 0, _ => rfl
 | 1, _ => rfl
 | 2, _ => rfl
 | 3, _ => rfl
 | k + 4, h => omega
def bst (D : Dk) (d : Int) : Int := if d < 0 then 0 else evO D d
theorem dkM {D : Dk} {q : Int} {g : Sp} {i mm : Nat} (h4 : mm < 4) (hs : D.ok i = true → SpOk (D.sp i)) (h1 : D.ok i = true → 1 ≤ (D.sp i).e) :
  (dk D q g (i + 1)).gN mm = if isOwn D q i ∧ (D.sp i).m = ((mm : Nat) : Int) ∧ geoEq (D.sp i) g ∧ bst D ((dk D q g i).gN mm) < (D.sp i).e then ((i : Nat) : Int) else (dk D q g i).gN mm := by
 show (dkS D q g (dk D q g i) i).gN mm = _
 rw [gN_get _ h4, gN_get _ h4]
 unfold dkS
 by_cases ho : isOwn D q i ∧ geoEq (D.sp i) g
 ·rw [if_pos ho]
  have hm := (hs ho.1.1).m
  have he := h1 ho.1.1
  generalize D.sp i = s at *
  unfold dkT bst
  generalize dk D q g i = E
  by_cases e : s.m = ((mm : Nat) : Int)
  ·rw [e]
   by_cases hv : E.get ((mm : Nat) : Int) < 0
   ·rw [if_pos (.inl hv), if_pos ⟨ho.1, rfl, ho.2, by rw [if_pos hv]; omega⟩]
    match mm, h4 with
    | 0, _ => rfl
    | 1, _ => rfl
    | 2, _ => rfl
    | 3, _ => rfl
    | k + 4, h => omega
   ·by_cases hlt : evO D (E.get ((mm : Nat) : Int)) < s.e
    ·rw [if_pos (.inr hlt), if_pos ⟨ho.1, rfl, ho.2, by rw [if_neg hv]; exact hlt⟩]
     match mm, h4 with
     | 0, _ => rfl
     | 1, _ => rfl
     | 2, _ => rfl
     | 3, _ => rfl
     | k + 4, h => omega
    ·rw [if_neg (fun h => h.elim hv hlt), if_neg (fun h => by have := h.2.2.2; rw [if_neg hv] at this; exact hlt this)]
  ·by_cases ht : E.get s.m < 0 ∨ evO D (E.get s.m) < s.e
   ·rw [if_pos ht, if_neg (fun h => e h.2.1)]
    unfold D4.put D4.get
    rcases hm with h | h | h | h <;> rw [h] at e ⊢ <;> (match mm, h4 with
     | 0, _ => first | exact absurd rfl e | rfl
     | 1, _ => first | exact absurd rfl e | rfl
     | 2, _ => first | exact absurd rfl e | rfl
     | 3, _ => first | exact absurd rfl e | rfl
     | k + 4, h => omega)
   ·rw [if_neg ht, if_neg (fun h => e h.2.1)]
 ·rw [if_neg ho, if_neg (fun h => ho ⟨h.1, h.2.2.1⟩)]
abbrev sR2 (n k : Nat) (q : Int) (mm : Nat) (b : Int) (i : Nat) : List (Sl × V) := [(s0, .slice 0 0 n k 2), (s1, .int .i64 q), (s4, .ptr 1 0), (s5, .bool false), (s6, .ptr 2 0), (s13, .int .i64 ((mm : Nat) : Int)), (s14, .int .i64 b), (s15, .int .i64 ((i : Nat) : Int))]
abbrev mR2 (X : List V) (ll : List Sp) (g : Sp) (E : D4) (f0 f1 f2 f3 : Bool) : Mem := memL 4 [(0, .cells X false), (1, .cells mad0 false), (2, .cells (mad g.a g.m g.l g.n g.r g.e g.p g.x0 g.x1 g.x2 g.x3 g.c E.d0 E.d1 E.d2 E.d3 f0 f1 f2 f3) false), (3, .cells (cF ll) false)]
abbrev nR2 (X : List V) (ll : List Sp) (g : Sp) (E : D4) (f0 f1 f2 f3 : Bool) (s : Sp) : Mem := memL 5 [(0, .cells X false), (1, .cells mad0 false), (2, .cells (mad g.a g.m g.l g.n g.r g.e g.p g.x0 g.x1 g.x2 g.x3 g.c E.d0 E.d1 E.d2 E.d3 f0 f1 f2 f3) false), (3, .cells (cF ll) false), (4, .cells s.cs false)]
theorem drR2 {X : List V} (hX : ∀ p : Nat → Bool, bels p X = true) (ll : List Sp) (g : Sp) (E : D4) (f0 f1 f2 f3 : Bool) : DropM 4 (mR2 X ll g E f0 f1 f2 f3) (mR2 X ll g E f0 f1 f2 f3) :=
 dropM_of (show (4 : Nat) ≤ 4 by decide) ⟨⟨rfl, hX _⟩, ⟨rfl, rfl⟩, ⟨rfl, rfl⟩, ⟨rfl, bels_cF _ _⟩, trivial⟩
theorem drR3 {X : List V} (hX : ∀ p : Nat → Bool, bels p X = true) (ll : List Sp) (g : Sp) (E : D4) (f0 f1 f2 f3 : Bool) (s : Sp) : DropM 4 (nR2 X ll g E f0 f1 f2 f3 s) (mR2 X ll g E f0 f1 f2 f3) :=
 dropM_of (show (4 : Nat) ≤ 5 by decide) ⟨⟨rfl, hX _⟩, ⟨rfl, rfl⟩, ⟨rfl, rfl⟩, ⟨rfl, bels_cF _ _⟩, trivial⟩
theorem pN_mad (g : Sp) (E : D4) (f0 f1 f2 f3 : Bool) {mm : Nat} (h : mm < 4) (v w : Int) : putAt [.int .i64 w] (12 + mm * 1) (mad g.a g.m g.l g.n g.r g.e g.p g.x0 g.x1 g.x2 g.x3 g.c (E.pN mm v).d0 (E.pN mm v).d1 (E.pN mm v).d2 (E.pN mm v).d3 f0 f1 f2 f3) = some (mad g.a g.m g.l g.n g.r g.e g.p g.x0 g.x1 g.x2 g.x3 g.c (E.pN mm w).d0 (E.pN mm w).d1 (E.pN mm w).d2 (E.pN mm w).d3 f0 f1 f2 f3) := by
 match mm, h with
 | 0, _ => rfl
 | 1, _ => rfl
 | 2, _ => rfl
 | 3, _ => rfl
 | k + 4, h => omega
theorem eqv_geo0 (a b c x y z : Int) : eqvV false (.many [.int, .int, .int]) (.agg [.int .i64 a, .int .i64 b, .int .i64 c]) (.agg [.int .i64 x, .int .i64 y, .int .i64 z]) = some (.bool (decide (a = x ∧ b = y ∧ c = z))) := by
 have h : keyEq (.many [.int, .int, .int]) (.agg [.int .i64 a, .int .i64 b, .int .i64 c]) (.agg [.int .i64 x, .int .i64 y, .int .i64 z]) = some (eqI a x && (eqI b y && (eqI c z && true))) := eqC_cons rfl (eqC_cons rfl (eqC_cons rfl rfl))
 simp only [eqvV, h, eqI_eq, Bool.and_true, Bool.decide_and]
 cases decide (a = x) <;> cases decide (b = y) <;> cases decide (c = z) <;> rfl
theorem loopR2 {D : Dk} {R : List V → Option V} {X : List V} {n : Nat} (ok : DkOk D R X n) (h1 : ∀ i, i < n → D.ok i = true → 1 ≤ (D.sp i).e) (k : Nat) (q : Int) (ll : List Sp) (g : Sp) (E : D4) (f0 f1 f2 f3 : Bool) {mm : Nat} (h4 : mm < 4) :
  LoopOkD (callD pA tb0 (la25 R) 5) 1 c25l2 (.exit 6) (mR2 X ll g (E.pN mm (-1)) f0 f1 f2 f3) (sR2 n k q mm 0 0) (fun _ => True) (fun _ => mR2 X ll g (E.pN mm ((dk D q g n).gN mm)) f0 f1 f2 f3) (fun _ => sR2 n k q mm (bst D ((dk D q g n).gN mm)) n) := by
 have hb0 : (dk D q g 0).gN mm = -1 := by
  match mm, h4 with
  | 0, _ => rfl
  | 1, _ => rfl
  | 2, _ => rfl
  | 3, _ => rfl
  | k + 4, h => omega
 have h0 : bst D ((dk D q g 0).gN mm) = 0 := by rw [hb0]; rfl
 have hd := drR2 ok.pl ll g (E.pN mm (-1)) f0 f1 f2 f3
 have key := loopD (cfy := callD pA tb0 (la25 R) 5) (b := c25l2) (x := 6) (B := 1) (N := 4) (by decide) n (Nat.lt_of_le_of_lt ok.le (by decide)) (mR2 X ll g (E.pN mm (-1)) f0 f1 f2 f3) (fun i => mR2 X ll g (E.pN mm ((dk D q g i).gN mm)) f0 f1 f2 f3) (fun i => nR2 X ll g (E.pN mm ((dk D q g (i + 1)).gN mm)) f0 f1 f2 f3 (D.sp i)) (fun i => sR2 n k q mm (bst D ((dk D q g i).gN mm)) i) (mR2 X ll g (E.pN mm ((dk D q g n).gN mm)) f0 f1 f2 f3) (sR2 n k q mm (bst D ((dk D q g n).gN mm)) n) (by show DropM 4 _ (mR2 X ll g (E.pN mm ((dk D q g 0).gN mm)) f0 f1 f2 f3); rw [hb0]; exact hd) (fun i _ => drR3 ok.pl _ _ _ _ _ _ _ _) (fun _ => rfl) ?_ ?_
 ·simp only [h0] at key; exact key
 ·intro Y i T hi hT K hK
  obtain ⟨hz, ho⟩ := zo_of ok hi
  have hR := ok.of i hi
  have hn := ok.le
  simp only [dkM (q := q) (g := g) (i := i) h4 (ok.sp i hi) (h1 i hi)] at hK
  have hb : evO D ((i : Nat) : Int) = (D.sp i).e := rfl
  have hb2 : bst D ((i : Nat) : Int) = (D.sp i).e := by unfold bst; rw [if_neg (by omega)]; exact hb
  generalize (dk D q g i).gN mm = d at hT hK ⊢
  by_cases hk : D.ok i = true
  ·rw [hk] at hR
   by_cases hq : (D.sp i).a = q
   ·have how : isOwn D q i := ⟨hk, hq⟩
    by_cases hm : (D.sp i).m = ((mm : Nat) : Int)
    ·have hg := eqv_geo0 (D.sp i).l (D.sp i).n (D.sp i).r g.l g.n g.r
     by_cases hgg : geoEq (D.sp i) g
     ·rw [decide_eq_true (p := (D.sp i).l = g.l ∧ (D.sp i).n = g.n ∧ (D.sp i).r = g.r) hgg] at hg
      by_cases hbe : bst D d < (D.sp i).e
      ·rw [if_pos ⟨how, hm, hgg, hbe⟩, hb2] at hK
       exact dk_y Y R X n k hn q _ g (E.pN mm d) f0 f1 f2 f3 mm h4 (bst D d) i hi _ _ (D.sp i) (D.ot i) hz ho hR (by omega) (by omega) (by omega) (by omega) hg hbe (E.pN mm ((i : Nat) : Int)) (pN_mad g E f0 f1 f2 f3 h4 d ((i : Nat) : Int)) T hT K hK
      ·rw [if_neg (fun h => hbe h.2.2.2)] at hK
       exact dk_b Y R X n k hn q _ g (E.pN mm d) f0 f1 f2 f3 mm h4 (bst D d) i hi _ _ (D.sp i) (D.ot i) hz ho hR (by omega) (by omega) (by omega) (by omega) hg (by omega) T hT K hK
     ·rw [decide_eq_false (p := (D.sp i).l = g.l ∧ (D.sp i).n = g.n ∧ (D.sp i).r = g.r) hgg] at hg
      rw [if_neg (fun h => hgg h.2.2.1)] at hK
      exact dk_g Y R X n k hn q _ g (E.pN mm d) f0 f1 f2 f3 mm h4 (bst D d) i hi _ _ (D.sp i) (D.ot i) hz ho hR (by omega) (by omega) (by omega) (by omega) hg T hT K hK
    ·rw [if_neg (fun h => hm h.2.1)] at hK
     exact dk_m Y R X n k hn q _ g (E.pN mm d) f0 f1 f2 f3 mm h4 (bst D d) i hi _ _ (D.sp i) (D.ot i) hz ho hR (by omega) (by omega) hm T hT K hK
   ·rw [if_neg (fun h => hq h.1.2)] at hK
    exact dk_q Y R X n k hn q _ g (E.pN mm d) f0 f1 f2 f3 mm h4 (bst D d) i hi _ _ (D.sp i) (D.ot i) hz ho hR hq T hT K hK
  ·rw [if_neg (fun h => hk h.1.1)] at hK
   rw [Bool.not_eq_true _ |>.mp hk] at hR
   exact dk_n Y R X n k hn q _ g (E.pN mm d) f0 f1 f2 f3 mm h4 (bst D d) i hi _ _ (D.sp i) (D.ot i) hz ho hR T hT K hK
 ·intro Y T hT K hK
  exact dk_e Y R X n k ok.le q _ g _ f0 f1 f2 f3 mm h4 _ T hT K hK
theorem rin_cases {D : Dk} {q : Int} {n : Nat} (hs : ∀ i, i < n → D.ok i = true → SpOk (D.sp i)) (g : Sp) {E : D4} (hE : GoodD D q n E) {mm : Nat} (h4 : mm < 4) (st : Int) : 0 ≤ bst D (E.gN mm) ∧ bst D (E.gN mm) ≤ 4294967296 ∧ ((E.gN mm < 0 ∧ inB D g E ((mm : Nat) : Int) st = false) ∨ (E.gN mm ≥ 0 ∧ st ≠ 1 ∧ st ≠ 3 ∧ inB D g E ((mm : Nat) : Int) st = false) ∨
  (E.gN mm ≥ 0 ∧ (st = 1 ∨ st = 3) ∧ ((g.e ≤ bst D (E.gN mm) + 1 ∧ inB D g E ((mm : Nat) : Int) st = true) ∨ (bst D (E.gN mm) + 1 < g.e ∧ inB D g E ((mm : Nat) : Int) st = false)))) := by
 rw [gN_get _ h4]
 have hE := hE ((mm : Nat) : Int)
 unfold inB
 generalize E.get ((mm : Nat) : Int) = d at hE ⊢
 by_cases h : d < 0
 ·refine ⟨by unfold bst; rw [if_pos h]; decide, by unfold bst; rw [if_pos h]; decide, .inl ⟨h, ?_⟩⟩
  rw [decide_eq_false (show ¬ d ≥ 0 by omega), Bool.false_and, Bool.false_and]
 ·have h0 : d ≥ 0 := by omega
  obtain ⟨u, u1, u2, u3⟩ := hE h0
  have hsp := hs u u1 u3.1
  have e : evO D d = (D.sp u).e := by rw [u2]; rfl
  have e2 : bst D d = (D.sp u).e := by unfold bst; rw [if_neg h, e]
  rw [e2, e, decide_eq_true h0, Bool.true_and]
  refine ⟨hsp.e1, hsp.e2, .inr ?_⟩
  by_cases h1 : st = 1 ∨ st = 3
  ·rw [show (decide (st = 1) || decide (st = 3)) = true by rcases h1 with rfl | rfl <;> rfl, Bool.true_and]
   refine .inr ⟨h0, h1, ?_⟩
   by_cases hl : g.e - 1 ≤ (D.sp u).e
   ·exact .inl ⟨by omega, decide_eq_true hl⟩
   ·exact .inr ⟨by omega, decide_eq_false hl⟩
  ·refine .inl ⟨h0, fun e => h1 (.inl e), fun e => h1 (.inr e), ?_⟩
   rw [show (decide (st = 1) || decide (st = 3)) = false by rw [decide_eq_false (fun e => h1 (.inl e)), decide_eq_false (fun e => h1 (.inr e))]; rfl, Bool.false_and]
abbrev sR3 (n k : Nat) (q : Int) (mm : Nat) : List (Sl × V) := [(s0, .slice 0 0 n k 2), (s1, .int .i64 q), (s4, .ptr 1 0), (s5, .bool false), (s6, .ptr 2 0), (s13, .int .i64 ((mm : Nat) : Int))]
abbrev frD (F : D4) (i : Nat) : D4 := ⟨bif Nat.blt 0 i then F.d0 else 0, bif Nat.blt 1 i then F.d1 else 0, bif Nat.blt 2 i then F.d2 else 0, bif Nat.blt 3 i then F.d3 else 0⟩
theorem loopR3 {D : Dk} {R : List V → Option V} {X : List V} {n : Nat} (ok : DkOk D R X n) (h1 : ∀ i, i < n → D.ok i = true → 1 ≤ (D.sp i).e) (k : Nat) (q : Int) (ll : List Sp) (g : Sp) :
  LoopOkD (callD pA tb0 (la25 R) 5) 1 c25l3 (.exit 4) (mR2 X ll g ⟨0, 0, 0, 0⟩ false false false false) (sR3 n k q 0) (fun _ => True) (fun _ => mR2 X ll g (dk D q g n) (inB D g (dk D q g n) 0 g.x0) (inB D g (dk D q g n) 1 g.x1) (inB D g (dk D q g n) 2 g.x2) (inB D g (dk D q g n) 3 g.x3)) (fun _ => sR3 n k q 4) := by
 have hE := goodN (D := D) (q := q) (g := g) ok.sp n (Nat.le_refl n)
 have c0 := rin_cases ok.sp g hE (mm := 0) (by decide) g.x0
 have c1 := rin_cases ok.sp g hE (mm := 1) (by decide) g.x1
 have c2 := rin_cases ok.sp g hE (mm := 2) (by decide) g.x2
 have c3 := rin_cases ok.sp g hE (mm := 3) (by decide) g.x3
 have L0 := fun E f0 f1 f2 f3 => loopR2 ok h1 k q ll g E f0 f1 f2 f3 (mm := 0) (by decide)
 have L1 := fun E f0 f1 f2 f3 => loopR2 ok h1 k q ll g E f0 f1 f2 f3 (mm := 1) (by decide)
 have L2 := fun E f0 f1 f2 f3 => loopR2 ok h1 k q ll g E f0 f1 f2 f3 (mm := 2) (by decide)
 have L3 := fun E f0 f1 f2 f3 => loopR2 ok h1 k q ll g E f0 f1 f2 f3 (mm := 3) (by decide)
 generalize dk D q g n = F at c0 c1 c2 c3 L0 L1 L2 L3 ⊢
 have hn := ok.le
 have hp := ok.pl
 simp only [Int.natCast_zero, show ((1 : Nat) : Int) = 1 from rfl, show ((2 : Nat) : Int) = 2 from rfl, show ((3 : Nat) : Int) = 3 from rfl] at c0 c1 c2 c3
 generalize inB D g F 0 g.x0 = b0 at c0 ⊢
 generalize inB D g F 1 g.x1 = b1 at c1 ⊢
 generalize inB D g F 2 g.x2 = b2 at c2 ⊢
 generalize inB D g F 3 g.x3 = b3 at c3 ⊢
 refine loopDD (B := 1) (N := 4) (by decide) 4 (by decide) _ (fun i => mR2 X ll g (frD F i) (Nat.blt 0 i && b0) (Nat.blt 1 i && b1) (Nat.blt 2 i && b2) (Nat.blt 3 i && b3)) (fun i => mR2 X ll g (frD F (i + 1)) (Nat.blt 0 (i + 1) && b0) (Nat.blt 1 (i + 1) && b1) (Nat.blt 2 (i + 1) && b2) (Nat.blt 3 (i + 1) && b3)) (fun i => sR3 n k q i) _ _ (drR2 hp _ _ _ _ _ _ _) (fun i _ => drR2 hp _ _ _ _ _ _ _) (fun _ => rfl) ?_ ?_
 ·intro Y i T hi hT K hK
  match i, hi with
  | 0, _ =>
   rcases c0 with ⟨hb1, hb2, ⟨h, rfl⟩ | ⟨h, h1, h3, rfl⟩ | ⟨h, hs, ⟨hl, rfl⟩ | ⟨hl, rfl⟩⟩⟩
   ·exact mb_a Y R X n k hn q (.cells (cF ll) false) g ⟨0, 0, 0, 0⟩ false false false false 0 (by decide) _ hb1 hb2 ⟨(-1), 0, 0, 0⟩ rfl ⟨F.d0, 0, 0, 0⟩ (L0 ⟨0, 0, 0, 0⟩ false false false false) g.x0 F.d0 rfl rfl h false false false false rfl T hT K hK
   ·exact mb_b Y R X n k hn q (.cells (cF ll) false) g ⟨0, 0, 0, 0⟩ false false false false 0 (by decide) _ hb1 hb2 ⟨(-1), 0, 0, 0⟩ rfl ⟨F.d0, 0, 0, 0⟩ (L0 ⟨0, 0, 0, 0⟩ false false false false) g.x0 F.d0 rfl rfl h h1 h3 false false false false rfl T hT K hK
   ·rcases hs with h1 | h1
    ·exact mb_ct Y R X n k hn q (.cells (cF ll) false) g ⟨0, 0, 0, 0⟩ false false false false 0 (by decide) _ hb1 hb2 ⟨(-1), 0, 0, 0⟩ rfl ⟨F.d0, 0, 0, 0⟩ (L0 ⟨0, 0, 0, 0⟩ false false false false) g.x0 F.d0 rfl rfl h h1 hl true false false false rfl T hT K hK
    ·exact mb_dt Y R X n k hn q (.cells (cF ll) false) g ⟨0, 0, 0, 0⟩ false false false false 0 (by decide) _ hb1 hb2 ⟨(-1), 0, 0, 0⟩ rfl ⟨F.d0, 0, 0, 0⟩ (L0 ⟨0, 0, 0, 0⟩ false false false false) g.x0 F.d0 rfl rfl h h1 hl true false false false rfl T hT K hK
   ·rcases hs with h1 | h1
    ·exact mb_cf Y R X n k hn q (.cells (cF ll) false) g ⟨0, 0, 0, 0⟩ false false false false 0 (by decide) _ hb1 hb2 ⟨(-1), 0, 0, 0⟩ rfl ⟨F.d0, 0, 0, 0⟩ (L0 ⟨0, 0, 0, 0⟩ false false false false) g.x0 F.d0 rfl rfl h h1 hl false false false false rfl T hT K hK
    ·exact mb_df Y R X n k hn q (.cells (cF ll) false) g ⟨0, 0, 0, 0⟩ false false false false 0 (by decide) _ hb1 hb2 ⟨(-1), 0, 0, 0⟩ rfl ⟨F.d0, 0, 0, 0⟩ (L0 ⟨0, 0, 0, 0⟩ false false false false) g.x0 F.d0 rfl rfl h h1 hl false false false false rfl T hT K hK
  | 1, _ =>
   rcases c1 with ⟨hb1, hb2, ⟨h, rfl⟩ | ⟨h, h1, h3, rfl⟩ | ⟨h, hs, ⟨hl, rfl⟩ | ⟨hl, rfl⟩⟩⟩
   ·exact mb_a Y R X n k hn q (.cells (cF ll) false) g ⟨F.d0, 0, 0, 0⟩ b0 false false false 1 (by decide) _ hb1 hb2 ⟨F.d0, (-1), 0, 0⟩ rfl ⟨F.d0, F.d1, 0, 0⟩ (L1 ⟨F.d0, 0, 0, 0⟩ b0 false false false) g.x1 F.d1 rfl rfl h b0 false false false rfl T hT K hK
   ·exact mb_b Y R X n k hn q (.cells (cF ll) false) g ⟨F.d0, 0, 0, 0⟩ b0 false false false 1 (by decide) _ hb1 hb2 ⟨F.d0, (-1), 0, 0⟩ rfl ⟨F.d0, F.d1, 0, 0⟩ (L1 ⟨F.d0, 0, 0, 0⟩ b0 false false false) g.x1 F.d1 rfl rfl h h1 h3 b0 false false false rfl T hT K hK
   ·rcases hs with h1 | h1
    ·exact mb_ct Y R X n k hn q (.cells (cF ll) false) g ⟨F.d0, 0, 0, 0⟩ b0 false false false 1 (by decide) _ hb1 hb2 ⟨F.d0, (-1), 0, 0⟩ rfl ⟨F.d0, F.d1, 0, 0⟩ (L1 ⟨F.d0, 0, 0, 0⟩ b0 false false false) g.x1 F.d1 rfl rfl h h1 hl b0 true false false rfl T hT K hK
    ·exact mb_dt Y R X n k hn q (.cells (cF ll) false) g ⟨F.d0, 0, 0, 0⟩ b0 false false false 1 (by decide) _ hb1 hb2 ⟨F.d0, (-1), 0, 0⟩ rfl ⟨F.d0, F.d1, 0, 0⟩ (L1 ⟨F.d0, 0, 0, 0⟩ b0 false false false) g.x1 F.d1 rfl rfl h h1 hl b0 true false false rfl T hT K hK
   ·rcases hs with h1 | h1
    ·exact mb_cf Y R X n k hn q (.cells (cF ll) false) g ⟨F.d0, 0, 0, 0⟩ b0 false false false 1 (by decide) _ hb1 hb2 ⟨F.d0, (-1), 0, 0⟩ rfl ⟨F.d0, F.d1, 0, 0⟩ (L1 ⟨F.d0, 0, 0, 0⟩ b0 false false false) g.x1 F.d1 rfl rfl h h1 hl b0 false false false rfl T hT K hK
    ·exact mb_df Y R X n k hn q (.cells (cF ll) false) g ⟨F.d0, 0, 0, 0⟩ b0 false false false 1 (by decide) _ hb1 hb2 ⟨F.d0, (-1), 0, 0⟩ rfl ⟨F.d0, F.d1, 0, 0⟩ (L1 ⟨F.d0, 0, 0, 0⟩ b0 false false false) g.x1 F.d1 rfl rfl h h1 hl b0 false false false rfl T hT K hK
  | 2, _ =>
   rcases c2 with ⟨hb1, hb2, ⟨h, rfl⟩ | ⟨h, h1, h3, rfl⟩ | ⟨h, hs, ⟨hl, rfl⟩ | ⟨hl, rfl⟩⟩⟩
   ·exact mb_a Y R X n k hn q (.cells (cF ll) false) g ⟨F.d0, F.d1, 0, 0⟩ b0 b1 false false 2 (by decide) _ hb1 hb2 ⟨F.d0, F.d1, (-1), 0⟩ rfl ⟨F.d0, F.d1, F.d2, 0⟩ (L2 ⟨F.d0, F.d1, 0, 0⟩ b0 b1 false false) g.x2 F.d2 rfl rfl h b0 b1 false false rfl T hT K hK
   ·exact mb_b Y R X n k hn q (.cells (cF ll) false) g ⟨F.d0, F.d1, 0, 0⟩ b0 b1 false false 2 (by decide) _ hb1 hb2 ⟨F.d0, F.d1, (-1), 0⟩ rfl ⟨F.d0, F.d1, F.d2, 0⟩ (L2 ⟨F.d0, F.d1, 0, 0⟩ b0 b1 false false) g.x2 F.d2 rfl rfl h h1 h3 b0 b1 false false rfl T hT K hK
   ·rcases hs with h1 | h1
    ·exact mb_ct Y R X n k hn q (.cells (cF ll) false) g ⟨F.d0, F.d1, 0, 0⟩ b0 b1 false false 2 (by decide) _ hb1 hb2 ⟨F.d0, F.d1, (-1), 0⟩ rfl ⟨F.d0, F.d1, F.d2, 0⟩ (L2 ⟨F.d0, F.d1, 0, 0⟩ b0 b1 false false) g.x2 F.d2 rfl rfl h h1 hl b0 b1 true false rfl T hT K hK
    ·exact mb_dt Y R X n k hn q (.cells (cF ll) false) g ⟨F.d0, F.d1, 0, 0⟩ b0 b1 false false 2 (by decide) _ hb1 hb2 ⟨F.d0, F.d1, (-1), 0⟩ rfl ⟨F.d0, F.d1, F.d2, 0⟩ (L2 ⟨F.d0, F.d1, 0, 0⟩ b0 b1 false false) g.x2 F.d2 rfl rfl h h1 hl b0 b1 true false rfl T hT K hK
   ·rcases hs with h1 | h1
    ·exact mb_cf Y R X n k hn q (.cells (cF ll) false) g ⟨F.d0, F.d1, 0, 0⟩ b0 b1 false false 2 (by decide) _ hb1 hb2 ⟨F.d0, F.d1, (-1), 0⟩ rfl ⟨F.d0, F.d1, F.d2, 0⟩ (L2 ⟨F.d0, F.d1, 0, 0⟩ b0 b1 false false) g.x2 F.d2 rfl rfl h h1 hl b0 b1 false false rfl T hT K hK
    ·exact mb_df Y R X n k hn q (.cells (cF ll) false) g ⟨F.d0, F.d1, 0, 0⟩ b0 b1 false false 2 (by decide) _ hb1 hb2 ⟨F.d0, F.d1, (-1), 0⟩ rfl ⟨F.d0, F.d1, F.d2, 0⟩ (L2 ⟨F.d0, F.d1, 0, 0⟩ b0 b1 false false) g.x2 F.d2 rfl rfl h h1 hl b0 b1 false false rfl T hT K hK
  | 3, _ =>
   rcases c3 with ⟨hb1, hb2, ⟨h, rfl⟩ | ⟨h, h1, h3, rfl⟩ | ⟨h, hs, ⟨hl, rfl⟩ | ⟨hl, rfl⟩⟩⟩
   ·exact mb_a Y R X n k hn q (.cells (cF ll) false) g ⟨F.d0, F.d1, F.d2, 0⟩ b0 b1 b2 false 3 (by decide) _ hb1 hb2 ⟨F.d0, F.d1, F.d2, (-1)⟩ rfl ⟨F.d0, F.d1, F.d2, F.d3⟩ (L3 ⟨F.d0, F.d1, F.d2, 0⟩ b0 b1 b2 false) g.x3 F.d3 rfl rfl h b0 b1 b2 false rfl T hT K hK
   ·exact mb_b Y R X n k hn q (.cells (cF ll) false) g ⟨F.d0, F.d1, F.d2, 0⟩ b0 b1 b2 false 3 (by decide) _ hb1 hb2 ⟨F.d0, F.d1, F.d2, (-1)⟩ rfl ⟨F.d0, F.d1, F.d2, F.d3⟩ (L3 ⟨F.d0, F.d1, F.d2, 0⟩ b0 b1 b2 false) g.x3 F.d3 rfl rfl h h1 h3 b0 b1 b2 false rfl T hT K hK
   ·rcases hs with h1 | h1
    ·exact mb_ct Y R X n k hn q (.cells (cF ll) false) g ⟨F.d0, F.d1, F.d2, 0⟩ b0 b1 b2 false 3 (by decide) _ hb1 hb2 ⟨F.d0, F.d1, F.d2, (-1)⟩ rfl ⟨F.d0, F.d1, F.d2, F.d3⟩ (L3 ⟨F.d0, F.d1, F.d2, 0⟩ b0 b1 b2 false) g.x3 F.d3 rfl rfl h h1 hl b0 b1 b2 true rfl T hT K hK
    ·exact mb_dt Y R X n k hn q (.cells (cF ll) false) g ⟨F.d0, F.d1, F.d2, 0⟩ b0 b1 b2 false 3 (by decide) _ hb1 hb2 ⟨F.d0, F.d1, F.d2, (-1)⟩ rfl ⟨F.d0, F.d1, F.d2, F.d3⟩ (L3 ⟨F.d0, F.d1, F.d2, 0⟩ b0 b1 b2 false) g.x3 F.d3 rfl rfl h h1 hl b0 b1 b2 true rfl T hT K hK
   ·rcases hs with h1 | h1
    ·exact mb_cf Y R X n k hn q (.cells (cF ll) false) g ⟨F.d0, F.d1, F.d2, 0⟩ b0 b1 b2 false 3 (by decide) _ hb1 hb2 ⟨F.d0, F.d1, F.d2, (-1)⟩ rfl ⟨F.d0, F.d1, F.d2, F.d3⟩ (L3 ⟨F.d0, F.d1, F.d2, 0⟩ b0 b1 b2 false) g.x3 F.d3 rfl rfl h h1 hl b0 b1 b2 false rfl T hT K hK
    ·exact mb_df Y R X n k hn q (.cells (cF ll) false) g ⟨F.d0, F.d1, F.d2, 0⟩ b0 b1 b2 false 3 (by decide) _ hb1 hb2 ⟨F.d0, F.d1, F.d2, (-1)⟩ rfl ⟨F.d0, F.d1, F.d2, F.d3⟩ (L3 ⟨F.d0, F.d1, F.d2, 0⟩ b0 b1 b2 false) g.x3 F.d3 rfl rfl h h1 hl b0 b1 b2 false rfl T hT K hK
  | i + 4, h => omega
 ·intro Y T hT K hK
  exact codeD_of (mb_e Y R X n k hn q (.cells (cF ll) false) g F b0 b1 b2 b3 T hT K hK)
def makeR (D : Dk) (q : Int) (n : Nat) : V := if own D q n = [] then .tuple [.agg mad0, .bool false] else
 .tuple [.agg (mad (gOf D q n).a (gOf D q n).m (gOf D q n).l (gOf D q n).n (gOf D q n).r (gOf D q n).e (gOf D q n).p (gOf D q n).x0 (gOf D q n).x1 (gOf D q n).x2 (gOf D q n).x3 (gOf D q n).c (dk D q (gOf D q n) n).d0 (dk D q (gOf D q n) n).d1 (dk D q (gOf D q n) n).d2 (dk D q (gOf D q n) n).d3 (inB D (gOf D q n) (dk D q (gOf D q n) n) 0 (gOf D q n).x0) (inB D (gOf D q n) (dk D q (gOf D q n) n) 1 (gOf D q n).x1) (inB D (gOf D q n) (dk D q (gOf D q n) n) 2 (gOf D q n).x2) (inB D (gOf D q n) (dk D q (gOf D q n) n) 3 (gOf D q n).x3)), .bool true]
theorem refmake_run (Y : Ys Prop) {D : Dk} {R : List V → Option V} {X : List V} {n : Nat} (ok : DkOk D R X n) (hX : ∀ σ, rens σ X = X) (h1 : ∀ i, i < n → D.ok i = true → 1 ≤ (D.sp i).e) (k : Nat) (q : Int) : body1D (callD pA tb0 (la25 R) 5) Y c25 [.slice 0 0 n k 2, .int .i64 q] (memO [.cells X false]) (endC ⟨[.slice 0 0 n k 2, .int .i64 q], [.cells X false], makeR D q n, [.cells X false], []⟩) := by
 have l0 := loopR0 ok hX k q
 by_cases h : own D q n = []
 ·rw [show makeR D q n = .tuple [.agg mad0, .bool false] from if_pos h]
  rw [show ownL D q n = [] from by rw [ownL, h]; rfl] at l0
  exact rm_n Y R X n k ok.le q l0
 ·rw [show makeR D q n = _ from if_neg h]
  have hne : ownL D q n ≠ [] := fun e => h (List.map_eq_nil_iff.1 e)
  have hlen : (ownL D q n).length ≤ 100 := Nat.le_trans ownL_len ok.le
  have hpos : 1 ≤ (ownL D q n).length := List.length_pos_iff.2 hne
  have hmem : ∀ s ∈ ownL D q n, ∃ i, i < n ∧ D.ok i = true ∧ s = D.sp i := fun s hs => by
   obtain ⟨x, hx, rfl⟩ := List.mem_map.1 hs
   obtain ⟨k1, k2, k3⟩ := mem_own.1 (show (x.1, x.2) ∈ own D q n from hx)
   exact ⟨x.1, k1, k2.1, k3⟩
  have hp : pickN (ownL D q n) ((ownL D q n).length - 1) = gOf D q n := pick_doc hne fun s hs => by
   obtain ⟨i, i1, i2, rfl⟩ := hmem s hs
   exact h1 i i1 i2
  have hn : ∀ s ∈ ownL D q n, s.n = 2 ∨ s.n = 3 ∨ s.n = 4 := fun s hs => by
   obtain ⟨i, i1, i2, rfl⟩ := hmem s hs
   exact (ok.sp i i1 i2).n
  have l1 := loopR1 ok.pl R n k ok.le q (ll := ownL D q n) rfl hpos hlen hn
  rw [hp] at l1
  have l3 := loopR3 ok h1 k q (ownL D q n) (gOf D q n)
  have hld : (ownL D q n)[0]? = some (pickN (ownL D q n) 0) := by
   unfold pickN; rw [List.getD_eq_getElem?_getD, List.getElem?_eq_getElem hpos]; rfl
  rw [slF_ne hne, obF_ne hne] at l0
  generalize ownL D q n = ll at *
  generalize gOf D q n = g at *
  generalize dk D q g n = F at *
  exact rm_y Y R X n k ok.le q ll ll.length hlen g (pickN ll 0) F _ _ _ _ hpos l0 (load_cF hld) l1 l3
end Go.Proofs.Ythmbmcpjakbepaa
