/- The law's acts, parted. No condition. -/
import Derived.Test.YtjekgdkaejgpdaaGreatMJ
namespace Go.Proofs.YtjekgdkaejgpdaaGreat
open Go Go.AM
set_option maxRecDepth 100000
set_option maxHeartbeats 4000000
set_option linter.unusedVariables false
set_option linter.unusedSectionVars false
def vU (kd : IntKind) (bs : List Nat) : List V := bs.map fun n => .int kd ((n : Nat) : Int)
inductive ParU (kd : IntKind) (b : Nat) (bs : List Nat) : V → zAe → Prop
 | nil (h : bs = []) : ParU kd b bs .nilslice .dead
 | zero (k : Nat) (h : bs = []) : ParU kd b bs (.slice b 0 0 k 1) .dead
 | some (h : bs ≠ []) : ParU kd b bs (.slice b 0 bs.length bs.length 1) (.cells (vU kd bs) true)
theorem ParU.len {kd : IntKind} {b : Nat} {bs : List Nat} {v : V} {o : zAe} (h : ParU kd b bs v o) : zBN v = Option.some (.int .i64 ((bs.length : Nat) : Int)) := by
 cases h with
 | nil h => subst h; rfl
 | zero k h => subst h; rfl
 | some h => rfl
theorem ParU.get {kd : IntKind} {b : Nat} {bs : List Nat} {v : V} {o : zAe} (h : ParU kd b bs v o) {i : Nat} (hi : i < bs.length) : v = .slice b 0 bs.length bs.length 1 ∧ o = .cells (vU kd bs) true := by
 cases h with
 | nil h => subst h; cases hi
 | zero k h => subst h; cases hi
 | some h => exact ⟨rfl, rfl⟩
theorem pls_vU (kd : IntKind) : ∀ l : List Nat, pls (vU kd l)
 | [] => zHj
 | x :: l => zHk (a := [V.int kd ((x : Nat) : Int)]) ⟨fun _ => rfl, fun _ => rfl⟩ (pls_vU kd l)
theorem ParU.low {kd : IntKind} {b : Nat} {bs : List Nat} {v : V} {o : zAe} (h : ParU kd b bs v o) : Low o := by
 cases h with
 | nil h => exact Low.dead
 | zero k h => exact Low.dead
 | some h => exact zB2 (pls_vU _ _)
theorem ParU.lowV {kd : IntKind} {b : Nat} {bs : List Nat} {v : V} {o : zAe} (h : ParU kd b bs v o) (hb : b = 0 ∨ b = 1) : LowV v := by
 have key : ∀ o n c z, LowV (.slice b o n c z) := by
  intro o n c z l hl
  match l, hl with
  | x0 :: x1 :: r, hl =>
   have e : [x0, x1] = [0, 1] := hl
   injection e with e0 e; injection e with e1 e
   subst e0; subst e1
   rcases hb with rfl | rfl <;> rfl
 cases h with
 | nil h => exact fun _ _ => rfl
 | zero k h => exact key _ _ _ _
 | some h => exact key _ _ _ _
theorem nth_vU {kd : IntKind} : ∀ {bs : List Nat} {i : Nat} (hi : i < bs.length), nth (vU kd bs) i = some (.int kd ((bs[i] : Nat) : Int))
 | _ :: _, 0, _ => rfl
 | b :: bs, i + 1, hi => nth_vU (bs := bs) (i := i) (by simpa using hi)
theorem rO_snoc (r : List zEq) (t : zEq) : rO (r ++ [t]) = .cells (repL (r ++ [t])) false := by cases r <;> rfl
theorem rvO_snoc (b : Nat) (r : List zEq) (t : zEq) : rvO b (r ++ [t]) = .slice b 0 (r.length + 1) (r.length + 1) 3 := by
 cases r with
 | nil => rfl
 | cons x l => show V.slice b 0 ((l ++ [t]).length + 1) ((l ++ [t]).length + 1) 3 = _; rw [List.length_append]; rfl
theorem rep_at : ∀ {r : List zEq} {i : Nat} {t : zEq}, r[i]? = some t → zEQ 3 (i * 3) (repL r) = some (.agg [.int .u32 ((t.1 : Nat) : Int), .int .u64 ((t.2.1 : Nat) : Int), .str t.2.2]) ∧ nth (repL r) (i * 3 + 1) = some (.int .u64 ((t.2.1 : Nat) : Int)) ∧ nth (repL r) (i * 3 + 2) = some (.str t.2.2)
 | [], i, t, h => by simp at h
 | (e, k, d) :: l, 0, t, h => by simp at h; subst h; exact ⟨rfl, rfl, rfl⟩
 | (e, k, d) :: l, i + 1, t, h => by
  obtain ⟨h1, h2, h3⟩ := rep_at (r := l) (i := i) (t := t) (by simpa using h)
  have e1 : (i + 1) * 3 = i * 3 + 3 := by omega
  refine ⟨?_, ?_, ?_⟩
  ·rw [e1]; exact h1
  ·rw [e1]; exact h2
  ·rw [e1]; exact h3
theorem lG_no {kd : IntKind} {k : Nat} {l : EnG} {z : V} (h : zDd k l = none) : zBk (.one .int) false z (.int kd ((k : Nat) : Int)) (enG kd l) = some z := look_no (show zBC _ _ _ = _ from zI7 h)
theorem lG_yes {kd : IntKind} {k : Nat} {l : EnG} {a z : V} (h : zDd k l = some a) : zBk (.one .int) false z (.int kd ((k : Nat) : Int)) (enG kd l) = some a := by
 obtain ⟨j, h1, _⟩ := zI6 (kd := kd) (i := 0) h
 have h1 : zBC (.one .int) (.int kd ((k : Nat) : Int)) (enG kd l) = some (some (0 + j, a)) := h1
 exact look_yes h1
section
variable {P : Program} (k : zGN P) {sa so : V} {oa oo : zAe} {st : Bool} (va : LowV sa) (vo : LowV so) (h0 : Low oa) (h1 : Low oo)
include k va vo h0 h1
theorem does0 {F LO : List It} {A : Nat → zAe} {D : Nat → List Nat} {q qo l : Nat} {z : Bool} {c : Nat} {OX : List V} {r : List zEq} {al : EnG} {ca : Nat} {tl : List (List Nat)} {ak i nd : Nat} (hLO : LO.length ≤ 9) (hOX : pls OX)
  {T : zAa} (hT : zAG T (slW sa so (tV 19 tl) ak i [(s19, .int .i64 ((nd : Nat) : Int))])) {K : Ex → zAa → Mem → Prop}
  (hK : ∀ T', zAG T' (slW sa so (tV 19 tl) ak i []) → K .normal T' (gM oa oo st ⟨[], [], LO, A, D, q, qo, l, z, c, OX, [], r, (rO r), al, ca, tl⟩)) :
  zAR P (cfL P) Ys.none 2 c3q9b T (gM oa oo st ⟨[], [], LO, A, D, q, qo, l, z, c, OX, [], r, (rO r), al, ca, tl⟩) K := by
 have hes : (enG .u64 (oL LO)).length ≤ 1000 := by rw [zBn]; omega
 have hcon := does_none k.mix k.O k.rr (D := D) (st := st) (l := l) (c := c) (m := nd) (z := z) (OX := OX)
 have hd : zAw (LAw P) (fn 15) [.ptr 12 0, .int .i64 ((nd : Nat) : Int)] (y21 oa oo (cB st [] q 3 (rvO 20 r)) (.map (enG .u64 (fL (fun p => 4 + p) [])) q false) (A 0) (A 1) (A 2) (A 3) (A 4) (A 5) (A 6) (A 7) (.cells (xL D (.ptr 13 0) (hvV z ([] : List It).length 16)) false) (zA4 st l (ovV z c 15) 14 [] false) (.map (enG .i64 (fmL ([] : List It))) l false) (dO z OX) (dO z (zAo ([] : List It))) (.map (enG .u64 (oL LO)) qo false) (.map (enG .u64 al) ca false) (tO tl) (rO r)) (.str []) (y21 oa oo (cB st [] q 3 (rvO 20 r)) (.map (enG .u64 (fL (fun p => 4 + p) [])) q false) (A 0) (A 1) (A 2) (A 3) (A 4) (A 5) (A 6) (A 7) (.cells (xL D (.ptr 13 0) (hvV z ([] : List It).length 16)) false) (zA4 st l (ovV z c 15) 14 [] false) (.map (enG .i64 (fmL ([] : List It))) l false) (dO z OX) (dO z (zAo ([] : List It))) (.map (enG .u64 (oL LO)) qo false) (.map (enG .u64 al) ca false) (tO tl) (rO r)) := by
  cases z with
  | true => exact cal15_n hOX hcon
  | false => exact cal15_n hOX hcon
 have hp8 : ∀ x ∈ ([] : List It), x.p < 8 := fun _ h => nomatch h
 have hf : zAw (LAw P) (fn 7) [.ptr 2 0, .str []] (y21 oa oo (cB st [] q 3 (rvO 20 r)) (.map (enG .u64 (fL (fun p => 4 + p) [])) q false) (A 0) (A 1) (A 2) (A 3) (A 4) (A 5) (A 6) (A 7) (.cells (xL D (.ptr 13 0) (hvV z ([] : List It).length 16)) false) (zA4 st l (ovV z c 15) 14 [] false) (.map (enG .i64 (fmL ([] : List It))) l false) (dO z OX) (dO z (zAo ([] : List It))) (.map (enG .u64 (oL LO)) qo false) (.map (enG .u64 al) ca false) (tO tl) (rO r)) (.tuple []) (y21 oa oo (cB st [] q 3 (rvO 20 r)) (.map (enG .u64 (fL (fun p => 4 + p) [])) q false) (A 0) (A 1) (A 2) (A 3) (A 4) (A 5) (A 6) (A 7) (.cells (xL D (.ptr 13 0) (hvV z ([] : List It).length 16)) false) (zA4 st l (ovV z c 15) 14 [] false) (.map (enG .i64 (fmL ([] : List It))) l false) (dO z OX) (dO z (zAo ([] : List It))) (.map (enG .u64 (oL LO)) qo false) (.map (enG .u64 al) ca false) (tO tl) (rO r)) := by
  cases st with
  | false => exact cal7_21 (r := r) (LF := []) hp8 (feed0f k.mix k.O k.bc (nm := [97]) (ou := []) (st := false) (sz := 1024) (q := q) (rv := rvO 11 r) (A := .dead) (R := .dead) (fl := fL (cp 0) []) rfl [] rfl rfl)
  | true => exact cal7_21 (r := r) (LF := []) hp8 (feed0t k.mix k.O k.bc (nm := [97]) (ou := []) (st := true) (sz := 1024) (q := q) (rv := rvO 11 r) (A := .dead) (R := .dead) (fl := fL (cp 0) []) [] rfl)
 exact zGn (w9n _ _ (zBb P) _ _ _ _ _ _ _ _ _ _ _ _ _ _ _ _ _ _ _ _ _  sa so _ ak i _ _ hes nd _ hd hf T hT K hK)
theorem does1 {F LO : List It} {A : Nat → zAe} {D : Nat → List Nat} {q qo l : Nat} {c : Nat} {OX : List V} {r : List zEq} {al : EnG} {ca : Nat} {tl : List (List Nat)} {ak i nd : Nat} {kk : Nat} {x : It} (hx : F[kk]? = some x) (hm : nd % F.length = kk) (hnd : nd ≤ 1000) (h8 : F.length ≤ 8) (hgd : Good x.n) (hD : DkOk D) (hT2 : NdT F) (hC2 : NdC F) (hl1 : l ≤ 1000) (htg : x.tg ≤ 1000) (hck : x.ck ≤ 1000) (hck1 : ∀ y ∈ F, 1 ≤ y.ck) (hA : A x.p = flI x) (hp8 : ∀ y ∈ F, y.p < 8) (lowA : ∀ j, Low (A j)) (hr1 : r.length ≤ 1) (hLO : LO.length ≤ 9) (hOX : pls OX) (hal : PlE al)
  {T : zAa} (hT : zAG T (slW sa so (tV 19 tl) ak i [(s19, .int .i64 ((nd : Nat) : Int))])) {K : Ex → zAa → Mem → Prop}
  (hc : ∀ A2, Low A2 → ∀ T' m', Near oa oo st ⟨(F.eraseIdx kk), (F.eraseIdx kk), LO, (zA5 A x.p A2), (dkS D x.n (rqG x.n)), q, qo, l, false, c, OX, [], (r ++ [(0, x.ck, duS D x.n (rqG x.n))]), (rO (r ++ [(0, x.ck, duS D x.n (rqG x.n))])), al, ca, tl⟩ (slW sa so (tV 19 tl) ak i []) T' m' → K .normal T' m') :
  zAR P (cfL P) Ys.none 2 c3q9b T (gM oa oo st ⟨F, F, LO, A, D, q, qo, l, false, c, OX, [], r, (rO r), al, ca, tl⟩) K := by
 have hes : (enG .u64 (oL LO)).length ≤ 1000 := by rw [zBn]; omega
 have hof := zC5 x.n
 have hln := zCM x.n
 have hxm := List.mem_of_getElem? hx
 have hpx := hp8 x hxm
 have hp8' : ∀ y ∈ F.eraseIdx kk, y.p < 8 := fun y hy => hp8 y (List.mem_of_mem_eraseIdx hy)
 have hdT : delG x.tg (fmL F) = fmL (F.eraseIdx kk) := by rw [del_m, rmT_erase hT2 hx]
 obtain ⟨NB, w, hNB, hw, hmsg, hcon⟩ := does_con k.mix k.O k.be k.rr hD (st := st) (l := l) (c := c) (OX := OX) hx hm hnd h8 hgd (get_m hT2 hxm) hdT hl1 htg hck
 have hd : zAw (LAw P) (fn 15) [.ptr 12 0, .int .i64 ((nd : Nat) : Int)] (y21 oa oo (cB st [] q 3 (rvO 20 r)) (.map (enG .u64 (fL (fun p => 4 + p) F)) q false) (A 0) (A 1) (A 2) (A 3) (A 4) (A 5) (A 6) (A 7) (.cells (xL D (.ptr 13 0) (hvV false F.length 16)) false) (zA4 st l (ovV false c 15) 14 [] false) (.map (enG .i64 (fmL F)) l false) (dO false OX) (dO false (zAo F)) (.map (enG .u64 (oL LO)) qo false) (.map (enG .u64 al) ca false) (tO tl) (rO r)) (.str w) (y22 oa oo (cB st [] q 3 (rvO 20 r)) (.map (enG .u64 (fL (fun p => 4 + p) F)) q false) (A 0) (A 1) (A 2) (A 3) (A 4) (A 5) (A 6) (A 7) (.cells (xL (dkS D x.n (rqG x.n)) (.ptr 13 0) (.slice 21 0 (F.eraseIdx kk).length (F.eraseIdx kk).length 5)) false) (zA4 st l (.slice 15 c 0 0 5) 14 [] false) (.map (enG .i64 (fmL (F.eraseIdx kk))) l false) (.cells OX false) (.cells (zAo F) false) (.map (enG .u64 (oL LO)) qo false) (.map (enG .u64 al) ca false) (tO tl) (rO r) (.cells (zAo (F.eraseIdx kk)) false)) := by
  rcases hNB with rfl | rfl | rfl
  ·exact cal15_s (.inl rfl) hOX hcon
  ·exact cal15_s (.inr (.inl rfl)) hOX hcon
  ·exact cal15_s (.inr (.inr rfl)) hOX hcon
 have hg1 : zDd x.ck (fL (cp x.p) F) = some (.ptr 2 0) := by
  have := get_f (f := cp x.p) hC2 hxm
  rw [cp_self] at this; exact this
 have hd1 : delG x.ck (fL (cp x.p) F) = fL (cp x.p) (F.eraseIdx kk) := by rw [del_f, rmI_erase hC2 hx]
 obtain ⟨A2, hA2, hfd⟩ := feed_con k.mix k.O k.bc (nm := [97]) (ou := []) (st := st) (ch := st) (sz := 1024) (q := q) (ad := rqD x.n) (zBV x.n) hck (by omega) (by omega) hg1 (by rw [hd1]; exact get_fN fun y hy => by have := hck1 y (List.mem_of_mem_eraseIdx hy); omega) (r := r) (by omega) hmsg
 rw [hd1] at hfd
 have hlA := low_bel hA2
 have hrl : pls (repL (r ++ [(0, x.ck, duS D x.n (rqG x.n))])) := zHi _
 have hlow : LowG oa oo ⟨(F.eraseIdx kk), (F.eraseIdx kk), LO, (zA5 A x.p A2), (dkS D x.n (rqG x.n)), q, qo, l, false, c, OX, [], (r ++ [(0, x.ck, duS D x.n (rqG x.n))]), (rO (r ++ [(0, x.ck, duS D x.n (rqG x.n))])), al, ca, tl⟩ := ⟨h0, h1, fun j => by show Low (zA5 A x.p A2 j); unfold zA5; split; exact hlA; exact lowA j, hOX, hal, show Low (rO (r ++ [(0, x.ck, duS D x.n (rqG x.n))])) from low_rO _, hp8'⟩
 have hf : zAw (LAw P) (fn 7) [.ptr 2 0, .str w] (y22 oa oo (cB st [] q 3 (rvO 20 r)) (.map (enG .u64 (fL (fun p => 4 + p) F)) q false) (A 0) (A 1) (A 2) (A 3) (A 4) (A 5) (A 6) (A 7) (.cells (xL (dkS D x.n (rqG x.n)) (.ptr 13 0) (.slice 21 0 (F.eraseIdx kk).length (F.eraseIdx kk).length 5)) false) (zA4 st l (.slice 15 c 0 0 5) 14 [] false) (.map (enG .i64 (fmL (F.eraseIdx kk))) l false) (.cells OX false) (.cells (zAo F) false) (.map (enG .u64 (oL LO)) qo false) (.map (enG .u64 al) ca false) (tO tl) (rO r) (.cells (zAo (F.eraseIdx kk)) false)) (.tuple []) (y23 oa oo (cB st [] q 3 (.slice 22 0 (r.length + 1) (r.length + 1) 3)) (.map (enG .u64 (fL (fun p => 4 + p) (F.eraseIdx kk))) q false) (zA5 A x.p A2 0) (zA5 A x.p A2 1) (zA5 A x.p A2 2) (zA5 A x.p A2 3) (zA5 A x.p A2 4) (zA5 A x.p A2 5) (zA5 A x.p A2 6) (zA5 A x.p A2 7) (.cells (xL (dkS D x.n (rqG x.n)) (.ptr 13 0) (.slice 21 0 (F.eraseIdx kk).length (F.eraseIdx kk).length 5)) false) (zA4 st l (.slice 15 c 0 0 5) 14 [] false) (.map (enG .i64 (fmL (F.eraseIdx kk))) l false) (.cells OX false) (.cells (zAo F) false) (.map (enG .u64 (oL LO)) qo false) (.map (enG .u64 al) ca false) (tO tl) .dead (.cells (zAo (F.eraseIdx kk)) false) (.cells (repL (r ++ [(0, x.ck, duS D x.n (rqG x.n))])) false)) := by
  generalize duS D x.n (rqG x.n) = u at hfd hrl ⊢
  generalize dkS D x.n (rqG x.n) = D2
  generalize F.eraseIdx kk = F2 at hfd hp8' ⊢
  have hA : A x.p = flO (rqT x.n) x.ck (rqO x.n) (rqN x.n) (rqD x.n) := hA
  obtain ⟨ck, tg, n, p⟩ := x
  have hpx : p < 8 := hpx
  have hA : A p = flO (rqT n) ck (rqO n) (rqN n) (rqD n) := hA
  by_cases hrn : r = []
  ·subst hrn
   exact cal7r_n (r := []) hpx hA hp8 hp8' hA2 hrl hfd
  ·obtain ⟨y, r0, rfl⟩ := List.exists_cons_of_ne_nil hrn
   have hr0 : pls (repL (y :: r0)) := zHi _
   exact cal7r_s (r := y :: r0) hpx hA hp8 hp8' hA2 hrl hr0 hfd
 have hfit : Fits oa oo st ⟨(F.eraseIdx kk), (F.eraseIdx kk), LO, (zA5 A x.p A2), (dkS D x.n (rqG x.n)), q, qo, l, false, c, OX, [], (r ++ [(0, x.ck, duS D x.n (rqG x.n))]), (rO (r ++ [(0, x.ck, duS D x.n (rqG x.n))])), al, ca, tl⟩ (y23 oa oo (cB st [] q 3 (.slice 22 0 (r.length + 1) (r.length + 1) 3)) (.map (enG .u64 (fL (fun p => 4 + p) (F.eraseIdx kk))) q false) (zA5 A x.p A2 0) (zA5 A x.p A2 1) (zA5 A x.p A2 2) (zA5 A x.p A2 3) (zA5 A x.p A2 4) (zA5 A x.p A2 5) (zA5 A x.p A2 6) (zA5 A x.p A2 7) (.cells (xL (dkS D x.n (rqG x.n)) (.ptr 13 0) (.slice 21 0 (F.eraseIdx kk).length (F.eraseIdx kk).length 5)) false) (zA4 st l (.slice 15 c 0 0 5) 14 [] false) (.map (enG .i64 (fmL (F.eraseIdx kk))) l false) (.cells OX false) (.cells (zAo F) false) (.map (enG .u64 (oL LO)) qo false) (.map (enG .u64 al) ca false) (tO tl) .dead (.cells (zAo (F.eraseIdx kk)) false) (.cells (repL (r ++ [(0, x.ck, duS D x.n (rqG x.n))])) false)) (zAJ [0, 1, 2, 3, 4, 5, 6, 7, 8, 9, 10, 11, 12, 13, 14, 15, 21, 17, 18, 19, 22]) := ⟨by kernel_rfl, by kernel_rfl, by rw [rvO_snoc]; kernel_rfl, fit3 ⟨rfl, rfl, rfl, rfl, rfl, rfl, rfl, rfl⟩ hp8' (by kernel_rfl), fun j hj => by rcases k8 hj with rfl | rfl | rfl | rfl | rfl | rfl | rfl | rfl <;> exact .inl (by kernel_rfl), by kernel_rfl, by kernel_rfl, by kernel_rfl, by kernel_rfl, by kernel_rfl, by kernel_rfl, by kernel_rfl, by kernel_rfl, .inl (by rw [show (⟨(F.eraseIdx kk), (F.eraseIdx kk), LO, (zA5 A x.p A2), (dkS D x.n (rqG x.n)), q, qo, l, false, c, OX, [], (r ++ [(0, x.ck, duS D x.n (rqG x.n))]), (rO (r ++ [(0, x.ck, duS D x.n (rqG x.n))])), al, ca, tl⟩ : Gs).R = .cells (repL (r ++ [(0, x.ck, duS D x.n (rqG x.n))])) false from rO_snoc _ _]; kernel_rfl)⟩
 exact zGn (w9d _ _ (zBb P) _ _ _ _ _ _ _ _ _ _ _ _ _ _ _ _ _ _ _ _ _ _ _ _ _ _ _ _ _ _ _ _ _ _ _ _ _  sa so _ ak i _ _ hes nd _ hd hf T hT K fun T1 hT1 => hc A2 hlA T1 _ (.inr ⟨_, _, zIV rfl rfl hlow hfit, hT1, zDh va vo rfl rfl rfl rfl rfl (zEf fun _ _ _ _ => rfl) rfl⟩))
end
theorem rmI_ne {k : Nat} : ∀ {L : List It}, NdC L → ∀ {y : It}, y ∈ rmI k L → y.ck ≠ k
 | [], _, _, h => by cases h
 | x :: l, h, y, hy => by
  have h2 := List.nodup_cons.1 (show (x.ck :: l.map It.ck).Nodup from h)
  unfold rmI at hy
  by_cases hk : k = x.ck
  ·rw [if_pos hk] at hy
   intro e
   exact h2.1 (List.mem_map.2 ⟨y, hy, by omega⟩)
  ·rw [if_neg hk] at hy
   rcases List.mem_cons.1 hy with rfl | hy
   ·exact fun e => hk e.symm
   ·exact rmI_ne h2.2 hy
theorem pend_snoc {al : EnG} {tl : List (List Nat)} {L : List It} {pn : List Pn} {F : List It} (h : zF1 al tl L pn F) {x : It} {e : Nat} {d : List Nat} (hx : x ∈ F) (hr : RgtOk e (rqT x.n) (rqO x.n) (rqN x.n) d.length) (ht : Told al tl x d) : zF1 al tl L (pn ++ [(x, e, d)]) (rmI x.ck F) := by
 induction h with
 | nil => exact .cons hx hr ht .nil
 | cons hx1 hr1 ht1 _ ih => exact .cons hx1 hr1 ht1 (ih hx)
theorem zGR {al : EnG} {tl : List (List Nat)} {L : List It} {pn : List Pn} {F : List It} (h : zF1 al tl L pn F) : F.length + pn.length = L.length := by
 induction h with
 | nil => rfl
 | cons hx1 hr1 ht1 _ ih =>
  have := rmI_len hx1 rfl
  simp only [List.length_cons]; omega
theorem good_rgt {n : Nat} (h : Good n) {D : Nat → List Nat} (hD : DkOk D) : RgtOk 0 (rqT n) (rqO n) (rqN n) (duS D n (rqG n)).length := by
 have hof := zC5 n
 have hln := zCM n
 have hlen : (duS D n (rqG n)).length = if rqT n = 0 then rqN n else 0 := by
  split
  ·rename_i h0
   have hk1 : kdN n = 1 := by show kdT (rqT n) = 1; rw [h0]; rfl
   rw [zGk hD hk1]
   have := zGy h (by omega)
   show 64 * (rqN n / 64) = _
   omega
  ·rename_i h0
   have : duS D n (rqG n) = [] := by
    refine zHH (fun h => h0 ?_) _
    rcases zBf n with ⟨_, e⟩ | ⟨_, e⟩ | ⟨_, e⟩ | ⟨_, e⟩ | ⟨_, e⟩ <;> first | exact e | (unfold kdN at h; rw [e] at h; exact absurd h (by decide))
   rw [this]; rfl
 refine ⟨zBV n, by omega, by omega, ?_, by decide, .inr ⟨rfl, fun h9 => ?_, ?_, fun h3 => (good_f h h3).1, hlen⟩⟩
 ·rw [hlen]; split <;> omega
 ·have h7 := h.2
  rcases zBf n with ⟨_, e⟩ | ⟨_, e⟩ | ⟨_, e⟩ | ⟨_, e⟩ | ⟨h7', e⟩ <;> omega
 ·by_cases h3 : rqT n = 3
  ·rw [(good_f h h3).1]
  ·rw [(zGy h h3).1]; omega
theorem bad_rgt {n : Nat} (h : ¬ Good n) : RgtOk 22 (rqT n) (rqO n) (rqN n) ([] : List Nat).length := by
 have hof := zC5 n
 have hln := zCM n
 refine ⟨zBV n, by omega, by omega, by decide, by decide, .inl ⟨rfl, rfl, ?_⟩⟩
 by_cases h7 : n % 8 = 7
 ·left
  rcases zBf n with ⟨_, e⟩ | ⟨_, e⟩ | ⟨_, e⟩ | ⟨_, e⟩ | ⟨_, e⟩ <;> omega
 ·right
  have h97 : n % 97 = 0 := by
   by_cases h' : n % 97 = 0
   ·exact h'
   ·exact absurd ⟨h', h7⟩ h
  unfold rqO; rw [if_pos h97]
theorem zBI {L : List It} {x y : It} (h : y ∈ L ++ [x]) : y ∈ L ∨ y = x := by
 rcases List.mem_append.1 h with h | h
 ·exact .inl h
 ·simp at h; exact .inr h
theorem mid_good {L : List It} {A : Nat → zAe} {D : Nat → List Nat} {l : Nat} {z : Bool} {c : Nat} {OX : List V} {al : EnG} {ca : Nat} {tl : List (List Nat)} {ak n p : Nat} (h : Mid ⟨L, L, L, A, D, ak, ak, l, z, c, OX, [], [], .dead, al, ca, tl⟩ [] ak) (hg : Good n) (h8 : L.length < 8) (hak : ak ≤ 99) (hp : p < 8) (hfree : ∀ y ∈ L, y.p ≠ p)
  {al' : EnG} {ca' : Nat} {tl' : List (List Nat)} (ht : TRel D L ak n al ca tl al' ca' tl') {al2 : EnG} {ca2 : Nat} (h2 : al2 = [] ∨ al2 = al' ∧ (L ++ [(⟨ak + 1, l + 1, n, p⟩ : It)]).length ≤ 1) :
  Mid ⟨L ++ [⟨ak + 1, l + 1, n, p⟩], L ++ [⟨ak + 1, l + 1, n, p⟩], L ++ [⟨ak + 1, l + 1, n, p⟩], zA5 A p (flI ⟨ak + 1, l + 1, n, p⟩), D, ak + 1, ak + 1, l + 1, false, 5, zGH (l + 1) n, [], [], .dead, al2, ca2, tl'⟩ [] (ak + 1) := by
 have hp8 := h.p8
 have hA := h.A
 have htg := h.tg
 have hck := h.ck
 have hl := h.l
 have hpl := h.plal
 have hkal := h.kal
 have htl := h.tl
 have hlt : ∀ y ∈ L, y.ck ≠ ak + 1 := fun y hy => by have := (hck y hy).2; show y.ck ≠ _; have h3 : y.ck ≤ ak := this; omega
 have htgn : ∀ y ∈ L, y.tg ≠ l + 1 := fun y hy => by have h3 : y.tg ≤ l := (htg y hy).2; omega
 have hTR : (∀ e ∈ al', (∀ σ, e.2.1.ren σ = e.2.1) ∧ ∀ p, e.2.1.bel p = true) ∧ (∀ e ∈ al', 1 ≤ e.1 ∧ e.1 ≤ ak + 1) ∧ tl'.length ≤ ak + 1 := by
  rcases ht with ⟨rfl, rfl, rfl⟩ | ⟨_, _, _, rfl, rfl, rfl⟩
  ·exact ⟨hpl, fun e he => by have h3 := hkal e he; have h4 : e.1 ≤ ak := h3.2; exact ⟨h3.1, by omega⟩, by have h3 : tl'.length ≤ ak := htl; omega⟩
  ·refine ⟨fun e he => ?_, fun e he => ?_, ?_⟩
   ·rcases List.mem_append.1 he with he | he
    ·exact hpl e he
    ·simp at he; subst he; exact ⟨fun _ => rfl, fun _ => rfl⟩
   ·rcases List.mem_append.1 he with he | he
    ·have h3 := hkal e he; have h4 : e.1 ≤ ak := h3.2; exact ⟨h3.1, by omega⟩
    ·simp at he; subst he; exact ⟨by show 1 ≤ ak + 1; omega, Nat.le_refl _⟩
   ·rw [List.length_append]; have h3 : tl.length ≤ ak := htl; show tl.length + 1 ≤ _; omega
 refine ⟨rfl, fun y hy => ?_, fun y hy => ?_, fun j => ?_, fun y hy w hw e => ?_, ?_, fun y hy => ?_, ndT_snoc h.ndT htgn, fun y hy => ?_, zI0 h.ndC hlt, zI0 h.ndC hlt, fun y hy => ?_, fun y hy => ?_, rfl, rfl, by omega, ?_, (fun h => by cases h), ⟨fun _ => rfl, fun _ => rfl⟩, h.D, rfl, ?_, ?_, hTR.2.2, rfl, rfl, by decide, .nil, fun y hy => ?_⟩
 ·rcases zBI hy with hy | rfl
  ·exact hp8 y hy
  ·exact hp
 ·rcases zBI hy with hy | rfl
  ·show zA5 A p _ y.p = _
   rw [zFa _ _ (hfree y hy)]; exact hA y hy
  ·exact zFs _ _ _
 ·show Low (zA5 A p _ j)
  unfold zA5; split
  ·exact zB2 ⟨fun _ => rfl, fun _ => rfl⟩
  ·exact h.lowA j
 ·rcases zBI hy with hy | rfl <;> rcases zBI hw with hw | rfl
  ·exact h.pnd y hy w hw e
  ·exact absurd e (hfree y hy)
  ·exact absurd e.symm (hfree w hw)
  ·rfl
 ·show (L ++ [_]).length ≤ 8; rw [List.length_append]; show L.length + 1 ≤ 8; omega
 ·rcases zBI hy with hy | rfl
  ·have h3 := htg y hy; have h4 : y.tg ≤ l := h3.2; exact ⟨h3.1, by show y.tg ≤ l + 1; omega⟩
  ·exact ⟨by show 1 ≤ l + 1; omega, Nat.le_refl _⟩
 ·rcases zBI hy with hy | rfl
  ·have h3 := hck y hy; have h4 : y.ck ≤ ak := h3.2; exact ⟨h3.1, by show y.ck ≤ ak + 1; omega⟩
  ·exact ⟨by show 1 ≤ ak + 1; omega, Nat.le_refl _⟩
 ·rcases zBI hy with hy | rfl
  ·have h3 := hck y hy; have h4 : y.ck ≤ ak := h3.2; exact ⟨h3.1, by show y.ck ≤ ak + 1; omega⟩
  ·exact ⟨by show 1 ≤ ak + 1; omega, Nat.le_refl _⟩
 ·rcases zBI hy with hy | rfl
  ·exact h.good y hy
  ·exact hg
 ·show l + 1 ≤ ak + 1
  have h3 : l ≤ ak := hl; omega
 ·rcases h2 with rfl | ⟨rfl, _⟩
  ·exact fun e he => by cases he
  ·exact hTR.1
 ·rcases h2 with rfl | ⟨rfl, _⟩
  ·exact fun e he => by cases he
  ·exact hTR.2.1
 ·rcases h2 with rfl | ⟨rfl, h2⟩
  ·exact .inl rfl
  ·have hL : L = [] := by
    rw [List.length_append] at h2
    exact List.length_eq_zero_iff.1 (by have : L.length + 1 ≤ 1 := h2; omega)
   subst hL
   rcases zBI hy with hy | rfl
   ·cases hy
   ·have hn0 : zDd (ak + 1) al = none := zEI fun e he => by have h4 : e.1 ≤ ak := (hkal e he).2; omega
    rcases ht with ⟨rfl, rfl, rfl⟩ | ⟨_, ht0, _, rfl, rfl, rfl⟩
    ·exact .inl hn0
    ·refine .inr ⟨rfl, ht0, .inr ⟨tl.length, by rw [List.length_append]; show tl.length < tl.length + 1; omega, ?_, by simp⟩⟩
     show zDd (ak + 1) _ = _
     rw [zFN hn0]
     show (if ak + 1 = ak + 1 then _ else _) = _
     rw [if_pos rfl]
theorem mid_bad {L : List It} {A : Nat → zAe} {D : Nat → List Nat} {l : Nat} {z : Bool} {c : Nat} {OX : List V} {al : EnG} {ca : Nat} {tl : List (List Nat)} {ak n : Nat} {x : It} (h : Mid ⟨L, L, L, A, D, ak, ak, l, z, c, OX, [], [], .dead, al, ca, tl⟩ [] ak) (hx : x.ck = ak + 1) (hn : x.n = n) (hg : ¬ Good n) (h8 : L.length < 8) (hak : ak ≤ 99) (hfree : ∀ y ∈ L, y.p ≠ x.p) {A2 : zAe} (hA2 : Low A2)
  {al' : EnG} {ca' : Nat} {tl' : List (List Nat)} (ht : TRel D L ak n al ca tl al' ca' tl') {al2 : EnG} {ca2 : Nat} (h2 : al2 = [] ∨ al2 = al' ∧ (L ++ [x]).length ≤ 1) {f : It} :
  Mid ⟨L, L, L ++ [x], zA5 (zA5 A x.p (flI f)) x.p A2, D, ak + 1, ak + 1, l, z, c, OX, [], [(22, ak + 1, [])], rO [(22, ak + 1, [])], al2, ca2, tl'⟩ [(x, 22, [])] (ak + 1) := by
 have hck := h.ck
 have hl := h.l
 have hkal := h.kal
 have htl := h.tl
 have hlt : ∀ y ∈ L, y.ck ≠ x.ck := fun y hy => by have h3 : y.ck ≤ ak := (hck y hy).2; omega
 have hTR : al' = al ∧ tl' = tl := by
  rcases ht with ⟨rfl, rfl, rfl⟩ | ⟨_, _, hg', _⟩
  ·exact ⟨rfl, rfl⟩
  ·exact absurd hg' hg
 obtain ⟨rfl, rfl⟩ := hTR
 have hn0 : zDd x.ck al2 = none := by
  rcases h2 with rfl | ⟨rfl, _⟩
  ·rfl
  ·exact zEI fun e he => by have h4 : e.1 ≤ ak := (hkal e he).2; omega
 refine ⟨rfl, h.p8, fun y hy => ?_, fun j => ?_, h.pnd, h.len, h.tg, h.ndT, fun y hy => ?_, zI0 h.ndC hlt, h.ndC, fun y hy => ?_, h.good, rfl, rfl, by omega, ?_, h.z, h.OX, h.D, rfl, ?_, ?_, ?_, by rw [← hx]; rfl, rfl, by show 1 ≤ 2; decide, .cons (by simp) (by rw [hn]; exact bad_rgt hg) (.inl hn0) (by rw [rmI_snoc hlt]; exact .nil), fun y hy => ?_⟩
 ·show zA5 _ x.p A2 y.p = _
  rw [zFa _ _ (hfree y hy), zFa _ _ (hfree y hy)]
  exact h.A y hy
 ·show Low (zA5 (zA5 A x.p (flI f)) x.p A2 j)
  by_cases e : j = x.p
  ·subst e; rw [zFs]; exact hA2
  ·rw [zFa _ _ e, zFa _ _ e]; exact h.lowA j
 ·rcases zBI hy with hy | rfl
  ·have h3 := hck y hy; have h4 : y.ck ≤ ak := h3.2; exact ⟨h3.1, by show y.ck ≤ ak + 1; omega⟩
  ·exact ⟨by omega, by show y.ck ≤ ak + 1; omega⟩
 ·have h3 := hck y hy; have h4 : y.ck ≤ ak := h3.2; exact ⟨h3.1, by show y.ck ≤ ak + 1; omega⟩
 ·show l ≤ ak + 1
  have h3 : l ≤ ak := hl; omega
 ·rcases h2 with rfl | ⟨rfl, _⟩
  ·exact fun e he => by cases he
  ·exact h.plal
 ·rcases h2 with rfl | ⟨rfl, _⟩
  ·exact fun e he => by cases he
  ·exact fun e he => by have h3 := hkal e he; have h4 : e.1 ≤ ak := h3.2; exact ⟨h3.1, by show e.1 ≤ ak + 1; omega⟩
 ·show tl'.length ≤ ak + 1
  have h3 : tl'.length ≤ ak := htl; omega
 ·rcases h2 with rfl | ⟨rfl, h2⟩
  ·exact .inl rfl
  ·rw [List.length_append] at h2
   have h3 : L.length + 1 ≤ 1 := h2
   have : L = [] := List.length_eq_zero_iff.1 (by omega)
   subst this; cases hy
theorem zCf {L : List It} {k : Nat} {y : It} (h : y ∈ L.eraseIdx k) : y ∈ L := List.mem_of_mem_eraseIdx h
theorem mid_does {F LO : List It} {A : Nat → zAe} {D : Nat → List Nat} {q qo l : Nat} {c : Nat} {OX : List V} {r : List zEq} {al : EnG} {ca : Nat} {tl : List (List Nat)} {ak kk : Nat} {pn : List Pn} {x : It} (h : Mid ⟨F, F, LO, A, D, q, qo, l, false, c, OX, [], r, rO r, al, ca, tl⟩ pn ak) (hp1 : pn.length ≤ 1) (hx : F[kk]? = some x) {A2 : zAe} (hA2 : Low A2) :
  Mid ⟨F.eraseIdx kk, F.eraseIdx kk, LO, zA5 A x.p A2, dkS D x.n (rqG x.n), q, qo, l, false, c, OX, [], r ++ [(0, x.ck, duS D x.n (rqG x.n))], rO (r ++ [(0, x.ck, duS D x.n (rqG x.n))]), al, ca, tl⟩ (pn ++ [(x, 0, duS D x.n (rqG x.n))]) ak := by
 have hxm := List.mem_of_getElem? hx
 have hk := (List.getElem?_eq_some_iff.1 hx).1
 have her : rmI x.ck F = F.eraseIdx kk := rmI_erase h.ndF hx
 have hne : ∀ y ∈ F.eraseIdx kk, y.ck ≠ x.ck := fun y hy => rmI_ne h.ndF (her ▸ hy)
 have htold := h.told
 have hrp : r = pnR pn := h.rp
 refine ⟨rfl, fun y hy => h.p8 y (zCf hy), fun y hy => ?_, fun j => ?_, fun y hy w hw e => h.pnd y (zCf hy) w (zCf hw) e, ?_, fun y hy => h.tg y (zCf hy), ?_, h.ck, h.ndC, ?_, fun y hy => h.ckF y (zCf hy), fun y hy => h.good y (zCf hy), h.q, h.qo, h.akb, h.l, (fun h => by cases h), h.OX, dkS_ok h.D (h.good x hxm) _ (Nat.le_refl _), rfl, h.plal, h.kal, h.tl, ?_, rfl, ?_, ?_, fun y hy => ?_⟩
 ·show zA5 A x.p A2 y.p = _
  rw [zFa _ _ fun e => hne y hy (by rw [h.pnd y (zCf hy) x hxm e])]
  exact h.A y (zCf hy)
 ·show Low (zA5 A x.p A2 j)
  unfold zA5; split
  ·exact hA2
  ·exact h.lowA j
 ·show (F.eraseIdx kk).length ≤ 8
  have h8 : F.length ≤ 8 := h.len
  rw [List.length_eraseIdx_of_lt hk]; omega
 ·exact ((List.eraseIdx_sublist F kk).map It.tg).nodup h.ndT
 ·exact ((List.eraseIdx_sublist F kk).map It.ck).nodup h.ndF
 ·show r ++ [(0, x.ck, duS D x.n (rqG x.n))] = pnR (pn ++ [(x, 0, duS D x.n (rqG x.n))])
  rw [hrp]; unfold pnR; rw [List.map_append]; rfl
 ·rw [List.length_append]; show pn.length + 1 ≤ 2; omega
 ·show zF1 al tl LO _ (F.eraseIdx kk)
  rw [← her]
  refine pend_snoc h.pend hxm (good_rgt (h.good x hxm) h.D) ?_
  rcases htold x hxm with h3 | ⟨_, _, h3⟩
  ·exact .inl h3
  ·exact h3
 ·rcases htold y (zCf hy) with h3 | ⟨h3, _⟩
  ·exact .inl h3
  ·have h3 : F = [y] := h3
   subst h3
   exfalso
   have hk0 : kk = 0 := by simp at hk; exact hk
   subst hk0
   cases hy
end Go.Proofs.YtjekgdkaejgpdaaGreat
