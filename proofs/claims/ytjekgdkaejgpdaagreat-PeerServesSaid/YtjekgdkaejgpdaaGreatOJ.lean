/- The law's rounds. No condition. -/
import Derived.Test.YtjekgdkaejgpdaaGreatNK
namespace Go.Proofs.YtjekgdkaejgpdaaGreat
open Go Go.AM
set_option maxRecDepth 100000
set_option maxHeartbeats 4000000
set_option linter.unusedVariables false
set_option linter.unusedSectionVars false
abbrev doesC (cc : zAz) : zAz := .seq c3q7 (.seq c3q8 (.seq (.seq c3q9 (.cond (.t s200) c3q9b .skip)) cc))
abbrev replC (cc : zAz) : zAz := .seq c3q10 (.seq (.seq c3q11 (.block 4 (.loop c3l1))) cc)
theorem nth_str : ∀ {l : List (List Nat)} {j : Nat} {d : List Nat}, l[j]? = some d → nth (l.map V.str) j = some (.str d)
 | [], _, _, h => by simp at h
 | x :: l, 0, d, h => by simp at h; subst h; rfl
 | x :: l, j + 1, d, h => nth_str (l := l) (by simpa using h)
section
variable {P : Program} (k : zGN P) {acs os : List Nat} {sa so : V} {oa oo : zAe} {st : Bool} (par : Par acs os sa so oa oo)
include k par
theorem does_at {g : Gs} {pn : List Pn} {ak i nd : Nat} (hM : Mid g pn ak) (hpn : pn.length ≤ 1) (hnd : nd ≤ 1000) (hpl : g.LO.length ≤ 9)
  {T : zAa} (hT : zAG T (slW sa so (tV 19 g.tl) ak i [(s19, .int .i64 ((nd : Nat) : Int))])) {K : Ex → zAa → Mem → Prop}
  (hK : ∀ g' pn' T' m', Mid g' pn' ak → (g.LF ≠ [] → g'.LF.length + 1 ≤ g.LF.length) → g'.LF.length ≤ g.LF.length → g'.LO.length ≤ 9 → Near oa oo st g' (slW sa so (tV 19 g'.tl) ak i []) T' m' → K .normal T' m') :
  zAR P (cfL P) Ys.none 2 c3q9b T (gM oa oo st g) K := by
 have va := par.a.lowV (.inl rfl)
 have vo := par.o.lowV (.inr rfl)
 have h0 := par.a.low
 have h1 := par.o.low
 obtain ⟨F, LS, LO, A, D, q, qo, l, z, c, OX, ou, r, R, al, ca, tl⟩ := g
 have e1 : F = LS := hM.FS
 have e5 : [] = ou := hM.ou.symm
 have e7 : rO r = R := hM.R.symm
 subst e1; subst e5; subst e7
 have hrl : r.length ≤ 1 := by have h := hM.rp; have h : r = pnR pn := h; rw [h]; unfold pnR; rw [List.length_map]; exact hpn
 by_cases hF : F = []
 ·subst hF
  exact does0 k va vo h0 h1 (F := []) hpl hM.OX hT fun T' hT' => hK _ pn T' _ hM (fun h => absurd rfl h) (Nat.le_refl _) hpl (zGe hT')
 ·have hz : z = false := by
   cases z with
   | false => rfl
   | true => exact absurd (hM.z rfl) hF
  subst hz
  have hpos : 0 < F.length := List.length_pos_iff.2 hF
  have hlt : nd % F.length < F.length := Nat.mod_lt _ hpos
  obtain ⟨x, hx⟩ : ∃ x, F[nd % F.length]? = some x := ⟨F[nd % F.length], List.getElem?_eq_getElem hlt⟩
  have hxm := List.mem_of_getElem? hx
  have hqa : q = ak := hM.q
  have hlq : l ≤ q := hM.l
  have hak := hM.akb
  have htg : x.tg ≤ l := (hM.tg x hxm).2
  have hckx : x.ck ≤ q := (hM.ckF x hxm).2
  have m8 : F.length ≤ 8 := hM.len
  have mD : DkOk D := hM.D
  have mT : NdT F := hM.ndT
  have mC : NdC F := hM.ndF
  have mA : A x.p = flI x := hM.A x hxm
  have mp : ∀ y ∈ F, y.p < 8 := hM.p8
  have mlA : ∀ j, Low (A j) := hM.lowA
  have mOX : pls OX := hM.OX
  have mal : PlE al := hM.plal
  have mck : ∀ y ∈ F, 1 ≤ y.ck := fun y hy => (hM.ckF y hy).1
  refine does1 k va vo h0 h1 (F := F) (LO := LO) (A := A) (D := D) (q := q) (qo := qo) (l := l) (c := c) (OX := OX) (r := r) (al := al) (ca := ca) (tl := tl) (kk := nd % F.length) (x := x) hx rfl hnd m8 (hM.good x hxm) mD mT mC (by omega) (by omega) (by omega) mck mA mp mlA hrl hpl mOX mal hT fun A2 hA2 T' m' hN => ?_
  have hlen : (F.eraseIdx (nd % F.length)).length + 1 = F.length := by rw [List.length_eraseIdx_of_lt hlt]; omega
  exact hK _ _ T' m' (mid_does hM hpn hx hA2) (fun _ => Nat.le_of_eq hlen) (by show (F.eraseIdx _).length ≤ F.length; omega) hpl hN
theorem does_part {g : Gs} {pn : List Pn} {ak i : Nat} (hM : Mid g pn ak) (hpn : pn.length ≤ 1) (hpl : g.LO.length ≤ 9) (hi : i < 500)
  {T : zAa} (hT : zAG T (slW sa so (tV 19 g.tl) ak i [])) {K : Ex → zAa → Mem → Prop} {cc : zAz}
  (hc : ∀ g' pn' T', Mid g' pn' ak → (os.length ≤ i → g.LF ≠ [] → g'.LF.length + 1 ≤ g.LF.length) → g'.LF.length ≤ g.LF.length → g'.LO.length ≤ 9 → zAG T' (slW sa so (tV 19 g'.tl) ak i []) → zAR P (cfL P) Ys.none 2 cc T' (gM oa oo st g') K) :
  zAR P (cfL P) Ys.none 2 (doesC cc) T (gM oa oo st g) K := by
 have hak := hM.akb
 have hon := par.on
 have hes : (enG .u64 (oL g.LO)).length ≤ 1000 := by rw [zBn]; omega
 have fin : ∀ nd, nd ≤ 1000 → ∀ T1, zAG T1 (slW sa so (tV 19 g.tl) ak i [(s19, .int .i64 ((nd : Nat) : Int)), (s200, .bool true)]) → ∀ K' : Ex → zAa → Mem → Prop, (∀ T' m', (∃ g' pn', Mid g' pn' ak ∧ (os.length ≤ i → g.LF ≠ [] → g'.LF.length + 1 ≤ g.LF.length) ∧ g'.LF.length ≤ g.LF.length ∧ g'.LO.length ≤ 9 ∧ Near oa oo st g' (slW sa so (tV 19 g'.tl) ak i []) T' m') → K' .normal T' m') → zAR P (cfL P) Ys.none 2 (.cond (.t s200) c3q9b .skip) T1 (gM oa oo st g) K' := by
  intro nd hnd T1 hT1 K' hK'
  refine .condT (show T1.get s200 = .bool true from slW_at10 hT1) ?_
  exact does_at k par hM hpn hnd hpl (slW_one hT1) fun g' pn' T' m' hM' hl hle hpl' hN => hK' T' m' ⟨g', pn', hM', fun _ => hl, hle, hpl', hN⟩
 refine zDN (fun K' hK' => w7 _ _ (zBb P) _ _ _ _ _ _ _ _ _ _ _ _ _ _ _ _ _ _ _ _  sa so _ ak i _ _ hes hi (by omega) T hT K' hK') fun T1 hT1 => ?_
 by_cases hoi : os.length ≤ i
 ·refine zDN (fun K' hK' => w8a _ _ (zBb P) _ _ _ _ _ _ _ _ _ _ _ _ _ _ _ _ _ _ _ _  sa so _ ak i _ _ hes os.length hon par.o.len hi (by omega) hoi T1 hT1 K' hK') fun T2 hT2 => ?_
  refine seqP (fun T' m' => ∃ g' pn', Mid g' pn' ak ∧ (os.length ≤ i → g.LF ≠ [] → g'.LF.length + 1 ≤ g.LF.length) ∧ g'.LF.length ≤ g.LF.length ∧ g'.LO.length ≤ 9 ∧ Near oa oo st g' (slW sa so (tV 19 g'.tl) ak i []) T' m') (fun K' hK' => ?_) (fun T' m' ⟨g', pn', hM', hl, hle, hpl', hN⟩ => nearN hN fun T3 hT3 => hc g' pn' T3 hM' hl hle hpl' hT3)
  exact zDN (fun K2 hK2 => w9a _ _ (zBb P) _ _ _ _ _ _ _ _ _ _ _ _ _ _ _ _ _ _ _ _  sa so _ ak i _ _ hes os.length hon par.o.len hi (by omega) hoi i T2 hT2 K2 hK2) fun T3 hT3 => fin i (by omega) T3 hT3 K' hK'
 ·obtain ⟨eo1, eo2⟩ := par.o.get (show i < os.length by omega)
  have hb := par.ol _ (List.getElem_mem (show i < os.length by omega))
  have hnth := nth_vU (kd := .u8) (show i < os.length by omega)
  have hw8 : ∀ K' : Ex → zAa → Mem → Prop, (∀ T', zAG T' (slW sa so (tV 19 g.tl) ak i [(s19, .int .i64 ((os[i] : Nat) : Int))]) → K' .normal T' (gM oa oo st g)) → code pA (cfL P) Ys.none c3q8 T1 (gM oa oo st g) K' := by
   clear fin hc par
   subst eo1; subst eo2
   exact fun K' hK' => w8b _ _ (zBb P) _ _ _ _ _ _ _ _ _ _ _ _ _ _ _ _ _ _ _  sa _ ak i _ _ hes hi (by omega) os.length os.length os[i] hon (vU .u8 os) (by omega) hb hnth T1 hT1 K' hK'
  refine zDN hw8 fun T2 hT2 => ?_
  refine seqP (fun T' m' => ∃ g' pn', Mid g' pn' ak ∧ (os.length ≤ i → g.LF ≠ [] → g'.LF.length + 1 ≤ g.LF.length) ∧ g'.LF.length ≤ g.LF.length ∧ g'.LO.length ≤ 9 ∧ Near oa oo st g' (slW sa so (tV 19 g'.tl) ak i []) T' m') (fun K' hK' => ?_) (fun T' m' ⟨g', pn', hM', hl, hle, hpl', hN⟩ => nearN hN fun T3 hT3 => hc g' pn' T3 hM' hl hle hpl' hT3)
  by_cases h3 : os[i] % 3 = 0
  ·have hw9 : ∀ K' : Ex → zAa → Mem → Prop, (∀ T', zAG T' (slW sa so (tV 19 g.tl) ak i [(s19, .int .i64 ((os[i] : Nat) : Int)), (s200, .bool false)]) → K' .normal T' (gM oa oo st g)) → code pA (cfL P) Ys.none c3q9 T2 (gM oa oo st g) K' := by
    clear fin hc par hK' hw8
    subst eo1; subst eo2
    exact fun K' hK' => w9c _ _ (zBb P) _ _ _ _ _ _ _ _ _ _ _ _ _ _ _ _ _ _ _  sa _ ak i _ _ hes hi (by omega) os.length os.length os[i] hon (vU .u8 os) (by omega) hb hnth os[i] h3 T2 hT2 K' hK'
   exact zDN hw9 fun T3 hT3 => .condF (show T3.get s200 = .bool false from slW_at10 hT3) (skipN (hK' T3 _ ⟨g, pn, hM, fun h => absurd h hoi, Nat.le_refl _, hpl, zGe (zEu hT3)⟩))
  ·have hw9 : ∀ K' : Ex → zAa → Mem → Prop, (∀ T', zAG T' (slW sa so (tV 19 g.tl) ak i [(s19, .int .i64 ((os[i] : Nat) : Int)), (s200, .bool true)]) → K' .normal T' (gM oa oo st g)) → code pA (cfL P) Ys.none c3q9 T2 (gM oa oo st g) K' := by
    clear fin hc par hK' hw8
    subst eo1; subst eo2
    exact fun K' hK' => w9b _ _ (zBb P) _ _ _ _ _ _ _ _ _ _ _ _ _ _ _ _ _ _ _  sa _ ak i _ _ hes hi (by omega) os.length os.length os[i] hon (vU .u8 os) (by omega) hb hnth os[i] h3 T2 hT2 K' hK'
   exact zDN hw9 fun T3 hT3 => fin os[i] (by omega) T3 hT3 K' hK'
theorem repl_step {LF LO : List It} {A : Nat → zAe} {D : Nat → List Nat} {q qo l : Nat} {z : Bool} {c : Nat} {OX : List V} {r : List zEq} {al : EnG} {ca : Nat} {tl : List (List Nat)} {ak i : Nat} {kk e : Nat} {x : It} {d : List Nat} (hr : r[kk]? = some (e, x.ck, d)) (hrl : r.length ≤ 100) (hLO : LO.length ≤ 10) (hxm : x ∈ LO) (hnd : NdC LO) (hrg : RgtOk e (rqT x.n) (rqO x.n) (rqN x.n) d.length) (htd : Told al tl x d) (htl : tl.length ≤ 100) (hck : x.ck ≤ 1000) (hlow : LowG oa oo ⟨LF, LF, (rmI x.ck LO), A, D, q, qo, l, z, c, OX, [], [], (rO r), al, ca, tl⟩)
  {T : zAa} (hT : zAG T (slW sa so (tV 19 tl) ak i [(s20, rvO 20 r), (s21, .int .i64 ((kk : Nat) : Int))])) {K : Ex → zAa → Mem → Prop}
  (hK : ∀ T' m', Near oa oo st ⟨LF, LF, (rmI x.ck LO), A, D, q, qo, l, z, c, OX, [], [], (rO r), al, ca, tl⟩ (slW sa so (tV 19 tl) ak i [(s20, rvO 20 r), (s21, .int .i64 (((kk + 1) : Nat) : Int))]) T' m' → K .normal T' m') :
  zAR P (cfL P) Ys.none 2 c3l1 T (gM oa oo st ⟨LF, LF, LO, A, D, q, qo, l, z, c, OX, [], [], (rO r), al, ca, tl⟩) K := by
 have va := par.a.lowV (.inl rfl)
 have vo := par.o.lowV (.inr rfl)
 have hp8 := hlow.F
 have hes : (enG .u64 (oL LO)).length ≤ 1000 := by rw [zBn]; omega
 have hof := zC5 x.n
 have hln := zCM x.n
 have hkr := (List.getElem?_eq_some_iff.1 hr).1
 obtain ⟨a1, a2, a3⟩ := rep_at hr
 have hlo := lG_some (kd := .u64) (z := .agg [.int .u16 0, .int .u16 0, .int .u64 0, .int .u64 0, .int .u32 0, .str []]) (get_o hnd hxm)
 have hdl := dG_some (kd := .u64) (get_o hnd hxm)
 rw [del_o] at hdl
 have hg : zAw (LAw P) (fn 17) [.agg [.int .u32 ((e : Nat) : Int), .int .u64 ((x.ck : Nat) : Int), .str d], rqV x.n] (y22 oa oo (cB st [] q 3 .nilslice) (.map (enG .u64 (fL (fun p => 4 + p) LF)) q false) (A 0) (A 1) (A 2) (A 3) (A 4) (A 5) (A 6) (A 7) (.cells (xL D (.ptr 13 0) (hvV z LF.length 16)) false) (zA4 st l (ovV z c 15) 14 [] false) (.map (enG .i64 (fmL LF)) l false) (dO z OX) (dO z (zAo LF)) (.map (enG .u64 (oL LO)) qo false) (.map (enG .u64 al) ca false) (tO tl) (rO r) (bxN x.n)) (.bool true) (y22 oa oo (cB st [] q 3 .nilslice) (.map (enG .u64 (fL (fun p => 4 + p) LF)) q false) (A 0) (A 1) (A 2) (A 3) (A 4) (A 5) (A 6) (A 7) (.cells (xL D (.ptr 13 0) (hvV z LF.length 16)) false) (zA4 st l (ovV z c 15) 14 [] false) (.map (enG .i64 (fmL LF)) l false) (dO z OX) (dO z (zAo LF)) (.map (enG .u64 (oL LO)) qo false) (.map (enG .u64 al) ca false) (tO tl) (rO r) (bxN x.n)) := up17 (cal_Fn (rgS_y hrg))
 have hfit : Fits oa oo st ⟨LF, LF, (rmI x.ck LO), A, D, q, qo, l, z, c, OX, [], [], (rO r), al, ca, tl⟩ (y22 oa oo (cB st [] q 3 .nilslice) (.map (enG .u64 (fL (fun p => 4 + p) LF)) q false) (A 0) (A 1) (A 2) (A 3) (A 4) (A 5) (A 6) (A 7) (.cells (xL D (.ptr 13 0) (hvV z LF.length 16)) false) (zA4 st l (ovV z c 15) 14 [] false) (.map (enG .i64 (fmL LF)) l false) (dO z OX) (dO z (zAo LF)) (.map (enG .u64 (oL (rmI x.ck LO))) qo false) (.map (enG .u64 al) ca false) (tO tl) (rO r) (bxN x.n)) (zAJ [0, 1, 2, 3, 4, 5, 6, 7, 8, 9, 10, 11, 12, 13, 14, 15, 16, 17, 18, 19, 20]) := ⟨by kernel_rfl, by kernel_rfl, by kernel_rfl, fit3 ⟨rfl, rfl, rfl, rfl, rfl, rfl, rfl, rfl⟩ hp8 (by kernel_rfl), fun j hj => by rcases k8 hj with rfl | rfl | rfl | rfl | rfl | rfl | rfl | rfl <;> exact .inl (by kernel_rfl), by kernel_rfl, by kernel_rfl, by kernel_rfl, by kernel_rfl, by kernel_rfl, by kernel_rfl, by kernel_rfl, by kernel_rfl, .inl (by kernel_rfl)⟩
 have hren := zIV (q := [0, 1, 2, 3, 4, 5, 6, 7, 8, 9, 10, 11, 12, 13, 14, 15, 16, 17, 18, 19, 20]) rfl rfl hlow hfit
 have hrv : (rvO 20 r).back [0, 1, 2, 3, 4, 5, 6, 7, 8, 9, 10, 11, 12, 13, 14, 15, 16, 17, 18, 19, 20] = rvO 20 r := by unfold rvO; split <;> rfl
 have hend : ∀ T1, zAG T1 (slR 18 sa so (tV 19 tl) ak i [(s20, rvO 20 r), (s21, .int .i64 (((kk + 1) : Nat) : Int))]) → K .normal T1 (y22 oa oo (cB st [] q 3 .nilslice) (.map (enG .u64 (fL (fun p => 4 + p) LF)) q false) (A 0) (A 1) (A 2) (A 3) (A 4) (A 5) (A 6) (A 7) (.cells (xL D (.ptr 13 0) (hvV z LF.length 16)) false) (zA4 st l (ovV z c 15) 14 [] false) (.map (enG .i64 (fmL LF)) l false) (dO z OX) (dO z (zAo LF)) (.map (enG .u64 (oL (rmI x.ck LO))) qo false) (.map (enG .u64 al) ca false) (tO tl) (rO r) (bxN x.n)) := fun T1 hT1 => hK T1 _ (.inr ⟨_, _, hren, hT1, zDh va vo rfl rfl rfl rfl rfl (zEf fun _ _ _ _ => rfl) (by show (s20, (rvO 20 r).back [0, 1, 2, 3, 4, 5, 6, 7, 8, 9, 10, 11, 12, 13, 14, 15, 16, 17, 18, 19, 20]) :: _ = _; rw [hrv]; rfl)⟩)
 clear hK hren hfit hlow par
 have hr1 : r ≠ [] := fun h => by rw [h] at hkr; exact absurd hkr (Nat.not_lt_zero _)
 rcases htd with h3 | ⟨j, hj, h3, h4⟩
 ·obtain ⟨y, r0, rfl⟩ := List.exists_cons_of_ne_nil hr1
  exact zGn (w_ra _ _ (zBb P) _ _ _ _ _ _ _ _ _ _ _ _ _ _ _ _ _ _  sa so _ ak i _ _ hes (rqT x.n) (rqO x.n) (rqN x.n) (rqD x.n) (zBV x.n) (by omega) (by omega) (y :: r0).length kk e x.ck ca hrl hkr hrg.2.2.2.2.1 hck d (repL (y :: r0)) (enG .u64 al) _ a2 a1 hlo (lG_no h3) hdl hg T hT K hend)
 ·have htne : tl ≠ [] := fun h => by rw [h] at hj; exact absurd hj (Nat.not_lt_zero _)
  have hns := nth_str h4
  obtain ⟨y, r0, rfl⟩ := List.exists_cons_of_ne_nil hr1
  obtain ⟨t0, tl0, rfl⟩ := List.exists_cons_of_ne_nil htne
  exact zGn (w_rb _ _ (zBb P) _ _ _ _ _ _ _ _ _ _ _ _ _ _ _ _ _  sa so ak i _ _ hes (rqT x.n) (rqO x.n) (rqN x.n) (rqD x.n) (zBV x.n) (by omega) (by omega) (t0 :: tl0).length j (j + 1) (y :: r0).length kk e x.ck ca hrl hkr hrg.2.2.2.2.1 hck d (repL (y :: r0)) (enG .u64 al) _ a2 a1 hlo (lG_yes h3) hdl (by omega) rfl (by omega) htl hj ((t0 :: tl0).map .str) hns a3 (zF0 _) hg T hT K hend)
theorem repl_part {g : Gs} {pn : List Pn} {ak i : Nat} (hM : Mid g pn ak) (hpl : g.LO.length ≤ 9)
  {T : zAa} (hT : zAG T (slW sa so (tV 19 g.tl) ak i [])) {K : Ex → zAa → Mem → Prop} {cc : zAz}
  (hc : ∀ T', zAG T' (slW sa so (tV 19 g.tl) ak i []) → zAR P (cfL P) Ys.none 2 cc T' (gM oa oo st ⟨g.LF, g.LS, g.LF, g.A, g.D, g.q, g.qo, g.l, g.z, g.c, g.OX, g.ou, [], .dead, g.al, g.ca, g.tl⟩) K) :
  zAR P (cfL P) Ys.none 2 (replC cc) T (gM oa oo st g) K := by
 have va := par.a.lowV (.inl rfl)
 have vo := par.o.lowV (.inr rfl)
 have h0 := par.a.low
 have h1 := par.o.low
 obtain ⟨LF, LS, LO, A, D, q, qo, l, z, c, OX, ou, r, R, al, ca, tl⟩ := g
 have e1 : LF = LS := hM.FS
 have e5 : [] = ou := hM.ou.symm
 have e7 : rO r = R := hM.R.symm
 subst e1; subst e5; subst e7
 have hp8 : ∀ y ∈ LF, y.p < 8 := hM.p8
 have mlA : ∀ j, Low (A j) := hM.lowA
 have mOX : pls OX := hM.OX
 have mal : PlE al := hM.plal
 have hrp : r = pnR pn := hM.rp
 have hpn := hM.pn2
 have hak := hM.akb
 have htl : tl.length ≤ ak := hM.tl
 have hckq : ∀ y ∈ LO, y.ck ≤ q := fun y hy => (hM.ck y hy).2
 have hqa : q = ak := hM.q
 have hes : (enG .u64 (oL LO)).length ≤ 1000 := by rw [zBn]; exact Nat.le_trans hpl (by decide)
 have hrep := replies_con k.mix k.O (nm := [97]) (st := st) (ch := st) (sz := 1024) (ou := []) (q := q) (rv := rvO 11 r) (es := enG .u64 (fL (cp 0) LF)) (R := .dead)
 have hcal := cal16_21 (o0 := oa) (o1 := oo) (a0 := A 0) (a1 := A 1) (a2 := A 2) (a3 := A 3) (a4 := A 4) (a5 := A 5) (a6 := A 6) (a7 := A 7) (ox := .cells (xL D (.ptr 13 0) (hvV z LF.length 16)) false) (os_ := zA4 st l (ovV z c 15) 14 [] false) (om := .map (enG .i64 (fmL LF)) l false) (ob := dO z OX) (oh := dO z (zAo LF)) (o17 := .map (enG .u64 (oL LO)) qo false) (o18 := .map (enG .u64 al) ca false) (o19 := tO tl) (o20 := (rO r)) hp8 hrep
 have hlow : ∀ LO', LowG oa oo ⟨LF, LF, LO', A, D, q, qo, l, z, c, OX, [], [], (rO r), al, ca, tl⟩ := fun LO' => ⟨h0, h1, mlA, mOX, mal, low_rO _, hp8⟩
 refine zDN (fun K' hK' => w10 _ _ (zBb P) _ _ _ _ _ _ _ _ _ _ _ _ _ _ _ _ _ _ _ _ _  sa so _ ak i _ _ hes _ hcal T hT K' hK') fun T1 hT1 => ?_
 have hloop : ∀ T2, zAG T2 (slW sa so (tV 19 tl) ak i [(s20, rvO 20 r), (s21, .int .i64 ((0 : Nat) : Int))]) → zAR P (cfL P) Ys.none 2 (.block 4 (.loop c3l1)) T2 (gM oa oo st ⟨LF, LF, LO, A, D, q, qo, l, z, c, OX, [], [], (rO r), al, ca, tl⟩) fun e T' m' => e = .normal ∧ Near oa oo st ⟨LF, LF, LF, A, D, q, qo, l, z, c, OX, [], [], (rO r), al, ca, tl⟩ (slW sa so (tV 19 tl) ak i []) T' m' := by
  intro T2 hT2
  refine .block (fun e T' m' => e = .exit 4 ∧ Near oa oo st ⟨LF, LF, LF, A, D, q, qo, l, z, c, OX, [], [], (rO r), al, ca, tl⟩ (slW sa so (tV 19 tl) ak i []) T' m') (.loop (fun n T m => ∃ LO' pn' pre, pn'.length = n ∧ zF1 al tl LO' pn' LF ∧ NdC LO' ∧ pn = pre ++ pn' ∧ LO'.length ≤ 10 ∧ (∀ y ∈ LO', y.ck ≤ q) ∧ Near oa oo st ⟨LF, LF, LO', A, D, q, qo, l, z, c, OX, [], [], (rO r), al, ca, tl⟩ (slW sa so (tV 19 tl) ak i [(s20, rvO 20 r), (s21, .int .i64 ((pre.length : Nat) : Int))]) T m) pn.length (Nat.lt_of_lt_of_le (zCv (n := pn.length) (by omega)) (Nat.sub_le _ _)) ⟨LO, pn, [], rfl, hM.pend, hM.ndC, rfl, by show LO.length ≤ 10; have h : LO.length ≤ 9 := hpl; omega, hckq, zGe hT2⟩ ?_) (fun e T' m' hn h => absurd h.1 hn) (fun T' m' h => ⟨rfl, h.2⟩)
  rintro n T3 m3 ⟨LO', pn', pre, hn, hpend, hnd, hpre, hlen, hcq, hN⟩
  refine nearN hN fun T4 hT4 => ?_
  have hes' : (enG .u64 (oL LO')).length ≤ 1000 := by rw [zBn]; omega
  cases pn' with
  | nil =>
   have hLO : LO' = LF := by
    generalize hz : ([] : List Pn) = zz at hpend
    cases hpend with
    | nil => rfl
    | cons _ _ _ _ => cases hz
   subst hLO
   rw [List.append_nil] at hpre
   subst hpre
   have hrl : r.length = pn.length := by rw [hrp]; unfold pnR; rw [List.length_map]
   rw [← hrl] at hT4
   by_cases hr0 : r = []
   ·subst hr0
    exact zGn (w_rn _ _ (zBb P) _ _ _ _ _ _ _ _ _ _ _ _ _ _ _ _ _ _ _ _  sa so _ ak i _ _ hes' T4 hT4 _ fun T' hT' => ⟨rfl, zGe hT'⟩)
   ·have hr2 : r.length ≤ 100 := by omega
    clear hcal hrep hlow hc hM hrp hpend
    obtain ⟨y, r0, rfl⟩ := List.exists_cons_of_ne_nil hr0
    exact zGn (w_re _ _ (zBb P) _ _ _ _ _ _ _ _ _ _ _ _ _ _ _ _ _ _ _ _  sa so _ ak i _ _ hes' (y :: r0).length hr2 T4 hT4 _ fun T' hT' => ⟨rfl, zGe hT'⟩)
  | cons t rest =>
   obtain ⟨x, e, d⟩ := t
   cases hpend with
   | cons hxm hrg htd hrest =>
    have hrk : r[pre.length]? = some (e, x.ck, d) := by
     rw [hrp, hpre]; unfold pnR
     rw [List.map_append, List.getElem?_append_right (by rw [List.length_map]; exact Nat.le_refl _), List.length_map, Nat.sub_self]; rfl
    have hrl : r.length ≤ 100 := by rw [hrp]; unfold pnR; rw [List.length_map]; omega
    have hx1 := hcq x hxm
    refine repl_step k par hrk hrl hlen hxm hnd hrg htd (by omega) (by omega) (hlow _) hT4 fun T5 m5 hN5 => ?_
    refine ⟨rest.length, by rw [← hn]; simp, rmI x.ck LO', rest, pre ++ [(x, e, d)], rfl, hrest, rmI_nd hnd, by rw [hpre, List.append_assoc]; rfl, ?_, fun y hy => hcq y (rmI_sub hy), ?_⟩
    ·have := rmI_len hxm rfl; omega
    ·rw [List.length_append]; exact hN5
 refine .seq (fun e T' m' => e = .normal ∧ Near oa oo st ⟨LF, LF, LF, A, D, q, qo, l, z, c, OX, [], [], (rO r), al, ca, tl⟩ (slW sa so (tV 19 tl) ak i []) T' m') ?_ (fun T' m' h => nearN h.2 fun T5 hT5 => ?_) (fun e T' m' hn h => absurd h.1 hn)
 ·exact zDN (fun K' hK' => w11 _ _ (zBb P) _ _ _ _ _ _ _ _ _ _ _ _ _ _ _ _ _ _ _ _  sa so _ ak i _ _ hes _ T1 hT1 K' hK') fun T2 hT2 => hloop T2 hT2
 ·have hfit : Fits oa oo st ⟨LF, LF, LF, A, D, q, qo, l, z, c, OX, [], [], .dead, al, ca, tl⟩ (y21 oa oo (cB st [] q 3 .nilslice) (.map (enG .u64 (fL (fun p => 4 + p) LF)) q false) (A 0) (A 1) (A 2) (A 3) (A 4) (A 5) (A 6) (A 7) (.cells (xL D (.ptr 13 0) (hvV z LF.length 16)) false) (zA4 st l (ovV z c 15) 14 [] false) (.map (enG .i64 (fmL LF)) l false) (dO z OX) (dO z (zAo LF)) (.map (enG .u64 (oL LF)) qo false) (.map (enG .u64 al) ca false) (tO tl) (rO r)) (zAJ [0, 1, 2, 3, 4, 5, 6, 7, 8, 9, 10, 11, 12, 13, 14, 15, 16, 17, 18, 19, 20]) := ⟨by kernel_rfl, by kernel_rfl, by kernel_rfl, fit3 ⟨rfl, rfl, rfl, rfl, rfl, rfl, rfl, rfl⟩ hp8 (by kernel_rfl), fun j hj => by rcases k8 hj with rfl | rfl | rfl | rfl | rfl | rfl | rfl | rfl <;> exact .inl (by kernel_rfl), by kernel_rfl, by kernel_rfl, by kernel_rfl, by kernel_rfl, by kernel_rfl, by kernel_rfl, by kernel_rfl, by kernel_rfl, .inr rfl⟩
  refine renN (zIV (q := [0, 1, 2, 3, 4, 5, 6, 7, 8, 9, 10, 11, 12, 13, 14, 15, 16, 17, 18, 19, 20]) rfl rfl ⟨h0, h1, mlA, mOX, mal, Low.dead, hp8⟩ hfit) hT5 fun T6 hT6 => hc T6 ?_
  rw [zDh va vo rfl rfl rfl rfl rfl (zEf fun _ _ _ _ => rfl) rfl] at hT6
  exact hT6
end
end Go.Proofs.YtjekgdkaejgpdaaGreat
