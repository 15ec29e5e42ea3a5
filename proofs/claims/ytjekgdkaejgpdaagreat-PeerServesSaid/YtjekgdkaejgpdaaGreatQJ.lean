/- The law's rounds, all, and its end. No condition. -/
import Derived.Test.YtjekgdkaejgpdaaGreatOJ
namespace Go.Proofs.YtjekgdkaejgpdaaGreat
open Go Go.AM
set_option maxRecDepth 100000
set_option maxHeartbeats 4000000
set_option linter.unusedVariables false
set_option linter.unusedSectionVars false
abbrev rndC : zAz := .seq (.block 3 (.seq askC (doesC (replC c3q12)))) c3q13
section
variable {P : Program} (k : zGN P) {acs os : List Nat} {sa so : V} {oa oo : zAe} {st : Bool} (par : Par acs os sa so oa oo)
include k par
theorem round {g : Gs} {q i : Nat} (hM : Mid g [] q) (hi : i < 500) (hakn : q ≤ acs.length) (hgo : q < acs.length ∨ g.LF ≠ [])
  {T : zAa} (hT : zAG T (slW sa so (tV 19 g.tl) q i [])) {K : Ex → zAa → Mem → Prop}
  (hK : ∀ g' ak' T', Mid g' [] ak' → ak' ≤ acs.length → (os.length ≤ i → meas acs.length ak' g'.LF + 1 ≤ meas acs.length q g.LF) → zAG T' (slW sa so (tV 19 g'.tl) ak' (i + 1) []) → K .normal T' (gM oa oo st g')) :
  zAR P (cfL P) Ys.none 2 rndC T (gM oa oo st g) K := by
 refine .seq (fun e T' m' => e = .normal ∧ ∃ g' ak', Mid g' [] ak' ∧ ak' ≤ acs.length ∧ (os.length ≤ i → meas acs.length ak' g'.LF + 1 ≤ meas acs.length q g.LF) ∧ zAG T' (slW sa so (tV 19 g'.tl) ak' i []) ∧ m' = gM oa oo st g') (.block (fun e T' m' => e = .normal ∧ ∃ g' ak', Mid g' [] ak' ∧ ak' ≤ acs.length ∧ (os.length ≤ i → meas acs.length ak' g'.LF + 1 ≤ meas acs.length q g.LF) ∧ zAG T' (slW sa so (tV 19 g'.tl) ak' i []) ∧ m' = gM oa oo st g') ?_ (fun e T' m' _ h => h) (fun T' m' h => nomatch h.1)) ?_ (fun e T' m' hn h => absurd h.1 hn)
 ·refine seqP (fun T' m' => ∃ g' pn ak', Mid g' pn ak' ∧ pn.length ≤ 1 ∧ ak' ≤ acs.length ∧ meas acs.length ak' g'.LF ≤ meas acs.length q g.LF ∧ (os.length ≤ i → meas acs.length ak' g'.LF + 1 ≤ meas acs.length q g.LF ∨ g'.LF ≠ []) ∧ Near oa oo st g' (slW sa so (tV 19 g'.tl) ak' i []) T' m') (fun K' hK' => ask_part k par hM hi hakn hgo hT fun g' pn ak' T' m' a b c d e f => hK' T' m' ⟨g', pn, ak', a, b, c, d, e, f⟩) ?_
  rintro T1 m1 ⟨g1, pn, ak1, hM1, hpn, hak1, hle1, hlt1, hN1⟩
  refine nearN hN1 fun T2 hT2 => ?_
  have hlo : g1.LO.length ≤ 9 := by have h1 := zGR hM1.pend; have h2 := hM1.len; omega
  refine does_part k par hM1 hpn hlo hi hT2 fun g2 pn2 T3 hM2 hl2 hle2 hlo2 hT3 => ?_
  refine repl_part k par hM2 hlo2 hT3 fun T4 hT4 => ?_
  obtain ⟨gg, hgg⟩ : ∃ gg : Gs, gg = ⟨g2.LF, g2.LS, g2.LF, g2.A, g2.D, g2.q, g2.qo, g2.l, g2.z, g2.c, g2.OX, g2.ou, [], .dead, g2.al, g2.ca, g2.tl⟩ := ⟨_, rfl⟩
  have hMg : Mid gg [] ak1 := by
   rw [hgg]
   exact ⟨hM2.FS, hM2.p8, hM2.A, hM2.lowA, hM2.pnd, hM2.len, hM2.tg, hM2.ndT, hM2.ckF, hM2.ndF, hM2.ndF, hM2.ckF, hM2.good, hM2.q, hM2.qo, hM2.akb, hM2.l, hM2.z, hM2.OX, hM2.D, hM2.ou, hM2.plal, hM2.kal, hM2.tl, rfl, rfl, by decide, .nil, hM2.told⟩
  have hLFg : gg.LF = g2.LF := by rw [hgg]
  have hT4' : zAG T4 (slW sa so (tV 19 gg.tl) ak1 i []) := by rw [hgg]; exact hT4
  rw [← hgg]
  have hmeas : os.length ≤ i → meas acs.length ak1 gg.LF + 1 ≤ meas acs.length q g.LF := fun hoi => by
   rw [hLFg]
   have hle1 : 2 * (acs.length - ak1) + g1.LF.length ≤ 2 * (acs.length - q) + g.LF.length := hle1
   show 2 * (acs.length - ak1) + g2.LF.length + 1 ≤ 2 * (acs.length - q) + g.LF.length
   rcases hlt1 hoi with h | h
   ·have h : 2 * (acs.length - ak1) + g1.LF.length + 1 ≤ 2 * (acs.length - q) + g.LF.length := h
    omega
   ·have := hl2 hoi h
    omega
  clear hgg hLFg hT4 hM2 hT3 hlo2 hle2 hl2
  obtain ⟨L, LS, LO, A, D, q', qo, l, z, c, OX, ou, rp, R, al, ca, tl⟩ := gg
  have e1 : L = LS := hMg.FS
  have e2 : L = LO := by
   have hp := hMg.pend
   generalize hpn : ([] : List Pn) = pn at hp
   cases hp with
   | nil => rfl
   | cons _ _ _ _ => cases hpn
  have e3 : ak1 = q' := hMg.q.symm
  have e4 : ak1 = qo := hMg.qo.symm
  have e5 : [] = ou := hMg.ou.symm
  have e6 : [] = rp := hMg.rp.symm
  have e7 : rO rp = R := hMg.R.symm
  subst e1; subst e2; subst e3; subst e4; subst e5; subst e6; subst e7
  have hp8 : ∀ y ∈ L, y.p < 8 := hMg.p8
  have hL8 : L.length ≤ 8 := hMg.len
  have hes : (enG .u64 (oL L)).length ≤ 1000 := by rw [zBn]; omega
  have hfl := flight_con k.mix k.O (nm := [97]) (st := st) (ch := st) (sz := 1024) (ou := []) (q := ak1) (rv := .nilslice) (es := enG .u64 (fL (cp 0) L)) (R := .dead)
  have hov := over_con k.mix k.O (nm := [97]) (st := st) (ch := st) (sz := 1024) (ou := []) (q := ak1) (rv := .nilslice) (es := enG .u64 (fL (cp 0) L)) (R := .dead)
  have hc1 := cal18_21 (o0 := oa) (o1 := oo) (a0 := A 0) (a1 := A 1) (a2 := A 2) (a3 := A 3) (a4 := A 4) (a5 := A 5) (a6 := A 6) (a7 := A 7) (ox := .cells (xL D (.ptr 13 0) (hvV z L.length 16)) false) (os_ := zA4 st l (ovV z c 15) 14 [] false) (om := .map (enG .i64 (fmL L)) l false) (ob := dO z OX) (oh := dO z (zAo L)) (o17 := .map (enG .u64 (oL L)) ak1 false) (o18 := .map (enG .u64 al) ca false) (o19 := tO tl) (o20 := (rO [])) hp8 hfl
  have hc2 := cal19_21 (o0 := oa) (o1 := oo) (a0 := A 0) (a1 := A 1) (a2 := A 2) (a3 := A 3) (a4 := A 4) (a5 := A 5) (a6 := A 6) (a7 := A 7) (ox := .cells (xL D (.ptr 13 0) (hvV z L.length 16)) false) (os_ := zA4 st l (ovV z c 15) 14 [] false) (om := .map (enG .i64 (fmL L)) l false) (ob := dO z OX) (oh := dO z (zAo L)) (o17 := .map (enG .u64 (oL L)) ak1 false) (o18 := .map (enG .u64 al) ca false) (o19 := tO tl) (o20 := (rO [])) hp8 hov
  have elen : (enG .u64 (fL (cp 0) L)).length = (enG .u64 (oL L)).length := by rw [fL_len', zBn]
  rw [elen] at hc1
  exact zGn (w12 _ _ (zBb P) _ _ _ _ _ _ _ _ _ _ _ _ _ _ _ _ _ _ _ _  sa so _ ak1 i _ _ hes hc1 hc2 T4 hT4' _ fun T5 hT5 => ⟨rfl, ⟨L, L, L, A, D, ak1, ak1, l, z, c, OX, [], [], rO [], al, ca, tl⟩, ak1, hMg, hak1, hmeas, hT5, rfl⟩)
 ·rintro T1 m1 ⟨_, g1, ak1, hM1, hak1, hm1, hT1, rfl⟩
  have h100 := hM1.akb
  have hL9 : g1.LO.length ≤ 9 := by have h1 := zGR hM1.pend; have h2 := hM1.len; simp only [List.length_nil] at h1; omega
  have hes : (enG .u64 (oL g1.LO)).length ≤ 1000 := by rw [zBn]; omega
  exact zGn (w13 _ _ (zBb P) _ _ _ _ _ _ _ _ _ _ _ _ _ _ _ _ _ _ _ _  sa so _ ak1 i _ _ hes hi (by omega) T1 hT1 K fun T2 hT2 => hK g1 ak1 T2 hM1 hak1 hm1 hT2)
theorem rounds_all {g0 : Gs} (hM0 : Mid g0 [] 0) (h0 : g0.LF = [])
  {T0 : zAa} (hT0 : zAG T0 (slW sa so (tV 19 g0.tl) 0 0 [])) {K : Ex → zAa → Mem → Prop}
  (hK : ∀ g' i T', Mid g' [] acs.length → g'.LF = [] → zAG T' (slW sa so (tV 19 g'.tl) acs.length i []) → K .normal T' (gM oa oo st g')) :
  zAR P (cfL P) Ys.none 2 (.block 2 (.loop c3l2)) T0 (gM oa oo st g0) K := by
 have han := par.an
 have hon := par.on
 refine .block (fun e T' m' => e = .exit 2 ∧ ∃ g' i, Mid g' [] acs.length ∧ g'.LF = [] ∧ zAG T' (slW sa so (tV 19 g'.tl) acs.length i []) ∧ m' = gM oa oo st g') ?_ (fun e T' m' hn h => absurd h.1 hn) (fun T' m' ⟨_, g', i, a, b, c, d⟩ => by subst d; exact hK g' i T' a b c)
 refine .loop (fun n T m => ∃ g q i, Mid g [] q ∧ q ≤ acs.length ∧ i ≤ 308 ∧ (100 ≤ i → i + meas acs.length q g.LF ≤ 308) ∧ n = 309 - i ∧ zAG T (slW sa so (tV 19 g.tl) q i []) ∧ m = gM oa oo st g) 309 (Nat.lt_of_lt_of_le (zCv (n := 309) (by decide)) (Nat.sub_le _ _)) ⟨g0, 0, 0, hM0, Nat.zero_le _, by decide, fun h => absurd h (by decide), rfl, hT0, rfl⟩ ?_
 rintro n T m ⟨g, q, i, hM, hq, hi, hb, rfl, hT, rfl⟩
 rw [c3l2_eq]
 have hL9 : g.LO.length ≤ 9 := by have h1 := zGR hM.pend; have h2 := hM.len; simp only [List.length_nil] at h1; omega
 have hLO : g.LO.length = g.LF.length := by have h1 := zGR hM.pend; simp only [List.length_nil] at h1; omega
 have hL8 := hM.len
 have hes : (enG .u64 (oL g.LO)).length ≤ 1000 := by rw [zBn]; omega
 have go : ∀ T1, zAG T1 (slW sa so (tV 19 g.tl) q i []) → (q < acs.length ∨ g.LF ≠ []) → zAR P (cfL P) Ys.none 2 rndC T1 (gM oa oo st g) fun e T'' m'' => match e with | .normal => ∃ j, j < 309 - i ∧ ∃ g q i, Mid g [] q ∧ q ≤ acs.length ∧ i ≤ 308 ∧ (100 ≤ i → i + meas acs.length q g.LF ≤ 308) ∧ j = 309 - i ∧ zAG T'' (slW sa so (tV 19 g.tl) q i []) ∧ m'' = gM oa oo st g | e => e = .exit 2 ∧ ∃ g' i, Mid g' [] acs.length ∧ g'.LF = [] ∧ zAG T'' (slW sa so (tV 19 g'.tl) acs.length i []) ∧ m'' = gM oa oo st g' := by
  intro T1 hT1 hgo
  refine round k par hM (by omega) hq hgo hT1 fun g' ak' T' hM' hak' hm' hT' => ?_
  have hL8' := hM'.len
  have hpos : 1 ≤ 2 * (acs.length - q) + g.LF.length := by
   rcases hgo with h | h
   ·omega
   ·have := List.length_pos_iff.2 h; omega
  have hi1 : i + 1 ≤ 308 := by
   by_cases h : 100 ≤ i
   ·have h2 : i + (2 * (acs.length - q) + g.LF.length) ≤ 308 := hb h
    omega
   ·omega
  refine ⟨309 - (i + 1), by omega, g', ak', i + 1, hM', hak', hi1, fun h => ?_, rfl, hT', rfl⟩
  show i + 1 + (2 * (acs.length - ak') + g'.LF.length) ≤ 308
  by_cases h2 : 100 ≤ i
  ·have h3 : i + (2 * (acs.length - q) + g.LF.length) ≤ 308 := hb h2
   have h4 : 2 * (acs.length - ak') + g'.LF.length + 1 ≤ 2 * (acs.length - q) + g.LF.length := hm' (by omega)
   omega
  ·omega
 by_cases hlt : q < acs.length
 ·exact zDN (fun K' hK' => w0a _ _ (zBb P) _ _ _ _ _ _ _ _ _ _ _ _ _ _ _ _ _ _ _ _  sa so _ q i _ _ hes acs.length han par.a.len (by omega) (by omega) hlt T hT K' hK') fun T1 hT1 => go T1 hT1 (.inl hlt)
 ·by_cases hF : g.LF = []
  ·have hqn : q = acs.length := by omega
   subst hqn
   have he0 : (enG .u64 (oL g.LO)).length = 0 := by rw [zBn, hLO, hF]; rfl
   exact .seq (fun e T' m' => e = .exit 2 ∧ zAG T' (slW sa so (tV 19 g.tl) acs.length i []) ∧ m' = gM oa oo st g) (zGn (w0c _ _ (zBb P) _ _ _ _ _ _ _ _ _ _ _ _ _ _ _ _ _ _ _ _  sa so _ acs.length i _ _ hes acs.length han par.a.len (by omega) (by omega) (Nat.le_refl _) he0 T hT _ fun T1 hT1 => ⟨rfl, hT1, rfl⟩)) (fun T' m' h => nomatch h.1) (fun e T' m' _ h => by obtain ⟨rfl, h2, h3⟩ := h; exact ⟨rfl, g, i, hM, hF, h2, h3⟩)
  ·exact zDN (fun K' hK' => w0b _ _ (zBb P) _ _ _ _ _ _ _ _ _ _ _ _ _ _ _ _ _ _ _ _  sa so _ q i _ _ hes acs.length han par.a.len (by omega) (by omega) (by omega) (by rw [zBn, hLO]; exact List.length_pos_iff.2 hF) T hT K' hK') fun T1 hT1 => go T1 hT1 (.inr hF)
theorem law_end {A : Nat → zAe} {D : Nat → List Nat} {l : Nat} {z : Bool} {c : Nat} {OX : List V} {al : EnG} {ca : Nat} {tl : List (List Nat)} {ak i : Nat} (hM : Mid ⟨[], [], [], A, D, ak, ak, l, z, c, OX, [], [], .dead, al, ca, tl⟩ [] ak)
  {T : zAa} (hT : zAG T (slW sa so (tV 19 tl) ak i [])) {K : Ex → zAa → Mem → Prop} (hK : ∀ T' m', T'.get s6 = .bool true → K .ret T' m') :
  zAR P (cfL P) Ys.none 2 (.seq c3p13 (.seq c3p14 (.seq c3p15 .ret))) T (gM oa oo st ⟨[], [], [], A, D, ak, ak, l, z, c, OX, [], [], .dead, al, ca, tl⟩) K := by
 have hak := hM.akb
 have hl : l ≤ ak := hM.l
 have mOX : pls OX := hM.OX
 have hes : (enG .u64 (oL ([] : List It))).length ≤ 1000 := by decide
 have hlv := leave_con k.mix k.O k.rq (st := st) (q := ak) (by omega)
 have hc20 := cal20 (o0 := oa) (o1 := oo) (a0 := A 0) (a1 := A 1) (a2 := A 2) (a3 := A 3) (a4 := A 4) (a5 := A 5) (a6 := A 6) (a7 := A 7) (ox := .cells (xL D (.ptr 13 0) (hvV z ([] : List It).length 16)) false) (os_ := zA4 st l (ovV z c 15) 14 [] false) (om := .map [] l false) (ob := dO z OX) (oh := dO z (zAo ([] : List It))) (o17 := .map [] ak false) (o18 := .map (enG .u64 al) ca false) (o19 := tO tl) (o20 := .dead) hlv
 have hsy := sayL_con k.mix k.O (st := st) (ou := rqL 2 (ak + 1) 0 0 ++ []) (q := ak + 1) (qq := ak)
 have hc9 := cal9L (o0 := oa) (o1 := oo) (a0 := A 0) (a1 := A 1) (a2 := A 2) (a3 := A 3) (a4 := A 4) (a5 := A 5) (a6 := A 6) (a7 := A 7) (ox := .cells (xL D (.ptr 13 0) (hvV z ([] : List It).length 16)) false) (os_ := zA4 st l (ovV z c 15) 14 [] false) (om := .map [] l false) (ob := dO z OX) (oh := dO z (zAo ([] : List It))) (o17 := .map [] ak false) (o18 := .map (enG .u64 al) ca false) (o19 := tO tl) (o20 := .dead) hsy
 have hh := hears_leave k.mix k.O k.bh (D := D) (st := st) (l := l) (z := z) (c := c) (OX := OX) (ck := ak + 1) (by omega) (by omega)
 have hc8 : zAw (LAw P) (fn 8) [.ptr 12 0, .str (rqL 2 (ak + 1) 0 0 ++ [])] (y21 oa oo (clL 3 st [] (ak + 1)) (.map [] ak false) (A 0) (A 1) (A 2) (A 3) (A 4) (A 5) (A 6) (A 7) (.cells (xL D (.ptr 13 0) (hvV z ([] : List It).length 16)) false) (zA4 st l (ovV z c 15) 14 [] false) (.map [] l false) (dO z OX) (dO z (zAo ([] : List It))) (.map [] ak false) (.map (enG .u64 al) ca false) (tO tl) .dead) (.str []) (y21 oa oo (clL 3 st [] (ak + 1)) (.map [] ak false) (A 0) (A 1) (A 2) (A 3) (A 4) (A 5) (A 6) (A 7) (.cells (xL D (.ptr 13 0) (hvV z ([] : List It).length 16)) false) (zA4 st l (ovV z c 15) 14 [] true) (.map [] l false) (dO z OX) (dO z (zAo ([] : List It))) (.map [] ak false) (.map (enG .u64 al) ca false) (tO tl) .dead) := by
  cases z with
  | true => exact cal8_l mOX hh
  | false => exact cal8_l mOX hh
 have hov := overL_con k.mix k.O (st := st) (ou := []) (q := ak + 1) (qq := ak)
 have hc19 := cal19L (o0 := oa) (o1 := oo) (a0 := A 0) (a1 := A 1) (a2 := A 2) (a3 := A 3) (a4 := A 4) (a5 := A 5) (a6 := A 6) (a7 := A 7) (ox := .cells (xL D (.ptr 13 0) (hvV z ([] : List It).length 16)) false) (os_ := zA4 st l (ovV z c 15) 14 [] true) (om := .map [] l false) (ob := dO z OX) (oh := dO z (zAo ([] : List It))) (o17 := .map [] ak false) (o18 := .map (enG .u64 al) ca false) (o19 := tO tl) (o20 := .dead) hov
 have hc21 : zAw (LAw P) (fn 21) [.ptr 13 0] (y21 oa oo (clL 3 st [] (ak + 1)) (.map [] ak false) (A 0) (A 1) (A 2) (A 3) (A 4) (A 5) (A 6) (A 7) (.cells (xL D (.ptr 13 0) (hvV z ([] : List It).length 16)) false) (zA4 st l (ovV z c 15) 14 [] true) (.map [] l false) (dO z OX) (dO z (zAo ([] : List It))) (.map [] ak false) (.map (enG .u64 al) ca false) (tO tl) .dead) (.bool true) (y21 oa oo (clL 3 st [] (ak + 1)) (.map [] ak false) (A 0) (A 1) (A 2) (A 3) (A 4) (A 5) (A 6) (A 7) (.cells (xL D (.ptr 13 0) (hvV z ([] : List It).length 16)) false) (zA4 st l (ovV z c 15) 14 [] true) (.map [] l false) (dO z OX) (dO z (zAo ([] : List It))) (.map [] ak false) (.map (enG .u64 al) ca false) (tO tl) .dead) := by
  cases z with
  | true => exact cal21t (zIK k.mix k.O (ov := ovV true c 2))
  | false => exact cal21f (zIK k.mix k.O (ov := ovV false c 2))
 have hx := x_1 D (.ptr 13 0) (hvV z ([] : List It).length 16)
 have hgm : gM oa oo st ⟨[], [], [], A, D, ak, ak, l, z, c, OX, [], [], .dead, al, ca, tl⟩ = (y21 oa oo (cB st [] ak 3 .nilslice) (.map [] ak false) (A 0) (A 1) (A 2) (A 3) (A 4) (A 5) (A 6) (A 7) (.cells (xL D (.ptr 13 0) (hvV z ([] : List It).length 16)) false) (zA4 st l (ovV z c 15) 14 [] false) (.map [] l false) (dO z OX) (dO z (zAo ([] : List It))) (.map [] ak false) (.map (enG .u64 al) ca false) (tO tl) .dead) := by kernel_rfl
 rw [hgm]
 clear hgm
 generalize rqL 2 (ak + 1) 0 0 ++ [] = b at hc20 hc9 hc8
 generalize xL D (.ptr 13 0) (hvV z ([] : List It).length 16) = XL at hc20 hc9 hc8 hc19 hc21 hx ⊢
 refine zDN (fun K' hK' => l13 _ _ (zBb P) _ _ _ _ _ _ _ _ _ _ _ _ _ _ _ _ _ _ _ _ _  sa so _ ak i _ _ hes hc20 T hT K' hK') fun T1 hT1 => ?_
 refine zDN (fun K' hK' => l14 _ _ (zBb P) _ _ _ _ _ _ _ _ _ _ _ _ _ _ _ _ _ _ _ _ _ _  sa so _ ak i _ _ hes _ _ hc9 hc8 T1 hT1 K' hK') fun T2 hT2 => ?_
 refine zDN (fun K' hK' => l15 _ _ (zBb P) _ _ _ _ _ _ _ _ _ _ _ _ _ _ _ _ _ _ _  sa so _ ak i _ _ hes _ hx rfl hc19 hc21 T2 hT2 K' hK') fun T3 hT3 => ?_
 exact zGn (hK T3 _ hT3.1)
end
end Go.Proofs.YtjekgdkaejgpdaaGreat
