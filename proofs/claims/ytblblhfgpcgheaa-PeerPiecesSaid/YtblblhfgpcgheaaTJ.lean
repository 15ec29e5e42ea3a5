/- The loop over pieces. No condition. -/
import Derived.Test.YtblblhfgpcgheaaSJ
namespace Go.Proofs.Ytblblhfgpcgheaa
open Go Go.AM
set_option maxRecDepth 100000
set_option maxHeartbeats 4000000
set_option linter.unusedVariables false
set_option linter.unusedSectionVars false
theorem rvR_ren {σ : Nat → Nat} {R R' : Nat} (h : σ R = R') (r : Reps) : (rvR R r).ren σ = rvR R' r := by
 subst h
 show (if r = [] then V.nilslice else _).ren σ = (if r = [] then V.nilslice else _)
 split <;> rfl
theorem rC_set {r r' : Reps} (h : r'.length = r.length) (τ : Nat → Nat) : (bif (rC r).live then (rC r').ren τ else rC r) = rC r' := by
 rw [rC_ren]
 cases r with
 | nil =>
  have : r' = [] := List.length_eq_zero_iff.1 h
  subst this; rfl
 | cons x r =>
  have : rC (x :: r) = .cells (repV (x :: r)) false := if_neg (by simp)
  rw [this]; rfl
theorem rC_gone {r : Reps} : (bif (rC r).live then AObj.dead else rC r) = .dead := by
 cases r with
 | nil => rfl
 | cons x r =>
  have : rC (x :: r) = .cells (repV (x :: r)) false := if_neg (by simp)
  rw [this]; rfl
section
variable {P : Program} {oa ol op x1 y1 x2 y2 r23 : AObj} {a dd : Nat → AObj} {W : Cli} {c d : Cst} {b : List Nat} (hc : ∀ x ∈ c.fl, 1 ≤ x.1 ∧ x.1 ≤ 8) (hd : ∀ x ∈ d.fl, 1 ≤ x.1 ∧ x.1 ≤ 8) (hn : ∀ j, getF j c.fl = none → getF j d.fl = none)
abbrev clc (W : Cli) (b R : Nat) (c : Cst) : AObj := clM W b c.over c.inb (rvR R c.rep)
abbrev mpc (W : Cli) (p : Nat → Nat) (c : Cst) : AObj := .map (enF p c.fl) W.q false
include hc hd hn
theorem cal8_1s (h0 : c.rep = []) (hr : d.rep.length = c.rep.length) (h : ConOk P 8 (kS W c b d)) : CalOk (LAw P) (fn 8) [.ptr 3 0, .str b] (mk23 oa ol op (clc W 4 23 c) (mpc W pA6 c) x2 y2 (aF W c.fl) dd ) (.tuple []) (mk23 oa ol op (clc W 4 23 d) (mpc W pA6 d) x2 y2 (aF W d.fl) dd ) := by
 have hd0 : d.rep = [] := List.length_eq_zero_iff.1 (by rw [hr, h0]; rfl)
 have t0 : ∀ x, x < 11 → (kS W c b d).tau (nthD nf1) 23 x = nthD nf1 x := fun x hx => by
  show (bif Nat.blt x 11 then nthD nf1 x else _) = _
  rw [nblt_iff.2 hx, cond_true]
 have hp : preOkG (nthD nf1) (mk23 oa ol op (clc W 4 23 c) (mpc W pA6 c) x2 y2 (aF W c.fl) dd ) 0 (bl11 W c) := by
  obtain ⟨ov, inb, fl, r⟩ := c
  have h0 : r = [] := h0
  subst h0
  refine ⟨.inr ?_, .inr ?_, .inl rfl, .inr ?_, .inr ?_, .inr ?_, .inr ?_, .inr ?_, .inr ?_, .inr ?_, .inr ?_, trivial⟩
  ·rw [clV_ren2 W _ _ (b := 4) rfl (rv' := .nilslice) rfl]; kernel_rfl
  ·rw [map_ren2 (p' := pA6) fun z hz => nf1_p (hc z hz)]; kernel_rfl
  all_goals (show _ = some ((aoO _ _ _).ren _); rw [aoO_ren]; kernel_rfl)
 refine up8 (cal_G (l := nf1) h (kS_wf hc hd) rfl rfl hp rfl ?_)
 have key := memG_F fam23 (C := kS W c b d) (σ := nthD nf1) (f := fL [oa, ol, op, (clc W 4 23 c), (mpc W pA6 c), x2, y2, ((aF W c.fl) 1), ((aF W c.fl) 2), ((aF W c.fl) 3), ((aF W c.fl) 4), ((aF W c.fl) 5), ((aF W c.fl) 6), ((aF W c.fl) 7), ((aF W c.fl) 8), (dd 1), (dd 2), (dd 3), (dd 4), (dd 5), (dd 6), (dd 7), (dd 8)]) (g := fL [oa, ol, op, (clc W 4 23 d), (mpc W pA6 d), x2, y2, ((aF W d.fl) 1), ((aF W d.fl) 2), ((aF W d.fl) 3), ((aF W d.fl) 4), ((aF W d.fl) 5), ((aF W d.fl) 6), ((aF W d.fl) 7), ((aF W d.fl) 8), (dd 1), (dd 2), (dd 3), (dd 4), (dd 5), (dd 6), (dd 7), (dd 8)]) (fun j p hj hl => ?_) ?_
 ·exact key
 ·match j, hj with
  | 0, _ => exact (by decide : 3 < 23)
  | 1, _ => exact (by decide : 4 < 23)
  | 2, hj =>
   have e : rC c.rep = p := by injection hj
   rw [h0] at e
   subst e; cases hl
  | 3, _ => exact (by decide : 7 < 23)
  | 4, _ => exact (by decide : 8 < 23)
  | 5, _ => exact (by decide : 9 < 23)
  | 6, _ => exact (by decide : 10 < 23)
  | 7, _ => exact (by decide : 11 < 23)
  | 8, _ => exact (by decide : 12 < 23)
  | 9, _ => exact (by decide : 13 < 23)
  | 10, _ => exact (by decide : 14 < 23)
  | n + 11, hj => exact absurd hj (by simp)
 ·intro x hx
  generalize hτ : (kS W c b d).tau (nthD nf1) 23 = τ at t0  ⊢
  match x, hx with
  | 0, _ => rfl
  | 1, _ => rfl
  | 2, _ => rfl
  | 3, _ =>
   show (AObj.cells (clV W d.over d.inb (rvR 2 d.rep)) false).ren τ = clM W 4 d.over d.inb (rvR 23 d.rep)
   rw [hd0]; exact clV_ren2 W _ _ (t0 1 (by decide)) rfl
  | 4, _ =>
   refine map_ren2 fun z hz => ?_
   have h1 := hd z hz
   rw [t0 _ (by show 2 + z.1 < 11; omega)]; exact nf1_p h1
  | 5, _ => rfl
  | 6, _ => rfl
  | 7, _ => exact live_or (hn 1) τ
  | 8, _ => exact live_or (hn 2) τ
  | 9, _ => exact live_or (hn 3) τ
  | 10, _ => exact live_or (hn 4) τ
  | 11, _ => exact live_or (hn 5) τ
  | 12, _ => exact live_or (hn 6) τ
  | 13, _ => exact live_or (hn 7) τ
  | 14, _ => exact live_or (hn 8) τ
  | 15, _ => rfl
  | 16, _ => rfl
  | 17, _ => rfl
  | 18, _ => rfl
  | 19, _ => rfl
  | 20, _ => rfl
  | 21, _ => rfl
  | 22, _ => rfl
  | n + 23, h => omega
theorem cal8_1n (h0 : c.rep = []) (h : ConOk P 8 (kN W c b d)) : CalOk (LAw P) (fn 8) [.ptr 3 0, .str b] (mk23 oa ol op (clc W 4 23 c) (mpc W pA6 c) x2 y2 (aF W c.fl) dd ) (.tuple []) (mk24 oa ol op (clc W 4 23 d) (mpc W pA6 d) x2 y2 (aF W d.fl) dd (.cells (repV d.rep) false)) := by
 have t0 : ∀ x, x < 11 → (kN W c b d).tau (nthD nf1) 23 x = nthD nf1 x := fun x hx => by
  show (bif Nat.blt x 11 then nthD nf1 x else _) = _
  rw [nblt_iff.2 hx, cond_true]
 have t11 : (kN W c b d).tau (nthD nf1) 23 11 = 23 := rfl
 have hp : preOkG (nthD nf1) (mk23 oa ol op (clc W 4 23 c) (mpc W pA6 c) x2 y2 (aF W c.fl) dd ) 0 (bl11 W c) := by
  obtain ⟨ov, inb, fl, r⟩ := c
  have h0 : r = [] := h0
  subst h0
  refine ⟨.inr ?_, .inr ?_, .inl rfl, .inr ?_, .inr ?_, .inr ?_, .inr ?_, .inr ?_, .inr ?_, .inr ?_, .inr ?_, trivial⟩
  ·rw [clV_ren2 W _ _ (b := 4) rfl (rv' := .nilslice) rfl]; kernel_rfl
  ·rw [map_ren2 (p' := pA6) fun z hz => nf1_p (hc z hz)]; kernel_rfl
  all_goals (show _ = some ((aoO _ _ _).ren _); rw [aoO_ren]; kernel_rfl)
 refine up8 (cal_G (l := nf1) h (kN_wf hc hd) rfl rfl hp rfl ?_)
 have key := memG_F fam23 (C := kN W c b d) (σ := nthD nf1) (f := fL [oa, ol, op, (clc W 4 23 c), (mpc W pA6 c), x2, y2, ((aF W c.fl) 1), ((aF W c.fl) 2), ((aF W c.fl) 3), ((aF W c.fl) 4), ((aF W c.fl) 5), ((aF W c.fl) 6), ((aF W c.fl) 7), ((aF W c.fl) 8), (dd 1), (dd 2), (dd 3), (dd 4), (dd 5), (dd 6), (dd 7), (dd 8)]) (g := fL [oa, ol, op, (clc W 4 23 d), (mpc W pA6 d), x2, y2, ((aF W d.fl) 1), ((aF W d.fl) 2), ((aF W d.fl) 3), ((aF W d.fl) 4), ((aF W d.fl) 5), ((aF W d.fl) 6), ((aF W d.fl) 7), ((aF W d.fl) 8), (dd 1), (dd 2), (dd 3), (dd 4), (dd 5), (dd 6), (dd 7), (dd 8)]) (fun j p hj hl => ?_) ?_
 ·refine key.trans ?_
  show (mk23 oa ol op (clc W 4 23 d) (mpc W pA6 d) x2 y2 (aF W d.fl) dd ).new ((AObj.cells (repV d.rep) false).ren _) = _
  rw [show (AObj.cells (repV d.rep) false).ren ((kN W c b d).tau (nthD nf1) 23) = .cells (repV d.rep) false from congrArg (fun c => AObj.cells c false) (rens_repV _ _)]
  kernel_rfl
 ·match j, hj with
  | 0, _ => exact (by decide : 3 < 23)
  | 1, _ => exact (by decide : 4 < 23)
  | 2, hj =>
   have e : rC c.rep = p := by injection hj
   rw [h0] at e
   subst e; cases hl
  | 3, _ => exact (by decide : 7 < 23)
  | 4, _ => exact (by decide : 8 < 23)
  | 5, _ => exact (by decide : 9 < 23)
  | 6, _ => exact (by decide : 10 < 23)
  | 7, _ => exact (by decide : 11 < 23)
  | 8, _ => exact (by decide : 12 < 23)
  | 9, _ => exact (by decide : 13 < 23)
  | 10, _ => exact (by decide : 14 < 23)
  | n + 11, hj => exact absurd hj (by simp)
 ·intro x hx
  generalize hτ : (kN W c b d).tau (nthD nf1) 23 = τ at t0 t11 ⊢
  match x, hx with
  | 0, _ => rfl
  | 1, _ => rfl
  | 2, _ => rfl
  | 3, _ => exact clV_ren2 W _ _ (t0 1 (by decide)) (rvR_ren t11 d.rep)
  | 4, _ =>
   refine map_ren2 fun z hz => ?_
   have h1 := hd z hz
   rw [t0 _ (by show 2 + z.1 < 11; omega)]; exact nf1_p h1
  | 5, _ => rfl
  | 6, _ => rfl
  | 7, _ => exact live_or (hn 1) τ
  | 8, _ => exact live_or (hn 2) τ
  | 9, _ => exact live_or (hn 3) τ
  | 10, _ => exact live_or (hn 4) τ
  | 11, _ => exact live_or (hn 5) τ
  | 12, _ => exact live_or (hn 6) τ
  | 13, _ => exact live_or (hn 7) τ
  | 14, _ => exact live_or (hn 8) τ
  | 15, _ => rfl
  | 16, _ => rfl
  | 17, _ => rfl
  | 18, _ => rfl
  | 19, _ => rfl
  | 20, _ => rfl
  | 21, _ => rfl
  | 22, _ => rfl
  | n + 23, h => omega
theorem cal8_2s (hr : d.rep.length = c.rep.length) (h : ConOk P 8 (kS W c b d)) : CalOk (LAw P) (fn 8) [.ptr 5 0, .str b] (mk25 oa ol op x1 y1 (clc W 6 24 c) (mpc W pA14 c) a (aF W c.fl) r23 (rC c.rep)) (.tuple []) (mk25 oa ol op x1 y1 (clc W 6 24 d) (mpc W pA14 d) a (aF W d.fl) r23 (rC d.rep)) := by
 have t0 : ∀ x, x < 11 → (kS W c b d).tau (nthD nf2) 25 x = nthD nf2 x := fun x hx => by
  show (bif Nat.blt x 11 then nthD nf2 x else _) = _
  rw [nblt_iff.2 hx, cond_true]
 have hp : preOkG (nthD nf2) (mk25 oa ol op x1 y1 (clc W 6 24 c) (mpc W pA14 c) a (aF W c.fl) r23 (rC c.rep)) 0 (bl11 W c) := by
  refine ⟨.inr ?_, .inr ?_, ?_, .inr ?_, .inr ?_, .inr ?_, .inr ?_, .inr ?_, .inr ?_, .inr ?_, .inr ?_, trivial⟩
  ·rw [clV_ren2 W _ _ (b := 6) rfl (rvR_ren (R' := 24) rfl c.rep)]; kernel_rfl
  ·rw [map_ren2 (p' := pA14) fun z hz => nf2_p (hc z hz)]; kernel_rfl
  ·refine .inr ?_
   rw [rC_ren]; kernel_rfl
  all_goals (show _ = some ((aoO _ _ _).ren _); rw [aoO_ren]; kernel_rfl)
 refine up8 (cal_G (l := nf2) h (kS_wf hc hd) rfl rfl hp rfl ?_)
 have key := memG_F fam25 (C := kS W c b d) (σ := nthD nf2) (f := fL [oa, ol, op, x1, y1, (clc W 6 24 c), (mpc W pA14 c), (a 1), (a 2), (a 3), (a 4), (a 5), (a 6), (a 7), (a 8), ((aF W c.fl) 1), ((aF W c.fl) 2), ((aF W c.fl) 3), ((aF W c.fl) 4), ((aF W c.fl) 5), ((aF W c.fl) 6), ((aF W c.fl) 7), ((aF W c.fl) 8), r23, (rC c.rep)]) (g := fL [oa, ol, op, x1, y1, (clc W 6 24 d), (mpc W pA14 d), (a 1), (a 2), (a 3), (a 4), (a 5), (a 6), (a 7), (a 8), ((aF W d.fl) 1), ((aF W d.fl) 2), ((aF W d.fl) 3), ((aF W d.fl) 4), ((aF W d.fl) 5), ((aF W d.fl) 6), ((aF W d.fl) 7), ((aF W d.fl) 8), r23, (rC d.rep)]) (fun j p hj hl => ?_) ?_
 ·exact key
 ·match j, hj with
  | 0, _ => exact (by decide : 5 < 25)
  | 1, _ => exact (by decide : 6 < 25)
  | 2, _ => exact (by decide : 24 < 25)
  | 3, _ => exact (by decide : 15 < 25)
  | 4, _ => exact (by decide : 16 < 25)
  | 5, _ => exact (by decide : 17 < 25)
  | 6, _ => exact (by decide : 18 < 25)
  | 7, _ => exact (by decide : 19 < 25)
  | 8, _ => exact (by decide : 20 < 25)
  | 9, _ => exact (by decide : 21 < 25)
  | 10, _ => exact (by decide : 22 < 25)
  | n + 11, hj => exact absurd hj (by simp)
 ·intro x hx
  generalize hτ : (kS W c b d).tau (nthD nf2) 25 = τ at t0  ⊢
  match x, hx with
  | 0, _ => rfl
  | 1, _ => rfl
  | 2, _ => rfl
  | 3, _ => rfl
  | 4, _ => rfl
  | 5, _ => exact clV_ren2 W _ _ (t0 1 (by decide)) (rvR_ren (t0 2 (by decide)) d.rep)
  | 6, _ =>
   refine map_ren2 fun z hz => ?_
   have h1 := hd z hz
   rw [t0 _ (by show 2 + z.1 < 11; omega)]; exact nf2_p h1
  | 7, _ => rfl
  | 8, _ => rfl
  | 9, _ => rfl
  | 10, _ => rfl
  | 11, _ => rfl
  | 12, _ => rfl
  | 13, _ => rfl
  | 14, _ => rfl
  | 15, _ => exact live_or (hn 1) τ
  | 16, _ => exact live_or (hn 2) τ
  | 17, _ => exact live_or (hn 3) τ
  | 18, _ => exact live_or (hn 4) τ
  | 19, _ => exact live_or (hn 5) τ
  | 20, _ => exact live_or (hn 6) τ
  | 21, _ => exact live_or (hn 7) τ
  | 22, _ => exact live_or (hn 8) τ
  | 23, _ => rfl
  | 24, _ => exact rC_set hr τ
  | n + 25, h => omega
theorem cal8_2n (h : ConOk P 8 (kN W c b d)) : CalOk (LAw P) (fn 8) [.ptr 5 0, .str b] (mk25 oa ol op x1 y1 (clc W 6 24 c) (mpc W pA14 c) a (aF W c.fl) r23 (rC c.rep)) (.tuple []) (mk26 oa ol op x1 y1 (clc W 6 25 d) (mpc W pA14 d) a (aF W d.fl) r23 .dead (.cells (repV d.rep) false)) := by
 have t0 : ∀ x, x < 11 → (kN W c b d).tau (nthD nf2) 25 x = nthD nf2 x := fun x hx => by
  show (bif Nat.blt x 11 then nthD nf2 x else _) = _
  rw [nblt_iff.2 hx, cond_true]
 have t11 : (kN W c b d).tau (nthD nf2) 25 11 = 25 := rfl
 have hp : preOkG (nthD nf2) (mk25 oa ol op x1 y1 (clc W 6 24 c) (mpc W pA14 c) a (aF W c.fl) r23 (rC c.rep)) 0 (bl11 W c) := by
  refine ⟨.inr ?_, .inr ?_, ?_, .inr ?_, .inr ?_, .inr ?_, .inr ?_, .inr ?_, .inr ?_, .inr ?_, .inr ?_, trivial⟩
  ·rw [clV_ren2 W _ _ (b := 6) rfl (rvR_ren (R' := 24) rfl c.rep)]; kernel_rfl
  ·rw [map_ren2 (p' := pA14) fun z hz => nf2_p (hc z hz)]; kernel_rfl
  ·refine .inr ?_
   rw [rC_ren]; kernel_rfl
  all_goals (show _ = some ((aoO _ _ _).ren _); rw [aoO_ren]; kernel_rfl)
 refine up8 (cal_G (l := nf2) h (kN_wf hc hd) rfl rfl hp rfl ?_)
 have key := memG_F fam25 (C := kN W c b d) (σ := nthD nf2) (f := fL [oa, ol, op, x1, y1, (clc W 6 24 c), (mpc W pA14 c), (a 1), (a 2), (a 3), (a 4), (a 5), (a 6), (a 7), (a 8), ((aF W c.fl) 1), ((aF W c.fl) 2), ((aF W c.fl) 3), ((aF W c.fl) 4), ((aF W c.fl) 5), ((aF W c.fl) 6), ((aF W c.fl) 7), ((aF W c.fl) 8), r23, (rC c.rep)]) (g := fL [oa, ol, op, x1, y1, (clc W 6 25 d), (mpc W pA14 d), (a 1), (a 2), (a 3), (a 4), (a 5), (a 6), (a 7), (a 8), ((aF W d.fl) 1), ((aF W d.fl) 2), ((aF W d.fl) 3), ((aF W d.fl) 4), ((aF W d.fl) 5), ((aF W d.fl) 6), ((aF W d.fl) 7), ((aF W d.fl) 8), r23, .dead]) (fun j p hj hl => ?_) ?_
 ·refine key.trans ?_
  show (mk25 oa ol op x1 y1 (clc W 6 25 d) (mpc W pA14 d) a (aF W d.fl) r23 .dead).new ((AObj.cells (repV d.rep) false).ren _) = _
  rw [show (AObj.cells (repV d.rep) false).ren ((kN W c b d).tau (nthD nf2) 25) = .cells (repV d.rep) false from congrArg (fun c => AObj.cells c false) (rens_repV _ _)]
  kernel_rfl
 ·match j, hj with
  | 0, _ => exact (by decide : 5 < 25)
  | 1, _ => exact (by decide : 6 < 25)
  | 2, _ => exact (by decide : 24 < 25)
  | 3, _ => exact (by decide : 15 < 25)
  | 4, _ => exact (by decide : 16 < 25)
  | 5, _ => exact (by decide : 17 < 25)
  | 6, _ => exact (by decide : 18 < 25)
  | 7, _ => exact (by decide : 19 < 25)
  | 8, _ => exact (by decide : 20 < 25)
  | 9, _ => exact (by decide : 21 < 25)
  | 10, _ => exact (by decide : 22 < 25)
  | n + 11, hj => exact absurd hj (by simp)
 ·intro x hx
  generalize hτ : (kN W c b d).tau (nthD nf2) 25 = τ at t0 t11 ⊢
  match x, hx with
  | 0, _ => rfl
  | 1, _ => rfl
  | 2, _ => rfl
  | 3, _ => rfl
  | 4, _ => rfl
  | 5, _ => exact clV_ren2 W _ _ (t0 1 (by decide)) (rvR_ren t11 d.rep)
  | 6, _ =>
   refine map_ren2 fun z hz => ?_
   have h1 := hd z hz
   rw [t0 _ (by show 2 + z.1 < 11; omega)]; exact nf2_p h1
  | 7, _ => rfl
  | 8, _ => rfl
  | 9, _ => rfl
  | 10, _ => rfl
  | 11, _ => rfl
  | 12, _ => rfl
  | 13, _ => rfl
  | 14, _ => rfl
  | 15, _ => exact live_or (hn 1) τ
  | 16, _ => exact live_or (hn 2) τ
  | 17, _ => exact live_or (hn 3) τ
  | 18, _ => exact live_or (hn 4) τ
  | 19, _ => exact live_or (hn 5) τ
  | 20, _ => exact live_or (hn 6) τ
  | 21, _ => exact live_or (hn 7) τ
  | 22, _ => exact live_or (hn 8) τ
  | 23, _ => rfl
  | 24, _ => exact rC_gone
  | n + 25, h => omega
end
def stp (bs : List Nat) (i : Nat) : Nat := if i < bs.length then 1 + bs.getD i 0 else 1
def apS (w bs : List Nat) : Nat → Nat
 | 0 => 0
 | i + 1 => min w.length (apS w bs i + stp bs i)
def pcS (w bs : List Nat) (i : Nat) : List Nat := (w.take (apS w bs (i + 1))).drop (apS w bs i)
def cS (w bs : List Nat) (c0 : Cst) : Nat → Cst
 | 0 => c0
 | i + 1 => feedC 1032 (cS w bs c0 i) (pcS w bs i)
theorem stp_pos (bs : List Nat) (i : Nat) : 1 ≤ stp bs i := by unfold stp; split <;> omega
theorem ap_le (w bs : List Nat) : ∀ i, apS w bs i ≤ w.length
 | 0 => Nat.zero_le _
 | _ + 1 => Nat.min_le_left _ _
theorem ap_mono (w bs : List Nat) (i : Nat) : apS w bs i ≤ apS w bs (i + 1) := by
 show _ ≤ min _ _
 have := ap_le w bs i
 omega
theorem ap_find (w bs : List Nat) : ∃ R, R ≤ w.length ∧ apS w bs R = w.length ∧ ∀ i, i < R → apS w bs i < w.length := by
 have key : ∀ n, (∃ R, R ≤ n ∧ apS w bs R = w.length ∧ ∀ i, i < R → apS w bs i < w.length) ∨ (n ≤ apS w bs n ∧ ∀ i, i ≤ n → apS w bs i < w.length) := by
  intro n
  induction n with
  | zero =>
   by_cases h : w.length = 0
   ·exact .inl ⟨0, Nat.le_refl _, h.symm, fun i hi => absurd hi (Nat.not_lt_zero _)⟩
   ·exact .inr ⟨Nat.zero_le _, fun i hi => by rw [Nat.le_zero.1 hi]; show 0 < w.length; omega⟩
  | succ n ih =>
   rcases ih with ⟨R, h1, h2, h3⟩ | ⟨h1, h2⟩
   ·exact .inl ⟨R, Nat.le_succ_of_le h1, h2, h3⟩
   ·have hs := stp_pos bs n
    have hl := ap_le w bs (n + 1)
    by_cases h : apS w bs (n + 1) = w.length
    ·exact .inl ⟨n + 1, Nat.le_refl _, h, fun i hi => h2 i (by omega)⟩
    ·refine .inr ⟨?_, fun i hi => ?_⟩
     ·have e : apS w bs (n + 1) = min w.length (apS w bs n + stp bs n) := rfl
      omega
     ·rcases Nat.lt_or_ge n i with h4 | h4
      ·have : i = n + 1 := by omega
       subst this; omega
      ·exact h2 i h4
 rcases key w.length with h | ⟨h1, h2⟩
 ·exact h
 ·have := h2 w.length (Nat.le_refl _); omega
theorem pc_flat (w bs : List Nat) : ∀ i, ((List.range i).map (pcS w bs)).flatten = w.take (apS w bs i)
 | 0 => rfl
 | i + 1 => by
  rw [List.range_succ, List.map_append, List.flatten_append, pc_flat w bs i]
  simp only [List.map_cons, List.map_nil, List.flatten_cons, List.flatten_nil, List.append_nil]
  unfold pcS
  have h := ap_mono w bs i
  have e : w.take (apS w bs i) = (w.take (apS w bs (i + 1))).take (apS w bs i) := by rw [List.take_take, Nat.min_eq_left h]
  rw [e, List.take_append_drop]
theorem cS_fold (w bs : List Nat) (c0 : Cst) : ∀ i, ((List.range i).map (pcS w bs)).foldl (feedC 1032) c0 = cS w bs c0 i
 | 0 => rfl
 | i + 1 => by
  rw [List.range_succ, List.map_append, List.foldl_append, cS_fold w bs c0 i]; rfl
theorem pc_lt {w bs : List Nat} (hw : ∀ b ∈ w, b < 256) (i : Nat) : ∀ b ∈ pcS w bs i, b < 256 := fun b hb => hw b (List.take_subset _ _ (List.drop_subset _ _ hb))
theorem pc_len (w bs : List Nat) (i : Nat) : (pcS w bs i).length = apS w bs (i + 1) - apS w bs i := by
 unfold pcS
 rw [List.length_drop, List.length_take, Nat.min_eq_left (ap_le w bs (i + 1))]
theorem cS_ok {w bs : List Nat} {c0 : Cst} (hw : ∀ b ∈ w, b < 256) (h0 : CstOk 8 c0) (hi0 : c0.inb = []) : ∀ i, CstOk 8 (cS w bs c0 i) ∧ (cS w bs c0 i).inb.length ≤ apS w bs i
 | 0 => ⟨h0, by show c0.inb.length ≤ 0; rw [hi0]; exact Nat.le_refl _⟩
 | i + 1 => by
  obtain ⟨h1, h2⟩ := cS_ok hw h0 hi0 i
  obtain ⟨g1, _, _, g4⟩ := feed_cst h1 (pc_lt hw (bs := bs) i)
  refine ⟨g1, Nat.le_trans g4 ?_⟩
  rw [pc_len]
  have := ap_mono w bs i
  omega
theorem cS_same {w bs : List Nat} {c0 : Cst} (h0 : Settled 1032 c0) {R : Nat} (hR : apS w bs R = w.length) : SameC (feedC 1032 c0 w) (cS w bs c0 R) := by
 have h := feed_pieces 1032 ((List.range R).map (pcS w bs)) c0 c0 h0 (SameC.refl c0)
 rw [pc_flat, hR, List.take_length, cS_fold] at h
 exact h
abbrev id25 : List Nat := [0, 1, 2, 3, 4, 5, 6, 7, 8, 9, 10, 11, 12, 13, 14, 15, 16, 17, 18, 19, 20, 21, 22, 23, 24]
abbrev q25 : List Nat := [0, 1, 2, 3, 4, 5, 6, 7, 8, 9, 10, 11, 12, 13, 14, 15, 16, 17, 18, 19, 20, 21, 22, 23, 25]
theorem id25_lt : ∀ {c : Nat}, c < 25 → nthD id25 c = c := by
 intro c h
 match c, h with
 | 0, _ | 1, _ | 2, _ | 3, _ | 4, _ | 5, _ | 6, _ | 7, _ | 8, _ | 9, _ | 10, _ | 11, _ | 12, _ | 13, _ | 14, _ | 15, _ | 16, _ | 17, _ | 18, _ | 19, _ | 20, _ | 21, _ | 22, _ | 23, _ | 24, _ => rfl
 | n + 25, h => omega
theorem q25_lt : ∀ {c : Nat}, c < 24 → nthD q25 c = c := by
 intro c h
 match c, h with
 | 0, _ | 1, _ | 2, _ | 3, _ | 4, _ | 5, _ | 6, _ | 7, _ | 8, _ | 9, _ | 10, _ | 11, _ | 12, _ | 13, _ | 14, _ | 15, _ | 16, _ | 17, _ | 18, _ | 19, _ | 20, _ | 21, _ | 22, _ | 23, _ => rfl
 | n + 24, h => omega
section
variable {oa ol op c1 f1 c2 f2 r23 r24 r25 : AObj} {a d : Nat → AObj}
theorem g25a {j : Nat} (h : 1 ≤ j ∧ j ≤ 8) : (mk25 oa ol op c1 f1 c2 f2 a d r23 r24).get (6 + j) = some (a j) := by rcases k8 h with rfl | rfl | rfl | rfl | rfl | rfl | rfl | rfl <;> kernel_rfl
theorem g25d {j : Nat} (h : 1 ≤ j ∧ j ≤ 8) : (mk25 oa ol op c1 f1 c2 f2 a d r23 r24).get (14 + j) = some (d j) := by rcases k8 h with rfl | rfl | rfl | rfl | rfl | rfl | rfl | rfl <;> kernel_rfl
theorem g23a {j : Nat} (h : 1 ≤ j ∧ j ≤ 8) : (mk23 oa ol op c1 f1 c2 f2 a d).get (6 + j) = some (a j) := by rcases k8 h with rfl | rfl | rfl | rfl | rfl | rfl | rfl | rfl <;> kernel_rfl
theorem g23d {j : Nat} (h : 1 ≤ j ∧ j ≤ 8) : (mk23 oa ol op c1 f1 c2 f2 a d).get (14 + j) = some (d j) := by rcases k8 h with rfl | rfl | rfl | rfl | rfl | rfl | rfl | rfl <;> kernel_rfl
end
theorem headO_r {N : Nat} {l : List Nat} {m : Mem} {x : Nat} {r : Reps} (hg : r ≠ [] → m.get (nthD l x) = some (rC r)) : HeadO N l m x (rC r) := by
 by_cases h : r = []
 ·subst h; exact .inl rfl
 ·exact .inr (.inr ⟨by rw [rC_ren]; exact hg h, rC_bel _ _⟩)
theorem ren25 {m : Mem} {l : List Nat} (hl : (nodupL l && Nat.beq l.length 25) = true) (h3 : l.take 3 = [0, 1, 2]) {oa ol op c1 f1 c2 f2 r23 r24 : AObj} {a d : Nat → AObj} (h0 : HeadO 25 l m 0 oa) (h1 : HeadO 25 l m 1 ol) (h2 : HeadO 25 l m 2 op) (h4 : HeadO 25 l m 3 c1) (h5 : HeadO 25 l m 4 f1) (h6 : HeadO 25 l m 5 c2) (h7 : HeadO 25 l m 6 f2)
  (ha : ∀ j, 1 ≤ j ∧ j ≤ 8 → HeadO 25 l m (6 + j) (a j)) (hd : ∀ j, 1 ≤ j ∧ j ≤ 8 → HeadO 25 l m (14 + j) (d j)) (h8 : HeadO 25 l m 23 r23) (h9 : HeadO 25 l m 24 r24) : RenM 3 l m (mk25 oa ol op c1 f1 c2 f2 a d r23 r24) :=
 renM_of (objs := [oa, ol, op, c1, f1, c2, f2, a 1, a 2, a 3, a 4, a 5, a 6, a 7, a 8, d 1, d 2, d 3, d 4, d 5, d 6, d 7, d 8, r23, r24]) h3 (by
  simp only [Bool.and_eq_true] at hl
  have := Nat.eq_of_beq_eq_true hl.2
  omega) hl ⟨h0, h1, h2, h4, h5, h6, h7, ha 1 (by decide), ha 2 (by decide), ha 3 (by decide), ha 4 (by decide), ha 5 (by decide), ha 6 (by decide), ha 7 (by decide), ha 8 (by decide), hd 1 (by decide), hd 2 (by decide), hd 3 (by decide), hd 4 (by decide), hd 5 (by decide), hd 6 (by decide), hd 7 (by decide), hd 8 (by decide), h8, h9, trivial⟩
theorem rvR_belN {R N : Nat} (h : R < N) (r : Reps) : (rvR R r).bel (fun c => Nat.blt c N) = true := by
 show (if r = [] then V.nilslice else _).bel _ = true
 split
 ·rfl
 ·show Nat.blt R N = true
  exact nblt_iff.2 h
abbrev hdP (W : Cli) (oa ol op : AObj) (d1 c : Cst) : Mem := mk25 oa ol op (clc W 4 23 d1) (mpc W pA6 d1) (clc W 6 24 c) (mpc W pA14 c) (aF W d1.fl) (aF W c.fl) (rC d1.rep) (rC c.rep)
abbrev slP (st : Bool) (sa sl sp : V) (w : List Nat) (ap i : Nat) : List (Sl × V) := [(s0, .bool st), (s1, sa), (s2, sl), (s3, sp), (s9, .str w), (s11, .ptr 3 0), (s12, .ptr 5 0), (s21, .int .i64 ((ap : Nat) : Int)), (s22, .int .i64 ((i : Nat) : Int))]
section
variable {P : Program} {oa ol op : AObj} {st : Bool} {sa sl sp : V} {w : List Nat} (h0 : Low oa) (h1 : Low ol) (h2 : Low op) (v0 : LowV sa) (v1 : LowV sl) (v2 : LowV sp)
include v0 v1 v2
theorem slP_back {l : List Nat} (h3 : l.take 3 = [0, 1, 2]) (h5 : V.back l (.ptr 3 0) = .ptr 3 0) (h6 : V.back l (.ptr 5 0) = .ptr 5 0) (ap i : Nat) : backS l (slP st sa sl sp w ap i) = slP st sa sl sp w ap i := by
 rw [show backS l (slP st sa sl sp w ap i) = [(s0, .bool st), (s1, sa.back l), (s2, sl.back l), (s3, sp.back l), (s9, .str w), (s11, V.back l (.ptr 3 0)), (s12, V.back l (.ptr 5 0)), (s21, .int .i64 ((ap : Nat) : Int)), (s22, .int .i64 ((i : Nat) : Int))] from rfl, v0 _ h3, v1 _ h3, v2 _ h3, h5, h6]
include h0 h1 h2
theorem piece_round {W : Cli} (hF : ∀ (c : Cst) (b : List Nat), CstOk 8 c → (∀ x ∈ b, x < 256) → c.inb.length + b.length < 1000000 → ConOk P 8 (feedK W c b (feedC 1032 c b)))
  {bs : List Nat} (hB : ByP 2 bs sp op) (hbs : ∀ b ∈ bs, b < 256) (hbl : bs.length ≤ 200) (hw : ∀ b ∈ w, b < 256) (hwl : w.length ≤ 100000) {d1 c0 : Cst} (hd1 : ∀ z ∈ d1.fl, 1 ≤ z.1 ∧ z.1 ≤ 8) (hc0 : CstOk 8 c0) (hi0 : c0.inb = []) {i : Nat} (hi : apS w bs i < w.length) (hil : i ≤ 100000) :
  ∃ (Mg : Mem) (q : List Nat), RenM 3 q Mg (hdP W oa ol op d1 (cS w bs c0 (i + 1))) ∧ backS q (slP st sa sl sp w (apS w bs (i + 1)) (i + 1)) = slP st sa sl sp w (apS w bs (i + 1)) (i + 1) ∧
   ∀ (Y : Ys Prop) (T : Slots), allS T (slP st sa sl sp w (apS w bs i) i) → ∀ K : Ex → Slots → Mem → Prop, (∀ T', allS T' (slP st sa sl sp w (apS w bs (i + 1)) (i + 1)) → K .normal T' Mg) → code pA (callD pA tb0 (LAw P) 5) Y c3l3 T (hdP W oa ol op d1 (cS w bs c0 i)) K := by
 obtain ⟨hc, hcl⟩ := cS_ok (bs := bs) hw hc0 hi0 i
 have hpl := pc_len w bs i
 have hple := ap_le w bs (i + 1)
 obtain ⟨hd, hn, hmono, _⟩ := feed_cst hc (pc_lt hw (bs := bs) i)
 have hcon := hF (cS w bs c0 i) (pcS w bs i) hc (pc_lt hw i) (by omega)
 have hsl : ∀ to, apS w bs (i + 1) = to → slcStrV w (apS w bs i) to = some (.str (pcS w bs i)) := fun to e => by
  subst e
  unfold slcStrV pcS
  rw [show (Nat.ble (apS w bs i) (apS w bs (i + 1)) && Nat.ble (apS w bs (i + 1)) w.length) = true by simp only [Bool.and_eq_true]; exact ⟨nble_iff.2 (ap_mono w bs i), nble_iff.2 hple⟩, cond_true]
 have hap : apS w bs (i + 1) = min w.length (apS w bs i + stp bs i) := rfl
 show ∃ (Mg : Mem) (q : List Nat), RenM 3 q Mg (hdP W oa ol op d1 (feedC 1032 (cS w bs c0 i) (pcS w bs i))) ∧ _
 generalize pcS w bs i = u at *
 generalize cS w bs c0 i = c at *
 generalize feedC 1032 c u = d at *
 generalize apS w bs i = ap at *
 generalize apS w bs (i + 1) = to at *
 unfold feedK at hcon
 have hcf := hc.fl.key
 have hdf := hd.fl.key
 by_cases hr : d.rep.length = c.rep.length
 ·rw [if_pos hr] at hcon
  have hcal := cal8_2s (P := P) (oa := oa) (ol := ol) (op := op) (x1 := clc W 4 23 d1) (y1 := mpc W pA6 d1) (r23 := rC d1.rep) (a := aF W d1.fl) hcf hdf hn hr hcon
  refine ⟨hdP W oa ol op d1 d, id25, ?_, slP_back v0 v1 v2 rfl rfl rfl _ _, fun Y T hT K hK => ?_⟩
  ·refine ren25 (by decide) rfl (headO_low h0 (by kernel_rfl)) (headO_low h1 (by kernel_rfl)) (headO_low h2 (by kernel_rfl)) (headO_cl (rv' := rvR 23 d1.rep) (by kernel_rfl) rfl (rvR_ren rfl _) (by decide) (rvR_belN (by decide) _)) (headO_map (p' := pA6) (by kernel_rfl) fun z hz => ?_) (headO_cl (rv' := rvR 24 d.rep) (by kernel_rfl) rfl (rvR_ren rfl _) (by decide) (rvR_belN (by decide) _)) (headO_map (p' := pA14) (by kernel_rfl) fun z hz => ?_) (fun j hj => headO_a (by rw [id25_lt (by omega)]; exact g25a hj) (.inr rfl)) (fun j hj => headO_a (by rw [id25_lt (by omega)]; exact g25d hj) (.inr rfl)) (headO_r fun _ => by kernel_rfl) (headO_r fun _ => by kernel_rfl)
   ·have := hd1 z hz
    exact ⟨id25_lt (by show 6 + z.1 < 25; omega), by show 6 + z.1 < 25; omega⟩
   ·have := hdf z hz
    exact ⟨id25_lt (by show 14 + z.1 < 25; omega), by show 14 + z.1 < 25; omega⟩
  ·skip
   cases hB with
   | nil h =>
    subst h
    have hst : stp [] i = 1 := rfl
    rw [hst] at hap
    by_cases hq : ap + 1 < w.length
    ·have e : to = ap + 1 := by omega
     subst e
     exact pn_as Y (LAw P) (monoL P) oa ol .dead _ _ _ _ _ _ _ _ _ .dead _ _ _ _ _ _ _ _ _ _ _ _ _ _ _ _ _ _ _ _ _ _ _ _ w st sa sl ap i (by omega) hi (by omega) hq u (hsl _ rfl) hcal T hT K hK
    ·have e : to = w.length := by omega
     subst e
     exact pn_bs Y (LAw P) (monoL P) oa ol .dead _ _ _ _ _ _ _ _ _ .dead _ _ _ _ _ _ _ _ _ _ _ _ _ _ _ _ _ _ _ _ _ _ _ _ w st sa sl ap i (by omega) hi (by omega) (by omega) u (hsl _ rfl) hcal T hT K hK
   | zero k h =>
    subst h
    have hst : stp [] i = 1 := rfl
    rw [hst] at hap
    by_cases hq : ap + 1 < w.length
    ·have e : to = ap + 1 := by omega
     subst e
     exact pz_as Y (LAw P) (monoL P) oa ol .dead _ _ _ _ _ _ _ _ _ .dead _ _ _ _ _ _ _ _ _ _ _ _ _ _ _ _ _ _ _ _ _ _ _ _ w st sa sl ap i (by omega) hi (by omega) k hq u (hsl _ rfl) hcal T hT K hK
    ·have e : to = w.length := by omega
     subst e
     exact pz_bs Y (LAw P) (monoL P) oa ol .dead _ _ _ _ _ _ _ _ _ .dead _ _ _ _ _ _ _ _ _ _ _ _ _ _ _ _ _ _ _ _ _ _ _ _ w st sa sl ap i (by omega) hi (by omega) k (by omega) u (hsl _ rfl) hcal T hT K hK
   | some h =>
    by_cases hib : i < bs.length
    ·have hst : stp bs i = 1 + bs.getD i 0 := if_pos hib
     rw [hst] at hap
     have hb256 : bs.getD i 0 < 256 := by
      rw [List.getD_eq_getElem?_getD, List.getElem?_eq_getElem hib]; exact hbs _ (List.getElem_mem hib)
     by_cases hq : ap + (1 + bs.getD i 0) < w.length
     ·have e : to = ap + (1 + bs.getD i 0) := by omega
      subst e
      exact ps_as Y (LAw P) (monoL P) oa ol _ _ _ _ _ _ _ _ _ .dead _ _ _ _ _ _ _ _ _ _ _ _ _ _ _ _ _ _ _ _ _ _ _ _ w st sa sl ap i (by omega) hi (by omega) _ bs.length (bs.getD i 0) hbl hib hb256 (vB_nth hib) hq u (hsl _ rfl) hcal T hT K hK
     ·have e : to = w.length := by omega
      subst e
      exact ps_bs Y (LAw P) (monoL P) oa ol _ _ _ _ _ _ _ _ _ .dead _ _ _ _ _ _ _ _ _ _ _ _ _ _ _ _ _ _ _ _ _ _ _ _ w st sa sl ap i (by omega) hi (by omega) _ bs.length (bs.getD i 0) hbl hib hb256 (vB_nth hib) (by omega) u (hsl _ rfl) hcal T hT K hK
    ·have hst : stp bs i = 1 := if_neg hib
     rw [hst] at hap
     by_cases hq : ap + 1 < w.length
     ·have e : to = ap + 1 := by omega
      subst e
      exact pe_as Y (LAw P) (monoL P) oa ol _ _ _ _ _ _ _ _ _ .dead _ _ _ _ _ _ _ _ _ _ _ _ _ _ _ _ _ _ _ _ _ _ _ _ w st sa sl ap i (by omega) hi (by omega) _ bs.length hbl (by omega) hq u (hsl _ rfl) hcal T hT K hK
     ·have e : to = w.length := by omega
      subst e
      exact pe_bs Y (LAw P) (monoL P) oa ol _ _ _ _ _ _ _ _ _ .dead _ _ _ _ _ _ _ _ _ _ _ _ _ _ _ _ _ _ _ _ _ _ _ _ w st sa sl ap i (by omega) hi (by omega) _ bs.length hbl (by omega) (by omega) u (hsl _ rfl) hcal T hT K hK
 ·rw [if_neg hr] at hcon
  have hne : d.rep ≠ [] := fun h => by rw [h] at hr hmono; exact hr (Nat.le_antisymm (Nat.zero_le _) hmono)
  have hcal := cal8_2n (P := P) (oa := oa) (ol := ol) (op := op) (x1 := clc W 4 23 d1) (y1 := mpc W pA6 d1) (r23 := rC d1.rep) (a := aF W d1.fl) hcf hdf hn hcon
  rw [show AObj.cells (repV d.rep) false = rC d.rep from (if_neg hne).symm] at hcal
  refine ⟨mk26 oa ol op (clc W 4 23 d1) (mpc W pA6 d1) (clc W 6 25 d) (mpc W pA14 d) (aF W d1.fl) (aF W d.fl) (rC d1.rep) .dead (rC d.rep), q25, ?_, slP_back v0 v1 v2 rfl rfl rfl _ _, fun Y T hT K hK => ?_⟩
  ·refine ren25 (by decide) rfl (headO_low h0 (by kernel_rfl)) (headO_low h1 (by kernel_rfl)) (headO_low h2 (by kernel_rfl)) (headO_cl (rv' := rvR 23 d1.rep) (by kernel_rfl) rfl (rvR_ren rfl _) (by decide) (rvR_belN (by decide) _)) (headO_map (p' := pA6) (by kernel_rfl) fun z hz => ?_) (headO_cl (rv' := rvR 25 d.rep) (by kernel_rfl) rfl (rvR_ren rfl _) (by decide) (rvR_belN (by decide) _)) (headO_map (p' := pA14) (by kernel_rfl) fun z hz => ?_) (fun j hj => headO_a (by rw [q25_lt (by omega)]; exact g26a hj) (.inr rfl)) (fun j hj => headO_a (by rw [q25_lt (by omega)]; exact g26d hj) (.inr rfl)) (headO_r fun _ => by kernel_rfl) (headO_r fun _ => by kernel_rfl)
   ·have := hd1 z hz
    exact ⟨q25_lt (by show 6 + z.1 < 24; omega), by show 6 + z.1 < 25; omega⟩
   ·have := hdf z hz
    exact ⟨q25_lt (by show 14 + z.1 < 24; omega), by show 14 + z.1 < 25; omega⟩
  ·skip
   cases hB with
   | nil h =>
    subst h
    have hst : stp [] i = 1 := rfl
    rw [hst] at hap
    by_cases hq : ap + 1 < w.length
    ·have e : to = ap + 1 := by omega
     subst e
     exact pn_an Y (LAw P) (monoL P) oa ol .dead _ _ _ _ _ _ _ _ _ _ _ _ _ _ _ _ _ _ _ _ _ _ _ _ _ _ _ _ _ _ _ _ _ _ w st sa sl ap i (by omega) hi (by omega) hq u (hsl _ rfl) hcal T hT K hK
    ·have e : to = w.length := by omega
     subst e
     exact pn_bn Y (LAw P) (monoL P) oa ol .dead _ _ _ _ _ _ _ _ _ _ _ _ _ _ _ _ _ _ _ _ _ _ _ _ _ _ _ _ _ _ _ _ _ _ w st sa sl ap i (by omega) hi (by omega) (by omega) u (hsl _ rfl) hcal T hT K hK
   | zero k h =>
    subst h
    have hst : stp [] i = 1 := rfl
    rw [hst] at hap
    by_cases hq : ap + 1 < w.length
    ·have e : to = ap + 1 := by omega
     subst e
     exact pz_an Y (LAw P) (monoL P) oa ol .dead _ _ _ _ _ _ _ _ _ _ _ _ _ _ _ _ _ _ _ _ _ _ _ _ _ _ _ _ _ _ _ _ _ _ w st sa sl ap i (by omega) hi (by omega) k hq u (hsl _ rfl) hcal T hT K hK
    ·have e : to = w.length := by omega
     subst e
     exact pz_bn Y (LAw P) (monoL P) oa ol .dead _ _ _ _ _ _ _ _ _ _ _ _ _ _ _ _ _ _ _ _ _ _ _ _ _ _ _ _ _ _ _ _ _ _ w st sa sl ap i (by omega) hi (by omega) k (by omega) u (hsl _ rfl) hcal T hT K hK
   | some h =>
    by_cases hib : i < bs.length
    ·have hst : stp bs i = 1 + bs.getD i 0 := if_pos hib
     rw [hst] at hap
     have hb256 : bs.getD i 0 < 256 := by
      rw [List.getD_eq_getElem?_getD, List.getElem?_eq_getElem hib]; exact hbs _ (List.getElem_mem hib)
     by_cases hq : ap + (1 + bs.getD i 0) < w.length
     ·have e : to = ap + (1 + bs.getD i 0) := by omega
      subst e
      exact ps_an Y (LAw P) (monoL P) oa ol _ _ _ _ _ _ _ _ _ _ _ _ _ _ _ _ _ _ _ _ _ _ _ _ _ _ _ _ _ _ _ _ _ _ w st sa sl ap i (by omega) hi (by omega) _ bs.length (bs.getD i 0) hbl hib hb256 (vB_nth hib) hq u (hsl _ rfl) hcal T hT K hK
     ·have e : to = w.length := by omega
      subst e
      exact ps_bn Y (LAw P) (monoL P) oa ol _ _ _ _ _ _ _ _ _ _ _ _ _ _ _ _ _ _ _ _ _ _ _ _ _ _ _ _ _ _ _ _ _ _ w st sa sl ap i (by omega) hi (by omega) _ bs.length (bs.getD i 0) hbl hib hb256 (vB_nth hib) (by omega) u (hsl _ rfl) hcal T hT K hK
    ·have hst : stp bs i = 1 := if_neg hib
     rw [hst] at hap
     by_cases hq : ap + 1 < w.length
     ·have e : to = ap + 1 := by omega
      subst e
      exact pe_an Y (LAw P) (monoL P) oa ol _ _ _ _ _ _ _ _ _ _ _ _ _ _ _ _ _ _ _ _ _ _ _ _ _ _ _ _ _ _ _ _ _ _ w st sa sl ap i (by omega) hi (by omega) _ bs.length hbl (by omega) hq u (hsl _ rfl) hcal T hT K hK
     ·have e : to = w.length := by omega
      subst e
      exact pe_bn Y (LAw P) (monoL P) oa ol _ _ _ _ _ _ _ _ _ _ _ _ _ _ _ _ _ _ _ _ _ _ _ _ _ _ _ _ _ _ _ _ _ _ w st sa sl ap i (by omega) hi (by omega) _ bs.length hbl (by omega) (by omega) u (hsl _ rfl) hcal T hT K hK
end
abbrev qP0 : List Nat := [0, 1, 2, 3, 4, 5, 6, 7, 8, 9, 10, 11, 12, 13, 14, 15, 16, 17, 18, 19, 20, 21, 22, 1023, 1024]
abbrev qP1 : List Nat := [0, 1, 2, 3, 4, 5, 6, 7, 8, 9, 10, 11, 12, 13, 14, 15, 16, 17, 18, 19, 20, 21, 22, 23, 1024]
theorem qP0_lt {c : Nat} (h : c < 23) : nthD qP0 c = c := by
 match c, h with
 | 0, _ | 1, _ | 2, _ | 3, _ | 4, _ | 5, _ | 6, _ | 7, _ | 8, _ | 9, _ | 10, _ | 11, _ | 12, _ | 13, _ | 14, _ | 15, _ | 16, _ | 17, _ | 18, _ | 19, _ | 20, _ | 21, _ | 22, _ => rfl
 | n + 23, h => omega
theorem qP1_lt {c : Nat} (h : c < 24) : nthD qP1 c = c := by
 match c, h with
 | 0, _ | 1, _ | 2, _ | 3, _ | 4, _ | 5, _ | 6, _ | 7, _ | 8, _ | 9, _ | 10, _ | 11, _ | 12, _ | 13, _ | 14, _ | 15, _ | 16, _ | 17, _ | 18, _ | 19, _ | 20, _ | 21, _ | 22, _ | 23, _ => rfl
 | n + 24, h => omega
section
variable {P : Program} {oa ol op : AObj} {st : Bool} {sa sl sp : V} {w : List Nat} (h0 : Low oa) (h1 : Low ol) (h2 : Low op) (v0 : LowV sa) (v1 : LowV sl) (v2 : LowV sp)
include v0 v1 v2 h0 h1 h2
theorem piece_loopD {W : Cli} (hF : ∀ (c : Cst) (b : List Nat), CstOk 8 c → (∀ x ∈ b, x < 256) → c.inb.length + b.length < 1000000 → ConOk P 8 (feedK W c b (feedC 1032 c b)))
  {bs : List Nat} (hB : ByP 2 bs sp op) (hbs : ∀ b ∈ bs, b < 256) (hbl : bs.length ≤ 200) (hw : ∀ b ∈ w, b < 256) (hwl : w.length ≤ 100000) {d1 c0 : Cst} (hd1 : ∀ z ∈ d1.fl, 1 ≤ z.1 ∧ z.1 ≤ 8) (hc0 : CstOk 8 c0) (hi0 : c0.inb = [])
  {M0 : Mem} {q0 : List Nat} (hM0 : RenM 3 q0 M0 (hdP W oa ol op d1 c0)) (hq3 : q0.take 3 = [0, 1, 2]) (hqa : V.back q0 (.ptr 3 0) = .ptr 3 0) (hqb : V.back q0 (.ptr 5 0) = .ptr 5 0) :
  ∃ R, apS w bs R = w.length ∧ LoopOkD (callD pA tb0 (LAw P) 5) 3 c3l3 (.exit 6) M0 (slP st sa sl sp w 0 0) (fun _ => True) (fun _ => hdP W oa ol op d1 (cS w bs c0 R)) (fun _ => slZ st sa sl sp w) := by
 obtain ⟨R, hRl, hR, hlt⟩ := ap_find w bs
 refine ⟨R, hR, ?_⟩
 have hr := fun i (hi : i < R) => piece_round (P := P) (st := st) (sa := sa) (sl := sl) h0 h1 h2 v0 v1 v2 hF hB hbs hbl hw hwl hd1 hc0 hi0 (i := i) (hlt i hi) (by omega)
 classical
 let Mg : Nat → Mem := fun i => if h : i < R then (hr i h).choose else memL 0 []
 let q : Nat → List Nat := fun i => if h : i < R then (hr i h).choose_spec.choose else []
 have hs : ∀ i, i < R → RenM 3 (q i) (Mg i) (hdP W oa ol op d1 (cS w bs c0 (i + 1))) ∧ backS (q i) (slP st sa sl sp w (apS w bs (i + 1)) (i + 1)) = slP st sa sl sp w (apS w bs (i + 1)) (i + 1) ∧
   ∀ (Y : Ys Prop) (T : Slots), allS T (slP st sa sl sp w (apS w bs i) i) → ∀ K : Ex → Slots → Mem → Prop, (∀ T', allS T' (slP st sa sl sp w (apS w bs (i + 1)) (i + 1)) → K .normal T' (Mg i)) → code pA (callD pA tb0 (LAw P) 5) Y c3l3 T (hdP W oa ol op d1 (cS w bs c0 i)) K := by
  intro i hi
  have h := (hr i hi).choose_spec.choose_spec
  simp only [Mg, q, dif_pos hi]
  exact h
 refine loopR (cfy := callD pA tb0 (LAw P) 5) (b := c3l3) (e := .exit 6) (B := 3) (fun h => by cases h) R (Nat.lt_of_lt_of_le (rounds_big (n := R) (by omega)) (Nat.sub_le _ _)) (l0 := slP st sa sl sp w 0 0) (q0 := q0) (M0 := M0)
  (M := fun i => hdP W oa ol op d1 (cS w bs c0 i)) (Mg := Mg) (l := fun i => slP st sa sl sp w (apS w bs i) i) (lg := fun i => slP st sa sl sp w (apS w bs (i + 1)) (i + 1)) (q := q) (M1 := hdP W oa ol op d1 (cS w bs c0 R)) (l1 := slZ st sa sl sp w)
  hM0 (slP_back v0 v1 v2 hq3 hqa hqb _ _) (fun i hi => (hs i hi).1) (fun i hi => (hs i hi).2.1) (fun Y i T hi hT K hK => (hs i hi).2.2 Y T hT K hK) (fun Y T hT K hK => ?_)
 exact pc_e Y (LAw P) (monoL P) oa ol op _ _ _ _ .dead .dead _ _ .dead .dead _ _ _ _ _ _ _ _ _ _ _ _ _ _ _ _ .dead .dead .dead .dead .dead .dead .dead .dead w st sa sl sp (apS w bs R) R (by omega) (by omega) T hT K hK
end
section
variable {oa ol op : AObj} (h0 : Low oa) (h1 : Low ol) (h2 : Low op)
include h0 h1 h2
theorem start_s {W : Cli} {d1 c0 : Cst} (hd1 : ∀ z ∈ d1.fl, 1 ≤ z.1 ∧ z.1 ≤ 8) (hc0 : ∀ z ∈ c0.fl, 1 ≤ z.1 ∧ z.1 ≤ 8) (hr0 : c0.rep = []) (hr1 : d1.rep = []) : RenM 3 qP0 (mk23 oa ol op (clc W 4 23 d1) (mpc W pA6 d1) (clc W 6 24 c0) (mpc W pA14 c0) (aF W d1.fl) (aF W c0.fl)) (hdP W oa ol op d1 c0) := by
 have e1 : rvR 23 d1.rep = .nilslice := if_pos hr1
 have e0 : rvR 24 c0.rep = .nilslice := if_pos hr0
 refine ren25 (by decide) rfl (headO_low h0 (by kernel_rfl)) (headO_low h1 (by kernel_rfl)) (headO_low h2 (by kernel_rfl)) (headO_cl (rv' := rvR 23 d1.rep) (by kernel_rfl) rfl (by rw [e1]; rfl) (by decide) (rvR_belN (by decide) _)) (headO_map (p' := pA6) (by kernel_rfl) fun z hz => ?_) (headO_cl (rv' := rvR 24 c0.rep) (by kernel_rfl) rfl (by rw [e0]; rfl) (by decide) (rvR_belN (by decide) _)) (headO_map (p' := pA14) (by kernel_rfl) fun z hz => ?_) (fun j hj => headO_a (by rw [qP0_lt (by omega)]; exact g23a hj) (.inr rfl)) (fun j hj => headO_a (by rw [qP0_lt (by omega)]; exact g23d hj) (.inr rfl)) (headO_r fun h => absurd hr1 h) (headO_r fun h => absurd hr0 h)
 ·have := hd1 z hz
  exact ⟨qP0_lt (by show 6 + z.1 < 23; omega), by show 6 + z.1 < 25; omega⟩
 ·have := hc0 z hz
  exact ⟨qP0_lt (by show 14 + z.1 < 23; omega), by show 14 + z.1 < 25; omega⟩
theorem start_n {W : Cli} {d1 c0 : Cst} (hd1 : ∀ z ∈ d1.fl, 1 ≤ z.1 ∧ z.1 ≤ 8) (hc0 : ∀ z ∈ c0.fl, 1 ≤ z.1 ∧ z.1 ≤ 8) (hr0 : c0.rep = []) : RenM 3 qP1 (mk24 oa ol op (clc W 4 23 d1) (mpc W pA6 d1) (clc W 6 24 c0) (mpc W pA14 c0) (aF W d1.fl) (aF W c0.fl) (rC d1.rep)) (hdP W oa ol op d1 c0) := by
 have e0 : rvR 24 c0.rep = .nilslice := if_pos hr0
 refine ren25 (by decide) rfl (headO_low h0 (by kernel_rfl)) (headO_low h1 (by kernel_rfl)) (headO_low h2 (by kernel_rfl)) (headO_cl (rv' := rvR 23 d1.rep) (by kernel_rfl) rfl (rvR_ren rfl _) (by decide) (rvR_belN (by decide) _)) (headO_map (p' := pA6) (by kernel_rfl) fun z hz => ?_) (headO_cl (rv' := rvR 24 c0.rep) (by kernel_rfl) rfl (by rw [e0]; rfl) (by decide) (rvR_belN (by decide) _)) (headO_map (p' := pA14) (by kernel_rfl) fun z hz => ?_) (fun j hj => headO_a (by rw [qP1_lt (by omega)]; exact g24a hj) (.inr rfl)) (fun j hj => headO_a (by rw [qP1_lt (by omega)]; exact g24d hj) (.inr rfl)) (headO_r fun _ => by kernel_rfl) (headO_r fun h => absurd hr0 h)
 ·have := hd1 z hz
  exact ⟨qP1_lt (by show 6 + z.1 < 24; omega), by show 6 + z.1 < 25; omega⟩
 ·have := hc0 z hz
  exact ⟨qP1_lt (by show 14 + z.1 < 24; omega), by show 14 + z.1 < 25; omega⟩
end
abbrev ne1 : List Nat := [3, 4, 23, 7, 8, 9, 10, 11, 12, 13, 14]
theorem ne1_p {j : Nat} (h : 1 ≤ j ∧ j ≤ 8) : nthD ne1 (2 + j) = 6 + j := by rcases k8 h with rfl | rfl | rfl | rfl | rfl | rfl | rfl | rfl <;> rfl
abbrev kEnd (W W' : Cli) (ov : Bool) (inb : List Nat) (rv rv' ans : V) (fl : Fl) : Con :=
 ⟨[.ptr 0 0], [.cells (clV W ov inb rv) false, .map (enF pF fl) W.q false, .dead, .dead, .dead, .dead, .dead, .dead, .dead, .dead, .dead], ans, [.cells (clV W' ov inb rv') false, .map (enF pF fl) W.q false, .dead, .dead, .dead, .dead, .dead, .dead, .dead, .dead, .dead], []⟩
section
variable {P : Program} {oa ol op x1 y1 x2 y2 r23 r24 : AObj} {a dd : Nat → AObj} {W W' : Cli} {ov : Bool} {inb : List Nat} {rv rv' ans v1 v1' va : V} {fl : Fl} {g : Nat} {X : CF Prop}
 (hfl : ∀ z ∈ fl, 1 ≤ z.1 ∧ z.1 ≤ 8) (b1 : ∀ p : Nat → Bool, p 2 = true → rv.bel p = true) (b2 : ∀ p : Nat → Bool, p 2 = true → rv'.bel p = true) (b3 : ∀ p : Nat → Bool, p 2 = true → ans.bel p = true)
include hfl b1 b2 b3
theorem kEnd_wf : (kEnd W W' ov inb rv rv' ans fl).wfG = true := by
 have p0 : ∀ x, x < 11 → (kEnd W W' ov inb rv rv' ans fl).p0 x = true := fun x hx => nblt_iff.2 hx
 have p1' : ∀ x, x < 11 → (kEnd W W' ov inb rv rv' ans fl).p1 x = true := fun x hx => by
  show (Nat.blt x 11 || _) = true
  rw [nblt_iff.2 hx]; rfl
 unfold Con.wfG
 refine andT (andT (andT (andT (andT (andT rfl ?_) (b3 _ (p1' 2 (by decide)))) ?_) rfl) rfl) rfl
 ·show ((AObj.cells _ false).bel _ && (ebels _ (enF pF fl) && true)) = true
  rw [clV_bel W _ _ (p0 1 (by decide)) (b1 _ (p0 2 (by decide))), enF_bel fun z hz => p0 _ (by have := hfl z hz; show 2 + z.1 < 11; omega)]; rfl
 ·show ((AObj.cells _ false).bel _ && (ebels _ (enF pF fl) && true)) = true
  rw [clV_bel W' _ _ (p1' 1 (by decide)) (b2 _ (p1' 2 (by decide))), enF_bel fun z hz => p1' _ (by have := hfl z hz; show 2 + z.1 < 11; omega)]; rfl
theorem end1 (h : ConOk P g (kEnd W W' ov inb rv rv' ans fl)) (e1 : ∀ σ : Nat → Nat, σ 2 = 23 → rv.ren σ = v1 ∧ rv'.ren σ = v1' ∧ ans.ren σ = va) :
  CalOk (lastG g (ConOk P g) X) (fn g) [.ptr 3 0] (mk25 oa ol op (clM W 4 ov inb v1) (.map (enF pA6 fl) W.q false) x2 y2 a dd r23 r24) va (mk25 oa ol op (clM W' 4 ov inb v1') (.map (enF pA6 fl) W.q false) x2 y2 a dd r23 r24) := by
 have hm : ∀ σ : Nat → Nat, (∀ x, x < 11 → σ x = nthD ne1 x) → (AObj.map (enF pF fl) W.q false).ren σ = .map (enF pA6 fl) W.q false := fun σ hσ => map_ren2 fun z hz => by
  have := hfl z hz
  rw [hσ _ (by show 2 + z.1 < 11; omega)]; exact ne1_p this
 have t0 : ∀ x, x < 11 → (kEnd W W' ov inb rv rv' ans fl).tau (nthD ne1) 25 x = nthD ne1 x := fun x hx => by
  show (bif Nat.blt x 11 then nthD ne1 x else _) = _
  rw [nblt_iff.2 hx, cond_true]
 refine cal_G (l := ne1) h (kEnd_wf hfl b1 b2 b3) rfl rfl ⟨.inr ?_, .inr ?_, .inl rfl, .inl rfl, .inl rfl, .inl rfl, .inl rfl, .inl rfl, .inl rfl, .inl rfl, .inl rfl, trivial⟩ (e1 _ (t0 2 (by decide))).2.2 ?_
 ·rw [clV_ren2 W _ _ (b := 4) rfl (e1 _ rfl).1]; kernel_rfl
 ·rw [hm (nthD ne1) fun _ _ => rfl]; kernel_rfl
 ·have key : (kEnd W W' ov inb rv rv' ans fl).memG (nthD ne1) (mk25 oa ol op (clM W 4 ov inb v1) (.map (enF pA6 fl) W.q false) x2 y2 a dd r23 r24) = mk25 oa ol op ((AObj.cells (clV W' ov inb rv') false).ren ((kEnd W W' ov inb rv rv' ans fl).tau (nthD ne1) 25)) ((AObj.map (enF pF fl) W.q false).ren ((kEnd W W' ov inb rv rv' ans fl).tau (nthD ne1) 25)) x2 y2 a dd r23 r24 := by kernel_rfl
  rw [key, hm _ t0, clV_ren2 W' _ _ (b := 4) (t0 1 (by decide)) (e1 _ (t0 2 (by decide))).2.1]
theorem end2 (h : ConOk P g (kEnd W W' ov inb rv rv' ans fl)) (e1 : ∀ σ : Nat → Nat, σ 2 = 24 → rv.ren σ = v1 ∧ rv'.ren σ = v1' ∧ ans.ren σ = va) :
  CalOk (lastG g (ConOk P g) X) (fn g) [.ptr 5 0] (mk25 oa ol op x1 y1 (clM W 6 ov inb v1) (.map (enF pA14 fl) W.q false) a dd r23 r24) va (mk25 oa ol op x1 y1 (clM W' 6 ov inb v1') (.map (enF pA14 fl) W.q false) a dd r23 r24) := by
 have hm : ∀ σ : Nat → Nat, (∀ x, x < 11 → σ x = nthD nf2 x) → (AObj.map (enF pF fl) W.q false).ren σ = .map (enF pA14 fl) W.q false := fun σ hσ => map_ren2 fun z hz => by
  have := hfl z hz
  rw [hσ _ (by show 2 + z.1 < 11; omega)]; exact nf2_p this
 have t0 : ∀ x, x < 11 → (kEnd W W' ov inb rv rv' ans fl).tau (nthD nf2) 25 x = nthD nf2 x := fun x hx => by
  show (bif Nat.blt x 11 then nthD nf2 x else _) = _
  rw [nblt_iff.2 hx, cond_true]
 refine cal_G (l := nf2) h (kEnd_wf hfl b1 b2 b3) rfl rfl ⟨.inr ?_, .inr ?_, .inl rfl, .inl rfl, .inl rfl, .inl rfl, .inl rfl, .inl rfl, .inl rfl, .inl rfl, .inl rfl, trivial⟩ (e1 _ (t0 2 (by decide))).2.2 ?_
 ·rw [clV_ren2 W _ _ (b := 6) rfl (e1 _ rfl).1]; kernel_rfl
 ·rw [hm (nthD nf2) fun _ _ => rfl]; kernel_rfl
 ·have key : (kEnd W W' ov inb rv rv' ans fl).memG (nthD nf2) (mk25 oa ol op x1 y1 (clM W 6 ov inb v1) (.map (enF pA14 fl) W.q false) a dd r23 r24) = mk25 oa ol op x1 y1 ((AObj.cells (clV W' ov inb rv') false).ren ((kEnd W W' ov inb rv rv' ans fl).tau (nthD nf2) 25)) ((AObj.map (enF pF fl) W.q false).ren ((kEnd W W' ov inb rv rv' ans fl).tau (nthD nf2) 25)) a dd r23 r24 := by kernel_rfl
  rw [key, hm _ t0, clV_ren2 W' _ _ (b := 6) (t0 1 (by decide)) (e1 _ (t0 2 (by decide))).2.1]
end
end Go.Proofs.Ytblblhfgpcgheaa
