/- Needs by what it answers. No condition. -/
import Derived.Test.YtjikaankdnmabaaNL
import Derived.Test.YtjikaankdnmabaaVJ
namespace Go.Proofs.Ytjikaankdnmabaa
open Go Go.AM
set_option maxRecDepth 100000
set_option maxHeartbeats 4000000
set_option linter.unusedVariables false
set_option linter.unusedSectionVars false
theorem grow_iV {ls : List Int} {x : Int} {len : Nat} (h : ls.length = len) (hl : len ≤ 192) : growV 1 8 1 [.int .i64 x] 0 len len (iV ls) = some (iV (ls ++ [x])) := by
  have h1 : Nat.ble (len + 1) len = false := by
    cases e : Nat.ble (len + 1) len with
    | false => rfl
    | true => have := nble_iff.1 e; omega
  have h2 : small (len + 1) 8 = true := small_iff.2 (by omega)
  have h3 : ∀ (l : List V) (n : Nat), l.length = n → takeN n l = some l := by
    intro l
    induction l with
    | nil => intro n h; subst h; rfl
    | cons a l ih => intro n h; subst h; simp only [List.length_cons, takeN, ih _ rfl]
  unfold growV
  rw [h1, h2, Nat.mul_one]
  have h4 : takeN len (dropN 0 (iV ls)) = some (iV ls) := h3 (iV ls) _ (by simp [iV, h])
  rw [h4]
  simp only [iV, List.map_append, List.map_cons, List.map_nil]
  rfl
theorem plains_iV : ∀ l : List Int, plains (iV l) = true
  | [] => rfl
  | x :: l => by have := plains_iV l; simp only [iV, List.map_cons, plains, V.plain, Bool.true_and] at *; exact this
theorem rounds_big {n : Nat} (h : n ≤ 1000) : n < rounds - 1 := by
  have : rounds - 1 > 1000 := by decide
  omega
theorem sortI_len (l : List Int) : (sortI l).length = l.length := List.length_mergeSort _
theorem sortI_mem {l : List Int} {x : Int} : x ∈ sortI l ↔ x ∈ l := List.mem_mergeSort
theorem goodW_mV {m p : Int} {L : List (Int × List Nat × Nat)} : goodW m p L ↔ ∀ y ∈ mV L, ¬ badN (dataL m p) y := by
  constructor
  · intro h y hy
    obtain ⟨z, hz, rfl⟩ := mV_mem hy
    exact Classical.not_not.2 ⟨(h z hz).1, _, rfl, (h z hz).2⟩
  · intro h y hy
    obtain ⟨h1, g, h2, h3⟩ := Classical.not_not.1 (h _ (mem_mV hy))
    cases h2
    exact ⟨h1, h3⟩
section
variable {P : Program}
variable (hmix : P.follows .mixedOrders = true)
include hmix
omit hmix in
theorem sq37_pre : ∀ Q C, SQ37 Q C → ∀ x y, (C x).pre = (C y).pre := by
  intro Q C h x y
  cases h; rfl
theorem sq37_ok (o55 : FOk P 55 c55) (o56 : FOk P 56 c56) (o37 : FOk P 37 c37) : ∀ Q C, SQ37 Q C → (∀ x, Q x → (C x).wf = true) → ConQOk P 37 (fun X => ∃ x, Q x ∧ X = C x) := by
  intro Q C h _
  cases h with | mk L c ro n hn h1 h2 h hd =>
  subst hn
  have hs : Stamped (mV L) c := ⟨fun y hy => by obtain ⟨z, hz, rfl⟩ := mV_mem hy; exact h z hz, by rw [mV_stamps]; exact hd, by rw [mV_length]; exact rounds_big (by omega)⟩
  have ht : TabOk P (fun f => bif Nat.beq f 55 then some c55 else bif Nat.beq f 56 then some c56 else none) := by
    intro f af h
    simp only at h
    by_cases e : f = 55
    · subst e; cases h; exact o55
    · rw [nbeqF e, cond_false] at h
      by_cases e' : f = 56
      · subst e'; cases h; exact o56
      · rw [nbeqF e'] at h; cases h
  have hcf := callD_sound (A := pA) pHolds hmix ht (la0_ok (P := P)) 8
  refine conQOk_new (f := fun b => .slice b 0 L.length L.length 1) (ob := fun x => .cells (iV (keysE x)) false) hmix o37 hcf (names_slice _ _) (fun x _ => by show (!false && plains (iV (keysE x))) = true; rw [plains_iV]; rfl) (by intro o ho; simp only [List.mem_cons, List.not_mem_nil, or_false] at ho; rcases ho with rfl | rfl <;> first | rfl | exact ebels_mV _ L) (K := fun u m => ∃ x, x.Perm (mV L) ∧ endN [.cells [.map 1] false, .map (mV L) c ro] (fun b => .slice b 0 L.length L.length 1) (.cells (iV (keysE x)) false) u m) (fun u m h => h) ?_
  refine collect_run (a := 55) (g := 56) rfl rfl (m0 := memO [.cells [.map 1] false, .map (mV L) c ro]) (bx := 0) (mb := 1) hs (fun y hy => by obtain ⟨z, hz, rfl⟩ := mV_mem hy; rfl) (by rw [mV_length]; omega) (by show 1 < 2; decide) (by show 0 < 2; decide) rfl rfl (fun vis m u hp hnx hold hh hb => ?_)
  have hl : (vis.map keyI).length = L.length := by rw [List.length_map, hp.length_eq, mV_length]
  rcases hh with ⟨e, _⟩ | ⟨b, e1, _, e2⟩
  · rw [e] at hl; simp at hl; omega
  · rw [hl] at e1
    have := hb b _ _ e1
    exact ⟨vis, hp, b, this.1, e1, e2, fun c o he => by
      have hc := (List.getElem?_eq_some_iff.1 he).1
      rw [hold c hc, memO_get]; exact he⟩
theorem la10_ok (h33 : ∀ C, S33 C → C.wf = true → ConOk P 33 C) (h34 : ∀ C, S34 C → C.wf = true → ConOk P 34 C) (h31 : ∀ C, S31 C → C.wf = true → ConOk P 31 C) (h35 : ∀ C, S35 C → C.wf = true → ConOk P 35 C) (c33 : Callable P 33) (c34 : Callable P 34) (c31 : Callable P 31) (c35 : Callable P 35)
    (o55 : FOk P 55 c55) (o56 : FOk P 56 c56) (o37 : FOk P 37 c37) (l3 : LastOk P la3 id) (o30 : FOk P 30 c30) (o61 : FOk P 61 c61) (o47 : FOk P 47 c47) (o27 : FOk P 27 c27) (o16 : FOk P 16 c16) : LastOk P la10 id :=
  lastC_ok c33 h33 (lastC_ok c34 h34 (lastC_ok c31 h31 (lastC_ok c35 h35 (lastQ_ok (callable_fok o37) sq37_pre (sq37_ok hmix o55 o56 o37) (lastFn_ok (callable_fok o30) (fun ρ args args' v hv ha => by
    unfold R30 at hv; split at hv
    · cases hv; exact answers_of_walk hmix o30 (callD_sound pHolds hmix tb0_ok l3 5) ha rfl rfl (fun K hK => may30_walk _ _ _ _ _ _ _ _ _ K hK)
    · cases hv) (lastFn_ok (callable_fok o27) (fun ρ args args' v hv ha => by
    unfold R27 at hv; split at hv
    · cases hv; exact par_ans hmix o61 o47 o27 _ _ _ _ ha
    · cases hv) (l16_ok hmix o61 o47 o27 o16 la0_ok)))))))
theorem s10_ok (l10 : LastOk P la10 id) (o36 : FOk P 36 c36) (o38 : FOk P 38 c38) (o32 : FOk P 32 c32) (o10 : FOk P 10 c10) : ∀ C, S10 C → C.wf = true → ConOk P 10 C := by
  intro C h _
  have hcf := callD_sound pHolds hmix (tb10_ok o36 o38 o32) l10 5
  have base : ∀ {l m r s : Int} {b0 b1 b2 b3 : Bool} {L : List (Int × List Nat × Nat)} {c : Nat}, MapOk L c → mayE l m r s b0 b1 b2 b3 = 0 → ∃ k : Nat, (dataL m (pz l m r s)).length = k ∧ 1 ≤ k ∧ k ≤ 3 ∧ S16s [geo l m r, .int .i64 s] = some (Lay.new (Hd.slice k 1) none (AObj.cells (iV (dataL m (pz l m r s))) false)) ∧ roB l m r s = true ∧ (m = 2 ∨ m = 3 ∨ m = 4) ∧ (0 ≤ pz l m r s ∧ pz l m r s < m) := by
    intro l m r s b0 b1 b2 b3 L c hM hm
    have ho := ro_of_may hm
    have g := (ro_t.1 ho).1.1
    refine ⟨(m - 1).toNat, dataL_len _ _, by omega, by omega, ?_, ho, by omega, pz_rng ho⟩
    rw [S16s_eq]
    exact if_pos ho
  have stm : ∀ {L : List (Int × List Nat × Nat)} {c : Nat}, MapOk L c → L.length ≤ 1000 → Stamped (mV L) c := fun {L c} hM hl => ⟨fun y hy => by obtain ⟨z, hz, rfl⟩ := mV_mem hy; exact hM.lt z hz, by rw [mV_stamps]; exact hM.st, by rw [mV_length]; exact rounds_big (by omega)⟩
  have some0 : ∀ {l m r s : Int} {b0 b1 b2 b3 : Bool} {L : List (Int × List Nat × Nat)}, needE l m r s b0 b1 b2 b3 L = 0 → mayE l m r s b0 b1 b2 b3 = 0 ∧ goodW m (pz l m r s) L ∧ L ≠ [] := by
    intro l m r s b0 b1 b2 b3 L h
    unfold needE at h
    by_cases hm : mayE l m r s b0 b1 b2 b3 = 0
    · rw [if_neg (by simp [hm])] at h
      by_cases hg : goodW m (pz l m r s) L ∧ L ≠ []
      · exact ⟨hm, hg⟩
      · rw [if_neg hg] at h; exact absurd h (by decide)
    · rw [if_pos hm] at h; exact absurd h hm
  have rest4 : ∀ {m p : Int} {L : List (Int × List Nat × Nat)}, (m = 2 ∨ m = 3 ∨ m = 4) → (0 ≤ p ∧ p < m) → ∀ y ∈ sortI (restL L (dataL m p)), 0 ≤ y ∧ y < 4 := by
    intro m p L hm hp y hy
    have h1 := (List.mem_filter.1 (sortI_mem.1 hy)).1
    have := dataL_mem hm hp h1
    omega
  have rlen : ∀ {m p : Int} {L : List (Int × List Nat × Nat)} {k : Nat}, (dataL m p).length = k → (sortI (restL L (dataL m p))).length ≤ k := by
    intro m p L k h
    rw [sortI_len, ← h]; exact restL_len _ _
  cases h with
  | err l m r s b0 b1 b2 b3 L c ro hM e he h =>
    by_cases hm : mayE l m r s b0 b1 b2 b3 = 0
    · obtain ⟨k, hk, k1, k3, h16, ho, hmm, hpz⟩ := base hM hm
      unfold needE at h
      rw [if_neg (by simp [hm])] at h
      have hn : ¬ (goodW m (pz l m r s) L ∧ L ≠ []) := fun hg => by rw [if_pos hg] at h; exact he h.symm
      rw [if_neg hn] at h
      subst h
      by_cases hL : L = []
      · subst hL
        exact conOk_walk hmix o10 hcf (nd_emp Ys.none l m r s b0 b1 b2 b3 [] c ro k (dataL m (pz l m r s)) hm h16 (nl_ok l m r s b0 b1 b2 b3 ro k _ hk k1 k3 (stm hM (by simp)) (fun y hy => by cases hy)) rfl)
      · have hb : ∃ y ∈ mV L, badN (dataL m (pz l m r s)) y := by
          refine Classical.byContradiction fun hh => hn ⟨goodW_mV.2 fun y hy hb => hh ⟨y, hy, hb⟩, hL⟩
        by_cases hl : L.length ≤ 1000
        · exact conOk_walk hmix o10 hcf (nd_bad Ys.none l m r s b0 b1 b2 b3 L c ro k (dataL m (pz l m r s)) hm h16 (nl_bad l m r s b0 b1 b2 b3 ro k _ hk k1 k3 (stm hM hl) hb))
        · exact absurd hM.small hl
    · have h2 : mayE l m r s b0 b1 b2 b3 = e := by unfold needE at h; rw [if_pos hm] at h; exact h
      exact conOk_walk hmix o10 hcf (nd_e Ys.none l m r s b0 b1 b2 b3 L c ro e he h2)
  | nil l m r s b0 b1 b2 b3 L c ro hM he hy =>
    obtain ⟨hm, hg, hL⟩ := some0 he
    obtain ⟨k, hk, k1, k3, h16, ho, hmm, hpz⟩ := base hM hm
    have hl := good_len hmm hpz hg hM.ks
    have H := nl_ok l m r s b0 b1 b2 b3 ro k _ hk k1 k3 (stm hM (by omega)) (goodW_mV.1 hg)
    have h0 : List.length (mV L) ≠ 0 := by rw [mV_length]; exact fun e => hL (List.length_eq_zero_iff.1 e)
    obtain ⟨p, hp⟩ := Int.eq_ofNat_of_zero_le hpz.1
    have hv := inP_nth b0 b1 b2 b3 p (by omega)
    rw [← show pz l m r s = ((p : Nat) : Int) from hp] at hv
    unfold needY at hy
    by_cases hi : inB4 b0 b1 b2 b3 (pz l m r s) = false
    · by_cases hr : restL L (dataL m (pz l m r s)) = []
      · exact conOk_walk hmix o10 hcf (nd_p0 Ys.none l m r s b0 b1 b2 b3 L c ro k _ hm h16 H h0 p (by omega) hp _ hv (S33.nil l m r s L c ro ho hr) (wf330 _ _ _ _ _ _ _) hi)
      · exact conOk_walk hmix o10 hcf (nd_p Ys.none l m r s b0 b1 b2 b3 L c ro k _ hm h16 H h0 p (by omega) hp _ hv _ _ (S33.mk l m r s L c ro ho _ rfl (List.length_pos_iff.2 hr)) (wf33 _ _ _ _ _ _ _ _ _) hi)
    · rw [if_neg hi] at hy
      have hi : inB4 b0 b1 b2 b3 (pz l m r s) = true := by simpa using hi
      by_cases ha : (sortI (restL L (dataL m (pz l m r s)))).all (inB4 b0 b1 b2 b3) = true
      · rw [if_pos ha] at hy
        have hr : restL L (dataL m (pz l m r s)) = [] := List.length_eq_zero_iff.1 (by rw [← sortI_len, hy]; rfl)
        exact conOk_walk hmix o10 hcf (nd_r0 Ys.none l m r s b0 b1 b2 b3 L c ro k _ hm h16 H h0 p (by omega) hp _ hv (S33.nil l m r s L c ro ho hr) (wf330 _ _ _ _ _ _ _) hi (S34.nil b0 b1 b2 b3) rfl)
      · rw [if_neg ha] at hy
        have := congrArg List.length hy
        rw [sortI_len] at this
        simp at this
  | mk l m r s b0 b1 b2 b3 L c ro hM he j hj j1 =>
    obtain ⟨hm, hg, hL⟩ := some0 he
    obtain ⟨k, hk, k1, k3, h16, ho, hmm, hpz⟩ := base hM hm
    have hl := good_len hmm hpz hg hM.ks
    have H := nl_ok l m r s b0 b1 b2 b3 ro k _ hk k1 k3 (stm hM (by omega)) (goodW_mV.1 hg)
    have h0 : List.length (mV L) ≠ 0 := by rw [mV_length]; exact fun e => hL (List.length_eq_zero_iff.1 e)
    obtain ⟨p, hp⟩ := Int.eq_ofNat_of_zero_le hpz.1
    have hv := inP_nth b0 b1 b2 b3 p (by omega)
    rw [← show pz l m r s = ((p : Nat) : Int) from hp] at hv
    have hbel : ∀ o ∈ [AObj.map (mV L) c ro], o.belD [AObj.map (mV L) c ro].length = true := fun o h => by
      simp only [List.mem_cons, List.not_mem_nil, or_false] at h; subst h; exact ebels_mV _ L
    have hpl : ∀ ys : List Int, (AObj.cells (iV ys) false).plain = true := fun ys => by show (!false && plains (iV ys)) = true; rw [plains_iV]; rfl
    unfold needY at hj ⊢
    by_cases hi : inB4 b0 b1 b2 b3 (pz l m r s) = false
    · rw [if_pos hi] at hj; simp at hj; omega
    · rw [if_neg hi] at hj ⊢
      have hi : inB4 b0 b1 b2 b3 (pz l m r s) = true := by simpa using hi
      by_cases ha : (sortI (restL L (dataL m (pz l m r s)))).all (inB4 b0 b1 b2 b3) = true
      · rw [if_pos ha] at hj ⊢
        have hr : (restL L (dataL m (pz l m r s))).length = j := by rw [← hj, sortI_len]
        have h34 := S34.mk b0 b1 b2 b3 (sortI (restL L (dataL m (pz l m r s)))) (rest4 hmm hpz) (by omega) (by have := rlen (L := L) hk; omega) j hj
        rw [ha] at h34
        exact conOk_new (f := fun b => .tuple [.slice b 0 j j 1, .int .i64 0]) (ob := .cells (iV (sortI (restL L (dataL m (pz l m r s))))) false) hmix o10 hcf (names_int (names_slice j j) 0) (hpl _) hbel (fun u m' h => endN_of (pre := [.map (mV L) c ro]) (f := fun b => .tuple [.slice b 0 j j 1, .int .i64 0]) (b := 5) (show (1 : Nat) ≤ 5 by decide) h)
          (nd_r Ys.none l m r s b0 b1 b2 b3 L c ro k _ hm h16 H h0 p (by omega) hp _ hv j _ (S33.mk l m r s L c ro ho j hr j1) (wf33 _ _ _ _ _ _ _ _ _) hi h34 (wf34 _ _ _ _ _ _ _))
      · rw [if_neg ha] at hj ⊢
        have ha' : (sortI (restL L (dataL m (pz l m r s)))).all (inB4 b0 b1 b2 b3) = false := by simpa using ha
        have hr1 : 1 ≤ (restL L (dataL m (pz l m r s))).length := by
          rcases Nat.eq_zero_or_pos (restL L (dataL m (pz l m r s))).length with e | e
          · rw [List.length_eq_zero_iff.1 e, show sortI [] = [] from List.length_eq_zero_iff.1 (by rw [sortI_len]; rfl)] at ha'; exact absurd ha' (by simp)
          · exact e
        have h34 := S34.mk b0 b1 b2 b3 (sortI (restL L (dataL m (pz l m r s)))) (rest4 hmm hpz) (by rw [sortI_len]; exact hr1) (by have := rlen (L := L) hk; omega) _ (sortI_len _)
        rw [ha'] at h34
        have hjn : j = L.length + 1 := by rw [← hj, sortI_len]; simp [keysG]
        subst hjn
        have hlen : ∀ x : EnL, x.Perm (mV L) → (keysE x).length = L.length := fun x hx => by rw [keysE, List.length_map, hx.length_eq, mV_length]
        have hperm : ∀ x : EnL, x.Perm (mV L) → sortI (keysE x ++ [pz l m r s]) = sortI (keysG L ++ [pz l m r s]) := fun x hx => sortI_perm (by
          refine List.Perm.append_right _ ?_
          rw [← keyE_mV]; exact hx.map _)
        rw [hp] at hperm
        have hY := hperm (mV L) (List.Perm.refl _)
        rw [show sortI (keysG L ++ [pz l m r s]) = sortI (keysG L ++ [((p : Nat) : Int)]) by rw [hp]]
        refine conOk_new (f := fun b => .tuple [.slice b 0 (L.length + 1) (L.length + 1) 1, .int .i64 0]) (ob := .cells (iV (sortI (keysG L ++ [((p : Nat) : Int)]))) false) hmix o10 hcf (names_int (names_slice _ _) 0) (hpl _) hbel (fun u m' h => endN_of (pre := [.map (mV L) c ro]) (f := fun b => .tuple [.slice b 0 (L.length + 1) (L.length + 1) 1, .int .i64 0]) (b := 11) (show (1 : Nat) ≤ 11 by decide) h)
          (nd_k Ys.none l m r s b0 b1 b2 b3 L c ro k _ hm h16 H h0 p (by omega) hp _ hv _ _ (S33.mk l m r s L c ro ho _ rfl hr1) (wf33 _ _ _ _ _ _ _ _ _) hi h34 (wf34 _ _ _ _ _ _ _) L.length _ (SQ37.mk L c ro L.length rfl (List.length_pos_iff.2 hL) (by omega) hM.lt hM.st) ⟨mV L, List.Perm.refl _⟩ (fun x _ => wfQ37 _ _ _ _ _) (fun x hx => grow_iV (hlen x hx) (by omega)) (fun x hx => ?_) (fun x => wf37 _ _ _ _))
        have h35 := S35.mk (L.length + 1) (L.length + 1) (keysE x ++ [((p : Nat) : Int)]) [] (by rw [List.length_append, hlen x hx]; rfl) (by omega) (by omega) (by rw [List.append_nil, List.length_append, hlen x hx]; rfl) (by omega)
        rw [List.append_nil] at h35
        have e := hperm x hx
        rw [show sortI (keysE x ++ [((p : Nat) : Int)]) = sortI (keysG L ++ [((p : Nat) : Int)]) from e] at h35
        exact h35
end
end Go.Proofs.Ytjikaankdnmabaa
