/- Makes by what it answers. No condition. -/
import Derived.Test.YtjikaankdnmabaaKL
namespace Go.Proofs.Ytjikaankdnmabaa
open Go Go.AM
set_option maxRecDepth 100000
set_option maxHeartbeats 4000000
set_option linter.unusedVariables false
set_option linter.unusedSectionVars false
theorem need0 {l m r s : Int} {b0 b1 b2 b3 : Bool} {L : List (Int × List Nat × Nat)} (h : needE l m r s b0 b1 b2 b3 L = 0) : mayE l m r s b0 b1 b2 b3 = 0 ∧ goodW m (pz l m r s) L ∧ L ≠ [] := by
  unfold needE at h
  by_cases hm : mayE l m r s b0 b1 b2 b3 = 0
  · rw [if_neg (by simp [hm])] at h
    by_cases hg : goodW m (pz l m r s) L ∧ L ≠ []
    · exact ⟨hm, hg⟩
    · rw [if_neg hg] at h; exact absurd h (by decide)
  · rw [if_pos hm] at h; exact absurd h hm
theorem may_mp {l m r s : Int} {b0 b1 b2 b3 : Bool} (h : mayE l m r s b0 b1 b2 b3 = 0) : (m = 2 ∨ m = 3 ∨ m = 4) ∧ (0 ≤ pz l m r s ∧ pz l m r s < m) := by
  have ho := ro_of_may h
  have g := (ro_t.1 ho).1.1
  exact ⟨by omega, pz_rng ho⟩
theorem needY_cnt {l m r s : Int} {b0 b1 b2 b3 : Bool} {L : List (Int × List Nat × Nat)} (h : needE l m r s b0 b1 b2 b3 L = 0) (hk : (keysG L).Nodup) : 1 ≤ L.length ∧ L.length ≤ 3 ∧ L.length + (needY l m r s b0 b1 b2 b3 L).length ≤ 5 ∧ (needY l m r s b0 b1 b2 b3 L).length ≤ 4 := by
  obtain ⟨hm, hg, hL⟩ := need0 h
  obtain ⟨hmm, hpz⟩ := may_mp hm
  have h1 := cnt_le hmm hpz hg hk
  have h2 : 1 ≤ L.length := List.length_pos_iff.2 hL
  refine ⟨h2, by omega, ?_⟩
  unfold needY
  split
  · simp only [List.length_nil]; omega
  · split
    · rw [sortI_len]; omega
    · rename_i ha
      have hr1 : 1 ≤ (restL L (dataL m (pz l m r s))).length := by
        rcases Nat.eq_zero_or_pos (restL L (dataL m (pz l m r s))).length with e | e
        · rw [List.length_eq_zero_iff.1 e, show sortI [] = [] from List.length_eq_zero_iff.1 (by rw [sortI_len]; rfl)] at ha; exact absurd ha (by simp)
        · exact e
      rw [sortI_len, List.length_append, keysG, List.length_map]
      simp only [List.length_cons, List.length_nil]
      omega
theorem texts_len {m p : Int} {L : List (Int × List Nat × Nat)} (hg : goodW m p L) {x : EnL} (hx : x.Perm (mV L)) : ∀ g ∈ x.map valI, g.length = 64 := fun g h => by
  have h1 : g ∈ textsG L := by rw [← texts_mV]; exact (hx.map valI).mem_iff.1 h
  obtain ⟨y, hy, rfl⟩ := List.mem_map.1 h1
  exact (hg y hy).2
theorem s28_at {m p : Int} {L : List (Int × List Nat × Nat)} (hg : goodW m p L) {x : EnL} (hx : x.Perm (mV L)) {gl : List (List Nat)} (hl : ∀ g ∈ gl, g.length = 64) (h1 : 1 ≤ L.length) {n : Nat} (hn : L.length + gl.length = n) (h5 : n ≤ 5) : S28 ⟨[.slice 0 0 n n 1], [.cells (tW x gl) false], .tuple [.str (sumG (textsG L ++ gl)), .int .i64 0], [.cells (tW x gl) false], []⟩ := by
  have hlen : (x.map valI ++ gl).length = n := by rw [List.length_append, List.length_map, hx.length_eq, mV_length]; exact hn
  have := S28.mk (x.map valI ++ gl) (fun g h => by rcases List.mem_append.1 h with h | h; · exact texts_len hg hx g h
                                                   · exact hl g h) (by omega) (by omega)
  unfold conSum at this
  rw [hlen, sumG_perm (ks := textsG L ++ gl) ((by rw [← texts_mV]; exact hx.map valI : (x.map valI).Perm (textsG L)).append_right gl)] at this
  exact this
section
variable {P : Program}
variable (hmix : P.follows .mixedOrders = true)
include hmix
omit hmix in
theorem tb12_ok (o43 : FOk P 43 c43) : TabOk P tb12 := by
  intro f af h
  simp only [tb12] at h
  by_cases e43 : f = 43
  · subst e43; cases h; exact o43
  rw [nbeqF e43] at h
  cases h
theorem s12_ok (l12 : LastOk P la12 id) (o43 : FOk P 43 c43) (o12 : FOk P 12 c12) : ∀ C, S12 C → C.wf = true → ConOk P 12 C := by
  intro C h _
  have hcf := callD_sound pHolds hmix (tb12_ok o43) l12 5
  cases h with
  | err l m r s b0 b1 b2 b3 L c ro G c2 ro2 gv hq hM e he h => exact conOk_walk hmix o12 hcf (mk_e Ys.none l m r s b0 b1 b2 b3 L c ro G c2 ro2 gv e he (.of _ (S10.err l m r s b0 b1 b2 b3 L c ro hM e he h)) (wf10e _ _ _ _ _ _ _ _ _ _ _ _))
  | errn l m r s b0 b1 b2 b3 L c ro G c2 ro2 gv e he h => exact conOk_walk hmix o12 hcf (mk_en Ys.none l m r s b0 b1 b2 b3 L c ro G c2 ro2 gv e he (S10g.nil l m r s b0 b1 b2 b3 e he h) (wf10n _ _ _ _ _ _ _ _ _))
  | no l m r s b0 b1 b2 b3 L c ro G c2 ro2 gv hq hM h0 hh =>
    have hc := needY_cnt h0 hM.ks
    have j1 : 1 ≤ (needY l m r s b0 b1 b2 b3 L).length := by
      rcases Nat.eq_zero_or_pos (needY l m r s b0 b1 b2 b3 L).length with e | e
      · rw [List.length_eq_zero_iff.1 e] at hh; exact absurd hh (by simp [hasAll])
      · exact e
    have h41 := S41g.mk gv G c2 ro2 hq (needY l m r s b0 b1 b2 b3 L) _ rfl j1 hc.2.2.2
    rw [hh] at h41
    exact conOk_walk hmix o12 hcf (mk_h Ys.none l m r s b0 b1 b2 b3 L c ro G c2 ro2 gv (gv_ren hq) _ (needY l m r s b0 b1 b2 b3 L) (.of _ (S10.mk l m r s b0 b1 b2 b3 L c ro hM h0 _ rfl j1)) (wf10 _ _ _ _ _ _ _ _ _ _ _ _ _) h41 (wf41 hq _ _ _ _ _))
theorem sq12_ok (l12 : LastOk P la12 id) (o43 : FOk P 43 c43) (o12 : FOk P 12 c12) : ∀ Q C, SQ12 Q C → (∀ x, Q x → (C x).wf = true) → ConQOk P 12 (fun X => ∃ x, Q x ∧ X = C x) := by
  intro Q C h _
  have hcf := callD_sound pHolds hmix (tb12_ok o43) l12 5
  cases h with | mk l m r s b0 b1 b2 b3 L c ro G c2 ro2 gv hq hM h0 hh =>
  obtain ⟨hm, hg, hL⟩ := need0 h0
  obtain ⟨hmm, hpz⟩ := may_mp hm
  obtain ⟨n1, n3, c5, y4⟩ := needY_cnt h0 hM.ks
  have hs : Stamped (mV L) c := ⟨fun y hy => by obtain ⟨z, hz, rfl⟩ := mV_mem hy; exact hM.lt z hz, by rw [mV_stamps]; exact hM.st, by rw [mV_length]; exact rounds_big (by omega)⟩
  have hkey : ∀ y ∈ L, 0 ≤ y.1 ∧ y.1 < 4 := fun y hy => by have := dataL_mem hmm hpz (hg y hy).1; omega
  obtain ⟨p, hp⟩ := Int.eq_ofNat_of_zero_le hpz.1
  have p4 : p < 4 := by omega
  have hv := inP_nth b0 b1 b2 b3 p p4
  have hbel : ∀ o ∈ [AObj.map (mV L) c ro, AObj.map (mV G) c2 ro2], o.belD [AObj.map (mV L) c ro, AObj.map (mV G) c2 ro2].length = true := fun o h => by
    simp only [List.mem_cons, List.not_mem_nil, or_false] at h
    rcases h with rfl | rfl <;> exact ebels_mV _ _
  have hpl : ∀ x : EnL, x.Perm (mV L) → (AObj.map (mV (makeG l m r s b0 b1 b2 b3 L G x)) (makeG l m r s b0 b1 b2 b3 L G x).length false).plain = true := fun x _ => by show (!false && plainEs _) = true; rw [plainEs_mV]; rfl
  have hfind : ∀ x : EnL, x.Perm (mV L) → findK (.one .int) (.int .i64 ((p : Nat) : Int)) (mV (outG b0 b1 b2 b3 0 x)) = some none := fun x hx => find_none fun y hy e => by
    obtain ⟨e1, he1, he2⟩ := outG_key b0 b1 b2 b3 x 0 y hy
    obtain ⟨z, hz, rfl⟩ := mV_mem (hx.mem_iff.1 he1)
    have h1 := (dataL_mem hmm hpz (hg z hz).1).2.2
    exact h1 (by rw [hp]; exact he2.trans e)
  have h42 := SQ42.mk L c ro L.length rfl n1 (by omega) hM.lt hM.st
  have x42 : ∃ x : EnL, x.Perm (mV L) := ⟨mV L, List.Perm.refl _⟩
  have w42 : ∀ x : EnL, x.Perm (mV L) → _ := fun x _ => wfQ42 L c ro L.length x
  have gOut : inB4 b0 b1 b2 b3 (pz l m r s) = false → ∀ x, makeG l m r s b0 b1 b2 b3 L G x = outG b0 b1 b2 b3 0 x := fun hi x => by
    unfold makeG; rw [if_neg (by rw [hi]; decide), List.append_nil]
  have gIn : inB4 b0 b1 b2 b3 (pz l m r s) = true → ∀ x, mV (makeG l m r s b0 b1 b2 b3 L G x) = mV (outG b0 b1 b2 b3 0 x) ++ [(.int .i64 ((p : Nat) : Int), .str (makeS l m r s b0 b1 b2 b3 L G), List.length (outG b0 b1 b2 b3 0 x))] ∧ (makeG l m r s b0 b1 b2 b3 L G x).length = List.length (outG b0 b1 b2 b3 0 x) + 1 := fun hi x => by
    unfold makeG; rw [if_pos hi, mV_app, List.length_append, hp]; exact ⟨rfl, rfl⟩
  by_cases hy : needY l m r s b0 b1 b2 b3 L = []
  · have h10 := S10g.of _ (S10.nil l m r s b0 b1 b2 b3 L c ro hM h0 hy)
    have H := mloop l m r s b0 b1 b2 b3 L c ro G c2 ro2 gv hs hM.ks hkey
    cases hi : inB4 b0 b1 b2 b3 (pz l m r s) with
    | false =>
      rw [show inB4 b0 b1 b2 b3 ((p : Nat) : Int) = false by rw [← hp]; exact hi] at hv
      refine conQOk_new (f := fun b => .tuple [.map b, .int .i64 0]) (ob := fun x => .map (mV (makeG l m r s b0 b1 b2 b3 L G x)) (makeG l m r s b0 b1 b2 b3 L G x).length false) hmix o12 hcf (names_int names_map 0) hpl hbel (fun u m' h => ?_) (mk_o Ys.none l m r s b0 b1 b2 b3 L c ro G c2 ro2 gv (gv_ren hq) h10 (wf10e _ _ _ _ _ _ _ _ _ _ _ _) (S41g.nil gv G c2 ro2 hq L c ro) (wf410 hq _ _ _ _ _) H p p4 hp hv)
      obtain ⟨x, hx, h⟩ := h
      exact ⟨x, hx, endN_of (pre := [AObj.map (mV L) c ro, AObj.map (mV G) c2 ro2]) (f := fun b => .tuple [.map b, .int .i64 0]) (b := 4) (show (2 : Nat) ≤ 4 by decide) (by rw [gOut hi x]; exact h)⟩
    | true =>
      rw [show inB4 b0 b1 b2 b3 ((p : Nat) : Int) = true by rw [← hp]; exact hi] at hv
      have hX : makeS l m r s b0 b1 b2 b3 L G = sumG (textsG L ++ []) := by unfold makeS; rw [hy]; rfl
      refine conQOk_new (f := fun b => .tuple [.map b, .int .i64 0]) (ob := fun x => .map (mV (makeG l m r s b0 b1 b2 b3 L G x)) (makeG l m r s b0 b1 b2 b3 L G x).length false) hmix o12 hcf (names_int names_map 0) hpl hbel (fun u m' h => ?_) (mk_0 Ys.none l m r s b0 b1 b2 b3 L c ro G c2 ro2 gv (gv_ren hq) h10 (wf10e _ _ _ _ _ _ _ _ _ _ _ _) (S41g.nil gv G c2 ro2 hq L c ro) (wf410 hq _ _ _ _ _) H p p4 hp hv L.length h42 x42 w42 (S44g.nil gv G c2 ro2 hq L c ro) (wf440 hq _ _ _ _ _) (makeS l m r s b0 b1 b2 b3 L G) (fun x hx => ?_) (fun x => by show Con.wf ⟨[.slice 0 0 L.length L.length 1], [.cells (tV x) false], .tuple [.str (makeS l m r s b0 b1 b2 b3 L G), .int .i64 0], [.cells (tV x) false], []⟩ = true; rw [tV_tW]; exact wf28 _ _ _ _) hfind)
      · obtain ⟨x, hx, h⟩ := h
        exact ⟨x, hx, endN_of (pre := [AObj.map (mV L) c ro, AObj.map (mV G) c2 ro2]) (f := fun b => .tuple [.map b, .int .i64 0]) (b := 4) (show (2 : Nat) ≤ 4 by decide) (by rw [(gIn hi x).1, (gIn hi x).2]; exact h)⟩
      · show S28 ⟨[.slice 0 0 L.length L.length 1], [.cells (tV x) false], .tuple [.str (makeS l m r s b0 b1 b2 b3 L G), .int .i64 0], [.cells (tV x) false], []⟩
        rw [hX, tV_tW]
        exact s28_at hg hx (fun g h => by cases h) n1 rfl (by omega)
  · have hi : inB4 b0 b1 b2 b3 (pz l m r s) = true := by
      cases hi : inB4 b0 b1 b2 b3 (pz l m r s) with
      | true => rfl
      | false => exact absurd (by unfold needY; rw [if_pos hi]) hy
    rw [show inB4 b0 b1 b2 b3 ((p : Nat) : Int) = true by rw [← hp]; exact hi] at hv
    have h10 := S10g.of _ (S10.mk l m r s b0 b1 b2 b3 L c ro hM h0 _ rfl (List.length_pos_iff.2 hy))
    have h41 := S41g.mk gv G c2 ro2 hq (needY l m r s b0 b1 b2 b3 L) _ rfl (List.length_pos_iff.2 hy) y4
    rw [hh] at h41
    have h44 := S44g.mk gv G c2 ro2 hq (needY l m r s b0 b1 b2 b3 L) _ rfl (List.length_pos_iff.2 hy) y4 hh
    have hX : makeS l m r s b0 b1 b2 b3 L G = sumG (textsG L ++ (needY l m r s b0 b1 b2 b3 L).map (lookG G)) := rfl
    have hl : ∀ g ∈ (needY l m r s b0 b1 b2 b3 L).map (lookG G), g.length = 64 := fun g h => by
      obtain ⟨y, hyy, rfl⟩ := List.mem_map.1 h
      have := List.all_eq_true.1 hh y hyy
      simpa using this
    have hgl : ((needY l m r s b0 b1 b2 b3 L).map (lookG G)).length = (needY l m r s b0 b1 b2 b3 L).length := List.length_map _
    have hgr : ∀ x : EnL, x.Perm (mV L) → growV 1 16 (needY l m r s b0 b1 b2 b3 L).length (stV ((needY l m r s b0 b1 b2 b3 L).map (lookG G))) 0 L.length L.length (tV x) = some (tW x ((needY l m r s b0 b1 b2 b3 L).map (lookG G))) := fun x hx => grow_tW (by rw [hx.length_eq, mV_length]) hgl (List.length_pos_iff.2 hy) (by omega)
    have h28 : ∀ x : EnL, x.Perm (mV L) → S28 ⟨[.slice 0 0 (L.length + (needY l m r s b0 b1 b2 b3 L).length) (L.length + (needY l m r s b0 b1 b2 b3 L).length) 1], [.cells (tW x ((needY l m r s b0 b1 b2 b3 L).map (lookG G))) false], .tuple [.str (makeS l m r s b0 b1 b2 b3 L G), .int .i64 0], [.cells (tW x ((needY l m r s b0 b1 b2 b3 L).map (lookG G))) false], []⟩ := fun x hx => by
      rw [hX]
      exact s28_at hg hx hl n1 (by rw [hgl]) (by omega)
    have run := mk_j Ys.none l m r s b0 b1 b2 b3 L c ro G c2 ro2 gv (gv_ren hq) (needY l m r s b0 b1 b2 b3 L).length (needY l m r s b0 b1 b2 b3 L) ((needY l m r s b0 b1 b2 b3 L).map (lookG G)) h10 (wf10 _ _ _ _ _ _ _ _ _ _ _ _ _) h41 (wf41 hq _ _ _ _ _) (mloopj l m r s b0 b1 b2 b3 L c ro G c2 ro2 gv (needY l m r s b0 b1 b2 b3 L).length (needY l m r s b0 b1 b2 b3 L) hs hM.ks hkey) p p4 hp hv L.length h42 x42 w42 h44 (wf44 hq _ _ _ _ _) (by have := takeN_all (stV ((needY l m r s b0 b1 b2 b3 L).map (lookG G))); rwa [show (stV ((needY l m r s b0 b1 b2 b3 L).map (lookG G))).length = (needY l m r s b0 b1 b2 b3 L).length by simp [stV]] at this) hgr (makeS l m r s b0 b1 b2 b3 L G) h28 (fun x => wf28 _ x _ _) hfind
    refine conQOk_new (f := fun b => .tuple [.map b, .int .i64 0]) (ob := fun x => .map (mV (makeG l m r s b0 b1 b2 b3 L G x)) (makeG l m r s b0 b1 b2 b3 L G x).length false) hmix o12 hcf (names_int names_map 0) hpl hbel (fun u m' h => ?_) run
    obtain ⟨x, hx, h⟩ := h
    exact ⟨x, hx, endN_of (pre := [AObj.map (mV L) c ro, AObj.map (mV G) c2 ro2]) (f := fun b => .tuple [.map b, .int .i64 0]) (b := 5) (show (2 : Nat) ≤ 5 by decide) (by rw [(gIn hi x).1, (gIn hi x).2]; exact h)⟩
end
end Go.Proofs.Ytjikaankdnmabaa
