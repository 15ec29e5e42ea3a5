/- The document's Makes by what it answers. No condition. -/
import Derived.Test.YtjikaankdnmabaaAW
namespace Go.Proofs.Ytjikaankdnmabaa
open Go Go.AM
set_option maxRecDepth 100000
set_option maxHeartbeats 4000000
set_option linter.unusedVariables false
set_option linter.unusedSectionVars false
theorem loopD_congr {cfy : Ys Prop → CF Prop} {B : Nat} {b : ACode} {e : Ex} {M0 : Mem} {l0 : List (Sl × V)} {Q : EnL → Prop} {M1 M2 : EnL → Mem} {l1 l2 : EnL → List (Sl × V)} (h : LoopOkD cfy B b e M0 l0 Q M1 l1) (he : ∀ x, Q x → M1 x = M2 x ∧ l1 x = l2 x) : LoopOkD cfy B b e M0 l0 Q M2 l2 :=
  fun Y T hT K hK => h Y T hT K fun x hx T' hT' => by
    rw [(he x hx).1]
    rw [(he x hx).2] at hT'
    exact hK x hx T' hT'
theorem obT_ne {l : List (List Nat)} (h : l ≠ []) : obT l = .cells (stV l) false := by
  cases l with
  | nil => exact absurd rfl h
  | cons => rfl
theorem slT_ne {b n : Nat} {l : List (List Nat)} (h : l.length = n) (h1 : 1 ≤ n) : slT b l = .slice b 0 n n 1 := by
  cases l with
  | nil => simp at h; omega
  | cons x l => subst h; rfl
theorem wf45 {gv : V} {G : List (Int × List Nat × Nat)} (hv : GvOk gv G) (c2 : Nat) (ro2 : Bool) (j k : Nat) (ys : List Int) (gs : List (List Nat)) : Con.wf ⟨[gv, .slice 0 0 j j 1], [.cells (iV ys) false, .map (mV G) c2 ro2], .tuple [.slice 2 0 k k 1, .bool true], [.cells (iV ys) false, .map (mV G) c2 ro2], [(2, .cells (stV gs) false)]⟩ = true := by
  rcases hv with rfl | ⟨rfl, _⟩ <;> · simp only [Con.wf, bels, V.bel, Con.p0, Con.p1, hasN, List.length_cons, List.length_nil, List.all_cons, List.all_nil, AObj.bel, bels_iV, bels_stV, ebels_mV, AObj.live, AObj.wr, Bool.and_true, nodupN, Bool.and_self]
                                      rfl
theorem wf45b {gv : V} {G : List (Int × List Nat × Nat)} (hv : GvOk gv G) (c2 : Nat) (ro2 : Bool) (j : Nat) (ys : List Int) : Con.wf ⟨[gv, .slice 0 0 j j 1], [.cells (iV ys) false, .map (mV G) c2 ro2], .tuple [.nilslice, .bool false], [.cells (iV ys) false, .map (mV G) c2 ro2], []⟩ = true := by
  rcases hv with rfl | ⟨rfl, _⟩ <;> · simp only [Con.wf, bels, V.bel, Con.p0, Con.p1, hasN, List.length_cons, List.length_nil, List.all_cons, List.all_nil, AObj.bel, bels_iV, bels_stV, ebels_mV, AObj.live, AObj.wr, Bool.and_true, nodupN, Bool.and_self]
                                      rfl
theorem wf450 {gv : V} {G : List (Int × List Nat × Nat)} (hv : GvOk gv G) (c2 : Nat) (ro2 : Bool) (L : List (Int × List Nat × Nat)) (c : Nat) (ro : Bool) : Con.wf ⟨[gv, .nilslice], [.map (mV L) c ro, .map (mV G) c2 ro2], .tuple [.nilslice, .bool true], [.map (mV L) c ro, .map (mV G) c2 ro2], []⟩ = true := by
  rcases hv with rfl | ⟨rfl, _⟩ <;> · simp only [Con.wf, bels, V.bel, Con.p0, Con.p1, hasN, List.length_cons, List.length_nil, List.all_cons, List.all_nil, AObj.bel, bels_iV, bels_stV, ebels_mV, AObj.live, AObj.wr, Bool.and_true, nodupN, Bool.and_self]
                                      rfl
theorem wf46 (n : Nat) (gs : List (List Nat)) (X : List Nat) : Con.wf ⟨[.slice 0 0 n n 1], [.cells (stV gs) false], .tuple [.str X, .bool true], [.cells (stV gs) false], []⟩ = true := by
  simp only [Con.wf, bels, V.bel, Con.p0, List.length_cons, List.length_nil, List.all_cons, List.all_nil, AObj.bel, bels_stV, AObj.live, Bool.and_true, nodupN, Bool.and_self]
  rfl
theorem s46_at {m p : Int} {L : List (Int × List Nat × Nat)} (hg : goodW m p L) {x : EnL} (hx : x.Perm (mV L)) {gl : List (List Nat)} (hl : ∀ g ∈ gl, g.length = 64) (h1 : 1 ≤ L.length) {n : Nat} (hn : gl.length + L.length = n) (h5 : n ≤ 5) : S46 ⟨[.slice 0 0 n n 1], [.cells (stV (gl ++ x.map valI)) false], .tuple [.str (sumG (textsG L ++ gl)), .bool true], [.cells (stV (gl ++ x.map valI)) false], []⟩ := by
  have hlen : (gl ++ x.map valI).length = n := by rw [List.length_append, List.length_map, hx.length_eq, mV_length]; exact hn
  have := S46.mk (gl ++ x.map valI) (fun g h => by
    rcases List.mem_append.1 h with h | h
    · exact hl g h
    · exact texts_len hg hx g h) (by omega) (by omega)
  unfold conSum at this
  rw [hlen, sumG_perm (ks := textsG L ++ gl) (List.perm_append_comm.trans ((by rw [← texts_mV]; exact hx.map valI : (x.map valI).Perm (textsG L)).append_right gl))] at this
  exact this
section
variable {P : Program}
variable (hmix : P.follows .mixedOrders = true)
include hmix
theorem s13_ok (l13 : LastOk P la13 id) (o13 : FOk P 13 c13) : ∀ C, S12 C → C.wf = true → ConOk P 13 C := by
  intro C h _
  have hcf := callD_sound (A := pA) pHolds hmix tb0_ok l13 5
  cases h with
  | errn l m r s b0 b1 b2 b3 L c ro G c2 ro2 gv e he h => exact conOk_walk hmix o13 hcf (mr_en Ys.none l m r s b0 b1 b2 b3 L c ro G c2 ro2 gv e he (S10g.nil l m r s b0 b1 b2 b3 e he h) (wf10n _ _ _ _ _ _ _ _ _))
  | err l m r s b0 b1 b2 b3 L c ro G c2 ro2 gv hq hM e he h => exact conOk_walk hmix o13 hcf (mr_e Ys.none l m r s b0 b1 b2 b3 L c ro G c2 ro2 gv e he (.of _ (S10.err l m r s b0 b1 b2 b3 L c ro hM e he h)) (wf10e _ _ _ _ _ _ _ _ _ _ _ _))
  | no l m r s b0 b1 b2 b3 L c ro G c2 ro2 gv hq hM h0 hh =>
    have hc := needY_cnt h0 hM.ks
    have j1 : 1 ≤ (needY l m r s b0 b1 b2 b3 L).length := by
      rcases Nat.eq_zero_or_pos (needY l m r s b0 b1 b2 b3 L).length with e | e
      · rw [List.length_eq_zero_iff.1 e] at hh; exact absurd hh (by simp [hasAll])
      · exact e
    exact conOk_walk hmix o13 hcf (mr_b Ys.none l m r s b0 b1 b2 b3 L c ro G c2 ro2 gv (gv_ren hq) _ (needY l m r s b0 b1 b2 b3 L) (.of _ (S10.mk l m r s b0 b1 b2 b3 L c ro hM h0 _ rfl j1)) (wf10 _ _ _ _ _ _ _ _ _ _ _ _ _) (S45g.bad gv G c2 ro2 hq _ _ rfl j1 hc.2.2.2 hh) (wf45b hq _ _ _ _))
theorem sq13_ok (l13 : LastOk P la13 id) (o13 : FOk P 13 c13) : ∀ Q C, SQ12 Q C → (∀ x, Q x → (C x).wf = true) → ConQOk P 13 (fun X => ∃ x, Q x ∧ X = C x) := by
  intro Q C h _
  have hcf := callD_sound (A := pA) pHolds hmix tb0_ok l13 5
  cases h with | mk l m r s b0 b1 b2 b3 L c ro G c2 ro2 gv hq hM h0 hh =>
  obtain ⟨hm, hg, hL⟩ := need0 h0
  obtain ⟨hmm, hpz⟩ := may_mp hm
  obtain ⟨n1, n3, c5, y4⟩ := needY_cnt h0 hM.ks
  have hs : Stamped (mV L) c := stamped_of hM
  have hkey : ∀ y ∈ L, 0 ≤ y.1 ∧ y.1 < 4 := fun y hy => by have := dataL_mem hmm hpz (hg y hy).1; omega
  obtain ⟨p, hp⟩ := Int.eq_ofNat_of_zero_le hpz.1
  have p4 : p < 4 := by omega
  have hv := inP_nth b0 b1 b2 b3 p p4
  have h40 : R40 [geo l m r, .int .i64 s] = some (.int .i64 ((p : Nat) : Int)) := by rw [← hp]; exact if_pos (ro_of_may hm)
  have hbel : ∀ o ∈ [AObj.map (mV L) c ro, AObj.map (mV G) c2 ro2], o.belD [AObj.map (mV L) c ro, AObj.map (mV G) c2 ro2].length = true := fun o h => by
    simp only [List.mem_cons, List.not_mem_nil, or_false] at h
    rcases h with rfl | rfl <;> exact ebels_mV _ _
  have hpl : ∀ x : EnL, x.Perm (mV L) → (AObj.map (mV (makeG l m r s b0 b1 b2 b3 L G x)) (makeG l m r s b0 b1 b2 b3 L G x).length false).plain = true := fun x _ => by show (!false && plainEs _) = true; rw [plainEs_mV]; rfl
  have hfind : ∀ x : EnL, x.Perm (mV L) → findK (.one .int) (.int .i64 ((p : Nat) : Int)) (mV (outG b0 b1 b2 b3 0 x)) = some none := fun x hx => find_none fun y hy e => by
    obtain ⟨e1, he1, he2⟩ := outG_key b0 b1 b2 b3 x 0 y hy
    obtain ⟨z, hz, rfl⟩ := mV_mem (hx.mem_iff.1 he1)
    have h1 := (dataL_mem hmm hpz (hg z hz).1).2.2
    exact h1 (by rw [hp]; exact he2.trans e)
  have gOut : inB4 b0 b1 b2 b3 (pz l m r s) = false → ∀ x, makeG l m r s b0 b1 b2 b3 L G x = outG b0 b1 b2 b3 0 x := fun hi x => by
    unfold makeG; rw [if_neg (by rw [hi]; decide), List.append_nil]
  have gIn : inB4 b0 b1 b2 b3 (pz l m r s) = true → ∀ x, mV (makeG l m r s b0 b1 b2 b3 L G x) = mV (outG b0 b1 b2 b3 0 x) ++ [(.int .i64 ((p : Nat) : Int), .str (makeS l m r s b0 b1 b2 b3 L G), List.length (outG b0 b1 b2 b3 0 x))] ∧ (makeG l m r s b0 b1 b2 b3 L G x).length = List.length (outG b0 b1 b2 b3 0 x) + 1 := fun hi x => by
    unfold makeG; rw [if_pos hi, mV_app, List.length_append, hp]; exact ⟨rfl, rfl⟩
  have hxl : ∀ x : EnL, x.Perm (mV L) → (x.map valI).length = L.length := fun x hx => by rw [List.length_map, hx.length_eq, mV_length]
  have hptx : ∀ (gl : List (List Nat)) (σ : Nat → Nat) (x : EnL), rens σ (stV (gl ++ x.map valI)) = stV (gl ++ x.map valI) := fun gl σ x => rens_stV σ _
  by_cases hy : needY l m r s b0 b1 b2 b3 L = []
  · have h10 := S10g.of _ (S10.nil l m r s b0 b1 b2 b3 L c ro hM h0 hy)
    have H0 := mrloop_o l m r s b0 b1 b2 b3 L c ro G c2 ro2 [] rfl (by decide) hs n3 hM.ks hkey
    have H := loopD_congr (M2 := fun v => memL 7 [(0, .map (mV L) c ro), (1, .map (mV G) c2 ro2), (2, .cells [.int .i64 l, .int .i64 m, .int .i64 r] false), (3, .cells (inP b0 b1 b2 b3) false), (4, .map (mV (outG b0 b1 b2 b3 0 v)) (List.length (outG b0 b1 b2 b3 0 v)) false), (5, .iter (some 0) c (stamps v) c), (6, .cells (stV ([] ++ v.map valI)) false)]) (l2 := fun v => [(s1, .int .i64 s), (s5, .ptr 2 0), (s7, .ptr 3 0), (s14, .slice 6 0 L.length L.length 1), (s16, .map 4), (s41, .ptr 5 0)]) H0 (fun v hv => ⟨by rw [obT_ne (l := [] ++ v.map valI) (by intro e; have := hxl v hv; rw [List.nil_append] at e; rw [e] at this; simp at this; omega)], by rw [slT_ne (n := L.length) (by rw [List.nil_append]; exact hxl v hv) n1]⟩)
    cases hi : inB4 b0 b1 b2 b3 (pz l m r s) with
    | false =>
      rw [show inB4 b0 b1 b2 b3 ((p : Nat) : Int) = false by rw [← hp]; exact hi] at hv
      refine conQOk_newD (f := fun b => .tuple [.map b, .int .i64 0]) (ob := fun x => .map (mV (makeG l m r s b0 b1 b2 b3 L G x)) (makeG l m r s b0 b1 b2 b3 L G x).length false) hmix o13 hcf (names_int names_map 0) hpl hbel (fun u m' h => ?_) (mr_o Ys.none l m r s b0 b1 b2 b3 L c ro G c2 ro2 gv (gv_ren hq) h10 (wf10e _ _ _ _ _ _ _ _ _ _ _ _) (S45g.nil gv G c2 ro2 hq L c ro) (wf450 hq _ _ _ _ _) L.length (fun v => stV ([] ++ v.map valI)) H p p4 h40 hv)
      obtain ⟨x, hx, h⟩ := h
      exact ⟨x, hx, endN_of (pre := [AObj.map (mV L) c ro, AObj.map (mV G) c2 ro2]) (f := fun b => .tuple [.map b, .int .i64 0]) (b := 4) (show (2 : Nat) ≤ 4 by decide) (by rw [gOut hi x]; exact h)⟩
    | true =>
      rw [show inB4 b0 b1 b2 b3 ((p : Nat) : Int) = true by rw [← hp]; exact hi] at hv
      have hX : makeS l m r s b0 b1 b2 b3 L G = sumG (textsG L ++ []) := by unfold makeS; rw [hy]; rfl
      have h46 : ∀ x : EnL, x.Perm (mV L) → S46 ⟨[.slice 0 0 L.length L.length 1], [.cells (stV ([] ++ x.map valI)) false], .tuple [.str (makeS l m r s b0 b1 b2 b3 L G), .bool true], [.cells (stV ([] ++ x.map valI)) false], []⟩ := fun x hx => by
        rw [hX]; exact s46_at hg hx (fun g h => by cases h) n1 (Nat.zero_add _) (by omega)
      refine conQOk_newD (f := fun b => .tuple [.map b, .int .i64 0]) (ob := fun x => .map (mV (makeG l m r s b0 b1 b2 b3 L G x)) (makeG l m r s b0 b1 b2 b3 L G x).length false) hmix o13 hcf (names_int names_map 0) hpl hbel (fun u m' h => ?_) (mr_s Ys.none l m r s b0 b1 b2 b3 L c ro G c2 ro2 gv (gv_ren hq) h10 (wf10e _ _ _ _ _ _ _ _ _ _ _ _) (S45g.nil gv G c2 ro2 hq L c ro) (wf450 hq _ _ _ _ _) L.length (fun v => stV ([] ++ v.map valI)) H p p4 h40 hv _ h46 (fun x => wf46 _ _ _) (hptx []) hfind)
      obtain ⟨x, hx, h⟩ := h
      exact ⟨x, hx, endN_of (pre := [AObj.map (mV L) c ro, AObj.map (mV G) c2 ro2]) (f := fun b => .tuple [.map b, .int .i64 0]) (b := 4) (show (2 : Nat) ≤ 4 by decide) (by rw [(gIn hi x).1, (gIn hi x).2]; exact h)⟩
  · have hi : inB4 b0 b1 b2 b3 (pz l m r s) = true := by
      cases hi : inB4 b0 b1 b2 b3 (pz l m r s) with
      | true => rfl
      | false => exact absurd (by unfold needY; rw [if_pos hi]) hy
    rw [show inB4 b0 b1 b2 b3 ((p : Nat) : Int) = true by rw [← hp]; exact hi] at hv
    have j1 := List.length_pos_iff.2 hy
    have h10 := S10g.of _ (S10.mk l m r s b0 b1 b2 b3 L c ro hM h0 _ rfl j1)
    have h45 := S45g.mk gv G c2 ro2 hq (needY l m r s b0 b1 b2 b3 L) _ rfl j1 y4 hh
    have hgl : ((needY l m r s b0 b1 b2 b3 L).map (lookG G)).length = (needY l m r s b0 b1 b2 b3 L).length := List.length_map _
    have hgne : (needY l m r s b0 b1 b2 b3 L).map (lookG G) ≠ [] := fun e => hy (List.map_eq_nil_iff.1 e)
    have H0 := mrloop_k l m r s b0 b1 b2 b3 L c ro G c2 ro2 (.cells (iV (needY l m r s b0 b1 b2 b3 L)) false) ((needY l m r s b0 b1 b2 b3 L).map (lookG G)) hgne (by omega) hs n3 hM.ks hkey
    rw [obT_ne hgne, slT_ne hgl j1] at H0
    have hlen : ∀ v : EnL, v.Perm (mV L) → ((needY l m r s b0 b1 b2 b3 L).map (lookG G) ++ v.map valI).length = (needY l m r s b0 b1 b2 b3 L).length + L.length := fun v hv => by rw [List.length_append, hgl, hxl v hv]
    have H := loopD_congr (M2 := fun v => memL 8 [(0, .map (mV L) c ro), (1, .map (mV G) c2 ro2), (2, .cells [.int .i64 l, .int .i64 m, .int .i64 r] false), (3, .cells (inP b0 b1 b2 b3) false), (4, .dead), (5, .cells (stV ((needY l m r s b0 b1 b2 b3 L).map (lookG G) ++ v.map valI)) false), (6, .map (mV (outG b0 b1 b2 b3 0 v)) (List.length (outG b0 b1 b2 b3 0 v)) false), (7, .iter (some 0) c (stamps v) c)]) (l2 := fun v => [(s1, .int .i64 s), (s5, .ptr 2 0), (s7, .ptr 3 0), (s14, .slice 5 0 ((needY l m r s b0 b1 b2 b3 L).length + L.length) ((needY l m r s b0 b1 b2 b3 L).length + L.length) 1), (s16, .map 6), (s41, .ptr 7 0)]) H0 (fun v hv => ⟨by rw [obT_ne (l := (needY l m r s b0 b1 b2 b3 L).map (lookG G) ++ v.map valI) (by intro e; exact hgne (List.append_eq_nil_iff.1 e).1)], by rw [slT_ne (n := (needY l m r s b0 b1 b2 b3 L).length + L.length) (hlen v hv) (by omega)]⟩)
    have h46 : ∀ x : EnL, x.Perm (mV L) → S46 ⟨[.slice 0 0 ((needY l m r s b0 b1 b2 b3 L).length + L.length) ((needY l m r s b0 b1 b2 b3 L).length + L.length) 1], [.cells (stV ((needY l m r s b0 b1 b2 b3 L).map (lookG G) ++ x.map valI)) false], .tuple [.str (makeS l m r s b0 b1 b2 b3 L G), .bool true], [.cells (stV ((needY l m r s b0 b1 b2 b3 L).map (lookG G) ++ x.map valI)) false], []⟩ := fun x hx =>
      s46_at hg hx (fun g h => by
        obtain ⟨y, hyy, rfl⟩ := List.mem_map.1 h
        have := List.all_eq_true.1 hh y hyy
        simpa using this) n1 (by rw [hgl]) (by omega)
    refine conQOk_newD (f := fun b => .tuple [.map b, .int .i64 0]) (ob := fun x => .map (mV (makeG l m r s b0 b1 b2 b3 L G x)) (makeG l m r s b0 b1 b2 b3 L G x).length false) hmix o13 hcf (names_int names_map 0) hpl hbel (fun u m' h => ?_) (mr_k Ys.none l m r s b0 b1 b2 b3 L c ro G c2 ro2 gv (gv_ren hq) _ (needY l m r s b0 b1 b2 b3 L) ((needY l m r s b0 b1 b2 b3 L).map (lookG G)) h10 (wf10 _ _ _ _ _ _ _ _ _ _ _ _ _) h45 (wf45 hq _ _ _ _ _ _) ((needY l m r s b0 b1 b2 b3 L).length + L.length) (fun v => stV ((needY l m r s b0 b1 b2 b3 L).map (lookG G) ++ v.map valI)) H p p4 h40 hv _ h46 (fun x => wf46 _ _ _) (hptx _) hfind)
    obtain ⟨x, hx, h⟩ := h
    exact ⟨x, hx, endN_of (pre := [AObj.map (mV L) c ro, AObj.map (mV G) c2 ro2]) (f := fun b => .tuple [.map b, .int .i64 0]) (b := 6) (show (2 : Nat) ≤ 6 by decide) (by rw [(gIn hi x).1, (gIn hi x).2]; exact h)⟩
end
end Go.Proofs.Ytjikaankdnmabaa
