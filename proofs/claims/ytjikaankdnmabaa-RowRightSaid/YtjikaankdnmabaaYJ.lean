/- The law by its cases. No condition. -/
import Derived.Test.YtjikaankdnmabaaPJ
namespace Go.Proofs.Ytjikaankdnmabaa
open Go Go.AM
set_option maxRecDepth 100000
set_option maxHeartbeats 4000000
set_option linter.unusedVariables false
set_option linter.unusedSectionVars false
theorem wf23m (X : List (Int × List Nat × Nat)) (n : Nat) (l m r s : Int) (t0 t1 t2 t3 : List Nat) : Con.wf ⟨[geo l m r, .int .i64 s, .agg [.str t0, .str t1, .str t2, .str t3]], [], .tuple [.map 0, .bool true], [], [(0, .map (mV X) n false)]⟩ = true := by
  simp only [Con.wf, bels, V.bel, Con.p0, Con.p1, hasN, List.length_cons, List.length_nil, List.all_cons, List.all_nil, AObj.bel, bels_iV, bels_str, ebels_mV, AObj.live, AObj.wr, Bool.and_true, nodupN, Bool.and_self]
  rfl
theorem wf17 (ys : List Int) (j n : Nat) (k : Int) (t0 t1 t2 t3 : List Nat) (W : List (Int × List Nat × Nat)) : Con.wf ⟨[.slice 0 0 j j 1, .agg [.str t0, .str t1, .str t2, .str t3], .int .u8 k], [.cells (iV ys) false], .map 2, [.cells (iV ys) false], [(2, .map (mV W) n false)]⟩ = true := by
  simp only [Con.wf, bels, V.bel, Con.p0, Con.p1, hasN, List.length_cons, List.length_nil, List.all_cons, List.all_nil, AObj.bel, bels_iV, bels_str, ebels_mV, AObj.live, AObj.wr, Bool.and_true, nodupN, Bool.and_self]
  rfl
theorem wf24 (ys : List Int) (j n n2 n3 : Nat) (M W Z : List (Int × List Nat × Nat)) : Con.wf ⟨[.slice 0 0 j j 1, .map 1, .map 2], [.cells (iV ys) false, .map (mV M) n false, .map (mV W) n2 false], .map 3, [.cells (iV ys) false, .map (mV M) n false, .map (mV W) n2 false], [(3, .map (mV Z) n3 false)]⟩ = true := by
  simp only [Con.wf, bels, V.bel, Con.p0, Con.p1, hasN, List.length_cons, List.length_nil, List.all_cons, List.all_nil, AObj.bel, bels_iV, bels_str, ebels_mV, AObj.live, AObj.wr, Bool.and_true, nodupN, Bool.and_self]
  rfl
theorem wf25a (l m r s : Int) (b0 b1 b2 b3 : Bool) (M : List (Int × List Nat × Nat)) (n : Nat) : Con.wf ⟨[geo l m r, .int .i64 s, ag b0 b1 b2 b3, .map 0, .map 0], [.map (mV M) n false], .bool true, [.map (mV M) n false], []⟩ = true := by
  simp only [Con.wf, bels, V.bel, Con.p0, Con.p1, hasN, List.length_cons, List.length_nil, List.all_cons, List.all_nil, AObj.bel, bels_iV, bels_str, ebels_mV, AObj.live, AObj.wr, Bool.and_true, nodupN, Bool.and_self]
  rfl
theorem wf25b (l m r s : Int) (b0 b1 b2 b3 : Bool) (M W : List (Int × List Nat × Nat)) (n n2 : Nat) : Con.wf ⟨[geo l m r, .int .i64 s, ag b0 b1 b2 b3, .map 0, .map 1], [.map (mV M) n false, .map (mV W) n2 false], .bool true, [.map (mV M) n false, .map (mV W) n2 false], []⟩ = true := by
  simp only [Con.wf, bels, V.bel, Con.p0, Con.p1, hasN, List.length_cons, List.length_nil, List.all_cons, List.all_nil, AObj.bel, bels_iV, bels_str, ebels_mV, AObj.live, AObj.wr, Bool.and_true, nodupN, Bool.and_self]
  rfl
theorem wf260 (M : List (Int × List Nat × Nat)) (n : Nat) : Con.wf ⟨[.map 0, .nilslice], [.map (mV M) n false], .map 1, [.map (mV M) n false], [(1, .map [] 0 false)]⟩ = true := by
  simp only [Con.wf, bels, V.bel, Con.p0, Con.p1, hasN, List.length_cons, List.length_nil, List.all_cons, List.all_nil, AObj.bel, bels_iV, bels_str, ebels_mV, AObj.live, AObj.wr, Bool.and_true, nodupN, Bool.and_self]
  rfl
theorem wf12 (l m r s : Int) (b0 b1 b2 b3 : Bool) (W G X : List (Int × List Nat × Nat)) (n n2 n3 : Nat) : Con.wf ⟨[geo l m r, .int .i64 s, ag b0 b1 b2 b3, .map 0, .map 1], [.map (mV W) n false, .map (mV G) n2 false], .tuple [.map 2, .int .i64 0], [.map (mV W) n false, .map (mV G) n2 false], [(2, .map (mV X) n3 false)]⟩ = true := by
  simp only [Con.wf, bels, V.bel, Con.p0, Con.p1, hasN, List.length_cons, List.length_nil, List.all_cons, List.all_nil, AObj.bel, bels_iV, bels_str, ebels_mV, AObj.live, AObj.wr, Bool.and_true, nodupN, Bool.and_self]
  rfl
theorem keys_mem {L : List (Int × List Nat × Nat)} {y : Int} (h : y ∈ keysG L) : ∃ e ∈ L, e.1 = y := List.mem_map.1 h
theorem need_nodup {l m r s : Int} {b0 b1 b2 b3 : Bool} (hm : m = 2 ∨ m = 3 ∨ m = 4) (hp : 0 ≤ pz l m r s ∧ pz l m r s < m) {W : List (Int × List Nat × Nat)} (hW : WrOk m (pz l m r s) W) : (needY l m r s b0 b1 b2 b3 W).Nodup := by
  unfold needY
  split
  · exact List.nodup_nil
  · split
    · exact (sort_perm _).nodup_iff.2 ((dataL_nodup hm hp).filter _)
    · refine (sort_perm _).nodup_iff.2 (List.nodup_append.2 ⟨hW.ks, by simp, fun a ha b hb e => ?_⟩)
      simp only [List.mem_cons, List.not_mem_nil, or_false] at hb
      obtain ⟨e1, he1, h2⟩ := keys_mem ha
      have h3 := hW.sub e1 he1
      rw [h2, e, hb] at h3
      exact par_notin hm hp h3
theorem need_rng {l m r s : Int} {b0 b1 b2 b3 : Bool} (hm : m = 2 ∨ m = 3 ∨ m = 4) (hp : 0 ≤ pz l m r s ∧ pz l m r s < m) {W : List (Int × List Nat × Nat)} (hW : WrOk m (pz l m r s) W) : ∀ y ∈ needY l m r s b0 b1 b2 b3 W, 0 ≤ y ∧ y < m := fun y h => by
  unfold needY at h
  split at h
  · cases h
  · split at h
    · exact data_rng hm hp (List.mem_filter.1 (sortI_mem.1 h)).1
    · rcases List.mem_append.1 (sortI_mem.1 h) with h | h
      · obtain ⟨e, he, rfl⟩ := List.mem_map.1 h
        exact data_rng hm hp (hW.sub e he)
      · rw [List.mem_singleton.1 h]; exact hp
theorem need_ok {l m r s : Int} {b0 b1 b2 b3 : Bool} (hmay : mayE l m r s b0 b1 b2 b3 = 0) {W : List (Int × List Nat × Nat)} (hW : WrOk m (pz l m r s) W) (h0 : W ≠ []) : needE l m r s b0 b1 b2 b3 W = 0 := by
  unfold needE
  rw [if_neg (by simp [hmay]), if_pos ⟨fun y hy => ⟨hW.sub y hy, (hW.sec y hy).1⟩, h0⟩]
theorem tell_now {l m r s : Int} {b0 b1 b2 b3 : Bool} (hmay : mayE l m r s b0 b1 b2 b3 = 0) {M W G : List (Int × List Nat × Nat)} (hM : RowOk m (pz l m r s) M) (hW : WrOk m (pz l m r s) W) (hkM : (keysG M).Perm (dataL m (pz l m r s) ++ [pz l m r s])) (hnM : (keysG M).Nodup) (hG : ∀ y ∈ needY l m r s b0 b1 b2 b3 W, lookG G y = lookG M y) (j : Nat) {x x1 x2 : EnL} (hx : x.Perm (mV W)) (hx1 : x1.Perm (mV M)) (hx2 : x2.Perm (mV (makeG l m r s b0 b1 b2 b3 W G x))) :
    TellOk l m r s b0 b1 b2 b3 (lookG (puts (cpG x1) x2)) (lookG (wantL m (pz l m r s) M W j)) := by
  obtain ⟨hm, hp⟩ := may_mp hmay
  have hw := want_ok hm hp hM hW j
  exact tell_of hmay hw.sec (fun i hi => total_of hm hp (f := fun y => byX i (lookG (wantL m (pz l m r s) M W j) y)) (hw.par i hi)) fun y h0 h1 hin => now_look hm hp hM hW hx hkM hnM hG hx1 hx2 j h0 h1 hin
theorem make_keys {l m r s : Int} {b0 b1 b2 b3 : Bool} (hm : m = 2 ∨ m = 3 ∨ m = 4) (hp : 0 ≤ pz l m r s ∧ pz l m r s < m) {M W G : List (Int × List Nat × Nat)} (hW : WrOk m (pz l m r s) W) (hkM : (keysG M).Perm (dataL m (pz l m r s) ++ [pz l m r s])) {x x1 : EnL} (hx : x.Perm (mV W)) (hx1 : x1.Perm (mV M)) :
    ∀ y ∈ makeG l m r s b0 b1 b2 b3 W G x, 0 ≤ y.1 ∧ y.1 < 4 ∧ inB4 b0 b1 b2 b3 y.1 = true ∧ y.1 ∈ keysG (cpG x1) := fun y hy => by
  have h := make_mem hm hp hW hx y hy
  have hd : y.1 ∈ dataL m (pz l m r s) ++ [pz l m r s] := by
    rcases h.2 with ⟨e, he, h2⟩ | h2
    · rw [← h2]; exact List.mem_append_left _ (x_keys hm hp hW hx e he)
    · rw [h2]; exact List.mem_append_right _ (List.mem_singleton.2 rfl)
  have hr : 0 ≤ y.1 ∧ y.1 < m := by
    rcases List.mem_append.1 hd with h | h
    · exact data_rng hm hp h
    · rw [List.mem_singleton.1 h]; exact hp
  exact ⟨hr.1, by omega, h.1, (cp_keys hx1).mem_iff.2 (hkM.mem_iff.2 hd)⟩
theorem rest_walk (Y : Ys Prop) (l m r s k o : Int) (t0 t1 t2 t3 u0 u1 u2 u3 : List Nat) (hm : m = 2 ∨ m = 3 ∨ m = 4) (ho : roB l m r s = true) (n : Nat) (hn : m = ((n : Nat) : Int)) (ht : ∀ i, ∀ b ∈ tx4 t0 t1 t2 t3 i, b < 256) (hu : ∀ i, ∀ b ∈ tx4 u0 u1 u2 u3 i, b < 256) (hul : ∀ i, (tx4 u0 u1 u2 u3 i).length ≤ 200) (q : Int) (T : Slots) (hT : allS T [(s1, .int .i64 s), (s4, .int .u8 k), (s6, .ptr 0 0), (s9, .ptr 2 0), (s12, .bool false), (s14, .map 3), (s16, .int .i64 q)]) (K : Ex → Slots → Mem → Prop) (hK : ∀ T' m', Slots.get T' s12 = .bool true → K .ret T' m') : codeD (callD pA tb0 la6 5) Y 0 c6r T (memL 4 [(0, .cells [.int .i64 l, .int .i64 m, .int .i64 r] false), (1, .cells [.str t0, .str t1, .str t2, .str t3] false), (2, .cells [.str u0, .str u1, .str u2, .str u3] false), (3, .map (mV (madeL m (pz l m r s) (tx4 t0 t1 t2 t3))) n false)]) K := by
  have hp := pz_rng ho
  have hmay := may_bq ho hm q
  have hM := made_ok hm hp ht
  have hMm := made_map hm hp (tx4 t0 t1 t2 t3) hn
  have hkM : (keysG (madeL m (pz l m r s) (tx4 t0 t1 t2 t3))).Perm (dataL m (pz l m r s) ++ [pz l m r s]) := by rw [made_keys]
  have hrow : ∀ y ∈ madeL m (pz l m r s) (tx4 t0 t1 t2 t3), 0 ≤ y.1 := fun y hy => by
    have h : y.1 ∈ dataL m (pz l m r s) ++ [pz l m r s] := hkM.mem_iff.1 (List.mem_map.2 ⟨y, hy, rfl⟩)
    rcases List.mem_append.1 h with h | h
    · exact (data_rng hm hp h).1
    · rw [List.mem_singleton.1 h]; exact hp.1
  obtain ⟨j, hj⟩ : ∃ j, (dataL m (pz l m r s)).length = j := ⟨_, rfl⟩
  have hlen := dataL_len m (pz l m r s)
  have j1 : 1 ≤ j := by omega
  have j4 : j ≤ 4 := by omega
  have h16 : S16s [geo l m r, .int .i64 s] = some (Lay.new (Hd.slice j 1) none (AObj.cells (iV (dataL m (pz l m r s))) false)) := by
    rw [S16s_eq, ← hj, hlen]
    exact if_pos ho
  have hW := wr_ok hm hp k hu hj
  have hWs := wr_stamps k (tx4 u0 u1 u2 u3) (dataL m (pz l m r s)) j
  have h17 := S17.mk (dataL m (pz l m r s)) u0 u1 u2 u3 k j hj j4 (dataL_nodup hm hp) hul
  generalize hWd : wrL k (tx4 u0 u1 u2 u3) (dataL m (pz l m r s)) j = W at hW hWs h17
  have hWm := wr_map hm hp hW hWs
  generalize hMd : madeL m (pz l m r s) (tx4 t0 t1 t2 t3) = M at hM hMm hkM hrow ⊢
  have h24 := S24.mk M n false W (List.length W) false (dataL m (pz l m r s)) j hj j1 (by omega) (dataL_nodup hm hp)
  have H1 := h1loop l m r s k q (.cells [.str t0, .str t1, .str t2, .str t3] false) (.cells [.str u0, .str u1, .str u2, .str u3] false) (.map (mV M) n false) (by omega) (by omega)
  unfold inC at H1
  generalize hb0 : bq q 0 m.toNat = b0 at hmay H1
  generalize hb1 : bq q 1 m.toNat = b1 at hmay H1
  generalize hb2 : bq q 2 m.toNat = b2 at hmay H1
  generalize hb3 : bq q 3 m.toNat = b3 at hmay H1
  have h25 := S25.a l m r s b0 b1 b2 b3 M n false hmay (tell_of hmay hM.sec (fun i hi => total_of hm hp (f := fun y => byX i (lookG M y)) (hM.par i hi)) fun y _ _ _ => rfl)
  by_cases hw0 : W = []
  · subst hw0
    exact lr_e Y l m r s k o t0 t1 t2 t3 u0 u1 u2 u3 M n q b0 b1 b2 b3 H1 j _ h16 _ h17 (wf17 _ _ _ _ _ _ _ _ _) _ h24 (wf24 _ _ _ _ _ _ _ _) h25 (wf25a _ _ _ _ _ _ _ _ _ _) rfl T hT K hK
  have hne : List.length (mV W) ≠ 0 := by rw [mV_length]; exact fun e => hw0 (List.length_eq_zero_iff.1 e)
  have h0 := need_ok hmay hW hw0
  have hwant : ∀ y ∈ dataL m (pz l m r s), lookG (byF (wantF M W) 0 (dataL m (pz l m r s))) y = wantF M W y := fun y h => look_byF _ h
  have hsecW : ∀ y ∈ dataL m (pz l m r s), Sec (wantF M W y) := fun y h => want_sec hM hW (data_rng hm hp h).1 (data_rng hm hp h).2
  have hf : findK (.one .int) (.int .i64 (pz l m r s)) (mV (byF (wantF M W) 0 (dataL m (pz l m r s)))) = some none := find_none fun y hy e => by
    have h := List.mem_map.2 ⟨y, hy, e⟩
    have h2 : pz l m r s ∈ keysG (byF (wantF M W) 0 (dataL m (pz l m r s))) := h
    rw [keys_byF] at h2
    exact par_notin hm hp h2
  have hO : mV (byF (wantF M W) 0 (dataL m (pz l m r s))) ++ [(.int .i64 (pz l m r s), .str (smF (wantF M W) (dataL m (pz l m r s))), j)] = mV (wantL m (pz l m r s) M W j) := by unfold wantL; rw [mV_app]; rfl
  have hsM := stamped_of hMm
  cases hy : needY l m r s b0 b1 b2 b3 W with
  | nil =>
    have h10 := S10.nil l m r s b0 b1 b2 b3 W (List.length W) false hWm h0 hy
    have hG : ∀ y ∈ needY l m r s b0 b1 b2 b3 W, lookG [] y = lookG M y := fun y h => by rw [hy] at h; cases h
    have h12 := SQ12.mk l m r s b0 b1 b2 b3 W (List.length W) false [] 0 false hWm h0 (by rw [hy]; rfl)
    have h26 := S26.nil M n false
    have H2 : ∀ x_0 : EnL, x_0.Perm (mV W) → _ := fun x_0 _ => h2loop_o s j M n (.cells [.int .i64 l, .int .i64 m, .int .i64 r] false) (.cells [.str t0, .str t1, .str t2, .str t3] false) (.cells [.str u0, .str u1, .str u2, .str u3] false) (.cells (inP b0 b1 b2 b3) false) (.cells (iV (dataL m (pz l m r s))) false) (.map (mV W) (List.length W) false) (.map (mV (byF (wantF M W) 0 (dataL m (pz l m r s)))) j false) (.map [] 0 false) (.map (mV ((makeG l m r s b0 b1 b2 b3 W []) x_0)) (List.length ((makeG l m r s b0 b1 b2 b3 W []) x_0)) false) hsM hMm.ks hrow
    have H3 : ∀ x_0 x_1 : EnL, x_0.Perm (mV W) → x_1.Perm (mV M) → _ := fun x_0 x_1 hx0 hx1 => h3loop_o s j b0 b1 b2 b3 ((makeG l m r s b0 b1 b2 b3 W []) x_0) (List.length ((makeG l m r s b0 b1 b2 b3 W []) x_0)) (.cells [.int .i64 l, .int .i64 m, .int .i64 r] false) (.cells [.str t0, .str t1, .str t2, .str t3] false) (.cells [.str u0, .str u1, .str u2, .str u3] false) (.map (mV M) n false) (.cells (iV (dataL m (pz l m r s))) false) (.map (mV W) (List.length W) false) (.map (mV (byF (wantF M W) 0 (dataL m (pz l m r s)))) j false) (.map [] 0 false) (.iter (some 3) n (stamps x_1) n) (cpG x_1) (List.length (cpG x_1)) (stamped_of (make_map hm hp hW hx0)) (make_keys hm hp hW hkM hx0 hx1) ((cp_keys hx1).nodup_iff.2 hMm.ks)
    have H4 : ∀ x_0 x_1 x_2 : EnL, _ := fun x_0 x_1 x_2 => h4loop_o s (pz l m r s) j j4 (dataL m (pz l m r s)) hj (byF (wantF M W) 0 (dataL m (pz l m r s))) (.cells [.int .i64 l, .int .i64 m, .int .i64 r] false) (.cells [.str t0, .str t1, .str t2, .str t3] false) (.cells [.str u0, .str u1, .str u2, .str u3] false) (.map (mV M) n false) (.cells (inP b0 b1 b2 b3) false) (.map (mV W) (List.length W) false) (.map [] 0 false) (.map (mV ((makeG l m r s b0 b1 b2 b3 W []) x_0)) (List.length ((makeG l m r s b0 b1 b2 b3 W []) x_0)) false) (.map (mV (puts (cpG x_1) x_2)) (List.length (cpG x_1)) false) (.iter (some 3) n (stamps x_1) n) (.iter (some 9) (List.length ((makeG l m r s b0 b1 b2 b3 W []) x_0)) (stamps x_2) (List.length ((makeG l m r s b0 b1 b2 b3 W []) x_0))) rfl rfl rfl (belD_mV _ _ _ _) rfl (belD_mV _ _ _ _) rfl (belD_mV _ _ _ _) (belD_mV _ _ _ _) rfl rfl (wantF M W) hwant hsecW
    exact lr_o Y l m r s k o t0 t1 t2 t3 u0 u1 u2 u3 M n q b0 b1 b2 b3 H1 j _ h16 _ h17 (wf17 _ _ _ _ _ _ _ _ _) _ h24 (wf24 _ _ _ _ _ _ _ _) h25 (wf25a _ _ _ _ _ _ _ _ _ _) hne h10 (wf10e _ _ _ _ _ _ _ _ _ _ _ _) h26 (wf260 _ _) (makeG l m r s b0 b1 b2 b3 W []) h12 ⟨mV W, List.Perm.refl _⟩ (fun x _ => wf12 l m r s b0 b1 b2 b3 W [] _ _ 0 _) cpG H2 (fun x_1 x_2 => puts (cpG x_1) x_2) H3 (pz l m r s) rfl R18_0 (smF (wantF M W) (dataL m (pz l m r s))) H4 (wantL m (pz l m r s) M W j) hf hO
      (fun x_0 x_1 x_2 hx0 hx1 hx2 => S25.b l m r s b0 b1 b2 b3 _ _ false _ _ false hmay (tell_now hmay hM hW hkM hMm.ks hG j hx0 hx1 hx2)) (fun x_1 x_2 => wf25b _ _ _ _ _ _ _ _ _ _ _ _) T hT K hK
  | cons y0 ys0 =>
    have d1 : 1 ≤ (needY l m r s b0 b1 b2 b3 W).length := by rw [hy]; simp
    have d4 := (needY_cnt h0 hWm.ks).2.2.2
    have h10 := S10.mk l m r s b0 b1 b2 b3 W (List.length W) false hWm h0 _ rfl d1
    have hG : ∀ y ∈ needY l m r s b0 b1 b2 b3 W, lookG (byF (lookG M) 0 (needY l m r s b0 b1 b2 b3 W)) y = lookG M y := fun y h => look_byF _ h
    have h12 := SQ12.mk l m r s b0 b1 b2 b3 W (List.length W) false (byF (lookG M) 0 (needY l m r s b0 b1 b2 b3 W)) (needY l m r s b0 b1 b2 b3 W).length false hWm h0 (by
      unfold hasAll
      rw [List.all_eq_true]
      intro y h
      rw [hG y h]
      exact decide_eq_true (hM.sec y (need_rng hm hp hW y h).1 (need_rng hm hp hW y h).2).1)
    have h26 := S26.mk M n false (needY l m r s b0 b1 b2 b3 W) _ rfl d1 (by omega) (need_nodup hm hp hW)
    have H2 : ∀ x_0 : EnL, x_0.Perm (mV W) → _ := fun x_0 _ => h2loop_k s j M n (.cells [.int .i64 l, .int .i64 m, .int .i64 r] false) (.cells [.str t0, .str t1, .str t2, .str t3] false) (.cells [.str u0, .str u1, .str u2, .str u3] false) (.cells (inP b0 b1 b2 b3) false) (.cells (iV (dataL m (pz l m r s))) false) (.map (mV W) (List.length W) false) (.map (mV (byF (wantF M W) 0 (dataL m (pz l m r s)))) j false) (.cells (iV (needY l m r s b0 b1 b2 b3 W)) false) (.map (mV (byF (lookG M) 0 (needY l m r s b0 b1 b2 b3 W))) (List.length (needY l m r s b0 b1 b2 b3 W)) false) (.map (mV ((makeG l m r s b0 b1 b2 b3 W (byF (lookG M) 0 (needY l m r s b0 b1 b2 b3 W))) x_0)) (List.length ((makeG l m r s b0 b1 b2 b3 W (byF (lookG M) 0 (needY l m r s b0 b1 b2 b3 W))) x_0)) false) hsM hMm.ks hrow
    have H3 : ∀ x_0 x_1 : EnL, x_0.Perm (mV W) → x_1.Perm (mV M) → _ := fun x_0 x_1 hx0 hx1 => h3loop_k s j b0 b1 b2 b3 ((makeG l m r s b0 b1 b2 b3 W (byF (lookG M) 0 (needY l m r s b0 b1 b2 b3 W))) x_0) (List.length ((makeG l m r s b0 b1 b2 b3 W (byF (lookG M) 0 (needY l m r s b0 b1 b2 b3 W))) x_0)) (.cells [.int .i64 l, .int .i64 m, .int .i64 r] false) (.cells [.str t0, .str t1, .str t2, .str t3] false) (.cells [.str u0, .str u1, .str u2, .str u3] false) (.map (mV M) n false) (.cells (iV (dataL m (pz l m r s))) false) (.map (mV W) (List.length W) false) (.map (mV (byF (wantF M W) 0 (dataL m (pz l m r s)))) j false) (.cells (iV (needY l m r s b0 b1 b2 b3 W)) false) (.map (mV (byF (lookG M) 0 (needY l m r s b0 b1 b2 b3 W))) (List.length (needY l m r s b0 b1 b2 b3 W)) false) (.iter (some 3) n (stamps x_1) n) (cpG x_1) (List.length (cpG x_1)) (stamped_of (make_map hm hp hW hx0)) (make_keys hm hp hW hkM hx0 hx1) ((cp_keys hx1).nodup_iff.2 hMm.ks)
    have H4 : ∀ x_0 x_1 x_2 : EnL, _ := fun x_0 x_1 x_2 => h4loop_k s (pz l m r s) j j4 (dataL m (pz l m r s)) hj (byF (wantF M W) 0 (dataL m (pz l m r s))) (.cells [.int .i64 l, .int .i64 m, .int .i64 r] false) (.cells [.str t0, .str t1, .str t2, .str t3] false) (.cells [.str u0, .str u1, .str u2, .str u3] false) (.map (mV M) n false) (.cells (inP b0 b1 b2 b3) false) (.map (mV W) (List.length W) false) (.cells (iV (needY l m r s b0 b1 b2 b3 W)) false) (.map (mV (byF (lookG M) 0 (needY l m r s b0 b1 b2 b3 W))) (List.length (needY l m r s b0 b1 b2 b3 W)) false) (.map (mV ((makeG l m r s b0 b1 b2 b3 W (byF (lookG M) 0 (needY l m r s b0 b1 b2 b3 W))) x_0)) (List.length ((makeG l m r s b0 b1 b2 b3 W (byF (lookG M) 0 (needY l m r s b0 b1 b2 b3 W))) x_0)) false) (.map (mV (puts (cpG x_1) x_2)) (List.length (cpG x_1)) false) (.iter (some 3) n (stamps x_1) n) (.iter (some 10) (List.length ((makeG l m r s b0 b1 b2 b3 W (byF (lookG M) 0 (needY l m r s b0 b1 b2 b3 W))) x_0)) (stamps x_2) (List.length ((makeG l m r s b0 b1 b2 b3 W (byF (lookG M) 0 (needY l m r s b0 b1 b2 b3 W))) x_0))) rfl rfl rfl (belD_mV _ _ _ _) rfl (belD_mV _ _ _ _) (bels_iV _ _) (belD_mV _ _ _ _) (belD_mV _ _ _ _) (belD_mV _ _ _ _) rfl rfl (wantF M W) hwant hsecW
    exact lr_k Y l m r s k o t0 t1 t2 t3 u0 u1 u2 u3 M n q b0 b1 b2 b3 H1 j _ h16 _ h17 (wf17 _ _ _ _ _ _ _ _ _) _ h24 (wf24 _ _ _ _ _ _ _ _) h25 (wf25a _ _ _ _ _ _ _ _ _ _) hne _ _ _ h10 (wf10 _ _ _ _ _ _ _ _ _ _ _ _ _) h26 (wf26 _ _ _ _ _ _) (makeG l m r s b0 b1 b2 b3 W (byF (lookG M) 0 (needY l m r s b0 b1 b2 b3 W))) h12 ⟨mV W, List.Perm.refl _⟩ (fun x _ => wf12 _ _ _ _ _ _ _ _ _ _ _ _ _ _) cpG H2 (fun x_1 x_2 => puts (cpG x_1) x_2) H3 (pz l m r s) rfl R18_0 (smF (wantF M W) (dataL m (pz l m r s))) H4 (wantL m (pz l m r s) M W j) hf hO
      (fun x_0 x_1 x_2 hx0 hx1 hx2 => S25.b l m r s b0 b1 b2 b3 _ _ false _ _ false hmay (tell_now hmay hM hW hkM hMm.ks hG j hx0 hx1 hx2)) (fun x_1 x_2 => wf25b _ _ _ _ _ _ _ _ _ _ _ _) T hT K hK
theorem wf23n (l m r s : Int) (t0 t1 t2 t3 : List Nat) : Con.wf ⟨[geo l m r, .int .i64 s, .agg [.str t0, .str t1, .str t2, .str t3]], [], .tuple [.nilmap, .bool false], [], []⟩ = true := rfl
theorem bytes_lt (s : ByteArray) : ∀ b ∈ bytesOf s, b < 256 := fun b h => by
  obtain ⟨x, _, rfl⟩ := List.mem_map.1 h
  exact x.toNat_lt
theorem tx_bytes (t0 t1 t2 t3 : ByteArray) : ∀ i, ∀ b ∈ tx4 (bytesOf t0) (bytesOf t1) (bytesOf t2) (bytesOf t3) i, b < 256 := fun i => by
  match i with
  | 0 => exact bytes_lt t0
  | 1 => exact bytes_lt t1
  | 2 => exact bytes_lt t2
  | _ + 3 => exact bytes_lt t3
theorem sq12_pre : ∀ Q C, SQ12 Q C → ∀ x y, (C x).pre = (C y).pre := fun Q C h x y => by cases h; rfl
section
variable {P : Program}
open Go.Sort in
theorem sS_ok (hC : ∀ (blk off cap : Nat) (zs : List Int) (w : World), Go.Sort.Holds (Value.int .i64) w blk off zs.toArray → blk < w.heap.size → zs.length < 4611686018427387904 →
    Calls P 53 #[.slice (some ⟨blk, off, none⟩) zs.length cap] w fun e w' => e = .returned (.tuple #[]) ∧ ∃ n os, w' = grow (putRow (Value.int .i64) (Sort.ahead w n) blk off (zs.mergeSort fun x y => decide (x ≤ y)).toArray) os) :
    ∀ C, SortS C → C.wf = true → ConOk P 53 C := by
  intro C h _
  cases h with | mk zs h hl =>
  exact conRow h (by rw [sortI, List.length_mergeSort]) (ansv := fun _ _ _ => .tuple #[]) (fun _ _ _ _ _ _ _ _ => .tuple .nil) (fun blk off cap w hH hb _ => hC blk off cap zs w hH hb hl)
theorem l27x_ok (hmix : P.follows .mixedOrders = true) (o61 : FOk P 61 c61) (o47 : FOk P 47 c47) (o27 : FOk P 27 c27) {last : CF Prop} (hl : LastOk P last id) : LastOk P (lastFn 27 R27 last) id := lastFn_ok (callable_fok o27) (fun ρ args args' v hv ha => by
    unfold R27 at hv; split at hv
    · cases hv; exact par_ans hmix o61 o47 o27 _ _ _ _ ha
    · cases hv) hl
end
section
variable {P : Program}
variable (hmix : P.follows .mixedOrders = true)
include hmix
theorem s6_ok (l6 : LastOk P la6 id) (o6 : FOk P 6 c6) (l m r s k o : Int) (t0 t1 t2 t3 u0 u1 u2 u3 : List Nat) (ht : ∀ i, ∀ b ∈ tx4 t0 t1 t2 t3 i, b < 256) (hu : ∀ i, ∀ b ∈ tx4 u0 u1 u2 u3 i, b < 256) :
    ConOk P 6 ⟨[geo l m r, .int .i64 s, .agg [.str t0, .str t1, .str t2, .str t3], .agg [.str u0, .str u1, .str u2, .str u3], .int .u8 k, .int .i64 o], [], .bool true, [], []⟩ := by
  have hcf := callD_sound (A := pA) pHolds hmix tb0_ok l6 5
  by_cases hl : 200 < List.length t0 ∨ 200 < List.length u0 ∨ 200 < List.length t1 ∨ 200 < List.length u1 ∨ 200 < List.length t2 ∨ 200 < List.length u2 ∨ 200 < List.length t3 ∨ 200 < List.length u3
  · exact conOk_walk hmix o6 hcf (lw_g Ys.none l m r s k o t0 t1 t2 t3 u0 u1 u2 u3 hl)
  have htl : ∀ i, (tx4 t0 t1 t2 t3 i).length ≤ 200 := fun i => by
    match i with
    | 0 => exact (Nat.le_of_not_lt fun x => hl (.inl x))
    | 1 => exact (Nat.le_of_not_lt fun x => hl (.inr (.inr (.inl x))))
    | 2 => exact (Nat.le_of_not_lt fun x => hl (.inr (.inr (.inr (.inr (.inl x))))))
    | _ + 3 => exact (Nat.le_of_not_lt fun x => hl (.inr (.inr (.inr (.inr (.inr (.inr (.inl x))))))))
  have hul : ∀ i, (tx4 u0 u1 u2 u3 i).length ≤ 200 := fun i => by
    match i with
    | 0 => exact (Nat.le_of_not_lt fun x => hl (.inr (.inl x)))
    | 1 => exact (Nat.le_of_not_lt fun x => hl (.inr (.inr (.inr (.inl x)))))
    | 2 => exact (Nat.le_of_not_lt fun x => hl (.inr (.inr (.inr (.inr (.inr (.inl x)))))))
    | _ + 3 => exact (Nat.le_of_not_lt fun x => hl (.inr (.inr (.inr (.inr (.inr (.inr (.inr x))))))))
  cases ho : roB l m r s with
  | false => exact conOk_walk hmix o6 hcf (lw_n Ys.none l m r s k o t0 t1 t2 t3 u0 u1 u2 u3 (Nat.le_of_not_lt fun x => hl (.inl x)) (Nat.le_of_not_lt fun x => hl (.inr (.inl x))) (Nat.le_of_not_lt fun x => hl (.inr (.inr (.inl x)))) (Nat.le_of_not_lt fun x => hl (.inr (.inr (.inr (.inl x))))) (Nat.le_of_not_lt fun x => hl (.inr (.inr (.inr (.inr (.inl x)))))) (Nat.le_of_not_lt fun x => hl (.inr (.inr (.inr (.inr (.inr (.inl x))))))) (Nat.le_of_not_lt fun x => hl (.inr (.inr (.inr (.inr (.inr (.inr (.inl x)))))))) (Nat.le_of_not_lt fun x => hl (.inr (.inr (.inr (.inr (.inr (.inr (.inr x)))))))) (S23.no l m r s t0 t1 t2 t3 ho) (wf23n _ _ _ _ _ _ _ _))
  | true =>
    have g := (ro_t.1 ho).1.1
    have hm : m = 2 ∨ m = 3 ∨ m = 4 := by omega
    obtain ⟨n, hn⟩ := Int.eq_ofNat_of_zero_le (show (0 : Int) ≤ m by omega)
    have h23 := S23.mk l m r s t0 t1 t2 t3 ho htl n hn
    refine conOk_walkD hmix o6 hcf ?_
    rw [c6_eq]
    refine body_retD (s := s12) (v := .bool true) rfl (fun K' hK' => ?_) (fun mm => ⟨rfl, trivial, trivial⟩)
    refine seqD (fun K hK => lw0 Ys.none l m r s k o t0 t1 t2 t3 u0 u1 u2 u3 _ ⟨rfl, rfl, rfl, rfl, rfl, rfl, trivial⟩ K hK) fun T0 hT0 => ?_
    refine seqD (fun K hK => lw1 Ys.none l m r s k o t0 t1 t2 t3 u0 u1 u2 u3 (Nat.le_of_not_lt fun x => hl (.inl x)) (Nat.le_of_not_lt fun x => hl (.inr (.inl x))) (Nat.le_of_not_lt fun x => hl (.inr (.inr (.inl x)))) (Nat.le_of_not_lt fun x => hl (.inr (.inr (.inr (.inl x))))) (Nat.le_of_not_lt fun x => hl (.inr (.inr (.inr (.inr (.inl x)))))) (Nat.le_of_not_lt fun x => hl (.inr (.inr (.inr (.inr (.inr (.inl x))))))) (Nat.le_of_not_lt fun x => hl (.inr (.inr (.inr (.inr (.inr (.inr (.inl x)))))))) (Nat.le_of_not_lt fun x => hl (.inr (.inr (.inr (.inr (.inr (.inr (.inr x)))))))) T0 hT0 K hK) fun T1 hT1 => ?_
    refine seqD (fun K hK => lw2 Ys.none l m r s k o t0 t1 t2 t3 u0 u1 u2 u3 (madeL m (pz l m r s) (tx4 t0 t1 t2 t3)) n h23 (wf23m _ _ _ _ _ _ _ _ _ _) T1 hT1 K hK) fun T2 hT2 => ?_
    refine seqD (fun K hK => lw3 Ys.none l m r s k o t0 t1 t2 t3 u0 u1 u2 u3 (madeL m (pz l m r s) (tx4 t0 t1 t2 t3)) n T2 hT2 K hK) fun T3 hT3 => ?_
    refine seqD (fun K hK => lw4 Ys.none l m r s k o t0 t1 t2 t3 u0 u1 u2 u3 (madeL m (pz l m r s) (tx4 t0 t1 t2 t3)) n (Int.tmod o (m + 1)) (by omega) (by omega) rfl T3 hT3 K hK) fun T4 hT4 => ?_
    by_cases hq : 0 ≤ Int.tmod o (m + 1)
    · refine seqD (fun K hK => lw5p Ys.none l m r s k o t0 t1 t2 t3 u0 u1 u2 u3 (madeL m (pz l m r s) (tx4 t0 t1 t2 t3)) n _ hq T4 hT4 K hK) fun T5 hT5 => ?_
      exact rest_walk Ys.none l m r s k o t0 t1 t2 t3 u0 u1 u2 u3 hm ho n hn ht hu hul _ T5 hT5 K' hK'
    · refine seqD (fun K hK => lw5n Ys.none l m r s k o t0 t1 t2 t3 u0 u1 u2 u3 (madeL m (pz l m r s) (tx4 t0 t1 t2 t3)) n _ (Int.tmod o (m + 1) + m + 1) (by omega) (by omega) (by omega) (by have := Int.lt_tmod_of_pos o (show (0 : Int) < m + 1 by omega); omega) rfl T4 hT4 K hK) fun T5 hT5 => ?_
      exact rest_walk Ys.none l m r s k o t0 t1 t2 t3 u0 u1 u2 u3 hm ho n hn ht hu hul _ T5 hT5 K' hK'
end
end Go.Proofs.Ytjikaankdnmabaa
