/- The law by its cases. No condition. -/
import Derived.Test.YtjikaankdnmabaaDW
import Derived.Test.YtjikaankdnmabaaAM52
import Derived.Test.YtjikaankdnmabaaAM40
namespace Go.Proofs.Ytjikaankdnmabaa
open Go Go.AM
set_option maxRecDepth 100000
set_option maxHeartbeats 4000000
set_option linter.unusedVariables false
set_option linter.unusedSectionVars false
theorem wf8g {gv : V} {G : List (Int × List Nat × Nat)} (hv : GvOk gv G) (L : List (Int × List Nat × Nat)) (c : Nat) (ro : Bool) (c2 : Nat) (ro2 : Bool) (b : Bool) : Con.wf ⟨[gv], [.map (mV L) c ro, .map (mV G) c2 ro2], .bool b, [.map (mV L) c ro, .map (mV G) c2 ro2], []⟩ = true := by
  rcases hv with rfl | ⟨rfl, _⟩ <;> · simp only [Con.wf, bels, V.bel, Con.p0, Con.p1, hasN, List.length_cons, List.length_nil, List.all_cons, List.all_nil, AObj.bel, bels_iV, bels_stV, ebels_mV, AObj.live, AObj.wr, Bool.and_true, nodupN, Bool.and_self]
                                      rfl
theorem wf8w (L : List (Int × List Nat × Nat)) (c : Nat) (ro : Bool) (b : Bool) : Con.wf ⟨[.map 0], [.map (mV L) c ro], .bool b, [.map (mV L) c ro], []⟩ = true := by
  simp only [Con.wf, bels, V.bel, Con.p0, Con.p1, hasN, List.length_cons, List.length_nil, List.all_cons, List.all_nil, AObj.bel, bels_iV, bels_stV, ebels_mV, AObj.live, AObj.wr, Bool.and_true, nodupN, Bool.and_self]
  rfl
theorem wf12e {gv : V} {G : List (Int × List Nat × Nat)} (hv : GvOk gv G) (L : List (Int × List Nat × Nat)) (c : Nat) (ro : Bool) (c2 : Nat) (ro2 : Bool) (l m r s : Int) (b0 b1 b2 b3 : Bool) (e : Int) : Con.wf ⟨[geo l m r, .int .i64 s, ag b0 b1 b2 b3, .map 0, gv], [.map (mV L) c ro, .map (mV G) c2 ro2], .tuple [.nilmap, .int .i64 e], [.map (mV L) c ro, .map (mV G) c2 ro2], []⟩ = true := by
  rcases hv with rfl | ⟨rfl, _⟩ <;> · simp only [Con.wf, bels, V.bel, Con.p0, Con.p1, hasN, List.length_cons, List.length_nil, List.all_cons, List.all_nil, AObj.bel, bels_iV, bels_stV, ebels_mV, AObj.live, AObj.wr, Bool.and_true, nodupN, Bool.and_self]
                                      rfl
theorem wf12n {gv : V} {G : List (Int × List Nat × Nat)} (hv : GvOk gv G) (L : List (Int × List Nat × Nat)) (c : Nat) (ro : Bool) (c2 : Nat) (ro2 : Bool) (l m r s : Int) (b0 b1 b2 b3 : Bool) (e : Int) : Con.wf ⟨[geo l m r, .int .i64 s, ag b0 b1 b2 b3, .nilmap, gv], [.map (mV L) c ro, .map (mV G) c2 ro2], .tuple [.nilmap, .int .i64 e], [.map (mV L) c ro, .map (mV G) c2 ro2], []⟩ = true := by
  rcases hv with rfl | ⟨rfl, _⟩ <;> · simp only [Con.wf, bels, V.bel, Con.p0, Con.p1, hasN, List.length_cons, List.length_nil, List.all_cons, List.all_nil, AObj.bel, bels_iV, bels_stV, ebels_mV, AObj.live, AObj.wr, Bool.and_true, nodupN, Bool.and_self]
                                      rfl
theorem wf12q {gv : V} {G : List (Int × List Nat × Nat)} (hv : GvOk gv G) (L : List (Int × List Nat × Nat)) (c : Nat) (ro : Bool) (c2 : Nat) (ro2 : Bool) (l m r s : Int) (b0 b1 b2 b3 : Bool) (X : List (Int × List Nat × Nat)) (n : Nat) : Con.wf ⟨[geo l m r, .int .i64 s, ag b0 b1 b2 b3, .map 0, gv], [.map (mV L) c ro, .map (mV G) c2 ro2], .tuple [.map 2, .int .i64 0], [.map (mV L) c ro, .map (mV G) c2 ro2], [(2, .map (mV X) n false)]⟩ = true := by
  rcases hv with rfl | ⟨rfl, _⟩ <;> · simp only [Con.wf, bels, V.bel, Con.p0, Con.p1, hasN, List.length_cons, List.length_nil, List.all_cons, List.all_nil, AObj.bel, bels_iV, bels_stV, ebels_mV, AObj.live, AObj.wr, Bool.and_true, nodupN, Bool.and_self]
                                      rfl
theorem wf14j (ys : List Int) (j : Nat) : Con.wf ⟨[.slice 0 0 j j 1, .slice 1 0 j j 1], [.cells (iV ys) false, .cells (iV ys) false], .bool true, [.cells (iV ys) false, .cells (iV ys) false], []⟩ = true := by
  simp only [Con.wf, bels, V.bel, Con.p0, Con.p1, hasN, List.length_cons, List.length_nil, List.all_cons, List.all_nil, AObj.bel, bels_iV, bels_stV, ebels_mV, AObj.live, AObj.wr, Bool.and_true, nodupN, Bool.and_self]
  rfl
theorem wf15x (X Y : List (Int × List Nat × Nat)) (c c2 : Nat) (ro ro2 : Bool) : Con.wf ⟨[.map 0, .map 1], [.map (mV X) c ro, .map (mV Y) c2 ro2], .bool true, [.map (mV X) c ro, .map (mV Y) c2 ro2], []⟩ = true := by
  simp only [Con.wf, bels, V.bel, Con.p0, Con.p1, hasN, List.length_cons, List.length_nil, List.all_cons, List.all_nil, AObj.bel, bels_iV, bels_stV, ebels_mV, AObj.live, AObj.wr, Bool.and_true, nodupN, Bool.and_self]
  rfl
theorem s8g_ok {P : Program} (h8 : ∀ C, S8 C → C.wf = true → ConOk P 8 C) : ∀ C, S8g C → C.wf = true → ConOk P 8 C := by
  intro C h hw
  cases h with
  | of _ h => exact h8 _ h hw
  | g gv G c2 ro2 hv h hn L c ro =>
    rcases hv with rfl | ⟨rfl, rfl⟩
    · exact con_move (h8 _ (S8.mk G c2 ro2 h hn) (wf8w _ _ _ _)) (wf8w _ _ _ _) [1] rfl ⟨kMv, trivial⟩ rfl rfl ⟨rfl, kMv.symm, trivial⟩ trivial
    · exact con_move (C := ⟨[.nilmap], [], .bool false, [], []⟩) (h8 _ S8.nil rfl) rfl [] rfl trivial rfl rfl ⟨rfl, rfl, trivial⟩ trivial
theorem w3loop (l m r s : Int) (b0 b1 b2 b3 : Bool) (L : List (Int × List Nat × Nat)) (c : Nat) (ro : Bool) (G : List (Int × List Nat × Nat)) (c2 : Nat) (ro2 : Bool) (gv : V) (hgv : ∀ k : Nat, V.ren (nthD [k, 1]) gv = gv) (la : CF Prop) (hla : MonoCF la) (hs : Stamped (mV L) c) (hkn : (keysG L).Nodup) : LoopOk3 (callD pA tb0 la 5) c3l0 (.exit 0) (memL 6 [(0, .map (mV L) c ro), (1, .map (mV G) c2 ro2), (2, .cells [.int .i64 l, .int .i64 m, .int .i64 r] false), (3, .cells (inP b0 b1 b2 b3) false), (4, .map [] 0 false), (5, .iter (some 0) c [] c)]) [(s1, .int .i64 s), (s3, .map 0), (s4, gv), (s5, .ptr 2 0), (s7, .ptr 3 0), (s10, .bool false), (s11, .map 4), (s31, .ptr 5 0)] (fun v => List.Perm v (mV L)) (fun v => memL 6 [(0, .map (mV L) c ro), (1, .map (mV G) c2 ro2), (2, .cells [.int .i64 l, .int .i64 m, .int .i64 r] false), (3, .cells (inP b0 b1 b2 b3) false), (4, .map (mV (cpG v)) (List.length (cpG v)) false), (5, .iter (some 0) c (stamps v) c)]) (fun v => [(s1, .int .i64 s), (s3, .map 0), (s4, gv), (s5, .ptr 2 0), (s7, .ptr 3 0), (s10, .bool false), (s11, .map 4), (s31, .ptr 5 0)]) := by
  rw [c3l0_eq]
  refine rangeL hs (fun vis => memL 6 [(0, .map (mV L) c ro), (1, .map (mV G) c2 ro2), (2, .cells [.int .i64 l, .int .i64 m, .int .i64 r] false), (3, .cells (inP b0 b1 b2 b3) false), (4, .map (mV (cpG vis)) (List.length (cpG vis)) false), (5, itO 0 c vis)]) (fun vis y => memL 6 [(0, .map (mV L) c ro), (1, .map (mV G) c2 ro2), (2, .cells [.int .i64 l, .int .i64 m, .int .i64 r] false), (3, .cells (inP b0 b1 b2 b3) false), (4, .map (mV (cpG vis)) (List.length (cpG vis)) false), (5, itO1 0 c vis y.2.2)]) (fun _ => [(s1, .int .i64 s), (s3, .map 0), (s4, gv), (s5, .ptr 2 0), (s7, .ptr 3 0), (s10, .bool false), (s11, .map 4), (s31, .ptr 5 0)]) (fun _ => rfl) (fun _ => rfl) (fun _ _ => rfl) (fun _ _ hT => hT.2.2.2.2.2.2.2.1) (fun _ => ⟨rfl, rfl⟩) (fun Y vis y T hvis hy hst hT K hK => ?_)
  obtain ⟨⟨d, g, t⟩, hz, rfl⟩ := mV_mem hy
  simp only at hst hK hy
  have happ := cp_app vis (V.int .i64 d, V.str g, t)
  have hf : findK (.one .int) (.int .i64 d) (mV (cpG vis)) = some none := find_none fun y hy2 e => by
    obtain ⟨e1, he1, he2⟩ := outG_key true true true true vis 0 y hy2
    obtain ⟨z, hz1, rfl⟩ := mV_mem (hvis.sub e1 he1)
    have hzz := key_inj hkn hz1 hz (he2.trans e)
    subst hzz
    exact hst (List.mem_map.2 ⟨_, he1, rfl⟩)
  refine w3_s Y l m r s b0 b1 b2 b3 L c ro G c2 ro2 gv hgv la hla (cpG vis) (List.length (cpG vis)) t d (stamps vis) g (entry_ok hs hy _ _) hf (mV (cpG vis ++ [(d, g, (List.length (cpG vis)))])) (by rw [mV_app]; rfl) T hT K fun T' hT' => ?_
  have hh := hK T' hT'
  rw [happ, show itO 0 c (vis ++ [(V.int .i64 d, V.str g, t)]) = .iter (some 0) c (stamps vis ++ [t]) c by unfold itO; rw [stamps_app]] at hh
  rw [show (List.length (cpG vis ++ [(keyI (V.int .i64 d, V.str g, t), valI (V.int .i64 d, V.str g, t), (List.length (cpG vis)))])) = List.length (cpG vis) + 1 by simp] at hh
  exact hh
theorem needY_ne {l m r s : Int} {b0 b1 b2 b3 : Bool} {L G : List (Int × List Nat × Nat)} (hh : hasAll G (needY l m r s b0 b1 b2 b3 L) = false) : 1 ≤ (needY l m r s b0 b1 b2 b3 L).length := by
  rcases Nat.eq_zero_or_pos (needY l m r s b0 b1 b2 b3 L).length with e | e
  · rw [List.length_eq_zero_iff.1 e] at hh; exact absurd hh (by simp [hasAll])
  · exact e
section
variable {P : Program}
open Go.Sort in
theorem sS_ok (hC : ∀ (blk off cap : Nat) (zs : List Int) (w : World), Go.Sort.Holds (Value.int .i64) w blk off zs.toArray → blk < w.heap.size → zs.length < 4611686018427387904 →
    Calls P 53 #[.slice (some ⟨blk, off, none⟩) zs.length cap] w fun e w' => e = .returned (.tuple #[]) ∧ ∃ n os, w' = grow (putRow (Value.int .i64) (Sort.ahead w n) blk off (zs.mergeSort fun x y => decide (x ≤ y)).toArray) os) :
    ∀ C, SortS C → C.wf = true → ConOk P 53 C := by
  intro C h _
  cases h with | mk zs h hl =>
  exact conRow h (by rw [sortI, List.length_mergeSort]) (ansv := fun _ _ _ => .tuple #[]) (fun _ _ _ _ _ _ _ _ => .tuple .nil) (fun blk off cap w hH hb _ => hC blk off cap zs w hH hb hl)
variable (hmix : P.follows .mixedOrders = true)
include hmix
theorem s3_ok (l3e : LastOk P la3e id) (l3o : LastOk P la3o id) (o3 : FOk P 3 c3) (l m r s : Int) (b0 b1 b2 b3 : Bool) (L : List (Int × List Nat × Nat)) (c : Nat) (ro : Bool) (G : List (Int × List Nat × Nat)) (c2 : Nat) (ro2 : Bool) (gv wv : V) (hg : GvOk gv G) (hw : wv = .map 0 ∨ (wv = .nilmap ∧ L = [])) (lt : ∀ y ∈ L, y.2.2 < c) (st : (L.map fun y => y.2.2).Nodup) (ks : (L.map fun y => y.1).Nodup) (lt2 : ∀ y ∈ G, y.2.2 < c2) (st2 : (G.map fun y => y.2.2).Nodup) :
    ConOk P 3 ⟨[geo l m r, .int .i64 s, ag b0 b1 b2 b3, wv, gv], [.map (mV L) c ro, .map (mV G) c2 ro2], .bool true, [.map (mV L) c ro, .map (mV G) c2 ro2], []⟩ := by
  have hce := callD_sound (A := pA) pHolds hmix tb0_ok l3e 5
  have hco := callD_sound (A := pA) pHolds hmix tb0_ok l3o 5
  have h8 := S8g.g gv G c2 ro2 hg lt2 st2 L c ro
  have w8 := wf8g hg L c ro c2 ro2
  cases hG : greatB G with
  | true =>
    rw [hG] at h8
    exact conOk_walk hmix o3 hce (w3_g Ys.none l m r s b0 b1 b2 b3 L c ro G c2 ro2 gv (gv_ren hg) wv h8 (w8 true))
  | false =>
    rw [hG] at h8
    rcases hw with rfl | ⟨rfl, rfl⟩
    · have k8 := S8g.of _ (S8.mk L c ro lt st)
      have v8 := wf8w L c ro
      cases hL : greatB L with
      | true =>
        rw [hL] at k8
        exact conOk_walk hmix o3 hce (w3_w Ys.none l m r s b0 b1 b2 b3 L c ro G c2 ro2 gv (gv_ren hg) h8 (w8 false) k8 (v8 true))
      | false =>
        rw [hL] at k8
        have h20 : L.length ≤ 20 := by
          unfold greatB at hL
          simp only [Bool.or_eq_false_iff, decide_eq_false_iff_not] at hL
          omega
        have hM : MapOk L c := ⟨lt, st, ks, by omega⟩
        have hs := stamped_of hM
        have H := fun la hla => w3loop l m r s b0 b1 b2 b3 L c ro G c2 ro2 gv (gv_ren hg) la hla hs ks
        have h15w : ∀ x_0 : EnL, List.Perm x_0 (mV L) → S15 ⟨[.map 0, .map 1], [.map (mV L) c ro, .map (mV (cpG x_0)) (List.length (cpG x_0)) false], .bool true, [.map (mV L) c ro, .map (mV (cpG x_0)) (List.length (cpG x_0)) false], []⟩ := fun x hx => S15.mk L c ro (cpG x) _ false hs (same_cp ks hx)
        have w15w := fun x_0 : EnL => wf15x L (cpG x_0) c (cpG x_0).length ro false
        by_cases h0 : needE l m r s b0 b1 b2 b3 L = 0
        · obtain ⟨hmay, hgd, hne⟩ := need0 h0
          obtain ⟨hmm, hpz⟩ := may_mp hmay
          have hW : WrOk m (pz l m r s) L := ⟨ks, fun y hy => (hgd y hy).1⟩
          cases hh : hasAll G (needY l m r s b0 b1 b2 b3 L) with
          | false =>
            have j1 := needY_ne hh
            have y4 := (needY_cnt h0 ks).2.2.2
            exact conOk_walk hmix o3 hce (w3_b Ys.none l m r s b0 b1 b2 b3 L c ro G c2 ro2 gv (gv_ren hg) _ _ h8 (w8 false) k8 (v8 false) cpG (H _ mono3e) (.of _ (S10.mk l m r s b0 b1 b2 b3 L c ro hM h0 _ rfl j1)) (wf10 _ _ _ _ _ _ _ _ _ _ _ _ _) (S12.no l m r s b0 b1 b2 b3 L c ro G c2 ro2 gv hg hM h0 hh) (wf12e hg _ _ _ _ _ _ _ _ _ _ _ _ _ _) (S14.mk _ _ rfl (by omega)) (wf14j _ _) S15.nil2 rfl h15w w15w)
          | true =>
            have h12 := SQ12.mk l m r s b0 b1 b2 b3 L c ro G c2 ro2 gv hg hM h0 hh
            have x12 : ∃ x : EnL, List.Perm x (mV L) := ⟨_, List.Perm.refl _⟩
            have h15 : ∀ x_1 x_2 : EnL, List.Perm x_1 (mV L) → List.Perm x_2 (mV L) → S15 ⟨[.map 0, .map 1], [.map (mV ((makeG l m r s b0 b1 b2 b3 L G) x_1)) (List.length ((makeG l m r s b0 b1 b2 b3 L G) x_1)) false, .map (mV ((makeG l m r s b0 b1 b2 b3 L G) x_2)) (List.length ((makeG l m r s b0 b1 b2 b3 L G) x_2)) false], .bool true, [.map (mV ((makeG l m r s b0 b1 b2 b3 L G) x_1)) (List.length ((makeG l m r s b0 b1 b2 b3 L G) x_1)) false, .map (mV ((makeG l m r s b0 b1 b2 b3 L G) x_2)) (List.length ((makeG l m r s b0 b1 b2 b3 L G) x_2)) false], []⟩ := fun x y hx hy => S15.mk _ _ false _ _ false (stamped_of (make_map (b0 := b0) (b1 := b1) (b2 := b2) (b3 := b3) (G := G) hmm hpz hW hx)) (same_make hmm hpz hW hx hy)
            have w15 := fun x_1 x_2 : EnL => wf15x ((makeG l m r s b0 b1 b2 b3 L G) x_1) ((makeG l m r s b0 b1 b2 b3 L G) x_2) ((makeG l m r s b0 b1 b2 b3 L G) x_1).length ((makeG l m r s b0 b1 b2 b3 L G) x_2).length false false
            by_cases hy : needY l m r s b0 b1 b2 b3 L = []
            · exact conOk_walk hmix o3 hco (w3_0 Ys.none l m r s b0 b1 b2 b3 L c ro G c2 ro2 gv (gv_ren hg) h8 (w8 false) k8 (v8 false) cpG (H _ mono3o) (.of _ (S10.nil l m r s b0 b1 b2 b3 L c ro hM h0 hy)) (wf10e _ _ _ _ _ _ _ _ _ _ _ _) ((makeG l m r s b0 b1 b2 b3 L G)) h12 x12 (fun x _ => wf12q hg _ _ _ _ _ _ _ _ _ _ _ _ _ _ _) S14.nil rfl h15 w15 h15w w15w)
            · have y4 := (needY_cnt h0 ks).2.2.2
              exact conOk_walk hmix o3 hco (w3_j Ys.none l m r s b0 b1 b2 b3 L c ro G c2 ro2 gv (gv_ren hg) _ _ h8 (w8 false) k8 (v8 false) cpG (H _ mono3o) (.of _ (S10.mk l m r s b0 b1 b2 b3 L c ro hM h0 _ rfl (List.length_pos_iff.2 hy))) (wf10 _ _ _ _ _ _ _ _ _ _ _ _ _) ((makeG l m r s b0 b1 b2 b3 L G)) h12 x12 (fun x _ => wf12q hg _ _ _ _ _ _ _ _ _ _ _ _ _ _ _) (S14.mk _ _ rfl (by omega)) (wf14j _ _) h15 w15 h15w w15w)
        · exact conOk_walk hmix o3 hce (w3_e Ys.none l m r s b0 b1 b2 b3 L c ro G c2 ro2 gv (gv_ren hg) _ h0 h8 (w8 false) k8 (v8 false) cpG (H _ mono3e) (.of _ (S10.err l m r s b0 b1 b2 b3 L c ro hM _ h0 rfl)) (wf10e _ _ _ _ _ _ _ _ _ _ _ _) (S12.err l m r s b0 b1 b2 b3 L c ro G c2 ro2 gv hg hM _ h0 rfl) (wf12e hg _ _ _ _ _ _ _ _ _ _ _ _ _ _) S14.nil rfl S15.nil2 rfl h15w w15w)
    · have he : needE l m r s b0 b1 b2 b3 [] ≠ 0 := by
        by_cases hm : mayE l m r s b0 b1 b2 b3 = 0
        · rw [need_nil hm]; decide
        · rw [need_may hm]; exact hm
      exact conOk_walk hmix o3 hce (w3_n Ys.none l m r s b0 b1 b2 b3 [] c ro G c2 ro2 gv (gv_ren hg) _ he h8 (w8 false) (.of _ S8.nil) rfl (S10g.nil l m r s b0 b1 b2 b3 _ he rfl) (wf10n _ _ _ _ _ _ _ _ _) (S12.errn l m r s b0 b1 b2 b3 [] c ro G c2 ro2 gv _ he rfl) (wf12n hg _ _ _ _ _ _ _ _ _ _ _ _ _ _) S14.nil rfl S15.nil2 rfl (S15.nil1 0 false) rfl)
end
end Go.Proofs.Ytjikaankdnmabaa
