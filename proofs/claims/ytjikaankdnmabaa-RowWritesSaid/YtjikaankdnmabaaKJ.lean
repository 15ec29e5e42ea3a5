/- Makes: contracts. No condition. -/
import Derived.Test.YtjikaankdnmabaaKW
import Derived.Test.YtjikaankdnmabaaAM52
namespace Go.Proofs.Ytjikaankdnmabaa
open Go Go.AM
set_option maxRecDepth 100000
set_option maxHeartbeats 4000000
set_option linter.unusedVariables false
set_option linter.unusedSectionVars false
theorem wf58 (G : List (Int × List Nat × Nat)) (c2 : Nat) (ro2 : Bool) (x : Int) (b : Bool) : Con.wf ⟨[.int .i64 x, .ptr 0 0], [.cells [.map 1] false, .map (mV G) c2 ro2], .bool b, [.cells [.map 1] false, .map (mV G) c2 ro2], []⟩ = true := wfM G c2 ro2 x b
section
variable {P : Program}
variable (hmix : P.follows .mixedOrders = true)
include hmix
omit hmix in
theorem tb58_ok (o32 : FOk P 32 c32) : TabOk P tb58 := by
  intro f af h
  simp only [tb58] at h
  by_cases e32 : f = 32
  · subst e32; cases h; exact o32
  rw [nbeqF e32] at h
  cases h
omit hmix in
theorem tbS2_ok (o51 : FOk P 51 c51) (o62 : FOk P 62 c62) : TabOk P tbS2 := by
  intro f af h
  simp only [tbS2] at h
  by_cases e51 : f = 51
  · subst e51; cases h; exact o51
  rw [nbeqF e51, cond_false] at h
  by_cases e62 : f = 62
  · subst e62; cases h; exact o62
  rw [nbeqF e62] at h
  cases h
theorem s58_ok (o32 : FOk P 32 c32) (o58 : FOk P 58 c58) : ∀ C, S58 C → C.wf = true → ConOk P 58 C := by
  intro C h _
  cases h with
  | nil x => exact conOk_walk hmix o58 (callD_sound pHolds hmix (tb58_ok o32) la0_ok 5) (hcn Ys.none x)
  | mk G c2 ro2 x =>
  have hcf := callD_sound pHolds hmix (tb58_ok o32) la0_ok 5
  by_cases e : (lookG G x).length = 64
  · rw [decide_eq_true e]; exact conOk_walk hmix o58 hcf (hc Ys.none G c2 ro2 x _ (look_G G x) e)
  · rw [decide_eq_false e]; exact conOk_walk hmix o58 hcf (hc_n Ys.none G c2 ro2 x _ (look_G G x) e)
theorem la58_ok (o32 : FOk P 32 c32) (o58 : FOk P 58 c58) : LastOk P la58 id := lastCl_ok (callable_fok o58) (s58_ok hmix o32 o58) la0_ok
theorem s41_ok (l58 : LastOk P la58 id) (o51 : FOk P 51 c51) (o62 : FOk P 62 c62) (o41 : FOk P 41 c41) : ∀ C, S41 C → C.wf = true → ConOk P 41 C := by
  intro C h _
  have hcf := callD_sound pHolds hmix (tbS2_ok o51 o62) l58 6
  cases h with
  | nil G c2 ro2 => exact conOk_walk hmix o41 hcf (hs_0 Ys.none G c2 ro2)
  | mk G c2 ro2 ys j hj h1 h4 =>
  subst hj
  have u1 : ∀ {x : Int}, ¬ (lookG G x).length = 64 → S58 ⟨[.int .i64 x, .ptr 0 0], [.cells [.map 1] false, .map (mV G) c2 ro2], .bool true, [.cells [.map 1] false, .map (mV G) c2 ro2], []⟩ := fun {x} e => by have := S58.mk G c2 ro2 x; rwa [decide_eq_false e] at this
  have u0 : ∀ {x : Int}, (lookG G x).length = 64 → S58 ⟨[.int .i64 x, .ptr 0 0], [.cells [.map 1] false, .map (mV G) c2 ro2], .bool false, [.cells [.map 1] false, .map (mV G) c2 ro2], []⟩ := fun {x} e => by have := S58.mk G c2 ro2 x; rwa [decide_eq_true e] at this
  have w := fun x b => wf58 G c2 ro2 x b
  match ys, h1, h4 with
  | [d0], _, _ =>
    by_cases e0 : (lookG G d0).length = 64
    case neg =>
      rw [show hasAll G [d0] = false by simp [hasAll, e0]]
      exact conOk_walk hmix o41 hcf (hs_1_0 Ys.none G c2 ro2 d0 (u1 e0) (w _ _))
    rw [show hasAll G [d0] = true by simp [hasAll, e0]]
    exact conOk_walk hmix o41 hcf (hs_1_1 Ys.none G c2 ro2 d0 (u0 e0) (w _ _))
  | [d0, d1], _, _ =>
    by_cases e0 : (lookG G d0).length = 64
    case neg =>
      rw [show hasAll G [d0, d1] = false by simp [hasAll, e0]]
      exact conOk_walk hmix o41 hcf (hs_2_0 Ys.none G c2 ro2 d0 d1 (u1 e0) (w _ _))
    by_cases e1 : (lookG G d1).length = 64
    case neg =>
      rw [show hasAll G [d0, d1] = false by simp [hasAll, e0, e1]]
      exact conOk_walk hmix o41 hcf (hs_2_1 Ys.none G c2 ro2 d0 d1 (u0 e0) (w _ _) (u1 e1) (w _ _))
    rw [show hasAll G [d0, d1] = true by simp [hasAll, e0, e1]]
    exact conOk_walk hmix o41 hcf (hs_2_2 Ys.none G c2 ro2 d0 d1 (u0 e0) (w _ _) (u0 e1) (w _ _))
  | [d0, d1, d2], _, _ =>
    by_cases e0 : (lookG G d0).length = 64
    case neg =>
      rw [show hasAll G [d0, d1, d2] = false by simp [hasAll, e0]]
      exact conOk_walk hmix o41 hcf (hs_3_0 Ys.none G c2 ro2 d0 d1 d2 (u1 e0) (w _ _))
    by_cases e1 : (lookG G d1).length = 64
    case neg =>
      rw [show hasAll G [d0, d1, d2] = false by simp [hasAll, e0, e1]]
      exact conOk_walk hmix o41 hcf (hs_3_1 Ys.none G c2 ro2 d0 d1 d2 (u0 e0) (w _ _) (u1 e1) (w _ _))
    by_cases e2 : (lookG G d2).length = 64
    case neg =>
      rw [show hasAll G [d0, d1, d2] = false by simp [hasAll, e0, e1, e2]]
      exact conOk_walk hmix o41 hcf (hs_3_2 Ys.none G c2 ro2 d0 d1 d2 (u0 e0) (w _ _) (u0 e1) (w _ _) (u1 e2) (w _ _))
    rw [show hasAll G [d0, d1, d2] = true by simp [hasAll, e0, e1, e2]]
    exact conOk_walk hmix o41 hcf (hs_3_3 Ys.none G c2 ro2 d0 d1 d2 (u0 e0) (w _ _) (u0 e1) (w _ _) (u0 e2) (w _ _))
  | [d0, d1, d2, d3], _, _ =>
    by_cases e0 : (lookG G d0).length = 64
    case neg =>
      rw [show hasAll G [d0, d1, d2, d3] = false by simp [hasAll, e0]]
      exact conOk_walk hmix o41 hcf (hs_4_0 Ys.none G c2 ro2 d0 d1 d2 d3 (u1 e0) (w _ _))
    by_cases e1 : (lookG G d1).length = 64
    case neg =>
      rw [show hasAll G [d0, d1, d2, d3] = false by simp [hasAll, e0, e1]]
      exact conOk_walk hmix o41 hcf (hs_4_1 Ys.none G c2 ro2 d0 d1 d2 d3 (u0 e0) (w _ _) (u1 e1) (w _ _))
    by_cases e2 : (lookG G d2).length = 64
    case neg =>
      rw [show hasAll G [d0, d1, d2, d3] = false by simp [hasAll, e0, e1, e2]]
      exact conOk_walk hmix o41 hcf (hs_4_2 Ys.none G c2 ro2 d0 d1 d2 d3 (u0 e0) (w _ _) (u0 e1) (w _ _) (u1 e2) (w _ _))
    by_cases e3 : (lookG G d3).length = 64
    case neg =>
      rw [show hasAll G [d0, d1, d2, d3] = false by simp [hasAll, e0, e1, e2, e3]]
      exact conOk_walk hmix o41 hcf (hs_4_3 Ys.none G c2 ro2 d0 d1 d2 d3 (u0 e0) (w _ _) (u0 e1) (w _ _) (u0 e2) (w _ _) (u1 e3) (w _ _))
    rw [show hasAll G [d0, d1, d2, d3] = true by simp [hasAll, e0, e1, e2, e3]]
    exact conOk_walk hmix o41 hcf (hs_4_4 Ys.none G c2 ro2 d0 d1 d2 d3 (u0 e0) (w _ _) (u0 e1) (w _ _) (u0 e2) (w _ _) (u0 e3) (w _ _))
  | [], h, _ => exact absurd h (by simp)
  | _ :: _ :: _ :: _ :: _ :: _, _, h => exact absurd h (by simp)
theorem s44_ok (o44 : FOk P 44 c44) : ∀ C, S44 C → C.wf = true → ConOk P 44 C := by
  intro C h _
  have hcf := callD_sound (A := pA) pHolds hmix tb0_ok (la0_ok (P := P)) 5
  cases h with
  | nil G c2 ro2 => exact conOk_walk hmix o44 hcf (se_0 Ys.none G c2 ro2)
  | mk G c2 ro2 ys j hj h1 h4 =>
  subst hj
  have hbel : ∀ ys : List Int, ∀ o ∈ [AObj.map (mV G) c2 ro2, AObj.cells (iV ys) false], o.belD 2 = true := fun ys o h => by
    simp only [List.mem_cons, List.not_mem_nil, or_false] at h
    rcases h with rfl | rfl
    · exact ebels_mV _ G
    · exact bels_iV _ ys
  match ys, h1, h4 with
  | [d0], _, _ => exact conOk_new (f := fun b => .slice b 0 1 1 1) (ob := .cells [.str (lookG G d0)] false) hmix o44 hcf (names_slice 1 1) rfl (hbel [d0]) (fun u m h => endN_of (pre := [.map (mV G) c2 ro2, .cells (iV [d0]) false]) (f := fun b => .slice b 0 1 1 1) (b := 3) (show (2 : Nat) ≤ 3 by decide) h) (se_1 Ys.none G c2 ro2 d0 _ (look_G G d0))
  | [d0, d1], _, _ => exact conOk_new (f := fun b => .slice b 0 2 2 1) (ob := .cells [.str (lookG G d0), .str (lookG G d1)] false) hmix o44 hcf (names_slice 2 2) rfl (hbel [d0, d1]) (fun u m h => endN_of (pre := [.map (mV G) c2 ro2, .cells (iV [d0, d1]) false]) (f := fun b => .slice b 0 2 2 1) (b := 5) (show (2 : Nat) ≤ 5 by decide) h) (se_2 Ys.none G c2 ro2 d0 d1 _ (look_G G d0) _ (look_G G d1))
  | [d0, d1, d2], _, _ => exact conOk_new (f := fun b => .slice b 0 3 3 1) (ob := .cells [.str (lookG G d0), .str (lookG G d1), .str (lookG G d2)] false) hmix o44 hcf (names_slice 3 3) rfl (hbel [d0, d1, d2]) (fun u m h => endN_of (pre := [.map (mV G) c2 ro2, .cells (iV [d0, d1, d2]) false]) (f := fun b => .slice b 0 3 3 1) (b := 7) (show (2 : Nat) ≤ 7 by decide) h) (se_3 Ys.none G c2 ro2 d0 d1 d2 _ (look_G G d0) _ (look_G G d1) _ (look_G G d2))
  | [d0, d1, d2, d3], _, _ => exact conOk_new (f := fun b => .slice b 0 4 4 1) (ob := .cells [.str (lookG G d0), .str (lookG G d1), .str (lookG G d2), .str (lookG G d3)] false) hmix o44 hcf (names_slice 4 4) rfl (hbel [d0, d1, d2, d3]) (fun u m h => endN_of (pre := [.map (mV G) c2 ro2, .cells (iV [d0, d1, d2, d3]) false]) (f := fun b => .slice b 0 4 4 1) (b := 9) (show (2 : Nat) ≤ 9 by decide) h) (se_4 Ys.none G c2 ro2 d0 d1 d2 d3 _ (look_G G d0) _ (look_G G d1) _ (look_G G d2) _ (look_G G d3))
  | [], h, _ => exact absurd h (by simp)
  | _ :: _ :: _ :: _ :: _ :: _, _, h => exact absurd h (by simp)
omit hmix in
theorem sq42_pre : ∀ Q C, SQ42 Q C → ∀ x y, (C x).pre = (C y).pre := by
  intro Q C h x y
  cases h; rfl
theorem sq42_ok (o59 : FOk P 59 c59) (o60 : FOk P 60 c60) (o42 : FOk P 42 c42) : ∀ Q C, SQ42 Q C → (∀ x, Q x → (C x).wf = true) → ConQOk P 42 (fun X => ∃ x, Q x ∧ X = C x) := by
  intro Q C h _
  cases h with | mk L c ro n hn h1 h2 h hd =>
  subst hn
  have hs : Stamped (mV L) c := ⟨fun y hy => by obtain ⟨z, hz, rfl⟩ := mV_mem hy; exact h z hz, by rw [mV_stamps]; exact hd, by rw [mV_length]; exact rounds_big (by omega)⟩
  have ht : TabOk P (fun f => bif Nat.beq f 59 then some c59 else bif Nat.beq f 60 then some c60 else none) := by
    intro f af h
    simp only at h
    by_cases e : f = 59
    · subst e; cases h; exact o59
    · rw [nbeqF e, cond_false] at h
      by_cases e' : f = 60
      · subst e'; cases h; exact o60
      · rw [nbeqF e'] at h; cases h
  have hcf := callD_sound (A := pA) pHolds hmix ht (la0_ok (P := P)) 8
  refine conQOk_new (f := fun b => .slice b 0 L.length L.length 1) (ob := fun x => .cells (tV x) false) hmix o42 hcf (names_slice _ _) (fun x _ => by show (!false && plains (tV x)) = true; rw [plains_tV]; rfl) (by intro o ho; simp only [List.mem_cons, List.not_mem_nil, or_false] at ho; rcases ho with rfl | rfl <;> first | rfl | exact ebels_mV _ L) (K := fun u m => ∃ x, x.Perm (mV L) ∧ endN [.cells [.map 1] false, .map (mV L) c ro] (fun b => .slice b 0 L.length L.length 1) (.cells (tV x) false) u m) (fun u m h => h) ?_
  refine collectS_run (a := 59) (g := 60) rfl rfl (m0 := memO [.cells [.map 1] false, .map (mV L) c ro]) (bx := 0) (mb := 1) hs (fun y hy => by obtain ⟨z, hz, rfl⟩ := mV_mem hy; rfl) (by rw [mV_length]; omega) (by show 1 < 2; decide) (by show 0 < 2; decide) rfl rfl (fun vis m u hp hnx hold hh hb => ?_)
  have hl : (vis.map valI).length = L.length := by rw [List.length_map, hp.length_eq, mV_length]
  rcases hh with ⟨e, _⟩ | ⟨b, e1, _, e2⟩
  · rw [e] at hl; simp at hl; omega
  · rw [hl] at e1
    have := hb b _ _ e1
    exact ⟨vis, hp, b, this.1, e1, by rw [e2]; simp [tV], fun c o he => by
      have hc := (List.getElem?_eq_some_iff.1 he).1
      rw [hold c hc, memO_get]; exact he⟩
omit hmix in
theorem rens_stVm (σ : Nat → Nat) : ∀ l : List (List Nat), rens σ (stV l) = stV l
  | [] => rfl
  | x :: l => by have := rens_stVm σ l; simp only [stV, List.map_cons, rens, V.ren] at *; rw [this]
omit hmix in
theorem bels_stVm (p : Nat → Bool) : ∀ l : List (List Nat), bels p (stV l) = true
  | [] => rfl
  | x :: l => by have := bels_stVm p l; simp only [stV, List.map_cons, bels, V.bel, Bool.true_and] at *; exact this
omit hmix in
theorem kSv {σ : Nat → Nat} {l : List (List Nat)} : some (AObj.cells (stV l) false) = some ((AObj.cells (stV l) false).ren σ) := congrArg (fun c => some (AObj.cells c false)) (rens_stVm _ _).symm
omit hmix in
theorem wf41m (G : List (Int × List Nat × Nat)) (c2 : Nat) (ro2 : Bool) (j : Nat) (ys : List Int) (b : Bool) : Con.wf ⟨[.map 0, .slice 1 0 j j 1], [.map (mV G) c2 ro2, .cells (iV ys) false], .bool b, [.map (mV G) c2 ro2, .cells (iV ys) false], []⟩ = true := by
  simp only [Con.wf, bels, V.bel, Con.p0, Con.p1, hasN, List.length_cons, List.length_nil, List.all_cons, List.all_nil, AObj.bel, bels_iV, bels_stVm, ebels_mV, AObj.live, AObj.wr, Bool.and_true, nodupN, Bool.and_self]
  rfl
omit hmix in
theorem wf410m (G : List (Int × List Nat × Nat)) (c2 : Nat) (ro2 : Bool) : Con.wf ⟨[.map 0, .nilslice], [.map (mV G) c2 ro2], .bool true, [.map (mV G) c2 ro2], []⟩ = true := by
  simp only [Con.wf, bels, V.bel, Con.p0, Con.p1, hasN, List.length_cons, List.length_nil, List.all_cons, List.all_nil, AObj.bel, bels_iV, bels_stVm, ebels_mV, AObj.live, AObj.wr, Bool.and_true, nodupN, Bool.and_self]
  rfl
omit hmix in
theorem wf440m (G : List (Int × List Nat × Nat)) (c2 : Nat) (ro2 : Bool) : Con.wf ⟨[.map 0, .nilslice], [.map (mV G) c2 ro2], .nilslice, [.map (mV G) c2 ro2], []⟩ = true := by
  simp only [Con.wf, bels, V.bel, Con.p0, Con.p1, hasN, List.length_cons, List.length_nil, List.all_cons, List.all_nil, AObj.bel, bels_iV, bels_stVm, ebels_mV, AObj.live, AObj.wr, Bool.and_true, nodupN, Bool.and_self]
  rfl
omit hmix in
theorem wf41n (j : Nat) (ys : List Int) : Con.wf ⟨[.nilmap, .slice 0 0 j j 1], [.cells (iV ys) false], .bool false, [.cells (iV ys) false], []⟩ = true := by
  simp only [Con.wf, bels, V.bel, Con.p0, Con.p1, hasN, List.length_cons, List.length_nil, List.all_cons, List.all_nil, AObj.bel, bels_iV, bels_stVm, ebels_mV, AObj.live, AObj.wr, Bool.and_true, nodupN, Bool.and_self]
  rfl
omit hmix in
theorem wf44m (G : List (Int × List Nat × Nat)) (c2 : Nat) (ro2 : Bool) (j : Nat) (ys : List Int) (gl : List (List Nat)) : Con.wf ⟨[.map 0, .slice 1 0 j j 1], [.map (mV G) c2 ro2, .cells (iV ys) false], .slice 2 0 j j 1, [.map (mV G) c2 ro2, .cells (iV ys) false], [(2, .cells (stV gl) false)]⟩ = true := by
  simp only [Con.wf, bels, V.bel, Con.p0, Con.p1, hasN, List.length_cons, List.length_nil, List.all_cons, List.all_nil, AObj.bel, bels_iV, bels_stVm, ebels_mV, AObj.live, AObj.wr, Bool.and_true, nodupN, Bool.and_self]
  rfl
omit hmix in
theorem kMv {σ : Nat → Nat} {L : List (Int × List Nat × Nat)} {c : Nat} {ro : Bool} : some (AObj.map (mV L) c ro) = some ((AObj.map (mV L) c ro).ren σ) := congrArg (fun x => some (AObj.map x c ro)) (erens_mV _ _).symm
omit hmix in
theorem kIv {σ : Nat → Nat} {l : List Int} : some (AObj.cells (iV l) false) = some ((AObj.cells (iV l) false).ren σ) := congrArg (fun c => some (AObj.cells c false)) (rens_iV _ _).symm
theorem s41g_ok (h41 : ∀ C, S41 C → C.wf = true → ConOk P 41 C) (l58 : LastOk P la58 id) (o51 : FOk P 51 c51) (o62 : FOk P 62 c62) (o41 : FOk P 41 c41) : ∀ C, S41g C → C.wf = true → ConOk P 41 C := by
  intro C h _
  have hcf := callD_sound pHolds hmix (tbS2_ok o51 o62) l58 6
  cases h with
  | mk gv G c2 ro2 hv ys j hj h1 h4 =>
    rcases hv with rfl | ⟨rfl, rfl⟩
    · exact con_move (h41 _ (S41.mk G c2 ro2 ys j hj h1 h4) (wf41m _ _ _ _ _ _)) (wf41m _ _ _ _ _ _) [1, 0] rfl ⟨kMv, kIv, trivial⟩ rfl rfl ⟨kIv.symm, kMv.symm, trivial⟩ trivial
    · match ys, hj, h1 with
      | [], hj, h1 => subst hj; exact absurd h1 (by simp)
      | d :: ys, hj, h1 =>
        exact con_move (C := ⟨[.nilmap, .slice 0 0 j j 1], [.cells (iV (d :: ys)) false], .bool false, [.cells (iV (d :: ys)) false], []⟩) (conOk_walk hmix o41 hcf (hn Ys.none (d :: ys) j h1 h4 d rfl (S58.nil d) rfl)) (wf41n _ _) [0] rfl ⟨kIv, trivial⟩ rfl rfl ⟨kIv.symm, rfl, trivial⟩ trivial
  | nil gv G c2 ro2 hv L c ro =>
    rcases hv with rfl | ⟨rfl, rfl⟩
    · exact con_move (h41 _ (S41.nil G c2 ro2) (wf410m _ _ _)) (wf410m _ _ _) [1] rfl ⟨kMv, trivial⟩ rfl rfl ⟨rfl, kMv.symm, trivial⟩ trivial
    · exact con_move (C := ⟨[.nilmap, .nilslice], [], .bool true, [], []⟩) (conOk_walk hmix o41 hcf (hn_0 Ys.none)) rfl [] rfl trivial rfl rfl ⟨rfl, rfl, trivial⟩ trivial
theorem s44g_ok (h44 : ∀ C, S44 C → C.wf = true → ConOk P 44 C) (o44 : FOk P 44 c44) : ∀ C, S44g C → C.wf = true → ConOk P 44 C := by
  intro C h _
  have hcf := callD_sound (A := pA) pHolds hmix tb0_ok (la0_ok (P := P)) 5
  cases h with
  | mk gv G c2 ro2 hv ys j hj h1 h4 hh =>
    rcases hv with rfl | ⟨rfl, rfl⟩
    · exact con_move (h44 _ (S44.mk G c2 ro2 ys j hj h1 h4) (wf44m _ _ _ _ _ _)) (wf44m _ _ _ _ _ _) [1, 0] rfl ⟨kMv, kIv, trivial⟩ rfl rfl ⟨Eq.trans (b := some ((AObj.cells (iV ys) false).ren (Con.tau ⟨[.map 0, .slice 1 0 j j 1], [.map (mV G) c2 ro2, .cells (iV ys) false], .slice 2 0 j j 1, [.map (mV G) c2 ro2, .cells (iV ys) false], [(2, .cells (stV (ys.map (lookG G))) false)]⟩ (nthD [1, 0]) 2))) (by kernel_rfl) kIv.symm, Eq.trans (b := some ((AObj.map (mV G) c2 ro2).ren (Con.tau ⟨[.map 0, .slice 1 0 j j 1], [.map (mV G) c2 ro2, .cells (iV ys) false], .slice 2 0 j j 1, [.map (mV G) c2 ro2, .cells (iV ys) false], [(2, .cells (stV (ys.map (lookG G))) false)]⟩ (nthD [1, 0]) 2))) (by kernel_rfl) kMv.symm, trivial⟩ ⟨Eq.trans (b := some ((AObj.cells (stV (ys.map (lookG G))) false).ren (Con.tau ⟨[.map 0, .slice 1 0 j j 1], [.map (mV G) c2 ro2, .cells (iV ys) false], .slice 2 0 j j 1, [.map (mV G) c2 ro2, .cells (iV ys) false], [(2, .cells (stV (ys.map (lookG G))) false)]⟩ (nthD [1, 0]) 2))) (by kernel_rfl) kSv.symm, trivial⟩
    · match ys, hj, h1, hh with
      | [], hj, h1, _ => subst hj; exact absurd h1 (by simp)
      | d :: ys, hj, h1, hh => exact absurd hh (by simp [hasAll, lookG])
  | nil gv G c2 ro2 hv L c ro =>
    rcases hv with rfl | ⟨rfl, rfl⟩
    · exact con_move (h44 _ (S44.nil G c2 ro2) (wf440m _ _ _)) (wf440m _ _ _) [1] rfl ⟨kMv, trivial⟩ rfl rfl ⟨rfl, kMv.symm, trivial⟩ trivial
    · exact con_move (C := ⟨[.nilmap, .nilslice], [], .nilslice, [], []⟩) (conOk_walk hmix o44 hcf (sn_0 Ys.none)) rfl [] rfl trivial rfl rfl ⟨rfl, rfl, trivial⟩ trivial
omit hmix in
theorem la12_ok (h10 : ∀ C, S10g C → C.wf = true → ConOk P 10 C) (h41 : ∀ C, S41g C → C.wf = true → ConOk P 41 C) (h44 : ∀ C, S44g C → C.wf = true → ConOk P 44 C) (h28 : ∀ C, S28 C → C.wf = true → ConOk P 28 C) (h42 : ∀ Q C, SQ42 Q C → (∀ x, Q x → (C x).wf = true) → ConQOk P 42 (fun X => ∃ x, Q x ∧ X = C x))
    (c10 : Callable P 10) (c41 : Callable P 41) (c44 : Callable P 44) (c28 : Callable P 28) (c42 : Callable P 42) (l27 : LastOk P (lastFn 27 R27 la0) id) : LastOk P la12 id :=
  lastC_ok c10 h10 (lastC_ok c41 h41 (lastC_ok c44 h44 (lastC_ok c28 h28 (lastQ_ok c42 sq42_pre h42 l27))))
theorem l27_ok (o61 : FOk P 61 c61) (o47 : FOk P 47 c47) (o27 : FOk P 27 c27) : LastOk P (lastFn 27 R27 la0) id := lastFn_ok (callable_fok o27) (fun ρ args args' v hv ha => by
    unfold R27 at hv; split at hv
    · cases hv; exact par_ans hmix o61 o47 o27 _ _ _ _ ha
    · cases hv) la0_ok
end
theorem outG_app (b0 b1 b2 b3 : Bool) (e : En) : ∀ (x : EnL) (i : Nat), outG b0 b1 b2 b3 i (x ++ [e]) = outG b0 b1 b2 b3 i x ++ (if inB4 b0 b1 b2 b3 (keyI e) = true then [(keyI e, valI e, i + (outG b0 b1 b2 b3 i x).length)] else [])
  | [], i => by simp [outG]
  | a :: x, i => by
    simp only [List.cons_append, outG]
    split
    · rw [outG_app b0 b1 b2 b3 e x (i + 1)]
      simp only [List.cons_append, List.length_cons]
      rw [show i + 1 + (outG b0 b1 b2 b3 (i + 1) x).length = i + ((outG b0 b1 b2 b3 (i + 1) x).length + 1) by omega]
    · exact outG_app b0 b1 b2 b3 e x i
theorem outG_key (b0 b1 b2 b3 : Bool) : ∀ (x : EnL) (i : Nat), ∀ y ∈ outG b0 b1 b2 b3 i x, ∃ e ∈ x, keyI e = y.1
  | [], _, _, h => by cases h
  | a :: x, i, y, h => by
    simp only [outG] at h
    split at h
    · rcases List.mem_cons.1 h with rfl | h
      · exact ⟨a, List.mem_cons_self, rfl⟩
      · obtain ⟨e, he, hk⟩ := outG_key b0 b1 b2 b3 x (i + 1) y h
        exact ⟨e, List.mem_cons_of_mem _ he, hk⟩
    · obtain ⟨e, he, hk⟩ := outG_key b0 b1 b2 b3 x i y h
      exact ⟨e, List.mem_cons_of_mem _ he, hk⟩
theorem mV_app : ∀ (l k : List (Int × List Nat × Nat)), mV (l ++ k) = mV l ++ mV k
  | [], _ => rfl
  | (n, s, t) :: l, k => by simp only [List.cons_append, mV, mV_app l k]
theorem hasG_mem : ∀ {L : List (Int × List Nat × Nat)} {x : Int}, hasG L x = true → ∃ y ∈ L, y.1 = x
  | [], _, h => by cases h
  | (n, s, t) :: L, x, h => by
    simp only [hasG, Bool.or_eq_true, decide_eq_true_eq] at h
    rcases h with h | h
    · exact ⟨_, List.mem_cons_self, h.symm⟩
    · obtain ⟨y, hy, e⟩ := hasG_mem h
      exact ⟨y, List.mem_cons_of_mem _ hy, e⟩
theorem find_none {O : List (Int × List Nat × Nat)} {x : Int} (h : ∀ y ∈ O, y.1 ≠ x) : findK (.one .int) (.int .i64 x) (mV O) = some none := by
  simp only [findK, keyOk, cond_true]
  rcases find_G (x := x) O 0 with ⟨_, _, e⟩ | ⟨e, _⟩
  · exact e
  · obtain ⟨y, hy, e2⟩ := hasG_mem e
    exact absurd e2 (h y hy)
end Go.Proofs.Ytjikaankdnmabaa
