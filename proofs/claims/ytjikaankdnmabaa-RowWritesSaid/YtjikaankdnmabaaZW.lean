/- The document's Makes: runs by script. No condition. -/
import Derived.Test.YtjikaankdnmabaaYW
namespace Go.Proofs.Ytjikaankdnmabaa
open Go Go.AM
set_option maxRecDepth 100000
set_option maxHeartbeats 0
set_option linter.unusedVariables false
def slT (b : Nat) : List (List Nat) → V
  | [] => .nilslice
  | _ :: l => .slice b 0 (l.length + 1) (l.length + 1) 1
def obT : List (List Nat) → AObj
  | [] => .dead
  | x :: l => .cells (stV (x :: l)) false
theorem slT_app (b : Nat) (l : List (List Nat)) (x : List Nat) : slT b (l ++ [x]) = .slice b 0 (l.length + 1) (l.length + 1) 1 := by
  cases l <;> simp [slT]
theorem obT_app (l : List (List Nat)) (x : List Nat) : obT (l ++ [x]) = .cells (stV (l ++ [x])) false := by cases l <;> rfl
theorem bels_stV (p : Nat → Bool) : ∀ l : List (List Nat), bels p (stV l) = true
  | [] => rfl
  | x :: l => by have := bels_stV p l; simp only [stV, List.map_cons, bels, V.bel, Bool.true_and] at *; exact this
theorem grow_stV {ls : List (List Nat)} {x : List Nat} {len : Nat} (h : ls.length = len) (hl : len ≤ 192) : growV 1 16 1 [.str x] 0 len len (stV ls) = some (stV (ls ++ [x])) := by
  have h1 : Nat.ble (len + 1) len = false := by
    cases e : Nat.ble (len + 1) len with
    | false => rfl
    | true => have := nble_iff.1 e; omega
  have h2 : small (len + 1) 16 = true := small_iff.2 (by omega)
  have h3 : ∀ (l : List V) (n : Nat), l.length = n → takeN n l = some l := by
    intro l
    induction l with
    | nil => intro n h; subst h; rfl
    | cons a l ih => intro n h; subst h; simp only [List.length_cons, takeN, ih _ rfl]
  unfold growV
  rw [h1, h2, Nat.mul_one]
  have h4 : takeN len (dropN 0 (stV ls)) = some (stV ls) := h3 (stV ls) _ (by simp [stV, h])
  rw [h4]
  simp only [stV, List.map_append, List.map_cons, List.map_nil]
  rfl
theorem obT_new (B N : Nat) (σ : Nat → Nat) (l : List (List Nat)) (x : List Nat) : obT (l ++ [x]) = .dead ∨ ((obT (l ++ [x])).lowIt B = true ∧ some (AObj.cells (stV (l ++ [x])) false) = some (obT (l ++ [x]))) ∨ some (AObj.cells (stV (l ++ [x])) false) = some ((obT (l ++ [x])).ren σ) ∧ (obT (l ++ [x])).bel (fun c => Nat.blt c N) = true := by
  rw [obT_app]; exact .inr (.inr ⟨congrArg (fun c => some (AObj.cells c false)) (rens_stV _ _).symm, bels_stV _ _⟩)
theorem kI {σ : Nat → Nat} {l : List Int} : some (AObj.cells (iV l) false) = some ((AObj.cells (iV l) false).ren σ) := congrArg (fun c => some (AObj.cells c false)) (rens_iV _ _).symm
theorem al_loop (G : List (Int × List Nat × Nat)) (c2 : Nat) (ro2 : Bool) (ys : List Int) (j : Nat) (j4 : j ≤ 4) (k : Nat) (hk : k ≤ ys.length) (hkj : k ≤ j) (hh : ∀ i d, i < k → ys[i]? = some d → (lookG G d).length = 64) {e : Ex} (he : e ≠ .normal) (M1 : Mem) (l1 : List (Sl × V))
    (fin : ∀ (Y : Ys Prop) (T : Slots), allS T [(s0, .map 0), (s1, .slice 1 0 j j 1), (s4, .nilslice), (s5, .bool false), (s6, slT 2 ((ys.take k).map (lookG G))), (s7, .int .i64 ((k : Nat) : Int))] → ∀ K : Ex → Slots → Mem → Prop, (∀ T', allS T' l1 → K e T' M1) → code pA (callD pA tb0 la0 5) Y c45l0 T (memL 3 [(0, .map (mV G) c2 ro2), (1, .cells (iV ys) false), (2, obT ((ys.take k).map (lookG G)))]) K) :
    LoopOkD (callD pA tb0 la0 5) 2 c45l0 e (memL 2 [(0, .map (mV G) c2 ro2), (1, .cells (iV ys) false)]) [(s0, .map 0), (s1, .slice 1 0 j j 1), (s4, .nilslice), (s5, .bool false), (s6, .nilslice), (s7, .int .i64 ((0 : Nat) : Int))] (fun _ => True) (fun _ => M1) (fun _ => l1) := by
  refine loopR (B := 2) he k (Nat.lt_of_lt_of_le (rounds_big (by omega)) (Nat.sub_le _ _)) _ _ [0, 1, 2] (fun i => memL 3 [(0, .map (mV G) c2 ro2), (1, .cells (iV ys) false), (2, obT ((ys.take i).map (lookG G)))]) (fun i => memL 5 [(0, .map (mV G) c2 ro2), (1, .cells (iV ys) false), (2, .dead), (3, .cells [.str (lookG G (ys.getD i 0))] false), (4, .cells (stV (((ys.take i).map (lookG G)) ++ [lookG G (ys.getD i 0)])) false)]) (fun i => [(s0, .map 0), (s1, .slice 1 0 j j 1), (s4, .nilslice), (s5, .bool false), (s6, slT 2 ((ys.take i).map (lookG G))), (s7, .int .i64 ((i : Nat) : Int))]) (fun i => [(s0, .map 0), (s1, .slice 1 0 j j 1), (s4, .nilslice), (s5, .bool false), (s6, .slice 4 0 (((ys.take i).map (lookG G)).length + 1) (((ys.take i).map (lookG G)).length + 1) 1), (s7, .int .i64 ((i + 1 : Nat) : Int))]) (fun _ => [0, 1, 4]) _ _ ?_ rfl (fun i hi => ?_) (fun i hi => ?_) ?_ fin
  · exact renM_of (objs := [.map (mV G) c2 ro2, .cells (iV ys) false, .dead]) rfl (by decide) rfl ⟨.inr (.inr ⟨kMs, ebels_mV _ _⟩), .inr (.inr ⟨kI, bels_iV _ _⟩), .inl rfl, trivial⟩
  · obtain ⟨d, hd⟩ : ∃ d, ys[i]? = some d := ⟨_, List.getElem?_eq_getElem (by omega)⟩
    have ht : (ys.take (i + 1)).map (lookG G) = (ys.take i).map (lookG G) ++ [lookG G d] := by rw [List.take_add_one, hd]; simp
    have hdd : ys.getD i 0 = d := by rw [List.getD_eq_getElem?_getD, hd]; rfl
    simp only [ht, hdd]
    exact renM_of (objs := [.map (mV G) c2 ro2, .cells (iV ys) false, obT ((ys.take i).map (lookG G) ++ [lookG G d])]) rfl (by decide) rfl ⟨.inr (.inr ⟨kMs, ebels_mV _ _⟩), .inr (.inr ⟨kI, bels_iV _ _⟩), obT_new _ _ _ _ _, trivial⟩
  · obtain ⟨d, hd⟩ : ∃ d, ys[i]? = some d := ⟨_, List.getElem?_eq_getElem (by omega)⟩
    have ht : (ys.take (i + 1)).map (lookG G) = (ys.take i).map (lookG G) ++ [lookG G d] := by rw [List.take_add_one, hd]; simp
    rw [ht, slT_app]
    simp only [backS, List.map_cons, List.map_nil]
    rw [slice_back (b := 4) (b' := 2) rfl rfl, slice_back (b := 1) (b' := 1) rfl rfl]
    rfl
  · intro Y i T hi hT K hK
    obtain ⟨d, hd⟩ : ∃ d, ys[i]? = some d := ⟨_, List.getElem?_eq_getElem (by omega)⟩
    have hdd : ys.getD i 0 = d := by rw [List.getD_eq_getElem?_getD, hd]; rfl
    have h64 := hh i d hi hd
    simp only [hdd] at hK
    have hlen : ((ys.take i).map (lookG G)).length = i := by rw [List.length_map, List.length_take]; omega
    generalize (ys.take i).map (lookG G) = A at hT hK hlen
    cases A with
    | nil => exact al_n Y G c2 ro2 ys j j4 i (by omega) d _ (nth_iV hd) (look_G G d) h64 T hT K hK
    | cons x A =>
      have hg := grow_stV (ls := x :: A) (x := lookG G d) (len := A.length + 1) rfl (by simp only [List.length_cons] at hlen; omega)
      exact al_s Y G c2 ro2 ys j j4 i (by omega) d _ (nth_iV hd) (look_G G d) h64 (A.length + 1) (x :: A) _ (by simp only [List.length_cons] at hlen; omega) hg T hT K hK
section
variable {P : Program}
variable (hmix : P.follows .mixedOrders = true)
include hmix
theorem s45_ok (o45 : FOk P 45 c45) : ∀ C, S45 C → C.wf = true → ConOk P 45 C := by
  intro C h _
  have hcf := callD_sound (A := pA) pHolds hmix tb0_ok (la0_ok (P := P)) 5
  cases h with
  | nil G c2 ro2 => exact conOk_walk hmix o45 hcf (al0 Ys.none G c2 ro2)
  | mk G c2 ro2 ys j hj h1 h4 hh =>
    have hall : ∀ i d, i < j → ys[i]? = some d → (lookG G d).length = 64 := fun i d _ hd => by
      have := List.all_eq_true.1 hh d (List.mem_iff_getElem?.2 ⟨i, hd⟩)
      simpa using this
    have H := al_loop G c2 ro2 ys j h4 j (by omega) (Nat.le_refl _) hall (e := .exit 0) (by intro h; cases h) (memL 3 [(0, .map (mV G) c2 ro2), (1, .cells (iV ys) false), (2, obT ((ys.take j).map (lookG G)))]) [(s0, .map 0), (s1, .slice 1 0 j j 1), (s4, .nilslice), (s5, .bool false), (s6, slT 2 ((ys.take j).map (lookG G))), (s7, .int .i64 ((j : Nat) : Int))] (fun Y T hT K hK => al_e Y G c2 ro2 ys j h4 _ _ T hT K hK)
    have e : ys.take j = ys := List.take_of_length_le (by omega)
    rw [e] at H
    have hl : (ys.map (lookG G)).length = j := by rw [List.length_map]; exact hj
    generalize ys.map (lookG G) = Q at H hl
    cases Q with
    | nil => simp at hl; omega
    | cons x Q =>
      have hl2 : Q.length + 1 = j := hl
      have run := al Ys.none G c2 ro2 ys j h4 (Q.length + 1) (stV (x :: Q)) H
      rw [hl2] at run
      exact conOk_walkD hmix o45 hcf run
  | bad G c2 ro2 ys j hj h1 h4 hh =>
    have hex : ∃ k, k < j ∧ (∀ i d, i < k → ys[i]? = some d → (lookG G d).length = 64) ∧ ∃ d, ys[k]? = some d ∧ (lookG G d).length ≠ 64 := by
      have hne : ∃ k, k < j ∧ ∃ d, ys[k]? = some d ∧ (lookG G d).length ≠ 64 := by
        refine Classical.byContradiction fun hn => ?_
        have : hasAll G ys = true := List.all_eq_true.2 fun d hd => by
          obtain ⟨k, hk⟩ := List.mem_iff_getElem?.1 hd
          refine decide_eq_true (Classical.byContradiction fun h64 => hn ⟨k, ?_, d, hk, h64⟩)
          have := (List.getElem?_eq_some_iff.1 hk).1
          omega
        rw [hh] at this; cases this
      clear hh h1
      obtain ⟨k, hk⟩ := hne
      induction k using Nat.strongRecOn with
      | ind k ih =>
        by_cases hs : ∃ i, i < k ∧ ∃ d, ys[i]? = some d ∧ (lookG G d).length ≠ 64
        · obtain ⟨i, hi, hd⟩ := hs
          exact ih i hi ⟨by omega, hd⟩
        · exact ⟨k, hk.1, fun i d hi hd => Classical.byContradiction fun h64 => hs ⟨i, hi, d, hd, h64⟩, hk.2⟩
    obtain ⟨k, hk, hall, d, hd, h64⟩ := hex
    have H := al_loop G c2 ro2 ys j h4 k (by omega) (by omega) hall (e := .ret) (by intro h; cases h) (memL 3 [(0, .map (mV G) c2 ro2), (1, .cells (iV ys) false), (2, obT ((ys.take k).map (lookG G)))]) [(s4, .nilslice), (s5, .bool false)] (fun Y T hT K hK => al_b Y G c2 ro2 ys j h4 k hk d _ (nth_iV hd) (look_G G d) h64 _ _ T hT K hK)
    exact conOk_walkD hmix o45 hcf (alb Ys.none G c2 ro2 ys j h4 _ H)
end
theorem wf45m (G : List (Int × List Nat × Nat)) (c2 : Nat) (ro2 : Bool) (j : Nat) (ys : List Int) (gl : List (List Nat)) : Con.wf ⟨[.map 0, .slice 1 0 j j 1], [.map (mV G) c2 ro2, .cells (iV ys) false], .tuple [.slice 2 0 j j 1, .bool true], [.map (mV G) c2 ro2, .cells (iV ys) false], [(2, .cells (stV gl) false)]⟩ = true := by
  simp only [Con.wf, bels, V.bel, Con.p0, Con.p1, hasN, List.length_cons, List.length_nil, List.all_cons, List.all_nil, AObj.bel, bels_iV, bels_stV, ebels_mV, AObj.live, AObj.wr, Bool.and_true, nodupN, Bool.and_self]
  rfl
theorem wf45bm (G : List (Int × List Nat × Nat)) (c2 : Nat) (ro2 : Bool) (j : Nat) (ys : List Int) : Con.wf ⟨[.map 0, .slice 1 0 j j 1], [.map (mV G) c2 ro2, .cells (iV ys) false], .tuple [.nilslice, .bool false], [.map (mV G) c2 ro2, .cells (iV ys) false], []⟩ = true := by
  simp only [Con.wf, bels, V.bel, Con.p0, Con.p1, hasN, List.length_cons, List.length_nil, List.all_cons, List.all_nil, AObj.bel, bels_iV, ebels_mV, AObj.live, AObj.wr, Bool.and_true, nodupN, Bool.and_self]
  rfl
theorem wf45nm (j : Nat) (ys : List Int) : Con.wf ⟨[.nilmap, .slice 0 0 j j 1], [.cells (iV ys) false], .tuple [.nilslice, .bool false], [.cells (iV ys) false], []⟩ = true := by
  simp only [Con.wf, bels, V.bel, Con.p0, Con.p1, hasN, List.length_cons, List.length_nil, List.all_cons, List.all_nil, AObj.bel, bels_iV, AObj.live, AObj.wr, Bool.and_true, nodupN, Bool.and_self]
  rfl
theorem wf450m (G : List (Int × List Nat × Nat)) (c2 : Nat) (ro2 : Bool) : Con.wf ⟨[.map 0, .nilslice], [.map (mV G) c2 ro2], .tuple [.nilslice, .bool true], [.map (mV G) c2 ro2], []⟩ = true := by
  simp only [Con.wf, bels, V.bel, Con.p0, Con.p1, hasN, List.length_cons, List.length_nil, List.all_cons, List.all_nil, AObj.bel, ebels_mV, AObj.live, AObj.wr, Bool.and_true, nodupN, Bool.and_self]
  rfl
section
variable {P : Program}
variable (hmix : P.follows .mixedOrders = true)
include hmix
theorem s45g_ok (h45 : ∀ C, S45 C → C.wf = true → ConOk P 45 C) (o45 : FOk P 45 c45) : ∀ C, S45g C → C.wf = true → ConOk P 45 C := by
  intro C h _
  have hcf := callD_sound (A := pA) pHolds hmix tb0_ok (la0_ok (P := P)) 5
  cases h with
  | mk gv G c2 ro2 hv ys j hj h1 h4 hh =>
    rcases hv with rfl | ⟨rfl, rfl⟩
    · exact con_move (h45 _ (S45.mk G c2 ro2 ys j hj h1 h4 hh) (wf45m _ _ _ _ _ _)) (wf45m _ _ _ _ _ _) [1, 0] rfl ⟨kMv, kIv, trivial⟩ rfl rfl ⟨Eq.trans (b := some ((.cells (iV ys) false : AObj).ren (Con.tau ⟨[.map 0, .slice 1 0 j j 1], [.map (mV G) c2 ro2, .cells (iV ys) false], .tuple [.slice 2 0 j j 1, .bool true], [.map (mV G) c2 ro2, .cells (iV ys) false], [(2, .cells (stV (ys.map (lookG G))) false)]⟩ (nthD [1, 0]) 2))) (by kernel_rfl) kIv.symm, Eq.trans (b := some ((.map (mV G) c2 ro2 : AObj).ren (Con.tau ⟨[.map 0, .slice 1 0 j j 1], [.map (mV G) c2 ro2, .cells (iV ys) false], .tuple [.slice 2 0 j j 1, .bool true], [.map (mV G) c2 ro2, .cells (iV ys) false], [(2, .cells (stV (ys.map (lookG G))) false)]⟩ (nthD [1, 0]) 2))) (by kernel_rfl) kMv.symm, trivial⟩ ⟨Eq.trans (b := some ((AObj.cells (stV (ys.map (lookG G))) false).ren (Con.tau ⟨[.map 0, .slice 1 0 j j 1], [.map (mV G) c2 ro2, .cells (iV ys) false], .tuple [.slice 2 0 j j 1, .bool true], [.map (mV G) c2 ro2, .cells (iV ys) false], [(2, .cells (stV (ys.map (lookG G))) false)]⟩ (nthD [1, 0]) 2))) (by kernel_rfl) kSv.symm, trivial⟩
    · match ys, hj, h1, hh with
      | [], hj, h1, _ => subst hj; exact absurd h1 (by simp)
      | d :: ys, hj, h1, hh => exact absurd hh (by simp [hasAll, lookG])
  | bad gv G c2 ro2 hv ys j hj h1 h4 hh =>
    rcases hv with rfl | ⟨rfl, rfl⟩
    · exact con_move (h45 _ (S45.bad G c2 ro2 ys j hj h1 h4 hh) (wf45bm _ _ _ _ _)) (wf45bm _ _ _ _ _) [1, 0] rfl ⟨kMv, kIv, trivial⟩ rfl rfl ⟨kIv.symm, kMv.symm, trivial⟩ trivial
    · match ys, hj, h1 with
      | [], hj, h1 => subst hj; exact absurd h1 (by simp)
      | d :: ys, hj, h1 => exact con_move (C := ⟨[.nilmap, .slice 0 0 j j 1], [.cells (iV (d :: ys)) false], .tuple [.nilslice, .bool false], [.cells (iV (d :: ys)) false], []⟩) (conOk_walk hmix o45 hcf (aln_b Ys.none (d :: ys) j h1 h4 d rfl)) (wf45nm _ _) [0] rfl ⟨kIv, trivial⟩ rfl rfl ⟨kIv.symm, rfl, trivial⟩ trivial
  | nil gv G c2 ro2 hv L c ro =>
    rcases hv with rfl | ⟨rfl, rfl⟩
    · exact con_move (h45 _ (S45.nil G c2 ro2) (wf450m _ _ _)) (wf450m _ _ _) [1] rfl ⟨kMv, trivial⟩ rfl rfl ⟨rfl, kMv.symm, trivial⟩ trivial
    · exact con_move (C := ⟨[.nilmap, .nilslice], [], .tuple [.nilslice, .bool true], [], []⟩) (conOk_walk hmix o45 hcf (aln_0 Ys.none)) rfl [] rfl trivial rfl rfl ⟨rfl, rfl, trivial⟩ trivial
end
def c13l0b : ACode := sndC (sndC c13l0)
theorem c13l0_eq : c13l0 = rangeB s42 s41 s43 0 c13l0b := rfl
noncomputable abbrev la13 : CF Prop := lastC 11 S10g (lastC 45 S45g (lastC 46 S46 (lastFn 40 R40 la0)))
theorem mono13 : MonoCF la13 := mono_c (mono_c (mono_c (mono_fn mono_false)))
noncomputable abbrev mso_ny_Qa (l m r : Int) (b0 b1 b2 b3 : Bool) (L : LL) (c : Nat) (ro : Bool) (G : LL) (c2 : Nat) (ro2 : Bool) (k t : Nat) (S g : List Nat) (O1 : EnL) : Mem := memL 9 [(0, oM (mV L) c ro), (1, oM (mV G) c2 ro2), (2, oC [vi l, vi m, vi r] false), (3, oC (inP b0 b1 b2 b3) false), (4, oM O1 (k + 1) false), (5, oI (some 0) c (S ++ [t]) c), (6, AObj.dead), (7, oC [V.str g] false), (8, oC [V.str g] false)]
theorem mso_ny_o0 (n : Nat) (n4 : n < (4 : Nat)) : n < (4 : Nat) := by omega
theorem mso_ny (Y : Ys Prop) (l m r s : Int) (b0 b1 b2 b3 : Bool) (L : LL) (c : Nat) (ro : Bool) (G : LL) (c2 : Nat) (ro2 : Bool) (O : LL) (k t n : Nat) (S : List Nat) (g : List Nat) (n4 : n < 4) (hE : entryV (List.getLast? (S ++ [t])) (some (AObj.map (mV L) c ro)) c = some (.tuple [.int .i64 ((n : Nat) : Int), .str g])) (hv : nth (inP b0 b1 b2 b3) n = some (.bool true)) (hf : findK (.one .int) (.int .i64 ((n : Nat) : Int)) (mV O) = some none) (O1 : EnL) (hO : mV O ++ [(.int .i64 ((n : Nat) : Int), .str g, k)] = O1)  (T : Slots) (hT : allS T [(s1, .int .i64 s), (s5, .ptr 2 0), (s7, .ptr 3 0), (s14, .nilslice), (s16, .map 4), (s41, .ptr 5 0)]) (K : Ex → Slots → Mem → Prop) (hK : ∀ T', allS T' [(s1, .int .i64 s), (s5, .ptr 2 0), (s7, .ptr 3 0), (s14, .slice 8 0 1 1 1), (s16, .map 4), (s41, .ptr 5 0)] → K (.normal) T' (memL 9 [(0, .map (mV L) c ro), (1, .map (mV G) c2 ro2), (2, .cells [.int .i64 l, .int .i64 m, .int .i64 r] false), (3, .cells (inP b0 b1 b2 b3) false), (4, .map O1 (k + 1) false), (5, .iter (some 0) c (S ++ [t]) c), (6, .dead), (7, .cells [.str g] false), (8, .cells [.str g] false)])) :
   code pA (callD pA tb0 la13 5) Y c13l0b T (memL 7 [(0, .map (mV L) c ro), (1, .map (mV G) c2 ro2), (2, .cells [.int .i64 l, .int .i64 m, .int .i64 r] false), (3, .cells (inP b0 b1 b2 b3) false), (4, .map (mV O) k false), (5, .iter (some 0) c (S ++ [t]) c), (6, .dead)]) K :=
  code_of_vc (mono13) (.fix s1 (vi s) (.fix s5 (V.ptr 2 0) (.fix s7 (V.ptr 3 0) (.fix s14 (V.nilslice) (.fix s16 (V.map 4) (.fix s41 (V.ptr 5 0) (.res (V.tuple [vi ↑n, V.str g]) (.wait 10 (.res (V.ptr 3 n) (.res (vb true) (.wait 4 (.mset (KT.one SK.int) (Opd.t s54) (Opd.t s55) (Opd.t s56) 4 (mV O) (k) (O1) .nil))))))))))))
  (show (Slots.get T s1 = vi s ∧ Slots.get T s5 = V.ptr 2 0 ∧ Slots.get T s7 = V.ptr 3 0 ∧ Slots.get T s14 = V.nilslice ∧ Slots.get T s16 = V.map 4 ∧ Slots.get T s41 = V.ptr 5 0 ∧ entryV (List.getLast? (S ++ [t])) (some (oM (mV L) c ro)) c = some (V.tuple [vi ↑n, V.str g]) ∧ iaddrAV (4) 1 (V.ptr 3 0) (vi ↑n) = some (V.ptr 3 n) ∧ nth (inP b0 b1 b2 b3) (n) = some (vb true) ∧ rR (lMset (KT.one SK.int) (Opd.t s54) (Opd.t s55) (Opd.t s56)) ∧ V.map 4 = V.map 4 ∧ rR (some (oM (mV O) k false)) ∧ findK (KT.one SK.int) (vi ↑n) (mV O) = some none ∧ mV O ++ [(vi ↑n, V.str g, k)] = O1 ∧ (Ex.normal = Ex.normal ∧ rR (mso_ny_Qa l m r b0 b1 b2 b3 L c ro G c2 ro2 k t S g O1) ∧ (vi s = vi s ∧ (V.ptr 2 0 = V.ptr 2 0 ∧ (V.ptr 3 0 = V.ptr 3 0 ∧ (rR (V.slice 8 0 1 1 1) ∧ (V.map 4 = V.map 4 ∧ (V.ptr 5 0 = V.ptr 5 0 ∧ True)))))))) from
  ⟨hT.1, hT.2.1, hT.2.2.1, hT.2.2.2.1, hT.2.2.2.2.1, hT.2.2.2.2.2.1, hE, (iaddrA_ok1 (i := n) rfl (mso_ny_o0 n n4)), hv, rfl, rfl, rfl, hf, hO, ⟨rfl, rfl, ⟨rfl, ⟨rfl, ⟨rfl, ⟨rfl, ⟨rfl, ⟨rfl, trivial⟩⟩⟩⟩⟩⟩⟩⟩)
  (by kernel_rfl) Y K hK
noncomputable abbrev mso_nn_Qa (l m r : Int) (b0 b1 b2 b3 : Bool) (L : LL) (c : Nat) (ro : Bool) (G : LL) (c2 : Nat) (ro2 : Bool) (O : LL) (k t : Nat) (S g : List Nat) : Mem := memL 9 [(0, oM (mV L) c ro), (1, oM (mV G) c2 ro2), (2, oC [vi l, vi m, vi r] false), (3, oC (inP b0 b1 b2 b3) false), (4, oM (mV O) k false), (5, oI (some 0) c (S ++ [t]) c), (6, AObj.dead), (7, oC [V.str g] false), (8, oC [V.str g] false)]
theorem mso_nn (Y : Ys Prop) (l m r s : Int) (b0 b1 b2 b3 : Bool) (L : LL) (c : Nat) (ro : Bool) (G : LL) (c2 : Nat) (ro2 : Bool) (O : LL) (k t n : Nat) (S : List Nat) (g : List Nat) (n4 : n < 4) (hE : entryV (List.getLast? (S ++ [t])) (some (AObj.map (mV L) c ro)) c = some (.tuple [.int .i64 ((n : Nat) : Int), .str g])) (hv : nth (inP b0 b1 b2 b3) n = some (.bool false))  (T : Slots) (hT : allS T [(s1, .int .i64 s), (s5, .ptr 2 0), (s7, .ptr 3 0), (s14, .nilslice), (s16, .map 4), (s41, .ptr 5 0)]) (K : Ex → Slots → Mem → Prop) (hK : ∀ T', allS T' [(s1, .int .i64 s), (s5, .ptr 2 0), (s7, .ptr 3 0), (s14, .slice 8 0 1 1 1), (s16, .map 4), (s41, .ptr 5 0)] → K (.normal) T' (memL 9 [(0, .map (mV L) c ro), (1, .map (mV G) c2 ro2), (2, .cells [.int .i64 l, .int .i64 m, .int .i64 r] false), (3, .cells (inP b0 b1 b2 b3) false), (4, .map (mV O) k false), (5, .iter (some 0) c (S ++ [t]) c), (6, .dead), (7, .cells [.str g] false), (8, .cells [.str g] false)])) :
   code pA (callD pA tb0 la13 5) Y c13l0b T (memL 7 [(0, .map (mV L) c ro), (1, .map (mV G) c2 ro2), (2, .cells [.int .i64 l, .int .i64 m, .int .i64 r] false), (3, .cells (inP b0 b1 b2 b3) false), (4, .map (mV O) k false), (5, .iter (some 0) c (S ++ [t]) c), (6, .dead)]) K :=
  code_of_vc (mono13) (.fix s1 (vi s) (.fix s5 (V.ptr 2 0) (.fix s7 (V.ptr 3 0) (.fix s14 (V.nilslice) (.fix s16 (V.map 4) (.fix s41 (V.ptr 5 0) (.res (V.tuple [vi ↑n, V.str g]) (.wait 10 (.res (V.ptr 3 n) (.res (vb false) .nil))))))))))
  (show (Slots.get T s1 = vi s ∧ Slots.get T s5 = V.ptr 2 0 ∧ Slots.get T s7 = V.ptr 3 0 ∧ Slots.get T s14 = V.nilslice ∧ Slots.get T s16 = V.map 4 ∧ Slots.get T s41 = V.ptr 5 0 ∧ entryV (List.getLast? (S ++ [t])) (some (oM (mV L) c ro)) c = some (V.tuple [vi ↑n, V.str g]) ∧ iaddrAV (4) 1 (V.ptr 3 0) (vi ↑n) = some (V.ptr 3 n) ∧ nth (inP b0 b1 b2 b3) (n) = some (vb false) ∧ Ex.normal = Ex.normal ∧ rR (mso_nn_Qa l m r b0 b1 b2 b3 L c ro G c2 ro2 O k t S g) ∧ (vi s = vi s ∧ (V.ptr 2 0 = V.ptr 2 0 ∧ (V.ptr 3 0 = V.ptr 3 0 ∧ (rR (V.slice 8 0 1 1 1) ∧ (V.map 4 = V.map 4 ∧ (V.ptr 5 0 = V.ptr 5 0 ∧ True))))))) from
  ⟨hT.1, hT.2.1, hT.2.2.1, hT.2.2.2.1, hT.2.2.2.2.1, hT.2.2.2.2.2.1, hE, (iaddrA_ok1 (i := n) rfl (mso_ny_o0 n n4)), hv, rfl, rfl, ⟨rfl, ⟨rfl, ⟨rfl, ⟨rfl, ⟨rfl, ⟨rfl, trivial⟩⟩⟩⟩⟩⟩⟩)
  (by kernel_rfl) Y K hK
noncomputable abbrev mso_sy_Qa (l m r : Int) (b0 b1 b2 b3 : Bool) (L : LL) (c : Nat) (ro : Bool) (G : LL) (c2 : Nat) (ro2 : Bool) (k t : Nat) (S g : List Nat) (O1 : EnL) (A1 : List (List Nat)) : Mem := memL 9 [(0, oM (mV L) c ro), (1, oM (mV G) c2 ro2), (2, oC [vi l, vi m, vi r] false), (3, oC (inP b0 b1 b2 b3) false), (4, oM O1 (k + 1) false), (5, oI (some 0) c (S ++ [t]) c), (6, AObj.dead), (7, oC [V.str g] false), (8, oC (stV A1) false)]
theorem mso_sy (Y : Ys Prop) (l m r s : Int) (b0 b1 b2 b3 : Bool) (L : LL) (c : Nat) (ro : Bool) (G : LL) (c2 : Nat) (ro2 : Bool) (O : LL) (k t n : Nat) (S : List Nat) (g : List Nat) (n4 : n < 4) (hE : entryV (List.getLast? (S ++ [t])) (some (AObj.map (mV L) c ro)) c = some (.tuple [.int .i64 ((n : Nat) : Int), .str g])) (hv : nth (inP b0 b1 b2 b3) n = some (.bool true)) (hf : findK (.one .int) (.int .i64 ((n : Nat) : Int)) (mV O) = some none) (O1 : EnL) (hO : mV O ++ [(.int .i64 ((n : Nat) : Int), .str g, k)] = O1) (a : Nat) (A A1 : List (List Nat)) (ha : a ≤ 9) (hg : growV 1 16 1 [.str g] 0 a a (stV A) = some (stV A1))  (T : Slots) (hT : allS T [(s1, .int .i64 s), (s5, .ptr 2 0), (s7, .ptr 3 0), (s14, .slice 6 0 a a 1), (s16, .map 4), (s41, .ptr 5 0)]) (K : Ex → Slots → Mem → Prop) (hK : ∀ T', allS T' [(s1, .int .i64 s), (s5, .ptr 2 0), (s7, .ptr 3 0), (s14, .slice 8 0 (a + 1) (a + 1) 1), (s16, .map 4), (s41, .ptr 5 0)] → K (.normal) T' (memL 9 [(0, .map (mV L) c ro), (1, .map (mV G) c2 ro2), (2, .cells [.int .i64 l, .int .i64 m, .int .i64 r] false), (3, .cells (inP b0 b1 b2 b3) false), (4, .map O1 (k + 1) false), (5, .iter (some 0) c (S ++ [t]) c), (6, .dead), (7, .cells [.str g] false), (8, .cells (stV A1) false)])) :
   code pA (callD pA tb0 la13 5) Y c13l0b T (memL 7 [(0, .map (mV L) c ro), (1, .map (mV G) c2 ro2), (2, .cells [.int .i64 l, .int .i64 m, .int .i64 r] false), (3, .cells (inP b0 b1 b2 b3) false), (4, .map (mV O) k false), (5, .iter (some 0) c (S ++ [t]) c), (6, .cells (stV A) false)]) K :=
  code_of_vc (mono13) (.fix s1 (vi s) (.fix s5 (V.ptr 2 0) (.fix s7 (V.ptr 3 0) (.fix s14 (V.slice 6 0 a a 1) (.fix s16 (V.map 4) (.fix s41 (V.ptr 5 0) (.res (V.tuple [vi ↑n, V.str g]) (.wait 7 (.grow (Opd.t s47) (Opd.t s49) 1 16 6 (0) (a) (a) (stV A) (1) ([V.str g]) (stV A1) (.wait 2 (.res (V.ptr 3 n) (.res (vb true) (.wait 4 (.mset (KT.one SK.int) (Opd.t s54) (Opd.t s55) (Opd.t s56) 4 (mV O) (k) (O1) .nil))))))))))))))
  (show (Slots.get T s1 = vi s ∧ Slots.get T s5 = V.ptr 2 0 ∧ Slots.get T s7 = V.ptr 3 0 ∧ Slots.get T s14 = V.slice 6 0 a a 1 ∧ Slots.get T s16 = V.map 4 ∧ Slots.get T s41 = V.ptr 5 0 ∧ entryV (List.getLast? (S ++ [t])) (some (oM (mV L) c ro)) c = some (V.tuple [vi ↑n, V.str g]) ∧ rR (lApp 1 16 (Opd.t s47) (Opd.t s49)) ∧ rR (V.slice 6 0 a a 1) ∧ true = true ∧ some (1) = some (1) ∧ rR (some ([V.str g])) ∧ rR (some (oC (stV A) false)) ∧ growV 1 16 1 [V.str g] 0 a a (stV A) = some (stV A1) ∧ (iaddrAV (4) 1 (V.ptr 3 0) (vi ↑n) = some (V.ptr 3 n) ∧ nth (inP b0 b1 b2 b3) (n) = some (vb true) ∧ rR (lMset (KT.one SK.int) (Opd.t s54) (Opd.t s55) (Opd.t s56)) ∧ V.map 4 = V.map 4 ∧ rR (some (oM (mV O) k false)) ∧ findK (KT.one SK.int) (vi ↑n) (mV O) = some none ∧ mV O ++ [(vi ↑n, V.str g, k)] = O1 ∧ (Ex.normal = Ex.normal ∧ rR (mso_sy_Qa l m r b0 b1 b2 b3 L c ro G c2 ro2 k t S g O1 A1) ∧ (vi s = vi s ∧ (V.ptr 2 0 = V.ptr 2 0 ∧ (V.ptr 3 0 = V.ptr 3 0 ∧ (rR (V.slice 8 0 (a + 1) (a + 1) 1) ∧ (V.map 4 = V.map 4 ∧ (V.ptr 5 0 = V.ptr 5 0 ∧ True))))))))) from
  ⟨hT.1, hT.2.1, hT.2.2.1, hT.2.2.2.1, hT.2.2.2.2.1, hT.2.2.2.2.2.1, hE, rfl, rfl, rfl, rfl, rfl, rfl, hg, ⟨(iaddrA_ok1 (i := n) rfl (mso_ny_o0 n n4)), hv, rfl, rfl, rfl, hf, hO, ⟨rfl, rfl, ⟨rfl, ⟨rfl, ⟨rfl, ⟨rfl, ⟨rfl, ⟨rfl, trivial⟩⟩⟩⟩⟩⟩⟩⟩⟩)
  (by kernel_rfl) Y K hK
noncomputable abbrev mso_sn_Qa (l m r : Int) (b0 b1 b2 b3 : Bool) (L : LL) (c : Nat) (ro : Bool) (G : LL) (c2 : Nat) (ro2 : Bool) (O : LL) (k t : Nat) (S g : List Nat) (A1 : List (List Nat)) : Mem := memL 9 [(0, oM (mV L) c ro), (1, oM (mV G) c2 ro2), (2, oC [vi l, vi m, vi r] false), (3, oC (inP b0 b1 b2 b3) false), (4, oM (mV O) k false), (5, oI (some 0) c (S ++ [t]) c), (6, AObj.dead), (7, oC [V.str g] false), (8, oC (stV A1) false)]
theorem mso_sn (Y : Ys Prop) (l m r s : Int) (b0 b1 b2 b3 : Bool) (L : LL) (c : Nat) (ro : Bool) (G : LL) (c2 : Nat) (ro2 : Bool) (O : LL) (k t n : Nat) (S : List Nat) (g : List Nat) (n4 : n < 4) (hE : entryV (List.getLast? (S ++ [t])) (some (AObj.map (mV L) c ro)) c = some (.tuple [.int .i64 ((n : Nat) : Int), .str g])) (hv : nth (inP b0 b1 b2 b3) n = some (.bool false)) (a : Nat) (A A1 : List (List Nat)) (ha : a ≤ 9) (hg : growV 1 16 1 [.str g] 0 a a (stV A) = some (stV A1))  (T : Slots) (hT : allS T [(s1, .int .i64 s), (s5, .ptr 2 0), (s7, .ptr 3 0), (s14, .slice 6 0 a a 1), (s16, .map 4), (s41, .ptr 5 0)]) (K : Ex → Slots → Mem → Prop) (hK : ∀ T', allS T' [(s1, .int .i64 s), (s5, .ptr 2 0), (s7, .ptr 3 0), (s14, .slice 8 0 (a + 1) (a + 1) 1), (s16, .map 4), (s41, .ptr 5 0)] → K (.normal) T' (memL 9 [(0, .map (mV L) c ro), (1, .map (mV G) c2 ro2), (2, .cells [.int .i64 l, .int .i64 m, .int .i64 r] false), (3, .cells (inP b0 b1 b2 b3) false), (4, .map (mV O) k false), (5, .iter (some 0) c (S ++ [t]) c), (6, .dead), (7, .cells [.str g] false), (8, .cells (stV A1) false)])) :
   code pA (callD pA tb0 la13 5) Y c13l0b T (memL 7 [(0, .map (mV L) c ro), (1, .map (mV G) c2 ro2), (2, .cells [.int .i64 l, .int .i64 m, .int .i64 r] false), (3, .cells (inP b0 b1 b2 b3) false), (4, .map (mV O) k false), (5, .iter (some 0) c (S ++ [t]) c), (6, .cells (stV A) false)]) K :=
  code_of_vc (mono13) (.fix s1 (vi s) (.fix s5 (V.ptr 2 0) (.fix s7 (V.ptr 3 0) (.fix s14 (V.slice 6 0 a a 1) (.fix s16 (V.map 4) (.fix s41 (V.ptr 5 0) (.res (V.tuple [vi ↑n, V.str g]) (.wait 7 (.grow (Opd.t s47) (Opd.t s49) 1 16 6 (0) (a) (a) (stV A) (1) ([V.str g]) (stV A1) (.wait 2 (.res (V.ptr 3 n) (.res (vb false) .nil))))))))))))
  (show (Slots.get T s1 = vi s ∧ Slots.get T s5 = V.ptr 2 0 ∧ Slots.get T s7 = V.ptr 3 0 ∧ Slots.get T s14 = V.slice 6 0 a a 1 ∧ Slots.get T s16 = V.map 4 ∧ Slots.get T s41 = V.ptr 5 0 ∧ entryV (List.getLast? (S ++ [t])) (some (oM (mV L) c ro)) c = some (V.tuple [vi ↑n, V.str g]) ∧ rR (lApp 1 16 (Opd.t s47) (Opd.t s49)) ∧ rR (V.slice 6 0 a a 1) ∧ true = true ∧ some (1) = some (1) ∧ rR (some ([V.str g])) ∧ rR (some (oC (stV A) false)) ∧ growV 1 16 1 [V.str g] 0 a a (stV A) = some (stV A1) ∧ (iaddrAV (4) 1 (V.ptr 3 0) (vi ↑n) = some (V.ptr 3 n) ∧ nth (inP b0 b1 b2 b3) (n) = some (vb false) ∧ Ex.normal = Ex.normal ∧ rR (mso_sn_Qa l m r b0 b1 b2 b3 L c ro G c2 ro2 O k t S g A1) ∧ (vi s = vi s ∧ (V.ptr 2 0 = V.ptr 2 0 ∧ (V.ptr 3 0 = V.ptr 3 0 ∧ (rR (V.slice 8 0 (a + 1) (a + 1) 1) ∧ (V.map 4 = V.map 4 ∧ (V.ptr 5 0 = V.ptr 5 0 ∧ True)))))))) from
  ⟨hT.1, hT.2.1, hT.2.2.1, hT.2.2.2.1, hT.2.2.2.2.1, hT.2.2.2.2.2.1, hE, rfl, rfl, rfl, rfl, rfl, rfl, hg, ⟨(iaddrA_ok1 (i := n) rfl (mso_ny_o0 n n4)), hv, rfl, rfl, ⟨rfl, ⟨rfl, ⟨rfl, ⟨rfl, ⟨rfl, ⟨rfl, trivial⟩⟩⟩⟩⟩⟩⟩⟩)
  (by kernel_rfl) Y K hK
noncomputable abbrev msk_sy_Qa (l m r : Int) (b0 b1 b2 b3 : Bool) (L : LL) (c : Nat) (ro : Bool) (G : LL) (c2 : Nat) (ro2 : Bool) (no : AObj) (k t : Nat) (S g : List Nat) (O1 : EnL) (A1 : List (List Nat)) : Mem := memL 10 [(0, oM (mV L) c ro), (1, oM (mV G) c2 ro2), (2, oC [vi l, vi m, vi r] false), (3, oC (inP b0 b1 b2 b3) false), (4, no), (5, AObj.dead), (6, oM O1 (k + 1) false), (7, oI (some 0) c (S ++ [t]) c), (8, oC [V.str g] false), (9, oC (stV A1) false)]
theorem msk_sy (Y : Ys Prop) (l m r s : Int) (b0 b1 b2 b3 : Bool) (L : LL) (c : Nat) (ro : Bool) (G : LL) (c2 : Nat) (ro2 : Bool) (no : AObj) (O : LL) (k t n : Nat) (S : List Nat) (g : List Nat) (n4 : n < 4) (hE : entryV (List.getLast? (S ++ [t])) (some (AObj.map (mV L) c ro)) c = some (.tuple [.int .i64 ((n : Nat) : Int), .str g])) (hv : nth (inP b0 b1 b2 b3) n = some (.bool true)) (hf : findK (.one .int) (.int .i64 ((n : Nat) : Int)) (mV O) = some none) (O1 : EnL) (hO : mV O ++ [(.int .i64 ((n : Nat) : Int), .str g, k)] = O1) (a : Nat) (A A1 : List (List Nat)) (ha : a ≤ 9) (hg : growV 1 16 1 [.str g] 0 a a (stV A) = some (stV A1))  (T : Slots) (hT : allS T [(s1, .int .i64 s), (s5, .ptr 2 0), (s7, .ptr 3 0), (s14, .slice 5 0 a a 1), (s16, .map 6), (s41, .ptr 7 0)]) (K : Ex → Slots → Mem → Prop) (hK : ∀ T', allS T' [(s1, .int .i64 s), (s5, .ptr 2 0), (s7, .ptr 3 0), (s14, .slice 9 0 (a + 1) (a + 1) 1), (s16, .map 6), (s41, .ptr 7 0)] → K (.normal) T' (memL 10 [(0, .map (mV L) c ro), (1, .map (mV G) c2 ro2), (2, .cells [.int .i64 l, .int .i64 m, .int .i64 r] false), (3, .cells (inP b0 b1 b2 b3) false), (4, no), (5, .dead), (6, .map O1 (k + 1) false), (7, .iter (some 0) c (S ++ [t]) c), (8, .cells [.str g] false), (9, .cells (stV A1) false)])) :
   code pA (callD pA tb0 la13 5) Y c13l0b T (memL 8 [(0, .map (mV L) c ro), (1, .map (mV G) c2 ro2), (2, .cells [.int .i64 l, .int .i64 m, .int .i64 r] false), (3, .cells (inP b0 b1 b2 b3) false), (4, no), (5, .cells (stV A) false), (6, .map (mV O) k false), (7, .iter (some 0) c (S ++ [t]) c)]) K :=
  code_of_vc (mono13) (.fix s1 (vi s) (.fix s5 (V.ptr 2 0) (.fix s7 (V.ptr 3 0) (.fix s14 (V.slice 5 0 a a 1) (.fix s16 (V.map 6) (.fix s41 (V.ptr 7 0) (.res (V.tuple [vi ↑n, V.str g]) (.wait 7 (.grow (Opd.t s47) (Opd.t s49) 1 16 5 (0) (a) (a) (stV A) (1) ([V.str g]) (stV A1) (.wait 2 (.res (V.ptr 3 n) (.res (vb true) (.wait 4 (.mset (KT.one SK.int) (Opd.t s54) (Opd.t s55) (Opd.t s56) 6 (mV O) (k) (O1) .nil))))))))))))))
  (show (Slots.get T s1 = vi s ∧ Slots.get T s5 = V.ptr 2 0 ∧ Slots.get T s7 = V.ptr 3 0 ∧ Slots.get T s14 = V.slice 5 0 a a 1 ∧ Slots.get T s16 = V.map 6 ∧ Slots.get T s41 = V.ptr 7 0 ∧ entryV (List.getLast? (S ++ [t])) (some (oM (mV L) c ro)) c = some (V.tuple [vi ↑n, V.str g]) ∧ rR (lApp 1 16 (Opd.t s47) (Opd.t s49)) ∧ rR (V.slice 5 0 a a 1) ∧ true = true ∧ some (1) = some (1) ∧ rR (some ([V.str g])) ∧ rR (some (oC (stV A) false)) ∧ growV 1 16 1 [V.str g] 0 a a (stV A) = some (stV A1) ∧ (iaddrAV (4) 1 (V.ptr 3 0) (vi ↑n) = some (V.ptr 3 n) ∧ nth (inP b0 b1 b2 b3) (n) = some (vb true) ∧ rR (lMset (KT.one SK.int) (Opd.t s54) (Opd.t s55) (Opd.t s56)) ∧ V.map 6 = V.map 6 ∧ rR (some (oM (mV O) k false)) ∧ findK (KT.one SK.int) (vi ↑n) (mV O) = some none ∧ mV O ++ [(vi ↑n, V.str g, k)] = O1 ∧ (Ex.normal = Ex.normal ∧ rR (msk_sy_Qa l m r b0 b1 b2 b3 L c ro G c2 ro2 no k t S g O1 A1) ∧ (vi s = vi s ∧ (V.ptr 2 0 = V.ptr 2 0 ∧ (V.ptr 3 0 = V.ptr 3 0 ∧ (rR (V.slice 9 0 (a + 1) (a + 1) 1) ∧ (V.map 6 = V.map 6 ∧ (V.ptr 7 0 = V.ptr 7 0 ∧ True))))))))) from
  ⟨hT.1, hT.2.1, hT.2.2.1, hT.2.2.2.1, hT.2.2.2.2.1, hT.2.2.2.2.2.1, hE, rfl, rfl, rfl, rfl, rfl, rfl, hg, ⟨(iaddrA_ok1 (i := n) rfl (mso_ny_o0 n n4)), hv, rfl, rfl, rfl, hf, hO, ⟨rfl, rfl, ⟨rfl, ⟨rfl, ⟨rfl, ⟨rfl, ⟨rfl, ⟨rfl, trivial⟩⟩⟩⟩⟩⟩⟩⟩⟩)
  (by kernel_rfl) Y K hK
noncomputable abbrev msk_sn_Qa (l m r : Int) (b0 b1 b2 b3 : Bool) (L : LL) (c : Nat) (ro : Bool) (G : LL) (c2 : Nat) (ro2 : Bool) (no : AObj) (O : LL) (k t : Nat) (S g : List Nat) (A1 : List (List Nat)) : Mem := memL 10 [(0, oM (mV L) c ro), (1, oM (mV G) c2 ro2), (2, oC [vi l, vi m, vi r] false), (3, oC (inP b0 b1 b2 b3) false), (4, no), (5, AObj.dead), (6, oM (mV O) k false), (7, oI (some 0) c (S ++ [t]) c), (8, oC [V.str g] false), (9, oC (stV A1) false)]
theorem msk_sn (Y : Ys Prop) (l m r s : Int) (b0 b1 b2 b3 : Bool) (L : LL) (c : Nat) (ro : Bool) (G : LL) (c2 : Nat) (ro2 : Bool) (no : AObj) (O : LL) (k t n : Nat) (S : List Nat) (g : List Nat) (n4 : n < 4) (hE : entryV (List.getLast? (S ++ [t])) (some (AObj.map (mV L) c ro)) c = some (.tuple [.int .i64 ((n : Nat) : Int), .str g])) (hv : nth (inP b0 b1 b2 b3) n = some (.bool false)) (a : Nat) (A A1 : List (List Nat)) (ha : a ≤ 9) (hg : growV 1 16 1 [.str g] 0 a a (stV A) = some (stV A1))  (T : Slots) (hT : allS T [(s1, .int .i64 s), (s5, .ptr 2 0), (s7, .ptr 3 0), (s14, .slice 5 0 a a 1), (s16, .map 6), (s41, .ptr 7 0)]) (K : Ex → Slots → Mem → Prop) (hK : ∀ T', allS T' [(s1, .int .i64 s), (s5, .ptr 2 0), (s7, .ptr 3 0), (s14, .slice 9 0 (a + 1) (a + 1) 1), (s16, .map 6), (s41, .ptr 7 0)] → K (.normal) T' (memL 10 [(0, .map (mV L) c ro), (1, .map (mV G) c2 ro2), (2, .cells [.int .i64 l, .int .i64 m, .int .i64 r] false), (3, .cells (inP b0 b1 b2 b3) false), (4, no), (5, .dead), (6, .map (mV O) k false), (7, .iter (some 0) c (S ++ [t]) c), (8, .cells [.str g] false), (9, .cells (stV A1) false)])) :
   code pA (callD pA tb0 la13 5) Y c13l0b T (memL 8 [(0, .map (mV L) c ro), (1, .map (mV G) c2 ro2), (2, .cells [.int .i64 l, .int .i64 m, .int .i64 r] false), (3, .cells (inP b0 b1 b2 b3) false), (4, no), (5, .cells (stV A) false), (6, .map (mV O) k false), (7, .iter (some 0) c (S ++ [t]) c)]) K :=
  code_of_vc (mono13) (.fix s1 (vi s) (.fix s5 (V.ptr 2 0) (.fix s7 (V.ptr 3 0) (.fix s14 (V.slice 5 0 a a 1) (.fix s16 (V.map 6) (.fix s41 (V.ptr 7 0) (.res (V.tuple [vi ↑n, V.str g]) (.wait 7 (.grow (Opd.t s47) (Opd.t s49) 1 16 5 (0) (a) (a) (stV A) (1) ([V.str g]) (stV A1) (.wait 2 (.res (V.ptr 3 n) (.res (vb false) .nil))))))))))))
  (show (Slots.get T s1 = vi s ∧ Slots.get T s5 = V.ptr 2 0 ∧ Slots.get T s7 = V.ptr 3 0 ∧ Slots.get T s14 = V.slice 5 0 a a 1 ∧ Slots.get T s16 = V.map 6 ∧ Slots.get T s41 = V.ptr 7 0 ∧ entryV (List.getLast? (S ++ [t])) (some (oM (mV L) c ro)) c = some (V.tuple [vi ↑n, V.str g]) ∧ rR (lApp 1 16 (Opd.t s47) (Opd.t s49)) ∧ rR (V.slice 5 0 a a 1) ∧ true = true ∧ some (1) = some (1) ∧ rR (some ([V.str g])) ∧ rR (some (oC (stV A) false)) ∧ growV 1 16 1 [V.str g] 0 a a (stV A) = some (stV A1) ∧ (iaddrAV (4) 1 (V.ptr 3 0) (vi ↑n) = some (V.ptr 3 n) ∧ nth (inP b0 b1 b2 b3) (n) = some (vb false) ∧ Ex.normal = Ex.normal ∧ rR (msk_sn_Qa l m r b0 b1 b2 b3 L c ro G c2 ro2 no O k t S g A1) ∧ (vi s = vi s ∧ (V.ptr 2 0 = V.ptr 2 0 ∧ (V.ptr 3 0 = V.ptr 3 0 ∧ (rR (V.slice 9 0 (a + 1) (a + 1) 1) ∧ (V.map 6 = V.map 6 ∧ (V.ptr 7 0 = V.ptr 7 0 ∧ True)))))))) from
  ⟨hT.1, hT.2.1, hT.2.2.1, hT.2.2.2.1, hT.2.2.2.2.1, hT.2.2.2.2.2.1, hE, rfl, rfl, rfl, rfl, rfl, rfl, hg, ⟨(iaddrA_ok1 (i := n) rfl (mso_ny_o0 n n4)), hv, rfl, rfl, ⟨rfl, ⟨rfl, ⟨rfl, ⟨rfl, ⟨rfl, ⟨rfl, trivial⟩⟩⟩⟩⟩⟩⟩⟩)
  (by kernel_rfl) Y K hK
end Go.Proofs.Ytjikaankdnmabaa
