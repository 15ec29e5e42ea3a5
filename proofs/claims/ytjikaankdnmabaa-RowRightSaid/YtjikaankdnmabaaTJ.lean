/- The law: tells by contract. No condition. -/
import Derived.Test.YtjikaankdnmabaaTW
namespace Go.Proofs.Ytjikaankdnmabaa
open Go Go.AM
set_option maxRecDepth 100000
set_option maxHeartbeats 4000000
set_option linter.unusedVariables false
set_option linter.unusedSectionVars false
abbrev rdX (m : Int) (b0 b1 b2 b3 : Bool) (x : Nat) : List Int := readL m.toNat [b0, b1, b2, b3] x
def TellOk (l m r s : Int) (b0 b1 b2 b3 : Bool) (F G : Int → List Nat) : Prop := ∀ x : Nat, ((x : Nat) : Int) < m → valF l m r s b0 b1 b2 b3 ((x : Nat) : Int) (byF F 0 (rdX m b0 b1 b2 b3 x)) = (G ((x : Nat) : Int), 0)
theorem readL_good {m : Int} (hm : m = 2 ∨ m = 3 ∨ m = 4) {b0 b1 b2 b3 : Bool} (ho : outsF m b0 b1 b2 b3 ≤ 1) {x : Nat} (hx : ((x : Nat) : Int) < m) :
    (1 ≤ (rdX m b0 b1 b2 b3 x).length ∧ (rdX m b0 b1 b2 b3 x).length ≤ 3) ∧ (rdX m b0 b1 b2 b3 x).Nodup ∧ ∀ y ∈ rdX m b0 b1 b2 b3 x, 0 ≤ y ∧ y < 4 ∧ inB4 b0 b1 b2 b3 y = true := by
  have hxx : x = 0 ∨ x = 1 ∨ x = 2 ∨ x = 3 := by omega
  rcases hm with rfl | rfl | rfl <;> rcases hxx with rfl | rfl | rfl | rfl <;> first | omega | (revert ho; cases b0 <;> cases b1 <;> cases b2 <;> cases b3 <;> decide)
theorem outs_le {l m r s : Int} {b0 b1 b2 b3 : Bool} (h : mayE l m r s b0 b1 b2 b3 = 0) : outsF m b0 b1 b2 b3 ≤ 1 := by
  have ho := ro_of_may h
  rw [mayE_eq, if_pos ho] at h
  by_cases h1 : 1 < outsF m b0 b1 b2 b3
  · rw [if_pos h1] at h; exact absurd h (by decide)
  · omega
inductive S25 : Con → Prop
  | a (l m r s : Int) (b0 b1 b2 b3 : Bool) (G : List (Int × List Nat × Nat)) (c2 : Nat) (ro2 : Bool) (hm : mayE l m r s b0 b1 b2 b3 = 0) (ht : TellOk l m r s b0 b1 b2 b3 (lookG G) (lookG G)) : S25 ⟨[geo l m r, .int .i64 s, ag b0 b1 b2 b3, .map 0, .map 0], [.map (mV G) c2 ro2], .bool true, [.map (mV G) c2 ro2], []⟩
  | b (l m r s : Int) (b0 b1 b2 b3 : Bool) (G : List (Int × List Nat × Nat)) (c2 : Nat) (ro2 : Bool) (W : List (Int × List Nat × Nat)) (c3 : Nat) (ro3 : Bool) (hm : mayE l m r s b0 b1 b2 b3 = 0) (ht : TellOk l m r s b0 b1 b2 b3 (lookG G) (lookG W)) : S25 ⟨[geo l m r, .int .i64 s, ag b0 b1 b2 b3, .map 0, .map 1], [.map (mV G) c2 ro2, .map (mV W) c3 ro3], .bool true, [.map (mV G) c2 ro2, .map (mV W) c3 ro3], []⟩
theorem wf26 (G : List (Int × List Nat × Nat)) (c2 : Nat) (ro2 : Bool) (j : Nat) (ys : List Int) (Z : List (Int × List Nat × Nat)) : Con.wf ⟨[.map 0, .slice 1 0 j j 1], [.map (mV G) c2 ro2, .cells (iV ys) false], .map 2, [.map (mV G) c2 ro2, .cells (iV ys) false], [(2, .map (mV Z) j false)]⟩ = true := by
  simp only [Con.wf, bels, V.bel, Con.p0, Con.p1, hasN, List.length_cons, List.length_nil, List.all_cons, List.all_nil, AObj.bel, bels_iV, ebels_mV, AObj.live, AObj.wr, Bool.and_true, nodupN, Bool.and_self]
  rfl
theorem wf21g (l m r s x : Int) (b0 b1 b2 b3 : Bool) (L : List (Int × List Nat × Nat)) (c : Nat) (ro : Bool) (X : List Nat) (e : Int) : Con.wf ⟨[geo l m r, .int .i64 s, ag b0 b1 b2 b3, .int .i64 x, .map 0], [.map (mV L) c ro], .tuple [.str X, .int .i64 e], [.map (mV L) c ro], []⟩ = true := by
  simp only [Con.wf, bels, V.bel, Con.p0, List.length_cons, List.length_nil, List.all_cons, List.all_nil, AObj.bel, ebels_mV, AObj.live, Bool.and_true, nodupN, Bool.and_self]
  rfl
theorem belD_mV (L : List (Int × List Nat × Nat)) (c : Nat) (ro : Bool) (N : Nat) : (AObj.map (mV L) c ro).belD N = true := ebels_mV _ _
section
variable {P : Program}
variable (hmix : P.follows .mixedOrders = true)
include hmix
theorem s25_ok (l25 : LastOk P la25 id) (o25 : FOk P 25 c25) : ∀ C, S25 C → C.wf = true → ConOk P 25 C := by
  intro C h _
  have hcf := callD_sound (A := pA) pHolds hmix tb0_ok l25 5
  cases h with
  | a l m r s b0 b1 b2 b3 G c2 ro2 hm ht =>
    obtain ⟨hmm, _⟩ := may_mp hm
    have ho := outs_le hm
    have H : LoopOkD (callD pA tb0 la25 5) 1 c25l1 (.exit 0) (memL 3 [(0, .map (mV G) c2 ro2), (1, .cells [.int .i64 l, .int .i64 m, .int .i64 r] false), (2, .cells (inP b0 b1 b2 b3) false)]) [(s1, .int .i64 s), (s3, .map 0), (s4, .map 0), (s5, .ptr 1 0), (s7, .ptr 2 0), (s10, .bool false), (s11, .int .i64 ((0 : Nat) : Int))] (fun _ => True) (fun _ => memL 3 [(0, .map (mV G) c2 ro2), (1, .cells [.int .i64 l, .int .i64 m, .int .i64 r] false), (2, .cells (inP b0 b1 b2 b3) false)]) (fun _ => [(s1, .int .i64 s), (s3, .map 0), (s4, .map 0), (s5, .ptr 1 0), (s7, .ptr 2 0), (s10, .bool false), (s11, .int .i64 ((m.toNat : Nat) : Int))]) := by
      refine loopD (B := 1) (N := 3) (by decide) m.toNat (Nat.lt_of_lt_of_le (rounds_big (by omega)) (Nat.sub_le _ _)) _ (fun _ => memL 3 [(0, .map (mV G) c2 ro2), (1, .cells [.int .i64 l, .int .i64 m, .int .i64 r] false), (2, .cells (inP b0 b1 b2 b3) false)]) (fun i => memL 5 [(0, .map (mV G) c2 ro2), (1, .cells [.int .i64 l, .int .i64 m, .int .i64 r] false), (2, .cells (inP b0 b1 b2 b3) false), (3, .cells (iV (rdX m b0 b1 b2 b3 i)) false), (4, .map (mV (byF (lookG G) 0 (rdX m b0 b1 b2 b3 i))) (rdX m b0 b1 b2 b3 i).length false)]) (fun i => [(s1, .int .i64 s), (s3, .map 0), (s4, .map 0), (s5, .ptr 1 0), (s7, .ptr 2 0), (s10, .bool false), (s11, .int .i64 ((i : Nat) : Int))]) _ _ ?_ (fun i _ => ?_) (fun _ => rfl) ?_ ?_
      · exact dropM_of (N := 3) (Nat.le_of_ble_eq_true rfl) ⟨⟨rfl, belD_mV _ _ _ _⟩, ⟨rfl, rfl⟩, ⟨rfl, rfl⟩, trivial⟩
      · exact dropM_of (N := 3) (Nat.le_of_ble_eq_true rfl) ⟨⟨rfl, belD_mV _ _ _ _⟩, ⟨rfl, rfl⟩, ⟨rfl, rfl⟩, trivial⟩
      · intro Y i T hi hT K hK
        have hi2 : ((i : Nat) : Int) < m := by omega
        obtain ⟨⟨j1, j3⟩, hn, hy⟩ := readL_good hmm ho hi2
        have h19 : S19s [geo l m r, .int .i64 s, ag b0 b1 b2 b3, .int .i64 ((i : Nat) : Int)] = some (Lay.new (Hd.slice (rdX m b0 b1 b2 b3 i).length 1) (some [.int .i64 0]) (AObj.cells (iV (rdX m b0 b1 b2 b3 i)) false)) := by
          rw [S19s_eq]
          exact congrArg some (readsL_in hm (by omega) hi2)
        have hl : LoopOk2 (callD pA tb0 la25 5) c25l0 (.exit 2) (memL 4 [(0, .map (mV G) c2 ro2), (1, .cells [.int .i64 l, .int .i64 m, .int .i64 r] false), (2, .cells (inP b0 b1 b2 b3) false), (3, .cells (iV (rdX m b0 b1 b2 b3 i)) false)]) [(s1, .int .i64 s), (s3, .map 0), (s4, .map 0), (s5, .ptr 1 0), (s7, .ptr 2 0), (s10, .bool false), (s11, .int .i64 ((i : Nat) : Int)), (s12, .slice 3 0 (rdX m b0 b1 b2 b3 i).length (rdX m b0 b1 b2 b3 i).length 1), (s14, .int .i64 ((0 : Nat) : Int))] (memL 4 [(0, .map (mV G) c2 ro2), (1, .cells [.int .i64 l, .int .i64 m, .int .i64 r] false), (2, .cells (inP b0 b1 b2 b3) false), (3, .cells (iV (rdX m b0 b1 b2 b3 i)) false)]) [(s1, .int .i64 s), (s3, .map 0), (s4, .map 0), (s5, .ptr 1 0), (s7, .ptr 2 0), (s10, .bool false), (s11, .int .i64 ((i : Nat) : Int)), (s12, .slice 3 0 (rdX m b0 b1 b2 b3 i).length (rdX m b0 b1 b2 b3 i).length 1), (s14, .int .i64 (((rdX m b0 b1 b2 b3 i).length : Nat) : Int))] := loop2 (rdX m b0 b1 b2 b3 i).length (Nat.lt_of_lt_of_le (rounds_big (by omega)) (Nat.sub_le _ _)) (fun _ => memL 4 [(0, .map (mV G) c2 ro2), (1, .cells [.int .i64 l, .int .i64 m, .int .i64 r] false), (2, .cells (inP b0 b1 b2 b3) false), (3, .cells (iV (rdX m b0 b1 b2 b3 i)) false)]) (fun k => [(s1, .int .i64 s), (s3, .map 0), (s4, .map 0), (s5, .ptr 1 0), (s7, .ptr 2 0), (s10, .bool false), (s11, .int .i64 ((i : Nat) : Int)), (s12, .slice 3 0 (rdX m b0 b1 b2 b3 i).length (rdX m b0 b1 b2 b3 i).length 1), (s14, .int .i64 ((k : Nat) : Int))]) (fun Y k T hk hT K hK => by
            obtain ⟨d, hd⟩ : ∃ d, (rdX m b0 b1 b2 b3 i)[k]? = some d := ⟨_, List.getElem?_eq_getElem (by omega)⟩
            obtain ⟨d0, d4, dn⟩ := hy d (List.mem_iff_getElem?.2 ⟨_, hd⟩)
            obtain ⟨x, rfl⟩ := Int.eq_ofNat_of_zero_le d0
            have x4 : x < 4 := by omega
            have hv := inP_nth b0 b1 b2 b3 x x4
            rw [dn] at hv
            exact tia Y l m r s b0 b1 b2 b3 G c2 ro2 i (rdX m b0 b1 b2 b3 i).length (by omega) (rdX m b0 b1 b2 b3 i) k x hk (nth_iV hd) x4 hv T hT K hK) (fun Y T hT K hK => tia_f Y l m r s b0 b1 b2 b3 G c2 ro2 i (rdX m b0 b1 b2 b3 i).length (by omega) (rdX m b0 b1 b2 b3 i) T hT K hK)
        have hz := ht i hi2
        have h21 := S21.mk l m r s b0 b1 b2 b3 ((i : Nat) : Int) (byF (lookG G) 0 (rdX m b0 b1 b2 b3 i)) (rdX m b0 b1 b2 b3 i).length false
        rw [hz] at h21
        exact tla Y l m r s b0 b1 b2 b3 G c2 ro2 i (rdX m b0 b1 b2 b3 i).length (by omega) (rdX m b0 b1 b2 b3 i) hi2 (by omega) h19 hl (byF (lookG G) 0 (rdX m b0 b1 b2 b3 i)) (lookG G ((i : Nat) : Int)) (S26.mk G c2 ro2 (rdX m b0 b1 b2 b3 i) _ rfl j1 (by omega) hn) (wf26 _ _ _ _ _ _) h21 (wf21g _ _ _ _ _ _ _ _ _ _ _ _ _ _) (look_G G _) (beqL_self _) T hT K hK
      · intro Y T hT K hK
        exact tla_f Y l m r s b0 b1 b2 b3 G c2 ro2 m.toNat (by omega) T hT K hK
    exact conOk_walkD hmix o25 hcf (tea Ys.none l m r s b0 b1 b2 b3 G c2 ro2 m.toNat H)
  | b l m r s b0 b1 b2 b3 G c2 ro2 W c3 ro3 hm ht =>
    obtain ⟨hmm, _⟩ := may_mp hm
    have ho := outs_le hm
    have H : LoopOkD (callD pA tb0 la25 5) 2 c25l1 (.exit 0) (memL 4 [(0, .map (mV G) c2 ro2), (1, .map (mV W) c3 ro3), (2, .cells [.int .i64 l, .int .i64 m, .int .i64 r] false), (3, .cells (inP b0 b1 b2 b3) false)]) [(s1, .int .i64 s), (s3, .map 0), (s4, .map 1), (s5, .ptr 2 0), (s7, .ptr 3 0), (s10, .bool false), (s11, .int .i64 ((0 : Nat) : Int))] (fun _ => True) (fun _ => memL 4 [(0, .map (mV G) c2 ro2), (1, .map (mV W) c3 ro3), (2, .cells [.int .i64 l, .int .i64 m, .int .i64 r] false), (3, .cells (inP b0 b1 b2 b3) false)]) (fun _ => [(s1, .int .i64 s), (s3, .map 0), (s4, .map 1), (s5, .ptr 2 0), (s7, .ptr 3 0), (s10, .bool false), (s11, .int .i64 ((m.toNat : Nat) : Int))]) := by
      refine loopD (B := 2) (N := 4) (by decide) m.toNat (Nat.lt_of_lt_of_le (rounds_big (by omega)) (Nat.sub_le _ _)) _ (fun _ => memL 4 [(0, .map (mV G) c2 ro2), (1, .map (mV W) c3 ro3), (2, .cells [.int .i64 l, .int .i64 m, .int .i64 r] false), (3, .cells (inP b0 b1 b2 b3) false)]) (fun i => memL 6 [(0, .map (mV G) c2 ro2), (1, .map (mV W) c3 ro3), (2, .cells [.int .i64 l, .int .i64 m, .int .i64 r] false), (3, .cells (inP b0 b1 b2 b3) false), (4, .cells (iV (rdX m b0 b1 b2 b3 i)) false), (5, .map (mV (byF (lookG G) 0 (rdX m b0 b1 b2 b3 i))) (rdX m b0 b1 b2 b3 i).length false)]) (fun i => [(s1, .int .i64 s), (s3, .map 0), (s4, .map 1), (s5, .ptr 2 0), (s7, .ptr 3 0), (s10, .bool false), (s11, .int .i64 ((i : Nat) : Int))]) _ _ ?_ (fun i _ => ?_) (fun _ => rfl) ?_ ?_
      · exact dropM_of (N := 4) (Nat.le_of_ble_eq_true rfl) ⟨⟨rfl, belD_mV _ _ _ _⟩, ⟨rfl, belD_mV _ _ _ _⟩, ⟨rfl, rfl⟩, ⟨rfl, rfl⟩, trivial⟩
      · exact dropM_of (N := 4) (Nat.le_of_ble_eq_true rfl) ⟨⟨rfl, belD_mV _ _ _ _⟩, ⟨rfl, belD_mV _ _ _ _⟩, ⟨rfl, rfl⟩, ⟨rfl, rfl⟩, trivial⟩
      · intro Y i T hi hT K hK
        have hi2 : ((i : Nat) : Int) < m := by omega
        obtain ⟨⟨j1, j3⟩, hn, hy⟩ := readL_good hmm ho hi2
        have h19 : S19s [geo l m r, .int .i64 s, ag b0 b1 b2 b3, .int .i64 ((i : Nat) : Int)] = some (Lay.new (Hd.slice (rdX m b0 b1 b2 b3 i).length 1) (some [.int .i64 0]) (AObj.cells (iV (rdX m b0 b1 b2 b3 i)) false)) := by
          rw [S19s_eq]
          exact congrArg some (readsL_in hm (by omega) hi2)
        have hl : LoopOk2 (callD pA tb0 la25 5) c25l0 (.exit 2) (memL 5 [(0, .map (mV G) c2 ro2), (1, .map (mV W) c3 ro3), (2, .cells [.int .i64 l, .int .i64 m, .int .i64 r] false), (3, .cells (inP b0 b1 b2 b3) false), (4, .cells (iV (rdX m b0 b1 b2 b3 i)) false)]) [(s1, .int .i64 s), (s3, .map 0), (s4, .map 1), (s5, .ptr 2 0), (s7, .ptr 3 0), (s10, .bool false), (s11, .int .i64 ((i : Nat) : Int)), (s12, .slice 4 0 (rdX m b0 b1 b2 b3 i).length (rdX m b0 b1 b2 b3 i).length 1), (s14, .int .i64 ((0 : Nat) : Int))] (memL 5 [(0, .map (mV G) c2 ro2), (1, .map (mV W) c3 ro3), (2, .cells [.int .i64 l, .int .i64 m, .int .i64 r] false), (3, .cells (inP b0 b1 b2 b3) false), (4, .cells (iV (rdX m b0 b1 b2 b3 i)) false)]) [(s1, .int .i64 s), (s3, .map 0), (s4, .map 1), (s5, .ptr 2 0), (s7, .ptr 3 0), (s10, .bool false), (s11, .int .i64 ((i : Nat) : Int)), (s12, .slice 4 0 (rdX m b0 b1 b2 b3 i).length (rdX m b0 b1 b2 b3 i).length 1), (s14, .int .i64 (((rdX m b0 b1 b2 b3 i).length : Nat) : Int))] := loop2 (rdX m b0 b1 b2 b3 i).length (Nat.lt_of_lt_of_le (rounds_big (by omega)) (Nat.sub_le _ _)) (fun _ => memL 5 [(0, .map (mV G) c2 ro2), (1, .map (mV W) c3 ro3), (2, .cells [.int .i64 l, .int .i64 m, .int .i64 r] false), (3, .cells (inP b0 b1 b2 b3) false), (4, .cells (iV (rdX m b0 b1 b2 b3 i)) false)]) (fun k => [(s1, .int .i64 s), (s3, .map 0), (s4, .map 1), (s5, .ptr 2 0), (s7, .ptr 3 0), (s10, .bool false), (s11, .int .i64 ((i : Nat) : Int)), (s12, .slice 4 0 (rdX m b0 b1 b2 b3 i).length (rdX m b0 b1 b2 b3 i).length 1), (s14, .int .i64 ((k : Nat) : Int))]) (fun Y k T hk hT K hK => by
            obtain ⟨d, hd⟩ : ∃ d, (rdX m b0 b1 b2 b3 i)[k]? = some d := ⟨_, List.getElem?_eq_getElem (by omega)⟩
            obtain ⟨d0, d4, dn⟩ := hy d (List.mem_iff_getElem?.2 ⟨_, hd⟩)
            obtain ⟨x, rfl⟩ := Int.eq_ofNat_of_zero_le d0
            have x4 : x < 4 := by omega
            have hv := inP_nth b0 b1 b2 b3 x x4
            rw [dn] at hv
            exact tib Y l m r s b0 b1 b2 b3 G c2 ro2 W c3 ro3 i (rdX m b0 b1 b2 b3 i).length (by omega) (rdX m b0 b1 b2 b3 i) k x hk (nth_iV hd) x4 hv T hT K hK) (fun Y T hT K hK => tib_f Y l m r s b0 b1 b2 b3 G c2 ro2 W c3 ro3 i (rdX m b0 b1 b2 b3 i).length (by omega) (rdX m b0 b1 b2 b3 i) T hT K hK)
        have hz := ht i hi2
        have h21 := S21.mk l m r s b0 b1 b2 b3 ((i : Nat) : Int) (byF (lookG G) 0 (rdX m b0 b1 b2 b3 i)) (rdX m b0 b1 b2 b3 i).length false
        rw [hz] at h21
        exact tlb Y l m r s b0 b1 b2 b3 G c2 ro2 W c3 ro3 i (rdX m b0 b1 b2 b3 i).length (by omega) (rdX m b0 b1 b2 b3 i) hi2 (by omega) h19 hl (byF (lookG G) 0 (rdX m b0 b1 b2 b3 i)) (lookG W ((i : Nat) : Int)) (S26.mk G c2 ro2 (rdX m b0 b1 b2 b3 i) _ rfl j1 (by omega) hn) (wf26 _ _ _ _ _ _) h21 (wf21g _ _ _ _ _ _ _ _ _ _ _ _ _ _) (look_G W _) (beqL_self _) T hT K hK
      · intro Y T hT K hK
        exact tlb_f Y l m r s b0 b1 b2 b3 G c2 ro2 W c3 ro3 m.toNat (by omega) T hT K hK
    exact conOk_walkD hmix o25 hcf (teb Ys.none l m r s b0 b1 b2 b3 G c2 ro2 W c3 ro3 m.toNat H)
end
end Go.Proofs.Ytjikaankdnmabaa
