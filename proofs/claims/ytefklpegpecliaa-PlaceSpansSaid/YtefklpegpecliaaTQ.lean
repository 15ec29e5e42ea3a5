/- What place.Rows comes to. No condition. -/
import Derived.Test.YtefklpegpecliaaTP
namespace Go.Proofs.Ytefklpegpecliaa
open Go Go.AM
set_option maxRecDepth 100000
set_option maxHeartbeats 0
set_option linter.unusedVariables false
theorem grow_iV {ls : List Int} {x : Int} {len : Nat} (h : ls.length = len) (hl : len ≤ 192) : growV 1 8 1 [.int .i64 x] 0 len len (iV ls) = some (iV (ls ++ [x])) := by
  have h1 : Nat.ble (len + 1) len = false := by
    cases e : Nat.ble (len + 1) len with
    | false => rfl
    | true => have := nble_iff.1 e; omega
  have h2 : small (len + 1) 8 = true := small_iff.2 (by omega)
  have h3 : ∀ (l : List V) (n : Nat), l.length = n → takeN n l = some l := by
    intro l
    induction l with
    | nil => intro n h; subst h; rfl
    | cons a l ih => intro n h; subst h; simp only [List.length_cons, takeN, ih _ rfl]
  unfold growV
  rw [h1, h2, Nat.mul_one]
  have h4 : takeN len (dropN 0 (iV ls)) = some (iV ls) := h3 (iV ls) _ (by simp [iV, h])
  rw [h4]
  simp only [iV, List.map_append, List.map_cons, List.map_nil]
  rfl
theorem rl_len (l m r : Int) (F : Nat) : ∀ i, (rl l m r F i).length = i
  | 0 => rfl
  | i + 1 => by simp [rl, rl_len l m r F i]
def LfD (l m r : Int) (F n Z j : Nat) (x0 y0 : Int) : List (Sl × V) := [(s0, V.agg [vi l, vi m, vi r]), (s1, vi ↑F), (s2, vi ↑n), (s3, V.ptr 0 0), (s4, V.undef), (s5, V.undef), (s6, V.nilslice), (s7, vi ↑Z), (s8, V.slice 1 0 (j + 2) (j + 2) 1), (s9, vi ↑(F + (j + 2))), (s10, vi x0), (s11, vi y0), (s12, vb true), (s13, V.agg [vi l, vi m, vi r]), (s14, vi ↑Z), (s15, vi ↑n), (s16, vb false), (s17, vb false), (s18, vi ↑F), (s19, vb false), (s20, vb false), (s21, vb false), (s22, vi ↑F), (s23, vi ↑Z), (s24, vb false), (s25, vb false), (s26, vb false), (s27, vi ↑n), (s28, vi ↑Z), (s29, vi ↑F), (s30, vi (↑Z - ↑F)), (s31, vb false), (s32, vb false), (s33, vi ↑F), (s34, vi ↑(F + (j + 1))), (s35, vi ↑F), (s36, vi ↑n), (s37, vi ↑(F + n)), (s38, vb true), (s39, vi ↑(F + (j + 1))), (s40, vi ↑(F + (j + 2))), (s41, V.tuple [vi x0, vi y0, vb true]), (s42, V.agg [vi l, vi m, vi r]), (s43, vi ↑(F + (j + 1))), (s44, V.tuple [vi x0, vi y0, vb true]), (s45, vi x0), (s46, vi y0), (s47, vb true), (s48, V.slice 3 0 (j + 1) (j + 1) 1), (s49, vi x0), (s50, V.slice 2 0 1 1 1), (s51, V.slice 1 0 (j + 2) (j + 2) 1), (s52, V.undef), (s53, V.undef), (s54, V.undef), (s55, V.undef)]
def LfE (l m r : Int) (F n Z j : Nat) (x0 y0 : Int) : List (Sl × V) := [(s0, V.agg [vi l, vi m, vi r]), (s1, vi ↑F), (s2, vi ↑n), (s3, V.ptr 0 0), (s4, V.undef), (s5, V.undef), (s6, V.nilslice), (s7, vi ↑Z), (s8, V.slice 1 0 (j + 2) (j + 2) 1), (s9, vi ↑(F + n)), (s10, vi x0), (s11, vi y0), (s12, vb true), (s13, V.agg [vi l, vi m, vi r]), (s14, vi ↑Z), (s15, vi ↑n), (s16, vb false), (s17, vb false), (s18, vi ↑F), (s19, vb false), (s20, vb false), (s21, vb false), (s22, vi ↑F), (s23, vi ↑Z), (s24, vb false), (s25, vb false), (s26, vb false), (s27, vi ↑n), (s28, vi ↑Z), (s29, vi ↑F), (s30, vi (↑Z - ↑F)), (s31, vb false), (s32, vb false), (s33, vi ↑F), (s34, vi ↑(F + n)), (s35, vi ↑F), (s36, vi ↑n), (s37, vi ↑(F + n)), (s38, vb false), (s39, vi ↑(F + (j + 1))), (s40, vi ↑(F + (j + 2))), (s41, V.tuple [vi x0, vi y0, vb true]), (s42, V.agg [vi l, vi m, vi r]), (s43, vi ↑(F + (j + 1))), (s44, V.tuple [vi x0, vi y0, vb true]), (s45, vi x0), (s46, vi y0), (s47, vb true), (s48, V.slice 3 0 (j + 1) (j + 1) 1), (s49, vi x0), (s50, V.slice 2 0 1 1 1), (s51, V.slice 1 0 (j + 2) (j + 2) 1), (s52, V.undef), (s53, V.undef), (s54, V.undef), (s55, V.undef)]
def MfD (l m r : Int) (x0 : Int) (ls : List Int) : List AObj := [AObj.cells [vi l, vi m, vi r] false, AObj.cells (iV ls) false, AObj.cells [vi x0] false, AObj.dead]
theorem MfD_bel (l m r : Int) (x0 : Int) (ls : List Int) : ∀ o ∈ MfD l m r x0 ls, o.bel (fun c => Nat.blt c (MfD l m r x0 ls).length) = true := by
  intro o ho
  simp only [MfD, List.mem_cons, List.not_mem_nil, or_false] at ho
  rcases ho with rfl | rfl | rfl | rfl
  · rfl
  · exact bels_iV _ _
  · rfl
  · rfl
section
variable {l m r : Int} {F n Z : Nat}
theorem fam_loop (hz : sz l m r = (Z : Int)) (hZ : Z ≤ 192) (hn : 1 ≤ n) (hF : F + n ≤ Z) (hat : ∀ i, i < n → ab l m r ((F + i : Nat) : Int) = true) (Y : Ys Prop) (K : Ex → Slots → Mem → Prop)
    (hK : ∀ j x0 y0 T, j + 2 = n → allS T (LfE l m r F n Z j x0 y0) → K (.exit 0) T (memO (MfD l m r x0 (rl l m r F (j + 2))))) :
    ∀ (k j fuel : Nat) (x0 y0 : Int) (T : Slots) (mm : Mem), j + 2 + k = n → k < fuel → (∃ σ, Sub 56 0 T mm (setL (LfD l m r F n Z j x0 y0)) (memO (MfD l m r x0 (rl l m r F (j + 2)))) σ) → iterG 56 0 (code pA (callD pA tb0 laR 5) Y c20l0) fuel T mm K
  | 0, j, fuel, x0, y0, T, mm, hj, hf, ⟨σ, hs⟩ => by
    obtain ⟨f, rfl⟩ : ∃ f, fuel = f + 1 := ⟨fuel - 1, by omega⟩
    exact iterG_step hs (rf Y l m r F n Z hz hZ hn hF j x0 y0 (rl l m r F (j + 2)) (by omega) _ (allS_setL (nt := 56) (by unfold coverB; kernel_rfl) (by decide)) _ fun T' hT' => hK j x0 y0 T' (by omega) hT')
  | k + 1, j, fuel, x0, y0, T, mm, hj, hf, ⟨σ, hs⟩ => by
    obtain ⟨f, rfl⟩ : ∃ f, fuel = f + 1 := ⟨fuel - 1, by omega⟩
    refine iterG_step hs (rs Y l m r F n Z hz hZ hn hF j x0 y0 (ar l m r ((F + (j + 2) : Nat) : Int)) (am l m r ((F + (j + 2) : Nat) : Int)) (rl l m r F (j + 2)) (rl l m r F (j + 1 + 2)) (by omega) (hat (j + 2) (by omega)) rfl rfl (grow_iV (rl_len _ _ _ _ _) (by omega)) _ (allS_setL (nt := 56) (by unfold coverB; kernel_rfl) (by decide)) _ fun T' hT' => ?_)
    refine fam_loop hz hZ hn hF hat Y K hK k (j + 1) f (ar l m r ((F + (j + 2) : Nat) : Int)) (am l m r ((F + (j + 2) : Nat) : Int)) _ _ (by omega) (by omega) ⟨nthD [0, 5, 4, 1], ?_⟩
    exact sub_of [0, 5, 4, 1] hT' (by unfold coverB; kernel_rfl) (by decide) rfl (by kernel_rfl) (by kernel_rfl) ⟨rfl, congrArg (fun c => some (AObj.cells c false)) (rens_iV _ _).symm, rfl, rfl, trivial⟩ (MfD_bel _ _ _ _ _)
theorem body20 : c20.body = .seq d1 (.seq d2 (.seq d3 (.seq d4 (.seq (.seq d5 (.block 0 (.loop c20l0))) d6)))) := by kernel_rfl
theorem mergeSort_ne {zs : List Int} (h : zs ≠ []) : (zs.mergeSort fun x y => decide (x ≤ y)) ≠ [] := by
  intro e
  have := List.length_mergeSort (le := fun x y => decide (x ≤ y)) zs
  rw [e] at this
  exact h (List.eq_nil_of_length_eq_zero this.symm)
theorem wf24 (zs ys : List Int) (k : Nat) : Con.wf ⟨[.slice 0 0 k k 1], [.cells (iV zs) false], .tuple [], [.cells (iV ys) false], []⟩ = true := by
  simp only [Con.wf, bels, V.bel, Con.p0, List.length_cons, List.length_nil, List.all_cons, List.all_nil, AObj.bel, bels_iV, AObj.live, Bool.and_true, nodupN, Bool.and_self]
  rfl
theorem wf25 (zs ys : List Int) (k c : Nat) : Con.wf ⟨[.slice 0 0 k k 1], [.cells (iV zs) false], .slice 0 0 c k 1, [.cells (iV ys) false], []⟩ = true := by
  simp only [Con.wf, bels, V.bel, Con.p0, Con.p1, List.length_cons, List.length_nil, List.all_cons, List.all_nil, AObj.bel, bels_iV, AObj.live, Bool.and_true, nodupN, Bool.and_self]
  rfl
/-- What Rows comes to. -/
noncomputable def rowsL (l m r : Int) (F n : Nat) : List Int := Go.Lib.compact ((rl l m r F n).mergeSort fun x y => decide (x ≤ y))
theorem compact_le {zs : List Int} : (Go.Lib.compact zs).length ≤ zs.length := by
  unfold Go.Lib.compact Go.Lib.compactUpTo
  rw [List.length_map]
  have := List.length_filter_le (Go.Lib.keeps zs.toArray) (List.range zs.length)
  rwa [List.length_range] at this
theorem rows_run (hz : sz l m r = (Z : Int)) (hZ : Z ≤ 192) (hn : 1 ≤ n) (hF : F + n ≤ Z) (hat : ∀ i, i < n → ab l m r ((F + i : Nat) : Int) = true) (Y : Ys Prop) :
    body1G (callD pA tb0 laR 5) Y c20 [geo l m r, .int .i64 ((F : Nat) : Int), .int .i64 ((n : Nat) : Int)] ⟨0, .leaf⟩ fun u mm => ∃ b c, u = .slice b 0 (rowsL l m r F n).length c 1 ∧ (rowsL l m r F n).length ≤ c ∧ mm.get b = some (.cells (iV (rowsL l m r F n ++ List.replicate (n - (rowsL l m r F n).length) 0)) false) := by
  have hlen := rl_len l m r F n
  have hne : rl l m r F n ≠ [] := fun e => by rw [e] at hlen; simp at hlen; omega
  have hsl : ((rl l m r F n).mergeSort fun x y => decide (x ≤ y)).length = n := by rw [List.length_mergeSort, hlen]
  have q24 := S24.mk (rl l m r F n) hne (by omega)
  have q25 := S25.mk _ (mergeSort_ne hne) (by omega)
  rw [hlen] at q24
  rw [hsl] at q25
  have hle : (rowsL l m r F n).length ≤ n := by unfold rowsL; have := compact_le (zs := (rl l m r F n).mergeSort fun x y => decide (x ≤ y)); omega
  unfold body1G
  rw [body20]
  show codeG (callD pA tb0 laR 5) Y 56 0 _ (setL [(s0, geo l m r), (s1, vi ((F : Nat) : Int)), (s2, vi ((n : Nat) : Int)), (s3, V.undef), (s4, V.undef), (s5, V.undef), (s6, V.undef), (s7, V.undef), (s8, V.undef), (s9, V.undef), (s10, V.undef), (s11, V.undef), (s12, V.undef), (s13, V.undef), (s14, V.undef), (s15, V.undef), (s16, V.undef), (s17, V.undef), (s18, V.undef), (s19, V.undef), (s20, V.undef), (s21, V.undef), (s22, V.undef), (s23, V.undef), (s24, V.undef), (s25, V.undef), (s26, V.undef), (s27, V.undef), (s28, V.undef), (s29, V.undef), (s30, V.undef), (s31, V.undef), (s32, V.undef), (s33, V.undef), (s34, V.undef), (s35, V.undef), (s36, V.undef), (s37, V.undef), (s38, V.undef), (s39, V.undef), (s40, V.undef), (s41, V.undef), (s42, V.undef), (s43, V.undef), (s44, V.undef), (s45, V.undef), (s46, V.undef), (s47, V.undef), (s48, V.undef), (s49, V.undef), (s50, V.undef), (s51, V.undef), (s52, V.undef), (s53, V.undef), (s54, V.undef), (s55, V.undef)]) (memO []) _
  refine .inr (codeG_of (r1 Y l m r F n Z hz hZ hn hF _ (allS_setL (nt := 56) (by unfold coverB; kernel_rfl) (by decide)) _ fun T1 t1 => ?_))
  refine .inr (codeG_of (r2 Y l m r F n Z hz hZ hn hF _ t1 _ fun T2 t2 => ?_))
  refine .inr (codeG_of (r3 Y l m r F n Z hz hZ hn hF _ t2 _ fun T3 t3 => ?_))
  refine .inr (codeG_of (r4 Y l m r F n Z hz hZ hn hF _ t3 _ fun T4 t4 => ?_))
  refine .inr (.inr (codeG_of (r5 Y l m r F n Z hz hZ hn hF _ t4 _ fun T5 t5 => ?_)))
  refine .inr (.inr ?_)
  obtain ⟨f, hf⟩ : ∃ f, rounds = f + 1 + 1 := ⟨rounds - 2, by unfold rounds; rfl⟩
  have hf2 : 200 < f := by unfold rounds at hf; omega
  rw [hf]
  have ha0 := hat 0 (by omega)
  rw [Nat.add_zero] at ha0
  have u5 : Sub 56 0 T5 (memO [AObj.cells [vi l, vi m, vi r] false]) (setL [(s0, V.agg [vi l, vi m, vi r]), (s1, vi ↑F), (s2, vi ↑n), (s3, V.ptr 0 0), (s4, V.undef), (s5, V.undef), (s6, V.nilslice), (s7, vi ↑Z), (s8, V.nilslice), (s9, vi ↑F), (s10, V.undef), (s11, V.undef), (s12, V.undef), (s13, V.agg [vi l, vi m, vi r]), (s14, vi ↑Z), (s15, vi ↑n), (s16, vb false), (s17, vb false), (s18, vi ↑F), (s19, vb false), (s20, vb false), (s21, vb false), (s22, vi ↑F), (s23, vi ↑Z), (s24, vb false), (s25, vb false), (s26, vb false), (s27, vi ↑n), (s28, vi ↑Z), (s29, vi ↑F), (s30, vi (↑Z - ↑F)), (s31, vb false), (s32, vb false), (s33, vi ↑F), (s34, V.undef), (s35, V.undef), (s36, V.undef), (s37, V.undef), (s38, V.undef), (s39, V.undef), (s40, V.undef), (s41, V.undef), (s42, V.undef), (s43, V.undef), (s44, V.undef), (s45, V.undef), (s46, V.undef), (s47, V.undef), (s48, V.undef), (s49, V.undef), (s50, V.undef), (s51, V.undef), (s52, V.undef), (s53, V.undef), (s54, V.undef), (s55, V.undef)]) (memO [AObj.cells [vi l, vi m, vi r] false]) (nthD [0]) := sub_of [0] t5 (by unfold coverB; kernel_rfl) (by decide) rfl (by kernel_rfl) (by kernel_rfl) ⟨rfl, trivial⟩ (by intro o ho; simp only [List.mem_cons, List.not_mem_nil, or_false] at ho; subst ho; rfl)
  have e5 : allS (setL [(s0, V.agg [vi l, vi m, vi r]), (s1, vi ↑F), (s2, vi ↑n), (s3, V.ptr 0 0), (s4, V.undef), (s5, V.undef), (s6, V.nilslice), (s7, vi ↑Z), (s8, V.nilslice), (s9, vi ↑F), (s10, V.undef), (s11, V.undef), (s12, V.undef), (s13, V.agg [vi l, vi m, vi r]), (s14, vi ↑Z), (s15, vi ↑n), (s16, vb false), (s17, vb false), (s18, vi ↑F), (s19, vb false), (s20, vb false), (s21, vb false), (s22, vi ↑F), (s23, vi ↑Z), (s24, vb false), (s25, vb false), (s26, vb false), (s27, vi ↑n), (s28, vi ↑Z), (s29, vi ↑F), (s30, vi (↑Z - ↑F)), (s31, vb false), (s32, vb false), (s33, vi ↑F), (s34, V.undef), (s35, V.undef), (s36, V.undef), (s37, V.undef), (s38, V.undef), (s39, V.undef), (s40, V.undef), (s41, V.undef), (s42, V.undef), (s43, V.undef), (s44, V.undef), (s45, V.undef), (s46, V.undef), (s47, V.undef), (s48, V.undef), (s49, V.undef), (s50, V.undef), (s51, V.undef), (s52, V.undef), (s53, V.undef), (s54, V.undef), (s55, V.undef)]) [(s0, V.agg [vi l, vi m, vi r]), (s1, vi ↑F), (s2, vi ↑n), (s3, V.ptr 0 0), (s4, V.undef), (s5, V.undef), (s6, V.nilslice), (s7, vi ↑Z), (s8, V.nilslice), (s9, vi ↑F), (s10, V.undef), (s11, V.undef), (s12, V.undef), (s13, V.agg [vi l, vi m, vi r]), (s14, vi ↑Z), (s15, vi ↑n), (s16, vb false), (s17, vb false), (s18, vi ↑F), (s19, vb false), (s20, vb false), (s21, vb false), (s22, vi ↑F), (s23, vi ↑Z), (s24, vb false), (s25, vb false), (s26, vb false), (s27, vi ↑n), (s28, vi ↑Z), (s29, vi ↑F), (s30, vi (↑Z - ↑F)), (s31, vb false), (s32, vb false), (s33, vi ↑F), (s34, V.undef), (s35, V.undef), (s36, V.undef), (s37, V.undef), (s38, V.undef), (s39, V.undef), (s40, V.undef), (s41, V.undef), (s42, V.undef), (s43, V.undef), (s44, V.undef), (s45, V.undef), (s46, V.undef), (s47, V.undef), (s48, V.undef), (s49, V.undef), (s50, V.undef), (s51, V.undef), (s52, V.undef), (s53, V.undef), (s54, V.undef), (s55, V.undef)] := allS_setL (nt := 56) (by unfold coverB; kernel_rfl) (by decide)
  refine iterG_step u5 ?_
  refine r6 Y l m r F n Z hz hZ hn hF (ar l m r F) (am l m r F) ha0 rfl rfl _ e5 _ fun T6 t6 => ?_
  show iterG 56 0 (code pA (callD pA tb0 laR 5) Y c20l0) (f + 1) _ _ _
  have u6 : Sub 56 0 T6 (memO [AObj.cells [vi l, vi m, vi r] false, AObj.cells [vi (ar l m r F)] false, AObj.cells [vi (ar l m r F)] false]) (setL [(s0, V.agg [vi l, vi m, vi r]), (s1, vi ↑F), (s2, vi ↑n), (s3, V.ptr 0 0), (s4, V.undef), (s5, V.undef), (s6, V.nilslice), (s7, vi ↑Z), (s8, V.slice 2 0 1 1 1), (s9, vi ↑(F + 1)), (s10, vi (ar l m r F)), (s11, vi (am l m r F)), (s12, vb true), (s13, V.agg [vi l, vi m, vi r]), (s14, vi ↑Z), (s15, vi ↑n), (s16, vb false), (s17, vb false), (s18, vi ↑F), (s19, vb false), (s20, vb false), (s21, vb false), (s22, vi ↑F), (s23, vi ↑Z), (s24, vb false), (s25, vb false), (s26, vb false), (s27, vi ↑n), (s28, vi ↑Z), (s29, vi ↑F), (s30, vi (↑Z - ↑F)), (s31, vb false), (s32, vb false), (s33, vi ↑F), (s34, vi ↑F), (s35, vi ↑F), (s36, vi ↑n), (s37, vi ↑(F + n)), (s38, vb true), (s39, vi ↑F), (s40, vi ↑(F + 1)), (s41, V.tuple [vi (ar l m r F), vi (am l m r F), vb true]), (s42, V.agg [vi l, vi m, vi r]), (s43, vi ↑F), (s44, V.tuple [vi (ar l m r F), vi (am l m r F), vb true]), (s45, vi (ar l m r F)), (s46, vi (am l m r F)), (s47, vb true), (s48, V.nilslice), (s49, vi (ar l m r F)), (s50, V.slice 1 0 1 1 1), (s51, V.slice 2 0 1 1 1), (s52, V.undef), (s53, V.undef), (s54, V.undef), (s55, V.undef)]) (memO [AObj.cells [vi l, vi m, vi r] false, AObj.cells [vi (ar l m r F)] false, AObj.cells [vi (ar l m r F)] false]) (nthD [0, 1, 2]) := sub_of [0, 1, 2] t6 (by unfold coverB; kernel_rfl) (by decide) rfl (by kernel_rfl) (by kernel_rfl) ⟨rfl, rfl, rfl, trivial⟩ (by
    intro o ho; simp only [List.mem_cons, List.not_mem_nil, or_false] at ho; rcases ho with rfl | rfl | rfl <;> rfl)
  have e6 : allS (setL [(s0, V.agg [vi l, vi m, vi r]), (s1, vi ↑F), (s2, vi ↑n), (s3, V.ptr 0 0), (s4, V.undef), (s5, V.undef), (s6, V.nilslice), (s7, vi ↑Z), (s8, V.slice 2 0 1 1 1), (s9, vi ↑(F + 1)), (s10, vi (ar l m r F)), (s11, vi (am l m r F)), (s12, vb true), (s13, V.agg [vi l, vi m, vi r]), (s14, vi ↑Z), (s15, vi ↑n), (s16, vb false), (s17, vb false), (s18, vi ↑F), (s19, vb false), (s20, vb false), (s21, vb false), (s22, vi ↑F), (s23, vi ↑Z), (s24, vb false), (s25, vb false), (s26, vb false), (s27, vi ↑n), (s28, vi ↑Z), (s29, vi ↑F), (s30, vi (↑Z - ↑F)), (s31, vb false), (s32, vb false), (s33, vi ↑F), (s34, vi ↑F), (s35, vi ↑F), (s36, vi ↑n), (s37, vi ↑(F + n)), (s38, vb true), (s39, vi ↑F), (s40, vi ↑(F + 1)), (s41, V.tuple [vi (ar l m r F), vi (am l m r F), vb true]), (s42, V.agg [vi l, vi m, vi r]), (s43, vi ↑F), (s44, V.tuple [vi (ar l m r F), vi (am l m r F), vb true]), (s45, vi (ar l m r F)), (s46, vi (am l m r F)), (s47, vb true), (s48, V.nilslice), (s49, vi (ar l m r F)), (s50, V.slice 1 0 1 1 1), (s51, V.slice 2 0 1 1 1), (s52, V.undef), (s53, V.undef), (s54, V.undef), (s55, V.undef)]) [(s0, V.agg [vi l, vi m, vi r]), (s1, vi ↑F), (s2, vi ↑n), (s3, V.ptr 0 0), (s4, V.undef), (s5, V.undef), (s6, V.nilslice), (s7, vi ↑Z), (s8, V.slice 2 0 1 1 1), (s9, vi ↑(F + 1)), (s10, vi (ar l m r F)), (s11, vi (am l m r F)), (s12, vb true), (s13, V.agg [vi l, vi m, vi r]), (s14, vi ↑Z), (s15, vi ↑n), (s16, vb false), (s17, vb false), (s18, vi ↑F), (s19, vb false), (s20, vb false), (s21, vb false), (s22, vi ↑F), (s23, vi ↑Z), (s24, vb false), (s25, vb false), (s26, vb false), (s27, vi ↑n), (s28, vi ↑Z), (s29, vi ↑F), (s30, vi (↑Z - ↑F)), (s31, vb false), (s32, vb false), (s33, vi ↑F), (s34, vi ↑F), (s35, vi ↑F), (s36, vi ↑n), (s37, vi ↑(F + n)), (s38, vb true), (s39, vi ↑F), (s40, vi ↑(F + 1)), (s41, V.tuple [vi (ar l m r F), vi (am l m r F), vb true]), (s42, V.agg [vi l, vi m, vi r]), (s43, vi ↑F), (s44, V.tuple [vi (ar l m r F), vi (am l m r F), vb true]), (s45, vi (ar l m r F)), (s46, vi (am l m r F)), (s47, vb true), (s48, V.nilslice), (s49, vi (ar l m r F)), (s50, V.slice 1 0 1 1 1), (s51, V.slice 2 0 1 1 1), (s52, V.undef), (s53, V.undef), (s54, V.undef), (s55, V.undef)] := allS_setL (nt := 56) (by unfold coverB; kernel_rfl) (by decide)
  by_cases h1 : n = 1
  · subst h1
    refine iterG_step u6 ?_
    refine rf1 Y l m r F 1 Z hz hZ hn hF (ar l m r F) (am l m r F) rfl _ e6 _ fun T7 t7 => ?_
    refine codeG_of (rz1 Y l m r F 1 Z hz hZ hn hF (rowsL l m r F 1).length (ar l m r F) (am l m r F) _ _ q24 (wf24 [ar l m r F] _ 1) q25 (wf25 _ _ 1 _) _ t7 _ fun T8 t8 => ?_)
    have e8 := t8.2.2.2.2.2.2.1
    refine ⟨2, 1, e8, hle, rfl⟩
  · have ha1 := hat 1 (by omega)
    refine iterG_step u6 ?_
    refine r7 Y l m r F n Z hz hZ hn hF (ar l m r F) (am l m r F) (ar l m r ((F + 1 : Nat) : Int)) (am l m r ((F + 1 : Nat) : Int)) (by omega) ha1 rfl rfl _ e6 _ fun T7 t7 => ?_
    refine fam_loop hz hZ hn hF hat Y _ ?_ (n - 2) 0 f (ar l m r ((F + 1 : Nat) : Int)) (am l m r ((F + 1 : Nat) : Int)) _ _ (by omega) (by omega) ⟨nthD [0, 4, 3, 2], sub_of [0, 4, 3, 2] t7 (by unfold coverB; kernel_rfl) (by decide) rfl (by kernel_rfl) (by kernel_rfl) ⟨rfl, ?_, rfl, rfl, trivial⟩ (MfD_bel _ _ _ _ _)⟩
    · intro j x0 y0 T9 hj t9
      subst hj
      refine codeG_of (rz Y l m r F (j + 2) Z hz hZ hn hF j (rowsL l m r F (j + 2)).length x0 y0 (rl l m r F (j + 2)) _ _ q24 (wf24 _ _ _) q25 (wf25 _ _ _ _) _ t9 _ fun T8 t8 => ?_)
      have e8 := t8.2.2.2.2.2.2.1
      exact ⟨1, j + 2, e8, hle, rfl⟩
    · exact congrArg (fun c => some (AObj.cells c false)) (rens_iV (nthD [0, 4, 3, 2]) (rl l m r F 2)).symm
end
open Go.Sort in
theorem s24_ok {P : Program} (hC : ∀ (blk off cap : Nat) (zs : List Int) (w : World), Go.Sort.Holds (Value.int .i64) w blk off zs.toArray → blk < w.heap.size → zs.length < 4611686018427387904 →
    Calls P 24 #[.slice (some ⟨blk, off, none⟩) zs.length cap] w fun e w' => e = .returned (.tuple #[]) ∧ ∃ n os, w' = grow (putRow (Value.int .i64) (Sort.ahead w n) blk off (zs.mergeSort fun x y => decide (x ≤ y)).toArray) os) :
    ∀ C, S24 C → C.wf = true → ConOk P 24 C := by
  intro C h _
  cases h with | mk zs h hl =>
  exact conRow h (by rw [List.length_mergeSort]) (ansv := fun _ _ _ => .tuple #[]) (fun _ _ _ _ _ _ _ _ => .tuple .nil) (fun blk off cap w hH hb _ => hC blk off cap zs w hH hb hl)
open Go.Sort in
theorem s25_ok {P : Program} (hC : ∀ (blk off cap : Nat) (zs : List Int) (w : World), Go.Sort.Holds (Value.int .i64) w blk off zs.toArray → zs.length ≤ 9223372036854775807 → zs.length ≤ cap →
    Calls P 25 #[.slice (some ⟨blk, off, none⟩) zs.length cap] w fun e w' => e = .returned (.slice (some ⟨blk, off, none⟩) (Go.Lib.compact zs).length cap) ∧ ∃ q, w' = putRow (Value.int .i64) (Sort.ahead w q) blk off (Go.Lib.compact zs ++ List.replicate (zs.length - (Go.Lib.compact zs).length) 0).toArray) :
    ∀ C, S25 C → C.wf = true → ConOk P 25 C := by
  intro C h _
  cases h with | mk zs h hl =>
  have hle := compact_le (zs := zs)
  refine conRow h (by rw [List.length_append, List.length_replicate]; omega) (ansv := fun b off cap => .slice (some ⟨b, off, none⟩) (Go.Lib.compact zs).length cap) (fun ρ i off cap h1 h2 h3 h4 => .slice h1 hle h2 h3 h4) (fun blk off cap w hH hb hc => (hC blk off cap zs w hH (by omega) hc).mono fun e w' ⟨he, q, hw⟩ => ⟨he, q, #[], ?_⟩)
  rw [hw]
  simp only [grow, Array.append_empty]

noncomputable def S20 : List V → Option Lay
  | [.agg [.int .i64 l, .int .i64 m, .int .i64 r], .int .i64 F, .int .i64 n] => if 1 ≤ n ∧ 0 ≤ F ∧ F + n ≤ sz l m r then some (.new (.slice (rowsL l m r F.toNat n.toNat).length 1) none (.cells (iV (rowsL l m r F.toNat n.toNat ++ List.replicate (n.toNat - (rowsL l m r F.toNat n.toNat).length) 0)) false)) else some (.plain .nilslice)
  | _ => none
noncomputable abbrev laS : CF Prop := lastW 14 (lastL 20 S20 (lastL 15 S15 (lastFn 11 R10 la4)))
theorem monoS : MonoCF laS := mono_w (mono_l (mono_l (mono_fn mono4)))

end Go.Proofs.Ytefklpegpecliaa
