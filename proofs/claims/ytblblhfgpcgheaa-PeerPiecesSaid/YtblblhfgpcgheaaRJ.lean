/- Clients till they are ready; how much acts are. No condition. -/
import Derived.Test.YtblblhfgpcgheaaJW
import Derived.Test.YtblblhfgpcgheaaAM34
namespace Go.Proofs.Ytblblhfgpcgheaa
open Go Go.AM
set_option maxRecDepth 100000
set_option maxHeartbeats 4000000
set_option linter.unusedVariables false
set_option linter.unusedSectionVars false
def oldB (m : Mem) : Nat → List AObj → Bool
 | _, [] => true
 | i, o :: l => (match m.get i with | some u => u.eqB o | none => false) && oldB m (i + 1) l
def newB (m : Mem) : List (Nat × AObj) → Bool
 | [] => true
 | (x, o) :: l => (match m.get x with | some u => u.eqB o | none => false) && newB m l
def testC (C : Con) (u : V) (m : Mem) : Bool := u.eqB1 C.ans && oldB m 0 C.old && newB m C.new
theorem get_eqB {m : Mem} {i : Nat} {o : AObj} (h : (match m.get i with | some u => u.eqB o | none => false) = true) : m.get i = some o := by
 split at h
 ·rename_i u hu; rw [hu, AObj.eqB_eq h]
 ·cases h
theorem oldB_ok {m : Mem} : ∀ {l : List AObj} {i : Nat}, oldB m i l = true → oldOk m i l
 | [], _, _ => trivial
 | o :: l, i, h => by
  simp only [oldB, Bool.and_eq_true] at h
  exact ⟨get_eqB h.1, oldB_ok h.2⟩
theorem newB_ok {m : Mem} : ∀ {l : List (Nat × AObj)}, newB m l = true → newOk m l
 | [], _ => trivial
 | (x, o) :: l, h => by
  simp only [newB, Bool.and_eq_true] at h
  exact ⟨get_eqB h.1, newB_ok h.2⟩
theorem testC_ok {C : Con} {u : V} {m : Mem} (h : testC C u m = true) : endC C u m := by
 unfold testC at h
 simp only [Bool.and_eq_true] at h
 exact ⟨V.eqB1_eq h.1.1, oldB_ok h.1.2, newB_ok h.2⟩
def runB (af : AFunc) (C : Con) : Bool := body1 boolAns (callD boolAns ft.get lastF 60) Ys.none af C.args (memO C.pre) (testC C)
theorem runB_ok {P : Program} (hmix : P.follows .mixedOrders = true) (hft : TabOk P ft.get) {n : Nat} {af : AFunc} (o : FOk P n af) {C : Con} (h : runB af C = true) : ConOk P n C :=
 conOk_of (A := boolAns) (H := fun b => b = true) boolHolds hmix o (callD_sound boolHolds hmix hft lastF_ok 60) (K := testC C) (fun _ _ h => testC_ok h) h
def byL : List Nat := greB ++ opB 8 1 [] ++ opB 7 1 []
def outS (st : Bool) : List Nat := [0, 0, 0, 3] ++ (bif st then [73, 72, 65, 86, 69, 79, 80, 84, 0, 0, 0, 8, 0, 0, 0, 0] else []) ++ [73, 72, 65, 86, 69, 79, 80, 84, 0, 0, 0, 7, 0, 0, 0, 7, 0, 0, 0, 1, 97, 0, 0]
def inS (i : Nat) : List Nat := bif Nat.blt i 18 then byL.take i else bif Nat.blt i 38 then (byL.take i).drop 18 else bif Nat.blt i 58 then (byL.take i).drop 38 else []
def preM (b : Nat) (st : Bool) (i : Nat) : AObj := .cells [.str [97], .bool st, .bool (Nat.ble 38 i), .bool (Nat.ble 18 i), .bool (Nat.ble 58 i), .bool false, .bool false, .int .u64 0, .str (inS i), .str (bif Nat.ble 18 i then outS st else []), .map b, .int .u64 0, .nilslice] false
abbrev preS (st : Bool) (i : Nat) : AObj := preM 1 st i
abbrev mp0 : AObj := .map [] 0 false
abbrev kNew (st : Bool) : Con := ⟨[.str [97], .bool st], [], .ptr 1 0, [], [(1, preM 0 st 0), (0, mp0)]⟩
abbrev kByte (st : Bool) (i : Nat) : Con := ⟨[.ptr 0 0, .str [byL.getD i 0]], [preS st i, mp0], .tuple [], [preS st (i + 1), mp0], []⟩
abbrev kAll (st : Bool) : Con := ⟨[.ptr 0 0, .str byL], [preS st 0, mp0], .tuple [], [preS st 58, mp0], []⟩
theorem newRun : (runB c7 (kNew true) && runB c7 (kNew false)) = true := by kernel_rfl
theorem allRun : (runB c8 (kAll true) && runB c8 (kAll false)) = true := by kernel_rfl
theorem byteRun : (List.range 58).all (fun i => runB c8 (kByte true i) && runB c8 (kByte false i)) = true := by kernel_rfl
section
variable {P : Program} (hmix : P.follows .mixedOrders = true) (hft : TabOk P ft.get)
include hmix hft
theorem new_ok (o : FOk P 7 c7) (st : Bool) : ConOk P 7 (kNew st) := by
 have h := newRun
 simp only [Bool.and_eq_true] at h
 cases st
 ·exact runB_ok hmix hft o h.2
 ·exact runB_ok hmix hft o h.1
theorem all_ok (o : FOk P 8 c8) (st : Bool) : ConOk P 8 (kAll st) := by
 have h := allRun
 simp only [Bool.and_eq_true] at h
 cases st
 ·exact runB_ok hmix hft o h.2
 ·exact runB_ok hmix hft o h.1
theorem byte_ok (o : FOk P 8 c8) (st : Bool) {i : Nat} (hi : i < 58) : ConOk P 8 (kByte st i) := by
 have h := List.all_eq_true.1 byteRun i (List.mem_range.2 hi)
 simp only [Bool.and_eq_true] at h
 cases st
 ·exact runB_ok hmix hft o h.2
 ·exact runB_ok hmix hft o h.1
end
abbrev LAw (P : Program) : CF Prop := lastW 4 (lastG 5 (ConOk P 5) (lastFn 6 sdR (lastG 7 (ConOk P 7) (lastG 8 (ConOk P 8) (lastFn 9 grR (lastFn 10 opR (lastG 11 (ConOk P 11) (lastG 12 (ConOk P 12) (lastG 13 (ConOk P 13) (lastG 14 (ConOk P 14) (lastG 15 (ConOk P 15) (lastG 16 (ConOk P 16) la0))))))))))))
theorem monoL (P : Program) : MonoCF (LAw P) := mono_w (mono_G (mono_fn (mono_G (mono_G (mono_fn (mono_fn (mono_G (mono_G (mono_G (mono_G (mono_G (mono_G mono_false))))))))))))
theorem cal_W {n : Nat} {last : CF Prop} {m : Mem} : CalOk (lastW n last) (.func (.func n) [] []) [] m (.bool true) m := fun K hK => w_lastW hK
theorem cal_missW {n g : Nat} {last : CF Prop} {args : List V} {m m1 : Mem} {v : V} (hg : Nat.beq g n = false) (h : CalOk last (.func (.func g) [] []) args m v m1) : CalOk (lastW n last) (.func (.func g) [] []) args m v m1 := by
 intro K hK
 cases args with
 | nil =>
  unfold lastW
  simp only [hg, cond_false]
  exact h K hK
 | cons a l => exact h K hK
theorem cal_Fn {n : Nat} {S : List V → Option V} {last : CF Prop} {args : List V} {m : Mem} {v : V} (hv : S args = some v) : CalOk (lastFn n S last) (.func (.func n) [] []) args m v m := by
 intro K hK
 unfold lastFn
 simp only [Nat.beq_refl, cond_true, hv]
 exact hK
inductive SlP (b : Nat) (acs : List Act) : V → AObj → Prop
 | nil (h : acs = []) : SlP b acs .nilslice .dead
 | zero (k : Nat) (h : acs = []) : SlP b acs (.slice b 0 0 k 10) .dead
 | some (h : acs ≠ []) : SlP b acs (.slice b 0 acs.length acs.length 10) (.cells (acs.flatMap actV) true)
theorem flat_nth {acs : List Act} {i : Nat} (hi : i < acs.length) (j : Nat) (hj : j < 10) : nth (acs.flatMap actV) (i * 10 + j) = nth (actV acs[i]) j := by
 induction acs generalizing i with
 | nil => cases hi
 | cons a acs ih =>
  cases i with
  | zero =>
   rw [Nat.zero_mul, Nat.zero_add]
   show nth (actV a ++ acs.flatMap actV) j = nth (actV a) j
   rw [nth_eq, nth_eq, List.getElem?_append_left (by exact hj)]
  | succ i =>
   have hi' : i < acs.length := by simpa using hi
   show nth (actV a ++ acs.flatMap actV) _ = nth (actV (acs[i]'hi')) j
   rw [nth_eq, List.getElem?_append_right (by show 10 ≤ _; omega), ← nth_eq]
   rw [show (i + 1) * 10 + j - (actV a).length = i * 10 + j by show (i + 1) * 10 + j - 10 = _; omega]
   exact ih hi'
theorem dropN_eq' (n : Nat) (l : List V) : dropN n l = l.drop n := by
 induction n generalizing l with
 | zero => cases l <;> rfl
 | succ n ih => cases l with
  | nil => rfl
  | cons v l => exact ih l
theorem takeN_app (l t : List V) : takeN l.length (l ++ t) = some l := by
 induction l with
 | nil => cases t <;> rfl
 | cons v l ih => simp only [List.length_cons, List.cons_append, takeN, ih]
theorem flat_load {acs : List Act} {i : Nat} (hi : i < acs.length) : loadV 10 (i * 10) (acs.flatMap actV) = some (.agg (actV acs[i])) := by
 unfold loadV
 rw [dropN_eq']
 have h : (acs.flatMap actV).drop (i * 10) = actV acs[i] ++ (acs.drop (i + 1)).flatMap actV := by
  induction acs generalizing i with
  | nil => cases hi
  | cons a acs ih =>
   cases i with
   | zero => rfl
   | succ i =>
    show (actV a ++ acs.flatMap actV).drop _ = _
    rw [List.drop_append, List.drop_eq_nil_of_le (by show 10 ≤ _; omega), List.nil_append, show (i + 1) * 10 - (actV a).length = i * 10 by show (i + 1) * 10 - 10 = _; omega]
    exact ih (by simpa using hi)
 rw [h, show takeN 10 (actV acs[i] ++ (acs.drop (i + 1)).flatMap actV) = some (actV acs[i]) from takeN_app (actV acs[i]) _]
theorem rens_flat (σ : Nat → Nat) : ∀ acs : List Act, rens σ (acs.flatMap actV) = acs.flatMap actV
 | [] => rfl
 | a :: acs => congrArg (fun l => actV a ++ l) (rens_flat σ acs)
theorem bels_flat (p : Nat → Bool) : ∀ acs : List Act, bels p (acs.flatMap actV) = true
 | [] => rfl
 | a :: acs => by
  show bels p (actV a ++ acs.flatMap actV) = true
  exact bels_flat p acs
def gsum (acs : List Act) (i : Nat) : Nat := ((acs.take i).map fun a => min a.tx.length 30001).foldl (· + ·) 0
def grB (acs : List Act) : Bool := decide (100 < acs.length) || decide (30000 < gsum acs (min acs.length 101))
theorem gsum_succ {acs : List Act} {i : Nat} (hi : i < acs.length) : gsum acs (i + 1) = gsum acs i + min acs[i].tx.length 30001 := by
 unfold gsum
 rw [List.take_add_one, List.getElem?_eq_getElem hi]
 simp only [Option.toList_some, List.map_append, List.map_cons, List.map_nil, List.foldl_append, List.foldl_cons, List.foldl_nil]
theorem gsum_le (acs : List Act) : ∀ i, i ≤ acs.length → gsum acs i ≤ i * 30001
 | 0, _ => Nat.zero_le _
 | i + 1, h => by
  rw [gsum_succ (by omega)]
  have := gsum_le acs i (by omega)
  have h2 := Nat.min_le_right acs[i].tx.length 30001
  omega
section
variable {P : Program} (hmix : P.follows .mixedOrders = true)
include hmix
theorem great_ok (o : FOk P 5 c5) {acs : List Act} (ha : acs ≠ []) (hl : acs.length ≤ 9223372036854775807) : ConOk P 5 ⟨[.slice 0 0 acs.length acs.length 10], [.cells (acs.flatMap actV) true], .bool (grB acs), [.cells (acs.flatMap actV) true], []⟩ := by
 have hcf := callD_sound (A := pA) pHolds hmix tb0_ok la0_ok 5
 have h1 : 1 ≤ acs.length := List.length_pos_iff.2 ha
 have hg := gsum_le acs (min acs.length 101) (by omega)
 have hlp : LoopOk2 (callD pA tb0 la0 5) c5l0 (.exit 0) (memL 1 [(0, .cells (acs.flatMap actV) true)]) [(s0, .slice 0 0 acs.length acs.length 10), (s3, .int .i64 ((0 : Nat) : Int)), (s4, .int .i64 ((0 : Nat) : Int))] (memL 1 [(0, .cells (acs.flatMap actV) true)]) [(s0, .slice 0 0 acs.length acs.length 10), (s3, .int .i64 ((gsum acs (min acs.length 101) : Nat) : Int)), (s4, .int .i64 ((min acs.length 101 : Nat) : Int))] :=
  loop2 (cfy := callD pA tb0 la0 5) (b := c5l0) (x := 0) (M1 := memL 1 [(0, .cells (acs.flatMap actV) true)]) (l1 := [(s0, .slice 0 0 acs.length acs.length 10), (s3, .int .i64 ((gsum acs (min acs.length 101) : Nat) : Int)), (s4, .int .i64 ((min acs.length 101 : Nat) : Int))]) (min acs.length 101) (Nat.lt_of_lt_of_le (rounds_big (by omega)) (Nat.sub_le _ _)) (fun _ => memL 1 [(0, .cells (acs.flatMap actV) true)])
   (fun i => [(s0, .slice 0 0 acs.length acs.length 10), (s3, .int .i64 ((gsum acs i : Nat) : Int)), (s4, .int .i64 ((i : Nat) : Int))])
   (fun Y i T hi hT K hK => by
    have hi1 : i < acs.length := by omega
    have hb := gsum_le acs i (by omega)
    have hx : nth (acs.flatMap actV) (i * 10 + 8) = some (.str acs[i].tx) := (flat_nth hi1 8 (by decide)).trans rfl
    by_cases ht : acs[i].tx.length ≤ 30001
    ·refine gs_a Y (acs.flatMap actV) acs.length (gsum acs i) i acs[i].tx hl (by omega) hi1 (by omega) hx ht T hT K fun T' hT' => hK T' ?_
     rw [gsum_succ hi1, Nat.min_eq_left ht]; exact hT'
    ·refine gs_b Y (acs.flatMap actV) acs.length (gsum acs i) i acs[i].tx hl (by omega) hi1 (by omega) hx (by omega) T hT K fun T' hT' => hK T' ?_
     rw [gsum_succ hi1, Nat.min_eq_right (by omega)]; exact hT')
   (fun Y T hT K hK => by
    by_cases hc : acs.length ≤ 101
    ·rw [Nat.min_eq_left hc] at hT hK
     exact ge_a Y (acs.flatMap actV) acs.length (gsum acs acs.length) hl T hT K hK
    ·rw [Nat.min_eq_right (by omega)] at hT hK
     exact ge_b Y (acs.flatMap actV) acs.length (gsum acs 101) 101 hl (by omega) (by decide) T hT K hK)
 unfold grB
 by_cases h100 : 100 < acs.length
 ·rw [decide_eq_true h100]
  exact conOk_walk hmix o hcf (gr_1 Ys.none (acs.flatMap actV) acs.length _ _ hl h1 (by omega) hlp h100)
 ·rw [decide_eq_false h100]
  by_cases h3 : 30000 < gsum acs (min acs.length 101)
  ·rw [decide_eq_true h3]
   exact conOk_walk hmix o hcf (gr_2 Ys.none (acs.flatMap actV) acs.length _ _ hl h1 (by omega) hlp (by omega) h3)
  ·rw [decide_eq_false h3]
   exact conOk_walk hmix o hcf (gr_3 Ys.none (acs.flatMap actV) acs.length _ _ hl h1 (by omega) hlp (by omega) (by omega))
end
theorem great_no {acs : List Act} (h : grB acs = false) : acs.length ≤ 100 ∧ gsum acs acs.length ≤ 30000 := by
 unfold grB at h
 simp only [Bool.or_eq_false_iff, decide_eq_false_iff_not] at h
 have h1 : acs.length ≤ 100 := by omega
 rw [Nat.min_eq_left (by omega)] at h
 exact ⟨h1, by omega⟩
theorem seqDD {cf : Ys Prop → CF Prop} {Y : Ys Prop} {B : Nat} {a b : ACode} {T : Slots} {m M1 : Mem} {l1 : List (Sl × V)} {K : Ex → Slots → Mem → Prop}
  (h1 : ∀ K' : Ex → Slots → Mem → Prop, (∀ T', allS T' l1 → K' .normal T' M1) → codeD cf Y B a T m K') (h2 : ∀ T', allS T' l1 → codeD cf Y B b T' M1 K) : codeD cf Y B (.seq a b) T m K :=
 .inr (h1 _ fun T' hT' => h2 T' hT')
theorem seqRD {cf : Ys Prop → CF Prop} {Y : Ys Prop} {B : Nat} {a b : ACode} {T : Slots} {m : Mem} {s : Sl} {v : V} {K : Ex → Slots → Mem → Prop}
  (h1 : ∀ K' : Ex → Slots → Mem → Prop, (∀ T' m', Slots.get T' s = v → K' .ret T' m') → code pA cf Y a T m K') (hK : ∀ T' m', Slots.get T' s = v → K .ret T' m') : codeD cf Y B (.seq a b) T m K :=
 .inr (codeD_of (h1 _ fun T' m' h => hK T' m' h))
theorem allS_snoc {T : Slots} {s : Sl} {v : V} : ∀ {l : List (Sl × V)}, freeB s l = true → allS T l → allS (T.set v s) (l ++ [(s, v)])
 | [], _, _ => ⟨by rw [Slots.get_set, if_pos rfl], trivial⟩
 | (p, u) :: l, hf, h => by
  have h1 := allS_set (v := v) hf h
  have hf2 : freeB s l = true := by
   have h2 := hf
   simp only [freeB, Bool.and_eq_true] at h2
   exact h2.2
  exact ⟨h1.1, allS_snoc hf2 h.2⟩
theorem code_loop {cf : Ys Prop → CF Prop} {Y : Ys Prop} {T : Slots} {m M1 : Mem} {e : Ex} {b : ACode} {l0 l1 : List (Sl × V)} {K : Ex → Slots → Mem → Prop} (H : LoopOk2 cf b e m l0 M1 l1) (h : allS T l0) (hK : ∀ T', allS T' l1 → K e T' M1) : code pA cf Y (.loop b) T m K := by
 simp only [code]
 exact H Y T h K hK
theorem code_block {cf : Ys Prop → CF Prop} {Y : Ys Prop} {T : Slots} {m M1 : Mem} {x : Nat} {b : ACode} {l1 : List (Sl × V)} {K : Ex → Slots → Mem → Prop} (h : ∀ K' : Ex → Slots → Mem → Prop, (∀ T', allS T' l1 → K' (.exit x) T' M1) → code pA cf Y b T m K') (hK : ∀ T', allS T' l1 → K .normal T' M1) : code pA cf Y (.block x b) T m K := by
 simp only [code]
 refine h _ fun T' h' => ?_
 simp only [Nat.beq_refl, cond_true]
 exact hK T' h'
theorem code_ops1 {cf : Ys Prop → CF Prop} {Y : Ys Prop} {T : Slots} {m : Mem} {s : Sl} {v : V} {b : ACode} {K : Ex → Slots → Mem → Prop} (h : code pA cf Y b (T.set v s) m K) : code pA cf Y (.seq (.ops [⟨some s, .quiet false (qMov (.c v)), none⟩]) b) T m K := h
theorem piece_loop {cf : Ys Prop → CF Prop} {Y : Ys Prop} {T : Slots} {m M1 : Mem} {s : Sl} {x : Nat} {b : ACode} {l0 l1 : List (Sl × V)} {K : Ex → Slots → Mem → Prop} (hf : freeB s l0 = true) (hT : allS T l0) (H : LoopOk2 cf b (.exit x) m (l0 ++ [(s, .int .i64 ((0 : Nat) : Int))]) M1 l1) (hK : ∀ T', allS T' l1 → K .normal T' M1) :
  code pA cf Y (.seq (.ops [⟨some s, .quiet false (qMov (.c (.int .i64 0))), none⟩]) (.block x (.loop b))) T m K :=
 code_ops1 (code_block (fun K' hK' => code_loop H (allS_snoc hf hT) hK') hK)
abbrev m3L (oa ol op : AObj) : Mem := memL 3 [(0, oa), (1, ol), (2, op)]
abbrev slI (st : Bool) (sa sl sp : V) : List (Sl × V) := [(s0, .bool st), (s1, sa), (s2, sl), (s3, sp)]
abbrev slI9 (st : Bool) (sa sl sp : V) (w : List Nat) : List (Sl × V) := [(s0, .bool st), (s1, sa), (s2, sl), (s3, sp), (s9, .str w)]
def allB (ls : List Act) (i : Nat) : List Nat := (ls.take i).flatMap saidB
theorem allB_succ {ls : List Act} {i : Nat} (hi : i < ls.length) : allB ls (i + 1) = allB ls i ++ saidB ls[i] := by
 unfold allB
 rw [List.take_add_one, List.getElem?_eq_getElem hi, List.flatMap_append]
 simp only [Option.toList_some, List.flatMap_cons, List.flatMap_nil, List.append_nil]
theorem all_len (ls : List Act) (hs : ∀ a ∈ ls, a.tx.length ≤ 30000) : ∀ i, i ≤ ls.length → (allB ls i).length ≤ gsum ls i + i * 28
 | 0, _ => Nat.zero_le _
 | i + 1, h => by
  rw [allB_succ (by omega), gsum_succ (by omega), List.length_append]
  have h1 := all_len ls hs i (by omega)
  have h2 := said_len ls[i]
  have h3 := hs ls[i] (List.getElem_mem _)
  rw [Nat.min_eq_left (by omega)]
  omega
theorem gsum_mono (acs : List Act) : ∀ {i j : Nat}, i ≤ j → j ≤ acs.length → gsum acs i ≤ gsum acs j := by
 intro i j h
 induction h with
 | refl => intro _; exact Nat.le_refl _
 | step h ih => intro h2; rw [gsum_succ (by omega)]; exact Nat.le_add_right_of_le (ih (by omega))
theorem tx_le {acs : List Act} (h : gsum acs acs.length ≤ 30000) : ∀ a ∈ acs, a.tx.length ≤ 30000 := by
 intro a ha
 obtain ⟨i, hi, rfl⟩ := List.getElem_of_mem ha
 have h1 := gsum_mono acs (i := i + 1) (j := acs.length) (by omega) (Nat.le_refl _)
 rw [gsum_succ hi] at h1
 have : min acs[i].tx.length 30001 ≤ 30000 := by omega
 omega
theorem all_lt {ls : List Act} (h : ∀ a ∈ ls, ActOk a) (i : Nat) : ∀ b ∈ allB ls i, b < 256 := by
 intro b hb
 unfold allB at hb
 obtain ⟨a, ha, hb⟩ := List.mem_flatMap.1 hb
 exact said_lt (h a (List.take_subset _ _ ha)) b hb
section
variable {P : Program} {oa ol op : AObj} {st : Bool} {sa sl sp : V}
theorem all_loop {ls : List Act} (hL : SlP 1 ls sl ol) (hok : ∀ a ∈ ls, ActOk a) (h1 : ls.length ≤ 100) (h2 : gsum ls ls.length ≤ 30000) :
  LoopOk2 (callD pA tb0 (LAw P) 5) c3l0 (.exit 0) (m3L oa ol op) [(s0, .bool st), (s1, sa), (s2, sl), (s3, sp), (s9, .str []), (s10, .int .i64 ((0 : Nat) : Int))] (m3L oa ol op) [(s0, .bool st), (s1, sa), (s2, sl), (s3, sp), (s9, .str (allB ls ls.length)), (s10, .int .i64 ((ls.length : Nat) : Int))] := by
 have htx := tx_le h2
 refine loop2 (cfy := callD pA tb0 (LAw P) 5) (b := c3l0) (x := 0) (M1 := m3L oa ol op) (l1 := [(s0, .bool st), (s1, sa), (s2, sl), (s3, sp), (s9, .str (allB ls ls.length)), (s10, .int .i64 ((ls.length : Nat) : Int))]) ls.length (Nat.lt_of_lt_of_le (rounds_big (by omega)) (Nat.sub_le _ _)) (fun _ => m3L oa ol op)
  (fun i => [(s0, .bool st), (s1, sa), (s2, sl), (s3, sp), (s9, .str (allB ls i)), (s10, .int .i64 ((i : Nat) : Int))]) ?_ ?_
 ·intro Y i T hi hT K hK
  cases hL with
  | nil h => subst h; cases hi
  | zero k h => subst h; cases hi
  | some h =>
   have hln := all_len ls htx i (by omega)
   have hg := gsum_mono ls (i := i) (j := ls.length) (by omega) (Nat.le_refl _)
   have hs := said_len ls[i]
   have hst := htx ls[i] (List.getElem_mem _)
   refine al_s Y (LAw P) (monoL P) oa op st sa sp _ ls.length i hi h1 (actV ls[i]) (saidB ls[i]) (allB ls i) _ (flat_load hi) (cal_missW rfl (cal_missG rfl (cal_Fn (sdR_y (hok _ (List.getElem_mem _)) hst)))) (addS (by omega)) T hT K fun T' hT' => hK T' ?_
   rw [allB_succ hi]; exact hT'
 ·intro Y T hT K hK
  cases hL with
  | nil h => subst h; exact al_n Y (LAw P) (monoL P) oa .dead op st sa sp _ T hT K hK
  | zero k h => subst h; exact al_z Y (LAw P) (monoL P) oa .dead op st sa sp k _ T hT K hK
  | some h => exact al_e Y (LAw P) (monoL P) oa op st sa sp _ ls.length h1 _ T hT K hK
inductive ByP (b : Nat) (bs : List Nat) : V → AObj → Prop
 | nil (h : bs = []) : ByP b bs .nilslice .dead
 | zero (k : Nat) (h : bs = []) : ByP b bs (.slice b 0 0 k 1) .dead
 | some (h : bs ≠ []) : ByP b bs (.slice b 0 bs.length bs.length 1) (.cells (vBytes bs) true)
theorem SlP.ren {b : Nat} {acs : List Act} {v : V} {o : AObj} (h : SlP b acs v o) (σ : Nat → Nat) : o = .dead ∨ o.ren σ = o := by
 cases h with
 | nil => exact .inl rfl
 | zero => exact .inl rfl
 | some => exact .inr (congrArg (fun l => AObj.cells l true) (rens_flat σ acs))
theorem SlP.bel {b : Nat} {acs : List Act} {v : V} {o : AObj} (h : SlP b acs v o) (p : Nat → Bool) : o.bel p = true := by
 cases h with
 | nil => rfl
 | zero => rfl
 | some => exact bels_flat p acs
theorem rens_vB (σ : Nat → Nat) : ∀ bs : List Nat, rens σ (vBytes bs) = vBytes bs
 | [] => rfl
 | b :: bs => congrArg (fun l => V.int .u8 (.ofNat b) :: l) (rens_vB σ bs)
theorem bels_vB (p : Nat → Bool) : ∀ bs : List Nat, bels p (vBytes bs) = true
 | [] => rfl
 | _ :: bs => bels_vB p bs
theorem ByP.ren {b : Nat} {bs : List Nat} {v : V} {o : AObj} (h : ByP b bs v o) (σ : Nat → Nat) : o = .dead ∨ o.ren σ = o := by
 cases h with
 | nil => exact .inl rfl
 | zero => exact .inl rfl
 | some => exact .inr (congrArg (fun l => AObj.cells l true) (rens_vB σ bs))
theorem ByP.bel {b : Nat} {bs : List Nat} {v : V} {o : AObj} (h : ByP b bs v o) (p : Nat → Bool) : o.bel p = true := by
 cases h with
 | nil => rfl
 | zero => rfl
 | some => exact bels_vB p bs
theorem cal5 {oa ol op : AObj} (hC : ∀ {acs : List Act}, acs ≠ [] → acs.length ≤ 9223372036854775807 → ConOk P 5 ⟨[.slice 0 0 acs.length acs.length 10], [.cells (acs.flatMap actV) true], .bool (grB acs), [.cells (acs.flatMap actV) true], []⟩)
  (hn : ConOk P 5 ⟨[.nilslice], [.dead], .bool false, [.dead], []⟩) (hz : ∀ k, ConOk P 5 ⟨[.slice 0 0 0 k 10], [.dead], .bool false, [.dead], []⟩) {b : Nat} {acs : List Act} {v : V} {o : AObj} (hl : acs.length ≤ 9223372036854775807)
  (h : SlP b acs v o) (hg : (m3L oa ol op).get b = some o) (hs : (m3L oa ol op).set b o = m3L oa ol op) : CalOk (LAw P) (.func (.func 5) [] []) [v] (m3L oa ol op) (.bool (grB acs)) (m3L oa ol op) := by
 refine cal_missW rfl ?_
 cases h with
 | nil h => subst h; exact cal_G (l := [b]) hn rfl rfl rfl ⟨.inl rfl, trivial⟩ rfl rfl
 | zero k h => subst h; exact cal_G (l := [b]) (hz k) rfl rfl rfl ⟨.inl rfl, trivial⟩ rfl rfl
 | some h =>
  refine cal_G (l := [b]) (hC h hl) ?_ rfl rfl ⟨.inr ?_, trivial⟩ rfl ?_
  ·unfold Con.wfG
   show (true && (bels _ (acs.flatMap actV) && true) && true && (bels _ (acs.flatMap actV) && true) && true && true && true) = true
   rw [bels_flat, bels_flat]; rfl
  ·show (m3L oa ol op).get b = some (AObj.cells (rens _ (acs.flatMap actV)) true)
   rw [rens_flat]; exact hg
  ·unfold Con.memG
   show (m3L oa ol op).set b (AObj.cells (rens _ (acs.flatMap actV)) true) = _
   rw [rens_flat]; exact hs
end
structure MemFam (N : Nat) (mF : (Nat → AObj) → Mem) : Prop where
 next : ∀ f, (mF f).next = N
 get : ∀ f k, k < N → (mF f).get k = some (f k)
 set : ∀ f k o, k < N → (mF f).set k o = mF (fun i => bif Nat.beq i k then o else f i)
 congr : ∀ f g, (∀ k, k < N → f k = g k) → mF f = mF g
abbrev mF23 (f : Nat → AObj) : Mem := memL 23 [(0, f 0), (1, f 1), (2, f 2), (3, f 3), (4, f 4), (5, f 5), (6, f 6), (7, f 7), (8, f 8), (9, f 9), (10, f 10), (11, f 11), (12, f 12), (13, f 13), (14, f 14), (15, f 15), (16, f 16), (17, f 17), (18, f 18), (19, f 19), (20, f 20), (21, f 21), (22, f 22)]
theorem fam23 : MemFam 23 mF23 := ⟨fun _ => rfl, fun f k h => match k, h with | 0, _ => by kernel_rfl | 1, _ => by kernel_rfl | 2, _ => by kernel_rfl | 3, _ => by kernel_rfl | 4, _ => by kernel_rfl | 5, _ => by kernel_rfl | 6, _ => by kernel_rfl | 7, _ => by kernel_rfl | 8, _ => by kernel_rfl | 9, _ => by kernel_rfl | 10, _ => by kernel_rfl | 11, _ => by kernel_rfl | 12, _ => by kernel_rfl | 13, _ => by kernel_rfl | 14, _ => by kernel_rfl | 15, _ => by kernel_rfl | 16, _ => by kernel_rfl | 17, _ => by kernel_rfl | 18, _ => by kernel_rfl | 19, _ => by kernel_rfl | 20, _ => by kernel_rfl | 21, _ => by kernel_rfl | 22, _ => by kernel_rfl | _ + 23, h => absurd h (by omega), fun f k o h => match k, h with | 0, _ => by kernel_rfl | 1, _ => by kernel_rfl | 2, _ => by kernel_rfl | 3, _ => by kernel_rfl | 4, _ => by kernel_rfl | 5, _ => by kernel_rfl | 6, _ => by kernel_rfl | 7, _ => by kernel_rfl | 8, _ => by kernel_rfl | 9, _ => by kernel_rfl | 10, _ => by kernel_rfl | 11, _ => by kernel_rfl | 12, _ => by kernel_rfl | 13, _ => by kernel_rfl | 14, _ => by kernel_rfl | 15, _ => by kernel_rfl | 16, _ => by kernel_rfl | 17, _ => by kernel_rfl | 18, _ => by kernel_rfl | 19, _ => by kernel_rfl | 20, _ => by kernel_rfl | 21, _ => by kernel_rfl | 22, _ => by kernel_rfl | _ + 23, h => absurd h (by omega), fun f g h => by
 show memL 23 [(0, f 0), (1, f 1), (2, f 2), (3, f 3), (4, f 4), (5, f 5), (6, f 6), (7, f 7), (8, f 8), (9, f 9), (10, f 10), (11, f 11), (12, f 12), (13, f 13), (14, f 14), (15, f 15), (16, f 16), (17, f 17), (18, f 18), (19, f 19), (20, f 20), (21, f 21), (22, f 22)] = memL 23 [(0, g 0), (1, g 1), (2, g 2), (3, g 3), (4, g 4), (5, g 5), (6, g 6), (7, g 7), (8, g 8), (9, g 9), (10, g 10), (11, g 11), (12, g 12), (13, g 13), (14, g 14), (15, g 15), (16, g 16), (17, g 17), (18, g 18), (19, g 19), (20, g 20), (21, g 21), (22, g 22)]
 rw [h 0 (by decide), h 1 (by decide), h 2 (by decide), h 3 (by decide), h 4 (by decide), h 5 (by decide), h 6 (by decide), h 7 (by decide), h 8 (by decide), h 9 (by decide), h 10 (by decide), h 11 (by decide), h 12 (by decide), h 13 (by decide), h 14 (by decide), h 15 (by decide), h 16 (by decide), h 17 (by decide), h 18 (by decide), h 19 (by decide), h 20 (by decide), h 21 (by decide), h 22 (by decide)]⟩
abbrev mF25 (f : Nat → AObj) : Mem := memL 25 [(0, f 0), (1, f 1), (2, f 2), (3, f 3), (4, f 4), (5, f 5), (6, f 6), (7, f 7), (8, f 8), (9, f 9), (10, f 10), (11, f 11), (12, f 12), (13, f 13), (14, f 14), (15, f 15), (16, f 16), (17, f 17), (18, f 18), (19, f 19), (20, f 20), (21, f 21), (22, f 22), (23, f 23), (24, f 24)]
theorem fam25 : MemFam 25 mF25 := ⟨fun _ => rfl, fun f k h => match k, h with | 0, _ => by kernel_rfl | 1, _ => by kernel_rfl | 2, _ => by kernel_rfl | 3, _ => by kernel_rfl | 4, _ => by kernel_rfl | 5, _ => by kernel_rfl | 6, _ => by kernel_rfl | 7, _ => by kernel_rfl | 8, _ => by kernel_rfl | 9, _ => by kernel_rfl | 10, _ => by kernel_rfl | 11, _ => by kernel_rfl | 12, _ => by kernel_rfl | 13, _ => by kernel_rfl | 14, _ => by kernel_rfl | 15, _ => by kernel_rfl | 16, _ => by kernel_rfl | 17, _ => by kernel_rfl | 18, _ => by kernel_rfl | 19, _ => by kernel_rfl | 20, _ => by kernel_rfl | 21, _ => by kernel_rfl | 22, _ => by kernel_rfl | 23, _ => by kernel_rfl | 24, _ => by kernel_rfl | _ + 25, h => absurd h (by omega), fun f k o h => match k, h with | 0, _ => by kernel_rfl | 1, _ => by kernel_rfl | 2, _ => by kernel_rfl | 3, _ => by kernel_rfl | 4, _ => by kernel_rfl | 5, _ => by kernel_rfl | 6, _ => by kernel_rfl | 7, _ => by kernel_rfl | 8, _ => by kernel_rfl | 9, _ => by kernel_rfl | 10, _ => by kernel_rfl | 11, _ => by kernel_rfl | 12, _ => by kernel_rfl | 13, _ => by kernel_rfl | 14, _ => by kernel_rfl | 15, _ => by kernel_rfl | 16, _ => by kernel_rfl | 17, _ => by kernel_rfl | 18, _ => by kernel_rfl | 19, _ => by kernel_rfl | 20, _ => by kernel_rfl | 21, _ => by kernel_rfl | 22, _ => by kernel_rfl | 23, _ => by kernel_rfl | 24, _ => by kernel_rfl | _ + 25, h => absurd h (by omega), fun f g h => by
 show memL 25 [(0, f 0), (1, f 1), (2, f 2), (3, f 3), (4, f 4), (5, f 5), (6, f 6), (7, f 7), (8, f 8), (9, f 9), (10, f 10), (11, f 11), (12, f 12), (13, f 13), (14, f 14), (15, f 15), (16, f 16), (17, f 17), (18, f 18), (19, f 19), (20, f 20), (21, f 21), (22, f 22), (23, f 23), (24, f 24)] = memL 25 [(0, g 0), (1, g 1), (2, g 2), (3, g 3), (4, g 4), (5, g 5), (6, g 6), (7, g 7), (8, g 8), (9, g 9), (10, g 10), (11, g 11), (12, g 12), (13, g 13), (14, g 14), (15, g 15), (16, g 16), (17, g 17), (18, g 18), (19, g 19), (20, g 20), (21, g 21), (22, g 22), (23, g 23), (24, g 24)]
 rw [h 0 (by decide), h 1 (by decide), h 2 (by decide), h 3 (by decide), h 4 (by decide), h 5 (by decide), h 6 (by decide), h 7 (by decide), h 8 (by decide), h 9 (by decide), h 10 (by decide), h 11 (by decide), h 12 (by decide), h 13 (by decide), h 14 (by decide), h 15 (by decide), h 16 (by decide), h 17 (by decide), h 18 (by decide), h 19 (by decide), h 20 (by decide), h 21 (by decide), h 22 (by decide), h 23 (by decide), h 24 (by decide)]⟩
def updG (σ τ : Nat → Nat) : Nat → List AObj → List AObj → (Nat → AObj) → Nat → AObj
 | i, p :: ps, o :: l, f => updG σ τ (i + 1) ps l fun x => bif Nat.beq x (σ i) then (bif p.live then o.ren τ else f x) else f x
 | _, [], _, f => f
 | _, _ :: _, [], f => f
theorem setG_F {N : Nat} {mF : (Nat → AObj) → Mem} (F : MemFam N mF) (σ τ : Nat → Nat) : ∀ (ps l : List AObj) (i : Nat) (f : Nat → AObj), (∀ j p, ps[j]? = some p → p.live = true → σ (i + j) < N) → setG σ τ i ps l (mF f) = mF (updG σ τ i ps l f)
 | [], _, _, _, _ => by simp only [setG, updG]
 | _ :: _, [], _, _, _ => by simp only [setG, updG]
 | p :: ps, o :: l, i, f, h => by
  simp only [setG, updG]
  have h2 : ∀ j q, ps[j]? = some q → q.live = true → σ (i + 1 + j) < N := fun j q hq hl => by
   have := h (j + 1) q (by simpa using hq) hl
   rwa [show i + (j + 1) = i + 1 + j by omega] at this
  cases hp : p.live with
  | true =>
   rw [cond_true, F.set f (σ i) (o.ren τ) (by have := h 0 p rfl hp; simpa using this)]
   simp only [cond_true]
   exact setG_F F σ τ ps l (i + 1) _ h2
  | false =>
   rw [cond_false, setG_F F σ τ ps l (i + 1) f h2]
   congr 2
   funext x
   simp only [cond_false]
   cases Nat.beq x (σ i) <;> rfl
theorem memG_F {N : Nat} {mF : (Nat → AObj) → Mem} (F : MemFam N mF) {C : Con} {σ : Nat → Nat} {f g : Nat → AObj} (h : ∀ j p, C.pre[j]? = some p → p.live = true → σ j < N) (hg : ∀ x, x < N → updG σ (C.tau σ N) 0 C.pre C.old f x = g x) : C.memG σ (mF f) = newAll (C.tau σ N) C.new (mF g) := by
 unfold Con.memG
 rw [F.next, setG_F F _ _ _ _ _ _ (fun j p hj hl => by rw [Nat.zero_add]; exact h j p hj hl), F.congr _ _ hg]
abbrev fn (n : Nat) : V := .func (.func n) [] []
section
variable {P : Program} {args : List V} {m m1 : Mem} {v : V}
theorem up7 {X : CF Prop} (h : CalOk X (fn 7) args m v m1) : CalOk (lastW 4 (lastG 5 (ConOk P 5) (lastFn 6 sdR X))) (fn 7) args m v m1 := cal_missW rfl (cal_missG rfl (cal_missFn rfl h))
theorem up8 {X : CF Prop} (h : CalOk X (fn 8) args m v m1) : CalOk (lastW 4 (lastG 5 (ConOk P 5) (lastFn 6 sdR (lastG 7 (ConOk P 7) X)))) (fn 8) args m v m1 := cal_missW rfl (cal_missG rfl (cal_missFn rfl (cal_missG rfl h)))
theorem up9 {X : CF Prop} (h : CalOk X (fn 9) args m v m1) : CalOk (lastW 4 (lastG 5 (ConOk P 5) (lastFn 6 sdR (lastG 7 (ConOk P 7) (lastG 8 (ConOk P 8) X))))) (fn 9) args m v m1 := cal_missW rfl (cal_missG rfl (cal_missFn rfl (cal_missG rfl (cal_missG rfl h))))
theorem up10 {X : CF Prop} (h : CalOk X (fn 10) args m v m1) : CalOk (lastW 4 (lastG 5 (ConOk P 5) (lastFn 6 sdR (lastG 7 (ConOk P 7) (lastG 8 (ConOk P 8) (lastFn 9 grR X)))))) (fn 10) args m v m1 := cal_missW rfl (cal_missG rfl (cal_missFn rfl (cal_missG rfl (cal_missG rfl (cal_missFn rfl h)))))
theorem up11 {X : CF Prop} (h : CalOk X (fn 11) args m v m1) : CalOk (lastW 4 (lastG 5 (ConOk P 5) (lastFn 6 sdR (lastG 7 (ConOk P 7) (lastG 8 (ConOk P 8) (lastFn 9 grR (lastFn 10 opR X))))))) (fn 11) args m v m1 := cal_missW rfl (cal_missG rfl (cal_missFn rfl (cal_missG rfl (cal_missG rfl (cal_missFn rfl (cal_missFn rfl h))))))
theorem up12 {X : CF Prop} {g : Nat} (h4 : Nat.beq g 4 = false) (h5 : Nat.beq g 5 = false) (h6 : Nat.beq g 6 = false) (h7 : Nat.beq g 7 = false) (h8 : Nat.beq g 8 = false) (h9 : Nat.beq g 9 = false) (h10 : Nat.beq g 10 = false) (h11 : Nat.beq g 11 = false) (h : CalOk X (fn g) args m v m1) : CalOk (lastW 4 (lastG 5 (ConOk P 5) (lastFn 6 sdR (lastG 7 (ConOk P 7) (lastG 8 (ConOk P 8) (lastFn 9 grR (lastFn 10 opR (lastG 11 (ConOk P 11) X)))))))) (fn g) args m v m1 :=
 cal_missW h4 (cal_missG h5 (cal_missFn h6 (cal_missG h7 (cal_missG h8 (cal_missFn h9 (cal_missFn h10 (cal_missG h11 h)))))))
end
section
variable {P : Program} {oa ol op c1 f1 c2 f2 x7 x8 : AObj} {st : Bool}
theorem c7a (h : ConOk P 7 (kNew st)) : CalOk (LAw P) (fn 7) [.str [97], .bool st] (memL 3 [(0, oa), (1, ol), (2, op)]) (.ptr 3 0) (memL 5 [(0, oa), (1, ol), (2, op), (3, preM 4 st 0), (4, mp0)]) :=
 up7 (cal_G (l := []) h (by kernel_rfl) rfl rfl trivial rfl (by kernel_rfl))
theorem c7b (h : ConOk P 7 (kNew st)) : CalOk (LAw P) (fn 7) [.str [97], .bool st] (memL 5 [(0, oa), (1, ol), (2, op), (3, c1), (4, f1)]) (.ptr 5 0) (memL 7 [(0, oa), (1, ol), (2, op), (3, c1), (4, f1), (5, preM 6 st 0), (6, mp0)]) :=
 up7 (cal_G (l := []) h (by kernel_rfl) rfl rfl trivial rfl (by kernel_rfl))
theorem c8a (h : ConOk P 8 (kAll st)) : CalOk (LAw P) (fn 8) [.ptr 3 0, .str byL] (memL 7 [(0, oa), (1, ol), (2, op), (3, preM 4 st 0), (4, mp0), (5, c2), (6, f2)]) (.tuple []) (memL 7 [(0, oa), (1, ol), (2, op), (3, preM 4 st 58), (4, mp0), (5, c2), (6, f2)]) :=
 up8 (cal_G (l := [3, 4]) h (by kernel_rfl) rfl rfl ⟨.inr rfl, .inr rfl, trivial⟩ rfl rfl)
theorem c8b {i : Nat} (h : ConOk P 8 (kByte st i)) : CalOk (LAw P) (fn 8) [.ptr 5 0, .str [byL.getD i 0]] (memL 9 [(0, oa), (1, ol), (2, op), (3, c1), (4, f1), (5, preM 6 st i), (6, mp0), (7, x7), (8, x8)]) (.tuple []) (memL 9 [(0, oa), (1, ol), (2, op), (3, c1), (4, f1), (5, preM 6 st (i + 1)), (6, mp0), (7, x7), (8, x8)]) :=
 up8 (cal_G (l := [5, 6]) h (by kernel_rfl) rfl rfl ⟨.inr rfl, .inr rfl, trivial⟩ rfl rfl)
theorem k9 {m : Mem} : CalOk (LAw P) (fn 9) [] m (.str greB) m := up9 (cal_Fn rfl)
theorem k10 {m : Mem} (o k : Nat) (h1 : o < 18446744073709551616) (h2 : k < 18446744073709551616) : CalOk (LAw P) (fn 10) [.int .u64 ((o : Nat) : Int), .int .u64 ((k : Nat) : Int), .str []] m (.str (opB o k [])) m := up10 (cal_Fn (opR_y (d := []) h1 h2 (Nat.zero_le _)))
theorem byL_len : byL.length = 58 := by unfold byL; simp only [List.length_append, opB_len]; rfl
theorem byL_lt : ∀ b ∈ byL, b < 256 := by
 intro b hb
 unfold byL opB at hb
 simp only [List.mem_append] at hb
 rcases hb with (hb | ((((hb | hb) | hb) | hb) | hb)) | ((((hb | hb) | hb) | hb) | hb) <;> first | exact nB_lt _ _ b hb | exact (by decide : ∀ b ∈ greB, b < 256) b hb | cases hb
theorem vB_nth : ∀ {t : List Nat} {i : Nat} (h : i < t.length), nth (vBytes t) i = some (.int .u8 ((t.getD i 0 : Nat) : Int)) := by
 intro t i h
 rw [nth_vBytes h, List.getD_eq_getElem?_getD, List.getElem?_eq_getElem h]; rfl
abbrev slZ (st : Bool) (sa sl sp : V) (w : List Nat) : List (Sl × V) := [(s0, .bool st), (s1, sa), (s2, sl), (s3, sp), (s9, .str w), (s11, .ptr 3 0), (s12, .ptr 5 0)]
abbrev slB (st : Bool) (sa sl sp : V) (w : List Nat) (i : Nat) : List (Sl × V) := [(s0, .bool st), (s1, sa), (s2, sl), (s3, sp), (s9, .str w), (s11, .ptr 3 0), (s12, .ptr 5 0), (s70, .slice 7 0 58 58 1), (s71, .int .i64 ((58 : Nat) : Int)), (s72, .int .i64 ((i : Nat) : Int))]
abbrev mB8 (oa ol op : AObj) (st : Bool) (i : Nat) (x7 : AObj) : Mem := memL 8 [(0, oa), (1, ol), (2, op), (3, preM 4 st 58), (4, mp0), (5, preM 6 st i), (6, mp0), (7, x7)]
end
structure Low (o : AObj) : Prop where
 ren : ∀ σ, o = .dead ∨ o.ren σ = o
 bel : ∀ p, o.bel p = true
def LowV (v : V) : Prop := ∀ l : List Nat, l.take 3 = [0, 1, 2] → v.back l = v
theorem lowV_nil : LowV .nilslice := fun _ _ => rfl
theorem lowV_slice {b o n c z : Nat} (hb : b = 0 ∨ b = 1 ∨ b = 2) : LowV (.slice b o n c z) := by
 intro l hl
 match l, hl with
 | x0 :: x1 :: x2 :: r, hl =>
  have e : [x0, x1, x2] = [0, 1, 2] := hl
  injection e with e0 e; injection e with e1 e; injection e with e2 e
  subst e0; subst e1; subst e2
  rcases hb with rfl | rfl | rfl <;> rfl
theorem SlP.lowV {b : Nat} {acs : List Act} {v : V} {o : AObj} (h : SlP b acs v o) (hb : b = 0 ∨ b = 1 ∨ b = 2) : LowV v := by
 cases h
 ·exact lowV_nil
 ·exact lowV_slice hb
 ·exact lowV_slice hb
theorem ByP.lowV {b : Nat} {acs : List Nat} {v : V} {o : AObj} (h : ByP b acs v o) (hb : b = 0 ∨ b = 1 ∨ b = 2) : LowV v := by
 cases h
 ·exact lowV_nil
 ·exact lowV_slice hb
 ·exact lowV_slice hb
theorem SlP.low {b : Nat} {acs : List Act} {v : V} {o : AObj} (h : SlP b acs v o) : Low o := ⟨h.ren, h.bel⟩
theorem ByP.low {b : Nat} {acs : List Nat} {v : V} {o : AObj} (h : ByP b acs v o) : Low o := ⟨h.ren, h.bel⟩
theorem low_pre {o : AObj} (h : Low o) {B N b : Nat} {σ : Nat → Nat} {m : Mem} (hg : m.get (σ b) = some o) : o = .dead ∨ (o.lowIt B = true ∧ m.get (σ b) = some o) ∨ m.get (σ b) = some (o.ren σ) ∧ o.bel (fun c => Nat.blt c N) = true := by
 rcases h.ren σ with e | e
 ·exact .inl e
 ·exact .inr (.inr ⟨by rw [e]; exact hg, h.bel _⟩)
theorem preM_pre {a b st i} {B N : Nat} {σ : Nat → Nat} {m : Mem} {x : Nat} (hg : m.get (σ x) = some (preM a st i)) (hs : σ b = a) (hb : b < N) : preM b st i = .dead ∨ ((preM b st i).lowIt B = true ∧ m.get (σ x) = some (preM b st i)) ∨ m.get (σ x) = some ((preM b st i).ren σ) ∧ (preM b st i).bel (fun c => Nat.blt c N) = true := by
 refine .inr (.inr ⟨?_, ?_⟩)
 ·show m.get (σ x) = some (preM (σ b) st i)
  rw [hs]; exact hg
 ·show (Nat.blt b N && true) = true
  rw [nblt_iff.2 hb]; rfl
section
variable {P : Program} {oa ol op : AObj} {st : Bool} {sa sl sp : V} {w : List Nat} (h0 : Low oa) (h1 : Low ol) (h2 : Low op) (v0 : LowV sa) (v1 : LowV sl) (v2 : LowV sp)
include h0 h1 h2 v0 v1 v2
theorem byte_loop (hC : ∀ i, i < 58 → ConOk P 8 (kByte st i)) :
  LoopOkD (callD pA tb0 (LAw P) 5) 3 c3l1 (.exit 2) (mB8 oa ol op st 0 (.cells (vBytes byL) false)) (slB st sa sl sp w 0) (fun _ => True) (fun _ => mB8 oa ol op st 58 (.cells (vBytes byL) false)) (fun _ => slZ st sa sl sp w) := by
 have q8 : ∀ i, RenM 3 [0, 1, 2, 3, 4, 5, 6, 7] (mB8 oa ol op st i (.cells (vBytes byL) false)) (mB8 oa ol op st i (.cells (vBytes byL) false)) := fun i =>
  renM_of (objs := [oa, ol, op, preM 4 st 58, mp0, preM 6 st i, mp0, .cells (vBytes byL) false]) rfl (by decide) rfl ⟨low_pre h0 rfl, low_pre h1 rfl, low_pre h2 rfl, preM_pre (N := 8) rfl rfl (by decide), .inr (.inr ⟨rfl, rfl⟩), preM_pre (N := 8) rfl rfl (by decide), .inr (.inr ⟨rfl, rfl⟩), .inr (.inr ⟨by rw [show (AObj.cells (vBytes byL) false).ren (nthD [0, 1, 2, 3, 4, 5, 6, 7]) = .cells (rens (nthD [0, 1, 2, 3, 4, 5, 6, 7]) (vBytes byL)) false from rfl, rens_vB]; rfl, bels_vB _ _⟩), trivial⟩
 have q9 : ∀ i x8, RenM 3 [0, 1, 2, 3, 4, 5, 6, 7] (memL 9 [(0, oa), (1, ol), (2, op), (3, preM 4 st 58), (4, mp0), (5, preM 6 st i), (6, mp0), (7, .cells (vBytes byL) false), (8, x8)]) (mB8 oa ol op st i (.cells (vBytes byL) false)) := fun i x8 =>
  renM_of (objs := [oa, ol, op, preM 4 st 58, mp0, preM 6 st i, mp0, .cells (vBytes byL) false]) rfl (by decide) rfl ⟨low_pre h0 rfl, low_pre h1 rfl, low_pre h2 rfl, preM_pre (N := 8) rfl rfl (by decide), .inr (.inr ⟨rfl, rfl⟩), preM_pre (N := 8) rfl rfl (by decide), .inr (.inr ⟨rfl, rfl⟩), .inr (.inr ⟨by rw [show (AObj.cells (vBytes byL) false).ren (nthD [0, 1, 2, 3, 4, 5, 6, 7]) = .cells (rens (nthD [0, 1, 2, 3, 4, 5, 6, 7]) (vBytes byL)) false from rfl, rens_vB]; rfl, bels_vB _ _⟩), trivial⟩
 have qb : ∀ i, backS [0, 1, 2, 3, 4, 5, 6, 7] (slB st sa sl sp w i) = slB st sa sl sp w i := fun i => by
  rw [show backS [0, 1, 2, 3, 4, 5, 6, 7] (slB st sa sl sp w i) = [(s0, .bool st), (s1, sa.back [0, 1, 2, 3, 4, 5, 6, 7]), (s2, sl.back [0, 1, 2, 3, 4, 5, 6, 7]), (s3, sp.back [0, 1, 2, 3, 4, 5, 6, 7]), (s9, .str w), (s11, .ptr 3 0), (s12, .ptr 5 0), (s70, .slice 7 0 58 58 1), (s71, .int .i64 ((58 : Nat) : Int)), (s72, .int .i64 ((i : Nat) : Int))] from rfl, v0 _ rfl, v1 _ rfl, v2 _ rfl]
 exact loopR (cfy := callD pA tb0 (LAw P) 5) (b := c3l1) (e := .exit 2) (B := 3) (fun h => by cases h) 58 (Nat.lt_of_lt_of_le (rounds_big (n := 58) (by decide)) (Nat.sub_le _ _)) (l0 := slB st sa sl sp w 0) (q0 := [0, 1, 2, 3, 4, 5, 6, 7]) (M0 := mB8 oa ol op st 0 (.cells (vBytes byL) false))
  (M := fun i => mB8 oa ol op st i (.cells (vBytes byL) false)) (Mg := fun i => memL 9 [(0, oa), (1, ol), (2, op), (3, preM 4 st 58), (4, mp0), (5, preM 6 st (i + 1)), (6, mp0), (7, .cells (vBytes byL) false), (8, .cells [.int .u8 ((byL.getD i 0 : Nat) : Int)] false)])
  (l := fun i => slB st sa sl sp w i) (lg := fun i => slB st sa sl sp w (i + 1)) (q := fun _ => [0, 1, 2, 3, 4, 5, 6, 7]) (M1 := mB8 oa ol op st 58 (.cells (vBytes byL) false)) (l1 := slZ st sa sl sp w) (q8 0) (qb 0) (fun i hi => q9 _ _) (fun i hi => qb _)
  (fun Y i T hi hT K hK => by_s Y (LAw P) (monoL P) oa ol op (preM 4 st 58) mp0 (preM 6 st i) mp0 w (preM 6 st (i + 1)) mp0 st sa sl sp (vBytes byL) 58 i (byL.getD i 0) hi (by decide) (by
    have h3 : i < byL.length := by rw [byL_len]; exact hi
    rw [List.getD_eq_getElem?_getD, List.getElem?_eq_getElem h3]
    exact byL_lt _ (List.getElem_mem h3)) (vB_nth (by rw [byL_len]; exact hi)) (c8b (hC i hi)) T hT K hK)
  (fun Y T hT K hK => by_e Y (LAw P) (monoL P) oa ol op (preM 4 st 58) mp0 (preM 6 st 58) mp0 w st sa sl sp (vBytes byL) 58 (by decide) T hT K hK)
end
end Go.Proofs.Ytblblhfgpcgheaa
