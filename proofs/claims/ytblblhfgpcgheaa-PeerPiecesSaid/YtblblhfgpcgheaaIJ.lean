/- What a server says. No condition. -/
import Derived.Test.YtblblhfgpcgheaaIW
namespace Go.Proofs.Ytblblhfgpcgheaa
open Go Go.AM
set_option maxRecDepth 100000
set_option maxHeartbeats 4000000
set_option linter.unusedVariables false
set_option linter.unusedSectionVars false
def nB (n : Nat) : Nat → List Nat
 | 0 => []
 | k + 1 => nB (n / 256) k ++ [n % 256]
theorem nB_len : ∀ (k n : Nat), (nB n k).length = k
 | 0, _ => rfl
 | k + 1, n => by show (nB _ k ++ [_]).length = _; rw [List.length_append, nB_len k]; rfl
theorem nB_lt : ∀ (k n : Nat), ∀ b ∈ nB n k, b < 256
 | 0, _, _, h => nomatch h
 | k + 1, n, b, h => by
  rcases List.mem_append.1 h with h | h
  ·exact nB_lt k _ b h
  ·rw [List.mem_singleton.1 h]; exact Nat.mod_lt _ (by decide)
theorem addS {a b : List Nat} (h : a.length + b.length ≤ 1000000000) : binV .add (.str a) (.str b) = some (.str (a ++ b)) := by
 show (bif Nat.ble _ _ then _ else _) = _
 rw [nble_iff.2 (by omega), cond_true]
open Classical in
noncomputable def nmR0 : List V → Option V
 | [.int .u64 n, .int .i64 k] => if 0 ≤ n ∧ n < 18446744073709551616 ∧ (k = 2 ∨ k = 4 ∨ k = 8) then some (.str (nB n.toNat k.toNat)) else none
 | _ => none
theorem nmR_ex : ∃ R : List V → Option V, R = nmR0 := ⟨_, rfl⟩
noncomputable def nmR : List V → Option V := Classical.choose nmR_ex
theorem nmR_eq : nmR = nmR0 := Classical.choose_spec nmR_ex
theorem nmR_y {n k : Nat} (h : n < 18446744073709551616) (hk : k = 2 ∨ k = 4 ∨ k = 8) : nmR [.int .u64 ((n : Nat) : Int), .int .i64 ((k : Nat) : Int)] = some (.str (nB n k)) := by
 rw [nmR_eq]
 unfold nmR0
 dsimp only
 rw [if_pos ⟨by omega, by omega, by omega⟩]
 simp only [Int.toNat_natCast]
noncomputable def grR : List V → Option V
 | [] => some (.str greB)
 | _ => none
def opB (o k : Nat) (d : List Nat) : List Nat := nB 1100100111001001 8 ++ nB o 4 ++ nB k 4 ++ nB d.length 4 ++ d
def reB (e c : Nat) (d : List Nat) : List Nat := nB 1732535960 4 ++ nB e 4 ++ nB c 8 ++ d
def paB (g k c : Nat) (d : List Nat) : List Nat := nB 1720595439 4 ++ nB g 2 ++ nB k 2 ++ nB c 8 ++ nB d.length 4 ++ d
open Classical in
noncomputable def opR0 : List V → Option V
 | [.int .u64 o, .int .u64 k, .str d] => if 0 ≤ o ∧ o < 18446744073709551616 ∧ 0 ≤ k ∧ k < 18446744073709551616 ∧ d.length ≤ 1000000 then some (.str (opB o.toNat k.toNat d)) else none
 | _ => none
theorem opR_ex : ∃ R : List V → Option V, R = opR0 := ⟨_, rfl⟩
noncomputable def opR : List V → Option V := Classical.choose opR_ex
theorem opR_eq : opR = opR0 := Classical.choose_spec opR_ex
open Classical in
noncomputable def reR0 : List V → Option V
 | [.int .u64 o, .int .u64 k, .str d] => if 0 ≤ o ∧ o < 18446744073709551616 ∧ 0 ≤ k ∧ k < 18446744073709551616 ∧ d.length ≤ 1000000 then some (.str (reB o.toNat k.toNat d)) else none
 | _ => none
theorem reR_ex : ∃ R : List V → Option V, R = reR0 := ⟨_, rfl⟩
noncomputable def reR : List V → Option V := Classical.choose reR_ex
theorem reR_eq : reR = reR0 := Classical.choose_spec reR_ex
open Classical in
noncomputable def paR0 : List V → Option V
 | [.int .u64 g, .int .u64 k, .int .u64 c, .str d] => if 0 ≤ g ∧ g < 18446744073709551616 ∧ 0 ≤ k ∧ k < 18446744073709551616 ∧ 0 ≤ c ∧ c < 18446744073709551616 ∧ d.length ≤ 1000000 then some (.str (paB g.toNat k.toNat c.toNat d)) else none
 | _ => none
theorem paR_ex : ∃ R : List V → Option V, R = paR0 := ⟨_, rfl⟩
noncomputable def paR : List V → Option V := Classical.choose paR_ex
theorem paR_eq : paR = paR0 := Classical.choose_spec paR_ex
theorem opR_y {o k : Nat} {d : List Nat} (h : o < 18446744073709551616) (h2 : k < 18446744073709551616) (h3 : d.length ≤ 1000000) : opR [.int .u64 ((o : Nat) : Int), .int .u64 ((k : Nat) : Int), .str d] = some (.str (opB o k d)) := by
 rw [opR_eq]
 unfold opR0
 dsimp only
 rw [if_pos ⟨by omega, by omega, by omega, by omega, h3⟩]
 simp only [Int.toNat_natCast]
theorem reR_y {o k : Nat} {d : List Nat} (h : o < 18446744073709551616) (h2 : k < 18446744073709551616) (h3 : d.length ≤ 1000000) : reR [.int .u64 ((o : Nat) : Int), .int .u64 ((k : Nat) : Int), .str d] = some (.str (reB o k d)) := by
 rw [reR_eq]
 unfold reR0
 dsimp only
 rw [if_pos ⟨by omega, by omega, by omega, by omega, h3⟩]
 simp only [Int.toNat_natCast]
theorem paR_y {g k c : Nat} {d : List Nat} (h0 : g < 18446744073709551616) (h : k < 18446744073709551616) (h2 : c < 18446744073709551616) (h3 : d.length ≤ 1000000) : paR [.int .u64 ((g : Nat) : Int), .int .u64 ((k : Nat) : Int), .int .u64 ((c : Nat) : Int), .str d] = some (.str (paB g k c d)) := by
 rw [paR_eq]
 unfold paR0
 dsimp only
 rw [if_pos ⟨by omega, by omega, by omega, by omega, by omega, by omega, h3⟩]
 simp only [Int.toNat_natCast]
structure Act where
 (dw cut : Int) (op kd er ln fg ck of : Nat) (tx : List Nat)
abbrev actV (a : Act) : List V := [.int .i64 a.dw, .int .u32 ((a.op : Nat) : Int), .int .u32 ((a.kd : Nat) : Int), .int .u32 ((a.er : Nat) : Int), .int .u32 ((a.ln : Nat) : Int), .int .u16 ((a.fg : Nat) : Int), .int .u64 ((a.ck : Nat) : Int), .int .u64 ((a.of : Nat) : Int), .str a.tx, .int .i64 a.cut]
structure ActOk (a : Act) : Prop where
 op : a.op < 4294967296
 kd : a.kd < 4294967296
 er : a.er < 4294967296
 ln : a.ln < 4294967296
 fg : a.fg < 65536
 ck : a.ck < 18446744073709551616
 of : a.of < 18446744073709551616
 tx : ∀ b ∈ a.tx, b < 256
def saidB (a : Act) : List Nat :=
 if a.dw = 0 then a.tx else if a.dw = 1 then opB a.op a.kd a.tx else if a.dw = 2 then reB a.er a.ck a.tx
 else if a.dw = 3 then (if a.kd = 1 then paB a.fg 1 a.ck (nB a.of 8 ++ a.tx) else paB a.fg (a.kd % 65536) a.ck a.tx)
 else if a.dw = 6 then greB else []
theorem actV_inj {a b : Act} (h : actV a = actV b) : a = b := by
 obtain ⟨a1, a2, a3, a4, a5, a6, a7, a8, a9, a10⟩ := a
 obtain ⟨b1, b2, b3, b4, b5, b6, b7, b8, b9, b10⟩ := b
 simp only [actV, List.cons.injEq, V.int.injEq, V.str.injEq, Int.ofNat_inj, true_and, and_true] at h
 obtain ⟨h1, h2, h3, h4, h5, h6, h7, h8, h9, h10⟩ := h
 subst h1; subst h2; subst h3; subst h4; subst h5; subst h6; subst h7; subst h8; subst h9; subst h10
 rfl
open Classical in
noncomputable def sdR (l : List V) : Option V := if h : ∃ a, l = [.agg (actV a)] ∧ ActOk a ∧ a.tx.length ≤ 30000 then some (.str (saidB h.choose)) else none
theorem sdR_y {a : Act} (h : ActOk a) (h2 : a.tx.length ≤ 30000) : sdR [.agg (actV a)] = some (.str (saidB a)) := by
 have hx : ∃ b, [V.agg (actV a)] = [.agg (actV b)] ∧ ActOk b ∧ b.tx.length ≤ 30000 := ⟨a, rfl, h, h2⟩
 unfold sdR
 rw [dif_pos hx]
 have e := hx.choose_spec.1
 have e1 : actV a = actV hx.choose := by injection e with e _; injection e
 rw [← actV_inj e1]
theorem opB_len (o k : Nat) (d : List Nat) : (opB o k d).length = 20 + d.length := by unfold opB; simp only [List.length_append, nB_len]
theorem reB_len (o k : Nat) (d : List Nat) : (reB o k d).length = 16 + d.length := by unfold reB; simp only [List.length_append, nB_len]
theorem paB_len (g o k : Nat) (d : List Nat) : (paB g o k d).length = 20 + d.length := by unfold paB; simp only [List.length_append, nB_len]
theorem said_len (a : Act) : (saidB a).length ≤ 28 + a.tx.length := by
 unfold saidB
 split; omega
 split; rw [opB_len]; omega
 split; rw [reB_len]; omega
 split
 ·split
  ·rw [paB_len, List.length_append, nB_len]; omega
  ·rw [paB_len]; omega
 split
 ·show 18 ≤ _; omega
 ·show 0 ≤ _; omega
theorem said_lt {a : Act} (h : ActOk a) : ∀ b ∈ saidB a, b < 256 := by
 intro b hb
 have hn : ∀ n k, b ∈ nB n k → b < 256 := fun n k h => nB_lt k n b h
 have ht := h.tx b
 unfold saidB opB reB paB at hb
 split at hb
 ·exact ht hb
 split at hb
 ·simp only [List.mem_append] at hb
  rcases hb with (((hb | hb) | hb) | hb) | hb <;> first | exact hn _ _ hb | exact ht hb
 split at hb
 ·simp only [List.mem_append] at hb
  rcases hb with ((hb | hb) | hb) | hb <;> first | exact hn _ _ hb | exact ht hb
 split at hb
 ·split at hb
  ·simp only [List.mem_append] at hb
   rcases hb with ((((hb | hb) | hb) | hb) | hb) | (hb | hb) <;> first | exact hn _ _ hb | exact ht hb
  ·simp only [List.mem_append] at hb
   rcases hb with ((((hb | hb) | hb) | hb) | hb) | hb <;> first | exact hn _ _ hb | exact ht hb
 split at hb
 ·exact (by decide : ∀ b ∈ greB, b < 256) b hb
 ·cases hb
abbrev lbS : CF Prop := lastFn 9 grR (lastFn 10 opR (lastFn 17 reR (lastFn 19 paR (lastFn 20 nmR la0))))
section
variable {P : Program} (hmix : P.follows .mixedOrders = true)
include hmix
theorem r33_ok (o : FOk P 33 c33) {la : CF Prop} (hla : LastOk P la id) : LastOk P (lastFn 33 nmR la) id := lastFn_ok (callable_fok o) (fun ρ args args' v hv ha => by
 rw [nmR_eq] at hv; unfold nmR0 at hv; split at hv
 ·split at hv
  ·rename_i n k hh
   obtain ⟨h1, h2, h3⟩ := hh
   cases hv
   obtain ⟨n, rfl⟩ := Int.eq_ofNat_of_zero_le h1
   have h2 : n < 18446744073709551616 := by omega
   have hcf := callD_sound (A := pA) pHolds hmix tb0_ok la0_ok 5
   rcases h3 with rfl | rfl | rfl
   ·exact answers_of_walk hmix o hcf ha rfl rfl (fun K hK => nb_2 _ n h2 K hK)
   ·exact answers_of_walk hmix o hcf ha rfl rfl (fun K hK => nb_4 _ n h2 K hK)
   ·refine answers_of_walk hmix o hcf ha rfl rfl (fun K hK => nb_8 _ n h2 K fun mm => ?_)
    have e : n / 256 / 256 / 256 / 256 / 256 / 256 / 256 % 256 = n / 256 / 256 / 256 / 256 / 256 / 256 / 256 := Nat.mod_eq_of_lt (by omega)
    have hK := hK mm
    have e2 : nB n 8 = n / 256 / 256 / 256 / 256 / 256 / 256 / 256 % 256 :: (nB n 8).tail := rfl
    change K (.str (nB n 8)) mm at hK
    rw [e2, e] at hK
    exact hK
  ·cases hv
 ·cases hv) hla
theorem r20_ok (o33 : FOk P 33 c33) (o : FOk P 20 c20) {la : CF Prop} (hla : LastOk P la id) : LastOk P (lastFn 20 nmR la) id := lastFn_ok (callable_fok o) (fun ρ args args' v hv ha => by
 rw [nmR_eq] at hv; unfold nmR0 at hv; split at hv
 ·split at hv
  ·rename_i n k hh
   obtain ⟨h1, h2, h3⟩ := hh
   cases hv
   obtain ⟨n, rfl⟩ := Int.eq_ofNat_of_zero_le h1
   obtain ⟨k, rfl⟩ := Int.eq_ofNat_of_zero_le (show 0 ≤ k by omega)
   have key : ∀ R : List V → Option V, LastOk P (lastFn 33 R la0) id → R [.int .u64 ((n : Nat) : Int), .int .i64 ((k : Nat) : Int)] = some (.str (nB n k)) → _ := fun R hl hr => answers_of_walk hmix o (callD_sound (A := pA) pHolds hmix tb0_ok hl 5) ha rfl rfl (fun K hK => nm_w _ R n k (nB n k) (by omega) (by omega) hr K hK)
   exact key nmR (r33_ok hmix o33 la0_ok) (nmR_y (by omega) (by omega))
  ·cases hv
 ·cases hv) hla
theorem r9_ok (o : FOk P 9 c9) {la : CF Prop} (hla : LastOk P la id) : LastOk P (lastFn 9 grR la) id := lastFn_ok (callable_fok o) (fun ρ args args' v hv ha => by
 unfold grR at hv; split at hv
 ·cases hv
  exact answers_of_walk hmix o (callD_sound (A := pA) pHolds hmix tb0_ok la0_ok 5) ha rfl rfl (fun K hK => gr_w _ K hK)
 ·cases hv) hla
theorem r10_ok (o33 : FOk P 33 c33) (o20 : FOk P 20 c20) (o : FOk P 10 c10) {la : CF Prop} (hla : LastOk P la id) : LastOk P (lastFn 10 opR la) id := lastFn_ok (callable_fok o) (fun ρ args args' v hv ha => by
 rw [opR_eq] at hv; unfold opR0 at hv; split at hv
 ·split at hv
  ·rename_i n k d hh
   obtain ⟨h1, h2, h3, h4, h5⟩ := hh
   cases hv
   obtain ⟨n, rfl⟩ := Int.eq_ofNat_of_zero_le h1
   obtain ⟨k, rfl⟩ := Int.eq_ofNat_of_zero_le h3
   have ln := fun n k => nB_len k n
   have key : ∀ R : List V → Option V, LastOk P (lastFn 20 R la0) id → (∀ n k : Nat, n < 18446744073709551616 → k = 2 ∨ k = 4 ∨ k = 8 → R [.int .u64 ((n : Nat) : Int), .int .i64 ((k : Nat) : Int)] = some (.str (nB n k))) → _ := fun R hl hr => answers_of_walk hmix o (callD_sound (A := pA) pHolds hmix tb0_ok hl 5) ha rfl rfl (fun K hK => op_w _ R n k (by omega) (by omega) d _ _ _ _ h5 _ _ _ _ (hr _ _ (by decide) (by decide)) (hr _ _ (by omega) (by decide)) (hr _ _ (by omega) (by decide)) (hr _ _ (by omega) (by decide))
    (addS (by simp only [ln]; decide)) (addS (by simp only [List.length_append, ln]; decide)) (addS (by simp only [List.length_append, ln]; decide)) (addS (by simp only [List.length_append, ln]; omega)) K hK)
   exact key nmR (r20_ok hmix o33 o20 la0_ok) (fun n k h1 h2 => nmR_y h1 h2)
  ·cases hv
 ·cases hv) hla
theorem r17_ok (o33 : FOk P 33 c33) (o20 : FOk P 20 c20) (o : FOk P 17 c17) {la : CF Prop} (hla : LastOk P la id) : LastOk P (lastFn 17 reR la) id := lastFn_ok (callable_fok o) (fun ρ args args' v hv ha => by
 rw [reR_eq] at hv; unfold reR0 at hv; split at hv
 ·split at hv
  ·rename_i n k d hh
   obtain ⟨h1, h2, h3, h4, h5⟩ := hh
   cases hv
   obtain ⟨n, rfl⟩ := Int.eq_ofNat_of_zero_le h1
   obtain ⟨k, rfl⟩ := Int.eq_ofNat_of_zero_le h3
   have ln := fun n k => nB_len k n
   have key : ∀ R : List V → Option V, LastOk P (lastFn 20 R la0) id → (∀ n k : Nat, n < 18446744073709551616 → k = 2 ∨ k = 4 ∨ k = 8 → R [.int .u64 ((n : Nat) : Int), .int .i64 ((k : Nat) : Int)] = some (.str (nB n k))) → _ := fun R hl hr => answers_of_walk hmix o (callD_sound (A := pA) pHolds hmix tb0_ok hl 5) ha rfl rfl (fun K hK => re_w _ R n k (by omega) (by omega) d _ _ _ _ _ _ (hr _ _ (by decide) (by decide)) (hr _ _ (by omega) (by decide)) (hr _ _ (by omega) (by decide))
    (addS (by simp only [ln]; decide)) (addS (by simp only [List.length_append, ln]; decide)) (addS (by simp only [List.length_append, ln]; omega)) K hK)
   exact key nmR (r20_ok hmix o33 o20 la0_ok) (fun n k h1 h2 => nmR_y h1 h2)
  ·cases hv
 ·cases hv) hla
theorem r19_ok (o33 : FOk P 33 c33) (o20 : FOk P 20 c20) (o : FOk P 19 c19) {la : CF Prop} (hla : LastOk P la id) : LastOk P (lastFn 19 paR la) id := lastFn_ok (callable_fok o) (fun ρ args args' v hv ha => by
 rw [paR_eq] at hv; unfold paR0 at hv; split at hv
 ·split at hv
  ·rename_i g k c d hh
   obtain ⟨h1, h2, h3, h4, h5, h6, h7⟩ := hh
   cases hv
   obtain ⟨g, rfl⟩ := Int.eq_ofNat_of_zero_le h1
   obtain ⟨k, rfl⟩ := Int.eq_ofNat_of_zero_le h3
   obtain ⟨c, rfl⟩ := Int.eq_ofNat_of_zero_le h5
   have ln := fun n k => nB_len k n
   have key : ∀ R : List V → Option V, LastOk P (lastFn 20 R la0) id → (∀ n k : Nat, n < 18446744073709551616 → k = 2 ∨ k = 4 ∨ k = 8 → R [.int .u64 ((n : Nat) : Int), .int .i64 ((k : Nat) : Int)] = some (.str (nB n k))) → _ := fun R hl hr => answers_of_walk hmix o (callD_sound (A := pA) pHolds hmix tb0_ok hl 5) ha rfl rfl (fun K hK => pa_w _ R g k c (by omega) (by omega) (by omega) d _ _ _ _ _ h7 _ _ _ _ _ (hr _ _ (by decide) (by decide)) (hr _ _ (by omega) (by decide)) (hr _ _ (by omega) (by decide)) (hr _ _ (by omega) (by decide)) (hr _ _ (by omega) (by decide))
    (addS (by simp only [ln]; decide)) (addS (by simp only [List.length_append, ln]; decide)) (addS (by simp only [List.length_append, ln]; decide)) (addS (by simp only [List.length_append, ln]; decide)) (addS (by simp only [List.length_append, ln]; omega)) K hK)
   exact key nmR (r20_ok hmix o33 o20 la0_ok) (fun n k h1 h2 => nmR_y h1 h2)
  ·cases hv
 ·cases hv) hla
theorem lbS_ok (o33 : FOk P 33 c33) (o20 : FOk P 20 c20) (o9 : FOk P 9 c9) (o10 : FOk P 10 c10) (o17 : FOk P 17 c17) (o19 : FOk P 19 c19) : LastOk P lbS id :=
 r9_ok hmix o9 (r10_ok hmix o33 o20 o10 (r17_ok hmix o33 o20 o17 (r19_ok hmix o33 o20 o19 (r20_ok hmix o33 o20 la0_ok))))
theorem r6_ok (hS : LastOk P lbS id) (o : FOk P 6 c6) {la : CF Prop} (hla : LastOk P la id) : LastOk P (lastFn 6 sdR la) id := lastFn_ok (callable_fok o) (fun ρ args args' v hv ha => by
 unfold sdR at hv; split at hv
 ·rename_i hh
  obtain ⟨e, hok, hl⟩ := hh.choose_spec
  generalize hh.choose = a at e hok hl hv
  cases hv
  subst e
  obtain ⟨dw, cut, op, kd, er, ln, fg, ck, of, tx⟩ := a
  obtain ⟨g1, g2, g3, g4, g5, g6, g7, g8⟩ := hok
  simp only at hl g1 g2 g3 g4 g5 g6 g7 g8
  have lB := fun n k => nB_len k n
  refine answers_of_walk hmix o (callD_sound (A := pA) pHolds hmix tb0_ok hS 5) ha rfl rfl (fun K hK => ?_)
  have hK : ∀ mm, K (.str (saidB ⟨dw, cut, op, kd, er, ln, fg, ck, of, tx⟩)) mm := hK
  unfold saidB at hK
  simp only at hK
  by_cases h0 : dw = 0
  ·rw [if_pos h0] at hK
   exact sd_0 _ grR opR reR paR nmR dw cut op kd er ln fg ck of tx g1 g2 g3 g5 g6 g7 h0 K hK
  rw [if_neg h0] at hK
  by_cases h1 : dw = 1
  ·rw [if_pos h1] at hK
   exact sd_1 _ grR opR reR paR nmR dw cut op kd er ln fg ck of tx g1 g2 g3 g5 g6 g7 h1 _ (opR_y (by omega) (by omega) (by omega)) K hK
  rw [if_neg h1] at hK
  by_cases h2 : dw = 2
  ·rw [if_pos h2] at hK
   exact sd_2 _ grR opR reR paR nmR dw cut op kd er ln fg ck of tx g1 g2 g3 g5 g6 g7 h2 _ (reR_y (by omega) (by omega) (by omega)) K hK
  rw [if_neg h2] at hK
  by_cases h3 : dw = 3
  ·rw [if_pos h3] at hK
   by_cases hk : kd = 1
   ·rw [if_pos hk] at hK
    exact sd_3a _ grR opR reR paR nmR dw cut op kd er ln fg ck of tx g1 g2 g3 g5 g6 g7 h3 hk _ _ _ (nmR_y (by omega) (by decide)) (addS (by simp only [lB]; omega)) (paR_y (k := 1) (by omega) (by decide) (by omega) (by simp only [List.length_append, lB]; omega)) K hK
   ·rw [if_neg hk] at hK
    exact sd_3b _ grR opR reR paR nmR dw cut op kd er ln fg ck of tx g1 g2 g3 g5 g6 g7 h3 hk _ (paR_y (by omega) (by omega) (by omega) (by omega)) K hK
  rw [if_neg h3] at hK
  by_cases h6 : dw = 6
  ·rw [if_pos h6] at hK
   exact sd_6 _ grR opR reR paR nmR dw cut op kd er ln fg ck of tx g1 g2 g3 g5 g6 g7 h6 _ rfl K hK
  ·rw [if_neg h6] at hK
   exact sd_n _ grR opR reR paR nmR dw cut op kd er ln fg ck of tx g1 g2 g3 g5 g6 g7 h0 h1 h2 h3 h6 K hK
 ·cases hv) hla
end
end Go.Proofs.Ytblblhfgpcgheaa
