/- The law: runs by script. No condition. -/
import Derived.Test.YthmbmcpjakbepaaRJ
import Derived.Test.YthmbmcpjakbepaaID
namespace Go.Proofs.Ythmbmcpjakbepaa
open Go Go.AM
set_option maxRecDepth 100000
set_option maxHeartbeats 0
set_option linter.unusedVariables false
theorem secEx (a m l n r e p x0 x1 x2 x3 c : Int) : ∃ b, b = (if rightS a m l n r e p x0 x1 x2 x3 c = true then recZ a m l n r e p x0 x1 x2 x3 c else zz) := ⟨_, rfl⟩
noncomputable def secS (a m l n r e p x0 x1 x2 x3 c : Int) : List Nat := Classical.choose (secEx a m l n r e p x0 x1 x2 x3 c)
theorem secS_eq (a m l n r e p x0 x1 x2 x3 c : Int) : secS a m l n r e p x0 x1 x2 x3 c = if rightS a m l n r e p x0 x1 x2 x3 c = true then recZ a m l n r e p x0 x1 x2 x3 c else zz := Classical.choose_spec (secEx a m l n r e p x0 x1 x2 x3 c)
noncomputable abbrev secP (s : Sp) : List Nat := secS s.a s.m s.l s.n s.r s.e s.p s.x0 s.x1 s.x2 s.x3 s.c
noncomputable def secR : List V → Option V
  | [.agg [.int .i64 a, .int .i64 m, .int .i64 l, .int .i64 n, .int .i64 r, .int .i64 e, .int .i64 p, .int .i64 x0, .int .i64 x1, .int .i64 x2, .int .i64 x3, .int .i64 c]] => some (.str (secS a m l n r e p x0 x1 x2 x3 c))
  | _ => none
noncomputable abbrev la24 : CF Prop := lastFn 22 zerR la4
theorem mono24 : MonoCF la24 := mono_fn mono4
def stV (gs : List (List Nat)) : List V := gs.map fun g => .str g
theorem rens_stV (σ : Nat → Nat) : ∀ l : List (List Nat), rens σ (stV l) = stV l
  | [] => rfl
  | x :: l => by have := rens_stV σ l; simp only [stV, List.map_cons, rens, V.ren] at *; rw [this]
inductive S23m : Con → Prop
  | mk (C : Con) (h : S23 C) : S23m C
  | nil (q : Int) : S23m ⟨[.nilslice, .int .i64 q], [], .tuple [.agg mad0, .int .i64 4], [], []⟩
inductive S25 : Con → Prop
  | mk (D : Dk) (X : List V) (n k : Nat) (q : Int) (ok : DkOk D ofRs X n) (hX : ∀ σ, rens σ X = X) (h1 : ∀ i, i < n → D.ok i = true → 1 ≤ (D.sp i).e) : S25 ⟨[.slice 0 0 n k 2, .int .i64 q], [.cells X false], makeR D q n, [.cells X false], []⟩
  | nil (q : Int) : S25 ⟨[.nilslice, .int .i64 q], [], .tuple [.agg mad0, .bool false], [], []⟩
def one0 (f : Bool) (x : Int) : Int := if f = true ∧ x = 1 then 0 else 1
noncomputable def outs (n : Int) (f0 f1 f2 f3 : Bool) (x0 x1 x2 x3 : Int) : Int := one0 f0 x0 + one0 f1 x1 + (if n = 2 then 0 else one0 f2 x2) + (if n = 4 then one0 f3 x3 else 0)
theorem wkEx (a m l n r e p x0 x1 x2 x3 c : Int) (f0 f1 f2 f3 : Bool) : ∃ b, b = (rightS a m l n r e p x0 x1 x2 x3 c && decide (outs n f0 f1 f2 f3 x0 x1 x2 x3 ≤ 1)) := ⟨_, rfl⟩
noncomputable def wkS (a m l n r e p x0 x1 x2 x3 c : Int) (f0 f1 f2 f3 : Bool) : Bool := Classical.choose (wkEx a m l n r e p x0 x1 x2 x3 c f0 f1 f2 f3)
theorem wkS_eq (a m l n r e p x0 x1 x2 x3 c : Int) (f0 f1 f2 f3 : Bool) : wkS a m l n r e p x0 x1 x2 x3 c f0 f1 f2 f3 = (rightS a m l n r e p x0 x1 x2 x3 c && decide (outs n f0 f1 f2 f3 x0 x1 x2 x3 ≤ 1)) := Classical.choose_spec (wkEx a m l n r e p x0 x1 x2 x3 c f0 f1 f2 f3)
noncomputable def wkR : List V → Option V
  | [.agg [.int .i64 a, .int .i64 m, .int .i64 l, .int .i64 n, .int .i64 r, .int .i64 e, .int .i64 p, .int .i64 x0, .int .i64 x1, .int .i64 x2, .int .i64 x3, .int .i64 c, .int .i64 _, .int .i64 _, .int .i64 _, .int .i64 _, .bool f0, .bool f1, .bool f2, .bool f3]] => some (.bool (wkS a m l n r e p x0 x1 x2 x3 c f0 f1 f2 f3))
  | _ => none
noncomputable abbrev la9m : CF Prop := lastC 23 S23m (lastC 25 S25 (lastFn 26 wkR (lastFn 24 secR (lastW 16 la0))))
theorem mono9m : MonoCF la9m := mono_c (mono_c (mono_fn (mono_fn (mono_w mono_false))))
def c9r1 : ACode := sndC c9.body
def c9p0 : ACode := fstC c9.body
def c9p1 : ACode := fstC c9r1
def c9r2 : ACode := sndC c9r1
def c9p2 : ACode := fstC c9r2
def c9r3 : ACode := sndC c9r2
def c9p3 : ACode := fstC c9r3
def c9r4 : ACode := sndC c9r3
def c9p4 : ACode := fstC c9r4
def c9r5 : ACode := sndC c9r4
theorem c9_eq : c9 = ⟨156, [.tmp s8], .seq c9p0 (.seq c9p1 (.seq c9p2 (.seq c9p3 (.seq c9p4 c9r5))))⟩ := rfl
theorem sec_n (Y : Ys Prop) (a m l n r e p x0 x1 x2 x3 c : Int) (hr : rightS a m l n r e p x0 x1 x2 x3 c = false) (K : V → Mem → Prop) (hK : ∀ mm, K (.str zz) mm) :
   body1 pA (callD pA tbG la24 5) Y c24 [sup a m l n r e p x0 x1 x2 x3 c] ⟨0, .leaf⟩ K :=
  walk_of_vc (mono24) (.wait 23 (.fix s5 (vb false) .nil))
  (show (vb (rightS a m l n r e p x0 x1 x2 x3 c) = vb false ∧ V.str zz = V.str zz) from
  ⟨(cb hr), (by rfl)⟩)
  (by kernel_rfl) Y K hK
theorem sec_y (Y : Ys Prop) (a m l n r e p x0 x1 x2 x3 c : Int) (hr : rightS a m l n r e p x0 x1 x2 x3 c = true) (K : V → Mem → Prop) (hK : ∀ mm, K (.str (recZ a m l n r e p x0 x1 x2 x3 c)) mm) :
   body1 pA (callD pA tbG la24 5) Y c24 [sup a m l n r e p x0 x1 x2 x3 c] ⟨0, .leaf⟩ K :=
  walk_of_vc (mono24) (.wait 23 (.fix s5 (vb true) .nil))
  (show (vb (rightS a m l n r e p x0 x1 x2 x3 c) = vb true ∧ rR (V.str (recZ a m l n r e p x0 x1 x2 x3 c))) from
  ⟨(cb hr), (by rfl)⟩)
  (by kernel_rfl) Y K hK
noncomputable abbrev mk_0_Qa (q : Int) : Con := ⟨[.nilslice, .int .i64 q], [], .tuple [.agg mad0, .int .i64 4], [], []⟩
theorem mk_0 (Y : Ys Prop) (q : Int) :
   body1 pA (callD pA tb23 (la23 fun _ => none) 5) Y c23 (mk_0_Qa q).args (memO (mk_0_Qa q).pre) (endC (mk_0_Qa q)) :=
  walkC_of_vc (C := (mk_0_Qa q)) (mono23) .nil
  (show (V.tuple [V.agg mad0, vi (Int.ofNat 4)] = V.tuple [V.agg mad0, vi 4] ∧ True ∧ True) from
  ⟨(by rfl), trivial, trivial⟩)
  (by kernel_rfl) Y
noncomputable abbrev rm_0_Qa (q : Int) : Con := ⟨[.nilslice, .int .i64 q], [], .tuple [.agg mad0, .bool false], [], []⟩
theorem rm_0 (Y : Ys Prop) (q : Int) :
   body1 pA (callD pA tb0 (la25 fun _ => none) 5) Y c25 (rm_0_Qa q).args (memO (rm_0_Qa q).pre) (endC (rm_0_Qa q)) :=
  walkC_of_vc (C := (rm_0_Qa q)) (mono25) .nil
  (show (rR (V.tuple [V.agg mad0, vb false]) ∧ True ∧ True) from
  ⟨(by rfl), trivial, trivial⟩)
  (by kernel_rfl) Y
noncomputable abbrev mq_w_Qa (X : List V) (w q : Int) (tx : List Nat) (nn k : Nat) : Con := ⟨[.slice 0 0 nn k 24, .int .i64 w, .str tx, .int .i64 q], [.cells X true], .bool true, [], []⟩
theorem mq_w_o0 (nn : Nat) (hn : (10 : Nat) < nn) (hn2 : nn ≤ (9223372036854775807 : Nat)) : (10 : Int) < (↑nn : Int) := by omega
theorem mq_w (Y : Ys Prop) (X : List V) (w q : Int) (tx : List Nat) (nn k : Nat) (hn : 10 < nn) (hn2 : nn ≤ 9223372036854775807) :
   body1 pA (callD pA tbG la9m 5) Y c9 (mq_w_Qa X w q tx nn k).args (memO (mq_w_Qa X w q tx nn k).pre) (endC (mq_w_Qa X w q tx nn k)) :=
  walkC_of_vc (C := (mq_w_Qa X w q tx nn k)) (mono9m) (.wait 4 (.fix s19 (vb true) .nil))
  (show (vb (ltI 10 ↑nn) = vb true ∧ vb true = vb true ∧ True ∧ True) from
  ⟨(cb (ltT rfl rfl (mq_w_o0 nn hn hn2))), (by rfl), trivial, trivial⟩)
  (by kernel_rfl) Y
noncomputable abbrev mq_xa_Qa (ob : AObj) (w q : Int) (tx : List Nat) : Con := ⟨[.nilslice, .int .i64 w, .str tx, .int .i64 q], [ob], .bool true, [], []⟩
theorem mq_xa_o0 (tx : List Nat) (ht : (100 : Nat) < List.length tx) (ht2 : List.length tx ≤ (9223372036854775807 : Nat)) : (100 : Int) < (↑(List.length tx) : Int) := by omega
theorem mq_xa (Y : Ys Prop) (ob : AObj) (w q : Int) (tx : List Nat) (ht : 100 < tx.length) (ht2 : tx.length ≤ 9223372036854775807) :
   body1 pA (callD pA tbG la9m 5) Y c9 (mq_xa_Qa ob w q tx).args (memO (mq_xa_Qa ob w q tx).pre) (endC (mq_xa_Qa ob w q tx)) :=
  walkC_of_vc (C := (mq_xa_Qa ob w q tx)) (mono9m) (.wait 8 (.fix s23 (vb true) .nil))
  (show (vb (ltI 100 ↑(List.length tx)) = vb true ∧ vb true = vb true ∧ True ∧ True) from
  ⟨(cb (ltT rfl rfl (mq_xa_o0 tx ht ht2))), (by rfl), trivial, trivial⟩)
  (by kernel_rfl) Y
theorem mq_0a_o0 (tx : List Nat) (ht : List.length tx ≤ (100 : Nat)) : ¬(100 : Int) < (↑(List.length tx) : Int) := by omega
theorem mq_0a (Y : Ys Prop) (ob : AObj) (w q : Int) (tx : List Nat) (ht : tx.length ≤ 100) (h23 : S23m (mk_0_Qa q)) (h25 : S25 (rm_0_Qa q)) :
   body1 pA (callD pA tbG la9m 5) Y c9 (mq_xa_Qa ob w q tx).args (memO (mq_xa_Qa ob w q tx).pre) (endC (mq_xa_Qa ob w q tx)) :=
  walkC_of_vc (C := (mq_xa_Qa ob w q tx)) (mono9m) (.wait 8 (.fix s23 (vb false) (.wait 20 (.con (mk_0_Qa q) [] (.wait 8 (.con (rm_0_Qa q) [] .nil))))))
  (show (vb (ltI 100 ↑(List.length tx)) = vb false ∧ cA (mk_0_Qa q) [] ([V.nilslice, vi q]) la9m 23 (True ∧ (cA (rm_0_Qa q) [] ([V.nilslice, vi q]) la9m 25 (True ∧ (vb true = vb true ∧ True ∧ True))))) from
  ⟨(cb (ltF rfl rfl (mq_0a_o0 tx ht))), (cI (h23)), (by kernel_rfl), rfl, rfl, trivial, ⟨(cM rfl (cI (h25))), (by kernel_rfl), rfl, rfl, trivial, ⟨(by rfl), trivial, trivial⟩⟩⟩)
  (by kernel_rfl) Y
noncomputable abbrev mq_xb_Qa (ob : AObj) (w q : Int) (tx : List Nat) (k : Nat) : Con := ⟨[.slice 0 0 0 k 24, .int .i64 w, .str tx, .int .i64 q], [ob], .bool true, [], []⟩
theorem mq_xb (Y : Ys Prop) (ob : AObj) (w q : Int) (tx : List Nat) (k : Nat) (ht : 100 < tx.length) (ht2 : tx.length ≤ 9223372036854775807) :
   body1 pA (callD pA tbG la9m 5) Y c9 (mq_xb_Qa ob w q tx k).args (memO (mq_xb_Qa ob w q tx k).pre) (endC (mq_xb_Qa ob w q tx k)) :=
  walkC_of_vc (C := (mq_xb_Qa ob w q tx k)) (mono9m) (.wait 8 (.fix s23 (vb true) .nil))
  (show (vb (ltI 100 ↑(List.length tx)) = vb true ∧ vb true = vb true ∧ True ∧ True) from
  ⟨(cb (ltT rfl rfl (mq_xa_o0 tx ht ht2))), (by rfl), trivial, trivial⟩)
  (by kernel_rfl) Y
theorem mq_0b (Y : Ys Prop) (ob : AObj) (w q : Int) (tx : List Nat) (k : Nat) (ht : tx.length ≤ 100) (h23 : S23m (mk_0_Qa q)) (h25 : S25 (rm_0_Qa q)) :
   body1 pA (callD pA tbG la9m 5) Y c9 (mq_xb_Qa ob w q tx k).args (memO (mq_xb_Qa ob w q tx k).pre) (endC (mq_xb_Qa ob w q tx k)) :=
  walkC_of_vc (C := (mq_xb_Qa ob w q tx k)) (mono9m) (.wait 8 (.fix s23 (vb false) (.wait 20 (.con (mk_0_Qa q) [] (.wait 8 (.con (rm_0_Qa q) [] .nil))))))
  (show (vb (ltI 100 ↑(List.length tx)) = vb false ∧ cA (mk_0_Qa q) [] ([V.nilslice, vi q]) la9m 23 (True ∧ (cA (rm_0_Qa q) [] ([V.nilslice, vi q]) la9m 25 (True ∧ (vb true = vb true ∧ True ∧ True))))) from
  ⟨(cb (ltF rfl rfl (mq_0a_o0 tx ht))), (cI (h23)), (by kernel_rfl), rfl, rfl, trivial, ⟨(cM rfl (cI (h25))), (by kernel_rfl), rfl, rfl, trivial, ⟨(by rfl), trivial, trivial⟩⟩⟩)
  (by kernel_rfl) Y
theorem mq_t_o0 (nn : Nat) (hn : nn ≤ (10 : Nat)) : ¬(10 : Int) < (↑nn : Int) := by omega
theorem mq_t (Y : Ys Prop) (X : List V) (w q : Int) (tx : List Nat) (nn k : Nat) (hn : nn ≤ 10) (ht : 100 < tx.length) (ht2 : tx.length ≤ 9223372036854775807) :
   body1 pA (callD pA tbG la9m 5) Y c9 (mq_w_Qa X w q tx nn k).args (memO (mq_w_Qa X w q tx nn k).pre) (endC (mq_w_Qa X w q tx nn k)) :=
  walkC_of_vc (C := (mq_w_Qa X w q tx nn k)) (mono9m) (.wait 4 (.fix s19 (vb false) (.wait 4 (.fix s23 (vb true) .nil))))
  (show (vb (ltI 10 ↑nn) = vb false ∧ vb (ltI 100 ↑(List.length tx)) = vb true ∧ vb true = vb true ∧ True ∧ True) from
  ⟨(cb (ltF rfl rfl (mq_t_o0 nn hn))), (cb (ltT rfl rfl (mq_xa_o0 tx ht ht2))), (by rfl), trivial, trivial⟩)
  (by kernel_rfl) Y
noncomputable abbrev mq0_Qa (w q : Int) (tx : List Nat) (nn k : Nat) : List (Sl × V) := [(s0, .slice 0 0 nn k 24), (s1, .int .i64 w), (s2, .str tx), (s3, .int .i64 q)]
noncomputable abbrev mq0_Qb (w q : Int) (tx : List Nat) (nn k : Nat) : List (Sl × V) := [(s0, .slice 0 0 nn k 24), (s1, .int .i64 w), (s2, .str tx), (s3, .int .i64 q), (s8, .bool false)]
theorem mq0 (Y : Ys Prop) (X : List V) (w q : Int) (tx : List Nat) (nn k : Nat) (hn : nn ≤ 10) (h1 : 1 ≤ nn)  (T : Slots) (hT : allS T (mq0_Qa w q tx nn k)) (K : Ex → Slots → Mem → Prop) (hK : ∀ T', allS T' (mq0_Qb w q tx nn k) → K (.normal) T' (memL 1 [(0, .cells X true)])) :
   code pA (callD pA tbG la9m 5) Y c9p0 T (memL 1 [(0, .cells X true)]) K :=
  code_of_vc (mono9m) (fixS (mq0_Qa w q tx nn k) .nil)
  (show (AndS T (mq0_Qa w q tx nn k) (Ex.normal = Ex.normal ∧ rR (memL 1 [(0, oC X true)]) ∧ SamS (mq0_Qb w q tx nn k))) from
  andS hT ⟨rfl, rfl, (samS _)⟩)
  (by kernel_rfl) Y K hK
noncomputable abbrev mq2_Qa (w q : Int) (tx : List Nat) (nn k : Nat) : List (Sl × V) := [(s0, .slice 0 0 nn k 24), (s1, .int .i64 w), (s2, .str tx), (s3, .int .i64 q), (s8, .bool false), (s9, .nilslice)]
theorem mq2 (Y : Ys Prop) (X : List V) (w q : Int) (tx : List Nat) (nn k : Nat) (hn : nn ≤ 10) (h1 : 1 ≤ nn)  (T : Slots) (hT : allS T (mq0_Qb w q tx nn k)) (K : Ex → Slots → Mem → Prop) (hK : ∀ T', allS T' (mq2_Qa w q tx nn k) → K (.normal) T' (memL 1 [(0, .cells X true)])) :
   code pA (callD pA tbG la9m 5) Y c9p2 T (memL 1 [(0, .cells X true)]) K :=
  code_of_vc (mono9m) (fixS (mq0_Qb w q tx nn k) .nil)
  (show (AndS T (mq0_Qb w q tx nn k) (Ex.normal = Ex.normal ∧ rR (memL 1 [(0, oC X true)]) ∧ SamS (mq2_Qa w q tx nn k))) from
  andS hT ⟨rfl, rfl, (samS _)⟩)
  (by kernel_rfl) Y K hK
theorem mq1_o0 (nn : Nat) (hn : nn ≤ (10 : Nat)) (h1 : (1 : Nat) ≤ nn) : ¬(10 : Int) < (↑nn : Int) := by omega
theorem mq1 (Y : Ys Prop) (X : List V) (w q : Int) (tx : List Nat) (nn k : Nat) (hn : nn ≤ 10) (h1 : 1 ≤ nn) (ht : tx.length ≤ 100) (T : Slots) (hT : allS T (mq0_Qb w q tx nn k)) (K : Ex → Slots → Mem → Prop) (hK : ∀ T', allS T' (mq0_Qb w q tx nn k) → K (.normal) T' (memL 1 [(0, .cells X true)])) :
   code pA (callD pA tbG la9m 5) Y c9p1 T (memL 1 [(0, .cells X true)]) K :=
  code_of_vc (mono9m) (fixS (mq0_Qb w q tx nn k) (.wait 3 (.fix s19 (vb false) (.wait 4 (.fix s23 (vb false) .nil)))))
  (show (AndS T (mq0_Qb w q tx nn k) (vb (ltI 10 ↑nn) = vb false ∧ vb (ltI 100 ↑(List.length tx)) = vb false ∧ Ex.normal = Ex.normal ∧ rR (memL 1 [(0, oC X true)]) ∧ SamS (mq0_Qb w q tx nn k))) from
  andS hT ⟨(cb (ltF rfl rfl (mq1_o0 nn hn h1))), (cb (ltF rfl rfl (mq_0a_o0 tx ht))), rfl, rfl, (samS _)⟩)
  (by kernel_rfl) Y K hK
noncomputable abbrev mq3_a_Qa (w q : Int) (tx : List Nat) (nn k i : Nat) : List (Sl × V) := [(s0, .slice 0 0 nn k 24), (s1, .int .i64 w), (s2, .str tx), (s3, .int .i64 q), (s8, .bool false), (s9, .nilslice), (s10, .int .i64 ((i : Nat) : Int))]
noncomputable abbrev mq3_a_Qb (w q : Int) (tx : List Nat) (nn k i : Nat) : List (Sl × V) := [(s0, .slice 0 0 nn k 24), (s1, .int .i64 w), (s2, .str tx), (s3, .int .i64 q), (s8, .bool false), (s9, .slice 3 0 1 1 2), (s10, .int .i64 ((i + 1 : Nat) : Int))]
noncomputable abbrev mq3_a_Qc (X : List V) (A B : Sp) : Mem := memL 4 [(0, .cells X true), (1, .dead), (2, .cells ((.str (secP A)) :: (.str (secP B)) :: []) false), (3, .cells ((.str (secP A)) :: (.str (secP B)) :: []) false)]
theorem mq3_a_o0 (nn : Nat) (i : Nat) (hn : nn ≤ (10 : Nat)) (h1 : (1 : Nat) ≤ nn) (hi : i < nn) : (↑i : Int) < (↑nn : Int) := by omega
theorem mq3_a_o1 (nn : Nat) (i : Nat) (hn : nn ≤ (10 : Nat)) (h1 : (1 : Nat) ≤ nn) (hi : i < nn) : i < nn := by omega
theorem mq3_a_o2 (i : Nat) : (-9223372036854775808 : Int) ≤ (↑(i + (1 : Nat)) : Int) := by omega
theorem mq3_a (Y : Ys Prop) (X : List V) (w q : Int) (tx : List Nat) (nn k : Nat) (hn : nn ≤ 10) (h1 : 1 ≤ nn) (i : Nat) (hi : i < nn) (A B : Sp) (hA : loadV 12 (i * 24 + 0 * 12) X = some A.v) (hB : loadV 12 (i * 24 + 1 * 12) X = some B.v)  (T : Slots) (hT : allS T (mq3_a_Qa w q tx nn k i)) (K : Ex → Slots → Mem → Prop) (hK : ∀ T', allS T' (mq3_a_Qb w q tx nn k i) → K (.normal) T' (mq3_a_Qc X A B)) :
   code pA (callD pA tbG la9m 5) Y c9l0 T (memL 2 [(0, .cells X true), (1, .dead)]) K :=
  code_of_vc (mono9m) (fixS (mq3_a_Qa w q tx nn k i) (.wait 4 (.fix s29 (vb true) (.wait 4 (.res (V.ptr 0 (i * 24)) (.wait 1 (.res (A.v) (.wait 2 (.res (V.ptr 0 (i * 24)) (.wait 1 (.res (B.v) (.wait 8 (.fix s31 (vi ↑(i + 1)) .nil)))))))))))))
  (show (AndS T (mq3_a_Qa w q tx nn k i) (vb (ltI ↑i ↑nn) = vb true ∧ iaddrV 24 (V.slice 0 0 nn k 24) (vi ↑i) = some (V.ptr 0 (i * 24)) ∧ loadV 12 (i * 24 + 0 * 12) X = some (A.v) ∧ iaddrV 24 (V.slice 0 0 nn k 24) (vi ↑i) = some (V.ptr 0 (i * 24)) ∧ loadV 12 (i * 24 + 1 * 12) X = some (B.v) ∧ ((loadV 12 (i * 24 + 1 * 12) X = some (B.v) ∧ true = true) ∧ True) ∧ True ∧ vi (wr IntKind.i64 (addI (↑i) 1)) = vi ↑(i + 1) ∧ Ex.normal = Ex.normal ∧ rR (mq3_a_Qc X A B) ∧ SamS (mq3_a_Qb w q tx nn k i))) from
  andS hT ⟨cb (ltT rfl rfl (mq3_a_o0 nn i hn h1 hi)), (iaddr_ok0 (i := i) rfl (mq3_a_o1 nn i hn h1 hi)), hA, (iaddr_ok0 (i := i) rfl (mq3_a_o1 nn i hn h1 hi)), hB, ⟨⟨hB, rfl⟩, trivial⟩, trivial, (ci (wE_i64 (addN (a := i) (b := 1) rfl rfl) (mq3_a_o2 i) (by omega))), rfl, rfl, (samS _)⟩)
  (by kernel_rfl) Y K hK
noncomputable abbrev mq3_s_Qa (w q : Int) (tx : List Nat) (nn k i : Nat) : List (Sl × V) := [(s0, .slice 0 0 nn k 24), (s1, .int .i64 w), (s2, .str tx), (s3, .int .i64 q), (s8, .bool false), (s9, .slice 1 0 i i 2), (s10, .int .i64 ((i : Nat) : Int))]
noncomputable abbrev mq3_s_Qb (w q : Int) (tx : List Nat) (nn k i : Nat) : List (Sl × V) := [(s0, .slice 0 0 nn k 24), (s1, .int .i64 w), (s2, .str tx), (s3, .int .i64 q), (s8, .bool false), (s9, .slice 3 0 (i + 1) (i + 1) 2), (s10, .int .i64 ((i + 1 : Nat) : Int))]
noncomputable abbrev mq3_s_Qc (X : List V) (A B : Sp) (t1 : List (List Nat)) : Mem := memL 4 [(0, .cells X true), (1, .dead), (2, .cells ((.str (secP A)) :: (.str (secP B)) :: []) false), (3, .cells (stV t1) false)]
theorem mq3_s (Y : Ys Prop) (X : List V) (w q : Int) (tx : List Nat) (nn k : Nat) (hn : nn ≤ 10) (h1 : 1 ≤ nn) (i : Nat) (hi : i < nn) (A B : Sp) (hA : loadV 12 (i * 24 + 0 * 12) X = some A.v) (hB : loadV 12 (i * 24 + 1 * 12) X = some B.v) (ts t1 : List (List Nat)) (hg : growV 2 32 1 ((.str (secP A)) :: (.str (secP B)) :: []) 0 i i (stV ts) = some (stV t1)) (T : Slots) (hT : allS T (mq3_s_Qa w q tx nn k i)) (K : Ex → Slots → Mem → Prop) (hK : ∀ T', allS T' (mq3_s_Qb w q tx nn k i) → K (.normal) T' (mq3_s_Qc X A B t1)) :
   code pA (callD pA tbG la9m 5) Y c9l0 T (memL 2 [(0, .cells X true), (1, .cells (stV ts) false)]) K :=
  code_of_vc (mono9m) (fixS (mq3_s_Qa w q tx nn k i) (.wait 4 (.fix s29 (vb true) (.wait 4 (.res (V.ptr 0 (i * 24)) (.wait 1 (.res (A.v) (.wait 2 (.res (V.ptr 0 (i * 24)) (.wait 1 (.res (B.v) (.wait 4 (.grow (Opd.t s32) (Opd.t s46) 2 32 1 (0) (i) (i) (stV ts) (1) ([V.str (secP A), V.str (secP B)]) (stV t1) (.wait 3 (.fix s31 (vi ↑(i + 1)) .nil)))))))))))))))
  (show (AndS T (mq3_s_Qa w q tx nn k i) (vb (ltI ↑i ↑nn) = vb true ∧ iaddrV 24 (V.slice 0 0 nn k 24) (vi ↑i) = some (V.ptr 0 (i * 24)) ∧ loadV 12 (i * 24 + 0 * 12) X = some (A.v) ∧ iaddrV 24 (V.slice 0 0 nn k 24) (vi ↑i) = some (V.ptr 0 (i * 24)) ∧ loadV 12 (i * 24 + 1 * 12) X = some (B.v) ∧ ((loadV 12 (i * 24 + 1 * 12) X = some (B.v) ∧ true = true) ∧ True) ∧ True ∧ rR (lApp 2 32 (Opd.t s32) (Opd.t s46)) ∧ rR (V.slice 1 0 i i 2) ∧ true = true ∧ some (1) = some (1) ∧ rR (some ([V.str (secP A), V.str (secP B)])) ∧ rR (some (oC (stV ts) false)) ∧ growV 2 32 1 [V.str (secP A), V.str (secP B)] 0 i i (stV ts) = some (stV t1) ∧ (vi (wr IntKind.i64 (addI (↑i) 1)) = vi ↑(i + 1) ∧ Ex.normal = Ex.normal ∧ rR (mq3_s_Qc X A B t1) ∧ SamS (mq3_s_Qb w q tx nn k i)))) from
  andS hT ⟨cb (ltT rfl rfl (mq3_a_o0 nn i hn h1 hi)), (iaddr_ok0 (i := i) rfl (mq3_a_o1 nn i hn h1 hi)), hA, (iaddr_ok0 (i := i) rfl (mq3_a_o1 nn i hn h1 hi)), hB, ⟨⟨hB, rfl⟩, trivial⟩, trivial, rfl, rfl, rfl, rfl, rfl, rfl, hg, ⟨(ci (wE_i64 (addN (a := i) (b := 1) rfl rfl) (mq3_a_o2 i) (by omega))), rfl, rfl, (samS _)⟩⟩)
  (by kernel_rfl) Y K hK
noncomputable abbrev mq3_e_Qa (w q : Int) (tx : List Nat) (nn k : Nat) (vo : V) : List (Sl × V) := [(s0, .slice 0 0 nn k 24), (s1, .int .i64 w), (s2, .str tx), (s3, .int .i64 q), (s8, .bool false), (s9, vo), (s10, .int .i64 ((nn : Nat) : Int))]
theorem mq3_e_o0 (nn : Nat) (hn : nn ≤ (10 : Nat)) (h1 : (1 : Nat) ≤ nn) : ¬(↑nn : Int) < (↑nn : Int) := by omega
theorem mq3_e (Y : Ys Prop) (X : List V) (w q : Int) (tx : List Nat) (nn k : Nat) (hn : nn ≤ 10) (h1 : 1 ≤ nn) (ob : AObj) (vo : V) (T : Slots) (hT : allS T (mq3_e_Qa w q tx nn k vo)) (K : Ex → Slots → Mem → Prop) (hK : ∀ T', allS T' (mq3_e_Qa w q tx nn k vo) → K (.exit 0) T' (memL 2 [(0, .cells X true), (1, ob)])) :
   code pA (callD pA tbG la9m 5) Y c9l0 T (memL 2 [(0, .cells X true), (1, ob)]) K :=
  code_of_vc (mono9m) (fixS (mq3_e_Qa w q tx nn k vo) (.wait 4 (.fix s29 (vb false) .nil)))
  (show (AndS T (mq3_e_Qa w q tx nn k vo) (vb (ltI ↑nn ↑nn) = vb false ∧ Ex.exit 0 = Ex.exit 0 ∧ rR (memL 2 [(0, oC X true), (1, ob)]) ∧ SamS (mq3_e_Qa w q tx nn k vo))) from
  andS hT ⟨cb (ltF rfl rfl (mq3_e_o0 nn hn h1)), rfl, rfl, (samS _)⟩)
  (by kernel_rfl) Y K hK
noncomputable abbrev mq3_Qa (w q : Int) (tx : List Nat) (nn k : Nat) : List (Sl × V) := [(s0, .slice 0 0 nn k 24), (s1, .int .i64 w), (s2, .str tx), (s3, .int .i64 q), (s8, .bool false), (s9, .slice 1 0 nn nn 2), (s10, .int .i64 ((nn : Nat) : Int))]
noncomputable abbrev mq3_Qb (X : List V) (ts : List (List Nat)) : Mem := memL 2 [(0, oC X true), (1, oC (stV ts) false)]
noncomputable abbrev mq3_Qc (w q : Int) (tx : List Nat) (nn k : Nat) : List (Sl × V) := [(s0, V.slice 0 0 nn k 24), (s1, vi w), (s2, V.str tx), (s3, vi q), (s8, vb false), (s9, V.nilslice), (s10, vi ↑0)]
noncomputable abbrev mq3_Qd (w q : Int) (tx : List Nat) (nn k : Nat) : List (Sl × V) := [(s0, V.slice 0 0 nn k 24), (s1, vi w), (s2, V.str tx), (s3, vi q), (s8, vb false), (s9, V.slice 1 0 nn nn 2), (s10, vi ↑nn)]
noncomputable abbrev mq3_Qe (X : List V) (w q : Int) (tx : List Nat) (nn k : Nat) (ts : List (List Nat)) : Prop := LoopOkD (callD pA tbG la9m 5) 1 c9l0 (Ex.exit 0) (memL 1 [(0, oC X true)]) (mq3_Qc w q tx nn k) (fun _ => True) (fun _ => (mq3_Qb X ts)) fun _ => (mq3_Qd w q tx nn k)
theorem mq3 (Y : Ys Prop) (X : List V) (w q : Int) (tx : List Nat) (nn k : Nat) (hn : nn ≤ 10) (h1 : 1 ≤ nn) (ts : List (List Nat)) (H : mq3_Qe X w q tx nn k ts) (T : Slots) (hT : allS T (mq2_Qa w q tx nn k)) (K : Ex → Slots → Mem → Prop) (hK : ∀ T', allS T' (mq3_Qa w q tx nn k) → K (.normal) T' (memL 2 [(0, .cells X true), (1, .cells (stV ts) false)])) :
   codeD (callD pA tbG la9m 5) Y 1 c9p3 T (memL 1 [(0, .cells X true)]) K :=
  codeSD_of_vc (mono9m) (fixS (mq2_Qa w q tx nn k) (.wait 1 (.invd (Ex.exit 0) (memL 1 [(0, oC X true)]) (mq3_Qc w q tx nn k) (fun x => True) (fun x => (mq3_Qb X ts)) (fun x => (mq3_Qd w q tx nn k)) fun xv0 => .nil)))
  (show (AndS T (mq2_Qa w q tx nn k) (rR (memL 1 [(0, oC X true)]) ∧ (EqZ [V.slice 0 0 nn k 24, vi w, V.str tx, vi q, vb false, V.nilslice, vi ↑0]) ∧ (mq3_Qe X w q tx nn k ts) ∧ (∀ (xv0 : EnL), True → ∀ (T0 : Slots), allS T0 (mq3_Qd w q tx nn k) → (Ex.normal = Ex.normal ∧ (mq3_Qb X ts) = (mq3_Qb X ts) ∧ (rR (V.slice 0 0 nn k 24) ∧ (vi w = vi w ∧ (V.str tx = V.str tx ∧ (vi q = vi q ∧ (vb false = vb false ∧ (rR (V.slice 1 0 nn nn 2) ∧ (vi ↑nn = vi ↑nn ∧ True))))))))))) from
  andS hT ⟨rfl, (eqZ _), H, fun xv0 hq0 T0 hj0 => ⟨rfl, rfl, ⟨rfl, ⟨rfl, ⟨rfl, ⟨rfl, ⟨rfl, ⟨rfl, ⟨rfl, trivial⟩⟩⟩⟩⟩⟩⟩⟩⟩)
  (by kernel_rfl) Y K hK
noncomputable abbrev mq4_n_Qa (w q : Int) (tx : List Nat) (nn k : Nat) : List (Sl × V) := [(s0, .slice 0 0 nn k 24), (s1, .int .i64 w), (s2, .str tx), (s3, .int .i64 q), (s8, .bool false), (s9, .slice 1 0 nn nn 2)]
theorem mq4_n_o0 (nn : Nat) (hn : nn ≤ (10 : Nat)) (h1 : (1 : Nat) ≤ nn) : (0 : Int) < (↑nn : Int) := by omega
theorem mq4_n_o1 (w : Int) (hw : w < (0 : Int)) : w < (0 : Int) := by omega
theorem mq4_n (Y : Ys Prop) (X : List V) (w q : Int) (tx : List Nat) (nn k : Nat) (hn : nn ≤ 10) (h1 : 1 ≤ nn) (ts : List (List Nat)) (hw : w < 0) (T : Slots) (hT : allS T (mq4_n_Qa w q tx nn k)) (K : Ex → Slots → Mem → Prop) (hK : ∀ T', allS T' (mq4_n_Qa w q tx nn k) → K (.normal) T' (memL 2 [(0, .cells X true), (1, .cells (stV ts) false)])) :
   code pA (callD pA tbG la9m 5) Y c9p4 T (memL 2 [(0, .cells X true), (1, .cells (stV ts) false)]) K :=
  code_of_vc (mono9m) (fixS (mq4_n_Qa w q tx nn k) (.wait 3 (.fix s50 (vb true) (.wait 3 (.fix s53 (vb false) .nil)))))
  (show (AndS T (mq4_n_Qa w q tx nn k) (vb (ltI 0 ↑nn) = vb true ∧ vb (nB (ltI w 0)) = vb false ∧ Ex.normal = Ex.normal ∧ (mq3_Qb X ts) = (mq3_Qb X ts) ∧ SamS (mq4_n_Qa w q tx nn k))) from
  andS hT ⟨(cb (ltT rfl rfl (mq4_n_o0 nn hn h1))), (cb (congrArg Bool.not (ltT rfl rfl (mq4_n_o1 w hw)))), rfl, rfl, (samS _)⟩)
  (by kernel_rfl) Y K hK
noncomputable abbrev mq4_y_Qa (q : Int) (w0 : Nat) (tx : List Nat) (nn k : Nat) : List (Sl × V) := [(s0, .slice 0 0 nn k 24), (s1, .int .i64 ((w0 : Nat) : Int)), (s2, .str tx), (s3, .int .i64 q), (s8, .bool false), (s9, .slice 1 0 nn nn 2)]
noncomputable abbrev mq4_y_Qb (X : List V) (t1 : List (List Nat)) : Mem := memL 2 [(0, oC X true), (1, oC (stV t1) false)]
theorem mq4_y_o1 (w0 : Nat) (hw2 : w0 ≤ (9223372036854775807 : Nat)) : ¬(↑w0 : Int) < (0 : Int) := by omega
theorem mq4_y_o2 (nn : Nat) (hn : nn ≤ (10 : Nat)) (h1 : (1 : Nat) ≤ nn) : (↑nn : Int) ≠ (0 : Int) := by omega
theorem mq4_y_o3 (w0 : Nat) (hw2 : w0 ≤ (9223372036854775807 : Nat)) : (-9223372036854775808 : Int) ≤ (↑(w0 / (2 : Nat)) : Int) := by omega
theorem mq4_y_o4 (w0 : Nat) (hw2 : w0 ≤ (9223372036854775807 : Nat)) : (↑(w0 / (2 : Nat)) : Int) ≤ (9223372036854775807 : Int) := by omega
theorem mq4_y_o6 (w0 : Nat) (hw2 : w0 ≤ (9223372036854775807 : Nat)) : w0 / (2 : Nat) % (2 : Nat) < (2 : Nat) := by omega
theorem mq4_y (Y : Ys Prop) (X : List V) (q : Int) (w0 : Nat) (tx : List Nat) (nn k : Nat) (hn : nn ≤ 10) (h1 : 1 ≤ nn) (ts : List (List Nat)) (hw2 : w0 ≤ 9223372036854775807) (r : Nat) (hr : Int.tmod ((w0 : Nat) : Int) ((nn : Nat) : Int) = ((r : Nat) : Int)) (hrn : r < nn) (t1 : List (List Nat)) (hs : putAt [.str tx] (r * 2 + w0 / 2 % 2 * 1) (stV ts) = some (stV t1)) (T : Slots) (hT : allS T (mq4_y_Qa q w0 tx nn k)) (K : Ex → Slots → Mem → Prop) (hK : ∀ T', allS T' (mq4_y_Qa q w0 tx nn k) → K (.normal) T' (memL 2 [(0, .cells X true), (1, .cells (stV t1) false)])) :
   code pA (callD pA tbG la9m 5) Y c9p4 T (memL 2 [(0, .cells X true), (1, .cells (stV ts) false)]) K :=
  code_of_vc (mono9m) (fixS (mq4_y_Qa q w0 tx nn k) (.wait 3 (.fix s50 (vb true) (.wait 3 (.fix s53 (vb true) (.wait 6 (.res (vi (Int.tmod ↑w0 ↑nn)) (.wait 2 (.fix s61 (vi ↑(w0 / 2)) (.wait 2 (.fix s59 (vi ↑r) (.res (V.ptr 1 (r * 2)) (.fix s62 (vi ↑(w0 / 2 % 2)) (.res (V.ptr 1 (r * 2 + w0 / 2 % 2 * 1)) (.sto 1 (Opd.t s65) (Opd.t s63) 1 (r * 2 + w0 / 2 % 2 * 1) (stV ts) (stV t1) .nil)))))))))))))))
  (show (AndS T (mq4_y_Qa q w0 tx nn k) (vb (ltI 0 ↑nn) = vb true ∧ vb (nB (ltI (↑w0) 0)) = vb true ∧ binV .rem (vi ↑w0) (vi ↑nn) = some (vi (Int.tmod ↑w0 ↑nn)) ∧ vi (wr IntKind.i64 (Int.tdiv (↑w0) 2)) = vi ↑(w0 / 2) ∧ vi (Int.tmod ↑w0 ↑nn) = vi ↑r ∧ iaddrV 2 (V.slice 1 0 nn nn 2) (vi ↑r) = some (V.ptr 1 (r * 2)) ∧ vi (Int.tmod (↑(w0 / 2)) 2) = vi ↑(w0 / 2 % 2) ∧ iaddrAV (2) 1 (V.ptr 1 (r * 2)) (vi ↑(w0 / 2 % 2)) = some (V.ptr 1 (r * 2 + w0 / 2 % 2 * 1)) ∧ rR (lSto 1 (Opd.t s65) (Opd.t s63)) ∧ rR (V.ptr 1 (r * 2 + w0 / 2 % 2 * 1)) ∧ rR (some (oC (stV ts) false)) ∧ 1 = 1 ∧ putAt [V.str tx] (r * 2 + w0 / 2 % 2 * 1) (stV ts) = some (stV t1) ∧ (Ex.normal = Ex.normal ∧ rR (mq4_y_Qb X t1) ∧ SamS (mq4_y_Qa q w0 tx nn k)))) from
  andS hT ⟨(cb (ltT rfl rfl (mq4_n_o0 nn hn h1))), (cb (congrArg Bool.not (ltF rfl rfl (mq4_y_o1 w0 hw2)))), (rem_ok (mq4_y_o2 nn hn h1)), (ci (wE_i64 (tdivN (a := w0) (b := 2) rfl rfl) (mq4_y_o3 w0 hw2) (mq4_y_o4 w0 hw2))), (ci hr), (iaddr_ok0 (i := r) rfl (mq3_a_o1 nn r hn h1 hrn)), (ci (tmodN (a := w0 / 2) (b := 2) rfl rfl)), (iaddrA_ok (i := w0 / 2 % 2) rfl (mq4_y_o6 w0 hw2)), rfl, rfl, rfl, rfl, hs, ⟨rfl, rfl, (samS _)⟩⟩)
  (by kernel_rfl) Y K hK
noncomputable abbrev mq5_n_Qa (q : Int) (nn : Nat) (ts : List (List Nat)) : Con := { args := [V.slice 0 0 nn nn 2, vi q], pre := [oC (stV ts) false], ans := V.tuple [V.agg mad0, vi 4], old := [oC (stV ts) false], new := [] }
noncomputable abbrev mq5_n_Qb (q : Int) (nn : Nat) (ts : List (List Nat)) : Con := { args := [V.slice 0 0 nn nn 2, vi q], pre := [oC (stV ts) false], ans := V.tuple [V.agg mad0, vb false], old := [oC (stV ts) false], new := [] }
noncomputable abbrev mq5_n_Qc (q : Int) (nn : Nat) (ts : List (List Nat)) : Con := ⟨[.slice 0 0 nn nn 2, .int .i64 q], [.cells (stV ts) false], .tuple [.agg (mad0), .int .i64 4], [.cells (stV ts) false], []⟩
noncomputable abbrev mq5_n_Qd (q : Int) (nn : Nat) (ts : List (List Nat)) : Con := ⟨[.slice 0 0 nn nn 2, .int .i64 q], [.cells (stV ts) false], .tuple [.agg (mad0), .bool false], [.cells (stV ts) false], []⟩
theorem mq5_n (Y : Ys Prop) (X : List V) (w q : Int) (tx : List Nat) (nn k : Nat) (ts : List (List Nat)) (h23 : S23m (mq5_n_Qc q nn ts)) (h23w : Con.wf (mq5_n_Qc q nn ts) = true) (h25 : S25 (mq5_n_Qd q nn ts)) (h25w : Con.wf (mq5_n_Qd q nn ts) = true)  (T : Slots) (hT : allS T (mq4_n_Qa w q tx nn k)) (K : Ex → Slots → Mem → Prop) (hK : ∀ T' m', Slots.get T' s8 = .bool true → K .ret T' m') :
   codeD (callD pA tbG la9m 5) Y 1 c9r5 T (memL 2 [(0, .cells X true), (1, .cells (stV ts) false)]) K :=
  codeRD_of_vc (mono9m) (fixS (mq4_n_Qa w q tx nn k) (.wait 2 (.con (mq5_n_Qa q nn ts) [1] (.fixM 1 (oC (stV ts) false) (.wait 8 (.con (mq5_n_Qb q nn ts) [1] (.fixM 1 (oC (stV ts) false) .nil)))))))
  (show (AndS T (mq4_n_Qa w q tx nn k) (cA (mq5_n_Qa q nn ts) [1] ([V.slice 1 0 nn nn 2, vi q]) la9m 23 ((oR [1] (oC (stV ts) false) ∧ True) ∧ (eC (mq5_n_Qa q nn ts) [1] 2 (stV ts) ∧ (cA (mq5_n_Qb q nn ts) [1] ([V.slice 1 0 nn nn 2, vi q]) la9m 25 ((oR [1] (oC (stV ts) false) ∧ True) ∧ (eC (mq5_n_Qb q nn ts) [1] 3 (stV ts) ∧ (Ex.ret = Ex.ret ∧ vb true = vb true)))))))) from
  andS hT ⟨(cI (h23)), h23w, rfl, rfl, ⟨congrArg (fun c => some (AObj.cells c false)) (rens_stV _ _).symm, trivial⟩, ⟨(congrArg (fun c => some (AObj.cells c false)) (rens_stV _ _)), ⟨(cM rfl (cI (h25))), h25w, rfl, rfl, ⟨congrArg (fun c => some (AObj.cells c false)) (rens_stV _ _).symm, trivial⟩, ⟨(congrArg (fun c => some (AObj.cells c false)) (rens_stV _ _)), ⟨rfl, (by rfl)⟩⟩⟩⟩⟩)
  (by kernel_rfl) Y hK
noncomputable abbrev mw_a_Qa (w q : Int) (tx : List Nat) (nn k : Nat) (o : Int) (i : Nat) : List (Sl × V) := [(s0, .slice 0 0 nn k 24), (s1, .int .i64 w), (s2, .str tx), (s3, .int .i64 q), (s8, .bool false), (s9, .slice 1 0 nn nn 2), (s11, .ptr 2 0), (s12, .int .i64 0), (s13, .ptr 3 0), (s14, .bool true), (s15, .int .i64 o), (s16, .int .i64 ((i : Nat) : Int))]
noncomputable abbrev mw_a_Qb (w q : Int) (tx : List Nat) (nn k : Nat) (o : Int) (i : Nat) : List (Sl × V) := [(s0, .slice 0 0 nn k 24), (s1, .int .i64 w), (s2, .str tx), (s3, .int .i64 q), (s8, .bool false), (s9, .slice 1 0 nn nn 2), (s11, .ptr 2 0), (s12, .int .i64 0), (s13, .ptr 3 0), (s14, .bool true), (s15, .int .i64 (o + 1)), (s16, .int .i64 ((i + 1 : Nat) : Int))]
noncomputable abbrev mw_a_Qc (X : List V) (ts : List (List Nat)) (g : Sp) (E : D4) (f0 f1 f2 f3 : Bool) : Mem := memL 4 [(0, .cells X true), (1, .cells (stV ts) false), (2, .cells (mdE g E f0 f1 f2 f3) false), (3, .cells (mdE g E f0 f1 f2 f3) false)]
theorem mw_a_o0 (g : Sp) (i : Nat) (g1 : (2 : Int) ≤ Sp.n g) (g2 : Sp.n g ≤ (4 : Int)) (i4 : i < (4 : Nat)) (hi : (↑i : Int) < Sp.n g) : (↑i : Int) < Sp.n g := by omega
theorem mw_a_o1 (i : Nat) (i4 : i < (4 : Nat)) : i < (4 : Nat) := by omega
theorem mw_a_o2 (o : Int) (o1 : (0 : Int) ≤ o) (o2 : o ≤ (10 : Int)) : (-9223372036854775808 : Int) ≤ o + (1 : Int) := by omega
theorem mw_a_o3 (o : Int) (o1 : (0 : Int) ≤ o) (o2 : o ≤ (10 : Int)) : o + (1 : Int) ≤ (9223372036854775807 : Int) := by omega
theorem mw_a_o4 (i : Nat) (i4 : i < (4 : Nat)) : (-9223372036854775808 : Int) ≤ (↑(i + (1 : Nat)) : Int) := by omega
theorem mw_a_o5 (i : Nat) (i4 : i < (4 : Nat)) : (↑(i + (1 : Nat)) : Int) ≤ (9223372036854775807 : Int) := by omega
theorem mw_a (Y : Ys Prop) (X : List V) (w q : Int) (tx : List Nat) (nn k : Nat) (ts : List (List Nat)) (g : Sp) (E : D4) (f0 f1 f2 f3 : Bool) (o : Int) (o1 : 0 ≤ o) (o2 : o ≤ 10) (g1 : 2 ≤ g.n) (g2 : g.n ≤ 4) (i : Nat) (i4 : i < 4) (hi : ((i : Nat) : Int) < g.n) (hf : nth (mdE g E f0 f1 f2 f3) (16 + i * 1) = some (.bool false)) (T : Slots) (hT : allS T (mw_a_Qa w q tx nn k o i)) (K : Ex → Slots → Mem → Prop) (hK : ∀ T', allS T' (mw_a_Qb w q tx nn k o i) → K (.normal) T' (mw_a_Qc X ts g E f0 f1 f2 f3)) :
   code pA (callD pA tbG la9m 5) Y c9l1 T (mw_a_Qc X ts g E f0 f1 f2 f3) K :=
  code_of_vc (mono9m) (fixS (mw_a_Qa w q tx nn k o i) (.wait 6 (.fix s103 (vb true) (.wait 3 (.res (V.ptr 3 (16 + i * 1)) (.res (vb false) (.wait 12 (.fix s120 (vi (o + 1)) (.wait 3 (.fix s105 (vi ↑(i + 1)) .nil))))))))))
  (show (AndS T (mw_a_Qa w q tx nn k o i) (vb (ltI (↑i) (Sp.n g)) = vb true ∧ iaddrAV (4) 1 (V.ptr 3 16) (vi ↑i) = some (V.ptr 3 (16 + i * 1)) ∧ nth (mdE g E f0 f1 f2 f3) (16 + i * 1) = some (vb false) ∧ vi (wr IntKind.i64 (addI o 1)) = vi (o + 1) ∧ vi (wr IntKind.i64 (addI (↑i) 1)) = vi ↑(i + 1) ∧ Ex.normal = Ex.normal ∧ rR (mw_a_Qc X ts g E f0 f1 f2 f3) ∧ SamS (mw_a_Qb w q tx nn k o i))) from
  andS hT ⟨cb (ltT rfl rfl (mw_a_o0 g i g1 g2 i4 hi)), (iaddrA_ok (i := i) rfl (mw_a_o1 i i4)), hf, (ci (wE_i64 (addE rfl rfl) (mw_a_o2 o o1 o2) (mw_a_o3 o o1 o2))), (ci (wE_i64 (addN (a := i) (b := 1) rfl rfl) (mw_a_o4 i i4) (mw_a_o5 i i4))), rfl, rfl, (samS _)⟩)
  (by kernel_rfl) Y K hK
theorem mw_b_o2 (x : Int) (hx1 : x ≠ (1 : Int)) : ¬x = (1 : Int) := by omega
theorem mw_b (Y : Ys Prop) (X : List V) (w q : Int) (tx : List Nat) (nn k : Nat) (ts : List (List Nat)) (g : Sp) (E : D4) (f0 f1 f2 f3 : Bool) (o : Int) (o1 : 0 ≤ o) (o2 : o ≤ 10) (g1 : 2 ≤ g.n) (g2 : g.n ≤ 4) (i : Nat) (i4 : i < 4) (hi : ((i : Nat) : Int) < g.n) (hf : nth (mdE g E f0 f1 f2 f3) (16 + i * 1) = some (.bool true)) (x : Int) (hx : nth (mdE g E f0 f1 f2 f3) (7 + i * 1) = some (.int .i64 x)) (hx1 : x ≠ 1) (T : Slots) (hT : allS T (mw_a_Qa w q tx nn k o i)) (K : Ex → Slots → Mem → Prop) (hK : ∀ T', allS T' (mw_a_Qb w q tx nn k o i) → K (.normal) T' (mw_a_Qc X ts g E f0 f1 f2 f3)) :
   code pA (callD pA tbG la9m 5) Y c9l1 T (mw_a_Qc X ts g E f0 f1 f2 f3) K :=
  code_of_vc (mono9m) (fixS (mw_a_Qa w q tx nn k o i) (.wait 6 (.fix s103 (vb true) (.wait 3 (.res (V.ptr 3 (16 + i * 1)) (.res (vb true) (.wait 5 (.res (V.ptr 3 (7 + i * 1)) (.res (vi x) (.wait 1 (.fix s117 (vb true) (.wait 4 (.fix s120 (vi (o + 1)) (.wait 3 (.fix s105 (vi ↑(i + 1)) .nil)))))))))))))))
  (show (AndS T (mw_a_Qa w q tx nn k o i) (vb (ltI (↑i) (Sp.n g)) = vb true ∧ iaddrAV (4) 1 (V.ptr 3 16) (vi ↑i) = some (V.ptr 3 (16 + i * 1)) ∧ nth (mdE g E f0 f1 f2 f3) (16 + i * 1) = some (vb true) ∧ iaddrAV (4) 1 (V.ptr 3 7) (vi ↑i) = some (V.ptr 3 (7 + i * 1)) ∧ nth (mdE g E f0 f1 f2 f3) (7 + i * 1) = some (vi x) ∧ vb (nB (eqI x 1)) = vb true ∧ vi (wr IntKind.i64 (addI o 1)) = vi (o + 1) ∧ vi (wr IntKind.i64 (addI (↑i) 1)) = vi ↑(i + 1) ∧ Ex.normal = Ex.normal ∧ rR (mw_a_Qc X ts g E f0 f1 f2 f3) ∧ SamS (mw_a_Qb w q tx nn k o i))) from
  andS hT ⟨cb (ltT rfl rfl (mw_a_o0 g i g1 g2 i4 hi)), (iaddrA_ok (i := i) rfl (mw_a_o1 i i4)), hf, (iaddrA_ok (i := i) rfl (mw_a_o1 i i4)), hx, (cb (congrArg Bool.not (eqF rfl rfl (mw_b_o2 x hx1)))), (ci (wE_i64 (addE rfl rfl) (mw_a_o2 o o1 o2) (mw_a_o3 o o1 o2))), (ci (wE_i64 (addN (a := i) (b := 1) rfl rfl) (mw_a_o4 i i4) (mw_a_o5 i i4))), rfl, rfl, (samS _)⟩)
  (by kernel_rfl) Y K hK
noncomputable abbrev mw_c_Qa (w q : Int) (tx : List Nat) (nn k : Nat) (o : Int) (i : Nat) : List (Sl × V) := [(s0, .slice 0 0 nn k 24), (s1, .int .i64 w), (s2, .str tx), (s3, .int .i64 q), (s8, .bool false), (s9, .slice 1 0 nn nn 2), (s11, .ptr 2 0), (s12, .int .i64 0), (s13, .ptr 3 0), (s14, .bool true), (s15, .int .i64 o), (s16, .int .i64 ((i + 1 : Nat) : Int))]
theorem mw_c (Y : Ys Prop) (X : List V) (w q : Int) (tx : List Nat) (nn k : Nat) (ts : List (List Nat)) (g : Sp) (E : D4) (f0 f1 f2 f3 : Bool) (o : Int) (o1 : 0 ≤ o) (o2 : o ≤ 10) (g1 : 2 ≤ g.n) (g2 : g.n ≤ 4) (i : Nat) (i4 : i < 4) (hi : ((i : Nat) : Int) < g.n) (hf : nth (mdE g E f0 f1 f2 f3) (16 + i * 1) = some (.bool true)) (hx : nth (mdE g E f0 f1 f2 f3) (7 + i * 1) = some (.int .i64 1)) (T : Slots) (hT : allS T (mw_a_Qa w q tx nn k o i)) (K : Ex → Slots → Mem → Prop) (hK : ∀ T', allS T' (mw_c_Qa w q tx nn k o i) → K (.normal) T' (mw_a_Qc X ts g E f0 f1 f2 f3)) :
   code pA (callD pA tbG la9m 5) Y c9l1 T (mw_a_Qc X ts g E f0 f1 f2 f3) K :=
  code_of_vc (mono9m) (fixS (mw_a_Qa w q tx nn k o i) (.wait 6 (.fix s103 (vb true) (.wait 3 (.res (V.ptr 3 (16 + i * 1)) (.res (vb true) (.wait 5 (.res (V.ptr 3 (7 + i * 1)) (.res (vi (Int.ofNat 1)) (.wait 5 (.fix s105 (vi ↑(i + 1)) .nil)))))))))))
  (show (AndS T (mw_a_Qa w q tx nn k o i) (vb (ltI (↑i) (Sp.n g)) = vb true ∧ iaddrAV (4) 1 (V.ptr 3 16) (vi ↑i) = some (V.ptr 3 (16 + i * 1)) ∧ nth (mdE g E f0 f1 f2 f3) (16 + i * 1) = some (vb true) ∧ iaddrAV (4) 1 (V.ptr 3 7) (vi ↑i) = some (V.ptr 3 (7 + i * 1)) ∧ nth (mdE g E f0 f1 f2 f3) (7 + i * 1) = some (vi (Int.ofNat 1)) ∧ vi (wr IntKind.i64 (addI (↑i) 1)) = vi ↑(i + 1) ∧ Ex.normal = Ex.normal ∧ rR (mw_a_Qc X ts g E f0 f1 f2 f3) ∧ SamS (mw_c_Qa w q tx nn k o i))) from
  andS hT ⟨cb (ltT rfl rfl (mw_a_o0 g i g1 g2 i4 hi)), (iaddrA_ok (i := i) rfl (mw_a_o1 i i4)), hf, (iaddrA_ok (i := i) rfl (mw_a_o1 i i4)), hx, (ci (wE_i64 (addN (a := i) (b := 1) rfl rfl) (mw_a_o4 i i4) (mw_a_o5 i i4))), rfl, rfl, (samS _)⟩)
  (by kernel_rfl) Y K hK
noncomputable abbrev mw_e_Qa (w q : Int) (tx : List Nat) (nn k : Nat) (g : Sp) (o : Int) : List (Sl × V) := [(s0, .slice 0 0 nn k 24), (s1, .int .i64 w), (s2, .str tx), (s3, .int .i64 q), (s8, .bool false), (s9, .slice 1 0 nn nn 2), (s11, .ptr 2 0), (s12, .int .i64 0), (s13, .ptr 3 0), (s14, .bool true), (s15, .int .i64 o), (s16, .int .i64 g.n)]
theorem mw_e_o0 (g : Sp) (g1 : (2 : Int) ≤ Sp.n g) (g2 : Sp.n g ≤ (4 : Int)) : ¬Sp.n g < Sp.n g := by omega
theorem mw_e (Y : Ys Prop) (X : List V) (w q : Int) (tx : List Nat) (nn k : Nat) (ts : List (List Nat)) (g : Sp) (E : D4) (f0 f1 f2 f3 : Bool) (o : Int) (o1 : 0 ≤ o) (o2 : o ≤ 10) (g1 : 2 ≤ g.n) (g2 : g.n ≤ 4)  (T : Slots) (hT : allS T (mw_e_Qa w q tx nn k g o)) (K : Ex → Slots → Mem → Prop) (hK : ∀ T', allS T' (mw_e_Qa w q tx nn k g o) → K (.exit 2) T' (mw_a_Qc X ts g E f0 f1 f2 f3)) :
   code pA (callD pA tbG la9m 5) Y c9l1 T (mw_a_Qc X ts g E f0 f1 f2 f3) K :=
  code_of_vc (mono9m) (fixS (mw_e_Qa w q tx nn k g o) (.wait 6 (.fix s103 (vb false) .nil)))
  (show (AndS T (mw_e_Qa w q tx nn k g o) (vb (ltI (Sp.n g) (Sp.n g)) = vb false ∧ Ex.exit 2 = Ex.exit 2 ∧ rR (mw_a_Qc X ts g E f0 f1 f2 f3) ∧ SamS (mw_e_Qa w q tx nn k g o))) from
  andS hT ⟨cb (ltF rfl rfl (mw_e_o0 g g1 g2)), rfl, rfl, (samS _)⟩)
  (by kernel_rfl) Y K hK
noncomputable abbrev mq5_y_Qa (X : List V) (ts : List (List Nat)) (g : Sp) (E : D4) (f0 f1 f2 f3 : Bool) : Mem := memL 4 [(0, oC X true), (1, oC (stV ts) false), (2, oC (mdE g E f0 f1 f2 f3) false), (3, oC (mdE g E f0 f1 f2 f3) false)]
noncomputable abbrev mq5_y_Qb (w q : Int) (tx : List Nat) (nn k : Nat) : List (Sl × V) := [(s0, V.slice 0 0 nn k 24), (s1, vi w), (s2, V.str tx), (s3, vi q), (s8, vb false), (s9, V.slice 1 0 nn nn 2), (s11, V.ptr 2 0), (s12, vi 0), (s13, V.ptr 3 0), (s14, vb true), (s15, vi 0), (s16, vi ↑0)]
noncomputable abbrev mq5_y_Qc (w q : Int) (tx : List Nat) (nn k : Nat) (g : Sp) (o : Int) : List (Sl × V) := [(s0, V.slice 0 0 nn k 24), (s1, vi w), (s2, V.str tx), (s3, vi q), (s8, vb false), (s9, V.slice 1 0 nn nn 2), (s11, V.ptr 2 0), (s12, vi 0), (s13, V.ptr 3 0), (s14, vb true), (s15, vi o), (s16, vi (Sp.n g))]
noncomputable abbrev mq5_y_Qd (q : Int) (nn : Nat) (ts : List (List Nat)) (g : Sp) (E : D4) (f0 f1 f2 f3 : Bool) : Con := { args := [V.slice 0 0 nn nn 2, vi q], pre := [oC (stV ts) false], ans := V.tuple [V.agg (mdE g E f0 f1 f2 f3), vi 0], old := [oC (stV ts) false], new := [] }
noncomputable abbrev mq5_y_Qe (q : Int) (nn : Nat) (ts : List (List Nat)) (g : Sp) (E : D4) (f0 f1 f2 f3 : Bool) : Con := { args := [V.slice 0 0 nn nn 2, vi q], pre := [oC (stV ts) false], ans := V.tuple [V.agg (mdE g E f0 f1 f2 f3), vb true], old := [oC (stV ts) false], new := [] }
noncomputable abbrev mq5_y_Qf (X : List V) (w q : Int) (tx : List Nat) (nn k : Nat) (ts : List (List Nat)) (g : Sp) (E : D4) (f0 f1 f2 f3 : Bool) (o : Int) : Prop := LoopOk2 (callD pA tbG la9m 5) c9l1 (Ex.exit 2) (mq5_y_Qa X ts g E f0 f1 f2 f3) (mq5_y_Qb w q tx nn k) (mq5_y_Qa X ts g E f0 f1 f2 f3) (mq5_y_Qc w q tx nn k g o)
theorem mq5_y_o0 (o : Int) (ho : o ≤ (1 : Int)) (o1 : (0 : Int) ≤ o) (o2 : o ≤ (10 : Int)) (w0 : wkS (0 : Int) (0 : Int) (0 : Int) (0 : Int) (0 : Int) (0 : Int) (0 : Int) (0 : Int) (0 : Int) (0 : Int) (0 : Int) (0 : Int) false false false false = false) : ¬(1 : Int) < o := by omega
theorem mq5_y (Y : Ys Prop) (X : List V) (w q : Int) (tx : List Nat) (nn k : Nat) (ts : List (List Nat)) (g : Sp) (E : D4) (f0 f1 f2 f3 : Bool) (h23 : S23m (mq5_y_Qd q nn ts g E f0 f1 f2 f3)) (h23w : Con.wf (mq5_y_Qd q nn ts g E f0 f1 f2 f3) = true) (h25 : S25 (mq5_y_Qe q nn ts g E f0 f1 f2 f3)) (h25w : Con.wf (mq5_y_Qe q nn ts g E f0 f1 f2 f3) = true) (o : Int) (ho : o ≤ 1) (o1 : 0 ≤ o) (o2 : o ≤ 10) (H : mq5_y_Qf X w q tx nn k ts g E f0 f1 f2 f3 o) (e1 : eqvV false K12 g.v g.v = some (.bool true)) (e2 : eqvV false (.many [.int, .int, .int, .int]) (.agg [.int .i64 E.d0, .int .i64 E.d1, .int .i64 E.d2, .int .i64 E.d3]) (.agg [.int .i64 E.d0, .int .i64 E.d1, .int .i64 E.d2, .int .i64 E.d3]) = some (.bool true)) (e3 : eqvV false (.many [.bool, .bool, .bool, .bool]) (.agg [.bool f0, .bool f1, .bool f2, .bool f3]) (.agg [.bool f0, .bool f1, .bool f2, .bool f3]) = some (.bool true)) (w1 : wkS g.a g.m g.l g.n g.r g.e g.p g.x0 g.x1 g.x2 g.x3 g.c f0 f1 f2 f3 = true) (w0 : wkS 0 0 0 0 0 0 0 0 0 0 0 0 false false false false = false) (T : Slots) (hT : allS T (mq4_n_Qa w q tx nn k)) (K : Ex → Slots → Mem → Prop) (hK : ∀ T' m', Slots.get T' s8 = .bool true → K .ret T' m') :
   codeD (callD pA tbG la9m 5) Y 1 c9r5 T (memL 2 [(0, .cells X true), (1, .cells (stV ts) false)]) K :=
  codeRD_of_vc (mono9m) (fixS (mq4_n_Qa w q tx nn k) (.wait 2 (.con (mq5_y_Qd q nn ts g E f0 f1 f2 f3) [1] (.fixM 1 (oC (stV ts) false) (.wait 8 (.con (mq5_y_Qe q nn ts g E f0 f1 f2 f3) [1] (.fixM 1 (oC (stV ts) false) (.wait 24 (.inv2 (Ex.exit 2) (mq5_y_Qa X ts g E f0 f1 f2 f3) (mq5_y_Qb w q tx nn k) (mq5_y_Qa X ts g E f0 f1 f2 f3) (mq5_y_Qc w q tx nn k g o) (.fix s0 (V.slice 0 0 nn k 24) (.fix s1 (vi w) (.fix s2 (V.str tx) (.fix s3 (vi q) (.fix s8 (vb false) (.fix s9 (V.slice 1 0 nn nn 2) (.fix s11 (V.ptr 2 0) (.fix s12 (vi (Int.ofNat 0)) (.fix s13 (V.ptr 3 0) (.fix s14 (vb true) (.fix s15 (vi o) (.fix s16 (vi (Sp.n g)) (.wait 23 (.res (vb true) (.wait 5 (.res (vb true) (.wait 6 (.res (vb true) (.wait 6 (.fix s143 (vb true) (.fix s145 (vb true) (.wait 5 (.fix s150 (vb false) .nil))))))))))))))))))))))))))))))))
  (show (AndS T (mq4_n_Qa w q tx nn k) (cA (mq5_y_Qd q nn ts g E f0 f1 f2 f3) [1] ([V.slice 1 0 nn nn 2, vi q]) la9m 23 ((oR [1] (oC (stV ts) false) ∧ True) ∧ (eC (mq5_y_Qd q nn ts g E f0 f1 f2 f3) [1] 2 (stV ts) ∧ (cA (mq5_y_Qe q nn ts g E f0 f1 f2 f3) [1] ([V.slice 1 0 nn nn 2, vi q]) la9m 25 ((oR [1] (oC (stV ts) false) ∧ True) ∧ (eC (mq5_y_Qe q nn ts g E f0 f1 f2 f3) [1] 3 (stV ts) ∧ (rR (mq5_y_Qa X ts g E f0 f1 f2 f3) ∧ (EqZ [V.slice 0 0 nn k 24, vi w, V.str tx, vi q, vb false, V.slice 1 0 nn nn 2, V.ptr 2 0, vi 0, V.ptr 3 0, vb true, vi 0, vi ↑0]) ∧ (mq5_y_Qf X w q tx nn k ts g E f0 f1 f2 f3 o) ∧ (∀ (T0 : Slots), allS T0 (mq5_y_Qc w q tx nn k g o) → (Slots.get T0 s0 = V.slice 0 0 nn k 24 ∧ Slots.get T0 s1 = vi w ∧ Slots.get T0 s2 = V.str tx ∧ Slots.get T0 s3 = vi q ∧ Slots.get T0 s8 = vb false ∧ Slots.get T0 s9 = V.slice 1 0 nn nn 2 ∧ Slots.get T0 s11 = V.ptr 2 0 ∧ Slots.get T0 s12 = vi (Int.ofNat 0) ∧ Slots.get T0 s13 = V.ptr 3 0 ∧ Slots.get T0 s14 = vb true ∧ Slots.get T0 s15 = vi o ∧ Slots.get T0 s16 = vi (Sp.n g) ∧ ((some (g.v) = some (g.v) ∧ true = true) ∧ True) ∧ eqvV false (K12) (g.v) (g.v) = some (vb true) ∧ (eqvV false (KT.many [SK.int, SK.int, SK.int, SK.int]) (V.agg [vi (D4.d0 E), vi (D4.d1 E), vi (D4.d2 E), vi (D4.d3 E)]) (V.agg [vi (D4.d0 E), vi (D4.d1 E), vi (D4.d2 E), vi (D4.d3 E)]) = some (vb true) ∧ (eqvV false (KT.many [SK.bool, SK.bool, SK.bool, SK.bool]) (V.agg [vb f0, vb f1, vb f2, vb f3]) (V.agg [vb f0, vb f1, vb f2, vb f3]) = some (vb true) ∧ (True ∧ vb (wkS (Sp.a g) (Sp.m g) (Sp.l g) (Sp.n g) (Sp.r g) (Sp.e g) (Sp.p g) (Sp.x0 g) (Sp.x1 g) (Sp.x2 g) (Sp.x3 g) (Sp.c g) f0 f1 f2 f3) = vb true ∧ vb (nB (ltI 1 o)) = vb true ∧ vb (wkS 0 0 0 0 0 0 0 0 0 0 0 0 false false false false) = vb false ∧ Ex.ret = Ex.ret ∧ vb true = vb true))))))))))))) from
  andS hT ⟨(cI (h23)), h23w, rfl, rfl, ⟨congrArg (fun c => some (AObj.cells c false)) (rens_stV _ _).symm, trivial⟩, ⟨(congrArg (fun c => some (AObj.cells c false)) (rens_stV _ _)), ⟨(cM rfl (cI (h25))), h25w, rfl, rfl, ⟨congrArg (fun c => some (AObj.cells c false)) (rens_stV _ _).symm, trivial⟩, ⟨(congrArg (fun c => some (AObj.cells c false)) (rens_stV _ _)), ⟨rfl, (eqZ _), H, fun T0 hj0 => ⟨hj0.1, hj0.2.1, hj0.2.2.1, hj0.2.2.2.1, hj0.2.2.2.2.1, hj0.2.2.2.2.2.1, hj0.2.2.2.2.2.2.1, hj0.2.2.2.2.2.2.2.1, hj0.2.2.2.2.2.2.2.2.1, hj0.2.2.2.2.2.2.2.2.2.1, hj0.2.2.2.2.2.2.2.2.2.2.1, hj0.2.2.2.2.2.2.2.2.2.2.2.1, ⟨⟨congrArg some rfl, rfl⟩, trivial⟩, eqv_self rfl, eqv_self rfl, eqv_self rfl, trivial, (cb w1), (cb (congrArg Bool.not (ltF rfl rfl (mq5_y_o0 o ho o1 o2 w0)))), (cb w0), rfl, (by rfl)⟩⟩⟩⟩⟩⟩)
  (by kernel_rfl) Y hK
theorem mq5_z_o0 (o : Int) (ho : (1 : Int) < o) (o1 : (0 : Int) ≤ o) (o2 : o ≤ (10 : Int)) (w0 : wkS (0 : Int) (0 : Int) (0 : Int) (0 : Int) (0 : Int) (0 : Int) (0 : Int) (0 : Int) (0 : Int) (0 : Int) (0 : Int) (0 : Int) false false false false = false) : (1 : Int) < o := by omega
theorem mq5_z (Y : Ys Prop) (X : List V) (w q : Int) (tx : List Nat) (nn k : Nat) (ts : List (List Nat)) (g : Sp) (E : D4) (f0 f1 f2 f3 : Bool) (h23 : S23m (mq5_y_Qd q nn ts g E f0 f1 f2 f3)) (h23w : Con.wf (mq5_y_Qd q nn ts g E f0 f1 f2 f3) = true) (h25 : S25 (mq5_y_Qe q nn ts g E f0 f1 f2 f3)) (h25w : Con.wf (mq5_y_Qe q nn ts g E f0 f1 f2 f3) = true) (o : Int) (ho : 1 < o) (o1 : 0 ≤ o) (o2 : o ≤ 10) (H : mq5_y_Qf X w q tx nn k ts g E f0 f1 f2 f3 o) (e1 : eqvV false K12 g.v g.v = some (.bool true)) (e2 : eqvV false (.many [.int, .int, .int, .int]) (.agg [.int .i64 E.d0, .int .i64 E.d1, .int .i64 E.d2, .int .i64 E.d3]) (.agg [.int .i64 E.d0, .int .i64 E.d1, .int .i64 E.d2, .int .i64 E.d3]) = some (.bool true)) (e3 : eqvV false (.many [.bool, .bool, .bool, .bool]) (.agg [.bool f0, .bool f1, .bool f2, .bool f3]) (.agg [.bool f0, .bool f1, .bool f2, .bool f3]) = some (.bool true)) (w1 : wkS g.a g.m g.l g.n g.r g.e g.p g.x0 g.x1 g.x2 g.x3 g.c f0 f1 f2 f3 = false) (w0 : wkS 0 0 0 0 0 0 0 0 0 0 0 0 false false false false = false) (T : Slots) (hT : allS T (mq4_n_Qa w q tx nn k)) (K : Ex → Slots → Mem → Prop) (hK : ∀ T' m', Slots.get T' s8 = .bool true → K .ret T' m') :
   codeD (callD pA tbG la9m 5) Y 1 c9r5 T (memL 2 [(0, .cells X true), (1, .cells (stV ts) false)]) K :=
  codeRD_of_vc (mono9m) (fixS (mq4_n_Qa w q tx nn k) (.wait 2 (.con (mq5_y_Qd q nn ts g E f0 f1 f2 f3) [1] (.fixM 1 (oC (stV ts) false) (.wait 8 (.con (mq5_y_Qe q nn ts g E f0 f1 f2 f3) [1] (.fixM 1 (oC (stV ts) false) (.wait 24 (.inv2 (Ex.exit 2) (mq5_y_Qa X ts g E f0 f1 f2 f3) (mq5_y_Qb w q tx nn k) (mq5_y_Qa X ts g E f0 f1 f2 f3) (mq5_y_Qc w q tx nn k g o) (.fix s0 (V.slice 0 0 nn k 24) (.fix s1 (vi w) (.fix s2 (V.str tx) (.fix s3 (vi q) (.fix s8 (vb false) (.fix s9 (V.slice 1 0 nn nn 2) (.fix s11 (V.ptr 2 0) (.fix s12 (vi (Int.ofNat 0)) (.fix s13 (V.ptr 3 0) (.fix s14 (vb true) (.fix s15 (vi o) (.fix s16 (vi (Sp.n g)) (.wait 23 (.res (vb true) (.wait 5 (.res (vb true) (.wait 6 (.res (vb true) (.wait 6 (.fix s143 (vb false) (.fix s145 (vb false) (.wait 5 (.fix s150 (vb false) .nil))))))))))))))))))))))))))))))))
  (show (AndS T (mq4_n_Qa w q tx nn k) (cA (mq5_y_Qd q nn ts g E f0 f1 f2 f3) [1] ([V.slice 1 0 nn nn 2, vi q]) la9m 23 ((oR [1] (oC (stV ts) false) ∧ True) ∧ (eC (mq5_y_Qd q nn ts g E f0 f1 f2 f3) [1] 2 (stV ts) ∧ (cA (mq5_y_Qe q nn ts g E f0 f1 f2 f3) [1] ([V.slice 1 0 nn nn 2, vi q]) la9m 25 ((oR [1] (oC (stV ts) false) ∧ True) ∧ (eC (mq5_y_Qe q nn ts g E f0 f1 f2 f3) [1] 3 (stV ts) ∧ (rR (mq5_y_Qa X ts g E f0 f1 f2 f3) ∧ (EqZ [V.slice 0 0 nn k 24, vi w, V.str tx, vi q, vb false, V.slice 1 0 nn nn 2, V.ptr 2 0, vi 0, V.ptr 3 0, vb true, vi 0, vi ↑0]) ∧ (mq5_y_Qf X w q tx nn k ts g E f0 f1 f2 f3 o) ∧ (∀ (T0 : Slots), allS T0 (mq5_y_Qc w q tx nn k g o) → (Slots.get T0 s0 = V.slice 0 0 nn k 24 ∧ Slots.get T0 s1 = vi w ∧ Slots.get T0 s2 = V.str tx ∧ Slots.get T0 s3 = vi q ∧ Slots.get T0 s8 = vb false ∧ Slots.get T0 s9 = V.slice 1 0 nn nn 2 ∧ Slots.get T0 s11 = V.ptr 2 0 ∧ Slots.get T0 s12 = vi (Int.ofNat 0) ∧ Slots.get T0 s13 = V.ptr 3 0 ∧ Slots.get T0 s14 = vb true ∧ Slots.get T0 s15 = vi o ∧ Slots.get T0 s16 = vi (Sp.n g) ∧ ((some (g.v) = some (g.v) ∧ true = true) ∧ True) ∧ eqvV false (K12) (g.v) (g.v) = some (vb true) ∧ (eqvV false (KT.many [SK.int, SK.int, SK.int, SK.int]) (V.agg [vi (D4.d0 E), vi (D4.d1 E), vi (D4.d2 E), vi (D4.d3 E)]) (V.agg [vi (D4.d0 E), vi (D4.d1 E), vi (D4.d2 E), vi (D4.d3 E)]) = some (vb true) ∧ (eqvV false (KT.many [SK.bool, SK.bool, SK.bool, SK.bool]) (V.agg [vb f0, vb f1, vb f2, vb f3]) (V.agg [vb f0, vb f1, vb f2, vb f3]) = some (vb true) ∧ (True ∧ vb (wkS (Sp.a g) (Sp.m g) (Sp.l g) (Sp.n g) (Sp.r g) (Sp.e g) (Sp.p g) (Sp.x0 g) (Sp.x1 g) (Sp.x2 g) (Sp.x3 g) (Sp.c g) f0 f1 f2 f3) = vb false ∧ vb (nB (ltI 1 o)) = vb false ∧ vb (wkS 0 0 0 0 0 0 0 0 0 0 0 0 false false false false) = vb false ∧ Ex.ret = Ex.ret ∧ vb true = vb true))))))))))))) from
  andS hT ⟨(cI (h23)), h23w, rfl, rfl, ⟨congrArg (fun c => some (AObj.cells c false)) (rens_stV _ _).symm, trivial⟩, ⟨(congrArg (fun c => some (AObj.cells c false)) (rens_stV _ _)), ⟨(cM rfl (cI (h25))), h25w, rfl, rfl, ⟨congrArg (fun c => some (AObj.cells c false)) (rens_stV _ _).symm, trivial⟩, ⟨(congrArg (fun c => some (AObj.cells c false)) (rens_stV _ _)), ⟨rfl, (eqZ _), H, fun T0 hj0 => ⟨hj0.1, hj0.2.1, hj0.2.2.1, hj0.2.2.2.1, hj0.2.2.2.2.1, hj0.2.2.2.2.2.1, hj0.2.2.2.2.2.2.1, hj0.2.2.2.2.2.2.2.1, hj0.2.2.2.2.2.2.2.2.1, hj0.2.2.2.2.2.2.2.2.2.1, hj0.2.2.2.2.2.2.2.2.2.2.1, hj0.2.2.2.2.2.2.2.2.2.2.2.1, ⟨⟨congrArg some rfl, rfl⟩, trivial⟩, eqv_self rfl, eqv_self rfl, eqv_self rfl, trivial, (cb w1), (cb (congrArg Bool.not (ltT rfl rfl (mq5_z_o0 o ho o1 o2 w0)))), (cb w0), rfl, (by rfl)⟩⟩⟩⟩⟩⟩)
  (by kernel_rfl) Y hK
end Go.Proofs.Ythmbmcpjakbepaa
