/- What the document's sum of a text comes to. No condition. -/
import Derived.Test.YthmbmcpjakbepaaSumB
import Derived.Test.YthmbmcpjakbepaaAM36
namespace Go.Proofs.Ythmbmcpjakbepaa
open Go Go.AM
set_option maxRecDepth 100000
set_option maxHeartbeats 4000000
set_option linter.unusedVariables false
set_option linter.unusedSectionVars false
section
variable {x y : Opd} {T : Slots} {m : Mem} {a : Nat}
theorem x_quo2 (hx : ev T x = .int .u32 (a : Int)) (hy : ev T y = .int .u32 2) (ha : a < 4294967296) : qBin .quo x y T m = some (.int .u32 ((a / 2 : Nat) : Int)) := by
 simp only [qBin, binV, hx, hy, isShift, cond_false, kindEq_self, cond_true, binInt]
 rw [show eqI 2 0 = false from rfl, cond_false]
 exact congrArg some (congrArg (V.int .u32) (wE_u32 (tdivN (b := 2) rfl rfl) (by omega) (by omega)))
theorem x_rem2 (hx : ev T x = .int .u32 (a : Int)) (hy : ev T y = .int .u32 2) : qBin .rem x y T m = some (.int .u32 ((a % 2 : Nat) : Int)) := by
 simp only [qBin, binV, hx, hy, isShift, cond_false, kindEq_self, cond_true, binInt]
 rw [show eqI 2 0 = false from rfl, cond_false]
 exact congrArg some (congrArg (V.int .u32) (tmodN (b := 2) rfl rfl))
theorem x_xorF (hx : ev T x = .int .u32 (a : Int)) (hy : ev T y = .int .u32 4294967295) (ha : a < 4294967296) : qBin .xor x y T m = some (.int .u32 ((a ^^^ 4294967295 : Nat) : Int)) := x_xor (b := 4294967295) hx hy ha (by decide)
end
theorem rcrc_in (cfy : Ys Prop → CF Prop) (Y : Ys Prop) (v0 v1 v2 v4 v6 v7 v8 v9 v10 v11 v12 v13 v14 v15 v16 v17 v30 v31 : V) (r4 r5 r6 r7 : N8 V) (q1 q2 q3 q4 q5 q6 q7 : N8 (N8 V)) (m : Mem) (K : Ex → Slots → Mem → Prop) :
  ∀ (k i n fuel : Nat) (v18 v19 v20 v21 v22 v23 v24 v25 v26 v27 v28 v29 : V), i + k = 8 → k < fuel → n < 4294967296 →
   (∀ (v18 v19 v20 v21 v22 v23 v24 v25 v26 v27 v28 v29 : V), K (.exit 2) (T32 v0 v1 v2 (.int .u32 ((crcBits k n : Nat) : Int)) v4 (.int .i64 8) v6 v7 v8 v9 v10 v11 v12 v13 v14 v15 v16 v17 v18 v19 v20 v21 v22 v23 v24 v25 v26 v27 v28 v29 v30 v31 r4 r5 r6 r7 q1 q2 q3 q4 q5 q6 q7) m) → iter pA (code pA cfy Y c36l0) fuel (T32 v0 v1 v2 (.int .u32 ((n : Nat) : Int)) v4 (.int .i64 ((i : Nat) : Int)) v6 v7 v8 v9 v10 v11 v12 v13 v14 v15 v16 v17 v18 v19 v20 v21 v22 v23 v24 v25 v26 v27 v28 v29 v30 v31 r4 r5 r6 r7 q1 q2 q3 q4 q5 q6 q7) m K
 | 0, i, n, fuel + 1, v18, v19, v20, v21, v22, v23, v24, v25, v26, v27, v28, v29, hik, hf, hn, hK => by
  refine i_step ?_
  refine w_seq ?_
  repeat (first
   | with_reducible refine w_seq ?_
   | with_reducible refine w_ops ?_
   | with_reducible refine w_draw ?_
   | with_reducible refine w_block ?_
   | with_reducible refine w_skip ?_
   | with_reducible refine w_exit ?_
   | with_reducible refine w_ret ?_
   | with_reducible refine o_nil ?_
   | with_reducible refine k_ops ?_
   | with_reducible refine k_seq_n ?_
   | with_reducible refine k_seq_r ?_
   | with_reducible refine k_seq_e ?_
   | with_reducible refine k_block_n ?_
   | with_reducible refine k_block_r ?_
   | with_reducible refine k_block_e ?_
   | with_reducible refine k_iter_n ?_
   | with_reducible refine k_iter_e ?_
   | with_reducible refine k_iter_r ?_
   | with_reducible refine k_call ?_
   | ((with_reducible refine d_fin ?_); dsimp only)
   | ((with_reducible refine k_block_o ?hj ?_); case hj => rfl)
   | ((with_reducible refine is_c ?_); first | refine w_cond_t rfl ?_ | refine w_cond_f rfl ?_)
   | ((with_reducible apply o_quiet); (case hf => first | exact q_mov (e_int rfl) | exact q_mov (e_bool rfl) | exact q_mov (e_str rfl) | exact c_lss_t rfl rfl (by omega) | exact c_lss_f rfl rfl (by omega) | exact c_eql_t rfl rfl (by omega) | exact c_eql_f rfl rfl (by omega) | exact c_neq_t rfl rfl (by omega) | exact c_neq_f rfl rfl (by omega) | exact x_rem2 rfl rfl | exact x_quo2 rfl rfl (by assumption) | exact x_xorF rfl rfl (by assumption) | exact x_xorP rfl rfl (by assumption) | exact x_xor rfl rfl (by assumption) (by assumption) | exact x_xor rfl rfl (by omega) (by omega) | exact x_and1 rfl rfl (by assumption) | exact x_shr1 rfl rfl | exact x_not rfl (by assumption) | exact x_conv rfl (by assumption) | exact q_idxS rfl rfl (by assumption) | exact a_add rfl rfl rfl (by omega) (by omega) | exact q_lenS rfl | rfl))
   | ((with_reducible apply d_quiet); (case hf => first | exact q_mov (e_int rfl) | exact q_mov (e_bool rfl) | exact q_mov (e_str rfl) | exact c_lss_t rfl rfl (by omega) | exact c_lss_f rfl rfl (by omega) | exact c_eql_t rfl rfl (by omega) | exact c_eql_f rfl rfl (by omega) | exact c_neq_t rfl rfl (by omega) | exact c_neq_f rfl rfl (by omega) | exact x_rem2 rfl rfl | exact x_quo2 rfl rfl (by assumption) | exact x_xorF rfl rfl (by assumption) | exact x_xorP rfl rfl (by assumption) | exact x_xor rfl rfl (by assumption) (by assumption) | exact x_xor rfl rfl (by omega) (by omega) | exact x_and1 rfl rfl (by assumption) | exact x_shr1 rfl rfl | exact x_not rfl (by assumption) | exact x_conv rfl (by assumption) | exact q_idxS rfl rfl (by assumption) | exact a_add rfl rfl rfl (by omega) (by omega) | exact q_lenS rfl | rfl))
   | ((with_reducible refine is_b ?_); first | refine k_body_r rfl ?_ | refine k_body_n rfl ?_))
  have e : i = 8 := by omega
  subst e
  exact hK _ _ _ _ _ _ _ _ _ _ _ _
 | k + 1, i, n, fuel + 1, v18, v19, v20, v21, v22, v23, v24, v25, v26, v27, v28, v29, hik, hf, hn, hK => by
  refine i_step ?_
  refine w_seq ?_
  by_cases hb : n % 2 = 1
  ·have h2 : n / 2 < 4294967296 := by omega
   repeat (first
    | with_reducible refine w_seq ?_
    | with_reducible refine w_ops ?_
    | with_reducible refine w_draw ?_
    | with_reducible refine w_block ?_
    | with_reducible refine w_skip ?_
    | with_reducible refine w_exit ?_
    | with_reducible refine w_ret ?_
    | with_reducible refine o_nil ?_
    | with_reducible refine k_ops ?_
    | with_reducible refine k_seq_n ?_
    | with_reducible refine k_seq_r ?_
    | with_reducible refine k_seq_e ?_
    | with_reducible refine k_block_n ?_
    | with_reducible refine k_block_r ?_
    | with_reducible refine k_block_e ?_
    | with_reducible refine k_iter_n ?_
    | with_reducible refine k_iter_e ?_
    | with_reducible refine k_iter_r ?_
    | with_reducible refine k_call ?_
    | ((with_reducible refine d_fin ?_); dsimp only)
    | ((with_reducible refine k_block_o ?hj ?_); case hj => rfl)
    | ((with_reducible refine is_c ?_); first | refine w_cond_t rfl ?_ | refine w_cond_f rfl ?_)
    | ((with_reducible apply o_quiet); (case hf => first | exact q_mov (e_int rfl) | exact q_mov (e_bool rfl) | exact q_mov (e_str rfl) | exact c_lss_t rfl rfl (by omega) | exact c_lss_f rfl rfl (by omega) | exact c_eql_t rfl rfl (by omega) | exact c_eql_f rfl rfl (by omega) | exact c_neq_t rfl rfl (by omega) | exact c_neq_f rfl rfl (by omega) | exact x_rem2 rfl rfl | exact x_quo2 rfl rfl (by assumption) | exact x_xorF rfl rfl (by assumption) | exact x_xorP rfl rfl (by assumption) | exact x_xor rfl rfl (by assumption) (by assumption) | exact x_xor rfl rfl (by omega) (by omega) | exact x_and1 rfl rfl (by assumption) | exact x_shr1 rfl rfl | exact x_not rfl (by assumption) | exact x_conv rfl (by assumption) | exact q_idxS rfl rfl (by assumption) | exact a_add rfl rfl rfl (by omega) (by omega) | exact q_lenS rfl | rfl))
    | ((with_reducible apply d_quiet); (case hf => first | exact q_mov (e_int rfl) | exact q_mov (e_bool rfl) | exact q_mov (e_str rfl) | exact c_lss_t rfl rfl (by omega) | exact c_lss_f rfl rfl (by omega) | exact c_eql_t rfl rfl (by omega) | exact c_eql_f rfl rfl (by omega) | exact c_neq_t rfl rfl (by omega) | exact c_neq_f rfl rfl (by omega) | exact x_rem2 rfl rfl | exact x_quo2 rfl rfl (by assumption) | exact x_xorF rfl rfl (by assumption) | exact x_xorP rfl rfl (by assumption) | exact x_xor rfl rfl (by assumption) (by assumption) | exact x_xor rfl rfl (by omega) (by omega) | exact x_and1 rfl rfl (by assumption) | exact x_shr1 rfl rfl | exact x_not rfl (by assumption) | exact x_conv rfl (by assumption) | exact q_idxS rfl rfl (by assumption) | exact a_add rfl rfl rfl (by omega) (by omega) | exact q_lenS rfl | rfl))
    | ((with_reducible refine is_b ?_); first | refine k_body_r rfl ?_ | refine k_body_n rfl ?_))
   have e : crcBit n = n / 2 ^^^ 3988292384 := by unfold crcBit; rw [nbeqT hb]; rfl
   have := rcrc_in cfy Y v0 v1 v2 v4 v6 v7 v8 v9 v10 v11 v12 v13 v14 v15 v16 v17 v30 v31 r4 r5 r6 r7 q1 q2 q3 q4 q5 q6 q7 m K k (i + 1) (crcBit n) fuel
   rw [e] at this
   refine this _ _ _ _ _ _ _ _ _ _ _ _ (by omega) (by omega) (by rw [← e]; exact crcBit_lt hn) ?_
   rw [← e]
   exact hK
  ·have h2 : n / 2 < 4294967296 := by omega
   repeat (first
    | with_reducible refine w_seq ?_
    | with_reducible refine w_ops ?_
    | with_reducible refine w_draw ?_
    | with_reducible refine w_block ?_
    | with_reducible refine w_skip ?_
    | with_reducible refine w_exit ?_
    | with_reducible refine w_ret ?_
    | with_reducible refine o_nil ?_
    | with_reducible refine k_ops ?_
    | with_reducible refine k_seq_n ?_
    | with_reducible refine k_seq_r ?_
    | with_reducible refine k_seq_e ?_
    | with_reducible refine k_block_n ?_
    | with_reducible refine k_block_r ?_
    | with_reducible refine k_block_e ?_
    | with_reducible refine k_iter_n ?_
    | with_reducible refine k_iter_e ?_
    | with_reducible refine k_iter_r ?_
    | with_reducible refine k_call ?_
    | ((with_reducible refine d_fin ?_); dsimp only)
    | ((with_reducible refine k_block_o ?hj ?_); case hj => rfl)
    | ((with_reducible refine is_c ?_); first | refine w_cond_t rfl ?_ | refine w_cond_f rfl ?_)
    | ((with_reducible apply o_quiet); (case hf => first | exact q_mov (e_int rfl) | exact q_mov (e_bool rfl) | exact q_mov (e_str rfl) | exact c_lss_t rfl rfl (by omega) | exact c_lss_f rfl rfl (by omega) | exact c_eql_t rfl rfl (by omega) | exact c_eql_f rfl rfl (by omega) | exact c_neq_t rfl rfl (by omega) | exact c_neq_f rfl rfl (by omega) | exact x_rem2 rfl rfl | exact x_quo2 rfl rfl (by assumption) | exact x_xorF rfl rfl (by assumption) | exact x_xorP rfl rfl (by assumption) | exact x_xor rfl rfl (by assumption) (by assumption) | exact x_xor rfl rfl (by omega) (by omega) | exact x_and1 rfl rfl (by assumption) | exact x_shr1 rfl rfl | exact x_not rfl (by assumption) | exact x_conv rfl (by assumption) | exact q_idxS rfl rfl (by assumption) | exact a_add rfl rfl rfl (by omega) (by omega) | exact q_lenS rfl | rfl))
    | ((with_reducible apply d_quiet); (case hf => first | exact q_mov (e_int rfl) | exact q_mov (e_bool rfl) | exact q_mov (e_str rfl) | exact c_lss_t rfl rfl (by omega) | exact c_lss_f rfl rfl (by omega) | exact c_eql_t rfl rfl (by omega) | exact c_eql_f rfl rfl (by omega) | exact c_neq_t rfl rfl (by omega) | exact c_neq_f rfl rfl (by omega) | exact x_rem2 rfl rfl | exact x_quo2 rfl rfl (by assumption) | exact x_xorF rfl rfl (by assumption) | exact x_xorP rfl rfl (by assumption) | exact x_xor rfl rfl (by assumption) (by assumption) | exact x_xor rfl rfl (by omega) (by omega) | exact x_and1 rfl rfl (by assumption) | exact x_shr1 rfl rfl | exact x_not rfl (by assumption) | exact x_conv rfl (by assumption) | exact q_idxS rfl rfl (by assumption) | exact a_add rfl rfl rfl (by omega) (by omega) | exact q_lenS rfl | rfl))
    | ((with_reducible refine is_b ?_); first | refine k_body_r rfl ?_ | refine k_body_n rfl ?_))
   have e : crcBit n = n / 2 := by unfold crcBit; rw [nbeqF hb]; rfl
   have := rcrc_in cfy Y v0 v1 v2 v4 v6 v7 v8 v9 v10 v11 v12 v13 v14 v15 v16 v17 v30 v31 r4 r5 r6 r7 q1 q2 q3 q4 q5 q6 q7 m K k (i + 1) (crcBit n) fuel
   rw [e] at this
   refine this _ _ _ _ _ _ _ _ _ _ _ _ (by omega) (by omega) (by rw [← e]; exact crcBit_lt hn) ?_
   rw [← e]
   exact hK
theorem rcrc_out (cfy : Ys Prop → CF Prop) (Y : Ys Prop) (s : List Nat) (hs : ∀ b ∈ s, b < 256) (hlen : s.length < 4611686018427387904) (v1 v2 v30 v31 : V) (r4 r5 r6 r7 : N8 V) (q1 q2 q3 q4 q5 q6 q7 : N8 (N8 V)) (m : Mem) (K : Ex → Slots → Mem → Prop) :
  ∀ (k i n fuel : Nat) (v5 v6 v7 v8 v9 v10 v11 v12 v13 v14 v15 v16 v17 v18 v19 v20 v21 v22 v23 v24 v25 v26 v27 v28 v29 : V), i + k = s.length → k < fuel → n < 4294967296 →
   (∀ (v5 v6 v7 v8 v9 v10 v11 v12 v13 v14 v15 v16 v17 v18 v19 v20 v21 v22 v23 v24 v25 v26 v27 v28 v29 : V), K (.exit 0) (T32 (.str s) v1 v2 (.int .u32 ((crcL n (s.drop i) : Nat) : Int)) (.int .i64 ((s.length : Nat) : Int)) v5 v6 v7 v8 v9 v10 v11 v12 v13 v14 v15 v16 v17 v18 v19 v20 v21 v22 v23 v24 v25 v26 v27 v28 v29 v30 v31 r4 r5 r6 r7 q1 q2 q3 q4 q5 q6 q7) m) → iter pA (code pA cfy Y c36l1) fuel (T32 (.str s) v1 v2 (.int .u32 ((n : Nat) : Int)) (.int .i64 ((i : Nat) : Int)) v5 v6 v7 v8 v9 v10 v11 v12 v13 v14 v15 v16 v17 v18 v19 v20 v21 v22 v23 v24 v25 v26 v27 v28 v29 v30 v31 r4 r5 r6 r7 q1 q2 q3 q4 q5 q6 q7) m K
 | 0, i, n, fuel + 1, v5, v6, v7, v8, v9, v10, v11, v12, v13, v14, v15, v16, v17, v18, v19, v20, v21, v22, v23, v24, v25, v26, v27, v28, v29, hik, hf, hn, hK => by
  refine i_step ?_
  refine w_seq ?_
  repeat (first
   | with_reducible refine w_seq ?_
   | with_reducible refine w_ops ?_
   | with_reducible refine w_draw ?_
   | with_reducible refine w_block ?_
   | with_reducible refine w_skip ?_
   | with_reducible refine w_exit ?_
   | with_reducible refine w_ret ?_
   | with_reducible refine o_nil ?_
   | with_reducible refine k_ops ?_
   | with_reducible refine k_seq_n ?_
   | with_reducible refine k_seq_r ?_
   | with_reducible refine k_seq_e ?_
   | with_reducible refine k_block_n ?_
   | with_reducible refine k_block_r ?_
   | with_reducible refine k_block_e ?_
   | with_reducible refine k_iter_n ?_
   | with_reducible refine k_iter_e ?_
   | with_reducible refine k_iter_r ?_
   | with_reducible refine k_call ?_
   | ((with_reducible refine d_fin ?_); dsimp only)
   | ((with_reducible refine k_block_o ?hj ?_); case hj => rfl)
   | ((with_reducible refine is_c ?_); first | refine w_cond_t rfl ?_ | refine w_cond_f rfl ?_)
   | ((with_reducible apply o_quiet); (case hf => first | exact q_mov (e_int rfl) | exact q_mov (e_bool rfl) | exact q_mov (e_str rfl) | exact c_lss_t rfl rfl (by omega) | exact c_lss_f rfl rfl (by omega) | exact c_eql_t rfl rfl (by omega) | exact c_eql_f rfl rfl (by omega) | exact c_neq_t rfl rfl (by omega) | exact c_neq_f rfl rfl (by omega) | exact x_rem2 rfl rfl | exact x_quo2 rfl rfl (by assumption) | exact x_xorF rfl rfl (by assumption) | exact x_xorP rfl rfl (by assumption) | exact x_xor rfl rfl (by assumption) (by assumption) | exact x_xor rfl rfl (by omega) (by omega) | exact x_and1 rfl rfl (by assumption) | exact x_shr1 rfl rfl | exact x_not rfl (by assumption) | exact x_conv rfl (by assumption) | exact q_idxS rfl rfl (by assumption) | exact a_add rfl rfl rfl (by omega) (by omega) | exact q_lenS rfl | rfl))
   | ((with_reducible apply d_quiet); (case hf => first | exact q_mov (e_int rfl) | exact q_mov (e_bool rfl) | exact q_mov (e_str rfl) | exact c_lss_t rfl rfl (by omega) | exact c_lss_f rfl rfl (by omega) | exact c_eql_t rfl rfl (by omega) | exact c_eql_f rfl rfl (by omega) | exact c_neq_t rfl rfl (by omega) | exact c_neq_f rfl rfl (by omega) | exact x_rem2 rfl rfl | exact x_quo2 rfl rfl (by assumption) | exact x_xorF rfl rfl (by assumption) | exact x_xorP rfl rfl (by assumption) | exact x_xor rfl rfl (by assumption) (by assumption) | exact x_xor rfl rfl (by omega) (by omega) | exact x_and1 rfl rfl (by assumption) | exact x_shr1 rfl rfl | exact x_not rfl (by assumption) | exact x_conv rfl (by assumption) | exact q_idxS rfl rfl (by assumption) | exact a_add rfl rfl rfl (by omega) (by omega) | exact q_lenS rfl | rfl))
   | ((with_reducible refine is_b ?_); first | refine k_body_r rfl ?_ | refine k_body_n rfl ?_))
  have e : s.drop i = [] := List.drop_eq_nil_of_le (by omega)
  have e2 : i = s.length := by omega
  rw [e] at hK
  subst e2
  exact hK _ _ _ _ _ _ _ _ _ _ _ _ _ _ _ _ _ _ _ _ _ _ _ _ _
 | k + 1, i, n, fuel + 1, v5, v6, v7, v8, v9, v10, v11, v12, v13, v14, v15, v16, v17, v18, v19, v20, v21, v22, v23, v24, v25, v26, v27, v28, v29, hik, hf, hn, hK => by
  have hlt : i < s.length := by omega
  have hb : s[i]? = some s[i] := List.getElem?_eq_getElem hlt
  have hb2 : s[i] < 256 := hs _ (List.getElem_mem hlt)
  have hb3 : s[i] < 4294967296 := by omega
  have e : s.drop i = s[i] :: s.drop (i + 1) := List.drop_eq_getElem_cons hlt
  rw [e] at hK
  generalize s[i] = b at hb hb2 hb3 hK
  refine i_step ?_
  refine w_seq ?_
  clear e
  repeat (first
   | with_reducible refine w_seq ?_
   | with_reducible refine w_ops ?_
   | with_reducible refine w_draw ?_
   | with_reducible refine w_block ?_
   | with_reducible refine w_skip ?_
   | with_reducible refine w_exit ?_
   | with_reducible refine w_ret ?_
   | with_reducible refine o_nil ?_
   | with_reducible refine k_ops ?_
   | with_reducible refine k_seq_n ?_
   | with_reducible refine k_seq_r ?_
   | with_reducible refine k_seq_e ?_
   | with_reducible refine k_block_n ?_
   | with_reducible refine k_block_r ?_
   | with_reducible refine k_block_e ?_
   | with_reducible refine k_iter_n ?_
   | with_reducible refine k_iter_e ?_
   | with_reducible refine k_iter_r ?_
   | with_reducible refine k_call ?_
   | ((with_reducible refine d_fin ?_); dsimp only)
   | ((with_reducible refine k_block_o ?hj ?_); case hj => rfl)
   | ((with_reducible refine is_c ?_); first | refine w_cond_t rfl ?_ | refine w_cond_f rfl ?_)
   | ((with_reducible apply o_quiet); (case hf => first | exact q_mov (e_int rfl) | exact q_mov (e_bool rfl) | exact q_mov (e_str rfl) | exact c_lss_t rfl rfl (by omega) | exact c_lss_f rfl rfl (by omega) | exact c_eql_t rfl rfl (by omega) | exact c_eql_f rfl rfl (by omega) | exact c_neq_t rfl rfl (by omega) | exact c_neq_f rfl rfl (by omega) | exact x_rem2 rfl rfl | exact x_quo2 rfl rfl (by assumption) | exact x_xorF rfl rfl (by assumption) | exact x_xorP rfl rfl (by assumption) | exact x_xor rfl rfl (by assumption) (by assumption) | exact x_xor rfl rfl (by omega) (by omega) | exact x_and1 rfl rfl (by assumption) | exact x_shr1 rfl rfl | exact x_not rfl (by assumption) | exact x_conv rfl (by assumption) | exact q_idxS rfl rfl (by assumption) | exact a_add rfl rfl rfl (by omega) (by omega) | exact q_lenS rfl | rfl))
   | ((with_reducible apply d_quiet); (case hf => first | exact q_mov (e_int rfl) | exact q_mov (e_bool rfl) | exact q_mov (e_str rfl) | exact c_lss_t rfl rfl (by omega) | exact c_lss_f rfl rfl (by omega) | exact c_eql_t rfl rfl (by omega) | exact c_eql_f rfl rfl (by omega) | exact c_neq_t rfl rfl (by omega) | exact c_neq_f rfl rfl (by omega) | exact x_rem2 rfl rfl | exact x_quo2 rfl rfl (by assumption) | exact x_xorF rfl rfl (by assumption) | exact x_xorP rfl rfl (by assumption) | exact x_xor rfl rfl (by assumption) (by assumption) | exact x_xor rfl rfl (by omega) (by omega) | exact x_and1 rfl rfl (by assumption) | exact x_shr1 rfl rfl | exact x_not rfl (by assumption) | exact x_conv rfl (by assumption) | exact q_idxS rfl rfl (by assumption) | exact a_add rfl rfl rfl (by omega) (by omega) | exact q_lenS rfl | rfl))
   | ((with_reducible refine is_b ?_); first | refine k_body_r rfl ?_ | refine k_body_n rfl ?_))
  have hx : n ^^^ b < 4294967296 := Nat.xor_lt_two_pow (n := 32) hn hb3
  refine rcrc_in cfy Y _ _ _ _ _ _ _ _ _ _ _ _ _ _ _ _ _ _ _ _ _ _ _ _ _ _ _ _ _ _ _ 8 0 (n ^^^ b) rounds _ _ _ _ _ _ _ _ _ _ _ _ rfl (by decide) hx ?_
  intro v18 v19 v20 v21 v22 v23 v24 v25 v26 v27 v28 v29
  repeat (first
   | with_reducible refine w_seq ?_
   | with_reducible refine w_ops ?_
   | with_reducible refine w_draw ?_
   | with_reducible refine w_block ?_
   | with_reducible refine w_skip ?_
   | with_reducible refine w_exit ?_
   | with_reducible refine w_ret ?_
   | with_reducible refine o_nil ?_
   | with_reducible refine k_ops ?_
   | with_reducible refine k_seq_n ?_
   | with_reducible refine k_seq_r ?_
   | with_reducible refine k_seq_e ?_
   | with_reducible refine k_block_n ?_
   | with_reducible refine k_block_r ?_
   | with_reducible refine k_block_e ?_
   | with_reducible refine k_iter_n ?_
   | with_reducible refine k_iter_e ?_
   | with_reducible refine k_iter_r ?_
   | with_reducible refine k_call ?_
   | ((with_reducible refine d_fin ?_); dsimp only)
   | ((with_reducible refine k_block_o ?hj ?_); case hj => rfl)
   | ((with_reducible refine is_c ?_); first | refine w_cond_t rfl ?_ | refine w_cond_f rfl ?_)
   | ((with_reducible apply o_quiet); (case hf => first | exact q_mov (e_int rfl) | exact q_mov (e_bool rfl) | exact q_mov (e_str rfl) | exact c_lss_t rfl rfl (by omega) | exact c_lss_f rfl rfl (by omega) | exact c_eql_t rfl rfl (by omega) | exact c_eql_f rfl rfl (by omega) | exact c_neq_t rfl rfl (by omega) | exact c_neq_f rfl rfl (by omega) | exact x_rem2 rfl rfl | exact x_quo2 rfl rfl (by assumption) | exact x_xorF rfl rfl (by assumption) | exact x_xorP rfl rfl (by assumption) | exact x_xor rfl rfl (by assumption) (by assumption) | exact x_xor rfl rfl (by omega) (by omega) | exact x_and1 rfl rfl (by assumption) | exact x_shr1 rfl rfl | exact x_not rfl (by assumption) | exact x_conv rfl (by assumption) | exact q_idxS rfl rfl (by assumption) | exact a_add rfl rfl rfl (by omega) (by omega) | exact q_lenS rfl | rfl))
   | ((with_reducible apply d_quiet); (case hf => first | exact q_mov (e_int rfl) | exact q_mov (e_bool rfl) | exact q_mov (e_str rfl) | exact c_lss_t rfl rfl (by omega) | exact c_lss_f rfl rfl (by omega) | exact c_eql_t rfl rfl (by omega) | exact c_eql_f rfl rfl (by omega) | exact c_neq_t rfl rfl (by omega) | exact c_neq_f rfl rfl (by omega) | exact x_rem2 rfl rfl | exact x_quo2 rfl rfl (by assumption) | exact x_xorF rfl rfl (by assumption) | exact x_xorP rfl rfl (by assumption) | exact x_xor rfl rfl (by assumption) (by assumption) | exact x_xor rfl rfl (by omega) (by omega) | exact x_and1 rfl rfl (by assumption) | exact x_shr1 rfl rfl | exact x_not rfl (by assumption) | exact x_conv rfl (by assumption) | exact q_idxS rfl rfl (by assumption) | exact a_add rfl rfl rfl (by omega) (by omega) | exact q_lenS rfl | rfl))
   | ((with_reducible refine is_b ?_); first | refine k_body_r rfl ?_ | refine k_body_n rfl ?_))
  refine rcrc_out cfy Y s hs hlen _ _ _ _ _ _ _ _ _ _ _ _ _ _ _ _ K k (i + 1) (crcBits 8 (n ^^^ b)) fuel _ _ _ _ _ _ _ _ _ _ _ _ _ _ _ _ _ _ _ _ _ _ _ _ _ (by omega) (by omega) (crcBits_lt 8 hx) ?_
  exact hK
theorem rcrc_walk (cfy : Ys Prop → CF Prop) (Y : Ys Prop) (s : List Nat) (hs : ∀ b ∈ s, b < 256) (hlen : s.length < 4611686018427387904) (hlen2 : s.length < 1099511627776) (m : Mem) (K : V → Mem → Prop) (hK : K (.int .u32 ((sumOf s : Nat) : Int)) m) : body1 pA cfy Y c36 [.str s] m K := by
 refine w_body rfl ?_
 refine w_seq ?_
 repeat (first
  | with_reducible refine w_seq ?_
  | with_reducible refine w_ops ?_
  | with_reducible refine w_draw ?_
  | with_reducible refine w_block ?_
  | with_reducible refine w_skip ?_
  | with_reducible refine w_exit ?_
  | with_reducible refine w_ret ?_
  | with_reducible refine o_nil ?_
  | with_reducible refine k_ops ?_
  | with_reducible refine k_seq_n ?_
  | with_reducible refine k_seq_r ?_
  | with_reducible refine k_seq_e ?_
  | with_reducible refine k_block_n ?_
  | with_reducible refine k_block_r ?_
  | with_reducible refine k_block_e ?_
  | with_reducible refine k_iter_n ?_
  | with_reducible refine k_iter_e ?_
  | with_reducible refine k_iter_r ?_
  | with_reducible refine k_call ?_
  | ((with_reducible refine d_fin ?_); dsimp only)
  | ((with_reducible refine k_block_o ?hj ?_); case hj => rfl)
  | ((with_reducible refine is_c ?_); first | refine w_cond_t rfl ?_ | refine w_cond_f rfl ?_)
  | ((with_reducible apply o_quiet); (case hf => first | exact q_mov (e_int rfl) | exact q_mov (e_bool rfl) | exact q_mov (e_str rfl) | exact c_lss_t rfl rfl (by omega) | exact c_lss_f rfl rfl (by omega) | exact c_eql_t rfl rfl (by omega) | exact c_eql_f rfl rfl (by omega) | exact c_neq_t rfl rfl (by omega) | exact c_neq_f rfl rfl (by omega) | exact x_rem2 rfl rfl | exact x_quo2 rfl rfl (by assumption) | exact x_xorF rfl rfl (by assumption) | exact x_xorP rfl rfl (by assumption) | exact x_xor rfl rfl (by assumption) (by assumption) | exact x_xor rfl rfl (by omega) (by omega) | exact x_and1 rfl rfl (by assumption) | exact x_shr1 rfl rfl | exact x_not rfl (by assumption) | exact x_conv rfl (by assumption) | exact q_idxS rfl rfl (by assumption) | exact a_add rfl rfl rfl (by omega) (by omega) | exact q_lenS rfl | rfl))
  | ((with_reducible apply d_quiet); (case hf => first | exact q_mov (e_int rfl) | exact q_mov (e_bool rfl) | exact q_mov (e_str rfl) | exact c_lss_t rfl rfl (by omega) | exact c_lss_f rfl rfl (by omega) | exact c_eql_t rfl rfl (by omega) | exact c_eql_f rfl rfl (by omega) | exact c_neq_t rfl rfl (by omega) | exact c_neq_f rfl rfl (by omega) | exact x_rem2 rfl rfl | exact x_quo2 rfl rfl (by assumption) | exact x_xorF rfl rfl (by assumption) | exact x_xorP rfl rfl (by assumption) | exact x_xor rfl rfl (by assumption) (by assumption) | exact x_xor rfl rfl (by omega) (by omega) | exact x_and1 rfl rfl (by assumption) | exact x_shr1 rfl rfl | exact x_not rfl (by assumption) | exact x_conv rfl (by assumption) | exact q_idxS rfl rfl (by assumption) | exact a_add rfl rfl rfl (by omega) (by omega) | exact q_lenS rfl | rfl))
  | ((with_reducible refine is_b ?_); first | refine k_body_r rfl ?_ | refine k_body_n rfl ?_))
 refine rcrc_out cfy Y s hs hlen _ _ _ _ _ _ _ _ _ _ _ _ _ _ _ _ _ s.length 0 4294967295 rounds _ _ _ _ _ _ _ _ _ _ _ _ _ _ _ _ _ _ _ _ _ _ _ _ _ (by omega) (Nat.lt_of_lt_of_le (Nat.lt_of_lt_of_le hlen2 (Nat.le_refl _)) (by decide)) (by decide) ?_
 intro v5 v6 v7 v8 v9 v10 v11 v12 v13 v14 v15 v16 v17 v18 v19 v20 v21 v22 v23 v24 v25 v26 v27 v28 v29
 have hc : crcL 4294967295 (List.drop 0 s) < 4294967296 := crcL_lt s (n := 4294967295) (by decide) hs
 have hx : sumOf s = crcL 4294967295 (List.drop 0 s) ^^^ 4294967295 := Nat.xor_comm _ _
 rw [hx] at hK
 repeat (first
  | with_reducible refine w_seq ?_
  | with_reducible refine w_ops ?_
  | with_reducible refine w_draw ?_
  | with_reducible refine w_block ?_
  | with_reducible refine w_skip ?_
  | with_reducible refine w_exit ?_
  | with_reducible refine w_ret ?_
  | with_reducible refine o_nil ?_
  | with_reducible refine k_ops ?_
  | with_reducible refine k_seq_n ?_
  | with_reducible refine k_seq_r ?_
  | with_reducible refine k_seq_e ?_
  | with_reducible refine k_block_n ?_
  | with_reducible refine k_block_r ?_
  | with_reducible refine k_block_e ?_
  | with_reducible refine k_iter_n ?_
  | with_reducible refine k_iter_e ?_
  | with_reducible refine k_iter_r ?_
  | with_reducible refine k_call ?_
  | ((with_reducible refine d_fin ?_); dsimp only)
  | ((with_reducible refine k_block_o ?hj ?_); case hj => rfl)
  | ((with_reducible refine is_c ?_); first | refine w_cond_t rfl ?_ | refine w_cond_f rfl ?_)
  | ((with_reducible apply o_quiet); (case hf => first | exact q_mov (e_int rfl) | exact q_mov (e_bool rfl) | exact q_mov (e_str rfl) | exact c_lss_t rfl rfl (by omega) | exact c_lss_f rfl rfl (by omega) | exact c_eql_t rfl rfl (by omega) | exact c_eql_f rfl rfl (by omega) | exact c_neq_t rfl rfl (by omega) | exact c_neq_f rfl rfl (by omega) | exact x_rem2 rfl rfl | exact x_quo2 rfl rfl (by assumption) | exact x_xorF rfl rfl (by assumption) | exact x_xorP rfl rfl (by assumption) | exact x_xor rfl rfl (by assumption) (by assumption) | exact x_xor rfl rfl (by omega) (by omega) | exact x_and1 rfl rfl (by assumption) | exact x_shr1 rfl rfl | exact x_not rfl (by assumption) | exact x_conv rfl (by assumption) | exact q_idxS rfl rfl (by assumption) | exact a_add rfl rfl rfl (by omega) (by omega) | exact q_lenS rfl | rfl))
  | ((with_reducible apply d_quiet); (case hf => first | exact q_mov (e_int rfl) | exact q_mov (e_bool rfl) | exact q_mov (e_str rfl) | exact c_lss_t rfl rfl (by omega) | exact c_lss_f rfl rfl (by omega) | exact c_eql_t rfl rfl (by omega) | exact c_eql_f rfl rfl (by omega) | exact c_neq_t rfl rfl (by omega) | exact c_neq_f rfl rfl (by omega) | exact x_rem2 rfl rfl | exact x_quo2 rfl rfl (by assumption) | exact x_xorF rfl rfl (by assumption) | exact x_xorP rfl rfl (by assumption) | exact x_xor rfl rfl (by assumption) (by assumption) | exact x_xor rfl rfl (by omega) (by omega) | exact x_and1 rfl rfl (by assumption) | exact x_shr1 rfl rfl | exact x_not rfl (by assumption) | exact x_conv rfl (by assumption) | exact q_idxS rfl rfl (by assumption) | exact a_add rfl rfl rfl (by omega) (by omega) | exact q_lenS rfl | rfl))
  | ((with_reducible refine is_b ?_); first | refine k_body_r rfl ?_ | refine k_body_n rfl ?_))
 exact hK
end Go.Proofs.Ythmbmcpjakbepaa
