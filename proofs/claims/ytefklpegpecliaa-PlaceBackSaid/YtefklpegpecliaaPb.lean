/- Walks through package place: part Pb. No condition. -/
import Derived.Test.YtefklpegpecliaaPa
namespace Go.Proofs.Ytefklpegpecliaa
open Go Go.AM
set_option maxRecDepth 100000
set_option maxHeartbeats 0
set_option linter.unusedVariables false

theorem size_n (Y : Ys Prop) (l m r : Int) (K : V → Mem → Prop) (h : rightB l m r = false) (s1 : S10 [geo l m r] = some (.bool false)) (hK : ∀ mm, K (.int .i64 0) mm) :
   body1 pA (callD pA tab0 last1 5) Y c13 [geo l m r] ⟨0, .leaf⟩ K := by
  refine w_body rfl ?_
  refine w_seq ?_
  (with_reducible refine w_ops ?_)
  (with_reducible apply o_alloc); (case hf => exact b_agg rfl)
  (with_reducible apply o_quiet); (case hf => exact q_mov (e_int rfl))
  (with_reducible refine o_nil ?_)
  (with_reducible refine k_ops ?_)
  (with_reducible refine k_seq_n ?_)
  (with_reducible refine w_seq ?_)
  (with_reducible refine w_seq ?_)
  (with_reducible refine w_ops ?_)
  (with_reducible apply o_quiet); (case hf => apply q_loadN; (case hx => exact e_ptr rfl); (case hm => exact g_hit rfl); (case hr => exact rfl))
  (with_reducible apply o_call); (case hf => exact e_func rfl); (case ha => apply evs_cons; (case hv => exact e_agg rfl); exact evs_nil)
  (with_reducible refine is_d ?_); refine go_last rfl ?_
  (with_reducible apply w_fn_hit); (case hS => assumption)
  (with_reducible refine k_call ?_)
  (with_reducible apply o_quiet); (case hf => exact q_not rfl rfl)
  (with_reducible refine o_nil ?_)
  (with_reducible refine k_ops ?_)
  (with_reducible refine k_seq_n ?_)
  (with_reducible refine is_c ?_); refine w_cond_t rfl ?_
  (with_reducible refine w_seq ?_)
  (with_reducible refine w_ops ?_)
  (with_reducible apply o_quiet); (case hf => exact q_mov (e_int rfl))
  (with_reducible refine o_nil ?_)
  (with_reducible refine k_ops ?_)
  (with_reducible refine k_seq_n ?_)
  (with_reducible refine w_ret ?_)
  (with_reducible refine k_seq_r ?_)
  (with_reducible refine is_b ?_); refine k_body_r rfl ?_
  exact hK _

theorem size_y2 (Y : Ys Prop) (r : Int) (K : V → Mem → Prop) (h1 : 2 ≤ r) (h2 : r ≤ 64) (s1 : S10 [geo 1 2 r] = some (.bool true)) (hK : ∀ mm, K (.int .i64 (r * (2 - 1))) mm) :
   body1 pA (callD pA tab0 last1 5) Y c13 [geo 1 2 r] ⟨0, .leaf⟩ K := by
  refine w_body rfl ?_
  refine w_seq ?_
  (with_reducible refine w_ops ?_)
  (with_reducible apply o_alloc); (case hf => exact b_agg rfl)
  (with_reducible apply o_quiet); (case hf => exact q_mov (e_int rfl))
  (with_reducible refine o_nil ?_)
  (with_reducible refine k_ops ?_)
  (with_reducible refine k_seq_n ?_)
  (with_reducible refine w_seq ?_)
  (with_reducible refine w_seq ?_)
  (with_reducible refine w_ops ?_)
  (with_reducible apply o_quiet); (case hf => apply q_loadN; (case hx => exact e_ptr rfl); (case hm => exact g_hit rfl); (case hr => exact rfl))
  (with_reducible apply o_call); (case hf => exact e_func rfl); (case ha => apply evs_cons; (case hv => exact e_agg rfl); exact evs_nil)
  (with_reducible refine is_d ?_); refine go_last rfl ?_
  (with_reducible apply w_fn_hit); (case hS => assumption)
  (with_reducible refine k_call ?_)
  (with_reducible apply o_quiet); (case hf => exact q_not rfl rfl)
  (with_reducible refine o_nil ?_)
  (with_reducible refine k_ops ?_)
  (with_reducible refine k_seq_n ?_)
  (with_reducible refine is_c ?_); refine w_cond_f rfl ?_
  (with_reducible refine w_skip ?_)
  (with_reducible refine k_seq_n ?_)
  (with_reducible refine w_seq ?_)
  (with_reducible refine w_ops ?_)
  (with_reducible apply o_quiet); (case hf => exact q_faddr rfl)
  (with_reducible apply o_quiet); (case hf => apply q_load1; (case hx => exact e_ptr rfl); (case hm => exact g_hit rfl); (case hv => exact rfl))
  (with_reducible apply o_quiet); (case hf => exact q_faddr rfl)
  (with_reducible apply o_quiet); (case hf => apply q_load1; (case hx => exact e_ptr rfl); (case hm => exact g_hit rfl); (case hv => exact rfl))
  (with_reducible apply o_quiet); (case hf => exact a_sub rfl rfl rfl (by omega) (by omega))
  (with_reducible apply o_quiet); (case hf => exact a_mul rfl rfl rfl (by omega) (by omega))
  (with_reducible apply o_quiet); (case hf => exact q_mov (e_int rfl))
  (with_reducible refine o_nil ?_)
  (with_reducible refine k_ops ?_)
  (with_reducible refine k_seq_n ?_)
  (with_reducible refine w_ret ?_)
  (with_reducible refine is_b ?_); refine k_body_r rfl ?_
  exact hK _

theorem size_y3 (Y : Ys Prop) (r : Int) (K : V → Mem → Prop) (h1 : 2 ≤ r) (h2 : r ≤ 64) (s1 : S10 [geo 5 3 r] = some (.bool true)) (hK : ∀ mm, K (.int .i64 (r * (3 - 1))) mm) :
   body1 pA (callD pA tab0 last1 5) Y c13 [geo 5 3 r] ⟨0, .leaf⟩ K := by
  refine w_body rfl ?_
  refine w_seq ?_
  (with_reducible refine w_ops ?_)
  (with_reducible apply o_alloc); (case hf => exact b_agg rfl)
  (with_reducible apply o_quiet); (case hf => exact q_mov (e_int rfl))
  (with_reducible refine o_nil ?_)
  (with_reducible refine k_ops ?_)
  (with_reducible refine k_seq_n ?_)
  (with_reducible refine w_seq ?_)
  (with_reducible refine w_seq ?_)
  (with_reducible refine w_ops ?_)
  (with_reducible apply o_quiet); (case hf => apply q_loadN; (case hx => exact e_ptr rfl); (case hm => exact g_hit rfl); (case hr => exact rfl))
  (with_reducible apply o_call); (case hf => exact e_func rfl); (case ha => apply evs_cons; (case hv => exact e_agg rfl); exact evs_nil)
  (with_reducible refine is_d ?_); refine go_last rfl ?_
  (with_reducible apply w_fn_hit); (case hS => assumption)
  (with_reducible refine k_call ?_)
  (with_reducible apply o_quiet); (case hf => exact q_not rfl rfl)
  (with_reducible refine o_nil ?_)
  (with_reducible refine k_ops ?_)
  (with_reducible refine k_seq_n ?_)
  (with_reducible refine is_c ?_); refine w_cond_f rfl ?_
  (with_reducible refine w_skip ?_)
  (with_reducible refine k_seq_n ?_)
  (with_reducible refine w_seq ?_)
  (with_reducible refine w_ops ?_)
  (with_reducible apply o_quiet); (case hf => exact q_faddr rfl)
  (with_reducible apply o_quiet); (case hf => apply q_load1; (case hx => exact e_ptr rfl); (case hm => exact g_hit rfl); (case hv => exact rfl))
  (with_reducible apply o_quiet); (case hf => exact q_faddr rfl)
  (with_reducible apply o_quiet); (case hf => apply q_load1; (case hx => exact e_ptr rfl); (case hm => exact g_hit rfl); (case hv => exact rfl))
  (with_reducible apply o_quiet); (case hf => exact a_sub rfl rfl rfl (by omega) (by omega))
  (with_reducible apply o_quiet); (case hf => exact a_mul rfl rfl rfl (by omega) (by omega))
  (with_reducible apply o_quiet); (case hf => exact q_mov (e_int rfl))
  (with_reducible refine o_nil ?_)
  (with_reducible refine k_ops ?_)
  (with_reducible refine k_seq_n ?_)
  (with_reducible refine w_ret ?_)
  (with_reducible refine is_b ?_); refine k_body_r rfl ?_
  exact hK _

theorem size_y4 (Y : Ys Prop) (r : Int) (K : V → Mem → Prop) (h1 : 2 ≤ r) (h2 : r ≤ 64) (s1 : S10 [geo 5 4 r] = some (.bool true)) (hK : ∀ mm, K (.int .i64 (r * (4 - 1))) mm) :
   body1 pA (callD pA tab0 last1 5) Y c13 [geo 5 4 r] ⟨0, .leaf⟩ K := by
  refine w_body rfl ?_
  refine w_seq ?_
  (with_reducible refine w_ops ?_)
  (with_reducible apply o_alloc); (case hf => exact b_agg rfl)
  (with_reducible apply o_quiet); (case hf => exact q_mov (e_int rfl))
  (with_reducible refine o_nil ?_)
  (with_reducible refine k_ops ?_)
  (with_reducible refine k_seq_n ?_)
  (with_reducible refine w_seq ?_)
  (with_reducible refine w_seq ?_)
  (with_reducible refine w_ops ?_)
  (with_reducible apply o_quiet); (case hf => apply q_loadN; (case hx => exact e_ptr rfl); (case hm => exact g_hit rfl); (case hr => exact rfl))
  (with_reducible apply o_call); (case hf => exact e_func rfl); (case ha => apply evs_cons; (case hv => exact e_agg rfl); exact evs_nil)
  (with_reducible refine is_d ?_); refine go_last rfl ?_
  (with_reducible apply w_fn_hit); (case hS => assumption)
  (with_reducible refine k_call ?_)
  (with_reducible apply o_quiet); (case hf => exact q_not rfl rfl)
  (with_reducible refine o_nil ?_)
  (with_reducible refine k_ops ?_)
  (with_reducible refine k_seq_n ?_)
  (with_reducible refine is_c ?_); refine w_cond_f rfl ?_
  (with_reducible refine w_skip ?_)
  (with_reducible refine k_seq_n ?_)
  (with_reducible refine w_seq ?_)
  (with_reducible refine w_ops ?_)
  (with_reducible apply o_quiet); (case hf => exact q_faddr rfl)
  (with_reducible apply o_quiet); (case hf => apply q_load1; (case hx => exact e_ptr rfl); (case hm => exact g_hit rfl); (case hv => exact rfl))
  (with_reducible apply o_quiet); (case hf => exact q_faddr rfl)
  (with_reducible apply o_quiet); (case hf => apply q_load1; (case hx => exact e_ptr rfl); (case hm => exact g_hit rfl); (case hv => exact rfl))
  (with_reducible apply o_quiet); (case hf => exact a_sub rfl rfl rfl (by omega) (by omega))
  (with_reducible apply o_quiet); (case hf => exact a_mul rfl rfl rfl (by omega) (by omega))
  (with_reducible apply o_quiet); (case hf => exact q_mov (e_int rfl))
  (with_reducible refine o_nil ?_)
  (with_reducible refine k_ops ?_)
  (with_reducible refine k_seq_n ?_)
  (with_reducible refine w_ret ?_)
  (with_reducible refine is_b ?_); refine k_body_r rfl ?_
  exact hK _

theorem row_n (Y : Ys Prop) (l m r s : Int) (K : V → Mem → Prop) (s1 : S10 [geo l m r] = some (.bool false)) (hK : ∀ mm, K (.bool false) mm) :
   body1 pA (callD pA tab0 last2 5) Y c22 [geo l m r, .int .i64 s] ⟨0, .leaf⟩ K := by
  refine w_body rfl ?_
  refine w_seq ?_
  (with_reducible refine w_ops ?_)
  (with_reducible apply o_alloc); (case hf => exact b_agg rfl)
  (with_reducible apply o_quiet); (case hf => exact q_mov (e_bool rfl))
  (with_reducible refine o_nil ?_)
  (with_reducible refine k_ops ?_)
  (with_reducible refine k_seq_n ?_)
  (with_reducible refine w_seq ?_)
  (with_reducible refine w_ops ?_)
  (with_reducible apply o_quiet); (case hf => apply q_loadN; (case hx => exact e_ptr rfl); (case hm => exact g_hit rfl); (case hr => exact rfl))
  (with_reducible apply o_call); (case hf => exact e_func rfl); (case ha => apply evs_cons; (case hv => exact e_agg rfl); exact evs_nil)
  (with_reducible refine is_d ?_); refine go_last rfl ?_
  (with_reducible apply w_fn_miss); (case hg => rfl)
  (with_reducible apply w_fn_hit); (case hS => assumption)
  (with_reducible refine k_call ?_)
  (with_reducible apply o_quiet); (case hf => exact q_mov (e_bool rfl))
  (with_reducible refine is_g ?_); refine o_pass rfl rfl ?_
  (with_reducible refine is_g ?_); refine o_pass rfl rfl ?_
  (with_reducible apply o_pick_f); (case hc => rfl); (case hv => exact e_bool rfl)
  (with_reducible apply o_quiet); (case hf => exact q_mov (e_bool rfl))
  (with_reducible refine is_g ?_); refine o_pass rfl rfl ?_
  (with_reducible refine is_g ?_); refine o_pass rfl rfl ?_
  (with_reducible refine is_g ?_); refine o_pass rfl rfl ?_
  (with_reducible refine is_g ?_); refine o_pass rfl rfl ?_
  (with_reducible apply o_pick_f); (case hc => rfl); (case hv => exact e_bool rfl)
  (with_reducible apply o_quiet); (case hf => exact q_mov (e_bool rfl))
  (with_reducible refine o_nil ?_)
  (with_reducible refine k_ops ?_)
  (with_reducible refine k_seq_n ?_)
  (with_reducible refine w_ret ?_)
  (with_reducible refine is_b ?_); refine k_body_r rfl ?_
  exact hK _

theorem row_lo (Y : Ys Prop) (l m r s : Int) (K : V → Mem → Prop) (s1 : S10 [geo l m r] = some (.bool true)) (h : s < 0) (hK : ∀ mm, K (.bool false) mm) :
   body1 pA (callD pA tab0 last2 5) Y c22 [geo l m r, .int .i64 s] ⟨0, .leaf⟩ K := by
  refine w_body rfl ?_
  refine w_seq ?_
  (with_reducible refine w_ops ?_)
  (with_reducible apply o_alloc); (case hf => exact b_agg rfl)
  (with_reducible apply o_quiet); (case hf => exact q_mov (e_bool rfl))
  (with_reducible refine o_nil ?_)
  (with_reducible refine k_ops ?_)
  (with_reducible refine k_seq_n ?_)
  (with_reducible refine w_seq ?_)
  (with_reducible refine w_ops ?_)
  (with_reducible apply o_quiet); (case hf => apply q_loadN; (case hx => exact e_ptr rfl); (case hm => exact g_hit rfl); (case hr => exact rfl))
  (with_reducible apply o_call); (case hf => exact e_func rfl); (case ha => apply evs_cons; (case hv => exact e_agg rfl); exact evs_nil)
  (with_reducible refine is_d ?_); refine go_last rfl ?_
  (with_reducible apply w_fn_miss); (case hg => rfl)
  (with_reducible apply w_fn_hit); (case hS => assumption)
  (with_reducible refine k_call ?_)
  (with_reducible apply o_quiet); (case hf => exact q_mov (e_bool rfl))
  (with_reducible refine is_g ?_); refine o_want rfl ?_
  (with_reducible apply o_quiet); (case hf => exact q_mov (e_int rfl))
  (with_reducible refine is_g ?_); refine o_want rfl ?_
  (with_reducible apply o_quiet); (case hf => exact c_geq_f rfl rfl (by omega))
  (with_reducible apply o_pick_t); (case hc => rfl); (case hv => exact e_bool rfl)
  (with_reducible apply o_quiet); (case hf => exact q_mov (e_bool rfl))
  (with_reducible refine is_g ?_); refine o_pass rfl rfl ?_
  (with_reducible refine is_g ?_); refine o_pass rfl rfl ?_
  (with_reducible refine is_g ?_); refine o_pass rfl rfl ?_
  (with_reducible refine is_g ?_); refine o_pass rfl rfl ?_
  (with_reducible apply o_pick_f); (case hc => rfl); (case hv => exact e_bool rfl)
  (with_reducible apply o_quiet); (case hf => exact q_mov (e_bool rfl))
  (with_reducible refine o_nil ?_)
  (with_reducible refine k_ops ?_)
  (with_reducible refine k_seq_n ?_)
  (with_reducible refine w_ret ?_)
  (with_reducible refine is_b ?_); refine k_body_r rfl ?_
  exact hK _

theorem row_hi (Y : Ys Prop) (l m r s : Int) (K : V → Mem → Prop) (s1 : S10 [geo l m r] = some (.bool true)) (h : 0 ≤ s) (h2 : r ≤ s) (hK : ∀ mm, K (.bool false) mm) :
   body1 pA (callD pA tab0 last2 5) Y c22 [geo l m r, .int .i64 s] ⟨0, .leaf⟩ K := by
  refine w_body rfl ?_
  refine w_seq ?_
  (with_reducible refine w_ops ?_)
  (with_reducible apply o_alloc); (case hf => exact b_agg rfl)
  (with_reducible apply o_quiet); (case hf => exact q_mov (e_bool rfl))
  (with_reducible refine o_nil ?_)
  (with_reducible refine k_ops ?_)
  (with_reducible refine k_seq_n ?_)
  (with_reducible refine w_seq ?_)
  (with_reducible refine w_ops ?_)
  (with_reducible apply o_quiet); (case hf => apply q_loadN; (case hx => exact e_ptr rfl); (case hm => exact g_hit rfl); (case hr => exact rfl))
  (with_reducible apply o_call); (case hf => exact e_func rfl); (case ha => apply evs_cons; (case hv => exact e_agg rfl); exact evs_nil)
  (with_reducible refine is_d ?_); refine go_last rfl ?_
  (with_reducible apply w_fn_miss); (case hg => rfl)
  (with_reducible apply w_fn_hit); (case hS => assumption)
  (with_reducible refine k_call ?_)
  (with_reducible apply o_quiet); (case hf => exact q_mov (e_bool rfl))
  (with_reducible refine is_g ?_); refine o_want rfl ?_
  (with_reducible apply o_quiet); (case hf => exact q_mov (e_int rfl))
  (with_reducible refine is_g ?_); refine o_want rfl ?_
  (with_reducible apply o_quiet); (case hf => exact c_geq_t rfl rfl (by omega))
  (with_reducible apply o_pick_t); (case hc => rfl); (case hv => exact e_bool rfl)
  (with_reducible apply o_quiet); (case hf => exact q_mov (e_bool rfl))
  (with_reducible refine is_g ?_); refine o_want rfl ?_
  (with_reducible apply o_quiet); (case hf => exact q_mov (e_int rfl))
  (with_reducible refine is_g ?_); refine o_want rfl ?_
  (with_reducible apply o_quiet); (case hf => exact q_faddr rfl)
  (with_reducible refine is_g ?_); refine o_want rfl ?_
  (with_reducible apply o_quiet); (case hf => apply q_load1; (case hx => exact e_ptr rfl); (case hm => exact g_hit rfl); (case hv => exact rfl))
  (with_reducible refine is_g ?_); refine o_want rfl ?_
  (with_reducible apply o_quiet); (case hf => exact c_lss_f rfl rfl (by omega))
  (with_reducible apply o_pick_t); (case hc => rfl); (case hv => exact e_bool rfl)
  (with_reducible apply o_quiet); (case hf => exact q_mov (e_bool rfl))
  (with_reducible refine o_nil ?_)
  (with_reducible refine k_ops ?_)
  (with_reducible refine k_seq_n ?_)
  (with_reducible refine w_ret ?_)
  (with_reducible refine is_b ?_); refine k_body_r rfl ?_
  exact hK _

theorem row_y (Y : Ys Prop) (l m r s : Int) (K : V → Mem → Prop) (s1 : S10 [geo l m r] = some (.bool true)) (h : 0 ≤ s) (h2 : s < r) (hK : ∀ mm, K (.bool true) mm) :
   body1 pA (callD pA tab0 last2 5) Y c22 [geo l m r, .int .i64 s] ⟨0, .leaf⟩ K := by
  refine w_body rfl ?_
  refine w_seq ?_
  (with_reducible refine w_ops ?_)
  (with_reducible apply o_alloc); (case hf => exact b_agg rfl)
  (with_reducible apply o_quiet); (case hf => exact q_mov (e_bool rfl))
  (with_reducible refine o_nil ?_)
  (with_reducible refine k_ops ?_)
  (with_reducible refine k_seq_n ?_)
  (with_reducible refine w_seq ?_)
  (with_reducible refine w_ops ?_)
  (with_reducible apply o_quiet); (case hf => apply q_loadN; (case hx => exact e_ptr rfl); (case hm => exact g_hit rfl); (case hr => exact rfl))
  (with_reducible apply o_call); (case hf => exact e_func rfl); (case ha => apply evs_cons; (case hv => exact e_agg rfl); exact evs_nil)
  (with_reducible refine is_d ?_); refine go_last rfl ?_
  (with_reducible apply w_fn_miss); (case hg => rfl)
  (with_reducible apply w_fn_hit); (case hS => assumption)
  (with_reducible refine k_call ?_)
  (with_reducible apply o_quiet); (case hf => exact q_mov (e_bool rfl))
  (with_reducible refine is_g ?_); refine o_want rfl ?_
  (with_reducible apply o_quiet); (case hf => exact q_mov (e_int rfl))
  (with_reducible refine is_g ?_); refine o_want rfl ?_
  (with_reducible apply o_quiet); (case hf => exact c_geq_t rfl rfl (by omega))
  (with_reducible apply o_pick_t); (case hc => rfl); (case hv => exact e_bool rfl)
  (with_reducible apply o_quiet); (case hf => exact q_mov (e_bool rfl))
  (with_reducible refine is_g ?_); refine o_want rfl ?_
  (with_reducible apply o_quiet); (case hf => exact q_mov (e_int rfl))
  (with_reducible refine is_g ?_); refine o_want rfl ?_
  (with_reducible apply o_quiet); (case hf => exact q_faddr rfl)
  (with_reducible refine is_g ?_); refine o_want rfl ?_
  (with_reducible apply o_quiet); (case hf => apply q_load1; (case hx => exact e_ptr rfl); (case hm => exact g_hit rfl); (case hv => exact rfl))
  (with_reducible refine is_g ?_); refine o_want rfl ?_
  (with_reducible apply o_quiet); (case hf => exact c_lss_t rfl rfl (by omega))
  (with_reducible apply o_pick_t); (case hc => rfl); (case hv => exact e_bool rfl)
  (with_reducible apply o_quiet); (case hf => exact q_mov (e_bool rfl))
  (with_reducible refine o_nil ?_)
  (with_reducible refine k_ops ?_)
  (with_reducible refine k_seq_n ?_)
  (with_reducible refine w_ret ?_)
  (with_reducible refine is_b ?_); refine k_body_r rfl ?_
  exact hK _

theorem par_n (Y : Ys Prop) (l m r s : Int) (K : V → Mem → Prop) (s1 : S22 [geo l m r, .int .i64 s] = some (.bool false)) (hK : ∀ mm, K (.tuple [.int .i64 0, .bool false]) mm) :
   body1 pA (callD pA tab0 last3 5) Y c16 [geo l m r, .int .i64 s] ⟨0, .leaf⟩ K := by
  refine w_body rfl ?_
  refine w_seq ?_
  (with_reducible refine w_ops ?_)
  (with_reducible apply o_alloc); (case hf => exact b_agg rfl)
  (with_reducible apply o_quiet); (case hf => exact q_mov (e_int rfl))
  (with_reducible apply o_quiet); (case hf => exact q_mov (e_bool rfl))
  (with_reducible refine o_nil ?_)
  (with_reducible refine k_ops ?_)
  (with_reducible refine k_seq_n ?_)
  (with_reducible refine w_seq ?_)
  (with_reducible refine w_block ?_)
  (with_reducible refine w_seq ?_)
  (with_reducible refine w_ops ?_)
  (with_reducible apply o_quiet); (case hf => apply q_loadN; (case hx => exact e_ptr rfl); (case hm => exact g_hit rfl); (case hr => exact rfl))
  (with_reducible apply o_quiet); (case hf => exact q_mov (e_int rfl))
  (with_reducible apply o_call); (case hf => exact e_func rfl); (case ha => apply evs_cons; (case hv => exact e_agg rfl); apply evs_cons; (case hv => exact e_int rfl); exact evs_nil)
  (with_reducible refine is_d ?_); refine go_last rfl ?_
  (with_reducible apply w_fn_hit); (case hS => assumption)
  (with_reducible refine k_call ?_)
  (with_reducible apply o_quiet); (case hf => exact q_not rfl rfl)
  (with_reducible apply o_quiet); (case hf => exact q_mov (e_bool rfl))
  (with_reducible refine o_nil ?_)
  (with_reducible refine k_ops ?_)
  (with_reducible refine k_seq_n ?_)
  (with_reducible refine is_c ?_); refine w_cond_t rfl ?_
  (with_reducible refine w_seq ?_)
  (with_reducible refine w_ops ?_)
  (with_reducible apply o_quiet); (case hf => exact q_mov (e_int rfl))
  (with_reducible apply o_quiet); (case hf => exact q_mov (e_bool rfl))
  (with_reducible refine o_nil ?_)
  (with_reducible refine k_ops ?_)
  (with_reducible refine k_seq_n ?_)
  (with_reducible refine w_ret ?_)
  (with_reducible refine k_block_r ?_)
  (with_reducible refine k_seq_r ?_)
  (with_reducible refine is_b ?_); refine k_body_r rfl ?_
  exact hK _

theorem par_2 (Y : Ys Prop) (r s : Int) (K : V → Mem → Prop) (s1 : S22 [geo 1 2 r, .int .i64 s] = some (.bool true)) (hK : ∀ mm, K (.tuple [.int .i64 1, .bool true]) mm) :
   body1 pA (callD pA tab0 last3 5) Y c16 [geo 1 2 r, .int .i64 s] ⟨0, .leaf⟩ K := by
  refine w_body rfl ?_
  refine w_seq ?_
  (with_reducible refine w_ops ?_)
  (with_reducible apply o_alloc); (case hf => exact b_agg rfl)
  (with_reducible apply o_quiet); (case hf => exact q_mov (e_int rfl))
  (with_reducible apply o_quiet); (case hf => exact q_mov (e_bool rfl))
  (with_reducible refine o_nil ?_)
  (with_reducible refine k_ops ?_)
  (with_reducible refine k_seq_n ?_)
  (with_reducible refine w_seq ?_)
  (with_reducible refine w_block ?_)
  (with_reducible refine w_seq ?_)
  (with_reducible refine w_ops ?_)
  (with_reducible apply o_quiet); (case hf => apply q_loadN; (case hx => exact e_ptr rfl); (case hm => exact g_hit rfl); (case hr => exact rfl))
  (with_reducible apply o_quiet); (case hf => exact q_mov (e_int rfl))
  (with_reducible apply o_call); (case hf => exact e_func rfl); (case ha => apply evs_cons; (case hv => exact e_agg rfl); apply evs_cons; (case hv => exact e_int rfl); exact evs_nil)
  (with_reducible refine is_d ?_); refine go_last rfl ?_
  (with_reducible apply w_fn_hit); (case hS => assumption)
  (with_reducible refine k_call ?_)
  (with_reducible apply o_quiet); (case hf => exact q_not rfl rfl)
  (with_reducible apply o_quiet); (case hf => exact q_mov (e_bool rfl))
  (with_reducible refine o_nil ?_)
  (with_reducible refine k_ops ?_)
  (with_reducible refine k_seq_n ?_)
  (with_reducible refine is_c ?_); refine w_cond_f rfl ?_
  (with_reducible refine w_seq ?_)
  (with_reducible refine w_ops ?_)
  (with_reducible apply o_quiet); (case hf => exact q_faddr rfl)
  (with_reducible apply o_quiet); (case hf => apply q_load1; (case hx => exact e_ptr rfl); (case hm => exact g_hit rfl); (case hv => exact rfl))
  (with_reducible apply o_quiet); (case hf => exact c_eql_t rfl rfl (by omega))
  (with_reducible apply o_quiet); (case hf => exact q_mov (e_bool rfl))
  (with_reducible refine o_nil ?_)
  (with_reducible refine k_ops ?_)
  (with_reducible refine k_seq_n ?_)
  (with_reducible refine is_c ?_); refine w_cond_t rfl ?_
  (with_reducible refine w_seq ?_)
  (with_reducible refine w_ops ?_)
  (with_reducible apply o_quiet); (case hf => exact q_mov (e_int rfl))
  (with_reducible apply o_quiet); (case hf => exact q_mov (e_bool rfl))
  (with_reducible refine o_nil ?_)
  (with_reducible refine k_ops ?_)
  (with_reducible refine k_seq_n ?_)
  (with_reducible refine w_ret ?_)
  (with_reducible refine k_block_r ?_)
  (with_reducible refine k_seq_r ?_)
  (with_reducible refine is_b ?_); refine k_body_r rfl ?_
  exact hK _

theorem par_3 (Y : Ys Prop) (r s : Int) (K : V → Mem → Prop) (s1 : S22 [geo 5 3 r, .int .i64 s] = some (.bool true)) (h : 0 ≤ s) (h2 : s < 64) (hK : ∀ mm, K (.tuple [.int .i64 (3 - 1 - s / 2 % 3), .bool true]) mm) :
   body1 pA (callD pA tab0 last3 5) Y c16 [geo 5 3 r, .int .i64 s] ⟨0, .leaf⟩ K := by
  refine w_body rfl ?_
  refine w_seq ?_
  (with_reducible refine w_ops ?_)
  (with_reducible apply o_alloc); (case hf => exact b_agg rfl)
  (with_reducible apply o_quiet); (case hf => exact q_mov (e_int rfl))
  (with_reducible apply o_quiet); (case hf => exact q_mov (e_bool rfl))
  (with_reducible refine o_nil ?_)
  (with_reducible refine k_ops ?_)
  (with_reducible refine k_seq_n ?_)
  (with_reducible refine w_seq ?_)
  (with_reducible refine w_block ?_)
  (with_reducible refine w_seq ?_)
  (with_reducible refine w_ops ?_)
  (with_reducible apply o_quiet); (case hf => apply q_loadN; (case hx => exact e_ptr rfl); (case hm => exact g_hit rfl); (case hr => exact rfl))
  (with_reducible apply o_quiet); (case hf => exact q_mov (e_int rfl))
  (with_reducible apply o_call); (case hf => exact e_func rfl); (case ha => apply evs_cons; (case hv => exact e_agg rfl); apply evs_cons; (case hv => exact e_int rfl); exact evs_nil)
  (with_reducible refine is_d ?_); refine go_last rfl ?_
  (with_reducible apply w_fn_hit); (case hS => assumption)
  (with_reducible refine k_call ?_)
  (with_reducible apply o_quiet); (case hf => exact q_not rfl rfl)
  (with_reducible apply o_quiet); (case hf => exact q_mov (e_bool rfl))
  (with_reducible refine o_nil ?_)
  (with_reducible refine k_ops ?_)
  (with_reducible refine k_seq_n ?_)
  (with_reducible refine is_c ?_); refine w_cond_f rfl ?_
  (with_reducible refine w_seq ?_)
  (with_reducible refine w_ops ?_)
  (with_reducible apply o_quiet); (case hf => exact q_faddr rfl)
  (with_reducible apply o_quiet); (case hf => apply q_load1; (case hx => exact e_ptr rfl); (case hm => exact g_hit rfl); (case hv => exact rfl))
  (with_reducible apply o_quiet); (case hf => exact c_eql_f rfl rfl (by omega))
  (with_reducible apply o_quiet); (case hf => exact q_mov (e_bool rfl))
  (with_reducible refine o_nil ?_)
  (with_reducible refine k_ops ?_)
  (with_reducible refine k_seq_n ?_)
  (with_reducible refine is_c ?_); refine w_cond_f rfl ?_
  (with_reducible refine w_skip ?_)
  (with_reducible refine k_block_n ?_)
  (with_reducible refine k_seq_n ?_)
  (with_reducible refine w_seq ?_)
  (with_reducible refine w_draw ?_)
  (with_reducible apply d_quiet); (case hf => exact q_faddr rfl)
  (with_reducible apply d_quiet); (case hf => apply q_load1; (case hx => exact e_ptr rfl); (case hm => exact g_hit rfl); (case hv => exact rfl))
  (with_reducible apply d_quiet); (case hf => exact a_sub rfl rfl rfl (by omega) (by omega))
  (with_reducible apply d_quiet); (case hf => exact q_mov (e_int rfl))
  (with_reducible apply d_quiet); (case hf => exact a_quo rfl rfl (by omega) (by omega) (by omega) rfl)
  (with_reducible apply d_quiet); (case hf => exact q_faddr rfl)
  (with_reducible apply d_quiet); (case hf => apply q_load1; (case hx => exact e_ptr rfl); (case hm => exact g_hit rfl); (case hv => exact rfl))
  (with_reducible apply d_quiet); (case hf => exact a_rem rfl rfl (by omega) (by omega) rfl)
  (with_reducible refine d_fin ?_); dsimp only
  (with_reducible apply o_quiet); (case hf => exact a_sub rfl rfl rfl (by omega) (by omega))
  (with_reducible apply o_quiet); (case hf => exact q_mov (e_int rfl))
  (with_reducible apply o_quiet); (case hf => exact q_mov (e_bool rfl))
  (with_reducible refine o_nil ?_)
  (with_reducible refine k_ops ?_)
  (with_reducible refine k_seq_n ?_)
  (with_reducible refine w_ret ?_)
  (with_reducible refine is_b ?_); refine k_body_r rfl ?_
  exact hK _

theorem par_4 (Y : Ys Prop) (r s : Int) (K : V → Mem → Prop) (s1 : S22 [geo 5 4 r, .int .i64 s] = some (.bool true)) (h : 0 ≤ s) (h2 : s < 64) (hK : ∀ mm, K (.tuple [.int .i64 (4 - 1 - s / 2 % 4), .bool true]) mm) :
   body1 pA (callD pA tab0 last3 5) Y c16 [geo 5 4 r, .int .i64 s] ⟨0, .leaf⟩ K := by
  refine w_body rfl ?_
  refine w_seq ?_
  (with_reducible refine w_ops ?_)
  (with_reducible apply o_alloc); (case hf => exact b_agg rfl)
  (with_reducible apply o_quiet); (case hf => exact q_mov (e_int rfl))
  (with_reducible apply o_quiet); (case hf => exact q_mov (e_bool rfl))
  (with_reducible refine o_nil ?_)
  (with_reducible refine k_ops ?_)
  (with_reducible refine k_seq_n ?_)
  (with_reducible refine w_seq ?_)
  (with_reducible refine w_block ?_)
  (with_reducible refine w_seq ?_)
  (with_reducible refine w_ops ?_)
  (with_reducible apply o_quiet); (case hf => apply q_loadN; (case hx => exact e_ptr rfl); (case hm => exact g_hit rfl); (case hr => exact rfl))
  (with_reducible apply o_quiet); (case hf => exact q_mov (e_int rfl))
  (with_reducible apply o_call); (case hf => exact e_func rfl); (case ha => apply evs_cons; (case hv => exact e_agg rfl); apply evs_cons; (case hv => exact e_int rfl); exact evs_nil)
  (with_reducible refine is_d ?_); refine go_last rfl ?_
  (with_reducible apply w_fn_hit); (case hS => assumption)
  (with_reducible refine k_call ?_)
  (with_reducible apply o_quiet); (case hf => exact q_not rfl rfl)
  (with_reducible apply o_quiet); (case hf => exact q_mov (e_bool rfl))
  (with_reducible refine o_nil ?_)
  (with_reducible refine k_ops ?_)
  (with_reducible refine k_seq_n ?_)
  (with_reducible refine is_c ?_); refine w_cond_f rfl ?_
  (with_reducible refine w_seq ?_)
  (with_reducible refine w_ops ?_)
  (with_reducible apply o_quiet); (case hf => exact q_faddr rfl)
  (with_reducible apply o_quiet); (case hf => apply q_load1; (case hx => exact e_ptr rfl); (case hm => exact g_hit rfl); (case hv => exact rfl))
  (with_reducible apply o_quiet); (case hf => exact c_eql_f rfl rfl (by omega))
  (with_reducible apply o_quiet); (case hf => exact q_mov (e_bool rfl))
  (with_reducible refine o_nil ?_)
  (with_reducible refine k_ops ?_)
  (with_reducible refine k_seq_n ?_)
  (with_reducible refine is_c ?_); refine w_cond_f rfl ?_
  (with_reducible refine w_skip ?_)
  (with_reducible refine k_block_n ?_)
  (with_reducible refine k_seq_n ?_)
  (with_reducible refine w_seq ?_)
  (with_reducible refine w_draw ?_)
  (with_reducible apply d_quiet); (case hf => exact q_faddr rfl)
  (with_reducible apply d_quiet); (case hf => apply q_load1; (case hx => exact e_ptr rfl); (case hm => exact g_hit rfl); (case hv => exact rfl))
  (with_reducible apply d_quiet); (case hf => exact a_sub rfl rfl rfl (by omega) (by omega))
  (with_reducible apply d_quiet); (case hf => exact q_mov (e_int rfl))
  (with_reducible apply d_quiet); (case hf => exact a_quo rfl rfl (by omega) (by omega) (by omega) rfl)
  (with_reducible apply d_quiet); (case hf => exact q_faddr rfl)
  (with_reducible apply d_quiet); (case hf => apply q_load1; (case hx => exact e_ptr rfl); (case hm => exact g_hit rfl); (case hv => exact rfl))
  (with_reducible apply d_quiet); (case hf => exact a_rem rfl rfl (by omega) (by omega) rfl)
  (with_reducible refine d_fin ?_); dsimp only
  (with_reducible apply o_quiet); (case hf => exact a_sub rfl rfl rfl (by omega) (by omega))
  (with_reducible apply o_quiet); (case hf => exact q_mov (e_int rfl))
  (with_reducible apply o_quiet); (case hf => exact q_mov (e_bool rfl))
  (with_reducible refine o_nil ?_)
  (with_reducible refine k_ops ?_)
  (with_reducible refine k_seq_n ?_)
  (with_reducible refine w_ret ?_)
  (with_reducible refine is_b ?_); refine k_body_r rfl ?_
  exact hK _

end Go.Proofs.Ytefklpegpecliaa
