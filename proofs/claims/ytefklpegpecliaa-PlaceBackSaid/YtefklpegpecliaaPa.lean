/- Walks through package place: part Pa. No condition. -/
import Derived.Test.YtefklpegpecliaaCodePl
namespace Go.Proofs.Ytefklpegpecliaa
open Go Go.AM
set_option maxRecDepth 100000
set_option maxHeartbeats 0
set_option linter.unusedVariables false
/-! What the functions answer. -/
def shapeB (l m : Int) : Bool := (decide (l = 1) && decide (m = 2)) || (decide (l = 5) && (decide (m = 3) || decide (m = 4)))
def rightB (l m r : Int) : Bool := shapeB l m && (decide (2 ≤ r) && decide (r ≤ 64) && decide (r % 2 = 0))
def sizeZ (l m r : Int) : Int := bif rightB l m r then r * (m - 1) else 0
def rowB (l m r s : Int) : Bool := rightB l m r && (decide (0 ≤ s) && decide (s < r))
def parZ (l m s : Int) : Int := if l = 1 then 1 else m - 1 - s / 2 % m
def parT (l m r s : Int) : V := bif rowB l m r s then .tuple [.int .i64 (parZ l m s), .bool true] else .tuple [.int .i64 0, .bool false]
def datZ (l m s d : Int) : Int := (parZ l m s + 1 + d) % m
def inB (l m r s : Int) : Bool := decide (0 ≤ s) && decide (s < sizeZ l m r)
def rowZ (m s : Int) : Int := s / 2 / (m - 1) * 2 + s % 2
def atT (l m r s : Int) : V := bif inB l m r s then .tuple [.int .i64 (rowZ m s), .int .i64 (datZ l m (rowZ m s) (s / 2 % (m - 1))), .bool true] else .tuple [.int .i64 0, .int .i64 0, .bool false]
def secZ (m s d : Int) : Int := (s / 2 * (m - 1) + d) * 2 + s % 2
def secT (l m r s x : Int) : V := bif rowB l m r s then
    (if x = datZ l m s 0 then .tuple [.int .i64 (secZ m s 0), .bool true]
    else if 3 ≤ m ∧ x = datZ l m s 1 then .tuple [.int .i64 (secZ m s 1), .bool true]
    else if 4 ≤ m ∧ x = datZ l m s 2 then .tuple [.int .i64 (secZ m s 2), .bool true]
    else .tuple [.int .i64 0, .bool false])
  else .tuple [.int .i64 0, .bool false]
abbrev geo (l m r : Int) : V := .agg [.int .i64 l, .int .i64 m, .int .i64 r]
def S10 : List V → Option V
  | [.agg [.int .i64 l, .int .i64 m, .int .i64 r]] => some (.bool (rightB l m r))
  | _ => none
def S13 : List V → Option V
  | [.agg [.int .i64 l, .int .i64 m, .int .i64 r]] => some (.int .i64 (sizeZ l m r))
  | _ => none
def S22 : List V → Option V
  | [.agg [.int .i64 l, .int .i64 m, .int .i64 r], .int .i64 s] => some (.bool (rowB l m r s))
  | _ => none
def S16 : List V → Option V
  | [.agg [.int .i64 l, .int .i64 m, .int .i64 r], .int .i64 s] => some (parT l m r s)
  | _ => none
def S12 : List V → Option V
  | [.agg [.int .i64 l, .int .i64 m, .int .i64 r], .int .i64 s] => some (atT l m r s)
  | _ => none
def S18 : List V → Option V
  | [.agg [.int .i64 l, .int .i64 m, .int .i64 r], .int .i64 s, .int .i64 x] => some (secT l m r s x)
  | _ => none
abbrev last0 : CF Prop := fun _ _ _ _ => False
abbrev last1 : CF Prop := lastFn 10 S10 last0
abbrev last2 : CF Prop := lastFn 13 S13 last1
abbrev last3 : CF Prop := lastFn 22 S22 last2
abbrev last4 : CF Prop := lastFn 16 S16 last3
abbrev last5 : CF Prop := lastFn 12 S12 last4
abbrev last6 : CF Prop := lastFn 18 S18 last5
abbrev tab0 : Nat → Option AFunc := fun _ => none
theorem s10 {l m r : Int} {b : Bool} (h : rightB l m r = b) : S10 [geo l m r] = some (.bool b) := by subst h; rfl
theorem s13 {l m r b : Int} (h : sizeZ l m r = b) : S13 [geo l m r] = some (.int .i64 b) := by subst h; rfl
theorem s22 {l m r s : Int} {b : Bool} (h : rowB l m r s = b) : S22 [geo l m r, .int .i64 s] = some (.bool b) := by subst h; rfl
theorem s16 {l m r s : Int} {v : V} (h : parT l m r s = v) : S16 [geo l m r, .int .i64 s] = some v := by subst h; rfl
theorem s12 {l m r s : Int} {v : V} (h : atT l m r s = v) : S12 [geo l m r, .int .i64 s] = some v := by subst h; rfl
theorem s18 {l m r s x : Int} {v : V} (h : secT l m r s x = v) : S18 [geo l m r, .int .i64 s, .int .i64 x] = some v := by subst h; rfl

theorem right_y2 (Y : Ys Prop) (r : Int) (K : V → Mem → Prop) (h1 : 2 ≤ r) (h2 : r ≤ 64) (h3 : r % 2 = 0) (hK : ∀ mm, K (.bool true) mm) :
   body1 pA (callD pA tab0 last0 5) Y c10 [geo 1 2 r] ⟨0, .leaf⟩ K := by
  refine w_body rfl ?_
  refine w_seq ?_
  (with_reducible refine w_ops ?_)
  (with_reducible apply o_alloc); (case hf => exact b_agg rfl)
  (with_reducible apply o_quiet); (case hf => exact q_mov (e_bool rfl))
  (with_reducible refine o_nil ?_)
  (with_reducible refine k_ops ?_)
  (with_reducible refine k_seq_n ?_)
  (with_reducible refine w_seq ?_)
  (with_reducible refine w_ops ?_)
  (with_reducible apply o_quiet); (case hf => exact q_faddr rfl)
  (with_reducible apply o_quiet); (case hf => apply q_load1; (case hx => exact e_ptr rfl); (case hm => exact g_hit rfl); (case hv => exact rfl))
  (with_reducible apply o_quiet); (case hf => exact c_eql_t rfl rfl (by omega))
  (with_reducible apply o_quiet); (case hf => exact q_mov (e_bool rfl))
  (with_reducible refine is_g ?_); refine o_want rfl ?_
  (with_reducible apply o_quiet); (case hf => exact q_faddr rfl)
  (with_reducible refine is_g ?_); refine o_want rfl ?_
  (with_reducible apply o_quiet); (case hf => apply q_load1; (case hx => exact e_ptr rfl); (case hm => exact g_hit rfl); (case hv => exact rfl))
  (with_reducible refine is_g ?_); refine o_want rfl ?_
  (with_reducible apply o_quiet); (case hf => exact c_eql_t rfl rfl (by omega))
  (with_reducible apply o_pick_t); (case hc => rfl); (case hv => exact e_bool rfl)
  (with_reducible apply o_quiet); (case hf => exact q_mov (e_bool rfl))
  (with_reducible refine is_g ?_); refine o_pass rfl rfl ?_
  (with_reducible refine is_g ?_); refine o_pass rfl rfl ?_
  (with_reducible refine is_g ?_); refine o_pass rfl rfl ?_
  (with_reducible refine is_g ?_); refine o_pass rfl rfl ?_
  (with_reducible refine is_g ?_); refine o_passu rfl ?_
  (with_reducible refine is_g ?_); refine o_passu rfl ?_
  (with_reducible refine is_g ?_); refine o_passu rfl ?_
  (with_reducible refine is_g ?_); refine o_passu rfl ?_
  (with_reducible refine is_g ?_); refine o_passu rfl ?_
  (with_reducible refine is_g ?_); refine o_passu rfl ?_
  (with_reducible refine is_g ?_); refine o_passu rfl ?_
  (with_reducible refine is_g ?_); refine o_passu rfl ?_
  (with_reducible refine is_g ?_); refine o_pass rfl rfl ?_
  (with_reducible apply o_pick_t); (case hc => rfl); (case hv => exact e_bool rfl)
  (with_reducible apply o_quiet); (case hf => exact q_mov (e_bool rfl))
  (with_reducible refine o_nil ?_)
  (with_reducible refine k_ops ?_)
  (with_reducible refine k_seq_n ?_)
  (with_reducible refine w_seq ?_)
  (with_reducible refine w_ops ?_)
  (with_reducible apply o_quiet); (case hf => exact q_mov (e_bool rfl))
  (with_reducible apply o_quiet); (case hf => exact q_mov (e_bool rfl))
  (with_reducible refine is_g ?_); refine o_want rfl ?_
  (with_reducible apply o_quiet); (case hf => exact q_faddr rfl)
  (with_reducible refine is_g ?_); refine o_want rfl ?_
  (with_reducible apply o_quiet); (case hf => apply q_load1; (case hx => exact e_ptr rfl); (case hm => exact g_hit rfl); (case hv => exact rfl))
  (with_reducible refine is_g ?_); refine o_want rfl ?_
  (with_reducible apply o_quiet); (case hf => exact c_geq_t rfl rfl (by omega))
  (with_reducible apply o_pick_t); (case hc => rfl); (case hv => exact e_bool rfl)
  (with_reducible apply o_quiet); (case hf => exact q_mov (e_bool rfl))
  (with_reducible refine is_g ?_); refine o_want rfl ?_
  (with_reducible apply o_quiet); (case hf => exact q_faddr rfl)
  (with_reducible refine is_g ?_); refine o_want rfl ?_
  (with_reducible apply o_quiet); (case hf => apply q_load1; (case hx => exact e_ptr rfl); (case hm => exact g_hit rfl); (case hv => exact rfl))
  (with_reducible refine is_g ?_); refine o_want rfl ?_
  (with_reducible apply o_quiet); (case hf => exact c_leq_t rfl rfl (by omega))
  (with_reducible apply o_pick_t); (case hc => rfl); (case hv => exact e_bool rfl)
  (with_reducible apply o_quiet); (case hf => exact q_mov (e_bool rfl))
  (with_reducible refine is_g ?_); refine o_want rfl ?_
  (with_reducible apply o_quiet); (case hf => exact q_faddr rfl)
  (with_reducible refine is_g ?_); refine o_want rfl ?_
  (with_reducible apply o_quiet); (case hf => apply q_load1; (case hx => exact e_ptr rfl); (case hm => exact g_hit rfl); (case hv => exact rfl))
  (with_reducible refine is_g ?_); refine o_want rfl ?_
  (with_reducible apply o_quiet); (case hf => exact a_rem rfl rfl (by omega) (by omega) rfl)
  (with_reducible refine is_g ?_); refine o_want rfl ?_
  (with_reducible apply o_quiet); (case hf => exact c_eql_t rfl rfl (by omega))
  (with_reducible apply o_pick_t); (case hc => rfl); (case hv => exact e_bool rfl)
  (with_reducible apply o_quiet); (case hf => exact q_mov (e_bool rfl))
  (with_reducible refine o_nil ?_)
  (with_reducible refine k_ops ?_)
  (with_reducible refine k_seq_n ?_)
  (with_reducible refine w_ret ?_)
  (with_reducible refine is_b ?_); refine k_body_r rfl ?_
  exact hK _

theorem right_a2 (Y : Ys Prop) (r : Int) (K : V → Mem → Prop) (h1 : r < 2) (hK : ∀ mm, K (.bool false) mm) :
   body1 pA (callD pA tab0 last0 5) Y c10 [geo 1 2 r] ⟨0, .leaf⟩ K := by
  refine w_body rfl ?_
  refine w_seq ?_
  (with_reducible refine w_ops ?_)
  (with_reducible apply o_alloc); (case hf => exact b_agg rfl)
  (with_reducible apply o_quiet); (case hf => exact q_mov (e_bool rfl))
  (with_reducible refine o_nil ?_)
  (with_reducible refine k_ops ?_)
  (with_reducible refine k_seq_n ?_)
  (with_reducible refine w_seq ?_)
  (with_reducible refine w_ops ?_)
  (with_reducible apply o_quiet); (case hf => exact q_faddr rfl)
  (with_reducible apply o_quiet); (case hf => apply q_load1; (case hx => exact e_ptr rfl); (case hm => exact g_hit rfl); (case hv => exact rfl))
  (with_reducible apply o_quiet); (case hf => exact c_eql_t rfl rfl (by omega))
  (with_reducible apply o_quiet); (case hf => exact q_mov (e_bool rfl))
  (with_reducible refine is_g ?_); refine o_want rfl ?_
  (with_reducible apply o_quiet); (case hf => exact q_faddr rfl)
  (with_reducible refine is_g ?_); refine o_want rfl ?_
  (with_reducible apply o_quiet); (case hf => apply q_load1; (case hx => exact e_ptr rfl); (case hm => exact g_hit rfl); (case hv => exact rfl))
  (with_reducible refine is_g ?_); refine o_want rfl ?_
  (with_reducible apply o_quiet); (case hf => exact c_eql_t rfl rfl (by omega))
  (with_reducible apply o_pick_t); (case hc => rfl); (case hv => exact e_bool rfl)
  (with_reducible apply o_quiet); (case hf => exact q_mov (e_bool rfl))
  (with_reducible refine is_g ?_); refine o_pass rfl rfl ?_
  (with_reducible refine is_g ?_); refine o_pass rfl rfl ?_
  (with_reducible refine is_g ?_); refine o_pass rfl rfl ?_
  (with_reducible refine is_g ?_); refine o_pass rfl rfl ?_
  (with_reducible refine is_g ?_); refine o_passu rfl ?_
  (with_reducible refine is_g ?_); refine o_passu rfl ?_
  (with_reducible refine is_g ?_); refine o_passu rfl ?_
  (with_reducible refine is_g ?_); refine o_passu rfl ?_
  (with_reducible refine is_g ?_); refine o_passu rfl ?_
  (with_reducible refine is_g ?_); refine o_passu rfl ?_
  (with_reducible refine is_g ?_); refine o_passu rfl ?_
  (with_reducible refine is_g ?_); refine o_passu rfl ?_
  (with_reducible refine is_g ?_); refine o_pass rfl rfl ?_
  (with_reducible apply o_pick_t); (case hc => rfl); (case hv => exact e_bool rfl)
  (with_reducible apply o_quiet); (case hf => exact q_mov (e_bool rfl))
  (with_reducible refine o_nil ?_)
  (with_reducible refine k_ops ?_)
  (with_reducible refine k_seq_n ?_)
  (with_reducible refine w_seq ?_)
  (with_reducible refine w_ops ?_)
  (with_reducible apply o_quiet); (case hf => exact q_mov (e_bool rfl))
  (with_reducible apply o_quiet); (case hf => exact q_mov (e_bool rfl))
  (with_reducible refine is_g ?_); refine o_want rfl ?_
  (with_reducible apply o_quiet); (case hf => exact q_faddr rfl)
  (with_reducible refine is_g ?_); refine o_want rfl ?_
  (with_reducible apply o_quiet); (case hf => apply q_load1; (case hx => exact e_ptr rfl); (case hm => exact g_hit rfl); (case hv => exact rfl))
  (with_reducible refine is_g ?_); refine o_want rfl ?_
  (with_reducible apply o_quiet); (case hf => exact c_geq_f rfl rfl (by omega))
  (with_reducible apply o_pick_t); (case hc => rfl); (case hv => exact e_bool rfl)
  (with_reducible apply o_quiet); (case hf => exact q_mov (e_bool rfl))
  (with_reducible refine is_g ?_); refine o_pass rfl rfl ?_
  (with_reducible refine is_g ?_); refine o_pass rfl rfl ?_
  (with_reducible refine is_g ?_); refine o_pass rfl rfl ?_
  (with_reducible apply o_pick_f); (case hc => rfl); (case hv => exact e_bool rfl)
  (with_reducible apply o_quiet); (case hf => exact q_mov (e_bool rfl))
  (with_reducible refine is_g ?_); refine o_pass rfl rfl ?_
  (with_reducible refine is_g ?_); refine o_pass rfl rfl ?_
  (with_reducible refine is_g ?_); refine o_pass rfl rfl ?_
  (with_reducible refine is_g ?_); refine o_pass rfl rfl ?_
  (with_reducible apply o_pick_f); (case hc => rfl); (case hv => exact e_bool rfl)
  (with_reducible apply o_quiet); (case hf => exact q_mov (e_bool rfl))
  (with_reducible refine o_nil ?_)
  (with_reducible refine k_ops ?_)
  (with_reducible refine k_seq_n ?_)
  (with_reducible refine w_ret ?_)
  (with_reducible refine is_b ?_); refine k_body_r rfl ?_
  exact hK _

theorem right_b2 (Y : Ys Prop) (r : Int) (K : V → Mem → Prop) (h1 : 64 < r) (hK : ∀ mm, K (.bool false) mm) :
   body1 pA (callD pA tab0 last0 5) Y c10 [geo 1 2 r] ⟨0, .leaf⟩ K := by
  refine w_body rfl ?_
  refine w_seq ?_
  (with_reducible refine w_ops ?_)
  (with_reducible apply o_alloc); (case hf => exact b_agg rfl)
  (with_reducible apply o_quiet); (case hf => exact q_mov (e_bool rfl))
  (with_reducible refine o_nil ?_)
  (with_reducible refine k_ops ?_)
  (with_reducible refine k_seq_n ?_)
  (with_reducible refine w_seq ?_)
  (with_reducible refine w_ops ?_)
  (with_reducible apply o_quiet); (case hf => exact q_faddr rfl)
  (with_reducible apply o_quiet); (case hf => apply q_load1; (case hx => exact e_ptr rfl); (case hm => exact g_hit rfl); (case hv => exact rfl))
  (with_reducible apply o_quiet); (case hf => exact c_eql_t rfl rfl (by omega))
  (with_reducible apply o_quiet); (case hf => exact q_mov (e_bool rfl))
  (with_reducible refine is_g ?_); refine o_want rfl ?_
  (with_reducible apply o_quiet); (case hf => exact q_faddr rfl)
  (with_reducible refine is_g ?_); refine o_want rfl ?_
  (with_reducible apply o_quiet); (case hf => apply q_load1; (case hx => exact e_ptr rfl); (case hm => exact g_hit rfl); (case hv => exact rfl))
  (with_reducible refine is_g ?_); refine o_want rfl ?_
  (with_reducible apply o_quiet); (case hf => exact c_eql_t rfl rfl (by omega))
  (with_reducible apply o_pick_t); (case hc => rfl); (case hv => exact e_bool rfl)
  (with_reducible apply o_quiet); (case hf => exact q_mov (e_bool rfl))
  (with_reducible refine is_g ?_); refine o_pass rfl rfl ?_
  (with_reducible refine is_g ?_); refine o_pass rfl rfl ?_
  (with_reducible refine is_g ?_); refine o_pass rfl rfl ?_
  (with_reducible refine is_g ?_); refine o_pass rfl rfl ?_
  (with_reducible refine is_g ?_); refine o_passu rfl ?_
  (with_reducible refine is_g ?_); refine o_passu rfl ?_
  (with_reducible refine is_g ?_); refine o_passu rfl ?_
  (with_reducible refine is_g ?_); refine o_passu rfl ?_
  (with_reducible refine is_g ?_); refine o_passu rfl ?_
  (with_reducible refine is_g ?_); refine o_passu rfl ?_
  (with_reducible refine is_g ?_); refine o_passu rfl ?_
  (with_reducible refine is_g ?_); refine o_passu rfl ?_
  (with_reducible refine is_g ?_); refine o_pass rfl rfl ?_
  (with_reducible apply o_pick_t); (case hc => rfl); (case hv => exact e_bool rfl)
  (with_reducible apply o_quiet); (case hf => exact q_mov (e_bool rfl))
  (with_reducible refine o_nil ?_)
  (with_reducible refine k_ops ?_)
  (with_reducible refine k_seq_n ?_)
  (with_reducible refine w_seq ?_)
  (with_reducible refine w_ops ?_)
  (with_reducible apply o_quiet); (case hf => exact q_mov (e_bool rfl))
  (with_reducible apply o_quiet); (case hf => exact q_mov (e_bool rfl))
  (with_reducible refine is_g ?_); refine o_want rfl ?_
  (with_reducible apply o_quiet); (case hf => exact q_faddr rfl)
  (with_reducible refine is_g ?_); refine o_want rfl ?_
  (with_reducible apply o_quiet); (case hf => apply q_load1; (case hx => exact e_ptr rfl); (case hm => exact g_hit rfl); (case hv => exact rfl))
  (with_reducible refine is_g ?_); refine o_want rfl ?_
  (with_reducible apply o_quiet); (case hf => exact c_geq_t rfl rfl (by omega))
  (with_reducible apply o_pick_t); (case hc => rfl); (case hv => exact e_bool rfl)
  (with_reducible apply o_quiet); (case hf => exact q_mov (e_bool rfl))
  (with_reducible refine is_g ?_); refine o_want rfl ?_
  (with_reducible apply o_quiet); (case hf => exact q_faddr rfl)
  (with_reducible refine is_g ?_); refine o_want rfl ?_
  (with_reducible apply o_quiet); (case hf => apply q_load1; (case hx => exact e_ptr rfl); (case hm => exact g_hit rfl); (case hv => exact rfl))
  (with_reducible refine is_g ?_); refine o_want rfl ?_
  (with_reducible apply o_quiet); (case hf => exact c_leq_f rfl rfl (by omega))
  (with_reducible apply o_pick_t); (case hc => rfl); (case hv => exact e_bool rfl)
  (with_reducible apply o_quiet); (case hf => exact q_mov (e_bool rfl))
  (with_reducible refine is_g ?_); refine o_pass rfl rfl ?_
  (with_reducible refine is_g ?_); refine o_pass rfl rfl ?_
  (with_reducible refine is_g ?_); refine o_pass rfl rfl ?_
  (with_reducible refine is_g ?_); refine o_pass rfl rfl ?_
  (with_reducible apply o_pick_f); (case hc => rfl); (case hv => exact e_bool rfl)
  (with_reducible apply o_quiet); (case hf => exact q_mov (e_bool rfl))
  (with_reducible refine o_nil ?_)
  (with_reducible refine k_ops ?_)
  (with_reducible refine k_seq_n ?_)
  (with_reducible refine w_ret ?_)
  (with_reducible refine is_b ?_); refine k_body_r rfl ?_
  exact hK _

theorem right_c2 (Y : Ys Prop) (r : Int) (K : V → Mem → Prop) (h1 : 2 ≤ r) (h2 : r ≤ 64) (h3 : r % 2 ≠ 0) (hK : ∀ mm, K (.bool false) mm) :
   body1 pA (callD pA tab0 last0 5) Y c10 [geo 1 2 r] ⟨0, .leaf⟩ K := by
  refine w_body rfl ?_
  refine w_seq ?_
  (with_reducible refine w_ops ?_)
  (with_reducible apply o_alloc); (case hf => exact b_agg rfl)
  (with_reducible apply o_quiet); (case hf => exact q_mov (e_bool rfl))
  (with_reducible refine o_nil ?_)
  (with_reducible refine k_ops ?_)
  (with_reducible refine k_seq_n ?_)
  (with_reducible refine w_seq ?_)
  (with_reducible refine w_ops ?_)
  (with_reducible apply o_quiet); (case hf => exact q_faddr rfl)
  (with_reducible apply o_quiet); (case hf => apply q_load1; (case hx => exact e_ptr rfl); (case hm => exact g_hit rfl); (case hv => exact rfl))
  (with_reducible apply o_quiet); (case hf => exact c_eql_t rfl rfl (by omega))
  (with_reducible apply o_quiet); (case hf => exact q_mov (e_bool rfl))
  (with_reducible refine is_g ?_); refine o_want rfl ?_
  (with_reducible apply o_quiet); (case hf => exact q_faddr rfl)
  (with_reducible refine is_g ?_); refine o_want rfl ?_
  (with_reducible apply o_quiet); (case hf => apply q_load1; (case hx => exact e_ptr rfl); (case hm => exact g_hit rfl); (case hv => exact rfl))
  (with_reducible refine is_g ?_); refine o_want rfl ?_
  (with_reducible apply o_quiet); (case hf => exact c_eql_t rfl rfl (by omega))
  (with_reducible apply o_pick_t); (case hc => rfl); (case hv => exact e_bool rfl)
  (with_reducible apply o_quiet); (case hf => exact q_mov (e_bool rfl))
  (with_reducible refine is_g ?_); refine o_pass rfl rfl ?_
  (with_reducible refine is_g ?_); refine o_pass rfl rfl ?_
  (with_reducible refine is_g ?_); refine o_pass rfl rfl ?_
  (with_reducible refine is_g ?_); refine o_pass rfl rfl ?_
  (with_reducible refine is_g ?_); refine o_passu rfl ?_
  (with_reducible refine is_g ?_); refine o_passu rfl ?_
  (with_reducible refine is_g ?_); refine o_passu rfl ?_
  (with_reducible refine is_g ?_); refine o_passu rfl ?_
  (with_reducible refine is_g ?_); refine o_passu rfl ?_
  (with_reducible refine is_g ?_); refine o_passu rfl ?_
  (with_reducible refine is_g ?_); refine o_passu rfl ?_
  (with_reducible refine is_g ?_); refine o_passu rfl ?_
  (with_reducible refine is_g ?_); refine o_pass rfl rfl ?_
  (with_reducible apply o_pick_t); (case hc => rfl); (case hv => exact e_bool rfl)
  (with_reducible apply o_quiet); (case hf => exact q_mov (e_bool rfl))
  (with_reducible refine o_nil ?_)
  (with_reducible refine k_ops ?_)
  (with_reducible refine k_seq_n ?_)
  (with_reducible refine w_seq ?_)
  (with_reducible refine w_ops ?_)
  (with_reducible apply o_quiet); (case hf => exact q_mov (e_bool rfl))
  (with_reducible apply o_quiet); (case hf => exact q_mov (e_bool rfl))
  (with_reducible refine is_g ?_); refine o_want rfl ?_
  (with_reducible apply o_quiet); (case hf => exact q_faddr rfl)
  (with_reducible refine is_g ?_); refine o_want rfl ?_
  (with_reducible apply o_quiet); (case hf => apply q_load1; (case hx => exact e_ptr rfl); (case hm => exact g_hit rfl); (case hv => exact rfl))
  (with_reducible refine is_g ?_); refine o_want rfl ?_
  (with_reducible apply o_quiet); (case hf => exact c_geq_t rfl rfl (by omega))
  (with_reducible apply o_pick_t); (case hc => rfl); (case hv => exact e_bool rfl)
  (with_reducible apply o_quiet); (case hf => exact q_mov (e_bool rfl))
  (with_reducible refine is_g ?_); refine o_want rfl ?_
  (with_reducible apply o_quiet); (case hf => exact q_faddr rfl)
  (with_reducible refine is_g ?_); refine o_want rfl ?_
  (with_reducible apply o_quiet); (case hf => apply q_load1; (case hx => exact e_ptr rfl); (case hm => exact g_hit rfl); (case hv => exact rfl))
  (with_reducible refine is_g ?_); refine o_want rfl ?_
  (with_reducible apply o_quiet); (case hf => exact c_leq_t rfl rfl (by omega))
  (with_reducible apply o_pick_t); (case hc => rfl); (case hv => exact e_bool rfl)
  (with_reducible apply o_quiet); (case hf => exact q_mov (e_bool rfl))
  (with_reducible refine is_g ?_); refine o_want rfl ?_
  (with_reducible apply o_quiet); (case hf => exact q_faddr rfl)
  (with_reducible refine is_g ?_); refine o_want rfl ?_
  (with_reducible apply o_quiet); (case hf => apply q_load1; (case hx => exact e_ptr rfl); (case hm => exact g_hit rfl); (case hv => exact rfl))
  (with_reducible refine is_g ?_); refine o_want rfl ?_
  (with_reducible apply o_quiet); (case hf => exact a_rem rfl rfl (by omega) (by omega) rfl)
  (with_reducible refine is_g ?_); refine o_want rfl ?_
  (with_reducible apply o_quiet); (case hf => exact c_eql_f rfl rfl (by omega))
  (with_reducible apply o_pick_t); (case hc => rfl); (case hv => exact e_bool rfl)
  (with_reducible apply o_quiet); (case hf => exact q_mov (e_bool rfl))
  (with_reducible refine o_nil ?_)
  (with_reducible refine k_ops ?_)
  (with_reducible refine k_seq_n ?_)
  (with_reducible refine w_ret ?_)
  (with_reducible refine is_b ?_); refine k_body_r rfl ?_
  exact hK _

theorem right_y3 (Y : Ys Prop) (r : Int) (K : V → Mem → Prop) (h1 : 2 ≤ r) (h2 : r ≤ 64) (h3 : r % 2 = 0) (hK : ∀ mm, K (.bool true) mm) :
   body1 pA (callD pA tab0 last0 5) Y c10 [geo 5 3 r] ⟨0, .leaf⟩ K := by
  refine w_body rfl ?_
  refine w_seq ?_
  (with_reducible refine w_ops ?_)
  (with_reducible apply o_alloc); (case hf => exact b_agg rfl)
  (with_reducible apply o_quiet); (case hf => exact q_mov (e_bool rfl))
  (with_reducible refine o_nil ?_)
  (with_reducible refine k_ops ?_)
  (with_reducible refine k_seq_n ?_)
  (with_reducible refine w_seq ?_)
  (with_reducible refine w_ops ?_)
  (with_reducible apply o_quiet); (case hf => exact q_faddr rfl)
  (with_reducible apply o_quiet); (case hf => apply q_load1; (case hx => exact e_ptr rfl); (case hm => exact g_hit rfl); (case hv => exact rfl))
  (with_reducible apply o_quiet); (case hf => exact c_eql_f rfl rfl (by omega))
  (with_reducible apply o_quiet); (case hf => exact q_mov (e_bool rfl))
  (with_reducible refine is_g ?_); refine o_pass rfl rfl ?_
  (with_reducible refine is_g ?_); refine o_pass rfl rfl ?_
  (with_reducible refine is_g ?_); refine o_pass rfl rfl ?_
  (with_reducible apply o_pick_f); (case hc => rfl); (case hv => exact e_bool rfl)
  (with_reducible apply o_quiet); (case hf => exact q_mov (e_bool rfl))
  (with_reducible refine is_g ?_); refine o_want rfl ?_
  (with_reducible apply o_quiet); (case hf => exact q_faddr rfl)
  (with_reducible refine is_g ?_); refine o_want rfl ?_
  (with_reducible apply o_quiet); (case hf => apply q_load1; (case hx => exact e_ptr rfl); (case hm => exact g_hit rfl); (case hv => exact rfl))
  (with_reducible refine is_g ?_); refine o_want rfl ?_
  (with_reducible apply o_quiet); (case hf => exact c_eql_t rfl rfl (by omega))
  (with_reducible refine is_g ?_); refine o_want rfl ?_
  (with_reducible apply o_quiet); (case hf => exact q_mov (e_bool rfl))
  (with_reducible refine is_g ?_); refine o_want rfl ?_
  (with_reducible apply o_quiet); (case hf => exact q_faddr rfl)
  (with_reducible refine is_g ?_); refine o_want rfl ?_
  (with_reducible apply o_quiet); (case hf => apply q_load1; (case hx => exact e_ptr rfl); (case hm => exact g_hit rfl); (case hv => exact rfl))
  (with_reducible refine is_g ?_); refine o_want rfl ?_
  (with_reducible apply o_quiet); (case hf => exact c_eql_t rfl rfl (by omega))
  (with_reducible refine is_g ?_); refine o_want rfl ?_
  (with_reducible apply o_quiet); (case hf => exact q_mov (e_bool rfl))
  (with_reducible refine is_g ?_); refine o_pass rfl rfl ?_
  (with_reducible refine is_g ?_); refine o_pass rfl rfl ?_
  (with_reducible refine is_g ?_); refine o_pass rfl rfl ?_
  (with_reducible refine is_g ?_); refine o_want rfl ?_
  (with_reducible apply o_pick_t); (case hc => rfl); (case hv => exact e_bool rfl)
  (with_reducible refine is_g ?_); refine o_want rfl ?_
  (with_reducible apply o_pick_t); (case hc => rfl); (case hv => exact e_bool rfl)
  (with_reducible apply o_pick_f); (case hc => rfl); (case hv => exact e_bool rfl)
  (with_reducible apply o_quiet); (case hf => exact q_mov (e_bool rfl))
  (with_reducible refine o_nil ?_)
  (with_reducible refine k_ops ?_)
  (with_reducible refine k_seq_n ?_)
  (with_reducible refine w_seq ?_)
  (with_reducible refine w_ops ?_)
  (with_reducible apply o_quiet); (case hf => exact q_mov (e_bool rfl))
  (with_reducible apply o_quiet); (case hf => exact q_mov (e_bool rfl))
  (with_reducible refine is_g ?_); refine o_want rfl ?_
  (with_reducible apply o_quiet); (case hf => exact q_faddr rfl)
  (with_reducible refine is_g ?_); refine o_want rfl ?_
  (with_reducible apply o_quiet); (case hf => apply q_load1; (case hx => exact e_ptr rfl); (case hm => exact g_hit rfl); (case hv => exact rfl))
  (with_reducible refine is_g ?_); refine o_want rfl ?_
  (with_reducible apply o_quiet); (case hf => exact c_geq_t rfl rfl (by omega))
  (with_reducible apply o_pick_t); (case hc => rfl); (case hv => exact e_bool rfl)
  (with_reducible apply o_quiet); (case hf => exact q_mov (e_bool rfl))
  (with_reducible refine is_g ?_); refine o_want rfl ?_
  (with_reducible apply o_quiet); (case hf => exact q_faddr rfl)
  (with_reducible refine is_g ?_); refine o_want rfl ?_
  (with_reducible apply o_quiet); (case hf => apply q_load1; (case hx => exact e_ptr rfl); (case hm => exact g_hit rfl); (case hv => exact rfl))
  (with_reducible refine is_g ?_); refine o_want rfl ?_
  (with_reducible apply o_quiet); (case hf => exact c_leq_t rfl rfl (by omega))
  (with_reducible apply o_pick_t); (case hc => rfl); (case hv => exact e_bool rfl)
  (with_reducible apply o_quiet); (case hf => exact q_mov (e_bool rfl))
  (with_reducible refine is_g ?_); refine o_want rfl ?_
  (with_reducible apply o_quiet); (case hf => exact q_faddr rfl)
  (with_reducible refine is_g ?_); refine o_want rfl ?_
  (with_reducible apply o_quiet); (case hf => apply q_load1; (case hx => exact e_ptr rfl); (case hm => exact g_hit rfl); (case hv => exact rfl))
  (with_reducible refine is_g ?_); refine o_want rfl ?_
  (with_reducible apply o_quiet); (case hf => exact a_rem rfl rfl (by omega) (by omega) rfl)
  (with_reducible refine is_g ?_); refine o_want rfl ?_
  (with_reducible apply o_quiet); (case hf => exact c_eql_t rfl rfl (by omega))
  (with_reducible apply o_pick_t); (case hc => rfl); (case hv => exact e_bool rfl)
  (with_reducible apply o_quiet); (case hf => exact q_mov (e_bool rfl))
  (with_reducible refine o_nil ?_)
  (with_reducible refine k_ops ?_)
  (with_reducible refine k_seq_n ?_)
  (with_reducible refine w_ret ?_)
  (with_reducible refine is_b ?_); refine k_body_r rfl ?_
  exact hK _

theorem right_a3 (Y : Ys Prop) (r : Int) (K : V → Mem → Prop) (h1 : r < 2) (hK : ∀ mm, K (.bool false) mm) :
   body1 pA (callD pA tab0 last0 5) Y c10 [geo 5 3 r] ⟨0, .leaf⟩ K := by
  refine w_body rfl ?_
  refine w_seq ?_
  (with_reducible refine w_ops ?_)
  (with_reducible apply o_alloc); (case hf => exact b_agg rfl)
  (with_reducible apply o_quiet); (case hf => exact q_mov (e_bool rfl))
  (with_reducible refine o_nil ?_)
  (with_reducible refine k_ops ?_)
  (with_reducible refine k_seq_n ?_)
  (with_reducible refine w_seq ?_)
  (with_reducible refine w_ops ?_)
  (with_reducible apply o_quiet); (case hf => exact q_faddr rfl)
  (with_reducible apply o_quiet); (case hf => apply q_load1; (case hx => exact e_ptr rfl); (case hm => exact g_hit rfl); (case hv => exact rfl))
  (with_reducible apply o_quiet); (case hf => exact c_eql_f rfl rfl (by omega))
  (with_reducible apply o_quiet); (case hf => exact q_mov (e_bool rfl))
  (with_reducible refine is_g ?_); refine o_pass rfl rfl ?_
  (with_reducible refine is_g ?_); refine o_pass rfl rfl ?_
  (with_reducible refine is_g ?_); refine o_pass rfl rfl ?_
  (with_reducible apply o_pick_f); (case hc => rfl); (case hv => exact e_bool rfl)
  (with_reducible apply o_quiet); (case hf => exact q_mov (e_bool rfl))
  (with_reducible refine is_g ?_); refine o_want rfl ?_
  (with_reducible apply o_quiet); (case hf => exact q_faddr rfl)
  (with_reducible refine is_g ?_); refine o_want rfl ?_
  (with_reducible apply o_quiet); (case hf => apply q_load1; (case hx => exact e_ptr rfl); (case hm => exact g_hit rfl); (case hv => exact rfl))
  (with_reducible refine is_g ?_); refine o_want rfl ?_
  (with_reducible apply o_quiet); (case hf => exact c_eql_t rfl rfl (by omega))
  (with_reducible refine is_g ?_); refine o_want rfl ?_
  (with_reducible apply o_quiet); (case hf => exact q_mov (e_bool rfl))
  (with_reducible refine is_g ?_); refine o_want rfl ?_
  (with_reducible apply o_quiet); (case hf => exact q_faddr rfl)
  (with_reducible refine is_g ?_); refine o_want rfl ?_
  (with_reducible apply o_quiet); (case hf => apply q_load1; (case hx => exact e_ptr rfl); (case hm => exact g_hit rfl); (case hv => exact rfl))
  (with_reducible refine is_g ?_); refine o_want rfl ?_
  (with_reducible apply o_quiet); (case hf => exact c_eql_t rfl rfl (by omega))
  (with_reducible refine is_g ?_); refine o_want rfl ?_
  (with_reducible apply o_quiet); (case hf => exact q_mov (e_bool rfl))
  (with_reducible refine is_g ?_); refine o_pass rfl rfl ?_
  (with_reducible refine is_g ?_); refine o_pass rfl rfl ?_
  (with_reducible refine is_g ?_); refine o_pass rfl rfl ?_
  (with_reducible refine is_g ?_); refine o_want rfl ?_
  (with_reducible apply o_pick_t); (case hc => rfl); (case hv => exact e_bool rfl)
  (with_reducible refine is_g ?_); refine o_want rfl ?_
  (with_reducible apply o_pick_t); (case hc => rfl); (case hv => exact e_bool rfl)
  (with_reducible apply o_pick_f); (case hc => rfl); (case hv => exact e_bool rfl)
  (with_reducible apply o_quiet); (case hf => exact q_mov (e_bool rfl))
  (with_reducible refine o_nil ?_)
  (with_reducible refine k_ops ?_)
  (with_reducible refine k_seq_n ?_)
  (with_reducible refine w_seq ?_)
  (with_reducible refine w_ops ?_)
  (with_reducible apply o_quiet); (case hf => exact q_mov (e_bool rfl))
  (with_reducible apply o_quiet); (case hf => exact q_mov (e_bool rfl))
  (with_reducible refine is_g ?_); refine o_want rfl ?_
  (with_reducible apply o_quiet); (case hf => exact q_faddr rfl)
  (with_reducible refine is_g ?_); refine o_want rfl ?_
  (with_reducible apply o_quiet); (case hf => apply q_load1; (case hx => exact e_ptr rfl); (case hm => exact g_hit rfl); (case hv => exact rfl))
  (with_reducible refine is_g ?_); refine o_want rfl ?_
  (with_reducible apply o_quiet); (case hf => exact c_geq_f rfl rfl (by omega))
  (with_reducible apply o_pick_t); (case hc => rfl); (case hv => exact e_bool rfl)
  (with_reducible apply o_quiet); (case hf => exact q_mov (e_bool rfl))
  (with_reducible refine is_g ?_); refine o_pass rfl rfl ?_
  (with_reducible refine is_g ?_); refine o_pass rfl rfl ?_
  (with_reducible refine is_g ?_); refine o_pass rfl rfl ?_
  (with_reducible apply o_pick_f); (case hc => rfl); (case hv => exact e_bool rfl)
  (with_reducible apply o_quiet); (case hf => exact q_mov (e_bool rfl))
  (with_reducible refine is_g ?_); refine o_pass rfl rfl ?_
  (with_reducible refine is_g ?_); refine o_pass rfl rfl ?_
  (with_reducible refine is_g ?_); refine o_pass rfl rfl ?_
  (with_reducible refine is_g ?_); refine o_pass rfl rfl ?_
  (with_reducible apply o_pick_f); (case hc => rfl); (case hv => exact e_bool rfl)
  (with_reducible apply o_quiet); (case hf => exact q_mov (e_bool rfl))
  (with_reducible refine o_nil ?_)
  (with_reducible refine k_ops ?_)
  (with_reducible refine k_seq_n ?_)
  (with_reducible refine w_ret ?_)
  (with_reducible refine is_b ?_); refine k_body_r rfl ?_
  exact hK _

theorem right_b3 (Y : Ys Prop) (r : Int) (K : V → Mem → Prop) (h1 : 64 < r) (hK : ∀ mm, K (.bool false) mm) :
   body1 pA (callD pA tab0 last0 5) Y c10 [geo 5 3 r] ⟨0, .leaf⟩ K := by
  refine w_body rfl ?_
  refine w_seq ?_
  (with_reducible refine w_ops ?_)
  (with_reducible apply o_alloc); (case hf => exact b_agg rfl)
  (with_reducible apply o_quiet); (case hf => exact q_mov (e_bool rfl))
  (with_reducible refine o_nil ?_)
  (with_reducible refine k_ops ?_)
  (with_reducible refine k_seq_n ?_)
  (with_reducible refine w_seq ?_)
  (with_reducible refine w_ops ?_)
  (with_reducible apply o_quiet); (case hf => exact q_faddr rfl)
  (with_reducible apply o_quiet); (case hf => apply q_load1; (case hx => exact e_ptr rfl); (case hm => exact g_hit rfl); (case hv => exact rfl))
  (with_reducible apply o_quiet); (case hf => exact c_eql_f rfl rfl (by omega))
  (with_reducible apply o_quiet); (case hf => exact q_mov (e_bool rfl))
  (with_reducible refine is_g ?_); refine o_pass rfl rfl ?_
  (with_reducible refine is_g ?_); refine o_pass rfl rfl ?_
  (with_reducible refine is_g ?_); refine o_pass rfl rfl ?_
  (with_reducible apply o_pick_f); (case hc => rfl); (case hv => exact e_bool rfl)
  (with_reducible apply o_quiet); (case hf => exact q_mov (e_bool rfl))
  (with_reducible refine is_g ?_); refine o_want rfl ?_
  (with_reducible apply o_quiet); (case hf => exact q_faddr rfl)
  (with_reducible refine is_g ?_); refine o_want rfl ?_
  (with_reducible apply o_quiet); (case hf => apply q_load1; (case hx => exact e_ptr rfl); (case hm => exact g_hit rfl); (case hv => exact rfl))
  (with_reducible refine is_g ?_); refine o_want rfl ?_
  (with_reducible apply o_quiet); (case hf => exact c_eql_t rfl rfl (by omega))
  (with_reducible refine is_g ?_); refine o_want rfl ?_
  (with_reducible apply o_quiet); (case hf => exact q_mov (e_bool rfl))
  (with_reducible refine is_g ?_); refine o_want rfl ?_
  (with_reducible apply o_quiet); (case hf => exact q_faddr rfl)
  (with_reducible refine is_g ?_); refine o_want rfl ?_
  (with_reducible apply o_quiet); (case hf => apply q_load1; (case hx => exact e_ptr rfl); (case hm => exact g_hit rfl); (case hv => exact rfl))
  (with_reducible refine is_g ?_); refine o_want rfl ?_
  (with_reducible apply o_quiet); (case hf => exact c_eql_t rfl rfl (by omega))
  (with_reducible refine is_g ?_); refine o_want rfl ?_
  (with_reducible apply o_quiet); (case hf => exact q_mov (e_bool rfl))
  (with_reducible refine is_g ?_); refine o_pass rfl rfl ?_
  (with_reducible refine is_g ?_); refine o_pass rfl rfl ?_
  (with_reducible refine is_g ?_); refine o_pass rfl rfl ?_
  (with_reducible refine is_g ?_); refine o_want rfl ?_
  (with_reducible apply o_pick_t); (case hc => rfl); (case hv => exact e_bool rfl)
  (with_reducible refine is_g ?_); refine o_want rfl ?_
  (with_reducible apply o_pick_t); (case hc => rfl); (case hv => exact e_bool rfl)
  (with_reducible apply o_pick_f); (case hc => rfl); (case hv => exact e_bool rfl)
  (with_reducible apply o_quiet); (case hf => exact q_mov (e_bool rfl))
  (with_reducible refine o_nil ?_)
  (with_reducible refine k_ops ?_)
  (with_reducible refine k_seq_n ?_)
  (with_reducible refine w_seq ?_)
  (with_reducible refine w_ops ?_)
  (with_reducible apply o_quiet); (case hf => exact q_mov (e_bool rfl))
  (with_reducible apply o_quiet); (case hf => exact q_mov (e_bool rfl))
  (with_reducible refine is_g ?_); refine o_want rfl ?_
  (with_reducible apply o_quiet); (case hf => exact q_faddr rfl)
  (with_reducible refine is_g ?_); refine o_want rfl ?_
  (with_reducible apply o_quiet); (case hf => apply q_load1; (case hx => exact e_ptr rfl); (case hm => exact g_hit rfl); (case hv => exact rfl))
  (with_reducible refine is_g ?_); refine o_want rfl ?_
  (with_reducible apply o_quiet); (case hf => exact c_geq_t rfl rfl (by omega))
  (with_reducible apply o_pick_t); (case hc => rfl); (case hv => exact e_bool rfl)
  (with_reducible apply o_quiet); (case hf => exact q_mov (e_bool rfl))
  (with_reducible refine is_g ?_); refine o_want rfl ?_
  (with_reducible apply o_quiet); (case hf => exact q_faddr rfl)
  (with_reducible refine is_g ?_); refine o_want rfl ?_
  (with_reducible apply o_quiet); (case hf => apply q_load1; (case hx => exact e_ptr rfl); (case hm => exact g_hit rfl); (case hv => exact rfl))
  (with_reducible refine is_g ?_); refine o_want rfl ?_
  (with_reducible apply o_quiet); (case hf => exact c_leq_f rfl rfl (by omega))
  (with_reducible apply o_pick_t); (case hc => rfl); (case hv => exact e_bool rfl)
  (with_reducible apply o_quiet); (case hf => exact q_mov (e_bool rfl))
  (with_reducible refine is_g ?_); refine o_pass rfl rfl ?_
  (with_reducible refine is_g ?_); refine o_pass rfl rfl ?_
  (with_reducible refine is_g ?_); refine o_pass rfl rfl ?_
  (with_reducible refine is_g ?_); refine o_pass rfl rfl ?_
  (with_reducible apply o_pick_f); (case hc => rfl); (case hv => exact e_bool rfl)
  (with_reducible apply o_quiet); (case hf => exact q_mov (e_bool rfl))
  (with_reducible refine o_nil ?_)
  (with_reducible refine k_ops ?_)
  (with_reducible refine k_seq_n ?_)
  (with_reducible refine w_ret ?_)
  (with_reducible refine is_b ?_); refine k_body_r rfl ?_
  exact hK _

theorem right_c3 (Y : Ys Prop) (r : Int) (K : V → Mem → Prop) (h1 : 2 ≤ r) (h2 : r ≤ 64) (h3 : r % 2 ≠ 0) (hK : ∀ mm, K (.bool false) mm) :
   body1 pA (callD pA tab0 last0 5) Y c10 [geo 5 3 r] ⟨0, .leaf⟩ K := by
  refine w_body rfl ?_
  refine w_seq ?_
  (with_reducible refine w_ops ?_)
  (with_reducible apply o_alloc); (case hf => exact b_agg rfl)
  (with_reducible apply o_quiet); (case hf => exact q_mov (e_bool rfl))
  (with_reducible refine o_nil ?_)
  (with_reducible refine k_ops ?_)
  (with_reducible refine k_seq_n ?_)
  (with_reducible refine w_seq ?_)
  (with_reducible refine w_ops ?_)
  (with_reducible apply o_quiet); (case hf => exact q_faddr rfl)
  (with_reducible apply o_quiet); (case hf => apply q_load1; (case hx => exact e_ptr rfl); (case hm => exact g_hit rfl); (case hv => exact rfl))
  (with_reducible apply o_quiet); (case hf => exact c_eql_f rfl rfl (by omega))
  (with_reducible apply o_quiet); (case hf => exact q_mov (e_bool rfl))
  (with_reducible refine is_g ?_); refine o_pass rfl rfl ?_
  (with_reducible refine is_g ?_); refine o_pass rfl rfl ?_
  (with_reducible refine is_g ?_); refine o_pass rfl rfl ?_
  (with_reducible apply o_pick_f); (case hc => rfl); (case hv => exact e_bool rfl)
  (with_reducible apply o_quiet); (case hf => exact q_mov (e_bool rfl))
  (with_reducible refine is_g ?_); refine o_want rfl ?_
  (with_reducible apply o_quiet); (case hf => exact q_faddr rfl)
  (with_reducible refine is_g ?_); refine o_want rfl ?_
  (with_reducible apply o_quiet); (case hf => apply q_load1; (case hx => exact e_ptr rfl); (case hm => exact g_hit rfl); (case hv => exact rfl))
  (with_reducible refine is_g ?_); refine o_want rfl ?_
  (with_reducible apply o_quiet); (case hf => exact c_eql_t rfl rfl (by omega))
  (with_reducible refine is_g ?_); refine o_want rfl ?_
  (with_reducible apply o_quiet); (case hf => exact q_mov (e_bool rfl))
  (with_reducible refine is_g ?_); refine o_want rfl ?_
  (with_reducible apply o_quiet); (case hf => exact q_faddr rfl)
  (with_reducible refine is_g ?_); refine o_want rfl ?_
  (with_reducible apply o_quiet); (case hf => apply q_load1; (case hx => exact e_ptr rfl); (case hm => exact g_hit rfl); (case hv => exact rfl))
  (with_reducible refine is_g ?_); refine o_want rfl ?_
  (with_reducible apply o_quiet); (case hf => exact c_eql_t rfl rfl (by omega))
  (with_reducible refine is_g ?_); refine o_want rfl ?_
  (with_reducible apply o_quiet); (case hf => exact q_mov (e_bool rfl))
  (with_reducible refine is_g ?_); refine o_pass rfl rfl ?_
  (with_reducible refine is_g ?_); refine o_pass rfl rfl ?_
  (with_reducible refine is_g ?_); refine o_pass rfl rfl ?_
  (with_reducible refine is_g ?_); refine o_want rfl ?_
  (with_reducible apply o_pick_t); (case hc => rfl); (case hv => exact e_bool rfl)
  (with_reducible refine is_g ?_); refine o_want rfl ?_
  (with_reducible apply o_pick_t); (case hc => rfl); (case hv => exact e_bool rfl)
  (with_reducible apply o_pick_f); (case hc => rfl); (case hv => exact e_bool rfl)
  (with_reducible apply o_quiet); (case hf => exact q_mov (e_bool rfl))
  (with_reducible refine o_nil ?_)
  (with_reducible refine k_ops ?_)
  (with_reducible refine k_seq_n ?_)
  (with_reducible refine w_seq ?_)
  (with_reducible refine w_ops ?_)
  (with_reducible apply o_quiet); (case hf => exact q_mov (e_bool rfl))
  (with_reducible apply o_quiet); (case hf => exact q_mov (e_bool rfl))
  (with_reducible refine is_g ?_); refine o_want rfl ?_
  (with_reducible apply o_quiet); (case hf => exact q_faddr rfl)
  (with_reducible refine is_g ?_); refine o_want rfl ?_
  (with_reducible apply o_quiet); (case hf => apply q_load1; (case hx => exact e_ptr rfl); (case hm => exact g_hit rfl); (case hv => exact rfl))
  (with_reducible refine is_g ?_); refine o_want rfl ?_
  (with_reducible apply o_quiet); (case hf => exact c_geq_t rfl rfl (by omega))
  (with_reducible apply o_pick_t); (case hc => rfl); (case hv => exact e_bool rfl)
  (with_reducible apply o_quiet); (case hf => exact q_mov (e_bool rfl))
  (with_reducible refine is_g ?_); refine o_want rfl ?_
  (with_reducible apply o_quiet); (case hf => exact q_faddr rfl)
  (with_reducible refine is_g ?_); refine o_want rfl ?_
  (with_reducible apply o_quiet); (case hf => apply q_load1; (case hx => exact e_ptr rfl); (case hm => exact g_hit rfl); (case hv => exact rfl))
  (with_reducible refine is_g ?_); refine o_want rfl ?_
  (with_reducible apply o_quiet); (case hf => exact c_leq_t rfl rfl (by omega))
  (with_reducible apply o_pick_t); (case hc => rfl); (case hv => exact e_bool rfl)
  (with_reducible apply o_quiet); (case hf => exact q_mov (e_bool rfl))
  (with_reducible refine is_g ?_); refine o_want rfl ?_
  (with_reducible apply o_quiet); (case hf => exact q_faddr rfl)
  (with_reducible refine is_g ?_); refine o_want rfl ?_
  (with_reducible apply o_quiet); (case hf => apply q_load1; (case hx => exact e_ptr rfl); (case hm => exact g_hit rfl); (case hv => exact rfl))
  (with_reducible refine is_g ?_); refine o_want rfl ?_
  (with_reducible apply o_quiet); (case hf => exact a_rem rfl rfl (by omega) (by omega) rfl)
  (with_reducible refine is_g ?_); refine o_want rfl ?_
  (with_reducible apply o_quiet); (case hf => exact c_eql_f rfl rfl (by omega))
  (with_reducible apply o_pick_t); (case hc => rfl); (case hv => exact e_bool rfl)
  (with_reducible apply o_quiet); (case hf => exact q_mov (e_bool rfl))
  (with_reducible refine o_nil ?_)
  (with_reducible refine k_ops ?_)
  (with_reducible refine k_seq_n ?_)
  (with_reducible refine w_ret ?_)
  (with_reducible refine is_b ?_); refine k_body_r rfl ?_
  exact hK _

theorem right_y4 (Y : Ys Prop) (r : Int) (K : V → Mem → Prop) (h1 : 2 ≤ r) (h2 : r ≤ 64) (h3 : r % 2 = 0) (hK : ∀ mm, K (.bool true) mm) :
   body1 pA (callD pA tab0 last0 5) Y c10 [geo 5 4 r] ⟨0, .leaf⟩ K := by
  refine w_body rfl ?_
  refine w_seq ?_
  (with_reducible refine w_ops ?_)
  (with_reducible apply o_alloc); (case hf => exact b_agg rfl)
  (with_reducible apply o_quiet); (case hf => exact q_mov (e_bool rfl))
  (with_reducible refine o_nil ?_)
  (with_reducible refine k_ops ?_)
  (with_reducible refine k_seq_n ?_)
  (with_reducible refine w_seq ?_)
  (with_reducible refine w_ops ?_)
  (with_reducible apply o_quiet); (case hf => exact q_faddr rfl)
  (with_reducible apply o_quiet); (case hf => apply q_load1; (case hx => exact e_ptr rfl); (case hm => exact g_hit rfl); (case hv => exact rfl))
  (with_reducible apply o_quiet); (case hf => exact c_eql_f rfl rfl (by omega))
  (with_reducible apply o_quiet); (case hf => exact q_mov (e_bool rfl))
  (with_reducible refine is_g ?_); refine o_pass rfl rfl ?_
  (with_reducible refine is_g ?_); refine o_pass rfl rfl ?_
  (with_reducible refine is_g ?_); refine o_pass rfl rfl ?_
  (with_reducible apply o_pick_f); (case hc => rfl); (case hv => exact e_bool rfl)
  (with_reducible apply o_quiet); (case hf => exact q_mov (e_bool rfl))
  (with_reducible refine is_g ?_); refine o_want rfl ?_
  (with_reducible apply o_quiet); (case hf => exact q_faddr rfl)
  (with_reducible refine is_g ?_); refine o_want rfl ?_
  (with_reducible apply o_quiet); (case hf => apply q_load1; (case hx => exact e_ptr rfl); (case hm => exact g_hit rfl); (case hv => exact rfl))
  (with_reducible refine is_g ?_); refine o_want rfl ?_
  (with_reducible apply o_quiet); (case hf => exact c_eql_t rfl rfl (by omega))
  (with_reducible refine is_g ?_); refine o_want rfl ?_
  (with_reducible apply o_quiet); (case hf => exact q_mov (e_bool rfl))
  (with_reducible refine is_g ?_); refine o_want rfl ?_
  (with_reducible apply o_quiet); (case hf => exact q_faddr rfl)
  (with_reducible refine is_g ?_); refine o_want rfl ?_
  (with_reducible apply o_quiet); (case hf => apply q_load1; (case hx => exact e_ptr rfl); (case hm => exact g_hit rfl); (case hv => exact rfl))
  (with_reducible refine is_g ?_); refine o_want rfl ?_
  (with_reducible apply o_quiet); (case hf => exact c_eql_f rfl rfl (by omega))
  (with_reducible refine is_g ?_); refine o_want rfl ?_
  (with_reducible apply o_quiet); (case hf => exact q_mov (e_bool rfl))
  (with_reducible refine is_g ?_); refine o_want rfl ?_
  (with_reducible apply o_quiet); (case hf => exact q_faddr rfl)
  (with_reducible refine is_g ?_); refine o_want rfl ?_
  (with_reducible apply o_quiet); (case hf => apply q_load1; (case hx => exact e_ptr rfl); (case hm => exact g_hit rfl); (case hv => exact rfl))
  (with_reducible refine is_g ?_); refine o_want rfl ?_
  (with_reducible apply o_quiet); (case hf => exact c_eql_t rfl rfl (by omega))
  (with_reducible refine is_g ?_); refine o_want rfl ?_
  (with_reducible apply o_pick_f); (case hc => rfl); (case hv => exact e_bool rfl)
  (with_reducible refine is_g ?_); refine o_want rfl ?_
  (with_reducible apply o_pick_t); (case hc => rfl); (case hv => exact e_bool rfl)
  (with_reducible apply o_pick_f); (case hc => rfl); (case hv => exact e_bool rfl)
  (with_reducible apply o_quiet); (case hf => exact q_mov (e_bool rfl))
  (with_reducible refine o_nil ?_)
  (with_reducible refine k_ops ?_)
  (with_reducible refine k_seq_n ?_)
  (with_reducible refine w_seq ?_)
  (with_reducible refine w_ops ?_)
  (with_reducible apply o_quiet); (case hf => exact q_mov (e_bool rfl))
  (with_reducible apply o_quiet); (case hf => exact q_mov (e_bool rfl))
  (with_reducible refine is_g ?_); refine o_want rfl ?_
  (with_reducible apply o_quiet); (case hf => exact q_faddr rfl)
  (with_reducible refine is_g ?_); refine o_want rfl ?_
  (with_reducible apply o_quiet); (case hf => apply q_load1; (case hx => exact e_ptr rfl); (case hm => exact g_hit rfl); (case hv => exact rfl))
  (with_reducible refine is_g ?_); refine o_want rfl ?_
  (with_reducible apply o_quiet); (case hf => exact c_geq_t rfl rfl (by omega))
  (with_reducible apply o_pick_t); (case hc => rfl); (case hv => exact e_bool rfl)
  (with_reducible apply o_quiet); (case hf => exact q_mov (e_bool rfl))
  (with_reducible refine is_g ?_); refine o_want rfl ?_
  (with_reducible apply o_quiet); (case hf => exact q_faddr rfl)
  (with_reducible refine is_g ?_); refine o_want rfl ?_
  (with_reducible apply o_quiet); (case hf => apply q_load1; (case hx => exact e_ptr rfl); (case hm => exact g_hit rfl); (case hv => exact rfl))
  (with_reducible refine is_g ?_); refine o_want rfl ?_
  (with_reducible apply o_quiet); (case hf => exact c_leq_t rfl rfl (by omega))
  (with_reducible apply o_pick_t); (case hc => rfl); (case hv => exact e_bool rfl)
  (with_reducible apply o_quiet); (case hf => exact q_mov (e_bool rfl))
  (with_reducible refine is_g ?_); refine o_want rfl ?_
  (with_reducible apply o_quiet); (case hf => exact q_faddr rfl)
  (with_reducible refine is_g ?_); refine o_want rfl ?_
  (with_reducible apply o_quiet); (case hf => apply q_load1; (case hx => exact e_ptr rfl); (case hm => exact g_hit rfl); (case hv => exact rfl))
  (with_reducible refine is_g ?_); refine o_want rfl ?_
  (with_reducible apply o_quiet); (case hf => exact a_rem rfl rfl (by omega) (by omega) rfl)
  (with_reducible refine is_g ?_); refine o_want rfl ?_
  (with_reducible apply o_quiet); (case hf => exact c_eql_t rfl rfl (by omega))
  (with_reducible apply o_pick_t); (case hc => rfl); (case hv => exact e_bool rfl)
  (with_reducible apply o_quiet); (case hf => exact q_mov (e_bool rfl))
  (with_reducible refine o_nil ?_)
  (with_reducible refine k_ops ?_)
  (with_reducible refine k_seq_n ?_)
  (with_reducible refine w_ret ?_)
  (with_reducible refine is_b ?_); refine k_body_r rfl ?_
  exact hK _

theorem right_a4 (Y : Ys Prop) (r : Int) (K : V → Mem → Prop) (h1 : r < 2) (hK : ∀ mm, K (.bool false) mm) :
   body1 pA (callD pA tab0 last0 5) Y c10 [geo 5 4 r] ⟨0, .leaf⟩ K := by
  refine w_body rfl ?_
  refine w_seq ?_
  (with_reducible refine w_ops ?_)
  (with_reducible apply o_alloc); (case hf => exact b_agg rfl)
  (with_reducible apply o_quiet); (case hf => exact q_mov (e_bool rfl))
  (with_reducible refine o_nil ?_)
  (with_reducible refine k_ops ?_)
  (with_reducible refine k_seq_n ?_)
  (with_reducible refine w_seq ?_)
  (with_reducible refine w_ops ?_)
  (with_reducible apply o_quiet); (case hf => exact q_faddr rfl)
  (with_reducible apply o_quiet); (case hf => apply q_load1; (case hx => exact e_ptr rfl); (case hm => exact g_hit rfl); (case hv => exact rfl))
  (with_reducible apply o_quiet); (case hf => exact c_eql_f rfl rfl (by omega))
  (with_reducible apply o_quiet); (case hf => exact q_mov (e_bool rfl))
  (with_reducible refine is_g ?_); refine o_pass rfl rfl ?_
  (with_reducible refine is_g ?_); refine o_pass rfl rfl ?_
  (with_reducible refine is_g ?_); refine o_pass rfl rfl ?_
  (with_reducible apply o_pick_f); (case hc => rfl); (case hv => exact e_bool rfl)
  (with_reducible apply o_quiet); (case hf => exact q_mov (e_bool rfl))
  (with_reducible refine is_g ?_); refine o_want rfl ?_
  (with_reducible apply o_quiet); (case hf => exact q_faddr rfl)
  (with_reducible refine is_g ?_); refine o_want rfl ?_
  (with_reducible apply o_quiet); (case hf => apply q_load1; (case hx => exact e_ptr rfl); (case hm => exact g_hit rfl); (case hv => exact rfl))
  (with_reducible refine is_g ?_); refine o_want rfl ?_
  (with_reducible apply o_quiet); (case hf => exact c_eql_t rfl rfl (by omega))
  (with_reducible refine is_g ?_); refine o_want rfl ?_
  (with_reducible apply o_quiet); (case hf => exact q_mov (e_bool rfl))
  (with_reducible refine is_g ?_); refine o_want rfl ?_
  (with_reducible apply o_quiet); (case hf => exact q_faddr rfl)
  (with_reducible refine is_g ?_); refine o_want rfl ?_
  (with_reducible apply o_quiet); (case hf => apply q_load1; (case hx => exact e_ptr rfl); (case hm => exact g_hit rfl); (case hv => exact rfl))
  (with_reducible refine is_g ?_); refine o_want rfl ?_
  (with_reducible apply o_quiet); (case hf => exact c_eql_f rfl rfl (by omega))
  (with_reducible refine is_g ?_); refine o_want rfl ?_
  (with_reducible apply o_quiet); (case hf => exact q_mov (e_bool rfl))
  (with_reducible refine is_g ?_); refine o_want rfl ?_
  (with_reducible apply o_quiet); (case hf => exact q_faddr rfl)
  (with_reducible refine is_g ?_); refine o_want rfl ?_
  (with_reducible apply o_quiet); (case hf => apply q_load1; (case hx => exact e_ptr rfl); (case hm => exact g_hit rfl); (case hv => exact rfl))
  (with_reducible refine is_g ?_); refine o_want rfl ?_
  (with_reducible apply o_quiet); (case hf => exact c_eql_t rfl rfl (by omega))
  (with_reducible refine is_g ?_); refine o_want rfl ?_
  (with_reducible apply o_pick_f); (case hc => rfl); (case hv => exact e_bool rfl)
  (with_reducible refine is_g ?_); refine o_want rfl ?_
  (with_reducible apply o_pick_t); (case hc => rfl); (case hv => exact e_bool rfl)
  (with_reducible apply o_pick_f); (case hc => rfl); (case hv => exact e_bool rfl)
  (with_reducible apply o_quiet); (case hf => exact q_mov (e_bool rfl))
  (with_reducible refine o_nil ?_)
  (with_reducible refine k_ops ?_)
  (with_reducible refine k_seq_n ?_)
  (with_reducible refine w_seq ?_)
  (with_reducible refine w_ops ?_)
  (with_reducible apply o_quiet); (case hf => exact q_mov (e_bool rfl))
  (with_reducible apply o_quiet); (case hf => exact q_mov (e_bool rfl))
  (with_reducible refine is_g ?_); refine o_want rfl ?_
  (with_reducible apply o_quiet); (case hf => exact q_faddr rfl)
  (with_reducible refine is_g ?_); refine o_want rfl ?_
  (with_reducible apply o_quiet); (case hf => apply q_load1; (case hx => exact e_ptr rfl); (case hm => exact g_hit rfl); (case hv => exact rfl))
  (with_reducible refine is_g ?_); refine o_want rfl ?_
  (with_reducible apply o_quiet); (case hf => exact c_geq_f rfl rfl (by omega))
  (with_reducible apply o_pick_t); (case hc => rfl); (case hv => exact e_bool rfl)
  (with_reducible apply o_quiet); (case hf => exact q_mov (e_bool rfl))
  (with_reducible refine is_g ?_); refine o_pass rfl rfl ?_
  (with_reducible refine is_g ?_); refine o_pass rfl rfl ?_
  (with_reducible refine is_g ?_); refine o_pass rfl rfl ?_
  (with_reducible apply o_pick_f); (case hc => rfl); (case hv => exact e_bool rfl)
  (with_reducible apply o_quiet); (case hf => exact q_mov (e_bool rfl))
  (with_reducible refine is_g ?_); refine o_pass rfl rfl ?_
  (with_reducible refine is_g ?_); refine o_pass rfl rfl ?_
  (with_reducible refine is_g ?_); refine o_pass rfl rfl ?_
  (with_reducible refine is_g ?_); refine o_pass rfl rfl ?_
  (with_reducible apply o_pick_f); (case hc => rfl); (case hv => exact e_bool rfl)
  (with_reducible apply o_quiet); (case hf => exact q_mov (e_bool rfl))
  (with_reducible refine o_nil ?_)
  (with_reducible refine k_ops ?_)
  (with_reducible refine k_seq_n ?_)
  (with_reducible refine w_ret ?_)
  (with_reducible refine is_b ?_); refine k_body_r rfl ?_
  exact hK _

theorem right_b4 (Y : Ys Prop) (r : Int) (K : V → Mem → Prop) (h1 : 64 < r) (hK : ∀ mm, K (.bool false) mm) :
   body1 pA (callD pA tab0 last0 5) Y c10 [geo 5 4 r] ⟨0, .leaf⟩ K := by
  refine w_body rfl ?_
  refine w_seq ?_
  (with_reducible refine w_ops ?_)
  (with_reducible apply o_alloc); (case hf => exact b_agg rfl)
  (with_reducible apply o_quiet); (case hf => exact q_mov (e_bool rfl))
  (with_reducible refine o_nil ?_)
  (with_reducible refine k_ops ?_)
  (with_reducible refine k_seq_n ?_)
  (with_reducible refine w_seq ?_)
  (with_reducible refine w_ops ?_)
  (with_reducible apply o_quiet); (case hf => exact q_faddr rfl)
  (with_reducible apply o_quiet); (case hf => apply q_load1; (case hx => exact e_ptr rfl); (case hm => exact g_hit rfl); (case hv => exact rfl))
  (with_reducible apply o_quiet); (case hf => exact c_eql_f rfl rfl (by omega))
  (with_reducible apply o_quiet); (case hf => exact q_mov (e_bool rfl))
  (with_reducible refine is_g ?_); refine o_pass rfl rfl ?_
  (with_reducible refine is_g ?_); refine o_pass rfl rfl ?_
  (with_reducible refine is_g ?_); refine o_pass rfl rfl ?_
  (with_reducible apply o_pick_f); (case hc => rfl); (case hv => exact e_bool rfl)
  (with_reducible apply o_quiet); (case hf => exact q_mov (e_bool rfl))
  (with_reducible refine is_g ?_); refine o_want rfl ?_
  (with_reducible apply o_quiet); (case hf => exact q_faddr rfl)
  (with_reducible refine is_g ?_); refine o_want rfl ?_
  (with_reducible apply o_quiet); (case hf => apply q_load1; (case hx => exact e_ptr rfl); (case hm => exact g_hit rfl); (case hv => exact rfl))
  (with_reducible refine is_g ?_); refine o_want rfl ?_
  (with_reducible apply o_quiet); (case hf => exact c_eql_t rfl rfl (by omega))
  (with_reducible refine is_g ?_); refine o_want rfl ?_
  (with_reducible apply o_quiet); (case hf => exact q_mov (e_bool rfl))
  (with_reducible refine is_g ?_); refine o_want rfl ?_
  (with_reducible apply o_quiet); (case hf => exact q_faddr rfl)
  (with_reducible refine is_g ?_); refine o_want rfl ?_
  (with_reducible apply o_quiet); (case hf => apply q_load1; (case hx => exact e_ptr rfl); (case hm => exact g_hit rfl); (case hv => exact rfl))
  (with_reducible refine is_g ?_); refine o_want rfl ?_
  (with_reducible apply o_quiet); (case hf => exact c_eql_f rfl rfl (by omega))
  (with_reducible refine is_g ?_); refine o_want rfl ?_
  (with_reducible apply o_quiet); (case hf => exact q_mov (e_bool rfl))
  (with_reducible refine is_g ?_); refine o_want rfl ?_
  (with_reducible apply o_quiet); (case hf => exact q_faddr rfl)
  (with_reducible refine is_g ?_); refine o_want rfl ?_
  (with_reducible apply o_quiet); (case hf => apply q_load1; (case hx => exact e_ptr rfl); (case hm => exact g_hit rfl); (case hv => exact rfl))
  (with_reducible refine is_g ?_); refine o_want rfl ?_
  (with_reducible apply o_quiet); (case hf => exact c_eql_t rfl rfl (by omega))
  (with_reducible refine is_g ?_); refine o_want rfl ?_
  (with_reducible apply o_pick_f); (case hc => rfl); (case hv => exact e_bool rfl)
  (with_reducible refine is_g ?_); refine o_want rfl ?_
  (with_reducible apply o_pick_t); (case hc => rfl); (case hv => exact e_bool rfl)
  (with_reducible apply o_pick_f); (case hc => rfl); (case hv => exact e_bool rfl)
  (with_reducible apply o_quiet); (case hf => exact q_mov (e_bool rfl))
  (with_reducible refine o_nil ?_)
  (with_reducible refine k_ops ?_)
  (with_reducible refine k_seq_n ?_)
  (with_reducible refine w_seq ?_)
  (with_reducible refine w_ops ?_)
  (with_reducible apply o_quiet); (case hf => exact q_mov (e_bool rfl))
  (with_reducible apply o_quiet); (case hf => exact q_mov (e_bool rfl))
  (with_reducible refine is_g ?_); refine o_want rfl ?_
  (with_reducible apply o_quiet); (case hf => exact q_faddr rfl)
  (with_reducible refine is_g ?_); refine o_want rfl ?_
  (with_reducible apply o_quiet); (case hf => apply q_load1; (case hx => exact e_ptr rfl); (case hm => exact g_hit rfl); (case hv => exact rfl))
  (with_reducible refine is_g ?_); refine o_want rfl ?_
  (with_reducible apply o_quiet); (case hf => exact c_geq_t rfl rfl (by omega))
  (with_reducible apply o_pick_t); (case hc => rfl); (case hv => exact e_bool rfl)
  (with_reducible apply o_quiet); (case hf => exact q_mov (e_bool rfl))
  (with_reducible refine is_g ?_); refine o_want rfl ?_
  (with_reducible apply o_quiet); (case hf => exact q_faddr rfl)
  (with_reducible refine is_g ?_); refine o_want rfl ?_
  (with_reducible apply o_quiet); (case hf => apply q_load1; (case hx => exact e_ptr rfl); (case hm => exact g_hit rfl); (case hv => exact rfl))
  (with_reducible refine is_g ?_); refine o_want rfl ?_
  (with_reducible apply o_quiet); (case hf => exact c_leq_f rfl rfl (by omega))
  (with_reducible apply o_pick_t); (case hc => rfl); (case hv => exact e_bool rfl)
  (with_reducible apply o_quiet); (case hf => exact q_mov (e_bool rfl))
  (with_reducible refine is_g ?_); refine o_pass rfl rfl ?_
  (with_reducible refine is_g ?_); refine o_pass rfl rfl ?_
  (with_reducible refine is_g ?_); refine o_pass rfl rfl ?_
  (with_reducible refine is_g ?_); refine o_pass rfl rfl ?_
  (with_reducible apply o_pick_f); (case hc => rfl); (case hv => exact e_bool rfl)
  (with_reducible apply o_quiet); (case hf => exact q_mov (e_bool rfl))
  (with_reducible refine o_nil ?_)
  (with_reducible refine k_ops ?_)
  (with_reducible refine k_seq_n ?_)
  (with_reducible refine w_ret ?_)
  (with_reducible refine is_b ?_); refine k_body_r rfl ?_
  exact hK _

theorem right_c4 (Y : Ys Prop) (r : Int) (K : V → Mem → Prop) (h1 : 2 ≤ r) (h2 : r ≤ 64) (h3 : r % 2 ≠ 0) (hK : ∀ mm, K (.bool false) mm) :
   body1 pA (callD pA tab0 last0 5) Y c10 [geo 5 4 r] ⟨0, .leaf⟩ K := by
  refine w_body rfl ?_
  refine w_seq ?_
  (with_reducible refine w_ops ?_)
  (with_reducible apply o_alloc); (case hf => exact b_agg rfl)
  (with_reducible apply o_quiet); (case hf => exact q_mov (e_bool rfl))
  (with_reducible refine o_nil ?_)
  (with_reducible refine k_ops ?_)
  (with_reducible refine k_seq_n ?_)
  (with_reducible refine w_seq ?_)
  (with_reducible refine w_ops ?_)
  (with_reducible apply o_quiet); (case hf => exact q_faddr rfl)
  (with_reducible apply o_quiet); (case hf => apply q_load1; (case hx => exact e_ptr rfl); (case hm => exact g_hit rfl); (case hv => exact rfl))
  (with_reducible apply o_quiet); (case hf => exact c_eql_f rfl rfl (by omega))
  (with_reducible apply o_quiet); (case hf => exact q_mov (e_bool rfl))
  (with_reducible refine is_g ?_); refine o_pass rfl rfl ?_
  (with_reducible refine is_g ?_); refine o_pass rfl rfl ?_
  (with_reducible refine is_g ?_); refine o_pass rfl rfl ?_
  (with_reducible apply o_pick_f); (case hc => rfl); (case hv => exact e_bool rfl)
  (with_reducible apply o_quiet); (case hf => exact q_mov (e_bool rfl))
  (with_reducible refine is_g ?_); refine o_want rfl ?_
  (with_reducible apply o_quiet); (case hf => exact q_faddr rfl)
  (with_reducible refine is_g ?_); refine o_want rfl ?_
  (with_reducible apply o_quiet); (case hf => apply q_load1; (case hx => exact e_ptr rfl); (case hm => exact g_hit rfl); (case hv => exact rfl))
  (with_reducible refine is_g ?_); refine o_want rfl ?_
  (with_reducible apply o_quiet); (case hf => exact c_eql_t rfl rfl (by omega))
  (with_reducible refine is_g ?_); refine o_want rfl ?_
  (with_reducible apply o_quiet); (case hf => exact q_mov (e_bool rfl))
  (with_reducible refine is_g ?_); refine o_want rfl ?_
  (with_reducible apply o_quiet); (case hf => exact q_faddr rfl)
  (with_reducible refine is_g ?_); refine o_want rfl ?_
  (with_reducible apply o_quiet); (case hf => apply q_load1; (case hx => exact e_ptr rfl); (case hm => exact g_hit rfl); (case hv => exact rfl))
  (with_reducible refine is_g ?_); refine o_want rfl ?_
  (with_reducible apply o_quiet); (case hf => exact c_eql_f rfl rfl (by omega))
  (with_reducible refine is_g ?_); refine o_want rfl ?_
  (with_reducible apply o_quiet); (case hf => exact q_mov (e_bool rfl))
  (with_reducible refine is_g ?_); refine o_want rfl ?_
  (with_reducible apply o_quiet); (case hf => exact q_faddr rfl)
  (with_reducible refine is_g ?_); refine o_want rfl ?_
  (with_reducible apply o_quiet); (case hf => apply q_load1; (case hx => exact e_ptr rfl); (case hm => exact g_hit rfl); (case hv => exact rfl))
  (with_reducible refine is_g ?_); refine o_want rfl ?_
  (with_reducible apply o_quiet); (case hf => exact c_eql_t rfl rfl (by omega))
  (with_reducible refine is_g ?_); refine o_want rfl ?_
  (with_reducible apply o_pick_f); (case hc => rfl); (case hv => exact e_bool rfl)
  (with_reducible refine is_g ?_); refine o_want rfl ?_
  (with_reducible apply o_pick_t); (case hc => rfl); (case hv => exact e_bool rfl)
  (with_reducible apply o_pick_f); (case hc => rfl); (case hv => exact e_bool rfl)
  (with_reducible apply o_quiet); (case hf => exact q_mov (e_bool rfl))
  (with_reducible refine o_nil ?_)
  (with_reducible refine k_ops ?_)
  (with_reducible refine k_seq_n ?_)
  (with_reducible refine w_seq ?_)
  (with_reducible refine w_ops ?_)
  (with_reducible apply o_quiet); (case hf => exact q_mov (e_bool rfl))
  (with_reducible apply o_quiet); (case hf => exact q_mov (e_bool rfl))
  (with_reducible refine is_g ?_); refine o_want rfl ?_
  (with_reducible apply o_quiet); (case hf => exact q_faddr rfl)
  (with_reducible refine is_g ?_); refine o_want rfl ?_
  (with_reducible apply o_quiet); (case hf => apply q_load1; (case hx => exact e_ptr rfl); (case hm => exact g_hit rfl); (case hv => exact rfl))
  (with_reducible refine is_g ?_); refine o_want rfl ?_
  (with_reducible apply o_quiet); (case hf => exact c_geq_t rfl rfl (by omega))
  (with_reducible apply o_pick_t); (case hc => rfl); (case hv => exact e_bool rfl)
  (with_reducible apply o_quiet); (case hf => exact q_mov (e_bool rfl))
  (with_reducible refine is_g ?_); refine o_want rfl ?_
  (with_reducible apply o_quiet); (case hf => exact q_faddr rfl)
  (with_reducible refine is_g ?_); refine o_want rfl ?_
  (with_reducible apply o_quiet); (case hf => apply q_load1; (case hx => exact e_ptr rfl); (case hm => exact g_hit rfl); (case hv => exact rfl))
  (with_reducible refine is_g ?_); refine o_want rfl ?_
  (with_reducible apply o_quiet); (case hf => exact c_leq_t rfl rfl (by omega))
  (with_reducible apply o_pick_t); (case hc => rfl); (case hv => exact e_bool rfl)
  (with_reducible apply o_quiet); (case hf => exact q_mov (e_bool rfl))
  (with_reducible refine is_g ?_); refine o_want rfl ?_
  (with_reducible apply o_quiet); (case hf => exact q_faddr rfl)
  (with_reducible refine is_g ?_); refine o_want rfl ?_
  (with_reducible apply o_quiet); (case hf => apply q_load1; (case hx => exact e_ptr rfl); (case hm => exact g_hit rfl); (case hv => exact rfl))
  (with_reducible refine is_g ?_); refine o_want rfl ?_
  (with_reducible apply o_quiet); (case hf => exact a_rem rfl rfl (by omega) (by omega) rfl)
  (with_reducible refine is_g ?_); refine o_want rfl ?_
  (with_reducible apply o_quiet); (case hf => exact c_eql_f rfl rfl (by omega))
  (with_reducible apply o_pick_t); (case hc => rfl); (case hv => exact e_bool rfl)
  (with_reducible apply o_quiet); (case hf => exact q_mov (e_bool rfl))
  (with_reducible refine o_nil ?_)
  (with_reducible refine k_ops ?_)
  (with_reducible refine k_seq_n ?_)
  (with_reducible refine w_ret ?_)
  (with_reducible refine is_b ?_); refine k_body_r rfl ?_
  exact hK _

theorem right_n0 (Y : Ys Prop) (l m r : Int) (K : V → Mem → Prop) (h1 : l ≠ 1) (h2 : l ≠ 5) (hK : ∀ mm, K (.bool false) mm) :
   body1 pA (callD pA tab0 last0 5) Y c10 [geo l m r] ⟨0, .leaf⟩ K := by
  refine w_body rfl ?_
  refine w_seq ?_
  (with_reducible refine w_ops ?_)
  (with_reducible apply o_alloc); (case hf => exact b_agg rfl)
  (with_reducible apply o_quiet); (case hf => exact q_mov (e_bool rfl))
  (with_reducible refine o_nil ?_)
  (with_reducible refine k_ops ?_)
  (with_reducible refine k_seq_n ?_)
  (with_reducible refine w_seq ?_)
  (with_reducible refine w_ops ?_)
  (with_reducible apply o_quiet); (case hf => exact q_faddr rfl)
  (with_reducible apply o_quiet); (case hf => apply q_load1; (case hx => exact e_ptr rfl); (case hm => exact g_hit rfl); (case hv => exact rfl))
  (with_reducible apply o_quiet); (case hf => exact c_eql_f rfl rfl (by omega))
  (with_reducible apply o_quiet); (case hf => exact q_mov (e_bool rfl))
  (with_reducible refine is_g ?_); refine o_pass rfl rfl ?_
  (with_reducible refine is_g ?_); refine o_pass rfl rfl ?_
  (with_reducible refine is_g ?_); refine o_pass rfl rfl ?_
  (with_reducible apply o_pick_f); (case hc => rfl); (case hv => exact e_bool rfl)
  (with_reducible apply o_quiet); (case hf => exact q_mov (e_bool rfl))
  (with_reducible refine is_g ?_); refine o_want rfl ?_
  (with_reducible apply o_quiet); (case hf => exact q_faddr rfl)
  (with_reducible refine is_g ?_); refine o_want rfl ?_
  (with_reducible apply o_quiet); (case hf => apply q_load1; (case hx => exact e_ptr rfl); (case hm => exact g_hit rfl); (case hv => exact rfl))
  (with_reducible refine is_g ?_); refine o_want rfl ?_
  (with_reducible apply o_quiet); (case hf => exact c_eql_f rfl rfl (by omega))
  (with_reducible refine is_g ?_); refine o_want rfl ?_
  (with_reducible apply o_quiet); (case hf => exact q_mov (e_bool rfl))
  (with_reducible refine is_g ?_); refine o_pass rfl rfl ?_
  (with_reducible refine is_g ?_); refine o_pass rfl rfl ?_
  (with_reducible refine is_g ?_); refine o_pass rfl rfl ?_
  (with_reducible refine is_g ?_); refine o_pass rfl rfl ?_
  (with_reducible refine is_g ?_); refine o_passu rfl ?_
  (with_reducible refine is_g ?_); refine o_passu rfl ?_
  (with_reducible refine is_g ?_); refine o_passu rfl ?_
  (with_reducible refine is_g ?_); refine o_pass rfl rfl ?_
  (with_reducible refine is_g ?_); refine o_want rfl ?_
  (with_reducible apply o_pick_f); (case hc => rfl); (case hv => exact e_bool rfl)
  (with_reducible apply o_pick_f); (case hc => rfl); (case hv => exact e_bool rfl)
  (with_reducible apply o_quiet); (case hf => exact q_mov (e_bool rfl))
  (with_reducible refine o_nil ?_)
  (with_reducible refine k_ops ?_)
  (with_reducible refine k_seq_n ?_)
  (with_reducible refine w_seq ?_)
  (with_reducible refine w_ops ?_)
  (with_reducible apply o_quiet); (case hf => exact q_mov (e_bool rfl))
  (with_reducible apply o_quiet); (case hf => exact q_mov (e_bool rfl))
  (with_reducible refine is_g ?_); refine o_pass rfl rfl ?_
  (with_reducible refine is_g ?_); refine o_pass rfl rfl ?_
  (with_reducible refine is_g ?_); refine o_pass rfl rfl ?_
  (with_reducible apply o_pick_f); (case hc => rfl); (case hv => exact e_bool rfl)
  (with_reducible apply o_quiet); (case hf => exact q_mov (e_bool rfl))
  (with_reducible refine is_g ?_); refine o_pass rfl rfl ?_
  (with_reducible refine is_g ?_); refine o_pass rfl rfl ?_
  (with_reducible refine is_g ?_); refine o_pass rfl rfl ?_
  (with_reducible apply o_pick_f); (case hc => rfl); (case hv => exact e_bool rfl)
  (with_reducible apply o_quiet); (case hf => exact q_mov (e_bool rfl))
  (with_reducible refine is_g ?_); refine o_pass rfl rfl ?_
  (with_reducible refine is_g ?_); refine o_pass rfl rfl ?_
  (with_reducible refine is_g ?_); refine o_pass rfl rfl ?_
  (with_reducible refine is_g ?_); refine o_pass rfl rfl ?_
  (with_reducible apply o_pick_f); (case hc => rfl); (case hv => exact e_bool rfl)
  (with_reducible apply o_quiet); (case hf => exact q_mov (e_bool rfl))
  (with_reducible refine o_nil ?_)
  (with_reducible refine k_ops ?_)
  (with_reducible refine k_seq_n ?_)
  (with_reducible refine w_ret ?_)
  (with_reducible refine is_b ?_); refine k_body_r rfl ?_
  exact hK _

theorem right_n1 (Y : Ys Prop) (m r : Int) (K : V → Mem → Prop) (h1 : m ≠ 2) (hK : ∀ mm, K (.bool false) mm) :
   body1 pA (callD pA tab0 last0 5) Y c10 [geo 1 m r] ⟨0, .leaf⟩ K := by
  refine w_body rfl ?_
  refine w_seq ?_
  (with_reducible refine w_ops ?_)
  (with_reducible apply o_alloc); (case hf => exact b_agg rfl)
  (with_reducible apply o_quiet); (case hf => exact q_mov (e_bool rfl))
  (with_reducible refine o_nil ?_)
  (with_reducible refine k_ops ?_)
  (with_reducible refine k_seq_n ?_)
  (with_reducible refine w_seq ?_)
  (with_reducible refine w_ops ?_)
  (with_reducible apply o_quiet); (case hf => exact q_faddr rfl)
  (with_reducible apply o_quiet); (case hf => apply q_load1; (case hx => exact e_ptr rfl); (case hm => exact g_hit rfl); (case hv => exact rfl))
  (with_reducible apply o_quiet); (case hf => exact c_eql_t rfl rfl (by omega))
  (with_reducible apply o_quiet); (case hf => exact q_mov (e_bool rfl))
  (with_reducible refine is_g ?_); refine o_want rfl ?_
  (with_reducible apply o_quiet); (case hf => exact q_faddr rfl)
  (with_reducible refine is_g ?_); refine o_want rfl ?_
  (with_reducible apply o_quiet); (case hf => apply q_load1; (case hx => exact e_ptr rfl); (case hm => exact g_hit rfl); (case hv => exact rfl))
  (with_reducible refine is_g ?_); refine o_want rfl ?_
  (with_reducible apply o_quiet); (case hf => exact c_eql_f rfl rfl (by omega))
  (with_reducible apply o_pick_t); (case hc => rfl); (case hv => exact e_bool rfl)
  (with_reducible apply o_quiet); (case hf => exact q_mov (e_bool rfl))
  (with_reducible refine is_g ?_); refine o_want rfl ?_
  (with_reducible apply o_quiet); (case hf => exact q_faddr rfl)
  (with_reducible refine is_g ?_); refine o_want rfl ?_
  (with_reducible apply o_quiet); (case hf => apply q_load1; (case hx => exact e_ptr rfl); (case hm => exact g_hit rfl); (case hv => exact rfl))
  (with_reducible refine is_g ?_); refine o_want rfl ?_
  (with_reducible apply o_quiet); (case hf => exact c_eql_f rfl rfl (by omega))
  (with_reducible refine is_g ?_); refine o_want rfl ?_
  (with_reducible apply o_quiet); (case hf => exact q_mov (e_bool rfl))
  (with_reducible refine is_g ?_); refine o_pass rfl rfl ?_
  (with_reducible refine is_g ?_); refine o_pass rfl rfl ?_
  (with_reducible refine is_g ?_); refine o_pass rfl rfl ?_
  (with_reducible refine is_g ?_); refine o_pass rfl rfl ?_
  (with_reducible refine is_g ?_); refine o_passu rfl ?_
  (with_reducible refine is_g ?_); refine o_passu rfl ?_
  (with_reducible refine is_g ?_); refine o_passu rfl ?_
  (with_reducible refine is_g ?_); refine o_pass rfl rfl ?_
  (with_reducible refine is_g ?_); refine o_want rfl ?_
  (with_reducible apply o_pick_f); (case hc => rfl); (case hv => exact e_bool rfl)
  (with_reducible apply o_pick_f); (case hc => rfl); (case hv => exact e_bool rfl)
  (with_reducible apply o_quiet); (case hf => exact q_mov (e_bool rfl))
  (with_reducible refine o_nil ?_)
  (with_reducible refine k_ops ?_)
  (with_reducible refine k_seq_n ?_)
  (with_reducible refine w_seq ?_)
  (with_reducible refine w_ops ?_)
  (with_reducible apply o_quiet); (case hf => exact q_mov (e_bool rfl))
  (with_reducible apply o_quiet); (case hf => exact q_mov (e_bool rfl))
  (with_reducible refine is_g ?_); refine o_pass rfl rfl ?_
  (with_reducible refine is_g ?_); refine o_pass rfl rfl ?_
  (with_reducible refine is_g ?_); refine o_pass rfl rfl ?_
  (with_reducible apply o_pick_f); (case hc => rfl); (case hv => exact e_bool rfl)
  (with_reducible apply o_quiet); (case hf => exact q_mov (e_bool rfl))
  (with_reducible refine is_g ?_); refine o_pass rfl rfl ?_
  (with_reducible refine is_g ?_); refine o_pass rfl rfl ?_
  (with_reducible refine is_g ?_); refine o_pass rfl rfl ?_
  (with_reducible apply o_pick_f); (case hc => rfl); (case hv => exact e_bool rfl)
  (with_reducible apply o_quiet); (case hf => exact q_mov (e_bool rfl))
  (with_reducible refine is_g ?_); refine o_pass rfl rfl ?_
  (with_reducible refine is_g ?_); refine o_pass rfl rfl ?_
  (with_reducible refine is_g ?_); refine o_pass rfl rfl ?_
  (with_reducible refine is_g ?_); refine o_pass rfl rfl ?_
  (with_reducible apply o_pick_f); (case hc => rfl); (case hv => exact e_bool rfl)
  (with_reducible apply o_quiet); (case hf => exact q_mov (e_bool rfl))
  (with_reducible refine o_nil ?_)
  (with_reducible refine k_ops ?_)
  (with_reducible refine k_seq_n ?_)
  (with_reducible refine w_ret ?_)
  (with_reducible refine is_b ?_); refine k_body_r rfl ?_
  exact hK _

theorem right_n5 (Y : Ys Prop) (m r : Int) (K : V → Mem → Prop) (h1 : m ≠ 3) (h2 : m ≠ 4) (hK : ∀ mm, K (.bool false) mm) :
   body1 pA (callD pA tab0 last0 5) Y c10 [geo 5 m r] ⟨0, .leaf⟩ K := by
  refine w_body rfl ?_
  refine w_seq ?_
  (with_reducible refine w_ops ?_)
  (with_reducible apply o_alloc); (case hf => exact b_agg rfl)
  (with_reducible apply o_quiet); (case hf => exact q_mov (e_bool rfl))
  (with_reducible refine o_nil ?_)
  (with_reducible refine k_ops ?_)
  (with_reducible refine k_seq_n ?_)
  (with_reducible refine w_seq ?_)
  (with_reducible refine w_ops ?_)
  (with_reducible apply o_quiet); (case hf => exact q_faddr rfl)
  (with_reducible apply o_quiet); (case hf => apply q_load1; (case hx => exact e_ptr rfl); (case hm => exact g_hit rfl); (case hv => exact rfl))
  (with_reducible apply o_quiet); (case hf => exact c_eql_f rfl rfl (by omega))
  (with_reducible apply o_quiet); (case hf => exact q_mov (e_bool rfl))
  (with_reducible refine is_g ?_); refine o_pass rfl rfl ?_
  (with_reducible refine is_g ?_); refine o_pass rfl rfl ?_
  (with_reducible refine is_g ?_); refine o_pass rfl rfl ?_
  (with_reducible apply o_pick_f); (case hc => rfl); (case hv => exact e_bool rfl)
  (with_reducible apply o_quiet); (case hf => exact q_mov (e_bool rfl))
  (with_reducible refine is_g ?_); refine o_want rfl ?_
  (with_reducible apply o_quiet); (case hf => exact q_faddr rfl)
  (with_reducible refine is_g ?_); refine o_want rfl ?_
  (with_reducible apply o_quiet); (case hf => apply q_load1; (case hx => exact e_ptr rfl); (case hm => exact g_hit rfl); (case hv => exact rfl))
  (with_reducible refine is_g ?_); refine o_want rfl ?_
  (with_reducible apply o_quiet); (case hf => exact c_eql_t rfl rfl (by omega))
  (with_reducible refine is_g ?_); refine o_want rfl ?_
  (with_reducible apply o_quiet); (case hf => exact q_mov (e_bool rfl))
  (with_reducible refine is_g ?_); refine o_want rfl ?_
  (with_reducible apply o_quiet); (case hf => exact q_faddr rfl)
  (with_reducible refine is_g ?_); refine o_want rfl ?_
  (with_reducible apply o_quiet); (case hf => apply q_load1; (case hx => exact e_ptr rfl); (case hm => exact g_hit rfl); (case hv => exact rfl))
  (with_reducible refine is_g ?_); refine o_want rfl ?_
  (with_reducible apply o_quiet); (case hf => exact c_eql_f rfl rfl (by omega))
  (with_reducible refine is_g ?_); refine o_want rfl ?_
  (with_reducible apply o_quiet); (case hf => exact q_mov (e_bool rfl))
  (with_reducible refine is_g ?_); refine o_want rfl ?_
  (with_reducible apply o_quiet); (case hf => exact q_faddr rfl)
  (with_reducible refine is_g ?_); refine o_want rfl ?_
  (with_reducible apply o_quiet); (case hf => apply q_load1; (case hx => exact e_ptr rfl); (case hm => exact g_hit rfl); (case hv => exact rfl))
  (with_reducible refine is_g ?_); refine o_want rfl ?_
  (with_reducible apply o_quiet); (case hf => exact c_eql_f rfl rfl (by omega))
  (with_reducible refine is_g ?_); refine o_want rfl ?_
  (with_reducible apply o_pick_f); (case hc => rfl); (case hv => exact e_bool rfl)
  (with_reducible refine is_g ?_); refine o_want rfl ?_
  (with_reducible apply o_pick_t); (case hc => rfl); (case hv => exact e_bool rfl)
  (with_reducible apply o_pick_f); (case hc => rfl); (case hv => exact e_bool rfl)
  (with_reducible apply o_quiet); (case hf => exact q_mov (e_bool rfl))
  (with_reducible refine o_nil ?_)
  (with_reducible refine k_ops ?_)
  (with_reducible refine k_seq_n ?_)
  (with_reducible refine w_seq ?_)
  (with_reducible refine w_ops ?_)
  (with_reducible apply o_quiet); (case hf => exact q_mov (e_bool rfl))
  (with_reducible apply o_quiet); (case hf => exact q_mov (e_bool rfl))
  (with_reducible refine is_g ?_); refine o_pass rfl rfl ?_
  (with_reducible refine is_g ?_); refine o_pass rfl rfl ?_
  (with_reducible refine is_g ?_); refine o_pass rfl rfl ?_
  (with_reducible apply o_pick_f); (case hc => rfl); (case hv => exact e_bool rfl)
  (with_reducible apply o_quiet); (case hf => exact q_mov (e_bool rfl))
  (with_reducible refine is_g ?_); refine o_pass rfl rfl ?_
  (with_reducible refine is_g ?_); refine o_pass rfl rfl ?_
  (with_reducible refine is_g ?_); refine o_pass rfl rfl ?_
  (with_reducible apply o_pick_f); (case hc => rfl); (case hv => exact e_bool rfl)
  (with_reducible apply o_quiet); (case hf => exact q_mov (e_bool rfl))
  (with_reducible refine is_g ?_); refine o_pass rfl rfl ?_
  (with_reducible refine is_g ?_); refine o_pass rfl rfl ?_
  (with_reducible refine is_g ?_); refine o_pass rfl rfl ?_
  (with_reducible refine is_g ?_); refine o_pass rfl rfl ?_
  (with_reducible apply o_pick_f); (case hc => rfl); (case hv => exact e_bool rfl)
  (with_reducible apply o_quiet); (case hf => exact q_mov (e_bool rfl))
  (with_reducible refine o_nil ?_)
  (with_reducible refine k_ops ?_)
  (with_reducible refine k_seq_n ?_)
  (with_reducible refine w_ret ?_)
  (with_reducible refine is_b ?_); refine k_body_r rfl ?_
  exact hK _

theorem right_walk (Y : Ys Prop) (l m r : Int) (K : V → Mem → Prop) (hK : ∀ mm, K (.bool (rightB l m r)) mm) : body1 pA (callD pA tab0 last0 5) Y c10 [geo l m r] ⟨0, .leaf⟩ K := by
  by_cases h1 : l = 1
  · subst h1
    by_cases h2 : m = 2
    · subst h2
      by_cases a : r < 2
      · exact right_a2 Y r K a fun mm => by simpa [rightB, shapeB, show ¬ 2 ≤ r by omega] using hK mm
      by_cases b : 64 < r
      · exact right_b2 Y r K b fun mm => by simpa [rightB, shapeB, show ¬ r ≤ 64 by omega] using hK mm
      by_cases c : r % 2 = 0
      · exact right_y2 Y r K (by omega) (by omega) c fun mm => by simpa [rightB, shapeB, show 2 ≤ r by omega, show r ≤ 64 by omega, c] using hK mm
      · exact right_c2 Y r K (by omega) (by omega) c fun mm => by simpa [rightB, shapeB, show 2 ≤ r by omega, show r ≤ 64 by omega, c] using hK mm
    · exact right_n1 Y m r K h2 fun mm => by simpa [rightB, shapeB, h2] using hK mm
  by_cases h5 : l = 5
  · subst h5
    by_cases h2 : m = 3
    · subst h2
      by_cases a : r < 2
      · exact right_a3 Y r K a fun mm => by simpa [rightB, shapeB, show ¬ 2 ≤ r by omega] using hK mm
      by_cases b : 64 < r
      · exact right_b3 Y r K b fun mm => by simpa [rightB, shapeB, show ¬ r ≤ 64 by omega] using hK mm
      by_cases c : r % 2 = 0
      · exact right_y3 Y r K (by omega) (by omega) c fun mm => by simpa [rightB, shapeB, show 2 ≤ r by omega, show r ≤ 64 by omega, c] using hK mm
      · exact right_c3 Y r K (by omega) (by omega) c fun mm => by simpa [rightB, shapeB, show 2 ≤ r by omega, show r ≤ 64 by omega, c] using hK mm
    by_cases h4 : m = 4
    · subst h4
      by_cases a : r < 2
      · exact right_a4 Y r K a fun mm => by simpa [rightB, shapeB, show ¬ 2 ≤ r by omega] using hK mm
      by_cases b : 64 < r
      · exact right_b4 Y r K b fun mm => by simpa [rightB, shapeB, show ¬ r ≤ 64 by omega] using hK mm
      by_cases c : r % 2 = 0
      · exact right_y4 Y r K (by omega) (by omega) c fun mm => by simpa [rightB, shapeB, show 2 ≤ r by omega, show r ≤ 64 by omega, c] using hK mm
      · exact right_c4 Y r K (by omega) (by omega) c fun mm => by simpa [rightB, shapeB, show 2 ≤ r by omega, show r ≤ 64 by omega, c] using hK mm
    · exact right_n5 Y m r K h2 h4 fun mm => by simpa [rightB, shapeB, h2, h4] using hK mm
  · exact right_n0 Y l m r K h1 h5 fun mm => by simpa [rightB, shapeB, h1, h5] using hK mm

end Go.Proofs.Ytefklpegpecliaa
